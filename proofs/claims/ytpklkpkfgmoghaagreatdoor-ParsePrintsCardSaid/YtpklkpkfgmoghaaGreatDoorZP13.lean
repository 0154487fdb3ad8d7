/- Contracts: branches. -/
import Derived.Test.YtpklkpkfgmoghaaGreatDoorZP10
set_option linter.unnecessarySimpa false
set_option linter.unusedVariables false
set_option linter.unusedSimpArgs false
set_option maxRecDepth 20000
namespace Go.Proofs.YtpklkpkfgmoghaaGreatDoor.Zz
noncomputable section
def YP:b7:=⟨⟨[(3,4)],[(1,1),(2,2),(3,1),(3,3),(5,1),(6,1),(7,2),(8,1),(4,3)],[],[((4,3),[(.t 3)])],[((4,1),(.t 3))],[]⟩,[(4,[0,1,2,3,4,5,6,7])],[],false⟩
def TI:dA:=
 sO [oA 2]
 (.seq (sO [oM 0 5,
 oC 84 [.t 5] 6]
 (.defer (.t 6) []))
 (sO [oM 0 7,
 oP (.build zN [(0,1,(kI 9))]) 8,
 oC 35 [.t 7,.t 8] 9,
 oA 3,
 oS 5 3 9]
 (sO [oM 0 10,
 oC 102 [.t 10,kI 0] 11,
 oM 0 12,
 oC 62 [.t 12] 13,
 oQ (.buildSlice 5 zN 2 [(0,(.t 11)),(1,(.t 13))] true) 14,
 oF 4 3 15,
 oS 1 15 14]
 (.seq (.block 0 (sO [oM 0 24,
 oC 57 [.t 24,(kS [101,108,115,101])] 25,
 oP (.un .not (.t 25)) 26,
 oM 26 23]
 (.cond (.t 23)
 (.skip)
 (sO [oM 0 28,
 oC 57 [.t 28,(kS [105,102])] 29,
 oM 29 27]
 (.cond (.t 27)
 (sO [oM 0 30,
 oP (.build zN [(0,1,(kI 6))]) 31,
 oC 35 [.t 30,.t 31] 32,
 oA 4,
 oS 5 4 32]
 (sO [oM 0 33,
 oC 101 [.t 33] 34,
 oP (.buildSlice 5 zN 1 [(0,(.t 34))] false) 35,
 oF 4 4 36,
 oS 1 36 35]
 (.ops [oF 4 3 37,
 oL 37 38,
 oJ 5 4 39,
 oP (.buildSlice 5 zN 1 [(0,(.t 39))] false) 40,
 oQ (.append 5 64 false (.t 38) (.t 40)) 41,
 oF 4 3 42,
 oS 1 42 41])))
 (.fq 16 [oF 4 3 16,
 oQ (.cK none (.t 16) (.t 3)) 17,
 oM 0 18,
 oQ (.callNe (.f 62) [(.t 18)] [(.t 3)]) 19,
 oP (.buildSlice 5 zN 1 [(0,(.t 19))] false) 20,
 oQ (.append 5 64 false (.t 17) (.t 20)) 21,
 oF 4 3 22,
 oS 1 22 21]))))))
 (sO [oJ 5 3 43,
 oS 5 2 43]
 (.ret))))))
theorem Wy:bE Tryz.prog 101 YP=some (TI,[.cell 2 (some 5)],44):=by kernel_rfl
set_option maxHeartbeats 1000000 in
theorem Mp (G:List Tok→dU) (hG:∀l,mW (G l)) (hT:(xx G).ok Tryz.prog) (l:List Tok) (hl:uw l) (s:PS) (i1:Nat) (ok:cB l s) (K0:Nd→PS→Prop) (E0:Int→Int→Prop) (hw:jA (oh l (G l) s) (fun x s'=>cB l s'→K0 x s') E0):aO Tryz.prog 101 [.ptr i1 1 0] (aa.emp.set i1 (bV l s)) (ly cz l i1 K0 E0):=by
 refine aO.c8 hT (dc:=yc) vf (by kernel_rfl) Wy (by simp) ?_
 rw [dz]
 have hp:=fun (h:aa) (j:Nat) (B C:cI)=>push_id (id:=i1) h j B C
 have w1:IntKind.i64.wrap (s.deep+1)=s.deep+1:=wrap_i64 (by have:=ok.d0; omega) (by have:=ok.d1; omega)
 unfold oh kP TA at hw
 rw [aE] at hw
 simp (maxSteps:=1000000) only [TI,D0,bV,aC,an,aB,seval]
 intro i2 al ak i3 av ar au aq
 by_cases c:s.deep+1>40
 ·have g:(s.deep+1>40)=True:=eq_true c
  rw [if_pos c] at hw
  simp (maxSteps:=1000000) only [g,w1,hp,al,ak,av,ar,au,aq,ao,aw,ah,aj,aD,aU,aW,ag,ae,ab,af,ax,aC,an,aB,seval]
  refine ⟨l,{ s with deep:=s.deep+1 },i1,3,rfl,by simp [bV,al,ak,av,ar,au,aq],ok.at_,?_⟩
  simp only [Dt,bu,true_and]
  refine ⟨rfl,?_⟩
  show eJ yc [] (some (mN _ 3)) _ _
  simp only [ab,ax]
  exact aA (s':={ s with deep:=s.deep+1 }) (by simp [bV,al,ak,av,ar,au,aq]) hw
 ·have g:(s.deep+1>40)=False:=eq_false c
  rw [if_neg c,b_] at hw
  have QO:=vj ok c
  simp only [Gm,aE,b_] at hw
  simp (maxSteps:=1000000) only [g,w1,hp,al,ak,av,ar,au,aq,ao,aw,ah,aj,aD,aU,aW,ag,ae,ab,af,ax,aC,an,aB,seval]
  generalize CT:({ s with deep:=s.deep+1 }:PS)=sd at*
  have QH:sd.deep=s.deep+1:=by rw [←CT]
  refine .inl ⟨l,sd,i1,.mk 9 0 [] 0 [],by simp only [aR,bt],hl.lo,by rw [←CT]; simp [bV,al,ak,av,ar,au,aq],QO,ay (fun n bZ e1 k gg=>?_) (fun a e k s'=>?_) hw⟩
  case refine_2=>
   simp only [bu,af,ab,List.nil_append,List.append_nil]
   refine ⟨rfl,i3,i1,l,s',rfl,by simp [al,ak,av,ar,au,aq],by simp [al,ak,av,ar,au,aq],?_⟩
   simp only [ax]
   exact aA (s':={ s' with deep:=IntKind.i64.wrap (s'.deep - 1) }) (by simp [al,ak,av,ar,au,aq]) k
  have d1:bZ.deep=s.deep+1:=(bT _ _ e1).trans QH
  obtain ⟨nk,nt,ns,nm,nl⟩:=n
  simp (maxSteps:=1000000) only [cz,aR,hp,al,ak,av,ar,au,aq,ao,aw,ah,aj,aD,aU,aW,ag,ae,ab,af,ax,aC,an,aB,seval]
  intro i4 aH aK aG aJ aF aI
  refine ⟨l,bZ,i1,0,rfl,hl,(by simp [al,ak,av,ar,au,aq,aH,aK,aG,aJ,aF,aI]),gg,ay (fun x dT e2 k jV=>?_) (fun a e k s'=>?_) k⟩
  case refine_2=>
   simp only [bu,af,ab,List.nil_append,List.append_nil]
   refine ⟨rfl,i3,i1,l,s',rfl,by simp [al,ak,av,ar,au,aq,aH,aK,aG,aJ,aF,aI],by simp [al,ak,av,ar,au,aq,aH,aK,aG,aJ,aF,aI],?_⟩
   simp only [ax]
   exact aA (s':={ s' with deep:=IntKind.i64.wrap (s'.deep - 1) }) (by simp [al,ak,av,ar,au,aq,aH,aK,aG,aJ,aF,aI]) k
  have d2:dT.deep=s.deep+1:=((hG l).expr _ _ _ _ e2).trans d1
  simp (maxSteps:=1000000) only [cz,hp,al,ak,av,ar,au,aq,aH,aK,aG,aJ,aF,aI,ao,aw,ah,aj,aD,aU,aW,ag,ae,ab,af,ax,aC,an,aB,seval]
  refine ⟨l,dT,i1,rfl,hl,(by simp [al,ak,av,ar,au,aq,aH,aK,aG,aJ,aF,aI]),jV,ay (fun y ez e3 k mQ=>?_) (fun a e k s'=>?_) k⟩
  case refine_2=>
   simp only [bu,af,ab,List.nil_append,List.append_nil]
   refine ⟨rfl,i3,i1,l,s',rfl,by simp [al,ak,av,ar,au,aq,aH,aK,aG,aJ,aF,aI],by simp [al,ak,av,ar,au,aq,aH,aK,aG,aJ,aF,aI],?_⟩
   simp only [ax]
   exact aA (s':={ s' with deep:=IntKind.i64.wrap (s'.deep - 1) }) (by simp [al,ak,av,ar,au,aq,aH,aK,aG,aJ,aF,aI]) k
  have d3:ez.deep=s.deep+1:=((hG l).block _ _ _ e3).trans d2
  simp (maxSteps:=1000000) only [cz,hp,al,ak,av,ar,au,aq,aH,aK,aG,aJ,aF,aI,ao,aw,ah,aj,aD,aU,aW,ag,ae,ab,af,ax,aC,an,aB,seval]
  intro i5 bq bC bp bB bo bA bn bz
  simp (maxSteps:=1000000) only [hp,al,ak,av,ar,au,aq,aH,aK,aG,aJ,aF,aI,bq,bC,bp,bB,bo,bA,bn,bz,ao,aw,ah,aj,aD,aU,aW,ag,ae,ab,af,ax,aC,an,aB,seval]
  have fin:∀(n:Nd) (s':PS),cB l s'→s'.deep=s.deep+1→(cB l { s' with deep:=s'.deep - 1 }→K0 n { s' with deep:=s'.deep - 1 })→K0 n { s' with deep:=s'.deep - 1 }∧IntKind.i64.wrap (s'.deep - 1)=s'.deep - 1:=fun n s' o d h=>⟨h (hO ok o d).1,(hO ok o d).2⟩
  refine ⟨l,ez,i1,jM,rfl,hl.lo,(by simp [al,ak,av,ar,au,aq,aH,aK,aG,aJ,aF,aI,bq,bC,bp,bB,bo,bA,bn,bz]),mQ,ay (fun b mK e4 k uq=>?_) (fun a e k s'=>?_) k⟩
  case refine_2=>
   simp only [bu,af,ab,List.nil_append,List.append_nil]
   refine ⟨rfl,i3,i1,l,s',rfl,by simp [al,ak,av,ar,au,aq,aH,aK,aG,aJ,aF,aI,bq,bC,bp,bB,bo,bA,bn,bz],by simp [al,ak,av,ar,au,aq,aH,aK,aG,aJ,aF,aI,bq,bC,bp,bB,bo,bA,bn,bz],?_⟩
   simp only [ax]
   exact aA (s':={ s' with deep:=IntKind.i64.wrap (s'.deep - 1) }) (by simp [al,ak,av,ar,au,aq,aH,aK,aG,aJ,aF,aI,bq,bC,bp,bB,bo,bA,bn,bz]) k
  have d4:mK.deep=s.deep+1:=(bD _ _ e4).trans d3
  cases b with
  | false=>
   rw [Bool.not_false,cond_true,b_] at k
   obtain ⟨k,wd⟩:=fin _ mK uq d4 k
   simp (maxSteps:=1000000) only [Bool.not_false,hp,al,ak,av,ar,au,aq,aH,aK,aG,aJ,aF,aI,bq,bC,bp,bB,bo,bA,bn,bz,ao,aw,ah,aj,aD,aU,aW,ag,ae,ab,af,ax,aC,an,aB,seval]
   refine ⟨rfl,i3,i1,l,mK,rfl,(by simp [al,ak,av,ar,au,aq,aH,aK,aG,aJ,aF,aI,bq,bC,bp,bB,bo,bA,bn,bz]),(by simp [al,ak,av,ar,au,aq,aH,aK,aG,aJ,aF,aI,bq,bC,bp,bB,bo,bA,bn,bz]),?_⟩
   rw [wd]
   simp (maxSteps:=1000000) only [hp,al,ak,av,ar,au,aq,aH,aK,aG,aJ,aF,aI,bq,bC,bp,bB,bo,bA,bn,bz,ao,aw,ah,aj,aD,aU,aW,ag,ae,ab,af,ax,aC,an,aB,seval]
   exact fK (x:=.mk nk nt ns nm [x,y]) (s':={ mK with deep:=mK.deep - 1 }) (by rw [cz,aR,cj,cj,bt]) (by simp [al,ak,av,ar,au,aq,aH,aK,aG,aJ,aF,aI,bq,bC,bp,bB,bo,bA,bn,bz]) k
  | true=>
   rw [Bool.not_true,cond_false,aE] at k
   simp (maxSteps:=1000000) only [Bool.not_true,hp,al,ak,av,ar,au,aq,aH,aK,aG,aJ,aF,aI,bq,bC,bp,bB,bo,bA,bn,bz,ao,aw,ah,aj,aD,aU,aW,ag,ae,ab,af,ax,aC,an,aB,seval]
   refine ⟨l,mK,i1,Fq,rfl,hl.lo,(by simp [al,ak,av,ar,au,aq,aH,aK,aG,aJ,aF,aI,bq,bC,bp,bB,bo,bA,bn,bz]),uq,ay (fun b xw e5 k Dm=>?_) (fun a e k s'=>?_) k⟩
   case refine_2=>
    simp only [bu,af,ab,List.nil_append,List.append_nil]
    refine ⟨rfl,i3,i1,l,s',rfl,by simp [al,ak,av,ar,au,aq,aH,aK,aG,aJ,aF,aI,bq,bC,bp,bB,bo,bA,bn,bz],by simp [al,ak,av,ar,au,aq,aH,aK,aG,aJ,aF,aI,bq,bC,bp,bB,bo,bA,bn,bz],?_⟩
    simp only [ax]
    exact aA (s':={ s' with deep:=IntKind.i64.wrap (s'.deep - 1) }) (by simp [al,ak,av,ar,au,aq,aH,aK,aG,aJ,aF,aI,bq,bC,bp,bB,bo,bA,bn,bz]) k
   have d5:xw.deep=s.deep+1:=(bD _ _ e5).trans d4
   cases b with
   | true=>
    rw [cond_true,aE] at k
    simp (maxSteps:=1000000) only [hp,al,ak,av,ar,au,aq,aH,aK,aG,aJ,aF,aI,bq,bC,bp,bB,bo,bA,bn,bz,ao,aw,ah,aj,aD,aU,aW,ag,ae,ab,af,ax,aC,an,aB,seval]
    refine .inl ⟨l,xw,i1,.mk 6 0 [] 0 [],by simp only [aR,bt],hl.lo,(by simp [al,ak,av,ar,au,aq,aH,aK,aG,aJ,aF,aI,bq,bC,bp,bB,bo,bA,bn,bz]),Dm,ay (fun m wF e6 k Lq=>?_) (fun a e k s'=>?_) k⟩
    case refine_2=>
     simp only [bu,af,ab,List.nil_append,List.append_nil]
     refine ⟨rfl,i3,i1,l,s',rfl,by simp [al,ak,av,ar,au,aq,aH,aK,aG,aJ,aF,aI,bq,bC,bp,bB,bo,bA,bn,bz],by simp [al,ak,av,ar,au,aq,aH,aK,aG,aJ,aF,aI,bq,bC,bp,bB,bo,bA,bn,bz],?_⟩
     simp only [ax]
     exact aA (s':={ s' with deep:=IntKind.i64.wrap (s'.deep - 1) }) (by simp [al,ak,av,ar,au,aq,aH,aK,aG,aJ,aF,aI,bq,bC,bp,bB,bo,bA,bn,bz]) k
    have d6:wF.deep=s.deep+1:=(bT _ _ e6).trans d5
    obtain ⟨mk,mt,ms,mm,ml⟩:=m
    rw [aE] at k
    simp (maxSteps:=1000000) only [cz,aR,hp,al,ak,av,ar,au,aq,aH,aK,aG,aJ,aF,aI,bq,bC,bp,bB,bo,bA,bn,bz,ao,aw,ah,aj,aD,aU,aW,ag,ae,ab,af,ax,aC,an,aB,seval]
    intro i6 Aq AB Ar AD _ _ Ap AA Ao Az An Ay
    refine ⟨l,wF,i1,rfl,hl,(by simp [al,ak,av,ar,au,aq,aH,aK,aG,aJ,aF,aI,bq,bC,bp,bB,bo,bA,bn,bz,Ar,AD,Aq,AB,Ap,AA,Ao,Az,An,Ay]),Lq,ay (fun z BK e7 k Xr=>?_) (fun a e k s'=>?_) k⟩
    case refine_2=>
     simp only [bu,af,ab,List.nil_append,List.append_nil]
     refine ⟨rfl,i3,i1,l,s',rfl,by simp [al,ak,av,ar,au,aq,aH,aK,aG,aJ,aF,aI,bq,bC,bp,bB,bo,bA,bn,bz,Ar,AD,Aq,AB,Ap,AA,Ao,Az,An,Ay],by simp [al,ak,av,ar,au,aq,aH,aK,aG,aJ,aF,aI,bq,bC,bp,bB,bo,bA,bn,bz,Ar,AD,Aq,AB,Ap,AA,Ao,Az,An,Ay],?_⟩
     simp only [ax]
     exact aA (s':={ s' with deep:=IntKind.i64.wrap (s'.deep - 1) }) (by simp [al,ak,av,ar,au,aq,aH,aK,aG,aJ,aF,aI,bq,bC,bp,bB,bo,bA,bn,bz,Ar,AD,Aq,AB,Ap,AA,Ao,Az,An,Ay]) k
    have d7:BK.deep=s.deep+1:=((hG l).branch _ _ _ e7).trans d6
    rw [b_] at k
    obtain ⟨k,wd⟩:=fin _ BK Xr d7 k
    simp (maxSteps:=1000000) only [cz,hp,al,ak,av,ar,au,aq,aH,aK,aG,aJ,aF,aI,bq,bC,bp,bB,bo,bA,bn,bz,Ar,AD,Aq,AB,Ap,AA,Ao,Az,An,Ay,ao,aw,ah,aj,aD,aU,aW,ag,ae,ab,af,ax,aC,an,aB,seval]
    refine ⟨rfl,i3,i1,l,BK,rfl,(by simp [al,ak,av,ar,au,aq,aH,aK,aG,aJ,aF,aI,bq,bC,bp,bB,bo,bA,bn,bz,Ar,AD,Aq,AB,Ap,AA,Ao,Az,An,Ay]),(by simp [al,ak,av,ar,au,aq,aH,aK,aG,aJ,aF,aI,bq,bC,bp,bB,bo,bA,bn,bz,Ar,AD,Aq,AB,Ap,AA,Ao,Az,An,Ay]),?_⟩
    rw [wd]
    simp (maxSteps:=1000000) only [hp,al,ak,av,ar,au,aq,aH,aK,aG,aJ,aF,aI,bq,bC,bp,bB,bo,bA,bn,bz,Ar,AD,Aq,AB,Ap,AA,Ao,Az,An,Ay,ao,aw,ah,aj,aD,aU,aW,ag,ae,ab,af,ax,aC,an,aB,seval]
    exact fK (x:=.mk nk nt ns nm [x,y,.mk mk mt ms mm [z]]) (s':={ BK with deep:=BK.deep - 1 }) (by simp only [cz,aR,cj,bt]) (by simp [al,ak,av,ar,au,aq,aH,aK,aG,aJ,aF,aI,bq,bC,bp,bB,bo,bA,bn,bz,Ar,AD,Aq,AB,Ap,AA,Ao,Az,An,Ay]) k
   | false=>
    rw [cond_false,aE] at k
    simp (maxSteps:=1000000) only [hp,al,ak,av,ar,au,aq,aH,aK,aG,aJ,aF,aI,bq,bC,bp,bB,bo,bA,bn,bz,ao,aw,ah,aj,aD,aU,aW,ag,ae,ab,af,ax,aC,an,aB,seval]
    refine ⟨l,xw,i1,rfl,hl,(by simp [al,ak,av,ar,au,aq,aH,aK,aG,aJ,aF,aI,bq,bC,bp,bB,bo,bA,bn,bz]),Dm,ay (fun z wF e6 k Lq=>?_) (fun a e k s'=>?_) k⟩
    case refine_2=>
     intro σ hσ _
     simp only [bu]
     rw [hσ]
     show eJ yc [⟨.func 100,[.ptr i3 1 0],[]⟩] _ _ _
     simp only [af,ab,List.nil_append]
     refine ⟨rfl,i3,i1,l,s',rfl,by simp [al,ak,av,ar,au,aq,aH,aK,aG,aJ,aF,aI,bq,bC,bp,bB,bo,bA,bn,bz],by simp [al,ak,av,ar,au,aq,aH,aK,aG,aJ,aF,aI,bq,bC,bp,bB,bo,bA,bn,bz],?_⟩
     simp only [ax]
     exact aA (s':={ s' with deep:=IntKind.i64.wrap (s'.deep - 1) }) (by simp [al,ak,av,ar,au,aq,aH,aK,aG,aJ,aF,aI,bq,bC,bp,bB,bo,bA,bn,bz]) k
    have d6:wF.deep=s.deep+1:=((hG l).block _ _ _ e6).trans d5
    rw [b_] at k
    obtain ⟨k,wd⟩:=fin _ wF Lq d6 k
    simp (maxSteps:=1000000) only [cz,hp,al,ak,av,ar,au,aq,aH,aK,aG,aJ,aF,aI,bq,bC,bp,bB,bo,bA,bn,bz,ao,aw,ah,aj,aD,aU,aW,ag,ae,ab,af,ax,aC,an,aB,seval]
    refine ⟨rfl,i3,i1,l,wF,rfl,(by simp [al,ak,av,ar,au,aq,aH,aK,aG,aJ,aF,aI,bq,bC,bp,bB,bo,bA,bn,bz]),(by simp [al,ak,av,ar,au,aq,aH,aK,aG,aJ,aF,aI,bq,bC,bp,bB,bo,bA,bn,bz]),?_⟩
    rw [wd]
    simp (maxSteps:=1000000) only [hp,al,ak,av,ar,au,aq,aH,aK,aG,aJ,aF,aI,bq,bC,bp,bB,bo,bA,bn,bz,ao,aw,ah,aj,aD,aU,aW,ag,ae,ab,af,ax,aC,an,aB,seval]
    exact fK (x:=.mk nk nt ns nm [x,y,z]) (s':={ wF with deep:=wF.deep - 1 }) (by simp only [cz,aR,cj,bt]) (by simp [al,ak,av,ar,au,aq,aH,aK,aG,aJ,aF,aI,bq,bC,bp,bB,bo,bA,bn,bz]) k
end
end Go.Proofs.YtpklkpkfgmoghaaGreatDoor.Zz
namespace Go.Proofs.YtpklkpkfgmoghaaGreatDoor.Zz
noncomputable section
theorem rV {α:Type} {enc:α→D} {l:List Tok} {s:PS} {id:Nat} {h:aa} {K E:D→aa→Prop} {sp:PS→PR α} (e:sp s=.out) (c:cP sp enc l s id h K E):False:=by
 obtain ⟨_,_,c⟩:=c
 rw [e] at c
 exact c
theorem GW:∀f:Nat,(xx fun l=>mV l f).ok Tryz.prog
 | 0=>by
  refine bf.cD (bf.cD (bf.cD (bf.cD (bf.cD (bf.cD EH ?_) ?_) ?_) ?_) ?_) ?_
  ·rintro args h K E ⟨l,s,id,k,rfl,hl,c⟩; exact (rV rfl c).elim
  ·rintro args h K E ⟨l,s,id,rfl,hl,c⟩; exact (rV rfl c).elim
  ·rintro args h K E ⟨l,s,id,k,rfl,hl,c⟩; exact (rV rfl c).elim
  ·rintro args h K E ⟨l,s,id,rfl,hl,c⟩; exact (rV rfl c).elim
  ·rintro args h K E ⟨l,s,id,rfl,hl,c⟩; exact (rV rfl c).elim
  ·rintro args h K E ⟨l,s,id,rfl,hl,c⟩; exact (rV rfl c).elim
 | f+1=>by
  have hT:=GW f
  have hG:∀l,mW (mV l f):=fun l=>r9 l f
  refine bf.cD (bf.cD (bf.cD (bf.cD (bf.cD (bf.cD EH ?_) ?_) ?_) ?_) ?_) ?_
  ·rintro args h K E ⟨l,s,id,k,rfl,hl,c⟩
   exact ji (fun ok K0 E0 hw=>U1 (fun l=>mV l f) hG hT l hl s id k ok K0 E0 hw) c
  ·rintro args h K E ⟨l,s,id,rfl,hl,c⟩
   exact ji (fun ok K0 E0 hw=>SV (fun l=>mV l f) hG hT l hl s id ok K0 E0 hw) c
  ·rintro args h K E ⟨l,s,id,x,rfl,hl,c⟩
   exact ji (fun ok K0 E0 hw=>US (fun l=>mV l f) hG hT l hl s id x ok K0 E0 hw) c
  ·rintro args h K E ⟨l,s,id,rfl,hl,c⟩
   exact ji (fun ok K0 E0 hw=>QX (fun l=>mV l f) hG hT l hl s id ok K0 E0 hw) c
  ·rintro args h K E ⟨l,s,id,rfl,hl,c⟩
   exact ji (fun ok K0 E0 hw=>WL (fun l=>mV l f) hG hT l hl s id ok K0 E0 hw) c
  ·rintro args h K E ⟨l,s,id,rfl,hl,c⟩
   exact ji (fun ok K0 E0 hw=>Mp (fun l=>mV l f) hG hT l hl s id ok K0 E0 hw) c
end
end Go.Proofs.YtpklkpkfgmoghaaGreatDoor.Zz
namespace Go.Proofs.YtpklkpkfgmoghaaGreatDoor.Zz
noncomputable section
def acL:b7:=⟨⟨[(12,4)],[(1,1),(2,2),(2,4),(2,6),(3,1),(4,1),(5,1),(7,1),(8,2),(8,4),(9,1),(11,1),(12,2),(12,4),(13,1),(14,1),(16,1),(18,1),(19,4),(19,6),(19,8),(20,1),(21,3)],[],[((19,4),[(.t 5)]),((19,6),[(.t 5)]),((19,8),[(.t 5)]),((21,3),[(.t 5)])],[((19,1),(.t 5)),((21,1),(.t 5))],[]⟩,[(19,[0,1,2,3,5,4,6,7,8,9,10,11,12]),(21,[0,1,2,3,4,5,6,7])],[],false⟩
def Zt:dA:=
 sO [oA 2]
 (.seq (.block 0 (sO [oM 0 7,
 oC 57 [.t 7,(kS [118,97,114])] 8,
 oM 8 6]
 (.cond (.t 6)
 (sO [oM 0 9,
 oM 0 10,
 oC 58 [.t 10] 11,
 oM 0 12,
 oC 59 [.t 12] 13,
 oP (.build zN [(0,1,(kI 2)),(2,1,(.t 11)),(1,1,(.t 13))]) 14,
 oC 35 [.t 9,.t 14] 15,
 oA 3,
 oS 5 3 15]
 (sO [oM 0 16,
 oC 60 [.t 16,kS [61]] 17]
 (sO [oM 0 18,
 oC 61 [.t 18] 19,
 oP (.buildSlice 5 zN 1 [(0,(.t 19))] false) 20,
 oF 4 3 21,
 oS 1 21 20]
 (sO [oM 0 22,
 oC 60 [.t 22,kS [59]] 23]
 (sO [oJ 5 3 24,
 oS 5 2 24]
 (.ret))))))
 (sO [oM 0 26,
 oC 57 [.t 26,(kS [116,101,115,116])] 27,
 oM 27 25]
 (.cond (.t 25)
 (sO [oM 0 28,
 oM 0 29,
 oC 58 [.t 29] 30,
 oP (.build zN [(0,1,(kI 4)),(2,1,(.t 30))]) 31,
 oC 35 [.t 28,.t 31] 32,
 oA 4,
 oS 5 4 32]
 (sO [oM 0 33,
 oC 62 [.t 33] 34,
 oP (.buildSlice 5 zN 1 [(0,(.t 34))] false) 35,
 oF 4 4 36,
 oS 1 36 35]
 (sO [oJ 5 4 37,
 oS 5 2 37]
 (.ret))))
 (.skip))))))
 (sO [oM 0 38,
 oC 60 [.t 38,(kS [102,117,110,99])] 39]
 (sO [oM 0 40,
 oM 0 41,
 oC 58 [.t 41] 42,
 oP (.build zN [(0,1,(kI 3)),(2,1,(.t 42))]) 43,
 oQ (.callR (.f 35) [(.t 40),(.t 43)]) 44,
 oA 5,
 oS 5 5 44]
 (sO [oM 0 45,
 oC 60 [.t 45,kS [40]] 46]
 (.seq (.block 1 (.loop (.seq (sO [oM 0 47,
 oC 57 [.t 47,kS [41]] 48,
 oP (.un .not (.t 48)) 49]
 (.cond (.t 49)
 (.skip)
 (.exit 1)))
 (.block 2 (.seq (sO [oF 4 5 50,
 oL 50 51,
 oZ 51 52,
 oH .gtr 52 0 53]
 (.cond (.t 53)
 (.ops [oM 0 54,
 oC 60 [.t 54,kS [44]] 55])
 (.skip)))
 (.seq (sO [oF 4 5 56,
 oL 56 57,
 oZ 57 58,
 oH .geq 58 6 59]
 (.cond (.t 59)
 (.ops [oM 0 60,
 oC 38 [.t 60,kI 3] 61])
 (.skip)))
 (.fq 62 [oF 4 5 62,
 oQ (.cK none (.t 62) (.t 5)) 63,
 oM 0 64,
 oM 0 65,
 oM 0 67,
 oQ (.callNe (.f 58) [(.t 65)] [(.t 5)]) 66,
 oQ (.callNe (.f 59) [(.t 67)] [(.t 5)]) 68,
 oP (.build zN [(0,1,(kI 5)),(2,1,(.t 66)),(1,1,(.t 68))]) 69,
 oQ (.callNe (.f 35) [(.t 64),(.t 69)] [(.t 5)]) 70,
 oP (.buildSlice 5 zN 1 [(0,(.t 70))] false) 71,
 oQ (.append 5 64 false (.t 63) (.t 71)) 72,
 oF 4 5 73,
 oS 1 73 72])))))))
 (sO [oM 0 74,
 oC 59 [.t 74] 75,
 oF 1 5 76,
 oS 1 76 75]
 (.seq (.fq 77 [oF 4 5 77,
 oQ (.cK none (.t 77) (.t 5)) 78,
 oM 0 79,
 oQ (.callNe (.f 62) [(.t 79)] [(.t 5)]) 80,
 oP (.buildSlice 5 zN 1 [(0,(.t 80))] false) 81,
 oQ (.append 5 64 false (.t 78) (.t 81)) 82,
 oF 4 5 83,
 oS 1 83 82])
 (sO [oJ 5 5 84,
 oS 5 2 84]
 (.ret)))))))))
theorem Z3:bE Tryz.prog 39 acL=some (Zt,[.cell 2 (some 5)],85):=by kernel_rfl
def Th (l:List Tok) (g:dU) (s:PS):PR Nd:=(ff l rI s).bind fun _ s=>(iH l s).bind fun x s=>(dB l (.mk 3 0 x 0 []) s).bind fun n s=>(ff l [40] s).bind fun _ s=>
 (lv l (l.length+1) n s).bind fun n s=>(pa l s).bind fun t s=>(g.block s).bind fun b s=>.ok ((n.OL t).c_ b) s
theorem MY (l:List Tok) (g:dU) (s:PS):ni l g s=(dw l kD s).bind fun b s=>bif b then (iH l s).bind fun x s=>(pa l s).bind fun t s=>(dB l (.mk 2 t x 0 []) s).bind fun n s=>(ff l [61] s).bind fun _ s=>(Bi l s).bind fun v s=>(ff l [59] s).bind fun _ s=>.ok (n.br [v]) s else
 (dw l rJ s).bind fun b s=>bif b then (iH l s).bind fun x s=>(dB l (.mk 4 0 x 0 []) s).bind fun n s=>(g.block s).bind fun b s=>.ok (n.br [b]) s else Th l g s:=rfl
set_option maxHeartbeats 1000000 in
theorem UY (G:List Tok→dU) (hG:∀l,mW (G l)) (hT:(xx G).ok Tryz.prog) (l:List Tok) (hl:uw l) (s:PS) (i1:Nat) (ok:cB l s) (K0:Nd→PS→Prop) (E0:Int→Int→Prop) (hw:jA (ni l (G l) s) (fun x s'=>cB l s'→K0 x s') E0):aO Tryz.prog 39 [.ptr i1 1 0] (aa.emp.set i1 (bV l s)) (ly cz l i1 K0 E0):=by
 refine aO.c8 hT (dc:=cJ.none) (fun _ _=>cJ.eM) (by kernel_rfl) Z3 (by simp) ?_
 rw [dz]
 have hp:=fun (h:aa) (j:Nat) (B C:cI)=>push_id (id:=i1) h j B C
 rw [MY,aE] at hw
 simp (maxSteps:=1000000) only [Zt,hp,hp,ao,aw,ah,aj,aD,aU,aW,ag,ae,ab,af,ax,aC,an,aB,seval]
 intro i2 al ak
 refine ⟨l,s,i1,kD,rfl,hl.lo,(by simp [al,ak]),ok,ay (fun b bZ e1 k gg=>?_) (fun a e k s'=>?_) hw⟩
 case refine_2=>
  simp only [bu,ab,ax]
  exact aA (s':=s') (by simp [al,ak]) k
 cases b with
 | true=>
  rw [cond_true,aE] at k
  simp (maxSteps:=1000000) only [hp,al,ak,ao,aw,ah,aj,aD,aU,aW,ag,ae,ab,af,ax,aC,an,aB,seval]
  refine ⟨l,bZ,i1,rfl,hl.lo,(by simp [al,ak]),gg,ay (fun x dT e2 k jV=>?_) (fun a e k s'=>?_) k⟩
  case refine_2=>
   simp only [bu,ab,ax]
   exact aA (s':=s') (by simp [al,ak]) k
  rw [aE] at k
  simp (maxSteps:=1000000) only [hp,al,ak,ao,aw,ah,aj,aD,aU,aW,ag,ae,ab,af,ax,aC,an,aB,seval]
  refine ⟨l,dT,i1,rfl,hl.lo,(by simp [al,ak]),jV,ay (fun t ez e3 k mQ=>?_) (fun a e k s'=>?_) k⟩
  case refine_2=>
   simp only [bu,ab,ax]
   exact aA (s':=s') (by simp [al,ak]) k
  rw [aE] at k
  simp (maxSteps:=1000000) only [hp,al,ak,ao,aw,ah,aj,aD,aU,aW,ag,ae,ab,af,ax,aC,an,aB,seval]
  refine .inl ⟨l,ez,i1,.mk 2 t x 0 [],by simp only [aR,bt],hl.lo,(by simp [al,ak]),mQ,ay (fun n mK e4 k uq=>?_) (fun a e k s'=>?_) k⟩
  case refine_2=>
   simp only [bu,ab,ax]
   exact aA (s':=s') (by simp [al,ak]) k
  obtain ⟨nk,nt,ns,nm,nl⟩:=n
  rw [aE] at k
  simp (maxSteps:=1000000) only [cz,aR,hp,al,ak,ao,aw,ah,aj,aD,aU,aW,ag,ae,ab,af,ax,aC,an,aB,seval]
  intro i3 av ar au aq
  refine ⟨l,mK,i1,[61],rfl,hl.lo,(by simp [al,ak,av,ar,au,aq]),uq,ay (fun _ xw e5 k Dm=>?_) (fun a e k s'=>?_) k⟩
  case refine_2=>
   simp only [bu,ab,ax]
   exact aA (s':=s') (by simp [al,ak,av,ar,au,aq]) k
  rw [aE] at k
  simp (maxSteps:=1000000) only [hp,al,ak,av,ar,au,aq,ao,aw,ah,aj,aD,aU,aW,ag,ae,ab,af,ax,aC,an,aB,seval]
  refine ⟨l,xw,i1,rfl,hl,(by simp [al,ak,av,ar,au,aq]),Dm,ay (fun v wF e6 k Lq=>?_) (fun a e k s'=>?_) k⟩
  case refine_2=>
   simp only [bu,ab,ax]
   exact aA (s':=s') (by simp [al,ak,av,ar,au,aq]) k
  rw [aE] at k
  simp (maxSteps:=1000000) only [cz,hp,al,ak,av,ar,au,aq,ao,aw,ah,aj,aD,aU,aW,ag,ae,ab,af,ax,aC,an,aB,seval]
  refine ⟨l,wF,i1,[59],rfl,hl.lo,(by simp [al,ak,av,ar,au,aq]),Lq,ay (fun _ BK e7 k Xr=>?_) (fun a e k s'=>?_) k⟩
  case refine_2=>
   simp only [bu,ab,ax]
   exact aA (s':=s') (by simp [al,ak,av,ar,au,aq]) k
  rw [b_] at k
  simp (maxSteps:=1000000) only [hp,al,ak,av,ar,au,aq,ao,aw,ah,aj,aD,aU,aW,ag,ae,ab,af,ax,aC,an,aB,seval]
  exact cd (x:=.mk nk nt ns nm [v]) (s':=BK) (by rw [cz,aR,cj,bt]) (by simp [al,ak,av,ar,au,aq]) (k Xr)
 | false=>
 rw [cond_false,aE] at k
 simp (maxSteps:=1000000) only [hp,al,ak,ao,aw,ah,aj,aD,aU,aW,ag,ae,ab,af,ax,aC,an,aB,seval]
 refine ⟨l,bZ,i1,rJ,rfl,hl.lo,(by simp [al,ak]),gg,ay (fun b dT e2 k jV=>?_) (fun a e k s'=>?_) k⟩
 case refine_2=>
  simp only [bu,ab,ax]
  exact aA (s':=s') (by simp [al,ak]) k
 cases b with
 | true=>
  rw [cond_true,aE] at k
  simp (maxSteps:=1000000) only [hp,al,ak,ao,aw,ah,aj,aD,aU,aW,ag,ae,ab,af,ax,aC,an,aB,seval]
  refine ⟨l,dT,i1,rfl,hl.lo,(by simp [al,ak]),jV,ay (fun x ez e3 k mQ=>?_) (fun a e k s'=>?_) k⟩
  case refine_2=>
   simp only [bu,ab,ax]
   exact aA (s':=s') (by simp [al,ak]) k
  rw [aE] at k
  simp (maxSteps:=1000000) only [hp,al,ak,ao,aw,ah,aj,aD,aU,aW,ag,ae,ab,af,ax,aC,an,aB,seval]
  refine .inl ⟨l,ez,i1,.mk 4 0 x 0 [],by simp only [aR,bt],hl.lo,(by simp [al,ak]),mQ,ay (fun n mK e4 k uq=>?_) (fun a e k s'=>?_) k⟩
  case refine_2=>
   simp only [bu,ab,ax]
   exact aA (s':=s') (by simp [al,ak]) k
  obtain ⟨nk,nt,ns,nm,nl⟩:=n
  rw [aE] at k
  simp (maxSteps:=1000000) only [cz,aR,hp,al,ak,ao,aw,ah,aj,aD,aU,aW,ag,ae,ab,af,ax,aC,an,aB,seval]
  intro i3 av ar au aq
  refine ⟨l,mK,i1,rfl,hl,(by simp [al,ak,av,ar,au,aq]),uq,ay (fun y xw e5 k Dm=>?_) (fun a e k s'=>?_) k⟩
  case refine_2=>
   simp only [bu,ab,ax]
   exact aA (s':=s') (by simp [al,ak,av,ar,au,aq]) k
  rw [b_] at k
  simp (maxSteps:=1000000) only [cz,hp,al,ak,av,ar,au,aq,ao,aw,ah,aj,aD,aU,aW,ag,ae,ab,af,ax,aC,an,aB,seval]
  exact cd (x:=.mk nk nt ns nm [y]) (s':=xw) (by rw [cz,aR,cj,bt]) (by simp [al,ak,av,ar,au,aq]) (k Dm)
 | false=>
 rw [cond_false] at k
 unfold Th at k
 rw [aE] at k
 simp (maxSteps:=1000000) only [hp,al,ak,ao,aw,ah,aj,aD,aU,aW,ag,ae,ab,af,ax,aC,an,aB,seval]
 refine ⟨l,dT,i1,rI,rfl,hl.lo,(by simp [al,ak]),jV,ay (fun _ ez e3 k mQ=>?_) (fun a e k s'=>?_) k⟩
 case refine_2=>
  simp only [bu,ab,ax]
  exact aA (s':=s') (by simp [al,ak]) k
 rw [aE] at k
 simp (maxSteps:=1000000) only [hp,al,ak,ao,aw,ah,aj,aD,aU,aW,ag,ae,ab,af,ax,aC,an,aB,seval]
 refine ⟨l,ez,i1,rfl,hl.lo,(by simp [al,ak]),mQ,ay (fun x mK e4 k uq=>?_) (fun a e k s'=>?_) k⟩
 case refine_2=>
  simp only [bu,ab,ax]
  exact aA (s':=s') (by simp [al,ak]) k
 rw [aE] at k
 simp (maxSteps:=1000000) only [uG,vk,hp,al,ak,ao,aw,ah,aj,aD,aU,aW,ag,ae,ab,af,ax,aC,an,aB,seval]
 refine .inr ⟨l,mK,i1,.mk 3 0 x 0 [],rfl,hl.lo,(by simp [al,ak]),uq,ay (fun n xw e5 k Dm=>?_) (fun a e k s'=>?_) k⟩
 case refine_2=>
  simp only [bu,ab,ax]
  exact aA (s':=s') (by simp [al,ak]) k
 have hn:=qM e5
 subst hn
 rw [aE] at k
 simp (maxSteps:=1000000) only [vk,hp,al,ak,ao,aw,ah,aj,aD,aU,aW,ag,ae,ab,af,ax,aC,an,aB,seval]
 intro i3 av ar au aq
 refine ⟨l,xw,i1,[40],rfl,hl.lo,(by simp [al,ak,av,ar,au,aq]),Dm,ay (fun _ wF e6 k Lq=>?_) (fun a e k s'=>?_) k⟩
 case refine_2=>
  simp only [bu,ab,ax]
  exact aA (s':=s') (by simp [al,ak,av,ar,au,aq]) k
 rw [aE] at k
 obtain ⟨Kr,k,hKr⟩:∃Kr:Nd→PS→Prop,jA (lv l (l.length+1) (.mk 3 0 x 0 []) wF) Kr E0∧∀n s,Kr n s→jA ((pa l s).bind fun t s=>((G l).block s).bind fun b s=>.ok ((n.OL t).c_ b) s) (fun x s'=>cB l s'→K0 x s') E0:=⟨_,k,fun _ _ h=>h⟩
 simp (maxSteps:=1000000) only [hp,al,ak,av,ar,au,aq,ao,aw,ah,aj,aD,aU,aW,ag,ae,ab,af,ax,aC,an,aB,seval]
 refine cS (X:=Nat×Nd×Nat×PS) (fun z=>[(0,.ptr i1 1 0),(2,.ptr i2 1 0),(5,.ptr i3 1 0)])
  (fun z=>gx (((aa.emp.set i1 (bV l z.2.2.2)).set i2 (.cells [.int .i64 0,.int .i64 0,.str [],.int .i64 0,.a_])).set i3 (.cells (ky z.2.1 z.2.2.1))) z.2.1 z.2.2.1) (fun z=>z.1)
  (fun z=>cB l z.2.2.2∧jA (lv l z.1 z.2.1 z.2.2.2) Kr E0∧(z.2.1.bM≠[]→¬z.2.2.1=i1∧¬z.2.2.1=i2∧¬z.2.2.1=i3)∧z.2.1.bM.length≤6)
  (l.length+1,.mk 3 0 x 0 [],0,wF) ⟨Lq,k,fun h=>absurd rfl h,Nat.zero_le _⟩ (by simp only [an,aB,seval]) (aa.aS _) ?_
 clear hw
 rintro ⟨j,n,r,gW⟩ Q ⟨nI,hw,hr,h6⟩ hQ
 simp only at nI hw hr h6 hQ ⊢
 cases j with
 | zero=>exact hw.elim
 | succ j=>
 unfold lv at hw
 rw [aE] at hw
 obtain ⟨nk,nt,ns,nm,nl⟩:=n
 simp only [Nd.bM] at hw hr h6
 by_cases sU:nl=[]
 ·subst sU
  have hH:∀h:aa,gx h (.mk nk nt ns nm []) r=h:=fun h=>if_pos rfl
  rw [hH,ky,List.length_nil,fN]
  simp (maxSteps:=1000000) only [hp,al,ak,av,ar,au,aq,ao,aw,ah,aj,aD,aU,aW,ag,ae,ab,af,ax,aC,an,aB,seval]
  refine ⟨l,gW,i1,[41],rfl,hl.lo,(by simp [al,ak,av,ar,au,aq]),nI,ay (fun b bZ e1 k gg=>?_) (fun a e k s'=>?_) hw⟩
  case refine_2=>
   simp only [bu,ab,ax]
   exact aA (s':=s') (by simp [al,ak,av,ar,au,aq]) k
  cases b with
  | true=>
   rw [cond_true,b_] at k
   have k:=hKr _ _ k
   rw [aE] at k
   simp (maxSteps:=1000000) only [hp,al,ak,av,ar,au,aq,ao,aw,ah,aj,aD,aU,aW,ag,ae,ab,af,ax,aC,an,aB,seval]
   refine ⟨l,bZ,i1,rfl,hl.lo,(by simp [al,ak,av,ar,au,aq]),gg,ay (fun t dT e2 k jV=>?_) (fun a e k s'=>?_) k⟩
   case refine_2=>
    simp only [bu,ab,ax]
    exact aA (s':=s') (by simp [al,ak,av,ar,au,aq]) k
   rw [aE] at k
   simp (maxSteps:=1000000) only [hp,al,ak,av,ar,au,aq,ao,aw,ah,aj,aD,aU,aW,ag,ae,ab,af,ax,aC,an,aB,seval]
   refine ⟨l,dT,i1,rfl,hl,(by simp [al,ak,av,ar,au,aq]),jV,ay (fun y ez e3 k mQ=>?_) (fun a e k s'=>?_) k⟩
   case refine_2=>
    intro σ hσ _
    simp only [bu]
    rw [hσ]
    show eJ cJ.none [] _ _ _
    simp only [ab,ax]
    exact aA (s':=s') (by simp [al,ak,av,ar,au,aq]) k
   rw [b_] at k
   simp (maxSteps:=1000000) only [cz,hp,al,ak,av,ar,au,aq,ao,aw,ah,aj,aD,aU,aW,ag,ae,ab,af,ax,aC,an,aB,seval]
   intro i4 aH aK aG aJ aF aI
   simp (maxSteps:=1000000) only [hp,al,ak,av,ar,au,aq,aH,aK,aG,aJ,aF,aI,ao,aw,ah,aj,aD,aU,aW,ag,ae,ab,af,ax,aC,an,aB,seval]
   exact fK (x:=.mk nk t ns nm [y]) (s':=ez) (by rw [cz,aR,cj,bt]) (by simp [al,ak,av,ar,au,aq,aH,aK,aG,aJ,aF,aI]) (k mQ)
  | false=>
   rw [cond_false] at k
   replace k:jA ((iH l bZ).bind fun x s=>(pa l s).bind fun t s=>(dB l (.mk 5 t x 0 []) s).bind fun m s=>lv l j ((Nd.mk nk nt ns nm []).c_ m) s) Kr E0:=k
   rw [aE] at k
   simp (maxSteps:=1000000) only [hp,al,ak,av,ar,au,aq,ao,aw,ah,aj,aD,aU,aW,ag,ae,ab,af,ax,aC,an,aB,seval]
   refine ⟨l,bZ,i1,rfl,hl.lo,(by simp [al,ak,av,ar,au,aq]),gg,ay (fun x dT e2 k jV=>?_) (fun a e k s'=>?_) k⟩
   case refine_2=>
    intro σ hσ _
    simp only [bu]
    rw [hσ]
    show eJ cJ.none [] _ _ _
    simp only [ab,ax]
    exact aA (s':=s') (by simp [al,ak,av,ar,au,aq]) k
   rw [aE] at k
   simp (maxSteps:=1000000) only [hp,al,ak,av,ar,au,aq,ao,aw,ah,aj,aD,aU,aW,ag,ae,ab,af,ax,aC,an,aB,seval]
   refine ⟨l,dT,i1,rfl,hl.lo,(by simp [al,ak,av,ar,au,aq]),jV,ay (fun t ez e3 k mQ=>?_) (fun a e k s'=>?_) k⟩
   case refine_2=>
    intro σ hσ _
    simp only [bu]
    rw [hσ]
    show eJ cJ.none [] _ _ _
    simp only [ab,ax]
    exact aA (s':=s') (by simp [al,ak,av,ar,au,aq]) k
   rw [aE] at k
   simp (maxSteps:=1000000) only [hp,al,ak,av,ar,au,aq,ao,aw,ah,aj,aD,aU,aW,ag,ae,ab,af,ax,aC,an,aB,seval]
   refine .inl ⟨l,ez,i1,.mk 5 t x 0 [],by simp only [aR,bt],hl.lo,(by simp [al,ak,av,ar,au,aq]),mQ,ay (fun m mK e4 k uq=>?_) (fun a e k s'=>?_) k⟩
   case refine_2=>
    intro σ hσ _
    simp only [bu]
    rw [hσ]
    show eJ cJ.none [] _ _ _
    simp only [ab,ax]
    exact aA (s':=s') (by simp [al,ak,av,ar,au,aq]) k
   simp (maxSteps:=1000000) only [cz,hp,al,ak,av,ar,au,aq,ao,aw,ah,aj,aD,aU,aW,ag,ae,ab,af,ax,aC,an,aB,seval]
   intro i4 aH aK aG aJ aF aI
   simp (maxSteps:=1000000) only [hp,al,ak,av,ar,au,aq,aH,aK,aG,aJ,aF,aI,ao,aw,ah,aj,aD,aU,aW,ag,ae,ab,af,ax,aC,an,aB,seval]
   refine hQ (j,.mk nk nt ns nm [m],i4,mK) _ _ ⟨uq,k,fun _=>⟨aF,aG,aH⟩,by simp [Nd.bM]⟩ (by simp only [an,aB,seval]) ?_ (by simp only; omega)
   simp only [gx,Nd.bM,ky,List.length_cons,List.length_nil,cj,bt,reduceCtorEq,if_false,cp (Nat.succ_ne_zero 0)]
   exact aa.dL (by repeat' first | with_reducible exact aa.bF | with_reducible exact aa.bI | refine aa.cL (by simp [al,ak,av,ar,au,aq,aH,aK,aG,aJ,aF,aI]) ?_ | refine aa.cR (by simp [al,ak,av,ar,au,aq,aH,aK,aG,aJ,aF,aI]) ?_)
 ·obtain ⟨i4,rfl⟩:∃q,q=r:=⟨r,rfl⟩
  obtain ⟨aF,aG,aH⟩:=hr sU
  have aI:¬i1=i4:=fun e=>aF e.symm
  have aJ:¬i2=i4:=fun e=>aG e.symm
  have aK:¬i3=i4:=fun e=>aH e.symm
  have hH:∀h:aa,gx h (.mk nk nt ns nm nl) i4=h.set i4 (.row 5 (nl.length+2) (Nd.cN nl) false):=fun h=>if_neg sU
  have Fm:nl.length≠0:=fun e=>sU (List.length_eq_zero_iff.1 e)
  have tk:(Nd.cN nl).take nl.length=Nd.cN nl:=List.take_of_length_le (by rw [aV]; omega)
  rw [hH,ky,cp Fm]
  simp (maxSteps:=1000000) only [hp,al,ak,av,ar,au,aq,aH,aK,aG,aJ,aF,aI,ao,aw,ah,aj,aD,aU,aW,ag,ae,ab,af,ax,aC,an,aB,seval]
  refine ⟨l,gW,i1,[41],rfl,hl.lo,(by simp [al,ak,av,ar,au,aq,aH,aK,aG,aJ,aF,aI]),nI,ay (fun b bZ e1 k gg=>?_) (fun a e k s'=>?_) hw⟩
  case refine_2=>
   simp only [bu,ab,ax]
   exact aA (s':=s') (by simp [al,ak,av,ar,au,aq,aH,aK,aG,aJ,aF,aI]) k
  cases b with
  | true=>
   rw [cond_true,b_] at k
   have k:=hKr _ _ k
   rw [aE] at k
   simp (maxSteps:=1000000) only [hp,al,ak,av,ar,au,aq,aH,aK,aG,aJ,aF,aI,ao,aw,ah,aj,aD,aU,aW,ag,ae,ab,af,ax,aC,an,aB,seval]
   refine ⟨l,bZ,i1,rfl,hl.lo,(by simp [al,ak,av,ar,au,aq,aH,aK,aG,aJ,aF,aI]),gg,ay (fun t dT e2 k jV=>?_) (fun a e k s'=>?_) k⟩
   case refine_2=>
    simp only [bu,ab,ax]
    exact aA (s':=s') (by simp [al,ak,av,ar,au,aq,aH,aK,aG,aJ,aF,aI]) k
   rw [aE] at k
   simp (maxSteps:=1000000) only [hp,al,ak,av,ar,au,aq,aH,aK,aG,aJ,aF,aI,ao,aw,ah,aj,aD,aU,aW,ag,ae,ab,af,ax,aC,an,aB,seval]
   refine ⟨l,dT,i1,rfl,hl,(by simp [al,ak,av,ar,au,aq,aH,aK,aG,aJ,aF,aI]),jV,ay (fun y ez e3 k mQ=>?_) (fun a e k s'=>?_) k⟩
   case refine_2=>
    intro σ hσ _
    simp only [bu]
    rw [hσ]
    show eJ cJ.none [] _ _ _
    simp only [ab,ax]
    exact aA (s':=s') (by simp [al,ak,av,ar,au,aq,aH,aK,aG,aJ,aF,aI]) k
   rw [b_] at k
   have tk2:(Nd.cN nl++[y.enc]).take (nl.length+1)=Nd.cN nl++[y.enc]:=List.take_of_length_le (by rw [List.length_append,aV]; simp)
   have hle:(Nd.cN nl++[y.enc]).length=nl.length+1:=by rw [List.length_append,aV]; simp
   simp (maxSteps:=1000000) only [cz,aV,hp,al,ak,av,ar,au,aq,aH,aK,aG,aJ,aF,aI,ao,aw,ah,aj,aD,aU,aW,ag,ae,ab,af,ax,aC,an,aB,seval]
   refine ⟨by omega,?_⟩
   simp (maxSteps:=1000000) only [aV,tk2,hle,hp,al,ak,av,ar,au,aq,aH,aK,aG,aJ,aF,aI,ao,aw,ah,aj,aD,aU,aW,ag,ae,ab,af,ax,aC,an,aB,seval]
   exact fK (x:=.mk nk t ns nm (nl++[y])) (s':=ez) (by rw [cz,aR,←jY]) (by simp [al,ak,av,ar,au,aq,aH,aK,aG,aJ,aF,aI]) (k mQ)
  | false=>
   rw [cond_false,aE] at k
   have g0:((nl.length:Int)>0)=True:=eq_true (by omega)
   replace k:=iv (p:=ff l [44] bZ) (by simp; omega) k
   simp (maxSteps:=1000000) only [g0,aV,hp,al,ak,av,ar,au,aq,aH,aK,aG,aJ,aF,aI,ao,aw,ah,aj,aD,aU,aW,ag,ae,ab,af,ax,aC,an,aB,seval]
   intro _
   refine ⟨l,bZ,i1,[44],rfl,hl.lo,(by simp [al,ak,av,ar,au,aq,aH,aK,aG,aJ,aF,aI]),gg,ay (fun _ dT e2 k jV=>?_) (fun a e k s'=>?_) k⟩
   case refine_2=>
    simp only [bu,ab,ax]
    exact aA (s':=s') (by simp [al,ak,av,ar,au,aq,aH,aK,aG,aJ,aF,aI]) k
   by_cases jR:nl.length≥6
   ·have g3:((nl.length:Int)≥6)=True:=eq_true (by omega)
    replace k:=iv (p:=ib l 3 dT) (by simpa [Nd.bM] using jR) k
    simp (maxSteps:=1000000) only [g3,aV,hp,al,ak,av,ar,au,aq,aH,aK,aG,aJ,aF,aI,ao,aw,ah,aj,aD,aU,aW,ag,ae,ab,af,ax,aC,an,aB,seval]
    intro _
    refine ⟨l,dT,i1,3,rfl,(by simp [al,ak,av,ar,au,aq,aH,aK,aG,aJ,aF,aI]),jV.at_,?_⟩
    simp only [bu]
    show eJ cJ.none [] _ _ _
    simp only [ab,ax]
    exact aA (s':=dT) (by simp [al,ak,av,ar,au,aq,aH,aK,aG,aJ,aF,aI]) k
   ·have g3:((nl.length:Int)≥6)=False:=eq_false (by omega)
    replace k:=mG (q:=(iH l dT).bind fun x s=>(pa l s).bind fun t s=>(dB l (.mk 5 t x 0 []) s).bind fun m s=>lv l j ((Nd.mk nk nt ns nm nl).c_ m) s) (by simpa [Nd.bM] using jR) k
    rw [aE] at k
    simp (maxSteps:=1000000) only [g3,aV,hp,al,ak,av,ar,au,aq,aH,aK,aG,aJ,aF,aI,ao,aw,ah,aj,aD,aU,aW,ag,ae,ab,af,ax,aC,an,aB,seval]
    intro _
    refine ⟨l,dT,i1,rfl,hl.lo,(by simp [al,ak,av,ar,au,aq,aH,aK,aG,aJ,aF,aI]),jV,ay (fun x ez e3 k mQ=>?_) (fun a e k s'=>?_) k⟩
    case refine_2=>
     intro σ hσ _
     simp only [bu]
     rw [hσ]
     show eJ cJ.none [] _ _ _
     simp only [ab,ax]
     exact aA (s':=s') (by simp [al,ak,av,ar,au,aq,aH,aK,aG,aJ,aF,aI]) k
    rw [aE] at k
    simp (maxSteps:=1000000) only [hp,al,ak,av,ar,au,aq,aH,aK,aG,aJ,aF,aI,ao,aw,ah,aj,aD,aU,aW,ag,ae,ab,af,ax,aC,an,aB,seval]
    refine ⟨l,ez,i1,rfl,hl.lo,(by simp [al,ak,av,ar,au,aq,aH,aK,aG,aJ,aF,aI]),mQ,ay (fun t mK e4 k uq=>?_) (fun a e k s'=>?_) k⟩
    case refine_2=>
     intro σ hσ _
     simp only [bu]
     rw [hσ]
     show eJ cJ.none [] _ _ _
     simp only [ab,ax]
     exact aA (s':=s') (by simp [al,ak,av,ar,au,aq,aH,aK,aG,aJ,aF,aI]) k
    rw [aE] at k
    simp (maxSteps:=1000000) only [hp,al,ak,av,ar,au,aq,aH,aK,aG,aJ,aF,aI,ao,aw,ah,aj,aD,aU,aW,ag,ae,ab,af,ax,aC,an,aB,seval]
    refine .inl ⟨l,mK,i1,.mk 5 t x 0 [],by simp only [aR,bt],hl.lo,(by simp [al,ak,av,ar,au,aq,aH,aK,aG,aJ,aF,aI]),uq,ay (fun m xw e5 k Dm=>?_) (fun a e k s'=>?_) k⟩
    case refine_2=>
     intro σ hσ _
     simp only [bu]
     rw [hσ]
     show eJ cJ.none [] _ _ _
     simp only [ab,ax]
     exact aA (s':=s') (by simp [al,ak,av,ar,au,aq,aH,aK,aG,aJ,aF,aI]) k
    simp (maxSteps:=1000000) only [cz,aV,hp,al,ak,av,ar,au,aq,aH,aK,aG,aJ,aF,aI,ao,aw,ah,aj,aD,aU,aW,ag,ae,ab,af,ax,aC,an,aB,seval]
    refine ⟨by omega,hQ (j,.mk nk nt ns nm (nl++[m]),i4,xw) _ _ ⟨Dm,k,fun _=>⟨aF,aG,aH⟩,by simp [Nd.bM]; omega⟩ (by simp only [an,aB,seval]) ?_ (by simp only; omega)⟩
    have iw:nl++[m]≠[]:=by simp
    simp only [gx,Nd.bM,ky,List.length_append,List.length_cons,List.length_nil,iw,if_false,←jY,cp (show nl.length+(0+1)≠0 by omega)]
    rw [show nl.length+2+1=nl.length+(0+1)+2 by omega]
    exact aa.dL (by repeat' first | with_reducible exact aa.bF | with_reducible exact aa.bI | refine aa.cL (by simp [al,ak,av,ar,au,aq,aH,aK,aG,aJ,aF,aI]) ?_ | refine aa.cR (by simp [al,ak,av,ar,au,aq,aH,aK,aG,aJ,aF,aI]) ?_)
theorem MX (f:Nat) (args:List D) (h:aa) (K E:D→aa→Prop) (c:∃(l:List Tok) (s:PS) (id:Nat),args=[.ptr id 1 0]∧uw l∧cP (ni l (mV l f)) cz l s id h K E):aO Tryz.prog 39 args h (dn.to K E):=by
 obtain ⟨l,s,id,rfl,hl,c⟩:=c
 exact ji (fun ok K0 E0 hw=>UY (fun l=>mV l f) (fun l=>r9 l f) (GW f) l hl s id ok K0 E0 hw) c
end
end Go.Proofs.YtpklkpkfgmoghaaGreatDoor.Zz
