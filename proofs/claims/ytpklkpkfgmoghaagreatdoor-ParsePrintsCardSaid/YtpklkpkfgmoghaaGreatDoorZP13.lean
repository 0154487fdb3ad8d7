/- Contracts: branches. -/
import Derived.Test.YtpklkpkfgmoghaaGreatDoorZP10
set_option linter.unnecessarySimpa false
set_option linter.unusedVariables false
set_option linter.unusedSimpArgs false
set_option maxRecDepth 20000
namespace Go.Proofs.YtpklkpkfgmoghaaGreatDoor.Zz
noncomputable section
def aam:cj:=⟨⟨[(3,4)],[(1,1),(2,2),(3,1),(3,3),(5,1),(6,1),(7,2),(8,1),(4,3)],[],[((4,3),[(.t 3)])],[((4,1),(.t 3))],[]⟩,[(4,[0,1,2,3,4,5,6,7])],[],false⟩
def UF:dL:=
 sO [oA 2]
 (.seq (sO [oM 0 5,
 oC 84 [.t 5] 6]
 (.defer (.t 6) []))
 (sO [oM 0 7,
 oP (.build zN [(0,1,(kI 9))]) 8,
 oC 35 [.t 7,.t 8] 9,
 oA 3,
 oS 5 3 9]
 (sO [oM 0 10,
 oC 102 [.t 10,kI 0] 11,
 oM 0 12,
 oC 62 [.t 12] 13,
 oQ (.buildSlice 5 zN 2 [(0,(.t 11)),(1,(.t 13))] true) 14,
 oF 4 3 15,
 oS 1 15 14]
 (.seq (.block 0 (sO [oM 0 24,
 oC 57 [.t 24,(kS [101,108,115,101])] 25,
 oP (.un .not (.t 25)) 26,
 oM 26 23]
 (.cond (.t 23)
 (.skip)
 (sO [oM 0 28,
 oC 57 [.t 28,(kS [105,102])] 29,
 oM 29 27]
 (.cond (.t 27)
 (sO [oM 0 30,
 oP (.build zN [(0,1,(kI 6))]) 31,
 oC 35 [.t 30,.t 31] 32,
 oA 4,
 oS 5 4 32]
 (sO [oM 0 33,
 oC 101 [.t 33] 34,
 oP (.buildSlice 5 zN 1 [(0,(.t 34))] false) 35,
 oF 4 4 36,
 oS 1 36 35]
 (.ops [oF 4 3 37,
 oL 37 38,
 oJ 5 4 39,
 oP (.buildSlice 5 zN 1 [(0,(.t 39))] false) 40,
 oQ (.append 5 64 false (.t 38) (.t 40)) 41,
 oF 4 3 42,
 oS 1 42 41])))
 (.fD 16 [oF 4 3 16,
 oQ (.cT none (.t 16) (.t 3)) 17,
 oM 0 18,
 oQ (.callNe (.f 62) [(.t 18)] [(.t 3)]) 19,
 oP (.buildSlice 5 zN 1 [(0,(.t 19))] false) 20,
 oQ (.append 5 64 false (.t 17) (.t 20)) 21,
 oF 4 3 22,
 oS 1 22 21]))))))
 (sO [oJ 5 3 43,
 oS 5 2 43]
 (.ret))))))
theorem XB:bJ Tryz.prog 101 aam=some (UF,[.cell 2 (some 5)],44):=by kernel_rfl
set_option maxHeartbeats 1000000 in
theorem M5 (G:List cH→ee) (hG:∀l,nn (G l)) (hT:(xM G).ok Tryz.prog) (l:List cH) (hl:uL l) (s:PS) (i1:Nat) (ok:cJ l s) (K0:Nd→PS→Prop) (E0:Int→Int→Prop) (hw:jG (oR l (G l) s) (fun x s'=>cJ l s'→K0 x s') E0):aQ Tryz.prog 101 [.ptr i1 1 0] (aa.emp.set i1 (b9 l s)) (lF cG l i1 K0 E0):=by
 refine aQ.du hT (dc:=yC) vz (by kernel_rfl) XB (by simp) ?_
 rw [dK]
 have hp:=fun (h:aa) (j:Nat) (B C:cR)=>push_id (id:=i1) h j B C
 have w1:IntKind.i64.wrap (s.deep+1)=s.deep+1:=wrap_i64 (by have:=ok.d0; omega) (by have:=ok.d1; omega)
 unfold oR kW Uv at hw
 rw [aG] at hw
 simp (maxSteps:=1000000) only [UF,En,b9,aE,ao,aD,seval]
 intro i2 an al i3 aw au av ar
 by_cases c:s.deep+1>40
 ·have g:(s.deep+1>40)=True:=eq_true c
  rw [if_pos c] at hw
  simp (maxSteps:=1000000) only [g,w1,hp,an,al,aw,au,av,ar,aq,ay,aj,ak,aF,aW,aY,ah,af,ae,ag,az,aE,ao,aD,seval]
  refine ⟨l,{ s with deep:=s.deep+1 },i1,3,rfl,by simp [b9,an,al,aw,au,av,ar],ok.at_,?_⟩
  simp only [DQ,bB,true_and]
  refine ⟨rfl,?_⟩
  show eT yC [] (some (mZ _ 3)) _ _
  simp only [ae,az]
  exact aC (s':={ s with deep:=s.deep+1 }) (by simp [b9,an,al,aw,au,av,ar]) hw
 ·have g:(s.deep+1>40)=False:=eq_false c
  rw [if_neg c,cu] at hw
  have RB:=vD ok c
  simp only [GO,aG,cu] at hw
  simp (maxSteps:=1000000) only [g,w1,hp,an,al,aw,au,av,ar,aq,ay,aj,ak,aF,aW,aY,ah,af,ae,ag,az,aE,ao,aD,seval]
  generalize Df:({ s with deep:=s.deep+1 }:PS)=sd at*
  have Rv:sd.deep=s.deep+1:=by rw [←Df]
  refine .inl ⟨l,sd,i1,.mk 9 0 [] 0 [],by simp only [aT,bA],hl.lo,by rw [←Df]; simp [b9,an,al,aw,au,av,ar],RB,aA (fun n cg e1 k gm=>?_) (fun a e k s'=>?_) hw⟩
  case refine_2=>
   simp only [bB,ag,ae,List.nil_append,List.append_nil]
   refine ⟨rfl,i3,i1,l,s',rfl,by simp [an,al,aw,au,av,ar],by simp [an,al,aw,au,av,ar],?_⟩
   simp only [az]
   exact aC (s':={ s' with deep:=IntKind.i64.wrap (s'.deep - 1) }) (by simp [an,al,aw,au,av,ar]) k
  have d1:cg.deep=s.deep+1:=(bY _ _ e1).trans Rv
  obtain ⟨nk,nt,ns,nm,nl⟩:=n
  simp (maxSteps:=1000000) only [cG,aT,hp,an,al,aw,au,av,ar,aq,ay,aj,ak,aF,aW,aY,ah,af,ae,ag,az,aE,ao,aD,seval]
  intro i4 aJ aM aI aL aH aK
  refine ⟨l,cg,i1,0,rfl,hl,(by simp [an,al,aw,au,av,ar,aJ,aM,aI,aL,aH,aK]),gm,aA (fun x ea e2 k j5=>?_) (fun a e k s'=>?_) k⟩
  case refine_2=>
   simp only [bB,ag,ae,List.nil_append,List.append_nil]
   refine ⟨rfl,i3,i1,l,s',rfl,by simp [an,al,aw,au,av,ar,aJ,aM,aI,aL,aH,aK],by simp [an,al,aw,au,av,ar,aJ,aM,aI,aL,aH,aK],?_⟩
   simp only [az]
   exact aC (s':={ s' with deep:=IntKind.i64.wrap (s'.deep - 1) }) (by simp [an,al,aw,au,av,ar,aJ,aM,aI,aL,aH,aK]) k
  have d2:ea.deep=s.deep+1:=((hG l).expr _ _ _ _ e2).trans d1
  simp (maxSteps:=1000000) only [cG,hp,an,al,aw,au,av,ar,aJ,aM,aI,aL,aH,aK,aq,ay,aj,ak,aF,aW,aY,ah,af,ae,ag,az,aE,ao,aD,seval]
  refine ⟨l,ea,i1,rfl,hl,(by simp [an,al,aw,au,av,ar,aJ,aM,aI,aL,aH,aK]),j5,aA (fun y eI e3 k nc=>?_) (fun a e k s'=>?_) k⟩
  case refine_2=>
   simp only [bB,ag,ae,List.nil_append,List.append_nil]
   refine ⟨rfl,i3,i1,l,s',rfl,by simp [an,al,aw,au,av,ar,aJ,aM,aI,aL,aH,aK],by simp [an,al,aw,au,av,ar,aJ,aM,aI,aL,aH,aK],?_⟩
   simp only [az]
   exact aC (s':={ s' with deep:=IntKind.i64.wrap (s'.deep - 1) }) (by simp [an,al,aw,au,av,ar,aJ,aM,aI,aL,aH,aK]) k
  have d3:eI.deep=s.deep+1:=((hG l).block _ _ _ e3).trans d2
  simp (maxSteps:=1000000) only [cG,hp,an,al,aw,au,av,ar,aJ,aM,aI,aL,aH,aK,aq,ay,aj,ak,aF,aW,aY,ah,af,ae,ag,az,aE,ao,aD,seval]
  intro i5 bx bG bu bF bt bE br bD
  simp (maxSteps:=1000000) only [hp,an,al,aw,au,av,ar,aJ,aM,aI,aL,aH,aK,bx,bG,bu,bF,bt,bE,br,bD,aq,ay,aj,ak,aF,aW,aY,ah,af,ae,ag,az,aE,ao,aD,seval]
  have fin:∀(n:Nd) (s':PS),cJ l s'→s'.deep=s.deep+1→(cJ l { s' with deep:=s'.deep - 1 }→K0 n { s' with deep:=s'.deep - 1 })→K0 n { s' with deep:=s'.deep - 1 }∧IntKind.i64.wrap (s'.deep - 1)=s'.deep - 1:=fun n s' o d h=>⟨h (ib ok o d).1,(ib ok o d).2⟩
  refine ⟨l,eI,i1,jS,rfl,hl.lo,(by simp [an,al,aw,au,av,ar,aJ,aM,aI,aL,aH,aK,bx,bG,bu,bF,bt,bE,br,bD]),nc,aA (fun b mW e4 k uH=>?_) (fun a e k s'=>?_) k⟩
  case refine_2=>
   simp only [bB,ag,ae,List.nil_append,List.append_nil]
   refine ⟨rfl,i3,i1,l,s',rfl,by simp [an,al,aw,au,av,ar,aJ,aM,aI,aL,aH,aK,bx,bG,bu,bF,bt,bE,br,bD],by simp [an,al,aw,au,av,ar,aJ,aM,aI,aL,aH,aK,bx,bG,bu,bF,bt,bE,br,bD],?_⟩
   simp only [az]
   exact aC (s':={ s' with deep:=IntKind.i64.wrap (s'.deep - 1) }) (by simp [an,al,aw,au,av,ar,aJ,aM,aI,aL,aH,aK,bx,bG,bu,bF,bt,bE,br,bD]) k
  have d4:mW.deep=s.deep+1:=(bH _ _ e4).trans d3
  cases b with
  | false=>
   rw [Bool.not_false,cond_true,cu] at k
   obtain ⟨k,wd⟩:=fin _ mW uH d4 k
   simp (maxSteps:=1000000) only [Bool.not_false,hp,an,al,aw,au,av,ar,aJ,aM,aI,aL,aH,aK,bx,bG,bu,bF,bt,bE,br,bD,aq,ay,aj,ak,aF,aW,aY,ah,af,ae,ag,az,aE,ao,aD,seval]
   refine ⟨rfl,i3,i1,l,mW,rfl,(by simp [an,al,aw,au,av,ar,aJ,aM,aI,aL,aH,aK,bx,bG,bu,bF,bt,bE,br,bD]),(by simp [an,al,aw,au,av,ar,aJ,aM,aI,aL,aH,aK,bx,bG,bu,bF,bt,bE,br,bD]),?_⟩
   rw [wd]
   simp (maxSteps:=1000000) only [hp,an,al,aw,au,av,ar,aJ,aM,aI,aL,aH,aK,bx,bG,bu,bF,bt,bE,br,bD,aq,ay,aj,ak,aF,aW,aY,ah,af,ae,ag,az,aE,ao,aD,seval]
   exact fU (x:=.mk nk nt ns nm [x,y]) (s':={ mW with deep:=mW.deep - 1 }) (by rw [cG,aT,cz,cz,bA]) (by simp [an,al,aw,au,av,ar,aJ,aM,aI,aL,aH,aK,bx,bG,bu,bF,bt,bE,br,bD]) k
  | true=>
   rw [Bool.not_true,cond_false,aG] at k
   simp (maxSteps:=1000000) only [Bool.not_true,hp,an,al,aw,au,av,ar,aJ,aM,aI,aL,aH,aK,bx,bG,bu,bF,bt,bE,br,bD,aq,ay,aj,ak,aF,aW,aY,ah,af,ae,ag,az,aE,ao,aD,seval]
   refine ⟨l,mW,i1,FQ,rfl,hl.lo,(by simp [an,al,aw,au,av,ar,aJ,aM,aI,aL,aH,aK,bx,bG,bu,bF,bt,bE,br,bD]),uH,aA (fun b xL e5 k DK=>?_) (fun a e k s'=>?_) k⟩
   case refine_2=>
    simp only [bB,ag,ae,List.nil_append,List.append_nil]
    refine ⟨rfl,i3,i1,l,s',rfl,by simp [an,al,aw,au,av,ar,aJ,aM,aI,aL,aH,aK,bx,bG,bu,bF,bt,bE,br,bD],by simp [an,al,aw,au,av,ar,aJ,aM,aI,aL,aH,aK,bx,bG,bu,bF,bt,bE,br,bD],?_⟩
    simp only [az]
    exact aC (s':={ s' with deep:=IntKind.i64.wrap (s'.deep - 1) }) (by simp [an,al,aw,au,av,ar,aJ,aM,aI,aL,aH,aK,bx,bG,bu,bF,bt,bE,br,bD]) k
   have d5:xL.deep=s.deep+1:=(bH _ _ e5).trans d4
   cases b with
   | true=>
    rw [cond_true,aG] at k
    simp (maxSteps:=1000000) only [hp,an,al,aw,au,av,ar,aJ,aM,aI,aL,aH,aK,bx,bG,bu,bF,bt,bE,br,bD,aq,ay,aj,ak,aF,aW,aY,ah,af,ae,ag,az,aE,ao,aD,seval]
    refine .inl ⟨l,xL,i1,.mk 6 0 [] 0 [],by simp only [aT,bA],hl.lo,(by simp [an,al,aw,au,av,ar,aJ,aM,aI,aL,aH,aK,bx,bG,bu,bF,bt,bE,br,bD]),DK,aA (fun m wU e6 k L3=>?_) (fun a e k s'=>?_) k⟩
    case refine_2=>
     simp only [bB,ag,ae,List.nil_append,List.append_nil]
     refine ⟨rfl,i3,i1,l,s',rfl,by simp [an,al,aw,au,av,ar,aJ,aM,aI,aL,aH,aK,bx,bG,bu,bF,bt,bE,br,bD],by simp [an,al,aw,au,av,ar,aJ,aM,aI,aL,aH,aK,bx,bG,bu,bF,bt,bE,br,bD],?_⟩
     simp only [az]
     exact aC (s':={ s' with deep:=IntKind.i64.wrap (s'.deep - 1) }) (by simp [an,al,aw,au,av,ar,aJ,aM,aI,aL,aH,aK,bx,bG,bu,bF,bt,bE,br,bD]) k
    have d6:wU.deep=s.deep+1:=(bY _ _ e6).trans d5
    obtain ⟨mk,mt,ms,mm,ml⟩:=m
    rw [aG] at k
    simp (maxSteps:=1000000) only [cG,aT,hp,an,al,aw,au,av,ar,aJ,aM,aI,aL,aH,aK,bx,bG,bu,bF,bt,bE,br,bD,aq,ay,aj,ak,aF,aW,aY,ah,af,ae,ag,az,aE,ao,aD,seval]
    intro i6 AL AY AM AZ _ _ AK AX AJ AW AH AV
    refine ⟨l,wU,i1,rfl,hl,(by simp [an,al,aw,au,av,ar,aJ,aM,aI,aL,aH,aK,bx,bG,bu,bF,bt,bE,br,bD,AM,AZ,AL,AY,AK,AX,AJ,AW,AH,AV]),L3,aA (fun z B7 e7 k Yv=>?_) (fun a e k s'=>?_) k⟩
    case refine_2=>
     simp only [bB,ag,ae,List.nil_append,List.append_nil]
     refine ⟨rfl,i3,i1,l,s',rfl,by simp [an,al,aw,au,av,ar,aJ,aM,aI,aL,aH,aK,bx,bG,bu,bF,bt,bE,br,bD,AM,AZ,AL,AY,AK,AX,AJ,AW,AH,AV],by simp [an,al,aw,au,av,ar,aJ,aM,aI,aL,aH,aK,bx,bG,bu,bF,bt,bE,br,bD,AM,AZ,AL,AY,AK,AX,AJ,AW,AH,AV],?_⟩
     simp only [az]
     exact aC (s':={ s' with deep:=IntKind.i64.wrap (s'.deep - 1) }) (by simp [an,al,aw,au,av,ar,aJ,aM,aI,aL,aH,aK,bx,bG,bu,bF,bt,bE,br,bD,AM,AZ,AL,AY,AK,AX,AJ,AW,AH,AV]) k
    have d7:B7.deep=s.deep+1:=((hG l).branch _ _ _ e7).trans d6
    rw [cu] at k
    obtain ⟨k,wd⟩:=fin _ B7 Yv d7 k
    simp (maxSteps:=1000000) only [cG,hp,an,al,aw,au,av,ar,aJ,aM,aI,aL,aH,aK,bx,bG,bu,bF,bt,bE,br,bD,AM,AZ,AL,AY,AK,AX,AJ,AW,AH,AV,aq,ay,aj,ak,aF,aW,aY,ah,af,ae,ag,az,aE,ao,aD,seval]
    refine ⟨rfl,i3,i1,l,B7,rfl,(by simp [an,al,aw,au,av,ar,aJ,aM,aI,aL,aH,aK,bx,bG,bu,bF,bt,bE,br,bD,AM,AZ,AL,AY,AK,AX,AJ,AW,AH,AV]),(by simp [an,al,aw,au,av,ar,aJ,aM,aI,aL,aH,aK,bx,bG,bu,bF,bt,bE,br,bD,AM,AZ,AL,AY,AK,AX,AJ,AW,AH,AV]),?_⟩
    rw [wd]
    simp (maxSteps:=1000000) only [hp,an,al,aw,au,av,ar,aJ,aM,aI,aL,aH,aK,bx,bG,bu,bF,bt,bE,br,bD,AM,AZ,AL,AY,AK,AX,AJ,AW,AH,AV,aq,ay,aj,ak,aF,aW,aY,ah,af,ae,ag,az,aE,ao,aD,seval]
    exact fU (x:=.mk nk nt ns nm [x,y,.mk mk mt ms mm [z]]) (s':={ B7 with deep:=B7.deep - 1 }) (by simp only [cG,aT,cz,bA]) (by simp [an,al,aw,au,av,ar,aJ,aM,aI,aL,aH,aK,bx,bG,bu,bF,bt,bE,br,bD,AM,AZ,AL,AY,AK,AX,AJ,AW,AH,AV]) k
   | false=>
    rw [cond_false,aG] at k
    simp (maxSteps:=1000000) only [hp,an,al,aw,au,av,ar,aJ,aM,aI,aL,aH,aK,bx,bG,bu,bF,bt,bE,br,bD,aq,ay,aj,ak,aF,aW,aY,ah,af,ae,ag,az,aE,ao,aD,seval]
    refine ⟨l,xL,i1,rfl,hl,(by simp [an,al,aw,au,av,ar,aJ,aM,aI,aL,aH,aK,bx,bG,bu,bF,bt,bE,br,bD]),DK,aA (fun z wU e6 k L3=>?_) (fun a e k s'=>?_) k⟩
    case refine_2=>
     intro σ hσ _
     simp only [bB]
     rw [hσ]
     show eT yC [⟨.func 100,[.ptr i3 1 0],[]⟩] _ _ _
     simp only [ag,ae,List.nil_append]
     refine ⟨rfl,i3,i1,l,s',rfl,by simp [an,al,aw,au,av,ar,aJ,aM,aI,aL,aH,aK,bx,bG,bu,bF,bt,bE,br,bD],by simp [an,al,aw,au,av,ar,aJ,aM,aI,aL,aH,aK,bx,bG,bu,bF,bt,bE,br,bD],?_⟩
     simp only [az]
     exact aC (s':={ s' with deep:=IntKind.i64.wrap (s'.deep - 1) }) (by simp [an,al,aw,au,av,ar,aJ,aM,aI,aL,aH,aK,bx,bG,bu,bF,bt,bE,br,bD]) k
    have d6:wU.deep=s.deep+1:=((hG l).block _ _ _ e6).trans d5
    rw [cu] at k
    obtain ⟨k,wd⟩:=fin _ wU L3 d6 k
    simp (maxSteps:=1000000) only [cG,hp,an,al,aw,au,av,ar,aJ,aM,aI,aL,aH,aK,bx,bG,bu,bF,bt,bE,br,bD,aq,ay,aj,ak,aF,aW,aY,ah,af,ae,ag,az,aE,ao,aD,seval]
    refine ⟨rfl,i3,i1,l,wU,rfl,(by simp [an,al,aw,au,av,ar,aJ,aM,aI,aL,aH,aK,bx,bG,bu,bF,bt,bE,br,bD]),(by simp [an,al,aw,au,av,ar,aJ,aM,aI,aL,aH,aK,bx,bG,bu,bF,bt,bE,br,bD]),?_⟩
    rw [wd]
    simp (maxSteps:=1000000) only [hp,an,al,aw,au,av,ar,aJ,aM,aI,aL,aH,aK,bx,bG,bu,bF,bt,bE,br,bD,aq,ay,aj,ak,aF,aW,aY,ah,af,ae,ag,az,aE,ao,aD,seval]
    exact fU (x:=.mk nk nt ns nm [x,y,z]) (s':={ wU with deep:=wU.deep - 1 }) (by simp only [cG,aT,cz,bA]) (by simp [an,al,aw,au,av,ar,aJ,aM,aI,aL,aH,aK,bx,bG,bu,bF,bt,bE,br,bD]) k
end
end Go.Proofs.YtpklkpkfgmoghaaGreatDoor.Zz
namespace Go.Proofs.YtpklkpkfgmoghaaGreatDoor.Zz
noncomputable section
theorem sn {α:Type} {enc:α→D} {l:List cH} {s:PS} {id:Nat} {h:aa} {K E:D→aa→Prop} {sp:PS→PR α} (e:sp s=.out) (c:cP sp enc l s id h K E):False:=by
 obtain ⟨_,_,c⟩:=c
 rw [e] at c
 exact c
theorem Hm:∀f:Nat,(xM fun l=>nj l f).ok Tryz.prog
 | 0=>by
  refine bm.cL (bm.cL (bm.cL (bm.cL (bm.cL (bm.cL E6 ?_) ?_) ?_) ?_) ?_) ?_
  ·rintro args h K E ⟨l,s,id,k,rfl,hl,c⟩; exact (sn rfl c).elim
  ·rintro args h K E ⟨l,s,id,rfl,hl,c⟩; exact (sn rfl c).elim
  ·rintro args h K E ⟨l,s,id,k,rfl,hl,c⟩; exact (sn rfl c).elim
  ·rintro args h K E ⟨l,s,id,rfl,hl,c⟩; exact (sn rfl c).elim
  ·rintro args h K E ⟨l,s,id,rfl,hl,c⟩; exact (sn rfl c).elim
  ·rintro args h K E ⟨l,s,id,rfl,hl,c⟩; exact (sn rfl c).elim
 | f+1=>by
  have hT:=Hm f
  have hG:∀l,nn (nj l f):=fun l=>sA l f
  refine bm.cL (bm.cL (bm.cL (bm.cL (bm.cL (bm.cL E6 ?_) ?_) ?_) ?_) ?_) ?_
  ·rintro args h K E ⟨l,s,id,k,rfl,hl,c⟩
   exact jq (fun ok K0 E0 hw=>V1 (fun l=>nj l f) hG hT l hl s id k ok K0 E0 hw) c
  ·rintro args h K E ⟨l,s,id,rfl,hl,c⟩
   exact jq (fun ok K0 E0 hw=>TO (fun l=>nj l f) hG hT l hl s id ok K0 E0 hw) c
  ·rintro args h K E ⟨l,s,id,x,rfl,hl,c⟩
   exact jq (fun ok K0 E0 hw=>VT (fun l=>nj l f) hG hT l hl s id x ok K0 E0 hw) c
  ·rintro args h K E ⟨l,s,id,rfl,hl,c⟩
   exact jq (fun ok K0 E0 hw=>RN (fun l=>nj l f) hG hT l hl s id ok K0 E0 hw) c
  ·rintro args h K E ⟨l,s,id,rfl,hl,c⟩
   exact jq (fun ok K0 E0 hw=>XN (fun l=>nj l f) hG hT l hl s id ok K0 E0 hw) c
  ·rintro args h K E ⟨l,s,id,rfl,hl,c⟩
   exact jq (fun ok K0 E0 hw=>M5 (fun l=>nj l f) hG hT l hl s id ok K0 E0 hw) c
end
end Go.Proofs.YtpklkpkfgmoghaaGreatDoor.Zz
namespace Go.Proofs.YtpklkpkfgmoghaaGreatDoor.Zz
noncomputable section
def aeT:cj:=⟨⟨[(12,4)],[(1,1),(2,2),(2,4),(2,6),(3,1),(4,1),(5,1),(7,1),(8,2),(8,4),(9,1),(11,1),(12,2),(12,4),(13,1),(14,1),(16,1),(18,1),(19,4),(19,6),(19,8),(20,1),(21,3)],[],[((19,4),[(.t 5)]),((19,6),[(.t 5)]),((19,8),[(.t 5)]),((21,3),[(.t 5)])],[((19,1),(.t 5)),((21,1),(.t 5))],[]⟩,[(19,[0,1,2,3,5,4,6,7,8,9,10,11,12]),(21,[0,1,2,3,4,5,6,7])],[],false⟩
def aa1:dL:=
 sO [oA 2]
 (.seq (.block 0 (sO [oM 0 7,
 oC 57 [.t 7,(kS [118,97,114])] 8,
 oM 8 6]
 (.cond (.t 6)
 (sO [oM 0 9,
 oM 0 10,
 oC 58 [.t 10] 11,
 oM 0 12,
 oC 59 [.t 12] 13,
 oP (.build zN [(0,1,(kI 2)),(2,1,(.t 11)),(1,1,(.t 13))]) 14,
 oC 35 [.t 9,.t 14] 15,
 oA 3,
 oS 5 3 15]
 (sO [oM 0 16,
 oC 60 [.t 16,kS [61]] 17]
 (sO [oM 0 18,
 oC 61 [.t 18] 19,
 oP (.buildSlice 5 zN 1 [(0,(.t 19))] false) 20,
 oF 4 3 21,
 oS 1 21 20]
 (sO [oM 0 22,
 oC 60 [.t 22,kS [59]] 23]
 (sO [oJ 5 3 24,
 oS 5 2 24]
 (.ret))))))
 (sO [oM 0 26,
 oC 57 [.t 26,(kS [116,101,115,116])] 27,
 oM 27 25]
 (.cond (.t 25)
 (sO [oM 0 28,
 oM 0 29,
 oC 58 [.t 29] 30,
 oP (.build zN [(0,1,(kI 4)),(2,1,(.t 30))]) 31,
 oC 35 [.t 28,.t 31] 32,
 oA 4,
 oS 5 4 32]
 (sO [oM 0 33,
 oC 62 [.t 33] 34,
 oP (.buildSlice 5 zN 1 [(0,(.t 34))] false) 35,
 oF 4 4 36,
 oS 1 36 35]
 (sO [oJ 5 4 37,
 oS 5 2 37]
 (.ret))))
 (.skip))))))
 (sO [oM 0 38,
 oC 60 [.t 38,(kS [102,117,110,99])] 39]
 (sO [oM 0 40,
 oM 0 41,
 oC 58 [.t 41] 42,
 oP (.build zN [(0,1,(kI 3)),(2,1,(.t 42))]) 43,
 oQ (.callR (.f 35) [(.t 40),(.t 43)]) 44,
 oA 5,
 oS 5 5 44]
 (sO [oM 0 45,
 oC 60 [.t 45,kS [40]] 46]
 (.seq (.block 1 (.loop (.seq (sO [oM 0 47,
 oC 57 [.t 47,kS [41]] 48,
 oP (.un .not (.t 48)) 49]
 (.cond (.t 49)
 (.skip)
 (.exit 1)))
 (.block 2 (.seq (sO [oF 4 5 50,
 oL 50 51,
 oZ 51 52,
 oH .gtr 52 0 53]
 (.cond (.t 53)
 (.ops [oM 0 54,
 oC 60 [.t 54,kS [44]] 55])
 (.skip)))
 (.seq (sO [oF 4 5 56,
 oL 56 57,
 oZ 57 58,
 oH .geq 58 6 59]
 (.cond (.t 59)
 (.ops [oM 0 60,
 oC 38 [.t 60,kI 3] 61])
 (.skip)))
 (.fD 62 [oF 4 5 62,
 oQ (.cT none (.t 62) (.t 5)) 63,
 oM 0 64,
 oM 0 65,
 oM 0 67,
 oQ (.callNe (.f 58) [(.t 65)] [(.t 5)]) 66,
 oQ (.callNe (.f 59) [(.t 67)] [(.t 5)]) 68,
 oP (.build zN [(0,1,(kI 5)),(2,1,(.t 66)),(1,1,(.t 68))]) 69,
 oQ (.callNe (.f 35) [(.t 64),(.t 69)] [(.t 5)]) 70,
 oP (.buildSlice 5 zN 1 [(0,(.t 70))] false) 71,
 oQ (.append 5 64 false (.t 63) (.t 71)) 72,
 oF 4 5 73,
 oS 1 73 72])))))))
 (sO [oM 0 74,
 oC 59 [.t 74] 75,
 oF 1 5 76,
 oS 1 76 75]
 (.seq (.fD 77 [oF 4 5 77,
 oQ (.cT none (.t 77) (.t 5)) 78,
 oM 0 79,
 oQ (.callNe (.f 62) [(.t 79)] [(.t 5)]) 80,
 oP (.buildSlice 5 zN 1 [(0,(.t 80))] false) 81,
 oQ (.append 5 64 false (.t 78) (.t 81)) 82,
 oF 4 5 83,
 oS 1 83 82])
 (sO [oJ 5 5 84,
 oS 5 2 84]
 (.ret)))))))))
theorem abz:bJ Tryz.prog 39 aeT=some (aa1,[.cell 2 (some 5)],85):=by kernel_rfl
def T_ (l:List cH) (g:ee) (s:PS):PR Nd:=(fq l rV s).bind fun _ s=>(iN l s).bind fun x s=>(dM l (.mk 3 0 x 0 []) s).bind fun n s=>(fq l [40] s).bind fun _ s=>
 (lC l (l.length+1) n s).bind fun n s=>(pw l s).bind fun t s=>(g.block s).bind fun b s=>.ok ((n.Pu t).dw b) s
theorem NK (l:List cH) (g:ee) (s:PS):nD l g s=(dI l kK s).bind fun b s=>bif b then (iN l s).bind fun x s=>(pw l s).bind fun t s=>(dM l (.mk 2 t x 0 []) s).bind fun n s=>(fq l [61] s).bind fun _ s=>(BE l s).bind fun v s=>(fq l [59] s).bind fun _ s=>.ok (n.bz [v]) s else
 (dI l rW s).bind fun b s=>bif b then (iN l s).bind fun x s=>(dM l (.mk 4 0 x 0 []) s).bind fun n s=>(g.block s).bind fun b s=>.ok (n.bz [b]) s else T_ l g s:=rfl
set_option maxHeartbeats 1000000 in
theorem VY (G:List cH→ee) (hG:∀l,nn (G l)) (hT:(xM G).ok Tryz.prog) (l:List cH) (hl:uL l) (s:PS) (i1:Nat) (ok:cJ l s) (K0:Nd→PS→Prop) (E0:Int→Int→Prop) (hw:jG (nD l (G l) s) (fun x s'=>cJ l s'→K0 x s') E0):aQ Tryz.prog 39 [.ptr i1 1 0] (aa.emp.set i1 (b9 l s)) (lF cG l i1 K0 E0):=by
 refine aQ.du hT (dc:=cS.none) (fun _ _=>cS.eV) (by kernel_rfl) abz (by simp) ?_
 rw [dK]
 have hp:=fun (h:aa) (j:Nat) (B C:cR)=>push_id (id:=i1) h j B C
 rw [NK,aG] at hw
 simp (maxSteps:=1000000) only [aa1,hp,hp,aq,ay,aj,ak,aF,aW,aY,ah,af,ae,ag,az,aE,ao,aD,seval]
 intro i2 an al
 refine ⟨l,s,i1,kK,rfl,hl.lo,(by simp [an,al]),ok,aA (fun b cg e1 k gm=>?_) (fun a e k s'=>?_) hw⟩
 case refine_2=>
  simp only [bB,ae,az]
  exact aC (s':=s') (by simp [an,al]) k
 cases b with
 | true=>
  rw [cond_true,aG] at k
  simp (maxSteps:=1000000) only [hp,an,al,aq,ay,aj,ak,aF,aW,aY,ah,af,ae,ag,az,aE,ao,aD,seval]
  refine ⟨l,cg,i1,rfl,hl.lo,(by simp [an,al]),gm,aA (fun x ea e2 k j5=>?_) (fun a e k s'=>?_) k⟩
  case refine_2=>
   simp only [bB,ae,az]
   exact aC (s':=s') (by simp [an,al]) k
  rw [aG] at k
  simp (maxSteps:=1000000) only [hp,an,al,aq,ay,aj,ak,aF,aW,aY,ah,af,ae,ag,az,aE,ao,aD,seval]
  refine ⟨l,ea,i1,rfl,hl.lo,(by simp [an,al]),j5,aA (fun t eI e3 k nc=>?_) (fun a e k s'=>?_) k⟩
  case refine_2=>
   simp only [bB,ae,az]
   exact aC (s':=s') (by simp [an,al]) k
  rw [aG] at k
  simp (maxSteps:=1000000) only [hp,an,al,aq,ay,aj,ak,aF,aW,aY,ah,af,ae,ag,az,aE,ao,aD,seval]
  refine .inl ⟨l,eI,i1,.mk 2 t x 0 [],by simp only [aT,bA],hl.lo,(by simp [an,al]),nc,aA (fun n mW e4 k uH=>?_) (fun a e k s'=>?_) k⟩
  case refine_2=>
   simp only [bB,ae,az]
   exact aC (s':=s') (by simp [an,al]) k
  obtain ⟨nk,nt,ns,nm,nl⟩:=n
  rw [aG] at k
  simp (maxSteps:=1000000) only [cG,aT,hp,an,al,aq,ay,aj,ak,aF,aW,aY,ah,af,ae,ag,az,aE,ao,aD,seval]
  intro i3 aw au av ar
  refine ⟨l,mW,i1,[61],rfl,hl.lo,(by simp [an,al,aw,au,av,ar]),uH,aA (fun _ xL e5 k DK=>?_) (fun a e k s'=>?_) k⟩
  case refine_2=>
   simp only [bB,ae,az]
   exact aC (s':=s') (by simp [an,al,aw,au,av,ar]) k
  rw [aG] at k
  simp (maxSteps:=1000000) only [hp,an,al,aw,au,av,ar,aq,ay,aj,ak,aF,aW,aY,ah,af,ae,ag,az,aE,ao,aD,seval]
  refine ⟨l,xL,i1,rfl,hl,(by simp [an,al,aw,au,av,ar]),DK,aA (fun v wU e6 k L3=>?_) (fun a e k s'=>?_) k⟩
  case refine_2=>
   simp only [bB,ae,az]
   exact aC (s':=s') (by simp [an,al,aw,au,av,ar]) k
  rw [aG] at k
  simp (maxSteps:=1000000) only [cG,hp,an,al,aw,au,av,ar,aq,ay,aj,ak,aF,aW,aY,ah,af,ae,ag,az,aE,ao,aD,seval]
  refine ⟨l,wU,i1,[59],rfl,hl.lo,(by simp [an,al,aw,au,av,ar]),L3,aA (fun _ B7 e7 k Yv=>?_) (fun a e k s'=>?_) k⟩
  case refine_2=>
   simp only [bB,ae,az]
   exact aC (s':=s') (by simp [an,al,aw,au,av,ar]) k
  rw [cu] at k
  simp (maxSteps:=1000000) only [hp,an,al,aw,au,av,ar,aq,ay,aj,ak,aF,aW,aY,ah,af,ae,ag,az,aE,ao,aD,seval]
  exact cv (x:=.mk nk nt ns nm [v]) (s':=B7) (by rw [cG,aT,cz,bA]) (by simp [an,al,aw,au,av,ar]) (k Yv)
 | false=>
 rw [cond_false,aG] at k
 simp (maxSteps:=1000000) only [hp,an,al,aq,ay,aj,ak,aF,aW,aY,ah,af,ae,ag,az,aE,ao,aD,seval]
 refine ⟨l,cg,i1,rW,rfl,hl.lo,(by simp [an,al]),gm,aA (fun b ea e2 k j5=>?_) (fun a e k s'=>?_) k⟩
 case refine_2=>
  simp only [bB,ae,az]
  exact aC (s':=s') (by simp [an,al]) k
 cases b with
 | true=>
  rw [cond_true,aG] at k
  simp (maxSteps:=1000000) only [hp,an,al,aq,ay,aj,ak,aF,aW,aY,ah,af,ae,ag,az,aE,ao,aD,seval]
  refine ⟨l,ea,i1,rfl,hl.lo,(by simp [an,al]),j5,aA (fun x eI e3 k nc=>?_) (fun a e k s'=>?_) k⟩
  case refine_2=>
   simp only [bB,ae,az]
   exact aC (s':=s') (by simp [an,al]) k
  rw [aG] at k
  simp (maxSteps:=1000000) only [hp,an,al,aq,ay,aj,ak,aF,aW,aY,ah,af,ae,ag,az,aE,ao,aD,seval]
  refine .inl ⟨l,eI,i1,.mk 4 0 x 0 [],by simp only [aT,bA],hl.lo,(by simp [an,al]),nc,aA (fun n mW e4 k uH=>?_) (fun a e k s'=>?_) k⟩
  case refine_2=>
   simp only [bB,ae,az]
   exact aC (s':=s') (by simp [an,al]) k
  obtain ⟨nk,nt,ns,nm,nl⟩:=n
  rw [aG] at k
  simp (maxSteps:=1000000) only [cG,aT,hp,an,al,aq,ay,aj,ak,aF,aW,aY,ah,af,ae,ag,az,aE,ao,aD,seval]
  intro i3 aw au av ar
  refine ⟨l,mW,i1,rfl,hl,(by simp [an,al,aw,au,av,ar]),uH,aA (fun y xL e5 k DK=>?_) (fun a e k s'=>?_) k⟩
  case refine_2=>
   simp only [bB,ae,az]
   exact aC (s':=s') (by simp [an,al,aw,au,av,ar]) k
  rw [cu] at k
  simp (maxSteps:=1000000) only [cG,hp,an,al,aw,au,av,ar,aq,ay,aj,ak,aF,aW,aY,ah,af,ae,ag,az,aE,ao,aD,seval]
  exact cv (x:=.mk nk nt ns nm [y]) (s':=xL) (by rw [cG,aT,cz,bA]) (by simp [an,al,aw,au,av,ar]) (k DK)
 | false=>
 rw [cond_false] at k
 unfold T_ at k
 rw [aG] at k
 simp (maxSteps:=1000000) only [hp,an,al,aq,ay,aj,ak,aF,aW,aY,ah,af,ae,ag,az,aE,ao,aD,seval]
 refine ⟨l,ea,i1,rV,rfl,hl.lo,(by simp [an,al]),j5,aA (fun _ eI e3 k nc=>?_) (fun a e k s'=>?_) k⟩
 case refine_2=>
  simp only [bB,ae,az]
  exact aC (s':=s') (by simp [an,al]) k
 rw [aG] at k
 simp (maxSteps:=1000000) only [hp,an,al,aq,ay,aj,ak,aF,aW,aY,ah,af,ae,ag,az,aE,ao,aD,seval]
 refine ⟨l,eI,i1,rfl,hl.lo,(by simp [an,al]),nc,aA (fun x mW e4 k uH=>?_) (fun a e k s'=>?_) k⟩
 case refine_2=>
  simp only [bB,ae,az]
  exact aC (s':=s') (by simp [an,al]) k
 rw [aG] at k
 simp (maxSteps:=1000000) only [uV,vE,hp,an,al,aq,ay,aj,ak,aF,aW,aY,ah,af,ae,ag,az,aE,ao,aD,seval]
 refine .inr ⟨l,mW,i1,.mk 3 0 x 0 [],rfl,hl.lo,(by simp [an,al]),uH,aA (fun n xL e5 k DK=>?_) (fun a e k s'=>?_) k⟩
 case refine_2=>
  simp only [bB,ae,az]
  exact aC (s':=s') (by simp [an,al]) k
 have hn:=qY e5
 subst hn
 rw [aG] at k
 simp (maxSteps:=1000000) only [vE,hp,an,al,aq,ay,aj,ak,aF,aW,aY,ah,af,ae,ag,az,aE,ao,aD,seval]
 intro i3 aw au av ar
 refine ⟨l,xL,i1,[40],rfl,hl.lo,(by simp [an,al,aw,au,av,ar]),DK,aA (fun _ wU e6 k L3=>?_) (fun a e k s'=>?_) k⟩
 case refine_2=>
  simp only [bB,ae,az]
  exact aC (s':=s') (by simp [an,al,aw,au,av,ar]) k
 rw [aG] at k
 obtain ⟨Kr,k,hKr⟩:∃Kr:Nd→PS→Prop,jG (lC l (l.length+1) (.mk 3 0 x 0 []) wU) Kr E0∧∀n s,Kr n s→jG ((pw l s).bind fun t s=>((G l).block s).bind fun b s=>.ok ((n.Pu t).dw b) s) (fun x s'=>cJ l s'→K0 x s') E0:=⟨_,k,fun _ _ h=>h⟩
 simp (maxSteps:=1000000) only [hp,an,al,aw,au,av,ar,aq,ay,aj,ak,aF,aW,aY,ah,af,ae,ag,az,aE,ao,aD,seval]
 refine c6 (X:=Nat×Nd×Nat×PS) (fun z=>[(0,.ptr i1 1 0),(2,.ptr i2 1 0),(5,.ptr i3 1 0)])
  (fun z=>gC (((aa.emp.set i1 (b9 l z.2.2.2)).set i2 (.cells [.int .i64 0,.int .i64 0,.str [],.int .i64 0,.bg])).set i3 (.cells (kF z.2.1 z.2.2.1))) z.2.1 z.2.2.1) (fun z=>z.1)
  (fun z=>cJ l z.2.2.2∧jG (lC l z.1 z.2.1 z.2.2.2) Kr E0∧(z.2.1.bR≠[]→¬z.2.2.1=i1∧¬z.2.2.1=i2∧¬z.2.2.1=i3)∧z.2.1.bR.length≤6)
  (l.length+1,.mk 3 0 x 0 [],0,wU) ⟨L3,k,fun h=>absurd rfl h,Nat.zero_le _⟩ (by simp only [ao,aD,seval]) (aa.aU _) ?_
 clear hw
 rintro ⟨j,n,r,hU⟩ Q ⟨nT,hw,hr,h6⟩ hQ
 simp only at nT hw hr h6 hQ ⊢
 cases j with
 | zero=>exact hw.elim
 | succ j=>
 unfold lC at hw
 rw [aG] at hw
 obtain ⟨nk,nt,ns,nm,nl⟩:=n
 simp only [Nd.bR] at hw hr h6
 by_cases tf:nl=[]
 ·subst tf
  have hH:∀h:aa,gC h (.mk nk nt ns nm []) r=h:=fun h=>if_pos rfl
  rw [hH,kF,List.length_nil,fX]
  simp (maxSteps:=1000000) only [hp,an,al,aw,au,av,ar,aq,ay,aj,ak,aF,aW,aY,ah,af,ae,ag,az,aE,ao,aD,seval]
  refine ⟨l,hU,i1,[41],rfl,hl.lo,(by simp [an,al,aw,au,av,ar]),nT,aA (fun b cg e1 k gm=>?_) (fun a e k s'=>?_) hw⟩
  case refine_2=>
   simp only [bB,ae,az]
   exact aC (s':=s') (by simp [an,al,aw,au,av,ar]) k
  cases b with
  | true=>
   rw [cond_true,cu] at k
   have k:=hKr _ _ k
   rw [aG] at k
   simp (maxSteps:=1000000) only [hp,an,al,aw,au,av,ar,aq,ay,aj,ak,aF,aW,aY,ah,af,ae,ag,az,aE,ao,aD,seval]
   refine ⟨l,cg,i1,rfl,hl.lo,(by simp [an,al,aw,au,av,ar]),gm,aA (fun t ea e2 k j5=>?_) (fun a e k s'=>?_) k⟩
   case refine_2=>
    simp only [bB,ae,az]
    exact aC (s':=s') (by simp [an,al,aw,au,av,ar]) k
   rw [aG] at k
   simp (maxSteps:=1000000) only [hp,an,al,aw,au,av,ar,aq,ay,aj,ak,aF,aW,aY,ah,af,ae,ag,az,aE,ao,aD,seval]
   refine ⟨l,ea,i1,rfl,hl,(by simp [an,al,aw,au,av,ar]),j5,aA (fun y eI e3 k nc=>?_) (fun a e k s'=>?_) k⟩
   case refine_2=>
    intro σ hσ _
    simp only [bB]
    rw [hσ]
    show eT cS.none [] _ _ _
    simp only [ae,az]
    exact aC (s':=s') (by simp [an,al,aw,au,av,ar]) k
   rw [cu] at k
   simp (maxSteps:=1000000) only [cG,hp,an,al,aw,au,av,ar,aq,ay,aj,ak,aF,aW,aY,ah,af,ae,ag,az,aE,ao,aD,seval]
   intro i4 aJ aM aI aL aH aK
   simp (maxSteps:=1000000) only [hp,an,al,aw,au,av,ar,aJ,aM,aI,aL,aH,aK,aq,ay,aj,ak,aF,aW,aY,ah,af,ae,ag,az,aE,ao,aD,seval]
   exact fU (x:=.mk nk t ns nm [y]) (s':=eI) (by rw [cG,aT,cz,bA]) (by simp [an,al,aw,au,av,ar,aJ,aM,aI,aL,aH,aK]) (k nc)
  | false=>
   rw [cond_false] at k
   replace k:jG ((iN l cg).bind fun x s=>(pw l s).bind fun t s=>(dM l (.mk 5 t x 0 []) s).bind fun m s=>lC l j ((Nd.mk nk nt ns nm []).dw m) s) Kr E0:=k
   rw [aG] at k
   simp (maxSteps:=1000000) only [hp,an,al,aw,au,av,ar,aq,ay,aj,ak,aF,aW,aY,ah,af,ae,ag,az,aE,ao,aD,seval]
   refine ⟨l,cg,i1,rfl,hl.lo,(by simp [an,al,aw,au,av,ar]),gm,aA (fun x ea e2 k j5=>?_) (fun a e k s'=>?_) k⟩
   case refine_2=>
    intro σ hσ _
    simp only [bB]
    rw [hσ]
    show eT cS.none [] _ _ _
    simp only [ae,az]
    exact aC (s':=s') (by simp [an,al,aw,au,av,ar]) k
   rw [aG] at k
   simp (maxSteps:=1000000) only [hp,an,al,aw,au,av,ar,aq,ay,aj,ak,aF,aW,aY,ah,af,ae,ag,az,aE,ao,aD,seval]
   refine ⟨l,ea,i1,rfl,hl.lo,(by simp [an,al,aw,au,av,ar]),j5,aA (fun t eI e3 k nc=>?_) (fun a e k s'=>?_) k⟩
   case refine_2=>
    intro σ hσ _
    simp only [bB]
    rw [hσ]
    show eT cS.none [] _ _ _
    simp only [ae,az]
    exact aC (s':=s') (by simp [an,al,aw,au,av,ar]) k
   rw [aG] at k
   simp (maxSteps:=1000000) only [hp,an,al,aw,au,av,ar,aq,ay,aj,ak,aF,aW,aY,ah,af,ae,ag,az,aE,ao,aD,seval]
   refine .inl ⟨l,eI,i1,.mk 5 t x 0 [],by simp only [aT,bA],hl.lo,(by simp [an,al,aw,au,av,ar]),nc,aA (fun m mW e4 k uH=>?_) (fun a e k s'=>?_) k⟩
   case refine_2=>
    intro σ hσ _
    simp only [bB]
    rw [hσ]
    show eT cS.none [] _ _ _
    simp only [ae,az]
    exact aC (s':=s') (by simp [an,al,aw,au,av,ar]) k
   simp (maxSteps:=1000000) only [cG,hp,an,al,aw,au,av,ar,aq,ay,aj,ak,aF,aW,aY,ah,af,ae,ag,az,aE,ao,aD,seval]
   intro i4 aJ aM aI aL aH aK
   simp (maxSteps:=1000000) only [hp,an,al,aw,au,av,ar,aJ,aM,aI,aL,aH,aK,aq,ay,aj,ak,aF,aW,aY,ah,af,ae,ag,az,aE,ao,aD,seval]
   refine hQ (j,.mk nk nt ns nm [m],i4,mW) _ _ ⟨uH,k,fun _=>⟨aH,aI,aJ⟩,by simp [Nd.bR]⟩ (by simp only [ao,aD,seval]) ?_ (by simp only; omega)
   simp only [gC,Nd.bR,kF,List.length_cons,List.length_nil,cz,bA,reduceCtorEq,if_false,cB (Nat.succ_ne_zero 0)]
   exact aa.dV (by repeat' first | ax exact aa.bK | ax exact aa.bO | refine aa.cU (by simp [an,al,aw,au,av,ar,aJ,aM,aI,aL,aH,aK]) ?_ | refine aa.cZ (by simp [an,al,aw,au,av,ar,aJ,aM,aI,aL,aH,aK]) ?_)
 ·obtain ⟨i4,rfl⟩:∃q,q=r:=⟨r,rfl⟩
  obtain ⟨aH,aI,aJ⟩:=hr tf
  have aK:¬i1=i4:=fun e=>aH e.symm
  have aL:¬i2=i4:=fun e=>aI e.symm
  have aM:¬i3=i4:=fun e=>aJ e.symm
  have hH:∀h:aa,gC h (.mk nk nt ns nm nl) i4=h.set i4 (.row 5 (nl.length+2) (Nd.cW nl) false):=fun h=>if_neg tf
  have FL:nl.length≠0:=fun e=>tf (List.length_eq_zero_iff.1 e)
  have tk:(Nd.cW nl).take nl.length=Nd.cW nl:=List.take_of_length_le (by rw [aX]; omega)
  rw [hH,kF,cB FL]
  simp (maxSteps:=1000000) only [hp,an,al,aw,au,av,ar,aJ,aM,aI,aL,aH,aK,aq,ay,aj,ak,aF,aW,aY,ah,af,ae,ag,az,aE,ao,aD,seval]
  refine ⟨l,hU,i1,[41],rfl,hl.lo,(by simp [an,al,aw,au,av,ar,aJ,aM,aI,aL,aH,aK]),nT,aA (fun b cg e1 k gm=>?_) (fun a e k s'=>?_) hw⟩
  case refine_2=>
   simp only [bB,ae,az]
   exact aC (s':=s') (by simp [an,al,aw,au,av,ar,aJ,aM,aI,aL,aH,aK]) k
  cases b with
  | true=>
   rw [cond_true,cu] at k
   have k:=hKr _ _ k
   rw [aG] at k
   simp (maxSteps:=1000000) only [hp,an,al,aw,au,av,ar,aJ,aM,aI,aL,aH,aK,aq,ay,aj,ak,aF,aW,aY,ah,af,ae,ag,az,aE,ao,aD,seval]
   refine ⟨l,cg,i1,rfl,hl.lo,(by simp [an,al,aw,au,av,ar,aJ,aM,aI,aL,aH,aK]),gm,aA (fun t ea e2 k j5=>?_) (fun a e k s'=>?_) k⟩
   case refine_2=>
    simp only [bB,ae,az]
    exact aC (s':=s') (by simp [an,al,aw,au,av,ar,aJ,aM,aI,aL,aH,aK]) k
   rw [aG] at k
   simp (maxSteps:=1000000) only [hp,an,al,aw,au,av,ar,aJ,aM,aI,aL,aH,aK,aq,ay,aj,ak,aF,aW,aY,ah,af,ae,ag,az,aE,ao,aD,seval]
   refine ⟨l,ea,i1,rfl,hl,(by simp [an,al,aw,au,av,ar,aJ,aM,aI,aL,aH,aK]),j5,aA (fun y eI e3 k nc=>?_) (fun a e k s'=>?_) k⟩
   case refine_2=>
    intro σ hσ _
    simp only [bB]
    rw [hσ]
    show eT cS.none [] _ _ _
    simp only [ae,az]
    exact aC (s':=s') (by simp [an,al,aw,au,av,ar,aJ,aM,aI,aL,aH,aK]) k
   rw [cu] at k
   have tk2:(Nd.cW nl++[y.enc]).take (nl.length+1)=Nd.cW nl++[y.enc]:=List.take_of_length_le (by rw [List.length_append,aX]; simp)
   have hle:(Nd.cW nl++[y.enc]).length=nl.length+1:=by rw [List.length_append,aX]; simp
   simp (maxSteps:=1000000) only [cG,aX,hp,an,al,aw,au,av,ar,aJ,aM,aI,aL,aH,aK,aq,ay,aj,ak,aF,aW,aY,ah,af,ae,ag,az,aE,ao,aD,seval]
   refine ⟨by omega,?_⟩
   simp (maxSteps:=1000000) only [aX,tk2,hle,hp,an,al,aw,au,av,ar,aJ,aM,aI,aL,aH,aK,aq,ay,aj,ak,aF,aW,aY,ah,af,ae,ag,az,aE,ao,aD,seval]
   exact fU (x:=.mk nk t ns nm (nl++[y])) (s':=eI) (by rw [cG,aT,←j8]) (by simp [an,al,aw,au,av,ar,aJ,aM,aI,aL,aH,aK]) (k nc)
  | false=>
   rw [cond_false,aG] at k
   have g0:((nl.length:Int)>0)=True:=eq_true (by omega)
   replace k:=iB (p:=fq l [44] cg) (by simp; omega) k
   simp (maxSteps:=1000000) only [g0,aX,hp,an,al,aw,au,av,ar,aJ,aM,aI,aL,aH,aK,aq,ay,aj,ak,aF,aW,aY,ah,af,ae,ag,az,aE,ao,aD,seval]
   intro _
   refine ⟨l,cg,i1,[44],rfl,hl.lo,(by simp [an,al,aw,au,av,ar,aJ,aM,aI,aL,aH,aK]),gm,aA (fun _ ea e2 k j5=>?_) (fun a e k s'=>?_) k⟩
   case refine_2=>
    simp only [bB,ae,az]
    exact aC (s':=s') (by simp [an,al,aw,au,av,ar,aJ,aM,aI,aL,aH,aK]) k
   by_cases jX:nl.length≥6
   ·have g3:((nl.length:Int)≥6)=True:=eq_true (by omega)
    replace k:=iB (p:=il l 3 ea) (by simpa [Nd.bR] using jX) k
    simp (maxSteps:=1000000) only [g3,aX,hp,an,al,aw,au,av,ar,aJ,aM,aI,aL,aH,aK,aq,ay,aj,ak,aF,aW,aY,ah,af,ae,ag,az,aE,ao,aD,seval]
    intro _
    refine ⟨l,ea,i1,3,rfl,(by simp [an,al,aw,au,av,ar,aJ,aM,aI,aL,aH,aK]),j5.at_,?_⟩
    simp only [bB]
    show eT cS.none [] _ _ _
    simp only [ae,az]
    exact aC (s':=ea) (by simp [an,al,aw,au,av,ar,aJ,aM,aI,aL,aH,aK]) k
   ·have g3:((nl.length:Int)≥6)=False:=eq_false (by omega)
    replace k:=mS (q:=(iN l ea).bind fun x s=>(pw l s).bind fun t s=>(dM l (.mk 5 t x 0 []) s).bind fun m s=>lC l j ((Nd.mk nk nt ns nm nl).dw m) s) (by simpa [Nd.bR] using jX) k
    rw [aG] at k
    simp (maxSteps:=1000000) only [g3,aX,hp,an,al,aw,au,av,ar,aJ,aM,aI,aL,aH,aK,aq,ay,aj,ak,aF,aW,aY,ah,af,ae,ag,az,aE,ao,aD,seval]
    intro _
    refine ⟨l,ea,i1,rfl,hl.lo,(by simp [an,al,aw,au,av,ar,aJ,aM,aI,aL,aH,aK]),j5,aA (fun x eI e3 k nc=>?_) (fun a e k s'=>?_) k⟩
    case refine_2=>
     intro σ hσ _
     simp only [bB]
     rw [hσ]
     show eT cS.none [] _ _ _
     simp only [ae,az]
     exact aC (s':=s') (by simp [an,al,aw,au,av,ar,aJ,aM,aI,aL,aH,aK]) k
    rw [aG] at k
    simp (maxSteps:=1000000) only [hp,an,al,aw,au,av,ar,aJ,aM,aI,aL,aH,aK,aq,ay,aj,ak,aF,aW,aY,ah,af,ae,ag,az,aE,ao,aD,seval]
    refine ⟨l,eI,i1,rfl,hl.lo,(by simp [an,al,aw,au,av,ar,aJ,aM,aI,aL,aH,aK]),nc,aA (fun t mW e4 k uH=>?_) (fun a e k s'=>?_) k⟩
    case refine_2=>
     intro σ hσ _
     simp only [bB]
     rw [hσ]
     show eT cS.none [] _ _ _
     simp only [ae,az]
     exact aC (s':=s') (by simp [an,al,aw,au,av,ar,aJ,aM,aI,aL,aH,aK]) k
    rw [aG] at k
    simp (maxSteps:=1000000) only [hp,an,al,aw,au,av,ar,aJ,aM,aI,aL,aH,aK,aq,ay,aj,ak,aF,aW,aY,ah,af,ae,ag,az,aE,ao,aD,seval]
    refine .inl ⟨l,mW,i1,.mk 5 t x 0 [],by simp only [aT,bA],hl.lo,(by simp [an,al,aw,au,av,ar,aJ,aM,aI,aL,aH,aK]),uH,aA (fun m xL e5 k DK=>?_) (fun a e k s'=>?_) k⟩
    case refine_2=>
     intro σ hσ _
     simp only [bB]
     rw [hσ]
     show eT cS.none [] _ _ _
     simp only [ae,az]
     exact aC (s':=s') (by simp [an,al,aw,au,av,ar,aJ,aM,aI,aL,aH,aK]) k
    simp (maxSteps:=1000000) only [cG,aX,hp,an,al,aw,au,av,ar,aJ,aM,aI,aL,aH,aK,aq,ay,aj,ak,aF,aW,aY,ah,af,ae,ag,az,aE,ao,aD,seval]
    refine ⟨by omega,hQ (j,.mk nk nt ns nm (nl++[m]),i4,xL) _ _ ⟨DK,k,fun _=>⟨aH,aI,aJ⟩,by simp [Nd.bR]; omega⟩ (by simp only [ao,aD,seval]) ?_ (by simp only; omega)⟩
    have iC:nl++[m]≠[]:=by simp
    simp only [gC,Nd.bR,kF,List.length_append,List.length_cons,List.length_nil,iC,if_false,←j8,cB (show nl.length+(0+1)≠0 by omega)]
    rw [show nl.length+2+1=nl.length+(0+1)+2 by omega]
    exact aa.dV (by repeat' first | ax exact aa.bK | ax exact aa.bO | refine aa.cU (by simp [an,al,aw,au,av,ar,aJ,aM,aI,aL,aH,aK]) ?_ | refine aa.cZ (by simp [an,al,aw,au,av,ar,aJ,aM,aI,aL,aH,aK]) ?_)
theorem NJ (f:Nat) (args:List D) (h:aa) (K E:D→aa→Prop) (c:∃(l:List cH) (s:PS) (id:Nat),args=[.ptr id 1 0]∧uL l∧cP (nD l (nj l f)) cG l s id h K E):aQ Tryz.prog 39 args h (dF.to K E):=by
 obtain ⟨l,s,id,rfl,hl,c⟩:=c
 exact jq (fun ok K0 E0 hw=>VY (fun l=>nj l f) (fun l=>sA l f) (Hm f) l hl s id ok K0 E0 hw) c
end
end Go.Proofs.YtpklkpkfgmoghaaGreatDoor.Zz
