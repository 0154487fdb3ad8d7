/- Contracts: programs. -/
import Derived.Test.YtpklkpkfgmoghaaGreatDoorZP13
import Derived.Test.YtpklkpkfgmoghaaGreatDoorZP17
import Derived.Test.YtpklkpkfgmoghaaGreatDoorZA0
set_option linter.unnecessarySimpa false
set_option linter.unusedVariables false
set_option linter.unusedSimpArgs false
set_option maxRecDepth 20000
namespace Go.Proofs.YtpklkpkfgmoghaaGreatDoor.Zz
noncomputable section
def aeF:cj:=⟨⟨[(1,2)],[(1,2),(3,1),(4,1),(8,1),(9,3)],[],[((9,3),[(.t 3)])],[((9,1),(.t 3))],[]⟩,[(9,[0,1,2,3,4,5,6,7])],[],false⟩
def aaS:dL:=
 sO [oA 2]
 (sO [oM 0 6,
 oP (.build zN [(0,1,(kI 1))]) 7,
 oQ (.callR (.f 35) [(.t 6),(.t 7)]) 8,
 oA 3,
 oS 5 3 8]
 (sO [oP (.cy (kI 0)) 4,
 oP (.cy (kI 0)) 5]
 (.seq (.block 0 (.loop (.seq (sO [oM 0 9,
 oC 36 [.t 9] 10,
 oP (.field 0 none (.t 10)) 11,
 oH .neq 11 0 12]
 (.cond (.t 12)
 (.skip)
 (.exit 0)))
 (.block 1 (.seq (sO [oM 0 13,
 oC 37 [.t 13,(kS [118,97,114])] 14]
 (.cond (.t 14)
 (.ops [oM 5 15,
 oH .add 15 1 16,
 oM 16 5])
 (.ops [oM 4 17,
 oH .add 17 1 18,
 oM 18 4])))
 (.seq (sO [oM 5 19,
 oH .gtr 19 16 20,
 oM 20 21,
 oG (.cy (.t 4)) 22 21 false true,
 oG (.bin .gtr (.t 22) (kI 32)) 23 21 false true,
 oP (.pick (.t 21) (kB true) (.t 23)) 24]
 (.cond (.t 24)
 (.ops [oM 0 25,
 oC 38 [.t 25,kI 3] 26])
 (.skip)))
 (.fD 27 [oF 4 3 27,
 oQ (.cT none (.t 27) (.t 3)) 28,
 oM 0 29,
 oQ (.callNe (.f 39) [(.t 29)] [(.t 3)]) 30,
 oP (.buildSlice 5 zN 1 [(0,(.t 30))] false) 31,
 oQ (.append 5 64 false (.t 28) (.t 31)) 32,
 oF 4 3 33,
 oS 1 33 32])))))))
 (sO [oJ 5 3 34,
 oS 5 2 34]
 (.ret)))))
theorem abm:bJ Tryz.prog 22 aeF=some (aaS,[.cell 2 (some 5)],35):=by kernel_rfl
def HB (f:Nat) (args:List D) (h:aa) (K E:D→aa→Prop):Prop:=∃(l:List cH) (s:PS) (id:Nat),args=[.ptr id 1 0]∧uL l∧cP (nD l (nj l f)) cG l s id h K E
theorem F7 (f:Nat) (args:List D) (h:aa) (K E K' E':D→aa→Prop) (hk:∀d h,K d h→K' d h) (he:∀d h,E d h→E' d h) (c:HB f args h K E):HB f args h K' E':=by
 obtain ⟨l,s,id,a,b,c⟩:=c
 exact ⟨l,s,id,a,b,eO hk he c⟩
def tbD (f:Nat):bm:=(xM fun l=>nj l f).kc 39 (HB f) (F7 f)
theorem UX {f:Nat}:(tbD f).q=(xM fun l=>nj l f).q:=rfl
theorem UU {f:Nat}:(tbD f).a=(xM fun l=>nj l f).a:=rfl
theorem UW {f:Nat} (g:FuncId) (args:List D) (h:aa) (K E:D→aa→Prop):(tbD f).c g args h K E=if g=39 then HB f args h K E else (xM fun l=>nj l f).c g args h K E:=rfl
theorem gB:a7% (And.intro @UX (And.intro @UU @UW)):=And.intro @UX (And.intro @UU @UW)
theorem XQ (f:Nat):(tbD f).ok Tryz.prog:=bm.cL (Hm f) fun args h K E c=>NJ f args h K E c
set_option maxHeartbeats 1000000 in
theorem L_ (f:Nat) (l:List cH) (hl:uL l) (s:PS) (i1:Nat) (ok:cJ l s) (K0:Nd→PS→Prop) (E0:Int→Int→Prop) (hw:jG (wK l (nj l f) s) (fun x s'=>cJ l s'→K0 x s') E0):aQ Tryz.prog 22 [.ptr i1 1 0] (aa.emp.set i1 (b9 l s)) (lF cG l i1 K0 E0):=by
 refine aQ.du (XQ f) (dc:=cS.none) (fun _ _=>cS.eV) (by kernel_rfl) abm (by simp) ?_
 rw [dK]
 have hp:=fun (h:aa) (j:Nat) (B C:cR)=>push_id (id:=i1) h j B C
 unfold wK at hw
 rw [aG] at hw
 simp (maxSteps:=1000000) only [aaS,gB,uV,hp,hp,aq,ay,aj,ak,aF,aW,aY,ah,af,ae,ag,az,aE,ao,aD,seval]
 intro i2 an al
 refine .inr ⟨l,s,i1,.mk 1 0 [] 0 [],rfl,hl.lo,(by simp [an,al]),ok,aA (fun n cg e1 k gm=>?_) (fun a e k s'=>?_) hw⟩
 case refine_2=>
  simp only [bB,ae,az]
  exact aC (s':=s') (by simp [an,al]) k
 have hn:=qY e1
 subst hn
 simp (maxSteps:=1000000) only [vE,gB,hp,an,al,aq,ay,aj,ak,aF,aW,aY,ah,af,ae,ag,az,aE,ao,aD,seval]
 intro i3 aw au av ar
 refine c6 (X:=Nat×Nd×Nat×PS×Int×Int) (fun z=>[(0,.ptr i1 1 0),(2,.ptr i2 1 0),(3,.ptr i3 1 0),(4,.int .i64 z.2.2.2.2.1),(5,.int .i64 z.2.2.2.2.2)])
  (fun z=>gC (((aa.emp.set i1 (b9 l z.2.2.2.1)).set i2 (.cells [.int .i64 0,.int .i64 0,.str [],.int .i64 0,.bg])).set i3 (.cells (kF z.2.1 z.2.2.1))) z.2.1 z.2.2.1) (fun z=>z.1)
  (fun z=>cJ l z.2.2.2.1∧jG (pL l (nj l f) z.1 z.2.2.2.2.1 z.2.2.2.2.2 z.2.1 z.2.2.2.1) (fun x s'=>cJ l s'→K0 x s') E0∧(z.2.1.bR≠[]→¬z.2.2.1=i1∧¬z.2.2.1=i2∧¬z.2.2.1=i3)∧0≤z.2.2.2.2.1∧z.2.2.2.2.1≤32∧0≤z.2.2.2.2.2∧z.2.2.2.2.2≤16∧(z.2.1.bR.length:Int)≤z.2.2.2.2.1+z.2.2.2.2.2)
  (l.length+1,.mk 1 0 [] 0 [],0,cg,0,0) ⟨gm,k,fun h=>absurd rfl h,(show (0:Int)≤0 by omega),(show (0:Int)≤32 by omega),(show (0:Int)≤0 by omega),(show (0:Int)≤16 by omega),(show ((0:Nat):Int)≤0+0 by omega)⟩ (by simp only [ao,aD,seval]) (aa.aU _) ?_
 clear hw
 rintro ⟨j,n,r,hU,fs,gs⟩ Q ⟨nT,hw,hr,f0,f1,g0,g1,h6⟩ hQ
 simp only at nT hw hr h6 f0 f1 g0 g1 hQ ⊢
 cases j with
 | zero=>exact hw.elim
 | succ j=>
 unfold pL at hw
 obtain ⟨nk,nt,ns,nm,nl⟩:=n
 simp only [Nd.bR] at hw hr h6
 by_cases tf:nl=[]
 ·subst tf
  have hH:∀h:aa,gC h (.mk nk nt ns nm []) r=h:=fun h=>if_pos rfl
  rw [hH,kF,List.length_nil,fX]
  simp (maxSteps:=1000000) only [gB,hp,an,al,aw,au,av,ar,aq,ay,aj,ak,aF,aW,aY,ah,af,ae,ag,az,aE,ao,aD,seval]
  refine ⟨l,hU,i1,rfl,(by simp [an,al,aw,au,av,ar]),nT.at_,?_⟩
  cases jU:((d8 l hU).1 != 0) with
  | false=>
   have k:=mS (q:=(.ok (Nd.mk nk nt ns nm []) hU:PR Nd)) jU hw
   rw [cu] at k
   generalize d8 l hU=t at*
   obtain ⟨kk,y,a⟩:=t
   simp only at jU
   simp (maxSteps:=1000000) only [gj,jU,gB,hp,an,al,aw,au,av,ar,aq,ay,aj,ak,aF,aW,aY,ah,af,ae,ag,az,aE,ao,aD,seval]
   exact fU (x:=.mk nk nt ns nm []) (s':=hU) (by rw [cG,aT,bA]) (by simp [an,al,aw,au,av,ar]) (k nT)
  | true=>
   have k:=iB jU hw
   have Sf:lZ l kK hU=lZ l kK hU:=rfl
   generalize hv:lZ l kK hU=v at k
   generalize d8 l hU=t at jU
   obtain ⟨kk,y,a⟩:=t
   simp only at jU
   simp (maxSteps:=1000000) only [gj,jU,gB,hp,an,al,aw,au,av,ar,aq,ay,aj,ak,aF,aW,aY,ah,af,ae,ag,az,aE,ao,aD,seval]
   refine ⟨l,hU,i1,kK,rfl,(by simp [an,al,aw,au,av,ar]),nT.at_,?_⟩
   rw [hv]
   clear Sf
   cases v with
   | true=>
    have w2:IntKind.i64.wrap (gs+1)=gs+1:=wrap_i64 (by omega) (by omega)
    by_cases jX:gs+1>16
    ·have wN:(gs+1>16)=True:=eq_true jX
     have wO:(fs>32)=False:=eq_false (by omega)
     replace k:=iB (p:=(il l 3 hU:PR Nd)) (by simp only [cond_true,cond_false,Bool.or_eq_true,decide_eq_true_eq]; omega) k
     simp (maxSteps:=1000000) only [w2,wN,wO,gB,hp,an,al,aw,au,av,ar,aq,ay,aj,ak,aF,aW,aY,ah,af,ae,ag,az,aE,ao,aD,seval]
     refine ⟨l,hU,i1,3,rfl,(by simp [an,al,aw,au,av,ar]),nT.at_,?_⟩
     simp only [bB]
     show eT cS.none [] _ _ _
     simp only [ae,az]
     exact aC (s':=hU) (by simp [an,al,aw,au,av,ar]) k
    ·have wN:(gs+1>16)=False:=eq_false jX
     have wO:(fs>32)=False:=eq_false (by omega)
     replace k:=mS (q:=((nD l (nj l f) hU).bind fun d s=>pL l (nj l f) j (fs) (gs+1) ((Nd.mk nk nt ns nm []).dw d) s)) (by simp only [cond_true,cond_false,Bool.or_eq_false_iff,decide_eq_false_iff_not]; omega) k
     rw [aG] at k
     simp (maxSteps:=1000000) only [w2,wN,wO,gB,hp,an,al,aw,au,av,ar,aq,ay,aj,ak,aF,aW,aY,ah,af,ae,ag,az,aE,ao,aD,seval]
     refine ⟨l,hU,i1,rfl,hl,(by simp [an,al,aw,au,av,ar]),nT,aA (fun y cg e1 k gm=>?_) (fun a e k s'=>?_) k⟩
     case refine_2=>
      intro σ hσ _
      simp only [bB]
      rw [hσ]
      show eT cS.none [] _ _ _
      simp only [ae,az]
      exact aC (s':=s') (by simp [an,al,aw,au,av,ar]) k
     simp (maxSteps:=1000000) only [cG,gB,hp,an,al,aw,au,av,ar,aq,ay,aj,ak,aF,aW,aY,ah,af,ae,ag,az,aE,ao,aD,seval]
     intro i4 aJ aM aI aL aH aK
     simp (maxSteps:=1000000) only [gB,hp,an,al,aw,au,av,ar,aJ,aM,aI,aL,aH,aK,aq,ay,aj,ak,aF,aW,aY,ah,af,ae,ag,az,aE,ao,aD,seval]
     refine hQ (j,.mk nk nt ns nm [y],i4,cg,fs,gs+1) _ _ ⟨gm,k,fun _=>⟨aH,aI,aJ⟩,by simp only; omega,by simp only; omega,by simp only; omega,by simp only; omega,by simp only [Nd.bR,List.length_cons,List.length_nil]; omega⟩ (by simp only [ao,aD,seval]) ?_ (by simp only; omega)
     simp only [gC,Nd.bR,kF,List.length_cons,List.length_nil,cz,bA,reduceCtorEq,if_false,cB (Nat.succ_ne_zero 0)]
     exact aa.dV (by repeat' first | ax exact aa.bK | ax exact aa.bO | refine aa.cU (by simp [an,al,aw,au,av,ar,aJ,aM,aI,aL,aH,aK]) ?_ | refine aa.cZ (by simp [an,al,aw,au,av,ar,aJ,aM,aI,aL,aH,aK]) ?_)
   | false=>
    have w2:IntKind.i64.wrap (fs+1)=fs+1:=wrap_i64 (by omega) (by omega)
    by_cases jX:fs+1>32
    ·have wO:(fs+1>32)=True:=eq_true jX
     have wN:(gs>16)=False:=eq_false (by omega)
     replace k:=iB (p:=(il l 3 hU:PR Nd)) (by simp only [cond_true,cond_false,Bool.or_eq_true,decide_eq_true_eq]; omega) k
     simp (maxSteps:=1000000) only [w2,wN,wO,gB,hp,an,al,aw,au,av,ar,aq,ay,aj,ak,aF,aW,aY,ah,af,ae,ag,az,aE,ao,aD,seval]
     refine ⟨l,hU,i1,3,rfl,(by simp [an,al,aw,au,av,ar]),nT.at_,?_⟩
     simp only [bB]
     show eT cS.none [] _ _ _
     simp only [ae,az]
     exact aC (s':=hU) (by simp [an,al,aw,au,av,ar]) k
    ·have wO:(fs+1>32)=False:=eq_false jX
     have wN:(gs>16)=False:=eq_false (by omega)
     replace k:=mS (q:=((nD l (nj l f) hU).bind fun d s=>pL l (nj l f) j (fs+1) (gs) ((Nd.mk nk nt ns nm []).dw d) s)) (by simp only [cond_true,cond_false,Bool.or_eq_false_iff,decide_eq_false_iff_not]; omega) k
     rw [aG] at k
     simp (maxSteps:=1000000) only [w2,wN,wO,gB,hp,an,al,aw,au,av,ar,aq,ay,aj,ak,aF,aW,aY,ah,af,ae,ag,az,aE,ao,aD,seval]
     refine ⟨l,hU,i1,rfl,hl,(by simp [an,al,aw,au,av,ar]),nT,aA (fun y cg e1 k gm=>?_) (fun a e k s'=>?_) k⟩
     case refine_2=>
      intro σ hσ _
      simp only [bB]
      rw [hσ]
      show eT cS.none [] _ _ _
      simp only [ae,az]
      exact aC (s':=s') (by simp [an,al,aw,au,av,ar]) k
     simp (maxSteps:=1000000) only [cG,gB,hp,an,al,aw,au,av,ar,aq,ay,aj,ak,aF,aW,aY,ah,af,ae,ag,az,aE,ao,aD,seval]
     intro i4 aJ aM aI aL aH aK
     simp (maxSteps:=1000000) only [gB,hp,an,al,aw,au,av,ar,aJ,aM,aI,aL,aH,aK,aq,ay,aj,ak,aF,aW,aY,ah,af,ae,ag,az,aE,ao,aD,seval]
     refine hQ (j,.mk nk nt ns nm [y],i4,cg,fs+1,gs) _ _ ⟨gm,k,fun _=>⟨aH,aI,aJ⟩,by simp only; omega,by simp only; omega,by simp only; omega,by simp only; omega,by simp only [Nd.bR,List.length_cons,List.length_nil]; omega⟩ (by simp only [ao,aD,seval]) ?_ (by simp only; omega)
     simp only [gC,Nd.bR,kF,List.length_cons,List.length_nil,cz,bA,reduceCtorEq,if_false,cB (Nat.succ_ne_zero 0)]
     exact aa.dV (by repeat' first | ax exact aa.bK | ax exact aa.bO | refine aa.cU (by simp [an,al,aw,au,av,ar,aJ,aM,aI,aL,aH,aK]) ?_ | refine aa.cZ (by simp [an,al,aw,au,av,ar,aJ,aM,aI,aL,aH,aK]) ?_)
 ·obtain ⟨i4,rfl⟩:∃q,q=r:=⟨r,rfl⟩
  obtain ⟨aH,aI,aJ⟩:=hr tf
  have aK:¬i1=i4:=fun e=>aH e.symm
  have aL:¬i2=i4:=fun e=>aI e.symm
  have aM:¬i3=i4:=fun e=>aJ e.symm
  have hH:∀h:aa,gC h (.mk nk nt ns nm nl) i4=h.set i4 (.row 5 (nl.length+2) (Nd.cW nl) false):=fun h=>if_neg tf
  have FL:nl.length≠0:=fun e=>tf (List.length_eq_zero_iff.1 e)
  have tk:(Nd.cW nl).take nl.length=Nd.cW nl:=List.take_of_length_le (by rw [aX]; omega)
  rw [hH,kF,cB FL]
  simp (maxSteps:=1000000) only [gB,hp,an,al,aw,au,av,ar,aJ,aM,aI,aL,aH,aK,aq,ay,aj,ak,aF,aW,aY,ah,af,ae,ag,az,aE,ao,aD,seval]
  refine ⟨l,hU,i1,rfl,(by simp [an,al,aw,au,av,ar,aJ,aM,aI,aL,aH,aK]),nT.at_,?_⟩
  cases jU:((d8 l hU).1 != 0) with
  | false=>
   have k:=mS (q:=(.ok (Nd.mk nk nt ns nm nl) hU:PR Nd)) jU hw
   rw [cu] at k
   generalize d8 l hU=t at*
   obtain ⟨kk,y,a⟩:=t
   simp only at jU
   simp (maxSteps:=1000000) only [gj,jU,aX,tk,gB,hp,an,al,aw,au,av,ar,aJ,aM,aI,aL,aH,aK,aq,ay,aj,ak,aF,aW,aY,ah,af,ae,ag,az,aE,ao,aD,seval]
   exact fU (x:=.mk nk nt ns nm nl) (s':=hU) (by rw [cG,aT]) (by simp [an,al,aw,au,av,ar,aJ,aM,aI,aL,aH,aK]) (k nT)
  | true=>
   have k:=iB jU hw
   generalize hv:lZ l kK hU=v at k
   generalize d8 l hU=t at jU
   obtain ⟨kk,y,a⟩:=t
   simp only at jU
   simp (maxSteps:=1000000) only [gj,jU,gB,hp,an,al,aw,au,av,ar,aJ,aM,aI,aL,aH,aK,aq,ay,aj,ak,aF,aW,aY,ah,af,ae,ag,az,aE,ao,aD,seval]
   refine ⟨l,hU,i1,kK,rfl,(by simp [an,al,aw,au,av,ar,aJ,aM,aI,aL,aH,aK]),nT.at_,?_⟩
   rw [hv]
   cases v with
   | true=>
    have w2:IntKind.i64.wrap (gs+1)=gs+1:=wrap_i64 (by omega) (by omega)
    by_cases jX:gs+1>16
    ·have wN:(gs+1>16)=True:=eq_true jX
     have wO:(fs>32)=False:=eq_false (by omega)
     replace k:=iB (p:=(il l 3 hU:PR Nd)) (by simp only [cond_true,cond_false,Bool.or_eq_true,decide_eq_true_eq]; omega) k
     simp (maxSteps:=1000000) only [w2,wN,wO,aX,gB,hp,an,al,aw,au,av,ar,aJ,aM,aI,aL,aH,aK,aq,ay,aj,ak,aF,aW,aY,ah,af,ae,ag,az,aE,ao,aD,seval]
     refine ⟨l,hU,i1,3,rfl,(by simp [an,al,aw,au,av,ar,aJ,aM,aI,aL,aH,aK]),nT.at_,?_⟩
     simp only [bB]
     show eT cS.none [] _ _ _
     simp only [ae,az]
     exact aC (s':=hU) (by simp [an,al,aw,au,av,ar,aJ,aM,aI,aL,aH,aK]) k
    ·have wN:(gs+1>16)=False:=eq_false jX
     have wO:(fs>32)=False:=eq_false (by omega)
     replace k:=mS (q:=((nD l (nj l f) hU).bind fun d s=>pL l (nj l f) j (fs) (gs+1) ((Nd.mk nk nt ns nm nl).dw d) s)) (by simp only [cond_true,cond_false,Bool.or_eq_false_iff,decide_eq_false_iff_not]; omega) k
     rw [aG] at k
     simp (maxSteps:=1000000) only [w2,wN,wO,aX,gB,hp,an,al,aw,au,av,ar,aJ,aM,aI,aL,aH,aK,aq,ay,aj,ak,aF,aW,aY,ah,af,ae,ag,az,aE,ao,aD,seval]
     refine ⟨l,hU,i1,rfl,hl,(by simp [an,al,aw,au,av,ar,aJ,aM,aI,aL,aH,aK]),nT,aA (fun y cg e1 k gm=>?_) (fun a e k s'=>?_) k⟩
     case refine_2=>
      intro σ hσ _
      simp only [bB]
      rw [hσ]
      show eT cS.none [] _ _ _
      simp only [ae,az]
      exact aC (s':=s') (by simp [an,al,aw,au,av,ar,aJ,aM,aI,aL,aH,aK]) k
     simp (maxSteps:=1000000) only [cG,aX,gB,hp,an,al,aw,au,av,ar,aJ,aM,aI,aL,aH,aK,aq,ay,aj,ak,aF,aW,aY,ah,af,ae,ag,az,aE,ao,aD,seval]
     refine ⟨by omega,hQ (j,.mk nk nt ns nm (nl++[y]),i4,cg,fs,gs+1) _ _ ⟨gm,k,fun _=>⟨aH,aI,aJ⟩,by simp only; omega,by simp only; omega,by simp only; omega,by simp only; omega,by simp only [Nd.bR,List.length_append,List.length_cons,List.length_nil]; omega⟩ (by simp only [ao,aD,seval]) ?_ (by simp only; omega)⟩
     have iC:nl++[y]≠[]:=by simp
     simp only [gC,Nd.bR,kF,List.length_append,List.length_cons,List.length_nil,iC,if_false,←j8,cB (show nl.length+(0+1)≠0 by omega)]
     rw [show nl.length+2+1=nl.length+(0+1)+2 by omega]
     exact aa.dV (by repeat' first | ax exact aa.bK | ax exact aa.bO | refine aa.cU (by simp [an,al,aw,au,av,ar,aJ,aM,aI,aL,aH,aK]) ?_ | refine aa.cZ (by simp [an,al,aw,au,av,ar,aJ,aM,aI,aL,aH,aK]) ?_)
   | false=>
    have w2:IntKind.i64.wrap (fs+1)=fs+1:=wrap_i64 (by omega) (by omega)
    by_cases jX:fs+1>32
    ·have wO:(fs+1>32)=True:=eq_true jX
     have wN:(gs>16)=False:=eq_false (by omega)
     replace k:=iB (p:=(il l 3 hU:PR Nd)) (by simp only [cond_true,cond_false,Bool.or_eq_true,decide_eq_true_eq]; omega) k
     simp (maxSteps:=1000000) only [w2,wN,wO,aX,gB,hp,an,al,aw,au,av,ar,aJ,aM,aI,aL,aH,aK,aq,ay,aj,ak,aF,aW,aY,ah,af,ae,ag,az,aE,ao,aD,seval]
     refine ⟨l,hU,i1,3,rfl,(by simp [an,al,aw,au,av,ar,aJ,aM,aI,aL,aH,aK]),nT.at_,?_⟩
     simp only [bB]
     show eT cS.none [] _ _ _
     simp only [ae,az]
     exact aC (s':=hU) (by simp [an,al,aw,au,av,ar,aJ,aM,aI,aL,aH,aK]) k
    ·have wO:(fs+1>32)=False:=eq_false jX
     have wN:(gs>16)=False:=eq_false (by omega)
     replace k:=mS (q:=((nD l (nj l f) hU).bind fun d s=>pL l (nj l f) j (fs+1) (gs) ((Nd.mk nk nt ns nm nl).dw d) s)) (by simp only [cond_true,cond_false,Bool.or_eq_false_iff,decide_eq_false_iff_not]; omega) k
     rw [aG] at k
     simp (maxSteps:=1000000) only [w2,wN,wO,aX,gB,hp,an,al,aw,au,av,ar,aJ,aM,aI,aL,aH,aK,aq,ay,aj,ak,aF,aW,aY,ah,af,ae,ag,az,aE,ao,aD,seval]
     refine ⟨l,hU,i1,rfl,hl,(by simp [an,al,aw,au,av,ar,aJ,aM,aI,aL,aH,aK]),nT,aA (fun y cg e1 k gm=>?_) (fun a e k s'=>?_) k⟩
     case refine_2=>
      intro σ hσ _
      simp only [bB]
      rw [hσ]
      show eT cS.none [] _ _ _
      simp only [ae,az]
      exact aC (s':=s') (by simp [an,al,aw,au,av,ar,aJ,aM,aI,aL,aH,aK]) k
     simp (maxSteps:=1000000) only [cG,aX,gB,hp,an,al,aw,au,av,ar,aJ,aM,aI,aL,aH,aK,aq,ay,aj,ak,aF,aW,aY,ah,af,ae,ag,az,aE,ao,aD,seval]
     refine ⟨by omega,hQ (j,.mk nk nt ns nm (nl++[y]),i4,cg,fs+1,gs) _ _ ⟨gm,k,fun _=>⟨aH,aI,aJ⟩,by simp only; omega,by simp only; omega,by simp only; omega,by simp only; omega,by simp only [Nd.bR,List.length_append,List.length_cons,List.length_nil]; omega⟩ (by simp only [ao,aD,seval]) ?_ (by simp only; omega)⟩
     have iC:nl++[y]≠[]:=by simp
     simp only [gC,Nd.bR,kF,List.length_append,List.length_cons,List.length_nil,iC,if_false,←j8,cB (show nl.length+(0+1)≠0 by omega)]
     rw [show nl.length+2+1=nl.length+(0+1)+2 by omega]
     exact aa.dV (by repeat' first | ax exact aa.bK | ax exact aa.bO | refine aa.cU (by simp [an,al,aw,au,av,ar,aJ,aM,aI,aL,aH,aK]) ?_ | refine aa.cZ (by simp [an,al,aw,au,av,ar,aJ,aM,aI,aL,aH,aK]) ?_)
end
end Go.Proofs.YtpklkpkfgmoghaaGreatDoor.Zz
namespace Go.Proofs.YtpklkpkfgmoghaaGreatDoor.Zz
noncomputable section
def aeD:cj:=⟨⟨[],[],[],[((5,5),[(.t 4),(.t 4)]),((5,6),[(.t 4)])],[((5,2),(.t 4)),((5,4),(.t 4))],[]⟩,[(5,[0,1,2,3,4,5,6,7])],[],false⟩
def Xt:dL:=
 sO [oM 3 7,
 oP (.eql .iface true (.t 7) (.c .fV)) 8]
 (.cond (.t 8)
 (sO [oM 3 10,
 oQ (.typeAssert 56 true .undef (.t 10)) 11,
 oM 11 9,
 oX 9 0 12,
 oX 9 1 13,
 oQ (.alloc [(.int .i64 0),(.int .i64 0)]) 4,
 oS 2 4 12,
 oM 13 5]
 (.seq (sO [oM 5 14,
 oP (.un .not (.t 14)) 15]
 (.cond (.t 15)
 (.ops [oM 3 16,
 oU (.panic (.t 16))])
 (.skip)))
 (.fD 17 [oP (.build zN []) 17,
 oF 0 4 18,
 oQ (.cT none (.t 18) (.t 4)) 19,
 oF 1 4 20,
 oQ (.cT none (.t 20) (.t 4)) 21,
 oU (.storeNe 5 (.t 0) (.t 17) [(.t 4),(.t 4)]),
 oU (.storeNe 1 (.t 1) (.t 19) [(.t 4)]),
 oS 1 2 21])))
 (.skip))
theorem ae_:Pe Tryz.prog 21 aeD=some (Xt,[],22,6,3):=by kernel_rfl
def YZ:cS:=fun k args u h F=>k=21∧∃(a b c:Nat) (v:List D) (p q:D),args=[.ptr a 1 0,.ptr b 1 0,.ptr c 1 0]∧v.length=5∧h.f a=some (.cells v)∧h.f b=some (.cells [p])∧h.f c=some (.cells [q])∧¬b=a∧¬a=b∧¬c=a∧¬a=c∧¬c=b∧¬b=c∧
 ((u=none∧F none h)∨∃x e,u=some (mZ x e)∧F none (((h.set a (.cells [.int .i64 0,.int .i64 0,.str [],.int .i64 0,.bg])).set b (.cells [.int .i64 x])).set c (.cells [.int .i64 e])))
theorem RV (κ:cp) (w:World):YZ.nU Tryz.prog κ w:=by
 rintro k args u h F ⟨rfl,a,b,c,v,p,q,rfl,hv,ha,hb,hc,n1,n2,n3,n4,n5,n6,hF⟩ κ' w' le
 refine gH.OJ ((bm.eH Tryz.prog).toY κ' w') ae_ (by simp) ?_
 rcases hF with ⟨rfl,hF⟩ | ⟨x,e,rfl,hF⟩
 ·simp (maxSteps:=1000000) only [Xt,G0,kY,aD,seval]
  exact ⟨h,aa.aU h,hF⟩
 ·simp (maxSteps:=1000000) only [Xt,G0,mZ,Ol,kY,aD,seval]
  intro i hi
  have ma:¬a=i:=fun e=>by subst e; rw [ha] at hi; cases hi
  have mb:¬b=i:=fun e=>by subst e; rw [hb] at hi; cases hi
  have mc:¬c=i:=fun e=>by subst e; rw [hc] at hi; cases hi
  match v,hv with
  | [v0,v1,v2,v3,v4],_=>
  have ma':(!a==i)=true:=by simp [ma]
  have mb':(!b==i)=true:=by simp [mb]
  simp (maxSteps:=1000000) only [ma,mb,mc,ma',mb',ha,hb,hc,n1,n2,n3,n4,n5,n6,kY,aD,seval]
  refine ⟨_,fun j o hj=>?_,hF⟩
  simp only [aa.dN] at hj ⊢
  by_cases e:j=i
  ·subst e
   have m1:¬j=a:=fun e=>ma e.symm
   have m2:¬j=b:=fun e=>mb e.symm
   have m3:¬j=c:=fun e=>mc e.symm
   simp [m1,m2,m3,hi] at hj
  ·simpa [e] using hj
end
end Go.Proofs.YtpklkpkfgmoghaaGreatDoor.Zz
namespace Go.Proofs.YtpklkpkfgmoghaaGreatDoor.Zz
noncomputable section
def p7p:cj:=⟨⟨[],[(6,1)],[],[((3,3),[(.t 3),(.t 4)]),((3,4),[(.t 4)])],[],[]⟩,[(3,[0,1,2,3,4,5])],[],false⟩
def B7:dL:=
 sO [oA 2,
 oQ (.alloc [(.int .i64 0)]) 3,
 oQ (.alloc [(.int .i64 0)]) 4]
 (sO [oM 0 8,
 oD 20 [.t 8] 9,
 oM 9 7,
 oX 7 0 10,
 oX 7 1 11,
 oX 7 2 12,
 oM 10 5,
 oS 1 3 11,
 oS 1 4 12]
 (.seq (sO [oL 4 13,
 oH .neq 13 0 14]
 (.cond (.t 14)
 (.seq (.fD 15 [oP (.build zN []) 15,
 oL 3 16,
 oL 4 17,
 oU (.storeNe 5 (.t 2) (.t 15) [(.t 3),(.t 4)]),
 oU (.storeNe 1 (.t 3) (.t 16) [(.t 4)]),
 oS 1 4 17])
 (.ret))
 (.skip)))
 (.seq (sO [oP (.mkFunc (.func 21) [] [(.t 2),(.t 3),(.t 4)]) 18]
 (.defer (.t 18) []))
 (sO [oM 5 19,
 oP (.build [.bg,(.int .i64 0),(.int .i64 0),(.int .i64 0)] [(0,1,(.t 19))]) 20,
 oQ (.box (.t 20)) 21,
 oM 21 6]
 (sO [oM 6 22,
 oC 22 [.t 22] 23,
 oS 5 2 23,
 oU (.store 1 (.t 3) (kI 0)),
 oU (.store 1 (.t 4) (kI 0))]
 (.ret))))))
theorem afs:bJ Tryz.prog 7 p7p=some (B7,[.cell 2 (some 5),.cell 3 none,.cell 4 none],24):=by kernel_rfl
def O4:List D→Option D
 | [.str s]=>some (.tuple [.sl (lP (tokens s).1),.int .i64 (tokens s).2.1,.int .i64 (tokens s).2.2])
 | _=>none
theorem SU (args:List D) (d:D) (h:O4 args=some d):aO Tryz.prog 20 args d:=by
 unfold O4 at h
 split at h
 ·cases h; exact QJ _
 ·cases h
def Ct (f:Nat) (args:List D) (h:aa) (K E:D→aa→Prop):Prop:=∃(l:List cH) (s:PS) (id:Nat),args=[.ptr id 1 0]∧uL l∧cP (wK l (nj l f)) cG l s id h K E
theorem Gb (f:Nat) (args:List D) (h:aa) (K E K' E':D→aa→Prop) (hk:∀d h,K d h→K' d h) (he:∀d h,E d h→E' d h) (c:Ct f args h K E):Ct f args h K' E':=by
 obtain ⟨l,s,id,a,b,c⟩:=c
 exact ⟨l,s,id,a,b,eO hk he c⟩
theorem Nu (f:Nat) (args:List D) (h:aa) (K E:D→aa→Prop) (c:Ct f args h K E):aQ Tryz.prog 22 args h (dF.to K E):=by
 obtain ⟨l,s,id,rfl,hl,c⟩:=c
 exact jq (fun ok K0 E0 hw=>L_ f l hl s id ok K0 E0 hw) c
def tX:bm:=bm.zero.dh 20 O4
theorem I4 (g:FuncId) (args:List D):tX.q g args=if g=20 then O4 args else bm.zero.q g args:=rfl
theorem I2:tX.a=bm.zero.a:=rfl
theorem I3:tX.c=bm.zero.c:=rfl
theorem PC:tX.ok Tryz.prog:=bm.bq (bm.eH _) SU
theorem mN:a7% (And.intro @I4 (And.intro @I2 @I3)):=(And.intro @I4 (And.intro @I2 @I3))
def tbM (f:Nat):bm:=tX.kc 22 (Ct f) (Gb f)
theorem XR (f:Nat):(tbM f).ok Tryz.prog:=bm.cL PC fun args h K E c=>Nu f args h K E c
theorem U6 {f:Nat}:(tbM f).q=tX.q:=rfl
theorem U4 {f:Nat}:(tbM f).a=tX.a:=rfl
theorem U5 {f:Nat} (g:FuncId) (args:List D) (h:aa) (K E:D→aa→Prop):(tbM f).c g args h K E=if g=22 then Ct f args h K E else tX.c g args h K E:=rfl
theorem Fh:a7% (And.intro (And.intro @U6 (And.intro @U4 @U5)) @mN):=(And.intro (And.intro @U6 (And.intro @U4 @U5)) @mN)
theorem SI (f:Nat) (x:List UInt8) (n:Nd) (a e:Int) (hp:lD f x=some (n,a,e)):aO Tryz.prog 7 [.str x] (.tuple [.agg n.enc,.int .i64 a,.int .i64 e]):=by
 refine aQ.du (XR f) (dc:=YZ) RV (by kernel_rfl) afs (by simp) ?_
 rw [dK]
 have hq:O4 [.str x]=some (.tuple [.sl (lP (tokens x).1),.int .i64 (tokens x).2.1,.int .i64 (tokens x).2.2]):=rfl
 unfold lD at hp
 simp (maxSteps:=1000000) only [B7,hq,Fh,ao,mN,aD,seval]
 intro i1  i2 an al i3 aw au av ar
 have hW:=MD x
 generalize tokens x=T at*
 obtain ⟨l,a0,e0⟩:=T
 simp only at hp hW
 by_cases c:e0=0
 ·subst c
  rw [if_pos rfl] at hp
  obtain ⟨hl,FL⟩:=hW rfl
  simp (maxSteps:=1000000) only [an,al,aw,au,av,ar,Fh,ao,mN,aD,seval]
  intro i4 aJ aM aI aL _ _ _ _ aH aK
  have ok:cJ l ⟨0,0,0⟩:=⟨(show (0:Int)≤0 by omega),(show (0:Int)<l.length by omega),(show (0:Int)≤0 by omega),(show (0:Int)≤2000 by omega),(show (0:Int)≤0 by omega),(show (0:Int)≤40 by omega)⟩
  refine ⟨l,⟨0,0,0⟩,i4,rfl,hl,by simp [b9],ok,?_⟩
  cases hr:wK l (nj l f) ⟨0,0,0⟩ with
  | out=>rw [hr] at hp; cases hp
  | ok m s'=>
   rw [hr] at hp
   cases hp
   rw [cu]
   intro pv
   obtain ⟨nk,nt,ns,nm,nl⟩:=n
   simp (maxSteps:=1000000) only [an,al,aw,au,av,ar,aJ,aM,aI,aL,aH,aK,cG,aT,ah,ag,ae,Fh,ao,mN,aD,seval]
   refine ⟨rfl,i1,i2,i3,[.int .i64 nk,.int .i64 nt,.str ns,.int .i64 nm,.sl (Nd.cW nl)],.int .i64 0,.int .i64 0,rfl,rfl,(by simp [an,al,aw,au,av,ar,aJ,aM,aI,aL,aH,aK]),(by simp [an,al,aw,au,av,ar,aJ,aM,aI,aL,aH,aK]),(by simp [an,al,aw,au,av,ar,aJ,aM,aI,aL,aH,aK]),an,al,av,ar,aw,au,.inl ⟨rfl,?_⟩⟩
   simp (maxSteps:=1000000) only [an,al,aw,au,av,ar,aJ,aM,aI,aL,aH,aK,az,aD,seval]
   exact .inl ⟨_,aa.aU _⟩
  | fail a' e'=>
   rw [hr] at hp
   cases hp
   rw [Ro]
   intro s'
   simp (maxSteps:=1000000) only [bB,ag,ae,List.nil_append,List.append_nil]
   refine ⟨rfl,i1,i2,i3,[.int .i64 0,.int .i64 0,.str [],.int .i64 0,.bg],.int .i64 a0,.int .i64 0,rfl,rfl,(by simp [an,al,aw,au,av,ar,aJ,aM,aI,aL,aH,aK]),(by simp [an,al,aw,au,av,ar,aJ,aM,aI,aL,aH,aK]),(by simp [an,al,aw,au,av,ar,aJ,aM,aI,aL,aH,aK]),an,al,av,ar,aw,au,.inr ⟨a,e,rfl,?_⟩⟩
   simp (maxSteps:=1000000) only [ae,az,aT,bA,an,al,aw,au,av,ar,aJ,aM,aI,aL,aH,aK,aD,seval]
   exact .inr ⟨_,aa.aU _⟩
 ·rw [if_neg c] at hp
  have g:(e0 != 0)=true:=by simpa using c
  cases hp
  simp (maxSteps:=1000000) only [an,al,aw,au,av,ar,g,ah,ae,az,Fh,ao,mN,aD,seval]
  have m12:(!i1==i2)=true:=by simp [al]
  have m13:(!i1==i3)=true:=by simp [ar]
  have m23:(!i2==i3)=true:=by simp [au]
  refine ⟨by simp [m12,m13],?_⟩
  simp (maxSteps:=1000000) only [an,al,aw,au,av,ar,g,m12,m13,m23,ah,ae,az,Fh,ao,mN,aD,seval]
  exact .inr ⟨_,aa.aU _,by rw [aT,bA]⟩
def sP (f:Nat):List D→Option D
 | [.str x]=>(lD f x).map fun y=>.tuple [.agg y.1.enc,.int .i64 y.2.1,.int .i64 y.2.2]
 | _=>none
theorem Ml (f:Nat) (args:List D) (d:D) (h:sP f args=some d):aO Tryz.prog 7 args d:=by
 unfold sP at h
 split at h
 ·simp only [Option.map_eq_some_iff] at h
  obtain ⟨⟨n,a,e⟩,h1,rfl⟩:=h
  exact SI f _ n a e h1
 ·cases h
end
end Go.Proofs.YtpklkpkfgmoghaaGreatDoor.Zz
namespace Go.Proofs.YtpklkpkfgmoghaaGreatDoor.Zz
noncomputable section
def aeH:cj:=⟨⟨[],[],[],[],[],[]⟩,[],[],false⟩
def Xv:dL:=
 sO [oQ (.box (.t 0)) 2,
 oQ (.box (.t 1)) 3,
 oP (.cy (kB false)) 4]
 (sO [oF 0 2 5,
 oL 5 6,
 oF 0 3 7,
 oL 7 8,
 oE .eql 6 8 9,
 oM 9 10,
 oG (.fieldAddr 1 (.t 2)) 11 10 true true,
 oG (.load none (.t 11)) 12 10 true false,
 oG (.fieldAddr 1 (.t 3)) 13 10 true true,
 oG (.load none (.t 13)) 14 10 true false,
 oG (.bin .eql (.t 12) (.t 14)) 15 10 true true,
 oP (.pick (.t 10) (.t 15) (kB false)) 16,
 oM 16 17,
 oG (.fieldAddr 2 (.t 2)) 18 17 true true,
 oG (.load none (.t 18)) 19 17 true false,
 oG (.fieldAddr 2 (.t 3)) 20 17 true true,
 oG (.load none (.t 20)) 21 17 true false,
 oG (.bin .eql (.t 19) (.t 21)) 22 17 true true,
 oP (.pick (.t 17) (.t 22) (kB false)) 23,
 oM 23 24,
 oG (.fieldAddr 3 (.t 2)) 25 24 true true,
 oG (.load none (.t 25)) 26 24 true false,
 oG (.fieldAddr 3 (.t 3)) 27 24 true true,
 oG (.load none (.t 27)) 28 24 true false,
 oG (.bin .eql (.t 26) (.t 28)) 29 24 true true,
 oP (.pick (.t 24) (.t 29) (kB false)) 30,
 oM 30 31,
 oG (.fieldAddr 4 (.t 2)) 32 31 true true,
 oG (.load none (.t 32)) 33 31 true false,
 oG (.fieldAddr 4 (.t 3)) 34 31 true true,
 oG (.load none (.t 34)) 35 31 true false,
 oG (.qcall (.f 27) [(.t 33),(.t 35),(.f 9)]) 36 31 true false,
 oP (.pick (.t 31) (.t 36) (kB false)) 37,
 oM 37 4]
 (.ret))
theorem abo:bJ Tryz.prog 9 aeH=some (Xv,[.tmp 4],38):=by kernel_rfl
def aeV:cj:=⟨⟨[],[],[],[],[],[]⟩,[],[],false⟩
def aa2:dL:=
 sO [oP (.cy (kB false)) 6]
 (.seq (sO [oM 0 10,
 oZ 10 11,
 oM 1 12,
 oZ 12 13,
 oE .neq 11 13 14]
 (.cond (.t 14)
 (sO [oP (.cy (kB false)) 6]
 (.ret))
 (.skip)))
 (.seq (sO [oM 0 15,
 oZ 15 16,
 oP (.cy (kI 0)) 17]
 (.block 0 (.loop (sO [oE .lss 17 16 18]
 (.seq (.cond (.t 18)
 (.skip)
 (.exit 0))
 (.seq (.block 1 (sO [oM 17 19,
 oI 5 15 17 20,
 oJ 5 20 21,
 oA 8,
 oM 19 7,
 oS 5 8 21]
 (sO [oM 1 22,
 oM 7 23,
 oI 5 22 23 24,
 oJ 5 24 25,
 oA 9,
 oS 5 9 25]
 (sO [oM 2 26,
 oJ 5 8 27,
 oJ 5 9 28,
 oQ (.qcall (.t 26) [(.t 27),(.t 28)]) 29,
 oP (.un .not (.t 29)) 30]
 (.cond (.t 30)
 (sO [oP (.cy (kB false)) 6]
 (.ret))
 (.skip))))))
 (.ops [oH .add 17 1 31,
 oM 31 17])))))))
 (sO [oP (.cy (kB true)) 6]
 (.ret))))
theorem abA:bJ Tryz.prog 27 aeV=some (aa2,[.tmp 6],32):=by kernel_rfl
def la (a b:Nd):Bool:=@decide (a=b) (Classical.propDecidable _)
def l_ (a b:List Nd):Bool:=@decide (a=b) (Classical.propDecidable _)
theorem pc {a b:Nd}:la a b=true↔a=b:=by simp [la]
theorem pb {a b:List Nd}:l_ a b=true↔a=b:=by simp [l_]
def kr (f:Nat):List D→Option D
 | [.agg ds,.agg es]=>match vA ds,vA es with
  | some n,some m=>if n.dz<f then some (.bool (la n m)) else none
  | _,_=>none
 | _=>none
set_option maxHeartbeats 1000000 in
theorem s5 (f:Nat) (hf:f<9223372036854775807) (hT:(bm.zero.dh 9 (kr f)).ok Tryz.prog) (l r:List Nd) (hl:∀y∈l,y.dz<f):aO Tryz.prog 27 [.sl (Nd.cW l),.sl (Nd.cW r),.func (.func 9) [] []] (.bool (l_ l r)):=by
 refine aO.run hT abA (by simp) fun E=>?_
 have nJ:∀g args,(bm.zero.dh 9 (kr f)).q g args=if g=9 then kr f args else bm.zero.q g args:=fun g args=>rfl
 have hq:∀x y:Nd,x.dz<f→kr f [.agg x.enc,.agg y.enc]=some (.bool (la x y)):=fun x y hx=>by simp only [kr,kg,hx,if_true]
 generalize bm.zero.dh 9 (kr f)=TT at nJ ⊢
 simp (maxSteps:=1000000) only [aa2,aX,nJ,aD,seval]
 intro l1 l2
 by_cases cl:l.length=r.length
 ·have g:((l.length:Int) != (r.length:Int))=false:=by simp [cl]
  simp (maxSteps:=1000000) only [g,nJ,aD,seval]
  intro _
  refine c6 (X:=Nat) (fun z=>[(1,.sl (Nd.cW r)),(2,.func (.func 9) [] []),(15,.sl (Nd.cW l)),(16,.int .i64 l.length),(17,.int .i64 z)])
   (fun z=>.emp) (fun z=>l.length - z) (fun z=>z≤l.length∧l.take z=r.take z) 0 ⟨Nat.zero_le _,rfl⟩ ?_ ?_ ?_
  ·simp only [aD,seval]
  ·exact aa.jb _
  rintro i Q ⟨j0,j1⟩ hQ
  cases c:decide (i<l.length) with
  | false=>
   have e0:i=l.length:=by simp at c; omega
   have g:((i:Int)<l.length)=False:=eq_false (by omega)
   simp (maxSteps:=1000000) only [g,nJ,aD,seval]
   have:l_ l r=true:=by
    rw [e0,List.take_length,cl,List.take_length] at j1
    rw [pb]; exact j1
   rw [this]
   exact .inl rfl
  | true=>
   have c:i<l.length:=by simpa using c
   obtain ⟨y,hy⟩:∃y,l[i]? =some y:=⟨_,List.getElem?_eq_getElem c⟩
   obtain ⟨z,hz⟩:∃z,r[i]? =some z:=⟨_,List.getElem?_eq_getElem (by omega)⟩
   have g:((i:Int)<l.length)=True:=eq_true (by omega)
   have hym:y∈l:=List.mem_of_getElem? hy
   have wi:IntKind.i64.wrap ((i:Int)+1)=((i+1:Nat):Int):=de (by omega)
   have hp:=ak y
   have Gr:=ak z
   have qM:∀(K:D→aa→Prop) (h:aa),iI 5 K h (Nd.cW l) (i:Int)=K (.c8 y.enc 0) h:=fun K h=>iR hy
   have Wb:∀(K:D→aa→Prop) (h:aa),iI 5 K h (Nd.cW r) (i:Int)=K (.c8 z.enc 0) h:=fun K h=>iR hz
   have Wp:=hq y z (hl y hym)
   have pF:la y z=true→l.take (i+1)=r.take (i+1):=fun h=>by rw [List.take_add_one,List.take_add_one,hy,hz,j1,pc.1 h]
   have Zv:la y z=false→l_ l r=false:=fun h=>by
    cases e:l_ l r with
    | false=>rfl
    | true=>
     rw [pb] at e
     subst e
     rw [hy] at hz
     cases hz
     rw [show la y y=true from pc.2 rfl] at h
     cases h
   generalize la y z=sm at*
   clear hym hy hz hq hp Gr
   have e1:gz y.enc 0 (some 5)=some (.agg y.enc):=ak y
   have e2:gz z.enc 0 (some 5)=some (.agg z.enc):=ak z
   obtain ⟨yk,yt,yx,ym,yl⟩:=y
   obtain ⟨zk,zt,zx,zm,zl⟩:=z
   rw [aT] at*
   simp only [aT] at Wb e2 Wp
   cases sm with
   | false=>
    simp (maxSteps:=1000000) only [g,qM,Wb,e1,e2,wi,Wp,nJ,Zv,aD,seval]
    intro i8 i9 n1 n2
    simp (maxSteps:=1000000) only [n1,n2,Wp,nJ,aD,seval]
   | true=>
    simp (maxSteps:=1000000) only [g,qM,Wb,e1,e2,wi,Wp,nJ,aD,seval]
    intro i8 i9 n1 n2
    simp (maxSteps:=1000000) only [n1,n2,Wp,wi,nJ,aD,seval]
    refine hQ (i+1) _ _ ⟨c,pF rfl⟩ (by simp only [aD,seval]) (aa.jb _) (by omega)
 ·have g:((l.length:Int) != (r.length:Int))=true:=by simp; omega
  have:l_ l r=false:=by
   cases e:l_ l r with
   | false=>rfl
   | true=>rw [pb] at e; subst e; exact absurd rfl cl
  simp (maxSteps:=1000000) only [g,this,nJ,aD,seval]
def Ea (f:Nat):List D→Option D
 | [.sl ds,.sl es,.func (.func 9) [] []]=>match vB ds,vB es with
  | some l,some m=>if (∀y∈l,y.dz<f) then some (.bool (l_ l m)) else none
  | _,_=>none
 | _=>none
set_option maxHeartbeats 1000000 in
theorem Ah (f:Nat) (hT:((bm.zero.dh 9 (kr f)).dh 27 (Ea f)).ok Tryz.prog) (x y:Nd) (hx:x.dz<f+1):aO Tryz.prog 9 [.agg x.enc,.agg y.enc] (.bool (la x y)):=by
 refine aO.run hT abo (by simp) fun E=>?_
 have nJ:∀g args,((bm.zero.dh 9 (kr f)).dh 27 (Ea f)).q g args=if g=27 then Ea f args else (bm.zero.dh 9 (kr f)).q g args:=fun g args=>rfl
 have hq:∀x y:List Nd,(∀y∈x,y.dz<f)→Ea f [.sl (Nd.cW x),.sl (Nd.cW y),.func (.func 9) [] []]=some (.bool (l_ x y)):=fun x y hx=>by simp only [Ea,yE]; rw [if_pos hx]
 generalize (bm.zero.dh 9 (kr f)).dh 27 (Ea f)=TT at nJ ⊢
 obtain ⟨yk,yt,yx,ym,yl⟩:=x
 obtain ⟨zk,zt,zx,zm,zl⟩:=y
 have Gn:∀y∈yl,y.dz<f:=fun y hy=>by have:=oT (k:=yk) (t:=yt) (s:=yx) (n:=ym) hy; omega
 have Wp:=hq yl zl Gn
 have hs:la (.mk yk yt yx ym yl) (.mk zk zt zx zm zl)=((yk==zk) && ((yt==zt) && ((yx==zx) && ((ym==zm) && l_ yl zl)))):=by
  rw [Bool.eq_iff_iff,pc]
  simp only [Bool.and_eq_true,beq_iff_eq,pb,Nd.mk.injEq]
 rw [aT,aT,hs]
 generalize l_ yl zl=sl at*
 have run:∀c1m c2m c3m c4m:Bool,(yk==zk)=c1m→(yt==zt)=c2m→(yx==zx)=c3m→(ym==zm)=c4m→vc TT Xv (todo TT (sR [.tmp 4] fun o _=>o=.ret (.bool (c1m && (c2m && (c3m && (c4m && sl)))))) E []) E (f8 [.agg [.int .i64 yk,.int .i64 yt,.str yx,.int .i64 ym,.sl (Nd.cW yl)],.agg [.int .i64 zk,.int .i64 zt,.str zx,.int .i64 zm,.sl (Nd.cW zl)]]) .emp:=by
  intro c1m c2m c3m c4m e1 e2 e3 e4
  simp (maxSteps:=1000000) only [Xv,nJ,aD,seval]
  intro i2 i3 n1 n2
  cases c1m with
  | false=>simp (maxSteps:=1000000) only [n1,n2,e1,nJ,aD,seval]
  | true=>
   cases c2m with
   | false=>simp (maxSteps:=1000000) only [n1,n2,e1,e2,nJ,aD,seval]
   | true=>
    cases c3m with
    | false=>simp (maxSteps:=1000000) only [n1,n2,e1,e2,e3,nJ,aD,seval]
    | true=>
     cases c4m with
     | false=>simp (maxSteps:=1000000) only [n1,n2,e1,e2,e3,e4,nJ,aD,seval]
     | true=>simp (maxSteps:=1000000) only [n1,n2,e1,e2,e3,e4,Wp,Bool.true_and,nJ,aD,seval]
 exact run _ _ _ _ rfl rfl rfl rfl
theorem wP {f:Nat} (hP:∀x y:Nd,x.dz<f→aO Tryz.prog 9 [.agg x.enc,.agg y.enc] (.bool (la x y))) (args:List D) (d:D) (h:kr f args=some d):aO Tryz.prog 9 args d:=by
 unfold kr at h
 split at h
 ·split at h
  ·ab e1 e2
   split at h
   ·cases h
    rw [iU e1,iU e2]
    exact hP _ _ (by assumption)
   ·cases h
  ·cases h
 ·cases h
theorem IB {f:Nat} (hP:∀l r:List Nd,(∀y∈l,y.dz<f)→aO Tryz.prog 27 [.sl (Nd.cW l),.sl (Nd.cW r),.func (.func 9) [] []] (.bool (l_ l r))) (args:List D) (d:D) (h:Ea f args=some d):aO Tryz.prog 27 args d:=by
 unfold Ea at h
 split at h
 ·split at h
  ·ab e1 e2
   split at h
   ·cases h
    rw [pU e1,pU e2]
    exact hP _ _ (by assumption)
   ·cases h
  ·cases h
 ·cases h
theorem u7:∀f,f≤9223372036854775807→(bm.zero.dh 9 (kr f)).ok Tryz.prog
 | 0,_=>bm.bq (bm.eH _) (wP fun x y h=>by omega)
 | f+1,hf=>bm.bq (bm.eH _) (wP fun x y h=>Ah f (bm.bq (u7 f (by omega)) (IB fun l r hl=>s5 f (by omega) (u7 f (by omega)) l r hl)) x y h)
theorem Xz (x y:Nd) (h:x.dz<9223372036854775807):aO Tryz.prog 9 [.agg x.enc,.agg y.enc] (.bool (la x y)):=
 Ah x.dz (bm.bq (u7 _ (by omega)) (IB fun l r hl=>s5 _ h (u7 _ (by omega)) l r hl)) x y (by omega)
def O5:List D→Option D:=kr 9223372036854775807
theorem SX (args:List D) (d:D) (h:O5 args=some d):aO Tryz.prog 9 args d:=wP (fun x y h=>Xz x y h) args d h
theorem SW {x y:Nd} (h:x.dz<9223372036854775807):O5 [.agg x.enc,.agg y.enc]=some (.bool (la x y)):=by
 simp only [O5,kr,kg]
 rw [if_pos h]
end
end Go.Proofs.YtpklkpkfgmoghaaGreatDoor.Zz
