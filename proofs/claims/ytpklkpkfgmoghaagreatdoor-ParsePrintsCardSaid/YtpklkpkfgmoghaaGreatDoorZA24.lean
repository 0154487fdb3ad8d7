/- Contracts: programs. -/
import Derived.Test.YtpklkpkfgmoghaaGreatDoorZP13
import Derived.Test.YtpklkpkfgmoghaaGreatDoorZP17
import Derived.Test.YtpklkpkfgmoghaaGreatDoorZA0
set_option linter.unnecessarySimpa false
set_option linter.unusedVariables false
set_option linter.unusedSimpArgs false
set_option maxRecDepth 20000
namespace Go.Proofs.YtpklkpkfgmoghaaGreatDoor.Zz
noncomputable section
def acx:b7:=⟨⟨[(1,2)],[(1,2),(3,1),(4,1),(8,1),(9,3)],[],[((9,3),[(.t 3)])],[((9,1),(.t 3))],[]⟩,[(9,[0,1,2,3,4,5,6,7])],[],false⟩
def Zk:dA:=
 sO [oA 2]
 (sO [oM 0 6,
 oP (.build zN [(0,1,(kI 1))]) 7,
 oQ (.callR (.f 35) [(.t 6),(.t 7)]) 8,
 oA 3,
 oS 5 3 8]
 (sO [oP (.cg (kI 0)) 4,
 oP (.cg (kI 0)) 5]
 (.seq (.block 0 (.loop (.seq (sO [oM 0 9,
 oC 36 [.t 9] 10,
 oP (.field 0 none (.t 10)) 11,
 oH .neq 11 0 12]
 (.cond (.t 12)
 (.skip)
 (.exit 0)))
 (.block 1 (.seq (sO [oM 0 13,
 oC 37 [.t 13,(kS [118,97,114])] 14]
 (.cond (.t 14)
 (.ops [oM 5 15,
 oH .add 15 1 16,
 oM 16 5])
 (.ops [oM 4 17,
 oH .add 17 1 18,
 oM 18 4])))
 (.seq (sO [oM 5 19,
 oH .gtr 19 16 20,
 oM 20 21,
 oG (.cg (.t 4)) 22 21 false true,
 oG (.bin .gtr (.t 22) (kI 32)) 23 21 false true,
 oP (.pick (.t 21) (kB true) (.t 23)) 24]
 (.cond (.t 24)
 (.ops [oM 0 25,
 oC 38 [.t 25,kI 3] 26])
 (.skip)))
 (.fq 27 [oF 4 3 27,
 oQ (.cK none (.t 27) (.t 3)) 28,
 oM 0 29,
 oQ (.callNe (.f 39) [(.t 29)] [(.t 3)]) 30,
 oP (.buildSlice 5 zN 1 [(0,(.t 30))] false) 31,
 oQ (.append 5 64 false (.t 28) (.t 31)) 32,
 oF 4 3 33,
 oS 1 33 32])))))))
 (sO [oJ 5 3 34,
 oS 5 2 34]
 (.ret)))))
theorem ZR:bE Tryz.prog 22 acx=some (Zk,[.cell 2 (some 5)],35):=by kernel_rfl
def G_ (f:Nat) (args:List D) (h:aa) (K E:D→aa→Prop):Prop:=∃(l:List Tok) (s:PS) (id:Nat),args=[.ptr id 1 0]∧uw l∧cP (ni l (mV l f)) cz l s id h K E
theorem FG (f:Nat) (args:List D) (h:aa) (K E K' E':D→aa→Prop) (hk:∀d h,K d h→K' d h) (he:∀d h,E d h→E' d h) (c:G_ f args h K E):G_ f args h K' E':=by
 obtain ⟨l,s,id,a,b,c⟩:=c
 exact ⟨l,s,id,a,b,eE hk he c⟩
def tbD (f:Nat):bf:=(xx fun l=>mV l f).j6 39 (G_ f) (FG f)
theorem TY {f:Nat}:(tbD f).q=(xx fun l=>mV l f).q:=rfl
theorem TW {f:Nat}:(tbD f).a=(xx fun l=>mV l f).a:=rfl
theorem TX {f:Nat} (g:FuncId) (args:List D) (h:aa) (K E:D→aa→Prop):(tbD f).c g args h K E=if g=39 then G_ f args h K E else (xx fun l=>mV l f).c g args h K E:=rfl
theorem gu:type_of% (And.intro @TY (And.intro @TW @TX)):=And.intro @TY (And.intro @TW @TX)
theorem WO (f:Nat):(tbD f).ok Tryz.prog:=bf.cD (GW f) fun args h K E c=>MX f args h K E c
set_option maxHeartbeats 1000000 in
theorem Lx (f:Nat) (l:List Tok) (hl:uw l) (s:PS) (i1:Nat) (ok:cB l s) (K0:Nd→PS→Prop) (E0:Int→Int→Prop) (hw:jA (wq l (mV l f) s) (fun x s'=>cB l s'→K0 x s') E0):aO Tryz.prog 22 [.ptr i1 1 0] (aa.emp.set i1 (bV l s)) (ly cz l i1 K0 E0):=by
 refine aO.c8 (WO f) (dc:=cJ.none) (fun _ _=>cJ.eM) (by kernel_rfl) ZR (by simp) ?_
 rw [dz]
 have hp:=fun (h:aa) (j:Nat) (B C:cI)=>push_id (id:=i1) h j B C
 unfold wq at hw
 rw [aE] at hw
 simp (maxSteps:=1000000) only [Zk,gu,uG,hp,hp,ao,aw,ah,aj,aD,aU,aW,ag,ae,ab,af,ax,aC,an,aB,seval]
 intro i2 al ak
 refine .inr ⟨l,s,i1,.mk 1 0 [] 0 [],rfl,hl.lo,(by simp [al,ak]),ok,ay (fun n bZ e1 k gg=>?_) (fun a e k s'=>?_) hw⟩
 case refine_2=>
  simp only [bu,ab,ax]
  exact aA (s':=s') (by simp [al,ak]) k
 have hn:=qM e1
 subst hn
 simp (maxSteps:=1000000) only [vk,gu,hp,al,ak,ao,aw,ah,aj,aD,aU,aW,ag,ae,ab,af,ax,aC,an,aB,seval]
 intro i3 av ar au aq
 refine cS (X:=Nat×Nd×Nat×PS×Int×Int) (fun z=>[(0,.ptr i1 1 0),(2,.ptr i2 1 0),(3,.ptr i3 1 0),(4,.int .i64 z.2.2.2.2.1),(5,.int .i64 z.2.2.2.2.2)])
  (fun z=>gx (((aa.emp.set i1 (bV l z.2.2.2.1)).set i2 (.cells [.int .i64 0,.int .i64 0,.str [],.int .i64 0,.a_])).set i3 (.cells (ky z.2.1 z.2.2.1))) z.2.1 z.2.2.1) (fun z=>z.1)
  (fun z=>cB l z.2.2.2.1∧jA (pz l (mV l f) z.1 z.2.2.2.2.1 z.2.2.2.2.2 z.2.1 z.2.2.2.1) (fun x s'=>cB l s'→K0 x s') E0∧(z.2.1.bM≠[]→¬z.2.2.1=i1∧¬z.2.2.1=i2∧¬z.2.2.1=i3)∧0≤z.2.2.2.2.1∧z.2.2.2.2.1≤32∧0≤z.2.2.2.2.2∧z.2.2.2.2.2≤16∧(z.2.1.bM.length:Int)≤z.2.2.2.2.1+z.2.2.2.2.2)
  (l.length+1,.mk 1 0 [] 0 [],0,bZ,0,0) ⟨gg,k,fun h=>absurd rfl h,(show (0:Int)≤0 by omega),(show (0:Int)≤32 by omega),(show (0:Int)≤0 by omega),(show (0:Int)≤16 by omega),(show ((0:Nat):Int)≤0+0 by omega)⟩ (by simp only [an,aB,seval]) (aa.aS _) ?_
 clear hw
 rintro ⟨j,n,r,gW,fs,gs⟩ Q ⟨nI,hw,hr,f0,f1,g0,g1,h6⟩ hQ
 simp only at nI hw hr h6 f0 f1 g0 g1 hQ ⊢
 cases j with
 | zero=>exact hw.elim
 | succ j=>
 unfold pz at hw
 obtain ⟨nk,nt,ns,nm,nl⟩:=n
 simp only [Nd.bM] at hw hr h6
 by_cases sU:nl=[]
 ·subst sU
  have hH:∀h:aa,gx h (.mk nk nt ns nm []) r=h:=fun h=>if_pos rfl
  rw [hH,ky,List.length_nil,fN]
  simp (maxSteps:=1000000) only [gu,hp,al,ak,av,ar,au,aq,ao,aw,ah,aj,aD,aU,aW,ag,ae,ab,af,ax,aC,an,aB,seval]
  refine ⟨l,gW,i1,rfl,(by simp [al,ak,av,ar,au,aq]),nI.at_,?_⟩
  cases jO:((dQ l gW).1 != 0) with
  | false=>
   have k:=mG (q:=(.ok (Nd.mk nk nt ns nm []) gW:PR Nd)) jO hw
   rw [b_] at k
   generalize dQ l gW=t at*
   obtain ⟨kk,y,a⟩:=t
   simp only at jO
   simp (maxSteps:=1000000) only [gb,jO,gu,hp,al,ak,av,ar,au,aq,ao,aw,ah,aj,aD,aU,aW,ag,ae,ab,af,ax,aC,an,aB,seval]
   exact fK (x:=.mk nk nt ns nm []) (s':=gW) (by rw [cz,aR,bt]) (by simp [al,ak,av,ar,au,aq]) (k nI)
  | true=>
   have k:=iv jO hw
   have Rp:lQ l kD gW=lQ l kD gW:=rfl
   generalize hv:lQ l kD gW=v at k
   generalize dQ l gW=t at jO
   obtain ⟨kk,y,a⟩:=t
   simp only at jO
   simp (maxSteps:=1000000) only [gb,jO,gu,hp,al,ak,av,ar,au,aq,ao,aw,ah,aj,aD,aU,aW,ag,ae,ab,af,ax,aC,an,aB,seval]
   refine ⟨l,gW,i1,kD,rfl,(by simp [al,ak,av,ar,au,aq]),nI.at_,?_⟩
   rw [hv]
   clear Rp
   cases v with
   | true=>
    have w2:IntKind.i64.wrap (gs+1)=gs+1:=wrap_i64 (by omega) (by omega)
    by_cases jR:gs+1>16
    ·have wy:(gs+1>16)=True:=eq_true jR
     have wz:(fs>32)=False:=eq_false (by omega)
     replace k:=iv (p:=(ib l 3 gW:PR Nd)) (by simp only [cond_true,cond_false,Bool.or_eq_true,decide_eq_true_eq]; omega) k
     simp (maxSteps:=1000000) only [w2,wy,wz,gu,hp,al,ak,av,ar,au,aq,ao,aw,ah,aj,aD,aU,aW,ag,ae,ab,af,ax,aC,an,aB,seval]
     refine ⟨l,gW,i1,3,rfl,(by simp [al,ak,av,ar,au,aq]),nI.at_,?_⟩
     simp only [bu]
     show eJ cJ.none [] _ _ _
     simp only [ab,ax]
     exact aA (s':=gW) (by simp [al,ak,av,ar,au,aq]) k
    ·have wy:(gs+1>16)=False:=eq_false jR
     have wz:(fs>32)=False:=eq_false (by omega)
     replace k:=mG (q:=((ni l (mV l f) gW).bind fun d s=>pz l (mV l f) j (fs) (gs+1) ((Nd.mk nk nt ns nm []).c_ d) s)) (by simp only [cond_true,cond_false,Bool.or_eq_false_iff,decide_eq_false_iff_not]; omega) k
     rw [aE] at k
     simp (maxSteps:=1000000) only [w2,wy,wz,gu,hp,al,ak,av,ar,au,aq,ao,aw,ah,aj,aD,aU,aW,ag,ae,ab,af,ax,aC,an,aB,seval]
     refine ⟨l,gW,i1,rfl,hl,(by simp [al,ak,av,ar,au,aq]),nI,ay (fun y bZ e1 k gg=>?_) (fun a e k s'=>?_) k⟩
     case refine_2=>
      intro σ hσ _
      simp only [bu]
      rw [hσ]
      show eJ cJ.none [] _ _ _
      simp only [ab,ax]
      exact aA (s':=s') (by simp [al,ak,av,ar,au,aq]) k
     simp (maxSteps:=1000000) only [cz,gu,hp,al,ak,av,ar,au,aq,ao,aw,ah,aj,aD,aU,aW,ag,ae,ab,af,ax,aC,an,aB,seval]
     intro i4 aH aK aG aJ aF aI
     simp (maxSteps:=1000000) only [gu,hp,al,ak,av,ar,au,aq,aH,aK,aG,aJ,aF,aI,ao,aw,ah,aj,aD,aU,aW,ag,ae,ab,af,ax,aC,an,aB,seval]
     refine hQ (j,.mk nk nt ns nm [y],i4,bZ,fs,gs+1) _ _ ⟨gg,k,fun _=>⟨aF,aG,aH⟩,by simp only; omega,by simp only; omega,by simp only; omega,by simp only; omega,by simp only [Nd.bM,List.length_cons,List.length_nil]; omega⟩ (by simp only [an,aB,seval]) ?_ (by simp only; omega)
     simp only [gx,Nd.bM,ky,List.length_cons,List.length_nil,cj,bt,reduceCtorEq,if_false,cp (Nat.succ_ne_zero 0)]
     exact aa.dL (by repeat' first | with_reducible exact aa.bF | with_reducible exact aa.bI | refine aa.cL (by simp [al,ak,av,ar,au,aq,aH,aK,aG,aJ,aF,aI]) ?_ | refine aa.cR (by simp [al,ak,av,ar,au,aq,aH,aK,aG,aJ,aF,aI]) ?_)
   | false=>
    have w2:IntKind.i64.wrap (fs+1)=fs+1:=wrap_i64 (by omega) (by omega)
    by_cases jR:fs+1>32
    ·have wz:(fs+1>32)=True:=eq_true jR
     have wy:(gs>16)=False:=eq_false (by omega)
     replace k:=iv (p:=(ib l 3 gW:PR Nd)) (by simp only [cond_true,cond_false,Bool.or_eq_true,decide_eq_true_eq]; omega) k
     simp (maxSteps:=1000000) only [w2,wy,wz,gu,hp,al,ak,av,ar,au,aq,ao,aw,ah,aj,aD,aU,aW,ag,ae,ab,af,ax,aC,an,aB,seval]
     refine ⟨l,gW,i1,3,rfl,(by simp [al,ak,av,ar,au,aq]),nI.at_,?_⟩
     simp only [bu]
     show eJ cJ.none [] _ _ _
     simp only [ab,ax]
     exact aA (s':=gW) (by simp [al,ak,av,ar,au,aq]) k
    ·have wz:(fs+1>32)=False:=eq_false jR
     have wy:(gs>16)=False:=eq_false (by omega)
     replace k:=mG (q:=((ni l (mV l f) gW).bind fun d s=>pz l (mV l f) j (fs+1) (gs) ((Nd.mk nk nt ns nm []).c_ d) s)) (by simp only [cond_true,cond_false,Bool.or_eq_false_iff,decide_eq_false_iff_not]; omega) k
     rw [aE] at k
     simp (maxSteps:=1000000) only [w2,wy,wz,gu,hp,al,ak,av,ar,au,aq,ao,aw,ah,aj,aD,aU,aW,ag,ae,ab,af,ax,aC,an,aB,seval]
     refine ⟨l,gW,i1,rfl,hl,(by simp [al,ak,av,ar,au,aq]),nI,ay (fun y bZ e1 k gg=>?_) (fun a e k s'=>?_) k⟩
     case refine_2=>
      intro σ hσ _
      simp only [bu]
      rw [hσ]
      show eJ cJ.none [] _ _ _
      simp only [ab,ax]
      exact aA (s':=s') (by simp [al,ak,av,ar,au,aq]) k
     simp (maxSteps:=1000000) only [cz,gu,hp,al,ak,av,ar,au,aq,ao,aw,ah,aj,aD,aU,aW,ag,ae,ab,af,ax,aC,an,aB,seval]
     intro i4 aH aK aG aJ aF aI
     simp (maxSteps:=1000000) only [gu,hp,al,ak,av,ar,au,aq,aH,aK,aG,aJ,aF,aI,ao,aw,ah,aj,aD,aU,aW,ag,ae,ab,af,ax,aC,an,aB,seval]
     refine hQ (j,.mk nk nt ns nm [y],i4,bZ,fs+1,gs) _ _ ⟨gg,k,fun _=>⟨aF,aG,aH⟩,by simp only; omega,by simp only; omega,by simp only; omega,by simp only; omega,by simp only [Nd.bM,List.length_cons,List.length_nil]; omega⟩ (by simp only [an,aB,seval]) ?_ (by simp only; omega)
     simp only [gx,Nd.bM,ky,List.length_cons,List.length_nil,cj,bt,reduceCtorEq,if_false,cp (Nat.succ_ne_zero 0)]
     exact aa.dL (by repeat' first | with_reducible exact aa.bF | with_reducible exact aa.bI | refine aa.cL (by simp [al,ak,av,ar,au,aq,aH,aK,aG,aJ,aF,aI]) ?_ | refine aa.cR (by simp [al,ak,av,ar,au,aq,aH,aK,aG,aJ,aF,aI]) ?_)
 ·obtain ⟨i4,rfl⟩:∃q,q=r:=⟨r,rfl⟩
  obtain ⟨aF,aG,aH⟩:=hr sU
  have aI:¬i1=i4:=fun e=>aF e.symm
  have aJ:¬i2=i4:=fun e=>aG e.symm
  have aK:¬i3=i4:=fun e=>aH e.symm
  have hH:∀h:aa,gx h (.mk nk nt ns nm nl) i4=h.set i4 (.row 5 (nl.length+2) (Nd.cN nl) false):=fun h=>if_neg sU
  have Fm:nl.length≠0:=fun e=>sU (List.length_eq_zero_iff.1 e)
  have tk:(Nd.cN nl).take nl.length=Nd.cN nl:=List.take_of_length_le (by rw [aV]; omega)
  rw [hH,ky,cp Fm]
  simp (maxSteps:=1000000) only [gu,hp,al,ak,av,ar,au,aq,aH,aK,aG,aJ,aF,aI,ao,aw,ah,aj,aD,aU,aW,ag,ae,ab,af,ax,aC,an,aB,seval]
  refine ⟨l,gW,i1,rfl,(by simp [al,ak,av,ar,au,aq,aH,aK,aG,aJ,aF,aI]),nI.at_,?_⟩
  cases jO:((dQ l gW).1 != 0) with
  | false=>
   have k:=mG (q:=(.ok (Nd.mk nk nt ns nm nl) gW:PR Nd)) jO hw
   rw [b_] at k
   generalize dQ l gW=t at*
   obtain ⟨kk,y,a⟩:=t
   simp only at jO
   simp (maxSteps:=1000000) only [gb,jO,aV,tk,gu,hp,al,ak,av,ar,au,aq,aH,aK,aG,aJ,aF,aI,ao,aw,ah,aj,aD,aU,aW,ag,ae,ab,af,ax,aC,an,aB,seval]
   exact fK (x:=.mk nk nt ns nm nl) (s':=gW) (by rw [cz,aR]) (by simp [al,ak,av,ar,au,aq,aH,aK,aG,aJ,aF,aI]) (k nI)
  | true=>
   have k:=iv jO hw
   generalize hv:lQ l kD gW=v at k
   generalize dQ l gW=t at jO
   obtain ⟨kk,y,a⟩:=t
   simp only at jO
   simp (maxSteps:=1000000) only [gb,jO,gu,hp,al,ak,av,ar,au,aq,aH,aK,aG,aJ,aF,aI,ao,aw,ah,aj,aD,aU,aW,ag,ae,ab,af,ax,aC,an,aB,seval]
   refine ⟨l,gW,i1,kD,rfl,(by simp [al,ak,av,ar,au,aq,aH,aK,aG,aJ,aF,aI]),nI.at_,?_⟩
   rw [hv]
   cases v with
   | true=>
    have w2:IntKind.i64.wrap (gs+1)=gs+1:=wrap_i64 (by omega) (by omega)
    by_cases jR:gs+1>16
    ·have wy:(gs+1>16)=True:=eq_true jR
     have wz:(fs>32)=False:=eq_false (by omega)
     replace k:=iv (p:=(ib l 3 gW:PR Nd)) (by simp only [cond_true,cond_false,Bool.or_eq_true,decide_eq_true_eq]; omega) k
     simp (maxSteps:=1000000) only [w2,wy,wz,aV,gu,hp,al,ak,av,ar,au,aq,aH,aK,aG,aJ,aF,aI,ao,aw,ah,aj,aD,aU,aW,ag,ae,ab,af,ax,aC,an,aB,seval]
     refine ⟨l,gW,i1,3,rfl,(by simp [al,ak,av,ar,au,aq,aH,aK,aG,aJ,aF,aI]),nI.at_,?_⟩
     simp only [bu]
     show eJ cJ.none [] _ _ _
     simp only [ab,ax]
     exact aA (s':=gW) (by simp [al,ak,av,ar,au,aq,aH,aK,aG,aJ,aF,aI]) k
    ·have wy:(gs+1>16)=False:=eq_false jR
     have wz:(fs>32)=False:=eq_false (by omega)
     replace k:=mG (q:=((ni l (mV l f) gW).bind fun d s=>pz l (mV l f) j (fs) (gs+1) ((Nd.mk nk nt ns nm nl).c_ d) s)) (by simp only [cond_true,cond_false,Bool.or_eq_false_iff,decide_eq_false_iff_not]; omega) k
     rw [aE] at k
     simp (maxSteps:=1000000) only [w2,wy,wz,aV,gu,hp,al,ak,av,ar,au,aq,aH,aK,aG,aJ,aF,aI,ao,aw,ah,aj,aD,aU,aW,ag,ae,ab,af,ax,aC,an,aB,seval]
     refine ⟨l,gW,i1,rfl,hl,(by simp [al,ak,av,ar,au,aq,aH,aK,aG,aJ,aF,aI]),nI,ay (fun y bZ e1 k gg=>?_) (fun a e k s'=>?_) k⟩
     case refine_2=>
      intro σ hσ _
      simp only [bu]
      rw [hσ]
      show eJ cJ.none [] _ _ _
      simp only [ab,ax]
      exact aA (s':=s') (by simp [al,ak,av,ar,au,aq,aH,aK,aG,aJ,aF,aI]) k
     simp (maxSteps:=1000000) only [cz,aV,gu,hp,al,ak,av,ar,au,aq,aH,aK,aG,aJ,aF,aI,ao,aw,ah,aj,aD,aU,aW,ag,ae,ab,af,ax,aC,an,aB,seval]
     refine ⟨by omega,hQ (j,.mk nk nt ns nm (nl++[y]),i4,bZ,fs,gs+1) _ _ ⟨gg,k,fun _=>⟨aF,aG,aH⟩,by simp only; omega,by simp only; omega,by simp only; omega,by simp only; omega,by simp only [Nd.bM,List.length_append,List.length_cons,List.length_nil]; omega⟩ (by simp only [an,aB,seval]) ?_ (by simp only; omega)⟩
     have iw:nl++[y]≠[]:=by simp
     simp only [gx,Nd.bM,ky,List.length_append,List.length_cons,List.length_nil,iw,if_false,←jY,cp (show nl.length+(0+1)≠0 by omega)]
     rw [show nl.length+2+1=nl.length+(0+1)+2 by omega]
     exact aa.dL (by repeat' first | with_reducible exact aa.bF | with_reducible exact aa.bI | refine aa.cL (by simp [al,ak,av,ar,au,aq,aH,aK,aG,aJ,aF,aI]) ?_ | refine aa.cR (by simp [al,ak,av,ar,au,aq,aH,aK,aG,aJ,aF,aI]) ?_)
   | false=>
    have w2:IntKind.i64.wrap (fs+1)=fs+1:=wrap_i64 (by omega) (by omega)
    by_cases jR:fs+1>32
    ·have wz:(fs+1>32)=True:=eq_true jR
     have wy:(gs>16)=False:=eq_false (by omega)
     replace k:=iv (p:=(ib l 3 gW:PR Nd)) (by simp only [cond_true,cond_false,Bool.or_eq_true,decide_eq_true_eq]; omega) k
     simp (maxSteps:=1000000) only [w2,wy,wz,aV,gu,hp,al,ak,av,ar,au,aq,aH,aK,aG,aJ,aF,aI,ao,aw,ah,aj,aD,aU,aW,ag,ae,ab,af,ax,aC,an,aB,seval]
     refine ⟨l,gW,i1,3,rfl,(by simp [al,ak,av,ar,au,aq,aH,aK,aG,aJ,aF,aI]),nI.at_,?_⟩
     simp only [bu]
     show eJ cJ.none [] _ _ _
     simp only [ab,ax]
     exact aA (s':=gW) (by simp [al,ak,av,ar,au,aq,aH,aK,aG,aJ,aF,aI]) k
    ·have wz:(fs+1>32)=False:=eq_false jR
     have wy:(gs>16)=False:=eq_false (by omega)
     replace k:=mG (q:=((ni l (mV l f) gW).bind fun d s=>pz l (mV l f) j (fs+1) (gs) ((Nd.mk nk nt ns nm nl).c_ d) s)) (by simp only [cond_true,cond_false,Bool.or_eq_false_iff,decide_eq_false_iff_not]; omega) k
     rw [aE] at k
     simp (maxSteps:=1000000) only [w2,wy,wz,aV,gu,hp,al,ak,av,ar,au,aq,aH,aK,aG,aJ,aF,aI,ao,aw,ah,aj,aD,aU,aW,ag,ae,ab,af,ax,aC,an,aB,seval]
     refine ⟨l,gW,i1,rfl,hl,(by simp [al,ak,av,ar,au,aq,aH,aK,aG,aJ,aF,aI]),nI,ay (fun y bZ e1 k gg=>?_) (fun a e k s'=>?_) k⟩
     case refine_2=>
      intro σ hσ _
      simp only [bu]
      rw [hσ]
      show eJ cJ.none [] _ _ _
      simp only [ab,ax]
      exact aA (s':=s') (by simp [al,ak,av,ar,au,aq,aH,aK,aG,aJ,aF,aI]) k
     simp (maxSteps:=1000000) only [cz,aV,gu,hp,al,ak,av,ar,au,aq,aH,aK,aG,aJ,aF,aI,ao,aw,ah,aj,aD,aU,aW,ag,ae,ab,af,ax,aC,an,aB,seval]
     refine ⟨by omega,hQ (j,.mk nk nt ns nm (nl++[y]),i4,bZ,fs+1,gs) _ _ ⟨gg,k,fun _=>⟨aF,aG,aH⟩,by simp only; omega,by simp only; omega,by simp only; omega,by simp only; omega,by simp only [Nd.bM,List.length_append,List.length_cons,List.length_nil]; omega⟩ (by simp only [an,aB,seval]) ?_ (by simp only; omega)⟩
     have iw:nl++[y]≠[]:=by simp
     simp only [gx,Nd.bM,ky,List.length_append,List.length_cons,List.length_nil,iw,if_false,←jY,cp (show nl.length+(0+1)≠0 by omega)]
     rw [show nl.length+2+1=nl.length+(0+1)+2 by omega]
     exact aa.dL (by repeat' first | with_reducible exact aa.bF | with_reducible exact aa.bI | refine aa.cL (by simp [al,ak,av,ar,au,aq,aH,aK,aG,aJ,aF,aI]) ?_ | refine aa.cR (by simp [al,ak,av,ar,au,aq,aH,aK,aG,aJ,aF,aI]) ?_)
end
end Go.Proofs.YtpklkpkfgmoghaaGreatDoor.Zz
namespace Go.Proofs.YtpklkpkfgmoghaaGreatDoor.Zz
noncomputable section
def acv:b7:=⟨⟨[],[],[],[((5,5),[(.t 4),(.t 4)]),((5,6),[(.t 4)])],[((5,2),(.t 4)),((5,4),(.t 4))],[]⟩,[(5,[0,1,2,3,4,5,6,7])],[],false⟩
def Wq:dA:=
 sO [oM 3 7,
 oP (.eql .iface true (.t 7) (.c .fL)) 8]
 (.cond (.t 8)
 (sO [oM 3 10,
 oQ (.typeAssert 56 true .undef (.t 10)) 11,
 oM 11 9,
 oX 9 0 12,
 oX 9 1 13,
 oQ (.alloc [(.int .i64 0),(.int .i64 0)]) 4,
 oS 2 4 12,
 oM 13 5]
 (.seq (sO [oM 5 14,
 oP (.un .not (.t 14)) 15]
 (.cond (.t 15)
 (.ops [oM 3 16,
 oU (.panic (.t 16))])
 (.skip)))
 (.fq 17 [oP (.build zN []) 17,
 oF 0 4 18,
 oQ (.cK none (.t 18) (.t 4)) 19,
 oF 1 4 20,
 oQ (.cK none (.t 20) (.t 4)) 21,
 oU (.storeNe 5 (.t 0) (.t 17) [(.t 4),(.t 4)]),
 oU (.storeNe 1 (.t 1) (.t 19) [(.t 4)]),
 oS 1 2 21])))
 (.skip))
theorem ac2:Ow Tryz.prog 21 acv=some (Wq,[],22,6,3):=by kernel_rfl
def XN:cJ:=fun k args u h F=>k=21∧∃(a b c:Nat) (v:List D) (p q:D),args=[.ptr a 1 0,.ptr b 1 0,.ptr c 1 0]∧v.length=5∧h.f a=some (.cells v)∧h.f b=some (.cells [p])∧h.f c=some (.cells [q])∧¬b=a∧¬a=b∧¬c=a∧¬a=c∧¬c=b∧¬b=c∧
 ((u=none∧F none h)∨∃x e,u=some (mN x e)∧F none (((h.set a (.cells [.int .i64 0,.int .i64 0,.str [],.int .i64 0,.a_])).set b (.cells [.int .i64 x])).set c (.cells [.int .i64 e])))
theorem Q7 (κ:b9) (w:World):XN.nJ Tryz.prog κ w:=by
 rintro k args u h F ⟨rfl,a,b,c,v,p,q,rfl,hv,ha,hb,hc,n1,n2,n3,n4,n5,n6,hF⟩ κ' w' le
 refine gA.NZ ((bf.ew Tryz.prog).toY κ' w') ac2 (by simp) ?_
 rcases hF with ⟨rfl,hF⟩ | ⟨x,e,rfl,hF⟩
 ·simp (maxSteps:=1000000) only [Wq,Gv,kR,aB,seval]
  exact ⟨h,aa.aS h,hF⟩
 ·simp (maxSteps:=1000000) only [Wq,Gv,mN,NG,kR,aB,seval]
  intro i hi
  have ma:¬a=i:=fun e=>by subst e; rw [ha] at hi; cases hi
  have mb:¬b=i:=fun e=>by subst e; rw [hb] at hi; cases hi
  have mc:¬c=i:=fun e=>by subst e; rw [hc] at hi; cases hi
  match v,hv with
  | [v0,v1,v2,v3,v4],_=>
  have ma':(!a==i)=true:=by simp [ma]
  have mb':(!b==i)=true:=by simp [mb]
  simp (maxSteps:=1000000) only [ma,mb,mc,ma',mb',ha,hb,hc,n1,n2,n3,n4,n5,n6,kR,aB,seval]
  refine ⟨_,fun j o hj=>?_,hF⟩
  simp only [aa.dD] at hj ⊢
  by_cases e:j=i
  ·subst e
   have m1:¬j=a:=fun e=>ma e.symm
   have m2:¬j=b:=fun e=>mb e.symm
   have m3:¬j=c:=fun e=>mc e.symm
   simp [m1,m2,m3,hi] at hj
  ·simpa [e] using hj
end
end Go.Proofs.YtpklkpkfgmoghaaGreatDoor.Zz
namespace Go.Proofs.YtpklkpkfgmoghaaGreatDoor.Zz
noncomputable section
def p7p:b7:=⟨⟨[],[(6,1)],[],[((3,3),[(.t 3),(.t 4)]),((3,4),[(.t 4)])],[],[]⟩,[(3,[0,1,2,3,4,5])],[],false⟩
def BK:dA:=
 sO [oA 2,
 oQ (.alloc [(.int .i64 0)]) 3,
 oQ (.alloc [(.int .i64 0)]) 4]
 (sO [oM 0 8,
 oD 20 [.t 8] 9,
 oM 9 7,
 oX 7 0 10,
 oX 7 1 11,
 oX 7 2 12,
 oM 10 5,
 oS 1 3 11,
 oS 1 4 12]
 (.seq (sO [oL 4 13,
 oH .neq 13 0 14]
 (.cond (.t 14)
 (.seq (.fq 15 [oP (.build zN []) 15,
 oL 3 16,
 oL 4 17,
 oU (.storeNe 5 (.t 2) (.t 15) [(.t 3),(.t 4)]),
 oU (.storeNe 1 (.t 3) (.t 16) [(.t 4)]),
 oS 1 4 17])
 (.ret))
 (.skip)))
 (.seq (sO [oP (.mkFunc (.func 21) [] [(.t 2),(.t 3),(.t 4)]) 18]
 (.defer (.t 18) []))
 (sO [oM 5 19,
 oP (.build [.a_,(.int .i64 0),(.int .i64 0),(.int .i64 0)] [(0,1,(.t 19))]) 20,
 oQ (.box (.t 20)) 21,
 oM 21 6]
 (sO [oM 6 22,
 oC 22 [.t 22] 23,
 oS 5 2 23,
 oU (.store 1 (.t 3) (kI 0)),
 oU (.store 1 (.t 4) (kI 0))]
 (.ret))))))
theorem adm:bE Tryz.prog 7 p7p=some (BK,[.cell 2 (some 5),.cell 3 none,.cell 4 none],24):=by kernel_rfl
def Oi:List D→Option D
 | [.str s]=>some (.tuple [.sl (lH (tokens s).1),.int .i64 (tokens s).2.1,.int .i64 (tokens s).2.2])
 | _=>none
theorem RZ (args:List D) (d:D) (h:Oi args=some d):aM Tryz.prog 20 args d:=by
 unfold Oi at h
 split at h
 ·cases h; exact P1 _
 ·cases h
def B8 (f:Nat) (args:List D) (h:aa) (K E:D→aa→Prop):Prop:=∃(l:List Tok) (s:PS) (id:Nat),args=[.ptr id 1 0]∧uw l∧cP (wq l (mV l f)) cz l s id h K E
theorem FL (f:Nat) (args:List D) (h:aa) (K E K' E':D→aa→Prop) (hk:∀d h,K d h→K' d h) (he:∀d h,E d h→E' d h) (c:B8 f args h K E):B8 f args h K' E':=by
 obtain ⟨l,s,id,a,b,c⟩:=c
 exact ⟨l,s,id,a,b,eE hk he c⟩
theorem ML (f:Nat) (args:List D) (h:aa) (K E:D→aa→Prop) (c:B8 f args h K E):aO Tryz.prog 22 args h (dn.to K E):=by
 obtain ⟨l,s,id,rfl,hl,c⟩:=c
 exact ji (fun ok K0 E0 hw=>Lx f l hl s id ok K0 E0 hw) c
def tF:bf:=bf.zero.cX 20 Oi
theorem It (g:FuncId) (args:List D):tF.q g args=if g=20 then Oi args else bf.zero.q g args:=rfl
theorem Ir:tF.a=bf.zero.a:=rfl
theorem Is:tF.c=bf.zero.c:=rfl
theorem OT:tF.ok Tryz.prog:=bf.bm (bf.ew _) RZ
theorem mB:type_of% (And.intro @It (And.intro @Ir @Is)):=(And.intro @It (And.intro @Ir @Is))
def tbM (f:Nat):bf:=tF.j6 22 (B8 f) (FL f)
theorem WQ (f:Nat):(tbM f).ok Tryz.prog:=bf.cD OT fun args h K E c=>ML f args h K E c
theorem T7 {f:Nat}:(tbM f).q=tF.q:=rfl
theorem T5 {f:Nat}:(tbM f).a=tF.a:=rfl
theorem T6 {f:Nat} (g:FuncId) (args:List D) (h:aa) (K E:D→aa→Prop):(tbM f).c g args h K E=if g=22 then B8 f args h K E else tF.c g args h K E:=rfl
theorem EU:type_of% (And.intro (And.intro @T7 (And.intro @T5 @T6)) @mB):=(And.intro (And.intro @T7 (And.intro @T5 @T6)) @mB)
theorem RR (f:Nat) (x:List UInt8) (n:Nd) (a e:Int) (hp:lx f x=some (n,a,e)):aM Tryz.prog 7 [.str x] (.tuple [.agg n.enc,.int .i64 a,.int .i64 e]):=by
 refine aO.c8 (WQ f) (dc:=XN) Q7 (by kernel_rfl) adm (by simp) ?_
 rw [dz]
 have hq:Oi [.str x]=some (.tuple [.sl (lH (tokens x).1),.int .i64 (tokens x).2.1,.int .i64 (tokens x).2.2]):=rfl
 unfold lx at hp
 simp (maxSteps:=1000000) only [BK,hq,EU,an,mB,aB,seval]
 intro i1  i2 al ak i3 av ar au aq
 have hW:=L3 x
 generalize tokens x=T at*
 obtain ⟨l,a0,e0⟩:=T
 simp only at hp hW
 by_cases c:e0=0
 ·subst c
  rw [if_pos rfl] at hp
  obtain ⟨hl,Fm⟩:=hW rfl
  simp (maxSteps:=1000000) only [al,ak,av,ar,au,aq,EU,an,mB,aB,seval]
  intro i4 aH aK aG aJ _ _ _ _ aF aI
  have ok:cB l ⟨0,0,0⟩:=⟨(show (0:Int)≤0 by omega),(show (0:Int)<l.length by omega),(show (0:Int)≤0 by omega),(show (0:Int)≤2000 by omega),(show (0:Int)≤0 by omega),(show (0:Int)≤40 by omega)⟩
  refine ⟨l,⟨0,0,0⟩,i4,rfl,hl,by simp [bV],ok,?_⟩
  cases hr:wq l (mV l f) ⟨0,0,0⟩ with
  | out=>rw [hr] at hp; cases hp
  | ok m s'=>
   rw [hr] at hp
   cases hp
   rw [b_]
   intro o_
   obtain ⟨nk,nt,ns,nm,nl⟩:=n
   simp (maxSteps:=1000000) only [al,ak,av,ar,au,aq,aH,aK,aG,aJ,aF,aI,cz,aR,ag,af,ab,EU,an,mB,aB,seval]
   refine ⟨rfl,i1,i2,i3,[.int .i64 nk,.int .i64 nt,.str ns,.int .i64 nm,.sl (Nd.cN nl)],.int .i64 0,.int .i64 0,rfl,rfl,(by simp [al,ak,av,ar,au,aq,aH,aK,aG,aJ,aF,aI]),(by simp [al,ak,av,ar,au,aq,aH,aK,aG,aJ,aF,aI]),(by simp [al,ak,av,ar,au,aq,aH,aK,aG,aJ,aF,aI]),al,ak,au,aq,av,ar,.inl ⟨rfl,?_⟩⟩
   simp (maxSteps:=1000000) only [al,ak,av,ar,au,aq,aH,aK,aG,aJ,aF,aI,ax,aB,seval]
   exact .inl ⟨_,aa.aS _⟩
  | fail a' e'=>
   rw [hr] at hp
   cases hp
   rw [QB]
   intro s'
   simp (maxSteps:=1000000) only [bu,af,ab,List.nil_append,List.append_nil]
   refine ⟨rfl,i1,i2,i3,[.int .i64 0,.int .i64 0,.str [],.int .i64 0,.a_],.int .i64 a0,.int .i64 0,rfl,rfl,(by simp [al,ak,av,ar,au,aq,aH,aK,aG,aJ,aF,aI]),(by simp [al,ak,av,ar,au,aq,aH,aK,aG,aJ,aF,aI]),(by simp [al,ak,av,ar,au,aq,aH,aK,aG,aJ,aF,aI]),al,ak,au,aq,av,ar,.inr ⟨a,e,rfl,?_⟩⟩
   simp (maxSteps:=1000000) only [ab,ax,aR,bt,al,ak,av,ar,au,aq,aH,aK,aG,aJ,aF,aI,aB,seval]
   exact .inr ⟨_,aa.aS _⟩
 ·rw [if_neg c] at hp
  have g:(e0 != 0)=true:=by simpa using c
  cases hp
  simp (maxSteps:=1000000) only [al,ak,av,ar,au,aq,g,ag,ab,ax,EU,an,mB,aB,seval]
  have m12:(!i1==i2)=true:=by simp [ak]
  have m13:(!i1==i3)=true:=by simp [aq]
  have m23:(!i2==i3)=true:=by simp [ar]
  refine ⟨by simp [m12,m13],?_⟩
  simp (maxSteps:=1000000) only [al,ak,av,ar,au,aq,g,m12,m13,m23,ag,ab,ax,EU,an,mB,aB,seval]
  exact .inr ⟨_,aa.aS _,by rw [aR,bt]⟩
def su (f:Nat):List D→Option D
 | [.str x]=>(lx f x).map fun y=>.tuple [.agg y.1.enc,.int .i64 y.2.1,.int .i64 y.2.2]
 | _=>none
theorem LJ (f:Nat) (args:List D) (d:D) (h:su f args=some d):aM Tryz.prog 7 args d:=by
 unfold su at h
 split at h
 ·simp only [Option.map_eq_some_iff] at h
  obtain ⟨⟨n,a,e⟩,h1,rfl⟩:=h
  exact RR f _ n a e h1
 ·cases h
end
end Go.Proofs.YtpklkpkfgmoghaaGreatDoor.Zz
namespace Go.Proofs.YtpklkpkfgmoghaaGreatDoor.Zz
noncomputable section
def acz:b7:=⟨⟨[],[],[],[],[],[]⟩,[],[],false⟩
def Ws:dA:=
 sO [oQ (.box (.t 0)) 2,
 oQ (.box (.t 1)) 3,
 oP (.cg (kB false)) 4]
 (sO [oF 0 2 5,
 oL 5 6,
 oF 0 3 7,
 oL 7 8,
 oE .eql 6 8 9,
 oM 9 10,
 oG (.fieldAddr 1 (.t 2)) 11 10 true true,
 oG (.load none (.t 11)) 12 10 true false,
 oG (.fieldAddr 1 (.t 3)) 13 10 true true,
 oG (.load none (.t 13)) 14 10 true false,
 oG (.bin .eql (.t 12) (.t 14)) 15 10 true true,
 oP (.pick (.t 10) (.t 15) (kB false)) 16,
 oM 16 17,
 oG (.fieldAddr 2 (.t 2)) 18 17 true true,
 oG (.load none (.t 18)) 19 17 true false,
 oG (.fieldAddr 2 (.t 3)) 20 17 true true,
 oG (.load none (.t 20)) 21 17 true false,
 oG (.bin .eql (.t 19) (.t 21)) 22 17 true true,
 oP (.pick (.t 17) (.t 22) (kB false)) 23,
 oM 23 24,
 oG (.fieldAddr 3 (.t 2)) 25 24 true true,
 oG (.load none (.t 25)) 26 24 true false,
 oG (.fieldAddr 3 (.t 3)) 27 24 true true,
 oG (.load none (.t 27)) 28 24 true false,
 oG (.bin .eql (.t 26) (.t 28)) 29 24 true true,
 oP (.pick (.t 24) (.t 29) (kB false)) 30,
 oM 30 31,
 oG (.fieldAddr 4 (.t 2)) 32 31 true true,
 oG (.load none (.t 32)) 33 31 true false,
 oG (.fieldAddr 4 (.t 3)) 34 31 true true,
 oG (.load none (.t 34)) 35 31 true false,
 oG (.qcall (.f 27) [(.t 33),(.t 35),(.f 9)]) 36 31 true false,
 oP (.pick (.t 31) (.t 36) (kB false)) 37,
 oM 37 4]
 (.ret))
theorem ZT:bE Tryz.prog 9 acz=some (Ws,[.tmp 4],38):=by kernel_rfl
def acN:b7:=⟨⟨[],[],[],[],[],[]⟩,[],[],false⟩
def Zu:dA:=
 sO [oP (.cg (kB false)) 6]
 (.seq (sO [oM 0 10,
 oZ 10 11,
 oM 1 12,
 oZ 12 13,
 oE .neq 11 13 14]
 (.cond (.t 14)
 (sO [oP (.cg (kB false)) 6]
 (.ret))
 (.skip)))
 (.seq (sO [oM 0 15,
 oZ 15 16,
 oP (.cg (kI 0)) 17]
 (.block 0 (.loop (sO [oE .lss 17 16 18]
 (.seq (.cond (.t 18)
 (.skip)
 (.exit 0))
 (.seq (.block 1 (sO [oM 17 19,
 oI 5 15 17 20,
 oJ 5 20 21,
 oA 8,
 oM 19 7,
 oS 5 8 21]
 (sO [oM 1 22,
 oM 7 23,
 oI 5 22 23 24,
 oJ 5 24 25,
 oA 9,
 oS 5 9 25]
 (sO [oM 2 26,
 oJ 5 8 27,
 oJ 5 9 28,
 oQ (.qcall (.t 26) [(.t 27),(.t 28)]) 29,
 oP (.un .not (.t 29)) 30]
 (.cond (.t 30)
 (sO [oP (.cg (kB false)) 6]
 (.ret))
 (.skip))))))
 (.ops [oH .add 17 1 31,
 oM 31 17])))))))
 (sO [oP (.cg (kB true)) 6]
 (.ret))))
theorem Z4:bE Tryz.prog 27 acN=some (Zu,[.tmp 6],32):=by kernel_rfl
def kW (a b:Nd):Bool:=@decide (a=b) (Classical.propDecidable _)
def lW (a b:List Nd):Bool:=@decide (a=b) (Classical.propDecidable _)
theorem oT {a b:Nd}:kW a b=true↔a=b:=by simp [kW]
theorem oR {a b:List Nd}:lW a b=true↔a=b:=by simp [lW]
def kj (f:Nat):List D→Option D
 | [.agg ds,.agg es]=>match vg ds,vg es with
  | some n,some m=>if n.de<f then some (.bool (kW n m)) else none
  | _,_=>none
 | _=>none
set_option maxHeartbeats 1000000 in
theorem sK (f:Nat) (hf:f<9223372036854775807) (hT:(bf.zero.cX 9 (kj f)).ok Tryz.prog) (l r:List Nd) (hl:∀y∈l,y.de<f):aM Tryz.prog 27 [.sl (Nd.cN l),.sl (Nd.cN r),.func (.func 9) [] []] (.bool (lW l r)):=by
 refine aM.run hT Z4 (by simp) fun E=>?_
 have nr:∀g args,(bf.zero.cX 9 (kj f)).q g args=if g=9 then kj f args else bf.zero.q g args:=fun g args=>rfl
 have hq:∀x y:Nd,x.de<f→kj f [.agg x.enc,.agg y.enc]=some (.bool (kW x y)):=fun x y hx=>by simp only [kj,j8,hx,if_true]
 generalize bf.zero.cX 9 (kj f)=TT at nr ⊢
 simp (maxSteps:=1000000) only [Zu,aV,nr,aB,seval]
 intro l1 l2
 by_cases cl:l.length=r.length
 ·have g:((l.length:Int) != (r.length:Int))=false:=by simp [cl]
  simp (maxSteps:=1000000) only [g,nr,aB,seval]
  intro _
  refine cS (X:=Nat) (fun z=>[(1,.sl (Nd.cN r)),(2,.func (.func 9) [] []),(15,.sl (Nd.cN l)),(16,.int .i64 l.length),(17,.int .i64 z)])
   (fun z=>.emp) (fun z=>l.length - z) (fun z=>z≤l.length∧l.take z=r.take z) 0 ⟨Nat.zero_le _,rfl⟩ ?_ ?_ ?_
  ·simp only [aB,seval]
  ·exact aa.iW _
  rintro i Q ⟨j0,j1⟩ hQ
  cases c:decide (i<l.length) with
  | false=>
   have e0:i=l.length:=by simp at c; omega
   have g:((i:Int)<l.length)=False:=eq_false (by omega)
   simp (maxSteps:=1000000) only [g,nr,aB,seval]
   have:lW l r=true:=by
    rw [e0,List.take_length,cl,List.take_length] at j1
    rw [oR]; exact j1
   rw [this]
   exact .inl rfl
  | true=>
   have c:i<l.length:=by simpa using c
   obtain ⟨y,hy⟩:∃y,l[i]? =some y:=⟨_,List.getElem?_eq_getElem c⟩
   obtain ⟨z,hz⟩:∃z,r[i]? =some z:=⟨_,List.getElem?_eq_getElem (by omega)⟩
   have g:((i:Int)<l.length)=True:=eq_true (by omega)
   have hym:y∈l:=List.mem_of_getElem? hy
   have wi:IntKind.i64.wrap ((i:Int)+1)=((i+1:Nat):Int):=cW (by omega)
   have hp:=aj y
   have F1:=aj z
   have qz:∀(K:D→aa→Prop) (h:aa),iC 5 K h (Nd.cN l) (i:Int)=K (.cU y.enc 0) h:=fun K h=>iL hy
   have Vb:∀(K:D→aa→Prop) (h:aa),iC 5 K h (Nd.cN r) (i:Int)=K (.cU z.enc 0) h:=fun K h=>iL hz
   have Vo:=hq y z (hl y hym)
   have po:kW y z=true→l.take (i+1)=r.take (i+1):=fun h=>by rw [List.take_add_one,List.take_add_one,hy,hz,j1,oT.1 h]
   have X4:kW y z=false→lW l r=false:=fun h=>by
    cases e:lW l r with
    | false=>rfl
    | true=>
     rw [oR] at e
     subst e
     rw [hy] at hz
     cases hz
     rw [show kW y y=true from oT.2 rfl] at h
     cases h
   generalize kW y z=sm at*
   clear hym hy hz hq hp F1
   have e1:gn y.enc 0 (some 5)=some (.agg y.enc):=aj y
   have e2:gn z.enc 0 (some 5)=some (.agg z.enc):=aj z
   obtain ⟨yk,yt,yx,ym,yl⟩:=y
   obtain ⟨zk,zt,zx,zm,zl⟩:=z
   rw [aR] at*
   simp only [aR] at Vb e2 Vo
   cases sm with
   | false=>
    simp (maxSteps:=1000000) only [g,qz,Vb,e1,e2,wi,Vo,nr,X4,aB,seval]
    intro i8 i9 n1 n2
    simp (maxSteps:=1000000) only [n1,n2,Vo,nr,aB,seval]
   | true=>
    simp (maxSteps:=1000000) only [g,qz,Vb,e1,e2,wi,Vo,nr,aB,seval]
    intro i8 i9 n1 n2
    simp (maxSteps:=1000000) only [n1,n2,Vo,wi,nr,aB,seval]
    refine hQ (i+1) _ _ ⟨c,po rfl⟩ (by simp only [aB,seval]) (aa.iW _) (by omega)
 ·have g:((l.length:Int) != (r.length:Int))=true:=by simp; omega
  have:lW l r=false:=by
   cases e:lW l r with
   | false=>rfl
   | true=>rw [oR] at e; subst e; exact absurd rfl cl
  simp (maxSteps:=1000000) only [g,this,nr,aB,seval]
def DO (f:Nat):List D→Option D
 | [.sl ds,.sl es,.func (.func 9) [] []]=>match vh ds,vh es with
  | some l,some m=>if (∀y∈l,y.de<f) then some (.bool (lW l m)) else none
  | _,_=>none
 | _=>none
set_option maxHeartbeats 1000000 in
theorem zR (f:Nat) (hT:((bf.zero.cX 9 (kj f)).cX 27 (DO f)).ok Tryz.prog) (x y:Nd) (hx:x.de<f+1):aM Tryz.prog 9 [.agg x.enc,.agg y.enc] (.bool (kW x y)):=by
 refine aM.run hT ZT (by simp) fun E=>?_
 have nr:∀g args,((bf.zero.cX 9 (kj f)).cX 27 (DO f)).q g args=if g=27 then DO f args else (bf.zero.cX 9 (kj f)).q g args:=fun g args=>rfl
 have hq:∀x y:List Nd,(∀y∈x,y.de<f)→DO f [.sl (Nd.cN x),.sl (Nd.cN y),.func (.func 9) [] []]=some (.bool (lW x y)):=fun x y hx=>by simp only [DO,ye]; rw [if_pos hx]
 generalize (bf.zero.cX 9 (kj f)).cX 27 (DO f)=TT at nr ⊢
 obtain ⟨yk,yt,yx,ym,yl⟩:=x
 obtain ⟨zk,zt,zx,zm,zl⟩:=y
 have FY:∀y∈yl,y.de<f:=fun y hy=>by have:=ot (k:=yk) (t:=yt) (s:=yx) (n:=ym) hy; omega
 have Vo:=hq yl zl FY
 have hs:kW (.mk yk yt yx ym yl) (.mk zk zt zx zm zl)=((yk==zk) && ((yt==zt) && ((yx==zx) && ((ym==zm) && lW yl zl)))):=by
  rw [Bool.eq_iff_iff,oT]
  simp only [Bool.and_eq_true,beq_iff_eq,oR,Nd.mk.injEq]
 rw [aR,aR,hs]
 generalize lW yl zl=sl at*
 have run:∀c1m c2m c3m c4m:Bool,(yk==zk)=c1m→(yt==zt)=c2m→(yx==zx)=c3m→(ym==zm)=c4m→vc TT Ws (todo TT (sw [.tmp 4] fun o _=>o=.ret (.bool (c1m && (c2m && (c3m && (c4m && sl)))))) E []) E (fT [.agg [.int .i64 yk,.int .i64 yt,.str yx,.int .i64 ym,.sl (Nd.cN yl)],.agg [.int .i64 zk,.int .i64 zt,.str zx,.int .i64 zm,.sl (Nd.cN zl)]]) .emp:=by
  intro c1m c2m c3m c4m e1 e2 e3 e4
  simp (maxSteps:=1000000) only [Ws,nr,aB,seval]
  intro i2 i3 n1 n2
  cases c1m with
  | false=>simp (maxSteps:=1000000) only [n1,n2,e1,nr,aB,seval]
  | true=>
   cases c2m with
   | false=>simp (maxSteps:=1000000) only [n1,n2,e1,e2,nr,aB,seval]
   | true=>
    cases c3m with
    | false=>simp (maxSteps:=1000000) only [n1,n2,e1,e2,e3,nr,aB,seval]
    | true=>
     cases c4m with
     | false=>simp (maxSteps:=1000000) only [n1,n2,e1,e2,e3,e4,nr,aB,seval]
     | true=>simp (maxSteps:=1000000) only [n1,n2,e1,e2,e3,e4,Vo,Bool.true_and,nr,aB,seval]
 exact run _ _ _ _ rfl rfl rfl rfl
theorem wA {f:Nat} (hP:∀x y:Nd,x.de<f→aM Tryz.prog 9 [.agg x.enc,.agg y.enc] (.bool (kW x y))) (args:List D) (d:D) (h:kj f args=some d):aM Tryz.prog 9 args d:=by
 unfold kj at h
 split at h
 ·split at h
  ·rename_i e1 e2
   split at h
   ·cases h
    rw [iO e1,iO e2]
    exact hP _ _ (by assumption)
   ·cases h
  ·cases h
 ·cases h
theorem H3 {f:Nat} (hP:∀l r:List Nd,(∀y∈l,y.de<f)→aM Tryz.prog 27 [.sl (Nd.cN l),.sl (Nd.cN r),.func (.func 9) [] []] (.bool (lW l r))) (args:List D) (d:D) (h:DO f args=some d):aM Tryz.prog 27 args d:=by
 unfold DO at h
 split at h
 ·split at h
  ·rename_i e1 e2
   split at h
   ·cases h
    rw [pI e1,pI e2]
    exact hP _ _ (by assumption)
   ·cases h
  ·cases h
 ·cases h
theorem uN:∀f,f≤9223372036854775807→(bf.zero.cX 9 (kj f)).ok Tryz.prog
 | 0,_=>bf.bm (bf.ew _) (wA fun x y h=>by omega)
 | f+1,hf=>bf.bm (bf.ew _) (wA fun x y h=>zR f (bf.bm (uN f (by omega)) (H3 fun l r hl=>sK f (by omega) (uN f (by omega)) l r hl)) x y h)
theorem Ww (x y:Nd) (h:x.de<9223372036854775807):aM Tryz.prog 9 [.agg x.enc,.agg y.enc] (.bool (kW x y)):=
 zR x.de (bf.bm (uN _ (by omega)) (H3 fun l r hl=>sK _ h (uN _ (by omega)) l r hl)) x y (by omega)
def Oj:List D→Option D:=kj 9223372036854775807
theorem R3 (args:List D) (d:D) (h:Oj args=some d):aM Tryz.prog 9 args d:=wA (fun x y h=>Ww x y h) args d h
theorem R2 {x y:Nd} (h:x.de<9223372036854775807):Oj [.agg x.enc,.agg y.enc]=some (.bool (kW x y)):=by
 simp only [Oj,kj,j8]
 rw [if_pos h]
end
end Go.Proofs.YtpklkpkfgmoghaaGreatDoor.Zz
