/- Contracts: declarations. -/
import Derived.Test.YtpklkpkfgmoghaaGreatDoorZP12
set_option linter.unnecessarySimpa false
set_option linter.unusedVariables false
set_option linter.unusedSimpArgs false
set_option maxRecDepth 20000
namespace Go.Proofs.YtpklkpkfgmoghaaGreatDoor.Zz
noncomputable section
def am2:cm:=⟨⟨[(12,4)],[(1,1),(2,2),(2,4),(2,6),(3,1),(4,1),(5,1),(7,1),(8,2),(8,4),(9,1),(11,1),(12,2),(12,4),(13,1),(14,1),(16,1),(18,1),(19,4),(19,6),(19,8),(20,1),(21,3)],[],[((19,4),[(.t 5)]),((19,6),[(.t 5)]),((19,8),[(.t 5)]),((21,3),[(.t 5)])],[((19,1),(.t 5)),((21,1),(.t 5))],[]⟩,[(19,[0,1,2,3,5,4,6,7,8,9,10,11,12]),(21,[0,1,2,3,4,5,6,7])],[],false⟩
def ai2:dU:=
 sO [oA 2]
 (.seq (.block 0 (sO [oM 0 7,
 oC 57 [.t 7,(kS [118,97,114])] 8,
 oM 8 6]
 (.cond (.t 6)
 (sO [oM 0 9,
 oM 0 10,
 oC 58 [.t 10] 11,
 oM 0 12,
 oC 59 [.t 12] 13,
 oP (.build zN [(0,1,(kI 2)),(2,1,(.t 11)),(1,1,(.t 13))]) 14,
 oC 35 [.t 9,.t 14] 15,
 oA 3,
 oS 5 3 15]
 (sO [oM 0 16,
 oC 60 [.t 16,kS [61]] 17]
 (sO [oM 0 18,
 oC 61 [.t 18] 19,
 oP (.buildSlice 5 zN 1 [(0,(.t 19))] false) 20,
 oF 4 3 21,
 oS 1 21 20]
 (sO [oM 0 22,
 oC 60 [.t 22,kS [59]] 23]
 (sO [oJ 5 3 24,
 oS 5 2 24]
 (.ret))))))
 (sO [oM 0 26,
 oC 57 [.t 26,(kS [116,101,115,116])] 27,
 oM 27 25]
 (.cond (.t 25)
 (sO [oM 0 28,
 oM 0 29,
 oC 58 [.t 29] 30,
 oP (.build zN [(0,1,(kI 4)),(2,1,(.t 30))]) 31,
 oC 35 [.t 28,.t 31] 32,
 oA 4,
 oS 5 4 32]
 (sO [oM 0 33,
 oC 62 [.t 33] 34,
 oP (.buildSlice 5 zN 1 [(0,(.t 34))] false) 35,
 oF 4 4 36,
 oS 1 36 35]
 (sO [oJ 5 4 37,
 oS 5 2 37]
 (.ret))))
 (.skip))))))
 (sO [oM 0 38,
 oC 60 [.t 38,(kS [102,117,110,99])] 39]
 (sO [oM 0 40,
 oM 0 41,
 oC 58 [.t 41] 42,
 oP (.build zN [(0,1,(kI 3)),(2,1,(.t 42))]) 43,
 oQ (.callR (.f 35) [(.t 40),(.t 43)]) 44,
 oA 5,
 oS 5 5 44]
 (sO [oM 0 45,
 oC 60 [.t 45,kS [40]] 46]
 (.seq (.block 1 (.loop (.seq (sO [oM 0 47,
 oC 57 [.t 47,kS [41]] 48,
 oP (.un .not (.t 48)) 49]
 (.cond (.t 49)
 (.skip)
 (.exit 1)))
 (.block 2 (.seq (sO [oF 4 5 50,
 oL 50 51,
 oZ 51 52,
 oH .gtr 52 0 53]
 (.cond (.t 53)
 (.ops [oM 0 54,
 oC 60 [.t 54,kS [44]] 55])
 (.skip)))
 (.seq (sO [oF 4 5 56,
 oL 56 57,
 oZ 57 58,
 oH .geq 58 6 59]
 (.cond (.t 59)
 (.ops [oM 0 60,
 oC 38 [.t 60,kI 3] 61])
 (.skip)))
 (.fS 62 [oF 4 5 62,
 oQ (.cQ none (.t 62) (.t 5)) 63,
 oM 0 64,
 oM 0 65,
 oM 0 67,
 oQ (.callNe (.f 58) [(.t 65)] [(.t 5)]) 66,
 oQ (.callNe (.f 59) [(.t 67)] [(.t 5)]) 68,
 oP (.build zN [(0,1,(kI 5)),(2,1,(.t 66)),(1,1,(.t 68))]) 69,
 oQ (.callNe (.f 35) [(.t 64),(.t 69)] [(.t 5)]) 70,
 oP (.buildSlice 5 zN 1 [(0,(.t 70))] false) 71,
 oQ (.append 5 64 false (.t 63) (.t 71)) 72,
 oF 4 5 73,
 oS 1 73 72])))))))
 (sO [oM 0 74,
 oC 59 [.t 74] 75,
 oF 1 5 76,
 oS 1 76 75]
 (.seq (.fS 77 [oF 4 5 77,
 oQ (.cQ none (.t 77) (.t 5)) 78,
 oM 0 79,
 oQ (.callNe (.f 62) [(.t 79)] [(.t 5)]) 80,
 oP (.buildSlice 5 zN 1 [(0,(.t 80))] false) 81,
 oQ (.append 5 64 false (.t 78) (.t 81)) 82,
 oF 4 5 83,
 oS 1 83 82])
 (sO [oJ 5 5 84,
 oS 5 2 84]
 (.ret)))))))))
theorem ajM:bA Tryz.prog 39 am2=some (ai2,[.cell 2 (some 5)],85):=by kernel_rfl
def abB (l:List Tok) (g:fg) (s:PS):PR Nd:=(gP l uZ s).bind fun _ s=>(ko l s).bind fun x s=>(eJ l (.mk 3 0 x 0 []) s).bind fun n s=>(gP l [40] s).bind fun _ s=>
 (nT l (l.length+1) n s).bind fun n s=>(sH l s).bind fun t s=>(g.block s).bind fun b s=>.ok ((n.WE t).ea b) s
theorem US (l:List Tok) (g:fg) (s:PS):qA l g s=(eC l mR s).bind fun b s=>bif b then (ko l s).bind fun x s=>(sH l s).bind fun t s=>(eJ l (.mk 2 t x 0 []) s).bind fun n s=>(gP l [61] s).bind fun _ s=>(FF l s).bind fun v s=>(gP l [59] s).bind fun _ s=>.ok (n.bN [v]) s else
 (eC l u5 s).bind fun b s=>bif b then (ko l s).bind fun x s=>(eJ l (.mk 4 0 x 0 []) s).bind fun n s=>(g.block s).bind fun b s=>.ok (n.bN [b]) s else abB l g s:=rfl
set_option maxHeartbeats 1000000 in
theorem adO (G:List Tok→fg) (hG:∀l,qh (G l)) (hT:(BW G).ok Tryz.prog) (l:List Tok) (hl:yC l) (s:PS) (i1:Nat) (ok:dy l s) (K0:Nd→PS→Prop) (E0:Int→Int→Prop) (hw:lg (qA l (G l) s) (fun x s'=>dy l s'→K0 x s') E0):aH Tryz.prog 39 [.ptr i1 1 0] (aa.emp.set i1 (cK l s)) (nV dq l i1 K0 E0):=by
 refine aH.cv hT (dc:=cy.none) (fun _ _=>cy.cX) (by kernel_rfl) ajM (by simp) ?_
 rw [cA]
 have hp:=fun (h:aa) (j:Nat) (B C:cJ)=>push_id (id:=i1) h j B C
 rw [US,aR] at hw
 simp (maxSteps:=1000000) only [ai2,hp,hp,au,aC,ah,ao,aQ,bj,bm,af,ae,ab,ag,av,aM,aq,aA,seval]
 intro i2 an ak
 refine ⟨l,s,i1,mR,rfl,hl.lo,(by simp [an,ak]),ok,aF (fun b cM e1 k iW=>?_) (fun a e k s'=>?_) hw⟩
 case refine_2=>
  simp only [aX,ab,av]
  exact aI (s':=s') (by simp [an,ak]) k
 cases b with
 | true=>
  rw [cond_true,aR] at k
  simp (maxSteps:=1000000) only [hp,an,ak,au,aC,ah,ao,aQ,bj,bm,af,ae,ab,ag,av,aM,aq,aA,seval]
  refine ⟨l,cM,i1,rfl,hl.lo,(by simp [an,ak]),iW,aF (fun x ff e2 k lR=>?_) (fun a e k s'=>?_) k⟩
  case refine_2=>
   simp only [aX,ab,av]
   exact aI (s':=s') (by simp [an,ak]) k
  rw [aR] at k
  simp (maxSteps:=1000000) only [hp,an,ak,au,aC,ah,ao,aQ,bj,bm,af,ae,ab,ag,av,aM,aq,aA,seval]
  refine ⟨l,ff,i1,rfl,hl.lo,(by simp [an,ak]),lR,aF (fun t fP e3 k p_=>?_) (fun a e k s'=>?_) k⟩
  case refine_2=>
   simp only [aX,ab,av]
   exact aI (s':=s') (by simp [an,ak]) k
  rw [aR] at k
  simp (maxSteps:=1000000) only [hp,an,ak,au,aC,ah,ao,aQ,bj,bm,af,ae,ab,ag,av,aM,aq,aA,seval]
  refine .inl ⟨l,fP,i1,.mk 2 t x 0 [],by simp only [aB,bc],hl.lo,(by simp [an,ak]),p_,aF (fun n pY e4 k yw=>?_) (fun a e k s'=>?_) k⟩
  case refine_2=>
   simp only [aX,ab,av]
   exact aI (s':=s') (by simp [an,ak]) k
  obtain ⟨nk,nt,ns,nm,nl⟩:=n
  rw [aR] at k
  simp (maxSteps:=1000000) only [dq,aB,hp,an,ak,au,aC,ah,ao,aQ,bj,bm,af,ae,ab,ag,av,aM,aq,aA,seval]
  intro i3 ax aw az ay
  refine ⟨l,pY,i1,[61],rfl,hl.lo,(by simp [an,ak,ax,aw,az,ay]),yw,aF (fun _ BV e5 k Ih=>?_) (fun a e k s'=>?_) k⟩
  case refine_2=>
   simp only [aX,ab,av]
   exact aI (s':=s') (by simp [an,ak,ax,aw,az,ay]) k
  rw [aR] at k
  simp (maxSteps:=1000000) only [hp,an,ak,ax,aw,az,ay,au,aC,ah,ao,aQ,bj,bm,af,ae,ab,ag,av,aM,aq,aA,seval]
  refine ⟨l,BV,i1,rfl,hl,(by simp [an,ak,ax,aw,az,ay]),Ih,aF (fun v Be e6 k SQ=>?_) (fun a e k s'=>?_) k⟩
  case refine_2=>
   simp only [aX,ab,av]
   exact aI (s':=s') (by simp [an,ak,ax,aw,az,ay]) k
  rw [aR] at k
  simp (maxSteps:=1000000) only [dq,hp,an,ak,ax,aw,az,ay,au,aC,ah,ao,aQ,bj,bm,af,ae,ab,ag,av,aM,aq,aA,seval]
  refine ⟨l,Be,i1,[59],rfl,hl.lo,(by simp [an,ak,ax,aw,az,ay]),SQ,aF (fun _ Gg e7 k ok7=>?_) (fun a e k s'=>?_) k⟩
  case refine_2=>
   simp only [aX,ab,av]
   exact aI (s':=s') (by simp [an,ak,ax,aw,az,ay]) k
  rw [cU] at k
  simp (maxSteps:=1000000) only [hp,an,ak,ax,aw,az,ay,au,aC,ah,ao,aQ,bj,bm,af,ae,ab,ag,av,aM,aq,aA,seval]
  exact cV (x:=.mk nk nt ns nm [v]) (s':=Gg) (by rw [dq,aB,bO,bc]) (by simp [an,ak,ax,aw,az,ay]) (k ok7)
 | false=>
 rw [cond_false,aR] at k
 simp (maxSteps:=1000000) only [hp,an,ak,au,aC,ah,ao,aQ,bj,bm,af,ae,ab,ag,av,aM,aq,aA,seval]
 refine ⟨l,cM,i1,u5,rfl,hl.lo,(by simp [an,ak]),iW,aF (fun b ff e2 k lR=>?_) (fun a e k s'=>?_) k⟩
 case refine_2=>
  simp only [aX,ab,av]
  exact aI (s':=s') (by simp [an,ak]) k
 cases b with
 | true=>
  rw [cond_true,aR] at k
  simp (maxSteps:=1000000) only [hp,an,ak,au,aC,ah,ao,aQ,bj,bm,af,ae,ab,ag,av,aM,aq,aA,seval]
  refine ⟨l,ff,i1,rfl,hl.lo,(by simp [an,ak]),lR,aF (fun x fP e3 k p_=>?_) (fun a e k s'=>?_) k⟩
  case refine_2=>
   simp only [aX,ab,av]
   exact aI (s':=s') (by simp [an,ak]) k
  rw [aR] at k
  simp (maxSteps:=1000000) only [hp,an,ak,au,aC,ah,ao,aQ,bj,bm,af,ae,ab,ag,av,aM,aq,aA,seval]
  refine .inl ⟨l,fP,i1,.mk 4 0 x 0 [],by simp only [aB,bc],hl.lo,(by simp [an,ak]),p_,aF (fun n pY e4 k yw=>?_) (fun a e k s'=>?_) k⟩
  case refine_2=>
   simp only [aX,ab,av]
   exact aI (s':=s') (by simp [an,ak]) k
  obtain ⟨nk,nt,ns,nm,nl⟩:=n
  rw [aR] at k
  simp (maxSteps:=1000000) only [dq,aB,hp,an,ak,au,aC,ah,ao,aQ,bj,bm,af,ae,ab,ag,av,aM,aq,aA,seval]
  intro i3 ax aw az ay
  refine ⟨l,pY,i1,rfl,hl,(by simp [an,ak,ax,aw,az,ay]),yw,aF (fun y BV e5 k Ih=>?_) (fun a e k s'=>?_) k⟩
  case refine_2=>
   simp only [aX,ab,av]
   exact aI (s':=s') (by simp [an,ak,ax,aw,az,ay]) k
  rw [cU] at k
  simp (maxSteps:=1000000) only [dq,hp,an,ak,ax,aw,az,ay,au,aC,ah,ao,aQ,bj,bm,af,ae,ab,ag,av,aM,aq,aA,seval]
  exact cV (x:=.mk nk nt ns nm [y]) (s':=BV) (by rw [dq,aB,bO,bc]) (by simp [an,ak,ax,aw,az,ay]) (k Ih)
 | false=>
 rw [cond_false] at k
 unfold abB at k
 rw [aR] at k
 simp (maxSteps:=1000000) only [hp,an,ak,au,aC,ah,ao,aQ,bj,bm,af,ae,ab,ag,av,aM,aq,aA,seval]
 refine ⟨l,ff,i1,uZ,rfl,hl.lo,(by simp [an,ak]),lR,aF (fun _ fP e3 k p_=>?_) (fun a e k s'=>?_) k⟩
 case refine_2=>
  simp only [aX,ab,av]
  exact aI (s':=s') (by simp [an,ak]) k
 rw [aR] at k
 simp (maxSteps:=1000000) only [hp,an,ak,au,aC,ah,ao,aQ,bj,bm,af,ae,ab,ag,av,aM,aq,aA,seval]
 refine ⟨l,fP,i1,rfl,hl.lo,(by simp [an,ak]),p_,aF (fun x pY e4 k yw=>?_) (fun a e k s'=>?_) k⟩
 case refine_2=>
  simp only [aX,ab,av]
  exact aI (s':=s') (by simp [an,ak]) k
 rw [aR] at k
 simp (maxSteps:=1000000) only [yT,zV,hp,an,ak,au,aC,ah,ao,aQ,bj,bm,af,ae,ab,ag,av,aM,aq,aA,seval]
 refine .inr ⟨l,pY,i1,.mk 3 0 x 0 [],rfl,hl.lo,(by simp [an,ak]),yw,aF (fun n BV e5 k Ih=>?_) (fun a e k s'=>?_) k⟩
 case refine_2=>
  simp only [aX,ab,av]
  exact aI (s':=s') (by simp [an,ak]) k
 have hn:=uq e5
 subst hn
 rw [aR] at k
 simp (maxSteps:=1000000) only [zV,hp,an,ak,au,aC,ah,ao,aQ,bj,bm,af,ae,ab,ag,av,aM,aq,aA,seval]
 intro i3 ax aw az ay
 refine ⟨l,BV,i1,[40],rfl,hl.lo,(by simp [an,ak,ax,aw,az,ay]),Ih,aF (fun _ Be e6 k SQ=>?_) (fun a e k s'=>?_) k⟩
 case refine_2=>
  simp only [aX,ab,av]
  exact aI (s':=s') (by simp [an,ak,ax,aw,az,ay]) k
 rw [aR] at k
 obtain ⟨Kr,k,hKr⟩:∃Kr:Nd→PS→Prop,lg (nT l (l.length+1) (.mk 3 0 x 0 []) Be) Kr E0∧∀n s,Kr n s→lg ((sH l s).bind fun t s=>((G l).block s).bind fun b s=>.ok ((n.WE t).ea b) s) (fun x s'=>dy l s'→K0 x s') E0:=⟨_,k,fun _ _ h=>h⟩
 simp (maxSteps:=1000000) only [hp,an,ak,ax,aw,az,ay,au,aC,ah,ao,aQ,bj,bm,af,ae,ab,ag,av,aM,aq,aA,seval]
 refine cj (X:=Nat×Nd×Nat×PS) (fun z=>[(0,.ptr i1 1 0),(2,.ptr i2 1 0),(5,.ptr i3 1 0)])
  (fun z=>jd (((aa.emp.set i1 (cK l z.2.2.2)).set i2 (.cells [.int .i64 0,.int .i64 0,.str [],.int .i64 0,.aZ])).set i3 (.cells (mM z.2.1 z.2.2.1))) z.2.1 z.2.2.1) (fun z=>z.1)
  (fun z=>dy l z.2.2.2∧lg (nT l z.1 z.2.1 z.2.2.2) Kr E0∧(z.2.1.cu≠[]→¬z.2.2.1=i1∧¬z.2.2.1=i2∧¬z.2.2.1=i3)∧z.2.1.cu.length≤6)
  (l.length+1,.mk 3 0 x 0 [],0,Be) ⟨SQ,k,fun h=>absurd rfl h,Nat.zero_le _⟩ (by simp only [aq,aA,seval]) (aa.aj _) ?_
 clear hw
 rintro ⟨j,n,r,jL⟩ Q ⟨qQ,hw,hr,h6⟩ hQ
 simp only at qQ hw hr h6 hQ ⊢
 cases j with
 | zero=>exact hw.elim
 | succ j=>
 unfold nT at hw
 rw [aR] at hw
 obtain ⟨nk,nt,ns,nm,nl⟩:=n
 simp only [Nd.cu] at hw hr h6
 by_cases wD:nl=[]
 ·subst wD
  have hH:∀h:aa,jd h (.mk nk nt ns nm []) r=h:=fun h=>if_pos rfl
  rw [hH,mM,List.length_nil,c_]
  simp (maxSteps:=1000000) only [hp,an,ak,ax,aw,az,ay,au,aC,ah,ao,aQ,bj,bm,af,ae,ab,ag,av,aM,aq,aA,seval]
  refine ⟨l,jL,i1,[41],rfl,hl.lo,(by simp [an,ak,ax,aw,az,ay]),qQ,aF (fun b cM e1 k iW=>?_) (fun a e k s'=>?_) hw⟩
  case refine_2=>
   simp only [aX,ab,av]
   exact aI (s':=s') (by simp [an,ak,ax,aw,az,ay]) k
  cases b with
  | true=>
   rw [cond_true,cU] at k
   have k:=hKr _ _ k
   rw [aR] at k
   simp (maxSteps:=1000000) only [hp,an,ak,ax,aw,az,ay,au,aC,ah,ao,aQ,bj,bm,af,ae,ab,ag,av,aM,aq,aA,seval]
   refine ⟨l,cM,i1,rfl,hl.lo,(by simp [an,ak,ax,aw,az,ay]),iW,aF (fun t ff e2 k lR=>?_) (fun a e k s'=>?_) k⟩
   case refine_2=>
    simp only [aX,ab,av]
    exact aI (s':=s') (by simp [an,ak,ax,aw,az,ay]) k
   rw [aR] at k
   simp (maxSteps:=1000000) only [hp,an,ak,ax,aw,az,ay,au,aC,ah,ao,aQ,bj,bm,af,ae,ab,ag,av,aM,aq,aA,seval]
   refine ⟨l,ff,i1,rfl,hl,(by simp [an,ak,ax,aw,az,ay]),lR,aF (fun y fP e3 k p_=>?_) (fun a e k s'=>?_) k⟩
   case refine_2=>
    intro σ hσ _
    simp only [aX]
    rw [hσ]
    show gb cy.none [] _ _ _
    simp only [ab,av]
    exact aI (s':=s') (by simp [an,ak,ax,aw,az,ay]) k
   rw [cU] at k
   simp (maxSteps:=1000000) only [dq,hp,an,ak,ax,aw,az,ay,au,aC,ah,ao,aQ,bj,bm,af,ae,ab,ag,av,aM,aq,aA,seval]
   intro i4 aL aP aK aO aJ aN
   simp (maxSteps:=1000000) only [hp,an,ak,ax,aw,az,ay,aL,aP,aK,aO,aJ,aN,au,aC,ah,ao,aQ,bj,bm,af,ae,ab,ag,av,aM,aq,aA,seval]
   exact im (x:=.mk nk t ns nm [y]) (s':=fP) (by rw [dq,aB,bO,bc]) (by simp [an,ak,ax,aw,az,ay,aL,aP,aK,aO,aJ,aN]) (k p_)
  | false=>
   rw [cond_false] at k
   replace k:lg ((ko l cM).bind fun x s=>(sH l s).bind fun t s=>(eJ l (.mk 5 t x 0 []) s).bind fun m s=>nT l j ((Nd.mk nk nt ns nm []).ea m) s) Kr E0:=k
   rw [aR] at k
   simp (maxSteps:=1000000) only [hp,an,ak,ax,aw,az,ay,au,aC,ah,ao,aQ,bj,bm,af,ae,ab,ag,av,aM,aq,aA,seval]
   refine ⟨l,cM,i1,rfl,hl.lo,(by simp [an,ak,ax,aw,az,ay]),iW,aF (fun x ff e2 k lR=>?_) (fun a e k s'=>?_) k⟩
   case refine_2=>
    intro σ hσ _
    simp only [aX]
    rw [hσ]
    show gb cy.none [] _ _ _
    simp only [ab,av]
    exact aI (s':=s') (by simp [an,ak,ax,aw,az,ay]) k
   rw [aR] at k
   simp (maxSteps:=1000000) only [hp,an,ak,ax,aw,az,ay,au,aC,ah,ao,aQ,bj,bm,af,ae,ab,ag,av,aM,aq,aA,seval]
   refine ⟨l,ff,i1,rfl,hl.lo,(by simp [an,ak,ax,aw,az,ay]),lR,aF (fun t fP e3 k p_=>?_) (fun a e k s'=>?_) k⟩
   case refine_2=>
    intro σ hσ _
    simp only [aX]
    rw [hσ]
    show gb cy.none [] _ _ _
    simp only [ab,av]
    exact aI (s':=s') (by simp [an,ak,ax,aw,az,ay]) k
   rw [aR] at k
   simp (maxSteps:=1000000) only [hp,an,ak,ax,aw,az,ay,au,aC,ah,ao,aQ,bj,bm,af,ae,ab,ag,av,aM,aq,aA,seval]
   refine .inl ⟨l,fP,i1,.mk 5 t x 0 [],by simp only [aB,bc],hl.lo,(by simp [an,ak,ax,aw,az,ay]),p_,aF (fun m pY e4 k yw=>?_) (fun a e k s'=>?_) k⟩
   case refine_2=>
    intro σ hσ _
    simp only [aX]
    rw [hσ]
    show gb cy.none [] _ _ _
    simp only [ab,av]
    exact aI (s':=s') (by simp [an,ak,ax,aw,az,ay]) k
   simp (maxSteps:=1000000) only [dq,hp,an,ak,ax,aw,az,ay,au,aC,ah,ao,aQ,bj,bm,af,ae,ab,ag,av,aM,aq,aA,seval]
   intro i4 aL aP aK aO aJ aN
   simp (maxSteps:=1000000) only [hp,an,ak,ax,aw,az,ay,aL,aP,aK,aO,aJ,aN,au,aC,ah,ao,aQ,bj,bm,af,ae,ab,ag,av,aM,aq,aA,seval]
   refine hQ (j,.mk nk nt ns nm [m],i4,pY) _ _ ⟨yw,k,fun _=>⟨aJ,aK,aL⟩,by simp [Nd.cu]⟩ (by simp only [aq,aA,seval]) ?_ (by simp only; omega)
   simp only [jd,Nd.cu,mM,List.length_cons,List.length_nil,bO,bc,reduceCtorEq,if_false,bq (Nat.succ_ne_zero 0)]
   exact aa.fm (by repeat' first | with_reducible exact aa.bZ | with_reducible exact aa.cz | refine aa.dS (by simp [an,ak,ax,aw,az,ay,aL,aP,aK,aO,aJ,aN]) ?_ | refine aa.dT (by simp [an,ak,ax,aw,az,ay,aL,aP,aK,aO,aJ,aN]) ?_)
 ·obtain ⟨i4,rfl⟩:∃q,q=r:=⟨r,rfl⟩
  obtain ⟨aJ,aK,aL⟩:=hr wD
  have aN:¬i1=i4:=fun e=>aJ e.symm
  have aO:¬i2=i4:=fun e=>aK e.symm
  have aP:¬i3=i4:=fun e=>aL e.symm
  have hH:∀h:aa,jd h (.mk nk nt ns nm nl) i4=h.set i4 (.row 5 (nl.length+2) (Nd.bg nl) false):=fun h=>if_neg wD
  have vb:nl.length≠0:=fun e=>wD (List.length_eq_zero_iff.1 e)
  have tk:(Nd.bg nl).take nl.length=Nd.bg nl:=List.take_of_length_le (by rw [aU]; omega)
  rw [hH,mM,bq vb]
  simp (maxSteps:=1000000) only [hp,an,ak,ax,aw,az,ay,aL,aP,aK,aO,aJ,aN,au,aC,ah,ao,aQ,bj,bm,af,ae,ab,ag,av,aM,aq,aA,seval]
  refine ⟨l,jL,i1,[41],rfl,hl.lo,(by simp [an,ak,ax,aw,az,ay,aL,aP,aK,aO,aJ,aN]),qQ,aF (fun b cM e1 k iW=>?_) (fun a e k s'=>?_) hw⟩
  case refine_2=>
   simp only [aX,ab,av]
   exact aI (s':=s') (by simp [an,ak,ax,aw,az,ay,aL,aP,aK,aO,aJ,aN]) k
  cases b with
  | true=>
   rw [cond_true,cU] at k
   have k:=hKr _ _ k
   rw [aR] at k
   simp (maxSteps:=1000000) only [hp,an,ak,ax,aw,az,ay,aL,aP,aK,aO,aJ,aN,au,aC,ah,ao,aQ,bj,bm,af,ae,ab,ag,av,aM,aq,aA,seval]
   refine ⟨l,cM,i1,rfl,hl.lo,(by simp [an,ak,ax,aw,az,ay,aL,aP,aK,aO,aJ,aN]),iW,aF (fun t ff e2 k lR=>?_) (fun a e k s'=>?_) k⟩
   case refine_2=>
    simp only [aX,ab,av]
    exact aI (s':=s') (by simp [an,ak,ax,aw,az,ay,aL,aP,aK,aO,aJ,aN]) k
   rw [aR] at k
   simp (maxSteps:=1000000) only [hp,an,ak,ax,aw,az,ay,aL,aP,aK,aO,aJ,aN,au,aC,ah,ao,aQ,bj,bm,af,ae,ab,ag,av,aM,aq,aA,seval]
   refine ⟨l,ff,i1,rfl,hl,(by simp [an,ak,ax,aw,az,ay,aL,aP,aK,aO,aJ,aN]),lR,aF (fun y fP e3 k p_=>?_) (fun a e k s'=>?_) k⟩
   case refine_2=>
    intro σ hσ _
    simp only [aX]
    rw [hσ]
    show gb cy.none [] _ _ _
    simp only [ab,av]
    exact aI (s':=s') (by simp [an,ak,ax,aw,az,ay,aL,aP,aK,aO,aJ,aN]) k
   rw [cU] at k
   have tk2:(Nd.bg nl++[y.enc]).take (nl.length+1)=Nd.bg nl++[y.enc]:=List.take_of_length_le (by rw [List.length_append,aU]; simp)
   have hle:(Nd.bg nl++[y.enc]).length=nl.length+1:=by rw [List.length_append,aU]; simp
   simp (maxSteps:=1000000) only [dq,aU,hp,an,ak,ax,aw,az,ay,aL,aP,aK,aO,aJ,aN,au,aC,ah,ao,aQ,bj,bm,af,ae,ab,ag,av,aM,aq,aA,seval]
   refine ⟨by omega,?_⟩
   simp (maxSteps:=1000000) only [aU,tk2,hle,hp,an,ak,ax,aw,az,ay,aL,aP,aK,aO,aJ,aN,au,aC,ah,ao,aQ,bj,bm,af,ae,ab,ag,av,aM,aq,aA,seval]
   exact im (x:=.mk nk t ns nm (nl++[y])) (s':=fP) (by rw [dq,aB,←fE]) (by simp [an,ak,ax,aw,az,ay,aL,aP,aK,aO,aJ,aN]) (k p_)
  | false=>
   rw [cond_false,aR] at k
   have g0:((nl.length:Int)>0)=True:=eq_true (by omega)
   replace k:=j9 (p:=gP l [44] cM) (by simp; omega) k
   simp (maxSteps:=1000000) only [g0,aU,hp,an,ak,ax,aw,az,ay,aL,aP,aK,aO,aJ,aN,au,aC,ah,ao,aQ,bj,bm,af,ae,ab,ag,av,aM,aq,aA,seval]
   intro _
   refine ⟨l,cM,i1,[44],rfl,hl.lo,(by simp [an,ak,ax,aw,az,ay,aL,aP,aK,aO,aJ,aN]),iW,aF (fun _ ff e2 k lR=>?_) (fun a e k s'=>?_) k⟩
   case refine_2=>
    simp only [aX,ab,av]
    exact aI (s':=s') (by simp [an,ak,ax,aw,az,ay,aL,aP,aK,aO,aJ,aN]) k
   by_cases lO:nl.length≥6
   ·have g3:((nl.length:Int)≥6)=True:=eq_true (by omega)
    replace k:=j9 (p:=jX l 3 ff) (by simpa [Nd.cu] using lO) k
    simp (maxSteps:=1000000) only [g3,aU,hp,an,ak,ax,aw,az,ay,aL,aP,aK,aO,aJ,aN,au,aC,ah,ao,aQ,bj,bm,af,ae,ab,ag,av,aM,aq,aA,seval]
    intro _
    refine ⟨l,ff,i1,3,rfl,(by simp [an,ak,ax,aw,az,ay,aL,aP,aK,aO,aJ,aN]),lR.at_,?_⟩
    simp only [aX]
    show gb cy.none [] _ _ _
    simp only [ab,av]
    exact aI (s':=ff) (by simp [an,ak,ax,aw,az,ay,aL,aP,aK,aO,aJ,aN]) k
   ·have g3:((nl.length:Int)≥6)=False:=eq_false (by omega)
    replace k:=pT (q:=(ko l ff).bind fun x s=>(sH l s).bind fun t s=>(eJ l (.mk 5 t x 0 []) s).bind fun m s=>nT l j ((Nd.mk nk nt ns nm nl).ea m) s) (by simpa [Nd.cu] using lO) k
    rw [aR] at k
    simp (maxSteps:=1000000) only [g3,aU,hp,an,ak,ax,aw,az,ay,aL,aP,aK,aO,aJ,aN,au,aC,ah,ao,aQ,bj,bm,af,ae,ab,ag,av,aM,aq,aA,seval]
    intro _
    refine ⟨l,ff,i1,rfl,hl.lo,(by simp [an,ak,ax,aw,az,ay,aL,aP,aK,aO,aJ,aN]),lR,aF (fun x fP e3 k p_=>?_) (fun a e k s'=>?_) k⟩
    case refine_2=>
     intro σ hσ _
     simp only [aX]
     rw [hσ]
     show gb cy.none [] _ _ _
     simp only [ab,av]
     exact aI (s':=s') (by simp [an,ak,ax,aw,az,ay,aL,aP,aK,aO,aJ,aN]) k
    rw [aR] at k
    simp (maxSteps:=1000000) only [hp,an,ak,ax,aw,az,ay,aL,aP,aK,aO,aJ,aN,au,aC,ah,ao,aQ,bj,bm,af,ae,ab,ag,av,aM,aq,aA,seval]
    refine ⟨l,fP,i1,rfl,hl.lo,(by simp [an,ak,ax,aw,az,ay,aL,aP,aK,aO,aJ,aN]),p_,aF (fun t pY e4 k yw=>?_) (fun a e k s'=>?_) k⟩
    case refine_2=>
     intro σ hσ _
     simp only [aX]
     rw [hσ]
     show gb cy.none [] _ _ _
     simp only [ab,av]
     exact aI (s':=s') (by simp [an,ak,ax,aw,az,ay,aL,aP,aK,aO,aJ,aN]) k
    rw [aR] at k
    simp (maxSteps:=1000000) only [hp,an,ak,ax,aw,az,ay,aL,aP,aK,aO,aJ,aN,au,aC,ah,ao,aQ,bj,bm,af,ae,ab,ag,av,aM,aq,aA,seval]
    refine .inl ⟨l,pY,i1,.mk 5 t x 0 [],by simp only [aB,bc],hl.lo,(by simp [an,ak,ax,aw,az,ay,aL,aP,aK,aO,aJ,aN]),yw,aF (fun m BV e5 k Ih=>?_) (fun a e k s'=>?_) k⟩
    case refine_2=>
     intro σ hσ _
     simp only [aX]
     rw [hσ]
     show gb cy.none [] _ _ _
     simp only [ab,av]
     exact aI (s':=s') (by simp [an,ak,ax,aw,az,ay,aL,aP,aK,aO,aJ,aN]) k
    simp (maxSteps:=1000000) only [dq,aU,hp,an,ak,ax,aw,az,ay,aL,aP,aK,aO,aJ,aN,au,aC,ah,ao,aQ,bj,bm,af,ae,ab,ag,av,aM,aq,aA,seval]
    refine ⟨by omega,hQ (j,.mk nk nt ns nm (nl++[m]),i4,BV) _ _ ⟨Ih,k,fun _=>⟨aJ,aK,aL⟩,by simp [Nd.cu]; omega⟩ (by simp only [aq,aA,seval]) ?_ (by simp only; omega)⟩
    have iy:nl++[m]≠[]:=by simp
    simp only [jd,Nd.cu,mM,List.length_append,List.length_cons,List.length_nil,iy,if_false,←fE,bq (show nl.length+(0+1)≠0 by omega)]
    rw [show nl.length+2+1=nl.length+(0+1)+2 by omega]
    exact aa.fm (by repeat' first | with_reducible exact aa.bZ | with_reducible exact aa.cz | refine aa.dS (by simp [an,ak,ax,aw,az,ay,aL,aP,aK,aO,aJ,aN]) ?_ | refine aa.dT (by simp [an,ak,ax,aw,az,ay,aL,aP,aK,aO,aJ,aN]) ?_)
theorem UR (f:Nat) (args:List D) (h:aa) (K E:D→aa→Prop) (c:∃(l:List Tok) (s:PS) (id:Nat),args=[.ptr id 1 0]∧yC l∧cP (qA l (qg l f)) dq l s id h K E):aH Tryz.prog 39 args h (cY.to K E):=by
 obtain ⟨l,s,id,rfl,hl,c⟩:=c
 exact kQ (fun ok K0 E0 hw=>adO (fun l=>qg l f) (fun l=>vN l f) (MJ f) l hl s id ok K0 E0 hw) c
end
end Go.Proofs.YtpklkpkfgmoghaaGreatDoor.Zz
namespace Go.Proofs.YtpklkpkfgmoghaaGreatDoor.Zz
noncomputable section
def amL:cm:=⟨⟨[(1,2)],[(1,2),(3,1),(4,1),(8,1),(9,3)],[],[((9,3),[(.t 3)])],[((9,1),(.t 3))],[]⟩,[(9,[0,1,2,3,4,5,6,7])],[],false⟩
def aiS:dU:=
 sO [oA 2]
 (sO [oM 0 6,
 oP (.build zN [(0,1,(kI 1))]) 7,
 oQ (.callR (.f 35) [(.t 6),(.t 7)]) 8,
 oA 3,
 oS 5 3 8]
 (sO [oP (.cB (kI 0)) 4,
 oP (.cB (kI 0)) 5]
 (.seq (.block 0 (.loop (.seq (sO [oM 0 9,
 oC 36 [.t 9] 10,
 oP (.field 0 none (.t 10)) 11,
 oH .neq 11 0 12]
 (.cond (.t 12)
 (.skip)
 (.exit 0)))
 (.block 1 (.seq (sO [oM 0 13,
 oC 37 [.t 13,(kS [118,97,114])] 14]
 (.cond (.t 14)
 (.ops [oM 5 15,
 oH .add 15 1 16,
 oM 16 5])
 (.ops [oM 4 17,
 oH .add 17 1 18,
 oM 18 4])))
 (.seq (sO [oM 5 19,
 oH .gtr 19 16 20,
 oM 20 21,
 oG (.cB (.t 4)) 22 21 false true,
 oG (.bin .gtr (.t 22) (kI 32)) 23 21 false true,
 oP (.pick (.t 21) (kB true) (.t 23)) 24]
 (.cond (.t 24)
 (.ops [oM 0 25,
 oC 38 [.t 25,kI 3] 26])
 (.skip)))
 (.fS 27 [oF 4 3 27,
 oQ (.cQ none (.t 27) (.t 3)) 28,
 oM 0 29,
 oQ (.callNe (.f 39) [(.t 29)] [(.t 3)]) 30,
 oP (.buildSlice 5 zN 1 [(0,(.t 30))] false) 31,
 oQ (.append 5 64 false (.t 28) (.t 31)) 32,
 oF 4 3 33,
 oS 1 33 32])))))))
 (sO [oJ 5 3 34,
 oS 5 2 34]
 (.ret)))))
theorem ajz:bA Tryz.prog 22 amL=some (aiS,[.cell 2 (some 5)],35):=by kernel_rfl
def MY (f:Nat) (args:List D) (h:aa) (K E:D→aa→Prop):Prop:=∃(l:List Tok) (s:PS) (id:Nat),args=[.ptr id 1 0]∧yC l∧cP (qA l (qg l f)) dq l s id h K E
theorem Ld (f:Nat) (args:List D) (h:aa) (K E K' E':D→aa→Prop) (hk:∀d h,K d h→K' d h) (he:∀d h,E d h→E' d h) (c:MY f args h K E):MY f args h K' E':=by
 obtain ⟨l,s,id,a,b,c⟩:=c
 exact ⟨l,s,id,a,b,fW hk he c⟩
def tbD (f:Nat):bh:=(BW fun l=>qg l f).gI 39 (MY f) (Ld f)
theorem aco {f:Nat}:(tbD f).q=(BW fun l=>qg l f).q:=rfl
theorem acm {f:Nat}:(tbD f).a=(BW fun l=>qg l f).a:=rfl
theorem acn {f:Nat} (g:FuncId) (args:List D) (h:aa) (K E:D→aa→Prop):(tbD f).c g args h K E=if g=39 then MY f args h K E else (BW fun l=>qg l f).c g args h K E:=rfl
theorem jc:type_of% (And.intro @aco (And.intro @acm @acn)):=And.intro @aco (And.intro @acm @acn)
theorem afP (f:Nat):(tbD f).ok Tryz.prog:=bh.bQ (MJ f) fun args h K E c=>UR f args h K E c
set_option maxHeartbeats 1000000 in
theorem SZ (f:Nat) (l:List Tok) (hl:yC l) (s:PS) (i1:Nat) (ok:dy l s) (K0:Nd→PS→Prop) (E0:Int→Int→Prop) (hw:lg (A5 l (qg l f) s) (fun x s'=>dy l s'→K0 x s') E0):aH Tryz.prog 22 [.ptr i1 1 0] (aa.emp.set i1 (cK l s)) (nV dq l i1 K0 E0):=by
 refine aH.cv (afP f) (dc:=cy.none) (fun _ _=>cy.cX) (by kernel_rfl) ajz (by simp) ?_
 rw [cA]
 have hp:=fun (h:aa) (j:Nat) (B C:cJ)=>push_id (id:=i1) h j B C
 unfold A5 at hw
 rw [aR] at hw
 simp (maxSteps:=1000000) only [aiS,jc,yT,hp,hp,au,aC,ah,ao,aQ,bj,bm,af,ae,ab,ag,av,aM,aq,aA,seval]
 intro i2 an ak
 refine .inr ⟨l,s,i1,.mk 1 0 [] 0 [],rfl,hl.lo,(by simp [an,ak]),ok,aF (fun n cM e1 k iW=>?_) (fun a e k s'=>?_) hw⟩
 case refine_2=>
  simp only [aX,ab,av]
  exact aI (s':=s') (by simp [an,ak]) k
 have hn:=uq e1
 subst hn
 simp (maxSteps:=1000000) only [zV,jc,hp,an,ak,au,aC,ah,ao,aQ,bj,bm,af,ae,ab,ag,av,aM,aq,aA,seval]
 intro i3 ax aw az ay
 refine cj (X:=Nat×Nd×Nat×PS×Int×Int) (fun z=>[(0,.ptr i1 1 0),(2,.ptr i2 1 0),(3,.ptr i3 1 0),(4,.int .i64 z.2.2.2.2.1),(5,.int .i64 z.2.2.2.2.2)])
  (fun z=>jd (((aa.emp.set i1 (cK l z.2.2.2.1)).set i2 (.cells [.int .i64 0,.int .i64 0,.str [],.int .i64 0,.aZ])).set i3 (.cells (mM z.2.1 z.2.2.1))) z.2.1 z.2.2.1) (fun z=>z.1)
  (fun z=>dy l z.2.2.2.1∧lg (sV l (qg l f) z.1 z.2.2.2.2.1 z.2.2.2.2.2 z.2.1 z.2.2.2.1) (fun x s'=>dy l s'→K0 x s') E0∧(z.2.1.cu≠[]→¬z.2.2.1=i1∧¬z.2.2.1=i2∧¬z.2.2.1=i3)∧0≤z.2.2.2.2.1∧z.2.2.2.2.1≤32∧0≤z.2.2.2.2.2∧z.2.2.2.2.2≤16∧(z.2.1.cu.length:Int)≤z.2.2.2.2.1+z.2.2.2.2.2)
  (l.length+1,.mk 1 0 [] 0 [],0,cM,0,0) ⟨iW,k,fun h=>absurd rfl h,(show (0:Int)≤0 by omega),(show (0:Int)≤32 by omega),(show (0:Int)≤0 by omega),(show (0:Int)≤16 by omega),(show ((0:Nat):Int)≤0+0 by omega)⟩ (by simp only [aq,aA,seval]) (aa.aj _) ?_
 clear hw
 rintro ⟨j,n,r,jL,fs,gs⟩ Q ⟨qQ,hw,hr,f0,f1,g0,g1,h6⟩ hQ
 simp only at qQ hw hr h6 f0 f1 g0 g1 hQ ⊢
 cases j with
 | zero=>exact hw.elim
 | succ j=>
 unfold sV at hw
 obtain ⟨nk,nt,ns,nm,nl⟩:=n
 simp only [Nd.cu] at hw hr h6
 by_cases wD:nl=[]
 ·subst wD
  have hH:∀h:aa,jd h (.mk nk nt ns nm []) r=h:=fun h=>if_pos rfl
  rw [hH,mM,List.length_nil,c_]
  simp (maxSteps:=1000000) only [jc,hp,an,ak,ax,aw,az,ay,au,aC,ah,ao,aQ,bj,bm,af,ae,ab,ag,av,aM,aq,aA,seval]
  refine ⟨l,jL,i1,rfl,(by simp [an,ak,ax,aw,az,ay]),qQ.at_,?_⟩
  cases lM:((fe l jL).1 != 0) with
  | false=>
   have k:=pT (q:=(.ok (Nd.mk nk nt ns nm []) jL:PR Nd)) lM hw
   rw [cU] at k
   generalize fe l jL=t at*
   obtain ⟨kk,y,a⟩:=t
   simp only at lM
   simp (maxSteps:=1000000) only [iV,lM,jc,hp,an,ak,ax,aw,az,ay,au,aC,ah,ao,aQ,bj,bm,af,ae,ab,ag,av,aM,aq,aA,seval]
   exact im (x:=.mk nk nt ns nm []) (s':=jL) (by rw [dq,aB,bc]) (by simp [an,ak,ax,aw,az,ay]) (k qQ)
  | true=>
   have k:=j9 lM hw
   have ZA:oK l mR jL=oK l mR jL:=rfl
   generalize hv:oK l mR jL=v at k
   generalize fe l jL=t at lM
   obtain ⟨kk,y,a⟩:=t
   simp only at lM
   simp (maxSteps:=1000000) only [iV,lM,jc,hp,an,ak,ax,aw,az,ay,au,aC,ah,ao,aQ,bj,bm,af,ae,ab,ag,av,aM,aq,aA,seval]
   refine ⟨l,jL,i1,mR,rfl,(by simp [an,ak,ax,aw,az,ay]),qQ.at_,?_⟩
   rw [hv]
   clear ZA
   cases v with
   | true=>
    have w2:IntKind.i64.wrap (gs+1)=gs+1:=wrap_i64 (by omega) (by omega)
    by_cases lO:gs+1>16
    ·have uz:(gs+1>16)=True:=eq_true lO
     have uA:(fs>32)=False:=eq_false (by omega)
     replace k:=j9 (p:=(jX l 3 jL:PR Nd)) (by simp only [cond_true,cond_false,Bool.or_eq_true,decide_eq_true_eq]; omega) k
     simp (maxSteps:=1000000) only [w2,uz,uA,jc,hp,an,ak,ax,aw,az,ay,au,aC,ah,ao,aQ,bj,bm,af,ae,ab,ag,av,aM,aq,aA,seval]
     refine ⟨l,jL,i1,3,rfl,(by simp [an,ak,ax,aw,az,ay]),qQ.at_,?_⟩
     simp only [aX]
     show gb cy.none [] _ _ _
     simp only [ab,av]
     exact aI (s':=jL) (by simp [an,ak,ax,aw,az,ay]) k
    ·have uz:(gs+1>16)=False:=eq_false lO
     have uA:(fs>32)=False:=eq_false (by omega)
     replace k:=pT (q:=((qA l (qg l f) jL).bind fun d s=>sV l (qg l f) j (fs) (gs+1) ((Nd.mk nk nt ns nm []).ea d) s)) (by simp only [cond_true,cond_false,Bool.or_eq_false_iff,decide_eq_false_iff_not]; omega) k
     rw [aR] at k
     simp (maxSteps:=1000000) only [w2,uz,uA,jc,hp,an,ak,ax,aw,az,ay,au,aC,ah,ao,aQ,bj,bm,af,ae,ab,ag,av,aM,aq,aA,seval]
     refine ⟨l,jL,i1,rfl,hl,(by simp [an,ak,ax,aw,az,ay]),qQ,aF (fun y cM e1 k iW=>?_) (fun a e k s'=>?_) k⟩
     case refine_2=>
      intro σ hσ _
      simp only [aX]
      rw [hσ]
      show gb cy.none [] _ _ _
      simp only [ab,av]
      exact aI (s':=s') (by simp [an,ak,ax,aw,az,ay]) k
     simp (maxSteps:=1000000) only [dq,jc,hp,an,ak,ax,aw,az,ay,au,aC,ah,ao,aQ,bj,bm,af,ae,ab,ag,av,aM,aq,aA,seval]
     intro i4 aL aP aK aO aJ aN
     simp (maxSteps:=1000000) only [jc,hp,an,ak,ax,aw,az,ay,aL,aP,aK,aO,aJ,aN,au,aC,ah,ao,aQ,bj,bm,af,ae,ab,ag,av,aM,aq,aA,seval]
     refine hQ (j,.mk nk nt ns nm [y],i4,cM,fs,gs+1) _ _ ⟨iW,k,fun _=>⟨aJ,aK,aL⟩,by simp only; omega,by simp only; omega,by simp only; omega,by simp only; omega,by simp only [Nd.cu,List.length_cons,List.length_nil]; omega⟩ (by simp only [aq,aA,seval]) ?_ (by simp only; omega)
     simp only [jd,Nd.cu,mM,List.length_cons,List.length_nil,bO,bc,reduceCtorEq,if_false,bq (Nat.succ_ne_zero 0)]
     exact aa.fm (by repeat' first | with_reducible exact aa.bZ | with_reducible exact aa.cz | refine aa.dS (by simp [an,ak,ax,aw,az,ay,aL,aP,aK,aO,aJ,aN]) ?_ | refine aa.dT (by simp [an,ak,ax,aw,az,ay,aL,aP,aK,aO,aJ,aN]) ?_)
   | false=>
    have w2:IntKind.i64.wrap (fs+1)=fs+1:=wrap_i64 (by omega) (by omega)
    by_cases lO:fs+1>32
    ·have uA:(fs+1>32)=True:=eq_true lO
     have uz:(gs>16)=False:=eq_false (by omega)
     replace k:=j9 (p:=(jX l 3 jL:PR Nd)) (by simp only [cond_true,cond_false,Bool.or_eq_true,decide_eq_true_eq]; omega) k
     simp (maxSteps:=1000000) only [w2,uz,uA,jc,hp,an,ak,ax,aw,az,ay,au,aC,ah,ao,aQ,bj,bm,af,ae,ab,ag,av,aM,aq,aA,seval]
     refine ⟨l,jL,i1,3,rfl,(by simp [an,ak,ax,aw,az,ay]),qQ.at_,?_⟩
     simp only [aX]
     show gb cy.none [] _ _ _
     simp only [ab,av]
     exact aI (s':=jL) (by simp [an,ak,ax,aw,az,ay]) k
    ·have uA:(fs+1>32)=False:=eq_false lO
     have uz:(gs>16)=False:=eq_false (by omega)
     replace k:=pT (q:=((qA l (qg l f) jL).bind fun d s=>sV l (qg l f) j (fs+1) (gs) ((Nd.mk nk nt ns nm []).ea d) s)) (by simp only [cond_true,cond_false,Bool.or_eq_false_iff,decide_eq_false_iff_not]; omega) k
     rw [aR] at k
     simp (maxSteps:=1000000) only [w2,uz,uA,jc,hp,an,ak,ax,aw,az,ay,au,aC,ah,ao,aQ,bj,bm,af,ae,ab,ag,av,aM,aq,aA,seval]
     refine ⟨l,jL,i1,rfl,hl,(by simp [an,ak,ax,aw,az,ay]),qQ,aF (fun y cM e1 k iW=>?_) (fun a e k s'=>?_) k⟩
     case refine_2=>
      intro σ hσ _
      simp only [aX]
      rw [hσ]
      show gb cy.none [] _ _ _
      simp only [ab,av]
      exact aI (s':=s') (by simp [an,ak,ax,aw,az,ay]) k
     simp (maxSteps:=1000000) only [dq,jc,hp,an,ak,ax,aw,az,ay,au,aC,ah,ao,aQ,bj,bm,af,ae,ab,ag,av,aM,aq,aA,seval]
     intro i4 aL aP aK aO aJ aN
     simp (maxSteps:=1000000) only [jc,hp,an,ak,ax,aw,az,ay,aL,aP,aK,aO,aJ,aN,au,aC,ah,ao,aQ,bj,bm,af,ae,ab,ag,av,aM,aq,aA,seval]
     refine hQ (j,.mk nk nt ns nm [y],i4,cM,fs+1,gs) _ _ ⟨iW,k,fun _=>⟨aJ,aK,aL⟩,by simp only; omega,by simp only; omega,by simp only; omega,by simp only; omega,by simp only [Nd.cu,List.length_cons,List.length_nil]; omega⟩ (by simp only [aq,aA,seval]) ?_ (by simp only; omega)
     simp only [jd,Nd.cu,mM,List.length_cons,List.length_nil,bO,bc,reduceCtorEq,if_false,bq (Nat.succ_ne_zero 0)]
     exact aa.fm (by repeat' first | with_reducible exact aa.bZ | with_reducible exact aa.cz | refine aa.dS (by simp [an,ak,ax,aw,az,ay,aL,aP,aK,aO,aJ,aN]) ?_ | refine aa.dT (by simp [an,ak,ax,aw,az,ay,aL,aP,aK,aO,aJ,aN]) ?_)
 ·obtain ⟨i4,rfl⟩:∃q,q=r:=⟨r,rfl⟩
  obtain ⟨aJ,aK,aL⟩:=hr wD
  have aN:¬i1=i4:=fun e=>aJ e.symm
  have aO:¬i2=i4:=fun e=>aK e.symm
  have aP:¬i3=i4:=fun e=>aL e.symm
  have hH:∀h:aa,jd h (.mk nk nt ns nm nl) i4=h.set i4 (.row 5 (nl.length+2) (Nd.bg nl) false):=fun h=>if_neg wD
  have vb:nl.length≠0:=fun e=>wD (List.length_eq_zero_iff.1 e)
  have tk:(Nd.bg nl).take nl.length=Nd.bg nl:=List.take_of_length_le (by rw [aU]; omega)
  rw [hH,mM,bq vb]
  simp (maxSteps:=1000000) only [jc,hp,an,ak,ax,aw,az,ay,aL,aP,aK,aO,aJ,aN,au,aC,ah,ao,aQ,bj,bm,af,ae,ab,ag,av,aM,aq,aA,seval]
  refine ⟨l,jL,i1,rfl,(by simp [an,ak,ax,aw,az,ay,aL,aP,aK,aO,aJ,aN]),qQ.at_,?_⟩
  cases lM:((fe l jL).1 != 0) with
  | false=>
   have k:=pT (q:=(.ok (Nd.mk nk nt ns nm nl) jL:PR Nd)) lM hw
   rw [cU] at k
   generalize fe l jL=t at*
   obtain ⟨kk,y,a⟩:=t
   simp only at lM
   simp (maxSteps:=1000000) only [iV,lM,aU,tk,jc,hp,an,ak,ax,aw,az,ay,aL,aP,aK,aO,aJ,aN,au,aC,ah,ao,aQ,bj,bm,af,ae,ab,ag,av,aM,aq,aA,seval]
   exact im (x:=.mk nk nt ns nm nl) (s':=jL) (by rw [dq,aB]) (by simp [an,ak,ax,aw,az,ay,aL,aP,aK,aO,aJ,aN]) (k qQ)
  | true=>
   have k:=j9 lM hw
   generalize hv:oK l mR jL=v at k
   generalize fe l jL=t at lM
   obtain ⟨kk,y,a⟩:=t
   simp only at lM
   simp (maxSteps:=1000000) only [iV,lM,jc,hp,an,ak,ax,aw,az,ay,aL,aP,aK,aO,aJ,aN,au,aC,ah,ao,aQ,bj,bm,af,ae,ab,ag,av,aM,aq,aA,seval]
   refine ⟨l,jL,i1,mR,rfl,(by simp [an,ak,ax,aw,az,ay,aL,aP,aK,aO,aJ,aN]),qQ.at_,?_⟩
   rw [hv]
   cases v with
   | true=>
    have w2:IntKind.i64.wrap (gs+1)=gs+1:=wrap_i64 (by omega) (by omega)
    by_cases lO:gs+1>16
    ·have uz:(gs+1>16)=True:=eq_true lO
     have uA:(fs>32)=False:=eq_false (by omega)
     replace k:=j9 (p:=(jX l 3 jL:PR Nd)) (by simp only [cond_true,cond_false,Bool.or_eq_true,decide_eq_true_eq]; omega) k
     simp (maxSteps:=1000000) only [w2,uz,uA,aU,jc,hp,an,ak,ax,aw,az,ay,aL,aP,aK,aO,aJ,aN,au,aC,ah,ao,aQ,bj,bm,af,ae,ab,ag,av,aM,aq,aA,seval]
     refine ⟨l,jL,i1,3,rfl,(by simp [an,ak,ax,aw,az,ay,aL,aP,aK,aO,aJ,aN]),qQ.at_,?_⟩
     simp only [aX]
     show gb cy.none [] _ _ _
     simp only [ab,av]
     exact aI (s':=jL) (by simp [an,ak,ax,aw,az,ay,aL,aP,aK,aO,aJ,aN]) k
    ·have uz:(gs+1>16)=False:=eq_false lO
     have uA:(fs>32)=False:=eq_false (by omega)
     replace k:=pT (q:=((qA l (qg l f) jL).bind fun d s=>sV l (qg l f) j (fs) (gs+1) ((Nd.mk nk nt ns nm nl).ea d) s)) (by simp only [cond_true,cond_false,Bool.or_eq_false_iff,decide_eq_false_iff_not]; omega) k
     rw [aR] at k
     simp (maxSteps:=1000000) only [w2,uz,uA,aU,jc,hp,an,ak,ax,aw,az,ay,aL,aP,aK,aO,aJ,aN,au,aC,ah,ao,aQ,bj,bm,af,ae,ab,ag,av,aM,aq,aA,seval]
     refine ⟨l,jL,i1,rfl,hl,(by simp [an,ak,ax,aw,az,ay,aL,aP,aK,aO,aJ,aN]),qQ,aF (fun y cM e1 k iW=>?_) (fun a e k s'=>?_) k⟩
     case refine_2=>
      intro σ hσ _
      simp only [aX]
      rw [hσ]
      show gb cy.none [] _ _ _
      simp only [ab,av]
      exact aI (s':=s') (by simp [an,ak,ax,aw,az,ay,aL,aP,aK,aO,aJ,aN]) k
     simp (maxSteps:=1000000) only [dq,aU,jc,hp,an,ak,ax,aw,az,ay,aL,aP,aK,aO,aJ,aN,au,aC,ah,ao,aQ,bj,bm,af,ae,ab,ag,av,aM,aq,aA,seval]
     refine ⟨by omega,hQ (j,.mk nk nt ns nm (nl++[y]),i4,cM,fs,gs+1) _ _ ⟨iW,k,fun _=>⟨aJ,aK,aL⟩,by simp only; omega,by simp only; omega,by simp only; omega,by simp only; omega,by simp only [Nd.cu,List.length_append,List.length_cons,List.length_nil]; omega⟩ (by simp only [aq,aA,seval]) ?_ (by simp only; omega)⟩
     have iy:nl++[y]≠[]:=by simp
     simp only [jd,Nd.cu,mM,List.length_append,List.length_cons,List.length_nil,iy,if_false,←fE,bq (show nl.length+(0+1)≠0 by omega)]
     rw [show nl.length+2+1=nl.length+(0+1)+2 by omega]
     exact aa.fm (by repeat' first | with_reducible exact aa.bZ | with_reducible exact aa.cz | refine aa.dS (by simp [an,ak,ax,aw,az,ay,aL,aP,aK,aO,aJ,aN]) ?_ | refine aa.dT (by simp [an,ak,ax,aw,az,ay,aL,aP,aK,aO,aJ,aN]) ?_)
   | false=>
    have w2:IntKind.i64.wrap (fs+1)=fs+1:=wrap_i64 (by omega) (by omega)
    by_cases lO:fs+1>32
    ·have uA:(fs+1>32)=True:=eq_true lO
     have uz:(gs>16)=False:=eq_false (by omega)
     replace k:=j9 (p:=(jX l 3 jL:PR Nd)) (by simp only [cond_true,cond_false,Bool.or_eq_true,decide_eq_true_eq]; omega) k
     simp (maxSteps:=1000000) only [w2,uz,uA,aU,jc,hp,an,ak,ax,aw,az,ay,aL,aP,aK,aO,aJ,aN,au,aC,ah,ao,aQ,bj,bm,af,ae,ab,ag,av,aM,aq,aA,seval]
     refine ⟨l,jL,i1,3,rfl,(by simp [an,ak,ax,aw,az,ay,aL,aP,aK,aO,aJ,aN]),qQ.at_,?_⟩
     simp only [aX]
     show gb cy.none [] _ _ _
     simp only [ab,av]
     exact aI (s':=jL) (by simp [an,ak,ax,aw,az,ay,aL,aP,aK,aO,aJ,aN]) k
    ·have uA:(fs+1>32)=False:=eq_false lO
     have uz:(gs>16)=False:=eq_false (by omega)
     replace k:=pT (q:=((qA l (qg l f) jL).bind fun d s=>sV l (qg l f) j (fs+1) (gs) ((Nd.mk nk nt ns nm nl).ea d) s)) (by simp only [cond_true,cond_false,Bool.or_eq_false_iff,decide_eq_false_iff_not]; omega) k
     rw [aR] at k
     simp (maxSteps:=1000000) only [w2,uz,uA,aU,jc,hp,an,ak,ax,aw,az,ay,aL,aP,aK,aO,aJ,aN,au,aC,ah,ao,aQ,bj,bm,af,ae,ab,ag,av,aM,aq,aA,seval]
     refine ⟨l,jL,i1,rfl,hl,(by simp [an,ak,ax,aw,az,ay,aL,aP,aK,aO,aJ,aN]),qQ,aF (fun y cM e1 k iW=>?_) (fun a e k s'=>?_) k⟩
     case refine_2=>
      intro σ hσ _
      simp only [aX]
      rw [hσ]
      show gb cy.none [] _ _ _
      simp only [ab,av]
      exact aI (s':=s') (by simp [an,ak,ax,aw,az,ay,aL,aP,aK,aO,aJ,aN]) k
     simp (maxSteps:=1000000) only [dq,aU,jc,hp,an,ak,ax,aw,az,ay,aL,aP,aK,aO,aJ,aN,au,aC,ah,ao,aQ,bj,bm,af,ae,ab,ag,av,aM,aq,aA,seval]
     refine ⟨by omega,hQ (j,.mk nk nt ns nm (nl++[y]),i4,cM,fs+1,gs) _ _ ⟨iW,k,fun _=>⟨aJ,aK,aL⟩,by simp only; omega,by simp only; omega,by simp only; omega,by simp only; omega,by simp only [Nd.cu,List.length_append,List.length_cons,List.length_nil]; omega⟩ (by simp only [aq,aA,seval]) ?_ (by simp only; omega)⟩
     have iy:nl++[y]≠[]:=by simp
     simp only [jd,Nd.cu,mM,List.length_append,List.length_cons,List.length_nil,iy,if_false,←fE,bq (show nl.length+(0+1)≠0 by omega)]
     rw [show nl.length+2+1=nl.length+(0+1)+2 by omega]
     exact aa.fm (by repeat' first | with_reducible exact aa.bZ | with_reducible exact aa.cz | refine aa.dS (by simp [an,ak,ax,aw,az,ay,aL,aP,aK,aO,aJ,aN]) ?_ | refine aa.dT (by simp [an,ak,ax,aw,az,ay,aL,aP,aK,aO,aJ,aN]) ?_)
end
end Go.Proofs.YtpklkpkfgmoghaaGreatDoor.Zz
namespace Go.Proofs.YtpklkpkfgmoghaaGreatDoor.Zz
noncomputable section
def amJ:cm:=⟨⟨[],[],[],[((5,5),[(.t 4),(.t 4)]),((5,6),[(.t 4)])],[((5,2),(.t 4)),((5,4),(.t 4))],[]⟩,[(5,[0,1,2,3,4,5,6,7])],[],false⟩
def afj:dU:=
 sO [oM 3 7,
 oP (.eql .iface true (.t 7) (.c .gX)) 8]
 (.cond (.t 8)
 (sO [oM 3 10,
 oQ (.typeAssert 56 true .undef (.t 10)) 11,
 oM 11 9,
 oX 9 0 12,
 oX 9 1 13,
 oQ (.alloc [(.int .i64 0),(.int .i64 0)]) 4,
 oS 2 4 12,
 oM 13 5]
 (.seq (sO [oM 5 14,
 oP (.un .not (.t 14)) 15]
 (.cond (.t 15)
 (.ops [oM 3 16,
 oU (.panic (.t 16))])
 (.skip)))
 (.fS 17 [oP (.build zN []) 17,
 oF 0 4 18,
 oQ (.cQ none (.t 18) (.t 4)) 19,
 oF 1 4 20,
 oQ (.cQ none (.t 20) (.t 4)) 21,
 oU (.storeNe 5 (.t 0) (.t 17) [(.t 4),(.t 4)]),
 oU (.storeNe 1 (.t 1) (.t 19) [(.t 4)]),
 oS 1 2 21])))
 (.skip))
theorem anv:Oe Tryz.prog 21 amJ=some (afj,[],22,6,3):=by kernel_rfl
def ag_:cy:=fun k args u h F=>k=21∧∃(a b c:Nat) (v:List D) (p q:D),args=[.ptr a 1 0,.ptr b 1 0,.ptr c 1 0]∧v.length=5∧h.f a=some (.cells v)∧h.f b=some (.cells [p])∧h.f c=some (.cells [q])∧¬b=a∧¬a=b∧¬c=a∧¬a=c∧¬c=b∧¬b=c∧
 ((u=none∧F none h)∨∃x e,u=some (p5 x e)∧F none (((h.set a (.cells [.int .i64 0,.int .i64 0,.str [],.int .i64 0,.aZ])).set b (.cells [.int .i64 x])).set c (.cells [.int .i64 e])))
theorem Zg (κ:cT) (w:World):ag_.qe Tryz.prog κ w:=by
 rintro k args u h F ⟨rfl,a,b,c,v,p,q,rfl,hv,ha,hb,hc,n1,n2,n3,n4,n5,n6,hF⟩ κ' w' le
 refine iM.Ig ((bh.dJ Tryz.prog).toY κ' w') anv (by simp) ?_
 rcases hF with ⟨rfl,hF⟩ | ⟨x,e,rfl,hF⟩
 ·simp (maxSteps:=1000000) only [afj,FJ,iT,aA,seval]
  exact ⟨h,aa.aj h,hF⟩
 ·simp (maxSteps:=1000000) only [afj,FJ,p5,HN,iT,aA,seval]
  intro i hi
  have ma:¬a=i:=fun e=>by subst e; rw [ha] at hi; cases hi
  have mb:¬b=i:=fun e=>by subst e; rw [hb] at hi; cases hi
  have mc:¬c=i:=fun e=>by subst e; rw [hc] at hi; cases hi
  match v,hv with
  | [v0,v1,v2,v3,v4],_=>
  have ma':(!a==i)=true:=by simp [ma]
  have mb':(!b==i)=true:=by simp [mb]
  simp (maxSteps:=1000000) only [ma,mb,mc,ma',mb',ha,hb,hc,n1,n2,n3,n4,n5,n6,iT,aA,seval]
  refine ⟨_,fun j o hj=>?_,hF⟩
  simp only [aa.b9] at hj ⊢
  by_cases e:j=i
  ·subst e
   have m1:¬j=a:=fun e=>ma e.symm
   have m2:¬j=b:=fun e=>mb e.symm
   have m3:¬j=c:=fun e=>mc e.symm
   simp [m1,m2,m3,hi] at hj
  ·simpa [e] using hj
end
end Go.Proofs.YtpklkpkfgmoghaaGreatDoor.Zz
