/- Contracts: expressions. -/
import Derived.Test.YtpklkpkfgmoghaaGreatDoorZP29
import Derived.Test.YtpklkpkfgmoghaaGreatDoorZA0
set_option linter.unnecessarySimpa false
set_option linter.unusedVariables false
set_option linter.unusedSimpArgs false
set_option maxRecDepth 20000
namespace Go.Proofs.YtpklkpkfgmoghaaGreatDoor.Zz
noncomputable section
def aan:cj:=⟨⟨[],[(1,1),(2,1),(3,1),(8,6),(8,9)],[],[((8,6),[(.t 6),(.t 5)])],[((8,2),(.t 6))],[]⟩,[(8,[0,1,2,3,4,5,6,7,8,9,10])],[],false⟩
def UG:dL:=
 sO [oA 4]
 (.seq (sO [oM 0 8,
 oC 84 [.t 8] 9]
 (.defer (.t 9) []))
 (sO [oM 0 10,
 oC 119 [.t 10] 11,
 oA 5,
 oS 5 5 11]
 (.block 0 (.loop (.block 1 (sO [oM 0 12,
 oC 36 [.t 12] 13,
 oQ (.alloc [(.int .i64 0),(.str []),(.int .i64 0)]) 6,
 oS 3 6 13]
 (sO [oF 1 6 14,
 oL 14 15,
 oD 120 [.t 15] 16,
 oM 16 7]
 (.seq (sO [oF 0 6 17,
 oL 17 18,
 oH .neq 18 5 19,
 oM 19 20,
 oG (.cy (.t 7)) 21 20 false true,
 oG (.cy (.t 1)) 22 20 false true,
 oG (.bin .leq (.t 21) (.t 22)) 23 20 false true,
 oP (.pick (.t 20) (kB true) (.t 23)) 24]
 (.cond (.t 24)
 (sO [oJ 5 5 25,
 oS 5 4 25]
 (.ret))
 (.skip)))
 (sO [oM 0 26,
 oN 26 27,
 oF 1 27 28,
 oL 28 29,
 oH .add 29 1 30,
 oN 26 31,
 oF 1 31 32,
 oS 1 32 30]
 (.fD 33 [oM 0 33,
 oF 1 6 34,
 oQ (.cT none (.t 34) (.t 6)) 35,
 oJ 5 5 36,
 oM 0 37,
 oM 7 38,
 oQ (.callNe (.f 102) [(.t 37),(.t 38)] [(.t 6),(.t 5)]) 39,
 oP (.buildSlice 5 zN 2 [(0,(.t 36)),(1,(.t 39))] false) 40,
 oP (.build zN [(0,1,(kI 26)),(2,1,(.t 35)),(4,1,(.t 40))]) 41,
 oC 35 [.t 33,.t 41] 42,
 oS 5 5 42]))))))))))
theorem XC:bJ Tryz.prog 102 aan=some (UG,[.cell 4 (some 5)],43):=by kernel_rfl
def aao:cj:=⟨⟨[],[(1,4),(2,1),(3,1)],[],[],[],[]⟩,[],[],false⟩
def UH:dL:=
 sO [oA 6]
 (sO [oM 0 8,
 oM 1 9,
 oM 2 10,
 oP (.build zN [(0,1,(.t 9)),(2,1,(.t 10))]) 11,
 oC 35 [.t 8,.t 11] 12,
 oA 7,
 oS 5 7 12]
 (sO [oM 0 13,
 oC 102 [.t 13,kI 0] 14,
 oP (.buildSlice 5 zN 1 [(0,(.t 14))] false) 15,
 oF 4 7 16,
 oS 1 16 15]
 (sO [oM 0 17,
 oC 60 [.t 17,kS [59]] 18]
 (sO [oJ 5 7 19,
 oS 5 6 19]
 (.ret)))))
theorem XD:bJ Tryz.prog 103 aao=some (UH,[.cell 6 (some 5)],20):=by kernel_rfl
theorem aA {α:Type} {r:PR α} {K K':α→PS→Prop} {E E':Int→Int→Prop} (hk:∀x s,r=.ok x s→K x s→K' x s) (he:∀a e,E a e→E' a e) (h:jG r K E):jG r K' E':=by
 cases r with
 | ok x s=>exact hk _ _ rfl h
 | fail a e=>exact he _ _ h
 | out=>exact h
abbrev cG (n:Nd):D:=.agg n.enc
def cGe (G:List cH→ee) (args:List D) (h:aa) (K E:D→aa→Prop):Prop:=∃(l:List cH) (s:PS) (id:Nat) (k:Int),args=[.ptr id 1 0,.int .i64 k]∧uL l∧cP ((G l).expr k) cG l s id h K E
def cGu (G:List cH→ee) (args:List D) (h:aa) (K E:D→aa→Prop):Prop:=∃(l:List cH) (s:PS) (id:Nat),args=[.ptr id 1 0]∧uL l∧cP (G l).unary cG l s id h K E
def cGc (G:List cH→ee) (args:List D) (h:aa) (K E:D→aa→Prop):Prop:=∃(l:List cH) (s:PS) (id:Nat) (x:List UInt8),args=[.ptr id 1 0,.str x]∧uL l∧cP ((G l).call x) cG l s id h K E
def cGb (G:List cH→ee) (args:List D) (h:aa) (K E:D→aa→Prop):Prop:=∃(l:List cH) (s:PS) (id:Nat),args=[.ptr id 1 0]∧uL l∧cP (G l).block cG l s id h K E
def cGs (G:List cH→ee) (args:List D) (h:aa) (K E:D→aa→Prop):Prop:=∃(l:List cH) (s:PS) (id:Nat),args=[.ptr id 1 0]∧uL l∧cP (G l).stmt cG l s id h K E
def cGr (G:List cH→ee) (args:List D) (h:aa) (K E:D→aa→Prop):Prop:=∃(l:List cH) (s:PS) (id:Nat),args=[.ptr id 1 0]∧uL l∧cP (G l).branch cG l s id h K E
theorem Nc (G:List cH→ee) (args:List D) (h:aa) (K E K' E':D→aa→Prop) (hk:∀d h,K d h→K' d h) (he:∀d h,E d h→E' d h) (c:cGe G args h K E):cGe G args h K' E':=by
 obtain ⟨l,s,id,k,a,b,c⟩:=c
 exact ⟨l,s,id,k,a,b,eO hk he c⟩
theorem Nh (G:List cH→ee) (args:List D) (h:aa) (K E K' E':D→aa→Prop) (hk:∀d h,K d h→K' d h) (he:∀d h,E d h→E' d h) (c:cGu G args h K E):cGu G args h K' E':=by
 obtain ⟨l,s,id,a,b,c⟩:=c
 exact ⟨l,s,id,a,b,eO hk he c⟩
theorem Nb (G:List cH→ee) (args:List D) (h:aa) (K E K' E':D→aa→Prop) (hk:∀d h,K d h→K' d h) (he:∀d h,E d h→E' d h) (c:cGc G args h K E):cGc G args h K' E':=by
 obtain ⟨l,s,id,k,a,b,c⟩:=c
 exact ⟨l,s,id,k,a,b,eO hk he c⟩
theorem Na (G:List cH→ee) (args:List D) (h:aa) (K E K' E':D→aa→Prop) (hk:∀d h,K d h→K' d h) (he:∀d h,E d h→E' d h) (c:cGb G args h K E):cGb G args h K' E':=by
 obtain ⟨l,s,id,a,b,c⟩:=c
 exact ⟨l,s,id,a,b,eO hk he c⟩
theorem Ng (G:List cH→ee) (args:List D) (h:aa) (K E K' E':D→aa→Prop) (hk:∀d h,K d h→K' d h) (he:∀d h,E d h→E' d h) (c:cGs G args h K E):cGs G args h K' E':=by
 obtain ⟨l,s,id,a,b,c⟩:=c
 exact ⟨l,s,id,a,b,eO hk he c⟩
theorem Nf (G:List cH→ee) (args:List D) (h:aa) (K E K' E':D→aa→Prop) (hk:∀d h,K d h→K' d h) (he:∀d h,E d h→E' d h) (c:cGr G args h K E):cGr G args h K' E':=by
 obtain ⟨l,s,id,a,b,c⟩:=c
 exact ⟨l,s,id,a,b,eO hk he c⟩
def xM (G:List cH→ee):bm:=(((((uu.kc 102 (cGe G) (Nc G)).kc 119 (cGu G) (Nh G)).kc 104 (cGc G) (Nb G)).kc 62 (cGb G) (Na G)).kc 85 (cGs G) (Ng G)).kc 101 (cGr G) (Nf G)
theorem U3 {G:List cH→ee}:(xM G).q=uu.q:=rfl
theorem U1 {G:List cH→ee}:(xM G).a=uu.a:=rfl
theorem U2 {G:List cH→ee} (g:FuncId) (args:List D) (h:aa) (K E:D→aa→Prop):(xM G).c g args h K E=if g=101 then cGr G args h K E else if g=85 then cGs G args h K E else if g=62 then cGb G args h K E else if g=104 then cGc G args h K E else if g=119 then cGu G args h K E else if g=102 then cGe G args h K E else uu.c g args h K E:=rfl
theorem aE:a7% (And.intro (And.intro @U3 (And.intro @U1 @U2)) @ao):=(And.intro (And.intro @U3 (And.intro @U1 @U2)) @ao)
theorem push_id {id:Nat} (h:aa) (j:Nat) (B C:cR) (e:¬j=id):(h.set j B).set id C=(h.set id C).set j B:=aa.ext fun q=>by
 simp only [aa.dN]
 by_cases jU:q=id
 ·subst jU
  have:¬q=j:=fun x=>e x.symm
  simp [this]
 ·simp [jU]
theorem aW {a b c d e:D} (n:Nd):setAt [a,b,c,d,e] 0 n.enc=n.enc:=by
 obtain ⟨k,t,s,m,l⟩:=n
 rw [aT]; rfl
theorem aF (n:Nd):n.enc.take 5=n.enc:=by
 obtain ⟨k,t,s,m,l⟩:=n
 rw [aT]; rfl
theorem aY (m n:Nd):setAt m.enc 0 n.enc=n.enc:=by
 obtain ⟨k,t,s,v,l⟩:=m
 rw [aT,aW]
theorem Pv (G:List cH→ee) (hT:(xM G).ok Tryz.prog) (l:List cH) (hl:uL l) (s:PS) (i1:Nat) (kd:Int) (x:List UInt8) (ok:cJ l s) (K0:Nd→PS→Prop) (E0:Int→Int→Prop) (hw:jG (im l (G l) kd x s) (fun x s'=>cJ l s'→K0 x s') E0):aQ Tryz.prog 103 [.ptr i1 1 0,.int .i64 kd,.str x] (aa.emp.set i1 (b9 l s)) (lF cG l i1 K0 E0):=by
 refine aQ.du hT (dc:=cS.none) (fun _ _=>cS.eV) (by kernel_rfl) XD (by simp) ?_
 rw [dK]
 have hp:=fun (h:aa) (j:Nat) (B C:cR)=>push_id (id:=i1) h j B C
 unfold im at hw
 rw [aG] at hw
 simp (maxSteps:=1000000) only [UH,hp,hp,aq,ay,aj,ak,aF,aW,aY,ah,af,ae,ag,az,aE,ao,aD,seval]
 intro i2 an al
 refine .inl ⟨l,s,i1,.mk kd 0 x 0 [],by simp only [aT,bA],hl.lo,(by simp [an,al]),ok,gO (fun n cg k gm=>?_) (fun a e k s'=>?_) hw⟩
 case refine_2=>
  simp only [bB,ae,az]
  exact aC (s':=s') (by simp [an,al]) k
 obtain ⟨nk,nt,ns,nm,nl⟩:=n
 rw [aG] at k
 simp (maxSteps:=1000000) only [aT,hp,an,al,aq,ay,aj,ak,aF,aW,aY,ah,af,ae,ag,az,aE,ao,aD,seval]
 intro i3 aw au av ar
 refine ⟨l,cg,i1,0,rfl,hl,(by simp [an,al,aw,au,av,ar]),gm,gO (fun e ea k j5=>?_) (fun a e k s'=>?_) k⟩
 case refine_2=>
  simp only [bB,ae,az]
  exact aC (s':=s') (by simp [an,al,aw,au,av,ar]) k
 rw [aG] at k
 simp (maxSteps:=1000000) only [hp,an,al,aw,au,av,ar,aq,ay,aj,ak,aF,aW,aY,ah,af,ae,ag,az,aE,ao,aD,seval]
 refine ⟨l,ea,i1,[59],rfl,hl.lo,(by simp [an,al,aw,au,av,ar]),j5,gO (fun _ eI k nc=>?_) (fun a e k s'=>?_) k⟩
 case refine_2=>
  simp only [bB,ae,az]
  exact aC (s':=s') (by simp [an,al,aw,au,av,ar]) k
 rw [cu] at k
 simp (maxSteps:=1000000) only [hp,an,al,aw,au,av,ar,aq,ay,aj,ak,aF,aW,aY,ah,af,ae,ag,az,aE,ao,aD,seval]
 exact cv (x:=.mk nk nt ns nm [e]) (s':=eI) (by rw [cG,aT,cz,bA]) (by simp [an,al,aw,au,av,ar]) (k nc)
theorem ib {l:List cH} {s s':PS} (ok:cJ l s) (pv:cJ l s') (e:s'.deep=s.deep+1):cJ l { s' with deep:=s'.deep - 1 }∧IntKind.i64.wrap (s'.deep - 1)=s'.deep - 1:=by
 obtain ⟨h1,h2,h3,h4,h5,h6⟩:=ok
 obtain ⟨g1,g2,g3,g4,g5,g6⟩:=pv
 exact ⟨⟨g1,g2,g3,g4,by simp only; omega,by simp only; omega⟩,wrap_i64 (by omega) (by omega)⟩
theorem vD {l:List cH} {s:PS} (ok:cJ l s) (h:¬s.deep+1>40):cJ l { s with deep:=s.deep+1 }:=by
 obtain ⟨h1,h2,h3,h4,h5,h6⟩:=ok
 exact ⟨h1,h2,h3,h4,by simp only; omega,by simp only; omega⟩
theorem V1 (G:List cH→ee) (hG:∀l,nn (G l)) (hT:(xM G).ok Tryz.prog) (l:List cH) (hl:uL l) (s:PS) (i1:Nat) (least:Int) (ok:cJ l s) (K0:Nd→PS→Prop) (E0:Int→Int→Prop) (hw:jG (yI l (G l) least s) (fun x s'=>cJ l s'→K0 x s') E0):aQ Tryz.prog 102 [.ptr i1 1 0,.int .i64 least] (aa.emp.set i1 (b9 l s)) (lF cG l i1 K0 E0):=by
 refine aQ.du hT (dc:=yC) vz (by kernel_rfl) XC (by simp) ?_
 rw [dK]
 have hp:=fun (h:aa) (j:Nat) (B C:cR)=>push_id (id:=i1) h j B C
 have w1:IntKind.i64.wrap (s.deep+1)=s.deep+1:=wrap_i64 (by have:=ok.d0; omega) (by have:=ok.d1; omega)
 unfold yI kW Uv at hw
 rw [aG] at hw
 simp (maxSteps:=1000000) only [UG,En,b9,aE,ao,aD,seval]
 intro i2 an al i3 aw au av ar
 by_cases c:s.deep+1>40
 ·have g:(s.deep+1>40)=True:=eq_true c
  rw [if_pos c] at hw
  simp (maxSteps:=1000000) only [g,w1,hp,an,al,aw,au,av,ar,aq,ay,aj,ak,aF,aW,aY,ah,af,ae,ag,az,aE,ao,aD,seval]
  refine ⟨l,{ s with deep:=s.deep+1 },i1,3,rfl,by simp [b9,an,al,aw,au,av,ar],ok.at_,?_⟩
  simp only [DQ,bB,true_and]
  refine ⟨rfl,?_⟩
  show eT yC [] (some (mZ _ 3)) _ _
  simp only [ae,az]
  exact aC (s':={ s with deep:=s.deep+1 }) (by simp [b9,an,al,aw,au,av,ar]) hw
 ·have g:(s.deep+1>40)=False:=eq_false c
  rw [if_neg c,cu] at hw
  have RB:=vD ok c
  simp only [GO,aG,cu] at hw
  simp (maxSteps:=1000000) only [g,w1,hp,an,al,aw,au,av,ar,aq,ay,aj,ak,aF,aW,aY,ah,af,ae,ag,az,aE,ao,aD,seval]
  generalize Df:({ s with deep:=s.deep+1 }:PS)=sd at*
  have Rv:sd.deep=s.deep+1:=by rw [←Df]
  refine ⟨l,sd,i1,rfl,hl,by rw [←Df]; simp [b9,an,al,aw,au,av,ar],RB,aA (fun n cg en k gm=>?_) (fun a e k s'=>?_) hw⟩
  case refine_2=>
   simp only [bB,ag,ae,List.nil_append,List.append_nil]
   refine ⟨rfl,i3,i1,l,s',rfl,by simp [an,al,aw,au,av,ar],by simp [an,al,aw,au,av,ar],?_⟩
   simp only [az]
   exact aC (s':={ s' with deep:=IntKind.i64.wrap (s'.deep - 1) }) (by simp [an,al,aw,au,av,ar]) k
  have d1:=(hG l).unary sd n cg en
  rw [Rv] at d1
  simp (maxSteps:=1000000) only [hp,an,al,aw,au,av,ar,aq,ay,aj,ak,aF,aW,aY,ah,af,ae,ag,az,aE,ao,aD,seval]
  intro i4 aJ aM aI aL aH aK
  refine sS (X:=Nat×Nd×PS) [⟨.func 100,[.ptr i3 1 0],[]⟩] (fun z=>[(0,.ptr i1 1 0),(1,.int .i64 least),(4,.ptr i2 1 0),(5,.ptr i4 1 0)])
   (fun z=>(((aa.emp.set i1 (b9 l z.2.2)).set i2 (.cells [.int .i64 0,.int .i64 0,.str [],.int .i64 0,.bg])).set i3 (.cells [.ptr i1 1 0])).set i4 (.cells z.2.1.enc)) (fun z=>z.1)
   (fun z=>cJ l z.2.2∧z.2.2.deep=s.deep+1∧jG (s6 l (G l) least z.1 z.2.1 z.2.2) (fun x s'=>cJ l { s' with deep:=s'.deep - 1 }→K0 x { s' with deep:=s'.deep - 1 }) E0)
   (l.length+1,n,cg) ⟨gm,d1,k⟩ (by simp only [ao,aD,seval]) (aa.aU _) ?_
  clear hw Df en k gm d1 n cg Rv RB
  rintro ⟨j,n,hU⟩ Q ⟨nT,d0,hw⟩ hQ
  simp only at nT d0 hw hQ ⊢
  cases j with
  | zero=>exact hw.elim
  | succ j=>
  unfold s6 at hw
  simp (maxSteps:=1000000) only [hp,an,al,aw,au,av,ar,aJ,aM,aI,aL,aH,aK,aq,ay,aj,ak,aF,aW,aY,ah,af,ae,ag,az,aE,ao,aD,seval]
  refine ⟨l,hU,i1,rfl,(by simp [an,al,aw,au,av,ar,aJ,aM,aI,aL,aH,aK]),nT.at_,?_⟩
  have nh:=DP hl.lo nT
  have w2:IntKind.i64.wrap (hU.pos+1)=hU.pos+1:=wrap_i64 (by have:=nT.p0p; omega) (by have:=nT.Ut; have:=hl.lo.len; omega)
  generalize ht:d8 l hU=t at*
  obtain ⟨kk,y,a⟩:=t
  simp only at hw nh
  have hq:D9 [.str y]=some (.int .i64 (fF y)):=rfl
  simp only [gj]
  simp (maxSteps:=1000000) only [hq,b9,hp,an,al,aw,au,av,ar,aJ,aM,aI,aL,aH,aK,aq,ay,aj,ak,aF,aW,aY,ah,af,ae,ag,az,aE,ao,aD,seval]
  intro i5 bx bG bu bF bt bE br bD
  have fin:∀(h:aa) (D1:List D),jG (.ok n hU:PR Nd) (fun x s'=>cJ l { s' with deep:=s'.deep - 1 }→K0 x { s' with deep:=s'.deep - 1 }) E0→K0 n { hU with deep:=hU.deep - 1 }:=fun _ _ h=>h (ib ok nT d0).1
  have wd:=(ib ok nT d0).2
  cases xG:(kk != 5) with
  | true=>
   rw [xG,Bool.true_or,cond_true] at hw
   have hw:=fin .emp [] hw
   simp (maxSteps:=1000000) only [xG,hq,b9,hp,an,al,aw,au,av,ar,aJ,aM,aI,aL,aH,aK,bx,bG,bu,bF,bt,bE,br,bD,aq,ay,aj,ak,aF,aW,aY,ah,af,ae,ag,az,aE,ao,aD,seval]
   refine ⟨rfl,i3,i1,l,hU,rfl,by simp [an,al,aw,au,av,ar,aJ,aM,aI,aL,aH,aK,bx,bG,bu,bF,bt,bE,br,bD],by simp [b9,an,al,aw,au,av,ar,aJ,aM,aI,aL,aH,aK,bx,bG,bu,bF,bt,bE,br,bD],?_⟩
   rw [wd]
   simp (maxSteps:=1000000) only [xG,hq,hp,an,al,aw,au,av,ar,aJ,aM,aI,aL,aH,aK,bx,bG,bu,bF,bt,bE,br,bD,aq,ay,aj,ak,aF,aW,aY,ah,af,ae,ag,az,aE,ao,aD,seval]
   exact cv (x:=n) (s':={ hU with deep:=hU.deep - 1 }) rfl (by simp [an,al,aw,au,av,ar,aJ,aM,aI,aL,aH,aK,bx,bG,bu,bF,bt,bE,br,bD]) hw
  | false=>
  have e5:kk=5:=by simpa using xG
  have pv:=nh (by omega)
  rw [xG,Bool.false_or] at hw
  by_cases cr:fF y≤least
  ·have gr:(fF y≤least)=True:=eq_true cr
   rw [show decide (fF y≤least)=true by simpa using cr,cond_true] at hw
   have hw:=fin .emp [] hw
   simp (maxSteps:=1000000) only [xG,hq,gr,b9,hp,an,al,aw,au,av,ar,aJ,aM,aI,aL,aH,aK,bx,bG,bu,bF,bt,bE,br,bD,aq,ay,aj,ak,aF,aW,aY,ah,af,ae,ag,az,aE,ao,aD,seval]
   refine ⟨rfl,i3,i1,l,hU,rfl,by simp [an,al,aw,au,av,ar,aJ,aM,aI,aL,aH,aK,bx,bG,bu,bF,bt,bE,br,bD],by simp [b9,an,al,aw,au,av,ar,aJ,aM,aI,aL,aH,aK,bx,bG,bu,bF,bt,bE,br,bD],?_⟩
   rw [wd]
   simp (maxSteps:=1000000) only [xG,hq,hp,an,al,aw,au,av,ar,aJ,aM,aI,aL,aH,aK,bx,bG,bu,bF,bt,bE,br,bD,aq,ay,aj,ak,aF,aW,aY,ah,af,ae,ag,az,aE,ao,aD,seval]
   exact cv (x:=n) (s':={ hU with deep:=hU.deep - 1 }) rfl (by simp [an,al,aw,au,av,ar,aJ,aM,aI,aL,aH,aK,bx,bG,bu,bF,bt,bE,br,bD]) hw
  ·have gr:(fF y≤least)=False:=eq_false cr
   rw [show decide (fF y≤least)=false by simpa using cr,cond_false,aG] at hw
   simp (maxSteps:=1000000) only [xG,hq,gr,b9,w2,hp,an,al,aw,au,av,ar,aJ,aM,aI,aL,aH,aK,bx,bG,bu,bF,bt,bE,br,bD,aq,ay,aj,ak,aF,aW,aY,ah,af,ae,ag,az,aE,ao,aD,seval]
   refine ⟨l,cE hU,i1,fF y,rfl,hl,by simp [b9,cE,an,al,aw,au,av,ar,aJ,aM,aI,aL,aH,aK,bx,bG,bu,bF,bt,bE,br,bD],pv,aA (fun r ea er k j5=>?_) (fun a e k s'=>?_) hw⟩
   case refine_2=>
    intro σ hσ _
    simp only [bB]
    rw [hσ]
    show eT yC [⟨.func 100,[.ptr i3 1 0],[]⟩] _ _ _
    simp only [ag,ae,List.nil_append]
    refine ⟨rfl,i3,i1,l,s',rfl,by simp [an,al,aw,au,av,ar,aJ,aM,aI,aL,aH,aK,bx,bG,bu,bF,bt,bE,br,bD],by simp [an,al,aw,au,av,ar,aJ,aM,aI,aL,aH,aK,bx,bG,bu,bF,bt,bE,br,bD],?_⟩
    simp only [az]
    exact aC (s':={ s' with deep:=IntKind.i64.wrap (s'.deep - 1) }) (by simp [an,al,aw,au,av,ar,aJ,aM,aI,aL,aH,aK,bx,bG,bu,bF,bt,bE,br,bD]) k
   have d2:ea.deep=s.deep+1:=((hG l).expr _ _ r ea er).trans d0
   rw [aG] at k
   simp (maxSteps:=1000000) only [cG,hp,an,al,aw,au,av,ar,aJ,aM,aI,aL,aH,aK,bx,bG,bu,bF,bt,bE,br,bD,aq,ay,aj,ak,aF,aW,aY,ah,af,ae,ag,az,aE,ao,aD,seval]
   refine .inl ⟨l,ea,i1,.mk 26 0 y 0 [n,r],by simp only [aT,cz,bA],hl.lo,(by simp [an,al,aw,au,av,ar,aJ,aM,aI,aL,aH,aK,bx,bG,bu,bF,bt,bE,br,bD]),j5,aA (fun n2 eI en k nc=>?_) (fun a e k s'=>?_) k⟩
   case refine_2=>
    intro σ hσ _
    simp only [bB]
    rw [hσ]
    show eT yC [⟨.func 100,[.ptr i3 1 0],[]⟩] _ _ _
    simp only [ag,ae,List.nil_append]
    refine ⟨rfl,i3,i1,l,s',rfl,by simp [an,al,aw,au,av,ar,aJ,aM,aI,aL,aH,aK,bx,bG,bu,bF,bt,bE,br,bD],by simp [an,al,aw,au,av,ar,aJ,aM,aI,aL,aH,aK,bx,bG,bu,bF,bt,bE,br,bD],?_⟩
    simp only [az]
    exact aC (s':={ s' with deep:=IntKind.i64.wrap (s'.deep - 1) }) (by simp [an,al,aw,au,av,ar,aJ,aM,aI,aL,aH,aK,bx,bG,bu,bF,bt,bE,br,bD]) k
   have d3:eI.deep=s.deep+1:=(bY n2 eI en).trans d2
   simp (maxSteps:=1000000) only [cG,hp,an,al,aw,au,av,ar,aJ,aM,aI,aL,aH,aK,bx,bG,bu,bF,bt,bE,br,bD,aq,ay,aj,ak,aF,aW,aY,ah,af,ae,ag,az,aE,ao,aD,seval]
   refine hQ (j,n2,eI) _ _ ⟨nc,d3,k⟩ (by simp only [ao,aD,seval]) ?_ (by simp only; omega)
   simp only
   exact aa.dV (by repeat' first | ax exact aa.bK | ax exact aa.bO | refine aa.cU (by simp [an,al,aw,au,av,ar,aJ,aM,aI,aL,aH,aK,bx,bG,bu,bF,bt,bE,br,bD]) ?_ | refine aa.cZ (by simp [an,al,aw,au,av,ar,aJ,aM,aI,aL,aH,aK,bx,bG,bu,bF,bt,bE,br,bD]) ?_)
end
end Go.Proofs.YtpklkpkfgmoghaaGreatDoor.Zz
namespace Go.Proofs.YtpklkpkfgmoghaaGreatDoor.Zz
noncomputable section
def ae4:cj:=⟨⟨[(3,2)],[(1,1),(2,1),(3,2),(4,1),(6,1),(7,3)],[],[((7,3),[(.t 3)])],[((7,1),(.t 3))],[]⟩,[(7,[0,1,2,3,4,5,6,7])],[],false⟩
def aa_:dL:=
 sO [oA 2]
 (.seq (sO [oM 0 4,
 oC 84 [.t 4] 5]
 (.defer (.t 5) []))
 (sO [oM 0 6,
 oC 60 [.t 6,kS [123]] 7]
 (sO [oM 0 8,
 oP (.build zN [(0,1,(kI 6))]) 9,
 oQ (.callR (.f 35) [(.t 8),(.t 9)]) 10,
 oA 3,
 oS 5 3 10]
 (.seq (.block 0 (.loop (.seq (sO [oM 0 11,
 oC 57 [.t 11,kS [125]] 12,
 oP (.un .not (.t 12)) 13]
 (.cond (.t 13)
 (.skip)
 (.exit 0)))
 (.block 1 (.seq (sO [oF 4 3 14,
 oL 14 15,
 oZ 15 16,
 oH .geq 16 32 17]
 (.cond (.t 17)
 (.ops [oM 0 18,
 oC 38 [.t 18,kI 3] 19])
 (.skip)))
 (.fD 20 [oF 4 3 20,
 oQ (.cT none (.t 20) (.t 3)) 21,
 oM 0 22,
 oQ (.callNe (.f 85) [(.t 22)] [(.t 3)]) 23,
 oP (.buildSlice 5 zN 1 [(0,(.t 23))] false) 24,
 oQ (.append 5 64 false (.t 21) (.t 24)) 25,
 oF 4 3 26,
 oS 1 26 25]))))))
 (sO [oJ 5 3 27,
 oS 5 2 27]
 (.ret))))))
theorem abI:bJ Tryz.prog 62 ae4=some (aa_,[.cell 2 (some 5)],28):=by kernel_rfl
def kF (n:Nd) (r:Nat):List D:=match n with
 | .mk k t s m l=>[.int .i64 k,.int .i64 t,.str s,.int .i64 m,kJ r l.length]
def gC (h:aa) (n:Nd) (r:Nat):aa:=if n.bR=[] then h else h.set r (.row 5 (n.bR.length+2) (Nd.cW n.bR) false)
theorem qY {l:List cH} {n n':Nd} {s s':PS} (h:dM l n s=.ok n' s'):n'=n:=by
 unfold dM at h
 split at h
 ·cases h
 ·cases h; rfl
theorem mS {α:Type} {b:Bool} {p q:PR α} {K:α→PS→Prop} {E:Int→Int→Prop} (hb:b=false) (h:jG (bif b then p else q) K E):jG q K E:=by subst hb; exact h
theorem iB {α:Type} {b:Bool} {p q:PR α} {K:α→PS→Prop} {E:Int→Int→Prop} (hb:b=true) (h:jG (bif b then p else q) K E):jG p K E:=by subst hb; exact h
theorem RN (G:List cH→ee) (hG:∀l,nn (G l)) (hT:(xM G).ok Tryz.prog) (l:List cH) (hl:uL l) (s:PS) (i1:Nat) (ok:cJ l s) (K0:Nd→PS→Prop) (E0:Int→Int→Prop) (hw:jG (sf l (G l) s) (fun x s'=>cJ l s'→K0 x s') E0):aQ Tryz.prog 62 [.ptr i1 1 0] (aa.emp.set i1 (b9 l s)) (lF cG l i1 K0 E0):=by
 refine aQ.du hT (dc:=yC) vz (by kernel_rfl) abI (by simp) ?_
 rw [dK]
 have hp:=fun (h:aa) (j:Nat) (B C:cR)=>push_id (id:=i1) h j B C
 have w1:IntKind.i64.wrap (s.deep+1)=s.deep+1:=wrap_i64 (by have:=ok.d0; omega) (by have:=ok.d1; omega)
 unfold sf kW Uv at hw
 rw [aG] at hw
 simp (maxSteps:=1000000) only [aa_,En,b9,aE,ao,aD,seval]
 intro i2 an al i3 aw au av ar
 by_cases c:s.deep+1>40
 ·have g:(s.deep+1>40)=True:=eq_true c
  rw [if_pos c] at hw
  simp (maxSteps:=1000000) only [g,w1,hp,an,al,aw,au,av,ar,aq,ay,aj,ak,aF,aW,aY,ah,af,ae,ag,az,aE,ao,aD,seval]
  refine ⟨l,{ s with deep:=s.deep+1 },i1,3,rfl,by simp [b9,an,al,aw,au,av,ar],ok.at_,?_⟩
  simp only [DQ,bB,true_and]
  refine ⟨rfl,?_⟩
  show eT yC [] (some (mZ _ 3)) _ _
  simp only [ae,az]
  exact aC (s':={ s with deep:=s.deep+1 }) (by simp [b9,an,al,aw,au,av,ar]) hw
 ·have g:(s.deep+1>40)=False:=eq_false c
  rw [if_neg c,cu] at hw
  have RB:=vD ok c
  simp only [GO,aG,cu] at hw
  simp (maxSteps:=1000000) only [g,w1,hp,an,al,aw,au,av,ar,aq,ay,aj,ak,aF,aW,aY,ah,af,ae,ag,az,aE,ao,aD,seval]
  generalize Df:({ s with deep:=s.deep+1 }:PS)=sd at*
  have Rv:sd.deep=s.deep+1:=by rw [←Df]
  refine ⟨l,sd,i1,[123],rfl,hl.lo,by rw [←Df]; simp [b9,an,al,aw,au,av,ar],RB,aA (fun _ cg e1 k gm=>?_) (fun a e k s'=>?_) hw⟩
  case refine_2=>
   simp only [bB,ag,ae,List.nil_append,List.append_nil]
   refine ⟨rfl,i3,i1,l,s',rfl,by simp [an,al,aw,au,av,ar],by simp [an,al,aw,au,av,ar],?_⟩
   simp only [az]
   exact aC (s':={ s' with deep:=IntKind.i64.wrap (s'.deep - 1) }) (by simp [an,al,aw,au,av,ar]) k
  have d1:cg.deep=s.deep+1:=(cX _ _ e1).trans Rv
  simp (maxSteps:=1000000) only [uV,hp,an,al,aw,au,av,ar,aq,ay,aj,ak,aF,aW,aY,ah,af,ae,ag,az,aE,ao,aD,seval]
  refine .inr ⟨l,cg,i1,.mk 6 0 [] 0 [],rfl,hl.lo,(by simp [an,al,aw,au,av,ar]),gm,aA (fun n ea e2 k j5=>?_) (fun a e k s'=>?_) k⟩
  case refine_2=>
   simp only [bB,ag,ae,List.nil_append,List.append_nil]
   refine ⟨rfl,i3,i1,l,s',rfl,by simp [an,al,aw,au,av,ar],by simp [an,al,aw,au,av,ar],?_⟩
   simp only [az]
   exact aC (s':={ s' with deep:=IntKind.i64.wrap (s'.deep - 1) }) (by simp [an,al,aw,au,av,ar]) k
  have d2:ea.deep=s.deep+1:=(bY _ _ e2).trans d1
  have hn:=qY e2
  subst hn
  simp (maxSteps:=1000000) only [vE,hp,an,al,aw,au,av,ar,aq,ay,aj,ak,aF,aW,aY,ah,af,ae,ag,az,aE,ao,aD,seval]
  intro i4 aJ aM aI aL aH aK
  refine sS (X:=Nat×Nd×Nat×PS) [⟨.func 100,[.ptr i3 1 0],[]⟩] (fun z=>[(0,.ptr i1 1 0),(2,.ptr i2 1 0),(3,.ptr i4 1 0)])
   (fun z=>gC ((((aa.emp.set i1 (b9 l z.2.2.2)).set i2 (.cells [.int .i64 0,.int .i64 0,.str [],.int .i64 0,.bg])).set i3 (.cells [.ptr i1 1 0])).set i4 (.cells (kF z.2.1 z.2.2.1))) z.2.1 z.2.2.1) (fun z=>z.1)
   (fun z=>cJ l z.2.2.2∧z.2.2.2.deep=s.deep+1∧jG (ly l (G l) z.1 z.2.1 z.2.2.2) (fun x s'=>cJ l { s' with deep:=s'.deep - 1 }→K0 x { s' with deep:=s'.deep - 1 }) E0∧(z.2.1.bR≠[]→¬z.2.2.1=i1∧¬z.2.2.1=i2∧¬z.2.2.1=i3∧¬z.2.2.1=i4))
   (l.length+1,.mk 6 0 [] 0 [],0,ea) ⟨j5,d2,k,fun h=>absurd rfl h⟩ (by simp only [ao,aD,seval]) (aa.aU _) ?_
  clear hw Df
  rintro ⟨j,n,r,hU⟩ Q ⟨nT,d0,hw,hr⟩ hQ
  simp only at nT d0 hw hr hQ ⊢
  cases j with
  | zero=>exact hw.elim
  | succ j=>
  unfold ly at hw
  rw [aG] at hw
  obtain ⟨nk,nt,ns,nm,nl⟩:=n
  simp only [Nd.bR] at hw hr
  by_cases tf:nl=[]
  ·subst tf
   have hH:∀h:aa,gC h (.mk nk nt ns nm []) r=h:=fun h=>if_pos rfl
   rw [hH,kF,List.length_nil,fX]
   simp (maxSteps:=1000000) only [hp,an,al,aw,au,av,ar,aJ,aM,aI,aL,aH,aK,aq,ay,aj,ak,aF,aW,aY,ah,af,ae,ag,az,aE,ao,aD,seval]
   refine ⟨l,hU,i1,[125],rfl,hl.lo,(by simp [an,al,aw,au,av,ar,aJ,aM,aI,aL,aH,aK]),nT,aA (fun b cg e1 k gm=>?_) (fun a e k s'=>?_) hw⟩
   case refine_2=>
    simp only [bB,ag,ae,List.nil_append,List.append_nil]
    refine ⟨rfl,i3,i1,l,s',rfl,by simp [an,al,aw,au,av,ar,aJ,aM,aI,aL,aH,aK],by simp [an,al,aw,au,av,ar,aJ,aM,aI,aL,aH,aK],?_⟩
    simp only [az]
    exact aC (s':={ s' with deep:=IntKind.i64.wrap (s'.deep - 1) }) (by simp [an,al,aw,au,av,ar,aJ,aM,aI,aL,aH,aK]) k
   have d1:cg.deep=s.deep+1:=(bH _ _ e1).trans d0
   cases b with
   | true=>
    rw [cond_true,cu] at k
    have k:=k (ib ok gm d1).1
    have wd:=(ib ok gm d1).2
    simp (maxSteps:=1000000) only [hp,an,al,aw,au,av,ar,aJ,aM,aI,aL,aH,aK,aq,ay,aj,ak,aF,aW,aY,ah,af,ae,ag,az,aE,ao,aD,seval]
    refine ⟨rfl,i3,i1,l,cg,rfl,(by simp [an,al,aw,au,av,ar,aJ,aM,aI,aL,aH,aK]),(by simp [an,al,aw,au,av,ar,aJ,aM,aI,aL,aH,aK]),?_⟩
    rw [wd]
    simp (maxSteps:=1000000) only [hp,an,al,aw,au,av,ar,aJ,aM,aI,aL,aH,aK,aq,ay,aj,ak,aF,aW,aY,ah,af,ae,ag,az,aE,ao,aD,seval]
    exact fU (x:=.mk nk nt ns nm []) (s':={ cg with deep:=cg.deep - 1 }) (by rw [cG,aT,bA]) (by simp [an,al,aw,au,av,ar,aJ,aM,aI,aL,aH,aK]) k
   | false=>
    rw [cond_false] at k
    replace k:jG (((G l).stmt cg).bind fun x s=>ly l (G l) j ((Nd.mk nk nt ns nm []).dw x) s) (fun x s'=>cJ l { s' with deep:=s'.deep - 1 }→K0 x { s' with deep:=s'.deep - 1 }) E0:=k
    rw [aG] at k
    simp (maxSteps:=1000000) only [hp,an,al,aw,au,av,ar,aJ,aM,aI,aL,aH,aK,aq,ay,aj,ak,aF,aW,aY,ah,af,ae,ag,az,aE,ao,aD,seval]
    refine ⟨l,cg,i1,rfl,hl,(by simp [an,al,aw,au,av,ar,aJ,aM,aI,aL,aH,aK]),gm,aA (fun x ea e2 k j5=>?_) (fun a e k s'=>?_) k⟩
    case refine_2=>
     intro σ hσ _
     simp only [bB]
     rw [hσ]
     show eT yC [⟨.func 100,[.ptr i3 1 0],[]⟩] _ _ _
     simp only [ag,ae,List.nil_append]
     refine ⟨rfl,i3,i1,l,s',rfl,by simp [an,al,aw,au,av,ar,aJ,aM,aI,aL,aH,aK],by simp [an,al,aw,au,av,ar,aJ,aM,aI,aL,aH,aK],?_⟩
     simp only [az]
     exact aC (s':={ s' with deep:=IntKind.i64.wrap (s'.deep - 1) }) (by simp [an,al,aw,au,av,ar,aJ,aM,aI,aL,aH,aK]) k
    have d2:ea.deep=s.deep+1:=((hG l).stmt _ x ea e2).trans d1
    simp (maxSteps:=1000000) only [cG,hp,an,al,aw,au,av,ar,aJ,aM,aI,aL,aH,aK,aq,ay,aj,ak,aF,aW,aY,ah,af,ae,ag,az,aE,ao,aD,seval]
    intro i5 bx bG bu bF bt bE br bD
    simp (maxSteps:=1000000) only [hp,an,al,aw,au,av,ar,aJ,aM,aI,aL,aH,aK,bx,bG,bu,bF,bt,bE,br,bD,aq,ay,aj,ak,aF,aW,aY,ah,af,ae,ag,az,aE,ao,aD,seval]
    refine hQ (j,.mk nk nt ns nm [x],i5,ea) _ _ ⟨j5,d2,k,fun _=>⟨br,bt,bu,bx⟩⟩ (by simp only [ao,aD,seval]) ?_ (by simp only; omega)
    simp only [gC,Nd.bR,kF,List.length_cons,List.length_nil,cz,bA,reduceCtorEq,if_false,cB (Nat.succ_ne_zero 0)]
    exact aa.dV (by repeat' first | ax exact aa.bK | ax exact aa.bO | refine aa.cU (by simp [an,al,aw,au,av,ar,aJ,aM,aI,aL,aH,aK,bx,bG,bu,bF,bt,bE,br,bD]) ?_ | refine aa.cZ (by simp [an,al,aw,au,av,ar,aJ,aM,aI,aL,aH,aK,bx,bG,bu,bF,bt,bE,br,bD]) ?_)
  ·obtain ⟨i5,rfl⟩:∃q,q=r:=⟨r,rfl⟩
   obtain ⟨br,bt,bu,bx⟩:=hr tf
   have bD:¬i1=i5:=fun e=>br e.symm
   have bE:¬i2=i5:=fun e=>bt e.symm
   have bF:¬i3=i5:=fun e=>bu e.symm
   have bG:¬i4=i5:=fun e=>bx e.symm
   have hH:∀h:aa,gC h (.mk nk nt ns nm nl) i5=h.set i5 (.row 5 (nl.length+2) (Nd.cW nl) false):=fun h=>if_neg tf
   have FL:nl.length≠0:=fun e=>tf (List.length_eq_zero_iff.1 e)
   have tk:(Nd.cW nl).take nl.length=Nd.cW nl:=List.take_of_length_le (by rw [aX]; omega)
   rw [hH,kF,cB FL]
   simp (maxSteps:=1000000) only [hp,an,al,aw,au,av,ar,aJ,aM,aI,aL,aH,aK,bx,bG,bu,bF,bt,bE,br,bD,aq,ay,aj,ak,aF,aW,aY,ah,af,ae,ag,az,aE,ao,aD,seval]
   refine ⟨l,hU,i1,[125],rfl,hl.lo,(by simp [an,al,aw,au,av,ar,aJ,aM,aI,aL,aH,aK,bx,bG,bu,bF,bt,bE,br,bD]),nT,aA (fun b cg e1 k gm=>?_) (fun a e k s'=>?_) hw⟩
   case refine_2=>
    simp only [bB,ag,ae,List.nil_append,List.append_nil]
    refine ⟨rfl,i3,i1,l,s',rfl,by simp [an,al,aw,au,av,ar,aJ,aM,aI,aL,aH,aK,bx,bG,bu,bF,bt,bE,br,bD],by simp [an,al,aw,au,av,ar,aJ,aM,aI,aL,aH,aK,bx,bG,bu,bF,bt,bE,br,bD],?_⟩
    simp only [az]
    exact aC (s':={ s' with deep:=IntKind.i64.wrap (s'.deep - 1) }) (by simp [an,al,aw,au,av,ar,aJ,aM,aI,aL,aH,aK,bx,bG,bu,bF,bt,bE,br,bD]) k
   have d1:cg.deep=s.deep+1:=(bH _ _ e1).trans d0
   cases b with
   | true=>
    rw [cond_true,cu] at k
    have k:=k (ib ok gm d1).1
    have wd:=(ib ok gm d1).2
    simp (maxSteps:=1000000) only [hp,an,al,aw,au,av,ar,aJ,aM,aI,aL,aH,aK,bx,bG,bu,bF,bt,bE,br,bD,aq,ay,aj,ak,aF,aW,aY,ah,af,ae,ag,az,aE,ao,aD,seval]
    refine ⟨rfl,i3,i1,l,cg,rfl,(by simp [an,al,aw,au,av,ar,aJ,aM,aI,aL,aH,aK,bx,bG,bu,bF,bt,bE,br,bD]),(by simp [an,al,aw,au,av,ar,aJ,aM,aI,aL,aH,aK,bx,bG,bu,bF,bt,bE,br,bD]),?_⟩
    rw [wd]
    simp (maxSteps:=1000000) only [aX,tk,hp,an,al,aw,au,av,ar,aJ,aM,aI,aL,aH,aK,bx,bG,bu,bF,bt,bE,br,bD,aq,ay,aj,ak,aF,aW,aY,ah,af,ae,ag,az,aE,ao,aD,seval]
    exact fU (x:=.mk nk nt ns nm nl) (s':={ cg with deep:=cg.deep - 1 }) (by rw [cG,aT]) (by simp [an,al,aw,au,av,ar,aJ,aM,aI,aL,aH,aK,bx,bG,bu,bF,bt,bE,br,bD]) k
   | false=>
    rw [cond_false] at k
    by_cases jX:nl.length≥32
    ·have g3:((nl.length:Int)≥32)=True:=eq_true (by omega)
     have k:jG (il l 3 cg:PR Nd) (fun x s'=>cJ l { s' with deep:=s'.deep - 1 }→K0 x { s' with deep:=s'.deep - 1 }) E0:=by
      exact iB (by simpa using jX) k
     simp (maxSteps:=1000000) only [g3,aX,hp,an,al,aw,au,av,ar,aJ,aM,aI,aL,aH,aK,bx,bG,bu,bF,bt,bE,br,bD,aq,ay,aj,ak,aF,aW,aY,ah,af,ae,ag,az,aE,ao,aD,seval]
     intro _
     refine ⟨l,cg,i1,3,rfl,(by simp [an,al,aw,au,av,ar,aJ,aM,aI,aL,aH,aK,bx,bG,bu,bF,bt,bE,br,bD]),gm.at_,?_⟩
     simp only [bB]
     show eT yC [⟨.func 100,[.ptr i3 1 0],[]⟩] _ _ _
     simp only [ag,ae,List.nil_append]
     refine ⟨rfl,i3,i1,l,cg,rfl,(by simp [an,al,aw,au,av,ar,aJ,aM,aI,aL,aH,aK,bx,bG,bu,bF,bt,bE,br,bD]),(by simp [an,al,aw,au,av,ar,aJ,aM,aI,aL,aH,aK,bx,bG,bu,bF,bt,bE,br,bD]),?_⟩
     simp only [az]
     exact aC (s':={ cg with deep:=IntKind.i64.wrap (cg.deep - 1) }) (by simp [an,al,aw,au,av,ar,aJ,aM,aI,aL,aH,aK,bx,bG,bu,bF,bt,bE,br,bD]) k
    ·have g3:((nl.length:Int)≥32)=False:=eq_false (by omega)
     have k:jG (((G l).stmt cg).bind fun x s=>ly l (G l) j ((Nd.mk nk nt ns nm nl).dw x) s) (fun x s'=>cJ l { s' with deep:=s'.deep - 1 }→K0 x { s' with deep:=s'.deep - 1 }) E0:=by
      exact mS (by simpa using jX) k
     rw [aG] at k
     simp (maxSteps:=1000000) only [g3,aX,hp,an,al,aw,au,av,ar,aJ,aM,aI,aL,aH,aK,bx,bG,bu,bF,bt,bE,br,bD,aq,ay,aj,ak,aF,aW,aY,ah,af,ae,ag,az,aE,ao,aD,seval]
     intro _
     refine ⟨l,cg,i1,rfl,hl,(by simp [an,al,aw,au,av,ar,aJ,aM,aI,aL,aH,aK,bx,bG,bu,bF,bt,bE,br,bD]),gm,aA (fun x ea e2 k j5=>?_) (fun a e k s'=>?_) k⟩
     case refine_2=>
      intro σ hσ _
      simp only [bB]
      rw [hσ]
      show eT yC [⟨.func 100,[.ptr i3 1 0],[]⟩] _ _ _
      simp only [ag,ae,List.nil_append]
      refine ⟨rfl,i3,i1,l,s',rfl,by simp [an,al,aw,au,av,ar,aJ,aM,aI,aL,aH,aK,bx,bG,bu,bF,bt,bE,br,bD],by simp [an,al,aw,au,av,ar,aJ,aM,aI,aL,aH,aK,bx,bG,bu,bF,bt,bE,br,bD],?_⟩
      simp only [az]
      exact aC (s':={ s' with deep:=IntKind.i64.wrap (s'.deep - 1) }) (by simp [an,al,aw,au,av,ar,aJ,aM,aI,aL,aH,aK,bx,bG,bu,bF,bt,bE,br,bD]) k
     have d2:ea.deep=s.deep+1:=((hG l).stmt _ x ea e2).trans d1
     simp (maxSteps:=1000000) only [cG,aX,hp,an,al,aw,au,av,ar,aJ,aM,aI,aL,aH,aK,bx,bG,bu,bF,bt,bE,br,bD,aq,ay,aj,ak,aF,aW,aY,ah,af,ae,ag,az,aE,ao,aD,seval]
     refine ⟨by omega,hQ (j,.mk nk nt ns nm (nl++[x]),i5,ea) _ _ ⟨j5,d2,k,fun _=>⟨br,bt,bu,bx⟩⟩ (by simp only [ao,aD,seval]) ?_ (by simp only; omega)⟩
     have iC:nl++[x]≠[]:=by simp
     simp only [gC,Nd.bR,kF,List.length_append,List.length_cons,List.length_nil,iC,if_false,←j8,cB (show nl.length+(0+1)≠0 by omega)]
     rw [show nl.length+2+1=nl.length+(0+1)+2 by omega]
     exact aa.dV (by repeat' first | ax exact aa.bK | ax exact aa.bO | refine aa.cU (by simp [an,al,aw,au,av,ar,aJ,aM,aI,aL,aH,aK,bx,bG,bu,bF,bt,bE,br,bD]) ?_ | refine aa.cZ (by simp [an,al,aw,au,av,ar,aJ,aM,aI,aL,aH,aK,bx,bG,bu,bF,bt,bE,br,bD]) ?_)
end
end Go.Proofs.YtpklkpkfgmoghaaGreatDoor.Zz
