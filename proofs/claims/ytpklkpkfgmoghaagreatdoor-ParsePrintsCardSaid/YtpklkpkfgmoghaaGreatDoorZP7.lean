/- Contracts: expressions. -/
import Derived.Test.YtpklkpkfgmoghaaGreatDoorZP29
import Derived.Test.YtpklkpkfgmoghaaGreatDoorZA0
set_option linter.unnecessarySimpa false
set_option linter.unusedVariables false
set_option linter.unusedSimpArgs false
set_option maxRecDepth 20000
namespace Go.Proofs.YtpklkpkfgmoghaaGreatDoor.Zz
noncomputable section
def YQ:b7:=⟨⟨[],[(1,1),(2,1),(3,1),(8,6),(8,9)],[],[((8,6),[(.t 6),(.t 5)])],[((8,2),(.t 6))],[]⟩,[(8,[0,1,2,3,4,5,6,7,8,9,10])],[],false⟩
def TJ:dA:=
 sO [oA 4]
 (.seq (sO [oM 0 8,
 oC 84 [.t 8] 9]
 (.defer (.t 9) []))
 (sO [oM 0 10,
 oC 119 [.t 10] 11,
 oA 5,
 oS 5 5 11]
 (.block 0 (.loop (.block 1 (sO [oM 0 12,
 oC 36 [.t 12] 13,
 oQ (.alloc [(.int .i64 0),(.str []),(.int .i64 0)]) 6,
 oS 3 6 13]
 (sO [oF 1 6 14,
 oL 14 15,
 oD 120 [.t 15] 16,
 oM 16 7]
 (.seq (sO [oF 0 6 17,
 oL 17 18,
 oH .neq 18 5 19,
 oM 19 20,
 oG (.cg (.t 7)) 21 20 false true,
 oG (.cg (.t 1)) 22 20 false true,
 oG (.bin .leq (.t 21) (.t 22)) 23 20 false true,
 oP (.pick (.t 20) (kB true) (.t 23)) 24]
 (.cond (.t 24)
 (sO [oJ 5 5 25,
 oS 5 4 25]
 (.ret))
 (.skip)))
 (sO [oM 0 26,
 oN 26 27,
 oF 1 27 28,
 oL 28 29,
 oH .add 29 1 30,
 oN 26 31,
 oF 1 31 32,
 oS 1 32 30]
 (.fq 33 [oM 0 33,
 oF 1 6 34,
 oQ (.cK none (.t 34) (.t 6)) 35,
 oJ 5 5 36,
 oM 0 37,
 oM 7 38,
 oQ (.callNe (.f 102) [(.t 37),(.t 38)] [(.t 6),(.t 5)]) 39,
 oP (.buildSlice 5 zN 2 [(0,(.t 36)),(1,(.t 39))] false) 40,
 oP (.build zN [(0,1,(kI 26)),(2,1,(.t 35)),(4,1,(.t 40))]) 41,
 oC 35 [.t 33,.t 41] 42,
 oS 5 5 42]))))))))))
theorem Wz:bE Tryz.prog 102 YQ=some (TJ,[.cell 4 (some 5)],43):=by kernel_rfl
def YR:b7:=⟨⟨[],[(1,4),(2,1),(3,1)],[],[],[],[]⟩,[],[],false⟩
def TK:dA:=
 sO [oA 6]
 (sO [oM 0 8,
 oM 1 9,
 oM 2 10,
 oP (.build zN [(0,1,(.t 9)),(2,1,(.t 10))]) 11,
 oC 35 [.t 8,.t 11] 12,
 oA 7,
 oS 5 7 12]
 (sO [oM 0 13,
 oC 102 [.t 13,kI 0] 14,
 oP (.buildSlice 5 zN 1 [(0,(.t 14))] false) 15,
 oF 4 7 16,
 oS 1 16 15]
 (sO [oM 0 17,
 oC 60 [.t 17,kS [59]] 18]
 (sO [oJ 5 7 19,
 oS 5 6 19]
 (.ret)))))
theorem WA:bE Tryz.prog 103 YR=some (TK,[.cell 6 (some 5)],20):=by kernel_rfl
theorem ay {α:Type} {r:PR α} {K K':α→PS→Prop} {E E':Int→Int→Prop} (hk:∀x s,r=.ok x s→K x s→K' x s) (he:∀a e,E a e→E' a e) (h:jA r K E):jA r K' E':=by
 cases r with
 | ok x s=>exact hk _ _ rfl h
 | fail a e=>exact he _ _ h
 | out=>exact h
abbrev cz (n:Nd):D:=.agg n.enc
def cGe (G:List Tok→dU) (args:List D) (h:aa) (K E:D→aa→Prop):Prop:=∃(l:List Tok) (s:PS) (id:Nat) (k:Int),args=[.ptr id 1 0,.int .i64 k]∧uw l∧cP ((G l).expr k) cz l s id h K E
def cGu (G:List Tok→dU) (args:List D) (h:aa) (K E:D→aa→Prop):Prop:=∃(l:List Tok) (s:PS) (id:Nat),args=[.ptr id 1 0]∧uw l∧cP (G l).unary cz l s id h K E
def cGc (G:List Tok→dU) (args:List D) (h:aa) (K E:D→aa→Prop):Prop:=∃(l:List Tok) (s:PS) (id:Nat) (x:List UInt8),args=[.ptr id 1 0,.str x]∧uw l∧cP ((G l).call x) cz l s id h K E
def cGb (G:List Tok→dU) (args:List D) (h:aa) (K E:D→aa→Prop):Prop:=∃(l:List Tok) (s:PS) (id:Nat),args=[.ptr id 1 0]∧uw l∧cP (G l).block cz l s id h K E
def cGs (G:List Tok→dU) (args:List D) (h:aa) (K E:D→aa→Prop):Prop:=∃(l:List Tok) (s:PS) (id:Nat),args=[.ptr id 1 0]∧uw l∧cP (G l).stmt cz l s id h K E
def cGr (G:List Tok→dU) (args:List D) (h:aa) (K E:D→aa→Prop):Prop:=∃(l:List Tok) (s:PS) (id:Nat),args=[.ptr id 1 0]∧uw l∧cP (G l).branch cz l s id h K E
theorem Mx (G:List Tok→dU) (args:List D) (h:aa) (K E K' E':D→aa→Prop) (hk:∀d h,K d h→K' d h) (he:∀d h,E d h→E' d h) (c:cGe G args h K E):cGe G args h K' E':=by
 obtain ⟨l,s,id,k,a,b,c⟩:=c
 exact ⟨l,s,id,k,a,b,eE hk he c⟩
theorem MA (G:List Tok→dU) (args:List D) (h:aa) (K E K' E':D→aa→Prop) (hk:∀d h,K d h→K' d h) (he:∀d h,E d h→E' d h) (c:cGu G args h K E):cGu G args h K' E':=by
 obtain ⟨l,s,id,a,b,c⟩:=c
 exact ⟨l,s,id,a,b,eE hk he c⟩
theorem Mw (G:List Tok→dU) (args:List D) (h:aa) (K E K' E':D→aa→Prop) (hk:∀d h,K d h→K' d h) (he:∀d h,E d h→E' d h) (c:cGc G args h K E):cGc G args h K' E':=by
 obtain ⟨l,s,id,k,a,b,c⟩:=c
 exact ⟨l,s,id,k,a,b,eE hk he c⟩
theorem Mv (G:List Tok→dU) (args:List D) (h:aa) (K E K' E':D→aa→Prop) (hk:∀d h,K d h→K' d h) (he:∀d h,E d h→E' d h) (c:cGb G args h K E):cGb G args h K' E':=by
 obtain ⟨l,s,id,a,b,c⟩:=c
 exact ⟨l,s,id,a,b,eE hk he c⟩
theorem Mz (G:List Tok→dU) (args:List D) (h:aa) (K E K' E':D→aa→Prop) (hk:∀d h,K d h→K' d h) (he:∀d h,E d h→E' d h) (c:cGs G args h K E):cGs G args h K' E':=by
 obtain ⟨l,s,id,a,b,c⟩:=c
 exact ⟨l,s,id,a,b,eE hk he c⟩
theorem My (G:List Tok→dU) (args:List D) (h:aa) (K E K' E':D→aa→Prop) (hk:∀d h,K d h→K' d h) (he:∀d h,E d h→E' d h) (c:cGr G args h K E):cGr G args h K' E':=by
 obtain ⟨l,s,id,a,b,c⟩:=c
 exact ⟨l,s,id,a,b,eE hk he c⟩
def xx (G:List Tok→dU):bf:=(((((t_.j6 102 (cGe G) (Mx G)).j6 119 (cGu G) (MA G)).j6 104 (cGc G) (Mw G)).j6 62 (cGb G) (Mv G)).j6 85 (cGs G) (Mz G)).j6 101 (cGr G) (My G)
theorem T4 {G:List Tok→dU}:(xx G).q=t_.q:=rfl
theorem T2 {G:List Tok→dU}:(xx G).a=t_.a:=rfl
theorem T3 {G:List Tok→dU} (g:FuncId) (args:List D) (h:aa) (K E:D→aa→Prop):(xx G).c g args h K E=if g=101 then cGr G args h K E else if g=85 then cGs G args h K E else if g=62 then cGb G args h K E else if g=104 then cGc G args h K E else if g=119 then cGu G args h K E else if g=102 then cGe G args h K E else t_.c g args h K E:=rfl
theorem aC:type_of% (And.intro (And.intro @T4 (And.intro @T2 @T3)) @an):=(And.intro (And.intro @T4 (And.intro @T2 @T3)) @an)
theorem push_id {id:Nat} (h:aa) (j:Nat) (B C:cI) (e:¬j=id):(h.set j B).set id C=(h.set id C).set j B:=aa.ext fun q=>by
 simp only [aa.dD]
 by_cases jO:q=id
 ·subst jO
  have:¬q=j:=fun x=>e x.symm
  simp [this]
 ·simp [jO]
theorem aU {a b c d e:D} (n:Nd):setAt [a,b,c,d,e] 0 n.enc=n.enc:=by
 obtain ⟨k,t,s,m,l⟩:=n
 rw [aR]; rfl
theorem aD (n:Nd):n.enc.take 5=n.enc:=by
 obtain ⟨k,t,s,m,l⟩:=n
 rw [aR]; rfl
theorem aW (m n:Nd):setAt m.enc 0 n.enc=n.enc:=by
 obtain ⟨k,t,s,v,l⟩:=m
 rw [aR,aU]
theorem OM (G:List Tok→dU) (hT:(xx G).ok Tryz.prog) (l:List Tok) (hl:uw l) (s:PS) (i1:Nat) (kd:Int) (x:List UInt8) (ok:cB l s) (K0:Nd→PS→Prop) (E0:Int→Int→Prop) (hw:jA (ic l (G l) kd x s) (fun x s'=>cB l s'→K0 x s') E0):aO Tryz.prog 103 [.ptr i1 1 0,.int .i64 kd,.str x] (aa.emp.set i1 (bV l s)) (ly cz l i1 K0 E0):=by
 refine aO.c8 hT (dc:=cJ.none) (fun _ _=>cJ.eM) (by kernel_rfl) WA (by simp) ?_
 rw [dz]
 have hp:=fun (h:aa) (j:Nat) (B C:cI)=>push_id (id:=i1) h j B C
 unfold ic at hw
 rw [aE] at hw
 simp (maxSteps:=1000000) only [TK,hp,hp,ao,aw,ah,aj,aD,aU,aW,ag,ae,ab,af,ax,aC,an,aB,seval]
 intro i2 al ak
 refine .inl ⟨l,s,i1,.mk kd 0 x 0 [],by simp only [aR,bt],hl.lo,(by simp [al,ak]),ok,gI (fun n bZ k gg=>?_) (fun a e k s'=>?_) hw⟩
 case refine_2=>
  simp only [bu,ab,ax]
  exact aA (s':=s') (by simp [al,ak]) k
 obtain ⟨nk,nt,ns,nm,nl⟩:=n
 rw [aE] at k
 simp (maxSteps:=1000000) only [aR,hp,al,ak,ao,aw,ah,aj,aD,aU,aW,ag,ae,ab,af,ax,aC,an,aB,seval]
 intro i3 av ar au aq
 refine ⟨l,bZ,i1,0,rfl,hl,(by simp [al,ak,av,ar,au,aq]),gg,gI (fun e dT k jV=>?_) (fun a e k s'=>?_) k⟩
 case refine_2=>
  simp only [bu,ab,ax]
  exact aA (s':=s') (by simp [al,ak,av,ar,au,aq]) k
 rw [aE] at k
 simp (maxSteps:=1000000) only [hp,al,ak,av,ar,au,aq,ao,aw,ah,aj,aD,aU,aW,ag,ae,ab,af,ax,aC,an,aB,seval]
 refine ⟨l,dT,i1,[59],rfl,hl.lo,(by simp [al,ak,av,ar,au,aq]),jV,gI (fun _ ez k mQ=>?_) (fun a e k s'=>?_) k⟩
 case refine_2=>
  simp only [bu,ab,ax]
  exact aA (s':=s') (by simp [al,ak,av,ar,au,aq]) k
 rw [b_] at k
 simp (maxSteps:=1000000) only [hp,al,ak,av,ar,au,aq,ao,aw,ah,aj,aD,aU,aW,ag,ae,ab,af,ax,aC,an,aB,seval]
 exact cd (x:=.mk nk nt ns nm [e]) (s':=ez) (by rw [cz,aR,cj,bt]) (by simp [al,ak,av,ar,au,aq]) (k mQ)
theorem hO {l:List Tok} {s s':PS} (ok:cB l s) (o_:cB l s') (e:s'.deep=s.deep+1):cB l { s' with deep:=s'.deep - 1 }∧IntKind.i64.wrap (s'.deep - 1)=s'.deep - 1:=by
 obtain ⟨h1,h2,h3,h4,h5,h6⟩:=ok
 obtain ⟨g1,g2,g3,g4,g5,g6⟩:=o_
 exact ⟨⟨g1,g2,g3,g4,by simp only; omega,by simp only; omega⟩,wrap_i64 (by omega) (by omega)⟩
theorem vj {l:List Tok} {s:PS} (ok:cB l s) (h:¬s.deep+1>40):cB l { s with deep:=s.deep+1 }:=by
 obtain ⟨h1,h2,h3,h4,h5,h6⟩:=ok
 exact ⟨h1,h2,h3,h4,by simp only; omega,by simp only; omega⟩
theorem U1 (G:List Tok→dU) (hG:∀l,mW (G l)) (hT:(xx G).ok Tryz.prog) (l:List Tok) (hl:uw l) (s:PS) (i1:Nat) (least:Int) (ok:cB l s) (K0:Nd→PS→Prop) (E0:Int→Int→Prop) (hw:jA (yj l (G l) least s) (fun x s'=>cB l s'→K0 x s') E0):aO Tryz.prog 102 [.ptr i1 1 0,.int .i64 least] (aa.emp.set i1 (bV l s)) (ly cz l i1 K0 E0):=by
 refine aO.c8 hT (dc:=yc) vf (by kernel_rfl) Wz (by simp) ?_
 rw [dz]
 have hp:=fun (h:aa) (j:Nat) (B C:cI)=>push_id (id:=i1) h j B C
 have w1:IntKind.i64.wrap (s.deep+1)=s.deep+1:=wrap_i64 (by have:=ok.d0; omega) (by have:=ok.d1; omega)
 unfold yj kP TA at hw
 rw [aE] at hw
 simp (maxSteps:=1000000) only [TJ,D0,bV,aC,an,aB,seval]
 intro i2 al ak i3 av ar au aq
 by_cases c:s.deep+1>40
 ·have g:(s.deep+1>40)=True:=eq_true c
  rw [if_pos c] at hw
  simp (maxSteps:=1000000) only [g,w1,hp,al,ak,av,ar,au,aq,ao,aw,ah,aj,aD,aU,aW,ag,ae,ab,af,ax,aC,an,aB,seval]
  refine ⟨l,{ s with deep:=s.deep+1 },i1,3,rfl,by simp [bV,al,ak,av,ar,au,aq],ok.at_,?_⟩
  simp only [Dt,bu,true_and]
  refine ⟨rfl,?_⟩
  show eJ yc [] (some (mN _ 3)) _ _
  simp only [ab,ax]
  exact aA (s':={ s with deep:=s.deep+1 }) (by simp [bV,al,ak,av,ar,au,aq]) hw
 ·have g:(s.deep+1>40)=False:=eq_false c
  rw [if_neg c,b_] at hw
  have QO:=vj ok c
  simp only [Gm,aE,b_] at hw
  simp (maxSteps:=1000000) only [g,w1,hp,al,ak,av,ar,au,aq,ao,aw,ah,aj,aD,aU,aW,ag,ae,ab,af,ax,aC,an,aB,seval]
  generalize CT:({ s with deep:=s.deep+1 }:PS)=sd at*
  have QH:sd.deep=s.deep+1:=by rw [←CT]
  refine ⟨l,sd,i1,rfl,hl,by rw [←CT]; simp [bV,al,ak,av,ar,au,aq],QO,ay (fun n bZ en k gg=>?_) (fun a e k s'=>?_) hw⟩
  case refine_2=>
   simp only [bu,af,ab,List.nil_append,List.append_nil]
   refine ⟨rfl,i3,i1,l,s',rfl,by simp [al,ak,av,ar,au,aq],by simp [al,ak,av,ar,au,aq],?_⟩
   simp only [ax]
   exact aA (s':={ s' with deep:=IntKind.i64.wrap (s'.deep - 1) }) (by simp [al,ak,av,ar,au,aq]) k
  have d1:=(hG l).unary sd n bZ en
  rw [QH] at d1
  simp (maxSteps:=1000000) only [hp,al,ak,av,ar,au,aq,ao,aw,ah,aj,aD,aU,aW,ag,ae,ab,af,ax,aC,an,aB,seval]
  intro i4 aH aK aG aJ aF aI
  refine sA (X:=Nat×Nd×PS) [⟨.func 100,[.ptr i3 1 0],[]⟩] (fun z=>[(0,.ptr i1 1 0),(1,.int .i64 least),(4,.ptr i2 1 0),(5,.ptr i4 1 0)])
   (fun z=>(((aa.emp.set i1 (bV l z.2.2)).set i2 (.cells [.int .i64 0,.int .i64 0,.str [],.int .i64 0,.a_])).set i3 (.cells [.ptr i1 1 0])).set i4 (.cells z.2.1.enc)) (fun z=>z.1)
   (fun z=>cB l z.2.2∧z.2.2.deep=s.deep+1∧jA (sL l (G l) least z.1 z.2.1 z.2.2) (fun x s'=>cB l { s' with deep:=s'.deep - 1 }→K0 x { s' with deep:=s'.deep - 1 }) E0)
   (l.length+1,n,bZ) ⟨gg,d1,k⟩ (by simp only [an,aB,seval]) (aa.aS _) ?_
  clear hw CT en k gg d1 n bZ QH QO
  rintro ⟨j,n,gW⟩ Q ⟨nI,d0,hw⟩ hQ
  simp only at nI d0 hw hQ ⊢
  cases j with
  | zero=>exact hw.elim
  | succ j=>
  unfold sL at hw
  simp (maxSteps:=1000000) only [hp,al,ak,av,ar,au,aq,aH,aK,aG,aJ,aF,aI,ao,aw,ah,aj,aD,aU,aW,ag,ae,ab,af,ax,aC,an,aB,seval]
  refine ⟨l,gW,i1,rfl,(by simp [al,ak,av,ar,au,aq,aH,aK,aG,aJ,aF,aI]),nI.at_,?_⟩
  have mT:=Ds hl.lo nI
  have w2:IntKind.i64.wrap (gW.pos+1)=gW.pos+1:=wrap_i64 (by have:=nI.YN; omega) (by have:=nI.Ty; have:=hl.lo.len; omega)
  generalize ht:dQ l gW=t at*
  obtain ⟨kk,y,a⟩:=t
  simp only at hw mT
  have hq:DM [.str y]=some (.int .i64 (ft y)):=rfl
  simp only [gb]
  simp (maxSteps:=1000000) only [hq,bV,hp,al,ak,av,ar,au,aq,aH,aK,aG,aJ,aF,aI,ao,aw,ah,aj,aD,aU,aW,ag,ae,ab,af,ax,aC,an,aB,seval]
  intro i5 bq bC bp bB bo bA bn bz
  have fin:∀(h:aa) (D1:List D),jA (.ok n gW:PR Nd) (fun x s'=>cB l { s' with deep:=s'.deep - 1 }→K0 x { s' with deep:=s'.deep - 1 }) E0→K0 n { gW with deep:=gW.deep - 1 }:=fun _ _ h=>h (hO ok nI d0).1
  have wd:=(hO ok nI d0).2
  cases xn:(kk != 5) with
  | true=>
   rw [xn,Bool.true_or,cond_true] at hw
   have hw:=fin .emp [] hw
   simp (maxSteps:=1000000) only [xn,hq,bV,hp,al,ak,av,ar,au,aq,aH,aK,aG,aJ,aF,aI,bq,bC,bp,bB,bo,bA,bn,bz,ao,aw,ah,aj,aD,aU,aW,ag,ae,ab,af,ax,aC,an,aB,seval]
   refine ⟨rfl,i3,i1,l,gW,rfl,by simp [al,ak,av,ar,au,aq,aH,aK,aG,aJ,aF,aI,bq,bC,bp,bB,bo,bA,bn,bz],by simp [bV,al,ak,av,ar,au,aq,aH,aK,aG,aJ,aF,aI,bq,bC,bp,bB,bo,bA,bn,bz],?_⟩
   rw [wd]
   simp (maxSteps:=1000000) only [xn,hq,hp,al,ak,av,ar,au,aq,aH,aK,aG,aJ,aF,aI,bq,bC,bp,bB,bo,bA,bn,bz,ao,aw,ah,aj,aD,aU,aW,ag,ae,ab,af,ax,aC,an,aB,seval]
   exact cd (x:=n) (s':={ gW with deep:=gW.deep - 1 }) rfl (by simp [al,ak,av,ar,au,aq,aH,aK,aG,aJ,aF,aI,bq,bC,bp,bB,bo,bA,bn,bz]) hw
  | false=>
  have e5:kk=5:=by simpa using xn
  have o_:=mT (by omega)
  rw [xn,Bool.false_or] at hw
  by_cases cr:ft y≤least
  ·have gr:(ft y≤least)=True:=eq_true cr
   rw [show decide (ft y≤least)=true by simpa using cr,cond_true] at hw
   have hw:=fin .emp [] hw
   simp (maxSteps:=1000000) only [xn,hq,gr,bV,hp,al,ak,av,ar,au,aq,aH,aK,aG,aJ,aF,aI,bq,bC,bp,bB,bo,bA,bn,bz,ao,aw,ah,aj,aD,aU,aW,ag,ae,ab,af,ax,aC,an,aB,seval]
   refine ⟨rfl,i3,i1,l,gW,rfl,by simp [al,ak,av,ar,au,aq,aH,aK,aG,aJ,aF,aI,bq,bC,bp,bB,bo,bA,bn,bz],by simp [bV,al,ak,av,ar,au,aq,aH,aK,aG,aJ,aF,aI,bq,bC,bp,bB,bo,bA,bn,bz],?_⟩
   rw [wd]
   simp (maxSteps:=1000000) only [xn,hq,hp,al,ak,av,ar,au,aq,aH,aK,aG,aJ,aF,aI,bq,bC,bp,bB,bo,bA,bn,bz,ao,aw,ah,aj,aD,aU,aW,ag,ae,ab,af,ax,aC,an,aB,seval]
   exact cd (x:=n) (s':={ gW with deep:=gW.deep - 1 }) rfl (by simp [al,ak,av,ar,au,aq,aH,aK,aG,aJ,aF,aI,bq,bC,bp,bB,bo,bA,bn,bz]) hw
  ·have gr:(ft y≤least)=False:=eq_false cr
   rw [show decide (ft y≤least)=false by simpa using cr,cond_false,aE] at hw
   simp (maxSteps:=1000000) only [xn,hq,gr,bV,w2,hp,al,ak,av,ar,au,aq,aH,aK,aG,aJ,aF,aI,bq,bC,bp,bB,bo,bA,bn,bz,ao,aw,ah,aj,aD,aU,aW,ag,ae,ab,af,ax,aC,an,aB,seval]
   refine ⟨l,cw gW,i1,ft y,rfl,hl,by simp [bV,cw,al,ak,av,ar,au,aq,aH,aK,aG,aJ,aF,aI,bq,bC,bp,bB,bo,bA,bn,bz],o_,ay (fun r dT er k jV=>?_) (fun a e k s'=>?_) hw⟩
   case refine_2=>
    intro σ hσ _
    simp only [bu]
    rw [hσ]
    show eJ yc [⟨.func 100,[.ptr i3 1 0],[]⟩] _ _ _
    simp only [af,ab,List.nil_append]
    refine ⟨rfl,i3,i1,l,s',rfl,by simp [al,ak,av,ar,au,aq,aH,aK,aG,aJ,aF,aI,bq,bC,bp,bB,bo,bA,bn,bz],by simp [al,ak,av,ar,au,aq,aH,aK,aG,aJ,aF,aI,bq,bC,bp,bB,bo,bA,bn,bz],?_⟩
    simp only [ax]
    exact aA (s':={ s' with deep:=IntKind.i64.wrap (s'.deep - 1) }) (by simp [al,ak,av,ar,au,aq,aH,aK,aG,aJ,aF,aI,bq,bC,bp,bB,bo,bA,bn,bz]) k
   have d2:dT.deep=s.deep+1:=((hG l).expr _ _ r dT er).trans d0
   rw [aE] at k
   simp (maxSteps:=1000000) only [cz,hp,al,ak,av,ar,au,aq,aH,aK,aG,aJ,aF,aI,bq,bC,bp,bB,bo,bA,bn,bz,ao,aw,ah,aj,aD,aU,aW,ag,ae,ab,af,ax,aC,an,aB,seval]
   refine .inl ⟨l,dT,i1,.mk 26 0 y 0 [n,r],by simp only [aR,cj,bt],hl.lo,(by simp [al,ak,av,ar,au,aq,aH,aK,aG,aJ,aF,aI,bq,bC,bp,bB,bo,bA,bn,bz]),jV,ay (fun n2 ez en k mQ=>?_) (fun a e k s'=>?_) k⟩
   case refine_2=>
    intro σ hσ _
    simp only [bu]
    rw [hσ]
    show eJ yc [⟨.func 100,[.ptr i3 1 0],[]⟩] _ _ _
    simp only [af,ab,List.nil_append]
    refine ⟨rfl,i3,i1,l,s',rfl,by simp [al,ak,av,ar,au,aq,aH,aK,aG,aJ,aF,aI,bq,bC,bp,bB,bo,bA,bn,bz],by simp [al,ak,av,ar,au,aq,aH,aK,aG,aJ,aF,aI,bq,bC,bp,bB,bo,bA,bn,bz],?_⟩
    simp only [ax]
    exact aA (s':={ s' with deep:=IntKind.i64.wrap (s'.deep - 1) }) (by simp [al,ak,av,ar,au,aq,aH,aK,aG,aJ,aF,aI,bq,bC,bp,bB,bo,bA,bn,bz]) k
   have d3:ez.deep=s.deep+1:=(bT n2 ez en).trans d2
   simp (maxSteps:=1000000) only [cz,hp,al,ak,av,ar,au,aq,aH,aK,aG,aJ,aF,aI,bq,bC,bp,bB,bo,bA,bn,bz,ao,aw,ah,aj,aD,aU,aW,ag,ae,ab,af,ax,aC,an,aB,seval]
   refine hQ (j,n2,ez) _ _ ⟨mQ,d3,k⟩ (by simp only [an,aB,seval]) ?_ (by simp only; omega)
   simp only
   exact aa.dL (by repeat' first | with_reducible exact aa.bF | with_reducible exact aa.bI | refine aa.cL (by simp [al,ak,av,ar,au,aq,aH,aK,aG,aJ,aF,aI,bq,bC,bp,bB,bo,bA,bn,bz]) ?_ | refine aa.cR (by simp [al,ak,av,ar,au,aq,aH,aK,aG,aJ,aF,aI,bq,bC,bp,bB,bo,bA,bn,bz]) ?_)
end
end Go.Proofs.YtpklkpkfgmoghaaGreatDoor.Zz
namespace Go.Proofs.YtpklkpkfgmoghaaGreatDoor.Zz
noncomputable section
def acW:b7:=⟨⟨[(3,2)],[(1,1),(2,1),(3,2),(4,1),(6,1),(7,3)],[],[((7,3),[(.t 3)])],[((7,1),(.t 3))],[]⟩,[(7,[0,1,2,3,4,5,6,7])],[],false⟩
def ZE:dA:=
 sO [oA 2]
 (.seq (sO [oM 0 4,
 oC 84 [.t 4] 5]
 (.defer (.t 5) []))
 (sO [oM 0 6,
 oC 60 [.t 6,kS [123]] 7]
 (sO [oM 0 8,
 oP (.build zN [(0,1,(kI 6))]) 9,
 oQ (.callR (.f 35) [(.t 8),(.t 9)]) 10,
 oA 3,
 oS 5 3 10]
 (.seq (.block 0 (.loop (.seq (sO [oM 0 11,
 oC 57 [.t 11,kS [125]] 12,
 oP (.un .not (.t 12)) 13]
 (.cond (.t 13)
 (.skip)
 (.exit 0)))
 (.block 1 (.seq (sO [oF 4 3 14,
 oL 14 15,
 oZ 15 16,
 oH .geq 16 32 17]
 (.cond (.t 17)
 (.ops [oM 0 18,
 oC 38 [.t 18,kI 3] 19])
 (.skip)))
 (.fq 20 [oF 4 3 20,
 oQ (.cK none (.t 20) (.t 3)) 21,
 oM 0 22,
 oQ (.callNe (.f 85) [(.t 22)] [(.t 3)]) 23,
 oP (.buildSlice 5 zN 1 [(0,(.t 23))] false) 24,
 oQ (.append 5 64 false (.t 21) (.t 24)) 25,
 oF 4 3 26,
 oS 1 26 25]))))))
 (sO [oJ 5 3 27,
 oS 5 2 27]
 (.ret))))))
theorem aab:bE Tryz.prog 62 acW=some (ZE,[.cell 2 (some 5)],28):=by kernel_rfl
def ky (n:Nd) (r:Nat):List D:=match n with
 | .mk k t s m l=>[.int .i64 k,.int .i64 t,.str s,.int .i64 m,kC r l.length]
def gx (h:aa) (n:Nd) (r:Nat):aa:=if n.bM=[] then h else h.set r (.row 5 (n.bM.length+2) (Nd.cN n.bM) false)
theorem qM {l:List Tok} {n n':Nd} {s s':PS} (h:dB l n s=.ok n' s'):n'=n:=by
 unfold dB at h
 split at h
 ·cases h
 ·cases h; rfl
theorem mG {α:Type} {b:Bool} {p q:PR α} {K:α→PS→Prop} {E:Int→Int→Prop} (hb:b=false) (h:jA (bif b then p else q) K E):jA q K E:=by subst hb; exact h
theorem iv {α:Type} {b:Bool} {p q:PR α} {K:α→PS→Prop} {E:Int→Int→Prop} (hb:b=true) (h:jA (bif b then p else q) K E):jA p K E:=by subst hb; exact h
theorem QX (G:List Tok→dU) (hG:∀l,mW (G l)) (hT:(xx G).ok Tryz.prog) (l:List Tok) (hl:uw l) (s:PS) (i1:Nat) (ok:cB l s) (K0:Nd→PS→Prop) (E0:Int→Int→Prop) (hw:jA (rR l (G l) s) (fun x s'=>cB l s'→K0 x s') E0):aO Tryz.prog 62 [.ptr i1 1 0] (aa.emp.set i1 (bV l s)) (ly cz l i1 K0 E0):=by
 refine aO.c8 hT (dc:=yc) vf (by kernel_rfl) aab (by simp) ?_
 rw [dz]
 have hp:=fun (h:aa) (j:Nat) (B C:cI)=>push_id (id:=i1) h j B C
 have w1:IntKind.i64.wrap (s.deep+1)=s.deep+1:=wrap_i64 (by have:=ok.d0; omega) (by have:=ok.d1; omega)
 unfold rR kP TA at hw
 rw [aE] at hw
 simp (maxSteps:=1000000) only [ZE,D0,bV,aC,an,aB,seval]
 intro i2 al ak i3 av ar au aq
 by_cases c:s.deep+1>40
 ·have g:(s.deep+1>40)=True:=eq_true c
  rw [if_pos c] at hw
  simp (maxSteps:=1000000) only [g,w1,hp,al,ak,av,ar,au,aq,ao,aw,ah,aj,aD,aU,aW,ag,ae,ab,af,ax,aC,an,aB,seval]
  refine ⟨l,{ s with deep:=s.deep+1 },i1,3,rfl,by simp [bV,al,ak,av,ar,au,aq],ok.at_,?_⟩
  simp only [Dt,bu,true_and]
  refine ⟨rfl,?_⟩
  show eJ yc [] (some (mN _ 3)) _ _
  simp only [ab,ax]
  exact aA (s':={ s with deep:=s.deep+1 }) (by simp [bV,al,ak,av,ar,au,aq]) hw
 ·have g:(s.deep+1>40)=False:=eq_false c
  rw [if_neg c,b_] at hw
  have QO:=vj ok c
  simp only [Gm,aE,b_] at hw
  simp (maxSteps:=1000000) only [g,w1,hp,al,ak,av,ar,au,aq,ao,aw,ah,aj,aD,aU,aW,ag,ae,ab,af,ax,aC,an,aB,seval]
  generalize CT:({ s with deep:=s.deep+1 }:PS)=sd at*
  have QH:sd.deep=s.deep+1:=by rw [←CT]
  refine ⟨l,sd,i1,[123],rfl,hl.lo,by rw [←CT]; simp [bV,al,ak,av,ar,au,aq],QO,ay (fun _ bZ e1 k gg=>?_) (fun a e k s'=>?_) hw⟩
  case refine_2=>
   simp only [bu,af,ab,List.nil_append,List.append_nil]
   refine ⟨rfl,i3,i1,l,s',rfl,by simp [al,ak,av,ar,au,aq],by simp [al,ak,av,ar,au,aq],?_⟩
   simp only [ax]
   exact aA (s':={ s' with deep:=IntKind.i64.wrap (s'.deep - 1) }) (by simp [al,ak,av,ar,au,aq]) k
  have d1:bZ.deep=s.deep+1:=(cO _ _ e1).trans QH
  simp (maxSteps:=1000000) only [uG,hp,al,ak,av,ar,au,aq,ao,aw,ah,aj,aD,aU,aW,ag,ae,ab,af,ax,aC,an,aB,seval]
  refine .inr ⟨l,bZ,i1,.mk 6 0 [] 0 [],rfl,hl.lo,(by simp [al,ak,av,ar,au,aq]),gg,ay (fun n dT e2 k jV=>?_) (fun a e k s'=>?_) k⟩
  case refine_2=>
   simp only [bu,af,ab,List.nil_append,List.append_nil]
   refine ⟨rfl,i3,i1,l,s',rfl,by simp [al,ak,av,ar,au,aq],by simp [al,ak,av,ar,au,aq],?_⟩
   simp only [ax]
   exact aA (s':={ s' with deep:=IntKind.i64.wrap (s'.deep - 1) }) (by simp [al,ak,av,ar,au,aq]) k
  have d2:dT.deep=s.deep+1:=(bT _ _ e2).trans d1
  have hn:=qM e2
  subst hn
  simp (maxSteps:=1000000) only [vk,hp,al,ak,av,ar,au,aq,ao,aw,ah,aj,aD,aU,aW,ag,ae,ab,af,ax,aC,an,aB,seval]
  intro i4 aH aK aG aJ aF aI
  refine sA (X:=Nat×Nd×Nat×PS) [⟨.func 100,[.ptr i3 1 0],[]⟩] (fun z=>[(0,.ptr i1 1 0),(2,.ptr i2 1 0),(3,.ptr i4 1 0)])
   (fun z=>gx ((((aa.emp.set i1 (bV l z.2.2.2)).set i2 (.cells [.int .i64 0,.int .i64 0,.str [],.int .i64 0,.a_])).set i3 (.cells [.ptr i1 1 0])).set i4 (.cells (ky z.2.1 z.2.2.1))) z.2.1 z.2.2.1) (fun z=>z.1)
   (fun z=>cB l z.2.2.2∧z.2.2.2.deep=s.deep+1∧jA (ll l (G l) z.1 z.2.1 z.2.2.2) (fun x s'=>cB l { s' with deep:=s'.deep - 1 }→K0 x { s' with deep:=s'.deep - 1 }) E0∧(z.2.1.bM≠[]→¬z.2.2.1=i1∧¬z.2.2.1=i2∧¬z.2.2.1=i3∧¬z.2.2.1=i4))
   (l.length+1,.mk 6 0 [] 0 [],0,dT) ⟨jV,d2,k,fun h=>absurd rfl h⟩ (by simp only [an,aB,seval]) (aa.aS _) ?_
  clear hw CT
  rintro ⟨j,n,r,gW⟩ Q ⟨nI,d0,hw,hr⟩ hQ
  simp only at nI d0 hw hr hQ ⊢
  cases j with
  | zero=>exact hw.elim
  | succ j=>
  unfold ll at hw
  rw [aE] at hw
  obtain ⟨nk,nt,ns,nm,nl⟩:=n
  simp only [Nd.bM] at hw hr
  by_cases sU:nl=[]
  ·subst sU
   have hH:∀h:aa,gx h (.mk nk nt ns nm []) r=h:=fun h=>if_pos rfl
   rw [hH,ky,List.length_nil,fN]
   simp (maxSteps:=1000000) only [hp,al,ak,av,ar,au,aq,aH,aK,aG,aJ,aF,aI,ao,aw,ah,aj,aD,aU,aW,ag,ae,ab,af,ax,aC,an,aB,seval]
   refine ⟨l,gW,i1,[125],rfl,hl.lo,(by simp [al,ak,av,ar,au,aq,aH,aK,aG,aJ,aF,aI]),nI,ay (fun b bZ e1 k gg=>?_) (fun a e k s'=>?_) hw⟩
   case refine_2=>
    simp only [bu,af,ab,List.nil_append,List.append_nil]
    refine ⟨rfl,i3,i1,l,s',rfl,by simp [al,ak,av,ar,au,aq,aH,aK,aG,aJ,aF,aI],by simp [al,ak,av,ar,au,aq,aH,aK,aG,aJ,aF,aI],?_⟩
    simp only [ax]
    exact aA (s':={ s' with deep:=IntKind.i64.wrap (s'.deep - 1) }) (by simp [al,ak,av,ar,au,aq,aH,aK,aG,aJ,aF,aI]) k
   have d1:bZ.deep=s.deep+1:=(bD _ _ e1).trans d0
   cases b with
   | true=>
    rw [cond_true,b_] at k
    have k:=k (hO ok gg d1).1
    have wd:=(hO ok gg d1).2
    simp (maxSteps:=1000000) only [hp,al,ak,av,ar,au,aq,aH,aK,aG,aJ,aF,aI,ao,aw,ah,aj,aD,aU,aW,ag,ae,ab,af,ax,aC,an,aB,seval]
    refine ⟨rfl,i3,i1,l,bZ,rfl,(by simp [al,ak,av,ar,au,aq,aH,aK,aG,aJ,aF,aI]),(by simp [al,ak,av,ar,au,aq,aH,aK,aG,aJ,aF,aI]),?_⟩
    rw [wd]
    simp (maxSteps:=1000000) only [hp,al,ak,av,ar,au,aq,aH,aK,aG,aJ,aF,aI,ao,aw,ah,aj,aD,aU,aW,ag,ae,ab,af,ax,aC,an,aB,seval]
    exact fK (x:=.mk nk nt ns nm []) (s':={ bZ with deep:=bZ.deep - 1 }) (by rw [cz,aR,bt]) (by simp [al,ak,av,ar,au,aq,aH,aK,aG,aJ,aF,aI]) k
   | false=>
    rw [cond_false] at k
    replace k:jA (((G l).stmt bZ).bind fun x s=>ll l (G l) j ((Nd.mk nk nt ns nm []).c_ x) s) (fun x s'=>cB l { s' with deep:=s'.deep - 1 }→K0 x { s' with deep:=s'.deep - 1 }) E0:=k
    rw [aE] at k
    simp (maxSteps:=1000000) only [hp,al,ak,av,ar,au,aq,aH,aK,aG,aJ,aF,aI,ao,aw,ah,aj,aD,aU,aW,ag,ae,ab,af,ax,aC,an,aB,seval]
    refine ⟨l,bZ,i1,rfl,hl,(by simp [al,ak,av,ar,au,aq,aH,aK,aG,aJ,aF,aI]),gg,ay (fun x dT e2 k jV=>?_) (fun a e k s'=>?_) k⟩
    case refine_2=>
     intro σ hσ _
     simp only [bu]
     rw [hσ]
     show eJ yc [⟨.func 100,[.ptr i3 1 0],[]⟩] _ _ _
     simp only [af,ab,List.nil_append]
     refine ⟨rfl,i3,i1,l,s',rfl,by simp [al,ak,av,ar,au,aq,aH,aK,aG,aJ,aF,aI],by simp [al,ak,av,ar,au,aq,aH,aK,aG,aJ,aF,aI],?_⟩
     simp only [ax]
     exact aA (s':={ s' with deep:=IntKind.i64.wrap (s'.deep - 1) }) (by simp [al,ak,av,ar,au,aq,aH,aK,aG,aJ,aF,aI]) k
    have d2:dT.deep=s.deep+1:=((hG l).stmt _ x dT e2).trans d1
    simp (maxSteps:=1000000) only [cz,hp,al,ak,av,ar,au,aq,aH,aK,aG,aJ,aF,aI,ao,aw,ah,aj,aD,aU,aW,ag,ae,ab,af,ax,aC,an,aB,seval]
    intro i5 bq bC bp bB bo bA bn bz
    simp (maxSteps:=1000000) only [hp,al,ak,av,ar,au,aq,aH,aK,aG,aJ,aF,aI,bq,bC,bp,bB,bo,bA,bn,bz,ao,aw,ah,aj,aD,aU,aW,ag,ae,ab,af,ax,aC,an,aB,seval]
    refine hQ (j,.mk nk nt ns nm [x],i5,dT) _ _ ⟨jV,d2,k,fun _=>⟨bn,bo,bp,bq⟩⟩ (by simp only [an,aB,seval]) ?_ (by simp only; omega)
    simp only [gx,Nd.bM,ky,List.length_cons,List.length_nil,cj,bt,reduceCtorEq,if_false,cp (Nat.succ_ne_zero 0)]
    exact aa.dL (by repeat' first | with_reducible exact aa.bF | with_reducible exact aa.bI | refine aa.cL (by simp [al,ak,av,ar,au,aq,aH,aK,aG,aJ,aF,aI,bq,bC,bp,bB,bo,bA,bn,bz]) ?_ | refine aa.cR (by simp [al,ak,av,ar,au,aq,aH,aK,aG,aJ,aF,aI,bq,bC,bp,bB,bo,bA,bn,bz]) ?_)
  ·obtain ⟨i5,rfl⟩:∃q,q=r:=⟨r,rfl⟩
   obtain ⟨bn,bo,bp,bq⟩:=hr sU
   have bz:¬i1=i5:=fun e=>bn e.symm
   have bA:¬i2=i5:=fun e=>bo e.symm
   have bB:¬i3=i5:=fun e=>bp e.symm
   have bC:¬i4=i5:=fun e=>bq e.symm
   have hH:∀h:aa,gx h (.mk nk nt ns nm nl) i5=h.set i5 (.row 5 (nl.length+2) (Nd.cN nl) false):=fun h=>if_neg sU
   have Fm:nl.length≠0:=fun e=>sU (List.length_eq_zero_iff.1 e)
   have tk:(Nd.cN nl).take nl.length=Nd.cN nl:=List.take_of_length_le (by rw [aV]; omega)
   rw [hH,ky,cp Fm]
   simp (maxSteps:=1000000) only [hp,al,ak,av,ar,au,aq,aH,aK,aG,aJ,aF,aI,bq,bC,bp,bB,bo,bA,bn,bz,ao,aw,ah,aj,aD,aU,aW,ag,ae,ab,af,ax,aC,an,aB,seval]
   refine ⟨l,gW,i1,[125],rfl,hl.lo,(by simp [al,ak,av,ar,au,aq,aH,aK,aG,aJ,aF,aI,bq,bC,bp,bB,bo,bA,bn,bz]),nI,ay (fun b bZ e1 k gg=>?_) (fun a e k s'=>?_) hw⟩
   case refine_2=>
    simp only [bu,af,ab,List.nil_append,List.append_nil]
    refine ⟨rfl,i3,i1,l,s',rfl,by simp [al,ak,av,ar,au,aq,aH,aK,aG,aJ,aF,aI,bq,bC,bp,bB,bo,bA,bn,bz],by simp [al,ak,av,ar,au,aq,aH,aK,aG,aJ,aF,aI,bq,bC,bp,bB,bo,bA,bn,bz],?_⟩
    simp only [ax]
    exact aA (s':={ s' with deep:=IntKind.i64.wrap (s'.deep - 1) }) (by simp [al,ak,av,ar,au,aq,aH,aK,aG,aJ,aF,aI,bq,bC,bp,bB,bo,bA,bn,bz]) k
   have d1:bZ.deep=s.deep+1:=(bD _ _ e1).trans d0
   cases b with
   | true=>
    rw [cond_true,b_] at k
    have k:=k (hO ok gg d1).1
    have wd:=(hO ok gg d1).2
    simp (maxSteps:=1000000) only [hp,al,ak,av,ar,au,aq,aH,aK,aG,aJ,aF,aI,bq,bC,bp,bB,bo,bA,bn,bz,ao,aw,ah,aj,aD,aU,aW,ag,ae,ab,af,ax,aC,an,aB,seval]
    refine ⟨rfl,i3,i1,l,bZ,rfl,(by simp [al,ak,av,ar,au,aq,aH,aK,aG,aJ,aF,aI,bq,bC,bp,bB,bo,bA,bn,bz]),(by simp [al,ak,av,ar,au,aq,aH,aK,aG,aJ,aF,aI,bq,bC,bp,bB,bo,bA,bn,bz]),?_⟩
    rw [wd]
    simp (maxSteps:=1000000) only [aV,tk,hp,al,ak,av,ar,au,aq,aH,aK,aG,aJ,aF,aI,bq,bC,bp,bB,bo,bA,bn,bz,ao,aw,ah,aj,aD,aU,aW,ag,ae,ab,af,ax,aC,an,aB,seval]
    exact fK (x:=.mk nk nt ns nm nl) (s':={ bZ with deep:=bZ.deep - 1 }) (by rw [cz,aR]) (by simp [al,ak,av,ar,au,aq,aH,aK,aG,aJ,aF,aI,bq,bC,bp,bB,bo,bA,bn,bz]) k
   | false=>
    rw [cond_false] at k
    by_cases jR:nl.length≥32
    ·have g3:((nl.length:Int)≥32)=True:=eq_true (by omega)
     have k:jA (ib l 3 bZ:PR Nd) (fun x s'=>cB l { s' with deep:=s'.deep - 1 }→K0 x { s' with deep:=s'.deep - 1 }) E0:=by
      exact iv (by simpa using jR) k
     simp (maxSteps:=1000000) only [g3,aV,hp,al,ak,av,ar,au,aq,aH,aK,aG,aJ,aF,aI,bq,bC,bp,bB,bo,bA,bn,bz,ao,aw,ah,aj,aD,aU,aW,ag,ae,ab,af,ax,aC,an,aB,seval]
     intro _
     refine ⟨l,bZ,i1,3,rfl,(by simp [al,ak,av,ar,au,aq,aH,aK,aG,aJ,aF,aI,bq,bC,bp,bB,bo,bA,bn,bz]),gg.at_,?_⟩
     simp only [bu]
     show eJ yc [⟨.func 100,[.ptr i3 1 0],[]⟩] _ _ _
     simp only [af,ab,List.nil_append]
     refine ⟨rfl,i3,i1,l,bZ,rfl,(by simp [al,ak,av,ar,au,aq,aH,aK,aG,aJ,aF,aI,bq,bC,bp,bB,bo,bA,bn,bz]),(by simp [al,ak,av,ar,au,aq,aH,aK,aG,aJ,aF,aI,bq,bC,bp,bB,bo,bA,bn,bz]),?_⟩
     simp only [ax]
     exact aA (s':={ bZ with deep:=IntKind.i64.wrap (bZ.deep - 1) }) (by simp [al,ak,av,ar,au,aq,aH,aK,aG,aJ,aF,aI,bq,bC,bp,bB,bo,bA,bn,bz]) k
    ·have g3:((nl.length:Int)≥32)=False:=eq_false (by omega)
     have k:jA (((G l).stmt bZ).bind fun x s=>ll l (G l) j ((Nd.mk nk nt ns nm nl).c_ x) s) (fun x s'=>cB l { s' with deep:=s'.deep - 1 }→K0 x { s' with deep:=s'.deep - 1 }) E0:=by
      exact mG (by simpa using jR) k
     rw [aE] at k
     simp (maxSteps:=1000000) only [g3,aV,hp,al,ak,av,ar,au,aq,aH,aK,aG,aJ,aF,aI,bq,bC,bp,bB,bo,bA,bn,bz,ao,aw,ah,aj,aD,aU,aW,ag,ae,ab,af,ax,aC,an,aB,seval]
     intro _
     refine ⟨l,bZ,i1,rfl,hl,(by simp [al,ak,av,ar,au,aq,aH,aK,aG,aJ,aF,aI,bq,bC,bp,bB,bo,bA,bn,bz]),gg,ay (fun x dT e2 k jV=>?_) (fun a e k s'=>?_) k⟩
     case refine_2=>
      intro σ hσ _
      simp only [bu]
      rw [hσ]
      show eJ yc [⟨.func 100,[.ptr i3 1 0],[]⟩] _ _ _
      simp only [af,ab,List.nil_append]
      refine ⟨rfl,i3,i1,l,s',rfl,by simp [al,ak,av,ar,au,aq,aH,aK,aG,aJ,aF,aI,bq,bC,bp,bB,bo,bA,bn,bz],by simp [al,ak,av,ar,au,aq,aH,aK,aG,aJ,aF,aI,bq,bC,bp,bB,bo,bA,bn,bz],?_⟩
      simp only [ax]
      exact aA (s':={ s' with deep:=IntKind.i64.wrap (s'.deep - 1) }) (by simp [al,ak,av,ar,au,aq,aH,aK,aG,aJ,aF,aI,bq,bC,bp,bB,bo,bA,bn,bz]) k
     have d2:dT.deep=s.deep+1:=((hG l).stmt _ x dT e2).trans d1
     simp (maxSteps:=1000000) only [cz,aV,hp,al,ak,av,ar,au,aq,aH,aK,aG,aJ,aF,aI,bq,bC,bp,bB,bo,bA,bn,bz,ao,aw,ah,aj,aD,aU,aW,ag,ae,ab,af,ax,aC,an,aB,seval]
     refine ⟨by omega,hQ (j,.mk nk nt ns nm (nl++[x]),i5,dT) _ _ ⟨jV,d2,k,fun _=>⟨bn,bo,bp,bq⟩⟩ (by simp only [an,aB,seval]) ?_ (by simp only; omega)⟩
     have iw:nl++[x]≠[]:=by simp
     simp only [gx,Nd.bM,ky,List.length_append,List.length_cons,List.length_nil,iw,if_false,←jY,cp (show nl.length+(0+1)≠0 by omega)]
     rw [show nl.length+2+1=nl.length+(0+1)+2 by omega]
     exact aa.dL (by repeat' first | with_reducible exact aa.bF | with_reducible exact aa.bI | refine aa.cL (by simp [al,ak,av,ar,au,aq,aH,aK,aG,aJ,aF,aI,bq,bC,bp,bB,bo,bA,bn,bz]) ?_ | refine aa.cR (by simp [al,ak,av,ar,au,aq,aH,aK,aG,aJ,aF,aI,bq,bC,bp,bB,bo,bA,bn,bz]) ?_)
end
end Go.Proofs.YtpklkpkfgmoghaaGreatDoor.Zz
