/- Contracts: parts of expressions. -/
import Derived.Test.YtpklkpkfgmoghaaGreatDoorZP8
set_option linter.unnecessarySimpa false
set_option linter.unusedVariables false
set_option linter.unusedSimpArgs false
set_option maxRecDepth 20000
namespace Go.Proofs.YtpklkpkfgmoghaaGreatDoor.Zz
noncomputable section
def ait:cm:=⟨⟨[],[(4,2),(5,1),(6,3),(6,6),(8,1),(14,3),(15,1),(16,3),(16,6),(17,1),(20,1),(21,1),(22,1),(24,1),(25,1),(26,2),(27,3)],[],[],[],[]⟩,[],[],false⟩
def acb:dU:=
 sO [oA 2]
 (.seq (sO [oP (.buildSlice 1 [(.str [])] 2 [(0,(kS [45])),(1,(kS [33]))] false) 12,
 oZ 12 13,
 oP (.cB (kI 0)) 14]
 (.block 0 (.loop (sO [oE .lss 14 13 15]
 (.seq (.cond (.t 15)
 (.skip)
 (.exit 0))
 (.seq (.block 1 (sO [oI 1 12 14 16,
 oL 16 17,
 oM 17 4]
 (sO [oM 0 18,
 oM 4 19,
 oC 57 [.t 18,.t 19] 20]
 (.cond (.t 20)
 (.seq (sO [oM 0 21,
 oC 84 [.t 21] 22]
 (.defer (.t 22) []))
 (sO [oM 0 23,
 oM 4 24,
 oM 0 25,
 oC 119 [.t 25] 26,
 oP (.buildSlice 5 zN 1 [(0,(.t 26))] false) 27,
 oP (.build zN [(0,1,(kI 25)),(2,1,(.t 24)),(4,1,(.t 27))]) 28,
 oC 35 [.t 23,.t 28] 29,
 oS 5 2 29]
 (.ret)))
 (.skip)))))
 (.ops [oH .add 14 1 30,
 oM 30 14])))))))
 (.seq (sO [oM 0 32,
 oC 81 [.t 32] 33,
 oM 33 31,
 oX 31 0 34,
 oX 31 1 35,
 oA 5,
 oS 5 5 34,
 oM 35 6]
 (sO [oM 6 36]
 (.cond (.t 36)
 (sO [oJ 5 5 37,
 oS 5 2 37]
 (.ret))
 (.skip))))
 (.seq (sO [oP (.buildSlice 1 [(.int .i64 0)] 2 [(0,(kI 1)),(1,(kI 2))] false) 38,
 oZ 38 39,
 oP (.cB (kI 0)) 40]
 (.block 2 (.loop (sO [oE .lss 40 39 41]
 (.seq (.cond (.t 41)
 (.skip)
 (.exit 2))
 (.seq (.block 3 (sO [oI 1 38 40 42,
 oL 42 43,
 oM 43 8]
 (sO [oM 0 44,
 oM 8 45,
 oD 41 [.t 45] 46,
 oC 57 [.t 44,.t 46] 47]
 (.cond (.t 47)
 (sO [oM 0 48,
 oC 60 [.t 48,kS [40]] 49]
 (sO [oM 0 50,
 oM 8 51,
 oM 0 52,
 oC 102 [.t 52,kI 0] 53,
 oP (.buildSlice 5 zN 1 [(0,(.t 53))] false) 54,
 oP (.build zN [(0,1,(kI 27)),(1,1,(.t 51)),(4,1,(.t 54))]) 55,
 oC 35 [.t 50,.t 55] 56,
 oA 9,
 oS 5 9 56]
 (sO [oM 0 57,
 oC 60 [.t 57,kS [41]] 58]
 (sO [oJ 5 9 59,
 oS 5 2 59]
 (.ret)))))
 (.skip)))))
 (.ops [oH .add 40 1 60,
 oM 60 40])))))))
 (.seq (sO [oM 0 61,
 oC 57 [.t 61,kS [40]] 62]
 (.cond (.t 62)
 (sO [oM 0 63,
 oC 102 [.t 63,kI 0] 64,
 oA 10,
 oS 5 10 64]
 (sO [oM 0 65,
 oC 60 [.t 65,kS [41]] 66]
 (sO [oJ 5 10 67,
 oS 5 2 67]
 (.ret))))
 (.skip)))
 (sO [oM 0 68,
 oC 58 [.t 68] 69,
 oM 69 11]
 (.seq (sO [oM 0 70,
 oC 37 [.t 70,kS [40]] 71]
 (.cond (.t 71)
 (sO [oM 0 72,
 oM 11 73,
 oC 104 [.t 72,.t 73] 74,
 oS 5 2 74]
 (.ret))
 (.skip)))
 (sO [oM 0 75,
 oM 11 76,
 oP (.build zN [(0,1,(kI 23)),(2,1,(.t 76))]) 77,
 oC 35 [.t 75,.t 77] 78,
 oS 5 2 78]
 (.ret))))))))
theorem afH:bA Tryz.prog 119 ait=some (acb,[.cell 2 (some 5)],79):=by kernel_rfl
def unA (l:List Tok) (g:fg) (s:PS):PR Nd:=(eC l [40] s).bind fun b s=>bif b then (g.expr 0 s).bind fun n s=>(gP l [41] s).bind fun _ s=>.ok n s else
 (ko l s).bind fun x s=>bif oK l [40] s then g.call x s else eJ l (.mk 23 0 x 0 []) s
def unB (l:List Tok) (g:fg) (s:PS):PR Nd:=(eC l ib s).bind fun b s=>bif b then sR l g 2 s else unA l g s
def unC (l:List Tok) (g:fg) (s:PS):PR Nd:=(eC l pS s).bind fun b s=>bif b then sR l g 1 s else unB l g s
def unD (l:List Tok) (g:fg) (s:PS):PR Nd:=(nS l s).bind fun x s=>bif x.2 then .ok x.1 s else unC l g s
def unE (l:List Tok) (g:fg) (s:PS):PR Nd:=(eC l [33] s).bind fun b s=>bif b then Z4 l g [33] s else unD l g s
def unF (l:List Tok) (g:fg) (s:PS):PR Nd:=(eC l [45] s).bind fun b s=>bif b then Z4 l g [45] s else unE l g s
theorem Yq (l:List Tok) (g:fg):rM l g=unF l g:=rfl
def unI (l:List Tok) (g:fg):Nat→PS→PR Nd
 | 0=>unF l g
 | 1=>unE l g
 | _=>unD l g
def unJ (l:List Tok) (g:fg):Nat→PS→PR Nd
 | 0=>unC l g
 | 1=>unB l g
 | _=>unA l g
theorem Om {l:List Tok} {x:List UInt8} {s cM:PS} (h:eC l x s=.ok false cM):cM=s:=by
 unfold eC at h
 cases c:oK l x s with
 | true=>rw [c] at h; cases h
 | false=>rw [c] at h; cases h; rfl
set_option maxHeartbeats 1000000 in
theorem abe (G:List Tok→fg) (hG:∀l,qh (G l)) (hT:(BW G).ok Tryz.prog) (l:List Tok) (hl:yC l) (s:PS) (i1:Nat) (ok:dy l s) (K0:Nd→PS→Prop) (E0:Int→Int→Prop) (hw:lg (rM l (G l) s) (fun x s'=>dy l s'→K0 x s') E0):aH Tryz.prog 119 [.ptr i1 1 0] (aa.emp.set i1 (cK l s)) (nV dq l i1 K0 E0):=by
 refine aH.cv hT (dc:=CB) zP (by kernel_rfl) afH (by simp) ?_
 rw [cA]
 have hp:=fun (h:aa) (j:Nat) (B C:cJ)=>push_id (id:=i1) h j B C
 rw [Yq] at hw
 simp (maxSteps:=1000000) only [acb,hp,hp,au,aC,ah,ao,aQ,bj,bm,af,ae,ab,ag,av,aM,aq,aA,seval]
 intro i2 an ak
 refine cj (X:=Nat) (fun i=>[(0,.ptr i1 1 0),(2,.ptr i2 1 0),(12,.sl [[.str [45]],[.str [33]]]),(13,.int .i64 2),(14,.int .i64 i)]) (fun _=>(aa.emp.set i1 (cK l s)).set i2 (.cells [.int .i64 0,.int .i64 0,.str [],.int .i64 0,.aZ])) (fun i=>3 - i)
  (fun i=>i≤2∧lg (unI l (G l) i s) (fun x s'=>dy l s'→K0 x s') E0) 0 ⟨by omega,hw⟩ (by simp only [aq,aA,seval]) (aa.aj _) ?_
 clear hw
 rintro i Q ⟨hi,hw⟩ hQ
 by_cases c0p:i<2
 ·have g0:((i:Int)<2)=True:=eq_true (by omega)
  have wi:IntKind.i64.wrap ((i:Int)+1)=((i+1:Nat):Int):=cp (by omega)
  obtain ⟨x,hx,hw⟩:∃x,([[45],[33]]:List (List UInt8))[i]? =some x∧lg ((eC l x s).bind fun b s=>bif b then Z4 l (G l) x s else unI l (G l) (i+1) s) (fun x s'=>dy l s'→K0 x s') E0:=by
   rcases (by omega:i=0∨i=1) with rfl | rfl
   ·exact ⟨_,rfl,hw⟩
   ·exact ⟨_,rfl,hw⟩
  have ie:∀(K:D→aa→Prop) (h:aa),fx 1 K h [[.str [45]],[.str [33]]] (i:Int)=K (.cO [.str x] 0) h:=fun K h=>by
   have:=n9 (K:=K) (h:=h) (l:=([[45],[33]]:List (List UInt8))) (i:=(i:Int)) (f:=fun b:List UInt8=>[D.str b]) (sz:=1) fun _=>rfl
   refine Eq.trans this (propext ⟨fun hh=>hh.2 x (by simpa using hx),fun hh=>⟨⟨by omega,by simp; omega⟩,fun y hy=>?_⟩⟩)
   rw [Int.toNat_natCast,hx] at hy
   cases hy
   exact hh
  rw [aR] at hw
  simp (maxSteps:=1000000) only [g0,ie,hp,an,ak,au,aC,ah,ao,aQ,bj,bm,af,ae,ab,ag,av,aM,aq,aA,seval]
  refine ⟨l,s,i1,x,rfl,hl.lo,(by simp [an,ak]),ok,aF (fun b cM e1 k iW=>?_) (fun a e k s'=>?_) hw⟩
  case refine_2=>
   simp only [aX,ab,av]
   exact aI (s':=s') (by simp [an,ak]) k
  cases b with
  | false=>
   have:=Om e1
   subst this
   rw [cond_false] at k
   simp (maxSteps:=1000000) only [wi,hp,an,ak,au,aC,ah,ao,aQ,bj,bm,af,ae,ab,ag,av,aM,aq,aA,seval]
   exact hQ (i+1) _ _ ⟨by omega,k⟩ (by simp only [aq,aA,seval]) (aa.aj _) (by omega)
  | true=>
   rw [cond_true] at k
   have w1:IntKind.i64.wrap (cM.deep+1)=cM.deep+1:=wrap_i64 (by have:=iW.d0; omega) (by have:=iW.d1; omega)
   unfold Z4 nh pIn at k
   rw [aR] at k
   simp (maxSteps:=1000000) only [IW,cK,hp,an,ak,au,aC,ah,ao,aQ,bj,bm,af,ae,ab,ag,av,aM,aq,aA,seval]
   intro i3 ax aw az ay
   by_cases c:cM.deep+1>40
   ·have g:(cM.deep+1>40)=True:=eq_true c
    rw [if_pos c] at k
    simp (maxSteps:=1000000) only [g,w1,hp,an,ak,ax,aw,az,ay,au,aC,ah,ao,aQ,bj,bm,af,ae,ab,ag,av,aM,aq,aA,seval]
    refine ⟨l,{ cM with deep:=cM.deep+1 },i1,3,rfl,by simp [cK,an,ak,ax,aw,az,ay],iW.at_,?_⟩
    simp only [Im,aX,true_and]
    refine ⟨rfl,?_⟩
    show gb CB [] (some (p5 _ 3)) _ _
    simp only [ab,av]
    exact aI (s':={ cM with deep:=cM.deep+1 }) (by simp [cK,an,ak,ax,aw,az,ay]) k
   ·have g:(cM.deep+1>40)=False:=eq_false c
    rw [if_neg c,cU] at k
    have YI:=zU iW c
    simp only [Mc,aR,cU] at k
    simp (maxSteps:=1000000) only [g,w1,hp,an,ak,ax,aw,az,ay,au,aC,ah,ao,aQ,bj,bm,af,ae,ab,ag,av,aM,aq,aA,seval]
    generalize HL:({ cM with deep:=cM.deep+1 }:PS)=sd at*
    have YD:sd.deep=cM.deep+1:=by rw [←HL]
    refine ⟨l,sd,i1,rfl,hl,by rw [←HL]; simp [cK,an,ak,ax,aw,az,ay],YI,aF (fun n ff e2 k lR=>?_) (fun a e k s'=>?_) k⟩
    case refine_2=>
     simp only [aX,ag,ab,List.nil_append,List.append_nil]
     refine ⟨rfl,i3,i1,l,s',rfl,by simp [an,ak,ax,aw,az,ay],by simp [an,ak,ax,aw,az,ay],?_⟩
     simp only [av]
     exact aI (s':={ s' with deep:=IntKind.i64.wrap (s'.deep - 1) }) (by simp [an,ak,ax,aw,az,ay]) k
    have d2:ff.deep=cM.deep+1:=((hG l).unary _ _ _ e2).trans YD
    simp (maxSteps:=1000000) only [dq,hp,an,ak,ax,aw,az,ay,au,aC,ah,ao,aQ,bj,bm,af,ae,ab,ag,av,aM,aq,aA,seval]
    refine .inl ⟨l,ff,i1,.mk 25 0 x 0 [n],by simp only [aB,bO,bc],hl.lo,(by simp [an,ak,ax,aw,az,ay]),lR,aF (fun n2 fP e3 k p_=>?_) (fun a e k s'=>?_) k⟩
    case refine_2=>
     simp only [aX,ag,ab,List.nil_append,List.append_nil]
     refine ⟨rfl,i3,i1,l,s',rfl,by simp [an,ak,ax,aw,az,ay],by simp [an,ak,ax,aw,az,ay],?_⟩
     simp only [av]
     exact aI (s':={ s' with deep:=IntKind.i64.wrap (s'.deep - 1) }) (by simp [an,ak,ax,aw,az,ay]) k
    have d3:fP.deep=cM.deep+1:=(cF _ _ e3).trans d2
    have k:=k (jR iW p_ d3).1
    have wd:=(jR iW p_ d3).2
    simp (maxSteps:=1000000) only [dq,hp,an,ak,ax,aw,az,ay,au,aC,ah,ao,aQ,bj,bm,af,ae,ab,ag,av,aM,aq,aA,seval]
    refine ⟨rfl,i3,i1,l,fP,rfl,(by simp [an,ak,ax,aw,az,ay]),(by simp [an,ak,ax,aw,az,ay]),?_⟩
    rw [wd]
    simp (maxSteps:=1000000) only [dq,hp,an,ak,ax,aw,az,ay,au,aC,ah,ao,aQ,bj,bm,af,ae,ab,ag,av,aM,aq,aA,seval]
    exact cV (x:=n2) (s':={ fP with deep:=fP.deep - 1 }) rfl (by simp [an,ak,ax,aw,az,ay]) k
 ·have e0:i=2:=by omega
  subst e0
  clear hQ hi
  replace hw:lg (unD l (G l) s) (fun x s'=>dy l s'→K0 x s') E0:=hw
  unfold unD at hw
  rw [aR] at hw
  simp (maxSteps:=1000000) only [hp,an,ak,au,aC,ah,ao,aQ,bj,bm,af,ae,ab,ag,av,aM,aq,aA,seval]
  refine ⟨l,s,i1,rfl,hl,(by simp [an,ak]),ok,aF (fun xb cM e1 k iW=>?_) (fun a e k s'=>?_) hw⟩
  case refine_2=>
   simp only [aX,ab,av]
   exact aI (s':=s') (by simp [an,ak]) k
  obtain ⟨n,b⟩:=xb
  simp (maxSteps:=1000000) only [hp,an,ak,au,aC,ah,ao,aQ,bj,bm,af,ae,ab,ag,av,aM,aq,aA,seval]
  intro i3 ax aw az ay
  cases b with
  | true=>
   rw [cond_true,cU] at k
   simp (maxSteps:=1000000) only [hp,an,ak,ax,aw,az,ay,au,aC,ah,ao,aQ,bj,bm,af,ae,ab,ag,av,aM,aq,aA,seval]
   exact cV (x:=n) (s':=cM) rfl (by simp [an,ak,ax,aw,az,ay]) (k iW)
  | false=>
  rw [cond_false] at k
  clear hw
  simp (maxSteps:=1000000) only [hp,an,ak,ax,aw,az,ay,au,aC,ah,ao,aQ,bj,bm,af,ae,ab,ag,av,aM,aq,aA,seval]
  refine cj (X:=Nat) (fun i=>[(0,.ptr i1 1 0),(2,.ptr i2 1 0),(38,.sl [[.int .i64 1],[.int .i64 2]]),(39,.int .i64 2),(40,.int .i64 i)]) (fun _=>(aa.emp.set i1 (cK l cM)).set i2 (.cells [.int .i64 0,.int .i64 0,.str [],.int .i64 0,.aZ])) (fun i=>3 - i)
   (fun i=>i≤2∧lg (unJ l (G l) i cM) (fun x s'=>dy l s'→K0 x s') E0) 0 ⟨by omega,k⟩ (by simp only [aq,aA,seval]) (by exact aa.fm (by repeat' first | with_reducible exact aa.bZ | with_reducible exact aa.cz | refine aa.dS (by simp [an,ak,ax,aw,az,ay]) ?_ | refine aa.dT (by simp [an,ak,ax,aw,az,ay]) ?_)) ?_
  clear k e1
  rintro i Q ⟨hi,hw⟩ hQ
  by_cases c0p:i<2
  ·have g0:((i:Int)<2)=True:=eq_true (by omega)
   have wi:IntKind.i64.wrap ((i:Int)+1)=((i+1:Nat):Int):=cp (by omega)
   replace hw:lg ((eC l (nE ((i+1:Nat):Int)) cM).bind fun b s=>bif b then sR l (G l) ((i+1:Nat):Int) s else unJ l (G l) (i+1) s) (fun x s'=>dy l s'→K0 x s') E0:=by
    rcases (by omega:i=0∨i=1) with rfl | rfl
    ·exact hw
    ·exact hw
   have ie:∀(K:D→aa→Prop) (h:aa),fx 1 K h [[.int .i64 1],[.int .i64 2]] (i:Int)=K (.cO [.int .i64 ((i+1:Nat):Int)] 0) h:=fun K h=>by
    have:=n9 (K:=K) (h:=h) (l:=([1,2]:List Int)) (i:=(i:Int)) (f:=fun b:Int=>[D.int .i64 b]) (sz:=1) fun _=>rfl
    have hx:([1,2]:List Int)[i]? =some ((i+1:Nat):Int):=by
     rcases (by omega:i=0∨i=1) with rfl | rfl<;>rfl
    refine Eq.trans this (propext ⟨fun hh=>hh.2 _ (by simpa using hx),fun hh=>⟨⟨by omega,by simp; omega⟩,fun y hy=>?_⟩⟩)
    rw [Int.toNat_natCast,hx] at hy
    cases hy
    exact hh
   have hq:S8 [.int .i64 ((i+1:Nat):Int)]=some (.str (nE ((i+1:Nat):Int))):=rfl
   generalize hv:((i+1:Nat):Int)=v at*
   rw [aR] at hw
   simp (maxSteps:=1000000) only [g0,ie,hq,hp,an,ak,au,aC,ah,ao,aQ,bj,bm,af,ae,ab,ag,av,aM,aq,aA,seval]
   refine ⟨l,cM,i1,nE v,rfl,hl.lo,(by simp [an,ak]),iW,aF (fun b ff e2 k lR=>?_) (fun a e k s'=>?_) hw⟩
   case refine_2=>
    simp only [aX,ab,av]
    exact aI (s':=s') (by simp [an,ak]) k
   cases b with
   | false=>
    have:=Om e2
    subst this
    rw [cond_false] at k
    simp (maxSteps:=1000000) only [wi,hp,an,ak,au,aC,ah,ao,aQ,bj,bm,af,ae,ab,ag,av,aM,aq,aA,seval]
    exact hQ (i+1) _ _ ⟨by omega,k⟩ (by simp only [hv,aq,aA,seval]) (aa.aj _) (by omega)
   | true=>
    rw [cond_true] at k
    unfold sR at k
    rw [aR] at k
    simp (maxSteps:=1000000) only [hp,an,ak,au,aC,ah,ao,aQ,bj,bm,af,ae,ab,ag,av,aM,aq,aA,seval]
    refine ⟨l,ff,i1,[40],rfl,hl.lo,(by simp [an,ak]),lR,aF (fun _ fP e3 k p_=>?_) (fun a e k s'=>?_) k⟩
    case refine_2=>
     simp only [aX,ab,av]
     exact aI (s':=s') (by simp [an,ak]) k
    rw [aR] at k
    simp (maxSteps:=1000000) only [hp,an,ak,au,aC,ah,ao,aQ,bj,bm,af,ae,ab,ag,av,aM,aq,aA,seval]
    refine ⟨l,fP,i1,0,rfl,hl,(by simp [an,ak]),p_,aF (fun n pY e4 k yw=>?_) (fun a e k s'=>?_) k⟩
    case refine_2=>
     simp only [aX,ab,av]
     exact aI (s':=s') (by simp [an,ak]) k
    rw [aR] at k
    simp (maxSteps:=1000000) only [dq,hp,an,ak,au,aC,ah,ao,aQ,bj,bm,af,ae,ab,ag,av,aM,aq,aA,seval]
    refine .inl ⟨l,pY,i1,.mk 27 v [] 0 [n],by simp only [aB,bO,bc],hl.lo,(by simp [an,ak]),yw,aF (fun n2 BV e5 k Ih=>?_) (fun a e k s'=>?_) k⟩
    case refine_2=>
     simp only [aX,ab,av]
     exact aI (s':=s') (by simp [an,ak]) k
    rw [aR] at k
    simp (maxSteps:=1000000) only [dq,hp,an,ak,au,aC,ah,ao,aQ,bj,bm,af,ae,ab,ag,av,aM,aq,aA,seval]
    intro i3 ax aw az ay
    refine ⟨l,BV,i1,[41],rfl,hl.lo,(by simp [an,ak,ax,aw,az,ay]),Ih,aF (fun _ Be e6 k SQ=>?_) (fun a e k s'=>?_) k⟩
    case refine_2=>
     simp only [aX,ab,av]
     exact aI (s':=s') (by simp [an,ak,ax,aw,az,ay]) k
    rw [cU] at k
    simp (maxSteps:=1000000) only [hp,an,ak,ax,aw,az,ay,au,aC,ah,ao,aQ,bj,bm,af,ae,ab,ag,av,aM,aq,aA,seval]
    exact cV (x:=n2) (s':=Be) rfl (by simp [an,ak,ax,aw,az,ay]) (k SQ)
  ·have e0:i=2:=by omega
   subst e0
   clear hQ hi
   replace hw:lg (unA l (G l) cM) (fun x s'=>dy l s'→K0 x s') E0:=hw
   unfold unA at hw
   rw [aR] at hw
   simp (maxSteps:=1000000) only [hp,an,ak,au,aC,ah,ao,aQ,bj,bm,af,ae,ab,ag,av,aM,aq,aA,seval]
   refine ⟨l,cM,i1,[40],rfl,hl.lo,(by simp [an,ak]),iW,aF (fun b ff e2 k lR=>?_) (fun a e k s'=>?_) hw⟩
   case refine_2=>
    simp only [aX,ab,av]
    exact aI (s':=s') (by simp [an,ak]) k
   cases b with
   | true=>
    rw [cond_true,aR] at k
    simp (maxSteps:=1000000) only [hp,an,ak,au,aC,ah,ao,aQ,bj,bm,af,ae,ab,ag,av,aM,aq,aA,seval]
    refine ⟨l,ff,i1,0,rfl,hl,(by simp [an,ak]),lR,aF (fun n fP e3 k p_=>?_) (fun a e k s'=>?_) k⟩
    case refine_2=>
     simp only [aX,ab,av]
     exact aI (s':=s') (by simp [an,ak]) k
    rw [aR] at k
    simp (maxSteps:=1000000) only [dq,hp,an,ak,au,aC,ah,ao,aQ,bj,bm,af,ae,ab,ag,av,aM,aq,aA,seval]
    intro i3 ax aw az ay
    refine ⟨l,fP,i1,[41],rfl,hl.lo,(by simp [an,ak,ax,aw,az,ay]),p_,aF (fun _ pY e4 k yw=>?_) (fun a e k s'=>?_) k⟩
    case refine_2=>
     simp only [aX,ab,av]
     exact aI (s':=s') (by simp [an,ak,ax,aw,az,ay]) k
    rw [cU] at k
    simp (maxSteps:=1000000) only [hp,an,ak,ax,aw,az,ay,au,aC,ah,ao,aQ,bj,bm,af,ae,ab,ag,av,aM,aq,aA,seval]
    exact cV (x:=n) (s':=pY) rfl (by simp [an,ak,ax,aw,az,ay]) (k yw)
   | false=>
    rw [cond_false,aR] at k
    simp (maxSteps:=1000000) only [hp,an,ak,au,aC,ah,ao,aQ,bj,bm,af,ae,ab,ag,av,aM,aq,aA,seval]
    refine ⟨l,ff,i1,rfl,hl.lo,(by simp [an,ak]),lR,aF (fun x fP e3 k p_=>?_) (fun a e k s'=>?_) k⟩
    case refine_2=>
     simp only [aX,ab,av]
     exact aI (s':=s') (by simp [an,ak]) k
    simp (maxSteps:=1000000) only [hp,an,ak,au,aC,ah,ao,aQ,bj,bm,af,ae,ab,ag,av,aM,aq,aA,seval]
    refine ⟨l,fP,i1,[40],rfl,(by simp [an,ak]),p_.at_,?_⟩
    cases yL:oK l [40] fP with
    | true=>
     rw [yL,cond_true] at k
     simp (maxSteps:=1000000) only [hp,an,ak,au,aC,ah,ao,aQ,bj,bm,af,ae,ab,ag,av,aM,aq,aA,seval]
     refine ⟨l,fP,i1,x,rfl,hl,(by simp [an,ak]),p_,aF (fun n pY e4 k yw=>?_) (fun a e k s'=>?_) k⟩
     case refine_2=>
      simp only [aX,ab,av]
      exact aI (s':=s') (by simp [an,ak]) k
     simp (maxSteps:=1000000) only [dq,hp,an,ak,au,aC,ah,ao,aQ,bj,bm,af,ae,ab,ag,av,aM,aq,aA,seval]
     exact cV (x:=n) (s':=pY) rfl (by simp [an,ak]) (k yw)
    | false=>
     rw [yL,cond_false] at k
     simp (maxSteps:=1000000) only [hp,an,ak,au,aC,ah,ao,aQ,bj,bm,af,ae,ab,ag,av,aM,aq,aA,seval]
     refine .inl ⟨l,fP,i1,.mk 23 0 x 0 [],by simp only [aB,bc],hl.lo,(by simp [an,ak]),p_,aF (fun n pY e4 k yw=>?_) (fun a e k s'=>?_) k⟩
     case refine_2=>
      simp only [aX,ab,av]
      exact aI (s':=s') (by simp [an,ak]) k
     simp (maxSteps:=1000000) only [dq,hp,an,ak,au,aC,ah,ao,aQ,bj,bm,af,ae,ab,ag,av,aM,aq,aA,seval]
     exact cV (x:=n) (s':=pY) rfl (by simp [an,ak]) (k yw)
end
end Go.Proofs.YtpklkpkfgmoghaaGreatDoor.Zz
namespace Go.Proofs.YtpklkpkfgmoghaaGreatDoor.Zz
noncomputable section
def anp:cm:=⟨⟨[],[(1,1),(2,1),(3,1),(4,2),(5,1),(5,3),(7,1),(8,1),(9,1),(10,1),(11,1),(12,1),(13,2),(14,1),(15,1),(16,2),(17,1),(18,2),(19,2),(20,2),(21,1)],[],[],[],[]⟩,[],[],false⟩
def ajk:dU:=
 sO [oA 2]
 (.seq (.block 0 (sO [oM 0 7,
 oC 57 [.t 7,(kS [105,102])] 8,
 oM 8 6]
 (.cond (.t 6)
 (sO [oM 0 9,
 oC 101 [.t 9] 10,
 oS 5 2 10]
 (.ret))
 (sO [oM 0 12,
 oC 57 [.t 12,(kS [102,111,114])] 13,
 oM 13 11]
 (.cond (.t 11)
 (sO [oM 0 14,
 oP (.build zN [(0,1,(kI 10))]) 15,
 oC 35 [.t 14,.t 15] 16,
 oA 3,
 oS 5 3 16]
 (sO [oM 0 17,
 oC 102 [.t 17,kI 0] 18,
 oM 0 19,
 oC 62 [.t 19] 20,
 oP (.buildSlice 5 zN 2 [(0,(.t 18)),(1,(.t 20))] false) 21,
 oF 4 3 22,
 oS 1 22 21]
 (sO [oJ 5 3 23,
 oS 5 2 23]
 (.ret))))
 (sO [oM 0 25,
 oC 57 [.t 25,(kS [114,101,116,117,114,110])] 26,
 oM 26 24]
 (.cond (.t 24)
 (sO [oM 0 27,
 oC 103 [.t 27,kI 11,kS []] 28,
 oS 5 2 28]
 (.ret))
 (sO [oM 0 30,
 oC 57 [.t 30,(kS [97,115,115,101,114,116])] 31,
 oM 31 29]
 (.cond (.t 29)
 (sO [oM 0 32,
 oC 103 [.t 32,kI 12,kS []] 33,
 oS 5 2 33]
 (.ret))
 (sO [oM 0 35,
 oC 57 [.t 35,(kS [115,107,105,112])] 36,
 oM 36 34]
 (.cond (.t 34)
 (sO [oM 0 37,
 oC 60 [.t 37,kS [59]] 38]
 (sO [oM 0 39,
 oP (.build zN [(0,1,(kI 14))]) 40,
 oC 35 [.t 39,.t 40] 41,
 oS 5 2 41]
 (.ret)))
 (.skip))))))))))))
 (sO [oM 0 42,
 oC 58 [.t 42] 43,
 oM 43 4]
 (.seq (.block 1 (sO [oM 0 45,
 oC 57 [.t 45,(kS [58,61])] 46,
 oM 46 44]
 (.cond (.t 44)
 (sO [oM 0 47,
 oM 4 48,
 oC 103 [.t 47,kI 7,.t 48] 49,
 oS 5 2 49]
 (.ret))
 (sO [oM 0 51,
 oC 57 [.t 51,kS [61]] 52,
 oM 52 50]
 (.cond (.t 50)
 (sO [oM 0 53,
 oM 4 54,
 oC 103 [.t 53,kI 8,.t 54] 55,
 oS 5 2 55]
 (.ret))
 (.skip))))))
 (sO [oM 0 56,
 oP (.build zN [(0,1,(kI 13))]) 57,
 oC 35 [.t 56,.t 57] 58,
 oA 5,
 oS 5 5 58]
 (sO [oM 0 59,
 oM 4 60,
 oC 104 [.t 59,.t 60] 61,
 oP (.buildSlice 5 zN 1 [(0,(.t 61))] false) 62,
 oF 4 5 63,
 oS 1 63 62]
 (sO [oM 0 64,
 oC 60 [.t 64,kS [59]] 65]
 (sO [oJ 5 5 66,
 oS 5 2 66]
 (.ret))))))))
theorem aj7:bA Tryz.prog 85 anp=some (ajk,[.cell 2 (some 5)],67):=by kernel_rfl
def tX (G:List Tok→fg) (args:List D) (h:aa) (K E:D→aa→Prop):Prop:=∃(l:List Tok) (s:PS) (id:Nat) (k:Int) (x:List UInt8),args=[.ptr id 1 0,.int .i64 k,.str x]∧yC l∧cP (jY l (G l) k x) dq l s id h K E
theorem E4 (G:List Tok→fg) (args:List D) (h:aa) (K E K' E':D→aa→Prop) (hk:∀d h,K d h→K' d h) (he:∀d h,E d h→E' d h) (c:tX G args h K E):tX G args h K' E':=by
 obtain ⟨l,s,id,k,x,a,b,c⟩:=c
 exact ⟨l,s,id,k,x,a,b,fW hk he c⟩
theorem Lo (G:List Tok→fg) (hT:(BW G).ok Tryz.prog) (args:List D) (h:aa) (K E:D→aa→Prop) (c:tX G args h K E):aH Tryz.prog 103 args h (cY.to K E):=by
 obtain ⟨l,s,id,k,x,rfl,hl,c⟩:=c
 exact kQ (fun ok K0 E0 hw=>WG G hT l hl s id k x ok K0 E0 hw) c
def tbS (G:List Tok→fg):bh:=(BW G).gI 103 (tX G) (E4 G)
theorem acB {G:List Tok→fg}:(tbS G).q=(BW G).q:=rfl
theorem acz {G:List Tok→fg}:(tbS G).a=(BW G).a:=rfl
theorem acA {G:List Tok→fg} (g:FuncId) (args:List D) (h:aa) (K E:D→aa→Prop):(tbS G).c g args h K E=if g=103 then tX G args h K E else (BW G).c g args h K E:=rfl
theorem gk:type_of% (And.intro @acB (And.intro @acz @acA)):=And.intro @acB (And.intro @acz @acA)
theorem afR (G:List Tok→fg) (hT:(BW G).ok Tryz.prog):(tbS G).ok Tryz.prog:=bh.bQ hT (Lo G hT)
set_option maxHeartbeats 1000000 in
theorem afM (G:List Tok→fg) (hG:∀l,qh (G l)) (hT:(BW G).ok Tryz.prog) (l:List Tok) (hl:yC l) (s:PS) (i1:Nat) (ok:dy l s) (K0:Nd→PS→Prop) (E0:Int→Int→Prop) (hw:lg (xh l (G l) s) (fun x s'=>dy l s'→K0 x s') E0):aH Tryz.prog 85 [.ptr i1 1 0] (aa.emp.set i1 (cK l s)) (nV dq l i1 K0 E0):=by
 refine aH.cv (afR G hT) (dc:=cy.none) (fun _ _=>cy.cX) (by kernel_rfl) aj7 (by simp) ?_
 rw [cA]
 have hp:=fun (h:aa) (j:Nat) (B C:cJ)=>push_id (id:=i1) h j B C
 unfold xh at hw
 rw [aR] at hw
 simp (maxSteps:=1000000) only [ajk,gk,hp,hp,au,aC,ah,ao,aQ,bj,bm,af,ae,ab,ag,av,aM,aq,aA,seval]
 intro i2 an ak
 refine ⟨l,s,i1,KO,rfl,hl.lo,(by simp [an,ak]),ok,aF (fun b cM e1 k iW=>?_) (fun a e k s'=>?_) hw⟩
 case refine_2=>
  simp only [aX,ab,av]
  exact aI (s':=s') (by simp [an,ak]) k
 cases b with
 | true=>
  rw [cond_true] at k
  simp (maxSteps:=1000000) only [gk,hp,an,ak,au,aC,ah,ao,aQ,bj,bm,af,ae,ab,ag,av,aM,aq,aA,seval]
  refine ⟨l,cM,i1,rfl,hl,(by simp [an,ak]),iW,aF (fun n t1 f1 k SS=>?_) (fun a e k s'=>?_) k⟩
  case refine_2=>
   simp only [aX,ab,av]
   exact aI (s':=s') (by simp [an,ak]) k
  simp (maxSteps:=1000000) only [dq,gk,hp,an,ak,au,aC,ah,ao,aQ,bj,bm,af,ae,ab,ag,av,aM,aq,aA,seval]
  exact cV (x:=n) (s':=t1) rfl (by simp [an,ak]) (k SS)
 | false=>
 rw [cond_false,aR] at k
 simp (maxSteps:=1000000) only [gk,hp,an,ak,au,aC,ah,ao,aQ,bj,bm,af,ae,ab,ag,av,aM,aq,aA,seval]
 refine ⟨l,cM,i1,KF,rfl,hl.lo,(by simp [an,ak]),iW,aF (fun b ff e2 k lR=>?_) (fun a e k s'=>?_) k⟩
 case refine_2=>
  simp only [aX,ab,av]
  exact aI (s':=s') (by simp [an,ak]) k
 cases b with
 | true=>
  rw [cond_true,aR] at k
  simp (maxSteps:=1000000) only [gk,hp,an,ak,au,aC,ah,ao,aQ,bj,bm,af,ae,ab,ag,av,aM,aq,aA,seval]
  refine .inl ⟨l,ff,i1,.mk 10 0 [] 0 [],by simp only [aB,bc],hl.lo,(by simp [an,ak]),lR,aF (fun n fP e3 k p_=>?_) (fun a e k s'=>?_) k⟩
  case refine_2=>
   simp only [aX,ab,av]
   exact aI (s':=s') (by simp [an,ak]) k
  obtain ⟨nk,nt,ns,nm,nl⟩:=n
  rw [aR] at k
  simp (maxSteps:=1000000) only [dq,aB,gk,hp,an,ak,au,aC,ah,ao,aQ,bj,bm,af,ae,ab,ag,av,aM,aq,aA,seval]
  intro i3 ax aw az ay
  refine ⟨l,fP,i1,0,rfl,hl,(by simp [an,ak,ax,aw,az,ay]),p_,aF (fun x pY e4 k yw=>?_) (fun a e k s'=>?_) k⟩
  case refine_2=>
   simp only [aX,ab,av]
   exact aI (s':=s') (by simp [an,ak,ax,aw,az,ay]) k
  rw [aR] at k
  simp (maxSteps:=1000000) only [dq,gk,hp,an,ak,ax,aw,az,ay,au,aC,ah,ao,aQ,bj,bm,af,ae,ab,ag,av,aM,aq,aA,seval]
  refine ⟨l,pY,i1,rfl,hl,(by simp [an,ak,ax,aw,az,ay]),yw,aF (fun y BV e5 k Ih=>?_) (fun a e k s'=>?_) k⟩
  case refine_2=>
   simp only [aX,ab,av]
   exact aI (s':=s') (by simp [an,ak,ax,aw,az,ay]) k
  rw [cU] at k
  simp (maxSteps:=1000000) only [dq,gk,hp,an,ak,ax,aw,az,ay,au,aC,ah,ao,aQ,bj,bm,af,ae,ab,ag,av,aM,aq,aA,seval]
  exact cV (x:=.mk nk nt ns nm [x,y]) (s':=BV) (by rw [dq,aB,bO,bO,bc]) (by simp [an,ak,ax,aw,az,ay]) (k Ih)
 | false=>
 rw [cond_false,aR] at k
 simp (maxSteps:=1000000) only [gk,hp,an,ak,au,aC,ah,ao,aQ,bj,bm,af,ae,ab,ag,av,aM,aq,aA,seval]
 refine ⟨l,ff,i1,nI,rfl,hl.lo,(by simp [an,ak]),lR,aF (fun b fP e3 k p_=>?_) (fun a e k s'=>?_) k⟩
 case refine_2=>
  simp only [aX,ab,av]
  exact aI (s':=s') (by simp [an,ak]) k
 cases b with
 | true=>
  rw [cond_true] at k
  simp (maxSteps:=1000000) only [gk,hp,an,ak,au,aC,ah,ao,aQ,bj,bm,af,ae,ab,ag,av,aM,aq,aA,seval]
  refine ⟨l,fP,i1,11,[],rfl,hl,(by simp [an,ak]),p_,aF (fun n t1 f1 k SS=>?_) (fun a e k s'=>?_) k⟩
  case refine_2=>
   simp only [aX,ab,av]
   exact aI (s':=s') (by simp [an,ak]) k
  simp (maxSteps:=1000000) only [dq,gk,hp,an,ak,au,aC,ah,ao,aQ,bj,bm,af,ae,ab,ag,av,aM,aq,aA,seval]
  exact cV (x:=n) (s':=t1) rfl (by simp [an,ak]) (k SS)
 | false=>
 rw [cond_false,aR] at k
 simp (maxSteps:=1000000) only [gk,hp,an,ak,au,aC,ah,ao,aQ,bj,bm,af,ae,ab,ag,av,aM,aq,aA,seval]
 refine ⟨l,fP,i1,nG,rfl,hl.lo,(by simp [an,ak]),p_,aF (fun b pY e4 k yw=>?_) (fun a e k s'=>?_) k⟩
 case refine_2=>
  simp only [aX,ab,av]
  exact aI (s':=s') (by simp [an,ak]) k
 cases b with
 | true=>
  rw [cond_true] at k
  simp (maxSteps:=1000000) only [gk,hp,an,ak,au,aC,ah,ao,aQ,bj,bm,af,ae,ab,ag,av,aM,aq,aA,seval]
  refine ⟨l,pY,i1,12,[],rfl,hl,(by simp [an,ak]),yw,aF (fun n t1 f1 k SS=>?_) (fun a e k s'=>?_) k⟩
  case refine_2=>
   simp only [aX,ab,av]
   exact aI (s':=s') (by simp [an,ak]) k
  simp (maxSteps:=1000000) only [dq,gk,hp,an,ak,au,aC,ah,ao,aQ,bj,bm,af,ae,ab,ag,av,aM,aq,aA,seval]
  exact cV (x:=n) (s':=t1) rfl (by simp [an,ak]) (k SS)
 | false=>
 rw [cond_false,aR] at k
 simp (maxSteps:=1000000) only [gk,hp,an,ak,au,aC,ah,ao,aQ,bj,bm,af,ae,ab,ag,av,aM,aq,aA,seval]
 refine ⟨l,pY,i1,EC,rfl,hl.lo,(by simp [an,ak]),yw,aF (fun b BV e5 k Ih=>?_) (fun a e k s'=>?_) k⟩
 case refine_2=>
  simp only [aX,ab,av]
  exact aI (s':=s') (by simp [an,ak]) k
 cases b with
 | true=>
  rw [cond_true,aR] at k
  simp (maxSteps:=1000000) only [gk,hp,an,ak,au,aC,ah,ao,aQ,bj,bm,af,ae,ab,ag,av,aM,aq,aA,seval]
  refine ⟨l,BV,i1,[59],rfl,hl.lo,(by simp [an,ak]),Ih,aF (fun _ Be e6 k SQ=>?_) (fun a e k s'=>?_) k⟩
  case refine_2=>
   simp only [aX,ab,av]
   exact aI (s':=s') (by simp [an,ak]) k
  simp (maxSteps:=1000000) only [gk,hp,an,ak,au,aC,ah,ao,aQ,bj,bm,af,ae,ab,ag,av,aM,aq,aA,seval]
  refine .inl ⟨l,Be,i1,.mk 14 0 [] 0 [],by simp only [aB,bc],hl.lo,(by simp [an,ak]),SQ,aF (fun n t1 f1 k SS=>?_) (fun a e k s'=>?_) k⟩
  case refine_2=>
   simp only [aX,ab,av]
   exact aI (s':=s') (by simp [an,ak]) k
  simp (maxSteps:=1000000) only [dq,gk,hp,an,ak,au,aC,ah,ao,aQ,bj,bm,af,ae,ab,ag,av,aM,aq,aA,seval]
  exact cV (x:=n) (s':=t1) rfl (by simp [an,ak]) (k SS)
 | false=>
 rw [cond_false,aR] at k
 simp (maxSteps:=1000000) only [gk,hp,an,ak,au,aC,ah,ao,aQ,bj,bm,af,ae,ab,ag,av,aM,aq,aA,seval]
 refine ⟨l,BV,i1,rfl,hl.lo,(by simp [an,ak]),Ih,aF (fun x Be e6 k SQ=>?_) (fun a e k s'=>?_) k⟩
 case refine_2=>
  simp only [aX,ab,av]
  exact aI (s':=s') (by simp [an,ak]) k
 rw [aR] at k
 simp (maxSteps:=1000000) only [gk,hp,an,ak,au,aC,ah,ao,aQ,bj,bm,af,ae,ab,ag,av,aM,aq,aA,seval]
 refine ⟨l,Be,i1,[58,61],rfl,hl.lo,(by simp [an,ak]),SQ,aF (fun b Gg e7 k ok7=>?_) (fun a e k s'=>?_) k⟩
 case refine_2=>
  simp only [aX,ab,av]
  exact aI (s':=s') (by simp [an,ak]) k
 cases b with
 | true=>
  rw [cond_true] at k
  simp (maxSteps:=1000000) only [gk,hp,an,ak,au,aC,ah,ao,aQ,bj,bm,af,ae,ab,ag,av,aM,aq,aA,seval]
  refine ⟨l,Gg,i1,7,x,rfl,hl,(by simp [an,ak]),ok7,aF (fun n t1 f1 k SS=>?_) (fun a e k s'=>?_) k⟩
  case refine_2=>
   simp only [aX,ab,av]
   exact aI (s':=s') (by simp [an,ak]) k
  simp (maxSteps:=1000000) only [dq,gk,hp,an,ak,au,aC,ah,ao,aQ,bj,bm,af,ae,ab,ag,av,aM,aq,aA,seval]
  exact cV (x:=n) (s':=t1) rfl (by simp [an,ak]) (k SS)
 | false=>
 rw [cond_false,aR] at k
 simp (maxSteps:=1000000) only [gk,hp,an,ak,au,aC,ah,ao,aQ,bj,bm,af,ae,ab,ag,av,aM,aq,aA,seval]
 refine ⟨l,Gg,i1,[61],rfl,hl.lo,(by simp [an,ak]),ok7,aF (fun b s8p e8 k ok8=>?_) (fun a e k s'=>?_) k⟩
 case refine_2=>
  simp only [aX,ab,av]
  exact aI (s':=s') (by simp [an,ak]) k
 cases b with
 | true=>
  rw [cond_true] at k
  simp (maxSteps:=1000000) only [gk,hp,an,ak,au,aC,ah,ao,aQ,bj,bm,af,ae,ab,ag,av,aM,aq,aA,seval]
  refine ⟨l,s8p,i1,8,x,rfl,hl,(by simp [an,ak]),ok8,aF (fun n t1 f1 k SS=>?_) (fun a e k s'=>?_) k⟩
  case refine_2=>
   simp only [aX,ab,av]
   exact aI (s':=s') (by simp [an,ak]) k
  simp (maxSteps:=1000000) only [dq,gk,hp,an,ak,au,aC,ah,ao,aQ,bj,bm,af,ae,ab,ag,av,aM,aq,aA,seval]
  exact cV (x:=n) (s':=t1) rfl (by simp [an,ak]) (k SS)
 | false=>
 rw [cond_false,aR] at k
 simp (maxSteps:=1000000) only [gk,hp,an,ak,au,aC,ah,ao,aQ,bj,bm,af,ae,ab,ag,av,aM,aq,aA,seval]
 refine .inl ⟨l,s8p,i1,.mk 13 0 [] 0 [],by simp only [aB,bc],hl.lo,(by simp [an,ak]),ok8,aF (fun n s9p e9 k ok9=>?_) (fun a e k s'=>?_) k⟩
 case refine_2=>
  simp only [aX,ab,av]
  exact aI (s':=s') (by simp [an,ak]) k
 obtain ⟨nk,nt,ns,nm,nl⟩:=n
 rw [aR] at k
 simp (maxSteps:=1000000) only [dq,aB,gk,hp,an,ak,au,aC,ah,ao,aQ,bj,bm,af,ae,ab,ag,av,aM,aq,aA,seval]
 intro i3 ax aw az ay
 refine ⟨l,s9p,i1,x,rfl,hl,(by simp [an,ak,ax,aw,az,ay]),ok9,aF (fun y t1 f1 k SS=>?_) (fun a e k s'=>?_) k⟩
 case refine_2=>
  simp only [aX,ab,av]
  exact aI (s':=s') (by simp [an,ak,ax,aw,az,ay]) k
 rw [aR] at k
 simp (maxSteps:=1000000) only [dq,gk,hp,an,ak,ax,aw,az,ay,au,aC,ah,ao,aQ,bj,bm,af,ae,ab,ag,av,aM,aq,aA,seval]
 refine ⟨l,t1,i1,[59],rfl,hl.lo,(by simp [an,ak,ax,aw,az,ay]),SS,aF (fun _ t2 f2 k oku=>?_) (fun a e k s'=>?_) k⟩
 case refine_2=>
  simp only [aX,ab,av]
  exact aI (s':=s') (by simp [an,ak,ax,aw,az,ay]) k
 rw [cU] at k
 simp (maxSteps:=1000000) only [dq,gk,hp,an,ak,ax,aw,az,ay,au,aC,ah,ao,aQ,bj,bm,af,ae,ab,ag,av,aM,aq,aA,seval]
 exact cV (x:=.mk nk nt ns nm [y]) (s':=t2) (by rw [dq,aB,bO,bc]) (by simp [an,ak,ax,aw,az,ay]) (k oku)
end
end Go.Proofs.YtpklkpkfgmoghaaGreatDoor.Zz
namespace Go.Proofs.YtpklkpkfgmoghaaGreatDoor.Zz
noncomputable section
def aij:cm:=⟨⟨[(3,4)],[(1,1),(2,2),(3,1),(3,3),(5,1),(6,1),(7,2),(8,1),(4,3)],[],[((4,3),[(.t 3)])],[((4,1),(.t 3))],[]⟩,[(4,[0,1,2,3,4,5,6,7])],[],false⟩
def ab3:dU:=
 sO [oA 2]
 (.seq (sO [oM 0 5,
 oC 84 [.t 5] 6]
 (.defer (.t 6) []))
 (sO [oM 0 7,
 oP (.build zN [(0,1,(kI 9))]) 8,
 oC 35 [.t 7,.t 8] 9,
 oA 3,
 oS 5 3 9]
 (sO [oM 0 10,
 oC 102 [.t 10,kI 0] 11,
 oM 0 12,
 oC 62 [.t 12] 13,
 oQ (.buildSlice 5 zN 2 [(0,(.t 11)),(1,(.t 13))] true) 14,
 oF 4 3 15,
 oS 1 15 14]
 (.seq (.block 0 (sO [oM 0 24,
 oC 57 [.t 24,(kS [101,108,115,101])] 25,
 oP (.un .not (.t 25)) 26,
 oM 26 23]
 (.cond (.t 23)
 (.skip)
 (sO [oM 0 28,
 oC 57 [.t 28,(kS [105,102])] 29,
 oM 29 27]
 (.cond (.t 27)
 (sO [oM 0 30,
 oP (.build zN [(0,1,(kI 6))]) 31,
 oC 35 [.t 30,.t 31] 32,
 oA 4,
 oS 5 4 32]
 (sO [oM 0 33,
 oC 101 [.t 33] 34,
 oP (.buildSlice 5 zN 1 [(0,(.t 34))] false) 35,
 oF 4 4 36,
 oS 1 36 35]
 (.ops [oF 4 3 37,
 oL 37 38,
 oJ 5 4 39,
 oP (.buildSlice 5 zN 1 [(0,(.t 39))] false) 40,
 oQ (.append 5 64 false (.t 38) (.t 40)) 41,
 oF 4 3 42,
 oS 1 42 41])))
 (.fS 16 [oF 4 3 16,
 oQ (.cQ none (.t 16) (.t 3)) 17,
 oM 0 18,
 oQ (.callNe (.f 62) [(.t 18)] [(.t 3)]) 19,
 oP (.buildSlice 5 zN 1 [(0,(.t 19))] false) 20,
 oQ (.append 5 64 false (.t 17) (.t 20)) 21,
 oF 4 3 22,
 oS 1 22 21]))))))
 (sO [oJ 5 3 43,
 oS 5 2 43]
 (.ret))))))
theorem afx:bA Tryz.prog 101 aij=some (ab3,[.cell 2 (some 5)],44):=by kernel_rfl
set_option maxHeartbeats 1000000 in
theorem T0 (G:List Tok→fg) (hG:∀l,qh (G l)) (hT:(BW G).ok Tryz.prog) (l:List Tok) (hl:yC l) (s:PS) (i1:Nat) (ok:dy l s) (K0:Nd→PS→Prop) (E0:Int→Int→Prop) (hw:lg (rS l (G l) s) (fun x s'=>dy l s'→K0 x s') E0):aH Tryz.prog 101 [.ptr i1 1 0] (aa.emp.set i1 (cK l s)) (nV dq l i1 K0 E0):=by
 refine aH.cv hT (dc:=CB) zP (by kernel_rfl) afx (by simp) ?_
 rw [cA]
 have hp:=fun (h:aa) (j:Nat) (B C:cJ)=>push_id (id:=i1) h j B C
 have w1:IntKind.i64.wrap (s.deep+1)=s.deep+1:=wrap_i64 (by have:=ok.d0; omega) (by have:=ok.d1; omega)
 unfold rS nh pIn at hw
 rw [aR] at hw
 simp (maxSteps:=1000000) only [ab3,IW,cK,aM,aq,aA,seval]
 intro i2 an ak i3 ax aw az ay
 by_cases c:s.deep+1>40
 ·have g:(s.deep+1>40)=True:=eq_true c
  rw [if_pos c] at hw
  simp (maxSteps:=1000000) only [g,w1,hp,an,ak,ax,aw,az,ay,au,aC,ah,ao,aQ,bj,bm,af,ae,ab,ag,av,aM,aq,aA,seval]
  refine ⟨l,{ s with deep:=s.deep+1 },i1,3,rfl,by simp [cK,an,ak,ax,aw,az,ay],ok.at_,?_⟩
  simp only [Im,aX,true_and]
  refine ⟨rfl,?_⟩
  show gb CB [] (some (p5 _ 3)) _ _
  simp only [ab,av]
  exact aI (s':={ s with deep:=s.deep+1 }) (by simp [cK,an,ak,ax,aw,az,ay]) hw
 ·have g:(s.deep+1>40)=False:=eq_false c
  rw [if_neg c,cU] at hw
  have YI:=zU ok c
  simp only [Mc,aR,cU] at hw
  simp (maxSteps:=1000000) only [g,w1,hp,an,ak,ax,aw,az,ay,au,aC,ah,ao,aQ,bj,bm,af,ae,ab,ag,av,aM,aq,aA,seval]
  generalize HL:({ s with deep:=s.deep+1 }:PS)=sd at*
  have YD:sd.deep=s.deep+1:=by rw [←HL]
  refine .inl ⟨l,sd,i1,.mk 9 0 [] 0 [],by simp only [aB,bc],hl.lo,by rw [←HL]; simp [cK,an,ak,ax,aw,az,ay],YI,aF (fun n cM e1 k iW=>?_) (fun a e k s'=>?_) hw⟩
  case refine_2=>
   simp only [aX,ag,ab,List.nil_append,List.append_nil]
   refine ⟨rfl,i3,i1,l,s',rfl,by simp [an,ak,ax,aw,az,ay],by simp [an,ak,ax,aw,az,ay],?_⟩
   simp only [av]
   exact aI (s':={ s' with deep:=IntKind.i64.wrap (s'.deep - 1) }) (by simp [an,ak,ax,aw,az,ay]) k
  have d1:cM.deep=s.deep+1:=(cF _ _ e1).trans YD
  obtain ⟨nk,nt,ns,nm,nl⟩:=n
  simp (maxSteps:=1000000) only [dq,aB,hp,an,ak,ax,aw,az,ay,au,aC,ah,ao,aQ,bj,bm,af,ae,ab,ag,av,aM,aq,aA,seval]
  intro i4 aL aP aK aO aJ aN
  refine ⟨l,cM,i1,0,rfl,hl,(by simp [an,ak,ax,aw,az,ay,aL,aP,aK,aO,aJ,aN]),iW,aF (fun x ff e2 k lR=>?_) (fun a e k s'=>?_) k⟩
  case refine_2=>
   simp only [aX,ag,ab,List.nil_append,List.append_nil]
   refine ⟨rfl,i3,i1,l,s',rfl,by simp [an,ak,ax,aw,az,ay,aL,aP,aK,aO,aJ,aN],by simp [an,ak,ax,aw,az,ay,aL,aP,aK,aO,aJ,aN],?_⟩
   simp only [av]
   exact aI (s':={ s' with deep:=IntKind.i64.wrap (s'.deep - 1) }) (by simp [an,ak,ax,aw,az,ay,aL,aP,aK,aO,aJ,aN]) k
  have d2:ff.deep=s.deep+1:=((hG l).expr _ _ _ _ e2).trans d1
  simp (maxSteps:=1000000) only [dq,hp,an,ak,ax,aw,az,ay,aL,aP,aK,aO,aJ,aN,au,aC,ah,ao,aQ,bj,bm,af,ae,ab,ag,av,aM,aq,aA,seval]
  refine ⟨l,ff,i1,rfl,hl,(by simp [an,ak,ax,aw,az,ay,aL,aP,aK,aO,aJ,aN]),lR,aF (fun y fP e3 k p_=>?_) (fun a e k s'=>?_) k⟩
  case refine_2=>
   simp only [aX,ag,ab,List.nil_append,List.append_nil]
   refine ⟨rfl,i3,i1,l,s',rfl,by simp [an,ak,ax,aw,az,ay,aL,aP,aK,aO,aJ,aN],by simp [an,ak,ax,aw,az,ay,aL,aP,aK,aO,aJ,aN],?_⟩
   simp only [av]
   exact aI (s':={ s' with deep:=IntKind.i64.wrap (s'.deep - 1) }) (by simp [an,ak,ax,aw,az,ay,aL,aP,aK,aO,aJ,aN]) k
  have d3:fP.deep=s.deep+1:=((hG l).block _ _ _ e3).trans d2
  simp (maxSteps:=1000000) only [dq,hp,an,ak,ax,aw,az,ay,aL,aP,aK,aO,aJ,aN,au,aC,ah,ao,aQ,bj,bm,af,ae,ab,ag,av,aM,aq,aA,seval]
  intro i5 bK bU bJ bT bI bS bH bR
  simp (maxSteps:=1000000) only [hp,an,ak,ax,aw,az,ay,aL,aP,aK,aO,aJ,aN,bK,bU,bJ,bT,bI,bS,bH,bR,au,aC,ah,ao,aQ,bj,bm,af,ae,ab,ag,av,aM,aq,aA,seval]
  have fin:∀(n:Nd) (s':PS),dy l s'→s'.deep=s.deep+1→(dy l { s' with deep:=s'.deep - 1 }→K0 n { s' with deep:=s'.deep - 1 })→K0 n { s' with deep:=s'.deep - 1 }∧IntKind.i64.wrap (s'.deep - 1)=s'.deep - 1:=fun n s' o d h=>⟨h (jR ok o d).1,(jR ok o d).2⟩
  refine ⟨l,fP,i1,nH,rfl,hl.lo,(by simp [an,ak,ax,aw,az,ay,aL,aP,aK,aO,aJ,aN,bK,bU,bJ,bT,bI,bS,bH,bR]),p_,aF (fun b pY e4 k yw=>?_) (fun a e k s'=>?_) k⟩
  case refine_2=>
   simp only [aX,ag,ab,List.nil_append,List.append_nil]
   refine ⟨rfl,i3,i1,l,s',rfl,by simp [an,ak,ax,aw,az,ay,aL,aP,aK,aO,aJ,aN,bK,bU,bJ,bT,bI,bS,bH,bR],by simp [an,ak,ax,aw,az,ay,aL,aP,aK,aO,aJ,aN,bK,bU,bJ,bT,bI,bS,bH,bR],?_⟩
   simp only [av]
   exact aI (s':={ s' with deep:=IntKind.i64.wrap (s'.deep - 1) }) (by simp [an,ak,ax,aw,az,ay,aL,aP,aK,aO,aJ,aN,bK,bU,bJ,bT,bI,bS,bH,bR]) k
  have d4:pY.deep=s.deep+1:=(bV _ _ e4).trans d3
  cases b with
  | false=>
   rw [Bool.not_false,cond_true,cU] at k
   obtain ⟨k,wd⟩:=fin _ pY yw d4 k
   simp (maxSteps:=1000000) only [Bool.not_false,hp,an,ak,ax,aw,az,ay,aL,aP,aK,aO,aJ,aN,bK,bU,bJ,bT,bI,bS,bH,bR,au,aC,ah,ao,aQ,bj,bm,af,ae,ab,ag,av,aM,aq,aA,seval]
   refine ⟨rfl,i3,i1,l,pY,rfl,(by simp [an,ak,ax,aw,az,ay,aL,aP,aK,aO,aJ,aN,bK,bU,bJ,bT,bI,bS,bH,bR]),(by simp [an,ak,ax,aw,az,ay,aL,aP,aK,aO,aJ,aN,bK,bU,bJ,bT,bI,bS,bH,bR]),?_⟩
   rw [wd]
   simp (maxSteps:=1000000) only [hp,an,ak,ax,aw,az,ay,aL,aP,aK,aO,aJ,aN,bK,bU,bJ,bT,bI,bS,bH,bR,au,aC,ah,ao,aQ,bj,bm,af,ae,ab,ag,av,aM,aq,aA,seval]
   exact im (x:=.mk nk nt ns nm [x,y]) (s':={ pY with deep:=pY.deep - 1 }) (by rw [dq,aB,bO,bO,bc]) (by simp [an,ak,ax,aw,az,ay,aL,aP,aK,aO,aJ,aN,bK,bU,bJ,bT,bI,bS,bH,bR]) k
  | true=>
   rw [Bool.not_true,cond_false,aR] at k
   simp (maxSteps:=1000000) only [Bool.not_true,hp,an,ak,ax,aw,az,ay,aL,aP,aK,aO,aJ,aN,bK,bU,bJ,bT,bI,bS,bH,bR,au,aC,ah,ao,aQ,bj,bm,af,ae,ab,ag,av,aM,aq,aA,seval]
   refine ⟨l,pY,i1,KO,rfl,hl.lo,(by simp [an,ak,ax,aw,az,ay,aL,aP,aK,aO,aJ,aN,bK,bU,bJ,bT,bI,bS,bH,bR]),yw,aF (fun b BV e5 k Ih=>?_) (fun a e k s'=>?_) k⟩
   case refine_2=>
    simp only [aX,ag,ab,List.nil_append,List.append_nil]
    refine ⟨rfl,i3,i1,l,s',rfl,by simp [an,ak,ax,aw,az,ay,aL,aP,aK,aO,aJ,aN,bK,bU,bJ,bT,bI,bS,bH,bR],by simp [an,ak,ax,aw,az,ay,aL,aP,aK,aO,aJ,aN,bK,bU,bJ,bT,bI,bS,bH,bR],?_⟩
    simp only [av]
    exact aI (s':={ s' with deep:=IntKind.i64.wrap (s'.deep - 1) }) (by simp [an,ak,ax,aw,az,ay,aL,aP,aK,aO,aJ,aN,bK,bU,bJ,bT,bI,bS,bH,bR]) k
   have d5:BV.deep=s.deep+1:=(bV _ _ e5).trans d4
   cases b with
   | true=>
    rw [cond_true,aR] at k
    simp (maxSteps:=1000000) only [hp,an,ak,ax,aw,az,ay,aL,aP,aK,aO,aJ,aN,bK,bU,bJ,bT,bI,bS,bH,bR,au,aC,ah,ao,aQ,bj,bm,af,ae,ab,ag,av,aM,aq,aA,seval]
    refine .inl ⟨l,BV,i1,.mk 6 0 [] 0 [],by simp only [aB,bc],hl.lo,(by simp [an,ak,ax,aw,az,ay,aL,aP,aK,aO,aJ,aN,bK,bU,bJ,bT,bI,bS,bH,bR]),Ih,aF (fun m Be e6 k SQ=>?_) (fun a e k s'=>?_) k⟩
    case refine_2=>
     simp only [aX,ag,ab,List.nil_append,List.append_nil]
     refine ⟨rfl,i3,i1,l,s',rfl,by simp [an,ak,ax,aw,az,ay,aL,aP,aK,aO,aJ,aN,bK,bU,bJ,bT,bI,bS,bH,bR],by simp [an,ak,ax,aw,az,ay,aL,aP,aK,aO,aJ,aN,bK,bU,bJ,bT,bI,bS,bH,bR],?_⟩
     simp only [av]
     exact aI (s':={ s' with deep:=IntKind.i64.wrap (s'.deep - 1) }) (by simp [an,ak,ax,aw,az,ay,aL,aP,aK,aO,aJ,aN,bK,bU,bJ,bT,bI,bS,bH,bR]) k
    have d6:Be.deep=s.deep+1:=(cF _ _ e6).trans d5
    obtain ⟨mk,mt,ms,mm,ml⟩:=m
    rw [aR] at k
    simp (maxSteps:=1000000) only [dq,aB,hp,an,ak,ax,aw,az,ay,aL,aP,aK,aO,aJ,aN,bK,bU,bJ,bT,bI,bS,bH,bR,au,aC,ah,ao,aQ,bj,bm,af,ae,ab,ag,av,aM,aq,aA,seval]
    intro i6 EJ EV EK EW _ _ EI EU EH ES EG ER
    refine ⟨l,Be,i1,rfl,hl,(by simp [an,ak,ax,aw,az,ay,aL,aP,aK,aO,aJ,aN,bK,bU,bJ,bT,bI,bS,bH,bR,EK,EW,EJ,EV,EI,EU,EH,ES,EG,ER]),SQ,aF (fun z Gg e7 k ok7=>?_) (fun a e k s'=>?_) k⟩
    case refine_2=>
     simp only [aX,ag,ab,List.nil_append,List.append_nil]
     refine ⟨rfl,i3,i1,l,s',rfl,by simp [an,ak,ax,aw,az,ay,aL,aP,aK,aO,aJ,aN,bK,bU,bJ,bT,bI,bS,bH,bR,EK,EW,EJ,EV,EI,EU,EH,ES,EG,ER],by simp [an,ak,ax,aw,az,ay,aL,aP,aK,aO,aJ,aN,bK,bU,bJ,bT,bI,bS,bH,bR,EK,EW,EJ,EV,EI,EU,EH,ES,EG,ER],?_⟩
     simp only [av]
     exact aI (s':={ s' with deep:=IntKind.i64.wrap (s'.deep - 1) }) (by simp [an,ak,ax,aw,az,ay,aL,aP,aK,aO,aJ,aN,bK,bU,bJ,bT,bI,bS,bH,bR,EK,EW,EJ,EV,EI,EU,EH,ES,EG,ER]) k
    have d7:Gg.deep=s.deep+1:=((hG l).branch _ _ _ e7).trans d6
    rw [cU] at k
    obtain ⟨k,wd⟩:=fin _ Gg ok7 d7 k
    simp (maxSteps:=1000000) only [dq,hp,an,ak,ax,aw,az,ay,aL,aP,aK,aO,aJ,aN,bK,bU,bJ,bT,bI,bS,bH,bR,EK,EW,EJ,EV,EI,EU,EH,ES,EG,ER,au,aC,ah,ao,aQ,bj,bm,af,ae,ab,ag,av,aM,aq,aA,seval]
    refine ⟨rfl,i3,i1,l,Gg,rfl,(by simp [an,ak,ax,aw,az,ay,aL,aP,aK,aO,aJ,aN,bK,bU,bJ,bT,bI,bS,bH,bR,EK,EW,EJ,EV,EI,EU,EH,ES,EG,ER]),(by simp [an,ak,ax,aw,az,ay,aL,aP,aK,aO,aJ,aN,bK,bU,bJ,bT,bI,bS,bH,bR,EK,EW,EJ,EV,EI,EU,EH,ES,EG,ER]),?_⟩
    rw [wd]
    simp (maxSteps:=1000000) only [hp,an,ak,ax,aw,az,ay,aL,aP,aK,aO,aJ,aN,bK,bU,bJ,bT,bI,bS,bH,bR,EK,EW,EJ,EV,EI,EU,EH,ES,EG,ER,au,aC,ah,ao,aQ,bj,bm,af,ae,ab,ag,av,aM,aq,aA,seval]
    exact im (x:=.mk nk nt ns nm [x,y,.mk mk mt ms mm [z]]) (s':={ Gg with deep:=Gg.deep - 1 }) (by simp only [dq,aB,bO,bc]) (by simp [an,ak,ax,aw,az,ay,aL,aP,aK,aO,aJ,aN,bK,bU,bJ,bT,bI,bS,bH,bR,EK,EW,EJ,EV,EI,EU,EH,ES,EG,ER]) k
   | false=>
    rw [cond_false,aR] at k
    simp (maxSteps:=1000000) only [hp,an,ak,ax,aw,az,ay,aL,aP,aK,aO,aJ,aN,bK,bU,bJ,bT,bI,bS,bH,bR,au,aC,ah,ao,aQ,bj,bm,af,ae,ab,ag,av,aM,aq,aA,seval]
    refine ⟨l,BV,i1,rfl,hl,(by simp [an,ak,ax,aw,az,ay,aL,aP,aK,aO,aJ,aN,bK,bU,bJ,bT,bI,bS,bH,bR]),Ih,aF (fun z Be e6 k SQ=>?_) (fun a e k s'=>?_) k⟩
    case refine_2=>
     intro σ hσ _
     simp only [aX]
     rw [hσ]
     show gb CB [⟨.func 100,[.ptr i3 1 0],[]⟩] _ _ _
     simp only [ag,ab,List.nil_append]
     refine ⟨rfl,i3,i1,l,s',rfl,by simp [an,ak,ax,aw,az,ay,aL,aP,aK,aO,aJ,aN,bK,bU,bJ,bT,bI,bS,bH,bR],by simp [an,ak,ax,aw,az,ay,aL,aP,aK,aO,aJ,aN,bK,bU,bJ,bT,bI,bS,bH,bR],?_⟩
     simp only [av]
     exact aI (s':={ s' with deep:=IntKind.i64.wrap (s'.deep - 1) }) (by simp [an,ak,ax,aw,az,ay,aL,aP,aK,aO,aJ,aN,bK,bU,bJ,bT,bI,bS,bH,bR]) k
    have d6:Be.deep=s.deep+1:=((hG l).block _ _ _ e6).trans d5
    rw [cU] at k
    obtain ⟨k,wd⟩:=fin _ Be SQ d6 k
    simp (maxSteps:=1000000) only [dq,hp,an,ak,ax,aw,az,ay,aL,aP,aK,aO,aJ,aN,bK,bU,bJ,bT,bI,bS,bH,bR,au,aC,ah,ao,aQ,bj,bm,af,ae,ab,ag,av,aM,aq,aA,seval]
    refine ⟨rfl,i3,i1,l,Be,rfl,(by simp [an,ak,ax,aw,az,ay,aL,aP,aK,aO,aJ,aN,bK,bU,bJ,bT,bI,bS,bH,bR]),(by simp [an,ak,ax,aw,az,ay,aL,aP,aK,aO,aJ,aN,bK,bU,bJ,bT,bI,bS,bH,bR]),?_⟩
    rw [wd]
    simp (maxSteps:=1000000) only [hp,an,ak,ax,aw,az,ay,aL,aP,aK,aO,aJ,aN,bK,bU,bJ,bT,bI,bS,bH,bR,au,aC,ah,ao,aQ,bj,bm,af,ae,ab,ag,av,aM,aq,aA,seval]
    exact im (x:=.mk nk nt ns nm [x,y,z]) (s':={ Be with deep:=Be.deep - 1 }) (by simp only [dq,aB,bO,bc]) (by simp [an,ak,ax,aw,az,ay,aL,aP,aK,aO,aJ,aN,bK,bU,bJ,bT,bI,bS,bH,bR]) k
end
end Go.Proofs.YtpklkpkfgmoghaaGreatDoor.Zz
namespace Go.Proofs.YtpklkpkfgmoghaaGreatDoor.Zz
noncomputable section
theorem vx {α:Type} {enc:α→D} {l:List Tok} {s:PS} {id:Nat} {h:aa} {K E:D→aa→Prop} {sp:PS→PR α} (e:sp s=.out) (c:cP sp enc l s id h K E):False:=by
 obtain ⟨_,_,c⟩:=c
 rw [e] at c
 exact c
theorem MJ:∀f:Nat,(BW fun l=>qg l f).ok Tryz.prog
 | 0=>by
  refine bh.bQ (bh.bQ (bh.bQ (bh.bQ (bh.bQ (bh.bQ J0 ?_) ?_) ?_) ?_) ?_) ?_
  ·rintro args h K E ⟨l,s,id,k,rfl,hl,c⟩; exact (vx rfl c).elim
  ·rintro args h K E ⟨l,s,id,rfl,hl,c⟩; exact (vx rfl c).elim
  ·rintro args h K E ⟨l,s,id,k,rfl,hl,c⟩; exact (vx rfl c).elim
  ·rintro args h K E ⟨l,s,id,rfl,hl,c⟩; exact (vx rfl c).elim
  ·rintro args h K E ⟨l,s,id,rfl,hl,c⟩; exact (vx rfl c).elim
  ·rintro args h K E ⟨l,s,id,rfl,hl,c⟩; exact (vx rfl c).elim
 | f+1=>by
  have hT:=MJ f
  have hG:∀l,qh (qg l f):=fun l=>vN l f
  refine bh.bQ (bh.bQ (bh.bQ (bh.bQ (bh.bQ (bh.bQ J0 ?_) ?_) ?_) ?_) ?_) ?_
  ·rintro args h K E ⟨l,s,id,k,rfl,hl,c⟩
   exact kQ (fun ok K0 E0 hw=>adR (fun l=>qg l f) hG hT l hl s id k ok K0 E0 hw) c
  ·rintro args h K E ⟨l,s,id,rfl,hl,c⟩
   exact kQ (fun ok K0 E0 hw=>abe (fun l=>qg l f) hG hT l hl s id ok K0 E0 hw) c
  ·rintro args h K E ⟨l,s,id,x,rfl,hl,c⟩
   exact kQ (fun ok K0 E0 hw=>adJ (fun l=>qg l f) hG hT l hl s id x ok K0 E0 hw) c
  ·rintro args h K E ⟨l,s,id,rfl,hl,c⟩
   exact kQ (fun ok K0 E0 hw=>YY (fun l=>qg l f) hG hT l hl s id ok K0 E0 hw) c
  ·rintro args h K E ⟨l,s,id,rfl,hl,c⟩
   exact kQ (fun ok K0 E0 hw=>afM (fun l=>qg l f) hG hT l hl s id ok K0 E0 hw) c
  ·rintro args h K E ⟨l,s,id,rfl,hl,c⟩
   exact kQ (fun ok K0 E0 hw=>T0 (fun l=>qg l f) hG hT l hl s id ok K0 E0 hw) c
end
end Go.Proofs.YtpklkpkfgmoghaaGreatDoor.Zz
