/- Contracts: a name becomes known. -/
import Derived.Test.YtpklkpkfgmoghaaGreatDoorZC6
set_option linter.unnecessarySimpa false
set_option linter.unusedVariables false
set_option linter.unusedSimpArgs false
set_option maxRecDepth 20000
namespace Go.Proofs.YtpklkpkfgmoghaaGreatDoor.Zz
noncomputable section
def ank:cm:=⟨⟨[],[(0,4),(2,11)],[],[((3,9),[(.t 0)]),((3,17),[(.t 0)])],[((3,6),(.t 0)),((3,14),(.t 0))],[]⟩,[(3,[0,1,2,3,4,5,6,7,8,10,11,12,13,14,15,16,9,17,18,19,20,21,22,23,24,25])],[],false⟩
def ajg:dU:=
 sO [oM 0 11,
 oN 11 12,
 oF 5 12 13,
 oM 1 14,
 oC 90 [.t 13,.t 14] 15,
 oM 15 10,
 oX 10 0 16,
 oX 10 1 17,
 oM 16 6,
 oM 17 7]
 (sO [oM 0 19,
 oN 19 20,
 oF 0 20 21,
 oJ 5 21 22,
 oM 1 23,
 oD 91 [.t 22,.t 23] 24,
 oM 24 18,
 oX 18 0 25,
 oX 18 1 26,
 oA 8,
 oS 5 8 25,
 oM 26 9]
 (sO [oM 7 27,
 oP (.un .not (.t 27)) 28,
 oM 28 29,
 oG (.cB (.t 9)) 30 29 true true,
 oG (.un .not (.t 30)) 31 29 true true,
 oG (.cB (.t 31)) 32 29 true true,
 oG (.fieldAddr 0 (.t 8)) 33 32 false true,
 oG (.load none (.t 33)) 34 32 false false,
 oG (.bin .neq (.t 34) (kI 2)) 35 32 false true,
 oG (.pick (.t 32) (kB true) (.t 35)) 36 29 true true,
 oP (.pick (.t 29) (.t 36) (kB false)) 37,
 oC 45 [.t 37,kI 120] 38]
 (.fS 39 [oM 0 39,
 oM 0 40,
 oM 0 41,
 oN 41 42,
 oF 5 42 43,
 oF 0 43 44,
 oQ (.cQ none (.t 44) (.t 0)) 45,
 oM 1 46,
 oP (.buildSlice 1 [(.str [])] 1 [(0,(.t 46))] false) 47,
 oM 0 49,
 oN 49 50,
 oF 5 50 51,
 oF 1 51 52,
 oQ (.cQ none (.t 52) (.t 0)) 53,
 oM 2 54,
 oP (.buildSlice 1 [(.int .i64 0)] 1 [(0,(.t 54))] false) 55,
 oQ (.appendA 1 16 false (.t 45) (.t 47) [(.t 0)]) 48,
 oQ (.appendA 1 8 false (.t 53) (.t 55) [(.t 0)]) 56,
 oN 39 57,
 oF 5 57 58,
 oF 0 58 59,
 oS 1 59 48,
 oN 40 60,
 oF 5 60 61,
 oF 1 61 62,
 oS 1 62 56])))
theorem aj2:bA Tryz.prog 70 ank=some (ajg,[],63):=by kernel_rfl
def s6 (h:aa) (d:D) (xs:List (List D)):Prop:=(d=.aZ∧xs=[])∨∃r v cur ys du,d=.row r v 0 xs.length∧h.f r=some (.dz 1 cur ys du)∧xs=ys.take xs.length∧xs.length≤ys.length∧Ch v xs.length cur ys.length du∧∀e∈du,e.1<cur
theorem eO.view {h:aa} {d:D} {xs:List (List D)} (r:eO h d xs):s6 h d xs:=by
 rcases r with r | ⟨r,v,du,h1,h2,h3⟩
 ·exact .inl r
 ·exact .inr ⟨r,v,v,xs,du,h1,h2,by simp,Nat.le_refl _,.inl ⟨rfl,rfl⟩,h3⟩
structure Grow (h h':aa) (c:Nat):Prop where
 fM:∀i o,h.f i=some o→i≠c→(∀sz aY xs du,o≠.dz sz aY xs du)→h'.f i=some o
 view:∀d xs,s6 h d xs→s6 h' d xs
 Nc:∀i,h.f i≠none→h'.f i≠none
theorem tZ {h:aa} {i j:Nat} {o:cJ} (e:h.f j≠none):(h.set i o).f j≠none:=by
 simp only [aa.b9]; split
 ·simp
 ·exact e
theorem Grow.refl (h:aa) (c:Nat):Grow h h c:=⟨fun _ _ e _ _=>e,fun _ _ e=>e,fun _ e=>e⟩
theorem Grow.trans {h h1 h2:aa} {c:Nat} (a:Grow h h1 c) (b:Grow h1 h2 c):Grow h h2 c:=⟨fun i o e n k=>b.fM i o (a.fM i o e n k) n k,fun d xs v=>b.view d xs (a.view d xs v),fun i e=>b.Nc i (a.Nc i e)⟩
theorem Grow.set {h:aa} {c i:Nat} {o:cJ} (hi:i=c∨h.f i=none) (ho:∀sz aY xs du,h.f i≠some (.dz sz aY xs du)):Grow h (h.set i o) c where
 Nc:=fun j e=>tZ e
 fM:=fun j q e n k=>by
  have:j≠i:=fun x=>by
   rcases hi with hi | hi
   ·exact n (x.trans hi)
   ·rw [x,hi] at e; cases e
  simp [this,e]
 view:=fun d xs v=>by
  rcases v with v | ⟨r,v,cur,ys,du,h1,h2,h3⟩
  ·exact .inl v
  ·have:r≠i:=fun x=>by rw [x] at h2; exact ho _ _ _ _ h2
   exact .inr ⟨r,v,cur,ys,du,h1,by simp [this,h2],h3⟩
theorem Grow.push {h:aa} {c r aY:Nat} {xs:List (List D)} {du:List (Nat×Nat)} {y:List D} (hr:h.f r=some (.dz 1 aY xs du)) (hold:∀e∈du,e.1<aY):Grow h (h.set r (.dz 1 (aY+1) (xs++[y]) ((aY,xs.length)::du))) c where
 Nc:=fun j e=>tZ e
 fM:=fun j q e n k=>by
  have:j≠r:=fun x=>by rw [x,hr] at e; cases e; exact k _ _ _ _ rfl
  simp [this,e]
 view:=fun d zs v=>by
  rcases v with v | ⟨r',v,cur,ys,B_,h1,h2,h3,h4,h5,h6⟩
  ·exact .inl v
  ·by_cases e:r'=r
   ·subst e
    rw [hr] at h2
    cases h2
    refine .inr ⟨r',v,aY+1,xs++[y],(aY,xs.length)::du,h1,by simp,?_,by simp; omega,?_,fun e he=>?_⟩
    ·rw [List.take_append_of_le_length h4]; exact h3
    ·rcases h5 with ⟨a,b⟩ | h5
     ·exact .inr (by rw [a,b]; simp)
     ·exact .inr (List.mem_cons_of_mem _ h5)
    ·rcases List.mem_cons.1 he with rfl | he
     ·exact Nat.lt_succ_self _
     ·exact Nat.lt_succ_of_lt (hold e he)
   ·exact .inr ⟨r',v,cur,ys,B_,h1,by simp [e,h2],h3,h4,h5,h6⟩
def rowOf:D→Option Nat
 | .row r _ _ _=>some r
 | _=>none
theorem eO.dz {h:aa} {d:D} {xs:List (List D)} (r:eO h d xs) {i:Nat} (e:rowOf d=some i):∃sz aY ys du,h.f i=some (.dz sz aY ys du):=by
 rcases r with ⟨rfl,_⟩ | ⟨r,v,du,rfl,h2,_⟩
 ·cases e
 ·cases e; exact ⟨_,_,_,_,h2⟩
theorem eO.frame {h h':aa} {d:D} {xs:List (List D)} (r:eO h d xs) (f:∀i,rowOf d=some i→h'.f i=h.f i):eO h' d xs:=by
 rcases r with r | ⟨r,v,du,rfl,h2,h3⟩
 ·exact .inl r
 ·exact .inr ⟨r,v,du,rfl,by rw [f r rfl]; exact h2,h3⟩
theorem yD {h:aa} {c b:Nat} {d:D} {xs:List (List D)} {y:List D} {K:D→aa→Prop} (hr:eO h d xs) (hy:y.length=1∧y.all bX=true) (hb:0<b) (hlen:(xs.length+1)*b≤140737488355328)
  (hk:∀d' h',eO h' d' (xs++[y])→Grow h h' c→(∀i o,h.f i=some o→rowOf d≠some i→h'.f i=some o)→(∀i,rowOf d'=some i→rowOf d=some i∨h.f i=none)→bX d'=true∧cellsD d'=[d']→K d' h'):zh 1 b d h K (some [y]):=by
 rcases hr with ⟨rfl,rfl⟩ | ⟨r,v,du,rfl,h2,h3⟩
 ·rw [zi]
  refine ⟨fun z hz=>by rw [List.mem_singleton.1 hz]; exact hy,hb,by simp,by simpa using hlen,fun id hid=>?_⟩
  refine hk _ _ (.inr ⟨id,2,[],rfl,by simp,by simp⟩) (Grow.set (.inr hid) (by simp [hid])) (fun i o e _=>?_) (fun i e=>?_) ⟨rfl,rfl⟩
  ·have:i≠id:=fun x=>by rw [x,hid] at e; cases e
   simp [this,e]
  ·cases e; exact .inr hid
 ·rw [zj,h2,vf]
  refine ⟨fun z hz=>by rw [List.mem_singleton.1 hz]; exact hy,hb,by simp,rfl,rfl,rfl,rfl,by simpa using hlen,?_⟩
  refine hk _ _ (.inr ⟨r,v+1,(v,xs.length)::du,by simp,by simp,fun e he=>?_⟩) (Grow.push h2 h3) (fun i o e hn=>?_) (fun i e=>.inl e) ⟨rfl,rfl⟩
  ·rcases List.mem_cons.1 he with rfl | he
   ·exact Nat.lt_succ_self _
   ·exact Nat.lt_succ_of_lt (h3 e he)
  ·have:i≠r:=fun x=>hn (by rw [x]; rfl)
   simp [this,e]
theorem Ib (sc:dj) (s:List UInt8) (T:Int):L5 sc++[[.str s]]=L5 (sc++[(s,T)]):=by simp [L5]
theorem Kp (sc:dj) (s:List UInt8) (T:Int):Yh sc++[[.int .i64 T]]=Yh (sc++[(s,T)]):=by simp [Yh]
def T_ (args:List D) (h:aa) (K E:D→aa→Prop):Prop:=∃(c:Nat) (p:Nd) (sc:dj) (dn dt:D) (ans:Int) (s:List UInt8) (T:Int),args=[.ptr c 1 0,.str s,.int .i64 T]∧iI h c p sc dn dt ans∧sc.length≤1000000∧
 (match p7 p.lD sc s T with
 | .ok sc'=>∀h' lF nY,iI h' c p sc' lF nY ans→Grow h h' c→K (.tuple []) h'
 | .error e=>E (ft e) h)
theorem RW (args:List D) (h:aa) (K E K' E':D→aa→Prop) (hk:∀d h,K d h→K' d h) (he:∀d h,E d h→E' d h) (c:T_ args h K E):T_ args h K' E':=by
 obtain ⟨c,p,sc,dn,dt,ans,s,T,a,b,e,k⟩:=c
 refine ⟨c,p,sc,dn,dt,ans,s,T,a,b,e,?_⟩
 split at k
 ·exact fun h' lF nY x y=>hk _ _ (k h' lF nY x y)
 ·exact he _ _ k
theorem Y4 (args:List D) (h:aa) (K E:D→aa→Prop) (c:T_ args h K E):aH Tryz.prog 70 args h (cY.to K E):=by
 obtain ⟨c,p,sc,dn,dt,ans,s,T,rfl,hs,hb,hk⟩:=c
 refine aH.cv J5 (dc:=cy.none) (fun _ _=>cy.cX) (by kernel_rfl) aj2 (by simp) ?_
 rw [cA]
 obtain ⟨kk,t,ss,n,l⟩:=p
 have ho:=hs.obj
 rw [fV] at ho
 simp only [Nd.lD] at hk
 unfold p7 at hk
 simp (maxSteps:=1000000) only [ajg,ho,iH,aA,seval]
 refine ⟨c,.mk kk t ss n l,sc,dn,dt,ans,s,rfl,hs,?_⟩
 cases hf:gz sc s with
 | some t'=>
  simp only [hf,Option.isNone_some,Bool.false_and,Bool.false_eq_true,if_false] at hk
  cases hq:eY l s with
  | none=>
   simp (maxSteps:=1000000) only [Option.getD_some,Option.isSome_some,ho,my,findD,hq,zNd,iH,aA,seval]
   intro i1 n1
   simp (maxSteps:=1000000) only [n1,bz,cE,aE,cond_false,aX,ab,av,aA,seval]
   exact ⟨h,gn n1,hk⟩
  | some o=>
   obtain ⟨ok,ot,os,on,ol⟩:=o
   simp (maxSteps:=1000000) only [Option.getD_some,Option.isSome_some,ho,my,findD,hq,aB,iH,aA,seval]
   intro i1 n1
   simp (maxSteps:=1000000) only [n1,bz,cE,aE,cond_false,aX,ab,av,aA,seval]
   exact ⟨h,gn n1,hk⟩
 | none=>
  cases hq:eY l s with
  | none=>
   simp only [hf,hq,Option.isNone_none,Bool.true_and,if_true] at hk
   simp (maxSteps:=1000000) only [Option.getD_none,Option.isSome_none,ho,my,findD,hq,zNd,iH,aA,seval]
   intro i1 n1
   have gy:¬c=i1:=fun e=>by subst e; rw [n1] at ho; cases ho
   have ads:¬i1=c:=fun e=>gy e.symm
   simp (maxSteps:=1000000) only [n1,gy,ads,ho,bz,cE,aW,cond_true,iH,aA,seval]
   have rX:=hs.ext (h':=h.set i1 (.cells [.int .i64 0,.int .i64 0,.str [],.int .i64 0,.aZ])) ((Ext.refl h).set n1)
   have hg0:Grow h (h.set i1 (.cells [.int .i64 0,.int .i64 0,.str [],.int .i64 0,.aZ])) c:=Grow.set (.inr n1) (by simp [n1])
   generalize hH:h.set i1 (.cells [.int .i64 0,.int .i64 0,.str [],.int .i64 0,.aZ])=H at rX hg0 ⊢
   have ti:=rX.obj
   rw [fV] at ti
   have nr:∀d xs,eO H d xs→rowOf d≠some c:=fun d xs hr e=>by
    obtain ⟨_,_,_,_,e2⟩:=hr.dz e
    rw [e2] at ti; cases ti
   have nrt:=nr _ _ rX.ty
   have nrn:=nr _ _ rX.nm
   have iy:∀i,rowOf dt=some i→rowOf dn≠some i:=fun i e1 e2=>by
    cases dt<;>cases dn<;>simp only [rowOf,reduceCtorEq,Option.some.injEq] at e1 e2
    exact hs.ne _ _ _ _ _ _ _ _ rfl rfl (e2.trans e1.symm)
   refine yD (c:=c) rX.nm ⟨rfl,rfl⟩ (by omega) (by rw [yW]; omega) fun d1 h1 r1 g1 f1 nj k1=>?_
   have hc1:=f1 c _ ti nrn
   have ht1:eO h1 dt (Yh sc):=rX.ty.frame fun i e=>by
    obtain ⟨_,_,_,_,e2⟩:=rX.ty.dz e
    rw [e2]; exact f1 i _ e2 (iy i e)
   simp (maxSteps:=1000000) only [hc1,rY,cellAt,List.all_cons,List.all_nil,Bool.and_true,iH,aA,seval]
   refine yD (c:=c) ht1 ⟨rfl,rfl⟩ (by omega) (by rw [Ft]; omega) fun d2 h2 r2 g2 f2 nn k2=>?_
   have hc2:=f2 c _ hc1 nrt
   simp (maxSteps:=1000000) only [hc2,k1.1,k1.2,k2.1,k2.2,ae,ab,av,iH,aA,seval]
   have hx:∀i,rowOf d1=some i→rowOf dt≠some i:=fun i e1 e2=>by
    rcases nj i e1 with e3 | e3
    ·exact iy i e2 e3
    ·obtain ⟨_,_,_,_,e4⟩:=rX.ty.dz e2
     rw [e4] at e3; cases e3
   have nU:eO h2 d1 (L5 sc++[[.str s]]):=r1.frame fun i e=>by
    obtain ⟨_,_,_,_,e2⟩:=r1.dz e
    rw [e2]; exact f2 i _ e2 (hx i e)
   have fc:∀{d xs} (o:cJ),eO h2 d xs→eO (h2.set c o) d xs:=fun o r=>r.frame fun i e=>by
    obtain ⟨_,_,_,_,e2⟩:=r.dz e
    have:i≠c:=fun x=>by rw [x,hc2] at e2; cases e2
    simp [this]
   rw [Ib] at nU
   rw [Kp] at r2
   refine .inl ⟨_,aa.aj _,hk _ d1 d2 ⟨?_,fc _ nU,fc _ r2,fun r v o l r' v' o' l' e1 e2 e3=>?_⟩ (((hg0.trans g1).trans g2).trans (Grow.set (.inl rfl) (by simp [hc2])))⟩
   ·simp [fV]
   ·subst e3
    have a1:rowOf d1=some r:=by rw [e1]; rfl
    have a2:rowOf d2=some r:=by rw [e2]; rfl
    rcases nn r a2 with e3 | e3
    ·exact hx r a1 e3
    ·obtain ⟨_,_,_,_,e4⟩:=r1.dz a1
     rw [e4] at e3; cases e3
  | some o=>
   obtain ⟨ok,ot,os,on,ol⟩:=o
   cases d:(ok==2) with
   | true=>
    have d':(ok != 2)=false:=by simp only [bne,d]; rfl
    simp only [hf,hq,Option.isNone_none,Bool.true_and,Nd.kD,d',Bool.false_eq_true,if_false] at hk
    simp (maxSteps:=1000000) only [Option.getD_none,Option.isSome_none,ho,my,findD,hq,aB,iH,aA,seval]
    intro i1 n1
    simp (maxSteps:=1000000) only [n1,d',bz,cE,aE,cond_false,aX,ab,av,aA,seval]
    exact ⟨h,gn n1,hk⟩
   | false=>
    have d':(ok != 2)=true:=by simp only [bne,d]; rfl
    simp only [hf,hq,Option.isNone_none,Bool.true_and,Nd.kD,d',if_true] at hk
    simp (maxSteps:=1000000) only [Option.getD_none,Option.isSome_none,ho,my,findD,hq,aB,iH,aA,seval]
    intro i1 n1
    have gy:¬c=i1:=fun e=>by subst e; rw [n1] at ho; cases ho
    have ads:¬i1=c:=fun e=>gy e.symm
    simp (maxSteps:=1000000) only [n1,gy,ads,ho,d',bz,cE,aW,cond_true,iH,aA,seval]
    have rX:=hs.ext (h':=h.set i1 (.cells [.int .i64 ok,.int .i64 ot,.str os,.int .i64 on,.sl (Nd.bg ol)])) ((Ext.refl h).set n1)
    have hg0:Grow h (h.set i1 (.cells [.int .i64 ok,.int .i64 ot,.str os,.int .i64 on,.sl (Nd.bg ol)])) c:=Grow.set (.inr n1) (by simp [n1])
    generalize hH:h.set i1 (.cells [.int .i64 ok,.int .i64 ot,.str os,.int .i64 on,.sl (Nd.bg ol)])=H at rX hg0 ⊢
    have ti:=rX.obj
    rw [fV] at ti
    have nr:∀d xs,eO H d xs→rowOf d≠some c:=fun d xs hr e=>by
     obtain ⟨_,_,_,_,e2⟩:=hr.dz e
     rw [e2] at ti; cases ti
    have nrt:=nr _ _ rX.ty
    have nrn:=nr _ _ rX.nm
    have iy:∀i,rowOf dt=some i→rowOf dn≠some i:=fun i e1 e2=>by
     cases dt<;>cases dn<;>simp only [rowOf,reduceCtorEq,Option.some.injEq] at e1 e2
     exact hs.ne _ _ _ _ _ _ _ _ rfl rfl (e2.trans e1.symm)
    refine yD (c:=c) rX.nm ⟨rfl,rfl⟩ (by omega) (by rw [yW]; omega) fun d1 h1 r1 g1 f1 nj k1=>?_
    have hc1:=f1 c _ ti nrn
    have ht1:eO h1 dt (Yh sc):=rX.ty.frame fun i e=>by
     obtain ⟨_,_,_,_,e2⟩:=rX.ty.dz e
     rw [e2]; exact f1 i _ e2 (iy i e)
    simp (maxSteps:=1000000) only [hc1,rY,cellAt,List.all_cons,List.all_nil,Bool.and_true,iH,aA,seval]
    refine yD (c:=c) ht1 ⟨rfl,rfl⟩ (by omega) (by rw [Ft]; omega) fun d2 h2 r2 g2 f2 nn k2=>?_
    have hc2:=f2 c _ hc1 nrt
    simp (maxSteps:=1000000) only [hc2,k1.1,k1.2,k2.1,k2.2,ae,ab,av,iH,aA,seval]
    have hx:∀i,rowOf d1=some i→rowOf dt≠some i:=fun i e1 e2=>by
     rcases nj i e1 with e3 | e3
     ·exact iy i e2 e3
     ·obtain ⟨_,_,_,_,e4⟩:=rX.ty.dz e2
      rw [e4] at e3; cases e3
    have nU:eO h2 d1 (L5 sc++[[.str s]]):=r1.frame fun i e=>by
     obtain ⟨_,_,_,_,e2⟩:=r1.dz e
     rw [e2]; exact f2 i _ e2 (hx i e)
    have fc:∀{d xs} (o:cJ),eO h2 d xs→eO (h2.set c o) d xs:=fun o r=>r.frame fun i e=>by
     obtain ⟨_,_,_,_,e2⟩:=r.dz e
     have:i≠c:=fun x=>by rw [x,hc2] at e2; cases e2
     simp [this]
    rw [Ib] at nU
    rw [Kp] at r2
    refine .inl ⟨_,aa.aj _,hk _ d1 d2 ⟨?_,fc _ nU,fc _ r2,fun r v o l r' v' o' l' e1 e2 e3=>?_⟩ (((hg0.trans g1).trans g2).trans (Grow.set (.inl rfl) (by simp [hc2])))⟩
    ·simp [fV]
    ·subst e3
     have a1:rowOf d1=some r:=by rw [e1]; rfl
     have a2:rowOf d2=some r:=by rw [e2]; rfl
     rcases nn r a2 with e3 | e3
     ·exact hx r a1 e3
     ·obtain ⟨_,_,_,_,e4⟩:=r1.dz a1
      rw [e4] at e3; cases e3
def lI:bh:=xW.gI 70 T_ RW
theorem QH:lI.q=xW.q:=rfl
theorem QF:lI.a=xW.a:=rfl
theorem QG (g:FuncId) (args:List D) (h:aa) (K E:D→aa→Prop):lI.c g args h K E=if g=70 then T_ args h K E else xW.c g args h K E:=rfl
theorem uS:lI.ok Tryz.prog:=bh.bQ J5 Y4
theorem bx:type_of% (And.intro (And.intro @QH (And.intro @QF @QG)) @iH):=(And.intro (And.intro @QH (And.intro @QF @QG)) @iH)
end
end Go.Proofs.YtpklkpkfgmoghaaGreatDoor.Zz
namespace Go.Proofs.YtpklkpkfgmoghaaGreatDoor.Zz
theorem UL {h:aa} {r v l sz cur:Nat} {xs:List (List D)} {du:List (Nat×Nat)} (ho:h.f r=some (.dz sz cur xs du)) (hk:Ch v l cur xs.length du) (hd:∀e∈du,e.1<cur):
  ∃E7 B_,E8 h (.row r v 0 l)=some (.row r E7 0 l,h.set r (.dz sz E7 (xs.take l) B_))∧(∀e∈B_,e.1<E7)∧(∀v' l',(v',l')∈du→v'≤v→Ch v' l' E7 l B_)∧Ch v l E7 l B_:=by
 by_cases hc:v=cur∧l=xs.length
 ·obtain ⟨rfl,rfl⟩:=hc
  refine ⟨v,du,?_,hd,fun v' l' hm _=>.inr hm,.inl ⟨rfl,rfl⟩⟩
  simp only [E8,ho,if_true,and_self]
  congr 2
  refine aa.ext fun i=>?_
  simp only [aa.b9,List.take_length]
  split
  ·rename_i e; subst e; exact ho
  ·rfl
 ·have hm:(v,l)∈du:=hk.resolve_left hc
  have key:∀v' l',(v',l')∈du→v'≤v→Ch v' l' (cur+1) l (du.filter fun e=>decide (e.1≤v)):=fun v' l' LI hle=>.inr (List.mem_filter.2 ⟨LI,by simpa using hle⟩)
  refine ⟨cur+1,du.filter fun e=>decide (e.1≤v),?_,fun e he=>Nat.lt_succ_of_lt (hd e (List.mem_filter.1 he).1),key,key v l hm (Nat.le_refl _)⟩
  simp only [E8,ho,if_true,if_neg hc,if_pos hm]
theorem G0 {h0 h:aa} {dn:D} {xs:List (List D)} (r0:eO h0 dn xs) (hv:∀d ys,s6 h0 d ys→s6 h d ys):
  ∃lF h',E8 h dn=some (lF,h')∧eO h' lF xs∧(∀i o,h.f i=some o→rowOf dn≠some i→h'.f i=some o)∧(∀d ys,s6 h0 d ys→s6 h' d ys)∧rowOf lF=rowOf dn∧bX lF=true∧cellsD lF=[lF]∧∀i,h.f i≠none→h'.f i≠none:=by
 rcases r0 with ⟨rfl,rfl⟩ | ⟨r,v,amx,rfl,g2,g3⟩
 ·exact ⟨.aZ,h,rfl,.inl ⟨rfl,rfl⟩,fun _ _ e _=>e,hv,rfl,rfl,rfl,fun _ e=>e⟩
 ·have me:=hv _ _ (eO.view (.inr ⟨r,v,amx,rfl,g2,g3⟩))
  rcases me with ⟨e,_⟩ | ⟨r1,v1,cur,ys,du,e1,e2,e3,e4,e5,e6⟩
  ·cases e
  ·cases e1
   obtain ⟨E7,B_,gy,iK,kl,mK⟩:=UL e2 e5 e6
   have hvc:v≤cur:=by
    rcases e5 with ⟨a,_⟩ | a
    ·omega
    ·have:=e6 _ a; simp only at this; omega
   refine ⟨_,_,gy,.inr ⟨r,E7,B_,rfl,by simp [←e3],iK⟩,fun i o e hn=>?_,fun d zs vz=>?_,rfl,rfl,rfl,fun i e=>tZ e⟩
   ·have:i≠r:=fun x=>hn (by rw [x]; rfl)
    simp [this,e]
   ·have vz1:=hv d zs vz
    rcases vz with vz | ⟨r',v',apL,ys0,aoZ,f1,f2,f3,f4,f5,f6⟩
    ·exact .inl vz
    ·subst f1
     rcases vz1 with ⟨e,_⟩ | ⟨r2,v2,alg,ys2,amy,k1,k2,k3,k4,k5,k6⟩
     ·cases e
     ·cases k1
      by_cases As:r'=r
      ·subst As
       rw [g2] at f2
       cases f2
       rw [e2] at k2
       cases k2
       have al3:v'≤v:=by
        rcases f5 with ⟨a,_⟩ | a
        ·omega
        ·have:=g3 _ a; simp only at this; omega
       have kn:Ch v' zs.length E7 xs.length B_:=by
        rcases k5 with ⟨a,b⟩ | a
        ·have hvv:v'=v:=by omega
         have hll:zs.length=xs.length:=by
          rcases f5 with ⟨_,b'⟩ | a'
          ·exact b'
          ·have:=g3 _ a'; simp only at this; omega
         rw [hvv,hll]; exact mK
        ·exact kl _ _ a al3
       refine .inr ⟨r',v',E7,xs,B_,rfl,by simp [←e3],f3,f4,kn,iK⟩
      ·exact .inr ⟨r',v',alg,ys2,amy,rfl,by simp [As,k2],k3,k4,k5,k6⟩
theorem Sg {h0 h:aa} {c:Nat} {p:Nd} {sc ku:dj} {dn dt Lx UY:D} {ans:Int} (s0c:iI h0 c p sc dn dt ans) (s1c:iI h c p ku Lx UY ans) (g:Grow h0 h c):
  ∃lF nY h',GZ h (.agg [dn,dt])=some (.agg [lF,nY],h')∧h'.f c=some (yj p Lx UY ans)∧bX lF=true∧bX nY=true∧cellsD lF=[lF]∧cellsD nY=[nY]∧
   iI (h'.set c (yj p lF nY ans)) c p sc lF nY ans∧Grow h0 (h'.set c (yj p lF nY ans)) c∧(∀i o,h.f i=some o→(∀sz aY xs du,o≠.dz sz aY xs du)→h'.f i=some o):=by
 obtain ⟨lF,h1,a1,a2,a3,a4,a5,a6,a7,a8⟩:=G0 s0c.nm g.view
 obtain ⟨nY,h2,b1,b2,b3,b4,b5,b6,b7,b8⟩:=G0 s0c.ty a4
 have yS:∀i o,h.f i=some o→(∀sz aY xs du,o≠.dz sz aY xs du)→rowOf dn≠some i:=fun i o e n x=>by
  rcases g.view _ _ s0c.nm.view with ⟨q,_⟩ | ⟨r,v,cur,ys,du,nj,nn,_⟩
  ·rw [q] at x; cases x
  ·rw [nj] at x; cases x
   rw [nn] at e; cases e; exact n _ _ _ _ rfl
 have alP:∀i o,h1.f i=some o→(∀sz aY xs du,o≠.dz sz aY xs du)→rowOf dt≠some i:=fun i o e n x=>by
  rcases a4 _ _ s0c.ty.view with ⟨q,_⟩ | ⟨r,v,cur,ys,du,nj,nn,_⟩
  ·rw [q] at x; cases x
  ·rw [nj] at x; cases x
   rw [nn] at e; cases e; exact n _ _ _ _ rfl
 have fM:∀i o,h.f i=some o→(∀sz aY xs du,o≠.dz sz aY xs du)→h2.f i=some o:=fun i o e n=>by
  have e1:=a3 i o e (yS i o e n)
  exact b3 i o e1 (alP i o e1 n)
 have hc:=fM c _ s1c.obj (fun _ _ _ _=>by rw [yj]; simp)
 have ne:∀i,rowOf dn=some i→rowOf dt≠some i:=fun i e1 e2=>by
  cases dn<;>cases dt<;>simp only [rowOf,reduceCtorEq,Option.some.injEq] at e1 e2
  exact s0c.ne _ _ _ _ _ _ _ _ rfl rfl (e1.trans e2.symm)
 have r2:eO h2 lF (L5 sc):=a2.frame fun i e=>by
  obtain ⟨_,_,_,_,e2⟩:=a2.dz e
  rw [e2]; exact b3 i _ e2 (ne i (a5▸e))
 have fc:∀{d xs} (o:cJ),eO h2 d xs→eO (h2.set c o) d xs:=fun o r=>r.frame fun i e=>by
  obtain ⟨_,_,_,_,e2⟩:=r.dz e
  have:i≠c:=fun x=>by rw [x,hc,yj] at e2; cases e2
  simp [this]
 refine ⟨lF,nY,h2,UN a1 b1,hc,a6,b6,a7,b7,⟨by simp,fc _ r2,fc _ b2,fun r v o l r' v' o' l' e1 e2 e3=>?_⟩,⟨fun i o e n k=>?_,fun d xs v=>?_,fun i e=>tZ (b8 i (a8 i (g.Nc i e)))⟩,fM⟩
 ·subst e3
  exact ne r (by rw [←a5,e1]; rfl) (by rw [←b5,e2]; rfl)
 ·rw [aa.b9,if_neg n]
  exact fM i o (g.fM i o e n k) k
 ·exact (Grow.set (c:=c) (.inl rfl) (by rw [hc,yj]; simp)).view d xs (b4 d xs v)
end Go.Proofs.YtpklkpkfgmoghaaGreatDoor.Zz
namespace Go.Proofs.YtpklkpkfgmoghaaGreatDoor.Zz
noncomputable section
def anj:cm:=⟨⟨[(10,4)],[(1,3),(8,4)],[],[((8,4),[(.t 5)])],[((8,1),(.t 5))],[]⟩,[(8,[0,1,2,3,4,5,6,7,8])],[],false⟩
def ajf:dU:=
 sO [oQ (.box (.t 1)) 3,
 oA 4]
 (sO [oF 0 3 9,
 oL 9 10,
 oH .eql 10 6 11,
 oC 45 [.t 11,kI 125] 12]
 (sO [oJ 5 3 13,
 oA 5,
 oS 5 5 13]
 (sO [oF 4 5 14,
 oU (.store 1 (.t 14) (.c .aZ))]
 (sO [oM 0 15,
 oN 15 16,
 oF 5 16 17,
 oJ 2 17 18,
 oQ (.alloc [.aZ,.aZ]) 6,
 oS 2 6 18]
 (.seq (sO [oF 4 3 19,
 oL 19 20,
 oZ 20 21,
 oP (.cB (kI 0)) 22]
 (.block 0 (.loop (sO [oE .lss 22 21 23]
 (.seq (.cond (.t 23)
 (.skip)
 (.exit 0))
 (.seq (.block 1 (sO [oI 5 20 22 24,
 oJ 5 24 25,
 oA 8,
 oS 5 8 25]
 (.fS 26 [oF 4 5 26,
 oQ (.cQ none (.t 26) (.t 5)) 27,
 oM 0 28,
 oJ 5 8 29,
 oQ (.callNe (.f 89) [(.t 28),(.t 29)] [(.t 5)]) 30,
 oP (.buildSlice 5 zN 1 [(0,(.t 30))] false) 31,
 oQ (.append 5 64 false (.t 27) (.t 31)) 32,
 oF 4 5 33,
 oS 1 33 32])))
 (.ops [oH .add 22 1 34,
 oM 34 22])))))))
 (sO [oM 0 35,
 oJ 2 6 36,
 oN 35 37,
 oF 5 37 38,
 oU (.lA 2 (.t 38) (.t 36))]
 (sO [oJ 5 5 39,
 oS 5 4 39]
 (.ret))))))))
theorem aj1:bA Tryz.prog 69 anj=some (ajf,[.cell 4 (some 5)],40):=by kernel_rfl
theorem Grow.put {h A:aa} {c i:Nat} {o:cJ} (g:Grow h A c) (hi:h.f i=none∨i=c) (ho:∀sz aY xs du,A.f i≠some (.dz sz aY xs du)):Grow h (A.set i o) c where
 Nc:=fun j e=>tZ (g.Nc j e)
 fM:=fun j q e n k=>by
  have:j≠i:=fun x=>by
   rcases hi with hi | hi
   ·rw [x,hi] at e; cases e
   ·exact n (x.trans hi)
  rw [aa.b9,if_neg this]; exact g.fM j q e n k
 view:=fun d xs v=>by
  rcases g.view d xs v with v | ⟨r,v,cur,ys,du,h1,h2,h3⟩
  ·exact .inl v
  ·have:r≠i:=fun x=>by rw [x] at h2; exact ho _ _ _ _ h2
   exact .inr ⟨r,v,cur,ys,du,h1,by simp [this,h2],h3⟩
theorem iI.put {A:aa} {c i:Nat} {o:cJ} {p:Nd} {sc:dj} {dn dt:D} {ans:Int} (s:iI A c p sc dn dt ans) (hi:i≠c) (ho:∀sz aY xs du,A.f i≠some (.dz sz aY xs du)):iI (A.set i o) c p sc dn dt ans:=by
 have fr:∀{d xs},eO A d xs→eO (A.set i o) d xs:=fun r=>r.frame fun j e=>by
  obtain ⟨_,_,_,_,e2⟩:=r.dz e
  have:j≠i:=fun x=>by rw [x] at e2; exact ho _ _ _ _ e2
  simp [this]
 exact ⟨by rw [aa.b9,if_neg (Ne.symm hi)]; exact s.obj,fr s.nm,fr s.ty,s.ne⟩
theorem eO.cell {h:aa} {d:D} {xs:List (List D)} (r:eO h d xs):bX d=true:=by
 rcases r with ⟨rfl,_⟩ | ⟨_,_,_,rfl,_⟩<;>rfl
theorem Mw (ks:List Nd) (ans:Int) (sc:dj):bW ks ans [] sc=.ok ([],sc):=by rw [bW]
theorem I7 (ks:List Nd) (ans:Int) (x:Nd) (l:List Nd) (sc:dj):bW ks ans (x::l) sc=match dF ks ans x sc with
  | .ok (x',sc')=>match bW ks ans l sc' with
   | .ok (l',aaP)=>.ok (x'::l',aaP)
   | .error e=>.error e
  | .error e=>.error e:=by rw [bW]; rfl
def qn (ks:List Nd) (ans:Int) (done l:List Nd) (sc:dj):CR (List Nd×dj):=match bW ks ans l sc with
 | .ok (l',sc')=>.ok (done++l',sc')
 | .error e=>.error e
theorem KZ (ks:List Nd) (ans:Int) (done:List Nd) (sc:dj):qn ks ans done [] sc=.ok (done,sc):=by rw [qn,Mw]; simp
theorem Gr (ks:List Nd) (ans:Int) (done:List Nd) (x:Nd) (l:List Nd) (sc:dj):qn ks ans done (x::l) sc=match dF ks ans x sc with
  | .ok (x',sc')=>qn ks ans (done++[x']) l sc'
  | .error e=>.error e:=by
 rw [qn,I7]
 cases dF ks ans x sc with
 | error e=>rfl
 | ok q=>
  obtain ⟨x',sc'⟩:=q
  simp only [qn]
  cases bW ks ans l sc' with
  | error e=>rfl
  | ok q=>obtain ⟨l',aaP⟩:=q; simp
def Y9 (G:Nat) (args:List D) (h:aa) (K E:D→aa→Prop):Prop:=∃(c:Nat) (p:Nd) (sc:dj) (dn dt:D) (ans:Int) (x:Nd),args=[.ptr c 1 0,.agg x.enc]∧iI h c p sc dn dt ans∧x.cI<G∧x.cI+sc.length≤1000000∧
 (match dF p.lD ans x sc with
 | .ok (x',sc')=>∀h' lF nY,iI h' c p sc' lF nY ans→Grow h h' c→sc'.length≤sc.length+1→K (.agg x'.enc) h'
 | .error e=>∀h',Grow h h' c→E (ft e) h')
theorem R5 (G:Nat) (args:List D) (h:aa) (K E K' E':D→aa→Prop) (hk:∀d h,K d h→K' d h) (he:∀d h,E d h→E' d h) (c:Y9 G args h K E):Y9 G args h K' E':=by
 obtain ⟨c,p,sc,dn,dt,ans,x,a,b,d,e,k⟩:=c
 refine ⟨c,p,sc,dn,dt,ans,x,a,b,d,e,?_⟩
 split at k
 ·exact fun h' lF nY x y z=>hk _ _ (k h' lF nY x y z)
 ·exact fun h' g=>he _ _ (k h' g)
def Tr (G:Nat):bh:=lI.gI 89 (Y9 G) (R5 G)
theorem X6 {G:Nat}:(Tr G).q=lI.q:=rfl
theorem X4 {G:Nat}:(Tr G).a=lI.a:=rfl
theorem X5 {G:Nat} (g:FuncId) (args:List D) (h:aa) (K E:D→aa→Prop):(Tr G).c g args h K E=if g=89 then Y9 G args h K E else lI.c g args h K E:=rfl
theorem mG:type_of% (And.intro (And.intro @X6 (And.intro @X4 @X5)) @bx):=(And.intro (And.intro @X6 (And.intro @X4 @X5)) @bx)
theorem vE {K E:D→aa→Prop} {σ:Fr} {A:aa} {a i2 r i:Nat} {k T n:Int} {s:List UInt8} {done:List Nd} (hσ:σ.env a=.ptr i2 1 0) (hA:A.f i2=some (.cells [.int .i64 k,.int .i64 T,.str s,.int .i64 n,fF r i]))
  (hd:done.length=i) (hr:i≠0→A.f r=some (.row 5 (i+2) (Nd.bg done) false)) (hk0:i=0→K (.agg (Nd.enc (.mk k T s n done))) A) (hk1:i≠0→K (.agg (Nd.enc (.mk k T s n done))) (A.set r (.row 5 (i+2) (Nd.bg done) true))):av [.cell a (some 5)] (cY.to K E) σ none A:=by
 have e:plain A (.agg [.int .i64 k,.int .i64 T,.str s,.int .i64 n,fF r i])=.agg (Nd.enc (.mk k T s n done)):=by
  rw [aB]
  by_cases h0:i=0
  ·subst h0
   have:done=[]:=List.length_eq_zero_iff.1 hd
   subst this
   rw [c_,bc]; rfl
  ·rw [bq h0]
   simp only [plain,List.map_cons,List.map_nil,hr h0]
   rw [if_pos ⟨trivial,by rw [aU,hd]; omega⟩,List.drop_zero,List.take_of_length_le (by rw [aU,hd]; omega)]
 refine ⟨[.agg [.int .i64 k,.int .i64 T,.str s,.int .i64 n,fF r i]],?_,.inr ⟨fQ A [.agg [.int .i64 k,.int .i64 T,.str s,.int .i64 n,fF r i]],aa.aj _,?_⟩⟩
 ·simp [eI,hσ,fj,hA,iF]
 ·show K (plain A (.agg [.int .i64 k,.int .i64 T,.str s,.int .i64 n,fF r i])) _
  rw [e]
  by_cases h0:i=0
  ·subst h0; exact hk0 rfl
  ·have e2:fQ A [.agg [.int .i64 k,.int .i64 T,.str s,.int .i64 n,fF r i]]=A.set r (.row 5 (i+2) (Nd.bg done) true):=by
    rw [bq h0]
    show fh A r=_
    rw [fh,hr h0]
   rw [e2]; exact hk1 h0
set_option maxHeartbeats 1000000 in
theorem zD (G:Nat) (hT:(Tr G).ok Tryz.prog) (c:Nat) (p:Nd) (sc:dj) (dn dt:D) (ans:Int) (x:Nd) (hx:x.cI<G+1) (hb:x.cI+sc.length≤1000000) (h:aa) (hs:iI h c p sc dn dt ans) (K E:D→aa→Prop)
  (hk:match dV p.lD ans x sc with
   | .ok x'=>∀h' lF nY,iI h' c p sc lF nY ans→Grow h h' c→K (.agg x'.enc) h'
   | .error e=>∀h',Grow h h' c→E (ft e) h'):aH Tryz.prog 69 [.ptr c 1 0,.agg x.enc] h (cY.to K E):=by
 refine aH.cv hT (dc:=cy.none) (fun _ _=>cy.cX) (by kernel_rfl) aj1 (by simp) ?_
 rw [cA]
 obtain ⟨k,t,s,n,l⟩:=x
 have lQ:∀y∈l,y.cI<G:=fun y hy=>by have:=jQ (k:=k) (t:=t) (s:=s) (n:=n) hy; omega
 have tg:Nd.eA l+sc.length≤1000000:=by rw [bd] at hb; omega
 have hll:l.length≤1000000:=by have:=jk l; omega
 unfold dV at hk
 rw [aB]
 simp (maxSteps:=1000000) only [ajf,mG,bx,aA,seval]
 intro i1 k1 i2 n1 n2 k2
 simp (maxSteps:=1000000) only [n1,n2,mG,bx,aA,seval]
 have g2:∀o o',Grow h ((h.set i1 o).set i2 o') c:=fun o o'=>((Grow.refl h c).put (.inl k1) (by simp [k1])).put (.inl k2) (by simp [n1,k2])
 cases sw:(k==6) with
 | false=>
  have adu:((Nd.mk k t s n l).kD==6)=false:=sw
  rw [if_neg (by rw [adu]; simp)] at hk
  simp (maxSteps:=1000000) only [bz,cE,aE,cond_false,aX,ab,av,aA,seval]
  exact ⟨_,aa.aj _,hk _ (g2 _ _)⟩
 | true=>
  have adu:((Nd.mk k t s n l).kD==6)=true:=sw
  rw [if_pos adu] at hk
  simp only [Nd.kD,Nd.tD,Nd.sD,Nd.lD] at hk
  simp (maxSteps:=1000000) only [bz,cE,aW,cond_true,n1,n2,mG,bx,aA,seval]
  intro i3 m1 m2 m3 m4 k3
  have ho:=hs.obj
  obtain ⟨pk,pt,ps,pn,pl⟩:=p
  rw [fV] at ho
  have d1:¬c=i1:=fun e=>by rw [e,k1] at ho; cases ho
  have d2:¬c=i2:=fun e=>by rw [e,k2] at ho; cases ho
  have d3:¬c=i3:=fun e=>by rw [e,k3] at ho; cases ho
  have YB:¬i1=c:=fun e=>d1 e.symm
  have BS:¬i2=c:=fun e=>d2 e.symm
  have E_:¬i3=c:=fun e=>d3 e.symm
  have kdn:=hs.nm.cell
  have kdt:=hs.ty.cell
  simp (maxSteps:=1000000) only [ho,d1,d2,d3,n1,n2,m1,m2,m3,m4,kdn,kdt,List.drop_succ_cons,List.drop_zero,mG,bx,aA,seval]
  intro i4 o1 o2 o3 o4 o5 o6 k4
  have d4:¬c=i4:=fun e=>by rw [e,k4] at ho; cases ho
  have d4':¬i4=c:=fun e=>d4 e.symm
  simp (maxSteps:=1000000) only [o1,o2,o3,o4,o5,o6,n1,n2,m1,m2,m3,m4,aU,mG,bx,aA,seval]
  intro _
  refine cj (X:=Nat×Nat×List Nd×dj×D×D×aa) (fun z=>[(0,.ptr c 1 0),(3,.ptr i1 1 0),(4,.ptr i2 1 0),(5,.ptr i3 1 0),(6,.ptr i4 1 0),(20,.sl (Nd.bg l)),(21,.int .i64 l.length),(22,.int .i64 z.1)]) (fun z=>z.2.2.2.2.2.2) (fun z=>l.length - z.1)
   (fun z=>z.1≤l.length∧z.2.2.2.2.2.2.f i1=some (.cells [.int .i64 k,.int .i64 t,.str s,.int .i64 n,.sl (Nd.bg l)])∧z.2.2.2.2.2.2.f i2=some (.cells [.int .i64 0,.int .i64 0,.str [],.int .i64 0,.aZ])∧
    z.2.2.2.2.2.2.f i3=some (.cells [.int .i64 k,.int .i64 t,.str s,.int .i64 n,fF z.2.1 z.1])∧z.2.2.2.2.2.2.f i4=some (.cells [dn,dt])∧z.2.2.1.length=z.1∧
    (z.1≠0→h.f z.2.1=none∧z.2.2.2.2.2.2.f z.2.1=some (.row 5 (z.1+2) (Nd.bg z.2.2.1) false))∧
    iI z.2.2.2.2.2.2 c (.mk pk pt ps pn pl) z.2.2.2.1 z.2.2.2.2.1 z.2.2.2.2.2.1 ans∧Grow h z.2.2.2.2.2.2 c∧Nd.eA (l.drop z.1)+z.2.2.2.1.length≤1000000∧bW pl ans l sc=qn pl ans z.2.2.1 (l.drop z.1) z.2.2.2.1) (0,0,[],sc,dn,dt,_) ⟨Nat.zero_le _,?_,?_,?_,?_,rfl,fun h=>absurd rfl h,?_,?_,?_,?_⟩ ?_ (aa.aj _) ?_
  ·simp [n1,n2,m1,m2,m3,m4,o1,o2,o3,o4,o5,o6]
  ·simp [n1,n2,m1,m2,m3,m4,o1,o2,o3,o4,o5,o6]
  ·simp [n1,n2,m1,m2,m3,m4,o1,o2,o3,o4,o5,o6,c_]
  ·simp [n1,n2,m1,m2,m3,m4,o1,o2,o3,o4,o5,o6]
  ·exact (((hs.put YB (by simp [k1])).put BS (by simp [n1,k2])).put E_ (by simp [m1,m2,m3,m4,k3])).put d4' (by simp [o1,o2,o3,o4,o5,o6,k4])
  ·exact ((g2 _ _).put (.inl k3) (by simp [m1,m2,m3,m4,k3])).put (.inl k4) (by simp [o1,o2,o3,o4,o5,o6,k4])
  ·simpa using tg
  ·rw [List.drop_zero,qn]
   cases hq:bW pl ans l sc with
   | error e=>rfl
   | ok q=>obtain ⟨a,b⟩:=q; rfl
  ·simp only [aA,seval]
  rintro ⟨i,r,done,ku,Lx,UY,hh⟩ Q ⟨j0,v1,v2,v3,v4,vd,vr,vs,vg,vn,va⟩ hQ
  simp only at j0 v1 v2 v3 v4 vd vr vs vg vn va hQ ⊢
  cases iJ:decide (i<l.length) with
  | true=>
   have iJ:i<l.length:=by simpa using iJ
   obtain ⟨y,hy⟩:∃y,l[i]? =some y:=⟨_,List.getElem?_eq_getElem iJ⟩
   have g:((i:Int)<(l.length:Int))=True:=eq_true (by omega)
   have Au:y∈l:=List.mem_of_getElem? hy
   have wi:IntKind.i64.wrap ((i:Int)+1)=((i+1:Nat):Int):=cp (by omega)
   have ie:∀(K:D→aa→Prop) (h:aa),fx 5 K h (Nd.bg l) (i:Int)=K (.cO y.enc 0) h:=fun K h=>cG hy
   have Vx:=lQ y Au
   rw [iP hy,Gr] at va
   rw [iP hy,aD] at vn
   obtain ⟨yk,yt,yx,ym,yl⟩:=y
   rw [aB] at ie
   simp (maxSteps:=1000000) only [g,v1,v2,v3,ie,mG,bx,aA,seval]
   intro i7 k7
   have gW:∀{q:Nat} {o:cJ},hh.f q=some o→¬i7=q:=fun hq e=>by rw [e,hq] at k7; cases k7
   have Cb:=gW v1
   have wP:=gW v2
   have Ik:=gW v3
   have p4c:=gW v4
   have pc:=gW vs.obj
   have qT:¬i1=i7:=fun e=>Cb e.symm
   have oB:¬i2=i7:=fun e=>wP e.symm
   have qU:¬i3=i7:=fun e=>Ik e.symm
   have am8:¬i4=i7:=fun e=>p4c e.symm
   have kh7:h.f i7=none:=by
    by_cases e:h.f i7=none
    ·exact e
    ·exact absurd k7 (vg.Nc i7 e)
   have s7c:=fun o=>vs.put (o:=o) pc (by simp [k7])
   have g7:=fun o=>vg.put (o:=o) (.inl kh7) (by simp [k7])
   simp (maxSteps:=1000000) only [v1,v2,v3,Cb,wP,Ik,qT,oB,qU,mG,bx,aA,seval]
   refine ⟨c,.mk pk pt ps pn pl,ku,Lx,UY,ans,.mk yk yt yx ym yl,by rw [aB],s7c _,Vx,by omega,?_⟩
   simp only [Nd.lD]
   cases he:dF pl ans (.mk yk yt yx ym yl) ku with
   | error e=>
    rw [he] at va
    simp only at va
    rw [va] at hk
    simp only at hk ⊢
    intro h' gh
    intro σ hσ _
    simp only [aX]
    rw [hσ]
    simp only [ab,av]
    exact ⟨_,aa.aj _,hk _ ((g7 _).trans gh)⟩
   | ok q=>
    obtain ⟨y',Gh⟩:=q
    rw [he] at va
    simp only at va ⊢
    intro h' dn2 dt2 vs2 gh hl2
    have sC:∀{ds:List D},∀sz aY xs du,cJ.cells ds≠.dz sz aY xs du:=fun _ _ _ _ e=>by cases e
    have u1:=gh.fM i1 _ (by rw [aa.b9,if_neg qT]; exact v1) YB sC
    have u2:=gh.fM i2 _ (by rw [aa.b9,if_neg oB]; exact v2) BS sC
    have u3:=gh.fM i3 _ (by rw [aa.b9,if_neg qU]; exact v3) E_ sC
    have u4:=gh.fM i4 _ (by rw [aa.b9,if_neg am8]; exact v4) d4' sC
    have ur:i≠0→h'.f r=some (.row 5 (i+2) (Nd.bg done) false):=fun h0=>by
     obtain ⟨nj,nn⟩:=vr h0
     exact gh.fM r _ (by rw [aa.b9,if_neg fun e=>gW nn e.symm]; exact nn) (fun e=>by rw [←e,nj] at ho; cases ho) (fun _ _ _ _ e=>by cases e)
    have gg:=(g7 _).trans gh
    refine ⟨u3,⟨au y',aC y'⟩,?_⟩
    rw [show cellsD (D.agg y'.enc)=y'.enc from rfl,ah]
    have LO:(Nd.bg done).length=i:=by rw [aU,vd]
    refine lV (b:=64) LO ur ⟨au y',aC y'⟩ (by omega) (by omega) fun r' a1 a2=>?_
    have kr:h.f r'=none:=by
     by_cases h0:i=0
     ·by_cases e:h.f r'=none
      ·exact e
      ·exact absurd (a1 h0) (gg.Nc r' e)
     ·rw [a2 h0]; exact (vr h0).1
    have rne:∀{q:Nat} {ds:List D},h'.f q=some (.cells ds)→¬r'=q:=fun {q ds} hq e=>by
     by_cases h0:i=0
     ·rw [←e,a1 h0] at hq; cases hq
     ·have:=ur h0
      rw [←a2 h0,e,hq] at this; cases this
    have r1:=rne u1
    have r2:=rne u2
    have r3:=rne u3
    have r4:=rne u4
    have rc:¬r'=c:=fun e=>by rw [e] at kr; rw [kr] at ho; cases ho
    have rar:∀sz aY xs du,h'.f r'≠some (.dz sz aY xs du):=fun sz aY xs du e=>by
     by_cases h0:i=0
     ·rw [a1 h0] at e; cases e
     ·rw [a2 h0,ur h0] at e; cases e
    have nU:¬i1=r':=fun e=>r1 e.symm
    have oT:¬i2=r':=fun e=>r2 e.symm
    have uB:¬i3=r':=fun e=>r3 e.symm
    have r4':¬i4=r':=fun e=>r4 e.symm
    simp (maxSteps:=1000000) only [u1,u2,u3,r1,r2,r3,nU,oT,uB,wi,mG,bx,aA,seval]
    refine hQ (i+1,r',done++[y'],Gh,dn2,dt2,_) _ _ ⟨iJ,?_,?_,?_,?_,?_,fun _=>⟨kr,?_⟩,?_,?_,by have:=E6 (Nd.mk yk yt yx ym yl); simp only; omega,va⟩ (by simp only [bq (Nat.succ_ne_zero i),aA,seval]) (aa.aj _) (by simp only; omega)
    ·simp [nU,u1,m1,m2,m3,m4]
    ·simp [oT,u2,m1,m2,m3,m4]
    ·simp [bq (Nat.succ_ne_zero i)]
    ·simp [r4',u4,o1,o2,o3,o4,o5,o6]
    ·simp [vd]
    ·simp [r3,uB,fE]
    ·exact (vs2.put rc rar).put E_ (by simp [uB,u3])
    ·exact (gg.put (.inl kr) rar).put (.inl k3) (by simp [uB,u3])
  | false=>
   have e0:i=l.length:=by simp at iJ; omega
   have g:((i:Int)<(l.length:Int))=False:=eq_false (by omega)
   rw [List.drop_eq_nil_of_le (by omega),KZ] at va
   rw [va] at hk
   simp only at hk
   obtain ⟨lF,nY,h',w1,w2,w3,w4,w5,w6,w7,w8,w9⟩:=Sg hs vs vg
   have sC:∀{ds:List D},∀sz aY xs du,cJ.cells ds≠.dz sz aY xs du:=fun _ _ _ _ e=>by cases e
   have u1:=w9 i1 _ v1 sC
   have u2:=w9 i2 _ v2 sC
   have u3:=w9 i3 _ v3 sC
   have u4:=w9 i4 _ v4 sC
   have ur:i≠0→h'.f r=some (.row 5 (i+2) (Nd.bg done) false):=fun h0=>w9 r _ (vr h0).2 (fun _ _ _ _ e=>by cases e)
   rw [fV] at w2
   simp (maxSteps:=1000000) only [g,v4,mG,bx,aA,seval]
   simp (maxSteps:=1000000) only [w1,mG,bx,aA,seval]
   have B8:bX (fF r i)=true:=by unfold fF; split<;>rfl
   simp (maxSteps:=1000000) only [w2,w3,w4,u1,u2,u3,YB,BS,E_,d4',m1,m2,m3,m4,B8,af,ab,mG,bx,aA,seval]
   rw [fV] at w7 w8
   have rn2:i≠0→¬r=i2:=fun h0 e=>by have:=ur h0; rw [e,u2] at this; cases this
   have rnc:i≠0→¬r=c:=fun h0 e=>by have:=ur h0; rw [e,w2] at this; cases this
   have sF:=w7.put (i:=i2) (o:=.cells [.int .i64 k,.int .i64 t,.str s,.int .i64 n,fF r i]) BS (by simp [BS,u2])
   have gF:=w8.put (i:=i2) (o:=.cells [.int .i64 k,.int .i64 t,.str s,.int .i64 n,fF r i]) (.inl k2) (by simp [BS,u2])
   refine vE (i2:=i2) (r:=r) (i:=i) (done:=done) (by simp only [aA,seval]) (by simp only [aA,seval]) vd (fun h0=>by simp [rn2 h0,rnc h0,ur h0]) (fun h0=>hk _ lF nY sF gF) (fun h0=>hk _ lF nY (sF.put (rnc h0) (by simp [rn2 h0,rnc h0,ur h0])) (gF.put (.inl (vr h0).1) (by simp [rn2 h0,rnc h0,ur h0])))
end
end Go.Proofs.YtpklkpkfgmoghaaGreatDoor.Zz
