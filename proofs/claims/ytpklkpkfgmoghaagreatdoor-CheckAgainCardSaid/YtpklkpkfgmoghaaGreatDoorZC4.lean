/- Contracts: a declaration's name, variable, call. -/
import Derived.Test.YtpklkpkfgmoghaaGreatDoorZC2
set_option linter.unnecessarySimpa false
set_option linter.unusedVariables false
set_option linter.unusedSimpArgs false
set_option maxRecDepth 20000
namespace Go.Proofs.YtpklkpkfgmoghaaGreatDoor.Zz
noncomputable section
def aif:cm:=⟨⟨[],[(1,3)],[],[],[],[]⟩,[],[],false⟩
def ab1:dU:=
 sO [oQ (.box (.t 0)) 2,
 oQ (.box (.t 1)) 3,
 oA 4,
 oP (.cB (kB false)) 5]
 (sO [oF 4 2 7,
 oL 7 8,
 oP (.mkFunc (.func 112) [] [(.t 3)]) 9,
 oC 111 [.t 8,.t 9] 10,
 oM 10 6]
 (.seq (sO [oM 6 11,
 oH .lss 11 0 12]
 (.cond (.t 12)
 (sO [oP (.build zN []) 13,
 oS 5 4 13,
 oP (.cB (kB false)) 5]
 (.ret))
 (.skip)))
 (sO [oF 4 2 14,
 oL 14 15,
 oM 6 16,
 oI 5 15 16 17,
 oJ 5 17 18,
 oS 5 4 18,
 oP (.cB (kB true)) 5]
 (.ret))))
theorem afu:bA Tryz.prog 91 aif=some (ab1,[.cell 4 (some 5),.tmp 5],19):=by kernel_rfl
def air:cm:=⟨⟨[],[(4,5)],[],[],[],[]⟩,[],[],false⟩
def ab_:dU:=
 sO [oP (.cB (kI 0)) 4]
 (.seq (sO [oM 0 6,
 oZ 6 7,
 oP (.cB (kI 0)) 8]
 (.block 0 (.loop (sO [oE .lss 8 7 9]
 (.seq (.cond (.t 9)
 (.skip)
 (.exit 0))
 (.seq (.block 1 (sO [oM 8 10,
 oM 10 5]
 (sO [oM 1 11,
 oM 0 12,
 oM 5 13,
 oI 5 12 13 14,
 oJ 5 14 15,
 oQ (.call (.t 11) [(.t 15)]) 16]
 (.cond (.t 16)
 (sO [oM 5 17,
 oM 17 4]
 (.ret))
 (.skip)))))
 (.ops [oH .add 8 1 18,
 oM 18 8])))))))
 (sO [oP (.cB (kI (-1))) 4]
 (.ret)))
theorem afF:bA Tryz.prog 111 air=some (ab_,[.tmp 4],19):=by kernel_rfl
def ais:cm:=⟨⟨[],[],[],[],[],[]⟩,[],[],false⟩
def aca:dU:=
 sO [oQ (.box (.t 0)) 2,
 oP (.cB (kB false)) 3]
 (sO [oF 2 2 4,
 oL 4 5,
 oL 1 6,
 oE .eql 5 6 7,
 oM 7 3]
 (.ret))
theorem afG:bA Tryz.prog 112 ais=some (aca,[.tmp 3],8):=by kernel_rfl
def cNm (args:List D) (h:aa) (K E:D→aa→Prop):Prop:=∃(x:Nd) (s:List UInt8) (b:Nat),args=[.agg x.enc,.ptr b 1 0]∧h.f b=some (.cells [.str s])∧K (.bool (x.sD==s)) h
theorem Ut (args:List D) (h:aa) (K E K' E':D→aa→Prop) (hk:∀d h,K d h→K' d h) (he:∀d h,E d h→E' d h) (c:cNm args h K E):cNm args h K' E':=by
 obtain ⟨x,s,b,a,e,k⟩:=c
 exact ⟨x,s,b,a,e,hk _ _ k⟩
theorem adF (args:List D) (h:aa) (K E:D→aa→Prop) (c:cNm args h K E):aH Tryz.prog 112 args h (cY.to K E):=by
 obtain ⟨x,s,b,rfl,hb,k⟩:=c
 obtain ⟨kk,t,ss,n,l⟩:=x
 refine aH.cv Ke (dc:=cy.none) (fun _ _=>cy.cX) (by kernel_rfl) afG (by simp) ?_
 rw [cA]
 simp (maxSteps:=1000000) only [aca,aB,y_,aA,seval]
 intro i1 n1
 have iy:i1≠b:=fun e=>by subst e; rw [n1] at hb; cases hb
 simp (maxSteps:=1000000) only [n1,hb,iy,iy.symm,af,ab,av,y_,aA,seval]
 first | exact ⟨h,gn n1,k⟩ | exact .inl ⟨h,gn n1,k⟩
def rI:bh:=yc.gI 112 cNm Ut
theorem JB:rI.q=yc.q:=rfl
theorem Jz:rI.a=yc.a:=rfl
theorem JA (g:FuncId) (args:List D) (h:aa) (K E:D→aa→Prop):rI.c g args h K E=if g=112 then cNm args h K E else yc.c g args h K E:=rfl
theorem Eg:rI.ok Tryz.prog:=bh.bQ Ke adF
theorem mF:type_of% (And.intro (And.intro @JB (And.intro @Jz @JA)) @y_):=(And.intro (And.intro @JB (And.intro @Jz @JA)) @y_)
def LR (ks:List Nd) (s:List UInt8):Int:=match ks.findIdx? (fun x=>x.sD==s) with
 | some i=>(i:Int)
 | none=> -1
theorem NL {ks:List Nd} {s:List UInt8} {i:Nat} {p:Nd} (h:ks[i]? =some p) (e:(p.sD==s)=true) (hj:∀(j:Nat) (q:Nd),j<i→ks[j]? =some q→(q.sD==s)=false):LR ks s=(i:Int)∧eY ks s=some p:=by
 obtain ⟨ig,hg⟩:=List.getElem?_eq_some_iff.1 h
 have hf:ks.findIdx? (fun x=>x.sD==s)=some i:=List.findIdx?_eq_some_iff_getElem.2 ⟨ig,by rw [hg]; exact e,fun j Ga=>by
  have hl:j<ks.length:=by omega
  rw [hj j _ Ga (List.getElem?_eq_getElem hl)]
  simp⟩
 refine ⟨by rw [LR,hf],?_⟩
 exact List.find?_eq_some_iff_getElem.2 ⟨e,i,ig,hg,fun j Ga=>by
  have hl:j<ks.length:=by omega
  rw [hj j _ Ga (List.getElem?_eq_getElem hl)]
  rfl⟩
theorem Dh {ks:List Nd} {s:List UInt8} (hj:∀(j:Nat) (q:Nd),ks[j]? =some q→(q.sD==s)=false):LR ks s= -1∧eY ks s=none:=by
 have hf:ks.findIdx? (fun x=>x.sD==s)=none:=List.findIdx?_eq_none_iff.2 fun x hx=>by
  obtain ⟨j,yr⟩:=List.mem_iff_getElem?.1 hx
  exact hj j x yr
 have Sv:ks.find? (fun x=>x.sD==s)=none:=List.find?_eq_none.2 fun x hx=>by
  obtain ⟨j,yr⟩:=List.mem_iff_getElem?.1 hx
  rw [hj j x yr]; simp
 exact ⟨by rw [LR,hf],Sv⟩
theorem LS (ks:List Nd) (s:List UInt8):(LR ks s= -1∧eY ks s=none)∨∃(i:Nat) (p:Nd),ks[i]? =some p∧LR ks s=(i:Int)∧eY ks s=some p:=by
 cases hf:ks.findIdx? (fun x=>x.sD==s) with
 | none=>
  refine .inl (Dh fun j q hq=>?_)
  exact List.findIdx?_eq_none_iff.1 hf q (List.mem_of_getElem? hq)
 | some i=>
  obtain ⟨ig,h1,h2⟩:=List.findIdx?_eq_some_iff_getElem.1 hf
  refine .inr ⟨i,ks[i],List.getElem?_eq_getElem ig,NL (List.getElem?_eq_getElem ig) h1 fun j q hj hq=>?_⟩
  obtain ⟨hl,rfl⟩:=List.getElem?_eq_some_iff.1 hq
  simpa using h2 j hj
def Uk (args:List D) (h:aa) (K E:D→aa→Prop):Prop:=∃(ks:List Nd) (s:List UInt8) (b:Nat),args=[.sl (Nd.bg ks),.func (.func 112) [] [.ptr b 1 0]]∧h.f b=some (.cells [.str s])∧K (.int .i64 (LR ks s)) h
theorem RX (args:List D) (h:aa) (K E K' E':D→aa→Prop) (hk:∀d h,K d h→K' d h) (he:∀d h,E d h→E' d h) (c:Uk args h K E):Uk args h K' E':=by
 obtain ⟨x,s,b,a,e,k⟩:=c
 exact ⟨x,s,b,a,e,hk _ _ k⟩
theorem Y5 (args:List D) (h:aa) (K E:D→aa→Prop) (c:Uk args h K E):aH Tryz.prog 111 args h (cY.to K E):=by
 obtain ⟨ks,s,b,rfl,hb,k⟩:=c
 refine aH.cv Eg (dc:=cy.none) (fun _ _=>cy.cX) (by kernel_rfl) afF (by simp) ?_
 rw [cA]
 simp (maxSteps:=1000000) only [ab_,aU,mF,aA,seval]
 intro hlen
 refine cj (X:=Nat) (fun i=>[(0,.sl (Nd.bg ks)),(1,.func (.func 112) [] [.ptr b 1 0]),(7,.int .i64 (ks.length:Int)),(8,.int .i64 i)]) (fun _=>h) (fun i=>ks.length - i) (fun i=>i≤ks.length∧∀(j:Nat) (q:Nd),j<i→ks[j]? =some q→(q.sD==s)=false) 0 ⟨by omega,fun j p hj=>by omega⟩ (by simp only [aA,seval]) (aa.aj _) ?_
 rintro i Q ⟨i1,i2⟩ hQ
 by_cases iJ:i<ks.length
 ·obtain ⟨p,hp⟩:∃p,ks[i]? =some p:=⟨_,List.getElem?_eq_getElem iJ⟩
  have g:((i:Int)<(ks.length:Int))=True:=eq_true (by omega)
  have wi:IntKind.i64.wrap ((i:Int)+1)=((i+1:Nat):Int):=cp (by omega)
  have ie:∀(K:D→aa→Prop) (h:aa),fx 5 K h (Nd.bg ks) (i:Int)=K (.cO p.enc 0) h:=fun K h=>cG hp
  have TI:=hp
  obtain ⟨k',t',ss',n',l'⟩:=p
  simp (maxSteps:=1000000) only [g,ie,aB,mF,aA,seval]
  refine ⟨.mk k' t' ss' n' l',s,b,by rw [aB],hb,?_⟩
  cases gy:(Nd.sD (.mk k' t' ss' n' l')==s) with
  | true=>
   simp (maxSteps:=1000000) only [af,ab,av,mF,aA,seval]
   rw [(NL hp gy i2).1] at k
   first | exact ⟨h,aa.aj h,k⟩ | exact .inl ⟨h,aa.aj h,k⟩
  | false=>
   simp (maxSteps:=1000000) only [wi,mF,aA,seval]
   refine hQ (i+1) _ _ ⟨by omega,fun j q hj hq=>?_⟩ ?_ (aa.aj _) (by omega)
   ·rcases Nat.lt_succ_iff_lt_or_eq.1 hj with hj | rfl
    ·exact i2 j q hj hq
    ·rw [hp] at hq; cases hq; exact gy
   ·simp only [aA,seval]
 ·have g:((i:Int)<(ks.length:Int))=False:=eq_false (by omega)
  simp (maxSteps:=1000000) only [g,af,ab,av,mF,aA,seval]
  rw [(Dh fun j q hq=>i2 j q (by have:=(List.getElem?_eq_some_iff.1 hq).1; omega) hq).1] at k
  first | exact ⟨h,aa.aj h,k⟩ | exact .inl ⟨h,aa.aj h,k⟩
def rH:bh:=rI.gI 111 Uk RX
theorem Jy:rH.q=rI.q:=rfl
theorem Jw:rH.a=rI.a:=rfl
theorem Jx (g:FuncId) (args:List D) (h:aa) (K E:D→aa→Prop):rH.c g args h K E=if g=111 then Uk args h K E else rI.c g args h K E:=rfl
theorem Ef:rH.ok Tryz.prog:=bh.bQ Eg Y5
theorem o_:type_of% (And.intro (And.intro @Jy (And.intro @Jw @Jx)) @mF):=(And.intro (And.intro @Jy (And.intro @Jw @Jx)) @mF)
def zNd:D:=.agg [.int .i64 0,.int .i64 0,.str [],.int .i64 0,.aZ]
def findD (ks:List Nd) (s:List UInt8):D:=match eY ks s with
 | some o=>.tuple [.agg o.enc,.bool true]
 | none=>.tuple [zNd,.bool false]
theorem adS (k t:Int) (ss:List UInt8) (n:Int) (ks:List Nd) (s:List UInt8):aV Tryz.prog 91 [.agg (Nd.enc (.mk k t ss n ks)),.str s] (findD ks s):=by
 refine aV.run Ef afu (by simp) fun E=>?_
 simp (maxSteps:=1000000) only [ab1,aB,o_,aA,seval]
 intro i1  i2 an ak i3 ax aw az ay
 simp (maxSteps:=1000000) only [an,ak,ax,aw,az,ay,o_,aA,seval]
 refine ⟨ks,s,i2,rfl,by simp [an,ak,ax,aw,az,ay],?_⟩
 unfold findD
 rcases LS ks s with ⟨e1,e2⟩ | ⟨i,q,hq,e1,e2⟩
 ·simp (maxSteps:=1000000) only [e1,e2,zNd,an,ak,ax,aw,az,ay,o_,aA,seval]
 ·have hi:=(List.getElem?_eq_some_iff.1 hq).1
  have g:((i:Int)<0)=False:=eq_false (by omega)
  have ie:∀(K:D→aa→Prop) (h:aa),fx 5 K h (Nd.bg ks) (i:Int)=K (.cO q.enc 0) h:=fun K h=>cG hq
  obtain ⟨k',t',ss',n',l'⟩:=q
  simp (maxSteps:=1000000) only [e1,e2,g,ie,aB,an,ak,ax,aw,az,ay,o_,aA,seval]
open Classical in
def A8 (args:List D):Option D:=if h:∃x:Nd×List UInt8,args=[.agg x.1.enc,.str x.2] then some (findD (Classical.choose h).1.lD (Classical.choose h).2) else none
theorem S0 (p:Nd) (s:List UInt8):A8 [.agg p.enc,.str s]=some (findD p.lD s):=by
 have h:∃x:Nd×List UInt8,[D.agg p.enc,.str s]=[.agg x.1.enc,.str x.2]:=⟨(p,s),rfl⟩
 rw [A8,dif_pos h]
 have e:=Classical.choose_spec h
 injection e with e1 e2
 injection e1 with e1
 injection e2 with e2
 injection e2 with e2
 rw [←po _ _ e1,←e2]
theorem my (k t:Int) (ss:List UInt8) (n:Int) (ks:List Nd) (s:List UInt8):A8 [.agg [.int .i64 k,.int .i64 t,.str ss,.int .i64 n,.sl (Nd.bg ks)],.str s]=some (findD ks s):=by
 have:=S0 (.mk k t ss n ks) s
 rwa [aB] at this
theorem V7 (args:List D) (d:D) (h:A8 args=some d):aV Tryz.prog 91 args d:=by
 unfold A8 at h
 split at h
 ·rename_i hx
  have e:=Classical.choose_spec hx
  cases h
  obtain ⟨⟨p,s⟩,hp⟩:∃x,x=Classical.choose hx:=⟨_,rfl⟩
  rw [←hp] at e ⊢
  rw [e]
  obtain ⟨k,t,ss,n,ks⟩:=p
  exact adS k t ss n ks s
 ·cases h
def rz:bh:=rH.dR 91 A8
theorem Jb (g:FuncId) (args:List D):rz.q g args=if g=91 then A8 args else rH.q g args:=rfl
theorem I_:rz.a=rH.a:=rfl
theorem Ja:rz.c=rH.c:=rfl
theorem Ea:rz.ok Tryz.prog:=bh.bE Ef V7
theorem jr:type_of% (And.intro (And.intro @Jb (And.intro @I_ @Ja)) @o_):=(And.intro (And.intro @Jb (And.intro @I_ @Ja)) @o_)
def ain:cm:=⟨⟨[],[(1,4),(5,6)],[],[],[],[]⟩,[],[],false⟩
def ab7:dU:=
 sO [oP (.cB (kI 0)) 4]
 (.seq (sO [oM 0 10,
 oN 10 11,
 oF 5 11 12,
 oM 1 13,
 oC 90 [.t 12,.t 13] 14,
 oM 14 9,
 oX 9 0 15,
 oX 9 1 16,
 oM 15 5,
 oM 16 6]
 (sO [oM 6 17]
 (.cond (.t 17)
 (sO [oM 5 18,
 oM 18 4]
 (.ret))
 (.skip))))
 (sO [oM 0 20,
 oN 20 21,
 oF 0 21 22,
 oJ 5 22 23,
 oM 1 24,
 oD 91 [.t 23,.t 24] 25,
 oM 25 19,
 oX 19 0 26,
 oX 19 1 27,
 oA 7,
 oS 5 7 26,
 oM 27 8]
 (sO [oM 8 28,
 oM 28 29,
 oG (.fieldAddr 0 (.t 7)) 30 29 true true,
 oG (.load none (.t 30)) 31 29 true false,
 oG (.bin .eql (.t 31) (kI 2)) 32 29 true true,
 oP (.pick (.t 29) (.t 32) (kB false)) 33,
 oC 45 [.t 33,kI 121] 34]
 (sO [oF 1 7 35,
 oL 35 36,
 oM 36 4]
 (.ret)))))
theorem afB:bA Tryz.prog 107 ain=some (ab7,[.tmp 4],37):=by kernel_rfl
def UC (args:List D) (h:aa) (K E:D→aa→Prop):Prop:=∃(c:Nat) (p:Nd) (sc:dj) (dn dt:D) (ans:Int) (s:List UInt8),args=[.ptr c 1 0,.str s]∧iI h c p sc dn dt ans∧Sf K E h (some (crR (mQ p.lD sc s)))
theorem R7 (args:List D) (h:aa) (K E K' E':D→aa→Prop) (hk:∀d h,K d h→K' d h) (he:∀d h,E d h→E' d h) (c:UC args h K E):UC args h K' E':=by
 obtain ⟨c,p,sc,dn,dt,ans,s,a,b,k⟩:=c
 exact ⟨c,p,sc,dn,dt,ans,s,a,b,kR hk he k⟩
theorem Za (args:List D) (h:aa) (K E:D→aa→Prop) (c:UC args h K E):aH Tryz.prog 107 args h (cY.to K E):=by
 obtain ⟨c,p,sc,dn,dt,ans,s,rfl,hs,k⟩:=c
 refine aH.cv Ea (dc:=cy.none) (fun _ _=>cy.cX) (by kernel_rfl) afB (by simp) ?_
 rw [cA]
 obtain ⟨kk,t,ss,n,l⟩:=p
 have ho:=hs.obj
 rw [fV] at ho
 simp (maxSteps:=1000000) only [ab7,ho,jr,aA,seval]
 refine ⟨c,.mk kk t ss n l,sc,dn,dt,ans,s,rfl,hs,?_⟩
 simp only [Nd.lD] at k
 unfold mQ at k
 cases hf:gz sc s with
 | some t'=>
  rw [hf] at k
  simp (maxSteps:=1000000) only [Option.getD_some,Option.isSome_some,af,ab,av,jr,aA,seval]
  first | exact ⟨h,aa.aj h,k⟩ | exact .inl ⟨h,aa.aj h,k⟩
 | none=>
  rw [hf] at k
  simp (maxSteps:=1000000) only [Option.getD_none,Option.isSome_none,ho,my,jr,aA,seval]
  unfold findD
  cases hk:eY l s with
  | none=>
   rw [hk] at k
   simp (maxSteps:=1000000) only [zNd,jr,aA,seval]
   intro i1 n1
   simp (maxSteps:=1000000) only [n1,bz,cE,aE,cond_false,aX,ab,av,jr,aA,seval]
   exact ⟨h,gn n1,k⟩
  | some o=>
   obtain ⟨k',t',ss',n',l'⟩:=o
   rw [hk] at k
   simp only [Nd.kD,Nd.tD] at k
   simp (maxSteps:=1000000) only [aB,jr,aA,seval]
   intro i1 n1
   cases gy:(k'==2) with
   | true=>
    simp only [gy,if_true,dW,aW] at k
    simp (maxSteps:=1000000) only [n1,gy,bz,cE,aW,cond_true,af,ab,av,jr,aA,seval]
    first | exact ⟨h,gn n1,k⟩ | exact .inl ⟨h,gn n1,k⟩
   | false=>
    simp only [gy,Bool.false_eq_true,if_false,cR,aE] at k
    simp (maxSteps:=1000000) only [n1,gy,bz,cE,aE,cond_false,aX,ab,av,jr,aA,seval]
    first | exact ⟨h,gn n1,k⟩ | exact .inl ⟨h,gn n1,k⟩
def rD:bh:=rz.gI 107 UC R7
theorem Jl:rD.q=rz.q:=rfl
theorem Jj:rD.a=rz.a:=rfl
theorem Jk (g:FuncId) (args:List D) (h:aa) (K E:D→aa→Prop):rD.c g args h K E=if g=107 then UC args h K E else rz.c g args h K E:=rfl
theorem Ec:rD.ok Tryz.prog:=bh.bQ Ea Za
theorem fN:type_of% (And.intro (And.intro @Jl (And.intro @Jj @Jk)) @jr):=(And.intro (And.intro @Jl (And.intro @Jj @Jk)) @jr)
end
end Go.Proofs.YtpklkpkfgmoghaaGreatDoor.Zz
namespace Go.Proofs.YtpklkpkfgmoghaaGreatDoor.Zz
noncomputable section
def aio:cm:=⟨⟨[],[(2,6),(3,7),(7,9)],[(7,5)],[],[],[]⟩,[(7,[0,1,2,3,4,5,6,7,8,9])],[],false⟩
def ab8:dU:=
 sO [oP (.cB (kI 0)) 6]
 (sO [oM 0 12,
 oN 12 13,
 oF 0 13 14,
 oJ 5 14 15,
 oM 1 16,
 oD 91 [.t 15,.t 16] 17,
 oM 17 11,
 oX 11 0 18,
 oX 11 1 19,
 oA 7,
 oS 5 7 18,
 oM 19 8]
 (sO [oM 8 20,
 oM 20 21,
 oG (.fieldAddr 0 (.t 7)) 22 21 true true,
 oG (.load none (.t 22)) 23 21 true false,
 oG (.bin .eql (.t 23) (kI 3)) 24 21 true true,
 oP (.pick (.t 21) (.t 24) (kB false)) 25,
 oC 45 [.t 25,kI 121] 26]
 (sO [oM 2 27,
 oZ 27 28,
 oF 4 7 29,
 oL 29 30,
 oZ 30 31,
 oH .sub 31 1 32,
 oE .eql 28 32 33,
 oC 45 [.t 33,kI 123] 34]
 (.seq (sO [oM 2 35,
 oZ 35 36,
 oP (.cB (kI 0)) 37]
 (.block 0 (.loop (sO [oE .lss 37 36 38]
 (.seq (.cond (.t 38)
 (.skip)
 (.exit 0))
 (.seq (.block 1 (sO [oM 37 39,
 oI 5 35 37 40,
 oJ 5 40 41,
 oA 10,
 oM 39 9,
 oS 5 10 41]
 (.fS 42 [oF 1 10 42,
 oL 42 43,
 oF 4 7 44,
 oL 44 45,
 oM 9 46,
 oI 5 45 46 47,
 oF 1 47 48,
 oL 48 49,
 oE .eql 43 49 50,
 oC 45 [.t 50,kI 122] 51])))
 (.ops [oH .add 37 1 52,
 oM 52 37])))))))
 (sO [oF 1 7 53,
 oL 53 54,
 oM 54 6]
 (.ret))))))
theorem afC:bA Tryz.prog 108 aio=some (ab8,[.tmp 6],55):=by kernel_rfl
theorem K4 (a:Nd) (ar:List Nd) (b:Nd) (bs:List Nd):jF (a::ar) (b::bs)=if a.tD==b.tD then jF ar bs else .error 122:=rfl
theorem RM (bs:List Nd):jF [] bs=.ok ():=rfl
theorem iP {α:Type} {l:List α} {i:Nat} {x:α} (h:l[i]? =some x):l.drop i=x::l.drop (i+1):=by
 obtain ⟨ig,hg⟩:=List.getElem?_eq_some_iff.1 h
 rw [←hg]; exact List.drop_eq_getElem_cons ig
theorem aaV {h:aa} {i j:Nat} {o p:cJ} (n:h.f i=none) (m:h.f j=none):h.sub ((h.set i o).set j p):=fun q x hq=>by
 have h1:q≠i:=fun e=>by subst e; rw [n] at hq; cases hq
 have h2:q≠j:=fun e=>by subst e; rw [m] at hq; cases hq
 simp [h1,h2,hq]
def GB (args:List D) (h:aa) (K E:D→aa→Prop):Prop:=∃(c:Nat) (p:Nd) (sc:dj) (dn dt:D) (ans:Int) (s:List UInt8) (al:List Nd),args=[.ptr c 1 0,.str s,.sl (Nd.bg al)]∧iI h c p sc dn dt ans∧Sf K E h (some (crR (pU p.lD s al)))
theorem Lc (args:List D) (h:aa) (K E K' E':D→aa→Prop) (hk:∀d h,K d h→K' d h) (he:∀d h,E d h→E' d h) (c:GB args h K E):GB args h K' E':=by
 obtain ⟨c,p,sc,dn,dt,ans,s,al,a,b,k⟩:=c
 exact ⟨c,p,sc,dn,dt,ans,s,al,a,b,kR hk he k⟩
theorem T5 (args:List D) (h:aa) (K E:D→aa→Prop) (c:GB args h K E):aH Tryz.prog 108 args h (cY.to K E):=by
 obtain ⟨c,p,sc,dn,dt,ans,s,al,rfl,hs,k⟩:=c
 refine aH.cv Ec (dc:=cy.none) (fun _ _=>cy.cX) (by kernel_rfl) afC (by simp) ?_
 rw [cA]
 obtain ⟨kk,t,ss,n,l⟩:=p
 have ho:=hs.obj
 rw [fV] at ho
 simp only [Nd.lD] at k
 unfold pU at k
 simp (maxSteps:=1000000) only [ab8,ho,my,fN,aA,seval]
 unfold findD
 cases hk:eY l s with
 | none=>
  rw [hk] at k
  simp (maxSteps:=1000000) only [zNd,fN,aA,seval]
  intro i1 n1
  simp (maxSteps:=1000000) only [n1,bz,cE,aE,cond_false,aX,ab,av,fN,aA,seval]
  exact ⟨h,gn n1,k⟩
 | some o=>
  obtain ⟨k',t',ss',n',l'⟩:=o
  rw [hk] at k
  simp only [Nd.kD,Nd.tD,Nd.lD] at k
  simp (maxSteps:=1000000) only [aB,fN,aA,seval]
  intro i1 n1
  cases gy:(k'==3) with
  | false=>
   simp only [gy,Bool.false_eq_true,if_false,cR,aE] at k
   simp (maxSteps:=1000000) only [n1,gy,bz,cE,aE,cond_false,aX,ab,av,fN,aA,seval]
   first | exact ⟨h,gn n1,k⟩ | exact .inl ⟨h,gn n1,k⟩
  | true=>
   simp only [gy,if_true] at k
   simp (maxSteps:=1000000) only [n1,gy,bz,cE,aW,cond_true,aU,fN,aA,seval]
   intro Zy hl2
   rw [wrap_i64 (by omega) (by omega)]
   cases iK:(al.length+1==l'.length) with
   | false=>
    simp only [iK,Bool.false_eq_true,if_false,cR,aE] at k
    have g:((al.length:Int)==(l'.length:Int) - 1)=false:=by
     simp only [beq_eq_false_iff_ne] at iK ⊢; omega
    simp (maxSteps:=1000000) only [g,bz,cE,aE,cond_false,aX,ab,av,fN,aA,seval]
    first | exact ⟨h,gn n1,k⟩ | exact .inl ⟨h,gn n1,k⟩
   | true=>
    simp only [iK,if_true] at k
    have hlen:al.length+1=l'.length:=by simpa using iK
    have g:((al.length:Int)==(l'.length:Int) - 1)=true:=by
     simp only [beq_iff_eq]; omega
    simp (maxSteps:=1000000) only [g,bz,cE,aW,cond_true,aU,fN,aA,seval]
    intro hl3
    refine cj (X:=Nat) (fun i=>[(7,.ptr i1 1 0),(35,.sl (Nd.bg al)),(36,.int .i64 (al.length:Int)),(37,.int .i64 i)]) (fun _=>h.set i1 (.cells [.int .i64 k',.int .i64 t',.str ss',.int .i64 n',.sl (Nd.bg l')])) (fun i=>al.length - i) (fun i=>i≤al.length∧jF al l'=jF (al.drop i) (l'.drop i)) 0 ⟨by omega,rfl⟩ (by simp only [aA,seval]) (aa.aj _) ?_
    rintro i Q ⟨j1,j2⟩ hQ
    by_cases iJ:i<al.length
    ·obtain ⟨x,hx⟩:∃x,al[i]? =some x:=⟨_,List.getElem?_eq_getElem iJ⟩
     obtain ⟨y,hy⟩:∃y,l'[i]? =some y:=⟨_,List.getElem?_eq_getElem (by omega)⟩
     have g:((i:Int)<(al.length:Int))=True:=eq_true (by omega)
     have wi:IntKind.i64.wrap ((i:Int)+1)=((i+1:Nat):Int):=cp (by omega)
     have ie:∀(K:D→aa→Prop) (h:aa),fx 5 K h (Nd.bg al) (i:Int)=K (.cO x.enc 0) h:=fun K h=>cG hx
     have aln:∀(K:D→aa→Prop) (h:aa),fx 5 K h (Nd.bg l') (i:Int)=K (.cO y.enc 0) h:=fun K h=>cG hy
     rw [iP hx,iP hy,K4] at j2
     obtain ⟨xk,xt,xs,xn,xl⟩:=x
     obtain ⟨yk,yt,ys,yn,yl⟩:=y
     simp only [Nd.tD] at j2
     simp (maxSteps:=1000000) only [g,ie,aB,fN,aA,seval]
     intro i2 n2 n3 n4
     have Zs:∀(K:D→aa→Prop) (h:aa),fx 5 K h (Nd.bg l') (i:Int)=K (.cO [.int .i64 yk,.int .i64 yt,.str ys,.int .i64 yn,.sl (Nd.bg yl)] 0) h:=fun K h=>by rw [aln,aB]
     simp (maxSteps:=1000000) only [n1,n2,n3,n4,Zs,fN,aA,seval]
     cases kl:(xt==yt) with
     | true=>
      simp only [kl,if_true] at j2
      simp (maxSteps:=1000000) only [bz,cE,aW,cond_true,wi,fN,aA,seval]
      exact hQ (i+1) _ _ ⟨by omega,j2⟩ (by simp only [aA,seval]) (gn (by simp [n2,n3,n4])) (by omega)
     | false=>
      simp only [kl,Bool.false_eq_true,if_false] at j2
      rw [j2] at k
      simp only [cR,aE] at k
      simp (maxSteps:=1000000) only [bz,cE,aE,cond_false,fN,aA,seval]
      intro σ hσ _
      simp only [aX]
      rw [hσ]
      simp only [ab,av]
      exact ⟨h,aaV n1 (by first | exact n2 | exact n3 | exact n4),k⟩
    ·have g:((i:Int)<(al.length:Int))=False:=eq_false (by omega)
     have e:jF al l'=.ok ():=by rw [j2,List.drop_eq_nil_of_le (by omega),RM]
     rw [e] at k
     simp only [dW,aW] at k
     simp (maxSteps:=1000000) only [g,n1,af,ab,av,fN,aA,seval]
     first | exact ⟨h,gn n1,k⟩ | exact .inl ⟨h,gn n1,k⟩
def lC:bh:=rD.gI 108 GB Lc
theorem Jo:lC.q=rD.q:=rfl
theorem Jm:lC.a=rD.a:=rfl
theorem Jn (g:FuncId) (args:List D) (h:aa) (K E:D→aa→Prop):lC.c g args h K E=if g=108 then GB args h K E else rD.c g args h K E:=rfl
theorem wb:lC.ok Tryz.prog:=bh.bQ Ec T5
theorem cd:type_of% (And.intro (And.intro @Jo (And.intro @Jm @Jn)) @fN):=(And.intro (And.intro @Jo (And.intro @Jm @Jn)) @fN)
end
end Go.Proofs.YtpklkpkfgmoghaaGreatDoor.Zz
