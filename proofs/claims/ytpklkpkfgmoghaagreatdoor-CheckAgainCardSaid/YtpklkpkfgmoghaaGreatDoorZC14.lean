/- Contracts: statements and blocks of any size. -/
import Derived.Test.YtpklkpkfgmoghaaGreatDoorZC10
import Derived.Test.YtpklkpkfgmoghaaGreatDoorZP17
import Derived.Test.YtpklkpkfgmoghaaGreatDoorZZH
set_option linter.unnecessarySimpa false
set_option linter.unusedVariables false
set_option linter.unusedSimpArgs false
set_option maxRecDepth 20000
namespace Go.Proofs.YtpklkpkfgmoghaaGreatDoor.Zz
noncomputable section
theorem Rm:∀G,(Tr G).ok Tryz.prog
 | 0=>bh.bQ uS fun args h K E ⟨c,p,sc,dn,dt,ans,x,a,b,d,e,k⟩=>absurd d (Nat.not_lt_zero _)
 | G+1=>bh.bQ uS fun args h K E ⟨c,p,sc,dn,dt,ans,x,a,b,d,e,k⟩=>by
  subst a
  exact Tk G (aa4 (Rm G)) c p sc dn dt ans x d e h b K E k
def cBl (args:List D) (h:aa) (K E:D→aa→Prop):Prop:=∃(c:Nat) (p:Nd) (sc:dj) (dn dt:D) (ans:Int) (x:Nd),args=[.ptr c 1 0,.agg x.enc]∧iI h c p sc dn dt ans∧x.cI+sc.length≤1000000∧
 (match dV p.lD ans x sc with
 | .ok x'=>∀h' lF nY,iI h' c p sc lF nY ans→Grow h h' c→K (.agg x'.enc) h'
 | .error e=>∀h',Grow h h' c→E (ft e) h')
theorem T3 (args:List D) (h:aa) (K E K' E':D→aa→Prop) (hk:∀d h,K d h→K' d h) (he:∀d h,E d h→E' d h) (c:cBl args h K E):cBl args h K' E':=by
 obtain ⟨c,p,sc,dn,dt,ans,x,a,b,e,k⟩:=c
 refine ⟨c,p,sc,dn,dt,ans,x,a,b,e,?_⟩
 split at k
 ·exact fun h' lF nY x y=>hk _ _ (k h' lF nY x y)
 ·exact fun h' g=>he _ _ (k h' g)
theorem adw (args:List D) (h:aa) (K E:D→aa→Prop) (c:cBl args h K E):aH Tryz.prog 69 args h (cY.to K E):=by
 obtain ⟨c,p,sc,dn,dt,ans,x,rfl,b,e,k⟩:=c
 exact zD x.cI (Rm _) c p sc dn dt ans x (Nat.lt_succ_self _) e h b K E k
def xX:bh:=lI.gI 69 cBl T3
theorem QE:xX.q=lI.q:=rfl
theorem QB:xX.a=lI.a:=rfl
theorem QC (g:FuncId) (args:List D) (h:aa) (K E:D→aa→Prop):xX.c g args h K E=if g=69 then cBl args h K E else lI.c g args h K E:=rfl
theorem Xw:xX.ok Tryz.prog:=bh.bQ uS adw
theorem QD:type_of% (And.intro (And.intro @QE (And.intro @QB @QC)) @bx):=(And.intro (And.intro @QE (And.intro @QB @QC)) @bx)
def anm:cm:=⟨⟨[],[],[],[],[],[]⟩,[],[],false⟩
def afr:dU:=
 sO [oQ (.box (.t 0)) 1,
 oP (.cB (kB false)) 2]
 (.seq (sO [oF 4 1 4,
 oL 4 5,
 oZ 5 6,
 oH .eql 6 0 7]
 (.cond (.t 7)
 (sO [oP (.cB (kB false)) 2]
 (.ret))
 (.skip)))
 (.seq (sO [oF 4 1 8,
 oL 8 9,
 oF 4 1 10,
 oL 10 11,
 oZ 11 12,
 oH .sub 12 1 13,
 oI 5 9 13 14,
 oJ 5 14 15,
 oA 3,
 oS 5 3 15]
 (sO [oF 0 3 16,
 oL 16 17]
 (.block 0 (sO [oH .eql 17 11 19,
 oM 19 18]
 (.cond (.t 18)
 (sO [oP (.cB (kB true)) 2]
 (.ret))
 (sO [oH .eql 17 9 21,
 oM 21 20]
 (.cond (.t 20)
 (sO [oF 4 3 22,
 oL 22 23,
 oZ 23 24,
 oH .eql 24 3 25,
 oM 25 26,
 oG (.fieldAddr 4 (.t 3)) 27 26 true true,
 oG (.load none (.t 27)) 28 26 true false,
 oG (.aS 5 (.t 28) (kI 1)) 29 26 true false,
 oG (.load (some 5) (.t 29)) 30 26 true false,
 oG (.qcall (.f 72) [(.t 30)]) 31 26 true false,
 oP (.pick (.t 26) (.t 31) (kB false)) 32,
 oM 32 33,
 oG (.fieldAddr 4 (.t 3)) 34 33 true true,
 oG (.load none (.t 34)) 35 33 true false,
 oG (.aS 5 (.t 35) (kI 2)) 36 33 true false,
 oG (.load (some 5) (.t 36)) 37 33 true false,
 oG (.qcall (.f 72) [(.t 37)]) 38 33 true false,
 oP (.pick (.t 33) (.t 38) (kB false)) 39,
 oM 39 2]
 (.ret))
 (sO [oH .eql 17 6 41,
 oM 41 40]
 (.cond (.t 40)
 (sO [oJ 5 3 42,
 oD 72 [.t 42] 43,
 oM 43 2]
 (.ret))
 (.skip))))))))))
 (sO [oP (.cB (kB false)) 2]
 (.ret))))
theorem aj4:bA Tryz.prog 72 anm=some (afr,[.tmp 2],44):=by kernel_rfl
open Classical in
def qE (G:Nat) (args:List D):Option D:=if h:∃x:Nd,x.cI<G∧args=[.agg x.enc] then some (.bool (iE (Classical.choose h))) else none
theorem Mk {G:Nat} {x:Nd} (hx:x.cI<G):qE G [.agg x.enc]=some (.bool (iE x)):=by
 have h:∃y:Nd,y.cI<G∧[D.agg x.enc]=[.agg y.enc]:=⟨x,hx,rfl⟩
 rw [qE,dif_pos h]
 have e:=(Classical.choose_spec h).2
 injection e with e1
 injection e1 with e1
 rw [←po _ _ e1]
theorem aiG {G:Nat} (hG:∀x:Nd,x.cI<G→aV Tryz.prog 72 [.agg x.enc] (.bool (iE x))) (args:List D) (d:D) (h:qE G args=some d):aV Tryz.prog 72 args d:=by
 unfold qE at h
 split at h
 ·rename_i hx
  have e:=Classical.choose_spec hx
  cases h
  obtain ⟨x,hp⟩:∃x,x=Classical.choose hx:=⟨_,rfl⟩
  rw [←hp] at e ⊢
  obtain ⟨e1,rfl⟩:=e
  exact hG x e1
 ·cases h
theorem Lz (L:List Nd) (b:Nd):jH (L++[b])=t_ b:=by
 induction L with
 | nil=>rw [List.nil_append,jH]
 | cons x L ih=>
  cases L with
  | nil=>rw [List.cons_append,List.nil_append,jH,jH]
  | cons y L=>rw [List.cons_append,List.cons_append,jH]; exact ih
theorem Sm (G:Nat) (hT:(bh.zero.dR 72 (qE G)).ok Tryz.prog) (x:Nd) (hx:x.cI<G+1):aV Tryz.prog 72 [.agg x.enc] (.bool (iE x)):=by
 refine aV.run hT aj4 (by simp) fun E=>?_
 have fR:∀g args,(bh.zero.dR 72 (qE G)).q g args=if g=72 then qE G args else bh.zero.q g args:=fun g args=>rfl
 generalize bh.zero.dR 72 (qE G)=TT at fR ⊢
 obtain ⟨k,t,s,n,l⟩:=x
 have lQ:∀y∈l,y.cI<G:=fun y hy=>by have:=jQ (k:=k) (t:=t) (s:=s) (n:=n) hy; omega
 rw [aB,iE]
 rcases List.eq_nil_or_concat l with rfl | ⟨L,b,rfl⟩
 ·simp (maxSteps:=1000000) only [afr,bc,aU,fR,jH,aA,seval]
  try simp
 ·have hb:(L++[b])[L.length]? =some b:=by simp
  have ie:∀(K:D→aa→Prop) (h:aa),fx 5 K h (Nd.bg (L++[b])) (L.length:Int)=K (.cO b.enc 0) h:=fun K h=>cG hb
  simp only [List.concat_eq_append] at lQ ⊢
  rw [Lz]
  have hbc:=lQ b (by simp)
  have iJ:(((L.length+1:Nat):Int)==0)=false:=beq_eq_false_iff_ne.2 (by omega)
  obtain ⟨bk,bt,bs,bn,bl⟩:=b
  simp only [aB] at ie
  rw [t_.eq_def]
  simp only
  have hS:qE G [.agg (Nd.enc (.mk bk bt bs bn bl))]=some (.bool (iE (.mk bk bt bs bn bl))):=Mk hbc
  rw [aB,iE] at hS
  simp (maxSteps:=1000000) only [afr,iJ,aU,List.length_append,List.length_cons,List.length_nil,fR,aA,seval]
  intro i1 hl _
  have hw:IntKind.i64.wrap (((L.length+1:Nat):Int) - 1)=(L.length:Int):=by
   rw [show ((L.length+1:Nat):Int) - 1=(L.length:Int) by omega]
   exact BO (by omega)
  rw [hw]
  simp (maxSteps:=1000000) only [ie,aU,fR,aA,seval]
  intro i2 n1 n2
  cases SC:(bk==11) with
  | true=>simp (maxSteps:=1000000) only [SC,n1,n2,if_true,fR,aA,seval]
  | false=>
   cases k9:(bk==9) with
   | false=>
    cases k6:(bk==6) with
    | true=>simp (maxSteps:=1000000) only [SC,k9,k6,hS,n1,n2,if_true,Bool.false_eq_true,if_false,fR,aA,seval]
    | false=>simp (maxSteps:=1000000) only [SC,k9,k6,hS,n1,n2,if_true,Bool.false_eq_true,if_false,fR,aA,seval]
   | true=>
    simp (maxSteps:=1000000) only [SC,k9,hS,n1,n2,if_true,Bool.false_eq_true,if_false,aU,fR,aA,seval]
    intro _
    cases cl:(bl.length==3) with
    | false=>
     have hJ:((bl.length:Int)==3)=false:=beq_eq_false_iff_ne.2 (by have:=beq_eq_false_iff_ne.1 cl; omega)
     simp only [hJ,Bool.false_eq_true,if_false]
     refine .inl ?_
     rcases bl with _ | ⟨a0,_ | ⟨a1,_ | ⟨a2,_ | ⟨a3,r⟩⟩⟩⟩<;>first | rfl | cases cl
    | true=>
     obtain ⟨a0,a1,a2,rfl⟩:∃a0 a1 a2,bl=[a0,a1,a2]:=by
      match bl,cl with
      | [a0,a1,a2],_=>exact ⟨a0,a1,a2,rfl⟩
     have gy:a1.cI<G:=by have:=jQ (k:=bk) (t:=bt) (s:=bs) (n:=bn) (show a1∈[a0,a1,a2] by simp); omega
     have iK:a2.cI<G:=by have:=jQ (k:=bk) (t:=bt) (s:=bs) (n:=bn) (show a2∈[a0,a1,a2] by simp); omega
     have h1:=Mk gy
     have h2:=Mk iK
     have Zs:∀(K:D→aa→Prop) (h:aa),fx 5 K h (Nd.bg [a0,a1,a2]) (1:Int)=K (.cO a1.enc 0) h:=fun K h=>cG (l:=[a0,a1,a2]) (i:=1) rfl
     have te:∀(K:D→aa→Prop) (h:aa),fx 5 K h (Nd.bg [a0,a1,a2]) (2:Int)=K (.cO a2.enc 0) h:=fun K h=>cG (l:=[a0,a1,a2]) (i:=2) rfl
     have hJ:((([a0,a1,a2]:List Nd).length:Int)==3)=true:=rfl
     obtain ⟨k1,t1,s1c,m1,l1⟩:=a1
     obtain ⟨k2,t2,s2c,m2,l2⟩:=a2
     rw [aB] at h1 h2
     simp only [aB] at Zs te
     simp only [hJ,if_true]
     cases e1:iE (.mk k1 t1 s1c m1 l1)<;>cases e2:iE (.mk k2 t2 s2c m2 l2)<;>rw [e1] at h1<;>rw [e2] at h2<;>
      simp (maxSteps:=1000000) only [Zs,te,h1,h2,e1,e2,Bool.and_true,Bool.and_false,Bool.true_and,Bool.false_and,n1,n2,fR,aA,seval]
theorem Hb:∀(G:Nat) (x:Nd),x.cI<G→aV Tryz.prog 72 [.agg x.enc] (.bool (iE x))
 | 0,x,h=>absurd h (Nat.not_lt_zero _)
 | G+1,x,h=>Sm G (bh.bE (bh.dJ _) (aiG (Hb G))) x h
open Classical in
def Ml (args:List D):Option D:=if h:∃x:Nd,args=[.agg x.enc] then some (.bool (iE (Classical.choose h))) else none
theorem Wn (x:Nd):Ml [.agg x.enc]=some (.bool (iE x)):=by
 have h:∃y:Nd,[D.agg x.enc]=[.agg y.enc]:=⟨x,rfl⟩
 rw [Ml,dif_pos h]
 have e:=Classical.choose_spec h
 injection e with e1
 injection e1 with e1
 rw [←po _ _ e1]
theorem aaA (args:List D) (d:D) (h:Ml args=some d):aV Tryz.prog 72 args d:=by
 unfold Ml at h
 split at h
 ·rename_i hx
  have e:=Classical.choose_spec hx
  cases h
  obtain ⟨x,hp⟩:∃x,x=Classical.choose hx:=⟨_,rfl⟩
  rw [←hp] at e ⊢
  subst e
  exact Hb (x.cI+1) x (Nat.lt_succ_self _)
 ·cases h
def xZ:bh:=xX.dR 72 Ml
theorem QR (g:FuncId) (args:List D):xZ.q g args=if g=72 then Ml args else xX.q g args:=rfl
theorem QO:xZ.a=xX.a:=rfl
theorem QP:xZ.c=xX.c:=rfl
theorem XH:xZ.ok Tryz.prog:=bh.bE Xw aaA
theorem QQ:type_of% (And.intro (And.intro @QR (And.intro @QO @QP)) @QD):=(And.intro (And.intro @QR (And.intro @QO @QP)) @QD)
end
end Go.Proofs.YtpklkpkfgmoghaaGreatDoor.Zz
namespace Go.Proofs.YtpklkpkfgmoghaaGreatDoor.Zz
noncomputable section
def anl:cm:=⟨⟨[(3,0)],[],[],[],[],[]⟩,[],[],false⟩
def ajh:dU:=
 sO [oP (.cB (.c .aZ)) 2]
 (.seq (sO [oM 0 3,
 oQ (.isNil false (.t 3)) 4]
 (.cond (.t 4)
 (sO [oP (.cB (.c .aZ)) 2]
 (.ret))
 (.skip)))
 (sO [oQ (.buildSlice 5 zN 0 [] true) 5,
 oM 0 6,
 oQ (.append 5 64 false (.t 5) (.t 6)) 7,
 oM 7 2]
 (.ret)))
theorem aj3:bA Tryz.prog 71 anl=some (ajh,[.tmp 2],8):=by kernel_rfl
theorem Zd (xs:List (List D)) (hx:∀y∈xs,y.length=5∧y.all bX=true) (hl:xs.length*64≤140737488355328) (h:aa):aH Tryz.prog 71 [.sl xs] h fun o h'=>∃d,o=.ret d∧((xs=[]∧d=.aZ∧h'=h)∨∃id,h.f id=none∧d=.row id (xs.length+2) 0 xs.length∧h'=h.set id (.row 5 (xs.length+2) xs false)):=by
 refine aH.run (bh.dJ _) aj3 (by simp) fun E=>?_
 simp (maxSteps:=1000000) only [ajh,LQ,aA,seval]
 refine ⟨fun h0=>?_,?_⟩
 ·simp (maxSteps:=1000000) only [h0,aA,seval]
 ·intro id hid
  refine ⟨hx,hl,.inr ⟨id,hid,?_,?_⟩⟩<;>rw [Nat.add_comm]
def cCp (args:List D) (h:aa) (K:D→aa→Prop):Prop:=
 ∃l:List Nd,args=[.sl (Nd.bg l)]∧l.length≤1000000000∧(l=[]→K .aZ h)∧∀id,h.f id=none→K (.row id (l.length+2) 0 l.length) (h.set id (.row 5 (l.length+2) (Nd.bg l) false))
theorem T8 (args:List D) (h:aa) (K K':D→aa→Prop) (hk:∀d h,K d h→K' d h) (c:cCp args h K):cCp args h K':=by
 obtain ⟨l,a,b,c,d⟩:=c
 exact ⟨l,a,b,fun e=>hk _ _ (c e),fun id e=>hk _ _ (d id e)⟩
theorem ady (args:List D) (h:aa) (K:D→aa→Prop) (c:cCp args h K):aH Tryz.prog 71 args h fun o h'=>∃d,o=.ret d∧K d h':=by
 obtain ⟨l,rfl,b,c,d⟩:=c
 refine (Zd (Nd.bg l) (fun y hy=>?_) (by rw [aU]; omega) h).mono fun o h' ⟨d',hE1,hE2⟩=>⟨d',hE1,?_⟩
 ·rw [eg] at hy
  obtain ⟨x,_,hx⟩:=List.mem_map.1 hy
  subst hx
  exact ⟨au x,aC x⟩
 ·rcases hE2 with ⟨e1,e2,e3⟩ | ⟨id,e1,e2,e3⟩
  ·rw [e2,e3]
   refine c ?_
   cases l with
   | nil=>rfl
   | cons x l=>rw [bO] at e1; cases e1
  ·rw [e2,e3,aU]
   exact d id e1
def xY:bh:=xZ.sv 71 cCp T8
theorem QN:xY.q=xZ.q:=rfl
theorem QJ:xY.a=xZ.a:=rfl
theorem QL (g:FuncId) (args:List D) (h:aa) (K E:D→aa→Prop):xY.c g args h K E=if g=71 then cCp args h K else xZ.c g args h K E:=rfl
theorem XD:xY.ok Tryz.prog:=bh.lL XH ady
theorem QM:type_of% (And.intro (And.intro @QN (And.intro @QJ @QL)) @QQ):=(And.intro (And.intro @QN (And.intro @QJ @QL)) @QQ)
def S6:List D→Option D
 | [.int .i64 t]=>some (.str (nE t))
 | _=>none
theorem aam (args:List D) (d:D) (h:S6 args=some d):aV Tryz.prog 41 args d:=by
 unfold S6 at h
 split at h
 ·cases h; exact BG _
 ·cases h
def xF:bh:=xY.dR 41 S6
theorem Ps (g:FuncId) (args:List D):xF.q g args=if g=41 then S6 args else xY.q g args:=rfl
theorem Pq:xF.a=xY.a:=rfl
theorem Pr:xF.c=xY.c:=rfl
theorem JQ:xF.ok Tryz.prog:=bh.bE XD aam
theorem d_:type_of% (And.intro (And.intro @Ps (And.intro @Pq @Pr)) @QM):=(And.intro (And.intro @Ps (And.intro @Pq @Pr)) @QM)
theorem tyN (t:Int):(nE t==[])= !yA t:=by
 unfold nE yA
 cases (t==1)<;>cases (t==2)<;>cases (t==3)<;>rfl
theorem TS {sz b r n:Nat} {xs:List (List D)} {y:List D} {h:aa} {K:D→aa→Prop} (LO:xs.length=n) (hr:h.f r=some (.row sz (n+2) xs false)) (hy:y.length=sz∧y.all bX=true) (hb:0<b) (hn:(n+1)*b≤140737488355328)
  (hk:K (.row r (n+1+2) 0 (n+1)) (h.set r (.row sz (n+1+2) (xs++[y]) false))):BX sz b (.row r (n+2) 0 n) h K (some [y]):=by
 subst LO
 rw [yF,hr,tO]
 refine ⟨by simpa using hy,hb,rfl,rfl,rfl,rfl,by simpa using hn,?_⟩
 have e:xs.length+2+[y].length=xs.length+1+2:=by simp
 rw [e]
 exact hk
end
end Go.Proofs.YtpklkpkfgmoghaaGreatDoor.Zz
namespace Go.Proofs.YtpklkpkfgmoghaaGreatDoor.Zz
noncomputable section
def am9:cm:=⟨⟨[],[(3,2),(17,1),(19,8),(20,4),(22,1),(23,5),(5,9),(9,9),(10,1),(11,5),(14,4),(14,11),(15,6),(14,4),(14,11)],[],[((14,4),[(.t 3)]),((14,4),[(.t 3),(.t 70)])],[((14,10),(.t 3)),((14,7),(.t 3)),((14,10),(.t 70))],[]⟩,[(14,[0,1,2,3,5,6,7,8,9,10,4,11,12,13,14,15])],[],false⟩
def ai6:dU:=
 sO [oQ (.box (.t 1)) 3,
 oA 4]
 (sO [oJ 5 3 10,
 oA 5,
 oS 5 5 10]
 (sO [oF 4 3 11,
 oL 11 12,
 oZ 12 13,
 oH .sub 13 1 14,
 oM 14 6]
 (sO [oM 6 15,
 oH .geq 15 0 16,
 oC 45 [.t 16,kI 125] 17]
 (.seq (sO [oF 0 3 18,
 oL 18 19]
 (.block 0 (sO [oH .eql 19 2 86,
 oM 86 85]
 (.cond (.t 85)
 (sO [oJ 5 3 87,
 oC 67 [.t 87,kI 1] 88]
 (sO [oF 4 3 89,
 oL 89 90,
 oQ (.aS 5 (.t 90) (kI 0)) 91,
 oJ 5 91 92,
 oA 7,
 oS 5 7 92]
 (sO [oF 0 7 93,
 oL 93 94,
 oH .geq 94 20 95,
 oM 95 96,
 oG (.fieldAddr 0 (.t 7)) 97 96 true true,
 oG (.load none (.t 97)) 98 96 true false,
 oG (.bin .leq (.t 98) (kI 22)) 99 96 true true,
 oP (.pick (.t 96) (.t 99) (kB false)) 100,
 oC 45 [.t 100,kI 125] 101]
 (.ops [oM 0 102,
 oJ 5 7 103,
 oF 1 3 104,
 oL 104 105,
 oC 68 [.t 102,.t 103,.t 105] 106,
 oP (.buildSlice 5 zN 1 [(0,(.t 106))] false) 107,
 oF 4 5 108,
 oS 1 108 107]))))
 (sO [oH .eql 19 4 110,
 oM 110 109]
 (.cond (.t 109)
 (sO [oJ 5 3 111,
 oC 67 [.t 111,kI 1] 112]
 (.ops [oM 0 113,
 oF 4 3 114,
 oL 114 115,
 oQ (.aS 5 (.t 115) (kI 0)) 116,
 oJ 5 116 117,
 oC 69 [.t 113,.t 117] 118,
 oP (.buildSlice 5 zN 1 [(0,(.t 118))] false) 119,
 oF 4 5 120,
 oS 1 120 119]))
 (sO [oF 0 3 20,
 oL 20 21,
 oH .eql 21 3 22,
 oM 22 23,
 oG (.fieldAddr 1 (.t 3)) 24 23 true true,
 oG (.load none (.t 24)) 25 23 true false,
 oG (.qcall (.f 41) [(.t 25)]) 26 23 true false,
 oG (.bin .neq (.t 26) (kS [])) 27 23 true true,
 oP (.pick (.t 23) (.t 27) (kB false)) 28,
 oC 45 [.t 28,kI 125] 29]
 (.seq (sO [oF 4 3 30,
 oL 30 31,
 oM 6 32,
 oQ (.slice (.sl 5) (.t 31) none (some (.t 32)) none) 33,
 oZ 33 34,
 oP (.cB (kI 0)) 35]
 (.block 1 (.loop (sO [oE .lss 35 34 36]
 (.seq (.cond (.t 36)
 (.skip)
 (.exit 1))
 (.seq (.block 2 (sO [oI 5 33 35 37,
 oJ 5 37 38,
 oA 9,
 oS 5 9 38]
 (sO [oF 0 9 39,
 oL 39 40,
 oH .eql 40 5 41,
 oM 41 42,
 oG (.fieldAddr 1 (.t 9)) 43 42 true true,
 oG (.load none (.t 43)) 44 42 true false,
 oG (.qcall (.f 41) [(.t 44)]) 45 42 true false,
 oG (.bin .neq (.t 45) (kS [])) 46 42 true true,
 oP (.pick (.t 42) (.t 46) (kB false)) 47,
 oC 45 [.t 47,kI 125] 48]
 (sO [oJ 5 9 49,
 oC 67 [.t 49,kI 0] 50]
 (.ops [oM 0 51,
 oF 2 9 52,
 oL 52 53,
 oF 1 9 54,
 oL 54 55,
 oC 70 [.t 51,.t 53,.t 55] 56])))))
 (.ops [oH .add 35 1 57,
 oM 57 35])))))))
 (sO [oM 0 58,
 oF 1 3 59,
 oL 59 60,
 oN 58 61,
 oF 7 61 62,
 oS 1 62 60]
 (.seq (.fS 63 [oF 4 3 63,
 oL 63 64,
 oM 6 65,
 oP (.slice (.sl 5) (.t 64) none (some (.t 65)) none) 66,
 oM 0 68,
 oF 4 3 69,
 oQ (.cQ none (.t 69) (.t 3)) 70,
 oM 6 71,
 oP (.aS 5 (.t 70) (.t 71)) 72,
 oQ (.cQ (some 5) (.t 72) (.t 3)) 73,
 oQ (.callNe (.f 71) [(.t 66)] [(.t 3)]) 67,
 oC 69 [.t 68,.t 73] 74,
 oP (.buildSlice 5 zN 1 [(0,(.t 74))] false) 75,
 oQ (.append 5 64 false (.t 67) (.t 75)) 76,
 oF 4 5 77,
 oS 1 77 76])
 (.ops [oF 4 3 78,
 oL 78 79,
 oM 6 80,
 oI 5 79 80 81,
 oJ 5 81 82,
 oD 72 [.t 82] 83,
 oC 45 [.t 83,kI 124] 84])))))))))))
 (sO [oJ 5 5 121,
 oS 5 4 121]
 (.ret))))))
theorem ajR:bA Tryz.prog 46 am9=some (ai6,[.cell 4 (some 5)],122):=by kernel_rfl
def cDc (args:List D) (h:aa) (K E:D→aa→Prop):Prop:=∃(c:Nat) (p:Nd) (dn dt:D) (x:Nd),args=[.ptr c 1 0,.agg x.enc]∧iI h c p [] dn dt 0∧x.cI≤400000∧
 (match eH p.lD x with
 | .ok x'=>∀h',Grow h h' c→K (.agg x'.enc) h'
 | .error e=>∀h',Grow h h' c→E (ft e) h')
theorem T9 (args:List D) (h:aa) (K E K' E':D→aa→Prop) (hk:∀d h,K d h→K' d h) (he:∀d h,E d h→E' d h) (c:cDc args h K E):cDc args h K' E':=by
 obtain ⟨c,p,dn,dt,x,a,b,e,k⟩:=c
 refine ⟨c,p,dn,dt,x,a,b,e,?_⟩
 split at k
 ·exact fun h' g=>hk _ _ (k h' g)
 ·exact fun h' g=>he _ _ (k h' g)
theorem Lu (ks:List Nd) (k t:Int) (s:List UInt8) (n:Int) (L:List Nd) (b:Nd):eH ks (.mk k t s n (L++[b]))=
  if k==2 then (match L++[b] with
   | [x]=>if decide (20≤x.kD) && decide (x.kD≤22) then (match dG ks [] x t with
    | .ok x'=>.ok (.mk k t s n [x'])
    | .error e=>.error e) else .error 125
   | _=>.error 125)
  else if k==4 then (match L++[b] with
   | [x]=>match dV ks 0 x [] with
    | .ok x'=>.ok (.mk k t s n [x'])
    | .error e=>.error e
   | _=>.error 125)
  else if k==3 && yA t then (match gY ks L [] with
    | .ok sc=>match dV ks t b sc with
     | .ok b'=>if iE b then .ok (.mk k t s n (L++[b'])) else .error 124
     | .error e=>.error e
    | .error e=>.error e)
  else .error 125:=by
 rw [eH.eq_def]
 simp only
 rw [if_neg (by simp)]
 simp only [List.getLast?_append,List.getLast?_singleton,Option.some_or,List.dropLast_concat]
 rfl
def YQ (H:aa) (L:List Nd) (d:D) (h1:aa):Prop:=(L=[]∧d=.aZ∧h1=H)∨∃r,H.f r=none∧d=.row r (L.length+2) 0 L.length∧h1=H.set r (.row 5 (L.length+2) (Nd.bg L) false)
theorem RV {L:List Nd} {H:aa} {K:D→aa→Prop} (hL:L.length≤1000000000) (k:∀d h1,YQ H L d h1→K d h1):cCp [.sl (Nd.bg L)] H K:=
 ⟨L,rfl,hL,fun e=>k _ _ (.inl ⟨e,rfl,rfl⟩),fun r hr=>k _ _ (.inr ⟨r,hr,rfl,rfl⟩)⟩
theorem YQ.ext {H:aa} {L:List Nd} {d:D} {h1:aa} (a:YQ H L d h1):Ext H h1:=by
 rcases a with ⟨_,_,rfl⟩ | ⟨r,hr,_,rfl⟩
 ·exact Ext.refl _
 ·exact (Ext.refl _).set hr
theorem adm {H:aa} {L:List Nd} {d:D} {h1 h2:aa} {c:Nat} {y:Nd} {K:D→aa→Prop} (a:YQ H L d h1) (g:Grow h1 h2 c) (hc:H.f c≠none) (hL:L.length≤1000000)
  (k:∀r',(h2.f r'=none∨(H.f r'=none∧h2.f r'=some (.row 5 (L.length+2) (Nd.bg L) false)))→K (.row r' (L.length+1+2) 0 (L.length+1)) (h2.set r' (.row 5 (L.length+1+2) (Nd.bg L++[y.enc]) false))):BX 5 64 d h2 K (some [y.enc]):=by
 rcases a with ⟨rfl,rfl,rfl⟩ | ⟨r,hr,rfl,rfl⟩
 ·rw [yE]
  refine ⟨fun z hz=>by rw [List.mem_singleton.1 hz]; exact ⟨au y,aC y⟩,by decide,by simp,by simp,fun _ id hid=>?_⟩
  exact k id (.inl hid)
 ·have hrc:r≠c:=fun e=>hc (by rw [←e]; exact hr)
  have u:=g.fM r (.row 5 (L.length+2) (Nd.bg L) false) (by simp) hrc (fun _ _ _ _ e=>by cases e)
  exact TS (aU L) u ⟨au y,aC y⟩ (by omega) (by omega) (k r (.inr ⟨hr,u⟩))
theorem iI.ans {h:aa} {c:Nat} {p:Nd} {sc:dj} {dn dt:D} {a t:Int} (s:iI h c p sc dn dt a):iI (h.set c (yj p dn dt t)) c p sc dn dt t:=by
 have fr:∀{d xs},eO h d xs→eO (h.set c (yj p dn dt t)) d xs:=fun r=>r.frame fun j e=>by
  obtain ⟨_,_,_,_,e2⟩:=r.dz e
  have:j≠c:=fun x=>by rw [x,s.obj] at e2; cases p; rw [fV] at e2; cases e2
  simp [this]
 exact ⟨by simp,fr s.nm,fr s.ty,s.ne⟩
theorem SY (ks:List Nd) (sc:dj):gY ks [] sc=.ok sc:=by rw [gY]
theorem Md (ks:List Nd) (k t:Int) (s:List UInt8) (n:Int) (l r:List Nd) (sc:dj):gY ks (.mk k t s n l::r) sc=if k==5 && yA t then (if l.length==0 then (match p7 ks sc s t with
  | .ok sc'=>gY ks r sc'
  | .error e=>.error e) else .error 125) else .error 125:=by rw [gY]; rfl
set_option maxHeartbeats 1000000 in
theorem adz (args:List D) (h:aa) (K E:D→aa→Prop) (c:cDc args h K E):aH Tryz.prog 46 args h (cY.to K E):=by
 obtain ⟨c,p,dn,dt,x,rfl,hs,hb,hk⟩:=c
 refine aH.cv JQ (dc:=cy.none) (fun _ _=>cy.cX) (by kernel_rfl) ajR (by simp) ?_
 rw [cA]
 obtain ⟨k,t,s,n,l⟩:=x
 have tg:Nd.eA l+1≤400000:=by rw [bd] at hb; omega
 have hll:l.length≤400000:=by have:=jk l; omega
 rw [aB]
 simp (maxSteps:=1000000) only [ai6,d_,aA,seval]
 intro i1 k1 i2 n1 n2 k2
 simp (maxSteps:=1000000) only [n1,n2,d_,aA,seval]
 intro i3 m1 m2 m3 m4 k3
 have ho:=hs.obj
 have d1:¬c=i1:=fun e=>by rw [e,k1] at ho; cases ho
 have d2:¬c=i2:=fun e=>by rw [e,k2] at ho; cases ho
 have d3:¬c=i3:=fun e=>by rw [e,k3] at ho; cases ho
 have YB:¬i1=c:=fun e=>d1 e.symm
 have BS:¬i2=c:=fun e=>d2 e.symm
 have E_:¬i3=c:=fun e=>d3 e.symm
 have eB:∀o o' Ie,Ext h (((h.set i1 o).set i2 o').set i3 Ie):=fun o o' Ie=>(((Ext.refl h).set k1).set k2).set k3
 have sC:∀{ds:List D},∀sz aY xs du,cJ.cells ds≠.dz sz aY xs du:=fun _ _ _ _ e=>by cases e
 rcases List.eq_nil_or_concat l with rfl | ⟨L,b,rfl⟩
 ·simp (maxSteps:=1000000) only [bc,n1,n2,m1,m2,m3,m4,aU,d_,aA,seval]
  rw [eH.eq_def] at hk
  simp only [List.length_nil,beq_self_eq_true,if_true] at hk
  have hw:IntKind.i64.wrap (-1)= -1:=wrap_i64 (by omega) (by omega)
  have g:decide ((-1:Int)≥0)=false:=by decide
  simp (maxSteps:=1000000) only [hw,g,bz,cE,aE,cond_false,aX,ab,av,aA,seval]
  exact ⟨_,aa.aj _,hk _ ((eB _ _ _).grow c)⟩
 ·simp only [List.concat_eq_append] at tg hll hk k1 k2 k3 eB ⊢
  rw [Lu] at hk
  rw [List.length_append,List.length_singleton] at hll
  rw [jj,aD,bf] at tg
  have hw:IntKind.i64.wrap (((L.length+1:Nat):Int) - 1)=(L.length:Int):=by
   rw [show ((L.length+1:Nat):Int) - 1=(L.length:Int) by omega]
   exact BO (by omega)
  have hge:decide ((L.length:Int)≥0)=true:=decide_eq_true (by omega)
  simp (maxSteps:=1000000) only [n1,n2,m1,m2,m3,m4,hw,hge,bz,cE,aW,cond_true,aU,List.length_append,List.length_cons,List.length_nil,Nat.zero_add,d_,aA,seval]
  intro _
  cases iK:(k==2) with
  | true=>
   simp only [iK,if_true] at hk
   simp (maxSteps:=1000000) only [iK,n1,n2,m1,m2,m3,m4,d_,aA,seval]
   refine ⟨.mk k t s n (L++[b]),1,by rw [aB],?_⟩
   simp only [Nd.lD,List.length_append,List.length_cons,List.length_nil,Nat.zero_add]
   rcases L with _ | ⟨a,L⟩
   ·have ie:∀(K:D→aa→Prop) (h:aa),fx 5 K h (Nd.bg [b]) (0:Int)=K (.cO b.enc 0) h:=fun K h=>cG (l:=[b]) (i:=0) rfl
    simp only [List.nil_append] at hk ie k1 k2 k3 tg ⊢
    have yu:b.cI≤1000000:=by omega
    obtain ⟨bk,bt,bs,bn,bl⟩:=b
    rw [aB] at ie
    have hJ:(((List.length ([]:List Nd)+1:Nat):Int)==1)=true:=rfl
    simp (maxSteps:=1000000) only [hJ,ie,n1,n2,m1,m2,m3,m4,cond_true,d_,aA,seval]
    intro i4 o1 o2 o3 o4 o5 o6 k4
    have d4:¬c=i4:=fun e=>by rw [e,k4] at ho; cases ho
    have d4':¬i4=c:=fun e=>d4 e.symm
    have uc:∀o o' Ie o3,Ext h ((((h.set i1 o).set i2 o').set i3 Ie).set i4 o3):=fun o o' Ie o3=>(eB o o' Ie).set k4
    simp only [Nd.kD] at hk
    by_cases nj:20≤bk
    ·have g1:(bk≥20)=True:=eq_true nj
     by_cases nn:bk≤22
     ·have g2:decide (bk≤22)=true:=by simp [nn]
      simp only [nj,nn,decide_true,Bool.and_true,if_true] at hk
      simp (maxSteps:=1000000) only [g1,g2,bz,cE,aW,cond_true,n1,n2,m1,m2,m3,m4,o1,o2,o3,o4,o5,o6,d_,aA,seval]
      refine ⟨c,p,[],dn,dt,0,.mk bk bt bs bn bl,t,by rw [aB],hs.ext (uc _ _ _ _),yu,?_⟩
      cases hq:dG p.lD [] (.mk bk bt bs bn bl) t with
      | error e=>
       rw [hq] at hk
       simp only at hk
       simp only [dh,aE,aX,ab,av]
       exact ⟨_,aa.aj _,hk _ ((uc _ _ _ _).grow c)⟩
      | ok y=>
       rw [hq] at hk
       simp only at hk
       obtain ⟨yk,yt,ys,yn,yl⟩:=y
       simp (maxSteps:=1000000) only [eQ,aW,aB,n1,n2,m1,m2,m3,m4,o1,o2,o3,o4,o5,o6,af,ab,d_,aA,seval]
       exact mf (x:=.mk k t s n [.mk yk yt ys yn yl]) (i2:=i2) (by simp only [aA,seval]) (by simp [aB,bO,bc]) (hk _ ((((uc _ _ _ _).set k3).set k2).grow c))
     ·have g2:decide (bk≤22)=false:=by simp [nn]
      simp only [nj,nn,decide_true,decide_false,Bool.and_false,Bool.false_eq_true,if_false] at hk
      simp (maxSteps:=1000000) only [g1,g2,bz,cE,aE,cond_false,n1,n2,m1,m2,m3,m4,o1,o2,o3,o4,o5,o6,aX,ab,av,d_,aA,seval]
      exact ⟨_,aa.aj _,hk _ ((uc _ _ _ _).grow c)⟩
    ·have g1:(bk≥20)=False:=eq_false nj
     simp only [nj,decide_false,Bool.false_and,Bool.false_eq_true,if_false] at hk
     simp (maxSteps:=1000000) only [g1,bz,cE,aE,cond_false,n1,n2,m1,m2,m3,m4,o1,o2,o3,o4,o5,o6,aX,ab,av,d_,aA,seval]
     exact ⟨_,aa.aj _,hk _ ((uc _ _ _ _).grow c)⟩
   ·have hk:∀h',Grow h h' c→E (ft 125) h':=by cases L<;>exact hk
    have hJ:((((a::L).length+1:Nat):Int)==1)=false:=beq_eq_false_iff_ne.2 (by rw [List.length_cons]; omega)
    simp (maxSteps:=1000000) only [hJ,cond_false,aX,ab,av,aA,seval]
    exact ⟨_,aa.aj _,hk _ ((eB _ _ _).grow c)⟩
  | false=>
   simp only [iK,Bool.false_eq_true,if_false] at hk
   cases mK:(k==4) with
   | true=>
    simp only [mK,if_true] at hk
    simp (maxSteps:=1000000) only [iK,mK,n1,n2,m1,m2,m3,m4,d_,aA,seval]
    refine ⟨.mk k t s n (L++[b]),1,by rw [aB],?_⟩
    simp only [Nd.lD,List.length_append,List.length_cons,List.length_nil,Nat.zero_add]
    rcases L with _ | ⟨a,L⟩
    ·have ie:∀(K:D→aa→Prop) (h:aa),fx 5 K h (Nd.bg [b]) (0:Int)=K (.cO b.enc 0) h:=fun K h=>cG (l:=[b]) (i:=0) rfl
     simp only [List.nil_append] at hk ie k1 k2 k3 tg ⊢
     have yu:b.cI+([]:dj).length≤1000000:=by simp only [List.length_nil]; omega
     obtain ⟨bk,bt,bs,bn,bl⟩:=b
     rw [aB] at ie
     have hJ:(((List.length ([]:List Nd)+1:Nat):Int)==1)=true:=rfl
     simp (maxSteps:=1000000) only [hJ,ie,n1,n2,m1,m2,m3,m4,cond_true,d_,aA,seval]
     refine ⟨c,p,[],dn,dt,0,.mk bk bt bs bn bl,by rw [aB],hs.ext (eB _ _ _),yu,?_⟩
     cases hq:dV p.lD 0 (.mk bk bt bs bn bl) [] with
     | error e=>
      rw [hq] at hk
      simp only at hk ⊢
      intro h' g
      simp only [aX,ab,av]
      exact ⟨_,aa.aj _,hk _ (((eB _ _ _).grow c).trans g)⟩
     | ok y=>
      rw [hq] at hk
      simp only at hk ⊢
      obtain ⟨yk,yt,ys,yn,yl⟩:=y
      intro h' lF nY s' g
      have gg:=((eB _ _ _).grow c).trans g
      have u2:=g.fM i2 (.cells [.int .i64 0,.int .i64 0,.str [],.int .i64 0,.aZ]) (by simp [n1,n2,m1,m2,m3,m4]) BS sC
      have u3:=g.fM i3 (.cells [.int .i64 k,.int .i64 t,.str s,.int .i64 n,.sl (Nd.bg [.mk bk bt bs bn bl])]) (by simp [n1,n2,m1,m2,m3,m4]) E_ sC
      simp (maxSteps:=1000000) only [aB,u2,u3,n1,n2,m1,m2,m3,m4,af,ab,d_,aA,seval]
      exact mf (x:=.mk k t s n [.mk yk yt ys yn yl]) (i2:=i2) (by simp only [aA,seval]) (by simp [aB,bO,bc]) (hk _ ((gg.put (.inl k3) (by simp [u3])).put (.inl k2) (by simp [m1,m2,m3,m4,u2])))
    ·have hk:∀h',Grow h h' c→E (ft 125) h':=by cases L<;>exact hk
     have hJ:((((a::L).length+1:Nat):Int)==1)=false:=beq_eq_false_iff_ne.2 (by rw [List.length_cons]; omega)
     simp (maxSteps:=1000000) only [hJ,cond_false,aX,ab,av,aA,seval]
     exact ⟨_,aa.aj _,hk _ ((eB _ _ _).grow c)⟩
   | false=>
    simp only [mK,Bool.false_eq_true,if_false] at hk
    simp (maxSteps:=1000000) only [iK,mK,S6,n1,n2,m1,m2,m3,m4,d_,aA,seval]
    cases kl:(k==3) with
    | false=>
     simp only [kl,Bool.false_and,Bool.false_eq_true,if_false] at hk
     simp (maxSteps:=1000000) only [kl,bz,cE,aE,cond_false,aX,ab,av,Bool.false_eq_true,if_false,aA,seval]
     exact ⟨_,aa.aj _,hk _ ((eB _ _ _).grow c)⟩
    | true=>
     simp only [kl,Bool.true_and] at hk
     simp (maxSteps:=1000000) only [kl,tyN,Bool.not_not,if_true,aA,seval]
     cases ct:yA t with
     | false=>
      simp only [ct,Bool.false_eq_true,if_false] at hk
      simp (maxSteps:=1000000) only [ct,bz,cE,aE,cond_false,aX,ab,av,aA,seval]
      exact ⟨_,aa.aj _,hk _ ((eB _ _ _).grow c)⟩
     | true=>
      simp only [ct,if_true] at hk
      have YF:gH (.sl 5) (.sl (Nd.bg (L++[b]))) none (some (.int .i64 (L.length:Int))) none=some (.sl (Nd.bg L)):=by
       rw [I2 (L++[b]) L.length (by simp)]
       simp
      simp (maxSteps:=1000000) only [ct,bz,cE,aW,cond_true,YF,n1,n2,m1,m2,m3,m4,aU,d_,aA,seval]
      intro _
      refine cj (X:=Nat×dj×D×D×aa) (fun z=>[(0,.ptr c 1 0),(3,.ptr i1 1 0),(4,.ptr i2 1 0),(5,.ptr i3 1 0),(6,.int .i64 L.length),(33,.sl (Nd.bg L)),(34,.int .i64 L.length),(35,.int .i64 z.1)]) (fun z=>z.2.2.2.2) (fun z=>L.length - z.1)
       (fun z=>z.1≤L.length∧z.2.2.2.2.f i1=some (.cells [.int .i64 k,.int .i64 t,.str s,.int .i64 n,.sl (Nd.bg (L++[b]))])∧z.2.2.2.2.f i2=some (.cells [.int .i64 0,.int .i64 0,.str [],.int .i64 0,.aZ])∧
        z.2.2.2.2.f i3=some (.cells [.int .i64 k,.int .i64 t,.str s,.int .i64 n,.sl (Nd.bg (L++[b]))])∧
        iI z.2.2.2.2 c p z.2.1 z.2.2.1 z.2.2.2.1 0∧Grow h z.2.2.2.2 c∧z.2.1.length≤z.1∧gY p.lD L []=gY p.lD (L.drop z.1) z.2.1) (0,[],dn,dt,_) ⟨Nat.zero_le _,?_,?_,?_,hs.ext (eB _ _ _),(eB _ _ _).grow c,Nat.le_refl _,by rw [List.drop_zero]⟩ ?_ (aa.aj _) ?_
      ·simp [n1,n2,m1,m2,m3,m4]
      ·simp [n1,n2,m1,m2,m3,m4]
      ·simp [n1,n2,m1,m2,m3,m4]
      ·simp only [aA,seval]
      rintro ⟨i,sc,Lx,UY,hh⟩ Q ⟨j0,v1,v2,v3,vs,vg,vl,va⟩ hQ
      simp only at j0 v1 v2 v3 vs vg vl va hQ ⊢
      cases iJ:decide (i<L.length) with
      | true=>
       have iJ:i<L.length:=by simpa using iJ
       obtain ⟨y,hy⟩:∃y,L[i]? =some y:=⟨_,List.getElem?_eq_getElem iJ⟩
       have g:((i:Int)<(L.length:Int))=True:=eq_true (by omega)
       have wi:IntKind.i64.wrap ((i:Int)+1)=((i+1:Nat):Int):=cp (by omega)
       have te:∀(K:D→aa→Prop) (h:aa),fx 5 K h (Nd.bg L) (i:Int)=K (.cO y.enc 0) h:=fun K h=>cG hy
       rw [iP hy] at va
       obtain ⟨yk,yt,yx,ym,yl⟩:=y
       rw [Md] at va
       rw [aB] at te
       simp (maxSteps:=1000000) only [g,v1,v2,v3,te,S6,tyN,Bool.not_not,d_,aA,seval]
       intro i7 k7
       have gW:∀{q:Nat} {o:cJ},hh.f q=some o→¬i7=q:=fun hq e=>by rw [e,hq] at k7; cases k7
       have Cb:=gW v1
       have wP:=gW v2
       have Ik:=gW v3
       have pc:=gW vs.obj
       have qT:¬i1=i7:=fun e=>Cb e.symm
       have oB:¬i2=i7:=fun e=>wP e.symm
       have qU:¬i3=i7:=fun e=>Ik e.symm
       have kh7:h.f i7=none:=by
        by_cases e:h.f i7=none
        ·exact e
        ·exact absurd k7 (vg.Nc i7 e)
       have s7c:=fun o=>vs.put (o:=o) pc (by simp [k7])
       have g7:=fun o=>vg.put (o:=o) (.inl kh7) (by simp [k7])
       cases pe:(yk==5) with
       | false=>
        simp only [pe,Bool.false_and,Bool.false_eq_true,if_false] at va
        rw [va] at hk
        simp only at hk
        simp (maxSteps:=1000000) only [pe,bz,cE,aE,cond_false,aX,ab,av,Bool.false_eq_true,if_false,aA,seval]
        exact ⟨_,aa.aj _,hk _ (g7 _)⟩
       | true=>
        simp only [pe,Bool.true_and] at va
        cases ct2:yA yt with
        | false=>
         simp only [ct2,Bool.false_eq_true,if_false] at va
         rw [va] at hk
         simp only at hk
         simp (maxSteps:=1000000) only [pe,ct2,bz,cE,aE,cond_false,aX,ab,av,if_true,aA,seval]
         exact ⟨_,aa.aj _,hk _ (g7 _)⟩
        | true=>
         simp only [ct2,if_true] at va
         simp (maxSteps:=1000000) only [pe,ct2,bz,cE,aW,cond_true,if_true,v1,v2,v3,Cb,wP,Ik,qT,oB,qU,d_,aA,seval]
         refine ⟨.mk yk yt yx ym yl,0,by rw [aB],?_⟩
         simp only [Nd.lD]
         cases cl:(yl.length==0) with
         | false=>
          have hJ:((yl.length:Int)==0)=false:=beq_eq_false_iff_ne.2 (by have:=beq_eq_false_iff_ne.1 cl; omega)
          simp only [cl,Bool.false_eq_true,if_false] at va
          rw [va] at hk
          simp only at hk
          simp (maxSteps:=1000000) only [hJ,cond_false,aX,ab,av,aA,seval]
          exact ⟨_,aa.aj _,hk _ (g7 _)⟩
         | true=>
          have hJ:((yl.length:Int)==0)=true:=beq_iff_eq.2 (by have:=beq_iff_eq.1 cl; omega)
          simp only [cl,if_true] at va
          simp (maxSteps:=1000000) only [hJ,cond_true,v1,v2,v3,Cb,wP,Ik,qT,oB,qU,d_,aA,seval]
          refine ⟨c,p,sc,Lx,UY,0,yx,yt,rfl,s7c _,by omega,?_⟩
          cases hd:p7 p.lD sc yx yt with
          | error e=>
           rw [hd] at va
           simp only at va
           rw [va] at hk
           simp only at hk
           simp only [aX,ab,av]
           exact ⟨_,aa.aj _,hk _ (g7 _)⟩
          | ok sc'=>
           rw [hd] at va
           simp only at va ⊢
           intro h' dn2 dt2 vs2 gh
           have u1:=gh.fM i1 _ (by rw [aa.b9,if_neg qT]; exact v1) YB sC
           have u2:=gh.fM i2 _ (by rw [aa.b9,if_neg oB]; exact v2) BS sC
           have u3:=gh.fM i3 _ (by rw [aa.b9,if_neg qU]; exact v3) E_ sC
           have hl:=G4 hd
           simp (maxSteps:=1000000) only [wi,u1,u2,u3,d_,aA,seval]
           refine hQ (i+1,sc',dn2,dt2,h') _ _ ⟨iJ,u1,u2,u3,vs2,(g7 _).trans gh,by simp only; omega,va⟩ (by simp only [aA,seval]) (aa.aj _) (by simp only; omega)
      | false=>
       have e0:i=L.length:=by simp at iJ; omega
       have g:((i:Int)<(L.length:Int))=False:=eq_false (by omega)
       rw [List.drop_eq_nil_of_le (by omega),SY] at va
       rw [va] at hk
       simp only at hk
       have TH:=vs.obj
       obtain ⟨pk,pt,ps,pn,pl⟩:=p
       rw [fV] at TH
       have kdn:=vs.nm.cell
       have kdt:=vs.ty.cell
       have alY:gH (.sl 5) (.sl (Nd.bg (L++[b]))) none (some (.int .i64 (L.length:Int))) none=some (.sl (Nd.bg L)):=YF
       have hbL:(L++[b])[L.length]? =some b:=by simp
       have ahr:∀(K:D→aa→Prop) (h:aa),fx 5 K h (Nd.bg (L++[b])) (L.length:Int)=K (.cO b.enc 0) h:=fun K h=>cG hbL
       have hv:ew (.aS 5 (.sl (Nd.bg (L++[b]))) (.int .i64 (L.length:Int)))=some (.cO b.enc 0):=by
        have e1:(Nd.bg (L++[b]))[L.length]? =some b.enc:=Ha hbL
        have e2:(0:Int)≤(L.length:Int)∧(L.length:Int)<((Nd.bg (L++[b])).length:Int):=by rw [aU]; simp; omega
        simp [ew,bC,e1,e2,au]
       obtain ⟨bk,bt,bs,bn,bl⟩:=b
       rw [aB] at ahr hv
       simp (maxSteps:=1000000) only [g,v1,v2,v3,d1,d2,d3,YB,BS,E_,alY,hv,TH,kdn,kdt,d_,aA,seval]
       have sA:=vs.ans (t:=t)
       have gA:Grow h (hh.set c (yj (.mk pk pt ps pn pl) Lx UY t)) c:=vg.put (.inr rfl) (by simp [TH])
       rw [fV] at sA gA
       refine RV (by omega) fun d h1 hcp=>?_
       have e1:=hcp.ext
       have w1:=e1 i1 (by simp [YB,v1])
       have w2:=e1 i2 (by simp [BS,v2])
       have w3:=e1 i3 (by simp [E_,v3])
       simp only [aa.b9,YB,BS,E_,if_false,v1,v2,v3] at w1 w2 w3
       refine ⟨w1,c,.mk pk pt ps pn pl,sc,Lx,UY,t,.mk bk bt bs bn bl,by rw [aB],sA.ext e1,by omega,?_⟩
       simp only [Nd.lD] at hk ⊢
       cases hq:dV pl t (.mk bk bt bs bn bl) sc with
       | error e=>
        rw [hq] at hk
        simp only at hk ⊢
        intro h' gh σ hσ _
        simp only [aX]
        rw [hσ]
        simp only [ab,av]
        exact ⟨_,aa.aj _,hk _ ((gA.trans (e1.grow c)).trans gh)⟩
       | ok y=>
        rw [hq] at hk
        simp only at hk ⊢
        intro h' lF nY s' gh
        have gg:=(gA.trans (e1.grow c)).trans gh
        have u1:=gh.fM i1 _ w1 YB sC
        have u2:=gh.fM i2 _ w2 BS sC
        have u3:=gh.fM i3 _ w3 E_ sC
        have hE:Ml [.agg (Nd.enc (.mk bk bt bs bn bl))]=some (.bool (iE (.mk bk bt bs bn bl))):=Wn _
        rw [aB] at hE
        simp (maxSteps:=1000000) only [u1,u2,u3,d_,aA,seval]
        refine ⟨⟨au y,aC y⟩,?_⟩
        rw [ah]
        refine adm hcp gh (by simp) (by omega) fun r LL=>?_
        have rne:∀{q:Nat} {ds:List D},h'.f q=some (.cells ds)→¬r=q:=fun {q ds} hq e=>by
         subst e
         rcases LL with e | ⟨_,e⟩<;>rw [e] at hq<;>cases hq
        have rar:∀sz aY xs du,h'.f r≠some (.dz sz aY xs du):=fun sz aY xs du e2=>by
         rcases LL with e | ⟨_,e⟩<;>rw [e] at e2<;>cases e2
        have kr:h.f r=none:=by
         by_cases e:h.f r=none
         ·exact e
         ·rcases LL with e2 | ⟨e2,_⟩
          ·exact absurd e2 (gg.Nc r e)
          ·exact absurd e2 (gA.Nc r e)
        have so:=s'.obj
        rw [fV] at so
        have r1:=rne u1
        have r2:=rne u2
        have r3:=rne u3
        have rc:=rne so
        have nU:¬i1=r:=fun e=>r1 e.symm
        have oT:¬i2=r:=fun e=>r2 e.symm
        have uB:¬i3=r:=fun e=>r3 e.symm
        simp (maxSteps:=1000000) only [u1,u2,u3,r1,r2,r3,nU,oT,uB,m1,m2,m3,m4,ahr,hE,d_,aA,seval]
        have g3:=(gg.put (o:=.row 5 (L.length+1+2) (Nd.bg L++[y.enc]) false) (.inl kr) rar).put (i:=i3) (o:=.cells [.int .i64 k,.int .i64 t,.str s,.int .i64 n,.row r (L.length+1+2) 0 (L.length+1)]) (.inl k3) (by simp [uB,u3])
        cases he:iE (.mk bk bt bs bn bl) with
        | false=>
         simp only [he,Bool.false_eq_true,if_false] at hk
         simp (maxSteps:=1000000) only [he,bz,cE,aE,cond_false,aX,ab,av,aA,seval]
         exact ⟨_,aa.aj _,hk _ g3⟩
        | true=>
         simp only [he,if_true] at hk
         simp (maxSteps:=1000000) only [he,bz,cE,aW,cond_true,u1,u2,u3,r1,r2,r3,nU,oT,uB,m1,m2,m3,m4,af,ab,d_,aA,seval]
         have g4:=g3.put (i:=i2) (o:=.cells [.int .i64 k,.int .i64 t,.str s,.int .i64 n,.row r (L.length+1+2) 0 (L.length+1)]) (.inl k2) (by simp [oT,u2,m1,m2,m3,m4])
         refine vE (k:=k) (T:=t) (s:=s) (n:=n) (i2:=i2) (r:=r) (i:=L.length+1) (done:=L++[y]) (by simp only [aA,seval]) (by simp only [bq (Nat.succ_ne_zero _),aA,seval]) (by simp) (fun h0=>by simp [r2,r3,fE]) (fun h0=>absurd h0 (Nat.succ_ne_zero _)) (fun h0=>hk _ (g4.put (.inl kr) (by simp [r2,r3])))
def PI:bh:=xF.gI 46 cDc T9
theorem PL:PI.q=xF.q:=rfl
theorem PJ:PI.a=xF.a:=rfl
theorem PK (g:FuncId) (args:List D) (h:aa) (K E:D→aa→Prop):PI.c g args h K E=if g=46 then cDc args h K E else xF.c g args h K E:=rfl
theorem W6:PI.ok Tryz.prog:=bh.bQ JQ adz
theorem ez:type_of% (And.intro (And.intro @PL (And.intro @PJ @PK)) @d_):=(And.intro (And.intro @PL (And.intro @PJ @PK)) @d_)
end
end Go.Proofs.YtpklkpkfgmoghaaGreatDoor.Zz
namespace Go.Proofs.YtpklkpkfgmoghaaGreatDoor.Zz
noncomputable section
def amQ:cm:=⟨⟨[],[(5,9),(8,6)],[(5,5)],[],[],[]⟩,[(5,[0,1,2,3,4,5,6,7,8,9])],[],false⟩
def aiU:dU:=
 sO [oQ (.box (.t 0)) 2,
 oA 4,
 oQ (.alloc [(.int .i64 0)]) 5]
 (.seq (sO [oP (.mkFunc (.func 44) [] [(.t 4),(.t 5)]) 9]
 (.defer (.t 9) []))
 (.seq (sO [oF 4 2 10,
 oL 10 11,
 oM 1 12,
 oQ (.slice (.sl 5) (.t 11) none (some (.t 12)) none) 13,
 oZ 13 14,
 oP (.cB (kI 0)) 15]
 (.block 0 (.loop (sO [oE .lss 15 14 16]
 (.seq (.cond (.t 16)
 (.skip)
 (.exit 0))
 (.seq (.block 1 (sO [oI 5 13 15 17,
 oJ 5 17 18,
 oA 7,
 oS 5 7 18]
 (.fS 19 [oF 2 7 19,
 oL 19 20,
 oF 4 2 21,
 oL 21 22,
 oM 1 23,
 oI 5 22 23 24,
 oF 2 24 25,
 oL 25 26,
 oE .neq 20 26 27,
 oC 45 [.t 27,kI 120] 28])))
 (.ops [oH .add 15 1 29,
 oM 29 15])))))))
 (sO [oJ 5 2 30,
 oP (.build [(.int .i64 0),(.int .i64 0),(.str []),(.int .i64 0),.aZ,.aZ,.aZ,(.int .i64 0)] [(0,5,(.t 30))]) 31,
 oQ (.box (.t 31)) 32,
 oM 32 8]
 (sO [oM 8 33,
 oF 4 2 34,
 oL 34 35,
 oM 1 36,
 oI 5 35 36 37,
 oJ 5 37 38,
 oC 46 [.t 33,.t 38] 39,
 oS 5 4 39,
 oU (.store 1 (.t 5) (kI 0))]
 (.ret)))))
theorem ajD:bA Tryz.prog 28 amQ=some (aiU,[.cell 4 (some 5),.cell 5 none],40):=by kernel_rfl
def am6:cm:=⟨⟨[],[],[],[((5,3),[(.t 3)])],[((5,2),(.t 3))],[]⟩,[(5,[0,1,2,3,4])],[],false⟩
def afo:dU:=
 sO [oM 2 6,
 oP (.eql .iface true (.t 6) (.c .gX)) 7]
 (.cond (.t 7)
 (sO [oM 2 9,
 oQ (.typeAssert 80 true .undef (.t 9)) 10,
 oM 10 8,
 oX 8 0 11,
 oX 8 1 12,
 oQ (.alloc [(.int .i64 0)]) 3,
 oS 1 3 11,
 oM 12 4]
 (.seq (sO [oM 4 13,
 oP (.un .not (.t 13)) 14]
 (.cond (.t 14)
 (.ops [oM 2 15,
 oU (.panic (.t 15))])
 (.skip)))
 (.fS 16 [oP (.build zN []) 16,
 oF 0 3 17,
 oQ (.cQ none (.t 17) (.t 3)) 18,
 oU (.storeNe 5 (.t 0) (.t 16) [(.t 3)]),
 oS 1 1 18])))
 (.skip))
theorem anw:Oe Tryz.prog 44 am6=some (afo,[],19,5,2):=by kernel_rfl
def ag9:cy:=fun k args u h F=>k=44∧∃(a b:Nat) (v:List D) (p:D),args=[.ptr a 1 0,.ptr b 1 0]∧v.length=5∧h.f a=some (.cells v)∧h.f b=some (.cells [p])∧¬b=a∧¬a=b∧
 ((u=none∧F none h)∨∃e,u=some (ft e)∧F none ((h.set a (.cells [.int .i64 0,.int .i64 0,.str [],.int .i64 0,.aZ])).set b (.cells [.int .i64 e])))
theorem Zf (κ:cT) (w:World):ag9.qe Tryz.prog κ w:=by
 rintro k args u h F ⟨rfl,a,b,v,p,rfl,hv,ha,hb,n1,n2,hF⟩ κ' w' le
 refine iM.Ig ((bh.dJ Tryz.prog).toY κ' w') anw (by simp) ?_
 rcases hF with ⟨rfl,hF⟩ | ⟨e,rfl,hF⟩
 ·simp (maxSteps:=1000000) only [afo,FJ,iT,aA,seval]
  exact ⟨h,aa.aj h,hF⟩
 ·simp (maxSteps:=1000000) only [afo,FJ,ft,HN,iT,aA,seval]
  intro i hi
  have ma:¬a=i:=fun e=>by subst e; rw [ha] at hi; cases hi
  have mb:¬b=i:=fun e=>by subst e; rw [hb] at hi; cases hi
  match v,hv with
  | [v0,v1,v2,v3,v4],_=>
  have ma':(!a==i)=true:=by simp [ma]
  have mb':(!b==i)=true:=by simp [mb]
  simp (maxSteps:=1000000) only [ma,mb,ma',mb',ha,hb,n1,n2,iT,aA,seval]
  refine ⟨_,fun j o hj=>?_,hF⟩
  simp only [aa.b9] at hj ⊢
  by_cases e:j=i
  ·subst e
   have m1:¬j=a:=fun e=>ma e.symm
   have m2:¬j=b:=fun e=>mb e.symm
   simp [m1,m2,hi] at hj
  ·simpa [e] using hj
def sG (ks:List Nd) (i:Nat):CR Nd:=match ks[i]? with
 | none=>.error 0
 | some x=>if (ks.take i).any (fun y=>y.sD==x.sD) then .error 120 else eH ks x
def RF:Nd:=.mk 0 0 [] 0 []
def FE (r:CR Nd):D:=match r with
 | .ok n=>.tuple [.agg n.enc,.int .i64 0]
 | .error e=>.tuple [.agg RF.enc,.int .i64 e]
set_option maxHeartbeats 1000000 in
theorem aes (p:Nd) (i:Nat) (hi:i<p.lD.length) (hp:p.cI≤400000):aV Tryz.prog 28 [.agg p.enc,.int .i64 (i:Int)] (FE (sG p.lD i)):=by
 refine aH.cv W6 (dc:=ag9) Zf (by kernel_rfl) ajD (by simp) ?_
 rw [cA]
 obtain ⟨pk,pt,ps,pn,ks⟩:=p
 simp only [Nd.lD] at hi ⊢
 have hks:ks.length≤400000:=by rw [bd] at hp; have:=jk ks; omega
 obtain ⟨x,hx⟩:∃x,ks[i]? =some x:=⟨_,List.getElem?_eq_getElem hi⟩
 have hxc:x.cI≤400000:=by have:=wm (List.mem_of_getElem? hx); rw [bd] at hp; omega
 have YF:=I2 ks i (by omega)
 have ie:∀(K:D→aa→Prop) (h:aa),fx 5 K h (Nd.bg ks) (i:Int)=K (.cO x.enc 0) h:=fun K h=>cG hx
 have ig:((ks.take i).length:Nat)=i:=by rw [List.length_take]; omega
 rw [aB]
 simp (maxSteps:=1000000) only [aiU,YF,aU,ig,ez,aA,seval]
 intro i1  i2 an ak i3 ax aw az ay
 simp (maxSteps:=1000000) only [an,ak,ax,aw,az,ay,YF,aU,ig,ez,aA,seval]
 intro _
 have Sv:sG ks i=if (ks.take i).any (fun y=>y.sD==x.sD) then .error 120 else eH ks x:=by rw [sG,hx]
 obtain ⟨S,hS⟩:∃S,S=x.sD:=⟨_,rfl⟩
 rw [←hS] at Sv
 refine r_ (X:=Nat) [⟨.func 44,[.ptr i2 1 0,.ptr i3 1 0],[]⟩] (fun j=>[(1,.int .i64 (i:Int)),(2,.ptr i1 1 0),(4,.ptr i2 1 0),(5,.ptr i3 1 0),(13,.sl (Nd.bg (ks.take i))),(14,.int .i64 (i:Int)),(15,.int .i64 (j:Int))])
  (fun j=>_) (fun j=>i - j) (fun j=>j≤i∧(ks.take j).any (fun y=>y.sD==S)=false) 0 ⟨Nat.zero_le _,rfl⟩ (by simp only [ez,aA,seval]) (aa.aj _) ?_
 rintro j Q ⟨j0,j1⟩ hQ
 cases iJ:decide (j<i) with
 | true=>
  have iJ:j<i:=by simpa using iJ
  obtain ⟨y,hy⟩:∃y,ks[j]? =some y:=⟨_,List.getElem?_eq_getElem (by omega)⟩
  have Vw:(ks.take i)[j]? =some y:=by rw [List.getElem?_take]; simp [iJ,hy]
  have g:((j:Int)<(i:Int))=True:=eq_true (by omega)
  have wi:IntKind.i64.wrap ((j:Int)+1)=((j+1:Nat):Int):=cp (by omega)
  have te:∀(K:D→aa→Prop) (h:aa),fx 5 K h (Nd.bg (ks.take i)) (j:Int)=K (.cO y.enc 0) h:=fun K h=>cG Vw
  have jn:(ks.take (j+1)).any (fun y=>y.sD==S)=(y.sD==S):=by rw [List.take_add_one,hy,List.any_append,j1]; simp
  have Au:y∈ks.take i:=List.mem_of_getElem? Vw
  obtain ⟨yk,yt,yx,ym,yl⟩:=y
  obtain ⟨xk,xt,xs,xn,xl⟩:=x
  change S=xs at hS
  subst hS
  simp only [aB] at ie te
  simp (maxSteps:=1000000) only [g,ie,te,an,ak,ax,aw,az,ay,ez,aA,seval]
  intro i4 aL aP aK aO aJ aN
  simp (maxSteps:=1000000) only [an,ak,ax,aw,az,ay,aL,aP,aK,aO,aJ,aN,ie,ez,aA,seval]
  cases gy:(yx==S) with
  | true=>
   have alo:(ks.take i).any (fun y=>y.sD==S)=true:=List.any_eq_true.2 ⟨_,Au,gy⟩
   rw [alo] at Sv
   simp only [if_true] at Sv
   rw [Sv]
   simp (maxSteps:=1000000) only [bz,cE,aE,cond_false,Bool.not_true,aA,seval]
   intro σ hσ hη
   have r4:σ.env 4=.ptr i2 1 0:=(hη 4 (by decide)).trans (by simp only [aA,seval])
   have r5:σ.env 5=.ptr i3 1 0:=(hη 5 (by decide)).trans (by simp only [aA,seval])
   simp only [aX]
   rw [hσ]
   simp only [ag,ab,List.nil_append,List.append_nil]
   refine ⟨rfl,i2,i3,[.int .i64 0,.int .i64 0,.str [],.int .i64 0,.aZ],.int .i64 0,rfl,rfl,(by simp [an,ak,ax,aw,az,ay,aL,aP,aK,aO,aJ,aN]),(by simp [an,ak,ax,aw,az,ay,aL,aP,aK,aO,aJ,aN]),ax,aw,.inr ⟨120,rfl,?_⟩⟩
   simp (maxSteps:=1000000) only [ab,av,FE,RF,aB,bc,r4,r5,an,ak,ax,aw,az,ay,aL,aP,aK,aO,aJ,aN,aA,seval]
   exact .inr ⟨_,aa.aj _⟩
  | false=>
   simp (maxSteps:=1000000) only [bz,cE,aW,cond_true,Bool.not_false,wi,an,ak,ax,aw,az,ay,aL,aP,aK,aO,aJ,aN,ez,aA,seval]
   refine hQ (j+1) _ _ ⟨by omega,by rw [jn]; exact gy⟩ (by simp only [ez,aA,seval]) (gn (by simp [an,ak,ax,aw,az,ay,aL,aP,aK,aO,aJ,aN])) (by omega)
 | false=>
  have e0:j=i:=by simp at iJ; omega
  have g:((j:Int)<(i:Int))=False:=eq_false (by omega)
  subst e0
  rw [j1] at Sv
  simp only [Bool.false_eq_true,if_false] at Sv
  rw [Sv]
  simp (maxSteps:=1000000) only [g,ie,an,ak,ax,aw,az,ay,ez,aA,seval]
  intro i4 aL aP aK aO aJ aN
  obtain ⟨xk,xt,xs,xn,xl⟩:=x
  simp only [aB] at ie
  simp (maxSteps:=1000000) only [an,ak,ax,aw,az,ay,aL,aP,aK,aO,aJ,aN,ie,ez,aA,seval]
  refine ⟨i4,.mk pk pt ps pn ks,.aZ,.aZ,.mk xk xt xs xn xl,by rw [aB],⟨by simp [fV],.inl ⟨rfl,rfl⟩,.inl ⟨rfl,rfl⟩,fun _ _ _ _ _ _ _ _ e=>by cases e⟩,hxc,?_⟩
  simp only [Nd.lD]
  have sC:∀{ds:List D},∀sz aY xs du,cJ.cells ds≠.dz sz aY xs du:=fun _ _ _ _ e=>by cases e
  cases hd:eH ks (.mk xk xt xs xn xl) with
  | error e=>
   simp only
   intro h' g
   have u2:=g.fM i2 (.cells [.int .i64 0,.int .i64 0,.str [],.int .i64 0,.aZ]) (by simp [an,ak,ax,aw,az,ay,aL,aP,aK,aO,aJ,aN]) (by simp [an,ak,ax,aw,az,ay,aL,aP,aK,aO,aJ,aN]) sC
   have u3:=g.fM i3 (.cells [.int .i64 0]) (by simp [an,ak,ax,aw,az,ay,aL,aP,aK,aO,aJ,aN]) (by simp [an,ak,ax,aw,az,ay,aL,aP,aK,aO,aJ,aN]) sC
   simp only [aX,ag,ab,List.nil_append,List.append_nil]
   refine ⟨rfl,i2,i3,[.int .i64 0,.int .i64 0,.str [],.int .i64 0,.aZ],.int .i64 0,rfl,rfl,u2,u3,ax,aw,.inr ⟨e,rfl,?_⟩⟩
   simp (maxSteps:=1000000) only [ab,av,FE,RF,aB,bc,an,ak,ax,aw,az,ay,aL,aP,aK,aO,aJ,aN,aA,seval]
   exact .inr ⟨_,aa.aj _⟩
  | ok y=>
   simp only
   intro h' g
   have u2:=g.fM i2 (.cells [.int .i64 0,.int .i64 0,.str [],.int .i64 0,.aZ]) (by simp [an,ak,ax,aw,az,ay,aL,aP,aK,aO,aJ,aN]) (by simp [an,ak,ax,aw,az,ay,aL,aP,aK,aO,aJ,aN]) sC
   have u3:=g.fM i3 (.cells [.int .i64 0]) (by simp [an,ak,ax,aw,az,ay,aL,aP,aK,aO,aJ,aN]) (by simp [an,ak,ax,aw,az,ay,aL,aP,aK,aO,aJ,aN]) sC
   obtain ⟨yk,yt,ys,yn,yl⟩:=y
   simp (maxSteps:=1000000) only [aB,u2,u3,an,ak,ax,aw,az,ay,aL,aP,aK,aO,aJ,aN,af,ag,ab,ez,aA,seval]
   refine ⟨rfl,i2,i3,[.int .i64 yk,.int .i64 yt,.str ys,.int .i64 yn,.sl (Nd.bg yl)],.int .i64 0,rfl,rfl,by simp [an,ak,ax,aw,az,ay,aL,aP,aK,aO,aJ,aN],by simp [an,ak,ax,aw,az,ay,aL,aP,aK,aO,aJ,aN],ax,aw,.inl ⟨rfl,?_⟩⟩
   simp (maxSteps:=1000000) only [an,ak,ax,aw,az,ay,aL,aP,aK,aO,aJ,aN,av,FE,aB,aA,seval]
   exact .inr ⟨_,aa.aj _⟩
open Classical in
def Mi (args:List D):Option D:=if h:∃x:Nd×Nat,args=[.agg x.1.enc,.int .i64 (x.2:Int)]∧x.2<x.1.lD.length∧x.1.cI≤400000 then some (FE (sG (Classical.choose h).1.lD (Classical.choose h).2)) else none
theorem Wf {p:Nd} {i:Nat} (hi:i<p.lD.length) (hp:p.cI≤400000):Mi [.agg p.enc,.int .i64 (i:Int)]=some (FE (sG p.lD i)):=by
 have h:∃x:Nd×Nat,[D.agg p.enc,.int .i64 (i:Int)]=[.agg x.1.enc,.int .i64 (x.2:Int)]∧x.2<x.1.lD.length∧x.1.cI≤400000:=⟨(p,i),rfl,hi,hp⟩
 rw [Mi,dif_pos h]
 have e:=(Classical.choose_spec h).1
 injection e with e1 e2
 injection e1 with e1
 injection e2 with e2
 injection e2 with _ e2
 rw [←po _ _ e1,←Int.ofNat.inj e2]
theorem aai (args:List D) (d:D) (h:Mi args=some d):aV Tryz.prog 28 args d:=by
 unfold Mi at h
 split at h
 ·rename_i hx
  have e:=Classical.choose_spec hx
  cases h
  obtain ⟨⟨p,i⟩,hp⟩:∃x,x=Classical.choose hx:=⟨_,rfl⟩
  rw [←hp] at e ⊢
  obtain ⟨rfl,e1,e2⟩:=e
  exact aes p i e1 e2
 ·cases h
end
end Go.Proofs.YtpklkpkfgmoghaaGreatDoor.Zz
