/- Contracts: how an expression, a literal, a declaration is printed. -/
import Derived.Test.YtpklkpkfgmoghaaGreatDoorZP29
import Derived.Test.YtpklkpkfgmoghaaGreatDoorZP34
import Derived.Test.YtpklkpkfgmoghaaGreatDoorZA24
set_option linter.unnecessarySimpa false
set_option linter.unusedVariables false
set_option linter.unusedSimpArgs false
set_option maxRecDepth 20000
namespace Go.Proofs.YtpklkpkfgmoghaaGreatDoor.Zz
noncomputable section
def YW:b7:=⟨⟨[],[],[],[],[],[]⟩,[(12,[0,1,2,3,4,5,6,7,8]),(14,[0,1,4,5,2,3,6,7,8,9]),(16,[0,1,2,3,4,5,6])],[],false⟩
def qW:dA:=
 sO [oQ (.box (.t 0)) 1,
 oP (.cg (kS [])) 2]
 (.seq (sO [oF 0 1 3,
 oL 3 4]
 (.block 0 (sO [oH .eql 4 20 6,
 oM 6 5]
 (.cond (.t 5)
 (sO [oF 3 1 7,
 oL 7 8,
 oD 40 [.t 8,kI 10] 9,
 oM 9 2]
 (.ret))
 (.seq (sO [oH .eql 4 21 11,
 oM 11 10]
 (.cond (.t 10)
 (.skip)
 (.ops [oH .eql 4 23 12,
 oM 12 10])))
 (.cond (.t 10)
 (sO [oF 2 1 13,
 oL 13 14,
 oM 14 2]
 (.ret))
 (sO [oH .eql 4 22 16,
 oM 16 15]
 (.cond (.t 15)
 (.seq (sO [oF 3 1 17,
 oL 17 18,
 oH .eql 18 0 19]
 (.cond (.t 19)
 (sO [oP (.cg (kS [102,97,108,115,101])) 2]
 (.ret))
 (.skip)))
 (sO [oP (.cg (kS [116,114,117,101])) 2]
 (.ret)))
 (sO [oH .eql 4 24 21,
 oM 21 20]
 (.cond (.t 20)
 (.seq (.fq 2 [oF 2 1 22,
 oL 22 23,
 oP (.bin .add (.t 23) (kS [40])) 24,
 oF 4 1 25,
 oL 25 26,
 oD 26 [.t 26,(kS [44,32])] 27,
 oE .add 24 27 28,
 oP (.bin .add (.t 28) (kS [41])) 29,
 oM 29 2])
 (.ret))
 (sO [oH .eql 4 27 31,
 oM 31 30]
 (.cond (.t 30)
 (.seq (.fq 2 [oF 1 1 32,
 oL 32 33,
 oF 4 1 36,
 oL 36 37,
 oD 41 [.t 33] 34,
 oP (.bin .add (.t 34) (kS [40])) 35,
 oD 26 [.t 37,(kS [44,32])] 38,
 oE .add 35 38 39,
 oP (.bin .add (.t 39) (kS [41])) 40,
 oM 40 2])
 (.ret))
 (sO [oH .eql 4 25 42,
 oM 42 41]
 (.cond (.t 41)
 (.seq (.fq 2 [oF 2 1 43,
 oL 43 44,
 oF 4 1 45,
 oL 45 46,
 oD 26 [.t 46,kS []] 47,
 oE .add 44 47 48,
 oM 48 2])
 (.ret))
 (.skip)))))))))))))))
 (sO [oF 4 1 49,
 oL 49 50,
 oF 2 1 51,
 oL 51 52,
 oP (.bin .add (kS [32]) (.t 52)) 53,
 oP (.bin .add (.t 53) (kS [32])) 54,
 oD 26 [.t 50,.t 54] 55,
 oP (.bin .add (kS [40]) (.t 55)) 56,
 oP (.bin .add (.t 56) (kS [41])) 57,
 oM 57 2]
 (.ret)))
theorem WG:bE Tryz.prog 23 YW=some (qW,[.tmp 2],58):=by kernel_rfl
def Y0:b7:=⟨⟨[],[],[],[],[],[]⟩,[],[],false⟩
def DZ:dA:=
 sO [oQ (.box (.t 0)) 1,
 oP (.cg (kS [])) 2]
 (.seq (sO [oF 0 1 3,
 oL 3 4,
 oH .eql 4 21 5,
 oM 5 6,
 oG (.fieldAddr 3 (.t 1)) 7 6 true true,
 oG (.load none (.t 7)) 8 6 true false,
 oG (.bin .lss (.t 8) (kI 0)) 9 6 true true,
 oP (.pick (.t 6) (.t 9) (kB false)) 10]
 (.cond (.t 10)
 (sO [oF 2 1 11,
 oL 11 12,
 oP (.bin .add (kS [45]) (.t 12)) 13,
 oM 13 2]
 (.ret))
 (.skip)))
 (.seq (sO [oF 0 1 14,
 oL 14 15,
 oH .eql 15 20 16]
 (.cond (.t 16)
 (sO [oF 3 1 17,
 oL 17 18,
 oD 40 [.t 18,kI 10] 19,
 oM 19 2]
 (.ret))
 (.skip)))
 (sO [oJ 5 1 20,
 oD 8 [.t 20] 21,
 oM 21 2]
 (.ret))))
theorem WK:bE Tryz.prog 42 Y0=some (DZ,[.tmp 2],22):=by kernel_rfl
def YX:b7:=⟨⟨[],[],[(15,11),(17,6),(18,7),(18,19)],[],[],[]⟩,[(11,[0,1,2,3,4,5,6,7]),(15,[0,1,2,3,4,5,9,10,11,12,6,7,8,13,14,15,16]),(17,[0,1,2,3,4,5,6,7,8,9,10]),(18,[0,1,2,3,4,5,6,7,11,12,16,17,18,19,20,8,9,10,13,14,15,21,22,23])],[],false⟩
def wE:dA:=
 sO [oQ (.box (.t 0)) 1,
 oP (.cg (kS [])) 2]
 (sO [oF 4 1 7,
 oL 7 8,
 oZ 8 9,
 oH .sub 9 1 10,
 oM 10 3]
 (.seq (.block 0 (sO [oF 0 1 12,
 oL 12 13,
 oH .eql 13 1 14,
 oM 14 11]
 (.cond (.t 11)
 (sO [oP (.cg (kS [])) 4]
 (.seq (sO [oF 4 1 15,
 oL 15 16,
 oZ 16 17,
 oP (.cg (kI 0)) 18]
 (.block 1 (.loop (sO [oE .lss 18 17 19]
 (.seq (.cond (.t 19)
 (.skip)
 (.exit 1))
 (.seq (.block 2 (sO [oI 5 16 18 20,
 oJ 5 20 21,
 oA 6,
 oS 5 6 21]
 (.ops [oM 4 22,
 oJ 5 6 23,
 oD 8 [.t 23] 24,
 oP (.bin .add (.t 24) (kS [10])) 25,
 oE .add 22 25 26,
 oM 26 4])))
 (.ops [oH .add 18 1 27,
 oM 27 18])))))))
 (sO [oM 4 28,
 oM 28 2]
 (.ret))))
 (sO [oF 0 1 30,
 oL 30 31,
 oH .eql 31 5 32,
 oM 32 29]
 (.cond (.t 29)
 (.seq (.fq 2 [oF 2 1 33,
 oL 33 34,
 oP (.bin .add (.t 34) (kS [32])) 35,
 oF 1 1 36,
 oL 36 37,
 oD 41 [.t 37] 38,
 oE .add 35 38 39,
 oM 39 2])
 (.ret))
 (sO [oM 3 41,
 oH .lss 41 0 42,
 oM 42 40]
 (.cond (.t 40)
 (sO [oP (.cg (kS [])) 2]
 (.ret))
 (sO [oF 0 1 44,
 oL 44 45,
 oH .eql 45 2 46,
 oM 46 43]
 (.cond (.t 43)
 (.seq (.fq 2 [oF 2 1 47,
 oL 47 48,
 oP (.bin .add (kS [118,97,114,32]) (.t 48)) 49,
 oP (.bin .add (.t 49) (kS [32])) 50,
 oF 1 1 51,
 oL 51 52,
 oF 4 1 56,
 oL 56 57,
 oQ (.aY 5 (.t 57) (kI 0)) 58,
 oJ 5 58 59,
 oD 41 [.t 52] 53,
 oE .add 50 53 54,
 oP (.bin .add (.t 54) (kS [32,61,32])) 55,
 oD 42 [.t 59] 60,
 oE .add 55 60 61,
 oP (.bin .add (.t 61) (kS [59])) 62,
 oM 62 2])
 (.ret))
 (sO [oF 0 1 64,
 oL 64 65,
 oH .eql 65 4 66,
 oM 66 63]
 (.cond (.t 63)
 (.seq (.fq 2 [oF 2 1 67,
 oL 67 68,
 oP (.bin .add (kS [116,101,115,116,32]) (.t 68)) 69,
 oP (.bin .add (.t 69) (kS [32])) 70,
 oF 4 1 71,
 oL 71 72,
 oQ (.aY 5 (.t 72) (kI 0)) 73,
 oJ 5 73 74,
 oD 8 [.t 74] 75,
 oE .add 70 75 76,
 oM 76 2])
 (.ret))
 (.skip))))))))))))
 (.seq (.fq 2 [oF 2 1 77,
 oL 77 78,
 oP (.bin .add (kS [102,117,110,99,32]) (.t 78)) 79,
 oP (.bin .add (.t 79) (kS [40])) 80,
 oF 4 1 81,
 oL 81 82,
 oM 3 83,
 oQ (.slice (.sl 5) (.t 82) none (some (.t 83)) none) 84,
 oF 1 1 88,
 oL 88 89,
 oF 4 1 93,
 oL 93 94,
 oM 3 95,
 oI 5 94 95 96,
 oJ 5 96 97,
 oD 26 [.t 84,(kS [44,32])] 85,
 oE .add 80 85 86,
 oP (.bin .add (.t 86) (kS [41,32])) 87,
 oD 41 [.t 89] 90,
 oE .add 87 90 91,
 oP (.bin .add (.t 91) (kS [32])) 92,
 oD 8 [.t 97] 98,
 oE .add 92 98 99,
 oM 99 2])
 (.ret))))
theorem WH:bE Tryz.prog 24 YX=some (wE,[.tmp 2],100):=by kernel_rfl
open Classical in
def qS (f:Nat):List D→Option D
 | [.sl ds,.str sep]=>match vh ds with
  | some l=>if (∀x∈l,x.de<f∧sf x)∧l.length≤1000000000∧(Lib.join (aZ l) sep).length≤1000000000000 then some (.str (Lib.join (aZ l) sep)) else none
  | none=>none
 | _=>none
theorem Ot (f:Nat) (hT:(xy f).ok Tryz.prog) (args:List D) (d:D) (h:qS f args=some d):aM Tryz.prog 26 args d:=by
 unfold qS at h
 split at h
 ·split at h
  ·rename_i l hl
   split at h
   ·rename_i c
    cases h
    rw [pI hl]
    exact Rx f hT l _ c.1 c.2.1 c.2.2
   ·cases h
  ·cases h
 ·cases h
theorem DP {f:Nat} {l:List Nd} {sep:List UInt8} (h1:∀x∈l,x.de<f∧sf x) (h2:l.length≤1000000000) (h3:(Lib.join (aZ l) sep).length≤1000000000000):qS f [.sl (Nd.cN l),.str sep]=some (.str (Lib.join (aZ l) sep)):=by
 simp only [qS,ye]; rw [if_pos ⟨h1,h2,h3⟩]
def SO (f:Nat):bf:=(xy f).cX 26 (qS f)
theorem GY {f:Nat} (hT:(xy f).ok Tryz.prog):(SO f).ok Tryz.prog:=bf.bm hT fun args d h=>Ot f hT args d h
theorem Qh (f:Nat) (g:FuncId) (args:List D):(SO f).q g args=if g=26 then qS f args else (xy f).q g args:=rfl
theorem aak (f:Nat):(SO f).a=rE.a:=rfl
theorem aal (f:Nat):(SO f).c=rE.c:=rfl
theorem Dn {k t:Int} {s:List UInt8} {m:Int} {l:List Nd} {f:Nat} (h:sf (.mk k t s m l)) (hn:(Nd.mk k t s m l).de<f+1) {sep:List UInt8} (hJ:(Lib.join (aZ l) sep).length≤1000000000000):qS f [.sl (Nd.cN l),.str sep]=some (.str (Lib.join (aZ l) sep)):=by
 refine DP (fun x hx=>⟨by have:=ot (k:=k) (t:=t) (s:=s) (n:=m) hx; omega,mf h hx ?_⟩) ?_ hJ
 ·have:=C5 (sep:=sep) (show aT x∈aZ l by rw [eN]; exact List.mem_map.2 ⟨x,hx,rfl⟩)
  omega
 ·have:=h.1
  rw [bg] at this
  have:=qq l
  omega
theorem uI {k t:Int} {s:List UInt8} {m:Int} {l:List Nd} (h:sf (.mk k t s m l)): -9223372036854775808≤m∧m≤9223372036854775807∧s.length≤1000000000000:=by
 have:=h.2.2 (.mk k t s m l) (by rw [vQ]; exact List.mem_cons_self)
 exact this
set_option maxHeartbeats 1000000 in
theorem Nb (f:Nat) (hT:(xy f).ok Tryz.prog) (n:Nd) (hn:n.de<f+1) (kM:sf n) (hk:n.kind≥20):aM Tryz.prog 23 [.agg n.enc] (.str (aT n)):=by
 refine aM.run (GY hT) WG (by simp) fun E=>?_
 have iZ:=Qh f
 have jk:=zW f
 have iX:=aak f
 have iY:=aal f
 generalize SO f=TT at iZ iX iY ⊢
 obtain ⟨k,t,s,m,l⟩:=n
 have hk:k≥20:=hk
 have hlen:=kM.2.1
 have Yc:∀sep,(Lib.join (aZ l) sep).length≤1000000000000→qS f [.sl (Nd.cN l),.str sep]=some (.str (Lib.join (aZ l) sep)):=fun sep hJ=>Dn kM hn hJ
 obtain ⟨m0,m1,hs⟩:=uI kM
 have Vk:=H0 m0 m1
 have Xb:xP [.int .i64 t]=some (.str (fx t)):=rfl
 have htn:(fx t).length≤5:=by unfold fx; cases (t==1)<;>cases (t==2)<;>cases (t==3)<;>decide
 rw [bH] at hlen ⊢
 rw [aR]
 unfold jI at hlen ⊢
 rw [if_pos hk] at hlen ⊢
 unfold yn at hlen ⊢
 generalize aZ l=ps at hlen Yc ⊢
 cases jP:(k==20)
 case true=>simp (maxSteps:=1000000) only [qW,jP,Vk,iZ,jk,iX,iY,bN,aB,seval]
 cases jF:(k==21)
 case true=>simp (maxSteps:=1000000) only [qW,jP,jF,Bool.true_or,iZ,jk,iX,iY,bN,aB,seval]
 cases rU:(k==23)
 case true=>simp (maxSteps:=1000000) only [qW,jP,jF,rU,Bool.false_or,iZ,jk,iX,iY,bN,aB,seval]
 cases u5:(k==22)
 case true=>
  cases cm:(m==0)
  all_goals simp (maxSteps:=1000000) only [qW,jP,jF,rU,u5,cm,iU,lY,Bool.false_or,iZ,jk,iX,iY,bN,aB,seval]
 simp only [jP,jF,rU,u5,Bool.false_or,cond_false] at hlen
 cases KL:(k==24)
 case true=>
  simp only [KL,cond_true,List.length_append,List.length_cons,List.length_nil] at hlen
  have hj:=Yc [44,32] (by omega)
  simp (maxSteps:=1000000) only [qW,jP,jF,rU,u5,KL,hj,Bool.false_or,iZ,jk,iX,iY,bN,aB,seval]
  intros
  (try simp only [List.length_append,List.length_cons,List.length_nil])
  omega
 simp only [KL,cond_false] at hlen
 cases gO:(k==27)
 case true=>
  simp only [gO,cond_true,List.length_append,List.length_cons,List.length_nil] at hlen
  have hj:=Yc [44,32] (by omega)
  simp (maxSteps:=1000000) only [qW,jP,jF,rU,u5,KL,gO,hj,Xb,Bool.false_or,iZ,jk,iX,iY,bN,aB,seval]
  intros
  (try simp only [List.length_append,List.length_cons,List.length_nil])
  omega
 simp only [gO,cond_false] at hlen
 cases iD:(k==25)
 case true=>
  simp only [iD,cond_true,List.length_append,List.length_cons,List.length_nil] at hlen
  have hj:=Yc [] (by omega)
  simp (maxSteps:=1000000) only [qW,jP,jF,rU,u5,KL,gO,iD,hj,Bool.false_or,iZ,jk,iX,iY,bN,aB,seval]
  intros
  (try simp only [List.length_append,List.length_cons,List.length_nil])
  omega
 simp only [iD,cond_false,List.length_append,List.length_cons,List.length_nil] at hlen
 have hj:=Yc (32::(s++[32])) (by omega)
 simp (maxSteps:=1000000) only [qW,jP,jF,rU,u5,KL,gO,iD,hj,Bool.false_or,iZ,jk,iX,iY,bN,aB,seval]
 intros
 (try simp only [List.length_append,List.length_cons,List.length_nil])
 omega
open Classical in
def LI (f:Nat):List D→Option D
 | [.agg ds]=>match vg ds with
  | some n=>if n.de<f∧sf n then some (.str (xJ n (aT n))) else none
  | none=>none
 | _=>none
theorem Si {f:Nat} {n:Nd} (h:n.de<f) (h2:sf n):LI f [.agg n.enc]=some (.str (xJ n (aT n))):=by
 simp only [LI,j8]; rw [if_pos ⟨h,h2⟩]
theorem Rz (f:Nat) (hT:(xy f).ok Tryz.prog) (n:Nd) (hn:n.de<f) (kM:sf n):aM Tryz.prog 42 [.agg n.enc] (.str (xJ n (aT n))):=by
 refine aM.run hT WK (by simp) fun E=>?_
 have jk:=zW f
 have Rg:=Qi f
 have Rh:=Qj f
 have QF:=oB hn kM
 generalize xy f=TT at jk Rg Rh ⊢
 generalize aT n=p at QF ⊢
 have hn5:=ao n
 have hpn:=aj n
 obtain ⟨k,t,s,m,l⟩:=n
 obtain ⟨m0,m1,hs⟩:=uI kM
 have Vk:=H0 m0 m1
 rw [aR] at*
 unfold xJ
 cases jP:(k==21)
 case true=>
  have jF:(k==20)=false:=by
   have:k=21:=by simpa using jP
   subst this; rfl
  by_cases cm:m<0
  ·have g:(m<0)=True:=eq_true cm
   simp (maxSteps:=1000000) only [DZ,jP,jF,g,jk,Rg,Rh,bN,aB,seval]
   intros
   (try simp only [List.length_append,List.length_cons,List.length_nil])
   omega
  ·have g:(m<0)=False:=eq_false cm
   simp (maxSteps:=1000000) only [DZ,jP,jF,g,QF,jk,Rg,Rh,bN,aB,seval]
 cases jF:(k==20)
 case true=>simp (maxSteps:=1000000) only [DZ,jP,jF,Vk,jk,Rg,Rh,bN,aB,seval]
 simp (maxSteps:=1000000) only [DZ,jP,jF,QF,jk,Rg,Rh,bN,aB,seval]
theorem Sj (f:Nat) (hT:(xy f).ok Tryz.prog) (args:List D) (d:D) (h:LI f args=some d):aM Tryz.prog 42 args d:=by
 unfold LI at h
 split at h
 ·split at h
  ·rename_i n hn
   split at h
   ·rename_i c
    cases h
    rw [iO hn]
    exact Rz f hT n c.1 c.2
   ·cases h
  ·cases h
 ·cases h
def trL (f:Nat):bf:=(SO f).cX 42 (LI f)
theorem WW {f:Nat} (hT:(xy f).ok Tryz.prog):(trL f).ok Tryz.prog:=bf.bm (GY hT) fun args d h=>Sj f hT args d h
theorem aap (f:Nat) (g:FuncId) (args:List D):(trL f).q g args=if g=42 then LI f args else (SO f).q g args:=rfl
theorem aan (f:Nat):(trL f).a=rE.a:=rfl
theorem aao (f:Nat):(trL f).c=rE.c:=rfl
theorem KX (l:List Nd) (i:Nat):(Nd.cN l).take i=Nd.cN (l.take i):=by rw [eZ,eZ,List.map_take]
theorem GF (l:List Nd) (i:Nat) (h:i≤l.length):ij (.sl 5) (.sl (Nd.cN l)) none (some (.int .i64 (i:Int))) none=some (.sl (Nd.cN (l.take i))):=by
 have h1:∀y∈Nd.cN l,y.length=5:=fun y hy=>by
  rw [eZ] at hy
  obtain ⟨x,_,rfl⟩:=List.mem_map.1 hy
  exact ao x
 simp only [ij,bounds,nA,aV]
 rw [if_pos h1,if_pos ⟨by omega,by omega,by omega⟩]
 simp [KX]
theorem Df {ps:List (List UInt8)} {i:Nat} {p:List UInt8} (h:ps[i]? =some p):fD (ps.take (i+1))=fD (ps.take i)++(p++[10]):=by
 rw [List.take_add_one,h]
 simp [fD]
theorem y8 (ps:List (List UInt8)) (i:Nat):(fD (ps.take i)).length≤(fD ps).length:=by
 have:fD ps=fD (ps.take i)++fD (ps.drop i):=by
  conv=>lhs; rw [←List.take_append_drop i ps]
  simp only [fD,List.map_append,List.flatten_append]
 rw [this,List.length_append]; omega
theorem F_ {ps:List (List UInt8)} {x:List UInt8} (h:x∈ps):x.length≤(fD ps).length:=by
 induction ps with
 | nil=>cases h
 | cons y r ih=>
  have e:fD (y::r)=y++[10]++fD r:=by simp [fD]
  rw [e,List.length_append,List.length_append]
  rcases List.mem_cons.1 h with e | e
  ·subst e; omega
  ·have:=ih e; omega
theorem RA (y:Nd):(aT y).length≤(xJ y (aT y)).length:=by
 obtain ⟨k,t,s,m,l⟩:=y
 unfold xJ
 cases c:(k==21 && decide (m<0)) with
 | true=>
  have:k=21:=by simp at c; exact c.1
  subst this
  have hm:m<0:=by simp at c; exact c
  rw [bH]
  simp [jI,yn,hm]
 | false=>
  cases jF:(k==20) with
  | true=>
   have:k=20:=by simpa using jF
   subst this
   rw [bH]
   simp [jI,yn,c]
  | false=>simp only [c,jF,cond_false]; exact Nat.le_refl _
set_option maxHeartbeats 1000000 in
theorem M0 (f:Nat) (hT:(xy f).ok Tryz.prog) (n:Nd) (hn:n.de<f+1) (kM:sf n) (hk:n.kind≤5):aM Tryz.prog 24 [.agg n.enc] (.str (aT n)):=by
 refine aM.run (WW hT) WH (by simp) fun E=>?_
 have iZ:=aap f
 have ow:=Qh f
 have jk:=zW f
 have iX:=aan f
 have iY:=aao f
 generalize trL f=TT at iZ iX iY ⊢
 obtain ⟨k,t,s,m,l⟩:=n
 have hk:k≤5:=hk
 have hlen:=kM.2.1
 obtain ⟨m0,m1,hs⟩:=uI kM
 have Xb:xP [.int .i64 t]=some (.str (fx t)):=rfl
 have htn:(fx t).length≤5:=by unfold fx; cases (t==1)<;>cases (t==2)<;>cases (t==3)<;>decide
 have K7:=kM.1
 rw [bg] at K7
 have F0:=qq l
 have Vf:∀x∈l,x.de<f:=fun x hx=>by have:=ot (k:=k) (t:=t) (s:=s) (n:=m) hx; omega
 rw [bH] at hlen ⊢
 rw [aR]
 unfold jI at hlen ⊢
 rw [if_neg (by omega),if_pos hk] at hlen ⊢
 have wl:IntKind.i64.wrap ((l.length:Int) - 1)=(l.length:Int) - 1:=wrap_i64 (by omega) (by omega)
 unfold MZ at hlen ⊢
 cases jP:(k==1)
 case true=>
  simp only [jP,cond_true] at hlen ⊢
  simp (maxSteps:=1000000) only [wE,jP,wl,aV,iZ,ow,jk,iX,iY,bN,aB,seval]
  intro i1 _ _
  refine cS (X:=Nat) (fun i=>[(4,.str (fD ((aZ l).take i))),(16,.sl (Nd.cN l)),(17,.int .i64 l.length),(18,.int .i64 i)]) (fun _=>.emp) (fun i=>l.length - i) (fun i=>i≤l.length) 0 (Nat.zero_le _) (by simp only [List.take_zero,fD,List.map_nil,List.flatten_nil,aB,seval]) (aa.iW _) ?_
  intro i Q hi hQ
  by_cases ci:i<l.length
  ·have g:((i:Int)<(l.length:Int))=True:=eq_true (by omega)
   obtain ⟨x,hx⟩:∃x,l[i]? =some x:=⟨_,List.getElem?_eq_getElem ci⟩
   have hxm:=List.mem_of_getElem? hx
   have qz:∀(K:D→aa→Prop) (h:aa),iC 5 K h (Nd.cN l) (i:Int)=K (.cU x.enc 0) h:=fun K h=>iL hx
   have Vn:=aj x
   have wi:IntKind.i64.wrap ((i:Int)+1)=((i+1:Nat):Int):=cW (by omega)
   have hlx:=F_ (show aT x∈aZ l by rw [eN]; exact List.mem_map.2 ⟨x,hxm,rfl⟩)
   have hq:=oB (Vf x hxm) (mf kM hxm (by omega))
   have Lb:=Df (jr hx)
   have K9:=y8 (aZ l) i
   have hl2:=y8 (aZ l) (i+1)
   have hx5:=ao x
   generalize fD ((aZ l).take i)=w1 at*
   generalize aT x=px at*
   obtain ⟨xk,xt,xs,xm,xl⟩:=x
   rw [aR] at*
   simp (maxSteps:=1000000) only [g,qz,Vn,wi,hq,iZ,ow,jk,iX,iY,bN,aB,seval]
   intro id
   refine ⟨by omega,by (try simp only [List.length_append,List.length_cons,List.length_nil]); omega,hQ (i+1) _ _ (by omega) (by simp only [Lb,aB,seval]) (aa.iW _) (by omega)⟩
  ·have e0:i=l.length:=by omega
   subst e0
   have g:((l.length:Int)<(l.length:Int))=False:=eq_false (by omega)
   have tk:(aZ l).take l.length=aZ l:=List.take_of_length_le (by rw [js]; omega)
   simp (maxSteps:=1000000) only [g,tk,iZ,ow,jk,iX,iY,bN,aB,seval]
 simp only [jP,cond_false] at hlen ⊢
 cases jF:(k==5)
 case true=>
  simp only [jF,cond_true] at hlen ⊢
  simp (maxSteps:=1000000) only [wE,jP,jF,wl,Xb,aV,iZ,ow,jk,iX,iY,bN,aB,seval]
  intros
  (try simp only [List.length_append,List.length_cons,List.length_nil])
  omega
 simp only [jF,cond_false] at hlen ⊢
 cases l with
 | nil=>
  have g0:((-1:Int)<0)=True:=eq_true (by omega)
  have w0:IntKind.i64.wrap (-1)= -1:=by decide
  simp (maxSteps:=1000000) only [wE,jP,jF,g0,w0,bt,List.length_nil,iZ,ow,jk,iX,iY,bN,aB,seval]
 | cons y r=>
  have qz:∀(K:D→aa→Prop) (h:aa),iC 5 K h (Nd.cN (y::r)) 0=K (.cU y.enc 0) h:=fun K h=>iL (l:=y::r) (i:=0) rfl
  have hpy:=aj y
  have wr:IntKind.i64.wrap (((r.length+1:Nat):Int) - 1)=(r.length:Int):=by rw [wrap_i64 (by rw [List.length_cons] at F0; omega) (by rw [List.length_cons] at F0; omega)]; omega
  have g0:((r.length:Int)<0)=False:=eq_false (by omega)
  simp only [bd,List.getD_cons_zero] at hlen ⊢
  cases rU:(k==2)
  case true=>
   simp only [rU,cond_true] at hlen ⊢
   have QL:(aT y).length≤1000000000000:=by
    have:=RA y
    simp only [List.length_append] at hlen
    omega
   have hq:=Si (Vf y (by simp)) (mf kM (by simp) QL)
   generalize xJ y (aT y)=p at*
   have hy5:=ao y
   obtain ⟨yk,yt,ys,ym,yl⟩:=y
   rw [cj,aR] at*
   simp (maxSteps:=1000000) only [wE,jP,jF,rU,wr,g0,qz,hpy,Xb,hq,aV,List.length_cons,iZ,ow,jk,iX,iY,bN,aB,seval]
   intros
   simp only [List.length_append,List.length_cons,List.length_nil] at hlen ⊢
   omega
  simp only [rU,cond_false] at hlen ⊢
  cases u5:(k==4)
  case true=>
   simp only [u5,cond_true] at hlen ⊢
   have QL:(aT y).length≤1000000000000:=by rw [List.length_append] at hlen; omega
   have hq:=oB (Vf y (by simp)) (mf kM (by simp) QL)
   generalize aT y=p at*
   have hy5:=ao y
   obtain ⟨yk,yt,ys,ym,yl⟩:=y
   rw [cj,aR] at*
   simp (maxSteps:=1000000) only [wE,jP,jF,rU,u5,wr,g0,qz,hpy,Xb,hq,aV,List.length_cons,iZ,ow,jk,iX,iY,bN,aB,seval]
   intros
   simp only [List.length_append,List.length_cons,List.length_nil] at hlen ⊢
   omega
  simp only [u5,cond_false] at hlen ⊢
  obtain ⟨z,hz⟩:∃z,(y::r)[r.length]? =some z:=⟨_,List.getElem?_eq_getElem (by simp)⟩
  have abl:∀(K:D→aa→Prop) (h:aa),iC 5 K h (Nd.cN (y::r)) (r.length:Int)=K (.cU z.enc 0) h:=fun K h=>iL hz
  have hpz:=aj z
  have hzm:z∈y::r:=List.mem_of_getElem? hz
  have hsl:=GF (y::r) r.length (by simp)
  have hdl:(aT y::aZ r).dropLast=aZ ((y::r).take r.length):=by
   rw [←bd,eN,eN,List.dropLast_eq_take,List.length_map,←List.map_take]; rfl
  have hla:(aT y::aZ r).getD ((aT y::aZ r).length - 1) []=aT z:=by
   have:(aZ (y::r))[r.length]? =some (aT z):=jr hz
   rw [bd] at this
   rw [List.getD_eq_getElem?_getD,show (aT y::aZ r).length - 1=r.length by rw [List.length_cons,js]; omega,this]; rfl
  rw [hdl,hla] at hlen ⊢
  have hJ:(Lib.join (aZ ((y::r).take r.length)) [44,32]).length≤1000000000000:=by simp only [List.length_append] at hlen; omega
  have hq1:qS f [.sl (Nd.cN ((y::r).take r.length)),.str [44,32]]=some (.str (Lib.join (aZ ((y::r).take r.length)) [44,32])):=by
   refine DP (fun x hx=>⟨Vf x (List.mem_of_mem_take hx),mf kM (List.mem_of_mem_take hx) ?_⟩) ?_ hJ
   ·have:=C5 (sep:=[44,32]) (show aT x∈aZ ((y::r).take r.length) by rw [eN]; exact List.mem_map.2 ⟨x,hx,rfl⟩)
    omega
   ·rw [List.length_take,List.length_cons]; rw [List.length_cons] at F0; omega
  have hq2:=oB (Vf z hzm) (mf kM hzm (by simp only [List.length_append] at hlen; omega))
  generalize aT z=p at*
  generalize Lib.join (aZ ((y::r).take r.length)) [44,32]=J at*
  have hz5:=ao z
  obtain ⟨zk,zt,zs,zm,zl⟩:=z
  rw [aR] at*
  simp (maxSteps:=1000000) only [wE,jP,jF,rU,u5,wr,g0,abl,hpz,hsl,Xb,hq1,hq2,aV,List.length_cons,iZ,ow,jk,iX,iY,bN,aB,seval]
  intros
  simp only [List.length_append,List.length_cons,List.length_nil] at hlen ⊢
  omega
end
end Go.Proofs.YtpklkpkfgmoghaaGreatDoor.Zz
namespace Go.Proofs.YtpklkpkfgmoghaaGreatDoor.Zz
noncomputable section
def YY:b7:=⟨⟨[],[],[],[],[],[]⟩,[],[],false⟩
def Oz:dA:=
 sO [oP (.cg (kS [])) 3]
 (.seq (sO [oM 0 4,
 oF 4 1 5,
 oL 5 6,
 oZ 6 7,
 oE .geq 4 7 8]
 (.cond (.t 8)
 (sO [oP (.cg (kS [])) 3]
 (.ret))
 (.skip)))
 (sO [oF 4 1 9,
 oL 9 10,
 oM 0 11,
 oI 5 10 11 12,
 oJ 5 12 13,
 oD 8 [.t 13] 14,
 oM 14 3]
 (.ret)))
theorem WI:bE Tryz.prog 25 YY=some (Oz,[.tmp 3],15):=by kernel_rfl
def YT:b7:=⟨⟨[],[(12,4),(14,4),(16,1),(16,5),(18,2),(21,1),(21,5),(23,1),(25,1),(27,1)],[],[((12,4),[(.t 1)]),((14,4),[(.t 1)])],[((12,1),(.t 1)),((14,1),(.t 1))],[]⟩,[(12,[0,1,2,3,4,5,6,7]),(14,[0,1,2,3,4,5,6,7])],[],false⟩
def kT:dA:=
 sO [oQ (.box (.t 0)) 1,
 oP (.cg (kS [])) 2]
 (.seq (sO [oF 0 1 5,
 oL 5 6,
 oH .geq 6 20 7]
 (.cond (.t 7)
 (sO [oJ 5 1 8,
 oD 23 [.t 8] 9,
 oM 9 2]
 (.ret))
 (.skip)))
 (.seq (sO [oF 0 1 10,
 oL 10 11,
 oH .leq 11 5 12]
 (.cond (.t 12)
 (sO [oJ 5 1 13,
 oD 24 [.t 13] 14,
 oM 14 2]
 (.ret))
 (.skip)))
 (sO [oP (.mkFunc (.func 25) [] [(.t 1)]) 15,
 oM 15 3]
 (.seq (sO [oF 0 1 16,
 oL 16 17]
 (.block 0 (sO [oH .eql 17 6 19,
 oM 19 18]
 (.cond (.t 18)
 (.seq (sO [oF 4 1 20,
 oL 20 21,
 oZ 21 22,
 oH .eql 22 0 23]
 (.cond (.t 23)
 (sO [oP (.cg (kS [123,32,125])) 2]
 (.ret))
 (.skip)))
 (sO [oF 4 1 24,
 oL 24 25,
 oD 26 [.t 25,kS [32]] 26,
 oP (.bin .add (kS [123,32]) (.t 26)) 27,
 oP (.bin .add (.t 27) (kS [32,125])) 28,
 oM 28 2]
 (.ret)))
 (sO [oH .eql 17 7 30,
 oM 30 29]
 (.cond (.t 29)
 (.seq (.fq 2 [oF 2 1 31,
 oQ (.cK none (.t 31) (.t 1)) 32,
 oP (.bin .add (.t 32) (kS [32,58,61,32])) 33,
 oM 3 34,
 oQ (.callNe (.t 34) [(kI 0)] [(.t 1)]) 35,
 oE .add 33 35 36,
 oP (.bin .add (.t 36) (kS [59])) 37,
 oM 37 2])
 (.ret))
 (sO [oH .eql 17 8 39,
 oM 39 38]
 (.cond (.t 38)
 (.seq (.fq 2 [oF 2 1 40,
 oQ (.cK none (.t 40) (.t 1)) 41,
 oP (.bin .add (.t 41) (kS [32,61,32])) 42,
 oM 3 43,
 oQ (.callNe (.t 43) [(kI 0)] [(.t 1)]) 44,
 oE .add 42 44 45,
 oP (.bin .add (.t 45) (kS [59])) 46,
 oM 46 2])
 (.ret))
 (sO [oH .eql 17 9 48,
 oM 48 47]
 (.cond (.t 47)
 (sO [oM 3 49,
 oQ (.call (.t 49) [(kI 0)]) 50,
 oP (.bin .add (kS [105,102,32]) (.t 50)) 51,
 oP (.bin .add (.t 51) (kS [32])) 52,
 oM 3 53,
 oQ (.call (.t 53) [(kI 1)]) 54,
 oE .add 52 54 55,
 oM 55 4]
 (.seq (sO [oF 4 1 56,
 oL 56 57,
 oZ 57 58,
 oH .gtr 58 2 59]
 (.cond (.t 59)
 (.ops [oM 4 60,
 oM 3 61,
 oQ (.call (.t 61) [(kI 2)]) 62,
 oP (.bin .add (kS [32,101,108,115,101,32]) (.t 62)) 63,
 oE .add 60 63 64,
 oM 64 4])
 (.skip)))
 (sO [oM 4 65,
 oM 65 2]
 (.ret))))
 (sO [oH .eql 17 10 67,
 oM 67 66]
 (.cond (.t 66)
 (sO [oM 3 68,
 oQ (.call (.t 68) [(kI 0)]) 69,
 oP (.bin .add (kS [102,111,114,32]) (.t 69)) 70,
 oP (.bin .add (.t 70) (kS [32])) 71,
 oM 3 72,
 oQ (.call (.t 72) [(kI 1)]) 73,
 oE .add 71 73 74,
 oM 74 2]
 (.ret))
 (sO [oH .eql 17 11 76,
 oM 76 75]
 (.cond (.t 75)
 (sO [oM 3 77,
 oQ (.call (.t 77) [(kI 0)]) 78,
 oP (.bin .add (kS [114,101,116,117,114,110,32]) (.t 78)) 79,
 oP (.bin .add (.t 79) (kS [59])) 80,
 oM 80 2]
 (.ret))
 (sO [oH .eql 17 12 82,
 oM 82 81]
 (.cond (.t 81)
 (sO [oM 3 83,
 oQ (.call (.t 83) [(kI 0)]) 84,
 oP (.bin .add (kS [97,115,115,101,114,116,32]) (.t 84)) 85,
 oP (.bin .add (.t 85) (kS [59])) 86,
 oM 86 2]
 (.ret))
 (sO [oH .eql 17 13 88,
 oM 88 87]
 (.cond (.t 87)
 (sO [oM 3 89,
 oQ (.call (.t 89) [(kI 0)]) 90,
 oP (.bin .add (.t 90) (kS [59])) 91,
 oM 91 2]
 (.ret))
 (.skip)))))))))))))))))))
 (sO [oP (.cg (kS [115,107,105,112,59])) 2]
 (.ret))))))
theorem WC:bE Tryz.prog 8 YT=some (kT,[.tmp 2],92):=by kernel_rfl
def Nd.fI:Nd→List Nd
 | .mk _ _ _ _ l=>l
def MC (f:Nat) (args:List D) (h:aa) (K:D→aa→Prop):Prop:=∃(n:Nd) (id i:Nat),args=[.int .i64 (i:Int),.ptr id 1 0]∧h.f id=some (.cells n.enc)∧(∀x,n.fI[i]? =some x→x.de<f∧sf x)∧n.de≤1000000000∧K (.str ((aZ n.fI).getD i [])) h
theorem KM (f:Nat) (args:List D) (h:aa) (K K':D→aa→Prop) (hk:∀d h,K d h→K' d h) (c:MC f args h K):MC f args h K':=by
 obtain ⟨n,id,i,a,b,c,d,e⟩:=c
 exact ⟨n,id,i,a,b,c,d,hk _ _ e⟩
theorem QY (f:Nat) (hT:(xy f).ok Tryz.prog) (args:List D) (h:aa) (K:D→aa→Prop) (c:MC f args h K):aO Tryz.prog 25 args h fun o h'=>∃d,o=.ret d∧K d h':=by
 obtain ⟨n,id,i,rfl,hid,hk,hn,hK⟩:=c
 refine aO.Lp hT WI (by simp) ?_
 have jk:=zW f
 have Rg:=Qi f
 have Rh:=Qj f
 generalize xy f=TT at jk Rg Rh ⊢
 obtain ⟨k,t,s,m,l⟩:=n
 simp only [Nd.fI] at hk hK
 rw [bg] at hn
 have F0:=qq l
 rw [aR] at hid
 by_cases c:i<l.length
 ·have g:((i:Int)≥(l.length:Int))=False:=eq_false (by omega)
  obtain ⟨x,hx⟩:∃x,l[i]? =some x:=⟨_,List.getElem?_eq_getElem c⟩
  have qz:∀(K:D→aa→Prop) (h:aa),iC 5 K h (Nd.cN l) (i:Int)=K (.cU x.enc 0) h:=fun K h=>iL hx
  have Vn:=aj x
  obtain ⟨h1,h2⟩:=hk x hx
  have hq:=oB h1 h2
  have hg:(aZ l).getD i []=aT x:=by rw [List.getD_eq_getElem?_getD,jr hx]; rfl
  rw [hg] at hK
  generalize aT x=p at*
  obtain ⟨xk,xt,xs,xm,xl⟩:=x
  rw [aR] at*
  simp (maxSteps:=1000000) only [Oz,hid,g,qz,Vn,hq,aV,fi,jk,Rg,Rh,bN,aB,seval]
  intro _
  exact ⟨h,aa.aS _,hK⟩
 ·have g:((i:Int)≥(l.length:Int))=True:=eq_true (by omega)
  have hg:(aZ l).getD i []=[]:=by rw [List.getD_eq_getElem?_getD,List.getElem?_eq_none (by rw [js]; omega)]; rfl
  rw [hg] at hK
  simp (maxSteps:=1000000) only [Oz,hid,g,aV,fi,jk,Rg,Rh,bN,aB,seval]
  intro _
  exact ⟨h,aa.aS _,hK⟩
open Classical in
def ss (f:Nat):List D→Option D
 | [.agg ds]=>match vg ds with
  | some n=>if n.de<f+1∧sf n∧n.kind≥20 then some (.str (aT n)) else none
  | none=>none
 | _=>none
theorem LH (f:Nat) (hT:(xy f).ok Tryz.prog) (args:List D) (d:D) (h:ss f args=some d):aM Tryz.prog 23 args d:=by
 unfold ss at h
 split at h
 ·split at h
  ·rename_i n hn
   split at h
   ·rename_i c
    cases h
    rw [iO hn]
    exact Nb f hT n c.1 c.2.1 c.2.2
   ·cases h
  ·cases h
 ·cases h
theorem LG {f:Nat} {n:Nd} (h1:n.de<f+1) (h2:sf n) (h3:n.kind≥20):ss f [.agg n.enc]=some (.str (aT n)):=by
 simp only [ss,j8]; rw [if_pos ⟨h1,h2,h3⟩]
open Classical in
def sr (f:Nat):List D→Option D
 | [.agg ds]=>match vg ds with
  | some n=>if n.de<f+1∧sf n∧n.kind≤5 then some (.str (aT n)) else none
  | none=>none
 | _=>none
theorem LF (f:Nat) (hT:(xy f).ok Tryz.prog) (args:List D) (d:D) (h:sr f args=some d):aM Tryz.prog 24 args d:=by
 unfold sr at h
 split at h
 ·split at h
  ·rename_i n hn
   split at h
   ·rename_i c
    cases h
    rw [iO hn]
    exact M0 f hT n c.1 c.2.1 c.2.2
   ·cases h
  ·cases h
 ·cases h
theorem LD {f:Nat} {n:Nd} (h1:n.de<f+1) (h2:sf n) (h3:n.kind≤5):sr f [.agg n.enc]=some (.str (aT n)):=by
 simp only [sr,j8]; rw [if_pos ⟨h1,h2,h3⟩]
def trQ (f:Nat):bf:=(((SO f).cX 23 (ss f)).cX 24 (sr f)).Fy 25 (MC f) (KM f)
theorem WX {f:Nat} (hT:(xy f).ok Tryz.prog):(trQ f).ok Tryz.prog:=
 bf.qd (bf.bm (bf.bm (GY hT) fun args d h=>LH f hT args d h) fun args d h=>LF f hT args d h) fun args h K c=>QY f hT args h K c
theorem aat (f:Nat) (g:FuncId) (args:List D):(trQ f).q g args=if g=24 then sr f args else if g=23 then ss f args else (SO f).q g args:=rfl
theorem aar (f:Nat):(trQ f).a=rE.a:=rfl
theorem aas (f:Nat) (g:FuncId) (args:List D) (h:aa) (K E:D→aa→Prop):(trQ f).c g args h K E=if g=25 then MC f args h K else rE.c g args h K E:=rfl
set_option maxHeartbeats 2000000 in
theorem wo (f:Nat) (hT:(xy f).ok Tryz.prog) (n:Nd) (hn:n.de<f+1) (kM:sf n):aM Tryz.prog 8 [.agg n.enc] (.str (aT n)):=by
 refine aM.run (WX hT) WC (by simp) fun E=>?_
 have iZ:=aat f
 have ow:=Qh f
 have jk:=zW f
 have iX:=aar f
 have iY:=aas f
 generalize trQ f=TT at iZ iX iY ⊢
 by_cases k1:n.kind≥20
 ·have hq:=LG hn kM k1
  generalize aT n=p at hq ⊢
  have hn5:=ao n
  have hpn:=aj n
  obtain ⟨k,t,s,m,l⟩:=n
  have g:(k≥20)=True:=eq_true k1
  rw [aR] at*
  simp (maxSteps:=1000000) only [kT,g,hq,iZ,ow,jk,iX,iY,bN,aB,seval]
 by_cases k2:n.kind≤5
 ·have hq:=LD hn kM k2
  generalize aT n=p at hq ⊢
  obtain ⟨k,t,s,m,l⟩:=n
  have g1:(k≥20)=False:=eq_false k1
  have g2:(k≤5)=True:=eq_true k2
  rw [aR] at*
  simp (maxSteps:=1000000) only [kT,g1,g2,hq,iZ,ow,jk,iX,iY,bN,aB,seval]
 obtain ⟨k,t,s,m,l⟩:=n
 have g1:(k≥20)=False:=eq_false k1
 have g2:(k≤5)=False:=eq_false k2
 have hlen:=kM.2.1
 obtain ⟨m0,m1,hs⟩:=uI kM
 have Vf:∀x∈l,x.de<f:=fun x hx=>by have:=ot (k:=k) (t:=t) (s:=s) (n:=m) hx; omega
 have um:∀i:Nat,((aZ l).getD i []).length≤1000000000000→∀x,(Nd.mk k t s m l).fI[i]? =some x→x.de<f∧sf x:=fun i hi x hx=>by
  have Lc:l[i]? =some x:=hx
  refine ⟨Vf x (List.mem_of_getElem? Lc),mf kM (List.mem_of_getElem? Lc) ?_⟩
  rw [List.getD_eq_getElem?_getD,jr Lc] at hi
  exact hi
 have QL:=js l
 rw [bH] at hlen ⊢
 rw [aR]
 unfold jI at hlen ⊢
 have k1':¬k≥20:=k1
 have k2':¬k≤5:=k2
 rw [if_neg k1',if_neg k2'] at hlen ⊢
 unfold OO at hlen ⊢
 cases gO:(k==6)
 case true=>
  simp only [gO,cond_true] at hlen ⊢
  cases l with
  | nil=>
   rw [bQ] at*
   simp (maxSteps:=1000000) only [kT,g1,g2,gO,bt,iZ,ow,jk,iX,iY,bN,aB,seval]
  | cons y r=>
   rw [bd] at*
   rw [if_neg (by simp)] at hlen ⊢
   rw [←bd] at*
   have hj:=Dn (sep:=[32]) kM hn (by simp only [List.length_append] at hlen; omega)
   have g0:(((r.length+1:Nat):Int)==0)=false:=by simp; omega
   simp (maxSteps:=1000000) only [kT,g1,g2,gO,g0,hj,aV,List.length_cons,iZ,ow,jk,iX,iY,bN,aB,seval]
   intros
   simp only [List.length_append,List.length_cons,List.length_nil] at hlen ⊢
   omega
 simp only [gO,cond_false] at hlen ⊢
 cases iD:(k==7)
 case true=>
  simp only [iD,cond_true] at hlen ⊢
  have h0:=um 0 (by simp only [List.length_append] at hlen; omega)
  simp (maxSteps:=1000000) only [kT,g1,g2,gO,iD,aV,iZ,ow,jk,iX,iY,Nd.fI,bN,aB,seval]
  intro i1
  refine ⟨by omega,.mk k t s m l,i1,0,rfl,by simp [aR],h0,kM.1,by simp,?_⟩
  simp (maxSteps:=1000000) only [g1,g2,gO,iD,aV,iZ,ow,jk,iX,iY,Nd.fI,bN,aB,seval]
  simp only [List.length_append,List.length_cons,List.length_nil] at hlen ⊢
  omega
 simp only [iD,cond_false] at hlen ⊢
 cases lq:(k==8)
 case true=>
  simp only [lq,cond_true] at hlen ⊢
  have h0:=um 0 (by simp only [List.length_append] at hlen; omega)
  simp (maxSteps:=1000000) only [kT,g1,g2,gO,iD,lq,aV,iZ,ow,jk,iX,iY,Nd.fI,bN,aB,seval]
  intro i1
  refine ⟨by omega,.mk k t s m l,i1,0,rfl,by simp [aR],h0,kM.1,by simp,?_⟩
  simp (maxSteps:=1000000) only [g1,g2,gO,iD,lq,aV,iZ,ow,jk,iX,iY,Nd.fI,bN,aB,seval]
  simp only [List.length_append,List.length_cons,List.length_nil] at hlen ⊢
  omega
 simp only [lq,cond_false] at hlen ⊢
 cases l5:(k==9)
 case true=>
  simp only [l5,cond_true] at hlen ⊢
  rw [QL] at hlen ⊢
  by_cases c:2<l.length
  ·have gc:((l.length:Int)>2)=True:=eq_true (by omega)
   rw [if_pos c] at hlen ⊢
   have h0:=um 0 (by simp only [List.length_append] at hlen; omega)
   have h1:=um 1 (by simp only [List.length_append] at hlen; omega)
   have h2:=um 2 (by simp only [List.length_append] at hlen; omega)
   simp (maxSteps:=1000000) only [kT,gc,g1,g2,gO,iD,lq,l5,aV,iZ,ow,jk,iX,iY,Nd.fI,bN,aB,seval]
   intro i1
   refine ⟨.mk k t s m l,i1,0,rfl,by simp [aR],h0,kM.1,?_⟩
   simp (maxSteps:=1000000) only [gc,g1,g2,gO,iD,lq,l5,aV,iZ,ow,jk,iX,iY,Nd.fI,bN,aB,seval]
   refine ⟨by simp only [List.length_append] at hlen; omega,by simp only [List.length_append,List.length_cons,List.length_nil] at hlen ⊢; omega,.mk k t s m l,i1,1,rfl,by simp [aR],h1,kM.1,?_⟩
   simp (maxSteps:=1000000) only [gc,g1,g2,gO,iD,lq,l5,aV,iZ,ow,jk,iX,iY,Nd.fI,bN,aB,seval]
   refine ⟨by simp only [List.length_append,List.length_cons,List.length_nil] at hlen ⊢; omega,fun _=>⟨.mk k t s m l,i1,2,rfl,by simp [aR],h2,kM.1,?_⟩⟩
   simp (maxSteps:=1000000) only [gc,g1,g2,gO,iD,lq,l5,aV,iZ,ow,jk,iX,iY,Nd.fI,bN,aB,seval]
   simp only [List.length_append,List.length_cons,List.length_nil] at hlen ⊢
   omega
  ·have gc:((l.length:Int)>2)=False:=eq_false (by omega)
   rw [if_neg c] at hlen ⊢
   have h0:=um 0 (by simp only [List.length_append] at hlen; omega)
   have h1:=um 1 (by simp only [List.length_append] at hlen; omega)
   simp (maxSteps:=1000000) only [kT,gc,g1,g2,gO,iD,lq,l5,aV,iZ,ow,jk,iX,iY,Nd.fI,bN,aB,seval]
   intro i1
   refine ⟨.mk k t s m l,i1,0,rfl,by simp [aR],h0,kM.1,?_⟩
   simp (maxSteps:=1000000) only [gc,g1,g2,gO,iD,lq,l5,aV,iZ,ow,jk,iX,iY,Nd.fI,bN,aB,seval]
   refine ⟨by simp only [List.length_append] at hlen; omega,by simp only [List.length_append,List.length_cons,List.length_nil] at hlen ⊢; omega,.mk k t s m l,i1,1,rfl,by simp [aR],h1,kM.1,?_⟩
   simp (maxSteps:=1000000) only [gc,g1,g2,gO,iD,lq,l5,aV,iZ,ow,jk,iX,iY,Nd.fI,bN,aB,seval]
   simp only [List.length_append,List.length_cons,List.length_nil] at hlen ⊢
   omega
 simp only [l5,cond_false] at hlen ⊢
 cases mH:(k==10)
 case true=>
  simp only [mH,cond_true] at hlen ⊢
  have h0:=um 0 (by simp only [List.length_append] at hlen; omega)
  have h1:=um 1 (by simp only [List.length_append] at hlen; omega)
  simp (maxSteps:=1000000) only [kT,g1,g2,gO,iD,lq,l5,mH,aV,iZ,ow,jk,iX,iY,Nd.fI,bN,aB,seval]
  intro i1
  refine ⟨.mk k t s m l,i1,0,rfl,by simp [aR],h0,kM.1,?_⟩
  simp (maxSteps:=1000000) only [g1,g2,gO,iD,lq,l5,mH,aV,iZ,ow,jk,iX,iY,Nd.fI,bN,aB,seval]
  refine ⟨by simp only [List.length_append] at hlen; omega,by simp only [List.length_append,List.length_cons,List.length_nil] at hlen ⊢; omega,.mk k t s m l,i1,1,rfl,by simp [aR],h1,kM.1,?_⟩
  simp (maxSteps:=1000000) only [g1,g2,gO,iD,lq,l5,mH,aV,iZ,ow,jk,iX,iY,Nd.fI,bN,aB,seval]
  simp only [List.length_append,List.length_cons,List.length_nil] at hlen ⊢
  omega
 simp only [mH,cond_false] at hlen ⊢
 cases qn:(k==11)
 case true=>
  simp only [qn,cond_true] at hlen ⊢
  have h0:=um 0 (by simp only [List.length_append] at hlen; omega)
  simp (maxSteps:=1000000) only [kT,g1,g2,gO,iD,lq,l5,mH,qn,aV,iZ,ow,jk,iX,iY,Nd.fI,bN,aB,seval]
  intro i1
  refine ⟨.mk k t s m l,i1,0,rfl,by simp [aR],h0,kM.1,?_⟩
  simp (maxSteps:=1000000) only [g1,g2,gO,iD,lq,l5,mH,qn,aV,iZ,ow,jk,iX,iY,Nd.fI,bN,aB,seval]
  simp only [List.length_append,List.length_cons,List.length_nil] at hlen ⊢
  omega
 simp only [qn,cond_false] at hlen ⊢
 cases uZ:(k==12)
 case true=>
  simp only [uZ,cond_true] at hlen ⊢
  have h0:=um 0 (by simp only [List.length_append] at hlen; omega)
  simp (maxSteps:=1000000) only [kT,g1,g2,gO,iD,lq,l5,mH,qn,uZ,aV,iZ,ow,jk,iX,iY,Nd.fI,bN,aB,seval]
  intro i1
  refine ⟨.mk k t s m l,i1,0,rfl,by simp [aR],h0,kM.1,?_⟩
  simp (maxSteps:=1000000) only [g1,g2,gO,iD,lq,l5,mH,qn,uZ,aV,iZ,ow,jk,iX,iY,Nd.fI,bN,aB,seval]
  simp only [List.length_append,List.length_cons,List.length_nil] at hlen ⊢
  omega
 simp only [uZ,cond_false] at hlen ⊢
 cases B1:(k==13)
 case true=>
  simp only [B1,cond_true] at hlen ⊢
  have h0:=um 0 (by simp only [List.length_append] at hlen; omega)
  simp (maxSteps:=1000000) only [kT,g1,g2,gO,iD,lq,l5,mH,qn,uZ,B1,aV,iZ,ow,jk,iX,iY,Nd.fI,bN,aB,seval]
  intro i1
  refine ⟨.mk k t s m l,i1,0,rfl,by simp [aR],h0,kM.1,?_⟩
  simp (maxSteps:=1000000) only [g1,g2,gO,iD,lq,l5,mH,qn,uZ,B1,aV,iZ,ow,jk,iX,iY,Nd.fI,bN,aB,seval]
  simp only [List.length_append,List.length_cons,List.length_nil] at hlen ⊢
  omega
 simp only [B1,cond_false] at hlen ⊢
 simp (maxSteps:=1000000) only [kT,g1,g2,gO,iD,lq,l5,mH,qn,uZ,B1,aV,iZ,ow,jk,iX,iY,Nd.fI,bN,aB,seval]
theorem Qk:∀f,(xy f).ok Tryz.prog
 | 0=>bf.bm Ki fun args d h=>by
  unfold Ly at h
  split at h
  ·split at h
   ·split at h
    ·rename_i c; exact absurd c.1 (Nat.not_lt_zero _)
    ·cases h
   ·cases h
  ·cases h
 | f+1=>bf.bm Ki fun args d h=>by
  unfold Ly at h
  split at h
  ·split at h
   ·rename_i n hn
    split at h
    ·rename_i c
     cases h
     rw [iO hn]
     exact wo f (Qk f) n c.1 c.2
    ·cases h
   ·cases h
  ·cases h
theorem RU (n:Nd) (kM:sf n):aM Tryz.prog 8 [.agg n.enc] (.str (aT n)):=wo n.de (Qk n.de) n (Nat.lt_succ_self _) kM
open Classical in
def zF:List D→Option D
 | [.agg ds]=>match vg ds with
  | some n=>if sf n then some (.str (aT n)) else none
  | none=>none
 | _=>none
theorem Og (args:List D) (d:D) (h:zF args=some d):aM Tryz.prog 8 args d:=by
 unfold zF at h
 split at h
 ·split at h
  ·rename_i n hn
   split at h
   ·rename_i c
    cases h
    rw [iO hn]
    exact RU n c
   ·cases h
  ·cases h
 ·cases h
theorem DL {n:Nd} (h:sf n):zF [.agg n.enc]=some (.str (aT n)):=by
 simp only [zF,j8]; rw [if_pos h]
end
end Go.Proofs.YtpklkpkfgmoghaaGreatDoor.Zz
namespace Go.Proofs.YtpklkpkfgmoghaaGreatDoor.Zz
noncomputable section
def p3h:b7:=⟨⟨[],[],[],[],[],[]⟩,[],[],false⟩
def s3h:dA:=
 sO [oP (.cg (kB false)) 2]
 (sO [oM 0 11,
 oD 5 [.t 11] 12,
 oM 12 3]
 (.seq (sO [oM 3 13,
 oW 13 14,
 oH .gtr 14 4096 15]
 (.cond (.t 15)
 (sO [oD 6 [] 16,
 oM 16 2]
 (.ret))
 (.skip)))
 (sO [oM 3 18,
 oD 7 [.t 18] 19,
 oM 19 17,
 oX 17 0 20,
 oX 17 1 21,
 oX 17 2 22,
 oA 4,
 oS 5 4 20,
 oM 21 5,
 oM 22 6]
 (sO [oJ 5 4 23,
 oD 8 [.t 23] 24,
 oM 24 7]
 (.seq (sO [oD 6 [] 25,
 oP (.un .not (.t 25)) 26,
 oM 26 27,
 oG (.cg (.t 6)) 28 27 false true,
 oG (.bin .neq (.t 28) (kI 0)) 29 27 false true,
 oP (.pick (.t 27) (kB true) (.t 29)) 30,
 oM 30 31,
 oG (.cg (.t 5)) 32 31 false true,
 oG (.bin .neq (.t 32) (kI 0)) 33 31 false true,
 oP (.pick (.t 31) (kB true) (.t 33)) 34]
 (.cond (.t 34)
 (sO [oP (.cg (kB false)) 2]
 (.ret))
 (.skip)))
 (.seq (sO [oM 7 35,
 oW 35 36,
 oH .gtr 36 4096 37]
 (.cond (.t 37)
 (sO [oP (.cg (kB true)) 2]
 (.ret))
 (.skip)))
 (sO [oM 7 39,
 oD 7 [.t 39] 40,
 oM 40 38,
 oX 38 0 41,
 oX 38 1 42,
 oX 38 2 43,
 oA 8,
 oS 5 8 41,
 oM 42 9,
 oM 43 10]
 (sO [oM 10 44,
 oH .eql 44 0 45,
 oM 45 46,
 oG (.load (some 5) (.t 4)) 47 46 true false,
 oG (.load (some 5) (.t 8)) 48 46 true false,
 oG (.qcall (.f 9) [(.t 47),(.t 48)]) 49 46 true false,
 oP (.pick (.t 46) (.t 49) (kB false)) 50,
 oM 50 51,
 oG (.load (some 5) (.t 8)) 52 51 true false,
 oG (.qcall (.f 8) [(.t 52)]) 53 51 true false,
 oG (.cg (.t 7)) 54 51 true true,
 oG (.bin .eql (.t 53) (.t 54)) 55 51 true true,
 oP (.pick (.t 51) (.t 55) (kB false)) 56,
 oM 56 2]
 (.ret)))))))))
theorem ac5:bE Tryz.prog 3 p3h=some (s3h,[.tmp 2],57):=by kernel_rfl
def p6h:b7:=⟨⟨[],[],[],[],[],[]⟩,[],[],false⟩
def s6h:dA:=
 sO [oP (.cg (kB false)) 0]
 (sO [oD 7 [(kS [102,117,110,99,32,102,40,97,32,105,110,116,41,32,105,110,116,32,123,32,114,101,116,117,114,110,32,97,32,45,32,49,32,45,32,50,32,42,32,51,59,32,125])] 5,
 oM 5 4,
 oX 4 0 6,
 oX 4 1 7,
 oX 4 2 8,
 oA 1,
 oS 5 1 6,
 oM 7 2,
 oM 8 3]
 (sO [oM 3 9,
 oH .eql 9 0 10,
 oM 10 11,
 oG (.load (some 5) (.t 1)) 12 11 true false,
 oG (.qcall (.f 8) [(.t 12)]) 13 11 true false,
 oG (.bin .eql (.t 13) (kS [102,117,110,99,32,102,40,97,32,105,110,116,41,32,105,110,116,32,123,32,114,101,116,117,114,110,32,40,40,97,32,45,32,49,41,32,45,32,40,50,32,42,32,51,41,41,59,32,125,10])) 14 11 true true,
 oP (.pick (.t 11) (.t 14) (kB false)) 15,
 oM 15 0]
 (.ret)))
theorem adf:bE Tryz.prog 6 p6h=some (s6h,[.tmp 0],16):=by kernel_rfl
def VS:Nd→Bool
 | .mk _ _ s m _=>decide (-9223372036854775808≤m) && decide (m≤9223372036854775807) && decide (s.length≤1000000000000)
theorem VR:∀n:Nd,VS n=true→okX n
 | .mk k t s m l,h=>by
  simp only [VS,Bool.and_eq_true,decide_eq_true_eq] at h
  exact ⟨h.1.1,h.1.2,h.2⟩
def okB (n:Nd):Bool:=decide (n.de≤1000000000) && decide ((aT n).length≤1000000000000) && (s8 n).all VS
theorem VQ {n:Nd} (h:okB n=true):sf n:=by
 simp only [okB,Bool.and_eq_true,decide_eq_true_eq,List.all_eq_true] at h
 exact ⟨h.1.1,h.1.2,fun x hx=>VR x (h.2 x hx)⟩
def Bl:List D→Option D:=su 81
theorem Sk (args:List D) (d:D) (h:Bl args=some d):aM Tryz.prog 7 args d:=LJ 81 args d h
def UH:List UInt8:=[102,117,110,99,32,102,40,97,32,105,110,116,41,32,105,110,116,32,123,32,114,101,116,117,114,110,32,97,32,45,32,49,32,45,32,50,32,42,32,51,59,32,125]
def KG:Nd:=.mk 1 0 [] 0 [.mk 3 1 [102] 0 [.mk 5 1 [97] 0 [],.mk 6 0 [] 0 [.mk 11 0 [] 0 [.mk 26 0 [45] 0 [.mk 26 0 [45] 0 [.mk 23 0 [97] 0 [],.mk 20 0 [] 1 []],.mk 26 0 [42] 0 [.mk 20 0 [] 2 [],.mk 20 0 [] 3 []]]]]]]
theorem KH:lx 81 UH=some (KG,0,0):=Dx (ws:=[(0,[])]) (m:=12) (by kernel_rfl) (by kernel_rfl)
theorem UI:sf KG:=VQ (by kernel_rfl)
def Xx:List UInt8:=[102,117,110,99,32,102,40,97,32,105,110,116,41,32,105,110,116,32,123,32,114,101,116,117,114,110,32,40,40,97,32,45,32,49,41,32,45,32,40,50,32,42,32,51,41,41,59,32,125,10]
theorem KI:aT KG=Xx:=by kernel_rfl
def Ub:bf:=bf.zero.cX 7 Bl
theorem Uf (g:FuncId) (args:List D):Ub.q g args=if g=7 then Bl args else bf.zero.q g args:=rfl
theorem Uc:Ub.a=bf.zero.a:=rfl
theorem Ud:Ub.c=bf.zero.c:=rfl
theorem WS:Ub.ok Tryz.prog:=bf.bm (bf.ew _) Sk
theorem Ue:type_of% (And.intro @Uf (And.intro @Uc @Ud)):=(And.intro @Uf (And.intro @Uc @Ud))
def Ug:bf:=Ub.cX 8 zF
theorem Uj (g:FuncId) (args:List D):Ug.q g args=if g=8 then zF args else Ub.q g args:=rfl
theorem Uh:Ug.a=Ub.a:=rfl
theorem Ui:Ug.c=Ub.c:=rfl
theorem P5:Ug.ok Tryz.prog:=bf.bm WS Og
theorem P4:type_of% (And.intro (And.intro @Uj (And.intro @Uh @Ui)) @Ue):=(And.intro (And.intro @Uj (And.intro @Uh @Ui)) @Ue)
theorem KF:aM Tryz.prog 6 [] (.bool true):=by
 refine aM.run P5 adf (by simp) fun E=>?_
 have h1:Bl [.str UH]=some (.tuple [.agg KG.enc,.int .i64 0,.int .i64 0]):=by
  simp only [Bl,su,KH,Option.map_some]
 have h2:=DL UI
 rw [KI] at h2
 have hn5:=ao KG
 generalize KG=n at h1 h2 hn5
 obtain ⟨k,t,s,m,l⟩:=n
 rw [aR] at*
 unfold UH at h1
 unfold Xx at h2
 simp (maxSteps:=1000000) only [s6h,h1,h2,P4,aB,seval]
def V8:List D→Option D
 | []=>some (.bool true)
 | _=>none
theorem V9 (args:List D) (d:D) (h:V8 args=some d):aM Tryz.prog 6 args d:=by
 unfold V8 at h
 split at h
 ·cases h; exact KF
 ·cases h
def Uk:bf:=Ug.cX 6 V8
theorem Uo (g:FuncId) (args:List D):Uk.q g args=if g=6 then V8 args else Ug.q g args:=rfl
theorem Ul:Uk.a=Ug.a:=rfl
theorem Um:Uk.c=Ug.c:=rfl
theorem WT:Uk.ok Tryz.prog:=bf.bm P5 V9
theorem Un:type_of% (And.intro (And.intro @Uo (And.intro @Ul @Um)) @P4):=(And.intro (And.intro @Uo (And.intro @Ul @Um)) @P4)
def Up:bf:=Uk.cX 5 Gs
theorem Ut (g:FuncId) (args:List D):Up.q g args=if g=5 then Gs args else Uk.q g args:=rfl
theorem Uq:Up.a=Uk.a:=rfl
theorem Ur:Up.c=Uk.c:=rfl
theorem WU:Up.ok Tryz.prog:=bf.bm WT V1
theorem Us:type_of% (And.intro (And.intro @Ut (And.intro @Uq @Ur)) @Un):=(And.intro (And.intro @Ut (And.intro @Uq @Ur)) @Un)
def tqe:bf:=Up.cX 9 Oj
theorem Uw (g:FuncId) (args:List D):tqe.q g args=if g=9 then Oj args else Up.q g args:=rfl
theorem Uu:tqe.a=Up.a:=rfl
theorem Uv:tqe.c=Up.c:=rfl
theorem WV:tqe.ok Tryz.prog:=bf.bm WU R3
theorem Kh:type_of% (And.intro (And.intro @Uw (And.intro @Uu @Uv)) @Us):=(And.intro (And.intro @Uw (And.intro @Uu @Uv)) @Us)
theorem xM (L:List Int):aM Tryz.prog 3 [.sl (fl L)] (.bool true):=by
 refine aM.run WV ac5 (by simp) fun E=>?_
 have h5:=V0 L
 have Yl:=Bq L
 have kM:=GG L
 have F1:=DF L
 have FY:=mw L
 generalize gL L=x at h5 Yl kM F1 FY
 generalize eS (jt L)=N at Yl kM F1 FY
 by_cases hx:x.length≤4096
 ·have g1:((x.length:Int)>4096)=False:=eq_false (by omega)
  have h1:Bl [.str x]=some (.tuple [.agg N.enc,.int .i64 0,.int .i64 0]):=by
   simp only [Bl,su,Yl hx,Option.map_some]
  have h2:=DL (kM hx)
  have h4:=R2 (x:=N) (y:=N) (by have:=FY hx; omega)
  rw [show kW N N=true from oT.2 rfl] at h4
  have F1:=F1 hx
  generalize aT N=t at h2 F1
  by_cases ht:t.length≤4096
  ·have g2:((t.length:Int)>4096)=False:=eq_false (by omega)
   have h3:Bl [.str t]=some (.tuple [.agg N.enc,.int .i64 0,.int .i64 0]):=by
    simp only [Bl,su,F1 ht,Option.map_some]
   clear Yl kM FY F1
   obtain ⟨k,u,s,m,l⟩:=N
   rw [aR] at*
   simp (maxSteps:=1000000) only [s3h,h5,h1,h2,h3,h4,g1,g2,V8,Kh,aB,seval]
   intro _ i1 _ i2 n1 n2
   have hb:(t==t)=true:=by simp
   simp (maxSteps:=1000000) only [n1,n2,h2,h4,hb,Kh,aB,seval]
  ·have g2:((t.length:Int)>4096)=True:=eq_true (by omega)
   clear Yl kM FY F1
   obtain ⟨k,u,s,m,l⟩:=N
   rw [aR] at*
   simp (maxSteps:=1000000) only [s3h,h5,h1,h2,g1,g2,V8,Kh,aB,seval]
 ·have g1:((x.length:Int)>4096)=True:=eq_true (by omega)
  simp (maxSteps:=1000000) only [s3h,h5,g1,V8,Kh,aB,seval]
end
end Go.Proofs.YtpklkpkfgmoghaaGreatDoor.Zz
