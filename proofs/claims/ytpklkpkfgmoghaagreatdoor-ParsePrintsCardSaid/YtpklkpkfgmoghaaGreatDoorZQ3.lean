/- Contracts: how an expression, a literal, a declaration is printed. -/
import Derived.Test.YtpklkpkfgmoghaaGreatDoorZP29
import Derived.Test.YtpklkpkfgmoghaaGreatDoorZP34
import Derived.Test.YtpklkpkfgmoghaaGreatDoorZA24
set_option linter.unnecessarySimpa false
set_option linter.unusedVariables false
set_option linter.unusedSimpArgs false
set_option maxRecDepth 20000
namespace Go.Proofs.YtpklkpkfgmoghaaGreatDoor.Zz
noncomputable section
def aat:cj:=⟨⟨[],[],[],[],[],[]⟩,[(12,[0,1,2,3,4,5,6,7,8]),(14,[0,1,4,5,2,3,6,7,8,9]),(16,[0,1,2,3,4,5,6])],[],false⟩
def rA:dL:=
 sO [oQ (.box (.t 0)) 1,
 oP (.cy (kS [])) 2]
 (.seq (sO [oF 0 1 3,
 oL 3 4]
 (.block 0 (sO [oH .eql 4 20 6,
 oM 6 5]
 (.cond (.t 5)
 (sO [oF 3 1 7,
 oL 7 8,
 oD 40 [.t 8,kI 10] 9,
 oM 9 2]
 (.ret))
 (.seq (sO [oH .eql 4 21 11,
 oM 11 10]
 (.cond (.t 10)
 (.skip)
 (.ops [oH .eql 4 23 12,
 oM 12 10])))
 (.cond (.t 10)
 (sO [oF 2 1 13,
 oL 13 14,
 oM 14 2]
 (.ret))
 (sO [oH .eql 4 22 16,
 oM 16 15]
 (.cond (.t 15)
 (.seq (sO [oF 3 1 17,
 oL 17 18,
 oH .eql 18 0 19]
 (.cond (.t 19)
 (sO [oP (.cy (kS [102,97,108,115,101])) 2]
 (.ret))
 (.skip)))
 (sO [oP (.cy (kS [116,114,117,101])) 2]
 (.ret)))
 (sO [oH .eql 4 24 21,
 oM 21 20]
 (.cond (.t 20)
 (.seq (.fD 2 [oF 2 1 22,
 oL 22 23,
 oP (.bin .add (.t 23) (kS [40])) 24,
 oF 4 1 25,
 oL 25 26,
 oD 26 [.t 26,(kS [44,32])] 27,
 oE .add 24 27 28,
 oP (.bin .add (.t 28) (kS [41])) 29,
 oM 29 2])
 (.ret))
 (sO [oH .eql 4 27 31,
 oM 31 30]
 (.cond (.t 30)
 (.seq (.fD 2 [oF 1 1 32,
 oL 32 33,
 oF 4 1 36,
 oL 36 37,
 oD 41 [.t 33] 34,
 oP (.bin .add (.t 34) (kS [40])) 35,
 oD 26 [.t 37,(kS [44,32])] 38,
 oE .add 35 38 39,
 oP (.bin .add (.t 39) (kS [41])) 40,
 oM 40 2])
 (.ret))
 (sO [oH .eql 4 25 42,
 oM 42 41]
 (.cond (.t 41)
 (.seq (.fD 2 [oF 2 1 43,
 oL 43 44,
 oF 4 1 45,
 oL 45 46,
 oD 26 [.t 46,kS []] 47,
 oE .add 44 47 48,
 oM 48 2])
 (.ret))
 (.skip)))))))))))))))
 (sO [oF 4 1 49,
 oL 49 50,
 oF 2 1 51,
 oL 51 52,
 oP (.bin .add (kS [32]) (.t 52)) 53,
 oP (.bin .add (.t 53) (kS [32])) 54,
 oD 26 [.t 50,.t 54] 55,
 oP (.bin .add (kS [40]) (.t 55)) 56,
 oP (.bin .add (.t 56) (kS [41])) 57,
 oM 57 2]
 (.ret)))
theorem XI:bJ Tryz.prog 23 aat=some (rA,[.tmp 2],58):=by kernel_rfl
def aax:cj:=⟨⟨[],[],[],[],[],[]⟩,[],[],false⟩
def Em:dL:=
 sO [oQ (.box (.t 0)) 1,
 oP (.cy (kS [])) 2]
 (.seq (sO [oF 0 1 3,
 oL 3 4,
 oH .eql 4 21 5,
 oM 5 6,
 oG (.fieldAddr 3 (.t 1)) 7 6 true true,
 oG (.load none (.t 7)) 8 6 true false,
 oG (.bin .lss (.t 8) (kI 0)) 9 6 true true,
 oP (.pick (.t 6) (.t 9) (kB false)) 10]
 (.cond (.t 10)
 (sO [oF 2 1 11,
 oL 11 12,
 oP (.bin .add (kS [45]) (.t 12)) 13,
 oM 13 2]
 (.ret))
 (.skip)))
 (.seq (sO [oF 0 1 14,
 oL 14 15,
 oH .eql 15 20 16]
 (.cond (.t 16)
 (sO [oF 3 1 17,
 oL 17 18,
 oD 40 [.t 18,kI 10] 19,
 oM 19 2]
 (.ret))
 (.skip)))
 (sO [oJ 5 1 20,
 oD 8 [.t 20] 21,
 oM 21 2]
 (.ret))))
theorem XM:bJ Tryz.prog 42 aax=some (Em,[.tmp 2],22):=by kernel_rfl
def aau:cj:=⟨⟨[],[],[(15,11),(17,6),(18,7),(18,19)],[],[],[]⟩,[(11,[0,1,2,3,4,5,6,7]),(15,[0,1,2,3,4,5,9,10,11,12,6,7,8,13,14,15,16]),(17,[0,1,2,3,4,5,6,7,8,9,10]),(18,[0,1,2,3,4,5,6,7,11,12,16,17,18,19,20,8,9,10,13,14,15,21,22,23])],[],false⟩
def wT:dL:=
 sO [oQ (.box (.t 0)) 1,
 oP (.cy (kS [])) 2]
 (sO [oF 4 1 7,
 oL 7 8,
 oZ 8 9,
 oH .sub 9 1 10,
 oM 10 3]
 (.seq (.block 0 (sO [oF 0 1 12,
 oL 12 13,
 oH .eql 13 1 14,
 oM 14 11]
 (.cond (.t 11)
 (sO [oP (.cy (kS [])) 4]
 (.seq (sO [oF 4 1 15,
 oL 15 16,
 oZ 16 17,
 oP (.cy (kI 0)) 18]
 (.block 1 (.loop (sO [oE .lss 18 17 19]
 (.seq (.cond (.t 19)
 (.skip)
 (.exit 1))
 (.seq (.block 2 (sO [oI 5 16 18 20,
 oJ 5 20 21,
 oA 6,
 oS 5 6 21]
 (.ops [oM 4 22,
 oJ 5 6 23,
 oD 8 [.t 23] 24,
 oP (.bin .add (.t 24) (kS [10])) 25,
 oE .add 22 25 26,
 oM 26 4])))
 (.ops [oH .add 18 1 27,
 oM 27 18])))))))
 (sO [oM 4 28,
 oM 28 2]
 (.ret))))
 (sO [oF 0 1 30,
 oL 30 31,
 oH .eql 31 5 32,
 oM 32 29]
 (.cond (.t 29)
 (.seq (.fD 2 [oF 2 1 33,
 oL 33 34,
 oP (.bin .add (.t 34) (kS [32])) 35,
 oF 1 1 36,
 oL 36 37,
 oD 41 [.t 37] 38,
 oE .add 35 38 39,
 oM 39 2])
 (.ret))
 (sO [oM 3 41,
 oH .lss 41 0 42,
 oM 42 40]
 (.cond (.t 40)
 (sO [oP (.cy (kS [])) 2]
 (.ret))
 (sO [oF 0 1 44,
 oL 44 45,
 oH .eql 45 2 46,
 oM 46 43]
 (.cond (.t 43)
 (.seq (.fD 2 [oF 2 1 47,
 oL 47 48,
 oP (.bin .add (kS [118,97,114,32]) (.t 48)) 49,
 oP (.bin .add (.t 49) (kS [32])) 50,
 oF 1 1 51,
 oL 51 52,
 oF 4 1 56,
 oL 56 57,
 oQ (.a8 5 (.t 57) (kI 0)) 58,
 oJ 5 58 59,
 oD 41 [.t 52] 53,
 oE .add 50 53 54,
 oP (.bin .add (.t 54) (kS [32,61,32])) 55,
 oD 42 [.t 59] 60,
 oE .add 55 60 61,
 oP (.bin .add (.t 61) (kS [59])) 62,
 oM 62 2])
 (.ret))
 (sO [oF 0 1 64,
 oL 64 65,
 oH .eql 65 4 66,
 oM 66 63]
 (.cond (.t 63)
 (.seq (.fD 2 [oF 2 1 67,
 oL 67 68,
 oP (.bin .add (kS [116,101,115,116,32]) (.t 68)) 69,
 oP (.bin .add (.t 69) (kS [32])) 70,
 oF 4 1 71,
 oL 71 72,
 oQ (.a8 5 (.t 72) (kI 0)) 73,
 oJ 5 73 74,
 oD 8 [.t 74] 75,
 oE .add 70 75 76,
 oM 76 2])
 (.ret))
 (.skip))))))))))))
 (.seq (.fD 2 [oF 2 1 77,
 oL 77 78,
 oP (.bin .add (kS [102,117,110,99,32]) (.t 78)) 79,
 oP (.bin .add (.t 79) (kS [40])) 80,
 oF 4 1 81,
 oL 81 82,
 oM 3 83,
 oQ (.slice (.sl 5) (.t 82) none (some (.t 83)) none) 84,
 oF 1 1 88,
 oL 88 89,
 oF 4 1 93,
 oL 93 94,
 oM 3 95,
 oI 5 94 95 96,
 oJ 5 96 97,
 oD 26 [.t 84,(kS [44,32])] 85,
 oE .add 80 85 86,
 oP (.bin .add (.t 86) (kS [41,32])) 87,
 oD 41 [.t 89] 90,
 oE .add 87 90 91,
 oP (.bin .add (.t 91) (kS [32])) 92,
 oD 8 [.t 97] 98,
 oE .add 92 98 99,
 oM 99 2])
 (.ret))))
theorem XJ:bJ Tryz.prog 24 aau=some (wT,[.tmp 2],100):=by kernel_rfl
open Classical in
def rn (f:Nat):List D→Option D
 | [.sl ds,.str sep]=>match vB ds with
  | some l=>if (∀x∈l,x.dz<f∧sE x)∧l.length≤1000000000∧(b8.join (a_ l) sep).length≤1000000000000 then some (.str (b8.join (a_ l) sep)) else none
  | none=>none
 | _=>none
theorem Pb (f:Nat) (hT:(xN f).ok Tryz.prog) (args:List D) (d:D) (h:rn f args=some d):aO Tryz.prog 26 args d:=by
 unfold rn at h
 split at h
 ·split at h
  ·ab l hl
   split at h
   ·ab c
    cases h
    rw [pU hl]
    exact Sn f hT l _ c.1 c.2.1 c.2.2
   ·cases h
  ·cases h
 ·cases h
theorem Eb {f:Nat} {l:List Nd} {sep:List UInt8} (h1:∀x∈l,x.dz<f∧sE x) (h2:l.length≤1000000000) (h3:(b8.join (a_ l) sep).length≤1000000000000):rn f [.sl (Nd.cW l),.str sep]=some (.str (b8.join (a_ l) sep)):=by
 simp only [rn,yE]; rw [if_pos ⟨h1,h2,h3⟩]
def TK (f:Nat):bm:=(xN f).dh 26 (rn f)
theorem Ho {f:Nat} (hT:(xN f).ok Tryz.prog):(TK f).ok Tryz.prog:=bm.bq hT fun args d h=>Pb f hT args d h
theorem Q0 (f:Nat) (g:FuncId) (args:List D):(TK f).q g args=if g=26 then rn f args else (xN f).q g args:=rfl
theorem abT (f:Nat):(TK f).a=rR.a:=rfl
theorem abU (f:Nat):(TK f).c=rR.c:=rfl
theorem DL {k t:Int} {s:List UInt8} {m:Int} {l:List Nd} {f:Nat} (h:sE (.mk k t s m l)) (hn:(Nd.mk k t s m l).dz<f+1) {sep:List UInt8} (hJ:(b8.join (a_ l) sep).length≤1000000000000):rn f [.sl (Nd.cW l),.str sep]=some (.str (b8.join (a_ l) sep)):=by
 refine Eb (fun x hx=>⟨by have:=oT (k:=k) (t:=t) (s:=s) (n:=m) hx; omega,mz h hx ?_⟩) ?_ hJ
 ·have:=Ds (sep:=sep) (show aV x∈a_ l by rw [eW]; exact List.mem_map.2 ⟨x,hx,rfl⟩)
  omega
 ·have:=h.1
  rw [bn] at this
  have:=qH l
  omega
theorem uX {k t:Int} {s:List UInt8} {m:Int} {l:List Nd} (h:sE (.mk k t s m l)): -9223372036854775808≤m∧m≤9223372036854775807∧s.length≤1000000000000:=by
 have:=h.2.2 (.mk k t s m l) (by rw [we]; exact List.mem_cons_self)
 exact this
set_option maxHeartbeats 1000000 in
theorem NX (f:Nat) (hT:(xN f).ok Tryz.prog) (n:Nd) (hn:n.dz<f+1) (kT:sE n) (hk:n.kind≥20):aO Tryz.prog 23 [.agg n.enc] (.str (aV n)):=by
 refine aO.run (Ho hT) XI (by simp) fun E=>?_
 have je:=Q0 f
 have js:=Am f
 have jc:=abT f
 have jd:=abU f
 generalize TK f=TT at je jc jd ⊢
 obtain ⟨k,t,s,m,l⟩:=n
 have hk:k≥20:=hk
 have hlen:=kT.2.1
 have ZI:∀sep,(b8.join (a_ l) sep).length≤1000000000000→rn f [.sl (Nd.cW l),.str sep]=some (.str (b8.join (a_ l) sep)):=fun sep hJ=>DL kT hn hJ
 obtain ⟨m0,m1,hs⟩:=uX kT
 have Wl:=Iz m0 m1
 have Yf:yd [.int .i64 t]=some (.str (fI t)):=rfl
 have htn:(fI t).length≤5:=by unfold fI; cases (t==1)<;>cases (t==2)<;>cases (t==3)<;>decide
 rw [bN] at hlen ⊢
 rw [aT]
 unfold jO at hlen ⊢
 rw [if_pos hk] at hlen ⊢
 unfold yJ at hlen ⊢
 generalize a_ l=ps at hlen ZI ⊢
 cases jV:(k==20)
 case true=>simp (maxSteps:=1000000) only [rA,jV,Wl,je,js,jc,jd,bS,aD,seval]
 cases jL:(k==21)
 case true=>simp (maxSteps:=1000000) only [rA,jV,jL,Bool.true_or,je,js,jc,jd,bS,aD,seval]
 cases sk:(k==23)
 case true=>simp (maxSteps:=1000000) only [rA,jV,jL,sk,Bool.false_or,je,js,jc,jd,bS,aD,seval]
 cases vm:(k==22)
 case true=>
  cases cm:(m==0)
  bf simp (maxSteps:=1000000) only [rA,jV,jL,sk,vm,cm,i_,mf,Bool.false_or,je,js,jc,jd,bS,aD,seval]
 simp only [jV,jL,sk,vm,Bool.false_or,cond_false] at hlen
 cases Lm:(k==24)
 case true=>
  simp only [Lm,cond_true,List.length_append,List.length_cons,List.length_nil] at hlen
  have hj:=ZI [44,32] (by omega)
  simp (maxSteps:=1000000) only [rA,jV,jL,sk,vm,Lm,hj,Bool.false_or,je,js,jc,jd,bS,aD,seval]
  intros
  (try simp only [List.length_append,List.length_cons,List.length_nil])
  omega
 simp only [Lm,cond_false] at hlen
 cases gU:(k==27)
 case true=>
  simp only [gU,cond_true,List.length_append,List.length_cons,List.length_nil] at hlen
  have hj:=ZI [44,32] (by omega)
  simp (maxSteps:=1000000) only [rA,jV,jL,sk,vm,Lm,gU,hj,Yf,Bool.false_or,je,js,jc,jd,bS,aD,seval]
  intros
  (try simp only [List.length_append,List.length_cons,List.length_nil])
  omega
 simp only [gU,cond_false] at hlen
 cases iJ:(k==25)
 case true=>
  simp only [iJ,cond_true,List.length_append,List.length_cons,List.length_nil] at hlen
  have hj:=ZI [] (by omega)
  simp (maxSteps:=1000000) only [rA,jV,jL,sk,vm,Lm,gU,iJ,hj,Bool.false_or,je,js,jc,jd,bS,aD,seval]
  intros
  (try simp only [List.length_append,List.length_cons,List.length_nil])
  omega
 simp only [iJ,cond_false,List.length_append,List.length_cons,List.length_nil] at hlen
 have hj:=ZI (32::(s++[32])) (by omega)
 simp (maxSteps:=1000000) only [rA,jV,jL,sk,vm,Lm,gU,iJ,hj,Bool.false_or,je,js,jc,jd,bS,aD,seval]
 intros
 (try simp only [List.length_append,List.length_cons,List.length_nil])
 omega
open Classical in
def Mk (f:Nat):List D→Option D
 | [.agg ds]=>match vA ds with
  | some n=>if n.dz<f∧sE n then some (.str (x7 n (aV n))) else none
  | none=>none
 | _=>none
theorem Tf {f:Nat} {n:Nd} (h:n.dz<f) (h2:sE n):Mk f [.agg n.enc]=some (.str (x7 n (aV n))):=by
 simp only [Mk,kg]; rw [if_pos ⟨h,h2⟩]
theorem Sp (f:Nat) (hT:(xN f).ok Tryz.prog) (n:Nd) (hn:n.dz<f) (kT:sE n):aO Tryz.prog 42 [.agg n.enc] (.str (x7 n (aV n))):=by
 refine aO.run hT XM (by simp) fun E=>?_
 have js:=Am f
 have R6:=Q1 f
 have R7:=Q4 f
 have Rt:=o9 hn kT
 generalize xN f=TT at js R6 R7 ⊢
 generalize aV n=p at Rt ⊢
 have hn5:=aq n
 have hpn:=ak n
 obtain ⟨k,t,s,m,l⟩:=n
 obtain ⟨m0,m1,hs⟩:=uX kT
 have Wl:=Iz m0 m1
 rw [aT] at*
 unfold x7
 cases jV:(k==21)
 case true=>
  have jL:(k==20)=false:=by
   have:k=21:=by simpa using jV
   subst this; rfl
  by_cases cm:m<0
  ·have g:(m<0)=True:=eq_true cm
   simp (maxSteps:=1000000) only [Em,jV,jL,g,js,R6,R7,bS,aD,seval]
   intros
   (try simp only [List.length_append,List.length_cons,List.length_nil])
   omega
  ·have g:(m<0)=False:=eq_false cm
   simp (maxSteps:=1000000) only [Em,jV,jL,g,Rt,js,R6,R7,bS,aD,seval]
 cases jL:(k==20)
 case true=>simp (maxSteps:=1000000) only [Em,jV,jL,Wl,js,R6,R7,bS,aD,seval]
 simp (maxSteps:=1000000) only [Em,jV,jL,Rt,js,R6,R7,bS,aD,seval]
theorem Tg (f:Nat) (hT:(xN f).ok Tryz.prog) (args:List D) (d:D) (h:Mk f args=some d):aO Tryz.prog 42 args d:=by
 unfold Mk at h
 split at h
 ·split at h
  ·ab n hn
   split at h
   ·ab c
    cases h
    rw [iU hn]
    exact Sp f hT n c.1 c.2
   ·cases h
  ·cases h
 ·cases h
def trL (f:Nat):bm:=(TK f).dh 42 (Mk f)
theorem XX {f:Nat} (hT:(xN f).ok Tryz.prog):(trL f).ok Tryz.prog:=bm.bq (Ho hT) fun args d h=>Tg f hT args d h
theorem abY (f:Nat) (g:FuncId) (args:List D):(trL f).q g args=if g=42 then Mk f args else (TK f).q g args:=rfl
theorem abW (f:Nat):(trL f).a=rR.a:=rfl
theorem abX (f:Nat):(trL f).c=rR.c:=rfl
theorem Ly (l:List Nd) (i:Nat):(Nd.cW l).take i=Nd.cW (l.take i):=by rw [fj,fj,List.map_take]
theorem G8 (l:List Nd) (i:Nat) (h:i≤l.length):iv (.sl 5) (.sl (Nd.cW l)) none (some (.int .i64 (i:Int))) none=some (.sl (Nd.cW (l.take i))):=by
 have h1:∀y∈Nd.cW l,y.length=5:=fun y hy=>by
  rw [fj] at hy
  obtain ⟨x,_,rfl⟩:=List.mem_map.1 hy
  exact aq x
 simp only [iv,bounds,nM,aX]
 rw [if_pos h1,if_pos ⟨by omega,by omega,by omega⟩]
 simp [Ly]
theorem DC {ps:List (List UInt8)} {i:Nat} {p:List UInt8} (h:ps[i]? =some p):fN (ps.take (i+1))=fN (ps.take i)++(p++[10]):=by
 rw [List.take_add_one,h]
 simp [fN]
theorem zu (ps:List (List UInt8)) (i:Nat):(fN (ps.take i)).length≤(fN ps).length:=by
 have:fN ps=fN (ps.take i)++fN (ps.drop i):=by
  conv=>lhs; rw [←List.take_append_drop i ps]
  simp only [fN,List.map_append,List.flatten_append]
 rw [this,List.length_append]; omega
theorem GA {ps:List (List UInt8)} {x:List UInt8} (h:x∈ps):x.length≤(fN ps).length:=by
 induction ps with
 | nil=>cases h
 | cons y r ih=>
  have e:fN (y::r)=y++[10]++fN r:=by simp [fN]
  rw [e,List.length_append,List.length_append]
  rcases List.mem_cons.1 h with e | e
  ·subst e; omega
  ·have:=ih e; omega
theorem Sq (y:Nd):(aV y).length≤(x7 y (aV y)).length:=by
 obtain ⟨k,t,s,m,l⟩:=y
 unfold x7
 cases c:(k==21 && decide (m<0)) with
 | true=>
  have:k=21:=by simp at c; exact c.1
  subst this
  have hm:m<0:=by simp at c; exact c
  rw [bN]
  simp [jO,yJ,hm]
 | false=>
  cases jL:(k==20) with
  | true=>
   have:k=20:=by simpa using jL
   subst this
   rw [bN]
   simp [jO,yJ,c]
  | false=>simp only [c,jL,cond_false]; exact Nat.le_refl _
set_option maxHeartbeats 1000000 in
theorem NM (f:Nat) (hT:(xN f).ok Tryz.prog) (n:Nd) (hn:n.dz<f+1) (kT:sE n) (hk:n.kind≤5):aO Tryz.prog 24 [.agg n.enc] (.str (aV n)):=by
 refine aO.run (XX hT) XJ (by simp) fun E=>?_
 have je:=abY f
 have o5:=Q0 f
 have js:=Am f
 have jc:=abW f
 have jd:=abX f
 generalize trL f=TT at je jc jd ⊢
 obtain ⟨k,t,s,m,l⟩:=n
 have hk:k≤5:=hk
 have hlen:=kT.2.1
 obtain ⟨m0,m1,hs⟩:=uX kT
 have Yf:yd [.int .i64 t]=some (.str (fI t)):=rfl
 have htn:(fI t).length≤5:=by unfold fI; cases (t==1)<;>cases (t==2)<;>cases (t==3)<;>decide
 have LG:=kT.1
 rw [bn] at LG
 have Gq:=qH l
 have Wg:∀x∈l,x.dz<f:=fun x hx=>by have:=oT (k:=k) (t:=t) (s:=s) (n:=m) hx; omega
 rw [bN] at hlen ⊢
 rw [aT]
 unfold jO at hlen ⊢
 rw [if_neg (by omega),if_pos hk] at hlen ⊢
 have wl:IntKind.i64.wrap ((l.length:Int) - 1)=(l.length:Int) - 1:=wrap_i64 (by omega) (by omega)
 unfold NL at hlen ⊢
 cases jV:(k==1)
 case true=>
  simp only [jV,cond_true] at hlen ⊢
  simp (maxSteps:=1000000) only [wT,jV,wl,aX,je,o5,js,jc,jd,bS,aD,seval]
  intro i1 _ _
  refine c6 (X:=Nat) (fun i=>[(4,.str (fN ((a_ l).take i))),(16,.sl (Nd.cW l)),(17,.int .i64 l.length),(18,.int .i64 i)]) (fun _=>.emp) (fun i=>l.length - i) (fun i=>i≤l.length) 0 (Nat.zero_le _) (by simp only [List.take_zero,fN,List.map_nil,List.flatten_nil,aD,seval]) (aa.jb _) ?_
  intro i Q hi hQ
  by_cases ci:i<l.length
  ·have g:((i:Int)<(l.length:Int))=True:=eq_true (by omega)
   obtain ⟨x,hx⟩:∃x,l[i]? =some x:=⟨_,List.getElem?_eq_getElem ci⟩
   have hxm:=List.mem_of_getElem? hx
   have qM:∀(K:D→aa→Prop) (h:aa),iI 5 K h (Nd.cW l) (i:Int)=K (.c8 x.enc 0) h:=fun K h=>iR hx
   have Wo:=ak x
   have wi:IntKind.i64.wrap ((i:Int)+1)=((i+1:Nat):Int):=de (by omega)
   have hlx:=GA (show aV x∈a_ l by rw [eW]; exact List.mem_map.2 ⟨x,hxm,rfl⟩)
   have hq:=o9 (Wg x hxm) (mz kT hxm (by omega))
   have LM:=DC (jz hx)
   have LI:=zu (a_ l) i
   have hl2:=zu (a_ l) (i+1)
   have hx5:=aq x
   generalize fN ((a_ l).take i)=w1 at*
   generalize aV x=px at*
   obtain ⟨xk,xt,xs,xm,xl⟩:=x
   rw [aT] at*
   simp (maxSteps:=1000000) only [g,qM,Wo,wi,hq,je,o5,js,jc,jd,bS,aD,seval]
   intro id
   refine ⟨by omega,by (try simp only [List.length_append,List.length_cons,List.length_nil]); omega,hQ (i+1) _ _ (by omega) (by simp only [LM,aD,seval]) (aa.jb _) (by omega)⟩
  ·have e0:i=l.length:=by omega
   subst e0
   have g:((l.length:Int)<(l.length:Int))=False:=eq_false (by omega)
   have tk:(a_ l).take l.length=a_ l:=List.take_of_length_le (by rw [jA]; omega)
   simp (maxSteps:=1000000) only [g,tk,je,o5,js,jc,jd,bS,aD,seval]
 simp only [jV,cond_false] at hlen ⊢
 cases jL:(k==5)
 case true=>
  simp only [jL,cond_true] at hlen ⊢
  simp (maxSteps:=1000000) only [wT,jV,jL,wl,Yf,aX,je,o5,js,jc,jd,bS,aD,seval]
  intros
  (try simp only [List.length_append,List.length_cons,List.length_nil])
  omega
 simp only [jL,cond_false] at hlen ⊢
 cases l with
 | nil=>
  have g0:((-1:Int)<0)=True:=eq_true (by omega)
  have w0:IntKind.i64.wrap (-1)= -1:=by decide
  simp (maxSteps:=1000000) only [wT,jV,jL,g0,w0,bA,List.length_nil,je,o5,js,jc,jd,bS,aD,seval]
 | cons y r=>
  have qM:∀(K:D→aa→Prop) (h:aa),iI 5 K h (Nd.cW (y::r)) 0=K (.c8 y.enc 0) h:=fun K h=>iR (l:=y::r) (i:=0) rfl
  have hpy:=ak y
  have wr:IntKind.i64.wrap (((r.length+1:Nat):Int) - 1)=(r.length:Int):=by rw [wrap_i64 (by rw [List.length_cons] at Gq; omega) (by rw [List.length_cons] at Gq; omega)]; omega
  have g0:((r.length:Int)<0)=False:=eq_false (by omega)
  simp only [bj,List.getD_cons_zero] at hlen ⊢
  cases sk:(k==2)
  case true=>
   simp only [sk,cond_true] at hlen ⊢
   have Ry:(aV y).length≤1000000000000:=by
    have:=Sq y
    simp only [List.length_append] at hlen
    omega
   have hq:=Tf (Wg y (by simp)) (mz kT (by simp) Ry)
   generalize x7 y (aV y)=p at*
   have hy5:=aq y
   obtain ⟨yk,yt,ys,ym,yl⟩:=y
   rw [cz,aT] at*
   simp (maxSteps:=1000000) only [wT,jV,jL,sk,wr,g0,qM,hpy,Yf,hq,aX,List.length_cons,je,o5,js,jc,jd,bS,aD,seval]
   intros
   simp only [List.length_append,List.length_cons,List.length_nil] at hlen ⊢
   omega
  simp only [sk,cond_false] at hlen ⊢
  cases vm:(k==4)
  case true=>
   simp only [vm,cond_true] at hlen ⊢
   have Ry:(aV y).length≤1000000000000:=by rw [List.length_append] at hlen; omega
   have hq:=o9 (Wg y (by simp)) (mz kT (by simp) Ry)
   generalize aV y=p at*
   have hy5:=aq y
   obtain ⟨yk,yt,ys,ym,yl⟩:=y
   rw [cz,aT] at*
   simp (maxSteps:=1000000) only [wT,jV,jL,sk,vm,wr,g0,qM,hpy,Yf,hq,aX,List.length_cons,je,o5,js,jc,jd,bS,aD,seval]
   intros
   simp only [List.length_append,List.length_cons,List.length_nil] at hlen ⊢
   omega
  simp only [vm,cond_false] at hlen ⊢
  obtain ⟨z,hz⟩:∃z,(y::r)[r.length]? =some z:=⟨_,List.getElem?_eq_getElem (by simp)⟩
  have adt:∀(K:D→aa→Prop) (h:aa),iI 5 K h (Nd.cW (y::r)) (r.length:Int)=K (.c8 z.enc 0) h:=fun K h=>iR hz
  have hpz:=ak z
  have hzm:z∈y::r:=List.mem_of_getElem? hz
  have hsl:=G8 (y::r) r.length (by simp)
  have hdl:(aV y::a_ r).dropLast=a_ ((y::r).take r.length):=by
   rw [←bj,eW,eW,List.dropLast_eq_take,List.length_map,←List.map_take]; rfl
  have hla:(aV y::a_ r).getD ((aV y::a_ r).length - 1) []=aV z:=by
   have:(a_ (y::r))[r.length]? =some (aV z):=jz hz
   rw [bj] at this
   rw [List.getD_eq_getElem?_getD,show (aV y::a_ r).length - 1=r.length by rw [List.length_cons,jA]; omega,this]; rfl
  rw [hdl,hla] at hlen ⊢
  have hJ:(b8.join (a_ ((y::r).take r.length)) [44,32]).length≤1000000000000:=by simp only [List.length_append] at hlen; omega
  have hq1:rn f [.sl (Nd.cW ((y::r).take r.length)),.str [44,32]]=some (.str (b8.join (a_ ((y::r).take r.length)) [44,32])):=by
   refine Eb (fun x hx=>⟨Wg x (List.mem_of_mem_take hx),mz kT (List.mem_of_mem_take hx) ?_⟩) ?_ hJ
   ·have:=Ds (sep:=[44,32]) (show aV x∈a_ ((y::r).take r.length) by rw [eW]; exact List.mem_map.2 ⟨x,hx,rfl⟩)
    omega
   ·rw [List.length_take,List.length_cons]; rw [List.length_cons] at Gq; omega
  have hq2:=o9 (Wg z hzm) (mz kT hzm (by simp only [List.length_append] at hlen; omega))
  generalize aV z=p at*
  generalize b8.join (a_ ((y::r).take r.length)) [44,32]=J at*
  have hz5:=aq z
  obtain ⟨zk,zt,zs,zm,zl⟩:=z
  rw [aT] at*
  simp (maxSteps:=1000000) only [wT,jV,jL,sk,vm,wr,g0,adt,hpz,hsl,Yf,hq1,hq2,aX,List.length_cons,je,o5,js,jc,jd,bS,aD,seval]
  intros
  simp only [List.length_append,List.length_cons,List.length_nil] at hlen ⊢
  omega
end
end Go.Proofs.YtpklkpkfgmoghaaGreatDoor.Zz
namespace Go.Proofs.YtpklkpkfgmoghaaGreatDoor.Zz
noncomputable section
def aav:cj:=⟨⟨[],[],[],[],[],[]⟩,[],[],false⟩
def Pj:dL:=
 sO [oP (.cy (kS [])) 3]
 (.seq (sO [oM 0 4,
 oF 4 1 5,
 oL 5 6,
 oZ 6 7,
 oE .geq 4 7 8]
 (.cond (.t 8)
 (sO [oP (.cy (kS [])) 3]
 (.ret))
 (.skip)))
 (sO [oF 4 1 9,
 oL 9 10,
 oM 0 11,
 oI 5 10 11 12,
 oJ 5 12 13,
 oD 8 [.t 13] 14,
 oM 14 3]
 (.ret)))
theorem XK:bJ Tryz.prog 25 aav=some (Pj,[.tmp 3],15):=by kernel_rfl
def aaq:cj:=⟨⟨[],[(12,4),(14,4),(16,1),(16,5),(18,2),(21,1),(21,5),(23,1),(25,1),(27,1)],[],[((12,4),[(.t 1)]),((14,4),[(.t 1)])],[((12,1),(.t 1)),((14,1),(.t 1))],[]⟩,[(12,[0,1,2,3,4,5,6,7]),(14,[0,1,2,3,4,5,6,7])],[],false⟩
def kZ:dL:=
 sO [oQ (.box (.t 0)) 1,
 oP (.cy (kS [])) 2]
 (.seq (sO [oF 0 1 5,
 oL 5 6,
 oH .geq 6 20 7]
 (.cond (.t 7)
 (sO [oJ 5 1 8,
 oD 23 [.t 8] 9,
 oM 9 2]
 (.ret))
 (.skip)))
 (.seq (sO [oF 0 1 10,
 oL 10 11,
 oH .leq 11 5 12]
 (.cond (.t 12)
 (sO [oJ 5 1 13,
 oD 24 [.t 13] 14,
 oM 14 2]
 (.ret))
 (.skip)))
 (sO [oP (.mkFunc (.func 25) [] [(.t 1)]) 15,
 oM 15 3]
 (.seq (sO [oF 0 1 16,
 oL 16 17]
 (.block 0 (sO [oH .eql 17 6 19,
 oM 19 18]
 (.cond (.t 18)
 (.seq (sO [oF 4 1 20,
 oL 20 21,
 oZ 21 22,
 oH .eql 22 0 23]
 (.cond (.t 23)
 (sO [oP (.cy (kS [123,32,125])) 2]
 (.ret))
 (.skip)))
 (sO [oF 4 1 24,
 oL 24 25,
 oD 26 [.t 25,kS [32]] 26,
 oP (.bin .add (kS [123,32]) (.t 26)) 27,
 oP (.bin .add (.t 27) (kS [32,125])) 28,
 oM 28 2]
 (.ret)))
 (sO [oH .eql 17 7 30,
 oM 30 29]
 (.cond (.t 29)
 (.seq (.fD 2 [oF 2 1 31,
 oQ (.cT none (.t 31) (.t 1)) 32,
 oP (.bin .add (.t 32) (kS [32,58,61,32])) 33,
 oM 3 34,
 oQ (.callNe (.t 34) [(kI 0)] [(.t 1)]) 35,
 oE .add 33 35 36,
 oP (.bin .add (.t 36) (kS [59])) 37,
 oM 37 2])
 (.ret))
 (sO [oH .eql 17 8 39,
 oM 39 38]
 (.cond (.t 38)
 (.seq (.fD 2 [oF 2 1 40,
 oQ (.cT none (.t 40) (.t 1)) 41,
 oP (.bin .add (.t 41) (kS [32,61,32])) 42,
 oM 3 43,
 oQ (.callNe (.t 43) [(kI 0)] [(.t 1)]) 44,
 oE .add 42 44 45,
 oP (.bin .add (.t 45) (kS [59])) 46,
 oM 46 2])
 (.ret))
 (sO [oH .eql 17 9 48,
 oM 48 47]
 (.cond (.t 47)
 (sO [oM 3 49,
 oQ (.call (.t 49) [(kI 0)]) 50,
 oP (.bin .add (kS [105,102,32]) (.t 50)) 51,
 oP (.bin .add (.t 51) (kS [32])) 52,
 oM 3 53,
 oQ (.call (.t 53) [(kI 1)]) 54,
 oE .add 52 54 55,
 oM 55 4]
 (.seq (sO [oF 4 1 56,
 oL 56 57,
 oZ 57 58,
 oH .gtr 58 2 59]
 (.cond (.t 59)
 (.ops [oM 4 60,
 oM 3 61,
 oQ (.call (.t 61) [(kI 2)]) 62,
 oP (.bin .add (kS [32,101,108,115,101,32]) (.t 62)) 63,
 oE .add 60 63 64,
 oM 64 4])
 (.skip)))
 (sO [oM 4 65,
 oM 65 2]
 (.ret))))
 (sO [oH .eql 17 10 67,
 oM 67 66]
 (.cond (.t 66)
 (sO [oM 3 68,
 oQ (.call (.t 68) [(kI 0)]) 69,
 oP (.bin .add (kS [102,111,114,32]) (.t 69)) 70,
 oP (.bin .add (.t 70) (kS [32])) 71,
 oM 3 72,
 oQ (.call (.t 72) [(kI 1)]) 73,
 oE .add 71 73 74,
 oM 74 2]
 (.ret))
 (sO [oH .eql 17 11 76,
 oM 76 75]
 (.cond (.t 75)
 (sO [oM 3 77,
 oQ (.call (.t 77) [(kI 0)]) 78,
 oP (.bin .add (kS [114,101,116,117,114,110,32]) (.t 78)) 79,
 oP (.bin .add (.t 79) (kS [59])) 80,
 oM 80 2]
 (.ret))
 (sO [oH .eql 17 12 82,
 oM 82 81]
 (.cond (.t 81)
 (sO [oM 3 83,
 oQ (.call (.t 83) [(kI 0)]) 84,
 oP (.bin .add (kS [97,115,115,101,114,116,32]) (.t 84)) 85,
 oP (.bin .add (.t 85) (kS [59])) 86,
 oM 86 2]
 (.ret))
 (sO [oH .eql 17 13 88,
 oM 88 87]
 (.cond (.t 87)
 (sO [oM 3 89,
 oQ (.call (.t 89) [(kI 0)]) 90,
 oP (.bin .add (.t 90) (kS [59])) 91,
 oM 91 2]
 (.ret))
 (.skip)))))))))))))))))))
 (sO [oP (.cy (kS [115,107,105,112,59])) 2]
 (.ret))))))
theorem XF:bJ Tryz.prog 8 aaq=some (kZ,[.tmp 2],92):=by kernel_rfl
def Nd.fS:Nd→List Nd
 | .mk _ _ _ _ l=>l
def Nj (f:Nat) (args:List D) (h:aa) (K:D→aa→Prop):Prop:=∃(n:Nd) (id i:Nat),args=[.int .i64 (i:Int),.ptr id 1 0]∧h.f id=some (.cells n.enc)∧(∀x,n.fS[i]? =some x→x.dz<f∧sE x)∧n.dz≤1000000000∧K (.str ((a_ n.fS).getD i [])) h
theorem Ln (f:Nat) (args:List D) (h:aa) (K K':D→aa→Prop) (hk:∀d h,K d h→K' d h) (c:Nj f args h K):Nj f args h K':=by
 obtain ⟨n,id,i,a,b,c,d,e⟩:=c
 exact ⟨n,id,i,a,b,c,d,hk _ _ e⟩
theorem RO (f:Nat) (hT:(xN f).ok Tryz.prog) (args:List D) (h:aa) (K:D→aa→Prop) (c:Nj f args h K):aQ Tryz.prog 25 args h fun o h'=>∃d,o=.ret d∧K d h':=by
 obtain ⟨n,id,i,rfl,fE,hk,hn,hK⟩:=c
 refine aQ.L2 hT XK (by simp) ?_
 have js:=Am f
 have R6:=Q1 f
 have R7:=Q4 f
 generalize xN f=TT at js R6 R7 ⊢
 obtain ⟨k,t,s,m,l⟩:=n
 simp only [Nd.fS] at hk hK
 rw [bn] at hn
 have Gq:=qH l
 rw [aT] at fE
 by_cases c:i<l.length
 ·have g:((i:Int)≥(l.length:Int))=False:=eq_false (by omega)
  obtain ⟨x,hx⟩:∃x,l[i]? =some x:=⟨_,List.getElem?_eq_getElem c⟩
  have qM:∀(K:D→aa→Prop) (h:aa),iI 5 K h (Nd.cW l) (i:Int)=K (.c8 x.enc 0) h:=fun K h=>iR hx
  have Wo:=ak x
  obtain ⟨h1,h2⟩:=hk x hx
  have hq:=o9 h1 h2
  have hg:(a_ l).getD i []=aV x:=by rw [List.getD_eq_getElem?_getD,jz hx]; rfl
  rw [hg] at hK
  generalize aV x=p at*
  obtain ⟨xk,xt,xs,xm,xl⟩:=x
  rw [aT] at*
  simp (maxSteps:=1000000) only [Pj,fE,g,qM,Wo,hq,aX,fw,js,R6,R7,bS,aD,seval]
  intro _
  exact ⟨h,aa.aU _,hK⟩
 ·have g:((i:Int)≥(l.length:Int))=True:=eq_true (by omega)
  have hg:(a_ l).getD i []=[]:=by rw [List.getD_eq_getElem?_getD,List.getElem?_eq_none (by rw [jA]; omega)]; rfl
  rw [hg] at hK
  simp (maxSteps:=1000000) only [Pj,fE,g,aX,fw,js,R6,R7,bS,aD,seval]
  intro _
  exact ⟨h,aa.aU _,hK⟩
open Classical in
def sN (f:Nat):List D→Option D
 | [.agg ds]=>match vA ds with
  | some n=>if n.dz<f+1∧sE n∧n.kind≥20 then some (.str (aV n)) else none
  | none=>none
 | _=>none
theorem Mj (f:Nat) (hT:(xN f).ok Tryz.prog) (args:List D) (d:D) (h:sN f args=some d):aO Tryz.prog 23 args d:=by
 unfold sN at h
 split at h
 ·split at h
  ·ab n hn
   split at h
   ·ab c
    cases h
    rw [iU hn]
    exact NX f hT n c.1 c.2.1 c.2.2
   ·cases h
  ·cases h
 ·cases h
theorem Mi {f:Nat} {n:Nd} (h1:n.dz<f+1) (h2:sE n) (h3:n.kind≥20):sN f [.agg n.enc]=some (.str (aV n)):=by
 simp only [sN,kg]; rw [if_pos ⟨h1,h2,h3⟩]
open Classical in
def sM (f:Nat):List D→Option D
 | [.agg ds]=>match vA ds with
  | some n=>if n.dz<f+1∧sE n∧n.kind≤5 then some (.str (aV n)) else none
  | none=>none
 | _=>none
theorem Mh (f:Nat) (hT:(xN f).ok Tryz.prog) (args:List D) (d:D) (h:sM f args=some d):aO Tryz.prog 24 args d:=by
 unfold sM at h
 split at h
 ·split at h
  ·ab n hn
   split at h
   ·ab c
    cases h
    rw [iU hn]
    exact NM f hT n c.1 c.2.1 c.2.2
   ·cases h
  ·cases h
 ·cases h
theorem Mg {f:Nat} {n:Nd} (h1:n.dz<f+1) (h2:sE n) (h3:n.kind≤5):sM f [.agg n.enc]=some (.str (aV n)):=by
 simp only [sM,kg]; rw [if_pos ⟨h1,h2,h3⟩]
def trQ (f:Nat):bm:=(((TK f).dh 23 (sN f)).dh 24 (sM f)).FZ 25 (Nj f) (Ln f)
theorem XY {f:Nat} (hT:(xN f).ok Tryz.prog):(trQ f).ok Tryz.prog:=
 bm.qy (bm.bq (bm.bq (Ho hT) fun args d h=>Mj f hT args d h) fun args d h=>Mh f hT args d h) fun args h K c=>RO f hT args h K c
theorem ab2 (f:Nat) (g:FuncId) (args:List D):(trQ f).q g args=if g=24 then sM f args else if g=23 then sN f args else (TK f).q g args:=rfl
theorem ab0 (f:Nat):(trQ f).a=rR.a:=rfl
theorem ab1 (f:Nat) (g:FuncId) (args:List D) (h:aa) (K E:D→aa→Prop):(trQ f).c g args h K E=if g=25 then Nj f args h K else rR.c g args h K E:=rfl
set_option maxHeartbeats 2000000 in
theorem wJ (f:Nat) (hT:(xN f).ok Tryz.prog) (n:Nd) (hn:n.dz<f+1) (kT:sE n):aO Tryz.prog 8 [.agg n.enc] (.str (aV n)):=by
 refine aO.run (XY hT) XF (by simp) fun E=>?_
 have je:=ab2 f
 have o5:=Q0 f
 have js:=Am f
 have jc:=ab0 f
 have jd:=ab1 f
 generalize trQ f=TT at je jc jd ⊢
 by_cases k1:n.kind≥20
 ·have hq:=Mi hn kT k1
  generalize aV n=p at hq ⊢
  have hn5:=aq n
  have hpn:=ak n
  obtain ⟨k,t,s,m,l⟩:=n
  have g:(k≥20)=True:=eq_true k1
  rw [aT] at*
  simp (maxSteps:=1000000) only [kZ,g,hq,je,o5,js,jc,jd,bS,aD,seval]
 by_cases k2:n.kind≤5
 ·have hq:=Mg hn kT k2
  generalize aV n=p at hq ⊢
  obtain ⟨k,t,s,m,l⟩:=n
  have g1:(k≥20)=False:=eq_false k1
  have g2:(k≤5)=True:=eq_true k2
  rw [aT] at*
  simp (maxSteps:=1000000) only [kZ,g1,g2,hq,je,o5,js,jc,jd,bS,aD,seval]
 obtain ⟨k,t,s,m,l⟩:=n
 have g1:(k≥20)=False:=eq_false k1
 have g2:(k≤5)=False:=eq_false k2
 have hlen:=kT.2.1
 obtain ⟨m0,m1,hs⟩:=uX kT
 have Wg:∀x∈l,x.dz<f:=fun x hx=>by have:=oT (k:=k) (t:=t) (s:=s) (n:=m) hx; omega
 have uF:∀i:Nat,((a_ l).getD i []).length≤1000000000000→∀x,(Nd.mk k t s m l).fS[i]? =some x→x.dz<f∧sE x:=fun i hi x hx=>by
  have LN:l[i]? =some x:=hx
  refine ⟨Wg x (List.mem_of_getElem? LN),mz kT (List.mem_of_getElem? LN) ?_⟩
  rw [List.getD_eq_getElem?_getD,jz LN] at hi
  exact hi
 have Ry:=jA l
 rw [bN] at hlen ⊢
 rw [aT]
 unfold jO at hlen ⊢
 have k1':¬k≥20:=k1
 have k2':¬k≤5:=k2
 rw [if_neg k1',if_neg k2'] at hlen ⊢
 unfold Px at hlen ⊢
 cases gU:(k==6)
 case true=>
  simp only [gU,cond_true] at hlen ⊢
  cases l with
  | nil=>
   rw [bV] at*
   simp (maxSteps:=1000000) only [kZ,g1,g2,gU,bA,je,o5,js,jc,jd,bS,aD,seval]
  | cons y r=>
   rw [bj] at*
   rw [if_neg (by simp)] at hlen ⊢
   rw [←bj] at*
   have hj:=DL (sep:=[32]) kT hn (by simp only [List.length_append] at hlen; omega)
   have g0:(((r.length+1:Nat):Int)==0)=false:=by simp; omega
   simp (maxSteps:=1000000) only [kZ,g1,g2,gU,g0,hj,aX,List.length_cons,je,o5,js,jc,jd,bS,aD,seval]
   intros
   simp only [List.length_append,List.length_cons,List.length_nil] at hlen ⊢
   omega
 simp only [gU,cond_false] at hlen ⊢
 cases iJ:(k==7)
 case true=>
  simp only [iJ,cond_true] at hlen ⊢
  have h0:=uF 0 (by simp only [List.length_append] at hlen; omega)
  simp (maxSteps:=1000000) only [kZ,g1,g2,gU,iJ,aX,je,o5,js,jc,jd,Nd.fS,bS,aD,seval]
  intro i1
  refine ⟨by omega,.mk k t s m l,i1,0,rfl,by simp [aT],h0,kT.1,by simp,?_⟩
  simp (maxSteps:=1000000) only [g1,g2,gU,iJ,aX,je,o5,js,jc,jd,Nd.fS,bS,aD,seval]
  simp only [List.length_append,List.length_cons,List.length_nil] at hlen ⊢
  omega
 simp only [iJ,cond_false] at hlen ⊢
 cases lz:(k==8)
 case true=>
  simp only [lz,cond_true] at hlen ⊢
  have h0:=uF 0 (by simp only [List.length_append] at hlen; omega)
  simp (maxSteps:=1000000) only [kZ,g1,g2,gU,iJ,lz,aX,je,o5,js,jc,jd,Nd.fS,bS,aD,seval]
  intro i1
  refine ⟨by omega,.mk k t s m l,i1,0,rfl,by simp [aT],h0,kT.1,by simp,?_⟩
  simp (maxSteps:=1000000) only [g1,g2,gU,iJ,lz,aX,je,o5,js,jc,jd,Nd.fS,bS,aD,seval]
  simp only [List.length_append,List.length_cons,List.length_nil] at hlen ⊢
  omega
 simp only [lz,cond_false] at hlen ⊢
 cases mj:(k==9)
 case true=>
  simp only [mj,cond_true] at hlen ⊢
  rw [Ry] at hlen ⊢
  by_cases c:2<l.length
  ·have gc:((l.length:Int)>2)=True:=eq_true (by omega)
   rw [if_pos c] at hlen ⊢
   have h0:=uF 0 (by simp only [List.length_append] at hlen; omega)
   have h1:=uF 1 (by simp only [List.length_append] at hlen; omega)
   have h2:=uF 2 (by simp only [List.length_append] at hlen; omega)
   simp (maxSteps:=1000000) only [kZ,gc,g1,g2,gU,iJ,lz,mj,aX,je,o5,js,jc,jd,Nd.fS,bS,aD,seval]
   intro i1
   refine ⟨.mk k t s m l,i1,0,rfl,by simp [aT],h0,kT.1,?_⟩
   simp (maxSteps:=1000000) only [gc,g1,g2,gU,iJ,lz,mj,aX,je,o5,js,jc,jd,Nd.fS,bS,aD,seval]
   refine ⟨by simp only [List.length_append] at hlen; omega,by simp only [List.length_append,List.length_cons,List.length_nil] at hlen ⊢; omega,.mk k t s m l,i1,1,rfl,by simp [aT],h1,kT.1,?_⟩
   simp (maxSteps:=1000000) only [gc,g1,g2,gU,iJ,lz,mj,aX,je,o5,js,jc,jd,Nd.fS,bS,aD,seval]
   refine ⟨by simp only [List.length_append,List.length_cons,List.length_nil] at hlen ⊢; omega,fun _=>⟨.mk k t s m l,i1,2,rfl,by simp [aT],h2,kT.1,?_⟩⟩
   simp (maxSteps:=1000000) only [gc,g1,g2,gU,iJ,lz,mj,aX,je,o5,js,jc,jd,Nd.fS,bS,aD,seval]
   simp only [List.length_append,List.length_cons,List.length_nil] at hlen ⊢
   omega
  ·have gc:((l.length:Int)>2)=False:=eq_false (by omega)
   rw [if_neg c] at hlen ⊢
   have h0:=uF 0 (by simp only [List.length_append] at hlen; omega)
   have h1:=uF 1 (by simp only [List.length_append] at hlen; omega)
   simp (maxSteps:=1000000) only [kZ,gc,g1,g2,gU,iJ,lz,mj,aX,je,o5,js,jc,jd,Nd.fS,bS,aD,seval]
   intro i1
   refine ⟨.mk k t s m l,i1,0,rfl,by simp [aT],h0,kT.1,?_⟩
   simp (maxSteps:=1000000) only [gc,g1,g2,gU,iJ,lz,mj,aX,je,o5,js,jc,jd,Nd.fS,bS,aD,seval]
   refine ⟨by simp only [List.length_append] at hlen; omega,by simp only [List.length_append,List.length_cons,List.length_nil] at hlen ⊢; omega,.mk k t s m l,i1,1,rfl,by simp [aT],h1,kT.1,?_⟩
   simp (maxSteps:=1000000) only [gc,g1,g2,gU,iJ,lz,mj,aX,je,o5,js,jc,jd,Nd.fS,bS,aD,seval]
   simp only [List.length_append,List.length_cons,List.length_nil] at hlen ⊢
   omega
 simp only [mj,cond_false] at hlen ⊢
 cases mT:(k==10)
 case true=>
  simp only [mT,cond_true] at hlen ⊢
  have h0:=uF 0 (by simp only [List.length_append] at hlen; omega)
  have h1:=uF 1 (by simp only [List.length_append] at hlen; omega)
  simp (maxSteps:=1000000) only [kZ,g1,g2,gU,iJ,lz,mj,mT,aX,je,o5,js,jc,jd,Nd.fS,bS,aD,seval]
  intro i1
  refine ⟨.mk k t s m l,i1,0,rfl,by simp [aT],h0,kT.1,?_⟩
  simp (maxSteps:=1000000) only [g1,g2,gU,iJ,lz,mj,mT,aX,je,o5,js,jc,jd,Nd.fS,bS,aD,seval]
  refine ⟨by simp only [List.length_append] at hlen; omega,by simp only [List.length_append,List.length_cons,List.length_nil] at hlen ⊢; omega,.mk k t s m l,i1,1,rfl,by simp [aT],h1,kT.1,?_⟩
  simp (maxSteps:=1000000) only [g1,g2,gU,iJ,lz,mj,mT,aX,je,o5,js,jc,jd,Nd.fS,bS,aD,seval]
  simp only [List.length_append,List.length_cons,List.length_nil] at hlen ⊢
  omega
 simp only [mT,cond_false] at hlen ⊢
 cases qE:(k==11)
 case true=>
  simp only [qE,cond_true] at hlen ⊢
  have h0:=uF 0 (by simp only [List.length_append] at hlen; omega)
  simp (maxSteps:=1000000) only [kZ,g1,g2,gU,iJ,lz,mj,mT,qE,aX,je,o5,js,jc,jd,Nd.fS,bS,aD,seval]
  intro i1
  refine ⟨.mk k t s m l,i1,0,rfl,by simp [aT],h0,kT.1,?_⟩
  simp (maxSteps:=1000000) only [g1,g2,gU,iJ,lz,mj,mT,qE,aX,je,o5,js,jc,jd,Nd.fS,bS,aD,seval]
  simp only [List.length_append,List.length_cons,List.length_nil] at hlen ⊢
  omega
 simp only [qE,cond_false] at hlen ⊢
 cases vk:(k==12)
 case true=>
  simp only [vk,cond_true] at hlen ⊢
  have h0:=uF 0 (by simp only [List.length_append] at hlen; omega)
  simp (maxSteps:=1000000) only [kZ,g1,g2,gU,iJ,lz,mj,mT,qE,vk,aX,je,o5,js,jc,jd,Nd.fS,bS,aD,seval]
  intro i1
  refine ⟨.mk k t s m l,i1,0,rfl,by simp [aT],h0,kT.1,?_⟩
  simp (maxSteps:=1000000) only [g1,g2,gU,iJ,lz,mj,mT,qE,vk,aX,je,o5,js,jc,jd,Nd.fS,bS,aD,seval]
  simp only [List.length_append,List.length_cons,List.length_nil] at hlen ⊢
  omega
 simp only [vk,cond_false] at hlen ⊢
 cases Cm:(k==13)
 case true=>
  simp only [Cm,cond_true] at hlen ⊢
  have h0:=uF 0 (by simp only [List.length_append] at hlen; omega)
  simp (maxSteps:=1000000) only [kZ,g1,g2,gU,iJ,lz,mj,mT,qE,vk,Cm,aX,je,o5,js,jc,jd,Nd.fS,bS,aD,seval]
  intro i1
  refine ⟨.mk k t s m l,i1,0,rfl,by simp [aT],h0,kT.1,?_⟩
  simp (maxSteps:=1000000) only [g1,g2,gU,iJ,lz,mj,mT,qE,vk,Cm,aX,je,o5,js,jc,jd,Nd.fS,bS,aD,seval]
  simp only [List.length_append,List.length_cons,List.length_nil] at hlen ⊢
  omega
 simp only [Cm,cond_false] at hlen ⊢
 simp (maxSteps:=1000000) only [kZ,g1,g2,gU,iJ,lz,mj,mT,qE,vk,Cm,aX,je,o5,js,jc,jd,Nd.fS,bS,aD,seval]
theorem Q5:∀f,(xN f).ok Tryz.prog
 | 0=>bm.bq KQ fun args d h=>by
  unfold Mb at h
  split at h
  ·split at h
   ·split at h
    ·ab c; exact absurd c.1 (Nat.not_lt_zero _)
    ·cases h
   ·cases h
  ·cases h
 | f+1=>bm.bq KQ fun args d h=>by
  unfold Mb at h
  split at h
  ·split at h
   ·ab n hn
    split at h
    ·ab c
     cases h
     rw [iU hn]
     exact wJ f (Q5 f) n c.1 c.2
    ·cases h
   ·cases h
  ·cases h
theorem SM (n:Nd) (kT:sE n):aO Tryz.prog 8 [.agg n.enc] (.str (aV n)):=wJ n.dz (Q5 n.dz) n (Nat.lt_succ_self _) kT
open Classical in
def zZ:List D→Option D
 | [.agg ds]=>match vA ds with
  | some n=>if sE n then some (.str (aV n)) else none
  | none=>none
 | _=>none
theorem O2 (args:List D) (d:D) (h:zZ args=some d):aO Tryz.prog 8 args d:=by
 unfold zZ at h
 split at h
 ·split at h
  ·ab n hn
   split at h
   ·ab c
    cases h
    rw [iU hn]
    exact SM n c
   ·cases h
  ·cases h
 ·cases h
theorem D8 {n:Nd} (h:sE n):zZ [.agg n.enc]=some (.str (aV n)):=by
 simp only [zZ,kg]; rw [if_pos h]
end
end Go.Proofs.YtpklkpkfgmoghaaGreatDoor.Zz
namespace Go.Proofs.YtpklkpkfgmoghaaGreatDoor.Zz
noncomputable section
def p3h:cj:=⟨⟨[],[],[],[],[],[]⟩,[],[],false⟩
def s3h:dL:=
 sO [oP (.cy (kB false)) 2]
 (sO [oM 0 11,
 oD 5 [.t 11] 12,
 oM 12 3]
 (.seq (sO [oM 3 13,
 oW 13 14,
 oH .gtr 14 4096 15]
 (.cond (.t 15)
 (sO [oD 6 [] 16,
 oM 16 2]
 (.ret))
 (.skip)))
 (sO [oM 3 18,
 oD 7 [.t 18] 19,
 oM 19 17,
 oX 17 0 20,
 oX 17 1 21,
 oX 17 2 22,
 oA 4,
 oS 5 4 20,
 oM 21 5,
 oM 22 6]
 (sO [oJ 5 4 23,
 oD 8 [.t 23] 24,
 oM 24 7]
 (.seq (sO [oD 6 [] 25,
 oP (.un .not (.t 25)) 26,
 oM 26 27,
 oG (.cy (.t 6)) 28 27 false true,
 oG (.bin .neq (.t 28) (kI 0)) 29 27 false true,
 oP (.pick (.t 27) (kB true) (.t 29)) 30,
 oM 30 31,
 oG (.cy (.t 5)) 32 31 false true,
 oG (.bin .neq (.t 32) (kI 0)) 33 31 false true,
 oP (.pick (.t 31) (kB true) (.t 33)) 34]
 (.cond (.t 34)
 (sO [oP (.cy (kB false)) 2]
 (.ret))
 (.skip)))
 (.seq (sO [oM 7 35,
 oW 35 36,
 oH .gtr 36 4096 37]
 (.cond (.t 37)
 (sO [oP (.cy (kB true)) 2]
 (.ret))
 (.skip)))
 (sO [oM 7 39,
 oD 7 [.t 39] 40,
 oM 40 38,
 oX 38 0 41,
 oX 38 1 42,
 oX 38 2 43,
 oA 8,
 oS 5 8 41,
 oM 42 9,
 oM 43 10]
 (sO [oM 10 44,
 oH .eql 44 0 45,
 oM 45 46,
 oG (.load (some 5) (.t 4)) 47 46 true false,
 oG (.load (some 5) (.t 8)) 48 46 true false,
 oG (.qcall (.f 9) [(.t 47),(.t 48)]) 49 46 true false,
 oP (.pick (.t 46) (.t 49) (kB false)) 50,
 oM 50 51,
 oG (.load (some 5) (.t 8)) 52 51 true false,
 oG (.qcall (.f 8) [(.t 52)]) 53 51 true false,
 oG (.cy (.t 7)) 54 51 true true,
 oG (.bin .eql (.t 53) (.t 54)) 55 51 true true,
 oP (.pick (.t 51) (.t 55) (kB false)) 56,
 oM 56 2]
 (.ret)))))))))
theorem afc:bJ Tryz.prog 3 p3h=some (s3h,[.tmp 2],57):=by kernel_rfl
def p6h:cj:=⟨⟨[],[],[],[],[],[]⟩,[],[],false⟩
def s6h:dL:=
 sO [oP (.cy (kB false)) 0]
 (sO [oD 7 [(kS [102,117,110,99,32,102,40,97,32,105,110,116,41,32,105,110,116,32,123,32,114,101,116,117,114,110,32,97,32,45,32,49,32,45,32,50,32,42,32,51,59,32,125])] 5,
 oM 5 4,
 oX 4 0 6,
 oX 4 1 7,
 oX 4 2 8,
 oA 1,
 oS 5 1 6,
 oM 7 2,
 oM 8 3]
 (sO [oM 3 9,
 oH .eql 9 0 10,
 oM 10 11,
 oG (.load (some 5) (.t 1)) 12 11 true false,
 oG (.qcall (.f 8) [(.t 12)]) 13 11 true false,
 oG (.bin .eql (.t 13) (kS [102,117,110,99,32,102,40,97,32,105,110,116,41,32,105,110,116,32,123,32,114,101,116,117,114,110,32,40,40,97,32,45,32,49,41,32,45,32,40,50,32,42,32,51,41,41,59,32,125,10])) 14 11 true true,
 oP (.pick (.t 11) (.t 14) (kB false)) 15,
 oM 15 0]
 (.ret)))
theorem afl:bJ Tryz.prog 6 p6h=some (s6h,[.tmp 0],16):=by kernel_rfl
def WV:Nd→Bool
 | .mk _ _ s m _=>decide (-9223372036854775808≤m) && decide (m≤9223372036854775807) && decide (s.length≤1000000000000)
theorem WU:∀n:Nd,WV n=true→okX n
 | .mk k t s m l,h=>by
  simp only [WV,Bool.and_eq_true,decide_eq_true_eq] at h
  exact ⟨h.1.1,h.1.2,h.2⟩
def okB (n:Nd):Bool:=decide (n.dz≤1000000000) && decide ((aV n).length≤1000000000000) && (tv n).all WV
theorem WT {n:Nd} (h:okB n=true):sE n:=by
 simp only [okB,Bool.and_eq_true,decide_eq_true_eq,List.all_eq_true] at h
 exact ⟨h.1.1,h.1.2,fun x hx=>WU x (h.2 x hx)⟩
def BH:List D→Option D:=sP 81
theorem Th (args:List D) (d:D) (h:BH args=some d):aO Tryz.prog 7 args d:=Ml 81 args d h
def VI:List UInt8:=[102,117,110,99,32,102,40,97,32,105,110,116,41,32,105,110,116,32,123,32,114,101,116,117,114,110,32,97,32,45,32,49,32,45,32,50,32,42,32,51,59,32,125]
def Lf:Nd:=.mk 1 0 [] 0 [.mk 3 1 [102] 0 [.mk 5 1 [97] 0 [],.mk 6 0 [] 0 [.mk 11 0 [] 0 [.mk 26 0 [45] 0 [.mk 26 0 [45] 0 [.mk 23 0 [97] 0 [],.mk 20 0 [] 1 []],.mk 26 0 [42] 0 [.mk 20 0 [] 2 [],.mk 20 0 [] 3 []]]]]]]
theorem Lg:lD 81 VI=some (Lf,0,0):=DU (ws:=[(0,[])]) (m:=12) (by kernel_rfl) (by kernel_rfl)
theorem VJ:sE Lf:=WT (by kernel_rfl)
def YJ:List UInt8:=[102,117,110,99,32,102,40,97,32,105,110,116,41,32,105,110,116,32,123,32,114,101,116,117,114,110,32,40,40,97,32,45,32,49,41,32,45,32,40,50,32,42,32,51,41,41,59,32,125,10]
theorem Lh:aV Lf=YJ:=by kernel_rfl
def Va:bm:=bm.zero.dh 7 BH
theorem Ve (g:FuncId) (args:List D):Va.q g args=if g=7 then BH args else bm.zero.q g args:=rfl
theorem Vb:Va.a=bm.zero.a:=rfl
theorem Vc:Va.c=bm.zero.c:=rfl
theorem XT:Va.ok Tryz.prog:=bm.bq (bm.eH _) Th
theorem Vd:a7% (And.intro @Ve (And.intro @Vb @Vc)):=(And.intro @Ve (And.intro @Vb @Vc))
def Vf:bm:=Va.dh 8 zZ
theorem Vi (g:FuncId) (args:List D):Vf.q g args=if g=8 then zZ args else Va.q g args:=rfl
theorem Vg:Vf.a=Va.a:=rfl
theorem Vh:Vf.c=Va.c:=rfl
theorem QO:Vf.ok Tryz.prog:=bm.bq XT O2
theorem QN:a7% (And.intro (And.intro @Vi (And.intro @Vg @Vh)) @Vd):=(And.intro (And.intro @Vi (And.intro @Vg @Vh)) @Vd)
theorem Ld:aO Tryz.prog 6 [] (.bool true):=by
 refine aO.run QO afl (by simp) fun E=>?_
 have h1:BH [.str VI]=some (.tuple [.agg Lf.enc,.int .i64 0,.int .i64 0]):=by
  simp only [BH,sP,Lg,Option.map_some]
 have h2:=D8 VJ
 rw [Lh] at h2
 have hn5:=aq Lf
 generalize Lf=n at h1 h2 hn5
 obtain ⟨k,t,s,m,l⟩:=n
 rw [aT] at*
 unfold VI at h1
 unfold YJ at h2
 simp (maxSteps:=1000000) only [s6h,h1,h2,QN,aD,seval]
def Xa:List D→Option D
 | []=>some (.bool true)
 | _=>none
theorem Xb (args:List D) (d:D) (h:Xa args=some d):aO Tryz.prog 6 args d:=by
 unfold Xa at h
 split at h
 ·cases h; exact Ld
 ·cases h
def Vj:bm:=Vf.dh 6 Xa
theorem Vn (g:FuncId) (args:List D):Vj.q g args=if g=6 then Xa args else Vf.q g args:=rfl
theorem Vk:Vj.a=Vf.a:=rfl
theorem Vl:Vj.c=Vf.c:=rfl
theorem XU:Vj.ok Tryz.prog:=bm.bq QO Xb
theorem Vm:a7% (And.intro (And.intro @Vn (And.intro @Vk @Vl)) @QN):=(And.intro (And.intro @Vn (And.intro @Vk @Vl)) @QN)
def Vo:bm:=Vj.dh 5 GX
theorem Vs (g:FuncId) (args:List D):Vo.q g args=if g=5 then GX args else Vj.q g args:=rfl
theorem Vp:Vo.a=Vj.a:=rfl
theorem Vq:Vo.c=Vj.c:=rfl
theorem XV:Vo.ok Tryz.prog:=bm.bq XU W4
theorem Vr:a7% (And.intro (And.intro @Vs (And.intro @Vp @Vq)) @Vm):=(And.intro (And.intro @Vs (And.intro @Vp @Vq)) @Vm)
def tqe:bm:=Vo.dh 9 O5
theorem Vv (g:FuncId) (args:List D):tqe.q g args=if g=9 then O5 args else Vo.q g args:=rfl
theorem Vt:tqe.a=Vo.a:=rfl
theorem Vu:tqe.c=Vo.c:=rfl
theorem XW:tqe.ok Tryz.prog:=bm.bq XV SX
theorem KP:a7% (And.intro (And.intro @Vv (And.intro @Vt @Vu)) @Vr):=(And.intro (And.intro @Vv (And.intro @Vt @Vu)) @Vr)
theorem ya (L:List Int):aO Tryz.prog 3 [.sl (fA L)] (.bool true):=by
 refine aO.run XW afc (by simp) fun E=>?_
 have h5:=W3 L
 have ZR:=BM L
 have kT:=G9 L
 have Gr:=D2 L
 have Gn:=mJ L
 generalize gR L=x at h5 ZR kT Gr Gn
 generalize fb (jB L)=N at ZR kT Gr Gn
 by_cases hx:x.length≤4096
 ·have g1:((x.length:Int)>4096)=False:=eq_false (by omega)
  have h1:BH [.str x]=some (.tuple [.agg N.enc,.int .i64 0,.int .i64 0]):=by
   simp only [BH,sP,ZR hx,Option.map_some]
  have h2:=D8 (kT hx)
  have h4:=SW (x:=N) (y:=N) (by have:=Gn hx; omega)
  rw [show la N N=true from pc.2 rfl] at h4
  have Gr:=Gr hx
  generalize aV N=t at h2 Gr
  by_cases ht:t.length≤4096
  ·have g2:((t.length:Int)>4096)=False:=eq_false (by omega)
   have h3:BH [.str t]=some (.tuple [.agg N.enc,.int .i64 0,.int .i64 0]):=by
    simp only [BH,sP,Gr ht,Option.map_some]
   clear ZR kT Gn Gr
   obtain ⟨k,u,s,m,l⟩:=N
   rw [aT] at*
   simp (maxSteps:=1000000) only [s3h,h5,h1,h2,h3,h4,g1,g2,Xa,KP,aD,seval]
   intro _ i1 _ i2 n1 n2
   have hb:(t==t)=true:=by simp
   simp (maxSteps:=1000000) only [n1,n2,h2,h4,hb,KP,aD,seval]
  ·have g2:((t.length:Int)>4096)=True:=eq_true (by omega)
   clear ZR kT Gn Gr
   obtain ⟨k,u,s,m,l⟩:=N
   rw [aT] at*
   simp (maxSteps:=1000000) only [s3h,h5,h1,h2,g1,g2,Xa,KP,aD,seval]
 ·have g1:((x.length:Int)>4096)=True:=eq_true (by omega)
  simp (maxSteps:=1000000) only [s3h,h5,g1,Xa,KP,aD,seval]
end
end Go.Proofs.YtpklkpkfgmoghaaGreatDoor.Zz
