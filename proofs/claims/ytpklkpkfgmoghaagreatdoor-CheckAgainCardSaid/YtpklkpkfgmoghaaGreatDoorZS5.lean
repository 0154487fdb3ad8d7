/- Contracts: the generator of programs: expressions. -/
import Derived.Test.YtpklkpkfgmoghaaGreatDoorZS3
set_option linter.unnecessarySimpa false
set_option linter.unusedVariables false
set_option linter.unusedSimpArgs false
set_option maxRecDepth 20000
namespace Go.Proofs.YtpklkpkfgmoghaaGreatDoor.Zz
noncomputable section
def amM:cm:=⟨⟨[],[(1,1),(3,2),(4,2),(6,4),(8,4),(14,4),(16,4),(17,4),(17,8),(17,16),(20,4),(22,4),(23,4),(23,8),(23,16),(25,4),(27,4),(27,8),(27,16),(28,1),(29,5),(29,9),(29,18)],[],[((17,16),[(.t 1)]),((23,16),[(.t 1)]),((27,16),[(.t 1)]),((29,18),[(.t 1)]),((17,16),[(.t 80)]),((23,16),[(.t 118)]),((27,16),[(.t 147)]),((29,18),[(.t 169)])],[((17,10),(.t 1)),((23,10),(.t 1)),((27,10),(.t 1)),((29,11),(.t 1)),((17,10),(.t 80)),((23,10),(.t 118)),((27,10),(.t 147)),((29,11),(.t 169))],[]⟩,[(17,[0,1,2,3,6,7,12,13,14,15,4,5,8,9,10,11,16,17,18,19]),(23,[0,1,2,3,6,7,12,13,14,15,4,5,8,9,10,11,16,17,18,19]),(27,[0,1,2,3,6,7,12,13,14,15,4,5,8,9,10,11,16,17,18,19]),(29,[0,1,2,3,4,7,8,13,14,15,16,17,5,6,9,10,11,12,18,19,20,21])],[],false⟩
def Wq:dU:=
 .seq (sO [oM 2 54]
 (.block 0 (sO [oH .eql 54 0 56,
 oM 56 55]
 (.cond (.t 55)
 (.seq (sO [oM 9 57,
 oH .eql 57 4 58]
 (.cond (.t 58)
 (sO [oM 0 59,
 oM 1 60,
 oM 3 61,
 oH .sub 61 1 62,
 oC 19 [.t 59,.t 60,kI 1,.t 62] 63,
 oP (.bin .add (kS [105,110,116,40]) (.t 63)) 64,
 oP (.bin .add (.t 64) (kS [41])) 65,
 oM 65 8]
 (.ret))
 (.skip)))
 (.seq (sO [oM 9 66,
 oH .eql 66 5 67]
 (.cond (.t 67)
 (sO [oM 0 68,
 oM 1 69,
 oM 3 70,
 oH .sub 70 1 71,
 oC 19 [.t 68,.t 69,kI 0,.t 71] 72,
 oP (.bin .add (kS [45]) (.t 72)) 73,
 oM 73 8]
 (.ret))
 (.skip)))
 (.seq (.fS 8 [oM 0 74,
 oM 1 75,
 oM 3 76,
 oH .sub 76 1 77,
 oP (.buildSlice 1 [(.str [])] 5 [(0,(kS [32,43,32])),(1,(kS [32,45,32])),(2,(kS [32,42,32])),(3,(kS [32,47,32])),(4,(kS [32,37,32]))] false) 80,
 oM 0 81,
 oM 0 86,
 oM 1 87,
 oM 3 88,
 oH .sub 88 1 89,
 oC 19 [.t 74,.t 75,kI 0,.t 77] 78,
 oP (.bin .add (kS [40]) (.t 78)) 79,
 oC 13 [.t 81,kI 5] 82,
 oP (.aS 1 (.t 80) (.t 82)) 83,
 oQ (.cQ none (.t 83) (.t 1)) 84,
 oE .add 79 84 85,
 oQ (.callNe (.f 19) [(.t 86),(.t 87),(kI 0),(.t 89)] [(.t 1)]) 90,
 oE .add 85 90 91,
 oP (.bin .add (.t 91) (kS [41])) 92,
 oM 92 8])
 (.ret))))
 (sO [oH .eql 54 1 94,
 oM 94 93]
 (.cond (.t 93)
 (.seq (sO [oM 9 95,
 oH .eql 95 4 96]
 (.cond (.t 96)
 (sO [oM 0 97,
 oM 1 98,
 oM 3 99,
 oH .sub 99 1 100,
 oC 19 [.t 97,.t 98,kI 0,.t 100] 101,
 oP (.bin .add (kS [102,108,111,97,116,40]) (.t 101)) 102,
 oP (.bin .add (.t 102) (kS [41])) 103,
 oM 103 8]
 (.ret))
 (.skip)))
 (.seq (sO [oM 9 104,
 oH .eql 104 5 105]
 (.cond (.t 105)
 (sO [oM 0 106,
 oM 1 107,
 oM 3 108,
 oH .sub 108 1 109,
 oC 19 [.t 106,.t 107,kI 1,.t 109] 110,
 oP (.bin .add (kS [45]) (.t 110)) 111,
 oM 111 8]
 (.ret))
 (.skip)))
 (.seq (.fS 8 [oM 0 112,
 oM 1 113,
 oM 3 114,
 oH .sub 114 1 115,
 oP (.buildSlice 1 [(.str [])] 4 [(0,(kS [32,43,32])),(1,(kS [32,45,32])),(2,(kS [32,42,32])),(3,(kS [32,47,32]))] false) 118,
 oM 0 119,
 oM 0 124,
 oM 1 125,
 oM 3 126,
 oH .sub 126 1 127,
 oC 19 [.t 112,.t 113,kI 1,.t 115] 116,
 oP (.bin .add (kS [40]) (.t 116)) 117,
 oC 13 [.t 119,kI 4] 120,
 oP (.aS 1 (.t 118) (.t 120)) 121,
 oQ (.cQ none (.t 121) (.t 1)) 122,
 oE .add 117 122 123,
 oQ (.callNe (.f 19) [(.t 124),(.t 125),(kI 1),(.t 127)] [(.t 1)]) 128,
 oE .add 123 128 129,
 oP (.bin .add (.t 129) (kS [41])) 130,
 oM 130 8])
 (.ret))))
 (.skip)))))))
 (.seq (sO [oM 9 131,
 oH .eql 131 4 132]
 (.cond (.t 132)
 (sO [oM 0 133,
 oM 1 134,
 oM 3 135,
 oH .sub 135 1 136,
 oC 19 [.t 133,.t 134,kI 2,.t 136] 137,
 oP (.bin .add (kS [33]) (.t 137)) 138,
 oM 138 8]
 (.ret))
 (.skip)))
 (.seq (sO [oM 9 139,
 oH .eql 139 5 140]
 (.cond (.t 140)
 (.seq (.fS 8 [oM 0 141,
 oM 1 142,
 oM 3 143,
 oH .sub 143 1 144,
 oP (.buildSlice 1 [(.str [])] 3 [(0,(kS [32,38,38,32])),(1,(kS [32,124,124,32])),(2,(kS [32,61,61,32]))] false) 147,
 oM 0 148,
 oM 0 153,
 oM 1 154,
 oM 3 155,
 oH .sub 155 1 156,
 oC 19 [.t 141,.t 142,kI 2,.t 144] 145,
 oP (.bin .add (kS [40]) (.t 145)) 146,
 oC 13 [.t 148,kI 3] 149,
 oP (.aS 1 (.t 147) (.t 149)) 150,
 oQ (.cQ none (.t 150) (.t 1)) 151,
 oE .add 146 151 152,
 oQ (.callNe (.f 19) [(.t 153),(.t 154),(kI 2),(.t 156)] [(.t 1)]) 157,
 oE .add 152 157 158,
 oP (.bin .add (.t 158) (kS [41])) 159,
 oM 159 8])
 (.ret))
 (.skip)))
 (sO [oM 0 160,
 oC 13 [.t 160,kI 2] 161,
 oM 161 13]
 (.seq (.fS 8 [oM 0 162,
 oM 1 163,
 oM 13 164,
 oM 3 165,
 oH .sub 165 1 166,
 oP (.buildSlice 1 [(.str [])] 6 [(0,(kS [32,60,32])),(1,(kS [32,60,61,32])),(2,(kS [32,62,32])),(3,(kS [32,62,61,32])),(4,(kS [32,61,61,32])),(5,(kS [32,33,61,32]))] false) 169,
 oM 0 170,
 oM 0 175,
 oM 1 176,
 oM 13 177,
 oM 3 178,
 oH .sub 178 1 179,
 oC 19 [.t 162,.t 163,.t 164,.t 166] 167,
 oP (.bin .add (kS [40]) (.t 167)) 168,
 oC 13 [.t 170,kI 6] 171,
 oP (.aS 1 (.t 169) (.t 171)) 172,
 oQ (.cQ none (.t 172) (.t 1)) 173,
 oE .add 168 173 174,
 oQ (.callNe (.f 19) [(.t 175),(.t 176),(.t 177),(.t 179)] [(.t 1)]) 180,
 oE .add 174 180 181,
 oP (.bin .add (.t 181) (kS [41])) 182,
 oM 182 8])
 (.ret)))))
def afk:dU:=
 sO [oP (.cB (kS [])) 8]
 (sO [oM 0 14,
 oC 13 [.t 14,kI 8] 15,
 oM 15 9]
 (.seq (sO [oM 3 16,
 oH .leq 16 0 17,
 oM 17 18,
 oG (.cB (.t 9)) 19 18 false true,
 oG (.bin .eql (.t 19) (kI 0)) 20 18 false true,
 oP (.pick (.t 18) (kB true) (.t 20)) 21]
 (.cond (.t 21)
 (sO [oM 0 22,
 oM 2 23,
 oC 16 [.t 22,.t 23] 24,
 oM 24 8]
 (.ret))
 (.skip)))
 (.seq (sO [oM 1 25,
 oM 2 26,
 oC 31 [.t 25,.t 26] 27,
 oM 27 10]
 (sO [oM 9 28,
 oH .leq 28 2 29,
 oM 29 30,
 oG (.cB (.t 10)) 31 30 true true,
 oG (.len .sl (.t 31)) 32 30 true false,
 oG (.bin .gtr (.t 32) (kI 0)) 33 30 true true,
 oP (.pick (.t 30) (.t 33) (kB false)) 34]
 (.cond (.t 34)
 (sO [oM 10 35,
 oM 0 36,
 oM 10 37,
 oZ 37 38,
 oC 13 [.t 36,.t 38] 39,
 oI 1 35 39 40,
 oL 40 41,
 oM 41 8]
 (.ret))
 (.skip))))
 (.seq (sO [oM 9 42,
 oH .eql 42 3 43]
 (.cond (.t 43)
 (sO [oM 0 45,
 oM 1 46,
 oM 2 47,
 oM 3 48,
 oC 32 [.t 45,.t 46,.t 47,.t 48] 49,
 oM 49 44,
 oX 44 0 50,
 oX 44 1 51,
 oM 50 11,
 oM 51 12]
 (sO [oM 12 52]
 (.cond (.t 52)
 (sO [oM 11 53,
 oM 53 8]
 (.ret))
 (.skip))))
 (.skip)))
 (Wq)))))
theorem ajA:bA Tryz.prog 19 amM=some (afk,[.tmp 8],183):=by kernel_rfl
theorem amc (L:List Int) (b:Nat):ew (.aS 1 (.sl [[.str [32,43,32]],[.str [32,45,32]],[.str [32,42,32]],[.str [32,47,32]],[.str [32,37,32]]]) (.int .i64 (bD L 5 b).1))=some (.cO [.str (32::((fA L YL b).1++[32]))] 0):=by
 have h:=rN L (l:=YL) [] (fun x=>32::(x++[32])) (by decide) b
 have n:((YL.length:Nat):Int)=5:=rfl
 unfold fA
 rw [n] at h ⊢
 exact h
theorem amb (L:List Int) (b:Nat):ew (.aS 1 (.sl [[.str [32,43,32]],[.str [32,45,32]],[.str [32,42,32]],[.str [32,47,32]]]) (.int .i64 (bD L 4 b).1))=some (.cO [.str (32::((fA L YK b).1++[32]))] 0):=by
 have h:=rN L (l:=YK) [] (fun x=>32::(x++[32])) (by decide) b
 have n:((YK.length:Nat):Int)=4:=rfl
 unfold fA
 rw [n] at h ⊢
 exact h
theorem al_ (L:List Int) (b:Nat):ew (.aS 1 (.sl [[.str [32,38,38,32]],[.str [32,124,124,32]],[.str [32,61,61,32]]]) (.int .i64 (bD L 3 b).1))=some (.cO [.str (32::((fA L Ca b).1++[32]))] 0):=by
 have h:=rN L (l:=Ca) [] (fun x=>32::(x++[32])) (by decide) b
 have n:((Ca.length:Nat):Int)=3:=rfl
 unfold fA
 rw [n] at h ⊢
 exact h
theorem ama (L:List Int) (b:Nat):ew (.aS 1 (.sl [[.str [32,60,32]],[.str [32,60,61,32]],[.str [32,62,32]],[.str [32,62,61,32]],[.str [32,61,61,32]],[.str [32,33,61,32]]]) (.int .i64 (bD L 6 b).1))=some (.cO [.str (32::((fA L YJ b).1++[32]))] 0):=by
 have h:=rN L (l:=YJ) [] (fun x=>32::(x++[32])) (by decide) b
 have n:((YJ.length:Nat):Int)=6:=rfl
 unfold fA
 rw [n] at h ⊢
 exact h
theorem EZ (o:List UInt8) (x y:GE):40::(x.tx []++32::(o++[32])++y.tx []++[41])=(GE.bin o x y).tx []:=by
 rw [GE.tx,de x (32::_),de y [41]]
 simp
theorem vV (G:Nat) (hT:(TM G).ok Tryz.prog) (p:Nat) (L:List Int) (b q:Nat) (s:Nm) (d0 d1 d2 d3:D) (t kk:Int) (d:Nat) (hG:d<G) (hd:d≤3) (h:aa) (hp:h.f p=some (qa L b)) (ny:zf h q s d0 d1 d2 d3) (sm:RG s) (R:cY→aa→Prop) (DD:Int) (wd:IntKind.i64.wrap (DD - 1)=(d:Int))
  (k:R (.ret (.str ((q_ L (b_ L s d) t kk b).1.tx []))) (h.set p (qa L (q_ L (b_ L s d) t kk b).2))) (σ:Fr) (IV:σ.env 0=.ptr p 1 0) (Og:σ.env 1=.ptr q 1 0) (KM:σ.env 2=.int .i64 t) (Gf:σ.env 3=.int .i64 DD) (s9g:σ.env 9=.int .i64 kk) (sd:σ.defs=[]):
  vc (TM G) Wq (todo (TM G) (Tb cy.none [.tmp 8] R) (aX cy.none [.tmp 8] R) []) (aX cy.none [.tmp 8] R) σ h:=by
 have hq:=ny.obj
 have pW:¬p=q:=fun e=>by subst e; rw [hp] at hq; cases hq
 have mn:¬q=p:=fun e=>pW e.symm
 unfold q_ at k
 have hy:∀h',h'.f q=h.f q→zf h' q s d0 d1 d2 d3:=fun h' e=>ny.of_eq e
 have hB:∀u c,((b_ L s d u c).1.tx []).length≤292:=fun u c=>Nat.le_trans (fY (L:=L) sm.ok d u c) (abx hd)
 by_cases E2:t=0
 ·subst E2
  rw [if_pos rfl] at k
  by_cases B1:kk=4
  ·subst B1
   rw [if_pos rfl] at k
   simp (maxSteps:=1000000) only [Wq,IV,Og,KM,Gf,s9g,sd,wd,dY,aG,aA,seval]
   refine ⟨p,L,b,q,s,d0,d1,d2,d3,1,d,rfl,hG,hd,hp,ny,sm,?_⟩
   have hb:=hB 1 b
   generalize b_ L s d 1 b=X at hb k ⊢
   obtain ⟨e,c⟩:=X
   simp only at hb k ⊢
   rw [show (GE.conv 1 e).tx []=105::110::116::40::(e.tx []++[41]) by rw [GE.tx,de e [41]]; simp [pS]] at k
   simp (maxSteps:=1000000) only [sd,af,ab,av,dY,aG,aA,seval]
   repeat refine And.intro (by omega) ?_
   exact .inl ⟨_,aa.aj _,k⟩
  ·have g4:(kk==4)=false:=by simpa using B1
   rw [if_neg B1] at k
   by_cases La:kk=5
   ·subst La
    rw [if_pos rfl] at k
    simp (maxSteps:=1000000) only [Wq,IV,Og,KM,Gf,s9g,sd,wd,dY,aG,aA,seval]
    refine ⟨p,L,b,q,s,d0,d1,d2,d3,0,d,rfl,hG,hd,hp,ny,sm,?_⟩
    have hb:=hB 0 b
    generalize b_ L s d 0 b=X at hb k ⊢
    obtain ⟨e,c⟩:=X
    simp only at hb k ⊢
    rw [show (GE.un [45] e).tx []=45::e.tx [] by rw [GE.tx]; rfl] at k
    simp (maxSteps:=1000000) only [sd,af,ab,av,dY,aG,aA,seval]
    repeat refine And.intro (by omega) ?_
    exact .inl ⟨_,aa.aj _,k⟩
   ·have g5:(kk==5)=false:=by simpa using La
    rw [if_neg La] at k
    unfold zA at k
    simp only at k
    simp (maxSteps:=1000000) only [Wq,IV,Og,KM,Gf,s9g,g4,g5,sd,wd,dY,aG,aA,seval]
    refine ⟨p,L,b,q,s,d0,d1,d2,d3,0,d,rfl,hG,hd,hp,ny,sm,?_⟩
    have hb:=hB 0 b
    generalize b_ L s d 0 b=X at hb k ⊢
    obtain ⟨e,c⟩:=X
    simp only at hb k ⊢
    simp (maxSteps:=1000000) only [pW,mn,hp,hq,wd,dY,aG,aA,seval]
    refine ⟨by omega,p,L,c,5,rfl,by simp,by decide,by decide,?_⟩
    have hi:=amc L c
    have e2:(fA L YL c).2=(bD L 5 c).2:=rfl
    have ho:(fA L YL c).1.length≤2:=oz _ ((by decide:∀s∈YL,s∈pz) _ (fk L (by decide) c))
    rw [e2] at k
    generalize (fA L YL c).1=o at hi ho k
    generalize (bD L 5 c).2=v at k ⊢
    simp (maxSteps:=1000000) only [hi,pW,mn,hp,hq,wd,dY,aG,aA,seval]
    refine ⟨by simp only [List.length_append,List.length_cons,List.length_nil]; omega,p,L,v,q,s,d0,d1,d2,d3,0,d,rfl,hG,hd,by simp,hy _ (by simp [mn]),sm,?_⟩
    have yo:=hB 0 v
    generalize b_ L s d 0 v=X at yo k ⊢
    obtain ⟨y,z⟩:=X
    simp only at yo k ⊢
    simp (maxSteps:=1000000) only [Og,pW,mn,hp,hq,sd,af,ab,av,dY,aG,aA,seval]
    repeat refine And.intro (by simp only [List.length_append,List.length_cons,List.length_nil]; omega) ?_
    rw [←EZ] at k
    exact .inl ⟨_,aa.aj _,k⟩
 ·have g0:(t==0)=false:=by simpa using E2
  rw [if_neg E2] at k
  by_cases tJ:t=1
  ·subst tJ
   rw [if_pos rfl] at k
   by_cases B1:kk=4
   ·subst B1
    rw [if_pos rfl] at k
    simp (maxSteps:=1000000) only [Wq,IV,Og,KM,Gf,s9g,sd,wd,dY,aG,aA,seval]
    refine ⟨p,L,b,q,s,d0,d1,d2,d3,0,d,rfl,hG,hd,hp,ny,sm,?_⟩
    have hb:=hB 0 b
    generalize b_ L s d 0 b=X at hb k ⊢
    obtain ⟨e,c⟩:=X
    simp only at hb k ⊢
    rw [show (GE.conv 2 e).tx []=102::108::111::97::116::40::(e.tx []++[41]) by rw [GE.tx,de e [41]]; simp [ib]] at k
    simp (maxSteps:=1000000) only [sd,af,ab,av,dY,aG,aA,seval]
    repeat refine And.intro (by omega) ?_
    exact .inl ⟨_,aa.aj _,k⟩
   ·have g4:(kk==4)=false:=by simpa using B1
    rw [if_neg B1] at k
    by_cases La:kk=5
    ·subst La
     rw [if_pos rfl] at k
     simp (maxSteps:=1000000) only [Wq,IV,Og,KM,Gf,s9g,sd,wd,dY,aG,aA,seval]
     refine ⟨p,L,b,q,s,d0,d1,d2,d3,1,d,rfl,hG,hd,hp,ny,sm,?_⟩
     have hb:=hB 1 b
     generalize b_ L s d 1 b=X at hb k ⊢
     obtain ⟨e,c⟩:=X
     simp only at hb k ⊢
     rw [show (GE.un [45] e).tx []=45::e.tx [] by rw [GE.tx]; rfl] at k
     simp (maxSteps:=1000000) only [sd,af,ab,av,dY,aG,aA,seval]
     repeat refine And.intro (by omega) ?_
     exact .inl ⟨_,aa.aj _,k⟩
    ·have g5:(kk==5)=false:=by simpa using La
     rw [if_neg La] at k
     unfold zA at k
     simp only at k
     simp (maxSteps:=1000000) only [Wq,IV,Og,KM,Gf,s9g,g4,g5,sd,wd,dY,aG,aA,seval]
     refine ⟨p,L,b,q,s,d0,d1,d2,d3,1,d,rfl,hG,hd,hp,ny,sm,?_⟩
     have hb:=hB 1 b
     generalize b_ L s d 1 b=X at hb k ⊢
     obtain ⟨e,c⟩:=X
     simp only at hb k ⊢
     simp (maxSteps:=1000000) only [pW,mn,hp,hq,wd,dY,aG,aA,seval]
     refine ⟨by omega,p,L,c,4,rfl,by simp,by decide,by decide,?_⟩
     have hi:=amb L c
     have e2:(fA L YK c).2=(bD L 4 c).2:=rfl
     have ho:(fA L YK c).1.length≤2:=oz _ ((by decide:∀s∈YK,s∈pz) _ (fk L (by decide) c))
     rw [e2] at k
     generalize (fA L YK c).1=o at hi ho k
     generalize (bD L 4 c).2=v at k ⊢
     simp (maxSteps:=1000000) only [hi,pW,mn,hp,hq,wd,dY,aG,aA,seval]
     refine ⟨by simp only [List.length_append,List.length_cons,List.length_nil]; omega,p,L,v,q,s,d0,d1,d2,d3,1,d,rfl,hG,hd,by simp,hy _ (by simp [mn]),sm,?_⟩
     have yo:=hB 1 v
     generalize b_ L s d 1 v=X at yo k ⊢
     obtain ⟨y,z⟩:=X
     simp only at yo k ⊢
     simp (maxSteps:=1000000) only [Og,pW,mn,hp,hq,sd,af,ab,av,dY,aG,aA,seval]
     repeat refine And.intro (by simp only [List.length_append,List.length_cons,List.length_nil]; omega) ?_
     rw [←EZ] at k
     exact .inl ⟨_,aa.aj _,k⟩
  ·have g1:(t==1)=false:=by simpa using tJ
   rw [if_neg tJ] at k
   by_cases B1:kk=4
   ·subst B1
    rw [if_pos rfl] at k
    simp (maxSteps:=1000000) only [Wq,IV,Og,KM,Gf,s9g,g0,g1,sd,wd,dY,aG,aA,seval]
    refine ⟨p,L,b,q,s,d0,d1,d2,d3,2,d,rfl,hG,hd,hp,ny,sm,?_⟩
    have hb:=hB 2 b
    generalize b_ L s d 2 b=X at hb k ⊢
    obtain ⟨e,c⟩:=X
    simp only at hb k ⊢
    rw [show (GE.un [33] e).tx []=33::e.tx [] by rw [GE.tx]; rfl] at k
    simp (maxSteps:=1000000) only [sd,af,ab,av,dY,aG,aA,seval]
    repeat refine And.intro (by omega) ?_
    exact .inl ⟨_,aa.aj _,k⟩
   ·have g4:(kk==4)=false:=by simpa using B1
    rw [if_neg B1] at k
    by_cases La:kk=5
    ·subst La
     rw [if_pos rfl] at k
     unfold zA at k
     simp only at k
     simp (maxSteps:=1000000) only [Wq,IV,Og,KM,Gf,s9g,g0,g1,sd,wd,dY,aG,aA,seval]
     refine ⟨p,L,b,q,s,d0,d1,d2,d3,2,d,rfl,hG,hd,hp,ny,sm,?_⟩
     have hb:=hB 2 b
     generalize b_ L s d 2 b=X at hb k ⊢
     obtain ⟨e,c⟩:=X
     simp only at hb k ⊢
     simp (maxSteps:=1000000) only [pW,mn,hp,hq,wd,dY,aG,aA,seval]
     refine ⟨by omega,p,L,c,3,rfl,by simp,by decide,by decide,?_⟩
     have hi:=al_ L c
     have e2:(fA L Ca c).2=(bD L 3 c).2:=rfl
     have ho:(fA L Ca c).1.length≤2:=oz _ ((by decide:∀s∈Ca,s∈pz) _ (fk L (by decide) c))
     rw [e2] at k
     generalize (fA L Ca c).1=o at hi ho k
     generalize (bD L 3 c).2=v at k ⊢
     simp (maxSteps:=1000000) only [hi,pW,mn,hp,hq,wd,dY,aG,aA,seval]
     refine ⟨by simp only [List.length_append,List.length_cons,List.length_nil]; omega,p,L,v,q,s,d0,d1,d2,d3,2,d,rfl,hG,hd,by simp,hy _ (by simp [mn]),sm,?_⟩
     have yo:=hB 2 v
     generalize b_ L s d 2 v=X at yo k ⊢
     obtain ⟨y,z⟩:=X
     simp only at yo k ⊢
     simp (maxSteps:=1000000) only [Og,pW,mn,hp,hq,sd,af,ab,av,dY,aG,aA,seval]
     repeat refine And.intro (by simp only [List.length_append,List.length_cons,List.length_nil]; omega) ?_
     rw [←EZ] at k
     exact .inl ⟨_,aa.aj _,k⟩
    ·have g5:(kk==5)=false:=by simpa using La
     rw [if_neg La] at k
     unfold zA at k
     simp only at k
     simp (maxSteps:=1000000) only [Wq,IV,Og,KM,Gf,s9g,g0,g1,g4,g5,sd,wd,dY,aG,aA,seval]
     refine ⟨p,L,b,2,rfl,hp,by decide,by decide,?_⟩
     generalize bD L 2 b=kb at k ⊢
     obtain ⟨u,w⟩:=kb
     simp only at k ⊢
     simp (maxSteps:=1000000) only [IV,Og,Gf,pW,mn,hp,sd,wd,dY,aG,aA,seval]
     refine ⟨p,L,w,q,s,d0,d1,d2,d3,u,d,rfl,hG,hd,by simp,hy _ (by simp [mn]),sm,?_⟩
     have hb:=hB u w
     generalize b_ L s d u w=X at hb k ⊢
     obtain ⟨e,c⟩:=X
     simp only at hb k ⊢
     simp (maxSteps:=1000000) only [pW,mn,hp,hq,wd,dY,aG,aA,seval]
     refine ⟨by omega,p,L,c,6,rfl,by simp,by decide,by decide,?_⟩
     have hi:=ama L c
     have e2:(fA L YJ c).2=(bD L 6 c).2:=rfl
     have ho:(fA L YJ c).1.length≤2:=oz _ ((by decide:∀s∈YJ,s∈pz) _ (fk L (by decide) c))
     rw [e2] at k
     generalize (fA L YJ c).1=o at hi ho k
     generalize (bD L 6 c).2=v at k ⊢
     simp (maxSteps:=1000000) only [hi,pW,mn,hp,hq,wd,dY,aG,aA,seval]
     refine ⟨by simp only [List.length_append,List.length_cons,List.length_nil]; omega,p,L,v,q,s,d0,d1,d2,d3,u,d,rfl,hG,hd,by simp,hy _ (by simp [mn]),sm,?_⟩
     have yo:=hB u v
     generalize b_ L s d u v=X at yo k ⊢
     obtain ⟨y,z⟩:=X
     simp only at yo k ⊢
     simp (maxSteps:=1000000) only [Og,pW,mn,hp,hq,sd,af,ab,av,dY,aG,aA,seval]
     repeat refine And.intro (by simp only [List.length_append,List.length_cons,List.length_nil]; omega) ?_
     rw [←EZ] at k
     exact .inl ⟨_,aa.aj _,k⟩
end
end Go.Proofs.YtpklkpkfgmoghaaGreatDoor.Zz
namespace Go.Proofs.YtpklkpkfgmoghaaGreatDoor.Zz
noncomputable section
theorem LF (G:Nat) (hT:(TM G).ok Tryz.prog) (args:List D) (h:aa) (K E:D→aa→Prop) (c:gEx (G+1) args h K E):aH Tryz.prog 19 args h (cY.to K E):=by
 obtain ⟨p,L,a,q,s,d0,d1,d2,d3,t,d,rfl,hG,hd,hp,ny,sm,k⟩:=c
 refine aH.cv hT (dc:=cy.none) (fun _ _=>cy.cX) (by kernel_rfl) ajA (by simp) ?_
 rw [cA]
 have hq:=ny.obj
 have pW:¬p=q:=fun e=>by subst e; rw [hp] at hq; cases hq
 have mn:¬q=p:=fun e=>pW e.symm
 have hy:∀h',h'.f q=h.f q→zf h' q s d0 d1 d2 d3:=fun h' e=>ny.of_eq e
 have hr:=bY L (n:=8) (by decide) a
 cases d with
 | zero=>
  rw [b_] at k
  have g0:(((0:Nat):Int)≤0)=True:=eq_true (by omega)
  simp (maxSteps:=1000000) only [afk,hq,hp,pW,mn,dY,aG,aA,seval]
  refine ⟨p,L,a,8,rfl,hp,by decide,by decide,?_⟩
  simp (maxSteps:=1000000) only [hq,hp,pW,mn,dY,aG,aA,seval]
  refine ⟨p,L,(bD L 8 a).2,t,rfl,by simp,?_⟩
  simp (maxSteps:=1000000) only [hq,hp,pW,mn,af,ab,av,dY,aG,aA,seval]
  exact .inl ⟨_,aa.aj _,k⟩
 | succ d=>
  rw [b_] at k
  generalize hD:((d+1:Nat):Int)=DD
  have wd:IntKind.i64.wrap (DD - 1)=(d:Int):=by rw [←hD,wrap_i64 (by omega) (by omega)]; omega
  have gD:(DD≤0)=False:=eq_false (by omega)
  simp (maxSteps:=1000000) only [afk,hq,hp,pW,mn,dY,aG,aA,seval]
  refine ⟨p,L,a,8,rfl,hp,by decide,by decide,?_⟩
  generalize bD L 8 a=kb at k hr ⊢
  obtain ⟨kk,b⟩:=kb
  simp only at k hr ⊢
  by_cases z0:kk=0
  ·rw [if_pos z0] at k
   subst z0
   simp (maxSteps:=1000000) only [hq,hp,pW,mn,gD,dY,aG,aA,seval]
   refine ⟨p,L,b,t,rfl,by simp,?_⟩
   simp (maxSteps:=1000000) only [hq,hp,pW,mn,af,ab,av,dY,aG,aA,seval]
   exact .inl ⟨_,aa.aj _,k⟩
  ·have b0:(kk==0)=false:=by simpa using z0
   rw [if_neg z0] at k
   simp (maxSteps:=1000000) only [hq,hp,pW,mn,gD,b0,dY,aG,aA,seval]
   refine ⟨q,s,d0,d1,d2,d3,t,rfl,hy _ (by simp [mn]),?_⟩
   by_cases z2:kk≤2∧s.of t≠[]
   ·rw [if_pos z2] at k
    have g2:(kk≤2)=True:=eq_true z2.1
    have jN:=List.length_pos_iff.2 z2.2
    have gl:(((s.of t).length:Int)>0)=True:=eq_true (by omega)
    have hlen:=sm.of t
    have hi:∀(K:D→aa→Prop) (h:aa),fx 1 K h (eR (s.of t)) (bD L (s.of t).length b).1=K (.cO [.str ((s.of t).getD (bD L (s.of t).length b).1.toNat [])] 0) h:=fun K h=>tT L (l:=s.of t) [] (fun x=>x) jN b K h
    simp (maxSteps:=1000000) only [hq,hp,pW,mn,g2,gl,gN,dY,aG,aA,seval]
    intro _ _
    refine ⟨p,L,b,_,rfl,by simp,by omega,by omega,?_⟩
    simp (maxSteps:=1000000) only [hq,hp,pW,mn,hi,af,ab,av,dY,aG,aA,seval]
    simp only at k
    rw [show ∀x,(GE.var x).tx []=x from fun x=>by rw [GE.tx,List.append_nil]] at k
    exact .inl ⟨_,aa.aj _,k⟩
   ·rw [if_neg z2] at k
    by_cases z3:kk=3
    ·subst z3
     rw [if_pos rfl] at k
     simp (maxSteps:=1000000) only [hq,hp,pW,mn,dY,aG,aA,seval]
     refine ⟨p,L,b,q,s,d0,d1,d2,d3,t,d,by rw [hD],by omega,by omega,by simp,hy _ (by simp [mn]),sm,?_⟩
     unfold callR
     cases hc:jB L s (b_ L s d) t b with
     | mk x v=>
      rw [hc] at k
      cases x with
      | some c=>
       simp only at k ⊢
       simp (maxSteps:=1000000) only [hq,hp,pW,mn,af,ab,av,dY,aG,aA,seval]
       exact .inl ⟨_,aa.aj _,k⟩
      | none=>
       simp only at k ⊢
       simp (maxSteps:=1000000) only [hq,hp,pW,mn,af,ab,av,dY,aG,aA,seval]
       exact vV G hT p L v q s d0 d1 d2 d3 t 3 d (by omega) (by omega) _ (by simp) (hy _ (by simp [mn])) sm _ DD wd (by rw [aa.set_set]; exact k) _ (by simp only [aA,seval]) (by simp only [aA,seval]) (by simp only [aA,seval]) (by simp only [aA,seval]) (by simp only [aA,seval]) (by simp only [aA,seval])
    ·rw [if_neg z3] at k
     have b3:(kk==3)=false:=by simpa using z3
     by_cases h2:kk≤2
     ·have h0:s.of t=[]:=by
       by_cases c:s.of t=[]
       ·exact c
       ·exact absurd ⟨h2,c⟩ z2
      have g2:(kk≤2)=True:=eq_true h2
      simp (maxSteps:=1000000) only [hq,hp,pW,mn,g2,b3,h0,gN,List.length_nil,dY,aG,aA,seval]
      exact vV G hT p L b q s d0 d1 d2 d3 t kk d (by omega) (by omega) _ (by simp) (hy _ (by simp [mn])) sm _ DD wd (by rw [aa.set_set]; exact k) _ (by simp only [aA,seval]) (by simp only [aA,seval]) (by simp only [aA,seval]) (by simp only [aA,seval]) (by simp only [aA,seval]) (by simp only [aA,seval])
     ·have g2:(kk≤2)=False:=eq_false h2
      simp (maxSteps:=1000000) only [hq,hp,pW,mn,g2,b3,dY,aG,aA,seval]
      exact vV G hT p L b q s d0 d1 d2 d3 t kk d (by omega) (by omega) _ (by simp) (hy _ (by simp [mn])) sm _ DD wd (by rw [aa.set_set]; exact k) _ (by simp only [aA,seval]) (by simp only [aA,seval]) (by simp only [aA,seval]) (by simp only [aA,seval]) (by simp only [aA,seval]) (by simp only [aA,seval])
theorem F2:∀(G:Nat),(tbE G).ok Tryz.prog
 | 0=>bh.bQ JJ fun args h K E c=>by
  obtain ⟨p,L,a,q,s,d0,d1,d2,d3,t,d,_,hG,_⟩:=c
  omega
 | G+1=>bh.bQ JJ fun args h K E c=>LF G (bh.bQ (F2 G) fun args h K E c=>Cz G (F2 G) args h K E c) args h K E c
theorem NC (G:Nat):(TM G).ok Tryz.prog:=bh.bQ (F2 G) fun args h K E c=>Cz G (F2 G) args h K E c
end
end Go.Proofs.YtpklkpkfgmoghaaGreatDoor.Zz
