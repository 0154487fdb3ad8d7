/- Contracts: expressions. -/
import Derived.Test.YtpklkpkfgmoghaaGreatDoorZC4
set_option linter.unnecessarySimpa false
set_option linter.unusedVariables false
set_option linter.unusedSimpArgs false
set_option maxRecDepth 20000
namespace Go.Proofs.YtpklkpkfgmoghaaGreatDoor.Zz
noncomputable section
def anq:cm:=⟨⟨[],[(6,8),(7,4),(16,1),(19,1),(20,3),(22,5),(24,1),(25,3),(26,6),(28,1),(30,8),(31,18),(10,3),(11,1),(12,12)],[(12,4),(12,9)],[((7,4),[(.t 5)])],[((7,1),(.t 5))],[]⟩,[(7,[0,1,2,3,4,5,6,7,8]),(12,[0,1,2,3,4,5,6,7,8,9,10,11,12,13,14])],[],false⟩
def ajm:dU:=
 sO [oQ (.box (.t 1)) 3,
 oA 4]
 (sO [oJ 5 3 8,
 oA 5,
 oS 5 5 8]
 (sO [oF 4 5 9,
 oU (.store 1 (.t 9) (.c .aZ))]
 (.seq (sO [oF 4 3 10,
 oL 10 11,
 oZ 11 12,
 oP (.cB (kI 0)) 13]
 (.block 0 (.loop (sO [oE .lss 13 12 14]
 (.seq (.cond (.t 14)
 (.skip)
 (.exit 0))
 (.seq (.block 1 (sO [oI 5 11 13 15,
 oJ 5 15 16,
 oA 7,
 oS 5 7 16]
 (sO [oF 0 7 17,
 oL 17 18,
 oH .geq 18 20 19,
 oM 19 20,
 oG (.fieldAddr 0 (.t 7)) 21 20 true true,
 oG (.load none (.t 21)) 22 20 true false,
 oG (.bin .leq (.t 22) (kI 27)) 23 20 true true,
 oP (.pick (.t 20) (.t 23) (kB false)) 24,
 oC 45 [.t 24,kI 125] 25]
 (.fS 26 [oF 4 5 26,
 oQ (.cQ none (.t 26) (.t 5)) 27,
 oM 0 28,
 oJ 5 7 29,
 oQ (.callNe (.f 88) [(.t 28),(.t 29)] [(.t 5)]) 30,
 oP (.buildSlice 5 zN 1 [(0,(.t 30))] false) 31,
 oQ (.append 5 64 false (.t 27) (.t 31)) 32,
 oF 4 5 33,
 oS 1 33 32]))))
 (.ops [oH .add 13 1 34,
 oM 34 13])))))))
 (.seq (sO [oF 0 3 35,
 oL 35 36]
 (.block 2 (.seq (sO [oH .eql 36 20 58,
 oM 58 57]
 (.cond (.t 57)
 (.skip)
 (sO [oH .eql 36 21 59,
 oM 59 57]
 (.cond (.t 57)
 (.skip)
 (.ops [oH .eql 36 22 60,
 oM 60 57])))))
 (.cond (.t 57)
 (sO [oJ 5 3 61,
 oC 67 [.t 61,kI 0] 62]
 (.ops [oF 0 3 63,
 oL 63 64,
 oP (.bin .add (kI 1) (.t 64)) 65,
 oH .sub 65 20 66,
 oF 1 5 67,
 oS 1 67 66]))
 (sO [oH .eql 36 23 69,
 oM 69 68]
 (.cond (.t 68)
 (sO [oJ 5 3 70,
 oC 67 [.t 70,kI 0] 71]
 (.ops [oM 0 72,
 oF 2 3 73,
 oL 73 74,
 oC 107 [.t 72,.t 74] 75,
 oF 1 5 76,
 oS 1 76 75]))
 (sO [oH .eql 36 24 78,
 oM 78 77]
 (.cond (.t 77)
 (.ops [oM 0 79,
 oF 2 3 80,
 oL 80 81,
 oF 4 5 82,
 oL 82 83,
 oC 108 [.t 79,.t 81,.t 83] 84,
 oF 1 5 85,
 oS 1 85 84])
 (sO [oH .eql 36 27 87,
 oM 87 86]
 (.cond (.t 86)
 (sO [oJ 5 3 88,
 oC 67 [.t 88,kI 1] 89]
 (sO [oF 1 3 90,
 oL 90 91,
 oD 109 [.t 91] 92,
 oC 45 [.t 92,kI 125] 93]
 (.ops [oF 4 5 94,
 oL 94 95,
 oQ (.aS 5 (.t 95) (kI 0)) 96,
 oF 1 96 97,
 oL 97 98,
 oD 109 [.t 98] 99,
 oC 45 [.t 99,kI 122] 100])))
 (sO [oH .eql 36 25 102,
 oM 102 101]
 (.cond (.t 101)
 (sO [oJ 5 3 103,
 oC 67 [.t 103,kI 1] 104]
 (sO [oF 4 5 105,
 oL 105 106,
 oQ (.aS 5 (.t 106) (kI 0)) 107,
 oF 1 107 108,
 oL 108 109,
 oF 1 5 110,
 oS 1 110 109]
 (sO [oF 2 3 111,
 oL 111 112,
 oP (.bin .eql (.t 112) (kS [45])) 113,
 oM 113 114,
 oG (.fieldAddr 2 (.t 3)) 115 114 false true,
 oG (.load none (.t 115)) 116 114 false false,
 oG (.bin .eql (.t 116) (kS [33])) 117 114 false true,
 oP (.pick (.t 114) (kB true) (.t 117)) 118,
 oC 45 [.t 118,kI 125] 119]
 (.ops [oF 2 3 120,
 oL 120 121,
 oP (.bin .eql (.t 121) (kS [45])) 122,
 oM 122 123,
 oG (.fieldAddr 1 (.t 5)) 124 123 true true,
 oG (.load none (.t 124)) 125 123 true false,
 oG (.qcall (.f 109) [(.t 125)]) 126 123 true false,
 oP (.pick (.t 123) (.t 126) (kB false)) 127,
 oM 127 128,
 oG (.fieldAddr 2 (.t 3)) 129 128 false true,
 oG (.load none (.t 129)) 130 128 false false,
 oG (.bin .eql (.t 130) (kS [33])) 131 128 false true,
 oG (.cB (.t 131)) 132 128 false true,
 oG (.fieldAddr 1 (.t 5)) 133 132 true true,
 oG (.load none (.t 133)) 134 132 true false,
 oG (.bin .eql (.t 134) (kI 3)) 135 132 true true,
 oG (.pick (.t 132) (.t 135) (kB false)) 136 128 false true,
 oP (.pick (.t 128) (kB true) (.t 136)) 137,
 oC 45 [.t 137,kI 122] 138]))))
 (sO [oF 0 3 37,
 oL 37 38,
 oH .eql 38 26 39,
 oC 45 [.t 39,kI 125] 40]
 (sO [oJ 5 3 41,
 oC 67 [.t 41,kI 2] 42]
 (.fS 43 [oF 2 3 43,
 oL 43 44,
 oF 4 5 45,
 oL 45 46,
 oQ (.aS 5 (.t 46) (kI 0)) 47,
 oF 1 47 48,
 oL 48 49,
 oF 4 5 50,
 oL 50 51,
 oQ (.aS 5 (.t 51) (kI 1)) 52,
 oF 1 52 53,
 oL 53 54,
 oC 110 [.t 44,.t 49,.t 54] 55,
 oF 1 5 56,
 oS 1 56 55])))))))))))))))
 (sO [oJ 5 5 139,
 oS 5 4 139]
 (.ret))))))
theorem aj8:bA Tryz.prog 88 anq=some (ajm,[.cell 4 (some 5)],140):=by kernel_rfl
theorem lV {sz b r n:Nat} {xs:List (List D)} {y:List D} {h:aa} {K:D→aa→Prop} (LO:xs.length=n) (hr:n≠0→h.f r=some (.row sz (n+2) xs false)) (hy:y.length=sz∧y.all bX=true) (hb:0<b) (hn:(n+1)*b≤140737488355328)
  (hk:∀r',(n=0→h.f r'=none)→(n≠0→r'=r)→K (.row r' (n+1+2) 0 (n+1)) (h.set r' (.row sz (n+1+2) (xs++[y]) false))):BX sz b (fF r n) h K (some [y]):=by
 subst LO
 refine EM (fun h0=>hr (fun e=>h0 (List.length_eq_zero_iff.1 e))) hy hb hn fun r' a1 a2=>?_
 rw [bq (by omega)]
 exact hk r' (fun e=>a1 (List.length_eq_zero_iff.1 e)) (fun e=>a2 (fun e'=>e (by rw [e']; rfl)))
def Ext (h h':aa):Prop:=∀j,h.f j≠none→h'.f j=h.f j
theorem Ext.refl (h:aa):Ext h h:=fun _ _=>rfl
theorem Ext.sub {h h':aa} (e:Ext h h'):h.sub h':=fun j o hj=>by rw [e j (by rw [hj]; simp)]; exact hj
theorem Ext.set {h h':aa} (e:Ext h h') {i:Nat} {o:cJ} (n:h.f i=none):Ext h (h'.set i o):=fun j hj=>by
 have:j≠i:=fun x=>hj (by rw [x]; exact n)
 simp only [aa.b9,this,if_false]; exact e j hj
theorem Ext.none {h h':aa} (e:Ext h h') {i:Nat} (n:h'.f i=.none):h.f i=.none:=by
 by_cases c:h.f i=.none
 ·exact c
 ·rw [e i c] at n; exact n
theorem eO.ext {h h':aa} (e:Ext h h') {d:D} {xs:List (List D)} (r:eO h d xs):eO h' d xs:=by
 rcases r with r | ⟨r,v,du,h1,h2,h3⟩
 ·exact .inl r
 ·exact .inr ⟨r,v,du,h1,by rw [e r (by rw [h2]; simp)]; exact h2,h3⟩
theorem iI.ext {h h':aa} (e:Ext h h') {c:Nat} {p:Nd} {sc:dj} {dn dt:D} {ans:Int} (s:iI h c p sc dn dt ans):iI h' c p sc dn dt ans:=
 ⟨by rw [e c (by rw [s.obj]; simp)]; exact s.obj,s.nm.ext e,s.ty.ext e,s.ne⟩
def crN (r:CR Nd):CR D:=match r with
 | .ok x=>.ok (.agg x.enc)
 | .error e=>.error e
theorem eQ (x:Nd):crN (.ok x)=.ok (.agg x.enc):=rfl
theorem dh (e:Int):crN (.error e)=.error e:=rfl
theorem LA (ks:List Nd) (sc:dj):dA ks sc []=.ok []:=by rw [dA]
theorem Hf (ks:List Nd) (sc:dj) (x:Nd) (l:List Nd):dA ks sc (x::l)=if iQ x.kD then (match eh ks sc x with
  | .ok x'=>match dA ks sc l with
   | .ok l'=>.ok (x'::l')
   | .error e=>.error e
  | .error e=>.error e) else .error 125:=by rw [dA]; rfl
theorem U5 (ks:List Nd) (sc:dj) (k t:Int) (s:List UInt8) (n:Int) (l:List Nd):eh ks sc (.mk k t s n l)=match dA ks sc l with
  | .ok l'=>match lJ ks sc k t s l' with
   | .ok t'=>.ok (.mk k t' s n l')
   | .error e=>.error e
  | .error e=>.error e:=by rw [eh]; rfl
def ql (ks:List Nd) (sc:dj) (done l:List Nd):CR (List Nd):=match dA ks sc l with
 | .ok l'=>.ok (done++l')
 | .error e=>.error e
theorem KY (ks:List Nd) (sc:dj) (done:List Nd):ql ks sc done []=.ok done:=by rw [ql,LA]; simp
theorem Gq (ks:List Nd) (sc:dj) (done:List Nd) (x:Nd) (l:List Nd):ql ks sc done (x::l)=if iQ x.kD then (match eh ks sc x with
  | .ok x'=>ql ks sc (done++[x']) l
  | .error e=>.error e) else .error 125:=by
 rw [ql,Hf]
 cases iQ x.kD with
 | false=>rfl
 | true=>
  simp only [if_true]
  cases eh ks sc x with
  | error e=>rfl
  | ok x'=>
   simp only [ql]
   cases dA ks sc l with
   | error e=>rfl
   | ok l'=>simp
def MZ (G:Nat) (args:List D) (h:aa) (K E:D→aa→Prop):Prop:=∃(c:Nat) (p:Nd) (sc:dj) (dn dt:D) (ans:Int) (x:Nd),args=[.ptr c 1 0,.agg x.enc]∧iI h c p sc dn dt ans∧x.cI<G∧x.cI≤1000000∧Sf K E h (some (crN (eh p.lD sc x)))
theorem Lf (G:Nat) (args:List D) (h:aa) (K E K' E':D→aa→Prop) (hk:∀d h,K d h→K' d h) (he:∀d h,E d h→E' d h) (c:MZ G args h K E):MZ G args h K' E':=by
 obtain ⟨c,p,sc,dn,dt,ans,x,a,b,d,e,k⟩:=c
 exact ⟨c,p,sc,dn,dt,ans,x,a,b,d,e,kR hk he k⟩
def tbX (G:Nat):bh:=lC.gI 88 (MZ G) (Lf G)
theorem acE {G:Nat}:(tbX G).q=lC.q:=rfl
theorem acC {G:Nat}:(tbX G).a=lC.a:=rfl
theorem acD {G:Nat} (g:FuncId) (args:List D) (h:aa) (K E:D→aa→Prop):(tbX G).c g args h K E=if g=88 then MZ G args h K E else lC.c g args h K E:=rfl
theorem fp:type_of% (And.intro (And.intro @acE (And.intro @acC @acD)) @cd):=(And.intro (And.intro @acE (And.intro @acC @acD)) @cd)
theorem jl {K E:D→aa→Prop} {σ:Fr} {A h:aa} {a i2 r i:Nat} {k T n:Int} {s:List UInt8} {done:List Nd} (hσ:σ.env a=.ptr i2 1 0) (hA:A.f i2=some (.cells [.int .i64 k,.int .i64 T,.str s,.int .i64 n,fF r i]))
  (hd:done.length=i) (hr:i≠0→h.f r=none∧∃fz,A.f r=some (.row 5 (i+2) (Nd.bg done) fz)) (ext:Ext h A) (hk:K (.agg (Nd.enc (.mk k T s n done))) h):av [.cell a (some 5)] (cY.to K E) σ none A:=by
 refine ⟨[.agg [.int .i64 k,.int .i64 T,.str s,.int .i64 n,fF r i]],?_,.inr ⟨h,?_,?_⟩⟩
 ·simp [eI,hσ,fj,hA,iF]
 ·by_cases h0:i=0
  ·subst h0
   exact ext.sub
  ·have e:fQ A [.agg [.int .i64 k,.int .i64 T,.str s,.int .i64 n,fF r i]]=fh A r:=by rw [bq h0]; rfl
   rw [e]
   intro j o hj
   have iy:j≠r:=fun x=>by rw [x,(hr h0).1] at hj; cases hj
   rw [rU,if_neg iy]
   exact ext.sub j o hj
 ·show K (plain A (.agg [.int .i64 k,.int .i64 T,.str s,.int .i64 n,fF r i])) h
  have e:plain A (.agg [.int .i64 k,.int .i64 T,.str s,.int .i64 n,fF r i])=.agg (Nd.enc (.mk k T s n done)):=by
   rw [aB]
   by_cases h0:i=0
   ·subst h0
    have:done=[]:=List.length_eq_zero_iff.1 hd
    subst this
    rw [c_,bc]; rfl
   ·rw [bq h0]
    obtain ⟨fz,hf⟩:=(hr h0).2
    simp only [plain,List.map_cons,List.map_nil,hf]
    rw [if_pos ⟨trivial,by rw [aU,hd]; omega⟩,List.drop_zero,List.take_of_length_le (by rw [aU,hd]; omega)]
  rw [e]; exact hk
set_option maxHeartbeats 1000000 in
theorem CL (G:Nat) (hT:(tbX G).ok Tryz.prog) (c:Nat) (p:Nd) (sc:dj) (dn dt:D) (ans:Int) (x:Nd) (hx:x.cI<G+1) (hb:x.cI≤1000000) (h:aa) (hs:iI h c p sc dn dt ans) (K E:D→aa→Prop) (hk:Sf K E h (some (crN (eh p.lD sc x)))):aH Tryz.prog 88 [.ptr c 1 0,.agg x.enc] h (cY.to K E):=by
 refine aH.cv hT (dc:=cy.none) (fun _ _=>cy.cX) (by kernel_rfl) aj8 (by simp) ?_
 rw [cA]
 obtain ⟨k,t,s,n,l⟩:=x
 have lQ:∀y∈l,y.cI<G∧y.cI≤1000000:=fun y hy=>by have:=jQ (k:=k) (t:=t) (s:=s) (n:=n) hy; omega
 have tg:l.length≤1000000:=by rw [bd] at hb; have:=jk l; omega
 rw [U5] at hk
 rw [aB]
 simp (maxSteps:=1000000) only [ajm,fp,cd,aA,seval]
 intro i1 k1 i2 n1 n2 k2
 simp (maxSteps:=1000000) only [n1,n2,fp,cd,aA,seval]
 intro i3 m1 m2 m3 m4 k3
 simp (maxSteps:=1000000) only [n1,n2,m1,m2,m3,m4,aU,fp,cd,aA,seval]
 intro _
 refine cj (X:=Nat×Nat×List Nd×aa) (fun z=>[(0,.ptr c 1 0),(3,.ptr i1 1 0),(4,.ptr i2 1 0),(5,.ptr i3 1 0),(11,.sl (Nd.bg l)),(12,.int .i64 l.length),(13,.int .i64 z.1)]) (fun z=>z.2.2.2) (fun z=>l.length - z.1)
  (fun z=>z.1≤l.length∧z.2.2.2.f i1=some (.cells [.int .i64 k,.int .i64 t,.str s,.int .i64 n,.sl (Nd.bg l)])∧z.2.2.2.f i2=some (.cells [.int .i64 0,.int .i64 0,.str [],.int .i64 0,.aZ])∧
   z.2.2.2.f i3=some (.cells [.int .i64 k,.int .i64 t,.str s,.int .i64 n,fF z.2.1 z.1])∧z.2.2.1.length=z.1∧
   (z.1≠0→z.2.1≠i1∧z.2.1≠i2∧z.2.1≠i3∧h.f z.2.1=none∧z.2.2.2.f z.2.1=some (.row 5 (z.1+2) (Nd.bg z.2.2.1) false))∧Ext h z.2.2.2∧dA p.lD sc l=ql p.lD sc z.2.2.1 (l.drop z.1)) (0,0,[],_) ⟨Nat.zero_le _,?_,?_,?_,rfl,fun h=>absurd rfl h,?_,?_⟩ ?_ (aa.aj _) ?_
 ·simp [n1,n2,m1,m2,m3,m4]
 ·simp [n1,n2,m1,m2,m3,m4]
 ·simp [n1,n2,m1,m2,m3,m4,c_]
 ·intro j hj
  have e1:¬j=i1:=fun e=>hj (by rw [e]; exact k1)
  have e2:¬j=i2:=fun e=>hj (by rw [e]; exact k2)
  have e3:¬j=i3:=fun e=>hj (by rw [e]; exact k3)
  simp [e1,e2,e3]
 ·rw [List.drop_zero,ql]
  cases dA p.lD sc l<;>rfl
 ·simp only [aA,seval]
 rintro ⟨i,r,done,hh⟩ Q ⟨j0,v1,v2,v3,vd,vr,vo,va⟩ hQ
 simp only at j0 v1 v2 v3 vd vr vo va hQ ⊢
 cases iJ:decide (i<l.length) with
 | true=>
  have iJ:i<l.length:=by simpa using iJ
  obtain ⟨y,hy⟩:∃y,l[i]? =some y:=⟨_,List.getElem?_eq_getElem iJ⟩
  have g:((i:Int)<(l.length:Int))=True:=eq_true (by omega)
  have Au:y∈l:=List.mem_of_getElem? hy
  have wi:IntKind.i64.wrap ((i:Int)+1)=((i+1:Nat):Int):=cp (by omega)
  have ie:∀(K:D→aa→Prop) (h:aa),fx 5 K h (Nd.bg l) (i:Int)=K (.cO y.enc 0) h:=fun K h=>cG hy
  obtain ⟨al7,al8⟩:=lQ y Au
  rw [iP hy,Gq] at va
  obtain ⟨yk,yt,yx,ym,yl⟩:=y
  rw [aB] at ie
  simp (maxSteps:=1000000) only [g,v1,v2,v3,ie,fp,cd,aA,seval]
  intro i7 k7
  have gW:∀{q:Nat} {o:cJ},hh.f q=some o→¬i7=q:=fun hq e=>by rw [e,hq] at k7; cases k7
  have Cb:=gW v1
  have wP:=gW v2
  have Ik:=gW v3
  have qT:¬i1=i7:=fun e=>Cb e.symm
  have oB:¬i2=i7:=fun e=>wP e.symm
  have qU:¬i3=i7:=fun e=>Ik e.symm
  have Su:∀o,Ext h (hh.set i7 o):=fun o=>vo.set (vo.none k7)
  by_cases nj:20≤yk
  ·have g1:(yk≥20)=True:=eq_true nj
   by_cases nn:yk≤27
   ·have hE:iQ (Nd.mk yk yt yx ym yl).kD=true:=by simp [Nd.kD,iQ,nj,nn]
    have g2:decide (yk≤27)=true:=by simp [nn]
    rw [if_pos hE] at va
    simp (maxSteps:=1000000) only [g1,g2,bz,cE,aW,cond_true,v1,v2,v3,Cb,wP,Ik,qT,oB,qU,fp,cd,aA,seval]
    refine ⟨c,p,sc,dn,dt,ans,.mk yk yt yx ym yl,by rw [aB],hs.ext (Su _),al7,al8,?_⟩
    cases he:eh p.lD sc (.mk yk yt yx ym yl) with
    | error e=>
     rw [he] at va
     simp only at va
     rw [va] at hk
     simp only [dh,aE] at hk ⊢
     intro σ hσ _
     simp only [aX]
     rw [hσ]
     simp only [ab,av]
     exact ⟨h,(Su _).sub,hk⟩
    | ok y'=>
     rw [he] at va
     simp only at va
     simp (maxSteps:=1000000) only [eQ,aW,qU,v3,ah,au,aC,fp,cd,aA,seval]
     have LO:(Nd.bg done).length=i:=by rw [aU,vd]
     refine lV (b:=64) LO (fun h0=>?_) ⟨au y',aC y'⟩ (by omega) (by omega) fun r' a1 a2=>?_
     ·have e:¬r=i7:=fun e=>gW (vr h0).2.2.2.2 e.symm
      rw [aa.b9,if_neg e]
      exact (vr h0).2.2.2.2
     have a3:r'≠i1∧r'≠i2∧r'≠i3∧h.f r'=none:=by
      by_cases h0:i=0
      ·have:=a1 h0
       refine ⟨fun e=>?_,fun e=>?_,fun e=>?_,(Su _).none this⟩
       ·subst e; simp [qT,v1] at this
       ·subst e; simp [oB,v2] at this
       ·subst e; simp [qU,v3] at this
      ·rw [a2 h0]; exact ⟨(vr h0).1,(vr h0).2.1,(vr h0).2.2.1,(vr h0).2.2.2.1⟩
     obtain ⟨r1,r2,r3,r4⟩:=a3
     have nU:¬i1=r':=fun e=>r1 e.symm
     have oT:¬i2=r':=fun e=>r2 e.symm
     have uB:¬i3=r':=fun e=>r3 e.symm
     simp (maxSteps:=1000000) only [v1,v2,v3,Cb,wP,Ik,qT,oB,qU,r1,r2,r3,nU,oT,uB,wi,fp,cd,aA,seval]
     refine hQ (i+1,r',done++[y'],_) _ _ ⟨iJ,?_,?_,?_,?_,fun _=>⟨r1,r2,r3,r4,?_⟩,?_,va⟩ (by simp only [bq (Nat.succ_ne_zero i),aA,seval]) (aa.aj _) (by simp only; omega)
     ·simp [nU,qT,v1,n1,n2,m1,m2,m3,m4]
     ·simp [oT,oB,v2,n1,n2,m1,m2,m3,m4]
     ·simp [bq (Nat.succ_ne_zero i)]
     ·simp [vd]
     ·simp [r3,uB,fE]
     ·exact ((Su _).set r4).set k3
   ·have hE:iQ (Nd.mk yk yt yx ym yl).kD=false:=by simp [Nd.kD,iQ,nn]
    have g2:decide (yk≤27)=false:=by simp [nn]
    rw [if_neg (by rw [hE]; simp)] at va
    rw [va] at hk
    simp only [dh,aE] at hk
    simp (maxSteps:=1000000) only [g1,g2,bz,cE,aE,cond_false,aX,ab,av,aA,seval]
    exact ⟨h,(Su _).sub,hk⟩
  ·have g1:(yk≥20)=False:=eq_false nj
   have hE:iQ (Nd.mk yk yt yx ym yl).kD=false:=by simp [Nd.kD,iQ,nj]
   rw [if_neg (by rw [hE]; simp)] at va
   rw [va] at hk
   simp only [dh,aE] at hk
   simp (maxSteps:=1000000) only [g1,bz,cE,aE,cond_false,aX,ab,av,aA,seval]
   exact ⟨h,(Su _).sub,hk⟩
 | false=>
  have e0:i=l.length:=by simp at iJ; omega
  have g:((i:Int)<(l.length:Int))=False:=eq_false (by omega)
  rw [List.drop_eq_nil_of_le (by omega),KY] at va
  rw [va] at hk
  simp only at hk
  unfold lJ at hk
  have hdl:done.length=l.length:=by rw [vd,e0]
  have B8:bX (fF r i)=true:=by unfold fF; split<;>rfl
  cases Dm:(k==20) with
  | true=>
   simp only [Dm,Bool.true_or,Bool.or_true,if_true] at hk
   simp (maxSteps:=1000000) only [Dm,g,v1,v2,v3,n1,n2,m1,m2,m3,m4,B8,fp,cd,aA,seval]
   refine ⟨.mk k t s n l,0,by rw [aB],?_⟩
   simp only [Nd.lD]
   cases cl:(done.length==0) with
   | false=>
    have hJ:((l.length:Int)==0)=false:=beq_eq_false_iff_ne.2 (by have:=beq_eq_false_iff_ne.1 cl; omega)
    rw [cl] at hk
    simp only [Bool.false_eq_true,if_false,dh,aE] at hk
    simp (maxSteps:=1000000) only [hJ,cond_false,aX,ab,av,aA,seval]
    exact ⟨h,vo.sub,hk⟩
   | true=>
    have hJ:((l.length:Int)==0)=true:=beq_iff_eq.2 (by have:=beq_iff_eq.1 cl; omega)
    rw [cl] at hk
    simp only [if_true] at hk
    simp only [eQ,aW] at hk
    obtain rfl:k=20:=beq_iff_eq.1 Dm
    have w:IntKind.i64.wrap (IntKind.i64.wrap 21 - 20)=1:=by decide
    simp (maxSteps:=1000000) only [hJ,cond_true,af,ab,v1,v2,v3,n1,n2,m1,m2,m3,m4,B8,fp,cd,aA,seval]
    exact jl (i2:=i2) (done:=done) (by simp only [aA,seval]) (by simp only [w,aA,seval]) vd (fun h0=>⟨(vr h0).2.2.2.1,false,by simp [(vr h0).1,(vr h0).2.1,(vr h0).2.2.1,(vr h0).2.2.2.2]⟩) ((vo.set k3).set k2) hk
  | false=>
   cases Ge:(k==21) with
   | true=>
    simp only [Dm,Ge,Bool.true_or,Bool.or_true,if_true] at hk
    simp (maxSteps:=1000000) only [Dm,Ge,g,v1,v2,v3,n1,n2,m1,m2,m3,m4,B8,fp,cd,aA,seval]
    refine ⟨.mk k t s n l,0,by rw [aB],?_⟩
    simp only [Nd.lD]
    cases cl:(done.length==0) with
    | false=>
     have hJ:((l.length:Int)==0)=false:=beq_eq_false_iff_ne.2 (by have:=beq_eq_false_iff_ne.1 cl; omega)
     rw [cl] at hk
     simp only [Bool.false_eq_true,if_false,dh,aE] at hk
     simp (maxSteps:=1000000) only [hJ,cond_false,aX,ab,av,aA,seval]
     exact ⟨h,vo.sub,hk⟩
    | true=>
     have hJ:((l.length:Int)==0)=true:=beq_iff_eq.2 (by have:=beq_iff_eq.1 cl; omega)
     rw [cl] at hk
     simp only [if_true] at hk
     simp only [eQ,aW] at hk
     obtain rfl:k=21:=beq_iff_eq.1 Ge
     have w:IntKind.i64.wrap (IntKind.i64.wrap 22 - 20)=2:=by decide
     simp (maxSteps:=1000000) only [hJ,cond_true,af,ab,v1,v2,v3,n1,n2,m1,m2,m3,m4,B8,fp,cd,aA,seval]
     exact jl (i2:=i2) (done:=done) (by simp only [aA,seval]) (by simp only [w,aA,seval]) vd (fun h0=>⟨(vr h0).2.2.2.1,false,by simp [(vr h0).1,(vr h0).2.1,(vr h0).2.2.1,(vr h0).2.2.2.2]⟩) ((vo.set k3).set k2) hk
   | false=>
    cases KL:(k==22) with
    | true=>
     simp only [Dm,Ge,KL,Bool.true_or,Bool.or_true,if_true] at hk
     simp (maxSteps:=1000000) only [Dm,Ge,KL,g,v1,v2,v3,n1,n2,m1,m2,m3,m4,B8,fp,cd,aA,seval]
     refine ⟨.mk k t s n l,0,by rw [aB],?_⟩
     simp only [Nd.lD]
     cases cl:(done.length==0) with
     | false=>
      have hJ:((l.length:Int)==0)=false:=beq_eq_false_iff_ne.2 (by have:=beq_eq_false_iff_ne.1 cl; omega)
      rw [cl] at hk
      simp only [Bool.false_eq_true,if_false,dh,aE] at hk
      simp (maxSteps:=1000000) only [hJ,cond_false,aX,ab,av,aA,seval]
      exact ⟨h,vo.sub,hk⟩
     | true=>
      have hJ:((l.length:Int)==0)=true:=beq_iff_eq.2 (by have:=beq_iff_eq.1 cl; omega)
      rw [cl] at hk
      simp only [if_true] at hk
      simp only [eQ,aW] at hk
      obtain rfl:k=22:=beq_iff_eq.1 KL
      have w:IntKind.i64.wrap (IntKind.i64.wrap 23 - 20)=3:=by decide
      simp (maxSteps:=1000000) only [hJ,cond_true,af,ab,v1,v2,v3,n1,n2,m1,m2,m3,m4,B8,fp,cd,aA,seval]
      exact jl (i2:=i2) (done:=done) (by simp only [aA,seval]) (by simp only [w,aA,seval]) vd (fun h0=>⟨(vr h0).2.2.2.1,false,by simp [(vr h0).1,(vr h0).2.1,(vr h0).2.2.1,(vr h0).2.2.2.2]⟩) ((vo.set k3).set k2) hk
    | false=>
     cases SD:(k==23) with
     | true=>
      simp only [Dm,Ge,KL,SD,Bool.or_false,Bool.false_or,Bool.false_eq_true,if_false,if_true] at hk
      simp (maxSteps:=1000000) only [Dm,Ge,KL,SD,g,v1,v2,v3,n1,n2,m1,m2,m3,m4,B8,fp,cd,aA,seval]
      refine ⟨.mk k t s n l,0,by rw [aB],?_⟩
      simp only [Nd.lD]
      cases cl:(done.length==0) with
      | false=>
       have hJ:((l.length:Int)==0)=false:=beq_eq_false_iff_ne.2 (by have:=beq_eq_false_iff_ne.1 cl; omega)
       rw [cl] at hk
       simp only [Bool.false_eq_true,if_false,dh,aE] at hk
       simp (maxSteps:=1000000) only [hJ,cond_false,aX,ab,av,aA,seval]
       exact ⟨h,vo.sub,hk⟩
      | true=>
       have hJ:((l.length:Int)==0)=true:=beq_iff_eq.2 (by have:=beq_iff_eq.1 cl; omega)
       rw [cl] at hk
       simp only [if_true] at hk
       simp (maxSteps:=1000000) only [hJ,cond_true,v1,v2,v3,n1,n2,m1,m2,m3,m4,B8,fp,cd,aA,seval]
       refine ⟨c,p,sc,dn,dt,ans,s,rfl,hs.ext vo,?_⟩
       cases hv:mQ p.lD sc s with
       | error e=>
        rw [hv] at hk
        simp only [dh,cR,aE] at hk ⊢
        simp only [aX,ab,av]
        exact ⟨h,vo.sub,hk⟩
       | ok t'=>
        rw [hv] at hk
        simp only [eQ,dW,aW] at hk ⊢
        simp (maxSteps:=1000000) only [af,ab,v1,v2,v3,n1,n2,m1,m2,m3,m4,B8,fp,cd,aA,seval]
        exact jl (i2:=i2) (done:=done) (by simp only [aA,seval]) (by simp only [aA,seval]) vd (fun h0=>⟨(vr h0).2.2.2.1,false,by simp [(vr h0).1,(vr h0).2.1,(vr h0).2.2.1,(vr h0).2.2.2.2]⟩) ((vo.set k3).set k2) hk
     | false=>
      cases VG:(k==24) with
      | true=>
       simp only [Dm,Ge,KL,SD,VG,Bool.or_false,Bool.false_or,Bool.false_eq_true,if_false,if_true] at hk
       by_cases h0:i=0
       ·have hd0:done=[]:=List.length_eq_zero_iff.1 (by rw [vd,h0])
        subst hd0
        rw [h0,c_] at v3
        simp (maxSteps:=1000000) only [Dm,Ge,KL,SD,VG,g,v1,v2,v3,n1,n2,m1,m2,m3,m4,B8,fp,cd,aA,seval]
        refine ⟨c,p,sc,dn,dt,ans,s,[],by rw [bc],hs.ext vo,?_⟩
        cases hv:pU p.lD s [] with
        | error e=>
         rw [hv] at hk
         simp only [dh,cR,aE] at hk ⊢
         simp only [aX,ab,av]
         exact ⟨h,vo.sub,hk⟩
        | ok t'=>
         rw [hv] at hk
         simp only [eQ,dW,aW] at hk ⊢
         simp (maxSteps:=1000000) only [af,ab,v1,v2,v3,n1,n2,m1,m2,m3,m4,B8,fp,cd,aA,seval]
         exact jl (i2:=i2) (r:=r) (i:=0) (done:=[]) (by simp only [aA,seval]) (by simp only [c_,aA,seval]) rfl (fun h0=>absurd rfl h0) ((vo.set k3).set k2) hk
       ·obtain ⟨r1,r2,r3,r4,As⟩:=vr h0
        have nU:¬i1=r:=fun e=>r1 e.symm
        have oT:¬i2=r:=fun e=>r2 e.symm
        have uB:¬i3=r:=fun e=>r3 e.symm
        rw [bq h0] at v3
        have hle:(i≤(Nd.bg done).length)=True:=eq_true (by rw [aU,vd]; omega)
        have Sz:List.take i (Nd.bg done)=Nd.bg done:=List.take_of_length_le (by rw [aU,vd]; omega)
        simp (maxSteps:=1000000) only [Dm,Ge,KL,SD,VG,g,hle,Sz,v1,v2,v3,As,r1,r2,r3,nU,oT,uB,n1,n2,m1,m2,m3,m4,fp,cd,aA,seval]
        refine ⟨c,p,sc,dn,dt,ans,s,done,rfl,hs.ext (vo.set r4),?_⟩
        cases hv:pU p.lD s done with
        | error e=>
         rw [hv] at hk
         simp only [dh,cR,aE] at hk ⊢
         simp only [aX,ab,av]
         exact ⟨h,(vo.set r4).sub,hk⟩
        | ok t'=>
         rw [hv] at hk
         simp only [eQ,dW,aW] at hk ⊢
         simp (maxSteps:=1000000) only [af,ab,v1,v2,v3,As,r1,r2,r3,nU,oT,uB,n1,n2,m1,m2,m3,m4,fp,cd,aA,seval]
         exact jl (i2:=i2) (r:=r) (i:=i) (done:=done) (by simp only [aA,seval]) (by simp only [bq h0,aA,seval]) vd (fun _=>⟨r4,true,by simp [r1,r2,r3]⟩) (((vo.set r4).set k3).set k2) hk
      | false=>
       cases k27:(k==27) with
       | true=>
        simp only [Dm,Ge,KL,SD,VG,k27,Bool.or_false,Bool.false_or,Bool.false_eq_true,if_false,if_true] at hk
        simp (maxSteps:=1000000) only [Dm,Ge,KL,SD,VG,k27,g,v1,v2,v3,n1,n2,m1,m2,m3,m4,B8,fp,cd,aA,seval]
        refine ⟨.mk k t s n l,1,by rw [aB],?_⟩
        simp only [Nd.lD]
        cases cl:(done.length==1) with
        | false=>
         have hJ:((l.length:Int)==1)=false:=beq_eq_false_iff_ne.2 (by have:=beq_eq_false_iff_ne.1 cl; omega)
         have hk:E (ft 125) h:=by
          match done,cl,hk with
          | [],_,hk=>exact hk
          | [_],cl,_=>cases cl
          | _::_::_,_,hk=>exact hk
         simp (maxSteps:=1000000) only [hJ,cond_false,aX,ab,av,aA,seval]
         exact ⟨h,vo.sub,hk⟩
        | true=>
         have hJ:((l.length:Int)==1)=true:=beq_iff_eq.2 (by have:=beq_iff_eq.1 cl; omega)
         obtain ⟨x0,LG⟩:∃x0,done=[x0]:=by
          match done,cl with
          | [x0],_=>exact ⟨x0,rfl⟩
         subst LG
         have vd':1=i:=vd
         subst vd'
         have h0:(1:Nat)≠0:=by decide
         obtain ⟨r1,r2,r3,r4,As⟩:=vr h0
         have Sy:=As
         have nU:¬i1=r:=fun e=>r1 e.symm
         have oT:¬i2=r:=fun e=>r2 e.symm
         have uB:¬i3=r:=fun e=>r3 e.symm
         rw [bq h0] at v3
         obtain ⟨xk,xt,xs,xn,xl⟩:=x0
         simp only [bO,bc,aB] at As
         simp only [Nd.tD] at hk
         simp (maxSteps:=1000000) only [hJ,cond_true,eT,v1,fp,cd,aA,seval]
         cases d1:mO t with
         | false=>
          simp only [d1,Bool.or_false,Bool.false_or,Bool.or_true,Bool.true_or,Bool.and_true,Bool.true_and,Bool.and_false,Bool.false_and,Bool.false_eq_true,if_false,if_true,eQ,dh,aW,aE] at hk
          simp (maxSteps:=1000000) only [d1,bz,cE,aE,cond_false,aX,ab,av,aA,seval]
          exact ⟨h,vo.sub,hk⟩
         | true=>
          simp (maxSteps:=1000000) only [d1,bz,cE,aW,cond_true,eT,v1,v2,v3,As,r1,r2,r3,nU,oT,uB,n1,n2,m1,m2,m3,m4,fp,cd,aA,seval]
          cases d2:mO xt with
          | false=>
           simp only [d1,d2,Bool.or_false,Bool.false_or,Bool.or_true,Bool.true_or,Bool.and_true,Bool.true_and,Bool.and_false,Bool.false_and,Bool.false_eq_true,if_false,if_true,eQ,dh,aW,aE] at hk
           simp (maxSteps:=1000000) only [d2,bz,cE,aE,cond_false,aX,ab,av,aA,seval]
           exact ⟨h,vo.sub,hk⟩
          | true=>
           simp only [d1,d2,Bool.or_false,Bool.false_or,Bool.or_true,Bool.true_or,Bool.and_true,Bool.true_and,Bool.and_false,Bool.false_and,Bool.false_eq_true,if_false,if_true,eQ,dh,aW,aE] at hk
           simp (maxSteps:=1000000) only [d2,bz,cE,aW,cond_true,af,ab,v1,v2,v3,As,r1,r2,r3,nU,oT,uB,n1,n2,m1,m2,m3,m4,fp,cd,aA,seval]
           exact jl (i2:=i2) (r:=r) (i:=1) (done:=_) (by simp only [aA,seval]) (by simp only [bq h0,aA,seval]) vd (fun _=>⟨r4,false,by simp [r1,r2,r3,Sy]⟩) (vo.set k2) hk
       | false=>
        cases k25:(k==25) with
        | true=>
         simp only [Dm,Ge,KL,SD,VG,k27,k25,Bool.or_false,Bool.false_or,Bool.false_eq_true,if_false,if_true] at hk
         simp (maxSteps:=1000000) only [Dm,Ge,KL,SD,VG,k27,k25,g,v1,v2,v3,n1,n2,m1,m2,m3,m4,B8,fp,cd,aA,seval]
         refine ⟨.mk k t s n l,1,by rw [aB],?_⟩
         simp only [Nd.lD]
         cases cl:(done.length==1) with
         | false=>
          have hJ:((l.length:Int)==1)=false:=beq_eq_false_iff_ne.2 (by have:=beq_eq_false_iff_ne.1 cl; omega)
          have hk:E (ft 125) h:=by
           match done,cl,hk with
           | [],_,hk=>exact hk
           | [_],cl,_=>cases cl
           | _::_::_,_,hk=>exact hk
          simp (maxSteps:=1000000) only [hJ,cond_false,aX,ab,av,aA,seval]
          exact ⟨h,vo.sub,hk⟩
         | true=>
          have hJ:((l.length:Int)==1)=true:=beq_iff_eq.2 (by have:=beq_iff_eq.1 cl; omega)
          obtain ⟨x0,LG⟩:∃x0,done=[x0]:=by
           match done,cl with
           | [x0],_=>exact ⟨x0,rfl⟩
          subst LG
          have vd':1=i:=vd
          subst vd'
          have h0:(1:Nat)≠0:=by decide
          obtain ⟨r1,r2,r3,r4,As⟩:=vr h0
          have Sy:=As
          have nU:¬i1=r:=fun e=>r1 e.symm
          have oT:¬i2=r:=fun e=>r2 e.symm
          have uB:¬i3=r:=fun e=>r3 e.symm
          rw [bq h0] at v3
          obtain ⟨xk,xt,xs,xn,xl⟩:=x0
          simp only [bO,bc,aB] at As
          simp only [Nd.tD] at hk
          have eB:∀o,Ext h (hh.set i3 o):=fun o=>vo.set k3
          cases d1:(s==([45]:List UInt8)) with
          | true=>
           cases d2:(s==([33]:List UInt8)) with
           | true=>exact absurd ((beq_iff_eq.1 d1).symm.trans (beq_iff_eq.1 d2)) (by decide)
           | false=>
            cases d3:mO xt with
            | false=>
             simp only [d1,d2,d3,Bool.or_false,Bool.false_or,Bool.or_true,Bool.true_or,Bool.and_true,Bool.true_and,Bool.and_false,Bool.false_and,Bool.false_eq_true,if_false,if_true,eQ,dh,aW,aE] at hk
             simp (maxSteps:=1000000) only [d1,d2,d3,hJ,bz,cE,eT,aW,aE,cond_true,cond_false,aX,ab,av,v1,v2,v3,As,r1,r2,r3,nU,oT,uB,n1,n2,m1,m2,m3,m4,fp,cd,aA,seval]
             exact ⟨h,(eB _).sub,hk⟩
            | true=>
             simp only [d1,d2,d3,Bool.or_false,Bool.false_or,Bool.or_true,Bool.true_or,Bool.and_true,Bool.true_and,Bool.and_false,Bool.false_and,Bool.false_eq_true,if_false,if_true,eQ,dh,aW,aE] at hk
             simp (maxSteps:=1000000) only [d1,d2,d3,hJ,bz,cE,eT,aW,aE,cond_true,cond_false,af,ab,v1,v2,v3,As,r1,r2,r3,nU,oT,uB,n1,n2,m1,m2,m3,m4,fp,cd,aA,seval]
             exact jl (i2:=i2) (r:=r) (i:=1) (done:=_) (by simp only [aA,seval]) (by simp only [bq h0,aA,seval]) vd (fun _=>⟨r4,false,by simp [r1,r2,r3,Sy]⟩) ((vo.set k3).set k2) hk
          | false=>
           cases d2:(s==([33]:List UInt8)) with
           | true=>
            cases d3:(xt==3) with
            | false=>
             simp only [d1,d2,d3,Bool.or_false,Bool.false_or,Bool.or_true,Bool.true_or,Bool.and_true,Bool.true_and,Bool.and_false,Bool.false_and,Bool.false_eq_true,if_false,if_true,eQ,dh,aW,aE] at hk
             simp (maxSteps:=1000000) only [d1,d2,d3,hJ,bz,cE,eT,aW,aE,cond_true,cond_false,aX,ab,av,v1,v2,v3,As,r1,r2,r3,nU,oT,uB,n1,n2,m1,m2,m3,m4,fp,cd,aA,seval]
             exact ⟨h,(eB _).sub,hk⟩
            | true=>
             simp only [d1,d2,d3,Bool.or_false,Bool.false_or,Bool.or_true,Bool.true_or,Bool.and_true,Bool.true_and,Bool.and_false,Bool.false_and,Bool.false_eq_true,if_false,if_true,eQ,dh,aW,aE] at hk
             simp (maxSteps:=1000000) only [d1,d2,d3,hJ,bz,cE,eT,aW,aE,cond_true,cond_false,af,ab,v1,v2,v3,As,r1,r2,r3,nU,oT,uB,n1,n2,m1,m2,m3,m4,fp,cd,aA,seval]
             exact jl (i2:=i2) (r:=r) (i:=1) (done:=_) (by simp only [aA,seval]) (by simp only [bq h0,aA,seval]) vd (fun _=>⟨r4,false,by simp [r1,r2,r3,Sy]⟩) ((vo.set k3).set k2) hk
           | false=>
            simp only [d1,d2,Bool.or_false,Bool.false_or,Bool.or_true,Bool.true_or,Bool.and_true,Bool.true_and,Bool.and_false,Bool.false_and,Bool.false_eq_true,if_false,if_true,eQ,dh,aW,aE] at hk
            simp (maxSteps:=1000000) only [d1,d2,hJ,bz,cE,eT,aW,aE,cond_true,cond_false,aX,ab,av,v1,v2,v3,As,r1,r2,r3,nU,oT,uB,n1,n2,m1,m2,m3,m4,fp,cd,aA,seval]
            exact ⟨h,(eB _).sub,hk⟩
        | false=>
         cases k26:(k==26) with
         | false=>
          simp only [Dm,Ge,KL,SD,VG,k27,k25,k26,Bool.or_false,Bool.false_or,Bool.or_true,Bool.true_or,Bool.and_true,Bool.true_and,Bool.and_false,Bool.false_and,Bool.false_eq_true,if_false,if_true,eQ,dh,aW,aE] at hk
          simp (maxSteps:=1000000) only [Dm,Ge,KL,SD,VG,k27,k25,k26,g,bz,cE,aE,cond_false,aX,ab,av,v1,v2,v3,n1,n2,m1,m2,m3,m4,B8,fp,cd,aA,seval]
          exact ⟨h,vo.sub,hk⟩
         | true=>
          simp only [Dm,Ge,KL,SD,VG,k27,k25,k26,Bool.or_false,Bool.false_or,Bool.false_eq_true,if_false,if_true] at hk
          simp (maxSteps:=1000000) only [Dm,Ge,KL,SD,VG,k27,k25,k26,g,bz,cE,aW,cond_true,v1,v2,v3,n1,n2,m1,m2,m3,m4,B8,fp,cd,aA,seval]
          refine ⟨.mk k t s n l,2,by rw [aB],?_⟩
          simp only [Nd.lD]
          cases cl:(done.length==2) with
          | false=>
           have hJ:((l.length:Int)==2)=false:=beq_eq_false_iff_ne.2 (by have:=beq_eq_false_iff_ne.1 cl; omega)
           have hk:E (ft 125) h:=by
            match done,cl,hk with
            | [],_,hk=>exact hk
            | [_],_,hk=>exact hk
            | [_,_],cl,_=>cases cl
            | _::_::_::_,_,hk=>exact hk
           simp (maxSteps:=1000000) only [hJ,cond_false,aX,ab,av,aA,seval]
           exact ⟨h,vo.sub,hk⟩
          | true=>
           have hJ:((l.length:Int)==2)=true:=beq_iff_eq.2 (by have:=beq_iff_eq.1 cl; omega)
           obtain ⟨x0,y0,LG⟩:∃x0 y0,done=[x0,y0]:=by
            match done,cl with
            | [x0,y0],_=>exact ⟨x0,y0,rfl⟩
           subst LG
           have vd':2=i:=vd
           subst vd'
           have h0:(2:Nat)≠0:=by decide
           obtain ⟨r1,r2,r3,r4,As⟩:=vr h0
           have Sy:=As
           have nU:¬i1=r:=fun e=>r1 e.symm
           have oT:¬i2=r:=fun e=>r2 e.symm
           have uB:¬i3=r:=fun e=>r3 e.symm
           rw [bq h0] at v3
           obtain ⟨xk,xt,xs,xn,xl⟩:=x0
           obtain ⟨yk,yt,ys,yn,yl⟩:=y0
           simp only [bO,bc,aB] at As
           simp only [Nd.tD] at hk
           simp (maxSteps:=1000000) only [hJ,cond_true,v1,v2,v3,As,r1,r2,r3,nU,oT,uB,n1,n2,m1,m2,m3,m4,fp,cd,aA,seval]
           simp only [Lb,V_]
           cases hv:vi s xt yt with
           | error e=>
            rw [hv] at hk
            simp only [dh,cR,aE] at hk ⊢
            intro σ hσ _
            simp only [aX]
            rw [hσ]
            simp only [ab,av]
            exact ⟨h,vo.sub,hk⟩
           | ok t'=>
            rw [hv] at hk
            simp only [eQ,dW,aW] at hk ⊢
            simp (maxSteps:=1000000) only [af,ab,v1,v2,v3,As,r1,r2,r3,nU,oT,uB,n1,n2,m1,m2,m3,m4,fp,cd,aA,seval]
            exact jl (i2:=i2) (r:=r) (i:=2) (done:=_) (by simp only [aA,seval]) (by simp only [bq h0,aA,seval]) vd (fun _=>⟨r4,false,by simp [r1,r2,r3,Sy]⟩) ((vo.set k3).set k2) hk
theorem X7:∀G,(tbX G).ok Tryz.prog
 | 0=>bh.bQ wb fun args h K E ⟨c,p,sc,dn,dt,ans,x,a,b,d,e,k⟩=>absurd d (Nat.not_lt_zero _)
 | G+1=>bh.bQ wb fun args h K E ⟨c,p,sc,dn,dt,ans,x,a,b,d,e,k⟩=>by
  subst a
  exact CL G (X7 G) c p sc dn dt ans x d e h b K E k
def cEx (args:List D) (h:aa) (K E:D→aa→Prop):Prop:=∃(c:Nat) (p:Nd) (sc:dj) (dn dt:D) (ans:Int) (x:Nd),args=[.ptr c 1 0,.agg x.enc]∧iI h c p sc dn dt ans∧x.cI≤1000000∧Sf K E h (some (crN (eh p.lD sc x)))
theorem Ua (args:List D) (h:aa) (K E K' E':D→aa→Prop) (hk:∀d h,K d h→K' d h) (he:∀d h,E d h→E' d h) (c:cEx args h K E):cEx args h K' E':=by
 obtain ⟨c,p,sc,dn,dt,ans,x,a,b,e,k⟩:=c
 exact ⟨c,p,sc,dn,dt,ans,x,a,b,e,kR hk he k⟩
theorem adA (args:List D) (h:aa) (K E:D→aa→Prop) (c:cEx args h K E):aH Tryz.prog 88 args h (cY.to K E):=by
 obtain ⟨c,p,sc,dn,dt,ans,x,rfl,b,e,k⟩:=c
 exact CL x.cI (X7 _) c p sc dn dt ans x (Nat.lt_succ_self _) e h b K E k
def ya:bh:=lC.gI 88 cEx Ua
theorem Rd:ya.q=lC.q:=rfl
theorem Rb:ya.a=lC.a:=rfl
theorem Rc (g:FuncId) (args:List D) (h:aa) (K E:D→aa→Prop):ya.c g args h K E=if g=88 then cEx args h K E else lC.c g args h K E:=rfl
theorem Kd:ya.ok Tryz.prog:=bh.bQ wb adA
theorem lU:type_of% (And.intro (And.intro @Rd (And.intro @Rb @Rc)) @cd):=(And.intro (And.intro @Rd (And.intro @Rb @Rc)) @cd)
end
end Go.Proofs.YtpklkpkfgmoghaaGreatDoor.Zz
namespace Go.Proofs.YtpklkpkfgmoghaaGreatDoor.Zz
noncomputable section
def ani:cm:=⟨⟨[],[(1,8),(2,2),(3,4)],[],[],[],[]⟩,[],[],false⟩
def aje:dU:=
 sO [oQ (.box (.t 1)) 4,
 oA 6]
 (sO [oF 0 4 8,
 oL 8 9,
 oH .geq 9 20 10,
 oM 10 11,
 oG (.fieldAddr 0 (.t 4)) 12 11 true true,
 oG (.load none (.t 12)) 13 11 true false,
 oG (.bin .leq (.t 13) (kI 27)) 14 11 true true,
 oP (.pick (.t 11) (.t 14) (kB false)) 15,
 oC 45 [.t 15,kI 125] 16]
 (sO [oM 0 17,
 oJ 5 4 18,
 oC 88 [.t 17,.t 18] 19,
 oA 7,
 oS 5 7 19]
 (sO [oF 1 7 20,
 oL 20 21,
 oM 2 22,
 oE .eql 21 22 23,
 oC 45 [.t 23,kI 122] 24]
 (sO [oJ 5 7 25,
 oS 5 6 25]
 (.ret)))))
theorem aj0:bA Tryz.prog 68 ani=some (aje,[.cell 6 (some 5)],26):=by kernel_rfl
theorem lY {K E:D→aa→Prop} {σ:Fr} {A h:aa} {a i2:Nat} {x:Nd} (hσ:σ.env a=.ptr i2 1 0) (hA:A.f i2=some (.cells x.enc)) (ext:Ext h A) (hk:K (.agg x.enc) h):av [.cell a (some 5)] (cY.to K E) σ none A:=by
 refine ⟨[.agg x.enc],?_,.inl ⟨h,ext.sub,hk⟩⟩
 simp [eI,hσ,fj,hA,ao]
def cTy (args:List D) (h:aa) (K E:D→aa→Prop):Prop:=∃(c:Nat) (p:Nd) (sc:dj) (dn dt:D) (ans:Int) (x:Nd) (T:Int),args=[.ptr c 1 0,.agg x.enc,.int .i64 T]∧iI h c p sc dn dt ans∧x.cI≤1000000∧Sf K E h (some (crN (dG p.lD sc x T)))
theorem UA (args:List D) (h:aa) (K E K' E':D→aa→Prop) (hk:∀d h,K d h→K' d h) (he:∀d h,E d h→E' d h) (c:cTy args h K E):cTy args h K' E':=by
 obtain ⟨c,p,sc,dn,dt,ans,x,T,a,b,e,k⟩:=c
 exact ⟨c,p,sc,dn,dt,ans,x,T,a,b,e,kR hk he k⟩
theorem adI (args:List D) (h:aa) (K E:D→aa→Prop) (c:cTy args h K E):aH Tryz.prog 68 args h (cY.to K E):=by
 obtain ⟨c,p,sc,dn,dt,ans,x,T,rfl,hs,hb,hk⟩:=c
 refine aH.cv Kd (dc:=cy.none) (fun _ _=>cy.cX) (by kernel_rfl) aj0 (by simp) ?_
 rw [cA]
 obtain ⟨k,t,s,n,l⟩:=x
 unfold dG at hk
 rw [aB]
 simp (maxSteps:=1000000) only [aje,lU,aA,seval]
 intro i1 k1 i2 n1 n2 k2
 have So:∀o o',Ext h ((h.set i1 o).set i2 o'):=fun o o'=>((Ext.refl h).set k1).set k2
 simp (maxSteps:=1000000) only [n1,n2,lU,aA,seval]
 by_cases nj:20≤k
 ·have g1:(k≥20)=True:=eq_true nj
  by_cases nn:k≤27
  ·have hE:iQ (Nd.mk k t s n l).kD=true:=by simp [Nd.kD,iQ,nj,nn]
   have g2:decide (k≤27)=true:=by simp [nn]
   rw [if_pos hE] at hk
   simp (maxSteps:=1000000) only [g1,g2,n1,n2,bz,cE,aW,cond_true,lU,aA,seval]
   refine ⟨c,p,sc,dn,dt,ans,.mk k t s n l,by rw [aB],hs.ext (So _ _),hb,?_⟩
   cases he:eh p.lD sc (.mk k t s n l) with
   | error e=>
    rw [he] at hk
    simp only [dh,aE] at hk ⊢
    simp only [aX,ab,av]
    exact ⟨h,(So _ _).sub,hk⟩
   | ok y=>
    rw [he] at hk
    obtain ⟨yk,yt,ys,yn,yl⟩:=y
    simp (maxSteps:=1000000) only [eQ,aW,aB,n1,n2,lU,aA,seval]
    intro i3 m1 m2 m3 m4 k3
    cases d:(yt==T) with
    | false=>
     have hd:((Nd.mk yk yt ys yn yl).tD==T)=false:=d
     simp only at hk
     rw [if_neg (by rw [hd]; simp)] at hk
     simp only [dh,aE] at hk
     simp (maxSteps:=1000000) only [bz,cE,aE,cond_false,aX,ab,av,aA,seval]
     exact ⟨h,((So _ _).set k3).sub,hk⟩
    | true=>
     have hd:((Nd.mk yk yt ys yn yl).tD==T)=true:=d
     simp only at hk
     rw [if_pos hd] at hk
     simp only [eQ,aW] at hk
     simp (maxSteps:=1000000) only [bz,cE,aW,cond_true,n1,n2,m1,m2,m3,m4,af,ab,lU,aA,seval]
     exact lY (x:=.mk yk yt ys yn yl) (i2:=i2) (by simp only [aA,seval]) (by simp [aB,n1,n2,m1,m2,m3,m4]) (((So _ _).set k3).set k2) hk
  ·have hE:iQ (Nd.mk k t s n l).kD=false:=by simp [Nd.kD,iQ,nn]
   have g2:decide (k≤27)=false:=by simp [nn]
   rw [if_neg (by rw [hE]; simp)] at hk
   simp only [dh,aE] at hk
   simp (maxSteps:=1000000) only [g1,g2,n1,n2,bz,cE,aE,cond_false,aX,ab,av,lU,aA,seval]
   exact ⟨h,(So _ _).sub,hk⟩
 ·have g1:(k≥20)=False:=eq_false nj
  have hE:iQ (Nd.mk k t s n l).kD=false:=by simp [Nd.kD,iQ,nj]
  rw [if_neg (by rw [hE]; simp)] at hk
  simp only [dh,aE] at hk
  simp (maxSteps:=1000000) only [g1,n1,n2,bz,cE,aE,cond_false,aX,ab,av,lU,aA,seval]
  exact ⟨h,(So _ _).sub,hk⟩
def xW:bh:=ya.gI 68 cTy UA
theorem Qz:xW.q=ya.q:=rfl
theorem Qx:xW.a=ya.a:=rfl
theorem Qy (g:FuncId) (args:List D) (h:aa) (K E:D→aa→Prop):xW.c g args h K E=if g=68 then cTy args h K E else ya.c g args h K E:=rfl
theorem J5:xW.ok Tryz.prog:=bh.bQ Kd adI
theorem iH:type_of% (And.intro (And.intro @Qz (And.intro @Qx @Qy)) @lU):=(And.intro (And.intro @Qz (And.intro @Qx @Qy)) @lU)
end
end Go.Proofs.YtpklkpkfgmoghaaGreatDoor.Zz
