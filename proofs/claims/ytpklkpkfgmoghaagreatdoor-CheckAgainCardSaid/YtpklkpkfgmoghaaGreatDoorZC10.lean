/- Contracts: statements. -/
import Derived.Test.YtpklkpkfgmoghaaGreatDoorZC9
set_option linter.unnecessarySimpa false
set_option linter.unusedVariables false
set_option linter.unusedSimpArgs false
set_option maxRecDepth 20000
namespace Go.Proofs.YtpklkpkfgmoghaaGreatDoor.Zz
noncomputable section
def anr:cm:=⟨⟨[(17,6)],[(12,1),(14,2),(16,10),(17,5),(21,4),(24,1),(25,5),(25,11),(27,1),(28,5),(29,9),(31,1),(32,5),(34,1),(35,6),(36,5),(3,8),(4,1),(5,14),(6,5),(8,5),(9,3),(9,7)],[(29,3)],[((25,5),[(.t 3)]),((21,4),[(.t 5)]),((25,5),[(.t 3),(.t 123)]),((9,3),[(.t 8)])],[((25,10),(.t 3)),((21,1),(.t 5)),((25,8),(.t 3)),((25,10),(.t 123)),((9,5),(.t 8))],[]⟩,[(21,[0,1,2,3,4,5,6,7,8]),(25,[0,1,2,3,4,6,7,8,9,10,5,11,12,13,14]),(29,[0,1,2,3,4,5,6,7,8,9,10,11,12]),(9,[0,1,2,4,5,3,6,7])],[],false⟩
def ajn:dU:=
 sO [oQ (.box (.t 1)) 3,
 oA 4]
 (sO [oJ 5 3 9,
 oA 5,
 oS 5 5 9]
 (.seq (sO [oF 0 3 10,
 oL 10 11]
 (.block 0 (sO [oH .eql 11 14 65,
 oM 65 64]
 (.cond (.t 64)
 (.ops [oJ 5 3 66,
 oC 67 [.t 66,kI 0] 67])
 (sO [oH .eql 11 6 69,
 oM 69 68]
 (.cond (.t 68)
 (sO [oM 0 70,
 oJ 5 3 71,
 oC 69 [.t 70,.t 71] 72,
 oS 5 4 72]
 (.ret))
 (sO [oH .eql 11 9 74,
 oM 74 73]
 (.cond (.t 73)
 (sO [oF 4 3 75,
 oL 75 76,
 oZ 76 77,
 oH .eql 77 2 78,
 oM 78 79,
 oG (.fieldAddr 4 (.t 3)) 80 79 false true,
 oG (.load none (.t 80)) 81 79 false false,
 oG (.len .sl (.t 81)) 82 79 false false,
 oG (.bin .eql (.t 82) (kI 3)) 83 79 false true,
 oP (.pick (.t 79) (kB true) (.t 83)) 84,
 oC 45 [.t 84,kI 125] 85]
 (sO [oM 0 86,
 oF 4 3 87,
 oL 87 88,
 oQ (.aS 5 (.t 88) (kI 0)) 89,
 oJ 5 89 90,
 oC 68 [.t 86,.t 90,kI 3] 91,
 oQ (.buildSlice 5 zN 1 [(0,(.t 91))] true) 92,
 oF 4 5 93,
 oS 1 93 92]
 (sO [oF 4 3 94,
 oL 94 95,
 oQ (.slice (.sl 5) (.t 95) (some (kI 1)) none none) 96,
 oZ 96 97,
 oP (.cB (kI 0)) 98]
 (.block 1 (.loop (sO [oE .lss 98 97 99]
 (.seq (.cond (.t 99)
 (.skip)
 (.exit 1))
 (.seq (.block 2 (sO [oI 5 96 98 100,
 oJ 5 100 101,
 oA 7,
 oS 5 7 101]
 (.fS 102 [oF 4 5 102,
 oQ (.cQ none (.t 102) (.t 5)) 103,
 oM 0 104,
 oJ 5 7 105,
 oQ (.callNe (.f 69) [(.t 104),(.t 105)] [(.t 5)]) 106,
 oP (.buildSlice 5 zN 1 [(0,(.t 106))] false) 107,
 oQ (.append 5 64 false (.t 103) (.t 107)) 108,
 oF 4 5 109,
 oS 1 109 108])))
 (.ops [oH .add 98 1 110,
 oM 110 98])))))))))
 (sO [oH .eql 11 10 112,
 oM 112 111]
 (.cond (.t 111)
 (sO [oJ 5 3 113,
 oC 67 [.t 113,kI 2] 114]
 (.fS 115 [oM 0 115,
 oF 4 3 116,
 oL 116 117,
 oP (.aS 5 (.t 117) (kI 0)) 118,
 oJ 5 118 119,
 oM 0 121,
 oF 4 3 122,
 oQ (.cQ none (.t 122) (.t 3)) 123,
 oP (.aS 5 (.t 123) (kI 1)) 124,
 oQ (.cQ (some 5) (.t 124) (.t 3)) 125,
 oQ (.callNe (.f 68) [(.t 115),(.t 119),(kI 3)] [(.t 3)]) 120,
 oC 69 [.t 121,.t 125] 126,
 oP (.buildSlice 5 zN 2 [(0,(.t 120)),(1,(.t 126))] false) 127,
 oF 4 5 128,
 oS 1 128 127]))
 (sO [oH .eql 11 11 130,
 oM 130 129]
 (.cond (.t 129)
 (sO [oJ 5 3 131,
 oC 67 [.t 131,kI 1] 132]
 (sO [oM 0 133,
 oN 133 134,
 oF 7 134 135,
 oL 135 136,
 oH .neq 136 0 137,
 oC 45 [.t 137,kI 124] 138]
 (.fS 139 [oM 0 139,
 oF 4 3 140,
 oL 140 141,
 oQ (.aS 5 (.t 141) (kI 0)) 142,
 oJ 5 142 143,
 oM 0 144,
 oN 144 145,
 oF 7 145 146,
 oL 146 147,
 oC 68 [.t 139,.t 143,.t 147] 148,
 oP (.buildSlice 5 zN 1 [(0,(.t 148))] false) 149,
 oF 4 5 150,
 oS 1 150 149])))
 (sO [oH .eql 11 12 152,
 oM 152 151]
 (.cond (.t 151)
 (sO [oJ 5 3 153,
 oC 67 [.t 153,kI 1] 154]
 (.ops [oM 0 155,
 oF 4 3 156,
 oL 156 157,
 oQ (.aS 5 (.t 157) (kI 0)) 158,
 oJ 5 158 159,
 oC 68 [.t 155,.t 159,kI 3] 160,
 oP (.buildSlice 5 zN 1 [(0,(.t 160))] false) 161,
 oF 4 5 162,
 oS 1 162 161]))
 (sO [oH .eql 11 13 164,
 oM 164 163]
 (.cond (.t 163)
 (sO [oJ 5 3 165,
 oC 67 [.t 165,kI 1] 166]
 (sO [oF 4 3 167,
 oL 167 168,
 oQ (.aS 5 (.t 168) (kI 0)) 169,
 oF 0 169 170,
 oL 170 171,
 oH .eql 171 24 172,
 oC 45 [.t 172,kI 125] 173]
 (.ops [oM 0 174,
 oF 4 3 175,
 oL 175 176,
 oQ (.aS 5 (.t 176) (kI 0)) 177,
 oJ 5 177 178,
 oC 88 [.t 174,.t 178] 179,
 oP (.buildSlice 5 zN 1 [(0,(.t 179))] false) 180,
 oF 4 5 181,
 oS 1 181 180])))
 (sO [oF 0 3 12,
 oL 12 13,
 oH .eql 13 7 14,
 oM 14 15,
 oG (.fieldAddr 0 (.t 3)) 16 15 false true,
 oG (.load none (.t 16)) 17 15 false false,
 oG (.bin .eql (.t 17) (kI 8)) 18 15 false true,
 oP (.pick (.t 15) (kB true) (.t 18)) 19,
 oC 45 [.t 19,kI 125] 20]
 (sO [oJ 5 3 21,
 oC 67 [.t 21,kI 1] 22]
 (sO [oF 4 3 23,
 oL 23 24,
 oQ (.aS 5 (.t 24) (kI 0)) 25,
 oF 0 25 26,
 oL 26 27,
 oH .geq 27 20 28,
 oM 28 29,
 oG (.fieldAddr 4 (.t 3)) 30 29 true true,
 oG (.load none (.t 30)) 31 29 true false,
 oG (.aS 5 (.t 31) (kI 0)) 32 29 true false,
 oG (.fieldAddr 0 (.t 32)) 33 29 true true,
 oG (.load none (.t 33)) 34 29 true false,
 oG (.bin .leq (.t 34) (kI 27)) 35 29 true true,
 oP (.pick (.t 29) (.t 35) (kB false)) 36,
 oC 45 [.t 36,kI 125] 37]
 (sO [oM 0 38,
 oF 4 3 39,
 oL 39 40,
 oQ (.aS 5 (.t 40) (kI 0)) 41,
 oJ 5 41 42,
 oC 88 [.t 38,.t 42] 43,
 oA 8,
 oS 5 8 43]
 (.seq (sO [oF 0 3 44,
 oL 44 45,
 oH .eql 45 7 46]
 (.cond (.t 46)
 (.ops [oM 0 47,
 oF 2 3 48,
 oL 48 49,
 oF 1 8 50,
 oL 50 51,
 oC 70 [.t 47,.t 49,.t 51] 52])
 (.fS 53 [oM 0 53,
 oF 2 3 54,
 oL 54 55,
 oF 1 8 57,
 oQ (.cQ none (.t 57) (.t 8)) 58,
 oQ (.callNe (.f 107) [(.t 53),(.t 55)] [(.t 8)]) 56,
 oE .eql 56 58 59,
 oC 45 [.t 59,kI 122] 60])))
 (.ops [oJ 5 8 61,
 oP (.buildSlice 5 zN 1 [(0,(.t 61))] false) 62,
 oF 4 5 63,
 oS 1 63 62]))))))))))))))))))))))
 (sO [oJ 5 5 182,
 oS 5 4 182]
 (.ret))))
theorem aj9:bA Tryz.prog 89 anr=some (ajn,[.cell 4 (some 5)],183):=by kernel_rfl
def Y2 (G:Nat) (args:List D) (h:aa) (K E:D→aa→Prop):Prop:=∃(c:Nat) (p:Nd) (sc:dj) (dn dt:D) (ans:Int) (x:Nd),args=[.ptr c 1 0,.agg x.enc]∧iI h c p sc dn dt ans∧x.cI<G∧x.cI+sc.length≤1000000∧
 (match dV p.lD ans x sc with
 | .ok x'=>∀h' lF nY,iI h' c p sc lF nY ans→Grow h h' c→K (.agg x'.enc) h'
 | .error e=>∀h',Grow h h' c→E (ft e) h')
theorem RT (G:Nat) (args:List D) (h:aa) (K E K' E':D→aa→Prop) (hk:∀d h,K d h→K' d h) (he:∀d h,E d h→E' d h) (c:Y2 G args h K E):Y2 G args h K' E':=by
 obtain ⟨c,p,sc,dn,dt,ans,x,a,b,d,e,k⟩:=c
 refine ⟨c,p,sc,dn,dt,ans,x,a,b,d,e,?_⟩
 split at k
 ·exact fun h' lF nY x y=>hk _ _ (k h' lF nY x y)
 ·exact fun h' g=>he _ _ (k h' g)
def XZ (G:Nat):bh:=lI.gI 69 (Y2 G) (RT G)
theorem X2 {G:Nat}:(XZ G).q=lI.q:=rfl
theorem X0 {G:Nat}:(XZ G).a=lI.a:=rfl
theorem X1 {G:Nat} (g:FuncId) (args:List D) (h:aa) (K E:D→aa→Prop):(XZ G).c g args h K E=if g=69 then Y2 G args h K E else lI.c g args h K E:=rfl
theorem cH:type_of% (And.intro (And.intro @X2 (And.intro @X0 @X1)) @bx):=(And.intro (And.intro @X2 (And.intro @X0 @X1)) @bx)
theorem aa4 {G:Nat} (hT:(Tr G).ok Tryz.prog):(XZ (G+1)).ok Tryz.prog:=bh.bQ uS fun args h K E ⟨c,p,sc,dn,dt,ans,x,a,b,d,e,k⟩=>by
 subst a
 exact zD G hT c p sc dn dt ans x d e h b K E k
theorem G4 {ks:List Nd} {sc sc':dj} {s:List UInt8} {t:Int} (h:p7 ks sc s t=.ok sc'):sc'.length≤sc.length+1:=by
 unfold p7 at h
 generalize ((gz sc s).isNone && (match eY ks s with | none=>true | some o=>o.kD != 2))=b at h
 cases b with
 | false=>cases h
 | true=>cases h; simp
theorem Cs {ks:List Nd} {ans k t:Int} {s:List UInt8} {n:Int} {l:List Nd} {sc:dj} (h:(k==6)=true):dV ks ans (.mk k t s n l) sc=match bW ks ans l sc with
  | .ok (l',_)=>.ok (.mk k t s n l')
  | .error e=>.error e:=by
 unfold dV
 rw [if_pos (show ((Nd.mk k t s n l).kD==6)=true from h)]
 rfl
theorem wj (ks:List Nd) (ans:Int) (sc:dj):cN ks ans [] sc=.ok []:=by rw [cN]
theorem tV (ks:List Nd) (ans:Int) (x:Nd) (r:List Nd) (sc:dj):cN ks ans (x::r) sc=match dV ks ans x sc with
  | .ok x'=>match cN ks ans r sc with
   | .ok r'=>.ok (x'::r')
   | .error e=>.error e
  | .error e=>.error e:=by
 obtain ⟨k,t,s,n,l⟩:=x
 rw [cN.eq_def]
 simp only
 cases k6:(k==6) with
 | false=>
  have:dV ks ans (.mk k t s n l) sc=.error 125:=by
   unfold dV
   rw [if_neg (show ¬((Nd.mk k t s n l).kD==6)=true from by show ¬(k==6)=true; rw [k6]; simp)]
  rw [this]; simp
 | true=>
  rw [Cs k6]
  simp only [if_true]
  cases bW ks ans l sc with
  | error e=>rfl
  | ok q=>obtain ⟨l',sc'⟩:=q; rfl
theorem I2 (l:List Nd) (i:Nat) (h:i≤l.length):gH (.sl 5) (.sl (Nd.bg l)) none (some (.int .i64 (i:Int))) none=some (.sl (Nd.bg (l.take i))):=by
 have h1:∀y∈Nd.bg l,y.length=5:=fun y hy=>by
  rw [eg] at hy
  obtain ⟨x,_,rfl⟩:=List.mem_map.1 hy
  exact au x
 simp only [gH,bounds,pw,aU]
 rw [if_pos h1,if_pos ⟨by omega,by omega,by omega⟩]
 simp [eg,List.map_take]
theorem WH (l:List Nd) (i:Nat) (h:i≤l.length):gH (.sl 5) (.sl (Nd.bg l)) (some (.int .i64 (i:Int))) none none=some (.sl (Nd.bg (l.drop i))):=by
 have h1:∀y∈Nd.bg l,y.length=5:=fun y hy=>by
  rw [eg] at hy
  obtain ⟨x,_,rfl⟩:=List.mem_map.1 hy
  exact au x
 simp only [gH,bounds,pw,aU]
 rw [if_pos h1,if_pos ⟨by omega,by omega,by omega⟩]
 simp only [Option.map_some,Option.some.injEq,D.sl.injEq,Int.toNat_natCast,eg,List.map_drop]
 exact List.take_of_length_le (by simp)
def nK (ks:List Nd) (ans:Int) (done l:List Nd) (sc:dj):CR (List Nd):=match cN ks ans l sc with
 | .ok l'=>.ok (done++l')
 | .error e=>.error e
theorem KW (ks:List Nd) (ans:Int) (done:List Nd) (sc:dj):nK ks ans done [] sc=.ok done:=by rw [nK,wj]; simp
theorem Gn (ks:List Nd) (ans:Int) (done:List Nd) (x:Nd) (l:List Nd) (sc:dj):nK ks ans done (x::l) sc=match dV ks ans x sc with
  | .ok x'=>nK ks ans (done++[x']) l sc
  | .error e=>.error e:=by
 rw [nK,tV]
 cases dV ks ans x sc with
 | error e=>rfl
 | ok x'=>
  simp only [nK]
  cases cN ks ans l sc with
  | error e=>rfl
  | ok l'=>simp
theorem Ext.grow {h h':aa} (e:Ext h h') (c:Nat):Grow h h' c where
 fM:=fun i o a _ _=>by rw [e i (by rw [a]; simp)]; exact a
 view:=fun d xs v=>by
  rcases v with v | ⟨r,v,cur,ys,du,h1,h2,h3⟩
  ·exact .inl v
  ·exact .inr ⟨r,v,cur,ys,du,h1,by rw [e r (by rw [h2]; simp)]; exact h2,h3⟩
 Nc:=fun i n=>by rw [e i n]; exact n
theorem mf {K E:D→aa→Prop} {σ:Fr} {A:aa} {a i2:Nat} {x:Nd} (hσ:σ.env a=.ptr i2 1 0) (hA:A.f i2=some (.cells x.enc)) (hk:K (.agg x.enc) A):av [.cell a (some 5)] (cY.to K E) σ none A:=by
 refine ⟨[.agg x.enc],?_,.inl ⟨A,aa.aj _,hk⟩⟩
 simp [eI,hσ,fj,hA,ao]
set_option maxHeartbeats 1000000 in
theorem Tk (G:Nat) (hT:(XZ (G+1)).ok Tryz.prog) (c:Nat) (p:Nd) (sc:dj) (dn dt:D) (ans:Int) (x:Nd) (hx:x.cI<G+1) (hb:x.cI+sc.length≤1000000) (h:aa) (hs:iI h c p sc dn dt ans) (K E:D→aa→Prop)
  (hk:match dF p.lD ans x sc with
   | .ok (x',sc')=>∀h' lF nY,iI h' c p sc' lF nY ans→Grow h h' c→sc'.length≤sc.length+1→K (.agg x'.enc) h'
   | .error e=>∀h',Grow h h' c→E (ft e) h'):aH Tryz.prog 89 [.ptr c 1 0,.agg x.enc] h (cY.to K E):=by
 refine aH.cv hT (dc:=cy.none) (fun _ _=>cy.cX) (by kernel_rfl) aj9 (by simp) ?_
 rw [cA]
 obtain ⟨k,t,s,n,l⟩:=x
 have lQ:∀y∈l,y.cI<G:=fun y hy=>by have:=jQ (k:=k) (t:=t) (s:=s) (n:=n) hy; omega
 have tg:Nd.eA l+sc.length+1≤1000000:=by rw [bd] at hb; omega
 have hll:l.length≤1000000:=by have:=jk l; omega
 rw [dF.eq_def] at hk
 simp only at hk
 rw [aB]
 simp (maxSteps:=1000000) only [ajn,cH,bx,aA,seval]
 intro i1 k1 i2 n1 n2 k2
 simp (maxSteps:=1000000) only [n1,n2,cH,bx,aA,seval]
 intro i3 m1 m2 m3 m4 k3
 simp (maxSteps:=1000000) only [n1,n2,m1,m2,m3,m4,cH,bx,aA,seval]
 have ho:=hs.obj
 have d1:¬c=i1:=fun e=>by rw [e,k1] at ho; cases ho
 have d2:¬c=i2:=fun e=>by rw [e,k2] at ho; cases ho
 have d3:¬c=i3:=fun e=>by rw [e,k3] at ho; cases ho
 have YB:¬i1=c:=fun e=>d1 e.symm
 have BS:¬i2=c:=fun e=>d2 e.symm
 have E_:¬i3=c:=fun e=>d3 e.symm
 have eB:∀o o' Ie,Ext h (((h.set i1 o).set i2 o').set i3 Ie):=fun o o' Ie=>(((Ext.refl h).set k1).set k2).set k3
 cases TK:(k==14) with
 | true=>
  simp only [TK,if_true] at hk
  simp (maxSteps:=1000000) only [TK,n1,n2,m1,m2,m3,m4,cH,bx,aA,seval]
  refine ⟨.mk k t s n l,0,by rw [aB],?_⟩
  simp only [Nd.lD]
  cases cl:(l.length==0) with
  | false=>
   have hJ:((l.length:Int)==0)=false:=beq_eq_false_iff_ne.2 (by have:=beq_eq_false_iff_ne.1 cl; omega)
   simp only [cl,Bool.false_eq_true,if_false] at hk
   simp (maxSteps:=1000000) only [hJ,cond_false,aX,ab,av,aA,seval]
   exact ⟨_,aa.aj _,hk _ ((eB _ _ _).grow c)⟩
  | true=>
   have hJ:((l.length:Int)==0)=true:=beq_iff_eq.2 (by have:=beq_iff_eq.1 cl; omega)
   simp only [cl,if_true] at hk
   simp (maxSteps:=1000000) only [hJ,cond_true,n1,n2,m1,m2,m3,m4,af,ab,cH,bx,aA,seval]
   exact lY (x:=.mk k t s n l) (i2:=i2) (by simp only [aA,seval]) (by simp [aB]) ((eB _ _ _).set k2) (hk h dn dt hs (Grow.refl h c) (by omega))
 | false=>
  simp only [TK,Bool.false_eq_true,if_false] at hk
  cases k6:(k==6) with
  | true=>
   simp only [k6,if_true] at hk
   simp (maxSteps:=1000000) only [TK,k6,n1,n2,m1,m2,m3,m4,cH,bx,aA,seval]
   refine ⟨c,p,sc,dn,dt,ans,.mk k t s n l,by rw [aB],hs.ext (eB _ _ _),hx,hb,?_⟩
   rw [Cs k6]
   cases hq:bW p.lD ans l sc with
   | error e=>
    rw [hq] at hk
    simp only at hk ⊢
    intro h' g
    simp only [aX,ab,av]
    exact ⟨_,aa.aj _,hk _ (((eB _ _ _).grow c).trans g)⟩
   | ok q=>
    obtain ⟨l',sc'⟩:=q
    rw [hq] at hk
    simp only at hk ⊢
    intro h' lF nY s' g
    have gg:=((eB _ _ _).grow c).trans g
    have u2:=g.fM i2 (.cells [.int .i64 0,.int .i64 0,.str [],.int .i64 0,.aZ]) (by simp [n1,n2,m1,m2,m3,m4]) BS (fun _ _ _ _ e=>by cases e)
    simp (maxSteps:=1000000) only [aB,u2,af,ab,cH,bx,aA,seval]
    exact mf (x:=.mk k t s n l') (i2:=i2) (by simp only [aA,seval]) (by simp [aB]) (hk _ lF nY (s'.put BS (by simp [u2])) (gg.put (.inl k2) (by simp [u2])) (by omega))
  | false=>
   simp only [k6,Bool.false_eq_true,if_false] at hk
   cases k9:(k==9) with
   | true=>
    have VF:(k==10)=false:=by rw [beq_iff_eq.1 k9]; rfl
    simp only [k9,VF,Bool.or_false,Bool.true_or,Bool.false_and,Bool.true_and,if_true] at hk
    simp (maxSteps:=1000000) only [TK,k6,k9,n1,n2,m1,m2,m3,m4,aU,cH,bx,aA,seval]
    cases cl:(l.length==2 || l.length==3) with
    | false=>
     have hk:∀h',Grow h h' c→E (ft 125) h':=by
      match l,cl,hk with
      | [],_,hk=>exact hk
      | [_],_,hk=>simpa using hk
      | [_,_],cl,_=>cases cl
      | [_,_,_],cl,_=>cases cl
      | _::_::_::_::_,_,hk=>simpa using hk
     simp only [Bool.or_eq_false_iff,beq_eq_false_iff_ne] at cl
     have iK:((l.length:Int)==2)=false:=beq_eq_false_iff_ne.2 (by omega)
     have kl:((l.length:Int)==3)=false:=beq_eq_false_iff_ne.2 (by omega)
     intro _
     simp (maxSteps:=1000000) only [iK,kl,Bool.false_eq_true,if_false,n1,n2,m1,m2,m3,m4,aU,bz,cE,aE,cond_false,aX,ab,av,cH,bx,aA,seval]
     intro _
     exact ⟨_,aa.aj _,hk _ ((eB _ _ _).grow c)⟩
    | true=>
     obtain ⟨x0,rs,vb,hr⟩:∃x0 rs,l=x0::rs∧(rs.length=1∨rs.length=2):=by
      match l,cl with
      | [x0,a],_=>exact ⟨x0,[a],rfl,.inl rfl⟩
      | [x0,a,b],_=>exact ⟨x0,[a,b],rfl,.inr rfl⟩
     subst vb
     have hrb:(rs.length==1 || rs.length==2)=true:=by rcases hr with hr | hr<;>simp [hr]
     simp only [hrb,if_true] at hk
     have yu:x0.cI≤1000000:=by rw [aD] at tg; omega
     have ie:∀(K:D→aa→Prop) (h:aa),fx 5 K h (Nd.bg (x0::rs)) (0:Int)=K (.cO x0.enc 0) h:=fun K h=>cG (l:=x0::rs) (i:=0) rfl
     obtain ⟨xk,xt,xs,xn,xl⟩:=x0
     rw [aB] at ie
     have YF:gH (.sl 5) (.sl (Nd.bg (.mk xk xt xs xn xl::rs))) (some (.int .i64 1)) none none=some (.sl (Nd.bg rs)):=WH (.mk xk xt xs xn xl::rs) 1 (by simp)
     rcases hr with hr | hr
     have iK:(((rs.length+1:Nat):Int)==2)=true:=by rw [hr]; rfl
     intro _
     simp (maxSteps:=1000000) only [iK,ie,n1,n2,m1,m2,m3,m4,aU,bz,cE,aW,cond_true,cH,bx,aA,seval]
     rotate_left
     have iK:(((rs.length+1:Nat):Int)==2)=false:=by rw [hr]; rfl
     have kl:(((rs.length+1:Nat):Int)==3)=true:=by rw [hr]; rfl
     intro _
     simp (maxSteps:=1000000) only [iK,kl,Bool.false_eq_true,if_false,ie,n1,n2,m1,m2,m3,m4,aU,bz,cE,aW,cond_true,cond_false,cH,bx,aA,seval]
     intro _
     all_goals
      refine ⟨c,p,sc,dn,dt,ans,.mk xk xt xs xn xl,3,by rw [aB],hs.ext (eB _ _ _),yu,?_⟩
      cases hq:dG p.lD sc (.mk xk xt xs xn xl) 3 with
      | error e=>
       rw [hq] at hk
       simp only at hk
       simp only [dh,aE,aX,ab,av]
       exact ⟨_,aa.aj _,hk _ ((eB _ _ _).grow c)⟩
      | ok y=>
       rw [hq] at hk
       simp only at hk
       obtain ⟨yk,yt,ys,yn,yl⟩:=y
       simp (maxSteps:=1000000) only [eQ,aW,aB,YF,n1,n2,m1,m2,m3,m4,aU,cH,bx,aA,seval]
       intro r0 nj nn q3c q4c q5c q6c kr
       simp (maxSteps:=1000000) only [YF,nj,nn,q3c,q4c,q5c,q6c,n1,n2,m1,m2,m3,m4,aU,cH,bx,aA,seval]
       intro hrl
       have dr':¬r0=c:=fun e=>by rw [e,ho] at kr; cases kr
       have hkA:match nK p.lD ans [.mk yk yt ys yn yl] rs sc with
         | .ok ks=>∀h' lF nY,iI h' c p sc lF nY ans→Grow h h' c→sc.length≤sc.length+1→K (.agg (Nd.enc (.mk k t s n ks))) h'
         | .error e=>∀h',Grow h h' c→E (ft e) h':=by
        unfold nK
        cases yo:cN p.lD ans rs sc with
        | error e=>rw [yo] at hk; exact hk
        | ok r'=>rw [yo] at hk; exact hk
       refine cj (X:=Nat×Nat×List Nd×D×D×aa) (fun z=>[(0,.ptr c 1 0),(3,.ptr i1 1 0),(4,.ptr i2 1 0),(5,.ptr i3 1 0),(96,.sl (Nd.bg rs)),(97,.int .i64 rs.length),(98,.int .i64 z.1)]) (fun z=>z.2.2.2.2.2) (fun z=>rs.length - z.1)
        (fun z=>z.1≤rs.length∧z.2.2.2.2.2.f i2=some (.cells [.int .i64 0,.int .i64 0,.str [],.int .i64 0,.aZ])∧
         z.2.2.2.2.2.f i3=some (.cells [.int .i64 k,.int .i64 t,.str s,.int .i64 n,fF z.2.1 (z.1+1)])∧z.2.2.1.length=z.1+1∧
         (h.f z.2.1=none∧z.2.2.2.2.2.f z.2.1=some (.row 5 (z.1+1+2) (Nd.bg z.2.2.1) false))∧
         iI z.2.2.2.2.2 c p sc z.2.2.2.1 z.2.2.2.2.1 ans∧Grow h z.2.2.2.2.2 c∧nK p.lD ans [.mk yk yt ys yn yl] rs sc=nK p.lD ans z.2.2.1 (rs.drop z.1) sc) (0,r0,[.mk yk yt ys yn yl],dn,dt,_) ⟨Nat.zero_le _,?_,?_,rfl,⟨kr,?_⟩,?_,?_,by rw [List.drop_zero]⟩ ?_ (aa.aj _) ?_
       ·simp [nj,nn,q3c,q4c,q5c,q6c,n1,n2,m1,m2,m3,m4]
       ·simp [nj,nn,q3c,q4c,q5c,q6c,n1,n2,m1,m2,m3,m4,bq]
       ·simp [nj,nn,q3c,q4c,q5c,q6c,n1,n2,m1,m2,m3,m4,bO,bc,aB]
       ·exact ((hs.ext (eB _ _ _)).put dr' (by simp [nj,nn,q3c,q4c,q5c,q6c,n1,n2,m1,m2,m3,m4,kr])).put E_ (by simp [nj,nn,q3c,q4c,q5c,q6c,n1,n2,m1,m2,m3,m4])
       ·exact (((eB _ _ _).grow c).put (.inl kr) (by simp [nj,nn,q3c,q4c,q5c,q6c,n1,n2,m1,m2,m3,m4,kr])).put (.inl k3) (by simp [nj,nn,q3c,q4c,q5c,q6c,n1,n2,m1,m2,m3,m4])
       ·simp only [aA,seval]
       rintro ⟨i,r,done,Lx,UY,hh⟩ Q ⟨j0,v2,v3,vd,⟨vr0,vr⟩,vs,vg,va⟩ hQ
       simp only at j0 v2 v3 vd vr0 vr vs vg va hQ ⊢
       have rc:¬r=c:=fun e=>by rw [e,ho] at vr0; cases vr0
       have ri2:¬r=i2:=fun e=>by rw [e,v2] at vr; cases vr
       have ri3:¬r=i3:=fun e=>by rw [e,v3] at vr; cases vr
       have sC:∀{ds:List D},∀sz aY xs du,cJ.cells ds≠.dz sz aY xs du:=fun _ _ _ _ e=>by cases e
       cases iJ:decide (i<rs.length) with
       | true=>
        have iJ:i<rs.length:=by simpa using iJ
        obtain ⟨y,hy⟩:∃y,rs[i]? =some y:=⟨_,List.getElem?_eq_getElem iJ⟩
        have g:((i:Int)<(rs.length:Int))=True:=eq_true (by omega)
        have Au:y∈rs:=List.mem_of_getElem? hy
        have wi:IntKind.i64.wrap ((i:Int)+1)=((i+1:Nat):Int):=cp (by omega)
        have te:∀(K:D→aa→Prop) (h:aa),fx 5 K h (Nd.bg rs) (i:Int)=K (.cO y.enc 0) h:=fun K h=>cG hy
        have Vx:=lQ y (by simp [Au])
        have hyb:y.cI+sc.length≤1000000:=by have:=wm Au; rw [aD] at tg; omega
        rw [iP hy,Gn] at va
        obtain ⟨yk',yt',yx',ym',yl'⟩:=y
        rw [aB] at te
        simp (maxSteps:=1000000) only [g,v2,v3,te,cH,bx,aA,seval]
        intro i7 k7
        have gW:∀{q:Nat} {o:cJ},hh.f q=some o→¬i7=q:=fun hq e=>by rw [e,hq] at k7; cases k7
        have wP:=gW v2
        have Ik:=gW v3
        have pr:=gW vr
        have pc:=gW vs.obj
        have oB:¬i2=i7:=fun e=>wP e.symm
        have qU:¬i3=i7:=fun e=>Ik e.symm
        have pr':¬r=i7:=fun e=>pr e.symm
        have kh7:h.f i7=none:=by
         by_cases e:h.f i7=none
         ·exact e
         ·exact absurd k7 (vg.Nc i7 e)
        have s7c:=fun o=>vs.put (o:=o) pc (by simp [k7])
        have g7:=fun o=>vg.put (o:=o) (.inl kh7) (by simp [k7])
        simp (maxSteps:=1000000) only [v2,v3,wP,Ik,oB,qU,cH,bx,aA,seval]
        refine ⟨c,p,sc,Lx,UY,ans,.mk yk' yt' yx' ym' yl',by rw [aB],s7c _,by omega,hyb,?_⟩
        cases he:dV p.lD ans (.mk yk' yt' yx' ym' yl') sc with
        | error e=>
         rw [he] at va
         simp only at va ⊢
         rw [va] at hkA
         intro h' gh σ hσ _
         simp only [aX]
         rw [hσ]
         simp only [ab,av]
         exact ⟨_,aa.aj _,hkA _ ((g7 _).trans gh)⟩
        | ok y'=>
         rw [he] at va
         simp only at va ⊢
         intro h' dn2 dt2 vs2 gh
         have u2:=gh.fM i2 _ (by rw [aa.b9,if_neg oB]; exact v2) BS sC
         have u3:=gh.fM i3 _ (by rw [aa.b9,if_neg qU]; exact v3) E_ sC
         have ur:=gh.fM r _ (by rw [aa.b9,if_neg pr']; exact vr) rc (fun _ _ _ _ e=>by cases e)
         have gg:=(g7 _).trans gh
         refine ⟨u3,⟨au y',aC y'⟩,?_⟩
         rw [show cellsD (D.agg y'.enc)=y'.enc from rfl,ah]
         have LO:(Nd.bg done).length=i+1:=by rw [aU,vd]
         refine lV (b:=64) LO (fun _=>ur) ⟨au y',aC y'⟩ (by omega) (by omega) fun r' a1 a2=>?_
         have er:r'=r:=a2 (Nat.succ_ne_zero i)
         subst er
         have aiK:¬i2=r':=fun e=>ri2 e.symm
         have aaF:¬i3=r':=fun e=>ri3 e.symm
         simp (maxSteps:=1000000) only [u2,u3,ri2,ri3,aiK,aaF,wi,cH,bx,aA,seval]
         refine hQ (i+1,r',done++[y'],dn2,dt2,_) _ _ ⟨iJ,?_,?_,?_,⟨vr0,?_⟩,?_,?_,va⟩ (by simp only [bq (Nat.succ_ne_zero _),aA,seval]) (aa.aj _) (by simp only; omega)
         ·simp [aiK,u2,m1,m2,m3,m4]
         ·simp [bq]
         ·simp [vd]
         ·simp [ri3,aaF,fE]
         ·exact (vs2.put rc (by simp [ur])).put E_ (by simp [aaF,u3])
         ·exact (gg.put (.inl vr0) (by simp [ur])).put (.inl k3) (by simp [aaF,u3])
       | false=>
        have e0:i=rs.length:=by simp at iJ; omega
        have g:((i:Int)<(rs.length:Int))=False:=eq_false (by omega)
        rw [List.drop_eq_nil_of_le (by omega),KW] at va
        rw [va] at hkA
        have B8:bX (fF r (i+1))=true:=by unfold fF; split<;>rfl
        simp (maxSteps:=1000000) only [g,v2,v3,B8,af,ab,cH,bx,aA,seval]
        have sF:=vs.put (i:=i2) (o:=.cells [.int .i64 k,.int .i64 t,.str s,.int .i64 n,fF r (i+1)]) BS (by simp [v2])
        have gF:=vg.put (i:=i2) (o:=.cells [.int .i64 k,.int .i64 t,.str s,.int .i64 n,fF r (i+1)]) (.inl k2) (by simp [v2])
        refine vE (i2:=i2) (r:=r) (i:=i+1) (done:=done) (by simp only [aA,seval]) (by simp only [aA,seval]) vd (fun h0=>by simp [ri2,vr]) (fun h0=>absurd h0 (Nat.succ_ne_zero i)) (fun h0=>hkA _ Lx UY (sF.put rc (by simp [ri2,vr])) (gF.put (.inl vr0) (by simp [ri2,vr])) (by omega))
   | false=>
    cases VF:(k==10) with
    | true=>
     simp only [k9,VF,Bool.or_true,Bool.false_or,Bool.false_and,Bool.true_and,if_true] at hk
     simp (maxSteps:=1000000) only [TK,k6,k9,VF,n1,n2,m1,m2,m3,m4,cH,bx,aA,seval]
     refine ⟨.mk k t s n l,2,by rw [aB],?_⟩
     simp only [Nd.lD]
     cases cl:(l.length==2) with
     | false=>
      have hJ:((l.length:Int)==2)=false:=beq_eq_false_iff_ne.2 (by have:=beq_eq_false_iff_ne.1 cl; omega)
      have hk:∀h',Grow h h' c→E (ft 125) h':=by
       match l,cl,hk with
       | [],_,hk=>exact hk
       | [_],_,hk=>exact hk
       | [_,_],cl,_=>cases cl
       | _::_::_::_,_,hk=>simpa using hk
      simp (maxSteps:=1000000) only [hJ,cond_false,aX,ab,av,aA,seval]
      exact ⟨_,aa.aj _,hk _ ((eB _ _ _).grow c)⟩
     | true=>
      have hJ:((l.length:Int)==2)=true:=beq_iff_eq.2 (by have:=beq_iff_eq.1 cl; omega)
      obtain ⟨x0,x1,vb⟩:∃x0 x1,l=[x0,x1]:=by
       match l,cl with
       | [x0,x1],_=>exact ⟨x0,x1,rfl⟩
      subst vb
      simp only [List.length_cons,List.length_nil,Nat.zero_add,beq_self_eq_true,if_true,tV,wj] at hk
      have yu:x0.cI≤1000000:=by rw [aD] at tg; omega
      have LN:x1.cI+sc.length≤1000000:=by rw [aD,aD] at tg; omega
      have al6:=lQ x1 (by simp)
      have ie:∀(K:D→aa→Prop) (h:aa),fx 5 K h (Nd.bg [x0,x1]) (0:Int)=K (.cO x0.enc 0) h:=fun K h=>cG (l:=[x0,x1]) (i:=0) rfl
      have vJ:ew (.aS 5 (.sl (Nd.bg [x0,x1])) (.int .i64 1))=some (.cO x1.enc 0):=by simp [bO,bc,ew,bC,au]
      have hv0:ew (.aS 5 (.sl (Nd.bg [x0,x1])) (.int .i64 0))=some (.cO x0.enc 0):=by simp [bO,bc,ew,bC,au]
      obtain ⟨xk,xt,xs,xn,xl⟩:=x0
      obtain ⟨zk,zt,zs,zn,zl⟩:=x1
      rw [aB] at hv0 vJ
      simp (maxSteps:=1000000) only [hJ,cond_true,n1,n2,m1,m2,m3,m4,hv0,vJ,cH,bx,aA,seval]
      refine ⟨c,p,sc,dn,dt,ans,.mk xk xt xs xn xl,3,by rw [aB],hs.ext (eB _ _ _),yu,?_⟩
      cases hq:dG p.lD sc (.mk xk xt xs xn xl) 3 with
      | error e=>
       rw [hq] at hk
       simp only at hk
       simp only [dh,aE]
       intro σ hσ _
       simp only [aX]
       rw [hσ]
       simp only [ab,av]
       exact ⟨_,aa.aj _,hk _ ((eB _ _ _).grow c)⟩
      | ok y=>
       rw [hq] at hk
       simp only at hk
       obtain ⟨yk,yt,ys,yn,yl⟩:=y
       simp (maxSteps:=1000000) only [eQ,aW,aB,n1,n2,m1,m2,m3,m4,cH,bx,aA,seval]
       refine ⟨c,p,sc,dn,dt,ans,.mk zk zt zs zn zl,by rw [aB],hs.ext (eB _ _ _),Nat.lt_succ_of_lt al6,LN,?_⟩
       cases hq2:dV p.lD ans (.mk zk zt zs zn zl) sc with
       | error e=>
        rw [hq2] at hk
        simp only at hk ⊢
        intro h' g σ hσ _
        simp only [aX]
        rw [hσ]
        simp only [ab,av]
        exact ⟨_,aa.aj _,hk _ (((eB _ _ _).grow c).trans g)⟩
       | ok y2=>
        rw [hq2] at hk
        obtain ⟨vk,vt,vs,vn,vl⟩:=y2
        simp only at hk ⊢
        intro h' lF nY s' g
        have gg:=((eB _ _ _).grow c).trans g
        have sC:∀{ds:List D},∀sz aY xs du,cJ.cells ds≠.dz sz aY xs du:=fun _ _ _ _ e=>by cases e
        have u2:=g.fM i2 (.cells [.int .i64 0,.int .i64 0,.str [],.int .i64 0,.aZ]) (by simp [n1,n2,m1,m2,m3,m4]) BS sC
        have u3:=g.fM i3 (.cells [.int .i64 k,.int .i64 t,.str s,.int .i64 n,.sl (Nd.bg [.mk xk xt xs xn xl,.mk zk zt zs zn zl])]) (by simp [n1,n2,m1,m2,m3,m4]) E_ sC
        simp (maxSteps:=1000000) only [aB,u2,u3,n1,n2,m1,m2,m3,m4,af,ab,cH,bx,aA,seval]
        exact mf (x:=.mk k t s n [.mk yk yt ys yn yl,.mk vk vt vs vn vl]) (i2:=i2) (by simp only [aA,seval]) (by simp [aB,bO,bc]) (hk _ lF nY ((s'.put E_ (by simp [u3])).put BS (by simp [m1,m2,m3,m4,u2])) ((gg.put (.inl k3) (by simp [u3])).put (.inl k2) (by simp [m1,m2,m3,m4,u2])) (by omega))
    | false=>
     simp only [k9,VF,Bool.or_false,Bool.false_eq_true,if_false] at hk
     cases SC:(k==11) with
     | true=>
       simp only [SC,if_true] at hk
       simp (maxSteps:=1000000) only [TK,k6,k9,VF,SC,n1,n2,m1,m2,m3,m4,cH,bx,aA,seval]
       refine ⟨.mk k t s n l,1,by rw [aB],?_⟩
       simp only [Nd.lD]
       cases cl:(l.length==1) with
       | false=>
        have hJ:((l.length:Int)==1)=false:=beq_eq_false_iff_ne.2 (by have:=beq_eq_false_iff_ne.1 cl; omega)
        have hk:∀h',Grow h h' c→E (ft 125) h':=by
         match l,cl,hk with
         | [],_,hk=>exact hk
         | [_],cl,_=>cases cl
         | _::_::_,_,hk=>exact hk
        simp (maxSteps:=1000000) only [hJ,cond_false,aX,ab,av,aA,seval]
        exact ⟨_,aa.aj _,hk _ ((eB _ _ _).grow c)⟩
       | true=>
        have hJ:((l.length:Int)==1)=true:=beq_iff_eq.2 (by have:=beq_iff_eq.1 cl; omega)
        obtain ⟨x0,vb⟩:∃x0,l=[x0]:=by
         match l,cl with
         | [x0],_=>exact ⟨x0,rfl⟩
        subst vb
        simp only at hk
        have yu:x0.cI≤1000000:=by rw [aD] at tg; omega
        have ie:∀(K:D→aa→Prop) (h:aa),fx 5 K h (Nd.bg [x0]) (0:Int)=K (.cO x0.enc 0) h:=fun K h=>cG (l:=[x0]) (i:=0) rfl
        obtain ⟨xk,xt,xs,xn,xl⟩:=x0
        rw [aB] at ie
        obtain ⟨pk,pt,ps,pn,pl⟩:=p
        rw [fV] at ho
        simp only [Nd.lD] at hk
        simp (maxSteps:=1000000) only [hJ,cond_true,ho,d1,d2,d3,n1,n2,m1,m2,m3,m4,ie,cH,bx,aA,seval]
        cases d:(ans==0) with
        | true=>
         have d':(ans != 0)=false:=by simp only [bne,d]; rfl
         simp only [d,if_true] at hk
         simp (maxSteps:=1000000) only [d',bz,cE,aE,cond_false,aX,ab,av,aA,seval]
         exact ⟨_,aa.aj _,hk _ ((eB _ _ _).grow c)⟩
        | false=>
         have d':(ans != 0)=true:=by simp only [bne,d]; rfl
         simp only [d,Bool.false_eq_true,if_false] at hk
         simp (maxSteps:=1000000) only [d',bz,cE,aW,cond_true,ho,d1,d2,d3,n1,n2,m1,m2,m3,m4,ie,cH,bx,aA,seval]
         refine ⟨c,.mk pk pt ps pn pl,sc,dn,dt,ans,.mk xk xt xs xn xl,ans,by rw [aB],hs.ext (eB _ _ _),yu,?_⟩
         cases hq:dG pl sc (.mk xk xt xs xn xl) ans with
         | error e=>
          rw [hq] at hk
          try simp only at hk
          rw [show dG (Nd.mk pk pt ps pn pl).lD sc (.mk xk xt xs xn xl) ans=_ from hq]
          simp only [dh,aE]
          intro σ hσ _
          simp only [aX]
          rw [hσ]
          simp only [ab,av]
          exact ⟨_,aa.aj _,hk _ ((eB _ _ _).grow c)⟩
         | ok y=>
          rw [hq] at hk
          try simp only at hk
          rw [show dG (Nd.mk pk pt ps pn pl).lD sc (.mk xk xt xs xn xl) ans=_ from hq]
          obtain ⟨yk,yt,ys,yn,yl⟩:=y
          simp (maxSteps:=1000000) only [eQ,aW,aB,n1,n2,m1,m2,m3,m4,af,ab,cH,bx,aA,seval]
          exact lY (x:=.mk k t s n [.mk yk yt ys yn yl]) (i2:=i2) (by simp only [aA,seval]) (by simp [aB,bO,bc]) ((eB _ _ _).set k2) (hk h dn dt hs (Grow.refl h c) (by omega))
     | false=>
      simp only [SC,Bool.false_eq_true,if_false] at hk
      cases k12:(k==12) with
      | true=>
       simp only [k12,if_true] at hk
       simp (maxSteps:=1000000) only [TK,k6,k9,VF,SC,k12,n1,n2,m1,m2,m3,m4,cH,bx,aA,seval]
       refine ⟨.mk k t s n l,1,by rw [aB],?_⟩
       simp only [Nd.lD]
       cases cl:(l.length==1) with
       | false=>
        have hJ:((l.length:Int)==1)=false:=beq_eq_false_iff_ne.2 (by have:=beq_eq_false_iff_ne.1 cl; omega)
        have hk:∀h',Grow h h' c→E (ft 125) h':=by
         match l,cl,hk with
         | [],_,hk=>exact hk
         | [_],cl,_=>cases cl
         | _::_::_,_,hk=>exact hk
        simp (maxSteps:=1000000) only [hJ,cond_false,aX,ab,av,aA,seval]
        exact ⟨_,aa.aj _,hk _ ((eB _ _ _).grow c)⟩
       | true=>
        have hJ:((l.length:Int)==1)=true:=beq_iff_eq.2 (by have:=beq_iff_eq.1 cl; omega)
        obtain ⟨x0,vb⟩:∃x0,l=[x0]:=by
         match l,cl with
         | [x0],_=>exact ⟨x0,rfl⟩
        subst vb
        simp only at hk
        have yu:x0.cI≤1000000:=by rw [aD] at tg; omega
        have ie:∀(K:D→aa→Prop) (h:aa),fx 5 K h (Nd.bg [x0]) (0:Int)=K (.cO x0.enc 0) h:=fun K h=>cG (l:=[x0]) (i:=0) rfl
        obtain ⟨xk,xt,xs,xn,xl⟩:=x0
        rw [aB] at ie
        simp (maxSteps:=1000000) only [hJ,cond_true,n1,n2,m1,m2,m3,m4,ie,cH,bx,aA,seval]
        refine ⟨c,p,sc,dn,dt,ans,.mk xk xt xs xn xl,3,by rw [aB],hs.ext (eB _ _ _),yu,?_⟩
        cases hq:dG p.lD sc (.mk xk xt xs xn xl) 3 with
        | error e=>
         rw [hq] at hk
         simp only at hk
         simp only [dh,aE,aX,ab,av]
         exact ⟨_,aa.aj _,hk _ ((eB _ _ _).grow c)⟩
        | ok y=>
         rw [hq] at hk
         simp only at hk
         obtain ⟨yk,yt,ys,yn,yl⟩:=y
         simp (maxSteps:=1000000) only [eQ,aW,aB,n1,n2,m1,m2,m3,m4,af,ab,cH,bx,aA,seval]
         exact lY (x:=.mk k t s n [.mk yk yt ys yn yl]) (i2:=i2) (by simp only [aA,seval]) (by simp [aB,bO,bc]) ((eB _ _ _).set k2) (hk h dn dt hs (Grow.refl h c) (by omega))
      | false=>
       simp only [k12,Bool.false_eq_true,if_false] at hk
       cases k13:(k==13) with
       | true=>
         simp only [k13,if_true] at hk
         simp (maxSteps:=1000000) only [TK,k6,k9,VF,SC,k12,k13,n1,n2,m1,m2,m3,m4,cH,bx,aA,seval]
         refine ⟨.mk k t s n l,1,by rw [aB],?_⟩
         simp only [Nd.lD]
         cases cl:(l.length==1) with
         | false=>
          have hJ:((l.length:Int)==1)=false:=beq_eq_false_iff_ne.2 (by have:=beq_eq_false_iff_ne.1 cl; omega)
          have hk:∀h',Grow h h' c→E (ft 125) h':=by
           match l,cl,hk with
           | [],_,hk=>exact hk
           | [_],cl,_=>cases cl
           | _::_::_,_,hk=>exact hk
          simp (maxSteps:=1000000) only [hJ,cond_false,aX,ab,av,aA,seval]
          exact ⟨_,aa.aj _,hk _ ((eB _ _ _).grow c)⟩
         | true=>
          have hJ:((l.length:Int)==1)=true:=beq_iff_eq.2 (by have:=beq_iff_eq.1 cl; omega)
          obtain ⟨x0,vb⟩:∃x0,l=[x0]:=by
           match l,cl with
           | [x0],_=>exact ⟨x0,rfl⟩
          subst vb
          simp only at hk
          have yu:x0.cI≤1000000:=by rw [aD] at tg; omega
          have ie:∀(K:D→aa→Prop) (h:aa),fx 5 K h (Nd.bg [x0]) (0:Int)=K (.cO x0.enc 0) h:=fun K h=>cG (l:=[x0]) (i:=0) rfl
          obtain ⟨xk,xt,xs,xn,xl⟩:=x0
          rw [aB] at ie
          simp (maxSteps:=1000000) only [hJ,cond_true,n1,n2,m1,m2,m3,m4,ie,cH,bx,aA,seval]
          cases d:(xk==24) with
          | false=>
           rw [if_neg (show ¬((Nd.mk xk xt xs xn xl).kD==24)=true from by show ¬(xk==24)=true; rw [d]; simp)] at hk
           simp (maxSteps:=1000000) only [d,bz,cE,aE,cond_false,aX,ab,av,aA,seval]
           exact ⟨_,aa.aj _,hk _ ((eB _ _ _).grow c)⟩
          | true=>
           rw [if_pos (show ((Nd.mk xk xt xs xn xl).kD==24)=true from d)] at hk
           simp (maxSteps:=1000000) only [d,bz,cE,aW,cond_true,n1,n2,m1,m2,m3,m4,ie,cH,bx,aA,seval]
           refine ⟨c,p,sc,dn,dt,ans,.mk xk xt xs xn xl,by rw [aB],hs.ext (eB _ _ _),yu,?_⟩
           cases hq:eh p.lD sc (.mk xk xt xs xn xl) with
           | error e=>
            rw [hq] at hk
            simp only at hk
            simp only [dh,aE,aX,ab,av]
            exact ⟨_,aa.aj _,hk _ ((eB _ _ _).grow c)⟩
           | ok y=>
            rw [hq] at hk
            simp only at hk
            obtain ⟨yk,yt,ys,yn,yl⟩:=y
            simp (maxSteps:=1000000) only [eQ,aW,aB,n1,n2,m1,m2,m3,m4,af,ab,cH,bx,aA,seval]
            exact lY (x:=.mk k t s n [.mk yk yt ys yn yl]) (i2:=i2) (by simp only [aA,seval]) (by simp [aB,bO,bc]) ((eB _ _ _).set k2) (hk h dn dt hs (Grow.refl h c) (by omega))
       | false=>
         simp only [k13,Bool.false_eq_true,if_false] at hk
         cases k78:(k==7 || k==8) with
         | false=>
          have k7:(k==7)=false:=by revert k78; cases (k==7)<;>simp
          have k8:(k==8)=false:=by revert k78; cases (k==8)<;>simp
          simp only [k78,k7,k8,Bool.or_false,Bool.false_eq_true,if_false] at hk
          simp (maxSteps:=1000000) only [TK,k6,k9,VF,SC,k12,k13,k7,k8,n1,n2,m1,m2,m3,m4,bz,cE,aE,cond_false,aX,ab,av,cH,bx,aA,seval]
          exact ⟨_,aa.aj _,hk _ ((eB _ _ _).grow c)⟩
         | true=>
          simp only [k78,if_true] at hk
          cases k7:(k==7) with
          | true=>
           simp (maxSteps:=1000000) only [TK,k6,k9,VF,SC,k12,k13,k7,bz,cE,aW,cond_true,n1,n2,m1,m2,m3,m4,cH,bx,aA,seval]
           refine ⟨.mk k t s n l,1,by rw [aB],?_⟩
           simp only [Nd.lD]
           cases cl:(l.length==1) with
           | false=>
            have hJ:((l.length:Int)==1)=false:=beq_eq_false_iff_ne.2 (by have:=beq_eq_false_iff_ne.1 cl; omega)
            have hk:∀h',Grow h h' c→E (ft 125) h':=by
             match l,cl,hk with
             | [],_,hk=>exact hk
             | [_],cl,_=>cases cl
             | _::_::_,_,hk=>exact hk
            simp (maxSteps:=1000000) only [hJ,cond_false,aX,ab,av,aA,seval]
            exact ⟨_,aa.aj _,hk _ ((eB _ _ _).grow c)⟩
           | true=>
            have hJ:((l.length:Int)==1)=true:=beq_iff_eq.2 (by have:=beq_iff_eq.1 cl; omega)
            obtain ⟨x0,vb⟩:∃x0,l=[x0]:=by
             match l,cl with
             | [x0],_=>exact ⟨x0,rfl⟩
            subst vb
            simp only at hk
            have yu:x0.cI≤1000000:=by rw [aD] at tg; omega
            have ie:∀(K:D→aa→Prop) (h:aa),fx 5 K h (Nd.bg [x0]) (0:Int)=K (.cO x0.enc 0) h:=fun K h=>cG (l:=[x0]) (i:=0) rfl
            obtain ⟨xk,xt,xs,xn,xl⟩:=x0
            rw [aB] at ie
            have hE0:iQ xk=(decide (xk≥20) && decide (xk≤27)):=by simp [iQ]
            by_cases nj:20≤xk
            ·have g1:(xk≥20)=True:=eq_true nj
             by_cases nn:xk≤27
             ·have hE:iQ (Nd.mk xk xt xs xn xl).kD=true:=by simp [Nd.kD,iQ,nj,nn]
              have g2:decide (xk≤27)=true:=by simp [nn]
              rw [if_pos hE] at hk
              simp (maxSteps:=1000000) only [hJ,cond_true,g1,g2,k7,bz,cE,aW,n1,n2,m1,m2,m3,m4,ie,cH,bx,aA,seval]
              refine ⟨c,p,sc,dn,dt,ans,.mk xk xt xs xn xl,by rw [aB],hs.ext (eB _ _ _),yu,?_⟩
              cases hq:eh p.lD sc (.mk xk xt xs xn xl) with
              | error e=>
               rw [hq] at hk
               simp only at hk
               simp only [dh,aE,aX,ab,av]
               exact ⟨_,aa.aj _,hk _ ((eB _ _ _).grow c)⟩
              | ok y=>
               rw [hq] at hk
               simp only at hk
               obtain ⟨yk,yt,ys,yn,yl⟩:=y
               simp (maxSteps:=1000000) only [eQ,aW,aB,n1,n2,m1,m2,m3,m4,k7,cH,bx,aA,seval]
               intro i4 o1 o2 o3 o4 o5 o6 k4
               have d4:¬c=i4:=fun e=>by rw [e,k4] at ho; cases ho
               have d4':¬i4=c:=fun e=>d4 e.symm
               have uc:∀o o' Ie o3,Ext h ((((h.set i1 o).set i2 o').set i3 Ie).set i4 o3):=fun o o' Ie o3=>(eB o o' Ie).set k4
               simp only [Nd.tD] at hk
               simp only [k7,if_true] at hk
               simp (maxSteps:=1000000) only [k7,n1,n2,m1,m2,m3,m4,o1,o2,o3,o4,o5,o6,cH,bx,aA,seval]
               refine ⟨c,p,sc,dn,dt,ans,s,yt,rfl,hs.ext (uc _ _ _ _),by omega,?_⟩
               cases hd:p7 p.lD sc s yt with
               | error e=>
                rw [hd] at hk
                simp only at hk ⊢
                simp only [aX,ab,av]
                exact ⟨_,aa.aj _,hk _ ((uc _ _ _ _).grow c)⟩
               | ok sc'=>
                rw [hd] at hk
                simp only at hk ⊢
                intro h' lF nY s' g
                have hl:=G4 hd
                have gg:=((uc _ _ _ _).grow c).trans g
                have sC:∀{ds:List D},∀sz aY xs du,cJ.cells ds≠.dz sz aY xs du:=fun _ _ _ _ e=>by cases e
                have u2:=g.fM i2 (.cells [.int .i64 0,.int .i64 0,.str [],.int .i64 0,.aZ]) (by simp [n1,n2,m1,m2,m3,m4,o1,o2,o3,o4,o5,o6]) BS sC
                have u3:=g.fM i3 (.cells [.int .i64 k,.int .i64 t,.str s,.int .i64 n,.sl (Nd.bg [.mk xk xt xs xn xl])]) (by simp [n1,n2,m1,m2,m3,m4,o1,o2,o3,o4,o5,o6]) E_ sC
                have u4:=g.fM i4 (.cells [.int .i64 yk,.int .i64 yt,.str ys,.int .i64 yn,.sl (Nd.bg yl)]) (by simp [n1,n2,m1,m2,m3,m4,o1,o2,o3,o4,o5,o6]) d4' sC
                simp (maxSteps:=1000000) only [u2,u3,u4,n1,n2,m1,m2,m3,m4,o1,o2,o3,o4,o5,o6,af,ab,cH,bx,aA,seval]
                refine mf (x:=.mk k t s n [.mk yk yt ys yn yl]) (i2:=i2) (by simp only [aA,seval]) (by simp [aB,bO,bc]) (hk _ lF nY ((s'.put E_ (by simp [u3])).put BS (by simp [m1,m2,m3,m4,u2])) ((gg.put (.inl k3) (by simp [u3])).put (.inl k2) (by simp [m1,m2,m3,m4,u2])) hl)
             ·have hE:iQ (Nd.mk xk xt xs xn xl).kD=false:=by simp [Nd.kD,iQ,nn]
              have g2:decide (xk≤27)=false:=by simp [nn]
              rw [if_neg (by rw [hE]; simp)] at hk
              simp (maxSteps:=1000000) only [hJ,cond_true,cond_false,g1,g2,k7,bz,cE,aW,aE,n1,n2,m1,m2,m3,m4,ie,aX,ab,av,cH,bx,aA,seval]
              exact ⟨_,aa.aj _,hk _ ((eB _ _ _).grow c)⟩
            ·have g1:(xk≥20)=False:=eq_false nj
             have hE:iQ (Nd.mk xk xt xs xn xl).kD=false:=by simp [Nd.kD,iQ,nj]
             rw [if_neg (by rw [hE]; simp)] at hk
             simp (maxSteps:=1000000) only [hJ,cond_true,cond_false,g1,k7,bz,cE,aW,aE,n1,n2,m1,m2,m3,m4,ie,aX,ab,av,cH,bx,aA,seval]
             exact ⟨_,aa.aj _,hk _ ((eB _ _ _).grow c)⟩
          | false=>
           have k8:(k==8)=true:=by revert k78; rw [k7]; simp
           simp (maxSteps:=1000000) only [TK,k6,k9,VF,SC,k12,k13,k7,k8,bz,cE,aW,cond_true,n1,n2,m1,m2,m3,m4,cH,bx,aA,seval]
           refine ⟨.mk k t s n l,1,by rw [aB],?_⟩
           simp only [Nd.lD]
           cases cl:(l.length==1) with
           | false=>
            have hJ:((l.length:Int)==1)=false:=beq_eq_false_iff_ne.2 (by have:=beq_eq_false_iff_ne.1 cl; omega)
            have hk:∀h',Grow h h' c→E (ft 125) h':=by
             match l,cl,hk with
             | [],_,hk=>exact hk
             | [_],cl,_=>cases cl
             | _::_::_,_,hk=>exact hk
            simp (maxSteps:=1000000) only [hJ,cond_false,aX,ab,av,aA,seval]
            exact ⟨_,aa.aj _,hk _ ((eB _ _ _).grow c)⟩
           | true=>
            have hJ:((l.length:Int)==1)=true:=beq_iff_eq.2 (by have:=beq_iff_eq.1 cl; omega)
            obtain ⟨x0,vb⟩:∃x0,l=[x0]:=by
             match l,cl with
             | [x0],_=>exact ⟨x0,rfl⟩
            subst vb
            simp only at hk
            have yu:x0.cI≤1000000:=by rw [aD] at tg; omega
            have ie:∀(K:D→aa→Prop) (h:aa),fx 5 K h (Nd.bg [x0]) (0:Int)=K (.cO x0.enc 0) h:=fun K h=>cG (l:=[x0]) (i:=0) rfl
            obtain ⟨xk,xt,xs,xn,xl⟩:=x0
            rw [aB] at ie
            have hE0:iQ xk=(decide (xk≥20) && decide (xk≤27)):=by simp [iQ]
            by_cases nj:20≤xk
            ·have g1:(xk≥20)=True:=eq_true nj
             by_cases nn:xk≤27
             ·have hE:iQ (Nd.mk xk xt xs xn xl).kD=true:=by simp [Nd.kD,iQ,nj,nn]
              have g2:decide (xk≤27)=true:=by simp [nn]
              rw [if_pos hE] at hk
              simp (maxSteps:=1000000) only [hJ,cond_true,g1,g2,k7,k8,bz,cE,aW,n1,n2,m1,m2,m3,m4,ie,cH,bx,aA,seval]
              refine ⟨c,p,sc,dn,dt,ans,.mk xk xt xs xn xl,by rw [aB],hs.ext (eB _ _ _),yu,?_⟩
              cases hq:eh p.lD sc (.mk xk xt xs xn xl) with
              | error e=>
               rw [hq] at hk
               simp only at hk
               simp only [dh,aE,aX,ab,av]
               exact ⟨_,aa.aj _,hk _ ((eB _ _ _).grow c)⟩
              | ok y=>
               rw [hq] at hk
               simp only at hk
               obtain ⟨yk,yt,ys,yn,yl⟩:=y
               simp (maxSteps:=1000000) only [eQ,aW,aB,n1,n2,m1,m2,m3,m4,k7,k8,cH,bx,aA,seval]
               intro i4 o1 o2 o3 o4 o5 o6 k4
               have d4:¬c=i4:=fun e=>by rw [e,k4] at ho; cases ho
               have d4':¬i4=c:=fun e=>d4 e.symm
               have uc:∀o o' Ie o3,Ext h ((((h.set i1 o).set i2 o').set i3 Ie).set i4 o3):=fun o o' Ie o3=>(eB o o' Ie).set k4
               simp only [Nd.tD] at hk
               simp only [k7,Bool.false_eq_true,if_false] at hk
               simp (maxSteps:=1000000) only [k7,n1,n2,m1,m2,m3,m4,o1,o2,o3,o4,o5,o6,cH,bx,aA,seval]
               refine ⟨c,p,sc,dn,dt,ans,s,rfl,hs.ext (uc _ _ _ _),?_⟩
               cases hd:mQ p.lD sc s with
               | error e=>
                rw [hd] at hk
                simp only at hk
                simp only [cR,aE]
                intro σ hσ _
                simp only [aX]
                rw [hσ]
                simp only [ab,av]
                exact ⟨_,aa.aj _,hk _ ((uc _ _ _ _).grow c)⟩
               | ok t'=>
                rw [hd] at hk
                simp only at hk
                cases dd:(t'==yt) with
                | false=>
                 simp only [dd,Bool.false_eq_true,if_false] at hk
                 simp (maxSteps:=1000000) only [dW,aW,dd,bz,cE,aE,cond_false,n1,n2,m1,m2,m3,m4,o1,o2,o3,o4,o5,o6,cH,bx,aA,seval]
                 intro σ hσ _
                 simp only [aX]
                 rw [hσ]
                 simp only [ab,av]
                 exact ⟨_,aa.aj _,hk _ ((uc _ _ _ _).grow c)⟩
                | true=>
                 simp only [dd,if_true] at hk
                 simp (maxSteps:=1000000) only [dW,aW,dd,bz,cE,cond_true,n1,n2,m1,m2,m3,m4,o1,o2,o3,o4,o5,o6,af,ab,cH,bx,aA,seval]
                 exact lY (x:=.mk k t s n [.mk yk yt ys yn yl]) (i2:=i2) (by simp only [aA,seval]) (by simp [aB,bO,bc]) (((uc _ _ _ _).set k3).set k2) (hk h dn dt hs (Grow.refl h c) (by omega))
             ·have hE:iQ (Nd.mk xk xt xs xn xl).kD=false:=by simp [Nd.kD,iQ,nn]
              have g2:decide (xk≤27)=false:=by simp [nn]
              rw [if_neg (by rw [hE]; simp)] at hk
              simp (maxSteps:=1000000) only [hJ,cond_true,cond_false,g1,g2,k7,k8,bz,cE,aW,aE,n1,n2,m1,m2,m3,m4,ie,aX,ab,av,cH,bx,aA,seval]
              exact ⟨_,aa.aj _,hk _ ((eB _ _ _).grow c)⟩
            ·have g1:(xk≥20)=False:=eq_false nj
             have hE:iQ (Nd.mk xk xt xs xn xl).kD=false:=by simp [Nd.kD,iQ,nj]
             rw [if_neg (by rw [hE]; simp)] at hk
             simp (maxSteps:=1000000) only [hJ,cond_true,cond_false,g1,k7,k8,bz,cE,aW,aE,n1,n2,m1,m2,m3,m4,ie,aX,ab,av,cH,bx,aA,seval]
             exact ⟨_,aa.aj _,hk _ ((eB _ _ _).grow c)⟩
end
end Go.Proofs.YtpklkpkfgmoghaaGreatDoor.Zz
