/- Contracts: the generator of programs: blocks. -/
import Derived.Test.YtpklkpkfgmoghaaGreatDoorZS5
set_option linter.unnecessarySimpa false
set_option linter.unusedVariables false
set_option linter.unusedSimpArgs false
set_option maxRecDepth 20000
namespace Go.Proofs.YtpklkpkfgmoghaaGreatDoor.Zz
noncomputable section
def acw:b7:=⟨⟨[],[(2,1),(6,1),(9,1),(12,5),(15,1),(16,1),(18,5),(18,11),(20,2),(20,10),(21,1),(22,6),(27,7),(27,18),(29,2),(31,2),(31,3)],[],[((18,11),[(.t 5)]),((18,11),[(.t 76)]),((20,2),[(.t 5)]),((27,7),[(.t 5)])],[((18,7),(.t 5)),((18,7),(.t 76))],[]⟩,[(11,[0,4,5,1,2,3,6,7,8]),(18,[0,1,2,3,4,9,10,5,6,7,8,11,12,13,14,15]),(20,[0,1,5,6,7,8,9,2,3,4,10,11,12,13,14]),(26,[0,4,5,1,2,3,6,7,8]),(27,[0,1,2,3,4,5,6,11,12,13,15,16,17,20,23,7,8,9,10,14,18,19,21,22,24,25,26,27])],[],false⟩
def Zj:dA:=
 sO [oQ (.box (.t 1)) 5,
 oP (.cg (kS [])) 8]
 (sO [oP (.cg (kS [])) 9]
 (sO [oM 0 20,
 oC 13 [.t 20,kI 4] 21,
 oM 21 10]
 (.seq (sO [oP (.cg (kI 0)) 11]
 (.block 0 (.loop (.seq (sO [oM 11 22,
 oM 10 23,
 oE .lss 22 23 24]
 (.cond (.t 24)
 (.skip)
 (.exit 0)))
 (.seq (.block 1 (sO [oM 0 27,
 oC 13 [.t 27,kI 7] 28,
 oM 28 12]
 (.block 2 (sO [oM 12 32,
 oH .eql 32 0 33,
 oM 33 31]
 (.cond (.t 31)
 (sO [oM 0 34,
 oC 13 [.t 34,kI 3] 35,
 oM 35 13]
 (sO [oF 4 5 36,
 oL 36 37,
 oH .add 37 1 38,
 oF 4 5 39,
 oS 1 39 38]
 (.seq (.fq 14 [oM 2 40,
 oF 4 5 44,
 oL 44 45,
 oD 14 [.t 40] 41,
 oP (.bin .add (kS [118]) (.t 41)) 42,
 oP (.bin .add (.t 42) (kS [120])) 43,
 oD 14 [.t 45] 46,
 oE .add 43 46 47,
 oM 47 14])
 (sO [oM 9 48,
 oM 14 49,
 oP (.bin .add (.t 49) (kS [32,58,61,32])) 50,
 oM 0 51,
 oM 13 52,
 oC 19 [.t 51,.t 5,.t 52,kI 2] 53,
 oE .add 50 53 54,
 oP (.bin .add (.t 54) (kS [59,10])) 55,
 oE .add 48 55 56,
 oM 56 9]
 (.ops [oJ 5 5 57,
 oM 14 58,
 oM 13 59,
 oD 17 [.t 57,.t 58,.t 59] 60,
 oS 5 5 60])))))
 (sO [oM 12 62,
 oH .eql 62 1 63,
 oM 63 64,
 oG (.cg (.t 12)) 65 64 false true,
 oG (.bin .eql (.t 65) (kI 2)) 66 64 false true,
 oP (.pick (.t 64) (kB true) (.t 66)) 67,
 oM 67 61]
 (.cond (.t 61)
 (sO [oM 0 68,
 oC 13 [.t 68,kI 3] 69,
 oM 69 15]
 (sO [oM 15 70,
 oC 31 [.t 5,.t 70] 71,
 oM 71 16]
 (sO [oM 16 72,
 oZ 72 73,
 oH .gtr 73 0 74]
 (.cond (.t 74)
 (.fq 9 [oM 9 75,
 oM 16 76,
 oM 0 77,
 oM 16 78,
 oP (.pR .sl (.t 78)) 79,
 oM 0 84,
 oM 15 85,
 oC 13 [.t 77,.t 79] 80,
 oP (.aY 1 (.t 76) (.t 80)) 81,
 oQ (.cK none (.t 81) (.t 5)) 82,
 oP (.bin .add (.t 82) (kS [32,61,32])) 83,
 oQ (.callNe (.f 19) [(.t 84),(.t 5),(.t 85),(kI 2)] [(.t 5)]) 86,
 oE .add 83 86 87,
 oP (.bin .add (.t 87) (kS [59,10])) 88,
 oE .add 75 88 89,
 oM 89 9])
 (.skip)))))
 (sO [oM 12 91,
 oH .eql 91 3 92,
 oM 92 93,
 oG (.cg (.t 2)) 94 93 true true,
 oG (.bin .gtr (.t 94) (kI 0)) 95 93 true true,
 oP (.pick (.t 93) (.t 95) (kB false)) 96,
 oM 96 90]
 (.cond (.t 90)
 (.seq (.fq 9 [oM 9 97,
 oM 0 98,
 oM 0 102,
 oJ 5 5 103,
 oM 2 104,
 oH .sub 104 1 105,
 oM 3 106,
 oQ (.callNe (.f 19) [(.t 98),(.t 5),(kI 2),(kI 2)] [(.t 5)]) 99,
 oP (.bin .add (kS [105,102,32]) (.t 99)) 100,
 oP (.bin .add (.t 100) (kS [32,123,10])) 101,
 oC 18 [.t 102,.t 103,.t 105,.t 106] 107,
 oE .add 101 107 108,
 oP (.bin .add (.t 108) (kS [125])) 109,
 oE .add 97 109 110,
 oM 110 9])
 (.seq (sO [oM 0 111,
 oC 13 [.t 111,kI 2] 112,
 oH .eql 112 1 113]
 (.cond (.t 113)
 (.ops [oM 9 114,
 oM 0 115,
 oJ 5 5 116,
 oM 2 117,
 oH .sub 117 1 118,
 oM 3 119,
 oC 18 [.t 115,.t 116,.t 118,.t 119] 120,
 oP (.bin .add (kS [32,101,108,115,101,32,123,10]) (.t 120)) 121,
 oP (.bin .add (.t 121) (kS [125])) 122,
 oE .add 114 122 123,
 oM 123 9])
 (.skip)))
 (.ops [oM 9 124,
 oP (.bin .add (.t 124) (kS [10])) 125,
 oM 125 9])))
 (sO [oM 12 127,
 oH .eql 127 4 128,
 oM 128 129,
 oG (.cg (.t 2)) 130 129 true true,
 oG (.bin .gtr (.t 130) (kI 0)) 131 129 true true,
 oP (.pick (.t 129) (.t 131) (kB false)) 132,
 oM 132 126]
 (.cond (.t 126)
 (sO [oF 4 5 133,
 oL 133 134,
 oH .add 134 1 135,
 oF 4 5 136,
 oS 1 136 135]
 (.seq (.fq 17 [oM 2 137,
 oF 4 5 141,
 oL 141 142,
 oD 14 [.t 137] 138,
 oP (.bin .add (kS [105]) (.t 138)) 139,
 oP (.bin .add (.t 139) (kS [120])) 140,
 oD 14 [.t 142] 143,
 oE .add 140 143 144,
 oM 144 17])
 (.fq 9 [oM 9 145,
 oM 17 146,
 oP (.bin .add (.t 146) (kS [32,58,61,32,48,59,10,102,111,114,32,40])) 147,
 oM 17 148,
 oE .add 147 148 149,
 oP (.bin .add (.t 149) (kS [32,60,32])) 150,
 oM 0 151,
 oM 0 156,
 oJ 5 5 157,
 oM 17 158,
 oM 2 160,
 oH .sub 160 1 161,
 oM 3 162,
 oM 17 165,
 oM 17 168,
 oQ (.callNe (.f 13) [(.t 151),(kI 4)] [(.t 5)]) 152,
 oD 14 [.t 152] 153,
 oE .add 150 153 154,
 oP (.bin .add (.t 154) (kS [41,32,123,10])) 155,
 oD 17 [.t 157,.t 158,kI 0] 159,
 oC 18 [.t 156,.t 159,.t 161,.t 162] 163,
 oE .add 155 163 164,
 oE .add 164 165 166,
 oP (.bin .add (.t 166) (kS [32,61,32,40])) 167,
 oE .add 167 168 169,
 oP (.bin .add (.t 169) (kS [32,43,32,49,41,59,10,125,10])) 170,
 oE .add 145 170 171,
 oM 171 9])))
 (sO [oM 12 173,
 oH .eql 173 5 174,
 oM 174 175,
 oG (.cg (.t 3)) 176 175 true true,
 oP (.pick (.t 175) (.t 176) (kB false)) 177,
 oM 177 172]
 (.cond (.t 172)
 (.ops [oM 9 178,
 oM 0 179,
 oC 19 [.t 179,.t 5,kI 2,kI 3] 180,
 oP (.bin .add (kS [97,115,115,101,114,116,32]) (.t 180)) 181,
 oP (.bin .add (.t 181) (kS [59,10])) 182,
 oE .add 178 182 183,
 oM 183 9])
 (sO [oM 12 185,
 oH .eql 185 6 186,
 oM 186 184]
 (.cond (.t 184)
 (sO [oM 0 188,
 oM 0 189,
 oC 13 [.t 189,kI 3] 190,
 oC 32 [.t 188,.t 5,.t 190,kI 2] 191,
 oM 191 187,
 oX 187 0 192,
 oX 187 1 193,
 oM 192 18,
 oM 193 19]
 (sO [oM 19 194]
 (.cond (.t 194)
 (.ops [oM 9 195,
 oM 18 196,
 oP (.bin .add (.t 196) (kS [59,10])) 197,
 oE .add 195 197 198,
 oM 198 9])
 (.skip))))
 (.ops [oM 9 29,
 oP (.bin .add (.t 29) (kS [115,107,105,112,59,10])) 30,
 oM 30 9]))))))))))))))))
 (.ops [oM 11 25,
 oH .add 25 1 26,
 oM 26 11]))))))
 (sO [oM 9 199,
 oM 199 8]
 (.ret)))))
theorem ZQ:bE Tryz.prog 18 acw=some (Zj,[.tmp 8],200):=by kernel_rfl
structure qb (s:Nm) (r:Nat):Prop where
 ok:gN s
 fn:s.funcs.length≤1000
 l0:s.ints.length+r≤1000
 l1:s.vy.length+r≤1000
 l2:s.nf.length+r≤1000
 fr:s.fresh+r≤20
theorem qb.sm {s:Nm} {r:Nat} (h:qb s r):Kz s:=⟨h.ok,h.fn,by have:=h.l0; omega,by have:=h.l1; omega,by have:=h.l2; omega⟩
theorem qb.le {s:Nm} {r r':Nat} (h:qb s r) (e:r'≤r):qb s r':=⟨h.ok,h.fn,by have:=h.l0; omega,by have:=h.l1; omega,by have:=h.l2; omega,by have:=h.fr; omega⟩
theorem qb.up {s:Nm} {r:Nat} (h:qb s (r+1)):qb { s with fresh:=s.fresh+1 } r:=⟨h.ok.fresh _,h.fn,by have:=h.l0; simp only; omega,by have:=h.l1; simp only; omega,by have:=h.l2; simp only; omega,by have:=h.fr; simp only; omega⟩
theorem qb.upW {s:Nm} {r:Nat} (h:qb s (r+1)) {x:List UInt8} (h1:fm x) (h2:2≤x.length) (t:Int):qb (({ s with fresh:=s.fresh+1 }:Nm).with x t) r:=by
 have hk:=(h.ok.fresh (s.fresh+1)).with h1 h2 t
 obtain ⟨_,a,b,c,d,e⟩:=h
 refine ⟨hk,?_,?_,?_,?_,by rw [gf]; simp only; omega⟩
 all_goals
  unfold Nm.with
  split
  ·simp; omega
  ·split<;>(simp; omega)
def nc (L:List Int) (test:Bool):Nat→Nm→Nat→List GS×Nat
 | 0=>fun _ b=>([],b)
 | d+1=>du L test d
theorem KK (L:List Int) (test:Bool) (d:Nat) (s:Nm) (a:Nat):du L test d s a=dJ L (nc L test d) d test (bU L 4 a).1.toNat s (bU L 4 a).2:=by
 cases d<;>rfl
def ep (s:Nm):cI:=.cells [.sl (cE s.ints),.sl (cE s.vy),.sl (cE s.nf),.sl (dF s.funcs),.int .i64 (s.fresh:Int)]
theorem Bf {h:aa} {q:Nat} {s:Nm} (e:h.f q=some (ep s)):uR h q s (.sl (cE s.ints)) (.sl (cE s.vy)) (.sl (cE s.nf)) (.sl (dF s.funcs)):=⟨e,.inl rfl,.inl rfl,.inl rfl,.inl rfl⟩
def XE (G:Nat) (args:List D) (h:aa) (K E:D→aa→Prop):Prop:=∃(p:Nat) (L:List Int) (a:Nat) (s:Nm) (d:Nat) (test:Bool),args=[.ptr p 1 0,NV s,.int .i64 (d:Int),.bool test]∧d<G∧d≤2∧h.f p=some (mR L a)∧qb s (3+3*d)∧
 K (.str (GS.cT 10 (du L test d s a).1 [])) (h.set p (mR L (du L test d s a).2))
theorem Mr (G:Nat) (args:List D) (h:aa) (K E K' E':D→aa→Prop) (hk:∀d h,K d h→K' d h) (he:∀d h,E d h→E' d h) (c:XE G args h K E):XE G args h K' E':=by
 obtain ⟨p,L,a,s,d,test,x1,x2,x3,x4,x5,k⟩:=c
 exact ⟨p,L,a,s,d,test,x1,x2,x3,x4,x5,hk _ _ k⟩
def QR (G:Nat):bf:=(Me 4).j6 18 (XE G) (Mr G)
theorem TR {G:Nat}:(QR G).q=(Me 4).q:=rfl
theorem TP {G:Nat}:(QR G).a=(Me 4).a:=rfl
theorem TQ {G:Nat} (g:FuncId) (args:List D) (h:aa) (K E:D→aa→Prop):(QR G).c g args h K E=if g=18 then XE G args h K E else (Me 4).c g args h K E:=rfl
theorem bS:type_of% (And.intro (And.intro @TR (And.intro @TP @TQ)) @cZ):=(And.intro (And.intro @TR (And.intro @TP @TQ)) @cZ)
theorem eg:∀(l r:List GS),GS.cT 10 (l++r) []=GS.cT 10 l []++GS.cT 10 r []
 | [],r=>by rw [List.nil_append,GS.cT]; rfl
 | s::l,r=>by
  rw [List.cons_append,GS.cT,GS.cT,eg l r,rm s (10::(GS.cT 10 l []++_)),rm s (10::GS.cT 10 l [])]
  simp
theorem WY (x:List UInt8) (e:GE):GS.cT 10 [.jS x e] []=x++([32,58,61,32]++(e.tx []++[59,10])):=by rw [GS.cT,GS.tx,GS.cT,cv e]; simp
theorem Qn (x:List UInt8) (e:GE):GS.cT 10 [.mX x e] []=x++([32,61,32]++(e.tx []++[59,10])):=by rw [GS.cT,GS.tx,GS.cT,cv e]; simp
theorem uP:GS.cT 10 [.skip] []=[115,107,105,112,59,10]:=by rw [GS.cT,GS.tx,GS.cT]; rfl
theorem Kj (e:GE):GS.cT 10 [.iM e] []=[97,115,115,101,114,116,32]++(e.tx []++[59,10]):=by rw [GS.cT,GS.tx,GS.cT,cv e]; simp [ld]
theorem aau (x:List UInt8) (l:List GE):GS.cT 10 [.xF x l] []=(GE.call x l).tx []++[59,10]:=by rw [GS.cT,GS.tx,GS.cT,GE.tx,jX l,jX l [41]]; simp
theorem aav (e:GE) (l:List GS):GS.cT 10 [.yS e l] []=[105,102,32]++(e.tx []++([32,123,10]++(GS.cT 10 l []++[125,10]))):=by rw [GS.cT,GS.tx,GS.cT,cv e,dk l]; simp [Fq]
theorem W0 (e:GE) (l r:List GS):GS.cT 10 [.yR e l r] []=[105,102,32]++(e.tx []++([32,123,10]++(GS.cT 10 l []++([125,32,101,108,115,101,32,123,10]++(GS.cT 10 r []++[125,10]))))):=by rw [GS.cT,GS.tx,GS.cT,cv e,dk l,dk r]; simp [Fq,jM]
theorem WZ (x q:List UInt8) (l:List GS):GS.cT 10 [.jS x (.int [48]),.lJ (.bin [60] (.var x) (.int q)) (l++[.mX x (.bin [43] (.var x) (.int [49]))])] []=
  x++([32,58,61,32,48,59,10,102,111,114,32,40]++(x++([32,60,32]++(q++([41,32,123,10]++(GS.cT 10 l []++(x++([32,61,32,40]++(x++[32,43,32,49,41,59,10,125,10]))))))))):=by
 rw [GS.cT,GS.cT,GS.tx,GS.cT,GS.tx,dk (l++_),eg,Qn]
 simp [GE.tx,Fg]
theorem FE (G:Nat) (hT:(QR G).ok Tryz.prog) (args:List D) (h:aa) (K E:D→aa→Prop) (c:XE (G+1) args h K E):aO Tryz.prog 18 args h (dn.to K E):=by
 obtain ⟨p,L,a,s,d,test,rfl,hG,hd,hp,nz,k⟩:=c
 refine aO.c8 hT (dc:=cJ.none) (fun _ _=>cJ.eM) (by kernel_rfl) ZQ (by simp) ?_
 rw [dz]
 rw [KK] at k
 have hr:=bW L (n:=4) (by decide) a
 simp (maxSteps:=1000000) only [Zj,NV,bS,az,aB,seval]
 intro i1 k1
 have n1:¬i1=p:=fun e=>by rw [e,hp] at k1; cases k1
 have cV:¬p=i1:=fun e=>n1 e.symm
 refine ⟨p,L,a,4,rfl,by simp [cV,hp],by decide,by decide,?_⟩
 generalize bU L 4 a=nb at k hr ⊢
 obtain ⟨n0,b0⟩:=nb
 simp only at k hr ⊢
 simp (maxSteps:=1000000) only [n1,cV,hp,bS,az,aB,seval]
 obtain ⟨n,rfl⟩:∃n:Nat,n0=(n:Int):=⟨n0.toNat,by omega⟩
 rw [Int.toNat_natCast] at k
 have hn:n≤3:=by omega
 have tot:sl (dJ L (nc L test d) d test n s b0).1≤38829:=by
  have h1:=o5 (L:=L) (blk:=nc L test d) (test:=test) hd (fun e he s a hs hf=>by subst he; exact gS e (by omega) s a hs hf) n s b0 nz.ok (by have:=nz.fr; omega)
  have h2:qL d≤12943:=by
   match d,hd with
   | 0,_=>decide
   | 1,_=>decide
   | 2,_=>decide
  have h3:=Nat.mul_le_mul hn h2
  omega
 refine cS (X:=Nat×Nm×Nat×List GS) (fun z=>[(0,.ptr p 1 0),(2,.int .i64 (d:Int)),(3,.bool test),(5,.ptr i1 1 0),(8,.str []),(9,.str (GS.cT 10 z.2.2.2 [])),(10,.int .i64 (n:Int)),(11,.int .i64 (z.1:Int))]) (fun z=>(h.set i1 (ep z.2.1)).set p (mR L z.2.2.1)) (fun z=>n - z.1)
  (fun z=>z.1≤n∧qb z.2.1 (n - z.1+3*d)∧dJ L (nc L test d) d test n s b0=(z.2.2.2++(dJ L (nc L test d) d test (n - z.1) z.2.1 z.2.2.1).1,(dJ L (nc L test d) d test (n - z.1) z.2.1 z.2.2.1).2)) (0,s,b0,[])
  ⟨Nat.zero_le _,nz.le (by omega),rfl⟩ (by simp only [GS.cT,az,aB,seval]) (aa.aS _) ?_
 rintro ⟨i,s',b,done⟩ Q ⟨j0,j1,j2⟩ hQ
 simp only at j0 j1 j2 hQ ⊢
 rw [j2] at tot
 by_cases ci:i<n
 ·have Rk:(GS.cT 10 done []).length≤38829:=by
   have:sl done=(GS.cT 10 done []).length:=rfl
   rw [sC] at tot
   omega
  clear tot
  obtain ⟨m,hm⟩:∃m,n - i=m+1:=⟨n - i - 1,by omega⟩
  rw [hm] at j1 j2
  have g:((i:Int)<(n:Int))=True:=eq_true (by omega)
  have wi:IntKind.i64.wrap ((i:Int)+1)=((i+1:Nat):Int):=cW (by omega)
  have K_:n - (i+1)=m:=by omega
  have hr7:=bW L (n:=7) (by decide) b
  rw [dJ] at j2
  have fin:∀(Fp:Nm) (b2:Nat) (QT:List GS),qb Fp (m+3*d)→dJ L (nc L test d) d test n s b0=((done++QT)++(dJ L (nc L test d) d test m Fp b2).1,(dJ L (nc L test d) d test m Fp b2).2)→
    ∀(σ:Fr) (A:aa),Md [(0,.ptr p 1 0),(2,.int .i64 (d:Int)),(3,.bool test),(5,.ptr i1 1 0),(8,.str []),(9,.str (GS.cT 10 (done++QT) [])),(10,.int .i64 (n:Int)),(11,.int .i64 ((i+1:Nat):Int))] σ→((h.set i1 (ep Fp)).set p (mR L b2)).sub A→Q σ A:=fun Fp b2 QT a1 a2 σ A l1 l2=>
   hQ (i+1,Fp,b2,done++QT) σ A ⟨by omega,by rw [K_]; exact a1,by rw [K_]; exact a2⟩ l1 l2 (by simp only; omega)
  simp (maxSteps:=1000000) only [n1,cV,hp,g,bS,az,aB,seval]
  refine ⟨p,L,b,7,rfl,by simp,by decide,by decide,?_⟩
  generalize bU L 7 b=kb at j2 hr7 ⊢
  obtain ⟨kk,c⟩:=kb
  simp only at j2 hr7 ⊢
  have Tj:=fun (h:aa) (s:Nm) (e:h.f i1=some (ep s))=>Bf e
  by_cases z0:kk=0
  ·rw [if_pos z0] at j2
   subst z0
   have wf:IntKind.i64.wrap ((s'.fresh:Int)+1)=((s'.fresh+1:Nat):Int):=cW (by have:=j1.fr; omega)
   have fr:=j1.fr
   have nv:=RF hd (f:=s'.fresh+1) (by omega)
   have j1':=(j1.le (show m+3*d+1≤m+1+3*d by omega)).upW nv.1.1 nv.1.2
   have ju:=(j1.le (show m+3*d+1≤m+1+3*d by omega)).up
   have xv:sq [.int .i64 (d:Int)]=some (.str (bK d)):=if_pos ⟨by omega,by omega⟩
   have HY:sq [.int .i64 ((s'.fresh+1:Nat):Int)]=some (.str (bK (s'.fresh+1))):=if_pos ⟨by omega,by omega⟩
   simp (maxSteps:=1000000) only [n1,cV,hp,ep,bS,az,aB,seval]
   refine ⟨p,L,c,3,rfl,by simp,by decide,by decide,?_⟩
   generalize bU L 3 c=tq at j2 ⊢
   obtain ⟨t,ct⟩:=tq
   simp only at j2 ⊢
   simp (maxSteps:=1000000) only [n1,cV,hp,wf,xv,HY,bS,az,aB,seval]
   have Rr:=Be nv.1.1
   simp only [List.length_append,List.length_cons,List.length_nil] at Rr
   repeat refine And.intro (by first | omega | (simp only [List.length_append,List.length_cons,List.length_nil]; omega)) ?_
   refine ⟨p,L,ct,i1,{ s' with fresh:=s'.fresh+1 },_,_,_,_,t,2,rfl,by omega,by omega,by simp [cV],Tj _ _ (by simp [ep]),ju.sm,?_⟩
   have hw:=uK (s:={ s' with fresh:=s'.fresh+1 }) (x:=118::(bK d++[120]++bK (s'.fresh+1))) (t:=t) ⟨by have:=ju.l0; simp only at this ⊢; omega,by have:=ju.l1; simp only at this ⊢; omega,by have:=ju.l2; simp only at this ⊢; omega⟩
   have he:((bP L { s' with fresh:=s'.fresh+1 } 2 t ct).1.tx []).length≤136:=eG (L:=L) ju.ok 2 t ct
   generalize bP L { s' with fresh:=s'.fresh+1 } 2 t ct=X at he j2 ⊢
   obtain ⟨e,ce⟩:=X
   simp only [NV] at he j2 hw ⊢
   simp (maxSteps:=1000000) only [n1,cV,hp,hw,wi,bS,az,aB,seval]
   repeat refine And.intro (by first | omega | (simp only [List.length_append,List.length_cons,List.length_nil]; omega)) ?_
   refine fin _ ce [.jS ([118]++bK d++[120]++bK (s'.fresh+1)) e] (j1' t) (by rw [j2]; simp) _ _ ?_ ?_
   ·simp only [aB,seval]
    rw [eg,WY]
    simp
   ·exact aa.dL (by repeat' first | with_reducible exact aa.bF | with_reducible exact aa.bI | refine aa.cL (by simp [n1,cV,ep]) ?_ | refine aa.cR (by simp [n1,cV,ep]) ?_)
  ·rw [if_neg z0] at j2
   have b0:(kk==0)=false:=by simpa using z0
   have jm:=j1.le (show m+3*d≤m+1+3*d by omega)
   by_cases z1:kk=1∨kk=2
   ·rw [if_pos z1] at j2
    have g1:((kk==1)=true∧True)∨((kk==1)=false∧(kk==2)=true):=by
     rcases z1 with rfl | rfl
     ·exact .inl ⟨rfl,trivial⟩
     ·exact .inr ⟨rfl,rfl⟩
    rcases g1 with ⟨e1,e2⟩ | ⟨e1,e2⟩
    all_goals
     simp (maxSteps:=1000000) only [n1,cV,hp,b0,e1,e2,ep,bS,az,aB,seval]
     refine ⟨p,L,c,3,rfl,by simp,by decide,by decide,?_⟩
     generalize bU L 3 c=tq at j2 ⊢
     obtain ⟨t,ct⟩:=tq
     simp only at j2 ⊢
     simp (maxSteps:=1000000) only [n1,cV,hp,b0,e1,e2,bS,az,aB,seval]
     refine ⟨i1,s',_,_,_,_,t,rfl,Tj _ s' (by simp [ep,n1]),?_⟩
     by_cases z3:s'.of t=[]
     ·rw [if_pos z3] at j2
      simp (maxSteps:=1000000) only [n1,cV,hp,z3,cY,List.length_nil,wi,bS,az,aB,seval]
      refine fin s' ct [] jm (by rw [j2]; simp) _ _ ?_ ?_
      ·simp only [List.append_nil,aB,seval]
      ·exact aa.dL (by repeat' first | with_reducible exact aa.bF | with_reducible exact aa.bI | refine aa.cL (by simp [n1,cV,ep]) ?_ | refine aa.cR (by simp [n1,cV,ep]) ?_)
     ·rw [if_neg z3] at j2
      have gZ:=List.length_pos_iff.2 z3
      have gl:(((s'.of t).length:Int)>0)=True:=eq_true (by omega)
      have hlen:=jm.sm.of t
      have hi:dI (.aY 1 (.sl (cE (s'.of t))) (.int .i64 (bU L (s'.of t).length ct).1))=some (.cU [.str (eu L (s'.of t) ct).1] 0):=oa L (l:=s'.of t) [] (fun x=>x) gZ ct
      have hx:=Be (jm.ok.var _ _ (fg L z3 ct)).1
      have e5:(eu L (s'.of t) ct).2=(bU L (s'.of t).length ct).2:=rfl
      rw [e5] at j2
      simp (maxSteps:=1000000) only [n1,cV,hp,gl,cY,bS,az,aB,seval]
      intro _
      refine ⟨p,L,ct,_,rfl,by simp,by omega,by omega,?_⟩
      simp (maxSteps:=1000000) only [n1,cV,hp,hi,cY,bS,az,aB,seval]
      generalize (eu L (s'.of t) ct).1=x at hx j2 ⊢
      generalize (bU L (s'.of t).length ct).2=cx at j2 ⊢
      repeat refine And.intro (by first | omega | (simp only [List.length_append,List.length_cons,List.length_nil]; omega)) ?_
      refine ⟨p,L,cx,i1,s',_,_,_,_,t,2,rfl,by omega,by omega,by simp,Tj _ s' (by simp [ep,n1]),jm.sm,?_⟩
      have he:((bP L s' 2 t cx).1.tx []).length≤136:=eG (L:=L) jm.ok 2 t cx
      generalize bP L s' 2 t cx=X at he j2 ⊢
      obtain ⟨e,ce⟩:=X
      simp only at he j2 ⊢
      simp (maxSteps:=1000000) only [n1,cV,hp,wi,bS,az,aB,seval]
      repeat refine And.intro (by first | omega | (simp only [List.length_append,List.length_cons,List.length_nil]; omega)) ?_
      refine fin s' ce [.mX x e] jm (by rw [j2]; simp) _ _ ?_ ?_
      ·simp only [aB,seval]
       rw [eg,Qn]
       simp
      ·exact aa.dL (by repeat' first | with_reducible exact aa.bF | with_reducible exact aa.bI | refine aa.cL (by simp [n1,cV,ep]) ?_ | refine aa.cR (by simp [n1,cV,ep]) ?_)
   ·rw [if_neg z1] at j2
    have b1:(kk==1)=false:=by simpa using fun e=>z1 (.inl e)
    have b2:(kk==2)=false:=by simpa using fun e=>z1 (.inr e)
    have CP:∀e,e≤1→bL e≤6321:=fun e he=>by
     match e,he with
     | 0,_=>decide
     | 1,_=>decide
    by_cases z3:kk=3∧0<d
    ·rw [if_pos z3] at j2
     obtain ⟨rfl,Xc⟩:=z3
     obtain ⟨d,rfl⟩:∃e,d=e+1:=⟨d - 1,by omega⟩
     generalize hD:((d+1:Nat):Int)=DD at*
     have wd:IntKind.i64.wrap (DD - 1)=(d:Int):=by rw [←hD,wrap_i64 (by omega) (by omega)]; omega
     have gd:(DD>0)=True:=eq_true (by omega)
     simp only [show ∀s a,nc L test (d+1) s a=du L test d s a from fun _ _=>rfl] at j2
     simp (maxSteps:=1000000) only [n1,cV,hp,ep,gd,bS,az,aB,seval]
     refine ⟨p,L,c,i1,s',_,_,_,_,2,2,rfl,by omega,by omega,by simp,Tj _ _ (by simp [ep,n1]),jm.sm,?_⟩
     have he:((bP L s' 2 2 c).1.tx []).length≤136:=eG (L:=L) jm.ok 2 2 c
     generalize bP L s' 2 2 c=X at he j2 ⊢
     obtain ⟨e,ce⟩:=X
     simp only at he j2 ⊢
     simp (maxSteps:=1000000) only [n1,cV,hp,wd,bS,az,aB,seval]
     repeat refine And.intro (by first | omega | (simp only [List.length_append,List.length_cons,List.length_nil]; omega)) ?_
     refine ⟨p,L,ce,s',d,test,rfl,by omega,by omega,by simp,j1.le (by omega),?_⟩
     have hb:(GS.cT 10 (du L test d s' ce).1 []).length≤6321:=Nat.le_trans (gS d (by omega) s' ce jm.ok (by have:=jm.fr; omega)) (CP d (by omega))
     generalize du L test d s' ce=X at hb j2 ⊢
     obtain ⟨bl,cb⟩:=X
     simp only at hb j2 ⊢
     simp (maxSteps:=1000000) only [n1,cV,hp,wd,bS,az,aB,seval]
     repeat refine And.intro (by first | omega | (simp only [List.length_append,List.length_cons,List.length_nil]; omega)) ?_
     refine ⟨p,L,cb,2,rfl,by simp,by decide,by decide,?_⟩
     generalize bU L 2 cb=tq at j2 ⊢
     obtain ⟨t,ct⟩:=tq
     simp only at j2 ⊢
     by_cases z4:t=1
     ·rw [if_pos z4] at j2
      subst z4
      simp (maxSteps:=1000000) only [n1,cV,hp,wd,bS,az,aB,seval]
      refine ⟨p,L,ct,s',d,test,rfl,by omega,by omega,by simp,j1.le (by omega),?_⟩
      have xr:(GS.cT 10 (du L test d s' ct).1 []).length≤6321:=Nat.le_trans (gS d (by omega) s' ct jm.ok (by have:=jm.fr; omega)) (CP d (by omega))
      generalize du L test d s' ct=X at xr j2 ⊢
      obtain ⟨bl2,cb2⟩:=X
      simp only at xr j2 ⊢
      simp (maxSteps:=1000000) only [n1,cV,hp,wd,wi,bS,az,aB,seval]
      repeat refine And.intro (by first | omega | (simp only [List.length_append,List.length_cons,List.length_nil]; omega)) ?_
      refine fin s' cb2 [.yR e bl bl2] jm (by rw [j2]; simp) _ _ ?_ ?_
      ·simp only [aB,seval]
       rw [eg,W0]
       simp
      ·exact aa.dL (by repeat' first | with_reducible exact aa.bF | with_reducible exact aa.bI | refine aa.cL (by simp [n1,cV,ep]) ?_ | refine aa.cR (by simp [n1,cV,ep]) ?_)
     ·rw [if_neg z4] at j2
      have b4:(t==1)=false:=by simpa using z4
      simp (maxSteps:=1000000) only [n1,cV,hp,b4,wi,bS,az,aB,seval]
      repeat refine And.intro (by first | omega | (simp only [List.length_append,List.length_cons,List.length_nil]; omega)) ?_
      refine fin s' ct [.yS e bl] jm (by rw [j2]; simp) _ _ ?_ ?_
      ·simp only [aB,seval]
       rw [eg,aav]
       simp
      ·exact aa.dL (by repeat' first | with_reducible exact aa.bF | with_reducible exact aa.bI | refine aa.cL (by simp [n1,cV,ep]) ?_ | refine aa.cR (by simp [n1,cV,ep]) ?_)
    ·rw [if_neg z3] at j2
     by_cases z4:kk=4∧0<d
     ·rw [if_pos z4] at j2
      obtain ⟨rfl,Xc⟩:=z4
      obtain ⟨d,rfl⟩:∃e,d=e+1:=⟨d - 1,by omega⟩
      have wf:IntKind.i64.wrap ((s'.fresh:Int)+1)=((s'.fresh+1:Nat):Int):=cW (by have:=j1.fr; omega)
      have fr:=j1.fr
      have nv:=RF hd (f:=s'.fresh+1) (by omega)
      have ju:=(j1.le (show m+3*(d+1)+1≤m+1+3*(d+1) by omega)).up
      have jw:=(j1.le (show m+3*(d+1)+1≤m+1+3*(d+1) by omega)).upW nv.2.1 nv.2.2 0
      have xv:sq [.int .i64 ((d+1:Nat):Int)]=some (.str (bK (d+1))):=if_pos ⟨by omega,by omega⟩
      have HY:sq [.int .i64 ((s'.fresh+1:Nat):Int)]=some (.str (bK (s'.fresh+1))):=if_pos ⟨by omega,by omega⟩
      have Rr:=Be nv.2.1
      have hw:=uK (s:={ s' with fresh:=s'.fresh+1 }) (x:=105::(bK (d+1)++[120]++bK (s'.fresh+1))) (t:=0) ⟨by have:=ju.l0; simp only at this ⊢; omega,by have:=ju.l1; simp only at this ⊢; omega,by have:=ju.l2; simp only at this ⊢; omega⟩
      have hbd:∀a,(GS.cT 10 (du L test d (({ s' with fresh:=s'.fresh+1 }:Nm).with ([105]++bK (d+1)++[120]++bK (s'.fresh+1)) 0) a).1 []).length≤6321:=fun a=>Nat.le_trans (gS d (by omega) _ a jw.ok (by have:=jw.fr; omega)) (CP d (by omega))
      simp only [show ∀s a,nc L test (d+1) s a=du L test d s a from fun _ _=>rfl] at j2
      generalize hD:((d+1:Nat):Int)=DD at*
      have wd:IntKind.i64.wrap (DD - 1)=(d:Int):=by rw [←hD,wrap_i64 (by omega) (by omega)]; omega
      have gd:(DD>0)=True:=eq_true (by omega)
      generalize hX:[105]++bK (d+1)++[120]++bK (s'.fresh+1)=x at*
      have hX':105::(bK (d+1)++[120]++bK (s'.fresh+1))=x:=hX
      rw [hX'] at hw
      simp only [NV] at hw
      simp (maxSteps:=1000000) only [n1,cV,hp,ep,gd,wf,xv,HY,bS,az,aB,seval]
      have K9:(bK (d+1)).length+(bK (s'.fresh+1)).length≤14:=by
       rw [←hX] at Rr
       simp only [List.length_append,List.length_cons,List.length_nil] at Rr
       omega
      repeat refine And.intro (by first | omega | (simp only [List.length_append,List.length_cons,List.length_nil]; omega)) ?_
      rw [hX']
      have hr4:=bW L (n:=4) (by decide) c
      refine ⟨p,L,c,4,rfl,by simp [cV],by decide,by decide,?_⟩
      generalize bU L 4 c=tq at hr4 j2 ⊢
      obtain ⟨q0g,cq⟩:=tq
      simp only at hr4 j2 ⊢
      have TF:sq [.int .i64 q0g]=some (.str (bK q0g.toNat)):=if_pos ⟨by omega,by omega⟩
      have hq1:(bK q0g.toNat).length=1:=oy (by omega)
      simp (maxSteps:=1000000) only [n1,cV,hp,TF,hw,wd,bS,az,aB,seval]
      repeat refine And.intro (by first | omega | (simp only [List.length_append,List.length_cons,List.length_nil]; omega)) ?_
      refine ⟨p,L,cq,_,d,test,rfl,by omega,by omega,by simp,jw.le (by omega),?_⟩
      have hb:=hbd cq
      generalize du L test d (({ s' with fresh:=s'.fresh+1 }:Nm).with x 0) cq=X at hb j2 ⊢
      obtain ⟨bl,cb⟩:=X
      simp only at hb j2 ⊢
      simp (maxSteps:=1000000) only [n1,cV,hp,wi,bS,az,aB,seval]
      repeat refine And.intro (by first | omega | (simp only [List.length_append,List.length_cons,List.length_nil]; omega)) ?_
      refine fin { s' with fresh:=s'.fresh+1 } cb [.jS x (.int [48]),.lJ (.bin [60] (.var x) (.int (bK q0g.toNat))) (bl++[.mX x (.bin [43] (.var x) (.int [49]))])] ju (by rw [j2]; simp) _ _ ?_ ?_
      ·simp only [aB,seval]
       rw [eg,WZ]
       simp [←hX]
      ·exact aa.dL (by repeat' first | with_reducible exact aa.bF | with_reducible exact aa.bI | refine aa.cL (by simp [n1,cV,ep]) ?_ | refine aa.cR (by simp [n1,cV,ep]) ?_)
     ·rw [if_neg z4] at j2
      by_cases z5:kk=5∧test=true
      ·rw [if_pos z5] at j2
       obtain ⟨rfl,rfl⟩:=z5
       simp (maxSteps:=1000000) only [n1,cV,hp,ep,bS,az,aB,seval]
       refine ⟨p,L,c,i1,s',_,_,_,_,2,3,rfl,by omega,by omega,by simp,Tj _ _ (by simp [ep,n1]),jm.sm,?_⟩
       have he:((bP L s' 3 2 c).1.tx []).length≤292:=eG (L:=L) jm.ok 3 2 c
       generalize bP L s' 3 2 c=X at he j2 ⊢
       obtain ⟨e,ce⟩:=X
       simp only at he j2 ⊢
       simp (maxSteps:=1000000) only [n1,cV,hp,wi,bS,az,aB,seval]
       repeat refine And.intro (by first | omega | (simp only [List.length_append,List.length_cons,List.length_nil]; omega)) ?_
       refine fin s' ce [.iM e] jm (by rw [j2]; simp) _ _ ?_ ?_
       ·simp only [aB,seval]
        rw [eg,Kj]
        simp
       ·exact aa.dL (by repeat' first | with_reducible exact aa.bF | with_reducible exact aa.bI | refine aa.cL (by simp [n1,cV,ep]) ?_ | refine aa.cR (by simp [n1,cV,ep]) ?_)
      ·rw [if_neg z5] at j2
       by_cases z6:kk=6
       ·rw [if_pos z6] at j2
        subst z6
        simp (maxSteps:=1000000) only [n1,cV,hp,ep,bS,az,aB,seval]
        refine ⟨p,L,c,3,rfl,by simp,by decide,by decide,?_⟩
        generalize bU L 3 c=tq at j2 ⊢
        obtain ⟨t,ct⟩:=tq
        simp only at j2 ⊢
        simp (maxSteps:=1000000) only [n1,cV,hp,wi,bS,az,aB,seval]
        refine ⟨p,L,ct,i1,s',_,_,_,_,t,1,rfl,by omega,by omega,by simp,Tj _ _ (by simp [ep,n1]),jm.sm,?_⟩
        unfold callR
        unfold S6 at j2
        cases hc:iN L s' (bP L s' 1) t ct with
        | mk x v=>
         rw [hc] at j2
         cases x with
         | some y=>
          have he:((GE.call y.1 y.2).tx []).length≤136:=Hb (u9 (L:=L) jm.ok (fun t a=>eG (L:=L) jm.ok 1 t a) _ _ _ _ hc)
          simp only at j2 ⊢
          simp (maxSteps:=1000000) only [n1,cV,hp,wi,bS,az,aB,seval]
          repeat refine And.intro (by first | omega | (simp only [List.length_append,List.length_cons,List.length_nil]; omega)) ?_
          refine fin s' v [.xF y.1 y.2] jm (by rw [j2]; simp) _ _ ?_ ?_
          ·simp only [aB,seval]
           rw [eg,aau]
          ·exact aa.dL (by repeat' first | with_reducible exact aa.bF | with_reducible exact aa.bI | refine aa.cL (by simp [n1,cV,ep]) ?_ | refine aa.cR (by simp [n1,cV,ep]) ?_)
         | none=>
          simp only at j2 ⊢
          simp (maxSteps:=1000000) only [n1,cV,hp,wi,bS,az,aB,seval]
          refine fin s' v [] jm (by rw [j2]; simp) _ _ ?_ ?_
          ·simp only [List.append_nil,aB,seval]
          ·exact aa.dL (by repeat' first | with_reducible exact aa.bF | with_reducible exact aa.bI | refine aa.cL (by simp [n1,cV,ep]) ?_ | refine aa.cR (by simp [n1,cV,ep]) ?_)
       ·rw [if_neg z6] at j2
        have b6:(kk==6)=false:=by simpa using z6
        have Nq:(kk=3∧d=0)∨(kk=4∧d=0)∨(kk=5∧test=false)∨(kk≠3∧kk≠4∧kk≠5):=by
         by_cases y3:kk=3
         ·exact .inl ⟨y3,Nat.eq_zero_of_not_pos fun h=>z3 ⟨y3,h⟩⟩
         ·by_cases y4:kk=4
          ·exact .inr (.inl ⟨y4,Nat.eq_zero_of_not_pos fun h=>z4 ⟨y4,h⟩⟩)
          ·by_cases y5:kk=5
           ·exact .inr (.inr (.inl ⟨y5,by
             cases test with
             | false=>rfl
             | true=>exact absurd ⟨y5,rfl⟩ z5⟩))
           ·exact .inr (.inr (.inr ⟨y3,y4,y5⟩))
        rcases Nq with ⟨rfl,rfl⟩ | ⟨rfl,rfl⟩ | ⟨rfl,rfl⟩ | ⟨y3,y4,y5⟩
        ·have gd:(((0:Nat):Int)>0)=False:=eq_false (by omega)
         simp (maxSteps:=1000000) only [n1,cV,hp,ep,gd,wi,bS,az,aB,seval]
         repeat refine And.intro (by first | omega | (simp only [List.length_append,List.length_cons,List.length_nil]; omega)) ?_
         refine fin s' c [.skip] jm (by rw [j2]; simp) _ _ ?_ ?_
         ·simp only [aB,seval]
          rw [eg,uP]
         ·exact aa.dL (by repeat' first | with_reducible exact aa.bF | with_reducible exact aa.bI | refine aa.cL (by simp [n1,cV,ep]) ?_ | refine aa.cR (by simp [n1,cV,ep]) ?_)
        ·have gd:(((0:Nat):Int)>0)=False:=eq_false (by omega)
         simp (maxSteps:=1000000) only [n1,cV,hp,ep,gd,wi,bS,az,aB,seval]
         repeat refine And.intro (by first | omega | (simp only [List.length_append,List.length_cons,List.length_nil]; omega)) ?_
         refine fin s' c [.skip] jm (by rw [j2]; simp) _ _ ?_ ?_
         ·simp only [aB,seval]
          rw [eg,uP]
         ·exact aa.dL (by repeat' first | with_reducible exact aa.bF | with_reducible exact aa.bI | refine aa.cL (by simp [n1,cV,ep]) ?_ | refine aa.cR (by simp [n1,cV,ep]) ?_)
        ·have gd:=wi
         simp (maxSteps:=1000000) only [n1,cV,hp,ep,wi,bS,az,aB,seval]
         repeat refine And.intro (by first | omega | (simp only [List.length_append,List.length_cons,List.length_nil]; omega)) ?_
         refine fin s' c [.skip] jm (by rw [j2]; simp) _ _ ?_ ?_
         ·simp only [aB,seval]
          rw [eg,uP]
         ·exact aa.dL (by repeat' first | with_reducible exact aa.bF | with_reducible exact aa.bI | refine aa.cL (by simp [n1,cV,ep]) ?_ | refine aa.cR (by simp [n1,cV,ep]) ?_)
        ·have b3:(kk==3)=false:=by simpa using y3
         have b4:(kk==4)=false:=by simpa using y4
         have b5:(kk==5)=false:=by simpa using y5
         simp (maxSteps:=1000000) only [n1,cV,hp,b0,b1,b2,b3,b4,b5,b6,ep,wi,bS,az,aB,seval]
         repeat refine And.intro (by first | omega | (simp only [List.length_append,List.length_cons,List.length_nil]; omega)) ?_
         refine fin s' c [.skip] jm (by rw [j2]; simp) _ _ ?_ ?_
         ·simp only [aB,seval]
          rw [eg,uP]
         ·exact aa.dL (by repeat' first | with_reducible exact aa.bF | with_reducible exact aa.bI | refine aa.cL (by simp [n1,cV,ep]) ?_ | refine aa.cR (by simp [n1,cV,ep]) ?_)
 ·have e0:i=n:=by omega
  subst e0
  rw [Nat.sub_self,dJ,List.append_nil] at j2
  rw [j2] at k
  simp only at k
  simp (maxSteps:=1000000) only [n1,cV,hp,Int.lt_irrefl,ag,ab,ax,bS,az,aB,seval]
  refine .inl ⟨h.set p (mR L b),?_,k⟩
  exact aa.dL (by repeat' first | with_reducible exact aa.bF | with_reducible exact aa.bI | refine aa.cL (by simp [n1,cV,ep,k1]) ?_ | refine aa.cR (by simp [n1,cV,ep,k1]) ?_)
theorem PY:∀(G:Nat),(QR G).ok Tryz.prog
 | 0=>bf.cD (PZ 4) fun args h K E c=>by
  obtain ⟨p,L,a,s,d,test,_,hG,_⟩:=c
  omega
 | G+1=>bf.cD (PZ 4) fun args h K E c=>FE G (PY G) args h K E c
end
end Go.Proofs.YtpklkpkfgmoghaaGreatDoor.Zz
namespace Go.Proofs.YtpklkpkfgmoghaaGreatDoor.Zz
noncomputable section
def p5g:b7:=⟨⟨[(28,0),(30,0)],[(4,1),(7,1),(9,10),(11,1),(14,4),(17,1),(20,1),(27,1),(29,15),(29,21),(31,1),(34,7),(34,11)],[],[((28,3),[(.t 10)]),((30,3),[(.t 10)]),((29,15),[(.t 10),(.t 10)]),((29,21),[(.t 10)])],[((29,2),(.t 10)),((29,20),(.t 10))],[(2,2),(28,8),(30,8)]⟩,[(28,[1,2,4,5,0,3,6,7,8]),(29,[0,1,2,3,4,5,6,7,8,9,13,14,18,19,20,10,11,12,15,16,17,21,22,23,24,25]),(30,[1,2,4,5,0,3,6,7,8]),(34,[0,1,5,6,10,2,3,4,7,8,9,11,12,13,14,15])],[],false⟩
def Wm:dA:=
 .seq (sO [oM 3 140,
 oC 13 [.t 140,kI 3] 141,
 oH .add 141 1 142,
 oM 142 16]
 (.block 6 (.loop (.seq (sO [oM 16 143,
 oH .gtr 143 0 144]
 (.cond (.t 144)
 (.skip)
 (.exit 6)))
 (.seq (.block 7 (.fq 5 [oM 5 147,
 oM 16 148,
 oM 3 152,
 oJ 5 4 153,
 oM 3 157,
 oD 14 [.t 148] 149,
 oP (.bin .add (kS [116,101,115,116,32,116]) (.t 149)) 150,
 oP (.bin .add (.t 150) (kS [32,123,10])) 151,
 oC 18 [.t 152,.t 153,kI 2,kB true] 154,
 oE .add 151 154 155,
 oP (.bin .add (.t 155) (kS [97,115,115,101,114,116,32])) 156,
 oC 19 [.t 157,.t 4,kI 2,kI 3] 158,
 oE .add 156 158 159,
 oP (.bin .add (.t 159) (kS [59,10,125,10])) 160,
 oE .add 147 160 161,
 oM 161 5]))
 (.ops [oM 16 145,
 oH .sub 145 1 146,
 oM 146 16]))))))
 (sO [oM 5 162,
 oM 162 2]
 (.ret))
def Wl:dA:=
 .seq (sO [oM 3 50,
 oC 13 [.t 50,kI 3] 51,
 oH .add 51 1 52,
 oM 52 9]
 (.block 2 (.loop (.seq (sO [oM 9 53,
 oH .gtr 53 0 54]
 (.cond (.t 54)
 (.skip)
 (.exit 2)))
 (.seq (.block 3 (sO [oM 9 57,
 oD 14 [.t 57] 58,
 oP (.bin .add (kS [102]) (.t 58)) 59,
 oM 3 60,
 oC 13 [.t 60,kI 3] 61,
 oP (.build [(.str []),(.int .i64 0),.a_] [(0,1,(.t 59)),(1,1,(.t 61))]) 62,
 oQ (.alloc [(.str []),(.int .i64 0),.a_]) 10,
 oS 3 10 62]
 (sO [oJ 5 4 63,
 oQ (.alloc [.a_,.a_,.a_,.a_,(.int .i64 0)]) 11,
 oS 5 11 63]
 (sO [oP (.cg (kS [])) 12]
 (.seq (sO [oM 3 64,
 oC 13 [.t 64,kI 3] 65,
 oM 65 13]
 (.block 4 (.loop (.seq (sO [oM 13 66,
 oH .gtr 66 0 67]
 (.cond (.t 67)
 (.skip)
 (.exit 4)))
 (.seq (.block 5 (sO [oM 3 70,
 oC 13 [.t 70,kI 3] 71,
 oM 71 14]
 (sO [oM 13 72,
 oD 14 [.t 72] 73,
 oP (.bin .add (kS [112]) (.t 73)) 74,
 oM 74 15]
 (.seq (sO [oM 12 75,
 oP (.bin .neq (.t 75) (kS [])) 76]
 (.cond (.t 76)
 (.ops [oM 12 77,
 oP (.bin .add (.t 77) (kS [44,32])) 78,
 oM 78 12])
 (.skip)))
 (sO [oM 12 79,
 oM 15 80,
 oP (.bin .add (.t 80) (kS [32])) 81,
 oM 14 82,
 oD 15 [.t 82] 83,
 oE .add 81 83 84,
 oE .add 79 84 85,
 oM 85 12]
 (sO [oF 2 10 86,
 oL 86 87,
 oM 14 88,
 oP (.buildSlice 1 [(.int .i64 0)] 1 [(0,(.t 88))] false) 89,
 oQ (.append 1 8 false (.t 87) (.t 89)) 90,
 oF 2 10 91,
 oS 1 91 90]
 (.ops [oJ 5 11 92,
 oM 15 93,
 oM 14 94,
 oD 17 [.t 92,.t 93,.t 94] 95,
 oS 5 11 95])))))))
 (.ops [oM 13 68,
 oH .sub 68 1 69,
 oM 69 13]))))))
 (.seq (sO [oM 3 96,
 oC 13 [.t 96,kI 5] 97,
 oH .eql 97 4 98]
 (.cond (.t 98)
 (.fq 99 [oF 3 11 100,
 oL 100 101,
 oJ 3 10 103,
 oP (.buildSlice 3 [(.str []),(.int .i64 0),.a_] 1 [(0,(.t 103))] false) 104,
 oQ (.buildSlice 3 [(.str []),(.int .i64 0),.a_] 0 [] true) 99,
 oQ (.appendA 3 48 false (.t 99) (.t 101) [(.t 10)]) 102,
 oQ (.append 3 48 false (.t 102) (.t 104)) 105,
 oF 3 11 106,
 oU (.ik 1 (.t 106) (.t 105))])
 (.skip)))
 (.seq (.fq 5 [oM 5 107,
 oF 0 10 108,
 oQ (.cK none (.t 108) (.t 10)) 109,
 oP (.bin .add (kS [102,117,110,99,32]) (.t 109)) 110,
 oP (.bin .add (.t 110) (kS [40])) 111,
 oM 12 112,
 oE .add 111 112 113,
 oP (.bin .add (.t 113) (kS [41,32])) 114,
 oF 1 10 115,
 oL 115 116,
 oM 3 120,
 oJ 5 11 121,
 oM 3 125,
 oF 1 10 126,
 oQ (.cK none (.t 126) (.t 10)) 127,
 oD 15 [.t 116] 117,
 oE .add 114 117 118,
 oP (.bin .add (.t 118) (kS [32,123,10])) 119,
 oQ (.callNe (.f 18) [(.t 120),(.t 121),(kI 2),(kB false)] [(.t 10),(.t 10)]) 122,
 oE .add 119 122 123,
 oP (.bin .add (.t 123) (kS [114,101,116,117,114,110,32])) 124,
 oQ (.callNe (.f 19) [(.t 125),(.t 11),(.t 127),(kI 3)] [(.t 10)]) 128,
 oE .add 124 128 129,
 oP (.bin .add (.t 129) (kS [59,10,125,10])) 130,
 oE .add 107 130 131,
 oM 131 5])
 (.fq 132 [oF 3 4 133,
 oL 133 134,
 oJ 3 10 136,
 oP (.buildSlice 3 [(.str []),(.int .i64 0),.a_] 1 [(0,(.t 136))] false) 137,
 oQ (.buildSlice 3 [(.str []),(.int .i64 0),.a_] 0 [] true) 132,
 oQ (.appendA 3 48 false (.t 132) (.t 134) [(.t 10)]) 135,
 oQ (.append 3 48 false (.t 135) (.t 137)) 138,
 oF 3 4 139,
 oU (.ik 1 (.t 139) (.t 138))]))))))))
 (.ops [oM 9 55,
 oH .sub 55 1 56,
 oM 56 9]))))))
 (Wm)
def QQ:dA:=
 sO [oP (.cg (kS [])) 2]
 (sO [oM 0 17,
 oP (.build [.a_,(.int .i64 0)] [(0,1,(.t 17))]) 18,
 oQ (.box (.t 18)) 19,
 oM 19 3]
 (sO [oP (.build [.a_,.a_,.a_,.a_,(.int .i64 0)] []) 20,
 oQ (.alloc [.a_,.a_,.a_,.a_,(.int .i64 0)]) 4,
 oU (.ik 5 (.t 4) (.t 20))]
 (sO [oP (.cg (kS [])) 5]
 (.seq (sO [oM 3 21,
 oC 13 [.t 21,kI 3] 22,
 oM 22 6]
 (.block 0 (.loop (.seq (sO [oM 6 23,
 oH .gtr 23 0 24]
 (.cond (.t 24)
 (.skip)
 (.exit 0)))
 (.seq (.block 1 (sO [oM 3 27,
 oC 13 [.t 27,kI 3] 28,
 oM 28 7]
 (sO [oM 6 29,
 oD 14 [.t 29] 30,
 oP (.bin .add (kS [103]) (.t 30)) 31,
 oM 31 8]
 (sO [oM 5 32,
 oM 8 33,
 oP (.bin .add (kS [118,97,114,32]) (.t 33)) 34,
 oP (.bin .add (.t 34) (kS [32])) 35,
 oM 7 36,
 oD 15 [.t 36] 37,
 oE .add 35 37 38,
 oP (.bin .add (.t 38) (kS [32,61,32])) 39,
 oM 3 40,
 oM 7 41,
 oC 16 [.t 40,.t 41] 42,
 oE .add 39 42 43,
 oP (.bin .add (.t 43) (kS [59,10])) 44,
 oE .add 32 44 45,
 oM 45 5]
 (.ops [oJ 5 4 46,
 oM 8 47,
 oM 7 48,
 oD 17 [.t 46,.t 47,.t 48] 49,
 oS 5 4 49])))))
 (.ops [oM 6 25,
 oH .sub 25 1 26,
 oM 26 6]))))))
 (Wl)))))
theorem ac9:bE Tryz.prog 5 p5g=some (QQ,[.tmp 2],163):=by kernel_rfl
theorem SH:(QR 3).ok Tryz.prog:=PY 3
theorem qb.w {s:Nm} {r:Nat} (h:qb s (r+1)) {x:List UInt8} (h1:fm x) (h2:2≤x.length) (t:Int):qb (s.with x t) r:=by
 have hk:=h.ok.with h1 h2 t
 obtain ⟨_,a,b,c,d,e⟩:=h
 refine ⟨hk,?_,?_,?_,?_,by rw [gf]; omega⟩
 all_goals
  unfold Nm.with
  split
  ·simp; omega
  ·split<;>(simp; omega)
theorem zg:∀(l:List (List UInt8×Int)) (r:List UInt8),fV l r=fV l []++r
 | [],r=>rfl
 | p::l,r=>by rw [fV,fV,zg l r]; simp
theorem vZ (l:List (List UInt8×Int)) (r:List UInt8):gG l r=gG l []++r:=by
 cases l with
 | nil=>rfl
 | cons p l=>rw [gG,gG,zg l r]; simp
theorem Hj (D:GD) (r:List UInt8):D.tx 10 r=D.tx 10 []++r:=by
 cases D with
 | var x t e=>rw [GD.tx,GD.tx,cv e (59::r),cv e [59]]; simp
 | func x ps t l=>rw [GD.tx,GD.tx,dk l (125::r),dk l [125],vZ ps (41::_),vZ ps (41::32::(gk t++32::123::10::(GS.cT 10 l []++[125])))]; simp
 | test x l=>rw [GD.tx,GD.tx,dk l (125::r),dk l [125]]; simp
theorem fh:∀(l m:List GD),cu 10 (l++m)=cu 10 l++cu 10 m
 | [],m=>rfl
 | D::l,m=>by rw [List.cons_append,cu,cu,fh l m,Hj,Hj D (10::cu 10 l)]; simp
theorem Qo (x:List UInt8) (t:Int) (e:GE):cu 10 [.var x t e]=[118,97,114,32]++(x++(32::(gk t++([32,61,32]++(e.tx []++[59,10]))))):=by
 rw [cu,cu,GD.tx,cv e]
 simp [kD]
theorem BG (t:Int):(gk t).length≤5:=by unfold gk; split<;>(try split)<;>decide
def VL:Nm:=⟨[],[],[],[],0⟩
theorem Kk (x:List UInt8) (l:List GS) (e:GE):cu 10 [.test x (l++[.iM e])]=[116,101,115,116,32]++(x++([32,123,10]++(GS.cT 10 l []++([97,115,115,101,114,116,32]++(e.tx []++[59,10,125,10]))))):=by
 rw [cu,cu,GD.tx,dk,eg,Kj]
 simp [rJ]
theorem L0 (L:List Int) (i1 i2:Nat) (n1:¬i2=i1) (cV:¬i1=i2) (s:Nm) (nz:qb s 9) (a:Nat) (out:List UInt8) (ho:out.length≤1000000) (E:Fr→D→aa→Prop) (σ:Fr) (BJ:σ.env 3=.ptr i1 1 0) (Wu:σ.env 4=.ptr i2 1 0) (QQ:σ.env 5=.str out) (sd:σ.defs=[]) (R:dn→aa→Prop)
  (k:R (.ret (.str (out++cu 10 (iq L ((bU L 3 a).1.toNat+1) s (bU L 3 a).2).1))) .emp):
  vc (QR 3) Wm (todo (QR 3) (sw [.tmp 2] R) E []) E σ ((aa.emp.set i2 (ep s)).set i1 (mR L a)):=by
 have Tn:=bW L (n:=3) (by decide) a
 simp (maxSteps:=1000000) only [Wm,BJ,Wu,QQ,sd,bS,az,aB,seval]
 refine ⟨i1,L,a,3,rfl,by simp,by decide,by decide,?_⟩
 generalize bU L 3 a=nb at Tn k ⊢
 obtain ⟨n0,b0⟩:=nb
 simp only at Tn k ⊢
 have w0:IntKind.i64.wrap (n0+1)=((n0.toNat+1:Nat):Int):=by rw [wrap_i64 (by omega) (by omega)]; omega
 have hn:n0.toNat+1≤3:=by omega
 generalize n0.toNat+1=n at hn w0 k
 simp (maxSteps:=1000000) only [n1,cV,w0,BJ,Wu,QQ,sd,bS,az,aB,seval]
 refine cS (X:=Nat×Nat×List GD) (fun z=>[(3,.ptr i1 1 0),(4,.ptr i2 1 0),(5,.str (out++cu 10 z.2.2)),(16,.int .i64 (z.1:Int))]) (fun z=>(aa.emp.set i2 (ep s)).set i1 (mR L z.2.1)) (fun z=>z.1)
  (fun z=>z.1≤3∧(cu 10 z.2.2).length+100000*z.1≤300000∧iq L n s b0=(z.2.2++(iq L z.1 s z.2.1).1,(iq L z.1 s z.2.1).2)) (n,b0,[])
  ⟨by omega,by rw [cu]; simp; omega,rfl⟩ (by simp only [cu,List.append_nil,BJ,Wu,QQ,sd,aB,seval]) (aa.aS _) ?_
 rintro ⟨i,c,done⟩ Q ⟨j0,j2,j3⟩ hQ
 simp only at j0 j2 j3 hQ ⊢
 have Tj:=fun (h:aa) (e:h.f i2=some (ep s))=>Bf e
 cases i with
 | succ i=>
  have g:(((i+1:Nat):Int)>0)=True:=eq_true (by omega)
  have xv:sq [.int .i64 ((i+1:Nat):Int)]=some (.str (bK (i+1))):=if_pos ⟨by omega,by omega⟩
  have hl:(bK (i+1)).length=1:=oy (by omega)
  generalize hI:((i+1:Nat):Int)=I at*
  have wi:IntKind.i64.wrap (I - 1)=(i:Int):=by rw [←hI,wrap_i64 (by omega) (by omega)]; omega
  rw [iq] at j3
  simp (maxSteps:=1000000) only [n1,cV,g,xv,ep,bS,az,aB,seval]
  repeat refine And.intro (by first | omega | (simp only [List.length_append,List.length_cons,List.length_nil]; omega)) ?_
  refine ⟨i1,L,c,s,2,true,rfl,by decide,by decide,by simp,nz.le (by decide),?_⟩
  have hb:(GS.cT 10 (du L true 2 s c).1 []).length≤38829:=gS 2 (by decide) s c nz.ok (by have:=nz.fr; omega)
  generalize du L true 2 s c=X at hb j3 ⊢
  obtain ⟨bl,cb⟩:=X
  simp only at hb j3 ⊢
  simp (maxSteps:=1000000) only [n1,cV,bS,az,aB,seval]
  repeat refine And.intro (by first | omega | (simp only [List.length_append,List.length_cons,List.length_nil]; omega)) ?_
  refine ⟨i1,L,cb,i2,s,_,_,_,_,2,3,rfl,by omega,by omega,by simp [cV],Tj _ (by simp [ep,n1]),nz.sm,?_⟩
  have he:((bP L s 3 2 cb).1.tx []).length≤292:=eG (L:=L) nz.ok 3 2 cb
  generalize bP L s 3 2 cb=X at he j3 ⊢
  obtain ⟨e,ce⟩:=X
  simp only at he j3 ⊢
  simp (maxSteps:=1000000) only [n1,cV,wi,bS,az,aB,seval]
  repeat refine And.intro (by first | omega | (simp only [List.length_append,List.length_cons,List.length_nil]; omega)) ?_
  refine hQ (i,ce,done++[.test ([116]++bK (i+1)) (bl++[.iM e])]) _ _ ⟨by omega,?_,by rw [j3]; simp⟩ ?_ ?_ (by simp only; omega)
  ·rw [fh,Kk]
   simp only [List.length_append,List.length_cons,List.length_nil]
   omega
  ·simp only [aB,seval]
   rw [fh,Kk]
   simp
  ·exact aa.dL (by repeat' first | with_reducible exact aa.bF | with_reducible exact aa.bI | refine aa.cL (by simp [n1,cV,ep]) ?_ | refine aa.cR (by simp [n1,cV,ep]) ?_)
 | zero=>
  rw [iq,List.append_nil] at j3
  rw [j3] at k
  simp only at k
  simp (maxSteps:=1000000) only [n1,cV,ep,bS,az,aB,seval]
  exact ⟨rfl,_,rfl,.inl ⟨.emp,aa.iW _,k⟩⟩
end
end Go.Proofs.YtpklkpkfgmoghaaGreatDoor.Zz
