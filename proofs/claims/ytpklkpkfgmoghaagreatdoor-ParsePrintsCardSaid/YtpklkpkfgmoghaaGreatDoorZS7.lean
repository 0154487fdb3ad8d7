/- Contracts: the generator of programs: blocks. -/
import Derived.Test.YtpklkpkfgmoghaaGreatDoorZS5
set_option linter.unnecessarySimpa false
set_option linter.unusedVariables false
set_option linter.unusedSimpArgs false
set_option maxRecDepth 20000
namespace Go.Proofs.YtpklkpkfgmoghaaGreatDoor.Zz
noncomputable section
def aeE:cj:=⟨⟨[],[(2,1),(6,1),(9,1),(12,5),(15,1),(16,1),(18,5),(18,11),(20,2),(20,10),(21,1),(22,6),(27,7),(27,18),(29,2),(31,2),(31,3)],[],[((18,11),[(.t 5)]),((18,11),[(.t 76)]),((20,2),[(.t 5)]),((27,7),[(.t 5)])],[((18,7),(.t 5)),((18,7),(.t 76))],[]⟩,[(11,[0,4,5,1,2,3,6,7,8]),(18,[0,1,2,3,4,9,10,5,6,7,8,11,12,13,14,15]),(20,[0,1,5,6,7,8,9,2,3,4,10,11,12,13,14]),(26,[0,4,5,1,2,3,6,7,8]),(27,[0,1,2,3,4,5,6,11,12,13,15,16,17,20,23,7,8,9,10,14,18,19,21,22,24,25,26,27])],[],false⟩
def aaR:dL:=
 sO [oQ (.box (.t 1)) 5,
 oP (.cy (kS [])) 8]
 (sO [oP (.cy (kS [])) 9]
 (sO [oM 0 20,
 oC 13 [.t 20,kI 4] 21,
 oM 21 10]
 (.seq (sO [oP (.cy (kI 0)) 11]
 (.block 0 (.loop (.seq (sO [oM 11 22,
 oM 10 23,
 oE .lss 22 23 24]
 (.cond (.t 24)
 (.skip)
 (.exit 0)))
 (.seq (.block 1 (sO [oM 0 27,
 oC 13 [.t 27,kI 7] 28,
 oM 28 12]
 (.block 2 (sO [oM 12 32,
 oH .eql 32 0 33,
 oM 33 31]
 (.cond (.t 31)
 (sO [oM 0 34,
 oC 13 [.t 34,kI 3] 35,
 oM 35 13]
 (sO [oF 4 5 36,
 oL 36 37,
 oH .add 37 1 38,
 oF 4 5 39,
 oS 1 39 38]
 (.seq (.fD 14 [oM 2 40,
 oF 4 5 44,
 oL 44 45,
 oD 14 [.t 40] 41,
 oP (.bin .add (kS [118]) (.t 41)) 42,
 oP (.bin .add (.t 42) (kS [120])) 43,
 oD 14 [.t 45] 46,
 oE .add 43 46 47,
 oM 47 14])
 (sO [oM 9 48,
 oM 14 49,
 oP (.bin .add (.t 49) (kS [32,58,61,32])) 50,
 oM 0 51,
 oM 13 52,
 oC 19 [.t 51,.t 5,.t 52,kI 2] 53,
 oE .add 50 53 54,
 oP (.bin .add (.t 54) (kS [59,10])) 55,
 oE .add 48 55 56,
 oM 56 9]
 (.ops [oJ 5 5 57,
 oM 14 58,
 oM 13 59,
 oD 17 [.t 57,.t 58,.t 59] 60,
 oS 5 5 60])))))
 (sO [oM 12 62,
 oH .eql 62 1 63,
 oM 63 64,
 oG (.cy (.t 12)) 65 64 false true,
 oG (.bin .eql (.t 65) (kI 2)) 66 64 false true,
 oP (.pick (.t 64) (kB true) (.t 66)) 67,
 oM 67 61]
 (.cond (.t 61)
 (sO [oM 0 68,
 oC 13 [.t 68,kI 3] 69,
 oM 69 15]
 (sO [oM 15 70,
 oC 31 [.t 5,.t 70] 71,
 oM 71 16]
 (sO [oM 16 72,
 oZ 72 73,
 oH .gtr 73 0 74]
 (.cond (.t 74)
 (.fD 9 [oM 9 75,
 oM 16 76,
 oM 0 77,
 oM 16 78,
 oP (.p7 .sl (.t 78)) 79,
 oM 0 84,
 oM 15 85,
 oC 13 [.t 77,.t 79] 80,
 oP (.a8 1 (.t 76) (.t 80)) 81,
 oQ (.cT none (.t 81) (.t 5)) 82,
 oP (.bin .add (.t 82) (kS [32,61,32])) 83,
 oQ (.callNe (.f 19) [(.t 84),(.t 5),(.t 85),(kI 2)] [(.t 5)]) 86,
 oE .add 83 86 87,
 oP (.bin .add (.t 87) (kS [59,10])) 88,
 oE .add 75 88 89,
 oM 89 9])
 (.skip)))))
 (sO [oM 12 91,
 oH .eql 91 3 92,
 oM 92 93,
 oG (.cy (.t 2)) 94 93 true true,
 oG (.bin .gtr (.t 94) (kI 0)) 95 93 true true,
 oP (.pick (.t 93) (.t 95) (kB false)) 96,
 oM 96 90]
 (.cond (.t 90)
 (.seq (.fD 9 [oM 9 97,
 oM 0 98,
 oM 0 102,
 oJ 5 5 103,
 oM 2 104,
 oH .sub 104 1 105,
 oM 3 106,
 oQ (.callNe (.f 19) [(.t 98),(.t 5),(kI 2),(kI 2)] [(.t 5)]) 99,
 oP (.bin .add (kS [105,102,32]) (.t 99)) 100,
 oP (.bin .add (.t 100) (kS [32,123,10])) 101,
 oC 18 [.t 102,.t 103,.t 105,.t 106] 107,
 oE .add 101 107 108,
 oP (.bin .add (.t 108) (kS [125])) 109,
 oE .add 97 109 110,
 oM 110 9])
 (.seq (sO [oM 0 111,
 oC 13 [.t 111,kI 2] 112,
 oH .eql 112 1 113]
 (.cond (.t 113)
 (.ops [oM 9 114,
 oM 0 115,
 oJ 5 5 116,
 oM 2 117,
 oH .sub 117 1 118,
 oM 3 119,
 oC 18 [.t 115,.t 116,.t 118,.t 119] 120,
 oP (.bin .add (kS [32,101,108,115,101,32,123,10]) (.t 120)) 121,
 oP (.bin .add (.t 121) (kS [125])) 122,
 oE .add 114 122 123,
 oM 123 9])
 (.skip)))
 (.ops [oM 9 124,
 oP (.bin .add (.t 124) (kS [10])) 125,
 oM 125 9])))
 (sO [oM 12 127,
 oH .eql 127 4 128,
 oM 128 129,
 oG (.cy (.t 2)) 130 129 true true,
 oG (.bin .gtr (.t 130) (kI 0)) 131 129 true true,
 oP (.pick (.t 129) (.t 131) (kB false)) 132,
 oM 132 126]
 (.cond (.t 126)
 (sO [oF 4 5 133,
 oL 133 134,
 oH .add 134 1 135,
 oF 4 5 136,
 oS 1 136 135]
 (.seq (.fD 17 [oM 2 137,
 oF 4 5 141,
 oL 141 142,
 oD 14 [.t 137] 138,
 oP (.bin .add (kS [105]) (.t 138)) 139,
 oP (.bin .add (.t 139) (kS [120])) 140,
 oD 14 [.t 142] 143,
 oE .add 140 143 144,
 oM 144 17])
 (.fD 9 [oM 9 145,
 oM 17 146,
 oP (.bin .add (.t 146) (kS [32,58,61,32,48,59,10,102,111,114,32,40])) 147,
 oM 17 148,
 oE .add 147 148 149,
 oP (.bin .add (.t 149) (kS [32,60,32])) 150,
 oM 0 151,
 oM 0 156,
 oJ 5 5 157,
 oM 17 158,
 oM 2 160,
 oH .sub 160 1 161,
 oM 3 162,
 oM 17 165,
 oM 17 168,
 oQ (.callNe (.f 13) [(.t 151),(kI 4)] [(.t 5)]) 152,
 oD 14 [.t 152] 153,
 oE .add 150 153 154,
 oP (.bin .add (.t 154) (kS [41,32,123,10])) 155,
 oD 17 [.t 157,.t 158,kI 0] 159,
 oC 18 [.t 156,.t 159,.t 161,.t 162] 163,
 oE .add 155 163 164,
 oE .add 164 165 166,
 oP (.bin .add (.t 166) (kS [32,61,32,40])) 167,
 oE .add 167 168 169,
 oP (.bin .add (.t 169) (kS [32,43,32,49,41,59,10,125,10])) 170,
 oE .add 145 170 171,
 oM 171 9])))
 (sO [oM 12 173,
 oH .eql 173 5 174,
 oM 174 175,
 oG (.cy (.t 3)) 176 175 true true,
 oP (.pick (.t 175) (.t 176) (kB false)) 177,
 oM 177 172]
 (.cond (.t 172)
 (.ops [oM 9 178,
 oM 0 179,
 oC 19 [.t 179,.t 5,kI 2,kI 3] 180,
 oP (.bin .add (kS [97,115,115,101,114,116,32]) (.t 180)) 181,
 oP (.bin .add (.t 181) (kS [59,10])) 182,
 oE .add 178 182 183,
 oM 183 9])
 (sO [oM 12 185,
 oH .eql 185 6 186,
 oM 186 184]
 (.cond (.t 184)
 (sO [oM 0 188,
 oM 0 189,
 oC 13 [.t 189,kI 3] 190,
 oC 32 [.t 188,.t 5,.t 190,kI 2] 191,
 oM 191 187,
 oX 187 0 192,
 oX 187 1 193,
 oM 192 18,
 oM 193 19]
 (sO [oM 19 194]
 (.cond (.t 194)
 (.ops [oM 9 195,
 oM 18 196,
 oP (.bin .add (.t 196) (kS [59,10])) 197,
 oE .add 195 197 198,
 oM 198 9])
 (.skip))))
 (.ops [oM 9 29,
 oP (.bin .add (.t 29) (kS [115,107,105,112,59,10])) 30,
 oM 30 9]))))))))))))))))
 (.ops [oM 11 25,
 oH .add 25 1 26,
 oM 26 11]))))))
 (sO [oM 9 199,
 oM 199 8]
 (.ret)))))
theorem abl:bJ Tryz.prog 18 aeE=some (aaR,[.tmp 8],200):=by kernel_rfl
structure qu (s:Nm) (r:Nat):Prop where
 ok:gT s
 fn:s.funcs.length≤1000
 l0:s.ints.length+r≤1000
 l1:s.vN.length+r≤1000
 l2:s.nA.length+r≤1000
 fr:s.fresh+r≤20
theorem qu.sm {s:Nm} {r:Nat} (h:qu s r):K8 s:=⟨h.ok,h.fn,by have:=h.l0; omega,by have:=h.l1; omega,by have:=h.l2; omega⟩
theorem qu.le {s:Nm} {r r':Nat} (h:qu s r) (e:r'≤r):qu s r':=⟨h.ok,h.fn,by have:=h.l0; omega,by have:=h.l1; omega,by have:=h.l2; omega,by have:=h.fr; omega⟩
theorem qu.up {s:Nm} {r:Nat} (h:qu s (r+1)):qu { s with fresh:=s.fresh+1 } r:=⟨h.ok.fresh _,h.fn,by have:=h.l0; simp only; omega,by have:=h.l1; simp only; omega,by have:=h.l2; simp only; omega,by have:=h.fr; simp only; omega⟩
theorem qu.upW {s:Nm} {r:Nat} (h:qu s (r+1)) {x:List UInt8} (h1:fB x) (h2:2≤x.length) (t:Int):qu (({ s with fresh:=s.fresh+1 }:Nm).with x t) r:=by
 have hk:=(h.ok.fresh (s.fresh+1)).with h1 h2 t
 obtain ⟨_,a,b,c,d,e⟩:=h
 refine ⟨hk,?_,?_,?_,?_,by rw [gk]; simp only; omega⟩
 bf
  unfold Nm.with
  split
  ·simp; omega
  ·split<;>(simp; omega)
def nw (L:List Int) (test:Bool):Nat→Nm→Nat→List GS×Nat
 | 0=>fun _ b=>([],b)
 | d+1=>dH L test d
theorem Lj (L:List Int) (test:Bool) (d:Nat) (s:Nm) (a:Nat):dH L test d s a=dT L (nw L test d) d test (b7 L 4 a).1.toNat s (b7 L 4 a).2:=by
 cases d<;>rfl
def eF (s:Nm):cR:=.cells [.sl (cM s.ints),.sl (cM s.vN),.sl (cM s.nA),.sl (dP s.funcs),.int .i64 (s.fresh:Int)]
theorem BB {h:aa} {q:Nat} {s:Nm} (e:h.f q=some (eF s)):vb h q s (.sl (cM s.ints)) (.sl (cM s.vN)) (.sl (cM s.nA)) (.sl (dP s.funcs)):=⟨e,.inl rfl,.inl rfl,.inl rfl,.inl rfl⟩
def YQ (G:Nat) (args:List D) (h:aa) (K E:D→aa→Prop):Prop:=∃(p:Nat) (L:List Int) (a:Nat) (s:Nm) (d:Nat) (test:Bool),args=[.ptr p 1 0,OE s,.int .i64 (d:Int),.bool test]∧d<G∧d≤2∧h.f p=some (nf L a)∧qu s (3+3*d)∧
 K (.str (GS.c7 10 (dH L test d s a).1 [])) (h.set p (nf L (dH L test d s a).2))
theorem M7 (G:Nat) (args:List D) (h:aa) (K E K' E':D→aa→Prop) (hk:∀d h,K d h→K' d h) (he:∀d h,E d h→E' d h) (c:YQ G args h K E):YQ G args h K' E':=by
 obtain ⟨p,L,a,s,d,test,x1,x2,x3,x4,x5,k⟩:=c
 exact ⟨p,L,a,s,d,test,x1,x2,x3,x4,x5,hk _ _ k⟩
def RF (G:Nat):bm:=(MS 4).kc 18 (YQ G) (M7 G)
theorem UQ {G:Nat}:(RF G).q=(MS 4).q:=rfl
theorem UN {G:Nat}:(RF G).a=(MS 4).a:=rfl
theorem UO {G:Nat} (g:FuncId) (args:List D) (h:aa) (K E:D→aa→Prop):(RF G).c g args h K E=if g=18 then YQ G args h K E else (MS 4).c g args h K E:=rfl
theorem bX:a7% (And.intro (And.intro @UQ (And.intro @UN @UO)) @dk):=(And.intro (And.intro @UQ (And.intro @UN @UO)) @dk)
theorem eC:∀(l r:List GS),GS.c7 10 (l++r) []=GS.c7 10 l []++GS.c7 10 r []
 | [],r=>by rw [List.nil_append,GS.c7]; rfl
 | s::l,r=>by
  rw [List.cons_append,GS.c7,GS.c7,eC l r,rI s (10::(GS.c7 10 l []++_)),rI s (10::GS.c7 10 l [])]
  simp
theorem X0 (x:List UInt8) (e:GE):GS.c7 10 [.jY x e] []=x++([32,58,61,32]++(e.tx []++[59,10])):=by rw [GS.c7,GS.tx,GS.c7,cD e]; simp
theorem Q8 (x:List UInt8) (e:GE):GS.c7 10 [.np x e] []=x++([32,61,32]++(e.tx []++[59,10])):=by rw [GS.c7,GS.tx,GS.c7,cD e]; simp
theorem u_:GS.c7 10 [.skip] []=[115,107,105,112,59,10]:=by rw [GS.c7,GS.tx,GS.c7]; rfl
theorem KR (e:GE):GS.c7 10 [.iS e] []=[97,115,115,101,114,116,32]++(e.tx []++[59,10]):=by rw [GS.c7,GS.tx,GS.c7,cD e]; simp [lr]
theorem ab3 (x:List UInt8) (l:List GE):GS.c7 10 [.xV x l] []=(GE.call x l).tx []++[59,10]:=by rw [GS.c7,GS.tx,GS.c7,GE.tx,j7 l,j7 l [41]]; simp
theorem ab4 (e:GE) (l:List GS):GS.c7 10 [.zg e l] []=[105,102,32]++(e.tx []++([32,123,10]++(GS.c7 10 l []++[125,10]))):=by rw [GS.c7,GS.tx,GS.c7,cD e,dE l]; simp [FQ]
theorem X2 (e:GE) (l r:List GS):GS.c7 10 [.zf e l r] []=[105,102,32]++(e.tx []++([32,123,10]++(GS.c7 10 l []++([125,32,101,108,115,101,32,123,10]++(GS.c7 10 r []++[125,10]))))):=by rw [GS.c7,GS.tx,GS.c7,cD e,dE l,dE r]; simp [FQ,jS]
theorem X1 (x q:List UInt8) (l:List GS):GS.c7 10 [.jY x (.int [48]),.lR (.bin [60] (.var x) (.int q)) (l++[.np x (.bin [43] (.var x) (.int [49]))])] []=
  x++([32,58,61,32,48,59,10,102,111,114,32,40]++(x++([32,60,32]++(q++([41,32,123,10]++(GS.c7 10 l []++(x++([32,61,32,40]++(x++[32,43,32,49,41,59,10,125,10]))))))))):=by
 rw [GS.c7,GS.c7,GS.tx,GS.c7,GS.tx,dE (l++_),eC,Q8]
 simp [GE.tx,FE]
theorem F5 (G:Nat) (hT:(RF G).ok Tryz.prog) (args:List D) (h:aa) (K E:D→aa→Prop) (c:YQ (G+1) args h K E):aQ Tryz.prog 18 args h (dF.to K E):=by
 obtain ⟨p,L,a,s,d,test,rfl,hG,hd,hp,nz,k⟩:=c
 refine aQ.du hT (dc:=cS.none) (fun _ _=>cS.eV) (by kernel_rfl) abl (by simp) ?_
 rw [dK]
 rw [Lj] at k
 have hr:=b_ L (n:=4) (by decide) a
 simp (maxSteps:=1000000) only [aaR,OE,bX,aB,aD,seval]
 intro i1 k1
 have n1:¬i1=p:=fun e=>by rw [e,hp] at k1; cases k1
 have c_:¬p=i1:=fun e=>n1 e.symm
 refine ⟨p,L,a,4,rfl,by simp [c_,hp],by decide,by decide,?_⟩
 generalize b7 L 4 a=nb at k hr ⊢
 obtain ⟨n0,b0⟩:=nb
 simp only at k hr ⊢
 simp (maxSteps:=1000000) only [n1,c_,hp,bX,aB,aD,seval]
 obtain ⟨n,rfl⟩:∃n:Nat,n0=(n:Int):=⟨n0.toNat,by omega⟩
 rw [Int.toNat_natCast] at k
 have hn:n≤3:=by omega
 have tot:sl (dT L (nw L test d) d test n s b0).1≤38829:=by
  have h1:=ph (L:=L) (blk:=nw L test d) (test:=test) hd (fun e he s a hs hf=>by subst he; exact gY e (by omega) s a hs hf) n s b0 nz.ok (by have:=nz.fr; omega)
  have h2:qL d≤12943:=by
   match d,hd with
   | 0,_=>decide
   | 1,_=>decide
   | 2,_=>decide
  have h3:=Nat.mul_le_mul hn h2
  omega
 refine c6 (X:=Nat×Nm×Nat×List GS) (fun z=>[(0,.ptr p 1 0),(2,.int .i64 (d:Int)),(3,.bool test),(5,.ptr i1 1 0),(8,.str []),(9,.str (GS.c7 10 z.2.2.2 [])),(10,.int .i64 (n:Int)),(11,.int .i64 (z.1:Int))]) (fun z=>(h.set i1 (eF z.2.1)).set p (nf L z.2.2.1)) (fun z=>n - z.1)
  (fun z=>z.1≤n∧qu z.2.1 (n - z.1+3*d)∧dT L (nw L test d) d test n s b0=(z.2.2.2++(dT L (nw L test d) d test (n - z.1) z.2.1 z.2.2.1).1,(dT L (nw L test d) d test (n - z.1) z.2.1 z.2.2.1).2)) (0,s,b0,[])
  ⟨Nat.zero_le _,nz.le (by omega),rfl⟩ (by simp only [GS.c7,aB,aD,seval]) (aa.aU _) ?_
 rintro ⟨i,s',b,done⟩ Q ⟨j0,j1,j2⟩ hQ
 simp only at j0 j1 j2 hQ ⊢
 rw [j2] at tot
 by_cases ci:i<n
 ·have R_:(GS.c7 10 done []).length≤38829:=by
   have:sl done=(GS.c7 10 done []).length:=rfl
   rw [sU] at tot
   omega
  clear tot
  obtain ⟨m,hm⟩:∃m,n - i=m+1:=⟨n - i - 1,by omega⟩
  rw [hm] at j1 j2
  have g:((i:Int)<(n:Int))=True:=eq_true (by omega)
  have wi:IntKind.i64.wrap ((i:Int)+1)=((i+1:Nat):Int):=de (by omega)
  have LJ:n - (i+1)=m:=by omega
  have hr7:=b_ L (n:=7) (by decide) b
  rw [dT] at j2
  have fin:∀(FP:Nm) (b2:Nat) (RJ:List GS),qu FP (m+3*d)→dT L (nw L test d) d test n s b0=((done++RJ)++(dT L (nw L test d) d test m FP b2).1,(dT L (nw L test d) d test m FP b2).2)→
    ∀(σ:Fr) (A:aa),MP [(0,.ptr p 1 0),(2,.int .i64 (d:Int)),(3,.bool test),(5,.ptr i1 1 0),(8,.str []),(9,.str (GS.c7 10 (done++RJ) [])),(10,.int .i64 (n:Int)),(11,.int .i64 ((i+1:Nat):Int))] σ→((h.set i1 (eF FP)).set p (nf L b2)).sub A→Q σ A:=fun FP b2 RJ a1 a2 σ A l1 l2=>
   hQ (i+1,FP,b2,done++RJ) σ A ⟨by omega,by rw [LJ]; exact a1,by rw [LJ]; exact a2⟩ l1 l2 (by simp only; omega)
  simp (maxSteps:=1000000) only [n1,c_,hp,g,bX,aB,aD,seval]
  refine ⟨p,L,b,7,rfl,by simp,by decide,by decide,?_⟩
  generalize b7 L 7 b=kb at j2 hr7 ⊢
  obtain ⟨kk,c⟩:=kb
  simp only at j2 hr7 ⊢
  have Ub:=fun (h:aa) (s:Nm) (e:h.f i1=some (eF s))=>BB e
  by_cases z0:kk=0
  ·rw [if_pos z0] at j2
   subst z0
   have wf:IntKind.i64.wrap ((s'.fresh:Int)+1)=((s'.fresh+1:Nat):Int):=de (by have:=j1.fr; omega)
   have fr:=j1.fr
   have nv:=Sw hd (f:=s'.fresh+1) (by omega)
   have j1':=(j1.le (show m+3*d+1≤m+1+3*d by omega)).upW nv.1.1 nv.1.2
   have ju:=(j1.le (show m+3*d+1≤m+1+3*d by omega)).up
   have xK:sL [.int .i64 (d:Int)]=some (.str (bQ d)):=if_pos ⟨by omega,by omega⟩
   have Ix:sL [.int .i64 ((s'.fresh+1:Nat):Int)]=some (.str (bQ (s'.fresh+1))):=if_pos ⟨by omega,by omega⟩
   simp (maxSteps:=1000000) only [n1,c_,hp,eF,bX,aB,aD,seval]
   refine ⟨p,L,c,3,rfl,by simp,by decide,by decide,?_⟩
   generalize b7 L 3 c=tq at j2 ⊢
   obtain ⟨t,ct⟩:=tq
   simp only at j2 ⊢
   simp (maxSteps:=1000000) only [n1,c_,hp,wf,xK,Ix,bX,aB,aD,seval]
   have Sh:=BA nv.1.1
   simp only [List.length_append,List.length_cons,List.length_nil] at Sh
   repeat refine And.intro (by first | omega | (simp only [List.length_append,List.length_cons,List.length_nil]; omega)) ?_
   refine ⟨p,L,ct,i1,{ s' with fresh:=s'.fresh+1 },_,_,_,_,t,2,rfl,by omega,by omega,by simp [c_],Ub _ _ (by simp [eF]),ju.sm,?_⟩
   have hw:=uZ (s:={ s' with fresh:=s'.fresh+1 }) (x:=118::(bQ d++[120]++bQ (s'.fresh+1))) (t:=t) ⟨by have:=ju.l0; simp only at this ⊢; omega,by have:=ju.l1; simp only at this ⊢; omega,by have:=ju.l2; simp only at this ⊢; omega⟩
   have he:((bU L { s' with fresh:=s'.fresh+1 } 2 t ct).1.tx []).length≤136:=eQ (L:=L) ju.ok 2 t ct
   generalize bU L { s' with fresh:=s'.fresh+1 } 2 t ct=X at he j2 ⊢
   obtain ⟨e,ce⟩:=X
   simp only [OE] at he j2 hw ⊢
   simp (maxSteps:=1000000) only [n1,c_,hp,hw,wi,bX,aB,aD,seval]
   repeat refine And.intro (by first | omega | (simp only [List.length_append,List.length_cons,List.length_nil]; omega)) ?_
   refine fin _ ce [.jY ([118]++bQ d++[120]++bQ (s'.fresh+1)) e] (j1' t) (by rw [j2]; simp) _ _ ?_ ?_
   ·simp only [aD,seval]
    rw [eC,X0]
    simp
   ·exact aa.dV (by repeat' first | ax exact aa.bK | ax exact aa.bO | refine aa.cU (by simp [n1,c_,eF]) ?_ | refine aa.cZ (by simp [n1,c_,eF]) ?_)
  ·rw [if_neg z0] at j2
   have b0:(kk==0)=false:=by simpa using z0
   have jm:=j1.le (show m+3*d≤m+1+3*d by omega)
   by_cases z1:kk=1∨kk=2
   ·rw [if_pos z1] at j2
    have g1:((kk==1)=true∧True)∨((kk==1)=false∧(kk==2)=true):=by
     rcases z1 with rfl | rfl
     ·exact .inl ⟨rfl,trivial⟩
     ·exact .inr ⟨rfl,rfl⟩
    rcases g1 with ⟨e1,e2⟩ | ⟨e1,e2⟩
    bf
     simp (maxSteps:=1000000) only [n1,c_,hp,b0,e1,e2,eF,bX,aB,aD,seval]
     refine ⟨p,L,c,3,rfl,by simp,by decide,by decide,?_⟩
     generalize b7 L 3 c=tq at j2 ⊢
     obtain ⟨t,ct⟩:=tq
     simp only at j2 ⊢
     simp (maxSteps:=1000000) only [n1,c_,hp,b0,e1,e2,bX,aB,aD,seval]
     refine ⟨i1,s',_,_,_,_,t,rfl,Ub _ s' (by simp [eF,n1]),?_⟩
     by_cases z3:s'.of t=[]
     ·rw [if_pos z3] at j2
      simp (maxSteps:=1000000) only [n1,c_,hp,z3,di,List.length_nil,wi,bX,aB,aD,seval]
      refine fin s' ct [] jm (by rw [j2]; simp) _ _ ?_ ?_
      ·simp only [List.append_nil,aD,seval]
      ·exact aa.dV (by repeat' first | ax exact aa.bK | ax exact aa.bO | refine aa.cU (by simp [n1,c_,eF]) ?_ | refine aa.cZ (by simp [n1,c_,eF]) ?_)
     ·rw [if_neg z3] at j2
      have h_:=List.length_pos_iff.2 z3
      have gl:(((s'.of t).length:Int)>0)=True:=eq_true (by omega)
      have hlen:=jm.sm.of t
      have hi:dS (.a8 1 (.sl (cM (s'.of t))) (.int .i64 (b7 L (s'.of t).length ct).1))=some (.c8 [.str (eG L (s'.of t) ct).1] 0):=oB L (l:=s'.of t) [] (fun x=>x) h_ ct
      have hx:=BA (jm.ok.var _ _ (ft L z3 ct)).1
      have e5:(eG L (s'.of t) ct).2=(b7 L (s'.of t).length ct).2:=rfl
      rw [e5] at j2
      simp (maxSteps:=1000000) only [n1,c_,hp,gl,di,bX,aB,aD,seval]
      intro _
      refine ⟨p,L,ct,_,rfl,by simp,by omega,by omega,?_⟩
      simp (maxSteps:=1000000) only [n1,c_,hp,hi,di,bX,aB,aD,seval]
      generalize (eG L (s'.of t) ct).1=x at hx j2 ⊢
      generalize (b7 L (s'.of t).length ct).2=cx at j2 ⊢
      repeat refine And.intro (by first | omega | (simp only [List.length_append,List.length_cons,List.length_nil]; omega)) ?_
      refine ⟨p,L,cx,i1,s',_,_,_,_,t,2,rfl,by omega,by omega,by simp,Ub _ s' (by simp [eF,n1]),jm.sm,?_⟩
      have he:((bU L s' 2 t cx).1.tx []).length≤136:=eQ (L:=L) jm.ok 2 t cx
      generalize bU L s' 2 t cx=X at he j2 ⊢
      obtain ⟨e,ce⟩:=X
      simp only at he j2 ⊢
      simp (maxSteps:=1000000) only [n1,c_,hp,wi,bX,aB,aD,seval]
      repeat refine And.intro (by first | omega | (simp only [List.length_append,List.length_cons,List.length_nil]; omega)) ?_
      refine fin s' ce [.np x e] jm (by rw [j2]; simp) _ _ ?_ ?_
      ·simp only [aD,seval]
       rw [eC,Q8]
       simp
      ·exact aa.dV (by repeat' first | ax exact aa.bK | ax exact aa.bO | refine aa.cU (by simp [n1,c_,eF]) ?_ | refine aa.cZ (by simp [n1,c_,eF]) ?_)
   ·rw [if_neg z1] at j2
    have b1:(kk==1)=false:=by simpa using fun e=>z1 (.inl e)
    have b2:(kk==2)=false:=by simpa using fun e=>z1 (.inr e)
    have Da:∀e,e≤1→bL e≤6321:=fun e he=>by
     match e,he with
     | 0,_=>decide
     | 1,_=>decide
    by_cases z3:kk=3∧0<d
    ·rw [if_pos z3] at j2
     obtain ⟨rfl,Yg⟩:=z3
     obtain ⟨d,rfl⟩:∃e,d=e+1:=⟨d - 1,by omega⟩
     generalize hD:((d+1:Nat):Int)=DD at*
     have wd:IntKind.i64.wrap (DD - 1)=(d:Int):=by rw [←hD,wrap_i64 (by omega) (by omega)]; omega
     have gd:(DD>0)=True:=eq_true (by omega)
     simp only [show ∀s a,nw L test (d+1) s a=dH L test d s a from fun _ _=>rfl] at j2
     simp (maxSteps:=1000000) only [n1,c_,hp,eF,gd,bX,aB,aD,seval]
     refine ⟨p,L,c,i1,s',_,_,_,_,2,2,rfl,by omega,by omega,by simp,Ub _ _ (by simp [eF,n1]),jm.sm,?_⟩
     have he:((bU L s' 2 2 c).1.tx []).length≤136:=eQ (L:=L) jm.ok 2 2 c
     generalize bU L s' 2 2 c=X at he j2 ⊢
     obtain ⟨e,ce⟩:=X
     simp only at he j2 ⊢
     simp (maxSteps:=1000000) only [n1,c_,hp,wd,bX,aB,aD,seval]
     repeat refine And.intro (by first | omega | (simp only [List.length_append,List.length_cons,List.length_nil]; omega)) ?_
     refine ⟨p,L,ce,s',d,test,rfl,by omega,by omega,by simp,j1.le (by omega),?_⟩
     have hb:(GS.c7 10 (dH L test d s' ce).1 []).length≤6321:=Nat.le_trans (gY d (by omega) s' ce jm.ok (by have:=jm.fr; omega)) (Da d (by omega))
     generalize dH L test d s' ce=X at hb j2 ⊢
     obtain ⟨bl,cb⟩:=X
     simp only at hb j2 ⊢
     simp (maxSteps:=1000000) only [n1,c_,hp,wd,bX,aB,aD,seval]
     repeat refine And.intro (by first | omega | (simp only [List.length_append,List.length_cons,List.length_nil]; omega)) ?_
     refine ⟨p,L,cb,2,rfl,by simp,by decide,by decide,?_⟩
     generalize b7 L 2 cb=tq at j2 ⊢
     obtain ⟨t,ct⟩:=tq
     simp only at j2 ⊢
     by_cases z4:t=1
     ·rw [if_pos z4] at j2
      subst z4
      simp (maxSteps:=1000000) only [n1,c_,hp,wd,bX,aB,aD,seval]
      refine ⟨p,L,ct,s',d,test,rfl,by omega,by omega,by simp,j1.le (by omega),?_⟩
      have xI:(GS.c7 10 (dH L test d s' ct).1 []).length≤6321:=Nat.le_trans (gY d (by omega) s' ct jm.ok (by have:=jm.fr; omega)) (Da d (by omega))
      generalize dH L test d s' ct=X at xI j2 ⊢
      obtain ⟨bl2,cb2⟩:=X
      simp only at xI j2 ⊢
      simp (maxSteps:=1000000) only [n1,c_,hp,wd,wi,bX,aB,aD,seval]
      repeat refine And.intro (by first | omega | (simp only [List.length_append,List.length_cons,List.length_nil]; omega)) ?_
      refine fin s' cb2 [.zf e bl bl2] jm (by rw [j2]; simp) _ _ ?_ ?_
      ·simp only [aD,seval]
       rw [eC,X2]
       simp
      ·exact aa.dV (by repeat' first | ax exact aa.bK | ax exact aa.bO | refine aa.cU (by simp [n1,c_,eF]) ?_ | refine aa.cZ (by simp [n1,c_,eF]) ?_)
     ·rw [if_neg z4] at j2
      have b4:(t==1)=false:=by simpa using z4
      simp (maxSteps:=1000000) only [n1,c_,hp,b4,wi,bX,aB,aD,seval]
      repeat refine And.intro (by first | omega | (simp only [List.length_append,List.length_cons,List.length_nil]; omega)) ?_
      refine fin s' ct [.zg e bl] jm (by rw [j2]; simp) _ _ ?_ ?_
      ·simp only [aD,seval]
       rw [eC,ab4]
       simp
      ·exact aa.dV (by repeat' first | ax exact aa.bK | ax exact aa.bO | refine aa.cU (by simp [n1,c_,eF]) ?_ | refine aa.cZ (by simp [n1,c_,eF]) ?_)
    ·rw [if_neg z3] at j2
     by_cases z4:kk=4∧0<d
     ·rw [if_pos z4] at j2
      obtain ⟨rfl,Yg⟩:=z4
      obtain ⟨d,rfl⟩:∃e,d=e+1:=⟨d - 1,by omega⟩
      have wf:IntKind.i64.wrap ((s'.fresh:Int)+1)=((s'.fresh+1:Nat):Int):=de (by have:=j1.fr; omega)
      have fr:=j1.fr
      have nv:=Sw hd (f:=s'.fresh+1) (by omega)
      have ju:=(j1.le (show m+3*(d+1)+1≤m+1+3*(d+1) by omega)).up
      have jw:=(j1.le (show m+3*(d+1)+1≤m+1+3*(d+1) by omega)).upW nv.2.1 nv.2.2 0
      have xK:sL [.int .i64 ((d+1:Nat):Int)]=some (.str (bQ (d+1))):=if_pos ⟨by omega,by omega⟩
      have Ix:sL [.int .i64 ((s'.fresh+1:Nat):Int)]=some (.str (bQ (s'.fresh+1))):=if_pos ⟨by omega,by omega⟩
      have Sh:=BA nv.2.1
      have hw:=uZ (s:={ s' with fresh:=s'.fresh+1 }) (x:=105::(bQ (d+1)++[120]++bQ (s'.fresh+1))) (t:=0) ⟨by have:=ju.l0; simp only at this ⊢; omega,by have:=ju.l1; simp only at this ⊢; omega,by have:=ju.l2; simp only at this ⊢; omega⟩
      have hbd:∀a,(GS.c7 10 (dH L test d (({ s' with fresh:=s'.fresh+1 }:Nm).with ([105]++bQ (d+1)++[120]++bQ (s'.fresh+1)) 0) a).1 []).length≤6321:=fun a=>Nat.le_trans (gY d (by omega) _ a jw.ok (by have:=jw.fr; omega)) (Da d (by omega))
      simp only [show ∀s a,nw L test (d+1) s a=dH L test d s a from fun _ _=>rfl] at j2
      generalize hD:((d+1:Nat):Int)=DD at*
      have wd:IntKind.i64.wrap (DD - 1)=(d:Int):=by rw [←hD,wrap_i64 (by omega) (by omega)]; omega
      have gd:(DD>0)=True:=eq_true (by omega)
      generalize hX:[105]++bQ (d+1)++[120]++bQ (s'.fresh+1)=x at*
      have hX':105::(bQ (d+1)++[120]++bQ (s'.fresh+1))=x:=hX
      rw [hX'] at hw
      simp only [OE] at hw
      simp (maxSteps:=1000000) only [n1,c_,hp,eF,gd,wf,xK,Ix,bX,aB,aD,seval]
      have LI:(bQ (d+1)).length+(bQ (s'.fresh+1)).length≤14:=by
       rw [←hX] at Sh
       simp only [List.length_append,List.length_cons,List.length_nil] at Sh
       omega
      repeat refine And.intro (by first | omega | (simp only [List.length_append,List.length_cons,List.length_nil]; omega)) ?_
      rw [hX']
      have hr4:=b_ L (n:=4) (by decide) c
      refine ⟨p,L,c,4,rfl,by simp [c_],by decide,by decide,?_⟩
      generalize b7 L 4 c=tq at hr4 j2 ⊢
      obtain ⟨q0g,cq⟩:=tq
      simp only at hr4 j2 ⊢
      have UA:sL [.int .i64 q0g]=some (.str (bQ q0g.toNat)):=if_pos ⟨by omega,by omega⟩
      have hq1:(bQ q0g.toNat).length=1:=o7 (by omega)
      simp (maxSteps:=1000000) only [n1,c_,hp,UA,hw,wd,bX,aB,aD,seval]
      repeat refine And.intro (by first | omega | (simp only [List.length_append,List.length_cons,List.length_nil]; omega)) ?_
      refine ⟨p,L,cq,_,d,test,rfl,by omega,by omega,by simp,jw.le (by omega),?_⟩
      have hb:=hbd cq
      generalize dH L test d (({ s' with fresh:=s'.fresh+1 }:Nm).with x 0) cq=X at hb j2 ⊢
      obtain ⟨bl,cb⟩:=X
      simp only at hb j2 ⊢
      simp (maxSteps:=1000000) only [n1,c_,hp,wi,bX,aB,aD,seval]
      repeat refine And.intro (by first | omega | (simp only [List.length_append,List.length_cons,List.length_nil]; omega)) ?_
      refine fin { s' with fresh:=s'.fresh+1 } cb [.jY x (.int [48]),.lR (.bin [60] (.var x) (.int (bQ q0g.toNat))) (bl++[.np x (.bin [43] (.var x) (.int [49]))])] ju (by rw [j2]; simp) _ _ ?_ ?_
      ·simp only [aD,seval]
       rw [eC,X1]
       simp [←hX]
      ·exact aa.dV (by repeat' first | ax exact aa.bK | ax exact aa.bO | refine aa.cU (by simp [n1,c_,eF]) ?_ | refine aa.cZ (by simp [n1,c_,eF]) ?_)
     ·rw [if_neg z4] at j2
      by_cases z5:kk=5∧test=true
      ·rw [if_pos z5] at j2
       obtain ⟨rfl,rfl⟩:=z5
       simp (maxSteps:=1000000) only [n1,c_,hp,eF,bX,aB,aD,seval]
       refine ⟨p,L,c,i1,s',_,_,_,_,2,3,rfl,by omega,by omega,by simp,Ub _ _ (by simp [eF,n1]),jm.sm,?_⟩
       have he:((bU L s' 3 2 c).1.tx []).length≤292:=eQ (L:=L) jm.ok 3 2 c
       generalize bU L s' 3 2 c=X at he j2 ⊢
       obtain ⟨e,ce⟩:=X
       simp only at he j2 ⊢
       simp (maxSteps:=1000000) only [n1,c_,hp,wi,bX,aB,aD,seval]
       repeat refine And.intro (by first | omega | (simp only [List.length_append,List.length_cons,List.length_nil]; omega)) ?_
       refine fin s' ce [.iS e] jm (by rw [j2]; simp) _ _ ?_ ?_
       ·simp only [aD,seval]
        rw [eC,KR]
        simp
       ·exact aa.dV (by repeat' first | ax exact aa.bK | ax exact aa.bO | refine aa.cU (by simp [n1,c_,eF]) ?_ | refine aa.cZ (by simp [n1,c_,eF]) ?_)
      ·rw [if_neg z5] at j2
       by_cases z6:kk=6
       ·rw [if_pos z6] at j2
        subst z6
        simp (maxSteps:=1000000) only [n1,c_,hp,eF,bX,aB,aD,seval]
        refine ⟨p,L,c,3,rfl,by simp,by decide,by decide,?_⟩
        generalize b7 L 3 c=tq at j2 ⊢
        obtain ⟨t,ct⟩:=tq
        simp only at j2 ⊢
        simp (maxSteps:=1000000) only [n1,c_,hp,wi,bX,aB,aD,seval]
        refine ⟨p,L,ct,i1,s',_,_,_,_,t,1,rfl,by omega,by omega,by simp,Ub _ _ (by simp [eF,n1]),jm.sm,?_⟩
        unfold callR
        unfold TZ at j2
        cases hc:iT L s' (bU L s' 1) t ct with
        | mk x v=>
         rw [hc] at j2
         cases x with
         | some y=>
          have he:((GE.call y.1 y.2).tx []).length≤136:=HD (vq (L:=L) jm.ok (fun t a=>eQ (L:=L) jm.ok 1 t a) _ _ _ _ hc)
          simp only at j2 ⊢
          simp (maxSteps:=1000000) only [n1,c_,hp,wi,bX,aB,aD,seval]
          repeat refine And.intro (by first | omega | (simp only [List.length_append,List.length_cons,List.length_nil]; omega)) ?_
          refine fin s' v [.xV y.1 y.2] jm (by rw [j2]; simp) _ _ ?_ ?_
          ·simp only [aD,seval]
           rw [eC,ab3]
          ·exact aa.dV (by repeat' first | ax exact aa.bK | ax exact aa.bO | refine aa.cU (by simp [n1,c_,eF]) ?_ | refine aa.cZ (by simp [n1,c_,eF]) ?_)
         | none=>
          simp only at j2 ⊢
          simp (maxSteps:=1000000) only [n1,c_,hp,wi,bX,aB,aD,seval]
          refine fin s' v [] jm (by rw [j2]; simp) _ _ ?_ ?_
          ·simp only [List.append_nil,aD,seval]
          ·exact aa.dV (by repeat' first | ax exact aa.bK | ax exact aa.bO | refine aa.cU (by simp [n1,c_,eF]) ?_ | refine aa.cZ (by simp [n1,c_,eF]) ?_)
       ·rw [if_neg z6] at j2
        have b6:(kk==6)=false:=by simpa using z6
        have N8:(kk=3∧d=0)∨(kk=4∧d=0)∨(kk=5∧test=false)∨(kk≠3∧kk≠4∧kk≠5):=by
         by_cases y3:kk=3
         ·exact .inl ⟨y3,Nat.eq_zero_of_not_pos fun h=>z3 ⟨y3,h⟩⟩
         ·by_cases y4:kk=4
          ·exact .inr (.inl ⟨y4,Nat.eq_zero_of_not_pos fun h=>z4 ⟨y4,h⟩⟩)
          ·by_cases y5:kk=5
           ·exact .inr (.inr (.inl ⟨y5,by
             cases test with
             | false=>rfl
             | true=>exact absurd ⟨y5,rfl⟩ z5⟩))
           ·exact .inr (.inr (.inr ⟨y3,y4,y5⟩))
        rcases N8 with ⟨rfl,rfl⟩ | ⟨rfl,rfl⟩ | ⟨rfl,rfl⟩ | ⟨y3,y4,y5⟩
        ·have gd:(((0:Nat):Int)>0)=False:=eq_false (by omega)
         simp (maxSteps:=1000000) only [n1,c_,hp,eF,gd,wi,bX,aB,aD,seval]
         repeat refine And.intro (by first | omega | (simp only [List.length_append,List.length_cons,List.length_nil]; omega)) ?_
         refine fin s' c [.skip] jm (by rw [j2]; simp) _ _ ?_ ?_
         ·simp only [aD,seval]
          rw [eC,u_]
         ·exact aa.dV (by repeat' first | ax exact aa.bK | ax exact aa.bO | refine aa.cU (by simp [n1,c_,eF]) ?_ | refine aa.cZ (by simp [n1,c_,eF]) ?_)
        ·have gd:(((0:Nat):Int)>0)=False:=eq_false (by omega)
         simp (maxSteps:=1000000) only [n1,c_,hp,eF,gd,wi,bX,aB,aD,seval]
         repeat refine And.intro (by first | omega | (simp only [List.length_append,List.length_cons,List.length_nil]; omega)) ?_
         refine fin s' c [.skip] jm (by rw [j2]; simp) _ _ ?_ ?_
         ·simp only [aD,seval]
          rw [eC,u_]
         ·exact aa.dV (by repeat' first | ax exact aa.bK | ax exact aa.bO | refine aa.cU (by simp [n1,c_,eF]) ?_ | refine aa.cZ (by simp [n1,c_,eF]) ?_)
        ·have gd:=wi
         simp (maxSteps:=1000000) only [n1,c_,hp,eF,wi,bX,aB,aD,seval]
         repeat refine And.intro (by first | omega | (simp only [List.length_append,List.length_cons,List.length_nil]; omega)) ?_
         refine fin s' c [.skip] jm (by rw [j2]; simp) _ _ ?_ ?_
         ·simp only [aD,seval]
          rw [eC,u_]
         ·exact aa.dV (by repeat' first | ax exact aa.bK | ax exact aa.bO | refine aa.cU (by simp [n1,c_,eF]) ?_ | refine aa.cZ (by simp [n1,c_,eF]) ?_)
        ·have b3:(kk==3)=false:=by simpa using y3
         have b4:(kk==4)=false:=by simpa using y4
         have b5:(kk==5)=false:=by simpa using y5
         simp (maxSteps:=1000000) only [n1,c_,hp,b0,b1,b2,b3,b4,b5,b6,eF,wi,bX,aB,aD,seval]
         repeat refine And.intro (by first | omega | (simp only [List.length_append,List.length_cons,List.length_nil]; omega)) ?_
         refine fin s' c [.skip] jm (by rw [j2]; simp) _ _ ?_ ?_
         ·simp only [aD,seval]
          rw [eC,u_]
         ·exact aa.dV (by repeat' first | ax exact aa.bK | ax exact aa.bO | refine aa.cU (by simp [n1,c_,eF]) ?_ | refine aa.cZ (by simp [n1,c_,eF]) ?_)
 ·have e0:i=n:=by omega
  subst e0
  rw [Nat.sub_self,dT,List.append_nil] at j2
  rw [j2] at k
  simp only at k
  simp (maxSteps:=1000000) only [n1,c_,hp,Int.lt_irrefl,ah,ae,az,bX,aB,aD,seval]
  refine .inl ⟨h.set p (nf L b),?_,k⟩
  exact aa.dV (by repeat' first | ax exact aa.bK | ax exact aa.bO | refine aa.cU (by simp [n1,c_,eF,k1]) ?_ | refine aa.cZ (by simp [n1,c_,eF,k1]) ?_)
theorem QG:∀(G:Nat),(RF G).ok Tryz.prog
 | 0=>bm.cL (QH 4) fun args h K E c=>by
  obtain ⟨p,L,a,s,d,test,_,hG,_⟩:=c
  omega
 | G+1=>bm.cL (QH 4) fun args h K E c=>F5 G (QG G) args h K E c
end
end Go.Proofs.YtpklkpkfgmoghaaGreatDoor.Zz
namespace Go.Proofs.YtpklkpkfgmoghaaGreatDoor.Zz
noncomputable section
def p5g:cj:=⟨⟨[(28,0),(30,0)],[(4,1),(7,1),(9,10),(11,1),(14,4),(17,1),(20,1),(27,1),(29,15),(29,21),(31,1),(34,7),(34,11)],[],[((28,3),[(.t 10)]),((30,3),[(.t 10)]),((29,15),[(.t 10),(.t 10)]),((29,21),[(.t 10)])],[((29,2),(.t 10)),((29,20),(.t 10))],[(2,2),(28,8),(30,8)]⟩,[(28,[1,2,4,5,0,3,6,7,8]),(29,[0,1,2,3,4,5,6,7,8,9,13,14,18,19,20,10,11,12,15,16,17,21,22,23,24,25]),(30,[1,2,4,5,0,3,6,7,8]),(34,[0,1,5,6,10,2,3,4,7,8,9,11,12,13,14,15])],[],false⟩
def Xo:dL:=
 .seq (sO [oM 3 140,
 oC 13 [.t 140,kI 3] 141,
 oH .add 141 1 142,
 oM 142 16]
 (.block 6 (.loop (.seq (sO [oM 16 143,
 oH .gtr 143 0 144]
 (.cond (.t 144)
 (.skip)
 (.exit 6)))
 (.seq (.block 7 (.fD 5 [oM 5 147,
 oM 16 148,
 oM 3 152,
 oJ 5 4 153,
 oM 3 157,
 oD 14 [.t 148] 149,
 oP (.bin .add (kS [116,101,115,116,32,116]) (.t 149)) 150,
 oP (.bin .add (.t 150) (kS [32,123,10])) 151,
 oC 18 [.t 152,.t 153,kI 2,kB true] 154,
 oE .add 151 154 155,
 oP (.bin .add (.t 155) (kS [97,115,115,101,114,116,32])) 156,
 oC 19 [.t 157,.t 4,kI 2,kI 3] 158,
 oE .add 156 158 159,
 oP (.bin .add (.t 159) (kS [59,10,125,10])) 160,
 oE .add 147 160 161,
 oM 161 5]))
 (.ops [oM 16 145,
 oH .sub 145 1 146,
 oM 146 16]))))))
 (sO [oM 5 162,
 oM 162 2]
 (.ret))
def Xn:dL:=
 .seq (sO [oM 3 50,
 oC 13 [.t 50,kI 3] 51,
 oH .add 51 1 52,
 oM 52 9]
 (.block 2 (.loop (.seq (sO [oM 9 53,
 oH .gtr 53 0 54]
 (.cond (.t 54)
 (.skip)
 (.exit 2)))
 (.seq (.block 3 (sO [oM 9 57,
 oD 14 [.t 57] 58,
 oP (.bin .add (kS [102]) (.t 58)) 59,
 oM 3 60,
 oC 13 [.t 60,kI 3] 61,
 oP (.build [(.str []),(.int .i64 0),.bg] [(0,1,(.t 59)),(1,1,(.t 61))]) 62,
 oQ (.alloc [(.str []),(.int .i64 0),.bg]) 10,
 oS 3 10 62]
 (sO [oJ 5 4 63,
 oQ (.alloc [.bg,.bg,.bg,.bg,(.int .i64 0)]) 11,
 oS 5 11 63]
 (sO [oP (.cy (kS [])) 12]
 (.seq (sO [oM 3 64,
 oC 13 [.t 64,kI 3] 65,
 oM 65 13]
 (.block 4 (.loop (.seq (sO [oM 13 66,
 oH .gtr 66 0 67]
 (.cond (.t 67)
 (.skip)
 (.exit 4)))
 (.seq (.block 5 (sO [oM 3 70,
 oC 13 [.t 70,kI 3] 71,
 oM 71 14]
 (sO [oM 13 72,
 oD 14 [.t 72] 73,
 oP (.bin .add (kS [112]) (.t 73)) 74,
 oM 74 15]
 (.seq (sO [oM 12 75,
 oP (.bin .neq (.t 75) (kS [])) 76]
 (.cond (.t 76)
 (.ops [oM 12 77,
 oP (.bin .add (.t 77) (kS [44,32])) 78,
 oM 78 12])
 (.skip)))
 (sO [oM 12 79,
 oM 15 80,
 oP (.bin .add (.t 80) (kS [32])) 81,
 oM 14 82,
 oD 15 [.t 82] 83,
 oE .add 81 83 84,
 oE .add 79 84 85,
 oM 85 12]
 (sO [oF 2 10 86,
 oL 86 87,
 oM 14 88,
 oP (.buildSlice 1 [(.int .i64 0)] 1 [(0,(.t 88))] false) 89,
 oQ (.append 1 8 false (.t 87) (.t 89)) 90,
 oF 2 10 91,
 oS 1 91 90]
 (.ops [oJ 5 11 92,
 oM 15 93,
 oM 14 94,
 oD 17 [.t 92,.t 93,.t 94] 95,
 oS 5 11 95])))))))
 (.ops [oM 13 68,
 oH .sub 68 1 69,
 oM 69 13]))))))
 (.seq (sO [oM 3 96,
 oC 13 [.t 96,kI 5] 97,
 oH .eql 97 4 98]
 (.cond (.t 98)
 (.fD 99 [oF 3 11 100,
 oL 100 101,
 oJ 3 10 103,
 oP (.buildSlice 3 [(.str []),(.int .i64 0),.bg] 1 [(0,(.t 103))] false) 104,
 oQ (.buildSlice 3 [(.str []),(.int .i64 0),.bg] 0 [] true) 99,
 oQ (.appendA 3 48 false (.t 99) (.t 101) [(.t 10)]) 102,
 oQ (.append 3 48 false (.t 102) (.t 104)) 105,
 oF 3 11 106,
 oU (.iw 1 (.t 106) (.t 105))])
 (.skip)))
 (.seq (.fD 5 [oM 5 107,
 oF 0 10 108,
 oQ (.cT none (.t 108) (.t 10)) 109,
 oP (.bin .add (kS [102,117,110,99,32]) (.t 109)) 110,
 oP (.bin .add (.t 110) (kS [40])) 111,
 oM 12 112,
 oE .add 111 112 113,
 oP (.bin .add (.t 113) (kS [41,32])) 114,
 oF 1 10 115,
 oL 115 116,
 oM 3 120,
 oJ 5 11 121,
 oM 3 125,
 oF 1 10 126,
 oQ (.cT none (.t 126) (.t 10)) 127,
 oD 15 [.t 116] 117,
 oE .add 114 117 118,
 oP (.bin .add (.t 118) (kS [32,123,10])) 119,
 oQ (.callNe (.f 18) [(.t 120),(.t 121),(kI 2),(kB false)] [(.t 10),(.t 10)]) 122,
 oE .add 119 122 123,
 oP (.bin .add (.t 123) (kS [114,101,116,117,114,110,32])) 124,
 oQ (.callNe (.f 19) [(.t 125),(.t 11),(.t 127),(kI 3)] [(.t 10)]) 128,
 oE .add 124 128 129,
 oP (.bin .add (.t 129) (kS [59,10,125,10])) 130,
 oE .add 107 130 131,
 oM 131 5])
 (.fD 132 [oF 3 4 133,
 oL 133 134,
 oJ 3 10 136,
 oP (.buildSlice 3 [(.str []),(.int .i64 0),.bg] 1 [(0,(.t 136))] false) 137,
 oQ (.buildSlice 3 [(.str []),(.int .i64 0),.bg] 0 [] true) 132,
 oQ (.appendA 3 48 false (.t 132) (.t 134) [(.t 10)]) 135,
 oQ (.append 3 48 false (.t 135) (.t 137)) 138,
 oF 3 4 139,
 oU (.iw 1 (.t 139) (.t 138))]))))))))
 (.ops [oM 9 55,
 oH .sub 55 1 56,
 oM 56 9]))))))
 (Xo)
def RE:dL:=
 sO [oP (.cy (kS [])) 2]
 (sO [oM 0 17,
 oP (.build [.bg,(.int .i64 0)] [(0,1,(.t 17))]) 18,
 oQ (.box (.t 18)) 19,
 oM 19 3]
 (sO [oP (.build [.bg,.bg,.bg,.bg,(.int .i64 0)] []) 20,
 oQ (.alloc [.bg,.bg,.bg,.bg,(.int .i64 0)]) 4,
 oU (.iw 5 (.t 4) (.t 20))]
 (sO [oP (.cy (kS [])) 5]
 (.seq (sO [oM 3 21,
 oC 13 [.t 21,kI 3] 22,
 oM 22 6]
 (.block 0 (.loop (.seq (sO [oM 6 23,
 oH .gtr 23 0 24]
 (.cond (.t 24)
 (.skip)
 (.exit 0)))
 (.seq (.block 1 (sO [oM 3 27,
 oC 13 [.t 27,kI 3] 28,
 oM 28 7]
 (sO [oM 6 29,
 oD 14 [.t 29] 30,
 oP (.bin .add (kS [103]) (.t 30)) 31,
 oM 31 8]
 (sO [oM 5 32,
 oM 8 33,
 oP (.bin .add (kS [118,97,114,32]) (.t 33)) 34,
 oP (.bin .add (.t 34) (kS [32])) 35,
 oM 7 36,
 oD 15 [.t 36] 37,
 oE .add 35 37 38,
 oP (.bin .add (.t 38) (kS [32,61,32])) 39,
 oM 3 40,
 oM 7 41,
 oC 16 [.t 40,.t 41] 42,
 oE .add 39 42 43,
 oP (.bin .add (.t 43) (kS [59,10])) 44,
 oE .add 32 44 45,
 oM 45 5]
 (.ops [oJ 5 4 46,
 oM 8 47,
 oM 7 48,
 oD 17 [.t 46,.t 47,.t 48] 49,
 oS 5 4 49])))))
 (.ops [oM 6 25,
 oH .sub 25 1 26,
 oM 26 6]))))))
 (Xn)))))
theorem afg:bJ Tryz.prog 5 p5g=some (RE,[.tmp 2],163):=by kernel_rfl
theorem TE:(RF 3).ok Tryz.prog:=QG 3
theorem qu.w {s:Nm} {r:Nat} (h:qu s (r+1)) {x:List UInt8} (h1:fB x) (h2:2≤x.length) (t:Int):qu (s.with x t) r:=by
 have hk:=h.ok.with h1 h2 t
 obtain ⟨_,a,b,c,d,e⟩:=h
 refine ⟨hk,?_,?_,?_,?_,by rw [gk]; omega⟩
 bf
  unfold Nm.with
  split
  ·simp; omega
  ·split<;>(simp; omega)
theorem zG:∀(l:List (List UInt8×Int)) (r:List UInt8),f_ l r=f_ l []++r
 | [],r=>rfl
 | p::l,r=>by rw [f_,f_,zG l r]; simp
theorem wx (l:List (List UInt8×Int)) (r:List UInt8):gM l r=gM l []++r:=by
 cases l with
 | nil=>rfl
 | cons p l=>rw [gM,gM,zG l r]; simp
theorem HO (D:GD) (r:List UInt8):D.tx 10 r=D.tx 10 []++r:=by
 cases D with
 | var x t e=>rw [GD.tx,GD.tx,cD e (59::r),cD e [59]]; simp
 | func x ps t l=>rw [GD.tx,GD.tx,dE l (125::r),dE l [125],wx ps (41::_),wx ps (41::32::(gx t++32::123::10::(GS.c7 10 l []++[125])))]; simp
 | test x l=>rw [GD.tx,GD.tx,dE l (125::r),dE l [125]]; simp
theorem fu:∀(l m:List GD),cC 10 (l++m)=cC 10 l++cC 10 m
 | [],m=>rfl
 | D::l,m=>by rw [List.cons_append,cC,cC,fu l m,HO,HO D (10::cC 10 l)]; simp
theorem Q9 (x:List UInt8) (t:Int) (e:GE):cC 10 [.var x t e]=[118,97,114,32]++(x++(32::(gx t++([32,61,32]++(e.tx []++[59,10]))))):=by
 rw [cC,cC,GD.tx,cD e]
 simp [kK]
theorem B2 (t:Int):(gx t).length≤5:=by unfold gx; split<;>(try split)<;>decide
def WN:Nm:=⟨[],[],[],[],0⟩
theorem KS (x:List UInt8) (l:List GS) (e:GE):cC 10 [.test x (l++[.iS e])]=[116,101,115,116,32]++(x++([32,123,10]++(GS.c7 10 l []++([97,115,115,101,114,116,32]++(e.tx []++[59,10,125,10]))))):=by
 rw [cC,cC,GD.tx,dE,eC,KR]
 simp [rW]
theorem MB (L:List Int) (i1 i2:Nat) (n1:¬i2=i1) (c_:¬i1=i2) (s:Nm) (nz:qu s 9) (a:Nat) (out:List UInt8) (ho:out.length≤1000000) (E:Fr→D→aa→Prop) (σ:Fr) (B6:σ.env 3=.ptr i1 1 0) (Xx:σ.env 4=.ptr i2 1 0) (RE:σ.env 5=.str out) (sd:σ.defs=[]) (R:dF→aa→Prop)
  (k:R (.ret (.str (out++cC 10 (iz L ((b7 L 3 a).1.toNat+1) s (b7 L 3 a).2).1))) .emp):
  vc (RF 3) Xo (todo (RF 3) (sR [.tmp 2] R) E []) E σ ((aa.emp.set i2 (eF s)).set i1 (nf L a)):=by
 have Uf:=b_ L (n:=3) (by decide) a
 simp (maxSteps:=1000000) only [Xo,B6,Xx,RE,sd,bX,aB,aD,seval]
 refine ⟨i1,L,a,3,rfl,by simp,by decide,by decide,?_⟩
 generalize b7 L 3 a=nb at Uf k ⊢
 obtain ⟨n0,b0⟩:=nb
 simp only at Uf k ⊢
 have w0:IntKind.i64.wrap (n0+1)=((n0.toNat+1:Nat):Int):=by rw [wrap_i64 (by omega) (by omega)]; omega
 have hn:n0.toNat+1≤3:=by omega
 generalize n0.toNat+1=n at hn w0 k
 simp (maxSteps:=1000000) only [n1,c_,w0,B6,Xx,RE,sd,bX,aB,aD,seval]
 refine c6 (X:=Nat×Nat×List GD) (fun z=>[(3,.ptr i1 1 0),(4,.ptr i2 1 0),(5,.str (out++cC 10 z.2.2)),(16,.int .i64 (z.1:Int))]) (fun z=>(aa.emp.set i2 (eF s)).set i1 (nf L z.2.1)) (fun z=>z.1)
  (fun z=>z.1≤3∧(cC 10 z.2.2).length+100000*z.1≤300000∧iz L n s b0=(z.2.2++(iz L z.1 s z.2.1).1,(iz L z.1 s z.2.1).2)) (n,b0,[])
  ⟨by omega,by rw [cC]; simp; omega,rfl⟩ (by simp only [cC,List.append_nil,B6,Xx,RE,sd,aD,seval]) (aa.aU _) ?_
 rintro ⟨i,c,done⟩ Q ⟨j0,j2,j3⟩ hQ
 simp only at j0 j2 j3 hQ ⊢
 have Ub:=fun (h:aa) (e:h.f i2=some (eF s))=>BB e
 cases i with
 | succ i=>
  have g:(((i+1:Nat):Int)>0)=True:=eq_true (by omega)
  have xK:sL [.int .i64 ((i+1:Nat):Int)]=some (.str (bQ (i+1))):=if_pos ⟨by omega,by omega⟩
  have hl:(bQ (i+1)).length=1:=o7 (by omega)
  generalize hI:((i+1:Nat):Int)=I at*
  have wi:IntKind.i64.wrap (I - 1)=(i:Int):=by rw [←hI,wrap_i64 (by omega) (by omega)]; omega
  rw [iz] at j3
  simp (maxSteps:=1000000) only [n1,c_,g,xK,eF,bX,aB,aD,seval]
  repeat refine And.intro (by first | omega | (simp only [List.length_append,List.length_cons,List.length_nil]; omega)) ?_
  refine ⟨i1,L,c,s,2,true,rfl,by decide,by decide,by simp,nz.le (by decide),?_⟩
  have hb:(GS.c7 10 (dH L true 2 s c).1 []).length≤38829:=gY 2 (by decide) s c nz.ok (by have:=nz.fr; omega)
  generalize dH L true 2 s c=X at hb j3 ⊢
  obtain ⟨bl,cb⟩:=X
  simp only at hb j3 ⊢
  simp (maxSteps:=1000000) only [n1,c_,bX,aB,aD,seval]
  repeat refine And.intro (by first | omega | (simp only [List.length_append,List.length_cons,List.length_nil]; omega)) ?_
  refine ⟨i1,L,cb,i2,s,_,_,_,_,2,3,rfl,by omega,by omega,by simp [c_],Ub _ (by simp [eF,n1]),nz.sm,?_⟩
  have he:((bU L s 3 2 cb).1.tx []).length≤292:=eQ (L:=L) nz.ok 3 2 cb
  generalize bU L s 3 2 cb=X at he j3 ⊢
  obtain ⟨e,ce⟩:=X
  simp only at he j3 ⊢
  simp (maxSteps:=1000000) only [n1,c_,wi,bX,aB,aD,seval]
  repeat refine And.intro (by first | omega | (simp only [List.length_append,List.length_cons,List.length_nil]; omega)) ?_
  refine hQ (i,ce,done++[.test ([116]++bQ (i+1)) (bl++[.iS e])]) _ _ ⟨by omega,?_,by rw [j3]; simp⟩ ?_ ?_ (by simp only; omega)
  ·rw [fu,KS]
   simp only [List.length_append,List.length_cons,List.length_nil]
   omega
  ·simp only [aD,seval]
   rw [fu,KS]
   simp
  ·exact aa.dV (by repeat' first | ax exact aa.bK | ax exact aa.bO | refine aa.cU (by simp [n1,c_,eF]) ?_ | refine aa.cZ (by simp [n1,c_,eF]) ?_)
 | zero=>
  rw [iz,List.append_nil] at j3
  rw [j3] at k
  simp only at k
  simp (maxSteps:=1000000) only [n1,c_,eF,bX,aB,aD,seval]
  exact ⟨rfl,_,rfl,.inl ⟨.emp,aa.jb _,k⟩⟩
end
end Go.Proofs.YtpklkpkfgmoghaaGreatDoor.Zz
