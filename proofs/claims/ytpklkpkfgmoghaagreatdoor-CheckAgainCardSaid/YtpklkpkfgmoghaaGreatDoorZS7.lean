/- Contracts: the generator of programs: blocks. -/
import Derived.Test.YtpklkpkfgmoghaaGreatDoorZS5
set_option linter.unnecessarySimpa false
set_option linter.unusedVariables false
set_option linter.unusedSimpArgs false
set_option maxRecDepth 20000
namespace Go.Proofs.YtpklkpkfgmoghaaGreatDoor.Zz
noncomputable section
def amK:cm:=⟨⟨[],[(2,1),(6,1),(9,1),(12,5),(15,1),(16,1),(18,5),(18,11),(20,2),(20,10),(21,1),(22,6),(27,7),(27,18),(29,2),(31,2),(31,3)],[],[((18,11),[(.t 5)]),((18,11),[(.t 76)]),((20,2),[(.t 5)]),((27,7),[(.t 5)])],[((18,7),(.t 5)),((18,7),(.t 76))],[]⟩,[(11,[0,4,5,1,2,3,6,7,8]),(18,[0,1,2,3,4,9,10,5,6,7,8,11,12,13,14,15]),(20,[0,1,5,6,7,8,9,2,3,4,10,11,12,13,14]),(26,[0,4,5,1,2,3,6,7,8]),(27,[0,1,2,3,4,5,6,11,12,13,15,16,17,20,23,7,8,9,10,14,18,19,21,22,24,25,26,27])],[],false⟩
def aiR:dU:=
 sO [oQ (.box (.t 1)) 5,
 oP (.cB (kS [])) 8]
 (sO [oP (.cB (kS [])) 9]
 (sO [oM 0 20,
 oC 13 [.t 20,kI 4] 21,
 oM 21 10]
 (.seq (sO [oP (.cB (kI 0)) 11]
 (.block 0 (.loop (.seq (sO [oM 11 22,
 oM 10 23,
 oE .lss 22 23 24]
 (.cond (.t 24)
 (.skip)
 (.exit 0)))
 (.seq (.block 1 (sO [oM 0 27,
 oC 13 [.t 27,kI 7] 28,
 oM 28 12]
 (.block 2 (sO [oM 12 32,
 oH .eql 32 0 33,
 oM 33 31]
 (.cond (.t 31)
 (sO [oM 0 34,
 oC 13 [.t 34,kI 3] 35,
 oM 35 13]
 (sO [oF 4 5 36,
 oL 36 37,
 oH .add 37 1 38,
 oF 4 5 39,
 oS 1 39 38]
 (.seq (.fS 14 [oM 2 40,
 oF 4 5 44,
 oL 44 45,
 oD 14 [.t 40] 41,
 oP (.bin .add (kS [118]) (.t 41)) 42,
 oP (.bin .add (.t 42) (kS [120])) 43,
 oD 14 [.t 45] 46,
 oE .add 43 46 47,
 oM 47 14])
 (sO [oM 9 48,
 oM 14 49,
 oP (.bin .add (.t 49) (kS [32,58,61,32])) 50,
 oM 0 51,
 oM 13 52,
 oC 19 [.t 51,.t 5,.t 52,kI 2] 53,
 oE .add 50 53 54,
 oP (.bin .add (.t 54) (kS [59,10])) 55,
 oE .add 48 55 56,
 oM 56 9]
 (.ops [oJ 5 5 57,
 oM 14 58,
 oM 13 59,
 oD 17 [.t 57,.t 58,.t 59] 60,
 oS 5 5 60])))))
 (sO [oM 12 62,
 oH .eql 62 1 63,
 oM 63 64,
 oG (.cB (.t 12)) 65 64 false true,
 oG (.bin .eql (.t 65) (kI 2)) 66 64 false true,
 oP (.pick (.t 64) (kB true) (.t 66)) 67,
 oM 67 61]
 (.cond (.t 61)
 (sO [oM 0 68,
 oC 13 [.t 68,kI 3] 69,
 oM 69 15]
 (sO [oM 15 70,
 oC 31 [.t 5,.t 70] 71,
 oM 71 16]
 (sO [oM 16 72,
 oZ 72 73,
 oH .gtr 73 0 74]
 (.cond (.t 74)
 (.fS 9 [oM 9 75,
 oM 16 76,
 oM 0 77,
 oM 16 78,
 oP (.tl .sl (.t 78)) 79,
 oM 0 84,
 oM 15 85,
 oC 13 [.t 77,.t 79] 80,
 oP (.aS 1 (.t 76) (.t 80)) 81,
 oQ (.cQ none (.t 81) (.t 5)) 82,
 oP (.bin .add (.t 82) (kS [32,61,32])) 83,
 oQ (.callNe (.f 19) [(.t 84),(.t 5),(.t 85),(kI 2)] [(.t 5)]) 86,
 oE .add 83 86 87,
 oP (.bin .add (.t 87) (kS [59,10])) 88,
 oE .add 75 88 89,
 oM 89 9])
 (.skip)))))
 (sO [oM 12 91,
 oH .eql 91 3 92,
 oM 92 93,
 oG (.cB (.t 2)) 94 93 true true,
 oG (.bin .gtr (.t 94) (kI 0)) 95 93 true true,
 oP (.pick (.t 93) (.t 95) (kB false)) 96,
 oM 96 90]
 (.cond (.t 90)
 (.seq (.fS 9 [oM 9 97,
 oM 0 98,
 oM 0 102,
 oJ 5 5 103,
 oM 2 104,
 oH .sub 104 1 105,
 oM 3 106,
 oQ (.callNe (.f 19) [(.t 98),(.t 5),(kI 2),(kI 2)] [(.t 5)]) 99,
 oP (.bin .add (kS [105,102,32]) (.t 99)) 100,
 oP (.bin .add (.t 100) (kS [32,123,10])) 101,
 oC 18 [.t 102,.t 103,.t 105,.t 106] 107,
 oE .add 101 107 108,
 oP (.bin .add (.t 108) (kS [125])) 109,
 oE .add 97 109 110,
 oM 110 9])
 (.seq (sO [oM 0 111,
 oC 13 [.t 111,kI 2] 112,
 oH .eql 112 1 113]
 (.cond (.t 113)
 (.ops [oM 9 114,
 oM 0 115,
 oJ 5 5 116,
 oM 2 117,
 oH .sub 117 1 118,
 oM 3 119,
 oC 18 [.t 115,.t 116,.t 118,.t 119] 120,
 oP (.bin .add (kS [32,101,108,115,101,32,123,10]) (.t 120)) 121,
 oP (.bin .add (.t 121) (kS [125])) 122,
 oE .add 114 122 123,
 oM 123 9])
 (.skip)))
 (.ops [oM 9 124,
 oP (.bin .add (.t 124) (kS [10])) 125,
 oM 125 9])))
 (sO [oM 12 127,
 oH .eql 127 4 128,
 oM 128 129,
 oG (.cB (.t 2)) 130 129 true true,
 oG (.bin .gtr (.t 130) (kI 0)) 131 129 true true,
 oP (.pick (.t 129) (.t 131) (kB false)) 132,
 oM 132 126]
 (.cond (.t 126)
 (sO [oF 4 5 133,
 oL 133 134,
 oH .add 134 1 135,
 oF 4 5 136,
 oS 1 136 135]
 (.seq (.fS 17 [oM 2 137,
 oF 4 5 141,
 oL 141 142,
 oD 14 [.t 137] 138,
 oP (.bin .add (kS [105]) (.t 138)) 139,
 oP (.bin .add (.t 139) (kS [120])) 140,
 oD 14 [.t 142] 143,
 oE .add 140 143 144,
 oM 144 17])
 (.fS 9 [oM 9 145,
 oM 17 146,
 oP (.bin .add (.t 146) (kS [32,58,61,32,48,59,10,102,111,114,32,40])) 147,
 oM 17 148,
 oE .add 147 148 149,
 oP (.bin .add (.t 149) (kS [32,60,32])) 150,
 oM 0 151,
 oM 0 156,
 oJ 5 5 157,
 oM 17 158,
 oM 2 160,
 oH .sub 160 1 161,
 oM 3 162,
 oM 17 165,
 oM 17 168,
 oQ (.callNe (.f 13) [(.t 151),(kI 4)] [(.t 5)]) 152,
 oD 14 [.t 152] 153,
 oE .add 150 153 154,
 oP (.bin .add (.t 154) (kS [41,32,123,10])) 155,
 oD 17 [.t 157,.t 158,kI 0] 159,
 oC 18 [.t 156,.t 159,.t 161,.t 162] 163,
 oE .add 155 163 164,
 oE .add 164 165 166,
 oP (.bin .add (.t 166) (kS [32,61,32,40])) 167,
 oE .add 167 168 169,
 oP (.bin .add (.t 169) (kS [32,43,32,49,41,59,10,125,10])) 170,
 oE .add 145 170 171,
 oM 171 9])))
 (sO [oM 12 173,
 oH .eql 173 5 174,
 oM 174 175,
 oG (.cB (.t 3)) 176 175 true true,
 oP (.pick (.t 175) (.t 176) (kB false)) 177,
 oM 177 172]
 (.cond (.t 172)
 (.ops [oM 9 178,
 oM 0 179,
 oC 19 [.t 179,.t 5,kI 2,kI 3] 180,
 oP (.bin .add (kS [97,115,115,101,114,116,32]) (.t 180)) 181,
 oP (.bin .add (.t 181) (kS [59,10])) 182,
 oE .add 178 182 183,
 oM 183 9])
 (sO [oM 12 185,
 oH .eql 185 6 186,
 oM 186 184]
 (.cond (.t 184)
 (sO [oM 0 188,
 oM 0 189,
 oC 13 [.t 189,kI 3] 190,
 oC 32 [.t 188,.t 5,.t 190,kI 2] 191,
 oM 191 187,
 oX 187 0 192,
 oX 187 1 193,
 oM 192 18,
 oM 193 19]
 (sO [oM 19 194]
 (.cond (.t 194)
 (.ops [oM 9 195,
 oM 18 196,
 oP (.bin .add (.t 196) (kS [59,10])) 197,
 oE .add 195 197 198,
 oM 198 9])
 (.skip))))
 (.ops [oM 9 29,
 oP (.bin .add (.t 29) (kS [115,107,105,112,59,10])) 30,
 oM 30 9]))))))))))))))))
 (.ops [oM 11 25,
 oH .add 25 1 26,
 oM 26 11]))))))
 (sO [oM 9 199,
 oM 199 8]
 (.ret)))))
theorem ajy:bA Tryz.prog 18 amK=some (aiR,[.tmp 8],200):=by kernel_rfl
structure tM (s:Nm) (r:Nat):Prop where
 ok:jA s
 fn:s.funcs.length≤1000
 l0:s.ints.length+r≤1000
 l1:s.Ai.length+r≤1000
 l2:s.qx.length+r≤1000
 fr:s.fresh+r≤20
theorem tM.sm {s:Nm} {r:Nat} (h:tM s r):RG s:=⟨h.ok,h.fn,by have:=h.l0; omega,by have:=h.l1; omega,by have:=h.l2; omega⟩
theorem tM.le {s:Nm} {r r':Nat} (h:tM s r) (e:r'≤r):tM s r':=⟨h.ok,h.fn,by have:=h.l0; omega,by have:=h.l1; omega,by have:=h.l2; omega,by have:=h.fr; omega⟩
theorem tM.up {s:Nm} {r:Nat} (h:tM s (r+1)):tM { s with fresh:=s.fresh+1 } r:=⟨h.ok.fresh _,h.fn,by have:=h.l0; simp only; omega,by have:=h.l1; simp only; omega,by have:=h.l2; simp only; omega,by have:=h.fr; simp only; omega⟩
theorem tM.upW {s:Nm} {r:Nat} (h:tM s (r+1)) {x:List UInt8} (h1:hZ x) (h2:2≤x.length) (t:Int):tM (({ s with fresh:=s.fresh+1 }:Nm).with x t) r:=by
 have hk:=(h.ok.fresh (s.fresh+1)).with h1 h2 t
 obtain ⟨_,a,b,c,d,e⟩:=h
 refine ⟨hk,?_,?_,?_,?_,by rw [eF]; simp only; omega⟩
 all_goals
  unfold Nm.with
  split
  ·simp; omega
  ·split<;>(simp; omega)
def qu (L:List Int) (test:Bool):Nat→Nm→Nat→List GS×Nat
 | 0=>fun _ b=>([],b)
 | d+1=>dM L test d
theorem RQ (L:List Int) (test:Bool) (d:Nat) (s:Nm) (a:Nat):dM L test d s a=eE L (qu L test d) d test (bD L 4 a).1.toNat s (bD L 4 a).2:=by
 cases d<;>rfl
def fJ (s:Nm):cJ:=.cells [.sl (eR s.ints),.sl (eR s.Ai),.sl (eR s.qx),.sl (kj s.funcs),.int .i64 (s.fresh:Int)]
theorem Fj {h:aa} {q:Nat} {s:Nm} (e:h.f q=some (fJ s)):zf h q s (.sl (eR s.ints)) (.sl (eR s.Ai)) (.sl (eR s.qx)) (.sl (kj s.funcs)):=⟨e,.inl rfl,.inl rfl,.inl rfl,.inl rfl⟩
def cBk (G:Nat) (args:List D) (h:aa) (K E:D→aa→Prop):Prop:=∃(p:Nat) (L:List Int) (a:Nat) (s:Nm) (d:Nat) (test:Bool),args=[.ptr p 1 0,Vd s,.int .i64 (d:Int),.bool test]∧d<G∧d≤2∧h.f p=some (qa L a)∧tM s (3+3*d)∧
 K (.str (GS.eG 10 (dM L test d s a).1 [])) (h.set p (qa L (dM L test d s a).2))
theorem T2 (G:Nat) (args:List D) (h:aa) (K E K' E':D→aa→Prop) (hk:∀d h,K d h→K' d h) (he:∀d h,E d h→E' d h) (c:cBk G args h K E):cBk G args h K' E':=by
 obtain ⟨p,L,a,s,d,test,x1,x2,x3,x4,x5,k⟩:=c
 exact ⟨p,L,a,s,d,test,x1,x2,x3,x4,x5,hk _ _ k⟩
def YP (G:Nat):bh:=(TM 4).gI 18 (cBk G) (T2 G)
theorem ach {G:Nat}:(YP G).q=(TM 4).q:=rfl
theorem acf {G:Nat}:(YP G).a=(TM 4).a:=rfl
theorem acg {G:Nat} (g:FuncId) (args:List D) (h:aa) (K E:D→aa→Prop):(YP G).c g args h K E=if g=18 then cBk G args h K E else (TM 4).c g args h K E:=rfl
theorem cD:type_of% (And.intro (And.intro @ach (And.intro @acf @acg)) @dY):=(And.intro (And.intro @ach (And.intro @acf @acg)) @dY)
theorem fK:∀(l r:List GS),GS.eG 10 (l++r) []=GS.eG 10 l []++GS.eG 10 r []
 | [],r=>by rw [List.nil_append,GS.eG]; rfl
 | s::l,r=>by
  rw [List.cons_append,GS.eG,GS.eG,fK l r,uL s (10::(GS.eG 10 l []++_)),uL s (10::GS.eG 10 l [])]
  simp
theorem af0 (x:List UInt8) (e:GE):GS.eG 10 [.mL x e] []=x++([32,58,61,32]++(e.tx []++[59,10])):=by rw [GS.eG,GS.tx,GS.eG,de e]; simp
theorem Yf (x:List UInt8) (e:GE):GS.eG 10 [.rQ x e] []=x++([32,61,32]++(e.tx []++[59,10])):=by rw [GS.eG,GS.tx,GS.eG,de e]; simp
theorem zc:GS.eG 10 [.skip] []=[115,107,105,112,59,10]:=by rw [GS.eG,GS.tx,GS.eG]; rfl
theorem Rq (e:GE):GS.eG 10 [.lq e] []=[97,115,115,101,114,116,32]++(e.tx []++[59,10]):=by rw [GS.eG,GS.tx,GS.eG,de e]; simp [nG]
theorem aki (x:List UInt8) (l:List GE):GS.eG 10 [.Fa x l] []=(GE.call x l).tx []++[59,10]:=by rw [GS.eG,GS.tx,GS.eG,GE.tx,pQ l,pQ l [41]]; simp
theorem akj (e:GE) (l:List GS):GS.eG 10 [.Gc e l] []=[105,102,32]++(e.tx []++([32,123,10]++(GS.eG 10 l []++[125,10]))):=by rw [GS.eG,GS.tx,GS.eG,de e,eu l]; simp [KO]
theorem af2 (e:GE) (l r:List GS):GS.eG 10 [.Gb e l r] []=[105,102,32]++(e.tx []++([32,123,10]++(GS.eG 10 l []++([125,32,101,108,115,101,32,123,10]++(GS.eG 10 r []++[125,10]))))):=by rw [GS.eG,GS.tx,GS.eG,de e,eu l,eu r]; simp [KO,nH]
theorem af1 (x q:List UInt8) (l:List GS):GS.eG 10 [.mL x (.int [48]),.p8 (.bin [60] (.var x) (.int q)) (l++[.rQ x (.bin [43] (.var x) (.int [49]))])] []=
  x++([32,58,61,32,48,59,10,102,111,114,32,40]++(x++([32,60,32]++(q++([41,32,123,10]++(GS.eG 10 l []++(x++([32,61,32,40]++(x++[32,43,32,49,41,59,10,125,10]))))))))):=by
 rw [GS.eG,GS.eG,GS.tx,GS.eG,GS.tx,eu (l++_),fK,Yf]
 simp [GE.tx,KF]
theorem Hz (G:Nat) (hT:(YP G).ok Tryz.prog) (args:List D) (h:aa) (K E:D→aa→Prop) (c:cBk (G+1) args h K E):aH Tryz.prog 18 args h (cY.to K E):=by
 obtain ⟨p,L,a,s,d,test,rfl,hG,hd,hp,nz,k⟩:=c
 refine aH.cv hT (dc:=cy.none) (fun _ _=>cy.cX) (by kernel_rfl) ajy (by simp) ?_
 rw [cA]
 rw [RQ] at k
 have hr:=bY L (n:=4) (by decide) a
 simp (maxSteps:=1000000) only [aiR,Vd,cD,aG,aA,seval]
 intro i1 k1
 have n1:¬i1=p:=fun e=>by rw [e,hp] at k1; cases k1
 have dO:¬p=i1:=fun e=>n1 e.symm
 refine ⟨p,L,a,4,rfl,by simp [dO,hp],by decide,by decide,?_⟩
 generalize bD L 4 a=nb at k hr ⊢
 obtain ⟨n0,b0⟩:=nb
 simp only at k hr ⊢
 simp (maxSteps:=1000000) only [n1,dO,hp,cD,aG,aA,seval]
 obtain ⟨n,rfl⟩:∃n:Nat,n0=(n:Int):=⟨n0.toNat,by omega⟩
 rw [Int.toNat_natCast] at k
 have hn:n≤3:=by omega
 have tot:sl (eE L (qu L test d) d test n s b0).1≤38829:=by
  have h1:=sn (L:=L) (blk:=qu L test d) (test:=test) hd (fun e he s a hs hf=>by subst he; exact jG e (by omega) s a hs hf) n s b0 nz.ok (by have:=nz.fr; omega)
  have h2:qL d≤12943:=by
   match d,hd with
   | 0,_=>decide
   | 1,_=>decide
   | 2,_=>decide
  have h3:=Nat.mul_le_mul hn h2
  omega
 refine cj (X:=Nat×Nm×Nat×List GS) (fun z=>[(0,.ptr p 1 0),(2,.int .i64 (d:Int)),(3,.bool test),(5,.ptr i1 1 0),(8,.str []),(9,.str (GS.eG 10 z.2.2.2 [])),(10,.int .i64 (n:Int)),(11,.int .i64 (z.1:Int))]) (fun z=>(h.set i1 (fJ z.2.1)).set p (qa L z.2.2.1)) (fun z=>n - z.1)
  (fun z=>z.1≤n∧tM z.2.1 (n - z.1+3*d)∧eE L (qu L test d) d test n s b0=(z.2.2.2++(eE L (qu L test d) d test (n - z.1) z.2.1 z.2.2.1).1,(eE L (qu L test d) d test (n - z.1) z.2.1 z.2.2.1).2)) (0,s,b0,[])
  ⟨Nat.zero_le _,nz.le (by omega),rfl⟩ (by simp only [GS.eG,aG,aA,seval]) (aa.aj _) ?_
 rintro ⟨i,s',b,done⟩ Q ⟨j0,j1,j2⟩ hQ
 simp only at j0 j1 j2 hQ ⊢
 rw [j2] at tot
 by_cases ci:i<n
 ·have LG:(GS.eG 10 done []).length≤38829:=by
   have:sl done=(GS.eG 10 done []).length:=rfl
   rw [vY] at tot
   omega
  clear tot
  obtain ⟨m,hm⟩:∃m,n - i=m+1:=⟨n - i - 1,by omega⟩
  rw [hm] at j1 j2
  have g:((i:Int)<(n:Int))=True:=eq_true (by omega)
  have wi:IntKind.i64.wrap ((i:Int)+1)=((i+1:Nat):Int):=cp (by omega)
  have LI:n - (i+1)=m:=by omega
  have hr7:=bY L (n:=7) (by decide) b
  rw [eE] at j2
  have fin:∀(KM:Nm) (b2:Nat) (YS:List GS),tM KM (m+3*d)→eE L (qu L test d) d test n s b0=((done++YS)++(eE L (qu L test d) d test m KM b2).1,(eE L (qu L test d) d test m KM b2).2)→
    ∀(σ:Fr) (A:aa),TL [(0,.ptr p 1 0),(2,.int .i64 (d:Int)),(3,.bool test),(5,.ptr i1 1 0),(8,.str []),(9,.str (GS.eG 10 (done++YS) [])),(10,.int .i64 (n:Int)),(11,.int .i64 ((i+1:Nat):Int))] σ→((h.set i1 (fJ KM)).set p (qa L b2)).sub A→Q σ A:=fun KM b2 YS a1 a2 σ A l1 l2=>
   hQ (i+1,KM,b2,done++YS) σ A ⟨by omega,by rw [LI]; exact a1,by rw [LI]; exact a2⟩ l1 l2 (by simp only; omega)
  simp (maxSteps:=1000000) only [n1,dO,hp,g,cD,aG,aA,seval]
  refine ⟨p,L,b,7,rfl,by simp,by decide,by decide,?_⟩
  generalize bD L 7 b=kb at j2 hr7 ⊢
  obtain ⟨kk,c⟩:=kb
  simp only at j2 hr7 ⊢
  have hmC:=fun (h:aa) (s:Nm) (e:h.f i1=some (fJ s))=>Fj e
  by_cases z0:kk=0
  ·rw [if_pos z0] at j2
   subst z0
   have wf:IntKind.i64.wrap ((s'.fresh:Int)+1)=((s'.fresh+1:Nat):Int):=cp (by have:=j1.fr; omega)
   have fr:=j1.fr
   have nv:=ZV hd (f:=s'.fresh+1) (by omega)
   have j1':=(j1.le (show m+3*d+1≤m+1+3*d by omega)).upW nv.1.1 nv.1.2
   have ju:=(j1.le (show m+3*d+1≤m+1+3*d by omega)).up
   have BU:vU [.int .i64 (d:Int)]=some (.str (bM d)):=if_pos ⟨by omega,by omega⟩
   have Ob:vU [.int .i64 ((s'.fresh+1:Nat):Int)]=some (.str (bM (s'.fresh+1))):=if_pos ⟨by omega,by omega⟩
   simp (maxSteps:=1000000) only [n1,dO,hp,fJ,cD,aG,aA,seval]
   refine ⟨p,L,c,3,rfl,by simp,by decide,by decide,?_⟩
   generalize bD L 3 c=tq at j2 ⊢
   obtain ⟨t,ct⟩:=tq
   simp only at j2 ⊢
   simp (maxSteps:=1000000) only [n1,dO,hp,wf,BU,Ob,cD,aG,aA,seval]
   have ZD:=FC nv.1.1
   simp only [List.length_append,List.length_cons,List.length_nil] at ZD
   repeat refine And.intro (by first | omega | (simp only [List.length_append,List.length_cons,List.length_nil]; omega)) ?_
   refine ⟨p,L,ct,i1,{ s' with fresh:=s'.fresh+1 },_,_,_,_,t,2,rfl,by omega,by omega,by simp [dO],hmC _ _ (by simp [fJ]),ju.sm,?_⟩
   have hw:=yZ (s:={ s' with fresh:=s'.fresh+1 }) (x:=118::(bM d++[120]++bM (s'.fresh+1))) (t:=t) ⟨by have:=ju.l0; simp only at this ⊢; omega,by have:=ju.l1; simp only at this ⊢; omega,by have:=ju.l2; simp only at this ⊢; omega⟩
   have he:((b_ L { s' with fresh:=s'.fresh+1 } 2 t ct).1.tx []).length≤136:=fY (L:=L) ju.ok 2 t ct
   generalize b_ L { s' with fresh:=s'.fresh+1 } 2 t ct=X at he j2 ⊢
   obtain ⟨e,ce⟩:=X
   simp only [Vd] at he j2 hw ⊢
   simp (maxSteps:=1000000) only [n1,dO,hp,hw,wi,cD,aG,aA,seval]
   repeat refine And.intro (by first | omega | (simp only [List.length_append,List.length_cons,List.length_nil]; omega)) ?_
   refine fin _ ce [.mL ([118]++bM d++[120]++bM (s'.fresh+1)) e] (j1' t) (by rw [j2]; simp) _ _ ?_ ?_
   ·simp only [aA,seval]
    rw [fK,af0]
    simp
   ·exact aa.fm (by repeat' first | with_reducible exact aa.bZ | with_reducible exact aa.cz | refine aa.dS (by simp [n1,dO,fJ]) ?_ | refine aa.dT (by simp [n1,dO,fJ]) ?_)
  ·rw [if_neg z0] at j2
   have b0:(kk==0)=false:=by simpa using z0
   have jm:=j1.le (show m+3*d≤m+1+3*d by omega)
   by_cases z1:kk=1∨kk=2
   ·rw [if_pos z1] at j2
    have g1:((kk==1)=true∧True)∨((kk==1)=false∧(kk==2)=true):=by
     rcases z1 with rfl | rfl
     ·exact .inl ⟨rfl,trivial⟩
     ·exact .inr ⟨rfl,rfl⟩
    rcases g1 with ⟨e1,e2⟩ | ⟨e1,e2⟩
    all_goals
     simp (maxSteps:=1000000) only [n1,dO,hp,b0,e1,e2,fJ,cD,aG,aA,seval]
     refine ⟨p,L,c,3,rfl,by simp,by decide,by decide,?_⟩
     generalize bD L 3 c=tq at j2 ⊢
     obtain ⟨t,ct⟩:=tq
     simp only at j2 ⊢
     simp (maxSteps:=1000000) only [n1,dO,hp,b0,e1,e2,cD,aG,aA,seval]
     refine ⟨i1,s',_,_,_,_,t,rfl,hmC _ s' (by simp [fJ,n1]),?_⟩
     by_cases z3:s'.of t=[]
     ·rw [if_pos z3] at j2
      simp (maxSteps:=1000000) only [n1,dO,hp,z3,gN,List.length_nil,wi,cD,aG,aA,seval]
      refine fin s' ct [] jm (by rw [j2]; simp) _ _ ?_ ?_
      ·simp only [List.append_nil,aA,seval]
      ·exact aa.fm (by repeat' first | with_reducible exact aa.bZ | with_reducible exact aa.cz | refine aa.dS (by simp [n1,dO,fJ]) ?_ | refine aa.dT (by simp [n1,dO,fJ]) ?_)
     ·rw [if_neg z3] at j2
      have jN:=List.length_pos_iff.2 z3
      have gl:(((s'.of t).length:Int)>0)=True:=eq_true (by omega)
      have hlen:=jm.sm.of t
      have hi:ew (.aS 1 (.sl (eR (s'.of t))) (.int .i64 (bD L (s'.of t).length ct).1))=some (.cO [.str (fA L (s'.of t) ct).1] 0):=rN L (l:=s'.of t) [] (fun x=>x) jN ct
      have hx:=FC (jm.ok.var _ _ (fk L z3 ct)).1
      have e5:(fA L (s'.of t) ct).2=(bD L (s'.of t).length ct).2:=rfl
      rw [e5] at j2
      simp (maxSteps:=1000000) only [n1,dO,hp,gl,gN,cD,aG,aA,seval]
      intro _
      refine ⟨p,L,ct,_,rfl,by simp,by omega,by omega,?_⟩
      simp (maxSteps:=1000000) only [n1,dO,hp,hi,gN,cD,aG,aA,seval]
      generalize (fA L (s'.of t) ct).1=x at hx j2 ⊢
      generalize (bD L (s'.of t).length ct).2=cx at j2 ⊢
      repeat refine And.intro (by first | omega | (simp only [List.length_append,List.length_cons,List.length_nil]; omega)) ?_
      refine ⟨p,L,cx,i1,s',_,_,_,_,t,2,rfl,by omega,by omega,by simp,hmC _ s' (by simp [fJ,n1]),jm.sm,?_⟩
      have he:((b_ L s' 2 t cx).1.tx []).length≤136:=fY (L:=L) jm.ok 2 t cx
      generalize b_ L s' 2 t cx=X at he j2 ⊢
      obtain ⟨e,ce⟩:=X
      simp only at he j2 ⊢
      simp (maxSteps:=1000000) only [n1,dO,hp,wi,cD,aG,aA,seval]
      repeat refine And.intro (by first | omega | (simp only [List.length_append,List.length_cons,List.length_nil]; omega)) ?_
      refine fin s' ce [.rQ x e] jm (by rw [j2]; simp) _ _ ?_ ?_
      ·simp only [aA,seval]
       rw [fK,Yf]
       simp
      ·exact aa.fm (by repeat' first | with_reducible exact aa.bZ | with_reducible exact aa.cz | refine aa.dS (by simp [n1,dO,fJ]) ?_ | refine aa.dT (by simp [n1,dO,fJ]) ?_)
   ·rw [if_neg z1] at j2
    have b1:(kk==1)=false:=by simpa using fun e=>z1 (.inl e)
    have b2:(kk==2)=false:=by simpa using fun e=>z1 (.inr e)
    have HH:∀e,e≤1→bL e≤6321:=fun e he=>by
     match e,he with
     | 0,_=>decide
     | 1,_=>decide
    by_cases z3:kk=3∧0<d
    ·rw [if_pos z3] at j2
     obtain ⟨rfl,hd0⟩:=z3
     obtain ⟨d,rfl⟩:∃e,d=e+1:=⟨d - 1,by omega⟩
     generalize hD:((d+1:Nat):Int)=DD at*
     have wd:IntKind.i64.wrap (DD - 1)=(d:Int):=by rw [←hD,wrap_i64 (by omega) (by omega)]; omega
     have gd:(DD>0)=True:=eq_true (by omega)
     simp only [show ∀s a,qu L test (d+1) s a=dM L test d s a from fun _ _=>rfl] at j2
     simp (maxSteps:=1000000) only [n1,dO,hp,fJ,gd,cD,aG,aA,seval]
     refine ⟨p,L,c,i1,s',_,_,_,_,2,2,rfl,by omega,by omega,by simp,hmC _ _ (by simp [fJ,n1]),jm.sm,?_⟩
     have he:((b_ L s' 2 2 c).1.tx []).length≤136:=fY (L:=L) jm.ok 2 2 c
     generalize b_ L s' 2 2 c=X at he j2 ⊢
     obtain ⟨e,ce⟩:=X
     simp only at he j2 ⊢
     simp (maxSteps:=1000000) only [n1,dO,hp,wd,cD,aG,aA,seval]
     repeat refine And.intro (by first | omega | (simp only [List.length_append,List.length_cons,List.length_nil]; omega)) ?_
     refine ⟨p,L,ce,s',d,test,rfl,by omega,by omega,by simp,j1.le (by omega),?_⟩
     have hb:(GS.eG 10 (dM L test d s' ce).1 []).length≤6321:=Nat.le_trans (jG d (by omega) s' ce jm.ok (by have:=jm.fr; omega)) (HH d (by omega))
     generalize dM L test d s' ce=X at hb j2 ⊢
     obtain ⟨bl,cb⟩:=X
     simp only at hb j2 ⊢
     simp (maxSteps:=1000000) only [n1,dO,hp,wd,cD,aG,aA,seval]
     repeat refine And.intro (by first | omega | (simp only [List.length_append,List.length_cons,List.length_nil]; omega)) ?_
     refine ⟨p,L,cb,2,rfl,by simp,by decide,by decide,?_⟩
     generalize bD L 2 cb=tq at j2 ⊢
     obtain ⟨t,ct⟩:=tq
     simp only at j2 ⊢
     by_cases z4:t=1
     ·rw [if_pos z4] at j2
      subst z4
      simp (maxSteps:=1000000) only [n1,dO,hp,wd,cD,aG,aA,seval]
      refine ⟨p,L,ct,s',d,test,rfl,by omega,by omega,by simp,j1.le (by omega),?_⟩
      have yo:(GS.eG 10 (dM L test d s' ct).1 []).length≤6321:=Nat.le_trans (jG d (by omega) s' ct jm.ok (by have:=jm.fr; omega)) (HH d (by omega))
      generalize dM L test d s' ct=X at yo j2 ⊢
      obtain ⟨bl2,cb2⟩:=X
      simp only at yo j2 ⊢
      simp (maxSteps:=1000000) only [n1,dO,hp,wd,wi,cD,aG,aA,seval]
      repeat refine And.intro (by first | omega | (simp only [List.length_append,List.length_cons,List.length_nil]; omega)) ?_
      refine fin s' cb2 [.Gb e bl bl2] jm (by rw [j2]; simp) _ _ ?_ ?_
      ·simp only [aA,seval]
       rw [fK,af2]
       simp
      ·exact aa.fm (by repeat' first | with_reducible exact aa.bZ | with_reducible exact aa.cz | refine aa.dS (by simp [n1,dO,fJ]) ?_ | refine aa.dT (by simp [n1,dO,fJ]) ?_)
     ·rw [if_neg z4] at j2
      have b4:(t==1)=false:=by simpa using z4
      simp (maxSteps:=1000000) only [n1,dO,hp,b4,wi,cD,aG,aA,seval]
      repeat refine And.intro (by first | omega | (simp only [List.length_append,List.length_cons,List.length_nil]; omega)) ?_
      refine fin s' ct [.Gc e bl] jm (by rw [j2]; simp) _ _ ?_ ?_
      ·simp only [aA,seval]
       rw [fK,akj]
       simp
      ·exact aa.fm (by repeat' first | with_reducible exact aa.bZ | with_reducible exact aa.cz | refine aa.dS (by simp [n1,dO,fJ]) ?_ | refine aa.dT (by simp [n1,dO,fJ]) ?_)
    ·rw [if_neg z3] at j2
     by_cases z4:kk=4∧0<d
     ·rw [if_pos z4] at j2
      obtain ⟨rfl,hd0⟩:=z4
      obtain ⟨d,rfl⟩:∃e,d=e+1:=⟨d - 1,by omega⟩
      have wf:IntKind.i64.wrap ((s'.fresh:Int)+1)=((s'.fresh+1:Nat):Int):=cp (by have:=j1.fr; omega)
      have fr:=j1.fr
      have nv:=ZV hd (f:=s'.fresh+1) (by omega)
      have ju:=(j1.le (show m+3*(d+1)+1≤m+1+3*(d+1) by omega)).up
      have jw:=(j1.le (show m+3*(d+1)+1≤m+1+3*(d+1) by omega)).upW nv.2.1 nv.2.2 0
      have BU:vU [.int .i64 ((d+1:Nat):Int)]=some (.str (bM (d+1))):=if_pos ⟨by omega,by omega⟩
      have Ob:vU [.int .i64 ((s'.fresh+1:Nat):Int)]=some (.str (bM (s'.fresh+1))):=if_pos ⟨by omega,by omega⟩
      have ZD:=FC nv.2.1
      have hw:=yZ (s:={ s' with fresh:=s'.fresh+1 }) (x:=105::(bM (d+1)++[120]++bM (s'.fresh+1))) (t:=0) ⟨by have:=ju.l0; simp only at this ⊢; omega,by have:=ju.l1; simp only at this ⊢; omega,by have:=ju.l2; simp only at this ⊢; omega⟩
      have hbd:∀a,(GS.eG 10 (dM L test d (({ s' with fresh:=s'.fresh+1 }:Nm).with ([105]++bM (d+1)++[120]++bM (s'.fresh+1)) 0) a).1 []).length≤6321:=fun a=>Nat.le_trans (jG d (by omega) _ a jw.ok (by have:=jw.fr; omega)) (HH d (by omega))
      simp only [show ∀s a,qu L test (d+1) s a=dM L test d s a from fun _ _=>rfl] at j2
      generalize hD:((d+1:Nat):Int)=DD at*
      have wd:IntKind.i64.wrap (DD - 1)=(d:Int):=by rw [←hD,wrap_i64 (by omega) (by omega)]; omega
      have gd:(DD>0)=True:=eq_true (by omega)
      generalize hX:[105]++bM (d+1)++[120]++bM (s'.fresh+1)=x at*
      have hX':105::(bM (d+1)++[120]++bM (s'.fresh+1))=x:=hX
      rw [hX'] at hw
      simp only [Vd] at hw
      simp (maxSteps:=1000000) only [n1,dO,hp,fJ,gd,wf,BU,Ob,cD,aG,aA,seval]
      have Zy:(bM (d+1)).length+(bM (s'.fresh+1)).length≤14:=by
       rw [←hX] at ZD
       simp only [List.length_append,List.length_cons,List.length_nil] at ZD
       omega
      repeat refine And.intro (by first | omega | (simp only [List.length_append,List.length_cons,List.length_nil]; omega)) ?_
      rw [hX']
      have hr4:=bY L (n:=4) (by decide) c
      refine ⟨p,L,c,4,rfl,by simp [dO],by decide,by decide,?_⟩
      generalize bD L 4 c=tq at hr4 j2 ⊢
      obtain ⟨q0g,cq⟩:=tq
      simp only at hr4 j2 ⊢
      have q3g:vU [.int .i64 q0g]=some (.str (bM q0g.toNat)):=if_pos ⟨by omega,by omega⟩
      have hq1:(bM q0g.toNat).length=1:=r7 (by omega)
      simp (maxSteps:=1000000) only [n1,dO,hp,q3g,hw,wd,cD,aG,aA,seval]
      repeat refine And.intro (by first | omega | (simp only [List.length_append,List.length_cons,List.length_nil]; omega)) ?_
      refine ⟨p,L,cq,_,d,test,rfl,by omega,by omega,by simp,jw.le (by omega),?_⟩
      have hb:=hbd cq
      generalize dM L test d (({ s' with fresh:=s'.fresh+1 }:Nm).with x 0) cq=X at hb j2 ⊢
      obtain ⟨bl,cb⟩:=X
      simp only at hb j2 ⊢
      simp (maxSteps:=1000000) only [n1,dO,hp,wi,cD,aG,aA,seval]
      repeat refine And.intro (by first | omega | (simp only [List.length_append,List.length_cons,List.length_nil]; omega)) ?_
      refine fin { s' with fresh:=s'.fresh+1 } cb [.mL x (.int [48]),.p8 (.bin [60] (.var x) (.int (bM q0g.toNat))) (bl++[.rQ x (.bin [43] (.var x) (.int [49]))])] ju (by rw [j2]; simp) _ _ ?_ ?_
      ·simp only [aA,seval]
       rw [fK,af1]
       simp [←hX]
      ·exact aa.fm (by repeat' first | with_reducible exact aa.bZ | with_reducible exact aa.cz | refine aa.dS (by simp [n1,dO,fJ]) ?_ | refine aa.dT (by simp [n1,dO,fJ]) ?_)
     ·rw [if_neg z4] at j2
      by_cases z5:kk=5∧test=true
      ·rw [if_pos z5] at j2
       obtain ⟨rfl,rfl⟩:=z5
       simp (maxSteps:=1000000) only [n1,dO,hp,fJ,cD,aG,aA,seval]
       refine ⟨p,L,c,i1,s',_,_,_,_,2,3,rfl,by omega,by omega,by simp,hmC _ _ (by simp [fJ,n1]),jm.sm,?_⟩
       have he:((b_ L s' 3 2 c).1.tx []).length≤292:=fY (L:=L) jm.ok 3 2 c
       generalize b_ L s' 3 2 c=X at he j2 ⊢
       obtain ⟨e,ce⟩:=X
       simp only at he j2 ⊢
       simp (maxSteps:=1000000) only [n1,dO,hp,wi,cD,aG,aA,seval]
       repeat refine And.intro (by first | omega | (simp only [List.length_append,List.length_cons,List.length_nil]; omega)) ?_
       refine fin s' ce [.lq e] jm (by rw [j2]; simp) _ _ ?_ ?_
       ·simp only [aA,seval]
        rw [fK,Rq]
        simp
       ·exact aa.fm (by repeat' first | with_reducible exact aa.bZ | with_reducible exact aa.cz | refine aa.dS (by simp [n1,dO,fJ]) ?_ | refine aa.dT (by simp [n1,dO,fJ]) ?_)
      ·rw [if_neg z5] at j2
       by_cases z6:kk=6
       ·rw [if_pos z6] at j2
        subst z6
        simp (maxSteps:=1000000) only [n1,dO,hp,fJ,cD,aG,aA,seval]
        refine ⟨p,L,c,3,rfl,by simp,by decide,by decide,?_⟩
        generalize bD L 3 c=tq at j2 ⊢
        obtain ⟨t,ct⟩:=tq
        simp only at j2 ⊢
        simp (maxSteps:=1000000) only [n1,dO,hp,wi,cD,aG,aA,seval]
        refine ⟨p,L,ct,i1,s',_,_,_,_,t,1,rfl,by omega,by omega,by simp,hmC _ _ (by simp [fJ,n1]),jm.sm,?_⟩
        unfold callR
        unfold abp at j2
        cases hc:jB L s' (b_ L s' 1) t ct with
        | mk x v=>
         rw [hc] at j2
         cases x with
         | some y=>
          have he:((GE.call y.1 y.2).tx []).length≤136:=M1 (zH (L:=L) jm.ok (fun t a=>fY (L:=L) jm.ok 1 t a) _ _ _ _ hc)
          simp only at j2 ⊢
          simp (maxSteps:=1000000) only [n1,dO,hp,wi,cD,aG,aA,seval]
          repeat refine And.intro (by first | omega | (simp only [List.length_append,List.length_cons,List.length_nil]; omega)) ?_
          refine fin s' v [.Fa y.1 y.2] jm (by rw [j2]; simp) _ _ ?_ ?_
          ·simp only [aA,seval]
           rw [fK,aki]
          ·exact aa.fm (by repeat' first | with_reducible exact aa.bZ | with_reducible exact aa.cz | refine aa.dS (by simp [n1,dO,fJ]) ?_ | refine aa.dT (by simp [n1,dO,fJ]) ?_)
         | none=>
          simp only at j2 ⊢
          simp (maxSteps:=1000000) only [n1,dO,hp,wi,cD,aG,aA,seval]
          refine fin s' v [] jm (by rw [j2]; simp) _ _ ?_ ?_
          ·simp only [List.append_nil,aA,seval]
          ·exact aa.fm (by repeat' first | with_reducible exact aa.bZ | with_reducible exact aa.cz | refine aa.dS (by simp [n1,dO,fJ]) ?_ | refine aa.dT (by simp [n1,dO,fJ]) ?_)
       ·rw [if_neg z6] at j2
        have b6:(kk==6)=false:=by simpa using z6
        have Vi:(kk=3∧d=0)∨(kk=4∧d=0)∨(kk=5∧test=false)∨(kk≠3∧kk≠4∧kk≠5):=by
         by_cases y3:kk=3
         ·exact .inl ⟨y3,Nat.eq_zero_of_not_pos fun h=>z3 ⟨y3,h⟩⟩
         ·by_cases y4:kk=4
          ·exact .inr (.inl ⟨y4,Nat.eq_zero_of_not_pos fun h=>z4 ⟨y4,h⟩⟩)
          ·by_cases y5:kk=5
           ·exact .inr (.inr (.inl ⟨y5,by
             cases test with
             | false=>rfl
             | true=>exact absurd ⟨y5,rfl⟩ z5⟩))
           ·exact .inr (.inr (.inr ⟨y3,y4,y5⟩))
        rcases Vi with ⟨rfl,rfl⟩ | ⟨rfl,rfl⟩ | ⟨rfl,rfl⟩ | ⟨y3,y4,y5⟩
        ·have gd:(((0:Nat):Int)>0)=False:=eq_false (by omega)
         simp (maxSteps:=1000000) only [n1,dO,hp,fJ,gd,wi,cD,aG,aA,seval]
         repeat refine And.intro (by first | omega | (simp only [List.length_append,List.length_cons,List.length_nil]; omega)) ?_
         refine fin s' c [.skip] jm (by rw [j2]; simp) _ _ ?_ ?_
         ·simp only [aA,seval]
          rw [fK,zc]
         ·exact aa.fm (by repeat' first | with_reducible exact aa.bZ | with_reducible exact aa.cz | refine aa.dS (by simp [n1,dO,fJ]) ?_ | refine aa.dT (by simp [n1,dO,fJ]) ?_)
        ·have gd:(((0:Nat):Int)>0)=False:=eq_false (by omega)
         simp (maxSteps:=1000000) only [n1,dO,hp,fJ,gd,wi,cD,aG,aA,seval]
         repeat refine And.intro (by first | omega | (simp only [List.length_append,List.length_cons,List.length_nil]; omega)) ?_
         refine fin s' c [.skip] jm (by rw [j2]; simp) _ _ ?_ ?_
         ·simp only [aA,seval]
          rw [fK,zc]
         ·exact aa.fm (by repeat' first | with_reducible exact aa.bZ | with_reducible exact aa.cz | refine aa.dS (by simp [n1,dO,fJ]) ?_ | refine aa.dT (by simp [n1,dO,fJ]) ?_)
        ·have gd:=wi
         simp (maxSteps:=1000000) only [n1,dO,hp,fJ,wi,cD,aG,aA,seval]
         repeat refine And.intro (by first | omega | (simp only [List.length_append,List.length_cons,List.length_nil]; omega)) ?_
         refine fin s' c [.skip] jm (by rw [j2]; simp) _ _ ?_ ?_
         ·simp only [aA,seval]
          rw [fK,zc]
         ·exact aa.fm (by repeat' first | with_reducible exact aa.bZ | with_reducible exact aa.cz | refine aa.dS (by simp [n1,dO,fJ]) ?_ | refine aa.dT (by simp [n1,dO,fJ]) ?_)
        ·have b3:(kk==3)=false:=by simpa using y3
         have b4:(kk==4)=false:=by simpa using y4
         have b5:(kk==5)=false:=by simpa using y5
         simp (maxSteps:=1000000) only [n1,dO,hp,b0,b1,b2,b3,b4,b5,b6,fJ,wi,cD,aG,aA,seval]
         repeat refine And.intro (by first | omega | (simp only [List.length_append,List.length_cons,List.length_nil]; omega)) ?_
         refine fin s' c [.skip] jm (by rw [j2]; simp) _ _ ?_ ?_
         ·simp only [aA,seval]
          rw [fK,zc]
         ·exact aa.fm (by repeat' first | with_reducible exact aa.bZ | with_reducible exact aa.cz | refine aa.dS (by simp [n1,dO,fJ]) ?_ | refine aa.dT (by simp [n1,dO,fJ]) ?_)
 ·have e0:i=n:=by omega
  subst e0
  rw [Nat.sub_self,eE,List.append_nil] at j2
  rw [j2] at k
  simp only at k
  simp (maxSteps:=1000000) only [n1,dO,hp,Int.lt_irrefl,af,ab,av,cD,aG,aA,seval]
  refine .inl ⟨h.set p (qa L b),?_,k⟩
  exact aa.fm (by repeat' first | with_reducible exact aa.bZ | with_reducible exact aa.cz | refine aa.dS (by simp [n1,dO,fJ,k1]) ?_ | refine aa.dT (by simp [n1,dO,fJ,k1]) ?_)
theorem XY:∀(G:Nat),(YP G).ok Tryz.prog
 | 0=>bh.bQ (NC 4) fun args h K E c=>by
  obtain ⟨p,L,a,s,d,test,_,hG,_⟩:=c
  omega
 | G+1=>bh.bQ (NC 4) fun args h K E c=>Hz G (XY G) args h K E c
end
end Go.Proofs.YtpklkpkfgmoghaaGreatDoor.Zz
namespace Go.Proofs.YtpklkpkfgmoghaaGreatDoor.Zz
noncomputable section
def p5g:cm:=⟨⟨[(28,0),(30,0)],[(4,1),(7,1),(9,10),(11,1),(14,4),(17,1),(20,1),(27,1),(29,15),(29,21),(31,1),(34,7),(34,11)],[],[((28,3),[(.t 10)]),((30,3),[(.t 10)]),((29,15),[(.t 10),(.t 10)]),((29,21),[(.t 10)])],[((29,2),(.t 10)),((29,20),(.t 10))],[(2,2),(28,8),(30,8)]⟩,[(28,[1,2,4,5,0,3,6,7,8]),(29,[0,1,2,3,4,5,6,7,8,9,13,14,18,19,20,10,11,12,15,16,17,21,22,23,24,25]),(30,[1,2,4,5,0,3,6,7,8]),(34,[0,1,5,6,10,2,3,4,7,8,9,11,12,13,14,15])],[],false⟩
def afd:dU:=
 .seq (sO [oM 3 140,
 oC 13 [.t 140,kI 3] 141,
 oH .add 141 1 142,
 oM 142 16]
 (.block 6 (.loop (.seq (sO [oM 16 143,
 oH .gtr 143 0 144]
 (.cond (.t 144)
 (.skip)
 (.exit 6)))
 (.seq (.block 7 (.fS 5 [oM 5 147,
 oM 16 148,
 oM 3 152,
 oJ 5 4 153,
 oM 3 157,
 oD 14 [.t 148] 149,
 oP (.bin .add (kS [116,101,115,116,32,116]) (.t 149)) 150,
 oP (.bin .add (.t 150) (kS [32,123,10])) 151,
 oC 18 [.t 152,.t 153,kI 2,kB true] 154,
 oE .add 151 154 155,
 oP (.bin .add (.t 155) (kS [97,115,115,101,114,116,32])) 156,
 oC 19 [.t 157,.t 4,kI 2,kI 3] 158,
 oE .add 156 158 159,
 oP (.bin .add (.t 159) (kS [59,10,125,10])) 160,
 oE .add 147 160 161,
 oM 161 5]))
 (.ops [oM 16 145,
 oH .sub 145 1 146,
 oM 146 16]))))))
 (sO [oM 5 162,
 oM 162 2]
 (.ret))
def afc:dU:=
 .seq (sO [oM 3 50,
 oC 13 [.t 50,kI 3] 51,
 oH .add 51 1 52,
 oM 52 9]
 (.block 2 (.loop (.seq (sO [oM 9 53,
 oH .gtr 53 0 54]
 (.cond (.t 54)
 (.skip)
 (.exit 2)))
 (.seq (.block 3 (sO [oM 9 57,
 oD 14 [.t 57] 58,
 oP (.bin .add (kS [102]) (.t 58)) 59,
 oM 3 60,
 oC 13 [.t 60,kI 3] 61,
 oP (.build [(.str []),(.int .i64 0),.aZ] [(0,1,(.t 59)),(1,1,(.t 61))]) 62,
 oQ (.alloc [(.str []),(.int .i64 0),.aZ]) 10,
 oS 3 10 62]
 (sO [oJ 5 4 63,
 oQ (.alloc [.aZ,.aZ,.aZ,.aZ,(.int .i64 0)]) 11,
 oS 5 11 63]
 (sO [oP (.cB (kS [])) 12]
 (.seq (sO [oM 3 64,
 oC 13 [.t 64,kI 3] 65,
 oM 65 13]
 (.block 4 (.loop (.seq (sO [oM 13 66,
 oH .gtr 66 0 67]
 (.cond (.t 67)
 (.skip)
 (.exit 4)))
 (.seq (.block 5 (sO [oM 3 70,
 oC 13 [.t 70,kI 3] 71,
 oM 71 14]
 (sO [oM 13 72,
 oD 14 [.t 72] 73,
 oP (.bin .add (kS [112]) (.t 73)) 74,
 oM 74 15]
 (.seq (sO [oM 12 75,
 oP (.bin .neq (.t 75) (kS [])) 76]
 (.cond (.t 76)
 (.ops [oM 12 77,
 oP (.bin .add (.t 77) (kS [44,32])) 78,
 oM 78 12])
 (.skip)))
 (sO [oM 12 79,
 oM 15 80,
 oP (.bin .add (.t 80) (kS [32])) 81,
 oM 14 82,
 oD 15 [.t 82] 83,
 oE .add 81 83 84,
 oE .add 79 84 85,
 oM 85 12]
 (sO [oF 2 10 86,
 oL 86 87,
 oM 14 88,
 oP (.buildSlice 1 [(.int .i64 0)] 1 [(0,(.t 88))] false) 89,
 oQ (.append 1 8 false (.t 87) (.t 89)) 90,
 oF 2 10 91,
 oS 1 91 90]
 (.ops [oJ 5 11 92,
 oM 15 93,
 oM 14 94,
 oD 17 [.t 92,.t 93,.t 94] 95,
 oS 5 11 95])))))))
 (.ops [oM 13 68,
 oH .sub 68 1 69,
 oM 69 13]))))))
 (.seq (sO [oM 3 96,
 oC 13 [.t 96,kI 5] 97,
 oH .eql 97 4 98]
 (.cond (.t 98)
 (.fS 99 [oF 3 11 100,
 oL 100 101,
 oJ 3 10 103,
 oP (.buildSlice 3 [(.str []),(.int .i64 0),.aZ] 1 [(0,(.t 103))] false) 104,
 oQ (.buildSlice 3 [(.str []),(.int .i64 0),.aZ] 0 [] true) 99,
 oQ (.appendA 3 48 false (.t 99) (.t 101) [(.t 10)]) 102,
 oQ (.append 3 48 false (.t 102) (.t 104)) 105,
 oF 3 11 106,
 oU (.j6 1 (.t 106) (.t 105))])
 (.skip)))
 (.seq (.fS 5 [oM 5 107,
 oF 0 10 108,
 oQ (.cQ none (.t 108) (.t 10)) 109,
 oP (.bin .add (kS [102,117,110,99,32]) (.t 109)) 110,
 oP (.bin .add (.t 110) (kS [40])) 111,
 oM 12 112,
 oE .add 111 112 113,
 oP (.bin .add (.t 113) (kS [41,32])) 114,
 oF 1 10 115,
 oL 115 116,
 oM 3 120,
 oJ 5 11 121,
 oM 3 125,
 oF 1 10 126,
 oQ (.cQ none (.t 126) (.t 10)) 127,
 oD 15 [.t 116] 117,
 oE .add 114 117 118,
 oP (.bin .add (.t 118) (kS [32,123,10])) 119,
 oQ (.callNe (.f 18) [(.t 120),(.t 121),(kI 2),(kB false)] [(.t 10),(.t 10)]) 122,
 oE .add 119 122 123,
 oP (.bin .add (.t 123) (kS [114,101,116,117,114,110,32])) 124,
 oQ (.callNe (.f 19) [(.t 125),(.t 11),(.t 127),(kI 3)] [(.t 10)]) 128,
 oE .add 124 128 129,
 oP (.bin .add (.t 129) (kS [59,10,125,10])) 130,
 oE .add 107 130 131,
 oM 131 5])
 (.fS 132 [oF 3 4 133,
 oL 133 134,
 oJ 3 10 136,
 oP (.buildSlice 3 [(.str []),(.int .i64 0),.aZ] 1 [(0,(.t 136))] false) 137,
 oQ (.buildSlice 3 [(.str []),(.int .i64 0),.aZ] 0 [] true) 132,
 oQ (.appendA 3 48 false (.t 132) (.t 134) [(.t 10)]) 135,
 oQ (.append 3 48 false (.t 135) (.t 137)) 138,
 oF 3 4 139,
 oU (.j6 1 (.t 139) (.t 138))]))))))))
 (.ops [oM 9 55,
 oH .sub 55 1 56,
 oM 56 9]))))))
 (afd)
def YO:dU:=
 sO [oP (.cB (kS [])) 2]
 (sO [oM 0 17,
 oP (.build [.aZ,(.int .i64 0)] [(0,1,(.t 17))]) 18,
 oQ (.box (.t 18)) 19,
 oM 19 3]
 (sO [oP (.build [.aZ,.aZ,.aZ,.aZ,(.int .i64 0)] []) 20,
 oQ (.alloc [.aZ,.aZ,.aZ,.aZ,(.int .i64 0)]) 4,
 oU (.j6 5 (.t 4) (.t 20))]
 (sO [oP (.cB (kS [])) 5]
 (.seq (sO [oM 3 21,
 oC 13 [.t 21,kI 3] 22,
 oM 22 6]
 (.block 0 (.loop (.seq (sO [oM 6 23,
 oH .gtr 23 0 24]
 (.cond (.t 24)
 (.skip)
 (.exit 0)))
 (.seq (.block 1 (sO [oM 3 27,
 oC 13 [.t 27,kI 3] 28,
 oM 28 7]
 (sO [oM 6 29,
 oD 14 [.t 29] 30,
 oP (.bin .add (kS [103]) (.t 30)) 31,
 oM 31 8]
 (sO [oM 5 32,
 oM 8 33,
 oP (.bin .add (kS [118,97,114,32]) (.t 33)) 34,
 oP (.bin .add (.t 34) (kS [32])) 35,
 oM 7 36,
 oD 15 [.t 36] 37,
 oE .add 35 37 38,
 oP (.bin .add (.t 38) (kS [32,61,32])) 39,
 oM 3 40,
 oM 7 41,
 oC 16 [.t 40,.t 41] 42,
 oE .add 39 42 43,
 oP (.bin .add (.t 43) (kS [59,10])) 44,
 oE .add 32 44 45,
 oM 45 5]
 (.ops [oJ 5 4 46,
 oM 8 47,
 oM 7 48,
 oD 17 [.t 46,.t 47,.t 48] 49,
 oS 5 4 49])))))
 (.ops [oM 6 25,
 oH .sub 25 1 26,
 oM 26 6]))))))
 (afc)))))
theorem anI:bA Tryz.prog 5 p5g=some (YO,[.tmp 2],163):=by kernel_rfl
theorem aa3:(YP 3).ok Tryz.prog:=XY 3
theorem tM.w {s:Nm} {r:Nat} (h:tM s (r+1)) {x:List UInt8} (h1:hZ x) (h2:2≤x.length) (t:Int):tM (s.with x t) r:=by
 have hk:=h.ok.with h1 h2 t
 obtain ⟨_,a,b,c,d,e⟩:=h
 refine ⟨hk,?_,?_,?_,?_,by rw [eF]; omega⟩
 all_goals
  unfold Nm.with
  split
  ·simp; omega
  ·split<;>(simp; omega)
theorem DB:∀(l:List (List UInt8×Int)) (r:List UInt8),kq l r=kq l []++r
 | [],r=>rfl
 | p::l,r=>by rw [kq,kq,DB l r]; simp
theorem AO (l:List (List UInt8×Int)) (r:List UInt8):kZ l r=kZ l []++r:=by
 cases l with
 | nil=>rfl
 | cons p l=>rw [kZ,kZ,DB l r]; simp
theorem Nf (D:GD) (r:List UInt8):D.tx 10 r=D.tx 10 []++r:=by
 cases D with
 | var x t e=>rw [GD.tx,GD.tx,de e (59::r),de e [59]]; simp
 | func x ps t l=>rw [GD.tx,GD.tx,eu l (125::r),eu l [125],AO ps (41::_),AO ps (41::32::(jE t++32::123::10::(GS.eG 10 l []++[125])))]; simp
 | test x l=>rw [GD.tx,GD.tx,eu l (125::r),eu l [125]]; simp
theorem gR:∀(l m:List GD),dQ 10 (l++m)=dQ 10 l++dQ 10 m
 | [],m=>rfl
 | D::l,m=>by rw [List.cons_append,dQ,dQ,gR l m,Nf,Nf D (10::dQ 10 l)]; simp
theorem Yg (x:List UInt8) (t:Int) (e:GE):dQ 10 [.var x t e]=[118,97,114,32]++(x++(32::(jE t++([32,61,32]++(e.tx []++[59,10]))))):=by
 rw [dQ,dQ,GD.tx,de e]
 simp [mR]
theorem F6 (t:Int):(jE t).length≤5:=by unfold jE; split<;>(try split)<;>decide
def nm0:Nm:=⟨[],[],[],[],0⟩
theorem Rr (x:List UInt8) (l:List GS) (e:GE):dQ 10 [.test x (l++[.lq e])]=[116,101,115,116,32]++(x++([32,123,10]++(GS.eG 10 l []++([97,115,115,101,114,116,32]++(e.tx []++[59,10,125,10]))))):=by
 rw [dQ,dQ,GD.tx,eu,fK,Rq]
 simp [u5]
theorem Ts (L:List Int) (i1 i2:Nat) (n1:¬i2=i1) (dO:¬i1=i2) (s:Nm) (nz:tM s 9) (a:Nat) (out:List UInt8) (ho:out.length≤1000000) (E:Fr→D→aa→Prop) (σ:Fr) (Gf:σ.env 3=.ptr i1 1 0) (s4g:σ.env 4=.ptr i2 1 0) (YO:σ.env 5=.str out) (sd:σ.defs=[]) (R:cY→aa→Prop)
  (k:R (.ret (.str (out++dQ 10 (ia L ((bD L 3 a).1.toNat+1) s (bD L 3 a).2).1))) .emp):
  vc (YP 3) afd (todo (YP 3) (vW [.tmp 2] R) E []) E σ ((aa.emp.set i2 (fJ s)).set i1 (qa L a)):=by
 have hr0:=bY L (n:=3) (by decide) a
 simp (maxSteps:=1000000) only [afd,Gf,s4g,YO,sd,cD,aG,aA,seval]
 refine ⟨i1,L,a,3,rfl,by simp,by decide,by decide,?_⟩
 generalize bD L 3 a=nb at hr0 k ⊢
 obtain ⟨n0,b0⟩:=nb
 simp only at hr0 k ⊢
 have w0:IntKind.i64.wrap (n0+1)=((n0.toNat+1:Nat):Int):=by rw [wrap_i64 (by omega) (by omega)]; omega
 have hn:n0.toNat+1≤3:=by omega
 generalize n0.toNat+1=n at hn w0 k
 simp (maxSteps:=1000000) only [n1,dO,w0,Gf,s4g,YO,sd,cD,aG,aA,seval]
 refine cj (X:=Nat×Nat×List GD) (fun z=>[(3,.ptr i1 1 0),(4,.ptr i2 1 0),(5,.str (out++dQ 10 z.2.2)),(16,.int .i64 (z.1:Int))]) (fun z=>(aa.emp.set i2 (fJ s)).set i1 (qa L z.2.1)) (fun z=>z.1)
  (fun z=>z.1≤3∧(dQ 10 z.2.2).length+100000*z.1≤300000∧ia L n s b0=(z.2.2++(ia L z.1 s z.2.1).1,(ia L z.1 s z.2.1).2)) (n,b0,[])
  ⟨by omega,by rw [dQ]; simp; omega,rfl⟩ (by simp only [dQ,List.append_nil,Gf,s4g,YO,sd,aA,seval]) (aa.aj _) ?_
 rintro ⟨i,c,done⟩ Q ⟨j0,j2,j3⟩ hQ
 simp only at j0 j2 j3 hQ ⊢
 have hmC:=fun (h:aa) (e:h.f i2=some (fJ s))=>Fj e
 cases i with
 | succ i=>
  have g:(((i+1:Nat):Int)>0)=True:=eq_true (by omega)
  have BU:vU [.int .i64 ((i+1:Nat):Int)]=some (.str (bM (i+1))):=if_pos ⟨by omega,by omega⟩
  have hl:(bM (i+1)).length=1:=r7 (by omega)
  generalize hI:((i+1:Nat):Int)=I at*
  have wi:IntKind.i64.wrap (I - 1)=(i:Int):=by rw [←hI,wrap_i64 (by omega) (by omega)]; omega
  rw [ia] at j3
  simp (maxSteps:=1000000) only [n1,dO,g,BU,fJ,cD,aG,aA,seval]
  repeat refine And.intro (by first | omega | (simp only [List.length_append,List.length_cons,List.length_nil]; omega)) ?_
  refine ⟨i1,L,c,s,2,true,rfl,by decide,by decide,by simp,nz.le (by decide),?_⟩
  have hb:(GS.eG 10 (dM L true 2 s c).1 []).length≤38829:=jG 2 (by decide) s c nz.ok (by have:=nz.fr; omega)
  generalize dM L true 2 s c=X at hb j3 ⊢
  obtain ⟨bl,cb⟩:=X
  simp only at hb j3 ⊢
  simp (maxSteps:=1000000) only [n1,dO,cD,aG,aA,seval]
  repeat refine And.intro (by first | omega | (simp only [List.length_append,List.length_cons,List.length_nil]; omega)) ?_
  refine ⟨i1,L,cb,i2,s,_,_,_,_,2,3,rfl,by omega,by omega,by simp [dO],hmC _ (by simp [fJ,n1]),nz.sm,?_⟩
  have he:((b_ L s 3 2 cb).1.tx []).length≤292:=fY (L:=L) nz.ok 3 2 cb
  generalize b_ L s 3 2 cb=X at he j3 ⊢
  obtain ⟨e,ce⟩:=X
  simp only at he j3 ⊢
  simp (maxSteps:=1000000) only [n1,dO,wi,cD,aG,aA,seval]
  repeat refine And.intro (by first | omega | (simp only [List.length_append,List.length_cons,List.length_nil]; omega)) ?_
  refine hQ (i,ce,done++[.test ([116]++bM (i+1)) (bl++[.lq e])]) _ _ ⟨by omega,?_,by rw [j3]; simp⟩ ?_ ?_ (by simp only; omega)
  ·rw [gR,Rr]
   simp only [List.length_append,List.length_cons,List.length_nil]
   omega
  ·simp only [aA,seval]
   rw [gR,Rr]
   simp
  ·exact aa.fm (by repeat' first | with_reducible exact aa.bZ | with_reducible exact aa.cz | refine aa.dS (by simp [n1,dO,fJ]) ?_ | refine aa.dT (by simp [n1,dO,fJ]) ?_)
 | zero=>
  rw [ia,List.append_nil] at j3
  rw [j3] at k
  simp only at k
  simp (maxSteps:=1000000) only [n1,dO,fJ,cD,aG,aA,seval]
  exact ⟨rfl,_,rfl,.inl ⟨.emp,aa.mV _,k⟩⟩
end
end Go.Proofs.YtpklkpkfgmoghaaGreatDoor.Zz
