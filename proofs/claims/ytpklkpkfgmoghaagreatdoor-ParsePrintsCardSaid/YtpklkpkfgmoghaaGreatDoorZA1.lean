/- Contracts: lex: words, numbers. -/
import Derived.Test.YtpklkpkfgmoghaaGreatDoorZL1
set_option linter.unnecessarySimpa false
set_option linter.unusedVariables false
set_option linter.unusedSimpArgs false
set_option maxRecDepth 20000
namespace Go.Proofs.YtpklkpkfgmoghaaGreatDoor.Zz
def p80:b7:=⟨⟨[],[],[],[],[],[]⟩,[],[],false⟩
def s80:dA:=
 sO [oP (.cg (kI 0)) 4]
 (.seq (sO [oM 0 6,
 oZ 6 7,
 oP (.cg (kI 0)) 8]
 (.block 0 (.loop (sO [oE .lss 8 7 9]
 (.seq (.cond (.t 9)
 (.skip)
 (.exit 0))
 (.seq (.block 1 (sO [oM 8 10,
 oM 10 5]
 (sO [oM 1 11,
 oM 0 12,
 oM 5 13,
 oI 1 12 13 14,
 oL 14 15,
 oE .eql 11 15 16]
 (.cond (.t 16)
 (sO [oM 5 17,
 oM 17 4]
 (.ret))
 (.skip)))))
 (.ops [oH .add 8 1 18,
 oM 18 8])))))))
 (sO [oP (.cg (kI (-1))) 4]
 (.ret)))
theorem adn:bE Tryz.prog 97 p80=some (s80,[.tmp 4],19):=by kernel_rfl
def p64:b7:=⟨⟨[],[],[],[],[],[]⟩,[],[],false⟩
def s64:dA:=
 sO [oP (.cg (kB false)) 4]
 (sO [oM 0 5,
 oM 1 6,
 oD 97 [.t 5,.t 6] 7,
 oH .geq 7 0 8,
 oM 8 4]
 (.ret))
theorem adb:bE Tryz.prog 79 p64=some (s64,[.tmp 4],9):=by kernel_rfl
def p65:b7:=⟨⟨[],[],[],[],[],[]⟩,[],[],false⟩
def s65:dA:=
 sO [oP (.cg (.c .a_)) 0]
 (sO [oP (.buildSlice 1 [(.str [])] 14 [(0,(kS [102,117,110,99])),(1,(kS [116,101,115,116])),(2,(kS [118,97,114])),(3,(kS [105,102])),(4,(kS [101,108,115,101])),(5,(kS [102,111,114])),(6,(kS [114,101,116,117,114,110])),(7,(kS [97,115,115,101,114,116])),(8,(kS [115,107,105,112])),(9,(kS [116,114,117,101])),(10,(kS [102,97,108,115,101])),(11,(kS [105,110,116])),(12,(kS [102,108,111,97,116])),(13,(kS [98,111,111,108]))] false) 1,
 oM 1 0]
 (.ret))
theorem ade:bE Tryz.prog 80 p65=some (s65,[.tmp 0],2):=by kernel_rfl
def p40:b7:=⟨⟨[],[],[],[],[],[]⟩,[],[],false⟩
def s40:dA:=
 sO [oP (.cg (kB false)) 2]
 (sO [oD 80 [] 3,
 oM 0 4,
 oD 79 [.t 3,.t 4] 5,
 oM 5 2]
 (.ret))
theorem ac6:bE Tryz.prog 55 p40=some (s40,[.tmp 2],6):=by kernel_rfl
def p85:b7:=⟨⟨[],[],[],[],[],[]⟩,[],[],false⟩
def s85:dA:=
 sO [oP (.cg (kB false)) 2]
 (.seq (sO [oM 0 3,
 oW 3 4,
 oH .gtr 4 1 5,
 oM 5 6,
 oG (.cg (.t 0)) 7 6 true true,
 oG (.hU (.t 7) (kI 0)) 8 6 true true,
 oG (.bin .eql (.t 8) (.c (.int .u8 48))) 9 6 true true,
 oP (.pick (.t 6) (.t 9) (kB false)) 10,
 oM 10 11,
 oG (.cg (.t 0)) 12 11 false true,
 oG (.len .str (.t 12)) 13 11 false false,
 oG (.bin .gtr (.t 13) (kI 19)) 14 11 false true,
 oP (.pick (.t 11) (kB true) (.t 14)) 15]
 (.cond (.t 15)
 (sO [oP (.cg (kB false)) 2]
 (.ret))
 (.skip)))
 (sO [oM 0 16,
 oW 16 17,
 oH .lss 17 19 18,
 oM 18 19,
 oG (.cg (.t 0)) 20 19 false true,
 oG (.bin .leq (.t 20) (kS [57,50,50,51,51,55,50,48,51,54,56,53,52,55,55,53,56,48,55])) 21 19 false true,
 oP (.pick (.t 19) (kB true) (.t 21)) 22,
 oM 22 2]
 (.ret)))
theorem adp:bE Tryz.prog 78 p85=some (s85,[.tmp 2],23):=by kernel_rfl
def p50:b7:=⟨⟨[],[],[],[],[],[]⟩,[],[],false⟩
def s50:dA:=
 sO [oP (.cg (kI 0)) 4]
 (sO [oM 1 6,
 oM 6 5]
 (.seq (.block 0 (.loop (.seq (sO [oM 1 7,
 oM 0 8,
 oW 8 9,
 oE .lss 7 9 10]
 (.cond (.t 10)
 (.skip)
 (.exit 0)))
 (.block 1 (.block 2 (sO [oM 0 15,
 oM 1 16,
 oP (.hU (.t 15) (.t 16)) 17,
 oP (.bin .eql (.t 17) (.c (.int .u8 32))) 18,
 oM 18 19,
 oG (.cg (.t 0)) 20 19 false true,
 oG (.cg (.t 1)) 21 19 false true,
 oG (.hU (.t 20) (.t 21)) 22 19 false true,
 oG (.bin .eql (.t 22) (.c (.int .u8 9))) 23 19 false true,
 oP (.pick (.t 19) (kB true) (.t 23)) 24,
 oM 24 25,
 oG (.cg (.t 0)) 26 25 false true,
 oG (.cg (.t 1)) 27 25 false true,
 oG (.hU (.t 26) (.t 27)) 28 25 false true,
 oG (.bin .eql (.t 28) (.c (.int .u8 10))) 29 25 false true,
 oP (.pick (.t 25) (kB true) (.t 29)) 30,
 oM 30 14]
 (.cond (.t 14)
 (.ops [oM 1 31,
 oH .add 31 1 32,
 oM 32 1])
 (sO [oM 0 34,
 oM 1 35,
 oQ (.slice .str (.t 34) (some (.t 35)) none none) 36,
 oD 48 [.t 36,(kS [47,47])] 37,
 oM 37 33]
 (.cond (.t 33)
 (.ops [oM 1 38,
 oM 0 39,
 oM 1 40,
 oD 49 [.t 39,.t 40,.f 50] 41,
 oE .add 38 41 42,
 oM 42 1])
 (sO [oM 1 11,
 oM 5 12,
 oE .sub 11 12 13,
 oM 13 4]
 (.ret)))))))))))
 (sO [oM 1 43,
 oM 5 44,
 oE .sub 43 44 45,
 oM 45 4]
 (.ret))))
theorem ac7:bE Tryz.prog 33 p50=some (s50,[.tmp 4],46):=by kernel_rfl
def idx (v:List UInt8):List (List UInt8)→Nat→Int
 | [],_=> -1
 | x::l,i=>if v=x then i else idx v l (i+1)
theorem HD (v:List UInt8):∀(l:List (List UInt8)) (i:Nat),decide (idx v l i≥0)=l.contains v
 | [],i=>by simp [idx]
 | x::l,i=>by
  simp only [idx,List.contains_cons]
  split
  ·rename_i e; subst e; simp
  ·rename_i e
   rw [HD v l (i+1)]
   have:(v==x)=false:=by simp [e]
   rw [this]; simp
theorem Cg {α:Type} {l:List α} {i:Nat} {x:α} (h:l[i]? =some x):l.drop i=x::l.drop (i+1):=by
 obtain ⟨h1,h2⟩:=List.getElem?_eq_some_iff.1 h
 rw [List.drop_eq_getElem_cons h1,h2]
theorem Ru (l:List (List UInt8)) (v:List UInt8) (hl:l.length≤1000000):aM Tryz.prog 97 [.sl (cE l),.str v] (.int .i64 (idx v l 0)):=by
 refine aM.run JS adn (by simp) fun E=>?_
 simp only [s80,cY,zz,iB,iz,iy,iA,ix,cond_true,cond_false,seval]
 intro _
 refine cS (X:=Nat) (fun i=>[(0,.sl (cE l)),(1,.str v),(7,.int .i64 l.length),(8,.int .i64 i)]) (fun _=>aa.emp) (fun i=>l.length - i)
  (fun i=>i≤l.length∧idx v (l.drop i) i=idx v l 0) 0 (by simp) ?_ (aa.aS _) ?_
 ·simp only [zz,iB,iz,iy,iA,ix,cond_true,cond_false,seval]
 ·rintro i Q ⟨i1,i2⟩ hQ
  have wi:IntKind.i64.wrap ((i:Int)+1)=((i+1:Nat):Int):=cW (by omega)
  by_cases c1:i<l.length
  ·have g1:((i:Int)<(l.length:Int))=True:=by simp; omega
   obtain ⟨x,hx⟩:∃x,l[i]? =some x:=by rw [List.getElem?_eq_getElem c1]; exact ⟨_,rfl⟩
   rw [Cg hx] at i2
   simp only [idx] at i2
   simp only [g1,wi,hx,rP,decide_true,zz,iB,iz,iy,iA,ix,cond_true,cond_false,seval]
   refine ⟨by omega,?_⟩
   split
   ·rename_i e
    rw [if_pos (by simpa using e)] at i2
    exact .inl i2
   ·rename_i e
    rw [if_neg (by simpa using e)] at i2
    refine hQ (i+1) _ _ ⟨by omega,i2⟩ ?_ (aa.aS _) (by omega)
    simp only [zz,iB,iz,iy,iA,ix,cond_true,cond_false,seval]
  ·have g1:((i:Int)<(l.length:Int))=False:=by simp; omega
   have e:l.drop i=[]:=List.drop_of_length_le (by omega)
   rw [e] at i2
   simp only [g1,decide_false,zz,iB,iz,iy,iA,ix,cond_true,cond_false,seval]
   exact .inl i2
def Xt:List D→Option D
 | [.sl l',.str v]=>match vi l' with
  | some l=>if l.length≤1000000 then some (.int .i64 (idx v l 0)) else none
  | _=>none
 | _=>none
theorem Wi (args:List D) (d:D) (h:Xt args=some d):aM Tryz.prog 97 args d:=by
 unfold Xt at h
 split at h
 ·split at h
  ·rename_i e0
   cases iP e0
   split at h
   ·cases h; exact Ru _ _ (by assumption)
   ·cases h
  ·cases h
 ·cases h
theorem Wh (l:List (List UInt8)) (v:List UInt8):Xt [.sl (cE l),.str v]=if l.length≤1000000 then some (.int .i64 (idx v l 0)) else none:=by simp only [Xt,qu]
def EO:bf:=EK.cX 97 Xt
theorem PK (g:FuncId) (args:List D):EO.q g args=if g=97 then Xt args else EK.q g args:=rfl
theorem PI:EO.a=EK.a:=rfl
theorem PJ:EO.c=EK.c:=rfl
theorem JV:EO.ok Tryz.prog:=bf.bm JS Wi
theorem GU:type_of% (And.intro (And.intro @PK (And.intro @PI @PJ)) @Pu):=(And.intro (And.intro @PK (And.intro @PI @PJ)) @Pu)
theorem FO (l:List (List UInt8)) (v:List UInt8) (hl:l.length≤1000000):aM Tryz.prog 79 [.sl (cE l),.str v] (.bool (l.contains v)):=by
 refine aM.run JV adb (by simp) fun E=>?_
 have g:(l.length≤1000000)=True:=by simp; omega
 simp only [s64,Wh,HD,g,GU,zz,iB,iz,iy,iA,ix,cond_true,cond_false,seval]
def Xs:List D→Option D
 | [.sl l',.str v]=>match vi l' with
  | some l=>if l.length≤1000000 then some (.bool (l.contains v)) else none
  | _=>none
 | _=>none
theorem V6 (args:List D) (d:D) (h:Xs args=some d):aM Tryz.prog 79 args d:=by
 unfold Xs at h
 split at h
 ·split at h
  ·rename_i e0
   cases iP e0
   split at h
   ·cases h; exact FO _ _ (by assumption)
   ·cases h
  ·cases h
 ·cases h
theorem V5 (l:List (List UInt8)) (v:List UInt8):Xs [.sl (cE l),.str v]=if l.length≤1000000 then some (.bool (l.contains v)) else none:=by simp only [Xs,qu]
def EG:bf:=EO.cX 79 Xs
theorem Pk (g:FuncId) (args:List D):EG.q g args=if g=79 then Xs args else EO.q g args:=rfl
theorem Ph:EG.a=EO.a:=rfl
theorem Pj:EG.c=EO.c:=rfl
theorem JN:EG.ok Tryz.prog:=bf.bm JV V6
theorem GN:type_of% (And.intro (And.intro @Pk (And.intro @Ph @Pj)) @GU):=(And.intro (And.intro @Pk (And.intro @Ph @Pj)) @GU)
def words:List (List UInt8):=[[102,117,110,99],[116,101,115,116],[118,97,114],[105,102],[101,108,115,101],[102,111,114],[114,101,116,117,114,110],[97,115,115,101,114,116],[115,107,105,112],[116,114,117,101],[102,97,108,115,101],[105,110,116],[102,108,111,97,116],[98,111,111,108]]
theorem S0:aM Tryz.prog 80 [] (.sl (cE words)):=by
 refine aM.run JN ade (by simp) fun E=>?_
 simp only [s65,words,cE,GN,zz,iB,iz,iy,iA,ix,cond_true,cond_false,seval]
def Y9:List D→Option D
 | []=>if True then some (.sl (cE words)) else none
 | _=>none
theorem V7 (args:List D) (d:D) (h:Y9 args=some d):aM Tryz.prog 80 args d:=by
 unfold Y9 at h
 split at h
 ·split at h
  ·cases h; exact S0
  ·cases h
 ·cases h
def EI:bf:=EG.cX 80 Y9
theorem Pn (g:FuncId) (args:List D):EI.q g args=if g=80 then Y9 args else EG.q g args:=rfl
theorem Pl:EI.a=EG.a:=rfl
theorem Pm:EI.c=EG.c:=rfl
theorem JR:EI.ok Tryz.prog:=bf.bm JN V7
theorem GO:type_of% (And.intro (And.intro @Pn (And.intro @Pl @Pm)) @GN):=(And.intro (And.intro @Pn (And.intro @Pl @Pm)) @GN)
theorem W6 (s:List UInt8):aM Tryz.prog 55 [.str s] (.bool (words.contains s)):=by
 refine aM.run JR ac6 (by simp) fun E=>?_
 have g:(words.length≤1000000)=True:=by simp [words]
 simp only [s40,V5,Y9,g,GO,zz,iB,iz,iy,iA,ix,cond_true,cond_false,seval]
def Y7:List D→Option D
 | [.str s]=>if True then some (.bool (words.contains s)) else none
 | _=>none
theorem VW (args:List D) (d:D) (h:Y7 args=some d):aM Tryz.prog 55 args d:=by
 unfold Y7 at h
 split at h
 ·split at h
  ·cases h; exact W6 _
  ·cases h
 ·cases h
def Ew:bf:=EI.cX 55 Y7
theorem O1 (g:FuncId) (args:List D):Ew.q g args=if g=55 then Y7 args else EI.q g args:=rfl
theorem OZ:Ew.a=EI.a:=rfl
theorem O0:Ew.c=EI.c:=rfl
theorem I6:Ew.ok Tryz.prog:=bf.bm JR VW
theorem GJ:type_of% (And.intro (And.intro @O1 (And.intro @OZ @O0)) @GO):=(And.intro (And.intro @O1 (And.intro @OZ @O0)) @GO)
def YF:List UInt8:=[57,50,50,51,51,55,50,48,51,54,56,53,52,55,55,53,56,48,55]
def od (s:List UInt8):Bool:= !(decide (1<s.length) && ((s.getD 0 0).toNat:Int)==48 || decide (19<s.length)) && (decide (s.length<19) || (Op.bytesLess s YF || s==YF))
theorem SZ (s:List UInt8):aM Tryz.prog 78 [.str s] (.bool (od s)):=by
 refine aM.run I6 adp (by simp) fun E=>?_
 simp only [s85,gX,GJ,zz,iB,iz,iy,iA,ix,cond_true,cond_false,seval]
 simp only [or_self,od,YF]
 intro _
 by_cases c1:1<s.length
 ·have g1:(s.length:Int)>1:=by omega
  rw [if_pos g1]
  refine ⟨by omega,?_⟩
  by_cases c2:(((s.getD 0 0).toNat:Int)==48)=true
  ·rw [if_pos c2]; simp only [c1,c2]; simp
  ·rw [if_neg c2]
   have c2':(((s.getD 0 0).toNat:Int)==48)=false:=by simpa using c2
   intro _
   by_cases c3:(s.length:Int)>19
   ·have W7:19<s.length:=by omega
    rw [if_pos c3]; simp [W7]
   ·have W7:¬19<s.length:=by omega
    rw [if_neg c3]
    intro _
    by_cases c4:(s.length:Int)<19
    ·have XC:s.length<19:=by omega
     rw [if_pos c4]; simp only [c2',W7,XC]; simp
    ·have XC:¬s.length<19:=by omega
     rw [if_neg c4]; simp only [c2',W7,XC]; simp
 ·have g1:¬(s.length:Int)>1:=by omega
  have W7:¬19<s.length:=by omega
  have XC:s.length<19:=by omega
  rw [if_neg g1]
  intro _
  rw [if_neg (by omega)]
  intro _
  rw [if_pos (by omega)]
  simp only [c1,W7,XC]; simp
def Xu:List D→Option D
 | [.str s]=>if True then some (.bool (od s)) else none
 | _=>none
theorem Wk (args:List D) (d:D) (h:Xu args=some d):aM Tryz.prog 78 args d:=by
 unfold Xu at h
 split at h
 ·split at h
  ·cases h; exact SZ _
  ·cases h
 ·cases h
def ER:bf:=Ew.cX 78 Xu
theorem PV (g:FuncId) (args:List D):ER.q g args=if g=78 then Xu args else Ew.q g args:=rfl
theorem PT:ER.a=Ew.a:=rfl
theorem PU:ER.c=Ew.c:=rfl
theorem J5:ER.ok Tryz.prog:=bf.bm I6 Wk
theorem wX:type_of% (And.intro (And.intro @PV (And.intro @PT @PU)) @GJ):=(And.intro (And.intro @PV (And.intro @PT @PU)) @GJ)
def isSp (c:UInt8):Bool:=(c.toNat:Int)==32 || (c.toNat:Int)==9 || (c.toNat:Int)==10
def jD:Nat→List UInt8→Nat
 | 0,_=>0
 | _+1,[]=>0
 | n+1,c::t=>if isSp c=true then 1+jD n t else if pre (c::t) [47,47]=true then je (fun n=>n != 10) (c::t)+jD n ((c::t).drop (je (fun n=>n != 10) (c::t))) else 0
def dE (l:List UInt8):Nat:=jD l.length l
theorem wm {c:UInt8} {t:List UInt8} (h:pre (c::t) [47,47]=true):0<je (fun n=>n != 10) (c::t):=by
 have e:c=47:=by
  cases t with
  | nil=>simp [pre] at h
  | cons d t=>simp [pre] at h; exact h.1
 subst e
 rw [ko,if_pos (by decide)]
 omega
theorem mZ:∀(n m:Nat) (l:List UInt8),l.length≤n→l.length≤m→jD n l=jD m l
 | 0,0,l,_,_=>rfl
 | 0,m+1,[],_,_=>rfl
 | n+1,0,[],_,_=>rfl
 | n+1,m+1,[],_,_=>rfl
 | 0,_,c::t,h,_=>by simp at h
 | _,0,c::t,_,h=>by simp at h
 | n+1,m+1,c::t,h1,h2=>by
  simp only [List.length_cons] at h1 h2
  simp only [jD]
  split
  ·rw [mZ n m t (by omega) (by omega)]
  ·split
   ·rename_i hp
    have:=wm hp
    rw [mZ n m _ (by simp; omega) (by simp; omega)]
   ·rfl
theorem FD:dE []=0:=rfl
theorem jh (c:UInt8) (t:List UInt8):dE (c::t)=if isSp c=true then 1+dE t else if pre (c::t) [47,47]=true then je (fun n=>n != 10) (c::t)+dE ((c::t).drop (je (fun n=>n != 10) (c::t))) else 0:=by
 show jD (t.length+1) (c::t)=_
 simp only [jD]
 split
 ·rfl
 ·split
  ·rename_i hp
   have:=wm hp
   rw [mZ t.length _ _ (by simp; omega) (Nat.le_refl _)]
   rfl
  ·rfl
theorem rQ:∀(n:Nat) (l:List UInt8),jD n l≤l.length
 | 0,l=>by simp [jD]
 | n+1,[]=>by simp [jD]
 | n+1,c::t=>by
  simp only [jD]
  have h1:=rQ n t
  have h2:=rQ n ((c::t).drop (je (fun n=>n != 10) (c::t)))
  have h3:=lA (fun n=>n != 10) (c::t)
  simp only [List.length_drop,List.length_cons] at h2 h3 ⊢
  split
  ·omega
  ·split<;>omega
theorem xY (l:List UInt8):dE l≤l.length:=rQ _ _
theorem QW (s:List UInt8) (a:Nat) (h1:a≤s.length) (h2:s.length≤1000000):aM Tryz.prog 33 [.str s,.int .i64 a] (.int .i64 (dE (s.drop a))):=by
 refine aM.run J5 ac7 (by simp) fun E=>?_
 simp only [s50,wX,zz,iB,iz,iy,iA,ix,cond_true,cond_false,seval]
 refine cS (X:=Nat) (fun i=>[(0,.str s),(1,.int .i64 i),(5,.int .i64 a)]) (fun _=>aa.emp) (fun i=>s.length - i)
  (fun i=>a≤i∧i≤s.length∧(i - a)+dE (s.drop i)=dE (s.drop a)) a (by simp; omega) ?_ (aa.aS _) ?_
 ·simp only [zz,iB,iz,iy,iA,ix,cond_true,cond_false,seval]
 ·rintro i Q ⟨i0,i1,i2⟩ hQ
  have wi:IntKind.i64.wrap ((i:Int)+1)=((i+1:Nat):Int):=cW (by omega)
  have ws:IntKind.i64.wrap ((i:Int) - (a:Int))=((i - a:Nat):Int):=by rw [wrap_i64 (by omega) (by omega)]; omega
  by_cases c1:i<s.length
  ·have g1:((i:Int)<(s.length:Int))=True:=by simp; omega
   have g2:(s.length≤1000000)=True:=by simp; omega
   have g3:((i:Int)≤1000000)=True:=by simp; omega
   have g0:(0≤(i:Int))=True:=by simp
   have ts:(s.drop i).take (s.length - i)=s.drop i:=List.take_of_length_le (by simp)
   have hl:=lA (fun n=>n != 10) (s.drop i)
   have wn:IntKind.i64.wrap ((i:Int)+(je (fun n=>n != 10) (s.drop i):Int))=((i+je (fun n=>n != 10) (s.drop i):Nat):Int):=wrap_add (by simp at hl; omega)
   simp only [g0,g1,g2,g3,wi,ws,wn,ts,V_,Sh,kN,decide_true,wX,zz,iB,iz,iy,iA,ix,cond_true,cond_false,seval]
   rw [drop_cons c1,jh] at i2
   rw [←drop_cons c1] at i2
   have sp:∀(σ:Fr) (h:isSp (s.getD i 0)=true),Md [(0,.str s),(1,.int .i64 (i+1:Nat)),(5,.int .i64 a)] σ→Q σ aa.emp:=fun σ h hs=>by
    rw [if_pos h] at i2
    exact hQ (i+1) _ _ ⟨by omega,by omega,by omega⟩ hs (aa.aS _) (by omega)
   intro _
   split
   ·rename_i e
    refine sp _ (by simp [isSp]; simp at e; simp [e]) ?_
    simp only [zz,iB,iz,iy,iA,ix,cond_true,cond_false,seval]
   ·rename_i e1
    split
    ·rename_i e
     refine sp _ (by simp [isSp]; simp at e; simp [e]) ?_
     simp only [zz,iB,iz,iy,iA,ix,cond_true,cond_false,seval]
    ·rename_i e2
     split
     ·rename_i e
      refine sp _ (by simp [isSp]; simp at e; simp [e]) ?_
      simp only [zz,iB,iz,iy,iA,ix,cond_true,cond_false,seval]
     ·rename_i e3
      refine ⟨by omega,?_⟩
      have hsp:isSp (s.getD i 0)=false:=by
       simp only [isSp]
       simp only [Bool.not_eq_true] at e1 e2 e3
       rw [e1,e2,e3]; rfl
      rw [if_neg (by rw [hsp]; exact Bool.false_ne_true)] at i2
      split
      ·rename_i hp
       rw [if_pos hp] at i2
       have:=wm (c:=s.getD i 0) (t:=s.drop (i+1)) (by rw [←drop_cons c1]; exact hp)
       rw [←drop_cons c1] at this
       rw [List.drop_drop] at i2
       rw [List.length_drop] at hl
       refine hQ (i+je (fun n=>n != 10) (s.drop i)) _ _ ⟨by omega,by omega,by omega⟩ ?_ (aa.aS _) (by omega)
       simp only [zz,iB,iz,iy,iA,ix,cond_true,cond_false,seval]
      ·rename_i hp
       rw [if_neg hp] at i2
       exact .inl (by omega)
  ·have g1:((i:Int)<(s.length:Int))=False:=by simp; omega
   have e:s.drop i=[]:=List.drop_of_length_le (by omega)
   rw [e,FD] at i2
   simp only [g1,ws,decide_false,wX,zz,iB,iz,iy,iA,ix,cond_true,cond_false,seval]
   exact fun _=>.inl (by omega)
theorem Mo (s:List UInt8) (a:Int) (h:0≤a∧a≤s.length∧s.length≤1000000):aM Tryz.prog 33 [.str s,.int .i64 a] (.int .i64 (dE (s.drop a.toNat))):=by
 have:=QW s a.toNat (by omega) h.2.2
 rwa [Int.toNat_of_nonneg h.1] at this
def QP:List D→Option D
 | [.str s,.int .i64 a]=>if 0≤a∧a≤s.length∧s.length≤1000000 then some (.int .i64 (dE (s.drop a.toNat))) else none
 | _=>none
theorem VY (args:List D) (d:D) (h:QP args=some d):aM Tryz.prog 33 args d:=by
 unfold QP at h
 split at h
 ·split at h
  ·cases h; exact Mo _ _ (by assumption)
  ·cases h
 ·cases h
def EA:bf:=ER.cX 33 QP
theorem O5 (g:FuncId) (args:List D):EA.q g args=if g=33 then QP args else ER.q g args:=rfl
theorem O3:EA.a=ER.a:=rfl
theorem O4:EA.c=ER.c:=rfl
theorem Jg:EA.ok Tryz.prog:=bf.bm J5 VY
theorem n8:type_of% (And.intro (And.intro @O5 (And.intro @O3 @O4)) @wX):=(And.intro (And.intro @O5 (And.intro @O3 @O4)) @wX)
end Go.Proofs.YtpklkpkfgmoghaaGreatDoor.Zz
namespace Go.Proofs.YtpklkpkfgmoghaaGreatDoor.Zz
def p77:b7:=⟨⟨[],[],[],[],[],[]⟩,[(5,[0,1,2,3,4,5,6,7,8,9,10,11,12]),(9,[0,1,2,3,4,5])],[],false⟩
def s77:dA:=
 sO [oQ (.alloc [(.int .i64 0),(.str []),(.int .i64 0)]) 4,
 oP (.cg (kB false)) 5]
 (sO [oM 0 9,
 oM 1 10,
 oD 49 [.t 9,.t 10,.f 51] 11,
 oM 11 6]
 (sO [oM 0 12,
 oM 1 13,
 oM 1 14,
 oM 6 15,
 oE .add 14 15 16,
 oQ (.slice .str (.t 12) (some (.t 13)) (some (.t 16)) none) 17,
 oM 1 18,
 oP (.build [(.int .i64 0),(.str []),(.int .i64 0)] [(0,1,(kI 2)),(1,1,(.t 17)),(2,1,(.t 18))]) 19,
 oQ (.alloc [(.int .i64 0),(.str []),(.int .i64 0)]) 7,
 oS 3 7 19]
 (.seq (sO [oM 1 20,
 oM 6 21,
 oE .add 20 21 22,
 oM 0 23,
 oW 23 24,
 oE .lss 22 24 25,
 oM 25 26,
 oG (.cg (.t 0)) 27 26 true true,
 oG (.cg (.t 1)) 28 26 true true,
 oG (.cg (.t 6)) 29 26 true true,
 oG (.bin .add (.t 28) (.t 29)) 30 26 true true,
 oG (.hU (.t 27) (.t 30)) 31 26 true true,
 oG (.bin .eql (.t 31) (.c (.int .u8 46))) 32 26 true true,
 oP (.pick (.t 26) (.t 32) (kB false)) 33]
 (.cond (.t 33)
 (sO [oM 0 34,
 oM 1 35,
 oM 6 36,
 oE .add 35 36 37,
 oH .add 37 1 38,
 oD 49 [.t 34,.t 38,.f 51] 39,
 oM 39 8]
 (.seq (.fq 40 [oM 0 40,
 oM 1 41,
 oM 1 42,
 oM 6 43,
 oE .add 42 43 44,
 oH .add 44 1 45,
 oM 8 46,
 oE .add 45 46 47,
 oP (.slice .str (.t 40) (some (.t 41)) (some (.t 47)) none) 48,
 oF 0 7 49,
 oU (.store 1 (.t 49) (kI 3)),
 oF 1 7 50,
 oS 1 50 48])
 (.seq (sO [oM 8 51,
 oH .eql 51 0 52,
 oM 52 53,
 oG (.cg (.t 6)) 54 53 false true,
 oG (.cg (.t 8)) 55 53 false true,
 oG (.bin .add (.t 54) (.t 55)) 56 53 false true,
 oG (.bin .gtr (.t 56) (kI 15)) 57 53 false true,
 oP (.pick (.t 53) (kB true) (.t 57)) 58]
 (.cond (.t 58)
 (sO [oJ 3 7 59,
 oS 3 4 59,
 oP (.cg (kB false)) 5]
 (.ret))
 (.skip)))
 (sO [oJ 3 7 60,
 oS 3 4 60,
 oP (.cg (kB true)) 5]
 (.ret)))))
 (.skip)))
 (.seq (.fq 5 [oJ 3 7 61,
 oF 1 7 62,
 oL 62 63,
 oD 78 [.t 63] 64,
 oS 3 4 61,
 oM 64 5])
 (.ret)))))
theorem adj:bE Tryz.prog 52 p77=some (s77,[.cell 4 (some 3),.tmp 5],65):=by kernel_rfl
def p79:b7:=⟨⟨[],[],[],[],[],[]⟩,[],[],false⟩
def s79:dA:=
 sO [oP (.cg (.c .a_)) 0]
 (sO [oP (.buildSlice 1 [(.str [])] 22 [(0,(kS [58,61])),(1,(kS [60,61])),(2,(kS [62,61])),(3,(kS [61,61])),(4,(kS [33,61])),(5,(kS [38,38])),(6,(kS [124,124])),(7,(kS [40])),(8,(kS [41])),(9,(kS [123])),(10,(kS [125])),(11,(kS [44])),(12,(kS [59])),(13,(kS [61])),(14,(kS [43])),(15,(kS [45])),(16,(kS [42])),(17,(kS [47])),(18,(kS [37])),(19,(kS [60])),(20,(kS [62])),(21,(kS [33]))] false) 1,
 oM 1 0]
 (.ret))
theorem adl:bE Tryz.prog 56 p79=some (s79,[.tmp 0],2):=by kernel_rfl
def p51:b7:=⟨⟨[],[],[],[],[],[]⟩,[],[],false⟩
def s51:dA:=
 sO [oQ (.alloc [(.int .i64 0),(.str []),(.int .i64 0)]) 4,
 oP (.cg (kB false)) 5]
 (.seq (sO [oM 0 10,
 oM 1 11,
 oP (.hU (.t 10) (.t 11)) 12,
 oM 12 6]
 (.block 0 (sO [oM 6 14,
 oD 51 [.t 14] 15,
 oM 15 13]
 (.cond (.t 13)
 (sO [oM 0 16,
 oM 1 17,
 oD 52 [.t 16,.t 17] 18,
 oX 18 0 19,
 oX 18 1 20,
 oS 3 4 19,
 oM 20 5]
 (.ret))
 (sO [oM 6 22,
 oD 53 [.t 22] 23,
 oM 23 21]
 (.cond (.t 21)
 (sO [oM 0 24,
 oM 1 25,
 oM 1 26,
 oM 0 27,
 oM 1 28,
 oD 49 [.t 27,.t 28,.f 54] 29,
 oE .add 26 29 30,
 oQ (.slice .str (.t 24) (some (.t 25)) (some (.t 30)) none) 31,
 oM 31 7]
 (.seq (sO [oM 7 32,
 oD 55 [.t 32] 33]
 (.cond (.t 33)
 (sO [oM 7 34,
 oM 1 35,
 oP (.build [(.int .i64 0),(.str []),(.int .i64 0)] [(0,1,(kI 4)),(1,1,(.t 34)),(2,1,(.t 35))]) 36,
 oS 3 4 36,
 oP (.cg (kB true)) 5]
 (.ret))
 (.skip)))
 (sO [oM 7 37,
 oM 1 38,
 oP (.build [(.int .i64 0),(.str []),(.int .i64 0)] [(0,1,(kI 1)),(1,1,(.t 37)),(2,1,(.t 38))]) 39,
 oM 7 40,
 oW 40 41,
 oH .leq 41 16 42,
 oS 3 4 39,
 oM 42 5]
 (.ret))))
 (.skip)))))))
 (.seq (sO [oD 56 [] 43,
 oZ 43 44,
 oP (.cg (kI 0)) 45]
 (.block 1 (.loop (sO [oE .lss 45 44 46]
 (.seq (.cond (.t 46)
 (.skip)
 (.exit 1))
 (.seq (.block 2 (sO [oI 1 43 45 47,
 oL 47 48,
 oM 48 9]
 (sO [oM 0 49,
 oM 1 50,
 oQ (.slice .str (.t 49) (some (.t 50)) none none) 51,
 oM 9 52,
 oD 48 [.t 51,.t 52] 53]
 (.cond (.t 53)
 (sO [oM 9 54,
 oM 1 55,
 oP (.build [(.int .i64 0),(.str []),(.int .i64 0)] [(0,1,(kI 5)),(1,1,(.t 54)),(2,1,(.t 55))]) 56,
 oS 3 4 56,
 oP (.cg (kB true)) 5]
 (.ret))
 (.skip)))))
 (.ops [oH .add 45 1 57,
 oM 57 45])))))))
 (sO [oP (.build [(.int .i64 0),(.str []),(.int .i64 0)] []) 58,
 oS 3 4 58,
 oP (.cg (kB false)) 5]
 (.ret))))
theorem ac8:bE Tryz.prog 34 p51=some (s51,[.cell 4 (some 3),.tmp 5],59):=by kernel_rfl
def p23:b7:=⟨⟨[],[],[],[],[],[]⟩,[],[],false⟩
def s23:dA:=
 sO [oP (.cg (.c .a_)) 2,
 oP (.cg (kI 0)) 3,
 oP (.cg (kI 0)) 4]
 (.seq (sO [oM 0 9,
 oW 9 10,
 oH .gtr 10 4096 11]
 (.cond (.t 11)
 (sO [oP (.cg (.c .a_)) 2,
 oP (.cg (kI 4096)) 3,
 oP (.cg (kI 3)) 4]
 (.ret))
 (.skip)))
 (sO [oP (.cg (.c .a_)) 5]
 (sO [oM 0 12,
 oD 33 [.t 12,kI 0] 13,
 oM 13 6]
 (.seq (.block 0 (.loop (.seq (sO [oM 6 14,
 oM 0 15,
 oW 15 16,
 oE .lss 14 16 17]
 (.cond (.t 17)
 (.skip)
 (.exit 0)))
 (.block 1 (sO [oM 0 19,
 oM 6 20,
 oD 34 [.t 19,.t 20] 21,
 oM 21 18,
 oX 18 0 22,
 oX 18 1 23,
 oQ (.alloc [(.int .i64 0),(.str []),(.int .i64 0)]) 7,
 oS 3 7 22,
 oM 23 8]
 (.seq (sO [oM 8 24,
 oP (.un .not (.t 24)) 25]
 (.cond (.t 25)
 (sO [oM 6 26,
 oP (.cg (.c .a_)) 2,
 oM 26 3,
 oP (.cg (kI 90)) 4]
 (.ret))
 (.skip)))
 (sO [oM 5 27,
 oJ 3 7 28,
 oP (.buildSlice 3 [(.int .i64 0),(.str []),(.int .i64 0)] 1 [(0,(.t 28))] false) 29,
 oQ (.append 3 32 false (.t 27) (.t 29)) 30,
 oM 30 5]
 (sO [oM 6 31,
 oF 1 7 32,
 oL 32 33,
 oW 33 34,
 oE .add 31 34 35,
 oM 35 6]
 (.ops [oM 6 36,
 oM 0 37,
 oM 6 38,
 oD 33 [.t 37,.t 38] 39,
 oE .add 36 39 40,
 oM 40 6])))))))))
 (sO [oM 5 41,
 oM 0 42,
 oW 42 43,
 oP (.build [(.int .i64 0),(.str []),(.int .i64 0)] [(0,1,(kI 0)),(2,1,(.t 43))]) 44,
 oP (.buildSlice 3 [(.int .i64 0),(.str []),(.int .i64 0)] 1 [(0,(.t 44))] false) 45,
 oQ (.append 3 32 false (.t 41) (.t 45)) 46,
 oM 46 2,
 oP (.cg (kI 0)) 3,
 oP (.cg (kI 0)) 4]
 (.ret))))))
theorem ac4:bE Tryz.prog 20 p23=some (s23,[.tmp 2,.tmp 3,.tmp 4],47):=by kernel_rfl
def lO (l:List UInt8):Int×List UInt8×Bool:=
 if decide (je isDigit l<l.length) && ((l.getD (je isDigit l) 0).toNat:Int)==46 then
  (3,l.take (je isDigit l+1+je isDigit (l.drop (je isDigit l+1))), !(decide (je isDigit (l.drop (je isDigit l+1))=0) || decide (15<je isDigit l+je isDigit (l.drop (je isDigit l+1)))))
 else (2,l.take (je isDigit l),od (l.take (je isDigit l)))
def gb (k:Int) (s:List UInt8) (a:Int):List D:=[.int .i64 k,.str s,.int .i64 a]
set_option maxHeartbeats 1000000 in
theorem De (s:List UInt8) (a:Nat) (h1:a≤s.length) (h2:s.length≤100000):aM Tryz.prog 52 [.str s,.int .i64 a] (.tuple [.agg (gb (lO (s.drop a)).1 (lO (s.drop a)).2.1 a),.bool (lO (s.drop a)).2.2]):=by
 refine aM.run Jg adj (by simp) fun E=>?_
 have g2:(s.length≤1000000)=True:=by simp; omega
 have g3:((a:Int)≤1000000)=True:=by simp; omega
 have g0:(0≤(a:Int))=True:=by simp
 have hl:=lA isDigit (s.drop a)
 rw [List.length_drop] at hl
 obtain ⟨n,hn⟩:∃n,n=je isDigit (s.drop a):=⟨_,rfl⟩
 rw [←hn] at hl
 have w1:IntKind.i64.wrap ((a:Int)+(n:Int))=((a+n:Nat):Int):=wrap_add (by omega)
 have e0:(s.drop a).getD n 0=s.getD (a+n) 0:=by simp [List.getD]
 have e1:(s.drop a).drop (n+1)=s.drop (a+n+1):=by rw [List.drop_drop]; rfl
 have e2:(s.drop a).length=s.length - a:=by simp
 have tt:∀k,(s.drop a).take (a+k - a)=(s.drop a).take k:=fun k=>by rw [Nat.add_sub_cancel_left]
 simp only [lO,←hn,e0,e1,e2]
 by_cases c1:a+n<s.length
 ·have g4:(((a+n:Nat):Int)<(s.length:Int))=True:=by simp; omega
  have g4':(n<s.length - a)=True:=by simp; omega
  cases c2:(((s.getD (a+n) 0).toNat:Int)==46) with
  | true=>
   obtain ⟨m,hm⟩:∃m,m=je isDigit (s.drop (a+n+1)):=⟨_,rfl⟩
   have hl2:=lA isDigit (s.drop (a+n+1))
   rw [List.length_drop,←hm] at hl2
   have w2:IntKind.i64.wrap (((a+n:Nat):Int)+1)=((a+n+1:Nat):Int):=cW (by omega)
   have w3:IntKind.i64.wrap (((a+n+1:Nat):Int)+(m:Int))=((a+n+1+m:Nat):Int):=wrap_add (by omega)
   have w4:IntKind.i64.wrap ((n:Int)+(m:Int))=((n+m:Nat):Int):=wrap_add (by omega)
   have g5:(((a+n+1:Nat):Int)≤1000000)=True:=by simp; omega
   have g6:(0≤((a+n+1:Nat):Int))=True:=by simp; omega
   have t2:(s.drop a).take (a+n+1+m - a)=(s.drop a).take (n+1+m):=by congr 1; omega
   simp (maxSteps:=1000000) only [s77,g0,g2,g3,g4,g4',g5,g6,←hn,←hm,w1,w2,w3,w4,t2,c2,Sh,kN,decide_true,n8,zz,iB,iz,iy,iA,ix,cond_true,cond_false,seval]
   intro id
   refine ⟨by omega,fun id2 f1 f2 _=>⟨by omega,by omega,?_⟩⟩
   simp (maxSteps:=1000000) only [f1,f2,g4,←hn,w1,c2,t2,tt,List.take_succ_cons,List.take_zero,gb,n8,zz,iB,iz,iy,iA,ix,cond_true,cond_false,seval]
   (repeat' split)<;>simp_all<;>omega
  | false=>
   simp (maxSteps:=1000000) only [s77,g0,g2,g3,g4,g4',←hn,w1,c2,Sh,Xu,tt,kN,decide_true,Bool.and_false,n8,zz,iB,iz,iy,iA,ix,cond_true,cond_false,seval]
   intro id
   refine ⟨by omega,fun id2 f1 f2 _=>⟨by omega,?_⟩⟩
   simp (maxSteps:=1000000) only [f1,f2,g4,←hn,w1,c2,tt,List.take_succ_cons,List.take_zero,gb,n8,zz,iB,iz,iy,iA,ix,cond_true,cond_false,seval]
 ·have g4:(((a+n:Nat):Int)<(s.length:Int))=False:=by simp; omega
  have g4':(n<s.length - a)=False:=by simp; omega
  simp (maxSteps:=1000000) only [s77,g0,g2,g3,g4,g4',←hn,w1,Sh,Xu,tt,kN,decide_false,Bool.false_and,n8,zz,iB,iz,iy,iA,ix,cond_true,cond_false,seval]
  intro id
  refine ⟨by omega,fun id2 f1 f2 _=>?_⟩
  simp (maxSteps:=1000000) only [f1,f2,g4,←hn,w1,tt,List.take_succ_cons,List.take_zero,gb,n8,zz,iB,iz,iy,iA,ix,cond_true,cond_false,seval]
theorem A6 (s:List UInt8) (a:Int) (h:0≤a∧a≤s.length∧s.length≤100000):aM Tryz.prog 52 [.str s,.int .i64 a] (.tuple [.agg (gb (lO (s.drop a.toNat)).1 (lO (s.drop a.toNat)).2.1 a),.bool (lO (s.drop a.toNat)).2.2]):=by
 have:=De s a.toNat (by omega) h.2.2
 rwa [Int.toNat_of_nonneg h.1] at this
def Za:List D→Option D
 | [.str s,.int .i64 a]=>if 0≤a∧a≤s.length∧s.length≤100000 then some (.tuple [.agg (gb (lO (s.drop a.toNat)).1 (lO (s.drop a.toNat)).2.1 a),.bool (lO (s.drop a.toNat)).2.2]) else none
 | _=>none
theorem We (args:List D) (d:D) (h:Za args=some d):aM Tryz.prog 52 args d:=by
 unfold Za at h
 split at h
 ·split at h
  ·cases h; exact A6 _ _ (by assumption)
  ·cases h
 ·cases h
def EM:bf:=EA.cX 52 Za
theorem PB (g:FuncId) (args:List D):EM.q g args=if g=52 then Za args else EA.q g args:=rfl
theorem Pz:EM.a=EA.a:=rfl
theorem PA:EM.c=EA.c:=rfl
theorem JT:EM.ok Tryz.prog:=bf.bm Jg We
theorem GQ:type_of% (And.intro (And.intro @PB (And.intro @Pz @PA)) @n8):=(And.intro (And.intro @PB (And.intro @Pz @PA)) @n8)
def jx:List (List UInt8):=[[58,61],[60,61],[62,61],[61,61],[33,61],[38,38],[124,124],[40],[41],[123],[125],[44],[59],[61],[43],[45],[42],[47],[37],[60],[62],[33]]
theorem Sw:aM Tryz.prog 56 [] (.sl (cE jx)):=by
 refine aM.run JT adl (by simp) fun E=>?_
 simp only [s79,jx,cE,GQ,zz,iB,iz,iy,iA,ix,cond_true,cond_false,seval]
def Zc:List D→Option D
 | []=>if True then some (.sl (cE jx)) else none
 | _=>none
theorem Wg (args:List D) (d:D) (h:Zc args=some d):aM Tryz.prog 56 args d:=by
 unfold Zc at h
 split at h
 ·split at h
  ·cases h; exact Sw
  ·cases h
 ·cases h
def EN:bf:=EM.cX 56 Zc
theorem PH (g:FuncId) (args:List D):EN.q g args=if g=56 then Zc args else EM.q g args:=rfl
theorem PF:EN.a=EM.a:=rfl
theorem PG:EN.c=EM.c:=rfl
theorem JU:EN.ok Tryz.prog:=bf.bm JT Wg
theorem n9:type_of% (And.intro (And.intro @PH (And.intro @PF @PG)) @GQ):=(And.intro (And.intro @PH (And.intro @PF @PG)) @GQ)
def fH (l:List UInt8):List (List UInt8)→Option (List UInt8)
 | []=>none
 | x::xs=>if pre l x=true then some x else fH l xs
def fR (l:List UInt8):Int×List UInt8×Bool:=
 if isDigit ((l.getD 0 0).toNat:Int)=true then lO l
 else if eh ((l.getD 0 0).toNat:Int)=true then
  (if words.contains (l.take (je gm l))=true then (4,l.take (je gm l),true) else (1,l.take (je gm l),decide (je gm l≤16)))
 else match fH l jx with
  | some x=>(5,x,true)
  | none=>(0,[],false)
def Bh (l:List UInt8) (a:Int):D:=.tuple [.agg (gb (fR l).1 (fR l).2.1 (if (fR l).1=0 then 0 else a)),.bool (fR l).2.2]
set_option maxHeartbeats 1000000 in
theorem YJ (s:List UInt8) (a:Nat) (h1:a<s.length) (h2:s.length≤100000):aM Tryz.prog 34 [.str s,.int .i64 a] (Bh (s.drop a) a):=by
 refine aM.run JU ac8 (by simp) fun E=>?_
 have g2:(s.length≤100000)=True:=by simp; omega
 have Va:(s.length≤1000000)=True:=by simp; omega
 have g3:((a:Int)≤(s.length:Int))=True:=by simp; omega
 have g3':((a:Int)≤1000000)=True:=by simp; omega
 have g0:(0≤(a:Int))=True:=by simp
 have e0:(s.drop a).getD 0 0=s.getD a 0:=by simp [List.getD]
 have ts:(s.drop a).take (s.length - a)=s.drop a:=List.take_of_length_le (by simp)
 simp only [Bh,fR,e0]
 cases c1:isDigit ((s.getD a 0).toNat:Int) with
 | true=>
  have k0:((lO (s.drop a)).1=0)=False:=by simp only [lO]; split<;>simp
  simp (maxSteps:=1000000) only [s51,g0,g2,g3,c1,k0,Za,Sg,gb,List.take_succ_cons,List.take_zero,n9,zz,iB,iz,iy,iA,ix,cond_true,cond_false,seval]
  omega
 | false=>
  cases c2:eh ((s.getD a 0).toNat:Int) with
  | true=>
   obtain ⟨m,hm⟩:∃m,m=je gm (s.drop a):=⟨_,rfl⟩
   have hl:=lA gm (s.drop a)
   rw [List.length_drop,←hm] at hl
   have w1:IntKind.i64.wrap ((a:Int)+(m:Int))=((a+m:Nat):Int):=wrap_add (by omega)
   have e3:a+m - a=m:=by omega
   have lm:((s.drop a).take m).length=m:=by simp; omega
   have dm:decide ((m:Int)≤16)=decide (m≤16):=decide_eq_decide.2 (by omega)
   cases c3:words.contains ((s.drop a).take m)<;>
    simp (maxSteps:=1000000) only [s51,g0,g2,Va,g3,g3',c1,c2,c3,←hm,w1,e3,lm,dm,V2,Sg,Sh,Y7,kN,gb,List.take_succ_cons,List.take_zero,n9,zz,iB,iz,iy,iA,ix,cond_true,cond_false,seval]
   ·omega
   ·omega
  | false=>
   have ls:(cE jx).length=22:=rfl
   simp (maxSteps:=1000000) only [s51,g0,g2,g3,c1,c2,ls,V2,Sg,Zc,gb,List.take_succ_cons,List.take_zero,n9,zz,iB,iz,iy,iA,ix,cond_true,cond_false,seval]
   intro id
   refine ⟨by omega,?_⟩
   refine cS (X:=Nat) (fun i=>[(0,.str s),(1,.int .i64 a),(4,.ptr id 1 0),(43,.sl (cE jx)),(44,.int .i64 22),(45,.int .i64 i)]) (fun _=>aa.emp.set id (.cells [.int .i64 0,.str [],.int .i64 0])) (fun i=>22 - i)
    (fun i=>i≤22∧fH (s.drop a) (jx.drop i)=fH (s.drop a) jx) 0 (by simp) ?_ (aa.aS _) ?_
   ·simp only [zz,iB,iz,iy,iA,ix,cond_true,cond_false,seval]
   ·rintro i Q ⟨i1,i2⟩ hQ
    have wi:IntKind.i64.wrap ((i:Int)+1)=((i+1:Nat):Int):=cW (by omega)
    by_cases c4:i<22
    ·have g4:((i:Int)<22)=True:=by simp; omega
     have lsl:jx.length=22:=rfl
     obtain ⟨x,hx⟩:∃x,jx[i]? =some x:=by rw [List.getElem?_eq_getElem (by omega)]; exact ⟨_,rfl⟩
     rw [Cg hx] at i2
     simp only [fH] at i2
     cases c5:pre (s.drop a) x with
     | true=>
      rw [if_pos c5] at i2
      simp (maxSteps:=1000000) only [g0,g3,g4,wi,ts,hx,c5,←i2,rP,V_,List.take_succ_cons,List.take_zero,n9,zz,iB,iz,iy,iA,ix,cond_true,cond_false,seval]
      omega
     | false=>
      rw [if_neg (by rw [c5]; exact Bool.false_ne_true)] at i2
      simp (maxSteps:=1000000) only [g0,g3,g4,wi,ts,hx,c5,rP,V_,List.take_succ_cons,List.take_zero,n9,zz,iB,iz,iy,iA,ix,cond_true,cond_false,seval]
      refine ⟨by omega,?_⟩
      refine hQ (i+1) _ _ ⟨by omega,i2⟩ ?_ (aa.aS _) (by omega)
      simp only [zz,iB,iz,iy,iA,ix,cond_true,cond_false,seval]
    ·have g4:((i:Int)<22)=False:=by simp; omega
     have e:jx.drop i=[]:=List.drop_of_length_le (by simp [jx]; omega)
     rw [e,fH] at i2
     simp (maxSteps:=1000000) only [g4,←i2,List.take_succ_cons,List.take_zero,n9,zz,iB,iz,iy,iA,ix,cond_true,cond_false,seval]
theorem VU (s:List UInt8) (a:Int) (h:0≤a∧a<s.length∧s.length≤100000):aM Tryz.prog 34 [.str s,.int .i64 a] (Bh (s.drop a.toNat) a):=by
 have:=YJ s a.toNat (by omega) h.2.2
 rwa [Int.toNat_of_nonneg h.1] at this
def Sa:List D→Option D
 | [.str s,.int .i64 a]=>if 0≤a∧a<s.length∧s.length≤100000 then some (Bh (s.drop a.toNat) a) else none
 | _=>none
theorem VZ (args:List D) (d:D) (h:Sa args=some d):aM Tryz.prog 34 args d:=by
 unfold Sa at h
 split at h
 ·split at h
  ·cases h; exact VU _ _ (by assumption)
  ·cases h
 ·cases h
def SC:bf:=EN.cX 34 Sa
theorem O9 (g:FuncId) (args:List D):SC.q g args=if g=34 then Sa args else EN.q g args:=rfl
theorem O7:SC.a=EN.a:=rfl
theorem O8:SC.c=EN.c:=rfl
theorem SD:SC.ok Tryz.prog:=bf.bm JU VZ
theorem mD:type_of% (And.intro (And.intro @O9 (And.intro @O7 @O8)) @n9):=(And.intro (And.intro @O9 (And.intro @O7 @O8)) @n9)
end Go.Proofs.YtpklkpkfgmoghaaGreatDoor.Zz
namespace Go.Proofs.YtpklkpkfgmoghaaGreatDoor.Zz
abbrev Tok:=Int×List UInt8×Int
def lH (l:List Tok):List (List D):=l.map fun t=>gb t.1 t.2.1 t.2.2
theorem lM {l:List Tok}:(lH l).length=l.length:=by simp [lH]
theorem Cl {l:List Tok} {k:Int} {s:List UInt8} {a:Int}:lH l++[[.int .i64 k,.str s,.int .i64 a]]=lH (l++[(k,s,a)]):=by simp [lH,gb]
theorem nn:lH []=[]:=rfl
theorem AN {l:List Tok}:l≠[]→lH l≠[]:=by cases l<;>simp [lH]
def pG:Nat→Nat→List UInt8→List Tok→List Tok×Nat×Int
 | 0,_,_,out=>(out,0,0)
 | n+1,p,l,out=>
  if l=[] then (out++[(0,[],(p:Int))],0,0)
  else if (fR l).2.2=false then ([],p,90)
  else pG n (p+(fR l).2.1.length+dE (l.drop (fR l).2.1.length)) (l.drop ((fR l).2.1.length+dE (l.drop (fR l).2.1.length))) (out++[((fR l).1,(fR l).2.1,(p:Int))])
def tokens (s:List UInt8):List Tok×Nat×Int:=if 4096<s.length then ([],4096,3) else pG (s.length+1) (dE s) (s.drop (dE s)) []
theorem pn:∀{l:List UInt8} {xs:List (List UInt8)} {x:List UInt8},fH l xs=some x→x∈xs∧pre l x=true
 | l,[],x,h=>by cases h
 | l,y::xs,x,h=>by
  simp only [fH] at h
  split at h
  ·rename_i hp; cases h; exact ⟨by simp,hp⟩
  ·have:=pn h
   exact ⟨by simp [this.1],this.2⟩
theorem Br {p:Int→Bool} {l:List UInt8} (hl:0<l.length) (h:p ((l.getD 0 0).toNat:Int)=true):0<je p l:=by
 cases l with
 | nil=>simp at hl
 | cons c l=>rw [ko,if_pos (by simpa using h)]; omega
theorem HO {l:List UInt8} (hl:0<l.length) (h:(fR l).2.2=true):1≤(fR l).2.1.length∧(fR l).2.1.length≤l.length∧(fR l).2.1=l.take (fR l).2.1.length∧(fR l).1≠0:=by
 have tk:∀k:Nat,k≤l.length→1≤k→1≤(l.take k).length∧(l.take k).length≤l.length∧l.take k=l.take (l.take k).length:=fun k h1 h2=>by
  have e:(l.take k).length=k:=by simp; omega
  rw [e]; exact ⟨h2,h1,rfl⟩
 have t3:∀{k:Nat} {x:Int},k≤l.length→1≤k→x≠0→1≤(l.take k).length∧(l.take k).length≤l.length∧l.take k=l.take (l.take k).length∧x≠0:=fun h1 h2 h3=>⟨(tk _ h1 h2).1,(tk _ h1 h2).2.1,(tk _ h1 h2).2.2,h3⟩
 unfold fR at h ⊢
 split
 ·rename_i hd
  rw [if_pos hd] at h
  have h1:=Br hl hd
  have h2:=lA isDigit l
  have h3:=lA isDigit (l.drop (je isDigit l+1))
  rw [List.length_drop] at h3
  unfold lO at h ⊢
  split
  ·rename_i hc
   simp only [Bool.and_eq_true,decide_eq_true_eq] at hc
   exact t3 (by omega) (by omega) (by simp)
  ·exact t3 h2 h1 (by simp)
 ·rename_i hd
  rw [if_neg hd] at h
  split
  ·rename_i ht
   rw [if_pos ht] at h
   have h1:=Br (p:=gm) hl (by simp only [gm,ht,Bool.true_or])
   have h2:=lA gm l
   split
   ·exact t3 h2 h1 (by simp)
   ·exact t3 h2 h1 (by simp)
  ·rename_i ht
   rw [if_neg ht] at h
   cases hf:fH l jx with
   | none=>rw [hf] at h; cases h
   | some x=>
    obtain ⟨m,hp⟩:=pn hf
    simp only [pre,beq_iff_eq] at hp
    have hx:1≤x.length:=by
     revert m; unfold jx; intro m
     simp only [List.mem_cons,List.not_mem_nil,or_false] at m
     rcases m with rfl | rfl | rfl | rfl | rfl | rfl | rfl | rfl | rfl | rfl | rfl | rfl | rfl | rfl | rfl | rfl | rfl | rfl | rfl | rfl | rfl | rfl<;>decide
    refine ⟨hx,?_,hp.symm,by simp⟩
    have:=congrArg List.length hp
    rw [List.length_take] at this
    simp only
    omega
set_option maxHeartbeats 1000000 in
theorem P1 (s:List UInt8):aM Tryz.prog 20 [.str s] (.tuple [.sl (lH (tokens s).1),.int .i64 (tokens s).2.1,.int .i64 (tokens s).2.2]):=by
 refine aM.run SD ac4 (by simp) fun E=>?_
 unfold tokens
 by_cases c0:4096<s.length
 ·have g1:((s.length:Int)>4096)=True:=by simp; omega
  simp only [c0,s23,g1,nn,decide_true,mD,zz,iB,iz,iy,iA,ix,cond_true,cond_false,seval]
  trace_state
 ·have h2:s.length≤1000000:=by omega
  have g1:((s.length:Int)>4096)=False:=by simp; omega
  have g2:(s.length≤1000000)=True:=by simp; omega
  have Va:(s.length≤100000)=True:=by simp; omega
  have g3:(0≤(s.length:Int))=True:=by simp
  simp only [c0,s23,g1,g2,g3,QP,decide_false,mD,zz,iB,iz,iy,iA,ix,cond_true,cond_false,seval]
  intro _
  generalize hR:pG (s.length+1) (dE s) (s.drop (dE s)) []=R
  refine cS (X:=Nat×List Tok×Nat×Nat) (fun x=>[(0,.str s),(5,kC x.2.2.1 x.2.1.length),(6,.int .i64 x.1)])
   (fun x=>Lv .emp x.2.2.1 3 (lH x.2.1)) (fun x=>x.2.2.2)
   (fun x=>x.1≤s.length∧x.2.1.length≤x.1∧s.length<x.1+x.2.2.2∧pG x.2.2.2 x.1 (s.drop x.1) x.2.1=R) (dE s,[],0,s.length+1) ⟨xY _,by simp,by simp; omega,hR⟩ ?_ ?_ ?_
  ·simp only [kC,zz,iB,iz,iy,iA,ix,cond_true,cond_false,seval]
  ·exact aa.aS _
  ·rintro ⟨p,out,r,n⟩ Q ⟨i1,i2,i3,i4⟩ hQ
   simp only at i1 i2 i3 i4 hQ ⊢
   obtain ⟨n,rfl⟩:∃n',n=n'+1:=⟨n - 1,by omega⟩
   simp only [pG] at i4
   by_cases c1:p<s.length
   ·have iw:s.drop p≠[]:=by simp; omega
    rw [if_neg iw] at i4
    have g4:((p:Int)<(s.length:Int))=True:=by simp; omega
    have g5:(0≤(p:Int))=True:=by simp
    cases c2:(fR (s.drop p)).2.2 with
    | false=>
     rw [if_pos c2] at i4
     simp only [Va,g4,g5,c2,Bh,gb,Sa,QP,←i4,nn,decide_true,mD,zz,iB,iz,iy,iA,ix,cond_true,cond_false,seval]
    | true=>
     rw [if_neg (by rw [c2]; exact Bool.noConfusion)] at i4
     obtain ⟨b1,b2,b3,b4⟩:=HO (by simp; omega) c2
     have lb:=xY ((s.drop p).drop (fR (s.drop p)).2.1.length)
     have eb:s.drop (p+(fR (s.drop p)).2.1.length)=(s.drop p).drop (fR (s.drop p)).2.1.length:=by rw [List.drop_drop]
     rcases Nv:fR (s.drop p) with ⟨kd,tx,ok⟩
     simp only [Nv] at i4 c2 b1 b2 b3 b4 lb eb
     subst c2
     obtain ⟨bl,CP⟩:∃bl,bl=dE ((s.drop p).drop tx.length):=⟨_,rfl⟩
     rw [←CP] at i4 lb
     simp only [List.length_drop] at lb b2
     have w1:IntKind.i64.wrap ((p:Int)+(tx.length:Int))=((p+tx.length:Nat):Int):=wrap_add (by omega)
     have w2:IntKind.i64.wrap (((p+tx.length:Nat):Int)+(bl:Int))=((p+tx.length+bl:Nat):Int):=wrap_add (by omega)
     have g6:(((p+tx.length:Nat):Int)≤(s.length:Int))=True:=by simp; omega
     have g7:(0≤((p+tx.length:Nat):Int))=True:=by simp; omega
     have ed:s.drop (p+tx.length+bl)=(s.drop p).drop (tx.length+bl):=by rw [List.drop_drop,Nat.add_assoc]
     by_cases ho:out=[]
     ·subst ho
      simp only [g2,Va,g4,g5,b4,Nv,nn,fN,nM,Bh,gb,Sa,QP,List.take_succ_cons,List.take_zero,decide_true,mD,zz,iB,iz,iy,iA,ix,cond_true,cond_false,seval]
      intro _ id id2 f1 f2
      simp only [g2,Va,g4,g5,g6,g7,b4,Nv,f1,f2,w1,w2,eb,←CP,nn,fN,nM,Bh,gb,Sa,QP,List.take_succ_cons,List.take_zero,decide_true,mD,zz,iB,iz,iy,iA,ix,cond_true,cond_false,seval]
      intro _
      refine hQ (p+tx.length+bl,[(kd,tx,(p:Int))],id2,n) _ _ ⟨by simp only; omega,by simp only [List.length_singleton]; omega,by simp only; omega,by simp only [ed]; exact i4⟩ ?_ ?_ (Nat.lt_succ_self n)
      ·simp only [kC,zz,iB,iz,iy,iA,ix,cond_true,cond_false,seval]
      ·simp only [Lv,lH,gb,zz,iB,iz,iy,iA,ix,cond_true,cond_false,seval]
       exact aa.dL (by repeat' first | with_reducible exact aa.bF | with_reducible exact aa.bI | refine aa.cL (by simp [f1,f2]) ?_ | refine aa.cR (by simp [f1,f2]) ?_)
     ·have Tk:=AN ho
      have ho3:out.length≠0:=fun h=>ho (List.length_eq_zero_iff.1 h)
      simp only [g2,Va,g4,g5,b4,Nv,cp ho3,kc Tk,lM,Bh,gb,Sa,QP,List.take_succ_cons,List.take_zero,decide_true,mD,zz,iB,iz,iy,iA,ix,cond_true,cond_false,seval]
      intro _ id f1 f2
      have h3:(∀y∈[[D.int IntKind.i64 kd,D.str tx,D.int IntKind.i64 (p:Int)]],y.length=3∧y.all bY=true):=by simp [bY]
      have a1:(lH out).length=out.length:=lM
      simp only [g2,Va,g4,g5,g6,g7,b4,Nv,f1,f2,w1,w2,eb,←CP,a1,Bh,gb,Sa,QP,List.take_succ_cons,List.take_zero,decide_true,mD,zz,iB,iz,iy,iA,ix,cond_true,cond_false,seval]
      refine ⟨by omega,fun _=>?_⟩
      have ho5:out.length+1≠0:=by simp
      refine hQ (p+tx.length+bl,out++[(kd,tx,(p:Int))],r,n) _ _ ⟨by simp only; omega,by simp only [List.length_append,List.length_singleton]; omega,by simp only; omega,by simp only [ed]; exact i4⟩ ?_ ?_ (Nat.lt_succ_self n)
      ·have e9:out.length+2+1=out.length+1+2:=by omega
       simp only [cp ho5,List.length_append,e9,zz,iB,iz,iy,iA,ix,cond_true,cond_false,seval]
      ·have e9:out.length+1+2=out.length+2+1:=by omega
       rw [kc (AN (List.append_ne_nil_of_right_ne_nil out (List.cons_ne_nil _ _))),lM,←Cl,List.length_append,List.length_singleton,e9]
       exact aa.dL (by repeat' first | with_reducible exact aa.bF | with_reducible exact aa.bI | refine aa.cL (by simp [f1,f2]) ?_ | refine aa.cR (by simp [f1,f2]) ?_)
   ·have g4:((p:Int)<(s.length:Int))=False:=by simp; omega
    have e:s.drop p=[]:=List.drop_of_length_le (by omega)
    have hp:p=s.length:=by omega
    subst hp
    rw [if_pos e] at i4
    by_cases ho:out=[]
    ·subst ho
     simp only [g4,←i4,nn,fN,nM,List.take_succ_cons,List.take_zero,decide_false,mD,zz,iB,iz,iy,iA,ix,cond_true,cond_false,seval]
     exact fun _ _=>rfl
    ·have Tk:=AN ho
     have ho3:out.length≠0:=fun h=>ho (List.length_eq_zero_iff.1 h)
     simp only [g4,←i4,cp ho3,kc Tk,lM,List.take_succ_cons,List.take_zero,decide_false,mD,zz,iB,iz,iy,iA,ix,cond_true,cond_false,seval]
     have a2:(lH (out++[(0,[],(s.length:Int))])).take (out.length+1)=lH (out++[(0,[],(s.length:Int))]):=List.take_of_length_le (by rw [lM]; simp)
     have a3:out.length+1≤(lH (out++[(0,[],(s.length:Int))])).length:=by rw [lM]; simp
     rw [Cl,a2,if_pos a3]
     exact fun _ _=>⟨by omega,rfl⟩
end Go.Proofs.YtpklkpkfgmoghaaGreatDoor.Zz
namespace Go.Proofs.YtpklkpkfgmoghaaGreatDoor.Zz
inductive Nd where
 | mk (k t:Int) (s:List UInt8) (n:Int) (l:List Nd)
mutual
def Nd.enc:Nd→List D
 | .mk k t s n l=>[.int .i64 k,.int .i64 t,.str s,.int .i64 n,.sl (Nd.cN l)]
def Nd.cN:List Nd→List (List D)
 | []=>[]
 | x::l=>Nd.enc x::Nd.cN l
end
mutual
def Nd.de:Nd→Nat
 | .mk k t s n l=>1+Nd.fy l
def Nd.fy:List Nd→Nat
 | []=>0
 | x::l=>Nd.de x+Nd.fy l
end
theorem aR (k t:Int) (s:List UInt8) (n:Int) (l:List Nd):Nd.enc (.mk k t s n l)=[.int .i64 k,.int .i64 t,.str s,.int .i64 n,.sl (Nd.cN l)]:=by rw [Nd.enc]
theorem bt:Nd.cN []=[]:=by rw [Nd.cN]
theorem cj (x:Nd) (l:List Nd):Nd.cN (x::l)=Nd.enc x::Nd.cN l:=by rw [Nd.cN]
theorem eZ:∀l:List Nd,Nd.cN l=l.map Nd.enc
 | []=>by rw [bt]; rfl
 | x::l=>by rw [cj,eZ l]; rfl
theorem bg (k t:Int) (s:List UInt8) (n:Int) (l:List Nd):Nd.de (.mk k t s n l)=1+Nd.fy l:=by rw [Nd.de]
theorem aX:Nd.fy []=0:=by rw [Nd.fy]
theorem aQ (x:Nd) (l:List Nd):Nd.fy (x::l)=Nd.de x+Nd.fy l:=by rw [Nd.fy]
theorem He (x:Nd):0<x.de:=by cases x; rw [bg]; omega
theorem Ce:∀{l:List Nd} {x:Nd},x∈l→x.de≤Nd.fy l
 | y::l,x,h=>by
  rw [aQ]
  rcases List.mem_cons.1 h with e | e
  ·rw [e]; omega
  ·have:=Ce e; omega
theorem ot {k t:Int} {s:List UInt8} {n:Int} {l:List Nd} {x:Nd} (h:x∈l):x.de<Nd.de (.mk k t s n l):=by
 rw [bg]
 have:=Ce h
 omega
theorem nh (l r:List Nd):Nd.fy (l++r)=Nd.fy l+Nd.fy r:=by
 induction l with
 | nil=>rw [List.nil_append,aX]; omega
 | cons x l ih=>rw [List.cons_append,aQ,aQ,ih]; omega
theorem ao (x:Nd):x.enc.length=5:=by cases x; rw [aR]; rfl
theorem aw (x:Nd):x.enc.all bY=true:=by cases x; rw [aR]; rfl
theorem ah (x:Nd):x.enc.map eT=x.enc:=by cases x; rw [aR]; rfl
theorem aV (l:List Nd):(Nd.cN l).length=l.length:=by rw [eZ,List.length_map]
theorem M8 {l:List Nd} {i:Nat} {x:Nd} (h:l[i]? =some x):(Nd.cN l)[i]? =some x.enc:=by rw [eZ,List.getElem?_map,h]; rfl
theorem M7 (l r:List Nd):Nd.cN (l++r)=Nd.cN l++Nd.cN r:=by rw [eZ,eZ,eZ,List.map_append]
theorem jY (l:List Nd) (x:Nd):Nd.cN l++[x.enc]=Nd.cN (l++[x]):=by rw [M7,cj,bt]
theorem Nd.ind {P:Nd→Prop} (h:∀x,(∀y:Nd,y.de<x.de→P y)→P x) (x:Nd):P x:=by
 have key:∀n,∀x:Nd,x.de≤n→P x:=by
  intro n
  induction n with
  | zero=>intro x hx; have:=He x; omega
  | succ n ih=>intro x hx; exact h x fun y hy=>ih y (by omega)
 exact key _ x (Nat.le_refl _)
theorem pS {α β:Type} {f:α→β}:∀{l r:List α},(∀x∈l,∀y,f x=f y→x=y)→l.map f=r.map f→l=r
 | [],[],_,_=>rfl
 | [],_::_,_,h=>by cases h
 | _::_,[],_,h=>by cases h
 | x::l,y::r,hf,h=>by
  simp only [List.map_cons,List.cons.injEq] at h
  rw [hf x (by simp) y h.1,pS (fun z hz=>hf z (by simp [hz])) h.2]
theorem Hl:∀x y:Nd,x.enc=y.enc→x=y:=by
 intro x
 induction x using Nd.ind with
 | h x ih=>
  intro y e
  obtain ⟨k,t,s,n,l⟩:=x
  obtain ⟨k',t',s',n',l'⟩:=y
  rw [aR,aR] at e
  simp only [List.cons.injEq,D.int.injEq,D.str.injEq,D.sl.injEq,true_and,and_true] at e
  obtain ⟨rfl,rfl,rfl,rfl,e⟩:=e
  rw [eZ,eZ] at e
  rw [pS (fun x hx y=>ih x (ot hx) y) e]
open Classical in
noncomputable def vg (ds:List D):Option Nd:=if h:∃x:Nd,x.enc=ds then some (Classical.choose h) else none
theorem j8 (x:Nd):vg x.enc=some x:=by
 unfold vg
 rw [dif_pos ⟨x,rfl⟩]
 congr 1
 exact Hl _ _ (Classical.choose_spec (⟨x,rfl⟩:∃y:Nd,y.enc=x.enc))
theorem iO {ds:List D} {x:Nd} (h:vg ds=some x):ds=x.enc:=by
 unfold vg at h
 split at h
 ·rename_i hx
  cases h
  exact (Classical.choose_spec hx).symm
 ·cases h
theorem M9 {l r:List Nd} (h:Nd.cN l=Nd.cN r):l=r:=by
 rw [eZ,eZ] at h
 exact pS (fun x _ y=>Hl x y) h
open Classical in
noncomputable def vh (ds:List (List D)):Option (List Nd):=if h:∃x:List Nd,Nd.cN x=ds then some (Classical.choose h) else none
theorem ye (x:List Nd):vh (Nd.cN x)=some x:=by
 unfold vh
 rw [dif_pos ⟨x,rfl⟩]
 congr 1
 exact M9 (Classical.choose_spec (⟨x,rfl⟩:∃y:List Nd,Nd.cN y=Nd.cN x))
theorem pI {ds:List (List D)} {x:List Nd} (h:vh ds=some x):ds=Nd.cN x:=by
 unfold vh at h
 split at h
 ·rename_i hx
  cases h
  exact (Classical.choose_spec hx).symm
 ·cases h
theorem iL {K:D→aa→Prop} {h:aa} {l:List Nd} {i:Nat} {x:Nd} (e:l[i]? =some x):iC 5 K h (Nd.cN l) (i:Int)=K (.cU x.enc 0) h:=by
 have h1:=(List.getElem?_eq_some_iff.1 e).1
 have h2:(0≤(i:Int)∧(i:Int)<((Nd.cN l).length:Int)):=by rw [aV]; omega
 simp only [iC,h2,Int.toNat_natCast,M8 e,Option.some.injEq]
 apply propext
 constructor
 ·intro k; exact (k.2 _ rfl).2
 ·intro k; exact ⟨by simp,fun y hy=>by rw [←hy]; exact ⟨ao x,k⟩⟩
theorem aj (x:Nd):gn x.enc 0 (some 5)=some (.agg x.enc):=by
 have:=ao x
 simp only [gn,List.drop_zero]
 rw [if_pos (by omega),List.take_of_length_le (by omega)]
theorem G8 {sz b r:Nat} {xs:List (List D)} {y:List D} {h:aa} {K:D→aa→Prop} (hr:xs≠[]→h.f r=some (.row sz (xs.length+2) xs false)) (hy:y.length=sz∧y.all bY=true) (hb:0<b) (hn:(xs.length+1)*b≤140737488355328)
  (hk:∀r',(xs=[]→h.f r'=none)→(xs≠[]→r'=r)→K (kC r' (xs.length+1)) (h.set r' (.row sz (xs.length+1+2) (xs++[y]) false))):Fz sz b (kC r xs.length) h K (some [y]):=by
 by_cases h0:xs=[]
 ·subst h0
  rw [List.length_nil,fN,At]
  refine ⟨by simpa using hy,hb,by simp,by simpa using hn,fun _ id hid=>?_⟩
  have:=hk id (fun _=>hid) (fun h=>absurd rfl h)
  simpa [kC] using this
 ·have hl:xs.length≠0:=fun h=>h0 (List.length_eq_zero_iff.1 h)
  rw [cp hl,Au,hr h0,uT]
  refine ⟨by simpa using hy,hb,rfl,rfl,rfl,rfl,by simpa using hn,?_⟩
  have:=hk r (fun h=>absurd h h0) (fun _=>rfl)
  rw [cp (by omega)] at this
  have e:xs.length+2+[y].length=xs.length+1+2:=by simp
  rw [e]
  exact this
end Go.Proofs.YtpklkpkfgmoghaaGreatDoor.Zz
