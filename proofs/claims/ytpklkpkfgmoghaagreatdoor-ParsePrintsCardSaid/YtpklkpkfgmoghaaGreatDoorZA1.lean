/- Contracts: lex: words, numbers. -/
import Derived.Test.YtpklkpkfgmoghaaGreatDoorZL1
set_option linter.unnecessarySimpa false
set_option linter.unusedVariables false
set_option linter.unusedSimpArgs false
set_option maxRecDepth 20000
namespace Go.Proofs.YtpklkpkfgmoghaaGreatDoor.Zz
def p80:cj:=⟨⟨[],[],[],[],[],[]⟩,[],[],false⟩
def s80:dL:=
 sO [oP (.cy (kI 0)) 4]
 (.seq (sO [oM 0 6,
 oZ 6 7,
 oP (.cy (kI 0)) 8]
 (.block 0 (.loop (sO [oE .lss 8 7 9]
 (.seq (.cond (.t 9)
 (.skip)
 (.exit 0))
 (.seq (.block 1 (sO [oM 8 10,
 oM 10 5]
 (sO [oM 1 11,
 oM 0 12,
 oM 5 13,
 oI 1 12 13 14,
 oL 14 15,
 oE .eql 11 15 16]
 (.cond (.t 16)
 (sO [oM 5 17,
 oM 17 4]
 (.ret))
 (.skip)))))
 (.ops [oH .add 8 1 18,
 oM 18 8])))))))
 (sO [oP (.cy (kI (-1))) 4]
 (.ret)))
theorem aft:bJ Tryz.prog 97 p80=some (s80,[.tmp 4],19):=by kernel_rfl
def p64:cj:=⟨⟨[],[],[],[],[],[]⟩,[],[],false⟩
def s64:dL:=
 sO [oP (.cy (kB false)) 4]
 (sO [oM 0 5,
 oM 1 6,
 oD 97 [.t 5,.t 6] 7,
 oH .geq 7 0 8,
 oM 8 4]
 (.ret))
theorem afj:bJ Tryz.prog 79 p64=some (s64,[.tmp 4],9):=by kernel_rfl
def p65:cj:=⟨⟨[],[],[],[],[],[]⟩,[],[],false⟩
def s65:dL:=
 sO [oP (.cy (.c .bg)) 0]
 (sO [oP (.buildSlice 1 [(.str [])] 14 [(0,(kS [102,117,110,99])),(1,(kS [116,101,115,116])),(2,(kS [118,97,114])),(3,(kS [105,102])),(4,(kS [101,108,115,101])),(5,(kS [102,111,114])),(6,(kS [114,101,116,117,114,110])),(7,(kS [97,115,115,101,114,116])),(8,(kS [115,107,105,112])),(9,(kS [116,114,117,101])),(10,(kS [102,97,108,115,101])),(11,(kS [105,110,116])),(12,(kS [102,108,111,97,116])),(13,(kS [98,111,111,108]))] false) 1,
 oM 1 0]
 (.ret))
theorem afk:bJ Tryz.prog 80 p65=some (s65,[.tmp 0],2):=by kernel_rfl
def p40:cj:=⟨⟨[],[],[],[],[],[]⟩,[],[],false⟩
def s40:dL:=
 sO [oP (.cy (kB false)) 2]
 (sO [oD 80 [] 3,
 oM 0 4,
 oD 79 [.t 3,.t 4] 5,
 oM 5 2]
 (.ret))
theorem afd:bJ Tryz.prog 55 p40=some (s40,[.tmp 2],6):=by kernel_rfl
def p85:cj:=⟨⟨[],[],[],[],[],[]⟩,[],[],false⟩
def s85:dL:=
 sO [oP (.cy (kB false)) 2]
 (.seq (sO [oM 0 3,
 oW 3 4,
 oH .gtr 4 1 5,
 oM 5 6,
 oG (.cy (.t 0)) 7 6 true true,
 oG (.ic (.t 7) (kI 0)) 8 6 true true,
 oG (.bin .eql (.t 8) (.c (.int .u8 48))) 9 6 true true,
 oP (.pick (.t 6) (.t 9) (kB false)) 10,
 oM 10 11,
 oG (.cy (.t 0)) 12 11 false true,
 oG (.len .str (.t 12)) 13 11 false false,
 oG (.bin .gtr (.t 13) (kI 19)) 14 11 false true,
 oP (.pick (.t 11) (kB true) (.t 14)) 15]
 (.cond (.t 15)
 (sO [oP (.cy (kB false)) 2]
 (.ret))
 (.skip)))
 (sO [oM 0 16,
 oW 16 17,
 oH .lss 17 19 18,
 oM 18 19,
 oG (.cy (.t 0)) 20 19 false true,
 oG (.bin .leq (.t 20) (kS [57,50,50,51,51,55,50,48,51,54,56,53,52,55,55,53,56,48,55])) 21 19 false true,
 oP (.pick (.t 19) (kB true) (.t 21)) 22,
 oM 22 2]
 (.ret)))
theorem afv:bJ Tryz.prog 78 p85=some (s85,[.tmp 2],23):=by kernel_rfl
def p50:cj:=⟨⟨[],[],[],[],[],[]⟩,[],[],false⟩
def s50:dL:=
 sO [oP (.cy (kI 0)) 4]
 (sO [oM 1 6,
 oM 6 5]
 (.seq (.block 0 (.loop (.seq (sO [oM 1 7,
 oM 0 8,
 oW 8 9,
 oE .lss 7 9 10]
 (.cond (.t 10)
 (.skip)
 (.exit 0)))
 (.block 1 (.block 2 (sO [oM 0 15,
 oM 1 16,
 oP (.ic (.t 15) (.t 16)) 17,
 oP (.bin .eql (.t 17) (.c (.int .u8 32))) 18,
 oM 18 19,
 oG (.cy (.t 0)) 20 19 false true,
 oG (.cy (.t 1)) 21 19 false true,
 oG (.ic (.t 20) (.t 21)) 22 19 false true,
 oG (.bin .eql (.t 22) (.c (.int .u8 9))) 23 19 false true,
 oP (.pick (.t 19) (kB true) (.t 23)) 24,
 oM 24 25,
 oG (.cy (.t 0)) 26 25 false true,
 oG (.cy (.t 1)) 27 25 false true,
 oG (.ic (.t 26) (.t 27)) 28 25 false true,
 oG (.bin .eql (.t 28) (.c (.int .u8 10))) 29 25 false true,
 oP (.pick (.t 25) (kB true) (.t 29)) 30,
 oM 30 14]
 (.cond (.t 14)
 (.ops [oM 1 31,
 oH .add 31 1 32,
 oM 32 1])
 (sO [oM 0 34,
 oM 1 35,
 oQ (.slice .str (.t 34) (some (.t 35)) none none) 36,
 oD 48 [.t 36,(kS [47,47])] 37,
 oM 37 33]
 (.cond (.t 33)
 (.ops [oM 1 38,
 oM 0 39,
 oM 1 40,
 oD 49 [.t 39,.t 40,.f 50] 41,
 oE .add 38 41 42,
 oM 42 1])
 (sO [oM 1 11,
 oM 5 12,
 oE .sub 11 12 13,
 oM 13 4]
 (.ret)))))))))))
 (sO [oM 1 43,
 oM 5 44,
 oE .sub 43 44 45,
 oM 45 4]
 (.ret))))
theorem afe:bJ Tryz.prog 33 p50=some (s50,[.tmp 4],46):=by kernel_rfl
def idx (v:List UInt8):List (List UInt8)→Nat→Int
 | [],_=> -1
 | x::l,i=>if v=x then i else idx v l (i+1)
theorem H9 (v:List UInt8):∀(l:List (List UInt8)) (i:Nat),decide (idx v l i≥0)=l.contains v
 | [],i=>by simp [idx]
 | x::l,i=>by
  simp only [idx,List.contains_cons]
  split
  ·ab e; subst e; simp
  ·ab e
   rw [H9 v l (i+1)]
   have:(v==x)=false:=by simp [e]
   rw [this]; simp
theorem CC {α:Type} {l:List α} {i:Nat} {x:α} (h:l[i]? =some x):l.drop i=x::l.drop (i+1):=by
 obtain ⟨h1,h2⟩:=List.getElem?_eq_some_iff.1 h
 rw [List.drop_eq_getElem_cons h1,h2]
theorem Sk (l:List (List UInt8)) (v:List UInt8) (hl:l.length≤1000000):aO Tryz.prog 97 [.sl (cM l),.str v] (.int .i64 (idx v l 0)):=by
 refine aO.run Ko aft (by simp) fun E=>?_
 simp only [s80,di,zz,iH,iF,iE,iG,iD,cond_true,cond_false,seval]
 intro _
 refine c6 (X:=Nat) (fun i=>[(0,.sl (cM l)),(1,.str v),(7,.int .i64 l.length),(8,.int .i64 i)]) (fun _=>aa.emp) (fun i=>l.length - i)
  (fun i=>i≤l.length∧idx v (l.drop i) i=idx v l 0) 0 (by simp) ?_ (aa.aU _) ?_
 ·simp only [zz,iH,iF,iE,iG,iD,cond_true,cond_false,seval]
 ·rintro i Q ⟨i1,i2⟩ hQ
  have wi:IntKind.i64.wrap ((i:Int)+1)=((i+1:Nat):Int):=de (by omega)
  by_cases c1:i<l.length
  ·have g1:((i:Int)<(l.length:Int))=True:=by simp; omega
   obtain ⟨x,hx⟩:∃x,l[i]? =some x:=by rw [List.getElem?_eq_getElem c1]; exact ⟨_,rfl⟩
   rw [CC hx] at i2
   simp only [idx] at i2
   simp only [g1,wi,hx,sc,decide_true,zz,iH,iF,iE,iG,iD,cond_true,cond_false,seval]
   refine ⟨by omega,?_⟩
   split
   ·ab e
    rw [if_pos (by simpa using e)] at i2
    exact .inl i2
   ·ab e
    rw [if_neg (by simpa using e)] at i2
    refine hQ (i+1) _ _ ⟨by omega,i2⟩ ?_ (aa.aU _) (by omega)
    simp only [zz,iH,iF,iE,iG,iD,cond_true,cond_false,seval]
  ·have g1:((i:Int)<(l.length:Int))=False:=by simp; omega
   have e:l.drop i=[]:=List.drop_of_length_le (by omega)
   rw [e] at i2
   simp only [g1,decide_false,zz,iH,iF,iE,iG,iD,cond_true,cond_false,seval]
   exact .inl i2
def Yz:List D→Option D
 | [.sl l',.str v]=>match vC l' with
  | some l=>if l.length≤1000000 then some (.int .i64 (idx v l 0)) else none
  | _=>none
 | _=>none
theorem Xk (args:List D) (d:D) (h:Yz args=some d):aO Tryz.prog 97 args d:=by
 unfold Yz at h
 split at h
 ·split at h
  ·ab e0
   cases iV e0
   split at h
   ·cases h; exact Sk _ _ (by assumption)
   ·cases h
  ·cases h
 ·cases h
theorem Xj (l:List (List UInt8)) (v:List UInt8):Yz [.sl (cM l),.str v]=if l.length≤1000000 then some (.int .i64 (idx v l 0)) else none:=by simp only [Yz,qI]
def Fc:bm:=E9.dh 97 Yz
theorem Qv (g:FuncId) (args:List D):Fc.q g args=if g=97 then Yz args else E9.q g args:=rfl
theorem Qt:Fc.a=E9.a:=rfl
theorem Qu:Fc.c=E9.c:=rfl
theorem Ks:Fc.ok Tryz.prog:=bm.bq Ko Xk
theorem Hk:a7% (And.intro (And.intro @Qv (And.intro @Qt @Qu)) @Qf):=(And.intro (And.intro @Qv (And.intro @Qt @Qu)) @Qf)
theorem Gf (l:List (List UInt8)) (v:List UInt8) (hl:l.length≤1000000):aO Tryz.prog 79 [.sl (cM l),.str v] (.bool (l.contains v)):=by
 refine aO.run Ks afj (by simp) fun E=>?_
 have g:(l.length≤1000000)=True:=by simp; omega
 simp only [s64,Xj,H9,g,Hk,zz,iH,iF,iE,iG,iD,cond_true,cond_false,seval]
def Yy:List D→Option D
 | [.sl l',.str v]=>match vC l' with
  | some l=>if l.length≤1000000 then some (.bool (l.contains v)) else none
  | _=>none
 | _=>none
theorem W9 (args:List D) (d:D) (h:Yy args=some d):aO Tryz.prog 79 args d:=by
 unfold Yy at h
 split at h
 ·split at h
  ·ab e0
   cases iV e0
   split at h
   ·cases h; exact Gf _ _ (by assumption)
   ·cases h
  ·cases h
 ·cases h
theorem W8 (l:List (List UInt8)) (v:List UInt8):Yy [.sl (cM l),.str v]=if l.length≤1000000 then some (.bool (l.contains v)) else none:=by simp only [Yy,qI]
def E5:bm:=Fc.dh 79 Yy
theorem P5 (g:FuncId) (args:List D):E5.q g args=if g=79 then Yy args else Fc.q g args:=rfl
theorem P3:E5.a=Fc.a:=rfl
theorem P4:E5.c=Fc.c:=rfl
theorem Ki:E5.ok Tryz.prog:=bm.bq Ks W9
theorem Hf:a7% (And.intro (And.intro @P5 (And.intro @P3 @P4)) @Hk):=(And.intro (And.intro @P5 (And.intro @P3 @P4)) @Hk)
def words:List (List UInt8):=[[102,117,110,99],[116,101,115,116],[118,97,114],[105,102],[101,108,115,101],[102,111,114],[114,101,116,117,114,110],[97,115,115,101,114,116],[115,107,105,112],[116,114,117,101],[102,97,108,115,101],[105,110,116],[102,108,111,97,116],[98,111,111,108]]
theorem TV:aO Tryz.prog 80 [] (.sl (cM words)):=by
 refine aO.run Ki afk (by simp) fun E=>?_
 simp only [s65,words,cM,Hf,zz,iH,iF,iE,iG,iD,cond_true,cond_false,seval]
def q65:List D→Option D
 | []=>if True then some (.sl (cM words)) else none
 | _=>none
theorem W_ (args:List D) (d:D) (h:q65 args=some d):aO Tryz.prog 80 args d:=by
 unfold q65 at h
 split at h
 ·split at h
  ·cases h; exact TV
  ·cases h
 ·cases h
def E7:bm:=E5.dh 80 q65
theorem P9 (g:FuncId) (args:List D):E7.q g args=if g=80 then q65 args else E5.q g args:=rfl
theorem P6:E7.a=E5.a:=rfl
theorem P8:E7.c=E5.c:=rfl
theorem Km:E7.ok Tryz.prog:=bm.bq Ki W_
theorem Hg:a7% (And.intro (And.intro @P9 (And.intro @P6 @P8)) @Hf):=(And.intro (And.intro @P9 (And.intro @P6 @P8)) @Hf)
theorem X8 (s:List UInt8):aO Tryz.prog 55 [.str s] (.bool (words.contains s)):=by
 refine aO.run Km afd (by simp) fun E=>?_
 have g:(words.length≤1000000)=True:=by simp [words]
 simp only [s40,W8,q65,g,Hg,zz,iH,iF,iE,iG,iD,cond_true,cond_false,seval]
def q40:List D→Option D
 | [.str s]=>if True then some (.bool (words.contains s)) else none
 | _=>none
theorem WZ (args:List D) (d:D) (h:q40 args=some d):aO Tryz.prog 55 args d:=by
 unfold q40 at h
 split at h
 ·split at h
  ·cases h; exact X8 _
  ·cases h
 ·cases h
def EV:bm:=E7.dh 55 q40
theorem PJ (g:FuncId) (args:List D):EV.q g args=if g=55 then q40 args else E7.q g args:=rfl
theorem PH:EV.a=E7.a:=rfl
theorem PI:EV.c=E7.c:=rfl
theorem JB:EV.ok Tryz.prog:=bm.bq Km WZ
theorem Hb:a7% (And.intro (And.intro @PJ (And.intro @PH @PI)) @Hg):=(And.intro (And.intro @PJ (And.intro @PH @PI)) @Hg)
def mxL:List UInt8:=[57,50,50,51,51,55,50,48,51,54,56,53,52,55,55,53,56,48,55]
def oK (s:List UInt8):Bool:= !(decide (1<s.length) && ((s.getD 0 0).toNat:Int)==48 || decide (19<s.length)) && (decide (s.length<19) || (Op.bytesLess s mxL || s==mxL))
theorem TU (s:List UInt8):aO Tryz.prog 78 [.str s] (.bool (oK s)):=by
 refine aO.run JB afv (by simp) fun E=>?_
 simp only [s85,hY,Hb,zz,iH,iF,iE,iG,iD,cond_true,cond_false,seval]
 simp only [or_self,oK,mxL]
 intro _
 by_cases c1:1<s.length
 ·have g1:(s.length:Int)>1:=by omega
  rw [if_pos g1]
  refine ⟨by omega,?_⟩
  by_cases c2:(((s.getD 0 0).toNat:Int)==48)=true
  ·rw [if_pos c2]; simp only [c1,c2]; simp
  ·rw [if_neg c2]
   have c2':(((s.getD 0 0).toNat:Int)==48)=false:=by simpa using c2
   intro _
   by_cases c3:(s.length:Int)>19
   ·have X_:19<s.length:=by omega
    rw [if_pos c3]; simp [X_]
   ·have X_:¬19<s.length:=by omega
    rw [if_neg c3]
    intro _
    by_cases c4:(s.length:Int)<19
    ·have YO:s.length<19:=by omega
     rw [if_pos c4]; simp only [c2',X_,YO]; simp
    ·have YO:¬s.length<19:=by omega
     rw [if_neg c4]; simp only [c2',X_,YO]; simp
 ·have g1:¬(s.length:Int)>1:=by omega
  have X_:¬19<s.length:=by omega
  have YO:s.length<19:=by omega
  rw [if_neg g1]
  intro _
  rw [if_neg (by omega)]
  intro _
  rw [if_pos (by omega)]
  simp only [c1,X_,YO]; simp
def YA:List D→Option D
 | [.str s]=>if True then some (.bool (oK s)) else none
 | _=>none
theorem Xm (args:List D) (d:D) (h:YA args=some d):aO Tryz.prog 78 args d:=by
 unfold YA at h
 split at h
 ·split at h
  ·cases h; exact TU _
  ·cases h
 ·cases h
def Ff:bm:=EV.dh 78 YA
theorem QD (g:FuncId) (args:List D):Ff.q g args=if g=78 then YA args else EV.q g args:=rfl
theorem QB:Ff.a=EV.a:=rfl
theorem QC:Ff.c=EV.c:=rfl
theorem KC:Ff.ok Tryz.prog:=bm.bq JB Xm
theorem xu:a7% (And.intro (And.intro @QD (And.intro @QB @QC)) @Hb):=(And.intro (And.intro @QD (And.intro @QB @QC)) @Hb)
def mo (c:UInt8):Bool:=(c.toNat:Int)==32 || (c.toNat:Int)==9 || (c.toNat:Int)==10
def jJ:Nat→List UInt8→Nat
 | 0,_=>0
 | _+1,[]=>0
 | n+1,c::t=>if mo c=true then 1+jJ n t else if pre (c::t) [47,47]=true then jl (fun n=>n != 10) (c::t)+jJ n ((c::t).drop (jl (fun n=>n != 10) (c::t))) else 0
def dO (l:List UInt8):Nat:=jJ l.length l
theorem wI {c:UInt8} {t:List UInt8} (h:pre (c::t) [47,47]=true):0<jl (fun n=>n != 10) (c::t):=by
 have e:c=47:=by
  cases t with
  | nil=>simp [pre] at h
  | cons d t=>simp [pre] at h; exact h.1
 subst e
 rw [ky,if_pos (by decide)]
 omega
theorem nr:∀(n m:Nat) (l:List UInt8),l.length≤n→l.length≤m→jJ n l=jJ m l
 | 0,0,l,_,_=>rfl
 | 0,m+1,[],_,_=>rfl
 | n+1,0,[],_,_=>rfl
 | n+1,m+1,[],_,_=>rfl
 | 0,_,c::t,h,_=>by simp at h
 | _,0,c::t,_,h=>by simp at h
 | n+1,m+1,c::t,h1,h2=>by
  simp only [List.length_cons] at h1 h2
  simp only [jJ]
  split
  ·rw [nr n m t (by omega) (by omega)]
  ·split
   ·ab hp
    have:=wI hp
    rw [nr n m _ (by simp; omega) (by simp; omega)]
   ·rfl
theorem F4:dO []=0:=rfl
theorem jo (c:UInt8) (t:List UInt8):dO (c::t)=if mo c=true then 1+dO t else if pre (c::t) [47,47]=true then jl (fun n=>n != 10) (c::t)+dO ((c::t).drop (jl (fun n=>n != 10) (c::t))) else 0:=by
 show jJ (t.length+1) (c::t)=_
 simp only [jJ]
 split
 ·rfl
 ·split
  ·ab hp
   have:=wI hp
   rw [nr t.length _ _ (by simp; omega) (Nat.le_refl _)]
   rfl
  ·rfl
theorem se:∀(n:Nat) (l:List UInt8),jJ n l≤l.length
 | 0,l=>by simp [jJ]
 | n+1,[]=>by simp [jJ]
 | n+1,c::t=>by
  simp only [jJ]
  have h1:=se n t
  have h2:=se n ((c::t).drop (jl (fun n=>n != 10) (c::t)))
  have h3:=lH (fun n=>n != 10) (c::t)
  simp only [List.length_drop,List.length_cons] at h2 h3 ⊢
  split
  ·omega
  ·split<;>omega
theorem yr (l:List UInt8):dO l≤l.length:=se _ _
theorem RM (s:List UInt8) (a:Nat) (h1:a≤s.length) (h2:s.length≤1000000):aO Tryz.prog 33 [.str s,.int .i64 a] (.int .i64 (dO (s.drop a))):=by
 refine aO.run KC afe (by simp) fun E=>?_
 simp only [s50,xu,zz,iH,iF,iE,iG,iD,cond_true,cond_false,seval]
 refine c6 (X:=Nat) (fun i=>[(0,.str s),(1,.int .i64 i),(5,.int .i64 a)]) (fun _=>aa.emp) (fun i=>s.length - i)
  (fun i=>a≤i∧i≤s.length∧(i - a)+dO (s.drop i)=dO (s.drop a)) a (by simp; omega) ?_ (aa.aU _) ?_
 ·simp only [zz,iH,iF,iE,iG,iD,cond_true,cond_false,seval]
 ·rintro i Q ⟨i0,i1,i2⟩ hQ
  have wi:IntKind.i64.wrap ((i:Int)+1)=((i+1:Nat):Int):=de (by omega)
  have ws:IntKind.i64.wrap ((i:Int) - (a:Int))=((i - a:Nat):Int):=by rw [wrap_i64 (by omega) (by omega)]; omega
  by_cases c1:i<s.length
  ·have g1:((i:Int)<(s.length:Int))=True:=by simp; omega
   have g2:(s.length≤1000000)=True:=by simp; omega
   have g3:((i:Int)≤1000000)=True:=by simp; omega
   have g0:(0≤(i:Int))=True:=by simp
   have ts:(s.drop i).take (s.length - i)=s.drop i:=List.take_of_length_le (by simp)
   have hl:=lH (fun n=>n != 10) (s.drop i)
   have wn:IntKind.i64.wrap ((i:Int)+(jl (fun n=>n != 10) (s.drop i):Int))=((i+jl (fun n=>n != 10) (s.drop i):Nat):Int):=wrap_add (by simp at hl; omega)
   simp only [g0,g1,g2,g3,wi,ws,wn,ts,Xc,Te,kU,decide_true,xu,zz,iH,iF,iE,iG,iD,cond_true,cond_false,seval]
   rw [drop_cons c1,jo] at i2
   rw [←drop_cons c1] at i2
   have sp:∀(σ:Fr) (h:mo (s.getD i 0)=true),MP [(0,.str s),(1,.int .i64 (i+1:Nat)),(5,.int .i64 a)] σ→Q σ aa.emp:=fun σ h hs=>by
    rw [if_pos h] at i2
    exact hQ (i+1) _ _ ⟨by omega,by omega,by omega⟩ hs (aa.aU _) (by omega)
   intro _
   split
   ·ab e
    refine sp _ (by simp [mo]; simp at e; simp [e]) ?_
    simp only [zz,iH,iF,iE,iG,iD,cond_true,cond_false,seval]
   ·ab e1
    split
    ·ab e
     refine sp _ (by simp [mo]; simp at e; simp [e]) ?_
     simp only [zz,iH,iF,iE,iG,iD,cond_true,cond_false,seval]
    ·ab e2
     split
     ·ab e
      refine sp _ (by simp [mo]; simp at e; simp [e]) ?_
      simp only [zz,iH,iF,iE,iG,iD,cond_true,cond_false,seval]
     ·ab e3
      refine ⟨by omega,?_⟩
      have hsp:mo (s.getD i 0)=false:=by
       simp only [mo]
       simp only [Bool.not_eq_true] at e1 e2 e3
       rw [e1,e2,e3]; rfl
      rw [if_neg (by rw [hsp]; exact Bool.false_ne_true)] at i2
      split
      ·ab hp
       rw [if_pos hp] at i2
       have:=wI (c:=s.getD i 0) (t:=s.drop (i+1)) (by rw [←drop_cons c1]; exact hp)
       rw [←drop_cons c1] at this
       rw [List.drop_drop] at i2
       rw [List.length_drop] at hl
       refine hQ (i+jl (fun n=>n != 10) (s.drop i)) _ _ ⟨by omega,by omega,by omega⟩ ?_ (aa.aU _) (by omega)
       simp only [zz,iH,iF,iE,iG,iD,cond_true,cond_false,seval]
      ·ab hp
       rw [if_neg hp] at i2
       exact .inl (by omega)
  ·have g1:((i:Int)<(s.length:Int))=False:=by simp; omega
   have e:s.drop i=[]:=List.drop_of_length_le (by omega)
   rw [e,F4] at i2
   simp only [g1,ws,decide_false,xu,zz,iH,iF,iE,iG,iD,cond_true,cond_false,seval]
   exact fun _=>.inl (by omega)
theorem M4 (s:List UInt8) (a:Int) (h:0≤a∧a≤s.length∧s.length≤1000000):aO Tryz.prog 33 [.str s,.int .i64 a] (.int .i64 (dO (s.drop a.toNat))):=by
 have:=RM s a.toNat (by omega) h.2.2
 Xs [Int.toNat_of_nonneg h.1] at this
def RC:List D→Option D
 | [.str s,.int .i64 a]=>if 0≤a∧a≤s.length∧s.length≤1000000 then some (.int .i64 (dO (s.drop a.toNat))) else none
 | _=>none
theorem W1 (args:List D) (d:D) (h:RC args=some d):aO Tryz.prog 33 args d:=by
 unfold RC at h
 split at h
 ·split at h
  ·cases h; exact M4 _ _ (by assumption)
  ·cases h
 ·cases h
def EY:bm:=Ff.dh 33 RC
theorem PN (g:FuncId) (args:List D):EY.q g args=if g=33 then RC args else Ff.q g args:=rfl
theorem PL:EY.a=Ff.a:=rfl
theorem PM:EY.c=Ff.c:=rfl
theorem JM:EY.ok Tryz.prog:=bm.bq KC W1
theorem ox:a7% (And.intro (And.intro @PN (And.intro @PL @PM)) @xu):=(And.intro (And.intro @PN (And.intro @PL @PM)) @xu)
end Go.Proofs.YtpklkpkfgmoghaaGreatDoor.Zz
namespace Go.Proofs.YtpklkpkfgmoghaaGreatDoor.Zz
def p77:cj:=⟨⟨[],[],[],[],[],[]⟩,[(5,[0,1,2,3,4,5,6,7,8,9,10,11,12]),(9,[0,1,2,3,4,5])],[],false⟩
def s77:dL:=
 sO [oQ (.alloc [(.int .i64 0),(.str []),(.int .i64 0)]) 4,
 oP (.cy (kB false)) 5]
 (sO [oM 0 9,
 oM 1 10,
 oD 49 [.t 9,.t 10,.f 51] 11,
 oM 11 6]
 (sO [oM 0 12,
 oM 1 13,
 oM 1 14,
 oM 6 15,
 oE .add 14 15 16,
 oQ (.slice .str (.t 12) (some (.t 13)) (some (.t 16)) none) 17,
 oM 1 18,
 oP (.build [(.int .i64 0),(.str []),(.int .i64 0)] [(0,1,(kI 2)),(1,1,(.t 17)),(2,1,(.t 18))]) 19,
 oQ (.alloc [(.int .i64 0),(.str []),(.int .i64 0)]) 7,
 oS 3 7 19]
 (.seq (sO [oM 1 20,
 oM 6 21,
 oE .add 20 21 22,
 oM 0 23,
 oW 23 24,
 oE .lss 22 24 25,
 oM 25 26,
 oG (.cy (.t 0)) 27 26 true true,
 oG (.cy (.t 1)) 28 26 true true,
 oG (.cy (.t 6)) 29 26 true true,
 oG (.bin .add (.t 28) (.t 29)) 30 26 true true,
 oG (.ic (.t 27) (.t 30)) 31 26 true true,
 oG (.bin .eql (.t 31) (.c (.int .u8 46))) 32 26 true true,
 oP (.pick (.t 26) (.t 32) (kB false)) 33]
 (.cond (.t 33)
 (sO [oM 0 34,
 oM 1 35,
 oM 6 36,
 oE .add 35 36 37,
 oH .add 37 1 38,
 oD 49 [.t 34,.t 38,.f 51] 39,
 oM 39 8]
 (.seq (.fD 40 [oM 0 40,
 oM 1 41,
 oM 1 42,
 oM 6 43,
 oE .add 42 43 44,
 oH .add 44 1 45,
 oM 8 46,
 oE .add 45 46 47,
 oP (.slice .str (.t 40) (some (.t 41)) (some (.t 47)) none) 48,
 oF 0 7 49,
 oU (.store 1 (.t 49) (kI 3)),
 oF 1 7 50,
 oS 1 50 48])
 (.seq (sO [oM 8 51,
 oH .eql 51 0 52,
 oM 52 53,
 oG (.cy (.t 6)) 54 53 false true,
 oG (.cy (.t 8)) 55 53 false true,
 oG (.bin .add (.t 54) (.t 55)) 56 53 false true,
 oG (.bin .gtr (.t 56) (kI 15)) 57 53 false true,
 oP (.pick (.t 53) (kB true) (.t 57)) 58]
 (.cond (.t 58)
 (sO [oJ 3 7 59,
 oS 3 4 59,
 oP (.cy (kB false)) 5]
 (.ret))
 (.skip)))
 (sO [oJ 3 7 60,
 oS 3 4 60,
 oP (.cy (kB true)) 5]
 (.ret)))))
 (.skip)))
 (.seq (.fD 5 [oJ 3 7 61,
 oF 1 7 62,
 oL 62 63,
 oD 78 [.t 63] 64,
 oS 3 4 61,
 oM 64 5])
 (.ret)))))
theorem afp:bJ Tryz.prog 52 p77=some (s77,[.cell 4 (some 3),.tmp 5],65):=by kernel_rfl
def p79:cj:=⟨⟨[],[],[],[],[],[]⟩,[],[],false⟩
def s79:dL:=
 sO [oP (.cy (.c .bg)) 0]
 (sO [oP (.buildSlice 1 [(.str [])] 22 [(0,(kS [58,61])),(1,(kS [60,61])),(2,(kS [62,61])),(3,(kS [61,61])),(4,(kS [33,61])),(5,(kS [38,38])),(6,(kS [124,124])),(7,(kS [40])),(8,(kS [41])),(9,(kS [123])),(10,(kS [125])),(11,(kS [44])),(12,(kS [59])),(13,(kS [61])),(14,(kS [43])),(15,(kS [45])),(16,(kS [42])),(17,(kS [47])),(18,(kS [37])),(19,(kS [60])),(20,(kS [62])),(21,(kS [33]))] false) 1,
 oM 1 0]
 (.ret))
theorem afr:bJ Tryz.prog 56 p79=some (s79,[.tmp 0],2):=by kernel_rfl
def p51:cj:=⟨⟨[],[],[],[],[],[]⟩,[],[],false⟩
def s51:dL:=
 sO [oQ (.alloc [(.int .i64 0),(.str []),(.int .i64 0)]) 4,
 oP (.cy (kB false)) 5]
 (.seq (sO [oM 0 10,
 oM 1 11,
 oP (.ic (.t 10) (.t 11)) 12,
 oM 12 6]
 (.block 0 (sO [oM 6 14,
 oD 51 [.t 14] 15,
 oM 15 13]
 (.cond (.t 13)
 (sO [oM 0 16,
 oM 1 17,
 oD 52 [.t 16,.t 17] 18,
 oX 18 0 19,
 oX 18 1 20,
 oS 3 4 19,
 oM 20 5]
 (.ret))
 (sO [oM 6 22,
 oD 53 [.t 22] 23,
 oM 23 21]
 (.cond (.t 21)
 (sO [oM 0 24,
 oM 1 25,
 oM 1 26,
 oM 0 27,
 oM 1 28,
 oD 49 [.t 27,.t 28,.f 54] 29,
 oE .add 26 29 30,
 oQ (.slice .str (.t 24) (some (.t 25)) (some (.t 30)) none) 31,
 oM 31 7]
 (.seq (sO [oM 7 32,
 oD 55 [.t 32] 33]
 (.cond (.t 33)
 (sO [oM 7 34,
 oM 1 35,
 oP (.build [(.int .i64 0),(.str []),(.int .i64 0)] [(0,1,(kI 4)),(1,1,(.t 34)),(2,1,(.t 35))]) 36,
 oS 3 4 36,
 oP (.cy (kB true)) 5]
 (.ret))
 (.skip)))
 (sO [oM 7 37,
 oM 1 38,
 oP (.build [(.int .i64 0),(.str []),(.int .i64 0)] [(0,1,(kI 1)),(1,1,(.t 37)),(2,1,(.t 38))]) 39,
 oM 7 40,
 oW 40 41,
 oH .leq 41 16 42,
 oS 3 4 39,
 oM 42 5]
 (.ret))))
 (.skip)))))))
 (.seq (sO [oD 56 [] 43,
 oZ 43 44,
 oP (.cy (kI 0)) 45]
 (.block 1 (.loop (sO [oE .lss 45 44 46]
 (.seq (.cond (.t 46)
 (.skip)
 (.exit 1))
 (.seq (.block 2 (sO [oI 1 43 45 47,
 oL 47 48,
 oM 48 9]
 (sO [oM 0 49,
 oM 1 50,
 oQ (.slice .str (.t 49) (some (.t 50)) none none) 51,
 oM 9 52,
 oD 48 [.t 51,.t 52] 53]
 (.cond (.t 53)
 (sO [oM 9 54,
 oM 1 55,
 oP (.build [(.int .i64 0),(.str []),(.int .i64 0)] [(0,1,(kI 5)),(1,1,(.t 54)),(2,1,(.t 55))]) 56,
 oS 3 4 56,
 oP (.cy (kB true)) 5]
 (.ret))
 (.skip)))))
 (.ops [oH .add 45 1 57,
 oM 57 45])))))))
 (sO [oP (.build [(.int .i64 0),(.str []),(.int .i64 0)] []) 58,
 oS 3 4 58,
 oP (.cy (kB false)) 5]
 (.ret))))
theorem aff:bJ Tryz.prog 34 p51=some (s51,[.cell 4 (some 3),.tmp 5],59):=by kernel_rfl
def p23:cj:=⟨⟨[],[],[],[],[],[]⟩,[],[],false⟩
def s23:dL:=
 sO [oP (.cy (.c .bg)) 2,
 oP (.cy (kI 0)) 3,
 oP (.cy (kI 0)) 4]
 (.seq (sO [oM 0 9,
 oW 9 10,
 oH .gtr 10 4096 11]
 (.cond (.t 11)
 (sO [oP (.cy (.c .bg)) 2,
 oP (.cy (kI 4096)) 3,
 oP (.cy (kI 3)) 4]
 (.ret))
 (.skip)))
 (sO [oP (.cy (.c .bg)) 5]
 (sO [oM 0 12,
 oD 33 [.t 12,kI 0] 13,
 oM 13 6]
 (.seq (.block 0 (.loop (.seq (sO [oM 6 14,
 oM 0 15,
 oW 15 16,
 oE .lss 14 16 17]
 (.cond (.t 17)
 (.skip)
 (.exit 0)))
 (.block 1 (sO [oM 0 19,
 oM 6 20,
 oD 34 [.t 19,.t 20] 21,
 oM 21 18,
 oX 18 0 22,
 oX 18 1 23,
 oQ (.alloc [(.int .i64 0),(.str []),(.int .i64 0)]) 7,
 oS 3 7 22,
 oM 23 8]
 (.seq (sO [oM 8 24,
 oP (.un .not (.t 24)) 25]
 (.cond (.t 25)
 (sO [oM 6 26,
 oP (.cy (.c .bg)) 2,
 oM 26 3,
 oP (.cy (kI 90)) 4]
 (.ret))
 (.skip)))
 (sO [oM 5 27,
 oJ 3 7 28,
 oP (.buildSlice 3 [(.int .i64 0),(.str []),(.int .i64 0)] 1 [(0,(.t 28))] false) 29,
 oQ (.append 3 32 false (.t 27) (.t 29)) 30,
 oM 30 5]
 (sO [oM 6 31,
 oF 1 7 32,
 oL 32 33,
 oW 33 34,
 oE .add 31 34 35,
 oM 35 6]
 (.ops [oM 6 36,
 oM 0 37,
 oM 6 38,
 oD 33 [.t 37,.t 38] 39,
 oE .add 36 39 40,
 oM 40 6])))))))))
 (sO [oM 5 41,
 oM 0 42,
 oW 42 43,
 oP (.build [(.int .i64 0),(.str []),(.int .i64 0)] [(0,1,(kI 0)),(2,1,(.t 43))]) 44,
 oP (.buildSlice 3 [(.int .i64 0),(.str []),(.int .i64 0)] 1 [(0,(.t 44))] false) 45,
 oQ (.append 3 32 false (.t 41) (.t 45)) 46,
 oM 46 2,
 oP (.cy (kI 0)) 3,
 oP (.cy (kI 0)) 4]
 (.ret))))))
theorem afb:bJ Tryz.prog 20 p23=some (s23,[.tmp 2,.tmp 3,.tmp 4],47):=by kernel_rfl
def lX (l:List UInt8):Int×List UInt8×Bool:=
 if decide (jl isDigit l<l.length) && ((l.getD (jl isDigit l) 0).toNat:Int)==46 then
  (3,l.take (jl isDigit l+1+jl isDigit (l.drop (jl isDigit l+1))),!(decide (jl isDigit (l.drop (jl isDigit l+1))=0) || decide (15<jl isDigit l+jl isDigit (l.drop (jl isDigit l+1)))))
 else (2,l.take (jl isDigit l),oK (l.take (jl isDigit l)))
def gj (k:Int) (s:List UInt8) (a:Int):List D:=[.int .i64 k,.str s,.int .i64 a]
set_option maxHeartbeats 1000000 in
theorem DB (s:List UInt8) (a:Nat) (h1:a≤s.length) (h2:s.length≤100000):aO Tryz.prog 52 [.str s,.int .i64 a] (.tuple [.agg (gj (lX (s.drop a)).1 (lX (s.drop a)).2.1 a),.bool (lX (s.drop a)).2.2]):=by
 refine aO.run JM afp (by simp) fun E=>?_
 have g2:(s.length≤1000000)=True:=by simp; omega
 have g3:((a:Int)≤1000000)=True:=by simp; omega
 have g0:(0≤(a:Int))=True:=by simp
 have hl:=lH isDigit (s.drop a)
 rw [List.length_drop] at hl
 obtain ⟨n,hn⟩:∃n,n=jl isDigit (s.drop a):=⟨_,rfl⟩
 rw [←hn] at hl
 have w1:IntKind.i64.wrap ((a:Int)+(n:Int))=((a+n:Nat):Int):=wrap_add (by omega)
 have e0:(s.drop a).getD n 0=s.getD (a+n) 0:=by simp [List.getD]
 have e1:(s.drop a).drop (n+1)=s.drop (a+n+1):=by rw [List.drop_drop]; rfl
 have e2:(s.drop a).length=s.length - a:=by simp
 have tt:∀k,(s.drop a).take (a+k - a)=(s.drop a).take k:=fun k=>by rw [Nat.add_sub_cancel_left]
 simp only [lX,←hn,e0,e1,e2]
 by_cases c1:a+n<s.length
 ·have g4:(((a+n:Nat):Int)<(s.length:Int))=True:=by simp; omega
  have g4':(n<s.length - a)=True:=by simp; omega
  cases c2:(((s.getD (a+n) 0).toNat:Int)==46) with
  | true=>
   obtain ⟨m,hm⟩:∃m,m=jl isDigit (s.drop (a+n+1)):=⟨_,rfl⟩
   have hl2:=lH isDigit (s.drop (a+n+1))
   rw [List.length_drop,←hm] at hl2
   have w2:IntKind.i64.wrap (((a+n:Nat):Int)+1)=((a+n+1:Nat):Int):=de (by omega)
   have w3:IntKind.i64.wrap (((a+n+1:Nat):Int)+(m:Int))=((a+n+1+m:Nat):Int):=wrap_add (by omega)
   have w4:IntKind.i64.wrap ((n:Int)+(m:Int))=((n+m:Nat):Int):=wrap_add (by omega)
   have g5:(((a+n+1:Nat):Int)≤1000000)=True:=by simp; omega
   have g6:(0≤((a+n+1:Nat):Int))=True:=by simp; omega
   have t2:(s.drop a).take (a+n+1+m - a)=(s.drop a).take (n+1+m):=by congr 1; omega
   simp (maxSteps:=1000000) only [s77,g0,g2,g3,g4,g4',g5,g6,←hn,←hm,w1,w2,w3,w4,t2,c2,Te,kU,decide_true,ox,zz,iH,iF,iE,iG,iD,cond_true,cond_false,seval]
   intro id
   refine ⟨by omega,fun id2 f1 f2 _=>⟨by omega,by omega,?_⟩⟩
   simp (maxSteps:=1000000) only [f1,f2,g4,←hn,w1,c2,t2,tt,List.take_succ_cons,List.take_zero,gj,ox,zz,iH,iF,iE,iG,iD,cond_true,cond_false,seval]
   (repeat' split)<;>dj<;>omega
  | false=>
   simp (maxSteps:=1000000) only [s77,g0,g2,g3,g4,g4',←hn,w1,c2,Te,YA,tt,kU,decide_true,Bool.and_false,ox,zz,iH,iF,iE,iG,iD,cond_true,cond_false,seval]
   intro id
   refine ⟨by omega,fun id2 f1 f2 _=>⟨by omega,?_⟩⟩
   simp (maxSteps:=1000000) only [f1,f2,g4,←hn,w1,c2,tt,List.take_succ_cons,List.take_zero,gj,ox,zz,iH,iF,iE,iG,iD,cond_true,cond_false,seval]
 ·have g4:(((a+n:Nat):Int)<(s.length:Int))=False:=by simp; omega
  have g4':(n<s.length - a)=False:=by simp; omega
  simp (maxSteps:=1000000) only [s77,g0,g2,g3,g4,g4',←hn,w1,Te,YA,tt,kU,decide_false,Bool.false_and,ox,zz,iH,iF,iE,iG,iD,cond_true,cond_false,seval]
  intro id
  refine ⟨by omega,fun id2 f1 f2 _=>?_⟩
  simp (maxSteps:=1000000) only [f1,f2,g4,←hn,w1,tt,List.take_succ_cons,List.take_zero,gj,ox,zz,iH,iF,iE,iG,iD,cond_true,cond_false,seval]
theorem Bq (s:List UInt8) (a:Int) (h:0≤a∧a≤s.length∧s.length≤100000):aO Tryz.prog 52 [.str s,.int .i64 a] (.tuple [.agg (gj (lX (s.drop a.toNat)).1 (lX (s.drop a.toNat)).2.1 a),.bool (lX (s.drop a.toNat)).2.2]):=by
 have:=DB s a.toNat (by omega) h.2.2
 Xs [Int.toNat_of_nonneg h.1] at this
def q77:List D→Option D
 | [.str s,.int .i64 a]=>if 0≤a∧a≤s.length∧s.length≤100000 then some (.tuple [.agg (gj (lX (s.drop a.toNat)).1 (lX (s.drop a.toNat)).2.1 a),.bool (lX (s.drop a.toNat)).2.2]) else none
 | _=>none
theorem Xg (args:List D) (d:D) (h:q77 args=some d):aO Tryz.prog 52 args d:=by
 unfold q77 at h
 split at h
 ·split at h
  ·cases h; exact Bq _ _ (by assumption)
  ·cases h
 ·cases h
def Fa:bm:=EY.dh 52 q77
theorem Qm (g:FuncId) (args:List D):Fa.q g args=if g=52 then q77 args else EY.q g args:=rfl
theorem Qk:Fa.a=EY.a:=rfl
theorem Ql:Fa.c=EY.c:=rfl
theorem Kp:Fa.ok Tryz.prog:=bm.bq JM Xg
theorem Hi:a7% (And.intro (And.intro @Qm (And.intro @Qk @Ql)) @ox):=(And.intro (And.intro @Qm (And.intro @Qk @Ql)) @ox)
def jD:List (List UInt8):=[[58,61],[60,61],[62,61],[61,61],[33,61],[38,38],[124,124],[40],[41],[123],[125],[44],[59],[61],[43],[45],[42],[47],[37],[60],[62],[33]]
theorem Tu:aO Tryz.prog 56 [] (.sl (cM jD)):=by
 refine aO.run Kp afr (by simp) fun E=>?_
 simp only [s79,jD,cM,Hi,zz,iH,iF,iE,iG,iD,cond_true,cond_false,seval]
def q79:List D→Option D
 | []=>if True then some (.sl (cM jD)) else none
 | _=>none
theorem Xi (args:List D) (d:D) (h:q79 args=some d):aO Tryz.prog 56 args d:=by
 unfold q79 at h
 split at h
 ·split at h
  ·cases h; exact Tu
  ·cases h
 ·cases h
def Fb:bm:=Fa.dh 56 q79
theorem Qs (g:FuncId) (args:List D):Fb.q g args=if g=56 then q79 args else Fa.q g args:=rfl
theorem Qq:Fb.a=Fa.a:=rfl
theorem Qr:Fb.c=Fa.c:=rfl
theorem Kq:Fb.ok Tryz.prog:=bm.bq Kp Xi
theorem oy:a7% (And.intro (And.intro @Qs (And.intro @Qq @Qr)) @Hi):=(And.intro (And.intro @Qs (And.intro @Qq @Qr)) @Hi)
def fR (l:List UInt8):List (List UInt8)→Option (List UInt8)
 | []=>none
 | x::xs=>if pre l x=true then some x else fR l xs
def f6 (l:List UInt8):Int×List UInt8×Bool:=
 if isDigit ((l.getD 0 0).toNat:Int)=true then lX l
 else if eD ((l.getD 0 0).toNat:Int)=true then
  (if words.contains (l.take (jl gy l))=true then (4,l.take (jl gy l),true) else (1,l.take (jl gy l),decide (jl gy l≤16)))
 else match fR l jD with
  | some x=>(5,x,true)
  | none=>(0,[],false)
def BD (l:List UInt8) (a:Int):D:=.tuple [.agg (gj (f6 l).1 (f6 l).2.1 (if (f6 l).1=0 then 0 else a)),.bool (f6 l).2.2]
set_option maxHeartbeats 1000000 in
theorem aag (s:List UInt8) (a:Nat) (h1:a<s.length) (h2:s.length≤100000):aO Tryz.prog 34 [.str s,.int .i64 a] (BD (s.drop a) a):=by
 refine aO.run Kq aff (by simp) fun E=>?_
 have g2:(s.length≤100000)=True:=by simp; omega
 have Wa:(s.length≤1000000)=True:=by simp; omega
 have g3:((a:Int)≤(s.length:Int))=True:=by simp; omega
 have g3':((a:Int)≤1000000)=True:=by simp; omega
 have g0:(0≤(a:Int))=True:=by simp
 have e0:(s.drop a).getD 0 0=s.getD a 0:=by simp [List.getD]
 have ts:(s.drop a).take (s.length - a)=s.drop a:=List.take_of_length_le (by simp)
 simp only [BD,f6,e0]
 cases c1:isDigit ((s.getD a 0).toNat:Int) with
 | true=>
  have k0:((lX (s.drop a)).1=0)=False:=by simp only [lX]; split<;>simp
  simp (maxSteps:=1000000) only [s51,g0,g2,g3,c1,k0,q77,Td,gj,List.take_succ_cons,List.take_zero,oy,zz,iH,iF,iE,iG,iD,cond_true,cond_false,seval]
  omega
 | false=>
  cases c2:eD ((s.getD a 0).toNat:Int) with
  | true=>
   obtain ⟨m,hm⟩:∃m,m=jl gy (s.drop a):=⟨_,rfl⟩
   have hl:=lH gy (s.drop a)
   rw [List.length_drop,←hm] at hl
   have w1:IntKind.i64.wrap ((a:Int)+(m:Int))=((a+m:Nat):Int):=wrap_add (by omega)
   have e3:a+m - a=m:=by omega
   have lm:((s.drop a).take m).length=m:=by simp; omega
   have dm:decide ((m:Int)≤16)=decide (m≤16):=decide_eq_decide.2 (by omega)
   cases c3:words.contains ((s.drop a).take m)<;>
    simp (maxSteps:=1000000) only [s51,g0,g2,Wa,g3,g3',c1,c2,c3,←hm,w1,e3,lm,dm,W5,Td,Te,q40,kU,gj,List.take_succ_cons,List.take_zero,oy,zz,iH,iF,iE,iG,iD,cond_true,cond_false,seval]
   ·omega
   ·omega
  | false=>
   have ls:(cM jD).length=22:=rfl
   simp (maxSteps:=1000000) only [s51,g0,g2,g3,c1,c2,ls,W5,Td,q79,gj,List.take_succ_cons,List.take_zero,oy,zz,iH,iF,iE,iG,iD,cond_true,cond_false,seval]
   intro id
   refine ⟨by omega,?_⟩
   refine c6 (X:=Nat) (fun i=>[(0,.str s),(1,.int .i64 a),(4,.ptr id 1 0),(43,.sl (cM jD)),(44,.int .i64 22),(45,.int .i64 i)]) (fun _=>aa.emp.set id (.cells [.int .i64 0,.str [],.int .i64 0])) (fun i=>22 - i)
    (fun i=>i≤22∧fR (s.drop a) (jD.drop i)=fR (s.drop a) jD) 0 (by simp) ?_ (aa.aU _) ?_
   ·simp only [zz,iH,iF,iE,iG,iD,cond_true,cond_false,seval]
   ·rintro i Q ⟨i1,i2⟩ hQ
    have wi:IntKind.i64.wrap ((i:Int)+1)=((i+1:Nat):Int):=de (by omega)
    by_cases c4:i<22
    ·have g4:((i:Int)<22)=True:=by simp; omega
     have lsl:jD.length=22:=rfl
     obtain ⟨x,hx⟩:∃x,jD[i]? =some x:=by rw [List.getElem?_eq_getElem (by omega)]; exact ⟨_,rfl⟩
     rw [CC hx] at i2
     simp only [fR] at i2
     cases c5:pre (s.drop a) x with
     | true=>
      rw [if_pos c5] at i2
      simp (maxSteps:=1000000) only [g0,g3,g4,wi,ts,hx,c5,←i2,sc,Xc,List.take_succ_cons,List.take_zero,oy,zz,iH,iF,iE,iG,iD,cond_true,cond_false,seval]
      omega
     | false=>
      rw [if_neg (by rw [c5]; exact Bool.false_ne_true)] at i2
      simp (maxSteps:=1000000) only [g0,g3,g4,wi,ts,hx,c5,sc,Xc,List.take_succ_cons,List.take_zero,oy,zz,iH,iF,iE,iG,iD,cond_true,cond_false,seval]
      refine ⟨by omega,?_⟩
      refine hQ (i+1) _ _ ⟨by omega,i2⟩ ?_ (aa.aU _) (by omega)
      simp only [zz,iH,iF,iE,iG,iD,cond_true,cond_false,seval]
    ·have g4:((i:Int)<22)=False:=by simp; omega
     have e:jD.drop i=[]:=List.drop_of_length_le (by simp [jD]; omega)
     rw [e,fR] at i2
     simp (maxSteps:=1000000) only [g4,←i2,List.take_succ_cons,List.take_zero,oy,zz,iH,iF,iE,iG,iD,cond_true,cond_false,seval]
theorem WX (s:List UInt8) (a:Int) (h:0≤a∧a<s.length∧s.length≤100000):aO Tryz.prog 34 [.str s,.int .i64 a] (BD (s.drop a.toNat) a):=by
 have:=aag s a.toNat (by omega) h.2.2
 Xs [Int.toNat_of_nonneg h.1] at this
def S9:List D→Option D
 | [.str s,.int .i64 a]=>if 0≤a∧a<s.length∧s.length≤100000 then some (BD (s.drop a.toNat) a) else none
 | _=>none
theorem W2 (args:List D) (d:D) (h:S9 args=some d):aO Tryz.prog 34 args d:=by
 unfold S9 at h
 split at h
 ·split at h
  ·cases h; exact WX _ _ (by assumption)
  ·cases h
 ·cases h
def Tz:bm:=Fb.dh 34 S9
theorem PU (g:FuncId) (args:List D):Tz.q g args=if g=34 then S9 args else Fb.q g args:=rfl
theorem PQ:Tz.a=Fb.a:=rfl
theorem PT:Tz.c=Fb.c:=rfl
theorem TA:Tz.ok Tryz.prog:=bm.bq Kq W2
theorem mP:a7% (And.intro (And.intro @PU (And.intro @PQ @PT)) @oy):=(And.intro (And.intro @PU (And.intro @PQ @PT)) @oy)
end Go.Proofs.YtpklkpkfgmoghaaGreatDoor.Zz
namespace Go.Proofs.YtpklkpkfgmoghaaGreatDoor.Zz
abbrev cH:=Int×List UInt8×Int
def lP (l:List cH):List (List D):=l.map fun t=>gj t.1 t.2.1 t.2.2
theorem lV {l:List cH}:(lP l).length=l.length:=by simp [lP]
theorem CH {l:List cH} {k:Int} {s:List UInt8} {a:Int}:lP l++[[.int .i64 k,.str s,.int .i64 a]]=lP (l++[(k,s,a)]):=by simp [lP,gj]
theorem nG:lP []=[]:=rfl
theorem Ba {l:List cH}:l≠[]→lP l≠[]:=by cases l<;>simp [lP]
def pS:Nat→Nat→List UInt8→List cH→List cH×Nat×Int
 | 0,_,_,out=>(out,0,0)
 | n+1,p,l,out=>
  if l=[] then (out++[(0,[],(p:Int))],0,0)
  else if (f6 l).2.2=false then ([],p,90)
  else pS n (p+(f6 l).2.1.length+dO (l.drop (f6 l).2.1.length)) (l.drop ((f6 l).2.1.length+dO (l.drop (f6 l).2.1.length))) (out++[((f6 l).1,(f6 l).2.1,(p:Int))])
def tokens (s:List UInt8):List cH×Nat×Int:=if 4096<s.length then ([],4096,3) else pS (s.length+1) (dO s) (s.drop (dO s)) []
theorem pE:∀{l:List UInt8} {xs:List (List UInt8)} {x:List UInt8},fR l xs=some x→x∈xs∧pre l x=true
 | l,[],x,h=>by cases h
 | l,y::xs,x,h=>by
  simp only [fR] at h
  split at h
  ·ab hp; cases h; exact ⟨by simp,hp⟩
  ·have:=pE h
   exact ⟨by simp [this.1],this.2⟩
theorem BN {p:Int→Bool} {l:List UInt8} (hl:0<l.length) (h:p ((l.getD 0 0).toNat:Int)=true):0<jl p l:=by
 cases l with
 | nil=>simp at hl
 | cons c l=>rw [ky,if_pos (by simpa using h)]; omega
theorem Il {l:List UInt8} (hl:0<l.length) (h:(f6 l).2.2=true):1≤(f6 l).2.1.length∧(f6 l).2.1.length≤l.length∧(f6 l).2.1=l.take (f6 l).2.1.length∧(f6 l).1≠0:=by
 have tk:∀k:Nat,k≤l.length→1≤k→1≤(l.take k).length∧(l.take k).length≤l.length∧l.take k=l.take (l.take k).length:=fun k h1 h2=>by
  have e:(l.take k).length=k:=by simp; omega
  rw [e]; exact ⟨h2,h1,rfl⟩
 have t3:∀{k:Nat} {x:Int},k≤l.length→1≤k→x≠0→1≤(l.take k).length∧(l.take k).length≤l.length∧l.take k=l.take (l.take k).length∧x≠0:=fun h1 h2 h3=>⟨(tk _ h1 h2).1,(tk _ h1 h2).2.1,(tk _ h1 h2).2.2,h3⟩
 unfold f6 at h ⊢
 split
 ·ab hd
  rw [if_pos hd] at h
  have h1:=BN hl hd
  have h2:=lH isDigit l
  have h3:=lH isDigit (l.drop (jl isDigit l+1))
  rw [List.length_drop] at h3
  unfold lX at h ⊢
  split
  ·ab hc
   simp only [Bool.and_eq_true,decide_eq_true_eq] at hc
   exact t3 (by omega) (by omega) (by simp)
  ·exact t3 h2 h1 (by simp)
 ·ab hd
  rw [if_neg hd] at h
  split
  ·ab ht
   rw [if_pos ht] at h
   have h1:=BN (p:=gy) hl (by simp only [gy,ht,Bool.true_or])
   have h2:=lH gy l
   split
   ·exact t3 h2 h1 (by simp)
   ·exact t3 h2 h1 (by simp)
  ·ab ht
   rw [if_neg ht] at h
   cases hf:fR l jD with
   | none=>rw [hf] at h; cases h
   | some x=>
    obtain ⟨m,hp⟩:=pE hf
    simp only [pre,beq_iff_eq] at hp
    have hx:1≤x.length:=by
     revert m; unfold jD; intro m
     simp only [List.mem_cons,List.not_mem_nil,or_false] at m
     rcases m with rfl | rfl | rfl | rfl | rfl | rfl | rfl | rfl | rfl | rfl | rfl | rfl | rfl | rfl | rfl | rfl | rfl | rfl | rfl | rfl | rfl | rfl<;>decide
    refine ⟨hx,?_,hp.symm,by simp⟩
    have:=congrArg List.length hp
    rw [List.length_take] at this
    simp only
    omega
set_option maxHeartbeats 1000000 in
theorem QJ (s:List UInt8):aO Tryz.prog 20 [.str s] (.tuple [.sl (lP (tokens s).1),.int .i64 (tokens s).2.1,.int .i64 (tokens s).2.2]):=by
 refine aO.run TA afb (by simp) fun E=>?_
 unfold tokens
 by_cases c0:4096<s.length
 ·have g1:((s.length:Int)>4096)=True:=by simp; omega
  simp only [c0,s23,g1,nG,decide_true,mP,zz,iH,iF,iE,iG,iD,cond_true,cond_false,seval]
  Vw
 ·have h2:s.length≤1000000:=by omega
  have g1:((s.length:Int)>4096)=False:=by simp; omega
  have g2:(s.length≤1000000)=True:=by simp; omega
  have Wa:(s.length≤100000)=True:=by simp; omega
  have g3:(0≤(s.length:Int))=True:=by simp
  simp only [c0,s23,g1,g2,g3,RC,decide_false,mP,zz,iH,iF,iE,iG,iD,cond_true,cond_false,seval]
  intro _
  generalize hR:pS (s.length+1) (dO s) (s.drop (dO s)) []=R
  refine c6 (X:=Nat×List cH×Nat×Nat) (fun x=>[(0,.str s),(5,kJ x.2.2.1 x.2.1.length),(6,.int .i64 x.1)])
   (fun x=>L8 .emp x.2.2.1 3 (lP x.2.1)) (fun x=>x.2.2.2)
   (fun x=>x.1≤s.length∧x.2.1.length≤x.1∧s.length<x.1+x.2.2.2∧pS x.2.2.2 x.1 (s.drop x.1) x.2.1=R) (dO s,[],0,s.length+1) ⟨yr _,by simp,by simp; omega,hR⟩ ?_ ?_ ?_
  ·simp only [kJ,zz,iH,iF,iE,iG,iD,cond_true,cond_false,seval]
  ·exact aa.aU _
  ·rintro ⟨p,out,r,n⟩ Q ⟨i1,i2,i3,i4⟩ hQ
   simp only at i1 i2 i3 i4 hQ ⊢
   obtain ⟨n,rfl⟩:∃n',n=n'+1:=⟨n - 1,by omega⟩
   simp only [pS] at i4
   by_cases c1:p<s.length
   ·have iC:s.drop p≠[]:=by simp; omega
    rw [if_neg iC] at i4
    have g4:((p:Int)<(s.length:Int))=True:=by simp; omega
    have g5:(0≤(p:Int))=True:=by simp
    cases c2:(f6 (s.drop p)).2.2 with
    | false=>
     rw [if_pos c2] at i4
     simp only [Wa,g4,g5,c2,BD,gj,S9,RC,←i4,nG,decide_true,mP,zz,iH,iF,iE,iG,iD,cond_true,cond_false,seval]
    | true=>
     rw [if_neg (by rw [c2]; exact Bool.noConfusion)] at i4
     obtain ⟨b1,b2,b3,b4⟩:=Il (by simp; omega) c2
     have lb:=yr ((s.drop p).drop (f6 (s.drop p)).2.1.length)
     have eb:s.drop (p+(f6 (s.drop p)).2.1.length)=(s.drop p).drop (f6 (s.drop p)).2.1.length:=by rw [List.drop_drop]
     rcases Oc:f6 (s.drop p) with ⟨kd,tx,ok⟩
     simp only [Oc] at i4 c2 b1 b2 b3 b4 lb eb
     subst c2
     obtain ⟨bl,Da⟩:∃bl,bl=dO ((s.drop p).drop tx.length):=⟨_,rfl⟩
     rw [←Da] at i4 lb
     simp only [List.length_drop] at lb b2
     have w1:IntKind.i64.wrap ((p:Int)+(tx.length:Int))=((p+tx.length:Nat):Int):=wrap_add (by omega)
     have w2:IntKind.i64.wrap (((p+tx.length:Nat):Int)+(bl:Int))=((p+tx.length+bl:Nat):Int):=wrap_add (by omega)
     have g6:(((p+tx.length:Nat):Int)≤(s.length:Int))=True:=by simp; omega
     have g7:(0≤((p+tx.length:Nat):Int))=True:=by simp; omega
     have ed:s.drop (p+tx.length+bl)=(s.drop p).drop (tx.length+bl):=by rw [List.drop_drop,Nat.add_assoc]
     by_cases ho:out=[]
     ·subst ho
      simp only [g2,Wa,g4,g5,b4,Oc,nG,fX,nX,BD,gj,S9,RC,List.take_succ_cons,List.take_zero,decide_true,mP,zz,iH,iF,iE,iG,iD,cond_true,cond_false,seval]
      intro _ id id2 f1 f2
      simp only [g2,Wa,g4,g5,g6,g7,b4,Oc,f1,f2,w1,w2,eb,←Da,nG,fX,nX,BD,gj,S9,RC,List.take_succ_cons,List.take_zero,decide_true,mP,zz,iH,iF,iE,iG,iD,cond_true,cond_false,seval]
      intro _
      refine hQ (p+tx.length+bl,[(kd,tx,(p:Int))],id2,n) _ _ ⟨by simp only; omega,by simp only [List.length_singleton]; omega,by simp only; omega,by simp only [ed]; exact i4⟩ ?_ ?_ (Nat.lt_succ_self n)
      ·simp only [kJ,zz,iH,iF,iE,iG,iD,cond_true,cond_false,seval]
      ·simp only [L8,lP,gj,zz,iH,iF,iE,iG,iD,cond_true,cond_false,seval]
       exact aa.dV (by repeat' first | ax exact aa.bK | ax exact aa.bO | refine aa.cU (by simp [f1,f2]) ?_ | refine aa.cZ (by simp [f1,f2]) ?_)
     ·have Uc:=Ba ho
      have ho3:out.length≠0:=fun h=>ho (List.length_eq_zero_iff.1 h)
      simp only [g2,Wa,g4,g5,b4,Oc,cB ho3,km Uc,lV,BD,gj,S9,RC,List.take_succ_cons,List.take_zero,decide_true,mP,zz,iH,iF,iE,iG,iD,cond_true,cond_false,seval]
      intro _ id f1 f2
      have h3:(∀y∈[[D.int IntKind.i64 kd,D.str tx,D.int IntKind.i64 (p:Int)]],y.length=3∧y.all cf=true):=by simp [cf]
      have a1:(lP out).length=out.length:=lV
      simp only [g2,Wa,g4,g5,g6,g7,b4,Oc,f1,f2,w1,w2,eb,←Da,a1,BD,gj,S9,RC,List.take_succ_cons,List.take_zero,decide_true,mP,zz,iH,iF,iE,iG,iD,cond_true,cond_false,seval]
      refine ⟨by omega,fun _=>?_⟩
      have ho5:out.length+1≠0:=by simp
      refine hQ (p+tx.length+bl,out++[(kd,tx,(p:Int))],r,n) _ _ ⟨by simp only; omega,by simp only [List.length_append,List.length_singleton]; omega,by simp only; omega,by simp only [ed]; exact i4⟩ ?_ ?_ (Nat.lt_succ_self n)
      ·have e9:out.length+2+1=out.length+1+2:=by omega
       simp only [cB ho5,List.length_append,e9,zz,iH,iF,iE,iG,iD,cond_true,cond_false,seval]
      ·have e9:out.length+1+2=out.length+2+1:=by omega
       rw [km (Ba (List.append_ne_nil_of_right_ne_nil out (List.cons_ne_nil _ _))),lV,←CH,List.length_append,List.length_singleton,e9]
       exact aa.dV (by repeat' first | ax exact aa.bK | ax exact aa.bO | refine aa.cU (by simp [f1,f2]) ?_ | refine aa.cZ (by simp [f1,f2]) ?_)
   ·have g4:((p:Int)<(s.length:Int))=False:=by simp; omega
    have e:s.drop p=[]:=List.drop_of_length_le (by omega)
    have hp:p=s.length:=by omega
    subst hp
    rw [if_pos e] at i4
    by_cases ho:out=[]
    ·subst ho
     simp only [g4,←i4,nG,fX,nX,List.take_succ_cons,List.take_zero,decide_false,mP,zz,iH,iF,iE,iG,iD,cond_true,cond_false,seval]
     exact fun _ _=>rfl
    ·have Uc:=Ba ho
     have ho3:out.length≠0:=fun h=>ho (List.length_eq_zero_iff.1 h)
     simp only [g4,←i4,cB ho3,km Uc,lV,List.take_succ_cons,List.take_zero,decide_false,mP,zz,iH,iF,iE,iG,iD,cond_true,cond_false,seval]
     have a2:(lP (out++[(0,[],(s.length:Int))])).take (out.length+1)=lP (out++[(0,[],(s.length:Int))]):=List.take_of_length_le (by rw [lV]; simp)
     have a3:out.length+1≤(lP (out++[(0,[],(s.length:Int))])).length:=by rw [lV]; simp
     rw [CH,a2,if_pos a3]
     exact fun _ _=>⟨by omega,rfl⟩
end Go.Proofs.YtpklkpkfgmoghaaGreatDoor.Zz
namespace Go.Proofs.YtpklkpkfgmoghaaGreatDoor.Zz
inductive Nd where
 | mk (k t:Int) (s:List UInt8) (n:Int) (l:List Nd)
mutual
def Nd.enc:Nd→List D
 | .mk k t s n l=>[.int .i64 k,.int .i64 t,.str s,.int .i64 n,.sl (Nd.cW l)]
def Nd.cW:List Nd→List (List D)
 | []=>[]
 | x::l=>Nd.enc x::Nd.cW l
end
mutual
def Nd.dz:Nd→Nat
 | .mk k t s n l=>1+Nd.fJ l
def Nd.fJ:List Nd→Nat
 | []=>0
 | x::l=>Nd.dz x+Nd.fJ l
end
theorem aT (k t:Int) (s:List UInt8) (n:Int) (l:List Nd):Nd.enc (.mk k t s n l)=[.int .i64 k,.int .i64 t,.str s,.int .i64 n,.sl (Nd.cW l)]:=by rw [Nd.enc]
theorem bA:Nd.cW []=[]:=by rw [Nd.cW]
theorem cz (x:Nd) (l:List Nd):Nd.cW (x::l)=Nd.enc x::Nd.cW l:=by rw [Nd.cW]
theorem fj:∀l:List Nd,Nd.cW l=l.map Nd.enc
 | []=>by rw [bA]; rfl
 | x::l=>by rw [cz,fj l]; rfl
theorem bn (k t:Int) (s:List UInt8) (n:Int) (l:List Nd):Nd.dz (.mk k t s n l)=1+Nd.fJ l:=by rw [Nd.dz]
theorem aZ:Nd.fJ []=0:=by rw [Nd.fJ]
theorem aS (x:Nd) (l:List Nd):Nd.fJ (x::l)=Nd.dz x+Nd.fJ l:=by rw [Nd.fJ]
theorem HH (x:Nd):0<x.dz:=by cases x; rw [bn]; omega
theorem CA:∀{l:List Nd} {x:Nd},x∈l→x.dz≤Nd.fJ l
 | y::l,x,h=>by
  rw [aS]
  rcases List.mem_cons.1 h with e | e
  ·rw [e]; omega
  ·have:=CA e; omega
theorem oT {k t:Int} {s:List UInt8} {n:Int} {l:List Nd} {x:Nd} (h:x∈l):x.dz<Nd.dz (.mk k t s n l):=by
 rw [bn]
 have:=CA h
 omega
theorem nC (l r:List Nd):Nd.fJ (l++r)=Nd.fJ l+Nd.fJ r:=by
 induction l with
 | nil=>rw [List.nil_append,aZ]; omega
 | cons x l ih=>rw [List.cons_append,aS,aS,ih]; omega
theorem aq (x:Nd):x.enc.length=5:=by cases x; rw [aT]; rfl
theorem ay (x:Nd):x.enc.all cf=true:=by cases x; rw [aT]; rfl
theorem aj (x:Nd):x.enc.map fc=x.enc:=by cases x; rw [aT]; rfl
theorem aX (l:List Nd):(Nd.cW l).length=l.length:=by rw [fj,List.length_map]
theorem NT {l:List Nd} {i:Nat} {x:Nd} (h:l[i]? =some x):(Nd.cW l)[i]? =some x.enc:=by rw [fj,List.getElem?_map,h]; rfl
theorem NS (l r:List Nd):Nd.cW (l++r)=Nd.cW l++Nd.cW r:=by rw [fj,fj,fj,List.map_append]
theorem j8 (l:List Nd) (x:Nd):Nd.cW l++[x.enc]=Nd.cW (l++[x]):=by rw [NS,cz,bA]
theorem Nd.ind {P:Nd→Prop} (h:∀x,(∀y:Nd,y.dz<x.dz→P y)→P x) (x:Nd):P x:=by
 have key:∀n,∀x:Nd,x.dz≤n→P x:=by
  intro n
  induction n with
  | zero=>intro x hx; have:=HH x; omega
  | succ n ih=>intro x hx; exact h x fun y hy=>ih y (by omega)
 exact key _ x (Nat.le_refl _)
theorem p8 {α β:Type} {f:α→β}:∀{l r:List α},(∀x∈l,∀y,f x=f y→x=y)→l.map f=r.map f→l=r
 | [],[],_,_=>rfl
 | [],_::_,_,h=>by cases h
 | _::_,[],_,h=>by cases h
 | x::l,y::r,hf,h=>by
  simp only [List.map_cons,List.cons.injEq] at h
  rw [hf x (by simp) y h.1,p8 (fun z hz=>hf z (by simp [hz])) h.2]
theorem HQ:∀x y:Nd,x.enc=y.enc→x=y:=by
 intro x
 induction x using Nd.ind with
 | h x ih=>
  intro y e
  obtain ⟨k,t,s,n,l⟩:=x
  obtain ⟨k',t',s',n',l'⟩:=y
  rw [aT,aT] at e
  simp only [List.cons.injEq,D.int.injEq,D.str.injEq,D.sl.injEq,true_and,and_true] at e
  obtain ⟨rfl,rfl,rfl,rfl,e⟩:=e
  rw [fj,fj] at e
  rw [p8 (fun x hx y=>ih x (oT hx) y) e]
open Classical in
noncomputable def vA (ds:List D):Option Nd:=if h:∃x:Nd,x.enc=ds then some (Classical.choose h) else none
theorem kg (x:Nd):vA x.enc=some x:=by
 unfold vA
 rw [dif_pos ⟨x,rfl⟩]
 congr 1
 exact HQ _ _ (Classical.choose_spec (⟨x,rfl⟩:∃y:Nd,y.enc=x.enc))
theorem iU {ds:List D} {x:Nd} (h:vA ds=some x):ds=x.enc:=by
 unfold vA at h
 split at h
 ·ab hx
  cases h
  exact (Classical.choose_spec hx).symm
 ·cases h
theorem NU {l r:List Nd} (h:Nd.cW l=Nd.cW r):l=r:=by
 rw [fj,fj] at h
 exact p8 (fun x _ y=>HQ x y) h
open Classical in
noncomputable def vB (ds:List (List D)):Option (List Nd):=if h:∃x:List Nd,Nd.cW x=ds then some (Classical.choose h) else none
theorem yE (x:List Nd):vB (Nd.cW x)=some x:=by
 unfold vB
 rw [dif_pos ⟨x,rfl⟩]
 congr 1
 exact NU (Classical.choose_spec (⟨x,rfl⟩:∃y:List Nd,Nd.cW y=Nd.cW x))
theorem pU {ds:List (List D)} {x:List Nd} (h:vB ds=some x):ds=Nd.cW x:=by
 unfold vB at h
 split at h
 ·ab hx
  cases h
  exact (Classical.choose_spec hx).symm
 ·cases h
theorem iR {K:D→aa→Prop} {h:aa} {l:List Nd} {i:Nat} {x:Nd} (e:l[i]? =some x):iI 5 K h (Nd.cW l) (i:Int)=K (.c8 x.enc 0) h:=by
 have h1:=(List.getElem?_eq_some_iff.1 e).1
 have h2:(0≤(i:Int)∧(i:Int)<((Nd.cW l).length:Int)):=by rw [aX]; omega
 simp only [iI,h2,Int.toNat_natCast,NT e,Option.some.injEq]
 apply propext
 constructor
 ·intro k; exact (k.2 _ rfl).2
 ·intro k; exact ⟨by simp,fun y hy=>by rw [←hy]; exact ⟨aq x,k⟩⟩
theorem ak (x:Nd):gz x.enc 0 (some 5)=some (.agg x.enc):=by
 have:=aq x
 simp only [gz,List.drop_zero]
 rw [if_pos (by omega),List.take_of_length_le (by omega)]
theorem Hz {sz b r:Nat} {xs:List (List D)} {y:List D} {h:aa} {K:D→aa→Prop} (hr:xs≠[]→h.f r=some (.row sz (xs.length+2) xs false)) (hy:y.length=sz∧y.all cf=true) (hb:0<b) (hn:(xs.length+1)*b≤140737488355328)
  (hk:∀r',(xs=[]→h.f r'=none)→(xs≠[]→r'=r)→K (kJ r' (xs.length+1)) (h.set r' (.row sz (xs.length+1+2) (xs++[y]) false))):F0 sz b (kJ r xs.length) h K (some [y]):=by
 by_cases h0:xs=[]
 ·subst h0
  rw [List.length_nil,fX,AO]
  refine ⟨by simpa using hy,hb,by simp,by simpa using hn,fun _ id fE=>?_⟩
  have:=hk id (fun _=>fE) (fun h=>absurd rfl h)
  simpa [kJ] using this
 ·have hl:xs.length≠0:=fun h=>h0 (List.length_eq_zero_iff.1 h)
  rw [cB hl,AP,hr h0,ve]
  refine ⟨by simpa using hy,hb,rfl,rfl,rfl,rfl,by simpa using hn,?_⟩
  have:=hk r (fun h=>absurd h h0) (fun _=>rfl)
  rw [cB (by omega)] at this
  have e:xs.length+2+[y].length=xs.length+1+2:=by simp
  rw [e]
  exact this
end Go.Proofs.YtpklkpkfgmoghaaGreatDoor.Zz
