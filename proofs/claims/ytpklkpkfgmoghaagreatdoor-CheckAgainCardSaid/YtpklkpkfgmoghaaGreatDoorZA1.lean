/- Contracts: lex: words, numbers. -/
import Derived.Test.YtpklkpkfgmoghaaGreatDoorZL1
set_option linter.unnecessarySimpa false
set_option linter.unusedVariables false
set_option linter.unusedSimpArgs false
set_option maxRecDepth 20000
namespace Go.Proofs.YtpklkpkfgmoghaaGreatDoor.Zz
def p80:cm:=⟨⟨[],[],[],[],[],[]⟩,[],[],false⟩
def s80:dU:=
 sO [oP (.cB (kI 0)) 4]
 (.seq (sO [oM 0 6,
 oZ 6 7,
 oP (.cB (kI 0)) 8]
 (.block 0 (.loop (sO [oE .lss 8 7 9]
 (.seq (.cond (.t 9)
 (.skip)
 (.exit 0))
 (.seq (.block 1 (sO [oM 8 10,
 oM 10 5]
 (sO [oM 1 11,
 oM 0 12,
 oM 5 13,
 oI 1 12 13 14,
 oL 14 15,
 oE .eql 11 15 16]
 (.cond (.t 16)
 (sO [oM 5 17,
 oM 17 4]
 (.ret))
 (.skip)))))
 (.ops [oH .add 8 1 18,
 oM 18 8])))))))
 (sO [oP (.cB (kI (-1))) 4]
 (.ret)))
theorem anU:bA Tryz.prog 97 p80=some (s80,[.tmp 4],19):=by kernel_rfl
def p64:cm:=⟨⟨[],[],[],[],[],[]⟩,[],[],false⟩
def s64:dU:=
 sO [oP (.cB (kB false)) 4]
 (sO [oM 0 5,
 oM 1 6,
 oD 97 [.t 5,.t 6] 7,
 oH .geq 7 0 8,
 oM 8 4]
 (.ret))
theorem anL:bA Tryz.prog 79 p64=some (s64,[.tmp 4],9):=by kernel_rfl
def p65:cm:=⟨⟨[],[],[],[],[],[]⟩,[],[],false⟩
def s65:dU:=
 sO [oP (.cB (.c .aZ)) 0]
 (sO [oP (.buildSlice 1 [(.str [])] 14 [(0,(kS [102,117,110,99])),(1,(kS [116,101,115,116])),(2,(kS [118,97,114])),(3,(kS [105,102])),(4,(kS [101,108,115,101])),(5,(kS [102,111,114])),(6,(kS [114,101,116,117,114,110])),(7,(kS [97,115,115,101,114,116])),(8,(kS [115,107,105,112])),(9,(kS [116,114,117,101])),(10,(kS [102,97,108,115,101])),(11,(kS [105,110,116])),(12,(kS [102,108,111,97,116])),(13,(kS [98,111,111,108]))] false) 1,
 oM 1 0]
 (.ret))
theorem anM:bA Tryz.prog 80 p65=some (s65,[.tmp 0],2):=by kernel_rfl
def p40:cm:=⟨⟨[],[],[],[],[],[]⟩,[],[],false⟩
def s40:dU:=
 sO [oP (.cB (kB false)) 2]
 (sO [oD 80 [] 3,
 oM 0 4,
 oD 79 [.t 3,.t 4] 5,
 oM 5 2]
 (.ret))
theorem anE:bA Tryz.prog 55 p40=some (s40,[.tmp 2],6):=by kernel_rfl
def p85:cm:=⟨⟨[],[],[],[],[],[]⟩,[],[],false⟩
def s85:dU:=
 sO [oP (.cB (kB false)) 2]
 (.seq (sO [oM 0 3,
 oW 3 4,
 oH .gtr 4 1 5,
 oM 5 6,
 oG (.cB (.t 0)) 7 6 true true,
 oG (.jS (.t 7) (kI 0)) 8 6 true true,
 oG (.bin .eql (.t 8) (.c (.int .u8 48))) 9 6 true true,
 oP (.pick (.t 6) (.t 9) (kB false)) 10,
 oM 10 11,
 oG (.cB (.t 0)) 12 11 false true,
 oG (.len .str (.t 12)) 13 11 false false,
 oG (.bin .gtr (.t 13) (kI 19)) 14 11 false true,
 oP (.pick (.t 11) (kB true) (.t 14)) 15]
 (.cond (.t 15)
 (sO [oP (.cB (kB false)) 2]
 (.ret))
 (.skip)))
 (sO [oM 0 16,
 oW 16 17,
 oH .lss 17 19 18,
 oM 18 19,
 oG (.cB (.t 0)) 20 19 false true,
 oG (.bin .leq (.t 20) (kS [57,50,50,51,51,55,50,48,51,54,56,53,52,55,55,53,56,48,55])) 21 19 false true,
 oP (.pick (.t 19) (kB true) (.t 21)) 22,
 oM 22 2]
 (.ret)))
theorem anW:bA Tryz.prog 78 p85=some (s85,[.tmp 2],23):=by kernel_rfl
def p50:cm:=⟨⟨[],[],[],[],[],[]⟩,[],[],false⟩
def s50:dU:=
 sO [oP (.cB (kI 0)) 4]
 (sO [oM 1 6,
 oM 6 5]
 (.seq (.block 0 (.loop (.seq (sO [oM 1 7,
 oM 0 8,
 oW 8 9,
 oE .lss 7 9 10]
 (.cond (.t 10)
 (.skip)
 (.exit 0)))
 (.block 1 (.block 2 (sO [oM 0 15,
 oM 1 16,
 oP (.jS (.t 15) (.t 16)) 17,
 oP (.bin .eql (.t 17) (.c (.int .u8 32))) 18,
 oM 18 19,
 oG (.cB (.t 0)) 20 19 false true,
 oG (.cB (.t 1)) 21 19 false true,
 oG (.jS (.t 20) (.t 21)) 22 19 false true,
 oG (.bin .eql (.t 22) (.c (.int .u8 9))) 23 19 false true,
 oP (.pick (.t 19) (kB true) (.t 23)) 24,
 oM 24 25,
 oG (.cB (.t 0)) 26 25 false true,
 oG (.cB (.t 1)) 27 25 false true,
 oG (.jS (.t 26) (.t 27)) 28 25 false true,
 oG (.bin .eql (.t 28) (.c (.int .u8 10))) 29 25 false true,
 oP (.pick (.t 25) (kB true) (.t 29)) 30,
 oM 30 14]
 (.cond (.t 14)
 (.ops [oM 1 31,
 oH .add 31 1 32,
 oM 32 1])
 (sO [oM 0 34,
 oM 1 35,
 oQ (.slice .str (.t 34) (some (.t 35)) none none) 36,
 oD 48 [.t 36,(kS [47,47])] 37,
 oM 37 33]
 (.cond (.t 33)
 (.ops [oM 1 38,
 oM 0 39,
 oM 1 40,
 oD 49 [.t 39,.t 40,.f 50] 41,
 oE .add 38 41 42,
 oM 42 1])
 (sO [oM 1 11,
 oM 5 12,
 oE .sub 11 12 13,
 oM 13 4]
 (.ret)))))))))))
 (sO [oM 1 43,
 oM 5 44,
 oE .sub 43 44 45,
 oM 45 4]
 (.ret))))
theorem anG:bA Tryz.prog 33 p50=some (s50,[.tmp 4],46):=by kernel_rfl
def idx (v:List UInt8):List (List UInt8)→Nat→Int
 | [],_=> -1
 | x::l,i=>if v=x then i else idx v l (i+1)
theorem NN (v:List UInt8):∀(l:List (List UInt8)) (i:Nat),decide (idx v l i≥0)=l.contains v
 | [],i=>by simp [idx]
 | x::l,i=>by
  simp only [idx,List.contains_cons]
  split
  ·rename_i e; subst e; simp
  ·rename_i e
   rw [NN v l (i+1)]
   have:(v==x)=false:=by simp [e]
   rw [this]; simp
theorem G6 {α:Type} {l:List α} {i:Nat} {x:α} (h:l[i]? =some x):l.drop i=x::l.drop (i+1):=by
 obtain ⟨h1,h2⟩:=List.getElem?_eq_some_iff.1 h
 rw [List.drop_eq_getElem_cons h1,h2]
theorem ZJ (l:List (List UInt8)) (v:List UInt8) (hl:l.length≤1000000):aV Tryz.prog 97 [.sl (eR l),.str v] (.int .i64 (idx v l 0)):=by
 refine aV.run QA anU (by simp) fun E=>?_
 simp only [s80,gN,zz,kg,kc,ka,ke,j_,cond_true,cond_false,seval]
 intro _
 refine cj (X:=Nat) (fun i=>[(0,.sl (eR l)),(1,.str v),(7,.int .i64 l.length),(8,.int .i64 i)]) (fun _=>aa.emp) (fun i=>l.length - i)
  (fun i=>i≤l.length∧idx v (l.drop i) i=idx v l 0) 0 (by simp) ?_ (aa.aj _) ?_
 ·simp only [zz,kg,kc,ka,ke,j_,cond_true,cond_false,seval]
 ·rintro i Q ⟨i1,i2⟩ hQ
  have wi:IntKind.i64.wrap ((i:Int)+1)=((i+1:Nat):Int):=cp (by omega)
  by_cases c1:i<l.length
  ·have g1:((i:Int)<(l.length:Int))=True:=by simp; omega
   obtain ⟨x,hx⟩:∃x,l[i]? =some x:=by rw [List.getElem?_eq_getElem c1]; exact ⟨_,rfl⟩
   rw [G6 hx] at i2
   simp only [idx] at i2
   simp only [g1,wi,hx,vh,decide_true,zz,kg,kc,ka,ke,j_,cond_true,cond_false,seval]
   refine ⟨by omega,?_⟩
   split
   ·rename_i e
    rw [if_pos (by simpa using e)] at i2
    exact .inl i2
   ·rename_i e
    rw [if_neg (by simpa using e)] at i2
    refine hQ (i+1) _ _ ⟨by omega,i2⟩ ?_ (aa.aj _) (by omega)
    simp only [zz,kg,kc,ka,ke,j_,cond_true,cond_false,seval]
  ·have g1:((i:Int)<(l.length:Int))=False:=by simp; omega
   have e:l.drop i=[]:=List.drop_of_length_le (by omega)
   rw [e] at i2
   simp only [g1,decide_false,zz,kg,kc,ka,ke,j_,cond_true,cond_false,seval]
   exact .inl i2
def q80:List D→Option D
 | [.sl l',.str v]=>match B5 l' with
  | some l=>if l.length≤1000000 then some (.int .i64 (idx v l 0)) else none
  | _=>none
 | _=>none
theorem ae8 (args:List D) (d:D) (h:q80 args=some d):aV Tryz.prog 97 args d:=by
 unfold q80 at h
 split at h
 ·split at h
  ·rename_i e0
   cases lX e0
   split at h
   ·cases h; exact ZJ _ _ (by assumption)
   ·cases h
  ·cases h
 ·cases h
theorem ae7 (l:List (List UInt8)) (v:List UInt8):q80 [.sl (eR l),.str v]=if l.length≤1000000 then some (.int .i64 (idx v l 0)) else none:=by simp only [q80,zR]
def J_:bh:=J6.dR 97 q80
theorem XN (g:FuncId) (args:List D):J_.q g args=if g=97 then q80 args else J6.q g args:=rfl
theorem XL:J_.a=J6.a:=rfl
theorem XM:J_.c=J6.c:=rfl
theorem QT:J_.ok Tryz.prog:=bh.bE QA ae8
theorem MH:type_of% (And.intro (And.intro @XN (And.intro @XL @XM)) @Xu):=(And.intro (And.intro @XN (And.intro @XL @XM)) @Xu)
theorem Lq (l:List (List UInt8)) (v:List UInt8) (hl:l.length≤1000000):aV Tryz.prog 79 [.sl (eR l),.str v] (.bool (l.contains v)):=by
 refine aV.run QT anL (by simp) fun E=>?_
 have g:(l.length≤1000000)=True:=by simp; omega
 simp only [s64,ae7,NN,g,MH,zz,kg,kc,ka,ke,j_,cond_true,cond_false,seval]
def q64:List D→Option D
 | [.sl l',.str v]=>match B5 l' with
  | some l=>if l.length≤1000000 then some (.bool (l.contains v)) else none
  | _=>none
 | _=>none
theorem aeX (args:List D) (d:D) (h:q64 args=some d):aV Tryz.prog 79 args d:=by
 unfold q64 at h
 split at h
 ·split at h
  ·rename_i e0
   cases lX e0
   split at h
   ·cases h; exact Lq _ _ (by assumption)
   ·cases h
  ·cases h
 ·cases h
theorem aeW (l:List (List UInt8)) (v:List UInt8):q64 [.sl (eR l),.str v]=if l.length≤1000000 then some (.bool (l.contains v)) else none:=by simp only [q64,zR]
def JZ:bh:=J_.dR 79 q64
theorem Xk (g:FuncId) (args:List D):JZ.q g args=if g=79 then q64 args else J_.q g args:=rfl
theorem Xi:JZ.a=J_.a:=rfl
theorem Xj:JZ.c=J_.c:=rfl
theorem Qm:JZ.ok Tryz.prog:=bh.bE QT aeX
theorem MC:type_of% (And.intro (And.intro @Xk (And.intro @Xi @Xj)) @MH):=(And.intro (And.intro @Xk (And.intro @Xi @Xj)) @MH)
def words:List (List UInt8):=[[102,117,110,99],[116,101,115,116],[118,97,114],[105,102],[101,108,115,101],[102,111,114],[114,101,116,117,114,110],[97,115,115,101,114,116],[115,107,105,112],[116,114,117,101],[102,97,108,115,101],[105,110,116],[102,108,111,97,116],[98,111,111,108]]
theorem abl:aV Tryz.prog 80 [] (.sl (eR words)):=by
 refine aV.run Qm anM (by simp) fun E=>?_
 simp only [s65,words,eR,MC,zz,kg,kc,ka,ke,j_,cond_true,cond_false,seval]
def q65:List D→Option D
 | []=>if True then some (.sl (eR words)) else none
 | _=>none
theorem aeY (args:List D) (d:D) (h:q65 args=some d):aV Tryz.prog 80 args d:=by
 unfold q65 at h
 split at h
 ·split at h
  ·cases h; exact abl
  ·cases h
 ·cases h
def J1:bh:=JZ.dR 80 q65
theorem Xn (g:FuncId) (args:List D):J1.q g args=if g=80 then q65 args else JZ.q g args:=rfl
theorem Xl:J1.a=JZ.a:=rfl
theorem Xm:J1.c=JZ.c:=rfl
theorem Qq:J1.ok Tryz.prog:=bh.bE Qm aeY
theorem MD:type_of% (And.intro (And.intro @Xn (And.intro @Xl @Xm)) @MC):=(And.intro (And.intro @Xn (And.intro @Xl @Xm)) @MC)
theorem af9 (s:List UInt8):aV Tryz.prog 55 [.str s] (.bool (words.contains s)):=by
 refine aV.run Qq anE (by simp) fun E=>?_
 have g:(words.length≤1000000)=True:=by simp [words]
 simp only [s40,aeW,q65,g,MD,zz,kg,kc,ka,ke,j_,cond_true,cond_false,seval]
def q40:List D→Option D
 | [.str s]=>if True then some (.bool (words.contains s)) else none
 | _=>none
theorem aeM (args:List D) (d:D) (h:q40 args=some d):aV Tryz.prog 55 args d:=by
 unfold q40 at h
 split at h
 ·split at h
  ·cases h; exact af9 _
  ·cases h
 ·cases h
def JP:bh:=J1.dR 55 q40
theorem W0 (g:FuncId) (args:List D):JP.q g args=if g=55 then q40 args else J1.q g args:=rfl
theorem WY:JP.a=J1.a:=rfl
theorem WZ:JP.c=J1.c:=rfl
theorem Pp:JP.ok Tryz.prog:=bh.bE Qq aeM
theorem My:type_of% (And.intro (And.intro @W0 (And.intro @WY @WZ)) @MD):=(And.intro (And.intro @W0 (And.intro @WY @WZ)) @MD)
def mxL:List UInt8:=[57,50,50,51,51,55,50,48,51,54,56,53,52,55,55,53,56,48,55]
def rP (s:List UInt8):Bool:= !(decide (1<s.length) && ((s.getD 0 0).toNat:Int)==48 || decide (19<s.length)) && (decide (s.length<19) || (Op.bytesLess s mxL || s==mxL))
theorem abj (s:List UInt8):aV Tryz.prog 78 [.str s] (.bool (rP s)):=by
 refine aV.run Pp anW (by simp) fun E=>?_
 simp only [s85,jM,My,zz,kg,kc,ka,ke,j_,cond_true,cond_false,seval]
 simp only [or_self,rP,mxL]
 intro _
 by_cases c1:1<s.length
 ·have g1:(s.length:Int)>1:=by omega
  rw [if_pos g1]
  refine ⟨by omega,?_⟩
  by_cases c2:(((s.getD 0 0).toNat:Int)==48)=true
  ·rw [if_pos c2]; simp only [c1,c2]; simp
  ·rw [if_neg c2]
   have c2':(((s.getD 0 0).toNat:Int)==48)=false:=by simpa using c2
   intro _
   by_cases c3:(s.length:Int)>19
   ·have c3':19<s.length:=by omega
    rw [if_pos c3]; simp [c3']
   ·have c3':¬19<s.length:=by omega
    rw [if_neg c3]
    intro _
    by_cases c4:(s.length:Int)<19
    ·have c4':s.length<19:=by omega
     rw [if_pos c4]; simp only [c2',c3',c4']; simp
    ·have c4':¬s.length<19:=by omega
     rw [if_neg c4]; simp only [c2',c3',c4']; simp
 ·have g1:¬(s.length:Int)>1:=by omega
  have c3':¬19<s.length:=by omega
  have c4':s.length<19:=by omega
  rw [if_neg g1]
  intro _
  rw [if_neg (by omega)]
  intro _
  rw [if_pos (by omega)]
  simp only [c1,c3',c4']; simp
def q85:List D→Option D
 | [.str s]=>if True then some (.bool (rP s)) else none
 | _=>none
theorem ae_ (args:List D) (d:D) (h:q85 args=some d):aV Tryz.prog 78 args d:=by
 unfold q85 at h
 split at h
 ·split at h
  ·cases h; exact abj _
  ·cases h
 ·cases h
def Kb:bh:=JP.dR 78 q85
theorem XV (g:FuncId) (args:List D):Kb.q g args=if g=78 then q85 args else JP.q g args:=rfl
theorem XT:Kb.a=JP.a:=rfl
theorem XU:Kb.c=JP.c:=rfl
theorem Q4:Kb.ok Tryz.prog:=bh.bE Pp ae_
theorem BD:type_of% (And.intro (And.intro @XV (And.intro @XT @XU)) @My):=(And.intro (And.intro @XV (And.intro @XT @XU)) @My)
def isSp (c:UInt8):Bool:=(c.toNat:Int)==32 || (c.toNat:Int)==9 || (c.toNat:Int)==10
def lr:Nat→List UInt8→Nat
 | 0,_=>0
 | _+1,[]=>0
 | n+1,c::t=>if isSp c=true then 1+lr n t else if pre (c::t) [47,47]=true then kN (fun n=>n != 10) (c::t)+lr n ((c::t).drop (kN (fun n=>n != 10) (c::t))) else 0
def eK (l:List UInt8):Nat:=lr l.length l
theorem A4 {c:UInt8} {t:List UInt8} (h:pre (c::t) [47,47]=true):0<kN (fun n=>n != 10) (c::t):=by
 have e:c=47:=by
  cases t with
  | nil=>simp [pre] at h
  | cons d t=>simp [pre] at h; exact h.1
 subst e
 rw [mE,if_pos (by decide)]
 omega
theorem qp:∀(n m:Nat) (l:List UInt8),l.length≤n→l.length≤m→lr n l=lr m l
 | 0,0,l,_,_=>rfl
 | 0,m+1,[],_,_=>rfl
 | n+1,0,[],_,_=>rfl
 | n+1,m+1,[],_,_=>rfl
 | 0,_,c::t,h,_=>by simp at h
 | _,0,c::t,_,h=>by simp at h
 | n+1,m+1,c::t,h1,h2=>by
  simp only [List.length_cons] at h1 h2
  simp only [lr]
  split
  ·rw [qp n m t (by omega) (by omega)]
  ·split
   ·rename_i hp
    have:=A4 hp
    rw [qp n m _ (by simp; omega) (by simp; omega)]
   ·rfl
theorem K9:eK []=0:=rfl
theorem kP (c:UInt8) (t:List UInt8):eK (c::t)=if isSp c=true then 1+eK t else if pre (c::t) [47,47]=true then kN (fun n=>n != 10) (c::t)+eK ((c::t).drop (kN (fun n=>n != 10) (c::t))) else 0:=by
 show lr (t.length+1) (c::t)=_
 simp only [lr]
 split
 ·rfl
 ·split
  ·rename_i hp
   have:=A4 hp
   rw [qp t.length _ _ (by simp; omega) (Nat.le_refl _)]
   rfl
  ·rfl
theorem vj:∀(n:Nat) (l:List UInt8),lr n l≤l.length
 | 0,l=>by simp [lr]
 | n+1,[]=>by simp [lr]
 | n+1,c::t=>by
  simp only [lr]
  have h1:=vj n t
  have h2:=vj n ((c::t).drop (kN (fun n=>n != 10) (c::t)))
  have h3:=nX (fun n=>n != 10) (c::t)
  simp only [List.length_drop,List.length_cons] at h2 h3 ⊢
  split
  ·omega
  ·split<;>omega
theorem Cq (l:List UInt8):eK l≤l.length:=vj _ _
theorem YX (s:List UInt8) (a:Nat) (h1:a≤s.length) (h2:s.length≤1000000):aV Tryz.prog 33 [.str s,.int .i64 a] (.int .i64 (eK (s.drop a))):=by
 refine aV.run Q4 anG (by simp) fun E=>?_
 simp only [s50,BD,zz,kg,kc,ka,ke,j_,cond_true,cond_false,seval]
 refine cj (X:=Nat) (fun i=>[(0,.str s),(1,.int .i64 i),(5,.int .i64 a)]) (fun _=>aa.emp) (fun i=>s.length - i)
  (fun i=>a≤i∧i≤s.length∧(i - a)+eK (s.drop i)=eK (s.drop a)) a (by simp; omega) ?_ (aa.aj _) ?_
 ·simp only [zz,kg,kc,ka,ke,j_,cond_true,cond_false,seval]
 ·rintro i Q ⟨i0,i1,i2⟩ hQ
  have wi:IntKind.i64.wrap ((i:Int)+1)=((i+1:Nat):Int):=cp (by omega)
  have ws:IntKind.i64.wrap ((i:Int) - (a:Int))=((i - a:Nat):Int):=by rw [wrap_i64 (by omega) (by omega)]; omega
  by_cases c1:i<s.length
  ·have g1:((i:Int)<(s.length:Int))=True:=by simp; omega
   have g2:(s.length≤1000000)=True:=by simp; omega
   have g3:((i:Int)≤1000000)=True:=by simp; omega
   have g0:(0≤(i:Int))=True:=by simp
   have ts:(s.drop i).take (s.length - i)=s.drop i:=List.take_of_length_le (by simp)
   have hl:=nX (fun n=>n != 10) (s.drop i)
   have wn:IntKind.i64.wrap ((i:Int)+(kN (fun n=>n != 10) (s.drop i):Int))=((i+kN (fun n=>n != 10) (s.drop i):Nat):Int):=wrap_add (by simp at hl; omega)
   simp only [g0,g1,g2,g3,wi,ws,wn,ts,q74,q75,nc,decide_true,BD,zz,kg,kc,ka,ke,j_,cond_true,cond_false,seval]
   rw [drop_cons c1,kP] at i2
   rw [←drop_cons c1] at i2
   have sp:∀(σ:Fr) (h:isSp (s.getD i 0)=true),TL [(0,.str s),(1,.int .i64 (i+1:Nat)),(5,.int .i64 a)] σ→Q σ aa.emp:=fun σ h hs=>by
    rw [if_pos h] at i2
    exact hQ (i+1) _ _ ⟨by omega,by omega,by omega⟩ hs (aa.aj _) (by omega)
   intro _
   split
   ·rename_i e
    refine sp _ (by simp [isSp]; simp at e; simp [e]) ?_
    simp only [zz,kg,kc,ka,ke,j_,cond_true,cond_false,seval]
   ·rename_i e1
    split
    ·rename_i e
     refine sp _ (by simp [isSp]; simp at e; simp [e]) ?_
     simp only [zz,kg,kc,ka,ke,j_,cond_true,cond_false,seval]
    ·rename_i e2
     split
     ·rename_i e
      refine sp _ (by simp [isSp]; simp at e; simp [e]) ?_
      simp only [zz,kg,kc,ka,ke,j_,cond_true,cond_false,seval]
     ·rename_i e3
      refine ⟨by omega,?_⟩
      have hsp:isSp (s.getD i 0)=false:=by
       simp only [isSp]
       simp only [Bool.not_eq_true] at e1 e2 e3
       rw [e1,e2,e3]; rfl
      rw [if_neg (by rw [hsp]; exact Bool.false_ne_true)] at i2
      split
      ·rename_i hp
       rw [if_pos hp] at i2
       have:=A4 (c:=s.getD i 0) (t:=s.drop (i+1)) (by rw [←drop_cons c1]; exact hp)
       rw [←drop_cons c1] at this
       rw [List.drop_drop] at i2
       rw [List.length_drop] at hl
       refine hQ (i+kN (fun n=>n != 10) (s.drop i)) _ _ ⟨by omega,by omega,by omega⟩ ?_ (aa.aj _) (by omega)
       simp only [zz,kg,kc,ka,ke,j_,cond_true,cond_false,seval]
      ·rename_i hp
       rw [if_neg hp] at i2
       exact .inl (by omega)
  ·have g1:((i:Int)<(s.length:Int))=False:=by simp; omega
   have e:s.drop i=[]:=List.drop_of_length_le (by omega)
   rw [e,K9] at i2
   simp only [g1,ws,decide_false,BD,zz,kg,kc,ka,ke,j_,cond_true,cond_false,seval]
   exact fun _=>.inl (by omega)
theorem TZ (s:List UInt8) (a:Int) (h:0≤a∧a≤s.length∧s.length≤1000000):aV Tryz.prog 33 [.str s,.int .i64 a] (.int .i64 (eK (s.drop a.toNat))):=by
 have:=YX s a.toNat (by omega) h.2.2
 rwa [Int.toNat_of_nonneg h.1] at this
def YN:List D→Option D
 | [.str s,.int .i64 a]=>if 0≤a∧a≤s.length∧s.length≤1000000 then some (.int .i64 (eK (s.drop a.toNat))) else none
 | _=>none
theorem aeP (args:List D) (d:D) (h:YN args=some d):aV Tryz.prog 33 args d:=by
 unfold YN at h
 split at h
 ·split at h
  ·cases h; exact TZ _ _ (by assumption)
  ·cases h
 ·cases h
def JT:bh:=Kb.dR 33 YN
theorem W5 (g:FuncId) (args:List D):JT.q g args=if g=33 then YN args else Kb.q g args:=rfl
theorem W3:JT.a=Kb.a:=rfl
theorem W4:JT.c=Kb.c:=rfl
theorem PH:JT.ok Tryz.prog:=bh.bE Q4 aeP
theorem rK:type_of% (And.intro (And.intro @W5 (And.intro @W3 @W4)) @BD):=(And.intro (And.intro @W5 (And.intro @W3 @W4)) @BD)
end Go.Proofs.YtpklkpkfgmoghaaGreatDoor.Zz
namespace Go.Proofs.YtpklkpkfgmoghaaGreatDoor.Zz
def p77:cm:=⟨⟨[],[],[],[],[],[]⟩,[(5,[0,1,2,3,4,5,6,7,8,9,10,11,12]),(9,[0,1,2,3,4,5])],[],false⟩
def s77:dU:=
 sO [oQ (.alloc [(.int .i64 0),(.str []),(.int .i64 0)]) 4,
 oP (.cB (kB false)) 5]
 (sO [oM 0 9,
 oM 1 10,
 oD 49 [.t 9,.t 10,.f 51] 11,
 oM 11 6]
 (sO [oM 0 12,
 oM 1 13,
 oM 1 14,
 oM 6 15,
 oE .add 14 15 16,
 oQ (.slice .str (.t 12) (some (.t 13)) (some (.t 16)) none) 17,
 oM 1 18,
 oP (.build [(.int .i64 0),(.str []),(.int .i64 0)] [(0,1,(kI 2)),(1,1,(.t 17)),(2,1,(.t 18))]) 19,
 oQ (.alloc [(.int .i64 0),(.str []),(.int .i64 0)]) 7,
 oS 3 7 19]
 (.seq (sO [oM 1 20,
 oM 6 21,
 oE .add 20 21 22,
 oM 0 23,
 oW 23 24,
 oE .lss 22 24 25,
 oM 25 26,
 oG (.cB (.t 0)) 27 26 true true,
 oG (.cB (.t 1)) 28 26 true true,
 oG (.cB (.t 6)) 29 26 true true,
 oG (.bin .add (.t 28) (.t 29)) 30 26 true true,
 oG (.jS (.t 27) (.t 30)) 31 26 true true,
 oG (.bin .eql (.t 31) (.c (.int .u8 46))) 32 26 true true,
 oP (.pick (.t 26) (.t 32) (kB false)) 33]
 (.cond (.t 33)
 (sO [oM 0 34,
 oM 1 35,
 oM 6 36,
 oE .add 35 36 37,
 oH .add 37 1 38,
 oD 49 [.t 34,.t 38,.f 51] 39,
 oM 39 8]
 (.seq (.fS 40 [oM 0 40,
 oM 1 41,
 oM 1 42,
 oM 6 43,
 oE .add 42 43 44,
 oH .add 44 1 45,
 oM 8 46,
 oE .add 45 46 47,
 oP (.slice .str (.t 40) (some (.t 41)) (some (.t 47)) none) 48,
 oF 0 7 49,
 oU (.store 1 (.t 49) (kI 3)),
 oF 1 7 50,
 oS 1 50 48])
 (.seq (sO [oM 8 51,
 oH .eql 51 0 52,
 oM 52 53,
 oG (.cB (.t 6)) 54 53 false true,
 oG (.cB (.t 8)) 55 53 false true,
 oG (.bin .add (.t 54) (.t 55)) 56 53 false true,
 oG (.bin .gtr (.t 56) (kI 15)) 57 53 false true,
 oP (.pick (.t 53) (kB true) (.t 57)) 58]
 (.cond (.t 58)
 (sO [oJ 3 7 59,
 oS 3 4 59,
 oP (.cB (kB false)) 5]
 (.ret))
 (.skip)))
 (sO [oJ 3 7 60,
 oS 3 4 60,
 oP (.cB (kB true)) 5]
 (.ret)))))
 (.skip)))
 (.seq (.fS 5 [oJ 3 7 61,
 oF 1 7 62,
 oL 62 63,
 oD 78 [.t 63] 64,
 oS 3 4 61,
 oM 64 5])
 (.ret)))))
theorem anQ:bA Tryz.prog 52 p77=some (s77,[.cell 4 (some 3),.tmp 5],65):=by kernel_rfl
def p79:cm:=⟨⟨[],[],[],[],[],[]⟩,[],[],false⟩
def s79:dU:=
 sO [oP (.cB (.c .aZ)) 0]
 (sO [oP (.buildSlice 1 [(.str [])] 22 [(0,(kS [58,61])),(1,(kS [60,61])),(2,(kS [62,61])),(3,(kS [61,61])),(4,(kS [33,61])),(5,(kS [38,38])),(6,(kS [124,124])),(7,(kS [40])),(8,(kS [41])),(9,(kS [123])),(10,(kS [125])),(11,(kS [44])),(12,(kS [59])),(13,(kS [61])),(14,(kS [43])),(15,(kS [45])),(16,(kS [42])),(17,(kS [47])),(18,(kS [37])),(19,(kS [60])),(20,(kS [62])),(21,(kS [33]))] false) 1,
 oM 1 0]
 (.ret))
theorem anS:bA Tryz.prog 56 p79=some (s79,[.tmp 0],2):=by kernel_rfl
def p51:cm:=⟨⟨[],[],[],[],[],[]⟩,[],[],false⟩
def s51:dU:=
 sO [oQ (.alloc [(.int .i64 0),(.str []),(.int .i64 0)]) 4,
 oP (.cB (kB false)) 5]
 (.seq (sO [oM 0 10,
 oM 1 11,
 oP (.jS (.t 10) (.t 11)) 12,
 oM 12 6]
 (.block 0 (sO [oM 6 14,
 oD 51 [.t 14] 15,
 oM 15 13]
 (.cond (.t 13)
 (sO [oM 0 16,
 oM 1 17,
 oD 52 [.t 16,.t 17] 18,
 oX 18 0 19,
 oX 18 1 20,
 oS 3 4 19,
 oM 20 5]
 (.ret))
 (sO [oM 6 22,
 oD 53 [.t 22] 23,
 oM 23 21]
 (.cond (.t 21)
 (sO [oM 0 24,
 oM 1 25,
 oM 1 26,
 oM 0 27,
 oM 1 28,
 oD 49 [.t 27,.t 28,.f 54] 29,
 oE .add 26 29 30,
 oQ (.slice .str (.t 24) (some (.t 25)) (some (.t 30)) none) 31,
 oM 31 7]
 (.seq (sO [oM 7 32,
 oD 55 [.t 32] 33]
 (.cond (.t 33)
 (sO [oM 7 34,
 oM 1 35,
 oP (.build [(.int .i64 0),(.str []),(.int .i64 0)] [(0,1,(kI 4)),(1,1,(.t 34)),(2,1,(.t 35))]) 36,
 oS 3 4 36,
 oP (.cB (kB true)) 5]
 (.ret))
 (.skip)))
 (sO [oM 7 37,
 oM 1 38,
 oP (.build [(.int .i64 0),(.str []),(.int .i64 0)] [(0,1,(kI 1)),(1,1,(.t 37)),(2,1,(.t 38))]) 39,
 oM 7 40,
 oW 40 41,
 oH .leq 41 16 42,
 oS 3 4 39,
 oM 42 5]
 (.ret))))
 (.skip)))))))
 (.seq (sO [oD 56 [] 43,
 oZ 43 44,
 oP (.cB (kI 0)) 45]
 (.block 1 (.loop (sO [oE .lss 45 44 46]
 (.seq (.cond (.t 46)
 (.skip)
 (.exit 1))
 (.seq (.block 2 (sO [oI 1 43 45 47,
 oL 47 48,
 oM 48 9]
 (sO [oM 0 49,
 oM 1 50,
 oQ (.slice .str (.t 49) (some (.t 50)) none none) 51,
 oM 9 52,
 oD 48 [.t 51,.t 52] 53]
 (.cond (.t 53)
 (sO [oM 9 54,
 oM 1 55,
 oP (.build [(.int .i64 0),(.str []),(.int .i64 0)] [(0,1,(kI 5)),(1,1,(.t 54)),(2,1,(.t 55))]) 56,
 oS 3 4 56,
 oP (.cB (kB true)) 5]
 (.ret))
 (.skip)))))
 (.ops [oH .add 45 1 57,
 oM 57 45])))))))
 (sO [oP (.build [(.int .i64 0),(.str []),(.int .i64 0)] []) 58,
 oS 3 4 58,
 oP (.cB (kB false)) 5]
 (.ret))))
theorem anH:bA Tryz.prog 34 p51=some (s51,[.cell 4 (some 3),.tmp 5],59):=by kernel_rfl
def p23:cm:=⟨⟨[],[],[],[],[],[]⟩,[],[],false⟩
def s23:dU:=
 sO [oP (.cB (.c .aZ)) 2,
 oP (.cB (kI 0)) 3,
 oP (.cB (kI 0)) 4]
 (.seq (sO [oM 0 9,
 oW 9 10,
 oH .gtr 10 4096 11]
 (.cond (.t 11)
 (sO [oP (.cB (.c .aZ)) 2,
 oP (.cB (kI 4096)) 3,
 oP (.cB (kI 3)) 4]
 (.ret))
 (.skip)))
 (sO [oP (.cB (.c .aZ)) 5]
 (sO [oM 0 12,
 oD 33 [.t 12,kI 0] 13,
 oM 13 6]
 (.seq (.block 0 (.loop (.seq (sO [oM 6 14,
 oM 0 15,
 oW 15 16,
 oE .lss 14 16 17]
 (.cond (.t 17)
 (.skip)
 (.exit 0)))
 (.block 1 (sO [oM 0 19,
 oM 6 20,
 oD 34 [.t 19,.t 20] 21,
 oM 21 18,
 oX 18 0 22,
 oX 18 1 23,
 oQ (.alloc [(.int .i64 0),(.str []),(.int .i64 0)]) 7,
 oS 3 7 22,
 oM 23 8]
 (.seq (sO [oM 8 24,
 oP (.un .not (.t 24)) 25]
 (.cond (.t 25)
 (sO [oM 6 26,
 oP (.cB (.c .aZ)) 2,
 oM 26 3,
 oP (.cB (kI 90)) 4]
 (.ret))
 (.skip)))
 (sO [oM 5 27,
 oJ 3 7 28,
 oP (.buildSlice 3 [(.int .i64 0),(.str []),(.int .i64 0)] 1 [(0,(.t 28))] false) 29,
 oQ (.append 3 32 false (.t 27) (.t 29)) 30,
 oM 30 5]
 (sO [oM 6 31,
 oF 1 7 32,
 oL 32 33,
 oW 33 34,
 oE .add 31 34 35,
 oM 35 6]
 (.ops [oM 6 36,
 oM 0 37,
 oM 6 38,
 oD 33 [.t 37,.t 38] 39,
 oE .add 36 39 40,
 oM 40 6])))))))))
 (sO [oM 5 41,
 oM 0 42,
 oW 42 43,
 oP (.build [(.int .i64 0),(.str []),(.int .i64 0)] [(0,1,(kI 0)),(2,1,(.t 43))]) 44,
 oP (.buildSlice 3 [(.int .i64 0),(.str []),(.int .i64 0)] 1 [(0,(.t 44))] false) 45,
 oQ (.append 3 32 false (.t 41) (.t 45)) 46,
 oM 46 2,
 oP (.cB (kI 0)) 3,
 oP (.cB (kI 0)) 4]
 (.ret))))))
theorem anD:bA Tryz.prog 20 p23=some (s23,[.tmp 2,.tmp 3,.tmp 4],47):=by kernel_rfl
def oy (l:List UInt8):Int×List UInt8×Bool:=
 if decide (kN isDigit l<l.length) && ((l.getD (kN isDigit l) 0).toNat:Int)==46 then
  (3,l.take (kN isDigit l+1+kN isDigit (l.drop (kN isDigit l+1))), !(decide (kN isDigit (l.drop (kN isDigit l+1))=0) || decide (15<kN isDigit l+kN isDigit (l.drop (kN isDigit l+1)))))
 else (2,l.take (kN isDigit l),rP (l.take (kN isDigit l)))
def iV (k:Int) (s:List UInt8) (a:Int):List D:=[.int .i64 k,.str s,.int .i64 a]
set_option maxHeartbeats 1000000 in
theorem H6 (s:List UInt8) (a:Nat) (h1:a≤s.length) (h2:s.length≤100000):aV Tryz.prog 52 [.str s,.int .i64 a] (.tuple [.agg (iV (oy (s.drop a)).1 (oy (s.drop a)).2.1 a),.bool (oy (s.drop a)).2.2]):=by
 refine aV.run PH anQ (by simp) fun E=>?_
 have g2:(s.length≤1000000)=True:=by simp; omega
 have g3:((a:Int)≤1000000)=True:=by simp; omega
 have g0:(0≤(a:Int))=True:=by simp
 have hl:=nX isDigit (s.drop a)
 rw [List.length_drop] at hl
 obtain ⟨n,hn⟩:∃n,n=kN isDigit (s.drop a):=⟨_,rfl⟩
 rw [←hn] at hl
 have w1:IntKind.i64.wrap ((a:Int)+(n:Int))=((a+n:Nat):Int):=wrap_add (by omega)
 have e0:(s.drop a).getD n 0=s.getD (a+n) 0:=by simp [List.getD]
 have e1:(s.drop a).drop (n+1)=s.drop (a+n+1):=by rw [List.drop_drop]; rfl
 have e2:(s.drop a).length=s.length - a:=by simp
 have tt:∀k,(s.drop a).take (a+k - a)=(s.drop a).take k:=fun k=>by rw [Nat.add_sub_cancel_left]
 simp only [oy,←hn,e0,e1,e2]
 by_cases c1:a+n<s.length
 ·have g4:(((a+n:Nat):Int)<(s.length:Int))=True:=by simp; omega
  have g4':(n<s.length - a)=True:=by simp; omega
  cases c2:(((s.getD (a+n) 0).toNat:Int)==46) with
  | true=>
   obtain ⟨m,hm⟩:∃m,m=kN isDigit (s.drop (a+n+1)):=⟨_,rfl⟩
   have hl2:=nX isDigit (s.drop (a+n+1))
   rw [List.length_drop,←hm] at hl2
   have w2:IntKind.i64.wrap (((a+n:Nat):Int)+1)=((a+n+1:Nat):Int):=cp (by omega)
   have w3:IntKind.i64.wrap (((a+n+1:Nat):Int)+(m:Int))=((a+n+1+m:Nat):Int):=wrap_add (by omega)
   have w4:IntKind.i64.wrap ((n:Int)+(m:Int))=((n+m:Nat):Int):=wrap_add (by omega)
   have g5:(((a+n+1:Nat):Int)≤1000000)=True:=by simp; omega
   have g6:(0≤((a+n+1:Nat):Int))=True:=by simp; omega
   have t2:(s.drop a).take (a+n+1+m - a)=(s.drop a).take (n+1+m):=by congr 1; omega
   simp (maxSteps:=1000000) only [s77,g0,g2,g3,g4,g4',g5,g6,←hn,←hm,w1,w2,w3,w4,t2,c2,q75,nc,decide_true,rK,zz,kg,kc,ka,ke,j_,cond_true,cond_false,seval]
   intro id
   refine ⟨by omega,fun id2 f1 f2 _=>⟨by omega,by omega,?_⟩⟩
   simp (maxSteps:=1000000) only [f1,f2,g4,←hn,w1,c2,t2,tt,List.take_succ_cons,List.take_zero,iV,rK,zz,kg,kc,ka,ke,j_,cond_true,cond_false,seval]
   (repeat' split)<;>simp_all<;>omega
  | false=>
   simp (maxSteps:=1000000) only [s77,g0,g2,g3,g4,g4',←hn,w1,c2,q75,q85,tt,nc,decide_true,Bool.and_false,rK,zz,kg,kc,ka,ke,j_,cond_true,cond_false,seval]
   intro id
   refine ⟨by omega,fun id2 f1 f2 _=>⟨by omega,?_⟩⟩
   simp (maxSteps:=1000000) only [f1,f2,g4,←hn,w1,c2,tt,List.take_succ_cons,List.take_zero,iV,rK,zz,kg,kc,ka,ke,j_,cond_true,cond_false,seval]
 ·have g4:(((a+n:Nat):Int)<(s.length:Int))=False:=by simp; omega
  have g4':(n<s.length - a)=False:=by simp; omega
  simp (maxSteps:=1000000) only [s77,g0,g2,g3,g4,g4',←hn,w1,q75,q85,tt,nc,decide_false,Bool.false_and,rK,zz,kg,kc,ka,ke,j_,cond_true,cond_false,seval]
  intro id
  refine ⟨by omega,fun id2 f1 f2 _=>?_⟩
  simp (maxSteps:=1000000) only [f1,f2,g4,←hn,w1,tt,List.take_succ_cons,List.take_zero,iV,rK,zz,kg,kc,ka,ke,j_,cond_true,cond_false,seval]
theorem Fu (s:List UInt8) (a:Int) (h:0≤a∧a≤s.length∧s.length≤100000):aV Tryz.prog 52 [.str s,.int .i64 a] (.tuple [.agg (iV (oy (s.drop a.toNat)).1 (oy (s.drop a.toNat)).2.1 a),.bool (oy (s.drop a.toNat)).2.2]):=by
 have:=H6 s a.toNat (by omega) h.2.2
 rwa [Int.toNat_of_nonneg h.1] at this
def q77:List D→Option D
 | [.str s,.int .i64 a]=>if 0≤a∧a≤s.length∧s.length≤100000 then some (.tuple [.agg (iV (oy (s.drop a.toNat)).1 (oy (s.drop a.toNat)).2.1 a),.bool (oy (s.drop a.toNat)).2.2]) else none
 | _=>none
theorem ae4 (args:List D) (d:D) (h:q77 args=some d):aV Tryz.prog 52 args d:=by
 unfold q77 at h
 split at h
 ·split at h
  ·cases h; exact Fu _ _ (by assumption)
  ·cases h
 ·cases h
def J8:bh:=JT.dR 52 q77
theorem XC (g:FuncId) (args:List D):J8.q g args=if g=52 then q77 args else JT.q g args:=rfl
theorem XA:J8.a=JT.a:=rfl
theorem XB:J8.c=JT.c:=rfl
theorem QI:J8.ok Tryz.prog:=bh.bE PH ae4
theorem MF:type_of% (And.intro (And.intro @XC (And.intro @XA @XB)) @rK):=(And.intro (And.intro @XC (And.intro @XA @XB)) @rK)
def la:List (List UInt8):=[[58,61],[60,61],[62,61],[61,61],[33,61],[38,38],[124,124],[40],[41],[123],[125],[44],[59],[61],[43],[45],[42],[47],[37],[60],[62],[33]]
theorem aaQ:aV Tryz.prog 56 [] (.sl (eR la)):=by
 refine aV.run QI anS (by simp) fun E=>?_
 simp only [s79,la,eR,MF,zz,kg,kc,ka,ke,j_,cond_true,cond_false,seval]
def q79:List D→Option D
 | []=>if True then some (.sl (eR la)) else none
 | _=>none
theorem ae6 (args:List D) (d:D) (h:q79 args=some d):aV Tryz.prog 56 args d:=by
 unfold q79 at h
 split at h
 ·split at h
  ·cases h; exact aaQ
  ·cases h
 ·cases h
def J9:bh:=J8.dR 56 q79
theorem XK (g:FuncId) (args:List D):J9.q g args=if g=56 then q79 args else J8.q g args:=rfl
theorem XI:J9.a=J8.a:=rfl
theorem XJ:J9.c=J8.c:=rfl
theorem QS:J9.ok Tryz.prog:=bh.bE QI ae6
theorem rL:type_of% (And.intro (And.intro @XK (And.intro @XI @XJ)) @MF):=(And.intro (And.intro @XK (And.intro @XI @XJ)) @MF)
def ik (l:List UInt8):List (List UInt8)→Option (List UInt8)
 | []=>none
 | x::xs=>if pre l x=true then some x else ik l xs
def iA (l:List UInt8):Int×List UInt8×Bool:=
 if isDigit ((l.getD 0 0).toNat:Int)=true then oy l
 else if fL ((l.getD 0 0).toNat:Int)=true then
  (if words.contains (l.take (kN ja l))=true then (4,l.take (kN ja l),true) else (1,l.take (kN ja l),decide (kN ja l≤16)))
 else match ik l la with
  | some x=>(5,x,true)
  | none=>(0,[],false)
def FD (l:List UInt8) (a:Int):D:=.tuple [.agg (iV (iA l).1 (iA l).2.1 (if (iA l).1=0 then 0 else a)),.bool (iA l).2.2]
set_option maxHeartbeats 1000000 in
theorem aia (s:List UInt8) (a:Nat) (h1:a<s.length) (h2:s.length≤100000):aV Tryz.prog 34 [.str s,.int .i64 a] (FD (s.drop a) a):=by
 refine aV.run QS anH (by simp) fun E=>?_
 have g2:(s.length≤100000)=True:=by simp; omega
 have g2':(s.length≤1000000)=True:=by simp; omega
 have g3:((a:Int)≤(s.length:Int))=True:=by simp; omega
 have g3':((a:Int)≤1000000)=True:=by simp; omega
 have g0:(0≤(a:Int))=True:=by simp
 have e0:(s.drop a).getD 0 0=s.getD a 0:=by simp [List.getD]
 have ts:(s.drop a).take (s.length - a)=s.drop a:=List.take_of_length_le (by simp)
 simp only [FD,iA,e0]
 cases c1:isDigit ((s.getD a 0).toNat:Int) with
 | true=>
  have k0:((oy (s.drop a)).1=0)=False:=by simp only [oy]; split<;>simp
  simp (maxSteps:=1000000) only [s51,g0,g2,g3,c1,k0,q77,q63,iV,List.take_succ_cons,List.take_zero,rL,zz,kg,kc,ka,ke,j_,cond_true,cond_false,seval]
  omega
 | false=>
  cases c2:fL ((s.getD a 0).toNat:Int) with
  | true=>
   obtain ⟨m,hm⟩:∃m,m=kN ja (s.drop a):=⟨_,rfl⟩
   have hl:=nX ja (s.drop a)
   rw [List.length_drop,←hm] at hl
   have w1:IntKind.i64.wrap ((a:Int)+(m:Int))=((a+m:Nat):Int):=wrap_add (by omega)
   have e3:a+m - a=m:=by omega
   have lm:((s.drop a).take m).length=m:=by simp; omega
   have dm:decide ((m:Int)≤16)=decide (m≤16):=decide_eq_decide.2 (by omega)
   cases c3:words.contains ((s.drop a).take m)<;>
    simp (maxSteps:=1000000) only [s51,g0,g2,g2',g3,g3',c1,c2,c3,←hm,w1,e3,lm,dm,q62,q63,q75,q40,nc,iV,List.take_succ_cons,List.take_zero,rL,zz,kg,kc,ka,ke,j_,cond_true,cond_false,seval]
   ·omega
   ·omega
  | false=>
   have ls:(eR la).length=22:=rfl
   simp (maxSteps:=1000000) only [s51,g0,g2,g3,c1,c2,ls,q62,q63,q79,iV,List.take_succ_cons,List.take_zero,rL,zz,kg,kc,ka,ke,j_,cond_true,cond_false,seval]
   intro id
   refine ⟨by omega,?_⟩
   refine cj (X:=Nat) (fun i=>[(0,.str s),(1,.int .i64 a),(4,.ptr id 1 0),(43,.sl (eR la)),(44,.int .i64 22),(45,.int .i64 i)]) (fun _=>aa.emp.set id (.cells [.int .i64 0,.str [],.int .i64 0])) (fun i=>22 - i)
    (fun i=>i≤22∧ik (s.drop a) (la.drop i)=ik (s.drop a) la) 0 (by simp) ?_ (aa.aj _) ?_
   ·simp only [zz,kg,kc,ka,ke,j_,cond_true,cond_false,seval]
   ·rintro i Q ⟨i1,i2⟩ hQ
    have wi:IntKind.i64.wrap ((i:Int)+1)=((i+1:Nat):Int):=cp (by omega)
    by_cases c4:i<22
    ·have g4:((i:Int)<22)=True:=by simp; omega
     have lsl:la.length=22:=rfl
     obtain ⟨x,hx⟩:∃x,la[i]? =some x:=by rw [List.getElem?_eq_getElem (by omega)]; exact ⟨_,rfl⟩
     rw [G6 hx] at i2
     simp only [ik] at i2
     cases c5:pre (s.drop a) x with
     | true=>
      rw [if_pos c5] at i2
      simp (maxSteps:=1000000) only [g0,g3,g4,wi,ts,hx,c5,←i2,vh,q74,List.take_succ_cons,List.take_zero,rL,zz,kg,kc,ka,ke,j_,cond_true,cond_false,seval]
      omega
     | false=>
      rw [if_neg (by rw [c5]; exact Bool.false_ne_true)] at i2
      simp (maxSteps:=1000000) only [g0,g3,g4,wi,ts,hx,c5,vh,q74,List.take_succ_cons,List.take_zero,rL,zz,kg,kc,ka,ke,j_,cond_true,cond_false,seval]
      refine ⟨by omega,?_⟩
      refine hQ (i+1) _ _ ⟨by omega,i2⟩ ?_ (aa.aj _) (by omega)
      simp only [zz,kg,kc,ka,ke,j_,cond_true,cond_false,seval]
    ·have g4:((i:Int)<22)=False:=by simp; omega
     have e:la.drop i=[]:=List.drop_of_length_le (by simp [la]; omega)
     rw [e,ik] at i2
     simp (maxSteps:=1000000) only [g4,←i2,List.take_succ_cons,List.take_zero,rL,zz,kg,kc,ka,ke,j_,cond_true,cond_false,seval]
theorem aeE (s:List UInt8) (a:Int) (h:0≤a∧a<s.length∧s.length≤100000):aV Tryz.prog 34 [.str s,.int .i64 a] (FD (s.drop a.toNat) a):=by
 have:=aia s a.toNat (by omega) h.2.2
 rwa [Int.toNat_of_nonneg h.1] at this
def q51:List D→Option D
 | [.str s,.int .i64 a]=>if 0≤a∧a<s.length∧s.length≤100000 then some (FD (s.drop a.toNat) a) else none
 | _=>none
theorem aeQ (args:List D) (d:D) (h:q51 args=some d):aV Tryz.prog 34 args d:=by
 unfold q51 at h
 split at h
 ·split at h
  ·cases h; exact aeE _ _ (by assumption)
  ·cases h
 ·cases h
def aaY:bh:=J9.dR 34 q51
theorem W_ (g:FuncId) (args:List D):aaY.q g args=if g=34 then q51 args else J9.q g args:=rfl
theorem W8:aaY.a=J9.a:=rfl
theorem W9:aaY.c=J9.c:=rfl
theorem aaZ:aaY.ok Tryz.prog:=bh.bE QS aeQ
theorem pO:type_of% (And.intro (And.intro @W_ (And.intro @W8 @W9)) @rL):=(And.intro (And.intro @W_ (And.intro @W8 @W9)) @rL)
end Go.Proofs.YtpklkpkfgmoghaaGreatDoor.Zz
namespace Go.Proofs.YtpklkpkfgmoghaaGreatDoor.Zz
abbrev Tok:=Int×List UInt8×Int
def oh (l:List Tok):List (List D):=l.map fun t=>iV t.1 t.2.1 t.2.2
theorem ow {l:List Tok}:(oh l).length=l.length:=by simp [oh]
theorem G_ {l:List Tok} {k:Int} {s:List UInt8} {a:Int}:oh l++[[.int .i64 k,.str s,.int .i64 a]]=oh (l++[(k,s,a)]):=by simp [oh,iV]
theorem qC:oh []=[]:=rfl
theorem Fc {l:List Tok}:l≠[]→oh l≠[]:=by cases l<;>simp [oh]
def s5:Nat→Nat→List UInt8→List Tok→List Tok×Nat×Int
 | 0,_,_,out=>(out,0,0)
 | n+1,p,l,out=>
  if l=[] then (out++[(0,[],(p:Int))],0,0)
  else if (iA l).2.2=false then ([],p,90)
  else s5 n (p+(iA l).2.1.length+eK (l.drop (iA l).2.1.length)) (l.drop ((iA l).2.1.length+eK (l.drop (iA l).2.1.length))) (out++[((iA l).1,(iA l).2.1,(p:Int))])
def tokens (s:List UInt8):List Tok×Nat×Int:=if 4096<s.length then ([],4096,3) else s5 (s.length+1) (eK s) (s.drop (eK s)) []
theorem sN:∀{l:List UInt8} {xs:List (List UInt8)} {x:List UInt8},ik l xs=some x→x∈xs∧pre l x=true
 | l,[],x,h=>by cases h
 | l,y::xs,x,h=>by
  simp only [ik] at h
  split at h
  ·rename_i hp; cases h; exact ⟨by simp,hp⟩
  ·have:=sN h
   exact ⟨by simp [this.1],this.2⟩
theorem FP {p:Int→Bool} {l:List UInt8} (hl:0<l.length) (h:p ((l.getD 0 0).toNat:Int)=true):0<kN p l:=by
 cases l with
 | nil=>simp at hl
 | cons c l=>rw [mE,if_pos (by simpa using h)]; omega
theorem NZ {l:List UInt8} (hl:0<l.length) (h:(iA l).2.2=true):1≤(iA l).2.1.length∧(iA l).2.1.length≤l.length∧(iA l).2.1=l.take (iA l).2.1.length∧(iA l).1≠0:=by
 have tk:∀k:Nat,k≤l.length→1≤k→1≤(l.take k).length∧(l.take k).length≤l.length∧l.take k=l.take (l.take k).length:=fun k h1 h2=>by
  have e:(l.take k).length=k:=by simp; omega
  rw [e]; exact ⟨h2,h1,rfl⟩
 have t3:∀{k:Nat} {x:Int},k≤l.length→1≤k→x≠0→1≤(l.take k).length∧(l.take k).length≤l.length∧l.take k=l.take (l.take k).length∧x≠0:=fun h1 h2 h3=>⟨(tk _ h1 h2).1,(tk _ h1 h2).2.1,(tk _ h1 h2).2.2,h3⟩
 unfold iA at h ⊢
 split
 ·rename_i hd
  rw [if_pos hd] at h
  have h1:=FP hl hd
  have h2:=nX isDigit l
  have h3:=nX isDigit (l.drop (kN isDigit l+1))
  rw [List.length_drop] at h3
  unfold oy at h ⊢
  split
  ·rename_i hc
   simp only [Bool.and_eq_true,decide_eq_true_eq] at hc
   exact t3 (by omega) (by omega) (by simp)
  ·exact t3 h2 h1 (by simp)
 ·rename_i hd
  rw [if_neg hd] at h
  split
  ·rename_i ht
   rw [if_pos ht] at h
   have h1:=FP (p:=ja) hl (by simp only [ja,ht,Bool.true_or])
   have h2:=nX ja l
   split
   ·exact t3 h2 h1 (by simp)
   ·exact t3 h2 h1 (by simp)
  ·rename_i ht
   rw [if_neg ht] at h
   cases hf:ik l la with
   | none=>rw [hf] at h; cases h
   | some x=>
    obtain ⟨m,hp⟩:=sN hf
    simp only [pre,beq_iff_eq] at hp
    have hx:1≤x.length:=by
     revert m; unfold la; intro m
     simp only [List.mem_cons,List.not_mem_nil,or_false] at m
     rcases m with rfl | rfl | rfl | rfl | rfl | rfl | rfl | rfl | rfl | rfl | rfl | rfl | rfl | rfl | rfl | rfl | rfl | rfl | rfl | rfl | rfl | rfl<;>decide
    refine ⟨hx,?_,hp.symm,by simp⟩
    have:=congrArg List.length hp
    rw [List.length_take] at this
    simp only
    omega
set_option maxHeartbeats 1000000 in
theorem Ya (s:List UInt8):aV Tryz.prog 20 [.str s] (.tuple [.sl (oh (tokens s).1),.int .i64 (tokens s).2.1,.int .i64 (tokens s).2.2]):=by
 refine aV.run aaZ anD (by simp) fun E=>?_
 unfold tokens
 by_cases c0:4096<s.length
 ·have g1:((s.length:Int)>4096)=True:=by simp; omega
  simp only [c0,s23,g1,qC,decide_true,pO,zz,kg,kc,ka,ke,j_,cond_true,cond_false,seval]
  trace_state
 ·have h2:s.length≤1000000:=by omega
  have g1:((s.length:Int)>4096)=False:=by simp; omega
  have g2:(s.length≤1000000)=True:=by simp; omega
  have g2':(s.length≤100000)=True:=by simp; omega
  have g3:(0≤(s.length:Int))=True:=by simp
  simp only [c0,s23,g1,g2,g3,YN,decide_false,pO,zz,kg,kc,ka,ke,j_,cond_true,cond_false,seval]
  intro _
  generalize hR:s5 (s.length+1) (eK s) (s.drop (eK s)) []=R
  refine cj (X:=Nat×List Tok×Nat×Nat) (fun x=>[(0,.str s),(5,fF x.2.2.1 x.2.1.length),(6,.int .i64 x.1)])
   (fun x=>V1 .emp x.2.2.1 3 (oh x.2.1)) (fun x=>x.2.2.2)
   (fun x=>x.1≤s.length∧x.2.1.length≤x.1∧s.length<x.1+x.2.2.2∧s5 x.2.2.2 x.1 (s.drop x.1) x.2.1=R) (eK s,[],0,s.length+1) ⟨Cq _,by simp,by simp; omega,hR⟩ ?_ ?_ ?_
  ·simp only [fF,zz,kg,kc,ka,ke,j_,cond_true,cond_false,seval]
  ·exact aa.aj _
  ·rintro ⟨p,out,r,n⟩ Q ⟨i1,i2,i3,i4⟩ hQ
   simp only at i1 i2 i3 i4 hQ ⊢
   obtain ⟨n,rfl⟩:∃n',n=n'+1:=⟨n - 1,by omega⟩
   simp only [s5] at i4
   by_cases c1:p<s.length
   ·have iy:s.drop p≠[]:=by simp; omega
    rw [if_neg iy] at i4
    have g4:((p:Int)<(s.length:Int))=True:=by simp; omega
    have g5:(0≤(p:Int))=True:=by simp
    cases c2:(iA (s.drop p)).2.2 with
    | false=>
     rw [if_pos c2] at i4
     simp only [g2',g4,g5,c2,FD,iV,q51,YN,←i4,qC,decide_true,pO,zz,kg,kc,ka,ke,j_,cond_true,cond_false,seval]
    | true=>
     rw [if_neg (by rw [c2]; exact Bool.noConfusion)] at i4
     obtain ⟨b1,b2,b3,b4⟩:=NZ (by simp; omega) c2
     have lb:=Cq ((s.drop p).drop (iA (s.drop p)).2.1.length)
     have eb:s.drop (p+(iA (s.drop p)).2.1.length)=(s.drop p).drop (iA (s.drop p)).2.1.length:=by rw [List.drop_drop]
     rcases Vp:iA (s.drop p) with ⟨kd,tx,ok⟩
     simp only [Vp] at i4 c2 b1 b2 b3 b4 lb eb
     subst c2
     obtain ⟨bl,HH⟩:∃bl,bl=eK ((s.drop p).drop tx.length):=⟨_,rfl⟩
     rw [←HH] at i4 lb
     simp only [List.length_drop] at lb b2
     have w1:IntKind.i64.wrap ((p:Int)+(tx.length:Int))=((p+tx.length:Nat):Int):=wrap_add (by omega)
     have w2:IntKind.i64.wrap (((p+tx.length:Nat):Int)+(bl:Int))=((p+tx.length+bl:Nat):Int):=wrap_add (by omega)
     have g6:(((p+tx.length:Nat):Int)≤(s.length:Int))=True:=by simp; omega
     have g7:(0≤((p+tx.length:Nat):Int))=True:=by simp; omega
     have ed:s.drop (p+tx.length+bl)=(s.drop p).drop (tx.length+bl):=by rw [List.drop_drop,Nat.add_assoc]
     by_cases ho:out=[]
     ·subst ho
      simp only [g2,g2',g4,g5,b4,Vp,qC,c_,AM,FD,iV,q51,YN,List.take_succ_cons,List.take_zero,decide_true,pO,zz,kg,kc,ka,ke,j_,cond_true,cond_false,seval]
      intro _ id id2 f1 f2
      simp only [g2,g2',g4,g5,g6,g7,b4,Vp,f1,f2,w1,w2,eb,←HH,qC,c_,AM,FD,iV,q51,YN,List.take_succ_cons,List.take_zero,decide_true,pO,zz,kg,kc,ka,ke,j_,cond_true,cond_false,seval]
      intro _
      refine hQ (p+tx.length+bl,[(kd,tx,(p:Int))],id2,n) _ _ ⟨by simp only; omega,by simp only [List.length_singleton]; omega,by simp only; omega,by simp only [ed]; exact i4⟩ ?_ ?_ (Nat.lt_succ_self n)
      ·simp only [fF,zz,kg,kc,ka,ke,j_,cond_true,cond_false,seval]
      ·simp only [V1,oh,iV,zz,kg,kc,ka,ke,j_,cond_true,cond_false,seval]
       exact aa.fm (by repeat' first | with_reducible exact aa.bZ | with_reducible exact aa.cz | refine aa.dS (by simp [f1,f2]) ?_ | refine aa.dT (by simp [f1,f2]) ?_)
     ·have TH:=Fc ho
      have ho3:out.length≠0:=fun h=>ho (List.length_eq_zero_iff.1 h)
      simp only [g2,g2',g4,g5,b4,Vp,bq ho3,AN TH,ow,FD,iV,q51,YN,List.take_succ_cons,List.take_zero,decide_true,pO,zz,kg,kc,ka,ke,j_,cond_true,cond_false,seval]
      intro _ id f1 f2
      have h3:(∀y∈[[D.int IntKind.i64 kd,D.str tx,D.int IntKind.i64 (p:Int)]],y.length=3∧y.all bX=true):=by simp [bX]
      have a1:(oh out).length=out.length:=ow
      simp only [g2,g2',g4,g5,g6,g7,b4,Vp,f1,f2,w1,w2,eb,←HH,a1,FD,iV,q51,YN,List.take_succ_cons,List.take_zero,decide_true,pO,zz,kg,kc,ka,ke,j_,cond_true,cond_false,seval]
      refine ⟨by omega,fun _=>?_⟩
      have ho5:out.length+1≠0:=by simp
      refine hQ (p+tx.length+bl,out++[(kd,tx,(p:Int))],r,n) _ _ ⟨by simp only; omega,by simp only [List.length_append,List.length_singleton]; omega,by simp only; omega,by simp only [ed]; exact i4⟩ ?_ ?_ (Nat.lt_succ_self n)
      ·have e9:out.length+2+1=out.length+1+2:=by omega
       simp only [bq ho5,List.length_append,e9,zz,kg,kc,ka,ke,j_,cond_true,cond_false,seval]
      ·have e9:out.length+1+2=out.length+2+1:=by omega
       rw [AN (Fc (List.append_ne_nil_of_right_ne_nil out (List.cons_ne_nil _ _))),ow,←G_,List.length_append,List.length_singleton,e9]
       exact aa.fm (by repeat' first | with_reducible exact aa.bZ | with_reducible exact aa.cz | refine aa.dS (by simp [f1,f2]) ?_ | refine aa.dT (by simp [f1,f2]) ?_)
   ·have g4:((p:Int)<(s.length:Int))=False:=by simp; omega
    have e:s.drop p=[]:=List.drop_of_length_le (by omega)
    have hp:p=s.length:=by omega
    subst hp
    rw [if_pos e] at i4
    by_cases ho:out=[]
    ·subst ho
     simp only [g4,←i4,qC,c_,AM,List.take_succ_cons,List.take_zero,decide_false,pO,zz,kg,kc,ka,ke,j_,cond_true,cond_false,seval]
     exact fun _ _=>rfl
    ·have TH:=Fc ho
     have ho3:out.length≠0:=fun h=>ho (List.length_eq_zero_iff.1 h)
     simp only [g4,←i4,bq ho3,AN TH,ow,List.take_succ_cons,List.take_zero,decide_false,pO,zz,kg,kc,ka,ke,j_,cond_true,cond_false,seval]
     have a2:(oh (out++[(0,[],(s.length:Int))])).take (out.length+1)=oh (out++[(0,[],(s.length:Int))]):=List.take_of_length_le (by rw [ow]; simp)
     have a3:out.length+1≤(oh (out++[(0,[],(s.length:Int))])).length:=by rw [ow]; simp
     rw [G_,a2,if_pos a3]
     exact fun _ _=>⟨by omega,rfl⟩
end Go.Proofs.YtpklkpkfgmoghaaGreatDoor.Zz
namespace Go.Proofs.YtpklkpkfgmoghaaGreatDoor.Zz
inductive Nd where
 | mk (k t:Int) (s:List UInt8) (n:Int) (l:List Nd)
mutual
def Nd.enc:Nd→List D
 | .mk k t s n l=>[.int .i64 k,.int .i64 t,.str s,.int .i64 n,.sl (Nd.bg l)]
def Nd.bg:List Nd→List (List D)
 | []=>[]
 | x::l=>Nd.enc x::Nd.bg l
end
mutual
def Nd.cI:Nd→Nat
 | .mk k t s n l=>1+Nd.eA l
def Nd.eA:List Nd→Nat
 | []=>0
 | x::l=>Nd.cI x+Nd.eA l
end
theorem aB (k t:Int) (s:List UInt8) (n:Int) (l:List Nd):Nd.enc (.mk k t s n l)=[.int .i64 k,.int .i64 t,.str s,.int .i64 n,.sl (Nd.bg l)]:=by rw [Nd.enc]
theorem bc:Nd.bg []=[]:=by rw [Nd.bg]
theorem bO (x:Nd) (l:List Nd):Nd.bg (x::l)=Nd.enc x::Nd.bg l:=by rw [Nd.bg]
theorem eg:∀l:List Nd,Nd.bg l=l.map Nd.enc
 | []=>by rw [bc]; rfl
 | x::l=>by rw [bO,eg l]; rfl
theorem bd (k t:Int) (s:List UInt8) (n:Int) (l:List Nd):Nd.cI (.mk k t s n l)=1+Nd.eA l:=by rw [Nd.cI]
theorem bf:Nd.eA []=0:=by rw [Nd.eA]
theorem aD (x:Nd) (l:List Nd):Nd.eA (x::l)=Nd.cI x+Nd.eA l:=by rw [Nd.eA]
theorem E6 (x:Nd):0<x.cI:=by cases x; rw [bd]; omega
theorem GY:∀{l:List Nd} {x:Nd},x∈l→x.cI≤Nd.eA l
 | y::l,x,h=>by
  rw [aD]
  rcases List.mem_cons.1 h with e | e
  ·rw [e]; omega
  ·have:=GY e; omega
theorem jQ {k t:Int} {s:List UInt8} {n:Int} {l:List Nd} {x:Nd} (h:x∈l):x.cI<Nd.cI (.mk k t s n l):=by
 rw [bd]
 have:=GY h
 omega
theorem jj (l r:List Nd):Nd.eA (l++r)=Nd.eA l+Nd.eA r:=by
 induction l with
 | nil=>rw [List.nil_append,bf]; omega
 | cons x l ih=>rw [List.cons_append,aD,aD,ih]; omega
theorem au (x:Nd):x.enc.length=5:=by cases x; rw [aB]; rfl
theorem aC (x:Nd):x.enc.all bX=true:=by cases x; rw [aB]; rfl
theorem ah (x:Nd):x.enc.map gC=x.enc:=by cases x; rw [aB]; rfl
theorem aU (l:List Nd):(Nd.bg l).length=l.length:=by rw [eg,List.length_map]
theorem Ha {l:List Nd} {i:Nat} {x:Nd} (h:l[i]? =some x):(Nd.bg l)[i]? =some x.enc:=by rw [eg,List.getElem?_map,h]; rfl
theorem U0 (l r:List Nd):Nd.bg (l++r)=Nd.bg l++Nd.bg r:=by rw [eg,eg,eg,List.map_append]
theorem fE (l:List Nd) (x:Nd):Nd.bg l++[x.enc]=Nd.bg (l++[x]):=by rw [U0,bO,bc]
theorem Nd.ind {P:Nd→Prop} (h:∀x,(∀y:Nd,y.cI<x.cI→P y)→P x) (x:Nd):P x:=by
 have key:∀n,∀x:Nd,x.cI≤n→P x:=by
  intro n
  induction n with
  | zero=>intro x hx; have:=E6 x; omega
  | succ n ih=>intro x hx; exact h x fun y hy=>ih y (by omega)
 exact key _ x (Nat.le_refl _)
theorem tm {α β:Type} {f:α→β}:∀{l r:List α},(∀x∈l,∀y,f x=f y→x=y)→l.map f=r.map f→l=r
 | [],[],_,_=>rfl
 | [],_::_,_,h=>by cases h
 | _::_,[],_,h=>by cases h
 | x::l,y::r,hf,h=>by
  simp only [List.map_cons,List.cons.injEq] at h
  rw [hf x (by simp) y h.1,tm (fun z hz=>hf z (by simp [hz])) h.2]
theorem po:∀x y:Nd,x.enc=y.enc→x=y:=by
 intro x
 induction x using Nd.ind with
 | h x ih=>
  intro y e
  obtain ⟨k,t,s,n,l⟩:=x
  obtain ⟨k',t',s',n',l'⟩:=y
  rw [aB,aB] at e
  simp only [List.cons.injEq,D.int.injEq,D.str.injEq,D.sl.injEq,true_and,and_true] at e
  obtain ⟨rfl,rfl,rfl,rfl,e⟩:=e
  rw [eg,eg] at e
  rw [tm (fun x hx y=>ih x (jQ hx) y) e]
open Classical in
noncomputable def Lt (ds:List D):Option Nd:=if h:∃x:Nd,x.enc=ds then some (Classical.choose h) else none
theorem od (x:Nd):Lt x.enc=some x:=by
 unfold Lt
 rw [dif_pos ⟨x,rfl⟩]
 congr 1
 exact po _ _ (Classical.choose_spec (⟨x,rfl⟩:∃y:Nd,y.enc=x.enc))
theorem vy {ds:List D} {x:Nd} (h:Lt ds=some x):ds=x.enc:=by
 unfold Lt at h
 split at h
 ·rename_i hx
  cases h
  exact (Classical.choose_spec hx).symm
 ·cases h
theorem U1 {l r:List Nd} (h:Nd.bg l=Nd.bg r):l=r:=by
 rw [eg,eg] at h
 exact tm (fun x _ y=>po x y) h
open Classical in
noncomputable def CD (ds:List (List D)):Option (List Nd):=if h:∃x:List Nd,Nd.bg x=ds then some (Classical.choose h) else none
theorem Si (x:List Nd):CD (Nd.bg x)=some x:=by
 unfold CD
 rw [dif_pos ⟨x,rfl⟩]
 congr 1
 exact U1 (Classical.choose_spec (⟨x,rfl⟩:∃y:List Nd,Nd.bg y=Nd.bg x))
theorem zQ {ds:List (List D)} {x:List Nd} (h:CD ds=some x):ds=Nd.bg x:=by
 unfold CD at h
 split at h
 ·rename_i hx
  cases h
  exact (Classical.choose_spec hx).symm
 ·cases h
theorem cG {K:D→aa→Prop} {h:aa} {l:List Nd} {i:Nat} {x:Nd} (e:l[i]? =some x):fx 5 K h (Nd.bg l) (i:Int)=K (.cO x.enc 0) h:=by
 have h1:=(List.getElem?_eq_some_iff.1 e).1
 have h2:(0≤(i:Int)∧(i:Int)<((Nd.bg l).length:Int)):=by rw [aU]; omega
 simp only [fx,h2,Int.toNat_natCast,Ha e,Option.some.injEq]
 apply propext
 constructor
 ·intro k; exact (k.2 _ rfl).2
 ·intro k; exact ⟨by simp,fun y hy=>by rw [←hy]; exact ⟨au x,k⟩⟩
theorem ao (x:Nd):iF x.enc 0 (some 5)=some (.agg x.enc):=by
 have:=au x
 simp only [iF,List.drop_zero]
 rw [if_pos (by omega),List.take_of_length_le (by omega)]
theorem EM {sz b r:Nat} {xs:List (List D)} {y:List D} {h:aa} {K:D→aa→Prop} (hr:xs≠[]→h.f r=some (.row sz (xs.length+2) xs false)) (hy:y.length=sz∧y.all bX=true) (hb:0<b) (hn:(xs.length+1)*b≤140737488355328)
  (hk:∀r',(xs=[]→h.f r'=none)→(xs≠[]→r'=r)→K (fF r' (xs.length+1)) (h.set r' (.row sz (xs.length+1+2) (xs++[y]) false))):BX sz b (fF r xs.length) h K (some [y]):=by
 by_cases h0:xs=[]
 ·subst h0
  rw [List.length_nil,c_,yE]
  refine ⟨by simpa using hy,hb,by simp,by simpa using hn,fun _ id hid=>?_⟩
  have:=hk id (fun _=>hid) (fun h=>absurd rfl h)
  simpa [fF] using this
 ·have hl:xs.length≠0:=fun h=>h0 (List.length_eq_zero_iff.1 h)
  rw [bq hl,yF,hr h0,tO]
  refine ⟨by simpa using hy,hb,rfl,rfl,rfl,rfl,by simpa using hn,?_⟩
  have:=hk r (fun h=>absurd h h0) (fun _=>rfl)
  rw [bq (by omega)] at this
  have e:xs.length+2+[y].length=xs.length+1+2:=by simp
  rw [e]
  exact this
end Go.Proofs.YtpklkpkfgmoghaaGreatDoor.Zz
