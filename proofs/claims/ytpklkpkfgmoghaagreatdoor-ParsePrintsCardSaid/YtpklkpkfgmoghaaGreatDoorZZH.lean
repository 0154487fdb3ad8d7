/- Contracts: digits with a point. -/
import Derived.Test.YtpklkpkfgmoghaaGreatDoorZZF
import Derived.Test.YtpklkpkfgmoghaaGreatDoorZA1
import Derived.Test.YtpklkpkfgmoghaaGreatDoorZL1
import Derived.RecoverIn
set_option linter.unnecessarySimpa false
set_option linter.unusedVariables false
set_option linter.unusedSimpArgs false
namespace Go.Proofs.YtpklkpkfgmoghaaGreatDoor.Zz
def aeI:cj:=⟨⟨[],[],[],[],[],[]⟩,[],[],false⟩
def aaT:dL:=
 sO [oP (.cy (kS [])) 2]
 (sO [oM 0 7,
 oD 126 [.t 7,kS [46]] 8,
 oM 8 6,
 oX 6 0 9,
 oX 6 1 10,
 oX 6 2 11,
 oM 9 3,
 oM 10 4,
 oM 11 5]
 (sO [oM 3 12,
 oD 127 [.t 12,kS [48]] 13,
 oM 4 14,
 oD 128 [.t 14,kS [48]] 15,
 oM 13 3,
 oM 15 4]
 (.seq (sO [oM 3 16,
 oP (.bin .eql (.t 16) (kS [])) 17]
 (.cond (.t 17)
 (.ops [oP (.cy (kS [48])) 3])
 (.skip)))
 (.seq (sO [oM 4 18,
 oP (.bin .eql (.t 18) (kS [])) 19]
 (.cond (.t 19)
 (.ops [oP (.cy (kS [48])) 4])
 (.skip)))
 (sO [oM 3 20,
 oP (.bin .add (.t 20) (kS [46])) 21,
 oM 4 22,
 oE .add 21 22 23,
 oM 23 2]
 (.ret))))))
theorem abp:bJ Tryz.prog 117 aeI=some (aaT,[.tmp 2],24):=by kernel_rfl
def aeK:cj:=⟨⟨[],[],[],[],[],[]⟩,[],[],false⟩
def aaU:dL:=
 sO [oP (.cy (kI 0)) 2]
 (sO [oM 0 11,
 oD 126 [.t 11,kS [46]] 12,
 oM 12 10,
 oX 10 0 13,
 oX 10 1 14,
 oX 10 2 15,
 oM 13 3,
 oM 14 4,
 oM 15 5]
 (sO [oP (.cy (.c (.float .f64 0))) 6,
 oP (.cy (.c (.float .f64 4607182418800017408))) 7]
 (.seq (sO [oM 3 16,
 oM 4 17,
 oE .add 16 17 18,
 oQ (.mK (.t 18)) 19]
 (.block 0 (.loop (sO [oQ (.pN (.t 19)) 20,
 oX 20 0 21]
 (.seq (.cond (.t 21)
 (.skip)
 (.exit 0))
 (.block 1 (sO [oX 20 2 22,
 oM 22 9]
 (.ops [oM 6 23,
 oQ (.iW .mul (.t 23) (.c (.float .f64 4621819117588971520))) 24,
 oM 9 25,
 oP (.bin .sub (.t 25) (.c (.int .i32 48))) 26,
 oP (.conv .qQ (.t 26)) 27,
 oQ (.iW .add (.t 24) (.t 27)) 28,
 oM 28 6]))))))))
 (.seq (sO [oM 4 29,
 oW 29 30,
 oP (.cy (kI 0)) 31]
 (.block 2 (.loop (sO [oE .lss 31 30 32]
 (.seq (.cond (.t 32)
 (.skip)
 (.exit 2))
 (.seq (.block 3 (.ops [oM 7 33,
 oQ (.iW .mul (.t 33) (.c (.float .f64 4621819117588971520))) 34,
 oM 34 7]))
 (.ops [oH .add 31 1 35,
 oM 35 31])))))))
 (sO [oM 6 36,
 oM 7 37,
 oQ (.iW .quo (.t 36) (.t 37)) 38,
 oD 82 [.t 38] 39,
 oP (.conv (.nL .i64) (.t 39)) 40,
 oM 40 2]
 (.ret))))))
theorem abq:bJ Tryz.prog 118 aeK=some (aaU,[.tmp 2],41):=by kernel_rfl
def aeM:cj:=⟨⟨[],[],[],[],[],[]⟩,[],[],false⟩
def aaW:dL:=
 sO [oA 2]
 (sO [oM 0 3,
 oD 117 [.t 3] 4,
 oM 0 5,
 oD 117 [.t 5] 6,
 oD 118 [.t 6] 7,
 oP (.build zN [(0,1,(kI 21)),(1,1,(kI 2)),(2,1,(.t 4)),(3,1,(.t 7))]) 8,
 oS 5 2 8]
 (.ret))
theorem abt:bJ Tryz.prog 99 aeM=some (aaW,[.cell 2 (some 5)],9):=by kernel_rfl
def Mf:List D→Option D
 | [.str s,.str t]=>if s.length<4294967281 then some (.tuple [.str (b8.cut s t).1,.str (b8.cut s t).2.1,.bool (b8.cut s t).2.2]) else none
 | _=>none
theorem S6 (args:List D) (d:D) (h:Mf args=some d):aO Tryz.prog 126 args d:=by
 unfold Mf at h
 split at h
 ·split at h
  ·cases h; exact YX _ _ (by assumption)
  ·cases h
 ·cases h
theorem Q6 (s t:List UInt8) (h:t=[48]):aO Tryz.prog 127 [.str s,.str t] (.str (b8.ez s 48)):=by subst h; exact TL s
theorem Q7 (s t:List UInt8) (h:t=[48]):aO Tryz.prog 128 [.str s,.str t] (.str (b8.dy s 48)):=by subst h; exact TM s
def O9:List D→Option D
 | [.str s,.str t]=>if t=[48] then some (.str (b8.ez s 48)) else none
 | _=>none
theorem S8 (args:List D) (d:D) (h:O9 args=some d):aO Tryz.prog 127 args d:=by
 unfold O9 at h
 split at h
 ·split at h
  ·cases h; exact Q6 _ _ (by assumption)
  ·cases h
 ·cases h
def O_:List D→Option D
 | [.str s,.str t]=>if t=[48] then some (.str (b8.dy s 48)) else none
 | _=>none
theorem S_ (args:List D) (d:D) (h:O_ args=some d):aO Tryz.prog 128 args d:=by
 unfold O_ at h
 split at h
 ·split at h
  ·cases h; exact Q7 _ _ (by assumption)
  ·cases h
 ·cases h
theorem Za:vK Tryz.prog 82 "math.Float64bits" =true:=by kernel_rfl
def uf:bm:=bm.zero.dh 126 Mf
theorem JL (g:FuncId) (args:List D):uf.q g args=if g=126 then Mf args else bm.zero.q g args:=rfl
theorem JI:uf.a=bm.zero.a:=rfl
theorem JJ:uf.c=bm.zero.c:=rfl
theorem PK:uf.ok Tryz.prog:=bm.bq (bm.eH _) S6
theorem JK:a7% (And.intro @JL (And.intro @JI @JJ)):=(And.intro @JL (And.intro @JI @JJ))
def ug:bm:=uf.dh 127 O9
theorem JQ (g:FuncId) (args:List D):ug.q g args=if g=127 then O9 args else uf.q g args:=rfl
theorem JN:ug.a=uf.a:=rfl
theorem JO:ug.c=uf.c:=rfl
theorem PO:ug.ok Tryz.prog:=bm.bq PK S8
theorem JP:a7% (And.intro (And.intro @JQ (And.intro @JN @JO)) @JK):=(And.intro (And.intro @JQ (And.intro @JN @JO)) @JK)
def uh:bm:=ug.dh 128 O_
theorem JU (g:FuncId) (args:List D):uh.q g args=if g=128 then O_ args else ug.q g args:=rfl
theorem JR:uh.a=ug.a:=rfl
theorem JS:uh.c=ug.c:=rfl
theorem PV:uh.ok Tryz.prog:=bm.bq PO S_
theorem JT:a7% (And.intro (And.intro @JU (And.intro @JR @JS)) @JP):=(And.intro (And.intro @JU (And.intro @JR @JS)) @JP)
def ui:bm:=uh.dh 82 uB
theorem JX (g:FuncId) (args:List D):ui.q g args=if g=82 then uB args else uh.q g args:=rfl
theorem JV:ui.a=uh.a:=rfl
theorem JW:ui.c=uh.c:=rfl
theorem xq:ui.ok Tryz.prog:=bm.AN PV (FG Za)
theorem lg:a7% (And.intro (And.intro @JX (And.intro @JV @JW)) @JT):=(And.intro (And.intro @JX (And.intro @JV @JW)) @JT)
def ik (l:List UInt8):List UInt8:=if (l==[])=true then [48] else l
theorem OQ {l:List UInt8} (h:(l==[])=true):ik l=[48]:=if_pos h
theorem OP {l:List UInt8} (h:(l==[])=false):ik l=l:=if_neg (by simp [h])
def jZ (s:List UInt8):List UInt8:=ik (b8.ez (b8.cut s [46]).1 48)++[46]++ik (b8.dy (b8.cut s [46]).2.1 48)
theorem An (l:List UInt8) (c:UInt8):(b8.ez l c).length≤l.length:=gK _ l
theorem Ao (l:List UInt8) (c:UInt8):(b8.dy l c).length≤l.length:=by
 have:=gK (fun b=>b==c) l.reverse
 simp only [b8.dy,List.length_reverse] at this ⊢
 exact this
theorem RU (s t:List UInt8):(b8.cut s t).1.length≤s.length∧(b8.cut s t).2.1.length≤s.length:=by
 unfold b8.cut
 split<;>simp<;>omega
theorem NP (s:List UInt8) (h:s.length<4294967281):aO Tryz.prog 117 [.str s] (.str (jZ s)):=by
 refine aO.run xq abp (by simp) fun E=>?_
 have l1:=RU s [46]
 have l2:=An (b8.cut s [46]).1 48
 have l3:=Ao (b8.cut s [46]).2.1 48
 unfold jZ
 cases YN:(b8.ez (b8.cut s [46]).1 48==[])<;>cases c2d:(b8.dy (b8.cut s [46]).2.1 48==[])<;>
  simp only [aaT,h,YN,c2d,Mf,O9,O_,OQ,OP,lg,aD,seval]<;>(try simp only [List.length_cons,List.length_nil,List.length_append])<;>(repeat' first | omega | trivial | refine And.intro ?_ ?_)
def eo (l:List UInt8):Nat:=l.foldl (fun n c=>n*10+(c.toNat - 48)) 0
def dU (c:UInt8):Bool:=decide (48≤c.toNat) && decide (c.toNat≤57)
theorem ML (l:List UInt8) (c:UInt8):eo (l++[c])=eo l*10+(c.toNat - 48):=by simp [eo]
theorem rT (l:List UInt8):l.all dU=true→eo l<10 ^ l.length:=by
 intro h
 have key:∀(l:List UInt8) (n k:Nat),l.all dU=true→n<10 ^ k→l.foldl (fun n c=>n*10+(c.toNat - 48)) n<10 ^ (k+l.length):=by
  intro l
  induction l with
  | nil=>intro n k _ h; exact h
  | cons c l ih=>
   intro n k ha hn
   simp only [List.all_cons,Bool.and_eq_true] at ha
   have hc:c.toNat - 48≤9:=by have:=ha.1; simp [dU] at this; omega
   have:=ih (n*10+(c.toNat - 48)) (k+1) ha.2 (by rw [Nat.pow_succ]; omega)
   rw [List.foldl_cons,List.length_cons,show k+(l.length+1)=k+1+l.length by omega]
   exact this
 have:=key l 0 0 h (by decide)
 rw [Nat.zero_add] at this
 exact this
theorem KZ {l:List UInt8} (h:l.all dU=true) (hl:l.length≤15):eo l<1000000000000000:=by
 have h1:=rT l h
 have h2:=Nat.pow_le_pow_right (show 0<10 by decide) hl
 have h3:(10:Nat) ^ 15=1000000000000000:=by decide
 omega
def Pc (m n:Nat):Nat:=(gZ .quo .f64 (r8 m) (r8 n)).getD 0
theorem IC {m n:Nat} (hm:m<9007199254740992) (hn:n<9007199254740992) (h0:0<n):gZ .quo .f64 (r8 m) (r8 n)=some (Pc m n)∧Pc m n≤2047*4503599627370496:=by
 obtain ⟨r,h1,h2⟩:=V7 m n hm hn h0
 unfold Pc
 rw [h1]
 exact ⟨rfl,h2⟩
def jn (s:List UInt8):Int:=IntKind.i64.wrap (Pc (eo ((b8.cut s [46]).1++(b8.cut s [46]).2.1)) (10 ^ (b8.cut s [46]).2.1.length):Nat)
theorem wH {n:Nat} (h:n≤15):(10:Nat) ^ n≤1000000000000000:=by
 have h2:=Nat.pow_le_pow_right (show 0<10 by decide) h
 have h3:(10:Nat) ^ 15=1000000000000000:=by decide
 omega
theorem VL (s:List UInt8) (h:s.length<4294967281) (hd:((b8.cut s [46]).1++(b8.cut s [46]).2.1).all dU=true) (hl:((b8.cut s [46]).1++(b8.cut s [46]).2.1).length≤15):aO Tryz.prog 118 [.str s] (.int .i64 (jn s)):=by
 refine aO.run xq abq (by simp) fun E=>?_
 unfold jn
 simp only [aaU,h,Mf,lg,aD,seval]
 generalize (b8.cut s [46]).1=A at*
 generalize (b8.cut s [46]).2.1=B at*
 rw [List.length_append] at hl
 refine ⟨by omega,?_⟩
 intro id
 simp only [Oo,aD,seval]
 have hZ:∀i c,(A++B)[i]? =some c→dU c=true:=fun i c hc=>by
  rw [List.all_eq_true] at hd
  exact hd c (List.mem_of_getElem? hc)
 have v15:=KZ hd (by rw [List.length_append]; omega)
 have vle:∀i,eo ((A++B).take i)<1000000000000000:=fun i=>KZ (by
  rw [List.all_eq_true] at hd ⊢
  exact fun x hx=>hd x (List.mem_of_mem_take hx)) (by rw [List.length_take,List.length_append]; omega)
 generalize hS:A++B=S at*
 have hSl:S.length=A.length+B.length:=by rw [←hS,List.length_append]
 refine c6 (X:=Nat) (fun i=>[(4,.str B),(6,.float .f64 (r8 (eo (S.take i)))),(7,.float .f64 (r8 1)),(19,.iter id)]) (fun i=>aa.emp.set id (.jR S i)) (fun i=>S.length - i) (fun i=>i≤S.length) 0 (Nat.zero_le _) ?_ (aa.aU _) ?_
 ·have v0:r8 (eo [])=0:=LC
  simp only [V_,v0,List.take_zero,aD,seval]
 ·intro i Q hi hQ
  by_cases c:i<S.length
  ·obtain ⟨x,hx⟩:∃x,S[i]? =some x:=⟨_,List.getElem?_eq_getElem c⟩
   have hxd:=hZ i x hx
   have hx1:48≤x.toNat∧x.toNat≤57:=by simpa [dU] using hxd
   have e1:=Gi hx (UInt8.lt_iff_toNat_lt.2 (Nat.lt_of_le_of_lt hx1.2 (by decide)))
   have e2:IntKind.i32.wrap ((x.toNat:Int) - 48)=((x.toNat - 48:Nat):Int):=by
    simp [IntKind.wrap,IntKind.bits,IntKind.signed]
    split<;>omega
   have tk:S.take (i+1)=S.take i++[x]:=by
    rw [List.take_add_one,hx]; rfl
   have hv:eo (S.take i)*10+(x.toNat - 48)=eo (S.take (i+1)):=by rw [tk,ML]
   have v1:=vle (i+1)
   have m1:=N2 (eo (S.take i)) 10 (by omega) (by decide) (by omega)
   rw [N3] at m1
   have m2:=V6 (eo (S.take i)*10) (x.toNat - 48) (by omega) (by omega) (by omega)
   rw [hv] at m2
   have YN:(i<S.length)=True:=eq_true c
   have c2d:(S.length≤i)=False:=eq_false (by omega)
   simp only [H7,Aj,YN,c2d,e1,e2,V8,m1,m2,true_implies,false_implies,and_true,lg,aD,seval]
   refine hQ (i+1) _ _ (by omega) (by simp only [aD,seval]) ?_ (by omega)
   exact aa.dV (by repeat' first | ax exact aa.bK | ax exact aa.bO | refine aa.cU (by simp []) ?_ | refine aa.cZ (by simp []) ?_)
  ·have e0:i=S.length:=by omega
   subst e0
   have YN:(S.length<S.length)=False:=eq_false (by omega)
   have hlB:B.length≤15:=by omega
   have tk:S.take S.length=S:=List.take_length
   simp only [H7,Aj,YN,tk,Nat.le_refl,true_implies,false_implies,true_and,lg,aD,seval]
   intro _
   refine c6 (X:=Nat) (fun i=>[(6,.float .f64 (r8 (eo S))),(7,.float .f64 (r8 (10 ^ i))),(30,.int .i64 B.length),(31,.int .i64 i)]) (fun i=>.emp) (fun i=>B.length - i) (fun i=>i≤B.length) 0 (Nat.zero_le _) ?_ IH ?_
   ·simp only [Nat.pow_zero,aD,seval]
   ·intro i Q hi hQ
    by_cases c:i<B.length
    ·have g:((i:Int)<(B.length:Int))=True:=eq_true (by omega)
     have p1d:=wH (n:=i) (by omega)
     have p2d:=wH (n:=i+1) (by omega)
     rw [Nat.pow_succ] at p2d
     have m1:=N2 (10 ^ i) 10 (by omega) (by decide) (by omega)
     rw [N3,←Nat.pow_succ] at m1
     have wi:IntKind.i64.wrap ((i:Int)+1)=((i+1:Nat):Int):=de (by omega)
     simp only [g,m1,wi,lg,aD,seval]
     exact hQ (i+1) _ _ (by omega) (by simp only [aD,seval]) IH (by omega)
    ·have e0:i=B.length:=by omega
     subst e0
     have g:((B.length:Int)<(B.length:Int))=False:=eq_false (by omega)
     obtain ⟨m1,m2⟩:=IC (m:=eo S) (n:=10 ^ B.length) (by omega) (by have:=wH hlB; omega) (Nat.pow_pos (by decide))
     simp only [g,m1,uB,lg,aD,seval]
def Md:List D→Option D
 | [.str s]=>if s.length<4294967281 then some (.str (jZ s)) else none
 | _=>none
theorem SY (args:List D) (d:D) (h:Md args=some d):aO Tryz.prog 117 args d:=by
 unfold Md at h
 split at h
 ·split at h
  ·cases h; exact NP _ (by assumption)
  ·cases h
 ·cases h
def Me:List D→Option D
 | [.str s]=>if s.length<4294967281∧((b8.cut s [46]).1++(b8.cut s [46]).2.1).all dU=true∧((b8.cut s [46]).1++(b8.cut s [46]).2.1).length≤15 then some (.int .i64 (jn s)) else none
 | _=>none
theorem SZ (args:List D) (d:D) (h:Me args=some d):aO Tryz.prog 118 args d:=by
 unfold Me at h
 split at h
 ·split at h
  ·cases h; exact VL _ (by ab h; exact h.1) (by ab h; exact h.2.1) (by ab h; exact h.2.2)
  ·cases h
 ·cases h
def tZ:bm:=ui.dh 117 Md
theorem Ja (g:FuncId) (args:List D):tZ.q g args=if g=117 then Md args else ui.q g args:=rfl
theorem I8:tZ.a=ui.a:=rfl
theorem I9:tZ.c=ui.c:=rfl
theorem PD:tZ.ok Tryz.prog:=bm.bq xq SY
theorem I_:a7% (And.intro (And.intro @Ja (And.intro @I8 @I9)) @lg):=(And.intro (And.intro @Ja (And.intro @I8 @I9)) @lg)
def Jb:bm:=tZ.dh 118 Me
theorem Je (g:FuncId) (args:List D):Jb.q g args=if g=118 then Me args else tZ.q g args:=rfl
theorem Jc:Jb.a=tZ.a:=rfl
theorem Jd:Jb.c=tZ.c:=rfl
theorem PE:Jb.ok Tryz.prog:=bm.bq PD SZ
theorem Ty:a7% (And.intro (And.intro @Je (And.intro @Jc @Jd)) @I_):=(And.intro (And.intro @Je (And.intro @Jc @Jd)) @I_)
theorem zh:∀(A B:List UInt8),A.all dU=true→b8.index (A++([46]++B)) [46]=A.length
 | [],B,_=>by simp [b8.index]
 | a::A,B,h=>by
  simp only [List.all_cons,Bool.and_eq_true] at h
  have ih:=zh A B h.2
  have h1:(46==a)=false:=by
   have:=h.1
   simp only [dU,Bool.and_eq_true,decide_eq_true_eq] at this
   simp only [beq_eq_false_iff_ne]
   intro e
   rw [←e] at this
   exact absurd this.1 (by decide)
  rw [List.cons_append,b8.index,ih]
  have h2:(([46]:List UInt8).isPrefixOf (a::(A++([46]++B))))=false:=by simp [List.isPrefixOf,h1]
  have h3:(((A.length:Int)== -1)=false):=by simp only [beq_eq_false_iff_ne]; omega
  rw [h2,h3]
  simp
theorem A9 (A B:List UInt8) (h:A.all dU=true):b8.cut (A++[46]++B) [46]=(A,B,true):=by
 unfold b8.cut
 rw [List.append_assoc,zh A B h,if_pos (by omega),Int.toNat_natCast]
 rw [List.take_left,←List.append_assoc,List.drop_left' (by simp)]
theorem wo {l:List UInt8} (h:l.all dU=true):(ik l).all dU=true:=by
 unfold ik
 split
 ·decide
 ·exact h
theorem wq (l:List UInt8) (n:Nat) (h:l.length≤n) (h1:1≤n):(ik l).length≤n:=by
 unfold ik
 split
 ·exact h1
 ·exact h
theorem pC (p q:UInt8→Bool) (l:List UInt8) (h:l.all q=true):(l.dropWhile p).all q=true:=by
 rw [List.all_eq_true] at h ⊢
 exact fun x hx=>h x ((List.dropWhile_sublist p).subset hx)
theorem ME {l:List UInt8} (c:UInt8) (h:l.all dU=true):(b8.ez l c).all dU=true:=pC _ _ _ h
theorem MF {l:List UInt8} (c:UInt8) (h:l.all dU=true):(b8.dy l c).all dU=true:=by
 unfold b8.dy
 rw [List.all_reverse]
 exact pC _ _ _ (by rw [List.all_reverse]; exact h)
theorem NO (A B:List UInt8) (h:A.all dU=true):jZ (A++[46]++B)=ik (b8.ez A 48)++[46]++ik (b8.dy B 48):=by
 unfold jZ
 rw [A9 A B h]
structure iP (s A B:List UInt8):Prop where
 eq:s=A++[46]++B
 a:A.all dU=true
 b:B.all dU=true
 a1:1≤A.length
 b1:1≤B.length
 len:A.length+B.length≤15
theorem iP.dig {s A B:List UInt8} (h:iP s A B):iP (jZ s) (ik (b8.ez A 48)) (ik (b8.dy B 48)):=by
 obtain ⟨rfl,a,b,a1,b1,l⟩:=h
 have l1:=wq _ A.length (An A 48) a1
 have l2:=wq _ B.length (Ao B 48) b1
 refine ⟨NO A B a,wo (ME 48 a),wo (MF 48 b),?_,?_,by omega⟩
 ·unfold ik; split
  ·exact Nat.le_refl _
  ·ab h; cases e:b8.ez A 48 with
   | nil=>rw [e] at h; exact absurd rfl h
   | cons x l=>simp
 ·unfold ik; split
  ·exact Nat.le_refl _
  ·ab h; cases e:b8.dy B 48 with
   | nil=>rw [e] at h; exact absurd rfl h
   | cons x l=>simp
theorem iP.aaf {s A B:List UInt8} (h:iP s A B):Md [.str s]=some (.str (jZ s)):=by
 have:s.length<4294967281:=by rw [h.eq]; simp only [List.length_append,List.length_cons,List.length_nil]; have:=h.len; omega
 simp only [Md]
 rw [if_pos this]
theorem iP.WW {s A B:List UInt8} (h:iP s A B):Me [.str s]=some (.int .i64 (jn s)):=by
 have h1:s.length<4294967281:=by rw [h.eq]; simp only [List.length_append,List.length_cons,List.length_nil]; have:=h.len; omega
 simp only [Me]
 rw [if_pos]
 rw [h.eq] at h1 ⊢
 rw [A9 A B h.a]
 exact ⟨h1,by rw [List.all_append,h.a,h.b]; rfl,by rw [List.length_append]; exact h.len⟩
theorem iP.bits {s A B:List UInt8} (h:iP s A B):jn s=IntKind.i64.wrap (Pc (eo (A++B)) (10 ^ B.length):Nat):=by
 unfold jn
 rw [h.eq,A9 A B h.a]
theorem R1 (s A B:List UInt8) (h:iP s A B):aO Tryz.prog 99 [.str s] (.agg [.int .i64 21,.int .i64 2,.str (jZ s),.int .i64 (jn (jZ s)),.sl []]):=by
 refine aO.run PE abt (by simp) fun E=>?_
 have h1:=h.aaf
 have h2:=h.dig.WW
 simp only [aaW,h1,h2,Ty,aD,seval]
end Go.Proofs.YtpklkpkfgmoghaaGreatDoor.Zz
namespace Go.Proofs.YtpklkpkfgmoghaaGreatDoor.Zz
noncomputable section
structure PS where
 pos:Int
 cQ:Int
 deep:Int
inductive PR (α:Type) where
 | ok (x:α) (s:PS)
 | fail (a e:Int)
 | out
end
variable {α β:Type}
def PR.bind (r:PR α) (k:α→PS→PR β):PR β:=match r with
 | .ok x s=>k x s
 | .fail a e=>.fail a e
 | .out=>.out
def jG (r:PR α) (K:α→PS→Prop) (E:Int→Int→Prop):Prop:=match r with
 | .ok x s=>K x s
 | .fail a e=>E a e
 | .out=>False
theorem cu {x:α} {s:PS} {K:α→PS→Prop} {E:Int→Int→Prop}:jG (.ok x s) K E=K x s:=rfl
theorem Ro {a e:Int} {K:α→PS→Prop} {E:Int→Int→Prop}:jG (.fail a e) K E=E a e:=rfl
theorem aG {r:PR α} {k:α→PS→PR β} {K:β→PS→Prop} {E:Int→Int→Prop}:jG (r.bind k) K E=jG r (fun x s=>jG (k x s) K E) E:=by cases r<;>rfl
theorem gO {r:PR α} {K K':α→PS→Prop} {E E':Int→Int→Prop} (hk:∀x s,K x s→K' x s) (he:∀a e,E a e→E' a e) (h:jG r K E):jG r K' E':=by
 cases r with
 | ok x s=>exact hk _ _ h
 | fail a e=>exact he _ _ h
 | out=>exact h
section
variable (l:List cH)
def d8 (s:PS):cH:=l.getD s.pos.toNat (0,[],0)
def il (e:Int) (s:PS):PR α:=.fail (d8 l s).2.2 e
def lZ (x:List UInt8) (s:PS):Bool:=(d8 l s).2.1==x && ((d8 l s).1==5 || (d8 l s).1==4)
def cE (s:PS):PS:={ s with pos:=s.pos+1 }
def dI (x:List UInt8) (s:PS):PR Bool:=bif lZ l x s then .ok true (cE s) else .ok false s
def fq (x:List UInt8) (s:PS):PR Unit:=bif lZ l x s then .ok () (cE s) else il l 110 s
def iN (s:PS):PR (List UInt8):=bif (d8 l s).1==1 then .ok (d8 l s).2.1 (cE s) else il l 110 s
def mR:List UInt8:=[105,110,116]
def fP:List UInt8:=[102,108,111,97,116]
def xF:List UInt8:=[98,111,111,108]
def pw (s:PS):PR Int:=bif lZ l mR s then .ok 1 (cE s) else bif lZ l fP s then .ok 2 (cE s) else bif lZ l xF s then .ok 3 (cE s) else il l 110 s
def dM (n:Nd) (s:PS):PR Nd:=if s.cQ+1>2000 then il l 3 { s with cQ:=s.cQ+1 } else .ok n { s with cQ:=s.cQ+1 }
def Uv (s:PS):PR Unit:=if s.deep+1>40 then il l 3 { s with deep:=s.deep+1 } else .ok () { s with deep:=s.deep+1 }
def GO (r:PR α):PR α:=r.bind fun x s=>.ok x { s with deep:=s.deep - 1 }
def iX (x:List UInt8):Nd:=.mk 21 0 (jZ x) (jn (jZ x)) []
def mf:List UInt8:=[116,114,117,101]
def i_:List UInt8:=[102,97,108,115,101]
def lB (s:PS):PR (Nd×Bool):=
 let t:=d8 l s
 let go (n:Nd):PR (Nd×Bool):=(dM l n (cE s)).bind fun n s=>.ok (n,true) s
 bif t.1==2 then go (.mk 20 0 [] (eo t.2.1:Nat) [])
 else bif t.1==3 then go (iX t.2.1)
 else bif lZ l mf s then go (.mk 22 0 [] 1 [])
 else bif lZ l i_ s then go (.mk 22 0 [] 0 [])
 else .ok (.mk 0 0 [] 0 [],false) s
def Nd.kind:Nd→Int
 | .mk k _ _ _ _=>k
def Nd.Pt (n:Nd) (v:Int):Nd:=match n with
 | .mk k t s _ l=>.mk k t s v l
def Nd.num:Nd→Int
 | .mk _ _ _ n _=>n
def WM (n:Int):Int:=IntKind.i64.wrap ((Op.negFloat .f64 (IntKind.u64.wrap n).toNat:Nat):Int)
def BE (s:PS):PR Nd:=(dI l [45] s).bind fun minus s=>(lB l s).bind fun x s=>
 bif !x.2 || (minus && x.1.kind==22) then il l 110 s
 else .ok (bif minus && x.1.kind==20 then x.1.Pt (IntKind.i64.wrap (0 - x.1.num)) else bif minus && x.1.kind==21 then x.1.Pt (WM x.1.num) else x.1) s
def fF (s:List UInt8):Int:=
 bif s==[124,124] then 1 else bif s==[38,38] then 2
 else bif s==[60] || s==[60,61] || s==[62] || s==[62,61] || s==[61,61] || s==[33,61] then 3
 else bif s==[43] || s==[45] then 4 else bif s==[42] || s==[47] || s==[37] then 5 else 0
end
end Go.Proofs.YtpklkpkfgmoghaaGreatDoor.Zz
namespace Go.Proofs.YtpklkpkfgmoghaaGreatDoor.Zz
variable {P:Program} {T:bm} {κ:cp} {h:aa} {w:World} {σ:Fr} {n:Nat} {a:Act}
inductive uC (κ:cp) (w:World):Option D→FrameMode→Prop
 | ret:uC κ w none .returning
 | pan {v:Value} {d:D} (r:cd κ w v d):uC κ w (some d) (.panicking [{ v,recovered:=false }])
theorem uC.mono {κ κ':cp} {w w':World} {u:Option D} {m:FrameMode} (r:uC κ w u m) (le:Le κ w κ' w'):uC κ' w' u m:=by
 cases r with
 | ret=>exact .ret
 | pan r=>exact .pan (r.mono le)
def gH [aN] (P:Program) (κ:cp) (w:World) (k:FuncId) (args:List D) (u:Option D) (h:aa) (F:Option D→aa→Prop):Prop:=
 fi P k=true∧∀(vs:Array Value) (m:FrameMode),Inv κ h w→bP κ w vs.toList args→uC κ w u m→
  B9 (FW none) 0 P k vs m w fun e m' w'=>∃v u' h' κ',e=.returned v∧F u' h'∧uC κ' w' u' (settle m')∧Inv κ' h' w'∧Ev κ h w κ' h' w'
abbrev cS:=FuncId→List D→Option D→aa→(Option D→aa→Prop)→Prop
def cS.none:cS:=fun _ _ _ _ _=>False
def cS.nU [aN] (P:Program) (κ:cp) (w:World) (dc:cS):Prop:=∀k args u h F,dc k args u h F→∀κ' w',Le κ w κ' w'→gH P κ' w' k args u h F
theorem cS.eV [aN]:cS.none.nU P κ w:=fun _ _ _ _ _ x=>x.elim
def eT (dc:cS):List lv→Option D→aa→(Option D→aa→Prop)→Prop
 | [],u,h,F=>F u h
 | d::ds,u,h,F=>match d.fn with
  | .yield rd=>h.f rd=some .Yc∧eT dc ds u (h.del rd) F
  | .func k=>dc k (d.args++d.cap) u h (fun u' h'=>eT dc ds u' h' F)
  | _=>False
def az (rs:List eK) (R:dF→aa→Prop) (σ:Fr) (u:Option D) (h:aa):Prop:=
 match u with
 | none=>∃ds,eg σ h rs=some ds∧((∃h',h'.sub h∧R (.ret (xx ds)) h')∨(∃h',h'.sub (ff h ds)∧R (.ret (xx (ds.map (plain h)))) h'))
 | some d=>∃h',h'.sub h∧R (.panic d) h'
def Mo (dc:cS) (rs:List eK) (R:dF→aa→Prop) (e:Ex) (σ:Fr) (h:aa):Prop:=
 match e with
 | .exit _=>False
 | _=>eT dc σ.defs none h (az rs R σ)
def bB (dc:cS) (rs:List eK) (R:dF→aa→Prop) (σ:Fr) (d:D) (h:aa):Prop:=eT dc σ.defs (some d) h (az rs R σ)
theorem pX {ds:List lv}:∀(rs:List eK),eg { σ with defs:=ds } h rs=eg σ h rs
 | []=>rfl
 | .tmp t::l=>by simp only [eg,pX l]
 | .cell x k::l=>by simp only [eg,pX l]
theorem ie [aN] {dc:cS} {fn:Func} {rs:List eK} {R:dF→aa→Prop} {σ:Fr} {tmps:Array Value} {κ0:cp} {h0:aa} {w0:World} (r9:Inv κ0 h0 w0) (N9:dc.nU P κ0 w0) (hr:qd P fn.results.toList=some rs):
  ∀(ds:List lv) (dv:List Deferred) (u:Option D) (m:FrameMode) (κ:cp) (h:aa) (w:World),eT dc ds u h (az rs R σ)→kL κ w dv ds→Inv κ h w→uC κ w u m→Ev κ0 h0 w0 κ h w→(∀i,cd κ w (tmps.getD i undef) (σ.env i))→
   X9 (FW none) 0 P fn tmps (fun e w'=>∃o h' κ',R o h'∧jH κ' w' o e∧Inv κ' h' w'∧Ev κ0 h0 w0 κ' h' w') dv m w
 | [],dv,u,m,κ,h,w,hl,hd,hi,hm,ev,Sa=>by
  cases hd
  simp only [eT,az] at hl
  cases hm with
  | ret=>
   obtain ⟨ds,k2,k3⟩:=hl
   have hp:jF κ w { σ with defs:=[] } tmps.size { tmps:=tmps,defers:=[] }:=⟨rfl,Sa,.nil,hi.kG⟩
   obtain ⟨us,g1,g2⟩:=l7 (P:=P) hi hp hr (by rw [pX]; exact k2)
   refine ⟨_,g1,?_⟩
   rcases k3 with ⟨kQ,s1,s2⟩ | ⟨kQ,s1,s2⟩
   ·exact ⟨_,kQ,κ,s2,.ret (u5 g2),hi.sub s1,ev.sub s1⟩
   ·obtain ⟨gP,i2,e2,r2⟩:=iQ hi g2
    exact ⟨_,kQ,gP,s2,.ret (u5 r2),i2.sub s1,(ev.trans e2).sub s1⟩
  | pan r=>
   obtain ⟨h',s1,s2⟩:=hl
   exact ⟨.panic _,h',κ,s2,.panic r,hi.sub s1,ev.sub s1⟩
 | d::ds,dv,u,m,κ,h,w,hl,hd,hi,hm,ev,Sa=>by
  cases hd with
  | cons hd1 hds=>
  have hmr:m≠.run:=by cases hm<;>simp
  refine ⟨hmr,?_⟩
  cases hd1 with
  | col h1 h2 h3=>
   ab r id p
   simp only [eT] at hl
   obtain ⟨k1,k2⟩:=hl
   obtain ⟨p',q1,q2,q3,q4⟩:=hi.obj id _ k1
   rw [h1] at q1
   cases q1
   subst h3
   obtain ⟨i4,T7⟩:=hi.lE (o':=.other) (ob:=.deferred none) k1 h1 rfl rfl ⟨q2,q3⟩
   have Pz:(h.del id).sub (h.set id .other):=fun i o ho=>by
    simp only [aa.T1,aa.dN] at ho ⊢
    split at ho
    ·cases ho
    ·ab iC; rw [if_neg iC]; exact ho
   have Yu:=T7.le hi
   exact .inl ⟨_,_,rfl,Mp q4,ie r9 N9 hr ds _ u m κ _ _ k2 (hds.mono Yu) (i4.sub Pz) (hm.mono Yu) ((ev.trans T7).sub Pz) fun i=>(Sa i).mono Yu⟩
  | mk hc ha=>
   ab k cap args ais agi
   simp only [eT] at hl
   obtain ⟨LG,te⟩:=N9 _ _ _ _ _ hl κ w (ev.le r9)
   refine .inr ⟨uK,.func k,cap,k,args++cap,rfl,?_,fun _ _=>trivial,?_⟩
   ·simp only [invoke,gp LG]
   ·refine B9.mono (te (args++cap) m hi (by rw [Array.toList_append]; exact ha.append hc) hm) ?_
    rintro e m' w' ⟨v,u',h',κ',rfl,k1,k2,k3,k4⟩
    have Yu:=k4.le hi
    exact ie r9 N9 hr ds _ u' (settle m') κ' h' w' k1 (hds.mono Yu) k3 k2 (ev.trans k4) fun i=>(Sa i).mono Yu
theorem cI.WS [aN] (hT:T.nU P κ w) {dc:cS} (N9:dc.nU P κ w) {f:FuncId} {fn:Func} {c:Code} {s:dL} {pl:cj} {rs:List eK} {args:List D} {R:dF→aa→Prop} (hf:P.funcs[f]? =some fn) (hb:fn.body=some c) (j4:fi P f=true) (hc:comp P fn.ntmps pl c=some s) (hr:qd P fn.results.toList=some rs)
  (hn:args.length≤fn.ntmps) (hv:vc T s (Mo dc rs R) (bB dc rs R) (f8 args) h):cI P κ w f args h R:=by
 refine ⟨j4,fun vs hi pt=>callsIn_wide.1 (FJ (F:=FW none) (n:=0) hf hb trivial ?_)⟩
 have hp:=qA hi pt hn
 have key:=rU c s pl hc none (fun _=>rfl) κ h w hT hi _ _ κ h w _ _ hi hp (Ev.refl κ h w) hv
 refine wpIn_mono key fun e a' w' q=>?_
 cases e with
 | normal=>obtain ⟨κ',h',σ',k,i',p',e'⟩:=q; exact ie hi N9 hr _ _ none _ κ' h' w' k p'.defs i' .ret e' p'.env
 | ret=>obtain ⟨κ',h',σ',k,i',p',e'⟩:=q; exact ie hi N9 hr _ _ none _ κ' h' w' k p'.defs i' .ret e' p'.env
 | exit id=>obtain ⟨κ',h',σ',k,_⟩:=q; exact k.elim
 | panic chain=>obtain ⟨κ',h',d,v,σ',rfl,k,r,p',i',e'⟩:=q; exact ie hi N9 hr _ _ (some d) _ κ' h' w' k p'.defs i' (.pan r) e' p'.env
 | goto l=>exact q.elim
 | outgrown=>exact q.elim
theorem cI.du [aN] (hT:T.nU P κ w) {dc:cS} (N9:dc.nU P κ w) {f:FuncId} {s:dL} {rs:List eK} {m:Nat} {pl:cj} {args:List D} {R:dF→aa→Prop} (hs:bJ P f pl=some (s,rs,m)) (hn:args.length≤m) (hv:vc T s (Mo dc rs R) (bB dc rs R) (f8 args) h):cI P κ w f args h R:=by
 unfold bJ at hs
 split at hs
 ·cases hs
 ·ab fn hf
  split at hs
  ·cases hs
  ·ab c hb
   split at hs
   ·ab s' UC h1 h2 h3
    cases hs
    exact cI.WS hT N9 hf hb h1 h2 h3 hn hv
   ·cases hs
theorem aQ.du [aN] (hT:T.ok P) {dc:cS} (N9:∀κ w,dc.nU P κ w) {f:FuncId} {s:dL} {rs:List eK} {m:Nat} {pl:cj} {args:List D} {R:dF→aa→Prop} (hc:fi P f=true) (hs:bJ P f pl=some (s,rs,m)) (hn:args.length≤m) (hv:vc T s (Mo dc rs R) (bB dc rs R) (f8 args) h):aQ P f args h R:=
 ⟨hc,fun κ w=>(cI.du (hT.toY κ w) (N9 κ w) hs hn hv).2⟩
theorem ah {dc:cS} {rs:List eK} {R:dF→aa→Prop}:Mo dc rs R .ret σ h=eT dc σ.defs none h (az rs R σ):=rfl
theorem af {dc:cS} {rs:List eK} {R:dF→aa→Prop}:Mo dc rs R .normal σ h=eT dc σ.defs none h (az rs R σ):=rfl
theorem ae {dc:cS} {u:Option D} {F:Option D→aa→Prop}:eT dc [] u h F=F u h:=rfl
theorem ag {dc:cS} {k:FuncId} {c xs:List D} {ds:List lv} {u:Option D} {F:Option D→aa→Prop}:eT dc (⟨.func k,c,xs⟩::ds) u h F=dc k (xs++c) u h (fun u' h'=>eT dc ds u' h' F):=rfl
theorem cI.frame [aN] {f:FuncId} {args:List D} {h1:aa} {L:List (Nat×cR)} {K:D→aa→Prop} (hL:∀p∈L,h1.f p.1=none) (c:cI P κ w f args h1 fun o h'=>∃d,o=.ret d∧((∀p∈L,h'.f p.1=none)→K d (h'.yc L))):
  cI P κ w f args (h1.yc L) fun o h'=>∃d,o=.ret d∧K d h':=by
 refine ⟨c.1,fun vs hi hr=>?_⟩
 have sub:=D6 hL
 refine (c.2 vs (hi.sub sub) hr).mono fun e w' ⟨o,h',κ',⟨d,e1,k⟩,a2,a3,a4⟩=>?_
 obtain ⟨f1,f2,f3⟩:=hi.frame sub a3 a4
 have V0:∀p∈L,h'.f p.1=none:=fun p hp=>f3 p.1 (by
  obtain ⟨o',nK⟩:=yq hp
  rw [wL,nK]; simp) (hL p hp)
 rw [wM hL V0] at f1 f2
 exact ⟨o,_,κ',⟨d,e1,k V0⟩,a2,f1,f2⟩
theorem cI.aae [aN] (hT:T.nU P κ w) {f:FuncId} {s:dL} {rs:List eK} {m:Nat} {pl:cj} {args:List D} {K:D→aa→Prop} (hs:bJ P f pl=some (s,rs,m)) (hn:args.length≤m)
  (hv:vc T s (todo T (G3 rs K) (fun _ _ _=>False) []) (fun _ _ _=>False) (f8 args) h):cI P κ w f args h fun o h'=>∃d,o=.ret d∧K d h':=by
 refine cI.my hT hs hn (iA (fun e σ h k=>?_) (fun ds d h k=>k.elim) hv)
 cases e with
 | exit i=>exact k
 | _=>obtain ⟨a,ds,b,c⟩:=k; exact ⟨a,ds,b,.inl ⟨h,aa.aU h,_,rfl,c⟩⟩
def Xr (rs:List eK) (K:D→aa→Prop) (e:Ex) (σ:Fr) (h:aa):Prop:=
 match e with
 | .exit _=>False
 | _=>σ.defs=[]∧∃ds,eg σ h rs=some ds∧∃h',h'.sub h∧K (xx ds) h'
theorem fw {rs:List eK} {K:D→aa→Prop}:Xr rs K .ret σ h=(σ.defs=[]∧∃ds,eg σ h rs=some ds∧∃h',h'.sub h∧K (xx ds) h'):=rfl
theorem cI.L2 [aN] (hT:T.nU P κ w) {f:FuncId} {s:dL} {rs:List eK} {m:Nat} {pl:cj} {args:List D} {K:D→aa→Prop} (hs:bJ P f pl=some (s,rs,m)) (hn:args.length≤m)
  (hv:vc T s (todo T (Xr rs K) (fun _ _ _=>False) []) (fun _ _ _=>False) (f8 args) h):cI P κ w f args h fun o h'=>∃d,o=.ret d∧K d h':=by
 refine cI.my hT hs hn (iA (fun e σ h k=>?_) (fun ds d h k=>k.elim) hv)
 cases e with
 | exit i=>exact k
 | _=>obtain ⟨a,ds,b,h',c,d⟩:=k; exact ⟨a,ds,b,.inl ⟨h',c,_,rfl,d⟩⟩
theorem aQ.L2 [aN] (hT:T.ok P) {f:FuncId} {s:dL} {rs:List eK} {m:Nat} {pl:cj} {args:List D} {K:D→aa→Prop} (hs:bJ P f pl=some (s,rs,m)) (hn:args.length≤m)
  (hv:vc T s (todo T (Xr rs K) (fun _ _ _=>False) []) (fun _ _ _=>False) (f8 args) h):aQ P f args h fun o h'=>∃d,o=.ret d∧K d h':=by
 refine aQ.my hT hs hn (iA (fun e σ h k=>?_) (fun ds d h k=>k.elim) hv)
 cases e with
 | exit i=>exact k
 | _=>obtain ⟨a,ds,b,h',c,d⟩:=k; exact ⟨a,ds,b,.inl ⟨h',c,_,rfl,d⟩⟩
end Go.Proofs.YtpklkpkfgmoghaaGreatDoor.Zz
namespace Go.Proofs.YtpklkpkfgmoghaaGreatDoor.Zz
variable {P:Program} {T:bm} {κ:cp} {h:aa} {w:World} {σ:Fr} {n:Nat} {a:Act}
def Tk (rs:List eK) (K:aa→Prop) (e:Ex) (σ:Fr) (h:aa):Prop:=
 match e with
 | .exit _=>False
 | _=>σ.defs=[]∧∃ds,eg σ h rs=some ds∧∃h',h'.sub h∧K h'
theorem kY {rs:List eK} {K:aa→Prop}:Tk rs K .normal σ h=(σ.defs=[]∧∃ds,eg σ h rs=some ds∧∃h',h'.sub h∧K h'):=rfl
theorem uC.settle {u:Option D} {m:FrameMode} (r:uC κ w u m):Go.settle m=m:=by
 cases r<;>rfl
theorem gH.my [aN] (hT:T.nU P κ w) {k:FuncId} {s:dL} {rs:List eK} {m:Nat} {pl:cj} {args:List D} {u:Option D} {F:Option D→aa→Prop} (hs:bJ P k pl=some (s,rs,m)) (hn:args.length≤m)
  (hv:vc T s (todo T (Tk rs (F u)) (fun _ _ _=>False) []) (fun _ _ _=>False) (f8 args) h):gH P κ w k args u h F:=by
 unfold bJ at hs
 split at hs
 ·cases hs
 ·ab fn hf
  split at hs
  ·cases hs
  ·ab c hb
   split at hs
   ·ab s' UC h1 h2 h3
    cases hs
    refine ⟨h1,fun vs md hi pt hm=>?_⟩
    have hp:=qA hi pt hn
    have key:=rU c s pl h2 none (fun _=>rfl) κ h w hT hi _ _ κ h w _ _ hi hp (Ev.refl κ h w) hv
    have post:=NB (F:=FW none) (n:=0) (u:=md) (R:=fun e w'=>∃v h' κ',e=.returned v∧F u h'∧Inv κ' h' w'∧Ev κ h w κ' h' w') hf hb trivial (wpIn_mono key fun e a' w' q=>by
     cases e with
     | normal=>
      obtain ⟨κ',h',σ',k,i',p',e'⟩:=q
      obtain ⟨k1,ds,k2,kQ,k3,k4⟩:=k
      obtain ⟨us,g1,g2⟩:=l7 (P:=P) i' p' h3 k2
      have hd:a'.defers=[]:=by
       have:=p'.defs
       rw [k1] at this
       generalize a'.defers=dd at this
       cases this
       rfl
      exact ⟨hd,_,g1,_,kQ,κ',rfl,k4,i'.sub k3,e'.sub k3⟩
     | ret=>
      obtain ⟨κ',h',σ',k,i',p',e'⟩:=q
      obtain ⟨k1,ds,k2,kQ,k3,k4⟩:=k
      obtain ⟨us,g1,g2⟩:=l7 (P:=P) i' p' h3 k2
      have hd:a'.defers=[]:=by
       have:=p'.defs
       rw [k1] at this
       generalize a'.defers=dd at this
       cases this
       rfl
      exact ⟨hd,_,g1,_,kQ,κ',rfl,k4,i'.sub k3,e'.sub k3⟩
     | exit id=>obtain ⟨κ',h',σ',k,_⟩:=q; exact k.elim
     | panic chain=>obtain ⟨κ',h',d,v,σ',_,k,_⟩:=q; exact k.elim
     | goto l=>exact q.elim
     | outgrown=>exact q.elim)
    refine B9.mono post fun e m' w' ⟨LJ,v,h',κ',e1,e2,e3,e4⟩=>?_
    subst LJ
    exact ⟨v,u,h',κ',e1,e2,by rw [hm.settle]; exact hm.mono (e4.le hi),e3,e4⟩
   ·cases hs
def G0:Option D→D
 | none=>.fV
 | some d=>d
theorem gH.WR [aN] (hT:T.nU P κ w) {k:FuncId} {fn:Func} {id:Nat} {o1 o2:Oper} {rest:Code} {t1 t2:Nat} {s:dL} {pl:cj} {rs:List eK} {args:List D} {u:Option D} {F:Option D→aa→Prop} (j4:fi P k=true) (hf:P.funcs[k]? =some fn) (hb:fn.body=some (.seq (.region id #[o1,o2] false) rest))
  (g1:o1.guard=none) (g2:o2.guard=none) (d1:o1.dst=some t1) (d2:o2.dst=some t2) (l1:t1<fn.ntmps) (l2:t2<fn.ntmps)
  (e1:∀(ev:Operand→Value) w,(execOp ev o1).run P w=.ok .recover w) (e2:∀(ev:Operand→Value) w,(execOp ev o2).run P w=.ok (.value (ev (.tmp t1))) w)
  (hc:comp P fn.ntmps pl rest=some s) (hr:qd P fn.results.toList=some rs) (hn:args.length≤fn.ntmps)
  (hv:vc T s (todo T (Tk rs (F none)) (fun _ _ _=>False) []) (fun _ _ _=>False) (((f8 args).put (some t1) (G0 u)).put (some t2) (G0 u)) h):gH P κ w k args u h F:=by
 refine ⟨j4,fun vs md hi pt hm=>HF hf hb trivial fun c₀ cs ZO=>?_⟩
 have hp:=qA hi pt hn
 generalize hA:({ tmps:=vs++Array.replicate (fn.ntmps - vs.size) undef,defers:=[] }:Act)=A at hp ⊢
 have hAd:A.defers=[]:=by rw [←hA]
 have tail:∀(v:Value) (c₁:Frame) (m':FrameMode),c₁={ c₀ with mode:=m' }→Go.settle m'=.returning→cd κ w v (G0 u)→
   rest.ahT (FW none) 0 P (bodyPostS P fn c₀ cs fun e m' w'=>∃v u' h' κ',e=.returned v∧F u' h'∧uC κ' w' u' (Go.settle m')∧Inv κ' h' w'∧Ev κ h w κ' h' w') ((A.put (some t1) v).put (some t2) v) (c₁::cs) w:=by
  intro v c₁ m' hc1 LJ hrv
  refine RG rfl ?_
  have Gr:=(hp.put (some t1) (fun t e=>by cases e; exact l1) hrv).put (some t2) (fun t e=>by cases e; exact l2) hrv
  have key:=rU rest s pl hc none (fun _=>rfl) κ h w hT hi _ _ κ h w _ _ hi Gr (Ev.refl κ h w) hv
  refine wpIn_mono key fun e a' w' q=>?_
  have fin:∀(κ':cp) (h':aa) (σ':Fr),(σ'.defs=[]∧∃ds,eg σ' h' rs=some ds∧∃kQ,kQ.sub h'∧F none kQ)→Inv κ' h' w'→jF κ' w' σ' fn.ntmps a'→Ev κ h w κ' h' w'→
    a'.defers=[]∧∃u',c₁::cs={ c₀ with mode:=u' }::cs∧∃v,(results fn a'.tmps).run P w'=.ok v w'∧∃v' u'' h' κ',Ending.returned v=.returned v'∧F u'' h'∧uC κ' w' u'' (Go.settle u')∧Inv κ' h' w'∧Ev κ h w κ' h' w':=by
   intro κ' h' σ' ⟨k1,ds,k2,kQ,k3,k4⟩ i' p' e'
   obtain ⟨us,g1,g2⟩:=l7 (P:=P) i' p' hr k2
   have hd:a'.defers=[]:=by
    have:=p'.defs
    rw [k1] at this
    generalize a'.defers=dd at this
    cases this
    rfl
   exact ⟨hd,m',by rw [hc1],_,g1,_,none,kQ,κ',rfl,k4,by rw [LJ]; exact .ret,i'.sub k3,e'.sub k3⟩
  cases e with
  | normal=>obtain ⟨κ',h',σ',k,i',p',e'⟩:=q; exact fin κ' h' σ' k i' p' e'
  | ret=>obtain ⟨κ',h',σ',k,i',p',e'⟩:=q; exact fin κ' h' σ' k i' p' e'
  | exit id=>obtain ⟨κ',h',σ',k,_⟩:=q; exact k.elim
  | panic chain=>obtain ⟨κ',h',d,v,σ',_,k,_⟩:=q; exact k.elim
  | goto l=>exact q.elim
  | outgrown=>exact q.elim
 have Wh:∀v,((A.put (some t1) v).eval (.tmp t1))=v:=fun v=>by
  have:t1<A.tmps.size:=by rw [hp.size]; exact l1
  simp [Act.put,Act.eval,Array.getD_eq_getD_getElem?,this]
 refine YE (TW ?_)
 have hw1:∀y,Region.wanted o1 y=true:=fun y=>by simp [Region.wanted,g1]
 have hw2:∀y,Region.wanted o2 y=true:=fun y=>by simp [Region.wanted,g2]
 show Rn (FW none) 0 P #[o1,o2] _ [0,1] _ _ _
 simp only [Rn,List.getElem?_toArray,List.getElem?_cons_zero,List.getElem?_cons_succ,hw1,hw2,e1,e2,d1,d2,if_true,Wh]
 refine ⟨fun _ _=>trivial,?_⟩
 subst ZO
 cases LJ:c₀.mode with
 | run=>rw [LJ] at hm; cases hm
 | returning=>
  rw [LJ] at hm
  cases hm
  have:recoverD (c₀::cs)=none:=by simp [recoverD,LJ]
  rw [this]
  refine ⟨fun _ _=>trivial,tail _ c₀ c₀.mode rfl (by rw [LJ]; rfl) .fV⟩
 | panicking ch=>
  rw [LJ] at hm
  cases hm with
  | pan r=>
   ab v d
   have:recoverD (c₀::cs)=some (v,{ c₀ with mode:=.panicking [{ v,recovered:=true }] }::cs):=by simp [recoverD,LJ]
   rw [this]
   exact ⟨fun _ _=>trivial,tail _ _ _ rfl rfl r⟩
def bm.kc (T:bm) (f:FuncId) (c:List D→aa→(D→aa→Prop)→(D→aa→Prop)→Prop)
  (m:∀args h (K E K' E':D→aa→Prop),(∀d h,K d h→K' d h)→(∀d h,E d h→E' d h)→c args h K E→c args h K' E'):bm:=
 { T with
  c:=fun g args h K E=>if g=f then c args h K E else T.c g args h K E
  mono:=fun g args h K E K' E' hk he=>by
   split
   ·exact m args h K E K' E' hk he
   ·exact T.mono g args h K E K' E' hk he }
theorem bm.cL [aN] (hT:T.ok P) {f:FuncId} {c:List D→aa→(D→aa→Prop)→(D→aa→Prop)→Prop} {m:∀args h (K E K' E':D→aa→Prop),(∀d h,K d h→K' d h)→(∀d h,E d h→E' d h)→c args h K E→c args h K' E'}
  (hc:∀args h K E,c args h K E→aQ P f args h (dF.to K E)):(T.kc f c m).ok P:=
 ⟨hT.q,hT.a,fun g args h K E x=>by
  simp only [bm.kc] at x
  split at x
  ·ab e; subst e; exact hc args h K E x
  ·exact hT.c g args h K E x,hT.y,hT.r⟩
theorem aQ.Gm [aN] {f:FuncId} {args:List D} {h1:aa} {R:dF→aa→Prop} (sub:h1.sub h) (c:aQ P f args h1 R):aQ P f args h fun o h'=>∃lT,R o lT∧h'=lT.union (h.minus h1):=by
 refine ⟨c.1,fun κ w vs hi hr=>?_⟩
 refine (c.2 κ w vs (hi.sub sub) hr).mono fun e w' ⟨o,h',κ',a1,a2,a3,a4⟩=>?_
 obtain ⟨f1,f2,f3⟩:=hi.frame sub a3 a4
 exact ⟨o,_,κ',⟨h',a1,rfl⟩,a2,f1,f2⟩
theorem pn {id:Nat} {o o':cR} (e:h.f id=some o):(aa.emp.set id o').union (h.minus (aa.emp.set id o))=h.set id o':=by
 refine aa.ext fun q=>?_
 simp only [aa.union,aa.minus,aa.dN]
 by_cases c:q=id
 ·subst c; simp
 ·simp [c,aa.emp]
theorem sub_one {id:Nat} {o:cR} (e:h.f id=some o):(aa.emp.set id o).sub h:=fun q p hp=>by
 simp only [aa.dN] at hp
 split at hp
 ·ab c; subst c; cases hp; exact e
 ·simp [aa.emp] at hp
def Pe [aN] (P:Program) (f:FuncId) (pl:cj):Option (dL×List eK×Nat×Nat×Nat):=
 match P.funcs[f]? with
 | none=>none
 | some fn=>match fn.body with
  | some (.seq (.region _ ⟨[o1,o2]⟩ false) rest)=>match o1.op,o1.guard,o1.dst,o2.op,o2.guard,o2.dst with
   | .call c,none,some t1,.assign (.tmp t),none,some t2=>match c.callee,decide (t=t1∧t1<fn.ntmps∧t2<fn.ntmps),fi P f,comp P fn.ntmps pl rest,qd P fn.results.toList with
    | .builtin .recover,true,true,some s,some rs=>some (s,rs,fn.ntmps,t1,t2)
    | _,_,_,_,_=>none
   | _,_,_,_,_,_=>none
  | _=>none
theorem gH.OJ [aN] (hT:T.nU P κ w) {k:FuncId} {s:dL} {rs:List eK} {m t1 t2:Nat} {pl:cj} {args:List D} {u:Option D} {F:Option D→aa→Prop} (hs:Pe P k pl=some (s,rs,m,t1,t2)) (hn:args.length≤m)
  (hv:vc T s (todo T (Tk rs (F none)) (fun _ _ _=>False) []) (fun _ _ _=>False) (((f8 args).put (some t1) (G0 u)).put (some t2) (G0 u)) h):gH P κ w k args u h F:=by
 unfold Pe at hs
 split at hs
 ·cases hs
 ·ab fn hf
  split at hs
  ·ab id o1 o2 rest hb
   split at hs
   ·ab c t1' t t2' p1 g1 d1 p2 g2 d2
    split at hs
    ·ab s' UC hc hd j4 H3 hr
     cases hs
     obtain ⟨rfl,l1,l2⟩:=of_decide_eq_true hd
     exact gH.WR hT j4 hf hb g1 g2 d1 d2 l1 l2 (fun ev w=>by simp only [execOp,p1,resolve,hc,Sem.run_bind,Sem.run_pure,Result.andThen,invoke,builtin]) (fun ev w=>by simp only [execOp,p2]; rfl) H3 hr hn hv
    ·cases hs
   ·cases hs
  ·cases hs
end Go.Proofs.YtpklkpkfgmoghaaGreatDoor.Zz
