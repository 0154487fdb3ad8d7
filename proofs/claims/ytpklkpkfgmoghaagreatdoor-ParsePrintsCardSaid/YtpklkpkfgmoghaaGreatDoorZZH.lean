/- Contracts: digits with a point. -/
import Derived.Test.YtpklkpkfgmoghaaGreatDoorZZF
import Derived.Test.YtpklkpkfgmoghaaGreatDoorZA1
import Derived.Test.YtpklkpkfgmoghaaGreatDoorZL1
import Derived.RecoverIn
set_option linter.unnecessarySimpa false
set_option linter.unusedVariables false
set_option linter.unusedSimpArgs false
namespace Go.Proofs.YtpklkpkfgmoghaaGreatDoor.Zz
def acA:b7:=⟨⟨[],[],[],[],[],[]⟩,[],[],false⟩
def Zl:dA:=
 sO [oP (.cg (kS [])) 2]
 (sO [oM 0 7,
 oD 126 [.t 7,kS [46]] 8,
 oM 8 6,
 oX 6 0 9,
 oX 6 1 10,
 oX 6 2 11,
 oM 9 3,
 oM 10 4,
 oM 11 5]
 (sO [oM 3 12,
 oD 127 [.t 12,kS [48]] 13,
 oM 4 14,
 oD 128 [.t 14,kS [48]] 15,
 oM 13 3,
 oM 15 4]
 (.seq (sO [oM 3 16,
 oP (.bin .eql (.t 16) (kS [])) 17]
 (.cond (.t 17)
 (.ops [oP (.cg (kS [48])) 3])
 (.skip)))
 (.seq (sO [oM 4 18,
 oP (.bin .eql (.t 18) (kS [])) 19]
 (.cond (.t 19)
 (.ops [oP (.cg (kS [48])) 4])
 (.skip)))
 (sO [oM 3 20,
 oP (.bin .add (.t 20) (kS [46])) 21,
 oM 4 22,
 oE .add 21 22 23,
 oM 23 2]
 (.ret))))))
theorem ZU:bE Tryz.prog 117 acA=some (Zl,[.tmp 2],24):=by kernel_rfl
def acC:b7:=⟨⟨[],[],[],[],[],[]⟩,[],[],false⟩
def Zm:dA:=
 sO [oP (.cg (kI 0)) 2]
 (sO [oM 0 11,
 oD 126 [.t 11,kS [46]] 12,
 oM 12 10,
 oX 10 0 13,
 oX 10 1 14,
 oX 10 2 15,
 oM 13 3,
 oM 14 4,
 oM 15 5]
 (sO [oP (.cg (.c (.float .f64 0))) 6,
 oP (.cg (.c (.float .f64 4607182418800017408))) 7]
 (.seq (sO [oM 3 16,
 oM 4 17,
 oE .add 16 17 18,
 oQ (.my (.t 18)) 19]
 (.block 0 (.loop (sO [oQ (.pB (.t 19)) 20,
 oX 20 0 21]
 (.seq (.cond (.t 21)
 (.skip)
 (.exit 0))
 (.block 1 (sO [oX 20 2 22,
 oM 22 9]
 (.ops [oM 6 23,
 oQ (.iQ .mul (.t 23) (.c (.float .f64 4621819117588971520))) 24,
 oM 9 25,
 oP (.bin .sub (.t 25) (.c (.int .i32 48))) 26,
 oP (.conv .qD (.t 26)) 27,
 oQ (.iQ .add (.t 24) (.t 27)) 28,
 oM 28 6]))))))))
 (.seq (sO [oM 4 29,
 oW 29 30,
 oP (.cg (kI 0)) 31]
 (.block 2 (.loop (sO [oE .lss 31 30 32]
 (.seq (.cond (.t 32)
 (.skip)
 (.exit 2))
 (.seq (.block 3 (.ops [oM 7 33,
 oQ (.iQ .mul (.t 33) (.c (.float .f64 4621819117588971520))) 34,
 oM 34 7]))
 (.ops [oH .add 31 1 35,
 oM 35 31])))))))
 (sO [oM 6 36,
 oM 7 37,
 oQ (.iQ .quo (.t 36) (.t 37)) 38,
 oD 82 [.t 38] 39,
 oP (.conv (.nw .i64) (.t 39)) 40,
 oM 40 2]
 (.ret))))))
theorem ZV:bE Tryz.prog 118 acC=some (Zm,[.tmp 2],41):=by kernel_rfl
def acE:b7:=⟨⟨[],[],[],[],[],[]⟩,[],[],false⟩
def Zo:dA:=
 sO [oA 2]
 (sO [oM 0 3,
 oD 117 [.t 3] 4,
 oM 0 5,
 oD 117 [.t 5] 6,
 oD 118 [.t 6] 7,
 oP (.build zN [(0,1,(kI 21)),(1,1,(kI 2)),(2,1,(.t 4)),(3,1,(.t 7))]) 8,
 oS 5 2 8]
 (.ret))
theorem ZX:bE Tryz.prog 99 acE=some (Zo,[.cell 2 (some 5)],9):=by kernel_rfl
def LC:List D→Option D
 | [.str s,.str t]=>if s.length<4294967281 then some (.tuple [.str (Lib.cut s t).1,.str (Lib.cut s t).2.1,.bool (Lib.cut s t).2.2]) else none
 | _=>none
theorem R9 (args:List D) (d:D) (h:LC args=some d):aM Tryz.prog 126 args d:=by
 unfold LC at h
 split at h
 ·split at h
  ·cases h; exact XL _ _ (by assumption)
  ·cases h
 ·cases h
theorem Ql (s t:List UInt8) (h:t=[48]):aM Tryz.prog 127 [.str s,.str t] (.str (Lib.trimLeftB s 48)):=by subst h; exact SQ s
theorem Qm (s t:List UInt8) (h:t=[48]):aM Tryz.prog 128 [.str s,.str t] (.str (Lib.trimRightB s 48)):=by subst h; exact SS s
def On:List D→Option D
 | [.str s,.str t]=>if t=[48] then some (.str (Lib.trimLeftB s 48)) else none
 | _=>none
theorem R_ (args:List D) (d:D) (h:On args=some d):aM Tryz.prog 127 args d:=by
 unfold On at h
 split at h
 ·split at h
  ·cases h; exact Ql _ _ (by assumption)
  ·cases h
 ·cases h
def Oo:List D→Option D
 | [.str s,.str t]=>if t=[48] then some (.str (Lib.trimRightB s 48)) else none
 | _=>none
theorem Sb (args:List D) (d:D) (h:Oo args=some d):aM Tryz.prog 128 args d:=by
 unfold Oo at h
 split at h
 ·split at h
  ·cases h; exact Qm _ _ (by assumption)
  ·cases h
 ·cases h
theorem XS:vu Tryz.prog 82 "math.Float64bits" =true:=by kernel_rfl
def tQ:bf:=bf.zero.cX 126 LC
theorem Jf (g:FuncId) (args:List D):tQ.q g args=if g=126 then LC args else bf.zero.q g args:=rfl
theorem Jc:tQ.a=bf.zero.a:=rfl
theorem Jd:tQ.c=bf.zero.c:=rfl
theorem O2:tQ.ok Tryz.prog:=bf.bm (bf.ew _) R9
theorem Je:type_of% (And.intro @Jf (And.intro @Jc @Jd)):=(And.intro @Jf (And.intro @Jc @Jd))
def tR:bf:=tQ.cX 127 On
theorem Jk (g:FuncId) (args:List D):tR.q g args=if g=127 then On args else tQ.q g args:=rfl
theorem Jh:tR.a=tQ.a:=rfl
theorem Ji:tR.c=tQ.c:=rfl
theorem O6:tR.ok Tryz.prog:=bf.bm O2 R_
theorem Jj:type_of% (And.intro (And.intro @Jk (And.intro @Jh @Ji)) @Je):=(And.intro (And.intro @Jk (And.intro @Jh @Ji)) @Je)
def tS:bf:=tR.cX 128 Oo
theorem Jo (g:FuncId) (args:List D):tS.q g args=if g=128 then Oo args else tR.q g args:=rfl
theorem Jl:tS.a=tR.a:=rfl
theorem Jm:tS.c=tR.c:=rfl
theorem O_:tS.ok Tryz.prog:=bf.bm O6 Sb
theorem Jn:type_of% (And.intro (And.intro @Jo (And.intro @Jl @Jm)) @Jj):=(And.intro (And.intro @Jo (And.intro @Jl @Jm)) @Jj)
def tT:bf:=tS.cX 82 uh
theorem Jr (g:FuncId) (args:List D):tT.q g args=if g=82 then uh args else tS.q g args:=rfl
theorem Jp:tT.a=tS.a:=rfl
theorem Jq:tT.c=tS.c:=rfl
theorem wV:tT.ok Tryz.prog:=bf.As O_ (Fi XS)
theorem kZ:type_of% (And.intro (And.intro @Jr (And.intro @Jp @Jq)) @Jn):=(And.intro (And.intro @Jr (And.intro @Jp @Jq)) @Jn)
def ia (l:List UInt8):List UInt8:=if (l==[])=true then [48] else l
theorem N6 {l:List UInt8} (h:(l==[])=true):ia l=[48]:=if_pos h
theorem N5 {l:List UInt8} (h:(l==[])=false):ia l=l:=if_neg (by simp [h])
def jT (s:List UInt8):List UInt8:=ia (Lib.trimLeftB (Lib.cut s [46]).1 48)++[46]++ia (Lib.trimRightB (Lib.cut s [46]).2.1 48)
theorem zX (l:List UInt8) (c:UInt8):(Lib.trimLeftB l c).length≤l.length:=gE _ l
theorem zY (l:List UInt8) (c:UInt8):(Lib.trimRightB l c).length≤l.length:=by
 have:=gE (fun b=>b==c) l.reverse
 simp only [Lib.trimRightB,List.length_reverse] at this ⊢
 exact this
theorem Q6 (s t:List UInt8):(Lib.cut s t).1.length≤s.length∧(Lib.cut s t).2.1.length≤s.length:=by
 unfold Lib.cut
 split<;>simp<;>omega
theorem M4 (s:List UInt8) (h:s.length<4294967281):aM Tryz.prog 117 [.str s] (.str (jT s)):=by
 refine aM.run wV ZU (by simp) fun E=>?_
 have l1:=Q6 s [46]
 have l2:=zX (Lib.cut s [46]).1 48
 have l3:=zY (Lib.cut s [46]).2.1 48
 unfold jT
 cases XB:(Lib.trimLeftB (Lib.cut s [46]).1 48==[])<;>cases c2d:(Lib.trimRightB (Lib.cut s [46]).2.1 48==[])<;>
  simp only [Zl,h,XB,c2d,LC,On,Oo,N6,N5,kZ,aB,seval]<;>(try simp only [List.length_cons,List.length_nil,List.length_append])<;>(repeat' first | omega | trivial | refine And.intro ?_ ?_)
def dX (l:List UInt8):Nat:=l.foldl (fun n c=>n*10+(c.toNat - 48)) 0
def dK (c:UInt8):Bool:=decide (48≤c.toNat) && decide (c.toNat≤57)
theorem Ma (l:List UInt8) (c:UInt8):dX (l++[c])=dX l*10+(c.toNat - 48):=by simp [dX]
theorem rG (l:List UInt8):l.all dK=true→dX l<10 ^ l.length:=by
 intro h
 have key:∀(l:List UInt8) (n k:Nat),l.all dK=true→n<10 ^ k→l.foldl (fun n c=>n*10+(c.toNat - 48)) n<10 ^ (k+l.length):=by
  intro l
  induction l with
  | nil=>intro n k _ h; exact h
  | cons c l ih=>
   intro n k ha hn
   simp only [List.all_cons,Bool.and_eq_true] at ha
   have hc:c.toNat - 48≤9:=by have:=ha.1; simp [dK] at this; omega
   have:=ih (n*10+(c.toNat - 48)) (k+1) ha.2 (by rw [Nat.pow_succ]; omega)
   rw [List.foldl_cons,List.length_cons,show k+(l.length+1)=k+1+l.length by omega]
   exact this
 have:=key l 0 0 h (by decide)
 rw [Nat.zero_add] at this
 exact this
theorem Kt {l:List UInt8} (h:l.all dK=true) (hl:l.length≤15):dX l<1000000000000000:=by
 have h1:=rG l h
 have h2:=Nat.pow_le_pow_right (show 0<10 by decide) hl
 have h3:(10:Nat) ^ 15=1000000000000000:=by decide
 omega
def Ou (m n:Nat):Nat:=(floatBits .quo .f64 (rM m) (rM n)).getD 0
theorem H4 {m n:Nat} (hm:m<9007199254740992) (hn:n<9007199254740992) (h0:0<n):floatBits .quo .f64 (rM m) (rM n)=some (Ou m n)∧Ou m n≤2047*4503599627370496:=by
 obtain ⟨r,h1,h2⟩:=U7 m n hm hn h0
 unfold Ou
 rw [h1]
 exact ⟨rfl,h2⟩
def jg (s:List UInt8):Int:=IntKind.i64.wrap (Ou (dX ((Lib.cut s [46]).1++(Lib.cut s [46]).2.1)) (10 ^ (Lib.cut s [46]).2.1.length):Nat)
theorem wk {n:Nat} (h:n≤15):(10:Nat) ^ n≤1000000000000000:=by
 have h2:=Nat.pow_le_pow_right (show 0<10 by decide) h
 have h3:(10:Nat) ^ 15=1000000000000000:=by decide
 omega
theorem UK (s:List UInt8) (h:s.length<4294967281) (hd:((Lib.cut s [46]).1++(Lib.cut s [46]).2.1).all dK=true) (hl:((Lib.cut s [46]).1++(Lib.cut s [46]).2.1).length≤15):aM Tryz.prog 118 [.str s] (.int .i64 (jg s)):=by
 refine aM.run wV ZV (by simp) fun E=>?_
 unfold jg
 simp only [Zm,h,LC,kZ,aB,seval]
 generalize (Lib.cut s [46]).1=A at*
 generalize (Lib.cut s [46]).2.1=B at*
 rw [List.length_append] at hl
 refine ⟨by omega,?_⟩
 intro id
 simp only [NJ,aB,seval]
 have gY:∀i c,(A++B)[i]? =some c→dK c=true:=fun i c hc=>by
  rw [List.all_eq_true] at hd
  exact hd c (List.mem_of_getElem? hc)
 have v15:=Kt hd (by rw [List.length_append]; omega)
 have vle:∀i,dX ((A++B).take i)<1000000000000000:=fun i=>Kt (by
  rw [List.all_eq_true] at hd ⊢
  exact fun x hx=>hd x (List.mem_of_mem_take hx)) (by rw [List.length_take,List.length_append]; omega)
 generalize hS:A++B=S at*
 have hSl:S.length=A.length+B.length:=by rw [←hS,List.length_append]
 refine cS (X:=Nat) (fun i=>[(4,.str B),(6,.float .f64 (rM (dX (S.take i)))),(7,.float .f64 (rM 1)),(19,.iter id)]) (fun i=>aa.emp.set id (.jL S i)) (fun i=>S.length - i) (fun i=>i≤S.length) 0 (Nat.zero_le _) ?_ (aa.aS _) ?_
 ·have v0:rM (dX [])=0:=K4
  simp only [U_,v0,List.take_zero,aB,seval]
 ·intro i Q hi hQ
  by_cases c:i<S.length
  ·obtain ⟨x,hx⟩:∃x,S[i]? =some x:=⟨_,List.getElem?_eq_getElem c⟩
   have hxd:=gY i x hx
   have hx1:48≤x.toNat∧x.toNat≤57:=by simpa [dK] using hxd
   have e1:=FR hx (UInt8.lt_iff_toNat_lt.2 (Nat.lt_of_le_of_lt hx1.2 (by decide)))
   have e2:IntKind.i32.wrap ((x.toNat:Int) - 48)=((x.toNat - 48:Nat):Int):=by
    simp [IntKind.wrap,IntKind.bits,IntKind.signed]
    split<;>omega
   have tk:S.take (i+1)=S.take i++[x]:=by
    rw [List.take_add_one,hx]; rfl
   have hv:dX (S.take i)*10+(x.toNat - 48)=dX (S.take (i+1)):=by rw [tk,Ma]
   have v1:=vle (i+1)
   have m1:=Ni (dX (S.take i)) 10 (by omega) (by decide) (by omega)
   rw [Nj] at m1
   have m2:=U6 (dX (S.take i)*10) (x.toNat - 48) (by omega) (by omega) (by omega)
   rw [hv] at m2
   have XB:(i<S.length)=True:=eq_true c
   have c2d:(S.length≤i)=False:=eq_false (by omega)
   simp only [HB,zT,XB,c2d,e1,e2,U8,m1,m2,true_implies,false_implies,and_true,kZ,aB,seval]
   refine hQ (i+1) _ _ (by omega) (by simp only [aB,seval]) ?_ (by omega)
   exact aa.dL (by repeat' first | with_reducible exact aa.bF | with_reducible exact aa.bI | refine aa.cL (by simp []) ?_ | refine aa.cR (by simp []) ?_)
  ·have e0:i=S.length:=by omega
   subst e0
   have XB:(S.length<S.length)=False:=eq_false (by omega)
   have hlB:B.length≤15:=by omega
   have tk:S.take S.length=S:=List.take_length
   simp only [HB,zT,XB,tk,Nat.le_refl,true_implies,false_implies,true_and,kZ,aB,seval]
   intro _
   refine cS (X:=Nat) (fun i=>[(6,.float .f64 (rM (dX S))),(7,.float .f64 (rM (10 ^ i))),(30,.int .i64 B.length),(31,.int .i64 i)]) (fun i=>.emp) (fun i=>B.length - i) (fun i=>i≤B.length) 0 (Nat.zero_le _) ?_ H9 ?_
   ·simp only [Nat.pow_zero,aB,seval]
   ·intro i Q hi hQ
    by_cases c:i<B.length
    ·have g:((i:Int)<(B.length:Int))=True:=eq_true (by omega)
     have p1d:=wk (n:=i) (by omega)
     have p2d:=wk (n:=i+1) (by omega)
     rw [Nat.pow_succ] at p2d
     have m1:=Ni (10 ^ i) 10 (by omega) (by decide) (by omega)
     rw [Nj,←Nat.pow_succ] at m1
     have wi:IntKind.i64.wrap ((i:Int)+1)=((i+1:Nat):Int):=cW (by omega)
     simp only [g,m1,wi,kZ,aB,seval]
     exact hQ (i+1) _ _ (by omega) (by simp only [aB,seval]) H9 (by omega)
    ·have e0:i=B.length:=by omega
     subst e0
     have g:((B.length:Int)<(B.length:Int))=False:=eq_false (by omega)
     obtain ⟨m1,m2⟩:=H4 (m:=dX S) (n:=10 ^ B.length) (by omega) (by have:=wk hlB; omega) (Nat.pow_pos (by decide))
     simp only [g,m1,uh,kZ,aB,seval]
def LA:List D→Option D
 | [.str s]=>if s.length<4294967281 then some (.str (jT s)) else none
 | _=>none
theorem R4 (args:List D) (d:D) (h:LA args=some d):aM Tryz.prog 117 args d:=by
 unfold LA at h
 split at h
 ·split at h
  ·cases h; exact M4 _ (by assumption)
  ·cases h
 ·cases h
def LB:List D→Option D
 | [.str s]=>if s.length<4294967281∧((Lib.cut s [46]).1++(Lib.cut s [46]).2.1).all dK=true∧((Lib.cut s [46]).1++(Lib.cut s [46]).2.1).length≤15 then some (.int .i64 (jg s)) else none
 | _=>none
theorem R5 (args:List D) (d:D) (h:LB args=some d):aM Tryz.prog 118 args d:=by
 unfold LB at h
 split at h
 ·split at h
  ·cases h; exact UK _ (by rename_i h; exact h.1) (by rename_i h; exact h.2.1) (by rename_i h; exact h.2.2)
  ·cases h
 ·cases h
def tH:bf:=tT.cX 117 LA
theorem IA (g:FuncId) (args:List D):tH.q g args=if g=117 then LA args else tT.q g args:=rfl
theorem Ix:tH.a=tT.a:=rfl
theorem Iy:tH.c=tT.c:=rfl
theorem OU:tH.ok Tryz.prog:=bf.bm wV R4
theorem Iz:type_of% (And.intro (And.intro @IA (And.intro @Ix @Iy)) @kZ):=(And.intro (And.intro @IA (And.intro @Ix @Iy)) @kZ)
def IB:bf:=tH.cX 118 LB
theorem IE (g:FuncId) (args:List D):IB.q g args=if g=118 then LB args else tH.q g args:=rfl
theorem IC:IB.a=tH.a:=rfl
theorem ID:IB.c=tH.c:=rfl
theorem OV:IB.ok Tryz.prog:=bf.bm OU R5
theorem SB:type_of% (And.intro (And.intro @IE (And.intro @IC @ID)) @Iz):=(And.intro (And.intro @IE (And.intro @IC @ID)) @Iz)
theorem yT:∀(A B:List UInt8),A.all dK=true→Lib.index (A++([46]++B)) [46]=A.length
 | [],B,_=>by simp [Lib.index]
 | a::A,B,h=>by
  simp only [List.all_cons,Bool.and_eq_true] at h
  have ih:=yT A B h.2
  have h1:(46==a)=false:=by
   have:=h.1
   simp only [dK,Bool.and_eq_true,decide_eq_true_eq] at this
   simp only [beq_eq_false_iff_ne]
   intro e
   rw [←e] at this
   exact absurd this.1 (by decide)
  rw [List.cons_append,Lib.index,ih]
  have h2:(([46]:List UInt8).isPrefixOf (a::(A++([46]++B))))=false:=by simp [List.isPrefixOf,h1]
  have h3:(((A.length:Int)== -1)=false):=by simp only [beq_eq_false_iff_ne]; omega
  rw [h2,h3]
  simp
theorem AL (A B:List UInt8) (h:A.all dK=true):Lib.cut (A++[46]++B) [46]=(A,B,true):=by
 unfold Lib.cut
 rw [List.append_assoc,yT A B h,if_pos (by omega),Int.toNat_natCast]
 rw [List.take_left,←List.append_assoc,List.drop_left' (by simp)]
theorem vW {l:List UInt8} (h:l.all dK=true):(ia l).all dK=true:=by
 unfold ia
 split
 ·decide
 ·exact h
theorem vX (l:List UInt8) (n:Nat) (h:l.length≤n) (h1:1≤n):(ia l).length≤n:=by
 unfold ia
 split
 ·exact h1
 ·exact h
theorem pg (p q:UInt8→Bool) (l:List UInt8) (h:l.all q=true):(l.dropWhile p).all q=true:=by
 rw [List.all_eq_true] at h ⊢
 exact fun x hx=>h x ((List.dropWhile_sublist p).subset hx)
theorem L4 {l:List UInt8} (c:UInt8) (h:l.all dK=true):(Lib.trimLeftB l c).all dK=true:=pg _ _ _ h
theorem L5 {l:List UInt8} (c:UInt8) (h:l.all dK=true):(Lib.trimRightB l c).all dK=true:=by
 unfold Lib.trimRightB
 rw [List.all_reverse]
 exact pg _ _ _ (by rw [List.all_reverse]; exact h)
theorem M3 (A B:List UInt8) (h:A.all dK=true):jT (A++[46]++B)=ia (Lib.trimLeftB A 48)++[46]++ia (Lib.trimRightB B 48):=by
 unfold jT
 rw [AL A B h]
structure iJ (s A B:List UInt8):Prop where
 eq:s=A++[46]++B
 a:A.all dK=true
 b:B.all dK=true
 a1:1≤A.length
 b1:1≤B.length
 len:A.length+B.length≤15
theorem iJ.dig {s A B:List UInt8} (h:iJ s A B):iJ (jT s) (ia (Lib.trimLeftB A 48)) (ia (Lib.trimRightB B 48)):=by
 obtain ⟨rfl,a,b,a1,b1,l⟩:=h
 have l1:=vX _ A.length (zX A 48) a1
 have l2:=vX _ B.length (zY B 48) b1
 refine ⟨M3 A B a,vW (L4 48 a),vW (L5 48 b),?_,?_,by omega⟩
 ·unfold ia; split
  ·exact Nat.le_refl _
  ·rename_i h; cases e:Lib.trimLeftB A 48 with
   | nil=>rw [e] at h; exact absurd rfl h
   | cons x l=>simp
 ·unfold ia; split
  ·exact Nat.le_refl _
  ·rename_i h; cases e:Lib.trimRightB B 48 with
   | nil=>rw [e] at h; exact absurd rfl h
   | cons x l=>simp
theorem iJ.YI {s A B:List UInt8} (h:iJ s A B):LA [.str s]=some (.str (jT s)):=by
 have:s.length<4294967281:=by rw [h.eq]; simp only [List.length_append,List.length_cons,List.length_nil]; have:=h.len; omega
 simp only [LA]
 rw [if_pos this]
theorem iJ.VT {s A B:List UInt8} (h:iJ s A B):LB [.str s]=some (.int .i64 (jg s)):=by
 have h1:s.length<4294967281:=by rw [h.eq]; simp only [List.length_append,List.length_cons,List.length_nil]; have:=h.len; omega
 simp only [LB]
 rw [if_pos]
 rw [h.eq] at h1 ⊢
 rw [AL A B h.a]
 exact ⟨h1,by rw [List.all_append,h.a,h.b]; rfl,by rw [List.length_append]; exact h.len⟩
theorem iJ.bits {s A B:List UInt8} (h:iJ s A B):jg s=IntKind.i64.wrap (Ou (dX (A++B)) (10 ^ B.length):Nat):=by
 unfold jg
 rw [h.eq,AL A B h.a]
theorem Rb (s A B:List UInt8) (h:iJ s A B):aM Tryz.prog 99 [.str s] (.agg [.int .i64 21,.int .i64 2,.str (jT s),.int .i64 (jg (jT s)),.sl []]):=by
 refine aM.run OV ZX (by simp) fun E=>?_
 have h1:=h.YI
 have h2:=h.dig.VT
 simp only [Zo,h1,h2,SB,aB,seval]
end Go.Proofs.YtpklkpkfgmoghaaGreatDoor.Zz
namespace Go.Proofs.YtpklkpkfgmoghaaGreatDoor.Zz
noncomputable section
structure PS where
 pos:Int
 cH:Int
 deep:Int
inductive PR (α:Type) where
 | ok (x:α) (s:PS)
 | fail (a e:Int)
 | out
end
variable {α β:Type}
def PR.bind (r:PR α) (k:α→PS→PR β):PR β:=match r with
 | .ok x s=>k x s
 | .fail a e=>.fail a e
 | .out=>.out
def jA (r:PR α) (K:α→PS→Prop) (E:Int→Int→Prop):Prop:=match r with
 | .ok x s=>K x s
 | .fail a e=>E a e
 | .out=>False
theorem b_ {x:α} {s:PS} {K:α→PS→Prop} {E:Int→Int→Prop}:jA (.ok x s) K E=K x s:=rfl
theorem QB {a e:Int} {K:α→PS→Prop} {E:Int→Int→Prop}:jA (.fail a e) K E=E a e:=rfl
theorem aE {r:PR α} {k:α→PS→PR β} {K:β→PS→Prop} {E:Int→Int→Prop}:jA (r.bind k) K E=jA r (fun x s=>jA (k x s) K E) E:=by cases r<;>rfl
theorem gI {r:PR α} {K K':α→PS→Prop} {E E':Int→Int→Prop} (hk:∀x s,K x s→K' x s) (he:∀a e,E a e→E' a e) (h:jA r K E):jA r K' E':=by
 cases r with
 | ok x s=>exact hk _ _ h
 | fail a e=>exact he _ _ h
 | out=>exact h
section
variable (l:List Tok)
def dQ (s:PS):Tok:=l.getD s.pos.toNat (0,[],0)
def ib (e:Int) (s:PS):PR α:=.fail (dQ l s).2.2 e
def lQ (x:List UInt8) (s:PS):Bool:=(dQ l s).2.1==x && ((dQ l s).1==5 || (dQ l s).1==4)
def cw (s:PS):PS:={ s with pos:=s.pos+1 }
def dw (x:List UInt8) (s:PS):PR Bool:=bif lQ l x s then .ok true (cw s) else .ok false s
def ff (x:List UInt8) (s:PS):PR Unit:=bif lQ l x s then .ok () (cw s) else ib l 110 s
def iH (s:PS):PR (List UInt8):=bif (dQ l s).1==1 then .ok (dQ l s).2.1 (cw s) else ib l 110 s
def mF:List UInt8:=[105,110,116]
def fF:List UInt8:=[102,108,111,97,116]
def xj:List UInt8:=[98,111,111,108]
def pa (s:PS):PR Int:=bif lQ l mF s then .ok 1 (cw s) else bif lQ l fF s then .ok 2 (cw s) else bif lQ l xj s then .ok 3 (cw s) else ib l 110 s
def dB (n:Nd) (s:PS):PR Nd:=if s.cH+1>2000 then ib l 3 { s with cH:=s.cH+1 } else .ok n { s with cH:=s.cH+1 }
def TA (s:PS):PR Unit:=if s.deep+1>40 then ib l 3 { s with deep:=s.deep+1 } else .ok () { s with deep:=s.deep+1 }
def Gm (r:PR α):PR α:=r.bind fun x s=>.ok x { s with deep:=s.deep - 1 }
def iR (x:List UInt8):Nd:=.mk 21 0 (jT x) (jg (jT x)) []
def lY:List UInt8:=[116,114,117,101]
def iU:List UInt8:=[102,97,108,115,101]
def lu (s:PS):PR (Nd×Bool):=
 let t:=dQ l s
 let go (n:Nd):PR (Nd×Bool):=(dB l n (cw s)).bind fun n s=>.ok (n,true) s
 bif t.1==2 then go (.mk 20 0 [] (dX t.2.1:Nat) [])
 else bif t.1==3 then go (iR t.2.1)
 else bif lQ l lY s then go (.mk 22 0 [] 1 [])
 else bif lQ l iU s then go (.mk 22 0 [] 0 [])
 else .ok (.mk 0 0 [] 0 [],false) s
def Nd.kind:Nd→Int
 | .mk k _ _ _ _=>k
def Nd.OK (n:Nd) (v:Int):Nd:=match n with
 | .mk k t s _ l=>.mk k t s v l
def Nd.num:Nd→Int
 | .mk _ _ _ n _=>n
def VK (n:Int):Int:=IntKind.i64.wrap ((Op.negFloat .f64 (IntKind.u64.wrap n).toNat:Nat):Int)
def Bi (s:PS):PR Nd:=(dw l [45] s).bind fun minus s=>(lu l s).bind fun x s=>
 bif !x.2 || (minus && x.1.kind==22) then ib l 110 s
 else .ok (bif minus && x.1.kind==20 then x.1.OK (IntKind.i64.wrap (0 - x.1.num)) else bif minus && x.1.kind==21 then x.1.OK (VK x.1.num) else x.1) s
def ft (s:List UInt8):Int:=
 bif s==[124,124] then 1 else bif s==[38,38] then 2
 else bif s==[60] || s==[60,61] || s==[62] || s==[62,61] || s==[61,61] || s==[33,61] then 3
 else bif s==[43] || s==[45] then 4 else bif s==[42] || s==[47] || s==[37] then 5 else 0
end
end Go.Proofs.YtpklkpkfgmoghaaGreatDoor.Zz
namespace Go.Proofs.YtpklkpkfgmoghaaGreatDoor.Zz
variable {P:Program} {T:bf} {κ:b9} {h:aa} {w:World} {σ:Fr} {n:Nat} {a:Act}
inductive ui (κ:b9) (w:World):Option D→FrameMode→Prop
 | ret:ui κ w none .returning
 | Y2 {v:Value} {d:D} (r:bX κ w v d):ui κ w (some d) (.panicking [{ v,recovered:=false }])
theorem ui.mono {κ κ':b9} {w w':World} {u:Option D} {m:FrameMode} (r:ui κ w u m) (le:Le κ w κ' w'):ui κ' w' u m:=by
 cases r with
 | ret=>exact .ret
 | Y2 r=>exact .Y2 (r.mono le)
def gA [aL] (P:Program) (κ:b9) (w:World) (k:FuncId) (args:List D) (u:Option D) (h:aa) (F:Option D→aa→Prop):Prop:=
 eY P k=true∧∀(vs:Array Value) (m:FrameMode),Inv κ h w→bJ κ w vs.toList args→ui κ w u m→
  CallsDIn (FW none) 0 P k vs m w fun e m' w'=>∃v u' h' κ',e=.returned v∧F u' h'∧ui κ' w' u' (settle m')∧Inv κ' h' w'∧Ev κ h w κ' h' w'
abbrev cJ:=FuncId→List D→Option D→aa→(Option D→aa→Prop)→Prop
def cJ.none:cJ:=fun _ _ _ _ _=>False
def cJ.nJ [aL] (P:Program) (κ:b9) (w:World) (dc:cJ):Prop:=∀k args u h F,dc k args u h F→∀κ' w',Le κ w κ' w'→gA P κ' w' k args u h F
theorem cJ.eM [aL]:cJ.none.nJ P κ w:=fun _ _ _ _ _ x=>x.elim
def eJ (dc:cJ):List lg→Option D→aa→(Option D→aa→Prop)→Prop
 | [],u,h,F=>F u h
 | d::ds,u,h,F=>match d.fn with
  | .yield rd=>h.f rd=some .W9∧eJ dc ds u (h.del rd) F
  | .func k=>dc k (d.args++d.cap) u h (fun u' h'=>eJ dc ds u' h' F)
  | _=>False
def ax (rs:List eB) (R:dn→aa→Prop) (σ:Fr) (u:Option D) (h:aa):Prop:=
 match u with
 | none=>∃ds,dV σ h rs=some ds∧((∃h',h'.sub h∧R (.ret (w8 ds)) h')∨(∃h',h'.sub (eV h ds)∧R (.ret (w8 (ds.map (plain h)))) h'))
 | some d=>∃h',h'.sub h∧R (.panic d) h'
def LN (dc:cJ) (rs:List eB) (R:dn→aa→Prop) (e:Ex) (σ:Fr) (h:aa):Prop:=
 match e with
 | .exit _=>False
 | _=>eJ dc σ.defs none h (ax rs R σ)
def bu (dc:cJ) (rs:List eB) (R:dn→aa→Prop) (σ:Fr) (d:D) (h:aa):Prop:=eJ dc σ.defs (some d) h (ax rs R σ)
theorem pL {ds:List lg}:∀(rs:List eB),dV { σ with defs:=ds } h rs=dV σ h rs
 | []=>rfl
 | .tmp t::l=>by simp only [dV,pL l]
 | .cell x k::l=>by simp only [dV,pL l]
theorem hY [aL] {dc:cJ} {fn:Func} {rs:List eB} {R:dn→aa→Prop} {σ:Fr} {tmps:Array Value} {κ0:b9} {h0:aa} {w0:World} (rN:Inv κ0 h0 w0) (Nr:dc.nJ P κ0 w0) (hr:pY P fn.results.toList=some rs):
  ∀(ds:List lg) (dv:List Deferred) (u:Option D) (m:FrameMode) (κ:b9) (h:aa) (w:World),eJ dc ds u h (ax rs R σ)→kE κ w dv ds→Inv κ h w→ui κ w u m→Ev κ0 h0 w0 κ h w→(∀i,bX κ w (tmps.getD i undef) (σ.env i))→
   LeavesInM (FW none) 0 P fn tmps (fun e w'=>∃o h' κ',R o h'∧jB κ' w' o e∧Inv κ' h' w'∧Ev κ0 h0 w0 κ' h' w') dv m w
 | [],dv,u,m,κ,h,w,hl,hd,hi,hm,ev,Rl=>by
  cases hd
  simp only [eJ,ax] at hl
  cases hm with
  | ret=>
   obtain ⟨ds,k2,k3⟩:=hl
   have hp:jz κ w { σ with defs:=[] } tmps.size { tmps:=tmps,defers:=[] }:=⟨rfl,Rl,.nil,hi.kz⟩
   obtain ⟨us,g1,g2⟩:=lT (P:=P) hi hp hr (by rw [pL]; exact k2)
   refine ⟨_,g1,?_⟩
   rcases k3 with ⟨kK,s1,s2⟩ | ⟨kK,s1,s2⟩
   ·exact ⟨_,kK,κ,s2,.ret (uL g2),hi.sub s1,ev.sub s1⟩
   ·obtain ⟨gJ,i2,e2,r2⟩:=iK hi g2
    exact ⟨_,kK,gJ,s2,.ret (uL r2),i2.sub s1,(ev.trans e2).sub s1⟩
  | Y2 r=>
   obtain ⟨h',s1,s2⟩:=hl
   exact ⟨.panic _,h',κ,s2,.panic r,hi.sub s1,ev.sub s1⟩
 | d::ds,dv,u,m,κ,h,w,hl,hd,hi,hm,ev,Rl=>by
  cases hd with
  | cons hd1 hds=>
  have hmr:m≠.run:=by cases hm<;>simp
  refine ⟨hmr,?_⟩
  cases hd1 with
  | col h1 h2 h3=>
   rename_i r id p
   simp only [eJ] at hl
   obtain ⟨k1,k2⟩:=hl
   obtain ⟨p',q1,q2,q3,q4⟩:=hi.obj id _ k1
   rw [h1] at q1
   cases q1
   subst h3
   obtain ⟨i4,Te⟩:=hi.putObj (o':=.other) (ob:=.deferred none) k1 h1 rfl rfl ⟨q2,q3⟩
   have OQ:(h.del id).sub (h.set id .other):=fun i o ho=>by
    simp only [aa.S9,aa.dD] at ho ⊢
    split at ho
    ·cases ho
    ·rename_i iw; rw [if_neg iw]; exact ho
   have Xq:=Te.le hi
   exact .inl ⟨_,_,rfl,run_takeDeferred q4,hY rN Nr hr ds _ u m κ _ _ k2 (hds.mono Xq) (i4.sub OQ) (hm.mono Xq) ((ev.trans Te).sub OQ) fun i=>(Rl i).mono Xq⟩
  | mk hc ha=>
   rename_i k cap args aeX adw
   simp only [eJ] at hl
   obtain ⟨K7,sT⟩:=Nr _ _ _ _ _ hl κ w (ev.le rN)
   refine .inr ⟨uv,.func k,cap,k,args++cap,rfl,?_,fun _ _=>trivial,?_⟩
   ·simp only [invoke,gi K7]
   ·refine CallsDIn.mono (sT (args++cap) m hi (by rw [Array.toList_append]; exact ha.append hc) hm) ?_
    rintro e m' w' ⟨v,u',h',κ',rfl,k1,k2,k3,k4⟩
    have Xq:=k4.le hi
    exact hY rN Nr hr ds _ u' (settle m') κ' h' w' k1 (hds.mono Xq) k3 k2 (ev.trans k4) fun i=>(Rl i).mono Xq
theorem cA.VP [aL] (hT:T.nJ P κ w) {dc:cJ} (Nr:dc.nJ P κ w) {f:FuncId} {fn:Func} {c:Code} {s:dA} {pl:b7} {rs:List eB} {args:List D} {R:dn→aa→Prop} (hf:P.funcs[f]? =some fn) (hb:fn.body=some c) (jU:eY P f=true) (hc:comp P fn.ntmps pl c=some s) (hr:pY P fn.results.toList=some rs)
  (hn:args.length≤fn.ntmps) (hv:vc T s (LN dc rs R) (bu dc rs R) (fT args) h):cA P κ w f args h R:=by
 refine ⟨jU,fun vs hi o9=>callsIn_wide.1 (callsIn_of_wp_marks (F:=FW none) (n:=0) hf hb trivial ?_)⟩
 have hp:=qf hi o9 hn
 have key:=rH c s pl hc none (fun _=>rfl) κ h w hT hi _ _ κ h w _ _ hi hp (Ev.refl κ h w) hv
 refine wpIn_mono key fun e a' w' q=>?_
 cases e with
 | normal=>obtain ⟨κ',h',σ',k,i',p',e'⟩:=q; exact hY hi Nr hr _ _ none _ κ' h' w' k p'.defs i' .ret e' p'.env
 | ret=>obtain ⟨κ',h',σ',k,i',p',e'⟩:=q; exact hY hi Nr hr _ _ none _ κ' h' w' k p'.defs i' .ret e' p'.env
 | exit id=>obtain ⟨κ',h',σ',k,_⟩:=q; exact k.elim
 | panic chain=>obtain ⟨κ',h',d,v,σ',rfl,k,r,p',i',e'⟩:=q; exact hY hi Nr hr _ _ (some d) _ κ' h' w' k p'.defs i' (.Y2 r) e' p'.env
 | goto l=>exact q.elim
 | outgrown=>exact q.elim
theorem cA.c8 [aL] (hT:T.nJ P κ w) {dc:cJ} (Nr:dc.nJ P κ w) {f:FuncId} {s:dA} {rs:List eB} {m:Nat} {pl:b7} {args:List D} {R:dn→aa→Prop} (hs:bE P f pl=some (s,rs,m)) (hn:args.length≤m) (hv:vc T s (LN dc rs R) (bu dc rs R) (fT args) h):cA P κ w f args h R:=by
 unfold bE at hs
 split at hs
 ·cases hs
 ·rename_i fn hf
  split at hs
  ·cases hs
  ·rename_i c hb
   split at hs
   ·rename_i s' TG h1 h2 h3
    cases hs
    exact cA.VP hT Nr hf hb h1 h2 h3 hn hv
   ·cases hs
theorem aO.c8 [aL] (hT:T.ok P) {dc:cJ} (Nr:∀κ w,dc.nJ P κ w) {f:FuncId} {s:dA} {rs:List eB} {m:Nat} {pl:b7} {args:List D} {R:dn→aa→Prop} (hc:eY P f=true) (hs:bE P f pl=some (s,rs,m)) (hn:args.length≤m) (hv:vc T s (LN dc rs R) (bu dc rs R) (fT args) h):aO P f args h R:=
 ⟨hc,fun κ w=>(cA.c8 (hT.toY κ w) (Nr κ w) hs hn hv).2⟩
theorem ag {dc:cJ} {rs:List eB} {R:dn→aa→Prop}:LN dc rs R .ret σ h=eJ dc σ.defs none h (ax rs R σ):=rfl
theorem ae {dc:cJ} {rs:List eB} {R:dn→aa→Prop}:LN dc rs R .normal σ h=eJ dc σ.defs none h (ax rs R σ):=rfl
theorem ab {dc:cJ} {u:Option D} {F:Option D→aa→Prop}:eJ dc [] u h F=F u h:=rfl
theorem af {dc:cJ} {k:FuncId} {c xs:List D} {ds:List lg} {u:Option D} {F:Option D→aa→Prop}:eJ dc (⟨.func k,c,xs⟩::ds) u h F=dc k (xs++c) u h (fun u' h'=>eJ dc ds u' h' F):=rfl
theorem cA.frame [aL] {f:FuncId} {args:List D} {h1:aa} {L:List (Nat×cI)} {K:D→aa→Prop} (hL:∀p∈L,h1.f p.1=none) (c:cA P κ w f args h1 fun o h'=>∃d,o=.ret d∧((∀p∈L,h'.f p.1=none)→K d (h'.xO L))):
  cA P κ w f args (h1.xO L) fun o h'=>∃d,o=.ret d∧K d h':=by
 refine ⟨c.1,fun vs hi hr=>?_⟩
 have sub:=DJ hL
 refine (c.2 vs (hi.sub sub) hr).mono fun e w' ⟨o,h',κ',⟨d,e1,k⟩,a2,a3,a4⟩=>?_
 obtain ⟨f1,f2,f3⟩:=hi.frame sub a3 a4
 have U0:∀p∈L,h'.f p.1=none:=fun p hp=>f3 p.1 (by
  obtain ⟨o',nu⟩:=xX hp
  rw [wu,nu]; simp) (hL p hp)
 rw [wx hL U0] at f1 f2
 exact ⟨o,_,κ',⟨d,e1,k U0⟩,a2,f1,f2⟩
theorem cA.YH [aL] (hT:T.nJ P κ w) {f:FuncId} {s:dA} {rs:List eB} {m:Nat} {pl:b7} {args:List D} {K:D→aa→Prop} (hs:bE P f pl=some (s,rs,m)) (hn:args.length≤m)
  (hv:vc T s (todo T (Gy rs K) (fun _ _ _=>False) []) (fun _ _ _=>False) (fT args) h):cA P κ w f args h fun o h'=>∃d,o=.ret d∧K d h':=by
 refine cA.me hT hs hn (iu (fun e σ h k=>?_) (fun ds d h k=>k.elim) hv)
 cases e with
 | exit i=>exact k
 | _=>obtain ⟨a,ds,b,c⟩:=k; exact ⟨a,ds,b,.inl ⟨h,aa.aS h,_,rfl,c⟩⟩
def Wp (rs:List eB) (K:D→aa→Prop) (e:Ex) (σ:Fr) (h:aa):Prop:=
 match e with
 | .exit _=>False
 | _=>σ.defs=[]∧∃ds,dV σ h rs=some ds∧∃h',h'.sub h∧K (w8 ds) h'
theorem fi {rs:List eB} {K:D→aa→Prop}:Wp rs K .ret σ h=(σ.defs=[]∧∃ds,dV σ h rs=some ds∧∃h',h'.sub h∧K (w8 ds) h'):=rfl
theorem cA.Lp [aL] (hT:T.nJ P κ w) {f:FuncId} {s:dA} {rs:List eB} {m:Nat} {pl:b7} {args:List D} {K:D→aa→Prop} (hs:bE P f pl=some (s,rs,m)) (hn:args.length≤m)
  (hv:vc T s (todo T (Wp rs K) (fun _ _ _=>False) []) (fun _ _ _=>False) (fT args) h):cA P κ w f args h fun o h'=>∃d,o=.ret d∧K d h':=by
 refine cA.me hT hs hn (iu (fun e σ h k=>?_) (fun ds d h k=>k.elim) hv)
 cases e with
 | exit i=>exact k
 | _=>obtain ⟨a,ds,b,h',c,d⟩:=k; exact ⟨a,ds,b,.inl ⟨h',c,_,rfl,d⟩⟩
theorem aO.Lp [aL] (hT:T.ok P) {f:FuncId} {s:dA} {rs:List eB} {m:Nat} {pl:b7} {args:List D} {K:D→aa→Prop} (hs:bE P f pl=some (s,rs,m)) (hn:args.length≤m)
  (hv:vc T s (todo T (Wp rs K) (fun _ _ _=>False) []) (fun _ _ _=>False) (fT args) h):aO P f args h fun o h'=>∃d,o=.ret d∧K d h':=by
 refine aO.me hT hs hn (iu (fun e σ h k=>?_) (fun ds d h k=>k.elim) hv)
 cases e with
 | exit i=>exact k
 | _=>obtain ⟨a,ds,b,h',c,d⟩:=k; exact ⟨a,ds,b,.inl ⟨h',c,_,rfl,d⟩⟩
end Go.Proofs.YtpklkpkfgmoghaaGreatDoor.Zz
namespace Go.Proofs.YtpklkpkfgmoghaaGreatDoor.Zz
variable {P:Program} {T:bf} {κ:b9} {h:aa} {w:World} {σ:Fr} {n:Nat} {a:Act}
def Sn (rs:List eB) (K:aa→Prop) (e:Ex) (σ:Fr) (h:aa):Prop:=
 match e with
 | .exit _=>False
 | _=>σ.defs=[]∧∃ds,dV σ h rs=some ds∧∃h',h'.sub h∧K h'
theorem kR {rs:List eB} {K:aa→Prop}:Sn rs K .normal σ h=(σ.defs=[]∧∃ds,dV σ h rs=some ds∧∃h',h'.sub h∧K h'):=rfl
theorem ui.settle {u:Option D} {m:FrameMode} (r:ui κ w u m):Go.settle m=m:=by
 cases r<;>rfl
theorem gA.me [aL] (hT:T.nJ P κ w) {k:FuncId} {s:dA} {rs:List eB} {m:Nat} {pl:b7} {args:List D} {u:Option D} {F:Option D→aa→Prop} (hs:bE P k pl=some (s,rs,m)) (hn:args.length≤m)
  (hv:vc T s (todo T (Sn rs (F u)) (fun _ _ _=>False) []) (fun _ _ _=>False) (fT args) h):gA P κ w k args u h F:=by
 unfold bE at hs
 split at hs
 ·cases hs
 ·rename_i fn hf
  split at hs
  ·cases hs
  ·rename_i c hb
   split at hs
   ·rename_i s' TG h1 h2 h3
    cases hs
    refine ⟨h1,fun vs md hi o9 hm=>?_⟩
    have hp:=qf hi o9 hn
    have key:=rH c s pl h2 none (fun _=>rfl) κ h w hT hi _ _ κ h w _ _ hi hp (Ev.refl κ h w) hv
    have post:=callsDIn_of_wp (F:=FW none) (n:=0) (u:=md) (R:=fun e w'=>∃v h' κ',e=.returned v∧F u h'∧Inv κ' h' w'∧Ev κ h w κ' h' w') hf hb trivial (wpIn_mono key fun e a' w' q=>by
     cases e with
     | normal=>
      obtain ⟨κ',h',σ',k,i',p',e'⟩:=q
      obtain ⟨k1,ds,k2,kK,k3,k4⟩:=k
      obtain ⟨us,g1,g2⟩:=lT (P:=P) i' p' h3 k2
      have hd:a'.defers=[]:=by
       have:=p'.defs
       rw [k1] at this
       generalize a'.defers=dd at this
       cases this
       rfl
      exact ⟨hd,_,g1,_,kK,κ',rfl,k4,i'.sub k3,e'.sub k3⟩
     | ret=>
      obtain ⟨κ',h',σ',k,i',p',e'⟩:=q
      obtain ⟨k1,ds,k2,kK,k3,k4⟩:=k
      obtain ⟨us,g1,g2⟩:=lT (P:=P) i' p' h3 k2
      have hd:a'.defers=[]:=by
       have:=p'.defs
       rw [k1] at this
       generalize a'.defers=dd at this
       cases this
       rfl
      exact ⟨hd,_,g1,_,kK,κ',rfl,k4,i'.sub k3,e'.sub k3⟩
     | exit id=>obtain ⟨κ',h',σ',k,_⟩:=q; exact k.elim
     | panic chain=>obtain ⟨κ',h',d,v,σ',_,k,_⟩:=q; exact k.elim
     | goto l=>exact q.elim
     | outgrown=>exact q.elim)
    refine CallsDIn.mono post fun e m' w' ⟨K_,v,h',κ',e1,e2,e3,e4⟩=>?_
    subst K_
    exact ⟨v,u,h',κ',e1,e2,by rw [hm.settle]; exact hm.mono (e4.le hi),e3,e4⟩
   ·cases hs
def Gv:Option D→D
 | none=>.fL
 | some d=>d
theorem gA.VO [aL] (hT:T.nJ P κ w) {k:FuncId} {fn:Func} {id:Nat} {o1 o2:Oper} {rest:Code} {t1 t2:Nat} {s:dA} {pl:b7} {rs:List eB} {args:List D} {u:Option D} {F:Option D→aa→Prop} (jU:eY P k=true) (hf:P.funcs[k]? =some fn) (hb:fn.body=some (.seq (.region id #[o1,o2] false) rest))
  (g1:o1.guard=none) (g2:o2.guard=none) (d1:o1.dst=some t1) (d2:o2.dst=some t2) (l1:t1<fn.ntmps) (l2:t2<fn.ntmps)
  (e1:∀(ev:Operand→Value) w,(execOp ev o1).run P w=.ok .recover w) (e2:∀(ev:Operand→Value) w,(execOp ev o2).run P w=.ok (.value (ev (.tmp t1))) w)
  (hc:comp P fn.ntmps pl rest=some s) (hr:pY P fn.results.toList=some rs) (hn:args.length≤fn.ntmps)
  (hv:vc T s (todo T (Sn rs (F none)) (fun _ _ _=>False) []) (fun _ _ _=>False) (((fT args).put (some t1) (Gv u)).put (some t2) (Gv u)) h):gA P κ w k args u h F:=by
 refine ⟨jU,fun vs md hi o9 hm=>callsDIn_of_wpSIn hf hb trivial fun c₀ cs Yi=>?_⟩
 have hp:=qf hi o9 hn
 generalize hA:({ tmps:=vs++Array.replicate (fn.ntmps - vs.size) undef,defers:=[] }:Act)=A at hp ⊢
 have hAd:A.defers=[]:=by rw [←hA]
 have tail:∀(v:Value) (c₁:Frame) (m':FrameMode),c₁={ c₀ with mode:=m' }→Go.settle m'=.returning→bX κ w v (Gv u)→
   rest.wpSIn (FW none) 0 P (bodyPostS P fn c₀ cs fun e m' w'=>∃v u' h' κ',e=.returned v∧F u' h'∧ui κ' w' u' (Go.settle m')∧Inv κ' h' w'∧Ev κ h w κ' h' w') ((A.put (some t1) v).put (some t2) v) (c₁::cs) w:=by
  intro v c₁ m' hc1 K_ hrv
  refine wpSIn_of_wpIn rfl ?_
  have F1:=(hp.put (some t1) (fun t e=>by cases e; exact l1) hrv).put (some t2) (fun t e=>by cases e; exact l2) hrv
  have key:=rH rest s pl hc none (fun _=>rfl) κ h w hT hi _ _ κ h w _ _ hi F1 (Ev.refl κ h w) hv
  refine wpIn_mono key fun e a' w' q=>?_
  have fin:∀(κ':b9) (h':aa) (σ':Fr),(σ'.defs=[]∧∃ds,dV σ' h' rs=some ds∧∃kK,kK.sub h'∧F none kK)→Inv κ' h' w'→jz κ' w' σ' fn.ntmps a'→Ev κ h w κ' h' w'→
    a'.defers=[]∧∃u',c₁::cs={ c₀ with mode:=u' }::cs∧∃v,(results fn a'.tmps).run P w'=.ok v w'∧∃v' u'' h' κ',Ending.returned v=.returned v'∧F u'' h'∧ui κ' w' u'' (Go.settle u')∧Inv κ' h' w'∧Ev κ h w κ' h' w':=by
   intro κ' h' σ' ⟨k1,ds,k2,kK,k3,k4⟩ i' p' e'
   obtain ⟨us,g1,g2⟩:=lT (P:=P) i' p' hr k2
   have hd:a'.defers=[]:=by
    have:=p'.defs
    rw [k1] at this
    generalize a'.defers=dd at this
    cases this
    rfl
   exact ⟨hd,m',by rw [hc1],_,g1,_,none,kK,κ',rfl,k4,by rw [K_]; exact .ret,i'.sub k3,e'.sub k3⟩
  cases e with
  | normal=>obtain ⟨κ',h',σ',k,i',p',e'⟩:=q; exact fin κ' h' σ' k i' p' e'
  | ret=>obtain ⟨κ',h',σ',k,i',p',e'⟩:=q; exact fin κ' h' σ' k i' p' e'
  | exit id=>obtain ⟨κ',h',σ',k,_⟩:=q; exact k.elim
  | panic chain=>obtain ⟨κ',h',d,v,σ',_,k,_⟩:=q; exact k.elim
  | goto l=>exact q.elim
  | outgrown=>exact q.elim
 have Vg:∀v,((A.put (some t1) v).eval (.tmp t1))=v:=fun v=>by
  have:t1<A.tmps.size:=by rw [hp.size]; exact l1
  simp [Act.put,Act.eval,Array.getD_eq_getD_getElem?,this]
 refine wpSIn_seq (wpSIn_region ?_)
 have hw1:∀y,Region.wanted o1 y=true:=fun y=>by simp [Region.wanted,g1]
 have hw2:∀y,Region.wanted o2 y=true:=fun y=>by simp [Region.wanted,g2]
 show wpOpsSIn (FW none) 0 P #[o1,o2] _ [0,1] _ _ _
 simp only [wpOpsSIn,List.getElem?_toArray,List.getElem?_cons_zero,List.getElem?_cons_succ,hw1,hw2,e1,e2,d1,d2,if_true,Vg]
 refine ⟨fun _ _=>trivial,?_⟩
 subst Yi
 cases K_:c₀.mode with
 | run=>rw [K_] at hm; cases hm
 | returning=>
  rw [K_] at hm
  cases hm
  have:recoverD (c₀::cs)=none:=by simp [recoverD,K_]
  rw [this]
  refine ⟨fun _ _=>trivial,tail _ c₀ c₀.mode rfl (by rw [K_]; rfl) .fL⟩
 | panicking ch=>
  rw [K_] at hm
  cases hm with
  | Y2 r=>
   rename_i v d
   have:recoverD (c₀::cs)=some (v,{ c₀ with mode:=.panicking [{ v,recovered:=true }] }::cs):=by simp [recoverD,K_]
   rw [this]
   exact ⟨fun _ _=>trivial,tail _ _ _ rfl rfl r⟩
def bf.j6 (T:bf) (f:FuncId) (c:List D→aa→(D→aa→Prop)→(D→aa→Prop)→Prop)
  (m:∀args h (K E K' E':D→aa→Prop),(∀d h,K d h→K' d h)→(∀d h,E d h→E' d h)→c args h K E→c args h K' E'):bf:=
 { T with
  c:=fun g args h K E=>if g=f then c args h K E else T.c g args h K E
  mono:=fun g args h K E K' E' hk he=>by
   split
   ·exact m args h K E K' E' hk he
   ·exact T.mono g args h K E K' E' hk he }
theorem bf.cD [aL] (hT:T.ok P) {f:FuncId} {c:List D→aa→(D→aa→Prop)→(D→aa→Prop)→Prop} {m:∀args h (K E K' E':D→aa→Prop),(∀d h,K d h→K' d h)→(∀d h,E d h→E' d h)→c args h K E→c args h K' E'}
  (hc:∀args h K E,c args h K E→aO P f args h (dn.to K E)):(T.j6 f c m).ok P:=
 ⟨hT.q,hT.a,fun g args h K E x=>by
  simp only [bf.j6] at x
  split at x
  ·rename_i e; subst e; exact hc args h K E x
  ·exact hT.c g args h K E x,hT.y,hT.r⟩
theorem aO.FX [aL] {f:FuncId} {args:List D} {h1:aa} {R:dn→aa→Prop} (sub:h1.sub h) (c:aO P f args h1 R):aO P f args h fun o h'=>∃lL,R o lL∧h'=lL.union (h.minus h1):=by
 refine ⟨c.1,fun κ w vs hi hr=>?_⟩
 refine (c.2 κ w vs (hi.sub sub) hr).mono fun e w' ⟨o,h',κ',a1,a2,a3,a4⟩=>?_
 obtain ⟨f1,f2,f3⟩:=hi.frame sub a3 a4
 exact ⟨o,_,κ',⟨h',a1,rfl⟩,a2,f1,f2⟩
theorem o6 {id:Nat} {o o':cI} (e:h.f id=some o):(aa.emp.set id o').union (h.minus (aa.emp.set id o))=h.set id o':=by
 refine aa.ext fun q=>?_
 simp only [aa.union,aa.minus,aa.dD]
 by_cases c:q=id
 ·subst c; simp
 ·simp [c,aa.emp]
theorem sub_one {id:Nat} {o:cI} (e:h.f id=some o):(aa.emp.set id o).sub h:=fun q p hp=>by
 simp only [aa.dD] at hp
 split at hp
 ·rename_i c; subst c; cases hp; exact e
 ·simp [aa.emp] at hp
def Ow [aL] (P:Program) (f:FuncId) (pl:b7):Option (dA×List eB×Nat×Nat×Nat):=
 match P.funcs[f]? with
 | none=>none
 | some fn=>match fn.body with
  | some (.seq (.region _ ⟨[o1,o2]⟩ false) rest)=>match o1.op,o1.guard,o1.dst,o2.op,o2.guard,o2.dst with
   | .call c,none,some t1,.assign (.tmp t),none,some t2=>match c.callee,decide (t=t1∧t1<fn.ntmps∧t2<fn.ntmps),eY P f,comp P fn.ntmps pl rest,pY P fn.results.toList with
    | .builtin .recover,true,true,some s,some rs=>some (s,rs,fn.ntmps,t1,t2)
    | _,_,_,_,_=>none
   | _,_,_,_,_,_=>none
  | _=>none
theorem gA.NZ [aL] (hT:T.nJ P κ w) {k:FuncId} {s:dA} {rs:List eB} {m t1 t2:Nat} {pl:b7} {args:List D} {u:Option D} {F:Option D→aa→Prop} (hs:Ow P k pl=some (s,rs,m,t1,t2)) (hn:args.length≤m)
  (hv:vc T s (todo T (Sn rs (F none)) (fun _ _ _=>False) []) (fun _ _ _=>False) (((fT args).put (some t1) (Gv u)).put (some t2) (Gv u)) h):gA P κ w k args u h F:=by
 unfold Ow at hs
 split at hs
 ·cases hs
 ·rename_i fn hf
  split at hs
  ·rename_i id o1 o2 rest hb
   split at hs
   ·rename_i c t1' t t2' p1 g1 d1 p2 g2 d2
    split at hs
    ·rename_i s' TG hc hd jU Hx hr
     cases hs
     obtain ⟨rfl,l1,l2⟩:=of_decide_eq_true hd
     exact gA.VO hT jU hf hb g1 g2 d1 d2 l1 l2 (fun ev w=>by simp only [execOp,p1,resolve,hc,Sem.run_bind,Sem.run_pure,Result.andThen,invoke,builtin]) (fun ev w=>by simp only [execOp,p2]; rfl) Hx hr hn hv
    ·cases hs
   ·cases hs
  ·cases hs
end Go.Proofs.YtpklkpkfgmoghaaGreatDoor.Zz
