/- Contracts: digits with a point. -/
import Derived.Test.YtpklkpkfgmoghaaGreatDoorZZF
import Derived.Test.YtpklkpkfgmoghaaGreatDoorZA1
import Derived.Test.YtpklkpkfgmoghaaGreatDoorZL1
import Derived.RecoverIn
set_option linter.unnecessarySimpa false
set_option linter.unusedVariables false
set_option linter.unusedSimpArgs false
namespace Go.Proofs.YtpklkpkfgmoghaaGreatDoor.Zz
def amP:cm:=⟨⟨[],[],[],[],[],[]⟩,[],[],false⟩
def aiT:dU:=
 sO [oP (.cB (kS [])) 2]
 (sO [oM 0 7,
 oD 126 [.t 7,kS [46]] 8,
 oM 8 6,
 oX 6 0 9,
 oX 6 1 10,
 oX 6 2 11,
 oM 9 3,
 oM 10 4,
 oM 11 5]
 (sO [oM 3 12,
 oD 127 [.t 12,kS [48]] 13,
 oM 4 14,
 oD 128 [.t 14,kS [48]] 15,
 oM 13 3,
 oM 15 4]
 (.seq (sO [oM 3 16,
 oP (.bin .eql (.t 16) (kS [])) 17]
 (.cond (.t 17)
 (.ops [oP (.cB (kS [48])) 3])
 (.skip)))
 (.seq (sO [oM 4 18,
 oP (.bin .eql (.t 18) (kS [])) 19]
 (.cond (.t 19)
 (.ops [oP (.cB (kS [48])) 4])
 (.skip)))
 (sO [oM 3 20,
 oP (.bin .add (.t 20) (kS [46])) 21,
 oM 4 22,
 oE .add 21 22 23,
 oM 23 2]
 (.ret))))))
theorem ajC:bA Tryz.prog 117 amP=some (aiT,[.tmp 2],24):=by kernel_rfl
def amT:cm:=⟨⟨[],[],[],[],[],[]⟩,[],[],false⟩
def aiV:dU:=
 sO [oP (.cB (kI 0)) 2]
 (sO [oM 0 11,
 oD 126 [.t 11,kS [46]] 12,
 oM 12 10,
 oX 10 0 13,
 oX 10 1 14,
 oX 10 2 15,
 oM 13 3,
 oM 14 4,
 oM 15 5]
 (sO [oP (.cB (.c (.float .f64 0))) 6,
 oP (.cB (.c (.float .f64 4607182418800017408))) 7]
 (.seq (sO [oM 3 16,
 oM 4 17,
 oE .add 16 17 18,
 oQ (.pH (.t 18)) 19]
 (.block 0 (.loop (sO [oQ (.sX (.t 19)) 20,
 oX 20 0 21]
 (.seq (.cond (.t 21)
 (.skip)
 (.exit 0))
 (.block 1 (sO [oX 20 2 22,
 oM 22 9]
 (.ops [oM 6 23,
 oQ (.kA .mul (.t 23) (.c (.float .f64 4621819117588971520))) 24,
 oM 9 25,
 oP (.bin .sub (.t 25) (.c (.int .i32 48))) 26,
 oP (.conv .uh (.t 26)) 27,
 oQ (.kA .add (.t 24) (.t 27)) 28,
 oM 28 6]))))))))
 (.seq (sO [oM 4 29,
 oW 29 30,
 oP (.cB (kI 0)) 31]
 (.block 2 (.loop (sO [oE .lss 31 30 32]
 (.seq (.cond (.t 32)
 (.skip)
 (.exit 2))
 (.seq (.block 3 (.ops [oM 7 33,
 oQ (.kA .mul (.t 33) (.c (.float .f64 4621819117588971520))) 34,
 oM 34 7]))
 (.ops [oH .add 31 1 35,
 oM 35 31])))))))
 (sO [oM 6 36,
 oM 7 37,
 oQ (.kA .quo (.t 36) (.t 37)) 38,
 oD 82 [.t 38] 39,
 oP (.conv (.qJ .i64) (.t 39)) 40,
 oM 40 2]
 (.ret))))))
theorem ajE:bA Tryz.prog 118 amT=some (aiV,[.tmp 2],41):=by kernel_rfl
def amV:cm:=⟨⟨[],[],[],[],[],[]⟩,[],[],false⟩
def aiX:dU:=
 sO [oA 2]
 (sO [oM 0 3,
 oD 117 [.t 3] 4,
 oM 0 5,
 oD 117 [.t 5] 6,
 oD 118 [.t 6] 7,
 oP (.build zN [(0,1,(kI 21)),(1,1,(kI 2)),(2,1,(.t 4)),(3,1,(.t 7))]) 8,
 oS 5 2 8]
 (.ret))
theorem ajG:bA Tryz.prog 99 amV=some (aiX,[.cell 2 (some 5)],9):=by kernel_rfl
def S9:List D→Option D
 | [.str s,.str t]=>if s.length<4294967281 then some (.tuple [.str (Lib.cut s t).1,.str (Lib.cut s t).2.1,.bool (Lib.cut s t).2.2]) else none
 | _=>none
theorem aap (args:List D) (d:D) (h:S9 args=some d):aV Tryz.prog 126 args d:=by
 unfold S9 at h
 split at h
 ·split at h
  ·cases h; exact ag7 _ _ (by assumption)
  ·cases h
 ·cases h
theorem Yd (s t:List UInt8) (h:t=[48]):aV Tryz.prog 127 [.str s,.str t] (.str (Lib.trimLeftB s 48)):=by subst h; exact aa_ s
theorem Ye (s t:List UInt8) (h:t=[48]):aV Tryz.prog 128 [.str s,.str t] (.str (Lib.trimRightB s 48)):=by subst h; exact aba s
def Wk:List D→Option D
 | [.str s,.str t]=>if t=[48] then some (.str (Lib.trimLeftB s 48)) else none
 | _=>none
theorem aaq (args:List D) (d:D) (h:Wk args=some d):aV Tryz.prog 127 args d:=by
 unfold Wk at h
 split at h
 ·split at h
  ·cases h; exact Yd _ _ (by assumption)
  ·cases h
 ·cases h
def Wl:List D→Option D
 | [.str s,.str t]=>if t=[48] then some (.str (Lib.trimRightB s 48)) else none
 | _=>none
theorem aas (args:List D) (d:D) (h:Wl args=some d):aV Tryz.prog 128 args d:=by
 unfold Wl at h
 split at h
 ·split at h
  ·cases h; exact Ye _ _ (by assumption)
  ·cases h
 ·cases h
theorem ahg:Ae Tryz.prog 82 "math.Float64bits" =true:=by kernel_rfl
def xJ:bh:=bh.zero.dR 126 S9
theorem PG (g:FuncId) (args:List D):xJ.q g args=if g=126 then S9 args else bh.zero.q g args:=rfl
theorem PD:xJ.a=bh.zero.a:=rfl
theorem PE:xJ.c=bh.zero.c:=rfl
theorem W2:xJ.ok Tryz.prog:=bh.bE (bh.dJ _) aap
theorem PF:type_of% (And.intro @PG (And.intro @PD @PE)):=(And.intro @PG (And.intro @PD @PE))
def xK:bh:=xJ.dR 127 Wk
theorem PQ (g:FuncId) (args:List D):xK.q g args=if g=127 then Wk args else xJ.q g args:=rfl
theorem PM:xK.a=xJ.a:=rfl
theorem PN:xK.c=xJ.c:=rfl
theorem W7:xK.ok Tryz.prog:=bh.bE W2 aaq
theorem PO:type_of% (And.intro (And.intro @PQ (And.intro @PM @PN)) @PF):=(And.intro (And.intro @PQ (And.intro @PM @PN)) @PF)
def xL:bh:=xK.dR 128 Wl
theorem PW (g:FuncId) (args:List D):xL.q g args=if g=128 then Wl args else xK.q g args:=rfl
theorem PT:xL.a=xK.a:=rfl
theorem PU:xL.c=xK.c:=rfl
theorem Xa:xL.ok Tryz.prog:=bh.bE W7 aas
theorem PV:type_of% (And.intro (And.intro @PW (And.intro @PT @PU)) @PO):=(And.intro (And.intro @PW (And.intro @PT @PU)) @PO)
def xM:bh:=xL.dR 82 yf
theorem PZ (g:FuncId) (args:List D):xM.q g args=if g=82 then yf args else xL.q g args:=rfl
theorem PX:xM.a=xL.a:=rfl
theorem PY:xM.c=xL.c:=rfl
theorem BB:xM.ok Tryz.prog:=bh.EL Xa (KH ahg)
theorem nA:type_of% (And.intro (And.intro @PZ (And.intro @PX @PY)) @PV):=(And.intro (And.intro @PZ (And.intro @PX @PY)) @PV)
def jW (l:List UInt8):List UInt8:=if (l==[])=true then [48] else l
theorem V0 {l:List UInt8} (h:(l==[])=true):jW l=[48]:=if_pos h
theorem VZ {l:List UInt8} (h:(l==[])=false):jW l=l:=if_neg (by simp [h])
def nO (s:List UInt8):List UInt8:=jW (Lib.trimLeftB (Lib.cut s [46]).1 48)++[46]++jW (Lib.trimRightB (Lib.cut s [46]).2.1 48)
theorem Ek (l:List UInt8) (c:UInt8):(Lib.trimLeftB l c).length≤l.length:=jo _ l
theorem El (l:List UInt8) (c:UInt8):(Lib.trimRightB l c).length≤l.length:=by
 have:=jo (fun b=>b==c) l.reverse
 simp only [Lib.trimRightB,List.length_reverse] at this ⊢
 exact this
theorem Ze (s t:List UInt8):(Lib.cut s t).1.length≤s.length∧(Lib.cut s t).2.1.length≤s.length:=by
 unfold Lib.cut
 split<;>simp<;>omega
theorem UX (s:List UInt8) (h:s.length<4294967281):aV Tryz.prog 117 [.str s] (.str (nO s)):=by
 refine aV.run BB ajC (by simp) fun E=>?_
 have l1:=Ze s [46]
 have l2:=Ek (Lib.cut s [46]).1 48
 have l3:=El (Lib.cut s [46]).2.1 48
 unfold nO
 cases c1d:(Lib.trimLeftB (Lib.cut s [46]).1 48==[])<;>cases c2d:(Lib.trimRightB (Lib.cut s [46]).2.1 48==[])<;>
  simp only [aiT,h,c1d,c2d,S9,Wk,Wl,V0,VZ,nA,aA,seval]<;>(try simp only [List.length_cons,List.length_nil,List.length_append])<;>(repeat' first | omega | trivial | refine And.intro ?_ ?_)
def fG (l:List UInt8):Nat:=l.foldl (fun n c=>n*10+(c.toNat - 48)) 0
def fi (c:UInt8):Bool:=decide (48≤c.toNat) && decide (c.toNat≤57)
theorem TD (l:List UInt8) (c:UInt8):fG (l++[c])=fG l*10+(c.toNat - 48):=by simp [fG]
theorem uX (l:List UInt8):l.all fi=true→fG l<10 ^ l.length:=by
 intro h
 have key:∀(l:List UInt8) (n k:Nat),l.all fi=true→n<10 ^ k→l.foldl (fun n c=>n*10+(c.toNat - 48)) n<10 ^ (k+l.length):=by
  intro l
  induction l with
  | nil=>intro n k _ h; exact h
  | cons c l ih=>
   intro n k ha hn
   simp only [List.all_cons,Bool.and_eq_true] at ha
   have hc:c.toNat - 48≤9:=by have:=ha.1; simp [fi] at this; omega
   have:=ih (n*10+(c.toNat - 48)) (k+1) ha.2 (by rw [Nat.pow_succ]; omega)
   rw [List.foldl_cons,List.length_cons,show k+(l.length+1)=k+1+l.length by omega]
   exact this
 have:=key l 0 0 h (by decide)
 rw [Nat.zero_add] at this
 exact this
theorem Rz {l:List UInt8} (h:l.all fi=true) (hl:l.length≤15):fG l<1000000000000000:=by
 have h1:=uX l h
 have h2:=Nat.pow_le_pow_right (show 0<10 by decide) hl
 have h3:(10:Nat) ^ 15=1000000000000000:=by decide
 omega
def Wp (m n:Nat):Nat:=(floatBits .quo .f64 (u9 m) (u9 n)).getD 0
theorem Od {m n:Nat} (hm:m<9007199254740992) (hn:n<9007199254740992) (h0:0<n):floatBits .quo .f64 (u9 m) (u9 n)=some (Wp m n)∧Wp m n≤2047*4503599627370496:=by
 obtain ⟨r,h1,h2⟩:=adY m n hm hn h0
 unfold Wp
 rw [h1]
 exact ⟨rfl,h2⟩
def l9 (s:List UInt8):Int:=IntKind.i64.wrap (Wp (fG ((Lib.cut s [46]).1++(Lib.cut s [46]).2.1)) (10 ^ (Lib.cut s [46]).2.1.length):Nat)
theorem A3 {n:Nat} (h:n≤15):(10:Nat) ^ n≤1000000000000000:=by
 have h2:=Nat.pow_le_pow_right (show 0<10 by decide) h
 have h3:(10:Nat) ^ 15=1000000000000000:=by decide
 omega
theorem adr (s:List UInt8) (h:s.length<4294967281) (hd:((Lib.cut s [46]).1++(Lib.cut s [46]).2.1).all fi=true) (hl:((Lib.cut s [46]).1++(Lib.cut s [46]).2.1).length≤15):aV Tryz.prog 118 [.str s] (.int .i64 (l9 s)):=by
 refine aV.run BB ajE (by simp) fun E=>?_
 unfold l9
 simp only [aiV,h,S9,nA,aA,seval]
 generalize (Lib.cut s [46]).1=A at*
 generalize (Lib.cut s [46]).2.1=B at*
 rw [List.length_append] at hl
 refine ⟨by omega,?_⟩
 intro id
 simp only [VA,aA,seval]
 have ig:∀i c,(A++B)[i]? =some c→fi c=true:=fun i c hc=>by
  rw [List.all_eq_true] at hd
  exact hd c (List.mem_of_getElem? hc)
 have v15:=Rz hd (by rw [List.length_append]; omega)
 have vle:∀i,fG ((A++B).take i)<1000000000000000:=fun i=>Rz (by
  rw [List.all_eq_true] at hd ⊢
  exact fun x hx=>hd x (List.mem_of_mem_take hx)) (by rw [List.length_take,List.length_append]; omega)
 generalize hS:A++B=S at*
 have hSl:S.length=A.length+B.length:=by rw [←hS,List.length_append]
 refine cj (X:=Nat) (fun i=>[(4,.str B),(6,.float .f64 (u9 (fG (S.take i)))),(7,.float .f64 (u9 1)),(19,.iter id)]) (fun i=>aa.emp.set id (.lH S i)) (fun i=>S.length - i) (fun i=>i≤S.length) 0 (Nat.zero_le _) ?_ (aa.aj _) ?_
 ·have v0:u9 (fG [])=0:=Sq
  simp only [ad1,v0,List.take_zero,aA,seval]
 ·intro i Q hi hQ
  by_cases c:i<S.length
  ·obtain ⟨x,hx⟩:∃x,S[i]? =some x:=⟨_,List.getElem?_eq_getElem c⟩
   have hxd:=ig i x hx
   have LN:48≤x.toNat∧x.toNat≤57:=by simpa [fi] using hxd
   have e1:=Lv hx (UInt8.lt_iff_toNat_lt.2 (Nat.lt_of_le_of_lt LN.2 (by decide)))
   have e2:IntKind.i32.wrap ((x.toNat:Int) - 48)=((x.toNat - 48:Nat):Int):=by
    simp [IntKind.wrap,IntKind.bits,IntKind.signed]
    split<;>omega
   have tk:S.take (i+1)=S.take i++[x]:=by
    rw [List.take_add_one,hx]; rfl
   have hv:fG (S.take i)*10+(x.toNat - 48)=fG (S.take (i+1)):=by rw [tk,TD]
   have v1:=vle (i+1)
   have m1:=U_ (fG (S.take i)) 10 (by omega) (by decide) (by omega)
   rw [Va] at m1
   have m2:=adX (fG (S.take i)*10) (x.toNat - 48) (by omega) (by omega) (by omega)
   rw [hv] at m2
   have c1d:(i<S.length)=True:=eq_true c
   have c2d:(S.length≤i)=False:=eq_false (by omega)
   simp only [NJ,D9,c1d,c2d,e1,e2,adZ,m1,m2,true_implies,false_implies,and_true,nA,aA,seval]
   refine hQ (i+1) _ _ (by omega) (by simp only [aA,seval]) ?_ (by omega)
   exact aa.fm (by repeat' first | with_reducible exact aa.bZ | with_reducible exact aa.cz | refine aa.dS (by simp []) ?_ | refine aa.dT (by simp []) ?_)
  ·have e0:i=S.length:=by omega
   subst e0
   have c1d:(S.length<S.length)=False:=eq_false (by omega)
   have hlB:B.length≤15:=by omega
   have tk:S.take S.length=S:=List.take_length
   simp only [NJ,D9,c1d,tk,Nat.le_refl,true_implies,false_implies,true_and,nA,aA,seval]
   intro _
   refine cj (X:=Nat) (fun i=>[(6,.float .f64 (u9 (fG S))),(7,.float .f64 (u9 (10 ^ i))),(30,.int .i64 B.length),(31,.int .i64 i)]) (fun i=>.emp) (fun i=>B.length - i) (fun i=>i≤B.length) 0 (Nat.zero_le _) ?_ Ok ?_
   ·simp only [Nat.pow_zero,aA,seval]
   ·intro i Q hi hQ
    by_cases c:i<B.length
    ·have g:((i:Int)<(B.length:Int))=True:=eq_true (by omega)
     have p1d:=A3 (n:=i) (by omega)
     have p2d:=A3 (n:=i+1) (by omega)
     rw [Nat.pow_succ] at p2d
     have m1:=U_ (10 ^ i) 10 (by omega) (by decide) (by omega)
     rw [Va,←Nat.pow_succ] at m1
     have wi:IntKind.i64.wrap ((i:Int)+1)=((i+1:Nat):Int):=cp (by omega)
     simp only [g,m1,wi,nA,aA,seval]
     exact hQ (i+1) _ _ (by omega) (by simp only [aA,seval]) Ok (by omega)
    ·have e0:i=B.length:=by omega
     subst e0
     have g:((B.length:Int)<(B.length:Int))=False:=eq_false (by omega)
     obtain ⟨m1,m2⟩:=Od (m:=fG S) (n:=10 ^ B.length) (by omega) (by have:=A3 hlB; omega) (Nat.pow_pos (by decide))
     simp only [g,m1,yf,nA,aA,seval]
def S2:List D→Option D
 | [.str s]=>if s.length<4294967281 then some (.str (nO s)) else none
 | _=>none
theorem aah (args:List D) (d:D) (h:S2 args=some d):aV Tryz.prog 117 args d:=by
 unfold S2 at h
 split at h
 ·split at h
  ·cases h; exact UX _ (by assumption)
  ·cases h
 ·cases h
def S4:List D→Option D
 | [.str s]=>if s.length<4294967281∧((Lib.cut s [46]).1++(Lib.cut s [46]).2.1).all fi=true∧((Lib.cut s [46]).1++(Lib.cut s [46]).2.1).length≤15 then some (.int .i64 (l9 s)) else none
 | _=>none
theorem aaj (args:List D) (d:D) (h:S4 args=some d):aV Tryz.prog 118 args d:=by
 unfold S4 at h
 split at h
 ·split at h
  ·cases h; exact adr _ (by rename_i h; exact h.1) (by rename_i h; exact h.2.1) (by rename_i h; exact h.2.2)
  ·cases h
 ·cases h
def xw:bh:=xM.dR 117 S2
theorem ON (g:FuncId) (args:List D):xw.q g args=if g=117 then S2 args else xM.q g args:=rfl
theorem OK:xw.a=xM.a:=rfl
theorem OL:xw.c=xM.c:=rfl
theorem WS:xw.ok Tryz.prog:=bh.bE BB aah
theorem OM:type_of% (And.intro (And.intro @ON (And.intro @OK @OL)) @nA):=(And.intro (And.intro @ON (And.intro @OK @OL)) @nA)
def OZ:bh:=xw.dR 118 S4
theorem O2 (g:FuncId) (args:List D):OZ.q g args=if g=118 then S4 args else xw.q g args:=rfl
theorem O0:OZ.a=xw.a:=rfl
theorem O1:OZ.c=xw.c:=rfl
theorem WV:OZ.ok Tryz.prog:=bh.bE WS aaj
theorem aaX:type_of% (And.intro (And.intro @O2 (And.intro @O0 @O1)) @OM):=(And.intro (And.intro @O2 (And.intro @O0 @O1)) @OM)
theorem Dj:∀(A B:List UInt8),A.all fi=true→Lib.index (A++([46]++B)) [46]=A.length
 | [],B,_=>by simp [Lib.index]
 | a::A,B,h=>by
  simp only [List.all_cons,Bool.and_eq_true] at h
  have ih:=Dj A B h.2
  have h1:(46==a)=false:=by
   have:=h.1
   simp only [fi,Bool.and_eq_true,decide_eq_true_eq] at this
   simp only [beq_eq_false_iff_ne]
   intro e
   rw [←e] at this
   exact absurd this.1 (by decide)
  rw [List.cons_append,Lib.index,ih]
  have h2:(([46]:List UInt8).isPrefixOf (a::(A++([46]++B))))=false:=by simp [List.isPrefixOf,h1]
  have h3:(((A.length:Int)== -1)=false):=by simp only [beq_eq_false_iff_ne]; omega
  rw [h2,h3]
  simp
theorem E9 (A B:List UInt8) (h:A.all fi=true):Lib.cut (A++[46]++B) [46]=(A,B,true):=by
 unfold Lib.cut
 rw [List.append_assoc,Dj A B h,if_pos (by omega),Int.toNat_natCast]
 rw [List.take_left,←List.append_assoc,List.drop_left' (by simp)]
theorem AK {l:List UInt8} (h:l.all fi=true):(jW l).all fi=true:=by
 unfold jW
 split
 ·decide
 ·exact h
theorem AL (l:List UInt8) (n:Nat) (h:l.length≤n) (h1:1≤n):(jW l).length≤n:=by
 unfold jW
 split
 ·exact h1
 ·exact h
theorem sL (p q:UInt8→Bool) (l:List UInt8) (h:l.all q=true):(l.dropWhile p).all q=true:=by
 rw [List.all_eq_true] at h ⊢
 exact fun x hx=>h x ((List.dropWhile_sublist p).subset hx)
theorem Tv {l:List UInt8} (c:UInt8) (h:l.all fi=true):(Lib.trimLeftB l c).all fi=true:=sL _ _ _ h
theorem Tw {l:List UInt8} (c:UInt8) (h:l.all fi=true):(Lib.trimRightB l c).all fi=true:=by
 unfold Lib.trimRightB
 rw [List.all_reverse]
 exact sL _ _ _ (by rw [List.all_reverse]; exact h)
theorem UW (A B:List UInt8) (h:A.all fi=true):nO (A++[46]++B)=jW (Lib.trimLeftB A 48)++[46]++jW (Lib.trimRightB B 48):=by
 unfold nO
 rw [E9 A B h]
structure kx (s A B:List UInt8):Prop where
 eq:s=A++[46]++B
 a:A.all fi=true
 b:B.all fi=true
 a1:1≤A.length
 b1:1≤B.length
 len:A.length+B.length≤15
theorem kx.dig {s A B:List UInt8} (h:kx s A B):kx (nO s) (jW (Lib.trimLeftB A 48)) (jW (Lib.trimRightB B 48)):=by
 obtain ⟨rfl,a,b,a1,b1,l⟩:=h
 have l1:=AL _ A.length (Ek A 48) a1
 have l2:=AL _ B.length (El B 48) b1
 refine ⟨UW A B a,AK (Tv 48 a),AK (Tw 48 b),?_,?_,by omega⟩
 ·unfold jW; split
  ·exact Nat.le_refl _
  ·rename_i h; cases e:Lib.trimLeftB A 48 with
   | nil=>rw [e] at h; exact absurd rfl h
   | cons x l=>simp
 ·unfold jW; split
  ·exact Nat.le_refl _
  ·rename_i h; cases e:Lib.trimRightB B 48 with
   | nil=>rw [e] at h; exact absurd rfl h
   | cons x l=>simp
theorem kx.ah_ {s A B:List UInt8} (h:kx s A B):S2 [.str s]=some (.str (nO s)):=by
 have:s.length<4294967281:=by rw [h.eq]; simp only [List.length_append,List.length_cons,List.length_nil]; have:=h.len; omega
 simp only [S2]
 rw [if_pos this]
theorem kx.aeD {s A B:List UInt8} (h:kx s A B):S4 [.str s]=some (.int .i64 (l9 s)):=by
 have h1:s.length<4294967281:=by rw [h.eq]; simp only [List.length_append,List.length_cons,List.length_nil]; have:=h.len; omega
 simp only [S4]
 rw [if_pos]
 rw [h.eq] at h1 ⊢
 rw [E9 A B h.a]
 exact ⟨h1,by rw [List.all_append,h.a,h.b]; rfl,by rw [List.length_append]; exact h.len⟩
theorem kx.bits {s A B:List UInt8} (h:kx s A B):l9 s=IntKind.i64.wrap (Wp (fG (A++B)) (10 ^ B.length):Nat):=by
 unfold l9
 rw [h.eq,E9 A B h.a]
theorem Zm (s A B:List UInt8) (h:kx s A B):aV Tryz.prog 99 [.str s] (.agg [.int .i64 21,.int .i64 2,.str (nO s),.int .i64 (l9 (nO s)),.sl []]):=by
 refine aV.run WV ajG (by simp) fun E=>?_
 have h1:=h.ah_
 have h2:=h.dig.aeD
 simp only [aiX,h1,h2,aaX,aA,seval]
end Go.Proofs.YtpklkpkfgmoghaaGreatDoor.Zz
namespace Go.Proofs.YtpklkpkfgmoghaaGreatDoor.Zz
noncomputable section
structure PS where
 pos:Int
 dI:Int
 deep:Int
inductive PR (α:Type) where
 | ok (x:α) (s:PS)
 | fail (a e:Int)
 | out
end
variable {α β:Type}
def PR.bind (r:PR α) (k:α→PS→PR β):PR β:=match r with
 | .ok x s=>k x s
 | .fail a e=>.fail a e
 | .out=>.out
def lg (r:PR α) (K:α→PS→Prop) (E:Int→Int→Prop):Prop:=match r with
 | .ok x s=>K x s
 | .fail a e=>E a e
 | .out=>False
theorem cU {x:α} {s:PS} {K:α→PS→Prop} {E:Int→Int→Prop}:lg (.ok x s) K E=K x s:=rfl
theorem Yy {a e:Int} {K:α→PS→Prop} {E:Int→Int→Prop}:lg (.fail a e) K E=E a e:=rfl
theorem aR {r:PR α} {k:α→PS→PR β} {K:β→PS→Prop} {E:Int→Int→Prop}:lg (r.bind k) K E=lg r (fun x s=>lg (k x s) K E) E:=by cases r<;>rfl
theorem js {r:PR α} {K K':α→PS→Prop} {E E':Int→Int→Prop} (hk:∀x s,K x s→K' x s) (he:∀a e,E a e→E' a e) (h:lg r K E):lg r K' E':=by
 cases r with
 | ok x s=>exact hk _ _ h
 | fail a e=>exact he _ _ h
 | out=>exact h
section
variable (l:List Tok)
def fe (s:PS):Tok:=l.getD s.pos.toNat (0,[],0)
def jX (e:Int) (s:PS):PR α:=.fail (fe l s).2.2 e
def oK (x:List UInt8) (s:PS):Bool:=(fe l s).2.1==x && ((fe l s).1==5 || (fe l s).1==4)
def di (s:PS):PS:={ s with pos:=s.pos+1 }
def eC (x:List UInt8) (s:PS):PR Bool:=bif oK l x s then .ok true (di s) else .ok false s
def gP (x:List UInt8) (s:PS):PR Unit:=bif oK l x s then .ok () (di s) else jX l 110 s
def ko (s:PS):PR (List UInt8):=bif (fe l s).1==1 then .ok (fe l s).2.1 (di s) else jX l 110 s
def pS:List UInt8:=[105,110,116]
def ib:List UInt8:=[102,108,111,97,116]
def BN:List UInt8:=[98,111,111,108]
def sH (s:PS):PR Int:=bif oK l pS s then .ok 1 (di s) else bif oK l ib s then .ok 2 (di s) else bif oK l BN s then .ok 3 (di s) else jX l 110 s
def eJ (n:Nd) (s:PS):PR Nd:=if s.dI+1>2000 then jX l 3 { s with dI:=s.dI+1 } else .ok n { s with dI:=s.dI+1 }
def pIn (s:PS):PR Unit:=if s.deep+1>40 then jX l 3 { s with deep:=s.deep+1 } else .ok () { s with deep:=s.deep+1 }
def Mc (r:PR α):PR α:=r.bind fun x s=>.ok x { s with deep:=s.deep - 1 }
def lv (x:List UInt8):Nd:=.mk 21 0 (nO x) (l9 (nO x)) []
def rO:List UInt8:=[116,114,117,101]
def mH:List UInt8:=[102,97,108,115,101]
def nS (s:PS):PR (Nd×Bool):=
 let t:=fe l s
 let go (n:Nd):PR (Nd×Bool):=(eJ l n (di s)).bind fun n s=>.ok (n,true) s
 bif t.1==2 then go (.mk 20 0 [] (fG t.2.1:Nat) [])
 else bif t.1==3 then go (lv t.2.1)
 else bif oK l rO s then go (.mk 22 0 [] 1 [])
 else bif oK l mH s then go (.mk 22 0 [] 0 [])
 else .ok (.mk 0 0 [] 0 [],false) s
def Nd.kind:Nd→Int
 | .mk k _ _ _ _=>k
def Nd.WD (n:Nd) (v:Int):Nd:=match n with
 | .mk k t s _ l=>.mk k t s v l
def Nd.num:Nd→Int
 | .mk _ _ _ n _=>n
def aex (n:Int):Int:=IntKind.i64.wrap ((Op.negFloat .f64 (IntKind.u64.wrap n).toNat:Nat):Int)
def FF (s:PS):PR Nd:=(eC l [45] s).bind fun minus s=>(nS l s).bind fun x s=>
 bif !x.2 || (minus && x.1.kind==22) then jX l 110 s
 else .ok (bif minus && x.1.kind==20 then x.1.WD (IntKind.i64.wrap (0 - x.1.num)) else bif minus && x.1.kind==21 then x.1.WD (aex x.1.num) else x.1) s
def gZ (s:List UInt8):Int:=
 bif s==[124,124] then 1 else bif s==[38,38] then 2
 else bif s==[60] || s==[60,61] || s==[62] || s==[62,61] || s==[61,61] || s==[33,61] then 3
 else bif s==[43] || s==[45] then 4 else bif s==[42] || s==[47] || s==[37] then 5 else 0
end
end Go.Proofs.YtpklkpkfgmoghaaGreatDoor.Zz
namespace Go.Proofs.YtpklkpkfgmoghaaGreatDoor.Zz
variable {P:Program} {T:bh} {κ:cT} {h:aa} {w:World} {σ:Fr} {n:Nat} {a:Act}
inductive yg (κ:cT) (w:World):Option D→FrameMode→Prop
 | ret:yg κ w none .returning
 | pan {v:Value} {d:D} (r:cL κ w v d):yg κ w (some d) (.panicking [{ v,recovered:=false }])
theorem yg.mono {κ κ':cT} {w w':World} {u:Option D} {m:FrameMode} (r:yg κ w u m) (le:Le κ w κ' w'):yg κ' w' u m:=by
 cases r with
 | ret=>exact .ret
 | pan r=>exact .pan (r.mono le)
def iM [aT] (P:Program) (κ:cT) (w:World) (k:FuncId) (args:List D) (u:Option D) (h:aa) (F:Option D→aa→Prop):Prop:=
 gK P k=true∧∀(vs:Array Value) (m:FrameMode),Inv κ h w→cn κ w vs.toList args→yg κ w u m→
  CallsDIn (FW none) 0 P k vs m w fun e m' w'=>∃v u' h' κ',e=.returned v∧F u' h'∧yg κ' w' u' (settle m')∧Inv κ' h' w'∧Ev κ h w κ' h' w'
abbrev cy:=FuncId→List D→Option D→aa→(Option D→aa→Prop)→Prop
def cy.none:cy:=fun _ _ _ _ _=>False
def cy.qe [aT] (P:Program) (κ:cT) (w:World) (dc:cy):Prop:=∀k args u h F,dc k args u h F→∀κ' w',Le κ w κ' w'→iM P κ' w' k args u h F
theorem cy.cX [aT]:cy.none.qe P κ w:=fun _ _ _ _ _ x=>x.elim
def gb (dc:cy):List nJ→Option D→aa→(Option D→aa→Prop)→Prop
 | [],u,h,F=>F u h
 | d::ds,u,h,F=>match d.fn with
  | .yield rd=>h.f rd=some .dfr∧gb dc ds u (h.del rd) F
  | .func k=>dc k (d.args++d.cap) u h (fun u' h'=>gb dc ds u' h' F)
  | _=>False
def av (rs:List fO) (R:cY→aa→Prop) (σ:Fr) (u:Option D) (h:aa):Prop:=
 match u with
 | none=>∃ds,eI σ h rs=some ds∧((∃h',h'.sub h∧R (.ret (BF ds)) h')∨(∃h',h'.sub (fQ h ds)∧R (.ret (BF (ds.map (plain h)))) h'))
 | some d=>∃h',h'.sub h∧R (.panic d) h'
def Tb (dc:cy) (rs:List fO) (R:cY→aa→Prop) (e:Ex) (σ:Fr) (h:aa):Prop:=
 match e with
 | .exit _=>False
 | _=>gb dc σ.defs none h (av rs R σ)
def aX (dc:cy) (rs:List fO) (R:cY→aa→Prop) (σ:Fr) (d:D) (h:aa):Prop:=gb dc σ.defs (some d) h (av rs R σ)
theorem s9 {ds:List nJ}:∀(rs:List fO),eI { σ with defs:=ds } h rs=eI σ h rs
 | []=>rfl
 | .tmp t::l=>by simp only [eI,s9 l]
 | .cell x k::l=>by simp only [eI,s9 l]
theorem jT [aT] {dc:cy} {fn:Func} {rs:List fO} {R:cY→aa→Prop} {σ:Fr} {tmps:Array Value} {κ0:cT} {h0:aa} {w0:World} (u_:Inv κ0 h0 w0) (Vk:dc.qe P κ0 w0) (hr:tz P fn.results.toList=some rs):
  ∀(ds:List nJ) (dv:List Deferred) (u:Option D) (m:FrameMode) (κ:cT) (h:aa) (w:World),gb dc ds u h (av rs R σ)→mS κ w dv ds→Inv κ h w→yg κ w u m→Ev κ0 h0 w0 κ h w→(∀i,cL κ w (tmps.getD i undef) (σ.env i))→
   LeavesInM (FW none) 0 P fn tmps (fun e w'=>∃o h' κ',R o h'∧lh κ' w' o e∧Inv κ' h' w'∧Ev κ0 h0 w0 κ' h' w') dv m w
 | [],dv,u,m,κ,h,w,hl,hd,hi,hm,ev,Zv=>by
  cases hd
  simp only [gb,av] at hl
  cases hm with
  | ret=>
   obtain ⟨ds,k2,k3⟩:=hl
   have hp:lf κ w { σ with defs:=[] } tmps.size { tmps:=tmps,defers:=[] }:=⟨rfl,Zv,.nil,hi.mN⟩
   obtain ⟨us,g1,g2⟩:=oV (P:=P) hi hp hr (by rw [s9]; exact k2)
   refine ⟨_,g1,?_⟩
   rcases k3 with ⟨na,s1,s2⟩ | ⟨na,s1,s2⟩
   ·exact ⟨_,na,κ,s2,.ret (y7 g2),hi.sub s1,ev.sub s1⟩
   ·obtain ⟨jt,i2,e2,r2⟩:=ky hi g2
    exact ⟨_,na,jt,s2,.ret (y7 r2),i2.sub s1,(ev.trans e2).sub s1⟩
  | pan r=>
   obtain ⟨h',s1,s2⟩:=hl
   exact ⟨.panic _,h',κ,s2,.panic r,hi.sub s1,ev.sub s1⟩
 | d::ds,dv,u,m,κ,h,w,hl,hd,hi,hm,ev,Zv=>by
  cases hd with
  | cons hd1 hds=>
  have hmr:m≠.run:=by cases hm<;>simp
  refine ⟨hmr,?_⟩
  cases hd1 with
  | col h1 h2 h3=>
   rename_i r id p
   simp only [gb] at hl
   obtain ⟨k1,k2⟩:=hl
   obtain ⟨p',q1,q2,q3,q4⟩:=hi.obj id _ k1
   rw [h1] at q1
   cases q1
   subst h3
   obtain ⟨i4,ev4⟩:=hi.putObj (o':=.other) (ob:=.deferred none) k1 h1 rfl rfl ⟨q2,q3⟩
   have WN:(h.del id).sub (h.set id .other):=fun i o ho=>by
    simp only [aa.abr,aa.b9] at ho ⊢
    split at ho
    ·cases ho
    ·rename_i iy; rw [if_neg iy]; exact ho
   have le4:=ev4.le hi
   exact .inl ⟨_,_,rfl,run_takeDeferred q4,jT u_ Vk hr ds _ u m κ _ _ k2 (hds.mono le4) (i4.sub WN) (hm.mono le4) ((ev.trans ev4).sub WN) fun i=>(Zv i).mono le4⟩
  | mk hc ha=>
   rename_i k cap args apM an3
   simp only [gb] at hl
   obtain ⟨Vj,pV⟩:=Vk _ _ _ _ _ hl κ w (ev.le u_)
   refine .inr ⟨yB,.func k,cap,k,args++cap,rfl,?_,fun _ _=>trivial,?_⟩
   ·simp only [invoke,iY Vj]
   ·refine CallsDIn.mono (pV (args++cap) m hi (by rw [Array.toList_append]; exact ha.append hc) hm) ?_
    rintro e m' w' ⟨v,u',h',κ',rfl,k1,k2,k3,k4⟩
    have le4:=k4.le hi
    exact jT u_ Vk hr ds _ u' (settle m') κ' h' w' k1 (hds.mono le4) k3 k2 (ev.trans k4) fun i=>(Zv i).mono le4
theorem dw.aeC [aT] (hT:T.qe P κ w) {dc:cy} (Vk:dc.qe P κ w) {f:FuncId} {fn:Func} {c:Code} {s:dU} {pl:cm} {rs:List fO} {args:List D} {R:cY→aa→Prop} (hf:P.funcs[f]? =some fn) (hb:fn.body=some c) (lP:gK P f=true) (hc:comp P fn.ntmps pl c=some s) (hr:tz P fn.results.toList=some rs)
  (hn:args.length≤fn.ntmps) (hv:vc T s (Tb dc rs R) (aX dc rs R) (ij args) h):dw P κ w f args h R:=by
 refine ⟨lP,fun vs hi sB=>callsIn_wide.1 (callsIn_of_wp_marks (F:=FW none) (n:=0) hf hb trivial ?_)⟩
 have hp:=tQ hi sB hn
 have key:=uY c s pl hc none (fun _=>rfl) κ h w hT hi _ _ κ h w _ _ hi hp (Ev.refl κ h w) hv
 refine wpIn_mono key fun e a' w' q=>?_
 cases e with
 | normal=>obtain ⟨κ',h',σ',k,i',p',e'⟩:=q; exact jT hi Vk hr _ _ none _ κ' h' w' k p'.defs i' .ret e' p'.env
 | ret=>obtain ⟨κ',h',σ',k,i',p',e'⟩:=q; exact jT hi Vk hr _ _ none _ κ' h' w' k p'.defs i' .ret e' p'.env
 | exit id=>obtain ⟨κ',h',σ',k,_⟩:=q; exact k.elim
 | panic chain=>obtain ⟨κ',h',d,v,σ',rfl,k,r,p',i',e'⟩:=q; exact jT hi Vk hr _ _ (some d) _ κ' h' w' k p'.defs i' (.pan r) e' p'.env
 | goto l=>exact q.elim
 | outgrown=>exact q.elim
theorem dw.cv [aT] (hT:T.qe P κ w) {dc:cy} (Vk:dc.qe P κ w) {f:FuncId} {s:dU} {rs:List fO} {m:Nat} {pl:cm} {args:List D} {R:cY→aa→Prop} (hs:bA P f pl=some (s,rs,m)) (hn:args.length≤m) (hv:vc T s (Tb dc rs R) (aX dc rs R) (ij args) h):dw P κ w f args h R:=by
 unfold bA at hs
 split at hs
 ·cases hs
 ·rename_i fn hf
  split at hs
  ·cases hs
  ·rename_i c hb
   split at hs
   ·rename_i s' rs' h1 h2 h3
    cases hs
    exact dw.aeC hT Vk hf hb h1 h2 h3 hn hv
   ·cases hs
theorem aH.cv [aT] (hT:T.ok P) {dc:cy} (Vk:∀κ w,dc.qe P κ w) {f:FuncId} {s:dU} {rs:List fO} {m:Nat} {pl:cm} {args:List D} {R:cY→aa→Prop} (hc:gK P f=true) (hs:bA P f pl=some (s,rs,m)) (hn:args.length≤m) (hv:vc T s (Tb dc rs R) (aX dc rs R) (ij args) h):aH P f args h R:=
 ⟨hc,fun κ w=>(dw.cv (hT.toY κ w) (Vk κ w) hs hn hv).2⟩
theorem af {dc:cy} {rs:List fO} {R:cY→aa→Prop}:Tb dc rs R .ret σ h=gb dc σ.defs none h (av rs R σ):=rfl
theorem ae {dc:cy} {rs:List fO} {R:cY→aa→Prop}:Tb dc rs R .normal σ h=gb dc σ.defs none h (av rs R σ):=rfl
theorem ab {dc:cy} {u:Option D} {F:Option D→aa→Prop}:gb dc [] u h F=F u h:=rfl
theorem ag {dc:cy} {k:FuncId} {c xs:List D} {ds:List nJ} {u:Option D} {F:Option D→aa→Prop}:gb dc (⟨.func k,c,xs⟩::ds) u h F=dc k (xs++c) u h (fun u' h'=>gb dc ds u' h' F):=rfl
theorem dw.frame [aT] {f:FuncId} {args:List D} {h1:aa} {L:List (Nat×cJ)} {K:D→aa→Prop} (hL:∀p∈L,h1.f p.1=none) (c:dw P κ w f args h1 fun o h'=>∃d,o=.ret d∧((∀p∈L,h'.f p.1=none)→K d (h'.Ce L))):
  dw P κ w f args (h1.Ce L) fun o h'=>∃d,o=.ret d∧K d h':=by
 refine ⟨c.1,fun vs hi hr=>?_⟩
 have sub:=ID hL
 refine (c.2 vs (hi.sub sub) hr).mono fun e w' ⟨o,h',κ',⟨d,e1,k⟩,a2,a3,a4⟩=>?_
 obtain ⟨f1,f2,f3⟩:=hi.frame sub a3 a4
 have dis:∀p∈L,h'.f p.1=none:=fun p hp=>f3 p.1 (by
  obtain ⟨o',qI⟩:=Cm hp
  rw [A6,qI]; simp) (hL p hp)
 rw [A7 hL dis] at f1 f2
 exact ⟨o,_,κ',⟨d,e1,k dis⟩,a2,f1,f2⟩
theorem dw.ah9 [aT] (hT:T.qe P κ w) {f:FuncId} {s:dU} {rs:List fO} {m:Nat} {pl:cm} {args:List D} {K:D→aa→Prop} (hs:bA P f pl=some (s,rs,m)) (hn:args.length≤m)
  (hv:vc T s (todo T (Mq rs K) (fun _ _ _=>False) []) (fun _ _ _=>False) (ij args) h):dw P κ w f args h fun o h'=>∃d,o=.ret d∧K d h':=by
 refine dw.nR hT hs hn (jz (fun e σ h k=>?_) (fun ds d h k=>k.elim) hv)
 cases e with
 | exit i=>exact k
 | _=>obtain ⟨a,ds,b,c⟩:=k; exact ⟨a,ds,b,.inl ⟨h,aa.aj h,_,rfl,c⟩⟩
def afh (rs:List fO) (K:D→aa→Prop) (e:Ex) (σ:Fr) (h:aa):Prop:=
 match e with
 | .exit _=>False
 | _=>σ.defs=[]∧∃ds,eI σ h rs=some ds∧∃h',h'.sub h∧K (BF ds) h'
theorem iU {rs:List fO} {K:D→aa→Prop}:afh rs K .ret σ h=(σ.defs=[]∧∃ds,eI σ h rs=some ds∧∃h',h'.sub h∧K (BF ds) h'):=rfl
theorem dw.VS [aT] (hT:T.qe P κ w) {f:FuncId} {s:dU} {rs:List fO} {m:Nat} {pl:cm} {args:List D} {K:D→aa→Prop} (hs:bA P f pl=some (s,rs,m)) (hn:args.length≤m)
  (hv:vc T s (todo T (afh rs K) (fun _ _ _=>False) []) (fun _ _ _=>False) (ij args) h):dw P κ w f args h fun o h'=>∃d,o=.ret d∧K d h':=by
 refine dw.nR hT hs hn (jz (fun e σ h k=>?_) (fun ds d h k=>k.elim) hv)
 cases e with
 | exit i=>exact k
 | _=>obtain ⟨a,ds,b,h',c,d⟩:=k; exact ⟨a,ds,b,.inl ⟨h',c,_,rfl,d⟩⟩
theorem aH.VS [aT] (hT:T.ok P) {f:FuncId} {s:dU} {rs:List fO} {m:Nat} {pl:cm} {args:List D} {K:D→aa→Prop} (hs:bA P f pl=some (s,rs,m)) (hn:args.length≤m)
  (hv:vc T s (todo T (afh rs K) (fun _ _ _=>False) []) (fun _ _ _=>False) (ij args) h):aH P f args h fun o h'=>∃d,o=.ret d∧K d h':=by
 refine aH.nR hT hs hn (jz (fun e σ h k=>?_) (fun ds d h k=>k.elim) hv)
 cases e with
 | exit i=>exact k
 | _=>obtain ⟨a,ds,b,h',c,d⟩:=k; exact ⟨a,ds,b,.inl ⟨h',c,_,rfl,d⟩⟩
end Go.Proofs.YtpklkpkfgmoghaaGreatDoor.Zz
namespace Go.Proofs.YtpklkpkfgmoghaaGreatDoor.Zz
variable {P:Program} {T:bh} {κ:cT} {h:aa} {w:World} {σ:Fr} {n:Nat} {a:Act}
def aaE (rs:List fO) (K:aa→Prop) (e:Ex) (σ:Fr) (h:aa):Prop:=
 match e with
 | .exit _=>False
 | _=>σ.defs=[]∧∃ds,eI σ h rs=some ds∧∃h',h'.sub h∧K h'
theorem iT {rs:List fO} {K:aa→Prop}:aaE rs K .normal σ h=(σ.defs=[]∧∃ds,eI σ h rs=some ds∧∃h',h'.sub h∧K h'):=rfl
theorem yg.settle {u:Option D} {m:FrameMode} (r:yg κ w u m):Go.settle m=m:=by
 cases r<;>rfl
theorem iM.nR [aT] (hT:T.qe P κ w) {k:FuncId} {s:dU} {rs:List fO} {m:Nat} {pl:cm} {args:List D} {u:Option D} {F:Option D→aa→Prop} (hs:bA P k pl=some (s,rs,m)) (hn:args.length≤m)
  (hv:vc T s (todo T (aaE rs (F u)) (fun _ _ _=>False) []) (fun _ _ _=>False) (ij args) h):iM P κ w k args u h F:=by
 unfold bA at hs
 split at hs
 ·cases hs
 ·rename_i fn hf
  split at hs
  ·cases hs
  ·rename_i c hb
   split at hs
   ·rename_i s' rs' h1 h2 h3
    cases hs
    refine ⟨h1,fun vs md hi sB hm=>?_⟩
    have hp:=tQ hi sB hn
    have key:=uY c s pl h2 none (fun _=>rfl) κ h w hT hi _ _ κ h w _ _ hi hp (Ev.refl κ h w) hv
    have post:=callsDIn_of_wp (F:=FW none) (n:=0) (u:=md) (R:=fun e w'=>∃v h' κ',e=.returned v∧F u h'∧Inv κ' h' w'∧Ev κ h w κ' h' w') hf hb trivial (wpIn_mono key fun e a' w' q=>by
     cases e with
     | normal=>
      obtain ⟨κ',h',σ',k,i',p',e'⟩:=q
      obtain ⟨k1,ds,k2,na,k3,k4⟩:=k
      obtain ⟨us,g1,g2⟩:=oV (P:=P) i' p' h3 k2
      have hd:a'.defers=[]:=by
       have:=p'.defs
       rw [k1] at this
       generalize a'.defers=dd at this
       cases this
       rfl
      exact ⟨hd,_,g1,_,na,κ',rfl,k4,i'.sub k3,e'.sub k3⟩
     | ret=>
      obtain ⟨κ',h',σ',k,i',p',e'⟩:=q
      obtain ⟨k1,ds,k2,na,k3,k4⟩:=k
      obtain ⟨us,g1,g2⟩:=oV (P:=P) i' p' h3 k2
      have hd:a'.defers=[]:=by
       have:=p'.defs
       rw [k1] at this
       generalize a'.defers=dd at this
       cases this
       rfl
      exact ⟨hd,_,g1,_,na,κ',rfl,k4,i'.sub k3,e'.sub k3⟩
     | exit id=>obtain ⟨κ',h',σ',k,_⟩:=q; exact k.elim
     | panic chain=>obtain ⟨κ',h',d,v,σ',_,k,_⟩:=q; exact k.elim
     | goto l=>exact q.elim
     | outgrown=>exact q.elim)
    refine CallsDIn.mono post fun e m' w' ⟨LI,v,h',κ',e1,e2,e3,e4⟩=>?_
    subst LI
    exact ⟨v,u,h',κ',e1,e2,by rw [hm.settle]; exact hm.mono (e4.le hi),e3,e4⟩
   ·cases hs
def FJ:Option D→D
 | none=>.gX
 | some d=>d
theorem iM.aeB [aT] (hT:T.qe P κ w) {k:FuncId} {fn:Func} {id:Nat} {o1 o2:Oper} {rest:Code} {t1 t2:Nat} {s:dU} {pl:cm} {rs:List fO} {args:List D} {u:Option D} {F:Option D→aa→Prop} (lP:gK P k=true) (hf:P.funcs[k]? =some fn) (hb:fn.body=some (.seq (.region id #[o1,o2] false) rest))
  (g1:o1.guard=none) (g2:o2.guard=none) (d1:o1.dst=some t1) (d2:o2.dst=some t2) (l1:t1<fn.ntmps) (l2:t2<fn.ntmps)
  (e1:∀(ev:Operand→Value) w,(execOp ev o1).run P w=.ok .recover w) (e2:∀(ev:Operand→Value) w,(execOp ev o2).run P w=.ok (.value (ev (.tmp t1))) w)
  (hc:comp P fn.ntmps pl rest=some s) (hr:tz P fn.results.toList=some rs) (hn:args.length≤fn.ntmps)
  (hv:vc T s (todo T (aaE rs (F none)) (fun _ _ _=>False) []) (fun _ _ _=>False) (((ij args).put (some t1) (FJ u)).put (some t2) (FJ u)) h):iM P κ w k args u h F:=by
 refine ⟨lP,fun vs md hi sB hm=>callsDIn_of_wpSIn hf hb trivial fun c₀ cs ahK=>?_⟩
 have hp:=tQ hi sB hn
 generalize hA:({ tmps:=vs++Array.replicate (fn.ntmps - vs.size) undef,defers:=[] }:Act)=A at hp ⊢
 have hAd:A.defers=[]:=by rw [←hA]
 have tail:∀(v:Value) (c₁:Frame) (m':FrameMode),c₁={ c₀ with mode:=m' }→Go.settle m'=.returning→cL κ w v (FJ u)→
   rest.wpSIn (FW none) 0 P (bodyPostS P fn c₀ cs fun e m' w'=>∃v u' h' κ',e=.returned v∧F u' h'∧yg κ' w' u' (Go.settle m')∧Inv κ' h' w'∧Ev κ h w κ' h' w') ((A.put (some t1) v).put (some t2) v) (c₁::cs) w:=by
  intro v c₁ m' hc1 LI hrv
  refine wpSIn_of_wpIn rfl ?_
  have hp2:=(hp.put (some t1) (fun t e=>by cases e; exact l1) hrv).put (some t2) (fun t e=>by cases e; exact l2) hrv
  have key:=uY rest s pl hc none (fun _=>rfl) κ h w hT hi _ _ κ h w _ _ hi hp2 (Ev.refl κ h w) hv
  refine wpIn_mono key fun e a' w' q=>?_
  have fin:∀(κ':cT) (h':aa) (σ':Fr),(σ'.defs=[]∧∃ds,eI σ' h' rs=some ds∧∃na,na.sub h'∧F none na)→Inv κ' h' w'→lf κ' w' σ' fn.ntmps a'→Ev κ h w κ' h' w'→
    a'.defers=[]∧∃u',c₁::cs={ c₀ with mode:=u' }::cs∧∃v,(results fn a'.tmps).run P w'=.ok v w'∧∃v' u'' h' κ',Ending.returned v=.returned v'∧F u'' h'∧yg κ' w' u'' (Go.settle u')∧Inv κ' h' w'∧Ev κ h w κ' h' w':=by
   intro κ' h' σ' ⟨k1,ds,k2,na,k3,k4⟩ i' p' e'
   obtain ⟨us,g1,g2⟩:=oV (P:=P) i' p' hr k2
   have hd:a'.defers=[]:=by
    have:=p'.defs
    rw [k1] at this
    generalize a'.defers=dd at this
    cases this
    rfl
   exact ⟨hd,m',by rw [hc1],_,g1,_,none,na,κ',rfl,k4,by rw [LI]; exact .ret,i'.sub k3,e'.sub k3⟩
  cases e with
  | normal=>obtain ⟨κ',h',σ',k,i',p',e'⟩:=q; exact fin κ' h' σ' k i' p' e'
  | ret=>obtain ⟨κ',h',σ',k,i',p',e'⟩:=q; exact fin κ' h' σ' k i' p' e'
  | exit id=>obtain ⟨κ',h',σ',k,_⟩:=q; exact k.elim
  | panic chain=>obtain ⟨κ',h',d,v,σ',_,k,_⟩:=q; exact k.elim
  | goto l=>exact q.elim
  | outgrown=>exact q.elim
 have ad7:∀v,((A.put (some t1) v).eval (.tmp t1))=v:=fun v=>by
  have:t1<A.tmps.size:=by rw [hp.size]; exact l1
  simp [Act.put,Act.eval,Array.getD_eq_getD_getElem?,this]
 refine wpSIn_seq (wpSIn_region ?_)
 have hw1:∀y,Region.wanted o1 y=true:=fun y=>by simp [Region.wanted,g1]
 have hw2:∀y,Region.wanted o2 y=true:=fun y=>by simp [Region.wanted,g2]
 show wpOpsSIn (FW none) 0 P #[o1,o2] _ [0,1] _ _ _
 simp only [wpOpsSIn,List.getElem?_toArray,List.getElem?_cons_zero,List.getElem?_cons_succ,hw1,hw2,e1,e2,d1,d2,if_true,ad7]
 refine ⟨fun _ _=>trivial,?_⟩
 subst ahK
 cases LI:c₀.mode with
 | run=>rw [LI] at hm; cases hm
 | returning=>
  rw [LI] at hm
  cases hm
  have:recoverD (c₀::cs)=none:=by simp [recoverD,LI]
  rw [this]
  refine ⟨fun _ _=>trivial,tail _ c₀ c₀.mode rfl (by rw [LI]; rfl) .gX⟩
 | panicking ch=>
  rw [LI] at hm
  cases hm with
  | pan r=>
   rename_i v d
   have:recoverD (c₀::cs)=some (v,{ c₀ with mode:=.panicking [{ v,recovered:=true }] }::cs):=by simp [recoverD,LI]
   rw [this]
   exact ⟨fun _ _=>trivial,tail _ _ _ rfl rfl r⟩
def bh.gI (T:bh) (f:FuncId) (c:List D→aa→(D→aa→Prop)→(D→aa→Prop)→Prop)
  (m:∀args h (K E K' E':D→aa→Prop),(∀d h,K d h→K' d h)→(∀d h,E d h→E' d h)→c args h K E→c args h K' E'):bh:=
 { T with
  c:=fun g args h K E=>if g=f then c args h K E else T.c g args h K E
  mono:=fun g args h K E K' E' hk he=>by
   split
   ·exact m args h K E K' E' hk he
   ·exact T.mono g args h K E K' E' hk he }
theorem bh.bQ [aT] (hT:T.ok P) {f:FuncId} {c:List D→aa→(D→aa→Prop)→(D→aa→Prop)→Prop} {m:∀args h (K E K' E':D→aa→Prop),(∀d h,K d h→K' d h)→(∀d h,E d h→E' d h)→c args h K E→c args h K' E'}
  (hc:∀args h K E,c args h K E→aH P f args h (cY.to K E)):(T.gI f c m).ok P:=
 ⟨hT.q,hT.a,fun g args h K E x=>by
  simp only [bh.gI] at x
  split at x
  ·rename_i e; subst e; exact hc args h K E x
  ·exact hT.c g args h K E x,hT.y,hT.r⟩
theorem aH.LD [aT] {f:FuncId} {args:List D} {h1:aa} {R:cY→aa→Prop} (sub:h1.sub h) (c:aH P f args h1 R):aH P f args h fun o h'=>∃ov,R o ov∧h'=ov.union (h.minus h1):=by
 refine ⟨c.1,fun κ w vs hi hr=>?_⟩
 refine (c.2 κ w vs (hi.sub sub) hr).mono fun e w' ⟨o,h',κ',a1,a2,a3,a4⟩=>?_
 obtain ⟨f1,f2,f3⟩:=hi.frame sub a3 a4
 exact ⟨o,_,κ',⟨h',a1,rfl⟩,a2,f1,f2⟩
theorem sr {id:Nat} {o o':cJ} (e:h.f id=some o):(aa.emp.set id o').union (h.minus (aa.emp.set id o))=h.set id o':=by
 refine aa.ext fun q=>?_
 simp only [aa.union,aa.minus,aa.b9]
 by_cases c:q=id
 ·subst c; simp
 ·simp [c,aa.emp]
theorem sub_one {id:Nat} {o:cJ} (e:h.f id=some o):(aa.emp.set id o).sub h:=fun q p hp=>by
 simp only [aa.b9] at hp
 split at hp
 ·rename_i c; subst c; cases hp; exact e
 ·simp [aa.emp] at hp
def Oe [aT] (P:Program) (f:FuncId) (pl:cm):Option (dU×List fO×Nat×Nat×Nat):=
 match P.funcs[f]? with
 | none=>none
 | some fn=>match fn.body with
  | some (.seq (.region _ ⟨[o1,o2]⟩ false) rest)=>match o1.op,o1.guard,o1.dst,o2.op,o2.guard,o2.dst with
   | .call c,none,some t1,.assign (.tmp t),none,some t2=>match c.callee,decide (t=t1∧t1<fn.ntmps∧t2<fn.ntmps),gK P f,comp P fn.ntmps pl rest,tz P fn.results.toList with
    | .builtin .recover,true,true,some s,some rs=>some (s,rs,fn.ntmps,t1,t2)
    | _,_,_,_,_=>none
   | _,_,_,_,_,_=>none
  | _=>none
theorem iM.Ig [aT] (hT:T.qe P κ w) {k:FuncId} {s:dU} {rs:List fO} {m t1 t2:Nat} {pl:cm} {args:List D} {u:Option D} {F:Option D→aa→Prop} (hs:Oe P k pl=some (s,rs,m,t1,t2)) (hn:args.length≤m)
  (hv:vc T s (todo T (aaE rs (F none)) (fun _ _ _=>False) []) (fun _ _ _=>False) (((ij args).put (some t1) (FJ u)).put (some t2) (FJ u)) h):iM P κ w k args u h F:=by
 unfold Oe at hs
 split at hs
 ·cases hs
 ·rename_i fn hf
  split at hs
  ·rename_i id o1 o2 rest hb
   split at hs
   ·rename_i c t1' t t2' p1 g1 d1 p2 g2 d2
    split at hs
    ·rename_i s' rs' hc hd lP NF hr
     cases hs
     obtain ⟨rfl,l1,l2⟩:=of_decide_eq_true hd
     exact iM.aeB hT lP hf hb g1 g2 d1 d2 l1 l2 (fun ev w=>by simp only [execOp,p1,resolve,hc,Sem.run_bind,Sem.run_pure,Result.andThen,invoke,builtin]) (fun ev w=>by simp only [execOp,p2]; rfl) NF hr hn hv
    ·cases hs
   ·cases hs
  ·cases hs
end Go.Proofs.YtpklkpkfgmoghaaGreatDoor.Zz
