/- Contracts: the generator of programs: numbers as texts, picks, words of types, literals, variables. -/
import Derived.Test.YtpklkpkfgmoghaaGreatDoorZS1
import Derived.Test.YtpklkpkfgmoghaaGreatDoorZZF
import Derived.Test.YtpklkpkfgmoghaaGreatDoorZZH
set_option linter.unnecessarySimpa false
set_option linter.unusedVariables false
set_option linter.unusedSimpArgs false
set_option maxRecDepth 20000
namespace Go.Proofs.YtpklkpkfgmoghaaGreatDoor.Zz
noncomputable section
def aeX:cj:=⟨⟨[],[(9,4)],[],[],[],[]⟩,[],[],false⟩
def aa4:dL:=
 sO [oP (.cy (kS [])) 4]
 (.seq (sO [oM 1 10,
 oH .eql 10 10 11]
 (.cond (.t 11)
 (.seq (sO [oM 0 12,
 oP (.bin .leq (kI 0) (.t 12)) 13,
 oM 13 14,
 oG (.cy (.t 0)) 15 14 true true,
 oG (.bin .lss (.t 15) (kI 100)) 16 14 true true,
 oP (.pick (.t 14) (.t 16) (kB false)) 17]
 (.cond (.t 17)
 (sO [oM 0 18,
 oD 73 [.t 18] 19,
 oM 19 4]
 (.ret))
 (.skip)))
 (sO [oQ (.alloc [(.int .u8 0),(.int .u8 0),(.int .u8 0),(.int .u8 0),(.int .u8 0),(.int .u8 0),(.int .u8 0),(.int .u8 0),(.int .u8 0),(.int .u8 0),(.int .u8 0),(.int .u8 0),(.int .u8 0),(.int .u8 0),(.int .u8 0),(.int .u8 0),(.int .u8 0),(.int .u8 0),(.int .u8 0),(.int .u8 0),(.int .u8 0),(.int .u8 0),(.int .u8 0),(.int .u8 0)]) 5]
 (sO [oM 0 20,
 oP (.conv (.nL .u64) (.t 20)) 21,
 oM 21 6]
 (.seq (sO [oM 0 22,
 oH .lss 22 0 23]
 (.cond (.t 23)
 (.ops [oM 6 24,
 oP (.un .neg (.t 24)) 25,
 oM 25 6])
 (.skip)))
 (sO [oM 6 26,
 oD 74 [.t 26] 27,
 oM 27 7]
 (sO [oM 7 28,
 oP (.bin .add (kI 1) (.t 28)) 29,
 oQ (.slice (.arr 24) (.t 5) (some (kI 1)) (some (.t 29)) none) 30,
 oM 6 31,
 oC 75 [.t 30,.t 31] 32]
 (.seq (sO [oM 0 33,
 oH .lss 33 0 34]
 (.cond (.t 34)
 (sO [oP (.fL 24 1 (.t 5) (kI 0)) 35,
 oU (.store 1 (.t 35) (.c (.int .u8 45)))]
 (sO [oM 7 36,
 oP (.bin .add (kI 1) (.t 36)) 37,
 oQ (.slice (.arr 24) (.t 5) none (some (.t 37)) none) 38,
 oQ (.conv .dW (.t 38)) 39,
 oM 39 4]
 (.ret)))
 (.skip)))
 (sO [oM 7 40,
 oP (.bin .add (kI 1) (.t 40)) 41,
 oQ (.slice (.arr 24) (.t 5) (some (kI 1)) (some (.t 41)) none) 42,
 oQ (.conv .dW (.t 42)) 43,
 oM 43 4]
 (.ret)))))))))
 (.skip)))
 (sO [oM 0 45,
 oP (.conv (.nL .u64) (.t 45)) 46,
 oM 1 47,
 oM 0 48,
 oH .lss 48 0 49,
 oD 76 [.c .bg,.t 46,.t 47,.t 49,kB false] 50,
 oM 50 44,
 oX 44 0 51,
 oX 44 1 52,
 oM 51 8,
 oM 52 9]
 (sO [oM 9 53,
 oM 53 4]
 (.ret))))
theorem abC:bJ Tryz.prog 47 aeX=some (aa4,[.tmp 4],54):=by kernel_rfl
def aeL:cj:=⟨⟨[],[],[],[],[],[]⟩,[],[],false⟩
def aaV:dL:=
 sO [oP (.cy (kS [])) 2]
 (sO [oM 0 3,
 oD 47 [.t 3,kI 10] 4,
 oM 4 2]
 (.ret))
theorem abr:bJ Tryz.prog 30 aeL=some (aaV,[.tmp 2],5):=by kernel_rfl
def aez:cj:=⟨⟨[],[],[],[],[],[]⟩,[],[],false⟩
def aaQ:dL:=
 sO [oP (.cy (kS [])) 2]
 (sO [oM 0 3,
 oD 30 [.t 3] 4,
 oM 4 2]
 (.ret))
theorem abg:bJ Tryz.prog 14 aez=some (aaQ,[.tmp 2],5):=by kernel_rfl
def aey:cj:=⟨⟨[],[],[(3,8)],[],[],[]⟩,[(1,[0,1,2,3,4,5,6,7,8,9,10,11,12,13,14,15,16]),(3,[0,1,2,3,4,5,6,7,8,9,10,11,12,13,14,15,16])],[],false⟩
def Tm:dL:=
 sO [oP (.cy (kI 0)) 4]
 (.seq (.seq (.fD 6 [oM 0 6,
 oN 6 7,
 oF 1 7 8,
 oL 8 9,
 oM 0 10,
 oN 10 11,
 oF 0 11 12,
 oL 12 13,
 oP (.p7 .sl (.t 13)) 14,
 oE .geq 9 14 15,
 oM 15 16,
 oG (.cy (.t 0)) 17 16 false true,
 oG (.nilCheck (.t 17)) 18 16 false true,
 oG (.fieldAddr 1 (.t 18)) 19 16 false true,
 oG (.load none (.t 19)) 20 16 false false,
 oG (.bin .gtr (.t 20) (kI 3000)) 21 16 false true,
 oP (.pick (.t 16) (kB true) (.t 21)) 22])
 (.cond (.t 22)
 (sO [oP (.cy (kI 0)) 4]
 (.ret))
 (.skip)))
 (.seq (.fD 5 [oM 0 23,
 oN 23 24,
 oF 0 24 25,
 oL 25 26,
 oM 0 27,
 oN 27 28,
 oF 1 28 29,
 oL 29 30,
 oI 1 26 30 31,
 oL 31 32,
 oM 1 33,
 oE .rem 32 33 34,
 oM 1 35,
 oE .add 34 35 36,
 oM 1 37,
 oE .rem 36 37 38,
 oM 38 5])
 (sO [oM 0 39,
 oN 39 40,
 oF 1 40 41,
 oL 41 42,
 oH .add 42 1 43,
 oN 39 44,
 oF 1 44 45,
 oS 1 45 43]
 (sO [oM 5 46,
 oM 46 4]
 (.ret)))))
theorem abf:bJ Tryz.prog 13 aey=some (Tm,[.tmp 4],47):=by kernel_rfl
def aeA:cj:=⟨⟨[],[],[],[],[],[]⟩,[],[],false⟩
def Tn:dL:=
 sO [oP (.cy (kS [])) 2]
 (sO [oP (.buildSlice 1 [(.str [])] 3 [(0,(kS [105,110,116])),(1,(kS [102,108,111,97,116])),(2,(kS [98,111,111,108]))] false) 3,
 oM 0 4,
 oI 1 3 4 5,
 oL 5 6,
 oM 6 2]
 (.ret))
theorem abh:bJ Tryz.prog 15 aeA=some (Tn,[.tmp 2],7):=by kernel_rfl
def aeB:cj:=⟨⟨[],[(3,2),(5,2),(6,2)],[],[],[],[]⟩,[],[],false⟩
def To:dL:=
 sO [oP (.cy (kS [])) 4]
 (.seq (sO [oM 1 5]
 (.block 0 (sO [oH .eql 5 0 7,
 oM 7 6]
 (.cond (.t 6)
 (sO [oP (.buildSlice 1 [(.str [])] 6 [(0,(kS [48])),(1,(kS [49])),(2,(kS [50])),(3,(kS [51])),(4,(kS [55])),(5,(kS [57,50,50,51,51,55,50,48,51,54,56,53,52,55,55,53,56,48,55]))] false) 8,
 oM 0 9,
 oC 13 [.t 9,kI 6] 10,
 oI 1 8 10 11,
 oL 11 12,
 oM 12 4]
 (.ret))
 (sO [oH .eql 5 1 14,
 oM 14 13]
 (.cond (.t 13)
 (sO [oP (.buildSlice 1 [(.str [])] 6 [(0,(kS [48,46,48])),(1,(kS [49,46,48])),(2,(kS [48,46,53])),(3,(kS [50,46,50,53])),(4,(kS [49,48,48,48,48,48,48,46,48])),(5,(kS [48,46,49]))] false) 15,
 oM 0 16,
 oC 13 [.t 16,kI 6] 17,
 oI 1 15 17 18,
 oL 18 19,
 oM 19 4]
 (.ret))
 (.skip)))))))
 (sO [oP (.buildSlice 1 [(.str [])] 2 [(0,(kS [116,114,117,101])),(1,(kS [102,97,108,115,101]))] false) 20,
 oM 0 21,
 oC 13 [.t 21,kI 2] 22,
 oI 1 20 22 23,
 oL 23 24,
 oM 24 4]
 (.ret)))
theorem abj:bJ Tryz.prog 16 aeB=some (To,[.tmp 4],25):=by kernel_rfl
def aeN:cj:=⟨⟨[],[],[],[],[],[]⟩,[],[],false⟩
def Tq:dL:=
 sO [oP (.cy (.c .bg)) 4]
 (.seq (sO [oM 1 5]
 (.block 0 (sO [oH .eql 5 0 7,
 oM 7 6]
 (.cond (.t 6)
 (sO [oM 0 8,
 oN 8 9,
 oF 0 9 10,
 oL 10 11,
 oM 11 4]
 (.ret))
 (sO [oH .eql 5 1 13,
 oM 13 12]
 (.cond (.t 12)
 (sO [oM 0 14,
 oN 14 15,
 oF 1 15 16,
 oL 16 17,
 oM 17 4]
 (.ret))
 (.skip)))))))
 (sO [oM 0 18,
 oN 18 19,
 oF 2 19 20,
 oL 20 21,
 oM 21 4]
 (.ret)))
theorem abu:bJ Tryz.prog 31 aeN=some (Tq,[.tmp 4],22):=by kernel_rfl
def aeC:cj:=⟨⟨[(4,0),(6,0),(2,0)],[],[],[],[],[]⟩,[],[],false⟩
def Tp:dL:=
 sO [oQ (.box (.t 0)) 3,
 oQ (.alloc [.bg,.bg,.bg,.bg,(.int .i64 0)]) 6]
 (.seq (sO [oM 2 7]
 (.block 0 (sO [oH .eql 7 0 17,
 oM 17 16]
 (.cond (.t 16)
 (.ops [oQ (.buildSlice 1 [(.str [])] 0 [] true) 18,
 oF 0 3 19,
 oL 19 20,
 oQ (.append 1 16 false (.t 18) (.t 20)) 21,
 oM 1 22,
 oP (.buildSlice 1 [(.str [])] 1 [(0,(.t 22))] false) 23,
 oQ (.append 1 16 false (.t 21) (.t 23)) 24,
 oF 0 3 25,
 oS 1 25 24])
 (sO [oH .eql 7 1 27,
 oM 27 26]
 (.cond (.t 26)
 (.ops [oQ (.buildSlice 1 [(.str [])] 0 [] true) 28,
 oF 1 3 29,
 oL 29 30,
 oQ (.append 1 16 false (.t 28) (.t 30)) 31,
 oM 1 32,
 oP (.buildSlice 1 [(.str [])] 1 [(0,(.t 32))] false) 33,
 oQ (.append 1 16 false (.t 31) (.t 33)) 34,
 oF 1 3 35,
 oS 1 35 34])
 (.ops [oQ (.buildSlice 1 [(.str [])] 0 [] true) 8,
 oF 2 3 9,
 oL 9 10,
 oQ (.append 1 16 false (.t 8) (.t 10)) 11,
 oM 1 12,
 oP (.buildSlice 1 [(.str [])] 1 [(0,(.t 12))] false) 13,
 oQ (.append 1 16 false (.t 11) (.t 13)) 14,
 oF 2 3 15,
 oS 1 15 14])))))))
 (sO [oJ 5 3 36,
 oS 5 6 36]
 (.ret)))
theorem abk:bJ Tryz.prog 17 aeC=some (Tp,[.cell 6 (some 5)],37):=by kernel_rfl
theorem Zm (n:Int) (h:0≤n∧n<100):aO Tryz.prog 47 [.int .i64 n,.int .i64 10] (.str (bQ n.toNat)):=by
 have g1:(0≤n)=True:=eq_true h.1
 have g2:(n<100)=True:=eq_true h.2
 have e:bQ n.toNat=b8.lO n.toNat:=by
  rw [bQ,b8.mq,if_neg (by omega)]
  rfl
 rw [e]
 refine aO.run EZ abC (by simp) fun E=>?_
 simp only [aa4,g1,g2,Pa,and_self,if_true,BT,aD,seval]
def O8:List D→Option D
 | [.int .i64 n,.int .i64 10]=>if 0≤n∧n<100 then some (.str (bQ n.toNat)) else none
 | _=>none
theorem S4 (args:List D) (d:D) (h:O8 args=some d):aO Tryz.prog 47 args d:=by
 unfold O8 at h
 split at h
 ·split at h
  ·cases h; exact Zm _ (by assumption)
  ·cases h
 ·cases h
def ue:bm:=uj.dh 47 O8
theorem JH (g:FuncId) (args:List D):ue.q g args=if g=47 then O8 args else uj.q g args:=rfl
theorem JF:ue.a=uj.a:=rfl
theorem JG:ue.c=uj.c:=rfl
theorem EX:ue.ok Tryz.prog:=bm.bq EZ S4
theorem BS:a7% (And.intro (And.intro @JH (And.intro @JF @JG)) @BT):=(And.intro (And.intro @JH (And.intro @JF @JG)) @BT)
theorem Sl (n:Int) (h:0≤n∧n<100):aO Tryz.prog 30 [.int .i64 n] (.str (bQ n.toNat)):=by
 refine aO.run EX abr (by simp) fun E=>?_
 simp only [aaV,O8,h,and_self,if_true,BS,aD,seval]
def O6:List D→Option D
 | [.int .i64 n]=>if 0≤n∧n<100 then some (.str (bQ n.toNat)) else none
 | _=>none
theorem S0 (args:List D) (d:D) (h:O6 args=some d):aO Tryz.prog 30 args d:=by
 unfold O6 at h
 split at h
 ·split at h
  ·cases h; exact Sl _ (by assumption)
  ·cases h
 ·cases h
def t6:bm:=ue.dh 30 O6
theorem Jh (g:FuncId) (args:List D):t6.q g args=if g=30 then O6 args else ue.q g args:=rfl
theorem Jf:t6.a=ue.a:=rfl
theorem Jg:t6.c=ue.c:=rfl
theorem EP:t6.ok Tryz.prog:=bm.bq EX S0
theorem BR:a7% (And.intro (And.intro @Jh (And.intro @Jf @Jg)) @BS):=(And.intro (And.intro @Jh (And.intro @Jf @Jg)) @BS)
theorem Sm (n:Int) (h:0≤n∧n<100):aO Tryz.prog 14 [.int .i64 n] (.str (bQ n.toNat)):=by
 refine aO.run EP abg (by simp) fun E=>?_
 simp only [aaQ,O6,h,and_self,if_true,BR,aD,seval]
def sL:List D→Option D
 | [.int .i64 n]=>if 0≤n∧n<100 then some (.str (bQ n.toNat)) else none
 | _=>none
theorem SQ (args:List D) (d:D) (h:sL args=some d):aO Tryz.prog 14 args d:=by
 unfold sL at h
 split at h
 ·split at h
  ·cases h; exact Sm _ (by assumption)
  ·cases h
 ·cases h
def tU:bm:=t6.dh 14 sL
theorem IV (g:FuncId) (args:List D):tU.q g args=if g=14 then sL args else t6.q g args:=rfl
theorem IP:tU.a=t6.a:=rfl
theorem IQ:tU.c=t6.c:=rfl
theorem PB:tU.ok Tryz.prog:=bm.bq EP SQ
theorem IU:a7% (And.intro (And.intro @IV (And.intro @IP @IQ)) @BR):=(And.intro (And.intro @IV (And.intro @IP @IQ)) @BR)
def nf (L:List Int) (a:Nat):cR:=.cells [.sl (fA L),.int .i64 (a:Int)]
def YV (args:List D) (h:aa) (K:D→aa→Prop):Prop:=∃(p:Nat) (L:List Int) (a:Nat) (n:Int),args=[.ptr p 1 0,.int .i64 n]∧h.f p=some (nf L a)∧0<n∧n≤1000000∧K (.int .i64 (b7 L n a).1) (h.set p (nf L (b7 L n a).2))
theorem Ns (args:List D) (h:aa) (K K':D→aa→Prop) (hk:∀d h,K d h→K' d h) (c:YV args h K):YV args h K':=by
 obtain ⟨p,L,a,n,x,y,z,z2,k⟩:=c
 exact ⟨p,L,a,n,x,y,z,z2,hk _ _ k⟩
theorem xa {h:aa} {id:Nat} {o:cR} (e:h.f id=some o):h.set id o=h:=aa.ext fun q=>by
 simp only [aa.dN]
 split
 ·ab c; subst c; exact e.symm
 ·rfl
theorem Hn (x:Int) {n:Int} (h:0<n): -n<x.tmod n∧x.tmod n<n:=⟨Int.lt_tmod_of_pos x h,Int.tmod_lt_of_pos x h⟩
theorem VR (args:List D) (h:aa) (K:D→aa→Prop) (c:YV args h K):aQ Tryz.prog 13 args h fun o h'=>∃d,o=.ret d∧K d h':=by
 obtain ⟨p,L,a,n,rfl,hp,h0,h1,k⟩:=c
 refine aQ.L2 (bm.eH _) abf (by simp) ?_
 unfold b7 at k
 unfold nf at hp k
 by_cases ca:a≥L.length
 ·have g1:((a:Int)≥(L.length:Int))=True:=eq_true (by omega)
  rw [if_pos (.inl ca),xa hp] at k
  simp (maxSteps:=1000000) only [Tm,hp,g1,fT,fw,aD,seval]
  exact ⟨h,aa.aU h,k⟩
 ·have g1:((a:Int)≥(L.length:Int))=False:=eq_false (by omega)
  by_cases cb:a>3000
  ·have g2:((a:Int)>3000)=True:=eq_true (by omega)
   rw [if_pos (.inr cb),xa hp] at k
   simp (maxSteps:=1000000) only [Tm,hp,g1,g2,fT,fw,aD,seval]
   exact ⟨h,aa.aU h,k⟩
  ·have g2:((a:Int)>3000)=False:=eq_false (by omega)
   rw [if_neg (by omega)] at k
   obtain ⟨x,hx⟩:∃x,L[a]? =some x:=⟨_,List.getElem?_eq_getElem (by omega)⟩
   have hd:L.getD a 0=x:=by rw [List.getD_eq_getElem?_getD,hx]; rfl
   rw [hd] at k
   have t1:=Hn x h0
   have w1:IntKind.i64.wrap (x.tmod n+n)=x.tmod n+n:=wrap_i64 (by omega) (by omega)
   have w2:IntKind.i64.wrap ((a:Int)+1)=((a+1:Nat):Int):=de (by omega)
   have n0:(n=0)=False:=eq_false (by omega)
   have ai:∀(K:D→aa→Prop) (h:aa),iI 1 K h (fA L) (a:Int)=K (.c8 [.int .i64 x] 0) h:=fun K h=>by
    rw [Lc]
    apply propext
    constructor
    ·intro hh; exact hh.2 x (by simpa using hx)
    ·intro hh
     refine ⟨⟨by omega,by omega⟩,fun y hy=>?_⟩
     rw [Int.toNat_natCast,hx] at hy
     cases hy
     exact hh
   simp (maxSteps:=1000000) only [Tm,hp,g1,g2,ai,w1,w2,n0,fT,fw,aD,seval]
   exact ⟨_,aa.aU _,k⟩
def tT:bm:=tU.FZ 13 YV Ns
theorem IM:tT.q=tU.q:=rfl
theorem IK:tT.a=tU.a:=rfl
theorem IL (g:FuncId) (args:List D) (h:aa) (K E:D→aa→Prop):tT.c g args h K E=if g=13 then YV args h K else tU.c g args h K E:=rfl
theorem EL:tT.ok Tryz.prog:=bm.qy PB VR
theorem rJ:a7% (And.intro (And.intro @IM (And.intro @IK @IL)) @IU):=(And.intro (And.intro @IM (And.intro @IK @IL)) @IU)
theorem qB {sz:Nat} {K:D→aa→Prop} {h:aa} {xs:List (List D)} {i:Int} {x:List D} (h0:0≤i) (hx:xs[i.toNat]? =some x) (hl:x.length=sz):iI sz K h xs i=K (.c8 x 0) h:=by
 have:=(List.getElem?_eq_some_iff.1 hx).1
 unfold iI
 apply propext
 constructor
 ·intro hh; exact (hh.2 _ hx).2
 ·intro hh
  refine ⟨⟨h0,by omega⟩,fun y hy=>?_⟩
  rw [hx] at hy
  cases hy
  exact ⟨hl,hh⟩
theorem Q_ (t:Int) (h:0≤t∧t<3):aO Tryz.prog 15 [.int .i64 t] (.str (gx (t+1))):=by
 refine aO.run EL abh (by simp) fun E=>?_
 have:t=0∨t=1∨t=2:=by omega
 rcases this with rfl | rfl | rfl
 ·have j:=fun (K:D→aa→Prop) (g:aa)=>qB (sz:=1) (K:=K) (h:=g) (xs:=[[.str [105,110,116]],[.str [102,108,111,97,116]],[.str [98,111,111,108]]]) (x:=[.str [105,110,116]]) h.1 rfl rfl
  simp only [Tn,j,rJ,aD,seval]
  exact .inl rfl
 ·have j:=fun (K:D→aa→Prop) (g:aa)=>qB (sz:=1) (K:=K) (h:=g) (xs:=[[.str [105,110,116]],[.str [102,108,111,97,116]],[.str [98,111,111,108]]]) (x:=[.str [102,108,111,97,116]]) h.1 rfl rfl
  simp only [Tn,j,rJ,aD,seval]
  exact .inl rfl
 ·have j:=fun (K:D→aa→Prop) (g:aa)=>qB (sz:=1) (K:=K) (h:=g) (xs:=[[.str [105,110,116]],[.str [102,108,111,97,116]],[.str [98,111,111,108]]]) (x:=[.str [98,111,111,108]]) h.1 rfl rfl
  simp only [Tn,j,rJ,aD,seval]
  exact .inl rfl
def GW:List D→Option D
 | [.int .i64 t]=>if 0≤t∧t<3 then some (.str (gx (t+1))) else none
 | _=>none
theorem SS (args:List D) (d:D) (h:GW args=some d):aO Tryz.prog 15 args d:=by
 unfold GW at h
 split at h
 ·split at h
  ·cases h; exact Q_ _ (by assumption)
  ·cases h
 ·cases h
def tV:bm:=tT.dh 15 GW
theorem IY (g:FuncId) (args:List D):tV.q g args=if g=15 then GW args else tT.q g args:=rfl
theorem IW:tV.a=tT.a:=rfl
theorem IX:tV.c=tT.c:=rfl
theorem EM:tV.ok Tryz.prog:=bm.bq EL SS
theorem ld:a7% (And.intro (And.intro @IY (And.intro @IW @IX)) @rJ):=(And.intro (And.intro @IY (And.intro @IW @IX)) @rJ)
theorem qD {α:Type} (L:List Int) {l:List α} (z:α) (f:α→List UInt8) (hl:0<l.length) (b:Nat) (K:D→aa→Prop) (h:aa):iI 1 K h (l.map fun x=>[.str (f x)]) (b7 L l.length b).1=K (.c8 [.str (f (l.getD (b7 L l.length b).1.toNat z))] 0) h:=by
 have hr:=b_ L (show (0:Int)<l.length by omega) b
 have hZ:(b7 L l.length b).1.toNat<l.length:=by omega
 rw [lL (f:=fun x=>[D.str (f x)]) (fun _=>rfl)]
 have e:l[(b7 L l.length b).1.toNat]? =some (l.getD (b7 L l.length b).1.toNat z):=by
  rw [List.getD_eq_getElem?_getD,List.getElem?_eq_getElem hZ]; rfl
 apply propext
 constructor
 ·intro hh; exact hh.2 _ e
 ·intro hh
  refine ⟨hr,fun y hy=>?_⟩
  rw [e] at hy
  cases hy
  exact hh
theorem oB {α:Type} (L:List Int) {l:List α} (z:α) (f:α→List UInt8) (hl:0<l.length) (b:Nat):dS (.a8 1 (.sl (l.map fun x=>[.str (f x)])) (.int .i64 (b7 L l.length b).1))=some (.c8 [.str (f (l.getD (b7 L l.length b).1.toNat z))] 0):=by
 have hr:=b_ L (show (0:Int)<l.length by omega) b
 have hZ:(b7 L l.length b).1.toNat<l.length:=by omega
 have e:l[(b7 L l.length b).1.toNat]? =some (l.getD (b7 L l.length b).1.toNat z):=by
  rw [List.getD_eq_getElem?_getD,List.getElem?_eq_getElem hZ]; rfl
 show (if 0≤(b7 L l.length b).1 then (match (l.map fun x=>[D.str (f x)])[(b7 L l.length b).1.toNat]? with | some x=>if x.length=1 then some (D.c8 x 0) else none | none=>none) else none)=_
 rw [if_pos hr.1,List.getElem?_map,e]
 rfl
def YU (args:List D) (h:aa) (K:D→aa→Prop):Prop:=∃(p:Nat) (L:List Int) (a:Nat) (t:Int),args=[.ptr p 1 0,.int .i64 t]∧h.f p=some (nf L a)∧K (.str ((nP L t a).1.tx [])) (h.set p (nf L (nP L t a).2))
theorem Nl (args:List D) (h:aa) (K K':D→aa→Prop) (hk:∀d h,K d h→K' d h) (c:YU args h K):YU args h K':=by
 obtain ⟨p,L,a,n,x,y,k⟩:=c
 exact ⟨p,L,a,n,x,y,hk _ _ k⟩
theorem VQ (args:List D) (h:aa) (K:D→aa→Prop) (c:YU args h K):aQ Tryz.prog 16 args h fun o h'=>∃d,o=.ret d∧K d h':=by
 obtain ⟨p,L,a,t,rfl,hp,k⟩:=c
 refine aQ.L2 EM abj (by simp) ?_
 have l0:(lits 0).map (fun e=>[D.str (e.tx [])])=[[.str [48]],[.str [49]],[.str [50]],[.str [51]],[.str [55]],[.str [57,50,50,51,51,55,50,48,51,54,56,53,52,55,55,53,56,48,55]]]:=by simp [lits,GE.tx]
 have l1:(lits 1).map (fun e=>[D.str (e.tx [])])=[[.str [48,46,48]],[.str [49,46,48]],[.str [48,46,53]],[.str [50,46,50,53]],[.str [49,48,48,48,48,48,48,46,48]],[.str [48,46,49]]]:=by simp [lits,GE.tx]
 have l2:(lits 2).map (fun e=>[D.str (e.tx [])])=[[.str [116,114,117,101]],[.str [102,97,108,115,101]]]:=by simp [lits,GE.tx,mf,i_]
 have i0:=fun b (K:D→aa→Prop) (h:aa)=>qD L (l:=lits 0) (.bool true) (fun e=>e.tx []) (by decide) b K h
 have i1:=fun b (K:D→aa→Prop) (h:aa)=>qD L (l:=lits 1) (.bool true) (fun e=>e.tx []) (by decide) b K h
 have i2:=fun b (K:D→aa→Prop) (h:aa)=>qD L (l:=lits 2) (.bool true) (fun e=>e.tx []) (by decide) b K h
 have n0:(((lits 0).length:Nat):Int)=6:=rfl
 have n1:(((lits 1).length:Nat):Int)=6:=rfl
 have n2:(((lits 2).length:Nat):Int)=2:=rfl
 rw [l0,n0] at i0
 rw [l1,n1] at i1
 rw [l2,n2] at i2
 by_cases A5:t=0
 ·subst A5
  unfold nP at k
  rw [n0] at k
  simp (maxSteps:=1000000) only [To,ld,aD,seval]
  refine ⟨p,L,a,6,rfl,hp,by decide,by decide,?_⟩
  simp (maxSteps:=1000000) only [i0,fw,ld,aD,seval]
  exact ⟨_,aa.aU _,k⟩
 ·by_cases qp:t=1
  ·subst qp
   unfold nP at k
   rw [n1] at k
   simp (maxSteps:=1000000) only [To,ld,aD,seval]
   refine ⟨p,L,a,6,rfl,hp,by decide,by decide,?_⟩
   simp (maxSteps:=1000000) only [i1,fw,ld,aD,seval]
   exact ⟨_,aa.aU _,k⟩
  ·have e2:lits t=lits 2:=by unfold lits; rw [if_neg A5,if_neg qp]; rfl
   unfold nP at k
   rw [e2,n2] at k
   have b0:(t==0)=false:=by simpa using A5
   have b1:(t==1)=false:=by simpa using qp
   simp (maxSteps:=1000000) only [To,b0,b1,ld,aD,seval]
   refine ⟨p,L,a,2,rfl,hp,by decide,by decide,?_⟩
   simp (maxSteps:=1000000) only [i2,fw,ld,aD,seval]
   exact ⟨_,aa.aU _,k⟩
def tW:bm:=tV.FZ 16 YU Nl
theorem I1:tW.q=tV.q:=rfl
theorem IZ:tW.a=tV.a:=rfl
theorem I0 (g:FuncId) (args:List D) (h:aa) (K E:D→aa→Prop):tW.c g args h K E=if g=16 then YU args h K else tV.c g args h K E:=rfl
theorem EN:tW.ok Tryz.prog:=bm.qy EM VQ
theorem rK:a7% (And.intro (And.intro @I1 (And.intro @IZ @I0)) @ld):=(And.intro (And.intro @I1 (And.intro @IZ @I0)) @ld)
def IG (d:D) (xs:List (List D)):Prop:=d=.sl xs∨(d=.bg∧xs=[])
def dP (l:List Fn):List (List D):=l.map fun f=>[.str f.name,.int .i64 f.answer,.sl (fA f.params)]
theorem fm {l:List Fn}:(dP l).length=l.length:=by simp [dP]
structure vb (h:aa) (q:Nat) (s:Nm) (d0 d1 d2 d3:D):Prop where
 obj:h.f q=some (.cells [d0,d1,d2,d3,.int .i64 (s.fresh:Int)])
 e0:IG d0 (cM s.ints)
 e1:IG d1 (cM s.vN)
 e2:IG d2 (cM s.nA)
 e3:IG d3 (dP s.funcs)
def OE (s:Nm):D:=.agg [.sl (cM s.ints),.sl (cM s.vN),.sl (cM s.nA),.sl (dP s.funcs),.int .i64 (s.fresh:Int)]
theorem IG.plain {d:D} {xs:List (List D)} (e:IG d xs) (h:aa):plain h d=.sl xs:=by
 rcases e with rfl | ⟨rfl,rfl⟩<;>rfl
theorem IG.fK {d:D} {xs:List (List D)} (e:IG d xs) (h:aa):fK h d=h:=by
 rcases e with rfl | ⟨rfl,rfl⟩<;>rfl
theorem IG.ok {d:D} {xs:List (List D)} (e:IG d xs):cf d=true:=by
 rcases e with rfl | ⟨rfl,rfl⟩<;>rfl
theorem IG.len {T:bm} {d:D} {xs:List (List D)} (e:IG d xs) (h:aa) (K E:D→aa→Prop):d_ T (.len .sl d) h K E=(xs.length≤9223372036854775807→K (.int .i64 (xs.length:Int)) h):=by
 rcases e with rfl | ⟨rfl,rfl⟩
 ·rfl
 ·rw [sv]
  exact propext ⟨fun k _=>k,fun k=>k (by simp)⟩
theorem IG.fin {d:D} {xs:List (List D)} (e:IG d xs) {R:dF→aa→Prop} {σ:Fr} {t:Nat} {h:aa} (hσ:σ.env t=d) (k:R (.ret (.sl xs)) h):az [.tmp t] R σ none h:=by
 refine ⟨[d],by simp [eg,hσ],.inr ⟨h,?_,?_⟩⟩
 ·show h.sub (Go.Proofs.YtpklkpkfgmoghaaGreatDoor.Zz.fK h d)
  rw [e.fK]
  exact aa.aU h
 ·show R (.ret (Go.Proofs.YtpklkpkfgmoghaaGreatDoor.Zz.plain h d)) h
  rw [e.plain]
  exact k
def YW (args:List D) (h:aa) (K E:D→aa→Prop):Prop:=∃(q:Nat) (s:Nm) (d0 d1 d2 d3:D) (t:Int),args=[.ptr q 1 0,.int .i64 t]∧vb h q s d0 d1 d2 d3∧K (.sl (cM (s.of t))) h
theorem Nt (args:List D) (h:aa) (K E K' E':D→aa→Prop) (hk:∀d h,K d h→K' d h) (he:∀d h,E d h→E' d h) (c:YW args h K E):YW args h K' E':=by
 obtain ⟨q,s,d0,d1,d2,d3,t,x,y,k⟩:=c
 exact ⟨q,s,d0,d1,d2,d3,t,x,y,hk _ _ k⟩
theorem VS (args:List D) (h:aa) (K E:D→aa→Prop) (c:YW args h K E):aQ Tryz.prog 31 args h (dF.to K E):=by
 obtain ⟨q,s,d0,d1,d2,d3,t,rfl,y,k⟩:=c
 refine aQ.du EN (dc:=cS.none) (fun _ _=>cS.eV) (by kernel_rfl) abu (by simp) ?_
 rw [dK]
 have hq:=y.obj
 unfold Nm.of at k
 by_cases A5:t=0
 ·subst A5
  rw [if_pos rfl] at k
  simp (maxSteps:=1000000) only [Tq,hq,ah,ae,rK,aD,seval]
  exact y.e0.fin rfl k
 ·rw [if_neg A5] at k
  have b0:(t==0)=false:=by simpa using A5
  by_cases qp:t=1
  ·subst qp
   rw [if_pos rfl] at k
   simp (maxSteps:=1000000) only [Tq,hq,b0,ah,ae,rK,aD,seval]
   exact y.e1.fin rfl k
  ·rw [if_neg qp] at k
   have b1:(t==1)=false:=by simpa using qp
   simp (maxSteps:=1000000) only [Tq,hq,b0,b1,ah,ae,rK,aD,seval]
   exact y.e2.fin rfl k
def t7:bm:=tW.kc 31 YW Nt
theorem Jk:t7.q=tW.q:=rfl
theorem Ji:t7.a=tW.a:=rfl
theorem Jj (g:FuncId) (args:List D) (h:aa) (K E:D→aa→Prop):t7.c g args h K E=if g=31 then YW args h K E else tW.c g args h K E:=rfl
theorem ER:t7.ok Tryz.prog:=bm.cL EN VS
theorem lf:a7% (And.intro (And.intro @Jk (And.intro @Ji @Jj)) @rK):=(And.intro (And.intro @Jk (And.intro @Ji @Jj)) @rK)
theorem pW {l:List (List UInt8)}:∀y∈cM l,y.length=1∧y.all cf=true:=by
 intro y hy
 simp only [cM,List.mem_map] at hy
 obtain ⟨s,_,rfl⟩:=hy
 exact ⟨rfl,rfl⟩
theorem sr (a:List (List UInt8)) (x:List UInt8):(if a.length+1≤(a++[x]).length then D.sl (List.take (a.length+1) (cM (a++[x]))) else D.undef)=.sl (cM (a++[x])):=by
 rw [if_pos (by simp),List.take_of_length_le (by rw [di]; simp)]
def FF (a b c:List (List UInt8)) (ys:List (List D)) (f:Int) (x:List UInt8) (t:Int):D:=
 if t=0 then .agg [.sl (cM (a++[x])),.sl (cM b),.sl (cM c),.sl ys,.int .i64 f] else if t=1 then .agg [.sl (cM a),.sl (cM (b++[x])),.sl (cM c),.sl ys,.int .i64 f] else .agg [.sl (cM a),.sl (cM b),.sl (cM (c++[x])),.sl ys,.int .i64 f]
theorem X7 (a b c:List (List UInt8)) (ys:List (List D)) (f:Int) (x:List UInt8) (t:Int) (h:a.length<100000∧b.length<100000∧c.length<100000):aO Tryz.prog 17 [.agg [.sl (cM a),.sl (cM b),.sl (cM c),.sl ys,.int .i64 f],.str x,.int .i64 t] (FF a b c ys f x t):=by
 refine aO.run ER abk (by simp) fun E=>?_
 unfold FF
 by_cases A5:t=0
 ·subst A5
  rw [if_pos rfl]
  simp only [Tp,di,kh,lf,aD,seval]
  intro i1  i2 an al i3 aw au av ar
  simp only [an,al,aw,au,av,ar,di,kh,sr,lf,aD,seval]
  exact ⟨pW,by omega,by omega⟩
 ·rw [if_neg A5]
  have b0:(t==0)=false:=by simpa using A5
  by_cases qp:t=1
  ·subst qp
   rw [if_pos rfl]
   simp only [Tp,b0,di,kh,lf,aD,seval]
   intro i1  i2 an al i3 aw au av ar
   simp only [an,al,aw,au,av,ar,di,kh,sr,lf,aD,seval]
   exact ⟨pW,by omega,by omega⟩
  ·rw [if_neg qp]
   have b1:(t==1)=false:=by simpa using qp
   simp only [Tp,b0,b1,di,kh,lf,aD,seval]
   intro i1  i2 an al i3 aw au av ar
   simp only [an,al,aw,au,av,ar,di,kh,sr,lf,aD,seval]
   exact ⟨pW,by omega,by omega⟩
def Mc:List D→Option D
 | [.agg [.sl a',.sl b',.sl c',.sl ys,.int .i64 f],.str x,.int .i64 t]=>match vC a',vC b',vC c' with
  | some a,some b,some c=>if a.length<100000∧b.length<100000∧c.length<100000 then some (FF a b c ys f x t) else none
  | _,_,_=>none
 | _=>none
theorem SV (args:List D) (d:D) (h:Mc args=some d):aO Tryz.prog 17 args d:=by
 unfold Mc at h
 split at h
 ·split at h
  ·ab e0 e1 e2
   cases iV e0; cases iV e1; cases iV e2
   split at h
   ·cases h; exact X7 _ _ _ _ _ _ _ (by assumption)
   ·cases h
  ·cases h
 ·cases h
def tY:bm:=t7.dh 17 Mc
theorem I7 (g:FuncId) (args:List D):tY.q g args=if g=17 then Mc args else t7.q g args:=rfl
theorem I5:tY.a=t7.a:=rfl
theorem I6:tY.c=t7.c:=rfl
theorem EO:tY.ok Tryz.prog:=bm.bq ER SV
theorem aB:a7% (And.intro (And.intro @I7 (And.intro @I5 @I6)) @lf):=(And.intro (And.intro @I7 (And.intro @I5 @I6)) @lf)
theorem OG (s:Nm) (x:List UInt8) (t:Int):FF s.ints s.vN s.nA (dP s.funcs) s.fresh x t=OE (s.with x t):=by
 unfold FF OE Nm.with
 split
 ·rfl
 ·split<;>rfl
theorem uZ {s:Nm} {x:List UInt8} {t:Int} (h:s.ints.length<100000∧s.vN.length<100000∧s.nA.length<100000):Mc [OE s,.str x,.int .i64 t]=some (OE (s.with x t)):=by
 rw [←OG]
 simp only [Mc,OE,qI]
 rw [if_pos h]
end
end Go.Proofs.YtpklkpkfgmoghaaGreatDoor.Zz
namespace Go.Proofs.YtpklkpkfgmoghaaGreatDoor.Zz
noncomputable section
def aeO:cj:=⟨⟨[(1,0)],[(9,4),(16,10)],[],[],[],[]⟩,[],[],false⟩
def aaX:dL:=
 sO [oP (.cy (kS [])) 8,
 oP (.cy (kB false)) 9]
 (sO [oQ (.buildSlice 3 [(.str []),(.int .i64 0),.bg] 0 [] true) 15,
 oM 15 10]
 (.seq (sO [oP (.cy (kI 0)) 11]
 (.block 0 (.loop (.seq (sO [oM 11 16,
 oM 1 17,
 oN 17 18,
 oF 3 18 19,
 oL 19 20,
 oZ 20 21,
 oE .lss 16 21 22]
 (.cond (.t 22)
 (.skip)
 (.exit 0)))
 (.seq (.block 1 (sO [oM 1 25,
 oN 25 26,
 oF 3 26 27,
 oL 27 28,
 oM 11 29,
 oI 3 28 29 30,
 oF 1 30 31,
 oL 31 32,
 oM 2 33,
 oE .eql 32 33 34]
 (.cond (.t 34)
 (.ops [oM 10 35,
 oM 1 36,
 oN 36 37,
 oF 3 37 38,
 oL 38 39,
 oM 11 40,
 oI 3 39 40 41,
 oJ 3 41 42,
 oP (.buildSlice 3 [(.str []),(.int .i64 0),.bg] 1 [(0,(.t 42))] false) 43,
 oQ (.append 3 48 false (.t 35) (.t 43)) 44,
 oM 44 10])
 (.skip))))
 (.ops [oM 11 23,
 oH .add 23 1 24,
 oM 24 11]))))))
 (.seq (sO [oM 10 45,
 oZ 45 46,
 oH .eql 46 0 47]
 (.cond (.t 47)
 (sO [oP (.cy (kS [])) 8,
 oP (.cy (kB false)) 9]
 (.ret))
 (.skip)))
 (sO [oM 10 48,
 oM 0 49,
 oM 10 50,
 oZ 50 51,
 oC 13 [.t 49,.t 51] 52,
 oI 3 48 52 53,
 oJ 3 53 54,
 oQ (.alloc [(.str []),(.int .i64 0),.bg]) 12,
 oS 3 12 54]
 (sO [oF 0 12 55,
 oL 55 56,
 oP (.bin .add (.t 56) (kS [40])) 57,
 oM 57 13]
 (.seq (sO [oP (.cy (kI 0)) 14]
 (.block 2 (.loop (.seq (sO [oM 14 58,
 oF 2 12 59,
 oL 59 60,
 oZ 60 61,
 oE .lss 58 61 62]
 (.cond (.t 62)
 (.skip)
 (.exit 2)))
 (.seq (.block 3 (.seq (sO [oM 14 65,
 oH .gtr 65 0 66]
 (.cond (.t 66)
 (.ops [oM 13 67,
 oP (.bin .add (.t 67) (kS [44,32])) 68,
 oM 68 13])
 (.skip)))
 (.ops [oM 13 69,
 oM 0 70,
 oM 1 71,
 oF 2 12 72,
 oL 72 73,
 oM 14 74,
 oI 1 73 74 75,
 oL 75 76,
 oM 3 77,
 oH .sub 77 1 78,
 oC 19 [.t 70,.t 71,.t 76,.t 78] 79,
 oE .add 69 79 80,
 oM 80 13])))
 (.ops [oM 14 63,
 oH .add 63 1 64,
 oM 64 14]))))))
 (sO [oM 13 81,
 oP (.bin .add (.t 81) (kS [41])) 82,
 oM 82 8,
 oP (.cy (kB true)) 9]
 (.ret))))))))
theorem abv:bJ Tryz.prog 32 aeO=some (aaX,[.tmp 8,.tmp 9],83):=by kernel_rfl
theorem vb.of_eq {h h':aa} {q:Nat} {s:Nm} {d0 d1 d2 d3:D} (y:vb h q s d0 d1 d2 d3) (e:h'.f q=h.f q):vb h' q s d0 d1 d2 d3:=⟨by rw [e]; exact y.obj,y.e0,y.e1,y.e2,y.e3⟩
structure K8 (s:Nm):Prop where
 ok:gT s
 fn:s.funcs.length≤1000
 l0:s.ints.length≤1000
 l1:s.vN.length≤1000
 l2:s.nA.length≤1000
theorem K8.of {s:Nm} (h:K8 s) (t:Int):(s.of t).length≤1000:=by
 unfold Nm.of
 split
 ·exact h.l0
 ·split
  ·exact h.l1
  ·exact h.l2
def YS (G:Nat) (args:List D) (h:aa) (K E:D→aa→Prop):Prop:=∃(p:Nat) (L:List Int) (a q:Nat) (s:Nm) (d0 d1 d2 d3:D) (t:Int) (d:Nat),args=[.ptr p 1 0,.ptr q 1 0,.int .i64 t,.int .i64 (d:Int)]∧d<G∧d≤3∧h.f p=some (nf L a)∧vb h q s d0 d1 d2 d3∧K8 s∧
 K (.str ((bU L s d t a).1.tx [])) (h.set p (nf L (bU L s d t a).2))
theorem M9 (G:Nat) (args:List D) (h:aa) (K E K' E':D→aa→Prop) (hk:∀d h,K d h→K' d h) (he:∀d h,E d h→E' d h) (c:YS G args h K E):YS G args h K' E':=by
 obtain ⟨p,L,a,q,s,d0,d1,d2,d3,t,d,x1,x2,x3,x4,x5,x6,k⟩:=c
 exact ⟨p,L,a,q,s,d0,d1,d2,d3,t,d,x1,x2,x3,x4,x5,x6,hk _ _ k⟩
def TF (G:Nat):bm:=tY.kc 19 (YS G) (M9 G)
theorem U0 {G:Nat}:(TF G).q=tY.q:=rfl
theorem UY {G:Nat}:(TF G).a=tY.a:=rfl
theorem UZ {G:Nat} (g:FuncId) (args:List D) (h:aa) (K E:D→aa→Prop):(TF G).c g args h K E=if g=19 then YS G args h K E else tY.c g args h K E:=rfl
theorem ll:a7% (And.intro (And.intro @U0 (And.intro @UY @UZ)) @aB):=(And.intro (And.intro @U0 (And.intro @UY @UZ)) @aB)
def callR (L:List Int) (s:Nm) (d:Nat) (t:Int) (a:Nat):D×Nat:=match iT L s (bU L s d) t a with
 | (some c,b)=>(.tuple [.str ((GE.call c.1 c.2).tx []),.bool true],b)
 | (none,b)=>(.tuple [.str [],.bool false],b)
def YR (G:Nat) (args:List D) (h:aa) (K E:D→aa→Prop):Prop:=∃(p:Nat) (L:List Int) (a q:Nat) (s:Nm) (d0 d1 d2 d3:D) (t:Int) (d:Nat),args=[.ptr p 1 0,.ptr q 1 0,.int .i64 t,.int .i64 ((d+1:Nat):Int)]∧d<G∧d≤3∧h.f p=some (nf L a)∧vb h q s d0 d1 d2 d3∧K8 s∧
 K (callR L s d t a).1 (h.set p (nf L (callR L s d t a).2))
theorem M8 (G:Nat) (args:List D) (h:aa) (K E K' E':D→aa→Prop) (hk:∀d h,K d h→K' d h) (he:∀d h,E d h→E' d h) (c:YR G args h K E):YR G args h K' E':=by
 obtain ⟨p,L,a,q,s,d0,d1,d2,d3,t,d,x1,x2,x3,x4,x5,x6,k⟩:=c
 exact ⟨p,L,a,q,s,d0,d1,d2,d3,t,d,x1,x2,x3,x4,x5,x6,hk _ _ k⟩
theorem Fs:∀(l:List GE) (e:GE) (r:List UInt8),GE.py (l++[e]) r=GE.py l (44::32::e.tx r)
 | [],e,r=>by rw [List.nil_append,GE.py,GE.py,GE.py]
 | x::l,e,r=>by rw [List.cons_append,GE.py,GE.py,Fs l e r]
theorem KT (e:GE):GE.c7 [e] []=e.tx []:=by rw [GE.c7,GE.py]
theorem Fq {l:List GE} (h:l≠[]) (e:GE):GE.c7 (l++[e]) []=GE.c7 l []++([44,32]++e.tx []):=by
 cases l with
 | nil=>exact absurd rfl h
 | cons x l=>
  rw [List.cons_append,GE.c7,GE.c7,Fs,BZ,cD,cD x (GE.py l [])]
  simp
theorem F2 {g:Int→Nat→GE×Nat} (t:Int) (r:List Int) (a:Nat):gX g (t::r) a=((g t a).1::(gX g r (g t a).2).1,(gX g r (g t a).2).2):=rfl
theorem CF (l:List Fn) (f:Fn):dP (l++[f])=dP l++[[.str f.name,.int .i64 f.answer,.sl (fA f.params)]]:=by simp [dP]
theorem HN {α:Type} {l:List α} {i:Nat} {x:α} (h:l[i]? =some x):l.drop i=x::l.drop (i+1):=by
 obtain ⟨h1,h2⟩:=List.getElem?_eq_some_iff.1 h
 rw [List.drop_eq_getElem_cons h1,h2]
theorem Cv {L:List Int} {s:Nm} {g:Int→Nat→GE×Nat} {t:Int} {a:Nat} (hl:(s.funcs.filter fun f=>f.answer==t)=[]):iT L s g t a=(none,a):=by
 unfold iT
 rw [hl]
theorem Cw {L:List Int} {s:Nm} {g:Int→Nat→GE×Nat} {t:Int} {a:Nat} {l:List Fn} (hl:(s.funcs.filter fun f=>f.answer==t)=l) (hn:l≠[]):
  ∃F,F∈s.funcs∧l[(b7 L l.length a).1.toNat]? =some F∧iT L s g t a=(some (F.name,(gX g F.params (b7 L l.length a).2).1),(gX g F.params (b7 L l.length a).2).2):=by
 cases l with
 | nil=>exact absurd rfl hn
 | cons f r=>
  have hZ:=sD L (n:=(f::r).length) (by simp) a
  have e:(f::r)[(b7 L ((f::r).length:Nat) a).1.toNat]? =some ((f::r).getD (b7 L ((f::r).length:Nat) a).1.toNat f):=by
   rw [List.getD_eq_getElem?_getD,List.getElem?_eq_getElem hZ]; rfl
  refine ⟨(f::r).getD (b7 L ((f::r).length:Nat) a).1.toNat f,?_,e,?_⟩
  ·have:=lS (x:=f) hZ
   rw [←hl] at this ⊢
   exact (List.mem_filter.1 this).1
  ·unfold iT
   rw [hl]
theorem Tx {h:aa} {i:Nat} {o:cR} (k:h.f i=none):h.sub (h.set i o):=fun j x hj=>by
 have:j≠i:=fun e=>by rw [e,k] at hj; cases hj
 simp only [aa.dN,this,if_false]; exact hj
theorem yB (G:Nat) (hT:(TF G).ok Tryz.prog) (args:List D) (h:aa) (K E:D→aa→Prop) (c:YR G args h K E):aQ Tryz.prog 32 args h (dF.to K E):=by
 obtain ⟨p,L,a,q,s,d0,d1,d2,d3,t,d,rfl,hG,hd,hp,ny,sm,k⟩:=c
 refine aQ.du hT (dc:=cS.none) (fun _ _=>cS.eV) (by kernel_rfl) abv (by simp) ?_
 rw [dK]
 have hq:=ny.obj
 generalize hD:((d+1:Nat):Int)=DD
 have wd:IntKind.i64.wrap (DD - 1)=(d:Int):=by rw [←hD,wrap_i64 (by omega) (by omega)]; omega
 simp (maxSteps:=1000000) only [aaX,hq,hp,ll,aB,aD,seval]
 intro i1 k1
 have n1:¬i1=p:=fun e=>by rw [e,hp] at k1; cases k1
 have n2:¬i1=q:=fun e=>by rw [e,hq] at k1; cases k1
 have c_:¬p=i1:=fun e=>n1 e.symm
 have St:¬q=i1:=fun e=>n2 e.symm
 have mV:¬p=q:=fun e=>by subst e; rw [hp] at hq; cases hq
 have kj:¬q=p:=fun e=>mV e.symm
 refine c6 (X:=Nat×List Fn) (fun z=>[(0,.ptr p 1 0),(1,.ptr q 1 0),(2,.int .i64 t),(3,.int .i64 DD),(8,.str []),(9,.bool false),(10,.row i1 (z.2.length+2) 0 z.2.length),(11,.int .i64 z.1)]) (fun z=>h.set i1 (.row 3 (z.2.length+2) (dP z.2) false)) (fun z=>s.funcs.length - z.1)
  (fun z=>z.1≤s.funcs.length∧z.2.length≤z.1∧(s.funcs.filter fun f=>f.answer==t)=z.2++((s.funcs.drop z.1).filter fun f=>f.answer==t)) (0,[]) ⟨Nat.zero_le _,Nat.le_refl _,rfl⟩ (by simp only [List.length_nil,aB,aD,seval]) (aa.aU _) ?_
 rintro ⟨i,done⟩ Q ⟨j0,j1,j2⟩ hQ
 simp only at j0 j1 j2 hQ ⊢
 have hl:=fun (T:bm) h K E=>ny.e3.len (T:=T) h K E
 by_cases A5:i<s.funcs.length
 ·obtain ⟨f,hf⟩:∃f,s.funcs[i]? =some f:=⟨_,List.getElem?_eq_getElem A5⟩
  have g:((i:Int)<(s.funcs.length:Int))=True:=eq_true (by omega)
  have hfm:f∈s.funcs:=List.mem_of_getElem? hf
  have hlen:=sm.fn
  have wi:IntKind.i64.wrap ((i:Int)+1)=((i+1:Nat):Int):=de (by omega)
  have e3:d3=.sl (dP s.funcs):=by
   rcases ny.e3 with e | ⟨_,e⟩
   ·exact e
   ·have:=congrArg List.length e
    rw [fm,List.length_nil] at this
    omega
  subst e3
  have hx:(dP s.funcs)[((i:Int)).toNat]? =some [.str f.name,.int .i64 f.answer,.sl (fA f.params)]:=by simp [dP,hf]
  have qM:∀(K:D→aa→Prop) (h:aa),iI 3 K h (dP s.funcs) (i:Int)=K (.c8 [.str f.name,.int .i64 f.answer,.sl (fA f.params)] 0) h:=fun K h=>qB (by omega) hx rfl
  rw [HN hf] at j2
  cases qp:(f.answer==t) with
  | true=>
   rw [List.filter_cons_of_pos (by simpa using qp)] at j2
   simp (maxSteps:=1000000) only [hq,n1,n2,c_,St,g,wi,qM,qp,fm,ll,aB,aD,seval]
   intro _
   refine ⟨by omega,hQ (i+1,done++[f]) _ _ ⟨by omega,by simp; omega,by rw [j2]; simp⟩ (by simp only [List.length_append,List.length_cons,List.length_nil,aB,aD,seval]) ?_ (by simp only; omega)⟩
   simp only [List.length_append,List.length_cons,List.length_nil,CF]
   exact aa.aU _
  | false=>
   rw [List.filter_cons_of_neg (by simpa using qp)] at j2
   simp (maxSteps:=1000000) only [hq,n1,n2,c_,St,g,wi,qM,qp,fm,ll,aB,aD,seval]
   intro _
   exact hQ (i+1,done) _ _ ⟨by omega,by simp only; omega,j2⟩ (by simp only [aB,aD,seval]) (aa.aU _) (by simp only; omega)
 ·have e0:i=s.funcs.length:=by omega
  subst e0
  rw [List.drop_length,List.filter_nil,List.append_nil] at j2
  simp (maxSteps:=1000000) only [hq,hl,n1,n2,c_,St,fm,Int.lt_irrefl,ll,aB,aD,seval]
  intro _
  have he:=T6 hd
  have hlen:=sm.fn
  by_cases Yg:done=[]
  ·subst Yg
   unfold callR at k
   rw [Cv j2] at k
   simp only at k
   rw [xa hp] at k
   simp (maxSteps:=1000000) only [ah,ae,az,List.length_nil,ll,aB,aD,seval]
   exact .inl ⟨h,Tx k1,k⟩
  ·obtain ⟨F,hF,hx,hc⟩:=Cw (L:=L) (g:=bU L s d) (a:=a) j2 Yg
   unfold callR at k
   rw [hc] at k
   simp only at k
   have h_:=List.length_pos_iff.2 Yg
   have M6:((done.length:Int)==0)=false:=by simpa using Yg
   have hr:=b_ L (n:=(done.length:Int)) (by omega) a
   generalize hkk:b7 L (done.length:Int) a=kk at k hx hr
   obtain ⟨ki,b⟩:=kk
   simp only at k hx hr
   have LN:(dP done)[ki.toNat]? =some [.str F.name,.int .i64 F.answer,.sl (fA F.params)]:=by simp [dP,hx]
   have r1:(0≤ki)=True:=eq_true hr.1
   have r2:(ki<(done.length:Int))=True:=eq_true hr.2
   simp (maxSteps:=1000000) only [M6,ll,aB,aD,seval]
   intro _ _
   refine ⟨p,L,a,_,rfl,by simp [c_,hp],by omega,by omega,?_⟩
   rw [hkk]
   simp (maxSteps:=1000000) only [hq,hp,n1,n2,c_,St,mV,kj,r1,r2,LN,ll,aB,aD,seval]
   obtain ⟨f1,f2,f3⟩:=sm.ok.fn F hF
   have f4:=BA f1
   intro i2 m1 lW m2 nQ k2
   have m3:¬i2=q:=fun e=>by rw [e,hq] at k2; cases k2
   have WI:¬q=i2:=fun e=>m3 e.symm
   refine ⟨by omega,?_⟩
   refine c6 (X:=Nat×List GE×Nat) (fun z=>[(0,.ptr p 1 0),(1,.ptr q 1 0),(3,.int .i64 DD),(12,.ptr i2 1 0),(13,.str (F.name++40::GE.c7 z.2.1 [])),(14,.int .i64 z.1)]) (fun z=>(h.set i2 (.cells [.str F.name,.int .i64 F.answer,.sl (fA F.params)])).set p (nf L z.2.2)) (fun z=>F.params.length - z.1)
    (fun z=>z.1≤F.params.length∧z.2.1.length=z.1∧(GE.c7 z.2.1 []).length≤300*z.1∧gX (bU L s d) F.params b=(z.2.1++(gX (bU L s d) (F.params.drop z.1) z.2.2).1,(gX (bU L s d) (F.params.drop z.1) z.2.2).2)) (0,[],b) ⟨Nat.zero_le _,rfl,by rw [GE.c7]; simp,rfl⟩ ?_ ?_ ?_
   ·rw [GE.c7]
    simp only [aB,aD,seval]
   ·exact aa.dV (by repeat' first | ax exact aa.bK | ax exact aa.bO | refine aa.cU (by simp [m1,lW,m2,nQ,k1]) ?_ | refine aa.cZ (by simp [m1,lW,m2,nQ,k1]) ?_)
   rintro ⟨i,es,c⟩ Q ⟨j0,j1,j2,j3⟩ hQ
   simp only at j0 j1 j2 j3 hQ ⊢
   by_cases A5:i<F.params.length
   ·obtain ⟨u,hu⟩:∃u,F.params[i]? =some u:=⟨_,List.getElem?_eq_getElem A5⟩
    have g:((i:Int)<(F.params.length:Int))=True:=eq_true (by omega)
    have wi:IntKind.i64.wrap ((i:Int)+1)=((i+1:Nat):Int):=de (by omega)
    have qM:∀(K:D→aa→Prop) (h:aa),iI 1 K h (fA F.params) (i:Int)=K (.c8 [.int .i64 u] 0) h:=fun K h=>qB (by omega) (by simp [fA,hu]) rfl
    have Gq:=eQ (L:=L) sm.ok d u c
    rw [HN hu,F2] at j3
    have hy:∀h',h'.f q=h.f q→vb h' q s d0 d1 d2 d3:=fun h' e=>ny.of_eq e
    by_cases qp:i=0
    ·have g1:((i:Int)>0)=False:=eq_false (by omega)
     have e0:es=[]:=List.length_eq_zero_iff.1 (by omega)
     simp (maxSteps:=1000000) only [m1,lW,m3,WI,n1,n2,c_,St,mV,kj,g,g1,wi,qM,wd,fT,ll,aB,aD,seval]
     intro _
     refine ⟨p,L,c,q,s,d0,d1,d2,d3,u,d,rfl,hG,hd,by simp,hy _ (by simp [kj,WI]),sm,?_⟩
     generalize bU L s d u c=X at Gq j3 ⊢
     obtain ⟨e,c'⟩:=X
     simp only at Gq j3 ⊢
     have hen:(e.tx []).length≤292:=by have:e.len=(e.tx []).length:=rfl; omega
     simp (maxSteps:=1000000) only [m1,lW,m3,WI,n1,n2,c_,St,mV,kj,g,g1,wi,qM,wd,fT,ll,aB,aD,seval]
     refine ⟨by simp only [List.length_append,List.length_cons]; omega,hQ (i+1,es++[e],c') _ _ ⟨by omega,by simp [j1],?_,by rw [j3]; simp⟩ ?_ (aa.aU _) (by simp only; omega)⟩
     ·rw [e0,List.nil_append,KT]
      simp only; omega
     ·have e1:F.name++40::GE.c7 es []++e.tx []=F.name++40::GE.c7 (es++[e]) []:=by rw [e0,List.nil_append,KT,GE.c7]; simp
      simp only [e1,aB,aD,seval]
    ·have g1:((i:Int)>0)=True:=eq_true (by omega)
     have e0:es≠[]:=fun e=>qp (by rw [e] at j1; exact j1.symm)
     simp (maxSteps:=1000000) only [m1,lW,m3,WI,n1,n2,c_,St,mV,kj,g,g1,wi,qM,wd,fT,ll,aB,aD,seval]
     intro _
     refine ⟨by simp only [List.length_append,List.length_cons]; omega,?_⟩
     refine ⟨p,L,c,q,s,d0,d1,d2,d3,u,d,rfl,hG,hd,by simp,hy _ (by simp [kj,WI]),sm,?_⟩
     generalize bU L s d u c=X at Gq j3 ⊢
     obtain ⟨e,c'⟩:=X
     simp only at Gq j3 ⊢
     have hen:(e.tx []).length≤292:=by have:e.len=(e.tx []).length:=rfl; omega
     simp (maxSteps:=1000000) only [m1,lW,m3,WI,n1,n2,c_,St,mV,kj,g,g1,wi,qM,wd,fT,ll,aB,aD,seval]
     refine ⟨by simp only [List.length_append,List.length_cons,List.length_nil]; omega,hQ (i+1,es++[e],c') _ _ ⟨by omega,by simp [j1],?_,by rw [j3]; simp⟩ ?_ (aa.aU _) (by simp only; omega)⟩
     ·rw [Fq e0]
      simp only [List.length_append,List.length_cons,List.length_nil]; omega
     ·have e1:F.name++40::GE.c7 es []++[44,32]++e.tx []=F.name++40::GE.c7 (es++[e]) []:=by rw [Fq e0]; simp
      simp only [e1,aB,aD,seval]
   ·have e0:i=F.params.length:=by omega
    subst e0
    rw [List.drop_length,gX,List.append_nil] at j3
    rw [j3] at k
    simp only at k
    simp (maxSteps:=1000000) only [m1,lW,m3,WI,n1,n2,c_,St,mV,kj,Int.lt_irrefl,fT,ah,ae,az,ll,aB,aD,seval]
    intro _
    refine ⟨by simp only [List.length_append,List.length_cons]; omega,.inl ⟨h.set p (nf L c),?_,?_⟩⟩
    ·exact aa.dV (by repeat' first | ax exact aa.bK | ax exact aa.bO | refine aa.cU (by simp [m1,lW,m2,nQ,k1,k2]) ?_ | refine aa.cZ (by simp [m1,lW,m2,nQ,k1,k2]) ?_)
    ·have e1:F.name++40::GE.c7 es []++[41]=(GE.call F.name es).tx []:=by rw [GE.tx,j7 es [41]]; simp
     rw [e1]
     exact k
def MS (G:Nat):bm:=(TF G).kc 32 (YR G) (M8 G)
theorem UT {G:Nat}:(MS G).q=(TF G).q:=rfl
theorem UR {G:Nat}:(MS G).a=(TF G).a:=rfl
theorem US {G:Nat} (g:FuncId) (args:List D) (h:aa) (K E:D→aa→Prop):(MS G).c g args h K E=if g=32 then YR G args h K E else (TF G).c g args h K E:=rfl
theorem dk:a7% (And.intro (And.intro @UT (And.intro @UR @US)) @ll):=(And.intro (And.intro @UT (And.intro @UR @US)) @ll)
end
end Go.Proofs.YtpklkpkfgmoghaaGreatDoor.Zz
