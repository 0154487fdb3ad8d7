/- Contracts: the generator of programs: numbers as texts, picks, words of types, literals, variables. -/
import Derived.Test.YtpklkpkfgmoghaaGreatDoorZS1
import Derived.Test.YtpklkpkfgmoghaaGreatDoorZZF
import Derived.Test.YtpklkpkfgmoghaaGreatDoorZZH
set_option linter.unnecessarySimpa false
set_option linter.unusedVariables false
set_option linter.unusedSimpArgs false
set_option maxRecDepth 20000
namespace Go.Proofs.YtpklkpkfgmoghaaGreatDoor.Zz
noncomputable section
def acP:b7:=⟨⟨[],[(9,4)],[],[],[],[]⟩,[],[],false⟩
def Zw:dA:=
 sO [oP (.cg (kS [])) 4]
 (.seq (sO [oM 1 10,
 oH .eql 10 10 11]
 (.cond (.t 11)
 (.seq (sO [oM 0 12,
 oP (.bin .leq (kI 0) (.t 12)) 13,
 oM 13 14,
 oG (.cg (.t 0)) 15 14 true true,
 oG (.bin .lss (.t 15) (kI 100)) 16 14 true true,
 oP (.pick (.t 14) (.t 16) (kB false)) 17]
 (.cond (.t 17)
 (sO [oM 0 18,
 oD 73 [.t 18] 19,
 oM 19 4]
 (.ret))
 (.skip)))
 (sO [oQ (.alloc [(.int .u8 0),(.int .u8 0),(.int .u8 0),(.int .u8 0),(.int .u8 0),(.int .u8 0),(.int .u8 0),(.int .u8 0),(.int .u8 0),(.int .u8 0),(.int .u8 0),(.int .u8 0),(.int .u8 0),(.int .u8 0),(.int .u8 0),(.int .u8 0),(.int .u8 0),(.int .u8 0),(.int .u8 0),(.int .u8 0),(.int .u8 0),(.int .u8 0),(.int .u8 0),(.int .u8 0)]) 5]
 (sO [oM 0 20,
 oP (.conv (.nw .u64) (.t 20)) 21,
 oM 21 6]
 (.seq (sO [oM 0 22,
 oH .lss 22 0 23]
 (.cond (.t 23)
 (.ops [oM 6 24,
 oP (.un .neg (.t 24)) 25,
 oM 25 6])
 (.skip)))
 (sO [oM 6 26,
 oD 74 [.t 26] 27,
 oM 27 7]
 (sO [oM 7 28,
 oP (.bin .add (kI 1) (.t 28)) 29,
 oQ (.slice (.arr 24) (.t 5) (some (kI 1)) (some (.t 29)) none) 30,
 oM 6 31,
 oC 75 [.t 30,.t 31] 32]
 (.seq (sO [oM 0 33,
 oH .lss 33 0 34]
 (.cond (.t 34)
 (sO [oP (.fB 24 1 (.t 5) (kI 0)) 35,
 oU (.store 1 (.t 35) (.c (.int .u8 45)))]
 (sO [oM 7 36,
 oP (.bin .add (kI 1) (.t 36)) 37,
 oQ (.slice (.arr 24) (.t 5) none (some (.t 37)) none) 38,
 oQ (.conv .dM (.t 38)) 39,
 oM 39 4]
 (.ret)))
 (.skip)))
 (sO [oM 7 40,
 oP (.bin .add (kI 1) (.t 40)) 41,
 oQ (.slice (.arr 24) (.t 5) (some (kI 1)) (some (.t 41)) none) 42,
 oQ (.conv .dM (.t 42)) 43,
 oM 43 4]
 (.ret)))))))))
 (.skip)))
 (sO [oM 0 45,
 oP (.conv (.nw .u64) (.t 45)) 46,
 oM 1 47,
 oM 0 48,
 oH .lss 48 0 49,
 oD 76 [.c .a_,.t 46,.t 47,.t 49,kB false] 50,
 oM 50 44,
 oX 44 0 51,
 oX 44 1 52,
 oM 51 8,
 oM 52 9]
 (sO [oM 9 53,
 oM 53 4]
 (.ret))))
theorem Z6:bE Tryz.prog 47 acP=some (Zw,[.tmp 4],54):=by kernel_rfl
def acD:b7:=⟨⟨[],[],[],[],[],[]⟩,[],[],false⟩
def Zn:dA:=
 sO [oP (.cg (kS [])) 2]
 (sO [oM 0 3,
 oD 47 [.t 3,kI 10] 4,
 oM 4 2]
 (.ret))
theorem ZW:bE Tryz.prog 30 acD=some (Zn,[.tmp 2],5):=by kernel_rfl
def acq:b7:=⟨⟨[],[],[],[],[],[]⟩,[],[],false⟩
def Zi:dA:=
 sO [oP (.cg (kS [])) 2]
 (sO [oM 0 3,
 oD 30 [.t 3] 4,
 oM 4 2]
 (.ret))
theorem ZM:bE Tryz.prog 14 acq=some (Zi,[.tmp 2],5):=by kernel_rfl
def acp:b7:=⟨⟨[],[],[(3,8)],[],[],[]⟩,[(1,[0,1,2,3,4,5,6,7,8,9,10,11,12,13,14,15,16]),(3,[0,1,2,3,4,5,6,7,8,9,10,11,12,13,14,15,16])],[],false⟩
def So:dA:=
 sO [oP (.cg (kI 0)) 4]
 (.seq (.seq (.fq 6 [oM 0 6,
 oN 6 7,
 oF 1 7 8,
 oL 8 9,
 oM 0 10,
 oN 10 11,
 oF 0 11 12,
 oL 12 13,
 oP (.pR .sl (.t 13)) 14,
 oE .geq 9 14 15,
 oM 15 16,
 oG (.cg (.t 0)) 17 16 false true,
 oG (.nilCheck (.t 17)) 18 16 false true,
 oG (.fieldAddr 1 (.t 18)) 19 16 false true,
 oG (.load none (.t 19)) 20 16 false false,
 oG (.bin .gtr (.t 20) (kI 3000)) 21 16 false true,
 oP (.pick (.t 16) (kB true) (.t 21)) 22])
 (.cond (.t 22)
 (sO [oP (.cg (kI 0)) 4]
 (.ret))
 (.skip)))
 (.seq (.fq 5 [oM 0 23,
 oN 23 24,
 oF 0 24 25,
 oL 25 26,
 oM 0 27,
 oN 27 28,
 oF 1 28 29,
 oL 29 30,
 oI 1 26 30 31,
 oL 31 32,
 oM 1 33,
 oE .rem 32 33 34,
 oM 1 35,
 oE .add 34 35 36,
 oM 1 37,
 oE .rem 36 37 38,
 oM 38 5])
 (sO [oM 0 39,
 oN 39 40,
 oF 1 40 41,
 oL 41 42,
 oH .add 42 1 43,
 oN 39 44,
 oF 1 44 45,
 oS 1 45 43]
 (sO [oM 5 46,
 oM 46 4]
 (.ret)))))
theorem ZL:bE Tryz.prog 13 acp=some (So,[.tmp 4],47):=by kernel_rfl
def acr:b7:=⟨⟨[],[],[],[],[],[]⟩,[],[],false⟩
def Sp:dA:=
 sO [oP (.cg (kS [])) 2]
 (sO [oP (.buildSlice 1 [(.str [])] 3 [(0,(kS [105,110,116])),(1,(kS [102,108,111,97,116])),(2,(kS [98,111,111,108]))] false) 3,
 oM 0 4,
 oI 1 3 4 5,
 oL 5 6,
 oM 6 2]
 (.ret))
theorem ZN:bE Tryz.prog 15 acr=some (Sp,[.tmp 2],7):=by kernel_rfl
def acs:b7:=⟨⟨[],[(3,2),(5,2),(6,2)],[],[],[],[]⟩,[],[],false⟩
def Sq:dA:=
 sO [oP (.cg (kS [])) 4]
 (.seq (sO [oM 1 5]
 (.block 0 (sO [oH .eql 5 0 7,
 oM 7 6]
 (.cond (.t 6)
 (sO [oP (.buildSlice 1 [(.str [])] 6 [(0,(kS [48])),(1,(kS [49])),(2,(kS [50])),(3,(kS [51])),(4,(kS [55])),(5,(kS [57,50,50,51,51,55,50,48,51,54,56,53,52,55,55,53,56,48,55]))] false) 8,
 oM 0 9,
 oC 13 [.t 9,kI 6] 10,
 oI 1 8 10 11,
 oL 11 12,
 oM 12 4]
 (.ret))
 (sO [oH .eql 5 1 14,
 oM 14 13]
 (.cond (.t 13)
 (sO [oP (.buildSlice 1 [(.str [])] 6 [(0,(kS [48,46,48])),(1,(kS [49,46,48])),(2,(kS [48,46,53])),(3,(kS [50,46,50,53])),(4,(kS [49,48,48,48,48,48,48,46,48])),(5,(kS [48,46,49]))] false) 15,
 oM 0 16,
 oC 13 [.t 16,kI 6] 17,
 oI 1 15 17 18,
 oL 18 19,
 oM 19 4]
 (.ret))
 (.skip)))))))
 (sO [oP (.buildSlice 1 [(.str [])] 2 [(0,(kS [116,114,117,101])),(1,(kS [102,97,108,115,101]))] false) 20,
 oM 0 21,
 oC 13 [.t 21,kI 2] 22,
 oI 1 20 22 23,
 oL 23 24,
 oM 24 4]
 (.ret)))
theorem ZO:bE Tryz.prog 16 acs=some (Sq,[.tmp 4],25):=by kernel_rfl
def acF:b7:=⟨⟨[],[],[],[],[],[]⟩,[],[],false⟩
def Ss:dA:=
 sO [oP (.cg (.c .a_)) 4]
 (.seq (sO [oM 1 5]
 (.block 0 (sO [oH .eql 5 0 7,
 oM 7 6]
 (.cond (.t 6)
 (sO [oM 0 8,
 oN 8 9,
 oF 0 9 10,
 oL 10 11,
 oM 11 4]
 (.ret))
 (sO [oH .eql 5 1 13,
 oM 13 12]
 (.cond (.t 12)
 (sO [oM 0 14,
 oN 14 15,
 oF 1 15 16,
 oL 16 17,
 oM 17 4]
 (.ret))
 (.skip)))))))
 (sO [oM 0 18,
 oN 18 19,
 oF 2 19 20,
 oL 20 21,
 oM 21 4]
 (.ret)))
theorem ZY:bE Tryz.prog 31 acF=some (Ss,[.tmp 4],22):=by kernel_rfl
def acu:b7:=⟨⟨[(4,0),(6,0),(2,0)],[],[],[],[],[]⟩,[],[],false⟩
def Sr:dA:=
 sO [oQ (.box (.t 0)) 3,
 oQ (.alloc [.a_,.a_,.a_,.a_,(.int .i64 0)]) 6]
 (.seq (sO [oM 2 7]
 (.block 0 (sO [oH .eql 7 0 17,
 oM 17 16]
 (.cond (.t 16)
 (.ops [oQ (.buildSlice 1 [(.str [])] 0 [] true) 18,
 oF 0 3 19,
 oL 19 20,
 oQ (.append 1 16 false (.t 18) (.t 20)) 21,
 oM 1 22,
 oP (.buildSlice 1 [(.str [])] 1 [(0,(.t 22))] false) 23,
 oQ (.append 1 16 false (.t 21) (.t 23)) 24,
 oF 0 3 25,
 oS 1 25 24])
 (sO [oH .eql 7 1 27,
 oM 27 26]
 (.cond (.t 26)
 (.ops [oQ (.buildSlice 1 [(.str [])] 0 [] true) 28,
 oF 1 3 29,
 oL 29 30,
 oQ (.append 1 16 false (.t 28) (.t 30)) 31,
 oM 1 32,
 oP (.buildSlice 1 [(.str [])] 1 [(0,(.t 32))] false) 33,
 oQ (.append 1 16 false (.t 31) (.t 33)) 34,
 oF 1 3 35,
 oS 1 35 34])
 (.ops [oQ (.buildSlice 1 [(.str [])] 0 [] true) 8,
 oF 2 3 9,
 oL 9 10,
 oQ (.append 1 16 false (.t 8) (.t 10)) 11,
 oM 1 12,
 oP (.buildSlice 1 [(.str [])] 1 [(0,(.t 12))] false) 13,
 oQ (.append 1 16 false (.t 11) (.t 13)) 14,
 oF 2 3 15,
 oS 1 15 14])))))))
 (sO [oJ 5 3 36,
 oS 5 6 36]
 (.ret)))
theorem ZP:bE Tryz.prog 17 acu=some (Sr,[.cell 6 (some 5)],37):=by kernel_rfl
theorem XV (n:Int) (h:0≤n∧n<100):aM Tryz.prog 47 [.int .i64 n,.int .i64 10] (.str (bK n.toNat)):=by
 have g1:(0≤n)=True:=eq_true h.1
 have g2:(n<100)=True:=eq_true h.2
 have e:bK n.toNat=Lib.decDigits n.toNat:=by
  rw [bK,Lib.itoa,if_neg (by omega)]
  rfl
 rw [e]
 refine aM.run EB Z6 (by simp) fun E=>?_
 simp only [Zw,g1,g2,Oq,and_self,if_true,Bx,aB,seval]
def Om:List D→Option D
 | [.int .i64 n,.int .i64 10]=>if 0≤n∧n<100 then some (.str (bK n.toNat)) else none
 | _=>none
theorem R8 (args:List D) (d:D) (h:Om args=some d):aM Tryz.prog 47 args d:=by
 unfold Om at h
 split at h
 ·split at h
  ·cases h; exact XV _ (by assumption)
  ·cases h
 ·cases h
def tP:bf:=tU.cX 47 Om
theorem Jb (g:FuncId) (args:List D):tP.q g args=if g=47 then Om args else tU.q g args:=rfl
theorem I_:tP.a=tU.a:=rfl
theorem Ja:tP.c=tU.c:=rfl
theorem Ez:tP.ok Tryz.prog:=bf.bm EB R8
theorem Bw:type_of% (And.intro (And.intro @Jb (And.intro @I_ @Ja)) @Bx):=(And.intro (And.intro @Jb (And.intro @I_ @Ja)) @Bx)
theorem Rv (n:Int) (h:0≤n∧n<100):aM Tryz.prog 30 [.int .i64 n] (.str (bK n.toNat)):=by
 refine aM.run Ez ZW (by simp) fun E=>?_
 simp only [Zn,Om,h,and_self,if_true,Bw,aB,seval]
def Ok:List D→Option D
 | [.int .i64 n]=>if 0≤n∧n<100 then some (.str (bK n.toNat)) else none
 | _=>none
theorem R6 (args:List D) (d:D) (h:Ok args=some d):aM Tryz.prog 30 args d:=by
 unfold Ok at h
 split at h
 ·split at h
  ·cases h; exact Rv _ (by assumption)
  ·cases h
 ·cases h
def tI:bf:=tP.cX 30 Ok
theorem IH (g:FuncId) (args:List D):tI.q g args=if g=30 then Ok args else tP.q g args:=rfl
theorem IF:tI.a=tP.a:=rfl
theorem IG:tI.c=tP.c:=rfl
theorem Er:tI.ok Tryz.prog:=bf.bm Ez R6
theorem Bv:type_of% (And.intro (And.intro @IH (And.intro @IF @IG)) @Bw):=(And.intro (And.intro @IH (And.intro @IF @IG)) @Bw)
theorem Rw (n:Int) (h:0≤n∧n<100):aM Tryz.prog 14 [.int .i64 n] (.str (bK n.toNat)):=by
 refine aM.run Er ZM (by simp) fun E=>?_
 simp only [Zi,Ok,h,and_self,if_true,Bv,aB,seval]
def sq:List D→Option D
 | [.int .i64 n]=>if 0≤n∧n<100 then some (.str (bK n.toNat)) else none
 | _=>none
theorem RX (args:List D) (d:D) (h:sq args=some d):aM Tryz.prog 14 args d:=by
 unfold sq at h
 split at h
 ·split at h
  ·cases h; exact Rw _ (by assumption)
  ·cases h
 ·cases h
def tC:bf:=tI.cX 14 sq
theorem Ij (g:FuncId) (args:List D):tC.q g args=if g=14 then sq args else tI.q g args:=rfl
theorem Ig:tC.a=tI.a:=rfl
theorem Ih:tC.c=tI.c:=rfl
theorem OS:tC.ok Tryz.prog:=bf.bm Er RX
theorem Ii:type_of% (And.intro (And.intro @Ij (And.intro @Ig @Ih)) @Bv):=(And.intro (And.intro @Ij (And.intro @Ig @Ih)) @Bv)
def mR (L:List Int) (a:Nat):cI:=.cells [.sl (fl L),.int .i64 (a:Int)]
def XJ (args:List D) (h:aa) (K:D→aa→Prop):Prop:=∃(p:Nat) (L:List Int) (a:Nat) (n:Int),args=[.ptr p 1 0,.int .i64 n]∧h.f p=some (mR L a)∧0<n∧n≤1000000∧K (.int .i64 (bU L n a).1) (h.set p (mR L (bU L n a).2))
theorem MJ (args:List D) (h:aa) (K K':D→aa→Prop) (hk:∀d h,K d h→K' d h) (c:XJ args h K):XJ args h K':=by
 obtain ⟨p,L,a,n,x,y,z,z2,k⟩:=c
 exact ⟨p,L,a,n,x,y,z,z2,hk _ _ k⟩
theorem wO {h:aa} {id:Nat} {o:cI} (e:h.f id=some o):h.set id o=h:=aa.ext fun q=>by
 simp only [aa.dD]
 split
 ·rename_i c; subst c; exact e.symm
 ·rfl
theorem GX (x:Int) {n:Int} (h:0<n): -n<x.tmod n∧x.tmod n<n:=⟨Int.lt_tmod_of_pos x h,Int.tmod_lt_of_pos x h⟩
theorem UQ (args:List D) (h:aa) (K:D→aa→Prop) (c:XJ args h K):aO Tryz.prog 13 args h fun o h'=>∃d,o=.ret d∧K d h':=by
 obtain ⟨p,L,a,n,rfl,hp,h0,h1,k⟩:=c
 refine aO.Lp (bf.ew _) ZL (by simp) ?_
 unfold bU at k
 unfold mR at hp k
 by_cases ca:a≥L.length
 ·have g1:((a:Int)≥(L.length:Int))=True:=eq_true (by omega)
  rw [if_pos (.inl ca),wO hp] at k
  simp (maxSteps:=1000000) only [So,hp,g1,fJ,fi,aB,seval]
  exact ⟨h,aa.aS h,k⟩
 ·have g1:((a:Int)≥(L.length:Int))=False:=eq_false (by omega)
  by_cases cb:a>3000
  ·have g2:((a:Int)>3000)=True:=eq_true (by omega)
   rw [if_pos (.inr cb),wO hp] at k
   simp (maxSteps:=1000000) only [So,hp,g1,g2,fJ,fi,aB,seval]
   exact ⟨h,aa.aS h,k⟩
  ·have g2:((a:Int)>3000)=False:=eq_false (by omega)
   rw [if_neg (by omega)] at k
   obtain ⟨x,hx⟩:∃x,L[a]? =some x:=⟨_,List.getElem?_eq_getElem (by omega)⟩
   have hd:L.getD a 0=x:=by rw [List.getD_eq_getElem?_getD,hx]; rfl
   rw [hd] at k
   have t1:=GX x h0
   have w1:IntKind.i64.wrap (x.tmod n+n)=x.tmod n+n:=wrap_i64 (by omega) (by omega)
   have w2:IntKind.i64.wrap ((a:Int)+1)=((a+1:Nat):Int):=cW (by omega)
   have n0:(n=0)=False:=eq_false (by omega)
   have ai:∀(K:D→aa→Prop) (h:aa),iC 1 K h (fl L) (a:Int)=K (.cU [.int .i64 x] 0) h:=fun K h=>by
    rw [KE]
    apply propext
    constructor
    ·intro hh; exact hh.2 x (by simpa using hx)
    ·intro hh
     refine ⟨⟨by omega,by omega⟩,fun y hy=>?_⟩
     rw [Int.toNat_natCast,hx] at hy
     cases hy
     exact hh
   simp (maxSteps:=1000000) only [So,hp,g1,g2,ai,w1,w2,n0,fJ,fi,aB,seval]
   exact ⟨_,aa.aS _,k⟩
def tB:bf:=tC.Fy 13 XJ MJ
theorem Ie:tB.q=tC.q:=rfl
theorem Ib:tB.a=tC.a:=rfl
theorem Ic (g:FuncId) (args:List D) (h:aa) (K E:D→aa→Prop):tB.c g args h K E=if g=13 then XJ args h K else tC.c g args h K E:=rfl
theorem Em:tB.ok Tryz.prog:=bf.qd OS UQ
theorem rn:type_of% (And.intro (And.intro @Ie (And.intro @Ib @Ic)) @Ii):=(And.intro (And.intro @Ie (And.intro @Ib @Ic)) @Ii)
theorem qg {sz:Nat} {K:D→aa→Prop} {h:aa} {xs:List (List D)} {i:Int} {x:List D} (h0:0≤i) (hx:xs[i.toNat]? =some x) (hl:x.length=sz):iC sz K h xs i=K (.cU x 0) h:=by
 have:=(List.getElem?_eq_some_iff.1 hx).1
 unfold iC
 apply propext
 constructor
 ·intro hh; exact (hh.2 _ hx).2
 ·intro hh
  refine ⟨⟨h0,by omega⟩,fun y hy=>?_⟩
  rw [hx] at hy
  cases hy
  exact ⟨hl,hh⟩
theorem Qp (t:Int) (h:0≤t∧t<3):aM Tryz.prog 15 [.int .i64 t] (.str (gk (t+1))):=by
 refine aM.run Em ZN (by simp) fun E=>?_
 have:t=0∨t=1∨t=2:=by omega
 rcases this with rfl | rfl | rfl
 ·have j:=fun (K:D→aa→Prop) (g:aa)=>qg (sz:=1) (K:=K) (h:=g) (xs:=[[.str [105,110,116]],[.str [102,108,111,97,116]],[.str [98,111,111,108]]]) (x:=[.str [105,110,116]]) h.1 rfl rfl
  simp only [Sp,j,rn,aB,seval]
  exact .inl rfl
 ·have j:=fun (K:D→aa→Prop) (g:aa)=>qg (sz:=1) (K:=K) (h:=g) (xs:=[[.str [105,110,116]],[.str [102,108,111,97,116]],[.str [98,111,111,108]]]) (x:=[.str [102,108,111,97,116]]) h.1 rfl rfl
  simp only [Sp,j,rn,aB,seval]
  exact .inl rfl
 ·have j:=fun (K:D→aa→Prop) (g:aa)=>qg (sz:=1) (K:=K) (h:=g) (xs:=[[.str [105,110,116]],[.str [102,108,111,97,116]],[.str [98,111,111,108]]]) (x:=[.str [98,111,111,108]]) h.1 rfl rfl
  simp only [Sp,j,rn,aB,seval]
  exact .inl rfl
def Gr:List D→Option D
 | [.int .i64 t]=>if 0≤t∧t<3 then some (.str (gk (t+1))) else none
 | _=>none
theorem RY (args:List D) (d:D) (h:Gr args=some d):aM Tryz.prog 15 args d:=by
 unfold Gr at h
 split at h
 ·split at h
  ·cases h; exact Qp _ (by assumption)
  ·cases h
 ·cases h
def tD:bf:=tB.cX 15 Gr
theorem Im (g:FuncId) (args:List D):tD.q g args=if g=15 then Gr args else tB.q g args:=rfl
theorem Ik:tD.a=tB.a:=rfl
theorem Il:tD.c=tB.c:=rfl
theorem En:tD.ok Tryz.prog:=bf.bm Em RY
theorem kX:type_of% (And.intro (And.intro @Im (And.intro @Ik @Il)) @rn):=(And.intro (And.intro @Im (And.intro @Ik @Il)) @rn)
theorem ql {α:Type} (L:List Int) {l:List α} (z:α) (f:α→List UInt8) (hl:0<l.length) (b:Nat) (K:D→aa→Prop) (h:aa):iC 1 K h (l.map fun x=>[.str (f x)]) (bU L l.length b).1=K (.cU [.str (f (l.getD (bU L l.length b).1.toNat z))] 0) h:=by
 have hr:=bW L (show (0:Int)<l.length by omega) b
 have gY:(bU L l.length b).1.toNat<l.length:=by omega
 rw [lE (f:=fun x=>[D.str (f x)]) (fun _=>rfl)]
 have e:l[(bU L l.length b).1.toNat]? =some (l.getD (bU L l.length b).1.toNat z):=by
  rw [List.getD_eq_getElem?_getD,List.getElem?_eq_getElem gY]; rfl
 apply propext
 constructor
 ·intro hh; exact hh.2 _ e
 ·intro hh
  refine ⟨hr,fun y hy=>?_⟩
  rw [e] at hy
  cases hy
  exact hh
theorem oa {α:Type} (L:List Int) {l:List α} (z:α) (f:α→List UInt8) (hl:0<l.length) (b:Nat):dI (.aY 1 (.sl (l.map fun x=>[.str (f x)])) (.int .i64 (bU L l.length b).1))=some (.cU [.str (f (l.getD (bU L l.length b).1.toNat z))] 0):=by
 have hr:=bW L (show (0:Int)<l.length by omega) b
 have gY:(bU L l.length b).1.toNat<l.length:=by omega
 have e:l[(bU L l.length b).1.toNat]? =some (l.getD (bU L l.length b).1.toNat z):=by
  rw [List.getD_eq_getElem?_getD,List.getElem?_eq_getElem gY]; rfl
 show (if 0≤(bU L l.length b).1 then (match (l.map fun x=>[D.str (f x)])[(bU L l.length b).1.toNat]? with | some x=>if x.length=1 then some (D.cU x 0) else none | none=>none) else none)=_
 rw [if_pos hr.1,List.getElem?_map,e]
 rfl
def XI (args:List D) (h:aa) (K:D→aa→Prop):Prop:=∃(p:Nat) (L:List Int) (a:Nat) (t:Int),args=[.ptr p 1 0,.int .i64 t]∧h.f p=some (mR L a)∧K (.str ((nD L t a).1.tx [])) (h.set p (mR L (nD L t a).2))
theorem ME (args:List D) (h:aa) (K K':D→aa→Prop) (hk:∀d h,K d h→K' d h) (c:XI args h K):XI args h K':=by
 obtain ⟨p,L,a,n,x,y,k⟩:=c
 exact ⟨p,L,a,n,x,y,hk _ _ k⟩
theorem UO (args:List D) (h:aa) (K:D→aa→Prop) (c:XI args h K):aO Tryz.prog 16 args h fun o h'=>∃d,o=.ret d∧K d h':=by
 obtain ⟨p,L,a,t,rfl,hp,k⟩:=c
 refine aO.Lp En ZO (by simp) ?_
 have l0:(lits 0).map (fun e=>[D.str (e.tx [])])=[[.str [48]],[.str [49]],[.str [50]],[.str [51]],[.str [55]],[.str [57,50,50,51,51,55,50,48,51,54,56,53,52,55,55,53,56,48,55]]]:=by simp [lits,GE.tx]
 have l1:(lits 1).map (fun e=>[D.str (e.tx [])])=[[.str [48,46,48]],[.str [49,46,48]],[.str [48,46,53]],[.str [50,46,50,53]],[.str [49,48,48,48,48,48,48,46,48]],[.str [48,46,49]]]:=by simp [lits,GE.tx]
 have l2:(lits 2).map (fun e=>[D.str (e.tx [])])=[[.str [116,114,117,101]],[.str [102,97,108,115,101]]]:=by simp [lits,GE.tx,lY,iU]
 have i0:=fun b (K:D→aa→Prop) (h:aa)=>ql L (l:=lits 0) (.bool true) (fun e=>e.tx []) (by decide) b K h
 have i1:=fun b (K:D→aa→Prop) (h:aa)=>ql L (l:=lits 1) (.bool true) (fun e=>e.tx []) (by decide) b K h
 have i2:=fun b (K:D→aa→Prop) (h:aa)=>ql L (l:=lits 2) (.bool true) (fun e=>e.tx []) (by decide) b K h
 have n0:(((lits 0).length:Nat):Int)=6:=rfl
 have n1:(((lits 1).length:Nat):Int)=6:=rfl
 have n2:(((lits 2).length:Nat):Int)=2:=rfl
 rw [l0,n0] at i0
 rw [l1,n1] at i1
 rw [l2,n2] at i2
 by_cases AH:t=0
 ·subst AH
  unfold nD at k
  rw [n0] at k
  simp (maxSteps:=1000000) only [Sq,kX,aB,seval]
  refine ⟨p,L,a,6,rfl,hp,by decide,by decide,?_⟩
  simp (maxSteps:=1000000) only [i0,fi,kX,aB,seval]
  exact ⟨_,aa.aS _,k⟩
 ·by_cases p_:t=1
  ·subst p_
   unfold nD at k
   rw [n1] at k
   simp (maxSteps:=1000000) only [Sq,kX,aB,seval]
   refine ⟨p,L,a,6,rfl,hp,by decide,by decide,?_⟩
   simp (maxSteps:=1000000) only [i1,fi,kX,aB,seval]
   exact ⟨_,aa.aS _,k⟩
  ·have e2:lits t=lits 2:=by unfold lits; rw [if_neg AH,if_neg p_]; rfl
   unfold nD at k
   rw [e2,n2] at k
   have b0:(t==0)=false:=by simpa using AH
   have b1:(t==1)=false:=by simpa using p_
   simp (maxSteps:=1000000) only [Sq,b0,b1,kX,aB,seval]
   refine ⟨p,L,a,2,rfl,hp,by decide,by decide,?_⟩
   simp (maxSteps:=1000000) only [i2,fi,kX,aB,seval]
   exact ⟨_,aa.aS _,k⟩
def tE:bf:=tD.Fy 16 XI ME
theorem Iq:tE.q=tD.q:=rfl
theorem Io:tE.a=tD.a:=rfl
theorem Ip (g:FuncId) (args:List D) (h:aa) (K E:D→aa→Prop):tE.c g args h K E=if g=16 then XI args h K else tD.c g args h K E:=rfl
theorem Eo:tE.ok Tryz.prog:=bf.qd En UO
theorem rp:type_of% (And.intro (And.intro @Iq (And.intro @Io @Ip)) @kX):=(And.intro (And.intro @Iq (And.intro @Io @Ip)) @kX)
def H8 (d:D) (xs:List (List D)):Prop:=d=.sl xs∨(d=.a_∧xs=[])
def dF (l:List Fn):List (List D):=l.map fun f=>[.str f.name,.int .i64 f.answer,.sl (fl f.params)]
theorem fc {l:List Fn}:(dF l).length=l.length:=by simp [dF]
structure uR (h:aa) (q:Nat) (s:Nm) (d0 d1 d2 d3:D):Prop where
 obj:h.f q=some (.cells [d0,d1,d2,d3,.int .i64 (s.fresh:Int)])
 e0:H8 d0 (cE s.ints)
 e1:H8 d1 (cE s.vy)
 e2:H8 d2 (cE s.nf)
 e3:H8 d3 (dF s.funcs)
def NV (s:Nm):D:=.agg [.sl (cE s.ints),.sl (cE s.vy),.sl (cE s.nf),.sl (dF s.funcs),.int .i64 (s.fresh:Int)]
theorem H8.plain {d:D} {xs:List (List D)} (e:H8 d xs) (h:aa):plain h d=.sl xs:=by
 rcases e with rfl | ⟨rfl,rfl⟩<;>rfl
theorem H8.fA {d:D} {xs:List (List D)} (e:H8 d xs) (h:aa):fA h d=h:=by
 rcases e with rfl | ⟨rfl,rfl⟩<;>rfl
theorem H8.ok {d:D} {xs:List (List D)} (e:H8 d xs):bY d=true:=by
 rcases e with rfl | ⟨rfl,rfl⟩<;>rfl
theorem H8.len {T:bf} {d:D} {xs:List (List D)} (e:H8 d xs) (h:aa) (K E:D→aa→Prop):dS T (.len .sl d) h K E=(xs.length≤9223372036854775807→K (.int .i64 (xs.length:Int)) h):=by
 rcases e with rfl | ⟨rfl,rfl⟩
 ·rfl
 ·rw [r7]
  exact propext ⟨fun k _=>k,fun k=>k (by simp)⟩
theorem H8.fin {d:D} {xs:List (List D)} (e:H8 d xs) {R:dn→aa→Prop} {σ:Fr} {t:Nat} {h:aa} (hσ:σ.env t=d) (k:R (.ret (.sl xs)) h):ax [.tmp t] R σ none h:=by
 refine ⟨[d],by simp [dV,hσ],.inr ⟨h,?_,?_⟩⟩
 ·show h.sub (Go.Proofs.YtpklkpkfgmoghaaGreatDoor.Zz.fA h d)
  rw [e.fA]
  exact aa.aS h
 ·show R (.ret (Go.Proofs.YtpklkpkfgmoghaaGreatDoor.Zz.plain h d)) h
  rw [e.plain]
  exact k
def XK (args:List D) (h:aa) (K E:D→aa→Prop):Prop:=∃(q:Nat) (s:Nm) (d0 d1 d2 d3:D) (t:Int),args=[.ptr q 1 0,.int .i64 t]∧uR h q s d0 d1 d2 d3∧K (.sl (cE (s.of t))) h
theorem MK (args:List D) (h:aa) (K E K' E':D→aa→Prop) (hk:∀d h,K d h→K' d h) (he:∀d h,E d h→E' d h) (c:XK args h K E):XK args h K' E':=by
 obtain ⟨q,s,d0,d1,d2,d3,t,x,y,k⟩:=c
 exact ⟨q,s,d0,d1,d2,d3,t,x,y,hk _ _ k⟩
theorem UR (args:List D) (h:aa) (K E:D→aa→Prop) (c:XK args h K E):aO Tryz.prog 31 args h (dn.to K E):=by
 obtain ⟨q,s,d0,d1,d2,d3,t,rfl,y,k⟩:=c
 refine aO.c8 Eo (dc:=cJ.none) (fun _ _=>cJ.eM) (by kernel_rfl) ZY (by simp) ?_
 rw [dz]
 have hq:=y.obj
 unfold Nm.of at k
 by_cases AH:t=0
 ·subst AH
  rw [if_pos rfl] at k
  simp (maxSteps:=1000000) only [Ss,hq,ag,ab,rp,aB,seval]
  exact y.e0.fin rfl k
 ·rw [if_neg AH] at k
  have b0:(t==0)=false:=by simpa using AH
  by_cases p_:t=1
  ·subst p_
   rw [if_pos rfl] at k
   simp (maxSteps:=1000000) only [Ss,hq,b0,ag,ab,rp,aB,seval]
   exact y.e1.fin rfl k
  ·rw [if_neg p_] at k
   have b1:(t==1)=false:=by simpa using p_
   simp (maxSteps:=1000000) only [Ss,hq,b0,b1,ag,ab,rp,aB,seval]
   exact y.e2.fin rfl k
def tJ:bf:=tE.j6 31 XK MK
theorem IK:tJ.q=tE.q:=rfl
theorem II:tJ.a=tE.a:=rfl
theorem IJ (g:FuncId) (args:List D) (h:aa) (K E:D→aa→Prop):tJ.c g args h K E=if g=31 then XK args h K E else tE.c g args h K E:=rfl
theorem Es:tJ.ok Tryz.prog:=bf.cD Eo UR
theorem kY:type_of% (And.intro (And.intro @IK (And.intro @II @IJ)) @rp):=(And.intro (And.intro @IK (And.intro @II @IJ)) @rp)
theorem pK {l:List (List UInt8)}:∀y∈cE l,y.length=1∧y.all bY=true:=by
 intro y hy
 simp only [cE,List.mem_map] at hy
 obtain ⟨s,_,rfl⟩:=hy
 exact ⟨rfl,rfl⟩
theorem rX (a:List (List UInt8)) (x:List UInt8):(if a.length+1≤(a++[x]).length then D.sl (List.take (a.length+1) (cE (a++[x]))) else D.undef)=.sl (cE (a++[x])):=by
 rw [if_pos (by simp),List.take_of_length_le (by rw [cY]; simp)]
def Fh (a b c:List (List UInt8)) (ys:List (List D)) (f:Int) (x:List UInt8) (t:Int):D:=
 if t=0 then .agg [.sl (cE (a++[x])),.sl (cE b),.sl (cE c),.sl ys,.int .i64 f] else if t=1 then .agg [.sl (cE a),.sl (cE (b++[x])),.sl (cE c),.sl ys,.int .i64 f] else .agg [.sl (cE a),.sl (cE b),.sl (cE (c++[x])),.sl ys,.int .i64 f]
theorem W5 (a b c:List (List UInt8)) (ys:List (List D)) (f:Int) (x:List UInt8) (t:Int) (h:a.length<100000∧b.length<100000∧c.length<100000):aM Tryz.prog 17 [.agg [.sl (cE a),.sl (cE b),.sl (cE c),.sl ys,.int .i64 f],.str x,.int .i64 t] (Fh a b c ys f x t):=by
 refine aM.run Es ZP (by simp) fun E=>?_
 unfold Fh
 by_cases AH:t=0
 ·subst AH
  rw [if_pos rfl]
  simp only [Sr,cY,j9,kY,aB,seval]
  intro i1  i2 al ak i3 av ar au aq
  simp only [al,ak,av,ar,au,aq,cY,j9,rX,kY,aB,seval]
  exact ⟨pK,by omega,by omega⟩
 ·rw [if_neg AH]
  have b0:(t==0)=false:=by simpa using AH
  by_cases p_:t=1
  ·subst p_
   rw [if_pos rfl]
   simp only [Sr,b0,cY,j9,kY,aB,seval]
   intro i1  i2 al ak i3 av ar au aq
   simp only [al,ak,av,ar,au,aq,cY,j9,rX,kY,aB,seval]
   exact ⟨pK,by omega,by omega⟩
  ·rw [if_neg p_]
   have b1:(t==1)=false:=by simpa using p_
   simp only [Sr,b0,b1,cY,j9,kY,aB,seval]
   intro i1  i2 al ak i3 av ar au aq
   simp only [al,ak,av,ar,au,aq,cY,j9,rX,kY,aB,seval]
   exact ⟨pK,by omega,by omega⟩
def Lz:List D→Option D
 | [.agg [.sl a',.sl b',.sl c',.sl ys,.int .i64 f],.str x,.int .i64 t]=>match vi a',vi b',vi c' with
  | some a,some b,some c=>if a.length<100000∧b.length<100000∧c.length<100000 then some (Fh a b c ys f x t) else none
  | _,_,_=>none
 | _=>none
theorem R1 (args:List D) (d:D) (h:Lz args=some d):aM Tryz.prog 17 args d:=by
 unfold Lz at h
 split at h
 ·split at h
  ·rename_i e0 e1 e2
   cases iP e0; cases iP e1; cases iP e2
   split at h
   ·cases h; exact W5 _ _ _ _ _ _ _ (by assumption)
   ·cases h
  ·cases h
 ·cases h
def tG:bf:=tJ.cX 17 Lz
theorem Iw (g:FuncId) (args:List D):tG.q g args=if g=17 then Lz args else tJ.q g args:=rfl
theorem Iu:tG.a=tJ.a:=rfl
theorem Iv:tG.c=tJ.c:=rfl
theorem Ep:tG.ok Tryz.prog:=bf.bm Es R1
theorem az:type_of% (And.intro (And.intro @Iw (And.intro @Iu @Iv)) @kY):=(And.intro (And.intro @Iw (And.intro @Iu @Iv)) @kY)
theorem NW (s:Nm) (x:List UInt8) (t:Int):Fh s.ints s.vy s.nf (dF s.funcs) s.fresh x t=NV (s.with x t):=by
 unfold Fh NV Nm.with
 split
 ·rfl
 ·split<;>rfl
theorem uK {s:Nm} {x:List UInt8} {t:Int} (h:s.ints.length<100000∧s.vy.length<100000∧s.nf.length<100000):Lz [NV s,.str x,.int .i64 t]=some (NV (s.with x t)):=by
 rw [←NW]
 simp only [Lz,NV,qu]
 rw [if_pos h]
end
end Go.Proofs.YtpklkpkfgmoghaaGreatDoor.Zz
namespace Go.Proofs.YtpklkpkfgmoghaaGreatDoor.Zz
noncomputable section
def acG:b7:=⟨⟨[(1,0)],[(9,4),(16,10)],[],[],[],[]⟩,[],[],false⟩
def Zp:dA:=
 sO [oP (.cg (kS [])) 8,
 oP (.cg (kB false)) 9]
 (sO [oQ (.buildSlice 3 [(.str []),(.int .i64 0),.a_] 0 [] true) 15,
 oM 15 10]
 (.seq (sO [oP (.cg (kI 0)) 11]
 (.block 0 (.loop (.seq (sO [oM 11 16,
 oM 1 17,
 oN 17 18,
 oF 3 18 19,
 oL 19 20,
 oZ 20 21,
 oE .lss 16 21 22]
 (.cond (.t 22)
 (.skip)
 (.exit 0)))
 (.seq (.block 1 (sO [oM 1 25,
 oN 25 26,
 oF 3 26 27,
 oL 27 28,
 oM 11 29,
 oI 3 28 29 30,
 oF 1 30 31,
 oL 31 32,
 oM 2 33,
 oE .eql 32 33 34]
 (.cond (.t 34)
 (.ops [oM 10 35,
 oM 1 36,
 oN 36 37,
 oF 3 37 38,
 oL 38 39,
 oM 11 40,
 oI 3 39 40 41,
 oJ 3 41 42,
 oP (.buildSlice 3 [(.str []),(.int .i64 0),.a_] 1 [(0,(.t 42))] false) 43,
 oQ (.append 3 48 false (.t 35) (.t 43)) 44,
 oM 44 10])
 (.skip))))
 (.ops [oM 11 23,
 oH .add 23 1 24,
 oM 24 11]))))))
 (.seq (sO [oM 10 45,
 oZ 45 46,
 oH .eql 46 0 47]
 (.cond (.t 47)
 (sO [oP (.cg (kS [])) 8,
 oP (.cg (kB false)) 9]
 (.ret))
 (.skip)))
 (sO [oM 10 48,
 oM 0 49,
 oM 10 50,
 oZ 50 51,
 oC 13 [.t 49,.t 51] 52,
 oI 3 48 52 53,
 oJ 3 53 54,
 oQ (.alloc [(.str []),(.int .i64 0),.a_]) 12,
 oS 3 12 54]
 (sO [oF 0 12 55,
 oL 55 56,
 oP (.bin .add (.t 56) (kS [40])) 57,
 oM 57 13]
 (.seq (sO [oP (.cg (kI 0)) 14]
 (.block 2 (.loop (.seq (sO [oM 14 58,
 oF 2 12 59,
 oL 59 60,
 oZ 60 61,
 oE .lss 58 61 62]
 (.cond (.t 62)
 (.skip)
 (.exit 2)))
 (.seq (.block 3 (.seq (sO [oM 14 65,
 oH .gtr 65 0 66]
 (.cond (.t 66)
 (.ops [oM 13 67,
 oP (.bin .add (.t 67) (kS [44,32])) 68,
 oM 68 13])
 (.skip)))
 (.ops [oM 13 69,
 oM 0 70,
 oM 1 71,
 oF 2 12 72,
 oL 72 73,
 oM 14 74,
 oI 1 73 74 75,
 oL 75 76,
 oM 3 77,
 oH .sub 77 1 78,
 oC 19 [.t 70,.t 71,.t 76,.t 78] 79,
 oE .add 69 79 80,
 oM 80 13])))
 (.ops [oM 14 63,
 oH .add 63 1 64,
 oM 64 14]))))))
 (sO [oM 13 81,
 oP (.bin .add (.t 81) (kS [41])) 82,
 oM 82 8,
 oP (.cg (kB true)) 9]
 (.ret))))))))
theorem ZZ:bE Tryz.prog 32 acG=some (Zp,[.tmp 8,.tmp 9],83):=by kernel_rfl
theorem uR.of_eq {h h':aa} {q:Nat} {s:Nm} {d0 d1 d2 d3:D} (y:uR h q s d0 d1 d2 d3) (e:h'.f q=h.f q):uR h' q s d0 d1 d2 d3:=⟨by rw [e]; exact y.obj,y.e0,y.e1,y.e2,y.e3⟩
structure Kz (s:Nm):Prop where
 ok:gN s
 fn:s.funcs.length≤1000
 l0:s.ints.length≤1000
 l1:s.vy.length≤1000
 l2:s.nf.length≤1000
theorem Kz.of {s:Nm} (h:Kz s) (t:Int):(s.of t).length≤1000:=by
 unfold Nm.of
 split
 ·exact h.l0
 ·split
  ·exact h.l1
  ·exact h.l2
def XG (G:Nat) (args:List D) (h:aa) (K E:D→aa→Prop):Prop:=∃(p:Nat) (L:List Int) (a q:Nat) (s:Nm) (d0 d1 d2 d3:D) (t:Int) (d:Nat),args=[.ptr p 1 0,.ptr q 1 0,.int .i64 t,.int .i64 (d:Int)]∧d<G∧d≤3∧h.f p=some (mR L a)∧uR h q s d0 d1 d2 d3∧Kz s∧
 K (.str ((bP L s d t a).1.tx [])) (h.set p (mR L (bP L s d t a).2))
theorem Mt (G:Nat) (args:List D) (h:aa) (K E K' E':D→aa→Prop) (hk:∀d h,K d h→K' d h) (he:∀d h,E d h→E' d h) (c:XG G args h K E):XG G args h K' E':=by
 obtain ⟨p,L,a,q,s,d0,d1,d2,d3,t,d,x1,x2,x3,x4,x5,x6,k⟩:=c
 exact ⟨p,L,a,q,s,d0,d1,d2,d3,t,d,x1,x2,x3,x4,x5,x6,hk _ _ k⟩
def SI (G:Nat):bf:=tG.j6 19 (XG G) (Mt G)
theorem T1 {G:Nat}:(SI G).q=tG.q:=rfl
theorem TZ {G:Nat}:(SI G).a=tG.a:=rfl
theorem T0 {G:Nat} (g:FuncId) (args:List D) (h:aa) (K E:D→aa→Prop):(SI G).c g args h K E=if g=19 then XG G args h K E else tG.c g args h K E:=rfl
theorem k_:type_of% (And.intro (And.intro @T1 (And.intro @TZ @T0)) @az):=(And.intro (And.intro @T1 (And.intro @TZ @T0)) @az)
def callR (L:List Int) (s:Nm) (d:Nat) (t:Int) (a:Nat):D×Nat:=match iN L s (bP L s d) t a with
 | (some c,b)=>(.tuple [.str ((GE.call c.1 c.2).tx []),.bool true],b)
 | (none,b)=>(.tuple [.str [],.bool false],b)
def XF (G:Nat) (args:List D) (h:aa) (K E:D→aa→Prop):Prop:=∃(p:Nat) (L:List Int) (a q:Nat) (s:Nm) (d0 d1 d2 d3:D) (t:Int) (d:Nat),args=[.ptr p 1 0,.ptr q 1 0,.int .i64 t,.int .i64 ((d+1:Nat):Int)]∧d<G∧d≤3∧h.f p=some (mR L a)∧uR h q s d0 d1 d2 d3∧Kz s∧
 K (callR L s d t a).1 (h.set p (mR L (callR L s d t a).2))
theorem Ms (G:Nat) (args:List D) (h:aa) (K E K' E':D→aa→Prop) (hk:∀d h,K d h→K' d h) (he:∀d h,E d h→E' d h) (c:XF G args h K E):XF G args h K' E':=by
 obtain ⟨p,L,a,q,s,d0,d1,d2,d3,t,d,x1,x2,x3,x4,x5,x6,k⟩:=c
 exact ⟨p,L,a,q,s,d0,d1,d2,d3,t,d,x1,x2,x3,x4,x5,x6,hk _ _ k⟩
theorem E4:∀(l:List GE) (e:GE) (r:List UInt8),GE.pb (l++[e]) r=GE.pb l (44::32::e.tx r)
 | [],e,r=>by rw [List.nil_append,GE.pb,GE.pb,GE.pb]
 | x::l,e,r=>by rw [List.cons_append,GE.pb,GE.pb,E4 l e r]
theorem Kl (e:GE):GE.cT [e] []=e.tx []:=by rw [GE.cT,GE.pb]
theorem E3 {l:List GE} (h:l≠[]) (e:GE):GE.cT (l++[e]) []=GE.cT l []++([44,32]++e.tx []):=by
 cases l with
 | nil=>exact absurd rfl h
 | cons x l=>
  rw [List.cons_append,GE.cT,GE.cT,E4,BD,cv,cv x (GE.pb l [])]
  simp
theorem FB {g:Int→Nat→GE×Nat} (t:Int) (r:List Int) (a:Nat):gR g (t::r) a=((g t a).1::(gR g r (g t a).2).1,(gR g r (g t a).2).2):=rfl
theorem Cj (l:List Fn) (f:Fn):dF (l++[f])=dF l++[[.str f.name,.int .i64 f.answer,.sl (fl f.params)]]:=by simp [dF]
theorem drop_at {α:Type} {l:List α} {i:Nat} {x:α} (h:l[i]? =some x):l.drop i=x::l.drop (i+1):=by
 obtain ⟨h1,h2⟩:=List.getElem?_eq_some_iff.1 h
 rw [List.drop_eq_getElem_cons h1,h2]
theorem B_ {L:List Int} {s:Nm} {g:Int→Nat→GE×Nat} {t:Int} {a:Nat} (hl:(s.funcs.filter fun f=>f.answer==t)=[]):iN L s g t a=(none,a):=by
 unfold iN
 rw [hl]
theorem Ca {L:List Int} {s:Nm} {g:Int→Nat→GE×Nat} {t:Int} {a:Nat} {l:List Fn} (hl:(s.funcs.filter fun f=>f.answer==t)=l) (hn:l≠[]):
  ∃F,F∈s.funcs∧l[(bU L l.length a).1.toNat]? =some F∧iN L s g t a=(some (F.name,(gR g F.params (bU L l.length a).2).1),(gR g F.params (bU L l.length a).2).2):=by
 cases l with
 | nil=>exact absurd rfl hn
 | cons f r=>
  have gY:=se L (n:=(f::r).length) (by simp) a
  have e:(f::r)[(bU L ((f::r).length:Nat) a).1.toNat]? =some ((f::r).getD (bU L ((f::r).length:Nat) a).1.toNat f):=by
   rw [List.getD_eq_getElem?_getD,List.getElem?_eq_getElem gY]; rfl
  refine ⟨(f::r).getD (bU L ((f::r).length:Nat) a).1.toNat f,?_,e,?_⟩
  ·have:=lK (x:=f) gY
   rw [←hl] at this ⊢
   exact (List.mem_filter.1 this).1
  ·unfold iN
   rw [hl]
theorem SA {h:aa} {i:Nat} {o:cI} (k:h.f i=none):h.sub (h.set i o):=fun j x hj=>by
 have:j≠i:=fun e=>by rw [e,k] at hj; cases hj
 simp only [aa.dD,this,if_false]; exact hj
theorem yb (G:Nat) (hT:(SI G).ok Tryz.prog) (args:List D) (h:aa) (K E:D→aa→Prop) (c:XF G args h K E):aO Tryz.prog 32 args h (dn.to K E):=by
 obtain ⟨p,L,a,q,s,d0,d1,d2,d3,t,d,rfl,hG,hd,hp,ny,sm,k⟩:=c
 refine aO.c8 hT (dc:=cJ.none) (fun _ _=>cJ.eM) (by kernel_rfl) ZZ (by simp) ?_
 rw [dz]
 have hq:=ny.obj
 generalize hD:((d+1:Nat):Int)=DD
 have wd:IntKind.i64.wrap (DD - 1)=(d:Int):=by rw [←hD,wrap_i64 (by omega) (by omega)]; omega
 simp (maxSteps:=1000000) only [Zp,hq,hp,k_,az,aB,seval]
 intro i1 k1
 have n1:¬i1=p:=fun e=>by rw [e,hp] at k1; cases k1
 have n2:¬i1=q:=fun e=>by rw [e,hq] at k1; cases k1
 have cV:¬p=i1:=fun e=>n1 e.symm
 have RD:¬q=i1:=fun e=>n2 e.symm
 have mJ:¬p=q:=fun e=>by subst e; rw [hp] at hq; cases hq
 have j_:¬q=p:=fun e=>mJ e.symm
 refine cS (X:=Nat×List Fn) (fun z=>[(0,.ptr p 1 0),(1,.ptr q 1 0),(2,.int .i64 t),(3,.int .i64 DD),(8,.str []),(9,.bool false),(10,.row i1 (z.2.length+2) 0 z.2.length),(11,.int .i64 z.1)]) (fun z=>h.set i1 (.row 3 (z.2.length+2) (dF z.2) false)) (fun z=>s.funcs.length - z.1)
  (fun z=>z.1≤s.funcs.length∧z.2.length≤z.1∧(s.funcs.filter fun f=>f.answer==t)=z.2++((s.funcs.drop z.1).filter fun f=>f.answer==t)) (0,[]) ⟨Nat.zero_le _,Nat.le_refl _,rfl⟩ (by simp only [List.length_nil,az,aB,seval]) (aa.aS _) ?_
 rintro ⟨i,done⟩ Q ⟨j0,j1,j2⟩ hQ
 simp only at j0 j1 j2 hQ ⊢
 have hl:=fun (T:bf) h K E=>ny.e3.len (T:=T) h K E
 by_cases AH:i<s.funcs.length
 ·obtain ⟨f,hf⟩:∃f,s.funcs[i]? =some f:=⟨_,List.getElem?_eq_getElem AH⟩
  have g:((i:Int)<(s.funcs.length:Int))=True:=eq_true (by omega)
  have hfm:f∈s.funcs:=List.mem_of_getElem? hf
  have hlen:=sm.fn
  have wi:IntKind.i64.wrap ((i:Int)+1)=((i+1:Nat):Int):=cW (by omega)
  have e3:d3=.sl (dF s.funcs):=by
   rcases ny.e3 with e | ⟨_,e⟩
   ·exact e
   ·have:=congrArg List.length e
    rw [fc,List.length_nil] at this
    omega
  subst e3
  have hx:(dF s.funcs)[((i:Int)).toNat]? =some [.str f.name,.int .i64 f.answer,.sl (fl f.params)]:=by simp [dF,hf]
  have qz:∀(K:D→aa→Prop) (h:aa),iC 3 K h (dF s.funcs) (i:Int)=K (.cU [.str f.name,.int .i64 f.answer,.sl (fl f.params)] 0) h:=fun K h=>qg (by omega) hx rfl
  rw [drop_at hf] at j2
  cases p_:(f.answer==t) with
  | true=>
   rw [List.filter_cons_of_pos (by simpa using p_)] at j2
   simp (maxSteps:=1000000) only [hq,n1,n2,cV,RD,g,wi,qz,p_,fc,k_,az,aB,seval]
   intro _
   refine ⟨by omega,hQ (i+1,done++[f]) _ _ ⟨by omega,by simp; omega,by rw [j2]; simp⟩ (by simp only [List.length_append,List.length_cons,List.length_nil,az,aB,seval]) ?_ (by simp only; omega)⟩
   simp only [List.length_append,List.length_cons,List.length_nil,Cj]
   exact aa.aS _
  | false=>
   rw [List.filter_cons_of_neg (by simpa using p_)] at j2
   simp (maxSteps:=1000000) only [hq,n1,n2,cV,RD,g,wi,qz,p_,fc,k_,az,aB,seval]
   intro _
   exact hQ (i+1,done) _ _ ⟨by omega,by simp only; omega,j2⟩ (by simp only [az,aB,seval]) (aa.aS _) (by simp only; omega)
 ·have e0:i=s.funcs.length:=by omega
  subst e0
  rw [List.drop_length,List.filter_nil,List.append_nil] at j2
  simp (maxSteps:=1000000) only [hq,hl,n1,n2,cV,RD,fc,Int.lt_irrefl,k_,az,aB,seval]
  intro _
  have he:=Td hd
  have hlen:=sm.fn
  by_cases Xc:done=[]
  ·subst Xc
   unfold callR at k
   rw [B_ j2] at k
   simp only at k
   rw [wO hp] at k
   simp (maxSteps:=1000000) only [ag,ab,ax,List.length_nil,k_,az,aB,seval]
   exact .inl ⟨h,SA k1,k⟩
  ·obtain ⟨F,hF,hx,hc⟩:=Ca (L:=L) (g:=bP L s d) (a:=a) j2 Xc
   unfold callR at k
   rw [hc] at k
   simp only at k
   have gZ:=List.length_pos_iff.2 Xc
   have Mq:((done.length:Int)==0)=false:=by simpa using Xc
   have hr:=bW L (n:=(done.length:Int)) (by omega) a
   generalize hkk:bU L (done.length:Int) a=kk at k hx hr
   obtain ⟨ki,b⟩:=kk
   simp only at k hx hr
   have Lc:(dF done)[ki.toNat]? =some [.str F.name,.int .i64 F.answer,.sl (fl F.params)]:=by simp [dF,hx]
   have r1:(0≤ki)=True:=eq_true hr.1
   have r2:(ki<(done.length:Int))=True:=eq_true hr.2
   simp (maxSteps:=1000000) only [Mq,k_,az,aB,seval]
   intro _ _
   refine ⟨p,L,a,_,rfl,by simp [cV,hp],by omega,by omega,?_⟩
   rw [hkk]
   simp (maxSteps:=1000000) only [hq,hp,n1,n2,cV,RD,mJ,j_,r1,r2,Lc,k_,az,aB,seval]
   obtain ⟨f1,f2,f3⟩:=sm.ok.fn F hF
   have f4:=Be f1
   intro i2 m1 lN m2 nE k2
   have m3:¬i2=q:=fun e=>by rw [e,hq] at k2; cases k2
   have VG:¬q=i2:=fun e=>m3 e.symm
   refine ⟨by omega,?_⟩
   refine cS (X:=Nat×List GE×Nat) (fun z=>[(0,.ptr p 1 0),(1,.ptr q 1 0),(3,.int .i64 DD),(12,.ptr i2 1 0),(13,.str (F.name++40::GE.cT z.2.1 [])),(14,.int .i64 z.1)]) (fun z=>(h.set i2 (.cells [.str F.name,.int .i64 F.answer,.sl (fl F.params)])).set p (mR L z.2.2)) (fun z=>F.params.length - z.1)
    (fun z=>z.1≤F.params.length∧z.2.1.length=z.1∧(GE.cT z.2.1 []).length≤300*z.1∧gR (bP L s d) F.params b=(z.2.1++(gR (bP L s d) (F.params.drop z.1) z.2.2).1,(gR (bP L s d) (F.params.drop z.1) z.2.2).2)) (0,[],b) ⟨Nat.zero_le _,rfl,by rw [GE.cT]; simp,rfl⟩ ?_ ?_ ?_
   ·rw [GE.cT]
    simp only [az,aB,seval]
   ·exact aa.dL (by repeat' first | with_reducible exact aa.bF | with_reducible exact aa.bI | refine aa.cL (by simp [m1,lN,m2,nE,k1]) ?_ | refine aa.cR (by simp [m1,lN,m2,nE,k1]) ?_)
   rintro ⟨i,es,c⟩ Q ⟨j0,j1,j2,j3⟩ hQ
   simp only at j0 j1 j2 j3 hQ ⊢
   by_cases AH:i<F.params.length
   ·obtain ⟨u,hu⟩:∃u,F.params[i]? =some u:=⟨_,List.getElem?_eq_getElem AH⟩
    have g:((i:Int)<(F.params.length:Int))=True:=eq_true (by omega)
    have wi:IntKind.i64.wrap ((i:Int)+1)=((i+1:Nat):Int):=cW (by omega)
    have qz:∀(K:D→aa→Prop) (h:aa),iC 1 K h (fl F.params) (i:Int)=K (.cU [.int .i64 u] 0) h:=fun K h=>qg (by omega) (by simp [fl,hu]) rfl
    have F0:=eG (L:=L) sm.ok d u c
    rw [drop_at hu,FB] at j3
    have hy:∀h',h'.f q=h.f q→uR h' q s d0 d1 d2 d3:=fun h' e=>ny.of_eq e
    by_cases p_:i=0
    ·have g1:((i:Int)>0)=False:=eq_false (by omega)
     have e0:es=[]:=List.length_eq_zero_iff.1 (by omega)
     simp (maxSteps:=1000000) only [m1,lN,m3,VG,n1,n2,cV,RD,mJ,j_,g,g1,wi,qz,wd,fJ,k_,az,aB,seval]
     intro _
     refine ⟨p,L,c,q,s,d0,d1,d2,d3,u,d,rfl,hG,hd,by simp,hy _ (by simp [j_,VG]),sm,?_⟩
     generalize bP L s d u c=X at F0 j3 ⊢
     obtain ⟨e,c'⟩:=X
     simp only at F0 j3 ⊢
     have hen:(e.tx []).length≤292:=by have:e.len=(e.tx []).length:=rfl; omega
     simp (maxSteps:=1000000) only [m1,lN,m3,VG,n1,n2,cV,RD,mJ,j_,g,g1,wi,qz,wd,fJ,k_,az,aB,seval]
     refine ⟨by simp only [List.length_append,List.length_cons]; omega,hQ (i+1,es++[e],c') _ _ ⟨by omega,by simp [j1],?_,by rw [j3]; simp⟩ ?_ (aa.aS _) (by simp only; omega)⟩
     ·rw [e0,List.nil_append,Kl]
      simp only; omega
     ·have e1:F.name++40::GE.cT es []++e.tx []=F.name++40::GE.cT (es++[e]) []:=by rw [e0,List.nil_append,Kl,GE.cT]; simp
      simp only [e1,az,aB,seval]
    ·have g1:((i:Int)>0)=True:=eq_true (by omega)
     have e0:es≠[]:=fun e=>p_ (by rw [e] at j1; exact j1.symm)
     simp (maxSteps:=1000000) only [m1,lN,m3,VG,n1,n2,cV,RD,mJ,j_,g,g1,wi,qz,wd,fJ,k_,az,aB,seval]
     intro _
     refine ⟨by simp only [List.length_append,List.length_cons]; omega,?_⟩
     refine ⟨p,L,c,q,s,d0,d1,d2,d3,u,d,rfl,hG,hd,by simp,hy _ (by simp [j_,VG]),sm,?_⟩
     generalize bP L s d u c=X at F0 j3 ⊢
     obtain ⟨e,c'⟩:=X
     simp only at F0 j3 ⊢
     have hen:(e.tx []).length≤292:=by have:e.len=(e.tx []).length:=rfl; omega
     simp (maxSteps:=1000000) only [m1,lN,m3,VG,n1,n2,cV,RD,mJ,j_,g,g1,wi,qz,wd,fJ,k_,az,aB,seval]
     refine ⟨by simp only [List.length_append,List.length_cons,List.length_nil]; omega,hQ (i+1,es++[e],c') _ _ ⟨by omega,by simp [j1],?_,by rw [j3]; simp⟩ ?_ (aa.aS _) (by simp only; omega)⟩
     ·rw [E3 e0]
      simp only [List.length_append,List.length_cons,List.length_nil]; omega
     ·have e1:F.name++40::GE.cT es []++[44,32]++e.tx []=F.name++40::GE.cT (es++[e]) []:=by rw [E3 e0]; simp
      simp only [e1,az,aB,seval]
   ·have e0:i=F.params.length:=by omega
    subst e0
    rw [List.drop_length,gR,List.append_nil] at j3
    rw [j3] at k
    simp only at k
    simp (maxSteps:=1000000) only [m1,lN,m3,VG,n1,n2,cV,RD,mJ,j_,Int.lt_irrefl,fJ,ag,ab,ax,k_,az,aB,seval]
    intro _
    refine ⟨by simp only [List.length_append,List.length_cons]; omega,.inl ⟨h.set p (mR L c),?_,?_⟩⟩
    ·exact aa.dL (by repeat' first | with_reducible exact aa.bF | with_reducible exact aa.bI | refine aa.cL (by simp [m1,lN,m2,nE,k1,k2]) ?_ | refine aa.cR (by simp [m1,lN,m2,nE,k1,k2]) ?_)
    ·have e1:F.name++40::GE.cT es []++[41]=(GE.call F.name es).tx []:=by rw [GE.tx,jX es [41]]; simp
     rw [e1]
     exact k
def Me (G:Nat):bf:=(SI G).j6 32 (XF G) (Ms G)
theorem TV {G:Nat}:(Me G).q=(SI G).q:=rfl
theorem TS {G:Nat}:(Me G).a=(SI G).a:=rfl
theorem TU {G:Nat} (g:FuncId) (args:List D) (h:aa) (K E:D→aa→Prop):(Me G).c g args h K E=if g=32 then XF G args h K E else (SI G).c g args h K E:=rfl
theorem cZ:type_of% (And.intro (And.intro @TV (And.intro @TS @TU)) @k_):=(And.intro (And.intro @TV (And.intro @TS @TU)) @k_)
end
end Go.Proofs.YtpklkpkfgmoghaaGreatDoor.Zz
