/- Programs of picks: how long their texts are at most. -/
import Derived.Test.YtpklkpkfgmoghaaGreatDoorZC31
import Derived.Test.YtpklkpkfgmoghaaGreatDoorZZF
import Derived.Test.YtpklkpkfgmoghaaGreatDoorZZH
set_option linter.unnecessarySimpa false
set_option linter.unusedVariables false
set_option linter.unusedSimpArgs false
set_option maxRecDepth 20000
namespace Go.Proofs.YtpklkpkfgmoghaaGreatDoor.Zz
noncomputable section
def eL:Nat→Nat
 | 0=>19
 | d+1=>2*eL d+20
theorem Ng (d:Nat):eL (d+1)=2*eL d+20:=rfl
theorem abw:∀d:Nat,19≤eL d
 | 0=>Nat.le_refl _
 | d+1=>by have:=abw d; rw [Ng]; omega
theorem abx {d:Nat} (h:d≤3):eL d≤292:=by
 match d,h with
 | 0,_=>decide
 | 1,_=>decide
 | 2,_=>decide
 | 3,_=>decide
theorem FC {x:List UInt8} (h:hZ x):x.length≤16:=by
 obtain ⟨c,w,rfl,_,_,_,h⟩:=h
 exact h
theorem ZP (t:Int):∀e∈lits t,e.len≤19:=by
 intro e he
 unfold lits at he
 split at he
 ·simp only [List.mem_cons,List.not_mem_nil,or_false] at he
  rcases he with rfl | rfl | rfl | rfl | rfl | rfl<;>(rw [GE.len,GE.tx]; decide)
 ·split at he
  ·simp only [List.mem_cons,List.not_mem_nil,or_false] at he
   rcases he with rfl | rfl | rfl | rfl | rfl | rfl<;>(rw [GE.len,GE.tx]; decide)
  ·simp only [List.mem_cons,List.not_mem_nil,or_false] at he
   rcases he with rfl | rfl<;>(rw [GE.len,GE.tx]; decide)
theorem Fv (L:List Int) (t:Int) (a:Nat):(nQ L t a).1.len≤19:=ZP t _ (kU (qO L (AB t) a))
theorem Gv {g:Int→Nat→GE×Nat} {B:Nat} (hg:∀t a,(g t a).1.len≤B):∀(l:List Int) (a:Nat),(iD g l a).1.length=l.length∧jU (iD g l a).1≤(2+B)*l.length
 | [],a=>⟨rfl,by rw [iD,jU]; omega⟩
 | t::r,a=>by
  obtain ⟨h1,h2⟩:=Gv hg r (g t a).2
  have:=hg t a
  rw [iD]
  simp only [List.length_cons,h1,jU,Nat.mul_succ,true_and]
  omega
def KP (B:Nat) (c:List UInt8×List GE):Prop:=c.1.length≤16∧c.2.length≤2∧jU c.2≤2*(2+B)
theorem zH {L:List Int} {s:Nm} (hs:jA s) {g:Int→Nat→GE×Nat} {B:Nat} (hg:∀t a,(g t a).1.len≤B) (t:Int) (a:Nat) (c:List UInt8×List GE) (b:Nat) (h:jB L s g t a=(some c,b)):KP B c:=by
 unfold jB at h
 split at h
 ·cases h
 ·rename_i f r hf
  simp only [Prod.mk.injEq,Option.some.injEq] at h
  obtain ⟨rfl,_⟩:=h
  have hm:(f::r).getD (bD L ((f::r).length:Nat) a).1.toNat f∈s.funcs:=by
   have:=kU (x:=f) (qO L (n:=(f::r).length) (by simp) a)
   rw [←hf] at this ⊢
   exact (List.mem_filter.1 this).1
  obtain ⟨h1,h2,h3⟩:=hs.fn _ hm
  generalize (f::r).getD (bD L ((f::r).length:Nat) a).1.toNat f=F at h1 h2 h3 ⊢
  obtain ⟨e1,e2⟩:=Gv hg F.params (bD L ((f::r).length:Nat) a).2
  refine ⟨FC h1,by show (iD g F.params _).1.length≤2; rw [e1]; exact h3,Nat.le_trans e2 ?_⟩
  rw [Nat.mul_comm]
  exact Nat.mul_le_mul_right _ h3
theorem UG (x:List UInt8) (l:List GE):(GE.call x l).len+(if l=[] then 0 else 2)=x.length+2+jU l:=by
 have:=F3 l [41]
 rw [GE.len,GE.tx,List.length_append,List.length_cons]
 simp only [List.length_singleton] at this
 omega
theorem M1 {B:Nat} {c:List UInt8×List GE} (h:KP B c):(GE.call c.1 c.2).len≤2*B+20:=by
 obtain ⟨x,l⟩:=c
 obtain ⟨h1,h2,h3⟩:=h
 simp only at h1 h2 h3 ⊢
 have:=UG x l
 by_cases c:l=[]
 ·subst c
  rw [jU] at this
  rw [if_pos rfl] at this
  omega
 ·rw [if_neg c] at this
  omega
theorem af4 {s:List UInt8} (e:GE):(GE.un s e).len=s.length+e.len:=by
 rw [GE.len,GE.tx,List.length_append]; rfl
theorem UK (t:Int) (e:GE):(GE.conv t e).len=(if t=1 then pS else ib).length+2+e.len:=by
 rw [GE.len,GE.tx,List.length_append,List.length_cons,iB]
 simp only [List.length_cons,List.length_nil]
 omega
theorem EY {s:List UInt8} (a b:GE):(GE.bin s a b).len=4+s.length+a.len+b.len:=by
 rw [GE.len,GE.tx,List.length_cons,iB,List.length_cons,List.length_append,List.length_cons,iB]
 simp only [List.length_cons,List.length_nil]
 omega
theorem RB (x:List UInt8):(GE.var x).len=x.length:=by rw [GE.len,GE.tx,List.append_nil]
theorem Fs (x:List UInt8):(GE.int x).len=x.length:=by rw [GE.len,GE.tx,List.append_nil]
theorem Yp {B:Nat} {s:List UInt8} (hs:s.length≤1) {e:GE} (h:e.len≤B):(GE.un s e).len≤2*B+20:=by rw [af4]; omega
theorem M9 {B:Nat} {t:Int} {e:GE} (h:e.len≤B):(GE.conv t e).len≤2*B+20:=by
 rw [UK]
 have:(if t=1 then pS else ib).length≤5:=by split<;>decide
 omega
theorem oz:∀s∈pz,s.length≤2:=by decide
theorem yI {L:List Int} {g:Int→Nat→GE×Nat} {B:Nat} (hg:∀t a,(g t a).1.len≤B) (u:Int) {ops:List (List UInt8)} (h0:ops≠[]) (ho:∀s∈ops,s∈pz) (a:Nat):(zA L g u ops a).1.len≤2*B+20:=by
 show (GE.bin _ _ _).len≤_
 rw [EY]
 have h1:=oz _ (ho _ (fk L h0 (g u a).2))
 have h2:=hg u a
 have h3:=hg u (fA L ops (g u a).2).2
 omega
theorem II {L:List Int} {g:Int→Nat→GE×Nat} {B:Nat} (hg:∀t a,(g t a).1.len≤B) (t k:Int) (a:Nat):(q_ L g t k a).1.len≤2*B+20:=by
 unfold q_
 split
 ·split
  ·exact M9 (hg _ _)
  ·split
   ·exact Yp (by decide) (hg _ _)
   ·exact yI hg _ (by decide) (by decide) _
 ·split
  ·split
   ·exact M9 (hg _ _)
   ·split
    ·exact Yp (by decide) (hg _ _)
    ·exact yI hg _ (by decide) (by decide) _
  ·split
   ·exact Yp (by decide) (hg _ _)
   ·split
    ·exact yI hg _ (by decide) (by decide) _
    ·exact yI hg _ (by decide) (by decide) _
theorem fY {L:List Int} {s:Nm} (hs:jA s):∀(d:Nat) (t:Int) (a:Nat),(b_ L s d t a).1.len≤eL d
 | 0,t,a=>by rw [b_]; exact Fv L t _
 | d+1,t,a=>by
  have hg:=fun t a=>fY (L:=L) hs d t a
  have h19:=abw d
  rw [b_,Ng]
  split
  ·exact Nat.le_trans (Fv L t _) (by omega)
  ·split
   ·rename_i h
    have:=FC (hs.var t _ (fk L h.2 (bD L 8 a).2)).1
    rw [RB]
    omega
   ·split
    ·split
     ·rename_i c b hc
      exact M1 (zH hs hg t _ _ _ hc)
     ·exact II hg _ _ _
    ·exact II hg _ _ _
def bL:Nat→Nat
 | 0=>903
 | d+1=>903+6*bL d
def qL:Nat→Nat
 | 0=>301
 | d+1=>301+2*bL d
theorem r7 {n:Nat} (h:n<10):(bM n).length=1:=by unfold bM; rw [kW h]; rfl
theorem ahb {c:List UInt8×List GE} {B:Nat} (h:KP B c):(GS.Fa c.1 c.2).ln≤2*B+21:=by
 obtain ⟨x,l⟩:=c
 obtain ⟨h1,h2,h3⟩:=h
 simp only at h1 h2 h3 ⊢
 have:=VL x l
 by_cases c:l=[]
 ·subst c
  rw [jU] at this
  rw [if_pos rfl] at this
  omega
 ·rw [if_neg c] at this
  omega
theorem sn {L:List Int} {blk:Nm→Nat→List GS×Nat} {dp:Nat} {test:Bool} (Vl:dp≤2) (hb:∀d,dp=d+1→∀s a,jA s→s.fresh+3+3*d≤20→sl (blk s a).1≤bL d):
  ∀(n:Nat) (s:Nm) (a:Nat),jA s→s.fresh+n+3*dp≤20→sl (eE L blk dp test n s a).1≤n*qL dp
 | 0,s,a,hs,hf=>by rw [eE,vZ]; omega
 | n+1,s,a,hs,hf=>by
  have ih:=sn (L:=L) (test:=test) Vl hb n
  have he:∀(s:Nm),jA s→∀t a,(b_ L s 2 t a).1.len≤136:=fun s hs t a=>fY (L:=L) hs 2 t a
  have nv:=ZV Vl (f:=s.fresh+1) (by omega)
  have ho:301≤qL dp:=by
   unfold qL
   split<;>omega
  rw [eE,Nat.succ_mul]
  simp only
  split
  ·have h1:=hs.fresh (s.fresh+1)
   have h2:=he _ h1 (bD L 3 (bD L 7 a).2).1 (bD L 3 (bD L 7 a).2).2
   have h3:=ih _ (b_ L { s with fresh:=s.fresh+1 } 2 (bD L 3 (bD L 7 a).2).1 (bD L 3 (bD L 7 a).2).2).2 (h1.with nv.1.1 nv.1.2 (bD L 3 (bD L 7 a).2).1) (by rw [eF]; simp only; omega)
   have h4:=FC nv.1.1
   rw [gG,Fz]
   omega
  ·split
   ·split
    ·exact Nat.le_trans (ih _ _ hs (by omega)) (by omega)
    ·rename_i h0
     have h1:=FC (hs.var _ _ (fk L h0 (bD L 3 (bD L 7 a).2).2)).1
     have h2:=he s hs (bD L 3 (bD L 7 a).2).1 (fA L (s.of (bD L 3 (bD L 7 a).2).1) (bD L 3 (bD L 7 a).2).2).2
     have h3:=ih s (b_ L s 2 (bD L 3 (bD L 7 a).2).1 (fA L (s.of (bD L 3 (bD L 7 a).2).1) (bD L 3 (bD L 7 a).2).2).2).2 hs (by omega)
     rw [gG,Fx]
     omega
   ·split
    ·rename_i h
     obtain ⟨d,rfl⟩:∃d,dp=d+1:=⟨dp - 1,by omega⟩
     have h2:=he s hs 2 (bD L 7 a).2
     have h3:=hb d rfl s (b_ L s 2 2 (bD L 7 a).2).2 hs (by omega)
     have ho:qL (d+1)=301+2*bL d:=rfl
     split
     ·have h4:=hb d rfl s (bD L 2 (blk s (b_ L s 2 2 (bD L 7 a).2).2).2).2 hs (by omega)
      have h5:=ih s (blk s (bD L 2 (blk s (b_ L s 2 2 (bD L 7 a).2).2).2).2).2 hs (by omega)
      rw [gG,VM]
      omega
     ·have h5:=ih s (bD L 2 (blk s (b_ L s 2 2 (bD L 7 a).2).2).2).2 hs (by omega)
      rw [gG,VN]
      omega
    ·split
     ·rename_i h
      obtain ⟨d,rfl⟩:∃d,dp=d+1:=⟨dp - 1,by omega⟩
      have h1:=hs.fresh (s.fresh+1)
      have HH:=hb d rfl _ (bD L 4 (bD L 7 a).2).2 (h1.with nv.2.1 nv.2.2 0) (by rw [eF]; simp only; omega)
      have hr:=ih { s with fresh:=s.fresh+1 } (blk ({ s with fresh:=s.fresh+1 }.with ([105]++bM (d+1)++[120]++bM (s.fresh+1)) 0) (bD L 4 (bD L 7 a).2).2).2 h1 (by simp only; omega)
      have hq:(bD L 4 (bD L 7 a).2).1.toNat<10:=by have:=bY L (n:=4) (by decide) (bD L 7 a).2; omega
      have hx:=FC nv.2.1
      have ho:qL (d+1)=301+2*bL d:=rfl
      rw [gG,gG,Fz,NT,vY,gG,vZ,Fx,EY,EY,Fs,Fs,Fs,RB,r7 hq]
      simp only [List.length_cons,List.length_nil] at hx ⊢
      omega
     ·split
      ·have h2:(b_ L s 3 2 (bD L 7 a).2).1.len≤292:=fY hs 3 2 (bD L 7 a).2
       have h3:=ih s (b_ L s 3 2 (bD L 7 a).2).2 hs (by omega)
       rw [gG,Fy]
       omega
      ·split
       ·split
        ·rename_i c b hc
         have h2:=ahb (zH hs (fun t a=>fY (L:=L) hs 1 t a) _ _ _ _ hc)
         have h3:=ih s b hs (by omega)
         have h4:eL 1=58:=rfl
         rw [gG]
         omega
        ·exact Nat.le_trans (ih _ _ hs (by omega)) (by omega)
       ·have h3:=ih s (bD L 7 a).2 hs (by omega)
        rw [gG,NU]
        omega
theorem jG {L:List Int} {test:Bool}:∀(d:Nat),d≤2→∀(s:Nm) (a:Nat),jA s→s.fresh+3+3*d≤20→sl (dM L test d s a).1≤bL d
 | 0,hd,s,a,hs,hf=>by
  have hn:=bY L (n:=4) (by decide) a
  rw [dM]
  refine Nat.le_trans (sn (by omega) (fun d h=>by omega) _ _ _ hs (by omega)) ?_
  exact Nat.mul_le_mul_right 301 (show (bD L 4 a).1.toNat≤3 by omega)
 | d+1,hd,s,a,hs,hf=>by
  have hn:=bY L (n:=4) (by decide) a
  rw [dM]
  refine Nat.le_trans (sn (by omega) (fun e h s a hs hf=>by
   obtain rfl:d=e:=by omega
   exact jG d (by omega) s a hs hf) _ _ _ hs (by omega)) ?_
  refine Nat.le_trans (Nat.mul_le_mul_right _ (show (bD L 4 a).1.toNat≤3 by omega)) ?_
  show 3*(301+2*bL d)≤903+6*bL d
  omega
end
end Go.Proofs.YtpklkpkfgmoghaaGreatDoor.Zz
namespace Go.Proofs.YtpklkpkfgmoghaaGreatDoor.Zz
noncomputable section
def am5:cm:=⟨⟨[],[(9,4)],[],[],[],[]⟩,[],[],false⟩
def ai5:dU:=
 sO [oP (.cB (kS [])) 4]
 (.seq (sO [oM 1 10,
 oH .eql 10 10 11]
 (.cond (.t 11)
 (.seq (sO [oM 0 12,
 oP (.bin .leq (kI 0) (.t 12)) 13,
 oM 13 14,
 oG (.cB (.t 0)) 15 14 true true,
 oG (.bin .lss (.t 15) (kI 100)) 16 14 true true,
 oP (.pick (.t 14) (.t 16) (kB false)) 17]
 (.cond (.t 17)
 (sO [oM 0 18,
 oD 73 [.t 18] 19,
 oM 19 4]
 (.ret))
 (.skip)))
 (sO [oQ (.alloc [(.int .u8 0),(.int .u8 0),(.int .u8 0),(.int .u8 0),(.int .u8 0),(.int .u8 0),(.int .u8 0),(.int .u8 0),(.int .u8 0),(.int .u8 0),(.int .u8 0),(.int .u8 0),(.int .u8 0),(.int .u8 0),(.int .u8 0),(.int .u8 0),(.int .u8 0),(.int .u8 0),(.int .u8 0),(.int .u8 0),(.int .u8 0),(.int .u8 0),(.int .u8 0),(.int .u8 0)]) 5]
 (sO [oM 0 20,
 oP (.conv (.qJ .u64) (.t 20)) 21,
 oM 21 6]
 (.seq (sO [oM 0 22,
 oH .lss 22 0 23]
 (.cond (.t 23)
 (.ops [oM 6 24,
 oP (.un .neg (.t 24)) 25,
 oM 25 6])
 (.skip)))
 (sO [oM 6 26,
 oD 74 [.t 26] 27,
 oM 27 7]
 (sO [oM 7 28,
 oP (.bin .add (kI 1) (.t 28)) 29,
 oQ (.slice (.arr 24) (.t 5) (some (kI 1)) (some (.t 29)) none) 30,
 oM 6 31,
 oC 75 [.t 30,.t 31] 32]
 (.seq (sO [oM 0 33,
 oH .lss 33 0 34]
 (.cond (.t 34)
 (sO [oP (.hU 24 1 (.t 5) (kI 0)) 35,
 oU (.store 1 (.t 35) (.c (.int .u8 45)))]
 (sO [oM 7 36,
 oP (.bin .add (kI 1) (.t 36)) 37,
 oQ (.slice (.arr 24) (.t 5) none (some (.t 37)) none) 38,
 oQ (.conv .eX (.t 38)) 39,
 oM 39 4]
 (.ret)))
 (.skip)))
 (sO [oM 7 40,
 oP (.bin .add (kI 1) (.t 40)) 41,
 oQ (.slice (.arr 24) (.t 5) (some (kI 1)) (some (.t 41)) none) 42,
 oQ (.conv .eX (.t 42)) 43,
 oM 43 4]
 (.ret)))))))))
 (.skip)))
 (sO [oM 0 45,
 oP (.conv (.qJ .u64) (.t 45)) 46,
 oM 1 47,
 oM 0 48,
 oH .lss 48 0 49,
 oD 76 [.c .aZ,.t 46,.t 47,.t 49,kB false] 50,
 oM 50 44,
 oX 44 0 51,
 oX 44 1 52,
 oM 51 8,
 oM 52 9]
 (sO [oM 9 53,
 oM 53 4]
 (.ret))))
theorem ajP:bA Tryz.prog 47 am5=some (ai5,[.tmp 4],54):=by kernel_rfl
def amU:cm:=⟨⟨[],[],[],[],[],[]⟩,[],[],false⟩
def aiW:dU:=
 sO [oP (.cB (kS [])) 2]
 (sO [oM 0 3,
 oD 47 [.t 3,kI 10] 4,
 oM 4 2]
 (.ret))
theorem ajF:bA Tryz.prog 30 amU=some (aiW,[.tmp 2],5):=by kernel_rfl
def amE:cm:=⟨⟨[],[],[],[],[],[]⟩,[],[],false⟩
def aiP:dU:=
 sO [oP (.cB (kS [])) 2]
 (sO [oM 0 3,
 oD 30 [.t 3] 4,
 oM 4 2]
 (.ret))
theorem ajt:bA Tryz.prog 14 amE=some (aiP,[.tmp 2],5):=by kernel_rfl
def amC:cm:=⟨⟨[],[],[(3,8)],[],[],[]⟩,[(1,[0,1,2,3,4,5,6,7,8,9,10,11,12,13,14,15,16]),(3,[0,1,2,3,4,5,6,7,8,9,10,11,12,13,14,15,16])],[],false⟩
def aaH:dU:=
 sO [oP (.cB (kI 0)) 4]
 (.seq (.seq (.fS 6 [oM 0 6,
 oN 6 7,
 oF 1 7 8,
 oL 8 9,
 oM 0 10,
 oN 10 11,
 oF 0 11 12,
 oL 12 13,
 oP (.tl .sl (.t 13)) 14,
 oE .geq 9 14 15,
 oM 15 16,
 oG (.cB (.t 0)) 17 16 false true,
 oG (.nilCheck (.t 17)) 18 16 false true,
 oG (.fieldAddr 1 (.t 18)) 19 16 false true,
 oG (.load none (.t 19)) 20 16 false false,
 oG (.bin .gtr (.t 20) (kI 3000)) 21 16 false true,
 oP (.pick (.t 16) (kB true) (.t 21)) 22])
 (.cond (.t 22)
 (sO [oP (.cB (kI 0)) 4]
 (.ret))
 (.skip)))
 (.seq (.fS 5 [oM 0 23,
 oN 23 24,
 oF 0 24 25,
 oL 25 26,
 oM 0 27,
 oN 27 28,
 oF 1 28 29,
 oL 29 30,
 oI 1 26 30 31,
 oL 31 32,
 oM 1 33,
 oE .rem 32 33 34,
 oM 1 35,
 oE .add 34 35 36,
 oM 1 37,
 oE .rem 36 37 38,
 oM 38 5])
 (sO [oM 0 39,
 oN 39 40,
 oF 1 40 41,
 oL 41 42,
 oH .add 42 1 43,
 oN 39 44,
 oF 1 44 45,
 oS 1 45 43]
 (sO [oM 5 46,
 oM 46 4]
 (.ret)))))
theorem ajr:bA Tryz.prog 13 amC=some (aaH,[.tmp 4],47):=by kernel_rfl
def amG:cm:=⟨⟨[],[],[],[],[],[]⟩,[],[],false⟩
def aaI:dU:=
 sO [oP (.cB (kS [])) 2]
 (sO [oP (.buildSlice 1 [(.str [])] 3 [(0,(kS [105,110,116])),(1,(kS [102,108,111,97,116])),(2,(kS [98,111,111,108]))] false) 3,
 oM 0 4,
 oI 1 3 4 5,
 oL 5 6,
 oM 6 2]
 (.ret))
theorem ajv:bA Tryz.prog 15 amG=some (aaI,[.tmp 2],7):=by kernel_rfl
def amH:cm:=⟨⟨[],[(3,2),(5,2),(6,2)],[],[],[],[]⟩,[],[],false⟩
def aaJ:dU:=
 sO [oP (.cB (kS [])) 4]
 (.seq (sO [oM 1 5]
 (.block 0 (sO [oH .eql 5 0 7,
 oM 7 6]
 (.cond (.t 6)
 (sO [oP (.buildSlice 1 [(.str [])] 6 [(0,(kS [48])),(1,(kS [49])),(2,(kS [50])),(3,(kS [51])),(4,(kS [55])),(5,(kS [57,50,50,51,51,55,50,48,51,54,56,53,52,55,55,53,56,48,55]))] false) 8,
 oM 0 9,
 oC 13 [.t 9,kI 6] 10,
 oI 1 8 10 11,
 oL 11 12,
 oM 12 4]
 (.ret))
 (sO [oH .eql 5 1 14,
 oM 14 13]
 (.cond (.t 13)
 (sO [oP (.buildSlice 1 [(.str [])] 6 [(0,(kS [48,46,48])),(1,(kS [49,46,48])),(2,(kS [48,46,53])),(3,(kS [50,46,50,53])),(4,(kS [49,48,48,48,48,48,48,46,48])),(5,(kS [48,46,49]))] false) 15,
 oM 0 16,
 oC 13 [.t 16,kI 6] 17,
 oI 1 15 17 18,
 oL 18 19,
 oM 19 4]
 (.ret))
 (.skip)))))))
 (sO [oP (.buildSlice 1 [(.str [])] 2 [(0,(kS [116,114,117,101])),(1,(kS [102,97,108,115,101]))] false) 20,
 oM 0 21,
 oC 13 [.t 21,kI 2] 22,
 oI 1 20 22 23,
 oL 23 24,
 oM 24 4]
 (.ret)))
theorem ajw:bA Tryz.prog 16 amH=some (aaJ,[.tmp 4],25):=by kernel_rfl
def amW:cm:=⟨⟨[],[],[],[],[],[]⟩,[],[],false⟩
def aaL:dU:=
 sO [oP (.cB (.c .aZ)) 4]
 (.seq (sO [oM 1 5]
 (.block 0 (sO [oH .eql 5 0 7,
 oM 7 6]
 (.cond (.t 6)
 (sO [oM 0 8,
 oN 8 9,
 oF 0 9 10,
 oL 10 11,
 oM 11 4]
 (.ret))
 (sO [oH .eql 5 1 13,
 oM 13 12]
 (.cond (.t 12)
 (sO [oM 0 14,
 oN 14 15,
 oF 1 15 16,
 oL 16 17,
 oM 17 4]
 (.ret))
 (.skip)))))))
 (sO [oM 0 18,
 oN 18 19,
 oF 2 19 20,
 oL 20 21,
 oM 21 4]
 (.ret)))
theorem ajH:bA Tryz.prog 31 amW=some (aaL,[.tmp 4],22):=by kernel_rfl
def amI:cm:=⟨⟨[(4,0),(6,0),(2,0)],[],[],[],[],[]⟩,[],[],false⟩
def aaK:dU:=
 sO [oQ (.box (.t 0)) 3,
 oQ (.alloc [.aZ,.aZ,.aZ,.aZ,(.int .i64 0)]) 6]
 (.seq (sO [oM 2 7]
 (.block 0 (sO [oH .eql 7 0 17,
 oM 17 16]
 (.cond (.t 16)
 (.ops [oQ (.buildSlice 1 [(.str [])] 0 [] true) 18,
 oF 0 3 19,
 oL 19 20,
 oQ (.append 1 16 false (.t 18) (.t 20)) 21,
 oM 1 22,
 oP (.buildSlice 1 [(.str [])] 1 [(0,(.t 22))] false) 23,
 oQ (.append 1 16 false (.t 21) (.t 23)) 24,
 oF 0 3 25,
 oS 1 25 24])
 (sO [oH .eql 7 1 27,
 oM 27 26]
 (.cond (.t 26)
 (.ops [oQ (.buildSlice 1 [(.str [])] 0 [] true) 28,
 oF 1 3 29,
 oL 29 30,
 oQ (.append 1 16 false (.t 28) (.t 30)) 31,
 oM 1 32,
 oP (.buildSlice 1 [(.str [])] 1 [(0,(.t 32))] false) 33,
 oQ (.append 1 16 false (.t 31) (.t 33)) 34,
 oF 1 3 35,
 oS 1 35 34])
 (.ops [oQ (.buildSlice 1 [(.str [])] 0 [] true) 8,
 oF 2 3 9,
 oL 9 10,
 oQ (.append 1 16 false (.t 8) (.t 10)) 11,
 oM 1 12,
 oP (.buildSlice 1 [(.str [])] 1 [(0,(.t 12))] false) 13,
 oQ (.append 1 16 false (.t 11) (.t 13)) 14,
 oF 2 3 15,
 oS 1 15 14])))))))
 (sO [oJ 5 3 36,
 oS 5 6 36]
 (.ret)))
theorem ajx:bA Tryz.prog 17 amI=some (aaK,[.cell 6 (some 5)],37):=by kernel_rfl
theorem ahj (n:Int) (h:0≤n∧n<100):aV Tryz.prog 47 [.int .i64 n,.int .i64 10] (.str (bM n.toNat)):=by
 have g1:(0≤n)=True:=eq_true h.1
 have g2:(n<100)=True:=eq_true h.2
 have e:bM n.toNat=Lib.decDigits n.toNat:=by
  rw [bM,Lib.itoa,if_neg (by omega)]
  rfl
 rw [e]
 refine aV.run JU ajP (by simp) fun E=>?_
 simp only [ai5,g1,g2,Wm,and_self,if_true,F0,aA,seval]
def Wj:List D→Option D
 | [.int .i64 n,.int .i64 10]=>if 0≤n∧n<100 then some (.str (bM n.toNat)) else none
 | _=>none
theorem aao (args:List D) (d:D) (h:Wj args=some d):aV Tryz.prog 47 args d:=by
 unfold Wj at h
 split at h
 ·split at h
  ·cases h; exact ahj _ (by assumption)
  ·cases h
 ·cases h
def xH:bh:=xN.dR 47 Wj
theorem Py (g:FuncId) (args:List D):xH.q g args=if g=47 then Wj args else xN.q g args:=rfl
theorem Pw:xH.a=xN.a:=rfl
theorem Px:xH.c=xN.c:=rfl
theorem JS:xH.ok Tryz.prog:=bh.bE JU aao
theorem FZ:type_of% (And.intro (And.intro @Py (And.intro @Pw @Px)) @F0):=(And.intro (And.intro @Py (And.intro @Pw @Px)) @F0)
theorem ZK (n:Int) (h:0≤n∧n<100):aV Tryz.prog 30 [.int .i64 n] (.str (bM n.toNat)):=by
 refine aV.run JS ajF (by simp) fun E=>?_
 simp only [aiW,Wj,h,and_self,if_true,FZ,aA,seval]
def Wg:List D→Option D
 | [.int .i64 n]=>if 0≤n∧n<100 then some (.str (bM n.toNat)) else none
 | _=>none
theorem aak (args:List D) (d:D) (h:Wg args=some d):aV Tryz.prog 30 args d:=by
 unfold Wg at h
 split at h
 ·split at h
  ·cases h; exact ZK _ (by assumption)
  ·cases h
 ·cases h
def xz:bh:=xH.dR 30 Wg
theorem O5 (g:FuncId) (args:List D):xz.q g args=if g=30 then Wg args else xH.q g args:=rfl
theorem O3:xz.a=xH.a:=rfl
theorem O4:xz.c=xH.c:=rfl
theorem JL:xz.ok Tryz.prog:=bh.bE JS aak
theorem FY:type_of% (And.intro (And.intro @O5 (And.intro @O3 @O4)) @FZ):=(And.intro (And.intro @O5 (And.intro @O3 @O4)) @FZ)
theorem ZL (n:Int) (h:0≤n∧n<100):aV Tryz.prog 14 [.int .i64 n] (.str (bM n.toNat)):=by
 refine aV.run JL ajt (by simp) fun E=>?_
 simp only [aiP,Wg,h,and_self,if_true,FY,aA,seval]
def vU:List D→Option D
 | [.int .i64 n]=>if 0≤n∧n<100 then some (.str (bM n.toNat)) else none
 | _=>none
theorem aac (args:List D) (d:D) (h:vU args=some d):aV Tryz.prog 14 args d:=by
 unfold vU at h
 split at h
 ·split at h
  ·cases h; exact ZL _ (by assumption)
  ·cases h
 ·cases h
def xm:bh:=xz.dR 14 vU
theorem Ow (g:FuncId) (args:List D):xm.q g args=if g=14 then vU args else xz.q g args:=rfl
theorem Ot:xm.a=xz.a:=rfl
theorem Ou:xm.c=xz.c:=rfl
theorem WQ:xm.ok Tryz.prog:=bh.bE JL aac
theorem Ov:type_of% (And.intro (And.intro @Ow (And.intro @Ot @Ou)) @FY):=(And.intro (And.intro @Ow (And.intro @Ot @Ou)) @FY)
def qa (L:List Int) (a:Nat):cJ:=.cells [.sl (gV L),.int .i64 (a:Int)]
def cNx (args:List D) (h:aa) (K:D→aa→Prop):Prop:=∃(p:Nat) (L:List Int) (a:Nat) (n:Int),args=[.ptr p 1 0,.int .i64 n]∧h.f p=some (qa L a)∧0<n∧n≤1000000∧K (.int .i64 (bD L n a).1) (h.set p (qa L (bD L n a).2))
theorem Uw (args:List D) (h:aa) (K K':D→aa→Prop) (hk:∀d h,K d h→K' d h) (c:cNx args h K):cNx args h K':=by
 obtain ⟨p,L,a,n,x,y,z,z2,k⟩:=c
 exact ⟨p,L,a,n,x,y,z,z2,hk _ _ k⟩
theorem Bq {h:aa} {id:Nat} {o:cJ} (e:h.f id=some o):h.set id o=h:=aa.ext fun q=>by
 simp only [aa.b9]
 split
 ·rename_i c; subst c; exact e.symm
 ·rfl
theorem ML (x:Int) {n:Int} (h:0<n): -n<x.tmod n∧x.tmod n<n:=⟨Int.lt_tmod_of_pos x h,Int.tmod_lt_of_pos x h⟩
theorem adG (args:List D) (h:aa) (K:D→aa→Prop) (c:cNx args h K):aH Tryz.prog 13 args h fun o h'=>∃d,o=.ret d∧K d h':=by
 obtain ⟨p,L,a,n,rfl,hp,h0,h1,k⟩:=c
 refine aH.VS (bh.dJ _) ajr (by simp) ?_
 unfold bD at k
 unfold qa at hp k
 by_cases ca:a≥L.length
 ·have g1:((a:Int)≥(L.length:Int))=True:=eq_true (by omega)
  rw [if_pos (.inl ca),Bq hp] at k
  simp (maxSteps:=1000000) only [aaH,hp,g1,il,iU,aA,seval]
  exact ⟨h,aa.aj h,k⟩
 ·have g1:((a:Int)≥(L.length:Int))=False:=eq_false (by omega)
  by_cases cb:a>3000
  ·have g2:((a:Int)>3000)=True:=eq_true (by omega)
   rw [if_pos (.inr cb),Bq hp] at k
   simp (maxSteps:=1000000) only [aaH,hp,g1,g2,il,iU,aA,seval]
   exact ⟨h,aa.aj h,k⟩
  ·have g2:((a:Int)>3000)=False:=eq_false (by omega)
   rw [if_neg (by omega)] at k
   obtain ⟨x,hx⟩:∃x,L[a]? =some x:=⟨_,List.getElem?_eq_getElem (by omega)⟩
   have hd:L.getD a 0=x:=by rw [List.getD_eq_getElem?_getD,hx]; rfl
   rw [hd] at k
   have t1:=ML x h0
   have w1:IntKind.i64.wrap (x.tmod n+n)=x.tmod n+n:=wrap_i64 (by omega) (by omega)
   have w2:IntKind.i64.wrap ((a:Int)+1)=((a+1:Nat):Int):=cp (by omega)
   have n0:(n=0)=False:=eq_false (by omega)
   have ai:∀(K:D→aa→Prop) (h:aa),fx 1 K h (gV L) (a:Int)=K (.cO [.int .i64 x] 0) h:=fun K h=>by
    rw [RN]
    apply propext
    constructor
    ·intro hh; exact hh.2 x (by simpa using hx)
    ·intro hh
     refine ⟨⟨by omega,by omega⟩,fun y hy=>?_⟩
     rw [Int.toNat_natCast,hx] at hy
     cases hy
     exact hh
   simp (maxSteps:=1000000) only [aaH,hp,g1,g2,ai,w1,w2,n0,il,iU,aA,seval]
   exact ⟨_,aa.aj _,k⟩
def xj:bh:=xm.sv 13 cNx Uw
theorem Oq:xj.q=xm.q:=rfl
theorem On:xj.a=xm.a:=rfl
theorem Oo (g:FuncId) (args:List D) (h:aa) (K E:D→aa→Prop):xj.c g args h K E=if g=13 then cNx args h K else xm.c g args h K E:=rfl
theorem JG:xj.ok Tryz.prog:=bh.lL WQ adG
theorem uM:type_of% (And.intro (And.intro @Oq (And.intro @On @Oo)) @Ov):=(And.intro (And.intro @Oq (And.intro @On @Oo)) @Ov)
theorem tR {sz:Nat} {K:D→aa→Prop} {h:aa} {xs:List (List D)} {i:Int} {x:List D} (h0:0≤i) (hx:xs[i.toNat]? =some x) (hl:x.length=sz):fx sz K h xs i=K (.cO x 0) h:=by
 have:=(List.getElem?_eq_some_iff.1 hx).1
 unfold fx
 apply propext
 constructor
 ·intro hh; exact (hh.2 _ hx).2
 ·intro hh
  refine ⟨⟨h0,by omega⟩,fun y hy=>?_⟩
  rw [hx] at hy
  cases hy
  exact ⟨hl,hh⟩
theorem Yi (t:Int) (h:0≤t∧t<3):aV Tryz.prog 15 [.int .i64 t] (.str (jE (t+1))):=by
 refine aV.run JG ajv (by simp) fun E=>?_
 have:t=0∨t=1∨t=2:=by omega
 rcases this with rfl | rfl | rfl
 ·have j:=fun (K:D→aa→Prop) (g:aa)=>tR (sz:=1) (K:=K) (h:=g) (xs:=[[.str [105,110,116]],[.str [102,108,111,97,116]],[.str [98,111,111,108]]]) (x:=[.str [105,110,116]]) h.1 rfl rfl
  simp only [aaI,j,uM,aA,seval]
  exact .inl rfl
 ·have j:=fun (K:D→aa→Prop) (g:aa)=>tR (sz:=1) (K:=K) (h:=g) (xs:=[[.str [105,110,116]],[.str [102,108,111,97,116]],[.str [98,111,111,108]]]) (x:=[.str [102,108,111,97,116]]) h.1 rfl rfl
  simp only [aaI,j,uM,aA,seval]
  exact .inl rfl
 ·have j:=fun (K:D→aa→Prop) (g:aa)=>tR (sz:=1) (K:=K) (h:=g) (xs:=[[.str [105,110,116]],[.str [102,108,111,97,116]],[.str [98,111,111,108]]]) (x:=[.str [98,111,111,108]]) h.1 rfl rfl
  simp only [aaI,j,uM,aA,seval]
  exact .inl rfl
def Mh:List D→Option D
 | [.int .i64 t]=>if 0≤t∧t<3 then some (.str (jE (t+1))) else none
 | _=>none
theorem aad (args:List D) (d:D) (h:Mh args=some d):aV Tryz.prog 15 args d:=by
 unfold Mh at h
 split at h
 ·split at h
  ·cases h; exact Yi _ (by assumption)
  ·cases h
 ·cases h
def xq:bh:=xj.dR 15 Mh
theorem Oz (g:FuncId) (args:List D):xq.q g args=if g=15 then Mh args else xj.q g args:=rfl
theorem Ox:xq.a=xj.a:=rfl
theorem Oy:xq.c=xj.c:=rfl
theorem JH:xq.ok Tryz.prog:=bh.bE JG aad
theorem nu:type_of% (And.intro (And.intro @Oz (And.intro @Ox @Oy)) @uM):=(And.intro (And.intro @Oz (And.intro @Ox @Oy)) @uM)
theorem tT {α:Type} (L:List Int) {l:List α} (z:α) (f:α→List UInt8) (hl:0<l.length) (b:Nat) (K:D→aa→Prop) (h:aa):fx 1 K h (l.map fun x=>[.str (f x)]) (bD L l.length b).1=K (.cO [.str (f (l.getD (bD L l.length b).1.toNat z))] 0) h:=by
 have hr:=bY L (show (0:Int)<l.length by omega) b
 have ig:(bD L l.length b).1.toNat<l.length:=by omega
 rw [n9 (f:=fun x=>[D.str (f x)]) (fun _=>rfl)]
 have e:l[(bD L l.length b).1.toNat]? =some (l.getD (bD L l.length b).1.toNat z):=by
  rw [List.getD_eq_getElem?_getD,List.getElem?_eq_getElem ig]; rfl
 apply propext
 constructor
 ·intro hh; exact hh.2 _ e
 ·intro hh
  refine ⟨hr,fun y hy=>?_⟩
  rw [e] at hy
  cases hy
  exact hh
theorem rN {α:Type} (L:List Int) {l:List α} (z:α) (f:α→List UInt8) (hl:0<l.length) (b:Nat):ew (.aS 1 (.sl (l.map fun x=>[.str (f x)])) (.int .i64 (bD L l.length b).1))=some (.cO [.str (f (l.getD (bD L l.length b).1.toNat z))] 0):=by
 have hr:=bY L (show (0:Int)<l.length by omega) b
 have ig:(bD L l.length b).1.toNat<l.length:=by omega
 have e:l[(bD L l.length b).1.toNat]? =some (l.getD (bD L l.length b).1.toNat z):=by
  rw [List.getD_eq_getElem?_getD,List.getElem?_eq_getElem ig]; rfl
 show (if 0≤(bD L l.length b).1 then (match (l.map fun x=>[D.str (f x)])[(bD L l.length b).1.toNat]? with | some x=>if x.length=1 then some (D.cO x 0) else none | none=>none) else none)=_
 rw [if_pos hr.1,List.getElem?_map,e]
 rfl
def cLt (args:List D) (h:aa) (K:D→aa→Prop):Prop:=∃(p:Nat) (L:List Int) (a:Nat) (t:Int),args=[.ptr p 1 0,.int .i64 t]∧h.f p=some (qa L a)∧K (.str ((nQ L t a).1.tx [])) (h.set p (qa L (nQ L t a).2))
theorem Up (args:List D) (h:aa) (K K':D→aa→Prop) (hk:∀d h,K d h→K' d h) (c:cLt args h K):cLt args h K':=by
 obtain ⟨p,L,a,n,x,y,k⟩:=c
 exact ⟨p,L,a,n,x,y,hk _ _ k⟩
theorem adE (args:List D) (h:aa) (K:D→aa→Prop) (c:cLt args h K):aH Tryz.prog 16 args h fun o h'=>∃d,o=.ret d∧K d h':=by
 obtain ⟨p,L,a,t,rfl,hp,k⟩:=c
 refine aH.VS JH ajw (by simp) ?_
 have l0:(lits 0).map (fun e=>[D.str (e.tx [])])=[[.str [48]],[.str [49]],[.str [50]],[.str [51]],[.str [55]],[.str [57,50,50,51,51,55,50,48,51,54,56,53,52,55,55,53,56,48,55]]]:=by simp [lits,GE.tx]
 have l1:(lits 1).map (fun e=>[D.str (e.tx [])])=[[.str [48,46,48]],[.str [49,46,48]],[.str [48,46,53]],[.str [50,46,50,53]],[.str [49,48,48,48,48,48,48,46,48]],[.str [48,46,49]]]:=by simp [lits,GE.tx]
 have l2:(lits 2).map (fun e=>[D.str (e.tx [])])=[[.str [116,114,117,101]],[.str [102,97,108,115,101]]]:=by simp [lits,GE.tx,rO,mH]
 have i0:=fun b (K:D→aa→Prop) (h:aa)=>tT L (l:=lits 0) (.bool true) (fun e=>e.tx []) (by decide) b K h
 have i1:=fun b (K:D→aa→Prop) (h:aa)=>tT L (l:=lits 1) (.bool true) (fun e=>e.tx []) (by decide) b K h
 have i2:=fun b (K:D→aa→Prop) (h:aa)=>tT L (l:=lits 2) (.bool true) (fun e=>e.tx []) (by decide) b K h
 have n0:(((lits 0).length:Nat):Int)=6:=rfl
 have n1:(((lits 1).length:Nat):Int)=6:=rfl
 have n2:(((lits 2).length:Nat):Int)=2:=rfl
 rw [l0,n0] at i0
 rw [l1,n1] at i1
 rw [l2,n2] at i2
 by_cases E2:t=0
 ·subst E2
  unfold nQ at k
  rw [n0] at k
  simp (maxSteps:=1000000) only [aaJ,nu,aA,seval]
  refine ⟨p,L,a,6,rfl,hp,by decide,by decide,?_⟩
  simp (maxSteps:=1000000) only [i0,iU,nu,aA,seval]
  exact ⟨_,aa.aj _,k⟩
 ·by_cases tJ:t=1
  ·subst tJ
   unfold nQ at k
   rw [n1] at k
   simp (maxSteps:=1000000) only [aaJ,nu,aA,seval]
   refine ⟨p,L,a,6,rfl,hp,by decide,by decide,?_⟩
   simp (maxSteps:=1000000) only [i1,iU,nu,aA,seval]
   exact ⟨_,aa.aj _,k⟩
  ·have e2:lits t=lits 2:=by unfold lits; rw [if_neg E2,if_neg tJ]; rfl
   unfold nQ at k
   rw [e2,n2] at k
   have b0:(t==0)=false:=by simpa using E2
   have b1:(t==1)=false:=by simpa using tJ
   simp (maxSteps:=1000000) only [aaJ,b0,b1,nu,aA,seval]
   refine ⟨p,L,a,2,rfl,hp,by decide,by decide,?_⟩
   simp (maxSteps:=1000000) only [i2,iU,nu,aA,seval]
   exact ⟨_,aa.aj _,k⟩
def xr:bh:=xq.sv 16 cLt Up
theorem OC:xr.q=xq.q:=rfl
theorem OA:xr.a=xq.a:=rfl
theorem OB (g:FuncId) (args:List D) (h:aa) (K E:D→aa→Prop):xr.c g args h K E=if g=16 then cLt args h K else xq.c g args h K E:=rfl
theorem JI:xr.ok Tryz.prog:=bh.lL JH adE
theorem uN:type_of% (And.intro (And.intro @OC (And.intro @OA @OB)) @nu):=(And.intro (And.intro @OC (And.intro @OA @OB)) @nu)
def Oi (d:D) (xs:List (List D)):Prop:=d=.sl xs∨(d=.aZ∧xs=[])
def kj (l:List Fn):List (List D):=l.map fun f=>[.str f.name,.int .i64 f.answer,.sl (gV f.params)]
theorem i_ {l:List Fn}:(kj l).length=l.length:=by simp [kj]
structure zf (h:aa) (q:Nat) (s:Nm) (d0 d1 d2 d3:D):Prop where
 obj:h.f q=some (.cells [d0,d1,d2,d3,.int .i64 (s.fresh:Int)])
 e0:Oi d0 (eR s.ints)
 e1:Oi d1 (eR s.Ai)
 e2:Oi d2 (eR s.qx)
 e3:Oi d3 (kj s.funcs)
def Vd (s:Nm):D:=.agg [.sl (eR s.ints),.sl (eR s.Ai),.sl (eR s.qx),.sl (kj s.funcs),.int .i64 (s.fresh:Int)]
theorem Oi.plain {d:D} {xs:List (List D)} (e:Oi d xs) (h:aa):plain h d=.sl xs:=by
 rcases e with rfl | ⟨rfl,rfl⟩<;>rfl
theorem Oi.hO {d:D} {xs:List (List D)} (e:Oi d xs) (h:aa):hO h d=h:=by
 rcases e with rfl | ⟨rfl,rfl⟩<;>rfl
theorem Oi.ok {d:D} {xs:List (List D)} (e:Oi d xs):bX d=true:=by
 rcases e with rfl | ⟨rfl,rfl⟩<;>rfl
theorem Oi.len {T:bh} {d:D} {xs:List (List D)} (e:Oi d xs) (h:aa) (K E:D→aa→Prop):eV T (.len .sl d) h K E=(xs.length≤9223372036854775807→K (.int .i64 (xs.length:Int)) h):=by
 rcases e with rfl | ⟨rfl,rfl⟩
 ·rfl
 ·rw [vL]
  exact propext ⟨fun k _=>k,fun k=>k (by simp)⟩
theorem Oi.fin {d:D} {xs:List (List D)} (e:Oi d xs) {R:cY→aa→Prop} {σ:Fr} {t:Nat} {h:aa} (hσ:σ.env t=d) (k:R (.ret (.sl xs)) h):av [.tmp t] R σ none h:=by
 refine ⟨[d],by simp [eI,hσ],.inr ⟨h,?_,?_⟩⟩
 ·show h.sub (Go.Proofs.YtpklkpkfgmoghaaGreatDoor.Zz.hO h d)
  rw [e.hO]
  exact aa.aj h
 ·show R (.ret (Go.Proofs.YtpklkpkfgmoghaaGreatDoor.Zz.plain h d)) h
  rw [e.plain]
  exact k
def cOf (args:List D) (h:aa) (K E:D→aa→Prop):Prop:=∃(q:Nat) (s:Nm) (d0 d1 d2 d3:D) (t:Int),args=[.ptr q 1 0,.int .i64 t]∧zf h q s d0 d1 d2 d3∧K (.sl (eR (s.of t))) h
theorem Ux (args:List D) (h:aa) (K E K' E':D→aa→Prop) (hk:∀d h,K d h→K' d h) (he:∀d h,E d h→E' d h) (c:cOf args h K E):cOf args h K' E':=by
 obtain ⟨q,s,d0,d1,d2,d3,t,x,y,k⟩:=c
 exact ⟨q,s,d0,d1,d2,d3,t,x,y,hk _ _ k⟩
theorem adH (args:List D) (h:aa) (K E:D→aa→Prop) (c:cOf args h K E):aH Tryz.prog 31 args h (cY.to K E):=by
 obtain ⟨q,s,d0,d1,d2,d3,t,rfl,y,k⟩:=c
 refine aH.cv JI (dc:=cy.none) (fun _ _=>cy.cX) (by kernel_rfl) ajH (by simp) ?_
 rw [cA]
 have hq:=y.obj
 unfold Nm.of at k
 by_cases E2:t=0
 ·subst E2
  rw [if_pos rfl] at k
  simp (maxSteps:=1000000) only [aaL,hq,af,ab,uN,aA,seval]
  exact y.e0.fin rfl k
 ·rw [if_neg E2] at k
  have b0:(t==0)=false:=by simpa using E2
  by_cases tJ:t=1
  ·subst tJ
   rw [if_pos rfl] at k
   simp (maxSteps:=1000000) only [aaL,hq,b0,af,ab,uN,aA,seval]
   exact y.e1.fin rfl k
  ·rw [if_neg tJ] at k
   have b1:(t==1)=false:=by simpa using tJ
   simp (maxSteps:=1000000) only [aaL,hq,b0,b1,af,ab,uN,aA,seval]
   exact y.e2.fin rfl k
def xA:bh:=xr.gI 31 cOf Ux
theorem O8:xA.q=xr.q:=rfl
theorem O6:xA.a=xr.a:=rfl
theorem O7 (g:FuncId) (args:List D) (h:aa) (K E:D→aa→Prop):xA.c g args h K E=if g=31 then cOf args h K E else xr.c g args h K E:=rfl
theorem JM:xA.ok Tryz.prog:=bh.bQ JI adH
theorem nw:type_of% (And.intro (And.intro @O8 (And.intro @O6 @O7)) @uN):=(And.intro (And.intro @O8 (And.intro @O6 @O7)) @uN)
theorem s8 {l:List (List UInt8)}:∀y∈eR l,y.length=1∧y.all bX=true:=by
 intro y hy
 simp only [eR,List.mem_map] at hy
 obtain ⟨s,_,rfl⟩:=hy
 exact ⟨rfl,rfl⟩
theorem vC (a:List (List UInt8)) (x:List UInt8):(if a.length+1≤(a++[x]).length then D.sl (List.take (a.length+1) (eR (a++[x]))) else D.undef)=.sl (eR (a++[x])):=by
 rw [if_pos (by simp),List.take_of_length_le (by rw [gN]; simp)]
def KG (a b c:List (List UInt8)) (ys:List (List D)) (f:Int) (x:List UInt8) (t:Int):D:=
 if t=0 then .agg [.sl (eR (a++[x])),.sl (eR b),.sl (eR c),.sl ys,.int .i64 f] else if t=1 then .agg [.sl (eR a),.sl (eR (b++[x])),.sl (eR c),.sl ys,.int .i64 f] else .agg [.sl (eR a),.sl (eR b),.sl (eR (c++[x])),.sl ys,.int .i64 f]
theorem af8 (a b c:List (List UInt8)) (ys:List (List D)) (f:Int) (x:List UInt8) (t:Int) (h:a.length<100000∧b.length<100000∧c.length<100000):aV Tryz.prog 17 [.agg [.sl (eR a),.sl (eR b),.sl (eR c),.sl ys,.int .i64 f],.str x,.int .i64 t] (KG a b c ys f x t):=by
 refine aV.run JM ajx (by simp) fun E=>?_
 unfold KG
 by_cases E2:t=0
 ·subst E2
  rw [if_pos rfl]
  simp only [aaK,gN,oe,nw,aA,seval]
  intro i1  i2 an ak i3 ax aw az ay
  simp only [an,ak,ax,aw,az,ay,gN,oe,vC,nw,aA,seval]
  exact ⟨s8,by omega,by omega⟩
 ·rw [if_neg E2]
  have b0:(t==0)=false:=by simpa using E2
  by_cases tJ:t=1
  ·subst tJ
   rw [if_pos rfl]
   simp only [aaK,b0,gN,oe,nw,aA,seval]
   intro i1  i2 an ak i3 ax aw az ay
   simp only [an,ak,ax,aw,az,ay,gN,oe,vC,nw,aA,seval]
   exact ⟨s8,by omega,by omega⟩
  ·rw [if_neg tJ]
   have b1:(t==1)=false:=by simpa using tJ
   simp only [aaK,b0,b1,gN,oe,nw,aA,seval]
   intro i1  i2 an ak i3 ax aw az ay
   simp only [an,ak,ax,aw,az,ay,gN,oe,vC,nw,aA,seval]
   exact ⟨s8,by omega,by omega⟩
def S1:List D→Option D
 | [.agg [.sl a',.sl b',.sl c',.sl ys,.int .i64 f],.str x,.int .i64 t]=>match B5 a',B5 b',B5 c' with
  | some a,some b,some c=>if a.length<100000∧b.length<100000∧c.length<100000 then some (KG a b c ys f x t) else none
  | _,_,_=>none
 | _=>none
theorem aaf (args:List D) (d:D) (h:S1 args=some d):aV Tryz.prog 17 args d:=by
 unfold S1 at h
 split at h
 ·split at h
  ·rename_i e0 e1 e2
   cases lX e0; cases lX e1; cases lX e2
   split at h
   ·cases h; exact af8 _ _ _ _ _ _ _ (by assumption)
   ·cases h
  ·cases h
 ·cases h
def xv:bh:=xA.dR 17 S1
theorem OJ (g:FuncId) (args:List D):xv.q g args=if g=17 then S1 args else xA.q g args:=rfl
theorem OH:xv.a=xA.a:=rfl
theorem OI:xv.c=xA.c:=rfl
theorem JJ:xv.ok Tryz.prog:=bh.bE JM aaf
theorem aG:type_of% (And.intro (And.intro @OJ (And.intro @OH @OI)) @nw):=(And.intro (And.intro @OJ (And.intro @OH @OI)) @nw)
theorem Ve (s:Nm) (x:List UInt8) (t:Int):KG s.ints s.Ai s.qx (kj s.funcs) s.fresh x t=Vd (s.with x t):=by
 unfold KG Vd Nm.with
 split
 ·rfl
 ·split<;>rfl
theorem yZ {s:Nm} {x:List UInt8} {t:Int} (h:s.ints.length<100000∧s.Ai.length<100000∧s.qx.length<100000):S1 [Vd s,.str x,.int .i64 t]=some (Vd (s.with x t)):=by
 rw [←Ve]
 simp only [S1,Vd,zR]
 rw [if_pos h]
end
end Go.Proofs.YtpklkpkfgmoghaaGreatDoor.Zz
namespace Go.Proofs.YtpklkpkfgmoghaaGreatDoor.Zz
noncomputable section
def amX:cm:=⟨⟨[(1,0)],[(9,4),(16,10)],[],[],[],[]⟩,[],[],false⟩
def aiY:dU:=
 sO [oP (.cB (kS [])) 8,
 oP (.cB (kB false)) 9]
 (sO [oQ (.buildSlice 3 [(.str []),(.int .i64 0),.aZ] 0 [] true) 15,
 oM 15 10]
 (.seq (sO [oP (.cB (kI 0)) 11]
 (.block 0 (.loop (.seq (sO [oM 11 16,
 oM 1 17,
 oN 17 18,
 oF 3 18 19,
 oL 19 20,
 oZ 20 21,
 oE .lss 16 21 22]
 (.cond (.t 22)
 (.skip)
 (.exit 0)))
 (.seq (.block 1 (sO [oM 1 25,
 oN 25 26,
 oF 3 26 27,
 oL 27 28,
 oM 11 29,
 oI 3 28 29 30,
 oF 1 30 31,
 oL 31 32,
 oM 2 33,
 oE .eql 32 33 34]
 (.cond (.t 34)
 (.ops [oM 10 35,
 oM 1 36,
 oN 36 37,
 oF 3 37 38,
 oL 38 39,
 oM 11 40,
 oI 3 39 40 41,
 oJ 3 41 42,
 oP (.buildSlice 3 [(.str []),(.int .i64 0),.aZ] 1 [(0,(.t 42))] false) 43,
 oQ (.append 3 48 false (.t 35) (.t 43)) 44,
 oM 44 10])
 (.skip))))
 (.ops [oM 11 23,
 oH .add 23 1 24,
 oM 24 11]))))))
 (.seq (sO [oM 10 45,
 oZ 45 46,
 oH .eql 46 0 47]
 (.cond (.t 47)
 (sO [oP (.cB (kS [])) 8,
 oP (.cB (kB false)) 9]
 (.ret))
 (.skip)))
 (sO [oM 10 48,
 oM 0 49,
 oM 10 50,
 oZ 50 51,
 oC 13 [.t 49,.t 51] 52,
 oI 3 48 52 53,
 oJ 3 53 54,
 oQ (.alloc [(.str []),(.int .i64 0),.aZ]) 12,
 oS 3 12 54]
 (sO [oF 0 12 55,
 oL 55 56,
 oP (.bin .add (.t 56) (kS [40])) 57,
 oM 57 13]
 (.seq (sO [oP (.cB (kI 0)) 14]
 (.block 2 (.loop (.seq (sO [oM 14 58,
 oF 2 12 59,
 oL 59 60,
 oZ 60 61,
 oE .lss 58 61 62]
 (.cond (.t 62)
 (.skip)
 (.exit 2)))
 (.seq (.block 3 (.seq (sO [oM 14 65,
 oH .gtr 65 0 66]
 (.cond (.t 66)
 (.ops [oM 13 67,
 oP (.bin .add (.t 67) (kS [44,32])) 68,
 oM 68 13])
 (.skip)))
 (.ops [oM 13 69,
 oM 0 70,
 oM 1 71,
 oF 2 12 72,
 oL 72 73,
 oM 14 74,
 oI 1 73 74 75,
 oL 75 76,
 oM 3 77,
 oH .sub 77 1 78,
 oC 19 [.t 70,.t 71,.t 76,.t 78] 79,
 oE .add 69 79 80,
 oM 80 13])))
 (.ops [oM 14 63,
 oH .add 63 1 64,
 oM 64 14]))))))
 (sO [oM 13 81,
 oP (.bin .add (.t 81) (kS [41])) 82,
 oM 82 8,
 oP (.cB (kB true)) 9]
 (.ret))))))))
theorem ajI:bA Tryz.prog 32 amX=some (aiY,[.tmp 8,.tmp 9],83):=by kernel_rfl
theorem zf.of_eq {h h':aa} {q:Nat} {s:Nm} {d0 d1 d2 d3:D} (y:zf h q s d0 d1 d2 d3) (e:h'.f q=h.f q):zf h' q s d0 d1 d2 d3:=⟨by rw [e]; exact y.obj,y.e0,y.e1,y.e2,y.e3⟩
structure RG (s:Nm):Prop where
 ok:jA s
 fn:s.funcs.length≤1000
 l0:s.ints.length≤1000
 l1:s.Ai.length≤1000
 l2:s.qx.length≤1000
theorem RG.of {s:Nm} (h:RG s) (t:Int):(s.of t).length≤1000:=by
 unfold Nm.of
 split
 ·exact h.l0
 ·split
  ·exact h.l1
  ·exact h.l2
def gEx (G:Nat) (args:List D) (h:aa) (K E:D→aa→Prop):Prop:=∃(p:Nat) (L:List Int) (a q:Nat) (s:Nm) (d0 d1 d2 d3:D) (t:Int) (d:Nat),args=[.ptr p 1 0,.ptr q 1 0,.int .i64 t,.int .i64 (d:Int)]∧d<G∧d≤3∧h.f p=some (qa L a)∧zf h q s d0 d1 d2 d3∧RG s∧
 K (.str ((b_ L s d t a).1.tx [])) (h.set p (qa L (b_ L s d t a).2))
theorem Vb (G:Nat) (args:List D) (h:aa) (K E K' E':D→aa→Prop) (hk:∀d h,K d h→K' d h) (he:∀d h,E d h→E' d h) (c:gEx G args h K E):gEx G args h K' E':=by
 obtain ⟨p,L,a,q,s,d0,d1,d2,d3,t,d,x1,x2,x3,x4,x5,x6,k⟩:=c
 exact ⟨p,L,a,q,s,d0,d1,d2,d3,t,d,x1,x2,x3,x4,x5,x6,hk _ _ k⟩
def tbE (G:Nat):bh:=xv.gI 19 (gEx G) (Vb G)
theorem acr {G:Nat}:(tbE G).q=xv.q:=rfl
theorem acp {G:Nat}:(tbE G).a=xv.a:=rfl
theorem acq {G:Nat} (g:FuncId) (args:List D) (h:aa) (K E:D→aa→Prop):(tbE G).c g args h K E=if g=19 then gEx G args h K E else xv.c g args h K E:=rfl
theorem nC:type_of% (And.intro (And.intro @acr (And.intro @acp @acq)) @aG):=(And.intro (And.intro @acr (And.intro @acp @acq)) @aG)
def callR (L:List Int) (s:Nm) (d:Nat) (t:Int) (a:Nat):D×Nat:=match jB L s (b_ L s d) t a with
 | (some c,b)=>(.tuple [.str ((GE.call c.1 c.2).tx []),.bool true],b)
 | (none,b)=>(.tuple [.str [],.bool false],b)
def cCa (G:Nat) (args:List D) (h:aa) (K E:D→aa→Prop):Prop:=∃(p:Nat) (L:List Int) (a q:Nat) (s:Nm) (d0 d1 d2 d3:D) (t:Int) (d:Nat),args=[.ptr p 1 0,.ptr q 1 0,.int .i64 t,.int .i64 ((d+1:Nat):Int)]∧d<G∧d≤3∧h.f p=some (qa L a)∧zf h q s d0 d1 d2 d3∧RG s∧
 K (callR L s d t a).1 (h.set p (qa L (callR L s d t a).2))
theorem T4 (G:Nat) (args:List D) (h:aa) (K E K' E':D→aa→Prop) (hk:∀d h,K d h→K' d h) (he:∀d h,E d h→E' d h) (c:cCa G args h K E):cCa G args h K' E':=by
 obtain ⟨p,L,a,q,s,d0,d1,d2,d3,t,d,x1,x2,x3,x4,x5,x6,k⟩:=c
 exact ⟨p,L,a,q,s,d0,d1,d2,d3,t,d,x1,x2,x3,x4,x5,x6,hk _ _ k⟩
theorem Ko:∀(l:List GE) (e:GE) (r:List UInt8),GE.tL (l++[e]) r=GE.tL l (44::32::e.tx r)
 | [],e,r=>by rw [List.nil_append,GE.tL,GE.tL,GE.tL]
 | x::l,e,r=>by rw [List.cons_append,GE.tL,GE.tL,Ko l e r]
theorem Rs (e:GE):GE.eG [e] []=e.tx []:=by rw [GE.eG,GE.tL]
theorem Km {l:List GE} (h:l≠[]) (e:GE):GE.eG (l++[e]) []=GE.eG l []++([44,32]++e.tx []):=by
 cases l with
 | nil=>exact absurd rfl h
 | cons x l=>
  rw [List.cons_append,GE.eG,GE.eG,Ko,F4,de,de x (GE.tL l [])]
  simp
theorem K5 {g:Int→Nat→GE×Nat} (t:Int) (r:List Int) (a:Nat):iD g (t::r) a=((g t a).1::(iD g r (g t a).2).1,(iD g r (g t a).2).2):=rfl
theorem Nz (l:List Fn) (f:Fn):kj (l++[f])=kj l++[[.str f.name,.int .i64 f.answer,.sl (gV f.params)]]:=by simp [kj]
theorem drop_at {α:Type} {l:List α} {i:Nat} {x:α} (h:l[i]? =some x):l.drop i=x::l.drop (i+1):=by
 obtain ⟨h1,h2⟩:=List.getElem?_eq_some_iff.1 h
 rw [List.drop_eq_getElem_cons h1,h2]
theorem GO {L:List Int} {s:Nm} {g:Int→Nat→GE×Nat} {t:Int} {a:Nat} (hl:(s.funcs.filter fun f=>f.answer==t)=[]):jB L s g t a=(none,a):=by
 unfold jB
 rw [hl]
theorem GP {L:List Int} {s:Nm} {g:Int→Nat→GE×Nat} {t:Int} {a:Nat} {l:List Fn} (hl:(s.funcs.filter fun f=>f.answer==t)=l) (hn:l≠[]):
  ∃F,F∈s.funcs∧l[(bD L l.length a).1.toNat]? =some F∧jB L s g t a=(some (F.name,(iD g F.params (bD L l.length a).2).1),(iD g F.params (bD L l.length a).2).2):=by
 cases l with
 | nil=>exact absurd rfl hn
 | cons f r=>
  have ig:=qO L (n:=(f::r).length) (by simp) a
  have e:(f::r)[(bD L ((f::r).length:Nat) a).1.toNat]? =some ((f::r).getD (bD L ((f::r).length:Nat) a).1.toNat f):=by
   rw [List.getD_eq_getElem?_getD,List.getElem?_eq_getElem ig]; rfl
  refine ⟨(f::r).getD (bD L ((f::r).length:Nat) a).1.toNat f,?_,e,?_⟩
  ·have:=kU (x:=f) ig
   rw [←hl] at this ⊢
   exact (List.mem_filter.1 this).1
  ·unfold jB
   rw [hl]
theorem aaW {h:aa} {i:Nat} {o:cJ} (k:h.f i=none):h.sub (h.set i o):=fun j x hj=>by
 have:j≠i:=fun e=>by rw [e,k] at hj; cases hj
 simp only [aa.b9,this,if_false]; exact hj
theorem Cz (G:Nat) (hT:(tbE G).ok Tryz.prog) (args:List D) (h:aa) (K E:D→aa→Prop) (c:cCa G args h K E):aH Tryz.prog 32 args h (cY.to K E):=by
 obtain ⟨p,L,a,q,s,d0,d1,d2,d3,t,d,rfl,hG,hd,hp,ny,sm,k⟩:=c
 refine aH.cv hT (dc:=cy.none) (fun _ _=>cy.cX) (by kernel_rfl) ajI (by simp) ?_
 rw [cA]
 have hq:=ny.obj
 generalize hD:((d+1:Nat):Int)=DD
 have wd:IntKind.i64.wrap (DD - 1)=(d:Int):=by rw [←hD,wrap_i64 (by omega) (by omega)]; omega
 simp (maxSteps:=1000000) only [aiY,hq,hp,nC,aG,aA,seval]
 intro i1 k1
 have n1:¬i1=p:=fun e=>by rw [e,hp] at k1; cases k1
 have n2:¬i1=q:=fun e=>by rw [e,hq] at k1; cases k1
 have dO:¬p=i1:=fun e=>n1 e.symm
 have ZQ:¬q=i1:=fun e=>n2 e.symm
 have pW:¬p=q:=fun e=>by subst e; rw [hp] at hq; cases hq
 have mn:¬q=p:=fun e=>pW e.symm
 refine cj (X:=Nat×List Fn) (fun z=>[(0,.ptr p 1 0),(1,.ptr q 1 0),(2,.int .i64 t),(3,.int .i64 DD),(8,.str []),(9,.bool false),(10,.row i1 (z.2.length+2) 0 z.2.length),(11,.int .i64 z.1)]) (fun z=>h.set i1 (.row 3 (z.2.length+2) (kj z.2) false)) (fun z=>s.funcs.length - z.1)
  (fun z=>z.1≤s.funcs.length∧z.2.length≤z.1∧(s.funcs.filter fun f=>f.answer==t)=z.2++((s.funcs.drop z.1).filter fun f=>f.answer==t)) (0,[]) ⟨Nat.zero_le _,Nat.le_refl _,rfl⟩ (by simp only [List.length_nil,aG,aA,seval]) (aa.aj _) ?_
 rintro ⟨i,done⟩ Q ⟨j0,j1,j2⟩ hQ
 simp only at j0 j1 j2 hQ ⊢
 have hl:=fun (T:bh) h K E=>ny.e3.len (T:=T) h K E
 by_cases E2:i<s.funcs.length
 ·obtain ⟨f,hf⟩:∃f,s.funcs[i]? =some f:=⟨_,List.getElem?_eq_getElem E2⟩
  have g:((i:Int)<(s.funcs.length:Int))=True:=eq_true (by omega)
  have hfm:f∈s.funcs:=List.mem_of_getElem? hf
  have hlen:=sm.fn
  have wi:IntKind.i64.wrap ((i:Int)+1)=((i+1:Nat):Int):=cp (by omega)
  have e3:d3=.sl (kj s.funcs):=by
   rcases ny.e3 with e | ⟨_,e⟩
   ·exact e
   ·have:=congrArg List.length e
    rw [i_,List.length_nil] at this
    omega
  subst e3
  have hx:(kj s.funcs)[((i:Int)).toNat]? =some [.str f.name,.int .i64 f.answer,.sl (gV f.params)]:=by simp [kj,hf]
  have ie:∀(K:D→aa→Prop) (h:aa),fx 3 K h (kj s.funcs) (i:Int)=K (.cO [.str f.name,.int .i64 f.answer,.sl (gV f.params)] 0) h:=fun K h=>tR (by omega) hx rfl
  rw [drop_at hf] at j2
  cases tJ:(f.answer==t) with
  | true=>
   rw [List.filter_cons_of_pos (by simpa using tJ)] at j2
   simp (maxSteps:=1000000) only [hq,n1,n2,dO,ZQ,g,wi,ie,tJ,i_,nC,aG,aA,seval]
   intro _
   refine ⟨by omega,hQ (i+1,done++[f]) _ _ ⟨by omega,by simp; omega,by rw [j2]; simp⟩ (by simp only [List.length_append,List.length_cons,List.length_nil,aG,aA,seval]) ?_ (by simp only; omega)⟩
   simp only [List.length_append,List.length_cons,List.length_nil,Nz]
   exact aa.aj _
  | false=>
   rw [List.filter_cons_of_neg (by simpa using tJ)] at j2
   simp (maxSteps:=1000000) only [hq,n1,n2,dO,ZQ,g,wi,ie,tJ,i_,nC,aG,aA,seval]
   intro _
   exact hQ (i+1,done) _ _ ⟨by omega,by simp only; omega,j2⟩ (by simp only [aG,aA,seval]) (aa.aj _) (by simp only; omega)
 ·have e0:i=s.funcs.length:=by omega
  subst e0
  rw [List.drop_length,List.filter_nil,List.append_nil] at j2
  simp (maxSteps:=1000000) only [hq,hl,n1,n2,dO,ZQ,i_,Int.lt_irrefl,nC,aG,aA,seval]
  intro _
  have he:=abx hd
  have hlen:=sm.fn
  by_cases hd0:done=[]
  ·subst hd0
   unfold callR at k
   rw [GO j2] at k
   simp only at k
   rw [Bq hp] at k
   simp (maxSteps:=1000000) only [af,ab,av,List.length_nil,nC,aG,aA,seval]
   exact .inl ⟨h,aaW k1,k⟩
  ·obtain ⟨F,hF,hx,hc⟩:=GP (L:=L) (g:=b_ L s d) (a:=a) j2 hd0
   unfold callR at k
   rw [hc] at k
   simp only at k
   have jN:=List.length_pos_iff.2 hd0
   have T1:((done.length:Int)==0)=false:=by simpa using hd0
   have hr:=bY L (n:=(done.length:Int)) (by omega) a
   generalize hkk:bD L (done.length:Int) a=kk at k hx hr
   obtain ⟨ki,b⟩:=kk
   simp only at k hx hr
   have ZI:(kj done)[ki.toNat]? =some [.str F.name,.int .i64 F.answer,.sl (gV F.params)]:=by simp [kj,hx]
   have r1:(0≤ki)=True:=eq_true hr.1
   have r2:(ki<(done.length:Int))=True:=eq_true hr.2
   simp (maxSteps:=1000000) only [T1,nC,aG,aA,seval]
   intro _ _
   refine ⟨p,L,a,_,rfl,by simp [dO,hp],by omega,by omega,?_⟩
   rw [hkk]
   simp (maxSteps:=1000000) only [hq,hp,n1,n2,dO,ZQ,pW,mn,r1,r2,ZI,nC,aG,aA,seval]
   obtain ⟨f1,f2,f3⟩:=sm.ok.fn F hF
   have f4:=FC f1
   intro i2 m1 l6 m2 ly k2
   have m3:¬i2=q:=fun e=>by rw [e,hq] at k2; cases k2
   have m3':¬q=i2:=fun e=>m3 e.symm
   refine ⟨by omega,?_⟩
   refine cj (X:=Nat×List GE×Nat) (fun z=>[(0,.ptr p 1 0),(1,.ptr q 1 0),(3,.int .i64 DD),(12,.ptr i2 1 0),(13,.str (F.name++40::GE.eG z.2.1 [])),(14,.int .i64 z.1)]) (fun z=>(h.set i2 (.cells [.str F.name,.int .i64 F.answer,.sl (gV F.params)])).set p (qa L z.2.2)) (fun z=>F.params.length - z.1)
    (fun z=>z.1≤F.params.length∧z.2.1.length=z.1∧(GE.eG z.2.1 []).length≤300*z.1∧iD (b_ L s d) F.params b=(z.2.1++(iD (b_ L s d) (F.params.drop z.1) z.2.2).1,(iD (b_ L s d) (F.params.drop z.1) z.2.2).2)) (0,[],b) ⟨Nat.zero_le _,rfl,by rw [GE.eG]; simp,rfl⟩ ?_ ?_ ?_
   ·rw [GE.eG]
    simp only [aG,aA,seval]
   ·exact aa.fm (by repeat' first | with_reducible exact aa.bZ | with_reducible exact aa.cz | refine aa.dS (by simp [m1,l6,m2,ly,k1]) ?_ | refine aa.dT (by simp [m1,l6,m2,ly,k1]) ?_)
   rintro ⟨i,es,c⟩ Q ⟨j0,j1,j2,j3⟩ hQ
   simp only at j0 j1 j2 j3 hQ ⊢
   by_cases E2:i<F.params.length
   ·obtain ⟨u,hu⟩:∃u,F.params[i]? =some u:=⟨_,List.getElem?_eq_getElem E2⟩
    have g:((i:Int)<(F.params.length:Int))=True:=eq_true (by omega)
    have wi:IntKind.i64.wrap ((i:Int)+1)=((i+1:Nat):Int):=cp (by omega)
    have ie:∀(K:D→aa→Prop) (h:aa),fx 1 K h (gV F.params) (i:Int)=K (.cO [.int .i64 u] 0) h:=fun K h=>tR (by omega) (by simp [gV,hu]) rfl
    have tg:=fY (L:=L) sm.ok d u c
    rw [drop_at hu,K5] at j3
    have hy:∀h',h'.f q=h.f q→zf h' q s d0 d1 d2 d3:=fun h' e=>ny.of_eq e
    by_cases tJ:i=0
    ·have g1:((i:Int)>0)=False:=eq_false (by omega)
     have e0:es=[]:=List.length_eq_zero_iff.1 (by omega)
     simp (maxSteps:=1000000) only [m1,l6,m3,m3',n1,n2,dO,ZQ,pW,mn,g,g1,wi,ie,wd,il,nC,aG,aA,seval]
     intro _
     refine ⟨p,L,c,q,s,d0,d1,d2,d3,u,d,rfl,hG,hd,by simp,hy _ (by simp [mn,m3']),sm,?_⟩
     generalize b_ L s d u c=X at tg j3 ⊢
     obtain ⟨e,c'⟩:=X
     simp only at tg j3 ⊢
     have hen:(e.tx []).length≤292:=by have:e.len=(e.tx []).length:=rfl; omega
     simp (maxSteps:=1000000) only [m1,l6,m3,m3',n1,n2,dO,ZQ,pW,mn,g,g1,wi,ie,wd,il,nC,aG,aA,seval]
     refine ⟨by simp only [List.length_append,List.length_cons]; omega,hQ (i+1,es++[e],c') _ _ ⟨by omega,by simp [j1],?_,by rw [j3]; simp⟩ ?_ (aa.aj _) (by simp only; omega)⟩
     ·rw [e0,List.nil_append,Rs]
      simp only; omega
     ·have e1:F.name++40::GE.eG es []++e.tx []=F.name++40::GE.eG (es++[e]) []:=by rw [e0,List.nil_append,Rs,GE.eG]; simp
      simp only [e1,aG,aA,seval]
    ·have g1:((i:Int)>0)=True:=eq_true (by omega)
     have e0:es≠[]:=fun e=>tJ (by rw [e] at j1; exact j1.symm)
     simp (maxSteps:=1000000) only [m1,l6,m3,m3',n1,n2,dO,ZQ,pW,mn,g,g1,wi,ie,wd,il,nC,aG,aA,seval]
     intro _
     refine ⟨by simp only [List.length_append,List.length_cons]; omega,?_⟩
     refine ⟨p,L,c,q,s,d0,d1,d2,d3,u,d,rfl,hG,hd,by simp,hy _ (by simp [mn,m3']),sm,?_⟩
     generalize b_ L s d u c=X at tg j3 ⊢
     obtain ⟨e,c'⟩:=X
     simp only at tg j3 ⊢
     have hen:(e.tx []).length≤292:=by have:e.len=(e.tx []).length:=rfl; omega
     simp (maxSteps:=1000000) only [m1,l6,m3,m3',n1,n2,dO,ZQ,pW,mn,g,g1,wi,ie,wd,il,nC,aG,aA,seval]
     refine ⟨by simp only [List.length_append,List.length_cons,List.length_nil]; omega,hQ (i+1,es++[e],c') _ _ ⟨by omega,by simp [j1],?_,by rw [j3]; simp⟩ ?_ (aa.aj _) (by simp only; omega)⟩
     ·rw [Km e0]
      simp only [List.length_append,List.length_cons,List.length_nil]; omega
     ·have e1:F.name++40::GE.eG es []++[44,32]++e.tx []=F.name++40::GE.eG (es++[e]) []:=by rw [Km e0]; simp
      simp only [e1,aG,aA,seval]
   ·have e0:i=F.params.length:=by omega
    subst e0
    rw [List.drop_length,iD,List.append_nil] at j3
    rw [j3] at k
    simp only at k
    simp (maxSteps:=1000000) only [m1,l6,m3,m3',n1,n2,dO,ZQ,pW,mn,Int.lt_irrefl,il,af,ab,av,nC,aG,aA,seval]
    intro _
    refine ⟨by simp only [List.length_append,List.length_cons]; omega,.inl ⟨h.set p (qa L c),?_,?_⟩⟩
    ·exact aa.fm (by repeat' first | with_reducible exact aa.bZ | with_reducible exact aa.cz | refine aa.dS (by simp [m1,l6,m2,ly,k1,k2]) ?_ | refine aa.dT (by simp [m1,l6,m2,ly,k1,k2]) ?_)
    ·have e1:F.name++40::GE.eG es []++[41]=(GE.call F.name es).tx []:=by rw [GE.tx,pQ es [41]]; simp
     rw [e1]
     exact k
def TM (G:Nat):bh:=(tbE G).gI 32 (cCa G) (T4 G)
theorem ack {G:Nat}:(TM G).q=(tbE G).q:=rfl
theorem aci {G:Nat}:(TM G).a=(tbE G).a:=rfl
theorem acj {G:Nat} (g:FuncId) (args:List D) (h:aa) (K E:D→aa→Prop):(TM G).c g args h K E=if g=32 then cCa G args h K E else (tbE G).c g args h K E:=rfl
theorem dY:type_of% (And.intro (And.intro @ack (And.intro @aci @acj)) @nC):=(And.intro (And.intro @ack (And.intro @aci @acj)) @nC)
end
end Go.Proofs.YtpklkpkfgmoghaaGreatDoor.Zz
