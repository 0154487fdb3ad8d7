/- Expressions of picks may be written; how many nodes they have. -/
import Derived.Test.YtpklkpkfgmoghaaGreatDoorZP29
set_option linter.unnecessarySimpa false
set_option linter.unusedVariables false
set_option linter.unusedSimpArgs false
set_option maxRecDepth 100000
namespace Go.Proofs.YtpklkpkfgmoghaaGreatDoor.Zz
noncomputable section
mutual
theorem cv:∀(e:GE) (r:List UInt8),e.tx r=e.tx []++r
 | .int w,r=>by rw [GE.tx,GE.tx]; simp
 | .o8 w,r=>by rw [GE.tx,GE.tx]; simp
 | .bool b,r=>by rw [GE.tx,GE.tx]; simp
 | .var x,r=>by rw [GE.tx,GE.tx]; simp
 | .call x l,r=>by
  rw [GE.tx,GE.tx,jX l (41::r),jX l [41]]
  simp
 | .un s e,r=>by rw [GE.tx,GE.tx,cv e r]; simp
 | .bin s a b,r=>by
  rw [GE.tx,GE.tx,cv b (41::r),cv b [41],cv a (32::_),cv a (32::(s++32::(b.tx []++[41])))]
  simp
 | .conv t e,r=>by
  rw [GE.tx,GE.tx,cv e (41::r),cv e [41]]
  simp
theorem jX:∀(l:List GE) (r:List UInt8),GE.cT l r=GE.cT l []++r
 | [],r=>by rw [GE.cT,GE.cT]; rfl
 | e::l,r=>by
  rw [GE.cT,GE.cT,BD l r,cv e (GE.pb l []++r),cv e (GE.pb l [])]
  simp
theorem BD:∀(l:List GE) (r:List UInt8),GE.pb l r=GE.pb l []++r
 | [],r=>by rw [GE.pb,GE.pb]; rfl
 | e::l,r=>by
  rw [GE.pb,GE.pb,BD l r,cv e (GE.pb l []++r),cv e (GE.pb l [])]
  simp
end
def GE.len (e:GE):Nat:=(e.tx []).length
theorem dR (e:GE) (r:List UInt8):(e.tx r).length=e.len+r.length:=by rw [cv,List.length_append]; rfl
def hZ:List GE→Nat
 | []=>0
 | e::l=>2+e.len+hZ l
theorem Km:∀(l:List GE) (r:List UInt8),(GE.pb l r).length=hZ l+r.length
 | [],r=>by rw [GE.pb,hZ]; omega
 | e::l,r=>by rw [GE.pb,hZ,List.length_cons,List.length_cons,dR,Km l r]; omega
structure Gd (e:GE) (d:Nat):Prop where
 ok:e.ok
 c6:e.c6
 dq:e.dq
 dep:e.dep≤2*d
 wt:256*e.nd.de≤125*e.len+131*(d+1)
theorem Gd.up {e:GE} {d:Nat} (h:Gd e d):Gd e (d+1):=⟨h.ok,h.c6,h.dq,by have:=h.dep; omega,by have:=h.wt; omega⟩
structure gN (s:Nm):Prop where
 var:∀t,∀x∈s.of t,fm x∧2≤x.length
 fn:∀f∈s.funcs,fm f.name∧2≤f.name.length∧f.params.length≤2
theorem jn {n:Nat} (h:n<10):Lib.itoa (n:Int)=[UInt8.ofNat (48+n)]:=by
 rw [Lib.itoa,if_neg (by omega),Int.toNat_natCast,Lib.decDigits_one h]
theorem jZ:∀w∈([[48],[49],[50],[51],[55],[57,50,50,51,51,55,50,48,51,54,56,53,52,55,55,53,56,48,55]]:List (List UInt8)),yU w∧Lib.itoa ((dX w:Nat):Int)=w:=by
 intro w hw
 simp only [List.mem_cons,List.not_mem_nil,or_false] at hw
 rcases hw with rfl | rfl | rfl | rfl | rfl | rfl
 ·exact ⟨⟨by decide,by decide,by kernel_rfl⟩,jn (n:=0) (by decide)⟩
 ·exact ⟨⟨by decide,by decide,by kernel_rfl⟩,jn (n:=1) (by decide)⟩
 ·exact ⟨⟨by decide,by decide,by kernel_rfl⟩,jn (n:=2) (by decide)⟩
 ·exact ⟨⟨by decide,by decide,by kernel_rfl⟩,jn (n:=3) (by decide)⟩
 ·exact ⟨⟨by decide,by decide,by kernel_rfl⟩,jn (n:=7) (by decide)⟩
 ·refine ⟨⟨by decide,by decide,by kernel_rfl⟩,?_⟩
  have:dX [57,50,50,51,51,55,50,48,51,54,56,53,52,55,55,53,56,48,55]=9223372036854775807:=by kernel_rfl
  rw [this]
  simp [Lib.itoa,Lib.decDigits]
theorem lI (A B:List UInt8) (h:(decide (A≠[]) && decide (B≠[]) && A.all (fun y=>isDigit (y.toNat:Int)) && B.all (fun y=>isDigit (y.toNat:Int)) && decide (A.length+B.length≤15))=true):Cr (A++46::B):=by
 simp only [Bool.and_eq_true,decide_eq_true_eq,List.all_eq_true] at h
 exact ⟨A,B,rfl,h.1.1.1.1,h.1.1.1.2,h.1.1.2,h.1.2,h.2⟩
theorem oe (s:List UInt8) (h:(decide (dX ((Lib.cut s [46]).1++(Lib.cut s [46]).2.1)<9007199254740992) && decide (10 ^ (Lib.cut s [46]).2.1.length<9007199254740992))=true):0≤jg s:=by
 simp only [Bool.and_eq_true,decide_eq_true_eq] at h
 unfold jg
 have:=(H4 h.1 h.2 (Nat.pow_pos (by decide))).2
 rw [QC (by omega)]
 omega
theorem rY:∀w∈([[48,46,48],[49,46,48],[48,46,53],[50,46,50,53],[49,48,48,48,48,48,48,46,48],[48,46,49]]:List (List UInt8)),Cr w∧jT w=w∧0≤jg (jT w):=by
 intro w hw
 simp only [List.mem_cons,List.not_mem_nil,or_false] at hw
 rcases hw with rfl | rfl | rfl | rfl | rfl | rfl
 ·exact ⟨lI [48] [48] rfl,by kernel_rfl,oe _ (by kernel_rfl)⟩
 ·exact ⟨lI [49] [48] rfl,by kernel_rfl,oe _ (by kernel_rfl)⟩
 ·exact ⟨lI [48] [53] rfl,by kernel_rfl,oe _ (by kernel_rfl)⟩
 ·exact ⟨lI [50] [50,53] rfl,by kernel_rfl,oe _ (by kernel_rfl)⟩
 ·exact ⟨lI [49,48,48,48,48,48,48] [48] rfl,by kernel_rfl,oe _ (by kernel_rfl)⟩
 ·exact ⟨lI [48] [49] rfl,by kernel_rfl,oe _ (by kernel_rfl)⟩
theorem Dg (t:Int):0<(lits t).length:=by
 unfold lits
 split
 ·decide
 ·split<;>decide
theorem RB (t:Int):∀e∈lits t,Gd e 0∧e.lit∧e.pos∧1≤e.len∧e.nd.de=1:=by
 have hI:∀w,yU w→Lib.itoa ((dX w:Nat):Int)=w→Gd (.int w) 0∧(GE.int w).lit∧(GE.int w).pos∧1≤(GE.int w).len∧(GE.int w).nd.de=1:=fun w h1 h2=>by
  have hl:1≤(GE.int w).len:=by
   rw [GE.len,GE.tx,List.append_nil]
   have:=List.length_pos_iff.2 h1.1
   omega
  have hc:(GE.int w).nd.de=1:=by rw [GE.nd,bg,aX]
  exact ⟨⟨by rw [GE.ok]; trivial,by rw [GE.c6]; exact h1,by rw [GE.dq]; exact h2,by rw [GE.dep]; omega,by rw [hc]; omega⟩,trivial,trivial,hl,hc⟩
 have hF:∀w,Cr w→jT w=w→0≤jg (jT w)→Gd (.o8 w) 0∧(GE.o8 w).lit∧(GE.o8 w).pos∧1≤(GE.o8 w).len∧(GE.o8 w).nd.de=1:=fun w h1 h2 h3=>by
  have hl:1≤(GE.o8 w).len:=by
   obtain ⟨A,B,rfl,_⟩:=h1
   rw [GE.len,GE.tx,List.append_nil]
   simp
   omega
  have hc:(GE.o8 w).nd.de=1:=by rw [GE.nd,iR,bg,aX]
  exact ⟨⟨by rw [GE.ok]; trivial,by rw [GE.c6]; exact h1,by rw [GE.dq]; exact h2,by rw [GE.dep]; omega,by rw [hc]; omega⟩,trivial,h3,hl,hc⟩
 have hB:∀b,Gd (.bool b) 0∧(GE.bool b).lit∧(GE.bool b).pos∧1≤(GE.bool b).len∧(GE.bool b).nd.de=1:=fun b=>by
  have hl:1≤(GE.bool b).len:=by rw [GE.len,GE.tx]; cases b<;>decide
  have hc:(GE.bool b).nd.de=1:=by rw [GE.nd,bg,aX]
  exact ⟨⟨by rw [GE.ok]; trivial,by rw [GE.c6]; trivial,by rw [GE.dq]; trivial,by rw [GE.dep]; omega,by rw [hc]; omega⟩,trivial,trivial,hl,hc⟩
 intro e he
 unfold lits at he
 split at he
 ·simp only [List.mem_cons,List.not_mem_nil,or_false] at he
  rcases he with rfl | rfl | rfl | rfl | rfl | rfl
  all_goals exact hI _ (jZ _ (by simp)).1 (jZ _ (by simp)).2
 ·split at he
  ·simp only [List.mem_cons,List.not_mem_nil,or_false] at he
   rcases he with rfl | rfl | rfl | rfl | rfl | rfl
   all_goals exact hF _ (rY _ (by simp)).1 (rY _ (by simp)).2.1 (rY _ (by simp)).2.2
  ·simp only [List.mem_cons,List.not_mem_nil,or_false] at he
   rcases he with rfl | rfl
   all_goals exact hB _
theorem lK {α:Type} {l:List α} {i:Nat} {x:α} (h:i<l.length):l.getD i x∈l:=by
 rw [List.getD_eq_getElem?_getD,List.getElem?_eq_getElem h]
 exact List.getElem_mem h
theorem se (L:List Int) {n:Nat} (hn:0<n) (a:Nat):(bU L n a).1.toNat<n:=by
 have:=bW L (show (0:Int)<n by omega) a
 omega
theorem A7 (L:List Int) (t:Int) (a:Nat):Gd (nD L t a).1 0∧(nD L t a).1.lit∧(nD L t a).1.pos∧1≤(nD L t a).1.len∧(nD L t a).1.nd.de=1:=RB t _ (lK (se L (Dg t) a))
theorem fg (L:List Int) {l:List (List UInt8)} (h:l≠[]) (a:Nat):(eu L l a).1∈l:=lK (se L (List.length_pos_iff.2 h) a)
theorem BU {g:Int→Nat→GE×Nat} {d:Nat} (hg:∀t a,Gd (g t a).1 d):∀(l:List Int) (a:Nat),(gR g l a).1.length=l.length∧∀e∈(gR g l a).1,Gd e d
 | [],a=>⟨rfl,fun e h=>by cases h⟩
 | t::r,a=>by
  obtain ⟨h1,h2⟩:=BU hg r (g t a).2
  refine ⟨by simp only [gR,List.length_cons,h1],fun e he=>?_⟩
  simp only [gR,List.mem_cons] at he
  rcases he with rfl | he
  ·exact hg t a
  ·exact h2 e he
theorem Gk:∀{l:List GE} {d:Nat},(∀e∈l,Gd e d)→GE.mU l∧GE.fp l∧GE.eW l∧GE.fP l≤2*d
 | [],d,h=>⟨by rw [GE.mU]; trivial,by rw [GE.fp]; trivial,by rw [GE.eW]; trivial,by rw [GE.fP]; omega⟩
 | e::l,d,h=>by
  obtain ⟨a,b,c,q⟩:=Gk (l:=l) (d:=d) fun x hx=>h x (by simp [hx])
  have he:=h e (by simp)
  refine ⟨by rw [GE.mU]; exact ⟨he.ok,a⟩,by rw [GE.fp]; exact ⟨he.c6,b⟩,by rw [GE.eW]; exact ⟨he.dq,c⟩,?_⟩
  rw [GE.fP]
  have:=he.dep
  omega
theorem Aw:∀{l:List GE} {d:Nat},(∀e∈l,Gd e d)→256*Nd.fy (GE.eo l)+250*l.length≤125*hZ l+131*(d+1)*l.length
 | [],d,h=>by rw [GE.eo,aX]; simp
 | e::l,d,h=>by
  have:=Aw (l:=l) (d:=d) fun x hx=>h x (by simp [hx])
  have he:=(h e (by simp)).wt
  have e2:131*(d+1)*(l.length+1)=131*(d+1)*l.length+131*(d+1):=Nat.mul_succ _ _
  rw [GE.eo,aQ,hZ,List.length_cons]
  omega
theorem BC (l:List GE) (r:List UInt8):(GE.cT l r).length+(if l=[] then 0 else 2)=hZ l+r.length:=by
 cases l with
 | nil=>rw [GE.cT,hZ]; simp
 | cons e l=>rw [GE.cT,hZ,dR,Km]; simp; omega
def Ft (d:Nat) (c:List UInt8×List GE):Prop:=fm c.1∧2≤c.1.length∧c.2.length≤2∧∀e∈c.2,Gd e d
theorem Cb {L:List Int} {s:Nm} (hs:gN s) {g:Int→Nat→GE×Nat} {d:Nat} (hg:∀t a,Gd (g t a).1 d) (t:Int) (a:Nat) (c:List UInt8×List GE) (b:Nat) (h:iN L s g t a=(some c,b)):Ft d c:=by
 unfold iN at h
 split at h
 ·cases h
 ·rename_i f r hf
  simp only [Prod.mk.injEq,Option.some.injEq] at h
  obtain ⟨rfl,_⟩:=h
  have hm:(f::r).getD (bU L ((f::r).length:Nat) a).1.toNat f∈s.funcs:=by
   have:=lK (x:=f) (se L (n:=(f::r).length) (by simp) a)
   rw [←hf] at this ⊢
   exact (List.mem_filter.1 this).1
  obtain ⟨h1,h2,h3⟩:=hs.fn _ hm
  obtain ⟨e1,e2⟩:=BU hg ((f::r).getD (bU L ((f::r).length:Nat) a).1.toNat f).params (bU L ((f::r).length:Nat) a).2
  exact ⟨h1,h2,by rw [e1]; exact h3,e2⟩
theorem Q4 {d:Nat} (hd:d≤2) {c:List UInt8×List GE} (h:Ft d c):Gd (.call c.1 c.2) (d+1):=by
 obtain ⟨x,l⟩:=c
 obtain ⟨h1,h2,h3,h4⟩:=h
 simp only at h1 h2 h3 h4
 obtain ⟨a,b,q,e⟩:=Gk h4
 refine ⟨by rw [GE.ok]; exact ⟨by show l.length≤6; omega,a⟩,by rw [GE.c6]; exact ⟨h1,b⟩,by rw [GE.dq]; exact q,by show (GE.call x l).dep≤_; rw [GE.dep]; omega,?_⟩
 show 256*(GE.call x l).nd.de≤125*(GE.call x l).len+_
 have hw:=Aw h4
 have hl:(GE.call x l).len=x.length+1+(GE.cT l [41]).length:=by
  rw [GE.len,GE.tx,List.length_append,List.length_cons]; omega
 have ht:=BC l [41]
 rw [hl,GE.nd,bg]
 simp only [List.length_singleton] at ht
 match l,h3 with
 | [],_=>simp only [GE.eo,aX,hZ,if_pos] at*; omega
 | [e1],_=>simp only [List.length_singleton,Nat.mul_one,reduceCtorEq,if_false] at*; omega
 | [e1,e2],_=>simp only [List.length_cons,List.length_nil,reduceCtorEq,if_false] at*; omega
theorem Qr {d:Nat} {s:List UInt8} (hs:s=[45]∨s=[33]) {e:GE} (h:Gd e d):Gd (.un s e) (d+1):=by
 refine ⟨by rw [GE.ok]; exact ⟨hs,h.ok⟩,by rw [GE.c6]; exact ⟨hs,h.c6⟩,by rw [GE.dq]; exact h.dq,by rw [GE.dep]; have:=h.dep; omega,?_⟩
 have hl:(GE.un s e).len=1+e.len:=by
  rw [GE.len,GE.tx,List.length_append]
  rcases hs with rfl | rfl<;>rfl
 have:=h.wt
 rw [hl,GE.nd,bg,aQ,aX]
 omega
theorem Hg {d:Nat} {t:Int} (ht:t=1∨t=2) {e:GE} (h:Gd e d):Gd (.conv t e) (d+1):=by
 refine ⟨by rw [GE.ok]; exact ⟨ht,h.ok⟩,by rw [GE.c6]; exact h.c6,by rw [GE.dq]; exact ⟨ht,h.dq⟩,by rw [GE.dep]; have:=h.dep; omega,?_⟩
 have hl:5+e.len≤(GE.conv t e).len:=by
  show 5+e.len≤((GE.conv t e).tx []).length
  rw [GE.tx,List.length_append,List.length_cons,dR]
  rcases ht with rfl | rfl
  ·rw [if_pos rfl]; simp [mF]; omega
  ·rw [if_neg (by decide)]; simp [fF]; omega
 have:=h.wt
 rw [GE.nd,bg,aQ,aX]
 omega
def mh:List (List UInt8):=[[43],[45],[42],[47],[37],[60],[60,61],[62],[62,61],[61,61],[33,61],[38,38],[124,124]]
theorem Gl:∀s∈mh,0<ft s∧(s==[40])=false∧s∈N4∧1≤s.length:=by decide
theorem UJ {d:Nat} (hd:d≤2) {s:List UInt8} (hs:s∈mh) {a b:GE} (h:Gd a d) (h':Gd b d):Gd (.bin s a b) (d+1):=by
 obtain ⟨o1,o2,o3,o4⟩:=Gl s hs
 refine ⟨by rw [GE.ok]; exact ⟨o1,o2,h.ok,h'.ok⟩,by rw [GE.c6]; exact ⟨o3,h.c6,h'.c6⟩,by rw [GE.dq]; exact ⟨h.dq,h'.dq⟩,by rw [GE.dep]; have:=h.dep; have:=h'.dep; omega,?_⟩
 have hl:(GE.bin s a b).len=4+s.length+a.len+b.len:=by
  rw [GE.len,GE.tx,List.length_cons,dR,List.length_cons,List.length_append,List.length_cons,dR]
  simp only [List.length_cons,List.length_nil]
  omega
 have:=h.wt
 have:=h'.wt
 rw [hl,GE.nd,bg,aQ,aQ,aX]
 omega
theorem W3 {d:Nat} {x:List UInt8} (h:fm x) (h2:2≤x.length):Gd (.var x) d:=by
 have hl:(GE.var x).len=x.length:=by rw [GE.len,GE.tx,List.append_nil]
 exact ⟨by rw [GE.ok]; trivial,by rw [GE.c6]; exact h,by rw [GE.dq]; trivial,by rw [GE.dep]; omega,by rw [hl,GE.nd,bg,aX]; omega⟩
theorem Gd.le {e:GE} {d d':Nat} (h:Gd e d) (hd:d≤d'):Gd e d':=⟨h.ok,h.c6,h.dq,by have:=h.dep; omega,by have:=h.wt; omega⟩
theorem uy {L:List Int} {g:Int→Nat→GE×Nat} {d:Nat} (hd:d≤2) (hg:∀t a,Gd (g t a).1 d) (u:Int) {ops:List (List UInt8)} (h0:ops≠[]) (ho:∀s∈ops,s∈mh) (a:Nat):Gd (xA L g u ops a).1 (d+1):=
 UJ hd (ho _ (fg L h0 _)) (hg _ _) (hg _ _)
theorem DQ {L:List Int} {g:Int→Nat→GE×Nat} {d:Nat} (hd:d≤2) (hg:∀t a,Gd (g t a).1 d) (t k:Int) (a:Nat):Gd (qU L g t k a).1 (d+1):=by
 unfold qU
 split
 ·split
  ·exact Hg (.inl rfl) (hg _ _)
  ·split
   ·exact Qr (.inl rfl) (hg _ _)
   ·exact uy hd hg _ (by decide) (by decide) _
 ·split
  ·split
   ·exact Hg (.inr rfl) (hg _ _)
   ·split
    ·exact Qr (.inl rfl) (hg _ _)
    ·exact uy hd hg _ (by decide) (by decide) _
  ·split
   ·exact Qr (.inr rfl) (hg _ _)
   ·split
    ·exact uy hd hg _ (by decide) (by decide) _
    ·exact uy hd hg _ (by decide) (by decide) _
theorem nq {L:List Int} {s:Nm} (hs:gN s):∀(d:Nat),d≤3→∀(t:Int) (a:Nat),Gd (bP L s d t a).1 d
 | 0,hd,t,a=>by rw [bP]; exact (A7 L t _).1
 | d+1,hd,t,a=>by
  have hg:=fun t a=>nq (L:=L) hs d (by omega) t a
  rw [bP]
  split
  ·exact (A7 L t _).1.le (by omega)
  ·split
   ·rename_i h
    have:=hs.var t _ (fg L h.2 (bU L 8 a).2)
    exact W3 this.1 this.2
   ·split
    ·split
     ·rename_i c b hc
      exact Q4 (by omega) (Cb hs hg t _ _ _ hc)
     ·exact DQ (by omega) hg _ _ _
    ·exact DQ (by omega) hg _ _ _
end
end Go.Proofs.YtpklkpkfgmoghaaGreatDoor.Zz
namespace Go.Proofs.YtpklkpkfgmoghaaGreatDoor.Zz
noncomputable section
mutual
theorem rm:∀(s:GS) (r:List UInt8),s.tx 10 r=s.tx 10 []++r
 | .jS x e,r=>by rw [GS.tx,GS.tx,cv e (59::r),cv e [59]]; simp
 | .mX x e,r=>by rw [GS.tx,GS.tx,cv e (59::r),cv e [59]]; simp
 | .yS e l,r=>by
  rw [GS.tx,GS.tx,dk l (125::r),dk l [125],cv e (32::123::10::_),cv e (32::123::10::(GS.cT 10 l []++[125]))]
  simp
 | .yR e l l2,r=>by
  rw [GS.tx,GS.tx,dk l2 (125::r),dk l2 [125],dk l (125::_),dk l (125::32::(jM++32::123::10::(GS.cT 10 l2 []++[125]))),cv e (32::123::10::_),cv e (32::123::10::(GS.cT 10 l []++(125::32::(jM++32::123::10::(GS.cT 10 l2 []++[125])))))]
  simp
 | .lJ e l,r=>by
  rw [GS.tx,GS.tx,dk l (125::r),dk l [125],cv e (32::123::10::_),cv e (32::123::10::(GS.cT 10 l []++[125]))]
  simp
 | .ret e,r=>by rw [GS.tx,GS.tx,cv e (59::r),cv e [59]]; simp
 | .iM e,r=>by rw [GS.tx,GS.tx,cv e (59::r),cv e [59]]; simp
 | .skip,r=>by rw [GS.tx,GS.tx]; simp
 | .xF x l,r=>by rw [GS.tx,GS.tx,jX l (41::59::r),jX l [41,59]]; simp
theorem dk:∀(l:List GS) (r:List UInt8),GS.cT 10 l r=GS.cT 10 l []++r
 | [],r=>by rw [GS.cT,GS.cT]; rfl
 | s::l,r=>by
  rw [GS.cT,GS.cT,dk l r,rm s (10::(GS.cT 10 l []++r)),rm s (10::GS.cT 10 l [])]
  simp
end
def GS.ln (s:GS):Nat:=(s.tx 10 []).length
def sl (l:List GS):Nat:=(GS.cT 10 l []).length
theorem nY (l:List GS) (r:List UInt8):(GS.cT 10 l r).length=sl l+r.length:=by rw [dk,List.length_append]; rfl
theorem sD:sl []=0:=by rw [sl,GS.cT]; rfl
theorem eX (s:GS) (l:List GS):sl (s::l)=s.ln+1+sl l:=by
 show (GS.cT 10 (s::l) []).length=_
 rw [GS.cT,rm,List.length_append,List.length_cons]
 show s.ln+((GS.cT 10 l []).length+1)=s.ln+1+(GS.cT 10 l []).length
 omega
theorem sC:∀(l r:List GS),sl (l++r)=sl l+sl r
 | [],r=>by rw [List.nil_append,sD,Nat.zero_add]
 | s::l,r=>by rw [List.cons_append,eX,eX,sC l r]; omega
theorem qF:∀(l r:List GS),GS.eo (l++r)=GS.eo l++GS.eo r
 | [],r=>by rw [GS.eo]; rfl
 | s::l,r=>by rw [List.cons_append,GS.eo,GS.eo,qF l r]; rfl
theorem vV:∀(l r:List GS),GS.mU (l++r)↔GS.mU l∧GS.mU r
 | [],r=>by rw [List.nil_append,GS.mU]; simp
 | s::l,r=>by rw [List.cons_append,GS.mU,GS.mU,vV l r]; exact (and_assoc).symm
theorem sj:∀(l r:List GS),GS.fp (l++r)↔GS.fp l∧GS.fp r
 | [],r=>by rw [List.nil_append,GS.fp]; simp
 | s::l,r=>by rw [List.cons_append,GS.fp,GS.fp,sj l r]; exact (and_assoc).symm
theorem si:∀(l r:List GS),GS.eW (l++r)↔GS.eW l∧GS.eW r
 | [],r=>by rw [List.nil_append,GS.eW]; simp
 | s::l,r=>by rw [List.cons_append,GS.eW,GS.eW,si l r]; exact (and_assoc).symm
theorem rW:∀(l r:List GS),GS.fP (l++r)=max (GS.fP l) (GS.fP r)
 | [],r=>by rw [List.nil_append,GS.fP]; omega
 | s::l,r=>by rw [List.cons_append,GS.fP,GS.fP,rW l r]; omega
structure Sd (l:List GS) (n dp:Nat):Prop where
 ok:GS.mU l
 c6:GS.fp l
 dq:GS.eW l
 len:l.length≤2*n
 dep:GS.fP l≤7+2*dp
 wt:256*Nd.fy (GS.eo l)≤125*sl l+36*n
theorem Sd.nil {n dp:Nat}:Sd [] n dp:=⟨by rw [GS.mU]; trivial,by rw [GS.fp]; trivial,by rw [GS.eW]; trivial,by simp,by rw [GS.fP]; omega,by rw [GS.eo,aX]; omega⟩
theorem Sd.cons {s:GS} {l:List GS} {n dp:Nat} (h:Sd l n dp) (h1:s.ok) (h2:s.c6) (h3:s.dq) (h4:s.dep≤7+2*dp) (h5:256*s.nd.de≤125*(s.ln+1)+36):Sd (s::l) (n+1) dp:=by
 refine ⟨by rw [GS.mU]; exact ⟨h1,h.ok⟩,by rw [GS.fp]; exact ⟨h2,h.c6⟩,by rw [GS.eW]; exact ⟨h3,h.dq⟩,by have:=h.len; rw [List.length_cons]; omega,by rw [GS.fP]; have:=h.dep; omega,?_⟩
 have:=h.wt
 rw [GS.eo,aQ,eX]
 omega
theorem Sd.up {l:List GS} {n dp:Nat} (h:Sd l n dp):Sd l (n+1) dp:=⟨h.ok,h.c6,h.dq,by have:=h.len; omega,h.dep,by have:=h.wt; omega⟩
theorem Ba (x:List UInt8) (e:GE):(GS.jS x e).ln=x.length+5+e.len:=by
 show ((GS.jS x e).tx 10 []).length=_
 rw [GS.tx]
 simp only [List.length_append,List.length_cons,List.length_nil,dR]
 omega
theorem A9 (x:List UInt8) (e:GE):(GS.mX x e).ln=x.length+4+e.len:=by
 show ((GS.mX x e).tx 10 []).length=_
 rw [GS.tx]
 simp only [List.length_append,List.length_cons,List.length_nil,dR]
 omega
theorem NT (e:GE) (l:List GS):(GS.yS e l).ln=7+e.len+sl l:=by
 show ((GS.yS e l).tx 10 []).length=_
 rw [GS.tx]
 simp only [List.length_append,List.length_cons,List.length_nil,dR,nY,Fq]
 omega
theorem NS (e:GE) (l l2:List GS):(GS.yR e l l2).ln=16+e.len+sl l+sl l2:=by
 show ((GS.yR e l l2).tx 10 []).length=_
 rw [GS.tx]
 simp only [List.length_append,List.length_cons,List.length_nil,dR,nY,Fq,jM]
 omega
theorem HJ (e:GE) (l:List GS):(GS.lJ e l).ln=8+e.len+sl l:=by
 show ((GS.lJ e l).tx 10 []).length=_
 rw [GS.tx]
 simp only [List.length_append,List.length_cons,List.length_nil,dR,nY,Fg]
 omega
theorem VF (e:GE):(GS.ret e).ln=8+e.len:=by
 show ((GS.ret e).tx 10 []).length=_
 rw [GS.tx]
 simp only [List.length_append,List.length_cons,List.length_nil,dR,lf]
 omega
theorem A_ (e:GE):(GS.iM e).ln=8+e.len:=by
 show ((GS.iM e).tx 10 []).length=_
 rw [GS.tx]
 simp only [List.length_append,List.length_cons,List.length_nil,dR,ld]
 omega
theorem HK:GS.skip.ln=5:=by
 show (GS.skip.tx 10 []).length=_
 rw [GS.tx]; rfl
theorem NR (x:List UInt8) (l:List GE):(GS.xF x l).ln+(if l=[] then 0 else 2)=x.length+3+hZ l:=by
 show ((GS.xF x l).tx 10 []).length+_=_
 have:=BC l [41,59]
 rw [GS.tx]
 simp only [List.length_append,List.length_cons,List.length_nil] at this ⊢
 omega
theorem UZ {x:List UInt8} {e:GE} {l:List GS} {n dp:Nat} (hx:fm x) (h2:2≤x.length) (he:Gd e 2) (h:Sd l n dp):Sd (.jS x e::l) (n+1) dp:=by
 refine h.cons (by rw [GS.ok]; exact he.ok) (by rw [GS.c6]; exact ⟨hx,he.c6⟩) (by rw [GS.dq]; exact he.dq) (by rw [GS.dep]; have:=he.dep; omega) ?_
 have:=he.wt
 rw [Ba,GS.nd,bg,aQ,aX]
 omega
theorem UF {x:List UInt8} {e:GE} {l:List GS} {n dp:Nat} (hx:fm x) (h2:2≤x.length) (he:Gd e 2) (h:Sd l n dp):Sd (.mX x e::l) (n+1) dp:=by
 refine h.cons (by rw [GS.ok]; exact he.ok) (by rw [GS.c6]; exact ⟨hx,he.c6⟩) (by rw [GS.dq]; exact he.dq) (by rw [GS.dep]; have:=he.dep; omega) ?_
 have:=he.wt
 rw [A9,GS.nd,bg,aQ,aX]
 omega
theorem Yv {e:GE} {b l:List GS} {n dp:Nat} (he:Gd e 2) (hb:Sd b 3 dp) (h:Sd l n (dp+1)):Sd (.yS e b::l) (n+1) (dp+1):=by
 refine h.cons (by rw [GS.ok]; exact ⟨he.ok,by have:=hb.len; omega,hb.ok⟩) (by rw [GS.c6]; exact ⟨he.c6,hb.c6⟩) (by rw [GS.dq]; exact ⟨he.dq,hb.dq⟩) (by rw [GS.dep]; have:=he.dep; have:=hb.dep; omega) ?_
 have:=he.wt
 have:=hb.wt
 rw [NT,GS.nd,bg,aQ,aQ,aX,bg]
 omega
theorem Vx {e:GE} {b c l:List GS} {n dp:Nat} (he:Gd e 2) (hb:Sd b 3 dp) (hc:Sd c 3 dp) (h:Sd l n (dp+1)):Sd (.yR e b c::l) (n+1) (dp+1):=by
 refine h.cons (by rw [GS.ok]; exact ⟨he.ok,⟨by have:=hb.len; omega,hb.ok⟩,by have:=hc.len; omega,hc.ok⟩) (by rw [GS.c6]; exact ⟨he.c6,hb.c6,hc.c6⟩) (by rw [GS.dq]; exact ⟨he.dq,hb.dq,hc.dq⟩) (by rw [GS.dep]; have:=he.dep; have:=hb.dep; have:=hc.dep; omega) ?_
 have:=he.wt
 have:=hb.wt
 have:=hc.wt
 rw [NS,GS.nd,bg,aQ,aQ,aQ,aX,bg,bg]
 omega
theorem QU {e:GE} {l:List GS} {n dp:Nat} (he:Gd e 3) (h:Sd l n dp):Sd (.iM e::l) (n+1) dp:=by
 refine h.cons (by rw [GS.ok]; exact he.ok) (by rw [GS.c6]; exact he.c6) (by rw [GS.dq]; exact he.dq) (by rw [GS.dep]; have:=he.dep; omega) ?_
 have:=he.wt
 rw [A_,GS.nd,bg,aQ,aX]
 omega
theorem Sy {l:List GS} {n dp:Nat} (h:Sd l n dp):Sd (.skip::l) (n+1) dp:=by
 refine h.cons (by rw [GS.ok]; trivial) (by rw [GS.c6]; trivial) (by rw [GS.dq]; trivial) (by rw [GS.dep]; omega) ?_
 rw [HK,GS.nd,bg,aX]
 omega
theorem XP {c:List UInt8×List GE} {l:List GS} {n dp:Nat} (hc:Ft 1 c) (h:Sd l n dp):Sd (.xF c.1 c.2::l) (n+1) dp:=by
 obtain ⟨x,ls⟩:=c
 obtain ⟨h1,h2,h3,h4⟩:=hc
 simp only at h1 h2 h3 h4 ⊢
 obtain ⟨a,b,q,e⟩:=Gk h4
 refine h.cons (by rw [GS.ok]; exact ⟨by omega,a⟩) (by rw [GS.c6]; exact ⟨h1,b⟩) (by rw [GS.dq]; exact q) (by rw [GS.dep]; omega) ?_
 have hw:=Aw h4
 have hl:=NR x ls
 rw [GS.nd,bg,aQ,aX,bg]
 clear e q b a h4
 rcases ls with _ | ⟨e1,_ | ⟨e2,_ | ⟨e3,r⟩⟩⟩
 ·rw [if_pos rfl] at hl
  rw [GE.eo,aX,hZ] at*
  omega
 ·rw [if_neg (by simp)] at hl
  simp only [List.length_cons,List.length_nil] at hw
  omega
 ·rw [if_neg (by simp)] at hl
  simp only [List.length_cons,List.length_nil] at hw
  omega
 ·simp only [List.length_cons] at h3; omega
end
end Go.Proofs.YtpklkpkfgmoghaaGreatDoor.Zz
namespace Go.Proofs.YtpklkpkfgmoghaaGreatDoor.Zz
noncomputable section
def Tt (x:List UInt8):Bool:=match x with
 | []=>false
 | c::w=>eh (c.toNat:Int) && w.all (fun y=>gm (y.toNat:Int)) && !(words.contains (c::w)) && decide ((c::w).length≤16) && decide (2≤(c::w).length)
theorem sc {x:List UInt8} (h:Tt x=true):fm x∧2≤x.length:=by
 cases x with
 | nil=>cases h
 | cons c w=>
  simp only [Tt,Bool.and_eq_true,decide_eq_true_eq,List.all_eq_true,Bool.not_eq_true'] at h
  exact ⟨⟨c,w,rfl,h.1.1.1.1,h.1.1.1.2,h.1.1.2,h.1.2⟩,h.2⟩
def xK (n:Nat):List UInt8:=if n<10 then [UInt8.ofNat (48+n)] else [UInt8.ofNat (48+n / 10),UInt8.ofNat (48+n % 10)]
theorem Bg {n:Nat} (h:n<100):bK n=xK n:=by
 rw [bK,Lib.itoa,if_neg (by omega),Int.toNat_natCast,xK]
 split
 ·exact Lib.decDigits_one (by assumption)
 ·exact Lib.decDigits_two (by assumption) h
theorem RG:((List.range 3).all fun d=>(List.range 21).all fun f=>Tt ([118]++xK d++[120]++xK f) && Tt ([105]++xK d++[120]++xK f))=true:=by kernel_rfl
theorem RE:((List.range 5).all fun i=>Tt ([103]++xK i) && Tt ([102]++xK i) && Tt ([112]++xK i) && Tt ([116]++xK i))=true:=by kernel_rfl
theorem RF {d f:Nat} (hd:d≤2) (hf:f≤20):(fm ([118]++bK d++[120]++bK f)∧2≤([118]++bK d++[120]++bK f).length)∧fm ([105]++bK d++[120]++bK f)∧2≤([105]++bK d++[120]++bK f).length:=by
 have h:=RG
 simp only [List.all_eq_true,List.mem_range,Bool.and_eq_true] at h
 have:=h d (by omega) f (by omega)
 rw [Bg (by omega),Bg (by omega)]
 exact ⟨sc this.1,sc this.2⟩
theorem Gg {i:Nat} (hi:i≤4):(fm ([103]++bK i)∧2≤([103]++bK i).length)∧(fm ([102]++bK i)∧2≤([102]++bK i).length)∧(fm ([112]++bK i)∧2≤([112]++bK i).length)∧fm ([116]++bK i)∧2≤([116]++bK i).length:=by
 have h:=RE
 simp only [List.all_eq_true,List.mem_range,Bool.and_eq_true] at h
 have:=h i (by omega)
 rw [Bg (by omega)]
 exact ⟨sc this.1.1.1,sc this.1.1.2,sc this.1.2,sc this.2⟩
theorem gN.with {s:Nm} (h:gN s) {x:List UInt8} (h1:fm x) (h2:2≤x.length) (t:Int):gN (s.with x t):=by
 have e1:(s.with x t).funcs=s.funcs:=by unfold Nm.with; split<;>(try rfl); split<;>rfl
 refine ⟨fun u y hy=>?_,fun f hf=>h.fn f (by rw [e1] at hf; exact hf)⟩
 have:y∈s.of u∨y=x:=by
  unfold Nm.with Nm.of at hy
  unfold Nm.of
  by_cases t0:t=0<;>by_cases t1:t=1<;>by_cases u0:u=0<;>by_cases u1:u=1<;>simp_all
  all_goals (first | omega | (rcases hy with hy | hy<;>simp_all))
 rcases this with hy | rfl
 ·exact h.var u y hy
 ·exact ⟨h1,h2⟩
theorem gN.fresh {s:Nm} (h:gN s) (n:Nat):gN { s with fresh:=n }:=⟨h.var,h.fn⟩
theorem gf (s:Nm) (x:List UInt8) (t:Int):(s.with x t).fresh=s.fresh:=by unfold Nm.with; split<;>(try rfl); split<;>rfl
theorem U3 {x:List UInt8} {b r:List GS} {n d q:Nat} (Vw:fm x) (h2x:2≤x.length) (hq:q<10) (CP:Sd b 3 d) (hr:Sd r n (d+1)):Sd (.jS x (.int [48])::.lJ (.bin [60] (.var x) (.int (bK q))) (b++[.mX x (.bin [43] (.var x) (.int [49]))])::r) (n+1) (d+1):=by
 have hint:∀j,j<10→yU (bK j)∧Lib.itoa ((dX (bK j):Nat):Int)=bK j∧(bK j).length=1:=fun j hj=>by
  have e1:bK j=[UInt8.ofNat (48+j)]:=jn hj
  have:∀i:Fin 10,(decide (dX [UInt8.ofNat (48+i.1)]=i.1) && isDigit (((UInt8.ofNat (48+i.1))).toNat:Int) && od [UInt8.ofNat (48+i.1)])=true:=by decide
  have:=this ⟨j,hj⟩
  simp only [Bool.and_eq_true,decide_eq_true_eq] at this
  rw [e1]
  refine ⟨⟨by simp,fun y hy=>?_,this.2⟩,?_,rfl⟩
  ·rw [List.mem_singleton.1 hy]; exact this.1.2
  ·rw [this.1.1]; exact jn hj
 have hgI:∀w,yU w→Lib.itoa ((dX w:Nat):Int)=w→(GE.int w).ok∧(GE.int w).c6∧(GE.int w).dq∧(GE.int w).dep=0∧(GE.int w).nd.de=1∧(GE.int w).len=w.length:=fun w h1 h2=>⟨by rw [GE.ok]; trivial,by rw [GE.c6]; exact h1,by rw [GE.dq]; exact h2,by rw [GE.dep],by rw [GE.nd,bg,aX],by rw [GE.len,GE.tx,List.append_nil]⟩
 have g0:=hgI [48] (jZ _ (by simp)).1 (jZ _ (by simp)).2
 have g1:=hgI [49] (jZ _ (by simp)).1 (jZ _ (by simp)).2
 have gq:=hgI (bK q) (hint q hq).1 (hint q hq).2.1
 have hlq:=(hint q hq).2.2
 have hx:(GE.var x).ok∧(GE.var x).c6∧(GE.var x).dq∧(GE.var x).dep=0∧(GE.var x).nd.de=1∧(GE.var x).len=x.length:=⟨by rw [GE.ok]; trivial,by rw [GE.c6]; exact Vw,by rw [GE.dq]; trivial,by rw [GE.dep],by rw [GE.nd,bg,aX],by rw [GE.len,GE.tx,List.append_nil]⟩
 obtain ⟨x1,x2,x3,x4,x5,x6⟩:=hx
 obtain ⟨y1,y2,y3,y4,y5,y6⟩:=g0
 obtain ⟨z1,z2,z3,z4,z5,z6⟩:=g1
 obtain ⟨w1,w2,w3,w4,w5,w6⟩:=gq
 have hx2:=h2x
 have o60:=Gl [60] (by decide)
 have o43:=Gl [43] (by decide)
 have lb:∀(s:List UInt8) (a b:GE),(GE.bin s a b).len=4+s.length+a.len+b.len:=fun s a b=>by
  rw [GE.len,GE.tx,List.length_cons,dR,List.length_cons,List.length_append,List.length_cons,dR]
  simp only [List.length_cons,List.length_nil]
  omega
 have db:∀(s:List UInt8) (a b:GE),(GE.bin s a b).dep=max (1+a.dep) (2+b.dep):=fun s a b=>by rw [GE.dep]
 have hla:=CP.len
 have hlr:=hr.len
 have hda:=CP.dep
 have hdr:=hr.dep
 have hwa:=CP.wt
 have hwr:=hr.wt
 refine ⟨?_,?_,?_,?_,?_,?_⟩
 ·rw [GS.mU,GS.mU,GS.ok,GS.ok,vV,GS.mU,GS.mU,GS.ok,GE.ok,GE.ok]
  exact ⟨y1,⟨⟨o60.1,o60.2.1,x1,w1⟩,by rw [List.length_append,List.length_singleton]; omega,CP.ok,⟨o43.1,o43.2.1,x1,z1⟩,trivial⟩,hr.ok⟩
 ·rw [GS.fp,GS.fp,GS.c6,GS.c6,sj,GS.fp,GS.fp,GS.c6,GE.c6,GE.c6]
  exact ⟨⟨Vw,y2⟩,⟨⟨o60.2.2.1,x2,w2⟩,CP.c6,⟨Vw,o43.2.2.1,x2,z2⟩,trivial⟩,hr.c6⟩
 ·rw [GS.eW,GS.eW,GS.dq,GS.dq,si,GS.eW,GS.eW,GS.dq,GE.dq,GE.dq]
  exact ⟨y3,⟨⟨x3,w3⟩,CP.dq,⟨x3,z3⟩,trivial⟩,hr.dq⟩
 ·rw [List.length_cons,List.length_cons]; omega
 ·rw [GS.fP,GS.fP,GS.dep,GS.dep,rW,GS.fP,GS.fP,GS.dep,db,db,x4,y4,z4,w4]
  omega
 ·skip
  have jO:(GE.bin [60] (.var x) (.int (bK q))).nd.de=3:=by rw [GE.nd,bg,aQ,aQ,aX,x5,w5]
  have jQ:(GE.bin [43] (.var x) (.int [49])).nd.de=3:=by rw [GE.nd,bg,aQ,aQ,aX,x5,z5]
  simp only [GS.eo,GS.nd,aQ,aX,bg,qF,nh,jO,jQ,y5,eX,sC,sD,Ba,HJ,A9,lb,x6,y6,z6,w6,hlq,List.length_cons,List.length_nil]
  omega
theorem sE {L:List Int} {blk:Nm→Nat→List GS×Nat} {dp:Nat} {test:Bool} (X5:dp≤2) (hb:∀d,dp=d+1→∀s a,gN s→s.fresh+3+3*d≤20→Sd (blk s a).1 3 d):
  ∀(n:Nat) (s:Nm) (a:Nat),gN s→s.fresh+n+3*dp≤20→Sd (dJ L blk dp test n s a).1 n dp
 | 0,s,a,hs,hf=>Sd.nil
 | n+1,s,a,hs,hf=>by
  have ih:=sE (L:=L) (test:=test) X5 hb n
  have he:=fun d hd t a=>nq (L:=L) hs d hd t a
  have nv:=RF X5 (f:=s.fresh+1) (by omega)
  rw [dJ]
  simp only
  split
  ·have h1:=hs.fresh (s.fresh+1)
   exact UZ nv.1.1 nv.1.2 (nq h1 2 (by omega) _ _) (ih _ _ (h1.with nv.1.1 nv.1.2 _) (by rw [gf]; simp only; omega))
  ·split
   ·split
    ·exact (ih _ _ hs (by omega)).up
    ·rename_i h0
     have:=hs.var _ _ (fg L h0 (bU L 3 (bU L 7 a).2).2)
     exact UF this.1 this.2 (he 2 (by omega) _ _) (ih _ _ hs (by omega))
   ·split
    ·rename_i h
     obtain ⟨d,rfl⟩:∃d,dp=d+1:=⟨dp - 1,by omega⟩
     split
     ·exact Vx (he 2 (by omega) _ _) (hb d rfl _ _ hs (by omega)) (hb d rfl _ _ hs (by omega)) (ih _ _ hs (by omega))
     ·exact Yv (he 2 (by omega) _ _) (hb d rfl _ _ hs (by omega)) (ih _ _ hs (by omega))
    ·split
     ·rename_i h
      obtain ⟨d,rfl⟩:∃d,dp=d+1:=⟨dp - 1,by omega⟩
      have h1:=hs.fresh (s.fresh+1)
      have CP:=hb d rfl _ (bU L 4 (bU L 7 a).2).2 (h1.with nv.2.1 nv.2.2 0) (by rw [gf]; simp only; omega)
      have hr:=ih { s with fresh:=s.fresh+1 } (blk ({ s with fresh:=s.fresh+1 }.with ([105]++bK (d+1)++[120]++bK (s.fresh+1)) 0) (bU L 4 (bU L 7 a).2).2).2 h1 (by simp only; omega)
      have hq:(bU L 4 (bU L 7 a).2).1.toNat<10:=by have:=bW L (n:=4) (by decide) (bU L 7 a).2; omega
      exact U3 nv.2.1 nv.2.2 hq CP hr
     ·split
      ·exact QU (he 3 (by omega) _ _) (ih _ _ hs (by omega))
      ·split
       ·split
        ·rename_i c b hc
         exact XP (Cb hs (fun t a=>he 1 (by omega) t a) _ _ _ _ hc) (ih _ _ hs (by omega))
        ·exact (ih _ _ hs (by omega)).up
       ·exact Sy (ih _ _ hs (by omega))
theorem Sd.le {l:List GS} {n n' dp:Nat} (h:Sd l n dp) (hn:n≤n'):Sd l n' dp:=⟨h.ok,h.c6,h.dq,by have:=h.len; omega,h.dep,by have:=h.wt; omega⟩
theorem rS {L:List Int} {test:Bool}:∀(d:Nat),d≤2→∀(s:Nm) (a:Nat),gN s→s.fresh+3+3*d≤20→Sd (du L test d s a).1 3 d
 | 0,hd,s,a,hs,hf=>by
  have hn:=bW L (n:=4) (by decide) a
  rw [du]
  exact (sE (by omega) (fun d h=>by omega) _ _ _ hs (by omega)).le (by omega)
 | d+1,hd,s,a,hs,hf=>by
  have hn:=bW L (n:=4) (by decide) a
  rw [du]
  exact (sE (by omega) (fun e h s a hs hf=>by
   obtain rfl:d=e:=by omega
   exact rS d (by omega) s a hs hf) _ _ _ hs (by omega)).le (by omega)
theorem RQ:∀(l:List (List UInt8×Int)) (r:List UInt8),(∀p∈l,2≤p.1.length)→6*l.length+r.length≤(gG l r).length+(if l=[] then 0 else 0):=by
 have ht:∀(l:List (List UInt8×Int)) (r:List UInt8),(∀p∈l,2≤p.1.length)→6*l.length+r.length≤(fV l r).length:=by
  intro l
  induction l with
  | nil=>intro r _; simp [fV]
  | cons p l ih=>
   intro r h
   have h1:=h p (by simp)
   have h2:=ih r fun q hq=>h q (by simp [hq])
   have h3:3≤(gk p.2).length:=by unfold gk; split<;>(try split)<;>decide
   rw [fV]
   simp only [List.length_cons,List.length_append]
   omega
 intro l r h
 cases l with
 | nil=>simp [gG]
 | cons p l=>
  have h1:=h p (by simp)
  have h2:=ht l r fun q hq=>h q (by simp [hq])
  have h3:3≤(gk p.2).length:=by unfold gk; split<;>(try split)<;>decide
  rw [gG]
  simp only [List.length_cons,List.length_append]
  omega
structure Dd (D:GD) (x:Nat):Prop where
 ok:D.ok
 c6:D.c6
 dq:D.dq
 wt:∀r:List UInt8,256*D.nd.de+x+125*r.length≤125*((D.tx 10 (10::r)).length)
theorem Qq (t:Int):3≤(gk t).length:=by unfold gk; split<;>(try split)<;>decide
theorem W2 {x:List UInt8} {t:Int} {e:GE} (hx:fm x) (h2:2≤x.length) (ht:BE t) (he:Gd e 0∧e.lit∧e.pos∧1≤e.len∧e.nd.de=1):Dd (.var x t e) 0:=by
 obtain ⟨h3,h4,h5,h6,h7⟩:=he
 refine ⟨by rw [GD.ok]; exact ⟨ht,h4⟩,by rw [GD.c6]; exact ⟨hx,h3.c6⟩,by rw [GD.dq]; exact ⟨ht,⟨h4,h3.dq⟩,h5⟩,fun r=>?_⟩
 have:=Qq t
 rw [GD.tx,GD.nd,bg,aQ,aX,h7]
 simp only [List.length_append,List.length_cons,List.length_nil,dR,kD]
 omega
theorem Sd.snoc {l:List GS} (h:Sd l 3 2) {s:GS} (h1:s.ok) (h2:s.c6) (h3:s.dq) (h4:s.dep≤7):GS.mU (l++[s])∧GS.fp (l++[s])∧GS.eW (l++[s])∧(l++[s]).length≤32∧GS.fP (l++[s])≤39:=by
 refine ⟨(vV l [s]).2 ⟨h.ok,by rw [GS.mU,GS.mU]; exact ⟨h1,trivial⟩⟩,(sj l [s]).2 ⟨h.c6,by rw [GS.fp,GS.fp]; exact ⟨h2,trivial⟩⟩,(si l [s]).2 ⟨h.dq,by rw [GS.eW,GS.eW]; exact ⟨h3,trivial⟩⟩,by have:=h.len; rw [List.length_append,List.length_singleton]; omega,?_⟩
 rw [rW,GS.fP,GS.fP]
 have:=h.dep
 omega
theorem Rc {x:List UInt8} {ps:List (List UInt8×Int)} {t:Int} {l:List GS} {e:GE} (hx:fm x) (h2:2≤x.length) (hp:∀p∈ps,fm p.1∧2≤p.1.length∧BE p.2) (hn:ps.length≤2) (ht:BE t) (hl:Sd l 3 2) (he:Gd e 3):Dd (.func x ps t (l++[.ret e])) 0:=by
 obtain ⟨a1,a2,a3,a4,a5⟩:=hl.snoc (s:=.ret e) (by rw [GS.ok]; exact he.ok) (by rw [GS.c6]; exact he.c6) (by rw [GS.dq]; exact he.dq) (by rw [GS.dep]; have:=he.dep; omega)
 refine ⟨by rw [GD.ok]; exact ⟨by omega,fun p h=>(hp p h).2.2,ht,a4,a1,a5⟩,by rw [GD.c6]; exact ⟨hx,fun p h=>(hp p h).1,a2⟩,by rw [GD.dq]; exact ⟨fun p h=>(hp p h).2.2,ht,a3⟩,fun r=>?_⟩
 have h3:=Qq t
 have h4:=RQ ps (41::32::(gk t++32::123::10::GS.cT 10 (l++[.ret e]) (125::10::r))) fun p h=>(hp p h).2.1
 have h5:=hl.wt
 have h6:=he.wt
 have h7:sl (l++[.ret e])=sl l+(8+e.len+1):=by rw [sC,eX,sD,VF]
 have h8:((GD.func x ps t (l++[.ret e])).nd).de=3+ps.length+Nd.fy (GS.eo l)+e.nd.de:=by
  rw [GD.nd,bg,nh,vb,aQ,aX,bg,qF,nh,GS.eo,GS.eo,aQ,aX,GS.nd,bg,aQ,aX]
  omega
 rw [h8,GD.tx]
 simp only [List.length_append,List.length_cons,List.length_nil,nY,h7,rI] at h4 ⊢
 simp only [ite_self] at h4
 omega
theorem SJ {x:List UInt8} {l:List GS} {e:GE} (hx:fm x) (h2:2≤x.length) (hl:Sd l 3 2) (he:Gd e 3):Dd (.test x (l++[.iM e])) 256:=by
 obtain ⟨a1,a2,a3,a4,a5⟩:=hl.snoc (s:=.iM e) (by rw [GS.ok]; exact he.ok) (by rw [GS.c6]; exact he.c6) (by rw [GS.dq]; exact he.dq) (by rw [GS.dep]; have:=he.dep; omega)
 refine ⟨by rw [GD.ok]; exact ⟨a4,a1,a5⟩,by rw [GD.c6]; exact ⟨hx,a2⟩,by rw [GD.dq]; exact a3,fun r=>?_⟩
 have h5:=hl.wt
 have h6:=he.wt
 have h7:sl (l++[.iM e])=sl l+(8+e.len+1):=by rw [sC,eX,sD,A_]
 have h8:((GD.test x (l++[.iM e])).nd).de=3+Nd.fy (GS.eo l)+e.nd.de:=by
  rw [GD.nd,bg,aQ,aX,bg,qF,nh,GS.eo,GS.eo,aQ,aX,GS.nd,bg,aQ,aX]
  omega
 rw [h8,GD.tx]
 simp only [List.length_append,List.length_cons,List.length_nil,nY,h7,rJ]
 omega
end
end Go.Proofs.YtpklkpkfgmoghaaGreatDoor.Zz
namespace Go.Proofs.YtpklkpkfgmoghaaGreatDoor.Zz
noncomputable section
def eL:Nat→Nat
 | 0=>19
 | d+1=>2*eL d+20
theorem Hk (d:Nat):eL (d+1)=2*eL d+20:=rfl
theorem Tc:∀d:Nat,19≤eL d
 | 0=>Nat.le_refl _
 | d+1=>by have:=Tc d; rw [Hk]; omega
theorem Td {d:Nat} (h:d≤3):eL d≤292:=by
 match d,h with
 | 0,_=>decide
 | 1,_=>decide
 | 2,_=>decide
 | 3,_=>decide
theorem Be {x:List UInt8} (h:fm x):x.length≤16:=by
 obtain ⟨c,w,rfl,_,_,_,h⟩:=h
 exact h
theorem RC (t:Int):∀e∈lits t,e.len≤19:=by
 intro e he
 unfold lits at he
 split at he
 ·simp only [List.mem_cons,List.not_mem_nil,or_false] at he
  rcases he with rfl | rfl | rfl | rfl | rfl | rfl<;>(rw [GE.len,GE.tx]; decide)
 ·split at he
  ·simp only [List.mem_cons,List.not_mem_nil,or_false] at he
   rcases he with rfl | rfl | rfl | rfl | rfl | rfl<;>(rw [GE.len,GE.tx]; decide)
  ·simp only [List.mem_cons,List.not_mem_nil,or_false] at he
   rcases he with rfl | rfl<;>(rw [GE.len,GE.tx]; decide)
theorem A8 (L:List Int) (t:Int) (a:Nat):(nD L t a).1.len≤19:=RC t _ (lK (se L (Dg t) a))
theorem BV {g:Int→Nat→GE×Nat} {B:Nat} (hg:∀t a,(g t a).1.len≤B):∀(l:List Int) (a:Nat),(gR g l a).1.length=l.length∧hZ (gR g l a).1≤(2+B)*l.length
 | [],a=>⟨rfl,by rw [gR,hZ]; omega⟩
 | t::r,a=>by
  obtain ⟨h1,h2⟩:=BV hg r (g t a).2
  have:=hg t a
  rw [gR]
  simp only [List.length_cons,h1,hZ,Nat.mul_succ,true_and]
  omega
def Fs (B:Nat) (c:List UInt8×List GE):Prop:=c.1.length≤16∧c.2.length≤2∧hZ c.2≤2*(2+B)
theorem u9 {L:List Int} {s:Nm} (hs:gN s) {g:Int→Nat→GE×Nat} {B:Nat} (hg:∀t a,(g t a).1.len≤B) (t:Int) (a:Nat) (c:List UInt8×List GE) (b:Nat) (h:iN L s g t a=(some c,b)):Fs B c:=by
 unfold iN at h
 split at h
 ·cases h
 ·rename_i f r hf
  simp only [Prod.mk.injEq,Option.some.injEq] at h
  obtain ⟨rfl,_⟩:=h
  have hm:(f::r).getD (bU L ((f::r).length:Nat) a).1.toNat f∈s.funcs:=by
   have:=lK (x:=f) (se L (n:=(f::r).length) (by simp) a)
   rw [←hf] at this ⊢
   exact (List.mem_filter.1 this).1
  obtain ⟨h1,h2,h3⟩:=hs.fn _ hm
  generalize (f::r).getD (bU L ((f::r).length:Nat) a).1.toNat f=F at h1 h2 h3 ⊢
  obtain ⟨e1,e2⟩:=BV hg F.params (bU L ((f::r).length:Nat) a).2
  refine ⟨Be h1,by show (gR g F.params _).1.length≤2; rw [e1]; exact h3,Nat.le_trans e2 ?_⟩
  rw [Nat.mul_comm]
  exact Nat.mul_le_mul_right _ h3
theorem MQ (x:List UInt8) (l:List GE):(GE.call x l).len+(if l=[] then 0 else 2)=x.length+2+hZ l:=by
 have:=BC l [41]
 rw [GE.len,GE.tx,List.length_append,List.length_cons]
 simp only [List.length_singleton] at this
 omega
theorem Hb {B:Nat} {c:List UInt8×List GE} (h:Fs B c):(GE.call c.1 c.2).len≤2*B+20:=by
 obtain ⟨x,l⟩:=c
 obtain ⟨h1,h2,h3⟩:=h
 simp only at h1 h2 h3 ⊢
 have:=MQ x l
 by_cases c:l=[]
 ·subst c
  rw [hZ] at this
  rw [if_pos rfl] at this
  omega
 ·rw [if_neg c] at this
  omega
theorem W1 {s:List UInt8} (e:GE):(GE.un s e).len=s.length+e.len:=by
 rw [GE.len,GE.tx,List.length_append]; rfl
theorem MU (t:Int) (e:GE):(GE.conv t e).len=(if t=1 then mF else fF).length+2+e.len:=by
 rw [GE.len,GE.tx,List.length_append,List.length_cons,dR]
 simp only [List.length_cons,List.length_nil]
 omega
theorem AE {s:List UInt8} (a b:GE):(GE.bin s a b).len=4+s.length+a.len+b.len:=by
 rw [GE.len,GE.tx,List.length_cons,dR,List.length_cons,List.length_append,List.length_cons,dR]
 simp only [List.length_cons,List.length_nil]
 omega
theorem Ku (x:List UInt8):(GE.var x).len=x.length:=by rw [GE.len,GE.tx,List.append_nil]
theorem A4 (x:List UInt8):(GE.int x).len=x.length:=by rw [GE.len,GE.tx,List.append_nil]
theorem Qs {B:Nat} {s:List UInt8} (hs:s.length≤1) {e:GE} (h:e.len≤B):(GE.un s e).len≤2*B+20:=by rw [W1]; omega
theorem Hh {B:Nat} {t:Int} {e:GE} (h:e.len≤B):(GE.conv t e).len≤2*B+20:=by
 rw [MU]
 have:(if t=1 then mF else fF).length≤5:=by split<;>decide
 omega
theorem lP:∀s∈mh,s.length≤2:=by decide
theorem uz {L:List Int} {g:Int→Nat→GE×Nat} {B:Nat} (hg:∀t a,(g t a).1.len≤B) (u:Int) {ops:List (List UInt8)} (h0:ops≠[]) (ho:∀s∈ops,s∈mh) (a:Nat):(xA L g u ops a).1.len≤2*B+20:=by
 show (GE.bin _ _ _).len≤_
 rw [AE]
 have h1:=lP _ (ho _ (fg L h0 (g u a).2))
 have h2:=hg u a
 have h3:=hg u (eu L ops (g u a).2).2
 omega
theorem DR {L:List Int} {g:Int→Nat→GE×Nat} {B:Nat} (hg:∀t a,(g t a).1.len≤B) (t k:Int) (a:Nat):(qU L g t k a).1.len≤2*B+20:=by
 unfold qU
 split
 ·split
  ·exact Hh (hg _ _)
  ·split
   ·exact Qs (by decide) (hg _ _)
   ·exact uz hg _ (by decide) (by decide) _
 ·split
  ·split
   ·exact Hh (hg _ _)
   ·split
    ·exact Qs (by decide) (hg _ _)
    ·exact uz hg _ (by decide) (by decide) _
  ·split
   ·exact Qs (by decide) (hg _ _)
   ·split
    ·exact uz hg _ (by decide) (by decide) _
    ·exact uz hg _ (by decide) (by decide) _
theorem eG {L:List Int} {s:Nm} (hs:gN s):∀(d:Nat) (t:Int) (a:Nat),(bP L s d t a).1.len≤eL d
 | 0,t,a=>by rw [bP]; exact A8 L t _
 | d+1,t,a=>by
  have hg:=fun t a=>eG (L:=L) hs d t a
  have h19:=Tc d
  rw [bP,Hk]
  split
  ·exact Nat.le_trans (A8 L t _) (by omega)
  ·split
   ·rename_i h
    have:=Be (hs.var t _ (fg L h.2 (bU L 8 a).2)).1
    rw [Ku]
    omega
   ·split
    ·split
     ·rename_i c b hc
      exact Hb (u9 hs hg t _ _ _ hc)
     ·exact DR hg _ _ _
    ·exact DR hg _ _ _
def bL:Nat→Nat
 | 0=>903
 | d+1=>903+6*bL d
def qL:Nat→Nat
 | 0=>301
 | d+1=>301+2*bL d
theorem oy {n:Nat} (h:n<10):(bK n).length=1:=by unfold bK; rw [jn h]; rfl
theorem XO {c:List UInt8×List GE} {B:Nat} (h:Fs B c):(GS.xF c.1 c.2).ln≤2*B+21:=by
 obtain ⟨x,l⟩:=c
 obtain ⟨h1,h2,h3⟩:=h
 simp only at h1 h2 h3 ⊢
 have:=NR x l
 by_cases c:l=[]
 ·subst c
  rw [hZ] at this
  rw [if_pos rfl] at this
  omega
 ·rw [if_neg c] at this
  omega
theorem o5 {L:List Int} {blk:Nm→Nat→List GS×Nat} {dp:Nat} {test:Bool} (X5:dp≤2) (hb:∀d,dp=d+1→∀s a,gN s→s.fresh+3+3*d≤20→sl (blk s a).1≤bL d):
  ∀(n:Nat) (s:Nm) (a:Nat),gN s→s.fresh+n+3*dp≤20→sl (dJ L blk dp test n s a).1≤n*qL dp
 | 0,s,a,hs,hf=>by rw [dJ,sD]; omega
 | n+1,s,a,hs,hf=>by
  have ih:=o5 (L:=L) (test:=test) X5 hb n
  have he:∀(s:Nm),gN s→∀t a,(bP L s 2 t a).1.len≤136:=fun s hs t a=>eG (L:=L) hs 2 t a
  have nv:=RF X5 (f:=s.fresh+1) (by omega)
  have ho:301≤qL dp:=by
   unfold qL
   split<;>omega
  rw [dJ,Nat.succ_mul]
  simp only
  split
  ·have h1:=hs.fresh (s.fresh+1)
   have h2:=he _ h1 (bU L 3 (bU L 7 a).2).1 (bU L 3 (bU L 7 a).2).2
   have h3:=ih _ (bP L { s with fresh:=s.fresh+1 } 2 (bU L 3 (bU L 7 a).2).1 (bU L 3 (bU L 7 a).2).2).2 (h1.with nv.1.1 nv.1.2 (bU L 3 (bU L 7 a).2).1) (by rw [gf]; simp only; omega)
   have h4:=Be nv.1.1
   rw [eX,Ba]
   omega
  ·split
   ·split
    ·exact Nat.le_trans (ih _ _ hs (by omega)) (by omega)
    ·rename_i h0
     have h1:=Be (hs.var _ _ (fg L h0 (bU L 3 (bU L 7 a).2).2)).1
     have h2:=he s hs (bU L 3 (bU L 7 a).2).1 (eu L (s.of (bU L 3 (bU L 7 a).2).1) (bU L 3 (bU L 7 a).2).2).2
     have h3:=ih s (bP L s 2 (bU L 3 (bU L 7 a).2).1 (eu L (s.of (bU L 3 (bU L 7 a).2).1) (bU L 3 (bU L 7 a).2).2).2).2 hs (by omega)
     rw [eX,A9]
     omega
   ·split
    ·rename_i h
     obtain ⟨d,rfl⟩:∃d,dp=d+1:=⟨dp - 1,by omega⟩
     have h2:=he s hs 2 (bU L 7 a).2
     have h3:=hb d rfl s (bP L s 2 2 (bU L 7 a).2).2 hs (by omega)
     have ho:qL (d+1)=301+2*bL d:=rfl
     split
     ·have h4:=hb d rfl s (bU L 2 (blk s (bP L s 2 2 (bU L 7 a).2).2).2).2 hs (by omega)
      have h5:=ih s (blk s (bU L 2 (blk s (bP L s 2 2 (bU L 7 a).2).2).2).2).2 hs (by omega)
      rw [eX,NS]
      omega
     ·have h5:=ih s (bU L 2 (blk s (bP L s 2 2 (bU L 7 a).2).2).2).2 hs (by omega)
      rw [eX,NT]
      omega
    ·split
     ·rename_i h
      obtain ⟨d,rfl⟩:∃d,dp=d+1:=⟨dp - 1,by omega⟩
      have h1:=hs.fresh (s.fresh+1)
      have CP:=hb d rfl _ (bU L 4 (bU L 7 a).2).2 (h1.with nv.2.1 nv.2.2 0) (by rw [gf]; simp only; omega)
      have hr:=ih { s with fresh:=s.fresh+1 } (blk ({ s with fresh:=s.fresh+1 }.with ([105]++bK (d+1)++[120]++bK (s.fresh+1)) 0) (bU L 4 (bU L 7 a).2).2).2 h1 (by simp only; omega)
      have hq:(bU L 4 (bU L 7 a).2).1.toNat<10:=by have:=bW L (n:=4) (by decide) (bU L 7 a).2; omega
      have hx:=Be nv.2.1
      have ho:qL (d+1)=301+2*bL d:=rfl
      rw [eX,eX,Ba,HJ,sC,eX,sD,A9,AE,AE,A4,A4,A4,Ku,oy hq]
      simp only [List.length_cons,List.length_nil] at hx ⊢
      omega
     ·split
      ·have h2:(bP L s 3 2 (bU L 7 a).2).1.len≤292:=eG hs 3 2 (bU L 7 a).2
       have h3:=ih s (bP L s 3 2 (bU L 7 a).2).2 hs (by omega)
       rw [eX,A_]
       omega
      ·split
       ·split
        ·rename_i c b hc
         have h2:=XO (u9 hs (fun t a=>eG (L:=L) hs 1 t a) _ _ _ _ hc)
         have h3:=ih s b hs (by omega)
         have h4:eL 1=58:=rfl
         rw [eX]
         omega
        ·exact Nat.le_trans (ih _ _ hs (by omega)) (by omega)
       ·have h3:=ih s (bU L 7 a).2 hs (by omega)
        rw [eX,HK]
        omega
theorem gS {L:List Int} {test:Bool}:∀(d:Nat),d≤2→∀(s:Nm) (a:Nat),gN s→s.fresh+3+3*d≤20→sl (du L test d s a).1≤bL d
 | 0,hd,s,a,hs,hf=>by
  have hn:=bW L (n:=4) (by decide) a
  rw [du]
  refine Nat.le_trans (o5 (by omega) (fun d h=>by omega) _ _ _ hs (by omega)) ?_
  exact Nat.mul_le_mul_right 301 (show (bU L 4 a).1.toNat≤3 by omega)
 | d+1,hd,s,a,hs,hf=>by
  have hn:=bW L (n:=4) (by decide) a
  rw [du]
  refine Nat.le_trans (o5 (by omega) (fun e h s a hs hf=>by
   obtain rfl:d=e:=by omega
   exact gS d (by omega) s a hs hf) _ _ _ hs (by omega)) ?_
  refine Nat.le_trans (Nat.mul_le_mul_right _ (show (bU L 4 a).1.toNat≤3 by omega)) ?_
  show 3*(301+2*bL d)≤903+6*bL d
  omega
end
end Go.Proofs.YtpklkpkfgmoghaaGreatDoor.Zz
