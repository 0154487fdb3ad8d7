/- Expressions of picks may be written; how many nodes they have. -/
import Derived.Test.YtpklkpkfgmoghaaGreatDoorZP29
set_option linter.unnecessarySimpa false
set_option linter.unusedVariables false
set_option linter.unusedSimpArgs false
set_option maxRecDepth 100000
namespace Go.Proofs.YtpklkpkfgmoghaaGreatDoor.Zz
noncomputable section
mutual
theorem cD:∀(e:GE) (r:List UInt8),e.tx r=e.tx []++r
 | .int w,r=>by rw [GE.tx,GE.tx]; simp
 | .pr w,r=>by rw [GE.tx,GE.tx]; simp
 | .bool b,r=>by rw [GE.tx,GE.tx]; simp
 | .var x,r=>by rw [GE.tx,GE.tx]; simp
 | .call x l,r=>by
  rw [GE.tx,GE.tx,j7 l (41::r),j7 l [41]]
  simp
 | .un s e,r=>by rw [GE.tx,GE.tx,cD e r]; simp
 | .bin s a b,r=>by
  rw [GE.tx,GE.tx,cD b (41::r),cD b [41],cD a (32::_),cD a (32::(s++32::(b.tx []++[41])))]
  simp
 | .conv t e,r=>by
  rw [GE.tx,GE.tx,cD e (41::r),cD e [41]]
  simp
theorem j7:∀(l:List GE) (r:List UInt8),GE.c7 l r=GE.c7 l []++r
 | [],r=>by rw [GE.c7,GE.c7]; rfl
 | e::l,r=>by
  rw [GE.c7,GE.c7,BZ l r,cD e (GE.py l []++r),cD e (GE.py l [])]
  simp
theorem BZ:∀(l:List GE) (r:List UInt8),GE.py l r=GE.py l []++r
 | [],r=>by rw [GE.py,GE.py]; rfl
 | e::l,r=>by
  rw [GE.py,GE.py,BZ l r,cD e (GE.py l []++r),cD e (GE.py l [])]
  simp
end
def GE.len (e:GE):Nat:=(e.tx []).length
theorem d9 (e:GE) (r:List UInt8):(e.tx r).length=e.len+r.length:=by rw [cD,List.length_append]; rfl
def ig:List GE→Nat
 | []=>0
 | e::l=>2+e.len+ig l
theorem KU:∀(l:List GE) (r:List UInt8),(GE.py l r).length=ig l+r.length
 | [],r=>by rw [GE.py,ig]; omega
 | e::l,r=>by rw [GE.py,ig,List.length_cons,List.length_cons,d9,KU l r]; omega
structure Gd (e:GE) (d:Nat):Prop where
 ok:e.ok
 dn:e.dn
 dG:e.dG
 dep:e.dep≤2*d
 wt:256*e.nd.dz≤125*e.len+131*(d+1)
theorem Gd.up {e:GE} {d:Nat} (h:Gd e d):Gd e (d+1):=⟨h.ok,h.dn,h.dG,by have:=h.dep; omega,by have:=h.wt; omega⟩
structure gT (s:Nm):Prop where
 var:∀t,∀x∈s.of t,fB x∧2≤x.length
 fn:∀f∈s.funcs,fB f.name∧2≤f.name.length∧f.params.length≤2
theorem jv {n:Nat} (h:n<10):b8.mq (n:Int)=[UInt8.ofNat (48+n)]:=by
 rw [b8.mq,if_neg (by omega),Int.toNat_natCast,b8.xU h]
theorem j9:∀w∈([[48],[49],[50],[51],[55],[57,50,50,51,51,55,50,48,51,54,56,53,52,55,55,53,56,48,55]]:List (List UInt8)),zi w∧b8.mq ((eo w:Nat):Int)=w:=by
 intro w hw
 simp only [List.mem_cons,List.not_mem_nil,or_false] at hw
 rcases hw with rfl | rfl | rfl | rfl | rfl | rfl
 ·exact ⟨⟨by decide,by decide,by kernel_rfl⟩,jv (n:=0) (by decide)⟩
 ·exact ⟨⟨by decide,by decide,by kernel_rfl⟩,jv (n:=1) (by decide)⟩
 ·exact ⟨⟨by decide,by decide,by kernel_rfl⟩,jv (n:=2) (by decide)⟩
 ·exact ⟨⟨by decide,by decide,by kernel_rfl⟩,jv (n:=3) (by decide)⟩
 ·exact ⟨⟨by decide,by decide,by kernel_rfl⟩,jv (n:=7) (by decide)⟩
 ·refine ⟨⟨by decide,by decide,by kernel_rfl⟩,?_⟩
  have:eo [57,50,50,51,51,55,50,48,51,54,56,53,52,55,55,53,56,48,55]=9223372036854775807:=by kernel_rfl
  rw [this]
  simp [b8.mq,b8.lO]
theorem lQ (A B:List UInt8) (h:(decide (A≠[]) && decide (B≠[]) && A.all (fun y=>isDigit (y.toNat:Int)) && B.all (fun y=>isDigit (y.toNat:Int)) && decide (A.length+B.length≤15))=true):CO (A++46::B):=by
 simp only [Bool.and_eq_true,decide_eq_true_eq,List.all_eq_true] at h
 exact ⟨A,B,rfl,h.1.1.1.1,h.1.1.1.2,h.1.1.2,h.1.2,h.2⟩
theorem oO (s:List UInt8) (h:(decide (eo ((b8.cut s [46]).1++(b8.cut s [46]).2.1)<9007199254740992) && decide (10 ^ (b8.cut s [46]).2.1.length<9007199254740992))=true):0≤jn s:=by
 simp only [Bool.and_eq_true,decide_eq_true_eq] at h
 unfold jn
 have:=(IC h.1 h.2 (Nat.pow_pos (by decide))).2
 rw [Rp (by omega)]
 omega
theorem ss:∀w∈([[48,46,48],[49,46,48],[48,46,53],[50,46,50,53],[49,48,48,48,48,48,48,46,48],[48,46,49]]:List (List UInt8)),CO w∧jZ w=w∧0≤jn (jZ w):=by
 intro w hw
 simp only [List.mem_cons,List.not_mem_nil,or_false] at hw
 rcases hw with rfl | rfl | rfl | rfl | rfl | rfl
 ·exact ⟨lQ [48] [48] rfl,by kernel_rfl,oO _ (by kernel_rfl)⟩
 ·exact ⟨lQ [49] [48] rfl,by kernel_rfl,oO _ (by kernel_rfl)⟩
 ·exact ⟨lQ [48] [53] rfl,by kernel_rfl,oO _ (by kernel_rfl)⟩
 ·exact ⟨lQ [50] [50,53] rfl,by kernel_rfl,oO _ (by kernel_rfl)⟩
 ·exact ⟨lQ [49,48,48,48,48,48,48] [48] rfl,by kernel_rfl,oO _ (by kernel_rfl)⟩
 ·exact ⟨lQ [48] [49] rfl,by kernel_rfl,oO _ (by kernel_rfl)⟩
theorem DE (t:Int):0<(lits t).length:=by
 unfold lits
 split
 ·decide
 ·split<;>decide
theorem Sr (t:Int):∀e∈lits t,Gd e 0∧e.lit∧e.pos∧1≤e.len∧e.nd.dz=1:=by
 have hI:∀w,zi w→b8.mq ((eo w:Nat):Int)=w→Gd (.int w) 0∧(GE.int w).lit∧(GE.int w).pos∧1≤(GE.int w).len∧(GE.int w).nd.dz=1:=fun w h1 h2=>by
  have hl:1≤(GE.int w).len:=by
   rw [GE.len,GE.tx,List.append_nil]
   have:=List.length_pos_iff.2 h1.1
   omega
  have hc:(GE.int w).nd.dz=1:=by rw [GE.nd,bn,aZ]
  exact ⟨⟨by rw [GE.ok]; trivial,by rw [GE.dn]; exact h1,by rw [GE.dG]; exact h2,by rw [GE.dep]; omega,by rw [hc]; omega⟩,trivial,trivial,hl,hc⟩
 have hF:∀w,CO w→jZ w=w→0≤jn (jZ w)→Gd (.pr w) 0∧(GE.pr w).lit∧(GE.pr w).pos∧1≤(GE.pr w).len∧(GE.pr w).nd.dz=1:=fun w h1 h2 h3=>by
  have hl:1≤(GE.pr w).len:=by
   obtain ⟨A,B,rfl,_⟩:=h1
   rw [GE.len,GE.tx,List.append_nil]
   simp
   omega
  have hc:(GE.pr w).nd.dz=1:=by rw [GE.nd,iX,bn,aZ]
  exact ⟨⟨by rw [GE.ok]; trivial,by rw [GE.dn]; exact h1,by rw [GE.dG]; exact h2,by rw [GE.dep]; omega,by rw [hc]; omega⟩,trivial,h3,hl,hc⟩
 have hB:∀b,Gd (.bool b) 0∧(GE.bool b).lit∧(GE.bool b).pos∧1≤(GE.bool b).len∧(GE.bool b).nd.dz=1:=fun b=>by
  have hl:1≤(GE.bool b).len:=by rw [GE.len,GE.tx]; cases b<;>decide
  have hc:(GE.bool b).nd.dz=1:=by rw [GE.nd,bn,aZ]
  exact ⟨⟨by rw [GE.ok]; trivial,by rw [GE.dn]; trivial,by rw [GE.dG]; trivial,by rw [GE.dep]; omega,by rw [hc]; omega⟩,trivial,trivial,hl,hc⟩
 intro e he
 unfold lits at he
 split at he
 ·simp only [List.mem_cons,List.not_mem_nil,or_false] at he
  rcases he with rfl | rfl | rfl | rfl | rfl | rfl
  bf exact hI _ (j9 _ (by simp)).1 (j9 _ (by simp)).2
 ·split at he
  ·simp only [List.mem_cons,List.not_mem_nil,or_false] at he
   rcases he with rfl | rfl | rfl | rfl | rfl | rfl
   bf exact hF _ (ss _ (by simp)).1 (ss _ (by simp)).2.1 (ss _ (by simp)).2.2
  ·simp only [List.mem_cons,List.not_mem_nil,or_false] at he
   rcases he with rfl | rfl
   bf exact hB _
theorem lS {α:Type} {l:List α} {i:Nat} {x:α} (h:i<l.length):l.getD i x∈l:=by
 rw [List.getD_eq_getElem?_getD,List.getElem?_eq_getElem h]
 exact List.getElem_mem h
theorem sD (L:List Int) {n:Nat} (hn:0<n) (a:Nat):(b7 L n a).1.toNat<n:=by
 have:=b_ L (show (0:Int)<n by omega) a
 omega
theorem Br (L:List Int) (t:Int) (a:Nat):Gd (nP L t a).1 0∧(nP L t a).1.lit∧(nP L t a).1.pos∧1≤(nP L t a).1.len∧(nP L t a).1.nd.dz=1:=Sr t _ (lS (sD L (DE t) a))
theorem ft (L:List Int) {l:List (List UInt8)} (h:l≠[]) (a:Nat):(eG L l a).1∈l:=lS (sD L (List.length_pos_iff.2 h) a)
theorem Cg {g:Int→Nat→GE×Nat} {d:Nat} (hg:∀t a,Gd (g t a).1 d):∀(l:List Int) (a:Nat),(gX g l a).1.length=l.length∧∀e∈(gX g l a).1,Gd e d
 | [],a=>⟨rfl,fun e h=>by cases h⟩
 | t::r,a=>by
  obtain ⟨h1,h2⟩:=Cg hg r (g t a).2
  refine ⟨by simp only [gX,List.length_cons,h1],fun e he=>?_⟩
  simp only [gX,List.mem_cons] at he
  rcases he with rfl | he
  ·exact hg t a
  ·exact h2 e he
theorem GM:∀{l:List GE} {d:Nat},(∀e∈l,Gd e d)→GE.ni l∧GE.fC l∧GE.fg l∧GE.fZ l≤2*d
 | [],d,h=>⟨by rw [GE.ni]; trivial,by rw [GE.fC]; trivial,by rw [GE.fg]; trivial,by rw [GE.fZ]; omega⟩
 | e::l,d,h=>by
  obtain ⟨a,b,c,q⟩:=GM (l:=l) (d:=d) fun x hx=>h x (by simp [hx])
  have he:=h e (by simp)
  refine ⟨by rw [GE.ni]; exact ⟨he.ok,a⟩,by rw [GE.fC]; exact ⟨he.dn,b⟩,by rw [GE.fg]; exact ⟨he.dG,c⟩,?_⟩
  rw [GE.fZ]
  have:=he.dep
  omega
theorem AR:∀{l:List GE} {d:Nat},(∀e∈l,Gd e d)→256*Nd.fJ (GE.eE l)+250*l.length≤125*ig l+131*(d+1)*l.length
 | [],d,h=>by rw [GE.eE,aZ]; simp
 | e::l,d,h=>by
  have:=AR (l:=l) (d:=d) fun x hx=>h x (by simp [hx])
  have he:=(h e (by simp)).wt
  have e2:131*(d+1)*(l.length+1)=131*(d+1)*l.length+131*(d+1):=Nat.mul_succ _ _
  rw [GE.eE,aS,ig,List.length_cons]
  omega
theorem BX (l:List GE) (r:List UInt8):(GE.c7 l r).length+(if l=[] then 0 else 2)=ig l+r.length:=by
 cases l with
 | nil=>rw [GE.c7,ig]; simp
 | cons e l=>rw [GE.c7,ig,d9,KU]; simp; omega
def FT (d:Nat) (c:List UInt8×List GE):Prop:=fB c.1∧2≤c.1.length∧c.2.length≤2∧∀e∈c.2,Gd e d
theorem Cx {L:List Int} {s:Nm} (hs:gT s) {g:Int→Nat→GE×Nat} {d:Nat} (hg:∀t a,Gd (g t a).1 d) (t:Int) (a:Nat) (c:List UInt8×List GE) (b:Nat) (h:iT L s g t a=(some c,b)):FT d c:=by
 unfold iT at h
 split at h
 ·cases h
 ·ab f r hf
  simp only [Prod.mk.injEq,Option.some.injEq] at h
  obtain ⟨rfl,_⟩:=h
  have hm:(f::r).getD (b7 L ((f::r).length:Nat) a).1.toNat f∈s.funcs:=by
   have:=lS (x:=f) (sD L (n:=(f::r).length) (by simp) a)
   rw [←hf] at this ⊢
   exact (List.mem_filter.1 this).1
  obtain ⟨h1,h2,h3⟩:=hs.fn _ hm
  obtain ⟨e1,e2⟩:=Cg hg ((f::r).getD (b7 L ((f::r).length:Nat) a).1.toNat f).params (b7 L ((f::r).length:Nat) a).2
  exact ⟨h1,h2,by rw [e1]; exact h3,e2⟩
theorem RS {d:Nat} (hd:d≤2) {c:List UInt8×List GE} (h:FT d c):Gd (.call c.1 c.2) (d+1):=by
 obtain ⟨x,l⟩:=c
 obtain ⟨h1,h2,h3,h4⟩:=h
 simp only at h1 h2 h3 h4
 obtain ⟨a,b,q,e⟩:=GM h4
 refine ⟨by rw [GE.ok]; exact ⟨by show l.length≤6; omega,a⟩,by rw [GE.dn]; exact ⟨h1,b⟩,by rw [GE.dG]; exact q,by show (GE.call x l).dep≤_; rw [GE.dep]; omega,?_⟩
 show 256*(GE.call x l).nd.dz≤125*(GE.call x l).len+_
 have hw:=AR h4
 have hl:(GE.call x l).len=x.length+1+(GE.c7 l [41]).length:=by
  rw [GE.len,GE.tx,List.length_append,List.length_cons]; omega
 have ht:=BX l [41]
 rw [hl,GE.nd,bn]
 simp only [List.length_singleton] at ht
 match l,h3 with
 | [],_=>simp only [GE.eE,aZ,ig,if_pos] at*; omega
 | [e1],_=>simp only [List.length_singleton,Nat.mul_one,reduceCtorEq,if_false] at*; omega
 | [e1,e2],_=>simp only [List.length_cons,List.length_nil,reduceCtorEq,if_false] at*; omega
theorem Rb {d:Nat} {s:List UInt8} (hs:s=[45]∨s=[33]) {e:GE} (h:Gd e d):Gd (.un s e) (d+1):=by
 refine ⟨by rw [GE.ok]; exact ⟨hs,h.ok⟩,by rw [GE.dn]; exact ⟨hs,h.dn⟩,by rw [GE.dG]; exact h.dG,by rw [GE.dep]; have:=h.dep; omega,?_⟩
 have hl:(GE.un s e).len=1+e.len:=by
  rw [GE.len,GE.tx,List.length_append]
  rcases hs with rfl | rfl<;>rfl
 have:=h.wt
 rw [hl,GE.nd,bn,aS,aZ]
 omega
theorem HJ {d:Nat} {t:Int} (ht:t=1∨t=2) {e:GE} (h:Gd e d):Gd (.conv t e) (d+1):=by
 refine ⟨by rw [GE.ok]; exact ⟨ht,h.ok⟩,by rw [GE.dn]; exact h.dn,by rw [GE.dG]; exact ⟨ht,h.dG⟩,by rw [GE.dep]; have:=h.dep; omega,?_⟩
 have hl:5+e.len≤(GE.conv t e).len:=by
  show 5+e.len≤((GE.conv t e).tx []).length
  rw [GE.tx,List.length_append,List.length_cons,d9]
  rcases ht with rfl | rfl
  ·rw [if_pos rfl]; simp [mR]; omega
  ·rw [if_neg (by decide)]; simp [fP]; omega
 have:=h.wt
 rw [GE.nd,bn,aS,aZ]
 omega
def mB:List (List UInt8):=[[43],[45],[42],[47],[37],[60],[60,61],[62],[62,61],[61,61],[33,61],[38,38],[124,124]]
theorem GN:∀s∈mB,0<fF s∧(s==[40])=false∧s∈OO∧1≤s.length:=by decide
theorem VK {d:Nat} (hd:d≤2) {s:List UInt8} (hs:s∈mB) {a b:GE} (h:Gd a d) (h':Gd b d):Gd (.bin s a b) (d+1):=by
 obtain ⟨o1,o2,o3,o4⟩:=GN s hs
 refine ⟨by rw [GE.ok]; exact ⟨o1,o2,h.ok,h'.ok⟩,by rw [GE.dn]; exact ⟨o3,h.dn,h'.dn⟩,by rw [GE.dG]; exact ⟨h.dG,h'.dG⟩,by rw [GE.dep]; have:=h.dep; have:=h'.dep; omega,?_⟩
 have hl:(GE.bin s a b).len=4+s.length+a.len+b.len:=by
  rw [GE.len,GE.tx,List.length_cons,d9,List.length_cons,List.length_append,List.length_cons,d9]
  simp only [List.length_cons,List.length_nil]
  omega
 have:=h.wt
 have:=h'.wt
 rw [hl,GE.nd,bn,aS,aS,aZ]
 omega
theorem X5 {d:Nat} {x:List UInt8} (h:fB x) (h2:2≤x.length):Gd (.var x) d:=by
 have hl:(GE.var x).len=x.length:=by rw [GE.len,GE.tx,List.append_nil]
 exact ⟨by rw [GE.ok]; trivial,by rw [GE.dn]; exact h,by rw [GE.dG]; trivial,by rw [GE.dep]; omega,by rw [hl,GE.nd,bn,aZ]; omega⟩
theorem Gd.le {e:GE} {d d':Nat} (h:Gd e d) (hd:d≤d'):Gd e d':=⟨h.ok,h.dn,h.dG,by have:=h.dep; omega,by have:=h.wt; omega⟩
theorem uN {L:List Int} {g:Int→Nat→GE×Nat} {d:Nat} (hd:d≤2) (hg:∀t a,Gd (g t a).1 d) (u:Int) {ops:List (List UInt8)} (h0:ops≠[]) (ho:∀s∈ops,s∈mB) (a:Nat):Gd (xP L g u ops a).1 (d+1):=
 VK hd (ho _ (ft L h0 _)) (hg _ _) (hg _ _)
theorem Ec {L:List Int} {g:Int→Nat→GE×Nat} {d:Nat} (hd:d≤2) (hg:∀t a,Gd (g t a).1 d) (t k:Int) (a:Nat):Gd (rq L g t k a).1 (d+1):=by
 unfold rq
 split
 ·split
  ·exact HJ (.inl rfl) (hg _ _)
  ·split
   ·exact Rb (.inl rfl) (hg _ _)
   ·exact uN hd hg _ (by decide) (by decide) _
 ·split
  ·split
   ·exact HJ (.inr rfl) (hg _ _)
   ·split
    ·exact Rb (.inl rfl) (hg _ _)
    ·exact uN hd hg _ (by decide) (by decide) _
  ·split
   ·exact Rb (.inr rfl) (hg _ _)
   ·split
    ·exact uN hd hg _ (by decide) (by decide) _
    ·exact uN hd hg _ (by decide) (by decide) _
theorem nI {L:List Int} {s:Nm} (hs:gT s):∀(d:Nat),d≤3→∀(t:Int) (a:Nat),Gd (bU L s d t a).1 d
 | 0,hd,t,a=>by rw [bU]; exact (Br L t _).1
 | d+1,hd,t,a=>by
  have hg:=fun t a=>nI (L:=L) hs d (by omega) t a
  rw [bU]
  split
  ·exact (Br L t _).1.le (by omega)
  ·split
   ·ab h
    have:=hs.var t _ (ft L h.2 (b7 L 8 a).2)
    exact X5 this.1 this.2
   ·split
    ·split
     ·ab c b hc
      exact RS (by omega) (Cx hs hg t _ _ _ hc)
     ·exact Ec (by omega) hg _ _ _
    ·exact Ec (by omega) hg _ _ _
end
end Go.Proofs.YtpklkpkfgmoghaaGreatDoor.Zz
namespace Go.Proofs.YtpklkpkfgmoghaaGreatDoor.Zz
noncomputable section
mutual
theorem rI:∀(s:GS) (r:List UInt8),s.tx 10 r=s.tx 10 []++r
 | .jY x e,r=>by rw [GS.tx,GS.tx,cD e (59::r),cD e [59]]; simp
 | .np x e,r=>by rw [GS.tx,GS.tx,cD e (59::r),cD e [59]]; simp
 | .zg e l,r=>by
  rw [GS.tx,GS.tx,dE l (125::r),dE l [125],cD e (32::123::10::_),cD e (32::123::10::(GS.c7 10 l []++[125]))]
  simp
 | .zf e l l2,r=>by
  rw [GS.tx,GS.tx,dE l2 (125::r),dE l2 [125],dE l (125::_),dE l (125::32::(jS++32::123::10::(GS.c7 10 l2 []++[125]))),cD e (32::123::10::_),cD e (32::123::10::(GS.c7 10 l []++(125::32::(jS++32::123::10::(GS.c7 10 l2 []++[125])))))]
  simp
 | .lR e l,r=>by
  rw [GS.tx,GS.tx,dE l (125::r),dE l [125],cD e (32::123::10::_),cD e (32::123::10::(GS.c7 10 l []++[125]))]
  simp
 | .ret e,r=>by rw [GS.tx,GS.tx,cD e (59::r),cD e [59]]; simp
 | .iS e,r=>by rw [GS.tx,GS.tx,cD e (59::r),cD e [59]]; simp
 | .skip,r=>by rw [GS.tx,GS.tx]; simp
 | .xV x l,r=>by rw [GS.tx,GS.tx,j7 l (41::59::r),j7 l [41,59]]; simp
theorem dE:∀(l:List GS) (r:List UInt8),GS.c7 10 l r=GS.c7 10 l []++r
 | [],r=>by rw [GS.c7,GS.c7]; rfl
 | s::l,r=>by
  rw [GS.c7,GS.c7,dE l r,rI s (10::(GS.c7 10 l []++r)),rI s (10::GS.c7 10 l [])]
  simp
end
def GS.ln (s:GS):Nat:=(s.tx 10 []).length
def sl (l:List GS):Nat:=(GS.c7 10 l []).length
theorem ou (l:List GS) (r:List UInt8):(GS.c7 10 l r).length=sl l+r.length:=by rw [dE,List.length_append]; rfl
theorem sV:sl []=0:=by rw [sl,GS.c7]; rfl
theorem fh (s:GS) (l:List GS):sl (s::l)=s.ln+1+sl l:=by
 show (GS.c7 10 (s::l) []).length=_
 rw [GS.c7,rI,List.length_append,List.length_cons]
 show s.ln+((GS.c7 10 l []).length+1)=s.ln+1+(GS.c7 10 l []).length
 omega
theorem sU:∀(l r:List GS),sl (l++r)=sl l+sl r
 | [],r=>by rw [List.nil_append,sV,Nat.zero_add]
 | s::l,r=>by rw [List.cons_append,fh,fh,sU l r]; omega
theorem qS:∀(l r:List GS),GS.eE (l++r)=GS.eE l++GS.eE r
 | [],r=>by rw [GS.eE]; rfl
 | s::l,r=>by rw [List.cons_append,GS.eE,GS.eE,qS l r]; rfl
theorem wm:∀(l r:List GS),GS.ni (l++r)↔GS.ni l∧GS.ni r
 | [],r=>by rw [List.nil_append,GS.ni]; simp
 | s::l,r=>by rw [List.cons_append,GS.ni,GS.ni,wm l r]; exact (and_assoc).symm
theorem sH:∀(l r:List GS),GS.fC (l++r)↔GS.fC l∧GS.fC r
 | [],r=>by rw [List.nil_append,GS.fC]; simp
 | s::l,r=>by rw [List.cons_append,GS.fC,GS.fC,sH l r]; exact (and_assoc).symm
theorem sG:∀(l r:List GS),GS.fg (l++r)↔GS.fg l∧GS.fg r
 | [],r=>by rw [List.nil_append,GS.fg]; simp
 | s::l,r=>by rw [List.cons_append,GS.fg,GS.fg,sG l r]; exact (and_assoc).symm
theorem sq:∀(l r:List GS),GS.fZ (l++r)=max (GS.fZ l) (GS.fZ r)
 | [],r=>by rw [List.nil_append,GS.fZ]; omega
 | s::l,r=>by rw [List.cons_append,GS.fZ,GS.fZ,sq l r]; omega
structure Sd (l:List GS) (n dp:Nat):Prop where
 ok:GS.ni l
 dn:GS.fC l
 dG:GS.fg l
 len:l.length≤2*n
 dep:GS.fZ l≤7+2*dp
 wt:256*Nd.fJ (GS.eE l)≤125*sl l+36*n
theorem Sd.nil {n dp:Nat}:Sd [] n dp:=⟨by rw [GS.ni]; trivial,by rw [GS.fC]; trivial,by rw [GS.fg]; trivial,by simp,by rw [GS.fZ]; omega,by rw [GS.eE,aZ]; omega⟩
theorem Sd.cons {s:GS} {l:List GS} {n dp:Nat} (h:Sd l n dp) (h1:s.ok) (h2:s.dn) (h3:s.dG) (h4:s.dep≤7+2*dp) (h5:256*s.nd.dz≤125*(s.ln+1)+36):Sd (s::l) (n+1) dp:=by
 refine ⟨by rw [GS.ni]; exact ⟨h1,h.ok⟩,by rw [GS.fC]; exact ⟨h2,h.dn⟩,by rw [GS.fg]; exact ⟨h3,h.dG⟩,by have:=h.len; rw [List.length_cons]; omega,by rw [GS.fZ]; have:=h.dep; omega,?_⟩
 have:=h.wt
 rw [GS.eE,aS,fh]
 omega
theorem Sd.up {l:List GS} {n dp:Nat} (h:Sd l n dp):Sd l (n+1) dp:=⟨h.ok,h.dn,h.dG,by have:=h.len; omega,h.dep,by have:=h.wt; omega⟩
theorem Bv (x:List UInt8) (e:GE):(GS.jY x e).ln=x.length+5+e.len:=by
 show ((GS.jY x e).tx 10 []).length=_
 rw [GS.tx]
 simp only [List.length_append,List.length_cons,List.length_nil,d9]
 omega
theorem Bt (x:List UInt8) (e:GE):(GS.np x e).ln=x.length+4+e.len:=by
 show ((GS.np x e).tx 10 []).length=_
 rw [GS.tx]
 simp only [List.length_append,List.length_cons,List.length_nil,d9]
 omega
theorem OC (e:GE) (l:List GS):(GS.zg e l).ln=7+e.len+sl l:=by
 show ((GS.zg e l).tx 10 []).length=_
 rw [GS.tx]
 simp only [List.length_append,List.length_cons,List.length_nil,d9,ou,FQ]
 omega
theorem OB (e:GE) (l l2:List GS):(GS.zf e l l2).ln=16+e.len+sl l+sl l2:=by
 show ((GS.zf e l l2).tx 10 []).length=_
 rw [GS.tx]
 simp only [List.length_append,List.length_cons,List.length_nil,d9,ou,FQ,jS]
 omega
theorem Ig (e:GE) (l:List GS):(GS.lR e l).ln=8+e.len+sl l:=by
 show ((GS.lR e l).tx 10 []).length=_
 rw [GS.tx]
 simp only [List.length_append,List.length_cons,List.length_nil,d9,ou,FE]
 omega
theorem WH (e:GE):(GS.ret e).ln=8+e.len:=by
 show ((GS.ret e).tx 10 []).length=_
 rw [GS.tx]
 simp only [List.length_append,List.length_cons,List.length_nil,d9,lu]
 omega
theorem Bu (e:GE):(GS.iS e).ln=8+e.len:=by
 show ((GS.iS e).tx 10 []).length=_
 rw [GS.tx]
 simp only [List.length_append,List.length_cons,List.length_nil,d9,lr]
 omega
theorem Ih:GS.skip.ln=5:=by
 show (GS.skip.tx 10 []).length=_
 rw [GS.tx]; rfl
theorem OA (x:List UInt8) (l:List GE):(GS.xV x l).ln+(if l=[] then 0 else 2)=x.length+3+ig l:=by
 show ((GS.xV x l).tx 10 []).length+_=_
 have:=BX l [41,59]
 rw [GS.tx]
 simp only [List.length_append,List.length_cons,List.length_nil] at this ⊢
 omega
theorem VZ {x:List UInt8} {e:GE} {l:List GS} {n dp:Nat} (hx:fB x) (h2:2≤x.length) (he:Gd e 2) (h:Sd l n dp):Sd (.jY x e::l) (n+1) dp:=by
 refine h.cons (by rw [GS.ok]; exact he.ok) (by rw [GS.dn]; exact ⟨hx,he.dn⟩) (by rw [GS.dG]; exact he.dG) (by rw [GS.dep]; have:=he.dep; omega) ?_
 have:=he.wt
 rw [Bv,GS.nd,bn,aS,aZ]
 omega
theorem VG {x:List UInt8} {e:GE} {l:List GS} {n dp:Nat} (hx:fB x) (h2:2≤x.length) (he:Gd e 2) (h:Sd l n dp):Sd (.np x e::l) (n+1) dp:=by
 refine h.cons (by rw [GS.ok]; exact he.ok) (by rw [GS.dn]; exact ⟨hx,he.dn⟩) (by rw [GS.dG]; exact he.dG) (by rw [GS.dep]; have:=he.dep; omega) ?_
 have:=he.wt
 rw [Bt,GS.nd,bn,aS,aZ]
 omega
theorem Z2 {e:GE} {b l:List GS} {n dp:Nat} (he:Gd e 2) (hb:Sd b 3 dp) (h:Sd l n (dp+1)):Sd (.zg e b::l) (n+1) (dp+1):=by
 refine h.cons (by rw [GS.ok]; exact ⟨he.ok,by have:=hb.len; omega,hb.ok⟩) (by rw [GS.dn]; exact ⟨he.dn,hb.dn⟩) (by rw [GS.dG]; exact ⟨he.dG,hb.dG⟩) (by rw [GS.dep]; have:=he.dep; have:=hb.dep; omega) ?_
 have:=he.wt
 have:=hb.wt
 rw [OC,GS.nd,bn,aS,aS,aZ,bn]
 omega
theorem Wy {e:GE} {b c l:List GS} {n dp:Nat} (he:Gd e 2) (hb:Sd b 3 dp) (hc:Sd c 3 dp) (h:Sd l n (dp+1)):Sd (.zf e b c::l) (n+1) (dp+1):=by
 refine h.cons (by rw [GS.ok]; exact ⟨he.ok,⟨by have:=hb.len; omega,hb.ok⟩,by have:=hc.len; omega,hc.ok⟩) (by rw [GS.dn]; exact ⟨he.dn,hb.dn,hc.dn⟩) (by rw [GS.dG]; exact ⟨he.dG,hb.dG,hc.dG⟩) (by rw [GS.dep]; have:=he.dep; have:=hb.dep; have:=hc.dep; omega) ?_
 have:=he.wt
 have:=hb.wt
 have:=hc.wt
 rw [OB,GS.nd,bn,aS,aS,aS,aZ,bn,bn]
 omega
theorem RK {e:GE} {l:List GS} {n dp:Nat} (he:Gd e 3) (h:Sd l n dp):Sd (.iS e::l) (n+1) dp:=by
 refine h.cons (by rw [GS.ok]; exact he.ok) (by rw [GS.dn]; exact he.dn) (by rw [GS.dG]; exact he.dG) (by rw [GS.dep]; have:=he.dep; omega) ?_
 have:=he.wt
 rw [Bu,GS.nd,bn,aS,aZ]
 omega
theorem Tv {l:List GS} {n dp:Nat} (h:Sd l n dp):Sd (.skip::l) (n+1) dp:=by
 refine h.cons (by rw [GS.ok]; trivial) (by rw [GS.dn]; trivial) (by rw [GS.dG]; trivial) (by rw [GS.dep]; omega) ?_
 rw [Ih,GS.nd,bn,aZ]
 omega
theorem Y1 {c:List UInt8×List GE} {l:List GS} {n dp:Nat} (hc:FT 1 c) (h:Sd l n dp):Sd (.xV c.1 c.2::l) (n+1) dp:=by
 obtain ⟨x,ls⟩:=c
 obtain ⟨h1,h2,h3,h4⟩:=hc
 simp only at h1 h2 h3 h4 ⊢
 obtain ⟨a,b,q,e⟩:=GM h4
 refine h.cons (by rw [GS.ok]; exact ⟨by omega,a⟩) (by rw [GS.dn]; exact ⟨h1,b⟩) (by rw [GS.dG]; exact q) (by rw [GS.dep]; omega) ?_
 have hw:=AR h4
 have hl:=OA x ls
 rw [GS.nd,bn,aS,aZ,bn]
 clear e q b a h4
 rcases ls with _ | ⟨e1,_ | ⟨e2,_ | ⟨e3,r⟩⟩⟩
 ·rw [if_pos rfl] at hl
  rw [GE.eE,aZ,ig] at*
  omega
 ·rw [if_neg (by simp)] at hl
  simp only [List.length_cons,List.length_nil] at hw
  omega
 ·rw [if_neg (by simp)] at hl
  simp only [List.length_cons,List.length_nil] at hw
  omega
 ·simp only [List.length_cons] at h3; omega
end
end Go.Proofs.YtpklkpkfgmoghaaGreatDoor.Zz
namespace Go.Proofs.YtpklkpkfgmoghaaGreatDoor.Zz
noncomputable section
def Uo (x:List UInt8):Bool:=match x with
 | []=>false
 | c::w=>eD (c.toNat:Int) && w.all (fun y=>gy (y.toNat:Int)) && !(words.contains (c::w)) && decide ((c::w).length≤16) && decide (2≤(c::w).length)
theorem sC {x:List UInt8} (h:Uo x=true):fB x∧2≤x.length:=by
 cases x with
 | nil=>cases h
 | cons c w=>
  simp only [Uo,Bool.and_eq_true,decide_eq_true_eq,List.all_eq_true,Bool.not_eq_true'] at h
  exact ⟨⟨c,w,rfl,h.1.1.1.1,h.1.1.1.2,h.1.1.2,h.1.2⟩,h.2⟩
def x9 (n:Nat):List UInt8:=if n<10 then [UInt8.ofNat (48+n)] else [UInt8.ofNat (48+n / 10),UInt8.ofNat (48+n % 10)]
theorem BC {n:Nat} (h:n<100):bQ n=x9 n:=by
 rw [bQ,b8.mq,if_neg (by omega),Int.toNat_natCast,x9]
 split
 ·exact b8.xU (by assumption)
 ·exact b8.Rs (by assumption) h
theorem Sy:((List.range 3).all fun d=>(List.range 21).all fun f=>Uo ([118]++x9 d++[120]++x9 f) && Uo ([105]++x9 d++[120]++x9 f))=true:=by kernel_rfl
theorem Sv:((List.range 5).all fun i=>Uo ([103]++x9 i) && Uo ([102]++x9 i) && Uo ([112]++x9 i) && Uo ([116]++x9 i))=true:=by kernel_rfl
theorem Sw {d f:Nat} (hd:d≤2) (hf:f≤20):(fB ([118]++bQ d++[120]++bQ f)∧2≤([118]++bQ d++[120]++bQ f).length)∧fB ([105]++bQ d++[120]++bQ f)∧2≤([105]++bQ d++[120]++bQ f).length:=by
 have h:=Sy
 simp only [List.all_eq_true,List.mem_range,Bool.and_eq_true] at h
 have:=h d (by omega) f (by omega)
 rw [BC (by omega),BC (by omega)]
 exact ⟨sC this.1,sC this.2⟩
theorem GI {i:Nat} (hi:i≤4):(fB ([103]++bQ i)∧2≤([103]++bQ i).length)∧(fB ([102]++bQ i)∧2≤([102]++bQ i).length)∧(fB ([112]++bQ i)∧2≤([112]++bQ i).length)∧fB ([116]++bQ i)∧2≤([116]++bQ i).length:=by
 have h:=Sv
 simp only [List.all_eq_true,List.mem_range,Bool.and_eq_true] at h
 have:=h i (by omega)
 rw [BC (by omega)]
 exact ⟨sC this.1.1.1,sC this.1.1.2,sC this.1.2,sC this.2⟩
theorem gT.with {s:Nm} (h:gT s) {x:List UInt8} (h1:fB x) (h2:2≤x.length) (t:Int):gT (s.with x t):=by
 have e1:(s.with x t).funcs=s.funcs:=by unfold Nm.with; split<;>(try rfl); split<;>rfl
 refine ⟨fun u y hy=>?_,fun f hf=>h.fn f (by rw [e1] at hf; exact hf)⟩
 have:y∈s.of u∨y=x:=by
  unfold Nm.with Nm.of at hy
  unfold Nm.of
  by_cases t0:t=0<;>by_cases t1:t=1<;>by_cases u0:u=0<;>by_cases u1:u=1<;>dj
  bf (first | omega | (rcases hy with hy | hy<;>dj))
 rcases this with hy | rfl
 ·exact h.var u y hy
 ·exact ⟨h1,h2⟩
theorem gT.fresh {s:Nm} (h:gT s) (n:Nat):gT { s with fresh:=n }:=⟨h.var,h.fn⟩
theorem gk (s:Nm) (x:List UInt8) (t:Int):(s.with x t).fresh=s.fresh:=by unfold Nm.with; split<;>(try rfl); split<;>rfl
theorem V3 {x:List UInt8} {b r:List GS} {n d q:Nat} (Wx:fB x) (h2x:2≤x.length) (hq:q<10) (Da:Sd b 3 d) (hr:Sd r n (d+1)):Sd (.jY x (.int [48])::.lR (.bin [60] (.var x) (.int (bQ q))) (b++[.np x (.bin [43] (.var x) (.int [49]))])::r) (n+1) (d+1):=by
 have hint:∀j,j<10→zi (bQ j)∧b8.mq ((eo (bQ j):Nat):Int)=bQ j∧(bQ j).length=1:=fun j hj=>by
  have e1:bQ j=[UInt8.ofNat (48+j)]:=jv hj
  have:∀i:Fin 10,(decide (eo [UInt8.ofNat (48+i.1)]=i.1) && isDigit (((UInt8.ofNat (48+i.1))).toNat:Int) && oK [UInt8.ofNat (48+i.1)])=true:=by decide
  have:=this ⟨j,hj⟩
  simp only [Bool.and_eq_true,decide_eq_true_eq] at this
  rw [e1]
  refine ⟨⟨by simp,fun y hy=>?_,this.2⟩,?_,rfl⟩
  ·rw [List.mem_singleton.1 hy]; exact this.1.2
  ·rw [this.1.1]; exact jv hj
 have hgI:∀w,zi w→b8.mq ((eo w:Nat):Int)=w→(GE.int w).ok∧(GE.int w).dn∧(GE.int w).dG∧(GE.int w).dep=0∧(GE.int w).nd.dz=1∧(GE.int w).len=w.length:=fun w h1 h2=>⟨by rw [GE.ok]; trivial,by rw [GE.dn]; exact h1,by rw [GE.dG]; exact h2,by rw [GE.dep],by rw [GE.nd,bn,aZ],by rw [GE.len,GE.tx,List.append_nil]⟩
 have g0:=hgI [48] (j9 _ (by simp)).1 (j9 _ (by simp)).2
 have g1:=hgI [49] (j9 _ (by simp)).1 (j9 _ (by simp)).2
 have gq:=hgI (bQ q) (hint q hq).1 (hint q hq).2.1
 have hlq:=(hint q hq).2.2
 have hx:(GE.var x).ok∧(GE.var x).dn∧(GE.var x).dG∧(GE.var x).dep=0∧(GE.var x).nd.dz=1∧(GE.var x).len=x.length:=⟨by rw [GE.ok]; trivial,by rw [GE.dn]; exact Wx,by rw [GE.dG]; trivial,by rw [GE.dep],by rw [GE.nd,bn,aZ],by rw [GE.len,GE.tx,List.append_nil]⟩
 obtain ⟨x1,x2,x3,x4,x5,x6⟩:=hx
 obtain ⟨y1,y2,y3,y4,y5,y6⟩:=g0
 obtain ⟨z1,z2,z3,z4,z5,z6⟩:=g1
 obtain ⟨w1,w2,w3,w4,w5,w6⟩:=gq
 have hx2:=h2x
 have o60:=GN [60] (by decide)
 have o43:=GN [43] (by decide)
 have lb:∀(s:List UInt8) (a b:GE),(GE.bin s a b).len=4+s.length+a.len+b.len:=fun s a b=>by
  rw [GE.len,GE.tx,List.length_cons,d9,List.length_cons,List.length_append,List.length_cons,d9]
  simp only [List.length_cons,List.length_nil]
  omega
 have db:∀(s:List UInt8) (a b:GE),(GE.bin s a b).dep=max (1+a.dep) (2+b.dep):=fun s a b=>by rw [GE.dep]
 have hla:=Da.len
 have hlr:=hr.len
 have hda:=Da.dep
 have hdr:=hr.dep
 have hwa:=Da.wt
 have hwr:=hr.wt
 refine ⟨?_,?_,?_,?_,?_,?_⟩
 ·rw [GS.ni,GS.ni,GS.ok,GS.ok,wm,GS.ni,GS.ni,GS.ok,GE.ok,GE.ok]
  exact ⟨y1,⟨⟨o60.1,o60.2.1,x1,w1⟩,by rw [List.length_append,List.length_singleton]; omega,Da.ok,⟨o43.1,o43.2.1,x1,z1⟩,trivial⟩,hr.ok⟩
 ·rw [GS.fC,GS.fC,GS.dn,GS.dn,sH,GS.fC,GS.fC,GS.dn,GE.dn,GE.dn]
  exact ⟨⟨Wx,y2⟩,⟨⟨o60.2.2.1,x2,w2⟩,Da.dn,⟨Wx,o43.2.2.1,x2,z2⟩,trivial⟩,hr.dn⟩
 ·rw [GS.fg,GS.fg,GS.dG,GS.dG,sG,GS.fg,GS.fg,GS.dG,GE.dG,GE.dG]
  exact ⟨y3,⟨⟨x3,w3⟩,Da.dG,⟨x3,z3⟩,trivial⟩,hr.dG⟩
 ·rw [List.length_cons,List.length_cons]; omega
 ·rw [GS.fZ,GS.fZ,GS.dep,GS.dep,sq,GS.fZ,GS.fZ,GS.dep,db,db,x4,y4,z4,w4]
  omega
 ·skip
  have jU:(GE.bin [60] (.var x) (.int (bQ q))).nd.dz=3:=by rw [GE.nd,bn,aS,aS,aZ,x5,w5]
  have jW:(GE.bin [43] (.var x) (.int [49])).nd.dz=3:=by rw [GE.nd,bn,aS,aS,aZ,x5,z5]
  simp only [GS.eE,GS.nd,aS,aZ,bn,qS,nC,jU,jW,y5,fh,sU,sV,Bv,Ig,Bt,lb,x6,y6,z6,w6,hlq,List.length_cons,List.length_nil]
  omega
theorem sW {L:List Int} {blk:Nm→Nat→List GS×Nat} {dp:Nat} {test:Bool} (Zw:dp≤2) (hb:∀d,dp=d+1→∀s a,gT s→s.fresh+3+3*d≤20→Sd (blk s a).1 3 d):
  ∀(n:Nat) (s:Nm) (a:Nat),gT s→s.fresh+n+3*dp≤20→Sd (dT L blk dp test n s a).1 n dp
 | 0,s,a,hs,hf=>Sd.nil
 | n+1,s,a,hs,hf=>by
  have ih:=sW (L:=L) (test:=test) Zw hb n
  have he:=fun d hd t a=>nI (L:=L) hs d hd t a
  have nv:=Sw Zw (f:=s.fresh+1) (by omega)
  rw [dT]
  simp only
  split
  ·have h1:=hs.fresh (s.fresh+1)
   exact VZ nv.1.1 nv.1.2 (nI h1 2 (by omega) _ _) (ih _ _ (h1.with nv.1.1 nv.1.2 _) (by rw [gk]; simp only; omega))
  ·split
   ·split
    ·exact (ih _ _ hs (by omega)).up
    ·ab h0
     have:=hs.var _ _ (ft L h0 (b7 L 3 (b7 L 7 a).2).2)
     exact VG this.1 this.2 (he 2 (by omega) _ _) (ih _ _ hs (by omega))
   ·split
    ·ab h
     obtain ⟨d,rfl⟩:∃d,dp=d+1:=⟨dp - 1,by omega⟩
     split
     ·exact Wy (he 2 (by omega) _ _) (hb d rfl _ _ hs (by omega)) (hb d rfl _ _ hs (by omega)) (ih _ _ hs (by omega))
     ·exact Z2 (he 2 (by omega) _ _) (hb d rfl _ _ hs (by omega)) (ih _ _ hs (by omega))
    ·split
     ·ab h
      obtain ⟨d,rfl⟩:∃d,dp=d+1:=⟨dp - 1,by omega⟩
      have h1:=hs.fresh (s.fresh+1)
      have Da:=hb d rfl _ (b7 L 4 (b7 L 7 a).2).2 (h1.with nv.2.1 nv.2.2 0) (by rw [gk]; simp only; omega)
      have hr:=ih { s with fresh:=s.fresh+1 } (blk ({ s with fresh:=s.fresh+1 }.with ([105]++bQ (d+1)++[120]++bQ (s.fresh+1)) 0) (b7 L 4 (b7 L 7 a).2).2).2 h1 (by simp only; omega)
      have hq:(b7 L 4 (b7 L 7 a).2).1.toNat<10:=by have:=b_ L (n:=4) (by decide) (b7 L 7 a).2; omega
      exact V3 nv.2.1 nv.2.2 hq Da hr
     ·split
      ·exact RK (he 3 (by omega) _ _) (ih _ _ hs (by omega))
      ·split
       ·split
        ·ab c b hc
         exact Y1 (Cx hs (fun t a=>he 1 (by omega) t a) _ _ _ _ hc) (ih _ _ hs (by omega))
        ·exact (ih _ _ hs (by omega)).up
       ·exact Tv (ih _ _ hs (by omega))
theorem Sd.le {l:List GS} {n n' dp:Nat} (h:Sd l n dp) (hn:n≤n'):Sd l n' dp:=⟨h.ok,h.dn,h.dG,by have:=h.len; omega,h.dep,by have:=h.wt; omega⟩
theorem si {L:List Int} {test:Bool}:∀(d:Nat),d≤2→∀(s:Nm) (a:Nat),gT s→s.fresh+3+3*d≤20→Sd (dH L test d s a).1 3 d
 | 0,hd,s,a,hs,hf=>by
  have hn:=b_ L (n:=4) (by decide) a
  rw [dH]
  exact (sW (by omega) (fun d h=>by omega) _ _ _ hs (by omega)).le (by omega)
 | d+1,hd,s,a,hs,hf=>by
  have hn:=b_ L (n:=4) (by decide) a
  rw [dH]
  exact (sW (by omega) (fun e h s a hs hf=>by
   obtain rfl:d=e:=by omega
   exact si d (by omega) s a hs hf) _ _ _ hs (by omega)).le (by omega)
theorem SH:∀(l:List (List UInt8×Int)) (r:List UInt8),(∀p∈l,2≤p.1.length)→6*l.length+r.length≤(gM l r).length+(if l=[] then 0 else 0):=by
 have ht:∀(l:List (List UInt8×Int)) (r:List UInt8),(∀p∈l,2≤p.1.length)→6*l.length+r.length≤(f_ l r).length:=by
  intro l
  induction l with
  | nil=>intro r _; simp [f_]
  | cons p l ih=>
   intro r h
   have h1:=h p (by simp)
   have h2:=ih r fun q hq=>h q (by simp [hq])
   have h3:3≤(gx p.2).length:=by unfold gx; split<;>(try split)<;>decide
   rw [f_]
   simp only [List.length_cons,List.length_append]
   omega
 intro l r h
 cases l with
 | nil=>simp [gM]
 | cons p l=>
  have h1:=h p (by simp)
  have h2:=ht l r fun q hq=>h q (by simp [hq])
  have h3:3≤(gx p.2).length:=by unfold gx; split<;>(try split)<;>decide
  rw [gM]
  simp only [List.length_cons,List.length_append]
  omega
structure Dd (D:GD) (x:Nat):Prop where
 ok:D.ok
 dn:D.dn
 dG:D.dG
 wt:∀r:List UInt8,256*D.nd.dz+x+125*r.length≤125*((D.tx 10 (10::r)).length)
theorem Ra (t:Int):3≤(gx t).length:=by unfold gx; split<;>(try split)<;>decide
theorem X4 {x:List UInt8} {t:Int} {e:GE} (hx:fB x) (h2:2≤x.length) (ht:B0 t) (he:Gd e 0∧e.lit∧e.pos∧1≤e.len∧e.nd.dz=1):Dd (.var x t e) 0:=by
 obtain ⟨h3,h4,h5,h6,h7⟩:=he
 refine ⟨by rw [GD.ok]; exact ⟨ht,h4⟩,by rw [GD.dn]; exact ⟨hx,h3.dn⟩,by rw [GD.dG]; exact ⟨ht,⟨h4,h3.dG⟩,h5⟩,fun r=>?_⟩
 have:=Ra t
 rw [GD.tx,GD.nd,bn,aS,aZ,h7]
 simp only [List.length_append,List.length_cons,List.length_nil,d9,kK]
 omega
theorem Sd.snoc {l:List GS} (h:Sd l 3 2) {s:GS} (h1:s.ok) (h2:s.dn) (h3:s.dG) (h4:s.dep≤7):GS.ni (l++[s])∧GS.fC (l++[s])∧GS.fg (l++[s])∧(l++[s]).length≤32∧GS.fZ (l++[s])≤39:=by
 refine ⟨(wm l [s]).2 ⟨h.ok,by rw [GS.ni,GS.ni]; exact ⟨h1,trivial⟩⟩,(sH l [s]).2 ⟨h.dn,by rw [GS.fC,GS.fC]; exact ⟨h2,trivial⟩⟩,(sG l [s]).2 ⟨h.dG,by rw [GS.fg,GS.fg]; exact ⟨h3,trivial⟩⟩,by have:=h.len; rw [List.length_append,List.length_singleton]; omega,?_⟩
 rw [sq,GS.fZ,GS.fZ]
 have:=h.dep
 omega
theorem R2 {x:List UInt8} {ps:List (List UInt8×Int)} {t:Int} {l:List GS} {e:GE} (hx:fB x) (h2:2≤x.length) (hp:∀p∈ps,fB p.1∧2≤p.1.length∧B0 p.2) (hn:ps.length≤2) (ht:B0 t) (hl:Sd l 3 2) (he:Gd e 3):Dd (.func x ps t (l++[.ret e])) 0:=by
 obtain ⟨a1,a2,a3,a4,a5⟩:=hl.snoc (s:=.ret e) (by rw [GS.ok]; exact he.ok) (by rw [GS.dn]; exact he.dn) (by rw [GS.dG]; exact he.dG) (by rw [GS.dep]; have:=he.dep; omega)
 refine ⟨by rw [GD.ok]; exact ⟨by omega,fun p h=>(hp p h).2.2,ht,a4,a1,a5⟩,by rw [GD.dn]; exact ⟨hx,fun p h=>(hp p h).1,a2⟩,by rw [GD.dG]; exact ⟨fun p h=>(hp p h).2.2,ht,a3⟩,fun r=>?_⟩
 have h3:=Ra t
 have h4:=SH ps (41::32::(gx t++32::123::10::GS.c7 10 (l++[.ret e]) (125::10::r))) fun p h=>(hp p h).2.1
 have h5:=hl.wt
 have h6:=he.wt
 have h7:sl (l++[.ret e])=sl l+(8+e.len+1):=by rw [sU,fh,sV,WH]
 have h8:((GD.func x ps t (l++[.ret e])).nd).dz=3+ps.length+Nd.fJ (GS.eE l)+e.nd.dz:=by
  rw [GD.nd,bn,nC,vv,aS,aZ,bn,qS,nC,GS.eE,GS.eE,aS,aZ,GS.nd,bn,aS,aZ]
  omega
 rw [h8,GD.tx]
 simp only [List.length_append,List.length_cons,List.length_nil,ou,h7,rV] at h4 ⊢
 simp only [ite_self] at h4
 omega
theorem TG {x:List UInt8} {l:List GS} {e:GE} (hx:fB x) (h2:2≤x.length) (hl:Sd l 3 2) (he:Gd e 3):Dd (.test x (l++[.iS e])) 256:=by
 obtain ⟨a1,a2,a3,a4,a5⟩:=hl.snoc (s:=.iS e) (by rw [GS.ok]; exact he.ok) (by rw [GS.dn]; exact he.dn) (by rw [GS.dG]; exact he.dG) (by rw [GS.dep]; have:=he.dep; omega)
 refine ⟨by rw [GD.ok]; exact ⟨a4,a1,a5⟩,by rw [GD.dn]; exact ⟨hx,a2⟩,by rw [GD.dG]; exact a3,fun r=>?_⟩
 have h5:=hl.wt
 have h6:=he.wt
 have h7:sl (l++[.iS e])=sl l+(8+e.len+1):=by rw [sU,fh,sV,Bu]
 have h8:((GD.test x (l++[.iS e])).nd).dz=3+Nd.fJ (GS.eE l)+e.nd.dz:=by
  rw [GD.nd,bn,aS,aZ,bn,qS,nC,GS.eE,GS.eE,aS,aZ,GS.nd,bn,aS,aZ]
  omega
 rw [h8,GD.tx]
 simp only [List.length_append,List.length_cons,List.length_nil,ou,h7,rW]
 omega
end
end Go.Proofs.YtpklkpkfgmoghaaGreatDoor.Zz
namespace Go.Proofs.YtpklkpkfgmoghaaGreatDoor.Zz
noncomputable section
def eL:Nat→Nat
 | 0=>19
 | d+1=>2*eL d+20
theorem HP (d:Nat):eL (d+1)=2*eL d+20:=rfl
theorem T5:∀d:Nat,19≤eL d
 | 0=>Nat.le_refl _
 | d+1=>by have:=T5 d; rw [HP]; omega
theorem T6 {d:Nat} (h:d≤3):eL d≤292:=by
 match d,h with
 | 0,_=>decide
 | 1,_=>decide
 | 2,_=>decide
 | 3,_=>decide
theorem BA {x:List UInt8} (h:fB x):x.length≤16:=by
 obtain ⟨c,w,rfl,_,_,_,h⟩:=h
 exact h
theorem Ss (t:Int):∀e∈lits t,e.len≤19:=by
 intro e he
 unfold lits at he
 split at he
 ·simp only [List.mem_cons,List.not_mem_nil,or_false] at he
  rcases he with rfl | rfl | rfl | rfl | rfl | rfl<;>(rw [GE.len,GE.tx]; decide)
 ·split at he
  ·simp only [List.mem_cons,List.not_mem_nil,or_false] at he
   rcases he with rfl | rfl | rfl | rfl | rfl | rfl<;>(rw [GE.len,GE.tx]; decide)
  ·simp only [List.mem_cons,List.not_mem_nil,or_false] at he
   rcases he with rfl | rfl<;>(rw [GE.len,GE.tx]; decide)
theorem Bs (L:List Int) (t:Int) (a:Nat):(nP L t a).1.len≤19:=Ss t _ (lS (sD L (DE t) a))
theorem Ch {g:Int→Nat→GE×Nat} {B:Nat} (hg:∀t a,(g t a).1.len≤B):∀(l:List Int) (a:Nat),(gX g l a).1.length=l.length∧ig (gX g l a).1≤(2+B)*l.length
 | [],a=>⟨rfl,by rw [gX,ig]; omega⟩
 | t::r,a=>by
  obtain ⟨h1,h2⟩:=Ch hg r (g t a).2
  have:=hg t a
  rw [gX]
  simp only [List.length_cons,h1,ig,Nat.mul_succ,true_and]
  omega
def FR (B:Nat) (c:List UInt8×List GE):Prop:=c.1.length≤16∧c.2.length≤2∧ig c.2≤2*(2+B)
theorem vq {L:List Int} {s:Nm} (hs:gT s) {g:Int→Nat→GE×Nat} {B:Nat} (hg:∀t a,(g t a).1.len≤B) (t:Int) (a:Nat) (c:List UInt8×List GE) (b:Nat) (h:iT L s g t a=(some c,b)):FR B c:=by
 unfold iT at h
 split at h
 ·cases h
 ·ab f r hf
  simp only [Prod.mk.injEq,Option.some.injEq] at h
  obtain ⟨rfl,_⟩:=h
  have hm:(f::r).getD (b7 L ((f::r).length:Nat) a).1.toNat f∈s.funcs:=by
   have:=lS (x:=f) (sD L (n:=(f::r).length) (by simp) a)
   rw [←hf] at this ⊢
   exact (List.mem_filter.1 this).1
  obtain ⟨h1,h2,h3⟩:=hs.fn _ hm
  generalize (f::r).getD (b7 L ((f::r).length:Nat) a).1.toNat f=F at h1 h2 h3 ⊢
  obtain ⟨e1,e2⟩:=Ch hg F.params (b7 L ((f::r).length:Nat) a).2
  refine ⟨BA h1,by show (gX g F.params _).1.length≤2; rw [e1]; exact h3,Nat.le_trans e2 ?_⟩
  rw [Nat.mul_comm]
  exact Nat.mul_le_mul_right _ h3
theorem Nz (x:List UInt8) (l:List GE):(GE.call x l).len+(if l=[] then 0 else 2)=x.length+2+ig l:=by
 have:=BX l [41]
 rw [GE.len,GE.tx,List.length_append,List.length_cons]
 simp only [List.length_singleton] at this
 omega
theorem HD {B:Nat} {c:List UInt8×List GE} (h:FR B c):(GE.call c.1 c.2).len≤2*B+20:=by
 obtain ⟨x,l⟩:=c
 obtain ⟨h1,h2,h3⟩:=h
 simp only at h1 h2 h3 ⊢
 have:=Nz x l
 by_cases c:l=[]
 ·subst c
  rw [ig] at this
  rw [if_pos rfl] at this
  omega
 ·rw [if_neg c] at this
  omega
theorem X3 {s:List UInt8} (e:GE):(GE.un s e).len=s.length+e.len:=by
 rw [GE.len,GE.tx,List.length_append]; rfl
theorem NG (t:Int) (e:GE):(GE.conv t e).len=(if t=1 then mR else fP).length+2+e.len:=by
 rw [GE.len,GE.tx,List.length_append,List.length_cons,d9]
 simp only [List.length_cons,List.length_nil]
 omega
theorem A2 {s:List UInt8} (a b:GE):(GE.bin s a b).len=4+s.length+a.len+b.len:=by
 rw [GE.len,GE.tx,List.length_cons,d9,List.length_cons,List.length_append,List.length_cons,d9]
 simp only [List.length_cons,List.length_nil]
 omega
theorem K3 (x:List UInt8):(GE.var x).len=x.length:=by rw [GE.len,GE.tx,List.append_nil]
theorem Bo (x:List UInt8):(GE.int x).len=x.length:=by rw [GE.len,GE.tx,List.append_nil]
theorem Rc {B:Nat} {s:List UInt8} (hs:s.length≤1) {e:GE} (h:e.len≤B):(GE.un s e).len≤2*B+20:=by rw [X3]; omega
theorem HK {B:Nat} {t:Int} {e:GE} (h:e.len≤B):(GE.conv t e).len≤2*B+20:=by
 rw [NG]
 have:(if t=1 then mR else fP).length≤5:=by split<;>decide
 omega
theorem lY:∀s∈mB,s.length≤2:=by decide
theorem uO {L:List Int} {g:Int→Nat→GE×Nat} {B:Nat} (hg:∀t a,(g t a).1.len≤B) (u:Int) {ops:List (List UInt8)} (h0:ops≠[]) (ho:∀s∈ops,s∈mB) (a:Nat):(xP L g u ops a).1.len≤2*B+20:=by
 show (GE.bin _ _ _).len≤_
 rw [A2]
 have h1:=lY _ (ho _ (ft L h0 (g u a).2))
 have h2:=hg u a
 have h3:=hg u (eG L ops (g u a).2).2
 omega
theorem Ee {L:List Int} {g:Int→Nat→GE×Nat} {B:Nat} (hg:∀t a,(g t a).1.len≤B) (t k:Int) (a:Nat):(rq L g t k a).1.len≤2*B+20:=by
 unfold rq
 split
 ·split
  ·exact HK (hg _ _)
  ·split
   ·exact Rc (by decide) (hg _ _)
   ·exact uO hg _ (by decide) (by decide) _
 ·split
  ·split
   ·exact HK (hg _ _)
   ·split
    ·exact Rc (by decide) (hg _ _)
    ·exact uO hg _ (by decide) (by decide) _
  ·split
   ·exact Rc (by decide) (hg _ _)
   ·split
    ·exact uO hg _ (by decide) (by decide) _
    ·exact uO hg _ (by decide) (by decide) _
theorem eQ {L:List Int} {s:Nm} (hs:gT s):∀(d:Nat) (t:Int) (a:Nat),(bU L s d t a).1.len≤eL d
 | 0,t,a=>by rw [bU]; exact Bs L t _
 | d+1,t,a=>by
  have hg:=fun t a=>eQ (L:=L) hs d t a
  have h19:=T5 d
  rw [bU,HP]
  split
  ·exact Nat.le_trans (Bs L t _) (by omega)
  ·split
   ·ab h
    have:=BA (hs.var t _ (ft L h.2 (b7 L 8 a).2)).1
    rw [K3]
    omega
   ·split
    ·split
     ·ab c b hc
      exact HD (vq hs hg t _ _ _ hc)
     ·exact Ee hg _ _ _
    ·exact Ee hg _ _ _
def bL:Nat→Nat
 | 0=>903
 | d+1=>903+6*bL d
def qL:Nat→Nat
 | 0=>301
 | d+1=>301+2*bL d
theorem o7 {n:Nat} (h:n<10):(bQ n).length=1:=by unfold bQ; rw [jv h]; rfl
theorem Y0 {c:List UInt8×List GE} {B:Nat} (h:FR B c):(GS.xV c.1 c.2).ln≤2*B+21:=by
 obtain ⟨x,l⟩:=c
 obtain ⟨h1,h2,h3⟩:=h
 simp only at h1 h2 h3 ⊢
 have:=OA x l
 by_cases c:l=[]
 ·subst c
  rw [ig] at this
  rw [if_pos rfl] at this
  omega
 ·rw [if_neg c] at this
  omega
theorem ph {L:List Int} {blk:Nm→Nat→List GS×Nat} {dp:Nat} {test:Bool} (Zw:dp≤2) (hb:∀d,dp=d+1→∀s a,gT s→s.fresh+3+3*d≤20→sl (blk s a).1≤bL d):
  ∀(n:Nat) (s:Nm) (a:Nat),gT s→s.fresh+n+3*dp≤20→sl (dT L blk dp test n s a).1≤n*qL dp
 | 0,s,a,hs,hf=>by rw [dT,sV]; omega
 | n+1,s,a,hs,hf=>by
  have ih:=ph (L:=L) (test:=test) Zw hb n
  have he:∀(s:Nm),gT s→∀t a,(bU L s 2 t a).1.len≤136:=fun s hs t a=>eQ (L:=L) hs 2 t a
  have nv:=Sw Zw (f:=s.fresh+1) (by omega)
  have ho:301≤qL dp:=by
   unfold qL
   split<;>omega
  rw [dT,Nat.succ_mul]
  simp only
  split
  ·have h1:=hs.fresh (s.fresh+1)
   have h2:=he _ h1 (b7 L 3 (b7 L 7 a).2).1 (b7 L 3 (b7 L 7 a).2).2
   have h3:=ih _ (bU L { s with fresh:=s.fresh+1 } 2 (b7 L 3 (b7 L 7 a).2).1 (b7 L 3 (b7 L 7 a).2).2).2 (h1.with nv.1.1 nv.1.2 (b7 L 3 (b7 L 7 a).2).1) (by rw [gk]; simp only; omega)
   have h4:=BA nv.1.1
   rw [fh,Bv]
   omega
  ·split
   ·split
    ·exact Nat.le_trans (ih _ _ hs (by omega)) (by omega)
    ·ab h0
     have h1:=BA (hs.var _ _ (ft L h0 (b7 L 3 (b7 L 7 a).2).2)).1
     have h2:=he s hs (b7 L 3 (b7 L 7 a).2).1 (eG L (s.of (b7 L 3 (b7 L 7 a).2).1) (b7 L 3 (b7 L 7 a).2).2).2
     have h3:=ih s (bU L s 2 (b7 L 3 (b7 L 7 a).2).1 (eG L (s.of (b7 L 3 (b7 L 7 a).2).1) (b7 L 3 (b7 L 7 a).2).2).2).2 hs (by omega)
     rw [fh,Bt]
     omega
   ·split
    ·ab h
     obtain ⟨d,rfl⟩:∃d,dp=d+1:=⟨dp - 1,by omega⟩
     have h2:=he s hs 2 (b7 L 7 a).2
     have h3:=hb d rfl s (bU L s 2 2 (b7 L 7 a).2).2 hs (by omega)
     have ho:qL (d+1)=301+2*bL d:=rfl
     split
     ·have h4:=hb d rfl s (b7 L 2 (blk s (bU L s 2 2 (b7 L 7 a).2).2).2).2 hs (by omega)
      have h5:=ih s (blk s (b7 L 2 (blk s (bU L s 2 2 (b7 L 7 a).2).2).2).2).2 hs (by omega)
      rw [fh,OB]
      omega
     ·have h5:=ih s (b7 L 2 (blk s (bU L s 2 2 (b7 L 7 a).2).2).2).2 hs (by omega)
      rw [fh,OC]
      omega
    ·split
     ·ab h
      obtain ⟨d,rfl⟩:∃d,dp=d+1:=⟨dp - 1,by omega⟩
      have h1:=hs.fresh (s.fresh+1)
      have Da:=hb d rfl _ (b7 L 4 (b7 L 7 a).2).2 (h1.with nv.2.1 nv.2.2 0) (by rw [gk]; simp only; omega)
      have hr:=ih { s with fresh:=s.fresh+1 } (blk ({ s with fresh:=s.fresh+1 }.with ([105]++bQ (d+1)++[120]++bQ (s.fresh+1)) 0) (b7 L 4 (b7 L 7 a).2).2).2 h1 (by simp only; omega)
      have hq:(b7 L 4 (b7 L 7 a).2).1.toNat<10:=by have:=b_ L (n:=4) (by decide) (b7 L 7 a).2; omega
      have hx:=BA nv.2.1
      have ho:qL (d+1)=301+2*bL d:=rfl
      rw [fh,fh,Bv,Ig,sU,fh,sV,Bt,A2,A2,Bo,Bo,Bo,K3,o7 hq]
      simp only [List.length_cons,List.length_nil] at hx ⊢
      omega
     ·split
      ·have h2:(bU L s 3 2 (b7 L 7 a).2).1.len≤292:=eQ hs 3 2 (b7 L 7 a).2
       have h3:=ih s (bU L s 3 2 (b7 L 7 a).2).2 hs (by omega)
       rw [fh,Bu]
       omega
      ·split
       ·split
        ·ab c b hc
         have h2:=Y0 (vq hs (fun t a=>eQ (L:=L) hs 1 t a) _ _ _ _ hc)
         have h3:=ih s b hs (by omega)
         have h4:eL 1=58:=rfl
         rw [fh]
         omega
        ·exact Nat.le_trans (ih _ _ hs (by omega)) (by omega)
       ·have h3:=ih s (b7 L 7 a).2 hs (by omega)
        rw [fh,Ih]
        omega
theorem gY {L:List Int} {test:Bool}:∀(d:Nat),d≤2→∀(s:Nm) (a:Nat),gT s→s.fresh+3+3*d≤20→sl (dH L test d s a).1≤bL d
 | 0,hd,s,a,hs,hf=>by
  have hn:=b_ L (n:=4) (by decide) a
  rw [dH]
  refine Nat.le_trans (ph (by omega) (fun d h=>by omega) _ _ _ hs (by omega)) ?_
  exact Nat.mul_le_mul_right 301 (show (b7 L 4 a).1.toNat≤3 by omega)
 | d+1,hd,s,a,hs,hf=>by
  have hn:=b_ L (n:=4) (by decide) a
  rw [dH]
  refine Nat.le_trans (ph (by omega) (fun e h s a hs hf=>by
   obtain rfl:d=e:=by omega
   exact gY d (by omega) s a hs hf) _ _ _ hs (by omega)) ?_
  refine Nat.le_trans (Nat.mul_le_mul_right _ (show (b7 L 4 a).1.toNat≤3 by omega)) ?_
  show 3*(301+2*bL d)≤903+6*bL d
  omega
end
end Go.Proofs.YtpklkpkfgmoghaaGreatDoor.Zz
