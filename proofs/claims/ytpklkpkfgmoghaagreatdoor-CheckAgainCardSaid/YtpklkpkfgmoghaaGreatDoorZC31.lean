/- Programs of picks may be written, are parsed to their trees, and have not too many nodes. -/
import Derived.Test.YtpklkpkfgmoghaaGreatDoorZP30
import Derived.Test.YtpklkpkfgmoghaaGreatDoorZA0
set_option linter.unnecessarySimpa false
set_option linter.unusedVariables false
set_option linter.unusedSimpArgs false
set_option maxRecDepth 100000
namespace Go.Proofs.YtpklkpkfgmoghaaGreatDoor.Zz
noncomputable section
mutual
theorem uL:∀(s:GS) (r:List UInt8),s.tx 10 r=s.tx 10 []++r
 | .mL x e,r=>by rw [GS.tx,GS.tx,de e (59::r),de e [59]]; simp
 | .rQ x e,r=>by rw [GS.tx,GS.tx,de e (59::r),de e [59]]; simp
 | .Gc e l,r=>by
  rw [GS.tx,GS.tx,eu l (125::r),eu l [125],de e (32::123::10::_),de e (32::123::10::(GS.eG 10 l []++[125]))]
  simp
 | .Gb e l l2,r=>by
  rw [GS.tx,GS.tx,eu l2 (125::r),eu l2 [125],eu l (125::_),eu l (125::32::(nH++32::123::10::(GS.eG 10 l2 []++[125]))),de e (32::123::10::_),de e (32::123::10::(GS.eG 10 l []++(125::32::(nH++32::123::10::(GS.eG 10 l2 []++[125])))))]
  simp
 | .p8 e l,r=>by
  rw [GS.tx,GS.tx,eu l (125::r),eu l [125],de e (32::123::10::_),de e (32::123::10::(GS.eG 10 l []++[125]))]
  simp
 | .ret e,r=>by rw [GS.tx,GS.tx,de e (59::r),de e [59]]; simp
 | .lq e,r=>by rw [GS.tx,GS.tx,de e (59::r),de e [59]]; simp
 | .skip,r=>by rw [GS.tx,GS.tx]; simp
 | .Fa x l,r=>by rw [GS.tx,GS.tx,pQ l (41::59::r),pQ l [41,59]]; simp
theorem eu:∀(l:List GS) (r:List UInt8),GS.eG 10 l r=GS.eG 10 l []++r
 | [],r=>by rw [GS.eG,GS.eG]; rfl
 | s::l,r=>by
  rw [GS.eG,GS.eG,eu l r,uL s (10::(GS.eG 10 l []++r)),uL s (10::GS.eG 10 l [])]
  simp
end
def GS.ln (s:GS):Nat:=(s.tx 10 []).length
def sl (l:List GS):Nat:=(GS.eG 10 l []).length
theorem rq (l:List GS) (r:List UInt8):(GS.eG 10 l r).length=sl l+r.length:=by rw [eu,List.length_append]; rfl
theorem vZ:sl []=0:=by rw [sl,GS.eG]; rfl
theorem gG (s:GS) (l:List GS):sl (s::l)=s.ln+1+sl l:=by
 show (GS.eG 10 (s::l) []).length=_
 rw [GS.eG,uL,List.length_append,List.length_cons]
 show s.ln+((GS.eG 10 l []).length+1)=s.ln+1+(GS.eG 10 l []).length
 omega
theorem vY:∀(l r:List GS),sl (l++r)=sl l+sl r
 | [],r=>by rw [List.nil_append,vZ,Nat.zero_add]
 | s::l,r=>by rw [List.cons_append,gG,gG,vY l r]; omega
theorem kY:∀(l r:List GS),GS.gB (l++r)=GS.gB l++GS.gB r
 | [],r=>by rw [GS.gB]; rfl
 | s::l,r=>by rw [List.cons_append,GS.gB,GS.gB,kY l r]; rfl
theorem AJ:∀(l r:List GS),GS.qf (l++r)↔GS.qf l∧GS.qf r
 | [],r=>by rw [List.nil_append,GS.qf]; simp
 | s::l,r=>by rw [List.cons_append,GS.qf,GS.qf,AJ l r]; exact (and_assoc).symm
theorem vR:∀(l r:List GS),GS.iL (l++r)↔GS.iL l∧GS.iL r
 | [],r=>by rw [List.nil_append,GS.iL]; simp
 | s::l,r=>by rw [List.cons_append,GS.iL,GS.iL,vR l r]; exact (and_assoc).symm
theorem vQ:∀(l r:List GS),GS.jO (l++r)↔GS.jO l∧GS.jO r
 | [],r=>by rw [List.nil_append,GS.jO]; simp
 | s::l,r=>by rw [List.cons_append,GS.jO,GS.jO,vQ l r]; exact (and_assoc).symm
theorem vB:∀(l r:List GS),GS.ix (l++r)=max (GS.ix l) (GS.ix r)
 | [],r=>by rw [List.nil_append,GS.ix]; omega
 | s::l,r=>by rw [List.cons_append,GS.ix,GS.ix,vB l r]; omega
structure Sd (l:List GS) (n dp:Nat):Prop where
 ok:GS.qf l
 fb:GS.iL l
 iq:GS.jO l
 len:l.length≤2*n
 dep:GS.ix l≤7+2*dp
 wt:256*Nd.eA (GS.gB l)≤125*sl l+36*n
theorem Sd.nil {n dp:Nat}:Sd [] n dp:=⟨by rw [GS.qf]; trivial,by rw [GS.iL]; trivial,by rw [GS.jO]; trivial,by simp,by rw [GS.ix]; omega,by rw [GS.gB,bf]; omega⟩
theorem Sd.cons {s:GS} {l:List GS} {n dp:Nat} (h:Sd l n dp) (h1:s.ok) (h2:s.fb) (h3:s.iq) (h4:s.dep≤7+2*dp) (h5:256*s.nd.cI≤125*(s.ln+1)+36):Sd (s::l) (n+1) dp:=by
 refine ⟨by rw [GS.qf]; exact ⟨h1,h.ok⟩,by rw [GS.iL]; exact ⟨h2,h.fb⟩,by rw [GS.jO]; exact ⟨h3,h.iq⟩,by have:=h.len; rw [List.length_cons]; omega,by rw [GS.ix]; have:=h.dep; omega,?_⟩
 have:=h.wt
 rw [GS.gB,aD,gG]
 omega
theorem Sd.up {l:List GS} {n dp:Nat} (h:Sd l n dp):Sd l (n+1) dp:=⟨h.ok,h.fb,h.iq,by have:=h.len; omega,h.dep,by have:=h.wt; omega⟩
theorem Fz (x:List UInt8) (e:GE):(GS.mL x e).ln=x.length+5+e.len:=by
 show ((GS.mL x e).tx 10 []).length=_
 rw [GS.tx]
 simp only [List.length_append,List.length_cons,List.length_nil,iB]
 omega
theorem Fx (x:List UInt8) (e:GE):(GS.rQ x e).ln=x.length+4+e.len:=by
 show ((GS.rQ x e).tx 10 []).length=_
 rw [GS.tx]
 simp only [List.length_append,List.length_cons,List.length_nil,iB]
 omega
theorem VN (e:GE) (l:List GS):(GS.Gc e l).ln=7+e.len+sl l:=by
 show ((GS.Gc e l).tx 10 []).length=_
 rw [GS.tx]
 simp only [List.length_append,List.length_cons,List.length_nil,iB,rq,KO]
 omega
theorem VM (e:GE) (l l2:List GS):(GS.Gb e l l2).ln=16+e.len+sl l+sl l2:=by
 show ((GS.Gb e l l2).tx 10 []).length=_
 rw [GS.tx]
 simp only [List.length_append,List.length_cons,List.length_nil,iB,rq,KO,nH]
 omega
theorem NT (e:GE) (l:List GS):(GS.p8 e l).ln=8+e.len+sl l:=by
 show ((GS.p8 e l).tx 10 []).length=_
 rw [GS.tx]
 simp only [List.length_append,List.length_cons,List.length_nil,iB,rq,KF]
 omega
theorem aer (e:GE):(GS.ret e).ln=8+e.len:=by
 show ((GS.ret e).tx 10 []).length=_
 rw [GS.tx]
 simp only [List.length_append,List.length_cons,List.length_nil,iB,nI]
 omega
theorem Fy (e:GE):(GS.lq e).ln=8+e.len:=by
 show ((GS.lq e).tx 10 []).length=_
 rw [GS.tx]
 simp only [List.length_append,List.length_cons,List.length_nil,iB,nG]
 omega
theorem NU:GS.skip.ln=5:=by
 show (GS.skip.tx 10 []).length=_
 rw [GS.tx]; rfl
theorem VL (x:List UInt8) (l:List GE):(GS.Fa x l).ln+(if l=[] then 0 else 2)=x.length+3+jU l:=by
 show ((GS.Fa x l).tx 10 []).length+_=_
 have:=F3 l [41,59]
 rw [GS.tx]
 simp only [List.length_append,List.length_cons,List.length_nil] at this ⊢
 omega
theorem adP {x:List UInt8} {e:GE} {l:List GS} {n dp:Nat} (hx:hZ x) (h2:2≤x.length) (he:Gd e 2) (h:Sd l n dp):Sd (.mL x e::l) (n+1) dp:=by
 refine h.cons (by rw [GS.ok]; exact he.ok) (by rw [GS.fb]; exact ⟨hx,he.fb⟩) (by rw [GS.iq]; exact he.iq) (by rw [GS.dep]; have:=he.dep; omega) ?_
 have:=he.wt
 rw [Fz,GS.nd,bd,aD,bf]
 omega
theorem adn {x:List UInt8} {e:GE} {l:List GS} {n dp:Nat} (hx:hZ x) (h2:2≤x.length) (he:Gd e 2) (h:Sd l n dp):Sd (.rQ x e::l) (n+1) dp:=by
 refine h.cons (by rw [GS.ok]; exact he.ok) (by rw [GS.fb]; exact ⟨hx,he.fb⟩) (by rw [GS.iq]; exact he.iq) (by rw [GS.dep]; have:=he.dep; omega) ?_
 have:=he.wt
 rw [Fx,GS.nd,bd,aD,bf]
 omega
theorem ahW {e:GE} {b l:List GS} {n dp:Nat} (he:Gd e 2) (hb:Sd b 3 dp) (h:Sd l n (dp+1)):Sd (.Gc e b::l) (n+1) (dp+1):=by
 refine h.cons (by rw [GS.ok]; exact ⟨he.ok,by have:=hb.len; omega,hb.ok⟩) (by rw [GS.fb]; exact ⟨he.fb,hb.fb⟩) (by rw [GS.iq]; exact ⟨he.iq,hb.iq⟩) (by rw [GS.dep]; have:=he.dep; have:=hb.dep; omega) ?_
 have:=he.wt
 have:=hb.wt
 rw [VN,GS.nd,bd,aD,aD,bf,bd]
 omega
theorem aek {e:GE} {b c l:List GS} {n dp:Nat} (he:Gd e 2) (hb:Sd b 3 dp) (hc:Sd c 3 dp) (h:Sd l n (dp+1)):Sd (.Gb e b c::l) (n+1) (dp+1):=by
 refine h.cons (by rw [GS.ok]; exact ⟨he.ok,⟨by have:=hb.len; omega,hb.ok⟩,by have:=hc.len; omega,hc.ok⟩) (by rw [GS.fb]; exact ⟨he.fb,hb.fb,hc.fb⟩) (by rw [GS.iq]; exact ⟨he.iq,hb.iq,hc.iq⟩) (by rw [GS.dep]; have:=he.dep; have:=hb.dep; have:=hc.dep; omega) ?_
 have:=he.wt
 have:=hb.wt
 have:=hc.wt
 rw [VM,GS.nd,bd,aD,aD,aD,bf,bd,bd]
 omega
theorem YT {e:GE} {l:List GS} {n dp:Nat} (he:Gd e 3) (h:Sd l n dp):Sd (.lq e::l) (n+1) dp:=by
 refine h.cons (by rw [GS.ok]; exact he.ok) (by rw [GS.fb]; exact he.fb) (by rw [GS.iq]; exact he.iq) (by rw [GS.dep]; have:=he.dep; omega) ?_
 have:=he.wt
 rw [Fy,GS.nd,bd,aD,bf]
 omega
theorem aaR {l:List GS} {n dp:Nat} (h:Sd l n dp):Sd (.skip::l) (n+1) dp:=by
 refine h.cons (by rw [GS.ok]; trivial) (by rw [GS.fb]; trivial) (by rw [GS.iq]; trivial) (by rw [GS.dep]; omega) ?_
 rw [NU,GS.nd,bd,bf]
 omega
theorem ahc {c:List UInt8×List GE} {l:List GS} {n dp:Nat} (hc:KQ 1 c) (h:Sd l n dp):Sd (.Fa c.1 c.2::l) (n+1) dp:=by
 obtain ⟨x,ls⟩:=c
 obtain ⟨h1,h2,h3,h4⟩:=hc
 simp only at h1 h2 h3 h4 ⊢
 obtain ⟨a,b,q,e⟩:=Ma h4
 refine h.cons (by rw [GS.ok]; exact ⟨by omega,a⟩) (by rw [GS.fb]; exact ⟨h1,b⟩) (by rw [GS.iq]; exact q) (by rw [GS.dep]; omega) ?_
 have hw:=EO h4
 have hl:=VL x ls
 rw [GS.nd,bd,aD,bf,bd]
 clear e q b a h4
 rcases ls with _ | ⟨e1,_ | ⟨e2,_ | ⟨e3,r⟩⟩⟩
 ·rw [if_pos rfl] at hl
  rw [GE.gB,bf,jU] at*
  omega
 ·rw [if_neg (by simp)] at hl
  simp only [List.length_cons,List.length_nil] at hw
  omega
 ·rw [if_neg (by simp)] at hl
  simp only [List.length_cons,List.length_nil] at hw
  omega
 ·simp only [List.length_cons] at h3; omega
end
end Go.Proofs.YtpklkpkfgmoghaaGreatDoor.Zz
namespace Go.Proofs.YtpklkpkfgmoghaaGreatDoor.Zz
noncomputable section
def nmB (x:List UInt8):Bool:=match x with
 | []=>false
 | c::w=>fL (c.toNat:Int) && w.all (fun y=>ja (y.toNat:Int)) && !(words.contains (c::w)) && decide ((c::w).length≤16) && decide (2≤(c::w).length)
theorem vP {x:List UInt8} (h:nmB x=true):hZ x∧2≤x.length:=by
 cases x with
 | nil=>cases h
 | cons c w=>
  simp only [nmB,Bool.and_eq_true,decide_eq_true_eq,List.all_eq_true,Bool.not_eq_true'] at h
  exact ⟨⟨c,w,rfl,h.1.1.1.1,h.1.1.1.2,h.1.1.2,h.1.2⟩,h.2⟩
def ox (n:Nat):List UInt8:=if n<10 then [UInt8.ofNat (48+n)] else [UInt8.ofNat (48+n / 10),UInt8.ofNat (48+n % 10)]
theorem kK {n:Nat} (h:n<100):bM n=ox n:=by
 rw [bM,Lib.itoa,if_neg (by omega),Int.toNat_natCast,ox]
 split
 ·exact Lib.decDigits_one (by assumption)
 ·exact Lib.decDigits_two (by assumption) h
theorem ZW:((List.range 3).all fun d=>(List.range 21).all fun f=>nmB ([118]++ox d++[120]++ox f) && nmB ([105]++ox d++[120]++ox f))=true:=by kernel_rfl
theorem ZR:((List.range 5).all fun i=>nmB ([103]++ox i) && nmB ([102]++ox i) && nmB ([112]++ox i) && nmB ([116]++ox i))=true:=by kernel_rfl
theorem ZV {d f:Nat} (hd:d≤2) (hf:f≤20):(hZ ([118]++bM d++[120]++bM f)∧2≤([118]++bM d++[120]++bM f).length)∧hZ ([105]++bM d++[120]++bM f)∧2≤([105]++bM d++[120]++bM f).length:=by
 have h:=ZW
 simp only [List.all_eq_true,List.mem_range,Bool.and_eq_true] at h
 have:=h d (by omega) f (by omega)
 rw [kK (by omega),kK (by omega)]
 exact ⟨vP this.1,vP this.2⟩
theorem L7 {i:Nat} (hi:i≤4):(hZ ([103]++bM i)∧2≤([103]++bM i).length)∧(hZ ([102]++bM i)∧2≤([102]++bM i).length)∧(hZ ([112]++bM i)∧2≤([112]++bM i).length)∧hZ ([116]++bM i)∧2≤([116]++bM i).length:=by
 have h:=ZR
 simp only [List.all_eq_true,List.mem_range,Bool.and_eq_true] at h
 have:=h i (by omega)
 rw [kK (by omega)]
 exact ⟨vP this.1.1.1,vP this.1.1.2,vP this.1.2,vP this.2⟩
theorem jA.with {s:Nm} (h:jA s) {x:List UInt8} (h1:hZ x) (h2:2≤x.length) (t:Int):jA (s.with x t):=by
 have e1:(s.with x t).funcs=s.funcs:=by unfold Nm.with; split<;>(try rfl); split<;>rfl
 refine ⟨fun u y hy=>?_,fun f hf=>h.fn f (by rw [e1] at hf; exact hf)⟩
 have:y∈s.of u∨y=x:=by
  unfold Nm.with Nm.of at hy
  unfold Nm.of
  by_cases t0:t=0<;>by_cases t1:t=1<;>by_cases u0:u=0<;>by_cases u1:u=1<;>simp_all
  all_goals (first | omega | (rcases hy with hy | hy<;>simp_all))
 rcases this with hy | rfl
 ·exact h.var u y hy
 ·exact ⟨h1,h2⟩
theorem jA.fresh {s:Nm} (h:jA s) (n:Nat):jA { s with fresh:=n }:=⟨h.var,h.fn⟩
theorem eF (s:Nm) (x:List UInt8) (t:Int):(s.with x t).fresh=s.fresh:=by unfold Nm.with; split<;>(try rfl); split<;>rfl
theorem adU {x:List UInt8} {b r:List GS} {n d q:Nat} (yu:hZ x) (h2x:2≤x.length) (hq:q<10) (HH:Sd b 3 d) (hr:Sd r n (d+1)):Sd (.mL x (.int [48])::.p8 (.bin [60] (.var x) (.int (bM q))) (b++[.rQ x (.bin [43] (.var x) (.int [49]))])::r) (n+1) (d+1):=by
 have hint:∀j,j<10→Dk (bM j)∧Lib.itoa ((fG (bM j):Nat):Int)=bM j∧(bM j).length=1:=fun j hj=>by
  have e1:bM j=[UInt8.ofNat (48+j)]:=kW hj
  have:∀i:Fin 10,(decide (fG [UInt8.ofNat (48+i.1)]=i.1) && isDigit (((UInt8.ofNat (48+i.1))).toNat:Int) && rP [UInt8.ofNat (48+i.1)])=true:=by decide
  have:=this ⟨j,hj⟩
  simp only [Bool.and_eq_true,decide_eq_true_eq] at this
  rw [e1]
  refine ⟨⟨by simp,fun y hy=>?_,this.2⟩,?_,rfl⟩
  ·rw [List.mem_singleton.1 hy]; exact this.1.2
  ·rw [this.1.1]; exact kW hj
 have hgI:∀w,Dk w→Lib.itoa ((fG w:Nat):Int)=w→(GE.int w).ok∧(GE.int w).fb∧(GE.int w).iq∧(GE.int w).dep=0∧(GE.int w).nd.cI=1∧(GE.int w).len=w.length:=fun w h1 h2=>⟨by rw [GE.ok]; trivial,by rw [GE.fb]; exact h1,by rw [GE.iq]; exact h2,by rw [GE.dep],by rw [GE.nd,bd,bf],by rw [GE.len,GE.tx,List.append_nil]⟩
 have g0:=hgI [48] (lZ _ (by simp)).1 (lZ _ (by simp)).2
 have g1:=hgI [49] (lZ _ (by simp)).1 (lZ _ (by simp)).2
 have gq:=hgI (bM q) (hint q hq).1 (hint q hq).2.1
 have hlq:=(hint q hq).2.2
 have hx:(GE.var x).ok∧(GE.var x).fb∧(GE.var x).iq∧(GE.var x).dep=0∧(GE.var x).nd.cI=1∧(GE.var x).len=x.length:=⟨by rw [GE.ok]; trivial,by rw [GE.fb]; exact yu,by rw [GE.iq]; trivial,by rw [GE.dep],by rw [GE.nd,bd,bf],by rw [GE.len,GE.tx,List.append_nil]⟩
 obtain ⟨x1,x2,x3,x4,x5,x6⟩:=hx
 obtain ⟨y1,y2,y3,y4,y5,y6⟩:=g0
 obtain ⟨z1,z2,z3,z4,z5,z6⟩:=g1
 obtain ⟨w1,w2,w3,w4,w5,w6⟩:=gq
 have hx2:=h2x
 have o60:=Mb [60] (by decide)
 have o43:=Mb [43] (by decide)
 have lb:∀(s:List UInt8) (a b:GE),(GE.bin s a b).len=4+s.length+a.len+b.len:=fun s a b=>by
  rw [GE.len,GE.tx,List.length_cons,iB,List.length_cons,List.length_append,List.length_cons,iB]
  simp only [List.length_cons,List.length_nil]
  omega
 have db:∀(s:List UInt8) (a b:GE),(GE.bin s a b).dep=max (1+a.dep) (2+b.dep):=fun s a b=>by rw [GE.dep]
 have hla:=HH.len
 have hlr:=hr.len
 have hda:=HH.dep
 have hdr:=hr.dep
 have hwa:=HH.wt
 have hwr:=hr.wt
 refine ⟨?_,?_,?_,?_,?_,?_⟩
 ·rw [GS.qf,GS.qf,GS.ok,GS.ok,AJ,GS.qf,GS.qf,GS.ok,GE.ok,GE.ok]
  exact ⟨y1,⟨⟨o60.1,o60.2.1,x1,w1⟩,by rw [List.length_append,List.length_singleton]; omega,HH.ok,⟨o43.1,o43.2.1,x1,z1⟩,trivial⟩,hr.ok⟩
 ·rw [GS.iL,GS.iL,GS.fb,GS.fb,vR,GS.iL,GS.iL,GS.fb,GE.fb,GE.fb]
  exact ⟨⟨yu,y2⟩,⟨⟨o60.2.2.1,x2,w2⟩,HH.fb,⟨yu,o43.2.2.1,x2,z2⟩,trivial⟩,hr.fb⟩
 ·rw [GS.jO,GS.jO,GS.iq,GS.iq,vQ,GS.jO,GS.jO,GS.iq,GE.iq,GE.iq]
  exact ⟨y3,⟨⟨x3,w3⟩,HH.iq,⟨x3,z3⟩,trivial⟩,hr.iq⟩
 ·rw [List.length_cons,List.length_cons]; omega
 ·rw [GS.ix,GS.ix,GS.dep,GS.dep,vB,GS.ix,GS.ix,GS.dep,db,db,x4,y4,z4,w4]
  omega
 ·skip
  have lM:(GE.bin [60] (.var x) (.int (bM q))).nd.cI=3:=by rw [GE.nd,bd,aD,aD,bf,x5,w5]
  have lN:(GE.bin [43] (.var x) (.int [49])).nd.cI=3:=by rw [GE.nd,bd,aD,aD,bf,x5,z5]
  simp only [GS.gB,GS.nd,aD,bf,bd,kY,jj,lM,lN,y5,gG,vY,vZ,Fz,NT,Fx,lb,x6,y6,z6,w6,hlq,List.length_cons,List.length_nil]
  omega
theorem v7 {L:List Int} {blk:Nm→Nat→List GS×Nat} {dp:Nat} {test:Bool} (Vl:dp≤2) (hb:∀d,dp=d+1→∀s a,jA s→s.fresh+3+3*d≤20→Sd (blk s a).1 3 d):
  ∀(n:Nat) (s:Nm) (a:Nat),jA s→s.fresh+n+3*dp≤20→Sd (eE L blk dp test n s a).1 n dp
 | 0,s,a,hs,hf=>Sd.nil
 | n+1,s,a,hs,hf=>by
  have ih:=v7 (L:=L) (test:=test) Vl hb n
  have he:=fun d hd t a=>qF (L:=L) hs d hd t a
  have nv:=ZV Vl (f:=s.fresh+1) (by omega)
  rw [eE]
  simp only
  split
  ·have h1:=hs.fresh (s.fresh+1)
   exact adP nv.1.1 nv.1.2 (qF h1 2 (by omega) _ _) (ih _ _ (h1.with nv.1.1 nv.1.2 _) (by rw [eF]; simp only; omega))
  ·split
   ·split
    ·exact (ih _ _ hs (by omega)).up
    ·rename_i h0
     have:=hs.var _ _ (fk L h0 (bD L 3 (bD L 7 a).2).2)
     exact adn this.1 this.2 (he 2 (by omega) _ _) (ih _ _ hs (by omega))
   ·split
    ·rename_i h
     obtain ⟨d,rfl⟩:∃d,dp=d+1:=⟨dp - 1,by omega⟩
     split
     ·exact aek (he 2 (by omega) _ _) (hb d rfl _ _ hs (by omega)) (hb d rfl _ _ hs (by omega)) (ih _ _ hs (by omega))
     ·exact ahW (he 2 (by omega) _ _) (hb d rfl _ _ hs (by omega)) (ih _ _ hs (by omega))
    ·split
     ·rename_i h
      obtain ⟨d,rfl⟩:∃d,dp=d+1:=⟨dp - 1,by omega⟩
      have h1:=hs.fresh (s.fresh+1)
      have HH:=hb d rfl _ (bD L 4 (bD L 7 a).2).2 (h1.with nv.2.1 nv.2.2 0) (by rw [eF]; simp only; omega)
      have hr:=ih { s with fresh:=s.fresh+1 } (blk ({ s with fresh:=s.fresh+1 }.with ([105]++bM (d+1)++[120]++bM (s.fresh+1)) 0) (bD L 4 (bD L 7 a).2).2).2 h1 (by simp only; omega)
      have hq:(bD L 4 (bD L 7 a).2).1.toNat<10:=by have:=bY L (n:=4) (by decide) (bD L 7 a).2; omega
      exact adU nv.2.1 nv.2.2 hq HH hr
     ·split
      ·exact YT (he 3 (by omega) _ _) (ih _ _ hs (by omega))
      ·split
       ·split
        ·rename_i c b hc
         exact ahc (GQ hs (fun t a=>he 1 (by omega) t a) _ _ _ _ hc) (ih _ _ hs (by omega))
        ·exact (ih _ _ hs (by omega)).up
       ·exact aaR (ih _ _ hs (by omega))
theorem Sd.le {l:List GS} {n n' dp:Nat} (h:Sd l n dp) (hn:n≤n'):Sd l n' dp:=⟨h.ok,h.fb,h.iq,by have:=h.len; omega,h.dep,by have:=h.wt; omega⟩
theorem vp {L:List Int} {test:Bool}:∀(d:Nat),d≤2→∀(s:Nm) (a:Nat),jA s→s.fresh+3+3*d≤20→Sd (dM L test d s a).1 3 d
 | 0,hd,s,a,hs,hf=>by
  have hn:=bY L (n:=4) (by decide) a
  rw [dM]
  exact (v7 (by omega) (fun d h=>by omega) _ _ _ hs (by omega)).le (by omega)
 | d+1,hd,s,a,hs,hf=>by
  have hn:=bY L (n:=4) (by decide) a
  rw [dM]
  exact (v7 (by omega) (fun e h s a hs hf=>by
   obtain rfl:d=e:=by omega
   exact vp d (by omega) s a hs hf) _ _ _ hs (by omega)).le (by omega)
theorem Z7:∀(l:List (List UInt8×Int)) (r:List UInt8),(∀p∈l,2≤p.1.length)→6*l.length+r.length≤(kZ l r).length+(if l=[] then 0 else 0):=by
 have ht:∀(l:List (List UInt8×Int)) (r:List UInt8),(∀p∈l,2≤p.1.length)→6*l.length+r.length≤(kq l r).length:=by
  intro l
  induction l with
  | nil=>intro r _; simp [kq]
  | cons p l ih=>
   intro r h
   have h1:=h p (by simp)
   have h2:=ih r fun q hq=>h q (by simp [hq])
   have h3:3≤(jE p.2).length:=by unfold jE; split<;>(try split)<;>decide
   rw [kq]
   simp only [List.length_cons,List.length_append]
   omega
 intro l r h
 cases l with
 | nil=>simp [kZ]
 | cons p l=>
  have h1:=h p (by simp)
  have h2:=ht l r fun q hq=>h q (by simp [hq])
  have h3:3≤(jE p.2).length:=by unfold jE; split<;>(try split)<;>decide
  rw [kZ]
  simp only [List.length_cons,List.length_append]
  omega
structure Dd (D:GD) (x:Nat):Prop where
 ok:D.ok
 fb:D.fb
 iq:D.iq
 wt:∀r:List UInt8,256*D.nd.cI+x+125*r.length≤125*((D.tx 10 (10::r)).length)
theorem Yk (t:Int):3≤(jE t).length:=by unfold jE; split<;>(try split)<;>decide
theorem af5 {x:List UInt8} {t:Int} {e:GE} (hx:hZ x) (h2:2≤x.length) (ht:MM t) (he:Gd e 0∧e.lit∧e.pos∧1≤e.len∧e.nd.cI=1):Dd (.var x t e) 0:=by
 obtain ⟨h3,h4,h5,h6,h7⟩:=he
 refine ⟨by rw [GD.ok]; exact ⟨ht,h4⟩,by rw [GD.fb]; exact ⟨hx,h3.fb⟩,by rw [GD.iq]; exact ⟨ht,⟨h4,h3.iq⟩,h5⟩,fun r=>?_⟩
 have:=Yk t
 rw [GD.tx,GD.nd,bd,aD,bf,h7]
 simp only [List.length_append,List.length_cons,List.length_nil,iB,mR]
 omega
theorem Sd.snoc {l:List GS} (h:Sd l 3 2) {s:GS} (h1:s.ok) (h2:s.fb) (h3:s.iq) (h4:s.dep≤7):GS.qf (l++[s])∧GS.iL (l++[s])∧GS.jO (l++[s])∧(l++[s]).length≤32∧GS.ix (l++[s])≤39:=by
 refine ⟨(AJ l [s]).2 ⟨h.ok,by rw [GS.qf,GS.qf]; exact ⟨h1,trivial⟩⟩,(vR l [s]).2 ⟨h.fb,by rw [GS.iL,GS.iL]; exact ⟨h2,trivial⟩⟩,(vQ l [s]).2 ⟨h.iq,by rw [GS.jO,GS.jO]; exact ⟨h3,trivial⟩⟩,by have:=h.len; rw [List.length_append,List.length_singleton]; omega,?_⟩
 rw [vB,GS.ix,GS.ix]
 have:=h.dep
 omega
theorem Zo {x:List UInt8} {ps:List (List UInt8×Int)} {t:Int} {l:List GS} {e:GE} (hx:hZ x) (h2:2≤x.length) (hp:∀p∈ps,hZ p.1∧2≤p.1.length∧MM p.2) (hn:ps.length≤2) (ht:MM t) (hl:Sd l 3 2) (he:Gd e 3):Dd (.func x ps t (l++[.ret e])) 0:=by
 obtain ⟨a1,a2,a3,a4,a5⟩:=hl.snoc (s:=.ret e) (by rw [GS.ok]; exact he.ok) (by rw [GS.fb]; exact he.fb) (by rw [GS.iq]; exact he.iq) (by rw [GS.dep]; have:=he.dep; omega)
 refine ⟨by rw [GD.ok]; exact ⟨by omega,fun p h=>(hp p h).2.2,ht,a4,a1,a5⟩,by rw [GD.fb]; exact ⟨hx,fun p h=>(hp p h).1,a2⟩,by rw [GD.iq]; exact ⟨fun p h=>(hp p h).2.2,ht,a3⟩,fun r=>?_⟩
 have h3:=Yk t
 have h4:=Z7 ps (41::32::(jE t++32::123::10::GS.eG 10 (l++[.ret e]) (125::10::r))) fun p h=>(hp p h).2.1
 have h5:=hl.wt
 have h6:=he.wt
 have h7:sl (l++[.ret e])=sl l+(8+e.len+1):=by rw [vY,gG,vZ,aer]
 have h8:((GD.func x ps t (l++[.ret e])).nd).cI=3+ps.length+Nd.eA (GS.gB l)+e.nd.cI:=by
  rw [GD.nd,bd,jj,zK,aD,bf,bd,kY,jj,GS.gB,GS.gB,aD,bf,GS.nd,bd,aD,bf]
  omega
 rw [h8,GD.tx]
 simp only [List.length_append,List.length_cons,List.length_nil,rq,h7,uZ] at h4 ⊢
 simp only [ite_self] at h4
 omega
theorem aa6 {x:List UInt8} {l:List GS} {e:GE} (hx:hZ x) (h2:2≤x.length) (hl:Sd l 3 2) (he:Gd e 3):Dd (.test x (l++[.lq e])) 256:=by
 obtain ⟨a1,a2,a3,a4,a5⟩:=hl.snoc (s:=.lq e) (by rw [GS.ok]; exact he.ok) (by rw [GS.fb]; exact he.fb) (by rw [GS.iq]; exact he.iq) (by rw [GS.dep]; have:=he.dep; omega)
 refine ⟨by rw [GD.ok]; exact ⟨a4,a1,a5⟩,by rw [GD.fb]; exact ⟨hx,a2⟩,by rw [GD.iq]; exact a3,fun r=>?_⟩
 have h5:=hl.wt
 have h6:=he.wt
 have h7:sl (l++[.lq e])=sl l+(8+e.len+1):=by rw [vY,gG,vZ,Fy]
 have h8:((GD.test x (l++[.lq e])).nd).cI=3+Nd.eA (GS.gB l)+e.nd.cI:=by
  rw [GD.nd,bd,aD,bf,bd,kY,jj,GS.gB,GS.gB,aD,bf,GS.nd,bd,aD,bf]
  omega
 rw [h8,GD.tx]
 simp only [List.length_append,List.length_cons,List.length_nil,rq,h7,u5]
 omega
end
end Go.Proofs.YtpklkpkfgmoghaaGreatDoor.Zz
namespace Go.Proofs.YtpklkpkfgmoghaaGreatDoor.Zz
noncomputable section
theorem F5 (L:List Int) (a:Nat):MM ((bD L 3 a).1+1):=by
 have:=bY L (n:=3) (by decide) a
 unfold MM
 omega
theorem KC {L:List Int}:∀(i:Nat),i≤2→∀(s:Nm) (a:Nat),jA s→s.fresh=0→(∀D∈(fB L i s a).1,Dd D 0)∧(fB L i s a).1.length=i∧jA (fB L i s a).2.1∧(fB L i s a).2.1.fresh=0
 | 0,hi,s,a,hs,hf=>⟨(fun D h=>by rw [fB] at h; cases h),rfl,hs,hf⟩
 | i+1,hi,s,a,hs,hf=>by
  have nm:=(L7 (i:=i+1) (by omega)).1
  have h1:=hs.with nm.1 nm.2 (bD L 3 a).1
  obtain ⟨uz,uA,Wi,q4p⟩:=KC i (by omega) _ (nQ L (bD L 3 a).1 (bD L 3 a).2).2 h1 (by rw [eF]; exact hf)
  rw [fB]
  refine ⟨fun D h=>?_,by simp only [List.length_cons,uA],Wi,q4p⟩
  rcases List.mem_cons.1 h with rfl | h
  ·exact af5 nm.1 nm.2 (F5 L a) (yX L _ _)
  ·exact uz D h
theorem Ir {L:List Int}:∀(i:Nat),i≤2→∀(s:Nm) (a:Nat),jA s→s.fresh=0→(∀p∈(gQ L i s a).1,hZ p.1∧2≤p.1.length∧MM p.2)∧(gQ L i s a).1.length=i∧jA (gQ L i s a).2.1∧(gQ L i s a).2.1.fresh=0
 | 0,hi,s,a,hs,hf=>⟨(fun D h=>by rw [gQ] at h; cases h),rfl,hs,hf⟩
 | i+1,hi,s,a,hs,hf=>by
  have nm:=(L7 (i:=i+1) (by omega)).2.2.1
  have h1:=hs.with nm.1 nm.2 (bD L 3 a).1
  obtain ⟨uz,uA,Wi,q4p⟩:=Ir i (by omega) _ (bD L 3 a).2 h1 (by rw [eF]; exact hf)
  rw [gQ]
  refine ⟨fun p h=>?_,by simp only [List.length_cons,uA],Wi,q4p⟩
  rcases List.mem_cons.1 h with rfl | h
  ·exact ⟨nm.1,nm.2,F5 L a⟩
  ·exact uz p h
theorem jA.Zn {s:Nm} (h:jA s) {f:Fn} (h1:hZ f.name) (h2:2≤f.name.length) (h3:f.params.length≤2):jA { s with funcs:=s.funcs++[f] }:=⟨h.var,fun g hg=>by
 rcases List.mem_append.1 hg with hg | hg
 ·exact h.fn g hg
 ·rw [List.mem_singleton.1 hg]; exact ⟨h1,h2,h3⟩⟩
theorem C5 {L:List Int}:∀(i:Nat),i≤3→∀(s:Nm) (a:Nat),jA s→s.fresh=0→(∀D∈(eS L i s a).1,Dd D 0∧D.isVar=false)∧(eS L i s a).1.length=i∧jA (eS L i s a).2.1∧(eS L i s a).2.1.fresh=0
 | 0,hi,s,a,hs,hf=>⟨(fun D h=>by rw [eS] at h; cases h),rfl,hs,hf⟩
 | i+1,hi,s,a,hs,hf=>by
  have nm:=(L7 (i:=i+1) (by omega)).2.1
  have hn:=bY L (n:=3) (by decide) (bD L 3 a).2
  obtain ⟨SX,p2p,p3p,p4p⟩:=Ir (L:=L) (bD L 3 (bD L 3 a).2).1.toNat (by omega) s (bD L 3 (bD L 3 a).2).2 hs hf
  rw [eS]
  simp only
  generalize gQ L (bD L 3 (bD L 3 a).2).1.toNat s (bD L 3 (bD L 3 a).2).2=ps at SX p2p p3p p4p ⊢
  have hlen:(ps.1.map fun p=>p.2 - 1).length≤2:=by rw [List.length_map,p2p]; omega
  generalize hF:(⟨[102]++bM (i+1),(bD L 3 a).1,ps.1.map fun p=>p.2 - 1⟩:Fn)=F
  have f1:hZ F.name:=by rw [←hF]; exact nm.1
  have f2:2≤F.name.length:=by rw [←hF]; exact nm.2
  have f3:F.params.length≤2:=by rw [←hF]; exact hlen
  have ho:jA (if (bD L 5 ps.2.2).1=4 then { ps.2.1 with funcs:=ps.2.1.funcs++[F] } else ps.2.1)∧(if (bD L 5 ps.2.2).1=4 then { ps.2.1 with funcs:=ps.2.1.funcs++[F] } else ps.2.1:Nm).fresh=0:=by
   split
   ·exact ⟨p3p.Zn f1 f2 f3,p4p⟩
   ·exact ⟨p3p,p4p⟩
  generalize (if (bD L 5 ps.2.2).1=4 then { ps.2.1 with funcs:=ps.2.1.funcs++[F] } else ps.2.1:Nm)=o at ho
  obtain ⟨uz,uA,Wi,q4p⟩:=C5 i (by omega) { s with funcs:=s.funcs++[F] } (b_ L o 3 (bD L 3 a).1 (dM L false 2 o (bD L 5 ps.2.2).2).2).2 (hs.Zn f1 f2 f3) hf
  refine ⟨fun D h=>?_,by simp only [List.length_cons,uA],Wi,q4p⟩
  rcases List.mem_cons.1 h with rfl | h
  ·exact ⟨Zo nm.1 nm.2 SX (by rw [p2p]; omega) (F5 L a) (vp 2 (by omega) _ _ ho.1 (by rw [ho.2]; omega)) (qF ho.1 3 (by omega) _ _),rfl⟩
  ·exact uz D h
theorem Ei {L:List Int}:∀(i:Nat),i≤3→∀(s:Nm) (a:Nat),jA s→s.fresh=0→(∀D∈(ia L i s a).1,Dd D 256∧D.isVar=false)∧(ia L i s a).1.length=i
 | 0,hi,s,a,hs,hf=>⟨(fun D h=>by rw [ia] at h; cases h),rfl⟩
 | i+1,hi,s,a,hs,hf=>by
  have nm:=(L7 (i:=i+1) (by omega)).2.2.2
  obtain ⟨uz,uA⟩:=Ei i (by omega) s (b_ L s 3 2 (dM L true 2 s a).2).2 hs hf
  rw [ia]
  refine ⟨fun D h=>?_,by simp only [List.length_cons]; rw [uA]⟩
  rcases List.mem_cons.1 h with rfl | h
  ·exact ⟨aa6 nm.1 nm.2 (vp 2 (by omega) _ _ hs (by rw [hf]; omega)) (qF hs 3 (by omega) _ _),rfl⟩
  ·exact uz D h
theorem Dd.zero {D:GD} {x:Nat} (h:Dd D x):Dd D 0:=⟨h.ok,h.fb,h.iq,fun r=>by have:=h.wt r; omega⟩
theorem akq:∀(l:List GD),(∀D∈l,Dd D 0)→256*Nd.eA (l.map GD.nd)≤125*(dQ 10 l).length
 | [],h=>by rw [List.map_nil,bf]; omega
 | D::l,h=>by
  have h1:=(h D (by simp)).wt (dQ 10 l)
  have h2:=akq l fun E hE=>h E (by simp [hE])
  rw [List.map_cons,aD,dQ]
  omega
theorem akr:∀(l:List GD),(∀D∈l,Dd D 0)→(∃D∈l,Dd D 256)→256*Nd.eA (l.map GD.nd)+256≤125*(dQ 10 l).length
 | [],h,⟨D,hD,_⟩=>by cases hD
 | D::l,h,⟨E,hE,hx⟩=>by
  have h1:=(h D (by simp)).wt (dQ 10 l)
  have h0:=akq l fun E hE=>h E (by simp [hE])
  rw [List.map_cons,aD,dQ]
  rcases List.mem_cons.1 hE with rfl | hE
  ·have:=hx.wt (dQ 10 l)
   omega
  ·have h2:=akr l (fun E hE=>h E (by simp [hE])) ⟨E,hE,hx⟩
   omega
theorem IA (L:List Int):(∀D∈iu L,Dd D 0)∧Fk (iu L)≤16∧Fh (iu L)≤32∧(∃D∈iu L,Dd D 256):=by
 have n0:jA ⟨[],[],[],[],0⟩:=⟨(fun t x h=>by unfold Nm.of at h; split at h<;>(try split at h)<;>cases h),(fun f h=>by cases h)⟩
 have r1:=bY L (n:=3) (by decide) 0
 obtain ⟨v1,v2,v3,v4⟩:=KC (L:=L) (bD L 3 0).1.toNat (by omega) ⟨[],[],[],[],0⟩ (bD L 3 0).2 n0 rfl
 unfold iu
 simp only
 generalize fB L (bD L 3 0).1.toNat ⟨[],[],[],[],0⟩ (bD L 3 0).2=V at v1 v2 v3 v4 ⊢
 have r2:=bY L (n:=3) (by decide) V.2.2
 obtain ⟨f1,f2,f3,f4⟩:=C5 (L:=L) ((bD L 3 V.2.2).1.toNat+1) (by omega) V.2.1 (bD L 3 V.2.2).2 v3 v4
 generalize eS L ((bD L 3 V.2.2).1.toNat+1) V.2.1 (bD L 3 V.2.2).2=F at f1 f2 f3 f4 ⊢
 have r3:=bY L (n:=3) (by decide) F.2.2
 obtain ⟨t1,t2⟩:=Ei (L:=L) ((bD L 3 F.2.2).1.toNat+1) (by omega) F.2.1 (bD L 3 F.2.2).2 f3 f4
 generalize (ia L ((bD L 3 F.2.2).1.toNat+1) F.2.1 (bD L 3 F.2.2).2).1=T at t1 t2 ⊢
 refine ⟨fun D h=>?_,?_,?_,?_⟩
 ·rcases List.mem_append.1 h with h | h
  ·rcases List.mem_append.1 h with h | h
   ·exact v1 D h
   ·exact (f1 D h).1
  ·exact (t1 D h).1.zero
 ·unfold Fk
  rw [List.filter_append,List.filter_append,(List.filter_eq_nil_iff (p:=GD.isVar) (l:=F.1)).2 (fun D h=>by rw [(f1 D h).2]; simp),(List.filter_eq_nil_iff (p:=GD.isVar) (l:=T)).2 (fun D h=>by rw [(t1 D h).2]; simp)]
  have:=List.length_filter_le GD.isVar V.1
  simp only [List.append_nil]
  omega
 ·unfold Fh
  have:=List.length_filter_le (fun D:GD=> !D.isVar) (V.1++F.1++T)
  simp only [List.length_append] at this
  omega
 ·cases T with
  | nil=>simp at t2
  | cons D T=>exact ⟨D,by simp,(t1 D (by simp)).1⟩
theorem Bv (L:List Int) (h:(lT L).length≤4096):(jg (iu L)).cI≤2000:=by
 obtain ⟨a,_,_,b⟩:=IA L
 have:=akr _ a b
 unfold lT at h
 rw [jg,bd]
 omega
theorem FO (L:List Int) (h:(lT L).length≤4096):mu 81 (lT L)=some (jg (iu L),0,0):=by
 obtain ⟨a,b,c,_⟩:=IA L
 exact MK (c:=10) rfl h (fun D hD=>⟨(a D hD).ok,(a D hD).fb⟩) b c (Bv L h)
end
end Go.Proofs.YtpklkpkfgmoghaaGreatDoor.Zz
namespace Go.Proofs.YtpklkpkfgmoghaaGreatDoor.Zz
def Nd.kD:Nd→Int | .mk k _ _ _ _=>k
def Nd.tD:Nd→Int | .mk _ t _ _ _=>t
def Nd.sD:Nd→List UInt8 | .mk _ _ s _ _=>s
def Nd.lD:Nd→List Nd | .mk _ _ _ _ l=>l
abbrev CR:=Except Int
abbrev dj:=List (List UInt8×Int)
def gz (sc:dj) (s:List UInt8):Option Int:=(sc.find? fun p=>p.1==s).map (·.2)
def eY (ks:List Nd) (s:List UInt8):Option Nd:=ks.find? fun x=>x.sD==s
def mO (t:Int):Bool:=t==1 || t==2
def iQ (k:Int):Bool:=decide (20≤k) && decide (k≤27)
def mQ (ks:List Nd) (sc:dj) (s:List UInt8):CR Int:=
 match gz sc s with
 | some t=>.ok t
 | none=>match eY ks s with
  | some o=>if o.kD==2 then .ok o.tD else .error 121
  | none=>.error 121
def vi (s:List UInt8) (a b:Int):CR Int:=
 if a==b then
  if s==[43] || s==[45] || s==[42] || s==[47] then (if mO a then .ok a else .error 122)
  else if s==[37] then (if a==1 then .ok a else .error 122)
  else if s==[60] || s==[60,61] || s==[62] || s==[62,61] then (if mO a then .ok 3 else .error 122)
  else if s==[38,38] || s==[124,124] then (if a==3 then .ok 3 else .error 122)
  else if s==[61,61] || s==[33,61] then .ok 3 else .error 125
 else .error 122
def jF:List Nd→List Nd→CR Unit
 | [],_=>.ok ()
 | _::_,[]=>.error 0
 | a::ar,b::br=>if a.tD==b.tD then jF ar br else .error 122
def pU (ks:List Nd) (s:List UInt8) (args:List Nd):CR Int:=
 match eY ks s with
 | none=>.error 121
 | some f=>if f.kD==3 then (if args.length+1==f.lD.length then (match jF args f.lD with | .ok _=>.ok f.tD | .error e=>.error e) else .error 123) else .error 121
def lJ (ks:List Nd) (sc:dj) (k t:Int) (s:List UInt8) (l:List Nd):CR Int:=
 if k==20 || k==21 || k==22 then (if l.length==0 then .ok (1+k - 20) else .error 125)
 else if k==23 then (if l.length==0 then mQ ks sc s else .error 125)
 else if k==24 then pU ks s l
 else if k==27 then (match l with
  | [x]=>if mO t then (if mO x.tD then .ok t else .error 122) else .error 125
  | _=>.error 125)
 else if k==25 then (match l with
  | [x]=>if s==[45] || s==[33] then (if (s==[45] && mO x.tD) || (s==[33] && x.tD==3) then .ok x.tD else .error 122) else .error 125
  | _=>.error 125)
 else if k==26 then (match l with
  | [x,y]=>vi s x.tD y.tD
  | _=>.error 125)
 else .error 125
mutual
def eh (ks:List Nd) (sc:dj):Nd→CR Nd
 | .mk k t s n l=>match dA ks sc l with
  | .ok l'=>match lJ ks sc k t s l' with
   | .ok t'=>.ok (.mk k t' s n l')
   | .error e=>.error e
  | .error e=>.error e
def dA (ks:List Nd) (sc:dj):List Nd→CR (List Nd)
 | []=>.ok []
 | x::l=>if iQ x.kD then (match eh ks sc x with
  | .ok x'=>match dA ks sc l with
   | .ok l'=>.ok (x'::l')
   | .error e=>.error e
  | .error e=>.error e) else .error 125
end
def dG (ks:List Nd) (sc:dj) (x:Nd) (t:Int):CR Nd:=
 if iQ x.kD then (match eh ks sc x with
  | .ok x'=>if x'.tD==t then .ok x' else .error 122
  | .error e=>.error e) else .error 125
def p7 (ks:List Nd) (sc:dj) (s:List UInt8) (t:Int):CR dj:=
 if (gz sc s).isNone && (match eY ks s with | none=>true | some o=>o.kD != 2) then .ok (sc++[(s,t)]) else .error 120
mutual
def dF (ks:List Nd) (ans:Int):Nd→dj→CR (Nd×dj)
 | .mk k t s n l,sc=>
  if k==14 then (if l.length==0 then .ok (.mk k t s n l,sc) else .error 125)
  else if k==6 then (match bW ks ans l sc with
   | .ok (l',_)=>.ok (.mk k t s n l',sc)
   | .error e=>.error e)
  else if k==9 || k==10 then (match l with
   | []=>.error 125
   | x::r=>if (k==9 && (r.length==1 || r.length==2)) || (k==10 && r.length==1) then (match dG ks sc x 3 with
    | .ok x'=>match cN ks ans r sc with
     | .ok r'=>.ok (.mk k t s n (x'::r'),sc)
     | .error e=>.error e
    | .error e=>.error e) else .error 125)
  else if k==11 then (match l with
   | [x]=>if ans==0 then .error 124 else (match dG ks sc x ans with
    | .ok x'=>.ok (.mk k t s n [x'],sc)
    | .error e=>.error e)
   | _=>.error 125)
  else if k==12 then (match l with
   | [x]=>match dG ks sc x 3 with
    | .ok x'=>.ok (.mk k t s n [x'],sc)
    | .error e=>.error e
   | _=>.error 125)
  else if k==13 then (match l with
   | [x]=>if x.kD==24 then (match eh ks sc x with
    | .ok x'=>.ok (.mk k t s n [x'],sc)
    | .error e=>.error e) else .error 125
   | _=>.error 125)
  else if k==7 || k==8 then (match l with
   | [x]=>if iQ x.kD then (match eh ks sc x with
    | .ok x'=>if k==7 then (match p7 ks sc s x'.tD with
      | .ok sc'=>.ok (.mk k t s n [x'],sc')
      | .error e=>.error e)
     else (match mQ ks sc s with
      | .ok t'=>if t'==x'.tD then .ok (.mk k t s n [x'],sc) else .error 122
      | .error e=>.error e)
    | .error e=>.error e) else .error 125
   | _=>.error 125)
  else .error 125
def bW (ks:List Nd) (ans:Int):List Nd→dj→CR (List Nd×dj)
 | [],sc=>.ok ([],sc)
 | x::l,sc=>match dF ks ans x sc with
  | .ok (x',sc')=>match bW ks ans l sc' with
   | .ok (l',aaP)=>.ok (x'::l',aaP)
   | .error e=>.error e
  | .error e=>.error e
def cN (ks:List Nd) (ans:Int):List Nd→dj→CR (List Nd)
 | [],_=>.ok []
 | .mk k t s n l::r,sc=>if k==6 then (match bW ks ans l sc with
  | .ok (l',_)=>match cN ks ans r sc with
   | .ok r'=>.ok (.mk k t s n l'::r')
   | .error e=>.error e
  | .error e=>.error e) else .error 125
end
def dV (ks:List Nd) (ans:Int) (x:Nd) (sc:dj):CR Nd:=
 if x.kD==6 then (match bW ks ans x.lD sc with
  | .ok (l',_)=>.ok (.mk x.kD x.tD x.sD (match x with | .mk _ _ _ n _=>n) l')
  | .error e=>.error e) else .error 125
mutual
def iE:Nd→Bool
 | .mk _ _ _ _ l=>jH l
def jH:List Nd→Bool
 | []=>false
 | [x]=>t_ x
 | _::y::l=>jH (y::l)
def t_:Nd→Bool
 | .mk k _ _ _ l=>
  if k==11 then true
  else if k==9 then (match l with
   | [_,a,b]=>iE a && iE b
   | _=>false)
  else if k==6 then jH l
  else false
end
def yA (t:Int):Bool:=t==1 || t==2 || t==3
def gY (ks:List Nd):List Nd→dj→CR dj
 | [],sc=>.ok sc
 | x::l,sc=>if x.kD==5 && yA x.tD then (if x.lD.length==0 then (match p7 ks sc x.sD x.tD with
  | .ok sc'=>gY ks l sc'
  | .error e=>.error e) else .error 125) else .error 125
def eH (ks:List Nd):Nd→CR Nd
 | .mk k t s n l=>
  if l.length==0 then .error 125
  else if k==2 then (match l with
   | [x]=>if decide (20≤x.kD) && decide (x.kD≤22) then (match dG ks [] x t with
    | .ok x'=>.ok (.mk k t s n [x'])
    | .error e=>.error e) else .error 125
   | _=>.error 125)
  else if k==4 then (match l with
   | [x]=>match dV ks 0 x [] with
    | .ok x'=>.ok (.mk k t s n [x'])
    | .error e=>.error e
   | _=>.error 125)
  else if k==3 && yA t then (match l.getLast? with
   | none=>.error 125
   | some b=>match gY ks l.dropLast [] with
    | .ok sc=>match dV ks t b sc with
     | .ok b'=>if iE b then .ok (.mk k t s n (l.dropLast++[b'])) else .error 124
     | .error e=>.error e
    | .error e=>.error e)
  else .error 125
def fq (ks:List Nd):List Nd→List (List UInt8)→Int→CR (List Nd)×Int
 | [],_,i=>(.ok [],i)
 | x::l,ns,i=>if ns.contains x.sD then (.error 120,i) else
  match eH ks x with
  | .error e=>(.error e,i)
  | .ok x'=>match fq ks l (ns++[x.sD]) (i+1) with
   | (.ok l',j)=>(.ok (x'::l'),j)
   | r=>r
def iO:Nd→Nd×Int×Int
 | .mk k t s n l=>if k==1 then (match fq l l [] 0 with
  | (.ok l',_)=>(.mk k t s n l',0,0)
  | (.error e,i)=>(.mk 0 0 [] 0 [],i,e)) else (.mk 0 0 [] 0 [],0,125)
end Go.Proofs.YtpklkpkfgmoghaaGreatDoor.Zz
namespace Go.Proofs.YtpklkpkfgmoghaaGreatDoor.Zz
noncomputable section
def t3 (t:Int):Prop:=t=0∨t=1∨t=2
theorem FX (L:List Int) (a:Nat):t3 (bD L 3 a).1:=by
 have:=bY L (n:=3) (by decide) a
 unfold t3
 omega
def Ty (ks:List Nd) (sc:dj) (e:GE) (t:Int):Prop:=∃y,eh ks sc e.nd=.ok y∧y.tD=t+1
theorem Nh (e:GE):iQ e.nd.kD=true:=by
 cases e<;>rw [GE.nd]<;>rfl
theorem ye {ks:List Nd} {sc:dj} {k t:Int} {s:List UInt8} {n:Int} {l l':List Nd} {t':Int} (h1:dA ks sc l=.ok l') (h2:lJ ks sc k t s l'=.ok t'):eh ks sc (.mk k t s n l)=.ok (.mk k t' s n l'):=by
 rw [eh,h1]
 simp only
 rw [h2]
theorem mX (ks:List Nd) (sc:dj):dA ks sc []=.ok []:=by rw [dA]
theorem qH {ks:List Nd} {sc:dj} {e:GE} {y:Nd} {l l':List Nd} (h1:eh ks sc e.nd=.ok y) (h2:dA ks sc l=.ok l'):dA ks sc (e.nd::l)=.ok (y::l'):=by
 rw [dA,if_pos (Nh e),h1]
 simp only
 rw [h2]
theorem F7 (ks:List Nd) (sc:dj) (w:List UInt8):Ty ks sc (.int w) 0:=⟨_,by rw [GE.nd]; exact ye (mX _ _) rfl,rfl⟩
theorem af3 (ks:List Nd) (sc:dj) (w:List UInt8):Ty ks sc (.tc w) 1:=⟨_,by rw [GE.nd,lv]; exact ye (mX _ _) rfl,rfl⟩
theorem abd (ks:List Nd) (sc:dj) (b:Bool):Ty ks sc (.bool b) 2:=⟨_,by rw [GE.nd]; exact ye (mX _ _) rfl,rfl⟩
theorem MO {ks:List Nd} {sc:dj} {x:List UInt8} {t:Int} (h:mQ ks sc x=.ok (t+1)):Ty ks sc (.var x) t:=⟨.mk 23 (t+1) x 0 [],by
 rw [GE.nd]
 exact ye (mX _ _) h,rfl⟩
theorem Yl {ks:List Nd} {sc:dj} {s:List UInt8} {e:GE} {t:Int} (h:Ty ks sc e t) (hs:(s=[45]∧(t=0∨t=1))∨(s=[33]∧t=2)):Ty ks sc (.un s e) t:=by
 obtain ⟨y,h1,h2⟩:=h
 refine ⟨.mk 25 (t+1) s 0 [y],?_,rfl⟩
 rw [GE.nd]
 refine ye (qH h1 (mX _ _)) ?_
 rcases hs with ⟨rfl,rfl | rfl⟩ | ⟨rfl,rfl⟩<;>simp [lJ,mO,h2]
theorem MN {ks:List Nd} {sc:dj} {s:List UInt8} {a b:GE} {u t:Int} (ha:Ty ks sc a u) (hb:Ty ks sc b u) (h:vi s (u+1) (u+1)=.ok (t+1)):Ty ks sc (.bin s a b) t:=by
 obtain ⟨y,h1,h2⟩:=ha
 obtain ⟨z,h3,h4⟩:=hb
 refine ⟨.mk 26 (t+1) s 0 [y,z],?_,rfl⟩
 rw [GE.nd]
 refine ye (qH h1 (qH h3 (mX _ _))) ?_
 show vi s y.tD z.tD=_
 rw [h2,h4,h]
theorem Ru {ks:List Nd} {sc:dj} {t u:Int} {e:GE} (h:Ty ks sc e u) (hu:u=0∨u=1) (ht:t=0∨t=1):Ty ks sc (.conv (t+1) e) t:=by
 obtain ⟨y,h1,h2⟩:=h
 refine ⟨.mk 27 (t+1) [] 0 [y],?_,rfl⟩
 rw [GE.nd]
 refine ye (qH h1 (mX _ _)) ?_
 show (if mO (t+1) then (if mO y.tD then (.ok (t+1):CR Int) else .error 122) else .error 125)=_
 rw [h2]
 rcases hu with rfl | rfl<;>rcases ht with rfl | rfl<;>rfl
structure kO (ks:List Nd) (sc:dj) (s:Nm):Prop where
 var:∀t,t3 t→∀x∈s.of t,mQ ks sc x=.ok (t+1)
 fn:∀f∈s.funcs,(∀t∈f.params,t3 t)∧∃o b,eY ks f.name=some o∧o.kD=3∧o.tD=f.answer+1∧o.lD.map Nd.tD=f.params.map (· +1)++[b]
theorem Fw {ks:List Nd} {sc:dj} (L:List Int) {t:Int} (ht:t3 t) (a:Nat):Ty ks sc (nQ L t a).1 t:=by
 have h:=kU (x:=GE.bool true) (qO L (AB t) a)
 show Ty ks sc ((lits t).getD _ _) t
 generalize (lits t).getD (bD L (lits t).length a).1.toNat (.bool true)=e at h ⊢
 unfold lits at h
 rcases ht with rfl | rfl | rfl
 ·rw [if_pos rfl] at h
  simp only [List.mem_cons,List.not_mem_nil,or_false] at h
  rcases h with rfl | rfl | rfl | rfl | rfl | rfl<;>exact F7 _ _ _
 ·rw [if_neg (by decide),if_pos rfl] at h
  simp only [List.mem_cons,List.not_mem_nil,or_false] at h
  rcases h with rfl | rfl | rfl | rfl | rfl | rfl<;>exact af3 _ _ _
 ·rw [if_neg (by decide),if_neg (by decide)] at h
  simp only [List.mem_cons,List.not_mem_nil,or_false] at h
  rcases h with rfl | rfl<;>exact abd _ _ _
theorem Gw {ks:List Nd} {sc:dj} {g:Int→Nat→GE×Nat} (hg:∀t a,t3 t→Ty ks sc (g t a).1 t):∀(l:List Int) (a:Nat),(∀t∈l,t3 t)→∃ys,dA ks sc (GE.gB (iD g l a).1)=.ok ys∧ys.map Nd.tD=l.map (· +1)
 | [],a,h=>⟨[],by rw [iD,GE.gB]; exact mX _ _,rfl⟩
 | t::r,a,h=>by
  obtain ⟨ys,h1,h2⟩:=Gw hg r (g t a).2 fun u hu=>h u (by simp [hu])
  obtain ⟨y,h3,h4⟩:=hg t a (h t (by simp))
  refine ⟨y::ys,?_,by rw [List.map_cons,List.map_cons,h2,h4]⟩
  show dA ks sc (GE.gB ((g t a).1::(iD g r (g t a).2).1))=_
  rw [GE.gB]
  exact qH h3 h1
theorem Gt:∀(a b:List Nd) (l:List Int) (c:Int),a.map Nd.tD=l→b.map Nd.tD=l++[c]→jF a b=.ok ()
 | [],b,l,c,h1,h2=>by rw [jF]
 | x::a,[],l,c,h1,h2=>by subst h1; simp at h2
 | x::a,y::b,l,c,h1,h2=>by
  subst h1
  simp only [List.map_cons,List.cons_append,List.cons.injEq] at h2
  rw [jF,if_pos (by rw [h2.1]; simp)]
  exact Gt a b _ c rfl h2.2
theorem GR {ks:List Nd} {sc:dj} {L:List Int} {s:Nm} (hs:kO ks sc s) {g:Int→Nat→GE×Nat} (hg:∀t a,t3 t→Ty ks sc (g t a).1 t) {t:Int} {a:Nat} {c:List UInt8×List GE} {b:Nat} (h:jB L s g t a=(some c,b)):Ty ks sc (.call c.1 c.2) t:=by
 unfold jB at h
 split at h
 ·cases h
 ·rename_i f r hf
  simp only [Prod.mk.injEq,Option.some.injEq] at h
  obtain ⟨rfl,_⟩:=h
  have hm:(f::r).getD (bD L ((f::r).length:Nat) a).1.toNat f∈s.funcs.filter fun f=>f.answer==t:=by
   have:=kU (x:=f) (qO L (n:=(f::r).length) (by simp) a)
   rw [←hf] at this ⊢
   exact this
  generalize (f::r).getD (bD L ((f::r).length:Nat) a).1.toNat f=F at hm
  obtain ⟨m1,m2⟩:=List.mem_filter.1 hm
  obtain ⟨SX,o,bb,o1,o2,o3,o4⟩:=hs.fn F m1
  have m2:F.answer=t:=beq_iff_eq.1 m2
  obtain ⟨ys,h1,h2⟩:=Gw hg F.params (bD L ((f::r).length:Nat) a).2 SX
  refine ⟨.mk 24 (t+1) F.name 0 ys,?_,rfl⟩
  show eh ks sc (GE.call F.name (iD g F.params _).1).nd=_
  rw [GE.nd]
  refine ye h1 ?_
  show pU ks F.name ys=_
  have hl:ys.length+1=o.lD.length:=by
   have e1:=congrArg List.length h2
   have e2:=congrArg List.length o4
   simp only [List.length_map,List.length_append,List.length_singleton] at e1 e2
   omega
  unfold pU
  rw [o1]
  simp only
  rw [if_pos (by rw [o2]; rfl),if_pos (by rw [hl]; simp),Gt ys o.lD _ bb h2 o4,o3,m2]
theorem yJ {ks:List Nd} {sc:dj} {L:List Int} {g:Int→Nat→GE×Nat} (hg:∀t a,t3 t→Ty ks sc (g t a).1 t) {u t:Int} (hu:t3 u) {ops:List (List UInt8)} (h0:ops≠[]) (ho:∀s∈ops,vi s (u+1) (u+1)=.ok (t+1)) (a:Nat):Ty ks sc (zA L g u ops a).1 t:=
 MN (hg _ _ hu) (hg _ _ hu) (ho _ (fk L h0 _))
theorem aeF {u:Int} (h:u=0∨u=1):∀s∈YJ,vi s (u+1) (u+1)=.ok 3:=by
 intro s hs
 simp only [YJ,List.mem_cons,List.not_mem_nil,or_false] at hs
 rcases h with rfl | rfl<;>rcases hs with rfl | rfl | rfl | rfl | rfl | rfl<;>rfl
theorem aeH:∀s∈YL,vi s (0+1) (0+1)=.ok (0+1):=by
 intro s hs
 simp only [YL,List.mem_cons,List.not_mem_nil,or_false] at hs
 rcases hs with rfl | rfl | rfl | rfl | rfl<;>rfl
theorem aeG:∀s∈YK,vi s (1+1) (1+1)=.ok (1+1):=by
 intro s hs
 simp only [YK,List.mem_cons,List.not_mem_nil,or_false] at hs
 rcases hs with rfl | rfl | rfl | rfl<;>rfl
theorem Z2:∀s∈Ca,vi s (2+1) (2+1)=.ok (2+1):=by
 intro s hs
 simp only [Ca,List.mem_cons,List.not_mem_nil,or_false] at hs
 rcases hs with rfl | rfl | rfl<;>rfl
theorem IJ {ks:List Nd} {sc:dj} {L:List Int} {g:Int→Nat→GE×Nat} (hg:∀t a,t3 t→Ty ks sc (g t a).1 t) {t:Int} (ht:t3 t) (k:Int) (a:Nat):Ty ks sc (q_ L g t k a).1 t:=by
 unfold q_
 rcases ht with rfl | rfl | rfl
 ·rw [if_pos rfl]
  split
  ·exact Ru (t:=0) (hg 1 _ (.inr (.inl rfl))) (.inr rfl) (.inl rfl)
  ·split
   ·exact Yl (hg 0 _ (.inl rfl)) (.inl ⟨rfl,.inl rfl⟩)
   ·exact yJ hg (.inl rfl) (by decide) aeH _
 ·rw [if_neg (by decide),if_pos rfl]
  split
  ·exact Ru (t:=1) (hg 0 _ (.inl rfl)) (.inl rfl) (.inr rfl)
  ·split
   ·exact Yl (hg 1 _ (.inr (.inl rfl))) (.inl ⟨rfl,.inr rfl⟩)
   ·exact yJ hg (.inr (.inl rfl)) (by decide) aeG _
 ·rw [if_neg (by decide),if_neg (by decide)]
  split
  ·exact Yl (hg 2 _ (.inr (.inr rfl))) (.inr ⟨rfl,rfl⟩)
  ·split
   ·exact yJ hg (.inr (.inr rfl)) (by decide) Z2 _
   ·have hu:(bD L 2 a).1=0∨(bD L 2 a).1=1:=by
     have:=bY L (n:=2) (by decide) a
     omega
    exact yJ hg (hu.elim .inl fun h=>.inr (.inl h)) (by decide) (aeF hu) _
theorem qG {ks:List Nd} {sc:dj} {L:List Int} {s:Nm} (hs:kO ks sc s):∀(d:Nat) (t:Int) (a:Nat),t3 t→Ty ks sc (b_ L s d t a).1 t
 | 0,t,a,ht=>by rw [b_]; exact Fw L ht _
 | d+1,t,a,ht=>by
  have hg:=fun t a ht=>qG (L:=L) hs d t a ht
  rw [b_]
  split
  ·exact Fw L ht _
  ·split
   ·rename_i h
    exact MO (hs.var t ht _ (fk L h.2 _))
   ·split
    ·split
     ·rename_i c b hc
      exact GR hs hg hc
     ·exact IJ hg ht _ _
    ·exact IJ hg ht _ _
end
end Go.Proofs.YtpklkpkfgmoghaaGreatDoor.Zz
namespace Go.Proofs.YtpklkpkfgmoghaaGreatDoor.Zz
noncomputable section
theorem six:((6:Int)==6)=true:=rfl
theorem yK {ks:List Nd} {ans:Int} {sc sc':dj} {l ys:List Nd} {r zs:List Nd} (h1:bW ks ans l sc=.ok (ys,sc')) (h2:cN ks ans r sc=.ok zs):cN ks ans (.mk 6 0 [] 0 l::r) sc=.ok (.mk 6 0 [] 0 ys::zs):=by
 rw [cN,if_pos six,h1]
 simp only
 rw [h2]
theorem K8 {ks:List Nd} {ans:Int} {sc:dj}:cN ks ans [] sc=.ok []:=by rw [cN]
theorem WK {ks:List Nd} {ans:Int} {sc sc':dj} {x:List UInt8} {e:GE} {y:Nd} (h1:eh ks sc e.nd=.ok y) (h2:p7 ks sc x y.tD=.ok sc'):dF ks ans (GS.mL x e).nd sc=.ok (.mk 7 0 x 0 [y],sc'):=by
 rw [GS.nd,dF.eq_def]
 simp [Nh,h1,h2]
theorem WJ {ks:List Nd} {ans:Int} {sc:dj} {x:List UInt8} {e:GE} {y:Nd} {t:Int} (h1:eh ks sc e.nd=.ok y) (h2:mQ ks sc x=.ok t) (h3:y.tD=t):dF ks ans (GS.rQ x e).nd sc=.ok (.mk 8 0 x 0 [y],sc):=by
 rw [GS.nd,dF.eq_def]
 simp [Nh,h1,h2,h3]
theorem pa {ks:List Nd} {sc:dj} {e:GE} {t:Int} (h:Ty ks sc e t):∃y,dG ks sc e.nd (t+1)=.ok y:=by
 obtain ⟨y,h1,h2⟩:=h
 exact ⟨y,by unfold dG; rw [if_pos (Nh e),h1]; simp [h2]⟩
theorem afK {ks:List Nd} {ans:Int} {sc sc':dj} {e:GE} {l:List GS} {ys:List Nd} (h1:Ty ks sc e 2) (h2:bW ks ans (GS.gB l) sc=.ok (ys,sc')):∃y,dF ks ans (GS.Gc e l).nd sc=.ok (y,sc):=by
 obtain ⟨z,hz⟩:=pa h1
 refine ⟨.mk 9 0 [] 0 [z,.mk 6 0 [] 0 ys],?_⟩
 rw [GS.nd,dF.eq_def]
 have hz:dG ks sc e.nd 3=.ok z:=hz
 have hb:cN ks ans [.mk 6 0 [] 0 (GS.gB l)] sc=.ok [.mk 6 0 [] 0 ys]:=yK h2 K8
 simp [hz,hb]
theorem afJ {ks:List Nd} {ans:Int} {sc sc' Gh:dj} {e:GE} {l r:List GS} {ys zs:List Nd} (h1:Ty ks sc e 2) (h2:bW ks ans (GS.gB l) sc=.ok (ys,sc')) (h3:bW ks ans (GS.gB r) sc=.ok (zs,Gh)):∃y,dF ks ans (GS.Gb e l r).nd sc=.ok (y,sc):=by
 obtain ⟨z,hz⟩:=pa h1
 refine ⟨.mk 9 0 [] 0 [z,.mk 6 0 [] 0 ys,.mk 6 0 [] 0 zs],?_⟩
 rw [GS.nd,dF.eq_def]
 have hz:dG ks sc e.nd 3=.ok z:=hz
 have hb:cN ks ans [.mk 6 0 [] 0 (GS.gB l),.mk 6 0 [] 0 (GS.gB r)] sc=.ok [.mk 6 0 [] 0 ys,.mk 6 0 [] 0 zs]:=yK h2 (yK h3 K8)
 simp [hz,hb]
theorem aaT {ks:List Nd} {ans:Int} {sc sc':dj} {e:GE} {l:List GS} {ys:List Nd} (h1:Ty ks sc e 2) (h2:bW ks ans (GS.gB l) sc=.ok (ys,sc')):∃y,dF ks ans (GS.p8 e l).nd sc=.ok (y,sc):=by
 obtain ⟨z,hz⟩:=pa h1
 refine ⟨.mk 10 0 [] 0 [z,.mk 6 0 [] 0 ys],?_⟩
 rw [GS.nd,dF.eq_def]
 have hz:dG ks sc e.nd 3=.ok z:=hz
 have hb:cN ks ans [.mk 6 0 [] 0 (GS.gB l)] sc=.ok [.mk 6 0 [] 0 ys]:=yK h2 K8
 simp [hz,hb]
theorem afL {ks:List Nd} {sc:dj} {e:GE} {t:Int} (h1:Ty ks sc e t) (h0:t3 t):∃y,dF ks (t+1) (GS.ret e).nd sc=.ok (y,sc):=by
 obtain ⟨z,hz⟩:=pa h1
 refine ⟨.mk 11 0 [] 0 [z],?_⟩
 rw [GS.nd,dF.eq_def]
 have:¬t+1=0:=by unfold t3 at h0; omega
 simp [hz,this]
theorem Oj {ks:List Nd} {ans:Int} {sc:dj} {e:GE} (h1:Ty ks sc e 2):∃y,dF ks ans (GS.lq e).nd sc=.ok (y,sc):=by
 obtain ⟨z,hz⟩:=pa h1
 refine ⟨.mk 12 0 [] 0 [z],?_⟩
 rw [GS.nd,dF.eq_def]
 have hz:dG ks sc e.nd 3=.ok z:=hz
 simp [hz]
theorem aaU {ks:List Nd} {ans:Int} {sc:dj}:∃y,dF ks ans GS.skip.nd sc=.ok (y,sc):=⟨.mk 14 0 [] 0 [],by rw [GS.nd,dF.eq_def]; simp⟩
theorem aka {ks:List Nd} {ans:Int} {sc:dj} {x:List UInt8} {l:List GE} {t:Int} (h:Ty ks sc (.call x l) t):∃y,dF ks ans (GS.Fa x l).nd sc=.ok (y,sc):=by
 obtain ⟨z,hz,_⟩:=h
 rw [GE.nd] at hz
 refine ⟨.mk 13 0 [] 0 [z],?_⟩
 rw [GS.nd,dF.eq_def]
 simp [hz,Nd.kD]
def mT (ks:List Nd) (sc sc':dj):Prop:=∀y u,mQ ks sc y=.ok u→mQ ks sc' y=.ok u
theorem mT.refl (ks:List Nd) (sc:dj):mT ks sc sc:=fun _ _ h=>h
theorem mT.trans {ks:List Nd} {a b c:dj} (h:mT ks a b) (h':mT ks b c):mT ks a c:=fun y u q=>h' y u (h y u q)
theorem kO.mono {ks:List Nd} {sc sc':dj} {s:Nm} (h:kO ks sc s) (k:mT ks sc sc'):kO ks sc' s:=⟨fun t ht x hx=>k _ _ (h.var t ht x hx),h.fn⟩
theorem vF (sc:dj) (x:List UInt8) (t:Int) (y:List UInt8):gz (sc++[(x,t)]) y=match gz sc y with
  | some u=>some u
  | none=>if x==y then some t else none:=by
 unfold gz
 rw [List.find?_append]
 cases h:sc.find? fun p=>p.1==y with
 | some p=>rfl
 | none=>
  simp only [Option.none_or,Option.map_none,List.find?_cons,List.find?_nil]
  cases x==y<;>rfl
theorem Lw {ks:List Nd} {sc:dj} {x:List UInt8} (h1:gz sc x=none) (h2:(match eY ks x with | none=>true | some o=>o.kD != 2)=true) (t:Int):p7 ks sc x t=.ok (sc++[(x,t)])∧mT ks sc (sc++[(x,t)])∧mQ ks (sc++[(x,t)]) x=.ok t:=by
 refine ⟨?_,fun y u h=>?_,?_⟩
 ·unfold p7
  rw [h1]
  refine if_pos ?_
  show (true && _)=true
  rw [Bool.true_and]
  exact h2
 ·unfold mQ at h ⊢
  rw [vF]
  cases hy:gz sc y with
  | some v=>rw [hy] at h; exact h
  | none=>
   rw [hy] at h
   simp only at h ⊢
   cases e:x==y with
   | false=>simp only [Bool.false_eq_true,if_false]; exact h
   | true=>
    rw [beq_iff_eq.1 e] at h2
    exfalso
    cases hk:eY ks y with
    | none=>rw [hk] at h; cases h
    | some o=>
     rw [hk] at h h2
     simp only at h h2
     cases ho:o.kD==2 with
     | false=>rw [ho] at h; cases h
     | true=>simp [bne,ho] at h2
 ·unfold mQ
  rw [vF,h1]
  simp
end
end Go.Proofs.YtpklkpkfgmoghaaGreatDoor.Zz
