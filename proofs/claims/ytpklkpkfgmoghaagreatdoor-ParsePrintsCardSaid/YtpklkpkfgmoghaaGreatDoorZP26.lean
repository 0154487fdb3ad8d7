/- Programs as they are made: their trees, their words; the words are parsed to the tree. -/
import Derived.Test.YtpklkpkfgmoghaaGreatDoorZA0
import Derived.KernelRfl
set_option linter.unnecessarySimpa false
set_option linter.unusedVariables false
set_option linter.unusedSimpArgs false
namespace Go.Proofs.YtpklkpkfgmoghaaGreatDoor.Zz
inductive GE where
 | int (w:List UInt8)
 | o8 (w:List UInt8)
 | bool (b:Bool)
 | var (x:List UInt8)
 | call (x:List UInt8) (l:List GE)
 | un (s:List UInt8) (e:GE)
 | bin (s:List UInt8) (a b:GE)
 | conv (t:Int) (e:GE)
inductive GS where
 | jS (x:List UInt8) (e:GE)
 | mX (x:List UInt8) (e:GE)
 | yS (e:GE) (l:List GS)
 | yR (e:GE) (l r:List GS)
 | lJ (e:GE) (l:List GS)
 | ret (e:GE)
 | iM (e:GE)
 | skip
 | xF (x:List UInt8) (l:List GE)
noncomputable section
mutual
def GE.nd:GE→Nd
 | .int w=>.mk 20 0 [] (dX w:Nat) []
 | .o8 w=>iR w
 | .bool b=>.mk 22 0 [] (if b then 1 else 0) []
 | .var x=>.mk 23 0 x 0 []
 | .call x l=>.mk 24 0 x 0 (GE.eo l)
 | .un s e=>.mk 25 0 s 0 [e.nd]
 | .bin s a b=>.mk 26 0 s 0 [a.nd,b.nd]
 | .conv t e=>.mk 27 t [] 0 [e.nd]
def GE.eo:List GE→List Nd
 | []=>[]
 | e::l=>e.nd::GE.eo l
end
mutual
def GE.wd:GE→List Wd
 | .int w=>[(2,w)]
 | .o8 w=>[(3,w)]
 | .bool b=>[(4,if b then lY else iU)]
 | .var x=>[(1,x)]
 | .call x l=>(1,x)::(5,[40])::(GE.rK l++[(5,[41])])
 | .un s e=>(5,s)::e.wd
 | .bin s a b=>(5,[40])::(a.wd++(5,s)::(b.wd++[(5,[41])]))
 | .conv t e=>(4,if t=1 then mF else fF)::(5,[40])::(e.wd++[(5,[41])])
def GE.rK:List GE→List Wd
 | []=>[]
 | e::l=>e.wd++GE.BL l
def GE.BL:List GE→List Wd
 | []=>[]
 | e::l=>(5,[44])::(e.wd++GE.BL l)
end
mutual
def GE.dep:GE→Nat
 | .int _=>0
 | .o8 _=>0
 | .bool _=>0
 | .var _=>0
 | .call _ l=>2+GE.fP l
 | .un _ e=>1+e.dep
 | .bin _ a b=>max (1+a.dep) (2+b.dep)
 | .conv _ e=>1+e.dep
def GE.fP:List GE→Nat
 | []=>0
 | e::l=>max e.dep (GE.fP l)
end
mutual
def GE.ok:GE→Prop
 | .int _=>True
 | .o8 _=>True
 | .bool _=>True
 | .var _=>True
 | .call _ l=>l.length≤6∧GE.mU l
 | .un s e=>(s=[45]∨s=[33])∧e.ok
 | .bin s a b=>0<ft s∧(s==[40])=false∧a.ok∧b.ok
 | .conv t e=>(t=1∨t=2)∧e.ok
def GE.mU:List GE→Prop
 | []=>True
 | e::l=>e.ok∧GE.mU l
end
def wR (k:Int) (r:List Wd):Prop:=km [40] r=false∧(mL r != 5 || decide (ft (mM r)≤k))=true
theorem mu (g:rO) {d m:Int} {ws:List Wd} {y:(Nd×Bool)×List Wd×Int} (h1:km [45] ws=false) (h2:km [33] ws=false) (h3:ie ws m=some y) (h4:y.1.2=true):iT g d ws m=some (y.1.1,y.2.1,y.2.2):=by
 unfold iT
 rw [bx h1,Option.bind_some]
 simp only [cond_false]
 rw [bx h2,Option.bind_some]
 simp only [cond_false]
 rw [h3,Option.bind_some,h4]
 rfl
theorem kn {n:Nd} {w:Wd} {r:List Wd} {m:Int} (h:m+1≤2000):tz n (w::r) m=some ((n,true),r,m+1):=by
 unfold tz
 rw [List.tail_cons,dy h]
 rfl
theorem LR {w:List UInt8} {r:List Wd} {m:Int} (h:(w==lY)=false) (h':(w==iU)=false):ie ((5,w)::r) m=some ((.mk 0 0 [] 0 [],false),(5,w)::r,m):=by
 unfold ie
 rw [cy,cy,h,h']
 rfl
theorem zO {w:List UInt8} {r:List Wd} {m:Int} (h:(w==lY)=false) (h':(w==iU)=false):ie ((4,w)::r) m=some ((.mk 0 0 [] 0 [],false),(4,w)::r,m):=by
 unfold ie
 rw [cQ,cQ,h,h']
 rfl
theorem LQ {w:List UInt8} {r:List Wd} {m:Int}:ie ((1,w)::r) m=some ((.mk 0 0 [] 0 [],false),(1,w)::r,m):=by
 unfold ie; rw [di,di]; rfl
theorem D6 (g:rO) {w:List UInt8} {r:List Wd} {d m:Int} (h:km [40] r=true):iT g d ((1,w)::r) m=g.call w d r m:=by
 unfold iT
 rw [bx di,Option.bind_some]
 simp only [cond_false]
 rw [bx di,Option.bind_some]
 simp only [cond_false]
 rw [LQ,Option.bind_some]
 simp only [cond_false]
 rw [bx di,Option.bind_some]
 simp only [cond_false]
 rw [bx di,Option.bind_some]
 simp only [cond_false]
 rw [bx di,Option.bind_some]
 simp only [cond_false]
 rw [fO,Option.bind_some]
 simp only [h,cond_true]
def UP (e:GE):Prop:=∀(f:Nat) (d m:Int) (r:List Wd),82 - 2*d≤f→d+e.dep≤40→m+e.nd.de≤2000→km [40] r=false→(sF f).unary d (e.wd++r) m=some (e.nd,r,m+e.nd.de)
theorem cn {f:Nat} {a:Int} (h:a≤f) (h0:0<a):∃g,f=g+1∧a - 1≤g:=by
 cases f with
 | zero=>omega
 | succ g=>exact ⟨g,rfl,by omega⟩
theorem kG {e:GE} (h:UP e) (f:Nat) (k d m:Int) (r:List Wd) (hf:81 - 2*d≤f) (hd:d+1+e.dep≤40) (hm:m+e.nd.de≤2000) (hr:wR k r):(sF f).expr k d (e.wd++r) m=some (e.nd,r,m+e.nd.de):=by
 obtain ⟨g,rfl,hg⟩:=cn hf (by omega)
 rw [H7]
 unfold zK
 rw [kl (by omega),h g (d+1) m r (by omega) (by omega) hm hr.1,Option.bind_some]
 simp only
 unfold mq
 rw [hr.2]
 rfl
theorem wB:ft [41]=0:=by rfl
theorem mz (k:Int) (hk:0≤k) (r:List Wd):wR k ((5,[41])::r):=⟨rfl,by
 show ((5:Int) != 5 || decide (ft [41]≤k))=true
 rw [wB]; simp [hk]⟩
theorem wS (r:List Wd):wR 0 ((5,[44])::r):=⟨rfl,rfl⟩
theorem ig (n:Nd) (l:List Nd):(n.br l).bM=l:=by obtain ⟨k,t,s,m,q⟩:=n; rfl
theorem lZ (n x:Nd) (l:List Nd):(n.br l).c_ x=n.br (l++[x]):=by obtain ⟨k,t,s,m,q⟩:=n; rfl
theorem Cc {f:Nat} {d:Int} (hf:81 - 2*d≤f) (n:Nd) (r:List Wd):∀(l:List GE) (j:Nat) (ks:List Nd) (m:Int),(∀e∈l,UP e)→d+1+GE.fP l≤40→l.length<j→0<ks.length→ks.length+l.length≤6→m+Nd.fy (GE.eo l)≤2000→
  mo (sF f) d j (n.br ks) (GE.BL l++(5,[41])::r) m=some (n.br (ks++GE.eo l),r,m+Nd.fy (GE.eo l))
 | [],j+1,ks,m,hl,hd,hj,h0,h6,hm=>by
  rw [GE.BL,GE.eo,List.nil_append,aX,List.append_nil]
  unfold mo
  rw [cF (by rw [cy]; rfl),Option.bind_some]
  simp
 | e::l,j+1,ks,m,hl,hd,hj,h0,h6,hm=>by
  rw [GE.fP] at hd
  rw [GE.eo,aQ] at hm ⊢
  rw [GE.BL,List.cons_append,List.append_assoc]
  simp only [List.length_cons] at hj h6
  unfold mo
  rw [bx (by rw [cy]; rfl),Option.bind_some]
  simp only [cond_false]
  have jO:decide ((n.br ks).bM.length>0)=true:=by rw [ig]; simpa using h0
  have jQ:decide ((n.br ks).bM.length≥6)=false:=by rw [ig]; simp; omega
  rw [jO,jQ]
  simp only [cond_true,cond_false]
  rw [dW (by rw [cy]; rfl),Option.bind_some,List.tail_cons]
  have mT:wR 0 (GE.BL l++(5,[41])::r):=by
   cases l with
   | nil=>rw [GE.BL]; exact mz 0 (by omega) r
   | cons e2 l=>rw [GE.BL]; exact wS _
  simp only
  rw [kG (hl e (by simp)) f 0 d m _ hf (by omega) (by omega) mT,Option.bind_some]
  simp only
  rw [lZ,Cc hf n r l j (ks++[e.nd]) (m+e.nd.de) (fun x hx=>hl x (by simp [hx])) (by omega) (by omega) (by simp) (by simp; omega) (by omega)]
  simp only [List.append_assoc,List.cons_append,List.nil_append]
  congr 3
  omega
theorem SY {e:GE} {x:List UInt8} {r:List Wd} (h:e.ok) (hx:x=[41]∨x=[125]∨x=[59]):km x (e.wd++r)=false:=by
 have hw:(mF==x)=false∧(fF==x)=false∧(lY==x)=false∧(iU==x)=false∧(([45]:List UInt8)==x)=false∧(([33]:List UInt8)==x)=false∧(([40]:List UInt8)==x)=false:=by
  rcases hx with rfl | rfl | rfl<;>exact ⟨rfl,rfl,rfl,rfl,rfl,rfl,rfl⟩
 obtain ⟨w1,w2,w3,w4,w5,w6,w7⟩:=hw
 cases e with
 | int w=>simp [GE.wd,km]
 | o8 w=>simp [GE.wd,km]
 | bool b=>rw [GE.wd,List.cons_append,cQ]; cases b<;>assumption
 | var y=>simp [GE.wd,km]
 | call y l=>simp [GE.wd,km]
 | un s e=>
  rw [GE.ok] at h
  rw [GE.wd,List.cons_append,cy]
  rcases h.1 with rfl | rfl<;>assumption
 | bin s a b=>rw [GE.wd,List.cons_append,cy]; exact w7
 | conv t e=>rw [GE.wd,List.cons_append,cQ]; split<;>assumption
theorem Hc {x:List UInt8} {l:List GE} (ho:GE.mU l) (hl:∀e∈l,UP e) (h6:l.length≤6) (f:Nat) (d m:Int) (r:List Wd) (hf:81 - 2*d≤f) (hd:d+2+GE.fP l≤40) (hm:m+1+Nd.fy (GE.eo l)≤2000):
  (sF f).call x d ((5,[40])::(GE.rK l++(5,[41])::r)) m=some (.mk 24 0 x 0 (GE.eo l),r,m+1+Nd.fy (GE.eo l)):=by
 obtain ⟨g,rfl,hg⟩:=cn hf (by omega)
 rw [Su]
 unfold D2
 rw [kl (by omega),dy (by omega),Option.bind_some]
 simp only
 rw [dW (by rw [cy]; rfl),Option.bind_some,List.tail_cons]
 simp only
 cases l with
 | nil=>
  rw [GE.rK,GE.eo,List.nil_append,aX]
  unfold mo
  rw [cF (by rw [cy]; rfl),Option.bind_some]
  simp
 | cons e l=>
  rw [GE.fP] at hd
  rw [GE.eo,aQ] at hm ⊢
  rw [GE.rK,List.append_assoc]
  simp only [List.length_cons] at h6
  have mT:wR 0 (GE.BL l++(5,[41])::r):=by
   cases l with
   | nil=>rw [GE.BL]; exact mz 0 (by omega) r
   | cons e2 l=>rw [GE.BL]; exact wS _
  have hlen:l.length<(e.wd++(GE.BL l++(5,[41])::r)).length:=by
   have:∀l:List GE,l.length≤(GE.BL l).length:=by
    intro l
    induction l with
    | nil=>simp
    | cons a l ih=>rw [GE.BL]; simp only [List.length_cons,List.length_append]; omega
   have:=this l
   simp only [List.length_append,List.length_cons]
   omega
  unfold mo
  have XA:=SY (x:=[41]) (r:=GE.BL l++(5,[41])::r) (show e.ok from by rw [GE.mU] at ho; exact ho.1) (.inl rfl)
  rw [bx XA,Option.bind_some]
  simp only [cond_false]
  have jO:decide ((Nd.mk 24 0 x 0 []).bM.length>0)=false:=rfl
  have jQ:decide ((Nd.mk 24 0 x 0 []).bM.length≥6)=false:=rfl
  rw [jO,jQ]
  simp only [cond_false,Option.bind_some]
  rw [kG (hl e (by simp)) g 0 (d+1) (m+1) _ (by omega) (by omega) (by omega) mT,Option.bind_some]
  simp only
  have:=Cc (f:=g) (d:=d+1) (by omega) (.mk 24 0 x 0 []) r l _ [e.nd] (m+1+e.nd.de) (fun y hy=>hl y (by simp [hy])) (by omega) hlen (by simp) (by simp; omega) (by omega)
  rw [show (Nd.mk 24 0 x 0 []).c_ e.nd=(Nd.mk 24 0 x 0 []).br [e.nd] from rfl,this]
  simp only [List.cons_append,List.nil_append,Nd.br]
  congr 3
  omega
mutual
theorem mO:∀e:GE,e.ok→UP e
 | .int w,_=>fun f d m r hf hd hm hr=>by
  obtain ⟨g,rfl,hg⟩:=cn hf (by rw [GE.dep] at hd; omega)
  rw [GE.nd,bg,aX] at hm ⊢
  rw [jv,GE.wd]
  refine mu (y:=((.mk 20 0 [] (dX w:Nat) [],true),r,m+1)) _ Bo Bo ?_ rfl
  rw [List.cons_append,List.nil_append]
  exact kn (by omega)
 | .o8 w,_=>fun f d m r hf hd hm hr=>by
  obtain ⟨g,rfl,hg⟩:=cn hf (by rw [GE.dep] at hd; omega)
  have hc:(iR w).de=1:=by rw [iR,bg,aX]
  rw [GE.nd,hc] at hm ⊢
  rw [jv,GE.wd]
  refine mu (y:=((iR w,true),r,m+1)) _ (by simp [km]) (by simp [km]) ?_ rfl
  rw [List.cons_append,List.nil_append]
  exact kn (by omega)
 | .bool b,_=>fun f d m r hf hd hm hr=>by
  obtain ⟨g,rfl,hg⟩:=cn hf (by rw [GE.dep] at hd; omega)
  rw [GE.nd,bg,aX] at hm ⊢
  rw [jv,GE.wd,List.cons_append,List.nil_append]
  cases b with
  | true=>
   refine mu (y:=((.mk 22 0 [] 1 [],true),r,m+1)) _ (by rw [cQ]; rfl) (by rw [cQ]; rfl) ?_ rfl
   exact kn (by omega)
  | false=>
   refine mu (y:=((.mk 22 0 [] 0 [],true),r,m+1)) _ (by rw [cQ]; rfl) (by rw [cQ]; rfl) ?_ rfl
   exact kn (by omega)
 | .var x,_=>fun f d m r hf hd hm hr=>by
  obtain ⟨g,rfl,hg⟩:=cn hf (by rw [GE.dep] at hd; omega)
  rw [GE.nd,bg,aX] at hm ⊢
  rw [jv,GE.wd,List.cons_append,List.nil_append]
  exact GC _ hr (by omega)
 | .call x l,h=>fun f d m r hf hd hm hr=>by
  rw [GE.ok] at h
  rw [GE.dep] at hd
  obtain ⟨g,rfl,hg⟩:=cn hf (by omega)
  rw [GE.nd,bg] at hm ⊢
  rw [jv,GE.wd,List.cons_append,List.cons_append,List.append_assoc,D6 _ (by rw [cy]; rfl)]
  have:=Hc (x:=x) h.2 (G1 l h.2) h.1 g d m r (by omega) (by omega) (by omega)
  rw [List.cons_append,List.nil_append,this]
  congr 3
  omega
 | .un s e,h=>fun f d m r hf hd hm hr=>by
  rw [GE.ok] at h
  rw [GE.dep] at hd
  obtain ⟨g,rfl,hg⟩:=cn hf (by omega)
  have hc:((GE.un s e).nd).de=1+e.nd.de:=by rw [GE.nd,bg,aQ,aX]; omega
  rw [hc] at hm ⊢
  have hu:=mO e h.2 g (d+1) m r (by omega) (by omega) (by omega) hr
  have Vu:Xv (sF g) s d (e.wd++r) m=some (.mk 25 0 s 0 [e.nd],r,m+(1+e.nd.de)):=by
   unfold Xv
   rw [kl (by omega),hu,Option.bind_some]
   simp only
   rw [dy (by omega)]
   congr 3
   omega
  rw [jv,GE.wd,GE.nd,List.cons_append]
  unfold iT
  rcases h.1 with rfl | rfl
  ·rw [cF (by rw [cy]; rfl),Option.bind_some]
   simp only [cond_true,List.tail_cons]
   exact Vu
  ·rw [bx (by rw [cy]; rfl),Option.bind_some]
   simp only [cond_false]
   rw [cF (by rw [cy]; rfl),Option.bind_some]
   simp only [cond_true,List.tail_cons]
   exact Vu
 | .bin s a b,h=>fun f d m r hf hd hm hr=>by
  rw [GE.ok] at h
  obtain ⟨hs,Xm,ha,hb⟩:=h
  rw [GE.dep] at hd
  obtain ⟨g,rfl,hg⟩:=cn hf (by omega)
  obtain ⟨q,rfl,hq⟩:=cn hg (by omega)
  have hc:((GE.bin s a b).nd).de=1+a.nd.de+b.nd.de:=by rw [GE.nd,bg,aQ,aQ,aX]; omega
  rw [hc] at hm ⊢
  have h1:=mO a ha q (d+1) m ((5,s)::(b.wd++(5,[41])::r)) (by omega) (by omega) (by omega) (by rw [cy]; exact Xm)
  have h2:=kG (mO b hb) q (ft s) (d+1) (m+a.nd.de) ((5,[41])::r) (by omega) (by omega) (by omega) (mz _ (by omega) r)
  have hlen:((5,s)::(b.wd++(5,[41])::r):List Wd).length+1=((b.wd++(5,[41])::r:List Wd).length+1)+1:=rfl
  have hex:(sF (q+1)).expr 0 d (a.wd++(5,s)::(b.wd++(5,[41])::r)) m=some (.mk 26 0 s 0 [a.nd,b.nd],(5,[41])::r,m+(1+a.nd.de+b.nd.de)):=by
   rw [H7]
   unfold zK
   rw [kl (by omega),h1,Option.bind_some]
   simp only [hlen]
   rw [LP hs,h2,Option.bind_some]
   simp only
   rw [dy (by omega),Option.bind_some]
   simp only
   have:(b.wd++(5,[41])::r:List Wd).length+1=((b.wd++(5,[41])::r:List Wd).length)+1:=rfl
   rw [D4 (by rw [wB]; omega)]
   congr 3
   omega
  rw [jv,GE.wd,GE.nd]
  simp only [List.cons_append,List.append_assoc,List.nil_append]
  unfold iT
  rw [bx (by rw [cy]; rfl),Option.bind_some]
  simp only [cond_false]
  rw [bx (by rw [cy]; rfl),Option.bind_some]
  simp only [cond_false]
  rw [LR rfl rfl,Option.bind_some]
  simp only [cond_false]
  rw [bx (by rw [cy]; rfl),Option.bind_some]
  simp only [cond_false]
  rw [bx (by rw [cy]; rfl),Option.bind_some]
  simp only [cond_false]
  rw [cF (by rw [cy]; rfl),Option.bind_some]
  simp only [cond_true,List.tail_cons]
  rw [hex,Option.bind_some]
  simp only
  rw [dW (by rw [cy]; rfl),Option.bind_some]
  rfl
 | .conv t e,h=>fun f d m r hf hd hm hr=>by
  rw [GE.ok] at h
  rw [GE.dep] at hd
  obtain ⟨g,rfl,hg⟩:=cn hf (by omega)
  have hc:((GE.conv t e).nd).de=1+e.nd.de:=by rw [GE.nd,bg,aQ,aX]; omega
  rw [hc] at hm ⊢
  have h2:=kG (mO e h.2) g 0 d m ((5,[41])::r) (by omega) (by omega) (by omega) (mz _ (by omega) r)
  have hcv:zJ (sF g) t d ((5,[40])::(e.wd++(5,[41])::r)) m=some (.mk 27 t [] 0 [e.nd],r,m+(1+e.nd.de)):=by
   unfold zJ
   rw [dW (by rw [cy]; rfl),Option.bind_some,List.tail_cons]
   simp only
   rw [h2,Option.bind_some]
   simp only
   rw [dy (by omega),Option.bind_some]
   simp only
   rw [dW (by rw [cy]; rfl),Option.bind_some]
   simp only [List.tail_cons]
   congr 3
   omega
  rw [jv,GE.wd,GE.nd]
  simp only [List.cons_append,List.append_assoc,List.nil_append]
  unfold iT
  rcases h.1 with rfl | rfl
  ·rw [if_pos rfl]
   rw [bx (by rw [cQ]; rfl),Option.bind_some]
   simp only [cond_false]
   rw [bx (by rw [cQ]; rfl),Option.bind_some]
   simp only [cond_false]
   rw [zO rfl rfl,Option.bind_some]
   simp only [cond_false]
   rw [cF (by rw [cQ]; rfl),Option.bind_some]
   simp only [cond_true,List.tail_cons]
   exact hcv
  ·rw [if_neg (by decide)]
   rw [bx (by rw [cQ]; rfl),Option.bind_some]
   simp only [cond_false]
   rw [bx (by rw [cQ]; rfl),Option.bind_some]
   simp only [cond_false]
   rw [zO rfl rfl,Option.bind_some]
   simp only [cond_false]
   rw [bx (by rw [cQ]; rfl),Option.bind_some]
   simp only [cond_false]
   rw [cF (by rw [cQ]; rfl),Option.bind_some]
   simp only [cond_true,List.tail_cons]
   exact hcv
theorem G1:∀l:List GE,GE.mU l→∀e∈l,UP e
 | [],_,e,h=>by cases h
 | x::l,h,e,he=>by
  rw [GE.mU] at h
  rcases List.mem_cons.1 he with hq | he
  ·rw [hq]; exact mO x h.1
  ·exact G1 l h.2 e he
end
end
end Go.Proofs.YtpklkpkfgmoghaaGreatDoor.Zz
namespace Go.Proofs.YtpklkpkfgmoghaaGreatDoor.Zz
noncomputable section
mutual
def GS.nd:GS→Nd
 | .jS x e=>.mk 7 0 x 0 [e.nd]
 | .mX x e=>.mk 8 0 x 0 [e.nd]
 | .yS e l=>.mk 9 0 [] 0 [e.nd,.mk 6 0 [] 0 (GS.eo l)]
 | .yR e l r=>.mk 9 0 [] 0 [e.nd,.mk 6 0 [] 0 (GS.eo l),.mk 6 0 [] 0 (GS.eo r)]
 | .lJ e l=>.mk 10 0 [] 0 [e.nd,.mk 6 0 [] 0 (GS.eo l)]
 | .ret e=>.mk 11 0 [] 0 [e.nd]
 | .iM e=>.mk 12 0 [] 0 [e.nd]
 | .skip=>.mk 14 0 [] 0 []
 | .xF x l=>.mk 13 0 [] 0 [.mk 24 0 x 0 (GE.eo l)]
def GS.eo:List GS→List Nd
 | []=>[]
 | s::l=>s.nd::GS.eo l
end
mutual
def GS.wd:GS→List Wd
 | .jS x e=>(1,x)::(5,[58,61])::(e.wd++[(5,[59])])
 | .mX x e=>(1,x)::(5,[61])::(e.wd++[(5,[59])])
 | .yS e l=>(4,Fq)::(e.wd++(5,[123])::(GS.rK l++[(5,[125])]))
 | .yR e l r=>(4,Fq)::(e.wd++(5,[123])::(GS.rK l++(5,[125])::(4,jM)::(5,[123])::(GS.rK r++[(5,[125])])))
 | .lJ e l=>(4,Fg)::(e.wd++(5,[123])::(GS.rK l++[(5,[125])]))
 | .ret e=>(4,lf)::(e.wd++[(5,[59])])
 | .iM e=>(4,ld)::(e.wd++[(5,[59])])
 | .skip=>[(4,Ai),(5,[59])]
 | .xF x l=>(1,x)::(5,[40])::(GE.rK l++[(5,[41]),(5,[59])])
def GS.rK:List GS→List Wd
 | []=>[]
 | s::l=>s.wd++GS.rK l
end
mutual
def GS.dep:GS→Nat
 | .jS _ e=>1+e.dep
 | .mX _ e=>1+e.dep
 | .yS e l=>max (2+e.dep) (2+GS.fP l)
 | .yR e l r=>max (2+e.dep) (max (2+GS.fP l) (2+GS.fP r))
 | .lJ e l=>max (1+e.dep) (1+GS.fP l)
 | .ret e=>1+e.dep
 | .iM e=>1+e.dep
 | .skip=>0
 | .xF _ l=>2+GE.fP l
def GS.fP:List GS→Nat
 | []=>0
 | s::l=>max s.dep (GS.fP l)
end
mutual
def GS.ok:GS→Prop
 | .jS _ e=>e.ok
 | .mX _ e=>e.ok
 | .yS e l=>e.ok∧l.length≤32∧GS.mU l
 | .yR e l r=>e.ok∧(l.length≤32∧GS.mU l)∧r.length≤32∧GS.mU r
 | .lJ e l=>e.ok∧l.length≤32∧GS.mU l
 | .ret e=>e.ok
 | .iM e=>e.ok
 | .skip=>True
 | .xF _ l=>l.length≤6∧GE.mU l
def GS.mU:List GS→Prop
 | []=>True
 | s::l=>s.ok∧GS.mU l
end
theorem sG (r:List Wd):wR 0 ((5,[123])::r):=⟨rfl,rfl⟩
theorem LV (r:List Wd):wR 0 ((5,[59])::r):=⟨rfl,rfl⟩
theorem Hv (s:GS) (r:List Wd):km [125] (s.wd++r)=false∧km jM (s.wd++r)=false:=by
 cases s<;>rw [GS.wd]<;>simp only [List.cons_append]<;>first | exact ⟨di,di⟩ | exact ⟨rfl,rfl⟩
def SP (s:GS):Prop:=∀(f:Nat) (d m:Int) (r:List Wd),82 - 2*d≤f→d+s.dep≤40→m+s.nd.de≤2000→km jM r=false→(sF f).stmt d (s.wd++r) m=some (s.nd,r,m+s.nd.de)
theorem QA:∀(l:List GS) (r:List Wd),km jM r=false→km jM (GS.rK l++r)=false
 | [],r,h=>by rw [GS.rK]; exact h
 | s::l,r,h=>by rw [GS.rK,List.append_assoc]; exact (Hv s _).2
theorem Kw:∀l:List GS,l.length≤(GS.rK l).length
 | []=>by simp
 | s::l=>by
  have:=Kw l
  have h0:0<s.wd.length:=by cases s<;>rw [GS.wd]<;>simp
  rw [GS.rK,List.length_append,List.length_cons]
  omega
theorem xZ {f:Nat} {d:Int} (hf:82 - 2*d≤f) (n:Nd) (r:List Wd):∀(l:List GS) (j:Nat) (ks:List Nd) (m:Int),(∀s∈l,SP s)→d+GS.fP l≤40→l.length<j→ks.length+l.length≤32→m+Nd.fy (GS.eo l)≤2000→
  mn (sF f) d j (n.br ks) (GS.rK l++(5,[125])::r) m=some (n.br (ks++GS.eo l),r,m+Nd.fy (GS.eo l))
 | [],j+1,ks,m,hl,hd,hj,h6,hm=>by
  rw [GS.rK,GS.eo,List.nil_append,aX,List.append_nil]
  unfold mn
  rw [cF (by rw [cy]; rfl),Option.bind_some]
  simp
 | s::l,j+1,ks,m,hl,hd,hj,h6,hm=>by
  rw [GS.fP] at hd
  rw [GS.eo,aQ] at hm ⊢
  rw [GS.rK,List.append_assoc]
  simp only [List.length_cons] at hj h6
  unfold mn
  rw [bx (Hv s _).1,Option.bind_some]
  simp only [cond_false]
  have jQ:decide ((n.br ks).bM.length≥32)=false:=by rw [ig]; simp; omega
  rw [jQ]
  simp only [cond_false]
  rw [hl s (by simp) f d m _ hf (by omega) (by omega) (QA l _ (by rw [cy]; rfl)),Option.bind_some]
  simp only
  rw [lZ,xZ hf n r l j (ks++[s.nd]) (m+s.nd.de) (fun x hx=>hl x (by simp [hx])) (by omega) (by omega) (by simp; omega) (by omega)]
  simp only [List.append_assoc,List.cons_append,List.nil_append]
  congr 3
  omega
theorem lF {l:List GS} (hl:∀s∈l,SP s) (h6:l.length≤32) (f:Nat) (d m:Int) (r:List Wd) (hf:81 - 2*d≤f) (hd:d+1+GS.fP l≤40) (hm:m+1+Nd.fy (GS.eo l)≤2000):
  (sF f).block d ((5,[123])::(GS.rK l++(5,[125])::r)) m=some (.mk 6 0 [] 0 (GS.eo l),r,m+1+Nd.fy (GS.eo l)):=by
 obtain ⟨g,rfl,hg⟩:=cn hf (by omega)
 rw [OD]
 unfold wG
 rw [kl (by omega),dW (by rw [cy]; rfl),Option.bind_some,List.tail_cons]
 simp only
 rw [dy (by omega),Option.bind_some]
 simp only
 have:=xZ (f:=g) (d:=d+1) (by omega) (.mk 6 0 [] 0 []) r l ((GS.rK l++(5,[125])::r).length+1) [] (m+1) hl (by omega) (by have:=Kw l; rw [List.length_append]; omega) (by simpa using h6) hm
 rw [show (Nd.mk 6 0 [] 0 []).br []=Nd.mk 6 0 [] 0 [] from rfl] at this
 rw [this]
 rfl
theorem oY {e:GE} (h:UP e) (k:Int) (x:List UInt8) (f:Nat) (d m:Int) (r:List Wd) (hf:81 - 2*d≤f) (hd:d+1+e.dep≤40) (hm:m+1+e.nd.de≤2000):kV (sF f) k x d (e.wd++(5,[59])::r) m=some (.mk k 0 x 0 [e.nd],r,m+1+e.nd.de):=by
 unfold kV
 rw [dy (by omega),Option.bind_some]
 simp only
 rw [kG h f 0 d (m+1) _ hf hd hm (LV r),Option.bind_some]
 simp only
 rw [dW (by rw [cy]; rfl),Option.bind_some]
 rfl
mutual
theorem ZK:∀s:GS,s.ok→SP s
 | .jS x e,h=>fun f d m r hf hd hm hr=>by
  rw [GS.ok] at h
  rw [GS.dep] at hd
  obtain ⟨g,rfl,hg⟩:=cn hf (by omega)
  have hc:((GS.jS x e).nd).de=1+e.nd.de:=by rw [GS.nd,bg,aQ,aX]; omega
  rw [hc] at hm ⊢
  rw [jW,GS.wd,GS.nd]
  simp only [List.cons_append,List.append_assoc,List.nil_append]
  unfold lV
  iterate 5
   rw [bx di,Option.bind_some]
   simp only [cond_false]
  rw [fO,Option.bind_some]
  simp only
  rw [cF (by rw [cy]; rfl),Option.bind_some]
  simp only [cond_true,List.tail_cons]
  rw [oY (mO e h) 7 x g d m r (by omega) (by omega) (by omega)]
  congr 3
  omega
 | .mX x e,h=>fun f d m r hf hd hm hr=>by
  rw [GS.ok] at h
  rw [GS.dep] at hd
  obtain ⟨g,rfl,hg⟩:=cn hf (by omega)
  have hc:((GS.mX x e).nd).de=1+e.nd.de:=by rw [GS.nd,bg,aQ,aX]; omega
  rw [hc] at hm ⊢
  rw [jW,GS.wd,GS.nd]
  simp only [List.cons_append,List.append_assoc,List.nil_append]
  unfold lV
  iterate 5
   rw [bx di,Option.bind_some]
   simp only [cond_false]
  rw [fO,Option.bind_some]
  simp only
  rw [bx (by rw [cy]; rfl),Option.bind_some]
  simp only [cond_false]
  rw [cF (by rw [cy]; rfl),Option.bind_some]
  simp only [cond_true,List.tail_cons]
  rw [oY (mO e h) 8 x g d m r (by omega) (by omega) (by omega)]
  congr 3
  omega
 | .yS e l,h=>fun f d m r hf hd hm hr=>by
  rw [GS.ok] at h
  rw [GS.dep] at hd
  obtain ⟨g,rfl,hg⟩:=cn hf (by omega)
  obtain ⟨q,rfl,hq⟩:=cn hg (by omega)
  have hc:((GS.yS e l).nd).de=2+e.nd.de+Nd.fy (GS.eo l):=by rw [GS.nd,bg,aQ,aQ,aX,bg]; omega
  rw [hc] at hm ⊢
  rw [jW,GS.wd,GS.nd]
  simp only [List.cons_append,List.append_assoc,List.nil_append]
  unfold lV
  rw [cF (by rw [cQ]; rfl),Option.bind_some]
  simp only [cond_true,List.tail_cons]
  rw [zM]
  unfold oO
  rw [kl (by omega),dy (by omega),Option.bind_some]
  simp only
  rw [kG (mO e h.1) q 0 (d+1) (m+1) _ (by omega) (by omega) (by omega) (sG _),Option.bind_some]
  simp only
  rw [lF (p5 l h.2.2) h.2.1 q (d+1) (m+1+e.nd.de) r (by omega) (by omega) (by omega),Option.bind_some]
  simp only
  rw [bx hr,Option.bind_some]
  simp only [Bool.not_false,cond_true,Nd.br]
  congr 3
  omega
 | .yR e l l2,h=>fun f d m r hf hd hm hr=>by
  rw [GS.ok] at h
  rw [GS.dep] at hd
  obtain ⟨g,rfl,hg⟩:=cn hf (by omega)
  obtain ⟨q,rfl,hq⟩:=cn hg (by omega)
  have hc:((GS.yR e l l2).nd).de=3+e.nd.de+Nd.fy (GS.eo l)+Nd.fy (GS.eo l2):=by rw [GS.nd,bg,aQ,aQ,aQ,aX,bg,bg]; omega
  rw [hc] at hm ⊢
  rw [jW,GS.wd,GS.nd]
  simp only [List.cons_append,List.append_assoc,List.nil_append]
  unfold lV
  rw [cF (by rw [cQ]; rfl),Option.bind_some]
  simp only [cond_true,List.tail_cons]
  rw [zM]
  unfold oO
  rw [kl (by omega),dy (by omega),Option.bind_some]
  simp only
  rw [kG (mO e h.1) q 0 (d+1) (m+1) _ (by omega) (by omega) (by omega) (sG _),Option.bind_some]
  simp only
  rw [lF (p5 l h.2.1.2) h.2.1.1 q (d+1) (m+1+e.nd.de) _ (by omega) (by omega) (by omega),Option.bind_some]
  simp only
  rw [cF (by rw [cQ]; rfl),Option.bind_some]
  simp only [Bool.not_true,cond_false,List.tail_cons]
  rw [bx (by rw [cy]; rfl),Option.bind_some]
  simp only [cond_false]
  rw [lF (p5 l2 h.2.2.2) h.2.2.1 q (d+1) (m+1+e.nd.de+1+Nd.fy (GS.eo l)) r (by omega) (by omega) (by omega),Option.bind_some]
  simp only [Nd.br,Nd.c_,List.cons_append,List.nil_append]
  congr 3
  omega
 | .lJ e l,h=>fun f d m r hf hd hm hr=>by
  rw [GS.ok] at h
  rw [GS.dep] at hd
  obtain ⟨g,rfl,hg⟩:=cn hf (by omega)
  have hc:((GS.lJ e l).nd).de=2+e.nd.de+Nd.fy (GS.eo l):=by rw [GS.nd,bg,aQ,aQ,aX,bg]; omega
  rw [hc] at hm ⊢
  rw [jW,GS.wd,GS.nd]
  simp only [List.cons_append,List.append_assoc,List.nil_append]
  unfold lV
  rw [bx (by rw [cQ]; rfl),Option.bind_some]
  simp only [cond_false]
  rw [cF (by rw [cQ]; rfl),Option.bind_some]
  simp only [cond_true,List.tail_cons]
  rw [dy (by omega),Option.bind_some]
  simp only
  rw [kG (mO e h.1) g 0 d (m+1) _ (by omega) (by omega) (by omega) (sG _),Option.bind_some]
  simp only
  rw [lF (p5 l h.2.2) h.2.1 g d (m+1+e.nd.de) r (by omega) (by omega) (by omega),Option.bind_some]
  simp only [Nd.br]
  congr 3
  omega
 | .ret e,h=>fun f d m r hf hd hm hr=>by
  rw [GS.ok] at h
  rw [GS.dep] at hd
  obtain ⟨g,rfl,hg⟩:=cn hf (by omega)
  have hc:((GS.ret e).nd).de=1+e.nd.de:=by rw [GS.nd,bg,aQ,aX]; omega
  rw [hc] at hm ⊢
  rw [jW,GS.wd,GS.nd]
  simp only [List.cons_append,List.append_assoc,List.nil_append]
  unfold lV
  iterate 2
   rw [bx (by rw [cQ]; rfl),Option.bind_some]
   simp only [cond_false]
  rw [cF (by rw [cQ]; rfl),Option.bind_some]
  simp only [cond_true,List.tail_cons]
  rw [oY (mO e h) 11 [] g d m r (by omega) (by omega) (by omega)]
  congr 3
  omega
 | .iM e,h=>fun f d m r hf hd hm hr=>by
  rw [GS.ok] at h
  rw [GS.dep] at hd
  obtain ⟨g,rfl,hg⟩:=cn hf (by omega)
  have hc:((GS.iM e).nd).de=1+e.nd.de:=by rw [GS.nd,bg,aQ,aX]; omega
  rw [hc] at hm ⊢
  rw [jW,GS.wd,GS.nd]
  simp only [List.cons_append,List.append_assoc,List.nil_append]
  unfold lV
  iterate 3
   rw [bx (by rw [cQ]; rfl),Option.bind_some]
   simp only [cond_false]
  rw [cF (by rw [cQ]; rfl),Option.bind_some]
  simp only [cond_true,List.tail_cons]
  rw [oY (mO e h) 12 [] g d m r (by omega) (by omega) (by omega)]
  congr 3
  omega
 | .skip,h=>fun f d m r hf hd hm hr=>by
  rw [GS.dep] at hd
  obtain ⟨g,rfl,hg⟩:=cn hf (by omega)
  rw [GS.nd,bg,aX] at hm ⊢
  rw [jW,GS.wd]
  simp only [List.cons_append,List.append_assoc,List.nil_append]
  unfold lV
  iterate 4
   rw [bx (by rw [cQ]; rfl),Option.bind_some]
   simp only [cond_false]
  rw [cF (by rw [cQ]; rfl),Option.bind_some]
  simp only [cond_true,List.tail_cons]
  rw [dW (by rw [cy]; rfl),Option.bind_some]
  simp only [List.tail_cons]
  exact dy (by omega)
 | .xF x l,h=>fun f d m r hf hd hm hr=>by
  rw [GS.ok] at h
  rw [GS.dep] at hd
  obtain ⟨g,rfl,hg⟩:=cn hf (by omega)
  have hc:((GS.xF x l).nd).de=2+Nd.fy (GE.eo l):=by rw [GS.nd,bg,aQ,aX,bg]; omega
  rw [hc] at hm ⊢
  rw [jW,GS.wd,GS.nd]
  simp only [List.cons_append,List.append_assoc,List.nil_append]
  unfold lV
  iterate 5
   rw [bx di,Option.bind_some]
   simp only [cond_false]
  rw [fO,Option.bind_some]
  simp only
  iterate 2
   rw [bx (by rw [cy]; rfl),Option.bind_some]
   simp only [cond_false]
  rw [dy (by omega),Option.bind_some]
  simp only
  rw [Hc h.2 (G1 l h.2) h.1 g d (m+1) ((5,[59])::r) (by omega) (by omega) (by omega),Option.bind_some]
  simp only
  rw [dW (by rw [cy]; rfl),Option.bind_some]
  simp only [List.tail_cons,Nd.br]
  congr 3
  omega
theorem p5:∀l:List GS,GS.mU l→∀s∈l,SP s
 | [],_,e,h=>by cases h
 | x::l,h,e,he=>by
  rw [GS.mU] at h
  rcases List.mem_cons.1 he with hq | he
  ·rw [hq]; exact ZK x h.1
  ·exact p5 l h.2 e he
end
end
end Go.Proofs.YtpklkpkfgmoghaaGreatDoor.Zz
namespace Go.Proofs.YtpklkpkfgmoghaaGreatDoor.Zz
noncomputable section
inductive GD where
 | var (x:List UInt8) (t:Int) (e:GE)
 | func (x:List UInt8) (ps:List (List UInt8×Int)) (t:Int) (l:List GS)
 | test (x:List UInt8) (l:List GS)
def gk (t:Int):List UInt8:=if t=1 then mF else if t=2 then fF else xj
def gU (p:List UInt8×Int):Nd:=.mk 5 p.2 p.1 0 []
def GD.nd:GD→Nd
 | .var x t e=>.mk 2 t x 0 [e.nd]
 | .func x ps t l=>.mk 3 t x 0 (ps.map gU++[.mk 6 0 [] 0 (GS.eo l)])
 | .test x l=>.mk 4 0 x 0 [.mk 6 0 [] 0 (GS.eo l)]
def Bj:List (List UInt8×Int)→List Wd
 | []=>[]
 | p::l=>(5,[44])::(1,p.1)::(4,gk p.2)::Bj l
def xL:List (List UInt8×Int)→List Wd
 | []=>[]
 | p::l=>(1,p.1)::(4,gk p.2)::Bj l
def GD.wd:GD→List Wd
 | .var x t e=>(4,kD)::(1,x)::(4,gk t)::(5,[61])::(e.wd++[(5,[59])])
 | .func x ps t l=>(4,rI)::(1,x)::(5,[40])::(xL ps++(5,[41])::(4,gk t)::(5,[123])::(GS.rK l++[(5,[125])]))
 | .test x l=>(4,rJ)::(1,x)::(5,[123])::(GS.rK l++[(5,[125])])
def GE.lit:GE→Prop
 | .int _=>True
 | .o8 _=>True
 | .bool _=>True
 | _=>False
def BE (t:Int):Prop:=t=1∨t=2∨t=3
def GD.ok:GD→Prop
 | .var _ t e=>BE t∧e.lit
 | .func _ ps t l=>ps.length≤6∧(∀p∈ps,BE p.2)∧BE t∧l.length≤32∧GS.mU l∧GS.fP l≤39
 | .test _ l=>l.length≤32∧GS.mU l∧GS.fP l≤39
def GD.isVar:GD→Bool
 | .var .. =>true
 | _=>false
theorem qZ {t:Int} (h:BE t) (r:List Wd) (m:Int):GB ((4,gk t)::r) m=some (t,r,m):=by
 unfold GB
 rw [cQ,cQ,cQ]
 rcases h with rfl | rfl | rfl<;>rfl
theorem wL {e:GE} (h:e.lit) (r:List Wd) (m:Int) (hm:m+1≤2000):ie (e.wd++r) m=some ((e.nd,true),r,m+1)∧e.nd.de=1∧km [45] (e.wd++r)=false:=by
 cases e with
 | int w=>exact ⟨by rw [GE.wd,GE.nd]; exact kn hm,by rw [GE.nd,bg,aX],by rw [GE.wd]; exact Bo⟩
 | o8 w=>exact ⟨by rw [GE.wd,GE.nd]; exact kn hm,by rw [GE.nd,iR,bg,aX],by rw [GE.wd]; simp [km]⟩
 | bool b=>cases b<;>exact ⟨by rw [GE.wd,GE.nd]; exact kn hm,by rw [GE.nd,bg,aX],by rw [GE.wd]; rfl⟩
 | var x=>exact h.elim
 | call x l=>exact h.elim
 | un s e=>exact h.elim
 | bin s a b=>exact h.elim
 | conv t e=>exact h.elim
theorem OG {e:GE} (h:e.lit) (r:List Wd) (m:Int) (hm:m+1≤2000):OE (e.wd++r) m=some (e.nd,r,m+1):=by
 obtain ⟨h1,h2,h3⟩:=wL h r m hm
 unfold OE
 rw [bx h3,Option.bind_some]
 simp only
 rw [h1,Option.bind_some]
 rfl
theorem HQ (n:Nd) (r:List Wd):∀(l:List (List UInt8×Int)) (j:Nat) (ks:List Nd) (m:Int),(∀p∈l,BE p.2)→l.length<j→0<ks.length→ks.length+l.length≤6→m+l.length≤2000→
  jd j (n.br ks) (Bj l++(5,[41])::r) m=some (n.br (ks++l.map gU),r,m+l.length)
 | [],j+1,ks,m,hl,hj,h0,h6,hm=>by
  rw [Bj,List.nil_append,List.map_nil,List.append_nil]
  unfold jd
  rw [cF (by rw [cy]; rfl),Option.bind_some]
  simp
 | p::l,j+1,ks,m,hl,hj,h0,h6,hm=>by
  simp only [List.length_cons] at hj h6 hm
  rw [Bj]
  simp only [List.cons_append]
  unfold jd
  rw [bx (by rw [cy]; rfl),Option.bind_some]
  simp only [cond_false]
  have jO:decide ((n.br ks).bM.length>0)=true:=by rw [ig]; simpa using h0
  have jQ:decide ((n.br ks).bM.length≥6)=false:=by rw [ig]; simp; omega
  rw [jO,jQ]
  simp only [cond_true,cond_false]
  rw [dW (by rw [cy]; rfl),Option.bind_some,List.tail_cons]
  simp only
  rw [fO,Option.bind_some]
  simp only
  rw [qZ (hl p (by simp)),Option.bind_some]
  simp only
  rw [dy (by omega),Option.bind_some]
  simp only
  rw [lZ,HQ n r l j _ (m+1) (fun x hx=>hl x (by simp [hx])) (by omega) (by simp) (by simp; omega) (by omega)]
  simp only [List.append_assoc,List.cons_append,List.nil_append,List.map_cons,List.length_cons,gU]
  congr 3
  omega
theorem Du:∀l:List (List UInt8×Int),l.length≤(Bj l).length
 | []=>by simp
 | p::l=>by have:=Du l; rw [Bj]; simp only [List.length_cons]; omega
theorem RO (x:List UInt8) (r:List Wd) (l:List (List UInt8×Int)) (m:Int) (hl:∀p∈l,BE p.2) (h6:l.length≤6) (hm:m+l.length≤2000):
  jd ((xL l++(5,[41])::r).length+1) (.mk 3 0 x 0 []) (xL l++(5,[41])::r) m=some ((Nd.mk 3 0 x 0 []).br (l.map gU),r,m+l.length):=by
 cases l with
 | nil=>
  rw [xL,List.nil_append]
  unfold jd
  rw [cF (by rw [cy]; rfl),Option.bind_some]
  simp [Nd.br]
 | cons p l=>
  simp only [List.length_cons] at h6 hm
  have hlen:l.length<(xL (p::l)++(5,[41])::r).length:=by
   have:=Du l
   rw [xL]
   simp only [List.length_append,List.length_cons]
   omega
  generalize (xL (p::l)++(5,[41])::r).length=J at hlen
  rw [xL]
  simp only [List.cons_append]
  unfold jd
  rw [bx di,Option.bind_some]
  have jO:decide ((Nd.mk 3 0 x 0 []).bM.length>0)=false:=rfl
  have jQ:decide ((Nd.mk 3 0 x 0 []).bM.length≥6)=false:=rfl
  rw [jO,jQ]
  simp only [cond_false,Option.bind_some]
  rw [fO,Option.bind_some]
  simp only
  rw [qZ (hl p (by simp)),Option.bind_some]
  simp only
  rw [dy (by omega),Option.bind_some]
  simp only
  have:=HQ (.mk 3 0 x 0 []) r l J [gU p] (m+1) (fun x hx=>hl x (by simp [hx])) hlen (by simp) (by simp; omega) (by omega)
  rw [show (Nd.mk 3 0 x 0 []).c_ (.mk 5 p.2 p.1 0 [])=(Nd.mk 3 0 x 0 []).br [gU p] from rfl,this]
  simp only [List.cons_append,List.nil_append,List.map_cons,List.length_cons]
  congr 3
  omega
theorem vb:∀l:List (List UInt8×Int),Nd.fy (l.map gU)=l.length
 | []=>by rw [List.map_nil,aX]; rfl
 | p::l=>by rw [List.map_cons,aQ,vb l,gU,bg,aX,List.length_cons]; omega
theorem Q8 {D:GD} (h:D.ok) (f:Nat) (hf:81≤f) (m:Int) (r:List Wd) (hm:m+D.nd.de≤2000):wI (sF f) 0 (D.wd++r) m=some (D.nd,r,m+D.nd.de):=by
 cases D with
 | var x t e=>
  rw [GD.ok] at h
  have hc:((GD.var x t e).nd).de=1+e.nd.de:=by rw [GD.nd,bg,aQ,aX]; omega
  have h1:=(wL h.2 [] 0 (by decide)).2.1
  rw [hc] at hm ⊢
  rw [GD.wd,GD.nd]
  simp only [List.cons_append,List.append_assoc,List.nil_append]
  unfold wI
  rw [cF (by rw [cQ]; rfl),Option.bind_some]
  simp only [cond_true,List.tail_cons]
  rw [fO,Option.bind_some]
  simp only
  rw [qZ h.1,Option.bind_some]
  simp only
  rw [dy (by omega),Option.bind_some]
  simp only
  rw [dW (by rw [cy]; rfl),Option.bind_some,List.tail_cons]
  simp only
  rw [OG h.2 _ _ (by omega),Option.bind_some]
  simp only
  rw [dW (by rw [cy]; rfl),Option.bind_some,List.tail_cons]
  simp only [Nd.br]
  congr 3
  omega
 | func x ps t l=>
  rw [GD.ok] at h
  obtain ⟨h1,h2,h3,h4,h5,h6⟩:=h
  have hc:((GD.func x ps t l).nd).de=2+ps.length+Nd.fy (GS.eo l):=by rw [GD.nd,bg,nh,vb,aQ,aX,bg]; omega
  rw [hc] at hm ⊢
  rw [GD.wd,GD.nd]
  simp only [List.cons_append,List.append_assoc,List.nil_append]
  unfold wI
  rw [bx (by rw [cQ]; rfl),Option.bind_some]
  simp only [cond_false]
  rw [bx (by rw [cQ]; rfl),Option.bind_some]
  simp only [cond_false]
  rw [dW (by rw [cQ]; rfl),Option.bind_some,List.tail_cons]
  simp only
  rw [fO,Option.bind_some]
  simp only
  rw [dy (by omega),Option.bind_some]
  simp only
  rw [dW (by rw [cy]; rfl),Option.bind_some,List.tail_cons]
  simp only
  rw [RO x _ ps (m+1) h2 h1 (by omega),Option.bind_some]
  simp only
  rw [qZ h3,Option.bind_some]
  simp only
  rw [lF (p5 l h5) h4 f 0 (m+1+ps.length) r (by omega) (by omega) (by omega),Option.bind_some]
  simp only [Nd.br,Nd.OL,Nd.c_]
  congr 3
  omega
 | test x l=>
  rw [GD.ok] at h
  have hc:((GD.test x l).nd).de=2+Nd.fy (GS.eo l):=by rw [GD.nd,bg,aQ,aX,bg]; omega
  rw [hc] at hm ⊢
  rw [GD.wd,GD.nd]
  simp only [List.cons_append,List.append_assoc,List.nil_append]
  unfold wI
  rw [bx (by rw [cQ]; rfl),Option.bind_some]
  simp only [cond_false]
  rw [cF (by rw [cQ]; rfl),Option.bind_some]
  simp only [cond_true,List.tail_cons]
  rw [fO,Option.bind_some]
  simp only
  rw [dy (by omega),Option.bind_some]
  simp only
  rw [lF (p5 l h.2.1) h.1 f 0 (m+1) r (by omega) (by omega) (by omega),Option.bind_some]
  simp only [Nd.br]
  congr 3
  omega
def kQ:List GD→List Wd
 | []=>[(0,[])]
 | D::l=>D.wd++kQ l
def AV (l:List GD):Nat:=(l.filter GD.isVar).length
def AR (l:List GD):Nat:=(l.filter fun D=> !D.isVar).length
theorem aaz (D:GD) (r:List Wd):mL (D.wd++r)=4∧km kD (D.wd++r)=D.isVar:=by
 cases D<;>rw [GD.wd]<;>exact ⟨rfl,rfl⟩
theorem DG {f:Nat} (hf:81≤f) (n:Nd):∀(l:List GD) (j:Nat) (fs gs:Int) (ks:List Nd) (m:Int),(∀D∈l,D.ok)→l.length<j→gs+AV l≤16→fs+AR l≤32→m+Nd.fy (l.map GD.nd)≤2000→
  pZ (sF f) 0 j fs gs (n.br ks) (kQ l) m=some (n.br (ks++l.map GD.nd),[(0,[])],m+Nd.fy (l.map GD.nd))
 | [],j+1,fs,gs,ks,m,hl,hj,h1,h2,hm=>by
  rw [kQ,List.map_nil,aX,List.append_nil]
  unfold pZ
  simp [mL]
 | D::l,j+1,fs,gs,ks,m,hl,hj,h1,h2,hm=>by
  rw [List.map_cons,aQ] at hm ⊢
  simp only [List.length_cons] at hj
  rw [kQ]
  obtain ⟨k1,k2⟩:=aaz D (kQ l)
  unfold pZ
  rw [k1,k2]
  have e1:(AV (D::l):Int)=(bif D.isVar then 1 else 0)+AV l:=by
   unfold AV; rw [List.filter_cons]; cases D.isVar<;>simp<;>omega
  have e2:(AR (D::l):Int)=(bif D.isVar then 0 else 1)+AR l:=by
   unfold AR; rw [List.filter_cons]; cases D.isVar<;>simp<;>omega
  rw [e1] at h1
  rw [e2] at h2
  have c:(decide ((bif D.isVar then gs+1 else gs)>16) || decide ((bif D.isVar then fs else fs+1)>32))=false:=by
   rw [Bool.or_eq_false_iff,decide_eq_false_iff_not,decide_eq_false_iff_not]
   cases hv:D.isVar<;>rw [hv] at h1 h2<;>simp only [cond_true,cond_false] at h1 h2 ⊢ <;>omega
  rw [c,Q8 (hl D (by simp)) f hf m (kQ l) (by omega),Option.bind_some]
  simp only [cond_false]
  rw [lZ,DG hf n l j _ _ (ks++[D.nd]) (m+D.nd.de) (fun x hx=>hl x (by simp [hx])) (by omega) (by cases hv:D.isVar<;>rw [hv] at h1<;>simp only [cond_true,cond_false] at h1 ⊢ <;>omega) (by cases hv:D.isVar<;>rw [hv] at h2<;>simp only [cond_true,cond_false] at h2 ⊢ <;>omega) (by omega)]
  simp only [List.append_assoc,List.cons_append,List.nil_append]
  have:((4:Int) != 0)=true:=rfl
  rw [this,cond_true]
  congr 3
  omega
def eS (l:List GD):Nd:=.mk 1 0 [] 0 (l.map GD.nd)
theorem zE:∀l:List GD,l.length<(kQ l).length
 | []=>by simp [kQ]
 | D::l=>by
  have:=zE l
  have h0:0<D.wd.length:=by cases D<;>rw [GD.wd]<;>simp
  rw [kQ,List.length_append,List.length_cons]
  omega
theorem RV {f:Nat} (hf:81≤f) {l:List GD} (hl:∀D∈l,D.ok) (h1:AV l≤16) (h2:AR l≤32) (hm:(eS l).de≤2000):D5 (sF f) 0 (kQ l) 0=some (eS l,([(0,[])]:List Wd),((eS l).de:Int)):=by
 have hc:(eS l).de=1+Nd.fy (l.map GD.nd):=by rw [eS,bg]
 rw [hc] at hm ⊢
 unfold D5
 rw [dy (by omega),Option.bind_some]
 simp only
 have:=DG hf (.mk 1 0 [] 0 []) l ((kQ l).length+1) 0 0 [] (0+1) hl (by have:=zE l; omega) (by omega) (by omega) (by omega)
 rw [show (Nd.mk 1 0 [] 0 []).br []=Nd.mk 1 0 [] 0 [] from rfl] at this
 rw [this]
 simp only [Nd.br,List.nil_append,eS]
 congr 3
theorem Gc {f:Nat} (hf:81≤f) {l:List GD} {x:List UInt8} (hx:a8 x (kQ l)) (hlen:x.length≤4096) (hl:∀D∈l,D.ok) (h1:AV l≤16) (h2:AR l≤32) (hm:(eS l).de≤2000):lx f x=some (eS l,0,0):=by
 obtain ⟨e1,e2⟩:=L2 hx hlen
 exact Dx e1 (by rw [e2]; exact RV hf hl h1 h2 hm)
end
end Go.Proofs.YtpklkpkfgmoghaaGreatDoor.Zz
namespace Go.Proofs.YtpklkpkfgmoghaaGreatDoor.Zz
noncomputable section
def Bd (r:List UInt8):Prop:=je gm r=0∧((r.getD 0 0).toNat:Int)≠46
theorem Bd.c {c:UInt8} {r:List UInt8} (h:gm (c.toNat:Int)=false) (h2:(c.toNat:Int)≠46):Bd (c::r):=⟨D9 h,h2⟩
theorem Bd.digit {r:List UInt8} (h:Bd r):je isDigit r=0:=by
 cases r with
 | nil=>rfl
 | cons c r=>
  have h1:=h.1
  rw [ko] at h1 ⊢
  split at h1
  ·cases h1
  ·rename_i q
   rw [if_neg]
   intro e
   exact q (by rw [gm,e,Bool.or_true])
theorem a8.sign {w r:List UInt8} {ws:List Wd} (hf:fH (w++r) jx=some w) (hd:isDigit (((w++r).getD 0 0).toNat:Int)=false) (hl:eh (((w++r).getD 0 0).toNat:Int)=false) (hb:dE (w++r)=0) (hw:w≠[]) (h:a8 r ws):a8 (w++r) ((5,w)::ws):=by
 refine a8.word 5 w r rfl hb ?_ hw h
 unfold fR
 rw [if_neg (by rw [hd]; simp),if_neg (by rw [hl]; simp),hf]
theorem na {c:UInt8} {t:List UInt8} (h:isSp c=false) (h2:c≠47):dE (c::t)=0:=by
 rw [jh,if_neg (by rw [h]; simp),if_neg (by rw [zD h2]; simp)]
theorem a8.one {c:UInt8} {r:List UInt8} {ws:List Wd} (hc:c=40∨c=41∨c=123∨c=125∨c=44∨c=59∨c=45) (h:a8 r ws):a8 (c::r) ((5,[c])::ws):=by
 have e:c::r=[c]++r:=rfl
 rw [e]
 rcases hc with rfl | rfl | rfl | rfl | rfl | rfl | rfl
 all_goals exact a8.sign rfl rfl rfl (na (by decide) (by decide)) (by simp) h
theorem a8.not {r:List UInt8} {ws:List Wd} (hr:r.getD 0 0≠61) (h:a8 r ws):a8 (33::r) ((5,[33])::ws):=by
 refine a8.sign (w:=[33]) ?_ rfl rfl (na (by decide) (by decide)) (by simp) h
 have e:pre ([33]++r) [33,61]=false:=by
  cases r with
  | nil=>rfl
  | cons c t=>
   have hc:c≠61:=hr
   simp [pre,hc]
 have e2:∀x y:UInt8,x≠33→pre ([33]++r) [x,y]=false:=fun x y hx=>by
  cases r with
  | nil=>simp [pre]
  | cons c t=>simp [pre,Ne.symm hx]
 simp only [jx,fH]
 rw [e2 58 61 (by decide),e2 60 61 (by decide),e2 62 61 (by decide),e2 61 61 (by decide),e,e2 38 38 (by decide),e2 124 124 (by decide)]
 rfl
def N4:List (List UInt8):=[[43],[45],[42],[47],[37],[60],[60,61],[62],[62,61],[61,61],[33,61],[38,38],[124,124],[58,61],[61]]
theorem a8.op {w r:List UInt8} {ws:List Wd} (hw:w∈N4) (h:a8 r ws):a8 (w++32::r) ((5,w)::ws):=by
 have h:=a8.sp (c:=32) rfl h
 simp only [N4,List.mem_cons,List.not_mem_nil,or_false] at hw
 rcases hw with rfl | rfl | rfl | rfl | rfl | rfl | rfl | rfl | rfl | rfl | rfl | rfl | rfl | rfl | rfl
 all_goals first
  | exact a8.sign rfl rfl rfl (na (by decide) (by decide)) (by simp) h
  | exact a8.sign rfl rfl rfl (by rw [List.cons_append,jh,if_neg (by decide),if_neg (by show ¬false=true; simp)]) (by simp) h
def fm (x:List UInt8):Prop:=∃(c:UInt8) (w:List UInt8),x=c::w∧eh (c.toNat:Int)=true∧(∀y∈w,gm (y.toNat:Int)=true)∧words.contains (c::w)=false∧(c::w).length≤16
theorem a8.nm {x r:List UInt8} {ws:List Wd} (hx:fm x) (hr:Bd r) (h:a8 r ws):a8 (x++r) ((1,x)::ws):=by
 obtain ⟨c,w,rfl,h1,h2,h3,h4⟩:=hx
 exact a8.name 1 c w r rfl h1 h2 hr.1 (.inr ⟨h3,rfl,h4⟩) h
theorem a8.kw {x r:List UInt8} {ws:List Wd} (hx:x∈words) (hr:Bd r) (h:a8 r ws):a8 (x++r) ((4,x)::ws):=by
 simp only [words,List.mem_cons,List.not_mem_nil,or_false] at hx
 rcases hx with rfl | rfl | rfl | rfl | rfl | rfl | rfl | rfl | rfl | rfl | rfl | rfl | rfl | rfl
 all_goals exact a8.name 4 _ _ r rfl rfl (by decide) hr.1 (.inl ⟨rfl,rfl⟩) h
def yU (w:List UInt8):Prop:=w≠[]∧(∀y∈w,isDigit (y.toNat:Int)=true)∧od w=true
theorem yg {c:UInt8} (h:isDigit (c.toNat:Int)=true):isSp c=false∧c≠47:=by
 simp only [isDigit,Bool.and_eq_true,decide_eq_true_eq] at h
 refine ⟨?_,?_⟩
 ·simp only [isSp,Bool.or_eq_false_iff,beq_eq_false_iff_ne]; omega
 ·intro e; subst e
  have:(47:UInt8).toNat=47:=rfl
  omega
theorem a8.int {w r:List UInt8} {ws:List Wd} (hw:yU w) (hr:Bd r) (h:a8 r ws):a8 (w++r) ((2,w)::ws):=by
 obtain ⟨h0,h1,h2⟩:=hw
 have hs:=re (p:=isDigit) w r h1 hr.digit
 refine a8.word 2 w r rfl ?_ ?_ h0 h
 ·obtain ⟨c,t,rfl⟩:∃c t,w=c::t:=by
   cases w with
   | nil=>exact absurd rfl h0
   | cons c t=>exact ⟨c,t,rfl⟩
  obtain ⟨a,b⟩:=yg (h1 c (by simp))
  exact na a b
 ·have hg:isDigit (((w++r).getD 0 0).toNat:Int)=true:=by
   cases w with
   | nil=>exact absurd rfl h0
   | cons c t=>exact h1 c (by simp)
  have hn:(decide (je isDigit (w++r)<(w++r).length) && (((w++r).getD (je isDigit (w++r)) 0).toNat:Int)==46)=false:=by
   rw [hs]
   have:(w++r).getD w.length 0=r.getD 0 0:=by rw [List.getD_eq_getElem?_getD,List.getElem?_append_right (Nat.le_refl _),Nat.sub_self,←List.getD_eq_getElem?_getD]
   rw [this,Bool.and_eq_false_iff]
   exact .inr (beq_eq_false_iff_ne.2 hr.2)
  unfold fR
  rw [if_pos hg]
  unfold lO
  rw [hn,if_neg (by simp),hs,List.take_left,h2]
def Cr (w:List UInt8):Prop:=∃A B:List UInt8,w=A++46::B∧A≠[]∧B≠[]∧(∀y∈A,isDigit (y.toNat:Int)=true)∧(∀y∈B,isDigit (y.toNat:Int)=true)∧A.length+B.length≤15
theorem a8.o8 {w r:List UInt8} {ws:List Wd} (hw:Cr w) (hr:Bd r) (h:a8 r ws):a8 (w++r) ((3,w)::ws):=by
 obtain ⟨A,B,rfl,a0,b0,a1,b1,hl⟩:=hw
 have hp:je isDigit (46::(B++r))=0:=D9 rfl
 have e0:(A++46::B)++r=A++(46::(B++r)):=by simp
 have hs:=re (p:=isDigit) A (46::(B++r)) a1 hp
 have Xm:=re (p:=isDigit) B r b1 hr.digit
 refine a8.word 3 _ r rfl ?_ ?_ (by simp) h
 ·rw [e0]
  obtain ⟨c,t,rfl⟩:∃c t,A=c::t:=by
   cases A with
   | nil=>exact absurd rfl a0
   | cons c t=>exact ⟨c,t,rfl⟩
  obtain ⟨a,b⟩:=yg (a1 c (by simp))
  exact na a b
 ·rw [e0]
  have hg:isDigit (((A++(46::(B++r))).getD 0 0).toNat:Int)=true:=by
   cases A with
   | nil=>exact absurd rfl a0
   | cons c t=>exact a1 c (by simp)
  have hn:(decide (je isDigit (A++(46::(B++r)))<(A++(46::(B++r))).length) && (((A++(46::(B++r))).getD (je isDigit (A++(46::(B++r)))) 0).toNat:Int)==46)=true:=by
   rw [hs]
   have:(A++(46::(B++r))).getD A.length 0=46:=by simp [List.getD]
   rw [this,Bool.and_eq_true]
   exact ⟨by simp,rfl⟩
  have hd:(A++(46::(B++r))).drop (A.length+1)=B++r:=by
   rw [←List.drop_drop,List.drop_left]; rfl
  have ht:(A++(46::(B++r))).take (A.length+1+B.length)=A++46::B:=by
   have:A.length+1+B.length=(A++46::B).length:=by simp; omega
   rw [this,←e0,List.take_left]
  have hB:B.length≠0:=fun e=>b0 (List.length_eq_zero_iff.1 e)
  unfold fR
  rw [if_pos hg]
  unfold lO
  rw [hn,if_pos rfl,hs,hd,Xm,ht]
  simp [hB]
  omega
end
end Go.Proofs.YtpklkpkfgmoghaaGreatDoor.Zz
