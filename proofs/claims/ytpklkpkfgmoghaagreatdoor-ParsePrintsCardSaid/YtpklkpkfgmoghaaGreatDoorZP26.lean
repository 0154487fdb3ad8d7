/- Programs as they are made: their trees, their words; the words are parsed to the tree. -/
import Derived.Test.YtpklkpkfgmoghaaGreatDoorZA0
import Derived.KernelRfl
set_option linter.unnecessarySimpa false
set_option linter.unusedVariables false
set_option linter.unusedSimpArgs false
namespace Go.Proofs.YtpklkpkfgmoghaaGreatDoor.Zz
inductive GE where
 | int (w:List UInt8)
 | pr (w:List UInt8)
 | bool (b:Bool)
 | var (x:List UInt8)
 | call (x:List UInt8) (l:List GE)
 | un (s:List UInt8) (e:GE)
 | bin (s:List UInt8) (a b:GE)
 | conv (t:Int) (e:GE)
inductive GS where
 | jY (x:List UInt8) (e:GE)
 | np (x:List UInt8) (e:GE)
 | zg (e:GE) (l:List GS)
 | zf (e:GE) (l r:List GS)
 | lR (e:GE) (l:List GS)
 | ret (e:GE)
 | iS (e:GE)
 | skip
 | xV (x:List UInt8) (l:List GE)
noncomputable section
mutual
def GE.nd:GE→Nd
 | .int w=>.mk 20 0 [] (eo w:Nat) []
 | .pr w=>iX w
 | .bool b=>.mk 22 0 [] (if b then 1 else 0) []
 | .var x=>.mk 23 0 x 0 []
 | .call x l=>.mk 24 0 x 0 (GE.eE l)
 | .un s e=>.mk 25 0 s 0 [e.nd]
 | .bin s a b=>.mk 26 0 s 0 [a.nd,b.nd]
 | .conv t e=>.mk 27 t [] 0 [e.nd]
def GE.eE:List GE→List Nd
 | []=>[]
 | e::l=>e.nd::GE.eE l
end
mutual
def GE.wd:GE→List Wd
 | .int w=>[(2,w)]
 | .pr w=>[(3,w)]
 | .bool b=>[(4,if b then mf else i_)]
 | .var x=>[(1,x)]
 | .call x l=>(1,x)::(5,[40])::(GE.rX l++[(5,[41])])
 | .un s e=>(5,s)::e.wd
 | .bin s a b=>(5,[40])::(a.wd++(5,s)::(b.wd++[(5,[41])]))
 | .conv t e=>(4,if t=1 then mR else fP)::(5,[40])::(e.wd++[(5,[41])])
def GE.rX:List GE→List Wd
 | []=>[]
 | e::l=>e.wd++GE.B8 l
def GE.B8:List GE→List Wd
 | []=>[]
 | e::l=>(5,[44])::(e.wd++GE.B8 l)
end
mutual
def GE.dep:GE→Nat
 | .int _=>0
 | .pr _=>0
 | .bool _=>0
 | .var _=>0
 | .call _ l=>2+GE.fZ l
 | .un _ e=>1+e.dep
 | .bin _ a b=>max (1+a.dep) (2+b.dep)
 | .conv _ e=>1+e.dep
def GE.fZ:List GE→Nat
 | []=>0
 | e::l=>max e.dep (GE.fZ l)
end
mutual
def GE.ok:GE→Prop
 | .int _=>True
 | .pr _=>True
 | .bool _=>True
 | .var _=>True
 | .call _ l=>l.length≤6∧GE.ni l
 | .un s e=>(s=[45]∨s=[33])∧e.ok
 | .bin s a b=>0<fF s∧(s==[40])=false∧a.ok∧b.ok
 | .conv t e=>(t=1∨t=2)∧e.ok
def GE.ni:List GE→Prop
 | []=>True
 | e::l=>e.ok∧GE.ni l
end
def xg (k:Int) (r:List Wd):Prop:=ku [40] r=false∧(mX r != 5 || decide (fF (mY r)≤k))=true
theorem mH (g:r_) {d m:Int} {ws:List Wd} {y:(Nd×Bool)×List Wd×Int} (h1:ku [45] ws=false) (h2:ku [33] ws=false) (h3:iq ws m=some y) (h4:y.1.2=true):iZ g d ws m=some (y.1.1,y.2.1,y.2.2):=by
 unfold iZ
 rw [bC h1,Option.bind_some]
 simp only [cond_false]
 rw [bC h2,Option.bind_some]
 simp only [cond_false]
 rw [h3,Option.bind_some,h4]
 rfl
theorem kx {n:Nd} {w:Wd} {r:List Wd} {m:Int} (h:m+1≤2000):tR n (w::r) m=some ((n,true),r,m+1):=by
 unfold tR
 rw [List.tail_cons,dJ h]
 rfl
theorem Mt {w:List UInt8} {r:List Wd} {m:Int} (h:(w==mf)=false) (h':(w==i_)=false):iq ((5,w)::r) m=some ((.mk 0 0 [] 0 [],false),(5,w)::r,m):=by
 unfold iq
 rw [cF,cF,h,h']
 rfl
theorem Ae {w:List UInt8} {r:List Wd} {m:Int} (h:(w==mf)=false) (h':(w==i_)=false):iq ((4,w)::r) m=some ((.mk 0 0 [] 0 [],false),(4,w)::r,m):=by
 unfold iq
 rw [cY,cY,h,h']
 rfl
theorem Ms {w:List UInt8} {r:List Wd} {m:Int}:iq ((1,w)::r) m=some ((.mk 0 0 [] 0 [],false),(1,w)::r,m):=by
 unfold iq; rw [dB,dB]; rfl
theorem Et (g:r_) {w:List UInt8} {r:List Wd} {d m:Int} (h:ku [40] r=true):iZ g d ((1,w)::r) m=g.call w d r m:=by
 unfold iZ
 rw [bC dB,Option.bind_some]
 simp only [cond_false]
 rw [bC dB,Option.bind_some]
 simp only [cond_false]
 rw [Ms,Option.bind_some]
 simp only [cond_false]
 rw [bC dB,Option.bind_some]
 simp only [cond_false]
 rw [bC dB,Option.bind_some]
 simp only [cond_false]
 rw [bC dB,Option.bind_some]
 simp only [cond_false]
 rw [fY,Option.bind_some]
 simp only [h,cond_true]
def UP (e:GE):Prop:=∀(f:Nat) (d m:Int) (r:List Wd),82 - 2*d≤f→d+e.dep≤40→m+e.nd.dz≤2000→ku [40] r=false→(sF f).unary d (e.wd++r) m=some (e.nd,r,m+e.nd.dz)
theorem cA {f:Nat} {a:Int} (h:a≤f) (h0:0<a):∃g,f=g+1∧a - 1≤g:=by
 cases f with
 | zero=>omega
 | succ g=>exact ⟨g,rfl,by omega⟩
theorem kN {e:GE} (h:UP e) (f:Nat) (k d m:Int) (r:List Wd) (hf:81 - 2*d≤f) (hd:d+1+e.dep≤40) (hm:m+e.nd.dz≤2000) (hr:xg k r):(sF f).expr k d (e.wd++r) m=some (e.nd,r,m+e.nd.dz):=by
 obtain ⟨g,rfl,hg⟩:=cA hf (by omega)
 rw [IF]
 unfold Ab
 rw [kt (by omega),h g (d+1) m r (by omega) (by omega) hm hr.1,Option.bind_some]
 simp only
 unfold mF
 rw [hr.2]
 rfl
theorem wQ:fF [41]=0:=by rfl
theorem mL (k:Int) (hk:0≤k) (r:List Wd):xg k ((5,[41])::r):=⟨rfl,by
 show ((5:Int) != 5 || decide (fF [41]≤k))=true
 rw [wQ]; simp [hk]⟩
theorem xh (r:List Wd):xg 0 ((5,[44])::r):=⟨rfl,rfl⟩
theorem iu (n:Nd) (l:List Nd):(n.bz l).bR=l:=by obtain ⟨k,t,s,m,q⟩:=n; rfl
theorem mh (n x:Nd) (l:List Nd):(n.bz l).dw x=n.bz (l++[x]):=by obtain ⟨k,t,s,m,q⟩:=n; rfl
theorem Cy {f:Nat} {d:Int} (hf:81 - 2*d≤f) (n:Nd) (r:List Wd):∀(l:List GE) (j:Nat) (ks:List Nd) (m:Int),(∀e∈l,UP e)→d+1+GE.fZ l≤40→l.length<j→0<ks.length→ks.length+l.length≤6→m+Nd.fJ (GE.eE l)≤2000→
  mE (sF f) d j (n.bz ks) (GE.B8 l++(5,[41])::r) m=some (n.bz (ks++GE.eE l),r,m+Nd.fJ (GE.eE l))
 | [],j+1,ks,m,hl,hd,hj,h0,h6,hm=>by
  rw [GE.B8,GE.eE,List.nil_append,aZ,List.append_nil]
  unfold mE
  rw [cN (by rw [cF]; rfl),Option.bind_some]
  simp
 | e::l,j+1,ks,m,hl,hd,hj,h0,h6,hm=>by
  rw [GE.fZ] at hd
  rw [GE.eE,aS] at hm ⊢
  rw [GE.B8,List.cons_append,List.append_assoc]
  simp only [List.length_cons] at hj h6
  unfold mE
  rw [bC (by rw [cF]; rfl),Option.bind_some]
  simp only [cond_false]
  have jU:decide ((n.bz ks).bR.length>0)=true:=by rw [iu]; simpa using h0
  have jW:decide ((n.bz ks).bR.length≥6)=false:=by rw [iu]; simp; omega
  rw [jU,jW]
  simp only [cond_true,cond_false]
  rw [eh (by rw [cF]; rfl),Option.bind_some,List.tail_cons]
  have nh:xg 0 (GE.B8 l++(5,[41])::r):=by
   cases l with
   | nil=>rw [GE.B8]; exact mL 0 (by omega) r
   | cons e2 l=>rw [GE.B8]; exact xh _
  simp only
  rw [kN (hl e (by simp)) f 0 d m _ hf (by omega) (by omega) nh,Option.bind_some]
  simp only
  rw [mh,Cy hf n r l j (ks++[e.nd]) (m+e.nd.dz) (fun x hx=>hl x (by simp [hx])) (by omega) (by omega) (by simp) (by simp; omega) (by omega)]
  simp only [List.append_assoc,List.cons_append,List.nil_append]
  congr 3
  omega
theorem TS {e:GE} {x:List UInt8} {r:List Wd} (h:e.ok) (hx:x=[41]∨x=[125]∨x=[59]):ku x (e.wd++r)=false:=by
 have hw:(mR==x)=false∧(fP==x)=false∧(mf==x)=false∧(i_==x)=false∧(([45]:List UInt8)==x)=false∧(([33]:List UInt8)==x)=false∧(([40]:List UInt8)==x)=false:=by
  rcases hx with rfl | rfl | rfl<;>exact ⟨rfl,rfl,rfl,rfl,rfl,rfl,rfl⟩
 obtain ⟨w1,w2,w3,w4,w5,w6,w7⟩:=hw
 cases e with
 | int w=>simp [GE.wd,ku]
 | pr w=>simp [GE.wd,ku]
 | bool b=>rw [GE.wd,List.cons_append,cY]; cases b<;>assumption
 | var y=>simp [GE.wd,ku]
 | call y l=>simp [GE.wd,ku]
 | un s e=>
  rw [GE.ok] at h
  rw [GE.wd,List.cons_append,cF]
  rcases h.1 with rfl | rfl<;>assumption
 | bin s a b=>rw [GE.wd,List.cons_append,cF]; exact w7
 | conv t e=>rw [GE.wd,List.cons_append,cY]; split<;>assumption
theorem HE {x:List UInt8} {l:List GE} (ho:GE.ni l) (hl:∀e∈l,UP e) (h6:l.length≤6) (f:Nat) (d m:Int) (r:List Wd) (hf:81 - 2*d≤f) (hd:d+2+GE.fZ l≤40) (hm:m+1+Nd.fJ (GE.eE l)≤2000):
  (sF f).call x d ((5,[40])::(GE.rX l++(5,[41])::r)) m=some (.mk 24 0 x 0 (GE.eE l),r,m+1+Nd.fJ (GE.eE l)):=by
 obtain ⟨g,rfl,hg⟩:=cA hf (by omega)
 rw [Ts]
 unfold Eo
 rw [kt (by omega),dJ (by omega),Option.bind_some]
 simp only
 rw [eh (by rw [cF]; rfl),Option.bind_some,List.tail_cons]
 simp only
 cases l with
 | nil=>
  rw [GE.rX,GE.eE,List.nil_append,aZ]
  unfold mE
  rw [cN (by rw [cF]; rfl),Option.bind_some]
  simp
 | cons e l=>
  rw [GE.fZ] at hd
  rw [GE.eE,aS] at hm ⊢
  rw [GE.rX,List.append_assoc]
  simp only [List.length_cons] at h6
  have nh:xg 0 (GE.B8 l++(5,[41])::r):=by
   cases l with
   | nil=>rw [GE.B8]; exact mL 0 (by omega) r
   | cons e2 l=>rw [GE.B8]; exact xh _
  have hlen:l.length<(e.wd++(GE.B8 l++(5,[41])::r)).length:=by
   have:∀l:List GE,l.length≤(GE.B8 l).length:=by
    intro l
    induction l with
    | nil=>simp
    | cons a l ih=>rw [GE.B8]; simp only [List.length_cons,List.length_append]; omega
   have:=this l
   simp only [List.length_append,List.length_cons]
   omega
  unfold mE
  have YM:=TS (x:=[41]) (r:=GE.B8 l++(5,[41])::r) (show e.ok from by rw [GE.ni] at ho; exact ho.1) (.inl rfl)
  rw [bC YM,Option.bind_some]
  simp only [cond_false]
  have jU:decide ((Nd.mk 24 0 x 0 []).bR.length>0)=false:=rfl
  have jW:decide ((Nd.mk 24 0 x 0 []).bR.length≥6)=false:=rfl
  rw [jU,jW]
  simp only [cond_false,Option.bind_some]
  rw [kN (hl e (by simp)) g 0 (d+1) (m+1) _ (by omega) (by omega) (by omega) nh,Option.bind_some]
  simp only
  have:=Cy (f:=g) (d:=d+1) (by omega) (.mk 24 0 x 0 []) r l _ [e.nd] (m+1+e.nd.dz) (fun y hy=>hl y (by simp [hy])) (by omega) hlen (by simp) (by simp; omega) (by omega)
  rw [show (Nd.mk 24 0 x 0 []).dw e.nd=(Nd.mk 24 0 x 0 []).bz [e.nd] from rfl,this]
  simp only [List.cons_append,List.nil_append,Nd.bz]
  congr 3
  omega
mutual
theorem m_:∀e:GE,e.ok→UP e
 | .int w,_=>fun f d m r hf hd hm hr=>by
  obtain ⟨g,rfl,hg⟩:=cA hf (by rw [GE.dep] at hd; omega)
  rw [GE.nd,bn,aZ] at hm ⊢
  rw [jC,GE.wd]
  refine mH (y:=((.mk 20 0 [] (eo w:Nat) [],true),r,m+1)) _ BK BK ?_ rfl
  rw [List.cons_append,List.nil_append]
  exact kx (by omega)
 | .pr w,_=>fun f d m r hf hd hm hr=>by
  obtain ⟨g,rfl,hg⟩:=cA hf (by rw [GE.dep] at hd; omega)
  have hc:(iX w).dz=1:=by rw [iX,bn,aZ]
  rw [GE.nd,hc] at hm ⊢
  rw [jC,GE.wd]
  refine mH (y:=((iX w,true),r,m+1)) _ (by simp [ku]) (by simp [ku]) ?_ rfl
  rw [List.cons_append,List.nil_append]
  exact kx (by omega)
 | .bool b,_=>fun f d m r hf hd hm hr=>by
  obtain ⟨g,rfl,hg⟩:=cA hf (by rw [GE.dep] at hd; omega)
  rw [GE.nd,bn,aZ] at hm ⊢
  rw [jC,GE.wd,List.cons_append,List.nil_append]
  cases b with
  | true=>
   refine mH (y:=((.mk 22 0 [] 1 [],true),r,m+1)) _ (by rw [cY]; rfl) (by rw [cY]; rfl) ?_ rfl
   exact kx (by omega)
  | false=>
   refine mH (y:=((.mk 22 0 [] 0 [],true),r,m+1)) _ (by rw [cY]; rfl) (by rw [cY]; rfl) ?_ rfl
   exact kx (by omega)
 | .var x,_=>fun f d m r hf hd hm hr=>by
  obtain ⟨g,rfl,hg⟩:=cA hf (by rw [GE.dep] at hd; omega)
  rw [GE.nd,bn,aZ] at hm ⊢
  rw [jC,GE.wd,List.cons_append,List.nil_append]
  exact G7 _ hr (by omega)
 | .call x l,h=>fun f d m r hf hd hm hr=>by
  rw [GE.ok] at h
  rw [GE.dep] at hd
  obtain ⟨g,rfl,hg⟩:=cA hf (by omega)
  rw [GE.nd,bn] at hm ⊢
  rw [jC,GE.wd,List.cons_append,List.cons_append,List.append_assoc,Et _ (by rw [cF]; rfl)]
  have:=HE (x:=x) h.2 (Hr l h.2) h.1 g d m r (by omega) (by omega) (by omega)
  rw [List.cons_append,List.nil_append,this]
  congr 3
  omega
 | .un s e,h=>fun f d m r hf hd hm hr=>by
  rw [GE.ok] at h
  rw [GE.dep] at hd
  obtain ⟨g,rfl,hg⟩:=cA hf (by omega)
  have hc:((GE.un s e).nd).dz=1+e.nd.dz:=by rw [GE.nd,bn,aS,aZ]; omega
  rw [hc] at hm ⊢
  have hu:=m_ e h.2 g (d+1) m r (by omega) (by omega) (by omega) hr
  have Wv:YD (sF g) s d (e.wd++r) m=some (.mk 25 0 s 0 [e.nd],r,m+(1+e.nd.dz)):=by
   unfold YD
   rw [kt (by omega),hu,Option.bind_some]
   simp only
   rw [dJ (by omega)]
   congr 3
   omega
  rw [jC,GE.wd,GE.nd,List.cons_append]
  unfold iZ
  rcases h.1 with rfl | rfl
  ·rw [cN (by rw [cF]; rfl),Option.bind_some]
   simp only [cond_true,List.tail_cons]
   exact Wv
  ·rw [bC (by rw [cF]; rfl),Option.bind_some]
   simp only [cond_false]
   rw [cN (by rw [cF]; rfl),Option.bind_some]
   simp only [cond_true,List.tail_cons]
   exact Wv
 | .bin s a b,h=>fun f d m r hf hd hm hr=>by
  rw [GE.ok] at h
  obtain ⟨hs,Yq,ha,hb⟩:=h
  rw [GE.dep] at hd
  obtain ⟨g,rfl,hg⟩:=cA hf (by omega)
  obtain ⟨q,rfl,hq⟩:=cA hg (by omega)
  have hc:((GE.bin s a b).nd).dz=1+a.nd.dz+b.nd.dz:=by rw [GE.nd,bn,aS,aS,aZ]; omega
  rw [hc] at hm ⊢
  have h1:=m_ a ha q (d+1) m ((5,s)::(b.wd++(5,[41])::r)) (by omega) (by omega) (by omega) (by rw [cF]; exact Yq)
  have h2:=kN (m_ b hb) q (fF s) (d+1) (m+a.nd.dz) ((5,[41])::r) (by omega) (by omega) (by omega) (mL _ (by omega) r)
  have hlen:((5,s)::(b.wd++(5,[41])::r):List Wd).length+1=((b.wd++(5,[41])::r:List Wd).length+1)+1:=rfl
  have hex:(sF (q+1)).expr 0 d (a.wd++(5,s)::(b.wd++(5,[41])::r)) m=some (.mk 26 0 s 0 [a.nd,b.nd],(5,[41])::r,m+(1+a.nd.dz+b.nd.dz)):=by
   rw [IF]
   unfold Ab
   rw [kt (by omega),h1,Option.bind_some]
   simp only [hlen]
   rw [Mr hs,h2,Option.bind_some]
   simp only
   rw [dJ (by omega),Option.bind_some]
   simp only
   have:(b.wd++(5,[41])::r:List Wd).length+1=((b.wd++(5,[41])::r:List Wd).length)+1:=rfl
   rw [Er (by rw [wQ]; omega)]
   congr 3
   omega
  rw [jC,GE.wd,GE.nd]
  simp only [List.cons_append,List.append_assoc,List.nil_append]
  unfold iZ
  rw [bC (by rw [cF]; rfl),Option.bind_some]
  simp only [cond_false]
  rw [bC (by rw [cF]; rfl),Option.bind_some]
  simp only [cond_false]
  rw [Mt rfl rfl,Option.bind_some]
  simp only [cond_false]
  rw [bC (by rw [cF]; rfl),Option.bind_some]
  simp only [cond_false]
  rw [bC (by rw [cF]; rfl),Option.bind_some]
  simp only [cond_false]
  rw [cN (by rw [cF]; rfl),Option.bind_some]
  simp only [cond_true,List.tail_cons]
  rw [hex,Option.bind_some]
  simp only
  rw [eh (by rw [cF]; rfl),Option.bind_some]
  rfl
 | .conv t e,h=>fun f d m r hf hd hm hr=>by
  rw [GE.ok] at h
  rw [GE.dep] at hd
  obtain ⟨g,rfl,hg⟩:=cA hf (by omega)
  have hc:((GE.conv t e).nd).dz=1+e.nd.dz:=by rw [GE.nd,bn,aS,aZ]; omega
  rw [hc] at hm ⊢
  have h2:=kN (m_ e h.2) g 0 d m ((5,[41])::r) (by omega) (by omega) (by omega) (mL _ (by omega) r)
  have hcv:Aa (sF g) t d ((5,[40])::(e.wd++(5,[41])::r)) m=some (.mk 27 t [] 0 [e.nd],r,m+(1+e.nd.dz)):=by
   unfold Aa
   rw [eh (by rw [cF]; rfl),Option.bind_some,List.tail_cons]
   simp only
   rw [h2,Option.bind_some]
   simp only
   rw [dJ (by omega),Option.bind_some]
   simp only
   rw [eh (by rw [cF]; rfl),Option.bind_some]
   simp only [List.tail_cons]
   congr 3
   omega
  rw [jC,GE.wd,GE.nd]
  simp only [List.cons_append,List.append_assoc,List.nil_append]
  unfold iZ
  rcases h.1 with rfl | rfl
  ·rw [if_pos rfl]
   rw [bC (by rw [cY]; rfl),Option.bind_some]
   simp only [cond_false]
   rw [bC (by rw [cY]; rfl),Option.bind_some]
   simp only [cond_false]
   rw [Ae rfl rfl,Option.bind_some]
   simp only [cond_false]
   rw [cN (by rw [cY]; rfl),Option.bind_some]
   simp only [cond_true,List.tail_cons]
   exact hcv
  ·rw [if_neg (by decide)]
   rw [bC (by rw [cY]; rfl),Option.bind_some]
   simp only [cond_false]
   rw [bC (by rw [cY]; rfl),Option.bind_some]
   simp only [cond_false]
   rw [Ae rfl rfl,Option.bind_some]
   simp only [cond_false]
   rw [bC (by rw [cY]; rfl),Option.bind_some]
   simp only [cond_false]
   rw [cN (by rw [cY]; rfl),Option.bind_some]
   simp only [cond_true,List.tail_cons]
   exact hcv
theorem Hr:∀l:List GE,GE.ni l→∀e∈l,UP e
 | [],_,e,h=>by cases h
 | x::l,h,e,he=>by
  rw [GE.ni] at h
  rcases List.mem_cons.1 he with hq | he
  ·rw [hq]; exact m_ x h.1
  ·exact Hr l h.2 e he
end
end
end Go.Proofs.YtpklkpkfgmoghaaGreatDoor.Zz
namespace Go.Proofs.YtpklkpkfgmoghaaGreatDoor.Zz
noncomputable section
mutual
def GS.nd:GS→Nd
 | .jY x e=>.mk 7 0 x 0 [e.nd]
 | .np x e=>.mk 8 0 x 0 [e.nd]
 | .zg e l=>.mk 9 0 [] 0 [e.nd,.mk 6 0 [] 0 (GS.eE l)]
 | .zf e l r=>.mk 9 0 [] 0 [e.nd,.mk 6 0 [] 0 (GS.eE l),.mk 6 0 [] 0 (GS.eE r)]
 | .lR e l=>.mk 10 0 [] 0 [e.nd,.mk 6 0 [] 0 (GS.eE l)]
 | .ret e=>.mk 11 0 [] 0 [e.nd]
 | .iS e=>.mk 12 0 [] 0 [e.nd]
 | .skip=>.mk 14 0 [] 0 []
 | .xV x l=>.mk 13 0 [] 0 [.mk 24 0 x 0 (GE.eE l)]
def GS.eE:List GS→List Nd
 | []=>[]
 | s::l=>s.nd::GS.eE l
end
mutual
def GS.wd:GS→List Wd
 | .jY x e=>(1,x)::(5,[58,61])::(e.wd++[(5,[59])])
 | .np x e=>(1,x)::(5,[61])::(e.wd++[(5,[59])])
 | .zg e l=>(4,FQ)::(e.wd++(5,[123])::(GS.rX l++[(5,[125])]))
 | .zf e l r=>(4,FQ)::(e.wd++(5,[123])::(GS.rX l++(5,[125])::(4,jS)::(5,[123])::(GS.rX r++[(5,[125])])))
 | .lR e l=>(4,FE)::(e.wd++(5,[123])::(GS.rX l++[(5,[125])]))
 | .ret e=>(4,lu)::(e.wd++[(5,[59])])
 | .iS e=>(4,lr)::(e.wd++[(5,[59])])
 | .skip=>[(4,AB),(5,[59])]
 | .xV x l=>(1,x)::(5,[40])::(GE.rX l++[(5,[41]),(5,[59])])
def GS.rX:List GS→List Wd
 | []=>[]
 | s::l=>s.wd++GS.rX l
end
mutual
def GS.dep:GS→Nat
 | .jY _ e=>1+e.dep
 | .np _ e=>1+e.dep
 | .zg e l=>max (2+e.dep) (2+GS.fZ l)
 | .zf e l r=>max (2+e.dep) (max (2+GS.fZ l) (2+GS.fZ r))
 | .lR e l=>max (1+e.dep) (1+GS.fZ l)
 | .ret e=>1+e.dep
 | .iS e=>1+e.dep
 | .skip=>0
 | .xV _ l=>2+GE.fZ l
def GS.fZ:List GS→Nat
 | []=>0
 | s::l=>max s.dep (GS.fZ l)
end
mutual
def GS.ok:GS→Prop
 | .jY _ e=>e.ok
 | .np _ e=>e.ok
 | .zg e l=>e.ok∧l.length≤32∧GS.ni l
 | .zf e l r=>e.ok∧(l.length≤32∧GS.ni l)∧r.length≤32∧GS.ni r
 | .lR e l=>e.ok∧l.length≤32∧GS.ni l
 | .ret e=>e.ok
 | .iS e=>e.ok
 | .skip=>True
 | .xV _ l=>l.length≤6∧GE.ni l
def GS.ni:List GS→Prop
 | []=>True
 | s::l=>s.ok∧GS.ni l
end
theorem sX (r:List Wd):xg 0 ((5,[123])::r):=⟨rfl,rfl⟩
theorem Mw (r:List Wd):xg 0 ((5,[59])::r):=⟨rfl,rfl⟩
theorem H0 (s:GS) (r:List Wd):ku [125] (s.wd++r)=false∧ku jS (s.wd++r)=false:=by
 cases s<;>rw [GS.wd]<;>simp only [List.cons_append]<;>first | exact ⟨dB,dB⟩ | exact ⟨rfl,rfl⟩
def SP (s:GS):Prop:=∀(f:Nat) (d m:Int) (r:List Wd),82 - 2*d≤f→d+s.dep≤40→m+s.nd.dz≤2000→ku jS r=false→(sF f).stmt d (s.wd++r) m=some (s.nd,r,m+s.nd.dz)
theorem Rk:∀(l:List GS) (r:List Wd),ku jS r=false→ku jS (GS.rX l++r)=false
 | [],r,h=>by rw [GS.rX]; exact h
 | s::l,r,h=>by rw [GS.rX,List.append_assoc]; exact (H0 s _).2
theorem K5:∀l:List GS,l.length≤(GS.rX l).length
 | []=>by simp
 | s::l=>by
  have:=K5 l
  have h0:0<s.wd.length:=by cases s<;>rw [GS.wd]<;>simp
  rw [GS.rX,List.length_append,List.length_cons]
  omega
theorem yu {f:Nat} {d:Int} (hf:82 - 2*d≤f) (n:Nd) (r:List Wd):∀(l:List GS) (j:Nat) (ks:List Nd) (m:Int),(∀s∈l,SP s)→d+GS.fZ l≤40→l.length<j→ks.length+l.length≤32→m+Nd.fJ (GS.eE l)≤2000→
  mD (sF f) d j (n.bz ks) (GS.rX l++(5,[125])::r) m=some (n.bz (ks++GS.eE l),r,m+Nd.fJ (GS.eE l))
 | [],j+1,ks,m,hl,hd,hj,h6,hm=>by
  rw [GS.rX,GS.eE,List.nil_append,aZ,List.append_nil]
  unfold mD
  rw [cN (by rw [cF]; rfl),Option.bind_some]
  simp
 | s::l,j+1,ks,m,hl,hd,hj,h6,hm=>by
  rw [GS.fZ] at hd
  rw [GS.eE,aS] at hm ⊢
  rw [GS.rX,List.append_assoc]
  simp only [List.length_cons] at hj h6
  unfold mD
  rw [bC (H0 s _).1,Option.bind_some]
  simp only [cond_false]
  have jW:decide ((n.bz ks).bR.length≥32)=false:=by rw [iu]; simp; omega
  rw [jW]
  simp only [cond_false]
  rw [hl s (by simp) f d m _ hf (by omega) (by omega) (Rk l _ (by rw [cF]; rfl)),Option.bind_some]
  simp only
  rw [mh,yu hf n r l j (ks++[s.nd]) (m+s.nd.dz) (fun x hx=>hl x (by simp [hx])) (by omega) (by omega) (by simp; omega) (by omega)]
  simp only [List.append_assoc,List.cons_append,List.nil_append]
  congr 3
  omega
theorem lM {l:List GS} (hl:∀s∈l,SP s) (h6:l.length≤32) (f:Nat) (d m:Int) (r:List Wd) (hf:81 - 2*d≤f) (hd:d+1+GS.fZ l≤40) (hm:m+1+Nd.fJ (GS.eE l)≤2000):
  (sF f).block d ((5,[123])::(GS.rX l++(5,[125])::r)) m=some (.mk 6 0 [] 0 (GS.eE l),r,m+1+Nd.fJ (GS.eE l)):=by
 obtain ⟨g,rfl,hg⟩:=cA hf (by omega)
 rw [Pn]
 unfold wV
 rw [kt (by omega),eh (by rw [cF]; rfl),Option.bind_some,List.tail_cons]
 simp only
 rw [dJ (by omega),Option.bind_some]
 simp only
 have:=yu (f:=g) (d:=d+1) (by omega) (.mk 6 0 [] 0 []) r l ((GS.rX l++(5,[125])::r).length+1) [] (m+1) hl (by omega) (by have:=K5 l; rw [List.length_append]; omega) (by simpa using h6) hm
 rw [show (Nd.mk 6 0 [] 0 []).bz []=Nd.mk 6 0 [] 0 [] from rfl] at this
 rw [this]
 rfl
theorem pf {e:GE} (h:UP e) (k:Int) (x:List UInt8) (f:Nat) (d m:Int) (r:List Wd) (hf:81 - 2*d≤f) (hd:d+1+e.dep≤40) (hm:m+1+e.nd.dz≤2000):k_ (sF f) k x d (e.wd++(5,[59])::r) m=some (.mk k 0 x 0 [e.nd],r,m+1+e.nd.dz):=by
 unfold k_
 rw [dJ (by omega),Option.bind_some]
 simp only
 rw [kN h f 0 d (m+1) _ hf hd hm (Mw r),Option.bind_some]
 simp only
 rw [eh (by rw [cF]; rfl),Option.bind_some]
 rfl
mutual
theorem abe:∀s:GS,s.ok→SP s
 | .jY x e,h=>fun f d m r hf hd hm hr=>by
  rw [GS.ok] at h
  rw [GS.dep] at hd
  obtain ⟨g,rfl,hg⟩:=cA hf (by omega)
  have hc:((GS.jY x e).nd).dz=1+e.nd.dz:=by rw [GS.nd,bn,aS,aZ]; omega
  rw [hc] at hm ⊢
  rw [j6,GS.wd,GS.nd]
  simp only [List.cons_append,List.append_assoc,List.nil_append]
  unfold l9
  iterate 5
   rw [bC dB,Option.bind_some]
   simp only [cond_false]
  rw [fY,Option.bind_some]
  simp only
  rw [cN (by rw [cF]; rfl),Option.bind_some]
  simp only [cond_true,List.tail_cons]
  rw [pf (m_ e h) 7 x g d m r (by omega) (by omega) (by omega)]
  congr 3
  omega
 | .np x e,h=>fun f d m r hf hd hm hr=>by
  rw [GS.ok] at h
  rw [GS.dep] at hd
  obtain ⟨g,rfl,hg⟩:=cA hf (by omega)
  have hc:((GS.np x e).nd).dz=1+e.nd.dz:=by rw [GS.nd,bn,aS,aZ]; omega
  rw [hc] at hm ⊢
  rw [j6,GS.wd,GS.nd]
  simp only [List.cons_append,List.append_assoc,List.nil_append]
  unfold l9
  iterate 5
   rw [bC dB,Option.bind_some]
   simp only [cond_false]
  rw [fY,Option.bind_some]
  simp only
  rw [bC (by rw [cF]; rfl),Option.bind_some]
  simp only [cond_false]
  rw [cN (by rw [cF]; rfl),Option.bind_some]
  simp only [cond_true,List.tail_cons]
  rw [pf (m_ e h) 8 x g d m r (by omega) (by omega) (by omega)]
  congr 3
  omega
 | .zg e l,h=>fun f d m r hf hd hm hr=>by
  rw [GS.ok] at h
  rw [GS.dep] at hd
  obtain ⟨g,rfl,hg⟩:=cA hf (by omega)
  obtain ⟨q,rfl,hq⟩:=cA hg (by omega)
  have hc:((GS.zg e l).nd).dz=2+e.nd.dz+Nd.fJ (GS.eE l):=by rw [GS.nd,bn,aS,aS,aZ,bn]; omega
  rw [hc] at hm ⊢
  rw [j6,GS.wd,GS.nd]
  simp only [List.cons_append,List.append_assoc,List.nil_append]
  unfold l9
  rw [cN (by rw [cY]; rfl),Option.bind_some]
  simp only [cond_true,List.tail_cons]
  rw [Ad]
  unfold pa
  rw [kt (by omega),dJ (by omega),Option.bind_some]
  simp only
  rw [kN (m_ e h.1) q 0 (d+1) (m+1) _ (by omega) (by omega) (by omega) (sX _),Option.bind_some]
  simp only
  rw [lM (qg l h.2.2) h.2.1 q (d+1) (m+1+e.nd.dz) r (by omega) (by omega) (by omega),Option.bind_some]
  simp only
  rw [bC hr,Option.bind_some]
  simp only [Bool.not_false,cond_true,Nd.bz]
  congr 3
  omega
 | .zf e l l2,h=>fun f d m r hf hd hm hr=>by
  rw [GS.ok] at h
  rw [GS.dep] at hd
  obtain ⟨g,rfl,hg⟩:=cA hf (by omega)
  obtain ⟨q,rfl,hq⟩:=cA hg (by omega)
  have hc:((GS.zf e l l2).nd).dz=3+e.nd.dz+Nd.fJ (GS.eE l)+Nd.fJ (GS.eE l2):=by rw [GS.nd,bn,aS,aS,aS,aZ,bn,bn]; omega
  rw [hc] at hm ⊢
  rw [j6,GS.wd,GS.nd]
  simp only [List.cons_append,List.append_assoc,List.nil_append]
  unfold l9
  rw [cN (by rw [cY]; rfl),Option.bind_some]
  simp only [cond_true,List.tail_cons]
  rw [Ad]
  unfold pa
  rw [kt (by omega),dJ (by omega),Option.bind_some]
  simp only
  rw [kN (m_ e h.1) q 0 (d+1) (m+1) _ (by omega) (by omega) (by omega) (sX _),Option.bind_some]
  simp only
  rw [lM (qg l h.2.1.2) h.2.1.1 q (d+1) (m+1+e.nd.dz) _ (by omega) (by omega) (by omega),Option.bind_some]
  simp only
  rw [cN (by rw [cY]; rfl),Option.bind_some]
  simp only [Bool.not_true,cond_false,List.tail_cons]
  rw [bC (by rw [cF]; rfl),Option.bind_some]
  simp only [cond_false]
  rw [lM (qg l2 h.2.2.2) h.2.2.1 q (d+1) (m+1+e.nd.dz+1+Nd.fJ (GS.eE l)) r (by omega) (by omega) (by omega),Option.bind_some]
  simp only [Nd.bz,Nd.dw,List.cons_append,List.nil_append]
  congr 3
  omega
 | .lR e l,h=>fun f d m r hf hd hm hr=>by
  rw [GS.ok] at h
  rw [GS.dep] at hd
  obtain ⟨g,rfl,hg⟩:=cA hf (by omega)
  have hc:((GS.lR e l).nd).dz=2+e.nd.dz+Nd.fJ (GS.eE l):=by rw [GS.nd,bn,aS,aS,aZ,bn]; omega
  rw [hc] at hm ⊢
  rw [j6,GS.wd,GS.nd]
  simp only [List.cons_append,List.append_assoc,List.nil_append]
  unfold l9
  rw [bC (by rw [cY]; rfl),Option.bind_some]
  simp only [cond_false]
  rw [cN (by rw [cY]; rfl),Option.bind_some]
  simp only [cond_true,List.tail_cons]
  rw [dJ (by omega),Option.bind_some]
  simp only
  rw [kN (m_ e h.1) g 0 d (m+1) _ (by omega) (by omega) (by omega) (sX _),Option.bind_some]
  simp only
  rw [lM (qg l h.2.2) h.2.1 g d (m+1+e.nd.dz) r (by omega) (by omega) (by omega),Option.bind_some]
  simp only [Nd.bz]
  congr 3
  omega
 | .ret e,h=>fun f d m r hf hd hm hr=>by
  rw [GS.ok] at h
  rw [GS.dep] at hd
  obtain ⟨g,rfl,hg⟩:=cA hf (by omega)
  have hc:((GS.ret e).nd).dz=1+e.nd.dz:=by rw [GS.nd,bn,aS,aZ]; omega
  rw [hc] at hm ⊢
  rw [j6,GS.wd,GS.nd]
  simp only [List.cons_append,List.append_assoc,List.nil_append]
  unfold l9
  iterate 2
   rw [bC (by rw [cY]; rfl),Option.bind_some]
   simp only [cond_false]
  rw [cN (by rw [cY]; rfl),Option.bind_some]
  simp only [cond_true,List.tail_cons]
  rw [pf (m_ e h) 11 [] g d m r (by omega) (by omega) (by omega)]
  congr 3
  omega
 | .iS e,h=>fun f d m r hf hd hm hr=>by
  rw [GS.ok] at h
  rw [GS.dep] at hd
  obtain ⟨g,rfl,hg⟩:=cA hf (by omega)
  have hc:((GS.iS e).nd).dz=1+e.nd.dz:=by rw [GS.nd,bn,aS,aZ]; omega
  rw [hc] at hm ⊢
  rw [j6,GS.wd,GS.nd]
  simp only [List.cons_append,List.append_assoc,List.nil_append]
  unfold l9
  iterate 3
   rw [bC (by rw [cY]; rfl),Option.bind_some]
   simp only [cond_false]
  rw [cN (by rw [cY]; rfl),Option.bind_some]
  simp only [cond_true,List.tail_cons]
  rw [pf (m_ e h) 12 [] g d m r (by omega) (by omega) (by omega)]
  congr 3
  omega
 | .skip,h=>fun f d m r hf hd hm hr=>by
  rw [GS.dep] at hd
  obtain ⟨g,rfl,hg⟩:=cA hf (by omega)
  rw [GS.nd,bn,aZ] at hm ⊢
  rw [j6,GS.wd]
  simp only [List.cons_append,List.append_assoc,List.nil_append]
  unfold l9
  iterate 4
   rw [bC (by rw [cY]; rfl),Option.bind_some]
   simp only [cond_false]
  rw [cN (by rw [cY]; rfl),Option.bind_some]
  simp only [cond_true,List.tail_cons]
  rw [eh (by rw [cF]; rfl),Option.bind_some]
  simp only [List.tail_cons]
  exact dJ (by omega)
 | .xV x l,h=>fun f d m r hf hd hm hr=>by
  rw [GS.ok] at h
  rw [GS.dep] at hd
  obtain ⟨g,rfl,hg⟩:=cA hf (by omega)
  have hc:((GS.xV x l).nd).dz=2+Nd.fJ (GE.eE l):=by rw [GS.nd,bn,aS,aZ,bn]; omega
  rw [hc] at hm ⊢
  rw [j6,GS.wd,GS.nd]
  simp only [List.cons_append,List.append_assoc,List.nil_append]
  unfold l9
  iterate 5
   rw [bC dB,Option.bind_some]
   simp only [cond_false]
  rw [fY,Option.bind_some]
  simp only
  iterate 2
   rw [bC (by rw [cF]; rfl),Option.bind_some]
   simp only [cond_false]
  rw [dJ (by omega),Option.bind_some]
  simp only
  rw [HE h.2 (Hr l h.2) h.1 g d (m+1) ((5,[59])::r) (by omega) (by omega) (by omega),Option.bind_some]
  simp only
  rw [eh (by rw [cF]; rfl),Option.bind_some]
  simp only [List.tail_cons,Nd.bz]
  congr 3
  omega
theorem qg:∀l:List GS,GS.ni l→∀s∈l,SP s
 | [],_,e,h=>by cases h
 | x::l,h,e,he=>by
  rw [GS.ni] at h
  rcases List.mem_cons.1 he with hq | he
  ·rw [hq]; exact abe x h.1
  ·exact qg l h.2 e he
end
end
end Go.Proofs.YtpklkpkfgmoghaaGreatDoor.Zz
namespace Go.Proofs.YtpklkpkfgmoghaaGreatDoor.Zz
noncomputable section
inductive GD where
 | var (x:List UInt8) (t:Int) (e:GE)
 | func (x:List UInt8) (ps:List (List UInt8×Int)) (t:Int) (l:List GS)
 | test (x:List UInt8) (l:List GS)
def gx (t:Int):List UInt8:=if t=1 then mR else if t=2 then fP else xF
def hC (p:List UInt8×Int):Nd:=.mk 5 p.2 p.1 0 []
def GD.nd:GD→Nd
 | .var x t e=>.mk 2 t x 0 [e.nd]
 | .func x ps t l=>.mk 3 t x 0 (ps.map hC++[.mk 6 0 [] 0 (GS.eE l)])
 | .test x l=>.mk 4 0 x 0 [.mk 6 0 [] 0 (GS.eE l)]
def BF:List (List UInt8×Int)→List Wd
 | []=>[]
 | p::l=>(5,[44])::(1,p.1)::(4,gx p.2)::BF l
def x_:List (List UInt8×Int)→List Wd
 | []=>[]
 | p::l=>(1,p.1)::(4,gx p.2)::BF l
def GD.wd:GD→List Wd
 | .var x t e=>(4,kK)::(1,x)::(4,gx t)::(5,[61])::(e.wd++[(5,[59])])
 | .func x ps t l=>(4,rV)::(1,x)::(5,[40])::(x_ ps++(5,[41])::(4,gx t)::(5,[123])::(GS.rX l++[(5,[125])]))
 | .test x l=>(4,rW)::(1,x)::(5,[123])::(GS.rX l++[(5,[125])])
def GE.lit:GE→Prop
 | .int _=>True
 | .pr _=>True
 | .bool _=>True
 | _=>False
def B0 (t:Int):Prop:=t=1∨t=2∨t=3
def GD.ok:GD→Prop
 | .var _ t e=>B0 t∧e.lit
 | .func _ ps t l=>ps.length≤6∧(∀p∈ps,B0 p.2)∧B0 t∧l.length≤32∧GS.ni l∧GS.fZ l≤39
 | .test _ l=>l.length≤32∧GS.ni l∧GS.fZ l≤39
def GD.isVar:GD→Bool
 | .var .. =>true
 | _=>false
theorem rD {t:Int} (h:B0 t) (r:List Wd) (m:Int):G6 ((4,gx t)::r) m=some (t,r,m):=by
 unfold G6
 rw [cY,cY,cY]
 rcases h with rfl | rfl | rfl<;>rfl
theorem w8 {e:GE} (h:e.lit) (r:List Wd) (m:Int) (hm:m+1≤2000):iq (e.wd++r) m=some ((e.nd,true),r,m+1)∧e.nd.dz=1∧ku [45] (e.wd++r)=false:=by
 cases e with
 | int w=>exact ⟨by rw [GE.wd,GE.nd]; exact kx hm,by rw [GE.nd,bn,aZ],by rw [GE.wd]; exact BK⟩
 | pr w=>exact ⟨by rw [GE.wd,GE.nd]; exact kx hm,by rw [GE.nd,iX,bn,aZ],by rw [GE.wd]; simp [ku]⟩
 | bool b=>cases b<;>exact ⟨by rw [GE.wd,GE.nd]; exact kx hm,by rw [GE.nd,bn,aZ],by rw [GE.wd]; rfl⟩
 | var x=>exact h.elim
 | call x l=>exact h.elim
 | un s e=>exact h.elim
 | bin s a b=>exact h.elim
 | conv t e=>exact h.elim
theorem Pp {e:GE} (h:e.lit) (r:List Wd) (m:Int) (hm:m+1≤2000):Po (e.wd++r) m=some (e.nd,r,m+1):=by
 obtain ⟨h1,h2,h3⟩:=w8 h r m hm
 unfold Po
 rw [bC h3,Option.bind_some]
 simp only
 rw [h1,Option.bind_some]
 rfl
theorem Io (n:Nd) (r:List Wd):∀(l:List (List UInt8×Int)) (j:Nat) (ks:List Nd) (m:Int),(∀p∈l,B0 p.2)→l.length<j→0<ks.length→ks.length+l.length≤6→m+l.length≤2000→
  jk j (n.bz ks) (BF l++(5,[41])::r) m=some (n.bz (ks++l.map hC),r,m+l.length)
 | [],j+1,ks,m,hl,hj,h0,h6,hm=>by
  rw [BF,List.nil_append,List.map_nil,List.append_nil]
  unfold jk
  rw [cN (by rw [cF]; rfl),Option.bind_some]
  simp
 | p::l,j+1,ks,m,hl,hj,h0,h6,hm=>by
  simp only [List.length_cons] at hj h6 hm
  rw [BF]
  simp only [List.cons_append]
  unfold jk
  rw [bC (by rw [cF]; rfl),Option.bind_some]
  simp only [cond_false]
  have jU:decide ((n.bz ks).bR.length>0)=true:=by rw [iu]; simpa using h0
  have jW:decide ((n.bz ks).bR.length≥6)=false:=by rw [iu]; simp; omega
  rw [jU,jW]
  simp only [cond_true,cond_false]
  rw [eh (by rw [cF]; rfl),Option.bind_some,List.tail_cons]
  simp only
  rw [fY,Option.bind_some]
  simp only
  rw [rD (hl p (by simp)),Option.bind_some]
  simp only
  rw [dJ (by omega),Option.bind_some]
  simp only
  rw [mh,Io n r l j _ (m+1) (fun x hx=>hl x (by simp [hx])) (by omega) (by simp) (by simp; omega) (by omega)]
  simp only [List.append_assoc,List.cons_append,List.nil_append,List.map_cons,List.length_cons,hC]
  congr 3
  omega
theorem DR:∀l:List (List UInt8×Int),l.length≤(BF l).length
 | []=>by simp
 | p::l=>by have:=DR l; rw [BF]; simp only [List.length_cons]; omega
theorem SF (x:List UInt8) (r:List Wd) (l:List (List UInt8×Int)) (m:Int) (hl:∀p∈l,B0 p.2) (h6:l.length≤6) (hm:m+l.length≤2000):
  jk ((x_ l++(5,[41])::r).length+1) (.mk 3 0 x 0 []) (x_ l++(5,[41])::r) m=some ((Nd.mk 3 0 x 0 []).bz (l.map hC),r,m+l.length):=by
 cases l with
 | nil=>
  rw [x_,List.nil_append]
  unfold jk
  rw [cN (by rw [cF]; rfl),Option.bind_some]
  simp [Nd.bz]
 | cons p l=>
  simp only [List.length_cons] at h6 hm
  have hlen:l.length<(x_ (p::l)++(5,[41])::r).length:=by
   have:=DR l
   rw [x_]
   simp only [List.length_append,List.length_cons]
   omega
  generalize (x_ (p::l)++(5,[41])::r).length=J at hlen
  rw [x_]
  simp only [List.cons_append]
  unfold jk
  rw [bC dB,Option.bind_some]
  have jU:decide ((Nd.mk 3 0 x 0 []).bR.length>0)=false:=rfl
  have jW:decide ((Nd.mk 3 0 x 0 []).bR.length≥6)=false:=rfl
  rw [jU,jW]
  simp only [cond_false,Option.bind_some]
  rw [fY,Option.bind_some]
  simp only
  rw [rD (hl p (by simp)),Option.bind_some]
  simp only
  rw [dJ (by omega),Option.bind_some]
  simp only
  have:=Io (.mk 3 0 x 0 []) r l J [hC p] (m+1) (fun x hx=>hl x (by simp [hx])) hlen (by simp) (by simp; omega) (by omega)
  rw [show (Nd.mk 3 0 x 0 []).dw (.mk 5 p.2 p.1 0 [])=(Nd.mk 3 0 x 0 []).bz [hC p] from rfl,this]
  simp only [List.cons_append,List.nil_append,List.map_cons,List.length_cons]
  congr 3
  omega
theorem vv:∀l:List (List UInt8×Int),Nd.fJ (l.map hC)=l.length
 | []=>by rw [List.map_nil,aZ]; rfl
 | p::l=>by rw [List.map_cons,aS,vv l,hC,bn,aZ,List.length_cons]; omega
theorem RW {D:GD} (h:D.ok) (f:Nat) (hf:81≤f) (m:Int) (r:List Wd) (hm:m+D.nd.dz≤2000):wX (sF f) 0 (D.wd++r) m=some (D.nd,r,m+D.nd.dz):=by
 cases D with
 | var x t e=>
  rw [GD.ok] at h
  have hc:((GD.var x t e).nd).dz=1+e.nd.dz:=by rw [GD.nd,bn,aS,aZ]; omega
  have h1:=(w8 h.2 [] 0 (by decide)).2.1
  rw [hc] at hm ⊢
  rw [GD.wd,GD.nd]
  simp only [List.cons_append,List.append_assoc,List.nil_append]
  unfold wX
  rw [cN (by rw [cY]; rfl),Option.bind_some]
  simp only [cond_true,List.tail_cons]
  rw [fY,Option.bind_some]
  simp only
  rw [rD h.1,Option.bind_some]
  simp only
  rw [dJ (by omega),Option.bind_some]
  simp only
  rw [eh (by rw [cF]; rfl),Option.bind_some,List.tail_cons]
  simp only
  rw [Pp h.2 _ _ (by omega),Option.bind_some]
  simp only
  rw [eh (by rw [cF]; rfl),Option.bind_some,List.tail_cons]
  simp only [Nd.bz]
  congr 3
  omega
 | func x ps t l=>
  rw [GD.ok] at h
  obtain ⟨h1,h2,h3,h4,h5,h6⟩:=h
  have hc:((GD.func x ps t l).nd).dz=2+ps.length+Nd.fJ (GS.eE l):=by rw [GD.nd,bn,nC,vv,aS,aZ,bn]; omega
  rw [hc] at hm ⊢
  rw [GD.wd,GD.nd]
  simp only [List.cons_append,List.append_assoc,List.nil_append]
  unfold wX
  rw [bC (by rw [cY]; rfl),Option.bind_some]
  simp only [cond_false]
  rw [bC (by rw [cY]; rfl),Option.bind_some]
  simp only [cond_false]
  rw [eh (by rw [cY]; rfl),Option.bind_some,List.tail_cons]
  simp only
  rw [fY,Option.bind_some]
  simp only
  rw [dJ (by omega),Option.bind_some]
  simp only
  rw [eh (by rw [cF]; rfl),Option.bind_some,List.tail_cons]
  simp only
  rw [SF x _ ps (m+1) h2 h1 (by omega),Option.bind_some]
  simp only
  rw [rD h3,Option.bind_some]
  simp only
  rw [lM (qg l h5) h4 f 0 (m+1+ps.length) r (by omega) (by omega) (by omega),Option.bind_some]
  simp only [Nd.bz,Nd.Pu,Nd.dw]
  congr 3
  omega
 | test x l=>
  rw [GD.ok] at h
  have hc:((GD.test x l).nd).dz=2+Nd.fJ (GS.eE l):=by rw [GD.nd,bn,aS,aZ,bn]; omega
  rw [hc] at hm ⊢
  rw [GD.wd,GD.nd]
  simp only [List.cons_append,List.append_assoc,List.nil_append]
  unfold wX
  rw [bC (by rw [cY]; rfl),Option.bind_some]
  simp only [cond_false]
  rw [cN (by rw [cY]; rfl),Option.bind_some]
  simp only [cond_true,List.tail_cons]
  rw [fY,Option.bind_some]
  simp only
  rw [dJ (by omega),Option.bind_some]
  simp only
  rw [lM (qg l h.2.1) h.1 f 0 (m+1) r (by omega) (by omega) (by omega),Option.bind_some]
  simp only [Nd.bz]
  congr 3
  omega
def kX:List GD→List Wd
 | []=>[(0,[])]
 | D::l=>D.wd++kX l
def Bh (l:List GD):Nat:=(l.filter GD.isVar).length
def Bf (l:List GD):Nat:=(l.filter fun D=> !D.isVar).length
theorem ab_ (D:GD) (r:List Wd):mX (D.wd++r)=4∧ku kK (D.wd++r)=D.isVar:=by
 cases D<;>rw [GD.wd]<;>exact ⟨rfl,rfl⟩
theorem D3 {f:Nat} (hf:81≤f) (n:Nd):∀(l:List GD) (j:Nat) (fs gs:Int) (ks:List Nd) (m:Int),(∀D∈l,D.ok)→l.length<j→gs+Bh l≤16→fs+Bf l≤32→m+Nd.fJ (l.map GD.nd)≤2000→
  qe (sF f) 0 j fs gs (n.bz ks) (kX l) m=some (n.bz (ks++l.map GD.nd),[(0,[])],m+Nd.fJ (l.map GD.nd))
 | [],j+1,fs,gs,ks,m,hl,hj,h1,h2,hm=>by
  rw [kX,List.map_nil,aZ,List.append_nil]
  unfold qe
  simp [mX]
 | D::l,j+1,fs,gs,ks,m,hl,hj,h1,h2,hm=>by
  rw [List.map_cons,aS] at hm ⊢
  simp only [List.length_cons] at hj
  rw [kX]
  obtain ⟨k1,k2⟩:=ab_ D (kX l)
  unfold qe
  rw [k1,k2]
  have e1:(Bh (D::l):Int)=(bif D.isVar then 1 else 0)+Bh l:=by
   unfold Bh; rw [List.filter_cons]; cases D.isVar<;>simp<;>omega
  have e2:(Bf (D::l):Int)=(bif D.isVar then 0 else 1)+Bf l:=by
   unfold Bf; rw [List.filter_cons]; cases D.isVar<;>simp<;>omega
  rw [e1] at h1
  rw [e2] at h2
  have c:(decide ((bif D.isVar then gs+1 else gs)>16) || decide ((bif D.isVar then fs else fs+1)>32))=false:=by
   rw [Bool.or_eq_false_iff,decide_eq_false_iff_not,decide_eq_false_iff_not]
   cases hv:D.isVar<;>rw [hv] at h1 h2<;>simp only [cond_true,cond_false] at h1 h2 ⊢ <;>omega
  rw [c,RW (hl D (by simp)) f hf m (kX l) (by omega),Option.bind_some]
  simp only [cond_false]
  rw [mh,D3 hf n l j _ _ (ks++[D.nd]) (m+D.nd.dz) (fun x hx=>hl x (by simp [hx])) (by omega) (by cases hv:D.isVar<;>rw [hv] at h1<;>simp only [cond_true,cond_false] at h1 ⊢ <;>omega) (by cases hv:D.isVar<;>rw [hv] at h2<;>simp only [cond_true,cond_false] at h2 ⊢ <;>omega) (by omega)]
  simp only [List.append_assoc,List.cons_append,List.nil_append]
  have:((4:Int) != 0)=true:=rfl
  rw [this,cond_true]
  congr 3
  omega
def fb (l:List GD):Nd:=.mk 1 0 [] 0 (l.map GD.nd)
theorem zY:∀l:List GD,l.length<(kX l).length
 | []=>by simp [kX]
 | D::l=>by
  have:=zY l
  have h0:0<D.wd.length:=by cases D<;>rw [GD.wd]<;>simp
  rw [kX,List.length_append,List.length_cons]
  omega
theorem SN {f:Nat} (hf:81≤f) {l:List GD} (hl:∀D∈l,D.ok) (h1:Bh l≤16) (h2:Bf l≤32) (hm:(fb l).dz≤2000):Es (sF f) 0 (kX l) 0=some (fb l,([(0,[])]:List Wd),((fb l).dz:Int)):=by
 have hc:(fb l).dz=1+Nd.fJ (l.map GD.nd):=by rw [fb,bn]
 rw [hc] at hm ⊢
 unfold Es
 rw [dJ (by omega),Option.bind_some]
 simp only
 have:=D3 hf (.mk 1 0 [] 0 []) l ((kX l).length+1) 0 0 [] (0+1) hl (by have:=zY l; omega) (by omega) (by omega) (by omega)
 rw [show (Nd.mk 1 0 [] 0 []).bz []=Nd.mk 1 0 [] 0 [] from rfl] at this
 rw [this]
 simp only [Nd.bz,List.nil_append,fb]
 congr 3
theorem GF {f:Nat} (hf:81≤f) {l:List GD} {x:List UInt8} (hx:bd x (kX l)) (hlen:x.length≤4096) (hl:∀D∈l,D.ok) (h1:Bh l≤16) (h2:Bf l≤32) (hm:(fb l).dz≤2000):lD f x=some (fb l,0,0):=by
 obtain ⟨e1,e2⟩:=MC hx hlen
 exact DU e1 (by rw [e2]; exact SN hf hl h1 h2 hm)
end
end Go.Proofs.YtpklkpkfgmoghaaGreatDoor.Zz
namespace Go.Proofs.YtpklkpkfgmoghaaGreatDoor.Zz
noncomputable section
def Bd (r:List UInt8):Prop:=jl gy r=0∧((r.getD 0 0).toNat:Int)≠46
theorem Bd.c {c:UInt8} {r:List UInt8} (h:gy (c.toNat:Int)=false) (h2:(c.toNat:Int)≠46):Bd (c::r):=⟨Ey h,h2⟩
theorem Bd.digit {r:List UInt8} (h:Bd r):jl isDigit r=0:=by
 cases r with
 | nil=>rfl
 | cons c r=>
  have h1:=h.1
  rw [ky] at h1 ⊢
  split at h1
  ·cases h1
  ·ab q
   rw [if_neg]
   intro e
   exact q (by rw [gy,e,Bool.or_true])
theorem bd.sign {w r:List UInt8} {ws:List Wd} (hf:fR (w++r) jD=some w) (hd:isDigit (((w++r).getD 0 0).toNat:Int)=false) (hl:eD (((w++r).getD 0 0).toNat:Int)=false) (hb:dO (w++r)=0) (hw:w≠[]) (h:bd r ws):bd (w++r) ((5,w)::ws):=by
 refine bd.word 5 w r rfl hb ?_ hw h
 unfold f6
 rw [if_neg (by rw [hd]; simp),if_neg (by rw [hl]; simp),hf]
theorem nu {c:UInt8} {t:List UInt8} (h:mo c=false) (h2:c≠47):dO (c::t)=0:=by
 rw [jo,if_neg (by rw [h]; simp),if_neg (by rw [zX h2]; simp)]
theorem bd.one {c:UInt8} {r:List UInt8} {ws:List Wd} (hc:c=40∨c=41∨c=123∨c=125∨c=44∨c=59∨c=45) (h:bd r ws):bd (c::r) ((5,[c])::ws):=by
 have e:c::r=[c]++r:=rfl
 rw [e]
 rcases hc with rfl | rfl | rfl | rfl | rfl | rfl | rfl
 bf exact bd.sign rfl rfl rfl (nu (by decide) (by decide)) (by simp) h
theorem bd.not {r:List UInt8} {ws:List Wd} (hr:r.getD 0 0≠61) (h:bd r ws):bd (33::r) ((5,[33])::ws):=by
 refine bd.sign (w:=[33]) ?_ rfl rfl (nu (by decide) (by decide)) (by simp) h
 have e:pre ([33]++r) [33,61]=false:=by
  cases r with
  | nil=>rfl
  | cons c t=>
   have hc:c≠61:=hr
   simp [pre,hc]
 have e2:∀x y:UInt8,x≠33→pre ([33]++r) [x,y]=false:=fun x y hx=>by
  cases r with
  | nil=>simp [pre]
  | cons c t=>simp [pre,Ne.symm hx]
 simp only [jD,fR]
 rw [e2 58 61 (by decide),e2 60 61 (by decide),e2 62 61 (by decide),e2 61 61 (by decide),e,e2 38 38 (by decide),e2 124 124 (by decide)]
 rfl
def OO:List (List UInt8):=[[43],[45],[42],[47],[37],[60],[60,61],[62],[62,61],[61,61],[33,61],[38,38],[124,124],[58,61],[61]]
theorem bd.op {w r:List UInt8} {ws:List Wd} (hw:w∈OO) (h:bd r ws):bd (w++32::r) ((5,w)::ws):=by
 have h:=bd.sp (c:=32) rfl h
 simp only [OO,List.mem_cons,List.not_mem_nil,or_false] at hw
 rcases hw with rfl | rfl | rfl | rfl | rfl | rfl | rfl | rfl | rfl | rfl | rfl | rfl | rfl | rfl | rfl
 bf first
  | exact bd.sign rfl rfl rfl (nu (by decide) (by decide)) (by simp) h
  | exact bd.sign rfl rfl rfl (by rw [List.cons_append,jo,if_neg (by decide),if_neg (by show ¬false=true; simp)]) (by simp) h
def fB (x:List UInt8):Prop:=∃(c:UInt8) (w:List UInt8),x=c::w∧eD (c.toNat:Int)=true∧(∀y∈w,gy (y.toNat:Int)=true)∧words.contains (c::w)=false∧(c::w).length≤16
theorem bd.nm {x r:List UInt8} {ws:List Wd} (hx:fB x) (hr:Bd r) (h:bd r ws):bd (x++r) ((1,x)::ws):=by
 obtain ⟨c,w,rfl,h1,h2,h3,h4⟩:=hx
 exact bd.name 1 c w r rfl h1 h2 hr.1 (.inr ⟨h3,rfl,h4⟩) h
theorem bd.kw {x r:List UInt8} {ws:List Wd} (hx:x∈words) (hr:Bd r) (h:bd r ws):bd (x++r) ((4,x)::ws):=by
 simp only [words,List.mem_cons,List.not_mem_nil,or_false] at hx
 rcases hx with rfl | rfl | rfl | rfl | rfl | rfl | rfl | rfl | rfl | rfl | rfl | rfl | rfl | rfl
 bf exact bd.name 4 _ _ r rfl rfl (by decide) hr.1 (.inl ⟨rfl,rfl⟩) h
def zi (w:List UInt8):Prop:=w≠[]∧(∀y∈w,isDigit (y.toNat:Int)=true)∧oK w=true
theorem yG {c:UInt8} (h:isDigit (c.toNat:Int)=true):mo c=false∧c≠47:=by
 simp only [isDigit,Bool.and_eq_true,decide_eq_true_eq] at h
 refine ⟨?_,?_⟩
 ·simp only [mo,Bool.or_eq_false_iff,beq_eq_false_iff_ne]; omega
 ·intro e; subst e
  have:(47:UInt8).toNat=47:=rfl
  omega
theorem bd.int {w r:List UInt8} {ws:List Wd} (hw:zi w) (hr:Bd r) (h:bd r ws):bd (w++r) ((2,w)::ws):=by
 obtain ⟨h0,h1,h2⟩:=hw
 have hs:=rG (p:=isDigit) w r h1 hr.digit
 refine bd.word 2 w r rfl ?_ ?_ h0 h
 ·obtain ⟨c,t,rfl⟩:∃c t,w=c::t:=by
   cases w with
   | nil=>exact absurd rfl h0
   | cons c t=>exact ⟨c,t,rfl⟩
  obtain ⟨a,b⟩:=yG (h1 c (by simp))
  exact nu a b
 ·have hg:isDigit (((w++r).getD 0 0).toNat:Int)=true:=by
   cases w with
   | nil=>exact absurd rfl h0
   | cons c t=>exact h1 c (by simp)
  have hn:(decide (jl isDigit (w++r)<(w++r).length) && (((w++r).getD (jl isDigit (w++r)) 0).toNat:Int)==46)=false:=by
   rw [hs]
   have:(w++r).getD w.length 0=r.getD 0 0:=by rw [List.getD_eq_getElem?_getD,List.getElem?_append_right (Nat.le_refl _),Nat.sub_self,←List.getD_eq_getElem?_getD]
   rw [this,Bool.and_eq_false_iff]
   exact .inr (beq_eq_false_iff_ne.2 hr.2)
  unfold f6
  rw [if_pos hg]
  unfold lX
  rw [hn,if_neg (by simp),hs,List.take_left,h2]
def CO (w:List UInt8):Prop:=∃A B:List UInt8,w=A++46::B∧A≠[]∧B≠[]∧(∀y∈A,isDigit (y.toNat:Int)=true)∧(∀y∈B,isDigit (y.toNat:Int)=true)∧A.length+B.length≤15
theorem bd.pr {w r:List UInt8} {ws:List Wd} (hw:CO w) (hr:Bd r) (h:bd r ws):bd (w++r) ((3,w)::ws):=by
 obtain ⟨A,B,rfl,a0,b0,a1,b1,hl⟩:=hw
 have hp:jl isDigit (46::(B++r))=0:=Ey rfl
 have e0:(A++46::B)++r=A++(46::(B++r)):=by simp
 have hs:=rG (p:=isDigit) A (46::(B++r)) a1 hp
 have Yq:=rG (p:=isDigit) B r b1 hr.digit
 refine bd.word 3 _ r rfl ?_ ?_ (by simp) h
 ·rw [e0]
  obtain ⟨c,t,rfl⟩:∃c t,A=c::t:=by
   cases A with
   | nil=>exact absurd rfl a0
   | cons c t=>exact ⟨c,t,rfl⟩
  obtain ⟨a,b⟩:=yG (a1 c (by simp))
  exact nu a b
 ·rw [e0]
  have hg:isDigit (((A++(46::(B++r))).getD 0 0).toNat:Int)=true:=by
   cases A with
   | nil=>exact absurd rfl a0
   | cons c t=>exact a1 c (by simp)
  have hn:(decide (jl isDigit (A++(46::(B++r)))<(A++(46::(B++r))).length) && (((A++(46::(B++r))).getD (jl isDigit (A++(46::(B++r)))) 0).toNat:Int)==46)=true:=by
   rw [hs]
   have:(A++(46::(B++r))).getD A.length 0=46:=by simp [List.getD]
   rw [this,Bool.and_eq_true]
   exact ⟨by simp,rfl⟩
  have hd:(A++(46::(B++r))).drop (A.length+1)=B++r:=by
   rw [←List.drop_drop,List.drop_left]; rfl
  have ht:(A++(46::(B++r))).take (A.length+1+B.length)=A++46::B:=by
   have:A.length+1+B.length=(A++46::B).length:=by simp; omega
   rw [this,←e0,List.take_left]
  have hB:B.length≠0:=fun e=>b0 (List.length_eq_zero_iff.1 e)
  unfold f6
  rw [if_pos hg]
  unfold lX
  rw [hn,if_pos rfl,hs,hd,Yq,ht]
  simp [hB]
  omega
end
end Go.Proofs.YtpklkpkfgmoghaaGreatDoor.Zz
