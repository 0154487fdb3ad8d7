/- Programs as they are made: their trees, their words; the words are parsed to the tree. -/
import Derived.Test.YtpklkpkfgmoghaaGreatDoorZA0
import Derived.KernelRfl
set_option linter.unnecessarySimpa false
set_option linter.unusedVariables false
set_option linter.unusedSimpArgs false
namespace Go.Proofs.YtpklkpkfgmoghaaGreatDoor.Zz
inductive GE where
 | int (w:List UInt8)
 | tc (w:List UInt8)
 | bool (b:Bool)
 | var (x:List UInt8)
 | call (x:List UInt8) (l:List GE)
 | un (s:List UInt8) (e:GE)
 | bin (s:List UInt8) (a b:GE)
 | conv (t:Int) (e:GE)
inductive GS where
 | mL (x:List UInt8) (e:GE)
 | rQ (x:List UInt8) (e:GE)
 | Gc (e:GE) (l:List GS)
 | Gb (e:GE) (l r:List GS)
 | p8 (e:GE) (l:List GS)
 | ret (e:GE)
 | lq (e:GE)
 | skip
 | Fa (x:List UInt8) (l:List GE)
noncomputable section
mutual
def GE.nd:GE→Nd
 | .int w=>.mk 20 0 [] (fG w:Nat) []
 | .tc w=>lv w
 | .bool b=>.mk 22 0 [] (if b then 1 else 0) []
 | .var x=>.mk 23 0 x 0 []
 | .call x l=>.mk 24 0 x 0 (GE.gB l)
 | .un s e=>.mk 25 0 s 0 [e.nd]
 | .bin s a b=>.mk 26 0 s 0 [a.nd,b.nd]
 | .conv t e=>.mk 27 t [] 0 [e.nd]
def GE.gB:List GE→List Nd
 | []=>[]
 | e::l=>e.nd::GE.gB l
end
mutual
def GE.wd:GE→List Wd
 | .int w=>[(2,w)]
 | .tc w=>[(3,w)]
 | .bool b=>[(4,if b then rO else mH)]
 | .var x=>[(1,x)]
 | .call x l=>(1,x)::(5,[40])::(GE.u6 l++[(5,[41])])
 | .un s e=>(5,s)::e.wd
 | .bin s a b=>(5,[40])::(a.wd++(5,s)::(b.wd++[(5,[41])]))
 | .conv t e=>(4,if t=1 then pS else ib)::(5,[40])::(e.wd++[(5,[41])])
def GE.u6:List GE→List Wd
 | []=>[]
 | e::l=>e.wd++GE.Gi l
def GE.Gi:List GE→List Wd
 | []=>[]
 | e::l=>(5,[44])::(e.wd++GE.Gi l)
end
mutual
def GE.dep:GE→Nat
 | .int _=>0
 | .tc _=>0
 | .bool _=>0
 | .var _=>0
 | .call _ l=>2+GE.ix l
 | .un _ e=>1+e.dep
 | .bin _ a b=>max (1+a.dep) (2+b.dep)
 | .conv _ e=>1+e.dep
def GE.ix:List GE→Nat
 | []=>0
 | e::l=>max e.dep (GE.ix l)
end
mutual
def GE.ok:GE→Prop
 | .int _=>True
 | .tc _=>True
 | .bool _=>True
 | .var _=>True
 | .call _ l=>l.length≤6∧GE.qf l
 | .un s e=>(s=[45]∨s=[33])∧e.ok
 | .bin s a b=>0<gZ s∧(s==[40])=false∧a.ok∧b.ok
 | .conv t e=>(t=1∨t=2)∧e.ok
def GE.qf:List GE→Prop
 | []=>True
 | e::l=>e.ok∧GE.qf l
end
def Bw (k:Int) (r:List Wd):Prop:=mB [40] r=false∧(pZ r != 5 || decide (gZ (p3 r)≤k))=true
theorem pF (g:ve) {d m:Int} {ws:List Wd} {y:(Nd×Bool)×List Wd×Int} (h1:mB [45] ws=false) (h2:mB [33] ws=false) (h3:jZ ws m=some y) (h4:y.1.2=true):kE g d ws m=some (y.1.1,y.2.1,y.2.2):=by
 unfold kE
 rw [bP h1,Option.bind_some]
 simp only [cond_false]
 rw [bP h2,Option.bind_some]
 simp only [cond_false]
 rw [h3,Option.bind_some,h4]
 rfl
theorem mC {n:Nd} {w:Wd} {r:List Wd} {m:Int} (h:m+1≤2000):xg n (w::r) m=some ((n,true),r,m+1):=by
 unfold xg
 rw [List.tail_cons,eD h]
 rfl
theorem Tf {w:List UInt8} {r:List Wd} {m:Int} (h:(w==rO)=false) (h':(w==mH)=false):jZ ((5,w)::r) m=some ((.mk 0 0 [] 0 [],false),(5,w)::r,m):=by
 unfold jZ
 rw [dk,dk,h,h']
 rfl
theorem D3 {w:List UInt8} {r:List Wd} {m:Int} (h:(w==rO)=false) (h':(w==mH)=false):jZ ((4,w)::r) m=some ((.mk 0 0 [] 0 [],false),(4,w)::r,m):=by
 unfold jZ
 rw [dP,dP,h,h']
 rfl
theorem Te {w:List UInt8} {r:List Wd} {m:Int}:jZ ((1,w)::r) m=some ((.mk 0 0 [] 0 [],false),(1,w)::r,m):=by
 unfold jZ; rw [eo,eo]; rfl
theorem I0 (g:ve) {w:List UInt8} {r:List Wd} {d m:Int} (h:mB [40] r=true):kE g d ((1,w)::r) m=g.call w d r m:=by
 unfold kE
 rw [bP eo,Option.bind_some]
 simp only [cond_false]
 rw [bP eo,Option.bind_some]
 simp only [cond_false]
 rw [Te,Option.bind_some]
 simp only [cond_false]
 rw [bP eo,Option.bind_some]
 simp only [cond_false]
 rw [bP eo,Option.bind_some]
 simp only [cond_false]
 rw [bP eo,Option.bind_some]
 simp only [cond_false]
 rw [iw,Option.bind_some]
 simp only [h,cond_true]
def UP (e:GE):Prop:=∀(f:Nat) (d m:Int) (r:List Wd),82 - 2*d≤f→d+e.dep≤40→m+e.nd.cI≤2000→mB [40] r=false→(sF f).unary d (e.wd++r) m=some (e.nd,r,m+e.nd.cI)
theorem cZ {f:Nat} {a:Int} (h:a≤f) (h0:0<a):∃g,f=g+1∧a - 1≤g:=by
 cases f with
 | zero=>omega
 | succ g=>exact ⟨g,rfl,by omega⟩
theorem mW {e:GE} (h:UP e) (f:Nat) (k d m:Int) (r:List Wd) (hf:81 - 2*d≤f) (hd:d+1+e.dep≤40) (hm:m+e.nd.cI≤2000) (hr:Bw k r):(sF f).expr k d (e.wd++r) m=some (e.nd,r,m+e.nd.cI):=by
 obtain ⟨g,rfl,hg⟩:=cZ hf (by omega)
 rw [Oh]
 unfold DZ
 rw [mA (by omega),h g (d+1) m r (by omega) (by omega) hm hr.1,Option.bind_some]
 simp only
 unfold pD
 rw [hr.2]
 rfl
theorem Ba:gZ [41]=0:=by rfl
theorem pK (k:Int) (hk:0≤k) (r:List Wd):Bw k ((5,[41])::r):=⟨rfl,by
 show ((5:Int) != 5 || decide (gZ [41]≤k))=true
 rw [Ba]; simp [hk]⟩
theorem Bx (r:List Wd):Bw 0 ((5,[44])::r):=⟨rfl,rfl⟩
theorem j5 (n:Nd) (l:List Nd):(n.bN l).cu=l:=by obtain ⟨k,t,s,m,q⟩:=n; rfl
theorem pg (n x:Nd) (l:List Nd):(n.bN l).ea x=n.bN (l++[x]):=by obtain ⟨k,t,s,m,q⟩:=n; rfl
theorem GU {f:Nat} {d:Int} (hf:81 - 2*d≤f) (n:Nd) (r:List Wd):∀(l:List GE) (j:Nat) (ks:List Nd) (m:Int),(∀e∈l,UP e)→d+1+GE.ix l≤40→l.length<j→0<ks.length→ks.length+l.length≤6→m+Nd.eA (GE.gB l)≤2000→
  pC (sF f) d j (n.bN ks) (GE.Gi l++(5,[41])::r) m=some (n.bN (ks++GE.gB l),r,m+Nd.eA (GE.gB l))
 | [],j+1,ks,m,hl,hd,hj,h0,h6,hm=>by
  rw [GE.Gi,GE.gB,List.nil_append,bf,List.append_nil]
  unfold pC
  rw [dE (by rw [dk]; rfl),Option.bind_some]
  simp
 | e::l,j+1,ks,m,hl,hd,hj,h0,h6,hm=>by
  rw [GE.ix] at hd
  rw [GE.gB,aD] at hm ⊢
  rw [GE.Gi,List.cons_append,List.append_assoc]
  simp only [List.length_cons] at hj h6
  unfold pC
  rw [bP (by rw [dk]; rfl),Option.bind_some]
  simp only [cond_false]
  have lM:decide ((n.bN ks).cu.length>0)=true:=by rw [j5]; simpa using h0
  have lN:decide ((n.bN ks).cu.length≥6)=false:=by rw [j5]; simp; omega
  rw [lM,lN]
  simp only [cond_true,cond_false]
  rw [fl (by rw [dk]; rfl),Option.bind_some,List.tail_cons]
  have qc:Bw 0 (GE.Gi l++(5,[41])::r):=by
   cases l with
   | nil=>rw [GE.Gi]; exact pK 0 (by omega) r
   | cons e2 l=>rw [GE.Gi]; exact Bx _
  simp only
  rw [mW (hl e (by simp)) f 0 d m _ hf (by omega) (by omega) qc,Option.bind_some]
  simp only
  rw [pg,GU hf n r l j (ks++[e.nd]) (m+e.nd.cI) (fun x hx=>hl x (by simp [hx])) (by omega) (by omega) (by simp) (by simp; omega) (by omega)]
  simp only [List.append_assoc,List.cons_append,List.nil_append]
  congr 3
  omega
theorem abh {e:GE} {x:List UInt8} {r:List Wd} (h:e.ok) (hx:x=[41]∨x=[125]∨x=[59]):mB x (e.wd++r)=false:=by
 have hw:(pS==x)=false∧(ib==x)=false∧(rO==x)=false∧(mH==x)=false∧(([45]:List UInt8)==x)=false∧(([33]:List UInt8)==x)=false∧(([40]:List UInt8)==x)=false:=by
  rcases hx with rfl | rfl | rfl<;>exact ⟨rfl,rfl,rfl,rfl,rfl,rfl,rfl⟩
 obtain ⟨w1,w2,w3,w4,w5,w6,w7⟩:=hw
 cases e with
 | int w=>simp [GE.wd,mB]
 | tc w=>simp [GE.wd,mB]
 | bool b=>rw [GE.wd,List.cons_append,dP]; cases b<;>assumption
 | var y=>simp [GE.wd,mB]
 | call y l=>simp [GE.wd,mB]
 | un s e=>
  rw [GE.ok] at h
  rw [GE.wd,List.cons_append,dk]
  rcases h.1 with rfl | rfl<;>assumption
 | bin s a b=>rw [GE.wd,List.cons_append,dk]; exact w7
 | conv t e=>rw [GE.wd,List.cons_append,dP]; split<;>assumption
theorem M3 {x:List UInt8} {l:List GE} (ho:GE.qf l) (hl:∀e∈l,UP e) (h6:l.length≤6) (f:Nat) (d m:Int) (r:List Wd) (hf:81 - 2*d≤f) (hd:d+2+GE.ix l≤40) (hm:m+1+Nd.eA (GE.gB l)≤2000):
  (sF f).call x d ((5,[40])::(GE.u6 l++(5,[41])::r)) m=some (.mk 24 0 x 0 (GE.gB l),r,m+1+Nd.eA (GE.gB l)):=by
 obtain ⟨g,rfl,hg⟩:=cZ hf (by omega)
 rw [aaN]
 unfold IX
 rw [mA (by omega),eD (by omega),Option.bind_some]
 simp only
 rw [fl (by rw [dk]; rfl),Option.bind_some,List.tail_cons]
 simp only
 cases l with
 | nil=>
  rw [GE.u6,GE.gB,List.nil_append,bf]
  unfold pC
  rw [dE (by rw [dk]; rfl),Option.bind_some]
  simp
 | cons e l=>
  rw [GE.ix] at hd
  rw [GE.gB,aD] at hm ⊢
  rw [GE.u6,List.append_assoc]
  simp only [List.length_cons] at h6
  have qc:Bw 0 (GE.Gi l++(5,[41])::r):=by
   cases l with
   | nil=>rw [GE.Gi]; exact pK 0 (by omega) r
   | cons e2 l=>rw [GE.Gi]; exact Bx _
  have hlen:l.length<(e.wd++(GE.Gi l++(5,[41])::r)).length:=by
   have:∀l:List GE,l.length≤(GE.Gi l).length:=by
    intro l
    induction l with
    | nil=>simp
    | cons a l ih=>rw [GE.Gi]; simp only [List.length_cons,List.length_append]; omega
   have:=this l
   simp only [List.length_append,List.length_cons]
   omega
  unfold pC
  have c0p:=abh (x:=[41]) (r:=GE.Gi l++(5,[41])::r) (show e.ok from by rw [GE.qf] at ho; exact ho.1) (.inl rfl)
  rw [bP c0p,Option.bind_some]
  simp only [cond_false]
  have lM:decide ((Nd.mk 24 0 x 0 []).cu.length>0)=false:=rfl
  have lN:decide ((Nd.mk 24 0 x 0 []).cu.length≥6)=false:=rfl
  rw [lM,lN]
  simp only [cond_false,Option.bind_some]
  rw [mW (hl e (by simp)) g 0 (d+1) (m+1) _ (by omega) (by omega) (by omega) qc,Option.bind_some]
  simp only
  have:=GU (f:=g) (d:=d+1) (by omega) (.mk 24 0 x 0 []) r l _ [e.nd] (m+1+e.nd.cI) (fun y hy=>hl y (by simp [hy])) (by omega) hlen (by simp) (by simp; omega) (by omega)
  rw [show (Nd.mk 24 0 x 0 []).ea e.nd=(Nd.mk 24 0 x 0 []).bN [e.nd] from rfl,this]
  simp only [List.cons_append,List.nil_append,Nd.bN]
  congr 3
  omega
mutual
theorem p6:∀e:GE,e.ok→UP e
 | .int w,_=>fun f d m r hf hd hm hr=>by
  obtain ⟨g,rfl,hg⟩:=cZ hf (by rw [GE.dep] at hd; omega)
  rw [GE.nd,bd,bf] at hm ⊢
  rw [k_,GE.wd]
  refine pF (y:=((.mk 20 0 [] (fG w:Nat) [],true),r,m+1)) _ FL FL ?_ rfl
  rw [List.cons_append,List.nil_append]
  exact mC (by omega)
 | .tc w,_=>fun f d m r hf hd hm hr=>by
  obtain ⟨g,rfl,hg⟩:=cZ hf (by rw [GE.dep] at hd; omega)
  have hc:(lv w).cI=1:=by rw [lv,bd,bf]
  rw [GE.nd,hc] at hm ⊢
  rw [k_,GE.wd]
  refine pF (y:=((lv w,true),r,m+1)) _ (by simp [mB]) (by simp [mB]) ?_ rfl
  rw [List.cons_append,List.nil_append]
  exact mC (by omega)
 | .bool b,_=>fun f d m r hf hd hm hr=>by
  obtain ⟨g,rfl,hg⟩:=cZ hf (by rw [GE.dep] at hd; omega)
  rw [GE.nd,bd,bf] at hm ⊢
  rw [k_,GE.wd,List.cons_append,List.nil_append]
  cases b with
  | true=>
   refine pF (y:=((.mk 22 0 [] 1 [],true),r,m+1)) _ (by rw [dP]; rfl) (by rw [dP]; rfl) ?_ rfl
   exact mC (by omega)
  | false=>
   refine pF (y:=((.mk 22 0 [] 0 [],true),r,m+1)) _ (by rw [dP]; rfl) (by rw [dP]; rfl) ?_ rfl
   exact mC (by omega)
 | .var x,_=>fun f d m r hf hd hm hr=>by
  obtain ⟨g,rfl,hg⟩:=cZ hf (by rw [GE.dep] at hd; omega)
  rw [GE.nd,bd,bf] at hm ⊢
  rw [k_,GE.wd,List.cons_append,List.nil_append]
  exact Mu _ hr (by omega)
 | .call x l,h=>fun f d m r hf hd hm hr=>by
  rw [GE.ok] at h
  rw [GE.dep] at hd
  obtain ⟨g,rfl,hg⟩:=cZ hf (by omega)
  rw [GE.nd,bd] at hm ⊢
  rw [k_,GE.wd,List.cons_append,List.cons_append,List.append_assoc,I0 _ (by rw [dk]; rfl)]
  have:=M3 (x:=x) h.2 (MQ l h.2) h.1 g d m r (by omega) (by omega) (by omega)
  rw [List.cons_append,List.nil_append,this]
  congr 3
  omega
 | .un s e,h=>fun f d m r hf hd hm hr=>by
  rw [GE.ok] at h
  rw [GE.dep] at hd
  obtain ⟨g,rfl,hg⟩:=cZ hf (by omega)
  have hc:((GE.un s e).nd).cI=1+e.nd.cI:=by rw [GE.nd,bd,aD,bf]; omega
  rw [hc] at hm ⊢
  have hu:=p6 e h.2 g (d+1) m r (by omega) (by omega) (by omega) hr
  have hun:sUn (sF g) s d (e.wd++r) m=some (.mk 25 0 s 0 [e.nd],r,m+(1+e.nd.cI)):=by
   unfold sUn
   rw [mA (by omega),hu,Option.bind_some]
   simp only
   rw [eD (by omega)]
   congr 3
   omega
  rw [k_,GE.wd,GE.nd,List.cons_append]
  unfold kE
  rcases h.1 with rfl | rfl
  ·rw [dE (by rw [dk]; rfl),Option.bind_some]
   simp only [cond_true,List.tail_cons]
   exact hun
  ·rw [bP (by rw [dk]; rfl),Option.bind_some]
   simp only [cond_false]
   rw [dE (by rw [dk]; rfl),Option.bind_some]
   simp only [cond_true,List.tail_cons]
   exact hun
 | .bin s a b,h=>fun f d m r hf hd hm hr=>by
  rw [GE.ok] at h
  obtain ⟨hs,ZE,ha,hb⟩:=h
  rw [GE.dep] at hd
  obtain ⟨g,rfl,hg⟩:=cZ hf (by omega)
  obtain ⟨q,rfl,hq⟩:=cZ hg (by omega)
  have hc:((GE.bin s a b).nd).cI=1+a.nd.cI+b.nd.cI:=by rw [GE.nd,bd,aD,aD,bf]; omega
  rw [hc] at hm ⊢
  have h1:=p6 a ha q (d+1) m ((5,s)::(b.wd++(5,[41])::r)) (by omega) (by omega) (by omega) (by rw [dk]; exact ZE)
  have h2:=mW (p6 b hb) q (gZ s) (d+1) (m+a.nd.cI) ((5,[41])::r) (by omega) (by omega) (by omega) (pK _ (by omega) r)
  have hlen:((5,s)::(b.wd++(5,[41])::r):List Wd).length+1=((b.wd++(5,[41])::r:List Wd).length+1)+1:=rfl
  have hex:(sF (q+1)).expr 0 d (a.wd++(5,s)::(b.wd++(5,[41])::r)) m=some (.mk 26 0 s 0 [a.nd,b.nd],(5,[41])::r,m+(1+a.nd.cI+b.nd.cI)):=by
   rw [Oh]
   unfold DZ
   rw [mA (by omega),h1,Option.bind_some]
   simp only [hlen]
   rw [Td hs,h2,Option.bind_some]
   simp only
   rw [eD (by omega),Option.bind_some]
   simp only
   have:(b.wd++(5,[41])::r:List Wd).length+1=((b.wd++(5,[41])::r:List Wd).length)+1:=rfl
   rw [IZ (by rw [Ba]; omega)]
   congr 3
   omega
  rw [k_,GE.wd,GE.nd]
  simp only [List.cons_append,List.append_assoc,List.nil_append]
  unfold kE
  rw [bP (by rw [dk]; rfl),Option.bind_some]
  simp only [cond_false]
  rw [bP (by rw [dk]; rfl),Option.bind_some]
  simp only [cond_false]
  rw [Tf rfl rfl,Option.bind_some]
  simp only [cond_false]
  rw [bP (by rw [dk]; rfl),Option.bind_some]
  simp only [cond_false]
  rw [bP (by rw [dk]; rfl),Option.bind_some]
  simp only [cond_false]
  rw [dE (by rw [dk]; rfl),Option.bind_some]
  simp only [cond_true,List.tail_cons]
  rw [hex,Option.bind_some]
  simp only
  rw [fl (by rw [dk]; rfl),Option.bind_some]
  rfl
 | .conv t e,h=>fun f d m r hf hd hm hr=>by
  rw [GE.ok] at h
  rw [GE.dep] at hd
  obtain ⟨g,rfl,hg⟩:=cZ hf (by omega)
  have hc:((GE.conv t e).nd).cI=1+e.nd.cI:=by rw [GE.nd,bd,aD,bf]; omega
  rw [hc] at hm ⊢
  have h2:=mW (p6 e h.2) g 0 d m ((5,[41])::r) (by omega) (by omega) (by omega) (pK _ (by omega) r)
  have hcv:DY (sF g) t d ((5,[40])::(e.wd++(5,[41])::r)) m=some (.mk 27 t [] 0 [e.nd],r,m+(1+e.nd.cI)):=by
   unfold DY
   rw [fl (by rw [dk]; rfl),Option.bind_some,List.tail_cons]
   simp only
   rw [h2,Option.bind_some]
   simp only
   rw [eD (by omega),Option.bind_some]
   simp only
   rw [fl (by rw [dk]; rfl),Option.bind_some]
   simp only [List.tail_cons]
   congr 3
   omega
  rw [k_,GE.wd,GE.nd]
  simp only [List.cons_append,List.append_assoc,List.nil_append]
  unfold kE
  rcases h.1 with rfl | rfl
  ·rw [if_pos rfl]
   rw [bP (by rw [dP]; rfl),Option.bind_some]
   simp only [cond_false]
   rw [bP (by rw [dP]; rfl),Option.bind_some]
   simp only [cond_false]
   rw [D3 rfl rfl,Option.bind_some]
   simp only [cond_false]
   rw [dE (by rw [dP]; rfl),Option.bind_some]
   simp only [cond_true,List.tail_cons]
   exact hcv
  ·rw [if_neg (by decide)]
   rw [bP (by rw [dP]; rfl),Option.bind_some]
   simp only [cond_false]
   rw [bP (by rw [dP]; rfl),Option.bind_some]
   simp only [cond_false]
   rw [D3 rfl rfl,Option.bind_some]
   simp only [cond_false]
   rw [bP (by rw [dP]; rfl),Option.bind_some]
   simp only [cond_false]
   rw [dE (by rw [dP]; rfl),Option.bind_some]
   simp only [cond_true,List.tail_cons]
   exact hcv
theorem MQ:∀l:List GE,GE.qf l→∀e∈l,UP e
 | [],_,e,h=>by cases h
 | x::l,h,e,he=>by
  rw [GE.qf] at h
  rcases List.mem_cons.1 he with hq | he
  ·rw [hq]; exact p6 x h.1
  ·exact MQ l h.2 e he
end
end
end Go.Proofs.YtpklkpkfgmoghaaGreatDoor.Zz
namespace Go.Proofs.YtpklkpkfgmoghaaGreatDoor.Zz
noncomputable section
mutual
def GS.nd:GS→Nd
 | .mL x e=>.mk 7 0 x 0 [e.nd]
 | .rQ x e=>.mk 8 0 x 0 [e.nd]
 | .Gc e l=>.mk 9 0 [] 0 [e.nd,.mk 6 0 [] 0 (GS.gB l)]
 | .Gb e l r=>.mk 9 0 [] 0 [e.nd,.mk 6 0 [] 0 (GS.gB l),.mk 6 0 [] 0 (GS.gB r)]
 | .p8 e l=>.mk 10 0 [] 0 [e.nd,.mk 6 0 [] 0 (GS.gB l)]
 | .ret e=>.mk 11 0 [] 0 [e.nd]
 | .lq e=>.mk 12 0 [] 0 [e.nd]
 | .skip=>.mk 14 0 [] 0 []
 | .Fa x l=>.mk 13 0 [] 0 [.mk 24 0 x 0 (GE.gB l)]
def GS.gB:List GS→List Nd
 | []=>[]
 | s::l=>s.nd::GS.gB l
end
mutual
def GS.wd:GS→List Wd
 | .mL x e=>(1,x)::(5,[58,61])::(e.wd++[(5,[59])])
 | .rQ x e=>(1,x)::(5,[61])::(e.wd++[(5,[59])])
 | .Gc e l=>(4,KO)::(e.wd++(5,[123])::(GS.u6 l++[(5,[125])]))
 | .Gb e l r=>(4,KO)::(e.wd++(5,[123])::(GS.u6 l++(5,[125])::(4,nH)::(5,[123])::(GS.u6 r++[(5,[125])])))
 | .p8 e l=>(4,KF)::(e.wd++(5,[123])::(GS.u6 l++[(5,[125])]))
 | .ret e=>(4,nI)::(e.wd++[(5,[59])])
 | .lq e=>(4,nG)::(e.wd++[(5,[59])])
 | .skip=>[(4,EC),(5,[59])]
 | .Fa x l=>(1,x)::(5,[40])::(GE.u6 l++[(5,[41]),(5,[59])])
def GS.u6:List GS→List Wd
 | []=>[]
 | s::l=>s.wd++GS.u6 l
end
mutual
def GS.dep:GS→Nat
 | .mL _ e=>1+e.dep
 | .rQ _ e=>1+e.dep
 | .Gc e l=>max (2+e.dep) (2+GS.ix l)
 | .Gb e l r=>max (2+e.dep) (max (2+GS.ix l) (2+GS.ix r))
 | .p8 e l=>max (1+e.dep) (1+GS.ix l)
 | .ret e=>1+e.dep
 | .lq e=>1+e.dep
 | .skip=>0
 | .Fa _ l=>2+GE.ix l
def GS.ix:List GS→Nat
 | []=>0
 | s::l=>max s.dep (GS.ix l)
end
mutual
def GS.ok:GS→Prop
 | .mL _ e=>e.ok
 | .rQ _ e=>e.ok
 | .Gc e l=>e.ok∧l.length≤32∧GS.qf l
 | .Gb e l r=>e.ok∧(l.length≤32∧GS.qf l)∧r.length≤32∧GS.qf r
 | .p8 e l=>e.ok∧l.length≤32∧GS.qf l
 | .ret e=>e.ok
 | .lq e=>e.ok
 | .skip=>True
 | .Fa _ l=>l.length≤6∧GE.qf l
def GS.qf:List GS→Prop
 | []=>True
 | s::l=>s.ok∧GS.qf l
end
theorem v_ (r:List Wd):Bw 0 ((5,[123])::r):=⟨rfl,rfl⟩
theorem Tl (r:List Wd):Bw 0 ((5,[59])::r):=⟨rfl,rfl⟩
theorem NB (s:GS) (r:List Wd):mB [125] (s.wd++r)=false∧mB nH (s.wd++r)=false:=by
 cases s<;>rw [GS.wd]<;>simp only [List.cons_append]<;>first | exact ⟨eo,eo⟩ | exact ⟨rfl,rfl⟩
def SP (s:GS):Prop:=∀(f:Nat) (d m:Int) (r:List Wd),82 - 2*d≤f→d+s.dep≤40→m+s.nd.cI≤2000→mB nH r=false→(sF f).stmt d (s.wd++r) m=some (s.nd,r,m+s.nd.cI)
theorem Yx:∀(l:List GS) (r:List Wd),mB nH r=false→mB nH (GS.u6 l++r)=false
 | [],r,h=>by rw [GS.u6]; exact h
 | s::l,r,h=>by rw [GS.u6,List.append_assoc]; exact (NB s _).2
theorem RD:∀l:List GS,l.length≤(GS.u6 l).length
 | []=>by simp
 | s::l=>by
  have:=RD l
  have h0:0<s.wd.length:=by cases s<;>rw [GS.wd]<;>simp
  rw [GS.u6,List.length_append,List.length_cons]
  omega
theorem Ct {f:Nat} {d:Int} (hf:82 - 2*d≤f) (n:Nd) (r:List Wd):∀(l:List GS) (j:Nat) (ks:List Nd) (m:Int),(∀s∈l,SP s)→d+GS.ix l≤40→l.length<j→ks.length+l.length≤32→m+Nd.eA (GS.gB l)≤2000→
  pB (sF f) d j (n.bN ks) (GS.u6 l++(5,[125])::r) m=some (n.bN (ks++GS.gB l),r,m+Nd.eA (GS.gB l))
 | [],j+1,ks,m,hl,hd,hj,h6,hm=>by
  rw [GS.u6,GS.gB,List.nil_append,bf,List.append_nil]
  unfold pB
  rw [dE (by rw [dk]; rfl),Option.bind_some]
  simp
 | s::l,j+1,ks,m,hl,hd,hj,h6,hm=>by
  rw [GS.ix] at hd
  rw [GS.gB,aD] at hm ⊢
  rw [GS.u6,List.append_assoc]
  simp only [List.length_cons] at hj h6
  unfold pB
  rw [bP (NB s _).1,Option.bind_some]
  simp only [cond_false]
  have lN:decide ((n.bN ks).cu.length≥32)=false:=by rw [j5]; simp; omega
  rw [lN]
  simp only [cond_false]
  rw [hl s (by simp) f d m _ hf (by omega) (by omega) (Yx l _ (by rw [dk]; rfl)),Option.bind_some]
  simp only
  rw [pg,Ct hf n r l j (ks++[s.nd]) (m+s.nd.cI) (fun x hx=>hl x (by simp [hx])) (by omega) (by omega) (by simp; omega) (by omega)]
  simp only [List.append_assoc,List.cons_append,List.nil_append]
  congr 3
  omega
theorem n_ {l:List GS} (hl:∀s∈l,SP s) (h6:l.length≤32) (f:Nat) (d m:Int) (r:List Wd) (hf:81 - 2*d≤f) (hd:d+1+GS.ix l≤40) (hm:m+1+Nd.eA (GS.gB l)≤2000):
  (sF f).block d ((5,[123])::(GS.u6 l++(5,[125])::r)) m=some (.mk 6 0 [] 0 (GS.gB l),r,m+1+Nd.eA (GS.gB l)):=by
 obtain ⟨g,rfl,hg⟩:=cZ hf (by omega)
 rw [Wx]
 unfold Bf
 rw [mA (by omega),fl (by rw [dk]; rfl),Option.bind_some,List.tail_cons]
 simp only
 rw [eD (by omega),Option.bind_some]
 simp only
 have:=Ct (f:=g) (d:=d+1) (by omega) (.mk 6 0 [] 0 []) r l ((GS.u6 l++(5,[125])::r).length+1) [] (m+1) hl (by omega) (by have:=RD l; rw [List.length_append]; omega) (by simpa using h6) hm
 rw [show (Nd.mk 6 0 [] 0 []).bN []=Nd.mk 6 0 [] 0 [] from rfl] at this
 rw [this]
 rfl
theorem sj {e:GE} (h:UP e) (k:Int) (x:List UInt8) (f:Nat) (d m:Int) (r:List Wd) (hf:81 - 2*d≤f) (hd:d+1+e.dep≤40) (hm:m+1+e.nd.cI≤2000):nq (sF f) k x d (e.wd++(5,[59])::r) m=some (.mk k 0 x 0 [e.nd],r,m+1+e.nd.cI):=by
 unfold nq
 rw [eD (by omega),Option.bind_some]
 simp only
 rw [mW h f 0 d (m+1) _ hf hd hm (Tl r),Option.bind_some]
 simp only
 rw [fl (by rw [dk]; rfl),Option.bind_some]
 rfl
mutual
theorem ajp:∀s:GS,s.ok→SP s
 | .mL x e,h=>fun f d m r hf hd hm hr=>by
  rw [GS.ok] at h
  rw [GS.dep] at hd
  obtain ⟨g,rfl,hg⟩:=cZ hf (by omega)
  have hc:((GS.mL x e).nd).cI=1+e.nd.cI:=by rw [GS.nd,bd,aD,bf]; omega
  rw [hc] at hm ⊢
  rw [lS,GS.wd,GS.nd]
  simp only [List.cons_append,List.append_assoc,List.nil_append]
  unfold o7
  iterate 5
   rw [bP eo,Option.bind_some]
   simp only [cond_false]
  rw [iw,Option.bind_some]
  simp only
  rw [dE (by rw [dk]; rfl),Option.bind_some]
  simp only [cond_true,List.tail_cons]
  rw [sj (p6 e h) 7 x g d m r (by omega) (by omega) (by omega)]
  congr 3
  omega
 | .rQ x e,h=>fun f d m r hf hd hm hr=>by
  rw [GS.ok] at h
  rw [GS.dep] at hd
  obtain ⟨g,rfl,hg⟩:=cZ hf (by omega)
  have hc:((GS.rQ x e).nd).cI=1+e.nd.cI:=by rw [GS.nd,bd,aD,bf]; omega
  rw [hc] at hm ⊢
  rw [lS,GS.wd,GS.nd]
  simp only [List.cons_append,List.append_assoc,List.nil_append]
  unfold o7
  iterate 5
   rw [bP eo,Option.bind_some]
   simp only [cond_false]
  rw [iw,Option.bind_some]
  simp only
  rw [bP (by rw [dk]; rfl),Option.bind_some]
  simp only [cond_false]
  rw [dE (by rw [dk]; rfl),Option.bind_some]
  simp only [cond_true,List.tail_cons]
  rw [sj (p6 e h) 8 x g d m r (by omega) (by omega) (by omega)]
  congr 3
  omega
 | .Gc e l,h=>fun f d m r hf hd hm hr=>by
  rw [GS.ok] at h
  rw [GS.dep] at hd
  obtain ⟨g,rfl,hg⟩:=cZ hf (by omega)
  obtain ⟨q,rfl,hq⟩:=cZ hg (by omega)
  have hc:((GS.Gc e l).nd).cI=2+e.nd.cI+Nd.eA (GS.gB l):=by rw [GS.nd,bd,aD,aD,bf,bd]; omega
  rw [hc] at hm ⊢
  rw [lS,GS.wd,GS.nd]
  simp only [List.cons_append,List.append_assoc,List.nil_append]
  unfold o7
  rw [dE (by rw [dP]; rfl),Option.bind_some]
  simp only [cond_true,List.tail_cons]
  rw [D2]
  unfold se
  rw [mA (by omega),eD (by omega),Option.bind_some]
  simp only
  rw [mW (p6 e h.1) q 0 (d+1) (m+1) _ (by omega) (by omega) (by omega) (v_ _),Option.bind_some]
  simp only
  rw [n_ (tC l h.2.2) h.2.1 q (d+1) (m+1+e.nd.cI) r (by omega) (by omega) (by omega),Option.bind_some]
  simp only
  rw [bP hr,Option.bind_some]
  simp only [Bool.not_false,cond_true,Nd.bN]
  congr 3
  omega
 | .Gb e l l2,h=>fun f d m r hf hd hm hr=>by
  rw [GS.ok] at h
  rw [GS.dep] at hd
  obtain ⟨g,rfl,hg⟩:=cZ hf (by omega)
  obtain ⟨q,rfl,hq⟩:=cZ hg (by omega)
  have hc:((GS.Gb e l l2).nd).cI=3+e.nd.cI+Nd.eA (GS.gB l)+Nd.eA (GS.gB l2):=by rw [GS.nd,bd,aD,aD,aD,bf,bd,bd]; omega
  rw [hc] at hm ⊢
  rw [lS,GS.wd,GS.nd]
  simp only [List.cons_append,List.append_assoc,List.nil_append]
  unfold o7
  rw [dE (by rw [dP]; rfl),Option.bind_some]
  simp only [cond_true,List.tail_cons]
  rw [D2]
  unfold se
  rw [mA (by omega),eD (by omega),Option.bind_some]
  simp only
  rw [mW (p6 e h.1) q 0 (d+1) (m+1) _ (by omega) (by omega) (by omega) (v_ _),Option.bind_some]
  simp only
  rw [n_ (tC l h.2.1.2) h.2.1.1 q (d+1) (m+1+e.nd.cI) _ (by omega) (by omega) (by omega),Option.bind_some]
  simp only
  rw [dE (by rw [dP]; rfl),Option.bind_some]
  simp only [Bool.not_true,cond_false,List.tail_cons]
  rw [bP (by rw [dk]; rfl),Option.bind_some]
  simp only [cond_false]
  rw [n_ (tC l2 h.2.2.2) h.2.2.1 q (d+1) (m+1+e.nd.cI+1+Nd.eA (GS.gB l)) r (by omega) (by omega) (by omega),Option.bind_some]
  simp only [Nd.bN,Nd.ea,List.cons_append,List.nil_append]
  congr 3
  omega
 | .p8 e l,h=>fun f d m r hf hd hm hr=>by
  rw [GS.ok] at h
  rw [GS.dep] at hd
  obtain ⟨g,rfl,hg⟩:=cZ hf (by omega)
  have hc:((GS.p8 e l).nd).cI=2+e.nd.cI+Nd.eA (GS.gB l):=by rw [GS.nd,bd,aD,aD,bf,bd]; omega
  rw [hc] at hm ⊢
  rw [lS,GS.wd,GS.nd]
  simp only [List.cons_append,List.append_assoc,List.nil_append]
  unfold o7
  rw [bP (by rw [dP]; rfl),Option.bind_some]
  simp only [cond_false]
  rw [dE (by rw [dP]; rfl),Option.bind_some]
  simp only [cond_true,List.tail_cons]
  rw [eD (by omega),Option.bind_some]
  simp only
  rw [mW (p6 e h.1) g 0 d (m+1) _ (by omega) (by omega) (by omega) (v_ _),Option.bind_some]
  simp only
  rw [n_ (tC l h.2.2) h.2.1 g d (m+1+e.nd.cI) r (by omega) (by omega) (by omega),Option.bind_some]
  simp only [Nd.bN]
  congr 3
  omega
 | .ret e,h=>fun f d m r hf hd hm hr=>by
  rw [GS.ok] at h
  rw [GS.dep] at hd
  obtain ⟨g,rfl,hg⟩:=cZ hf (by omega)
  have hc:((GS.ret e).nd).cI=1+e.nd.cI:=by rw [GS.nd,bd,aD,bf]; omega
  rw [hc] at hm ⊢
  rw [lS,GS.wd,GS.nd]
  simp only [List.cons_append,List.append_assoc,List.nil_append]
  unfold o7
  iterate 2
   rw [bP (by rw [dP]; rfl),Option.bind_some]
   simp only [cond_false]
  rw [dE (by rw [dP]; rfl),Option.bind_some]
  simp only [cond_true,List.tail_cons]
  rw [sj (p6 e h) 11 [] g d m r (by omega) (by omega) (by omega)]
  congr 3
  omega
 | .lq e,h=>fun f d m r hf hd hm hr=>by
  rw [GS.ok] at h
  rw [GS.dep] at hd
  obtain ⟨g,rfl,hg⟩:=cZ hf (by omega)
  have hc:((GS.lq e).nd).cI=1+e.nd.cI:=by rw [GS.nd,bd,aD,bf]; omega
  rw [hc] at hm ⊢
  rw [lS,GS.wd,GS.nd]
  simp only [List.cons_append,List.append_assoc,List.nil_append]
  unfold o7
  iterate 3
   rw [bP (by rw [dP]; rfl),Option.bind_some]
   simp only [cond_false]
  rw [dE (by rw [dP]; rfl),Option.bind_some]
  simp only [cond_true,List.tail_cons]
  rw [sj (p6 e h) 12 [] g d m r (by omega) (by omega) (by omega)]
  congr 3
  omega
 | .skip,h=>fun f d m r hf hd hm hr=>by
  rw [GS.dep] at hd
  obtain ⟨g,rfl,hg⟩:=cZ hf (by omega)
  rw [GS.nd,bd,bf] at hm ⊢
  rw [lS,GS.wd]
  simp only [List.cons_append,List.append_assoc,List.nil_append]
  unfold o7
  iterate 4
   rw [bP (by rw [dP]; rfl),Option.bind_some]
   simp only [cond_false]
  rw [dE (by rw [dP]; rfl),Option.bind_some]
  simp only [cond_true,List.tail_cons]
  rw [fl (by rw [dk]; rfl),Option.bind_some]
  simp only [List.tail_cons]
  exact eD (by omega)
 | .Fa x l,h=>fun f d m r hf hd hm hr=>by
  rw [GS.ok] at h
  rw [GS.dep] at hd
  obtain ⟨g,rfl,hg⟩:=cZ hf (by omega)
  have hc:((GS.Fa x l).nd).cI=2+Nd.eA (GE.gB l):=by rw [GS.nd,bd,aD,bf,bd]; omega
  rw [hc] at hm ⊢
  rw [lS,GS.wd,GS.nd]
  simp only [List.cons_append,List.append_assoc,List.nil_append]
  unfold o7
  iterate 5
   rw [bP eo,Option.bind_some]
   simp only [cond_false]
  rw [iw,Option.bind_some]
  simp only
  iterate 2
   rw [bP (by rw [dk]; rfl),Option.bind_some]
   simp only [cond_false]
  rw [eD (by omega),Option.bind_some]
  simp only
  rw [M3 h.2 (MQ l h.2) h.1 g d (m+1) ((5,[59])::r) (by omega) (by omega) (by omega),Option.bind_some]
  simp only
  rw [fl (by rw [dk]; rfl),Option.bind_some]
  simp only [List.tail_cons,Nd.bN]
  congr 3
  omega
theorem tC:∀l:List GS,GS.qf l→∀s∈l,SP s
 | [],_,e,h=>by cases h
 | x::l,h,e,he=>by
  rw [GS.qf] at h
  rcases List.mem_cons.1 he with hq | he
  ·rw [hq]; exact ajp x h.1
  ·exact tC l h.2 e he
end
end
end Go.Proofs.YtpklkpkfgmoghaaGreatDoor.Zz
namespace Go.Proofs.YtpklkpkfgmoghaaGreatDoor.Zz
noncomputable section
inductive GD where
 | var (x:List UInt8) (t:Int) (e:GE)
 | func (x:List UInt8) (ps:List (List UInt8×Int)) (t:Int) (l:List GS)
 | test (x:List UInt8) (l:List GS)
def jE (t:Int):List UInt8:=if t=1 then pS else if t=2 then ib else BN
def mr (p:List UInt8×Int):Nd:=.mk 5 p.2 p.1 0 []
def GD.nd:GD→Nd
 | .var x t e=>.mk 2 t x 0 [e.nd]
 | .func x ps t l=>.mk 3 t x 0 (ps.map mr++[.mk 6 0 [] 0 (GS.gB l)])
 | .test x l=>.mk 4 0 x 0 [.mk 6 0 [] 0 (GS.gB l)]
def FG:List (List UInt8×Int)→List Wd
 | []=>[]
 | p::l=>(5,[44])::(1,p.1)::(4,jE p.2)::FG l
def Cc:List (List UInt8×Int)→List Wd
 | []=>[]
 | p::l=>(1,p.1)::(4,jE p.2)::FG l
def GD.wd:GD→List Wd
 | .var x t e=>(4,mR)::(1,x)::(4,jE t)::(5,[61])::(e.wd++[(5,[59])])
 | .func x ps t l=>(4,uZ)::(1,x)::(5,[40])::(Cc ps++(5,[41])::(4,jE t)::(5,[123])::(GS.u6 l++[(5,[125])]))
 | .test x l=>(4,u5)::(1,x)::(5,[123])::(GS.u6 l++[(5,[125])])
def GE.lit:GE→Prop
 | .int _=>True
 | .tc _=>True
 | .bool _=>True
 | _=>False
def MM (t:Int):Prop:=t=1∨t=2∨t=3
def GD.ok:GD→Prop
 | .var _ t e=>MM t∧e.lit
 | .func _ ps t l=>ps.length≤6∧(∀p∈ps,MM p.2)∧MM t∧l.length≤32∧GS.qf l∧GS.ix l≤39
 | .test _ l=>l.length≤32∧GS.qf l∧GS.ix l≤39
def GD.isVar:GD→Bool
 | .var .. =>true
 | _=>false
theorem uG {t:Int} (h:MM t) (r:List Wd) (m:Int):Mt ((4,jE t)::r) m=some (t,r,m):=by
 unfold Mt
 rw [dP,dP,dP]
 rcases h with rfl | rfl | rfl<;>rfl
theorem Bm {e:GE} (h:e.lit) (r:List Wd) (m:Int) (hm:m+1≤2000):jZ (e.wd++r) m=some ((e.nd,true),r,m+1)∧e.nd.cI=1∧mB [45] (e.wd++r)=false:=by
 cases e with
 | int w=>exact ⟨by rw [GE.wd,GE.nd]; exact mC hm,by rw [GE.nd,bd,bf],by rw [GE.wd]; exact FL⟩
 | tc w=>exact ⟨by rw [GE.wd,GE.nd]; exact mC hm,by rw [GE.nd,lv,bd,bf],by rw [GE.wd]; simp [mB]⟩
 | bool b=>cases b<;>exact ⟨by rw [GE.wd,GE.nd]; exact mC hm,by rw [GE.nd,bd,bf],by rw [GE.wd]; rfl⟩
 | var x=>exact h.elim
 | call x l=>exact h.elim
 | un s e=>exact h.elim
 | bin s a b=>exact h.elim
 | conv t e=>exact h.elim
theorem Wz {e:GE} (h:e.lit) (r:List Wd) (m:Int) (hm:m+1≤2000):Wy (e.wd++r) m=some (e.nd,r,m+1):=by
 obtain ⟨h1,h2,h3⟩:=Bm h r m hm
 unfold Wy
 rw [bP h3,Option.bind_some]
 simp only
 rw [h1,Option.bind_some]
 rfl
theorem N1 (n:Nd) (r:List Wd):∀(l:List (List UInt8×Int)) (j:Nat) (ks:List Nd) (m:Int),(∀p∈l,MM p.2)→l.length<j→0<ks.length→ks.length+l.length≤6→m+l.length≤2000→
  kM j (n.bN ks) (FG l++(5,[41])::r) m=some (n.bN (ks++l.map mr),r,m+l.length)
 | [],j+1,ks,m,hl,hj,h0,h6,hm=>by
  rw [FG,List.nil_append,List.map_nil,List.append_nil]
  unfold kM
  rw [dE (by rw [dk]; rfl),Option.bind_some]
  simp
 | p::l,j+1,ks,m,hl,hj,h0,h6,hm=>by
  simp only [List.length_cons] at hj h6 hm
  rw [FG]
  simp only [List.cons_append]
  unfold kM
  rw [bP (by rw [dk]; rfl),Option.bind_some]
  simp only [cond_false]
  have lM:decide ((n.bN ks).cu.length>0)=true:=by rw [j5]; simpa using h0
  have lN:decide ((n.bN ks).cu.length≥6)=false:=by rw [j5]; simp; omega
  rw [lM,lN]
  simp only [cond_true,cond_false]
  rw [fl (by rw [dk]; rfl),Option.bind_some,List.tail_cons]
  simp only
  rw [iw,Option.bind_some]
  simp only
  rw [uG (hl p (by simp)),Option.bind_some]
  simp only
  rw [eD (by omega),Option.bind_some]
  simp only
  rw [pg,N1 n r l j _ (m+1) (fun x hx=>hl x (by simp [hx])) (by omega) (by simp) (by simp; omega) (by omega)]
  simp only [List.append_assoc,List.cons_append,List.nil_append,List.map_cons,List.length_cons,mr]
  congr 3
  omega
theorem Io:∀l:List (List UInt8×Int),l.length≤(FG l).length
 | []=>by simp
 | p::l=>by have:=Io l; rw [FG]; simp only [List.length_cons]; omega
theorem Z5 (x:List UInt8) (r:List Wd) (l:List (List UInt8×Int)) (m:Int) (hl:∀p∈l,MM p.2) (h6:l.length≤6) (hm:m+l.length≤2000):
  kM ((Cc l++(5,[41])::r).length+1) (.mk 3 0 x 0 []) (Cc l++(5,[41])::r) m=some ((Nd.mk 3 0 x 0 []).bN (l.map mr),r,m+l.length):=by
 cases l with
 | nil=>
  rw [Cc,List.nil_append]
  unfold kM
  rw [dE (by rw [dk]; rfl),Option.bind_some]
  simp [Nd.bN]
 | cons p l=>
  simp only [List.length_cons] at h6 hm
  have hlen:l.length<(Cc (p::l)++(5,[41])::r).length:=by
   have:=Io l
   rw [Cc]
   simp only [List.length_append,List.length_cons]
   omega
  generalize (Cc (p::l)++(5,[41])::r).length=J at hlen
  rw [Cc]
  simp only [List.cons_append]
  unfold kM
  rw [bP eo,Option.bind_some]
  have lM:decide ((Nd.mk 3 0 x 0 []).cu.length>0)=false:=rfl
  have lN:decide ((Nd.mk 3 0 x 0 []).cu.length≥6)=false:=rfl
  rw [lM,lN]
  simp only [cond_false,Option.bind_some]
  rw [iw,Option.bind_some]
  simp only
  rw [uG (hl p (by simp)),Option.bind_some]
  simp only
  rw [eD (by omega),Option.bind_some]
  simp only
  have:=N1 (.mk 3 0 x 0 []) r l J [mr p] (m+1) (fun x hx=>hl x (by simp [hx])) hlen (by simp) (by simp; omega) (by omega)
  rw [show (Nd.mk 3 0 x 0 []).ea (.mk 5 p.2 p.1 0 [])=(Nd.mk 3 0 x 0 []).bN [mr p] from rfl,this]
  simp only [List.cons_append,List.nil_append,List.map_cons,List.length_cons]
  congr 3
  omega
theorem zK:∀l:List (List UInt8×Int),Nd.eA (l.map mr)=l.length
 | []=>by rw [List.map_nil,bf]; rfl
 | p::l=>by rw [List.map_cons,aD,zK l,mr,bd,bf,List.length_cons]; omega
theorem Zh {D:GD} (h:D.ok) (f:Nat) (hf:81≤f) (m:Int) (r:List Wd) (hm:m+D.nd.cI≤2000):Bh (sF f) 0 (D.wd++r) m=some (D.nd,r,m+D.nd.cI):=by
 cases D with
 | var x t e=>
  rw [GD.ok] at h
  have hc:((GD.var x t e).nd).cI=1+e.nd.cI:=by rw [GD.nd,bd,aD,bf]; omega
  have h1:=(Bm h.2 [] 0 (by decide)).2.1
  rw [hc] at hm ⊢
  rw [GD.wd,GD.nd]
  simp only [List.cons_append,List.append_assoc,List.nil_append]
  unfold Bh
  rw [dE (by rw [dP]; rfl),Option.bind_some]
  simp only [cond_true,List.tail_cons]
  rw [iw,Option.bind_some]
  simp only
  rw [uG h.1,Option.bind_some]
  simp only
  rw [eD (by omega),Option.bind_some]
  simp only
  rw [fl (by rw [dk]; rfl),Option.bind_some,List.tail_cons]
  simp only
  rw [Wz h.2 _ _ (by omega),Option.bind_some]
  simp only
  rw [fl (by rw [dk]; rfl),Option.bind_some,List.tail_cons]
  simp only [Nd.bN]
  congr 3
  omega
 | func x ps t l=>
  rw [GD.ok] at h
  obtain ⟨h1,h2,h3,h4,h5,h6⟩:=h
  have hc:((GD.func x ps t l).nd).cI=2+ps.length+Nd.eA (GS.gB l):=by rw [GD.nd,bd,jj,zK,aD,bf,bd]; omega
  rw [hc] at hm ⊢
  rw [GD.wd,GD.nd]
  simp only [List.cons_append,List.append_assoc,List.nil_append]
  unfold Bh
  rw [bP (by rw [dP]; rfl),Option.bind_some]
  simp only [cond_false]
  rw [bP (by rw [dP]; rfl),Option.bind_some]
  simp only [cond_false]
  rw [fl (by rw [dP]; rfl),Option.bind_some,List.tail_cons]
  simp only
  rw [iw,Option.bind_some]
  simp only
  rw [eD (by omega),Option.bind_some]
  simp only
  rw [fl (by rw [dk]; rfl),Option.bind_some,List.tail_cons]
  simp only
  rw [Z5 x _ ps (m+1) h2 h1 (by omega),Option.bind_some]
  simp only
  rw [uG h3,Option.bind_some]
  simp only
  rw [n_ (tC l h5) h4 f 0 (m+1+ps.length) r (by omega) (by omega) (by omega),Option.bind_some]
  simp only [Nd.bN,Nd.WE,Nd.ea]
  congr 3
  omega
 | test x l=>
  rw [GD.ok] at h
  have hc:((GD.test x l).nd).cI=2+Nd.eA (GS.gB l):=by rw [GD.nd,bd,aD,bf,bd]; omega
  rw [hc] at hm ⊢
  rw [GD.wd,GD.nd]
  simp only [List.cons_append,List.append_assoc,List.nil_append]
  unfold Bh
  rw [bP (by rw [dP]; rfl),Option.bind_some]
  simp only [cond_false]
  rw [dE (by rw [dP]; rfl),Option.bind_some]
  simp only [cond_true,List.tail_cons]
  rw [iw,Option.bind_some]
  simp only
  rw [eD (by omega),Option.bind_some]
  simp only
  rw [n_ (tC l h.2.1) h.1 f 0 (m+1) r (by omega) (by omega) (by omega),Option.bind_some]
  simp only [Nd.bN]
  congr 3
  omega
def ni:List GD→List Wd
 | []=>[(0,[])]
 | D::l=>D.wd++ni l
def Fk (l:List GD):Nat:=(l.filter GD.isVar).length
def Fh (l:List GD):Nat:=(l.filter fun D=> !D.isVar).length
theorem akp (D:GD) (r:List Wd):pZ (D.wd++r)=4∧mB mR (D.wd++r)=D.isVar:=by
 cases D<;>rw [GD.wd]<;>exact ⟨rfl,rfl⟩
theorem Iz {f:Nat} (hf:81≤f) (n:Nd):∀(l:List GD) (j:Nat) (fs gs:Int) (ks:List Nd) (m:Int),(∀D∈l,D.ok)→l.length<j→gs+Fk l≤16→fs+Fh l≤32→m+Nd.eA (l.map GD.nd)≤2000→
  tA (sF f) 0 j fs gs (n.bN ks) (ni l) m=some (n.bN (ks++l.map GD.nd),[(0,[])],m+Nd.eA (l.map GD.nd))
 | [],j+1,fs,gs,ks,m,hl,hj,h1,h2,hm=>by
  rw [ni,List.map_nil,bf,List.append_nil]
  unfold tA
  simp [pZ]
 | D::l,j+1,fs,gs,ks,m,hl,hj,h1,h2,hm=>by
  rw [List.map_cons,aD] at hm ⊢
  simp only [List.length_cons] at hj
  rw [ni]
  obtain ⟨k1,k2⟩:=akp D (ni l)
  unfold tA
  rw [k1,k2]
  have e1:(Fk (D::l):Int)=(bif D.isVar then 1 else 0)+Fk l:=by
   unfold Fk; rw [List.filter_cons]; cases D.isVar<;>simp<;>omega
  have e2:(Fh (D::l):Int)=(bif D.isVar then 0 else 1)+Fh l:=by
   unfold Fh; rw [List.filter_cons]; cases D.isVar<;>simp<;>omega
  rw [e1] at h1
  rw [e2] at h2
  have c:(decide ((bif D.isVar then gs+1 else gs)>16) || decide ((bif D.isVar then fs else fs+1)>32))=false:=by
   rw [Bool.or_eq_false_iff,decide_eq_false_iff_not,decide_eq_false_iff_not]
   cases hv:D.isVar<;>rw [hv] at h1 h2<;>simp only [cond_true,cond_false] at h1 h2 ⊢ <;>omega
  rw [c,Zh (hl D (by simp)) f hf m (ni l) (by omega),Option.bind_some]
  simp only [cond_false]
  rw [pg,Iz hf n l j _ _ (ks++[D.nd]) (m+D.nd.cI) (fun x hx=>hl x (by simp [hx])) (by omega) (by cases hv:D.isVar<;>rw [hv] at h1<;>simp only [cond_true,cond_false] at h1 ⊢ <;>omega) (by cases hv:D.isVar<;>rw [hv] at h2<;>simp only [cond_true,cond_false] at h2 ⊢ <;>omega) (by omega)]
  simp only [List.append_assoc,List.cons_append,List.nil_append]
  have:((4:Int) != 0)=true:=rfl
  rw [this,cond_true]
  congr 3
  omega
def jg (l:List GD):Nd:=.mk 1 0 [] 0 (l.map GD.nd)
theorem DT:∀l:List GD,l.length<(ni l).length
 | []=>by simp [ni]
 | D::l=>by
  have:=DT l
  have h0:0<D.wd.length:=by cases D<;>rw [GD.wd]<;>simp
  rw [ni,List.length_append,List.length_cons]
  omega
theorem aaa {f:Nat} (hf:81≤f) {l:List GD} (hl:∀D∈l,D.ok) (h1:Fk l≤16) (h2:Fh l≤32) (hm:(jg l).cI≤2000):D5 (sF f) 0 (ni l) 0=some (jg l,([(0,[])]:List Wd),((jg l).cI:Int)):=by
 have hc:(jg l).cI=1+Nd.eA (l.map GD.nd):=by rw [jg,bd]
 rw [hc] at hm ⊢
 unfold D5
 rw [eD (by omega),Option.bind_some]
 simp only
 have:=Iz hf (.mk 1 0 [] 0 []) l ((ni l).length+1) 0 0 [] (0+1) hl (by have:=DT l; omega) (by omega) (by omega) (by omega)
 rw [show (Nd.mk 1 0 [] 0 []).bN []=Nd.mk 1 0 [] 0 [] from rfl] at this
 rw [this]
 simp only [Nd.bN,List.nil_append,jg]
 congr 3
theorem L2 {f:Nat} (hf:81≤f) {l:List GD} {x:List UInt8} (hx:bu x (ni l)) (hlen:x.length≤4096) (hl:∀D∈l,D.ok) (h1:Fk l≤16) (h2:Fh l≤32) (hm:(jg l).cI≤2000):mu f x=some (jg l,0,0):=by
 obtain ⟨e1,e2⟩:=Tt hx hlen
 exact It e1 (by rw [e2]; exact aaa hf hl h1 h2 hm)
end
end Go.Proofs.YtpklkpkfgmoghaaGreatDoor.Zz
namespace Go.Proofs.YtpklkpkfgmoghaaGreatDoor.Zz
noncomputable section
def Bd (r:List UInt8):Prop:=kN ja r=0∧((r.getD 0 0).toNat:Int)≠46
theorem Bd.c {c:UInt8} {r:List UInt8} (h:ja (c.toNat:Int)=false) (h2:(c.toNat:Int)≠46):Bd (c::r):=⟨I4 h,h2⟩
theorem Bd.digit {r:List UInt8} (h:Bd r):kN isDigit r=0:=by
 cases r with
 | nil=>rfl
 | cons c r=>
  have h1:=h.1
  rw [mE] at h1 ⊢
  split at h1
  ·cases h1
  ·rename_i q
   rw [if_neg]
   intro e
   exact q (by rw [ja,e,Bool.or_true])
theorem bu.sign {w r:List UInt8} {ws:List Wd} (hf:ik (w++r) la=some w) (hd:isDigit (((w++r).getD 0 0).toNat:Int)=false) (hl:fL (((w++r).getD 0 0).toNat:Int)=false) (hb:eK (w++r)=0) (hw:w≠[]) (h:bu r ws):bu (w++r) ((5,w)::ws):=by
 refine bu.word 5 w r rfl hb ?_ hw h
 unfold iA
 rw [if_neg (by rw [hd]; simp),if_neg (by rw [hl]; simp),hf]
theorem qq {c:UInt8} {t:List UInt8} (h:isSp c=false) (h2:c≠47):eK (c::t)=0:=by
 rw [kP,if_neg (by rw [h]; simp),if_neg (by rw [DS h2]; simp)]
theorem bu.one {c:UInt8} {r:List UInt8} {ws:List Wd} (hc:c=40∨c=41∨c=123∨c=125∨c=44∨c=59∨c=45) (h:bu r ws):bu (c::r) ((5,[c])::ws):=by
 have e:c::r=[c]++r:=rfl
 rw [e]
 rcases hc with rfl | rfl | rfl | rfl | rfl | rfl | rfl
 all_goals exact bu.sign rfl rfl rfl (qq (by decide) (by decide)) (by simp) h
theorem bu.not {r:List UInt8} {ws:List Wd} (hr:r.getD 0 0≠61) (h:bu r ws):bu (33::r) ((5,[33])::ws):=by
 refine bu.sign (w:=[33]) ?_ rfl rfl (qq (by decide) (by decide)) (by simp) h
 have e:pre ([33]++r) [33,61]=false:=by
  cases r with
  | nil=>rfl
  | cons c t=>
   have hc:c≠61:=hr
   simp [pre,hc]
 have e2:∀x y:UInt8,x≠33→pre ([33]++r) [x,y]=false:=fun x y hx=>by
  cases r with
  | nil=>simp [pre]
  | cons c t=>simp [pre,Ne.symm hx]
 simp only [la,ik]
 rw [e2 58 61 (by decide),e2 60 61 (by decide),e2 62 61 (by decide),e2 61 61 (by decide),e,e2 38 38 (by decide),e2 124 124 (by decide)]
 rfl
def Z3:List (List UInt8):=[[43],[45],[42],[47],[37],[60],[60,61],[62],[62,61],[61,61],[33,61],[38,38],[124,124],[58,61],[61]]
theorem bu.op {w r:List UInt8} {ws:List Wd} (hw:w∈Z3) (h:bu r ws):bu (w++32::r) ((5,w)::ws):=by
 have h:=bu.sp (c:=32) rfl h
 simp only [Z3,List.mem_cons,List.not_mem_nil,or_false] at hw
 rcases hw with rfl | rfl | rfl | rfl | rfl | rfl | rfl | rfl | rfl | rfl | rfl | rfl | rfl | rfl | rfl
 all_goals first
  | exact bu.sign rfl rfl rfl (qq (by decide) (by decide)) (by simp) h
  | exact bu.sign rfl rfl rfl (by rw [List.cons_append,kP,if_neg (by decide),if_neg (by show ¬false=true; simp)]) (by simp) h
def hZ (x:List UInt8):Prop:=∃(c:UInt8) (w:List UInt8),x=c::w∧fL (c.toNat:Int)=true∧(∀y∈w,ja (y.toNat:Int)=true)∧words.contains (c::w)=false∧(c::w).length≤16
theorem bu.nm {x r:List UInt8} {ws:List Wd} (hx:hZ x) (hr:Bd r) (h:bu r ws):bu (x++r) ((1,x)::ws):=by
 obtain ⟨c,w,rfl,h1,h2,h3,h4⟩:=hx
 exact bu.name 1 c w r rfl h1 h2 hr.1 (.inr ⟨h3,rfl,h4⟩) h
theorem bu.kw {x r:List UInt8} {ws:List Wd} (hx:x∈words) (hr:Bd r) (h:bu r ws):bu (x++r) ((4,x)::ws):=by
 simp only [words,List.mem_cons,List.not_mem_nil,or_false] at hx
 rcases hx with rfl | rfl | rfl | rfl | rfl | rfl | rfl | rfl | rfl | rfl | rfl | rfl | rfl | rfl
 all_goals exact bu.name 4 _ _ r rfl rfl (by decide) hr.1 (.inl ⟨rfl,rfl⟩) h
def Dk (w:List UInt8):Prop:=w≠[]∧(∀y∈w,isDigit (y.toNat:Int)=true)∧rP w=true
theorem CG {c:UInt8} (h:isDigit (c.toNat:Int)=true):isSp c=false∧c≠47:=by
 simp only [isDigit,Bool.and_eq_true,decide_eq_true_eq] at h
 refine ⟨?_,?_⟩
 ·simp only [isSp,Bool.or_eq_false_iff,beq_eq_false_iff_ne]; omega
 ·intro e; subst e
  have:(47:UInt8).toNat=47:=rfl
  omega
theorem bu.int {w r:List UInt8} {ws:List Wd} (hw:Dk w) (hr:Bd r) (h:bu r ws):bu (w++r) ((2,w)::ws):=by
 obtain ⟨h0,h1,h2⟩:=hw
 have hs:=uI (p:=isDigit) w r h1 hr.digit
 refine bu.word 2 w r rfl ?_ ?_ h0 h
 ·obtain ⟨c,t,rfl⟩:∃c t,w=c::t:=by
   cases w with
   | nil=>exact absurd rfl h0
   | cons c t=>exact ⟨c,t,rfl⟩
  obtain ⟨a,b⟩:=CG (h1 c (by simp))
  exact qq a b
 ·have hg:isDigit (((w++r).getD 0 0).toNat:Int)=true:=by
   cases w with
   | nil=>exact absurd rfl h0
   | cons c t=>exact h1 c (by simp)
  have hn:(decide (kN isDigit (w++r)<(w++r).length) && (((w++r).getD (kN isDigit (w++r)) 0).toNat:Int)==46)=false:=by
   rw [hs]
   have:(w++r).getD w.length 0=r.getD 0 0:=by rw [List.getD_eq_getElem?_getD,List.getElem?_append_right (Nat.le_refl _),Nat.sub_self,←List.getD_eq_getElem?_getD]
   rw [this,Bool.and_eq_false_iff]
   exact .inr (beq_eq_false_iff_ne.2 hr.2)
  unfold iA
  rw [if_pos hg]
  unfold oy
  rw [hn,if_neg (by simp),hs,List.take_left,h2]
def Hi (w:List UInt8):Prop:=∃A B:List UInt8,w=A++46::B∧A≠[]∧B≠[]∧(∀y∈A,isDigit (y.toNat:Int)=true)∧(∀y∈B,isDigit (y.toNat:Int)=true)∧A.length+B.length≤15
theorem bu.tc {w r:List UInt8} {ws:List Wd} (hw:Hi w) (hr:Bd r) (h:bu r ws):bu (w++r) ((3,w)::ws):=by
 obtain ⟨A,B,rfl,a0,b0,a1,b1,hl⟩:=hw
 have hp:kN isDigit (46::(B++r))=0:=I4 rfl
 have e0:(A++46::B)++r=A++(46::(B++r)):=by simp
 have hs:=uI (p:=isDigit) A (46::(B++r)) a1 hp
 have ZE:=uI (p:=isDigit) B r b1 hr.digit
 refine bu.word 3 _ r rfl ?_ ?_ (by simp) h
 ·rw [e0]
  obtain ⟨c,t,rfl⟩:∃c t,A=c::t:=by
   cases A with
   | nil=>exact absurd rfl a0
   | cons c t=>exact ⟨c,t,rfl⟩
  obtain ⟨a,b⟩:=CG (a1 c (by simp))
  exact qq a b
 ·rw [e0]
  have hg:isDigit (((A++(46::(B++r))).getD 0 0).toNat:Int)=true:=by
   cases A with
   | nil=>exact absurd rfl a0
   | cons c t=>exact a1 c (by simp)
  have hn:(decide (kN isDigit (A++(46::(B++r)))<(A++(46::(B++r))).length) && (((A++(46::(B++r))).getD (kN isDigit (A++(46::(B++r)))) 0).toNat:Int)==46)=true:=by
   rw [hs]
   have:(A++(46::(B++r))).getD A.length 0=46:=by simp [List.getD]
   rw [this,Bool.and_eq_true]
   exact ⟨by simp,rfl⟩
  have hd:(A++(46::(B++r))).drop (A.length+1)=B++r:=by
   rw [←List.drop_drop,List.drop_left]; rfl
  have ht:(A++(46::(B++r))).take (A.length+1+B.length)=A++46::B:=by
   have:A.length+1+B.length=(A++46::B).length:=by simp; omega
   rw [this,←e0,List.take_left]
  have hB:B.length≠0:=fun e=>b0 (List.length_eq_zero_iff.1 e)
  unfold iA
  rw [if_pos hg]
  unfold oy
  rw [hn,if_pos rfl,hs,hd,ZE,ht]
  simp [hB]
  omega
end
end Go.Proofs.YtpklkpkfgmoghaaGreatDoor.Zz
