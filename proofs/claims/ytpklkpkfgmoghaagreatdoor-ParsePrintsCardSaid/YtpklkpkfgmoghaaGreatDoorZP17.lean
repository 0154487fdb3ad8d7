/- Contracts: the small parts of a parser. -/
import Derived.Test.YtpklkpkfgmoghaaGreatDoorZZH
import Derived.Test.YtpklkpkfgmoghaaGreatDoorZZF
set_option linter.unnecessarySimpa false
set_option linter.unusedVariables false
set_option linter.unusedSimpArgs false
set_option maxRecDepth 20000
namespace Go.Proofs.YtpklkpkfgmoghaaGreatDoor.Zz
noncomputable section
def acI:b7:=⟨⟨[],[],[(1,8)],[],[],[]⟩,[(1,[0,1,2,3,4,5,6,7,8,9,10])],[],false⟩
def Zq:dA:=
 sO [oQ (.alloc [(.int .i64 0),(.str []),(.int .i64 0)]) 2]
 (.seq (.fq 3 [oM 0 3,
 oN 3 4,
 oF 0 4 5,
 oL 5 6,
 oM 0 7,
 oN 7 8,
 oF 1 8 9,
 oL 9 10,
 oI 3 6 10 11,
 oJ 3 11 12,
 oS 3 2 12])
 (.ret))
theorem Z0:bE Tryz.prog 36 acI=some (Zq,[.cell 2 (some 3)],13):=by kernel_rfl
def acJ:b7:=⟨⟨[],[(1,1)],[],[],[],[]⟩,[],[],false⟩
def Zr:dA:=
 sO [oP (.cg (kB false)) 4]
 (sO [oM 0 6,
 oC 36 [.t 6] 7,
 oQ (.alloc [(.int .i64 0),(.str []),(.int .i64 0)]) 5,
 oS 3 5 7]
 (sO [oF 1 5 8,
 oL 8 9,
 oM 1 10,
 oE .eql 9 10 11,
 oM 11 12,
 oG (.fieldAddr 0 (.t 5)) 13 12 true true,
 oG (.load none (.t 13)) 14 12 true false,
 oG (.bin .eql (.t 14) (kI 5)) 15 12 true true,
 oG (.cg (.t 15)) 16 12 true true,
 oG (.fieldAddr 0 (.t 5)) 17 16 false true,
 oG (.load none (.t 17)) 18 16 false false,
 oG (.bin .eql (.t 18) (kI 4)) 19 16 false true,
 oG (.pick (.t 16) (kB true) (.t 19)) 20 12 true true,
 oP (.pick (.t 12) (.t 20) (kB false)) 21,
 oM 21 4]
 (.ret)))
theorem Z1:bE Tryz.prog 37 acJ=some (Zr,[.tmp 4],22):=by kernel_rfl
def acK:b7:=⟨⟨[],[(0,1)],[],[],[],[]⟩,[],[],false⟩
def Zs:dA:=
 .ops [oM 0 4,
 oC 36 [.t 4] 5,
 oP (.field 2 none (.t 5)) 6,
 oM 1 7,
 oP (.build [(.int .i64 0),(.int .i64 0)] [(0,1,(.t 6)),(1,1,(.t 7))]) 8,
 oP (.l_ 56 (.t 8)) 9,
 oU (.panic (.t 9))]
theorem Z2:bE Tryz.prog 38 acK=some (Zs,[],10):=by kernel_rfl
def acR:b7:=⟨⟨[],[(1,2)],[],[],[],[]⟩,[],[],false⟩
def Zx:dA:=
 sO [oP (.cg (kB false)) 4]
 (.seq (sO [oM 0 5,
 oM 1 6,
 oC 37 [.t 5,.t 6] 7]
 (.cond (.t 7)
 (sO [oM 0 8,
 oN 8 9,
 oF 1 9 10,
 oL 10 11,
 oH .add 11 1 12,
 oN 8 13,
 oF 1 13 14,
 oS 1 14 12]
 (sO [oP (.cg (kB true)) 4]
 (.ret)))
 (.skip)))
 (sO [oP (.cg (kB false)) 4]
 (.ret)))
theorem Z7:bE Tryz.prog 57 acR=some (Zx,[.tmp 4],15):=by kernel_rfl
def acS:b7:=⟨⟨[],[(1,1),(3,1)],[],[],[],[]⟩,[],[],false⟩
def Zy:dA:=
 sO [oP (.cg (kS [])) 2]
 (sO [oM 0 4,
 oC 36 [.t 4] 5,
 oQ (.alloc [(.int .i64 0),(.str []),(.int .i64 0)]) 3,
 oS 3 3 5]
 (.seq (sO [oF 0 3 6,
 oL 6 7,
 oH .neq 7 1 8]
 (.cond (.t 8)
 (.ops [oM 0 9,
 oC 38 [.t 9,kI 110] 10])
 (.skip)))
 (sO [oM 0 11,
 oN 11 12,
 oF 1 12 13,
 oL 13 14,
 oH .add 14 1 15,
 oN 11 16,
 oF 1 16 17,
 oS 1 17 15]
 (sO [oF 1 3 18,
 oL 18 19,
 oM 19 2]
 (.ret)))))
theorem Z8:bE Tryz.prog 58 acS=some (Zy,[.tmp 2],20):=by kernel_rfl
def acU:b7:=⟨⟨[],[(0,2),(1,1)],[],[],[],[]⟩,[],[],false⟩
def ZB:dA:=
 sO [oM 0 4,
 oM 1 5,
 oC 57 [.t 4,.t 5] 6,
 oP (.un .not (.t 6)) 7]
 (.cond (.t 7)
 (.ops [oM 0 8,
 oC 38 [.t 8,kI 110] 9])
 (.skip))
theorem Z_:bE Tryz.prog 60 acU=some (ZB,[],10):=by kernel_rfl
def bV (l:List Tok) (s:PS):cI:=.cells [.sl (lH l),.int .i64 s.pos,.int .i64 s.cH,.int .i64 s.deep]
structure cB (l:List Tok) (s:PS):Prop where
 YN:0≤s.pos
 Ty:s.pos<l.length
 n0:0≤s.cH
 n1:s.cH≤2000
 d0:0≤s.deep
 d1:s.deep≤40
structure Fv (l:List Tok):Prop where
 len:l.length≤10000
 fin:∀i t,l[i]? =some t→t.1≠0→i+1<l.length
def mN (a e:Int):D:=.iface 56 (.agg [.int .i64 a,.int .i64 e])
def Al (l:List Tok) (s:PS):Prop:=0≤s.pos∧s.pos<l.length
theorem cB.at_ {l:List Tok} {s:PS} (ok:cB l s):Al l s:=⟨ok.YN,ok.Ty⟩
theorem lR {l:List Tok} {s:PS} (ok:Al l s):l[s.pos.toNat]? =some (dQ l s):=by
 obtain ⟨h1,h2⟩:=ok
 rw [dQ,List.getD_eq_getElem?_getD,List.getElem?_eq_getElem (by omega)]
 rfl
theorem Mk {K:D→aa→Prop} {h:aa} {l:List Tok} {s:PS} (ok:Al l s):iC 3 K h (lH l) s.pos=K (.cU (gb (dQ l s).1 (dQ l s).2.1 (dQ l s).2.2) 0) h:=by
 have h1:=ok.1
 have h2:=ok.2
 have:=lE (K:=K) (h:=h) (l:=l) (i:=s.pos) (f:=fun t:Tok=>gb t.1 t.2.1 t.2.2) (sz:=3) fun _=>rfl
 show iC 3 K h (l.map fun t:Tok=>gb t.1 t.2.1 t.2.2) s.pos=_
 rw [this]
 apply propext
 constructor
 ·intro hh; exact hh.2 _ (lR ok)
 ·intro hh
  refine ⟨⟨h1,h2⟩,fun x hx=>?_⟩
  rw [lR ok] at hx
  cases hx
  exact hh
theorem D7 {h:aa} {id:Nat} {o:cI} (e:h.f id=some o):h.set id o=h:=aa.ext fun q=>by
 simp only [aa.dD]
 split
 ·rename_i c; subst c; exact e.symm
 ·rfl
theorem YG (l:List Tok) (s:PS) (id:Nat) (ok:Al l s):aO Tryz.prog 36 [.ptr id 1 0] (aa.emp.set id (bV l s)) fun o h'=>∃d,o=.ret d∧d=.agg (gb (dQ l s).1 (dQ l s).2.1 (dQ l s).2.2)∧h'=aa.emp.set id (bV l s):=by
 refine aO.Lp (bf.ew _) Z0 (by simp) ?_
 have hn:=fun (K:D→aa→Prop) (h:aa)=>Mk (K:=K) (h:=h) ok
 simp (maxSteps:=1000000) only [Zq,bV,fi,gb,hn,aB,seval]
 intro i2 n1 n2
 simp (maxSteps:=1000000) only [n1,n2,fi,gb,hn,aB,seval]
 exact ⟨_,sub_one (by simp [n2]),rfl⟩
def MI (args:List D) (h:aa) (K:D→aa→Prop):Prop:=∃(l:List Tok) (s:PS) (id:Nat),args=[.ptr id 1 0]∧h.f id=some (bV l s)∧Al l s∧K (.agg (gb (dQ l s).1 (dQ l s).2.1 (dQ l s).2.2)) h
theorem KQ (args:List D) (h:aa) (K K':D→aa→Prop) (hk:∀d h,K d h→K' d h) (c:MI args h K):MI args h K':=by
 obtain ⟨l,s,id,a,b,c,d⟩:=c
 exact ⟨l,s,id,a,b,c,hk _ _ d⟩
theorem Q0 (args:List D) (h:aa) (K:D→aa→Prop) (c:MI args h K):aO Tryz.prog 36 args h fun o h'=>∃d,o=.ret d∧K d h':=by
 obtain ⟨l,s,id,rfl,b,c,d⟩:=c
 refine (aO.FX (sub_one b) (YG l s id c)).mono fun o h' ⟨h1,⟨x,e1,e2,e3⟩,e4⟩=>⟨x,e1,?_⟩
 rw [e2,e4,e3,o6 b,D7 b]
 exact d
def tK:bf:=bf.zero.Fy 36 MI KQ
theorem IW:tK.q=bf.zero.q:=rfl
theorem IU:tK.a=bf.zero.a:=rfl
theorem IV (g:FuncId) (args:List D) (h:aa) (K E:D→aa→Prop):tK.c g args h K E=if g=36 then MI args h K else bf.zero.c g args h K E:=rfl
theorem wU:tK.ok Tryz.prog:=bf.qd (bf.ew _) Q0
theorem uM:type_of% (And.intro @IW (And.intro @IU @IV)):=(And.intro @IW (And.intro @IU @IV))
def B2 (args:List D) (h:aa) (K E:D→aa→Prop):Prop:=∃(l:List Tok) (s:PS) (id:Nat) (e:Int),args=[.ptr id 1 0,.int .i64 e]∧h.f id=some (bV l s)∧Al l s∧E (mN (dQ l s).2.2 e) h
theorem FH (args:List D) (h:aa) (K E K' E':D→aa→Prop) (hk:∀d h,K d h→K' d h) (he:∀d h,E d h→E' d h) (c:B2 args h K E):B2 args h K' E':=by
 obtain ⟨l,s,id,e,a,b,c,d⟩:=c
 exact ⟨l,s,id,e,a,b,c,he _ _ d⟩
theorem Mu (args:List D) (h:aa) (K E:D→aa→Prop) (c:B2 args h K E):aO Tryz.prog 38 args h (dn.to K E):=by
 obtain ⟨l,s,id,e,rfl,b,c,d⟩:=c
 refine aO.c8 wU (dc:=cJ.none) (fun _ _=>cJ.eM) (by kernel_rfl) Z2 (by simp) ?_
 rw [dz]
 simp (maxSteps:=1000000) only [Zs,uM,aB,seval]
 refine ⟨l,s,id,rfl,b,c,?_⟩
 simp (maxSteps:=1000000) only [gb,A2,bu,ab,ax,uM,aB,seval]
 exact ⟨h,aa.aS h,d⟩
def tM:bf:=tK.j6 38 B2 FH
theorem I2:tM.q=tK.q:=rfl
theorem I0:tM.a=tK.a:=rfl
theorem I1 (g:FuncId) (args:List D) (h:aa) (K E:D→aa→Prop):tM.c g args h K E=if g=38 then B2 args h K E else tK.c g args h K E:=rfl
theorem OY:tM.ok Tryz.prog:=bf.cD wU Mu
theorem rz:type_of% (And.intro (And.intro @I2 (And.intro @I0 @I1)) @uM):=(And.intro (And.intro @I2 (And.intro @I0 @I1)) @uM)
def cP {α:Type} (sp:PS→PR α) (enc:α→D) (l:List Tok) (s:PS) (id:Nat) (h:aa) (K E:D→aa→Prop):Prop:=
 h.f id=some (bV l s)∧cB l s∧jA (sp s) (fun x s'=>cB l s'→K (enc x) (h.set id (bV l s'))) (fun a e=>∀s',E (mN a e) (h.set id (bV l s')))
theorem eE {α:Type} {sp:PS→PR α} {enc:α→D} {l:List Tok} {s:PS} {id:Nat} {h:aa} {K E K' E':D→aa→Prop} (hk:∀d h,K d h→K' d h) (he:∀d h,E d h→E' d h) (c:cP sp enc l s id h K E):cP sp enc l s id h K' E':=
 ⟨c.1,c.2.1,gI (fun x s' k ok=>hk _ _ (k ok)) (fun a e k s'=>he _ _ (k s')) c.2.2⟩
def ly {α:Type} (enc:α→D) (l:List Tok) (id:Nat) (K0:α→PS→Prop) (E0:Int→Int→Prop) (o:dn) (h':aa):Prop:=
 match o with
 | .ret d=>∃x s',d=enc x∧h'=aa.emp.set id (bV l s')∧K0 x s'
 | .panic d=>∃a e s',d=mN a e∧h'=aa.emp.set id (bV l s')∧E0 a e
theorem ji {α:Type} {sp:PS→PR α} {enc:α→D} {l:List Tok} {s:PS} {id:Nat} {h:aa} {K E:D→aa→Prop} {f:FuncId} {args:List D}
  (abG:cB l s→∀(K0:α→PS→Prop) (E0:Int→Int→Prop),jA (sp s) (fun x s'=>cB l s'→K0 x s') E0→aO Tryz.prog f args (aa.emp.set id (bV l s)) (ly enc l id K0 E0)) (c:cP sp enc l s id h K E):aO Tryz.prog f args h (dn.to K E):=by
 obtain ⟨b,ok,hw⟩:=c
 refine (aO.FX (sub_one b) (abG ok (fun x s'=>K (enc x) (h.set id (bV l s'))) (fun a e=>∀s',E (mN a e) (h.set id (bV l s'))) hw)).mono fun o h' ⟨h1,e1,e4⟩=>?_
 cases o with
 | ret d=>
  obtain ⟨x,s',e2,e3,k⟩:=e1
  show K d h'
  rw [e2,e4,e3,o6 b]
  exact k
 | panic d=>
  obtain ⟨a,e,s',e2,e3,k⟩:=e1
  show E d h'
  rw [e2,e4,e3,o6 b]
  exact k s'
theorem cd {α:Type} {enc:α→D} {l:List Tok} {id:Nat} {K0:α→PS→Prop} {E0:Int→Int→Prop} {h:aa} {d:D} {x:α} {s':PS} {C:Prop} (e:d=enc x) (hid:h.f id=some (bV l s')) (k:K0 x s'):
  (∃h',h'.sub h∧ly enc l id K0 E0 (.ret d) h')∨C:=.inl ⟨_,sub_one hid,x,s',e,rfl,k⟩
theorem fK {α:Type} {enc:α→D} {l:List Tok} {id:Nat} {K0:α→PS→Prop} {E0:Int→Int→Prop} {h:aa} {d:D} {x:α} {s':PS} {C:Prop} (e:d=enc x) (hid:h.f id=some (bV l s')) (k:K0 x s'):
  C∨∃h',h'.sub h∧ly enc l id K0 E0 (.ret d) h':=.inr ⟨_,sub_one hid,x,s',e,rfl,k⟩
theorem ab5 (l:List Tok) (s:PS) (id:Nat) (x:List UInt8) (ok:Al l s):aO Tryz.prog 37 [.ptr id 1 0,.str x] (aa.emp.set id (bV l s)) fun o h'=>∃d,o=.ret d∧d=.bool (lQ l x s)∧h'=aa.emp.set id (bV l s):=by
 refine aO.Lp wU Z1 (by simp) ?_
 simp (maxSteps:=1000000) only [Zr,fi,rz,aB,seval]
 refine ⟨l,s,id,rfl,by simp,ok,?_⟩
 unfold lQ
 generalize dQ l s=t
 obtain ⟨k,y,a⟩:=t
 simp (maxSteps:=1000000) only [gb,fi,rz,aB,seval]
 intro i2 n1 n2
 cases jO:(y==x)<;>cases jQ:(k==5)<;>cases jR:(k==4)
 all_goals
  simp (maxSteps:=1000000) only [jO,jQ,jR,n1,n2,fi,rz,aB,seval]
  exact ⟨_,sub_one (by simp [n2]),rfl⟩
def XH (args:List D) (h:aa) (K:D→aa→Prop):Prop:=∃(l:List Tok) (s:PS) (id:Nat) (x:List UInt8),args=[.ptr id 1 0,.str x]∧h.f id=some (bV l s)∧Al l s∧K (.bool (lQ l x s)) h
theorem MB (args:List D) (h:aa) (K K':D→aa→Prop) (hk:∀d h,K d h→K' d h) (c:XH args h K):XH args h K':=by
 obtain ⟨l,s,id,x,a,b,c,d⟩:=c
 exact ⟨l,s,id,x,a,b,c,hk _ _ d⟩
theorem UN (args:List D) (h:aa) (K:D→aa→Prop) (c:XH args h K):aO Tryz.prog 37 args h fun o h'=>∃d,o=.ret d∧K d h':=by
 obtain ⟨l,s,id,x,rfl,b,c,d⟩:=c
 refine (aO.FX (sub_one b) (ab5 l s id x c)).mono fun o h' ⟨h1,⟨x,e1,e2,e3⟩,e4⟩=>⟨x,e1,?_⟩
 rw [e2,e4,e3,o6 b,D7 b]
 exact d
def tL:bf:=tM.Fy 37 XH MB
theorem IZ:tL.q=tM.q:=rfl
theorem IX:tL.a=tM.a:=rfl
theorem IY (g:FuncId) (args:List D) (h:aa) (K E:D→aa→Prop):tL.c g args h K E=if g=37 then XH args h K else tM.c g args h K E:=rfl
theorem Et:tL.ok Tryz.prog:=bf.qd OY UN
theorem rq:type_of% (And.intro (And.intro @IZ (And.intro @IX @IY)) @rz):=(And.intro (And.intro @IZ (And.intro @IX @IY)) @rz)
theorem uJ {l:List Tok} {s:PS} {x:List UInt8} (hl:Fv l) (ok:cB l s) (h:lQ l x s=true):cB l (cw s):=by
 obtain ⟨h1,h2,h3,h4,h5,h6⟩:=ok
 have:=hl.fin _ _ (lR ⟨h1,h2⟩) (fun e=>by simp [lQ,e] at h)
 exact ⟨by simp only [cw]; omega,by simp only [cw]; omega,h3,h4,h5,h6⟩
theorem WN (l:List Tok) (hl:Fv l) (s:PS) (id:Nat) (x:List UInt8) (ok:cB l s) (K0:Bool→PS→Prop) (E0:Int→Int→Prop) (hw:jA (dw l x s) (fun x s'=>cB l s'→K0 x s') E0):aO Tryz.prog 57 [.ptr id 1 0,.str x] (aa.emp.set id (bV l s)) (ly D.bool l id K0 E0):=by
 refine aO.c8 Et (dc:=cJ.none) (fun _ _=>cJ.eM) (by kernel_rfl) Z7 (by simp) ?_
 rw [dz]
 have w1:IntKind.i64.wrap (s.pos+1)=s.pos+1:=wrap_i64 (by have:=ok.YN; omega) (by have:=ok.Ty; have:=hl.len; omega)
 unfold dw at hw
 simp (maxSteps:=1000000) only [Zx,rq,aB,seval]
 refine ⟨l,s,id,x,rfl,by simp,ok.at_,?_⟩
 cases c:lQ l x s with
 | true=>
  have o_:=uJ hl ok c
  rw [c,cond_true,b_] at hw
  simp (maxSteps:=1000000) only [bV,w1,ag,ab,ax,rq,aB,seval]
  exact cd (x:=true) (s':=cw s) rfl (by simp [bV,cw]) (hw o_)
 | false=>
  rw [c,cond_false,b_] at hw
  simp (maxSteps:=1000000) only [ag,ab,ax,rq,aB,seval]
  exact cd (x:=false) (s':=s) rfl (by simp) (hw ok)
def B9 (args:List D) (h:aa) (K E:D→aa→Prop):Prop:=∃(l:List Tok) (s:PS) (id:Nat) (x:List UInt8),args=[.ptr id 1 0,.str x]∧Fv l∧cP (dw l x) D.bool l s id h K E
theorem FN (args:List D) (h:aa) (K E K' E':D→aa→Prop) (hk:∀d h,K d h→K' d h) (he:∀d h,E d h→E' d h) (c:B9 args h K E):B9 args h K' E':=by
 obtain ⟨l,s,id,x,a,b,c⟩:=c
 exact ⟨l,s,id,x,a,b,eE hk he c⟩
theorem MM (args:List D) (h:aa) (K E:D→aa→Prop) (c:B9 args h K E):aO Tryz.prog 57 args h (dn.to K E):=by
 obtain ⟨l,s,id,x,rfl,hl,c⟩:=c
 exact ji (fun ok K0 E0 hw=>WN l hl s id x ok K0 E0 hw) c
def tW:bf:=tL.j6 57 B9 FN
theorem JB:tW.q=tL.q:=rfl
theorem Jz:tW.a=tL.a:=rfl
theorem JA (g:FuncId) (args:List D) (h:aa) (K E:D→aa→Prop):tW.c g args h K E=if g=57 then B9 args h K E else tL.c g args h K E:=rfl
theorem EC:tW.ok Tryz.prog:=bf.cD Et MM
theorem rA:type_of% (And.intro (And.intro @JB (And.intro @Jz @JA)) @rq):=(And.intro (And.intro @JB (And.intro @Jz @JA)) @rq)
theorem aA {α:Type} {enc:α→D} {l:List Tok} {id:Nat} {K0:α→PS→Prop} {E0:Int→Int→Prop} {h:aa} {a e:Int} {s':PS} (hid:h.f id=some (bV l s')) (k:E0 a e):
  ∃h',h'.sub h∧ly enc l id K0 E0 (.panic (mN a e)) h':=⟨_,sub_one hid,a,e,s',rfl,rfl,k⟩
theorem VH (l:List Tok) (hl:Fv l) (s:PS) (id:Nat) (x:List UInt8) (ok:cB l s) (K0:Unit→PS→Prop) (E0:Int→Int→Prop) (hw:jA (ff l x s) (fun x s'=>cB l s'→K0 x s') E0):aO Tryz.prog 60 [.ptr id 1 0,.str x] (aa.emp.set id (bV l s)) (ly (fun _=>.tuple []) l id K0 E0):=by
 refine aO.c8 EC (dc:=cJ.none) (fun _ _=>cJ.eM) (by kernel_rfl) Z_ (by simp) ?_
 rw [dz]
 simp (maxSteps:=1000000) only [ZB,rA,aB,seval]
 refine ⟨l,s,id,x,rfl,hl,by simp,ok,?_⟩
 unfold ff at hw
 unfold dw
 cases c:lQ l x s with
 | true=>
  rw [c,cond_true,b_] at hw
  rw [cond_true,b_]
  intro o_
  simp (maxSteps:=1000000) only [ae,ab,ax,rA,aB,seval]
  exact cd (x:=()) (s':=cw s) rfl (by simp) (hw o_)
 | false=>
  rw [c,cond_false] at hw
  rw [cond_false,b_]
  intro _
  simp (maxSteps:=1000000) only [rA,aB,seval]
  refine ⟨l,s,id,110,rfl,by simp,ok.at_,?_⟩
  simp only [bu,ab,ax]
  exact aA (s':=s) (by simp) hw
def B3 (args:List D) (h:aa) (K E:D→aa→Prop):Prop:=∃(l:List Tok) (s:PS) (id:Nat) (x:List UInt8),args=[.ptr id 1 0,.str x]∧Fv l∧cP (ff l x) (fun _=>.tuple []) l s id h K E
theorem FI (args:List D) (h:aa) (K E K' E':D→aa→Prop) (hk:∀d h,K d h→K' d h) (he:∀d h,E d h→E' d h) (c:B3 args h K E):B3 args h K' E':=by
 obtain ⟨l,s,id,x,a,b,c⟩:=c
 exact ⟨l,s,id,x,a,b,eE hk he c⟩
theorem MF (args:List D) (h:aa) (K E:D→aa→Prop) (c:B3 args h K E):aO Tryz.prog 60 args h (dn.to K E):=by
 obtain ⟨l,s,id,x,rfl,hl,c⟩:=c
 exact ji (fun ok K0 E0 hw=>VH l hl s id x ok K0 E0 hw) c
def tZ:bf:=tW.j6 60 B3 FI
theorem JM:tZ.q=tW.q:=rfl
theorem JK:tZ.a=tW.a:=rfl
theorem JL (g:FuncId) (args:List D) (h:aa) (K E:D→aa→Prop):tZ.c g args h K E=if g=60 then B3 args h K E else tW.c g args h K E:=rfl
theorem EF:tZ.ok Tryz.prog:=bf.cD EC MF
theorem mE:type_of% (And.intro (And.intro @JM (And.intro @JK @JL)) @rA):=(And.intro (And.intro @JM (And.intro @JK @JL)) @rA)
theorem VI (l:List Tok) (hl:Fv l) (s:PS) (id:Nat) (ok:cB l s) (K0:List UInt8→PS→Prop) (E0:Int→Int→Prop) (hw:jA (iH l s) (fun x s'=>cB l s'→K0 x s') E0):aO Tryz.prog 58 [.ptr id 1 0] (aa.emp.set id (bV l s)) (ly D.str l id K0 E0):=by
 refine aO.c8 EF (dc:=cJ.none) (fun _ _=>cJ.eM) (by kernel_rfl) Z8 (by simp) ?_
 rw [dz]
 have w1:IntKind.i64.wrap (s.pos+1)=s.pos+1:=wrap_i64 (by have:=ok.YN; omega) (by have:=ok.Ty; have:=hl.len; omega)
 simp (maxSteps:=1000000) only [Zy,mE,aB,seval]
 refine ⟨l,s,id,rfl,by simp,ok.at_,?_⟩
 unfold iH at hw
 have abq:=hl.fin _ _ (lR ok.at_)
 have Rp:∀(α:Type) (e:Int),(ib l e s:PR α)=.fail (dQ l s).2.2 e:=fun _ _=>rfl
 cases c:((dQ l s).1==1) with
 | true=>
  have c':((dQ l s).1 != 1)=false:=by simpa using c
  rw [c,cond_true,b_] at hw
  have o_:cB l (cw s):=by
   have:=abq (by simp at c; omega)
   obtain ⟨h1,h2,h3,h4,h5,h6⟩:=ok
   exact ⟨by simp only [cw]; omega,by simp only [cw]; omega,h3,h4,h5,h6⟩
  have k:=hw o_
  generalize dQ l s=t at*
  obtain ⟨kk,y,a⟩:=t
  simp (maxSteps:=1000000) only [gb,mE,aB,seval]
  intro i2 n1 n2
  simp only at c c'
  simp (maxSteps:=1000000) only [bV,c',n1,n2,w1,ag,ab,ax,mE,aB,seval]
  exact cd (x:=y) (s':=cw s) rfl (by simp [bV,cw,n1,n2]) k
 | false=>
  have c':((dQ l s).1 != 1)=true:=by simpa using c
  rw [c,cond_false] at hw
  have hw':E0 (dQ l s).2.2 110:=hw
  generalize ht:dQ l s=t at*
  obtain ⟨kk,y,a⟩:=t
  simp (maxSteps:=1000000) only [gb,mE,aB,seval]
  intro i2 n1 n2
  simp only at c c'
  simp (maxSteps:=1000000) only [c',n1,n2,mE,aB,seval]
  refine ⟨l,s,id,110,rfl,by simp [n1,n2],ok.at_,?_⟩
  simp only [bu,ab,ax]
  rw [ht]
  exact aA (s':=s) (by simp [n1,n2]) hw'
def B4 (args:List D) (h:aa) (K E:D→aa→Prop):Prop:=∃(l:List Tok) (s:PS) (id:Nat) ,args=[.ptr id 1 0]∧Fv l∧cP (iH l) D.str l s id h K E
theorem FJ (args:List D) (h:aa) (K E K' E':D→aa→Prop) (hk:∀d h,K d h→K' d h) (he:∀d h,E d h→E' d h) (c:B4 args h K E):B4 args h K' E':=by
 obtain ⟨l,s,id,a,b,c⟩:=c
 exact ⟨l,s,id,a,b,eE hk he c⟩
theorem MG (args:List D) (h:aa) (K E:D→aa→Prop) (c:B4 args h K E):aO Tryz.prog 58 args h (dn.to K E):=by
 obtain ⟨l,s,id,rfl,hl,c⟩:=c
 exact ji (fun ok K0 E0 hw=>VI l hl s id  ok K0 E0 hw) c
def tX:bf:=tZ.j6 58 B4 FJ
theorem JF:tX.q=tZ.q:=rfl
theorem JC:tX.a=tZ.a:=rfl
theorem JD (g:FuncId) (args:List D) (h:aa) (K E:D→aa→Prop):tX.c g args h K E=if g=58 then B4 args h K E else tZ.c g args h K E:=rfl
theorem Pb:tX.ok Tryz.prog:=bf.cD EF MG
theorem JE:type_of% (And.intro (And.intro @JF (And.intro @JC @JD)) @mE):=(And.intro (And.intro @JF (And.intro @JC @JD)) @mE)
end
end Go.Proofs.YtpklkpkfgmoghaaGreatDoor.Zz
namespace Go.Proofs.YtpklkpkfgmoghaaGreatDoor.Zz
noncomputable section
def acH:b7:=⟨⟨[],[(3,1)],[],[],[],[]⟩,[],[],false⟩
def Wt:dA:=
 sO [oQ (.box (.t 1)) 3,
 oA 4]
 (.seq (sO [oM 0 5,
 oN 5 6,
 oF 2 6 7,
 oL 7 8,
 oH .add 8 1 9,
 oN 5 10,
 oF 2 10 11,
 oS 1 11 9]
 (sO [oM 0 12,
 oN 12 13,
 oF 2 13 14,
 oL 14 15,
 oH .gtr 15 2000 16]
 (.cond (.t 16)
 (.ops [oM 0 17,
 oC 38 [.t 17,kI 3] 18])
 (.skip))))
 (sO [oJ 5 3 19,
 oS 5 4 19]
 (.ret)))
theorem TO:bE Tryz.prog 35 acH=some (Wt,[.cell 4 (some 5)],20):=by kernel_rfl
def acO:b7:=⟨⟨[],[],[],[],[],[]⟩,[],[],false⟩
def Zv:dA:=
 sO [oP (.cg (kS [])) 2]
 (.seq (sO [oM 0 3]
 (.block 0 (sO [oH .eql 3 1 5,
 oM 5 4]
 (.cond (.t 4)
 (sO [oP (.cg (kS [105,110,116])) 2]
 (.ret))
 (sO [oH .eql 3 2 7,
 oM 7 6]
 (.cond (.t 6)
 (sO [oP (.cg (kS [102,108,111,97,116])) 2]
 (.ret))
 (sO [oH .eql 3 3 9,
 oM 9 8]
 (.cond (.t 8)
 (sO [oP (.cg (kS [98,111,111,108])) 2]
 (.ret))
 (.skip)))))))))
 (sO [oP (.cg (kS [])) 2]
 (.ret)))
theorem Z5:bE Tryz.prog 41 acO=some (Zv,[.tmp 2],10):=by kernel_rfl
def acT:b7:=⟨⟨[],[(4,3),(6,1)],[],[],[],[]⟩,[],[],false⟩
def ZA:dA:=
 sO [oP (.cg (kI 0)) 2]
 (.seq (sO [oP (.cg (kI 1)) 3]
 (.block 0 (.loop (.seq (sO [oM 3 4,
 oH .leq 4 3 5]
 (.cond (.t 5)
 (.skip)
 (.exit 0)))
 (.seq (.block 1 (sO [oM 0 8,
 oM 3 9,
 oD 41 [.t 9] 10,
 oC 57 [.t 8,.t 10] 11]
 (.cond (.t 11)
 (sO [oM 3 12,
 oM 12 2]
 (.ret))
 (.skip))))
 (.ops [oM 3 6,
 oH .add 6 1 7,
 oM 7 3]))))))
 (sO [oM 0 13,
 oC 38 [.t 13,kI 110] 14]
 (sO [oP (.cg (kI 0)) 2]
 (.ret))))
theorem Z9:bE Tryz.prog 59 acT=some (ZA,[.tmp 2],15):=by kernel_rfl
def acY:b7:=⟨⟨[],[(3,1)],[],[],[],[]⟩,[],[],false⟩
def D0:dA:=
 sO [oQ (.box (.t 0)) 1,
 oP (.cg (.c .eK)) 2]
 (.seq (sO [oL 1 3,
 oN 3 4,
 oF 3 4 5,
 oL 5 6,
 oH .add 6 1 7,
 oN 3 8,
 oF 3 8 9,
 oS 1 9 7]
 (sO [oL 1 10,
 oN 10 11,
 oF 3 11 12,
 oL 12 13,
 oH .gtr 13 40 14]
 (.cond (.t 14)
 (.ops [oL 1 15,
 oC 38 [.t 15,kI 3] 16])
 (.skip))))
 (sO [oP (.mkFunc (.func 100) [] [(.t 1)]) 17,
 oM 17 2]
 (.ret)))
theorem aad:bE Tryz.prog 84 acY=some (D0,[.tmp 2],18):=by kernel_rfl
def YO:b7:=⟨⟨[],[],[],[],[],[]⟩,[],[],false⟩
def TH:dA:=
 .ops [oL 0 1,
 oN 1 2,
 oF 3 2 3,
 oL 3 4,
 oH .sub 4 1 5,
 oN 1 6,
 oF 3 6 7,
 oS 1 7 5]
theorem Wx:bE Tryz.prog 100 YO=some (TH,[],8):=by kernel_rfl
def fx (t:Int):List UInt8:=bif t==1 then mF else bif t==2 then fF else bif t==3 then xj else []
theorem GZ (t:Int):aM Tryz.prog 41 [.int .i64 t] (.str (fx t)):=by
 refine aM.run (bf.ew _) Z5 (by simp) fun E=>?_
 unfold fx
 cases jO:(t==1)<;>cases jQ:(t==2)<;>cases jR:(t==3)
 all_goals simp (maxSteps:=1000000) only [Zv,jO,jQ,jR,mF,fF,xj,aB,seval]
def xP:List D→Option D
 | [.int .i64 t]=>some (.str (fx t))
 | _=>none
theorem HZ (args:List D) (d:D) (h:xP args=some d):aM Tryz.prog 41 args d:=by
 unfold xP at h
 split at h
 ·cases h; exact GZ _
 ·cases h
def tO:bf:=tX.cX 41 xP
theorem I9 (g:FuncId) (args:List D):tO.q g args=if g=41 then xP args else tX.q g args:=rfl
theorem I7:tO.a=tX.a:=rfl
theorem I8:tO.c=tX.c:=rfl
theorem Ey:tO.ok Tryz.prog:=bf.bm Pb HZ
theorem mC:type_of% (And.intro (And.intro @I9 (And.intro @I7 @I8)) @JE):=(And.intro (And.intro @I9 (And.intro @I7 @I8)) @JE)
theorem aaw (l:List Tok) (hl:Fv l) (s:PS) (id:Nat) (ok:cB l s) (K0:Int→PS→Prop) (E0:Int→Int→Prop) (hw:jA (pa l s) (fun x s'=>cB l s'→K0 x s') E0):aO Tryz.prog 59 [.ptr id 1 0] (aa.emp.set id (bV l s)) (ly (fun t=>D.int .i64 t) l id K0 E0):=by
 refine aO.c8 Ey (dc:=cJ.none) (fun _ _=>cJ.eM) (by kernel_rfl) Z9 (by simp) ?_
 rw [dz]
 simp (maxSteps:=1000000) only [ZA,mC,aB,seval]
 refine cS (X:=Nat) (fun i=>[(0,.ptr id 1 0),(3,.int .i64 i)]) (fun _=>aa.emp.set id (bV l s)) (fun i=>4 - i) (fun i=>1≤i∧i≤4∧∀j:Nat,1≤j→j<i→lQ l (fx j) s=false) 1 ⟨by omega,by omega,fun j h1 h2=>by omega⟩ (by simp only [aB,seval]) (aa.aS _) ?_
 rintro i Q ⟨i1,i2,i3⟩ hQ
 have Yr:∀(hi:i≤3) (b:Bool),lQ l (fx i) s=b→(b=true→jA (pa l s) (fun x s'=>cB l s'→K0 x s') E0→K0 i (cw s)):=fun hi b hb e hw=>by
  subst e
  have o_:=uJ hl ok hb
  have e1:1<i→lQ l mF s=false:=fun h=>i3 1 (by omega) h
  have e2:2<i→lQ l fF s=false:=fun h=>i3 2 (by omega) h
  unfold pa at hw
  rcases (by omega:i=1∨i=2∨i=3) with rfl | rfl | rfl
  ·have hb:lQ l mF s=true:=hb
   rw [hb] at hw; exact hw o_
  ·have hb:lQ l fF s=true:=hb
   rw [e1 (by omega),hb] at hw; exact hw o_
  ·have hb:lQ l xj s=true:=hb
   rw [e1 (by omega),e2 (by omega),hb] at hw; exact hw o_
 by_cases XA:i≤3
 ·have g:((i:Int)≤3)=True:=eq_true (by omega)
  have hq:xP [.int .i64 i]=some (.str (fx i)):=rfl
  have wi:IntKind.i64.wrap ((i:Int)+1)=((i+1:Nat):Int):=cW (by omega)
  simp (maxSteps:=1000000) only [g,hq,mC,aB,seval]
  refine ⟨l,s,id,fx i,rfl,hl,by simp,ok,?_⟩
  unfold dw
  cases c:lQ l (fx i) s with
  | true=>
   rw [cond_true,b_]
   intro o_
   simp (maxSteps:=1000000) only [ag,ab,ax,mC,aB,seval]
   exact cd (x:=(i:Int)) (s':=cw s) rfl (by simp) (Yr XA true c rfl hw)
  | false=>
   rw [cond_false,b_]
   intro _
   simp (maxSteps:=1000000) only [wi,mC,aB,seval]
   refine hQ (i+1) _ _ ⟨by omega,by omega,fun j h1 h2=>?_⟩ (by simp only [aB,seval]) ?_ (by omega)
   ·by_cases e:j=i
    ·subst e; exact c
    ·exact i3 j h1 (by omega)
   ·exact aa.aS _
 ·have e0:i=4:=by omega
  subst e0
  have e1:lQ l mF s=false:=i3 1 (by omega) (by omega)
  have e2:lQ l fF s=false:=i3 2 (by omega) (by omega)
  have e3:lQ l xj s=false:=i3 3 (by omega) (by omega)
  simp (maxSteps:=1000000) only [mC,aB,seval]
  refine ⟨l,s,id,110,rfl,by simp,ok.at_,?_⟩
  unfold pa at hw
  rw [e1,e2,e3] at hw
  simp only [bu,ab,ax]
  exact aA (s':=s) (by simp) hw
def MN (args:List D) (h:aa) (K E:D→aa→Prop):Prop:=∃(l:List Tok) (s:PS) (id:Nat) ,args=[.ptr id 1 0]∧Fv l∧cP (pa l) (fun t=>D.int .i64 t) l s id h K E
theorem KS (args:List D) (h:aa) (K E K' E':D→aa→Prop) (hk:∀d h,K d h→K' d h) (he:∀d h,E d h→E' d h) (c:MN args h K E):MN args h K' E':=by
 obtain ⟨l,s,id,a,b,c⟩:=c
 exact ⟨l,s,id,a,b,eE hk he c⟩
theorem Q1 (args:List D) (h:aa) (K E:D→aa→Prop) (c:MN args h K E):aO Tryz.prog 59 args h (dn.to K E):=by
 obtain ⟨l,s,id,rfl,hl,c⟩:=c
 exact ji (fun ok K0 E0 hw=>aaw l hl s id  ok K0 E0 hw) c
def tY:bf:=tO.j6 59 MN KS
theorem JJ:tY.q=tO.q:=rfl
theorem JH:tY.a=tO.a:=rfl
theorem JI (g:FuncId) (args:List D) (h:aa) (K E:D→aa→Prop):tY.c g args h K E=if g=59 then MN args h K E else tO.c g args h K E:=rfl
theorem wW:tY.ok Tryz.prog:=bf.cD Ey Q1
theorem k9:type_of% (And.intro (And.intro @JJ (And.intro @JH @JI)) @mC):=(And.intro (And.intro @JJ (And.intro @JH @JI)) @mC)
theorem VN (l:List Tok) (hl:Fv l) (s:PS) (id:Nat) (n:Nd) (ok:cB l s) (K0:Nd→PS→Prop) (E0:Int→Int→Prop) (hw:jA (dB l n s) (fun x s'=>cB l s'→K0 x s') E0):aO Tryz.prog 35 [.ptr id 1 0,.agg n.enc] (aa.emp.set id (bV l s)) (ly (fun n=>.agg n.enc) l id K0 E0):=by
 refine aO.c8 wW (dc:=cJ.none) (fun _ _=>cJ.eM) (by kernel_rfl) TO (by simp) ?_
 rw [dz]
 have w1:IntKind.i64.wrap (s.cH+1)=s.cH+1:=wrap_i64 (by have:=ok.n0; omega) (by have:=ok.n1; omega)
 unfold dB at hw
 obtain ⟨nk,nt,ns,nm,nl⟩:=n
 rw [aR]
 simp (maxSteps:=1000000) only [Wt,bV,k9,aB,seval]
 intro i3 n1 n2 i4 n3 n4 n5 n6
 by_cases c:s.cH+1>2000
 ·have g:(s.cH+1>2000)=True:=eq_true c
  rw [if_pos c] at hw
  simp (maxSteps:=1000000) only [g,w1,n1,n2,n3,n4,n5,n6,k9,aB,seval]
  refine ⟨l,{ s with cH:=s.cH+1 },id,3,rfl,by simp [n1,n2,n3,n4,n5,n6,bV],ok.at_,?_⟩
  simp only [bu,ab,ax]
  exact aA (s':={ s with cH:=s.cH+1 }) (by simp [n1,n2,n3,n4,n5,n6,bV]) hw
 ·have g:(s.cH+1>2000)=False:=eq_false c
  rw [if_neg c] at hw
  simp (maxSteps:=1000000) only [g,w1,n1,n2,n3,n4,n5,n6,ag,ab,ax,k9,aB,seval]
  have o_:cB l { s with cH:=s.cH+1 }:=by
   obtain ⟨h1,h2,h3,h4,h5,h6⟩:=ok
   exact ⟨h1,h2,by simp only; omega,by simp only; omega,h5,h6⟩
  exact cd (x:=.mk nk nt ns nm nl) (s':={ s with cH:=s.cH+1 }) (by rw [aR]) (by simp [n1,n2,n3,n4,n5,n6,bV]) (hw o_)
def Ha (args:List D) (h:aa) (K E:D→aa→Prop):Prop:=∃(l:List Tok) (s:PS) (id:Nat) (n:Nd),args=[.ptr id 1 0,.agg n.enc]∧Fv l∧cP (dB l n) (fun n=>.agg n.enc) l s id h K E
theorem FK (args:List D) (h:aa) (K E K' E':D→aa→Prop) (hk:∀d h,K d h→K' d h) (he:∀d h,E d h→E' d h) (c:Ha args h K E):Ha args h K' E':=by
 obtain ⟨l,s,id,n,a,b,c⟩:=c
 exact ⟨l,s,id,n,a,b,eE hk he c⟩
theorem MH (args:List D) (h:aa) (K E:D→aa→Prop) (c:Ha args h K E):aO Tryz.prog 35 args h (dn.to K E):=by
 obtain ⟨l,s,id,n,rfl,hl,c⟩:=c
 exact ji (fun ok K0 E0 hw=>VN l hl s id n ok K0 E0 hw) c
def vk:Nd→List D
 | .mk k t s n _=>[.int .i64 k,.int .i64 t,.str s,.int .i64 n,.a_]
theorem RH (l:List Tok) (hl:Fv l) (s:PS) (id:Nat) (n:Nd) (ok:cB l s) (K0:Nd→PS→Prop) (E0:Int→Int→Prop) (hw:jA (dB l n s) (fun x s'=>cB l s'→K0 x s') E0):aO Tryz.prog 35 [.ptr id 1 0,.agg (vk n)] (aa.emp.set id (bV l s)) (ly (fun n=>.agg (vk n)) l id K0 E0):=by
 refine aO.c8 wW (dc:=cJ.none) (fun _ _=>cJ.eM) (by kernel_rfl) TO (by simp) ?_
 rw [dz]
 have w1:IntKind.i64.wrap (s.cH+1)=s.cH+1:=wrap_i64 (by have:=ok.n0; omega) (by have:=ok.n1; omega)
 unfold dB at hw
 obtain ⟨nk,nt,ns,nm,nl⟩:=n
 rw [vk]
 simp (maxSteps:=1000000) only [Wt,bV,k9,aB,seval]
 intro i3 n1 n2 i4 n3 n4 n5 n6
 by_cases c:s.cH+1>2000
 ·have g:(s.cH+1>2000)=True:=eq_true c
  rw [if_pos c] at hw
  simp (maxSteps:=1000000) only [g,w1,n1,n2,n3,n4,n5,n6,k9,aB,seval]
  refine ⟨l,{ s with cH:=s.cH+1 },id,3,rfl,by simp [n1,n2,n3,n4,n5,n6,bV],ok.at_,?_⟩
  simp only [bu,ab,ax]
  exact aA (s':={ s with cH:=s.cH+1 }) (by simp [n1,n2,n3,n4,n5,n6,bV]) hw
 ·have g:(s.cH+1>2000)=False:=eq_false c
  rw [if_neg c] at hw
  simp (maxSteps:=1000000) only [g,w1,n1,n2,n3,n4,n5,n6,ag,ab,ax,k9,aB,seval]
  have o_:cB l { s with cH:=s.cH+1 }:=by
   obtain ⟨h1,h2,h3,h4,h5,h6⟩:=ok
   exact ⟨h1,h2,by simp only; omega,by simp only; omega,h5,h6⟩
  exact cd (x:=.mk nk nt ns nm nl) (s':={ s with cH:=s.cH+1 }) rfl (by simp [n1,n2,n3,n4,n5,n6,bV]) (hw o_)
def AJ (args:List D) (h:aa) (K E:D→aa→Prop):Prop:=∃(l:List Tok) (s:PS) (id:Nat) (n:Nd),args=[.ptr id 1 0,.agg (vk n)]∧Fv l∧cP (dB l n) (fun n=>.agg (vk n)) l s id h K E
theorem B6 (args:List D) (h:aa) (K E K' E':D→aa→Prop) (hk:∀d h,K d h→K' d h) (he:∀d h,E d h→E' d h) (c:AJ args h K E):AJ args h K' E':=by
 obtain ⟨l,s,id,n,a,b,c⟩:=c
 exact ⟨l,s,id,n,a,b,eE hk he c⟩
theorem KP (args:List D) (h:aa) (K E:D→aa→Prop) (c:AJ args h K E):aO Tryz.prog 35 args h (dn.to K E):=by
 obtain ⟨l,s,id,n,rfl,hl,c⟩:=c
 exact ji (fun ok K0 E0 hw=>RH l hl s id n ok K0 E0 hw) c
def u6 (args:List D) (h:aa) (K E:D→aa→Prop):Prop:=Ha args h K E∨AJ args h K E
theorem B5 (args:List D) (h:aa) (K E K' E':D→aa→Prop) (hk:∀d h,K d h→K' d h) (he:∀d h,E d h→E' d h) (c:u6 args h K E):u6 args h K' E':=c.elim (fun c=>.inl (FK _ _ _ _ _ _ hk he c)) fun c=>.inr (B6 _ _ _ _ _ _ hk he c)
theorem KO (args:List D) (h:aa) (K E:D→aa→Prop) (c:u6 args h K E):aO Tryz.prog 35 args h (dn.to K E):=c.elim (MH _ _ _ _) (KP _ _ _ _)
def pD:bf:=tY.j6 35 u6 B5
theorem IQ:pD.q=tY.q:=rfl
theorem IL:pD.a=tY.a:=rfl
theorem IM (g:FuncId) (args:List D) (h:aa) (K E:D→aa→Prop):pD.c g args h K E=if g=35 then u6 args h K E else tY.c g args h K E:=rfl
theorem OW:pD.ok Tryz.prog:=bf.cD wW KO
theorem IP:type_of% (And.intro (And.intro @IQ (And.intro @IL @IM)) @k9):=(And.intro (And.intro @IQ (And.intro @IL @IM)) @k9)
def ue:bf:=pD.UD 84 D0 [.tmp 2] 18
theorem Kb:ue.q=pD.q:=rfl
theorem J9:ue.a=pD.a:=rfl
theorem J_ (g:FuncId) (args:List D) (h:aa) (K E:D→aa→Prop):ue.c g args h K E=if g=84 then (args.length≤18∧vc pD D0 (todo pD (Gy [.tmp 2] K) (Dt E) []) (Dt E) (fT args) h) else pD.c g args h K E:=rfl
theorem PW:ue.ok Tryz.prog:=bf.QS OW aad
theorem Ka:type_of% (And.intro (And.intro @Kb (And.intro @J9 @J_)) @IP):=(And.intro (And.intro @Kb (And.intro @J9 @J_)) @IP)
def yc:cJ:=fun k args u h F=>k=100∧∃(b id:Nat) (l:List Tok) (s:PS),args=[.ptr b 1 0]∧h.f b=some (.cells [.ptr id 1 0])∧h.f id=some (bV l s)∧F u (h.set id (bV l { s with deep:=IntKind.i64.wrap (s.deep - 1) }))
theorem vf (κ:b9) (w:World):yc.nJ Tryz.prog κ w:=by
 rintro k args u h F ⟨rfl,b,id,l,s,rfl,hb,hid,hF⟩ κ' w' le
 refine gA.me ((bf.ew Tryz.prog).toY κ' w') Wx (by simp) ?_
 have abw:h.f id=some (.cells [.sl (lH l),.int .i64 s.pos,.int .i64 s.cH,.int .i64 s.deep]):=hid
 simp (maxSteps:=1000000) only [TH,hb,abw,kR,aB,seval]
 exact ⟨_,aa.aS _,hF⟩
end
end Go.Proofs.YtpklkpkfgmoghaaGreatDoor.Zz
namespace Go.Proofs.YtpklkpkfgmoghaaGreatDoor.Zz
noncomputable section
def acX:b7:=⟨⟨[],[(1,1),(10,1),(12,1),(15,2)],[],[],[],[]⟩,[],[],false⟩
def ZG:dA:=
 sO [oA 2,
 oP (.cg (kB false)) 3]
 (sO [oM 0 8,
 oC 36 [.t 8] 9,
 oQ (.alloc [(.int .i64 0),(.str []),(.int .i64 0)]) 4,
 oS 3 4 9]
 (sO [oA 5]
 (.seq (.block 0 (sO [oF 0 4 12,
 oL 12 13,
 oH .eql 13 2 14,
 oM 14 11]
 (.cond (.t 11)
 (sO [oF 1 4 16,
 oL 16 17,
 oD 98 [.t 17,kI 10,kI 64] 18,
 oM 18 15,
 oX 15 0 19,
 oX 15 1 20,
 oM 19 6,
 oM 20 7]
 (.ops [oM 6 21,
 oP (.build zN [(0,1,(kI 20)),(3,1,(.t 21))]) 22,
 oS 5 5 22]))
 (sO [oF 0 4 24,
 oL 24 25,
 oH .eql 25 3 26,
 oM 26 23]
 (.cond (.t 23)
 (sO [oF 1 4 27,
 oL 27 28,
 oD 99 [.t 28] 29,
 oS 5 5 29]
 (.ops [oF 1 5 30,
 oU (.store 1 (.t 30) (kI 0))]))
 (sO [oM 0 32,
 oC 37 [.t 32,(kS [116,114,117,101])] 33,
 oM 33 31]
 (.cond (.t 31)
 (.ops [oP (.build zN [(0,1,(kI 22)),(3,1,(kI 1))]) 34,
 oS 5 5 34])
 (sO [oM 0 36,
 oC 37 [.t 36,(kS [102,97,108,115,101])] 37,
 oM 37 35]
 (.cond (.t 35)
 (.ops [oP (.build zN [(0,1,(kI 22))]) 38,
 oS 5 5 38])
 (sO [oJ 5 5 10,
 oS 5 2 10,
 oP (.cg (kB false)) 3]
 (.ret)))))))))))
 (sO [oM 0 39,
 oN 39 40,
 oF 1 40 41,
 oL 41 42,
 oH .add 42 1 43,
 oN 39 44,
 oF 1 44 45,
 oS 1 45 43]
 (sO [oM 0 46,
 oJ 5 5 47,
 oC 35 [.t 46,.t 47] 48,
 oS 5 2 48,
 oP (.cg (kB true)) 3]
 (.ret))))))
theorem aac:bE Tryz.prog 81 acX=some (ZG,[.cell 2 (some 5),.tmp 3],49):=by kernel_rfl
theorem Hm:∀(l:List UInt8) (a:Nat),a≤l.foldl (fun n c=>n*10+(c.toNat - 48)) a
 | [],a=>Nat.le_refl _
 | c::l,a=>by
  rw [List.foldl_cons]
  have:=Hm l (a*10+(c.toNat - 48))
  omega
theorem zh:∀(l:List UInt8) (a:Nat),l.all dK=true→l.foldl (fun n c=>n*10+(c.toNat - 48)) a<9223372036854775808→Lib.parseUintM 18446744073709551615 a l=.ok (l.foldl (fun n c=>n*10+(c.toNat - 48)) a)
 | [],a,_,_=>rfl
 | c::l,a,hd,hv=>by
  rw [List.all_cons,Bool.and_eq_true] at hd
  rw [List.foldl_cons] at hv ⊢
  have g:=Hm l (a*10+(c.toNat - 48))
  have hc:=hd.1
  simp only [dK,Bool.and_eq_true,decide_eq_true_eq] at hc
  rw [Lib.parseUintM,if_pos (by omega),if_neg (by omega),if_neg (by omega),zh l _ hd.2 hv]
theorem Gn (s:List UInt8) (hd:s.all dK=true) (iw:s≠[]) (hl:s.length≤4096) (hv:dX s<9223372036854775808):aM Tryz.prog 98 [.str s,.int .i64 10,.int .i64 64] (.tuple [.int .i64 (dX s:Nat),.fL]):=by
 have hp:Lib.parseIntB 64 s=.ok (dX s:Nat):=by
  cases s with
  | nil=>exact absurd rfl iw
  | cons c r=>
   have hc:=hd
   simp only [List.all_cons,dK,Bool.and_eq_true,decide_eq_true_eq] at hc
   have n1:¬c.toNat=43:=by omega
   have n2:¬c.toNat=45:=by omega
   have hu:Lib.parseUintB 64 (c::r)=.ok (dX (c::r)):=by
    rw [Lib.parseUintB,if_neg (by simp)]
    exact zh (c::r) 0 hd hv
   unfold Lib.parseIntB
   simp only [n1,n2,or_self,if_false,false_and,not_false_eq_true,true_and]
   rw [hu]
   simp only [Nat.reduceSub,Nat.reducePow]
   rw [if_neg (by omega)]
 refine aM.jq (by kernel_rfl) fun κ w vs hg hr _=>?_
 obtain ⟨vl⟩:=vs
 cases hr with
 | cons r1 hr=>
  cases hr with
  | cons r2 hr=>
   cases hr with
   | cons r3 hr=>
    cases hr
    rw [gV r2,gV r3]
    cases r1 with
    | str _ h1=>
    refine (Tryz.strconv_ParseInt_10_at64_ok ⟨s.toArray⟩ (by simp [ByteArray.size]; omega) _ (by simpa using hp) w).mono fun e w' ⟨e1,e2⟩=>⟨_,e1,fun _ _=>bJ.tuple (.cons (.int _ _) (.cons .fL .nil)),?_⟩
    rcases e2 with e2 | ⟨t,e2⟩
    ·rw [e2]; exact Go.RowKit.Below.refl _ _
    ·rw [e2]; exact Lib.bytesWorld_below _ _ _
structure uw (l:List Tok):Prop where
 lo:Fv l
 whole:∀t∈l,t.1=2→t.2.1.all dK=true∧t.2.1≠[]∧t.2.1.length≤4096∧dX t.2.1<9223372036854775808
 dot:∀t∈l,t.1=3→∃A B,iJ t.2.1 A B
open Classical in
def DK:List D→Option D
 | [.str s,.int .i64 10,.int .i64 64]=>if s.all dK=true∧s≠[]∧s.length≤4096∧dX s<9223372036854775808 then some (.tuple [.int .i64 (dX s:Nat),.fL]) else none
 | _=>none
theorem Of (args:List D) (d:D) (h:DK args=some d):aM Tryz.prog 98 args d:=by
 unfold DK at h
 split at h
 ·split at h
  ·rename_i c
   cases h
   exact Gn _ c.1 c.2.1 c.2.2.1 c.2.2.2
  ·cases h
 ·cases h
open Classical in
def Ol:List D→Option D
 | [.str s]=>if ∃A B,iJ s A B then some (.agg [.int .i64 21,.int .i64 2,.str (jT s),.int .i64 (jg (jT s)),.sl []]) else none
 | _=>none
theorem R7 (args:List D) (d:D) (h:Ol args=some d):aM Tryz.prog 99 args d:=by
 unfold Ol at h
 split at h
 ·split at h
  ·rename_i c
   cases h
   obtain ⟨A,B,c⟩:=c
   exact Rb _ A B c
  ·cases h
 ·cases h
def nZ:bf:=ue.cX 98 DK
theorem Eh (g:FuncId) (args:List D):nZ.q g args=if g=98 then DK args else ue.q g args:=rfl
theorem Ee:nZ.a=ue.a:=rfl
theorem Ef:nZ.c=ue.c:=rfl
theorem LY:nZ.ok Tryz.prog:=bf.bm PW Of
theorem Eg:type_of% (And.intro (And.intro @Eh (And.intro @Ee @Ef)) @Ka):=(And.intro (And.intro @Eh (And.intro @Ee @Ef)) @Ka)
def tN:bf:=nZ.cX 99 Ol
theorem I5 (g:FuncId) (args:List D):tN.q g args=if g=99 then Ol args else nZ.q g args:=rfl
theorem I3:tN.a=nZ.a:=rfl
theorem I4:tN.c=nZ.c:=rfl
theorem Eu:tN.ok Tryz.prog:=bf.bm LY R7
theorem fE:type_of% (And.intro (And.intro @I5 (And.intro @I3 @I4)) @Eg):=(And.intro (And.intro @I5 (And.intro @I3 @I4)) @Eg)
theorem N8 {l:List Tok} {s:PS} (ok:Al l s):dQ l s∈l:=List.mem_of_getElem? (lR ok)
theorem Ds {l:List Tok} {s:PS} (hl:Fv l) (ok:cB l s) (h:(dQ l s).1≠0):cB l (cw s):=by
 have:=hl.fin _ _ (lR ok.at_) h
 obtain ⟨h1,h2,h3,h4,h5,h6⟩:=ok
 exact ⟨by simp only [cw]; omega,by simp only [cw]; omega,h3,h4,h5,h6⟩
set_option maxHeartbeats 1000000 in
theorem RS (l:List Tok) (hl:uw l) (s:PS) (id:Nat) (ok:cB l s) (K0:Nd×Bool→PS→Prop) (E0:Int→Int→Prop) (hw:jA (lu l s) (fun x s'=>cB l s'→K0 x s') E0):aO Tryz.prog 81 [.ptr id 1 0] (aa.emp.set id (bV l s)) (ly (fun x:Nd×Bool=>.tuple [.agg x.1.enc,.bool x.2]) l id K0 E0):=by
 refine aO.c8 Eu (dc:=cJ.none) (fun _ _=>cJ.eM) (by kernel_rfl) aac (by simp) ?_
 rw [dz]
 have w1:IntKind.i64.wrap (s.pos+1)=s.pos+1:=wrap_i64 (by have:=ok.YN; omega) (by have:=ok.Ty; have:=hl.lo.len; omega)
 simp (maxSteps:=1000000) only [ZG,fE,aB,seval]
 intro i2 n1 n2
 refine ⟨l,s,id,rfl,by simp [n1,n2],ok.at_,?_⟩
 have pP:=N8 ok.at_
 have hwh:=hl.whole _ pP
 have hdt:=hl.dot _ pP
 have mT:=Ds hl.lo ok
 simp only [lu] at hw
 have Rp:∀x,lQ l x s=((dQ l s).2.1==x && ((dQ l s).1==5 || (dQ l s).1==4)):=fun _=>rfl
 generalize ht:dQ l s=t at*
 obtain ⟨kk,y,a⟩:=t
 simp only at hwh hdt mT hw Rp
 simp (maxSteps:=1000000) only [gb,n1,n2,fE,aB,seval]
 intro i4 m1 m2 m3 m4 i5 m5 m6 m7 m8 m9 m10
 cases jQ:(kk==2) with
 | true=>
  rw [jQ,cond_true,aE] at hw
  have e2:kk=2:=by simpa using jQ
  obtain ⟨d1,d2,d3,d4⟩:=hwh e2
  have o_:=mT (by omega)
  have hq:DK [.str y,.int .i64 10,.int .i64 64]=some (.tuple [.int .i64 (dX y:Nat),.fL]):=if_pos ⟨d1,d2,d3,d4⟩
  simp (maxSteps:=1000000) only [jQ,hq,bV,w1,n1,n2,m1,m2,m3,m4,m5,m6,m7,m8,m9,m10,fE,aB,seval]
  refine .inl ⟨l,cw s,id,.mk 20 0 [] (dX y:Nat) [],by simp only [aR,bt],hl.lo,by simp [bV,cw,n1,n2,m1,m2,m3,m4,m5,m6,m7,m8,m9,m10],o_,gI (fun n bZ k gg=>?_) (fun a e k s'=>?_) hw⟩
  ·obtain ⟨nk,nt,ns,nm,nl⟩:=n
   simp (maxSteps:=1000000) only [aR,n1,n2,m1,m2,m3,m4,m5,m6,m7,m8,m9,m10,ag,ab,ax,fE,aB,seval]
   exact cd (x:=(.mk nk nt ns nm nl,true)) (s':=bZ) (by rw [aR]) (by simp [n1,n2,m1,m2,m3,m4,m5,m6,m7,m8,m9,m10]) (k gg)
  ·simp only [bu,ab,ax]
   exact aA (s':=s') (by simp [n1,n2,m1,m2,m3,m4,m5,m6,m7,m8,m9,m10]) k
 | false=>
  rw [jQ,cond_false] at hw
  cases jR:(kk==3) with
  | true=>
   rw [jR,cond_true,aE] at hw
   have e3:kk=3:=by simpa using jR
   have hd:=hdt e3
   have o_:=mT (by omega)
   have hq:Ol [.str y]=some (.agg [.int .i64 21,.int .i64 2,.str (jT y),.int .i64 (jg (jT y)),.sl []]):=if_pos hd
   simp (maxSteps:=1000000) only [jQ,jR,hq,bV,w1,n1,n2,m1,m2,m3,m4,m5,m6,m7,m8,m9,m10,fE,aB,seval]
   refine .inl ⟨l,cw s,id,iR y,by simp only [iR,aR,bt],hl.lo,by simp [bV,cw,n1,n2,m1,m2,m3,m4,m5,m6,m7,m8,m9,m10],o_,gI (fun n bZ k gg=>?_) (fun a e k s'=>?_) hw⟩
   ·obtain ⟨nk,nt,ns,nm,nl⟩:=n
    simp (maxSteps:=1000000) only [aR,n1,n2,m1,m2,m3,m4,m5,m6,m7,m8,m9,m10,ag,ab,ax,fE,aB,seval]
    exact cd (x:=(.mk nk nt ns nm nl,true)) (s':=bZ) (by rw [aR]) (by simp [n1,n2,m1,m2,m3,m4,m5,m6,m7,m8,m9,m10]) (k gg)
   ·simp only [bu,ab,ax]
    exact aA (s':=s') (by simp [n1,n2,m1,m2,m3,m4,m5,m6,m7,m8,m9,m10]) k
  | false=>
   rw [jR,cond_false] at hw
   simp (maxSteps:=1000000) only [jQ,jR,n1,n2,m1,m2,m3,m4,m5,m6,m7,m8,m9,m10,fE,aB,seval]
   refine ⟨l,s,id,lY,rfl,by simp [n1,n2,m1,m2,m3,m4,m5,m6,m7,m8,m9,m10],ok.at_,?_⟩
   cases uA:lQ l lY s with
   | true=>
    rw [uA,cond_true,aE] at hw
    have o_:=uJ hl.lo ok uA
    simp (maxSteps:=1000000) only [bV,w1,n1,n2,m1,m2,m3,m4,m5,m6,m7,m8,m9,m10,fE,aB,seval]
    refine .inl ⟨l,cw s,id,.mk 22 0 [] 1 [],by simp only [aR,bt],hl.lo,by simp [bV,cw,n1,n2,m1,m2,m3,m4,m5,m6,m7,m8,m9,m10],o_,gI (fun n bZ k gg=>?_) (fun a e k s'=>?_) hw⟩
    ·obtain ⟨nk,nt,ns,nm,nl⟩:=n
     simp (maxSteps:=1000000) only [aR,n1,n2,m1,m2,m3,m4,m5,m6,m7,m8,m9,m10,ag,ab,ax,fE,aB,seval]
     exact cd (x:=(.mk nk nt ns nm nl,true)) (s':=bZ) (by rw [aR]) (by simp [n1,n2,m1,m2,m3,m4,m5,m6,m7,m8,m9,m10]) (k gg)
    ·simp only [bu,ab,ax]
     exact aA (s':=s') (by simp [n1,n2,m1,m2,m3,m4,m5,m6,m7,m8,m9,m10]) k
   | false=>
    rw [uA,cond_false] at hw
    simp (maxSteps:=1000000) only [n1,n2,m1,m2,m3,m4,m5,m6,m7,m8,m9,m10,fE,aB,seval]
    refine ⟨l,s,id,iU,rfl,by simp [n1,n2,m1,m2,m3,m4,m5,m6,m7,m8,m9,m10],ok.at_,?_⟩
    cases xn:lQ l iU s with
    | true=>
     rw [xn,cond_true,aE] at hw
     have o_:=uJ hl.lo ok xn
     simp (maxSteps:=1000000) only [bV,w1,n1,n2,m1,m2,m3,m4,m5,m6,m7,m8,m9,m10,fE,aB,seval]
     refine .inl ⟨l,cw s,id,.mk 22 0 [] 0 [],by simp only [aR,bt],hl.lo,by simp [bV,cw,n1,n2,m1,m2,m3,m4,m5,m6,m7,m8,m9,m10],o_,gI (fun n bZ k gg=>?_) (fun a e k s'=>?_) hw⟩
     ·obtain ⟨nk,nt,ns,nm,nl⟩:=n
      simp (maxSteps:=1000000) only [aR,n1,n2,m1,m2,m3,m4,m5,m6,m7,m8,m9,m10,ag,ab,ax,fE,aB,seval]
      exact cd (x:=(.mk nk nt ns nm nl,true)) (s':=bZ) (by rw [aR]) (by simp [n1,n2,m1,m2,m3,m4,m5,m6,m7,m8,m9,m10]) (k gg)
     ·simp only [bu,ab,ax]
      exact aA (s':=s') (by simp [n1,n2,m1,m2,m3,m4,m5,m6,m7,m8,m9,m10]) k
    | false=>
     rw [xn,cond_false,b_] at hw
     simp (maxSteps:=1000000) only [n1,n2,m1,m2,m3,m4,m5,m6,m7,m8,m9,m10,ag,ab,ax,fE,aB,seval]
     exact fK (x:=(.mk 0 0 [] 0 [],false)) (s':=s) (by rw [aR,bt]) (by simp [n1,n2,m1,m2,m3,m4,m5,m6,m7,m8,m9,m10]) (hw ok)
def u7 (args:List D) (h:aa) (K E:D→aa→Prop):Prop:=∃(l:List Tok) (s:PS) (id:Nat) ,args=[.ptr id 1 0]∧uw l∧cP (lu l) (fun x:Nd×Bool=>.tuple [.agg x.1.enc,.bool x.2]) l s id h K E
theorem B7 (args:List D) (h:aa) (K E K' E':D→aa→Prop) (hk:∀d h,K d h→K' d h) (he:∀d h,E d h→E' d h) (c:u7 args h K E):u7 args h K' E':=by
 obtain ⟨l,s,id,a,b,c⟩:=c
 exact ⟨l,s,id,a,b,eE hk he c⟩
theorem KR (args:List D) (h:aa) (K E:D→aa→Prop) (c:u7 args h K E):aO Tryz.prog 81 args h (dn.to K E):=by
 obtain ⟨l,s,id,rfl,hl,c⟩:=c
 exact ji (fun ok K0 E0 hw=>RS l hl s id  ok K0 E0 hw) c
def ub:bf:=tN.j6 81 u7 B7
theorem JZ:ub.q=tN.q:=rfl
theorem JW:ub.a=tN.a:=rfl
theorem JX (g:FuncId) (args:List D) (h:aa) (K E:D→aa→Prop):ub.c g args h K E=if g=81 then u7 args h K E else tN.c g args h K E:=rfl
theorem PL:ub.ok Tryz.prog:=bf.cD Eu KR
theorem JY:type_of% (And.intro (And.intro @JZ (And.intro @JW @JX)) @fE):=(And.intro (And.intro @JZ (And.intro @JW @JX)) @fE)
end
end Go.Proofs.YtpklkpkfgmoghaaGreatDoor.Zz
namespace Go.Proofs.YtpklkpkfgmoghaaGreatDoor.Zz
theorem xe:∀(l:List UInt8) (n:Nat),l.foldl (fun n c=>n*10+(c.toNat - 48)) n=n*10 ^ l.length+dX l
 | [],n=>by simp [dX]
 | c::l,n=>by
  have h1:=xe l (n*10+(c.toNat - 48))
  have h2:=xe l (0*10+(c.toNat - 48))
  unfold dX at*
  simp only [List.foldl_cons,List.length_cons]
  rw [h1,h2,Nat.pow_succ]
  simp only [Nat.zero_mul,Nat.zero_add,Nat.add_mul,Nat.mul_assoc,Nat.mul_comm 10,Nat.add_assoc]
theorem Af (c:UInt8) (l:List UInt8):dX (c::l)=(c.toNat - 48)*10 ^ l.length+dX l:=by
 have:=xe l (0*10+(c.toNat - 48))
 simp only [Nat.zero_mul,Nat.zero_add] at this
 rw [←this]
 simp [dX]
theorem Dc:∀(s t:List UInt8),s.length=t.length→s.all dK=true→t.all dK=true→Op.bytesLess s t=true→dX s<dX t
 | [],[],_,_,_,h=>by simp [Op.bytesLess] at h
 | [],_::_,e,_,_,_=>by simp at e
 | _::_,[],e,_,_,_=>by simp at e
 | c::s,d::t,e,hs,ht,h=>by
  simp only [List.length_cons,Nat.add_right_cancel_iff] at e
  simp only [List.all_cons,Bool.and_eq_true] at hs ht
  have vs:=rG s hs.2
  have vt:=rG t ht.2
  have hc:=hs.1
  have hd:=ht.1
  simp only [dK,Bool.and_eq_true,decide_eq_true_eq] at hc hd
  rw [Af,Af,e]
  rw [e] at vs
  simp only [Op.bytesLess] at h
  by_cases jO:c<d
  ·have aeV:c.toNat<d.toNat:=jO
   have:=Nat.mul_le_mul_right (10 ^ t.length) (show c.toNat - 48+1≤d.toNat - 48 by omega)
   rw [Nat.add_mul] at this
   omega
  ·by_cases jQ:c=d
   ·subst jQ
    have hl:Op.bytesLess s t=true:=by simpa using h
    have:=Dc s t e hs.2 ht.2 hl
    omega
   ·simp [jO,jQ] at h
theorem Aj {s:List UInt8} (ha:s.all dK=true) (h:od s=true):s.length≤19∧dX s<9223372036854775808:=by
 unfold od at h
 simp only [Bool.and_eq_true,Bool.not_eq_true',Bool.or_eq_false_iff,decide_eq_false_iff_not,Bool.or_eq_true,decide_eq_true_eq,beq_iff_eq] at h
 obtain ⟨⟨_,h1⟩,h2⟩:=h
 refine ⟨by omega,?_⟩
 have em:dX YF=9223372036854775807:=by decide+kernel
 rcases h2 with h2 | h2 | h2
 ·have h3:=rG s ha
  have h4:=Nat.pow_le_pow_right (show 0<10 by decide) (show s.length≤18 by omega)
  have h5:(10:Nat) ^ 18=1000000000000000000:=by decide
  omega
 ·by_cases c:s.length=19
  ·have:=Dc s YF (by rw [c]; rfl) ha (by decide) h2
   omega
  ·have h3:=rG s ha
   have h4:=Nat.pow_le_pow_right (show 0<10 by decide) (show s.length≤18 by omega)
   have h5:(10:Nat) ^ 18=1000000000000000000:=by decide
   omega
 ·rw [h2,em]; decide
theorem NL (c:UInt8):isDigit (c.toNat:Int)=dK c:=by
 simp only [isDigit,dK]
 congr 1<;>· apply decide_eq_decide.2; omega
theorem Ec (l:List UInt8):(l.take (je isDigit l)).all dK=true:=by
 induction l with
 | nil=>rfl
 | cons c l ih=>
  rw [ko]
  split
  ·rename_i h; rw [NL] at h; simp [h]; simpa using ih
  ·rfl
structure G7 (t:Tok):Prop where
 ne:t.1≠0
 whole:t.1=2→t.2.1.all dK=true∧t.2.1≠[]∧t.2.1.length≤4096∧dX t.2.1<9223372036854775808
 dot:t.1=3→∃A B,iJ t.2.1 A B
theorem Lo {l:List UInt8} {p:Int} (hl:0<l.length) (hd:isDigit ((l.getD 0 0).toNat:Int)=true) (h:(lO l).2.2=true):G7 ((lO l).1,(lO l).2.1,p):=by
 have h1:=Br hl hd
 have h2:=lA isDigit l
 have hA:=Ec l
 unfold lO at h ⊢
 generalize hn:je isDigit l=n at*
 by_cases hc:(decide (n<l.length) && ((l.getD n 0).toNat:Int)==46)=true
 ·rw [if_pos hc] at h ⊢
  have h3:=lA isDigit (l.drop (n+1))
  have hB:=Ec (l.drop (n+1))
  rw [List.length_drop] at h3
  generalize je isDigit (l.drop (n+1))=m at*
  simp only [Bool.not_eq_true',Bool.or_eq_false_iff,decide_eq_false_iff_not] at h
  simp only [Bool.and_eq_true,decide_eq_true_eq,beq_iff_eq] at hc
  refine ⟨by simp,by simp,fun _=>⟨l.take n,(l.drop (n+1)).take m,?_,hA,hB,?_,?_,?_⟩⟩
  ·have e1:l.getD n 0=46:=by
    have:=hc.2
    have h46:(46:UInt8).toNat=46:=rfl
    exact UInt8.toNat_inj.1 (by omega)
   have e2:=drop_cons hc.1
   rw [e1] at e2
   show l.take (n+1+m)=_
   rw [Nat.add_assoc,List.take_add,e2,Nat.add_comm 1 m,List.take_succ_cons]
   simp
  ·rw [List.length_take]; omega
  ·rw [List.length_take,List.length_drop]; omega
  ·rw [List.length_take,List.length_take,List.length_drop]; omega
 ·rw [if_neg hc] at h ⊢
  have hw:=Aj hA h
  refine ⟨by simp,fun _=>⟨hA,?_,by have:=hw.1; simp only; omega,hw.2⟩,by simp⟩
  intro e
  have:=congrArg List.length e
  rw [List.length_take] at this
  simp only [List.length_nil] at this
  omega
theorem Ls {l:List UInt8} {p:Int} (hl:0<l.length) (h:(fR l).2.2=true):G7 ((fR l).1,(fR l).2.1,p):=by
 unfold fR at h ⊢
 split
 ·rename_i hd
  rw [if_pos hd] at h
  exact Lo hl hd h
 ·rename_i hd
  rw [if_neg hd] at h
  split
  ·split
   ·exact ⟨by simp,by simp,by simp⟩
   ·exact ⟨by simp,by simp,by simp⟩
  ·rename_i ht
   rw [if_neg ht] at h
   cases hf:fH l jx with
   | none=>rw [hf] at h; cases h
   | some x=>exact ⟨by simp,by simp,by simp⟩
theorem wZ:∀(n p:Nat) (l:List UInt8) (out:List Tok),l.length<n→(pG n p l out).2.2=0→∃(mid:List Tok) (a:Int),(pG n p l out).1=out++mid++[(0,[],a)]∧mid.length≤l.length∧∀t∈mid,G7 t
 | 0,_,_,_,h,_=>by omega
 | n+1,p,l,out,h,e=>by
  unfold pG at e ⊢
  by_cases c:l=[]
  ·rw [if_pos c] at e ⊢
   exact ⟨[],(p:Int),by simp,by simp,by simp⟩
  ·rw [if_neg c] at e ⊢
   have hl:0<l.length:=List.length_pos_iff.2 c
   by_cases jQ:(fR l).2.2=false
   ·rw [if_pos jQ] at e; cases e
   ·rw [if_neg jQ] at e ⊢
    have ht:(fR l).2.2=true:=by simpa using jQ
    have ok:=HO hl ht
    obtain ⟨mid,a,e1,e2,e3⟩:=wZ n _ _ _ (by rw [List.length_drop]; omega) e
    refine ⟨((fR l).1,(fR l).2.1,(p:Int))::mid,a,by rw [e1]; simp,?_,fun t m=>?_⟩
    ·rw [List.length_drop] at e2
     simp only [List.length_cons]
     omega
    ·simp only [List.mem_cons] at m
     rcases m with rfl | m
     ·exact Ls hl ht
     ·exact e3 t m
theorem EZ (x:List UInt8) (h:(tokens x).2.2=0):∃(mid:List Tok) (a:Int),(tokens x).1=mid++[(0,[],a)]∧mid.length≤4096∧∀t∈mid,G7 t:=by
 unfold tokens at h ⊢
 split at h
 ·cases h
 ·rename_i c
  rw [if_neg c]
  obtain ⟨mid,a,e1,e2,e3⟩:=wZ _ _ _ _ (by rw [List.length_drop]; omega) h
  rw [List.length_drop] at e2
  exact ⟨mid,a,by rw [e1]; simp,by omega,e3⟩
theorem L3 (x:List UInt8) (h:(tokens x).2.2=0):uw (tokens x).1∧0<(tokens x).1.length:=by
 obtain ⟨mid,a,e1,e2,e3⟩:=EZ x h
 rw [e1]
 refine ⟨⟨⟨by simp; omega,fun i t hi ht=>?_⟩,fun t m k=>?_,fun t m k=>?_⟩,by simp⟩
 ·rw [List.getElem?_append] at hi
  split at hi
  ·simp; omega
  ·rename_i c
   have:i - mid.length=0:=by
    have:=(List.getElem?_eq_some_iff.1 hi).1
    simp at this; omega
   rw [this] at hi
   cases hi
   exact (ht rfl).elim
 ·simp only [List.mem_append,List.mem_singleton] at m
  rcases m with m | rfl
  ·exact (e3 t m).whole k
  ·simp at k
 ·simp only [List.mem_append,List.mem_singleton] at m
  rcases m with m | rfl
  ·exact (e3 t m).dot k
  ·simp at k
end Go.Proofs.YtpklkpkfgmoghaaGreatDoor.Zz
