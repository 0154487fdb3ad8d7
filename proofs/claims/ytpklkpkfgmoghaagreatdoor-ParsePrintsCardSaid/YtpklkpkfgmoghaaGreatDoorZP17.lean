/- Contracts: the small parts of a parser. -/
import Derived.Test.YtpklkpkfgmoghaaGreatDoorZZH
import Derived.Test.YtpklkpkfgmoghaaGreatDoorZZF
set_option linter.unnecessarySimpa false
set_option linter.unusedVariables false
set_option linter.unusedSimpArgs false
set_option maxRecDepth 20000
namespace Go.Proofs.YtpklkpkfgmoghaaGreatDoor.Zz
noncomputable section
def aeQ:cj:=⟨⟨[],[],[(1,8)],[],[],[]⟩,[(1,[0,1,2,3,4,5,6,7,8,9,10])],[],false⟩
def aaY:dL:=
 sO [oQ (.alloc [(.int .i64 0),(.str []),(.int .i64 0)]) 2]
 (.seq (.fD 3 [oM 0 3,
 oN 3 4,
 oF 0 4 5,
 oL 5 6,
 oM 0 7,
 oN 7 8,
 oF 1 8 9,
 oL 9 10,
 oI 3 6 10 11,
 oJ 3 11 12,
 oS 3 2 12])
 (.ret))
theorem abw:bJ Tryz.prog 36 aeQ=some (aaY,[.cell 2 (some 3)],13):=by kernel_rfl
def aeR:cj:=⟨⟨[],[(1,1)],[],[],[],[]⟩,[],[],false⟩
def aaZ:dL:=
 sO [oP (.cy (kB false)) 4]
 (sO [oM 0 6,
 oC 36 [.t 6] 7,
 oQ (.alloc [(.int .i64 0),(.str []),(.int .i64 0)]) 5,
 oS 3 5 7]
 (sO [oF 1 5 8,
 oL 8 9,
 oM 1 10,
 oE .eql 9 10 11,
 oM 11 12,
 oG (.fieldAddr 0 (.t 5)) 13 12 true true,
 oG (.load none (.t 13)) 14 12 true false,
 oG (.bin .eql (.t 14) (kI 5)) 15 12 true true,
 oG (.cy (.t 15)) 16 12 true true,
 oG (.fieldAddr 0 (.t 5)) 17 16 false true,
 oG (.load none (.t 17)) 18 16 false false,
 oG (.bin .eql (.t 18) (kI 4)) 19 16 false true,
 oG (.pick (.t 16) (kB true) (.t 19)) 20 12 true true,
 oP (.pick (.t 12) (.t 20) (kB false)) 21,
 oM 21 4]
 (.ret)))
theorem abx:bJ Tryz.prog 37 aeR=some (aaZ,[.tmp 4],22):=by kernel_rfl
def aeS:cj:=⟨⟨[],[(0,1)],[],[],[],[]⟩,[],[],false⟩
def aa0:dL:=
 .ops [oM 0 4,
 oC 36 [.t 4] 5,
 oP (.field 2 none (.t 5)) 6,
 oM 1 7,
 oP (.build [(.int .i64 0),(.int .i64 0)] [(0,1,(.t 6)),(1,1,(.t 7))]) 8,
 oP (.mw 56 (.t 8)) 9,
 oU (.panic (.t 9))]
theorem aby:bJ Tryz.prog 38 aeS=some (aa0,[],10):=by kernel_rfl
def aeZ:cj:=⟨⟨[],[(1,2)],[],[],[],[]⟩,[],[],false⟩
def aa5:dL:=
 sO [oP (.cy (kB false)) 4]
 (.seq (sO [oM 0 5,
 oM 1 6,
 oC 37 [.t 5,.t 6] 7]
 (.cond (.t 7)
 (sO [oM 0 8,
 oN 8 9,
 oF 1 9 10,
 oL 10 11,
 oH .add 11 1 12,
 oN 8 13,
 oF 1 13 14,
 oS 1 14 12]
 (sO [oP (.cy (kB true)) 4]
 (.ret)))
 (.skip)))
 (sO [oP (.cy (kB false)) 4]
 (.ret)))
theorem abD:bJ Tryz.prog 57 aeZ=some (aa5,[.tmp 4],15):=by kernel_rfl
def ae0:cj:=⟨⟨[],[(1,1),(3,1)],[],[],[],[]⟩,[],[],false⟩
def aa6:dL:=
 sO [oP (.cy (kS [])) 2]
 (sO [oM 0 4,
 oC 36 [.t 4] 5,
 oQ (.alloc [(.int .i64 0),(.str []),(.int .i64 0)]) 3,
 oS 3 3 5]
 (.seq (sO [oF 0 3 6,
 oL 6 7,
 oH .neq 7 1 8]
 (.cond (.t 8)
 (.ops [oM 0 9,
 oC 38 [.t 9,kI 110] 10])
 (.skip)))
 (sO [oM 0 11,
 oN 11 12,
 oF 1 12 13,
 oL 13 14,
 oH .add 14 1 15,
 oN 11 16,
 oF 1 16 17,
 oS 1 17 15]
 (sO [oF 1 3 18,
 oL 18 19,
 oM 19 2]
 (.ret)))))
theorem abE:bJ Tryz.prog 58 ae0=some (aa6,[.tmp 2],20):=by kernel_rfl
def ae2:cj:=⟨⟨[],[(0,2),(1,1)],[],[],[],[]⟩,[],[],false⟩
def aa8:dL:=
 sO [oM 0 4,
 oM 1 5,
 oC 57 [.t 4,.t 5] 6,
 oP (.un .not (.t 6)) 7]
 (.cond (.t 7)
 (.ops [oM 0 8,
 oC 38 [.t 8,kI 110] 9])
 (.skip))
theorem abG:bJ Tryz.prog 60 ae2=some (aa8,[],10):=by kernel_rfl
def b9 (l:List cH) (s:PS):cR:=.cells [.sl (lP l),.int .i64 s.pos,.int .i64 s.cQ,.int .i64 s.deep]
structure cJ (l:List cH) (s:PS):Prop where
 p0p:0≤s.pos
 Ut:s.pos<l.length
 n0:0≤s.cQ
 n1:s.cQ≤2000
 d0:0≤s.deep
 d1:s.deep≤40
structure FV (l:List cH):Prop where
 len:l.length≤10000
 fin:∀i t,l[i]? =some t→t.1≠0→i+1<l.length
def mZ (a e:Int):D:=.iface 56 (.agg [.int .i64 a,.int .i64 e])
def AF (l:List cH) (s:PS):Prop:=0≤s.pos∧s.pos<l.length
theorem cJ.at_ {l:List cH} {s:PS} (ok:cJ l s):AF l s:=⟨ok.p0p,ok.Ut⟩
theorem l5 {l:List cH} {s:PS} (ok:AF l s):l[s.pos.toNat]? =some (d8 l s):=by
 obtain ⟨h1,h2⟩:=ok
 rw [d8,List.getD_eq_getElem?_getD,List.getElem?_eq_getElem (by omega)]
 rfl
theorem MZ {K:D→aa→Prop} {h:aa} {l:List cH} {s:PS} (ok:AF l s):iI 3 K h (lP l) s.pos=K (.c8 (gj (d8 l s).1 (d8 l s).2.1 (d8 l s).2.2) 0) h:=by
 have h1:=ok.1
 have h2:=ok.2
 have:=lL (K:=K) (h:=h) (l:=l) (i:=s.pos) (f:=fun t:cH=>gj t.1 t.2.1 t.2.2) (sz:=3) fun _=>rfl
 show iI 3 K h (l.map fun t:cH=>gj t.1 t.2.1 t.2.2) s.pos=_
 rw [this]
 apply propext
 constructor
 ·intro hh; exact hh.2 _ (l5 ok)
 ·intro hh
  refine ⟨⟨h1,h2⟩,fun x hx=>?_⟩
  rw [l5 ok] at hx
  cases hx
  exact hh
theorem Eu {h:aa} {id:Nat} {o:cR} (e:h.f id=some o):h.set id o=h:=aa.ext fun q=>by
 simp only [aa.dN]
 split
 ·ab c; subst c; exact e.symm
 ·rfl
theorem aad (l:List cH) (s:PS) (id:Nat) (ok:AF l s):aQ Tryz.prog 36 [.ptr id 1 0] (aa.emp.set id (b9 l s)) fun o h'=>∃d,o=.ret d∧d=.agg (gj (d8 l s).1 (d8 l s).2.1 (d8 l s).2.2)∧h'=aa.emp.set id (b9 l s):=by
 refine aQ.L2 (bm.eH _) abw (by simp) ?_
 have hn:=fun (K:D→aa→Prop) (h:aa)=>MZ (K:=K) (h:=h) ok
 simp (maxSteps:=1000000) only [aaY,b9,fw,gj,hn,aD,seval]
 intro i2 n1 n2
 simp (maxSteps:=1000000) only [n1,n2,fw,gj,hn,aD,seval]
 exact ⟨_,sub_one (by simp [n2]),rfl⟩
def Nr (args:List D) (h:aa) (K:D→aa→Prop):Prop:=∃(l:List cH) (s:PS) (id:Nat),args=[.ptr id 1 0]∧h.f id=some (b9 l s)∧AF l s∧K (.agg (gj (d8 l s).1 (d8 l s).2.1 (d8 l s).2.2)) h
theorem Lr (args:List D) (h:aa) (K K':D→aa→Prop) (hk:∀d h,K d h→K' d h) (c:Nr args h K):Nr args h K':=by
 obtain ⟨l,s,id,a,b,c,d⟩:=c
 exact ⟨l,s,id,a,b,c,hk _ _ d⟩
theorem RQ (args:List D) (h:aa) (K:D→aa→Prop) (c:Nr args h K):aQ Tryz.prog 36 args h fun o h'=>∃d,o=.ret d∧K d h':=by
 obtain ⟨l,s,id,rfl,b,c,d⟩:=c
 refine (aQ.Gm (sub_one b) (aad l s id c)).mono fun o h' ⟨h1,⟨x,e1,e2,e3⟩,e4⟩=>⟨x,e1,?_⟩
 rw [e2,e4,e3,pn b,Eu b]
 exact d
def t8:bm:=bm.zero.FZ 36 Nr Lr
theorem Jr:t8.q=bm.zero.q:=rfl
theorem Jp:t8.a=bm.zero.a:=rfl
theorem Jq (g:FuncId) (args:List D) (h:aa) (K E:D→aa→Prop):t8.c g args h K E=if g=36 then Nr args h K else bm.zero.c g args h K E:=rfl
theorem xn:t8.ok Tryz.prog:=bm.qy (bm.eH _) RQ
theorem u6:a7% (And.intro @Jr (And.intro @Jp @Jq)):=(And.intro @Jr (And.intro @Jp @Jq))
def Cn (args:List D) (h:aa) (K E:D→aa→Prop):Prop:=∃(l:List cH) (s:PS) (id:Nat) (e:Int),args=[.ptr id 1 0,.int .i64 e]∧h.f id=some (b9 l s)∧AF l s∧E (mZ (d8 l s).2.2 e) h
theorem F8 (args:List D) (h:aa) (K E K' E':D→aa→Prop) (hk:∀d h,K d h→K' d h) (he:∀d h,E d h→E' d h) (c:Cn args h K E):Cn args h K' E':=by
 obtain ⟨l,s,id,e,a,b,c,d⟩:=c
 exact ⟨l,s,id,e,a,b,c,he _ _ d⟩
theorem M_ (args:List D) (h:aa) (K E:D→aa→Prop) (c:Cn args h K E):aQ Tryz.prog 38 args h (dF.to K E):=by
 obtain ⟨l,s,id,e,rfl,b,c,d⟩:=c
 refine aQ.du xn (dc:=cS.none) (fun _ _=>cS.eV) (by kernel_rfl) aby (by simp) ?_
 rw [dK]
 simp (maxSteps:=1000000) only [aa0,u6,aD,seval]
 refine ⟨l,s,id,rfl,b,c,?_⟩
 simp (maxSteps:=1000000) only [gj,Bm,bB,ae,az,u6,aD,seval]
 exact ⟨h,aa.aU h,d⟩
def ub:bm:=t8.kc 38 Cn F8
theorem Jx:ub.q=t8.q:=rfl
theorem Jv:ub.a=t8.a:=rfl
theorem Jw (g:FuncId) (args:List D) (h:aa) (K E:D→aa→Prop):ub.c g args h K E=if g=38 then Cn args h K E else t8.c g args h K E:=rfl
theorem PG:ub.ok Tryz.prog:=bm.cL xn M_
theorem rM:a7% (And.intro (And.intro @Jx (And.intro @Jv @Jw)) @u6):=(And.intro (And.intro @Jx (And.intro @Jv @Jw)) @u6)
def cP {α:Type} (sp:PS→PR α) (enc:α→D) (l:List cH) (s:PS) (id:Nat) (h:aa) (K E:D→aa→Prop):Prop:=
 h.f id=some (b9 l s)∧cJ l s∧jG (sp s) (fun x s'=>cJ l s'→K (enc x) (h.set id (b9 l s'))) (fun a e=>∀s',E (mZ a e) (h.set id (b9 l s')))
theorem eO {α:Type} {sp:PS→PR α} {enc:α→D} {l:List cH} {s:PS} {id:Nat} {h:aa} {K E K' E':D→aa→Prop} (hk:∀d h,K d h→K' d h) (he:∀d h,E d h→E' d h) (c:cP sp enc l s id h K E):cP sp enc l s id h K' E':=
 ⟨c.1,c.2.1,gO (fun x s' k ok=>hk _ _ (k ok)) (fun a e k s'=>he _ _ (k s')) c.2.2⟩
def lF {α:Type} (enc:α→D) (l:List cH) (id:Nat) (K0:α→PS→Prop) (E0:Int→Int→Prop) (o:dF) (h':aa):Prop:=
 match o with
 | .ret d=>∃x s',d=enc x∧h'=aa.emp.set id (b9 l s')∧K0 x s'
 | .panic d=>∃a e s',d=mZ a e∧h'=aa.emp.set id (b9 l s')∧E0 a e
theorem jq {α:Type} {sp:PS→PR α} {enc:α→D} {l:List cH} {s:PS} {id:Nat} {h:aa} {K E:D→aa→Prop} {f:FuncId} {args:List D}
  (adN:cJ l s→∀(K0:α→PS→Prop) (E0:Int→Int→Prop),jG (sp s) (fun x s'=>cJ l s'→K0 x s') E0→aQ Tryz.prog f args (aa.emp.set id (b9 l s)) (lF enc l id K0 E0)) (c:cP sp enc l s id h K E):aQ Tryz.prog f args h (dF.to K E):=by
 obtain ⟨b,ok,hw⟩:=c
 refine (aQ.Gm (sub_one b) (adN ok (fun x s'=>K (enc x) (h.set id (b9 l s'))) (fun a e=>∀s',E (mZ a e) (h.set id (b9 l s'))) hw)).mono fun o h' ⟨h1,e1,e4⟩=>?_
 cases o with
 | ret d=>
  obtain ⟨x,s',e2,e3,k⟩:=e1
  show K d h'
  rw [e2,e4,e3,pn b]
  exact k
 | panic d=>
  obtain ⟨a,e,s',e2,e3,k⟩:=e1
  show E d h'
  rw [e2,e4,e3,pn b]
  exact k s'
theorem cv {α:Type} {enc:α→D} {l:List cH} {id:Nat} {K0:α→PS→Prop} {E0:Int→Int→Prop} {h:aa} {d:D} {x:α} {s':PS} {C:Prop} (e:d=enc x) (fE:h.f id=some (b9 l s')) (k:K0 x s'):
  (∃h',h'.sub h∧lF enc l id K0 E0 (.ret d) h')∨C:=.inl ⟨_,sub_one fE,x,s',e,rfl,k⟩
theorem fU {α:Type} {enc:α→D} {l:List cH} {id:Nat} {K0:α→PS→Prop} {E0:Int→Int→Prop} {h:aa} {d:D} {x:α} {s':PS} {C:Prop} (e:d=enc x) (fE:h.f id=some (b9 l s')) (k:K0 x s'):
  C∨∃h',h'.sub h∧lF enc l id K0 E0 (.ret d) h':=.inr ⟨_,sub_one fE,x,s',e,rfl,k⟩
theorem aef (l:List cH) (s:PS) (id:Nat) (x:List UInt8) (ok:AF l s):aQ Tryz.prog 37 [.ptr id 1 0,.str x] (aa.emp.set id (b9 l s)) fun o h'=>∃d,o=.ret d∧d=.bool (lZ l x s)∧h'=aa.emp.set id (b9 l s):=by
 refine aQ.L2 xn abx (by simp) ?_
 simp (maxSteps:=1000000) only [aaZ,fw,rM,aD,seval]
 refine ⟨l,s,id,rfl,by simp,ok,?_⟩
 unfold lZ
 generalize d8 l s=t
 obtain ⟨k,y,a⟩:=t
 simp (maxSteps:=1000000) only [gj,fw,rM,aD,seval]
 intro i2 n1 n2
 cases jU:(y==x)<;>cases jW:(k==5)<;>cases jX:(k==4)
 bf
  simp (maxSteps:=1000000) only [jU,jW,jX,n1,n2,fw,rM,aD,seval]
  exact ⟨_,sub_one (by simp [n2]),rfl⟩
def YT (args:List D) (h:aa) (K:D→aa→Prop):Prop:=∃(l:List cH) (s:PS) (id:Nat) (x:List UInt8),args=[.ptr id 1 0,.str x]∧h.f id=some (b9 l s)∧AF l s∧K (.bool (lZ l x s)) h
theorem Ni (args:List D) (h:aa) (K K':D→aa→Prop) (hk:∀d h,K d h→K' d h) (c:YT args h K):YT args h K':=by
 obtain ⟨l,s,id,x,a,b,c,d⟩:=c
 exact ⟨l,s,id,x,a,b,c,hk _ _ d⟩
theorem VP (args:List D) (h:aa) (K:D→aa→Prop) (c:YT args h K):aQ Tryz.prog 37 args h fun o h'=>∃d,o=.ret d∧K d h':=by
 obtain ⟨l,s,id,x,rfl,b,c,d⟩:=c
 refine (aQ.Gm (sub_one b) (aef l s id x c)).mono fun o h' ⟨h1,⟨x,e1,e2,e3⟩,e4⟩=>⟨x,e1,?_⟩
 rw [e2,e4,e3,pn b,Eu b]
 exact d
def t_:bm:=ub.FZ 37 YT Ni
theorem Ju:t_.q=ub.q:=rfl
theorem Js:t_.a=ub.a:=rfl
theorem Jt (g:FuncId) (args:List D) (h:aa) (K E:D→aa→Prop):t_.c g args h K E=if g=37 then YT args h K else ub.c g args h K E:=rfl
theorem ES:t_.ok Tryz.prog:=bm.qy PG VP
theorem rL:a7% (And.intro (And.intro @Ju (And.intro @Js @Jt)) @rM):=(And.intro (And.intro @Ju (And.intro @Js @Jt)) @rM)
theorem uY {l:List cH} {s:PS} {x:List UInt8} (hl:FV l) (ok:cJ l s) (h:lZ l x s=true):cJ l (cE s):=by
 obtain ⟨h1,h2,h3,h4,h5,h6⟩:=ok
 have:=hl.fin _ _ (l5 ⟨h1,h2⟩) (fun e=>by simp [lZ,e] at h)
 exact ⟨by simp only [cE]; omega,by simp only [cE]; omega,h3,h4,h5,h6⟩
theorem XP (l:List cH) (hl:FV l) (s:PS) (id:Nat) (x:List UInt8) (ok:cJ l s) (K0:Bool→PS→Prop) (E0:Int→Int→Prop) (hw:jG (dI l x s) (fun x s'=>cJ l s'→K0 x s') E0):aQ Tryz.prog 57 [.ptr id 1 0,.str x] (aa.emp.set id (b9 l s)) (lF D.bool l id K0 E0):=by
 refine aQ.du ES (dc:=cS.none) (fun _ _=>cS.eV) (by kernel_rfl) abD (by simp) ?_
 rw [dK]
 have w1:IntKind.i64.wrap (s.pos+1)=s.pos+1:=wrap_i64 (by have:=ok.p0p; omega) (by have:=ok.Ut; have:=hl.len; omega)
 unfold dI at hw
 simp (maxSteps:=1000000) only [aa5,rL,aD,seval]
 refine ⟨l,s,id,x,rfl,by simp,ok.at_,?_⟩
 cases c:lZ l x s with
 | true=>
  have pv:=uY hl ok c
  rw [c,cond_true,cu] at hw
  simp (maxSteps:=1000000) only [b9,w1,ah,ae,az,rL,aD,seval]
  exact cv (x:=true) (s':=cE s) rfl (by simp [b9,cE]) (hw pv)
 | false=>
  rw [c,cond_false,cu] at hw
  simp (maxSteps:=1000000) only [ah,ae,az,rL,aD,seval]
  exact cv (x:=false) (s':=s) rfl (by simp) (hw ok)
def Cu (args:List D) (h:aa) (K E:D→aa→Prop):Prop:=∃(l:List cH) (s:PS) (id:Nat) (x:List UInt8),args=[.ptr id 1 0,.str x]∧FV l∧cP (dI l x) D.bool l s id h K E
theorem Ge (args:List D) (h:aa) (K E K' E':D→aa→Prop) (hk:∀d h,K d h→K' d h) (he:∀d h,E d h→E' d h) (c:Cu args h K E):Cu args h K' E':=by
 obtain ⟨l,s,id,x,a,b,c⟩:=c
 exact ⟨l,s,id,x,a,b,eO hk he c⟩
theorem Nv (args:List D) (h:aa) (K E:D→aa→Prop) (c:Cu args h K E):aQ Tryz.prog 57 args h (dF.to K E):=by
 obtain ⟨l,s,id,x,rfl,hl,c⟩:=c
 exact jq (fun ok K0 E0 hw=>XP l hl s id x ok K0 E0 hw) c
def um:bm:=t_.kc 57 Cu Ge
theorem J7:um.q=t_.q:=rfl
theorem J5:um.a=t_.a:=rfl
theorem J6 (g:FuncId) (args:List D) (h:aa) (K E:D→aa→Prop):um.c g args h K E=if g=57 then Cu args h K E else t_.c g args h K E:=rfl
theorem E1:um.ok Tryz.prog:=bm.cL ES Nv
theorem rN:a7% (And.intro (And.intro @J7 (And.intro @J5 @J6)) @rL):=(And.intro (And.intro @J7 (And.intro @J5 @J6)) @rL)
theorem aC {α:Type} {enc:α→D} {l:List cH} {id:Nat} {K0:α→PS→Prop} {E0:Int→Int→Prop} {h:aa} {a e:Int} {s':PS} (fE:h.f id=some (b9 l s')) (k:E0 a e):
  ∃h',h'.sub h∧lF enc l id K0 E0 (.panic (mZ a e)) h':=⟨_,sub_one fE,a,e,s',rfl,rfl,k⟩
theorem WJ (l:List cH) (hl:FV l) (s:PS) (id:Nat) (x:List UInt8) (ok:cJ l s) (K0:Unit→PS→Prop) (E0:Int→Int→Prop) (hw:jG (fq l x s) (fun x s'=>cJ l s'→K0 x s') E0):aQ Tryz.prog 60 [.ptr id 1 0,.str x] (aa.emp.set id (b9 l s)) (lF (fun _=>.tuple []) l id K0 E0):=by
 refine aQ.du E1 (dc:=cS.none) (fun _ _=>cS.eV) (by kernel_rfl) abG (by simp) ?_
 rw [dK]
 simp (maxSteps:=1000000) only [aa8,rN,aD,seval]
 refine ⟨l,s,id,x,rfl,hl,by simp,ok,?_⟩
 unfold fq at hw
 unfold dI
 cases c:lZ l x s with
 | true=>
  rw [c,cond_true,cu] at hw
  rw [cond_true,cu]
  intro pv
  simp (maxSteps:=1000000) only [af,ae,az,rN,aD,seval]
  exact cv (x:=()) (s':=cE s) rfl (by simp) (hw pv)
 | false=>
  rw [c,cond_false] at hw
  rw [cond_false,cu]
  intro _
  simp (maxSteps:=1000000) only [rN,aD,seval]
  refine ⟨l,s,id,110,rfl,by simp,ok.at_,?_⟩
  simp only [bB,ae,az]
  exact aC (s':=s) (by simp) hw
def Co (args:List D) (h:aa) (K E:D→aa→Prop):Prop:=∃(l:List cH) (s:PS) (id:Nat) (x:List UInt8),args=[.ptr id 1 0,.str x]∧FV l∧cP (fq l x) (fun _=>.tuple []) l s id h K E
theorem F9 (args:List D) (h:aa) (K E K' E':D→aa→Prop) (hk:∀d h,K d h→K' d h) (he:∀d h,E d h→E' d h) (c:Co args h K E):Co args h K' E':=by
 obtain ⟨l,s,id,x,a,b,c⟩:=c
 exact ⟨l,s,id,x,a,b,eO hk he c⟩
theorem Nn (args:List D) (h:aa) (K E:D→aa→Prop) (c:Co args h K E):aQ Tryz.prog 60 args h (dF.to K E):=by
 obtain ⟨l,s,id,x,rfl,hl,c⟩:=c
 exact jq (fun ok K0 E0 hw=>WJ l hl s id x ok K0 E0 hw) c
def ur:bm:=um.kc 60 Co F9
theorem Kh:ur.q=um.q:=rfl
theorem Kf:ur.a=um.a:=rfl
theorem Kg (g:FuncId) (args:List D) (h:aa) (K E:D→aa→Prop):ur.c g args h K E=if g=60 then Co args h K E else um.c g args h K E:=rfl
theorem E4:ur.ok Tryz.prog:=bm.cL E1 Nn
theorem mQ:a7% (And.intro (And.intro @Kh (And.intro @Kf @Kg)) @rN):=(And.intro (And.intro @Kh (And.intro @Kf @Kg)) @rN)
theorem WK (l:List cH) (hl:FV l) (s:PS) (id:Nat) (ok:cJ l s) (K0:List UInt8→PS→Prop) (E0:Int→Int→Prop) (hw:jG (iN l s) (fun x s'=>cJ l s'→K0 x s') E0):aQ Tryz.prog 58 [.ptr id 1 0] (aa.emp.set id (b9 l s)) (lF D.str l id K0 E0):=by
 refine aQ.du E4 (dc:=cS.none) (fun _ _=>cS.eV) (by kernel_rfl) abE (by simp) ?_
 rw [dK]
 have w1:IntKind.i64.wrap (s.pos+1)=s.pos+1:=wrap_i64 (by have:=ok.p0p; omega) (by have:=ok.Ut; have:=hl.len; omega)
 simp (maxSteps:=1000000) only [aa6,mQ,aD,seval]
 refine ⟨l,s,id,rfl,by simp,ok.at_,?_⟩
 unfold iN at hw
 have ady:=hl.fin _ _ (l5 ok.at_)
 have Sf:∀(α:Type) (e:Int),(il l e s:PR α)=.fail (d8 l s).2.2 e:=fun _ _=>rfl
 cases c:((d8 l s).1==1) with
 | true=>
  have c':((d8 l s).1 != 1)=false:=by simpa using c
  rw [c,cond_true,cu] at hw
  have pv:cJ l (cE s):=by
   have:=ady (by simp at c; omega)
   obtain ⟨h1,h2,h3,h4,h5,h6⟩:=ok
   exact ⟨by simp only [cE]; omega,by simp only [cE]; omega,h3,h4,h5,h6⟩
  have k:=hw pv
  generalize d8 l s=t at*
  obtain ⟨kk,y,a⟩:=t
  simp (maxSteps:=1000000) only [gj,mQ,aD,seval]
  intro i2 n1 n2
  simp only at c c'
  simp (maxSteps:=1000000) only [b9,c',n1,n2,w1,ah,ae,az,mQ,aD,seval]
  exact cv (x:=y) (s':=cE s) rfl (by simp [b9,cE,n1,n2]) k
 | false=>
  have c':((d8 l s).1 != 1)=true:=by simpa using c
  rw [c,cond_false] at hw
  have hw':E0 (d8 l s).2.2 110:=hw
  generalize ht:d8 l s=t at*
  obtain ⟨kk,y,a⟩:=t
  simp (maxSteps:=1000000) only [gj,mQ,aD,seval]
  intro i2 n1 n2
  simp only at c c'
  simp (maxSteps:=1000000) only [c',n1,n2,mQ,aD,seval]
  refine ⟨l,s,id,110,rfl,by simp [n1,n2],ok.at_,?_⟩
  simp only [bB,ae,az]
  rw [ht]
  exact aC (s':=s) (by simp [n1,n2]) hw'
def Cp (args:List D) (h:aa) (K E:D→aa→Prop):Prop:=∃(l:List cH) (s:PS) (id:Nat) ,args=[.ptr id 1 0]∧FV l∧cP (iN l) D.str l s id h K E
theorem F_ (args:List D) (h:aa) (K E K' E':D→aa→Prop) (hk:∀d h,K d h→K' d h) (he:∀d h,E d h→E' d h) (c:Cp args h K E):Cp args h K' E':=by
 obtain ⟨l,s,id,a,b,c⟩:=c
 exact ⟨l,s,id,a,b,eO hk he c⟩
theorem Np (args:List D) (h:aa) (K E:D→aa→Prop) (c:Cp args h K E):aQ Tryz.prog 58 args h (dF.to K E):=by
 obtain ⟨l,s,id,rfl,hl,c⟩:=c
 exact jq (fun ok K0 E0 hw=>WK l hl s id  ok K0 E0 hw) c
def uo:bm:=ur.kc 58 Cp F_
theorem Ka:uo.q=ur.q:=rfl
theorem J8:uo.a=ur.a:=rfl
theorem J9 (g:FuncId) (args:List D) (h:aa) (K E:D→aa→Prop):uo.c g args h K E=if g=58 then Cp args h K E else ur.c g args h K E:=rfl
theorem PX:uo.ok Tryz.prog:=bm.cL E4 Np
theorem J_:a7% (And.intro (And.intro @Ka (And.intro @J8 @J9)) @mQ):=(And.intro (And.intro @Ka (And.intro @J8 @J9)) @mQ)
end
end Go.Proofs.YtpklkpkfgmoghaaGreatDoor.Zz
namespace Go.Proofs.YtpklkpkfgmoghaaGreatDoor.Zz
noncomputable section
def aeP:cj:=⟨⟨[],[(3,1)],[],[],[],[]⟩,[],[],false⟩
def Xw:dL:=
 sO [oQ (.box (.t 1)) 3,
 oA 4]
 (.seq (sO [oM 0 5,
 oN 5 6,
 oF 2 6 7,
 oL 7 8,
 oH .add 8 1 9,
 oN 5 10,
 oF 2 10 11,
 oS 1 11 9]
 (sO [oM 0 12,
 oN 12 13,
 oF 2 13 14,
 oL 14 15,
 oH .gtr 15 2000 16]
 (.cond (.t 16)
 (.ops [oM 0 17,
 oC 38 [.t 17,kI 3] 18])
 (.skip))))
 (sO [oJ 5 3 19,
 oS 5 4 19]
 (.ret)))
theorem UM:bJ Tryz.prog 35 aeP=some (Xw,[.cell 4 (some 5)],20):=by kernel_rfl
def aeW:cj:=⟨⟨[],[],[],[],[],[]⟩,[],[],false⟩
def aa3:dL:=
 sO [oP (.cy (kS [])) 2]
 (.seq (sO [oM 0 3]
 (.block 0 (sO [oH .eql 3 1 5,
 oM 5 4]
 (.cond (.t 4)
 (sO [oP (.cy (kS [105,110,116])) 2]
 (.ret))
 (sO [oH .eql 3 2 7,
 oM 7 6]
 (.cond (.t 6)
 (sO [oP (.cy (kS [102,108,111,97,116])) 2]
 (.ret))
 (sO [oH .eql 3 3 9,
 oM 9 8]
 (.cond (.t 8)
 (sO [oP (.cy (kS [98,111,111,108])) 2]
 (.ret))
 (.skip)))))))))
 (sO [oP (.cy (kS [])) 2]
 (.ret)))
theorem abB:bJ Tryz.prog 41 aeW=some (aa3,[.tmp 2],10):=by kernel_rfl
def ae1:cj:=⟨⟨[],[(4,3),(6,1)],[],[],[],[]⟩,[],[],false⟩
def aa7:dL:=
 sO [oP (.cy (kI 0)) 2]
 (.seq (sO [oP (.cy (kI 1)) 3]
 (.block 0 (.loop (.seq (sO [oM 3 4,
 oH .leq 4 3 5]
 (.cond (.t 5)
 (.skip)
 (.exit 0)))
 (.seq (.block 1 (sO [oM 0 8,
 oM 3 9,
 oD 41 [.t 9] 10,
 oC 57 [.t 8,.t 10] 11]
 (.cond (.t 11)
 (sO [oM 3 12,
 oM 12 2]
 (.ret))
 (.skip))))
 (.ops [oM 3 6,
 oH .add 6 1 7,
 oM 7 3]))))))
 (sO [oM 0 13,
 oC 38 [.t 13,kI 110] 14]
 (sO [oP (.cy (kI 0)) 2]
 (.ret))))
theorem abF:bJ Tryz.prog 59 ae1=some (aa7,[.tmp 2],15):=by kernel_rfl
def ae6:cj:=⟨⟨[],[(3,1)],[],[],[],[]⟩,[],[],false⟩
def En:dL:=
 sO [oQ (.box (.t 0)) 1,
 oP (.cy (.c .eU)) 2]
 (.seq (sO [oL 1 3,
 oN 3 4,
 oF 3 4 5,
 oL 5 6,
 oH .add 6 1 7,
 oN 3 8,
 oF 3 8 9,
 oS 1 9 7]
 (sO [oL 1 10,
 oN 10 11,
 oF 3 11 12,
 oL 12 13,
 oH .gtr 13 40 14]
 (.cond (.t 14)
 (.ops [oL 1 15,
 oC 38 [.t 15,kI 3] 16])
 (.skip))))
 (sO [oP (.mkFunc (.func 100) [] [(.t 1)]) 17,
 oM 17 2]
 (.ret)))
theorem abK:bJ Tryz.prog 84 ae6=some (En,[.tmp 2],18):=by kernel_rfl
def aal:cj:=⟨⟨[],[],[],[],[],[]⟩,[],[],false⟩
def UE:dL:=
 .ops [oL 0 1,
 oN 1 2,
 oF 3 2 3,
 oL 3 4,
 oH .sub 4 1 5,
 oN 1 6,
 oF 3 6 7,
 oS 1 7 5]
theorem XA:bJ Tryz.prog 100 aal=some (UE,[],8):=by kernel_rfl
def fI (t:Int):List UInt8:=bif t==1 then mR else bif t==2 then fP else bif t==3 then xF else []
theorem Hp (t:Int):aO Tryz.prog 41 [.int .i64 t] (.str (fI t)):=by
 refine aO.run (bm.eH _) abB (by simp) fun E=>?_
 unfold fI
 cases jU:(t==1)<;>cases jW:(t==2)<;>cases jX:(t==3)
 bf simp (maxSteps:=1000000) only [aa3,jU,jW,jX,mR,fP,xF,aD,seval]
def yd:List D→Option D
 | [.int .i64 t]=>some (.str (fI t))
 | _=>none
theorem Iy (args:List D) (d:D) (h:yd args=some d):aO Tryz.prog 41 args d:=by
 unfold yd at h
 split at h
 ·cases h; exact Hp _
 ·cases h
def ud:bm:=uo.dh 41 yd
theorem JE (g:FuncId) (args:List D):ud.q g args=if g=41 then yd args else uo.q g args:=rfl
theorem JC:ud.a=uo.a:=rfl
theorem JD:ud.c=uo.c:=rfl
theorem EW:ud.ok Tryz.prog:=bm.bq PX Iy
theorem mO:a7% (And.intro (And.intro @JE (And.intro @JC @JD)) @J_):=(And.intro (And.intro @JE (And.intro @JC @JD)) @J_)
theorem ab5 (l:List cH) (hl:FV l) (s:PS) (id:Nat) (ok:cJ l s) (K0:Int→PS→Prop) (E0:Int→Int→Prop) (hw:jG (pw l s) (fun x s'=>cJ l s'→K0 x s') E0):aQ Tryz.prog 59 [.ptr id 1 0] (aa.emp.set id (b9 l s)) (lF (fun t=>D.int .i64 t) l id K0 E0):=by
 refine aQ.du EW (dc:=cS.none) (fun _ _=>cS.eV) (by kernel_rfl) abF (by simp) ?_
 rw [dK]
 simp (maxSteps:=1000000) only [aa7,mO,aD,seval]
 refine c6 (X:=Nat) (fun i=>[(0,.ptr id 1 0),(3,.int .i64 i)]) (fun _=>aa.emp.set id (b9 l s)) (fun i=>4 - i) (fun i=>1≤i∧i≤4∧∀j:Nat,1≤j→j<i→lZ l (fI j) s=false) 1 ⟨by omega,by omega,fun j h1 h2=>by omega⟩ (by simp only [aD,seval]) (aa.aU _) ?_
 rintro i Q ⟨i1,i2,i3⟩ hQ
 have ZX:∀(hi:i≤3) (b:Bool),lZ l (fI i) s=b→(b=true→jG (pw l s) (fun x s'=>cJ l s'→K0 x s') E0→K0 i (cE s)):=fun hi b hb e hw=>by
  subst e
  have pv:=uY hl ok hb
  have e1:1<i→lZ l mR s=false:=fun h=>i3 1 (by omega) h
  have e2:2<i→lZ l fP s=false:=fun h=>i3 2 (by omega) h
  unfold pw at hw
  rcases (by omega:i=1∨i=2∨i=3) with rfl | rfl | rfl
  ·have hb:lZ l mR s=true:=hb
   rw [hb] at hw; exact hw pv
  ·have hb:lZ l fP s=true:=hb
   rw [e1 (by omega),hb] at hw; exact hw pv
  ·have hb:lZ l xF s=true:=hb
   rw [e1 (by omega),e2 (by omega),hb] at hw; exact hw pv
 by_cases YM:i≤3
 ·have g:((i:Int)≤3)=True:=eq_true (by omega)
  have hq:yd [.int .i64 i]=some (.str (fI i)):=rfl
  have wi:IntKind.i64.wrap ((i:Int)+1)=((i+1:Nat):Int):=de (by omega)
  simp (maxSteps:=1000000) only [g,hq,mO,aD,seval]
  refine ⟨l,s,id,fI i,rfl,hl,by simp,ok,?_⟩
  unfold dI
  cases c:lZ l (fI i) s with
  | true=>
   rw [cond_true,cu]
   intro pv
   simp (maxSteps:=1000000) only [ah,ae,az,mO,aD,seval]
   exact cv (x:=(i:Int)) (s':=cE s) rfl (by simp) (ZX YM true c rfl hw)
  | false=>
   rw [cond_false,cu]
   intro _
   simp (maxSteps:=1000000) only [wi,mO,aD,seval]
   refine hQ (i+1) _ _ ⟨by omega,by omega,fun j h1 h2=>?_⟩ (by simp only [aD,seval]) ?_ (by omega)
   ·by_cases e:j=i
    ·subst e; exact c
    ·exact i3 j h1 (by omega)
   ·exact aa.aU _
 ·have e0:i=4:=by omega
  subst e0
  have e1:lZ l mR s=false:=i3 1 (by omega) (by omega)
  have e2:lZ l fP s=false:=i3 2 (by omega) (by omega)
  have e3:lZ l xF s=false:=i3 3 (by omega) (by omega)
  simp (maxSteps:=1000000) only [mO,aD,seval]
  refine ⟨l,s,id,110,rfl,by simp,ok.at_,?_⟩
  unfold pw at hw
  rw [e1,e2,e3] at hw
  simp only [bB,ae,az]
  exact aC (s':=s) (by simp) hw
def Nw (args:List D) (h:aa) (K E:D→aa→Prop):Prop:=∃(l:List cH) (s:PS) (id:Nat) ,args=[.ptr id 1 0]∧FV l∧cP (pw l) (fun t=>D.int .i64 t) l s id h K E
theorem Lt (args:List D) (h:aa) (K E K' E':D→aa→Prop) (hk:∀d h,K d h→K' d h) (he:∀d h,E d h→E' d h) (c:Nw args h K E):Nw args h K' E':=by
 obtain ⟨l,s,id,a,b,c⟩:=c
 exact ⟨l,s,id,a,b,eO hk he c⟩
theorem RR (args:List D) (h:aa) (K E:D→aa→Prop) (c:Nw args h K E):aQ Tryz.prog 59 args h (dF.to K E):=by
 obtain ⟨l,s,id,rfl,hl,c⟩:=c
 exact jq (fun ok K0 E0 hw=>ab5 l hl s id  ok K0 E0 hw) c
def uq:bm:=ud.kc 59 Nw Lt
theorem Ke:uq.q=ud.q:=rfl
theorem Kc:uq.a=ud.a:=rfl
theorem Kd (g:FuncId) (args:List D) (h:aa) (K E:D→aa→Prop):uq.c g args h K E=if g=59 then Nw args h K E else ud.c g args h K E:=rfl
theorem xr:uq.ok Tryz.prog:=bm.cL EW RR
theorem lh:a7% (And.intro (And.intro @Ke (And.intro @Kc @Kd)) @mO):=(And.intro (And.intro @Ke (And.intro @Kc @Kd)) @mO)
theorem WQ (l:List cH) (hl:FV l) (s:PS) (id:Nat) (n:Nd) (ok:cJ l s) (K0:Nd→PS→Prop) (E0:Int→Int→Prop) (hw:jG (dM l n s) (fun x s'=>cJ l s'→K0 x s') E0):aQ Tryz.prog 35 [.ptr id 1 0,.agg n.enc] (aa.emp.set id (b9 l s)) (lF (fun n=>.agg n.enc) l id K0 E0):=by
 refine aQ.du xr (dc:=cS.none) (fun _ _=>cS.eV) (by kernel_rfl) UM (by simp) ?_
 rw [dK]
 have w1:IntKind.i64.wrap (s.cQ+1)=s.cQ+1:=wrap_i64 (by have:=ok.n0; omega) (by have:=ok.n1; omega)
 unfold dM at hw
 obtain ⟨nk,nt,ns,nm,nl⟩:=n
 rw [aT]
 simp (maxSteps:=1000000) only [Xw,b9,lh,aD,seval]
 intro i3 n1 n2 i4 n3 n4 n5 n6
 by_cases c:s.cQ+1>2000
 ·have g:(s.cQ+1>2000)=True:=eq_true c
  rw [if_pos c] at hw
  simp (maxSteps:=1000000) only [g,w1,n1,n2,n3,n4,n5,n6,lh,aD,seval]
  refine ⟨l,{ s with cQ:=s.cQ+1 },id,3,rfl,by simp [n1,n2,n3,n4,n5,n6,b9],ok.at_,?_⟩
  simp only [bB,ae,az]
  exact aC (s':={ s with cQ:=s.cQ+1 }) (by simp [n1,n2,n3,n4,n5,n6,b9]) hw
 ·have g:(s.cQ+1>2000)=False:=eq_false c
  rw [if_neg c] at hw
  simp (maxSteps:=1000000) only [g,w1,n1,n2,n3,n4,n5,n6,ah,ae,az,lh,aD,seval]
  have pv:cJ l { s with cQ:=s.cQ+1 }:=by
   obtain ⟨h1,h2,h3,h4,h5,h6⟩:=ok
   exact ⟨h1,h2,by simp only; omega,by simp only; omega,h5,h6⟩
  exact cv (x:=.mk nk nt ns nm nl) (s':={ s with cQ:=s.cQ+1 }) (by rw [aT]) (by simp [n1,n2,n3,n4,n5,n6,b9]) (hw pv)
def HC (args:List D) (h:aa) (K E:D→aa→Prop):Prop:=∃(l:List cH) (s:PS) (id:Nat) (n:Nd),args=[.ptr id 1 0,.agg n.enc]∧FV l∧cP (dM l n) (fun n=>.agg n.enc) l s id h K E
theorem Ga (args:List D) (h:aa) (K E K' E':D→aa→Prop) (hk:∀d h,K d h→K' d h) (he:∀d h,E d h→E' d h) (c:HC args h K E):HC args h K' E':=by
 obtain ⟨l,s,id,n,a,b,c⟩:=c
 exact ⟨l,s,id,n,a,b,eO hk he c⟩
theorem Nq (args:List D) (h:aa) (K E:D→aa→Prop) (c:HC args h K E):aQ Tryz.prog 35 args h (dF.to K E):=by
 obtain ⟨l,s,id,n,rfl,hl,c⟩:=c
 exact jq (fun ok K0 E0 hw=>WQ l hl s id n ok K0 E0 hw) c
def vE:Nd→List D
 | .mk k t s n _=>[.int .i64 k,.int .i64 t,.str s,.int .i64 n,.bg]
theorem Sz (l:List cH) (hl:FV l) (s:PS) (id:Nat) (n:Nd) (ok:cJ l s) (K0:Nd→PS→Prop) (E0:Int→Int→Prop) (hw:jG (dM l n s) (fun x s'=>cJ l s'→K0 x s') E0):aQ Tryz.prog 35 [.ptr id 1 0,.agg (vE n)] (aa.emp.set id (b9 l s)) (lF (fun n=>.agg (vE n)) l id K0 E0):=by
 refine aQ.du xr (dc:=cS.none) (fun _ _=>cS.eV) (by kernel_rfl) UM (by simp) ?_
 rw [dK]
 have w1:IntKind.i64.wrap (s.cQ+1)=s.cQ+1:=wrap_i64 (by have:=ok.n0; omega) (by have:=ok.n1; omega)
 unfold dM at hw
 obtain ⟨nk,nt,ns,nm,nl⟩:=n
 rw [vE]
 simp (maxSteps:=1000000) only [Xw,b9,lh,aD,seval]
 intro i3 n1 n2 i4 n3 n4 n5 n6
 by_cases c:s.cQ+1>2000
 ·have g:(s.cQ+1>2000)=True:=eq_true c
  rw [if_pos c] at hw
  simp (maxSteps:=1000000) only [g,w1,n1,n2,n3,n4,n5,n6,lh,aD,seval]
  refine ⟨l,{ s with cQ:=s.cQ+1 },id,3,rfl,by simp [n1,n2,n3,n4,n5,n6,b9],ok.at_,?_⟩
  simp only [bB,ae,az]
  exact aC (s':={ s with cQ:=s.cQ+1 }) (by simp [n1,n2,n3,n4,n5,n6,b9]) hw
 ·have g:(s.cQ+1>2000)=False:=eq_false c
  rw [if_neg c] at hw
  simp (maxSteps:=1000000) only [g,w1,n1,n2,n3,n4,n5,n6,ah,ae,az,lh,aD,seval]
  have pv:cJ l { s with cQ:=s.cQ+1 }:=by
   obtain ⟨h1,h2,h3,h4,h5,h6⟩:=ok
   exact ⟨h1,h2,by simp only; omega,by simp only; omega,h5,h6⟩
  exact cv (x:=.mk nk nt ns nm nl) (s':={ s with cQ:=s.cQ+1 }) rfl (by simp [n1,n2,n3,n4,n5,n6,b9]) (hw pv)
def A6 (args:List D) (h:aa) (K E:D→aa→Prop):Prop:=∃(l:List cH) (s:PS) (id:Nat) (n:Nd),args=[.ptr id 1 0,.agg (vE n)]∧FV l∧cP (dM l n) (fun n=>.agg (vE n)) l s id h K E
theorem Cr (args:List D) (h:aa) (K E K' E':D→aa→Prop) (hk:∀d h,K d h→K' d h) (he:∀d h,E d h→E' d h) (c:A6 args h K E):A6 args h K' E':=by
 obtain ⟨l,s,id,n,a,b,c⟩:=c
 exact ⟨l,s,id,n,a,b,eO hk he c⟩
theorem Lq (args:List D) (h:aa) (K E:D→aa→Prop) (c:A6 args h K E):aQ Tryz.prog 35 args h (dF.to K E):=by
 obtain ⟨l,s,id,n,rfl,hl,c⟩:=c
 exact jq (fun ok K0 E0 hw=>Sz l hl s id n ok K0 E0 hw) c
def vn (args:List D) (h:aa) (K E:D→aa→Prop):Prop:=HC args h K E∨A6 args h K E
theorem Cq (args:List D) (h:aa) (K E K' E':D→aa→Prop) (hk:∀d h,K d h→K' d h) (he:∀d h,E d h→E' d h) (c:vn args h K E):vn args h K' E':=c.elim (fun c=>.inl (Ga _ _ _ _ _ _ hk he c)) fun c=>.inr (Cr _ _ _ _ _ _ hk he c)
theorem Lp (args:List D) (h:aa) (K E:D→aa→Prop) (c:vn args h K E):aQ Tryz.prog 35 args h (dF.to K E):=c.elim (Nq _ _ _ _) (Lq _ _ _ _)
def pP:bm:=uq.kc 35 vn Cq
theorem Jo:pP.q=uq.q:=rfl
theorem Jl:pP.a=uq.a:=rfl
theorem Jm (g:FuncId) (args:List D) (h:aa) (K E:D→aa→Prop):pP.c g args h K E=if g=35 then vn args h K E else uq.c g args h K E:=rfl
theorem PF:pP.ok Tryz.prog:=bm.cL xr Lp
theorem Jn:a7% (And.intro (And.intro @Jo (And.intro @Jl @Jm)) @lh):=(And.intro (And.intro @Jo (And.intro @Jl @Jm)) @lh)
def uy:bm:=pP.VE 84 En [.tmp 2] 18
theorem KJ:uy.q=pP.q:=rfl
theorem KG:uy.a=pP.a:=rfl
theorem KH (g:FuncId) (args:List D) (h:aa) (K E:D→aa→Prop):uy.c g args h K E=if g=84 then (args.length≤18∧vc pP En (todo pP (G3 [.tmp 2] K) (DQ E) []) (DQ E) (f8 args) h) else pP.c g args h K E:=rfl
theorem QE:uy.ok Tryz.prog:=bm.RI PF abK
theorem KI:a7% (And.intro (And.intro @KJ (And.intro @KG @KH)) @Jn):=(And.intro (And.intro @KJ (And.intro @KG @KH)) @Jn)
def yC:cS:=fun k args u h F=>k=100∧∃(b id:Nat) (l:List cH) (s:PS),args=[.ptr b 1 0]∧h.f b=some (.cells [.ptr id 1 0])∧h.f id=some (b9 l s)∧F u (h.set id (b9 l { s with deep:=IntKind.i64.wrap (s.deep - 1) }))
theorem vz (κ:cp) (w:World):yC.nU Tryz.prog κ w:=by
 rintro k args u h F ⟨rfl,b,id,l,s,rfl,hb,fE,hF⟩ κ' w' le
 refine gH.my ((bm.eH Tryz.prog).toY κ' w') XA (by simp) ?_
 have adD:h.f id=some (.cells [.sl (lP l),.int .i64 s.pos,.int .i64 s.cQ,.int .i64 s.deep]):=fE
 simp (maxSteps:=1000000) only [UE,hb,adD,kY,aD,seval]
 exact ⟨_,aa.aU _,hF⟩
end
end Go.Proofs.YtpklkpkfgmoghaaGreatDoor.Zz
namespace Go.Proofs.YtpklkpkfgmoghaaGreatDoor.Zz
noncomputable section
def ae5:cj:=⟨⟨[],[(1,1),(10,1),(12,1),(15,2)],[],[],[],[]⟩,[],[],false⟩
def aba:dL:=
 sO [oA 2,
 oP (.cy (kB false)) 3]
 (sO [oM 0 8,
 oC 36 [.t 8] 9,
 oQ (.alloc [(.int .i64 0),(.str []),(.int .i64 0)]) 4,
 oS 3 4 9]
 (sO [oA 5]
 (.seq (.block 0 (sO [oF 0 4 12,
 oL 12 13,
 oH .eql 13 2 14,
 oM 14 11]
 (.cond (.t 11)
 (sO [oF 1 4 16,
 oL 16 17,
 oD 98 [.t 17,kI 10,kI 64] 18,
 oM 18 15,
 oX 15 0 19,
 oX 15 1 20,
 oM 19 6,
 oM 20 7]
 (.ops [oM 6 21,
 oP (.build zN [(0,1,(kI 20)),(3,1,(.t 21))]) 22,
 oS 5 5 22]))
 (sO [oF 0 4 24,
 oL 24 25,
 oH .eql 25 3 26,
 oM 26 23]
 (.cond (.t 23)
 (sO [oF 1 4 27,
 oL 27 28,
 oD 99 [.t 28] 29,
 oS 5 5 29]
 (.ops [oF 1 5 30,
 oU (.store 1 (.t 30) (kI 0))]))
 (sO [oM 0 32,
 oC 37 [.t 32,(kS [116,114,117,101])] 33,
 oM 33 31]
 (.cond (.t 31)
 (.ops [oP (.build zN [(0,1,(kI 22)),(3,1,(kI 1))]) 34,
 oS 5 5 34])
 (sO [oM 0 36,
 oC 37 [.t 36,(kS [102,97,108,115,101])] 37,
 oM 37 35]
 (.cond (.t 35)
 (.ops [oP (.build zN [(0,1,(kI 22))]) 38,
 oS 5 5 38])
 (sO [oJ 5 5 10,
 oS 5 2 10,
 oP (.cy (kB false)) 3]
 (.ret)))))))))))
 (sO [oM 0 39,
 oN 39 40,
 oF 1 40 41,
 oL 41 42,
 oH .add 42 1 43,
 oN 39 44,
 oF 1 44 45,
 oS 1 45 43]
 (sO [oM 0 46,
 oJ 5 5 47,
 oC 35 [.t 46,.t 47] 48,
 oS 5 2 48,
 oP (.cy (kB true)) 3]
 (.ret))))))
theorem abJ:bJ Tryz.prog 81 ae5=some (aba,[.cell 2 (some 5),.tmp 3],49):=by kernel_rfl
theorem HR:∀(l:List UInt8) (a:Nat),a≤l.foldl (fun n c=>n*10+(c.toNat - 48)) a
 | [],a=>Nat.le_refl _
 | c::l,a=>by
  rw [List.foldl_cons]
  have:=HR l (a*10+(c.toNat - 48))
  omega
theorem zI:∀(l:List UInt8) (a:Nat),l.all dU=true→l.foldl (fun n c=>n*10+(c.toNat - 48)) a<9223372036854775808→b8.GR 18446744073709551615 a l=.ok (l.foldl (fun n c=>n*10+(c.toNat - 48)) a)
 | [],a,_,_=>rfl
 | c::l,a,hd,hv=>by
  rw [List.all_cons,Bool.and_eq_true] at hd
  rw [List.foldl_cons] at hv ⊢
  have g:=HR l (a*10+(c.toNat - 48))
  have hc:=hd.1
  simp only [dU,Bool.and_eq_true,decide_eq_true_eq] at hc
  rw [b8.GR,if_pos (by omega),if_neg (by omega),if_neg (by omega),zI l _ hd.2 hv]
theorem GP (s:List UInt8) (hd:s.all dU=true) (iC:s≠[]) (hl:s.length≤4096) (hv:eo s<9223372036854775808):aO Tryz.prog 98 [.str s,.int .i64 10,.int .i64 64] (.tuple [.int .i64 (eo s:Nat),.fV]):=by
 have hp:b8.zH 64 s=.ok (eo s:Nat):=by
  cases s with
  | nil=>exact absurd rfl iC
  | cons c r=>
   have hc:=hd
   simp only [List.all_cons,dU,Bool.and_eq_true,decide_eq_true_eq] at hc
   have n1:¬c.toNat=43:=by omega
   have n2:¬c.toNat=45:=by omega
   have hu:b8.GQ 64 (c::r)=.ok (eo (c::r)):=by
    rw [b8.GQ,if_neg (by simp)]
    exact zI (c::r) 0 hd hv
   unfold b8.zH
   simp only [n1,n2,or_self,if_false,false_and,not_false_eq_true,true_and]
   rw [hu]
   simp only [Nat.reduceSub,Nat.reducePow]
   rw [if_neg (by omega)]
 refine aO.jy (by kernel_rfl) fun κ w vs hg hr _=>?_
 obtain ⟨vl⟩:=vs
 cases hr with
 | cons r1 hr=>
  cases hr with
  | cons r2 hr=>
   cases hr with
   | cons r3 hr=>
    cases hr
    rw [hO r2,hO r3]
    cases r1 with
    | str _ h1=>
    refine (Tryz.strconv_ParseInt_10_at64_ok ⟨s.toArray⟩ (by simp [ByteArray.size]; omega) _ (by simpa using hp) w).mono fun e w' ⟨e1,e2⟩=>⟨_,e1,fun _ _=>bP.tuple (.cons (.int _ _) (.cons .fV .nil)),?_⟩
    rcases e2 with e2 | ⟨t,e2⟩
    ·rw [e2]; exact Go.RowKit.Below.refl _ _
    ·rw [e2]; exact b8.Ll _ _ _
structure uL (l:List cH):Prop where
 lo:FV l
 whole:∀t∈l,t.1=2→t.2.1.all dU=true∧t.2.1≠[]∧t.2.1.length≤4096∧eo t.2.1<9223372036854775808
 dot:∀t∈l,t.1=3→∃A B,iP t.2.1 A B
open Classical in
def D7:List D→Option D
 | [.str s,.int .i64 10,.int .i64 64]=>if s.all dU=true∧s≠[]∧s.length≤4096∧eo s<9223372036854775808 then some (.tuple [.int .i64 (eo s:Nat),.fV]) else none
 | _=>none
theorem O1 (args:List D) (d:D) (h:D7 args=some d):aO Tryz.prog 98 args d:=by
 unfold D7 at h
 split at h
 ·split at h
  ·ab c
   cases h
   exact GP _ c.1 c.2.1 c.2.2.1 c.2.2.2
  ·cases h
 ·cases h
open Classical in
def O7:List D→Option D
 | [.str s]=>if ∃A B,iP s A B then some (.agg [.int .i64 21,.int .i64 2,.str (jZ s),.int .i64 (jn (jZ s)),.sl []]) else none
 | _=>none
theorem S2 (args:List D) (d:D) (h:O7 args=some d):aO Tryz.prog 99 args d:=by
 unfold O7 at h
 split at h
 ·split at h
  ·ab c
   cases h
   obtain ⟨A,B,c⟩:=c
   exact R1 _ A B c
  ·cases h
 ·cases h
def ov:bm:=uy.dh 98 D7
theorem EG (g:FuncId) (args:List D):ov.q g args=if g=98 then D7 args else uy.q g args:=rfl
theorem ED:ov.a=uy.a:=rfl
theorem EE:ov.c=uy.c:=rfl
theorem Mz:ov.ok Tryz.prog:=bm.bq QE O1
theorem EF:a7% (And.intro (And.intro @EG (And.intro @ED @EE)) @KI):=(And.intro (And.intro @EG (And.intro @ED @EE)) @KI)
def uc:bm:=ov.dh 99 O7
theorem JA (g:FuncId) (args:List D):uc.q g args=if g=99 then O7 args else ov.q g args:=rfl
theorem Jy:uc.a=ov.a:=rfl
theorem Jz:uc.c=ov.c:=rfl
theorem EU:uc.ok Tryz.prog:=bm.bq Mz S2
theorem fO:a7% (And.intro (And.intro @JA (And.intro @Jy @Jz)) @EF):=(And.intro (And.intro @JA (And.intro @Jy @Jz)) @EF)
theorem OS {l:List cH} {s:PS} (ok:AF l s):d8 l s∈l:=List.mem_of_getElem? (l5 ok)
theorem DP {l:List cH} {s:PS} (hl:FV l) (ok:cJ l s) (h:(d8 l s).1≠0):cJ l (cE s):=by
 have:=hl.fin _ _ (l5 ok.at_) h
 obtain ⟨h1,h2,h3,h4,h5,h6⟩:=ok
 exact ⟨by simp only [cE]; omega,by simp only [cE]; omega,h3,h4,h5,h6⟩
set_option maxHeartbeats 1000000 in
theorem SJ (l:List cH) (hl:uL l) (s:PS) (id:Nat) (ok:cJ l s) (K0:Nd×Bool→PS→Prop) (E0:Int→Int→Prop) (hw:jG (lB l s) (fun x s'=>cJ l s'→K0 x s') E0):aQ Tryz.prog 81 [.ptr id 1 0] (aa.emp.set id (b9 l s)) (lF (fun x:Nd×Bool=>.tuple [.agg x.1.enc,.bool x.2]) l id K0 E0):=by
 refine aQ.du EU (dc:=cS.none) (fun _ _=>cS.eV) (by kernel_rfl) abJ (by simp) ?_
 rw [dK]
 have w1:IntKind.i64.wrap (s.pos+1)=s.pos+1:=wrap_i64 (by have:=ok.p0p; omega) (by have:=ok.Ut; have:=hl.lo.len; omega)
 simp (maxSteps:=1000000) only [aba,fO,aD,seval]
 intro i2 n1 n2
 refine ⟨l,s,id,rfl,by simp [n1,n2],ok.at_,?_⟩
 have p5:=OS ok.at_
 have hwh:=hl.whole _ p5
 have hdt:=hl.dot _ p5
 have nh:=DP hl.lo ok
 simp only [lB] at hw
 have Sf:∀x,lZ l x s=((d8 l s).2.1==x && ((d8 l s).1==5 || (d8 l s).1==4)):=fun _=>rfl
 generalize ht:d8 l s=t at*
 obtain ⟨kk,y,a⟩:=t
 simp only at hwh hdt nh hw Sf
 simp (maxSteps:=1000000) only [gj,n1,n2,fO,aD,seval]
 intro i4 m1 m2 m3 m4 i5 m5 m6 m7 m8 m9 tB
 cases jW:(kk==2) with
 | true=>
  rw [jW,cond_true,aG] at hw
  have e2:kk=2:=by simpa using jW
  obtain ⟨d1,d2,d3,d4⟩:=hwh e2
  have pv:=nh (by omega)
  have hq:D7 [.str y,.int .i64 10,.int .i64 64]=some (.tuple [.int .i64 (eo y:Nat),.fV]):=if_pos ⟨d1,d2,d3,d4⟩
  simp (maxSteps:=1000000) only [jW,hq,b9,w1,n1,n2,m1,m2,m3,m4,m5,m6,m7,m8,m9,tB,fO,aD,seval]
  refine .inl ⟨l,cE s,id,.mk 20 0 [] (eo y:Nat) [],by simp only [aT,bA],hl.lo,by simp [b9,cE,n1,n2,m1,m2,m3,m4,m5,m6,m7,m8,m9,tB],pv,gO (fun n cg k gm=>?_) (fun a e k s'=>?_) hw⟩
  ·obtain ⟨nk,nt,ns,nm,nl⟩:=n
   simp (maxSteps:=1000000) only [aT,n1,n2,m1,m2,m3,m4,m5,m6,m7,m8,m9,tB,ah,ae,az,fO,aD,seval]
   exact cv (x:=(.mk nk nt ns nm nl,true)) (s':=cg) (by rw [aT]) (by simp [n1,n2,m1,m2,m3,m4,m5,m6,m7,m8,m9,tB]) (k gm)
  ·simp only [bB,ae,az]
   exact aC (s':=s') (by simp [n1,n2,m1,m2,m3,m4,m5,m6,m7,m8,m9,tB]) k
 | false=>
  rw [jW,cond_false] at hw
  cases jX:(kk==3) with
  | true=>
   rw [jX,cond_true,aG] at hw
   have e3:kk=3:=by simpa using jX
   have hd:=hdt e3
   have pv:=nh (by omega)
   have hq:O7 [.str y]=some (.agg [.int .i64 21,.int .i64 2,.str (jZ y),.int .i64 (jn (jZ y)),.sl []]):=if_pos hd
   simp (maxSteps:=1000000) only [jW,jX,hq,b9,w1,n1,n2,m1,m2,m3,m4,m5,m6,m7,m8,m9,tB,fO,aD,seval]
   refine .inl ⟨l,cE s,id,iX y,by simp only [iX,aT,bA],hl.lo,by simp [b9,cE,n1,n2,m1,m2,m3,m4,m5,m6,m7,m8,m9,tB],pv,gO (fun n cg k gm=>?_) (fun a e k s'=>?_) hw⟩
   ·obtain ⟨nk,nt,ns,nm,nl⟩:=n
    simp (maxSteps:=1000000) only [aT,n1,n2,m1,m2,m3,m4,m5,m6,m7,m8,m9,tB,ah,ae,az,fO,aD,seval]
    exact cv (x:=(.mk nk nt ns nm nl,true)) (s':=cg) (by rw [aT]) (by simp [n1,n2,m1,m2,m3,m4,m5,m6,m7,m8,m9,tB]) (k gm)
   ·simp only [bB,ae,az]
    exact aC (s':=s') (by simp [n1,n2,m1,m2,m3,m4,m5,m6,m7,m8,m9,tB]) k
  | false=>
   rw [jX,cond_false] at hw
   simp (maxSteps:=1000000) only [jW,jX,n1,n2,m1,m2,m3,m4,m5,m6,m7,m8,m9,tB,fO,aD,seval]
   refine ⟨l,s,id,mf,rfl,by simp [n1,n2,m1,m2,m3,m4,m5,m6,m7,m8,m9,tB],ok.at_,?_⟩
   cases uP:lZ l mf s with
   | true=>
    rw [uP,cond_true,aG] at hw
    have pv:=uY hl.lo ok uP
    simp (maxSteps:=1000000) only [b9,w1,n1,n2,m1,m2,m3,m4,m5,m6,m7,m8,m9,tB,fO,aD,seval]
    refine .inl ⟨l,cE s,id,.mk 22 0 [] 1 [],by simp only [aT,bA],hl.lo,by simp [b9,cE,n1,n2,m1,m2,m3,m4,m5,m6,m7,m8,m9,tB],pv,gO (fun n cg k gm=>?_) (fun a e k s'=>?_) hw⟩
    ·obtain ⟨nk,nt,ns,nm,nl⟩:=n
     simp (maxSteps:=1000000) only [aT,n1,n2,m1,m2,m3,m4,m5,m6,m7,m8,m9,tB,ah,ae,az,fO,aD,seval]
     exact cv (x:=(.mk nk nt ns nm nl,true)) (s':=cg) (by rw [aT]) (by simp [n1,n2,m1,m2,m3,m4,m5,m6,m7,m8,m9,tB]) (k gm)
    ·simp only [bB,ae,az]
     exact aC (s':=s') (by simp [n1,n2,m1,m2,m3,m4,m5,m6,m7,m8,m9,tB]) k
   | false=>
    rw [uP,cond_false] at hw
    simp (maxSteps:=1000000) only [n1,n2,m1,m2,m3,m4,m5,m6,m7,m8,m9,tB,fO,aD,seval]
    refine ⟨l,s,id,i_,rfl,by simp [n1,n2,m1,m2,m3,m4,m5,m6,m7,m8,m9,tB],ok.at_,?_⟩
    cases xG:lZ l i_ s with
    | true=>
     rw [xG,cond_true,aG] at hw
     have pv:=uY hl.lo ok xG
     simp (maxSteps:=1000000) only [b9,w1,n1,n2,m1,m2,m3,m4,m5,m6,m7,m8,m9,tB,fO,aD,seval]
     refine .inl ⟨l,cE s,id,.mk 22 0 [] 0 [],by simp only [aT,bA],hl.lo,by simp [b9,cE,n1,n2,m1,m2,m3,m4,m5,m6,m7,m8,m9,tB],pv,gO (fun n cg k gm=>?_) (fun a e k s'=>?_) hw⟩
     ·obtain ⟨nk,nt,ns,nm,nl⟩:=n
      simp (maxSteps:=1000000) only [aT,n1,n2,m1,m2,m3,m4,m5,m6,m7,m8,m9,tB,ah,ae,az,fO,aD,seval]
      exact cv (x:=(.mk nk nt ns nm nl,true)) (s':=cg) (by rw [aT]) (by simp [n1,n2,m1,m2,m3,m4,m5,m6,m7,m8,m9,tB]) (k gm)
     ·simp only [bB,ae,az]
      exact aC (s':=s') (by simp [n1,n2,m1,m2,m3,m4,m5,m6,m7,m8,m9,tB]) k
    | false=>
     rw [xG,cond_false,cu] at hw
     simp (maxSteps:=1000000) only [n1,n2,m1,m2,m3,m4,m5,m6,m7,m8,m9,tB,ah,ae,az,fO,aD,seval]
     exact fU (x:=(.mk 0 0 [] 0 [],false)) (s':=s) (by rw [aT,bA]) (by simp [n1,n2,m1,m2,m3,m4,m5,m6,m7,m8,m9,tB]) (hw ok)
def vp (args:List D) (h:aa) (K E:D→aa→Prop):Prop:=∃(l:List cH) (s:PS) (id:Nat) ,args=[.ptr id 1 0]∧uL l∧cP (lB l) (fun x:Nd×Bool=>.tuple [.agg x.1.enc,.bool x.2]) l s id h K E
theorem Cs (args:List D) (h:aa) (K E K' E':D→aa→Prop) (hk:∀d h,K d h→K' d h) (he:∀d h,E d h→E' d h) (c:vp args h K E):vp args h K' E':=by
 obtain ⟨l,s,id,a,b,c⟩:=c
 exact ⟨l,s,id,a,b,eO hk he c⟩
theorem Ls (args:List D) (h:aa) (K E:D→aa→Prop) (c:vp args h K E):aQ Tryz.prog 81 args h (dF.to K E):=by
 obtain ⟨l,s,id,rfl,hl,c⟩:=c
 exact jq (fun ok K0 E0 hw=>SJ l hl s id  ok K0 E0 hw) c
def uv:bm:=uc.kc 81 vp Cs
theorem Kw:uv.q=uc.q:=rfl
theorem Kt:uv.a=uc.a:=rfl
theorem Ku (g:FuncId) (args:List D) (h:aa) (K E:D→aa→Prop):uv.c g args h K E=if g=81 then vp args h K E else uc.c g args h K E:=rfl
theorem Qw:uv.ok Tryz.prog:=bm.cL EU Ls
theorem Kv:a7% (And.intro (And.intro @Kw (And.intro @Kt @Ku)) @fO):=(And.intro (And.intro @Kw (And.intro @Kt @Ku)) @fO)
end
end Go.Proofs.YtpklkpkfgmoghaaGreatDoor.Zz
namespace Go.Proofs.YtpklkpkfgmoghaaGreatDoor.Zz
theorem xC:∀(l:List UInt8) (n:Nat),l.foldl (fun n c=>n*10+(c.toNat - 48)) n=n*10 ^ l.length+eo l
 | [],n=>by simp [eo]
 | c::l,n=>by
  have h1:=xC l (n*10+(c.toNat - 48))
  have h2:=xC l (0*10+(c.toNat - 48))
  unfold eo at*
  simp only [List.foldl_cons,List.length_cons]
  rw [h1,h2,Nat.pow_succ]
  simp only [Nat.zero_mul,Nat.zero_add,Nat.add_mul,Nat.mul_assoc,Nat.mul_comm 10,Nat.add_assoc]
theorem Ay (c:UInt8) (l:List UInt8):eo (c::l)=(c.toNat - 48)*10 ^ l.length+eo l:=by
 have:=xC l (0*10+(c.toNat - 48))
 simp only [Nat.zero_mul,Nat.zero_add] at this
 rw [←this]
 simp [eo]
theorem DA:∀(s t:List UInt8),s.length=t.length→s.all dU=true→t.all dU=true→Op.bytesLess s t=true→eo s<eo t
 | [],[],_,_,_,h=>by simp [Op.bytesLess] at h
 | [],_::_,e,_,_,_=>by simp at e
 | _::_,[],e,_,_,_=>by simp at e
 | c::s,d::t,e,hs,ht,h=>by
  simp only [List.length_cons,Nat.add_right_cancel_iff] at e
  simp only [List.all_cons,Bool.and_eq_true] at hs ht
  have vs:=rT s hs.2
  have vt:=rT t ht.2
  have hc:=hs.1
  have hd:=ht.1
  simp only [dU,Bool.and_eq_true,decide_eq_true_eq] at hc hd
  rw [Ay,Ay,e]
  rw [e] at vs
  simp only [Op.bytesLess] at h
  by_cases jU:c<d
  ·have ail:c.toNat<d.toNat:=jU
   have:=Nat.mul_le_mul_right (10 ^ t.length) (show c.toNat - 48+1≤d.toNat - 48 by omega)
   rw [Nat.add_mul] at this
   omega
  ·by_cases jW:c=d
   ·subst jW
    have hl:Op.bytesLess s t=true:=by simpa using h
    have:=DA s t e hs.2 ht.2 hl
    omega
   ·simp [jU,jW] at h
theorem AD {s:List UInt8} (ha:s.all dU=true) (h:oK s=true):s.length≤19∧eo s<9223372036854775808:=by
 unfold oK at h
 simp only [Bool.and_eq_true,Bool.not_eq_true',Bool.or_eq_false_iff,decide_eq_false_iff_not,Bool.or_eq_true,decide_eq_true_eq,beq_iff_eq] at h
 obtain ⟨⟨_,h1⟩,h2⟩:=h
 refine ⟨by omega,?_⟩
 have em:eo mxL=9223372036854775807:=by decide+kernel
 rcases h2 with h2 | h2 | h2
 ·have h3:=rT s ha
  have h4:=Nat.pow_le_pow_right (show 0<10 by decide) (show s.length≤18 by omega)
  have h5:(10:Nat) ^ 18=1000000000000000000:=by decide
  omega
 ·by_cases c:s.length=19
  ·have:=DA s mxL (by rw [c]; rfl) ha (by decide) h2
   omega
  ·have h3:=rT s ha
   have h4:=Nat.pow_le_pow_right (show 0<10 by decide) (show s.length≤18 by omega)
   have h5:(10:Nat) ^ 18=1000000000000000000:=by decide
   omega
 ·rw [h2,em]; decide
theorem Ot (c:UInt8):isDigit (c.toNat:Int)=dU c:=by
 simp only [isDigit,dU]
 congr 1<;>· apply decide_eq_decide.2; omega
theorem EC (l:List UInt8):(l.take (jl isDigit l)).all dU=true:=by
 induction l with
 | nil=>rfl
 | cons c l ih=>
  rw [ky]
  split
  ·ab h; rw [Ot] at h; simp [h]; simpa using ih
  ·rfl
structure Hx (t:cH):Prop where
 ne:t.1≠0
 whole:t.1=2→t.2.1.all dU=true∧t.2.1≠[]∧t.2.1.length≤4096∧eo t.2.1<9223372036854775808
 dot:t.1=3→∃A B,iP t.2.1 A B
theorem L0 {l:List UInt8} {p:Int} (hl:0<l.length) (hd:isDigit ((l.getD 0 0).toNat:Int)=true) (h:(lX l).2.2=true):Hx ((lX l).1,(lX l).2.1,p):=by
 have h1:=BN hl hd
 have h2:=lH isDigit l
 have hA:=EC l
 unfold lX at h ⊢
 generalize hn:jl isDigit l=n at*
 by_cases hc:(decide (n<l.length) && ((l.getD n 0).toNat:Int)==46)=true
 ·rw [if_pos hc] at h ⊢
  have h3:=lH isDigit (l.drop (n+1))
  have hB:=EC (l.drop (n+1))
  rw [List.length_drop] at h3
  generalize jl isDigit (l.drop (n+1))=m at*
  simp only [Bool.not_eq_true',Bool.or_eq_false_iff,decide_eq_false_iff_not] at h
  simp only [Bool.and_eq_true,decide_eq_true_eq,beq_iff_eq] at hc
  refine ⟨by simp,by simp,fun _=>⟨l.take n,(l.drop (n+1)).take m,?_,hA,hB,?_,?_,?_⟩⟩
  ·have e1:l.getD n 0=46:=by
    have:=hc.2
    have h46:(46:UInt8).toNat=46:=rfl
    exact UInt8.toNat_inj.1 (by omega)
   have e2:=drop_cons hc.1
   rw [e1] at e2
   show l.take (n+1+m)=_
   rw [Nat.add_assoc,List.take_add,e2,Nat.add_comm 1 m,List.take_succ_cons]
   simp
  ·rw [List.length_take]; omega
  ·rw [List.length_take,List.length_drop]; omega
  ·rw [List.length_take,List.length_take,List.length_drop]; omega
 ·rw [if_neg hc] at h ⊢
  have hw:=AD hA h
  refine ⟨by simp,fun _=>⟨hA,?_,by have:=hw.1; simp only; omega,hw.2⟩,by simp⟩
  intro e
  have:=congrArg List.length e
  rw [List.length_take] at this
  simp only [List.length_nil] at this
  omega
theorem L5 {l:List UInt8} {p:Int} (hl:0<l.length) (h:(f6 l).2.2=true):Hx ((f6 l).1,(f6 l).2.1,p):=by
 unfold f6 at h ⊢
 split
 ·ab hd
  rw [if_pos hd] at h
  exact L0 hl hd h
 ·ab hd
  rw [if_neg hd] at h
  split
  ·split
   ·exact ⟨by simp,by simp,by simp⟩
   ·exact ⟨by simp,by simp,by simp⟩
  ·ab ht
   rw [if_neg ht] at h
   cases hf:fR l jD with
   | none=>rw [hf] at h; cases h
   | some x=>exact ⟨by simp,by simp,by simp⟩
theorem xw:∀(n p:Nat) (l:List UInt8) (out:List cH),l.length<n→(pS n p l out).2.2=0→∃(LV:List cH) (a:Int),(pS n p l out).1=out++LV++[(0,[],a)]∧LV.length≤l.length∧∀t∈LV,Hx t
 | 0,_,_,_,h,_=>by omega
 | n+1,p,l,out,h,e=>by
  unfold pS at e ⊢
  by_cases c:l=[]
  ·rw [if_pos c] at e ⊢
   exact ⟨[],(p:Int),by simp,by simp,by simp⟩
  ·rw [if_neg c] at e ⊢
   have hl:0<l.length:=List.length_pos_iff.2 c
   by_cases jW:(f6 l).2.2=false
   ·rw [if_pos jW] at e; cases e
   ·rw [if_neg jW] at e ⊢
    have ht:(f6 l).2.2=true:=by simpa using jW
    have ok:=Il hl ht
    obtain ⟨LV,a,e1,e2,e3⟩:=xw n _ _ _ (by rw [List.length_drop]; omega) e
    refine ⟨((f6 l).1,(f6 l).2.1,(p:Int))::LV,a,by rw [e1]; simp,?_,fun t m=>?_⟩
    ·rw [List.length_drop] at e2
     simp only [List.length_cons]
     omega
    ·simp only [List.mem_cons] at m
     rcases m with rfl | m
     ·exact L5 hl ht
     ·exact e3 t m
theorem Fm (x:List UInt8) (h:(tokens x).2.2=0):∃(LV:List cH) (a:Int),(tokens x).1=LV++[(0,[],a)]∧LV.length≤4096∧∀t∈LV,Hx t:=by
 unfold tokens at h ⊢
 split at h
 ·cases h
 ·ab c
  rw [if_neg c]
  obtain ⟨LV,a,e1,e2,e3⟩:=xw _ _ _ _ (by rw [List.length_drop]; omega) h
  rw [List.length_drop] at e2
  exact ⟨LV,a,by rw [e1]; simp,by omega,e3⟩
theorem MD (x:List UInt8) (h:(tokens x).2.2=0):uL (tokens x).1∧0<(tokens x).1.length:=by
 obtain ⟨LV,a,e1,e2,e3⟩:=Fm x h
 rw [e1]
 refine ⟨⟨⟨by simp; omega,fun i t hi ht=>?_⟩,fun t m k=>?_,fun t m k=>?_⟩,by simp⟩
 ·rw [List.getElem?_append] at hi
  split at hi
  ·simp; omega
  ·ab c
   have:i - LV.length=0:=by
    have:=(List.getElem?_eq_some_iff.1 hi).1
    simp at this; omega
   rw [this] at hi
   cases hi
   exact (ht rfl).elim
 ·simp only [List.mem_append,List.mem_singleton] at m
  rcases m with m | rfl
  ·exact (e3 t m).whole k
  ·simp at k
 ·simp only [List.mem_append,List.mem_singleton] at m
  rcases m with m | rfl
  ·exact (e3 t m).dot k
  ·simp at k
end Go.Proofs.YtpklkpkfgmoghaaGreatDoor.Zz
