/- Contracts: the small parts of a parser. -/
import Derived.Test.YtpklkpkfgmoghaaGreatDoorZZH
import Derived.Test.YtpklkpkfgmoghaaGreatDoorZZF
set_option linter.unnecessarySimpa false
set_option linter.unusedVariables false
set_option linter.unusedSimpArgs false
set_option maxRecDepth 20000
namespace Go.Proofs.YtpklkpkfgmoghaaGreatDoor.Zz
noncomputable section
def amZ:cm:=⟨⟨[],[],[(1,8)],[],[],[]⟩,[(1,[0,1,2,3,4,5,6,7,8,9,10])],[],false⟩
def aiZ:dU:=
 sO [oQ (.alloc [(.int .i64 0),(.str []),(.int .i64 0)]) 2]
 (.seq (.fS 3 [oM 0 3,
 oN 3 4,
 oF 0 4 5,
 oL 5 6,
 oM 0 7,
 oN 7 8,
 oF 1 8 9,
 oL 9 10,
 oI 3 6 10 11,
 oJ 3 11 12,
 oS 3 2 12])
 (.ret))
theorem ajJ:bA Tryz.prog 36 amZ=some (aiZ,[.cell 2 (some 3)],13):=by kernel_rfl
def am0:cm:=⟨⟨[],[(1,1)],[],[],[],[]⟩,[],[],false⟩
def ai0:dU:=
 sO [oP (.cB (kB false)) 4]
 (sO [oM 0 6,
 oC 36 [.t 6] 7,
 oQ (.alloc [(.int .i64 0),(.str []),(.int .i64 0)]) 5,
 oS 3 5 7]
 (sO [oF 1 5 8,
 oL 8 9,
 oM 1 10,
 oE .eql 9 10 11,
 oM 11 12,
 oG (.fieldAddr 0 (.t 5)) 13 12 true true,
 oG (.load none (.t 13)) 14 12 true false,
 oG (.bin .eql (.t 14) (kI 5)) 15 12 true true,
 oG (.cB (.t 15)) 16 12 true true,
 oG (.fieldAddr 0 (.t 5)) 17 16 false true,
 oG (.load none (.t 17)) 18 16 false false,
 oG (.bin .eql (.t 18) (kI 4)) 19 16 false true,
 oG (.pick (.t 16) (kB true) (.t 19)) 20 12 true true,
 oP (.pick (.t 12) (.t 20) (kB false)) 21,
 oM 21 4]
 (.ret)))
theorem ajK:bA Tryz.prog 37 am0=some (ai0,[.tmp 4],22):=by kernel_rfl
def am1:cm:=⟨⟨[],[(0,1)],[],[],[],[]⟩,[],[],false⟩
def ai1:dU:=
 .ops [oM 0 4,
 oC 36 [.t 4] 5,
 oP (.field 2 none (.t 5)) 6,
 oM 1 7,
 oP (.build [(.int .i64 0),(.int .i64 0)] [(0,1,(.t 6)),(1,1,(.t 7))]) 8,
 oP (.nf 56 (.t 8)) 9,
 oU (.panic (.t 9))]
theorem ajL:bA Tryz.prog 38 am1=some (ai1,[],10):=by kernel_rfl
def am_:cm:=⟨⟨[],[(1,2)],[],[],[],[]⟩,[],[],false⟩
def ai7:dU:=
 sO [oP (.cB (kB false)) 4]
 (.seq (sO [oM 0 5,
 oM 1 6,
 oC 37 [.t 5,.t 6] 7]
 (.cond (.t 7)
 (sO [oM 0 8,
 oN 8 9,
 oF 1 9 10,
 oL 10 11,
 oH .add 11 1 12,
 oN 8 13,
 oF 1 13 14,
 oS 1 14 12]
 (sO [oP (.cB (kB true)) 4]
 (.ret)))
 (.skip)))
 (sO [oP (.cB (kB false)) 4]
 (.ret)))
theorem ajS:bA Tryz.prog 57 am_=some (ai7,[.tmp 4],15):=by kernel_rfl
def ana:cm:=⟨⟨[],[(1,1),(3,1)],[],[],[],[]⟩,[],[],false⟩
def ai8:dU:=
 sO [oP (.cB (kS [])) 2]
 (sO [oM 0 4,
 oC 36 [.t 4] 5,
 oQ (.alloc [(.int .i64 0),(.str []),(.int .i64 0)]) 3,
 oS 3 3 5]
 (.seq (sO [oF 0 3 6,
 oL 6 7,
 oH .neq 7 1 8]
 (.cond (.t 8)
 (.ops [oM 0 9,
 oC 38 [.t 9,kI 110] 10])
 (.skip)))
 (sO [oM 0 11,
 oN 11 12,
 oF 1 12 13,
 oL 13 14,
 oH .add 14 1 15,
 oN 11 16,
 oF 1 16 17,
 oS 1 17 15]
 (sO [oF 1 3 18,
 oL 18 19,
 oM 19 2]
 (.ret)))))
theorem ajT:bA Tryz.prog 58 ana=some (ai8,[.tmp 2],20):=by kernel_rfl
def anc:cm:=⟨⟨[],[(0,2),(1,1)],[],[],[],[]⟩,[],[],false⟩
def ai_:dU:=
 sO [oM 0 4,
 oM 1 5,
 oC 57 [.t 4,.t 5] 6,
 oP (.un .not (.t 6)) 7]
 (.cond (.t 7)
 (.ops [oM 0 8,
 oC 38 [.t 8,kI 110] 9])
 (.skip))
theorem ajV:bA Tryz.prog 60 anc=some (ai_,[],10):=by kernel_rfl
def cK (l:List Tok) (s:PS):cJ:=.cells [.sl (oh l),.int .i64 s.pos,.int .i64 s.dI,.int .i64 s.deep]
structure dy (l:List Tok) (s:PS):Prop where
 p0p:0≤s.pos
 SX:s.pos<l.length
 n0:0≤s.dI
 n1:s.dI≤2000
 d0:0≤s.deep
 d1:s.deep≤40
structure KT (l:List Tok):Prop where
 len:l.length≤10000
 fin:∀i t,l[i]? =some t→t.1≠0→i+1<l.length
def p5 (a e:Int):D:=.iface 56 (.agg [.int .i64 a,.int .i64 e])
def EE (l:List Tok) (s:PS):Prop:=0≤s.pos∧s.pos<l.length
theorem dy.at_ {l:List Tok} {s:PS} (ok:dy l s):EE l s:=⟨ok.p0p,ok.SX⟩
theorem oO {l:List Tok} {s:PS} (ok:EE l s):l[s.pos.toNat]? =some (fe l s):=by
 obtain ⟨h1,h2⟩:=ok
 rw [fe,List.getD_eq_getElem?_getD,List.getElem?_eq_getElem (by omega)]
 rfl
theorem TU {K:D→aa→Prop} {h:aa} {l:List Tok} {s:PS} (ok:EE l s):fx 3 K h (oh l) s.pos=K (.cO (iV (fe l s).1 (fe l s).2.1 (fe l s).2.2) 0) h:=by
 have h1:=ok.1
 have h2:=ok.2
 have:=n9 (K:=K) (h:=h) (l:=l) (i:=s.pos) (f:=fun t:Tok=>iV t.1 t.2.1 t.2.2) (sz:=3) fun _=>rfl
 show fx 3 K h (l.map fun t:Tok=>iV t.1 t.2.1 t.2.2) s.pos=_
 rw [this]
 apply propext
 constructor
 ·intro hh; exact hh.2 _ (oO ok)
 ·intro hh
  refine ⟨⟨h1,h2⟩,fun x hx=>?_⟩
  rw [oO ok] at hx
  cases hx
  exact hh
theorem I1 {h:aa} {id:Nat} {o:cJ} (e:h.f id=some o):h.set id o=h:=aa.ext fun q=>by
 simp only [aa.b9]
 split
 ·rename_i c; subst c; exact e.symm
 ·rfl
theorem ah8 (l:List Tok) (s:PS) (id:Nat) (ok:EE l s):aH Tryz.prog 36 [.ptr id 1 0] (aa.emp.set id (cK l s)) fun o h'=>∃d,o=.ret d∧d=.agg (iV (fe l s).1 (fe l s).2.1 (fe l s).2.2)∧h'=aa.emp.set id (cK l s):=by
 refine aH.VS (bh.dJ _) ajJ (by simp) ?_
 have hn:=fun (K:D→aa→Prop) (h:aa)=>TU (K:=K) (h:=h) ok
 simp (maxSteps:=1000000) only [aiZ,cK,iU,iV,hn,aA,seval]
 intro i2 n1 n2
 simp (maxSteps:=1000000) only [n1,n2,iU,iV,hn,aA,seval]
 exact ⟨_,sub_one (by simp [n2]),rfl⟩
def Uv (args:List D) (h:aa) (K:D→aa→Prop):Prop:=∃(l:List Tok) (s:PS) (id:Nat),args=[.ptr id 1 0]∧h.f id=some (cK l s)∧EE l s∧K (.agg (iV (fe l s).1 (fe l s).2.1 (fe l s).2.2)) h
theorem R3 (args:List D) (h:aa) (K K':D→aa→Prop) (hk:∀d h,K d h→K' d h) (c:Uv args h K):Uv args h K':=by
 obtain ⟨l,s,id,a,b,c,d⟩:=c
 exact ⟨l,s,id,a,b,c,hk _ _ d⟩
theorem Y8 (args:List D) (h:aa) (K:D→aa→Prop) (c:Uv args h K):aH Tryz.prog 36 args h fun o h'=>∃d,o=.ret d∧K d h':=by
 obtain ⟨l,s,id,rfl,b,c,d⟩:=c
 refine (aH.LD (sub_one b) (ah8 l s id c)).mono fun o h' ⟨h1,⟨x,e1,e2,e3⟩,e4⟩=>⟨x,e1,?_⟩
 rw [e2,e4,e3,sr b,I1 b]
 exact d
def xB:bh:=bh.zero.sv 36 Uv R3
theorem Pe:xB.q=bh.zero.q:=rfl
theorem Pc:xB.a=bh.zero.a:=rfl
theorem Pd (g:FuncId) (args:List D) (h:aa) (K E:D→aa→Prop):xB.c g args h K E=if g=36 then Uv args h K else bh.zero.c g args h K E:=rfl
theorem BA:xB.ok Tryz.prog:=bh.lL (bh.dJ _) Y8
theorem y8:type_of% (And.intro @Pe (And.intro @Pc @Pd)):=(And.intro @Pe (And.intro @Pc @Pd))
def GC (args:List D) (h:aa) (K E:D→aa→Prop):Prop:=∃(l:List Tok) (s:PS) (id:Nat) (e:Int),args=[.ptr id 1 0,.int .i64 e]∧h.f id=some (cK l s)∧EE l s∧E (p5 (fe l s).2.2 e) h
theorem Lg (args:List D) (h:aa) (K E K' E':D→aa→Prop) (hk:∀d h,K d h→K' d h) (he:∀d h,E d h→E' d h) (c:GC args h K E):GC args h K' E':=by
 obtain ⟨l,s,id,e,a,b,c,d⟩:=c
 exact ⟨l,s,id,e,a,b,c,he _ _ d⟩
theorem Ub (args:List D) (h:aa) (K E:D→aa→Prop) (c:GC args h K E):aH Tryz.prog 38 args h (cY.to K E):=by
 obtain ⟨l,s,id,e,rfl,b,c,d⟩:=c
 refine aH.cv BA (dc:=cy.none) (fun _ _=>cy.cX) (by kernel_rfl) ajL (by simp) ?_
 rw [cA]
 simp (maxSteps:=1000000) only [ai1,y8,aA,seval]
 refine ⟨l,s,id,rfl,b,c,?_⟩
 simp (maxSteps:=1000000) only [iV,yU,aX,ab,av,y8,aA,seval]
 exact ⟨h,aa.aj h,d⟩
def xD:bh:=xB.gI 38 GC Lg
theorem Pl:xD.q=xB.q:=rfl
theorem Pj:xD.a=xB.a:=rfl
theorem Pk (g:FuncId) (args:List D) (h:aa) (K E:D→aa→Prop):xD.c g args h K E=if g=38 then GC args h K E else xB.c g args h K E:=rfl
theorem WX:xD.ok Tryz.prog:=bh.bQ BA Ub
theorem uQ:type_of% (And.intro (And.intro @Pl (And.intro @Pj @Pk)) @y8):=(And.intro (And.intro @Pl (And.intro @Pj @Pk)) @y8)
def cP {α:Type} (sp:PS→PR α) (enc:α→D) (l:List Tok) (s:PS) (id:Nat) (h:aa) (K E:D→aa→Prop):Prop:=
 h.f id=some (cK l s)∧dy l s∧lg (sp s) (fun x s'=>dy l s'→K (enc x) (h.set id (cK l s'))) (fun a e=>∀s',E (p5 a e) (h.set id (cK l s')))
theorem fW {α:Type} {sp:PS→PR α} {enc:α→D} {l:List Tok} {s:PS} {id:Nat} {h:aa} {K E K' E':D→aa→Prop} (hk:∀d h,K d h→K' d h) (he:∀d h,E d h→E' d h) (c:cP sp enc l s id h K E):cP sp enc l s id h K' E':=
 ⟨c.1,c.2.1,js (fun x s' k ok=>hk _ _ (k ok)) (fun a e k s'=>he _ _ (k s')) c.2.2⟩
def nV {α:Type} (enc:α→D) (l:List Tok) (id:Nat) (K0:α→PS→Prop) (E0:Int→Int→Prop) (o:cY) (h':aa):Prop:=
 match o with
 | .ret d=>∃x s',d=enc x∧h'=aa.emp.set id (cK l s')∧K0 x s'
 | .panic d=>∃a e s',d=p5 a e∧h'=aa.emp.set id (cK l s')∧E0 a e
theorem kQ {α:Type} {sp:PS→PR α} {enc:α→D} {l:List Tok} {s:PS} {id:Nat} {h:aa} {K E:D→aa→Prop} {f:FuncId} {args:List D}
  (alL:dy l s→∀(K0:α→PS→Prop) (E0:Int→Int→Prop),lg (sp s) (fun x s'=>dy l s'→K0 x s') E0→aH Tryz.prog f args (aa.emp.set id (cK l s)) (nV enc l id K0 E0)) (c:cP sp enc l s id h K E):aH Tryz.prog f args h (cY.to K E):=by
 obtain ⟨b,ok,hw⟩:=c
 refine (aH.LD (sub_one b) (alL ok (fun x s'=>K (enc x) (h.set id (cK l s'))) (fun a e=>∀s',E (p5 a e) (h.set id (cK l s'))) hw)).mono fun o h' ⟨h1,e1,e4⟩=>?_
 cases o with
 | ret d=>
  obtain ⟨x,s',e2,e3,k⟩:=e1
  show K d h'
  rw [e2,e4,e3,sr b]
  exact k
 | panic d=>
  obtain ⟨a,e,s',e2,e3,k⟩:=e1
  show E d h'
  rw [e2,e4,e3,sr b]
  exact k s'
theorem cV {α:Type} {enc:α→D} {l:List Tok} {id:Nat} {K0:α→PS→Prop} {E0:Int→Int→Prop} {h:aa} {d:D} {x:α} {s':PS} {C:Prop} (e:d=enc x) (hid:h.f id=some (cK l s')) (k:K0 x s'):
  (∃h',h'.sub h∧nV enc l id K0 E0 (.ret d) h')∨C:=.inl ⟨_,sub_one hid,x,s',e,rfl,k⟩
theorem im {α:Type} {enc:α→D} {l:List Tok} {id:Nat} {K0:α→PS→Prop} {E0:Int→Int→Prop} {h:aa} {d:D} {x:α} {s':PS} {C:Prop} (e:d=enc x) (hid:h.f id=some (cK l s')) (k:K0 x s'):
  C∨∃h',h'.sub h∧nV enc l id K0 E0 (.ret d) h':=.inr ⟨_,sub_one hid,x,s',e,rfl,k⟩
theorem amf (l:List Tok) (s:PS) (id:Nat) (x:List UInt8) (ok:EE l s):aH Tryz.prog 37 [.ptr id 1 0,.str x] (aa.emp.set id (cK l s)) fun o h'=>∃d,o=.ret d∧d=.bool (oK l x s)∧h'=aa.emp.set id (cK l s):=by
 refine aH.VS BA ajK (by simp) ?_
 simp (maxSteps:=1000000) only [ai0,iU,uQ,aA,seval]
 refine ⟨l,s,id,rfl,by simp,ok,?_⟩
 unfold oK
 generalize fe l s=t
 obtain ⟨k,y,a⟩:=t
 simp (maxSteps:=1000000) only [iV,iU,uQ,aA,seval]
 intro i2 n1 n2
 cases lM:(y==x)<;>cases lN:(k==5)<;>cases lO:(k==4)
 all_goals
  simp (maxSteps:=1000000) only [lM,lN,lO,n1,n2,iU,uQ,aA,seval]
  exact ⟨_,sub_one (by simp [n2]),rfl⟩
def cIs (args:List D) (h:aa) (K:D→aa→Prop):Prop:=∃(l:List Tok) (s:PS) (id:Nat) (x:List UInt8),args=[.ptr id 1 0,.str x]∧h.f id=some (cK l s)∧EE l s∧K (.bool (oK l x s)) h
theorem Um (args:List D) (h:aa) (K K':D→aa→Prop) (hk:∀d h,K d h→K' d h) (c:cIs args h K):cIs args h K':=by
 obtain ⟨l,s,id,x,a,b,c,d⟩:=c
 exact ⟨l,s,id,x,a,b,c,hk _ _ d⟩
theorem adD (args:List D) (h:aa) (K:D→aa→Prop) (c:cIs args h K):aH Tryz.prog 37 args h fun o h'=>∃d,o=.ret d∧K d h':=by
 obtain ⟨l,s,id,x,rfl,b,c,d⟩:=c
 refine (aH.LD (sub_one b) (amf l s id x c)).mono fun o h' ⟨h1,⟨x,e1,e2,e3⟩,e4⟩=>⟨x,e1,?_⟩
 rw [e2,e4,e3,sr b,I1 b]
 exact d
def xC:bh:=xD.sv 37 cIs Um
theorem Ph:xC.q=xD.q:=rfl
theorem Pf:xC.a=xD.a:=rfl
theorem Pg (g:FuncId) (args:List D) (h:aa) (K E:D→aa→Prop):xC.c g args h K E=if g=37 then cIs args h K else xD.c g args h K E:=rfl
theorem JN:xC.ok Tryz.prog:=bh.lL WX adD
theorem uP:type_of% (And.intro (And.intro @Ph (And.intro @Pf @Pg)) @uQ):=(And.intro (And.intro @Ph (And.intro @Pf @Pg)) @uQ)
theorem yY {l:List Tok} {s:PS} {x:List UInt8} (hl:KT l) (ok:dy l s) (h:oK l x s=true):dy l (di s):=by
 obtain ⟨h1,h2,h3,h4,h5,h6⟩:=ok
 have:=hl.fin _ _ (oO ⟨h1,h2⟩) (fun e=>by simp [oK,e] at h)
 exact ⟨by simp only [di]; omega,by simp only [di]; omega,h3,h4,h5,h6⟩
theorem afO (l:List Tok) (hl:KT l) (s:PS) (id:Nat) (x:List UInt8) (ok:dy l s) (K0:Bool→PS→Prop) (E0:Int→Int→Prop) (hw:lg (eC l x s) (fun x s'=>dy l s'→K0 x s') E0):aH Tryz.prog 57 [.ptr id 1 0,.str x] (aa.emp.set id (cK l s)) (nV D.bool l id K0 E0):=by
 refine aH.cv JN (dc:=cy.none) (fun _ _=>cy.cX) (by kernel_rfl) ajS (by simp) ?_
 rw [cA]
 have w1:IntKind.i64.wrap (s.pos+1)=s.pos+1:=wrap_i64 (by have:=ok.p0p; omega) (by have:=ok.SX; have:=hl.len; omega)
 unfold eC at hw
 simp (maxSteps:=1000000) only [ai7,uP,aA,seval]
 refine ⟨l,s,id,x,rfl,by simp,ok.at_,?_⟩
 cases c:oK l x s with
 | true=>
  have sE:=yY hl ok c
  rw [c,cond_true,cU] at hw
  simp (maxSteps:=1000000) only [cK,w1,af,ab,av,uP,aA,seval]
  exact cV (x:=true) (s':=di s) rfl (by simp [cK,di]) (hw sE)
 | false=>
  rw [c,cond_false,cU] at hw
  simp (maxSteps:=1000000) only [af,ab,av,uP,aA,seval]
  exact cV (x:=false) (s':=s) rfl (by simp) (hw ok)
def GN (args:List D) (h:aa) (K E:D→aa→Prop):Prop:=∃(l:List Tok) (s:PS) (id:Nat) (x:List UInt8),args=[.ptr id 1 0,.str x]∧KT l∧cP (eC l x) D.bool l s id h K E
theorem Lp (args:List D) (h:aa) (K E K' E':D→aa→Prop) (hk:∀d h,K d h→K' d h) (he:∀d h,E d h→E' d h) (c:GN args h K E):GN args h K' E':=by
 obtain ⟨l,s,id,x,a,b,c⟩:=c
 exact ⟨l,s,id,x,a,b,fW hk he c⟩
theorem Uz (args:List D) (h:aa) (K E:D→aa→Prop) (c:GN args h K E):aH Tryz.prog 57 args h (cY.to K E):=by
 obtain ⟨l,s,id,x,rfl,hl,c⟩:=c
 exact kQ (fun ok K0 E0 hw=>afO l hl s id x ok K0 E0 hw) c
def xP:bh:=xC.gI 57 GN Lp
theorem Qa:xP.q=xC.q:=rfl
theorem P9:xP.a=xC.a:=rfl
theorem P_ (g:FuncId) (args:List D) (h:aa) (K E:D→aa→Prop):xP.c g args h K E=if g=57 then GN args h K E else xC.c g args h K E:=rfl
theorem JV:xP.ok Tryz.prog:=bh.bQ JN Uz
theorem uR:type_of% (And.intro (And.intro @Qa (And.intro @P9 @P_)) @uP):=(And.intro (And.intro @Qa (And.intro @P9 @P_)) @uP)
theorem aI {α:Type} {enc:α→D} {l:List Tok} {id:Nat} {K0:α→PS→Prop} {E0:Int→Int→Prop} {h:aa} {a e:Int} {s':PS} (hid:h.f id=some (cK l s')) (k:E0 a e):
  ∃h',h'.sub h∧nV enc l id K0 E0 (.panic (p5 a e)) h':=⟨_,sub_one hid,a,e,s',rfl,rfl,k⟩
theorem aeu (l:List Tok) (hl:KT l) (s:PS) (id:Nat) (x:List UInt8) (ok:dy l s) (K0:Unit→PS→Prop) (E0:Int→Int→Prop) (hw:lg (gP l x s) (fun x s'=>dy l s'→K0 x s') E0):aH Tryz.prog 60 [.ptr id 1 0,.str x] (aa.emp.set id (cK l s)) (nV (fun _=>.tuple []) l id K0 E0):=by
 refine aH.cv JV (dc:=cy.none) (fun _ _=>cy.cX) (by kernel_rfl) ajV (by simp) ?_
 rw [cA]
 simp (maxSteps:=1000000) only [ai_,uR,aA,seval]
 refine ⟨l,s,id,x,rfl,hl,by simp,ok,?_⟩
 unfold gP at hw
 unfold eC
 cases c:oK l x s with
 | true=>
  rw [c,cond_true,cU] at hw
  rw [cond_true,cU]
  intro sE
  simp (maxSteps:=1000000) only [ae,ab,av,uR,aA,seval]
  exact cV (x:=()) (s':=di s) rfl (by simp) (hw sE)
 | false=>
  rw [c,cond_false] at hw
  rw [cond_false,cU]
  intro _
  simp (maxSteps:=1000000) only [uR,aA,seval]
  refine ⟨l,s,id,110,rfl,by simp,ok.at_,?_⟩
  simp only [aX,ab,av]
  exact aI (s':=s) (by simp) hw
def GH (args:List D) (h:aa) (K E:D→aa→Prop):Prop:=∃(l:List Tok) (s:PS) (id:Nat) (x:List UInt8),args=[.ptr id 1 0,.str x]∧KT l∧cP (gP l x) (fun _=>.tuple []) l s id h K E
theorem Lj (args:List D) (h:aa) (K E K' E':D→aa→Prop) (hk:∀d h,K d h→K' d h) (he:∀d h,E d h→E' d h) (c:GH args h K E):GH args h K' E':=by
 obtain ⟨l,s,id,x,a,b,c⟩:=c
 exact ⟨l,s,id,x,a,b,fW hk he c⟩
theorem Uq (args:List D) (h:aa) (K E:D→aa→Prop) (c:GH args h K E):aH Tryz.prog 60 args h (cY.to K E):=by
 obtain ⟨l,s,id,x,rfl,hl,c⟩:=c
 exact kQ (fun ok K0 E0 hw=>aeu l hl s id x ok K0 E0 hw) c
def xS:bh:=xP.gI 60 GH Lj
theorem Ql:xS.q=xP.q:=rfl
theorem Qj:xS.a=xP.a:=rfl
theorem Qk (g:FuncId) (args:List D) (h:aa) (K E:D→aa→Prop):xS.c g args h K E=if g=60 then GH args h K E else xP.c g args h K E:=rfl
theorem JY:xS.ok Tryz.prog:=bh.bQ JV Uq
theorem pP:type_of% (And.intro (And.intro @Ql (And.intro @Qj @Qk)) @uR):=(And.intro (And.intro @Ql (And.intro @Qj @Qk)) @uR)
theorem aev (l:List Tok) (hl:KT l) (s:PS) (id:Nat) (ok:dy l s) (K0:List UInt8→PS→Prop) (E0:Int→Int→Prop) (hw:lg (ko l s) (fun x s'=>dy l s'→K0 x s') E0):aH Tryz.prog 58 [.ptr id 1 0] (aa.emp.set id (cK l s)) (nV D.str l id K0 E0):=by
 refine aH.cv JY (dc:=cy.none) (fun _ _=>cy.cX) (by kernel_rfl) ajT (by simp) ?_
 rw [cA]
 have w1:IntKind.i64.wrap (s.pos+1)=s.pos+1:=wrap_i64 (by have:=ok.p0p; omega) (by have:=ok.SX; have:=hl.len; omega)
 simp (maxSteps:=1000000) only [ai8,pP,aA,seval]
 refine ⟨l,s,id,rfl,by simp,ok.at_,?_⟩
 unfold ko at hw
 have alu:=hl.fin _ _ (oO ok.at_)
 have ZA:∀(α:Type) (e:Int),(jX l e s:PR α)=.fail (fe l s).2.2 e:=fun _ _=>rfl
 cases c:((fe l s).1==1) with
 | true=>
  have c':((fe l s).1 != 1)=false:=by simpa using c
  rw [c,cond_true,cU] at hw
  have sE:dy l (di s):=by
   have:=alu (by simp at c; omega)
   obtain ⟨h1,h2,h3,h4,h5,h6⟩:=ok
   exact ⟨by simp only [di]; omega,by simp only [di]; omega,h3,h4,h5,h6⟩
  have k:=hw sE
  generalize fe l s=t at*
  obtain ⟨kk,y,a⟩:=t
  simp (maxSteps:=1000000) only [iV,pP,aA,seval]
  intro i2 n1 n2
  simp only at c c'
  simp (maxSteps:=1000000) only [cK,c',n1,n2,w1,af,ab,av,pP,aA,seval]
  exact cV (x:=y) (s':=di s) rfl (by simp [cK,di,n1,n2]) k
 | false=>
  have c':((fe l s).1 != 1)=true:=by simpa using c
  rw [c,cond_false] at hw
  have hw':E0 (fe l s).2.2 110:=hw
  generalize ht:fe l s=t at*
  obtain ⟨kk,y,a⟩:=t
  simp (maxSteps:=1000000) only [iV,pP,aA,seval]
  intro i2 n1 n2
  simp only at c c'
  simp (maxSteps:=1000000) only [c',n1,n2,pP,aA,seval]
  refine ⟨l,s,id,110,rfl,by simp [n1,n2],ok.at_,?_⟩
  simp only [aX,ab,av]
  rw [ht]
  exact aI (s':=s) (by simp [n1,n2]) hw'
def GI (args:List D) (h:aa) (K E:D→aa→Prop):Prop:=∃(l:List Tok) (s:PS) (id:Nat) ,args=[.ptr id 1 0]∧KT l∧cP (ko l) D.str l s id h K E
theorem Lk (args:List D) (h:aa) (K E K' E':D→aa→Prop) (hk:∀d h,K d h→K' d h) (he:∀d h,E d h→E' d h) (c:GI args h K E):GI args h K' E':=by
 obtain ⟨l,s,id,a,b,c⟩:=c
 exact ⟨l,s,id,a,b,fW hk he c⟩
theorem Ur (args:List D) (h:aa) (K E:D→aa→Prop) (c:GI args h K E):aH Tryz.prog 58 args h (cY.to K E):=by
 obtain ⟨l,s,id,rfl,hl,c⟩:=c
 exact kQ (fun ok K0 E0 hw=>aev l hl s id  ok K0 E0 hw) c
def xQ:bh:=xS.gI 58 GI Lk
theorem Qe:xQ.q=xS.q:=rfl
theorem Qb:xQ.a=xS.a:=rfl
theorem Qc (g:FuncId) (args:List D) (h:aa) (K E:D→aa→Prop):xQ.c g args h K E=if g=58 then GI args h K E else xS.c g args h K E:=rfl
theorem Xc:xQ.ok Tryz.prog:=bh.bQ JY Ur
theorem Qd:type_of% (And.intro (And.intro @Qe (And.intro @Qb @Qc)) @pP):=(And.intro (And.intro @Qe (And.intro @Qb @Qc)) @pP)
end
end Go.Proofs.YtpklkpkfgmoghaaGreatDoor.Zz
namespace Go.Proofs.YtpklkpkfgmoghaaGreatDoor.Zz
noncomputable section
def amY:cm:=⟨⟨[],[(3,1)],[],[],[],[]⟩,[],[],false⟩
def afn:dU:=
 sO [oQ (.box (.t 1)) 3,
 oA 4]
 (.seq (sO [oM 0 5,
 oN 5 6,
 oF 2 6 7,
 oL 7 8,
 oH .add 8 1 9,
 oN 5 10,
 oF 2 10 11,
 oS 1 11 9]
 (sO [oM 0 12,
 oN 12 13,
 oF 2 13 14,
 oL 14 15,
 oH .gtr 15 2000 16]
 (.cond (.t 16)
 (.ops [oM 0 17,
 oC 38 [.t 17,kI 3] 18])
 (.skip))))
 (sO [oJ 5 3 19,
 oS 5 4 19]
 (.ret)))
theorem ace:bA Tryz.prog 35 amY=some (afn,[.cell 4 (some 5)],20):=by kernel_rfl
def am3:cm:=⟨⟨[],[],[],[],[],[]⟩,[],[],false⟩
def ai3:dU:=
 sO [oP (.cB (kS [])) 2]
 (.seq (sO [oM 0 3]
 (.block 0 (sO [oH .eql 3 1 5,
 oM 5 4]
 (.cond (.t 4)
 (sO [oP (.cB (kS [105,110,116])) 2]
 (.ret))
 (sO [oH .eql 3 2 7,
 oM 7 6]
 (.cond (.t 6)
 (sO [oP (.cB (kS [102,108,111,97,116])) 2]
 (.ret))
 (sO [oH .eql 3 3 9,
 oM 9 8]
 (.cond (.t 8)
 (sO [oP (.cB (kS [98,111,111,108])) 2]
 (.ret))
 (.skip)))))))))
 (sO [oP (.cB (kS [])) 2]
 (.ret)))
theorem ajN:bA Tryz.prog 41 am3=some (ai3,[.tmp 2],10):=by kernel_rfl
def anb:cm:=⟨⟨[],[(4,3),(6,1)],[],[],[],[]⟩,[],[],false⟩
def ai9:dU:=
 sO [oP (.cB (kI 0)) 2]
 (.seq (sO [oP (.cB (kI 1)) 3]
 (.block 0 (.loop (.seq (sO [oM 3 4,
 oH .leq 4 3 5]
 (.cond (.t 5)
 (.skip)
 (.exit 0)))
 (.seq (.block 1 (sO [oM 0 8,
 oM 3 9,
 oD 41 [.t 9] 10,
 oC 57 [.t 8,.t 10] 11]
 (.cond (.t 11)
 (sO [oM 3 12,
 oM 12 2]
 (.ret))
 (.skip))))
 (.ops [oM 3 6,
 oH .add 6 1 7,
 oM 7 3]))))))
 (sO [oM 0 13,
 oC 38 [.t 13,kI 110] 14]
 (sO [oP (.cB (kI 0)) 2]
 (.ret))))
theorem ajU:bA Tryz.prog 59 anb=some (ai9,[.tmp 2],15):=by kernel_rfl
def ano:cm:=⟨⟨[],[(3,1)],[],[],[],[]⟩,[],[],false⟩
def IW:dU:=
 sO [oQ (.box (.t 0)) 1,
 oP (.cB (.c .gf)) 2]
 (.seq (sO [oL 1 3,
 oN 3 4,
 oF 3 4 5,
 oL 5 6,
 oH .add 6 1 7,
 oN 3 8,
 oF 3 8 9,
 oS 1 9 7]
 (sO [oL 1 10,
 oN 10 11,
 oF 3 11 12,
 oL 12 13,
 oH .gtr 13 40 14]
 (.cond (.t 14)
 (.ops [oL 1 15,
 oC 38 [.t 15,kI 3] 16])
 (.skip))))
 (sO [oP (.mkFunc (.func 100) [] [(.t 1)]) 17,
 oM 17 2]
 (.ret)))
theorem aj6:bA Tryz.prog 84 ano=some (IW,[.tmp 2],18):=by kernel_rfl
def aii:cm:=⟨⟨[],[],[],[],[],[]⟩,[],[],false⟩
def ab2:dU:=
 .ops [oL 0 1,
 oN 1 2,
 oF 3 2 3,
 oL 3 4,
 oH .sub 4 1 5,
 oN 1 6,
 oF 3 6 7,
 oS 1 7 5]
theorem afw:bA Tryz.prog 100 aii=some (ab2,[],8):=by kernel_rfl
def nE (t:Int):List UInt8:=bif t==1 then pS else bif t==2 then ib else bif t==3 then BN else []
theorem BG (t:Int):aV Tryz.prog 41 [.int .i64 t] (.str (nE t)):=by
 refine aV.run (bh.dJ _) ajN (by simp) fun E=>?_
 unfold nE
 cases lM:(t==1)<;>cases lN:(t==2)<;>cases lO:(t==3)
 all_goals simp (maxSteps:=1000000) only [ai3,lM,lN,lO,pS,ib,BN,aA,seval]
def S8:List D→Option D
 | [.int .i64 t]=>some (.str (nE t))
 | _=>none
theorem aan (args:List D) (d:D) (h:S8 args=some d):aV Tryz.prog 41 args d:=by
 unfold S8 at h
 split at h
 ·cases h; exact BG _
 ·cases h
def xG:bh:=xQ.dR 41 S8
theorem Pv (g:FuncId) (args:List D):xG.q g args=if g=41 then S8 args else xQ.q g args:=rfl
theorem Pt:xG.a=xQ.a:=rfl
theorem Pu:xG.c=xQ.c:=rfl
theorem JR:xG.ok Tryz.prog:=bh.bE Xc aan
theorem pN:type_of% (And.intro (And.intro @Pv (And.intro @Pt @Pu)) @Qd):=(And.intro (And.intro @Pv (And.intro @Pt @Pu)) @Qd)
theorem akk (l:List Tok) (hl:KT l) (s:PS) (id:Nat) (ok:dy l s) (K0:Int→PS→Prop) (E0:Int→Int→Prop) (hw:lg (sH l s) (fun x s'=>dy l s'→K0 x s') E0):aH Tryz.prog 59 [.ptr id 1 0] (aa.emp.set id (cK l s)) (nV (fun t=>D.int .i64 t) l id K0 E0):=by
 refine aH.cv JR (dc:=cy.none) (fun _ _=>cy.cX) (by kernel_rfl) ajU (by simp) ?_
 rw [cA]
 simp (maxSteps:=1000000) only [ai9,pN,aA,seval]
 refine cj (X:=Nat) (fun i=>[(0,.ptr id 1 0),(3,.int .i64 i)]) (fun _=>aa.emp.set id (cK l s)) (fun i=>4 - i) (fun i=>1≤i∧i≤4∧∀j:Nat,1≤j→j<i→oK l (nE j) s=false) 1 ⟨by omega,by omega,fun j h1 h2=>by omega⟩ (by simp only [aA,seval]) (aa.aj _) ?_
 rintro i Q ⟨i1,i2,i3⟩ hQ
 have ahS:∀(hi:i≤3) (b:Bool),oK l (nE i) s=b→(b=true→lg (sH l s) (fun x s'=>dy l s'→K0 x s') E0→K0 i (di s)):=fun hi b hb e hw=>by
  subst e
  have sE:=yY hl ok hb
  have e1:1<i→oK l pS s=false:=fun h=>i3 1 (by omega) h
  have e2:2<i→oK l ib s=false:=fun h=>i3 2 (by omega) h
  unfold sH at hw
  rcases (by omega:i=1∨i=2∨i=3) with rfl | rfl | rfl
  ·have hb:oK l pS s=true:=hb
   rw [hb] at hw; exact hw sE
  ·have hb:oK l ib s=true:=hb
   rw [e1 (by omega),hb] at hw; exact hw sE
  ·have hb:oK l BN s=true:=hb
   rw [e1 (by omega),e2 (by omega),hb] at hw; exact hw sE
 by_cases c0p:i≤3
 ·have g:((i:Int)≤3)=True:=eq_true (by omega)
  have hq:S8 [.int .i64 i]=some (.str (nE i)):=rfl
  have wi:IntKind.i64.wrap ((i:Int)+1)=((i+1:Nat):Int):=cp (by omega)
  simp (maxSteps:=1000000) only [g,hq,pN,aA,seval]
  refine ⟨l,s,id,nE i,rfl,hl,by simp,ok,?_⟩
  unfold eC
  cases c:oK l (nE i) s with
  | true=>
   rw [cond_true,cU]
   intro sE
   simp (maxSteps:=1000000) only [af,ab,av,pN,aA,seval]
   exact cV (x:=(i:Int)) (s':=di s) rfl (by simp) (ahS c0p true c rfl hw)
  | false=>
   rw [cond_false,cU]
   intro _
   simp (maxSteps:=1000000) only [wi,pN,aA,seval]
   refine hQ (i+1) _ _ ⟨by omega,by omega,fun j h1 h2=>?_⟩ (by simp only [aA,seval]) ?_ (by omega)
   ·by_cases e:j=i
    ·subst e; exact c
    ·exact i3 j h1 (by omega)
   ·exact aa.aj _
 ·have e0:i=4:=by omega
  subst e0
  have e1:oK l pS s=false:=i3 1 (by omega) (by omega)
  have e2:oK l ib s=false:=i3 2 (by omega) (by omega)
  have e3:oK l BN s=false:=i3 3 (by omega) (by omega)
  simp (maxSteps:=1000000) only [pN,aA,seval]
  refine ⟨l,s,id,110,rfl,by simp,ok.at_,?_⟩
  unfold sH at hw
  rw [e1,e2,e3] at hw
  simp only [aX,ab,av]
  exact aI (s':=s) (by simp) hw
def UB (args:List D) (h:aa) (K E:D→aa→Prop):Prop:=∃(l:List Tok) (s:PS) (id:Nat) ,args=[.ptr id 1 0]∧KT l∧cP (sH l) (fun t=>D.int .i64 t) l s id h K E
theorem R6 (args:List D) (h:aa) (K E K' E':D→aa→Prop) (hk:∀d h,K d h→K' d h) (he:∀d h,E d h→E' d h) (c:UB args h K E):UB args h K' E':=by
 obtain ⟨l,s,id,a,b,c⟩:=c
 exact ⟨l,s,id,a,b,fW hk he c⟩
theorem Y_ (args:List D) (h:aa) (K E:D→aa→Prop) (c:UB args h K E):aH Tryz.prog 59 args h (cY.to K E):=by
 obtain ⟨l,s,id,rfl,hl,c⟩:=c
 exact kQ (fun ok K0 E0 hw=>akk l hl s id  ok K0 E0 hw) c
def xR:bh:=xG.gI 59 UB R6
theorem Qi:xR.q=xG.q:=rfl
theorem Qg:xR.a=xG.a:=rfl
theorem Qh (g:FuncId) (args:List D) (h:aa) (K E:D→aa→Prop):xR.c g args h K E=if g=59 then UB args h K E else xG.c g args h K E:=rfl
theorem BC:xR.ok Tryz.prog:=bh.bQ JR Y_
theorem nB:type_of% (And.intro (And.intro @Qi (And.intro @Qg @Qh)) @pN):=(And.intro (And.intro @Qi (And.intro @Qg @Qh)) @pN)
theorem aeA (l:List Tok) (hl:KT l) (s:PS) (id:Nat) (n:Nd) (ok:dy l s) (K0:Nd→PS→Prop) (E0:Int→Int→Prop) (hw:lg (eJ l n s) (fun x s'=>dy l s'→K0 x s') E0):aH Tryz.prog 35 [.ptr id 1 0,.agg n.enc] (aa.emp.set id (cK l s)) (nV (fun n=>.agg n.enc) l id K0 E0):=by
 refine aH.cv BC (dc:=cy.none) (fun _ _=>cy.cX) (by kernel_rfl) ace (by simp) ?_
 rw [cA]
 have w1:IntKind.i64.wrap (s.dI+1)=s.dI+1:=wrap_i64 (by have:=ok.n0; omega) (by have:=ok.n1; omega)
 unfold eJ at hw
 obtain ⟨nk,nt,ns,nm,nl⟩:=n
 rw [aB]
 simp (maxSteps:=1000000) only [afn,cK,nB,aA,seval]
 intro i3 n1 n2 i4 n3 n4 n5 n6
 by_cases c:s.dI+1>2000
 ·have g:(s.dI+1>2000)=True:=eq_true c
  rw [if_pos c] at hw
  simp (maxSteps:=1000000) only [g,w1,n1,n2,n3,n4,n5,n6,nB,aA,seval]
  refine ⟨l,{ s with dI:=s.dI+1 },id,3,rfl,by simp [n1,n2,n3,n4,n5,n6,cK],ok.at_,?_⟩
  simp only [aX,ab,av]
  exact aI (s':={ s with dI:=s.dI+1 }) (by simp [n1,n2,n3,n4,n5,n6,cK]) hw
 ·have g:(s.dI+1>2000)=False:=eq_false c
  rw [if_neg c] at hw
  simp (maxSteps:=1000000) only [g,w1,n1,n2,n3,n4,n5,n6,af,ab,av,nB,aA,seval]
  have sE:dy l { s with dI:=s.dI+1 }:=by
   obtain ⟨h1,h2,h3,h4,h5,h6⟩:=ok
   exact ⟨h1,h2,by simp only; omega,by simp only; omega,h5,h6⟩
  exact cV (x:=.mk nk nt ns nm nl) (s':={ s with dI:=s.dI+1 }) (by rw [aB]) (by simp [n1,n2,n3,n4,n5,n6,cK]) (hw sE)
def M0 (args:List D) (h:aa) (K E:D→aa→Prop):Prop:=∃(l:List Tok) (s:PS) (id:Nat) (n:Nd),args=[.ptr id 1 0,.agg n.enc]∧KT l∧cP (eJ l n) (fun n=>.agg n.enc) l s id h K E
theorem Lm (args:List D) (h:aa) (K E K' E':D→aa→Prop) (hk:∀d h,K d h→K' d h) (he:∀d h,E d h→E' d h) (c:M0 args h K E):M0 args h K' E':=by
 obtain ⟨l,s,id,n,a,b,c⟩:=c
 exact ⟨l,s,id,n,a,b,fW hk he c⟩
theorem Uu (args:List D) (h:aa) (K E:D→aa→Prop) (c:M0 args h K E):aH Tryz.prog 35 args h (cY.to K E):=by
 obtain ⟨l,s,id,n,rfl,hl,c⟩:=c
 exact kQ (fun ok K0 E0 hw=>aeA l hl s id n ok K0 E0 hw) c
def zV:Nd→List D
 | .mk k t s n _=>[.int .i64 k,.int .i64 t,.str s,.int .i64 n,.aZ]
theorem ZX (l:List Tok) (hl:KT l) (s:PS) (id:Nat) (n:Nd) (ok:dy l s) (K0:Nd→PS→Prop) (E0:Int→Int→Prop) (hw:lg (eJ l n s) (fun x s'=>dy l s'→K0 x s') E0):aH Tryz.prog 35 [.ptr id 1 0,.agg (zV n)] (aa.emp.set id (cK l s)) (nV (fun n=>.agg (zV n)) l id K0 E0):=by
 refine aH.cv BC (dc:=cy.none) (fun _ _=>cy.cX) (by kernel_rfl) ace (by simp) ?_
 rw [cA]
 have w1:IntKind.i64.wrap (s.dI+1)=s.dI+1:=wrap_i64 (by have:=ok.n0; omega) (by have:=ok.n1; omega)
 unfold eJ at hw
 obtain ⟨nk,nt,ns,nm,nl⟩:=n
 rw [zV]
 simp (maxSteps:=1000000) only [afn,cK,nB,aA,seval]
 intro i3 n1 n2 i4 n3 n4 n5 n6
 by_cases c:s.dI+1>2000
 ·have g:(s.dI+1>2000)=True:=eq_true c
  rw [if_pos c] at hw
  simp (maxSteps:=1000000) only [g,w1,n1,n2,n3,n4,n5,n6,nB,aA,seval]
  refine ⟨l,{ s with dI:=s.dI+1 },id,3,rfl,by simp [n1,n2,n3,n4,n5,n6,cK],ok.at_,?_⟩
  simp only [aX,ab,av]
  exact aI (s':={ s with dI:=s.dI+1 }) (by simp [n1,n2,n3,n4,n5,n6,cK]) hw
 ·have g:(s.dI+1>2000)=False:=eq_false c
  rw [if_neg c] at hw
  simp (maxSteps:=1000000) only [g,w1,n1,n2,n3,n4,n5,n6,af,ab,av,nB,aA,seval]
  have sE:dy l { s with dI:=s.dI+1 }:=by
   obtain ⟨h1,h2,h3,h4,h5,h6⟩:=ok
   exact ⟨h1,h2,by simp only; omega,by simp only; omega,h5,h6⟩
  exact cV (x:=.mk nk nt ns nm nl) (s':={ s with dI:=s.dI+1 }) rfl (by simp [n1,n2,n3,n4,n5,n6,cK]) (hw sE)
def E3 (args:List D) (h:aa) (K E:D→aa→Prop):Prop:=∃(l:List Tok) (s:PS) (id:Nat) (n:Nd),args=[.ptr id 1 0,.agg (zV n)]∧KT l∧cP (eJ l n) (fun n=>.agg (zV n)) l s id h K E
theorem GK (args:List D) (h:aa) (K E K' E':D→aa→Prop) (hk:∀d h,K d h→K' d h) (he:∀d h,E d h→E' d h) (c:E3 args h K E):E3 args h K' E':=by
 obtain ⟨l,s,id,n,a,b,c⟩:=c
 exact ⟨l,s,id,n,a,b,fW hk he c⟩
theorem R2 (args:List D) (h:aa) (K E:D→aa→Prop) (c:E3 args h K E):aH Tryz.prog 35 args h (cY.to K E):=by
 obtain ⟨l,s,id,n,rfl,hl,c⟩:=c
 exact kQ (fun ok K0 E0 hw=>ZX l hl s id n ok K0 E0 hw) c
def zF (args:List D) (h:aa) (K E:D→aa→Prop):Prop:=M0 args h K E∨E3 args h K E
theorem GJ (args:List D) (h:aa) (K E K' E':D→aa→Prop) (hk:∀d h,K d h→K' d h) (he:∀d h,E d h→E' d h) (c:zF args h K E):zF args h K' E':=c.elim (fun c=>.inl (Lm _ _ _ _ _ _ hk he c)) fun c=>.inr (GK _ _ _ _ _ _ hk he c)
theorem R1 (args:List D) (h:aa) (K E:D→aa→Prop) (c:zF args h K E):aH Tryz.prog 35 args h (cY.to K E):=c.elim (Uu _ _ _ _) (R2 _ _ _ _)
def sZ:bh:=xR.gI 35 zF GJ
theorem Pb:sZ.q=xR.q:=rfl
theorem O9:sZ.a=xR.a:=rfl
theorem O_ (g:FuncId) (args:List D) (h:aa) (K E:D→aa→Prop):sZ.c g args h K E=if g=35 then zF args h K E else xR.c g args h K E:=rfl
theorem WW:sZ.ok Tryz.prog:=bh.bQ BC R1
theorem Pa:type_of% (And.intro (And.intro @Pb (And.intro @O9 @O_)) @nB):=(And.intro (And.intro @Pb (And.intro @O9 @O_)) @nB)
def x_:bh:=sZ.adk 84 IW [.tmp 2] 18
theorem Ra:x_.q=sZ.q:=rfl
theorem Q8:x_.a=sZ.a:=rfl
theorem Q9 (g:FuncId) (args:List D) (h:aa) (K E:D→aa→Prop):x_.c g args h K E=if g=84 then (args.length≤18∧vc sZ IW (todo sZ (Mq [.tmp 2] K) (Im E) []) (Im E) (ij args) h) else sZ.c g args h K E:=rfl
theorem XW:x_.ok Tryz.prog:=bh.YR WW aj6
theorem Q_:type_of% (And.intro (And.intro @Ra (And.intro @Q8 @Q9)) @Pa):=(And.intro (And.intro @Ra (And.intro @Q8 @Q9)) @Pa)
def CB:cy:=fun k args u h F=>k=100∧∃(b id:Nat) (l:List Tok) (s:PS),args=[.ptr b 1 0]∧h.f b=some (.cells [.ptr id 1 0])∧h.f id=some (cK l s)∧F u (h.set id (cK l { s with deep:=IntKind.i64.wrap (s.deep - 1) }))
theorem zP (κ:cT) (w:World):CB.qe Tryz.prog κ w:=by
 rintro k args u h F ⟨rfl,b,id,l,s,rfl,hb,hid,hF⟩ κ' w' le
 refine iM.nR ((bh.dJ Tryz.prog).toY κ' w') afw (by simp) ?_
 have alA:h.f id=some (.cells [.sl (oh l),.int .i64 s.pos,.int .i64 s.dI,.int .i64 s.deep]):=hid
 simp (maxSteps:=1000000) only [ab2,hb,alA,iT,aA,seval]
 exact ⟨_,aa.aj _,hF⟩
end
end Go.Proofs.YtpklkpkfgmoghaaGreatDoor.Zz
namespace Go.Proofs.YtpklkpkfgmoghaaGreatDoor.Zz
noncomputable section
def ann:cm:=⟨⟨[],[(1,1),(10,1),(12,1),(15,2)],[],[],[],[]⟩,[],[],false⟩
def ajj:dU:=
 sO [oA 2,
 oP (.cB (kB false)) 3]
 (sO [oM 0 8,
 oC 36 [.t 8] 9,
 oQ (.alloc [(.int .i64 0),(.str []),(.int .i64 0)]) 4,
 oS 3 4 9]
 (sO [oA 5]
 (.seq (.block 0 (sO [oF 0 4 12,
 oL 12 13,
 oH .eql 13 2 14,
 oM 14 11]
 (.cond (.t 11)
 (sO [oF 1 4 16,
 oL 16 17,
 oD 98 [.t 17,kI 10,kI 64] 18,
 oM 18 15,
 oX 15 0 19,
 oX 15 1 20,
 oM 19 6,
 oM 20 7]
 (.ops [oM 6 21,
 oP (.build zN [(0,1,(kI 20)),(3,1,(.t 21))]) 22,
 oS 5 5 22]))
 (sO [oF 0 4 24,
 oL 24 25,
 oH .eql 25 3 26,
 oM 26 23]
 (.cond (.t 23)
 (sO [oF 1 4 27,
 oL 27 28,
 oD 99 [.t 28] 29,
 oS 5 5 29]
 (.ops [oF 1 5 30,
 oU (.store 1 (.t 30) (kI 0))]))
 (sO [oM 0 32,
 oC 37 [.t 32,(kS [116,114,117,101])] 33,
 oM 33 31]
 (.cond (.t 31)
 (.ops [oP (.build zN [(0,1,(kI 22)),(3,1,(kI 1))]) 34,
 oS 5 5 34])
 (sO [oM 0 36,
 oC 37 [.t 36,(kS [102,97,108,115,101])] 37,
 oM 37 35]
 (.cond (.t 35)
 (.ops [oP (.build zN [(0,1,(kI 22))]) 38,
 oS 5 5 38])
 (sO [oJ 5 5 10,
 oS 5 2 10,
 oP (.cB (kB false)) 3]
 (.ret)))))))))))
 (sO [oM 0 39,
 oN 39 40,
 oF 1 40 41,
 oL 41 42,
 oH .add 42 1 43,
 oN 39 44,
 oF 1 44 45,
 oS 1 45 43]
 (sO [oM 0 46,
 oJ 5 5 47,
 oC 35 [.t 46,.t 47] 48,
 oS 5 2 48,
 oP (.cB (kB true)) 3]
 (.ret))))))
theorem aj5:bA Tryz.prog 81 ann=some (ajj,[.cell 2 (some 5),.tmp 3],49):=by kernel_rfl
theorem Ni:∀(l:List UInt8) (a:Nat),a≤l.foldl (fun n c=>n*10+(c.toNat - 48)) a
 | [],a=>Nat.le_refl _
 | c::l,a=>by
  rw [List.foldl_cons]
  have:=Ni l (a*10+(c.toNat - 48))
  omega
theorem DE:∀(l:List UInt8) (a:Nat),l.all fi=true→l.foldl (fun n c=>n*10+(c.toNat - 48)) a<9223372036854775808→Lib.parseUintM 18446744073709551615 a l=.ok (l.foldl (fun n c=>n*10+(c.toNat - 48)) a)
 | [],a,_,_=>rfl
 | c::l,a,hd,hv=>by
  rw [List.all_cons,Bool.and_eq_true] at hd
  rw [List.foldl_cons] at hv ⊢
  have g:=Ni l (a*10+(c.toNat - 48))
  have hc:=hd.1
  simp only [fi,Bool.and_eq_true,decide_eq_true_eq] at hc
  rw [Lib.parseUintM,if_pos (by omega),if_neg (by omega),if_neg (by omega),DE l _ hd.2 hv]
theorem Me (s:List UInt8) (hd:s.all fi=true) (iy:s≠[]) (hl:s.length≤4096) (hv:fG s<9223372036854775808):aV Tryz.prog 98 [.str s,.int .i64 10,.int .i64 64] (.tuple [.int .i64 (fG s:Nat),.gX]):=by
 have hp:Lib.parseIntB 64 s=.ok (fG s:Nat):=by
  cases s with
  | nil=>exact absurd rfl iy
  | cons c r=>
   have hc:=hd
   simp only [List.all_cons,fi,Bool.and_eq_true,decide_eq_true_eq] at hc
   have n1:¬c.toNat=43:=by omega
   have n2:¬c.toNat=45:=by omega
   have hu:Lib.parseUintB 64 (c::r)=.ok (fG (c::r)):=by
    rw [Lib.parseUintB,if_neg (by simp)]
    exact DE (c::r) 0 hd hv
   unfold Lib.parseIntB
   simp only [n1,n2,or_self,if_false,false_and,not_false_eq_true,true_and]
   rw [hu]
   simp only [Nat.reduceSub,Nat.reducePow]
   rw [if_neg (by omega)]
 refine aV.mo (by kernel_rfl) fun κ w vs hg hr _=>?_
 obtain ⟨vl⟩:=vs
 cases hr with
 | cons r1 hr=>
  cases hr with
  | cons r2 hr=>
   cases hr with
   | cons r3 hr=>
    cases hr
    rw [jJ r2,jJ r3]
    cases r1 with
    | str _ h1=>
    refine (Tryz.strconv_ParseInt_10_at64_ok ⟨s.toArray⟩ (by simp [ByteArray.size]; omega) _ (by simpa using hp) w).mono fun e w' ⟨e1,e2⟩=>⟨_,e1,fun _ _=>cn.tuple (.cons (.int _ _) (.cons .gX .nil)),?_⟩
    rcases e2 with e2 | ⟨t,e2⟩
    ·rw [e2]; exact Go.RowKit.Below.refl _ _
    ·rw [e2]; exact Lib.bytesWorld_below _ _ _
structure yC (l:List Tok):Prop where
 lo:KT l
 whole:∀t∈l,t.1=2→t.2.1.all fi=true∧t.2.1≠[]∧t.2.1.length≤4096∧fG t.2.1<9223372036854775808
 dot:∀t∈l,t.1=3→∃A B,kx t.2.1 A B
open Classical in
def IE:List D→Option D
 | [.str s,.int .i64 10,.int .i64 64]=>if s.all fi=true∧s≠[]∧s.length≤4096∧fG s<9223372036854775808 then some (.tuple [.int .i64 (fG s:Nat),.gX]) else none
 | _=>none
theorem V8 (args:List D) (d:D) (h:IE args=some d):aV Tryz.prog 98 args d:=by
 unfold IE at h
 split at h
 ·split at h
  ·rename_i c
   cases h
   exact Me _ c.1 c.2.1 c.2.2.1 c.2.2.2
  ·cases h
 ·cases h
open Classical in
def Wh:List D→Option D
 | [.str s]=>if ∃A B,kx s A B then some (.agg [.int .i64 21,.int .i64 2,.str (nO s),.int .i64 (l9 (nO s)),.sl []]) else none
 | _=>none
theorem aal (args:List D) (d:D) (h:Wh args=some d):aV Tryz.prog 99 args d:=by
 unfold Wh at h
 split at h
 ·split at h
  ·rename_i c
   cases h
   obtain ⟨A,B,c⟩:=c
   exact Zm _ A B c
  ·cases h
 ·cases h
def rC:bh:=x_.dR 98 IE
theorem Ji (g:FuncId) (args:List D):rC.q g args=if g=98 then IE args else x_.q g args:=rfl
theorem Jf:rC.a=x_.a:=rfl
theorem Jg:rC.c=x_.c:=rfl
theorem To:rC.ok Tryz.prog:=bh.bE XW V8
theorem Jh:type_of% (And.intro (And.intro @Ji (And.intro @Jf @Jg)) @Q_):=(And.intro (And.intro @Ji (And.intro @Jf @Jg)) @Q_)
def xE:bh:=rC.dR 99 Wh
theorem Po (g:FuncId) (args:List D):xE.q g args=if g=99 then Wh args else rC.q g args:=rfl
theorem Pm:xE.a=rC.a:=rfl
theorem Pn:xE.c=rC.c:=rfl
theorem JO:xE.ok Tryz.prog:=bh.bE To aal
theorem h_:type_of% (And.intro (And.intro @Po (And.intro @Pm @Pn)) @Jh):=(And.intro (And.intro @Po (And.intro @Pm @Pn)) @Jh)
theorem V2 {l:List Tok} {s:PS} (ok:EE l s):fe l s∈l:=List.mem_of_getElem? (oO ok)
theorem Il {l:List Tok} {s:PS} (hl:KT l) (ok:dy l s) (h:(fe l s).1≠0):dy l (di s):=by
 have:=hl.fin _ _ (oO ok.at_) h
 obtain ⟨h1,h2,h3,h4,h5,h6⟩:=ok
 exact ⟨by simp only [di]; omega,by simp only [di]; omega,h3,h4,h5,h6⟩
set_option maxHeartbeats 1000000 in
theorem Z9 (l:List Tok) (hl:yC l) (s:PS) (id:Nat) (ok:dy l s) (K0:Nd×Bool→PS→Prop) (E0:Int→Int→Prop) (hw:lg (nS l s) (fun x s'=>dy l s'→K0 x s') E0):aH Tryz.prog 81 [.ptr id 1 0] (aa.emp.set id (cK l s)) (nV (fun x:Nd×Bool=>.tuple [.agg x.1.enc,.bool x.2]) l id K0 E0):=by
 refine aH.cv JO (dc:=cy.none) (fun _ _=>cy.cX) (by kernel_rfl) aj5 (by simp) ?_
 rw [cA]
 have w1:IntKind.i64.wrap (s.pos+1)=s.pos+1:=wrap_i64 (by have:=ok.p0p; omega) (by have:=ok.SX; have:=hl.lo.len; omega)
 simp (maxSteps:=1000000) only [ajj,h_,aA,seval]
 intro i2 n1 n2
 refine ⟨l,s,id,rfl,by simp [n1,n2],ok.at_,?_⟩
 have th:=V2 ok.at_
 have hwh:=hl.whole _ th
 have hdt:=hl.dot _ th
 have qc:=Il hl.lo ok
 simp only [nS] at hw
 have ZA:∀x,oK l x s=((fe l s).2.1==x && ((fe l s).1==5 || (fe l s).1==4)):=fun _=>rfl
 generalize ht:fe l s=t at*
 obtain ⟨kk,y,a⟩:=t
 simp only at hwh hdt qc hw ZA
 simp (maxSteps:=1000000) only [iV,n1,n2,h_,aA,seval]
 intro i4 m1 m2 m3 m4 i5 m5 m6 m7 m8 m9 m10
 cases lN:(kk==2) with
 | true=>
  rw [lN,cond_true,aR] at hw
  have e2:kk=2:=by simpa using lN
  obtain ⟨d1,d2,d3,d4⟩:=hwh e2
  have sE:=qc (by omega)
  have hq:IE [.str y,.int .i64 10,.int .i64 64]=some (.tuple [.int .i64 (fG y:Nat),.gX]):=if_pos ⟨d1,d2,d3,d4⟩
  simp (maxSteps:=1000000) only [lN,hq,cK,w1,n1,n2,m1,m2,m3,m4,m5,m6,m7,m8,m9,m10,h_,aA,seval]
  refine .inl ⟨l,di s,id,.mk 20 0 [] (fG y:Nat) [],by simp only [aB,bc],hl.lo,by simp [cK,di,n1,n2,m1,m2,m3,m4,m5,m6,m7,m8,m9,m10],sE,js (fun n cM k iW=>?_) (fun a e k s'=>?_) hw⟩
  ·obtain ⟨nk,nt,ns,nm,nl⟩:=n
   simp (maxSteps:=1000000) only [aB,n1,n2,m1,m2,m3,m4,m5,m6,m7,m8,m9,m10,af,ab,av,h_,aA,seval]
   exact cV (x:=(.mk nk nt ns nm nl,true)) (s':=cM) (by rw [aB]) (by simp [n1,n2,m1,m2,m3,m4,m5,m6,m7,m8,m9,m10]) (k iW)
  ·simp only [aX,ab,av]
   exact aI (s':=s') (by simp [n1,n2,m1,m2,m3,m4,m5,m6,m7,m8,m9,m10]) k
 | false=>
  rw [lN,cond_false] at hw
  cases lO:(kk==3) with
  | true=>
   rw [lO,cond_true,aR] at hw
   have e3:kk=3:=by simpa using lO
   have hd:=hdt e3
   have sE:=qc (by omega)
   have hq:Wh [.str y]=some (.agg [.int .i64 21,.int .i64 2,.str (nO y),.int .i64 (l9 (nO y)),.sl []]):=if_pos hd
   simp (maxSteps:=1000000) only [lN,lO,hq,cK,w1,n1,n2,m1,m2,m3,m4,m5,m6,m7,m8,m9,m10,h_,aA,seval]
   refine .inl ⟨l,di s,id,lv y,by simp only [lv,aB,bc],hl.lo,by simp [cK,di,n1,n2,m1,m2,m3,m4,m5,m6,m7,m8,m9,m10],sE,js (fun n cM k iW=>?_) (fun a e k s'=>?_) hw⟩
   ·obtain ⟨nk,nt,ns,nm,nl⟩:=n
    simp (maxSteps:=1000000) only [aB,n1,n2,m1,m2,m3,m4,m5,m6,m7,m8,m9,m10,af,ab,av,h_,aA,seval]
    exact cV (x:=(.mk nk nt ns nm nl,true)) (s':=cM) (by rw [aB]) (by simp [n1,n2,m1,m2,m3,m4,m5,m6,m7,m8,m9,m10]) (k iW)
   ·simp only [aX,ab,av]
    exact aI (s':=s') (by simp [n1,n2,m1,m2,m3,m4,m5,m6,m7,m8,m9,m10]) k
  | false=>
   rw [lO,cond_false] at hw
   simp (maxSteps:=1000000) only [lN,lO,n1,n2,m1,m2,m3,m4,m5,m6,m7,m8,m9,m10,h_,aA,seval]
   refine ⟨l,s,id,rO,rfl,by simp [n1,n2,m1,m2,m3,m4,m5,m6,m7,m8,m9,m10],ok.at_,?_⟩
   cases yL:oK l rO s with
   | true=>
    rw [yL,cond_true,aR] at hw
    have sE:=yY hl.lo ok yL
    simp (maxSteps:=1000000) only [cK,w1,n1,n2,m1,m2,m3,m4,m5,m6,m7,m8,m9,m10,h_,aA,seval]
    refine .inl ⟨l,di s,id,.mk 22 0 [] 1 [],by simp only [aB,bc],hl.lo,by simp [cK,di,n1,n2,m1,m2,m3,m4,m5,m6,m7,m8,m9,m10],sE,js (fun n cM k iW=>?_) (fun a e k s'=>?_) hw⟩
    ·obtain ⟨nk,nt,ns,nm,nl⟩:=n
     simp (maxSteps:=1000000) only [aB,n1,n2,m1,m2,m3,m4,m5,m6,m7,m8,m9,m10,af,ab,av,h_,aA,seval]
     exact cV (x:=(.mk nk nt ns nm nl,true)) (s':=cM) (by rw [aB]) (by simp [n1,n2,m1,m2,m3,m4,m5,m6,m7,m8,m9,m10]) (k iW)
    ·simp only [aX,ab,av]
     exact aI (s':=s') (by simp [n1,n2,m1,m2,m3,m4,m5,m6,m7,m8,m9,m10]) k
   | false=>
    rw [yL,cond_false] at hw
    simp (maxSteps:=1000000) only [n1,n2,m1,m2,m3,m4,m5,m6,m7,m8,m9,m10,h_,aA,seval]
    refine ⟨l,s,id,mH,rfl,by simp [n1,n2,m1,m2,m3,m4,m5,m6,m7,m8,m9,m10],ok.at_,?_⟩
    cases BP:oK l mH s with
    | true=>
     rw [BP,cond_true,aR] at hw
     have sE:=yY hl.lo ok BP
     simp (maxSteps:=1000000) only [cK,w1,n1,n2,m1,m2,m3,m4,m5,m6,m7,m8,m9,m10,h_,aA,seval]
     refine .inl ⟨l,di s,id,.mk 22 0 [] 0 [],by simp only [aB,bc],hl.lo,by simp [cK,di,n1,n2,m1,m2,m3,m4,m5,m6,m7,m8,m9,m10],sE,js (fun n cM k iW=>?_) (fun a e k s'=>?_) hw⟩
     ·obtain ⟨nk,nt,ns,nm,nl⟩:=n
      simp (maxSteps:=1000000) only [aB,n1,n2,m1,m2,m3,m4,m5,m6,m7,m8,m9,m10,af,ab,av,h_,aA,seval]
      exact cV (x:=(.mk nk nt ns nm nl,true)) (s':=cM) (by rw [aB]) (by simp [n1,n2,m1,m2,m3,m4,m5,m6,m7,m8,m9,m10]) (k iW)
     ·simp only [aX,ab,av]
      exact aI (s':=s') (by simp [n1,n2,m1,m2,m3,m4,m5,m6,m7,m8,m9,m10]) k
    | false=>
     rw [BP,cond_false,cU] at hw
     simp (maxSteps:=1000000) only [n1,n2,m1,m2,m3,m4,m5,m6,m7,m8,m9,m10,af,ab,av,h_,aA,seval]
     exact im (x:=(.mk 0 0 [] 0 [],false)) (s':=s) (by rw [aB,bc]) (by simp [n1,n2,m1,m2,m3,m4,m5,m6,m7,m8,m9,m10]) (hw ok)
def zG (args:List D) (h:aa) (K E:D→aa→Prop):Prop:=∃(l:List Tok) (s:PS) (id:Nat) ,args=[.ptr id 1 0]∧yC l∧cP (nS l) (fun x:Nd×Bool=>.tuple [.agg x.1.enc,.bool x.2]) l s id h K E
theorem GL (args:List D) (h:aa) (K E K' E':D→aa→Prop) (hk:∀d h,K d h→K' d h) (he:∀d h,E d h→E' d h) (c:zG args h K E):zG args h K' E':=by
 obtain ⟨l,s,id,a,b,c⟩:=c
 exact ⟨l,s,id,a,b,fW hk he c⟩
theorem R4 (args:List D) (h:aa) (K E:D→aa→Prop) (c:zG args h K E):aH Tryz.prog 81 args h (cY.to K E):=by
 obtain ⟨l,s,id,rfl,hl,c⟩:=c
 exact kQ (fun ok K0 E0 hw=>Z9 l hl s id  ok K0 E0 hw) c
def x7:bh:=xE.gI 81 zG GL
theorem QX:x7.q=xE.q:=rfl
theorem QU:x7.a=xE.a:=rfl
theorem QV (g:FuncId) (args:List D) (h:aa) (K E:D→aa→Prop):x7.c g args h K E=if g=81 then zG args h K E else xE.c g args h K E:=rfl
theorem XO:x7.ok Tryz.prog:=bh.bQ JO R4
theorem QW:type_of% (And.intro (And.intro @QX (And.intro @QU @QV)) @h_):=(And.intro (And.intro @QX (And.intro @QU @QV)) @h_)
end
end Go.Proofs.YtpklkpkfgmoghaaGreatDoor.Zz
namespace Go.Proofs.YtpklkpkfgmoghaaGreatDoor.Zz
theorem BK:∀(l:List UInt8) (n:Nat),l.foldl (fun n c=>n*10+(c.toNat - 48)) n=n*10 ^ l.length+fG l
 | [],n=>by simp [fG]
 | c::l,n=>by
  have h1:=BK l (n*10+(c.toNat - 48))
  have h2:=BK l (0*10+(c.toNat - 48))
  unfold fG at*
  simp only [List.foldl_cons,List.length_cons]
  rw [h1,h2,Nat.pow_succ]
  simp only [Nat.zero_mul,Nat.zero_add,Nat.add_mul,Nat.mul_assoc,Nat.mul_comm 10,Nat.add_assoc]
theorem Ez (c:UInt8) (l:List UInt8):fG (c::l)=(c.toNat - 48)*10 ^ l.length+fG l:=by
 have:=BK l (0*10+(c.toNat - 48))
 simp only [Nat.zero_mul,Nat.zero_add] at this
 rw [←this]
 simp [fG]
theorem H5:∀(s t:List UInt8),s.length=t.length→s.all fi=true→t.all fi=true→Op.bytesLess s t=true→fG s<fG t
 | [],[],_,_,_,h=>by simp [Op.bytesLess] at h
 | [],_::_,e,_,_,_=>by simp at e
 | _::_,[],e,_,_,_=>by simp at e
 | c::s,d::t,e,hs,ht,h=>by
  simp only [List.length_cons,Nat.add_right_cancel_iff] at e
  simp only [List.all_cons,Bool.and_eq_true] at hs ht
  have vs:=uX s hs.2
  have vt:=uX t ht.2
  have hc:=hs.1
  have hd:=ht.1
  simp only [fi,Bool.and_eq_true,decide_eq_true_eq] at hc hd
  rw [Ez,Ez,e]
  rw [e] at vs
  simp only [Op.bytesLess] at h
  by_cases lM:c<d
  ·have apJ:c.toNat<d.toNat:=lM
   have:=Nat.mul_le_mul_right (10 ^ t.length) (show c.toNat - 48+1≤d.toNat - 48 by omega)
   rw [Nat.add_mul] at this
   omega
  ·by_cases lN:c=d
   ·subst lN
    have hl:Op.bytesLess s t=true:=by simpa using h
    have:=H5 s t e hs.2 ht.2 hl
    omega
   ·simp [lM,lN] at h
theorem TF {s:List UInt8} (ha:s.all fi=true) (h:rP s=true):s.length≤19∧fG s<9223372036854775808:=by
 unfold rP at h
 simp only [Bool.and_eq_true,Bool.not_eq_true',Bool.or_eq_false_iff,decide_eq_false_iff_not,Bool.or_eq_true,decide_eq_true_eq,beq_iff_eq] at h
 obtain ⟨⟨_,h1⟩,h2⟩:=h
 refine ⟨by omega,?_⟩
 have em:fG mxL=9223372036854775807:=by decide+kernel
 rcases h2 with h2 | h2 | h2
 ·have h3:=uX s ha
  have h4:=Nat.pow_le_pow_right (show 0<10 by decide) (show s.length≤18 by omega)
  have h5:(10:Nat) ^ 18=1000000000000000000:=by decide
  omega
 ·by_cases c:s.length=19
  ·have:=H5 s mxL (by rw [c]; rfl) ha (by decide) h2
   omega
  ·have h3:=uX s ha
   have h4:=Nat.pow_le_pow_right (show 0<10 by decide) (show s.length≤18 by omega)
   have h5:(10:Nat) ^ 18=1000000000000000000:=by decide
   omega
 ·rw [h2,em]; decide
theorem VC (c:UInt8):isDigit (c.toNat:Int)=fi c:=by
 simp only [isDigit,fi]
 congr 1<;>· apply decide_eq_decide.2; omega
theorem I9 (l:List UInt8):(l.take (kN isDigit l)).all fi=true:=by
 induction l with
 | nil=>rfl
 | cons c l ih=>
  rw [mE]
  split
  ·rename_i h; rw [VC] at h; simp [h]; simpa using ih
  ·rfl
structure MV (t:Tok):Prop where
 ne:t.1≠0
 whole:t.1=2→t.2.1.all fi=true∧t.2.1≠[]∧t.2.1.length≤4096∧fG t.2.1<9223372036854775808
 dot:t.1=3→∃A B,kx t.2.1 A B
theorem SO {l:List UInt8} {p:Int} (hl:0<l.length) (hd:isDigit ((l.getD 0 0).toNat:Int)=true) (h:(oy l).2.2=true):MV ((oy l).1,(oy l).2.1,p):=by
 have h1:=FP hl hd
 have h2:=nX isDigit l
 have hA:=I9 l
 unfold oy at h ⊢
 generalize hn:kN isDigit l=n at*
 by_cases hc:(decide (n<l.length) && ((l.getD n 0).toNat:Int)==46)=true
 ·rw [if_pos hc] at h ⊢
  have h3:=nX isDigit (l.drop (n+1))
  have hB:=I9 (l.drop (n+1))
  rw [List.length_drop] at h3
  generalize kN isDigit (l.drop (n+1))=m at*
  simp only [Bool.not_eq_true',Bool.or_eq_false_iff,decide_eq_false_iff_not] at h
  simp only [Bool.and_eq_true,decide_eq_true_eq,beq_iff_eq] at hc
  refine ⟨by simp,by simp,fun _=>⟨l.take n,(l.drop (n+1)).take m,?_,hA,hB,?_,?_,?_⟩⟩
  ·have e1:l.getD n 0=46:=by
    have:=hc.2
    have h46:(46:UInt8).toNat=46:=rfl
    exact UInt8.toNat_inj.1 (by omega)
   have e2:=drop_cons hc.1
   rw [e1] at e2
   show l.take (n+1+m)=_
   rw [Nat.add_assoc,List.take_add,e2,Nat.add_comm 1 m,List.take_succ_cons]
   simp
  ·rw [List.length_take]; omega
  ·rw [List.length_take,List.length_drop]; omega
  ·rw [List.length_take,List.length_take,List.length_drop]; omega
 ·rw [if_neg hc] at h ⊢
  have hw:=TF hA h
  refine ⟨by simp,fun _=>⟨hA,?_,by have:=hw.1; simp only; omega,hw.2⟩,by simp⟩
  intro e
  have:=congrArg List.length e
  rw [List.length_take] at this
  simp only [List.length_nil] at this
  omega
theorem SU {l:List UInt8} {p:Int} (hl:0<l.length) (h:(iA l).2.2=true):MV ((iA l).1,(iA l).2.1,p):=by
 unfold iA at h ⊢
 split
 ·rename_i hd
  rw [if_pos hd] at h
  exact SO hl hd h
 ·rename_i hd
  rw [if_neg hd] at h
  split
  ·split
   ·exact ⟨by simp,by simp,by simp⟩
   ·exact ⟨by simp,by simp,by simp⟩
  ·rename_i ht
   rw [if_neg ht] at h
   cases hf:ik l la with
   | none=>rw [hf] at h; cases h
   | some x=>exact ⟨by simp,by simp,by simp⟩
theorem BE:∀(n p:Nat) (l:List UInt8) (out:List Tok),l.length<n→(s5 n p l out).2.2=0→∃(mid:List Tok) (a:Int),(s5 n p l out).1=out++mid++[(0,[],a)]∧mid.length≤l.length∧∀t∈mid,MV t
 | 0,_,_,_,h,_=>by omega
 | n+1,p,l,out,h,e=>by
  unfold s5 at e ⊢
  by_cases c:l=[]
  ·rw [if_pos c] at e ⊢
   exact ⟨[],(p:Int),by simp,by simp,by simp⟩
  ·rw [if_neg c] at e ⊢
   have hl:0<l.length:=List.length_pos_iff.2 c
   by_cases lN:(iA l).2.2=false
   ·rw [if_pos lN] at e; cases e
   ·rw [if_neg lN] at e ⊢
    have ht:(iA l).2.2=true:=by simpa using lN
    have ok:=NZ hl ht
    obtain ⟨mid,a,e1,e2,e3⟩:=BE n _ _ _ (by rw [List.length_drop]; omega) e
    refine ⟨((iA l).1,(iA l).2.1,(p:Int))::mid,a,by rw [e1]; simp,?_,fun t m=>?_⟩
    ·rw [List.length_drop] at e2
     simp only [List.length_cons]
     omega
    ·simp only [List.mem_cons] at m
     rcases m with rfl | m
     ·exact SU hl ht
     ·exact e3 t m
theorem Kk (x:List UInt8) (h:(tokens x).2.2=0):∃(mid:List Tok) (a:Int),(tokens x).1=mid++[(0,[],a)]∧mid.length≤4096∧∀t∈mid,MV t:=by
 unfold tokens at h ⊢
 split at h
 ·cases h
 ·rename_i c
  rw [if_neg c]
  obtain ⟨mid,a,e1,e2,e3⟩:=BE _ _ _ _ (by rw [List.length_drop]; omega) h
  rw [List.length_drop] at e2
  exact ⟨mid,a,by rw [e1]; simp,by omega,e3⟩
theorem Tu (x:List UInt8) (h:(tokens x).2.2=0):yC (tokens x).1∧0<(tokens x).1.length:=by
 obtain ⟨mid,a,e1,e2,e3⟩:=Kk x h
 rw [e1]
 refine ⟨⟨⟨by simp; omega,fun i t hi ht=>?_⟩,fun t m k=>?_,fun t m k=>?_⟩,by simp⟩
 ·rw [List.getElem?_append] at hi
  split at hi
  ·simp; omega
  ·rename_i c
   have:i - mid.length=0:=by
    have:=(List.getElem?_eq_some_iff.1 hi).1
    simp at this; omega
   rw [this] at hi
   cases hi
   exact (ht rfl).elim
 ·simp only [List.mem_append,List.mem_singleton] at m
  rcases m with m | rfl
  ·exact (e3 t m).whole k
  ·simp at k
 ·simp only [List.mem_append,List.mem_singleton] at m
  rcases m with m | rfl
  ·exact (e3 t m).dot k
  ·simp at k
end Go.Proofs.YtpklkpkfgmoghaaGreatDoor.Zz
