/- Contracts: the generator of programs: functions. -/
import Derived.Test.YtpklkpkfgmoghaaGreatDoorZS7
import Derived.Test.YtpklkpkfgmoghaaGreatDoorZS1
set_option linter.unnecessarySimpa false
set_option linter.unusedVariables false
set_option linter.unusedSimpArgs false
set_option maxRecDepth 20000
namespace Go.Proofs.YtpklkpkfgmoghaaGreatDoor.Zz
noncomputable section
def jN (A:aa) (r:Nat) (dC:D) (pl:List Int):Prop:=(dC=.a_∧pl=[])∨(dC=.row r (pl.length+2) 0 pl.length∧∃fz,A.f r=some (.row 1 (pl.length+2) (fl pl) fz))
theorem jN.ok {A:aa} {r:Nat} {dC:D} {pl:List Int} (h:jN A r dC pl):bY dC=true:=by
 rcases h with ⟨rfl,_⟩ | ⟨rfl,_⟩<;>rfl
theorem jN.jV {A:aa} {r:Nat} {dC:D} {pl:List Int} (h:jN A r dC pl):bY (eT dC)=true:=by
 rcases h with ⟨rfl,_⟩ | ⟨rfl,_⟩<;>rfl
theorem jN.plain {A:aa} {r:Nat} {dC:D} {pl:List Int} (h:jN A r dC pl):plain A (eT dC)=.sl (fl pl):=by
 rcases h with ⟨rfl,rfl⟩ | ⟨rfl,fz,h⟩
 ·rfl
 ·simp only [eT,Go.Proofs.YtpklkpkfgmoghaaGreatDoor.Zz.plain,h]
  rw [if_pos ⟨trivial,by rw [fJ]; omega⟩,List.drop_zero,List.take_of_length_le (by rw [fJ]; omega)]
theorem jN.of_eq {A B:aa} {r:Nat} {dC:D} {pl:List Int} (h:jN A r dC pl) (e:B.f r=A.f r):jN B r dC pl:=by
 rcases h with h | ⟨h1,fz,h2⟩
 ·exact .inl h
 ·exact .inr ⟨h1,fz,by rw [e]; exact h2⟩
theorem jN.fA {A:aa} {r:Nat} {dC:D} {pl:List Int} (h:jN A r dC pl):jN (fA A (eT dC)) r dC pl∧∀j,j≠r→(fA A (eT dC)).f j=A.f j:=by
 rcases h with ⟨rfl,rfl⟩ | ⟨rfl,fz,h⟩
 ·exact ⟨.inl ⟨rfl,rfl⟩,fun _ _=>rfl⟩
 ·have e:Go.Proofs.YtpklkpkfgmoghaaGreatDoor.Zz.fA A (eT (.row r (pl.length+2) 0 pl.length))=A.set r (.row 1 (pl.length+2) (fl pl) true):=by simp only [eT,Go.Proofs.YtpklkpkfgmoghaaGreatDoor.Zz.fA,ee,h]
  rw [e]
  exact ⟨.inr ⟨rfl,true,by simp⟩,fun j hj=>by simp [hj]⟩
theorem yv:∀(l:List Fn) (A:aa) (M:List D),eV A ((dF l).flatten++M)=eV A M
 | [],A,M=>rfl
 | f::l,A,M=>yv l A M
theorem FU (A:aa) (l:List Fn):(dF l).map (List.map (plain A))=dF l:=by
 simp [dF,plain]
theorem so {A:aa} {i5 v r n:Nat} {l:List Fn} {x:List UInt8} {t:Int} {pl:List Int} {dC:D} (h5:A.f i5=some (.row 3 v (dF l++[[.str x,.int .i64 t,eT dC]]) false)) (hP:jN A r dC pl) (hn:n=l.length+1):
  pX A (.row i5 v 0 n)=.sl (dF (l++[⟨x,t,pl⟩])):=by
 subst hn
 simp only [pX,h5]
 rw [if_pos ⟨trivial,by simp [fc]⟩,List.map_append,FU,Cj,List.drop_zero,List.take_of_length_le (by simp [fc])]
 show D.sl (dF l++[[.str x,.int .i64 t,plain A (eT dC)]])=_
 rw [hP.plain]
theorem AQ {A:aa} {i5 v r n:Nat} {l:List Fn} {x:List UInt8} {t:Int} {pl:List Int} {dC:D} (h5:A.f i5=some (.row 3 v (dF l++[[.str x,.int .i64 t,eT dC]]) false)) (hP:jN A r dC pl) (n3:r≠i5):
  ∃B,AP A (.row i5 v 0 n)=B∧(∀j,j≠i5→j≠r→B.f j=A.f j)∧jN B r dC pl:=by
 have e2:AP A (.row i5 v 0 n)=(fA A (eT dC)).set i5 (.row 3 v ((dF l++[[.str x,.int .i64 t,eT dC]]).map (List.map (plain A))) true):=by
  simp only [AP,h5]
  rw [List.flatten_append,yv]
  rfl
 have hz:=hP.fA
 refine ⟨_,e2,fun j b c=>?_,hz.1.of_eq ?_⟩
 ·simp [b,hz.2 j c]
 ·simp [n3]
theorem jN.UG {A:aa} {r:Nat} {dC:D} {pl:List Int} (h:jN A r dC pl) {i1 i2 i3 i4 i5:Nat} (r1:r≠i1) (r2:r≠i2) (r3:r≠i3) (r4:r≠i4) (k:A.f i5=none):∃q,jN A q dC pl∧q≠i1∧q≠i2∧q≠i3∧q≠i4∧q≠i5:=by
 rcases h with ⟨h1,h2⟩ | ⟨h1,fz,h2⟩
 ·exact ⟨i1+i2+i3+i4+i5+1,.inl ⟨h1,h2⟩,by omega,by omega,by omega,by omega,by omega⟩
 ·exact ⟨r,.inr ⟨h1,fz,h2⟩,r1,r2,r3,r4,fun e=>by rw [e,k] at h2; cases h2⟩
theorem pJ {l:List Fn}:∀y∈dF l,y.length=3∧y.all bY=true:=by
 intro y hy
 simp only [dF,List.mem_map] at hy
 obtain ⟨s,_,rfl⟩:=hy
 exact ⟨rfl,rfl⟩
theorem qb.W_ {s:Nm} {r:Nat} (h:qb s r) {F:Fn} (h1:fm F.name) (h2:2≤F.name.length) (h3:F.params.length≤2) (h4:s.funcs.length<1000):qb { s with funcs:=s.funcs++[F] } r:=by
 refine ⟨⟨h.ok.var,fun g hg=>?_⟩,by simp; omega,h.l0,h.l1,h.l2,h.fr⟩
 rcases List.mem_append.1 hg with hg | hg
 ·exact h.ok.fn g hg
 ·rw [List.mem_singleton.1 hg]; exact ⟨h1,h2,h3⟩
theorem uO (x:List UInt8) (ps:List (List UInt8×Int)) (t:Int) (l:List GS) (e:GE):cu 10 [.func x ps t (l++[.ret e])]=[102,117,110,99,32]++(x++([40]++(gG ps []++([41,32]++(gk t++([32,123,10]++(GS.cT 10 l []++([114,101,116,117,114,110,32]++(e.tx []++[59,10,125,10]))))))))):=by
 rw [cu,cu,GD.tx,dk,eg,vZ]
 have:GS.cT 10 [.ret e] []=[114,101,116,117,114,110,32]++(e.tx []++[59,10]):=by rw [GS.cT,GS.tx,GS.cT,cv e]; simp [lf]
 rw [this]
 simp [rI]
theorem Dv (x:List UInt8) (t:Int):gG [(x,t)] []=x++(32::gk t):=by rw [gG,fV]; simp
theorem zf {l:List (List UInt8×Int)} (h:l≠[]) (x:List UInt8) (t:Int):gG (l++[(x,t)]) []=gG l []++([44,32]++(x++(32::gk t))):=by
 have ht:∀l:List (List UInt8×Int),fV (l++[(x,t)]) []=fV l []++([44,32]++(x++(32::gk t))):=by
  intro l
  induction l with
  | nil=>simp [fV]
  | cons p l ih=>rw [List.cons_append,fV,fV,ih]; simp
 cases l with
 | nil=>exact absurd rfl h
 | cons p l=>rw [List.cons_append,gG,gG,ht]; simp
theorem RP {l:List (List UInt8×Int)} (h:l≠[]):(gG l []==[])=false:=by
 cases l with
 | nil=>exact absurd rfl h
 | cons p l=>rw [gG]; simp
theorem H_ {H:aa} {i1 i2:Nat} {X Y:cI} (h1:H.f i1=some Y) (h2:H.f i2=some X):((aa.emp.set i2 X).set i1 Y).sub H:=fun j x hj=>by
 simp only [aa.dD,aa.M5] at hj
 split at hj
 ·rename_i e; cases hj; rw [e]; exact h1
 ·split at hj
  ·rename_i e; cases hj; rw [e]; exact h2
  ·cases hj
set_option maxHeartbeats 2000000 in
theorem K3 (L:List Int) (i1 i2:Nat) (n1:¬i2=i1) (cV:¬i1=i2) (DY:Nm) (nz:qb DY 16) (Xf:DY.funcs.length≤10) (a0:Nat) (out:List UInt8) (ho:out.length≤100000) (E:Fr→D→aa→Prop) (σ:Fr) (BJ:σ.env 3=.ptr i1 1 0) (Wu:σ.env 4=.ptr i2 1 0) (QQ:σ.env 5=.str out) (sd:σ.defs=[]) (R:dn→aa→Prop)
  (k:∀f,f=gy L ((bU L 3 a0).1.toNat+1) DY (bU L 3 a0).2→R (.ret (.str (out++cu 10 f.1++cu 10 (iq L ((bU L 3 f.2.2).1.toNat+1) f.2.1 (bU L 3 f.2.2).2).1))) .emp):
  vc (QR 3) Wl (todo (QR 3) (sw [.tmp 2] R) E []) E σ ((aa.emp.set i2 (ep DY)).set i1 (mR L a0)):=by
 have Tn:=bW L (n:=3) (by decide) a0
 simp (maxSteps:=1000000) only [Wl,BJ,Wu,QQ,sd,bS,az,aB,seval]
 refine ⟨i1,L,a0,3,rfl,by simp,by decide,by decide,?_⟩
 generalize bU L 3 a0=nb at Tn k ⊢
 obtain ⟨n0,b0⟩:=nb
 simp only at Tn k ⊢
 have w0:IntKind.i64.wrap (n0+1)=((n0.toNat+1:Nat):Int):=by rw [wrap_i64 (by omega) (by omega)]; omega
 have hn:n0.toNat+1≤3:=by omega
 generalize n0.toNat+1=n at hn w0 k
 simp (maxSteps:=1000000) only [n1,cV,w0,BJ,Wu,QQ,sd,bS,az,aB,seval]
 refine cS (X:=Nat×Nm×Nat×List GD) (fun z=>[(3,.ptr i1 1 0),(4,.ptr i2 1 0),(5,.str (out++cu 10 z.2.2.2)),(9,.int .i64 (z.1:Int))]) (fun z=>(aa.emp.set i2 (ep z.2.1)).set i1 (mR L z.2.2.1)) (fun z=>z.1)
  (fun z=>z.1≤3∧qb z.2.1 16∧z.2.1.funcs.length+z.1≤20∧(cu 10 z.2.2.2).length+100000*z.1≤300000∧gy L n DY b0=(z.2.2.2++(gy L z.1 z.2.1 z.2.2.1).1,(gy L z.1 z.2.1 z.2.2.1).2.1,(gy L z.1 z.2.1 z.2.2.1).2.2)) (n,DY,b0,[])
  ⟨by omega,nz,by simp only; omega,by rw [cu]; simp; omega,rfl⟩ (by simp only [cu,List.append_nil,BJ,Wu,QQ,sd,aB,seval]) (aa.aS _) ?_
 rintro ⟨i,s,c,done⟩ Q ⟨j0,j1,jf,j2,j3⟩ hQ
 simp only at j0 j1 jf j2 j3 hQ ⊢
 cases i with
 | succ i=>
  have g:(((i+1:Nat):Int)>0)=True:=eq_true (by omega)
  have xv:sq [.int .i64 ((i+1:Nat):Int)]=some (.str (bK (i+1))):=if_pos ⟨by omega,by omega⟩
  have hl:(bK (i+1)).length=1:=oy (by omega)
  have nm:=(Gg (i:=i+1) (by omega)).2.1
  generalize hI:((i+1:Nat):Int)=I at*
  have wi:IntKind.i64.wrap (I - 1)=(i:Int):=by rw [←hI,wrap_i64 (by omega) (by omega)]; omega
  rw [gy] at j3
  simp (maxSteps:=1000000) only [n1,cV,g,xv,ep,bS,az,aB,seval]
  repeat refine And.intro (by first | omega | (simp only [List.length_append,List.length_cons,List.length_nil]; omega)) ?_
  have hrt:=bW L (n:=3) (by decide) c
  refine ⟨i1,L,c,3,rfl,by simp,by decide,by decide,?_⟩
  generalize bU L 3 c=tq at hrt j3 ⊢
  obtain ⟨t,ta⟩:=tq
  simp only at hrt j3 ⊢
  simp (maxSteps:=1000000) only [n1,cV,bS,az,aB,seval]
  intro i3 m1 lN m2 nE
  simp (maxSteps:=1000000) only [n1,cV,m1,lN,m2,nE,bS,az,aB,seval]
  intro i4 o3 pW o1 pV o2 qa
  have Nz:=bW L (n:=3) (by decide) ta
  refine ⟨i1,L,ta,3,rfl,by simp [lN,pV],by decide,by decide,?_⟩
  generalize bU L 3 ta=tq at Nz j3 ⊢
  obtain ⟨u0,ua⟩:=tq
  simp only at Nz j3 ⊢
  obtain ⟨u,rfl⟩:∃u:Nat,u0=(u:Int):=⟨u0.toNat,by omega⟩
  rw [Int.toNat_natCast] at j3
  simp (maxSteps:=1000000) only [n1,cV,m1,lN,m2,nE,o1,pV,o2,qa,o3,pW,bS,az,aB,seval]
  have Xl:=fun (o:Nm) (h:qb o 12)=>h.l0
  refine cS (X:=Nat×Nm×Nat×List (List UInt8×Int)×Nat×D×aa) (fun z=>[(3,.ptr i1 1 0),(4,.ptr i2 1 0),(5,.str (out++cu 10 done)),(9,.int .i64 I),(10,.ptr i3 1 0),(11,.ptr i4 1 0),(12,.str (gG z.2.2.2.1 [])),(13,.int .i64 (z.1:Int))]) (fun z=>z.2.2.2.2.2.2) (fun z=>z.1)
   (fun z=>z.1+z.2.2.2.1.length≤2∧qb z.2.1 (13+z.1)∧z.2.1.funcs=s.funcs∧(gG z.2.2.2.1 []).length≤40*z.2.2.2.1.length∧ke L u s ua=(z.2.2.2.1++(ke L z.1 z.2.1 z.2.2.1).1,(ke L z.1 z.2.1 z.2.2.1).2.1,(ke L z.1 z.2.1 z.2.2.1).2.2)∧
    z.2.2.2.2.2.2.f i1=some (mR L z.2.2.1)∧z.2.2.2.2.2.2.f i2=some (ep s)∧z.2.2.2.2.2.2.f i3=some (.cells [.str ([102]++bK (i+1)),.int .i64 t,z.2.2.2.2.2.1])∧z.2.2.2.2.2.2.f i4=some (ep z.2.1)∧
    z.2.2.2.2.1≠i1∧z.2.2.2.2.1≠i2∧z.2.2.2.2.1≠i3∧z.2.2.2.2.1≠i4∧z.2.2.2.2.2.1=kC z.2.2.2.2.1 z.2.2.2.1.length∧(z.2.2.2.1≠[]→z.2.2.2.2.2.2.f z.2.2.2.2.1=some (.row 1 (z.2.2.2.1.length+2) (fl (z.2.2.2.1.map fun p=>p.2 - 1)) false)))
   (u,s,ua,[],i1+i2+i3+i4+1,.a_,_) ⟨by simp only [List.length_nil]; omega,j1.le (by omega),rfl,by simp [gG],rfl,?_,?_,?_,?_,(show i1+i2+i3+i4+1≠i1 by omega),(show i1+i2+i3+i4+1≠i2 by omega),(show i1+i2+i3+i4+1≠i3 by omega),(show i1+i2+i3+i4+1≠i4 by omega),rfl,fun h=>absurd rfl h⟩ ?_ (aa.aS _) ?_
  ·simp [n1,cV,m1,lN,m2,nE,o1,pV,o2,qa,o3,pW]
  ·simp [n1,cV,m1,lN,m2,nE,o1,pV,o2,qa,o3,pW,ep]
  ·simp [n1,cV,m1,lN,m2,nE,o1,pV,o2,qa,o3,pW]
  ·simp [n1,cV,m1,lN,m2,nE,o1,pV,o2,qa,o3,pW,ep]
  ·simp only [gG,aB,seval]
  rintro ⟨v,o,b,ps,r,dC,A⟩ Q2 ⟨x0,x1,xf,x2,x3,h1,h2,h3,h4,r1,r2,r3,r4,xd,hr⟩ hQ2
  simp only at x0 x1 xf x2 x3 h1 h2 h3 h4 r1 r2 r3 r4 xd hr hQ2 ⊢
  cases v with
  | succ v=>
   have gv:(((v+1:Nat):Int)>0)=True:=eq_true (by omega)
   have qv:sq [.int .i64 ((v+1:Nat):Int)]=some (.str (bK (v+1))):=if_pos ⟨by omega,by omega⟩
   have hlv:(bK (v+1)).length=1:=oy (by omega)
   have nv:=(Gg (i:=v+1) (by omega)).2.2.1
   generalize hV:((v+1:Nat):Int)=V at*
   have wv:IntKind.i64.wrap (V - 1)=(v:Int):=by rw [←hV,wrap_i64 (by omega) (by omega)]; omega
   rw [ke] at x3
   simp (maxSteps:=1000000) only [n1,cV,m1,lN,m2,nE,o1,pV,o2,qa,o3,pW,h1,h2,h3,h4,gv,qv,bS,az,aB,seval]
   have hrb:=bW L (n:=3) (by decide) b
   refine ⟨i1,L,b,3,rfl,h1,by decide,by decide,?_⟩
   generalize bU L 3 b=tq at hrb x3 ⊢
   obtain ⟨w,wa⟩:=tq
   simp only at hrb x3 ⊢
   have qw:Gr [.int .i64 w]=some (.str (gk (w+1))):=if_pos ⟨by omega,by omega⟩
   have hty:=BG (w+1)
   have l0:=x1.l0
   have l1:=x1.l1
   have l2:=x1.l2
   have hw:=uK (s:=o) (x:=112::bK (v+1)) (t:=w) ⟨by omega,by omega,by omega⟩
   simp only [NV] at hw
   by_cases vJ:ps=[]
   ·have iw:(gG ps []==[])=true:=by rw [vJ]; rfl
    simp (maxSteps:=1000000) only [n1,cV,m1,lN,m2,nE,o1,pV,o2,qa,o3,pW,h1,h2,h3,h4,qv,qw,iw,bS,az,aB,seval]
    repeat refine And.intro (by first | omega | (simp only [List.length_append,List.length_cons,List.length_nil]; omega)) ?_
    have FZ:(fl (ps.map fun p=>p.2 - 1)).length=ps.length:=by rw [fJ,List.length_map]
    rw [xd,←FZ]
    refine G8 (sz:=1) (b:=8) (y:=[.int .i64 w]) (xs:=fl (ps.map fun p=>p.2 - 1)) (fun hz=>?_) ⟨rfl,rfl⟩ (by decide) (by rw [FZ]; omega) fun r' y1 y2=>?_
    ·have hz':ps≠[]:=fun e=>hz (by rw [e]; rfl)
     rw [FZ]
     simp only [aa.dD,r1,if_false]
     exact hr hz'
    have rr:r'≠i1∧r'≠i2∧r'≠i3∧r'≠i4:=by
     by_cases hz:fl (ps.map fun p=>p.2 - 1)=[]
     ·have f0:=y1 hz
      refine ⟨fun e=>?_,fun e=>?_,fun e=>?_,fun e=>?_⟩<;>(subst e; simp [n1,cV,m1,lN,m2,nE,o1,pV,o2,qa,o3,pW,h1,h2,h3,h4] at f0)
     ·rw [y2 hz]; exact ⟨r1,r2,r3,r4⟩
    obtain ⟨u1,u2,u3,u4⟩:=rr
    have cc:cellsD (kC r' ((fl (ps.map fun p=>p.2 - 1)).length+1))=[kC r' ((fl (ps.map fun p=>p.2 - 1)).length+1)]:=by rw [cp (by omega)]; rfl
    have UU:bY (kC r' ((fl (ps.map fun p=>p.2 - 1)).length+1))=true:=by rw [cp (by omega)]; rfl
    have L6:¬i1=r':=fun e=>u1 e.symm
    have L7:¬i2=r':=fun e=>u2 e.symm
    have L8:¬i3=r':=fun e=>u3 e.symm
    have L9:¬i4=r':=fun e=>u4 e.symm
    simp (maxSteps:=1000000) only [n1,cV,m1,lN,m2,nE,o1,pV,o2,qa,o3,pW,h1,h2,h3,h4,u1,u2,u3,u4,L6,L7,L8,L9,ep,hw,wv,UU,cc,bS,az,aB,seval]
    refine hQ2 (v,o.with ([112]++bK (v+1)) w,wa,ps++[([112]++bK (v+1),w+1)],r',kC r' ((fl (ps.map fun p=>p.2 - 1)).length+1),_) _ _ ⟨by simp only [List.length_append,List.length_cons,List.length_nil]; omega,(x1.le (show 13+v+1≤13+(v+1) by omega)).w nv.1 nv.2 w,?_,?_,by rw [x3]; simp,?_,?_,?_,?_,u1,u2,u3,u4,?_,fun _=>?_⟩ ?_ (aa.aS _) (by simp only; omega)
    ·show (o.with ([112]++bK (v+1)) w).funcs=s.funcs
     rw [←xf]
     unfold Nm.with
     split<;>(try rfl)
     split<;>rfl
    ·rw [vJ,List.nil_append,Dv]
     simp only [List.length_append,List.length_cons,List.length_nil]
     omega
    ·simp [n1,cV,m1,lN,m2,nE,o1,pV,o2,qa,o3,pW,u1,u2,u3,u4,L6,L7,L8,L9]
    ·simp [n1,cV,m1,lN,m2,nE,o1,pV,o2,qa,o3,pW,u1,u2,u3,u4,L6,L7,L8,L9,h2,ep]
    ·simp [n1,cV,m1,lN,m2,nE,o1,pV,o2,qa,o3,pW,u1,u2,u3,u4,L6,L7,L8,L9]
    ·simp [n1,cV,m1,lN,m2,nE,o1,pV,o2,qa,o3,pW,u1,u2,u3,u4,L6,L7,L8,L9,ep]
    ·simp only [List.length_append,List.length_cons,List.length_nil,FZ]
    ·simp only [List.length_append,List.length_cons,List.length_nil,FZ,List.map_append,List.map_cons,List.map_nil,←Ck]
     simp [n1,cV,m1,lN,m2,nE,o1,pV,o2,qa,o3,pW,u1,u2,u3,u4,L6,L7,L8,L9]
    ·simp only [aB,seval]
     rw [vJ,List.nil_append,Dv]
     simp [gG]
   ·have iw:=RP vJ
    simp (maxSteps:=1000000) only [n1,cV,m1,lN,m2,nE,o1,pV,o2,qa,o3,pW,h1,h2,h3,h4,qv,qw,iw,bS,az,aB,seval]
    repeat refine And.intro (by first | omega | (simp only [List.length_append,List.length_cons,List.length_nil]; omega)) ?_
    have FZ:(fl (ps.map fun p=>p.2 - 1)).length=ps.length:=by rw [fJ,List.length_map]
    rw [xd,←FZ]
    refine G8 (sz:=1) (b:=8) (y:=[.int .i64 w]) (xs:=fl (ps.map fun p=>p.2 - 1)) (fun hz=>?_) ⟨rfl,rfl⟩ (by decide) (by rw [FZ]; omega) fun r' y1 y2=>?_
    ·have hz':ps≠[]:=fun e=>hz (by rw [e]; rfl)
     rw [FZ]
     simp only [aa.dD,r1,if_false]
     exact hr hz'
    have rr:r'≠i1∧r'≠i2∧r'≠i3∧r'≠i4:=by
     by_cases hz:fl (ps.map fun p=>p.2 - 1)=[]
     ·have f0:=y1 hz
      refine ⟨fun e=>?_,fun e=>?_,fun e=>?_,fun e=>?_⟩<;>(subst e; simp [n1,cV,m1,lN,m2,nE,o1,pV,o2,qa,o3,pW,h1,h2,h3,h4] at f0)
     ·rw [y2 hz]; exact ⟨r1,r2,r3,r4⟩
    obtain ⟨u1,u2,u3,u4⟩:=rr
    have cc:cellsD (kC r' ((fl (ps.map fun p=>p.2 - 1)).length+1))=[kC r' ((fl (ps.map fun p=>p.2 - 1)).length+1)]:=by rw [cp (by omega)]; rfl
    have UU:bY (kC r' ((fl (ps.map fun p=>p.2 - 1)).length+1))=true:=by rw [cp (by omega)]; rfl
    have L6:¬i1=r':=fun e=>u1 e.symm
    have L7:¬i2=r':=fun e=>u2 e.symm
    have L8:¬i3=r':=fun e=>u3 e.symm
    have L9:¬i4=r':=fun e=>u4 e.symm
    simp (maxSteps:=1000000) only [n1,cV,m1,lN,m2,nE,o1,pV,o2,qa,o3,pW,h1,h2,h3,h4,u1,u2,u3,u4,L6,L7,L8,L9,ep,hw,wv,UU,cc,bS,az,aB,seval]
    refine hQ2 (v,o.with ([112]++bK (v+1)) w,wa,ps++[([112]++bK (v+1),w+1)],r',kC r' ((fl (ps.map fun p=>p.2 - 1)).length+1),_) _ _ ⟨by simp only [List.length_append,List.length_cons,List.length_nil]; omega,(x1.le (show 13+v+1≤13+(v+1) by omega)).w nv.1 nv.2 w,?_,?_,by rw [x3]; simp,?_,?_,?_,?_,u1,u2,u3,u4,?_,fun _=>?_⟩ ?_ (aa.aS _) (by simp only; omega)
    ·show (o.with ([112]++bK (v+1)) w).funcs=s.funcs
     rw [←xf]
     unfold Nm.with
     split<;>(try rfl)
     split<;>rfl
    ·rw [zf vJ]
     simp only [List.length_append,List.length_cons,List.length_nil]
     omega
    ·simp [n1,cV,m1,lN,m2,nE,o1,pV,o2,qa,o3,pW,u1,u2,u3,u4,L6,L7,L8,L9]
    ·simp [n1,cV,m1,lN,m2,nE,o1,pV,o2,qa,o3,pW,u1,u2,u3,u4,L6,L7,L8,L9,h2,ep]
    ·simp [n1,cV,m1,lN,m2,nE,o1,pV,o2,qa,o3,pW,u1,u2,u3,u4,L6,L7,L8,L9]
    ·simp [n1,cV,m1,lN,m2,nE,o1,pV,o2,qa,o3,pW,u1,u2,u3,u4,L6,L7,L8,L9,ep]
    ·simp only [List.length_append,List.length_cons,List.length_nil,FZ]
    ·simp only [List.length_append,List.length_cons,List.length_nil,FZ,List.map_append,List.map_cons,List.map_nil,←Ck]
     simp [n1,cV,m1,lN,m2,nE,o1,pV,o2,qa,o3,pW,u1,u2,u3,u4,L6,L7,L8,L9]
    ·simp only [aB,seval]
     rw [zf vJ]
     simp
  | zero=>
   rw [ke,List.append_nil] at x3
   rw [x3] at j3
   simp only at j3 x0 x1
   have hP:jN A r dC (ps.map fun p=>p.2 - 1):=by
    by_cases vJ:ps=[]
    ·subst vJ
     exact .inl ⟨xd,rfl⟩
    ·refine .inr ⟨by rw [xd,cp (fun e=>vJ (List.length_eq_zero_iff.1 e)),List.length_map],false,?_⟩
     rw [List.length_map]
     exact hr vJ
   have F0:(ps.map fun p=>p.2 - 1).length≤2:=by rw [List.length_map]; omega
   have hxl:(gG ps []).length≤80:=by omega
   generalize QL:(ps.map fun p=>p.2 - 1)=pl at hP F0 j3
   have UU:=hP.ok
   have UW:=hP.jV
   have r1':¬i1=r:=fun e=>r1 e.symm
   have r2':¬i2=r:=fun e=>r2 e.symm
   have r3':¬i3=r:=fun e=>r3 e.symm
   have r4':¬i4=r:=fun e=>r4 e.symm
   clear hr xd x2 x3 hQ2
   simp (maxSteps:=1000000) only [n1,cV,m1,lN,m2,nE,o1,pV,o2,qa,o3,pW,h1,h2,h3,h4,bS,az,aB,seval]
   refine ⟨i1,L,b,5,rfl,h1,by decide,by decide,?_⟩
   generalize bU L 5 b=tq at j3 ⊢
   obtain ⟨w,wa⟩:=tq
   simp only at j3 ⊢
   have Yk:(dF o.funcs).length≤20:=by rw [fc,xf]; omega
   have nF:qb { o with funcs:=o.funcs++[⟨[102]++bK (i+1),t,pl⟩] } 13:=x1.W_ nm.1 nm.2 F0 (by rw [fc] at Yk; omega)
   have qt:Gr [.int .i64 t]=some (.str (gk (t+1))):=if_pos ⟨by omega,by omega⟩
   have hty:=BG (t+1)
   by_cases hw4:w=4
   rotate_left
   ·rw [if_neg hw4] at j3
    have bw:(w==4)=false:=by simpa using hw4
    simp (maxSteps:=1000000) only [n1,cV,m1,lN,m2,nE,o1,pV,o2,qa,o3,pW,h1,h2,h3,h4,bw,qt,ep,bS,az,aB,seval]
    repeat refine And.intro (by first | omega | (simp only [List.length_append,List.length_cons,List.length_nil]; omega)) ?_
    obtain ⟨oo,La⟩:∃oo,oo=o:=⟨_,rfl⟩
    rw [←La] at j3
    have hz:qb oo 13:=by rw [La]; exact x1
    obtain ⟨q,hq⟩:∃q,q=r:=⟨_,rfl⟩
    rw [←hq] at hP r1 r2 r3 r4
    generalize hM:A.set i1 (mR L wa)=M
    have p_:M.f i1=some (mR L wa):=by rw [←hM]; simp
    have Mq:M.f i2=some (ep s):=by rw [←hM]; simp [n1,h2]
    have UL:M.f i3=some (.cells [.str (102::bK (i+1)),.int .i64 t,dC]):=by rw [←hM]; simp [m1,h3]
    have xB:M.f i4=some (ep oo):=by rw [←hM,La]; simp [o1,h4]
    have FF:jN M q dC pl:=hP.of_eq (by rw [←hM]; simp [r1])
    have xv:=r1
    have HY:=r2
    have TF:=r3
    have VX:=r4
    refine ⟨i1,L,wa,oo,2,false,by rw [La]; rfl,by decide,by decide,p_,hz.le (by decide),?_⟩
    clear La
    have hb:(GS.cT 10 (du L false 2 oo wa).1 []).length≤38829:=gS 2 (by decide) oo wa hz.ok (by have:=hz.fr; omega)
    generalize du L false 2 oo wa=X at hb j3 ⊢
    obtain ⟨bl,cb⟩:=X
    simp only at hb j3 ⊢
    simp (maxSteps:=1000000) only [n1,cV,m1,lN,m2,nE,o1,pV,o2,qa,o3,pW,p_,Mq,UL,xB,bS,az,aB,seval]
    repeat refine And.intro (by first | omega | (simp only [List.length_append,List.length_cons,List.length_nil]; omega)) ?_
    refine ⟨i1,L,cb,i4,oo,_,_,_,_,t,3,rfl,by omega,by omega,by simp,Bf (by simp [o1,xB]),hz.sm,?_⟩
    have he:((bP L oo 3 t cb).1.tx []).length≤292:=eG (L:=L) hz.ok 3 t cb
    generalize bP L oo 3 t cb=X at he j3 ⊢
    obtain ⟨e,ce⟩:=X
    simp only at he j3 ⊢
    simp (maxSteps:=1000000) only [n1,cV,m1,lN,m2,nE,o1,pV,o2,qa,o3,pW,p_,Mq,UL,xB,UU,UW,ep,bS,az,aB,seval]
    repeat refine And.intro (by first | omega | (simp only [List.length_append,List.length_cons,List.length_nil]; omega)) ?_
    intro i5 p1g Dr k5
    have Tz:¬i2=i5:=fun e=>by rw [←e,Mq] at k5; cases k5
    have VV:¬i3=i5:=fun e=>by rw [←e,UL] at k5; cases k5
    have p4g:¬i4=i5:=fun e=>by rw [←e,xB] at k5; cases k5
    obtain ⟨q,hq,xv,HY,TF,VX,Gs⟩:=FF.UG xv HY TF VX k5
    have g5:((M.set i1 (mR L ce)).set i5 (.row 3 (2+(dF s.funcs).length+1) (dF s.funcs++[[.str (102::bK (i+1)),.int .i64 t,eT dC]]) false)).f i5=some (.row 3 (2+(dF s.funcs).length+1) (dF s.funcs++[[.str (102::bK (i+1)),.int .i64 t,eT dC]]) false):=by simp
    have Tl:jN ((M.set i1 (mR L ce)).set i5 (.row 3 (2+(dF s.funcs).length+1) (dF s.funcs++[[.str (102::bK (i+1)),.int .i64 t,eT dC]]) false)) q dC pl:=hq.of_eq (by simp [xv,Gs])
    have e1:=so (n:=(dF s.funcs).length+1) g5 Tl (by rw [fc])
    obtain ⟨B,e2,hB,hPB⟩:=AQ (n:=(dF s.funcs).length+1) g5 Tl Gs
    have b1:B.f i1=some (mR L ce):=by rw [hB i1 Dr xv.symm]; simp [Dr]
    have b2:B.f i2=some (ep s):=by rw [hB i2 Tz HY.symm]; simp [n1,Tz,Mq]
    have hsl:(dF s.funcs).length≤20:=by rw [fc]; omega
    simp (maxSteps:=1000000) only [VV,e1,e2,b2,ep,wi,bS,az,aB,seval]
    refine ⟨pJ,by omega,by omega,?_⟩
    refine hQ (i,{ s with funcs:=s.funcs++[⟨102::bK (i+1),t,pl⟩] },ce,done++[.func ([102]++bK (i+1)) ps (t+1) (bl++[.ret e])]) _ _ ⟨by omega,j1.W_ nm.1 nm.2 F0 (by omega),by simp only [List.length_append,List.length_cons,List.length_nil]; omega,?_,by rw [j3]; simp⟩ ?_ ?_ (by simp only; omega)
    ·rw [fh,uO]
     simp only [List.length_append,List.length_cons,List.length_nil]
     omega
    ·simp only [aB,seval]
     rw [fh,uO]
     simp
    ·exact H_ (by simp [cV,b1]) (by simp [ep])
   ·rw [if_pos hw4] at j3
    subst hw4
    simp (maxSteps:=1000000) only [n1,cV,m1,lN,m2,nE,o1,pV,o2,qa,o3,pW,h1,h2,h3,h4,UU,UW,ep,bS,az,aB,seval]
    intro i5 p1g Dr k5
    have Tz:¬i2=i5:=fun e=>by rw [←e,h2] at k5; cases k5
    have VV:¬i3=i5:=fun e=>by rw [←e,h3] at k5; cases k5
    have p4g:¬i4=i5:=fun e=>by rw [←e,h4] at k5; cases k5
    obtain ⟨q,hq,xv,HY,TF,VX,Gs⟩:=hP.UG r1 r2 r3 r4 k5
    have g5:((A.set i1 (mR L wa)).set i5 (.row 3 (2+(dF o.funcs).length+1) (dF o.funcs++[[.str (102::bK (i+1)),.int .i64 t,eT dC]]) false)).f i5=some (.row 3 (2+(dF o.funcs).length+1) (dF o.funcs++[[.str (102::bK (i+1)),.int .i64 t,eT dC]]) false):=by simp
    have Tl:jN ((A.set i1 (mR L wa)).set i5 (.row 3 (2+(dF o.funcs).length+1) (dF o.funcs++[[.str (102::bK (i+1)),.int .i64 t,eT dC]]) false)) q dC pl:=hq.of_eq (by simp [xv,Gs])
    have e1:=so (n:=(dF o.funcs).length+1) g5 Tl (by rw [fc])
    obtain ⟨B,e2,hB,hPB⟩:=AQ (n:=(dF o.funcs).length+1) g5 Tl Gs
    have b1:B.f i1=some (mR L wa):=by rw [hB i1 Dr xv.symm]; simp [Dr]
    have b2:B.f i2=some (ep s):=by rw [hB i2 Tz HY.symm]; simp [n1,Tz,h2]
    have b3:B.f i3=some (.cells [.str ([102]++bK (i+1)),.int .i64 t,dC]):=by rw [hB i3 VV TF.symm]; simp [m1,VV,h3]
    have b4:B.f i4=some (ep o):=by rw [hB i4 p4g VX.symm]; simp [o1,p4g,h4]
    simp (maxSteps:=1000000) only [VV,e1,e2,b3,b4,ep,o3,pW,qt,bS,az,aB,seval]
    refine ⟨pJ,by omega,by omega,?_⟩
    repeat refine And.intro (by first | omega | (simp only [List.length_append,List.length_cons,List.length_nil]; omega)) ?_
    obtain ⟨oo,La⟩:∃oo,oo=({ o with funcs:=o.funcs++[⟨[102]++bK (i+1),t,pl⟩] }:Nm):=⟨_,rfl⟩
    rw [←La] at j3
    have hz:qb oo 13:=by rw [La]; exact nF
    generalize hM:B.set i4 _=M
    have p_:M.f i1=some (mR L wa):=by rw [←hM]; simp [pV,b1]
    have Mq:M.f i2=some (ep s):=by rw [←hM]; simp [qa,b2]
    have UL:M.f i3=some (.cells [.str (102::bK (i+1)),.int .i64 t,dC]):=by rw [←hM]; simp [pW,b3]
    have xB:M.f i4=some (ep oo):=by rw [←hM,La]; simp [ep]
    have FF:jN M q dC pl:=hPB.of_eq (by rw [←hM]; simp [VX])
    refine ⟨i1,L,wa,oo,2,false,by rw [La]; rfl,by decide,by decide,p_,hz.le (by decide),?_⟩
    clear La
    have hb:(GS.cT 10 (du L false 2 oo wa).1 []).length≤38829:=gS 2 (by decide) oo wa hz.ok (by have:=hz.fr; omega)
    generalize du L false 2 oo wa=X at hb j3 ⊢
    obtain ⟨bl,cb⟩:=X
    simp only at hb j3 ⊢
    simp (maxSteps:=1000000) only [n1,cV,m1,lN,m2,nE,o1,pV,o2,qa,o3,pW,p_,Mq,UL,xB,bS,az,aB,seval]
    repeat refine And.intro (by first | omega | (simp only [List.length_append,List.length_cons,List.length_nil]; omega)) ?_
    refine ⟨i1,L,cb,i4,oo,_,_,_,_,t,3,rfl,by omega,by omega,by simp,Bf (by simp [o1,xB]),hz.sm,?_⟩
    have he:((bP L oo 3 t cb).1.tx []).length≤292:=eG (L:=L) hz.ok 3 t cb
    generalize bP L oo 3 t cb=X at he j3 ⊢
    obtain ⟨e,ce⟩:=X
    simp only at he j3 ⊢
    simp (maxSteps:=1000000) only [n1,cV,m1,lN,m2,nE,o1,pV,o2,qa,o3,pW,p_,Mq,UL,xB,UU,UW,ep,bS,az,aB,seval]
    repeat refine And.intro (by first | omega | (simp only [List.length_append,List.length_cons,List.length_nil]; omega)) ?_
    intro i5 p1g Dr k5
    have Tz:¬i2=i5:=fun e=>by rw [←e,Mq] at k5; cases k5
    have VV:¬i3=i5:=fun e=>by rw [←e,UL] at k5; cases k5
    have p4g:¬i4=i5:=fun e=>by rw [←e,xB] at k5; cases k5
    obtain ⟨q,hq,xv,HY,TF,VX,Gs⟩:=FF.UG xv HY TF VX k5
    have g5:((M.set i1 (mR L ce)).set i5 (.row 3 (2+(dF s.funcs).length+1) (dF s.funcs++[[.str (102::bK (i+1)),.int .i64 t,eT dC]]) false)).f i5=some (.row 3 (2+(dF s.funcs).length+1) (dF s.funcs++[[.str (102::bK (i+1)),.int .i64 t,eT dC]]) false):=by simp
    have Tl:jN ((M.set i1 (mR L ce)).set i5 (.row 3 (2+(dF s.funcs).length+1) (dF s.funcs++[[.str (102::bK (i+1)),.int .i64 t,eT dC]]) false)) q dC pl:=hq.of_eq (by simp [xv,Gs])
    have e1:=so (n:=(dF s.funcs).length+1) g5 Tl (by rw [fc])
    obtain ⟨B,e2,hB,hPB⟩:=AQ (n:=(dF s.funcs).length+1) g5 Tl Gs
    have b1:B.f i1=some (mR L ce):=by rw [hB i1 Dr xv.symm]; simp [Dr]
    have b2:B.f i2=some (ep s):=by rw [hB i2 Tz HY.symm]; simp [n1,Tz,Mq]
    have hsl:(dF s.funcs).length≤20:=by rw [fc]; omega
    simp (maxSteps:=1000000) only [VV,e1,e2,b2,ep,wi,bS,az,aB,seval]
    refine ⟨pJ,by omega,by omega,?_⟩
    refine hQ (i,{ s with funcs:=s.funcs++[⟨102::bK (i+1),t,pl⟩] },ce,done++[.func ([102]++bK (i+1)) ps (t+1) (bl++[.ret e])]) _ _ ⟨by omega,j1.W_ nm.1 nm.2 F0 (by omega),by simp only [List.length_append,List.length_cons,List.length_nil]; omega,?_,by rw [j3]; simp⟩ ?_ ?_ (by simp only; omega)
    ·rw [fh,uO]
     simp only [List.length_append,List.length_cons,List.length_nil]
     omega
    ·simp only [aB,seval]
     rw [fh,uO]
     simp
    ·exact H_ (by simp [cV,b1]) (by simp [ep])
 | zero=>
  rw [gy] at j3
  rw [List.append_nil] at j3
  have k:=k _ rfl
  rw [j3] at k
  simp only at k
  simp (maxSteps:=1000000) only [n1,cV,ep,bS,az,aB,seval]
  exact L0 L i1 i2 n1 cV s (j1.le (by decide)) c (out++cu 10 done) (by simp only [List.length_append]; omega) E _ (by simp only [aB,seval]) (by simp only [aB,seval]) (by simp only [aB,seval]) (by simp only [aB,seval]) R k
end
end Go.Proofs.YtpklkpkfgmoghaaGreatDoor.Zz
namespace Go.Proofs.YtpklkpkfgmoghaaGreatDoor.Zz
noncomputable section
theorem G3 (s:Nm) (x:List UInt8) (t:Int):(s.with x t).funcs=s.funcs:=by unfold Nm.with; split<;>(try rfl); split<;>rfl
theorem ON (L:List Int):aM Tryz.prog 5 [.sl (fl L)] (.str (gL L)):=by
 refine aM.run SH ac9 (by simp) fun E=>?_
 simp (maxSteps:=1000000) only [QQ,bS,az,aB,seval]
 intro i1 i2 n1 cV
 refine ⟨i1,L,0,3,rfl,by simp [cV,mR],by decide,by decide,?_⟩
 have Tn:=bW L (n:=3) (by decide) 0
 unfold gL jt
 rw [show (⟨[],[],[],[],0⟩:Nm)=VL from rfl]
 generalize bU L 3 0=nb at Tn ⊢
 obtain ⟨n0,b0⟩:=nb
 simp only at Tn ⊢
 obtain ⟨n,rfl⟩:∃n:Nat,n0=(n:Int):=⟨n0.toNat,by omega⟩
 rw [Int.toNat_natCast]
 simp (maxSteps:=1000000) only [n1,cV,bS,az,aB,seval]
 refine cS (X:=Nat×Nm×Nat×List GD) (fun z=>[(3,.ptr i1 1 0),(4,.ptr i2 1 0),(5,.str (cu 10 z.2.2.2)),(6,.int .i64 (z.1:Int))]) (fun z=>(aa.emp.set i2 (ep z.2.1)).set i1 (mR L z.2.2.1)) (fun z=>z.1)
  (fun z=>z.1≤2∧qb z.2.1 (16+z.1)∧z.2.1.funcs=[]∧(cu 10 z.2.2.2).length+1000*z.1≤10000∧kt L n VL b0=(z.2.2.2++(kt L z.1 z.2.1 z.2.2.1).1,(kt L z.1 z.2.1 z.2.2.1).2.1,(kt L z.1 z.2.1 z.2.2.1).2.2)) (n,VL,b0,[])
  ⟨by omega,?_,rfl,by rw [cu]; simp; omega,rfl⟩ (by simp only [cu,aB,seval]) ?_ ?_
 ·refine ⟨⟨fun t x hx=>?_,fun f hf=>by cases hf⟩,by simp [VL],?_,?_,?_,?_⟩
  ·unfold Nm.of at hx; split at hx<;>(try split at hx)<;>cases hx
  all_goals (simp only [VL,List.length_nil]; omega)
 ·exact aa.dL (by repeat' first | with_reducible exact aa.bF | with_reducible exact aa.bI | refine aa.cL (by simp [n1,cV,ep,VL,cE,dF]) ?_ | refine aa.cR (by simp [n1,cV,ep,VL,cE,dF]) ?_)
 rintro ⟨i,s,a,done⟩ Q ⟨j0,j1,jf,j2,j3⟩ hQ
 simp only at j0 j1 jf j2 j3 hQ ⊢
 cases i with
 | succ i=>
  have g:(((i+1:Nat):Int)>0)=True:=eq_true (by omega)
  have xv:sq [.int .i64 ((i+1:Nat):Int)]=some (.str (bK (i+1))):=if_pos ⟨by omega,by omega⟩
  have nm:=(Gg (i:=i+1) (by omega)).1
  have hl:(bK (i+1)).length=1:=oy (by omega)
  generalize hI:((i+1:Nat):Int)=I at*
  have wi:IntKind.i64.wrap (I - 1)=(i:Int):=by rw [←hI,wrap_i64 (by omega) (by omega)]; omega
  rw [kt] at j3
  simp (maxSteps:=1000000) only [n1,cV,g,xv,bS,az,aB,seval]
  refine ⟨i1,L,a,3,rfl,by simp,by decide,by decide,?_⟩
  have hr:=bW L (n:=3) (by decide) a
  generalize bU L 3 a=tq at hr j3 ⊢
  obtain ⟨t,ta⟩:=tq
  simp only at hr j3 ⊢
  have HY:Gr [.int .i64 t]=some (.str (gk (t+1))):=if_pos ⟨by omega,by omega⟩
  have hty:=BG (t+1)
  simp (maxSteps:=1000000) only [n1,cV,xv,HY,bS,az,aB,seval]
  repeat refine And.intro (by first | omega | (simp only [List.length_append,List.length_cons,List.length_nil]; omega)) ?_
  refine ⟨i1,L,ta,t,rfl,by simp,?_⟩
  have he:((nD L t ta).1.tx []).length≤19:=A8 L t ta
  generalize nD L t ta=X at he j3 ⊢
  obtain ⟨e,ce⟩:=X
  simp only at he j3 ⊢
  have l0:=j1.l0
  have l1:=j1.l1
  have l2:=j1.l2
  have hw:=uK (s:=s) (x:=103::bK (i+1)) (t:=t) ⟨by omega,by omega,by omega⟩
  simp only [NV] at hw
  simp (maxSteps:=1000000) only [n1,cV,wi,hw,ep,bS,az,aB,seval]
  repeat refine And.intro (by first | omega | (simp only [List.length_append,List.length_cons,List.length_nil]; omega)) ?_
  refine hQ (i,s.with ([103]++bK (i+1)) t,ce,done++[.var ([103]++bK (i+1)) (t+1) e]) _ _ ⟨by omega,(j1.le (show 16+i+1≤16+(i+1) by omega)).w nm.1 nm.2 t,by show (s.with _ t).funcs=[]; rw [G3]; exact jf,?_,by rw [j3]; simp⟩ ?_ ?_ (by simp only; omega)
  ·rw [fh,Qo]
   simp only [List.length_append,List.length_cons,List.length_nil]
   omega
  ·simp only [aB,seval]
   rw [fh,Qo]
   simp
  ·exact aa.dL (by repeat' first | with_reducible exact aa.bF | with_reducible exact aa.bI | refine aa.cL (by simp [n1,cV,ep]) ?_ | refine aa.cR (by simp [n1,cV,ep]) ?_)
 | zero=>
  rw [kt] at j3
  rw [j3]
  simp (maxSteps:=1000000) only [n1,cV,ep,bS,az,aB,seval]
  refine K3 L i1 i2 n1 cV s (j1.le (by omega)) ?_ a (cu 10 done) (by omega) E _ (by simp only [aB,seval]) (by simp only [aB,seval]) (by simp only [aB,seval]) (by simp only [aB,seval]) (fun o _=>o=_) fun f hf=>?_
  ·rw [jf]; decide
  ·rw [hf,fh,fh]
def Gs:List D→Option D
 | [.sl xs]=>match KW xs with
  | some L=>some (.str (gL L))
  | none=>none
 | _=>none
theorem V1 (args:List D) (d:D) (h:Gs args=some d):aM Tryz.prog 5 args d:=by
 unfold Gs at h
 split at h
 ·split at h
  ·rename_i L e
   cases yd e
   cases h
   exact ON L
  ·cases h
 ·cases h
theorem V0 (L:List Int):Gs [.sl (fl L)]=some (.str (gL L)):=by
 simp only [Gs,MW]
end
end Go.Proofs.YtpklkpkfgmoghaaGreatDoor.Zz
namespace Go.Proofs.YtpklkpkfgmoghaaGreatDoor.Zz
noncomputable section
theorem BF (L:List Int) (a:Nat):BE ((bU L 3 a).1+1):=by
 have:=bW L (n:=3) (by decide) a
 unfold BE
 omega
theorem Fe {L:List Int}:∀(i:Nat),i≤2→∀(s:Nm) (a:Nat),gN s→s.fresh=0→(∀D∈(kt L i s a).1,Dd D 0)∧(kt L i s a).1.length=i∧gN (kt L i s a).2.1∧(kt L i s a).2.1.fresh=0
 | 0,hi,s,a,hs,hf=>⟨(fun D h=>by rw [kt] at h; cases h),rfl,hs,hf⟩
 | i+1,hi,s,a,hs,hf=>by
  have nm:=(Gg (i:=i+1) (by omega)).1
  have h1:=hs.with nm.1 nm.2 (bU L 3 a).1
  obtain ⟨wy,wz,Y6,Y8⟩:=Fe i (by omega) _ (nD L (bU L 3 a).1 (bU L 3 a).2).2 h1 (by rw [gf]; exact hf)
  rw [kt]
  refine ⟨fun D h=>?_,by simp only [List.length_cons,wz],Y6,Y8⟩
  rcases List.mem_cons.1 h with rfl | h
  ·exact W2 nm.1 nm.2 (BF L a) (A7 L _ _)
  ·exact wy D h
theorem Dw {L:List Int}:∀(i:Nat),i≤2→∀(s:Nm) (a:Nat),gN s→s.fresh=0→(∀p∈(ke L i s a).1,fm p.1∧2≤p.1.length∧BE p.2)∧(ke L i s a).1.length=i∧gN (ke L i s a).2.1∧(ke L i s a).2.1.fresh=0
 | 0,hi,s,a,hs,hf=>⟨(fun D h=>by rw [ke] at h; cases h),rfl,hs,hf⟩
 | i+1,hi,s,a,hs,hf=>by
  have nm:=(Gg (i:=i+1) (by omega)).2.2.1
  have h1:=hs.with nm.1 nm.2 (bU L 3 a).1
  obtain ⟨wy,wz,Y6,Y8⟩:=Dw i (by omega) _ (bU L 3 a).2 h1 (by rw [gf]; exact hf)
  rw [ke]
  refine ⟨fun p h=>?_,by simp only [List.length_cons,wz],Y6,Y8⟩
  rcases List.mem_cons.1 h with rfl | h
  ·exact ⟨nm.1,nm.2,BF L a⟩
  ·exact wy p h
theorem gN.W_ {s:Nm} (h:gN s) {f:Fn} (h1:fm f.name) (h2:2≤f.name.length) (h3:f.params.length≤2):gN { s with funcs:=s.funcs++[f] }:=⟨h.var,fun g hg=>by
 rcases List.mem_append.1 hg with hg | hg
 ·exact h.fn g hg
 ·rw [List.mem_singleton.1 hg]; exact ⟨h1,h2,h3⟩⟩
theorem yH {L:List Int}:∀(i:Nat),i≤3→∀(s:Nm) (a:Nat),gN s→s.fresh=0→(∀D∈(gy L i s a).1,Dd D 0∧D.isVar=false)∧(gy L i s a).1.length=i∧gN (gy L i s a).2.1∧(gy L i s a).2.1.fresh=0
 | 0,hi,s,a,hs,hf=>⟨(fun D h=>by rw [gy] at h; cases h),rfl,hs,hf⟩
 | i+1,hi,s,a,hs,hf=>by
  have nm:=(Gg (i:=i+1) (by omega)).2.1
  have hn:=bW L (n:=3) (by decide) (bU L 3 a).2
  obtain ⟨Ty,p2p,p3p,p4p⟩:=Dw (L:=L) (bU L 3 (bU L 3 a).2).1.toNat (by omega) s (bU L 3 (bU L 3 a).2).2 hs hf
  rw [gy]
  simp only
  generalize ke L (bU L 3 (bU L 3 a).2).1.toNat s (bU L 3 (bU L 3 a).2).2=ps at Ty p2p p3p p4p ⊢
  have hlen:(ps.1.map fun p=>p.2 - 1).length≤2:=by rw [List.length_map,p2p]; omega
  generalize hF:(⟨[102]++bK (i+1),(bU L 3 a).1,ps.1.map fun p=>p.2 - 1⟩:Fn)=F
  have f1:fm F.name:=by rw [←hF]; exact nm.1
  have f2:2≤F.name.length:=by rw [←hF]; exact nm.2
  have f3:F.params.length≤2:=by rw [←hF]; exact hlen
  have ho:gN (if (bU L 5 ps.2.2).1=4 then { ps.2.1 with funcs:=ps.2.1.funcs++[F] } else ps.2.1)∧(if (bU L 5 ps.2.2).1=4 then { ps.2.1 with funcs:=ps.2.1.funcs++[F] } else ps.2.1:Nm).fresh=0:=by
   split
   ·exact ⟨p3p.W_ f1 f2 f3,p4p⟩
   ·exact ⟨p3p,p4p⟩
  generalize (if (bU L 5 ps.2.2).1=4 then { ps.2.1 with funcs:=ps.2.1.funcs++[F] } else ps.2.1:Nm)=o at ho
  obtain ⟨wy,wz,Y6,Y8⟩:=yH i (by omega) { s with funcs:=s.funcs++[F] } (bP L o 3 (bU L 3 a).1 (du L false 2 o (bU L 5 ps.2.2).2).2).2 (hs.W_ f1 f2 f3) hf
  refine ⟨fun D h=>?_,by simp only [List.length_cons,wz],Y6,Y8⟩
  rcases List.mem_cons.1 h with rfl | h
  ·exact ⟨Rc nm.1 nm.2 Ty (by rw [p2p]; omega) (BF L a) (rS 2 (by omega) _ _ ho.1 (by rw [ho.2]; omega)) (nq ho.1 3 (by omega) _ _),rfl⟩
  ·exact wy D h
theorem zV {L:List Int}:∀(i:Nat),i≤3→∀(s:Nm) (a:Nat),gN s→s.fresh=0→(∀D∈(iq L i s a).1,Dd D 256∧D.isVar=false)∧(iq L i s a).1.length=i
 | 0,hi,s,a,hs,hf=>⟨(fun D h=>by rw [iq] at h; cases h),rfl⟩
 | i+1,hi,s,a,hs,hf=>by
  have nm:=(Gg (i:=i+1) (by omega)).2.2.2
  obtain ⟨wy,wz⟩:=zV i (by omega) s (bP L s 3 2 (du L true 2 s a).2).2 hs hf
  rw [iq]
  refine ⟨fun D h=>?_,by simp only [List.length_cons]; rw [wz]⟩
  rcases List.mem_cons.1 h with rfl | h
  ·exact ⟨SJ nm.1 nm.2 (rS 2 (by omega) _ _ hs (by rw [hf]; omega)) (nq hs 3 (by omega) _ _),rfl⟩
  ·exact wy D h
theorem Dd.zero {D:GD} {x:Nat} (h:Dd D x):Dd D 0:=⟨h.ok,h.c6,h.dq,fun r=>by have:=h.wt r; omega⟩
theorem aaA:∀(l:List GD),(∀D∈l,Dd D 0)→256*Nd.fy (l.map GD.nd)≤125*(cu 10 l).length
 | [],h=>by rw [List.map_nil,aX]; omega
 | D::l,h=>by
  have h1:=(h D (by simp)).wt (cu 10 l)
  have h2:=aaA l fun E hE=>h E (by simp [hE])
  rw [List.map_cons,aQ,cu]
  omega
theorem aaB:∀(l:List GD),(∀D∈l,Dd D 0)→(∃D∈l,Dd D 256)→256*Nd.fy (l.map GD.nd)+256≤125*(cu 10 l).length
 | [],h,⟨D,hD,_⟩=>by cases hD
 | D::l,h,⟨E,hE,hx⟩=>by
  have h1:=(h D (by simp)).wt (cu 10 l)
  have h0:=aaA l fun E hE=>h E (by simp [hE])
  rw [List.map_cons,aQ,cu]
  rcases List.mem_cons.1 hE with rfl | hE
  ·have:=hx.wt (cu 10 l)
   omega
  ·have h2:=aaB l (fun E hE=>h E (by simp [hE])) ⟨E,hE,hx⟩
   omega
theorem nQ (L:List Int):(∀D∈jt L,Dd D 0)∧AV (jt L)≤16∧AR (jt L)≤32∧(∃D∈jt L,Dd D 256):=by
 have n0:gN ⟨[],[],[],[],0⟩:=⟨(fun t x h=>by unfold Nm.of at h; split at h<;>(try split at h)<;>cases h),(fun f h=>by cases h)⟩
 have r1:=bW L (n:=3) (by decide) 0
 obtain ⟨v1,v2,v3,v4⟩:=Fe (L:=L) (bU L 3 0).1.toNat (by omega) ⟨[],[],[],[],0⟩ (bU L 3 0).2 n0 rfl
 unfold jt
 simp only
 generalize kt L (bU L 3 0).1.toNat ⟨[],[],[],[],0⟩ (bU L 3 0).2=V at v1 v2 v3 v4 ⊢
 have r2:=bW L (n:=3) (by decide) V.2.2
 obtain ⟨f1,f2,f3,f4⟩:=yH (L:=L) ((bU L 3 V.2.2).1.toNat+1) (by omega) V.2.1 (bU L 3 V.2.2).2 v3 v4
 generalize gy L ((bU L 3 V.2.2).1.toNat+1) V.2.1 (bU L 3 V.2.2).2=F at f1 f2 f3 f4 ⊢
 have r3:=bW L (n:=3) (by decide) F.2.2
 obtain ⟨t1,t2⟩:=zV (L:=L) ((bU L 3 F.2.2).1.toNat+1) (by omega) F.2.1 (bU L 3 F.2.2).2 f3 f4
 generalize (iq L ((bU L 3 F.2.2).1.toNat+1) F.2.1 (bU L 3 F.2.2).2).1=T at t1 t2 ⊢
 refine ⟨fun D h=>?_,?_,?_,?_⟩
 ·rcases List.mem_append.1 h with h | h
  ·rcases List.mem_append.1 h with h | h
   ·exact v1 D h
   ·exact (f1 D h).1
  ·exact (t1 D h).1.zero
 ·unfold AV
  rw [List.filter_append,List.filter_append,(List.filter_eq_nil_iff (p:=GD.isVar) (l:=F.1)).2 (fun D h=>by rw [(f1 D h).2]; simp),(List.filter_eq_nil_iff (p:=GD.isVar) (l:=T)).2 (fun D h=>by rw [(t1 D h).2]; simp)]
  have:=List.length_filter_le GD.isVar V.1
  simp only [List.append_nil]
  omega
 ·unfold AR
  have:=List.length_filter_le (fun D:GD=> !D.isVar) (V.1++F.1++T)
  simp only [List.length_append] at this
  omega
 ·cases T with
  | nil=>simp at t2
  | cons D T=>exact ⟨D,by simp,(t1 D (by simp)).1⟩
theorem mw (L:List Int) (h:(gL L).length≤4096):(eS (jt L)).de≤2000:=by
 obtain ⟨a,_,_,b⟩:=nQ L
 have:=aaB _ a b
 unfold gL at h
 rw [eS,bg]
 omega
theorem Bq (L:List Int) (h:(gL L).length≤4096):lx 81 (gL L)=some (eS (jt L),0,0):=by
 obtain ⟨a,b,c,_⟩:=nQ L
 exact wY (c:=10) rfl h (fun D hD=>⟨(a D hD).ok,(a D hD).c6⟩) b c (mw L h)
theorem rb (L:List Int):aT (eS (jt L))=cu 32 (jt L):=RW fun D hD=>((nQ L).1 D hD).dq
theorem DF (L:List Int) (h:(gL L).length≤4096) (h2:(aT (eS (jt L))).length≤4096):lx 81 (aT (eS (jt L)))=some (eS (jt L),0,0):=by
 obtain ⟨a,b,c,_⟩:=nQ L
 rw [rb] at h2 ⊢
 exact wY (c:=32) rfl h2 (fun D hD=>⟨(a D hD).ok,(a D hD).c6⟩) b c (mw L h)
end
end Go.Proofs.YtpklkpkfgmoghaaGreatDoor.Zz
namespace Go.Proofs.YtpklkpkfgmoghaaGreatDoor.Zz
noncomputable section
def OX (n:Nd):Prop:=∀x∈s8 n,okX x
theorem G6 {k t:Int} {s:List UInt8} {m:Int} {l:List Nd} (h1: -9223372036854775808≤m) (h2:m≤9223372036854775807) (h3:s.length≤16) (h:∀y∈l,OX y):OX (.mk k t s m l):=by
 intro x hx
 rw [vQ,List.mem_cons] at hx
 rcases hx with rfl | hx
 ·exact ⟨h1,h2,by omega⟩
 ·induction l with
  | nil=>rw [Gb] at hx; cases hx
  | cons y l ih=>
   rw [s9] at hx
   rcases List.mem_append.1 hx with hx | hx
   ·exact h y (by simp) x hx
   ·exact ih (fun z hz=>h z (by simp [hz])) hx
theorem sH {k t:Int} {s:List UInt8} {l:List Nd} (h3:s.length≤16) (h:∀y∈l,OX y):OX (.mk k t s 0 l):=G6 (by decide) (by decide) h3 h
theorem mg {x:Nd} (h:OX x):∀y∈[x],OX y:=by intro y hy; rw [List.mem_singleton.1 hy]; exact h
theorem BB {x z:Nd} (h:OX x) (h':OX z):∀y∈[x,z],OX y:=by
 intro y hy
 rcases List.mem_cons.1 hy with rfl | hy
 ·exact h
 ·rw [List.mem_singleton.1 hy]; exact h'
theorem P0 {x z w:Nd} (h:OX x) (h':OX z) (h2:OX w):∀y∈[x,z,w],OX y:=by
 intro y hy
 rcases List.mem_cons.1 hy with rfl | hy
 ·exact h
 ·exact BB h' h2 y hy
theorem qH {x:List UInt8} (h:fm x):x.length≤16:=by
 obtain ⟨c,w,rfl,_,_,_,h⟩:=h
 exact h
theorem Ky (x:Int): -9223372036854775808≤IntKind.i64.wrap x∧IntKind.i64.wrap x≤9223372036854775807:=by
 simp only [IntKind.wrap,IntKind.bits,IntKind.signed]
 simp only [if_true,Bool.true_and]
 by_cases h:x % 2 ^ 64<2 ^ (64 - 1)
 ·simp; split<;>omega
 ·simp; split<;>omega
theorem RM:∀s∈N4,s.length≤2:=by decide
mutual
theorem sn:∀(e:GE),e.c6→e.dq→OX e.nd
 | .int w,h=>fun h'=>by
  rw [GE.c6] at h
  rw [GE.nd]
  have hd:w.all dK=true:=List.all_eq_true.2 fun y hy=>by
   have:=h.2.1 y hy
   simp only [isDigit,Bool.and_eq_true,decide_eq_true_eq] at this
   simp only [dK,Bool.and_eq_true,decide_eq_true_eq]
   omega
  have:=(Aj hd h.2.2).2
  exact G6 (by omega) (by omega) (by simp) (by simp)
 | .o8 w,h=>fun h'=>by
  rw [GE.c6] at h
  rw [GE.dq] at h'
  rw [GE.nd,iR]
  obtain ⟨A,B,e,_,_,_,_,hl⟩:=h
  refine G6 (Ky _).1 (Ky _).2 ?_ (by simp)
  rw [h',e,List.length_append,List.length_cons]
  omega
 | .bool b,h=>fun h'=>by
  rw [GE.nd]
  exact G6 (by split<;>decide) (by split<;>decide) (by simp) (by simp)
 | .var x,h=>fun h'=>by
  rw [GE.c6] at h
  rw [GE.nd]
  exact sH (qH h) (by simp)
 | .call x l,h=>fun h'=>by
  rw [GE.c6] at h
  rw [GE.dq] at h'
  rw [GE.nd]
  exact sH (qH h.1) (N7 l h.2 h')
 | .un s e,h=>fun h'=>by
  rw [GE.c6] at h
  rw [GE.dq] at h'
  rw [GE.nd]
  exact sH (by rcases h.1 with rfl | rfl<;>decide) (mg (sn e h.2 h'))
 | .bin s a b,h=>fun h'=>by
  rw [GE.c6] at h
  rw [GE.dq] at h'
  rw [GE.nd]
  exact sH (by have:=RM s h.1; omega) (BB (sn a h.2.1 h'.1) (sn b h.2.2 h'.2))
 | .conv t e,h=>fun h'=>by
  rw [GE.c6] at h
  rw [GE.dq] at h'
  rw [GE.nd]
  exact sH (by simp) (mg (sn e h h'.2))
theorem N7:∀(l:List GE),GE.fp l→GE.eW l→∀y∈GE.eo l,OX y
 | [],h=>fun h' y hy=>by rw [GE.eo] at hy; cases hy
 | e::l,h=>fun h' y hy=>by
  rw [GE.fp] at h
  rw [GE.eW] at h'
  rw [GE.eo] at hy
  rcases List.mem_cons.1 hy with rfl | hy
  ·exact sn e h.1 h'.1
  ·exact N7 l h.2 h'.2 y hy
end
mutual
theorem aco:∀(s:GS),s.c6→s.dq→OX s.nd
 | .jS x e,h=>fun h'=>by
  rw [GS.c6] at h; rw [GS.dq] at h'; rw [GS.nd]
  exact sH (qH h.1) (mg (sn e h.2 h'))
 | .mX x e,h=>fun h'=>by
  rw [GS.c6] at h; rw [GS.dq] at h'; rw [GS.nd]
  exact sH (qH h.1) (mg (sn e h.2 h'))
 | .yS e l,h=>fun h'=>by
  rw [GS.c6] at h; rw [GS.dq] at h'; rw [GS.nd]
  exact sH (by simp) (BB (sn e h.1 h'.1) (sH (by simp) (vY l h.2 h'.2)))
 | .yR e l r,h=>fun h'=>by
  rw [GS.c6] at h; rw [GS.dq] at h'; rw [GS.nd]
  exact sH (by simp) (P0 (sn e h.1 h'.1) (sH (by simp) (vY l h.2.1 h'.2.1)) (sH (by simp) (vY r h.2.2 h'.2.2)))
 | .lJ e l,h=>fun h'=>by
  rw [GS.c6] at h; rw [GS.dq] at h'; rw [GS.nd]
  exact sH (by simp) (BB (sn e h.1 h'.1) (sH (by simp) (vY l h.2 h'.2)))
 | .ret e,h=>fun h'=>by
  rw [GS.c6] at h; rw [GS.dq] at h'; rw [GS.nd]
  exact sH (by simp) (mg (sn e h h'))
 | .iM e,h=>fun h'=>by
  rw [GS.c6] at h; rw [GS.dq] at h'; rw [GS.nd]
  exact sH (by simp) (mg (sn e h h'))
 | .skip,h=>fun h'=>by
  rw [GS.nd]
  exact sH (by simp) (by simp)
 | .xF x l,h=>fun h'=>by
  rw [GS.c6] at h; rw [GS.dq] at h'; rw [GS.nd]
  exact sH (by simp) (mg (sH (qH h.1) (N7 l h.2 h')))
theorem vY:∀(l:List GS),GS.fp l→GS.eW l→∀y∈GS.eo l,OX y
 | [],h=>fun h' y hy=>by rw [GS.eo] at hy; cases hy
 | e::l,h=>fun h' y hy=>by
  rw [GS.fp] at h
  rw [GS.eW] at h'
  rw [GS.eo] at hy
  rcases List.mem_cons.1 hy with rfl | hy
  ·exact aco e h.1 h'.1
  ·exact vY l h.2 h'.2 y hy
end
theorem acn (D:GD) (h:D.c6) (h':D.dq):OX D.nd:=by
 cases D with
 | var x t e=>
  rw [GD.c6] at h; rw [GD.dq] at h'; rw [GD.nd]
  exact sH (qH h.1) (mg (sn e h.2 h'.2.1.2))
 | func x ps t l=>
  rw [GD.c6] at h; rw [GD.dq] at h'; rw [GD.nd]
  refine sH (qH h.1) fun y hy=>?_
  rcases List.mem_append.1 hy with hy | hy
  ·obtain ⟨p,hp,rfl⟩:=List.mem_map.1 hy
   exact sH (qH (h.2.1 p hp)) (by simp)
  ·rw [List.mem_singleton.1 hy]
   exact sH (by simp) (vY l h.2.2 h'.2.2)
 | test x l=>
  rw [GD.c6] at h; rw [GD.dq] at h'; rw [GD.nd]
  exact sH (qH h.1) (mg (sH (by simp) (vY l h.2 h')))
mutual
theorem acb:∀(s:GS) (r r':List UInt8),r.length=r'.length→(s.tx 10 r).length=(s.tx 32 r').length
 | .jS x e,r,r',hr=>by
  rw [GS.tx,GS.tx]
  simp only [List.length_append,List.length_cons,dR,hr]
 | .mX x e,r,r',hr=>by
  rw [GS.tx,GS.tx]
  simp only [List.length_append,List.length_cons,dR,hr]
 | .yS e l,r,r',hr=>by
  have:=vR l (125::r) (125::r') (by simp [hr])
  rw [GS.tx,GS.tx]
  simp only [List.length_append,List.length_cons,dR,this]
 | .yR e l l2,r,r',hr=>by
  have h2:=vR l2 (125::r) (125::r') (by simp [hr])
  have h1:=vR l (125::32::(jM++32::123::10::GS.cT 10 l2 (125::r))) (125::32::(jM++32::123::32::GS.cT 32 l2 (125::r'))) (by simp [h2])
  rw [GS.tx,GS.tx]
  simp only [List.length_append,List.length_cons,dR,h1]
 | .lJ e l,r,r',hr=>by
  have:=vR l (125::r) (125::r') (by simp [hr])
  rw [GS.tx,GS.tx]
  simp only [List.length_append,List.length_cons,dR,this]
 | .ret e,r,r',hr=>by
  rw [GS.tx,GS.tx]
  simp only [List.length_append,List.length_cons,dR,hr]
 | .iM e,r,r',hr=>by
  rw [GS.tx,GS.tx]
  simp only [List.length_append,List.length_cons,dR,hr]
 | .skip,r,r',hr=>by
  rw [GS.tx,GS.tx]
  simp [hr]
 | .xF x l,r,r',hr=>by
  rw [GS.tx,GS.tx,jX l,jX l (41::59::r')]
  simp [hr]
theorem vR:∀(l:List GS) (r r':List UInt8),r.length=r'.length→(GS.cT 10 l r).length=(GS.cT 32 l r').length
 | [],r,r',hr=>by rw [GS.cT,GS.cT]; exact hr
 | s::l,r,r',hr=>by
  rw [GS.cT,GS.cT]
  exact acb s _ _ (by simp [vR l r r' hr])
end
theorem aca (D:GD) (r r':List UInt8) (hr:r.length=r'.length):(D.tx 10 r).length=(D.tx 32 r').length:=by
 cases D with
 | var x t e=>
  rw [GD.tx,GD.tx]
  simp only [List.length_append,List.length_cons,dR,hr]
 | func x ps t l=>
  have h:=vR l (125::r) (125::r') (by simp [hr])
  have hp:∀(ps:List (List UInt8×Int)) (a b:List UInt8),a.length=b.length→(fV ps a).length=(fV ps b).length:=by
   intro ps
   induction ps with
   | nil=>intro a b h; exact h
   | cons p ps ih=>intro a b h; rw [fV,fV]; simp only [List.length_append,List.length_cons,ih a b h]
  have hq:∀(a b:List UInt8),a.length=b.length→(gG ps a).length=(gG ps b).length:=by
   intro a b h
   cases ps with
   | nil=>exact h
   | cons p ps=>rw [gG,gG]; simp only [List.length_append,List.length_cons,hp ps a b h]
  rw [GD.tx,GD.tx]
  simp only [List.length_append,List.length_cons]
  rw [hq _ (41::32::(gk t++32::123::32::GS.cT 32 l (125::r'))) (by simp [h])]
 | test x l=>
  have h:=vR l (125::r) (125::r') (by simp [hr])
  rw [GD.tx,GD.tx]
  simp only [List.length_append,List.length_cons,h]
theorem YC:∀l:List GD,(cu 10 l).length=(cu 32 l).length
 | []=>rfl
 | D::l=>by
  rw [cu,cu]
  exact aca D _ _ (by simp [YC l])
theorem GG (L:List Int) (h:(gL L).length≤4096):sf (eS (jt L)):=by
 obtain ⟨a,_,_,_⟩:=nQ L
 refine ⟨by have:=mw L h; omega,?_,?_⟩
 ·rw [rb,←YC]
  have:(cu 10 (jt L)).length=(gL L).length:=rfl
  omega
 ·refine sH (by simp) fun y hy=>?_
  obtain ⟨D,hD,rfl⟩:=List.mem_map.1 hy
  exact acn D (a D hD).c6 (a D hD).dq
end
end Go.Proofs.YtpklkpkfgmoghaaGreatDoor.Zz
