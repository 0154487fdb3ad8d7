/- Contracts: the generator of programs: functions. -/
import Derived.Test.YtpklkpkfgmoghaaGreatDoorZS7
import Derived.Test.YtpklkpkfgmoghaaGreatDoorZS1
set_option linter.unnecessarySimpa false
set_option linter.unusedVariables false
set_option linter.unusedSimpArgs false
set_option maxRecDepth 20000
namespace Go.Proofs.YtpklkpkfgmoghaaGreatDoor.Zz
noncomputable section
def jT (A:aa) (r:Nat) (dC:D) (pl:List Int):Prop:=(dC=.bg∧pl=[])∨(dC=.row r (pl.length+2) 0 pl.length∧∃fz,A.f r=some (.row 1 (pl.length+2) (fA pl) fz))
theorem jT.ok {A:aa} {r:Nat} {dC:D} {pl:List Int} (h:jT A r dC pl):cf dC=true:=by
 rcases h with ⟨rfl,_⟩ | ⟨rfl,_⟩<;>rfl
theorem jT.j5 {A:aa} {r:Nat} {dC:D} {pl:List Int} (h:jT A r dC pl):cf (fc dC)=true:=by
 rcases h with ⟨rfl,_⟩ | ⟨rfl,_⟩<;>rfl
theorem jT.plain {A:aa} {r:Nat} {dC:D} {pl:List Int} (h:jT A r dC pl):plain A (fc dC)=.sl (fA pl):=by
 rcases h with ⟨rfl,rfl⟩ | ⟨rfl,fz,h⟩
 ·rfl
 ·simp only [fc,Go.Proofs.YtpklkpkfgmoghaaGreatDoor.Zz.plain,h]
  rw [if_pos ⟨trivial,by rw [fT]; omega⟩,List.drop_zero,List.take_of_length_le (by rw [fT]; omega)]
theorem jT.of_eq {A B:aa} {r:Nat} {dC:D} {pl:List Int} (h:jT A r dC pl) (e:B.f r=A.f r):jT B r dC pl:=by
 rcases h with h | ⟨h1,fz,h2⟩
 ·exact .inl h
 ·exact .inr ⟨h1,fz,by rw [e]; exact h2⟩
theorem jT.fK {A:aa} {r:Nat} {dC:D} {pl:List Int} (h:jT A r dC pl):jT (fK A (fc dC)) r dC pl∧∀j,j≠r→(fK A (fc dC)).f j=A.f j:=by
 rcases h with ⟨rfl,rfl⟩ | ⟨rfl,fz,h⟩
 ·exact ⟨.inl ⟨rfl,rfl⟩,fun _ _=>rfl⟩
 ·have e:Go.Proofs.YtpklkpkfgmoghaaGreatDoor.Zz.fK A (fc (.row r (pl.length+2) 0 pl.length))=A.set r (.row 1 (pl.length+2) (fA pl) true):=by simp only [fc,Go.Proofs.YtpklkpkfgmoghaaGreatDoor.Zz.fK,eB,h]
  rw [e]
  exact ⟨.inr ⟨rfl,true,by simp⟩,fun j hj=>by simp [hj]⟩
theorem yO:∀(l:List Fn) (A:aa) (M:List D),ff A ((dP l).flatten++M)=ff A M
 | [],A,M=>rfl
 | f::l,A,M=>yO l A M
theorem Gk (A:aa) (l:List Fn):(dP l).map (List.map (plain A))=dP l:=by
 simp [dP,plain]
theorem sK {A:aa} {i5 v r n:Nat} {l:List Fn} {x:List UInt8} {t:Int} {pl:List Int} {dC:D} (h5:A.f i5=some (.row 3 v (dP l++[[.str x,.int .i64 t,fc dC]]) false)) (hP:jT A r dC pl) (hn:n=l.length+1):
  qc A (.row i5 v 0 n)=.sl (dP (l++[⟨x,t,pl⟩])):=by
 subst hn
 simp only [qc,h5]
 rw [if_pos ⟨trivial,by simp [fm]⟩,List.map_append,Gk,CF,List.drop_zero,List.take_of_length_le (by simp [fm])]
 show D.sl (dP l++[[.str x,.int .i64 t,plain A (fc dC)]])=_
 rw [hP.plain]
theorem Be {A:aa} {i5 v r n:Nat} {l:List Fn} {x:List UInt8} {t:Int} {pl:List Int} {dC:D} (h5:A.f i5=some (.row 3 v (dP l++[[.str x,.int .i64 t,fc dC]]) false)) (hP:jT A r dC pl) (n3:r≠i5):
  ∃B,Bc A (.row i5 v 0 n)=B∧(∀j,j≠i5→j≠r→B.f j=A.f j)∧jT B r dC pl:=by
 have e2:Bc A (.row i5 v 0 n)=(fK A (fc dC)).set i5 (.row 3 v ((dP l++[[.str x,.int .i64 t,fc dC]]).map (List.map (plain A))) true):=by
  simp only [Bc,h5]
  rw [List.flatten_append,yO]
  rfl
 have hz:=hP.fK
 refine ⟨_,e2,fun j b c=>?_,hz.1.of_eq ?_⟩
 ·simp [b,hz.2 j c]
 ·simp [n3]
theorem jT.VH {A:aa} {r:Nat} {dC:D} {pl:List Int} (h:jT A r dC pl) {i1 i2 i3 i4 i5:Nat} (r1:r≠i1) (r2:r≠i2) (r3:r≠i3) (r4:r≠i4) (k:A.f i5=none):∃q,jT A q dC pl∧q≠i1∧q≠i2∧q≠i3∧q≠i4∧q≠i5:=by
 rcases h with ⟨h1,h2⟩ | ⟨h1,fz,h2⟩
 ·exact ⟨i1+i2+i3+i4+i5+1,.inl ⟨h1,h2⟩,by omega,by omega,by omega,by omega,by omega⟩
 ·exact ⟨r,.inr ⟨h1,fz,h2⟩,r1,r2,r3,r4,fun e=>by rw [e,k] at h2; cases h2⟩
theorem pV {l:List Fn}:∀y∈dP l,y.length=3∧y.all cf=true:=by
 intro y hy
 simp only [dP,List.mem_map] at hy
 obtain ⟨s,_,rfl⟩:=hy
 exact ⟨rfl,rfl⟩
theorem qu.Yd {s:Nm} {r:Nat} (h:qu s r) {F:Fn} (h1:fB F.name) (h2:2≤F.name.length) (h3:F.params.length≤2) (h4:s.funcs.length<1000):qu { s with funcs:=s.funcs++[F] } r:=by
 refine ⟨⟨h.ok.var,fun g hg=>?_⟩,by simp; omega,h.l0,h.l1,h.l2,h.fr⟩
 rcases List.mem_append.1 hg with hg | hg
 ·exact h.ok.fn g hg
 ·rw [List.mem_singleton.1 hg]; exact ⟨h1,h2,h3⟩
theorem u9 (x:List UInt8) (ps:List (List UInt8×Int)) (t:Int) (l:List GS) (e:GE):cC 10 [.func x ps t (l++[.ret e])]=[102,117,110,99,32]++(x++([40]++(gM ps []++([41,32]++(gx t++([32,123,10]++(GS.c7 10 l []++([114,101,116,117,114,110,32]++(e.tx []++[59,10,125,10]))))))))):=by
 rw [cC,cC,GD.tx,dE,eC,wx]
 have:GS.c7 10 [.ret e] []=[114,101,116,117,114,110,32]++(e.tx []++[59,10]):=by rw [GS.c7,GS.tx,GS.c7,cD e]; simp [lu]
 rw [this]
 simp [rV]
theorem DS (x:List UInt8) (t:Int):gM [(x,t)] []=x++(32::gx t):=by rw [gM,f_]; simp
theorem zF {l:List (List UInt8×Int)} (h:l≠[]) (x:List UInt8) (t:Int):gM (l++[(x,t)]) []=gM l []++([44,32]++(x++(32::gx t))):=by
 have ht:∀l:List (List UInt8×Int),f_ (l++[(x,t)]) []=f_ l []++([44,32]++(x++(32::gx t))):=by
  intro l
  induction l with
  | nil=>simp [f_]
  | cons p l ih=>rw [List.cons_append,f_,f_,ih]; simp
 cases l with
 | nil=>exact absurd rfl h
 | cons p l=>rw [List.cons_append,gM,gM,ht]; simp
theorem SG {l:List (List UInt8×Int)} (h:l≠[]):(gM l []==[])=false:=by
 cases l with
 | nil=>exact absurd rfl h
 | cons p l=>rw [gM]; simp
theorem II {H:aa} {i1 i2:Nat} {X Y:cR} (h1:H.f i1=some Y) (h2:H.f i2=some X):((aa.emp.set i2 X).set i1 Y).sub H:=fun j x hj=>by
 simp only [aa.dN,aa.NQ] at hj
 split at hj
 ·ab e; cases hj; rw [e]; exact h1
 ·split at hj
  ·ab e; cases hj; rw [e]; exact h2
  ·cases hj
set_option maxHeartbeats 2000000 in
theorem LB (L:List Int) (i1 i2:Nat) (n1:¬i2=i1) (c_:¬i1=i2) (El:Nm) (nz:qu El 16) (Yj:El.funcs.length≤10) (a0:Nat) (out:List UInt8) (ho:out.length≤100000) (E:Fr→D→aa→Prop) (σ:Fr) (B6:σ.env 3=.ptr i1 1 0) (Xx:σ.env 4=.ptr i2 1 0) (RE:σ.env 5=.str out) (sd:σ.defs=[]) (R:dF→aa→Prop)
  (k:∀f,f=gE L ((b7 L 3 a0).1.toNat+1) El (b7 L 3 a0).2→R (.ret (.str (out++cC 10 f.1++cC 10 (iz L ((b7 L 3 f.2.2).1.toNat+1) f.2.1 (b7 L 3 f.2.2).2).1))) .emp):
  vc (RF 3) Xn (todo (RF 3) (sR [.tmp 2] R) E []) E σ ((aa.emp.set i2 (eF El)).set i1 (nf L a0)):=by
 have Uf:=b_ L (n:=3) (by decide) a0
 simp (maxSteps:=1000000) only [Xn,B6,Xx,RE,sd,bX,aB,aD,seval]
 refine ⟨i1,L,a0,3,rfl,by simp,by decide,by decide,?_⟩
 generalize b7 L 3 a0=nb at Uf k ⊢
 obtain ⟨n0,b0⟩:=nb
 simp only at Uf k ⊢
 have w0:IntKind.i64.wrap (n0+1)=((n0.toNat+1:Nat):Int):=by rw [wrap_i64 (by omega) (by omega)]; omega
 have hn:n0.toNat+1≤3:=by omega
 generalize n0.toNat+1=n at hn w0 k
 simp (maxSteps:=1000000) only [n1,c_,w0,B6,Xx,RE,sd,bX,aB,aD,seval]
 refine c6 (X:=Nat×Nm×Nat×List GD) (fun z=>[(3,.ptr i1 1 0),(4,.ptr i2 1 0),(5,.str (out++cC 10 z.2.2.2)),(9,.int .i64 (z.1:Int))]) (fun z=>(aa.emp.set i2 (eF z.2.1)).set i1 (nf L z.2.2.1)) (fun z=>z.1)
  (fun z=>z.1≤3∧qu z.2.1 16∧z.2.1.funcs.length+z.1≤20∧(cC 10 z.2.2.2).length+100000*z.1≤300000∧gE L n El b0=(z.2.2.2++(gE L z.1 z.2.1 z.2.2.1).1,(gE L z.1 z.2.1 z.2.2.1).2.1,(gE L z.1 z.2.1 z.2.2.1).2.2)) (n,El,b0,[])
  ⟨by omega,nz,by simp only; omega,by rw [cC]; simp; omega,rfl⟩ (by simp only [cC,List.append_nil,B6,Xx,RE,sd,aD,seval]) (aa.aU _) ?_
 rintro ⟨i,s,c,done⟩ Q ⟨j0,j1,jf,j2,j3⟩ hQ
 simp only at j0 j1 jf j2 j3 hQ ⊢
 cases i with
 | succ i=>
  have g:(((i+1:Nat):Int)>0)=True:=eq_true (by omega)
  have xK:sL [.int .i64 ((i+1:Nat):Int)]=some (.str (bQ (i+1))):=if_pos ⟨by omega,by omega⟩
  have hl:(bQ (i+1)).length=1:=o7 (by omega)
  have nm:=(GI (i:=i+1) (by omega)).2.1
  generalize hI:((i+1:Nat):Int)=I at*
  have wi:IntKind.i64.wrap (I - 1)=(i:Int):=by rw [←hI,wrap_i64 (by omega) (by omega)]; omega
  rw [gE] at j3
  simp (maxSteps:=1000000) only [n1,c_,g,xK,eF,bX,aB,aD,seval]
  repeat refine And.intro (by first | omega | (simp only [List.length_append,List.length_cons,List.length_nil]; omega)) ?_
  have hrt:=b_ L (n:=3) (by decide) c
  refine ⟨i1,L,c,3,rfl,by simp,by decide,by decide,?_⟩
  generalize b7 L 3 c=tq at hrt j3 ⊢
  obtain ⟨t,ta⟩:=tq
  simp only at hrt j3 ⊢
  simp (maxSteps:=1000000) only [n1,c_,bX,aB,aD,seval]
  intro i3 m1 lW m2 nQ
  simp (maxSteps:=1000000) only [n1,c_,m1,lW,m2,nQ,bX,aB,aD,seval]
  intro i4 o3 qb o1 qa o2 qq
  have Og:=b_ L (n:=3) (by decide) ta
  refine ⟨i1,L,ta,3,rfl,by simp [lW,qa],by decide,by decide,?_⟩
  generalize b7 L 3 ta=tq at Og j3 ⊢
  obtain ⟨u0,ua⟩:=tq
  simp only at Og j3 ⊢
  obtain ⟨u,rfl⟩:∃u:Nat,u0=(u:Int):=⟨u0.toNat,by omega⟩
  rw [Int.toNat_natCast] at j3
  simp (maxSteps:=1000000) only [n1,c_,m1,lW,m2,nQ,o1,qa,o2,qq,o3,qb,bX,aB,aD,seval]
  have Yp:=fun (o:Nm) (h:qu o 12)=>h.l0
  refine c6 (X:=Nat×Nm×Nat×List (List UInt8×Int)×Nat×D×aa) (fun z=>[(3,.ptr i1 1 0),(4,.ptr i2 1 0),(5,.str (out++cC 10 done)),(9,.int .i64 I),(10,.ptr i3 1 0),(11,.ptr i4 1 0),(12,.str (gM z.2.2.2.1 [])),(13,.int .i64 (z.1:Int))]) (fun z=>z.2.2.2.2.2.2) (fun z=>z.1)
   (fun z=>z.1+z.2.2.2.1.length≤2∧qu z.2.1 (13+z.1)∧z.2.1.funcs=s.funcs∧(gM z.2.2.2.1 []).length≤40*z.2.2.2.1.length∧kn L u s ua=(z.2.2.2.1++(kn L z.1 z.2.1 z.2.2.1).1,(kn L z.1 z.2.1 z.2.2.1).2.1,(kn L z.1 z.2.1 z.2.2.1).2.2)∧
    z.2.2.2.2.2.2.f i1=some (nf L z.2.2.1)∧z.2.2.2.2.2.2.f i2=some (eF s)∧z.2.2.2.2.2.2.f i3=some (.cells [.str ([102]++bQ (i+1)),.int .i64 t,z.2.2.2.2.2.1])∧z.2.2.2.2.2.2.f i4=some (eF z.2.1)∧
    z.2.2.2.2.1≠i1∧z.2.2.2.2.1≠i2∧z.2.2.2.2.1≠i3∧z.2.2.2.2.1≠i4∧z.2.2.2.2.2.1=kJ z.2.2.2.2.1 z.2.2.2.1.length∧(z.2.2.2.1≠[]→z.2.2.2.2.2.2.f z.2.2.2.2.1=some (.row 1 (z.2.2.2.1.length+2) (fA (z.2.2.2.1.map fun p=>p.2 - 1)) false)))
   (u,s,ua,[],i1+i2+i3+i4+1,.bg,_) ⟨by simp only [List.length_nil]; omega,j1.le (by omega),rfl,by simp [gM],rfl,?_,?_,?_,?_,(show i1+i2+i3+i4+1≠i1 by omega),(show i1+i2+i3+i4+1≠i2 by omega),(show i1+i2+i3+i4+1≠i3 by omega),(show i1+i2+i3+i4+1≠i4 by omega),rfl,fun h=>absurd rfl h⟩ ?_ (aa.aU _) ?_
  ·simp [n1,c_,m1,lW,m2,nQ,o1,qa,o2,qq,o3,qb]
  ·simp [n1,c_,m1,lW,m2,nQ,o1,qa,o2,qq,o3,qb,eF]
  ·simp [n1,c_,m1,lW,m2,nQ,o1,qa,o2,qq,o3,qb]
  ·simp [n1,c_,m1,lW,m2,nQ,o1,qa,o2,qq,o3,qb,eF]
  ·simp only [gM,aD,seval]
  rintro ⟨v,o,b,ps,r,dC,A⟩ Q2 ⟨x0,x1,xf,x2,x3,h1,h2,h3,h4,r1,r2,r3,r4,xd,hr⟩ hQ2
  simp only at x0 x1 xf x2 x3 h1 h2 h3 h4 r1 r2 r3 r4 xd hr hQ2 ⊢
  cases v with
  | succ v=>
   have gv:(((v+1:Nat):Int)>0)=True:=eq_true (by omega)
   have qv:sL [.int .i64 ((v+1:Nat):Int)]=some (.str (bQ (v+1))):=if_pos ⟨by omega,by omega⟩
   have hlv:(bQ (v+1)).length=1:=o7 (by omega)
   have nv:=(GI (i:=v+1) (by omega)).2.2.1
   generalize hV:((v+1:Nat):Int)=V at*
   have wv:IntKind.i64.wrap (V - 1)=(v:Int):=by rw [←hV,wrap_i64 (by omega) (by omega)]; omega
   rw [kn] at x3
   simp (maxSteps:=1000000) only [n1,c_,m1,lW,m2,nQ,o1,qa,o2,qq,o3,qb,h1,h2,h3,h4,gv,qv,bX,aB,aD,seval]
   have hrb:=b_ L (n:=3) (by decide) b
   refine ⟨i1,L,b,3,rfl,h1,by decide,by decide,?_⟩
   generalize b7 L 3 b=tq at hrb x3 ⊢
   obtain ⟨w,wa⟩:=tq
   simp only at hrb x3 ⊢
   have qw:GW [.int .i64 w]=some (.str (gx (w+1))):=if_pos ⟨by omega,by omega⟩
   have hty:=B2 (w+1)
   have l0:=x1.l0
   have l1:=x1.l1
   have l2:=x1.l2
   have hw:=uZ (s:=o) (x:=112::bQ (v+1)) (t:=w) ⟨by omega,by omega,by omega⟩
   simp only [OE] at hw
   by_cases vY:ps=[]
   ·have iC:(gM ps []==[])=true:=by rw [vY]; rfl
    simp (maxSteps:=1000000) only [n1,c_,m1,lW,m2,nQ,o1,qa,o2,qq,o3,qb,h1,h2,h3,h4,qv,qw,iC,bX,aB,aD,seval]
    repeat refine And.intro (by first | omega | (simp only [List.length_append,List.length_cons,List.length_nil]; omega)) ?_
    have Gp:(fA (ps.map fun p=>p.2 - 1)).length=ps.length:=by rw [fT,List.length_map]
    rw [xd,←Gp]
    refine Hz (sz:=1) (b:=8) (y:=[.int .i64 w]) (xs:=fA (ps.map fun p=>p.2 - 1)) (fun hz=>?_) ⟨rfl,rfl⟩ (by decide) (by rw [Gp]; omega) fun r' y1 y2=>?_
    ·have hz':ps≠[]:=fun e=>hz (by rw [e]; rfl)
     rw [Gp]
     simp only [aa.dN,r1,if_false]
     exact hr hz'
    have rr:r'≠i1∧r'≠i2∧r'≠i3∧r'≠i4:=by
     by_cases hz:fA (ps.map fun p=>p.2 - 1)=[]
     ·have f0:=y1 hz
      refine ⟨fun e=>?_,fun e=>?_,fun e=>?_,fun e=>?_⟩<;>(subst e; simp [n1,c_,m1,lW,m2,nQ,o1,qa,o2,qq,o3,qb,h1,h2,h3,h4] at f0)
     ·rw [y2 hz]; exact ⟨r1,r2,r3,r4⟩
    obtain ⟨u1,u2,u3,u4⟩:=rr
    have cc:bZ (kJ r' ((fA (ps.map fun p=>p.2 - 1)).length+1))=[kJ r' ((fA (ps.map fun p=>p.2 - 1)).length+1)]:=by rw [cB (by omega)]; rfl
    have VV:cf (kJ r' ((fA (ps.map fun p=>p.2 - 1)).length+1))=true:=by rw [cB (by omega)]; rfl
    have MG:¬i1=r':=fun e=>u1 e.symm
    have MH:¬i2=r':=fun e=>u2 e.symm
    have MI:¬i3=r':=fun e=>u3 e.symm
    have MJ:¬i4=r':=fun e=>u4 e.symm
    simp (maxSteps:=1000000) only [n1,c_,m1,lW,m2,nQ,o1,qa,o2,qq,o3,qb,h1,h2,h3,h4,u1,u2,u3,u4,MG,MH,MI,MJ,eF,hw,wv,VV,cc,bX,aB,aD,seval]
    refine hQ2 (v,o.with ([112]++bQ (v+1)) w,wa,ps++[([112]++bQ (v+1),w+1)],r',kJ r' ((fA (ps.map fun p=>p.2 - 1)).length+1),_) _ _ ⟨by simp only [List.length_append,List.length_cons,List.length_nil]; omega,(x1.le (show 13+v+1≤13+(v+1) by omega)).w nv.1 nv.2 w,?_,?_,by rw [x3]; simp,?_,?_,?_,?_,u1,u2,u3,u4,?_,fun _=>?_⟩ ?_ (aa.aU _) (by simp only; omega)
    ·show (o.with ([112]++bQ (v+1)) w).funcs=s.funcs
     rw [←xf]
     unfold Nm.with
     split<;>(try rfl)
     split<;>rfl
    ·rw [vY,List.nil_append,DS]
     simp only [List.length_append,List.length_cons,List.length_nil]
     omega
    ·simp [n1,c_,m1,lW,m2,nQ,o1,qa,o2,qq,o3,qb,u1,u2,u3,u4,MG,MH,MI,MJ]
    ·simp [n1,c_,m1,lW,m2,nQ,o1,qa,o2,qq,o3,qb,u1,u2,u3,u4,MG,MH,MI,MJ,h2,eF]
    ·simp [n1,c_,m1,lW,m2,nQ,o1,qa,o2,qq,o3,qb,u1,u2,u3,u4,MG,MH,MI,MJ]
    ·simp [n1,c_,m1,lW,m2,nQ,o1,qa,o2,qq,o3,qb,u1,u2,u3,u4,MG,MH,MI,MJ,eF]
    ·simp only [List.length_append,List.length_cons,List.length_nil,Gp]
    ·simp only [List.length_append,List.length_cons,List.length_nil,Gp,List.map_append,List.map_cons,List.map_nil,←CG]
     simp [n1,c_,m1,lW,m2,nQ,o1,qa,o2,qq,o3,qb,u1,u2,u3,u4,MG,MH,MI,MJ]
    ·simp only [aD,seval]
     rw [vY,List.nil_append,DS]
     simp [gM]
   ·have iC:=SG vY
    simp (maxSteps:=1000000) only [n1,c_,m1,lW,m2,nQ,o1,qa,o2,qq,o3,qb,h1,h2,h3,h4,qv,qw,iC,bX,aB,aD,seval]
    repeat refine And.intro (by first | omega | (simp only [List.length_append,List.length_cons,List.length_nil]; omega)) ?_
    have Gp:(fA (ps.map fun p=>p.2 - 1)).length=ps.length:=by rw [fT,List.length_map]
    rw [xd,←Gp]
    refine Hz (sz:=1) (b:=8) (y:=[.int .i64 w]) (xs:=fA (ps.map fun p=>p.2 - 1)) (fun hz=>?_) ⟨rfl,rfl⟩ (by decide) (by rw [Gp]; omega) fun r' y1 y2=>?_
    ·have hz':ps≠[]:=fun e=>hz (by rw [e]; rfl)
     rw [Gp]
     simp only [aa.dN,r1,if_false]
     exact hr hz'
    have rr:r'≠i1∧r'≠i2∧r'≠i3∧r'≠i4:=by
     by_cases hz:fA (ps.map fun p=>p.2 - 1)=[]
     ·have f0:=y1 hz
      refine ⟨fun e=>?_,fun e=>?_,fun e=>?_,fun e=>?_⟩<;>(subst e; simp [n1,c_,m1,lW,m2,nQ,o1,qa,o2,qq,o3,qb,h1,h2,h3,h4] at f0)
     ·rw [y2 hz]; exact ⟨r1,r2,r3,r4⟩
    obtain ⟨u1,u2,u3,u4⟩:=rr
    have cc:bZ (kJ r' ((fA (ps.map fun p=>p.2 - 1)).length+1))=[kJ r' ((fA (ps.map fun p=>p.2 - 1)).length+1)]:=by rw [cB (by omega)]; rfl
    have VV:cf (kJ r' ((fA (ps.map fun p=>p.2 - 1)).length+1))=true:=by rw [cB (by omega)]; rfl
    have MG:¬i1=r':=fun e=>u1 e.symm
    have MH:¬i2=r':=fun e=>u2 e.symm
    have MI:¬i3=r':=fun e=>u3 e.symm
    have MJ:¬i4=r':=fun e=>u4 e.symm
    simp (maxSteps:=1000000) only [n1,c_,m1,lW,m2,nQ,o1,qa,o2,qq,o3,qb,h1,h2,h3,h4,u1,u2,u3,u4,MG,MH,MI,MJ,eF,hw,wv,VV,cc,bX,aB,aD,seval]
    refine hQ2 (v,o.with ([112]++bQ (v+1)) w,wa,ps++[([112]++bQ (v+1),w+1)],r',kJ r' ((fA (ps.map fun p=>p.2 - 1)).length+1),_) _ _ ⟨by simp only [List.length_append,List.length_cons,List.length_nil]; omega,(x1.le (show 13+v+1≤13+(v+1) by omega)).w nv.1 nv.2 w,?_,?_,by rw [x3]; simp,?_,?_,?_,?_,u1,u2,u3,u4,?_,fun _=>?_⟩ ?_ (aa.aU _) (by simp only; omega)
    ·show (o.with ([112]++bQ (v+1)) w).funcs=s.funcs
     rw [←xf]
     unfold Nm.with
     split<;>(try rfl)
     split<;>rfl
    ·rw [zF vY]
     simp only [List.length_append,List.length_cons,List.length_nil]
     omega
    ·simp [n1,c_,m1,lW,m2,nQ,o1,qa,o2,qq,o3,qb,u1,u2,u3,u4,MG,MH,MI,MJ]
    ·simp [n1,c_,m1,lW,m2,nQ,o1,qa,o2,qq,o3,qb,u1,u2,u3,u4,MG,MH,MI,MJ,h2,eF]
    ·simp [n1,c_,m1,lW,m2,nQ,o1,qa,o2,qq,o3,qb,u1,u2,u3,u4,MG,MH,MI,MJ]
    ·simp [n1,c_,m1,lW,m2,nQ,o1,qa,o2,qq,o3,qb,u1,u2,u3,u4,MG,MH,MI,MJ,eF]
    ·simp only [List.length_append,List.length_cons,List.length_nil,Gp]
    ·simp only [List.length_append,List.length_cons,List.length_nil,Gp,List.map_append,List.map_cons,List.map_nil,←CG]
     simp [n1,c_,m1,lW,m2,nQ,o1,qa,o2,qq,o3,qb,u1,u2,u3,u4,MG,MH,MI,MJ]
    ·simp only [aD,seval]
     rw [zF vY]
     simp
  | zero=>
   rw [kn,List.append_nil] at x3
   rw [x3] at j3
   simp only at j3 x0 x1
   have hP:jT A r dC (ps.map fun p=>p.2 - 1):=by
    by_cases vY:ps=[]
    ·subst vY
     exact .inl ⟨xd,rfl⟩
    ·refine .inr ⟨by rw [xd,cB (fun e=>vY (List.length_eq_zero_iff.1 e)),List.length_map],false,?_⟩
     rw [List.length_map]
     exact hr vY
   have Gq:(ps.map fun p=>p.2 - 1).length≤2:=by rw [List.length_map]; omega
   have hxl:(gM ps []).length≤80:=by omega
   generalize Ry:(ps.map fun p=>p.2 - 1)=pl at hP Gq j3
   have VV:=hP.ok
   have VW:=hP.j5
   have r1':¬i1=r:=fun e=>r1 e.symm
   have r2':¬i2=r:=fun e=>r2 e.symm
   have r3':¬i3=r:=fun e=>r3 e.symm
   have r4':¬i4=r:=fun e=>r4 e.symm
   clear hr xd x2 x3 hQ2
   simp (maxSteps:=1000000) only [n1,c_,m1,lW,m2,nQ,o1,qa,o2,qq,o3,qb,h1,h2,h3,h4,bX,aB,aD,seval]
   refine ⟨i1,L,b,5,rfl,h1,by decide,by decide,?_⟩
   generalize b7 L 5 b=tq at j3 ⊢
   obtain ⟨w,wa⟩:=tq
   simp only at j3 ⊢
   have ZQ:(dP o.funcs).length≤20:=by rw [fm,xf]; omega
   have nF:qu { o with funcs:=o.funcs++[⟨[102]++bQ (i+1),t,pl⟩] } 13:=x1.Yd nm.1 nm.2 Gq (by rw [fm] at ZQ; omega)
   have qt:GW [.int .i64 t]=some (.str (gx (t+1))):=if_pos ⟨by omega,by omega⟩
   have hty:=B2 (t+1)
   by_cases hw4:w=4
   UB
   ·rw [if_neg hw4] at j3
    have bw:(w==4)=false:=by simpa using hw4
    simp (maxSteps:=1000000) only [n1,c_,m1,lW,m2,nQ,o1,qa,o2,qq,o3,qb,h1,h2,h3,h4,bw,qt,eF,bX,aB,aD,seval]
    repeat refine And.intro (by first | omega | (simp only [List.length_append,List.length_cons,List.length_nil]; omega)) ?_
    obtain ⟨oo,LL⟩:∃oo,oo=o:=⟨_,rfl⟩
    rw [←LL] at j3
    have hz:qu oo 13:=by rw [LL]; exact x1
    obtain ⟨q,hq⟩:∃q,q=r:=⟨_,rfl⟩
    rw [←hq] at hP r1 r2 r3 r4
    generalize hM:A.set i1 (nf L wa)=M
    have qp:M.f i1=some (nf L wa):=by rw [←hM]; simp
    have M6:M.f i2=some (eF s):=by rw [←hM]; simp [n1,h2]
    have VN:M.f i3=some (.cells [.str (102::bQ (i+1)),.int .i64 t,dC]):=by rw [←hM]; simp [m1,h3]
    have xQ:M.f i4=some (eF oo):=by rw [←hM,LL]; simp [o1,h4]
    have F6:jT M q dC pl:=hP.of_eq (by rw [←hM]; simp [r1])
    have xK:=r1
    have Ix:=r2
    have UA:=r3
    have W0:=r4
    refine ⟨i1,L,wa,oo,2,false,by rw [LL]; rfl,by decide,by decide,qp,hz.le (by decide),?_⟩
    clear LL
    have hb:(GS.c7 10 (dH L false 2 oo wa).1 []).length≤38829:=gY 2 (by decide) oo wa hz.ok (by have:=hz.fr; omega)
    generalize dH L false 2 oo wa=X at hb j3 ⊢
    obtain ⟨bl,cb⟩:=X
    simp only at hb j3 ⊢
    simp (maxSteps:=1000000) only [n1,c_,m1,lW,m2,nQ,o1,qa,o2,qq,o3,qb,qp,M6,VN,xQ,bX,aB,aD,seval]
    repeat refine And.intro (by first | omega | (simp only [List.length_append,List.length_cons,List.length_nil]; omega)) ?_
    refine ⟨i1,L,cb,i4,oo,_,_,_,_,t,3,rfl,by omega,by omega,by simp,BB (by simp [o1,xQ]),hz.sm,?_⟩
    have he:((bU L oo 3 t cb).1.tx []).length≤292:=eQ (L:=L) hz.ok 3 t cb
    generalize bU L oo 3 t cb=X at he j3 ⊢
    obtain ⟨e,ce⟩:=X
    simp only at he j3 ⊢
    simp (maxSteps:=1000000) only [n1,c_,m1,lW,m2,nQ,o1,qa,o2,qq,o3,qb,qp,M6,VN,xQ,VV,VW,eF,bX,aB,aD,seval]
    repeat refine And.intro (by first | omega | (simp only [List.length_append,List.length_cons,List.length_nil]; omega)) ?_
    intro i5 p1g DO k5
    have Uu:¬i2=i5:=fun e=>by rw [←e,M6] at k5; cases k5
    have WY:¬i3=i5:=fun e=>by rw [←e,VN] at k5; cases k5
    have p4g:¬i4=i5:=fun e=>by rw [←e,xQ] at k5; cases k5
    obtain ⟨q,hq,xK,Ix,UA,W0,GX⟩:=F6.VH xK Ix UA W0 k5
    have g5:((M.set i1 (nf L ce)).set i5 (.row 3 (2+(dP s.funcs).length+1) (dP s.funcs++[[.str (102::bQ (i+1)),.int .i64 t,fc dC]]) false)).f i5=some (.row 3 (2+(dP s.funcs).length+1) (dP s.funcs++[[.str (102::bQ (i+1)),.int .i64 t,fc dC]]) false):=by simp
    have Ud:jT ((M.set i1 (nf L ce)).set i5 (.row 3 (2+(dP s.funcs).length+1) (dP s.funcs++[[.str (102::bQ (i+1)),.int .i64 t,fc dC]]) false)) q dC pl:=hq.of_eq (by simp [xK,GX])
    have e1:=sK (n:=(dP s.funcs).length+1) g5 Ud (by rw [fm])
    obtain ⟨B,e2,hB,hPB⟩:=Be (n:=(dP s.funcs).length+1) g5 Ud GX
    have b1:B.f i1=some (nf L ce):=by rw [hB i1 DO xK.symm]; simp [DO]
    have b2:B.f i2=some (eF s):=by rw [hB i2 Uu Ix.symm]; simp [n1,Uu,M6]
    have hsl:(dP s.funcs).length≤20:=by rw [fm]; omega
    simp (maxSteps:=1000000) only [WY,e1,e2,b2,eF,wi,bX,aB,aD,seval]
    refine ⟨pV,by omega,by omega,?_⟩
    refine hQ (i,{ s with funcs:=s.funcs++[⟨102::bQ (i+1),t,pl⟩] },ce,done++[.func ([102]++bQ (i+1)) ps (t+1) (bl++[.ret e])]) _ _ ⟨by omega,j1.Yd nm.1 nm.2 Gq (by omega),by simp only [List.length_append,List.length_cons,List.length_nil]; omega,?_,by rw [j3]; simp⟩ ?_ ?_ (by simp only; omega)
    ·rw [fu,u9]
     simp only [List.length_append,List.length_cons,List.length_nil]
     omega
    ·simp only [aD,seval]
     rw [fu,u9]
     simp
    ·exact II (by simp [c_,b1]) (by simp [eF])
   ·rw [if_pos hw4] at j3
    subst hw4
    simp (maxSteps:=1000000) only [n1,c_,m1,lW,m2,nQ,o1,qa,o2,qq,o3,qb,h1,h2,h3,h4,VV,VW,eF,bX,aB,aD,seval]
    intro i5 p1g DO k5
    have Uu:¬i2=i5:=fun e=>by rw [←e,h2] at k5; cases k5
    have WY:¬i3=i5:=fun e=>by rw [←e,h3] at k5; cases k5
    have p4g:¬i4=i5:=fun e=>by rw [←e,h4] at k5; cases k5
    obtain ⟨q,hq,xK,Ix,UA,W0,GX⟩:=hP.VH r1 r2 r3 r4 k5
    have g5:((A.set i1 (nf L wa)).set i5 (.row 3 (2+(dP o.funcs).length+1) (dP o.funcs++[[.str (102::bQ (i+1)),.int .i64 t,fc dC]]) false)).f i5=some (.row 3 (2+(dP o.funcs).length+1) (dP o.funcs++[[.str (102::bQ (i+1)),.int .i64 t,fc dC]]) false):=by simp
    have Ud:jT ((A.set i1 (nf L wa)).set i5 (.row 3 (2+(dP o.funcs).length+1) (dP o.funcs++[[.str (102::bQ (i+1)),.int .i64 t,fc dC]]) false)) q dC pl:=hq.of_eq (by simp [xK,GX])
    have e1:=sK (n:=(dP o.funcs).length+1) g5 Ud (by rw [fm])
    obtain ⟨B,e2,hB,hPB⟩:=Be (n:=(dP o.funcs).length+1) g5 Ud GX
    have b1:B.f i1=some (nf L wa):=by rw [hB i1 DO xK.symm]; simp [DO]
    have b2:B.f i2=some (eF s):=by rw [hB i2 Uu Ix.symm]; simp [n1,Uu,h2]
    have b3:B.f i3=some (.cells [.str ([102]++bQ (i+1)),.int .i64 t,dC]):=by rw [hB i3 WY UA.symm]; simp [m1,WY,h3]
    have b4:B.f i4=some (eF o):=by rw [hB i4 p4g W0.symm]; simp [o1,p4g,h4]
    simp (maxSteps:=1000000) only [WY,e1,e2,b3,b4,eF,o3,qb,qt,bX,aB,aD,seval]
    refine ⟨pV,by omega,by omega,?_⟩
    repeat refine And.intro (by first | omega | (simp only [List.length_append,List.length_cons,List.length_nil]; omega)) ?_
    obtain ⟨oo,LL⟩:∃oo,oo=({ o with funcs:=o.funcs++[⟨[102]++bQ (i+1),t,pl⟩] }:Nm):=⟨_,rfl⟩
    rw [←LL] at j3
    have hz:qu oo 13:=by rw [LL]; exact nF
    generalize hM:B.set i4 _=M
    have qp:M.f i1=some (nf L wa):=by rw [←hM]; simp [qa,b1]
    have M6:M.f i2=some (eF s):=by rw [←hM]; simp [qq,b2]
    have VN:M.f i3=some (.cells [.str (102::bQ (i+1)),.int .i64 t,dC]):=by rw [←hM]; simp [qb,b3]
    have xQ:M.f i4=some (eF oo):=by rw [←hM,LL]; simp [eF]
    have F6:jT M q dC pl:=hPB.of_eq (by rw [←hM]; simp [W0])
    refine ⟨i1,L,wa,oo,2,false,by rw [LL]; rfl,by decide,by decide,qp,hz.le (by decide),?_⟩
    clear LL
    have hb:(GS.c7 10 (dH L false 2 oo wa).1 []).length≤38829:=gY 2 (by decide) oo wa hz.ok (by have:=hz.fr; omega)
    generalize dH L false 2 oo wa=X at hb j3 ⊢
    obtain ⟨bl,cb⟩:=X
    simp only at hb j3 ⊢
    simp (maxSteps:=1000000) only [n1,c_,m1,lW,m2,nQ,o1,qa,o2,qq,o3,qb,qp,M6,VN,xQ,bX,aB,aD,seval]
    repeat refine And.intro (by first | omega | (simp only [List.length_append,List.length_cons,List.length_nil]; omega)) ?_
    refine ⟨i1,L,cb,i4,oo,_,_,_,_,t,3,rfl,by omega,by omega,by simp,BB (by simp [o1,xQ]),hz.sm,?_⟩
    have he:((bU L oo 3 t cb).1.tx []).length≤292:=eQ (L:=L) hz.ok 3 t cb
    generalize bU L oo 3 t cb=X at he j3 ⊢
    obtain ⟨e,ce⟩:=X
    simp only at he j3 ⊢
    simp (maxSteps:=1000000) only [n1,c_,m1,lW,m2,nQ,o1,qa,o2,qq,o3,qb,qp,M6,VN,xQ,VV,VW,eF,bX,aB,aD,seval]
    repeat refine And.intro (by first | omega | (simp only [List.length_append,List.length_cons,List.length_nil]; omega)) ?_
    intro i5 p1g DO k5
    have Uu:¬i2=i5:=fun e=>by rw [←e,M6] at k5; cases k5
    have WY:¬i3=i5:=fun e=>by rw [←e,VN] at k5; cases k5
    have p4g:¬i4=i5:=fun e=>by rw [←e,xQ] at k5; cases k5
    obtain ⟨q,hq,xK,Ix,UA,W0,GX⟩:=F6.VH xK Ix UA W0 k5
    have g5:((M.set i1 (nf L ce)).set i5 (.row 3 (2+(dP s.funcs).length+1) (dP s.funcs++[[.str (102::bQ (i+1)),.int .i64 t,fc dC]]) false)).f i5=some (.row 3 (2+(dP s.funcs).length+1) (dP s.funcs++[[.str (102::bQ (i+1)),.int .i64 t,fc dC]]) false):=by simp
    have Ud:jT ((M.set i1 (nf L ce)).set i5 (.row 3 (2+(dP s.funcs).length+1) (dP s.funcs++[[.str (102::bQ (i+1)),.int .i64 t,fc dC]]) false)) q dC pl:=hq.of_eq (by simp [xK,GX])
    have e1:=sK (n:=(dP s.funcs).length+1) g5 Ud (by rw [fm])
    obtain ⟨B,e2,hB,hPB⟩:=Be (n:=(dP s.funcs).length+1) g5 Ud GX
    have b1:B.f i1=some (nf L ce):=by rw [hB i1 DO xK.symm]; simp [DO]
    have b2:B.f i2=some (eF s):=by rw [hB i2 Uu Ix.symm]; simp [n1,Uu,M6]
    have hsl:(dP s.funcs).length≤20:=by rw [fm]; omega
    simp (maxSteps:=1000000) only [WY,e1,e2,b2,eF,wi,bX,aB,aD,seval]
    refine ⟨pV,by omega,by omega,?_⟩
    refine hQ (i,{ s with funcs:=s.funcs++[⟨102::bQ (i+1),t,pl⟩] },ce,done++[.func ([102]++bQ (i+1)) ps (t+1) (bl++[.ret e])]) _ _ ⟨by omega,j1.Yd nm.1 nm.2 Gq (by omega),by simp only [List.length_append,List.length_cons,List.length_nil]; omega,?_,by rw [j3]; simp⟩ ?_ ?_ (by simp only; omega)
    ·rw [fu,u9]
     simp only [List.length_append,List.length_cons,List.length_nil]
     omega
    ·simp only [aD,seval]
     rw [fu,u9]
     simp
    ·exact II (by simp [c_,b1]) (by simp [eF])
 | zero=>
  rw [gE] at j3
  rw [List.append_nil] at j3
  have k:=k _ rfl
  rw [j3] at k
  simp only at k
  simp (maxSteps:=1000000) only [n1,c_,eF,bX,aB,aD,seval]
  exact MB L i1 i2 n1 c_ s (j1.le (by decide)) c (out++cC 10 done) (by simp only [List.length_append]; omega) E _ (by simp only [aD,seval]) (by simp only [aD,seval]) (by simp only [aD,seval]) (by simp only [aD,seval]) R k
end
end Go.Proofs.YtpklkpkfgmoghaaGreatDoor.Zz
namespace Go.Proofs.YtpklkpkfgmoghaaGreatDoor.Zz
noncomputable section
theorem Ht (s:Nm) (x:List UInt8) (t:Int):(s.with x t).funcs=s.funcs:=by unfold Nm.with; split<;>(try rfl); split<;>rfl
theorem Pw (L:List Int):aO Tryz.prog 5 [.sl (fA L)] (.str (gR L)):=by
 refine aO.run TE afg (by simp) fun E=>?_
 simp (maxSteps:=1000000) only [RE,bX,aB,aD,seval]
 intro i1 i2 n1 c_
 refine ⟨i1,L,0,3,rfl,by simp [c_,nf],by decide,by decide,?_⟩
 have Uf:=b_ L (n:=3) (by decide) 0
 unfold gR jB
 rw [show (⟨[],[],[],[],0⟩:Nm)=WN from rfl]
 generalize b7 L 3 0=nb at Uf ⊢
 obtain ⟨n0,b0⟩:=nb
 simp only at Uf ⊢
 obtain ⟨n,rfl⟩:∃n:Nat,n0=(n:Int):=⟨n0.toNat,by omega⟩
 rw [Int.toNat_natCast]
 simp (maxSteps:=1000000) only [n1,c_,bX,aB,aD,seval]
 refine c6 (X:=Nat×Nm×Nat×List GD) (fun z=>[(3,.ptr i1 1 0),(4,.ptr i2 1 0),(5,.str (cC 10 z.2.2.2)),(6,.int .i64 (z.1:Int))]) (fun z=>(aa.emp.set i2 (eF z.2.1)).set i1 (nf L z.2.2.1)) (fun z=>z.1)
  (fun z=>z.1≤2∧qu z.2.1 (16+z.1)∧z.2.1.funcs=[]∧(cC 10 z.2.2.2).length+1000*z.1≤10000∧kC L n WN b0=(z.2.2.2++(kC L z.1 z.2.1 z.2.2.1).1,(kC L z.1 z.2.1 z.2.2.1).2.1,(kC L z.1 z.2.1 z.2.2.1).2.2)) (n,WN,b0,[])
  ⟨by omega,?_,rfl,by rw [cC]; simp; omega,rfl⟩ (by simp only [cC,aD,seval]) ?_ ?_
 ·refine ⟨⟨fun t x hx=>?_,fun f hf=>by cases hf⟩,by simp [WN],?_,?_,?_,?_⟩
  ·unfold Nm.of at hx; split at hx<;>(try split at hx)<;>cases hx
  bf (simp only [WN,List.length_nil]; omega)
 ·exact aa.dV (by repeat' first | ax exact aa.bK | ax exact aa.bO | refine aa.cU (by simp [n1,c_,eF,WN,cM,dP]) ?_ | refine aa.cZ (by simp [n1,c_,eF,WN,cM,dP]) ?_)
 rintro ⟨i,s,a,done⟩ Q ⟨j0,j1,jf,j2,j3⟩ hQ
 simp only at j0 j1 jf j2 j3 hQ ⊢
 cases i with
 | succ i=>
  have g:(((i+1:Nat):Int)>0)=True:=eq_true (by omega)
  have xK:sL [.int .i64 ((i+1:Nat):Int)]=some (.str (bQ (i+1))):=if_pos ⟨by omega,by omega⟩
  have nm:=(GI (i:=i+1) (by omega)).1
  have hl:(bQ (i+1)).length=1:=o7 (by omega)
  generalize hI:((i+1:Nat):Int)=I at*
  have wi:IntKind.i64.wrap (I - 1)=(i:Int):=by rw [←hI,wrap_i64 (by omega) (by omega)]; omega
  rw [kC] at j3
  simp (maxSteps:=1000000) only [n1,c_,g,xK,bX,aB,aD,seval]
  refine ⟨i1,L,a,3,rfl,by simp,by decide,by decide,?_⟩
  have hr:=b_ L (n:=3) (by decide) a
  generalize b7 L 3 a=tq at hr j3 ⊢
  obtain ⟨t,ta⟩:=tq
  simp only at hr j3 ⊢
  have Ix:GW [.int .i64 t]=some (.str (gx (t+1))):=if_pos ⟨by omega,by omega⟩
  have hty:=B2 (t+1)
  simp (maxSteps:=1000000) only [n1,c_,xK,Ix,bX,aB,aD,seval]
  repeat refine And.intro (by first | omega | (simp only [List.length_append,List.length_cons,List.length_nil]; omega)) ?_
  refine ⟨i1,L,ta,t,rfl,by simp,?_⟩
  have he:((nP L t ta).1.tx []).length≤19:=Bs L t ta
  generalize nP L t ta=X at he j3 ⊢
  obtain ⟨e,ce⟩:=X
  simp only at he j3 ⊢
  have l0:=j1.l0
  have l1:=j1.l1
  have l2:=j1.l2
  have hw:=uZ (s:=s) (x:=103::bQ (i+1)) (t:=t) ⟨by omega,by omega,by omega⟩
  simp only [OE] at hw
  simp (maxSteps:=1000000) only [n1,c_,wi,hw,eF,bX,aB,aD,seval]
  repeat refine And.intro (by first | omega | (simp only [List.length_append,List.length_cons,List.length_nil]; omega)) ?_
  refine hQ (i,s.with ([103]++bQ (i+1)) t,ce,done++[.var ([103]++bQ (i+1)) (t+1) e]) _ _ ⟨by omega,(j1.le (show 16+i+1≤16+(i+1) by omega)).w nm.1 nm.2 t,by show (s.with _ t).funcs=[]; rw [Ht]; exact jf,?_,by rw [j3]; simp⟩ ?_ ?_ (by simp only; omega)
  ·rw [fu,Q9]
   simp only [List.length_append,List.length_cons,List.length_nil]
   omega
  ·simp only [aD,seval]
   rw [fu,Q9]
   simp
  ·exact aa.dV (by repeat' first | ax exact aa.bK | ax exact aa.bO | refine aa.cU (by simp [n1,c_,eF]) ?_ | refine aa.cZ (by simp [n1,c_,eF]) ?_)
 | zero=>
  rw [kC] at j3
  rw [j3]
  simp (maxSteps:=1000000) only [n1,c_,eF,bX,aB,aD,seval]
  refine LB L i1 i2 n1 c_ s (j1.le (by omega)) ?_ a (cC 10 done) (by omega) E _ (by simp only [aD,seval]) (by simp only [aD,seval]) (by simp only [aD,seval]) (by simp only [aD,seval]) (fun o _=>o=_) fun f hf=>?_
  ·rw [jf]; decide
  ·rw [hf,fu,fu]
def GX:List D→Option D
 | [.sl xs]=>match Lx xs with
  | some L=>some (.str (gR L))
  | none=>none
 | _=>none
theorem W4 (args:List D) (d:D) (h:GX args=some d):aO Tryz.prog 5 args d:=by
 unfold GX at h
 split at h
 ·split at h
  ·ab L e
   cases yD e
   cases h
   exact Pw L
  ·cases h
 ·cases h
theorem W3 (L:List Int):GX [.sl (fA L)]=some (.str (gR L)):=by
 simp only [GX,NI]
end
end Go.Proofs.YtpklkpkfgmoghaaGreatDoor.Zz
namespace Go.Proofs.YtpklkpkfgmoghaaGreatDoor.Zz
noncomputable section
theorem B1 (L:List Int) (a:Nat):B0 ((b7 L 3 a).1+1):=by
 have:=b_ L (n:=3) (by decide) a
 unfold B0
 omega
theorem FC {L:List Int}:∀(i:Nat),i≤2→∀(s:Nm) (a:Nat),gT s→s.fresh=0→(∀D∈(kC L i s a).1,Dd D 0)∧(kC L i s a).1.length=i∧gT (kC L i s a).2.1∧(kC L i s a).2.1.fresh=0
 | 0,hi,s,a,hs,hf=>⟨(fun D h=>by rw [kC] at h; cases h),rfl,hs,hf⟩
 | i+1,hi,s,a,hs,hf=>by
  have nm:=(GI (i:=i+1) (by omega)).1
  have h1:=hs.with nm.1 nm.2 (b7 L 3 a).1
  obtain ⟨wN,wO,q3p,q4p⟩:=FC i (by omega) _ (nP L (b7 L 3 a).1 (b7 L 3 a).2).2 h1 (by rw [gk]; exact hf)
  rw [kC]
  refine ⟨fun D h=>?_,by simp only [List.length_cons,wO],q3p,q4p⟩
  rcases List.mem_cons.1 h with rfl | h
  ·exact X4 nm.1 nm.2 (B1 L a) (Br L _ _)
  ·exact wN D h
theorem DT {L:List Int}:∀(i:Nat),i≤2→∀(s:Nm) (a:Nat),gT s→s.fresh=0→(∀p∈(kn L i s a).1,fB p.1∧2≤p.1.length∧B0 p.2)∧(kn L i s a).1.length=i∧gT (kn L i s a).2.1∧(kn L i s a).2.1.fresh=0
 | 0,hi,s,a,hs,hf=>⟨(fun D h=>by rw [kn] at h; cases h),rfl,hs,hf⟩
 | i+1,hi,s,a,hs,hf=>by
  have nm:=(GI (i:=i+1) (by omega)).2.2.1
  have h1:=hs.with nm.1 nm.2 (b7 L 3 a).1
  obtain ⟨wN,wO,q3p,q4p⟩:=DT i (by omega) _ (b7 L 3 a).2 h1 (by rw [gk]; exact hf)
  rw [kn]
  refine ⟨fun p h=>?_,by simp only [List.length_cons,wO],q3p,q4p⟩
  rcases List.mem_cons.1 h with rfl | h
  ·exact ⟨nm.1,nm.2,B1 L a⟩
  ·exact wN p h
theorem gT.Yd {s:Nm} (h:gT s) {f:Fn} (h1:fB f.name) (h2:2≤f.name.length) (h3:f.params.length≤2):gT { s with funcs:=s.funcs++[f] }:=⟨h.var,fun g hg=>by
 rcases List.mem_append.1 hg with hg | hg
 ·exact h.fn g hg
 ·rw [List.mem_singleton.1 hg]; exact ⟨h1,h2,h3⟩⟩
theorem yZ {L:List Int}:∀(i:Nat),i≤3→∀(s:Nm) (a:Nat),gT s→s.fresh=0→(∀D∈(gE L i s a).1,Dd D 0∧D.isVar=false)∧(gE L i s a).1.length=i∧gT (gE L i s a).2.1∧(gE L i s a).2.1.fresh=0
 | 0,hi,s,a,hs,hf=>⟨(fun D h=>by rw [gE] at h; cases h),rfl,hs,hf⟩
 | i+1,hi,s,a,hs,hf=>by
  have nm:=(GI (i:=i+1) (by omega)).2.1
  have hn:=b_ L (n:=3) (by decide) (b7 L 3 a).2
  obtain ⟨Ut,p2p,p3p,p4p⟩:=DT (L:=L) (b7 L 3 (b7 L 3 a).2).1.toNat (by omega) s (b7 L 3 (b7 L 3 a).2).2 hs hf
  rw [gE]
  simp only
  generalize kn L (b7 L 3 (b7 L 3 a).2).1.toNat s (b7 L 3 (b7 L 3 a).2).2=ps at Ut p2p p3p p4p ⊢
  have hlen:(ps.1.map fun p=>p.2 - 1).length≤2:=by rw [List.length_map,p2p]; omega
  generalize hF:(⟨[102]++bQ (i+1),(b7 L 3 a).1,ps.1.map fun p=>p.2 - 1⟩:Fn)=F
  have f1:fB F.name:=by rw [←hF]; exact nm.1
  have f2:2≤F.name.length:=by rw [←hF]; exact nm.2
  have f3:F.params.length≤2:=by rw [←hF]; exact hlen
  have ho:gT (if (b7 L 5 ps.2.2).1=4 then { ps.2.1 with funcs:=ps.2.1.funcs++[F] } else ps.2.1)∧(if (b7 L 5 ps.2.2).1=4 then { ps.2.1 with funcs:=ps.2.1.funcs++[F] } else ps.2.1:Nm).fresh=0:=by
   split
   ·exact ⟨p3p.Yd f1 f2 f3,p4p⟩
   ·exact ⟨p3p,p4p⟩
  generalize (if (b7 L 5 ps.2.2).1=4 then { ps.2.1 with funcs:=ps.2.1.funcs++[F] } else ps.2.1:Nm)=o at ho
  obtain ⟨wN,wO,q3p,q4p⟩:=yZ i (by omega) { s with funcs:=s.funcs++[F] } (bU L o 3 (b7 L 3 a).1 (dH L false 2 o (b7 L 5 ps.2.2).2).2).2 (hs.Yd f1 f2 f3) hf
  refine ⟨fun D h=>?_,by simp only [List.length_cons,wO],q3p,q4p⟩
  rcases List.mem_cons.1 h with rfl | h
  ·exact ⟨R2 nm.1 nm.2 Ut (by rw [p2p]; omega) (B1 L a) (si 2 (by omega) _ _ ho.1 (by rw [ho.2]; omega)) (nI ho.1 3 (by omega) _ _),rfl⟩
  ·exact wN D h
theorem Al {L:List Int}:∀(i:Nat),i≤3→∀(s:Nm) (a:Nat),gT s→s.fresh=0→(∀D∈(iz L i s a).1,Dd D 256∧D.isVar=false)∧(iz L i s a).1.length=i
 | 0,hi,s,a,hs,hf=>⟨(fun D h=>by rw [iz] at h; cases h),rfl⟩
 | i+1,hi,s,a,hs,hf=>by
  have nm:=(GI (i:=i+1) (by omega)).2.2.2
  obtain ⟨wN,wO⟩:=Al i (by omega) s (bU L s 3 2 (dH L true 2 s a).2).2 hs hf
  rw [iz]
  refine ⟨fun D h=>?_,by simp only [List.length_cons]; rw [wO]⟩
  rcases List.mem_cons.1 h with rfl | h
  ·exact ⟨TG nm.1 nm.2 (si 2 (by omega) _ _ hs (by rw [hf]; omega)) (nI hs 3 (by omega) _ _),rfl⟩
  ·exact wN D h
theorem Dd.zero {D:GD} {x:Nat} (h:Dd D x):Dd D 0:=⟨h.ok,h.dn,h.dG,fun r=>by have:=h.wt r; omega⟩
theorem aca:∀(l:List GD),(∀D∈l,Dd D 0)→256*Nd.fJ (l.map GD.nd)≤125*(cC 10 l).length
 | [],h=>by rw [List.map_nil,aZ]; omega
 | D::l,h=>by
  have h1:=(h D (by simp)).wt (cC 10 l)
  have h2:=aca l fun E hE=>h E (by simp [hE])
  rw [List.map_cons,aS,cC]
  omega
theorem acb:∀(l:List GD),(∀D∈l,Dd D 0)→(∃D∈l,Dd D 256)→256*Nd.fJ (l.map GD.nd)+256≤125*(cC 10 l).length
 | [],h,⟨D,hD,_⟩=>by cases hD
 | D::l,h,⟨E,hE,hx⟩=>by
  have h1:=(h D (by simp)).wt (cC 10 l)
  have h0:=aca l fun E hE=>h E (by simp [hE])
  rw [List.map_cons,aS,cC]
  rcases List.mem_cons.1 hE with rfl | hE
  ·have:=hx.wt (cC 10 l)
   omega
  ·have h2:=acb l (fun E hE=>h E (by simp [hE])) ⟨E,hE,hx⟩
   omega
theorem n8 (L:List Int):(∀D∈jB L,Dd D 0)∧Bh (jB L)≤16∧Bf (jB L)≤32∧(∃D∈jB L,Dd D 256):=by
 have n0:gT ⟨[],[],[],[],0⟩:=⟨(fun t x h=>by unfold Nm.of at h; split at h<;>(try split at h)<;>cases h),(fun f h=>by cases h)⟩
 have r1:=b_ L (n:=3) (by decide) 0
 obtain ⟨v1,v2,v3,v4⟩:=FC (L:=L) (b7 L 3 0).1.toNat (by omega) ⟨[],[],[],[],0⟩ (b7 L 3 0).2 n0 rfl
 unfold jB
 simp only
 generalize kC L (b7 L 3 0).1.toNat ⟨[],[],[],[],0⟩ (b7 L 3 0).2=V at v1 v2 v3 v4 ⊢
 have r2:=b_ L (n:=3) (by decide) V.2.2
 obtain ⟨f1,f2,f3,f4⟩:=yZ (L:=L) ((b7 L 3 V.2.2).1.toNat+1) (by omega) V.2.1 (b7 L 3 V.2.2).2 v3 v4
 generalize gE L ((b7 L 3 V.2.2).1.toNat+1) V.2.1 (b7 L 3 V.2.2).2=F at f1 f2 f3 f4 ⊢
 have r3:=b_ L (n:=3) (by decide) F.2.2
 obtain ⟨t1,t2⟩:=Al (L:=L) ((b7 L 3 F.2.2).1.toNat+1) (by omega) F.2.1 (b7 L 3 F.2.2).2 f3 f4
 generalize (iz L ((b7 L 3 F.2.2).1.toNat+1) F.2.1 (b7 L 3 F.2.2).2).1=T at t1 t2 ⊢
 refine ⟨fun D h=>?_,?_,?_,?_⟩
 ·rcases List.mem_append.1 h with h | h
  ·rcases List.mem_append.1 h with h | h
   ·exact v1 D h
   ·exact (f1 D h).1
  ·exact (t1 D h).1.zero
 ·unfold Bh
  rw [List.filter_append,List.filter_append,(List.filter_eq_nil_iff (p:=GD.isVar) (l:=F.1)).2 (fun D h=>by rw [(f1 D h).2]; simp),(List.filter_eq_nil_iff (p:=GD.isVar) (l:=T)).2 (fun D h=>by rw [(t1 D h).2]; simp)]
  have:=List.length_filter_le GD.isVar V.1
  simp only [List.append_nil]
  omega
 ·unfold Bf
  have:=List.length_filter_le (fun D:GD=> !D.isVar) (V.1++F.1++T)
  simp only [List.length_append] at this
  omega
 ·cases T with
  | nil=>simp at t2
  | cons D T=>exact ⟨D,by simp,(t1 D (by simp)).1⟩
theorem mJ (L:List Int) (h:(gR L).length≤4096):(fb (jB L)).dz≤2000:=by
 obtain ⟨a,_,_,b⟩:=n8 L
 have:=acb _ a b
 unfold gR at h
 rw [fb,bn]
 omega
theorem BM (L:List Int) (h:(gR L).length≤4096):lD 81 (gR L)=some (fb (jB L),0,0):=by
 obtain ⟨a,b,c,_⟩:=n8 L
 exact xv (c:=10) rfl h (fun D hD=>⟨(a D hD).ok,(a D hD).dn⟩) b c (mJ L h)
theorem rF (L:List Int):aV (fb (jB L))=cC 32 (jB L):=SO fun D hD=>((n8 L).1 D hD).dG
theorem D2 (L:List Int) (h:(gR L).length≤4096) (h2:(aV (fb (jB L))).length≤4096):lD 81 (aV (fb (jB L)))=some (fb (jB L),0,0):=by
 obtain ⟨a,b,c,_⟩:=n8 L
 rw [rF] at h2 ⊢
 exact xv (c:=32) rfl h2 (fun D hD=>⟨(a D hD).ok,(a D hD).dn⟩) b c (mJ L h)
end
end Go.Proofs.YtpklkpkfgmoghaaGreatDoor.Zz
namespace Go.Proofs.YtpklkpkfgmoghaaGreatDoor.Zz
noncomputable section
def OX (n:Nd):Prop:=∀x∈tv n,okX x
theorem Hw {k t:Int} {s:List UInt8} {m:Int} {l:List Nd} (h1: -9223372036854775808≤m) (h2:m≤9223372036854775807) (h3:s.length≤16) (h:∀y∈l,OX y):OX (.mk k t s m l):=by
 intro x hx
 rw [we,List.mem_cons] at hx
 rcases hx with rfl | hx
 ·exact ⟨h1,h2,by omega⟩
 ·induction l with
  | nil=>rw [GC] at hx; cases hx
  | cons y l ih=>
   rw [tz] at hx
   rcases List.mem_append.1 hx with hx | hx
   ·exact h y (by simp) x hx
   ·exact ih (fun z hz=>h z (by simp [hz])) hx
theorem sY {k t:Int} {s:List UInt8} {l:List Nd} (h3:s.length≤16) (h:∀y∈l,OX y):OX (.mk k t s 0 l):=Hw (by decide) (by decide) h3 h
theorem mA {x:Nd} (h:OX x):∀y∈[x],OX y:=by intro y hy; rw [List.mem_singleton.1 hy]; exact h
theorem BW {x z:Nd} (h:OX x) (h':OX z):∀y∈[x,z],OX y:=by
 intro y hy
 rcases List.mem_cons.1 hy with rfl | hy
 ·exact h
 ·rw [List.mem_singleton.1 hy]; exact h'
theorem QI {x z w:Nd} (h:OX x) (h':OX z) (h2:OX w):∀y∈[x,z,w],OX y:=by
 intro y hy
 rcases List.mem_cons.1 hy with rfl | hy
 ·exact h
 ·exact BW h' h2 y hy
theorem qU {x:List UInt8} (h:fB x):x.length≤16:=by
 obtain ⟨c,w,rfl,_,_,_,h⟩:=h
 exact h
theorem K7 (x:Int): -9223372036854775808≤IntKind.i64.wrap x∧IntKind.i64.wrap x≤9223372036854775807:=by
 simp only [IntKind.wrap,IntKind.bits,IntKind.signed]
 simp only [if_true,Bool.true_and]
 by_cases h:x % 2 ^ 64<2 ^ (64 - 1)
 ·simp; split<;>omega
 ·simp; split<;>omega
theorem SD:∀s∈OO,s.length≤2:=by decide
mutual
theorem sJ:∀(e:GE),e.dn→e.dG→OX e.nd
 | .int w,h=>fun h'=>by
  rw [GE.dn] at h
  rw [GE.nd]
  have hd:w.all dU=true:=List.all_eq_true.2 fun y hy=>by
   have:=h.2.1 y hy
   simp only [isDigit,Bool.and_eq_true,decide_eq_true_eq] at this
   simp only [dU,Bool.and_eq_true,decide_eq_true_eq]
   omega
  have:=(AD hd h.2.2).2
  exact Hw (by omega) (by omega) (by simp) (by simp)
 | .pr w,h=>fun h'=>by
  rw [GE.dn] at h
  rw [GE.dG] at h'
  rw [GE.nd,iX]
  obtain ⟨A,B,e,_,_,_,_,hl⟩:=h
  refine Hw (K7 _).1 (K7 _).2 ?_ (by simp)
  rw [h',e,List.length_append,List.length_cons]
  omega
 | .bool b,h=>fun h'=>by
  rw [GE.nd]
  exact Hw (by split<;>decide) (by split<;>decide) (by simp) (by simp)
 | .var x,h=>fun h'=>by
  rw [GE.dn] at h
  rw [GE.nd]
  exact sY (qU h) (by simp)
 | .call x l,h=>fun h'=>by
  rw [GE.dn] at h
  rw [GE.dG] at h'
  rw [GE.nd]
  exact sY (qU h.1) (OR l h.2 h')
 | .un s e,h=>fun h'=>by
  rw [GE.dn] at h
  rw [GE.dG] at h'
  rw [GE.nd]
  exact sY (by rcases h.1 with rfl | rfl<;>decide) (mA (sJ e h.2 h'))
 | .bin s a b,h=>fun h'=>by
  rw [GE.dn] at h
  rw [GE.dG] at h'
  rw [GE.nd]
  exact sY (by have:=SD s h.1; omega) (BW (sJ a h.2.1 h'.1) (sJ b h.2.2 h'.2))
 | .conv t e,h=>fun h'=>by
  rw [GE.dn] at h
  rw [GE.dG] at h'
  rw [GE.nd]
  exact sY (by simp) (mA (sJ e h h'.2))
theorem OR:∀(l:List GE),GE.fC l→GE.fg l→∀y∈GE.eE l,OX y
 | [],h=>fun h' y hy=>by rw [GE.eE] at hy; cases hy
 | e::l,h=>fun h' y hy=>by
  rw [GE.fC] at h
  rw [GE.fg] at h'
  rw [GE.eE] at hy
  rcases List.mem_cons.1 hy with rfl | hy
  ·exact sJ e h.1 h'.1
  ·exact OR l h.2 h'.2 y hy
end
mutual
theorem aex:∀(s:GS),s.dn→s.dG→OX s.nd
 | .jY x e,h=>fun h'=>by
  rw [GS.dn] at h; rw [GS.dG] at h'; rw [GS.nd]
  exact sY (qU h.1) (mA (sJ e h.2 h'))
 | .np x e,h=>fun h'=>by
  rw [GS.dn] at h; rw [GS.dG] at h'; rw [GS.nd]
  exact sY (qU h.1) (mA (sJ e h.2 h'))
 | .zg e l,h=>fun h'=>by
  rw [GS.dn] at h; rw [GS.dG] at h'; rw [GS.nd]
  exact sY (by simp) (BW (sJ e h.1 h'.1) (sY (by simp) (wu l h.2 h'.2)))
 | .zf e l r,h=>fun h'=>by
  rw [GS.dn] at h; rw [GS.dG] at h'; rw [GS.nd]
  exact sY (by simp) (QI (sJ e h.1 h'.1) (sY (by simp) (wu l h.2.1 h'.2.1)) (sY (by simp) (wu r h.2.2 h'.2.2)))
 | .lR e l,h=>fun h'=>by
  rw [GS.dn] at h; rw [GS.dG] at h'; rw [GS.nd]
  exact sY (by simp) (BW (sJ e h.1 h'.1) (sY (by simp) (wu l h.2 h'.2)))
 | .ret e,h=>fun h'=>by
  rw [GS.dn] at h; rw [GS.dG] at h'; rw [GS.nd]
  exact sY (by simp) (mA (sJ e h h'))
 | .iS e,h=>fun h'=>by
  rw [GS.dn] at h; rw [GS.dG] at h'; rw [GS.nd]
  exact sY (by simp) (mA (sJ e h h'))
 | .skip,h=>fun h'=>by
  rw [GS.nd]
  exact sY (by simp) (by simp)
 | .xV x l,h=>fun h'=>by
  rw [GS.dn] at h; rw [GS.dG] at h'; rw [GS.nd]
  exact sY (by simp) (mA (sY (qU h.1) (OR l h.2 h')))
theorem wu:∀(l:List GS),GS.fC l→GS.fg l→∀y∈GS.eE l,OX y
 | [],h=>fun h' y hy=>by rw [GS.eE] at hy; cases hy
 | e::l,h=>fun h' y hy=>by
  rw [GS.fC] at h
  rw [GS.fg] at h'
  rw [GS.eE] at hy
  rcases List.mem_cons.1 hy with rfl | hy
  ·exact aex e h.1 h'.1
  ·exact wu l h.2 h'.2 y hy
end
theorem aew (D:GD) (h:D.dn) (h':D.dG):OX D.nd:=by
 cases D with
 | var x t e=>
  rw [GD.dn] at h; rw [GD.dG] at h'; rw [GD.nd]
  exact sY (qU h.1) (mA (sJ e h.2 h'.2.1.2))
 | func x ps t l=>
  rw [GD.dn] at h; rw [GD.dG] at h'; rw [GD.nd]
  refine sY (qU h.1) fun y hy=>?_
  rcases List.mem_append.1 hy with hy | hy
  ·obtain ⟨p,hp,rfl⟩:=List.mem_map.1 hy
   exact sY (qU (h.2.1 p hp)) (by simp)
  ·rw [List.mem_singleton.1 hy]
   exact sY (by simp) (wu l h.2.2 h'.2.2)
 | test x l=>
  rw [GD.dn] at h; rw [GD.dG] at h'; rw [GD.nd]
  exact sY (qU h.1) (mA (sY (by simp) (wu l h.2 h')))
mutual
theorem aem:∀(s:GS) (r r':List UInt8),r.length=r'.length→(s.tx 10 r).length=(s.tx 32 r').length
 | .jY x e,r,r',hr=>by
  rw [GS.tx,GS.tx]
  simp only [List.length_append,List.length_cons,d9,hr]
 | .np x e,r,r',hr=>by
  rw [GS.tx,GS.tx]
  simp only [List.length_append,List.length_cons,d9,hr]
 | .zg e l,r,r',hr=>by
  have:=wg l (125::r) (125::r') (by simp [hr])
  rw [GS.tx,GS.tx]
  simp only [List.length_append,List.length_cons,d9,this]
 | .zf e l l2,r,r',hr=>by
  have h2:=wg l2 (125::r) (125::r') (by simp [hr])
  have h1:=wg l (125::32::(jS++32::123::10::GS.c7 10 l2 (125::r))) (125::32::(jS++32::123::32::GS.c7 32 l2 (125::r'))) (by simp [h2])
  rw [GS.tx,GS.tx]
  simp only [List.length_append,List.length_cons,d9,h1]
 | .lR e l,r,r',hr=>by
  have:=wg l (125::r) (125::r') (by simp [hr])
  rw [GS.tx,GS.tx]
  simp only [List.length_append,List.length_cons,d9,this]
 | .ret e,r,r',hr=>by
  rw [GS.tx,GS.tx]
  simp only [List.length_append,List.length_cons,d9,hr]
 | .iS e,r,r',hr=>by
  rw [GS.tx,GS.tx]
  simp only [List.length_append,List.length_cons,d9,hr]
 | .skip,r,r',hr=>by
  rw [GS.tx,GS.tx]
  simp [hr]
 | .xV x l,r,r',hr=>by
  rw [GS.tx,GS.tx,j7 l,j7 l (41::59::r')]
  simp [hr]
theorem wg:∀(l:List GS) (r r':List UInt8),r.length=r'.length→(GS.c7 10 l r).length=(GS.c7 32 l r').length
 | [],r,r',hr=>by rw [GS.c7,GS.c7]; exact hr
 | s::l,r,r',hr=>by
  rw [GS.c7,GS.c7]
  exact aem s _ _ (by simp [wg l r r' hr])
end
theorem ael (D:GD) (r r':List UInt8) (hr:r.length=r'.length):(D.tx 10 r).length=(D.tx 32 r').length:=by
 cases D with
 | var x t e=>
  rw [GD.tx,GD.tx]
  simp only [List.length_append,List.length_cons,d9,hr]
 | func x ps t l=>
  have h:=wg l (125::r) (125::r') (by simp [hr])
  have hp:∀(ps:List (List UInt8×Int)) (a b:List UInt8),a.length=b.length→(f_ ps a).length=(f_ ps b).length:=by
   intro ps
   induction ps with
   | nil=>intro a b h; exact h
   | cons p ps ih=>intro a b h; rw [f_,f_]; simp only [List.length_append,List.length_cons,ih a b h]
  have hq:∀(a b:List UInt8),a.length=b.length→(gM ps a).length=(gM ps b).length:=by
   intro a b h
   cases ps with
   | nil=>exact h
   | cons p ps=>rw [gM,gM]; simp only [List.length_append,List.length_cons,hp ps a b h]
  rw [GD.tx,GD.tx]
  simp only [List.length_append,List.length_cons]
  rw [hq _ (41::32::(gx t++32::123::32::GS.c7 32 l (125::r'))) (by simp [h])]
 | test x l=>
  have h:=wg l (125::r) (125::r') (by simp [hr])
  rw [GD.tx,GD.tx]
  simp only [List.length_append,List.length_cons,h]
theorem Z_:∀l:List GD,(cC 10 l).length=(cC 32 l).length
 | []=>rfl
 | D::l=>by
  rw [cC,cC]
  exact ael D _ _ (by simp [Z_ l])
theorem G9 (L:List Int) (h:(gR L).length≤4096):sE (fb (jB L)):=by
 obtain ⟨a,_,_,_⟩:=n8 L
 refine ⟨by have:=mJ L h; omega,?_,?_⟩
 ·rw [rF,←Z_]
  have:(cC 10 (jB L)).length=(gR L).length:=rfl
  omega
 ·refine sY (by simp) fun y hy=>?_
  obtain ⟨D,hD,rfl⟩:=List.mem_map.1 hy
  exact aew D (a D hD).dn (a D hD).dG
end
end Go.Proofs.YtpklkpkfgmoghaaGreatDoor.Zz
