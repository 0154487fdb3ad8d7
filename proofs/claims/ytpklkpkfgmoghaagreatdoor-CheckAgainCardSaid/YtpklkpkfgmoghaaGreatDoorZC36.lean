/- Contracts: the generator of programs: functions. -/
import Derived.Test.YtpklkpkfgmoghaaGreatDoorZS7
import Derived.Test.YtpklkpkfgmoghaaGreatDoorZC2
import Derived.Test.YtpklkpkfgmoghaaGreatDoorZA24
set_option linter.unnecessarySimpa false
set_option linter.unusedVariables false
set_option linter.unusedSimpArgs false
set_option maxRecDepth 20000
namespace Go.Proofs.YtpklkpkfgmoghaaGreatDoor.Zz
noncomputable section
def lK (A:aa) (r:Nat) (dC:D) (pl:List Int):Prop:=(dC=.aZ∧pl=[])∨(dC=.row r (pl.length+2) 0 pl.length∧∃fz,A.f r=some (.row 1 (pl.length+2) (gV pl) fz))
theorem lK.ok {A:aa} {r:Nat} {dC:D} {pl:List Int} (h:lK A r dC pl):bX dC=true:=by
 rcases h with ⟨rfl,_⟩ | ⟨rfl,_⟩<;>rfl
theorem lK.lR {A:aa} {r:Nat} {dC:D} {pl:List Int} (h:lK A r dC pl):bX (gC dC)=true:=by
 rcases h with ⟨rfl,_⟩ | ⟨rfl,_⟩<;>rfl
theorem lK.plain {A:aa} {r:Nat} {dC:D} {pl:List Int} (h:lK A r dC pl):plain A (gC dC)=.sl (gV pl):=by
 rcases h with ⟨rfl,rfl⟩ | ⟨rfl,fz,h⟩
 ·rfl
 ·simp only [gC,Go.Proofs.YtpklkpkfgmoghaaGreatDoor.Zz.plain,h]
  rw [if_pos ⟨trivial,by rw [il]; omega⟩,List.drop_zero,List.take_of_length_le (by rw [il]; omega)]
theorem lK.of_eq {A B:aa} {r:Nat} {dC:D} {pl:List Int} (h:lK A r dC pl) (e:B.f r=A.f r):lK B r dC pl:=by
 rcases h with h | ⟨h1,fz,h2⟩
 ·exact .inl h
 ·exact .inr ⟨h1,fz,by rw [e]; exact h2⟩
theorem lK.hO {A:aa} {r:Nat} {dC:D} {pl:List Int} (h:lK A r dC pl):lK (hO A (gC dC)) r dC pl∧∀j,j≠r→(hO A (gC dC)).f j=A.f j:=by
 rcases h with ⟨rfl,rfl⟩ | ⟨rfl,fz,h⟩
 ·exact ⟨.inl ⟨rfl,rfl⟩,fun _ _=>rfl⟩
 ·have e:Go.Proofs.YtpklkpkfgmoghaaGreatDoor.Zz.hO A (gC (.row r (pl.length+2) 0 pl.length))=A.set r (.row 1 (pl.length+2) (gV pl) true):=by simp only [gC,Go.Proofs.YtpklkpkfgmoghaaGreatDoor.Zz.hO,fh,h]
  rw [e]
  exact ⟨.inr ⟨rfl,true,by simp⟩,fun j hj=>by simp [hj]⟩
theorem Hk:∀(l:List Fn) (A:aa) (M:List D),fQ A ((kj l).flatten++M)=fQ A M
 | [],A,M=>rfl
 | f::l,A,M=>Hk l A M
theorem St (A:aa) (l:List Fn):(kj l).map (List.map (plain A))=kj l:=by
 simp [kj,plain]
theorem vT {A:aa} {i5 v r n:Nat} {l:List Fn} {x:List UInt8} {t:Int} {pl:List Int} {dC:D} (h5:A.f i5=some (.row 3 v (kj l++[[.str x,.int .i64 t,gC dC]]) false)) (hP:lK A r dC pl) (hn:n=l.length+1):
  tv A (.row i5 v 0 n)=.sl (kj (l++[⟨x,t,pl⟩])):=by
 subst hn
 simp only [tv,h5]
 rw [if_pos ⟨trivial,by simp [i_]⟩,List.map_append,St,Nz,List.drop_zero,List.take_of_length_le (by simp [i_])]
 show D.sl (kj l++[[.str x,.int .i64 t,plain A (gC dC)]])=_
 rw [hP.plain]
theorem Fg {A:aa} {i5 v r n:Nat} {l:List Fn} {x:List UInt8} {t:Int} {pl:List Int} {dC:D} (h5:A.f i5=some (.row 3 v (kj l++[[.str x,.int .i64 t,gC dC]]) false)) (hP:lK A r dC pl) (n3:r≠i5):
  ∃B,Ff A (.row i5 v 0 n)=B∧(∀j,j≠i5→j≠r→B.f j=A.f j)∧lK B r dC pl:=by
 have e2:Ff A (.row i5 v 0 n)=(hO A (gC dC)).set i5 (.row 3 v ((kj l++[[.str x,.int .i64 t,gC dC]]).map (List.map (plain A))) true):=by
  simp only [Ff,h5]
  rw [List.flatten_append,Hk]
  rfl
 have hz:=hP.hO
 refine ⟨_,e2,fun j b c=>?_,hz.1.of_eq ?_⟩
 ·simp [b,hz.2 j c]
 ·simp [n3]
theorem lK.ado {A:aa} {r:Nat} {dC:D} {pl:List Int} (h:lK A r dC pl) {i1 i2 i3 i4 i5:Nat} (r1:r≠i1) (r2:r≠i2) (r3:r≠i3) (r4:r≠i4) (k:A.f i5=none):∃q,lK A q dC pl∧q≠i1∧q≠i2∧q≠i3∧q≠i4∧q≠i5:=by
 rcases h with ⟨h1,h2⟩ | ⟨h1,fz,h2⟩
 ·exact ⟨i1+i2+i3+i4+i5+1,.inl ⟨h1,h2⟩,by omega,by omega,by omega,by omega,by omega⟩
 ·exact ⟨r,.inr ⟨h1,fz,h2⟩,r1,r2,r3,r4,fun e=>by rw [e,k] at h2; cases h2⟩
theorem vH {l:List Fn}:∀y∈kj l,y.length=3∧y.all bX=true:=by
 intro y hy
 simp only [kj,List.mem_map] at hy
 obtain ⟨s,_,rfl⟩:=hy
 exact ⟨rfl,rfl⟩
theorem tM.Zn {s:Nm} {r:Nat} (h:tM s r) {F:Fn} (h1:hZ F.name) (h2:2≤F.name.length) (h3:F.params.length≤2) (h4:s.funcs.length<1000):tM { s with funcs:=s.funcs++[F] } r:=by
 refine ⟨⟨h.ok.var,fun g hg=>?_⟩,by simp; omega,h.l0,h.l1,h.l2,h.fr⟩
 rcases List.mem_append.1 hg with hg | hg
 ·exact h.ok.fn g hg
 ·rw [List.mem_singleton.1 hg]; exact ⟨h1,h2,h3⟩
theorem zb (x:List UInt8) (ps:List (List UInt8×Int)) (t:Int) (l:List GS) (e:GE):dQ 10 [.func x ps t (l++[.ret e])]=[102,117,110,99,32]++(x++([40]++(kZ ps []++([41,32]++(jE t++([32,123,10]++(GS.eG 10 l []++([114,101,116,117,114,110,32]++(e.tx []++[59,10,125,10]))))))))):=by
 rw [dQ,dQ,GD.tx,eu,fK,AO]
 have:GS.eG 10 [.ret e] []=[114,101,116,117,114,110,32]++(e.tx []++[59,10]):=by rw [GS.eG,GS.tx,GS.eG,de e]; simp [nI]
 rw [this]
 simp [uZ]
theorem Ip (x:List UInt8) (t:Int):kZ [(x,t)] []=x++(32::jE t):=by rw [kZ,kq]; simp
theorem DA {l:List (List UInt8×Int)} (h:l≠[]) (x:List UInt8) (t:Int):kZ (l++[(x,t)]) []=kZ l []++([44,32]++(x++(32::jE t))):=by
 have ht:∀l:List (List UInt8×Int),kq (l++[(x,t)]) []=kq l []++([44,32]++(x++(32::jE t))):=by
  intro l
  induction l with
  | nil=>simp [kq]
  | cons p l ih=>rw [List.cons_append,kq,kq,ih]; simp
 cases l with
 | nil=>exact absurd rfl h
 | cons p l=>rw [List.cons_append,kZ,kZ,ht]; simp
theorem Z6 {l:List (List UInt8×Int)} (h:l≠[]):(kZ l []==[])=false:=by
 cases l with
 | nil=>exact absurd rfl h
 | cons p l=>rw [kZ]; simp
theorem Ol {H:aa} {i1 i2:Nat} {X Y:cJ} (h1:H.f i1=some Y) (h2:H.f i2=some X):((aa.emp.set i2 X).set i1 Y).sub H:=fun j x hj=>by
 simp only [aa.b9,aa.UZ] at hj
 split at hj
 ·rename_i e; cases hj; rw [e]; exact h1
 ·split at hj
  ·rename_i e; cases hj; rw [e]; exact h2
  ·cases hj
set_option maxHeartbeats 2000000 in
theorem Sp (L:List Int) (i1 i2:Nat) (n1:¬i2=i1) (dO:¬i1=i2) (IV:Nm) (nz:tM IV 16) (hfn:IV.funcs.length≤10) (a0:Nat) (out:List UInt8) (ho:out.length≤100000) (E:Fr→D→aa→Prop) (σ:Fr) (Gf:σ.env 3=.ptr i1 1 0) (s4g:σ.env 4=.ptr i2 1 0) (YO:σ.env 5=.str out) (sd:σ.defs=[]) (R:cY→aa→Prop)
  (k:∀f,f=eS L ((bD L 3 a0).1.toNat+1) IV (bD L 3 a0).2→R (.ret (.str (out++dQ 10 f.1++dQ 10 (ia L ((bD L 3 f.2.2).1.toNat+1) f.2.1 (bD L 3 f.2.2).2).1))) .emp):
  vc (YP 3) afc (todo (YP 3) (vW [.tmp 2] R) E []) E σ ((aa.emp.set i2 (fJ IV)).set i1 (qa L a0)):=by
 have hr0:=bY L (n:=3) (by decide) a0
 simp (maxSteps:=1000000) only [afc,Gf,s4g,YO,sd,cD,aG,aA,seval]
 refine ⟨i1,L,a0,3,rfl,by simp,by decide,by decide,?_⟩
 generalize bD L 3 a0=nb at hr0 k ⊢
 obtain ⟨n0,b0⟩:=nb
 simp only at hr0 k ⊢
 have w0:IntKind.i64.wrap (n0+1)=((n0.toNat+1:Nat):Int):=by rw [wrap_i64 (by omega) (by omega)]; omega
 have hn:n0.toNat+1≤3:=by omega
 generalize n0.toNat+1=n at hn w0 k
 simp (maxSteps:=1000000) only [n1,dO,w0,Gf,s4g,YO,sd,cD,aG,aA,seval]
 refine cj (X:=Nat×Nm×Nat×List GD) (fun z=>[(3,.ptr i1 1 0),(4,.ptr i2 1 0),(5,.str (out++dQ 10 z.2.2.2)),(9,.int .i64 (z.1:Int))]) (fun z=>(aa.emp.set i2 (fJ z.2.1)).set i1 (qa L z.2.2.1)) (fun z=>z.1)
  (fun z=>z.1≤3∧tM z.2.1 16∧z.2.1.funcs.length+z.1≤20∧(dQ 10 z.2.2.2).length+100000*z.1≤300000∧eS L n IV b0=(z.2.2.2++(eS L z.1 z.2.1 z.2.2.1).1,(eS L z.1 z.2.1 z.2.2.1).2.1,(eS L z.1 z.2.1 z.2.2.1).2.2)) (n,IV,b0,[])
  ⟨by omega,nz,by simp only; omega,by rw [dQ]; simp; omega,rfl⟩ (by simp only [dQ,List.append_nil,Gf,s4g,YO,sd,aA,seval]) (aa.aj _) ?_
 rintro ⟨i,s,c,done⟩ Q ⟨j0,j1,jf,j2,j3⟩ hQ
 simp only at j0 j1 jf j2 j3 hQ ⊢
 cases i with
 | succ i=>
  have g:(((i+1:Nat):Int)>0)=True:=eq_true (by omega)
  have BU:vU [.int .i64 ((i+1:Nat):Int)]=some (.str (bM (i+1))):=if_pos ⟨by omega,by omega⟩
  have hl:(bM (i+1)).length=1:=r7 (by omega)
  have nm:=(L7 (i:=i+1) (by omega)).2.1
  generalize hI:((i+1:Nat):Int)=I at*
  have wi:IntKind.i64.wrap (I - 1)=(i:Int):=by rw [←hI,wrap_i64 (by omega) (by omega)]; omega
  rw [eS] at j3
  simp (maxSteps:=1000000) only [n1,dO,g,BU,fJ,cD,aG,aA,seval]
  repeat refine And.intro (by first | omega | (simp only [List.length_append,List.length_cons,List.length_nil]; omega)) ?_
  have hrt:=bY L (n:=3) (by decide) c
  refine ⟨i1,L,c,3,rfl,by simp,by decide,by decide,?_⟩
  generalize bD L 3 c=tq at hrt j3 ⊢
  obtain ⟨t,ta⟩:=tq
  simp only at hrt j3 ⊢
  simp (maxSteps:=1000000) only [n1,dO,cD,aG,aA,seval]
  intro i3 m1 l6 m2 ly
  simp (maxSteps:=1000000) only [n1,dO,m1,l6,m2,ly,cD,aG,aA,seval]
  intro i4 o3 tu o1 tr o2 tK
  have Vr:=bY L (n:=3) (by decide) ta
  refine ⟨i1,L,ta,3,rfl,by simp [l6,tr],by decide,by decide,?_⟩
  generalize bD L 3 ta=tq at Vr j3 ⊢
  obtain ⟨u0,ua⟩:=tq
  simp only at Vr j3 ⊢
  obtain ⟨u,rfl⟩:∃u:Nat,u0=(u:Int):=⟨u0.toNat,by omega⟩
  rw [Int.toNat_natCast] at j3
  simp (maxSteps:=1000000) only [n1,dO,m1,l6,m2,ly,o1,tr,o2,tK,o3,tu,cD,aG,aA,seval]
  have hpo:=fun (o:Nm) (h:tM o 12)=>h.l0
  refine cj (X:=Nat×Nm×Nat×List (List UInt8×Int)×Nat×D×aa) (fun z=>[(3,.ptr i1 1 0),(4,.ptr i2 1 0),(5,.str (out++dQ 10 done)),(9,.int .i64 I),(10,.ptr i3 1 0),(11,.ptr i4 1 0),(12,.str (kZ z.2.2.2.1 [])),(13,.int .i64 (z.1:Int))]) (fun z=>z.2.2.2.2.2.2) (fun z=>z.1)
   (fun z=>z.1+z.2.2.2.1.length≤2∧tM z.2.1 (13+z.1)∧z.2.1.funcs=s.funcs∧(kZ z.2.2.2.1 []).length≤40*z.2.2.2.1.length∧gQ L u s ua=(z.2.2.2.1++(gQ L z.1 z.2.1 z.2.2.1).1,(gQ L z.1 z.2.1 z.2.2.1).2.1,(gQ L z.1 z.2.1 z.2.2.1).2.2)∧
    z.2.2.2.2.2.2.f i1=some (qa L z.2.2.1)∧z.2.2.2.2.2.2.f i2=some (fJ s)∧z.2.2.2.2.2.2.f i3=some (.cells [.str ([102]++bM (i+1)),.int .i64 t,z.2.2.2.2.2.1])∧z.2.2.2.2.2.2.f i4=some (fJ z.2.1)∧
    z.2.2.2.2.1≠i1∧z.2.2.2.2.1≠i2∧z.2.2.2.2.1≠i3∧z.2.2.2.2.1≠i4∧z.2.2.2.2.2.1=fF z.2.2.2.2.1 z.2.2.2.1.length∧(z.2.2.2.1≠[]→z.2.2.2.2.2.2.f z.2.2.2.2.1=some (.row 1 (z.2.2.2.1.length+2) (gV (z.2.2.2.1.map fun p=>p.2 - 1)) false)))
   (u,s,ua,[],i1+i2+i3+i4+1,.aZ,_) ⟨by simp only [List.length_nil]; omega,j1.le (by omega),rfl,by simp [kZ],rfl,?_,?_,?_,?_,(show i1+i2+i3+i4+1≠i1 by omega),(show i1+i2+i3+i4+1≠i2 by omega),(show i1+i2+i3+i4+1≠i3 by omega),(show i1+i2+i3+i4+1≠i4 by omega),rfl,fun h=>absurd rfl h⟩ ?_ (aa.aj _) ?_
  ·simp [n1,dO,m1,l6,m2,ly,o1,tr,o2,tK,o3,tu]
  ·simp [n1,dO,m1,l6,m2,ly,o1,tr,o2,tK,o3,tu,fJ]
  ·simp [n1,dO,m1,l6,m2,ly,o1,tr,o2,tK,o3,tu]
  ·simp [n1,dO,m1,l6,m2,ly,o1,tr,o2,tK,o3,tu,fJ]
  ·simp only [kZ,aA,seval]
  rintro ⟨v,o,b,ps,r,dC,A⟩ Q2 ⟨x0,x1,xf,x2,x3,h1,h2,h3,h4,r1,r2,r3,r4,xd,hr⟩ hQ2
  simp only at x0 x1 xf x2 x3 h1 h2 h3 h4 r1 r2 r3 r4 xd hr hQ2 ⊢
  cases v with
  | succ v=>
   have gv:(((v+1:Nat):Int)>0)=True:=eq_true (by omega)
   have qv:vU [.int .i64 ((v+1:Nat):Int)]=some (.str (bM (v+1))):=if_pos ⟨by omega,by omega⟩
   have hlv:(bM (v+1)).length=1:=r7 (by omega)
   have nv:=(L7 (i:=v+1) (by omega)).2.2.1
   generalize hV:((v+1:Nat):Int)=V at*
   have wv:IntKind.i64.wrap (V - 1)=(v:Int):=by rw [←hV,wrap_i64 (by omega) (by omega)]; omega
   rw [gQ] at x3
   simp (maxSteps:=1000000) only [n1,dO,m1,l6,m2,ly,o1,tr,o2,tK,o3,tu,h1,h2,h3,h4,gv,qv,cD,aG,aA,seval]
   have hrb:=bY L (n:=3) (by decide) b
   refine ⟨i1,L,b,3,rfl,h1,by decide,by decide,?_⟩
   generalize bD L 3 b=tq at hrb x3 ⊢
   obtain ⟨w,wa⟩:=tq
   simp only at hrb x3 ⊢
   have qw:Mh [.int .i64 w]=some (.str (jE (w+1))):=if_pos ⟨by omega,by omega⟩
   have hty:=F6 (w+1)
   have l0:=x1.l0
   have l1:=x1.l1
   have l2:=x1.l2
   have hw:=yZ (s:=o) (x:=112::bM (v+1)) (t:=w) ⟨by omega,by omega,by omega⟩
   simp only [Vd] at hw
   by_cases B9:ps=[]
   ·have iy:(kZ ps []==[])=true:=by rw [B9]; rfl
    simp (maxSteps:=1000000) only [n1,dO,m1,l6,m2,ly,o1,tr,o2,tK,o3,tu,h1,h2,h3,h4,qv,qw,iy,cD,aG,aA,seval]
    repeat refine And.intro (by first | omega | (simp only [List.length_append,List.length_cons,List.length_nil]; omega)) ?_
    have LH:(gV (ps.map fun p=>p.2 - 1)).length=ps.length:=by rw [il,List.length_map]
    rw [xd,←LH]
    refine EM (sz:=1) (b:=8) (y:=[.int .i64 w]) (xs:=gV (ps.map fun p=>p.2 - 1)) (fun hz=>?_) ⟨rfl,rfl⟩ (by decide) (by rw [LH]; omega) fun r' y1 y2=>?_
    ·have hz':ps≠[]:=fun e=>hz (by rw [e]; rfl)
     rw [LH]
     simp only [aa.b9,r1,if_false]
     exact hr hz'
    have rr:r'≠i1∧r'≠i2∧r'≠i3∧r'≠i4:=by
     by_cases hz:gV (ps.map fun p=>p.2 - 1)=[]
     ·have f0:=y1 hz
      refine ⟨fun e=>?_,fun e=>?_,fun e=>?_,fun e=>?_⟩<;>(subst e; simp [n1,dO,m1,l6,m2,ly,o1,tr,o2,tK,o3,tu,h1,h2,h3,h4] at f0)
     ·rw [y2 hz]; exact ⟨r1,r2,r3,r4⟩
    obtain ⟨u1,u2,u3,u4⟩:=rr
    have cc:cellsD (fF r' ((gV (ps.map fun p=>p.2 - 1)).length+1))=[fF r' ((gV (ps.map fun p=>p.2 - 1)).length+1)]:=by rw [bq (by omega)]; rfl
    have cok:bX (fF r' ((gV (ps.map fun p=>p.2 - 1)).length+1))=true:=by rw [bq (by omega)]; rfl
    have Tz:¬i1=r':=fun e=>u1 e.symm
    have Em:¬i2=r':=fun e=>u2 e.symm
    have TA:¬i3=r':=fun e=>u3 e.symm
    have TB:¬i4=r':=fun e=>u4 e.symm
    simp (maxSteps:=1000000) only [n1,dO,m1,l6,m2,ly,o1,tr,o2,tK,o3,tu,h1,h2,h3,h4,u1,u2,u3,u4,Tz,Em,TA,TB,fJ,hw,wv,cok,cc,cD,aG,aA,seval]
    refine hQ2 (v,o.with ([112]++bM (v+1)) w,wa,ps++[([112]++bM (v+1),w+1)],r',fF r' ((gV (ps.map fun p=>p.2 - 1)).length+1),_) _ _ ⟨by simp only [List.length_append,List.length_cons,List.length_nil]; omega,(x1.le (show 13+v+1≤13+(v+1) by omega)).w nv.1 nv.2 w,?_,?_,by rw [x3]; simp,?_,?_,?_,?_,u1,u2,u3,u4,?_,fun _=>?_⟩ ?_ (aa.aj _) (by simp only; omega)
    ·show (o.with ([112]++bM (v+1)) w).funcs=s.funcs
     rw [←xf]
     unfold Nm.with
     split<;>(try rfl)
     split<;>rfl
    ·rw [B9,List.nil_append,Ip]
     simp only [List.length_append,List.length_cons,List.length_nil]
     omega
    ·simp [n1,dO,m1,l6,m2,ly,o1,tr,o2,tK,o3,tu,u1,u2,u3,u4,Tz,Em,TA,TB]
    ·simp [n1,dO,m1,l6,m2,ly,o1,tr,o2,tK,o3,tu,u1,u2,u3,u4,Tz,Em,TA,TB,h2,fJ]
    ·simp [n1,dO,m1,l6,m2,ly,o1,tr,o2,tK,o3,tu,u1,u2,u3,u4,Tz,Em,TA,TB]
    ·simp [n1,dO,m1,l6,m2,ly,o1,tr,o2,tK,o3,tu,u1,u2,u3,u4,Tz,Em,TA,TB,fJ]
    ·simp only [List.length_append,List.length_cons,List.length_nil,LH]
    ·simp only [List.length_append,List.length_cons,List.length_nil,LH,List.map_append,List.map_cons,List.map_nil,←G9]
     simp [n1,dO,m1,l6,m2,ly,o1,tr,o2,tK,o3,tu,u1,u2,u3,u4,Tz,Em,TA,TB]
    ·simp only [aA,seval]
     rw [B9,List.nil_append,Ip]
     simp [kZ]
   ·have iy:=Z6 B9
    simp (maxSteps:=1000000) only [n1,dO,m1,l6,m2,ly,o1,tr,o2,tK,o3,tu,h1,h2,h3,h4,qv,qw,iy,cD,aG,aA,seval]
    repeat refine And.intro (by first | omega | (simp only [List.length_append,List.length_cons,List.length_nil]; omega)) ?_
    have LH:(gV (ps.map fun p=>p.2 - 1)).length=ps.length:=by rw [il,List.length_map]
    rw [xd,←LH]
    refine EM (sz:=1) (b:=8) (y:=[.int .i64 w]) (xs:=gV (ps.map fun p=>p.2 - 1)) (fun hz=>?_) ⟨rfl,rfl⟩ (by decide) (by rw [LH]; omega) fun r' y1 y2=>?_
    ·have hz':ps≠[]:=fun e=>hz (by rw [e]; rfl)
     rw [LH]
     simp only [aa.b9,r1,if_false]
     exact hr hz'
    have rr:r'≠i1∧r'≠i2∧r'≠i3∧r'≠i4:=by
     by_cases hz:gV (ps.map fun p=>p.2 - 1)=[]
     ·have f0:=y1 hz
      refine ⟨fun e=>?_,fun e=>?_,fun e=>?_,fun e=>?_⟩<;>(subst e; simp [n1,dO,m1,l6,m2,ly,o1,tr,o2,tK,o3,tu,h1,h2,h3,h4] at f0)
     ·rw [y2 hz]; exact ⟨r1,r2,r3,r4⟩
    obtain ⟨u1,u2,u3,u4⟩:=rr
    have cc:cellsD (fF r' ((gV (ps.map fun p=>p.2 - 1)).length+1))=[fF r' ((gV (ps.map fun p=>p.2 - 1)).length+1)]:=by rw [bq (by omega)]; rfl
    have cok:bX (fF r' ((gV (ps.map fun p=>p.2 - 1)).length+1))=true:=by rw [bq (by omega)]; rfl
    have Tz:¬i1=r':=fun e=>u1 e.symm
    have Em:¬i2=r':=fun e=>u2 e.symm
    have TA:¬i3=r':=fun e=>u3 e.symm
    have TB:¬i4=r':=fun e=>u4 e.symm
    simp (maxSteps:=1000000) only [n1,dO,m1,l6,m2,ly,o1,tr,o2,tK,o3,tu,h1,h2,h3,h4,u1,u2,u3,u4,Tz,Em,TA,TB,fJ,hw,wv,cok,cc,cD,aG,aA,seval]
    refine hQ2 (v,o.with ([112]++bM (v+1)) w,wa,ps++[([112]++bM (v+1),w+1)],r',fF r' ((gV (ps.map fun p=>p.2 - 1)).length+1),_) _ _ ⟨by simp only [List.length_append,List.length_cons,List.length_nil]; omega,(x1.le (show 13+v+1≤13+(v+1) by omega)).w nv.1 nv.2 w,?_,?_,by rw [x3]; simp,?_,?_,?_,?_,u1,u2,u3,u4,?_,fun _=>?_⟩ ?_ (aa.aj _) (by simp only; omega)
    ·show (o.with ([112]++bM (v+1)) w).funcs=s.funcs
     rw [←xf]
     unfold Nm.with
     split<;>(try rfl)
     split<;>rfl
    ·rw [DA B9]
     simp only [List.length_append,List.length_cons,List.length_nil]
     omega
    ·simp [n1,dO,m1,l6,m2,ly,o1,tr,o2,tK,o3,tu,u1,u2,u3,u4,Tz,Em,TA,TB]
    ·simp [n1,dO,m1,l6,m2,ly,o1,tr,o2,tK,o3,tu,u1,u2,u3,u4,Tz,Em,TA,TB,h2,fJ]
    ·simp [n1,dO,m1,l6,m2,ly,o1,tr,o2,tK,o3,tu,u1,u2,u3,u4,Tz,Em,TA,TB]
    ·simp [n1,dO,m1,l6,m2,ly,o1,tr,o2,tK,o3,tu,u1,u2,u3,u4,Tz,Em,TA,TB,fJ]
    ·simp only [List.length_append,List.length_cons,List.length_nil,LH]
    ·simp only [List.length_append,List.length_cons,List.length_nil,LH,List.map_append,List.map_cons,List.map_nil,←G9]
     simp [n1,dO,m1,l6,m2,ly,o1,tr,o2,tK,o3,tu,u1,u2,u3,u4,Tz,Em,TA,TB]
    ·simp only [aA,seval]
     rw [DA B9]
     simp
  | zero=>
   rw [gQ,List.append_nil] at x3
   rw [x3] at j3
   simp only at j3 x0 x1
   have hP:lK A r dC (ps.map fun p=>p.2 - 1):=by
    by_cases B9:ps=[]
    ·subst B9
     exact .inl ⟨xd,rfl⟩
    ·refine .inr ⟨by rw [xd,bq (fun e=>B9 (List.length_eq_zero_iff.1 e)),List.length_map],false,?_⟩
     rw [List.length_map]
     exact hr B9
   have tg:(ps.map fun p=>p.2 - 1).length≤2:=by rw [List.length_map]; omega
   have hxl:(kZ ps []).length≤80:=by omega
   generalize hpl:(ps.map fun p=>p.2 - 1)=pl at hP tg j3
   have cok:=hP.ok
   have adM:=hP.lR
   have nU:¬i1=r:=fun e=>r1 e.symm
   have oT:¬i2=r:=fun e=>r2 e.symm
   have uB:¬i3=r:=fun e=>r3 e.symm
   have r4':¬i4=r:=fun e=>r4 e.symm
   clear hr xd x2 x3 hQ2
   simp (maxSteps:=1000000) only [n1,dO,m1,l6,m2,ly,o1,tr,o2,tK,o3,tu,h1,h2,h3,h4,cD,aG,aA,seval]
   refine ⟨i1,L,b,5,rfl,h1,by decide,by decide,?_⟩
   generalize bD L 5 b=tq at j3 ⊢
   obtain ⟨w,wa⟩:=tq
   simp only at j3 ⊢
   have hol:(kj o.funcs).length≤20:=by rw [i_,xf]; omega
   have nF:tM { o with funcs:=o.funcs++[⟨[102]++bM (i+1),t,pl⟩] } 13:=x1.Zn nm.1 nm.2 tg (by rw [i_] at hol; omega)
   have qt:Mh [.int .i64 t]=some (.str (jE (t+1))):=if_pos ⟨by omega,by omega⟩
   have hty:=F6 (t+1)
   by_cases hw4:w=4
   rotate_left
   ·rw [if_neg hw4] at j3
    have bw:(w==4)=false:=by simpa using hw4
    simp (maxSteps:=1000000) only [n1,dO,m1,l6,m2,ly,o1,tr,o2,tK,o3,tu,h1,h2,h3,h4,bw,qt,fJ,cD,aG,aA,seval]
    repeat refine And.intro (by first | omega | (simp only [List.length_append,List.length_cons,List.length_nil]; omega)) ?_
    obtain ⟨oo,LJ⟩:∃oo,oo=o:=⟨_,rfl⟩
    rw [←LJ] at j3
    have hz:tM oo 13:=by rw [LJ]; exact x1
    obtain ⟨q,hq⟩:∃q,q=r:=⟨_,rfl⟩
    rw [←hq] at hP r1 r2 r3 r4
    generalize hM:A.set i1 (qa L wa)=M
    have tJ:M.f i1=some (qa L wa):=by rw [←hM]; simp
    have T1:M.f i2=some (fJ s):=by rw [←hM]; simp [n1,h2]
    have c3g:M.f i3=some (.cells [.str (102::bM (i+1)),.int .i64 t,dC]):=by rw [←hM]; simp [m1,h3]
    have B1:M.f i4=some (fJ oo):=by rw [←hM,LJ]; simp [o1,h4]
    have La:lK M q dC pl:=hP.of_eq (by rw [←hM]; simp [r1])
    have BU:=r1
    have Ob:=r2
    have q3g:=r3
    have q4g:=r4
    refine ⟨i1,L,wa,oo,2,false,by rw [LJ]; rfl,by decide,by decide,tJ,hz.le (by decide),?_⟩
    clear LJ
    have hb:(GS.eG 10 (dM L false 2 oo wa).1 []).length≤38829:=jG 2 (by decide) oo wa hz.ok (by have:=hz.fr; omega)
    generalize dM L false 2 oo wa=X at hb j3 ⊢
    obtain ⟨bl,cb⟩:=X
    simp only at hb j3 ⊢
    simp (maxSteps:=1000000) only [n1,dO,m1,l6,m2,ly,o1,tr,o2,tK,o3,tu,tJ,T1,c3g,B1,cD,aG,aA,seval]
    repeat refine And.intro (by first | omega | (simp only [List.length_append,List.length_cons,List.length_nil]; omega)) ?_
    refine ⟨i1,L,cb,i4,oo,_,_,_,_,t,3,rfl,by omega,by omega,by simp,Fj (by simp [o1,B1]),hz.sm,?_⟩
    have he:((b_ L oo 3 t cb).1.tx []).length≤292:=fY (L:=L) hz.ok 3 t cb
    generalize b_ L oo 3 t cb=X at he j3 ⊢
    obtain ⟨e,ce⟩:=X
    simp only at he j3 ⊢
    simp (maxSteps:=1000000) only [n1,dO,m1,l6,m2,ly,o1,tr,o2,tK,o3,tu,tJ,T1,c3g,B1,cok,adM,fJ,cD,aG,aA,seval]
    repeat refine And.intro (by first | omega | (simp only [List.length_append,List.length_cons,List.length_nil]; omega)) ?_
    intro i5 p1g Ij k5
    have p2g:¬i2=i5:=fun e=>by rw [←e,T1] at k5; cases k5
    have p3g:¬i3=i5:=fun e=>by rw [←e,c3g] at k5; cases k5
    have p4g:¬i4=i5:=fun e=>by rw [←e,B1] at k5; cases k5
    obtain ⟨q,hq,BU,Ob,q3g,q4g,Mj⟩:=La.ado BU Ob q3g q4g k5
    have g5:((M.set i1 (qa L ce)).set i5 (.row 3 (2+(kj s.funcs).length+1) (kj s.funcs++[[.str (102::bM (i+1)),.int .i64 t,gC dC]]) false)).f i5=some (.row 3 (2+(kj s.funcs).length+1) (kj s.funcs++[[.str (102::bM (i+1)),.int .i64 t,gC dC]]) false):=by simp
    have hq':lK ((M.set i1 (qa L ce)).set i5 (.row 3 (2+(kj s.funcs).length+1) (kj s.funcs++[[.str (102::bM (i+1)),.int .i64 t,gC dC]]) false)) q dC pl:=hq.of_eq (by simp [BU,Mj])
    have e1:=vT (n:=(kj s.funcs).length+1) g5 hq' (by rw [i_])
    obtain ⟨B,e2,hB,hPB⟩:=Fg (n:=(kj s.funcs).length+1) g5 hq' Mj
    have b1:B.f i1=some (qa L ce):=by rw [hB i1 Ij BU.symm]; simp [Ij]
    have b2:B.f i2=some (fJ s):=by rw [hB i2 p2g Ob.symm]; simp [n1,p2g,T1]
    have YF:(kj s.funcs).length≤20:=by rw [i_]; omega
    simp (maxSteps:=1000000) only [p3g,e1,e2,b2,fJ,wi,cD,aG,aA,seval]
    refine ⟨vH,by omega,by omega,?_⟩
    refine hQ (i,{ s with funcs:=s.funcs++[⟨102::bM (i+1),t,pl⟩] },ce,done++[.func ([102]++bM (i+1)) ps (t+1) (bl++[.ret e])]) _ _ ⟨by omega,j1.Zn nm.1 nm.2 tg (by omega),by simp only [List.length_append,List.length_cons,List.length_nil]; omega,?_,by rw [j3]; simp⟩ ?_ ?_ (by simp only; omega)
    ·rw [gR,zb]
     simp only [List.length_append,List.length_cons,List.length_nil]
     omega
    ·simp only [aA,seval]
     rw [gR,zb]
     simp
    ·exact Ol (by simp [dO,b1]) (by simp [fJ])
   ·rw [if_pos hw4] at j3
    subst hw4
    simp (maxSteps:=1000000) only [n1,dO,m1,l6,m2,ly,o1,tr,o2,tK,o3,tu,h1,h2,h3,h4,cok,adM,fJ,cD,aG,aA,seval]
    intro i5 p1g Ij k5
    have p2g:¬i2=i5:=fun e=>by rw [←e,h2] at k5; cases k5
    have p3g:¬i3=i5:=fun e=>by rw [←e,h3] at k5; cases k5
    have p4g:¬i4=i5:=fun e=>by rw [←e,h4] at k5; cases k5
    obtain ⟨q,hq,BU,Ob,q3g,q4g,Mj⟩:=hP.ado r1 r2 r3 r4 k5
    have g5:((A.set i1 (qa L wa)).set i5 (.row 3 (2+(kj o.funcs).length+1) (kj o.funcs++[[.str (102::bM (i+1)),.int .i64 t,gC dC]]) false)).f i5=some (.row 3 (2+(kj o.funcs).length+1) (kj o.funcs++[[.str (102::bM (i+1)),.int .i64 t,gC dC]]) false):=by simp
    have hq':lK ((A.set i1 (qa L wa)).set i5 (.row 3 (2+(kj o.funcs).length+1) (kj o.funcs++[[.str (102::bM (i+1)),.int .i64 t,gC dC]]) false)) q dC pl:=hq.of_eq (by simp [BU,Mj])
    have e1:=vT (n:=(kj o.funcs).length+1) g5 hq' (by rw [i_])
    obtain ⟨B,e2,hB,hPB⟩:=Fg (n:=(kj o.funcs).length+1) g5 hq' Mj
    have b1:B.f i1=some (qa L wa):=by rw [hB i1 Ij BU.symm]; simp [Ij]
    have b2:B.f i2=some (fJ s):=by rw [hB i2 p2g Ob.symm]; simp [n1,p2g,h2]
    have b3:B.f i3=some (.cells [.str ([102]++bM (i+1)),.int .i64 t,dC]):=by rw [hB i3 p3g q3g.symm]; simp [m1,p3g,h3]
    have b4:B.f i4=some (fJ o):=by rw [hB i4 p4g q4g.symm]; simp [o1,p4g,h4]
    simp (maxSteps:=1000000) only [p3g,e1,e2,b3,b4,fJ,o3,tu,qt,cD,aG,aA,seval]
    refine ⟨vH,by omega,by omega,?_⟩
    repeat refine And.intro (by first | omega | (simp only [List.length_append,List.length_cons,List.length_nil]; omega)) ?_
    obtain ⟨oo,LJ⟩:∃oo,oo=({ o with funcs:=o.funcs++[⟨[102]++bM (i+1),t,pl⟩] }:Nm):=⟨_,rfl⟩
    rw [←LJ] at j3
    have hz:tM oo 13:=by rw [LJ]; exact nF
    generalize hM:B.set i4 _=M
    have tJ:M.f i1=some (qa L wa):=by rw [←hM]; simp [tr,b1]
    have T1:M.f i2=some (fJ s):=by rw [←hM]; simp [tK,b2]
    have c3g:M.f i3=some (.cells [.str (102::bM (i+1)),.int .i64 t,dC]):=by rw [←hM]; simp [tu,b3]
    have B1:M.f i4=some (fJ oo):=by rw [←hM,LJ]; simp [fJ]
    have La:lK M q dC pl:=hPB.of_eq (by rw [←hM]; simp [q4g])
    refine ⟨i1,L,wa,oo,2,false,by rw [LJ]; rfl,by decide,by decide,tJ,hz.le (by decide),?_⟩
    clear LJ
    have hb:(GS.eG 10 (dM L false 2 oo wa).1 []).length≤38829:=jG 2 (by decide) oo wa hz.ok (by have:=hz.fr; omega)
    generalize dM L false 2 oo wa=X at hb j3 ⊢
    obtain ⟨bl,cb⟩:=X
    simp only at hb j3 ⊢
    simp (maxSteps:=1000000) only [n1,dO,m1,l6,m2,ly,o1,tr,o2,tK,o3,tu,tJ,T1,c3g,B1,cD,aG,aA,seval]
    repeat refine And.intro (by first | omega | (simp only [List.length_append,List.length_cons,List.length_nil]; omega)) ?_
    refine ⟨i1,L,cb,i4,oo,_,_,_,_,t,3,rfl,by omega,by omega,by simp,Fj (by simp [o1,B1]),hz.sm,?_⟩
    have he:((b_ L oo 3 t cb).1.tx []).length≤292:=fY (L:=L) hz.ok 3 t cb
    generalize b_ L oo 3 t cb=X at he j3 ⊢
    obtain ⟨e,ce⟩:=X
    simp only at he j3 ⊢
    simp (maxSteps:=1000000) only [n1,dO,m1,l6,m2,ly,o1,tr,o2,tK,o3,tu,tJ,T1,c3g,B1,cok,adM,fJ,cD,aG,aA,seval]
    repeat refine And.intro (by first | omega | (simp only [List.length_append,List.length_cons,List.length_nil]; omega)) ?_
    intro i5 p1g Ij k5
    have p2g:¬i2=i5:=fun e=>by rw [←e,T1] at k5; cases k5
    have p3g:¬i3=i5:=fun e=>by rw [←e,c3g] at k5; cases k5
    have p4g:¬i4=i5:=fun e=>by rw [←e,B1] at k5; cases k5
    obtain ⟨q,hq,BU,Ob,q3g,q4g,Mj⟩:=La.ado BU Ob q3g q4g k5
    have g5:((M.set i1 (qa L ce)).set i5 (.row 3 (2+(kj s.funcs).length+1) (kj s.funcs++[[.str (102::bM (i+1)),.int .i64 t,gC dC]]) false)).f i5=some (.row 3 (2+(kj s.funcs).length+1) (kj s.funcs++[[.str (102::bM (i+1)),.int .i64 t,gC dC]]) false):=by simp
    have hq':lK ((M.set i1 (qa L ce)).set i5 (.row 3 (2+(kj s.funcs).length+1) (kj s.funcs++[[.str (102::bM (i+1)),.int .i64 t,gC dC]]) false)) q dC pl:=hq.of_eq (by simp [BU,Mj])
    have e1:=vT (n:=(kj s.funcs).length+1) g5 hq' (by rw [i_])
    obtain ⟨B,e2,hB,hPB⟩:=Fg (n:=(kj s.funcs).length+1) g5 hq' Mj
    have b1:B.f i1=some (qa L ce):=by rw [hB i1 Ij BU.symm]; simp [Ij]
    have b2:B.f i2=some (fJ s):=by rw [hB i2 p2g Ob.symm]; simp [n1,p2g,T1]
    have YF:(kj s.funcs).length≤20:=by rw [i_]; omega
    simp (maxSteps:=1000000) only [p3g,e1,e2,b2,fJ,wi,cD,aG,aA,seval]
    refine ⟨vH,by omega,by omega,?_⟩
    refine hQ (i,{ s with funcs:=s.funcs++[⟨102::bM (i+1),t,pl⟩] },ce,done++[.func ([102]++bM (i+1)) ps (t+1) (bl++[.ret e])]) _ _ ⟨by omega,j1.Zn nm.1 nm.2 tg (by omega),by simp only [List.length_append,List.length_cons,List.length_nil]; omega,?_,by rw [j3]; simp⟩ ?_ ?_ (by simp only; omega)
    ·rw [gR,zb]
     simp only [List.length_append,List.length_cons,List.length_nil]
     omega
    ·simp only [aA,seval]
     rw [gR,zb]
     simp
    ·exact Ol (by simp [dO,b1]) (by simp [fJ])
 | zero=>
  rw [eS] at j3
  rw [List.append_nil] at j3
  have k:=k _ rfl
  rw [j3] at k
  simp only at k
  simp (maxSteps:=1000000) only [n1,dO,fJ,cD,aG,aA,seval]
  exact Ts L i1 i2 n1 dO s (j1.le (by decide)) c (out++dQ 10 done) (by simp only [List.length_append]; omega) E _ (by simp only [aA,seval]) (by simp only [aA,seval]) (by simp only [aA,seval]) (by simp only [aA,seval]) R k
end
end Go.Proofs.YtpklkpkfgmoghaaGreatDoor.Zz
namespace Go.Proofs.YtpklkpkfgmoghaaGreatDoor.Zz
noncomputable section
theorem MS (s:Nm) (x:List UInt8) (t:Int):(s.with x t).funcs=s.funcs:=by unfold Nm.with; split<;>(try rfl); split<;>rfl
theorem WI (L:List Int):aV Tryz.prog 5 [.sl (gV L)] (.str (lT L)):=by
 refine aV.run aa3 anI (by simp) fun E=>?_
 simp (maxSteps:=1000000) only [YO,cD,aG,aA,seval]
 intro i1 i2 n1 dO
 refine ⟨i1,L,0,3,rfl,by simp [dO,qa],by decide,by decide,?_⟩
 have hr0:=bY L (n:=3) (by decide) 0
 unfold lT iu
 rw [show (⟨[],[],[],[],0⟩:Nm)=nm0 from rfl]
 generalize bD L 3 0=nb at hr0 ⊢
 obtain ⟨n0,b0⟩:=nb
 simp only at hr0 ⊢
 obtain ⟨n,rfl⟩:∃n:Nat,n0=(n:Int):=⟨n0.toNat,by omega⟩
 rw [Int.toNat_natCast]
 simp (maxSteps:=1000000) only [n1,dO,cD,aG,aA,seval]
 refine cj (X:=Nat×Nm×Nat×List GD) (fun z=>[(3,.ptr i1 1 0),(4,.ptr i2 1 0),(5,.str (dQ 10 z.2.2.2)),(6,.int .i64 (z.1:Int))]) (fun z=>(aa.emp.set i2 (fJ z.2.1)).set i1 (qa L z.2.2.1)) (fun z=>z.1)
  (fun z=>z.1≤2∧tM z.2.1 (16+z.1)∧z.2.1.funcs=[]∧(dQ 10 z.2.2.2).length+1000*z.1≤10000∧fB L n nm0 b0=(z.2.2.2++(fB L z.1 z.2.1 z.2.2.1).1,(fB L z.1 z.2.1 z.2.2.1).2.1,(fB L z.1 z.2.1 z.2.2.1).2.2)) (n,nm0,b0,[])
  ⟨by omega,?_,rfl,by rw [dQ]; simp; omega,rfl⟩ (by simp only [dQ,aA,seval]) ?_ ?_
 ·refine ⟨⟨fun t x hx=>?_,fun f hf=>by cases hf⟩,by simp [nm0],?_,?_,?_,?_⟩
  ·unfold Nm.of at hx; split at hx<;>(try split at hx)<;>cases hx
  all_goals (simp only [nm0,List.length_nil]; omega)
 ·exact aa.fm (by repeat' first | with_reducible exact aa.bZ | with_reducible exact aa.cz | refine aa.dS (by simp [n1,dO,fJ,nm0,eR,kj]) ?_ | refine aa.dT (by simp [n1,dO,fJ,nm0,eR,kj]) ?_)
 rintro ⟨i,s,a,done⟩ Q ⟨j0,j1,jf,j2,j3⟩ hQ
 simp only at j0 j1 jf j2 j3 hQ ⊢
 cases i with
 | succ i=>
  have g:(((i+1:Nat):Int)>0)=True:=eq_true (by omega)
  have BU:vU [.int .i64 ((i+1:Nat):Int)]=some (.str (bM (i+1))):=if_pos ⟨by omega,by omega⟩
  have nm:=(L7 (i:=i+1) (by omega)).1
  have hl:(bM (i+1)).length=1:=r7 (by omega)
  generalize hI:((i+1:Nat):Int)=I at*
  have wi:IntKind.i64.wrap (I - 1)=(i:Int):=by rw [←hI,wrap_i64 (by omega) (by omega)]; omega
  rw [fB] at j3
  simp (maxSteps:=1000000) only [n1,dO,g,BU,cD,aG,aA,seval]
  refine ⟨i1,L,a,3,rfl,by simp,by decide,by decide,?_⟩
  have hr:=bY L (n:=3) (by decide) a
  generalize bD L 3 a=tq at hr j3 ⊢
  obtain ⟨t,ta⟩:=tq
  simp only at hr j3 ⊢
  have Ob:Mh [.int .i64 t]=some (.str (jE (t+1))):=if_pos ⟨by omega,by omega⟩
  have hty:=F6 (t+1)
  simp (maxSteps:=1000000) only [n1,dO,BU,Ob,cD,aG,aA,seval]
  repeat refine And.intro (by first | omega | (simp only [List.length_append,List.length_cons,List.length_nil]; omega)) ?_
  refine ⟨i1,L,ta,t,rfl,by simp,?_⟩
  have he:((nQ L t ta).1.tx []).length≤19:=Fv L t ta
  generalize nQ L t ta=X at he j3 ⊢
  obtain ⟨e,ce⟩:=X
  simp only at he j3 ⊢
  have l0:=j1.l0
  have l1:=j1.l1
  have l2:=j1.l2
  have hw:=yZ (s:=s) (x:=103::bM (i+1)) (t:=t) ⟨by omega,by omega,by omega⟩
  simp only [Vd] at hw
  simp (maxSteps:=1000000) only [n1,dO,wi,hw,fJ,cD,aG,aA,seval]
  repeat refine And.intro (by first | omega | (simp only [List.length_append,List.length_cons,List.length_nil]; omega)) ?_
  refine hQ (i,s.with ([103]++bM (i+1)) t,ce,done++[.var ([103]++bM (i+1)) (t+1) e]) _ _ ⟨by omega,(j1.le (show 16+i+1≤16+(i+1) by omega)).w nm.1 nm.2 t,by show (s.with _ t).funcs=[]; rw [MS]; exact jf,?_,by rw [j3]; simp⟩ ?_ ?_ (by simp only; omega)
  ·rw [gR,Yg]
   simp only [List.length_append,List.length_cons,List.length_nil]
   omega
  ·simp only [aA,seval]
   rw [gR,Yg]
   simp
  ·exact aa.fm (by repeat' first | with_reducible exact aa.bZ | with_reducible exact aa.cz | refine aa.dS (by simp [n1,dO,fJ]) ?_ | refine aa.dT (by simp [n1,dO,fJ]) ?_)
 | zero=>
  rw [fB] at j3
  rw [j3]
  simp (maxSteps:=1000000) only [n1,dO,fJ,cD,aG,aA,seval]
  refine Sp L i1 i2 n1 dO s (j1.le (by omega)) ?_ a (dQ 10 done) (by omega) E _ (by simp only [aA,seval]) (by simp only [aA,seval]) (by simp only [aA,seval]) (by simp only [aA,seval]) (fun o _=>o=_) fun f hf=>?_
  ·rw [jf]; decide
  ·rw [hf,gR,gR]
def Mj:List D→Option D
 | [.sl xs]=>match Sh xs with
  | some L=>some (.str (lT L))
  | none=>none
 | _=>none
theorem aeS (args:List D) (d:D) (h:Mj args=some d):aV Tryz.prog 5 args d:=by
 unfold Mj at h
 split at h
 ·split at h
  ·rename_i L e
   cases CC e
   cases h
   exact WI L
  ·cases h
 ·cases h
theorem aeR (L:List Int):Mj [.sl (gV L)]=some (.str (lT L)):=by
 simp only [Mj,UO]
end
end Go.Proofs.YtpklkpkfgmoghaaGreatDoor.Zz
namespace Go.Proofs.YtpklkpkfgmoghaaGreatDoor.Zz
noncomputable section
def p4k:cm:=⟨⟨[],[],[],[],[],[]⟩,[(7,[0,1,2,3,4,5,6,7,8,9,10,11,12,13,14,15,16,17,18,19,20,21,22,23,24,26,25,27,28,29,30])],[],false⟩
def s4k:dU:=
 sO [oP (.cB (kB false)) 2]
 (sO [oM 0 16,
 oD 5 [.t 16] 17,
 oD 7 [.t 17] 18,
 oM 18 15,
 oX 15 0 19,
 oX 15 1 20,
 oX 15 2 21,
 oA 3,
 oS 5 3 19,
 oM 20 4,
 oM 21 5]
 (.seq (sO [oM 5 22,
 oH .neq 22 0 23]
 (.cond (.t 23)
 (sO [oD 10 [] 24,
 oM 24 2]
 (.ret))
 (.skip)))
 (sO [oJ 5 3 26,
 oD 11 [.t 26] 27,
 oM 27 25,
 oX 25 0 28,
 oX 25 1 29,
 oX 25 2 30,
 oA 6,
 oS 5 6 28,
 oM 29 7,
 oM 30 8]
 (sO [oJ 5 6 32,
 oD 11 [.t 32] 33,
 oM 33 31,
 oX 31 0 34,
 oX 31 1 35,
 oX 31 2 36,
 oA 9,
 oS 5 9 34,
 oM 35 10,
 oM 36 11]
 (sO [oJ 5 6 38,
 oD 12 [.t 38] 39,
 oD 11 [.t 39] 40,
 oM 40 37,
 oX 37 0 41,
 oX 37 1 42,
 oX 37 2 43,
 oA 12,
 oS 5 12 41,
 oM 42 13,
 oM 43 14]
 (.seq (.fS 2 [oD 10 [] 44,
 oM 44 45,
 oG (.cB (.t 8)) 46 45 true true,
 oG (.bin .eql (.t 46) (kI 0)) 47 45 true true,
 oP (.pick (.t 45) (.t 47) (kB false)) 48,
 oM 48 49,
 oG (.cB (.t 11)) 50 49 true true,
 oG (.bin .eql (.t 50) (kI 0)) 51 49 true true,
 oP (.pick (.t 49) (.t 51) (kB false)) 52,
 oM 52 53,
 oG (.cB (.t 14)) 54 53 true true,
 oG (.bin .eql (.t 54) (kI 0)) 55 53 true true,
 oP (.pick (.t 53) (.t 55) (kB false)) 56,
 oM 56 57,
 oG (.load (some 5) (.t 6)) 58 57 true false,
 oG (.load (some 5) (.t 9)) 59 57 true false,
 oG (.qcall (.f 9) [(.t 58),(.t 59)]) 60 57 true false,
 oP (.pick (.t 57) (.t 60) (kB false)) 61,
 oM 61 62,
 oG (.load (some 5) (.t 6)) 63 62 true false,
 oG (.load (some 5) (.t 12)) 64 62 true false,
 oG (.qcall (.f 9) [(.t 63),(.t 64)]) 65 62 true false,
 oP (.pick (.t 62) (.t 65) (kB false)) 66,
 oM 66 67,
 oG (.load (some 5) (.t 6)) 68 67 true false,
 oG (.load (some 5) (.t 3)) 70 67 true false,
 oG (.qcall (.f 12) [(.t 68)]) 69 67 true false,
 oG (.qcall (.f 12) [(.t 70)]) 71 67 true false,
 oG (.qcall (.f 9) [(.t 69),(.t 71)]) 72 67 true false,
 oP (.pick (.t 67) (.t 72) (kB false)) 73,
 oM 73 2])
 (.ret)))))))
theorem anF:bA Tryz.prog 4 p4k=some (s4k,[.tmp 2],74):=by kernel_rfl
mutual
theorem qz:∀x:Nd,(cg x).cI=x.cI
 | .mk k t s n l=>by rw [eN,bd,bd,CA l]
theorem CA:∀l:List Nd,Nd.eA (bF l)=Nd.eA l
 | []=>by rw [fC]
 | x::l=>by rw [bo,aD,aD,qz x,CA l]
end
def qPA:List D→Option D:=qZ 81
theorem afb (args:List D) (d:D) (h:qPA args=some d):aV Tryz.prog 7 args d:=DU 81 args d h
def qW:List D→Option D
 | []=>some (.bool true)
 | _=>none
theorem aiH (args:List D) (d:D) (h:qW args=some d):aV Tryz.prog 10 args d:=by
 unfold qW at h
 split at h
 ·cases h; exact RO
 ·cases h
def tka:bh:=bh.zero.dR 7 qPA
theorem acO (g:FuncId) (args:List D):tka.q g args=if g=7 then qPA args else bh.zero.q g args:=rfl
theorem acL:tka.a=bh.zero.a:=rfl
theorem acM:tka.c=bh.zero.c:=rfl
theorem afU:tka.ok Tryz.prog:=bh.bE (bh.dJ _) afb
theorem acN:type_of% (And.intro @acO (And.intro @acL @acM)):=(And.intro @acO (And.intro @acL @acM))
def tkb:bh:=tka.dR 5 Mj
theorem acT (g:FuncId) (args:List D):tkb.q g args=if g=5 then Mj args else tka.q g args:=rfl
theorem acQ:tkb.a=tka.a:=rfl
theorem acR:tkb.c=tka.c:=rfl
theorem afV:tkb.ok Tryz.prog:=bh.bE afU aeS
theorem acS:type_of% (And.intro (And.intro @acT (And.intro @acQ @acR)) @acN):=(And.intro (And.intro @acT (And.intro @acQ @acR)) @acN)
def tkc:bh:=tkb.dR 9 We
theorem acY (g:FuncId) (args:List D):tkc.q g args=if g=9 then We args else tkb.q g args:=rfl
theorem acV:tkc.a=tkb.a:=rfl
theorem acW:tkc.c=tkb.c:=rfl
theorem afW:tkc.ok Tryz.prog:=bh.bE afV aag
theorem acX:type_of% (And.intro (And.intro @acY (And.intro @acV @acW)) @acS):=(And.intro (And.intro @acY (And.intro @acV @acW)) @acS)
def tkd:bh:=tkc.dR 10 qW
theorem ac3 (g:FuncId) (args:List D):tkd.q g args=if g=10 then qW args else tkc.q g args:=rfl
theorem ac0:tkd.a=tkc.a:=rfl
theorem ac1:tkd.c=tkc.c:=rfl
theorem afX:tkd.ok Tryz.prog:=bh.bE afW aiH
theorem ac2:type_of% (And.intro (And.intro @ac3 (And.intro @ac0 @ac1)) @acX):=(And.intro (And.intro @ac3 (And.intro @ac0 @ac1)) @acX)
def tke:bh:=tkd.dR 11 FI
theorem ac8 (g:FuncId) (args:List D):tke.q g args=if g=11 then FI args else tkd.q g args:=rfl
theorem ac5:tke.a=tkd.a:=rfl
theorem ac6:tke.c=tkd.c:=rfl
theorem afY:tke.ok Tryz.prog:=bh.bE afX N_
theorem ac7:type_of% (And.intro (And.intro @ac8 (And.intro @ac5 @ac6)) @ac2):=(And.intro (And.intro @ac8 (And.intro @ac5 @ac6)) @ac2)
def tkf:bh:=tke.dR 12 Wa
theorem ada (g:FuncId) (args:List D):tkf.q g args=if g=12 then Wa args else tke.q g args:=rfl
theorem ac9:tkf.a=tke.a:=rfl
theorem ac_:tkf.c=tke.c:=rfl
theorem afZ:tkf.ok Tryz.prog:=bh.bE afY aab
theorem Rn:type_of% (And.intro (And.intro @ada (And.intro @ac9 @ac_)) @ac7):=(And.intro (And.intro @ada (And.intro @ac9 @ac_)) @ac7)
theorem L0 {x:List UInt8} (h:4096<x.length):mu 81 x=some (.mk 0 0 [] 0 [],4096,3):=by
 have e:tokens x=([],4096,3):=by unfold tokens; rw [if_pos h]
 unfold mu
 rw [e]
 rfl
theorem E5 (L:List Int):aV Tryz.prog 4 [.sl (gV L)] (.bool true):=by
 refine aV.run afZ anF (by simp) fun E=>?_
 have h5:=aeR L
 have hpr:=FO L
 have lQ:=Bv L
 obtain ⟨N,hN⟩:=FN L
 generalize lT L=x at h5 hpr lQ
 generalize jg (iu L)=p at hpr lQ hN
 by_cases hx:x.length≤4096
 ·have h1:qPA [.str x]=some (.tuple [.agg p.enc,.int .i64 0,.int .i64 0]):=by
   simp only [qPA,qZ,hpr hx,Option.map_some]
  have hp:=lQ hx
  obtain ⟨e1,e2⟩:=Sa hN
  have hNc:N.cI=p.cI:=by rw [←qz N,e1,qz]
  have k1:=uy (p:=p) (by omega)
  have k2:=uy (p:=N) (by omega)
  have k3:=uy (p:=cg N) (by rw [qz]; omega)
  rw [hN] at k1
  rw [e2 N e1] at k2
  rw [e2 (cg N) (by rw [Co,e1])] at k3
  have b1:=N9 (x:=N) (by omega)
  have b2:=N9 (x:=p) (by omega)
  have s1k:=Oa (x:=N) (y:=N) (by omega)
  have s2k:=Oa (x:=cg N) (y:=cg p) (by rw [qz]; omega)
  rw [show mD N N=true from o9.2 rfl] at s1k
  rw [show mD (cg N) (cg p)=true from o9.2 e1] at s2k
  rw [e1] at k3 b1 s2k
  generalize cg p=B at k3 b1 b2 s2k
  simp only [GV] at k1 k2 k3
  clear hpr lQ hN e1 e2 hNc hp
  obtain ⟨pk,pt,ps,pn,pl⟩:=p
  obtain ⟨Nk,Nt,Ns,Nn,Nl⟩:=N
  obtain ⟨Bk,Bt,Bs,Bn,Bl⟩:=B
  simp only [aB] at*
  simp (maxSteps:=1000000) only [s4k,h5,h1,k1,k2,k3,b1,b2,s1k,s2k,qW,Rn,aA,seval]
  intro i1  i2 an ak i3 ax aw az ay
  simp (maxSteps:=1000000) only [an,ak,ax,aw,az,ay,k1,k2,k3,b1,b2,s1k,s2k,qW,Rn,aA,seval]
  intro i4 aL aP aK aO aJ aN
  simp (maxSteps:=1000000) only [an,ak,ax,aw,az,ay,aL,aP,aK,aO,aJ,aN,k1,k2,k3,b1,b2,s1k,s2k,qW,Rn,aA,seval]
 ·have h1:qPA [.str x]=some (.tuple [.agg (Nd.mk 0 0 [] 0 []).enc,.int .i64 4096,.int .i64 3]):=by
   simp only [qPA,qZ,L0 (show 4096<x.length by omega),Option.map_some]
  rw [aB] at h1
  simp (maxSteps:=1000000) only [s4k,h5,h1,qW,Rn,aA,seval]
end
end Go.Proofs.YtpklkpkfgmoghaaGreatDoor.Zz
