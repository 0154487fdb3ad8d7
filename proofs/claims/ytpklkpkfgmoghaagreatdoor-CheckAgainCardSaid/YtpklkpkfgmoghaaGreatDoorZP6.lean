/- Contracts: a tree of its own. -/
import Derived.Test.YtpklkpkfgmoghaaGreatDoorZC14
import Derived.Test.YtpklkpkfgmoghaaGreatDoorZZC
import Derived.Test.YtpklkpkfgmoghaaGreatDoorZC31
import Derived.Test.YtpklkpkfgmoghaaGreatDoorZP30
import Derived.Test.YtpklkpkfgmoghaaGreatDoorZA0
set_option linter.unnecessarySimpa false
set_option linter.unusedVariables false
set_option linter.unusedSimpArgs false
set_option maxRecDepth 20000
namespace Go.Proofs.YtpklkpkfgmoghaaGreatDoor.Zz
noncomputable section
def amR:cm:=⟨⟨[],[(5,2)],[],[],[],[]⟩,[],[],false⟩
def afm:dU:=
 sO [oQ (.box (.t 0)) 1,
 oA 2]
 (sO [oP (.cB (.c .aZ)) 3]
 (.seq (sO [oF 4 1 6,
 oL 6 7,
 oZ 7 8,
 oP (.cB (kI 0)) 9]
 (.block 0 (.loop (sO [oE .lss 9 8 10]
 (.seq (.cond (.t 10)
 (.skip)
 (.exit 0))
 (.seq (.block 1 (sO [oI 5 7 9 11,
 oJ 5 11 12,
 oA 5,
 oS 5 5 12]
 (.ops [oM 3 13,
 oJ 5 5 14,
 oC 29 [.t 14] 15,
 oP (.buildSlice 5 zN 1 [(0,(.t 15))] false) 16,
 oQ (.append 5 64 false (.t 13) (.t 16)) 17,
 oM 17 3])))
 (.ops [oH .add 9 1 18,
 oM 18 9])))))))
 (sO [oM 3 19,
 oF 4 1 20,
 oS 1 20 19]
 (sO [oJ 5 1 21,
 oS 5 2 21]
 (.ret)))))
theorem acd:bA Tryz.prog 29 amR=some (afm,[.cell 2 (some 5)],22):=by kernel_rfl
def vv (f:Nat) (args:List D) (h:aa) (K:D→aa→Prop):Prop:=∃n:Nd,args=[.agg n.enc]∧n.cI<f∧K (.agg n.enc) h
theorem kz (f:Nat) (args:List D) (h:aa) (K K':D→aa→Prop) (hk:∀d h,K d h→K' d h) (c:vv f args h K):vv f args h K':=by
 obtain ⟨n,a,b,c⟩:=c
 exact ⟨n,a,b,hk _ _ c⟩
set_option maxHeartbeats 1000000 in
theorem ph (f:Nat) (hf:f<1000000000) (hT:(bh.zero.sv 29 (vv f) (kz f)).ok Tryz.prog) (n:Nd) (hn:n.cI<f+1) (h:aa):aH Tryz.prog 29 [.agg n.enc] h fun o h'=>∃d,o=.ret d∧d=.agg n.enc∧h'=h:=by
 refine aH.anA hT acd (by simp) ?_
 have fR:∀g args h K E,(bh.zero.sv 29 (vv f) (kz f)).c g args h K E=if g=29 then vv f args h K else bh.zero.c g args h K E:=fun g args h K E=>rfl
 generalize bh.zero.sv 29 (vv f) (kz f)=TT at fR ⊢
 obtain ⟨k,t,x,m,l⟩:=n
 have lQ:∀y∈l,y.cI<f:=fun y hy=>by have:=jQ (k:=k) (t:=t) (s:=x) (n:=m) hy; omega
 have tg:l.length≤f:=by rw [bd] at hn; have:=jk l; omega
 rw [aB]
 simp (maxSteps:=1000000) only [afm,fR,aA,seval]
 intro i1 k1 i2 n1 n2 k2
 simp (maxSteps:=1000000) only [n1,n2,fR,aA,seval]
 intro _
 refine cj (X:=Nat×Nat×aa) (fun z=>[(1,.ptr i1 1 0),(2,.ptr i2 1 0),(3,fF z.2.1 z.1),(7,.sl (Nd.bg l)),(8,.int .i64 l.length),(9,.int .i64 z.1)]) (fun z=>z.2.2) (fun z=>l.length - z.1)
  (fun z=>z.1≤l.length∧z.2.2.f i1=some (.cells [.int .i64 k,.int .i64 t,.str x,.int .i64 m,.sl (Nd.bg l)])∧z.2.2.f i2=some (.cells [.int .i64 0,.int .i64 0,.str [],.int .i64 0,.aZ])∧
   (z.1≠0→z.2.1≠i1∧z.2.1≠i2∧h.f z.2.1=none∧z.2.2.f z.2.1=some (.row 5 (z.1+2) (Nd.bg (l.take z.1)) false))∧∀j,h.f j≠none→z.2.2.f j=h.f j) (0,0,_) ⟨Nat.zero_le _,?_,?_,fun h=>absurd rfl h,fun j hj=>?_⟩ ?_ (aa.aj _) ?_
 ·simp only [aa.b9,n1,n2, ↓reduceIte]
 ·simp only [aa.b9,n1,n2, ↓reduceIte]
 ·have e1:¬j=i1:=fun e=>hj (by rw [e]; exact k1)
  have e2:¬j=i2:=fun e=>hj (by rw [e]; exact k2)
  simp only [aa.b9,e1,e2, ↓reduceIte]
 ·simp only [c_,aU,aA,seval]
 rintro ⟨i,r,hh⟩ Q ⟨j0,v1,v2,vr,vo⟩ hQ
 simp only at j0 v1 v2 vr vo hQ ⊢
 cases c:decide (i<l.length) with
 | false=>
  have e0:i=l.length:=by simp at c; omega
  have g:((i:Int)<(l.length:Int))=False:=eq_false (by omega)
  by_cases h0:l=[]
  ·subst h0
   simp only [List.length_nil] at e0
   subst e0
   simp (maxSteps:=1000000) only [g,v1,v2,n1,n2,bc,c_,List.length_nil,fR,aA,seval]
   refine ⟨h,fun j o hj=>by
    have e1:¬j=i1:=fun e=>by rw [e,k1] at hj; cases hj
    have e2:¬j=i2:=fun e=>by rw [e,k2] at hj; cases hj
    simp only [aa.b9,e1,e2, ↓reduceIte]
    rw [vo j (by rw [hj]; simp)]; exact hj,rfl⟩
  ·have h1:l.length≠0:=fun e=>h0 (List.length_eq_zero_iff.1 e)
   subst e0
   obtain ⟨r1,r2,r3,v4⟩:=vr h1
   have nU:¬i1=r:=fun e=>r1 e.symm
   have oT:¬i2=r:=fun e=>r2 e.symm
   rw [List.take_length] at v4
   simp (maxSteps:=1000000) only [g,v1,v2,v4,n1,n2,r1,r2,nU,oT,aU,bq h1,fR,aA,seval]
   refine ⟨h,fun j o hj=>by
    have e1:¬j=i1:=fun e=>by rw [e,k1] at hj; cases hj
    have e2:¬j=i2:=fun e=>by rw [e,k2] at hj; cases hj
    have e3:¬j=r:=fun e=>by rw [e,r3] at hj; cases hj
    simp only [aa.b9,e1,e2,e3, ↓reduceIte]
    rw [vo j (by rw [hj]; simp)]; exact hj,List.take_of_length_le (by rw [aU]; omega),rfl⟩
 | true=>
  have c:i<l.length:=by simpa using c
  obtain ⟨y,hy⟩:∃y,l[i]? =some y:=⟨_,List.getElem?_eq_getElem c⟩
  have g:((i:Int)<(l.length:Int))=True:=eq_true (by omega)
  have Au:y∈l:=List.mem_of_getElem? hy
  have wi:IntKind.i64.wrap ((i:Int)+1)=((i+1:Nat):Int):=cp (by omega)
  have hp:=ao y
  have ie:∀(K:D→aa→Prop) (h:aa),fx 5 K h (Nd.bg l) (i:Int)=K (.cO y.enc 0) h:=fun K h=>cG hy
  have Vx:=lQ y Au
  have pV:∀(K:D→aa→Prop) (h:aa),K (.agg y.enc) h→vv f [.agg y.enc] h K:=fun K h k=>⟨y,rfl,Vx,k⟩
  have Sz:Nd.bg (l.take (i+1))=Nd.bg (l.take i)++[y.enc]:=by
   rw [List.take_add_one,hy,fE]; rfl
  have Vw:y.enc.length=5∧y.enc.all bX=true:=⟨au y,aC y⟩
  have LO:(Nd.bg (l.take i)).length=i:=by rw [aU,List.length_take]; omega
  clear hy Au Vx
  obtain ⟨yk,yt,yx,ym,yl⟩:=y
  rw [aB] at*
  simp (maxSteps:=1000000) only [g,v1,v2,ie,hp,wi,ah,aU,n1,n2,fR,aA,seval]
  intro i5 k5
  have Cb:¬i5=i1:=fun e=>by subst e; rw [v1] at k5; cases k5
  have wP:¬i5=i2:=fun e=>by subst e; rw [v2] at k5; cases k5
  have qT:¬i1=i5:=fun e=>Cb e.symm
  have oB:¬i2=i5:=fun e=>wP e.symm
  refine pV _ _ ?_
  simp (maxSteps:=1000000) only [fR,aA,seval]
  refine lV (b:=64) LO (fun h0=>?_) Vw (by omega) (by omega) fun r' a1 a2=>?_
  ·have e:¬r=i5:=fun e=>by rw [←e,(vr h0).2.2.2] at k5; cases k5
   rw [aa.b9,if_neg e]
   exact (vr h0).2.2.2
  have a3:r'≠i1∧r'≠i2∧h.f r'=none:=by
   by_cases h0:i=0
   ·have:=a1 h0
    rw [aa.b9] at this
    split at this
    ·cases this
    ·refine ⟨fun e=>?_,fun e=>?_,?_⟩
     ·subst e; rw [v1] at this; cases this
     ·subst e; rw [v2] at this; cases this
     ·by_cases e:h.f r'=none
      ·exact e
      ·rw [vo r' e] at this; exact this
   ·rw [a2 h0]; exact ⟨(vr h0).1,(vr h0).2.1,(vr h0).2.2.1⟩
  obtain ⟨r1,r2,r3⟩:=a3
  have nU:¬i1=r':=fun e=>r1 e.symm
  have oT:¬i2=r':=fun e=>r2 e.symm
  simp (maxSteps:=1000000) only [v1,v2,wi,r1,r2,nU,oT,n1,n2,fR,aA,seval]
  refine hQ (i+1,r',_) _ _ ⟨c,?_,?_,fun _=>⟨r1,r2,r3,?_⟩,fun j hj=>?_⟩ (by simp only [bq (Nat.succ_ne_zero i),aA,seval]) (aa.aj _) (by simp only; omega)
  ·simp only [aa.b9,nU,qT,v1, ↓reduceIte]
  ·simp only [aa.b9,oT,oB,v2, ↓reduceIte]
  ·simp only [aa.b9,Sz, ↓reduceIte]
  ·have e1:¬j=r':=fun e=>hj (by rw [e]; exact r3)
   have e2:¬j=i5:=fun e=>hj (by rw [e]; by_cases q:h.f i5=none; exact q; rw [vo i5 q] at k5; exact k5)
   simp only [aa.b9,e1,e2, ↓reduceIte]
   exact vo j hj
theorem uO:∀f,f≤1000000000→(bh.zero.sv 29 (vv f) (kz f)).ok Tryz.prog
 | 0,_=>bh.lL (bh.dJ _) fun args h K c=>by
  obtain ⟨n,_,hn,_⟩:=c
  omega
 | f+1,hf=>bh.lL (bh.dJ _) fun args h K c=>by
  obtain ⟨n,rfl,hn,hK⟩:=c
  exact (ph f (by omega) (uO f (by omega)) n hn h).mono fun o h' ⟨d,e1,e2,e3⟩=>⟨d,e1,by rw [e2,e3]; exact hK⟩
def cCl (args:List D) (h:aa) (K:D→aa→Prop):Prop:=∃n:Nd,args=[.agg n.enc]∧n.cI<1000000000∧K (.agg n.enc) h
theorem T7 (args:List D) (h:aa) (K K':D→aa→Prop) (hk:∀d h,K d h→K' d h) (c:cCl args h K):cCl args h K':=by
 obtain ⟨n,a,b,c⟩:=c
 exact ⟨n,a,b,hk _ _ c⟩
theorem adx (args:List D) (h:aa) (K:D→aa→Prop) (c:cCl args h K):aH Tryz.prog 29 args h fun o h'=>∃d,o=.ret d∧K d h':=by
 obtain ⟨n,rfl,hn,c⟩:=c
 exact (ph n.cI hn (uO n.cI (by omega)) n (by omega) h).mono fun o h' ⟨d,e1,e2,e3⟩=>⟨d,e1,by rw [e2,e3]; exact c⟩
def xx:bh:=bh.zero.dR 28 Mi
theorem OR (g:FuncId) (args:List D):xx.q g args=if g=28 then Mi args else bh.zero.q g args:=rfl
theorem OO:xx.a=bh.zero.a:=rfl
theorem OP:xx.c=bh.zero.c:=rfl
theorem WT:xx.ok Tryz.prog:=bh.bE (bh.dJ _) aai
theorem OQ:type_of% (And.intro @OR (And.intro @OO @OP)):=(And.intro @OR (And.intro @OO @OP))
def OV:bh:=xx.sv 29 cCl T7
theorem OY:OV.q=xx.q:=rfl
theorem OW:OV.a=xx.a:=rfl
theorem OX (g:FuncId) (args:List D) (h:aa) (K E:D→aa→Prop):OV.c g args h K E=if g=29 then cCl args h K else xx.c g args h K E:=rfl
theorem WU:OV.ok Tryz.prog:=bh.lL WT adx
theorem iG:type_of% (And.intro (And.intro @OY (And.intro @OW @OX)) @OQ):=(And.intro (And.intro @OY (And.intro @OW @OX)) @OQ)
end
end Go.Proofs.YtpklkpkfgmoghaaGreatDoor.Zz
namespace Go.Proofs.YtpklkpkfgmoghaaGreatDoor.Zz
mutual
theorem rT (ks:List Nd) (sc:dj):∀(x y:Nd),eh ks sc x=.ok y→y.cI=x.cI
 | .mk k t s n l,y,h=>by
  rw [eh] at h
  cases hl:dA ks sc l with
  | error e=>rw [hl] at h; cases h
  | ok l'=>
   rw [hl] at h
   simp only at h
   cases ht:lJ ks sc k t s l' with
   | error e=>rw [ht] at h; cases h
   | ok t'=>
    rw [ht] at h
    cases h
    rw [bd,bd,Ac ks sc l l' hl]
theorem Ac (ks:List Nd) (sc:dj):∀(l l':List Nd),dA ks sc l=.ok l'→Nd.eA l'=Nd.eA l
 | [],l',h=>by rw [dA] at h; cases h; rfl
 | x::l,l',h=>by
  rw [dA] at h
  split at h
  ·cases hx:eh ks sc x with
   | error e=>rw [hx] at h; cases h
   | ok x'=>
    rw [hx] at h
    simp only at h
    cases hl:dA ks sc l with
    | error e=>rw [hl] at h; cases h
    | ok r=>
     rw [hl] at h
     cases h
     rw [aD,aD,rT ks sc x x' hx,Ac ks sc l r hl]
  ·cases h
end
theorem pR {ks:List Nd} {sc:dj} {x y:Nd} {t:Int} (h:dG ks sc x t=.ok y):y.cI=x.cI:=by
 unfold dG at h
 split at h
 ·cases hx:eh ks sc x with
  | error e=>rw [hx] at h; cases h
  | ok x'=>
   rw [hx] at h
   simp only at h
   split at h
   ·cases h; exact rT ks sc x _ hx
   ·cases h
 ·cases h
mutual
theorem Ti (ks:List Nd) (ans:Int):∀(x:Nd) (sc:dj) (y:Nd) (sc':dj),dF ks ans x sc=.ok (y,sc')→y.cI=x.cI
 | .mk k t s n l,sc,y,sc',h=>by
  rw [dF.eq_def] at h
  simp only at h
  split at h
  ·split at h
   ·cases h; rfl
   ·cases h
  ·split at h
   ·cases hl:bW ks ans l sc with
    | error e=>rw [hl] at h; cases h
    | ok q=>
     obtain ⟨l',ku⟩:=q
     rw [hl] at h
     cases h
     rw [bd,bd,pI ks ans l sc l' ku hl]
   ·split at h
    ·cases l with
     | nil=>cases h
     | cons x r=>
      simp only at h
      split at h
      ·cases hx:dG ks sc x 3 with
       | error e=>rw [hx] at h; cases h
       | ok x'=>
        rw [hx] at h
        simp only at h
        cases hr:cN ks ans r sc with
        | error e=>rw [hr] at h; cases h
        | ok r'=>
         rw [hr] at h
         cases h
         rw [bd,bd,aD,aD,pR hx,wg ks ans r sc r' hr]
      ·cases h
    ·split at h
     ·split at h
      ·split at h
       ·cases h
       ·rename_i x _
        cases hx:dG ks sc x ans with
        | error e=>rw [hx] at h; cases h
        | ok x'=>rw [hx] at h; cases h; rw [bd,bd,aD,aD,pR hx]
      ·cases h
     ·split at h
      ·split at h
       ·rename_i x
        cases hx:dG ks sc x 3 with
        | error e=>rw [hx] at h; cases h
        | ok x'=>rw [hx] at h; cases h; rw [bd,bd,aD,aD,pR hx]
       ·cases h
      ·split at h
       ·split at h
        ·split at h
         ·rename_i x _
          cases hx:eh ks sc x with
          | error e=>rw [hx] at h; cases h
          | ok x'=>rw [hx] at h; cases h; rw [bd,bd,aD,aD,rT ks sc x x' hx]
         ·cases h
        ·cases h
       ·split at h
        ·split at h
         ·split at h
          ·rename_i x _
           cases hx:eh ks sc x with
           | error e=>rw [hx] at h; cases h
           | ok x'=>
            have e:=rT ks sc x x' hx
            rw [hx] at h
            simp only at h
            split at h
            ·split at h
             ·cases h; rw [bd,bd,aD,aD,e]
             ·cases h
            ·split at h
             ·split at h
              ·cases h; rw [bd,bd,aD,aD,e]
              ·cases h
             ·cases h
          ·cases h
         ·cases h
        ·cases h
theorem pI (ks:List Nd) (ans:Int):∀(l:List Nd) (sc:dj) (l':List Nd) (sc':dj),bW ks ans l sc=.ok (l',sc')→Nd.eA l'=Nd.eA l
 | [],sc,l',sc',h=>by rw [bW] at h; cases h; rfl
 | x::l,sc,l',sc',h=>by
  rw [bW] at h
  cases hx:dF ks ans x sc with
  | error e=>rw [hx] at h; cases h
  | ok q=>
   obtain ⟨x',ku⟩:=q
   rw [hx] at h
   simp only at h
   cases hl:bW ks ans l ku with
   | error e=>rw [hl] at h; cases h
   | ok q=>
    obtain ⟨r,Gh⟩:=q
    rw [hl] at h
    cases h
    rw [aD,aD,Ti ks ans x sc x' ku hx,pI ks ans l ku r _ hl]
theorem wg (ks:List Nd) (ans:Int):∀(l:List Nd) (sc:dj) (l':List Nd),cN ks ans l sc=.ok l'→Nd.eA l'=Nd.eA l
 | [],sc,l',h=>by rw [cN] at h; cases h; rfl
 | .mk k t s n l::r,sc,l',h=>by
  rw [cN] at h
  split at h
  ·cases hl:bW ks ans l sc with
   | error e=>rw [hl] at h; cases h
   | ok q=>
    obtain ⟨l1,ku⟩:=q
    rw [hl] at h
    simp only at h
    cases hr:cN ks ans r sc with
    | error e=>rw [hr] at h; cases h
    | ok r'=>
     rw [hr] at h
     cases h
     rw [aD,aD,bd,bd,pI ks ans l sc l1 ku hl,wg ks ans r sc r' hr]
  ·cases h
end
theorem zB {ks:List Nd} {ans:Int} {x y:Nd} {sc:dj} (h:dV ks ans x sc=.ok y):y.cI=x.cI:=by
 obtain ⟨k,t,s,n,l⟩:=x
 unfold dV at h
 split at h
 ·simp only [Nd.kD,Nd.tD,Nd.sD,Nd.lD] at h
  cases hl:bW ks ans l sc with
  | error e=>rw [hl] at h; cases h
  | ok q=>
   obtain ⟨l',ku⟩:=q
   rw [hl] at h
   cases h
   rw [bd,bd,pI ks ans l sc l' ku hl]
 ·cases h
theorem Sj {ks:List Nd} {x y:Nd} (h:eH ks x=.ok y):y.cI=x.cI:=by
 obtain ⟨k,t,s,n,l⟩:=x
 rw [eH.eq_def] at h
 simp only at h
 split at h
 ·cases h
 ·split at h
  ·split at h
   ·split at h
    ·rename_i x _ _
     cases hx:dG ks [] x t with
     | error e=>rw [hx] at h; cases h
     | ok x'=>rw [hx] at h; cases h; rw [bd,bd,aD,aD,pR hx]
    ·cases h
   ·cases h
  ·split at h
   ·split at h
    ·rename_i x _
     cases hx:dV ks 0 x [] with
     | error e=>rw [hx] at h; cases h
     | ok x'=>rw [hx] at h; cases h; rw [bd,bd,aD,aD,zB hx]
    ·cases h
   ·split at h
    ·split at h
     ·cases h
     ·rename_i b hb
      split at h
      ·rename_i sc hsc
       cases hx:dV ks t b sc with
       | error e=>rw [hx] at h; cases h
       | ok b'=>
        rw [hx] at h
        simp only at h
        split at h
        ·cases h
         have el:l=l.dropLast++[b]:=by
          rcases List.eq_nil_or_concat l with rfl | ⟨L,c,rfl⟩
          ·cases hb
          ·simp at hb; subst hb; simp
         have:Nd.eA l=Nd.eA (l.dropLast++[b]):=by rw [←el]
         rw [bd,bd,this,jj,jj,aD,aD,zB hx]
        ·cases h
      ·cases h
    ·cases h
end Go.Proofs.YtpklkpkfgmoghaaGreatDoor.Zz
namespace Go.Proofs.YtpklkpkfgmoghaaGreatDoor.Zz
noncomputable section
def amD:cm:=⟨⟨[],[(13,1)],[],[],[],[]⟩,[],[],false⟩
def afi:dU:=
 sO [oQ (.box (.t 0)) 1,
 oA 2,
 oP (.cB (kI 0)) 3,
 oP (.cB (kI 0)) 4]
 (.seq (sO [oF 0 1 9,
 oL 9 10,
 oH .neq 10 1 11]
 (.cond (.t 11)
 (sO [oP (.build zN []) 12,
 oS 5 2 12,
 oP (.cB (kI 0)) 3,
 oP (.cB (kI 125)) 4]
 (.ret))
 (.skip)))
 (sO [oJ 5 1 13,
 oA 5,
 oS 5 5 13]
 (sO [oF 4 5 14,
 oU (.store 1 (.t 14) (.c .aZ))]
 (.seq (sO [oF 4 1 15,
 oL 15 16,
 oZ 16 17,
 oP (.cB (kI 0)) 18]
 (.block 0 (.loop (sO [oE .lss 18 17 19]
 (.seq (.cond (.t 19)
 (.skip)
 (.exit 0))
 (.seq (.block 1 (sO [oM 18 20,
 oM 20 6]
 (sO [oJ 5 1 22,
 oM 6 23,
 oD 28 [.t 22,.t 23] 24,
 oM 24 21,
 oX 21 0 25,
 oX 21 1 26,
 oA 7,
 oS 5 7 25,
 oM 26 8]
 (.seq (sO [oM 8 27,
 oH .neq 27 0 28]
 (.cond (.t 28)
 (sO [oP (.build zN []) 29,
 oM 6 30,
 oM 8 31,
 oS 5 2 29,
 oM 30 3,
 oM 31 4]
 (.ret))
 (.skip)))
 (.ops [oF 4 5 32,
 oL 32 33,
 oJ 5 7 34,
 oP (.buildSlice 5 zN 1 [(0,(.t 34))] false) 35,
 oQ (.append 5 64 false (.t 33) (.t 35)) 36,
 oF 4 5 37,
 oS 1 37 36])))))
 (.ops [oH .add 18 1 38,
 oM 38 18])))))))
 (sO [oJ 5 5 39,
 oC 29 [.t 39] 40,
 oS 5 2 40,
 oP (.cB (kI 0)) 3,
 oP (.cB (kI 0)) 4]
 (.ret))))))
theorem ajs:bA Tryz.prog 11 amD=some (afi,[.cell 2 (some 5),.tmp 3,.tmp 4],41):=by kernel_rfl
theorem G2 {ks:List Nd} {i:Nat} {x:Nd} (hx:ks[i]? =some x):fq ks (ks.drop i) ((ks.take i).map Nd.sD) i=match sG ks i with
  | .error e=>(.error e,(i:Int))
  | .ok x'=>match fq ks (ks.drop (i+1)) ((ks.take (i+1)).map Nd.sD) ((i+1:Nat):Int) with
   | (.ok l',j)=>(.ok (x'::l'),j)
   | r=>r:=by
 have e1:((ks.take i).map Nd.sD).contains x.sD=(ks.take i).any (fun y=>y.sD==x.sD):=by
  rw [List.contains_eq_any_beq,List.any_map]
  congr 1
  funext y
  exact BEq.comm
 have e2:(ks.take (i+1)).map Nd.sD=(ks.take i).map Nd.sD++[x.sD]:=by rw [List.take_add_one,hx]; simp
 rw [iP hx,fq,e1,e2,sG,hx]
 simp only
 cases (ks.take i).any (fun y=>y.sD==x.sD) with
 | true=>rfl
 | false=>
  simp only [Bool.false_eq_true,if_false]
  cases eH ks x with
  | error e=>rfl
  | ok x'=>rfl
def nL (ks:List Nd) (i:Nat) (done:List Nd):CR (List Nd)×Int:=match fq ks (ks.drop i) ((ks.take i).map Nd.sD) i with
 | (.ok l',j)=>(.ok (done++l'),j)
 | r=>r
theorem KX (ks:List Nd) (done:List Nd):nL ks ks.length done=(.ok done,(ks.length:Int)):=by
 rw [nL,List.drop_length,fq]; simp
theorem Gp {ks:List Nd} {i:Nat} {x:Nd} (hx:ks[i]? =some x) (done:List Nd):nL ks i done=match sG ks i with
  | .error e=>(.error e,(i:Int))
  | .ok x'=>nL ks (i+1) (done++[x']):=by
 rw [nL,G2 hx]
 cases sG ks i with
 | error e=>rfl
 | ok x'=>
  simp only [nL]
  generalize fq ks (ks.drop (i+1)) ((ks.take (i+1)).map Nd.sD) ((i+1:Nat):Int)=q
  obtain ⟨r,j⟩:=q
  cases r<;>simp
theorem VV {ks:List Nd} {i:Nat} {x y:Nd} (hx:ks[i]? =some x) (h:sG ks i=.ok y):y.cI=x.cI:=by
 rw [sG,hx] at h
 simp only at h
 split at h
 ·cases h
 ·exact Sj h
def GV (r:Nd×Int×Int):D:=.tuple [.agg r.1.enc,.int .i64 r.2.1,.int .i64 r.2.2]
def Why (p:Nd):Prop:=∀i e,sG p.lD i=.error e→i<p.lD.length→e≠0
set_option maxHeartbeats 1000000 in
theorem Zc (p:Nd) (hp:p.cI≤400000) (hw:Why p):aV Tryz.prog 11 [.agg p.enc] (GV (iO p)):=by
 refine aV.run WU ajs (by simp) fun E=>?_
 obtain ⟨k,t,s,n,ks⟩:=p
 have hks:ks.length≤400000:=by rw [bd] at hp; have:=jk ks; omega
 have hq:∀i,i<ks.length→Mi [.agg [.int .i64 k,.int .i64 t,.str s,.int .i64 n,.sl (Nd.bg ks)],.int .i64 (i:Int)]=some (FE (sG ks i)):=fun i hi=>by
  have:=Wf (p:=.mk k t s n ks) (i:=i) hi hp
  rwa [aB] at this
 have hwf:∀i e,sG ks i=.error e→i<ks.length→e≠0:=hw
 have hA:iO (.mk k t s n ks)=if k==1 then (match nL ks 0 [] with
  | (.ok l',_)=>(.mk k t s n l',0,0)
  | (.error e,i)=>(.mk 0 0 [] 0 [],i,e)) else (.mk 0 0 [] 0 [],0,125):=by
  rw [iO,nL,List.drop_zero,List.take_zero,List.map_nil,show ((0:Nat):Int)=0 from rfl]
  cases fq ks ks [] 0 with
  | mk r j=>cases r<;>rfl
 rw [hA,aB]
 cases k1:(k==1) with
 | false=>
  simp only [Bool.false_eq_true,if_false]
  have g:(k != 1)=true:=by simp [bne,k1]
  simp (maxSteps:=1000000) only [afi,k1,g,GV,ez,iG,aA,seval]
  intro i1  i2 an ak
  simp (maxSteps:=1000000) only [g,an,ak,aB,bc,ez,iG,aA,seval]
 | true=>
  simp only [if_true]
  have g:(k != 1)=false:=by simp [bne,k1]
  simp (maxSteps:=1000000) only [afi,k1,g,aU,ez,iG,aA,seval]
  intro i1  i2 an ak
  simp (maxSteps:=1000000) only [g,an,ak,aU,ez,iG,aA,seval]
  intro i3 ax aw az ay
  simp (maxSteps:=1000000) only [g,an,ak,ax,aw,az,ay,aU,ez,iG,aA,seval]
  intro _
  refine cj (X:=Nat×Nat×List Nd×aa) (fun z=>[(1,.ptr i1 1 0),(2,.ptr i2 1 0),(3,.int .i64 0),(4,.int .i64 0),(5,.ptr i3 1 0),(17,.int .i64 ks.length),(18,.int .i64 z.1)]) (fun z=>z.2.2.2) (fun z=>ks.length - z.1)
   (fun z=>z.1≤ks.length∧z.2.2.2.f i1=some (.cells [.int .i64 k,.int .i64 t,.str s,.int .i64 n,.sl (Nd.bg ks)])∧z.2.2.2.f i2=some (.cells [.int .i64 0,.int .i64 0,.str [],.int .i64 0,.aZ])∧
    z.2.2.2.f i3=some (.cells [.int .i64 k,.int .i64 t,.str s,.int .i64 n,fF z.2.1 z.1])∧z.2.2.1.length=z.1∧(z.1≠0→z.2.2.2.f z.2.1=some (.row 5 (z.1+2) (Nd.bg z.2.2.1) false))∧nL ks 0 []=nL ks z.1 z.2.2.1∧Nd.eA z.2.2.1=Nd.eA (ks.take z.1)) (0,0,[],_) ⟨Nat.zero_le _,?_,?_,?_,rfl,fun h=>absurd rfl h,rfl,by simp only [List.take_zero]⟩ ?_ (aa.aj _) ?_
  ·simp [an,ak,ax,aw,az,ay]
  ·simp [an,ak,ax,aw,az,ay]
  ·simp [an,ak,ax,aw,az,ay,c_]
  ·simp only [aA,seval]
  rintro ⟨i,r,done,hh⟩ Q ⟨j0,v1,v2,v3,vd,vr,va,vc⟩ hQ
  simp only at j0 v1 v2 v3 vd vr va vc hQ ⊢
  cases iJ:decide (i<ks.length) with
  | true=>
   have iJ:i<ks.length:=by simpa using iJ
   obtain ⟨x,hx⟩:∃x,ks[i]? =some x:=⟨_,List.getElem?_eq_getElem iJ⟩
   have g:((i:Int)<(ks.length:Int))=True:=eq_true (by omega)
   have wi:IntKind.i64.wrap ((i:Int)+1)=((i+1:Nat):Int):=cp (by omega)
   have hqi:=hq i iJ
   rw [Gp hx] at va
   cases ho:sG ks i with
   | error e=>
    rw [ho] at va hqi
    simp only [FE,RF,aB,bc] at va hqi
    rw [va]
    have he:(e != 0)=true:=by simpa using hwf i e ho iJ
    simp (maxSteps:=1000000) only [g,v1,v2,v3,hqi,he,GV,aB,bc,ez,iG,aA,seval]
    intro i7 k7
    have wP:¬i2=i7:=fun e=>by rw [←e,v2] at k7; cases k7
    simp (maxSteps:=1000000) only [v2,wP,ez,iG,aA,seval]
   | ok y=>
    rw [ho] at va hqi
    simp only at va
    have Vx:=VV hx ho
    have Vw:y.enc.length=5∧y.enc.all bX=true:=⟨au y,aC y⟩
    have hsn:∀l,Nd.bg l++[y.enc]=Nd.bg (l++[y]):=fun l=>fE l y
    have hcn:Nd.eA (done++[y])=Nd.eA (ks.take (i+1)):=by rw [jj,aD,bf,Se hx,vc,Vx]; rfl
    generalize hdy:done++[y]=Lx at hcn va
    have hdl:Lx.length=i+1:=by rw [←hdy]; simp [vd]
    have ZE:Nd.bg done++[y.enc]=Nd.bg Lx:=by rw [hsn,hdy]
    clear hsn hdy Vx ho
    obtain ⟨yk,yt,ys,yn,yl⟩:=y
    simp only [FE,aB] at hqi Vw ZE
    simp (maxSteps:=1000000) only [g,v1,v2,v3,hqi,ez,iG,aA,seval]
    intro i7 k7
    have gW:∀{q:Nat} {o:cJ},hh.f q=some o→¬i7=q:=fun hq e=>by rw [e,hq] at k7; cases k7
    have Cb:=gW v1
    have wP:=gW v2
    have Ik:=gW v3
    have qT:¬i1=i7:=fun e=>Cb e.symm
    have oB:¬i2=i7:=fun e=>wP e.symm
    have qU:¬i3=i7:=fun e=>Ik e.symm
    simp (maxSteps:=1000000) only [v1,v2,v3,Cb,wP,Ik,qT,oB,qU,ez,iG,aA,seval]
    have LO:(Nd.bg done).length=i:=by rw [aU,vd]
    refine lV (b:=64) LO (fun h0=>?_) Vw (by omega) (by omega) fun r' a1 a2=>?_
    ·rw [aa.b9,if_neg fun e=>gW (vr h0) e.symm]; exact vr h0
    have a3:∀{q:Nat} {ds:List D},hh.f q=some (.cells ds)→¬r'=q:=fun {q ds} hq e=>by
     by_cases h0:i=0
     ·have:=a1 h0
      rw [aa.b9] at this
      split at this
      ·cases this
      ·rw [e,hq] at this; cases this
     ·have:=vr h0
      rw [←a2 h0,e,hq] at this; cases this
    have r1:=a3 v1
    have r2:=a3 v2
    have r3:=a3 v3
    have nU:¬i1=r':=fun e=>r1 e.symm
    have oT:¬i2=r':=fun e=>r2 e.symm
    have uB:¬i3=r':=fun e=>r3 e.symm
    rw [ZE]
    simp (maxSteps:=1000000) only [v1,v2,v3,r1,r2,r3,nU,oT,uB,Cb,wP,Ik,qT,oB,qU,wi,ez,iG,aA,seval]
    refine hQ (i+1,r',Lx,_) _ _ ⟨iJ,?_,?_,?_,hdl,fun _=>?_,va,hcn⟩ (by simp only [bq (Nat.succ_ne_zero i),aA,seval]) (aa.aj _) (by simp only; omega)
    ·simp [an,ak,ax,aw,az,ay,nU,qT,v1]
    ·simp [an,ak,ax,aw,az,ay,oT,oB,v2]
    ·simp [bq]
    ·simp [r3]
  | false=>
   have e0:i=ks.length:=by simp at iJ; omega
   have g:((i:Int)<(ks.length:Int))=False:=eq_false (by omega)
   subst e0
   rw [KX] at va
   rw [va]
   rw [List.take_length] at vc
   have mg:(Nd.mk k t s n done).cI<1000000000:=by rw [bd] at hp ⊢; omega
   by_cases h0:ks.length=0
   ·have hd:done=[]:=List.length_eq_zero_iff.1 (by omega)
    subst hd
    rw [h0,c_] at v3
    have g0:((0:Int)<0)=False:=eq_false (by omega)
    simp (maxSteps:=1000000) only [h0,g0,v1,v2,v3,GV,aB,bc,ez,iG,aA,seval]
    refine ⟨.mk k t s n [],by rw [aB,bc],mg,?_⟩
    simp (maxSteps:=1000000) only [v1,v2,v3,aB,bc,ez,iG,aA,seval]
   ·have v4:=vr h0
    have r2:¬r=i2:=fun e=>by rw [e,v2] at v4; cases v4
    have oT:¬i2=r:=fun e=>r2 e.symm
    have hlen:(Nd.bg done).length=ks.length:=by rw [aU,vd]
    rw [bq h0] at v3
    simp (maxSteps:=1000000) only [g,v1,v2,v3,v4,r2,oT,hlen,bq h0,GV,aB,ez,iG,aA,seval]
    refine ⟨.mk k t s n done,by rw [aB,List.take_of_length_le (by rw [hlen]; omega)],mg,?_⟩
    simp (maxSteps:=1000000) only [v1,v2,v3,v4,r2,oT,aB,ez,iG,aA,seval]
end
end Go.Proofs.YtpklkpkfgmoghaaGreatDoor.Zz
namespace Go.Proofs.YtpklkpkfgmoghaaGreatDoor.Zz
noncomputable section
def aik:cm:=⟨⟨[],[(1,1),(2,1),(3,1),(8,6),(8,9)],[],[((8,6),[(.t 6),(.t 5)])],[((8,2),(.t 6))],[]⟩,[(8,[0,1,2,3,4,5,6,7,8,9,10])],[],false⟩
def ab4:dU:=
 sO [oA 4]
 (.seq (sO [oM 0 8,
 oC 84 [.t 8] 9]
 (.defer (.t 9) []))
 (sO [oM 0 10,
 oC 119 [.t 10] 11,
 oA 5,
 oS 5 5 11]
 (.block 0 (.loop (.block 1 (sO [oM 0 12,
 oC 36 [.t 12] 13,
 oQ (.alloc [(.int .i64 0),(.str []),(.int .i64 0)]) 6,
 oS 3 6 13]
 (sO [oF 1 6 14,
 oL 14 15,
 oD 120 [.t 15] 16,
 oM 16 7]
 (.seq (sO [oF 0 6 17,
 oL 17 18,
 oH .neq 18 5 19,
 oM 19 20,
 oG (.cB (.t 7)) 21 20 false true,
 oG (.cB (.t 1)) 22 20 false true,
 oG (.bin .leq (.t 21) (.t 22)) 23 20 false true,
 oP (.pick (.t 20) (kB true) (.t 23)) 24]
 (.cond (.t 24)
 (sO [oJ 5 5 25,
 oS 5 4 25]
 (.ret))
 (.skip)))
 (sO [oM 0 26,
 oN 26 27,
 oF 1 27 28,
 oL 28 29,
 oH .add 29 1 30,
 oN 26 31,
 oF 1 31 32,
 oS 1 32 30]
 (.fS 33 [oM 0 33,
 oF 1 6 34,
 oQ (.cQ none (.t 34) (.t 6)) 35,
 oJ 5 5 36,
 oM 0 37,
 oM 7 38,
 oQ (.callNe (.f 102) [(.t 37),(.t 38)] [(.t 6),(.t 5)]) 39,
 oP (.buildSlice 5 zN 2 [(0,(.t 36)),(1,(.t 39))] false) 40,
 oP (.build zN [(0,1,(kI 26)),(2,1,(.t 35)),(4,1,(.t 40))]) 41,
 oC 35 [.t 33,.t 41] 42,
 oS 5 5 42]))))))))))
theorem afy:bA Tryz.prog 102 aik=some (ab4,[.cell 4 (some 5)],43):=by kernel_rfl
def ail:cm:=⟨⟨[],[(1,4),(2,1),(3,1)],[],[],[],[]⟩,[],[],false⟩
def ab5:dU:=
 sO [oA 6]
 (sO [oM 0 8,
 oM 1 9,
 oM 2 10,
 oP (.build zN [(0,1,(.t 9)),(2,1,(.t 10))]) 11,
 oC 35 [.t 8,.t 11] 12,
 oA 7,
 oS 5 7 12]
 (sO [oM 0 13,
 oC 102 [.t 13,kI 0] 14,
 oP (.buildSlice 5 zN 1 [(0,(.t 14))] false) 15,
 oF 4 7 16,
 oS 1 16 15]
 (sO [oM 0 17,
 oC 60 [.t 17,kS [59]] 18]
 (sO [oJ 5 7 19,
 oS 5 6 19]
 (.ret)))))
theorem afz:bA Tryz.prog 103 ail=some (ab5,[.cell 6 (some 5)],20):=by kernel_rfl
theorem aF {α:Type} {r:PR α} {K K':α→PS→Prop} {E E':Int→Int→Prop} (hk:∀x s,r=.ok x s→K x s→K' x s) (he:∀a e,E a e→E' a e) (h:lg r K E):lg r K' E':=by
 cases r with
 | ok x s=>exact hk _ _ rfl h
 | fail a e=>exact he _ _ h
 | out=>exact h
abbrev dq (n:Nd):D:=.agg n.enc
def cGe (G:List Tok→fg) (args:List D) (h:aa) (K E:D→aa→Prop):Prop:=∃(l:List Tok) (s:PS) (id:Nat) (k:Int),args=[.ptr id 1 0,.int .i64 k]∧yC l∧cP ((G l).expr k) dq l s id h K E
def cGu (G:List Tok→fg) (args:List D) (h:aa) (K E:D→aa→Prop):Prop:=∃(l:List Tok) (s:PS) (id:Nat),args=[.ptr id 1 0]∧yC l∧cP (G l).unary dq l s id h K E
def cGc (G:List Tok→fg) (args:List D) (h:aa) (K E:D→aa→Prop):Prop:=∃(l:List Tok) (s:PS) (id:Nat) (x:List UInt8),args=[.ptr id 1 0,.str x]∧yC l∧cP ((G l).call x) dq l s id h K E
def cGb (G:List Tok→fg) (args:List D) (h:aa) (K E:D→aa→Prop):Prop:=∃(l:List Tok) (s:PS) (id:Nat),args=[.ptr id 1 0]∧yC l∧cP (G l).block dq l s id h K E
def cGs (G:List Tok→fg) (args:List D) (h:aa) (K E:D→aa→Prop):Prop:=∃(l:List Tok) (s:PS) (id:Nat),args=[.ptr id 1 0]∧yC l∧cP (G l).stmt dq l s id h K E
def cGr (G:List Tok→fg) (args:List D) (h:aa) (K E:D→aa→Prop):Prop:=∃(l:List Tok) (s:PS) (id:Nat),args=[.ptr id 1 0]∧yC l∧cP (G l).branch dq l s id h K E
theorem Ug (G:List Tok→fg) (args:List D) (h:aa) (K E K' E':D→aa→Prop) (hk:∀d h,K d h→K' d h) (he:∀d h,E d h→E' d h) (c:cGe G args h K E):cGe G args h K' E':=by
 obtain ⟨l,s,id,k,a,b,c⟩:=c
 exact ⟨l,s,id,k,a,b,fW hk he c⟩
theorem Uj (G:List Tok→fg) (args:List D) (h:aa) (K E K' E':D→aa→Prop) (hk:∀d h,K d h→K' d h) (he:∀d h,E d h→E' d h) (c:cGu G args h K E):cGu G args h K' E':=by
 obtain ⟨l,s,id,a,b,c⟩:=c
 exact ⟨l,s,id,a,b,fW hk he c⟩
theorem Uf (G:List Tok→fg) (args:List D) (h:aa) (K E K' E':D→aa→Prop) (hk:∀d h,K d h→K' d h) (he:∀d h,E d h→E' d h) (c:cGc G args h K E):cGc G args h K' E':=by
 obtain ⟨l,s,id,k,a,b,c⟩:=c
 exact ⟨l,s,id,k,a,b,fW hk he c⟩
theorem Ue (G:List Tok→fg) (args:List D) (h:aa) (K E K' E':D→aa→Prop) (hk:∀d h,K d h→K' d h) (he:∀d h,E d h→E' d h) (c:cGb G args h K E):cGb G args h K' E':=by
 obtain ⟨l,s,id,a,b,c⟩:=c
 exact ⟨l,s,id,a,b,fW hk he c⟩
theorem Ui (G:List Tok→fg) (args:List D) (h:aa) (K E K' E':D→aa→Prop) (hk:∀d h,K d h→K' d h) (he:∀d h,E d h→E' d h) (c:cGs G args h K E):cGs G args h K' E':=by
 obtain ⟨l,s,id,a,b,c⟩:=c
 exact ⟨l,s,id,a,b,fW hk he c⟩
theorem Uh (G:List Tok→fg) (args:List D) (h:aa) (K E K' E':D→aa→Prop) (hk:∀d h,K d h→K' d h) (he:∀d h,E d h→E' d h) (c:cGr G args h K E):cGr G args h K' E':=by
 obtain ⟨l,s,id,a,b,c⟩:=c
 exact ⟨l,s,id,a,b,fW hk he c⟩
def BW (G:List Tok→fg):bh:=(((((xT.gI 102 (cGe G) (Ug G)).gI 119 (cGu G) (Uj G)).gI 104 (cGc G) (Uf G)).gI 62 (cGb G) (Ue G)).gI 85 (cGs G) (Ui G)).gI 101 (cGr G) (Uh G)
theorem acv {G:List Tok→fg}:(BW G).q=xT.q:=rfl
theorem acs {G:List Tok→fg}:(BW G).a=xT.a:=rfl
theorem acu {G:List Tok→fg} (g:FuncId) (args:List D) (h:aa) (K E:D→aa→Prop):(BW G).c g args h K E=if g=101 then cGr G args h K E else if g=85 then cGs G args h K E else if g=62 then cGb G args h K E else if g=104 then cGc G args h K E else if g=119 then cGu G args h K E else if g=102 then cGe G args h K E else xT.c g args h K E:=rfl
theorem aM:type_of% (And.intro (And.intro @acv (And.intro @acs @acu)) @aq):=(And.intro (And.intro @acv (And.intro @acs @acu)) @aq)
theorem push_id {id:Nat} (h:aa) (j:Nat) (B C:cJ) (e:¬j=id):(h.set j B).set id C=(h.set id C).set j B:=aa.ext fun q=>by
 simp only [aa.b9]
 by_cases lM:q=id
 ·subst lM
  have:¬q=j:=fun x=>e x.symm
  simp [this]
 ·simp [lM]
theorem bj {a b c d e:D} (n:Nd):setAt [a,b,c,d,e] 0 n.enc=n.enc:=by
 obtain ⟨k,t,s,m,l⟩:=n
 rw [aB]; rfl
theorem aQ (n:Nd):n.enc.take 5=n.enc:=by
 obtain ⟨k,t,s,m,l⟩:=n
 rw [aB]; rfl
theorem bm (m n:Nd):setAt m.enc 0 n.enc=n.enc:=by
 obtain ⟨k,t,s,v,l⟩:=m
 rw [aB,bj]
theorem WG (G:List Tok→fg) (hT:(BW G).ok Tryz.prog) (l:List Tok) (hl:yC l) (s:PS) (i1:Nat) (kd:Int) (x:List UInt8) (ok:dy l s) (K0:Nd→PS→Prop) (E0:Int→Int→Prop) (hw:lg (jY l (G l) kd x s) (fun x s'=>dy l s'→K0 x s') E0):aH Tryz.prog 103 [.ptr i1 1 0,.int .i64 kd,.str x] (aa.emp.set i1 (cK l s)) (nV dq l i1 K0 E0):=by
 refine aH.cv hT (dc:=cy.none) (fun _ _=>cy.cX) (by kernel_rfl) afz (by simp) ?_
 rw [cA]
 have hp:=fun (h:aa) (j:Nat) (B C:cJ)=>push_id (id:=i1) h j B C
 unfold jY at hw
 rw [aR] at hw
 simp (maxSteps:=1000000) only [ab5,hp,hp,au,aC,ah,ao,aQ,bj,bm,af,ae,ab,ag,av,aM,aq,aA,seval]
 intro i2 an ak
 refine .inl ⟨l,s,i1,.mk kd 0 x 0 [],by simp only [aB,bc],hl.lo,(by simp [an,ak]),ok,js (fun n cM k iW=>?_) (fun a e k s'=>?_) hw⟩
 case refine_2=>
  simp only [aX,ab,av]
  exact aI (s':=s') (by simp [an,ak]) k
 obtain ⟨nk,nt,ns,nm,nl⟩:=n
 rw [aR] at k
 simp (maxSteps:=1000000) only [aB,hp,an,ak,au,aC,ah,ao,aQ,bj,bm,af,ae,ab,ag,av,aM,aq,aA,seval]
 intro i3 ax aw az ay
 refine ⟨l,cM,i1,0,rfl,hl,(by simp [an,ak,ax,aw,az,ay]),iW,js (fun e ff k lR=>?_) (fun a e k s'=>?_) k⟩
 case refine_2=>
  simp only [aX,ab,av]
  exact aI (s':=s') (by simp [an,ak,ax,aw,az,ay]) k
 rw [aR] at k
 simp (maxSteps:=1000000) only [hp,an,ak,ax,aw,az,ay,au,aC,ah,ao,aQ,bj,bm,af,ae,ab,ag,av,aM,aq,aA,seval]
 refine ⟨l,ff,i1,[59],rfl,hl.lo,(by simp [an,ak,ax,aw,az,ay]),lR,js (fun _ fP k p_=>?_) (fun a e k s'=>?_) k⟩
 case refine_2=>
  simp only [aX,ab,av]
  exact aI (s':=s') (by simp [an,ak,ax,aw,az,ay]) k
 rw [cU] at k
 simp (maxSteps:=1000000) only [hp,an,ak,ax,aw,az,ay,au,aC,ah,ao,aQ,bj,bm,af,ae,ab,ag,av,aM,aq,aA,seval]
 exact cV (x:=.mk nk nt ns nm [e]) (s':=fP) (by rw [dq,aB,bO,bc]) (by simp [an,ak,ax,aw,az,ay]) (k p_)
theorem jR {l:List Tok} {s s':PS} (ok:dy l s) (sE:dy l s') (e:s'.deep=s.deep+1):dy l { s' with deep:=s'.deep - 1 }∧IntKind.i64.wrap (s'.deep - 1)=s'.deep - 1:=by
 obtain ⟨h1,h2,h3,h4,h5,h6⟩:=ok
 obtain ⟨g1,g2,g3,g4,g5,g6⟩:=sE
 exact ⟨⟨g1,g2,g3,g4,by simp only; omega,by simp only; omega⟩,wrap_i64 (by omega) (by omega)⟩
theorem zU {l:List Tok} {s:PS} (ok:dy l s) (h:¬s.deep+1>40):dy l { s with deep:=s.deep+1 }:=by
 obtain ⟨h1,h2,h3,h4,h5,h6⟩:=ok
 exact ⟨h1,h2,h3,h4,by simp only; omega,by simp only; omega⟩
theorem adR (G:List Tok→fg) (hG:∀l,qh (G l)) (hT:(BW G).ok Tryz.prog) (l:List Tok) (hl:yC l) (s:PS) (i1:Nat) (least:Int) (ok:dy l s) (K0:Nd→PS→Prop) (E0:Int→Int→Prop) (hw:lg (CJ l (G l) least s) (fun x s'=>dy l s'→K0 x s') E0):aH Tryz.prog 102 [.ptr i1 1 0,.int .i64 least] (aa.emp.set i1 (cK l s)) (nV dq l i1 K0 E0):=by
 refine aH.cv hT (dc:=CB) zP (by kernel_rfl) afy (by simp) ?_
 rw [cA]
 have hp:=fun (h:aa) (j:Nat) (B C:cJ)=>push_id (id:=i1) h j B C
 have w1:IntKind.i64.wrap (s.deep+1)=s.deep+1:=wrap_i64 (by have:=ok.d0; omega) (by have:=ok.d1; omega)
 unfold CJ nh pIn at hw
 rw [aR] at hw
 simp (maxSteps:=1000000) only [ab4,IW,cK,aM,aq,aA,seval]
 intro i2 an ak i3 ax aw az ay
 by_cases c:s.deep+1>40
 ·have g:(s.deep+1>40)=True:=eq_true c
  rw [if_pos c] at hw
  simp (maxSteps:=1000000) only [g,w1,hp,an,ak,ax,aw,az,ay,au,aC,ah,ao,aQ,bj,bm,af,ae,ab,ag,av,aM,aq,aA,seval]
  refine ⟨l,{ s with deep:=s.deep+1 },i1,3,rfl,by simp [cK,an,ak,ax,aw,az,ay],ok.at_,?_⟩
  simp only [Im,aX,true_and]
  refine ⟨rfl,?_⟩
  show gb CB [] (some (p5 _ 3)) _ _
  simp only [ab,av]
  exact aI (s':={ s with deep:=s.deep+1 }) (by simp [cK,an,ak,ax,aw,az,ay]) hw
 ·have g:(s.deep+1>40)=False:=eq_false c
  rw [if_neg c,cU] at hw
  have YI:=zU ok c
  simp only [Mc,aR,cU] at hw
  simp (maxSteps:=1000000) only [g,w1,hp,an,ak,ax,aw,az,ay,au,aC,ah,ao,aQ,bj,bm,af,ae,ab,ag,av,aM,aq,aA,seval]
  generalize HL:({ s with deep:=s.deep+1 }:PS)=sd at*
  have YD:sd.deep=s.deep+1:=by rw [←HL]
  refine ⟨l,sd,i1,rfl,hl,by rw [←HL]; simp [cK,an,ak,ax,aw,az,ay],YI,aF (fun n cM en k iW=>?_) (fun a e k s'=>?_) hw⟩
  case refine_2=>
   simp only [aX,ag,ab,List.nil_append,List.append_nil]
   refine ⟨rfl,i3,i1,l,s',rfl,by simp [an,ak,ax,aw,az,ay],by simp [an,ak,ax,aw,az,ay],?_⟩
   simp only [av]
   exact aI (s':={ s' with deep:=IntKind.i64.wrap (s'.deep - 1) }) (by simp [an,ak,ax,aw,az,ay]) k
  have d1:=(hG l).unary sd n cM en
  rw [YD] at d1
  simp (maxSteps:=1000000) only [hp,an,ak,ax,aw,az,ay,au,aC,ah,ao,aQ,bj,bm,af,ae,ab,ag,av,aM,aq,aA,seval]
  intro i4 aL aP aK aO aJ aN
  refine r_ (X:=Nat×Nd×PS) [⟨.func 100,[.ptr i3 1 0],[]⟩] (fun z=>[(0,.ptr i1 1 0),(1,.int .i64 least),(4,.ptr i2 1 0),(5,.ptr i4 1 0)])
   (fun z=>(((aa.emp.set i1 (cK l z.2.2)).set i2 (.cells [.int .i64 0,.int .i64 0,.str [],.int .i64 0,.aZ])).set i3 (.cells [.ptr i1 1 0])).set i4 (.cells z.2.1.enc)) (fun z=>z.1)
   (fun z=>dy l z.2.2∧z.2.2.deep=s.deep+1∧lg (wu l (G l) least z.1 z.2.1 z.2.2) (fun x s'=>dy l { s' with deep:=s'.deep - 1 }→K0 x { s' with deep:=s'.deep - 1 }) E0)
   (l.length+1,n,cM) ⟨iW,d1,k⟩ (by simp only [aq,aA,seval]) (aa.aj _) ?_
  clear hw HL en k iW d1 n cM YD YI
  rintro ⟨j,n,jL⟩ Q ⟨qQ,d0,hw⟩ hQ
  simp only at qQ d0 hw hQ ⊢
  cases j with
  | zero=>exact hw.elim
  | succ j=>
  unfold wu at hw
  simp (maxSteps:=1000000) only [hp,an,ak,ax,aw,az,ay,aL,aP,aK,aO,aJ,aN,au,aC,ah,ao,aQ,bj,bm,af,ae,ab,ag,av,aM,aq,aA,seval]
  refine ⟨l,jL,i1,rfl,(by simp [an,ak,ax,aw,az,ay,aL,aP,aK,aO,aJ,aN]),qQ.at_,?_⟩
  have qc:=Il hl.lo qQ
  have w2:IntKind.i64.wrap (jL.pos+1)=jL.pos+1:=wrap_i64 (by have:=qQ.p0p; omega) (by have:=qQ.SX; have:=hl.lo.len; omega)
  generalize ht:fe l jL=t at*
  obtain ⟨kk,y,a⟩:=t
  simp only at hw qc
  have hq:IF [.str y]=some (.int .i64 (gZ y)):=rfl
  simp only [iV]
  simp (maxSteps:=1000000) only [hq,cK,hp,an,ak,ax,aw,az,ay,aL,aP,aK,aO,aJ,aN,au,aC,ah,ao,aQ,bj,bm,af,ae,ab,ag,av,aM,aq,aA,seval]
  intro i5 bK bU bJ bT bI bS bH bR
  have fin:∀(h:aa) (D1:List D),lg (.ok n jL:PR Nd) (fun x s'=>dy l { s' with deep:=s'.deep - 1 }→K0 x { s' with deep:=s'.deep - 1 }) E0→K0 n { jL with deep:=jL.deep - 1 }:=fun _ _ h=>h (jR ok qQ d0).1
  have wd:=(jR ok qQ d0).2
  cases BP:(kk != 5) with
  | true=>
   rw [BP,Bool.true_or,cond_true] at hw
   have hw:=fin .emp [] hw
   simp (maxSteps:=1000000) only [BP,hq,cK,hp,an,ak,ax,aw,az,ay,aL,aP,aK,aO,aJ,aN,bK,bU,bJ,bT,bI,bS,bH,bR,au,aC,ah,ao,aQ,bj,bm,af,ae,ab,ag,av,aM,aq,aA,seval]
   refine ⟨rfl,i3,i1,l,jL,rfl,by simp [an,ak,ax,aw,az,ay,aL,aP,aK,aO,aJ,aN,bK,bU,bJ,bT,bI,bS,bH,bR],by simp [cK,an,ak,ax,aw,az,ay,aL,aP,aK,aO,aJ,aN,bK,bU,bJ,bT,bI,bS,bH,bR],?_⟩
   rw [wd]
   simp (maxSteps:=1000000) only [BP,hq,hp,an,ak,ax,aw,az,ay,aL,aP,aK,aO,aJ,aN,bK,bU,bJ,bT,bI,bS,bH,bR,au,aC,ah,ao,aQ,bj,bm,af,ae,ab,ag,av,aM,aq,aA,seval]
   exact cV (x:=n) (s':={ jL with deep:=jL.deep - 1 }) rfl (by simp [an,ak,ax,aw,az,ay,aL,aP,aK,aO,aJ,aN,bK,bU,bJ,bT,bI,bS,bH,bR]) hw
  | false=>
  have e5:kk=5:=by simpa using BP
  have sE:=qc (by omega)
  rw [BP,Bool.false_or] at hw
  by_cases cr:gZ y≤least
  ·have gr:(gZ y≤least)=True:=eq_true cr
   rw [show decide (gZ y≤least)=true by simpa using cr,cond_true] at hw
   have hw:=fin .emp [] hw
   simp (maxSteps:=1000000) only [BP,hq,gr,cK,hp,an,ak,ax,aw,az,ay,aL,aP,aK,aO,aJ,aN,bK,bU,bJ,bT,bI,bS,bH,bR,au,aC,ah,ao,aQ,bj,bm,af,ae,ab,ag,av,aM,aq,aA,seval]
   refine ⟨rfl,i3,i1,l,jL,rfl,by simp [an,ak,ax,aw,az,ay,aL,aP,aK,aO,aJ,aN,bK,bU,bJ,bT,bI,bS,bH,bR],by simp [cK,an,ak,ax,aw,az,ay,aL,aP,aK,aO,aJ,aN,bK,bU,bJ,bT,bI,bS,bH,bR],?_⟩
   rw [wd]
   simp (maxSteps:=1000000) only [BP,hq,hp,an,ak,ax,aw,az,ay,aL,aP,aK,aO,aJ,aN,bK,bU,bJ,bT,bI,bS,bH,bR,au,aC,ah,ao,aQ,bj,bm,af,ae,ab,ag,av,aM,aq,aA,seval]
   exact cV (x:=n) (s':={ jL with deep:=jL.deep - 1 }) rfl (by simp [an,ak,ax,aw,az,ay,aL,aP,aK,aO,aJ,aN,bK,bU,bJ,bT,bI,bS,bH,bR]) hw
  ·have gr:(gZ y≤least)=False:=eq_false cr
   rw [show decide (gZ y≤least)=false by simpa using cr,cond_false,aR] at hw
   simp (maxSteps:=1000000) only [BP,hq,gr,cK,w2,hp,an,ak,ax,aw,az,ay,aL,aP,aK,aO,aJ,aN,bK,bU,bJ,bT,bI,bS,bH,bR,au,aC,ah,ao,aQ,bj,bm,af,ae,ab,ag,av,aM,aq,aA,seval]
   refine ⟨l,di jL,i1,gZ y,rfl,hl,by simp [cK,di,an,ak,ax,aw,az,ay,aL,aP,aK,aO,aJ,aN,bK,bU,bJ,bT,bI,bS,bH,bR],sE,aF (fun r ff er k lR=>?_) (fun a e k s'=>?_) hw⟩
   case refine_2=>
    intro σ hσ _
    simp only [aX]
    rw [hσ]
    show gb CB [⟨.func 100,[.ptr i3 1 0],[]⟩] _ _ _
    simp only [ag,ab,List.nil_append]
    refine ⟨rfl,i3,i1,l,s',rfl,by simp [an,ak,ax,aw,az,ay,aL,aP,aK,aO,aJ,aN,bK,bU,bJ,bT,bI,bS,bH,bR],by simp [an,ak,ax,aw,az,ay,aL,aP,aK,aO,aJ,aN,bK,bU,bJ,bT,bI,bS,bH,bR],?_⟩
    simp only [av]
    exact aI (s':={ s' with deep:=IntKind.i64.wrap (s'.deep - 1) }) (by simp [an,ak,ax,aw,az,ay,aL,aP,aK,aO,aJ,aN,bK,bU,bJ,bT,bI,bS,bH,bR]) k
   have d2:ff.deep=s.deep+1:=((hG l).expr _ _ r ff er).trans d0
   rw [aR] at k
   simp (maxSteps:=1000000) only [dq,hp,an,ak,ax,aw,az,ay,aL,aP,aK,aO,aJ,aN,bK,bU,bJ,bT,bI,bS,bH,bR,au,aC,ah,ao,aQ,bj,bm,af,ae,ab,ag,av,aM,aq,aA,seval]
   refine .inl ⟨l,ff,i1,.mk 26 0 y 0 [n,r],by simp only [aB,bO,bc],hl.lo,(by simp [an,ak,ax,aw,az,ay,aL,aP,aK,aO,aJ,aN,bK,bU,bJ,bT,bI,bS,bH,bR]),lR,aF (fun n2 fP en k p_=>?_) (fun a e k s'=>?_) k⟩
   case refine_2=>
    intro σ hσ _
    simp only [aX]
    rw [hσ]
    show gb CB [⟨.func 100,[.ptr i3 1 0],[]⟩] _ _ _
    simp only [ag,ab,List.nil_append]
    refine ⟨rfl,i3,i1,l,s',rfl,by simp [an,ak,ax,aw,az,ay,aL,aP,aK,aO,aJ,aN,bK,bU,bJ,bT,bI,bS,bH,bR],by simp [an,ak,ax,aw,az,ay,aL,aP,aK,aO,aJ,aN,bK,bU,bJ,bT,bI,bS,bH,bR],?_⟩
    simp only [av]
    exact aI (s':={ s' with deep:=IntKind.i64.wrap (s'.deep - 1) }) (by simp [an,ak,ax,aw,az,ay,aL,aP,aK,aO,aJ,aN,bK,bU,bJ,bT,bI,bS,bH,bR]) k
   have d3:fP.deep=s.deep+1:=(cF n2 fP en).trans d2
   simp (maxSteps:=1000000) only [dq,hp,an,ak,ax,aw,az,ay,aL,aP,aK,aO,aJ,aN,bK,bU,bJ,bT,bI,bS,bH,bR,au,aC,ah,ao,aQ,bj,bm,af,ae,ab,ag,av,aM,aq,aA,seval]
   refine hQ (j,n2,fP) _ _ ⟨p_,d3,k⟩ (by simp only [aq,aA,seval]) ?_ (by simp only; omega)
   simp only
   exact aa.fm (by repeat' first | with_reducible exact aa.bZ | with_reducible exact aa.cz | refine aa.dS (by simp [an,ak,ax,aw,az,ay,aL,aP,aK,aO,aJ,aN,bK,bU,bJ,bT,bI,bS,bH,bR]) ?_ | refine aa.dT (by simp [an,ak,ax,aw,az,ay,aL,aP,aK,aO,aJ,aN,bK,bU,bJ,bT,bI,bS,bH,bR]) ?_)
end
end Go.Proofs.YtpklkpkfgmoghaaGreatDoor.Zz
