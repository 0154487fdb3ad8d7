/- Contracts: a text's program. -/
import Derived.Test.YtpklkpkfgmoghaaGreatDoorZP15
import Derived.Test.YtpklkpkfgmoghaaGreatDoorZP17
import Derived.Test.YtpklkpkfgmoghaaGreatDoorZP6
import Derived.Test.YtpklkpkfgmoghaaGreatDoorZC33
import Derived.Test.YtpklkpkfgmoghaaGreatDoorZA0
import Derived.KernelRfl
set_option linter.unnecessarySimpa false
set_option linter.unusedVariables false
set_option linter.unusedSimpArgs false
set_option maxRecDepth 20000
namespace Go.Proofs.YtpklkpkfgmoghaaGreatDoor.Zz
noncomputable section
def p7p:cm:=⟨⟨[],[(6,1)],[],[((3,3),[(.t 3),(.t 4)]),((3,4),[(.t 4)])],[],[]⟩,[(3,[0,1,2,3,4,5])],[],false⟩
def Gg:dU:=
 sO [oA 2,
 oQ (.alloc [(.int .i64 0)]) 3,
 oQ (.alloc [(.int .i64 0)]) 4]
 (sO [oM 0 8,
 oD 20 [.t 8] 9,
 oM 9 7,
 oX 7 0 10,
 oX 7 1 11,
 oX 7 2 12,
 oM 10 5,
 oS 1 3 11,
 oS 1 4 12]
 (.seq (sO [oL 4 13,
 oH .neq 13 0 14]
 (.cond (.t 14)
 (.seq (.fS 15 [oP (.build zN []) 15,
 oL 3 16,
 oL 4 17,
 oU (.storeNe 5 (.t 2) (.t 15) [(.t 3),(.t 4)]),
 oU (.storeNe 1 (.t 3) (.t 16) [(.t 4)]),
 oS 1 4 17])
 (.ret))
 (.skip)))
 (.seq (sO [oP (.mkFunc (.func 21) [] [(.t 2),(.t 3),(.t 4)]) 18]
 (.defer (.t 18) []))
 (sO [oM 5 19,
 oP (.build [.aZ,(.int .i64 0),(.int .i64 0),(.int .i64 0)] [(0,1,(.t 19))]) 20,
 oQ (.box (.t 20)) 21,
 oM 21 6]
 (sO [oM 6 22,
 oC 22 [.t 22] 23,
 oS 5 2 23,
 oU (.store 1 (.t 3) (kI 0)),
 oU (.store 1 (.t 4) (kI 0))]
 (.ret))))))
theorem anT:bA Tryz.prog 7 p7p=some (Gg,[.cell 2 (some 5),.cell 3 none,.cell 4 none],24):=by kernel_rfl
def Wc:List D→Option D
 | [.str s]=>some (.tuple [.sl (oh (tokens s).1),.int .i64 (tokens s).2.1,.int .i64 (tokens s).2.2])
 | _=>none
theorem aae (args:List D) (d:D) (h:Wc args=some d):aV Tryz.prog 20 args d:=by
 unfold Wc at h
 split at h
 ·cases h; exact Ya _
 ·cases h
def GM (f:Nat) (args:List D) (h:aa) (K E:D→aa→Prop):Prop:=∃(l:List Tok) (s:PS) (id:Nat),args=[.ptr id 1 0]∧yC l∧cP (A5 l (qg l f)) dq l s id h K E
theorem Ln (f:Nat) (args:List D) (h:aa) (K E K' E':D→aa→Prop) (hk:∀d h,K d h→K' d h) (he:∀d h,E d h→E' d h) (c:GM f args h K E):GM f args h K' E':=by
 obtain ⟨l,s,id,a,b,c⟩:=c
 exact ⟨l,s,id,a,b,fW hk he c⟩
theorem Uy (f:Nat) (args:List D) (h:aa) (K E:D→aa→Prop) (c:GM f args h K E):aH Tryz.prog 22 args h (cY.to K E):=by
 obtain ⟨l,s,id,rfl,hl,c⟩:=c
 exact kQ (fun ok K0 E0 hw=>SZ f l hl s id ok K0 E0 hw) c
def xu:bh:=bh.zero.dR 20 Wc
theorem OG (g:FuncId) (args:List D):xu.q g args=if g=20 then Wc args else bh.zero.q g args:=rfl
theorem OD:xu.a=bh.zero.a:=rfl
theorem OE:xu.c=bh.zero.c:=rfl
theorem WR:xu.ok Tryz.prog:=bh.bE (bh.dJ _) aae
theorem pM:type_of% (And.intro @OG (And.intro @OD @OE)):=(And.intro @OG (And.intro @OD @OE))
def tbM (f:Nat):bh:=xu.gI 22 (GM f) (Ln f)
theorem afQ (f:Nat):(tbM f).ok Tryz.prog:=bh.bQ WR fun args h K E c=>Uy f args h K E c
theorem acy {f:Nat}:(tbM f).q=xu.q:=rfl
theorem acw {f:Nat}:(tbM f).a=xu.a:=rfl
theorem acx {f:Nat} (g:FuncId) (args:List D) (h:aa) (K E:D→aa→Prop):(tbM f).c g args h K E=if g=22 then GM f args h K E else xu.c g args h K E:=rfl
theorem Kf:type_of% (And.intro (And.intro @acy (And.intro @acw @acx)) @pM):=(And.intro (And.intro @acy (And.intro @acw @acx)) @pM)
theorem Z8 (f:Nat) (x:List UInt8) (n:Nd) (a e:Int) (hp:mu f x=some (n,a,e)):aV Tryz.prog 7 [.str x] (.tuple [.agg n.enc,.int .i64 a,.int .i64 e]):=by
 refine aH.cv (afQ f) (dc:=ag_) Zg (by kernel_rfl) anT (by simp) ?_
 rw [cA]
 have hq:Wc [.str x]=some (.tuple [.sl (oh (tokens x).1),.int .i64 (tokens x).2.1,.int .i64 (tokens x).2.2]):=rfl
 unfold mu at hp
 simp (maxSteps:=1000000) only [Gg,hq,Kf,aq,pM,aA,seval]
 intro i1  i2 an ak i3 ax aw az ay
 have hW:=Tu x
 generalize tokens x=T at*
 obtain ⟨l,a0,e0⟩:=T
 simp only at hp hW
 by_cases c:e0=0
 ·subst c
  rw [if_pos rfl] at hp
  obtain ⟨hl,vb⟩:=hW rfl
  simp (maxSteps:=1000000) only [an,ak,ax,aw,az,ay,Kf,aq,pM,aA,seval]
  intro i4 aL aP aK aO _ _ _ _ aJ aN
  have ok:dy l ⟨0,0,0⟩:=⟨(show (0:Int)≤0 by omega),(show (0:Int)<l.length by omega),(show (0:Int)≤0 by omega),(show (0:Int)≤2000 by omega),(show (0:Int)≤0 by omega),(show (0:Int)≤40 by omega)⟩
  refine ⟨l,⟨0,0,0⟩,i4,rfl,hl,by simp [cK],ok,?_⟩
  cases hr:A5 l (qg l f) ⟨0,0,0⟩ with
  | out=>rw [hr] at hp; cases hp
  | ok m s'=>
   rw [hr] at hp
   cases hp
   rw [cU]
   intro sE
   obtain ⟨nk,nt,ns,nm,nl⟩:=n
   simp (maxSteps:=1000000) only [an,ak,ax,aw,az,ay,aL,aP,aK,aO,aJ,aN,dq,aB,af,ag,ab,Kf,aq,pM,aA,seval]
   refine ⟨rfl,i1,i2,i3,[.int .i64 nk,.int .i64 nt,.str ns,.int .i64 nm,.sl (Nd.bg nl)],.int .i64 0,.int .i64 0,rfl,rfl,(by simp [an,ak,ax,aw,az,ay,aL,aP,aK,aO,aJ,aN]),(by simp [an,ak,ax,aw,az,ay,aL,aP,aK,aO,aJ,aN]),(by simp [an,ak,ax,aw,az,ay,aL,aP,aK,aO,aJ,aN]),an,ak,az,ay,ax,aw,.inl ⟨rfl,?_⟩⟩
   simp (maxSteps:=1000000) only [an,ak,ax,aw,az,ay,aL,aP,aK,aO,aJ,aN,av,aA,seval]
   exact .inl ⟨_,aa.aj _⟩
  | fail a' e'=>
   rw [hr] at hp
   cases hp
   rw [Yy]
   intro s'
   simp (maxSteps:=1000000) only [aX,ag,ab,List.nil_append,List.append_nil]
   refine ⟨rfl,i1,i2,i3,[.int .i64 0,.int .i64 0,.str [],.int .i64 0,.aZ],.int .i64 a0,.int .i64 0,rfl,rfl,(by simp [an,ak,ax,aw,az,ay,aL,aP,aK,aO,aJ,aN]),(by simp [an,ak,ax,aw,az,ay,aL,aP,aK,aO,aJ,aN]),(by simp [an,ak,ax,aw,az,ay,aL,aP,aK,aO,aJ,aN]),an,ak,az,ay,ax,aw,.inr ⟨a,e,rfl,?_⟩⟩
   simp (maxSteps:=1000000) only [ab,av,aB,bc,an,ak,ax,aw,az,ay,aL,aP,aK,aO,aJ,aN,aA,seval]
   exact .inr ⟨_,aa.aj _⟩
 ·rw [if_neg c] at hp
  have g:(e0 != 0)=true:=by simpa using c
  cases hp
  simp (maxSteps:=1000000) only [an,ak,ax,aw,az,ay,g,af,ab,av,Kf,aq,pM,aA,seval]
  have m12:(!i1==i2)=true:=by simp [ak]
  have m13:(!i1==i3)=true:=by simp [ay]
  have m23:(!i2==i3)=true:=by simp [aw]
  refine ⟨by simp [m12,m13],?_⟩
  simp (maxSteps:=1000000) only [an,ak,ax,aw,az,ay,g,m12,m13,m23,af,ab,av,Kf,aq,pM,aA,seval]
  exact .inr ⟨_,aa.aj _,by rw [aB,bc]⟩
def qZ (f:Nat):List D→Option D
 | [.str x]=>(mu f x).map fun y=>.tuple [.agg y.1.enc,.int .i64 y.2.1,.int .i64 y.2.2]
 | _=>none
theorem DU (f:Nat) (args:List D) (d:D) (h:qZ f args=some d):aV Tryz.prog 7 args d:=by
 unfold qZ at h
 split at h
 ·simp only [Option.map_eq_some_iff] at h
  obtain ⟨⟨n,a,e⟩,h1,rfl⟩:=h
  exact Z8 f _ n a e h1
 ·cases h
end
end Go.Proofs.YtpklkpkfgmoghaaGreatDoor.Zz
namespace Go.Proofs.YtpklkpkfgmoghaaGreatDoor.Zz
noncomputable section
theorem abk (p:Nd):Why p:=fun i e h hi=>by
 rw [sG,List.getElem?_eq_getElem hi] at h
 simp only at h
 split at h
 ·cases h; decide
 ·exact CE h
open Classical in
def FI (args:List D):Option D:=if h:∃x:Nd,args=[.agg x.enc]∧x.cI≤400000 then some (GV (iO (Classical.choose h))) else none
theorem uy {p:Nd} (hp:p.cI≤400000):FI [.agg p.enc]=some (GV (iO p)):=by
 have h:∃x:Nd,[D.agg p.enc]=[.agg x.enc]∧x.cI≤400000:=⟨p,rfl,hp⟩
 rw [FI,dif_pos h]
 have e:=(Classical.choose_spec h).1
 injection e with e1
 injection e1 with e1
 rw [←po _ _ e1]
theorem N_ (args:List D) (d:D) (h:FI args=some d):aV Tryz.prog 11 args d:=by
 unfold FI at h
 split at h
 ·rename_i hx
  have e:=Classical.choose_spec hx
  cases h
  obtain ⟨p,hp⟩:∃x,x=Classical.choose hx:=⟨_,rfl⟩
  rw [←hp] at e ⊢
  obtain ⟨rfl,e1⟩:=e
  exact Zc p e1 (abk p)
 ·cases h
def Rp (f:Nat) (T:List UInt8):Option Nd:=if (tokens T).2.2=0 then (D5 (sF f) 0 (lB (tokens T).1) 0).map (·.1) else none
theorem Kl {f:Nat} {T:List UInt8} {n:Nd} (h:Rp f T=some n):mu f T=some (n,0,0):=by
 unfold Rp at h
 split at h
 ·rename_i h1
  simp only [Option.map_eq_some_iff] at h
  obtain ⟨⟨m,ws,k⟩,h2,rfl⟩:=h
  exact It h1 h2
 ·cases h
def M4 (f:Nat) (T:List UInt8) (ok:Int→Int→Bool):Bool:=match Rp f T with
 | some n=>decide (n.cI≤400000) && decide (T.length≤4096) && ok (iO n).2.1 (iO n).2.2
 | none=>false
theorem M5 {f:Nat} {T:List UInt8} {ok:Int→Int→Bool} (h:M4 f T ok=true):∃(n m:Nd) (a e:Int),qZ f [.str T]=some (.tuple [.agg n.enc,.int .i64 0,.int .i64 0])∧FI [.agg n.enc]=some (.tuple [.agg m.enc,.int .i64 a,.int .i64 e])∧ok a e=true:=by
 unfold M4 at h
 cases ht:Rp f T with
 | none=>rw [ht] at h; cases h
 | some n=>
  rw [ht] at h
  simp only [Bool.and_eq_true,decide_eq_true_eq] at h
  exact ⟨n,(iO n).1,(iO n).2.1,(iO n).2.2,by simp only [qZ,Kl ht,Option.map_some],uy h.1.1,h.2⟩
def Wo:List D→Option D:=qZ 60
theorem aaB (args:List D) (d:D) (h:Wo args=some d):aV Tryz.prog 7 args d:=DU 60 args d h
def tk7:bh:=bh.zero.dR 7 Wo
theorem acJ (g:FuncId) (args:List D):tk7.q g args=if g=7 then Wo args else bh.zero.q g args:=rfl
theorem acG:tk7.a=bh.zero.a:=rfl
theorem acH:tk7.c=bh.zero.c:=rfl
theorem afT:tk7.ok Tryz.prog:=bh.bE (bh.dJ _) aaB
theorem acI:type_of% (And.intro @acJ (And.intro @acG @acH)):=(And.intro @acJ (And.intro @acG @acH))
def aa7:bh:=tk7.dR 11 FI
theorem X_ (g:FuncId) (args:List D):aa7.q g args=if g=11 then FI args else tk7.q g args:=rfl
theorem X8:aa7.a=tk7.a:=rfl
theorem X9:aa7.c=tk7.c:=rfl
theorem aa8:aa7.ok Tryz.prog:=bh.bE afT N_
theorem afS:type_of% (And.intro (And.intro @X_ (And.intro @X8 @X9)) @acI):=(And.intro (And.intro @X_ (And.intro @X8 @X9)) @acI)
def amF:cm:=⟨⟨[],[],[],[],[],[]⟩,[],[],false⟩
def aiQ:dU:=
 sO [oP (.cB (kB false)) 0]
 (sO [oD 7 [(kS [102,117,110,99,32,102,40,41,32,105,110,116,32,123,32,114,101,116,117,114,110,32,49,59,32,125,32,102,117,110,99,32,103,40,41,32,105,110,116,32,123,32,114,101,116,117,114,110,32,49,46,48,59,32,125])] 14,
 oM 14 13,
 oX 13 0 15,
 oX 13 1 16,
 oX 13 2 17,
 oA 1,
 oS 5 1 15,
 oM 16 2,
 oM 17 3]
 (sO [oJ 5 1 19,
 oD 11 [.t 19] 20,
 oM 20 18,
 oX 18 0 21,
 oX 18 1 22,
 oX 18 2 23,
 oA 4,
 oS 5 4 21,
 oM 22 5,
 oM 23 6]
 (sO [oD 7 [(kS [102,117,110,99,32,102,40,41,32,105,110,116,32,123,32,114,101,116,117,114,110,32,49,59,32,125])] 25,
 oM 25 24,
 oX 24 0 26,
 oX 24 1 27,
 oX 24 2 28,
 oA 7,
 oS 5 7 26,
 oM 27 8,
 oM 28 9]
 (sO [oJ 5 7 30,
 oD 11 [.t 30] 31,
 oM 31 29,
 oX 29 0 32,
 oX 29 1 33,
 oX 29 2 34,
 oA 10,
 oS 5 10 32,
 oM 33 11,
 oM 34 12]
 (sO [oM 3 35,
 oH .eql 35 0 36,
 oM 36 37,
 oG (.cB (.t 6)) 38 37 true true,
 oG (.bin .eql (.t 38) (kI 122)) 39 37 true true,
 oP (.pick (.t 37) (.t 39) (kB false)) 40,
 oM 40 41,
 oG (.cB (.t 5)) 42 41 true true,
 oG (.bin .eql (.t 42) (kI 1)) 43 41 true true,
 oP (.pick (.t 41) (.t 43) (kB false)) 44,
 oM 44 45,
 oG (.cB (.t 12)) 46 45 true true,
 oG (.bin .eql (.t 46) (kI 0)) 47 45 true true,
 oP (.pick (.t 45) (.t 47) (kB false)) 48,
 oM 48 0]
 (.ret))))))
theorem aju:bA Tryz.prog 10 amF=some (aiQ,[.tmp 0],49):=by kernel_rfl
def agK:List UInt8:=[102,117,110,99,32,102,40,41,32,105,110,116,32,123,32,114,101,116,117,114,110,32,49,59,32,125,32,102,117,110,99,32,103,40,41,32,105,110,116,32,123,32,114,101,116,117,114,110,32,49,46,48,59,32,125]
def agL:List UInt8:=[102,117,110,99,32,102,40,41,32,105,110,116,32,123,32,114,101,116,117,114,110,32,49,59,32,125]
theorem YU:M4 60 agK (fun a e=>a==1 && e==122)=true:=by kernel_rfl
theorem YV:M4 60 agL (fun a e=>e==0)=true:=by kernel_rfl
theorem RO:aV Tryz.prog 10 [] (.bool true):=by
 refine aV.run aa8 aju (by simp) fun E=>?_
 obtain ⟨n1,m1,a1,e1,Cb,gy,o1⟩:=M5 YU
 obtain ⟨n2,m2,a2,e2,wP,iK,o2⟩:=M5 YV
 simp only [Bool.and_eq_true,beq_iff_eq] at o1 o2
 obtain ⟨rfl,rfl⟩:=o1
 subst o2
 change Wo _=_ at Cb
 change Wo _=_ at wP
 unfold agK at Cb
 unfold agL at wP
 obtain ⟨k1,t1,s1c,j1,l1⟩:=n1
 obtain ⟨k2,t2,s2c,j2,l2⟩:=n2
 obtain ⟨k3,t3,s3c,j3,l3⟩:=m1
 obtain ⟨k4,t4,s4c,j4,l4⟩:=m2
 simp only [aB] at Cb wP gy iK
 simp (maxSteps:=1000000) only [aiQ,Cb,wP,gy,iK,afS,aA,seval]
end
end Go.Proofs.YtpklkpkfgmoghaaGreatDoor.Zz
namespace Go.Proofs.YtpklkpkfgmoghaaGreatDoor.Zz
noncomputable section
def Zj:Nd→Nat→List D
 | .mk k t s n l,r=>[.int .i64 k,.int .i64 t,.str s,.int .i64 n,fF r l.length]
def Nd.kids:Nd→List Nd
 | .mk _ _ _ _ l=>l
set_option maxHeartbeats 1000000 in
theorem GX (f:Nat) (hf:f<1000000000) (hT:(bh.zero.sv 29 (vv f) (kz f)).ok Tryz.prog) (n:Nd) (hn:n.cI<f+1) (h:aa):aH Tryz.prog 29 [.agg n.enc] h fun o h'=>∃d,o=.ret d∧∃r,d=.agg (Zj n r)∧(n.kids≠[]→h.f r=none∧h'.f r=some (.row 5 (n.kids.length+2) (Nd.bg n.kids) false))∧∀j,h.f j≠none→h'.f j=h.f j:=by
 refine aH.run hT acd (by simp) fun E=>?_
 have fR:∀g args h K E,(bh.zero.sv 29 (vv f) (kz f)).c g args h K E=if g=29 then vv f args h K else bh.zero.c g args h K E:=fun g args h K E=>rfl
 generalize bh.zero.sv 29 (vv f) (kz f)=TT at fR ⊢
 obtain ⟨k,t,x,m,l⟩:=n
 have lQ:∀y∈l,y.cI<f:=fun y hy=>by have:=jQ (k:=k) (t:=t) (s:=x) (n:=m) hy; omega
 have tg:l.length≤f:=by rw [bd] at hn; have:=jk l; omega
 rw [aB]
 simp (maxSteps:=1000000) only [afm,fR,aA,seval]
 intro i1 k1 i2 n1 n2 k2
 simp (maxSteps:=1000000) only [n1,n2,fR,aA,seval]
 intro _
 refine cj (X:=Nat×Nat×aa) (fun z=>[(1,.ptr i1 1 0),(2,.ptr i2 1 0),(3,fF z.2.1 z.1),(7,.sl (Nd.bg l)),(8,.int .i64 l.length),(9,.int .i64 z.1)]) (fun z=>z.2.2) (fun z=>l.length - z.1)
  (fun z=>z.1≤l.length∧z.2.2.f i1=some (.cells [.int .i64 k,.int .i64 t,.str x,.int .i64 m,.sl (Nd.bg l)])∧z.2.2.f i2=some (.cells [.int .i64 0,.int .i64 0,.str [],.int .i64 0,.aZ])∧
   (z.1≠0→z.2.1≠i1∧z.2.1≠i2∧h.f z.2.1=none∧z.2.2.f z.2.1=some (.row 5 (z.1+2) (Nd.bg (l.take z.1)) false))∧∀j,h.f j≠none→z.2.2.f j=h.f j) (0,0,_) ⟨Nat.zero_le _,?_,?_,fun h=>absurd rfl h,fun j hj=>?_⟩ ?_ (aa.aj _) ?_
 ·simp only [aa.b9,n1,n2, ↓reduceIte]
 ·simp only [aa.b9,n1,n2, ↓reduceIte]
 ·have e1:¬j=i1:=fun e=>hj (by rw [e]; exact k1)
  have e2:¬j=i2:=fun e=>hj (by rw [e]; exact k2)
  simp only [aa.b9,e1,e2, ↓reduceIte]
 ·simp only [c_,aU,aA,seval]
 rintro ⟨i,r,hh⟩ Q ⟨j0,v1,v2,vr,vo⟩ hQ
 simp only at j0 v1 v2 vr vo hQ ⊢
 cases c:decide (i<l.length) with
 | false=>
  have e0:i=l.length:=by simp at c; omega
  have g:((i:Int)<(l.length:Int))=False:=eq_false (by omega)
  by_cases h0:l=[]
  ·subst h0
   simp only [List.length_nil] at e0
   subst e0
   simp (maxSteps:=1000000) only [g,v1,v2,n1,n2,bc,c_,List.length_nil,fR,aA,seval]
   refine ⟨0,rfl,fun h=>absurd rfl h,fun j hj=>?_⟩
   have e1:¬j=i1:=fun e=>hj (by rw [e]; exact k1)
   have e2:¬j=i2:=fun e=>hj (by rw [e]; exact k2)
   rw [if_neg e2,if_neg e1]
   exact vo j hj
  ·have h1:l.length≠0:=fun e=>h0 (List.length_eq_zero_iff.1 e)
   subst e0
   obtain ⟨r1,r2,r3,v4⟩:=vr h1
   have nU:¬i1=r:=fun e=>r1 e.symm
   have oT:¬i2=r:=fun e=>r2 e.symm
   rw [List.take_length] at v4
   simp (maxSteps:=1000000) only [g,v1,v2,v4,n1,n2,r1,r2,nU,oT,aU,bq h1,fR,aA,seval]
   refine ⟨r,by rw [Zj,bq h1],fun _=>⟨r3,by rw [if_neg r2,if_neg r1]; exact v4⟩,fun j hj=>?_⟩
   have e1:¬j=i1:=fun e=>hj (by rw [e]; exact k1)
   have e2:¬j=i2:=fun e=>hj (by rw [e]; exact k2)
   rw [if_neg e2,if_neg e1]
   exact vo j hj
 | true=>
  have c:i<l.length:=by simpa using c
  obtain ⟨y,hy⟩:∃y,l[i]? =some y:=⟨_,List.getElem?_eq_getElem c⟩
  have g:((i:Int)<(l.length:Int))=True:=eq_true (by omega)
  have Au:y∈l:=List.mem_of_getElem? hy
  have wi:IntKind.i64.wrap ((i:Int)+1)=((i+1:Nat):Int):=cp (by omega)
  have hp:=ao y
  have ie:∀(K:D→aa→Prop) (h:aa),fx 5 K h (Nd.bg l) (i:Int)=K (.cO y.enc 0) h:=fun K h=>cG hy
  have Vx:=lQ y Au
  have pV:∀(K:D→aa→Prop) (h:aa),K (.agg y.enc) h→vv f [.agg y.enc] h K:=fun K h k=>⟨y,rfl,Vx,k⟩
  have Sz:Nd.bg (l.take (i+1))=Nd.bg (l.take i)++[y.enc]:=by
   rw [List.take_add_one,hy,fE]; rfl
  have Vw:y.enc.length=5∧y.enc.all bX=true:=⟨au y,aC y⟩
  have LO:(Nd.bg (l.take i)).length=i:=by rw [aU,List.length_take]; omega
  clear hy Au Vx
  obtain ⟨yk,yt,yx,ym,yl⟩:=y
  rw [aB] at*
  simp (maxSteps:=1000000) only [g,v1,v2,ie,hp,wi,ah,aU,n1,n2,fR,aA,seval]
  intro i5 k5
  have p1b:¬i5=i1:=fun e=>by subst e; rw [v1] at k5; cases k5
  have YM:¬i5=i2:=fun e=>by subst e; rw [v2] at k5; cases k5
  have amO:¬i1=i5:=fun e=>p1b e.symm
  have amS:¬i2=i5:=fun e=>YM e.symm
  refine pV _ _ ?_
  simp (maxSteps:=1000000) only [fR,aA,seval]
  refine lV (b:=64) LO (fun h0=>?_) Vw (by omega) (by omega) fun r' a1 a2=>?_
  ·have e:¬r=i5:=fun e=>by rw [←e,(vr h0).2.2.2] at k5; cases k5
   rw [aa.b9,if_neg e]
   exact (vr h0).2.2.2
  have a3:r'≠i1∧r'≠i2∧h.f r'=none:=by
   by_cases h0:i=0
   ·have:=a1 h0
    rw [aa.b9] at this
    split at this
    ·cases this
    ·refine ⟨fun e=>?_,fun e=>?_,?_⟩
     ·subst e; rw [v1] at this; cases this
     ·subst e; rw [v2] at this; cases this
     ·by_cases e:h.f r'=none
      ·exact e
      ·rw [vo r' e] at this; exact this
   ·rw [a2 h0]; exact ⟨(vr h0).1,(vr h0).2.1,(vr h0).2.2.1⟩
  obtain ⟨r1,r2,r3⟩:=a3
  have nU:¬i1=r':=fun e=>r1 e.symm
  have oT:¬i2=r':=fun e=>r2 e.symm
  simp (maxSteps:=1000000) only [v1,v2,wi,r1,r2,nU,oT,n1,n2,fR,aA,seval]
  refine hQ (i+1,r',_) _ _ ⟨c,?_,?_,fun _=>⟨r1,r2,r3,?_⟩,fun j hj=>?_⟩ (by simp only [bq (Nat.succ_ne_zero i),aA,seval]) (aa.aj _) (by simp only; omega)
  ·simp only [aa.b9,nU,amO,v1, ↓reduceIte]
  ·simp only [aa.b9,oT,amS,v2, ↓reduceIte]
  ·simp only [aa.b9,Sz, ↓reduceIte]
  ·have e1:¬j=r':=fun e=>hj (by rw [e]; exact r3)
   have e2:¬j=i5:=fun e=>hj (by rw [e]; by_cases q:h.f i5=none; exact q; rw [vo i5 q] at k5; exact k5)
   simp only [aa.b9,e1,e2, ↓reduceIte]
   exact vo j hj
def T6 (args:List D) (h:aa) (K:D→aa→Prop):Prop:=∃n:Nd,args=[.agg n.enc]∧n.cI<1000000000∧(K (.agg n.enc) h∨∀r h',(n.kids≠[]→h.f r=none∧h'.f r=some (.row 5 (n.kids.length+2) (Nd.bg n.kids) false))→(∀j,h.f j≠none→h'.f j=h.f j)→K (.agg (Zj n r)) h')
theorem RU (args:List D) (h:aa) (K K':D→aa→Prop) (hk:∀d h,K d h→K' d h) (c:T6 args h K):T6 args h K':=by
 obtain ⟨n,a,b,c | c⟩:=c
 ·exact ⟨n,a,b,.inl (hk _ _ c)⟩
 ·exact ⟨n,a,b,.inr fun r h' x y=>hk _ _ (c r h' x y)⟩
theorem Y3 (args:List D) (h:aa) (K:D→aa→Prop) (c:T6 args h K):aH Tryz.prog 29 args h fun o h'=>∃d,o=.ret d∧K d h':=by
 obtain ⟨n,rfl,hn,c | c⟩:=c
 ·exact (ph n.cI hn (uO n.cI (by omega)) n (by omega) h).mono fun o h' ⟨d,e1,e2,e3⟩=>⟨d,e1,by rw [e2,e3]; exact c⟩
 ·exact (GX n.cI hn (uO n.cI (by omega)) n (by omega) h).mono fun o h' ⟨d,e1,r,e2,e3,e4⟩=>⟨d,e1,by rw [e2]; exact c r h' e3 e4⟩
end
end Go.Proofs.YtpklkpkfgmoghaaGreatDoor.Zz
namespace Go.Proofs.YtpklkpkfgmoghaaGreatDoor.Zz
noncomputable section
def amB:cm:=⟨⟨[],[(1,1)],[(7,5)],[],[],[]⟩,[(7,[0,1,2,3,4,5,6])],[],false⟩
def aiO:dU:=
 sO [oQ (.box (.t 0)) 1,
 oA 2]
 (sO [oJ 5 1 6,
 oC 29 [.t 6] 7,
 oA 3,
 oS 5 3 7]
 (.seq (sO [oF 0 1 8,
 oL 8 9,
 oH .geq 9 20 10,
 oM 10 11,
 oG (.fieldAddr 0 (.t 1)) 12 11 true true,
 oG (.load none (.t 12)) 13 11 true false,
 oG (.bin .neq (.t 13) (kI 27)) 14 11 true true,
 oP (.pick (.t 11) (.t 14) (kB false)) 15]
 (.cond (.t 15)
 (.ops [oF 1 3 16,
 oU (.store 1 (.t 16) (kI 0))])
 (.skip)))
 (.seq (sO [oF 4 3 17,
 oL 17 18,
 oZ 18 19,
 oP (.cB (kI 0)) 20]
 (.block 0 (.loop (sO [oE .lss 20 19 21]
 (.seq (.cond (.t 21)
 (.skip)
 (.exit 0))
 (.seq (.block 1 (sO [oM 20 22,
 oI 5 18 20 23,
 oJ 5 23 24,
 oA 5,
 oM 22 4,
 oS 5 5 24]
 (.fS 25 [oF 4 3 25,
 oL 25 26,
 oM 4 27,
 oJ 5 5 28,
 oD 12 [.t 28] 29,
 oI 5 26 27 30,
 oS 5 30 29])))
 (.ops [oH .add 20 1 31,
 oM 31 20])))))))
 (sO [oJ 5 3 32,
 oS 5 2 32]
 (.ret)))))
theorem ajq:bA Tryz.prog 12 amB=some (aiO,[.cell 2 (some 5)],33):=by kernel_rfl
def xy:bh:=bh.zero.sv 29 T6 RU
theorem OU:xy.q=bh.zero.q:=rfl
theorem OS:xy.a=bh.zero.a:=rfl
theorem OT (g:FuncId) (args:List D) (h:aa) (K E:D→aa→Prop):xy.c g args h K E=if g=29 then T6 args h K else bh.zero.c g args h K E:=rfl
theorem JK:xy.ok Tryz.prog:=bh.lL (bh.dJ _) Y3
theorem eU:type_of% (And.intro @OU (And.intro @OS @OT)):=(And.intro @OU (And.intro @OS @OT))
def pX (f:Nat):List D→Option D
 | [.agg ds]=>match Lt ds with
  | some n=>if n.cI<f then some (.agg (cg n).enc) else none
  | none=>none
 | _=>none
def X3 (f:Nat):bh:=xy.dR 12 (pX f)
theorem gx (f:Nat) (g:FuncId) (args:List D):(X3 f).q g args=if g=12 then pX f args else xy.q g args:=rfl
theorem gp (f:Nat):(X3 f).a=xy.a:=rfl
theorem gu (f:Nat):(X3 f).c=xy.c:=rfl
theorem Cn:∀(l:List Nd) (i:Nat),(bF l)[i]? =l[i]?.map cg
 | [],i=>by rw [fC]; rfl
 | x::l,0=>by rw [bo]; rfl
 | x::l,i+1=>by rw [bo,List.getElem?_cons_succ,List.getElem?_cons_succ,Cn l i]
def mj (l:List Nd) (i:Nat):List Nd:=(bF l).take i++l.drop i
theorem AE {l:List Nd} {i:Nat} (h:i≤l.length):(mj l i)[i]? =l[i]? :=by
 unfold mj
 have e:((bF l).take i).length=i:=by rw [List.length_take,gJ]; omega
 rw [List.getElem?_append_right (by omega),e,Nat.sub_self,List.getElem?_drop,Nat.add_zero]
theorem AF {l:List Nd} {i:Nat} {y:Nd} (h:l[i]? =some y):(mj l i).set i (cg y)=mj l (i+1):=by
 have hi:=(List.getElem?_eq_some_iff.1 h).1
 have e:((bF l).take i).length=i:=by rw [List.length_take,gJ]; omega
 have hd:l.drop i=y::l.drop (i+1):=by
  obtain ⟨h1,h2⟩:=List.getElem?_eq_some_iff.1 h
  rw [List.drop_eq_getElem_cons h1,h2]
 unfold mj
 rw [List.set_append_right _ _ (by omega),e,Nat.sub_self,hd,List.set_cons_zero,List.take_add_one,Cn,h,List.append_assoc]
 rfl
theorem zZ (l:List Nd) (i:Nat) (y:Nd):(Nd.bg l).set i y.enc=Nd.bg (l.set i y):=by
 rw [eg,eg,List.map_set]
set_option maxHeartbeats 1000000 in
theorem Cp (f:Nat) (hT:(X3 f).ok Tryz.prog) (x:Nd) (hx:x.cI<f+1) (hb:x.cI<1000000000):aV Tryz.prog 12 [.agg x.enc] (.agg (cg x).enc):=by
 refine aV.run hT ajq (by simp) fun E=>?_
 obtain ⟨k,t,s,n,l⟩:=x
 have lQ:∀y∈l,y.cI<f:=fun y hy=>by have:=jQ (k:=k) (t:=t) (s:=s) (n:=n) hy; omega
 have tg:l.length≤1000000000:=by rw [bd] at hb; have:=jk l; omega
 rw [eN,aB,aB]
 simp (maxSteps:=1000000) only [aiO,gx,gp,gu,eU,aA,seval]
 intro i1 i2 n1 dO
 simp (maxSteps:=1000000) only [n1,dO,gx,gp,gu,eU,aA,seval]
 refine ⟨.mk k t s n l,by rw [aB],hb,.inr fun r A hr hA=>?_⟩
 have a1:A.f i1=some (.cells [.int .i64 k,.int .i64 t,.str s,.int .i64 n,.sl (Nd.bg l)]):=by rw [hA i1 (by simp [dO])]; simp [dO]
 have a2:A.f i2=some (.cells [.int .i64 0,.int .i64 0,.str [],.int .i64 0,.aZ]):=by rw [hA i2 (by simp)]; simp
 simp (maxSteps:=1000000) only [Zj,a1,a2,n1,dO,gx,gp,gu,eU,aA,seval]
 intro i3 k3
 have m1:¬i1=i3:=fun e=>by rw [←e,a1] at k3; cases k3
 have l6:¬i3=i1:=fun e=>m1 e.symm
 have m2:¬i2=i3:=fun e=>by rw [←e,a2] at k3; cases k3
 have ly:¬i3=i2:=fun e=>m2 e.symm
 by_cases h0:l=[]
 ·subst h0
  rw [fC,bc,List.length_nil]
  by_cases c1b:20≤k
  ·have g1:(k≥20)=True:=eq_true c1b
   by_cases Y0:k=27
   ·have g2:(k != 27)=false:=by simpa using Y0
    rw [show bt k t=t by unfold bt; rw [if_neg (by simp [Y0])]]
    simp (maxSteps:=1000000) only [g1,g2,a1,a2,n1,dO,m1,l6,m2,ly,c_,gx,gp,gu,eU,aA,seval]
    refine cj (X:=Unit) (fun _=>[(2,.ptr i2 1 0),(3,.ptr i3 1 0),(19,.int .i64 0),(20,.int .i64 0)]) (fun _=>A.set i3 (.cells [.int .i64 k,.int .i64 t,.str s,.int .i64 n,.aZ])) (fun _=>0) (fun _=>True) () trivial (by simp only [aA,seval]) (aa.aj _) ?_
    intro _ Q _ hQ
    simp (maxSteps:=1000000) only [a2,m2,ly,Int.lt_irrefl,gx,gp,gu,eU,aA,seval]
   ·have g2:(k != 27)=true:=by simpa using Y0
    rw [show bt k t=0 by unfold bt; rw [if_pos (by simp [c1b,Y0])]]
    simp (maxSteps:=1000000) only [g1,g2,a1,a2,n1,dO,m1,l6,m2,ly,c_,gx,gp,gu,eU,aA,seval]
    refine cj (X:=Unit) (fun _=>[(2,.ptr i2 1 0),(3,.ptr i3 1 0),(19,.int .i64 0),(20,.int .i64 0)]) (fun _=>A.set i3 (.cells [.int .i64 k,.int .i64 0,.str s,.int .i64 n,.aZ])) (fun _=>0) (fun _=>True) () trivial (by simp only [aA,seval]) (aa.aj _) ?_
    intro _ Q _ hQ
    simp (maxSteps:=1000000) only [a2,m2,ly,Int.lt_irrefl,gx,gp,gu,eU,aA,seval]
  ·have g1:(k≥20)=False:=eq_false (by omega)
   rw [eW (by omega)]
   simp (maxSteps:=1000000) only [g1,a1,a2,n1,dO,m1,l6,m2,ly,c_,gx,gp,gu,eU,aA,seval]
   refine cj (X:=Unit) (fun _=>[(2,.ptr i2 1 0),(3,.ptr i3 1 0),(19,.int .i64 0),(20,.int .i64 0)]) (fun _=>A.set i3 (.cells [.int .i64 k,.int .i64 t,.str s,.int .i64 n,.aZ])) (fun _=>0) (fun _=>True) () trivial (by simp only [aA,seval]) (aa.aj _) ?_
   intro _ Q _ hQ
   simp (maxSteps:=1000000) only [a2,m2,ly,Int.lt_irrefl,gx,gp,gu,eU,aA,seval]
 ·have h1:l.length≠0:=fun e=>h0 (List.length_eq_zero_iff.1 e)
  obtain ⟨r1,r2⟩:=hr h0
  simp only [Nd.kids] at r2
  have w1:=bq (r:=r) h1
  have w2:¬r=i3:=fun e=>by rw [←e,r2] at k3; cases k3
  have w2':¬i3=r:=fun e=>w2 e.symm
  have u2:¬r=i2:=fun e=>by rw [e] at r1; simp at r1
  have Em:¬i2=r:=fun e=>u2 e.symm
  by_cases c1b:20≤k
  ·have g1:(k≥20)=True:=eq_true c1b
   by_cases Y0:k=27
   ·have g2:(k != 27)=false:=by simpa using Y0
    rw [show bt k t=t by unfold bt; rw [if_neg (by simp [Y0])]]
    simp (maxSteps:=1000000) only [g1,g2,a1,a2,n1,dO,m1,l6,m2,ly,w1,gx,gp,gu,eU,aA,seval]
    intro _
    refine cj (X:=Nat×aa) (fun z=>[(2,.ptr i2 1 0),(3,.ptr i3 1 0),(18,.row r (l.length+2) 0 l.length),(19,.int .i64 (l.length:Int)),(20,.int .i64 (z.1:Int))]) (fun z=>z.2) (fun z=>l.length - z.1)
     (fun z=>z.1≤l.length∧z.2.f i2=some (.cells [.int .i64 0,.int .i64 0,.str [],.int .i64 0,.aZ])∧z.2.f i3=some (.cells [.int .i64 k,.int .i64 t,.str s,.int .i64 n,.row r (l.length+2) 0 l.length])∧z.2.f r=some (.row 5 (l.length+2) (Nd.bg (mj l z.1)) false)) (0,_)
     ⟨Nat.zero_le _,by simp [m2,ly,a2],by simp [w1],by simp [w2,w2',r2,mj]⟩ (by simp only [aA,seval]) (aa.aj _) ?_
    rintro ⟨i,B⟩ Q ⟨j0,b2,b3,br⟩ hQ
    simp only at j0 b2 b3 br hQ ⊢
    by_cases ci:i<l.length
    ·obtain ⟨y,hy⟩:∃y,l[i]? =some y:=⟨_,List.getElem?_eq_getElem ci⟩
     have Au:y∈l:=List.mem_of_getElem? hy
     have g:((i:Int)<(l.length:Int))=True:=eq_true (by omega)
     have g0:(0≤(i:Int))=True:=eq_true (by omega)
     have wi:IntKind.i64.wrap ((i:Int)+1)=((i+1:Nat):Int):=cp (by omega)
     have hq:pX f [.agg y.enc]=some (.agg (cg y).enc):=by simp only [pX,od]; rw [if_pos (lQ y Au)]
     have LN:(Nd.bg (mj l i))[i]? =some y.enc:=by rw [eg,List.getElem?_map,AE j0,hy]; rfl
     have At:=zZ (mj l i) i (cg y)
     rw [AF hy] at At
     obtain ⟨yk,yt,ys,yn,yl⟩:=y
     rw [aB] at LN hq
     rw [eN,aB] at hq At
     simp (maxSteps:=1000000) only [g,g0,wi,LN,b2,b3,br,Int.toNat_natCast,Nat.zero_add,gx,gp,gu,eU,aA,seval]
     intro i5 k5
     have YM:¬i2=i5:=fun e=>by rw [←e,b2] at k5; cases k5
     have p3b:¬i3=i5:=fun e=>by rw [←e,b3] at k5; cases k5
     have p4b:¬r=i5:=fun e=>by rw [←e,br] at k5; cases k5
     simp (maxSteps:=1000000) only [g,g0,wi,LN,hq,At,YM,p3b,p4b,b2,b3,br,Int.toNat_natCast,Nat.zero_add,gx,gp,gu,eU,aA,seval]
     refine hQ (i+1,_) _ _ ⟨by omega,by simp [YM,Em,b2],by simp [p3b,w2',b3],by simp⟩ (by simp only [aA,seval]) (aa.aj _) (by simp only; omega)
    ·have e0:i=l.length:=by omega
     subst e0
     have hm:mj l l.length=bF l:=by unfold mj; rw [List.drop_length,List.append_nil,List.take_of_length_le (by rw [gJ]; omega)]
     rw [hm] at br
     have hlb:(Nd.bg (bF l)).length=l.length:=by rw [aU,gJ]
     have Sz:(Nd.bg (bF l)).take l.length=Nd.bg (bF l):=List.take_of_length_le (by omega)
     simp (maxSteps:=1000000) only [b2,b3,br,w1,u2,Em,m2,ly,Int.lt_irrefl,gx,gp,gu,eU,aA,seval]
     simp only [plR,hlb,Sz,List.drop_zero,Nat.zero_add,Nat.le_refl,and_self,if_true]
   ·have g2:(k != 27)=true:=by simpa using Y0
    rw [show bt k t=0 by unfold bt; rw [if_pos (by simp [c1b,Y0])]]
    simp (maxSteps:=1000000) only [g1,g2,a1,a2,n1,dO,m1,l6,m2,ly,w1,gx,gp,gu,eU,aA,seval]
    intro _
    refine cj (X:=Nat×aa) (fun z=>[(2,.ptr i2 1 0),(3,.ptr i3 1 0),(18,.row r (l.length+2) 0 l.length),(19,.int .i64 (l.length:Int)),(20,.int .i64 (z.1:Int))]) (fun z=>z.2) (fun z=>l.length - z.1)
     (fun z=>z.1≤l.length∧z.2.f i2=some (.cells [.int .i64 0,.int .i64 0,.str [],.int .i64 0,.aZ])∧z.2.f i3=some (.cells [.int .i64 k,.int .i64 0,.str s,.int .i64 n,.row r (l.length+2) 0 l.length])∧z.2.f r=some (.row 5 (l.length+2) (Nd.bg (mj l z.1)) false)) (0,_)
     ⟨Nat.zero_le _,by simp [m2,ly,a2],by simp [w1],by simp [w2,w2',r2,mj]⟩ (by simp only [aA,seval]) (aa.aj _) ?_
    rintro ⟨i,B⟩ Q ⟨j0,b2,b3,br⟩ hQ
    simp only at j0 b2 b3 br hQ ⊢
    by_cases ci:i<l.length
    ·obtain ⟨y,hy⟩:∃y,l[i]? =some y:=⟨_,List.getElem?_eq_getElem ci⟩
     have Au:y∈l:=List.mem_of_getElem? hy
     have g:((i:Int)<(l.length:Int))=True:=eq_true (by omega)
     have g0:(0≤(i:Int))=True:=eq_true (by omega)
     have wi:IntKind.i64.wrap ((i:Int)+1)=((i+1:Nat):Int):=cp (by omega)
     have hq:pX f [.agg y.enc]=some (.agg (cg y).enc):=by simp only [pX,od]; rw [if_pos (lQ y Au)]
     have LN:(Nd.bg (mj l i))[i]? =some y.enc:=by rw [eg,List.getElem?_map,AE j0,hy]; rfl
     have At:=zZ (mj l i) i (cg y)
     rw [AF hy] at At
     obtain ⟨yk,yt,ys,yn,yl⟩:=y
     rw [aB] at LN hq
     rw [eN,aB] at hq At
     simp (maxSteps:=1000000) only [g,g0,wi,LN,b2,b3,br,Int.toNat_natCast,Nat.zero_add,gx,gp,gu,eU,aA,seval]
     intro i5 k5
     have YM:¬i2=i5:=fun e=>by rw [←e,b2] at k5; cases k5
     have p3b:¬i3=i5:=fun e=>by rw [←e,b3] at k5; cases k5
     have p4b:¬r=i5:=fun e=>by rw [←e,br] at k5; cases k5
     simp (maxSteps:=1000000) only [g,g0,wi,LN,hq,At,YM,p3b,p4b,b2,b3,br,Int.toNat_natCast,Nat.zero_add,gx,gp,gu,eU,aA,seval]
     refine hQ (i+1,_) _ _ ⟨by omega,by simp [YM,Em,b2],by simp [p3b,w2',b3],by simp⟩ (by simp only [aA,seval]) (aa.aj _) (by simp only; omega)
    ·have e0:i=l.length:=by omega
     subst e0
     have hm:mj l l.length=bF l:=by unfold mj; rw [List.drop_length,List.append_nil,List.take_of_length_le (by rw [gJ]; omega)]
     rw [hm] at br
     have hlb:(Nd.bg (bF l)).length=l.length:=by rw [aU,gJ]
     have Sz:(Nd.bg (bF l)).take l.length=Nd.bg (bF l):=List.take_of_length_le (by omega)
     simp (maxSteps:=1000000) only [b2,b3,br,w1,u2,Em,m2,ly,Int.lt_irrefl,gx,gp,gu,eU,aA,seval]
     simp only [plR,hlb,Sz,List.drop_zero,Nat.zero_add,Nat.le_refl,and_self,if_true]
  ·have g1:(k≥20)=False:=eq_false (by omega)
   rw [eW (by omega)]
   simp (maxSteps:=1000000) only [g1,a1,a2,n1,dO,m1,l6,m2,ly,w1,gx,gp,gu,eU,aA,seval]
   intro _
   refine cj (X:=Nat×aa) (fun z=>[(2,.ptr i2 1 0),(3,.ptr i3 1 0),(18,.row r (l.length+2) 0 l.length),(19,.int .i64 (l.length:Int)),(20,.int .i64 (z.1:Int))]) (fun z=>z.2) (fun z=>l.length - z.1)
    (fun z=>z.1≤l.length∧z.2.f i2=some (.cells [.int .i64 0,.int .i64 0,.str [],.int .i64 0,.aZ])∧z.2.f i3=some (.cells [.int .i64 k,.int .i64 t,.str s,.int .i64 n,.row r (l.length+2) 0 l.length])∧z.2.f r=some (.row 5 (l.length+2) (Nd.bg (mj l z.1)) false)) (0,_)
    ⟨Nat.zero_le _,by simp [m2,ly,a2],by simp [w1],by simp [w2,w2',r2,mj]⟩ (by simp only [aA,seval]) (aa.aj _) ?_
   rintro ⟨i,B⟩ Q ⟨j0,b2,b3,br⟩ hQ
   simp only at j0 b2 b3 br hQ ⊢
   by_cases ci:i<l.length
   ·obtain ⟨y,hy⟩:∃y,l[i]? =some y:=⟨_,List.getElem?_eq_getElem ci⟩
    have Au:y∈l:=List.mem_of_getElem? hy
    have g:((i:Int)<(l.length:Int))=True:=eq_true (by omega)
    have g0:(0≤(i:Int))=True:=eq_true (by omega)
    have wi:IntKind.i64.wrap ((i:Int)+1)=((i+1:Nat):Int):=cp (by omega)
    have hq:pX f [.agg y.enc]=some (.agg (cg y).enc):=by simp only [pX,od]; rw [if_pos (lQ y Au)]
    have LN:(Nd.bg (mj l i))[i]? =some y.enc:=by rw [eg,List.getElem?_map,AE j0,hy]; rfl
    have At:=zZ (mj l i) i (cg y)
    rw [AF hy] at At
    obtain ⟨yk,yt,ys,yn,yl⟩:=y
    rw [aB] at LN hq
    rw [eN,aB] at hq At
    simp (maxSteps:=1000000) only [g,g0,wi,LN,b2,b3,br,Int.toNat_natCast,Nat.zero_add,gx,gp,gu,eU,aA,seval]
    intro i5 k5
    have YM:¬i2=i5:=fun e=>by rw [←e,b2] at k5; cases k5
    have p3b:¬i3=i5:=fun e=>by rw [←e,b3] at k5; cases k5
    have p4b:¬r=i5:=fun e=>by rw [←e,br] at k5; cases k5
    simp (maxSteps:=1000000) only [g,g0,wi,LN,hq,At,YM,p3b,p4b,b2,b3,br,Int.toNat_natCast,Nat.zero_add,gx,gp,gu,eU,aA,seval]
    refine hQ (i+1,_) _ _ ⟨by omega,by simp [YM,Em,b2],by simp [p3b,w2',b3],by simp⟩ (by simp only [aA,seval]) (aa.aj _) (by simp only; omega)
   ·have e0:i=l.length:=by omega
    subst e0
    have hm:mj l l.length=bF l:=by unfold mj; rw [List.drop_length,List.append_nil,List.take_of_length_le (by rw [gJ]; omega)]
    rw [hm] at br
    have hlb:(Nd.bg (bF l)).length=l.length:=by rw [aU,gJ]
    have Sz:(Nd.bg (bF l)).take l.length=Nd.bg (bF l):=List.take_of_length_le (by omega)
    simp (maxSteps:=1000000) only [b2,b3,br,w1,u2,Em,m2,ly,Int.lt_irrefl,gx,gp,gu,eU,aA,seval]
    simp only [plR,hlb,Sz,List.drop_zero,Nat.zero_add,Nat.le_refl,and_self,if_true]
theorem A9 {f:Nat} (hP:∀x:Nd,x.cI<f→aV Tryz.prog 12 [.agg x.enc] (.agg (cg x).enc)) (args:List D) (d:D) (h:pX f args=some d):aV Tryz.prog 12 args d:=by
 unfold pX at h
 split at h
 ·split at h
  ·rename_i e1
   split at h
   ·cases h
    rw [vy e1]
    exact hP _ (by assumption)
   ·cases h
  ·cases h
 ·cases h
theorem Rl:∀f,f≤1000000000→(X3 f).ok Tryz.prog
 | 0,_=>bh.bE JK (A9 fun x h=>by omega)
 | f+1,hf=>bh.bE JK (A9 fun x h=>Cp f (Rl f (by omega)) x h (by omega))
theorem adp (x:Nd) (h:x.cI<1000000000):aV Tryz.prog 12 [.agg x.enc] (.agg (cg x).enc):=Cp x.cI (Rl _ (by omega)) x (by omega) h
def Wa:List D→Option D:=pX 1000000000
theorem aab (args:List D) (d:D) (h:Wa args=some d):aV Tryz.prog 12 args d:=A9 (fun x h=>adp x h) args d h
theorem N9 {x:Nd} (h:x.cI<1000000000):Wa [.agg x.enc]=some (.agg (cg x).enc):=by
 simp only [Wa,pX,od]
 rw [if_pos h]
end
end Go.Proofs.YtpklkpkfgmoghaaGreatDoor.Zz
namespace Go.Proofs.YtpklkpkfgmoghaaGreatDoor.Zz
noncomputable section
def amN:cm:=⟨⟨[],[],[],[],[],[]⟩,[],[],false⟩
def afl:dU:=
 sO [oQ (.box (.t 0)) 2,
 oQ (.box (.t 1)) 3,
 oP (.cB (kB false)) 4]
 (sO [oF 0 2 5,
 oL 5 6,
 oF 0 3 7,
 oL 7 8,
 oE .eql 6 8 9,
 oM 9 10,
 oG (.fieldAddr 1 (.t 2)) 11 10 true true,
 oG (.load none (.t 11)) 12 10 true false,
 oG (.fieldAddr 1 (.t 3)) 13 10 true true,
 oG (.load none (.t 13)) 14 10 true false,
 oG (.bin .eql (.t 12) (.t 14)) 15 10 true true,
 oP (.pick (.t 10) (.t 15) (kB false)) 16,
 oM 16 17,
 oG (.fieldAddr 2 (.t 2)) 18 17 true true,
 oG (.load none (.t 18)) 19 17 true false,
 oG (.fieldAddr 2 (.t 3)) 20 17 true true,
 oG (.load none (.t 20)) 21 17 true false,
 oG (.bin .eql (.t 19) (.t 21)) 22 17 true true,
 oP (.pick (.t 17) (.t 22) (kB false)) 23,
 oM 23 24,
 oG (.fieldAddr 3 (.t 2)) 25 24 true true,
 oG (.load none (.t 25)) 26 24 true false,
 oG (.fieldAddr 3 (.t 3)) 27 24 true true,
 oG (.load none (.t 27)) 28 24 true false,
 oG (.bin .eql (.t 26) (.t 28)) 29 24 true true,
 oP (.pick (.t 24) (.t 29) (kB false)) 30,
 oM 30 31,
 oG (.fieldAddr 4 (.t 2)) 32 31 true true,
 oG (.load none (.t 32)) 33 31 true false,
 oG (.fieldAddr 4 (.t 3)) 34 31 true true,
 oG (.load none (.t 34)) 35 31 true false,
 oG (.qcall (.f 27) [(.t 33),(.t 35),(.f 9)]) 36 31 true false,
 oP (.pick (.t 31) (.t 36) (kB false)) 37,
 oM 37 4]
 (.ret))
theorem ajB:bA Tryz.prog 9 amN=some (afl,[.tmp 4],38):=by kernel_rfl
def am4:cm:=⟨⟨[],[],[],[],[],[]⟩,[],[],false⟩
def ai4:dU:=
 sO [oP (.cB (kB false)) 6]
 (.seq (sO [oM 0 10,
 oZ 10 11,
 oM 1 12,
 oZ 12 13,
 oE .neq 11 13 14]
 (.cond (.t 14)
 (sO [oP (.cB (kB false)) 6]
 (.ret))
 (.skip)))
 (.seq (sO [oM 0 15,
 oZ 15 16,
 oP (.cB (kI 0)) 17]
 (.block 0 (.loop (sO [oE .lss 17 16 18]
 (.seq (.cond (.t 18)
 (.skip)
 (.exit 0))
 (.seq (.block 1 (sO [oM 17 19,
 oI 5 15 17 20,
 oJ 5 20 21,
 oA 8,
 oM 19 7,
 oS 5 8 21]
 (sO [oM 1 22,
 oM 7 23,
 oI 5 22 23 24,
 oJ 5 24 25,
 oA 9,
 oS 5 9 25]
 (sO [oM 2 26,
 oJ 5 8 27,
 oJ 5 9 28,
 oQ (.qcall (.t 26) [(.t 27),(.t 28)]) 29,
 oP (.un .not (.t 29)) 30]
 (.cond (.t 30)
 (sO [oP (.cB (kB false)) 6]
 (.ret))
 (.skip))))))
 (.ops [oH .add 17 1 31,
 oM 31 17])))))))
 (sO [oP (.cB (kB true)) 6]
 (.ret))))
theorem ajO:bA Tryz.prog 27 am4=some (ai4,[.tmp 6],32):=by kernel_rfl
def mD (a b:Nd):Bool:=@decide (a=b) (Classical.propDecidable _)
def o8 (a b:List Nd):Bool:=@decide (a=b) (Classical.propDecidable _)
theorem o9 {a b:Nd}:mD a b=true↔a=b:=by simp [mD]
theorem sf {a b:List Nd}:o8 a b=true↔a=b:=by simp [o8]
def mz (f:Nat):List D→Option D
 | [.agg ds,.agg es]=>match Lt ds,Lt es with
  | some n,some m=>if n.cI<f then some (.bool (mD n m)) else none
  | _,_=>none
 | _=>none
set_option maxHeartbeats 1000000 in
theorem wq (f:Nat) (hf:f<9223372036854775807) (hT:(bh.zero.dR 9 (mz f)).ok Tryz.prog) (l r:List Nd) (hl:∀y∈l,y.cI<f):aV Tryz.prog 27 [.sl (Nd.bg l),.sl (Nd.bg r),.func (.func 9) [] []] (.bool (o8 l r)):=by
 refine aV.run hT ajO (by simp) fun E=>?_
 have fR:∀g args,(bh.zero.dR 9 (mz f)).q g args=if g=9 then mz f args else bh.zero.q g args:=fun g args=>rfl
 have hq:∀x y:Nd,x.cI<f→mz f [.agg x.enc,.agg y.enc]=some (.bool (mD x y)):=fun x y hx=>by simp only [mz,od,hx,if_true]
 generalize bh.zero.dR 9 (mz f)=TT at fR ⊢
 simp (maxSteps:=1000000) only [ai4,aU,fR,aA,seval]
 intro l1 l2
 by_cases cl:l.length=r.length
 ·have g:((l.length:Int) != (r.length:Int))=false:=by simp [cl]
  simp (maxSteps:=1000000) only [g,fR,aA,seval]
  intro _
  refine cj (X:=Nat) (fun z=>[(1,.sl (Nd.bg r)),(2,.func (.func 9) [] []),(15,.sl (Nd.bg l)),(16,.int .i64 l.length),(17,.int .i64 z)])
   (fun z=>.emp) (fun z=>l.length - z) (fun z=>z≤l.length∧l.take z=r.take z) 0 ⟨Nat.zero_le _,rfl⟩ ?_ ?_ ?_
  ·simp only [aA,seval]
  ·exact aa.mV _
  rintro i Q ⟨j0,j1⟩ hQ
  cases c:decide (i<l.length) with
  | false=>
   have e0:i=l.length:=by simp at c; omega
   have g:((i:Int)<l.length)=False:=eq_false (by omega)
   simp (maxSteps:=1000000) only [g,fR,aA,seval]
   have:o8 l r=true:=by
    rw [e0,List.take_length,cl,List.take_length] at j1
    rw [sf]; exact j1
   rw [this]
   exact .inl rfl
  | true=>
   have c:i<l.length:=by simpa using c
   obtain ⟨y,hy⟩:∃y,l[i]? =some y:=⟨_,List.getElem?_eq_getElem c⟩
   obtain ⟨z,hz⟩:∃z,r[i]? =some z:=⟨_,List.getElem?_eq_getElem (by omega)⟩
   have g:((i:Int)<l.length)=True:=eq_true (by omega)
   have Au:y∈l:=List.mem_of_getElem? hy
   have wi:IntKind.i64.wrap ((i:Int)+1)=((i+1:Nat):Int):=cp (by omega)
   have hp:=ao y
   have hp2:=ao z
   have ie:∀(K:D→aa→Prop) (h:aa),fx 5 K h (Nd.bg l) (i:Int)=K (.cO y.enc 0) h:=fun K h=>cG hy
   have te:∀(K:D→aa→Prop) (h:aa),fx 5 K h (Nd.bg r) (i:Int)=K (.cO z.enc 0) h:=fun K h=>cG hz
   have hqy:=hq y z (hl y Au)
   have sP:mD y z=true→l.take (i+1)=r.take (i+1):=fun h=>by rw [List.take_add_one,List.take_add_one,hy,hz,j1,o9.1 h]
   have ahu:mD y z=false→o8 l r=false:=fun h=>by
    cases e:o8 l r with
    | false=>rfl
    | true=>
     rw [sf] at e
     subst e
     rw [hy] at hz
     cases hz
     rw [show mD y y=true from o9.2 rfl] at h
     cases h
   generalize mD y z=sm at*
   clear Au hy hz hq hp hp2
   have e1:iF y.enc 0 (some 5)=some (.agg y.enc):=ao y
   have e2:iF z.enc 0 (some 5)=some (.agg z.enc):=ao z
   obtain ⟨yk,yt,yx,ym,yl⟩:=y
   obtain ⟨zk,zt,zx,zm,zl⟩:=z
   rw [aB] at*
   simp only [aB] at te e2 hqy
   cases sm with
   | false=>
    simp (maxSteps:=1000000) only [g,ie,te,e1,e2,wi,hqy,fR,ahu,aA,seval]
    intro i8 i9 n1 n2
    simp (maxSteps:=1000000) only [n1,n2,hqy,fR,aA,seval]
   | true=>
    simp (maxSteps:=1000000) only [g,ie,te,e1,e2,wi,hqy,fR,aA,seval]
    intro i8 i9 n1 n2
    simp (maxSteps:=1000000) only [n1,n2,hqy,wi,fR,aA,seval]
    refine hQ (i+1) _ _ ⟨c,sP rfl⟩ (by simp only [aA,seval]) (aa.mV _) (by omega)
 ·have g:((l.length:Int) != (r.length:Int))=true:=by simp; omega
  have:o8 l r=false:=by
   cases e:o8 l r with
   | false=>rfl
   | true=>rw [sf] at e; subst e; exact absurd rfl cl
  simp (maxSteps:=1000000) only [g,this,fR,aA,seval]
def IG (f:Nat):List D→Option D
 | [.sl ds,.sl es,.func (.func 9) [] []]=>match CD ds,CD es with
  | some l,some m=>if (∀y∈l,y.cI<f) then some (.bool (o8 l m)) else none
  | _,_=>none
 | _=>none
set_option maxHeartbeats 1000000 in
theorem D7 (f:Nat) (hT:((bh.zero.dR 9 (mz f)).dR 27 (IG f)).ok Tryz.prog) (x y:Nd) (hx:x.cI<f+1):aV Tryz.prog 9 [.agg x.enc,.agg y.enc] (.bool (mD x y)):=by
 refine aV.run hT ajB (by simp) fun E=>?_
 have fR:∀g args,((bh.zero.dR 9 (mz f)).dR 27 (IG f)).q g args=if g=27 then IG f args else (bh.zero.dR 9 (mz f)).q g args:=fun g args=>rfl
 have hq:∀x y:List Nd,(∀y∈x,y.cI<f)→IG f [.sl (Nd.bg x),.sl (Nd.bg y),.func (.func 9) [] []]=some (.bool (o8 x y)):=fun x y hx=>by simp only [IG,Si]; rw [if_pos hx]
 generalize (bh.zero.dR 9 (mz f)).dR 27 (IG f)=TT at fR ⊢
 obtain ⟨yk,yt,yx,ym,yl⟩:=x
 obtain ⟨zk,zt,zx,zm,zl⟩:=y
 have lQ:∀y∈yl,y.cI<f:=fun y hy=>by have:=jQ (k:=yk) (t:=yt) (s:=yx) (n:=ym) hy; omega
 have hqy:=hq yl zl lQ
 have hs:mD (.mk yk yt yx ym yl) (.mk zk zt zx zm zl)=((yk==zk) && ((yt==zt) && ((yx==zx) && ((ym==zm) && o8 yl zl)))):=by
  rw [Bool.eq_iff_iff,o9]
  simp only [Bool.and_eq_true,beq_iff_eq,sf,Nd.mk.injEq]
 rw [aB,aB,hs]
 generalize o8 yl zl=sl at*
 have run:∀c1w c2w c3w c4w:Bool,(yk==zk)=c1w→(yt==zt)=c2w→(yx==zx)=c3w→(ym==zm)=c4w→vc TT afl (todo TT (vW [.tmp 4] fun o _=>o=.ret (.bool (c1w && (c2w && (c3w && (c4w && sl)))))) E []) E (ij [.agg [.int .i64 yk,.int .i64 yt,.str yx,.int .i64 ym,.sl (Nd.bg yl)],.agg [.int .i64 zk,.int .i64 zt,.str zx,.int .i64 zm,.sl (Nd.bg zl)]]) .emp:=by
  intro c1w c2w c3w c4w e1 e2 e3 e4
  simp (maxSteps:=1000000) only [afl,fR,aA,seval]
  intro i2 i3 n1 n2
  cases c1w with
  | false=>simp (maxSteps:=1000000) only [n1,n2,e1,fR,aA,seval]
  | true=>
   cases c2w with
   | false=>simp (maxSteps:=1000000) only [n1,n2,e1,e2,fR,aA,seval]
   | true=>
    cases c3w with
    | false=>simp (maxSteps:=1000000) only [n1,n2,e1,e2,e3,fR,aA,seval]
    | true=>
     cases c4w with
     | false=>simp (maxSteps:=1000000) only [n1,n2,e1,e2,e3,e4,fR,aA,seval]
     | true=>simp (maxSteps:=1000000) only [n1,n2,e1,e2,e3,e4,hqy,Bool.true_and,fR,aA,seval]
 exact run _ _ _ _ rfl rfl rfl rfl
theorem A_ {f:Nat} (hP:∀x y:Nd,x.cI<f→aV Tryz.prog 9 [.agg x.enc,.agg y.enc] (.bool (mD x y))) (args:List D) (d:D) (h:mz f args=some d):aV Tryz.prog 9 args d:=by
 unfold mz at h
 split at h
 ·split at h
  ·rename_i e1 e2
   split at h
   ·cases h
    rw [vy e1,vy e2]
    exact hP _ _ (by assumption)
   ·cases h
  ·cases h
 ·cases h
theorem Oc {f:Nat} (hP:∀l r:List Nd,(∀y∈l,y.cI<f)→aV Tryz.prog 27 [.sl (Nd.bg l),.sl (Nd.bg r),.func (.func 9) [] []] (.bool (o8 l r))) (args:List D) (d:D) (h:IG f args=some d):aV Tryz.prog 27 args d:=by
 unfold IG at h
 split at h
 ·split at h
  ·rename_i e1 e2
   split at h
   ·cases h
    rw [zQ e1,zQ e2]
    exact hP _ _ (by assumption)
   ·cases h
  ·cases h
 ·cases h
theorem za:∀f,f≤9223372036854775807→(bh.zero.dR 9 (mz f)).ok Tryz.prog
 | 0,_=>bh.bE (bh.dJ _) (A_ fun x y h=>by omega)
 | f+1,hf=>bh.bE (bh.dJ _) (A_ fun x y h=>D7 f (bh.bE (za f (by omega)) (Oc fun l r hl=>wq f (by omega) (za f (by omega)) l r hl)) x y h)
theorem aft (x y:Nd) (h:x.cI<9223372036854775807):aV Tryz.prog 9 [.agg x.enc,.agg y.enc] (.bool (mD x y)):=
 D7 x.cI (bh.bE (za _ (by omega)) (Oc fun l r hl=>wq _ h (za _ (by omega)) l r hl)) x y (by omega)
def We:List D→Option D:=mz 9223372036854775807
theorem aag (args:List D) (d:D) (h:We args=some d):aV Tryz.prog 9 args d:=A_ (fun x y h=>aft x y h) args d h
theorem Oa {x y:Nd} (h:x.cI<9223372036854775807):We [.agg x.enc,.agg y.enc]=some (.bool (mD x y)):=by
 simp only [We,mz,od]
 rw [if_pos h]
end
end Go.Proofs.YtpklkpkfgmoghaaGreatDoor.Zz
