/- Programs of picks have types. -/
import Derived.Test.YtpklkpkfgmoghaaGreatDoorZC33
import Derived.Test.YtpklkpkfgmoghaaGreatDoorZC31
import Derived.Test.YtpklkpkfgmoghaaGreatDoorZP17
set_option linter.unnecessarySimpa false
set_option linter.unusedVariables false
set_option linter.unusedSimpArgs false
set_option maxRecDepth 100000
namespace Go.Proofs.YtpklkpkfgmoghaaGreatDoor.Zz
noncomputable section
def GD.nm:GD→List UInt8
 | .var x _ _=>x
 | .func x _ _ _=>x
 | .test x _=>x
theorem NX (D:GD):D.nd.sD=D.nm:=by cases D<;>rw [GD.nd]<;>rfl
def dn (c:UInt8):Nat→List (List UInt8)
 | 0=>[]
 | i+1=>([c]++bM (i+1))::dn c i
def dnD (c:UInt8):Nat→List (List UInt8)
 | 0=>[]
 | i+1=>([c]++ox (i+1))::dnD c i
theorem Nb (c:UInt8):∀i,i≤4→dn c i=dnD c i
 | 0,_=>rfl
 | i+1,h=>by rw [dn,dnD,kK (by omega),Nb c i (by omega)]
theorem KB {L:List Int}:∀(i:Nat) (s:Nm) (a:Nat),(fB L i s a).1.map GD.nm=dn 103 i
 | 0,s,a=>rfl
 | i+1,s,a=>by
  rw [fB]
  simp only [List.map_cons]
  rw [KB i]
  rfl
theorem C3 {L:List Int}:∀(i:Nat) (s:Nm) (a:Nat),(eS L i s a).1.map GD.nm=dn 102 i
 | 0,s,a=>rfl
 | i+1,s,a=>by
  rw [eS]
  simp only [List.map_cons]
  rw [C3 i]
  rfl
theorem Eh {L:List Int}:∀(i:Nat) (s:Nm) (a:Nat),(ia L i s a).1.map GD.nm=dn 116 i
 | 0,s,a=>rfl
 | i+1,s,a=>by
  rw [ia]
  simp only [List.map_cons]
  rw [Eh i]
  rfl
theorem SJ:((List.range 3).all fun n=>(List.range 4).all fun m=>(List.range 4).all fun k=>decide ((dnD 103 n++dnD 102 m++dnD 116 k).Nodup))=true:=by kernel_rfl
theorem H_ {n m k:Nat} (h1:n≤2) (h2:m≤3) (h3:k≤3):(dn 103 n++dn 102 m++dn 116 k).Nodup:=by
 rw [Nb _ _ (by omega),Nb _ _ (by omega),Nb _ _ (by omega)]
 have h:=SJ
 simp only [List.all_eq_true,List.mem_range,decide_eq_true_eq] at h
 exact h n (by omega) m (by omega) k (by omega)
theorem yN {c:UInt8}:∀{i:Nat} {x:List UInt8},x∈dn c i→∃w,x=c::w
 | 0,x,h=>by cases h
 | i+1,x,h=>by
  rw [dn] at h
  rcases List.mem_cons.1 h with rfl | h
  ·exact ⟨_,rfl⟩
  ·exact yN h
theorem CM:∀{l:List GD} {D:GD},(l.map GD.nm).Nodup→D∈l→eY (l.map GD.nd) D.nm=some D.nd
 | [],D,_,h=>by cases h
 | E::l,D,hn,h=>by
  rw [List.map_cons,List.nodup_cons] at hn
  unfold eY
  rw [List.map_cons,List.find?_cons,NX]
  rcases List.mem_cons.1 h with rfl | h
  ·simp
  ·have iy:E.nm≠D.nm:=fun e=>hn.1 (by rw [e]; exact List.mem_map.2 ⟨D,h,rfl⟩)
   rw [show (E.nm==D.nm)=false from by simpa using iy]
   exact CM hn.2 h
theorem LC {l:List GD} {x:List UInt8} (h:∀D∈l,D.nm≠x):eY (l.map GD.nd) x=none:=by
 unfold eY
 rw [List.find?_eq_none]
 intro y hy
 obtain ⟨D,hD,rfl⟩:=List.mem_map.1 hy
 rw [NX]
 simpa using h D hD
theorem zS {ks:List Nd}:∀(l:List GD) (ns:List (List UInt8)) (i:Int),(ns++l.map GD.nm).Nodup→(∀D∈l,∃y,eH ks D.nd=.ok y)→∃l2 j,fq ks (l.map GD.nd) ns i=(.ok l2,j)
 | [],ns,i,hn,hd=>⟨[],i,by rw [List.map_nil,fq]⟩
 | D::l,ns,i,hn,hd=>by
  obtain ⟨y,hy⟩:=hd D (by simp)
  have e:ns++(D::l).map GD.nm=(ns++[D.nm])++l.map GD.nm:=by simp
  rw [e] at hn
  obtain ⟨l2,j,h2⟩:=zS (ks:=ks) l (ns++[D.nm]) (i+1) hn fun E hE=>hd E (by simp [hE])
  refine ⟨y::l2,j,?_⟩
  have hc:¬(ns.contains D.nd.sD=true):=by
   rw [NX]
   intro c
   have hm:D.nm∈ns:=by simpa using c
   rw [List.append_assoc] at hn
   exact (List.nodup_append.1 hn).2.2 _ hm _ (by simp) rfl
  rw [List.map_cons,fq,if_neg hc,hy]
  simp only
  rw [NX,h2]
theorem Yj {t:Int} (h:t3 t):yA (t+1)=true:=by rcases h with rfl | rfl | rfl<;>rfl
theorem zC {ks:List Nd} {ans:Int} {sc sc':dj} {l ys:List Nd} (h:bW ks ans l sc=.ok (ys,sc')):dV ks ans (.mk 6 0 [] 0 l) sc=.ok (.mk 6 0 [] 0 ys):=by
 unfold dV
 show (if ((6:Int)==6)=true then (match bW ks ans l sc with
  | .ok (l',_)=>(.ok (.mk 6 0 [] 0 l'):CR Nd)
  | .error e=>.error e) else .error 125)=_
 rw [if_pos six,h]
theorem z_:∀(l:List Nd) (b:Nd),jH (l++[b])=t_ b
 | [],b=>by rw [List.nil_append,jH]
 | [x],b=>by rw [List.cons_append,List.nil_append,jH,jH]
 | x::y::l,b=>by
  rw [List.cons_append,List.cons_append,jH]
  ·exact z_ (y::l) b
theorem UT {ks:List Nd} {x:List UInt8} {t:Int} {e:GE} (h:Ty ks [] e t) (hl:e.lit):∃y,eH ks (GD.var x (t+1) e).nd=.ok y:=by
 obtain ⟨z,hz⟩:=pa h
 refine ⟨.mk 2 (t+1) x 0 [z],?_⟩
 rw [GD.nd,eH.eq_def]
 have hk:(decide (20≤e.nd.kD) && decide (e.nd.kD≤22))=true:=by cases e<;>first | exact hl.elim | (rw [GE.nd]; rfl) | (rw [GE.nd,lv]; rfl)
 simp only [List.length_cons,List.length_nil]
 rw [if_neg (by decide),if_pos (by decide),hk,if_pos rfl,hz]
theorem Sl {ks:List Nd} {x:List UInt8} {l:List GS} {ys:List Nd} {sc:dj} (h:bW ks 0 (GS.gB l) []=.ok (ys,sc)):∃y,eH ks (GD.test x l).nd=.ok y:=by
 refine ⟨.mk 4 0 x 0 [.mk 6 0 [] 0 ys],?_⟩
 rw [GD.nd,eH.eq_def]
 simp only [List.length_cons,List.length_nil]
 rw [if_neg (by decide),if_neg (by decide),if_pos (by decide),zC h]
theorem Sk {ks:List Nd} {x:List UInt8} {ps:List (List UInt8×Int)} {t:Int} {l:List GS} {e:GE} {ys:List Nd} {sc sc':dj} (ht:t3 t) (hp:gY ks (ps.map mr) []=.ok sc) (h:bW ks (t+1) (GS.gB (l++[.ret e])) sc=.ok (ys,sc')):∃y,eH ks (GD.func x ps (t+1) (l++[.ret e])).nd=.ok y:=by
 have he:iE (.mk 6 0 [] 0 (GS.gB (l++[.ret e])))=true:=by
  rw [iE,kY,GS.gB,GS.gB,z_,GS.nd,t_.eq_def]
  rfl
 refine ⟨.mk 3 (t+1) x 0 (ps.map mr++[.mk 6 0 [] 0 ys]),?_⟩
 rw [GD.nd,eH.eq_def]
 simp only
 have iy:((ps.map mr++[Nd.mk 6 0 [] 0 (GS.gB (l++[.ret e]))]).length==0)=false:=by simp
 have h33:(((3:Int)==3) && yA (t+1))=true:=by rw [Yj ht]; rfl
 rw [iy,if_neg (by decide),if_neg (by decide),if_neg (by decide),if_pos h33,List.getLast?_concat]
 simp only
 rw [List.dropLast_concat,hp]
 simp only
 rw [zC h]
 simp only
 rw [if_pos he]
theorem aiw {j k:Nat} (hj:j≤4) (hk:k≤4) (h:([112]++bM j:List UInt8)=[112]++bM k):j=k:=by
 rw [kK (by omega),kK (by omega)] at h
 simp only [List.cons_append,List.nil_append,List.cons.injEq,true_and] at h
 unfold ox at h
 rw [if_pos (by omega),if_pos (by omega)] at h
 have h1:∀n,n≤4→(UInt8.ofNat (48+n)).toNat=48+n:=fun n hn=>by
  rw [UInt8.toNat_ofNat']
  omega
 have:=congrArg UInt8.toNat (List.cons.inj h).1
 rw [h1 j hj,h1 k hk] at this
 omega
theorem Is {ks:List Nd} (hK:KN ks) {L:List Int}:∀(i:Nat),i≤2→∀(s:Nm) (a:Nat) (sc:dj),kO ks sc s→(∀j,1≤j→j≤i→gz sc ([112]++bM j)=none)→(∀c:UInt8,c=118∨c=105→∀w,gz sc (c::w)=none)→
  ∃sc',gY ks ((gQ L i s a).1.map mr) sc=.ok sc'∧kO ks sc' (gQ L i s a).2.1∧(∀c:UInt8,c=118∨c=105→∀w,gz sc' (c::w)=none)∧(gQ L i s a).2.1.fresh=s.fresh∧mT ks sc sc'∧∀p∈(gQ L i s a).1,t3 (p.2 - 1)
 | 0,hi,s,a,sc,hs,hp,hv=>⟨sc,by rw [gQ,List.map_nil,gY],hs,hv,rfl,mT.refl ks sc,fun p hp=>by rw [gQ] at hp; cases hp⟩
 | i+1,hi,s,a,sc,hs,hp,hv=>by
  have ht:=FX L a
  obtain ⟨d1,d2,d3⟩:=Lw (ks:=ks) (sc:=sc) (x:=[112]++bM (i+1)) (hp (i+1) (by omega) (by omega)) (VH hK (.inr (.inr rfl)) _) ((bD L 3 a).1+1)
  obtain ⟨sc',uz,uA,Wi,q4p,q5p,q6p⟩:=Is hK (L:=L) i (by omega) (s.with ([112]++bM (i+1)) (bD L 3 a).1) (bD L 3 a).2 (sc++[([112]++bM (i+1),(bD L 3 a).1+1)]) ((hs.mono d2).with ht d3) (fun j j1 j2=>by
   rw [Ag (fun e=>by have:=aiw (by omega) (by omega) e; omega)]
   exact hp j j1 (by omega)) (fun c hc w=>by
   rw [Ag (fun e=>by
    have:(112:UInt8)=c:=(List.cons.inj e).1
    subst this
    rcases hc with hc | hc<;>cases hc)]
   exact hv c hc w)
  refine ⟨sc',?_,?_,Wi,?_,d2.trans q5p,?_⟩
  ·rw [gQ]
   simp only [List.map_cons]
   rw [mr,gY]
   have h5:(((Nd.mk 5 ((bD L 3 a).1+1) ([112]++bM (i+1)) 0 []).kD==5) && yA (Nd.mk 5 ((bD L 3 a).1+1) ([112]++bM (i+1)) 0 []).tD)=true:=by
    show (((5:Int)==5) && yA ((bD L 3 a).1+1))=true
    rw [Yj ht]; rfl
   have h0:((Nd.mk 5 ((bD L 3 a).1+1) ([112]++bM (i+1)) 0 []).lD.length==0)=true:=rfl
   rw [if_pos h5,if_pos h0]
   show (match p7 ks sc ([112]++bM (i+1)) ((bD L 3 a).1+1) with
    | .ok sc'=>gY ks ((gQ L i (s.with ([112]++bM (i+1)) (bD L 3 a).1) (bD L 3 a).2).1.map mr) sc'
    | .error e=>.error e)=_
   rw [d1]
   exact uz
  ·rw [gQ]; exact uA
  ·rw [gQ]
   simp only
   rw [q4p,eF]
  ·intro p h
   rw [gQ] at h
   rcases List.mem_cons.1 h with rfl | h
   ·simp only [Int.add_sub_cancel]; exact ht
   ·exact q6p p h
theorem Nj {sc:dj} (hv:∀c:UInt8,c=118∨c=105→∀w,gz sc (c::w)=none) (d f:Nat):ze sc d f:=fun c hc d' f' _ _ _=>hv c hc _
theorem kO.Zn {ks:List Nd} {sc:dj} {s:Nm} (h:kO ks sc s) {F:Fn} (h1:∀t∈F.params,t3 t) (h2:∃o b,eY ks F.name=some o∧o.kD=3∧o.tD=F.answer+1∧o.lD.map Nd.tD=F.params.map (· +1)++[b]):kO ks sc { s with funcs:=s.funcs++[F] }:=⟨h.var,fun g hg=>by
 rcases List.mem_append.1 hg with hg | hg
 ·exact h.fn g hg
 ·rw [List.mem_singleton.1 hg]; exact ⟨h1,h2⟩⟩
theorem C7 {ks:List Nd} (hK:KN ks) {L:List Int}:∀(i:Nat) (s:Nm) (a:Nat),kO ks [] s→s.fresh=0→(∀D∈(eS L i s a).1,eY ks D.nm=some D.nd)→(∀D∈(eS L i s a).1,∃y,eH ks D.nd=.ok y)∧kO ks [] (eS L i s a).2.1∧(eS L i s a).2.1.fresh=0
 | 0,s,a,hs,hf,hk=>⟨(fun D h=>by rw [eS] at h; cases h),hs,hf⟩
 | i+1,s,a,hs,hf,hk=>by
  have ht:=FX L a
  have hn:=bY L (n:=3) (by decide) (bD L 3 a).2
  obtain ⟨sc,SX,p2p,p3p,p4p,p5p,p6p⟩:=Is hK (L:=L) (bD L 3 (bD L 3 a).2).1.toNat (by omega) s (bD L 3 (bD L 3 a).2).2 [] hs (fun j _ _=>rfl) (fun c hc w=>rfl)
  rw [eS] at hk ⊢
  simp only at hk ⊢
  generalize gQ L (bD L 3 (bD L 3 a).2).1.toNat s (bD L 3 (bD L 3 a).2).2=ps at SX p2p p3p p4p p6p hk ⊢
  generalize hF:(⟨[102]++bM (i+1),(bD L 3 a).1,ps.1.map fun p=>p.2 - 1⟩:Fn)=F at hk ⊢
  have hF1:∀t∈F.params,t3 t:=by
   rw [←hF]
   intro t h
   obtain ⟨p,hp,rfl⟩:=List.mem_map.1 h
   exact p6p p hp
  generalize LJ:(if (bD L 5 ps.2.2).1=4 then { ps.2.1 with funcs:=ps.2.1.funcs++[F] } else ps.2.1:Nm)=o at hk ⊢
  have hkD:=hk _ (List.mem_cons_self ..)
  have hF2:∃o b,eY ks F.name=some o∧o.kD=3∧o.tD=F.answer+1∧o.lD.map Nd.tD=F.params.map (· +1)++[b]:=by
   rw [←hF]
   refine ⟨_,0,hkD,rfl,rfl,?_⟩
   rw [GD.nd]
   simp [Nd.lD,Nd.tD,mr,Function.comp_def]
  have ho:kO ks sc o∧o.fresh=0:=by
   rw [←LJ]
   split
   ·exact ⟨p2p.Zn hF1 hF2,by rw [←hf]; exact p4p⟩
   ·exact ⟨p2p,by rw [p4p]; exact hf⟩
  obtain ⟨uz,uA,Wi⟩:=C7 hK (L:=L) i { s with funcs:=s.funcs++[F] } (b_ L o 3 (bD L 3 a).1 (dM L false 2 o (bD L 5 ps.2.2).2).2).2 (hs.Zn hF1 hF2) hf fun D hD=>hk D (List.mem_cons_of_mem _ hD)
  refine ⟨fun D h=>?_,uA,Wi⟩
  rcases List.mem_cons.1 h with rfl | h
  ·obtain ⟨ys,ku,y1,k1⟩:=vq (ans:=(bD L 3 a).1+1) hK (L:=L) (test:=false) 2 (by decide) o (bD L 5 ps.2.2).2 sc ho.1 (Nj p3p _ _) (by rw [ho.2]; decide)
   obtain ⟨z,z1⟩:=afL (qG (L:=L) (ho.1.mono k1) 3 _ (dM L false 2 o (bD L 5 ps.2.2).2).2 ht) ht
   refine Sk ht SX (sc':=ku) (ys:=ys++[z]) ?_
   rw [kY]
   refine FR y1 ?_
   rw [GS.gB,GS.gB]
   exact uJ z1 (FT _ _ _)
  ·exact uz D h
theorem Ej {ks:List Nd} (hK:KN ks) {L:List Int} {s:Nm} (hs:kO ks [] s) (hf:s.fresh=0):∀(i:Nat) (a:Nat),∀D∈(ia L i s a).1,∃y,eH ks D.nd=.ok y
 | 0,a,D,h=>by rw [ia] at h; cases h
 | i+1,a,D,h=>by
  rw [ia] at h
  rcases List.mem_cons.1 h with rfl | h
  ·obtain ⟨ys,ku,y1,k1⟩:=vq (ans:=0) hK (L:=L) (test:=true) 2 (by decide) s a [] hs (Nj (fun c hc w=>rfl) _ _) (by rw [hf]; decide)
   obtain ⟨z,z1⟩:=Oj (ans:=0) (qG (L:=L) (hs.mono k1) 3 2 (dM L true 2 s a).2 (.inr (.inr rfl)))
   refine Sl (sc:=ku) (ys:=ys++[z]) ?_
   rw [kY]
   refine FR y1 ?_
   rw [GS.gB,GS.gB]
   exact uJ z1 (FT _ _ _)
  ·exact Ej hK hs hf i _ D h
theorem VK (L:List Int) (t:Int) (a:Nat):(nQ L t a).1.lit:=(yX L t a).2.1
theorem KD {ks:List Nd} {L:List Int}:∀(i:Nat) (s:Nm) (a:Nat),kO ks [] s→s.fresh=0→(∀D∈(fB L i s a).1,eY ks D.nm=some D.nd)→(∀D∈(fB L i s a).1,∃y,eH ks D.nd=.ok y)∧kO ks [] (fB L i s a).2.1∧(fB L i s a).2.1.fresh=0
 | 0,s,a,hs,hf,hk=>⟨(fun D h=>by rw [fB] at h; cases h),hs,hf⟩
 | i+1,s,a,hs,hf,hk=>by
  have ht:=FX L a
  rw [fB] at hk ⊢
  simp only at hk ⊢
  have hkD:=hk _ (List.mem_cons_self ..)
  have hv:mQ ks [] ([103]++bM (i+1))=.ok ((bD L 3 a).1+1):=by
   unfold mQ
   have:eY ks ([103]++bM (i+1))=some (GD.var ([103]++bM (i+1)) ((bD L 3 a).1+1) (nQ L (bD L 3 a).1 (bD L 3 a).2).1).nd:=hkD
   rw [this,GD.nd]
   rfl
  obtain ⟨uz,uA,Wi⟩:=KD (ks:=ks) i (s.with ([103]++bM (i+1)) (bD L 3 a).1) (nQ L (bD L 3 a).1 (bD L 3 a).2).2 (hs.with ht hv) (by rw [eF]; exact hf) fun D hD=>hk D (List.mem_cons_of_mem _ hD)
  refine ⟨fun D h=>?_,uA,Wi⟩
  rcases List.mem_cons.1 h with rfl | h
  ·exact UT (Fw L ht _) (VK L _ _)
  ·exact uz D h
theorem FN (L:List Int):∃n,iO (jg (iu L))=(n,0,0):=by
 have r1:=bY L (n:=3) (by decide) 0
 have hnm:(iu L).map GD.nm=dn 103 (bD L 3 0).1.toNat++dn 102 ((bD L 3 (fB L (bD L 3 0).1.toNat ⟨[],[],[],[],0⟩ (bD L 3 0).2).2.2).1.toNat+1)++dn 116 ((bD L 3 (eS L ((bD L 3 (fB L (bD L 3 0).1.toNat ⟨[],[],[],[],0⟩ (bD L 3 0).2).2.2).1.toNat+1) (fB L (bD L 3 0).1.toNat ⟨[],[],[],[],0⟩ (bD L 3 0).2).2.1 (bD L 3 (fB L (bD L 3 0).1.toNat ⟨[],[],[],[],0⟩ (bD L 3 0).2).2.2).2).2.2).1.toNat+1):=by
  unfold iu
  simp only [List.map_append,KB,C3,Eh]
 have hnd:((iu L).map GD.nm).Nodup:=by
  rw [hnm]
  have a:=bY L (n:=3) (by decide) (fB L (bD L 3 0).1.toNat ⟨[],[],[],[],0⟩ (bD L 3 0).2).2.2
  have b:=bY L (n:=3) (by decide) (eS L ((bD L 3 (fB L (bD L 3 0).1.toNat ⟨[],[],[],[],0⟩ (bD L 3 0).2).2.2).1.toNat+1) (fB L (bD L 3 0).1.toNat ⟨[],[],[],[],0⟩ (bD L 3 0).2).2.1 (bD L 3 (fB L (bD L 3 0).1.toNat ⟨[],[],[],[],0⟩ (bD L 3 0).2).2.2).2).2.2
  exact H_ (by omega) (by omega) (by omega)
 have ahz:∀D∈iu L,∃(c:UInt8) (w:List UInt8),D.nm=c::w∧(c=103∨c=102∨c=116):=by
  intro D hD
  have hm:D.nm∈(iu L).map GD.nm:=List.mem_map.2 ⟨D,hD,rfl⟩
  rw [hnm] at hm
  rcases List.mem_append.1 hm with hm | hm
  ·rcases List.mem_append.1 hm with hm | hm
   ·obtain ⟨w,e⟩:=yN hm; exact ⟨_,w,e,.inl rfl⟩
   ·obtain ⟨w,e⟩:=yN hm; exact ⟨_,w,e,.inr (.inl rfl)⟩
  ·obtain ⟨w,e⟩:=yN hm; exact ⟨_,w,e,.inr (.inr rfl)⟩
 have Ar:∀D∈iu L,eY ((iu L).map GD.nd) D.nm=some D.nd:=fun D hD=>CM hnd hD
 have hKN:KN ((iu L).map GD.nd):=fun c w hc=>LC fun D hD e=>by
  obtain ⟨c',w',e',hc'⟩:=ahz D hD
  rw [e'] at e
  have:c'=c:=(List.cons.inj e).1
  subst this
  rcases hc with rfl | rfl | rfl<;>rcases hc' with h | h | h<;>cases h
 have vI:∀D∈iu L,∃y,eH ((iu L).map GD.nd) D.nd=.ok y:=by
  generalize (iu L).map GD.nd=ks at Ar hKN ⊢
  have n0:kO ks [] ⟨[],[],[],[],0⟩:=⟨(fun t ht x hx=>by unfold Nm.of at hx; split at hx<;>(try split at hx)<;>cases hx),(fun f hf=>by cases hf)⟩
  unfold iu at Ar ⊢
  simp only at Ar ⊢
  obtain ⟨v1,v2,v3⟩:=KD (ks:=ks) (L:=L) (bD L 3 0).1.toNat ⟨[],[],[],[],0⟩ (bD L 3 0).2 n0 rfl fun D hD=>Ar D (by simp [hD])
  generalize fB L (bD L 3 0).1.toNat ⟨[],[],[],[],0⟩ (bD L 3 0).2=V at v1 v2 v3 Ar ⊢
  obtain ⟨f1,f2,f3⟩:=C7 hKN (L:=L) ((bD L 3 V.2.2).1.toNat+1) V.2.1 (bD L 3 V.2.2).2 v2 v3 fun D hD=>Ar D (by simp [hD])
  generalize eS L ((bD L 3 V.2.2).1.toNat+1) V.2.1 (bD L 3 V.2.2).2=F at f1 f2 f3 Ar ⊢
  have t1:=Ej hKN (L:=L) f2 f3 ((bD L 3 F.2.2).1.toNat+1) (bD L 3 F.2.2).2
  intro D hD
  rcases List.mem_append.1 hD with hD | hD
  ·rcases List.mem_append.1 hD with hD | hD
   ·exact v1 D hD
   ·exact f1 D hD
  ·exact t1 D hD
 obtain ⟨l2,j,h2⟩:=zS (ks:=(iu L).map GD.nd) (iu L) [] 0 (by simpa using hnd) vI
 refine ⟨.mk 1 0 [] 0 l2,?_⟩
 rw [jg,iO,if_pos (by decide),h2]
end
end Go.Proofs.YtpklkpkfgmoghaaGreatDoor.Zz
namespace Go.Proofs.YtpklkpkfgmoghaaGreatDoor.Zz
noncomputable section
def am7:cm:=⟨⟨[],[(1,1)],[],[],[],[]⟩,[],[],false⟩
def afp:dU:=
 sO [oM 0 4,
 oP (.un .not (.t 4)) 5]
 (.cond (.t 5)
 (.ops [oM 1 6,
 oC 66 [.t 6] 7])
 (.skip))
theorem ajQ:bA Tryz.prog 45 am7=some (afp,[],8):=by kernel_rfl
def ang:cm:=⟨⟨[],[],[],[],[],[]⟩,[],[],false⟩
def ajc:dU:=
 .ops [oM 0 2,
 oP (.build [(.int .i64 0)] [(0,1,(.t 2))]) 3,
 oP (.nf 80 (.t 3)) 4,
 oU (.panic (.t 4))]
theorem ajY:bA Tryz.prog 66 ang=some (ajc,[],5):=by kernel_rfl
def anh:cm:=⟨⟨[],[(1,5)],[],[],[],[]⟩,[],[],false⟩
def ajd:dU:=
 sO [oQ (.box (.t 0)) 2]
 (.ops [oF 4 2 4,
 oL 4 5,
 oZ 5 6,
 oM 1 7,
 oE .eql 6 7 8,
 oC 45 [.t 8,kI 125] 9])
theorem ajZ:bA Tryz.prog 67 anh=some (ajd,[],10):=by kernel_rfl
def aip:cm:=⟨⟨[],[],[],[],[],[]⟩,[],[],false⟩
def ab9:dU:=
 sO [oP (.cB (kB false)) 2]
 (sO [oM 0 3,
 oH .eql 3 1 4,
 oM 4 5,
 oG (.cB (.t 0)) 6 5 false true,
 oG (.bin .eql (.t 6) (kI 2)) 7 5 false true,
 oP (.pick (.t 5) (kB true) (.t 7)) 8,
 oM 8 2]
 (.ret))
theorem afD:bA Tryz.prog 109 aip=some (ab9,[.tmp 2],9):=by kernel_rfl
def aiq:cm:=⟨⟨[],[(1,3),(8,2),(11,2),(17,2),(20,2),(3,6)],[],[],[],[]⟩,[],[],false⟩
def gS:dU:=
 sO [oP (.cB (kI 0)) 6]
 (sO [oM 1 7,
 oM 2 8,
 oE .eql 7 8 9,
 oC 45 [.t 9,kI 122] 10]
 (.seq (sO [oM 0 11]
 (.block 0 (.seq (sO [oP (.bin .eql (.t 11) (kS [43])) 20,
 oM 20 19]
 (.cond (.t 19)
 (.skip)
 (sO [oP (.bin .eql (.t 11) (kS [45])) 21,
 oM 21 19]
 (.cond (.t 19)
 (.skip)
 (sO [oP (.bin .eql (.t 11) (kS [42])) 22,
 oM 22 19]
 (.cond (.t 19)
 (.skip)
 (.ops [oP (.bin .eql (.t 11) (kS [47])) 23,
 oM 23 19])))))))
 (.cond (.t 19)
 (sO [oM 1 24,
 oD 109 [.t 24] 25,
 oC 45 [.t 25,kI 122] 26]
 (sO [oM 1 27,
 oM 27 6]
 (.ret)))
 (sO [oP (.bin .eql (.t 11) (kS [37])) 29,
 oM 29 28]
 (.cond (.t 28)
 (sO [oM 1 30,
 oH .eql 30 1 31,
 oC 45 [.t 31,kI 122] 32]
 (sO [oM 1 33,
 oM 33 6]
 (.ret)))
 (.seq (sO [oP (.bin .eql (.t 11) (kS [60])) 35,
 oM 35 34]
 (.cond (.t 34)
 (.skip)
 (sO [oP (.bin .eql (.t 11) (kS [60,61])) 36,
 oM 36 34]
 (.cond (.t 34)
 (.skip)
 (sO [oP (.bin .eql (.t 11) (kS [62])) 37,
 oM 37 34]
 (.cond (.t 34)
 (.skip)
 (.ops [oP (.bin .eql (.t 11) (kS [62,61])) 38,
 oM 38 34])))))))
 (.cond (.t 34)
 (.ops [oM 1 39,
 oD 109 [.t 39] 40,
 oC 45 [.t 40,kI 122] 41])
 (.seq (sO [oP (.bin .eql (.t 11) (kS [38,38])) 43,
 oM 43 42]
 (.cond (.t 42)
 (.skip)
 (.ops [oP (.bin .eql (.t 11) (kS [124,124])) 44,
 oM 44 42])))
 (.cond (.t 42)
 (.ops [oM 1 45,
 oH .eql 45 3 46,
 oC 45 [.t 46,kI 122] 47])
 (.ops [oM 0 12,
 oP (.bin .eql (.t 12) (kS [61,61])) 13,
 oM 13 14,
 oG (.cB (.t 0)) 15 14 false true,
 oG (.bin .eql (.t 15) (kS [33,61])) 16 14 false true,
 oP (.pick (.t 14) (kB true) (.t 16)) 17,
 oC 45 [.t 17,kI 125] 18])))))))))))
 (sO [oP (.cB (kI 3)) 6]
 (.ret))))
theorem afE:bA Tryz.prog 110 aiq=some (gS,[.tmp 6],48):=by kernel_rfl
def ft (e:Int):D:=.iface 80 (.agg [.int .i64 e])
def Sf (K E:D→aa→Prop) (h:aa):Option (CR D)→Prop
 | some (.ok d)=>K d h
 | some (.error e)=>E (ft e) h
 | none=>False
theorem aW (K E:D→aa→Prop) (h:aa) (d:D):Sf K E h (some (.ok d))=K d h:=rfl
theorem aE (K E:D→aa→Prop) (h:aa) (e:Int):Sf K E h (some (.error e))=E (ft e) h:=rfl
theorem kR {K E K' E':D→aa→Prop} {h:aa} {r:Option (CR D)} (hk:∀d h,K d h→K' d h) (he:∀d h,E d h→E' d h) (c:Sf K E h r):Sf K' E' h r:=by
 match r,c with
 | some (.ok d),c=>exact hk _ _ c
 | some (.error e),c=>exact he _ _ c
def aeZ:List D→Option (CR D)
 | [.int .i64 e]=>some (.error e)
 | _=>none
def cFl (args:List D) (h:aa) (K E:D→aa→Prop):Prop:=Sf K E h (aeZ args)
theorem Ud (args:List D) (h:aa) (K E K' E':D→aa→Prop) (hk:∀d h,K d h→K' d h) (he:∀d h,E d h→E' d h) (c:cFl args h K E):cFl args h K' E':=kR hk he c
theorem adC (args:List D) (h:aa) (K E:D→aa→Prop) (c:cFl args h K E):aH Tryz.prog 66 args h (cY.to K E):=by
 unfold cFl aeZ at c
 split at c
 ·rename_i e
  refine aH.cv (bh.dJ _) (dc:=cy.none) (fun _ _=>cy.cX) (by kernel_rfl) ajY (by simp) ?_
  rw [cA]
  simp (maxSteps:=1000000) only [ajc,yU,aX,ab,av,aA,seval]
  first | exact ⟨h,aa.aj h,c⟩ | exact .inl ⟨h,aa.aj h,c⟩
 ·exact c.elim
def xU:bh:=bh.zero.gI 66 cFl Ud
theorem Qt:xU.q=bh.zero.q:=rfl
theorem Qr:xU.a=bh.zero.a:=rfl
theorem Qs (g:FuncId) (args:List D) (h:aa) (K E:D→aa→Prop):xU.c g args h K E=if g=66 then cFl args h K E else bh.zero.c g args h K E:=rfl
theorem J2:xU.ok Tryz.prog:=bh.bQ (bh.dJ _) adC
theorem y9:type_of% (And.intro @Qt (And.intro @Qr @Qs)):=(And.intro @Qt (And.intro @Qr @Qs))
def cE:List D→Option (CR D)
 | [.bool b,.int .i64 e]=>some (bif b then .ok (.tuple []) else .error e)
 | _=>none
def bz (args:List D) (h:aa) (K E:D→aa→Prop):Prop:=Sf K E h (cE args)
theorem Ll (args:List D) (h:aa) (K E K' E':D→aa→Prop) (hk:∀d h,K d h→K' d h) (he:∀d h,E d h→E' d h) (c:bz args h K E):bz args h K' E':=kR hk he c
theorem Us (args:List D) (h:aa) (K E:D→aa→Prop) (c:bz args h K E):aH Tryz.prog 45 args h (cY.to K E):=by
 unfold bz cE at c
 split at c
 ·rename_i b e
  refine aH.cv J2 (dc:=cy.none) (fun _ _=>cy.cX) (by kernel_rfl) ajQ (by simp) ?_
  rw [cA]
  cases b with
  | true=>
   simp (maxSteps:=1000000) only [afp,ae,ab,av,y9,aA,seval]
   exact .inl ⟨h,aa.aj h,c⟩
  | false=>
   simp (maxSteps:=1000000) only [afp,cFl,aeZ,aE,aX,ab,av,y9,aA,seval]
   first | exact ⟨h,aa.aj h,c⟩ | exact .inl ⟨h,aa.aj h,c⟩
 ·exact c.elim
def xI:bh:=xU.gI 45 bz Ll
theorem PC:xI.q=xU.q:=rfl
theorem Pz:xI.a=xU.a:=rfl
theorem PA (g:FuncId) (args:List D) (h:aa) (K E:D→aa→Prop):xI.c g args h K E=if g=45 then bz args h K E else xU.c g args h K E:=rfl
theorem W1:xI.ok Tryz.prog:=bh.bQ J2 Us
theorem PB:type_of% (And.intro (And.intro @PC (And.intro @Pz @PA)) @y9):=(And.intro (And.intro @PC (And.intro @Pz @PA)) @y9)
theorem VR (t:Int):aV Tryz.prog 109 [.int .i64 t] (.bool (mO t)):=by
 refine aV.run (bh.dJ _) afD (by simp) fun E=>?_
 unfold mO
 cases gy:(t==1)<;>cases iK:(t==2)
 all_goals simp (maxSteps:=1000000) only [ab9,gy,iK,aA,seval]
def eT:List D→Option D
 | [.int .i64 t]=>some (.bool (mO t))
 | _=>none
theorem V9 (args:List D) (d:D) (h:eT args=some d):aV Tryz.prog 109 args d:=by
 unfold eT at h
 split at h
 ·cases h; exact VR _
 ·cases h
def rE:bh:=xI.dR 109 eT
theorem Jr (g:FuncId) (args:List D):rE.q g args=if g=109 then eT args else xI.q g args:=rfl
theorem Jp:rE.a=xI.a:=rfl
theorem Jq:rE.c=xI.c:=rfl
theorem Ee:rE.ok Tryz.prog:=bh.bE W1 V9
theorem rF:type_of% (And.intro (And.intro @Jr (And.intro @Jp @Jq)) @PB):=(And.intro (And.intro @Jr (And.intro @Jp @Jq)) @PB)
theorem gn {h:aa} {i:Nat} {o:cJ} (n:h.f i=none):h.sub (h.set i o):=fun q p hp=>by
 have:q≠i:=fun e=>by subst e; rw [n] at hp; cases hp
 simp [this,hp]
def GG (args:List D) (h:aa) (K E:D→aa→Prop):Prop:=∃(x:Nd) (k:Int),args=[.agg x.enc,.int .i64 k]∧(bif (x.lD.length:Int)==k then K (.tuple []) h else E (ft 125) h)
theorem Li (args:List D) (h:aa) (K E K' E':D→aa→Prop) (hk:∀d h,K d h→K' d h) (he:∀d h,E d h→E' d h) (c:GG args h K E):GG args h K' E':=by
 obtain ⟨x,k,a,b⟩:=c
 refine ⟨x,k,a,?_⟩
 cases hc:((x.lD.length:Int)==k) with
 | true=>rw [hc] at b; exact hk _ _ b
 | false=>rw [hc] at b; exact he _ _ b
theorem Un (args:List D) (h:aa) (K E:D→aa→Prop) (c:GG args h K E):aH Tryz.prog 67 args h (cY.to K E):=by
 obtain ⟨x,k,rfl,b⟩:=c
 obtain ⟨kk,t,s,n,l⟩:=x
 refine aH.cv Ee (dc:=cy.none) (fun _ _=>cy.cX) (by kernel_rfl) ajZ (by simp) ?_
 rw [cA]
 simp (maxSteps:=1000000) only [ajd,aB,aU,rF,aA,seval]
 intro i1 n1 hlen
 simp only [Nd.lD] at b
 cases hc:((l.length:Int)==k) with
 | true=>
  rw [hc] at b
  simp (maxSteps:=1000000) only [hc,bz,cE,aW,cond_true,ae,ab,av,rF,aA,seval]
  exact .inl ⟨h,gn n1,b⟩
 | false=>
  rw [hc] at b
  simp (maxSteps:=1000000) only [hc,bz,cE,aE,cond_false,aX,ab,av,rF,aA,seval]
  exact ⟨h,gn n1,b⟩
def xV:bh:=rE.gI 67 GG Li
theorem Qw:xV.q=rE.q:=rfl
theorem Qu:xV.a=rE.a:=rfl
theorem Qv (g:FuncId) (args:List D) (h:aa) (K E:D→aa→Prop):xV.c g args h K E=if g=67 then GG args h K E else rE.c g args h K E:=rfl
theorem J3:xV.ok Tryz.prog:=bh.bQ Ee Un
theorem dL:type_of% (And.intro (And.intro @Qw (And.intro @Qu @Qv)) @rF):=(And.intro (And.intro @Qw (And.intro @Qu @Qv)) @rF)
def crR (r:CR Int):CR D:=match r with
 | .ok t=>.ok (.int .i64 t)
 | .error e=>.error e
def V_:List D→Option (CR D)
 | [.str s,.int .i64 a,.int .i64 b]=>some (crR (vi s a b))
 | _=>none
def Lb (args:List D) (h:aa) (K E:D→aa→Prop):Prop:=Sf K E h (V_ args)
theorem RS (args:List D) (h:aa) (K E K' E':D→aa→Prop) (hk:∀d h,K d h→K' d h) (he:∀d h,E d h→E' d h) (c:Lb args h K E):Lb args h K' E':=kR hk he c
theorem dW (t:Int):crR (.ok t)=.ok (.int .i64 t):=rfl
theorem cR (e:Int):crR (.error e)=.error e:=rfl
theorem Y1 (args:List D) (h:aa) (K E:D→aa→Prop) (c:Lb args h K E):aH Tryz.prog 110 args h (cY.to K E):=by
 unfold Lb V_ at c
 split at c
 ·rename_i s a b
  refine aH.cv J3 (dc:=cy.none) (fun _ _=>cy.cX) (by kernel_rfl) afE (by simp) ?_
  rw [cA]
  unfold vi at c
  cases iJ:(a==b)
  ·rw [if_neg (by simp [iJ]),cR,aE] at c
   simp (maxSteps:=1000000) only [gS,iJ,bz,cE,aE,cond_false,aX,ab,av,dL,aA,seval]
   first | exact ⟨h,aa.aj h,c⟩ | exact .inl ⟨h,aa.aj h,c⟩
  ·rw [if_pos (by simp [iJ])] at c
   cases gy:(s==([43]:List UInt8)) with
   | true=>
    cases d:(mO a)
    ·simp only [gy,d,Bool.or_true,Bool.true_or,Bool.or_false,Bool.false_or,Bool.false_eq_true,if_true,if_false,dW,cR,aW,aE] at c
     simp (maxSteps:=1000000) only [gy,iJ,gS,d,bz,cE,aW,aE,eT,cond_true,cond_false,af,aX,ab,av,dL,aA,seval]
     first | exact ⟨h,aa.aj h,c⟩ | exact .inl ⟨h,aa.aj h,c⟩
    ·simp only [gy,d,Bool.or_true,Bool.true_or,Bool.or_false,Bool.false_or,Bool.false_eq_true,if_true,if_false,dW,cR,aW,aE] at c
     simp (maxSteps:=1000000) only [gy,iJ,gS,d,bz,cE,aW,aE,eT,cond_true,cond_false,af,aX,ab,av,dL,aA,seval]
     first | exact ⟨h,aa.aj h,c⟩ | exact .inl ⟨h,aa.aj h,c⟩
   | false=>
   cases iK:(s==([45]:List UInt8)) with
   | true=>
    cases d:(mO a)
    ·simp only [gy,iK,d,Bool.or_true,Bool.true_or,Bool.or_false,Bool.false_or,Bool.false_eq_true,if_true,if_false,dW,cR,aW,aE] at c
     simp (maxSteps:=1000000) only [gy,iK,iJ,gS,d,bz,cE,aW,aE,eT,cond_true,cond_false,af,aX,ab,av,dL,aA,seval]
     first | exact ⟨h,aa.aj h,c⟩ | exact .inl ⟨h,aa.aj h,c⟩
    ·simp only [gy,iK,d,Bool.or_true,Bool.true_or,Bool.or_false,Bool.false_or,Bool.false_eq_true,if_true,if_false,dW,cR,aW,aE] at c
     simp (maxSteps:=1000000) only [gy,iK,iJ,gS,d,bz,cE,aW,aE,eT,cond_true,cond_false,af,aX,ab,av,dL,aA,seval]
     first | exact ⟨h,aa.aj h,c⟩ | exact .inl ⟨h,aa.aj h,c⟩
   | false=>
   cases kl:(s==([42]:List UInt8)) with
   | true=>
    cases d:(mO a)
    ·simp only [gy,iK,kl,d,Bool.or_true,Bool.true_or,Bool.or_false,Bool.false_or,Bool.false_eq_true,if_true,if_false,dW,cR,aW,aE] at c
     simp (maxSteps:=1000000) only [gy,iK,kl,iJ,gS,d,bz,cE,aW,aE,eT,cond_true,cond_false,af,aX,ab,av,dL,aA,seval]
     first | exact ⟨h,aa.aj h,c⟩ | exact .inl ⟨h,aa.aj h,c⟩
    ·simp only [gy,iK,kl,d,Bool.or_true,Bool.true_or,Bool.or_false,Bool.false_or,Bool.false_eq_true,if_true,if_false,dW,cR,aW,aE] at c
     simp (maxSteps:=1000000) only [gy,iK,kl,iJ,gS,d,bz,cE,aW,aE,eT,cond_true,cond_false,af,aX,ab,av,dL,aA,seval]
     first | exact ⟨h,aa.aj h,c⟩ | exact .inl ⟨h,aa.aj h,c⟩
   | false=>
   cases mK:(s==([47]:List UInt8)) with
   | true=>
    cases d:(mO a)
    ·simp only [gy,iK,kl,mK,d,Bool.or_true,Bool.true_or,Bool.or_false,Bool.false_or,Bool.false_eq_true,if_true,if_false,dW,cR,aW,aE] at c
     simp (maxSteps:=1000000) only [gy,iK,kl,mK,iJ,gS,d,bz,cE,aW,aE,eT,cond_true,cond_false,af,aX,ab,av,dL,aA,seval]
     first | exact ⟨h,aa.aj h,c⟩ | exact .inl ⟨h,aa.aj h,c⟩
    ·simp only [gy,iK,kl,mK,d,Bool.or_true,Bool.true_or,Bool.or_false,Bool.false_or,Bool.false_eq_true,if_true,if_false,dW,cR,aW,aE] at c
     simp (maxSteps:=1000000) only [gy,iK,kl,mK,iJ,gS,d,bz,cE,aW,aE,eT,cond_true,cond_false,af,aX,ab,av,dL,aA,seval]
     first | exact ⟨h,aa.aj h,c⟩ | exact .inl ⟨h,aa.aj h,c⟩
   | false=>
   cases pe:(s==([37]:List UInt8)) with
   | true=>
    cases d:(a==1)
    ·simp only [gy,iK,kl,mK,pe,d,Bool.or_true,Bool.true_or,Bool.or_false,Bool.false_or,Bool.false_eq_true,if_true,if_false,dW,cR,aW,aE] at c
     simp (maxSteps:=1000000) only [gy,iK,kl,mK,pe,iJ,gS,d,bz,cE,aW,aE,eT,cond_true,cond_false,af,aX,ab,av,dL,aA,seval]
     first | exact ⟨h,aa.aj h,c⟩ | exact .inl ⟨h,aa.aj h,c⟩
    ·simp only [gy,iK,kl,mK,pe,d,Bool.or_true,Bool.true_or,Bool.or_false,Bool.false_or,Bool.false_eq_true,if_true,if_false,dW,cR,aW,aE] at c
     simp (maxSteps:=1000000) only [gy,iK,kl,mK,pe,iJ,gS,d,bz,cE,aW,aE,eT,cond_true,cond_false,af,aX,ab,av,dL,aA,seval]
     first | exact ⟨h,aa.aj h,c⟩ | exact .inl ⟨h,aa.aj h,c⟩
   | false=>
   cases sw:(s==([60]:List UInt8)) with
   | true=>
    cases d:(mO a)
    ·simp only [gy,iK,kl,mK,pe,sw,d,Bool.or_true,Bool.true_or,Bool.or_false,Bool.false_or,Bool.false_eq_true,if_true,if_false,dW,cR,aW,aE] at c
     simp (maxSteps:=1000000) only [gy,iK,kl,mK,pe,sw,iJ,gS,d,bz,cE,aW,aE,eT,cond_true,cond_false,af,aX,ab,av,dL,aA,seval]
     first | exact ⟨h,aa.aj h,c⟩ | exact .inl ⟨h,aa.aj h,c⟩
    ·simp only [gy,iK,kl,mK,pe,sw,d,Bool.or_true,Bool.true_or,Bool.or_false,Bool.false_or,Bool.false_eq_true,if_true,if_false,dW,cR,aW,aE] at c
     simp (maxSteps:=1000000) only [gy,iK,kl,mK,pe,sw,iJ,gS,d,bz,cE,aW,aE,eT,cond_true,cond_false,af,aX,ab,av,dL,aA,seval]
     first | exact ⟨h,aa.aj h,c⟩ | exact .inl ⟨h,aa.aj h,c⟩
   | false=>
   cases wk:(s==([60,61]:List UInt8)) with
   | true=>
    cases d:(mO a)
    ·simp only [gy,iK,kl,mK,pe,sw,wk,d,Bool.or_true,Bool.true_or,Bool.or_false,Bool.false_or,Bool.false_eq_true,if_true,if_false,dW,cR,aW,aE] at c
     simp (maxSteps:=1000000) only [gy,iK,kl,mK,pe,sw,wk,iJ,gS,d,bz,cE,aW,aE,eT,cond_true,cond_false,af,aX,ab,av,dL,aA,seval]
     first | exact ⟨h,aa.aj h,c⟩ | exact .inl ⟨h,aa.aj h,c⟩
    ·simp only [gy,iK,kl,mK,pe,sw,wk,d,Bool.or_true,Bool.true_or,Bool.or_false,Bool.false_or,Bool.false_eq_true,if_true,if_false,dW,cR,aW,aE] at c
     simp (maxSteps:=1000000) only [gy,iK,kl,mK,pe,sw,wk,iJ,gS,d,bz,cE,aW,aE,eT,cond_true,cond_false,af,aX,ab,av,dL,aA,seval]
     first | exact ⟨h,aa.aj h,c⟩ | exact .inl ⟨h,aa.aj h,c⟩
   | false=>
   cases BQ:(s==([62]:List UInt8)) with
   | true=>
    cases d:(mO a)
    ·simp only [gy,iK,kl,mK,pe,sw,wk,BQ,d,Bool.or_true,Bool.true_or,Bool.or_false,Bool.false_or,Bool.false_eq_true,if_true,if_false,dW,cR,aW,aE] at c
     simp (maxSteps:=1000000) only [gy,iK,kl,mK,pe,sw,wk,BQ,iJ,gS,d,bz,cE,aW,aE,eT,cond_true,cond_false,af,aX,ab,av,dL,aA,seval]
     first | exact ⟨h,aa.aj h,c⟩ | exact .inl ⟨h,aa.aj h,c⟩
    ·simp only [gy,iK,kl,mK,pe,sw,wk,BQ,d,Bool.or_true,Bool.true_or,Bool.or_false,Bool.false_or,Bool.false_eq_true,if_true,if_false,dW,cR,aW,aE] at c
     simp (maxSteps:=1000000) only [gy,iK,kl,mK,pe,sw,wk,BQ,iJ,gS,d,bz,cE,aW,aE,eT,cond_true,cond_false,af,aX,ab,av,dL,aA,seval]
     first | exact ⟨h,aa.aj h,c⟩ | exact .inl ⟨h,aa.aj h,c⟩
   | false=>
   cases F9:(s==([62,61]:List UInt8)) with
   | true=>
    cases d:(mO a)
    ·simp only [gy,iK,kl,mK,pe,sw,wk,BQ,F9,d,Bool.or_true,Bool.true_or,Bool.or_false,Bool.false_or,Bool.false_eq_true,if_true,if_false,dW,cR,aW,aE] at c
     simp (maxSteps:=1000000) only [gy,iK,kl,mK,pe,sw,wk,BQ,F9,iJ,gS,d,bz,cE,aW,aE,eT,cond_true,cond_false,af,aX,ab,av,dL,aA,seval]
     first | exact ⟨h,aa.aj h,c⟩ | exact .inl ⟨h,aa.aj h,c⟩
    ·simp only [gy,iK,kl,mK,pe,sw,wk,BQ,F9,d,Bool.or_true,Bool.true_or,Bool.or_false,Bool.false_or,Bool.false_eq_true,if_true,if_false,dW,cR,aW,aE] at c
     simp (maxSteps:=1000000) only [gy,iK,kl,mK,pe,sw,wk,BQ,F9,iJ,gS,d,bz,cE,aW,aE,eT,cond_true,cond_false,af,aX,ab,av,dL,aA,seval]
     first | exact ⟨h,aa.aj h,c⟩ | exact .inl ⟨h,aa.aj h,c⟩
   | false=>
   cases tW:(s==([38,38]:List UInt8)) with
   | true=>
    cases d:(a==3)
    ·simp only [gy,iK,kl,mK,pe,sw,wk,BQ,F9,tW,d,Bool.or_true,Bool.true_or,Bool.or_false,Bool.false_or,Bool.false_eq_true,if_true,if_false,dW,cR,aW,aE] at c
     simp (maxSteps:=1000000) only [gy,iK,kl,mK,pe,sw,wk,BQ,F9,tW,iJ,gS,d,bz,cE,aW,aE,eT,cond_true,cond_false,af,aX,ab,av,dL,aA,seval]
     first | exact ⟨h,aa.aj h,c⟩ | exact .inl ⟨h,aa.aj h,c⟩
    ·simp only [gy,iK,kl,mK,pe,sw,wk,BQ,F9,tW,d,Bool.or_true,Bool.true_or,Bool.or_false,Bool.false_or,Bool.false_eq_true,if_true,if_false,dW,cR,aW,aE] at c
     simp (maxSteps:=1000000) only [gy,iK,kl,mK,pe,sw,wk,BQ,F9,tW,iJ,gS,d,bz,cE,aW,aE,eT,cond_true,cond_false,af,aX,ab,av,dL,aA,seval]
     first | exact ⟨h,aa.aj h,c⟩ | exact .inl ⟨h,aa.aj h,c⟩
   | false=>
   cases B0:(s==([124,124]:List UInt8)) with
   | true=>
    cases d:(a==3)
    ·simp only [gy,iK,kl,mK,pe,sw,wk,BQ,F9,tW,B0,d,Bool.or_true,Bool.true_or,Bool.or_false,Bool.false_or,Bool.false_eq_true,if_true,if_false,dW,cR,aW,aE] at c
     simp (maxSteps:=1000000) only [gy,iK,kl,mK,pe,sw,wk,BQ,F9,tW,B0,iJ,gS,d,bz,cE,aW,aE,eT,cond_true,cond_false,af,aX,ab,av,dL,aA,seval]
     first | exact ⟨h,aa.aj h,c⟩ | exact .inl ⟨h,aa.aj h,c⟩
    ·simp only [gy,iK,kl,mK,pe,sw,wk,BQ,F9,tW,B0,d,Bool.or_true,Bool.true_or,Bool.or_false,Bool.false_or,Bool.false_eq_true,if_true,if_false,dW,cR,aW,aE] at c
     simp (maxSteps:=1000000) only [gy,iK,kl,mK,pe,sw,wk,BQ,F9,tW,B0,iJ,gS,d,bz,cE,aW,aE,eT,cond_true,cond_false,af,aX,ab,av,dL,aA,seval]
     first | exact ⟨h,aa.aj h,c⟩ | exact .inl ⟨h,aa.aj h,c⟩
   | false=>
   cases RR:(s==([61,61]:List UInt8)) with
   | true=>
    simp only [gy,iK,kl,mK,pe,sw,wk,BQ,F9,tW,B0,RR,Bool.or_true,Bool.true_or,Bool.or_false,Bool.false_or,Bool.false_eq_true,if_true,if_false,dW,cR,aW,aE] at c
    simp (maxSteps:=1000000) only [gy,iK,kl,mK,pe,sw,wk,BQ,F9,tW,B0,RR,iJ,gS,bz,cE,aW,aE,eT,cond_true,cond_false,af,aX,ab,av,dL,aA,seval]
    first | exact ⟨h,aa.aj h,c⟩ | exact .inl ⟨h,aa.aj h,c⟩
   | false=>
   cases YZ:(s==([33,61]:List UInt8)) with
   | true=>
    simp only [gy,iK,kl,mK,pe,sw,wk,BQ,F9,tW,B0,RR,YZ,Bool.or_true,Bool.true_or,Bool.or_false,Bool.false_or,Bool.false_eq_true,if_true,if_false,dW,cR,aW,aE] at c
    simp (maxSteps:=1000000) only [gy,iK,kl,mK,pe,sw,wk,BQ,F9,tW,B0,RR,YZ,iJ,gS,bz,cE,aW,aE,eT,cond_true,cond_false,af,aX,ab,av,dL,aA,seval]
    first | exact ⟨h,aa.aj h,c⟩ | exact .inl ⟨h,aa.aj h,c⟩
   | false=>
   simp only [gy,iK,kl,mK,pe,sw,wk,BQ,F9,tW,B0,RR,YZ,Bool.or_true,Bool.true_or,Bool.or_false,Bool.false_or,Bool.false_eq_true,if_true,if_false,dW,cR,aW,aE] at c
   simp (maxSteps:=1000000) only [gy,iK,kl,mK,pe,sw,wk,BQ,F9,tW,B0,RR,YZ,iJ,gS,bz,cE,aW,aE,eT,cond_true,cond_false,af,aX,ab,av,dL,aA,seval]
   first | exact ⟨h,aa.aj h,c⟩ | exact .inl ⟨h,aa.aj h,c⟩
 ·exact c.elim
def rG:bh:=xV.gI 110 Lb RS
theorem Jv:rG.q=xV.q:=rfl
theorem Js:rG.a=xV.a:=rfl
theorem Jt (g:FuncId) (args:List D) (h:aa) (K E:D→aa→Prop):rG.c g args h K E=if g=110 then Lb args h K E else xV.c g args h K E:=rfl
theorem Tp:rG.ok Tryz.prog:=bh.bQ J3 Y1
theorem Ju:type_of% (And.intro (And.intro @Jv (And.intro @Js @Jt)) @dL):=(And.intro (And.intro @Jv (And.intro @Js @Jt)) @dL)
end
end Go.Proofs.YtpklkpkfgmoghaaGreatDoor.Zz
namespace Go.Proofs.YtpklkpkfgmoghaaGreatDoor.Zz
noncomputable section
def ant:cm:=⟨⟨[(1,5)],[(1,5)],[],[],[],[]⟩,[],[],false⟩
def ajo:dU:=
 sO [oP (.cB (kI 0)) 4,
 oP (.cB (kB false)) 5]
 (sO [oM 0 7,
 oN 7 8,
 oF 0 8 9,
 oL 9 10,
 oM 1 11,
 oQ (.callR (.f 97) [(.t 10),(.t 11)]) 12,
 oM 12 6]
 (.seq (sO [oM 6 13,
 oH .lss 13 0 14]
 (.cond (.t 14)
 (sO [oP (.cB (kI 0)) 4,
 oP (.cB (kB false)) 5]
 (.ret))
 (.skip)))
 (sO [oM 0 15,
 oN 15 16,
 oF 1 16 17,
 oL 17 18,
 oM 6 19,
 oI 1 18 19 20,
 oL 20 21,
 oM 21 4,
 oP (.cB (kB true)) 5]
 (.ret))))
theorem aj_:bA Tryz.prog 90 ant=some (ajo,[.tmp 4,.tmp 5],22):=by kernel_rfl
def aih:cm:=⟨⟨[],[],[],[],[],[]⟩,[],[],false⟩
def Wt:dU:=
 sO [oP (.cB (kI 0)) 4]
 (.seq (sO [oM 0 6,
 oZ 6 7,
 oP (.cB (kI 0)) 8]
 (.block 0 (.loop (sO [oE .lss 8 7 9]
 (.seq (.cond (.t 9)
 (.skip)
 (.exit 0))
 (.seq (.block 1 (sO [oM 8 10,
 oM 10 5]
 (sO [oM 1 11,
 oM 0 12,
 oM 5 13,
 oI 1 12 13 14,
 oL 14 15,
 oE .eql 11 15 16]
 (.cond (.t 16)
 (sO [oM 5 17,
 oM 17 4]
 (.ret))
 (.skip)))))
 (.ops [oH .add 8 1 18,
 oM 18 8])))))))
 (sO [oP (.cB (kI (-1))) 4]
 (.ret)))
theorem afv:bA Tryz.prog 97 aih=some (Wt,[.tmp 4],19):=by kernel_rfl
def eO (h:aa) (d:D) (xs:List (List D)):Prop:=(d=.aZ∧xs=[])∨∃r aY du,d=.row r aY 0 xs.length∧h.f r=some (.dz 1 aY xs du)∧∀e∈du,e.1<aY
def L5 (sc:dj):List (List D):=sc.map fun p=>[D.str p.1]
def Yh (sc:dj):List (List D):=sc.map fun p=>[D.int .i64 p.2]
def Fp (sc:dj) (s:List UInt8):Int:=match sc.findIdx? (fun p=>p.1==s) with
 | some i=>(i:Int)
 | none=> -1
theorem yW (sc:dj):(L5 sc).length=sc.length:=by simp [L5]
theorem Ft (sc:dj):(Yh sc).length=sc.length:=by simp [Yh]
theorem ZS {sc:dj} {i:Nat} {p:List UInt8×Int} (h:sc[i]? =some p):(L5 sc)[i]? =some [.str p.1]:=by simp [L5,h]
theorem abc {sc:dj} {i:Nat} {p:List UInt8×Int} (h:sc[i]? =some p):(Yh sc)[i]? =some [.int .i64 p.2]:=by simp [Yh,h]
theorem NM {sc:dj} {s:List UInt8} {i:Nat} {p:List UInt8×Int} (h:sc[i]? =some p) (e:(p.1==s)=true) (hj:∀(j:Nat) (q:List UInt8×Int),j<i→sc[j]? =some q→(q.1==s)=false):Fp sc s=(i:Int)∧gz sc s=some p.2:=by
 obtain ⟨ig,hg⟩:=List.getElem?_eq_some_iff.1 h
 have hf:sc.findIdx? (fun p=>p.1==s)=some i:=List.findIdx?_eq_some_iff_getElem.2 ⟨ig,by rw [hg]; exact e,fun j Ga=>by
  have hl:j<sc.length:=by omega
  rw [hj j _ Ga (List.getElem?_eq_getElem hl)]
  simp⟩
 refine ⟨by rw [Fp,hf],?_⟩
 have Sv:sc.find? (fun p=>p.1==s)=some p:=List.find?_eq_some_iff_getElem.2 ⟨e,i,ig,hg,fun j Ga=>by
  have hl:j<sc.length:=by omega
  rw [hj j _ Ga (List.getElem?_eq_getElem hl)]
  rfl⟩
 rw [gz,Sv]; rfl
theorem Di {sc:dj} {s:List UInt8} (hj:∀(j:Nat) (q:List UInt8×Int),sc[j]? =some q→(q.1==s)=false):Fp sc s= -1∧gz sc s=none:=by
 have hf:sc.findIdx? (fun p=>p.1==s)=none:=List.findIdx?_eq_none_iff.2 fun x hx=>by
  obtain ⟨j,yr⟩:=List.mem_iff_getElem?.1 hx
  exact hj j x yr
 have Sv:sc.find? (fun p=>p.1==s)=none:=List.find?_eq_none.2 fun x hx=>by
  obtain ⟨j,yr⟩:=List.mem_iff_getElem?.1 hx
  rw [hj j x yr]; simp
 exact ⟨by rw [Fp,hf],by rw [gz,Sv]; rfl⟩
theorem LU (sc:dj) (s:List UInt8):(Fp sc s= -1∧gz sc s=none)∨∃(i:Nat) (p:List UInt8×Int),sc[i]? =some p∧Fp sc s=(i:Int)∧gz sc s=some p.2:=by
 cases hf:sc.findIdx? (fun p=>p.1==s) with
 | none=>
  refine .inl (Di fun j q hq=>?_)
  exact List.findIdx?_eq_none_iff.1 hf q (List.mem_of_getElem? hq)
 | some i=>
  obtain ⟨ig,h1,h2⟩:=List.findIdx?_eq_some_iff_getElem.1 hf
  refine .inr ⟨i,sc[i],List.getElem?_eq_getElem ig,NM (List.getElem?_eq_getElem ig) h1 fun j q hj hq=>?_⟩
  obtain ⟨hl,rfl⟩:=List.getElem?_eq_some_iff.1 hq
  simpa using h2 j hj
def Ul (args:List D) (h:aa) (K E:D→aa→Prop):Prop:=∃(sc:dj) (s:List UInt8) (d:D),args=[d,.str s]∧eO h d (L5 sc)∧K (.int .i64 (Fp sc s)) h
theorem RY (args:List D) (h:aa) (K E K' E':D→aa→Prop) (hk:∀d h,K d h→K' d h) (he:∀d h,E d h→E' d h) (c:Ul args h K E):Ul args h K' E':=by
 obtain ⟨sc,s,d,a,b,c⟩:=c
 exact ⟨sc,s,d,a,b,hk _ _ c⟩
theorem Y6 (args:List D) (h:aa) (K E:D→aa→Prop) (c:Ul args h K E):aH Tryz.prog 97 args h (cY.to K E):=by
 obtain ⟨sc,s,d,rfl,hr,k⟩:=c
 refine aH.cv (bh.dJ _) (dc:=cy.none) (fun _ _=>cy.cX) (by kernel_rfl) afv (by simp) ?_
 rw [cA]
 rcases hr with ⟨rfl,hx⟩ | ⟨r,aY,du,rfl,ho,hold⟩
 ·have hs:sc=[]:=by simpa [L5] using hx
  subst hs
  simp (maxSteps:=1000000) only [Wt,aA,seval]
  refine cj (X:=Nat) (fun i=>[(7,.int .i64 0),(8,.int .i64 0)]) (fun _=>h) (fun i=>0) (fun i=>True) 0 trivial (by simp only [aA,seval]) (aa.aj _) ?_
  intro x Q _ hQ
  simp (maxSteps:=1000000) only [af,ab,av,aA,seval]
  first | exact ⟨h,aa.aj h,k⟩ | exact .inl ⟨h,aa.aj h,k⟩
 ·simp (maxSteps:=1000000) only [Wt,aA,seval]
  intro hlen
  refine cj (X:=Nat) (fun i=>[(0,.row r aY 0 (L5 sc).length),(1,.str s),(7,.int .i64 ((L5 sc).length:Int)),(8,.int .i64 i)]) (fun _=>h) (fun i=>sc.length - i) (fun i=>i≤sc.length∧∀j p,j<i→sc[j]? =some p→(p.1==s)=false) 0 ⟨by omega,fun j p hj=>by omega⟩ (by simp only [aA,seval]) (aa.aj _) ?_
  rintro i Q ⟨i1,i2⟩ hQ
  rw [yW] at hlen ⊢
  by_cases iJ:i<sc.length
  ·obtain ⟨p,hp⟩:∃p,sc[i]? =some p:=⟨_,List.getElem?_eq_getElem iJ⟩
   have g:((i:Int)<(sc.length:Int))=True:=eq_true (by omega)
   have g2:=ZS hp
   have g3:(sc.length:Int)≤9223372036854775807:=by omega
   have wi:IntKind.i64.wrap ((i:Int)+1)=((i+1:Nat):Int):=cp (by omega)
   cases gy:(s==p.1) with
   | true=>
    simp (maxSteps:=1000000) only [g,ho,g2,gy,af,ab,av,aA,seval]
    have e:Fp sc s=(i:Int):=(NM hp (by rw [←gy]; exact Bool.beq_comm ..) i2).1
    rw [e] at k
    first | exact ⟨h,aa.aj h,k⟩ | exact .inl ⟨h,aa.aj h,k⟩
   | false=>
    simp (maxSteps:=1000000) only [g,ho,g2,gy,wi,aA,seval]
    refine hQ (i+1) _ _ ⟨by omega,fun j q hj hq=>?_⟩ (by simp only [yW,aA,seval]) (aa.aj _) (by omega)
    rcases Nat.lt_succ_iff_lt_or_eq.1 hj with hj | rfl
    ·exact i2 j q hj hq
    ·rw [hp] at hq; cases hq; rw [←gy]; exact Bool.beq_comm ..
  ·have g:((i:Int)<(sc.length:Int))=False:=eq_false (by omega)
   simp (maxSteps:=1000000) only [g,af,ab,av,aA,seval]
   have e:Fp sc s= -1:=(Di fun j q hq=>i2 j q (by have:=(List.getElem?_eq_some_iff.1 hq).1; omega) hq).1
   rw [e] at k
   first | exact ⟨h,aa.aj h,k⟩ | exact .inl ⟨h,aa.aj h,k⟩
def rA:bh:=rG.gI 97 Ul RY
theorem Je:rA.q=rG.q:=rfl
theorem Jc:rA.a=rG.a:=rfl
theorem Jd (g:FuncId) (args:List D) (h:aa) (K E:D→aa→Prop):rA.c g args h K E=if g=97 then Ul args h K E else rG.c g args h K E:=rfl
theorem Eb:rA.ok Tryz.prog:=bh.bQ Tp Y6
theorem rB:type_of% (And.intro (And.intro @Je (And.intro @Jc @Jd)) @Ju):=(And.intro (And.intro @Je (And.intro @Jc @Jd)) @Ju)
def yj (p:Nd) (dn dt:D) (ans:Int):cJ:=.cells (p.enc++[dn,dt,.int .i64 ans])
theorem fV (k t:Int) (s:List UInt8) (n:Int) (l:List Nd) (dn dt:D) (ans:Int):yj (.mk k t s n l) dn dt ans=.cells [.int .i64 k,.int .i64 t,.str s,.int .i64 n,.sl (Nd.bg l),dn,dt,.int .i64 ans]:=by rw [yj,aB]; rfl
structure iI (h:aa) (c:Nat) (p:Nd) (sc:dj) (dn dt:D) (ans:Int):Prop where
 obj:h.f c=some (yj p dn dt ans)
 nm:eO h dn (L5 sc)
 ty:eO h dt (Yh sc)
 ne:∀r v o l r' v' o' l',dn=.row r v o l→dt=.row r' v' o' l'→r≠r'
def GF (args:List D) (h:aa) (K E:D→aa→Prop):Prop:=∃(c:Nat) (p:Nd) (sc:dj) (dn dt:D) (ans:Int) (s:List UInt8),args=[.ptr c 1 5,.str s]∧iI h c p sc dn dt ans∧K (.tuple [.int .i64 ((gz sc s).getD 0),.bool (gz sc s).isSome]) h
theorem Lh (args:List D) (h:aa) (K E K' E':D→aa→Prop) (hk:∀d h,K d h→K' d h) (he:∀d h,E d h→E' d h) (c:GF args h K E):GF args h K' E':=by
 obtain ⟨c,p,sc,dn,dt,ans,s,a,b,k⟩:=c
 exact ⟨c,p,sc,dn,dt,ans,s,a,b,hk _ _ k⟩
theorem Uc (args:List D) (h:aa) (K E:D→aa→Prop) (c:GF args h K E):aH Tryz.prog 90 args h (cY.to K E):=by
 obtain ⟨c,p,sc,dn,dt,ans,s,rfl,hs,k⟩:=c
 refine aH.cv Eb (dc:=cy.none) (fun _ _=>cy.cX) (by kernel_rfl) aj_ (by simp) ?_
 rw [cA]
 obtain ⟨kk,t,ss,n,l⟩:=p
 have ho:=hs.obj
 rw [fV] at ho
 simp (maxSteps:=1000000) only [ajo,ho,rB,aA,seval]
 refine ⟨sc,s,dn,rfl,hs.nm,?_⟩
 rcases LU sc s with ⟨e1,e2⟩ | ⟨i,q,hq,e1,e2⟩
 ·rw [e2] at k
  simp (maxSteps:=1000000) only [e1,af,ab,av,rB,aA,seval]
  first | exact ⟨h,aa.aj h,k⟩ | exact .inl ⟨h,aa.aj h,k⟩
 ·rw [e2] at k
  have hi:=(List.getElem?_eq_some_iff.1 hq).1
  have g:((i:Int)<0)=False:=eq_false (by omega)
  have g2:=abc hq
  rcases hs.ty with ⟨rfl,hx⟩ | ⟨r,aY,du,rfl,hr,hold⟩
  ·have:sc=[]:=by simpa [Yh] using hx
   subst this; simp at hq
  ·rw [Ft] at*
   have g3:((i:Int)<(sc.length:Int))=True:=eq_true (by omega)
   simp (maxSteps:=1000000) only [e1,g,ho,hr,g2,g3,af,ab,av,rB,aA,seval]
   first | exact ⟨h,aa.aj h,k⟩ | exact .inl ⟨h,aa.aj h,k⟩
def yc:bh:=rA.gI 90 GF Lh
theorem Rk:yc.q=rA.q:=rfl
theorem Ri:yc.a=rA.a:=rfl
theorem Rj (g:FuncId) (args:List D) (h:aa) (K E:D→aa→Prop):yc.c g args h K E=if g=90 then GF args h K E else rA.c g args h K E:=rfl
theorem Ke:yc.ok Tryz.prog:=bh.bQ Eb Uc
theorem y_:type_of% (And.intro (And.intro @Rk (And.intro @Ri @Rj)) @rB):=(And.intro (And.intro @Rk (And.intro @Ri @Rj)) @rB)
end
end Go.Proofs.YtpklkpkfgmoghaaGreatDoor.Zz
