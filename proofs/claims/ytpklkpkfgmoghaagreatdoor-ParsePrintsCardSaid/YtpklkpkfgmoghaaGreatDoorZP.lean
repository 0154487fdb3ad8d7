/- All instructions. -/
import Derived.Test.YtpklkpkfgmoghaaGreatDoorZNA
import Derived.Laws.BytesArg
import Derived.Laws.IdiomStrings
set_option linter.unnecessarySimpa false
set_option linter.unusedVariables false
set_option linter.unusedSimpArgs false
namespace Go.Proofs.YtpklkpkfgmoghaaGreatDoor.Zz
variable {P:Program} {T:bm} {κ:cp} {h:aa} {w:World} {σ:Fr} {n:Nat} {a:Act} {K E:D→aa→Prop}
theorem cV [aN] {r q:Bool} {o:Oper} {i:bM f7} (hc:iL P r q o=some i) (hi:Inv κ h w) (hp:jF κ w σ n a) (hv:∃d,bo (i.map σ.ev)=some d∧K d h):eA P κ h w K E ((execOp a.eval o).run P w):=by
  obtain ⟨d,e,k⟩:=hv
  obtain ⟨v,h1,h2⟩:=GV hc hp e
  rw [h1]
  exact eA.val hi k h2
theorem ka.of [aN] {s:Sem Value} {v:Value} {w':World} {κ':cp} {h':aa} {d:D} (hs:s.run P w=.ok v w') (k:K d h') (r:cd κ' w' v d) (hi:Inv κ' h' w') (ev:Ev κ h w κ' h' w'):
    eA P κ h w K E ((do let x ←s; pure (Next.value x):Sem Next).run P w):=by
  simp only [Sem.run_bind,hs,Result.andThen,Sem.run_pure]
  exact ⟨κ',h',d,k,r,hi,ev⟩
def uW:List D→Int
  | [.int _ n]=>n
  | _=>0
theorem A4 [aN] (hi:Inv κ h w) {u:Value} {x:D} {xs:List (List D)} (r:cd κ w u x) (e:cO h x=some xs) (hb:xs.all isByte=true) {src dst el:TypeId} (hs:P.underlying src=some (.slice el)) (he:P.underlying el=some (.int .u8)) (hd:P.underlying dst=some .string):
    (convert src dst u).run P w=.ok (.string ⟨(xs.map byteOf).toArray⟩) w:=by
  have N7:∀y∈xs,∃m,y=[.int .u8 m]:=fun y hy=>by
    have:=List.all_eq_true.1 hb y hy
    unfold isByte at this
    split at this
    · exact ⟨_,rfl⟩
    · cases this
  have ZL:∀y∈xs,y.length=1:=fun y hy=>by
    obtain ⟨m,rfl⟩:=N7 y hy
    rfl
  rcases pD hi r e ZL (by omega) with ⟨jM,ba,cap,rfl,hba⟩ | ⟨b,o,cap,rfl,hc⟩
  · subst jM
    rw [run_convert_bytes_string w src dst el _ _ _ hs he hd]
    cases ba with
    | none=>simp [Conv.bytesToString]; rfl
    | some ad=>simp [Conv.bytesToString,loadCells,loadCellsFrom]; rfl
  · have iM:∀i,i<xs.length→w.cell? ⟨b,o+i,none⟩=some (.int .u8 ((xs.map uW).getD i 0)):=fun i kD=>by
      obtain ⟨m,hm⟩:=N7 xs[i] (List.getElem_mem kD)
      obtain ⟨v,g1,g2⟩:=hc i xs[i] 0 (.int .u8 m) (List.getElem?_eq_getElem kD) (by simp [hm])
      cases g2
      rw [Nat.mul_one,Nat.add_zero] at g1
      rw [g1]
      simp [List.getD,kD,hm,uW]
    rw [run_convert_bytes_arg w src el hs he b o xs.length cap (xs.map uW) (by simp) iM dst hd]
    have hm:(xs.map uW).map (fun n=>UInt8.ofNat n.toNat)=xs.map byteOf:=by
      rw [List.map_map]
      apply List.map_congr_left
      intro y hy
      obtain ⟨m,rfl⟩:=N7 y hy
      rfl
    simp only [strOfNums,hm]
theorem xR {s d:TypeId} (e:Lw P s d=some .dW):∃el,P.underlying s=some (.slice el)∧P.underlying d=some .string∧P.underlying el=some (.int .u8):=by
  unfold Lw at e
  split at e
  bf first
    | (cases e; done)
    | (split at e
       · cases e
         first | exact ⟨_,by assumption,by assumption,by assumption⟩ | skip
       · cases e)
theorem xS {s d:TypeId} (e:Lw P s d=some .jE):∃el,P.underlying s=some .string∧P.underlying d=some (.slice el)∧P.underlying el=some (.int .u8):=by
  unfold Lw at e
  split at e
  bf first
    | (cases e; done)
    | (split at e
       · cases e
         first | exact ⟨_,by assumption,by assumption,by assumption⟩ | skip
       · cases e)
theorem CD {u:Value} {x:D} {xs:List (List D)} (r:cd κ w u x) (e:cO h x=some xs):xs.length≤9223372036854775807:=by
  unfold cO at e
  split at e
  · cases e; simp
  · cases e
    cases r with
    | slnil=>simp
    | sl f hn=>exact hn
  · split at e
    · split at e
      · cases e
        cases r with
        | row hl hv hn=>simp; omega
      · cases e
    · cases e
  · split at e
    · split at e
      · cases e
        cases r with
        | r7 hl hv hn=>simp; omega
      · cases e
    · cases e
  · cases e
theorem Ti {u:Value} {b:Bool} {x:D} (r:cd κ w u x) {m:Nat} (hx:x=.bg∧m=0∨(∃xs,x=.sl xs∧m=xs.length)∨(∃r aR off,x=.row r aR off m)∨(∃id off,x=.r7 id off m)):∃ad cap,u=.slice ad m cap∧m≤9223372036854775807:=by
  rcases hx with ⟨rfl,rfl⟩ | ⟨xs,rfl,rfl⟩ | ⟨r,aR,off,rfl⟩ | ⟨id,off,rfl⟩
  · cases r; exact ⟨_,_,rfl,by omega⟩
  · cases r with
    | slnil=>exact ⟨_,_,rfl,by simp⟩
    | sl f hn=>exact ⟨_,_,rfl,hn⟩
  · cases r with
    | row hl hv hn=>exact ⟨_,_,rfl,hn⟩
  · cases r with
    | r7 hl hv hn=>exact ⟨_,_,rfl,hn⟩
theorem So [aN] (hi:Inv κ h w) {k:LK} {t ty:TypeId} {u:Value} {x:D} (r:cd κ w u x) (hk:(k=.str∧P.underlying t=some .string)∨(k=.sl∧∃e,P.underlying t=some (.slice e))∨(∃m e,k=.arr m∧P.underlying t=some (.array m e)))
    (hv:d_ T (.len k x) h K E):eA P κ h w K E ((do let x ←Builtin.len_ #[t] ty #[u]; pure (Next.value x):Sem Next).run P w):=by
  simp only [d_] at hv
  have ev:=Ev.refl κ h w
  rcases hk with ⟨rfl,ht⟩ | ⟨rfl,e,ht⟩ | ⟨m,e,rfl,ht⟩
  · split at hv
    case h_1=>
      ab s0 e1
      cases r with
      | str _ hl=>
      exact ka.of (v:=.int .i64 (s0.length:Int)) (by simp [Builtin.len_,run_underlying ht,goInt,pg]) (hv hl) (.int _ _) hi ev
    bf first | exact hv.elim | dj
  · have go:∀(m:Nat),(x=.bg∧m=0∨(∃xs,x=.sl xs∧m=xs.length)∨(∃r aR off,x=.row r aR off m)∨(∃id off,x=.r7 id off m))→(m≤9223372036854775807→K (.int .i64 (m:Int)) h)→eA P κ h w K E ((do let x ←Builtin.len_ #[t] ty #[u]; pure (Next.value x):Sem Next).run P w):=fun m hx hkm=>by
      obtain ⟨ad,cap,rfl,hl⟩:=Ti (b:=true) r hx
      exact ka.of (v:=.int .i64 (m:Int)) (by simp [Builtin.len_,run_underlying ht,goInt]) (hkm hl) (.int _ _) hi ev
    split at hv
    bf first
      | exact hv.elim
      | (dj; done)
      | exact go 0 (.inl ⟨rfl,rfl⟩) fun _=>hv
      | exact go _ (.inr (.inl ⟨_,rfl,rfl⟩)) hv
      | exact go _ (.inr (.inr (.inl ⟨_,_,_,rfl⟩))) hv
      | exact go _ (.inr (.inr (.inr ⟨_,_,rfl⟩))) hv
  · split at hv
    bf first
      | exact hv.elim
      | (dj; done)
      | skip
    ab n0 _ e1
    first
      | (cases e1
         exact ka.of (v:=.int .i64 (m:Int)) (by simp [Builtin.len_,run_underlying ht,goInt]) hv (.int _ _) hi ev)
      | exact ka.of (v:=.int .i64 (m:Int)) (by simp [Builtin.len_,run_underlying ht,goInt]) hv (.int _ _) hi ev
theorem MK {κ:cp} {w:World} {v:Value} {d:D} (r:cd κ w v d):cd κ w v (fc d):=by
  cases r with
  | bg=>exact .slnil fun _=>rfl
  | _=>first | (constructor<;>assumption) | skip
theorem GJ {κ:cp} {w:World} {cs:Array Value} {xs:List (List D)} {sz:Nat} (zs:List D) (h1:∀x∈xs,x.length=sz)
    (h2:∀(i:Nat) (x:List D) (j:Nat) (d:D),xs[i]? =some x→x[j]? =some d→∃v,cs[i*sz+j]? =some v∧cd κ w v d):
    (∀x∈pG zs xs,x.length=sz)∧(pG zs xs).length=xs.length∧
    ∀(i:Nat) (x:List D) (j:Nat) (d:D),(pG zs xs)[i]? =some x→x[j]? =some d→∃v,cs[i*sz+j]? =some v∧cd κ w v d:=by
  unfold pG
  cases zs.any isNil with
  | false=>exact ⟨h1,rfl,h2⟩
  | true=>
    simp only [cond_true]
    refine ⟨fun x hx=>?_,by rw [List.length_map],fun i x j d hx hj=>?_⟩
    · obtain ⟨y,hy,rfl⟩:=List.mem_map.1 hx
      rw [List.length_map]; exact h1 y hy
    · rw [List.getElem?_map,Option.map_eq_some_iff] at hx
      obtain ⟨y,hy,rfl⟩:=hx
      rw [List.getElem?_map,Option.map_eq_some_iff] at hj
      obtain ⟨e,he,rfl⟩:=hj
      obtain ⟨v,k1,k2⟩:=h2 i y j e hy he
      exact ⟨v,k1,MK k2⟩
theorem vf [aN] (hi:Inv κ h w) {sz jK:Nat} {str:Bool} {t tx ty e:TypeId} {z:D} (ht:P.underlying t=some (.slice e)) (hs:bT P e=some sz) (hb:gI P e=some jK) (hz:fQ P e=some z) (RA:(bZ z).length=sz) (h_:0<sz)
    (hk:(str=false∧∃e',P.underlying tx=some (.slice e'))∨(str=true∧P.underlying tx=some .string∧sz=1)) {s u:Value} {ds x:D} (rs:cd κ w s ds) (rx:cd κ w u x) (hv:d_ T (.append sz jK str ds x) h K E):
    eA P κ h w K E ((do let x ←Builtin.append_ #[t,tx] ty #[s,u]; pure (Next.value x):Sem Next).run P w):=by
  simp only [d_] at hv
  obtain ⟨ys,e1,hy,hbp,Rx⟩:=hv
  unfold pO at e1
  have lA:∃news,Src P sz tx u ys.length news w∧bP κ w news ys.flatten:=by
    rcases hk with ⟨rfl,e',h1⟩ | ⟨rfl,h1,h2⟩
    · have Wk:∀b,x≠.str b:=fun b e=>by subst e; simp [cO] at e1
      refine BO hi h_ rx ?_ (.inl ⟨e',h1,Wk⟩) hy
      cases x<;>first | exact e1 | exact absurd rfl (Wk _)
    · cases x with
      | str b=>exact BO hi h_ rx e1 (.inr ⟨h1,h2,b,rfl⟩) hy
      | _=>cases e1
  obtain ⟨news,s1,s2⟩:=lA
  obtain ⟨v,w',κ',h',d,a1,a2,a3,a4,a5⟩:=qz (P:=P) (K:=K) (ty:=ty) (x:=x) hi ht hs hb hz RA h_ rs hy hbp s1 s2 (by cases ds<;>exact Rx)
  exact ka.of a1 a2 a3 a4 a5
theorem s3 [aN] (hi:Inv κ h w) {sz jK:Nat} {str:Bool} {t tx ty e:TypeId} {z:D} (ht:P.underlying t=some (.slice e)) (hs:bT P e=some sz) (hb:gI P e=some jK) (hz:fQ P e=some z) (RA:(bZ z).length=sz) (h_:0<sz)
    (hk:(str=false∧∃e',P.underlying tx=some (.slice e'))∨(str=true∧P.underlying tx=some .string∧sz=1)) {s u:Value} {ds x:D} {zs:List D} (rs:cd κ w s ds) (rx:cd κ w u x) (hv:d_ T (.appendA sz jK str ds x zs) h K E):
    eA P κ h w K E ((do let x ←Builtin.append_ #[t,tx] ty #[s,u]; pure (Next.value x):Sem Next).run P w):=by
  simp only [d_] at hv
  obtain ⟨_,ys,e1,hy,hbp,Rx⟩:=hv
  unfold pO at e1
  have lA:∃news,Src P sz tx u ys.length news w∧bP κ w news ys.flatten:=by
    rcases hk with ⟨rfl,e',h1⟩ | ⟨rfl,h1,h2⟩
    · have Wk:∀b,x≠.str b:=fun b e=>by subst e; simp [cO] at e1
      refine BO hi h_ rx ?_ (.inl ⟨e',h1,Wk⟩) hy
      cases x<;>first | exact e1 | exact absurd rfl (Wk _)
    · cases x with
      | str b=>exact BO hi h_ rx e1 (.inr ⟨h1,h2,b,rfl⟩) hy
      | _=>cases e1
  obtain ⟨news,s1,s2⟩:=lA
  by_cases Sg:∃r aR off len gS bW xs,ds=.row r aR off len∧h.f r=some (.row gS bW xs false)
  · obtain ⟨r,aR,off,len,gS,bW,xs,rfl,ho⟩:=Sg
    simp only [ho] at Rx
    obtain ⟨v,w',κ',h',d,a1,a2,a3,a4,a5⟩:=qz (P:=P) (K:=K) (ty:=ty) (x:=x) hi ht hs hb hz RA h_ rs hy hbp s1 s2 (by simp only [ho]; exact Rx)
    exact ka.of a1 a2 a3 a4 a5
  have jM:ys≠[]∧(match ds with
       | .bg=>ys.length*jK≤140737488355328∧∀id,h.f id=none→K (.row id 2 0 ys.length) (h.set id (.gb sz 2 ys []))
       | .row r aR off len=>match h.f r with
         | some (.gb gS bW xs f9)=>aR=bW∧gS=sz∧off=0∧len=xs.length∧(xs.length+ys.length)*jK≤140737488355328∧
             K (.row r (aR+1) 0 (len+ys.length)) (h.set r (.gb sz (aR+1) (xs++ys) ((aR,len)::f9)))
         | _=>False
       | _=>False):=by
    cases ds with
    | bg=>exact Rx
    | row r aR off len=>
      simp only at Rx ⊢
      split at Rx
      · ab ho; simp only [ho]; exact Rx
      · ab ho; exact absurd ⟨_,_,_,_,_,_,_,rfl,ho⟩ Sg
      · exact Rx.elim
    | _=>exact Rx.elim
  obtain ⟨v,w',κ',h',d,a1,a2,a3,a4,a5⟩:=xO (P:=P) (K:=K) (ty:=ty) (x:=x) hi ht hs hb hz RA h_ rs hy hbp s1 s2 jM.1 (by have:=jM.2; cases ds<;>exact this)
  exact ka.of a1 a2 a3 a4 a5
def assoc (L:List (Nat×cR)) (i:Nat):Option cR:=match L with
  | []=>none
  | p::L=>if i=p.1 then some p.2 else assoc L i
theorem wL (h:aa) (L:List (Nat×cR)) (i:Nat):(h.yc L).f i=match assoc L i with | some o=>some o | none=>h.f i:=by
  induction L with
  | nil=>rfl
  | cons p L ih=>
    show (aa.set (h.yc L) p.1 p.2).f i=_
    simp only [aa.dN,assoc]
    split
    · rfl
    · exact ih
theorem yq {L:List (Nat×cR)} {p:Nat×cR} (hp:p∈L):∃o,assoc L p.1=some o:=by
  induction L with
  | nil=>cases hp
  | cons q L ih=>
    simp only [assoc]
    split
    · exact ⟨_,rfl⟩
    · ab iC
      rcases List.mem_cons.1 hp with h | h
      · subst h; exact absurd rfl iC
      · exact ih h
theorem vj {L:List (Nat×cR)} {i:Nat} {o:cR} (h:assoc L i=some o):∃p∈L,p.1=i:=by
  induction L with
  | nil=>cases h
  | cons q L ih=>
    simp only [assoc] at h
    split at h
    · ab e; exact ⟨q,by simp,e.symm⟩
    · obtain ⟨p,h1,h2⟩:=ih h
      exact ⟨p,by simp [h1],h2⟩
theorem D6 {h:aa} {L:List (Nat×cR)} (hL:∀p∈L,h.f p.1=none):h.sub (h.yc L):=fun i o ho=>by
  rw [wL]
  cases e:assoc L i with
  | none=>exact ho
  | some o'=>
    obtain ⟨p,h1,h2⟩:=vj e
    rw [←h2,hL p h1] at ho
    cases ho
theorem wM {h h':aa} {L:List (Nat×cR)} (hL:∀p∈L,h.f p.1=none) (hL':∀p∈L,h'.f p.1=none):h'.union ((h.yc L).minus h)=h'.yc L:=aa.ext fun i=>by
  simp only [aa.union,aa.minus]
  rw [wL,wL]
  cases e:assoc L i with
  | none=>
    simp only
    cases e1:h'.f i with
    | some o=>rfl
    | none=>cases e2:h.f i<;>rfl
  | some o=>
    obtain ⟨p,h1,h2⟩:=vj e
    have a1:=hL p h1
    have a2:=hL' p h1
    rw [h2] at a1 a2
    rw [a1,a2]
theorem Lv [aN] (hT:T.nU P κ w) (hi:Inv κ h w) {v:Value} {df:D} {vs:Array Value} {B4:List D} (rf:cd κ w v df) (ra:bP κ w vs.toList B4) (hv:d_ T (.callR df B4) h K E):
    eA P κ h w K E ((do let d ←Deferred.ofValue v vs; invoke d.target d.args:Sem Next).run P w):=by
  simp only [d_] at hv
  split at hv
  · ab k first cap
    cases rf with
    | func s1 s2 r1 r2=>
    ab v1 v2
    have hr:bP κ w (v1++vs++v2).toList (first++B4++cap):=by
      simp only [Array.toList_append]
      exact ((bP.gV s1 r1).append ra).append (bP.gV s2 r2)
    replace hv:=hT.c _ _ _ _ _ hv κ w (Le.refl κ w)
    have e_:(do let d ←Deferred.ofValue (.func (.func k) v1 v2) vs; invoke d.target d.args:Sem Next).run P w=.ok (.enter k (v1++vs++v2)) w:=by
      simp only [Sem.run_bind,Deferred.ofValue,Sem.run_pure,Result.andThen,invoke,gp hv.1]
    rw [e_]
    exact hv.2 (v1++vs++v2) hi hr
  · exact hv.elim
theorem Ny [aN] (hT:T.nU P κ w) (hi:Inv κ h w) {v:Value} {df:D} {vs:Array Value} {B4:List D} (rf:cd κ w v df) (ra:bP κ w vs.toList B4) (hv:d_ T (.call df B4) h K E):
    eA P κ h w K E ((do let d ←Deferred.ofValue v vs; invoke d.target d.args:Sem Next).run P w):=by
  simp only [d_] at hv
  split at hv
  · ab k first cap
    cases rf with
    | func s1 s2 r1 r2=>
    ab v1 v2
    have hr:bP κ w (v1++vs++v2).toList (first++B4++cap):=by
      simp only [Array.toList_append]
      exact ((bP.gV s1 r1).append ra).append (bP.gV s2 r2)
    obtain ⟨κ',i1,Bb,rr⟩:=iQ hi hr
    replace hv:=hT.c _ _ _ _ _ hv κ' w (Bb.le hi)
    have e_:(do let d ←Deferred.ofValue (.func (.func k) v1 v2) vs; invoke d.target d.args:Sem Next).run P w=.ok (.enter k (v1++vs++v2)) w:=by
      simp only [Sem.run_bind,Deferred.ofValue,Sem.run_pure,Result.andThen,invoke,gp hv.1]
    rw [e_]
    refine (hv.2 (v1++vs++v2) i1 rr).mono fun e w' ⟨o,h',gP,a1,a2,a3,a4⟩=>⟨o,h',gP,a1,a2,a3,Bb.trans a4⟩
  · ab l first cap
    obtain ⟨h1,L,e1,e2,hy⟩:=hv
    cases rf with
    | func s1 s2 r1 r2=>
    ab v1 v2
    have hr:bP κ w (v1++vs).toList (first++B4):=by
      simp only [Array.toList_append]
      exact (bP.gV s1 r1).append ra
    obtain ⟨κ',i1,Bb,rr⟩:=iQ hi hr
    have sub:h1.sub (ff h (first++B4)):=by rw [e1]; exact D6 e2
    obtain ⟨f,tmps,np,body,b1,b2⟩:=hT.y _ _ _ _ hy κ' w (Bb.le hi) (v1++vs) (i1.sub sub) rr
    have e_:(do let d ←Deferred.ofValue (.func (.yield l) v1 v2) vs; invoke d.target d.args:Sem Next).run P w=.ok (.round l f tmps np body) w:=by
      simp only [Sem.run_bind,Deferred.ofValue,Sem.run_pure,Result.andThen,invoke,b1]
    rw [e_]
    refine RoundIn.mono b2 fun e w' ⟨o,h',gP,a1,a2,a3,a4⟩=>?_
    obtain ⟨f1,f2,f3⟩:=i1.frame sub a3 a4
    have V0:∀p∈L,h'.f p.1=none:=fun p hp=>f3 p.1 (by
      rw [e1]
      obtain ⟨o',nK⟩:=yq hp
      rw [wL,nK]; simp) (e2 p hp)
    have heq:h'.union ((ff h (first++B4)).minus h1)=h'.yc L:=by
      rw [e1]; exact wM e2 V0
    rw [heq] at f1 f2
    cases o with
    | ret d=>exact ⟨.ret d,_,gP,a1 V0,a2,f1,Bb.trans f2⟩
    | panic d=>exact a1.elim
  · exact hv.elim
theorem w_ {κ κ':cp} {w w':World} {v:Value} {d:D} (hs:scalar d=true) (r:cd κ w v d):cd κ' w' v d:=by
  cases r with
  | undef v=>exact .undef v
  | bool b=>exact .bool b
  | int k n=>exact .int k n
  | float k n=>exact .float k n
  | str s h=>exact .str s h
  | _=>simp [scalar] at hs
theorem Inv.WE [aN] {κ κt κ':cp} {h h':aa} {w w':World} (hi:Inv κ h w) (ev:Ev κt .emp w κ' h' w'):Inv κ h w'∧Ev κ h w κ h w':=by
  have hb:∀b,b<w.heap.size→w'.heap[b]? =w.heap[b]? :=fun b hZ=>ev.blocks b hZ fun ⟨id,o,p,h1,_⟩=>by simp at h1
  have le:Le κ w κ w':=⟨fun b kD=>⟨kD,hb b (hi.fl b kD)⟩,fun id p hp=>⟨p,hp,Nat.le_refl _,fun _=>rfl,qx.refl p⟩⟩
  refine ⟨⟨fun b Ru=>Nat.lt_of_lt_of_le (hi.fl b Ru) ev.size,fun id p hp=>Nat.lt_of_lt_of_le (hi.ij id p hp) ev.size,hi.fresh,fun id o ho=>?_,hi.inj,hi.kG.mono le⟩,?_⟩
  · obtain ⟨p,hp,hr⟩:=hi.obj id o ho
    exact ⟨p,hp,hr.mono le (fun b lI=>hb b (hi.gF ho hp lI)) fun _ _ x=>x⟩
  · exact { Ev.refl κ h w with os:=ev.os,tape:=ev.tape,output:=ev.output,size:=ev.size,blocks:=fun b hZ _=>hb b hZ,own:=fun b hZ ho=>ho }
theorem Mm [aN] (hT:T.nU P κ w) (hi:Inv κ h w) {v:Value} {df:D} {vs:Array Value} {B4:List D} (rf:cd κ w v df) (ra:bP κ w vs.toList B4) (hv:d_ T (.qcall df B4) h K E):
    eA P κ h w K E ((do let d ←Deferred.ofValue v vs; invoke d.target d.args:Sem Next).run P w):=by
  simp only [d_] at hv
  split at hv
  · ab k first cap
    obtain ⟨d,hv,hk⟩:=hv
    replace hv:=hT.q _ _ _ hv
    cases rf with
    | func s1 s2 r1 r2=>
    ab v1 v2
    have hr:bP κ w (v1++vs++v2).toList (first++B4++cap):=by
      simp only [Array.toList_append]
      exact ((bP.gV s1 r1).append ra).append (bP.gV s2 r2)
    obtain ⟨κ',i1,Bb,rr⟩:=iQ hi hr
    rcases hv with hv | hv
    case inr=>
      obtain ⟨v,g1,g2⟩:=hv κ' w (v1++vs++v2) rr
      have e_:(do let d ←Deferred.ofValue (.func (.func k) v1 v2) vs; invoke d.target d.args:Sem Next).run P w=.ok (.value v) w:=by
        simp only [Sem.run_bind,Deferred.ofValue,Sem.run_pure,Result.andThen,invoke,g1]
      rw [e_]
      by_cases hs:scalar d=true
      · refine ⟨κ,_,d,hk,w_ hs g2,?_,?_⟩
        · rw [fp,hs]; exact hi
        · rw [fp,hs]; exact Ev.refl κ h w
      · have hs:scalar d=false:=by simpa using hs
        refine ⟨κ',_,d,hk,g2,?_,?_⟩
        · rw [fp,hs]; exact i1
        · rw [fp,hs]; exact Bb
    have e_:(do let d ←Deferred.ofValue (.func (.func k) v1 v2) vs; invoke d.target d.args:Sem Next).run P w=.ok (.enter k (v1++vs++v2)) w:=by
      simp only [Sem.run_bind,Deferred.ofValue,Sem.run_pure,Result.andThen,invoke,gp hv.1]
    rw [e_]
    have sub:=aa.jb (ff h (first++B4++cap))
    refine (Calls.toA hv (i1.sub sub) rr).mono fun e w' ⟨o,h',gP,a0,a2,a3,a4⟩=>?_
    subst a0
    by_cases hs:scalar d=true
    · obtain ⟨l1,l2⟩:=hi.WE a4
      refine ⟨.ret d,_,κ,hk,?_,?_,?_⟩
      · cases a2 with
        | ret r=>exact .ret (w_ hs r)
      · rw [fp,hs]; exact l1
      · rw [fp,hs]; exact l2
    have hs:scalar d=false:=by simpa using hs
    rw [fp,hs] at hk
    obtain ⟨f1,f2,_⟩:=i1.frame sub a3 a4
    have Py:(ff h (first++B4++cap)).sub (h'.union ((ff h (first++B4++cap)).minus .emp)):=fun id o ho=>by
      obtain ⟨p,hp,_⟩:=i1.obj id o ho
      have:=a4.ids id p hp rfl
      simpa [aa.union,aa.minus,this] using ho
    refine ⟨.ret d,ff h (first++B4++cap),gP,hk,a2,f1.sub Py,Bb.trans ?_⟩
    exact { f2 with own:=fun b hb ho=>f2.own b hb (ho.sub Py),ids:=fun id p hp hn=>hn }
  · exact hv.elim
theorem Lu [aN] (hT:T.nU P κ w) (hi:Inv κ h w) {k:FuncId} (hv:d_ T (.lN k) h K E):eA P κ h w K E ((do let d ←Deferred.ofValue (.func (.func k) #[] #[]) #[]; invoke d.target d.args:Sem Next).run P w):=by
  obtain ⟨ds,h1,h2⟩:=hv
  have hc:=hT.a k ds h h1
  have e_:(do let d ←Deferred.ofValue (.func (.func k) #[] #[]) #[]; invoke d.target d.args:Sem Next).run P w=.ok (.enter k #[]) w:=by
    simp only [Sem.run_bind,Deferred.ofValue,Sem.run_pure,Result.andThen,invoke,Array.append_empty,gp hc.1]
  rw [e_]
  refine (Calls.toA hc hi (vs:= #[]) .nil).mono fun e w' ⟨o,h',gP,⟨id,q1,q2,q3⟩,a2,a3,a4⟩=>?_
  subst q2
  subst q3
  exact ⟨.ret (.ptr id 1 0),_,gP,h2 id q1,a2,a3,a4⟩
theorem Bn [aN] (hi:Inv κ h w) {t el:TypeId} {sz:Nat} (ht:P.underlying t=some (.slice el)) (hs:bT P el=some sz) {u v:Value} {x i:D} (rx:cd κ w u x) (ri:cd κ w v i) {d:D} (e:cK h (.a8 sz x i)=some d):
    ∃y,(Instr.indexAt t u v).run P w=.ok y w∧cd κ w y d:=by
  simp only [cK] at e
  split at e
  · ab r0 aR off len k0 z
    split at e
    · ab gS bW xs fz ho
      split at e
      · ab kR
        obtain ⟨c1,c2,c3,c4⟩:=kR
        cases e
        cases ri
        obtain ⟨p',Od,hr⟩:=hi.obj _ _ ho
        cases rx with
        | row hl Sj hn dY ha lI=>
        ab cap p ad
        rw [hl] at Od
        cases Od
        have key:(Instr.indexAt t (.slice (some ad) len cap) (.int k0 z)).run P w=.ok (.pointer (some (ad.add (z.toNat*sz)))) w:=by
          simp [Instr.indexAt,asIntOf,run_underlying ht,Instr.sureAddr,c3,c4,run_sizeOf hs]
        refine ⟨_,key,.eM hl Sj fun ev=>?_⟩
        rcases ha ev with qN | ⟨p3,_⟩
        · omega
        · subst p3
          rw [dQ,hr.2.2.1,c1]
          congr 1
          rw [Nat.add_mul]
          omega
      · cases e
    · ab gS bW xs f9 ho
      split at e
      · ab kR
        obtain ⟨c1,c2,c3,c4⟩:=kR
        cases e
        cases ri
        obtain ⟨p',Od,hr⟩:=hi.obj _ _ ho
        cases rx with
        | row hl Sj hn dY ha lI=>
        ab cap p ad
        rw [hl] at Od
        cases Od
        have key:(Instr.indexAt t (.slice (some ad) len cap) (.int k0 z)).run P w=.ok (.pointer (some (ad.add (z.toNat*sz)))) w:=by
          simp [Instr.indexAt,asIntOf,run_underlying ht,Instr.sureAddr,c3,c4,run_sizeOf hs]
        refine ⟨_,key,.eM hl Sj fun ev=>?_⟩
        rcases ha ev with qN | ⟨p3,_⟩
        · omega
        · subst p3
          rw [dQ,hr.2.2.1,c1]
          congr 1
          rw [Nat.add_mul]
          omega
      · cases e
    · cases e
  · cases e
theorem LX {r:Nat} (h:0rZ<r % 2 ^ 63):FloatKind.f64.format.order r r=none:=by
  have e:FloatKind.f64.format.read r=.nan (r / FloatKind.f64.format.signWeight % 2==1) (r % FloatKind.f64.format.signWeight - FloatKind.f64.format.infRung):=by
    have w1:FloatKind.f64.format.signWeight=2 ^ 63:=by decide
    have w2:FloatKind.f64.format.binade=2 ^ 52:=by decide
    have w3:FloatKind.f64.format.infRung=0rZ:=by decide
    unfold Ieee.Format.read
    simp only [w1,w2,w3]
    rw [if_neg (by omega),if_neg (by omega),if_neg (by omega)]
  unfold Ieee.Format.order
  rw [e]; rfl
theorem zj [aN] (hi:Inv κ h w) {neg:Bool} {t:TypeId} {p q:Operand} {u v:Value} {x:f7} {y:f7} {σ:Fr} (hn:LY P t y=true) (ru:cd κ w u (σ.ev x)) (rv:cd κ w v (σ.ev y)) (hv:d_ T ((bM.isNil neg x).map σ.ev) h K E):
    eA P κ h w K E ((do let x ←(do eqGuard (if neg then .neq else .eql) t p q u v; binOp (if neg then .neq else .eql) t u v); pure (Next.value x):Sem Next).run P w):=by
  unfold LY at hn
  split at hn
  · ab el ht
    cases rv
    have key:∀b:Bool,(∀d,(Op.equalIn (d+1) t u (.slice none 0 0)).run P w=.ok b w)→K (.bool (if neg then !b else b)) h→(eqGuard (if neg then .neq else .eql) t p q u (.slice none 0 0)=pure ())→(∀op,binOp op t u (.slice none 0 0)=match op with | .eql=>(do pure (.bool (←Op.equal t u (.slice none 0 0)))) | .neq=>(do pure (.bool (!(←Op.equal t u (.slice none 0 0))))) | op=>binOp op t u (.slice none 0 0))→
        eA P κ h w K E ((do let x ←(do eqGuard (if neg then .neq else .eql) t p q u (.slice none 0 0); binOp (if neg then .neq else .eql) t u (.slice none 0 0)); pure (Next.value x):Sem Next).run P w):=fun b hb k hg ho=>
      ka.of (v:=.bool (if neg then !b else b)) (fk hb ho neg p q hg) k (.bool _) hi (Ev.refl κ h w)
    simp only [bM.map,d_] at hv
    generalize σ.ev x=d at ru hv
    split at hv
    · cases ru
      refine key true (fun d=>by simp [Op.equalIn,run_underlying ht]) (by cases neg<;>exact hv) (cn ⟨fun _=>by simp,by simp⟩) (fun op=>by cases op<;>rfl)
    · cases ru with
      | slnil hb=>
        ab ba cap
        cases ba with
        | none=>
          have:=hb rfl
          subst this
          exact key true (fun d=>by simp [Op.equalIn,run_underlying ht]) (by cases neg<;>exact hv.1 rfl) (cn ⟨fun _=>by simp,by simp⟩) (fun op=>by cases op<;>rfl)
        | some a=>exact key false (fun d=>by simp [Op.equalIn,run_underlying ht]) (by cases neg<;>exact hv.2) (cn ⟨fun _=>by simp,by simp⟩) (fun op=>by cases op<;>rfl)
      | sl=>exact key false (fun d=>by simp [Op.equalIn,run_underlying ht]) (by cases neg<;>exact hv.2) (cn ⟨fun _=>by simp,by simp⟩) (fun op=>by cases op<;>rfl)
    · cases ru
      exact key false (fun d=>by simp [Op.equalIn,run_underlying ht]) (by cases neg<;>exact hv) (cn ⟨fun _=>by simp,by simp⟩) (fun op=>by cases op<;>rfl)
    · exact hv.elim
  · cases hn
theorem Gl [aN] (hi:Inv κ h w) {op:BinOp} {t:TypeId} {p q:Operand} {u v:Value} {x y:D} (ru:cd κ w u x) (rv:cd κ w v y) (hv:d_ T (.iW op x y) h K E):
    eA P κ h w K E ((do let x ←(do eqGuard op t p q u v; binOp op t u v); pure (Next.value x):Sem Next).run P w):=by
  simp only [d_] at hv
  split at hv
  · ab a b
    obtain ⟨h1,h2⟩:=hv
    cases ru; cases rv
    rw [cn ⟨fun _=>by simp,by simp⟩]
    simp only [pure_bind]
    cases hf:gZ op .f64 a b with
    | some r=>
      rw [hf] at h2
      exact ka.of (MR w op t .f64 a b r hf) h2 (.float _ _) hi (Ev.refl κ h w)
    | none=>
      rw [hf] at h2
      have e_:∃r,FloatKind.f64.format.order r r=none∧(binOp op t (.float .f64 a) (.float .f64 b)).run P w=.ok (.float .f64 r) w.drew:=by
        unfold gZ at hf
        refine ⟨(Question.nanBits .f64 a b).cut (w.tape w.drawn (.nanBits .f64 a b)),LX ?_,?_⟩
        · simp only [Question.cut]
          generalize w.tape w.drawn (Question.nanBits .f64 a b)=t
          have hz:t / 2 % (2 ^ 52 - 1)<2 ^ 52 - 1:=Nat.mod_lt _ (by decide)
          generalize t / 2 % (2 ^ 52 - 1)=z at hz
          rw [Nat.add_assoc,Nat.add_assoc,Nat.mul_comm,Nat.mul_add_mod]
          omega
        · cases op<;>simp only [eS,Bool.false_eq_true] at h1<;>simp only at hf<;>simp [binOp,Op.floatArith,hf,Question.forced]
      obtain ⟨r,hr,e_⟩:=e_
      exact ka.of e_ (h2 r hr) (.float _ _) (hi.of_heap rfl) Ev.drew
  · exact hv.elim
theorem G_ [aN] (hi:Inv κ h w) {t:TypeId} (ht:P.underlying t=some .string) {s:List UInt8} (hv:∀id,h.f id=none→K (.iter id) (h.set id (.jR s 0))):
    eA P κ h w K E ((do let x ←Instr.range t (.string ⟨s.toArray⟩); pure (Next.value x):Sem Next).run P w):=by
  obtain ⟨id,fE,hf⟩:=hi.sB
  let p:Place:={ blk:=w.heap.size,base:=0,aR:=1,cap:=0,sz:=0,rc:=none }
  obtain ⟨i1,e1⟩:=hi.alloc fE hf (.stringIter ⟨s.toArray⟩ 0) (.jR s 0) p rfl rfl rfl ⟨rfl,fun hx=>by have:=hi.fl _ hx; simp [p] at this,dq w _⟩
  refine ka.of (v:=.pointer (some ⟨w.heap.size,0,none⟩)) ?_ (hv id hf) (.iter (p:=p) (by simp [cp.put]) rfl) i1 e1
  simp only [Instr.range,Sem.run_bind,run_underlying ht,Result.andThen,Sem.run_pure]
  rfl
theorem Mv [aN] (hi:Inv κ h w) {u:Value} {d:D} {ty:TypeId} (r0:cd κ w u d) (hv:d_ T (.pN d) h K E):
    eA P κ h w K E ((do let x ←Instr.next u true ty; pure (Next.value x):Sem Next).run P w):=by
  simp only [d_] at hv
  split at hv
  · ab id
    split at hv
    · ab s pos ho
      obtain ⟨p,hp,o1,o2,o3⟩:=hi.obj id _ ho
      cases r0 with
      | iter hl uU=>
      rw [hp] at hl
      cases hl
      have mU:(⟨s.toArray⟩:ByteArray).size=s.length:=by simp [ByteArray.size]
      by_cases hZ:pos<s.length
      · let o':Obj:=.stringIter ⟨s.toArray⟩ (pos+(Utf8.decode ⟨s.toArray⟩ pos).2)
        let w':World:={ w with heap:=w.heap.modify p.blk fun _=>o' }
        have Wj:p.blk<w.heap.size:=hi.ij id p hp
        have Ok:w'.heap[p.blk]? =some o':=by simp [w',Array.getElem?_modify,o3]
        have adT:∀b,b≠p.blk→w'.heap[b]? =w.heap[b]? :=fun b hb=>by
          simp only [w',Array.getElem?_modify]
          rw [if_neg (Ne.symm hb)]
        obtain ⟨i1,e1⟩:=Inv.change (p':=p) (o':=.jR s (pos+(Utf8.decode ⟨s.toArray⟩ pos).2)) hi ho hp rfl rfl (w':=w') (by simp [w']) (by simpa [w'] using Wj) (.inl rfl) (Nat.le_refl _) (fun _=>rfl) (fun _=>rfl) rfl rfl rfl
          (fun b _ hb=>adT b hb) ⟨o1,o2,Ok⟩
        refine ka.of (w':=w') (v:=.tuple #[.bool true,goInt pos,.int .i32 (Utf8.decode ⟨s.toArray⟩ pos).1]) ?_ (hv.1 hZ) ?_ i1 e1
        · simp only [Instr.next,getObj,setObj,Sem.run_bind,Sem.run,o3,Result.andThen,mU,hZ,if_true]
          rfl
        · refine bP.tuple (.cons (.bool _) (.cons (.int _ _) (.cons (.int _ _) .nil)))
      · refine ka.of (v:=.tuple #[.bool false]) ?_ (hv.2 (by omega)) ?_ hi (Ev.refl κ h w)
        · simp only [Instr.next,getObj,Sem.run_bind,Sem.run,o3,Result.andThen,mU,hZ,if_false,Sem.run_pure]
        · exact bP.tuple (.cons (.bool _) .nil)
    · exact hv.elim
  · exact hv.elim
theorem LO [aN] (hT:T.nU P κ w) {r q:Bool} {o:Oper} {i:bM f7} (hc:iL P r q o=some i) (hi:Inv κ h w) (hp:jF κ w σ n a) (hv:d_ T (i.map σ.ev) h K E):eA P κ h w K E ((execOp a.eval o).run P w):=by
  have qN:=hc
  unfold iL at hc
  split at hc
  · -- move
    simp only [Option.map_eq_some_iff] at hc; obtain ⟨y,e1,rfl⟩:=hc; exact cV qN hi hp hv
  · simp only [Option.map_eq_some_iff] at hc; obtain ⟨y,e1,rfl⟩:=hc; exact cV qN hi hp hv
  · -- pick
    ab c x y fy
    split at hc
    · ab c' x' y' e1 e2 e3
      cases hc
      have rc:=bp hp e1
      have rx:=bp hp e2
      have ry:=bp hp e3
      simp only [bM.map,d_] at hv
      simp only [execOp,fy]
      generalize a.eval c=vc at rc
      generalize σ.ev c'=dc at rc hv
      split at hv
      · cases rc
        ab b
        simp only [asBool,Sem.run_bind,Sem.run_pure,Result.andThen]
        cases b with
        | true=>exact eA.val hi (hv.1 rfl) rx
        | false=>exact eA.val hi (hv.2 rfl) ry
      · exact hv.elim
    · cases hc
  · -- alloc
    ab t fy
    simp only [Option.map_eq_some_iff] at hc
    obtain ⟨z,e1,rfl⟩:=hc
    simp only [bM.map,d_] at hv
    obtain ⟨zv,z1,z2,_⟩:=ja e1 κ w
    obtain ⟨κ',h',ad,d,b1,b2,b3,b4,b5⟩:=qT (P:=P) (K:=K) hi t z2 hv
    simp only [execOp,fy]
    refine ka.of ?_ b2 b3 b4 b5
    simp only [Instr.alloc,Sem.run_bind,z1,Result.andThen,b1,Sem.run_pure]
  · -- box
    ab t x fy
    simp only [Option.map_eq_some_iff] at hc
    obtain ⟨y,e1,rfl⟩:=hc
    simp only [bM.map,d_] at hv
    obtain ⟨v1,v2⟩:=hv
    have r0:=bp hp e1
    have ZP:σ.ev y≠.undef:=by intro hh; rw [hh] at v1; simp [bZ,cf] at v1
    obtain ⟨κ',h',ad,d,b1,b2,b3,b4,b5⟩:=qT (P:=P) (K:=K) hi t (o_ r0 ZP) v2
    simp only [execOp,fy]
    refine ka.of ?_ b2 b3 b4 b5
    simp only [Instr.box,Sem.run_bind,Result.andThen,b1,Sem.run_pure]
  · -- build
    (repeat' split at hc)<;>first | (cases hc; done) | (simp only [Option.map_eq_some_iff] at hc; obtain ⟨y,e1,rfl⟩:=hc; exact cV qN hi hp hv)
  · -- buildSlice
    ab t m ps fy
    split at hc
    case h_2=>cases hc
    ab el Gp
    split at hc
    case h_2=>cases hc
    ab sz z hs hz
    split at hc
    case isFalse=>cases hc
    ab hb
    obtain ⟨Wc,xI,hb3⟩:=hb
    simp only [Option.map_eq_some_iff] at hc
    obtain ⟨qs,e1,rfl⟩:=hc
    simp only [bM.map,d_] at hv
    obtain ⟨xs,hx,hk⟩:=hv
    obtain ⟨g1,g2⟩:=pJ hp _ _ e1
    obtain ⟨cs,c1,c2,c3,c4⟩:=sj (P:=P) (κ:=κ) (w:=w) (fW Gp) hs hz Wc xI hb3 (ps:=ps.toList.map fun p=>(p.1,a.eval p.2)) (qs:=qs.map fun p=>(p.1,σ.ev p.2)) (by simpa using g1) (fun i j v hh=>by
      simp only [List.getElem?_map,Option.map_eq_some_iff] at hh
      obtain ⟨⟨j',x⟩,h3,h4⟩:=hh
      cases h4
      obtain ⟨y,h5,h6⟩:=g2 i _ x h3
      exact ⟨σ.ev y,by simp [h5],h6⟩) hx
    have vY:(Array.map (fun (x:Nat×Operand)=>(x.1,a.eval x.2)) ps)=(ps.toList.map fun p=>(p.1,a.eval p.2)).toArray:=by apply Array.ext'; simp
    simp only [execOp,fy]
    have dY:m≤16777216:=Nat.le_trans (Nat.le_mul_of_pos_right _ hb3) Wc
    have Yi:cs.size=m*sz:=by
      have:=c2.length
      rw [dX c3,c4] at this
      simpa using this
    cases r with
    | true=>
      simp only at hk
      rw [←c4] at hk
      obtain ⟨κ',h',d,a1,a2,a3,a4⟩:=p_ (K:=K) hi el (cs:=cs) (xs:=xs) (sz:=sz) (cap:=m) c3 (by omega) (by omega) (by omega) (CM c2 c3) hk
      rw [c4] at a2
      refine ka.of ?_ a1 a2 a3 a4
      rw [vY]; exact c1
    | false=>
      simp only at hk
      obtain ⟨n1,n2,n3⟩:=GJ (κ:=κ) (w:=w) (bZ z) c3 (CM c2 c3)
      obtain ⟨κ',a2,a3,a4⟩:=wk hi el (cs:=cs) (xs:=pG (bZ z) xs) (sz:=sz) (cap:=m) (fz:=(0,0)) n1 (by omega) (by omega) n3
      rw [n2,c4] at a2
      refine ka.of ?_ hk a2 a3 a4
      rw [vY]; exact c1
  · -- load
    ab t x fy
    split at hc
    · ab k y e1 e2
      cases hc
      simp only [bM.map,d_] at hv
      obtain ⟨d,e3,hk⟩:=hv
      obtain ⟨v,g1,g2⟩:=tA (P:=P) hi e1 (bp hp e2) e3
      simp only [execOp,fy]
      exact ka.of g1 hk g2 hi (Ev.refl κ h w)
    · cases hc
  · -- store
    ab t x v fy
    split at hc
    · ab k m y u e0 e1 e2 e3
      cases hc
      simp only [bM.map,d_] at hv
      obtain ⟨h',e4,hk⟩:=hv
      obtain ⟨w',g1,g2,g3⟩:=mM (P:=P) hi e1 (bp hp e2) (bp hp e3) e4
      simp only [execOp,fy,Sem.run_bind,g1,Result.andThen,Sem.run_pure]
      exact ⟨κ,h',hk,g2,g3⟩
    · cases hc
  · simp only [Option.map_eq_some_iff] at hc; obtain ⟨y,e1,rfl⟩:=hc; exact cV qN hi hp hv
  · -- binOp
    ab op t x y yt fy
    (repeat' split at hc)<;>first | (cases hc; done) | (cases hc; exact cV qN hi hp hv) | (simp only [Option.map_eq_some_iff] at hc; obtain ⟨y,e1,rfl⟩:=hc; exact cV qN hi hp hv) | skip
    · have e1:= ‹jN x=_›
      have e2:= ‹jN y=_›
      have hn:= ‹LY P t _=true›
      cases hc
      simp only [execOp,fy]
      exact zj (neg:=false) hi hn (bp hp e1) (bp hp e2) hv
    · have e1:= ‹jN x=_›
      have e2:= ‹jN y=_›
      have hn:= ‹LY P t _=true›
      cases hc
      simp only [execOp,fy]
      exact zj (neg:=true) hi hn (bp hp e1) (bp hp e2) hv
    · ab p1 p2 e1 e2 _ _ _ _
      cases hc
      simp only [execOp,fy]
      exact Gl hi (bp hp e1) (bp hp e2) hv
  · simp only [Option.map_eq_some_iff] at hc; obtain ⟨y,e1,rfl⟩:=hc; exact cV qN hi hp hv
  · -- convert
    ab s dt x fy
    split at hc
    · ab ck y e1 e2
      cases hc
      have r0:=bp hp e2
      simp only [bM.map,d_] at hv
      split at hv
      · -- string(bytes)
        obtain ⟨d,e3,hk⟩:=hv
        simp only [cK] at e3
        split at e3
        · ab xs hx
          split at e3
          · ab vW
            cases e3
            obtain ⟨el,h1,h2,h3⟩:=xR e1
            simp only [execOp,fy]
            exact ka.of (A4 hi r0 hx vW h1 h3 h2) hk (.str _ (by simpa using CD r0 hx)) hi (Ev.refl κ h w)
          · cases e3
        · cases e3
      · -- []byte(s)
        split at hv
        · ab hs s0 hs0
          obtain ⟨el,h1,h2,h3⟩:=xS e1
          simp only [execOp,fy]
          generalize a.eval x=u at r0 ⊢
          rw [hs0] at r0
          cases r0 with
          | str _ hl=>
          have e_:=run_bytes_of_string (P:=P) w s dt el ⟨s0.toArray⟩ h1 h2 h3
          have kD:Inv κ h w.drew:=hi.of_heap rfl
          have mU:(⟨s0.toArray⟩:ByteArray).size=(eP s0).length:=by simp [eP,pg]
          have dY:=grownCap_ge w (⟨s0.toArray⟩:ByteArray).size 0 el
          generalize grownCap w (⟨s0.toArray⟩:ByteArray).size 0 el=gc at e_ dY
          obtain ⟨κ',a2,a3,a4⟩:=wk kD el (cs:=bytesRow ⟨s0.toArray⟩ gc) (fz:=((bytesRow ⟨s0.toArray⟩ gc).size,(bytesRow ⟨s0.toArray⟩ gc).size+1)) (xs:=eP s0) (sz:=1) (cap:=gc) (fun y hy=>by
            simp only [eP,List.mem_map] at hy
            obtain ⟨b,_,rfl⟩:=hy
            rfl) (by rw [←mU]; exact dY) (by simpa [eP] using hl) (fun i y j d hy hj=>by
            simp only [eP,List.getElem?_map,Option.map_eq_some_iff] at hy
            obtain ⟨b,hb,rfl⟩:=hy
            cases j with
            | succ j=>simp at hj
            | zero=>
              simp at hj
              subst hj
              refine ⟨.int .u8 (b.toNat:Int),?_,.int _ _⟩
              have hZ:=(List.getElem?_eq_some_iff.1 hb).1
              have hbb:=(List.getElem?_eq_some_iff.1 hb).2
              simp only [bytesRow,Nat.mul_one,Nat.add_zero]
              rw [Array.getElem?_append_left (by simpa using hZ)]
              simp [hZ,hbb])
          refine ka.of e_ hv ?_ a3 (Ev.drew.trans a4)
          rw [mU]
          exact a2
        · exact hv.elim
      · exact cV qN hi hp hv
    · cases hc
  · -- sliceToArrayPointer
    (repeat' split at hc)<;>first | (cases hc; done) | (cases hc; exact cV qN hi hp hv)
  · -- makeInterface
    (repeat' split at hc)<;>first | (cases hc; done) | (simp only [Option.map_eq_some_iff] at hc; obtain ⟨y,e1,rfl⟩:=hc; exact cV qN hi hp hv)
  · -- makeFunc
    (repeat' split at hc)<;>first | (cases hc; done) | (cases hc; exact cV qN hi hp hv)
  · -- slice
    ab t x lo kD mx fy
    split at hc
    case h_2=>cases hc
    ab x' lo' adC e1 e2 e3 e4
    have key:∀k:SK,i=.slice k x' lo' adC none→(∀r0 aR off len,σ.ev x'=.row r0 aR off len→∃sz el,k=.sl sz∧P.underlying t=some (.slice el)∧bT P el=some sz)→eA P κ h w K E ((execOp a.eval o).run P w):=fun k hk adW=>by
      subst hk
      simp only [bM.map,d_,Option.map_none] at hv
      split at hv
      · ab hx
        obtain ⟨d,e5,k5⟩:=hv
        obtain ⟨sz,el,rfl,ht,hs⟩:=adW _ _ _ _ hx
        ab r0 aR off len
        have rx:=bp hp e1
        rw [hx] at e5 rx
        simp only [cK] at e5
        split at e5
        · ab gS bW xs fz ho
          split at e5
          · ab kR
            obtain ⟨rfl,rfl⟩:=kR
            simp only [Option.map_eq_some_iff] at e5
            obtain ⟨b,eb,rfl⟩:=e5
            obtain ⟨p',Od,hr⟩:=hi.obj _ _ ho
            have hmx:mx=none:=by
              cases mx with
              | none=>rfl
              | some z=>simp only [DN,Option.map_eq_some_iff,reduceCtorEq,and_false,exists_false] at e4
            subst hmx
            obtain ⟨v,g1,g2⟩:=xe (P:=P) (κ:=κ) (w:=w) ht hs rx (qW hp e2) (qW hp e3) eb (fun p Gr=>by
              rw [Od] at Gr
              cases Gr
              exact hr.2.2.1)
            simp only [execOp,fy]
            exact ka.of g1 k5 g2 hi (Ev.refl κ h w)
          · cases e5
        · cases e5
      · exact cV qN hi hp hv
    split at hc
    · cases hc
      refine key .str rfl fun r0 aR off len hx=>?_
      exfalso
      simp only [bM.map,d_,Option.map_none,hx] at hv
      obtain ⟨d,e5,_⟩:=hv
      simp [cK] at e5
    · ab el ht
      simp only [Option.map_eq_some_iff] at hc
      obtain ⟨sz,hs,rfl⟩:=hc
      exact key (.sl sz) rfl fun r0 aR off len hx=>⟨sz,el,rfl,ht,hs⟩
    · ab m el ht
      split at hc
      · cases hc
        refine key (.arr m) rfl fun r0 aR off len hx=>?_
        exfalso
        simp only [bM.map,d_,Option.map_none,hx] at hv
        obtain ⟨d,e5,_⟩:=hv
        simp [cK] at e5
      · cases hc
    · cases hc
  · -- fieldAddr
    (repeat' split at hc)<;>first | (cases hc; done) | (cases hc; exact cV qN hi hp hv)
  · -- field
    (repeat' split at hc)<;>first | (cases hc; done) | (simp only [Option.map_eq_some_iff] at hc; obtain ⟨y,e1,rfl⟩:=hc; exact cV qN hi hp hv)
  · -- indexAddr
    ab t x j fy
    split at hc
    case h_2=>cases hc
    ab x' j' e1 e2
    split at hc
    · simp only [Option.map_eq_some_iff] at hc; obtain ⟨y,e3,rfl⟩:=hc; exact cV qN hi hp hv
    · ab el ht
      split at hc
      case h_2=>cases hc
      ab sz hs
      split at hc
      case isFalse=>cases hc
      cases hc
      simp only [bM.map,d_] at hv
      split at hv
      · ab r0 aR off len hx
        obtain ⟨d,e5,k5⟩:=hv
        have rx:=bp hp e1
        have rj:=bp hp e2
        rw [hx] at e5 rx
        obtain ⟨y,g1,g2⟩:=Bn (P:=P) hi ht hs rx rj e5
        simp only [execOp,fy]
        exact ka.of g1 k5 g2 hi (Ev.refl κ h w)
      · exact cV qN hi hp hv
    · cases hc
  · -- index
    (repeat' split at hc)<;>first | (cases hc; done) | (cases hc; exact cV qN hi hp hv)
  · simp only [Option.map_eq_some_iff] at hc; obtain ⟨y,e1,rfl⟩:=hc; exact cV qN hi hp hv
  · -- panic
    ab x fy
    simp only [Option.map_eq_some_iff] at hc
    obtain ⟨y,e1,rfl⟩:=hc
    have r0:=bp hp e1
    simp only [bM.map,d_] at hv
    simp only [execOp,fy]
    generalize a.eval x=u at r0
    generalize σ.ev y=d at r0 hv
    split at hv
    · cases r0 with
      | iface hr=>
      simp only [Instr.panic,Sem.run_bind,run_goPanic,Result.andThen]
      exact ⟨κ,h,_,hv,.iface hr,hi,Ev.refl κ h w⟩
    · exact hv.elim
  · -- call
    ab c fy
    split at hc
    · ab f j4
      split at hc
      · ab g as e1 e2
        have rf:=bp hp e1
        have ra:=kl hp e2
        have ra':bP κ w (c.args.map a.eval).toList (as.map σ.ev):=by simpa using ra
        simp only [execOp,fy,resolve,j4]
        split at hc
        · cases hc
          exact Mm hT hi rf ra' (by simpa [bM.map] using hv)
        · split at hc
          · cases hc
            exact Lv hT hi rf ra' (by simpa [bM.map] using hv)
          · cases hc
            exact Ny hT hi rf ra' (by simpa [bM.map] using hv)
      · cases hc
    · ab b j4
      have Bk:∀vs:Array Value,c.args.map a.eval=vs→(execOp a.eval o).run P w=(builtin b c.argTypes o.type (c.args.map fun x=>match x with | .const _=>true | _=>false) vs).run P w:=fun vs Ys=>by
        simp only [execOp,fy,Sem.run_bind,resolve,j4,Ys]
        rfl
      split at hc
      · -- len
        ab x t e1 e2
        obtain ⟨v,h1,r1⟩:=ON hp e1
        rw [Bk _ h1]
        have LM:∃rest,c.argTypes=(#[t]:Array TypeId)++rest:=by
          refine ⟨(c.argTypes.toList.drop 1).toArray,?_⟩
          apply Array.ext'
          have:c.argTypes.toList[0]? =some t:=by simpa using e2
          cases hl:c.argTypes.toList with
          | nil=>simp [hl] at this
          | cons z zs=>simp [hl] at this; simp [this]
        simp only [builtin]
        have hlen:∀m u,(Builtin.len_ c.argTypes m u).run P w=(Builtin.len_ #[t] m u).run P w:=fun m u=>by
          simp only [Builtin.len_,e2]
          rfl
        have Ua:∀k,i=.len k x→((k=.str∧P.underlying t=some .string)∨(k=.sl∧∃e,P.underlying t=some (.slice e))∨(∃m e,k=.arr m∧P.underlying t=some (.array m e)))→eA P κ h w K E ((do let x ←Builtin.len_ c.argTypes o.type #[v]; pure (Next.value x):Sem Next).run P w):=fun k hk ht=>by
          subst hk
          have:=So (P:=P) (K:=K) (E:=E) (ty:=o.type) hi r1 ht hv
          simp only [Sem.run_bind] at this ⊢
          rw [hlen]
          exact this
        split at hc
        · cases hc; exact Ua _ rfl (.inl ⟨rfl,by assumption⟩)
        · cases hc; exact Ua _ rfl (.inr (.inl ⟨rfl,_,by assumption⟩))
        · cases hc; exact Ua _ rfl (.inr (.inr ⟨_,_,rfl,by assumption⟩))
        · cases hc
      · (cases hc; exact cV qN hi hp hv)
      · (cases hc; exact cV qN hi hp hv)
      · -- append
        ab s x t e1 e2
        obtain ⟨v,u,h1,r1,r2⟩:=qX hp e1
        split at hc
        · ab e t1 t2 e3 e4
          have LM:c.argTypes= #[t,t2]:=by
            apply Array.ext'
            have:c.argTypes.toList[0]? =some t:=by simpa using e2
            simp [e4] at this
            simp [e4,this]
          rw [Bk _ h1,LM]
          simp only [builtin]
          split at hc
          · ab sz jK z el f1 f2 f3 f4
            split at hc
            · ab kR
              cases hc
              exact vf hi (fW e3) f1 f2 f3 kR.1 kR.2 (.inl ⟨rfl,_,f4⟩) r1 r2 hv
            · cases hc
          · ab sz jK z f1 f2 f3 f4
            split at hc
            · ab kR
              cases hc
              exact vf hi (fW e3) f1 f2 f3 kR.1 (by omega) (.inr ⟨rfl,f4,kR.2⟩) r1 r2 hv
            · cases hc
          · cases hc
        · cases hc
      · cases hc
    · cases hc
  · -- range
    ab t x fy
    split at hc
    · ab ht
      simp only [Option.map_eq_some_iff] at hc
      obtain ⟨y,e1,rfl⟩:=hc
      have r0:=bp hp e1
      simp only [bM.map,d_] at hv
      simp only [execOp,fy]
      generalize a.eval x=u at r0
      generalize σ.ev y=d at r0 hv
      split at hv
      · cases r0
        exact G_ hi ht hv
      · exact hv.elim
    · cases hc
  · -- next
    ab x b fy
    split at hc
    · simp only [Option.map_eq_some_iff] at hc
      obtain ⟨y,e1,rfl⟩:=hc
      have r0:=bp hp e1
      simp only [bM.map] at hv
      simp only [execOp,fy]
      exact Mv hi r0 hv
    · cases hc
  · -- typeAssert
    ab x xt t ok fy
    split at hc
    · cases hc
    · ab hni ht
      simp only [Option.map_eq_some_iff] at hc
      obtain ⟨y,e1,rfl⟩:=hc
      have r0:=bp hp e1
      simp only [bM.map,d_] at hv
      simp only [execOp,fy]
      generalize a.eval x=u at r0
      generalize σ.ev y=d at r0 hv
      split at hv
      · cases r0 with
        | iface hr=>
        obtain ⟨rfl,hk⟩:=hv
        ab td t' _ d' v
        refine ka.of (v:=bif ok then .tuple #[v,.bool true] else v) ?_ hk ?_ hi (Ev.refl κ h w)
        · cases td<;>first | exact absurd rfl (hni _) | (cases ok<;>simp [Instr.typeAssert,Sem.run_bind,run_underlying ht,Result.andThen])
        · cases ok with
          | false=>exact hr
          | true=>exact bP.tuple (.cons hr (.cons (.bool _) .nil))
      · exact hv.elim
    · cases hc
  · -- makeSlice
    ab t l c fy
    split at hc
    · ab e l' c' e1 e2 e3
      have rl:=bp hp e2
      have rc:=bp hp e3
      split at hc
      · ab sz jK z f1 f2 f3
        split at hc
        · ab kR
          obtain ⟨c1,rfl,c3,c4⟩:=kR
          cases hc
          simp only [bM.map,d_] at hv
          simp only [execOp,fy]
          generalize a.eval l=vl at rl
          generalize a.eval c=vc at rc
          generalize σ.ev l'=dl at rl hv
          generalize σ.ev c'=dc at rc hv
          split at hv
          · ab k1 n1 k2 n2
            obtain ⟨g1,rfl,g3,g4,g5,g6⟩:=hv
            cases rl
            cases rc
            have hz1:bZ z=[z]:=by cases z<;>first | rfl | (simp [cf] at c3; done)
            rw [hz1] at g6
            exact uG hi (fW e1) f1 f2 f3 c3 c4 g1 g3 g6
          · exact hv.elim
        · cases hc
      · cases hc
    · cases hc
  · cases hc
end Go.Proofs.YtpklkpkfgmoghaaGreatDoor.Zz
