/- All instructions. -/
import Derived.Test.YtpklkpkfgmoghaaGreatDoorZNA
import Derived.Laws.BytesArg
import Derived.Laws.IdiomStrings
set_option linter.unnecessarySimpa false
set_option linter.unusedVariables false
set_option linter.unusedSimpArgs false
namespace Go.Proofs.YtpklkpkfgmoghaaGreatDoor.Zz
variable {P:Program} {T:bf} {κ:b9} {h:aa} {w:World} {σ:Fr} {n:Nat} {a:Act} {K E:D→aa→Prop}
theorem cM [aL] {r q:Bool} {o:Oper} {i:bG fS} (hc:iF P r q o=some i) (hi:Inv κ h w) (hp:jz κ w σ n a) (hv:∃d,bh (i.map σ.ev)=some d∧K d h):ea P κ h w K E ((execOp a.eval o).run P w):=by
  obtain ⟨d,e,k⟩:=hv
  obtain ⟨v,h1,h2⟩:=Gq hc hp e
  rw [h1]
  exact ea.val hi k h2
theorem j5.of [aL] {s:Sem Value} {v:Value} {w':World} {κ':b9} {h':aa} {d:D} (hs:s.run P w=.ok v w') (k:K d h') (r:bX κ' w' v d) (hi:Inv κ' h' w') (ev:Ev κ h w κ' h' w'):
    ea P κ h w K E ((do let x ←s; pure (Next.value x):Sem Next).run P w):=by
  simp only [Sem.run_bind,hs,Result.andThen,Sem.run_pure]
  exact ⟨κ',h',d,k,r,hi,ev⟩
def uH:List D→Int
  | [.int _ n]=>n
  | _=>0
theorem AG [aL] (hi:Inv κ h w) {u:Value} {x:D} {xs:List (List D)} (r:bX κ w u x) (e:cG h x=some xs) (hb:xs.all isByte=true) {src dst el:TypeId} (hs:P.underlying src=some (.slice el)) (he:P.underlying el=some (.int .u8)) (hd:P.underlying dst=some .string):
    (convert src dst u).run P w=.ok (.string ⟨(xs.map byteOf).toArray⟩) w:=by
  have Np:∀y∈xs,∃m,y=[.int .u8 m]:=fun y hy=>by
    have:=List.all_eq_true.1 hb y hy
    unfold isByte at this
    split at this
    · exact ⟨_,rfl⟩
    · cases this
  have Yf:∀y∈xs,y.length=1:=fun y hy=>by
    obtain ⟨m,rfl⟩:=Np y hy
    rfl
  rcases ph hi r e Yf (by omega) with ⟨jG,ba,cap,rfl,hba⟩ | ⟨b,o,cap,rfl,hc⟩
  · subst jG
    rw [run_convert_bytes_string w src dst el _ _ _ hs he hd]
    cases ba with
    | none=>simp [Conv.bytesToString]; rfl
    | some ad=>simp [Conv.bytesToString,loadCells,loadCellsFrom]; rfl
  · have iG:∀i,i<xs.length→w.cell? ⟨b,o+i,none⟩=some (.int .u8 ((xs.map uH).getD i 0)):=fun i ku=>by
      obtain ⟨m,hm⟩:=Np xs[i] (List.getElem_mem ku)
      obtain ⟨v,g1,g2⟩:=hc i xs[i] 0 (.int .u8 m) (List.getElem?_eq_getElem ku) (by simp [hm])
      cases g2
      rw [Nat.mul_one,Nat.add_zero] at g1
      rw [g1]
      simp [List.getD,ku,hm,uH]
    rw [run_convert_bytes_arg w src el hs he b o xs.length cap (xs.map uH) (by simp) iG dst hd]
    have hm:(xs.map uH).map (fun n=>UInt8.ofNat n.toNat)=xs.map byteOf:=by
      rw [List.map_map]
      apply List.map_congr_left
      intro y hy
      obtain ⟨m,rfl⟩:=Np y hy
      rfl
    simp only [strOfNums,hm]
theorem xC {s d:TypeId} (e:KV P s d=some .dM):∃el,P.underlying s=some (.slice el)∧P.underlying d=some .string∧P.underlying el=some (.int .u8):=by
  unfold KV at e
  split at e
  all_goals first
    | (cases e; done)
    | (split at e
       · cases e
         first | exact ⟨_,by assumption,by assumption,by assumption⟩ | skip
       · cases e)
theorem xD {s d:TypeId} (e:KV P s d=some .jy):∃el,P.underlying s=some .string∧P.underlying d=some (.slice el)∧P.underlying el=some (.int .u8):=by
  unfold KV at e
  split at e
  all_goals first
    | (cases e; done)
    | (split at e
       · cases e
         first | exact ⟨_,by assumption,by assumption,by assumption⟩ | skip
       · cases e)
theorem Ch {u:Value} {x:D} {xs:List (List D)} (r:bX κ w u x) (e:cG h x=some xs):xs.length≤9223372036854775807:=by
  unfold cG at e
  split at e
  · cases e; simp
  · cases e
    cases r with
    | slnil=>simp
    | sl f hn=>exact hn
  · split at e
    · split at e
      · cases e
        cases r with
        | row hl hv hn=>simp; omega
      · cases e
    · cases e
  · split at e
    · split at e
      · cases e
        cases r with
        | rL hl hv hn=>simp; omega
      · cases e
    · cases e
  · cases e
theorem Sl {u:Value} {b:Bool} {x:D} (r:bX κ w u x) {m:Nat} (hx:x=.a_∧m=0∨(∃xs,x=.sl xs∧m=xs.length)∨(∃r aP off,x=.row r aP off m)∨(∃id off,x=.rL id off m)):∃ad cap,u=.slice ad m cap∧m≤9223372036854775807:=by
  rcases hx with ⟨rfl,rfl⟩ | ⟨xs,rfl,rfl⟩ | ⟨r,aP,off,rfl⟩ | ⟨id,off,rfl⟩
  · cases r; exact ⟨_,_,rfl,by omega⟩
  · cases r with
    | slnil=>exact ⟨_,_,rfl,by simp⟩
    | sl f hn=>exact ⟨_,_,rfl,hn⟩
  · cases r with
    | row hl hv hn=>exact ⟨_,_,rfl,hn⟩
  · cases r with
    | rL hl hv hn=>exact ⟨_,_,rfl,hn⟩
theorem Ry [aL] (hi:Inv κ h w) {k:LK} {t ty:TypeId} {u:Value} {x:D} (r:bX κ w u x) (hk:(k=.str∧P.underlying t=some .string)∨(k=.sl∧∃e,P.underlying t=some (.slice e))∨(∃m e,k=.arr m∧P.underlying t=some (.array m e)))
    (hv:dS T (.len k x) h K E):ea P κ h w K E ((do let x ←Builtin.len_ #[t] ty #[u]; pure (Next.value x):Sem Next).run P w):=by
  simp only [dS] at hv
  have ev:=Ev.refl κ h w
  rcases hk with ⟨rfl,ht⟩ | ⟨rfl,e,ht⟩ | ⟨m,e,rfl,ht⟩
  · split at hv
    case h_1=>
      rename_i s0 e1
      cases r with
      | str _ hl=>
      exact j5.of (v:=.int .i64 (s0.length:Int)) (by simp [Builtin.len_,run_underlying ht,goInt,size_mk]) (hv hl) (.int _ _) hi ev
    all_goals first | exact hv.elim | simp_all
  · have go:∀(m:Nat),(x=.a_∧m=0∨(∃xs,x=.sl xs∧m=xs.length)∨(∃r aP off,x=.row r aP off m)∨(∃id off,x=.rL id off m))→(m≤9223372036854775807→K (.int .i64 (m:Int)) h)→ea P κ h w K E ((do let x ←Builtin.len_ #[t] ty #[u]; pure (Next.value x):Sem Next).run P w):=fun m hx hkm=>by
      obtain ⟨ad,cap,rfl,hl⟩:=Sl (b:=true) r hx
      exact j5.of (v:=.int .i64 (m:Int)) (by simp [Builtin.len_,run_underlying ht,goInt]) (hkm hl) (.int _ _) hi ev
    split at hv
    all_goals first
      | exact hv.elim
      | (simp_all; done)
      | exact go 0 (.inl ⟨rfl,rfl⟩) fun _=>hv
      | exact go _ (.inr (.inl ⟨_,rfl,rfl⟩)) hv
      | exact go _ (.inr (.inr (.inl ⟨_,_,_,rfl⟩))) hv
      | exact go _ (.inr (.inr (.inr ⟨_,_,rfl⟩))) hv
  · split at hv
    all_goals first
      | exact hv.elim
      | (simp_all; done)
      | skip
    rename_i n0 _ e1
    first
      | (cases e1
         exact j5.of (v:=.int .i64 (m:Int)) (by simp [Builtin.len_,run_underlying ht,goInt]) hv (.int _ _) hi ev)
      | exact j5.of (v:=.int .i64 (m:Int)) (by simp [Builtin.len_,run_underlying ht,goInt]) hv (.int _ _) hi ev
theorem L_ {κ:b9} {w:World} {v:Value} {d:D} (r:bX κ w v d):bX κ w v (eT d):=by
  cases r with
  | a_=>exact .slnil fun _=>rfl
  | _=>first | (constructor<;>assumption) | skip
theorem Gh {κ:b9} {w:World} {cs:Array Value} {xs:List (List D)} {sz:Nat} (zs:List D) (h1:∀x∈xs,x.length=sz)
    (h2:∀(i:Nat) (x:List D) (j:Nat) (d:D),xs[i]? =some x→x[j]? =some d→∃v,cs[i*sz+j]? =some v∧bX κ w v d):
    (∀x∈pr zs xs,x.length=sz)∧(pr zs xs).length=xs.length∧
    ∀(i:Nat) (x:List D) (j:Nat) (d:D),(pr zs xs)[i]? =some x→x[j]? =some d→∃v,cs[i*sz+j]? =some v∧bX κ w v d:=by
  unfold pr
  cases zs.any isNil with
  | false=>exact ⟨h1,rfl,h2⟩
  | true=>
    simp only [cond_true]
    refine ⟨fun x hx=>?_,by rw [List.length_map],fun i x j d hx hj=>?_⟩
    · obtain ⟨y,hy,rfl⟩:=List.mem_map.1 hx
      rw [List.length_map]; exact h1 y hy
    · rw [List.getElem?_map,Option.map_eq_some_iff] at hx
      obtain ⟨y,hy,rfl⟩:=hx
      rw [List.getElem?_map,Option.map_eq_some_iff] at hj
      obtain ⟨e,he,rfl⟩:=hj
      obtain ⟨v,k1,k2⟩:=h2 i y j e hy he
      exact ⟨v,k1,L_ k2⟩
theorem uU [aL] (hi:Inv κ h w) {sz jE:Nat} {str:Bool} {t tx ty e:TypeId} {z:D} (ht:P.underlying t=some (.slice e)) (hs:bO P e=some sz) (hb:gB P e=some jE) (hz:fG P e=some z) (QN:(cellsD z).length=sz) (gZ:0<sz)
    (hk:(str=false∧∃e',P.underlying tx=some (.slice e'))∨(str=true∧P.underlying tx=some .string∧sz=1)) {s u:Value} {ds x:D} (rs:bX κ w s ds) (rx:bX κ w u x) (hv:dS T (.append sz jE str ds x) h K E):
    ea P κ h w K E ((do let x ←Builtin.append_ #[t,tx] ty #[s,u]; pure (Next.value x):Sem Next).run P w):=by
  simp only [dS] at hv
  obtain ⟨ys,e1,hy,hbp,QJ⟩:=hv
  unfold pC at e1
  have lr:∃news,Src P sz tx u ys.length news w∧bJ κ w news ys.flatten:=by
    rcases hk with ⟨rfl,e',h1⟩ | ⟨rfl,h1,h2⟩
    · have Vj:∀b,x≠.str b:=fun b e=>by subst e; simp [cG] at e1
      refine Bs hi gZ rx ?_ (.inl ⟨e',h1,Vj⟩) hy
      cases x<;>first | exact e1 | exact absurd rfl (Vj _)
    · cases x with
      | str b=>exact Bs hi gZ rx e1 (.inr ⟨h1,h2,b,rfl⟩) hy
      | _=>cases e1
  obtain ⟨news,s1,s2⟩:=lr
  obtain ⟨v,w',κ',h',d,a1,a2,a3,a4,a5⟩:=qe (P:=P) (K:=K) (ty:=ty) (x:=x) hi ht hs hb hz QN gZ rs hy hbp s1 s2 (by cases ds<;>exact QJ)
  exact j5.of a1 a2 a3 a4 a5
theorem sI [aL] (hi:Inv κ h w) {sz jE:Nat} {str:Bool} {t tx ty e:TypeId} {z:D} (ht:P.underlying t=some (.slice e)) (hs:bO P e=some sz) (hb:gB P e=some jE) (hz:fG P e=some z) (QN:(cellsD z).length=sz) (gZ:0<sz)
    (hk:(str=false∧∃e',P.underlying tx=some (.slice e'))∨(str=true∧P.underlying tx=some .string∧sz=1)) {s u:Value} {ds x:D} {zs:List D} (rs:bX κ w s ds) (rx:bX κ w u x) (hv:dS T (.appendA sz jE str ds x zs) h K E):
    ea P κ h w K E ((do let x ←Builtin.append_ #[t,tx] ty #[s,u]; pure (Next.value x):Sem Next).run P w):=by
  simp only [dS] at hv
  obtain ⟨_,ys,e1,hy,hbp,QJ⟩:=hv
  unfold pC at e1
  have lr:∃news,Src P sz tx u ys.length news w∧bJ κ w news ys.flatten:=by
    rcases hk with ⟨rfl,e',h1⟩ | ⟨rfl,h1,h2⟩
    · have Vj:∀b,x≠.str b:=fun b e=>by subst e; simp [cG] at e1
      refine Bs hi gZ rx ?_ (.inl ⟨e',h1,Vj⟩) hy
      cases x<;>first | exact e1 | exact absurd rfl (Vj _)
    · cases x with
      | str b=>exact Bs hi gZ rx e1 (.inr ⟨h1,h2,b,rfl⟩) hy
      | _=>cases e1
  obtain ⟨news,s1,s2⟩:=lr
  by_cases Rq:∃r aP off len gM bR xs,ds=.row r aP off len∧h.f r=some (.row gM bR xs false)
  · obtain ⟨r,aP,off,len,gM,bR,xs,rfl,ho⟩:=Rq
    simp only [ho] at QJ
    obtain ⟨v,w',κ',h',d,a1,a2,a3,a4,a5⟩:=qe (P:=P) (K:=K) (ty:=ty) (x:=x) hi ht hs hb hz QN gZ rs hy hbp s1 s2 (by simp only [ho]; exact QJ)
    exact j5.of a1 a2 a3 a4 a5
  have jG:ys≠[]∧(match ds with
       | .a_=>ys.length*jE≤140737488355328∧∀id,h.f id=none→K (.row id 2 0 ys.length) (h.set id (.fW sz 2 ys []))
       | .row r aP off len=>match h.f r with
         | some (.fW gM bR xs fU)=>aP=bR∧gM=sz∧off=0∧len=xs.length∧(xs.length+ys.length)*jE≤140737488355328∧
             K (.row r (aP+1) 0 (len+ys.length)) (h.set r (.fW sz (aP+1) (xs++ys) ((aP,len)::fU)))
         | _=>False
       | _=>False):=by
    cases ds with
    | a_=>exact QJ
    | row r aP off len=>
      simp only at QJ ⊢
      split at QJ
      · rename_i ho; simp only [ho]; exact QJ
      · rename_i ho; exact absurd ⟨_,_,_,_,_,_,_,rfl,ho⟩ Rq
      · exact QJ.elim
    | _=>exact QJ.elim
  obtain ⟨v,w',κ',h',d,a1,a2,a3,a4,a5⟩:=xz (P:=P) (K:=K) (ty:=ty) (x:=x) hi ht hs hb hz QN gZ rs hy hbp s1 s2 jG.1 (by have:=jG.2; cases ds<;>exact this)
  exact j5.of a1 a2 a3 a4 a5
def assoc (L:List (Nat×cI)) (i:Nat):Option cI:=match L with
  | []=>none
  | p::L=>if i=p.1 then some p.2 else assoc L i
theorem wu (h:aa) (L:List (Nat×cI)) (i:Nat):(h.xO L).f i=match assoc L i with | some o=>some o | none=>h.f i:=by
  induction L with
  | nil=>rfl
  | cons p L ih=>
    show (aa.set (h.xO L) p.1 p.2).f i=_
    simp only [aa.dD,assoc]
    split
    · rfl
    · exact ih
theorem xX {L:List (Nat×cI)} {p:Nat×cI} (hp:p∈L):∃o,assoc L p.1=some o:=by
  induction L with
  | nil=>cases hp
  | cons q L ih=>
    simp only [assoc]
    split
    · exact ⟨_,rfl⟩
    · rename_i iw
      rcases List.mem_cons.1 hp with h | h
      · subst h; exact absurd rfl iw
      · exact ih h
theorem uY {L:List (Nat×cI)} {i:Nat} {o:cI} (h:assoc L i=some o):∃p∈L,p.1=i:=by
  induction L with
  | nil=>cases h
  | cons q L ih=>
    simp only [assoc] at h
    split at h
    · rename_i e; exact ⟨q,by simp,e.symm⟩
    · obtain ⟨p,h1,h2⟩:=ih h
      exact ⟨p,by simp [h1],h2⟩
theorem DJ {h:aa} {L:List (Nat×cI)} (hL:∀p∈L,h.f p.1=none):h.sub (h.xO L):=fun i o ho=>by
  rw [wu]
  cases e:assoc L i with
  | none=>exact ho
  | some o'=>
    obtain ⟨p,h1,h2⟩:=uY e
    rw [←h2,hL p h1] at ho
    cases ho
theorem wx {h h':aa} {L:List (Nat×cI)} (hL:∀p∈L,h.f p.1=none) (hL':∀p∈L,h'.f p.1=none):h'.union ((h.xO L).minus h)=h'.xO L:=aa.ext fun i=>by
  simp only [aa.union,aa.minus]
  rw [wu,wu]
  cases e:assoc L i with
  | none=>
    simp only
    cases e1:h'.f i with
    | some o=>rfl
    | none=>cases e2:h.f i<;>rfl
  | some o=>
    obtain ⟨p,h1,h2⟩:=uY e
    have a1:=hL p h1
    have a2:=hL' p h1
    rw [h2] at a1 a2
    rw [a1,a2]
theorem KU [aL] (hT:T.nJ P κ w) (hi:Inv κ h w) {v:Value} {df:D} {vs:Array Value} {BI:List D} (rf:bX κ w v df) (ra:bJ κ w vs.toList BI) (hv:dS T (.callR df BI) h K E):
    ea P κ h w K E ((do let d ←Deferred.ofValue v vs; invoke d.target d.args:Sem Next).run P w):=by
  simp only [dS] at hv
  split at hv
  · rename_i k first cap
    cases rf with
    | func s1 s2 r1 r2=>
    rename_i v1 v2
    have hr:bJ κ w (v1++vs++v2).toList (first++BI++cap):=by
      simp only [Array.toList_append]
      exact ((bJ.gP s1 r1).append ra).append (bJ.gP s2 r2)
    replace hv:=hT.c _ _ _ _ _ hv κ w (Le.refl κ w)
    have eR:(do let d ←Deferred.ofValue (.func (.func k) v1 v2) vs; invoke d.target d.args:Sem Next).run P w=.ok (.enter k (v1++vs++v2)) w:=by
      simp only [Sem.run_bind,Deferred.ofValue,Sem.run_pure,Result.andThen,invoke,gi hv.1]
    rw [eR]
    exact hv.2 (v1++vs++v2) hi hr
  · exact hv.elim
theorem MP [aL] (hT:T.nJ P κ w) (hi:Inv κ h w) {v:Value} {df:D} {vs:Array Value} {BI:List D} (rf:bX κ w v df) (ra:bJ κ w vs.toList BI) (hv:dS T (.call df BI) h K E):
    ea P κ h w K E ((do let d ←Deferred.ofValue v vs; invoke d.target d.args:Sem Next).run P w):=by
  simp only [dS] at hv
  split at hv
  · rename_i k first cap
    cases rf with
    | func s1 s2 r1 r2=>
    rename_i v1 v2
    have hr:bJ κ w (v1++vs++v2).toList (first++BI++cap):=by
      simp only [Array.toList_append]
      exact ((bJ.gP s1 r1).append ra).append (bJ.gP s2 r2)
    obtain ⟨κ',i1,AO,rr⟩:=iK hi hr
    replace hv:=hT.c _ _ _ _ _ hv κ' w (AO.le hi)
    have eR:(do let d ←Deferred.ofValue (.func (.func k) v1 v2) vs; invoke d.target d.args:Sem Next).run P w=.ok (.enter k (v1++vs++v2)) w:=by
      simp only [Sem.run_bind,Deferred.ofValue,Sem.run_pure,Result.andThen,invoke,gi hv.1]
    rw [eR]
    refine (hv.2 (v1++vs++v2) i1 rr).mono fun e w' ⟨o,h',gJ,a1,a2,a3,a4⟩=>⟨o,h',gJ,a1,a2,a3,AO.trans a4⟩
  · rename_i l first cap
    obtain ⟨h1,L,e1,e2,hy⟩:=hv
    cases rf with
    | func s1 s2 r1 r2=>
    rename_i v1 v2
    have hr:bJ κ w (v1++vs).toList (first++BI):=by
      simp only [Array.toList_append]
      exact (bJ.gP s1 r1).append ra
    obtain ⟨κ',i1,AO,rr⟩:=iK hi hr
    have sub:h1.sub (eV h (first++BI)):=by rw [e1]; exact DJ e2
    obtain ⟨f,tmps,mX,body,b1,b2⟩:=hT.y _ _ _ _ hy κ' w (AO.le hi) (v1++vs) (i1.sub sub) rr
    have eR:(do let d ←Deferred.ofValue (.func (.yield l) v1 v2) vs; invoke d.target d.args:Sem Next).run P w=.ok (.round l f tmps mX body) w:=by
      simp only [Sem.run_bind,Deferred.ofValue,Sem.run_pure,Result.andThen,invoke,b1]
    rw [eR]
    refine RoundIn.mono b2 fun e w' ⟨o,h',gJ,a1,a2,a3,a4⟩=>?_
    obtain ⟨f1,f2,f3⟩:=i1.frame sub a3 a4
    have U0:∀p∈L,h'.f p.1=none:=fun p hp=>f3 p.1 (by
      rw [e1]
      obtain ⟨o',nu⟩:=xX hp
      rw [wu,nu]; simp) (e2 p hp)
    have heq:h'.union ((eV h (first++BI)).minus h1)=h'.xO L:=by
      rw [e1]; exact wx e2 U0
    rw [heq] at f1 f2
    cases o with
    | ret d=>exact ⟨.ret d,_,gJ,a1 U0,a2,f1,AO.trans f2⟩
    | panic d=>exact a1.elim
  · exact hv.elim
theorem wN {κ κ':b9} {w w':World} {v:Value} {d:D} (hs:scalar d=true) (r:bX κ w v d):bX κ' w' v d:=by
  cases r with
  | undef v=>exact .undef v
  | bool b=>exact .bool b
  | int k n=>exact .int k n
  | float k n=>exact .float k n
  | str s h=>exact .str s h
  | _=>simp [scalar] at hs
theorem Inv.VD [aL] {κ κt κ':b9} {h h':aa} {w w':World} (hi:Inv κ h w) (ev:Ev κt .emp w κ' h' w'):Inv κ h w'∧Ev κ h w κ h w':=by
  have hb:∀b,b<w.heap.size→w'.heap[b]? =w.heap[b]? :=fun b gY=>ev.blocks b gY fun ⟨id,o,p,h1,_⟩=>by simp at h1
  have le:Le κ w κ w':=⟨fun b ku=>⟨ku,hb b (hi.fb b ku)⟩,fun id p hp=>⟨p,hp,Nat.le_refl _,fun _=>rfl,qc.refl p⟩⟩
  refine ⟨⟨fun b QG=>Nat.lt_of_lt_of_le (hi.fb b QG) ev.size,fun id p hp=>Nat.lt_of_lt_of_le (hi.h_ id p hp) ev.size,hi.fresh,fun id o ho=>?_,hi.inj,hi.kz.mono le⟩,?_⟩
  · obtain ⟨p,hp,hr⟩:=hi.obj id o ho
    exact ⟨p,hp,hr.mono le (fun b lB=>hb b (hi.gz ho hp lB)) fun _ _ x=>x⟩
  · exact { Ev.refl κ h w with os:=ev.os,tape:=ev.tape,output:=ev.output,size:=ev.size,blocks:=fun b gY _=>hb b gY,own:=fun b gY ho=>ho }
theorem LL [aL] (hT:T.nJ P κ w) (hi:Inv κ h w) {v:Value} {df:D} {vs:Array Value} {BI:List D} (rf:bX κ w v df) (ra:bJ κ w vs.toList BI) (hv:dS T (.qcall df BI) h K E):
    ea P κ h w K E ((do let d ←Deferred.ofValue v vs; invoke d.target d.args:Sem Next).run P w):=by
  simp only [dS] at hv
  split at hv
  · rename_i k first cap
    obtain ⟨d,hv,hk⟩:=hv
    replace hv:=hT.q _ _ _ hv
    cases rf with
    | func s1 s2 r1 r2=>
    rename_i v1 v2
    have hr:bJ κ w (v1++vs++v2).toList (first++BI++cap):=by
      simp only [Array.toList_append]
      exact ((bJ.gP s1 r1).append ra).append (bJ.gP s2 r2)
    obtain ⟨κ',i1,AO,rr⟩:=iK hi hr
    rcases hv with hv | hv
    case inr=>
      obtain ⟨v,g1,g2⟩:=hv κ' w (v1++vs++v2) rr
      have eR:(do let d ←Deferred.ofValue (.func (.func k) v1 v2) vs; invoke d.target d.args:Sem Next).run P w=.ok (.value v) w:=by
        simp only [Sem.run_bind,Deferred.ofValue,Sem.run_pure,Result.andThen,invoke,g1]
      rw [eR]
      by_cases hs:scalar d=true
      · refine ⟨κ,_,d,hk,wN hs g2,?_,?_⟩
        · rw [fe,hs]; exact hi
        · rw [fe,hs]; exact Ev.refl κ h w
      · have hs:scalar d=false:=by simpa using hs
        refine ⟨κ',_,d,hk,g2,?_,?_⟩
        · rw [fe,hs]; exact i1
        · rw [fe,hs]; exact AO
    have eR:(do let d ←Deferred.ofValue (.func (.func k) v1 v2) vs; invoke d.target d.args:Sem Next).run P w=.ok (.enter k (v1++vs++v2)) w:=by
      simp only [Sem.run_bind,Deferred.ofValue,Sem.run_pure,Result.andThen,invoke,gi hv.1]
    rw [eR]
    have sub:=aa.iW (eV h (first++BI++cap))
    refine (Calls.toA hv (i1.sub sub) rr).mono fun e w' ⟨o,h',gJ,a0,a2,a3,a4⟩=>?_
    subst a0
    by_cases hs:scalar d=true
    · obtain ⟨l1,l2⟩:=hi.VD a4
      refine ⟨.ret d,_,κ,hk,?_,?_,?_⟩
      · cases a2 with
        | ret r=>exact .ret (wN hs r)
      · rw [fe,hs]; exact l1
      · rw [fe,hs]; exact l2
    have hs:scalar d=false:=by simpa using hs
    rw [fe,hs] at hk
    obtain ⟨f1,f2,_⟩:=i1.frame sub a3 a4
    have OP:(eV h (first++BI++cap)).sub (h'.union ((eV h (first++BI++cap)).minus .emp)):=fun id o ho=>by
      obtain ⟨p,hp,_⟩:=i1.obj id o ho
      have:=a4.ids id p hp rfl
      simpa [aa.union,aa.minus,this] using ho
    refine ⟨.ret d,eV h (first++BI++cap),gJ,hk,a2,f1.sub OP,AO.trans ?_⟩
    exact { f2 with own:=fun b hb ho=>f2.own b hb (ho.sub OP),ids:=fun id p hp hn=>hn }
  · exact hv.elim
theorem KT [aL] (hT:T.nJ P κ w) (hi:Inv κ h w) {k:FuncId} (hv:dS T (.lG k) h K E):ea P κ h w K E ((do let d ←Deferred.ofValue (.func (.func k) #[] #[]) #[]; invoke d.target d.args:Sem Next).run P w):=by
  obtain ⟨ds,h1,h2⟩:=hv
  have hc:=hT.a k ds h h1
  have eR:(do let d ←Deferred.ofValue (.func (.func k) #[] #[]) #[]; invoke d.target d.args:Sem Next).run P w=.ok (.enter k #[]) w:=by
    simp only [Sem.run_bind,Deferred.ofValue,Sem.run_pure,Result.andThen,invoke,Array.append_empty,gi hc.1]
  rw [eR]
  refine (Calls.toA hc hi (vs:= #[]) .nil).mono fun e w' ⟨o,h',gJ,⟨id,q1,q2,q3⟩,a2,a3,a4⟩=>?_
  subst q2
  subst q3
  exact ⟨.ret (.ptr id 1 0),_,gJ,h2 id q1,a2,a3,a4⟩
theorem A3 [aL] (hi:Inv κ h w) {t el:TypeId} {sz:Nat} (ht:P.underlying t=some (.slice el)) (hs:bO P el=some sz) {u v:Value} {x i:D} (rx:bX κ w u x) (ri:bX κ w v i) {d:D} (e:cC h (.aY sz x i)=some d):
    ∃y,(Instr.indexAt t u v).run P w=.ok y w∧bX κ w y d:=by
  simp only [cC] at e
  split at e
  · rename_i r0 aP off len k0 z
    split at e
    · rename_i gM bR xs fz ho
      split at e
      · rename_i kL
        obtain ⟨c1,c2,c3,c4⟩:=kL
        cases e
        cases ri
        obtain ⟨p',Nw,hr⟩:=hi.obj _ _ ho
        cases rx with
        | row hl Rt hn dO ha lB=>
        rename_i cap p ad
        rw [hl] at Nw
        cases Nw
        have key:(Instr.indexAt t (.slice (some ad) len cap) (.int k0 z)).run P w=.ok (.pointer (some (ad.add (z.toNat*sz)))) w:=by
          simp [Instr.indexAt,asIntOf,run_underlying ht,Instr.sureAddr,c3,c4,run_sizeOf hs]
        refine ⟨_,key,.eC hl Rt fun ev=>?_⟩
        rcases ha ev with qA | ⟨pO,_⟩
        · omega
        · subst pO
          rw [dG,hr.2.2.1,c1]
          congr 1
          rw [Nat.add_mul]
          omega
      · cases e
    · rename_i gM bR xs fU ho
      split at e
      · rename_i kL
        obtain ⟨c1,c2,c3,c4⟩:=kL
        cases e
        cases ri
        obtain ⟨p',Nw,hr⟩:=hi.obj _ _ ho
        cases rx with
        | row hl Rt hn dO ha lB=>
        rename_i cap p ad
        rw [hl] at Nw
        cases Nw
        have key:(Instr.indexAt t (.slice (some ad) len cap) (.int k0 z)).run P w=.ok (.pointer (some (ad.add (z.toNat*sz)))) w:=by
          simp [Instr.indexAt,asIntOf,run_underlying ht,Instr.sureAddr,c3,c4,run_sizeOf hs]
        refine ⟨_,key,.eC hl Rt fun ev=>?_⟩
        rcases ha ev with qA | ⟨pO,_⟩
        · omega
        · subst pO
          rw [dG,hr.2.2.1,c1]
          congr 1
          rw [Nat.add_mul]
          omega
      · cases e
    · cases e
  · cases e
theorem Ll {r:Nat} (h:0x7ff0000000000000<r % 2 ^ 63):FloatKind.f64.format.order r r=none:=by
  have e:FloatKind.f64.format.read r=.nan (r / FloatKind.f64.format.signWeight % 2==1) (r % FloatKind.f64.format.signWeight - FloatKind.f64.format.infRung):=by
    have w1:FloatKind.f64.format.signWeight=2 ^ 63:=by decide
    have w2:FloatKind.f64.format.binade=2 ^ 52:=by decide
    have w3:FloatKind.f64.format.infRung=0x7ff0000000000000:=by decide
    unfold Ieee.Format.read
    simp only [w1,w2,w3]
    rw [if_neg (by omega),if_neg (by omega),if_neg (by omega)]
  unfold Ieee.Format.order
  rw [e]; rfl
theorem yV [aL] (hi:Inv κ h w) {neg:Bool} {t:TypeId} {p q:Operand} {u v:Value} {x:fS} {y:fS} {σ:Fr} (hn:Lm P t y=true) (ru:bX κ w u (σ.ev x)) (rv:bX κ w v (σ.ev y)) (hv:dS T ((bG.isNil neg x).map σ.ev) h K E):
    ea P κ h w K E ((do let x ←(do eqGuard (if neg then .neq else .eql) t p q u v; binOp (if neg then .neq else .eql) t u v); pure (Next.value x):Sem Next).run P w):=by
  unfold Lm at hn
  split at hn
  · rename_i el ht
    cases rv
    have key:∀b:Bool,(∀d,(Op.equalIn (d+1) t u (.slice none 0 0)).run P w=.ok b w)→K (.bool (if neg then !b else b)) h→(eqGuard (if neg then .neq else .eql) t p q u (.slice none 0 0)=pure ())→(∀op,binOp op t u (.slice none 0 0)=match op with | .eql=>(do pure (.bool (←Op.equal t u (.slice none 0 0)))) | .neq=>(do pure (.bool (!(←Op.equal t u (.slice none 0 0))))) | op=>binOp op t u (.slice none 0 0))→
        ea P κ h w K E ((do let x ←(do eqGuard (if neg then .neq else .eql) t p q u (.slice none 0 0); binOp (if neg then .neq else .eql) t u (.slice none 0 0)); pure (Next.value x):Sem Next).run P w):=fun b hb k hg ho=>
      j5.of (v:=.bool (if neg then !b else b)) (e_ hb ho neg p q hg) k (.bool _) hi (Ev.refl κ h w)
    simp only [bG.map,dS] at hv
    generalize σ.ev x=d at ru hv
    split at hv
    · cases ru
      refine key true (fun d=>by simp [Op.equalIn,run_underlying ht]) (by cases neg<;>exact hv) (b8 ⟨fun _=>by simp,by simp⟩) (fun op=>by cases op<;>rfl)
    · cases ru with
      | slnil hb=>
        rename_i ba cap
        cases ba with
        | none=>
          have:=hb rfl
          subst this
          exact key true (fun d=>by simp [Op.equalIn,run_underlying ht]) (by cases neg<;>exact hv.1 rfl) (b8 ⟨fun _=>by simp,by simp⟩) (fun op=>by cases op<;>rfl)
        | some a=>exact key false (fun d=>by simp [Op.equalIn,run_underlying ht]) (by cases neg<;>exact hv.2) (b8 ⟨fun _=>by simp,by simp⟩) (fun op=>by cases op<;>rfl)
      | sl=>exact key false (fun d=>by simp [Op.equalIn,run_underlying ht]) (by cases neg<;>exact hv.2) (b8 ⟨fun _=>by simp,by simp⟩) (fun op=>by cases op<;>rfl)
    · cases ru
      exact key false (fun d=>by simp [Op.equalIn,run_underlying ht]) (by cases neg<;>exact hv) (b8 ⟨fun _=>by simp,by simp⟩) (fun op=>by cases op<;>rfl)
    · exact hv.elim
  · cases hn
theorem FV [aL] (hi:Inv κ h w) {op:BinOp} {t:TypeId} {p q:Operand} {u v:Value} {x y:D} (ru:bX κ w u x) (rv:bX κ w v y) (hv:dS T (.iQ op x y) h K E):
    ea P κ h w K E ((do let x ←(do eqGuard op t p q u v; binOp op t u v); pure (Next.value x):Sem Next).run P w):=by
  simp only [dS] at hv
  split at hv
  · rename_i a b
    obtain ⟨h1,h2⟩:=hv
    cases ru; cases rv
    rw [b8 ⟨fun _=>by simp,by simp⟩]
    simp only [pure_bind]
    cases hf:floatBits op .f64 a b with
    | some r=>
      rw [hf] at h2
      exact j5.of (run_float_arith w op t .f64 a b r hf) h2 (.float _ _) hi (Ev.refl κ h w)
    | none=>
      rw [hf] at h2
      have eR:∃r,FloatKind.f64.format.order r r=none∧(binOp op t (.float .f64 a) (.float .f64 b)).run P w=.ok (.float .f64 r) w.drew:=by
        unfold floatBits at hf
        refine ⟨(Question.nanBits .f64 a b).cut (w.tape w.drawn (.nanBits .f64 a b)),Ll ?_,?_⟩
        · simp only [Question.cut]
          generalize w.tape w.drawn (Question.nanBits .f64 a b)=t
          have hz:t / 2 % (2 ^ 52 - 1)<2 ^ 52 - 1:=Nat.mod_lt _ (by decide)
          generalize t / 2 % (2 ^ 52 - 1)=z at hz
          rw [Nat.add_assoc,Nat.add_assoc,Nat.mul_comm,Nat.mul_add_mod]
          omega
        · cases op<;>simp only [eI,Bool.false_eq_true] at h1<;>simp only at hf<;>simp [binOp,Op.floatArith,hf,Question.forced]
      obtain ⟨r,hr,eR⟩:=eR
      exact j5.of eR (h2 r hr) (.float _ _) (hi.of_heap rfl) Ev.drew
  · exact hv.elim
theorem GH [aL] (hi:Inv κ h w) {t:TypeId} (ht:P.underlying t=some .string) {s:List UInt8} (hv:∀id,h.f id=none→K (.iter id) (h.set id (.jL s 0))):
    ea P κ h w K E ((do let x ←Instr.range t (.string ⟨s.toArray⟩); pure (Next.value x):Sem Next).run P w):=by
  obtain ⟨id,hid,hf⟩:=hi.r_
  let p:Place:={ blk:=w.heap.size,base:=0,aP:=1,cap:=0,sz:=0,rc:=none }
  obtain ⟨i1,e1⟩:=hi.alloc hid hf (.stringIter ⟨s.toArray⟩ 0) (.jL s 0) p rfl rfl rfl ⟨rfl,fun hx=>by have:=hi.fb _ hx; simp [p] at this,c7 w _⟩
  refine j5.of (v:=.pointer (some ⟨w.heap.size,0,none⟩)) ?_ (hv id hf) (.iter (p:=p) (by simp [b9.put]) rfl) i1 e1
  simp only [Instr.range,Sem.run_bind,run_underlying ht,Result.andThen,Sem.run_pure]
  rfl
theorem LU [aL] (hi:Inv κ h w) {u:Value} {d:D} {ty:TypeId} (r0:bX κ w u d) (hv:dS T (.pB d) h K E):
    ea P κ h w K E ((do let x ←Instr.next u true ty; pure (Next.value x):Sem Next).run P w):=by
  simp only [dS] at hv
  split at hv
  · rename_i id
    split at hv
    · rename_i s pos ho
      obtain ⟨p,hp,o1,o2,o3⟩:=hi.obj id _ ho
      cases r0 with
      | iter hl uF=>
      rw [hp] at hl
      cases hl
      have mI:(⟨s.toArray⟩:ByteArray).size=s.length:=by simp [ByteArray.size]
      by_cases gY:pos<s.length
      · let o':Obj:=.stringIter ⟨s.toArray⟩ (pos+(Utf8.decode ⟨s.toArray⟩ pos).2)
        let w':World:={ w with heap:=w.heap.modify p.blk fun _=>o' }
        have Vi:p.blk<w.heap.size:=hi.h_ id p hp
        have NF:w'.heap[p.blk]? =some o':=by simp [w',Array.getElem?_modify,o3]
        have abM:∀b,b≠p.blk→w'.heap[b]? =w.heap[b]? :=fun b hb=>by
          simp only [w',Array.getElem?_modify]
          rw [if_neg (Ne.symm hb)]
        obtain ⟨i1,e1⟩:=Inv.change (p':=p) (o':=.jL s (pos+(Utf8.decode ⟨s.toArray⟩ pos).2)) hi ho hp rfl rfl (w':=w') (by simp [w']) (by simpa [w'] using Vi) (.inl rfl) (Nat.le_refl _) (fun _=>rfl) (fun _=>rfl) rfl rfl rfl
          (fun b _ hb=>abM b hb) ⟨o1,o2,NF⟩
        refine j5.of (w':=w') (v:=.tuple #[.bool true,goInt pos,.int .i32 (Utf8.decode ⟨s.toArray⟩ pos).1]) ?_ (hv.1 gY) ?_ i1 e1
        · simp only [Instr.next,getObj,setObj,Sem.run_bind,Sem.run,o3,Result.andThen,mI,gY,if_true]
          rfl
        · refine bJ.tuple (.cons (.bool _) (.cons (.int _ _) (.cons (.int _ _) .nil)))
      · refine j5.of (v:=.tuple #[.bool false]) ?_ (hv.2 (by omega)) ?_ hi (Ev.refl κ h w)
        · simp only [Instr.next,getObj,Sem.run_bind,Sem.run,o3,Result.andThen,mI,gY,if_false,Sem.run_pure]
        · exact bJ.tuple (.cons (.bool _) .nil)
    · exact hv.elim
  · exact hv.elim
theorem Ld [aL] (hT:T.nJ P κ w) {r q:Bool} {o:Oper} {i:bG fS} (hc:iF P r q o=some i) (hi:Inv κ h w) (hp:jz κ w σ n a) (hv:dS T (i.map σ.ev) h K E):ea P κ h w K E ((execOp a.eval o).run P w):=by
  have qA:=hc
  unfold iF at hc
  split at hc
  · -- move
    simp only [Option.map_eq_some_iff] at hc; obtain ⟨y,e1,rfl⟩:=hc; exact cM qA hi hp hv
  · simp only [Option.map_eq_some_iff] at hc; obtain ⟨y,e1,rfl⟩:=hc; exact cM qA hi hp hv
  · -- pick
    rename_i c x y fk
    split at hc
    · rename_i c' x' y' e1 e2 e3
      cases hc
      have rc:=bj hp e1
      have rx:=bj hp e2
      have ry:=bj hp e3
      simp only [bG.map,dS] at hv
      simp only [execOp,fk]
      generalize a.eval c=vc at rc
      generalize σ.ev c'=dc at rc hv
      split at hv
      · cases rc
        rename_i b
        simp only [asBool,Sem.run_bind,Sem.run_pure,Result.andThen]
        cases b with
        | true=>exact ea.val hi (hv.1 rfl) rx
        | false=>exact ea.val hi (hv.2 rfl) ry
      · exact hv.elim
    · cases hc
  · -- alloc
    rename_i t fk
    simp only [Option.map_eq_some_iff] at hc
    obtain ⟨z,e1,rfl⟩:=hc
    simp only [bG.map,dS] at hv
    obtain ⟨zv,z1,z2,_⟩:=iV e1 κ w
    obtain ⟨κ',h',ad,d,b1,b2,b3,b4,b5⟩:=qG (P:=P) (K:=K) hi t z2 hv
    simp only [execOp,fk]
    refine j5.of ?_ b2 b3 b4 b5
    simp only [Instr.alloc,Sem.run_bind,z1,Result.andThen,b1,Sem.run_pure]
  · -- box
    rename_i t x fk
    simp only [Option.map_eq_some_iff] at hc
    obtain ⟨y,e1,rfl⟩:=hc
    simp only [bG.map,dS] at hv
    obtain ⟨v1,v2⟩:=hv
    have r0:=bj hp e1
    have Yj:σ.ev y≠.undef:=by intro hh; rw [hh] at v1; simp [cellsD,bY] at v1
    obtain ⟨κ',h',ad,d,b1,b2,b3,b4,b5⟩:=qG (P:=P) (K:=K) hi t (oK r0 Yj) v2
    simp only [execOp,fk]
    refine j5.of ?_ b2 b3 b4 b5
    simp only [Instr.box,Sem.run_bind,Result.andThen,b1,Sem.run_pure]
  · -- build
    (repeat' split at hc)<;>first | (cases hc; done) | (simp only [Option.map_eq_some_iff] at hc; obtain ⟨y,e1,rfl⟩:=hc; exact cM qA hi hp hv)
  · -- buildSlice
    rename_i t m ps fk
    split at hc
    case h_2=>cases hc
    rename_i el FZ
    split at hc
    case h_2=>cases hc
    rename_i sz z hs hz
    split at hc
    case isFalse=>cases hc
    rename_i hb
    obtain ⟨Vc,xr,hb3⟩:=hb
    simp only [Option.map_eq_some_iff] at hc
    obtain ⟨qs,e1,rfl⟩:=hc
    simp only [bG.map,dS] at hv
    obtain ⟨xs,hx,hk⟩:=hv
    obtain ⟨g1,g2⟩:=pw hp _ _ e1
    obtain ⟨cs,c1,c2,c3,c4⟩:=rT (P:=P) (κ:=κ) (w:=w) (fM FZ) hs hz Vc xr hb3 (ps:=ps.toList.map fun p=>(p.1,a.eval p.2)) (qs:=qs.map fun p=>(p.1,σ.ev p.2)) (by simpa using g1) (fun i j v hh=>by
      simp only [List.getElem?_map,Option.map_eq_some_iff] at hh
      obtain ⟨⟨j',x⟩,h3,h4⟩:=hh
      cases h4
      obtain ⟨y,h5,h6⟩:=g2 i _ x h3
      exact ⟨σ.ev y,by simp [h5],h6⟩) hx
    have vJ:(Array.map (fun (x:Nat×Operand)=>(x.1,a.eval x.2)) ps)=(ps.toList.map fun p=>(p.1,a.eval p.2)).toArray:=by apply Array.ext'; simp
    simp only [execOp,fk]
    have dO:m≤16777216:=Nat.le_trans (Nat.le_mul_of_pos_right _ hb3) Vc
    have Xe:cs.size=m*sz:=by
      have:=c2.length
      rw [dN c3,c4] at this
      simpa using this
    cases r with
    | true=>
      simp only at hk
      rw [←c4] at hk
      obtain ⟨κ',h',d,a1,a2,a3,a4⟩:=pU (K:=K) hi el (cs:=cs) (xs:=xs) (sz:=sz) (cap:=m) c3 (by omega) (by omega) (by omega) (Cp c2 c3) hk
      rw [c4] at a2
      refine j5.of ?_ a1 a2 a3 a4
      rw [vJ]; exact c1
    | false=>
      simp only at hk
      obtain ⟨n1,n2,n3⟩:=Gh (κ:=κ) (w:=w) (cellsD z) c3 (Cp c2 c3)
      obtain ⟨κ',a2,a3,a4⟩:=vU hi el (cs:=cs) (xs:=pr (cellsD z) xs) (sz:=sz) (cap:=m) (fz:=(0,0)) n1 (by omega) (by omega) n3
      rw [n2,c4] at a2
      refine j5.of ?_ hk a2 a3 a4
      rw [vJ]; exact c1
  · -- load
    rename_i t x fk
    split at hc
    · rename_i k y e1 e2
      cases hc
      simp only [bG.map,dS] at hv
      obtain ⟨d,e3,hk⟩:=hv
      obtain ⟨v,g1,g2⟩:=s_ (P:=P) hi e1 (bj hp e2) e3
      simp only [execOp,fk]
      exact j5.of g1 hk g2 hi (Ev.refl κ h w)
    · cases hc
  · -- store
    rename_i t x v fk
    split at hc
    · rename_i k m y u e0 e1 e2 e3
      cases hc
      simp only [bG.map,dS] at hv
      obtain ⟨h',e4,hk⟩:=hv
      obtain ⟨w',g1,g2,g3⟩:=mA (P:=P) hi e1 (bj hp e2) (bj hp e3) e4
      simp only [execOp,fk,Sem.run_bind,g1,Result.andThen,Sem.run_pure]
      exact ⟨κ,h',hk,g2,g3⟩
    · cases hc
  · simp only [Option.map_eq_some_iff] at hc; obtain ⟨y,e1,rfl⟩:=hc; exact cM qA hi hp hv
  · -- binOp
    rename_i op t x y yt fk
    (repeat' split at hc)<;>first | (cases hc; done) | (cases hc; exact cM qA hi hp hv) | (simp only [Option.map_eq_some_iff] at hc; obtain ⟨y,e1,rfl⟩:=hc; exact cM qA hi hp hv) | skip
    · have e1:= ‹jH x=_›
      have e2:= ‹jH y=_›
      have hn:= ‹Lm P t _=true›
      cases hc
      simp only [execOp,fk]
      exact yV (neg:=false) hi hn (bj hp e1) (bj hp e2) hv
    · have e1:= ‹jH x=_›
      have e2:= ‹jH y=_›
      have hn:= ‹Lm P t _=true›
      cases hc
      simp only [execOp,fk]
      exact yV (neg:=true) hi hn (bj hp e1) (bj hp e2) hv
    · rename_i p1 p2 e1 e2 _ _ _ _
      cases hc
      simp only [execOp,fk]
      exact FV hi (bj hp e1) (bj hp e2) hv
  · simp only [Option.map_eq_some_iff] at hc; obtain ⟨y,e1,rfl⟩:=hc; exact cM qA hi hp hv
  · -- convert
    rename_i s dt x fk
    split at hc
    · rename_i ck y e1 e2
      cases hc
      have r0:=bj hp e2
      simp only [bG.map,dS] at hv
      split at hv
      · -- string(bytes)
        obtain ⟨d,e3,hk⟩:=hv
        simp only [cC] at e3
        split at e3
        · rename_i xs hx
          split at e3
          · rename_i vH
            cases e3
            obtain ⟨el,h1,h2,h3⟩:=xC e1
            simp only [execOp,fk]
            exact j5.of (AG hi r0 hx vH h1 h3 h2) hk (.str _ (by simpa using Ch r0 hx)) hi (Ev.refl κ h w)
          · cases e3
        · cases e3
      · -- []byte(s)
        split at hv
        · rename_i hs s0 hs0
          obtain ⟨el,h1,h2,h3⟩:=xD e1
          simp only [execOp,fk]
          generalize a.eval x=u at r0 ⊢
          rw [hs0] at r0
          cases r0 with
          | str _ hl=>
          have eR:=run_bytes_of_string (P:=P) w s dt el ⟨s0.toArray⟩ h1 h2 h3
          have ku:Inv κ h w.drew:=hi.of_heap rfl
          have mI:(⟨s0.toArray⟩:ByteArray).size=(eF s0).length:=by simp [eF,size_mk]
          have dO:=grownCap_ge w (⟨s0.toArray⟩:ByteArray).size 0 el
          generalize grownCap w (⟨s0.toArray⟩:ByteArray).size 0 el=gc at eR dO
          obtain ⟨κ',a2,a3,a4⟩:=vU ku el (cs:=bytesRow ⟨s0.toArray⟩ gc) (fz:=((bytesRow ⟨s0.toArray⟩ gc).size,(bytesRow ⟨s0.toArray⟩ gc).size+1)) (xs:=eF s0) (sz:=1) (cap:=gc) (fun y hy=>by
            simp only [eF,List.mem_map] at hy
            obtain ⟨b,_,rfl⟩:=hy
            rfl) (by rw [←mI]; exact dO) (by simpa [eF] using hl) (fun i y j d hy hj=>by
            simp only [eF,List.getElem?_map,Option.map_eq_some_iff] at hy
            obtain ⟨b,hb,rfl⟩:=hy
            cases j with
            | succ j=>simp at hj
            | zero=>
              simp at hj
              subst hj
              refine ⟨.int .u8 (b.toNat:Int),?_,.int _ _⟩
              have gY:=(List.getElem?_eq_some_iff.1 hb).1
              have hbb:=(List.getElem?_eq_some_iff.1 hb).2
              simp only [bytesRow,Nat.mul_one,Nat.add_zero]
              rw [Array.getElem?_append_left (by simpa using gY)]
              simp [gY,hbb])
          refine j5.of eR hv ?_ a3 (Ev.drew.trans a4)
          rw [mI]
          exact a2
        · exact hv.elim
      · exact cM qA hi hp hv
    · cases hc
  · -- sliceToArrayPointer
    (repeat' split at hc)<;>first | (cases hc; done) | (cases hc; exact cM qA hi hp hv)
  · -- makeInterface
    (repeat' split at hc)<;>first | (cases hc; done) | (simp only [Option.map_eq_some_iff] at hc; obtain ⟨y,e1,rfl⟩:=hc; exact cM qA hi hp hv)
  · -- makeFunc
    (repeat' split at hc)<;>first | (cases hc; done) | (cases hc; exact cM qA hi hp hv)
  · -- slice
    rename_i t x lo ku mx fk
    split at hc
    case h_2=>cases hc
    rename_i x' lo' abv e1 e2 e3 e4
    have key:∀k:SK,i=.slice k x' lo' abv none→(∀r0 aP off len,σ.ev x'=.row r0 aP off len→∃sz el,k=.sl sz∧P.underlying t=some (.slice el)∧bO P el=some sz)→ea P κ h w K E ((execOp a.eval o).run P w):=fun k hk abP=>by
      subst hk
      simp only [bG.map,dS,Option.map_none] at hv
      split at hv
      · rename_i hx
        obtain ⟨d,e5,k5⟩:=hv
        obtain ⟨sz,el,rfl,ht,hs⟩:=abP _ _ _ _ hx
        rename_i r0 aP off len
        have rx:=bj hp e1
        rw [hx] at e5 rx
        simp only [cC] at e5
        split at e5
        · rename_i gM bR xs fz ho
          split at e5
          · rename_i kL
            obtain ⟨rfl,rfl⟩:=kL
            simp only [Option.map_eq_some_iff] at e5
            obtain ⟨b,eb,rfl⟩:=e5
            obtain ⟨p',Nw,hr⟩:=hi.obj _ _ ho
            have hmx:mx=none:=by
              cases mx with
              | none=>rfl
              | some z=>simp only [Dq,Option.map_eq_some_iff,reduceCtorEq,and_false,exists_false] at e4
            subst hmx
            obtain ⟨v,g1,g2⟩:=wQ (P:=P) (κ:=κ) (w:=w) ht hs rx (qJ hp e2) (qJ hp e3) eb (fun p F1=>by
              rw [Nw] at F1
              cases F1
              exact hr.2.2.1)
            simp only [execOp,fk]
            exact j5.of g1 k5 g2 hi (Ev.refl κ h w)
          · cases e5
        · cases e5
      · exact cM qA hi hp hv
    split at hc
    · cases hc
      refine key .str rfl fun r0 aP off len hx=>?_
      exfalso
      simp only [bG.map,dS,Option.map_none,hx] at hv
      obtain ⟨d,e5,_⟩:=hv
      simp [cC] at e5
    · rename_i el ht
      simp only [Option.map_eq_some_iff] at hc
      obtain ⟨sz,hs,rfl⟩:=hc
      exact key (.sl sz) rfl fun r0 aP off len hx=>⟨sz,el,rfl,ht,hs⟩
    · rename_i m el ht
      split at hc
      · cases hc
        refine key (.arr m) rfl fun r0 aP off len hx=>?_
        exfalso
        simp only [bG.map,dS,Option.map_none,hx] at hv
        obtain ⟨d,e5,_⟩:=hv
        simp [cC] at e5
      · cases hc
    · cases hc
  · -- fieldAddr
    (repeat' split at hc)<;>first | (cases hc; done) | (cases hc; exact cM qA hi hp hv)
  · -- field
    (repeat' split at hc)<;>first | (cases hc; done) | (simp only [Option.map_eq_some_iff] at hc; obtain ⟨y,e1,rfl⟩:=hc; exact cM qA hi hp hv)
  · -- indexAddr
    rename_i t x j fk
    split at hc
    case h_2=>cases hc
    rename_i x' j' e1 e2
    split at hc
    · simp only [Option.map_eq_some_iff] at hc; obtain ⟨y,e3,rfl⟩:=hc; exact cM qA hi hp hv
    · rename_i el ht
      split at hc
      case h_2=>cases hc
      rename_i sz hs
      split at hc
      case isFalse=>cases hc
      cases hc
      simp only [bG.map,dS] at hv
      split at hv
      · rename_i r0 aP off len hx
        obtain ⟨d,e5,k5⟩:=hv
        have rx:=bj hp e1
        have rj:=bj hp e2
        rw [hx] at e5 rx
        obtain ⟨y,g1,g2⟩:=A3 (P:=P) hi ht hs rx rj e5
        simp only [execOp,fk]
        exact j5.of g1 k5 g2 hi (Ev.refl κ h w)
      · exact cM qA hi hp hv
    · cases hc
  · -- index
    (repeat' split at hc)<;>first | (cases hc; done) | (cases hc; exact cM qA hi hp hv)
  · simp only [Option.map_eq_some_iff] at hc; obtain ⟨y,e1,rfl⟩:=hc; exact cM qA hi hp hv
  · -- panic
    rename_i x fk
    simp only [Option.map_eq_some_iff] at hc
    obtain ⟨y,e1,rfl⟩:=hc
    have r0:=bj hp e1
    simp only [bG.map,dS] at hv
    simp only [execOp,fk]
    generalize a.eval x=u at r0
    generalize σ.ev y=d at r0 hv
    split at hv
    · cases r0 with
      | iface hr=>
      simp only [Instr.panic,Sem.run_bind,run_goPanic,Result.andThen]
      exact ⟨κ,h,_,hv,.iface hr,hi,Ev.refl κ h w⟩
    · exact hv.elim
  · -- call
    rename_i c fk
    split at hc
    · rename_i f jU
      split at hc
      · rename_i g as e1 e2
        have rf:=bj hp e1
        have ra:=ka hp e2
        have ra':bJ κ w (c.args.map a.eval).toList (as.map σ.ev):=by simpa using ra
        simp only [execOp,fk,resolve,jU]
        split at hc
        · cases hc
          exact LL hT hi rf ra' (by simpa [bG.map] using hv)
        · split at hc
          · cases hc
            exact KU hT hi rf ra' (by simpa [bG.map] using hv)
          · cases hc
            exact MP hT hi rf ra' (by simpa [bG.map] using hv)
      · cases hc
    · rename_i b jU
      have AY:∀vs:Array Value,c.args.map a.eval=vs→(execOp a.eval o).run P w=(builtin b c.argTypes o.type (c.args.map fun x=>match x with | .const _=>true | _=>false) vs).run P w:=fun vs Xo=>by
        simp only [execOp,fk,Sem.run_bind,resolve,jU,Xo]
        rfl
      split at hc
      · -- len
        rename_i x t e1 e2
        obtain ⟨v,h1,r1⟩:=N3 hp e1
        rw [AY _ h1]
        have Lb:∃rest,c.argTypes=(#[t]:Array TypeId)++rest:=by
          refine ⟨(c.argTypes.toList.drop 1).toArray,?_⟩
          apply Array.ext'
          have:c.argTypes.toList[0]? =some t:=by simpa using e2
          cases hl:c.argTypes.toList with
          | nil=>simp [hl] at this
          | cons z zs=>simp [hl] at this; simp [this]
        simp only [builtin]
        have hlen:∀m u,(Builtin.len_ c.argTypes m u).run P w=(Builtin.len_ #[t] m u).run P w:=fun m u=>by
          simp only [Builtin.len_,e2]
          rfl
        have Ti:∀k,i=.len k x→((k=.str∧P.underlying t=some .string)∨(k=.sl∧∃e,P.underlying t=some (.slice e))∨(∃m e,k=.arr m∧P.underlying t=some (.array m e)))→ea P κ h w K E ((do let x ←Builtin.len_ c.argTypes o.type #[v]; pure (Next.value x):Sem Next).run P w):=fun k hk ht=>by
          subst hk
          have:=Ry (P:=P) (K:=K) (E:=E) (ty:=o.type) hi r1 ht hv
          simp only [Sem.run_bind] at this ⊢
          rw [hlen]
          exact this
        split at hc
        · cases hc; exact Ti _ rfl (.inl ⟨rfl,by assumption⟩)
        · cases hc; exact Ti _ rfl (.inr (.inl ⟨rfl,_,by assumption⟩))
        · cases hc; exact Ti _ rfl (.inr (.inr ⟨_,_,rfl,by assumption⟩))
        · cases hc
      · (cases hc; exact cM qA hi hp hv)
      · (cases hc; exact cM qA hi hp hv)
      · -- append
        rename_i s x t e1 e2
        obtain ⟨v,u,h1,r1,r2⟩:=qK hp e1
        split at hc
        · rename_i e t1 t2 e3 e4
          have Lb:c.argTypes= #[t,t2]:=by
            apply Array.ext'
            have:c.argTypes.toList[0]? =some t:=by simpa using e2
            simp [e4] at this
            simp [e4,this]
          rw [AY _ h1,Lb]
          simp only [builtin]
          split at hc
          · rename_i sz jE z el f1 f2 f3 f4
            split at hc
            · rename_i kL
              cases hc
              exact uU hi (fM e3) f1 f2 f3 kL.1 kL.2 (.inl ⟨rfl,_,f4⟩) r1 r2 hv
            · cases hc
          · rename_i sz jE z f1 f2 f3 f4
            split at hc
            · rename_i kL
              cases hc
              exact uU hi (fM e3) f1 f2 f3 kL.1 (by omega) (.inr ⟨rfl,f4,kL.2⟩) r1 r2 hv
            · cases hc
          · cases hc
        · cases hc
      · cases hc
    · cases hc
  · -- range
    rename_i t x fk
    split at hc
    · rename_i ht
      simp only [Option.map_eq_some_iff] at hc
      obtain ⟨y,e1,rfl⟩:=hc
      have r0:=bj hp e1
      simp only [bG.map,dS] at hv
      simp only [execOp,fk]
      generalize a.eval x=u at r0
      generalize σ.ev y=d at r0 hv
      split at hv
      · cases r0
        exact GH hi ht hv
      · exact hv.elim
    · cases hc
  · -- next
    rename_i x b fk
    split at hc
    · simp only [Option.map_eq_some_iff] at hc
      obtain ⟨y,e1,rfl⟩:=hc
      have r0:=bj hp e1
      simp only [bG.map] at hv
      simp only [execOp,fk]
      exact LU hi r0 hv
    · cases hc
  · -- typeAssert
    rename_i x xt t ok fk
    split at hc
    · cases hc
    · rename_i hni ht
      simp only [Option.map_eq_some_iff] at hc
      obtain ⟨y,e1,rfl⟩:=hc
      have r0:=bj hp e1
      simp only [bG.map,dS] at hv
      simp only [execOp,fk]
      generalize a.eval x=u at r0
      generalize σ.ev y=d at r0 hv
      split at hv
      · cases r0 with
        | iface hr=>
        obtain ⟨rfl,hk⟩:=hv
        rename_i td t' _ d' v
        refine j5.of (v:=bif ok then .tuple #[v,.bool true] else v) ?_ hk ?_ hi (Ev.refl κ h w)
        · cases td<;>first | exact absurd rfl (hni _) | (cases ok<;>simp [Instr.typeAssert,Sem.run_bind,run_underlying ht,Result.andThen])
        · cases ok with
          | false=>exact hr
          | true=>exact bJ.tuple (.cons hr (.cons (.bool _) .nil))
      · exact hv.elim
    · cases hc
  · -- makeSlice
    rename_i t l c fk
    split at hc
    · rename_i e l' c' e1 e2 e3
      have rl:=bj hp e2
      have rc:=bj hp e3
      split at hc
      · rename_i sz jE z f1 f2 f3
        split at hc
        · rename_i kL
          obtain ⟨c1,rfl,c3,c4⟩:=kL
          cases hc
          simp only [bG.map,dS] at hv
          simp only [execOp,fk]
          generalize a.eval l=vl at rl
          generalize a.eval c=vc at rc
          generalize σ.ev l'=dl at rl hv
          generalize σ.ev c'=dc at rc hv
          split at hv
          · rename_i k1 n1 k2 n2
            obtain ⟨g1,rfl,g3,g4,g5,g6⟩:=hv
            cases rl
            cases rc
            have hz1:cellsD z=[z]:=by cases z<;>first | rfl | (simp [bY] at c3; done)
            rw [hz1] at g6
            exact uo hi (fM e1) f1 f2 f3 c3 c4 g1 g3 g6
          · exact hv.elim
        · cases hc
      · cases hc
    · cases hc
  · cases hc
end Go.Proofs.YtpklkpkfgmoghaaGreatDoor.Zz
