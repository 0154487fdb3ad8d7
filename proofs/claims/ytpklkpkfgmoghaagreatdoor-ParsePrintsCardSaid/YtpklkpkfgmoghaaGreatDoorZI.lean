/- The instructions that reckon. -/
import Derived.Test.YtpklkpkfgmoghaaGreatDoorZE
import Derived.Laws.FloatArith
import Derived.Laws.Slices
import Derived.ChangeKeysEq
import Derived.Laws.StructEq
set_option linter.unnecessarySimpa false
set_option linter.unusedVariables false
set_option linter.unusedSimpArgs false
namespace Go.Proofs.YtpklkpkfgmoghaaGreatDoor.Zz
variable {P:Program} {κ:cp} {w:World}
def pz (P:Program) (κ:cp) (w:World) (s:Sem Next) (d:D):Prop:=∃v,s.run P w=.ok (.value v) w∧cd κ w v d
theorem pz.of {s:Sem Value} {v:Value} {d:D} (hs:s.run P w=.ok v w) (r:cd κ w v d):pz P κ w (do let x ←s; pure (Next.value x)) d:=
  ⟨v,by simp only [Sem.run_bind,hs,Result.andThen,Sem.run_pure],r⟩
theorem Dp {op:BinOp} {k:IntKind} {x y:Int} {d:D} (e:dZ op k x y=some d) (h1:op≠.shl) (h2:op≠.shr) (t:TypeId):
    ∃v,(binOp op t (.int k x) (.int k y)).run P w=.ok v w∧cd κ w v d:=by
  cases op<;>simp only [dZ,Option.some.injEq,reduceCtorEq] at e
  bf first
    | (subst e; exact ⟨_,by simp only [binOp_add,binOp_sub,binOp_mul,binOp_and,binOp_or,binOp_xor,binOp_andNot,binOp_eql,binOp_neq,binOp_lss,binOp_leq,binOp_gtr,binOp_geq]; rfl,by constructor⟩)
    | (split at e
       · cases e
       · ab hy; cases e; exact ⟨_,by simp [binOp,Op.intDiv,hy]; rfl,by constructor⟩)
    | (exact absurd rfl h1)
    | (exact absurd rfl h2)
theorem xc {op:BinOp} {k k':IntKind} {x y:Int} {d:D} (e:ye op k x y=some d) (t:TypeId):
    ∃v,(binOp op t (.int k x) (.int k' y)).run P w=.ok v w∧cd κ w v d:=by
  unfold ye at e
  split at e
  · cases e
  · ab hy
    cases op<;>simp only [Option.some.injEq,reduceCtorEq] at e
    bf (subst e; exact ⟨_,by simp [binOp,Op.shift,hy]; rfl,by constructor⟩)
theorem toList_mk (l:List UInt8):(⟨l.toArray⟩:ByteArray).toList=l:=by simp
theorem pg (l:List UInt8):(⟨l.toArray⟩:ByteArray).size=l.length:=by simp [ByteArray.size]
theorem LW (a b:List UInt8):(⟨a.toArray⟩++⟨b.toArray⟩:ByteArray)=⟨(a++b).toArray⟩:=by
  apply ByteArray.ext
  simp
theorem EB {op:BinOp} {x y:List UInt8} {d:D} (e:hY op x y=some d) (t:TypeId):
    ∃v,(binOp op t (.string ⟨x.toArray⟩) (.string ⟨y.toArray⟩)).run P w=.ok v w∧cd κ w v d:=by
  cases op<;>simp only [hY,Option.some.injEq,reduceCtorEq] at e
  bf first
    | (subst e; exact ⟨_,by simp only [binOp,Op.stringOp,toList_mk]; rfl,by constructor⟩)
    | skip
  split at e
  · ab hl
    cases e
    refine ⟨.string ⟨(x++y).toArray⟩,?_,.str _ (by simpa using hl)⟩
    have h1:¬(9223372036854775807<(x.length:Int)+(y.length:Int)):=by omega
    simp only [binOp,Op.stringOp,pg,IntKind.max_i64,LW]
    rw [if_neg (by Yx; omega)]
    rfl
  · cases e
theorem cn {op:BinOp} {t:TypeId} {x y:Operand} {u v:Value} (hu:(∀c,u≠.agg c)∧u≠.nilIface):eqGuard op t x y u v=pure ():=by
  unfold eqGuard
  cases op<;>try rfl
  bf
    simp only [Bool.not_true,Bool.false_eq_true,if_false,Bool.not_eq_true']
    split
    · exact absurd rfl hu.2
    · exact absurd rfl (hu.1 _)
    · rfl
theorem CN {op:BinOp} {k:FloatKind} {x y:Nat} {d:D} (e:jr op k x y=some d) (t:TypeId):
    ∃v,(binOp op t (.float k x) (.float k y)).run P w=.ok v w∧cd κ w v d:=by
  cases op<;>simp only [jr,Option.some.injEq,reduceCtorEq] at e
  bf (subst e; exact ⟨_,by simp only [binOp,Op.floatCmp,ne_eq,not_true_eq_false,if_false]; rfl,by constructor⟩)
theorem nq {op:BinOp} {u v:Value} {x y d:D} (hu:cd κ w u x) (hv:cd κ w v y) (e:jP op x y=some d) (t:TypeId) (p q:Operand):
    ∃r,(do eqGuard op t p q u v; binOp op t u v).run P w=.ok r w∧cd κ w r d:=by
  unfold jP at e
  split at e
  · ab k x k' y
    cases hu; cases hv
    rw [cn ⟨fun _=>by simp,by simp⟩]
    simp only [pure_bind]
    split at e
    · exact xc e t
    · exact xc e t
    · ab h1 h2
      split at e
      · ab hk
        subst hk
        exact Dp e h1 h2 t
      · cases e
  · cases hu; cases hv
    rw [cn ⟨fun _=>by simp,by simp⟩]
    simp only [pure_bind]
    exact EB e t
  · cases hu; cases hv
    rw [cn ⟨fun _=>by simp,by simp⟩]
    simp only [pure_bind]
    split at e
    · ab hk
      subst hk
      exact CN e t
    · cases e
  · cases e
theorem Hq {op:UnOp} {u:Value} {x d:D} (hu:cd κ w u x) (e:me op x=some d):∃r,(Op.unary op u).run P w=.ok r w∧cd κ w r d:=by
  unfold me at e
  split at e
  · cases hu
    cases op<;>simp only [Option.some.injEq,reduceCtorEq] at e
    bf (subst e; exact ⟨_,rfl,by constructor⟩)
  · cases hu
    cases op<;>simp only [Option.some.injEq,reduceCtorEq] at e
    bf (subst e; exact ⟨_,rfl,by constructor⟩)
  · cases hu
    cases op<;>simp only [Option.some.injEq,reduceCtorEq] at e
    bf (subst e; exact ⟨_,rfl,by constructor⟩)
  · cases e
theorem dQ (b o k:Nat):(⟨b,o,none⟩:Addr).add k=⟨b,o+k,none⟩:=by
  unfold Addr.add
  split<;>dj
theorem tC {cs:Array Value} {ds:List D} (h:bP κ w cs.toList ds) {t:TypeId} {off:Nat} {k:Option Nat} {d:D} (hs:shapeOf P t=some k) (e:gz ds off k=some d):
    ∃v,(part t cs off).run P w=.ok v w∧cd κ w v d:=by
  cases k with
  | none=>
    obtain ⟨h1,_⟩:=n_ hs w
    simp only [gz] at e
    obtain ⟨v,hv,r⟩:=h.get off d e
    have Sj:cs[off]? =some v:=by simpa using hv
    exact ⟨v,by simp [part,h1,Sj],r⟩
  | some n=>
    obtain ⟨h1,h2⟩:=oa hs w
    simp only [gz] at e
    split at e
    · ab hl
      cases e
      refine ⟨.agg (cs.extract off (off+n)),by simp [part,h1,run_sizeOf h2],bP.agg ?_⟩
      refine bP.nS ?_ fun i d hd=>?_
      · have:=h.length
        simp at this ⊢
        omega
      · rw [List.getElem?_take] at hd
        split at hd
        · ab hi
          rw [List.getElem?_drop] at hd
          obtain ⟨v,hv,r⟩:=h.get _ _ hd
          refine ⟨v,?_,r⟩
          have Sj:cs[off+i]? =some v:=by simpa using hv
          have hZ:=(Array.getElem?_eq_some_iff.1 Sj).1
          simp only [Array.toList_extract,List.extract_eq_take_drop]
          rw [List.getElem?_take,if_pos (by omega),List.getElem?_drop]
          exact hv
        · cases hd
    · cases e
end Go.Proofs.YtpklkpkfgmoghaaGreatDoor.Zz
namespace Go.Proofs.YtpklkpkfgmoghaaGreatDoor.Zz
variable {P:Program} {κ:cp} {w:World}
inductive AG (κ:cp) (w:World):Option Value→Option D→Prop
 | none:AG κ w .none .none
 | some {v:Value} {d:D} (h:cd κ w v d):AG κ w (.some v) (.some d)
theorem p6 {v:Value} {d:D} {i:Int} (r:cd κ w v d) (e:nM d=some i):∃k,v=.int k i:=by
 unfold nM at e
 split at e
 ·cases e; cases r; exact ⟨_,rfl⟩
 ·cases e
theorem ke {n cap:Nat} (hc:n≤cap) (isS:Bool) {lo hi:Option Value} {T3 T2:Option D} (rl:AG κ w lo T3) (rh:AG κ w hi T2) {b:Nat×Nat} (e:bounds n T3 T2=some b):
  (Instr.sliceBounds isS n cap lo hi none).run P w=.ok (b.1,b.2,cap) w∧b.1≤b.2∧b.2≤n:=by
 unfold bounds at e
 split at e
 ·ab l u h1 h2
  split at e
  ·ab h3
   cases e
   obtain ⟨a1,a2,a3⟩:=h3
   have hu:∀k code,(Instr.sliceBound (.int k u) cap code).run P w=.ok u.toNat w:=fun k code=>run_sliceBound w k u cap code (by omega) (by omega)
   have hl:∀k code,(Instr.sliceBound (.int k l) u.toNat code).run P w=.ok l.toNat w:=fun k code=>run_sliceBound w k l u.toNat code (by omega) (by omega)
   refine ⟨?_,by simp; omega,by simp; omega⟩
   cases rl with
   | none=>
    simp at h1
    subst h1
    cases rh with
    | none=>
     simp at h2
     subst h2
     simp [Instr.sliceBounds]
    | some r=>
     obtain ⟨k,rfl⟩:=p6 r h2
     simp [Instr.sliceBounds,hu]
   | some r=>
    obtain ⟨k,rfl⟩:=p6 r h1
    cases rh with
    | none=>
     simp at h2
     subst h2
     have:=hl k .sliceB
     simp at this
     simp [Instr.sliceBounds,this]
    | some r'=>
     obtain ⟨k',rfl⟩:=p6 r' h2
     simp [Instr.sliceBounds,hu,hl]
  ·cases e
 ·cases e
theorem GG (s:List UInt8) (l u:Nat):(⟨s.toArray⟩:ByteArray).extract l u=⟨((s.drop l).take (u - l)).toArray⟩:=by
 apply ByteArray.ext
 simp [List.extract_eq_take_drop]
theorem oh {t e:TypeId} {sz:Nat} (ht:P.underlying t=some (.slice e)) (hs:bT P e=some sz) {lo hi:Option Value} {ba:Option Addr} {len cap l u:Nat} (hc:len≤cap)
  (hb:(Instr.sliceBounds true len cap lo hi none).run P w=.ok (l,u,cap) w):
  (Instr.sliceAt t (.slice ba len cap) lo hi none).run P w=.ok (.slice (if cap=l then ba else ba.map (·.add (l*sz))) (u - l) (cap - l)) w:=by
 simp [Instr.sliceAt,run_underlying ht,Instr.slice,hb,run_sizeOf hs]
theorem lG {k:SK} {t:TypeId} (hk:match k with
   | .str=>P.underlying t=some .string
   | .sl sz=>∃e,P.underlying t=some (.slice e)∧bT P e=some sz
   | .arr n=>∃e,P.underlying t=some (.array n e)∧bT P e=some 1)
  {u:Value} {x d:D} {lo hi:Option Value} {T3 T2:Option D} (hu:cd κ w u x) (rl:AG κ w lo T3) (rh:AG κ w hi T2) (e:iv k x T3 T2 none=some d):
  ∃v,(Instr.sliceAt t u lo hi none).run P w=.ok v w∧cd κ w v d:=by
 unfold iv at e
 simp only at e
 split at e
 ·-- a string
  ab s
  simp only [Option.map_eq_some_iff] at e
  obtain ⟨b,eb,rfl⟩:=e
  cases hu with
  | str _ hs=>
  obtain ⟨hb,h1,h2⟩:=ke (P:=P) (κ:=κ) (w:=w) (Nat.le_refl s.length) false rl rh eb
  refine ⟨.string ⟨((s.drop b.1).take (b.2 - b.1)).toArray⟩,?_,.str _ (by simp; omega)⟩
  simp only at hk
  simp [Instr.sliceAt,run_underlying hk,Instr.slice,pg,hb,GG]
 ·-- plain elements
  ab sz xs
  obtain ⟨el,ht,hs⟩:=hk
  split at e
  ·ab vW
   simp only [Option.map_eq_some_iff] at e
   obtain ⟨b,eb,rfl⟩:=e
   cases hu with
   | slnil hb0=>
    ab ba cap
    obtain ⟨hb,h1,h2⟩:=ke (P:=P) (κ:=κ) (w:=w) (Nat.zero_le cap) true rl rh eb
    have Wc:b.1=0:=by simp at h2; omega
    have xI:b.2=0:=by simpa using h2
    rw [Wc,xI] at hb ⊢
    refine ⟨_,oh ht hs (Nat.zero_le cap) hb,?_⟩
    simp only [Nat.zero_mul,Nat.sub_zero,Nat.sub_self,List.drop_zero,List.take_zero]
    refine .slnil fun e=>?_
    split at e
    ·exact hb0 e
    ·simp at e; exact hb0 e
   | sl f hn dY qP hc hr=>
    ab bb o gS cap
    obtain ⟨hb,h1,h2⟩:=ke (P:=P) (κ:=κ) (w:=w) dY true rl rh eb
    have Si:=oh (ba:=some ⟨bb,o,none⟩) ht hs dY hb
    have hlen:((xs.drop b.1).take (b.2 - b.1)).length=b.2 - b.1:=by simp; omega
    by_cases hx:b.1=b.2
    ·have jM:(xs.drop b.1).take (b.2 - b.1)=[]:=by simp [hx]
     rw [jM]
     refine ⟨_,Si,?_⟩
     have e0:b.2 - b.1=([]:List (List D)).length:=by simp [hx]
     split
     ·exact .Ew (sz:=0) e0 (fun _ _=>undef) (by simp) (by simp) (by simp) (by simp) (by simp)
     ·simp only [Option.map_some,dQ]
      exact .Ew (sz:=0) e0 (fun _ _=>undef) (by simp) (by simp) (by simp) (by simp) (by simp)
    ·have LG:¬cap=b.1:=by omega
     rw [if_neg LG] at Si
     simp only [Option.map_some,dQ] at Si
     have iC:xs≠[]:=by intro h; subst h; simp at h2; omega
     obtain ⟨y,hy⟩:=List.exists_mem_of_ne_nil xs iC
     have ad1:gS=sz:=by rw [←qP y hy,vW y hy]
     subst ad1
     refine ⟨_,Si,?_⟩
     refine .Ew (sz:=gS) (cap:=cap - b.1) hlen.symm (fun i j=>f (b.1+i) j) (by rw [hlen]; omega) (by rw [hlen]; omega) (fun z hz=>vW z (List.mem_of_mem_drop (List.mem_of_mem_take hz))) (fun i z j q hi hj=>?_) (fun i z j q hi hj=>?_)
     ·rw [List.getElem?_take] at hi
      split at hi
      ·rw [List.getElem?_drop] at hi
       have:=hc _ z j q hi hj
       rw [show o+b.1*gS+i*gS+j=o+(b.1+i)*gS+j by rw [Nat.add_mul]; omega]
       exact this
      ·cases hi
     ·rw [List.getElem?_take] at hi
      split at hi
      ·rw [List.getElem?_drop] at hi
       exact hr _ z j q hi hj
      ·cases hi
  ·cases e
 ·-- an array's cells
  ab n id aR off
  obtain ⟨el,ht,hs⟩:=hk
  split at e
  ·ab uU
   obtain ⟨uU,hn⟩:=uU
   simp only [Option.map_eq_some_iff] at e
   obtain ⟨b,eb,rfl⟩:=e
   cases hu with
   | ptr hl hv ha=>
    ab p ad
    subst uU
    obtain ⟨hb,h1,h2⟩:=ke (P:=P) (κ:=κ) (w:=w) (Nat.le_refl n) false rl rh eb
    refine ⟨.slice (some (if n=b.1 then ad else ad.add (b.1*1))) (b.2 - b.1) (n - b.1),?_,?_⟩
    ·simp [Instr.sliceAt,run_underlying ht,Instr.sureAddr,hb,run_sizeOf hs]
    ·refine .r7 hl hv (by omega) (by omega) fun ev=>?_
     split
     ·exact .inl (by omega)
     ·rw [ha ev,dQ]
      exact .inr (by simp [Nat.add_assoc])
  ·cases e
 ·cases e
theorem xe {sz r aR off len:Nat} {t el:TypeId} (ht:P.underlying t=some (.slice el)) (hs:bT P el=some sz) {u:Value} {lo hi:Option Value} {T3 T2:Option D}
  (hu:cd κ w u (.row r aR off len)) (rl:AG κ w lo T3) (rh:AG κ w hi T2) {b:Nat×Nat} (eb:bounds len T3 T2=some b) (mU:∀p,κ.loc r=some p→p.sz=sz):
  ∃v,(Instr.sliceAt t u lo hi none).run P w=.ok v w∧cd κ w v (.row r aR (off+b.1) (b.2 - b.1)):=by
 cases hu with
 | row hl hv hn dY ha ho=>
  ab cap p ad
  obtain ⟨hb,h1,h2⟩:=ke (P:=P) (κ:=κ) (w:=w) dY true rl rh eb
  have Si:=oh (ba:=some ad) ht hs dY hb
  refine ⟨_,Si,?_⟩
  split
  ·ab LG
   exact .row hl hv (by omega) (by omega) (fun _=>.inl (by omega)) fun _ _ _=>.inl (by omega)
  ·ab LG
   simp only [Option.map_some]
   have hsp:=mU p hl
   refine .row hl hv (by omega) (by omega) (fun ev=>?_) fun e he ev=>?_
   ·rcases ha ev with h0 | ⟨h0,h3⟩
    ·exact .inl (by omega)
    ·refine .inr ⟨?_,by omega⟩
     rw [h0,dQ,hsp,Nat.add_mul]
     simp [Nat.add_assoc]
   ·rcases ho e he ev with h0 | ⟨h0,h3⟩
    ·exact .inl (by omega)
    ·refine .inr ⟨?_,by omega⟩
     rw [h0,dQ,(p.kV e he).2,hsp,Nat.add_mul]
end Go.Proofs.YtpklkpkfgmoghaaGreatDoor.Zz
namespace Go.Proofs.YtpklkpkfgmoghaaGreatDoor.Zz
variable {P:Program} {κ:cp} {w:World}
def Y_ (P:Program) (t:TypeId):ET→Prop
 | .bool=>P.underlying t=some .bool
 | .ptr=>∃e,P.underlying t=some (.pointer e)
 | .slnil=>∃e,P.underlying t=some (.slice e)
 | .uT=>∃a b c,P.underlying t=some (.func a b c)
 | .iface=>∃ms,P.underlying t=some (.interface ms)
 | .array n .SL=>∃e k i,P.underlying t=some (.array n e)∧P.underlying e=some (.int k)∧P.eqGuardType P.depth t=false∧P.cellsOf e=1∧P.info? e=some i
 | _=>False
theorem NV {t:TypeId} {e:ET} (h:CL P t=some e):Y_ P t e:=by
 unfold CL at h
 split at h
 case h_6=>
  ab n e he
  split at h
  ·ab k hk
   split at h
   ·ab hc
    cases h
    obtain ⟨i,hi⟩:=Option.isSome_iff_exists.1 hc.2.2
    exact ⟨e,k,i,he,hk,hc.1,hc.2.1,hi⟩
   ·cases h
  ·cases h
 bf (simp at h; try subst h; try simp [Y_,*])
theorem fk {t:TypeId} {u v:Value} {b:Bool} (h:∀d,(Op.equalIn (d+1) t u v).run P w=.ok b w) (hb:∀op,binOp op t u v=match op with | .eql=>(do pure (.bool (←Op.equal t u v))) | .neq=>(do pure (.bool (!(←Op.equal t u v)))) | op=>binOp op t u v)
  (neg:Bool) (p q:Operand) (hg:eqGuard (if neg then .neq else .eql) t p q u v=pure ()):
  (do eqGuard (if neg then .neq else .eql) t p q u v; binOp (if neg then .neq else .eql) t u v).run P w=.ok (.bool (if neg then !b else b)) w:=by
 have h':(Op.equal t u v).run P w=.ok b w:=h 9999
 rw [hg,pure_bind,hb]
 cases neg<;>simp [h']
theorem s4 {e:TypeId} {k:IntKind} {c1 c2:Array Value} (he:P.underlying e=some (.int k)):∀(as bs:List D) (off:Nat) (is:List Nat) (b:Bool),is=(List.range as.length).map (· +off)→as.length=bs.length→off+as.length=c1.size→off+as.length=c2.size→
  (∀(i:Nat) d,as[i]? =some d→cd κ w (c1.getD (i+off) (.tuple #[])) d)→(∀(i:Nat) d,bs[i]? =some d→cd κ w (c2.getD (i+off) (.tuple #[])) d)→vJ as bs=some b→
  ∀d,(Op.eqItems (d+1) e 1 c1 c2 is).run P w=.ok b w
 | [],[],off,is,b,hi,_,_,_,_,_,h=>fun d=>by
  cases h
  simp at hi
  subst hi
  simp [Op.eqItems]
 | x::as,y::bs,off,is,b,hi,hl,l1,l2,r1,r2,h=>fun d=>by
  have hx:=r1 0 x rfl
  have hy:=r2 0 y rfl
  simp only [Nat.zero_add] at hx hy
  have h0:off<c1.size:=by simp at l1; omega
  have h0':off<c2.size:=by simp at l2; omega
  have his:is=off::(List.range as.length).map (· +(off+1)):=by
   rw [hi,List.length_cons,List.range_succ_eq_map,List.map_cons,List.map_map]
   congr 1
   ·omega
   ·apply List.map_congr_left; intro i _; simp; omega
  rw [his]
  cases x with
  | int k1 a=>
   cases y with
   | int k2 c=>
    simp only [vJ] at h
    split at h
    ·ab hk
     subst hk
     have ga:c1[off]? =some (.int k1 a):=by
      rw [Array.getElem?_eq_getElem h0]
      have:c1.getD off (.tuple #[])=c1[off]:=by simp [Array.getD_eq_getD_getElem?,h0]
      rw [this] at hx
      generalize c1[off]=v at hx
      cases hx; rfl
     have gc:c2[off]? =some (.int k1 c):=by
      rw [Array.getElem?_eq_getElem h0']
      have:c2.getD off (.tuple #[])=c2[off]:=by simp [Array.getD_eq_getD_getElem?,h0']
      rw [this] at hy
      generalize c2[off]=v at hy
      cases hy; rfl
     have hp:P.plainKey e=true:=by simp [Program.plainKey,he]
     have p1:=run_part_plain (P:=P) w hp ga
     have p2:=run_part_plain (P:=P) w hp gc
     simp only [Op.eqItems,Nat.mul_one,Sem.run_bind,p1,p2,Result.andThen_ok,run_equalIn_int w d e k1 k a c he]
     split at h
     ·ab qM
      rw [qM]
      simp only [Bool.not_true,Bool.false_eq_true,if_false]
      exact s4 he as bs (off+1) _ b rfl (by simpa using hl) (by simp at l1; omega) (by simp at l2; omega)
       (fun i d hd=>by have:=r1 (i+1) d hd; Xs [show i+1+off=i+(off+1) by omega] at this)
       (fun i d hd=>by have:=r2 (i+1) d hd; Xs [show i+1+off=i+(off+1) by omega] at this) h d
     ·ab qM
      cases h
      have:(a==c)=false:=by simpa using qM
      rw [this]
      simp
    ·cases h
   | _=>cases h
  | _=>cases h
 | [],_::_,_,_,_,_,hl,_,_,_,_,_=>by simp at hl
 | _::_,[],_,_,_,_,hl,_,_,_,_,_=>by simp at hl
theorem CJ {n:Nat} {t:TypeId} (ht:Y_ P t (.array n .SL)) {c1 c2:Array Value} {a b:List D} {r:Bool} (hl:c1.size=n∧a.length=n) (hl2:c2.size=n∧b.length=n) (r1:∀(i:Nat) d,a[i]? =some d→cd κ w (c1.getD i (.tuple #[])) d) (r2:∀(i:Nat) d,b[i]? =some d→cd κ w (c2.getD i (.tuple #[])) d)
  (e:vJ a b=some r) (neg:Bool) (p q:Operand):
  (do eqGuard (if neg then .neq else .eql) t p q (.agg c1) (.agg c2); binOp (if neg then .neq else .eql) t (.agg c1) (.agg c2)).run P w=.ok (.bool (if neg then !r else r)) w:=by
 obtain ⟨el,k,i,h1,h2,h3,h4,h5⟩:=ht
 have hE:(Op.equalIn 10000 t (.agg c1) (.agg c2)).run P w=.ok r w:=by
  rw [run_equalIn_array w 9999 c1 c2 h1 h5,h4]
  exact s4 h2 a b 0 _ r (by rw [hl.2]; simp) (by omega) (by omega) (by omega) (fun i d hd=>r1 i d hd) (fun i d hd=>r2 i d hd) e 9998
 cases neg<;>simp only [Bool.false_eq_true,if_false,if_true,Sem.run_bind,run_eqGuard_agg w _ t p q c1 c2 h3,Result.andThen_ok,run_eql_struct,run_neq_struct,hE]
theorem vI {et:ET} {t:TypeId} (ht:Y_ P t et) {u v:Value} {x y:D} {b:Bool} (hu:cd κ w u x) (hv:cd κ w v y) (e:iK et x y=some b) (neg:Bool) (p q:Operand)
  (hc:et=.iface→jt p=true∨jt q=true):
  (do eqGuard (if neg then .neq else .eql) t p q u v; binOp (if neg then .neq else .eql) t u v).run P w=.ok (.bool (if neg then !b else b)) w:=by
 unfold iK at e
 split at e
 case h_11=>
  split at e
  ·ab hl
   cases hu with
   | agg s1 r1=>
    cases hv with
    | agg s2 r2=>exact CJ ht (by omega) (by omega) r1 r2 e neg p q
  ·cases e
 bf cases e
 ·-- bools
  cases hu; cases hv
  refine fk ?_ (fun op=>by cases op<;>rfl) neg p q (cn ⟨fun _=>by simp,by simp⟩)
  simp only [Y_] at ht
  intro d
  simp [Op.equalIn,run_underlying ht]
 ·cases hu; cases hv
  obtain ⟨el,ht⟩:=ht
  refine fk ?_ (fun op=>by cases op<;>rfl) neg p q (cn ⟨fun _=>by simp,by simp⟩)
  intro d
  simp [Op.equalIn,run_underlying ht]
 ·cases hu; cases hv
  obtain ⟨el,ht⟩:=ht
  refine fk ?_ (fun op=>by cases op<;>rfl) neg p q (cn ⟨fun _=>by simp,by simp⟩)
  intro d
  simp [Op.equalIn,run_underlying ht]
 ·cases hu; cases hv
  obtain ⟨el,ht⟩:=ht
  refine fk ?_ (fun op=>by cases op<;>rfl) neg p q (cn ⟨fun _=>by simp,by simp⟩)
  intro d
  simp [Op.equalIn,run_underlying ht]
 ·cases hu; cases hv
  obtain ⟨el,ht⟩:=ht
  refine fk ?_ (fun op=>by cases op<;>rfl) neg p q (cn ⟨fun _=>by simp,by simp⟩)
  intro d
  simp [Op.equalIn,run_underlying ht]
 ·cases hu; cases hv
  obtain ⟨a1,a2,a3,ht⟩:=ht
  refine fk ?_ (fun op=>by cases op<;>rfl) neg p q (cn ⟨fun _=>by simp,by simp⟩)
  intro d
  simp [Op.equalIn,run_underlying ht]
 ·cases hu; cases hv
  obtain ⟨a1,a2,a3,ht⟩:=ht
  refine fk ?_ (fun op=>by cases op<;>rfl) neg p q (cn ⟨fun _=>by simp,by simp⟩)
  intro d
  simp [Op.equalIn,run_underlying ht]
 ·cases hu; cases hv
  obtain ⟨ms,ht⟩:=ht
  have hg:eqGuard (if neg then .neq else .eql) t p q .nilIface .nilIface=pure ():=by
   rcases hc rfl with h | h
   ·cases p<;>simp [jt] at h
    cases neg<;>simp [eqGuard_nil_constL]
   ·cases q<;>simp [jt] at h
    cases neg<;>simp [eqGuard_nil_constR]
  refine fk (b:=true) (fun d=>?_) (fun op=>by cases op<;>rfl) neg p q hg
  simp [Op.equalIn,run_underlying ht]
 ·cases hu; cases hv
  obtain ⟨ms,ht⟩:=ht
  refine fk ?_ (fun op=>by cases op<;>rfl) neg p q (cn ⟨fun _=>by simp,by simp⟩)
  intro d
  simp [Op.equalIn,run_underlying ht]
 ·cases hu; cases hv
  obtain ⟨ms,ht⟩:=ht
  refine fk (b:=false) (fun d=>?_) (fun op=>by cases op<;>rfl) neg p q (by cases neg<;>simp [eqGuard])
  simp [Op.equalIn,run_underlying ht]
theorem mI (cs:List D) (off:Nat) (ds:List D):(setAt cs off ds).length=cs.length:=by
 induction ds generalizing cs off with
 | nil=>rfl
 | cons d ds ih=>simp [setAt,ih]
theorem pe (cs:List D) (off:Nat) (ds:List D) (i:Nat):(setAt cs off ds)[i]? =if off≤i∧i<off+ds.length∧i<cs.length then ds[i - off]? else cs[i]? :=by
 induction ds generalizing cs off with
 | nil=>
  simp only [setAt,List.length_nil]
  split
  ·omega
  ·rfl
 | cons d ds ih=>
  rw [setAt,ih]
  simp only [List.length_set,List.length_cons]
  by_cases h0:i=off
  ·subst h0
   by_cases hl:i<cs.length
   ·have c1:¬(i+1≤i∧i<i+1+ds.length∧i<cs.length):=by omega
    have c2:i≤i∧i<i+(ds.length+1)∧i<cs.length:=by omega
    rw [if_neg c1,if_pos c2]
    simp [hl]
   ·have c1:¬(i+1≤i∧i<i+1+ds.length∧i<cs.length):=by omega
    have c2:¬(i≤i∧i<i+(ds.length+1)∧i<cs.length):=by omega
    rw [if_neg c1,if_neg c2]
    simp [hl]
  ·have e1:(cs.set off d)[i]? =cs[i]? :=List.getElem?_set_ne (fun h=>h0 h.symm)
   rw [e1]
   by_cases c:off+1≤i∧i<off+1+ds.length∧i<cs.length
   ·have c2:off≤i∧i<off+(ds.length+1)∧i<cs.length:=by omega
    rw [if_pos c,if_pos c2]
    rw [show i - off=(i - (off+1))+1 by omega]
    simp
   ·have c2:¬(off≤i∧i<off+(ds.length+1)∧i<cs.length):=by omega
    rw [if_neg c,if_neg c2]
theorem FI (vs:List Value):∀(cs:Array Value) (off k:Nat),((vs.zipIdx k).foldl (fun cs (c,j)=>cs.setIfInBounds (off+j) c) cs).toList=
  (List.range cs.size).map fun i=>if off+k≤i∧i<off+k+vs.length then vs.getD (i - (off+k)) undef else cs.getD i undef:=by
 induction vs with
 | nil=>
  intro cs off k
  simp only [List.zipIdx_nil,List.foldl_nil,List.length_nil]
  apply List.ext_getElem
  ·simp
  ·intro i h1 h2
   simp at h1
   have:¬(off+k≤i∧i<off+k+0):=by omega
   simp [h1]
   omega
 | cons v vs ih=>
  intro cs off k
  simp only [List.zipIdx_cons,List.foldl_cons]
  rw [ih]
  simp only [Array.size_setIfInBounds,List.length_cons]
  apply List.map_congr_left
  intro i hi
  simp at hi
  by_cases h0:i=off+k
  ·subst h0
   have c1:¬(off+(k+1)≤off+k∧off+k<off+(k+1)+vs.length):=by omega
   have c2:off+k≤off+k∧off+k<off+k+(vs.length+1):=by omega
   rw [if_neg c1,if_pos c2]
   simp [hi]
  ·have e1:(cs.setIfInBounds (off+k) v).getD i undef=cs.getD i undef:=by
    simp [Array.getD_eq_getD_getElem?,Array.getElem?_setIfInBounds_ne (fun h=>h0 h.symm)]
   rw [e1]
   by_cases c:off+(k+1)≤i∧i<off+(k+1)+vs.length
   ·have c2:off+k≤i∧i<off+k+(vs.length+1):=by omega
    rw [if_pos c,if_pos c2,show i - (off+k)=(i - (off+(k+1)))+1 by omega]
    simp
   ·have c2:¬(off+k≤i∧i<off+k+(vs.length+1)):=by omega
    rw [if_neg c,if_neg c2]
theorem Tj {cs:Array Value} {ds es:List D} {vs:Array Value} (h:bP κ w cs.toList ds) (hv:bP κ w vs.toList es) (off:Nat):
  bP κ w (vs.zipIdx.foldl (fun cs (c,j)=>cs.setIfInBounds (off+j) c) cs).toList (setAt ds off es):=by
 have hz:vs.zipIdx.foldl (fun cs (c,j)=>cs.setIfInBounds (off+j) c) cs=(vs.toList.zipIdx 0).foldl (fun cs (c,j)=>cs.setIfInBounds (off+j) c) cs:=by
  rw [←Array.foldl_toList]
  simp
 have hlen:=h.length
 have ZM:=hv.length
 simp at hlen ZM
 rw [hz,FI]
 refine bP.nS (by simp [mI,hlen]) fun i d hd=>?_
 rw [pe] at hd
 have hi:i<ds.length:=by
  split at hd
  ·omega
  ·exact (List.getElem?_eq_some_iff.1 hd).1
 have kD:i<cs.size:=by omega
 refine ⟨_,by simp [kD]; rfl,?_⟩
 by_cases c:off≤i∧i<off+es.length∧i<ds.length
 ·rw [if_pos c] at hd
  obtain ⟨v,e1,r⟩:=hv.get _ _ hd
  have Y2:vs[i - off]? =some v:=by simpa using e1
  have c':off≤i∧i<off+vs.size:=by omega
  simp [c',Y2,r]
 ·rw [if_neg c] at hd
  obtain ⟨v,e1,r⟩:=h.get _ _ hd
  have Y2:cs[i]=v:=by simpa [kD] using e1
  have c':¬(off≤i∧i<off+vs.size):=by omega
  simp [c',kD,Y2,r]
end Go.Proofs.YtpklkpkfgmoghaaGreatDoor.Zz
namespace Go.Proofs.YtpklkpkfgmoghaaGreatDoor.Zz
variable {P:Program} {κ:cp} {w:World} {σ:Fr} {n:Nat} {a:Act}
theorem qW [aN] (hp:jF κ w σ n a) {x:Option Operand} {y:Option f7} (e:DN x=some y):AG κ w (x.map a.eval) (y.map σ.ev):=by
  cases x with
  | none=>simp [DN] at e; subst e; exact .none
  | some x=>
    simp only [DN,Option.map_eq_some_iff] at e
    obtain ⟨z,e1,rfl⟩:=e
    exact .some (bp hp e1)
theorem pY {place:Nat→Option (Nat×Nat)} {cells:Array Value} {zs:List D} (hz:bP κ w cells.toList zs):
    ∀(ps:List (Nat×Value)) (qs:List (Nat×Nat×D)),ps.length=qs.length→
      (∀(i:Nat) (j:Nat) (v:Value),ps[i]? =some (j,v)→∃(off sz:Nat) (d:D),qs[i]? =some (off,sz,d)∧place j=some (off,sz)∧cd κ w v d)→
      ∀ds,ia zs qs=some ds→∃cs,Instr.fill place cells ps=some cs∧bP κ w cs.toList ds:=by
  intro ps
  induction ps generalizing cells zs with
  | nil=>
    intro qs hl _ ds e
    cases qs with
    | nil=>simp [ia] at e; subst e; exact ⟨cells,by simp [Instr.fill],hz⟩
    | cons _ _=>simp at hl
  | cons p ps ih=>
    intro qs hl hh ds e
    cases qs with
    | nil=>simp at hl
    | cons q qs=>
      obtain ⟨j,v⟩:=p
      obtain ⟨off,sz,d,e1,e2,r⟩:=hh 0 j v (by simp)
      simp at e1
      subst e1
      simp only [ia] at e
      split at e
      · ab hc
        obtain ⟨c1,c2,c3⟩:=hc
        have ZP:d≠.undef:=by
          intro h; subst h; simp [bZ,cf] at c3
        have rc:=o_ r ZP
        have l1:=rc.length
        have l2:=hz.length
        simp at l1 l2
        obtain ⟨cs,f1,f2⟩:=ih (Tj hz rc off) qs (by simpa using hl) (fun i j v h=>by
          have:=hh (i+1) j v (by simpa using h)
          simpa using this) ds e
        refine ⟨cs,?_,f2⟩
        rw [Instr.fill,e2]
        simp only
        rw [if_neg (by simp; omega)]
        exact f1
      · cases e
theorem qZ [aN] {fs:Array Field} (hp:jF κ w σ n a):∀(ps:List (Nat×Operand)) (qs:List (Nat×Nat×f7)),partsOf P fs ps=some qs→
    ps.length=qs.length∧∀(i:Nat) (j:Nat) (x:Operand),ps[i]? =some (j,x)→∃f y m,fs[j]? =some f∧bT P f.type=some m∧qs[i]? =some (f.offset,m,y)∧cd κ w (a.eval x) (σ.ev y)
  | [],qs,e=>by simp [partsOf] at e; subst e; exact ⟨rfl,fun i j x h=>by simp at h⟩
  | (j0,x0)::ps,qs,e=>by
    simp only [partsOf] at e
    split at e
    · ab f y qs' e1 e2 e3
      simp only [Option.map_eq_some_iff] at e
      obtain ⟨m,e4,rfl⟩:=e
      obtain ⟨h1,h2⟩:=qZ hp ps qs' e3
      refine ⟨by simp [h1],fun i j x h=>?_⟩
      cases i with
      | zero=>
        simp at h
        obtain ⟨rfl,rfl⟩:=h
        exact ⟨f,y,m,e1,e4,by simp,bp hp e2⟩
      | succ i=>simpa using h2 i j x (by simpa using h)
    · cases e
theorem pI [aN] {sz:Nat} (hp:jF κ w σ n a):∀(ps:List (Nat×Operand)) (qs:List (Nat×Nat×f7)),nY sz ps=some qs→
    ps.length=qs.length∧∀(i:Nat) (j:Nat) (x:Operand),ps[i]? =some (j,x)→∃y,qs[i]? =some (j*sz,sz,y)∧cd κ w (a.eval x) (σ.ev y)
  | [],qs,e=>by simp [nY] at e; subst e; exact ⟨rfl,fun i j x h=>by simp at h⟩
  | (j0,x0)::ps,qs,e=>by
    simp only [nY] at e
    split at e
    · ab y qs' e2 e3
      cases e
      obtain ⟨h1,h2⟩:=pI hp ps qs' e3
      refine ⟨by simp [h1],fun i j x h=>?_⟩
      cases i with
      | zero=>
        simp at h
        obtain ⟨rfl,rfl⟩:=h
        exact ⟨y,by simp,bp hp e2⟩
      | succ i=>simpa using h2 i j x (by simpa using h)
    · cases e
theorem pJ [aN] (hp:jF κ w σ n a):∀(ps:List (Nat×Operand)) (qs:List (Nat×f7)),nZ ps=some qs→
    ps.length=qs.length∧∀(i:Nat) (j:Nat) (x:Operand),ps[i]? =some (j,x)→∃y,qs[i]? =some (j,y)∧cd κ w (a.eval x) (σ.ev y)
  | [],qs,e=>by simp [nZ] at e; subst e; exact ⟨rfl,fun i j x h=>by simp at h⟩
  | (j0,x0)::ps,qs,e=>by
    simp only [nZ] at e
    split at e
    · ab y qs' e2 e3
      cases e
      obtain ⟨h1,h2⟩:=pJ hp ps qs' e3
      refine ⟨by simp [h1],fun i j x h=>?_⟩
      cases i with
      | zero=>
        simp at h
        obtain ⟨rfl,rfl⟩:=h
        exact ⟨y,by simp,bp hp e2⟩
      | succ i=>simpa using h2 i j x (by simpa using h)
    · cases e
theorem ja {t:TypeId} {z:D} (e:fQ P t=some z) (κ:cp) (w:World):∃v,(zeroValue t).run P w=.ok v w∧bP κ w v.cells.toList (bZ z)∧∃i,P.info? t=some i∧i.zero=some v:=by
  obtain ⟨v,h1,h2,i,h3,h4⟩:=pM e κ w
  refine ⟨v,h1,?_,i,h3,h4⟩
  have e':=e
  unfold fQ at e'
  simp only [h3,Option.bind_some,h4] at e'
  by_cases hu:z=.undef
  · exfalso
    subst hu
    unfold MX at e'
    split at e'
    · ab cs0
      cases hl:FY cs0.toList<;>simp [hl] at e'
    · unfold MW at e'
      split at e'<;>first | (simp at e'; done) | (split at e'<;>simp at e')
  · exact o_ h2 hu
theorem uJ {fs:Array Field} (hs:∀f∈fs.toList,∃m,bT P f.type=some m) (w:World):
    ∃pl:Array (Nat×Nat),(fs.mapM fun (f:Field)=>(do pure (f.offset,←sizeOf f.type):Sem (Nat×Nat))).run P w=.ok pl w∧∀(j:Nat) (f:Field) (m:Nat),fs[j]? =some f→bT P f.type=some m→pl[j]? =some (f.offset,m):=by
  have key:∀l:List Field,(∀f∈l,∃m,bT P f.type=some m)→∃pl:List (Nat×Nat),(l.mapM fun (f:Field)=>(do pure (f.offset,←sizeOf f.type):Sem (Nat×Nat))).run P w=.ok pl w∧∀(j:Nat) (f:Field) (m:Nat),l[j]? =some f→bT P f.type=some m→pl[j]? =some (f.offset,m):=by
    intro l
    induction l with
    | nil=>intro _; exact ⟨[],by simp,fun j f m h=>by simp at h⟩
    | cons f l ih=>
      intro h
      obtain ⟨m,hm⟩:=h f (by simp)
      obtain ⟨pl,h1,h2⟩:=ih fun g hg=>h g (by simp [hg])
      refine ⟨(f.offset,m)::pl,?_,fun j g k hj hk=>?_⟩
      · rw [List.mapM_cons]; simp only [Sem.run_bind,run_sizeOf hm,Result.andThen,Sem.run_pure,h1]
      · cases j with
        | zero=>simp at hj; subst hj; rw [hm] at hk; cases hk; simp
        | succ j=>simpa using h2 j g k (by simpa using hj) hk
  obtain ⟨pl,h1,h2⟩:=key fs.toList hs
  refine ⟨pl.toArray,?_,fun j f m hj hk=>by simpa using h2 j f m (by simpa using hj) hk⟩
  rw [Array.mapM_eq_mapM_toList]
  simp only [Sem.run_map,h1,Result.andThen]
theorem LF {fs:Array Field} {P:Program} (h:fs.toList.all (fun f=>(bT P f.type).isSome)=true):∀f∈fs.toList,∃m,bT P f.type=some m:=by
  intro f hf
  have:=List.all_eq_true.1 h f hf
  exact Option.isSome_iff_exists.1 this
theorem HA {cs:Array Value} {ds:List D} (h:bP κ w cs.toList ds) (i:Nat) (d:D) (e:ds[i]? =some d):∃v,cs[i]? =some v∧cd κ w v d:=by
  obtain ⟨v,e1,r⟩:=h.get i d e
  exact ⟨v,by simpa using e1,r⟩
theorem vL {f:Field} {m:Nat} (hm:bT P f.type=some m) (h0:m≠0) (ad:Addr) (w:World):(fieldPlace ad f).run P w=.ok (ad.add f.offset) w:=by
  simp [fieldPlace,run_sizeOf hm,h0]
theorem nW [aN] {l:List Operand} {ys:List f7} (e:nV l=some ys):l.length=ys.length:=by
  induction l generalizing ys with
  | nil=>simp [nV] at e; subst e; rfl
  | cons x l ih=>
    simp only [nV,List.mapM_cons,Option.bind_eq_bind,Option.bind_eq_some_iff] at e
    obtain ⟨y,e1,ys',e2,e3⟩:=e
    cases e3
    simp [ih e2]
theorem qX [aN] (hp:jF κ w σ n a) {arr:Array Operand} {x y:f7} (e:nV arr.toList=some [x,y]):
    ∃v u,arr.map a.eval= #[v,u]∧cd κ w v (σ.ev x)∧cd κ w u (σ.ev y):=by
  have hl:=nW e
  have r:=kl hp e
  match h:arr.toList,hl with
  | [p,q],_=>
    rw [h] at r
    cases r with
    | cons r1 t=>cases t with
      | cons r2 t=>exact ⟨_,_,by apply Array.ext'; simp [h],r1,r2⟩
theorem ON [aN] (hp:jF κ w σ n a) {arr:Array Operand} {x:f7} (e:nV arr.toList=some [x]):
    ∃v,arr.map a.eval= #[v]∧cd κ w v (σ.ev x):=by
  have hl:=nW e
  have r:=kl hp e
  match h:arr.toList,hl with
  | [p],_=>
    rw [h] at r
    cases r with
    | cons r1 t=>exact ⟨_,by apply Array.ext'; simp [h],r1⟩
theorem GV [aN] {r q:Bool} {o:Oper} {i:bM f7} (hc:iL P r q o=some i) (hp:jF κ w σ n a) {d:D} (he:bo (i.map σ.ev)=some d):pz P κ w (execOp a.eval o) d:=by
  unfold iL at hc
  unfold execOp
  split at hc
  · -- move
    ab x fy
    simp only [Option.map_eq_some_iff] at hc
    obtain ⟨y,e1,rfl⟩:=hc
    simp only [bM.map,bo,Option.some.injEq] at he
    subst he
    exact ⟨a.eval x,by simp [fy],bp hp e1⟩
  · ab x fy
    simp only [Option.map_eq_some_iff] at hc
    obtain ⟨y,e1,rfl⟩:=hc
    simp only [bM.map,bo,Option.some.injEq] at he
    subst he
    exact ⟨a.eval x,by simp [fy],bp hp e1⟩
  · -- pick
    split at hc
    · cases hc; simp [bM.map,bo] at he
    · cases hc
  · simp only [Option.map_eq_some_iff] at hc; obtain ⟨y,e1,rfl⟩:=hc; simp [bM.map,bo] at he
  · simp only [Option.map_eq_some_iff] at hc; obtain ⟨y,e1,rfl⟩:=hc; simp [bM.map,bo] at he
  · -- build
    ab t ps fy
    split at hc
    · ab fs z ht hz
      split at hc
      · ab vW
        simp only [Option.map_eq_some_iff] at hc
        obtain ⟨qs,e1,rfl⟩:=hc
        simp only [bM.map,bo,Option.map_eq_some_iff] at he
        obtain ⟨ds,e2,rfl⟩:=he
        obtain ⟨zv,z1,z2,_⟩:=ja hz κ w
        obtain ⟨pl,p1,p2⟩:=uJ (LF vW) w
        obtain ⟨h1,h2⟩:=qZ hp _ _ e1
        obtain ⟨cs,f1,f2⟩:=pY (place:=(pl[·]?)) z2 (ps.toList.map fun p=>(p.1,a.eval p.2)) (qs.map fun p=>(p.1,p.2.1,σ.ev p.2.2)) (by simpa using h1) (fun i j v h=>by
          simp only [List.getElem?_map,Option.map_eq_some_iff] at h
          obtain ⟨⟨j',x⟩,h3,h4⟩:=h
          cases h4
          obtain ⟨f,y,m,g1,g2,g3,g4⟩:=h2 i _ x h3
          exact ⟨f.offset,m,σ.ev y,by simp [g3],p2 _ f m g1 g2,g4⟩) ds e2
        refine ⟨.agg cs,?_,f2.agg⟩
        simp only [fy]
        have vY:(Array.map (fun (x:Nat×Operand)=>(x.1,a.eval x.2)) ps).toList=ps.toList.map fun p=>(p.1,a.eval p.2):=by simp
        simp only [Sem.run_bind,Instr.build,z1,Result.andThen,run_underlying ht,p1,vY,f1,Sem.run_pure]
      · cases hc
    · ab ln el z ht hz
      split at hc
      · ab sz mU
        simp only [Option.map_eq_some_iff] at hc
        obtain ⟨qs,e1,rfl⟩:=hc
        simp only [bM.map,bo,Option.map_eq_some_iff] at he
        obtain ⟨ds,e2,rfl⟩:=he
        obtain ⟨zv,z1,z2,_⟩:=ja hz κ w
        obtain ⟨h1,h2⟩:=pI hp _ _ e1
        obtain ⟨cs,f1,f2⟩:=pY (place:=fun i=>some (i*sz,sz)) z2 (ps.toList.map fun p=>(p.1,a.eval p.2)) (qs.map fun p=>(p.1,p.2.1,σ.ev p.2.2)) (by simpa using h1) (fun i j v h=>by
          simp only [List.getElem?_map,Option.map_eq_some_iff] at h
          obtain ⟨⟨j',x⟩,h3,h4⟩:=h
          cases h4
          obtain ⟨y,g3,g4⟩:=h2 i _ x h3
          exact ⟨_,sz,σ.ev y,by simp [g3],rfl,g4⟩) ds e2
        refine ⟨.agg cs,?_,f2.agg⟩
        simp only [fy]
        have vY:(Array.map (fun (x:Nat×Operand)=>(x.1,a.eval x.2)) ps).toList=ps.toList.map fun p=>(p.1,a.eval p.2):=by simp
        simp only [Sem.run_bind,Instr.build,z1,Result.andThen,run_underlying ht,run_sizeOf mU,vY,f1,Sem.run_pure]
      · cases hc
    · cases hc
  · -- buildSlice
    (repeat' split at hc)<;>first | (cases hc; done) | (simp only [Option.map_eq_some_iff] at hc; obtain ⟨y,e1,rfl⟩:=hc; simp [bM.map,bo] at he)
  · (repeat' split at hc)<;>first | (cases hc; done) | (cases hc; simp [bM.map,bo] at he)
  · (repeat' split at hc)<;>first | (cases hc; done) | (cases hc; simp [bM.map,bo] at he)
  · -- nilCheck
    ab x fy
    simp only [Option.map_eq_some_iff] at hc
    obtain ⟨y,e1,rfl⟩:=hc
    have r:=bp hp e1
    simp only [bM.map,bo] at he
    simp only [fy]
    generalize a.eval x=u at r ⊢
    generalize σ.ev y=e at r he
    have r0:=r
    split at he<;>cases he<;>cases r<;>exact ⟨_,rfl,r0⟩
  · -- binOp
    ab op t x y yt fy
    split at hc
    · ab p1 p2 e1 e2
      have r1:=bp hp e1
      have r2:=bp hp e2
      simp only [fy]
      split at hc
      · (repeat' split at hc)
        · cases hc
          simp only [bM.map,bo] at he
          obtain ⟨v,h1,h2⟩:=nq (P:=P) r1 r2 he t x y
          exact pz.of h1 h2
        bf first
          | (cases hc; done)
          | (cases hc; simp [bM.map,bo] at he; done)
          | (simp only [Option.map_eq_some_iff] at hc
             obtain ⟨et,e3,rfl⟩:=hc
             simp only [bM.map,bo,Option.map_eq_some_iff] at he
             obtain ⟨b,e4,rfl⟩:=he
             refine pz.of (vI (P:=P) (NV e3) r1 r2 e4 false x y (fun h=>?_)) (.bool _)
             first
               | (ab kR; exact (Bool.or_eq_true _ _).mp kR)
               | (subst h; dj))
      · (repeat' split at hc)
        · cases hc
          simp only [bM.map,bo] at he
          obtain ⟨v,h1,h2⟩:=nq (P:=P) r1 r2 he t x y
          exact pz.of h1 h2
        bf first
          | (cases hc; done)
          | (cases hc; simp [bM.map,bo] at he; done)
          | (simp only [Option.map_eq_some_iff] at hc
             obtain ⟨et,e3,rfl⟩:=hc
             simp only [bM.map,bo,Option.map_eq_some_iff] at he
             obtain ⟨b,e4,rfl⟩:=he
             refine pz.of (vI (P:=P) (NV e3) r1 r2 e4 true x y (fun h=>?_)) (.bool _)
             first
               | (ab kR; exact (Bool.or_eq_true _ _).mp kR)
               | (subst h; dj))
      · split at hc
        · cases hc
          simp [bM.map,bo] at he
        · cases hc
          simp only [bM.map,bo] at he
          obtain ⟨v,h1,h2⟩:=nq (P:=P) r1 r2 he t x y
          exact pz.of h1 h2
    · cases hc
  · -- unOp
    ab op t x fy
    simp only [Option.map_eq_some_iff] at hc
    obtain ⟨y,e1,rfl⟩:=hc
    simp only [bM.map,bo] at he
    obtain ⟨v,h1,h2⟩:=Hq (P:=P) (bp hp e1) he
    simp only [fy]
    exact pz.of h1 h2
  · -- convert
    ab s dt x fy
    split at hc
    · ab ck y e1 e2
      cases hc
      have r:=bp hp e2
      simp only [bM.map,bo] at he
      simp only [fy]
      unfold Lw at e1
      generalize a.eval x=u at r ⊢
      generalize σ.ev y=e at r he
      split at he
      · cases he; cases r
        ab k k' m
        refine pz.of (v:=.int k (k.wrap m)) ?_ (.int _ _)
        split at e1<;>(try split at e1)<;>cases e1
        ab h1 h2
        simp [convert,run_underlying h1,run_underlying h2,Conv.intToInt]
      · cases he; cases r
        ab k' m
        refine pz.of (v:=.float .f64 (FloatKind.f64.nearest m)) ?_ (.float _ _)
        split at e1<;>(try split at e1)<;>cases e1
        ab h1 h2
        simp [convert,run_underlying h1,run_underlying h2,Conv.intToFloat]
      · cases he; cases r
        ab s0 hs0
        refine pz.of (v:=.string ⟨s0.toArray⟩) ?_ (.str _ hs0)
        split at e1<;>(try split at e1)<;>cases e1
        ab h1 h2
        simp [convert,run_underlying h1,run_underlying h2]
      · simp only [Option.map_eq_some_iff] at he
        obtain ⟨n0,he1,rfl⟩:=he
        cases r
        ab k' m
        refine pz.of (v:=.int k' n0) ?_ (.int _ _)
        split at e1<;>(try split at e1)<;>cases e1
        ab h1 h2
        exact B5 w s dt .f64 k' m n0 (by rw [h1]; rfl) h2 he1
      · cases he; cases r
        ab m
        refine pz.of (v:=.float .f64 m) ?_ (.float _ _)
        split at e1<;>(try split at e1)<;>cases e1
        ab h1 h2
        simp [convert,run_underlying h1,run_underlying h2,Conv.floatToFloat]
      · cases he
    · cases hc
  · -- sliceToArrayPointer
    ab t x fy
    split at hc
    · ab n el y h1 e1
      cases hc
      have r:=bp hp e1
      simp only [bM.map,bo] at he
      simp only [fy]
      generalize a.eval x=u at r ⊢
      generalize σ.ev y=e at r he
      split at he
      · split at he
        · ab hn
          cases he
          cases r with
          | r7 hl hv Gq dY ha=>
            ab ac7 p0 a0
            refine pz.of (v:=.pointer (some a0)) ?_ (.ptr hl hv fun e=>?_)
            · simp only [Instr.arrayAt,Sem.run_bind,run_underlying h1,Result.andThen]
              rw [if_neg (by omega)]; rfl
            · rcases ha e with h0 | h0
              · omega
              · exact h0
        · cases he
      · cases he
    · cases hc
  · -- makeInterface
    ab t x fy
    split at hc
    · cases hc
    · ab hni ht
      simp only [Option.map_eq_some_iff] at hc
      obtain ⟨y,e1,rfl⟩:=hc
      simp only [bM.map,bo,Option.some.injEq] at he
      subst he
      simp only [fy]
      ab td
      refine pz.of (v:=.iface t (a.eval x)) ?_ (.iface (bp hp e1))
      simp only [Instr.makeInterface,Sem.run_bind,run_underlying ht,Result.andThen]
      rfl
    · cases hc
  · -- makeFunc
    ab fn x y fy
    split at hc
    · ab xs ys e1 e2
      cases hc
      simp only [bM.map,bo,Option.some.injEq] at he
      subst he
      simp only [fy]
      have r1:=kl hp e1
      have r2:=kl hp e2
      refine pz.of (v:=.func fn (x.map a.eval) (y.map a.eval)) rfl ?_
      refine .func (by have:=r1.length; simpa using this) (by have:=r2.length; simpa using this) (fun i d hd=>?_) (fun i d hd=>?_)
      · obtain ⟨v,g1,g2⟩:=r1.get i d hd
        have:(x.map a.eval)[i]? =some v:=by simpa using g1
        simpa [Array.getD_eq_getD_getElem?,this] using g2
      · obtain ⟨v,g1,g2⟩:=r2.get i d hd
        have:(y.map a.eval)[i]? =some v:=by simpa using g1
        simpa [Array.getD_eq_getD_getElem?,this] using g2
    · cases hc
  · -- slice
    ab t x lo hi mx fy
    split at hc
    · ab x' lo' kD e1 e2 e3 e4
      have hmx:mx=none:=by
        cases mx with
        | none=>rfl
        | some z=>simp only [DN,Option.map_eq_some_iff,reduceCtorEq,and_false,exists_false] at e4
      subst hmx
      have rl:=qW hp e2
      have rh:=qW hp e3
      have r:=bp hp e1
      simp only [fy]
      split at hc
      · ab ht
        cases hc
        simp only [bM.map,bo,Option.map_none] at he
        obtain ⟨v,h1,h2⟩:=lG (k:=.str) (t:=t) ht r rl rh he
        exact pz.of h1 h2
      · ab el ht
        simp only [Option.map_eq_some_iff] at hc
        obtain ⟨sz,hs,rfl⟩:=hc
        simp only [bM.map,bo,Option.map_none] at he
        obtain ⟨v,h1,h2⟩:=lG (k:=.sl sz) (t:=t) ⟨el,ht,hs⟩ r rl rh he
        exact pz.of h1 h2
      · ab m el ht
        split at hc
        · ab hs
          cases hc
          simp only [bM.map,bo,Option.map_none] at he
          obtain ⟨v,h1,h2⟩:=lG (k:=.arr m) (t:=t) ⟨el,ht,hs⟩ r rl rh he
          exact pz.of h1 h2
        · cases hc
      · cases hc
    · cases hc
  · -- fieldAddr
    ab s x f fy
    split at hc
    · ab fs y e1 e2
      split at hc
      · ab fd e3
        split at hc
        · ab m e4
          split at hc
          · ab h0
            cases hc
            have hs:P.underlying s=some (.struct fs):=by
              unfold fieldsOf at e1
              split at e1<;>cases e1
              assumption
            have r:=bp hp e2
            simp only [bM.map,bo] at he
            simp only [fy]
            have key:∀ad:Addr,(Instr.fieldAt s (.pointer (some ad)) f).run P w=.ok (.pointer (some (ad.add fd.offset))) w:=fun ad=>by
              simp [Instr.fieldAt,run_underlying hs,e3,Instr.sureAddr,vL e4 h0]
            generalize hu:a.eval x=u at r
            generalize σ.ev y=e at r he
            split at he
            · cases he
              cases r with
              | ptr hl hv ha=>exact pz.of (key _) (.ptr hl hv fun ev=>by rw [ha ev,dQ,Nat.add_assoc])
            · cases he
              cases r with
              | c8 f hb kR hr=>
                refine pz.of (key _) ?_
                rw [dQ,Nat.add_assoc]
                exact .c8 f hb kR hr
            · cases he
              cases r with
              | eM hl hv ha=>exact pz.of (key _) (.eM hl hv fun ev=>by rw [ha ev,dQ,Nat.add_assoc])
            · cases he
          · cases hc
        · cases hc
      · cases hc
    · cases hc
  · -- field
    ab s x f fy
    split at hc
    · ab fs y e1 e2
      split at hc
      · ab fd e3
        simp only [Option.map_eq_some_iff] at hc
        obtain ⟨k,e4,rfl⟩:=hc
        have hs:P.underlying s=some (.struct fs):=by
          unfold fieldsOf at e1
          split at e1<;>cases e1
          assumption
        have r:=bp hp e2
        simp only [bM.map,bo] at he
        simp only [fy]
        generalize hu:a.eval x=u at r
        generalize σ.ev y=e at r he
        split at he
        · cases r with
          | agg hs' hr=>
          obtain ⟨v,h1,h2⟩:=tC (P:=P) (bP.gV hs' hr) e4 he
          exact pz.of (by simp [Instr.field,run_underlying hs,e3,asAgg,h1]) h2
        · cases he
      · cases hc
    · cases hc
  · -- indexAddr
    ab t x i fy
    split at hc
    · ab x' i' e1 e2
      have r1:=bp hp e1
      have r2:=bp hp e2
      simp only [fy]
      split at hc
      · ab m el ht
        simp only [Option.map_eq_some_iff] at hc
        obtain ⟨sz,hs,rfl⟩:=hc
        simp only [bM.map,bo] at he
        generalize a.eval x=u at r1
        generalize a.eval i=v at r2
        generalize σ.ev x'=ex at r1 he
        generalize σ.ev i'=ei at r2 he
        have key:∀(ad:Addr) (k:IntKind) (z:Int),0≤z∧z<(m:Int)→(Instr.indexAt t (.pointer (some ad)) (.int k z)).run P w=.ok (.pointer (some (ad.add (z.toNat*sz)))) w:=fun ad k z hz=>by
          simp [Instr.indexAt,asIntOf,run_underlying ht,Instr.sureAddr,hz,run_sizeOf hs]
        split at he
        · split at he
          · ab hb
            cases he; cases r2
            cases r1 with
            | ptr hl hv ha=>exact pz.of (key _ _ _ hb) (.ptr hl hv fun ev=>by rw [ha ev,dQ,Nat.add_assoc])
          · cases he
        · split at he
          · ab hb
            cases he; cases r2
            cases r1 with
            | c8 f Ru kR hr=>
              refine pz.of (key _ _ _ hb) ?_
              rw [dQ,Nat.add_assoc]
              exact .c8 f Ru kR hr
          · cases he
        · split at he
          · ab hb
            cases he; cases r2
            cases r1 with
            | eM hl hv ha=>exact pz.of (key _ _ _ hb) (.eM hl hv fun ev=>by rw [ha ev,dQ,Nat.add_assoc])
          · cases he
        · cases he
      · ab el ht
        split at hc
        case h_2=>cases hc
        ab sz hs
        split at hc
        case isFalse=>cases hc
        ab h_
        cases hc
        simp only [bM.map,bo] at he
        generalize a.eval x=u at r1
        generalize a.eval i=v at r2
        generalize σ.ev x'=ex at r1 he
        generalize σ.ev i'=ei at r2 he
        have key:∀(ad:Addr) (len cap:Nat) (k:IntKind) (z:Int),0≤z∧z<(len:Int)→(Instr.indexAt t (.slice (some ad) len cap) (.int k z)).run P w=.ok (.pointer (some (ad.add (z.toNat*sz)))) w:=fun ad len cap k z hz=>by
          simp [Instr.indexAt,asIntOf,run_underlying ht,Instr.sureAddr,hz,run_sizeOf hs]
        split at he
        · split at he
          · ab xs k0 z h0
            split at he
            · ab y hy
              split at he
              · ab hl
                cases he; cases r2
                have hZ:z.toNat<xs.length:=(List.getElem?_eq_some_iff.1 hy).1
                cases r1 with
                | slnil=>simp at hy
                | sl f hn dY qP kR hr=>
                  ab bb oo szz cap
                  have ad0:szz=sz:=by rw [←qP y (List.mem_of_getElem? hy),hl]
                  subst ad0
                  refine pz.of (key _ _ _ _ _ ⟨h0,by omega⟩) ?_
                  rw [dQ]
                  · have h1:0<y.length:=by omega
                    have adE:=(kR _ y 0 y[0] hy (by simp [h1])).1
                    have:=cd.c8 (κ:=κ) (w:=w) (b:=bb) (base:=oo+z.toNat*szz) (off:=0) (cells:=y) (f z.toNat) adE (fun j d hj=>(kR _ y j d hy hj).2) (fun j d hj=>hr _ y j d hy hj)
                    simpa using this
              · cases he
            · cases he
          · cases he
        · split at he
          · ab hb
            obtain ⟨b1,b2,b3⟩:=hb
            cases he; cases r2
            cases r1 with
            | r7 hl hv hn dY ha=>
              refine pz.of (key _ _ _ _ _ ⟨b1,b2⟩) (.ptr hl hv fun ev=>?_)
              rcases ha ev with h0 | h0
              · omega
              · subst b3
                rw [h0,dQ,Nat.mul_one,Nat.add_assoc]
          · cases he
        · cases he
      · cases hc
    · cases hc
  · -- index
    ab t x i fy
    split at hc
    · ab x' i' e1 e2
      have r1:=bp hp e1
      have r2:=bp hp e2
      simp only [fy]
      split at hc
      · ab m el ht
        split at hc
        · ab sz k e3 e4
          cases hc
          simp only [bM.map,bo] at he
          generalize a.eval x=u at r1
          generalize a.eval i=v at r2
          generalize σ.ev x'=ex at r1 he
          generalize σ.ev i'=ei at r2 he
          split at he
          · split at he
            · ab hb
              cases r2
              cases r1 with
              | agg hs' hr=>
              obtain ⟨v,h1,h2⟩:=tC (P:=P) (bP.gV hs' hr) e4 he
              refine pz.of ?_ h2
              simp [Instr.index,asIntOf,run_underlying ht,hb,run_sizeOf e3,h1]
            · cases he
          · cases he
        · cases hc
      · ab ht
        cases hc
        simp only [bM.map,bo] at he
        generalize a.eval x=u at r1
        generalize a.eval i=v at r2
        generalize σ.ev x'=ex at r1 he
        generalize σ.ev i'=ei at r2 he
        split at he
        · ab s0 k0 i0
          split at he
          · ab h0
            split at he
            · ab b hb
              cases he; cases r1; cases r2
              refine pz.of (v:=.int .u8 (b.toNat:Int)) ?_ (.int _ _)
              have hZ:i0.toNat<s0.length:=(List.getElem?_eq_some_iff.1 hb).1
              have Ru:(⟨s0.toArray⟩:ByteArray)[i0.toNat]? =some b:=by
                rw [ByteArray.getElem?_lt' _ _ (by rw [pg]; exact hZ)]
                have:=(List.getElem?_eq_some_iff.1 hb).2
                simp [ByteArray.getElem_eq_getElem_data,this]
              simp [Instr.index,asIntOf,run_underlying ht,h0,Ru]
            · cases he
          · cases he
        · cases he
      · cases hc
    · cases hc
  · -- extract
    ab x i fy
    simp only [Option.map_eq_some_iff] at hc
    obtain ⟨y,e1,rfl⟩:=hc
    have r:=bp hp e1
    simp only [bM.map,bo] at he
    simp only [fy]
    generalize a.eval x=u at r
    generalize σ.ev y=e at r he
    split at he
    · cases r with
      | tuple hs hr=>
      obtain ⟨v,h1,h2⟩:=HA (bP.gV hs hr) i d he
      exact pz.of (by simp [Instr.extract,h1]) h2
    · cases he
  · simp only [Option.map_eq_some_iff] at hc; obtain ⟨y,e1,rfl⟩:=hc; simp [bM.map,bo] at he
  · -- call
    ab c fy
    split at hc
    · split at hc
      · (repeat' split at hc)<;>(cases hc; simp [bM.map,bo] at he)
      · cases hc
    · ab b j4
      have Bk:∀vs:Array Value,c.args.map a.eval=vs→(execOp a.eval o).run P w=(builtin b c.argTypes o.type (c.args.map fun x=>match x with | .const _=>true | _=>false) vs).run P w:=fun vs Ys=>by
        simp only [execOp,fy,Sem.run_bind,resolve,j4,Ys]
        rfl
      unfold execOp at Bk
      split at hc
      bf first
        | (cases hc; done)
        | ((repeat' split at hc)<;>first | (cases hc; done) | (cases hc; simp [bM.map,bo] at he; done) | skip)
      bf
        ab x y e2
        cases hc
        obtain ⟨v,u,h1,r1,r2⟩:=qX hp e2
        have h2:=Bk _ h1
        simp only [bM.map,bo] at he
        generalize σ.ev x=ex at r1 he
        generalize σ.ev y=ey at r2 he
        split at he
        · cases he; cases r1; cases r2
          refine ⟨_,h2.trans ?_,.int _ _⟩
          simp [builtin,Builtin.min_,Builtin.max_,Builtin.min2,Builtin.max2]
        · cases he
    · cases hc
  · (repeat' split at hc)<;>first | (cases hc; done) | (simp only [Option.map_eq_some_iff] at hc; obtain ⟨y,e1,rfl⟩:=hc; simp [bM.map,bo] at he)
  · (repeat' split at hc)<;>first | (cases hc; done) | (simp only [Option.map_eq_some_iff] at hc; obtain ⟨y,e1,rfl⟩:=hc; simp [bM.map,bo] at he)
  · (repeat' split at hc)<;>first | (cases hc; done) | (simp only [Option.map_eq_some_iff] at hc; obtain ⟨y,e1,rfl⟩:=hc; simp [bM.map,bo] at he)
  · (repeat' split at hc)<;>first | (cases hc; done) | (cases hc; simp [bM.map,bo] at he)
  · cases hc
end Go.Proofs.YtpklkpkfgmoghaaGreatDoor.Zz
