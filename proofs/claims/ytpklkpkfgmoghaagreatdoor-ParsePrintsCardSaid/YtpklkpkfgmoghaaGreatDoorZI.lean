/- The instructions that reckon. -/
import Derived.Test.YtpklkpkfgmoghaaGreatDoorZE
import Derived.Laws.FloatArith
import Derived.Laws.Slices
import Derived.ChangeKeysEq
import Derived.Laws.StructEq
set_option linter.unnecessarySimpa false
set_option linter.unusedVariables false
set_option linter.unusedSimpArgs false
namespace Go.Proofs.YtpklkpkfgmoghaaGreatDoor.Zz
variable {P:Program} {κ:b9} {w:World}
def pc (P:Program) (κ:b9) (w:World) (s:Sem Next) (d:D):Prop:=∃v,s.run P w=.ok (.value v) w∧bX κ w v d
theorem pc.of {s:Sem Value} {v:Value} {d:D} (hs:s.run P w=.ok v w) (r:bX κ w v d):pc P κ w (do let x ←s; pure (Next.value x)) d:=
  ⟨v,by simp only [Sem.run_bind,hs,Result.andThen,Sem.run_pure],r⟩
theorem C2 {op:BinOp} {k:IntKind} {x y:Int} {d:D} (e:dP op k x y=some d) (h1:op≠.shl) (h2:op≠.shr) (t:TypeId):
    ∃v,(binOp op t (.int k x) (.int k y)).run P w=.ok v w∧bX κ w v d:=by
  cases op<;>simp only [dP,Option.some.injEq,reduceCtorEq] at e
  all_goals first
    | (subst e; exact ⟨_,by simp only [binOp_add,binOp_sub,binOp_mul,binOp_and,binOp_or,binOp_xor,binOp_andNot,binOp_eql,binOp_neq,binOp_lss,binOp_leq,binOp_gtr,binOp_geq]; rfl,by constructor⟩)
    | (split at e
       · cases e
       · rename_i hy; cases e; exact ⟨_,by simp [binOp,Op.intDiv,hy]; rfl,by constructor⟩)
    | (exact absurd rfl h1)
    | (exact absurd rfl h2)
theorem wP {op:BinOp} {k k':IntKind} {x y:Int} {d:D} (e:xQ op k x y=some d) (t:TypeId):
    ∃v,(binOp op t (.int k x) (.int k' y)).run P w=.ok v w∧bX κ w v d:=by
  unfold xQ at e
  split at e
  · cases e
  · rename_i hy
    cases op<;>simp only [Option.some.injEq,reduceCtorEq] at e
    all_goals (subst e; exact ⟨_,by simp [binOp,Op.shift,hy]; rfl,by constructor⟩)
theorem toList_mk (l:List UInt8):(⟨l.toArray⟩:ByteArray).toList=l:=by simp
theorem size_mk (l:List UInt8):(⟨l.toArray⟩:ByteArray).size=l.length:=by simp [ByteArray.size]
theorem Lk (a b:List UInt8):(⟨a.toArray⟩++⟨b.toArray⟩:ByteArray)=⟨(a++b).toArray⟩:=by
  apply ByteArray.ext
  simp
theorem Eb {op:BinOp} {x y:List UInt8} {d:D} (e:gX op x y=some d) (t:TypeId):
    ∃v,(binOp op t (.string ⟨x.toArray⟩) (.string ⟨y.toArray⟩)).run P w=.ok v w∧bX κ w v d:=by
  cases op<;>simp only [gX,Option.some.injEq,reduceCtorEq] at e
  all_goals first
    | (subst e; exact ⟨_,by simp only [binOp,Op.stringOp,toList_mk]; rfl,by constructor⟩)
    | skip
  split at e
  · rename_i hl
    cases e
    refine ⟨.string ⟨(x++y).toArray⟩,?_,.str _ (by simpa using hl)⟩
    have h1:¬(9223372036854775807<(x.length:Int)+(y.length:Int)):=by omega
    simp only [binOp,Op.stringOp,size_mk,IntKind.max_i64,Lk]
    rw [if_neg (by push_cast; omega)]
    rfl
  · cases e
theorem b8 {op:BinOp} {t:TypeId} {x y:Operand} {u v:Value} (hu:(∀c,u≠.agg c)∧u≠.nilIface):eqGuard op t x y u v=pure ():=by
  unfold eqGuard
  cases op<;>try rfl
  all_goals
    simp only [Bool.not_true,Bool.false_eq_true,if_false,Bool.not_eq_true']
    split
    · exact absurd rfl hu.2
    · exact absurd rfl (hu.1 _)
    · rfl
theorem Cq {op:BinOp} {k:FloatKind} {x y:Nat} {d:D} (e:jj op k x y=some d) (t:TypeId):
    ∃v,(binOp op t (.float k x) (.float k y)).run P w=.ok v w∧bX κ w v d:=by
  cases op<;>simp only [jj,Option.some.injEq,reduceCtorEq] at e
  all_goals (subst e; exact ⟨_,by simp only [binOp,Op.floatCmp,ne_eq,not_true_eq_false,if_false]; rfl,by constructor⟩)
theorem mY {op:BinOp} {u v:Value} {x y d:D} (hu:bX κ w u x) (hv:bX κ w v y) (e:jJ op x y=some d) (t:TypeId) (p q:Operand):
    ∃r,(do eqGuard op t p q u v; binOp op t u v).run P w=.ok r w∧bX κ w r d:=by
  unfold jJ at e
  split at e
  · rename_i k x k' y
    cases hu; cases hv
    rw [b8 ⟨fun _=>by simp,by simp⟩]
    simp only [pure_bind]
    split at e
    · exact wP e t
    · exact wP e t
    · rename_i h1 h2
      split at e
      · rename_i hk
        subst hk
        exact C2 e h1 h2 t
      · cases e
  · cases hu; cases hv
    rw [b8 ⟨fun _=>by simp,by simp⟩]
    simp only [pure_bind]
    exact Eb e t
  · cases hu; cases hv
    rw [b8 ⟨fun _=>by simp,by simp⟩]
    simp only [pure_bind]
    split at e
    · rename_i hk
      subst hk
      exact Cq e t
    · cases e
  · cases e
theorem G0 {op:UnOp} {u:Value} {x d:D} (hu:bX κ w u x) (e:lX op x=some d):∃r,(Op.unary op u).run P w=.ok r w∧bX κ w r d:=by
  unfold lX at e
  split at e
  · cases hu
    cases op<;>simp only [Option.some.injEq,reduceCtorEq] at e
    all_goals (subst e; exact ⟨_,rfl,by constructor⟩)
  · cases hu
    cases op<;>simp only [Option.some.injEq,reduceCtorEq] at e
    all_goals (subst e; exact ⟨_,rfl,by constructor⟩)
  · cases hu
    cases op<;>simp only [Option.some.injEq,reduceCtorEq] at e
    all_goals (subst e; exact ⟨_,rfl,by constructor⟩)
  · cases e
theorem dG (b o k:Nat):(⟨b,o,none⟩:Addr).add k=⟨b,o+k,none⟩:=by
  unfold Addr.add
  split<;>simp_all
theorem tb {cs:Array Value} {ds:List D} (h:bJ κ w cs.toList ds) {t:TypeId} {off:Nat} {k:Option Nat} {d:D} (hs:shapeOf P t=some k) (e:gn ds off k=some d):
    ∃v,(part t cs off).run P w=.ok v w∧bX κ w v d:=by
  cases k with
  | none=>
    obtain ⟨h1,_⟩:=nS hs w
    simp only [gn] at e
    obtain ⟨v,hv,r⟩:=h.get off d e
    have Rt:cs[off]? =some v:=by simpa using hv
    exact ⟨v,by simp [part,h1,Rt],r⟩
  | some n=>
    obtain ⟨h1,h2⟩:=nT hs w
    simp only [gn] at e
    split at e
    · rename_i hl
      cases e
      refine ⟨.agg (cs.extract off (off+n)),by simp [part,h1,run_sizeOf h2],bJ.agg ?_⟩
      refine bJ.nH ?_ fun i d hd=>?_
      · have:=h.length
        simp at this ⊢
        omega
      · rw [List.getElem?_take] at hd
        split at hd
        · rename_i hi
          rw [List.getElem?_drop] at hd
          obtain ⟨v,hv,r⟩:=h.get _ _ hd
          refine ⟨v,?_,r⟩
          have Rt:cs[off+i]? =some v:=by simpa using hv
          have gY:=(Array.getElem?_eq_some_iff.1 Rt).1
          simp only [Array.toList_extract,List.extract_eq_take_drop]
          rw [List.getElem?_take,if_pos (by omega),List.getElem?_drop]
          exact hv
        · cases hd
    · cases e
end Go.Proofs.YtpklkpkfgmoghaaGreatDoor.Zz
namespace Go.Proofs.YtpklkpkfgmoghaaGreatDoor.Zz
variable {P:Program} {κ:b9} {w:World}
inductive Am (κ:b9) (w:World):Option Value→Option D→Prop
 | none:Am κ w .none .none
 | some {v:Value} {d:D} (h:bX κ w v d):Am κ w (.some v) (.some d)
theorem pQ {v:Value} {d:D} {i:Int} (r:bX κ w v d) (e:nA d=some i):∃k,v=.int k i:=by
 unfold nA at e
 split at e
 ·cases e; cases r; exact ⟨_,rfl⟩
 ·cases e
theorem j7 {n cap:Nat} (hc:n≤cap) (isS:Bool) {lo hi:Option Value} {Ta S_:Option D} (rl:Am κ w lo Ta) (rh:Am κ w hi S_) {b:Nat×Nat} (e:bounds n Ta S_=some b):
  (Instr.sliceBounds isS n cap lo hi none).run P w=.ok (b.1,b.2,cap) w∧b.1≤b.2∧b.2≤n:=by
 unfold bounds at e
 split at e
 ·rename_i l u h1 h2
  split at e
  ·rename_i h3
   cases e
   obtain ⟨a1,a2,a3⟩:=h3
   have hu:∀k code,(Instr.sliceBound (.int k u) cap code).run P w=.ok u.toNat w:=fun k code=>run_sliceBound w k u cap code (by omega) (by omega)
   have hl:∀k code,(Instr.sliceBound (.int k l) u.toNat code).run P w=.ok l.toNat w:=fun k code=>run_sliceBound w k l u.toNat code (by omega) (by omega)
   refine ⟨?_,by simp; omega,by simp; omega⟩
   cases rl with
   | none=>
    simp at h1
    subst h1
    cases rh with
    | none=>
     simp at h2
     subst h2
     simp [Instr.sliceBounds]
    | some r=>
     obtain ⟨k,rfl⟩:=pQ r h2
     simp [Instr.sliceBounds,hu]
   | some r=>
    obtain ⟨k,rfl⟩:=pQ r h1
    cases rh with
    | none=>
     simp at h2
     subst h2
     have:=hl k .sliceB
     simp at this
     simp [Instr.sliceBounds,this]
    | some r'=>
     obtain ⟨k',rfl⟩:=pQ r' h2
     simp [Instr.sliceBounds,hu,hl]
  ·cases e
 ·cases e
theorem Ge (s:List UInt8) (l u:Nat):(⟨s.toArray⟩:ByteArray).extract l u=⟨((s.drop l).take (u - l)).toArray⟩:=by
 apply ByteArray.ext
 simp [List.extract_eq_take_drop]
theorem nW {t e:TypeId} {sz:Nat} (ht:P.underlying t=some (.slice e)) (hs:bO P e=some sz) {lo hi:Option Value} {ba:Option Addr} {len cap l u:Nat} (hc:len≤cap)
  (hb:(Instr.sliceBounds true len cap lo hi none).run P w=.ok (l,u,cap) w):
  (Instr.sliceAt t (.slice ba len cap) lo hi none).run P w=.ok (.slice (if cap=l then ba else ba.map (·.add (l*sz))) (u - l) (cap - l)) w:=by
 simp [Instr.sliceAt,run_underlying ht,Instr.slice,hb,run_sizeOf hs]
theorem lz {k:SK} {t:TypeId} (hk:match k with
   | .str=>P.underlying t=some .string
   | .sl sz=>∃e,P.underlying t=some (.slice e)∧bO P e=some sz
   | .arr n=>∃e,P.underlying t=some (.array n e)∧bO P e=some 1)
  {u:Value} {x d:D} {lo hi:Option Value} {Ta S_:Option D} (hu:bX κ w u x) (rl:Am κ w lo Ta) (rh:Am κ w hi S_) (e:ij k x Ta S_ none=some d):
  ∃v,(Instr.sliceAt t u lo hi none).run P w=.ok v w∧bX κ w v d:=by
 unfold ij at e
 simp only at e
 split at e
 ·-- a string
  rename_i s
  simp only [Option.map_eq_some_iff] at e
  obtain ⟨b,eb,rfl⟩:=e
  cases hu with
  | str _ hs=>
  obtain ⟨hb,h1,h2⟩:=j7 (P:=P) (κ:=κ) (w:=w) (Nat.le_refl s.length) false rl rh eb
  refine ⟨.string ⟨((s.drop b.1).take (b.2 - b.1)).toArray⟩,?_,.str _ (by simp; omega)⟩
  simp only at hk
  simp [Instr.sliceAt,run_underlying hk,Instr.slice,size_mk,hb,Ge]
 ·-- plain elements
  rename_i sz xs
  obtain ⟨el,ht,hs⟩:=hk
  split at e
  ·rename_i vH
   simp only [Option.map_eq_some_iff] at e
   obtain ⟨b,eb,rfl⟩:=e
   cases hu with
   | slnil hb0=>
    rename_i ba cap
    obtain ⟨hb,h1,h2⟩:=j7 (P:=P) (κ:=κ) (w:=w) (Nat.zero_le cap) true rl rh eb
    have Vc:b.1=0:=by simp at h2; omega
    have xr:b.2=0:=by simpa using h2
    rw [Vc,xr] at hb ⊢
    refine ⟨_,nW ht hs (Nat.zero_le cap) hb,?_⟩
    simp only [Nat.zero_mul,Nat.sub_zero,Nat.sub_self,List.drop_zero,List.take_zero]
    refine .slnil fun e=>?_
    split at e
    ·exact hb0 e
    ·simp at e; exact hb0 e
   | sl f hn dO qC hc hr=>
    rename_i bb o gM cap
    obtain ⟨hb,h1,h2⟩:=j7 (P:=P) (κ:=κ) (w:=w) dO true rl rh eb
    have Rs:=nW (ba:=some ⟨bb,o,none⟩) ht hs dO hb
    have hlen:((xs.drop b.1).take (b.2 - b.1)).length=b.2 - b.1:=by simp; omega
    by_cases hx:b.1=b.2
    ·have jG:(xs.drop b.1).take (b.2 - b.1)=[]:=by simp [hx]
     rw [jG]
     refine ⟨_,Rs,?_⟩
     have e0:b.2 - b.1=([]:List (List D)).length:=by simp [hx]
     split
     ·exact .D8 (sz:=0) e0 (fun _ _=>undef) (by simp) (by simp) (by simp) (by simp) (by simp)
     ·simp only [Option.map_some,dG]
      exact .D8 (sz:=0) e0 (fun _ _=>undef) (by simp) (by simp) (by simp) (by simp) (by simp)
    ·have K7:¬cap=b.1:=by omega
     rw [if_neg K7] at Rs
     simp only [Option.map_some,dG] at Rs
     have iw:xs≠[]:=by intro h; subst h; simp at h2; omega
     obtain ⟨y,hy⟩:=List.exists_mem_of_ne_nil xs iw
     have abU:gM=sz:=by rw [←qC y hy,vH y hy]
     subst abU
     refine ⟨_,Rs,?_⟩
     refine .D8 (sz:=gM) (cap:=cap - b.1) hlen.symm (fun i j=>f (b.1+i) j) (by rw [hlen]; omega) (by rw [hlen]; omega) (fun z hz=>vH z (List.mem_of_mem_drop (List.mem_of_mem_take hz))) (fun i z j q hi hj=>?_) (fun i z j q hi hj=>?_)
     ·rw [List.getElem?_take] at hi
      split at hi
      ·rw [List.getElem?_drop] at hi
       have:=hc _ z j q hi hj
       rw [show o+b.1*gM+i*gM+j=o+(b.1+i)*gM+j by rw [Nat.add_mul]; omega]
       exact this
      ·cases hi
     ·rw [List.getElem?_take] at hi
      split at hi
      ·rw [List.getElem?_drop] at hi
       exact hr _ z j q hi hj
      ·cases hi
  ·cases e
 ·-- an array's cells
  rename_i n id aP off
  obtain ⟨el,ht,hs⟩:=hk
  split at e
  ·rename_i uF
   obtain ⟨uF,hn⟩:=uF
   simp only [Option.map_eq_some_iff] at e
   obtain ⟨b,eb,rfl⟩:=e
   cases hu with
   | ptr hl hv ha=>
    rename_i p ad
    subst uF
    obtain ⟨hb,h1,h2⟩:=j7 (P:=P) (κ:=κ) (w:=w) (Nat.le_refl n) false rl rh eb
    refine ⟨.slice (some (if n=b.1 then ad else ad.add (b.1*1))) (b.2 - b.1) (n - b.1),?_,?_⟩
    ·simp [Instr.sliceAt,run_underlying ht,Instr.sureAddr,hb,run_sizeOf hs]
    ·refine .rL hl hv (by omega) (by omega) fun ev=>?_
     split
     ·exact .inl (by omega)
     ·rw [ha ev,dG]
      exact .inr (by simp [Nat.add_assoc])
  ·cases e
 ·cases e
theorem wQ {sz r aP off len:Nat} {t el:TypeId} (ht:P.underlying t=some (.slice el)) (hs:bO P el=some sz) {u:Value} {lo hi:Option Value} {Ta S_:Option D}
  (hu:bX κ w u (.row r aP off len)) (rl:Am κ w lo Ta) (rh:Am κ w hi S_) {b:Nat×Nat} (eb:bounds len Ta S_=some b) (mI:∀p,κ.loc r=some p→p.sz=sz):
  ∃v,(Instr.sliceAt t u lo hi none).run P w=.ok v w∧bX κ w v (.row r aP (off+b.1) (b.2 - b.1)):=by
 cases hu with
 | row hl hv hn dO ha ho=>
  rename_i cap p ad
  obtain ⟨hb,h1,h2⟩:=j7 (P:=P) (κ:=κ) (w:=w) dO true rl rh eb
  have Rs:=nW (ba:=some ad) ht hs dO hb
  refine ⟨_,Rs,?_⟩
  split
  ·rename_i K7
   exact .row hl hv (by omega) (by omega) (fun _=>.inl (by omega)) fun _ _ _=>.inl (by omega)
  ·rename_i K7
   simp only [Option.map_some]
   have hsp:=mI p hl
   refine .row hl hv (by omega) (by omega) (fun ev=>?_) fun e he ev=>?_
   ·rcases ha ev with h0 | ⟨h0,h3⟩
    ·exact .inl (by omega)
    ·refine .inr ⟨?_,by omega⟩
     rw [h0,dG,hsp,Nat.add_mul]
     simp [Nat.add_assoc]
   ·rcases ho e he ev with h0 | ⟨h0,h3⟩
    ·exact .inl (by omega)
    ·refine .inr ⟨?_,by omega⟩
     rw [h0,dG,(p.kO e he).2,hsp,Nat.add_mul]
end Go.Proofs.YtpklkpkfgmoghaaGreatDoor.Zz
namespace Go.Proofs.YtpklkpkfgmoghaaGreatDoor.Zz
variable {P:Program} {κ:b9} {w:World}
def XR (P:Program) (t:TypeId):ET→Prop
 | .bool=>P.underlying t=some .bool
 | .ptr=>∃e,P.underlying t=some (.pointer e)
 | .slnil=>∃e,P.underlying t=some (.slice e)
 | .uE=>∃a b c,P.underlying t=some (.func a b c)
 | .iface=>∃ms,P.underlying t=some (.interface ms)
 | .array n .RT=>∃e k i,P.underlying t=some (.array n e)∧P.underlying e=some (.int k)∧P.eqGuardType P.depth t=false∧P.cellsOf e=1∧P.info? e=some i
 | _=>False
theorem M_ {t:TypeId} {e:ET} (h:Co P t=some e):XR P t e:=by
 unfold Co at h
 split at h
 case h_6=>
  rename_i n e he
  split at h
  ·rename_i k hk
   split at h
   ·rename_i hc
    cases h
    obtain ⟨i,hi⟩:=Option.isSome_iff_exists.1 hc.2.2
    exact ⟨e,k,i,he,hk,hc.1,hc.2.1,hi⟩
   ·cases h
  ·cases h
 all_goals (simp at h; try subst h; try simp [XR, *])
theorem e_ {t:TypeId} {u v:Value} {b:Bool} (h:∀d,(Op.equalIn (d+1) t u v).run P w=.ok b w) (hb:∀op,binOp op t u v=match op with | .eql=>(do pure (.bool (←Op.equal t u v))) | .neq=>(do pure (.bool (!(←Op.equal t u v)))) | op=>binOp op t u v)
  (neg:Bool) (p q:Operand) (hg:eqGuard (if neg then .neq else .eql) t p q u v=pure ()):
  (do eqGuard (if neg then .neq else .eql) t p q u v; binOp (if neg then .neq else .eql) t u v).run P w=.ok (.bool (if neg then !b else b)) w:=by
 have h':(Op.equal t u v).run P w=.ok b w:=h 9999
 rw [hg,pure_bind,hb]
 cases neg<;>simp [h']
theorem sJ {e:TypeId} {k:IntKind} {c1 c2:Array Value} (he:P.underlying e=some (.int k)):∀(as bs:List D) (off:Nat) (is:List Nat) (b:Bool),is=(List.range as.length).map (· +off)→as.length=bs.length→off+as.length=c1.size→off+as.length=c2.size→
  (∀(i:Nat) d,as[i]? =some d→bX κ w (c1.getD (i+off) (.tuple #[])) d)→(∀(i:Nat) d,bs[i]? =some d→bX κ w (c2.getD (i+off) (.tuple #[])) d)→vr as bs=some b→
  ∀d,(Op.eqItems (d+1) e 1 c1 c2 is).run P w=.ok b w
 | [],[],off,is,b,hi,_,_,_,_,_,h=>fun d=>by
  cases h
  simp at hi
  subst hi
  simp [Op.eqItems]
 | x::as,y::bs,off,is,b,hi,hl,l1,l2,r1,r2,h=>fun d=>by
  have hx:=r1 0 x rfl
  have hy:=r2 0 y rfl
  simp only [Nat.zero_add] at hx hy
  have h0:off<c1.size:=by simp at l1; omega
  have h0':off<c2.size:=by simp at l2; omega
  have his:is=off::(List.range as.length).map (· +(off+1)):=by
   rw [hi,List.length_cons,List.range_succ_eq_map,List.map_cons,List.map_map]
   congr 1
   ·omega
   ·apply List.map_congr_left; intro i _; simp; omega
  rw [his]
  cases x with
  | int k1 a=>
   cases y with
   | int k2 c=>
    simp only [vr] at h
    split at h
    ·rename_i hk
     subst hk
     have ga:c1[off]? =some (.int k1 a):=by
      rw [Array.getElem?_eq_getElem h0]
      have:c1.getD off (.tuple #[])=c1[off]:=by simp [Array.getD_eq_getD_getElem?,h0]
      rw [this] at hx
      generalize c1[off]=v at hx
      cases hx; rfl
     have gc:c2[off]? =some (.int k1 c):=by
      rw [Array.getElem?_eq_getElem h0']
      have:c2.getD off (.tuple #[])=c2[off]:=by simp [Array.getD_eq_getD_getElem?,h0']
      rw [this] at hy
      generalize c2[off]=v at hy
      cases hy; rfl
     have hp:P.plainKey e=true:=by simp [Program.plainKey,he]
     have p1:=run_part_plain (P:=P) w hp ga
     have p2:=run_part_plain (P:=P) w hp gc
     simp only [Op.eqItems,Nat.mul_one,Sem.run_bind,p1,p2,Result.andThen_ok,run_equalIn_int w d e k1 k a c he]
     split at h
     ·rename_i qz
      rw [qz]
      simp only [Bool.not_true,Bool.false_eq_true,if_false]
      exact sJ he as bs (off+1) _ b rfl (by simpa using hl) (by simp at l1; omega) (by simp at l2; omega)
       (fun i d hd=>by have:=r1 (i+1) d hd; rwa [show i+1+off=i+(off+1) by omega] at this)
       (fun i d hd=>by have:=r2 (i+1) d hd; rwa [show i+1+off=i+(off+1) by omega] at this) h d
     ·rename_i qz
      cases h
      have:(a==c)=false:=by simpa using qz
      rw [this]
      simp
    ·cases h
   | _=>cases h
  | _=>cases h
 | [],_::_,_,_,_,_,hl,_,_,_,_,_=>by simp at hl
 | _::_,[],_,_,_,_,hl,_,_,_,_,_=>by simp at hl
theorem Cn {n:Nat} {t:TypeId} (ht:XR P t (.array n .RT)) {c1 c2:Array Value} {a b:List D} {r:Bool} (hl:c1.size=n∧a.length=n) (hl2:c2.size=n∧b.length=n) (r1:∀(i:Nat) d,a[i]? =some d→bX κ w (c1.getD i (.tuple #[])) d) (r2:∀(i:Nat) d,b[i]? =some d→bX κ w (c2.getD i (.tuple #[])) d)
  (e:vr a b=some r) (neg:Bool) (p q:Operand):
  (do eqGuard (if neg then .neq else .eql) t p q (.agg c1) (.agg c2); binOp (if neg then .neq else .eql) t (.agg c1) (.agg c2)).run P w=.ok (.bool (if neg then !r else r)) w:=by
 obtain ⟨el,k,i,h1,h2,h3,h4,h5⟩:=ht
 have hE:(Op.equalIn 10000 t (.agg c1) (.agg c2)).run P w=.ok r w:=by
  rw [run_equalIn_array w 9999 c1 c2 h1 h5,h4]
  exact sJ h2 a b 0 _ r (by rw [hl.2]; simp) (by omega) (by omega) (by omega) (fun i d hd=>r1 i d hd) (fun i d hd=>r2 i d hd) e 9998
 cases neg<;>simp only [Bool.false_eq_true,if_false,if_true,Sem.run_bind,run_eqGuard_agg w _ t p q c1 c2 h3,Result.andThen_ok,run_eql_struct,run_neq_struct,hE]
theorem vq {et:ET} {t:TypeId} (ht:XR P t et) {u v:Value} {x y:D} {b:Bool} (hu:bX κ w u x) (hv:bX κ w v y) (e:iE et x y=some b) (neg:Bool) (p q:Operand)
  (hc:et=.iface→jl p=true∨jl q=true):
  (do eqGuard (if neg then .neq else .eql) t p q u v; binOp (if neg then .neq else .eql) t u v).run P w=.ok (.bool (if neg then !b else b)) w:=by
 unfold iE at e
 split at e
 case h_11=>
  split at e
  ·rename_i hl
   cases hu with
   | agg s1 r1=>
    cases hv with
    | agg s2 r2=>exact Cn ht (by omega) (by omega) r1 r2 e neg p q
  ·cases e
 all_goals cases e
 ·-- bools
  cases hu; cases hv
  refine e_ ?_ (fun op=>by cases op<;>rfl) neg p q (b8 ⟨fun _=>by simp,by simp⟩)
  simp only [XR] at ht
  intro d
  simp [Op.equalIn,run_underlying ht]
 ·cases hu; cases hv
  obtain ⟨el,ht⟩:=ht
  refine e_ ?_ (fun op=>by cases op<;>rfl) neg p q (b8 ⟨fun _=>by simp,by simp⟩)
  intro d
  simp [Op.equalIn,run_underlying ht]
 ·cases hu; cases hv
  obtain ⟨el,ht⟩:=ht
  refine e_ ?_ (fun op=>by cases op<;>rfl) neg p q (b8 ⟨fun _=>by simp,by simp⟩)
  intro d
  simp [Op.equalIn,run_underlying ht]
 ·cases hu; cases hv
  obtain ⟨el,ht⟩:=ht
  refine e_ ?_ (fun op=>by cases op<;>rfl) neg p q (b8 ⟨fun _=>by simp,by simp⟩)
  intro d
  simp [Op.equalIn,run_underlying ht]
 ·cases hu; cases hv
  obtain ⟨el,ht⟩:=ht
  refine e_ ?_ (fun op=>by cases op<;>rfl) neg p q (b8 ⟨fun _=>by simp,by simp⟩)
  intro d
  simp [Op.equalIn,run_underlying ht]
 ·cases hu; cases hv
  obtain ⟨a1,a2,a3,ht⟩:=ht
  refine e_ ?_ (fun op=>by cases op<;>rfl) neg p q (b8 ⟨fun _=>by simp,by simp⟩)
  intro d
  simp [Op.equalIn,run_underlying ht]
 ·cases hu; cases hv
  obtain ⟨a1,a2,a3,ht⟩:=ht
  refine e_ ?_ (fun op=>by cases op<;>rfl) neg p q (b8 ⟨fun _=>by simp,by simp⟩)
  intro d
  simp [Op.equalIn,run_underlying ht]
 ·cases hu; cases hv
  obtain ⟨ms,ht⟩:=ht
  have hg:eqGuard (if neg then .neq else .eql) t p q .nilIface .nilIface=pure ():=by
   rcases hc rfl with h | h
   ·cases p<;>simp [jl] at h
    cases neg<;>simp [eqGuard_nil_constL]
   ·cases q<;>simp [jl] at h
    cases neg<;>simp [eqGuard_nil_constR]
  refine e_ (b:=true) (fun d=>?_) (fun op=>by cases op<;>rfl) neg p q hg
  simp [Op.equalIn,run_underlying ht]
 ·cases hu; cases hv
  obtain ⟨ms,ht⟩:=ht
  refine e_ ?_ (fun op=>by cases op<;>rfl) neg p q (b8 ⟨fun _=>by simp,by simp⟩)
  intro d
  simp [Op.equalIn,run_underlying ht]
 ·cases hu; cases hv
  obtain ⟨ms,ht⟩:=ht
  refine e_ (b:=false) (fun d=>?_) (fun op=>by cases op<;>rfl) neg p q (by cases neg<;>simp [eqGuard])
  simp [Op.equalIn,run_underlying ht]
theorem mv (cs:List D) (off:Nat) (ds:List D):(setAt cs off ds).length=cs.length:=by
 induction ds generalizing cs off with
 | nil=>rfl
 | cons d ds ih=>simp [setAt,ih]
theorem oV (cs:List D) (off:Nat) (ds:List D) (i:Nat):(setAt cs off ds)[i]? =if off≤i∧i<off+ds.length∧i<cs.length then ds[i - off]? else cs[i]? :=by
 induction ds generalizing cs off with
 | nil=>
  simp only [setAt,List.length_nil]
  split
  ·omega
  ·rfl
 | cons d ds ih=>
  rw [setAt,ih]
  simp only [List.length_set,List.length_cons]
  by_cases h0:i=off
  ·subst h0
   by_cases hl:i<cs.length
   ·have c1:¬(i+1≤i∧i<i+1+ds.length∧i<cs.length):=by omega
    have c2:i≤i∧i<i+(ds.length+1)∧i<cs.length:=by omega
    rw [if_neg c1,if_pos c2]
    simp [hl]
   ·have c1:¬(i+1≤i∧i<i+1+ds.length∧i<cs.length):=by omega
    have c2:¬(i≤i∧i<i+(ds.length+1)∧i<cs.length):=by omega
    rw [if_neg c1,if_neg c2]
    simp [hl]
  ·have e1:(cs.set off d)[i]? =cs[i]? :=List.getElem?_set_ne (fun h=>h0 h.symm)
   rw [e1]
   by_cases c:off+1≤i∧i<off+1+ds.length∧i<cs.length
   ·have c2:off≤i∧i<off+(ds.length+1)∧i<cs.length:=by omega
    rw [if_pos c,if_pos c2]
    rw [show i - off=(i - (off+1))+1 by omega]
    simp
   ·have c2:¬(off≤i∧i<off+(ds.length+1)∧i<cs.length):=by omega
    rw [if_neg c,if_neg c2]
theorem Fk (vs:List Value):∀(cs:Array Value) (off k:Nat),((vs.zipIdx k).foldl (fun cs (c,j)=>cs.setIfInBounds (off+j) c) cs).toList=
  (List.range cs.size).map fun i=>if off+k≤i∧i<off+k+vs.length then vs.getD (i - (off+k)) undef else cs.getD i undef:=by
 induction vs with
 | nil=>
  intro cs off k
  simp only [List.zipIdx_nil,List.foldl_nil,List.length_nil]
  apply List.ext_getElem
  ·simp
  ·intro i h1 h2
   simp at h1
   have:¬(off+k≤i∧i<off+k+0):=by omega
   simp [h1]
   omega
 | cons v vs ih=>
  intro cs off k
  simp only [List.zipIdx_cons,List.foldl_cons]
  rw [ih]
  simp only [Array.size_setIfInBounds,List.length_cons]
  apply List.map_congr_left
  intro i hi
  simp at hi
  by_cases h0:i=off+k
  ·subst h0
   have c1:¬(off+(k+1)≤off+k∧off+k<off+(k+1)+vs.length):=by omega
   have c2:off+k≤off+k∧off+k<off+k+(vs.length+1):=by omega
   rw [if_neg c1,if_pos c2]
   simp [hi]
  ·have e1:(cs.setIfInBounds (off+k) v).getD i undef=cs.getD i undef:=by
    simp [Array.getD_eq_getD_getElem?,Array.getElem?_setIfInBounds_ne (fun h=>h0 h.symm)]
   rw [e1]
   by_cases c:off+(k+1)≤i∧i<off+(k+1)+vs.length
   ·have c2:off+k≤i∧i<off+k+(vs.length+1):=by omega
    rw [if_pos c,if_pos c2,show i - (off+k)=(i - (off+(k+1)))+1 by omega]
    simp
   ·have c2:¬(off+k≤i∧i<off+k+(vs.length+1)):=by omega
    rw [if_neg c,if_neg c2]
theorem Sm {cs:Array Value} {ds es:List D} {vs:Array Value} (h:bJ κ w cs.toList ds) (hv:bJ κ w vs.toList es) (off:Nat):
  bJ κ w (vs.zipIdx.foldl (fun cs (c,j)=>cs.setIfInBounds (off+j) c) cs).toList (setAt ds off es):=by
 have hz:vs.zipIdx.foldl (fun cs (c,j)=>cs.setIfInBounds (off+j) c) cs=(vs.toList.zipIdx 0).foldl (fun cs (c,j)=>cs.setIfInBounds (off+j) c) cs:=by
  rw [←Array.foldl_toList]
  simp
 have hlen:=h.length
 have Yg:=hv.length
 simp at hlen Yg
 rw [hz,Fk]
 refine bJ.nH (by simp [mv,hlen]) fun i d hd=>?_
 rw [oV] at hd
 have hi:i<ds.length:=by
  split at hd
  ·omega
  ·exact (List.getElem?_eq_some_iff.1 hd).1
 have ku:i<cs.size:=by omega
 refine ⟨_,by simp [ku]; rfl,?_⟩
 by_cases c:off≤i∧i<off+es.length∧i<ds.length
 ·rw [if_pos c] at hd
  obtain ⟨v,e1,r⟩:=hv.get _ _ hd
  have XQ:vs[i - off]? =some v:=by simpa using e1
  have c':off≤i∧i<off+vs.size:=by omega
  simp [c',XQ,r]
 ·rw [if_neg c] at hd
  obtain ⟨v,e1,r⟩:=h.get _ _ hd
  have XQ:cs[i]=v:=by simpa [ku] using e1
  have c':¬(off≤i∧i<off+vs.size):=by omega
  simp [c',ku,XQ,r]
end Go.Proofs.YtpklkpkfgmoghaaGreatDoor.Zz
namespace Go.Proofs.YtpklkpkfgmoghaaGreatDoor.Zz
variable {P:Program} {κ:b9} {w:World} {σ:Fr} {n:Nat} {a:Act}
theorem qJ [aL] (hp:jz κ w σ n a) {x:Option Operand} {y:Option fS} (e:Dq x=some y):Am κ w (x.map a.eval) (y.map σ.ev):=by
  cases x with
  | none=>simp [Dq] at e; subst e; exact .none
  | some x=>
    simp only [Dq,Option.map_eq_some_iff] at e
    obtain ⟨z,e1,rfl⟩:=e
    exact .some (bj hp e1)
theorem pM {place:Nat→Option (Nat×Nat)} {cells:Array Value} {zs:List D} (hz:bJ κ w cells.toList zs):
    ∀(ps:List (Nat×Value)) (qs:List (Nat×Nat×D)),ps.length=qs.length→
      (∀(i:Nat) (j:Nat) (v:Value),ps[i]? =some (j,v)→∃(off sz:Nat) (d:D),qs[i]? =some (off,sz,d)∧place j=some (off,sz)∧bX κ w v d)→
      ∀ds,g_ zs qs=some ds→∃cs,Instr.fill place cells ps=some cs∧bJ κ w cs.toList ds:=by
  intro ps
  induction ps generalizing cells zs with
  | nil=>
    intro qs hl _ ds e
    cases qs with
    | nil=>simp [g_] at e; subst e; exact ⟨cells,by simp [Instr.fill],hz⟩
    | cons _ _=>simp at hl
  | cons p ps ih=>
    intro qs hl hh ds e
    cases qs with
    | nil=>simp at hl
    | cons q qs=>
      obtain ⟨j,v⟩:=p
      obtain ⟨off,sz,d,e1,e2,r⟩:=hh 0 j v (by simp)
      simp at e1
      subst e1
      simp only [g_] at e
      split at e
      · rename_i hc
        obtain ⟨c1,c2,c3⟩:=hc
        have Yj:d≠.undef:=by
          intro h; subst h; simp [cellsD,bY] at c3
        have rc:=oK r Yj
        have l1:=rc.length
        have l2:=hz.length
        simp at l1 l2
        obtain ⟨cs,f1,f2⟩:=ih (Sm hz rc off) qs (by simpa using hl) (fun i j v h=>by
          have:=hh (i+1) j v (by simpa using h)
          simpa using this) ds e
        refine ⟨cs,?_,f2⟩
        rw [Instr.fill,e2]
        simp only
        rw [if_neg (by simp; omega)]
        exact f1
      · cases e
theorem qN [aL] {fs:Array Field} (hp:jz κ w σ n a):∀(ps:List (Nat×Operand)) (qs:List (Nat×Nat×fS)),partsOf P fs ps=some qs→
    ps.length=qs.length∧∀(i:Nat) (j:Nat) (x:Operand),ps[i]? =some (j,x)→∃f y m,fs[j]? =some f∧bO P f.type=some m∧qs[i]? =some (f.offset,m,y)∧bX κ w (a.eval x) (σ.ev y)
  | [],qs,e=>by simp [partsOf] at e; subst e; exact ⟨rfl,fun i j x h=>by simp at h⟩
  | (j0,x0)::ps,qs,e=>by
    simp only [partsOf] at e
    split at e
    · rename_i f y Ze e1 e2 e3
      simp only [Option.map_eq_some_iff] at e
      obtain ⟨m,e4,rfl⟩:=e
      obtain ⟨h1,h2⟩:=qN hp ps Ze e3
      refine ⟨by simp [h1],fun i j x h=>?_⟩
      cases i with
      | zero=>
        simp at h
        obtain ⟨rfl,rfl⟩:=h
        exact ⟨f,y,m,e1,e4,by simp,bj hp e2⟩
      | succ i=>simpa using h2 i j x (by simpa using h)
    · cases e
theorem pv [aL] {sz:Nat} (hp:jz κ w σ n a):∀(ps:List (Nat×Operand)) (qs:List (Nat×Nat×fS)),nN sz ps=some qs→
    ps.length=qs.length∧∀(i:Nat) (j:Nat) (x:Operand),ps[i]? =some (j,x)→∃y,qs[i]? =some (j*sz,sz,y)∧bX κ w (a.eval x) (σ.ev y)
  | [],qs,e=>by simp [nN] at e; subst e; exact ⟨rfl,fun i j x h=>by simp at h⟩
  | (j0,x0)::ps,qs,e=>by
    simp only [nN] at e
    split at e
    · rename_i y Ze e2 e3
      cases e
      obtain ⟨h1,h2⟩:=pv hp ps Ze e3
      refine ⟨by simp [h1],fun i j x h=>?_⟩
      cases i with
      | zero=>
        simp at h
        obtain ⟨rfl,rfl⟩:=h
        exact ⟨y,by simp,bj hp e2⟩
      | succ i=>simpa using h2 i j x (by simpa using h)
    · cases e
theorem pw [aL] (hp:jz κ w σ n a):∀(ps:List (Nat×Operand)) (qs:List (Nat×fS)),nO ps=some qs→
    ps.length=qs.length∧∀(i:Nat) (j:Nat) (x:Operand),ps[i]? =some (j,x)→∃y,qs[i]? =some (j,y)∧bX κ w (a.eval x) (σ.ev y)
  | [],qs,e=>by simp [nO] at e; subst e; exact ⟨rfl,fun i j x h=>by simp at h⟩
  | (j0,x0)::ps,qs,e=>by
    simp only [nO] at e
    split at e
    · rename_i y Ze e2 e3
      cases e
      obtain ⟨h1,h2⟩:=pw hp ps Ze e3
      refine ⟨by simp [h1],fun i j x h=>?_⟩
      cases i with
      | zero=>
        simp at h
        obtain ⟨rfl,rfl⟩:=h
        exact ⟨y,by simp,bj hp e2⟩
      | succ i=>simpa using h2 i j x (by simpa using h)
    · cases e
theorem iV {t:TypeId} {z:D} (e:fG P t=some z) (κ:b9) (w:World):∃v,(zeroValue t).run P w=.ok v w∧bJ κ w v.cells.toList (cellsD z)∧∃i,P.info? t=some i∧i.zero=some v:=by
  obtain ⟨v,h1,h2,i,h3,h4⟩:=pA e κ w
  refine ⟨v,h1,?_,i,h3,h4⟩
  have e':=e
  unfold fG at e'
  simp only [h3,Option.bind_some,h4] at e'
  by_cases hu:z=.undef
  · exfalso
    subst hu
    unfold Mi at e'
    split at e'
    · rename_i cs0
      cases hl:Fx cs0.toList<;>simp [hl] at e'
    · unfold Mh at e'
      split at e'<;>first | (simp at e'; done) | (split at e'<;>simp at e')
  · exact oK h2 hu
theorem uu {fs:Array Field} (hs:∀f∈fs.toList,∃m,bO P f.type=some m) (w:World):
    ∃pl:Array (Nat×Nat),(fs.mapM fun (f:Field)=>(do pure (f.offset,←sizeOf f.type):Sem (Nat×Nat))).run P w=.ok pl w∧∀(j:Nat) (f:Field) (m:Nat),fs[j]? =some f→bO P f.type=some m→pl[j]? =some (f.offset,m):=by
  have key:∀l:List Field,(∀f∈l,∃m,bO P f.type=some m)→∃pl:List (Nat×Nat),(l.mapM fun (f:Field)=>(do pure (f.offset,←sizeOf f.type):Sem (Nat×Nat))).run P w=.ok pl w∧∀(j:Nat) (f:Field) (m:Nat),l[j]? =some f→bO P f.type=some m→pl[j]? =some (f.offset,m):=by
    intro l
    induction l with
    | nil=>intro _; exact ⟨[],by simp,fun j f m h=>by simp at h⟩
    | cons f l ih=>
      intro h
      obtain ⟨m,hm⟩:=h f (by simp)
      obtain ⟨pl,h1,h2⟩:=ih fun g hg=>h g (by simp [hg])
      refine ⟨(f.offset,m)::pl,?_,fun j g k hj hk=>?_⟩
      · rw [List.mapM_cons]; simp only [Sem.run_bind,run_sizeOf hm,Result.andThen,Sem.run_pure,h1]
      · cases j with
        | zero=>simp at hj; subst hj; rw [hm] at hk; cases hk; simp
        | succ j=>simpa using h2 j g k (by simpa using hj) hk
  obtain ⟨pl,h1,h2⟩:=key fs.toList hs
  refine ⟨pl.toArray,?_,fun j f m hj hk=>by simpa using h2 j f m (by simpa using hj) hk⟩
  rw [Array.mapM_eq_mapM_toList]
  simp only [Sem.run_map,h1,Result.andThen]
theorem K6 {fs:Array Field} {P:Program} (h:fs.toList.all (fun f=>(bO P f.type).isSome)=true):∀f∈fs.toList,∃m,bO P f.type=some m:=by
  intro f hf
  have:=List.all_eq_true.1 h f hf
  exact Option.isSome_iff_exists.1 this
theorem G9 {cs:Array Value} {ds:List D} (h:bJ κ w cs.toList ds) (i:Nat) (d:D) (e:ds[i]? =some d):∃v,cs[i]? =some v∧bX κ w v d:=by
  obtain ⟨v,e1,r⟩:=h.get i d e
  exact ⟨v,by simpa using e1,r⟩
theorem vv {f:Field} {m:Nat} (hm:bO P f.type=some m) (h0:m≠0) (ad:Addr) (w:World):(fieldPlace ad f).run P w=.ok (ad.add f.offset) w:=by
  simp [fieldPlace,run_sizeOf hm,h0]
theorem nL [aL] {l:List Operand} {ys:List fS} (e:nK l=some ys):l.length=ys.length:=by
  induction l generalizing ys with
  | nil=>simp [nK] at e; subst e; rfl
  | cons x l ih=>
    simp only [nK,List.mapM_cons,Option.bind_eq_bind,Option.bind_eq_some_iff] at e
    obtain ⟨y,e1,ys',e2,e3⟩:=e
    cases e3
    simp [ih e2]
theorem qK [aL] (hp:jz κ w σ n a) {arr:Array Operand} {x y:fS} (e:nK arr.toList=some [x,y]):
    ∃v u,arr.map a.eval= #[v,u]∧bX κ w v (σ.ev x)∧bX κ w u (σ.ev y):=by
  have hl:=nL e
  have r:=ka hp e
  match h:arr.toList,hl with
  | [p,q],_=>
    rw [h] at r
    cases r with
    | cons r1 t=>cases t with
      | cons r2 t=>exact ⟨_,_,by apply Array.ext'; simp [h],r1,r2⟩
theorem N3 [aL] (hp:jz κ w σ n a) {arr:Array Operand} {x:fS} (e:nK arr.toList=some [x]):
    ∃v,arr.map a.eval= #[v]∧bX κ w v (σ.ev x):=by
  have hl:=nL e
  have r:=ka hp e
  match h:arr.toList,hl with
  | [p],_=>
    rw [h] at r
    cases r with
    | cons r1 t=>exact ⟨_,by apply Array.ext'; simp [h],r1⟩
theorem Gq [aL] {r q:Bool} {o:Oper} {i:bG fS} (hc:iF P r q o=some i) (hp:jz κ w σ n a) {d:D} (he:bh (i.map σ.ev)=some d):pc P κ w (execOp a.eval o) d:=by
  unfold iF at hc
  unfold execOp
  split at hc
  · -- move
    rename_i x fk
    simp only [Option.map_eq_some_iff] at hc
    obtain ⟨y,e1,rfl⟩:=hc
    simp only [bG.map,bh,Option.some.injEq] at he
    subst he
    exact ⟨a.eval x,by simp [fk],bj hp e1⟩
  · rename_i x fk
    simp only [Option.map_eq_some_iff] at hc
    obtain ⟨y,e1,rfl⟩:=hc
    simp only [bG.map,bh,Option.some.injEq] at he
    subst he
    exact ⟨a.eval x,by simp [fk],bj hp e1⟩
  · -- pick
    split at hc
    · cases hc; simp [bG.map,bh] at he
    · cases hc
  · simp only [Option.map_eq_some_iff] at hc; obtain ⟨y,e1,rfl⟩:=hc; simp [bG.map,bh] at he
  · simp only [Option.map_eq_some_iff] at hc; obtain ⟨y,e1,rfl⟩:=hc; simp [bG.map,bh] at he
  · -- build
    rename_i t ps fk
    split at hc
    · rename_i fs z ht hz
      split at hc
      · rename_i vH
        simp only [Option.map_eq_some_iff] at hc
        obtain ⟨qs,e1,rfl⟩:=hc
        simp only [bG.map,bh,Option.map_eq_some_iff] at he
        obtain ⟨ds,e2,rfl⟩:=he
        obtain ⟨zv,z1,z2,_⟩:=iV hz κ w
        obtain ⟨pl,p1,p2⟩:=uu (K6 vH) w
        obtain ⟨h1,h2⟩:=qN hp _ _ e1
        obtain ⟨cs,f1,f2⟩:=pM (place:=(pl[·]?)) z2 (ps.toList.map fun p=>(p.1,a.eval p.2)) (qs.map fun p=>(p.1,p.2.1,σ.ev p.2.2)) (by simpa using h1) (fun i j v h=>by
          simp only [List.getElem?_map,Option.map_eq_some_iff] at h
          obtain ⟨⟨j',x⟩,h3,h4⟩:=h
          cases h4
          obtain ⟨f,y,m,g1,g2,g3,g4⟩:=h2 i _ x h3
          exact ⟨f.offset,m,σ.ev y,by simp [g3],p2 _ f m g1 g2,g4⟩) ds e2
        refine ⟨.agg cs,?_,f2.agg⟩
        simp only [fk]
        have vJ:(Array.map (fun (x:Nat×Operand)=>(x.1,a.eval x.2)) ps).toList=ps.toList.map fun p=>(p.1,a.eval p.2):=by simp
        simp only [Sem.run_bind,Instr.build,z1,Result.andThen,run_underlying ht,p1,vJ,f1,Sem.run_pure]
      · cases hc
    · rename_i ln el z ht hz
      split at hc
      · rename_i sz mI
        simp only [Option.map_eq_some_iff] at hc
        obtain ⟨qs,e1,rfl⟩:=hc
        simp only [bG.map,bh,Option.map_eq_some_iff] at he
        obtain ⟨ds,e2,rfl⟩:=he
        obtain ⟨zv,z1,z2,_⟩:=iV hz κ w
        obtain ⟨h1,h2⟩:=pv hp _ _ e1
        obtain ⟨cs,f1,f2⟩:=pM (place:=fun i=>some (i*sz,sz)) z2 (ps.toList.map fun p=>(p.1,a.eval p.2)) (qs.map fun p=>(p.1,p.2.1,σ.ev p.2.2)) (by simpa using h1) (fun i j v h=>by
          simp only [List.getElem?_map,Option.map_eq_some_iff] at h
          obtain ⟨⟨j',x⟩,h3,h4⟩:=h
          cases h4
          obtain ⟨y,g3,g4⟩:=h2 i _ x h3
          exact ⟨_,sz,σ.ev y,by simp [g3],rfl,g4⟩) ds e2
        refine ⟨.agg cs,?_,f2.agg⟩
        simp only [fk]
        have vJ:(Array.map (fun (x:Nat×Operand)=>(x.1,a.eval x.2)) ps).toList=ps.toList.map fun p=>(p.1,a.eval p.2):=by simp
        simp only [Sem.run_bind,Instr.build,z1,Result.andThen,run_underlying ht,run_sizeOf mI,vJ,f1,Sem.run_pure]
      · cases hc
    · cases hc
  · -- buildSlice
    (repeat' split at hc)<;>first | (cases hc; done) | (simp only [Option.map_eq_some_iff] at hc; obtain ⟨y,e1,rfl⟩:=hc; simp [bG.map,bh] at he)
  · (repeat' split at hc)<;>first | (cases hc; done) | (cases hc; simp [bG.map,bh] at he)
  · (repeat' split at hc)<;>first | (cases hc; done) | (cases hc; simp [bG.map,bh] at he)
  · -- nilCheck
    rename_i x fk
    simp only [Option.map_eq_some_iff] at hc
    obtain ⟨y,e1,rfl⟩:=hc
    have r:=bj hp e1
    simp only [bG.map,bh] at he
    simp only [fk]
    generalize a.eval x=u at r ⊢
    generalize σ.ev y=e at r he
    have r0:=r
    split at he<;>cases he<;>cases r<;>exact ⟨_,rfl,r0⟩
  · -- binOp
    rename_i op t x y yt fk
    split at hc
    · rename_i p1 p2 e1 e2
      have r1:=bj hp e1
      have r2:=bj hp e2
      simp only [fk]
      split at hc
      · (repeat' split at hc)
        · cases hc
          simp only [bG.map,bh] at he
          obtain ⟨v,h1,h2⟩:=mY (P:=P) r1 r2 he t x y
          exact pc.of h1 h2
        all_goals first
          | (cases hc; done)
          | (cases hc; simp [bG.map,bh] at he; done)
          | (simp only [Option.map_eq_some_iff] at hc
             obtain ⟨et,e3,rfl⟩:=hc
             simp only [bG.map,bh,Option.map_eq_some_iff] at he
             obtain ⟨b,e4,rfl⟩:=he
             refine pc.of (vq (P:=P) (M_ e3) r1 r2 e4 false x y (fun h=>?_)) (.bool _)
             first
               | (rename_i kL; exact (Bool.or_eq_true _ _).mp kL)
               | (subst h; simp_all))
      · (repeat' split at hc)
        · cases hc
          simp only [bG.map,bh] at he
          obtain ⟨v,h1,h2⟩:=mY (P:=P) r1 r2 he t x y
          exact pc.of h1 h2
        all_goals first
          | (cases hc; done)
          | (cases hc; simp [bG.map,bh] at he; done)
          | (simp only [Option.map_eq_some_iff] at hc
             obtain ⟨et,e3,rfl⟩:=hc
             simp only [bG.map,bh,Option.map_eq_some_iff] at he
             obtain ⟨b,e4,rfl⟩:=he
             refine pc.of (vq (P:=P) (M_ e3) r1 r2 e4 true x y (fun h=>?_)) (.bool _)
             first
               | (rename_i kL; exact (Bool.or_eq_true _ _).mp kL)
               | (subst h; simp_all))
      · split at hc
        · cases hc
          simp [bG.map,bh] at he
        · cases hc
          simp only [bG.map,bh] at he
          obtain ⟨v,h1,h2⟩:=mY (P:=P) r1 r2 he t x y
          exact pc.of h1 h2
    · cases hc
  · -- unOp
    rename_i op t x fk
    simp only [Option.map_eq_some_iff] at hc
    obtain ⟨y,e1,rfl⟩:=hc
    simp only [bG.map,bh] at he
    obtain ⟨v,h1,h2⟩:=G0 (P:=P) (bj hp e1) he
    simp only [fk]
    exact pc.of h1 h2
  · -- convert
    rename_i s dt x fk
    split at hc
    · rename_i ck y e1 e2
      cases hc
      have r:=bj hp e2
      simp only [bG.map,bh] at he
      simp only [fk]
      unfold KV at e1
      generalize a.eval x=u at r ⊢
      generalize σ.ev y=e at r he
      split at he
      · cases he; cases r
        rename_i k k' m
        refine pc.of (v:=.int k (k.wrap m)) ?_ (.int _ _)
        split at e1<;>(try split at e1)<;>cases e1
        rename_i h1 h2
        simp [convert,run_underlying h1,run_underlying h2,Conv.intToInt]
      · cases he; cases r
        rename_i k' m
        refine pc.of (v:=.float .f64 (FloatKind.f64.nearest m)) ?_ (.float _ _)
        split at e1<;>(try split at e1)<;>cases e1
        rename_i h1 h2
        simp [convert,run_underlying h1,run_underlying h2,Conv.intToFloat]
      · cases he; cases r
        rename_i s0 hs0
        refine pc.of (v:=.string ⟨s0.toArray⟩) ?_ (.str _ hs0)
        split at e1<;>(try split at e1)<;>cases e1
        rename_i h1 h2
        simp [convert,run_underlying h1,run_underlying h2]
      · simp only [Option.map_eq_some_iff] at he
        obtain ⟨n0,he1,rfl⟩:=he
        cases r
        rename_i k' m
        refine pc.of (v:=.int k' n0) ?_ (.int _ _)
        split at e1<;>(try split at e1)<;>cases e1
        rename_i h1 h2
        exact run_convert_float_int w s dt .f64 k' m n0 (by rw [h1]; rfl) h2 he1
      · cases he; cases r
        rename_i m
        refine pc.of (v:=.float .f64 m) ?_ (.float _ _)
        split at e1<;>(try split at e1)<;>cases e1
        rename_i h1 h2
        simp [convert,run_underlying h1,run_underlying h2,Conv.floatToFloat]
      · cases he
    · cases hc
  · -- sliceToArrayPointer
    rename_i t x fk
    split at hc
    · rename_i n el y h1 e1
      cases hc
      have r:=bj hp e1
      simp only [bG.map,bh] at he
      simp only [fk]
      generalize a.eval x=u at r ⊢
      generalize σ.ev y=e at r he
      split at he
      · split at he
        · rename_i hn
          cases he
          cases r with
          | rL hl hv F0 dO ha=>
            rename_i abe p0 a0
            refine pc.of (v:=.pointer (some a0)) ?_ (.ptr hl hv fun e=>?_)
            · simp only [Instr.arrayAt,Sem.run_bind,run_underlying h1,Result.andThen]
              rw [if_neg (by omega)]; rfl
            · rcases ha e with h0 | h0
              · omega
              · exact h0
        · cases he
      · cases he
    · cases hc
  · -- makeInterface
    rename_i t x fk
    split at hc
    · cases hc
    · rename_i hni ht
      simp only [Option.map_eq_some_iff] at hc
      obtain ⟨y,e1,rfl⟩:=hc
      simp only [bG.map,bh,Option.some.injEq] at he
      subst he
      simp only [fk]
      rename_i td
      refine pc.of (v:=.iface t (a.eval x)) ?_ (.iface (bj hp e1))
      simp only [Instr.makeInterface,Sem.run_bind,run_underlying ht,Result.andThen]
      rfl
    · cases hc
  · -- makeFunc
    rename_i fn x y fk
    split at hc
    · rename_i xs ys e1 e2
      cases hc
      simp only [bG.map,bh,Option.some.injEq] at he
      subst he
      simp only [fk]
      have r1:=ka hp e1
      have r2:=ka hp e2
      refine pc.of (v:=.func fn (x.map a.eval) (y.map a.eval)) rfl ?_
      refine .func (by have:=r1.length; simpa using this) (by have:=r2.length; simpa using this) (fun i d hd=>?_) (fun i d hd=>?_)
      · obtain ⟨v,g1,g2⟩:=r1.get i d hd
        have:(x.map a.eval)[i]? =some v:=by simpa using g1
        simpa [Array.getD_eq_getD_getElem?,this] using g2
      · obtain ⟨v,g1,g2⟩:=r2.get i d hd
        have:(y.map a.eval)[i]? =some v:=by simpa using g1
        simpa [Array.getD_eq_getD_getElem?,this] using g2
    · cases hc
  · -- slice
    rename_i t x lo hi mx fk
    split at hc
    · rename_i x' lo' ku e1 e2 e3 e4
      have hmx:mx=none:=by
        cases mx with
        | none=>rfl
        | some z=>simp only [Dq,Option.map_eq_some_iff,reduceCtorEq,and_false,exists_false] at e4
      subst hmx
      have rl:=qJ hp e2
      have rh:=qJ hp e3
      have r:=bj hp e1
      simp only [fk]
      split at hc
      · rename_i ht
        cases hc
        simp only [bG.map,bh,Option.map_none] at he
        obtain ⟨v,h1,h2⟩:=lz (k:=.str) (t:=t) ht r rl rh he
        exact pc.of h1 h2
      · rename_i el ht
        simp only [Option.map_eq_some_iff] at hc
        obtain ⟨sz,hs,rfl⟩:=hc
        simp only [bG.map,bh,Option.map_none] at he
        obtain ⟨v,h1,h2⟩:=lz (k:=.sl sz) (t:=t) ⟨el,ht,hs⟩ r rl rh he
        exact pc.of h1 h2
      · rename_i m el ht
        split at hc
        · rename_i hs
          cases hc
          simp only [bG.map,bh,Option.map_none] at he
          obtain ⟨v,h1,h2⟩:=lz (k:=.arr m) (t:=t) ⟨el,ht,hs⟩ r rl rh he
          exact pc.of h1 h2
        · cases hc
      · cases hc
    · cases hc
  · -- fieldAddr
    rename_i s x f fk
    split at hc
    · rename_i fs y e1 e2
      split at hc
      · rename_i fd e3
        split at hc
        · rename_i m e4
          split at hc
          · rename_i h0
            cases hc
            have hs:P.underlying s=some (.struct fs):=by
              unfold fieldsOf at e1
              split at e1<;>cases e1
              assumption
            have r:=bj hp e2
            simp only [bG.map,bh] at he
            simp only [fk]
            have key:∀ad:Addr,(Instr.fieldAt s (.pointer (some ad)) f).run P w=.ok (.pointer (some (ad.add fd.offset))) w:=fun ad=>by
              simp [Instr.fieldAt,run_underlying hs,e3,Instr.sureAddr,vv e4 h0]
            generalize hu:a.eval x=u at r
            generalize σ.ev y=e at r he
            split at he
            · cases he
              cases r with
              | ptr hl hv ha=>exact pc.of (key _) (.ptr hl hv fun ev=>by rw [ha ev,dG,Nat.add_assoc])
            · cases he
              cases r with
              | cU f hb kL hr=>
                refine pc.of (key _) ?_
                rw [dG,Nat.add_assoc]
                exact .cU f hb kL hr
            · cases he
              cases r with
              | eC hl hv ha=>exact pc.of (key _) (.eC hl hv fun ev=>by rw [ha ev,dG,Nat.add_assoc])
            · cases he
          · cases hc
        · cases hc
      · cases hc
    · cases hc
  · -- field
    rename_i s x f fk
    split at hc
    · rename_i fs y e1 e2
      split at hc
      · rename_i fd e3
        simp only [Option.map_eq_some_iff] at hc
        obtain ⟨k,e4,rfl⟩:=hc
        have hs:P.underlying s=some (.struct fs):=by
          unfold fieldsOf at e1
          split at e1<;>cases e1
          assumption
        have r:=bj hp e2
        simp only [bG.map,bh] at he
        simp only [fk]
        generalize hu:a.eval x=u at r
        generalize σ.ev y=e at r he
        split at he
        · cases r with
          | agg hs' hr=>
          obtain ⟨v,h1,h2⟩:=tb (P:=P) (bJ.gP hs' hr) e4 he
          exact pc.of (by simp [Instr.field,run_underlying hs,e3,asAgg,h1]) h2
        · cases he
      · cases hc
    · cases hc
  · -- indexAddr
    rename_i t x i fk
    split at hc
    · rename_i x' i' e1 e2
      have r1:=bj hp e1
      have r2:=bj hp e2
      simp only [fk]
      split at hc
      · rename_i m el ht
        simp only [Option.map_eq_some_iff] at hc
        obtain ⟨sz,hs,rfl⟩:=hc
        simp only [bG.map,bh] at he
        generalize a.eval x=u at r1
        generalize a.eval i=v at r2
        generalize σ.ev x'=ex at r1 he
        generalize σ.ev i'=ei at r2 he
        have key:∀(ad:Addr) (k:IntKind) (z:Int),0≤z∧z<(m:Int)→(Instr.indexAt t (.pointer (some ad)) (.int k z)).run P w=.ok (.pointer (some (ad.add (z.toNat*sz)))) w:=fun ad k z hz=>by
          simp [Instr.indexAt,asIntOf,run_underlying ht,Instr.sureAddr,hz,run_sizeOf hs]
        split at he
        · split at he
          · rename_i hb
            cases he; cases r2
            cases r1 with
            | ptr hl hv ha=>exact pc.of (key _ _ _ hb) (.ptr hl hv fun ev=>by rw [ha ev,dG,Nat.add_assoc])
          · cases he
        · split at he
          · rename_i hb
            cases he; cases r2
            cases r1 with
            | cU f QG kL hr=>
              refine pc.of (key _ _ _ hb) ?_
              rw [dG,Nat.add_assoc]
              exact .cU f QG kL hr
          · cases he
        · split at he
          · rename_i hb
            cases he; cases r2
            cases r1 with
            | eC hl hv ha=>exact pc.of (key _ _ _ hb) (.eC hl hv fun ev=>by rw [ha ev,dG,Nat.add_assoc])
          · cases he
        · cases he
      · rename_i el ht
        split at hc
        case h_2=>cases hc
        rename_i sz hs
        split at hc
        case isFalse=>cases hc
        rename_i gZ
        cases hc
        simp only [bG.map,bh] at he
        generalize a.eval x=u at r1
        generalize a.eval i=v at r2
        generalize σ.ev x'=ex at r1 he
        generalize σ.ev i'=ei at r2 he
        have key:∀(ad:Addr) (len cap:Nat) (k:IntKind) (z:Int),0≤z∧z<(len:Int)→(Instr.indexAt t (.slice (some ad) len cap) (.int k z)).run P w=.ok (.pointer (some (ad.add (z.toNat*sz)))) w:=fun ad len cap k z hz=>by
          simp [Instr.indexAt,asIntOf,run_underlying ht,Instr.sureAddr,hz,run_sizeOf hs]
        split at he
        · split at he
          · rename_i xs k0 z h0
            split at he
            · rename_i y hy
              split at he
              · rename_i hl
                cases he; cases r2
                have gY:z.toNat<xs.length:=(List.getElem?_eq_some_iff.1 hy).1
                cases r1 with
                | slnil=>simp at hy
                | sl f hn dO qC kL hr=>
                  rename_i bb oo szz cap
                  have abT:szz=sz:=by rw [←qC y (List.mem_of_getElem? hy),hl]
                  subst abT
                  refine pc.of (key _ _ _ _ _ ⟨h0,by omega⟩) ?_
                  rw [dG]
                  · have h1:0<y.length:=by omega
                    have abx:=(kL _ y 0 y[0] hy (by simp [h1])).1
                    have:=bX.cU (κ:=κ) (w:=w) (b:=bb) (base:=oo+z.toNat*szz) (off:=0) (cells:=y) (f z.toNat) abx (fun j d hj=>(kL _ y j d hy hj).2) (fun j d hj=>hr _ y j d hy hj)
                    simpa using this
              · cases he
            · cases he
          · cases he
        · split at he
          · rename_i hb
            obtain ⟨b1,b2,b3⟩:=hb
            cases he; cases r2
            cases r1 with
            | rL hl hv hn dO ha=>
              refine pc.of (key _ _ _ _ _ ⟨b1,b2⟩) (.ptr hl hv fun ev=>?_)
              rcases ha ev with h0 | h0
              · omega
              · subst b3
                rw [h0,dG,Nat.mul_one,Nat.add_assoc]
          · cases he
        · cases he
      · cases hc
    · cases hc
  · -- index
    rename_i t x i fk
    split at hc
    · rename_i x' i' e1 e2
      have r1:=bj hp e1
      have r2:=bj hp e2
      simp only [fk]
      split at hc
      · rename_i m el ht
        split at hc
        · rename_i sz k e3 e4
          cases hc
          simp only [bG.map,bh] at he
          generalize a.eval x=u at r1
          generalize a.eval i=v at r2
          generalize σ.ev x'=ex at r1 he
          generalize σ.ev i'=ei at r2 he
          split at he
          · split at he
            · rename_i hb
              cases r2
              cases r1 with
              | agg hs' hr=>
              obtain ⟨v,h1,h2⟩:=tb (P:=P) (bJ.gP hs' hr) e4 he
              refine pc.of ?_ h2
              simp [Instr.index,asIntOf,run_underlying ht,hb,run_sizeOf e3,h1]
            · cases he
          · cases he
        · cases hc
      · rename_i ht
        cases hc
        simp only [bG.map,bh] at he
        generalize a.eval x=u at r1
        generalize a.eval i=v at r2
        generalize σ.ev x'=ex at r1 he
        generalize σ.ev i'=ei at r2 he
        split at he
        · rename_i s0 k0 i0
          split at he
          · rename_i h0
            split at he
            · rename_i b hb
              cases he; cases r1; cases r2
              refine pc.of (v:=.int .u8 (b.toNat:Int)) ?_ (.int _ _)
              have gY:i0.toNat<s0.length:=(List.getElem?_eq_some_iff.1 hb).1
              have QG:(⟨s0.toArray⟩:ByteArray)[i0.toNat]? =some b:=by
                rw [ByteArray.getElem?_lt' _ _ (by rw [size_mk]; exact gY)]
                have:=(List.getElem?_eq_some_iff.1 hb).2
                simp [ByteArray.getElem_eq_getElem_data,this]
              simp [Instr.index,asIntOf,run_underlying ht,h0,QG]
            · cases he
          · cases he
        · cases he
      · cases hc
    · cases hc
  · -- extract
    rename_i x i fk
    simp only [Option.map_eq_some_iff] at hc
    obtain ⟨y,e1,rfl⟩:=hc
    have r:=bj hp e1
    simp only [bG.map,bh] at he
    simp only [fk]
    generalize a.eval x=u at r
    generalize σ.ev y=e at r he
    split at he
    · cases r with
      | tuple hs hr=>
      obtain ⟨v,h1,h2⟩:=G9 (bJ.gP hs hr) i d he
      exact pc.of (by simp [Instr.extract,h1]) h2
    · cases he
  · simp only [Option.map_eq_some_iff] at hc; obtain ⟨y,e1,rfl⟩:=hc; simp [bG.map,bh] at he
  · -- call
    rename_i c fk
    split at hc
    · split at hc
      · (repeat' split at hc)<;>(cases hc; simp [bG.map,bh] at he)
      · cases hc
    · rename_i b jU
      have AY:∀vs:Array Value,c.args.map a.eval=vs→(execOp a.eval o).run P w=(builtin b c.argTypes o.type (c.args.map fun x=>match x with | .const _=>true | _=>false) vs).run P w:=fun vs Xo=>by
        simp only [execOp,fk,Sem.run_bind,resolve,jU,Xo]
        rfl
      unfold execOp at AY
      split at hc
      all_goals first
        | (cases hc; done)
        | ((repeat' split at hc)<;>first | (cases hc; done) | (cases hc; simp [bG.map,bh] at he; done) | skip)
      all_goals
        rename_i x y e2
        cases hc
        obtain ⟨v,u,h1,r1,r2⟩:=qK hp e2
        have h2:=AY _ h1
        simp only [bG.map,bh] at he
        generalize σ.ev x=ex at r1 he
        generalize σ.ev y=ey at r2 he
        split at he
        · cases he; cases r1; cases r2
          refine ⟨_,h2.trans ?_,.int _ _⟩
          simp [builtin,Builtin.min_,Builtin.max_,Builtin.min2,Builtin.max2]
        · cases he
    · cases hc
  · (repeat' split at hc)<;>first | (cases hc; done) | (simp only [Option.map_eq_some_iff] at hc; obtain ⟨y,e1,rfl⟩:=hc; simp [bG.map,bh] at he)
  · (repeat' split at hc)<;>first | (cases hc; done) | (simp only [Option.map_eq_some_iff] at hc; obtain ⟨y,e1,rfl⟩:=hc; simp [bG.map,bh] at he)
  · (repeat' split at hc)<;>first | (cases hc; done) | (simp only [Option.map_eq_some_iff] at hc; obtain ⟨y,e1,rfl⟩:=hc; simp [bG.map,bh] at he)
  · (repeat' split at hc)<;>first | (cases hc; done) | (cases hc; simp [bG.map,bh] at he)
  · cases hc
end Go.Proofs.YtpklkpkfgmoghaaGreatDoor.Zz
