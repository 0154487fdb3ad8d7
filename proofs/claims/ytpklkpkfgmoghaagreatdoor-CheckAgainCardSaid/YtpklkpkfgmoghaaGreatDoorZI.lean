/- The instructions that reckon. -/
import Derived.Test.YtpklkpkfgmoghaaGreatDoorZE
import Derived.Laws.FloatArith
import Derived.Laws.Slices
import Derived.ChangeKeysEq
import Derived.Laws.StructEq
set_option linter.unnecessarySimpa false
set_option linter.unusedVariables false
set_option linter.unusedSimpArgs false
namespace Go.Proofs.YtpklkpkfgmoghaaGreatDoor.Zz
variable {P:Program} {κ:cT} {w:World}
def sI (P:Program) (κ:cT) (w:World) (s:Sem Next) (d:D):Prop:=∃v,s.run P w=.ok (.value v) w∧cL κ w v d
theorem sI.of {s:Sem Value} {v:Value} {d:D} (hs:s.run P w=.ok v w) (r:cL κ w v d):sI P κ w (do let x ←s; pure (Next.value x)) d:=
  ⟨v,by simp only [Sem.run_bind,hs,Result.andThen,Sem.run_pure],r⟩
theorem HV {op:BinOp} {k:IntKind} {x y:Int} {d:D} (e:e_ op k x y=some d) (h1:op≠.shl) (h2:op≠.shr) (t:TypeId):
    ∃v,(binOp op t (.int k x) (.int k y)).run P w=.ok v w∧cL κ w v d:=by
  cases op<;>simp only [e_,Option.some.injEq,reduceCtorEq] at e
  all_goals first
    | (subst e; exact ⟨_,by simp only [binOp_add,binOp_sub,binOp_mul,binOp_and,binOp_or,binOp_xor,binOp_andNot,binOp_eql,binOp_neq,binOp_lss,binOp_leq,binOp_gtr,binOp_geq]; rfl,by constructor⟩)
    | (split at e
       · cases e
       · rename_i hy; cases e; exact ⟨_,by simp [binOp,Op.intDiv,hy]; rfl,by constructor⟩)
    | (exact absurd rfl h1)
    | (exact absurd rfl h2)
theorem Br {op:BinOp} {k k':IntKind} {x y:Int} {d:D} (e:Cf op k x y=some d) (t:TypeId):
    ∃v,(binOp op t (.int k x) (.int k' y)).run P w=.ok v w∧cL κ w v d:=by
  unfold Cf at e
  split at e
  · cases e
  · rename_i hy
    cases op<;>simp only [Option.some.injEq,reduceCtorEq] at e
    all_goals (subst e; exact ⟨_,by simp [binOp,Op.shift,hy]; rfl,by constructor⟩)
theorem toList_mk (l:List UInt8):(⟨l.toArray⟩:ByteArray).toList=l:=by simp
theorem size_mk (l:List UInt8):(⟨l.toArray⟩:ByteArray).size=l.length:=by simp [ByteArray.size]
theorem SI (a b:List UInt8):(⟨a.toArray⟩++⟨b.toArray⟩:ByteArray)=⟨(a++b).toArray⟩:=by
  apply ByteArray.ext
  simp
theorem I8 {op:BinOp} {x y:List UInt8} {d:D} (e:jM op x y=some d) (t:TypeId):
    ∃v,(binOp op t (.string ⟨x.toArray⟩) (.string ⟨y.toArray⟩)).run P w=.ok v w∧cL κ w v d:=by
  cases op<;>simp only [jM,Option.some.injEq,reduceCtorEq] at e
  all_goals first
    | (subst e; exact ⟨_,by simp only [binOp,Op.stringOp,toList_mk]; rfl,by constructor⟩)
    | skip
  split at e
  · rename_i hl
    cases e
    refine ⟨.string ⟨(x++y).toArray⟩,?_,.str _ (by simpa using hl)⟩
    have h1:¬(9223372036854775807<(x.length:Int)+(y.length:Int)):=by omega
    simp only [binOp,Op.stringOp,size_mk,IntKind.max_i64,SI]
    rw [if_neg (by push_cast; omega)]
    rfl
  · cases e
theorem cS {op:BinOp} {t:TypeId} {x y:Operand} {u v:Value} (hu:(∀c,u≠.agg c)∧u≠.nilIface):eqGuard op t x y u v=pure ():=by
  unfold eqGuard
  cases op<;>try rfl
  all_goals
    simp only [Bool.not_true,Bool.false_eq_true,if_false,Bool.not_eq_true']
    split
    · exact absurd rfl hu.2
    · exact absurd rfl (hu.1 _)
    · rfl
theorem Hh {op:BinOp} {k:FloatKind} {x y:Nat} {d:D} (e:kT op k x y=some d) (t:TypeId):
    ∃v,(binOp op t (.float k x) (.float k y)).run P w=.ok v w∧cL κ w v d:=by
  cases op<;>simp only [kT,Option.some.injEq,reduceCtorEq] at e
  all_goals (subst e; exact ⟨_,by simp only [binOp,Op.floatCmp,ne_eq,not_true_eq_false,if_false]; rfl,by constructor⟩)
theorem qo {op:BinOp} {u v:Value} {x y d:D} (hu:cL κ w u x) (hv:cL κ w v y) (e:lE op x y=some d) (t:TypeId) (p q:Operand):
    ∃r,(do eqGuard op t p q u v; binOp op t u v).run P w=.ok r w∧cL κ w r d:=by
  unfold lE at e
  split at e
  · rename_i k x k' y
    cases hu; cases hv
    rw [cS ⟨fun _=>by simp,by simp⟩]
    simp only [pure_bind]
    split at e
    · exact Br e t
    · exact Br e t
    · rename_i h1 h2
      split at e
      · rename_i hk
        subst hk
        exact HV e h1 h2 t
      · cases e
  · cases hu; cases hv
    rw [cS ⟨fun _=>by simp,by simp⟩]
    simp only [pure_bind]
    exact I8 e t
  · cases hu; cases hv
    rw [cS ⟨fun _=>by simp,by simp⟩]
    simp only [pure_bind]
    split at e
    · rename_i hk
      subst hk
      exact Hh e t
    · cases e
  · cases e
theorem MP {op:UnOp} {u:Value} {x d:D} (hu:cL κ w u x) (e:pb op x=some d):∃r,(Op.unary op u).run P w=.ok r w∧cL κ w r d:=by
  unfold pb at e
  split at e
  · cases hu
    cases op<;>simp only [Option.some.injEq,reduceCtorEq] at e
    all_goals (subst e; exact ⟨_,rfl,by constructor⟩)
  · cases hu
    cases op<;>simp only [Option.some.injEq,reduceCtorEq] at e
    all_goals (subst e; exact ⟨_,rfl,by constructor⟩)
  · cases hu
    cases op<;>simp only [Option.some.injEq,reduceCtorEq] at e
    all_goals (subst e; exact ⟨_,rfl,by constructor⟩)
  · cases e
theorem eM (b o k:Nat):(⟨b,o,none⟩:Addr).add k=⟨b,o+k,none⟩:=by
  unfold Addr.add
  split<;>simp_all
theorem wQ {cs:Array Value} {ds:List D} (h:cn κ w cs.toList ds) {t:TypeId} {off:Nat} {k:Option Nat} {d:D} (hs:shapeOf P t=some k) (e:iF ds off k=some d):
    ∃v,(part t cs off).run P w=.ok v w∧cL κ w v d:=by
  cases k with
  | none=>
    obtain ⟨h1,_⟩:=rb hs w
    simp only [iF] at e
    obtain ⟨v,hv,r⟩:=h.get off d e
    have ZG:cs[off]? =some v:=by simpa using hv
    exact ⟨v,by simp [part,h1,ZG],r⟩
  | some n=>
    obtain ⟨h1,h2⟩:=re hs w
    simp only [iF] at e
    split at e
    · rename_i hl
      cases e
      refine ⟨.agg (cs.extract off (off+n)),by simp [part,h1,run_sizeOf h2],cn.agg ?_⟩
      refine cn.qP ?_ fun i d hd=>?_
      · have:=h.length
        simp at this ⊢
        omega
      · rw [List.getElem?_take] at hd
        split at hd
        · rename_i hi
          rw [List.getElem?_drop] at hd
          obtain ⟨v,hv,r⟩:=h.get _ _ hd
          refine ⟨v,?_,r⟩
          have ZG:cs[off+i]? =some v:=by simpa using hv
          have ig:=(Array.getElem?_eq_some_iff.1 ZG).1
          simp only [Array.toList_extract,List.extract_eq_take_drop]
          rw [List.getElem?_take,if_pos (by omega),List.getElem?_drop]
          exact hv
        · cases hd
    · cases e
end Go.Proofs.YtpklkpkfgmoghaaGreatDoor.Zz
namespace Go.Proofs.YtpklkpkfgmoghaaGreatDoor.Zz
variable {P:Program} {κ:cT} {w:World}
inductive EF (κ:cT) (w:World):Option Value→Option D→Prop
 | none:EF κ w .none .none
 | some {v:Value} {d:D} (h:cL κ w v d):EF κ w (.some v) (.some d)
theorem tj {v:Value} {d:D} {i:Int} (r:cL κ w v d) (e:pw d=some i):∃k,v=.int k i:=by
 unfold pw at e
 split at e
 ·cases e; cases r; exact ⟨_,rfl⟩
 ·cases e
theorem l_ {n cap:Nat} (hc:n≤cap) (isS:Bool) {lo hi:Option Value} {dlo dhi:Option D} (rl:EF κ w lo dlo) (rh:EF κ w hi dhi) {b:Nat×Nat} (e:bounds n dlo dhi=some b):
  (Instr.sliceBounds isS n cap lo hi none).run P w=.ok (b.1,b.2,cap) w∧b.1≤b.2∧b.2≤n:=by
 unfold bounds at e
 split at e
 ·rename_i l u h1 h2
  split at e
  ·rename_i h3
   cases e
   obtain ⟨a1,a2,a3⟩:=h3
   have hu:∀k code,(Instr.sliceBound (.int k u) cap code).run P w=.ok u.toNat w:=fun k code=>run_sliceBound w k u cap code (by omega) (by omega)
   have hl:∀k code,(Instr.sliceBound (.int k l) u.toNat code).run P w=.ok l.toNat w:=fun k code=>run_sliceBound w k l u.toNat code (by omega) (by omega)
   refine ⟨?_,by simp; omega,by simp; omega⟩
   cases rl with
   | none=>
    simp at h1
    subst h1
    cases rh with
    | none=>
     simp at h2
     subst h2
     simp [Instr.sliceBounds]
    | some r=>
     obtain ⟨k,rfl⟩:=tj r h2
     simp [Instr.sliceBounds,hu]
   | some r=>
    obtain ⟨k,rfl⟩:=tj r h1
    cases rh with
    | none=>
     simp at h2
     subst h2
     have:=hl k .sliceB
     simp at this
     simp [Instr.sliceBounds,this]
    | some r'=>
     obtain ⟨k',rfl⟩:=tj r' h2
     simp [Instr.sliceBounds,hu,hl]
  ·cases e
 ·cases e
theorem L3 (s:List UInt8) (l u:Nat):(⟨s.toArray⟩:ByteArray).extract l u=⟨((s.drop l).take (u - l)).toArray⟩:=by
 apply ByteArray.ext
 simp [List.extract_eq_take_drop]
theorem rn {t e:TypeId} {sz:Nat} (ht:P.underlying t=some (.slice e)) (hs:cw P e=some sz) {lo hi:Option Value} {ba:Option Addr} {len cap l u:Nat} (hc:len≤cap)
  (hb:(Instr.sliceBounds true len cap lo hi none).run P w=.ok (l,u,cap) w):
  (Instr.sliceAt t (.slice ba len cap) lo hi none).run P w=.ok (.slice (if cap=l then ba else ba.map (·.add (l*sz))) (u - l) (cap - l)) w:=by
 simp [Instr.sliceAt,run_underlying ht,Instr.slice,hb,run_sizeOf hs]
theorem nW {k:SK} {t:TypeId} (hk:match k with
   | .str=>P.underlying t=some .string
   | .sl sz=>∃e,P.underlying t=some (.slice e)∧cw P e=some sz
   | .arr n=>∃e,P.underlying t=some (.array n e)∧cw P e=some 1)
  {u:Value} {x d:D} {lo hi:Option Value} {dlo dhi:Option D} (hu:cL κ w u x) (rl:EF κ w lo dlo) (rh:EF κ w hi dhi) (e:gH k x dlo dhi none=some d):
  ∃v,(Instr.sliceAt t u lo hi none).run P w=.ok v w∧cL κ w v d:=by
 unfold gH at e
 simp only at e
 split at e
 ·-- a string
  rename_i s
  simp only [Option.map_eq_some_iff] at e
  obtain ⟨b,eb,rfl⟩:=e
  cases hu with
  | str _ hs=>
  obtain ⟨hb,h1,h2⟩:=l_ (P:=P) (κ:=κ) (w:=w) (Nat.le_refl s.length) false rl rh eb
  refine ⟨.string ⟨((s.drop b.1).take (b.2 - b.1)).toArray⟩,?_,.str _ (by simp; omega)⟩
  simp only at hk
  simp [Instr.sliceAt,run_underlying hk,Instr.slice,size_mk,hb,L3]
 ·-- plain elements
  rename_i sz xs
  obtain ⟨el,ht,hs⟩:=hk
  split at e
  ·rename_i vI
   simp only [Option.map_eq_some_iff] at e
   obtain ⟨b,eb,rfl⟩:=e
   cases hu with
   | slnil hb0=>
    rename_i ba cap
    obtain ⟨hb,h1,h2⟩:=l_ (P:=P) (κ:=κ) (w:=w) (Nat.zero_le cap) true rl rh eb
    have hb1:b.1=0:=by simp at h2; omega
    have yo:b.2=0:=by simpa using h2
    rw [hb1,yo] at hb ⊢
    refine ⟨_,rn ht hs (Nat.zero_le cap) hb,?_⟩
    simp only [Nat.zero_mul,Nat.sub_zero,Nat.sub_self,List.drop_zero,List.take_zero]
    refine .slnil fun e=>?_
    split at e
    ·exact hb0 e
    ·simp at e; exact hb0 e
   | sl f hn fu ug hc hr=>
    rename_i bb o jy cap
    obtain ⟨hb,h1,h2⟩:=l_ (P:=P) (κ:=κ) (w:=w) fu true rl rh eb
    have TJ:=rn (ba:=some ⟨bb,o,none⟩) ht hs fu hb
    have hlen:((xs.drop b.1).take (b.2 - b.1)).length=b.2 - b.1:=by simp; omega
    by_cases hx:b.1=b.2
    ·have lx:(xs.drop b.1).take (b.2 - b.1)=[]:=by simp [hx]
     rw [lx]
     refine ⟨_,TJ,?_⟩
     have e0:b.2 - b.1=([]:List (List D)).length:=by simp [hx]
     split
     ·exact .I3 (sz:=0) e0 (fun _ _=>undef) (by simp) (by simp) (by simp) (by simp) (by simp)
     ·simp only [Option.map_some,eM]
      exact .I3 (sz:=0) e0 (fun _ _=>undef) (by simp) (by simp) (by simp) (by simp) (by simp)
    ·have Vj:¬cap=b.1:=by omega
     rw [if_neg Vj] at TJ
     simp only [Option.map_some,eM] at TJ
     have iy:xs≠[]:=by intro h; subst h; simp at h2; omega
     obtain ⟨y,hy⟩:=List.exists_mem_of_ne_nil xs iy
     have al1:jy=sz:=by rw [←ug y hy,vI y hy]
     subst al1
     refine ⟨_,TJ,?_⟩
     refine .I3 (sz:=jy) (cap:=cap - b.1) hlen.symm (fun i j=>f (b.1+i) j) (by rw [hlen]; omega) (by rw [hlen]; omega) (fun z hz=>vI z (List.mem_of_mem_drop (List.mem_of_mem_take hz))) (fun i z j q hi hj=>?_) (fun i z j q hi hj=>?_)
     ·rw [List.getElem?_take] at hi
      split at hi
      ·rw [List.getElem?_drop] at hi
       have:=hc _ z j q hi hj
       rw [show o+b.1*jy+i*jy+j=o+(b.1+i)*jy+j by rw [Nat.add_mul]; omega]
       exact this
      ·cases hi
     ·rw [List.getElem?_take] at hi
      split at hi
      ·rw [List.getElem?_drop] at hi
       exact hr _ z j q hi hj
      ·cases hi
  ·cases e
 ·-- an array's cells
  rename_i n id aY off
  obtain ⟨el,ht,hs⟩:=hk
  split at e
  ·rename_i vJ
   obtain ⟨vJ,hn⟩:=vJ
   simp only [Option.map_eq_some_iff] at e
   obtain ⟨b,eb,rfl⟩:=e
   cases hu with
   | ptr hl hv ha=>
    rename_i p ad
    subst vJ
    obtain ⟨hb,h1,h2⟩:=l_ (P:=P) (κ:=κ) (w:=w) (Nat.le_refl n) false rl rh eb
    refine ⟨.slice (some (if n=b.1 then ad else ad.add (b.1*1))) (b.2 - b.1) (n - b.1),?_,?_⟩
    ·simp [Instr.sliceAt,run_underlying ht,Instr.sureAddr,hb,run_sizeOf hs]
    ·refine .u7 hl hv (by omega) (by omega) fun ev=>?_
     split
     ·exact .inl (by omega)
     ·rw [ha ev,eM]
      exact .inr (by simp [Nat.add_assoc])
  ·cases e
 ·cases e
theorem Bu {sz r aY off len:Nat} {t el:TypeId} (ht:P.underlying t=some (.slice el)) (hs:cw P el=some sz) {u:Value} {lo hi:Option Value} {dlo dhi:Option D}
  (hu:cL κ w u (.row r aY off len)) (rl:EF κ w lo dlo) (rh:EF κ w hi dhi) {b:Nat×Nat} (eb:bounds len dlo dhi=some b) (qd:∀p,κ.loc r=some p→p.sz=sz):
  ∃v,(Instr.sliceAt t u lo hi none).run P w=.ok v w∧cL κ w v (.row r aY (off+b.1) (b.2 - b.1)):=by
 cases hu with
 | row hl hv hn fu ha ho=>
  rename_i cap p ad
  obtain ⟨hb,h1,h2⟩:=l_ (P:=P) (κ:=κ) (w:=w) fu true rl rh eb
  have TJ:=rn (ba:=some ad) ht hs fu hb
  refine ⟨_,TJ,?_⟩
  split
  ·rename_i Vj
   exact .row hl hv (by omega) (by omega) (fun _=>.inl (by omega)) fun _ _ _=>.inl (by omega)
  ·rename_i Vj
   simp only [Option.map_some]
   have hsp:=qd p hl
   refine .row hl hv (by omega) (by omega) (fun ev=>?_) fun e he ev=>?_
   ·rcases ha ev with h0 | ⟨h0,h3⟩
    ·exact .inl (by omega)
    ·refine .inr ⟨?_,by omega⟩
     rw [h0,eM,hsp,Nat.add_mul]
     simp [Nat.add_assoc]
   ·rcases ho e he ev with h0 | ⟨h0,h3⟩
    ·exact .inl (by omega)
    ·refine .inr ⟨?_,by omega⟩
     rw [h0,eM,(p.ng e he).2,hsp,Nat.add_mul]
end Go.Proofs.YtpklkpkfgmoghaaGreatDoor.Zz
namespace Go.Proofs.YtpklkpkfgmoghaaGreatDoor.Zz
variable {P:Program} {κ:cT} {w:World}
def etT (P:Program) (t:TypeId):ET→Prop
 | .bool=>P.underlying t=some .bool
 | .ptr=>∃e,P.underlying t=some (.pointer e)
 | .slnil=>∃e,P.underlying t=some (.slice e)
 | .yQ=>∃a b c,P.underlying t=some (.func a b c)
 | .iface=>∃ms,P.underlying t=some (.interface ms)
 | .array n .Z_=>∃e k i,P.underlying t=some (.array n e)∧P.underlying e=some (.int k)∧P.eqGuardType P.depth t=false∧P.cellsOf e=1∧P.info? e=some i
 | _=>False
theorem U3 {t:TypeId} {e:ET} (h:He P t=some e):etT P t e:=by
 unfold He at h
 split at h
 case h_6=>
  rename_i n e he
  split at h
  ·rename_i k hk
   split at h
   ·rename_i hc
    cases h
    obtain ⟨i,hi⟩:=Option.isSome_iff_exists.1 hc.2.2
    exact ⟨e,k,i,he,hk,hc.1,hc.2.1,hi⟩
   ·cases h
  ·cases h
 all_goals (simp at h; try subst h; try simp [etT, *])
theorem gL {t:TypeId} {u v:Value} {b:Bool} (h:∀d,(Op.equalIn (d+1) t u v).run P w=.ok b w) (hb:∀op,binOp op t u v=match op with | .eql=>(do pure (.bool (←Op.equal t u v))) | .neq=>(do pure (.bool (!(←Op.equal t u v)))) | op=>binOp op t u v)
  (neg:Bool) (p q:Operand) (hg:eqGuard (if neg then .neq else .eql) t p q u v=pure ()):
  (do eqGuard (if neg then .neq else .eql) t p q u v; binOp (if neg then .neq else .eql) t u v).run P w=.ok (.bool (if neg then !b else b)) w:=by
 have h':(Op.equal t u v).run P w=.ok b w:=h 9999
 rw [hg,pure_bind,hb]
 cases neg<;>simp [h']
theorem wo {e:TypeId} {k:IntKind} {c1 c2:Array Value} (he:P.underlying e=some (.int k)):∀(as bs:List D) (off:Nat) (is:List Nat) (b:Bool),is=(List.range as.length).map (· +off)→as.length=bs.length→off+as.length=c1.size→off+as.length=c2.size→
  (∀(i:Nat) d,as[i]? =some d→cL κ w (c1.getD (i+off) (.tuple #[])) d)→(∀(i:Nat) d,bs[i]? =some d→cL κ w (c2.getD (i+off) (.tuple #[])) d)→Ab as bs=some b→
  ∀d,(Op.eqItems (d+1) e 1 c1 c2 is).run P w=.ok b w
 | [],[],off,is,b,hi,_,_,_,_,_,h=>fun d=>by
  cases h
  simp at hi
  subst hi
  simp [Op.eqItems]
 | x::as,y::bs,off,is,b,hi,hl,l1,l2,r1,r2,h=>fun d=>by
  have hx:=r1 0 x rfl
  have hy:=r2 0 y rfl
  simp only [Nat.zero_add] at hx hy
  have h0:off<c1.size:=by simp at l1; omega
  have h0':off<c2.size:=by simp at l2; omega
  have his:is=off::(List.range as.length).map (· +(off+1)):=by
   rw [hi,List.length_cons,List.range_succ_eq_map,List.map_cons,List.map_map]
   congr 1
   ·omega
   ·apply List.map_congr_left; intro i _; simp; omega
  rw [his]
  cases x with
  | int k1 a=>
   cases y with
   | int k2 c=>
    simp only [Ab] at h
    split at h
    ·rename_i hk
     subst hk
     have ga:c1[off]? =some (.int k1 a):=by
      rw [Array.getElem?_eq_getElem h0]
      have:c1.getD off (.tuple #[])=c1[off]:=by simp [Array.getD_eq_getD_getElem?,h0]
      rw [this] at hx
      generalize c1[off]=v at hx
      cases hx; rfl
     have gc:c2[off]? =some (.int k1 c):=by
      rw [Array.getElem?_eq_getElem h0']
      have:c2.getD off (.tuple #[])=c2[off]:=by simp [Array.getD_eq_getD_getElem?,h0']
      rw [this] at hy
      generalize c2[off]=v at hy
      cases hy; rfl
     have hp:P.plainKey e=true:=by simp [Program.plainKey,he]
     have p1:=run_part_plain (P:=P) w hp ga
     have p2:=run_part_plain (P:=P) w hp gc
     simp only [Op.eqItems,Nat.mul_one,Sem.run_bind,p1,p2,Result.andThen_ok,run_equalIn_int w d e k1 k a c he]
     split at h
     ·rename_i ie
      rw [ie]
      simp only [Bool.not_true,Bool.false_eq_true,if_false]
      exact wo he as bs (off+1) _ b rfl (by simpa using hl) (by simp at l1; omega) (by simp at l2; omega)
       (fun i d hd=>by have:=r1 (i+1) d hd; rwa [show i+1+off=i+(off+1) by omega] at this)
       (fun i d hd=>by have:=r2 (i+1) d hd; rwa [show i+1+off=i+(off+1) by omega] at this) h d
     ·rename_i ie
      cases h
      have:(a==c)=false:=by simpa using ie
      rw [this]
      simp
    ·cases h
   | _=>cases h
  | _=>cases h
 | [],_::_,_,_,_,_,hl,_,_,_,_,_=>by simp at hl
 | _::_,[],_,_,_,_,hl,_,_,_,_,_=>by simp at hl
theorem Hd {n:Nat} {t:TypeId} (ht:etT P t (.array n .Z_)) {c1 c2:Array Value} {a b:List D} {r:Bool} (hl:c1.size=n∧a.length=n) (hl2:c2.size=n∧b.length=n) (r1:∀(i:Nat) d,a[i]? =some d→cL κ w (c1.getD i (.tuple #[])) d) (r2:∀(i:Nat) d,b[i]? =some d→cL κ w (c2.getD i (.tuple #[])) d)
  (e:Ab a b=some r) (neg:Bool) (p q:Operand):
  (do eqGuard (if neg then .neq else .eql) t p q (.agg c1) (.agg c2); binOp (if neg then .neq else .eql) t (.agg c1) (.agg c2)).run P w=.ok (.bool (if neg then !r else r)) w:=by
 obtain ⟨el,k,i,h1,h2,h3,h4,h5⟩:=ht
 have hE:(Op.equalIn 10000 t (.agg c1) (.agg c2)).run P w=.ok r w:=by
  rw [run_equalIn_array w 9999 c1 c2 h1 h5,h4]
  exact wo h2 a b 0 _ r (by rw [hl.2]; simp) (by omega) (by omega) (by omega) (fun i d hd=>r1 i d hd) (fun i d hd=>r2 i d hd) e 9998
 cases neg<;>simp only [Bool.false_eq_true,if_false,if_true,Sem.run_bind,run_eqGuard_agg w _ t p q c1 c2 h3,Result.andThen_ok,run_eql_struct,run_neq_struct,hE]
theorem Aa {et:ET} {t:TypeId} (ht:etT P t et) {u v:Value} {x y:D} {b:Bool} (hu:cL κ w u x) (hv:cL κ w v y) (e:kh et x y=some b) (neg:Bool) (p q:Operand)
  (hc:et=.iface→kV p=true∨kV q=true):
  (do eqGuard (if neg then .neq else .eql) t p q u v; binOp (if neg then .neq else .eql) t u v).run P w=.ok (.bool (if neg then !b else b)) w:=by
 unfold kh at e
 split at e
 case h_11=>
  split at e
  ·rename_i hl
   cases hu with
   | agg s1 r1=>
    cases hv with
    | agg s2 r2=>exact Hd ht (by omega) (by omega) r1 r2 e neg p q
  ·cases e
 all_goals cases e
 ·-- bools
  cases hu; cases hv
  refine gL ?_ (fun op=>by cases op<;>rfl) neg p q (cS ⟨fun _=>by simp,by simp⟩)
  simp only [etT] at ht
  intro d
  simp [Op.equalIn,run_underlying ht]
 ·cases hu; cases hv
  obtain ⟨el,ht⟩:=ht
  refine gL ?_ (fun op=>by cases op<;>rfl) neg p q (cS ⟨fun _=>by simp,by simp⟩)
  intro d
  simp [Op.equalIn,run_underlying ht]
 ·cases hu; cases hv
  obtain ⟨el,ht⟩:=ht
  refine gL ?_ (fun op=>by cases op<;>rfl) neg p q (cS ⟨fun _=>by simp,by simp⟩)
  intro d
  simp [Op.equalIn,run_underlying ht]
 ·cases hu; cases hv
  obtain ⟨el,ht⟩:=ht
  refine gL ?_ (fun op=>by cases op<;>rfl) neg p q (cS ⟨fun _=>by simp,by simp⟩)
  intro d
  simp [Op.equalIn,run_underlying ht]
 ·cases hu; cases hv
  obtain ⟨el,ht⟩:=ht
  refine gL ?_ (fun op=>by cases op<;>rfl) neg p q (cS ⟨fun _=>by simp,by simp⟩)
  intro d
  simp [Op.equalIn,run_underlying ht]
 ·cases hu; cases hv
  obtain ⟨a1,a2,a3,ht⟩:=ht
  refine gL ?_ (fun op=>by cases op<;>rfl) neg p q (cS ⟨fun _=>by simp,by simp⟩)
  intro d
  simp [Op.equalIn,run_underlying ht]
 ·cases hu; cases hv
  obtain ⟨a1,a2,a3,ht⟩:=ht
  refine gL ?_ (fun op=>by cases op<;>rfl) neg p q (cS ⟨fun _=>by simp,by simp⟩)
  intro d
  simp [Op.equalIn,run_underlying ht]
 ·cases hu; cases hv
  obtain ⟨ms,ht⟩:=ht
  have hg:eqGuard (if neg then .neq else .eql) t p q .nilIface .nilIface=pure ():=by
   rcases hc rfl with h | h
   ·cases p<;>simp [kV] at h
    cases neg<;>simp [eqGuard_nil_constL]
   ·cases q<;>simp [kV] at h
    cases neg<;>simp [eqGuard_nil_constR]
  refine gL (b:=true) (fun d=>?_) (fun op=>by cases op<;>rfl) neg p q hg
  simp [Op.equalIn,run_underlying ht]
 ·cases hu; cases hv
  obtain ⟨ms,ht⟩:=ht
  refine gL ?_ (fun op=>by cases op<;>rfl) neg p q (cS ⟨fun _=>by simp,by simp⟩)
  intro d
  simp [Op.equalIn,run_underlying ht]
 ·cases hu; cases hv
  obtain ⟨ms,ht⟩:=ht
  refine gL (b:=false) (fun d=>?_) (fun op=>by cases op<;>rfl) neg p q (by cases neg<;>simp [eqGuard])
  simp [Op.equalIn,run_underlying ht]
theorem pG (cs:List D) (off:Nat) (ds:List D):(setAt cs off ds).length=cs.length:=by
 induction ds generalizing cs off with
 | nil=>rfl
 | cons d ds ih=>simp [setAt,ih]
theorem si (cs:List D) (off:Nat) (ds:List D) (i:Nat):(setAt cs off ds)[i]? =if off≤i∧i<off+ds.length∧i<cs.length then ds[i - off]? else cs[i]? :=by
 induction ds generalizing cs off with
 | nil=>
  simp only [setAt,List.length_nil]
  split
  ·omega
  ·rfl
 | cons d ds ih=>
  rw [setAt,ih]
  simp only [List.length_set,List.length_cons]
  by_cases h0:i=off
  ·subst h0
   by_cases hl:i<cs.length
   ·have c1:¬(i+1≤i∧i<i+1+ds.length∧i<cs.length):=by omega
    have c2:i≤i∧i<i+(ds.length+1)∧i<cs.length:=by omega
    rw [if_neg c1,if_pos c2]
    simp [hl]
   ·have c1:¬(i+1≤i∧i<i+1+ds.length∧i<cs.length):=by omega
    have c2:¬(i≤i∧i<i+(ds.length+1)∧i<cs.length):=by omega
    rw [if_neg c1,if_neg c2]
    simp [hl]
  ·have e1:(cs.set off d)[i]? =cs[i]? :=List.getElem?_set_ne (fun h=>h0 h.symm)
   rw [e1]
   by_cases c:off+1≤i∧i<off+1+ds.length∧i<cs.length
   ·have c2:off≤i∧i<off+(ds.length+1)∧i<cs.length:=by omega
    rw [if_pos c,if_pos c2]
    rw [show i - off=(i - (off+1))+1 by omega]
    simp
   ·have c2:¬(off≤i∧i<off+(ds.length+1)∧i<cs.length):=by omega
    rw [if_neg c,if_neg c2]
theorem KJ (vs:List Value):∀(cs:Array Value) (off k:Nat),((vs.zipIdx k).foldl (fun cs (c,j)=>cs.setIfInBounds (off+j) c) cs).toList=
  (List.range cs.size).map fun i=>if off+k≤i∧i<off+k+vs.length then vs.getD (i - (off+k)) undef else cs.getD i undef:=by
 induction vs with
 | nil=>
  intro cs off k
  simp only [List.zipIdx_nil,List.foldl_nil,List.length_nil]
  apply List.ext_getElem
  ·simp
  ·intro i h1 h2
   simp at h1
   have:¬(off+k≤i∧i<off+k+0):=by omega
   simp [h1]
   omega
 | cons v vs ih=>
  intro cs off k
  simp only [List.zipIdx_cons,List.foldl_cons]
  rw [ih]
  simp only [Array.size_setIfInBounds,List.length_cons]
  apply List.map_congr_left
  intro i hi
  simp at hi
  by_cases h0:i=off+k
  ·subst h0
   have c1:¬(off+(k+1)≤off+k∧off+k<off+(k+1)+vs.length):=by omega
   have c2:off+k≤off+k∧off+k<off+k+(vs.length+1):=by omega
   rw [if_neg c1,if_pos c2]
   simp [hi]
  ·have e1:(cs.setIfInBounds (off+k) v).getD i undef=cs.getD i undef:=by
    simp [Array.getD_eq_getD_getElem?,Array.getElem?_setIfInBounds_ne (fun h=>h0 h.symm)]
   rw [e1]
   by_cases c:off+(k+1)≤i∧i<off+(k+1)+vs.length
   ·have c2:off+k≤i∧i<off+k+(vs.length+1):=by omega
    rw [if_pos c,if_pos c2,show i - (off+k)=(i - (off+(k+1)))+1 by omega]
    simp
   ·have c2:¬(off+k≤i∧i<off+k+(vs.length+1)):=by omega
    rw [if_neg c,if_neg c2]
theorem aaD {cs:Array Value} {ds es:List D} {vs:Array Value} (h:cn κ w cs.toList ds) (hv:cn κ w vs.toList es) (off:Nat):
  cn κ w (vs.zipIdx.foldl (fun cs (c,j)=>cs.setIfInBounds (off+j) c) cs).toList (setAt ds off es):=by
 have hz:vs.zipIdx.foldl (fun cs (c,j)=>cs.setIfInBounds (off+j) c) cs=(vs.toList.zipIdx 0).foldl (fun cs (c,j)=>cs.setIfInBounds (off+j) c) cs:=by
  rw [←Array.foldl_toList]
  simp
 have hlen:=h.length
 have ahI:=hv.length
 simp at hlen ahI
 rw [hz,KJ]
 refine cn.qP (by simp [pG,hlen]) fun i d hd=>?_
 rw [si] at hd
 have hi:i<ds.length:=by
  split at hd
  ·omega
  ·exact (List.getElem?_eq_some_iff.1 hd).1
 have mI:i<cs.size:=by omega
 refine ⟨_,by simp [mI]; rfl,?_⟩
 by_cases c:off≤i∧i<off+es.length∧i<ds.length
 ·rw [if_pos c] at hd
  obtain ⟨v,e1,r⟩:=hv.get _ _ hd
  have e1':vs[i - off]? =some v:=by simpa using e1
  have c':off≤i∧i<off+vs.size:=by omega
  simp [c',e1',r]
 ·rw [if_neg c] at hd
  obtain ⟨v,e1,r⟩:=h.get _ _ hd
  have e1':cs[i]=v:=by simpa [mI] using e1
  have c':¬(off≤i∧i<off+vs.size):=by omega
  simp [c',mI,e1',r]
end Go.Proofs.YtpklkpkfgmoghaaGreatDoor.Zz
namespace Go.Proofs.YtpklkpkfgmoghaaGreatDoor.Zz
variable {P:Program} {κ:cT} {w:World} {σ:Fr} {n:Nat} {a:Act}
theorem um [aT] (hp:lf κ w σ n a) {x:Option Operand} {y:Option iC} (e:Ii x=some y):EF κ w (x.map a.eval) (y.map σ.ev):=by
  cases x with
  | none=>simp [Ii] at e; subst e; exact .none
  | some x=>
    simp only [Ii,Option.map_eq_some_iff] at e
    obtain ⟨z,e1,rfl⟩:=e
    exact .some (bG hp e1)
theorem s_ {place:Nat→Option (Nat×Nat)} {cells:Array Value} {zs:List D} (hz:cn κ w cells.toList zs):
    ∀(ps:List (Nat×Value)) (qs:List (Nat×Nat×D)),ps.length=qs.length→
      (∀(i:Nat) (j:Nat) (v:Value),ps[i]? =some (j,v)→∃(off sz:Nat) (d:D),qs[i]? =some (off,sz,d)∧place j=some (off,sz)∧cL κ w v d)→
      ∀ds,jP zs qs=some ds→∃cs,Instr.fill place cells ps=some cs∧cn κ w cs.toList ds:=by
  intro ps
  induction ps generalizing cells zs with
  | nil=>
    intro qs hl _ ds e
    cases qs with
    | nil=>simp [jP] at e; subst e; exact ⟨cells,by simp [Instr.fill],hz⟩
    | cons _ _=>simp at hl
  | cons p ps ih=>
    intro qs hl hh ds e
    cases qs with
    | nil=>simp at hl
    | cons q qs=>
      obtain ⟨j,v⟩:=p
      obtain ⟨off,sz,d,e1,e2,r⟩:=hh 0 j v (by simp)
      simp at e1
      subst e1
      simp only [jP] at e
      split at e
      · rename_i hc
        obtain ⟨c1,c2,c3⟩:=hc
        have hnu:d≠.undef:=by
          intro h; subst h; simp [cellsD,bX] at c3
        have rc:=r9 r hnu
        have l1:=rc.length
        have l2:=hz.length
        simp at l1 l2
        obtain ⟨cs,f1,f2⟩:=ih (aaD hz rc off) qs (by simpa using hl) (fun i j v h=>by
          have:=hh (i+1) j v (by simpa using h)
          simpa using this) ds e
        refine ⟨cs,?_,f2⟩
        rw [Instr.fill,e2]
        simp only
        rw [if_neg (by simp; omega)]
        exact f1
      · cases e
theorem uu [aT] {fs:Array Field} (hp:lf κ w σ n a):∀(ps:List (Nat×Operand)) (qs:List (Nat×Nat×iC)),partsOf P fs ps=some qs→
    ps.length=qs.length∧∀(i:Nat) (j:Nat) (x:Operand),ps[i]? =some (j,x)→∃f y m,fs[j]? =some f∧cw P f.type=some m∧qs[i]? =some (f.offset,m,y)∧cL κ w (a.eval x) (σ.ev y)
  | [],qs,e=>by simp [partsOf] at e; subst e; exact ⟨rfl,fun i j x h=>by simp at h⟩
  | (j0,x0)::ps,qs,e=>by
    simp only [partsOf] at e
    split at e
    · rename_i f y qs' e1 e2 e3
      simp only [Option.map_eq_some_iff] at e
      obtain ⟨m,e4,rfl⟩:=e
      obtain ⟨h1,h2⟩:=uu hp ps qs' e3
      refine ⟨by simp [h1],fun i j x h=>?_⟩
      cases i with
      | zero=>
        simp at h
        obtain ⟨rfl,rfl⟩:=h
        exact ⟨f,y,m,e1,e4,by simp,bG hp e2⟩
      | succ i=>simpa using h2 i j x (by simpa using h)
    · cases e
theorem sS [aT] {sz:Nat} (hp:lf κ w σ n a):∀(ps:List (Nat×Operand)) (qs:List (Nat×Nat×iC)),qV sz ps=some qs→
    ps.length=qs.length∧∀(i:Nat) (j:Nat) (x:Operand),ps[i]? =some (j,x)→∃y,qs[i]? =some (j*sz,sz,y)∧cL κ w (a.eval x) (σ.ev y)
  | [],qs,e=>by simp [qV] at e; subst e; exact ⟨rfl,fun i j x h=>by simp at h⟩
  | (j0,x0)::ps,qs,e=>by
    simp only [qV] at e
    split at e
    · rename_i y qs' e2 e3
      cases e
      obtain ⟨h1,h2⟩:=sS hp ps qs' e3
      refine ⟨by simp [h1],fun i j x h=>?_⟩
      cases i with
      | zero=>
        simp at h
        obtain ⟨rfl,rfl⟩:=h
        exact ⟨y,by simp,bG hp e2⟩
      | succ i=>simpa using h2 i j x (by simpa using h)
    · cases e
theorem sT [aT] (hp:lf κ w σ n a):∀(ps:List (Nat×Operand)) (qs:List (Nat×iC)),qX ps=some qs→
    ps.length=qs.length∧∀(i:Nat) (j:Nat) (x:Operand),ps[i]? =some (j,x)→∃y,qs[i]? =some (j,y)∧cL κ w (a.eval x) (σ.ev y)
  | [],qs,e=>by simp [qX] at e; subst e; exact ⟨rfl,fun i j x h=>by simp at h⟩
  | (j0,x0)::ps,qs,e=>by
    simp only [qX] at e
    split at e
    · rename_i y qs' e2 e3
      cases e
      obtain ⟨h1,h2⟩:=sT hp ps qs' e3
      refine ⟨by simp [h1],fun i j x h=>?_⟩
      cases i with
      | zero=>
        simp at h
        obtain ⟨rfl,rfl⟩:=h
        exact ⟨y,by simp,bG hp e2⟩
      | succ i=>simpa using h2 i j x (by simpa using h)
    · cases e
theorem kF {t:TypeId} {z:D} (e:ic P t=some z) (κ:cT) (w:World):∃v,(zeroValue t).run P w=.ok v w∧cn κ w v.cells.toList (cellsD z)∧∃i,P.info? t=some i∧i.zero=some v:=by
  obtain ⟨v,h1,h2,i,h3,h4⟩:=sW e κ w
  refine ⟨v,h1,?_,i,h3,h4⟩
  have e':=e
  unfold ic at e'
  simp only [h3,Option.bind_some,h4] at e'
  by_cases hu:z=.undef
  · exfalso
    subst hu
    unfold TQ at e'
    split at e'
    · rename_i cs0
      cases hl:KV cs0.toList<;>simp [hl] at e'
    · unfold TP at e'
      split at e'<;>first | (simp at e'; done) | (split at e'<;>simp at e')
  · exact r9 h2 hu
theorem yz {fs:Array Field} (hs:∀f∈fs.toList,∃m,cw P f.type=some m) (w:World):
    ∃pl:Array (Nat×Nat),(fs.mapM fun (f:Field)=>(do pure (f.offset,←sizeOf f.type):Sem (Nat×Nat))).run P w=.ok pl w∧∀(j:Nat) (f:Field) (m:Nat),fs[j]? =some f→cw P f.type=some m→pl[j]? =some (f.offset,m):=by
  have key:∀l:List Field,(∀f∈l,∃m,cw P f.type=some m)→∃pl:List (Nat×Nat),(l.mapM fun (f:Field)=>(do pure (f.offset,←sizeOf f.type):Sem (Nat×Nat))).run P w=.ok pl w∧∀(j:Nat) (f:Field) (m:Nat),l[j]? =some f→cw P f.type=some m→pl[j]? =some (f.offset,m):=by
    intro l
    induction l with
    | nil=>intro _; exact ⟨[],by simp,fun j f m h=>by simp at h⟩
    | cons f l ih=>
      intro h
      obtain ⟨m,hm⟩:=h f (by simp)
      obtain ⟨pl,h1,h2⟩:=ih fun g hg=>h g (by simp [hg])
      refine ⟨(f.offset,m)::pl,?_,fun j g k hj hk=>?_⟩
      · rw [List.mapM_cons]; simp only [Sem.run_bind,run_sizeOf hm,Result.andThen,Sem.run_pure,h1]
      · cases j with
        | zero=>simp at hj; subst hj; rw [hm] at hk; cases hk; simp
        | succ j=>simpa using h2 j g k (by simpa using hj) hk
  obtain ⟨pl,h1,h2⟩:=key fs.toList hs
  refine ⟨pl.toArray,?_,fun j f m hj hk=>by simpa using h2 j f m (by simpa using hj) hk⟩
  rw [Array.mapM_eq_mapM_toList]
  simp only [Sem.run_map,h1,Result.andThen]
theorem Ss {fs:Array Field} {P:Program} (h:fs.toList.all (fun f=>(cw P f.type).isSome)=true):∀f∈fs.toList,∃m,cw P f.type=some m:=by
  intro f hf
  have:=List.all_eq_true.1 h f hf
  exact Option.isSome_iff_exists.1 this
theorem MX {cs:Array Value} {ds:List D} (h:cn κ w cs.toList ds) (i:Nat) (d:D) (e:ds[i]? =some d):∃v,cs[i]? =some v∧cL κ w v d:=by
  obtain ⟨v,e1,r⟩:=h.get i d e
  exact ⟨v,by simpa using e1,r⟩
theorem Af {f:Field} {m:Nat} (hm:cw P f.type=some m) (h0:m≠0) (ad:Addr) (w:World):(fieldPlace ad f).run P w=.ok (ad.add f.offset) w:=by
  simp [fieldPlace,run_sizeOf hm,h0]
theorem qS [aT] {l:List Operand} {ys:List iC} (e:qR l=some ys):l.length=ys.length:=by
  induction l generalizing ys with
  | nil=>simp [qR] at e; subst e; rfl
  | cons x l ih=>
    simp only [qR,List.mapM_cons,Option.bind_eq_bind,Option.bind_eq_some_iff] at e
    obtain ⟨y,e1,ys',e2,e3⟩:=e
    cases e3
    simp [ih e2]
theorem uo [aT] (hp:lf κ w σ n a) {arr:Array Operand} {x y:iC} (e:qR arr.toList=some [x,y]):
    ∃v u,arr.map a.eval= #[v,u]∧cL κ w v (σ.ev x)∧cL κ w u (σ.ev y):=by
  have hl:=qS e
  have r:=mq hp e
  match h:arr.toList,hl with
  | [p,q],_=>
    rw [h] at r
    cases r with
    | cons r1 t=>cases t with
      | cons r2 t=>exact ⟨_,_,by apply Array.ext'; simp [h],r1,r2⟩
theorem VY [aT] (hp:lf κ w σ n a) {arr:Array Operand} {x:iC} (e:qR arr.toList=some [x]):
    ∃v,arr.map a.eval= #[v]∧cL κ w v (σ.ev x):=by
  have hl:=qS e
  have r:=mq hp e
  match h:arr.toList,hl with
  | [p],_=>
    rw [h] at r
    cases r with
    | cons r1 t=>exact ⟨_,by apply Array.ext'; simp [h],r1⟩
theorem Mg [aT] {r q:Bool} {o:Oper} {i:cf iC} (hc:km P r q o=some i) (hp:lf κ w σ n a) {d:D} (he:bC (i.map σ.ev)=some d):sI P κ w (execOp a.eval o) d:=by
  unfold km at hc
  unfold execOp
  split at hc
  · -- move
    rename_i x gU
    simp only [Option.map_eq_some_iff] at hc
    obtain ⟨y,e1,rfl⟩:=hc
    simp only [cf.map,bC,Option.some.injEq] at he
    subst he
    exact ⟨a.eval x,by simp [gU],bG hp e1⟩
  · rename_i x gU
    simp only [Option.map_eq_some_iff] at hc
    obtain ⟨y,e1,rfl⟩:=hc
    simp only [cf.map,bC,Option.some.injEq] at he
    subst he
    exact ⟨a.eval x,by simp [gU],bG hp e1⟩
  · -- pick
    split at hc
    · cases hc; simp [cf.map,bC] at he
    · cases hc
  · simp only [Option.map_eq_some_iff] at hc; obtain ⟨y,e1,rfl⟩:=hc; simp [cf.map,bC] at he
  · simp only [Option.map_eq_some_iff] at hc; obtain ⟨y,e1,rfl⟩:=hc; simp [cf.map,bC] at he
  · -- build
    rename_i t ps gU
    split at hc
    · rename_i fs z ht hz
      split at hc
      · rename_i vI
        simp only [Option.map_eq_some_iff] at hc
        obtain ⟨qs,e1,rfl⟩:=hc
        simp only [cf.map,bC,Option.map_eq_some_iff] at he
        obtain ⟨ds,e2,rfl⟩:=he
        obtain ⟨zv,z1,z2,_⟩:=kF hz κ w
        obtain ⟨pl,p1,p2⟩:=yz (Ss vI) w
        obtain ⟨h1,h2⟩:=uu hp _ _ e1
        obtain ⟨cs,f1,f2⟩:=s_ (place:=(pl[·]?)) z2 (ps.toList.map fun p=>(p.1,a.eval p.2)) (qs.map fun p=>(p.1,p.2.1,σ.ev p.2.2)) (by simpa using h1) (fun i j v h=>by
          simp only [List.getElem?_map,Option.map_eq_some_iff] at h
          obtain ⟨⟨j',x⟩,h3,h4⟩:=h
          cases h4
          obtain ⟨f,y,m,g1,g2,g3,g4⟩:=h2 i _ x h3
          exact ⟨f.offset,m,σ.ev y,by simp [g3],p2 _ f m g1 g2,g4⟩) ds e2
        refine ⟨.agg cs,?_,f2.agg⟩
        simp only [gU]
        have B9:(Array.map (fun (x:Nat×Operand)=>(x.1,a.eval x.2)) ps).toList=ps.toList.map fun p=>(p.1,a.eval p.2):=by simp
        simp only [Sem.run_bind,Instr.build,z1,Result.andThen,run_underlying ht,p1,B9,f1,Sem.run_pure]
      · cases hc
    · rename_i ln el z ht hz
      split at hc
      · rename_i sz qd
        simp only [Option.map_eq_some_iff] at hc
        obtain ⟨qs,e1,rfl⟩:=hc
        simp only [cf.map,bC,Option.map_eq_some_iff] at he
        obtain ⟨ds,e2,rfl⟩:=he
        obtain ⟨zv,z1,z2,_⟩:=kF hz κ w
        obtain ⟨h1,h2⟩:=sS hp _ _ e1
        obtain ⟨cs,f1,f2⟩:=s_ (place:=fun i=>some (i*sz,sz)) z2 (ps.toList.map fun p=>(p.1,a.eval p.2)) (qs.map fun p=>(p.1,p.2.1,σ.ev p.2.2)) (by simpa using h1) (fun i j v h=>by
          simp only [List.getElem?_map,Option.map_eq_some_iff] at h
          obtain ⟨⟨j',x⟩,h3,h4⟩:=h
          cases h4
          obtain ⟨y,g3,g4⟩:=h2 i _ x h3
          exact ⟨_,sz,σ.ev y,by simp [g3],rfl,g4⟩) ds e2
        refine ⟨.agg cs,?_,f2.agg⟩
        simp only [gU]
        have B9:(Array.map (fun (x:Nat×Operand)=>(x.1,a.eval x.2)) ps).toList=ps.toList.map fun p=>(p.1,a.eval p.2):=by simp
        simp only [Sem.run_bind,Instr.build,z1,Result.andThen,run_underlying ht,run_sizeOf qd,B9,f1,Sem.run_pure]
      · cases hc
    · cases hc
  · -- buildSlice
    (repeat' split at hc)<;>first | (cases hc; done) | (simp only [Option.map_eq_some_iff] at hc; obtain ⟨y,e1,rfl⟩:=hc; simp [cf.map,bC] at he)
  · (repeat' split at hc)<;>first | (cases hc; done) | (cases hc; simp [cf.map,bC] at he)
  · (repeat' split at hc)<;>first | (cases hc; done) | (cases hc; simp [cf.map,bC] at he)
  · -- nilCheck
    rename_i x gU
    simp only [Option.map_eq_some_iff] at hc
    obtain ⟨y,e1,rfl⟩:=hc
    have r:=bG hp e1
    simp only [cf.map,bC] at he
    simp only [gU]
    generalize a.eval x=u at r ⊢
    generalize σ.ev y=e at r he
    have r0:=r
    split at he<;>cases he<;>cases r<;>exact ⟨_,rfl,r0⟩
  · -- binOp
    rename_i op t x y yt gU
    split at hc
    · rename_i p1 p2 e1 e2
      have r1:=bG hp e1
      have r2:=bG hp e2
      simp only [gU]
      split at hc
      · (repeat' split at hc)
        · cases hc
          simp only [cf.map,bC] at he
          obtain ⟨v,h1,h2⟩:=qo (P:=P) r1 r2 he t x y
          exact sI.of h1 h2
        all_goals first
          | (cases hc; done)
          | (cases hc; simp [cf.map,bC] at he; done)
          | (simp only [Option.map_eq_some_iff] at hc
             obtain ⟨et,e3,rfl⟩:=hc
             simp only [cf.map,bC,Option.map_eq_some_iff] at he
             obtain ⟨b,e4,rfl⟩:=he
             refine sI.of (Aa (P:=P) (U3 e3) r1 r2 e4 false x y (fun h=>?_)) (.bool _)
             first
               | (rename_i mg; exact (Bool.or_eq_true _ _).mp mg)
               | (subst h; simp_all))
      · (repeat' split at hc)
        · cases hc
          simp only [cf.map,bC] at he
          obtain ⟨v,h1,h2⟩:=qo (P:=P) r1 r2 he t x y
          exact sI.of h1 h2
        all_goals first
          | (cases hc; done)
          | (cases hc; simp [cf.map,bC] at he; done)
          | (simp only [Option.map_eq_some_iff] at hc
             obtain ⟨et,e3,rfl⟩:=hc
             simp only [cf.map,bC,Option.map_eq_some_iff] at he
             obtain ⟨b,e4,rfl⟩:=he
             refine sI.of (Aa (P:=P) (U3 e3) r1 r2 e4 true x y (fun h=>?_)) (.bool _)
             first
               | (rename_i mg; exact (Bool.or_eq_true _ _).mp mg)
               | (subst h; simp_all))
      · split at hc
        · cases hc
          simp [cf.map,bC] at he
        · cases hc
          simp only [cf.map,bC] at he
          obtain ⟨v,h1,h2⟩:=qo (P:=P) r1 r2 he t x y
          exact sI.of h1 h2
    · cases hc
  · -- unOp
    rename_i op t x gU
    simp only [Option.map_eq_some_iff] at hc
    obtain ⟨y,e1,rfl⟩:=hc
    simp only [cf.map,bC] at he
    obtain ⟨v,h1,h2⟩:=MP (P:=P) (bG hp e1) he
    simp only [gU]
    exact sI.of h1 h2
  · -- convert
    rename_i s dt x gU
    split at hc
    · rename_i ck y e1 e2
      cases hc
      have r:=bG hp e2
      simp only [cf.map,bC] at he
      simp only [gU]
      unfold Sc at e1
      generalize a.eval x=u at r ⊢
      generalize σ.ev y=e at r he
      split at he
      · cases he; cases r
        rename_i k k' m
        refine sI.of (v:=.int k (k.wrap m)) ?_ (.int _ _)
        split at e1<;>(try split at e1)<;>cases e1
        rename_i h1 h2
        simp [convert,run_underlying h1,run_underlying h2,Conv.intToInt]
      · cases he; cases r
        rename_i k' m
        refine sI.of (v:=.float .f64 (FloatKind.f64.nearest m)) ?_ (.float _ _)
        split at e1<;>(try split at e1)<;>cases e1
        rename_i h1 h2
        simp [convert,run_underlying h1,run_underlying h2,Conv.intToFloat]
      · cases he; cases r
        rename_i s0 hs0
        refine sI.of (v:=.string ⟨s0.toArray⟩) ?_ (.str _ hs0)
        split at e1<;>(try split at e1)<;>cases e1
        rename_i h1 h2
        simp [convert,run_underlying h1,run_underlying h2]
      · simp only [Option.map_eq_some_iff] at he
        obtain ⟨n0,he1,rfl⟩:=he
        cases r
        rename_i k' m
        refine sI.of (v:=.int k' n0) ?_ (.int _ _)
        split at e1<;>(try split at e1)<;>cases e1
        rename_i h1 h2
        exact run_convert_float_int w s dt .f64 k' m n0 (by rw [h1]; rfl) h2 he1
      · cases he; cases r
        rename_i m
        refine sI.of (v:=.float .f64 m) ?_ (.float _ _)
        split at e1<;>(try split at e1)<;>cases e1
        rename_i h1 h2
        simp [convert,run_underlying h1,run_underlying h2,Conv.floatToFloat]
      · cases he
    · cases hc
  · -- sliceToArrayPointer
    rename_i t x gU
    split at hc
    · rename_i n el y h1 e1
      cases hc
      have r:=bG hp e1
      simp only [cf.map,bC] at he
      simp only [gU]
      generalize a.eval x=u at r ⊢
      generalize σ.ev y=e at r he
      split at he
      · split at he
        · rename_i hn
          cases he
          cases r with
          | u7 hl hv tg fu ha=>
            rename_i ale p0 a0
            refine sI.of (v:=.pointer (some a0)) ?_ (.ptr hl hv fun e=>?_)
            · simp only [Instr.arrayAt,Sem.run_bind,run_underlying h1,Result.andThen]
              rw [if_neg (by omega)]; rfl
            · rcases ha e with h0 | h0
              · omega
              · exact h0
        · cases he
      · cases he
    · cases hc
  · -- makeInterface
    rename_i t x gU
    split at hc
    · cases hc
    · rename_i hni ht
      simp only [Option.map_eq_some_iff] at hc
      obtain ⟨y,e1,rfl⟩:=hc
      simp only [cf.map,bC,Option.some.injEq] at he
      subst he
      simp only [gU]
      rename_i td
      refine sI.of (v:=.iface t (a.eval x)) ?_ (.iface (bG hp e1))
      simp only [Instr.makeInterface,Sem.run_bind,run_underlying ht,Result.andThen]
      rfl
    · cases hc
  · -- makeFunc
    rename_i fn x y gU
    split at hc
    · rename_i xs ys e1 e2
      cases hc
      simp only [cf.map,bC,Option.some.injEq] at he
      subst he
      simp only [gU]
      have r1:=mq hp e1
      have r2:=mq hp e2
      refine sI.of (v:=.func fn (x.map a.eval) (y.map a.eval)) rfl ?_
      refine .func (by have:=r1.length; simpa using this) (by have:=r2.length; simpa using this) (fun i d hd=>?_) (fun i d hd=>?_)
      · obtain ⟨v,g1,g2⟩:=r1.get i d hd
        have:(x.map a.eval)[i]? =some v:=by simpa using g1
        simpa [Array.getD_eq_getD_getElem?,this] using g2
      · obtain ⟨v,g1,g2⟩:=r2.get i d hd
        have:(y.map a.eval)[i]? =some v:=by simpa using g1
        simpa [Array.getD_eq_getD_getElem?,this] using g2
    · cases hc
  · -- slice
    rename_i t x lo hi mx gU
    split at hc
    · rename_i x' lo' mI e1 e2 e3 e4
      have hmx:mx=none:=by
        cases mx with
        | none=>rfl
        | some z=>simp only [Ii,Option.map_eq_some_iff,reduceCtorEq,and_false,exists_false] at e4
      subst hmx
      have rl:=um hp e2
      have rh:=um hp e3
      have r:=bG hp e1
      simp only [gU]
      split at hc
      · rename_i ht
        cases hc
        simp only [cf.map,bC,Option.map_none] at he
        obtain ⟨v,h1,h2⟩:=nW (k:=.str) (t:=t) ht r rl rh he
        exact sI.of h1 h2
      · rename_i el ht
        simp only [Option.map_eq_some_iff] at hc
        obtain ⟨sz,hs,rfl⟩:=hc
        simp only [cf.map,bC,Option.map_none] at he
        obtain ⟨v,h1,h2⟩:=nW (k:=.sl sz) (t:=t) ⟨el,ht,hs⟩ r rl rh he
        exact sI.of h1 h2
      · rename_i m el ht
        split at hc
        · rename_i hs
          cases hc
          simp only [cf.map,bC,Option.map_none] at he
          obtain ⟨v,h1,h2⟩:=nW (k:=.arr m) (t:=t) ⟨el,ht,hs⟩ r rl rh he
          exact sI.of h1 h2
        · cases hc
      · cases hc
    · cases hc
  · -- fieldAddr
    rename_i s x f gU
    split at hc
    · rename_i fs y e1 e2
      split at hc
      · rename_i fd e3
        split at hc
        · rename_i m e4
          split at hc
          · rename_i h0
            cases hc
            have hs:P.underlying s=some (.struct fs):=by
              unfold fieldsOf at e1
              split at e1<;>cases e1
              assumption
            have r:=bG hp e2
            simp only [cf.map,bC] at he
            simp only [gU]
            have key:∀ad:Addr,(Instr.fieldAt s (.pointer (some ad)) f).run P w=.ok (.pointer (some (ad.add fd.offset))) w:=fun ad=>by
              simp [Instr.fieldAt,run_underlying hs,e3,Instr.sureAddr,Af e4 h0]
            generalize hu:a.eval x=u at r
            generalize σ.ev y=e at r he
            split at he
            · cases he
              cases r with
              | ptr hl hv ha=>exact sI.of (key _) (.ptr hl hv fun ev=>by rw [ha ev,eM,Nat.add_assoc])
            · cases he
              cases r with
              | cO f hb mg hr=>
                refine sI.of (key _) ?_
                rw [eM,Nat.add_assoc]
                exact .cO f hb mg hr
            · cases he
              cases r with
              | fT hl hv ha=>exact sI.of (key _) (.fT hl hv fun ev=>by rw [ha ev,eM,Nat.add_assoc])
            · cases he
          · cases hc
        · cases hc
      · cases hc
    · cases hc
  · -- field
    rename_i s x f gU
    split at hc
    · rename_i fs y e1 e2
      split at hc
      · rename_i fd e3
        simp only [Option.map_eq_some_iff] at hc
        obtain ⟨k,e4,rfl⟩:=hc
        have hs:P.underlying s=some (.struct fs):=by
          unfold fieldsOf at e1
          split at e1<;>cases e1
          assumption
        have r:=bG hp e2
        simp only [cf.map,bC] at he
        simp only [gU]
        generalize hu:a.eval x=u at r
        generalize σ.ev y=e at r he
        split at he
        · cases r with
          | agg hs' hr=>
          obtain ⟨v,h1,h2⟩:=wQ (P:=P) (cn.jC hs' hr) e4 he
          exact sI.of (by simp [Instr.field,run_underlying hs,e3,asAgg,h1]) h2
        · cases he
      · cases hc
    · cases hc
  · -- indexAddr
    rename_i t x i gU
    split at hc
    · rename_i x' i' e1 e2
      have r1:=bG hp e1
      have r2:=bG hp e2
      simp only [gU]
      split at hc
      · rename_i m el ht
        simp only [Option.map_eq_some_iff] at hc
        obtain ⟨sz,hs,rfl⟩:=hc
        simp only [cf.map,bC] at he
        generalize a.eval x=u at r1
        generalize a.eval i=v at r2
        generalize σ.ev x'=ex at r1 he
        generalize σ.ev i'=ei at r2 he
        have key:∀(ad:Addr) (k:IntKind) (z:Int),0≤z∧z<(m:Int)→(Instr.indexAt t (.pointer (some ad)) (.int k z)).run P w=.ok (.pointer (some (ad.add (z.toNat*sz)))) w:=fun ad k z hz=>by
          simp [Instr.indexAt,asIntOf,run_underlying ht,Instr.sureAddr,hz,run_sizeOf hs]
        split at he
        · split at he
          · rename_i hb
            cases he; cases r2
            cases r1 with
            | ptr hl hv ha=>exact sI.of (key _ _ _ hb) (.ptr hl hv fun ev=>by rw [ha ev,eM,Nat.add_assoc])
          · cases he
        · split at he
          · rename_i hb
            cases he; cases r2
            cases r1 with
            | cO f YC mg hr=>
              refine sI.of (key _ _ _ hb) ?_
              rw [eM,Nat.add_assoc]
              exact .cO f YC mg hr
          · cases he
        · split at he
          · rename_i hb
            cases he; cases r2
            cases r1 with
            | fT hl hv ha=>exact sI.of (key _ _ _ hb) (.fT hl hv fun ev=>by rw [ha ev,eM,Nat.add_assoc])
          · cases he
        · cases he
      · rename_i el ht
        split at hc
        case h_2=>cases hc
        rename_i sz hs
        split at hc
        case isFalse=>cases hc
        rename_i jN
        cases hc
        simp only [cf.map,bC] at he
        generalize a.eval x=u at r1
        generalize a.eval i=v at r2
        generalize σ.ev x'=ex at r1 he
        generalize σ.ev i'=ei at r2 he
        have key:∀(ad:Addr) (len cap:Nat) (k:IntKind) (z:Int),0≤z∧z<(len:Int)→(Instr.indexAt t (.slice (some ad) len cap) (.int k z)).run P w=.ok (.pointer (some (ad.add (z.toNat*sz)))) w:=fun ad len cap k z hz=>by
          simp [Instr.indexAt,asIntOf,run_underlying ht,Instr.sureAddr,hz,run_sizeOf hs]
        split at he
        · split at he
          · rename_i xs k0 z h0
            split at he
            · rename_i y hy
              split at he
              · rename_i hl
                cases he; cases r2
                have ig:z.toNat<xs.length:=(List.getElem?_eq_some_iff.1 hy).1
                cases r1 with
                | slnil=>simp at hy
                | sl f hn fu ug mg hr=>
                  rename_i bb oo szz cap
                  have al0:szz=sz:=by rw [←ug y (List.mem_of_getElem? hy),hl]
                  subst al0
                  refine sI.of (key _ _ _ _ _ ⟨h0,by omega⟩) ?_
                  rw [eM]
                  · have h1:0<y.length:=by omega
                    have alB:=(mg _ y 0 y[0] hy (by simp [h1])).1
                    have:=cL.cO (κ:=κ) (w:=w) (b:=bb) (base:=oo+z.toNat*szz) (off:=0) (cells:=y) (f z.toNat) alB (fun j d hj=>(mg _ y j d hy hj).2) (fun j d hj=>hr _ y j d hy hj)
                    simpa using this
              · cases he
            · cases he
          · cases he
        · split at he
          · rename_i hb
            obtain ⟨b1,b2,b3⟩:=hb
            cases he; cases r2
            cases r1 with
            | u7 hl hv hn fu ha=>
              refine sI.of (key _ _ _ _ _ ⟨b1,b2⟩) (.ptr hl hv fun ev=>?_)
              rcases ha ev with h0 | h0
              · omega
              · subst b3
                rw [h0,eM,Nat.mul_one,Nat.add_assoc]
          · cases he
        · cases he
      · cases hc
    · cases hc
  · -- index
    rename_i t x i gU
    split at hc
    · rename_i x' i' e1 e2
      have r1:=bG hp e1
      have r2:=bG hp e2
      simp only [gU]
      split at hc
      · rename_i m el ht
        split at hc
        · rename_i sz k e3 e4
          cases hc
          simp only [cf.map,bC] at he
          generalize a.eval x=u at r1
          generalize a.eval i=v at r2
          generalize σ.ev x'=ex at r1 he
          generalize σ.ev i'=ei at r2 he
          split at he
          · split at he
            · rename_i hb
              cases r2
              cases r1 with
              | agg hs' hr=>
              obtain ⟨v,h1,h2⟩:=wQ (P:=P) (cn.jC hs' hr) e4 he
              refine sI.of ?_ h2
              simp [Instr.index,asIntOf,run_underlying ht,hb,run_sizeOf e3,h1]
            · cases he
          · cases he
        · cases hc
      · rename_i ht
        cases hc
        simp only [cf.map,bC] at he
        generalize a.eval x=u at r1
        generalize a.eval i=v at r2
        generalize σ.ev x'=ex at r1 he
        generalize σ.ev i'=ei at r2 he
        split at he
        · rename_i s0 k0 i0
          split at he
          · rename_i h0
            split at he
            · rename_i b hb
              cases he; cases r1; cases r2
              refine sI.of (v:=.int .u8 (b.toNat:Int)) ?_ (.int _ _)
              have ig:i0.toNat<s0.length:=(List.getElem?_eq_some_iff.1 hb).1
              have YC:(⟨s0.toArray⟩:ByteArray)[i0.toNat]? =some b:=by
                rw [ByteArray.getElem?_lt' _ _ (by rw [size_mk]; exact ig)]
                have:=(List.getElem?_eq_some_iff.1 hb).2
                simp [ByteArray.getElem_eq_getElem_data,this]
              simp [Instr.index,asIntOf,run_underlying ht,h0,YC]
            · cases he
          · cases he
        · cases he
      · cases hc
    · cases hc
  · -- extract
    rename_i x i gU
    simp only [Option.map_eq_some_iff] at hc
    obtain ⟨y,e1,rfl⟩:=hc
    have r:=bG hp e1
    simp only [cf.map,bC] at he
    simp only [gU]
    generalize a.eval x=u at r
    generalize σ.ev y=e at r he
    split at he
    · cases r with
      | tuple hs hr=>
      obtain ⟨v,h1,h2⟩:=MX (cn.jC hs hr) i d he
      exact sI.of (by simp [Instr.extract,h1]) h2
    · cases he
  · simp only [Option.map_eq_some_iff] at hc; obtain ⟨y,e1,rfl⟩:=hc; simp [cf.map,bC] at he
  · -- call
    rename_i c gU
    split at hc
    · split at hc
      · (repeat' split at hc)<;>(cases hc; simp [cf.map,bC] at he)
      · cases hc
    · rename_i b lP
      have Fm:∀vs:Array Value,c.args.map a.eval=vs→(execOp a.eval o).run P w=(builtin b c.argTypes o.type (c.args.map fun x=>match x with | .const _=>true | _=>false) vs).run P w:=fun vs hvs=>by
        simp only [execOp,gU,Sem.run_bind,resolve,lP,hvs]
        rfl
      unfold execOp at Fm
      split at hc
      all_goals first
        | (cases hc; done)
        | ((repeat' split at hc)<;>first | (cases hc; done) | (cases hc; simp [cf.map,bC] at he; done) | skip)
      all_goals
        rename_i x y e2
        cases hc
        obtain ⟨v,u,h1,r1,r2⟩:=uo hp e2
        have h2:=Fm _ h1
        simp only [cf.map,bC] at he
        generalize σ.ev x=ex at r1 he
        generalize σ.ev y=ey at r2 he
        split at he
        · cases he; cases r1; cases r2
          refine ⟨_,h2.trans ?_,.int _ _⟩
          simp [builtin,Builtin.min_,Builtin.max_,Builtin.min2,Builtin.max2]
        · cases he
    · cases hc
  · (repeat' split at hc)<;>first | (cases hc; done) | (simp only [Option.map_eq_some_iff] at hc; obtain ⟨y,e1,rfl⟩:=hc; simp [cf.map,bC] at he)
  · (repeat' split at hc)<;>first | (cases hc; done) | (simp only [Option.map_eq_some_iff] at hc; obtain ⟨y,e1,rfl⟩:=hc; simp [cf.map,bC] at he)
  · (repeat' split at hc)<;>first | (cases hc; done) | (simp only [Option.map_eq_some_iff] at hc; obtain ⟨y,e1,rfl⟩:=hc; simp [cf.map,bC] at he)
  · (repeat' split at hc)<;>first | (cases hc; done) | (cases hc; simp [cf.map,bC] at he)
  · cases hc
end Go.Proofs.YtpklkpkfgmoghaaGreatDoor.Zz
