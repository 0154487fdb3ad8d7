/- Running code by laws, more: where a choice is already made, the other way is not looked at. -/
import Derived.Test.YtpklkpkfgmoghaaGreatDoorZZC
import Derived.Laws.Externs
import Derived.KernelRfl
import Derived.Below
import Derived.Sort.Row
import Derived.Sort.Grow
import Derived.Deep.Draws
import Derived.Lib.LaidTab
import Derived.Lib.Join
import Derived.Test.YtpklkpkfgmoghaaGreatDoorProg
set_option linter.unnecessarySimpa false
set_option linter.unusedVariables false
set_option linter.unusedSimpArgs false
set_option maxRecDepth 20000
namespace Go.Proofs.YtpklkpkfgmoghaaGreatDoor.Zz
variable {T:bm} {K:Ex→Fr→aa→Prop} {E:Fr→D→aa→Prop} {σ:Fr} {h:aa}
theorem H_ {b:Bool} {A B:Prop}:((b=true→A)∧(b=false→B))=if b=true then A else B:=by
 cases b<;>simp
theorem Ou {b:Bool} {A B:Prop}:((b=false→A)∧(b=true→B))=if b=true then B else A:=by
 cases b<;>simp
theorem Cz {c:f7} {a b:dL} {k:List Item} {t:Bool}:OV T K E c a b k σ h (.bool t)=if t=true then vc T a (todo T K E k) E (σ.mark c true) h else vc T b (todo T K E k) E (σ.mark c false) h:=by
 rw [GU,H_]
theorem C6 {i:bM f7} {d:Option Nat} {os:List ep} {K:Fr→aa→Prop} {t:Nat} {p b:Bool}:guard T i d t true p os K E σ h (.bool b)=if b=true then fe T (⟨i,d,none,p⟩::os) K E (σ.put (some t) (.bool true)) h else fe T os K E ((σ.put (some t) (.bool false)).put d (.tuple [])) h:=by
 rw [R4,H_]
theorem C5 {i:bM f7} {d:Option Nat} {os:List ep} {K:Fr→aa→Prop} {t:Nat} {p b:Bool}:guard T i d t false p os K E σ h (.bool b)=if b=true then fe T os K E ((σ.put (some t) (.bool true)).put d (.tuple [])) h else fe T (⟨i,d,none,p⟩::os) K E (σ.put (some t) (.bool false)) h:=by
 rw [R3,Ou]
def cM (l:List (List UInt8)):List (List D):=l.map fun s=>[.str s]
def fA (l:List Int):List (List D):=l.map fun c=>[.int .i64 c]
theorem di {l:List (List UInt8)}:(cM l).length=l.length:=by simp [cM]
theorem fT {l:List Int}:(fA l).length=l.length:=by simp [fA]
theorem NR {l:List (List UInt8)} {i:Nat}:(cM l)[i]? =l[i]?.map fun s=>[.str s]:=by simp [cM]
theorem sc {K:D→aa→Prop} {l:List (List UInt8)} {i:Int}:iI 1 K h (cM l) i=((0≤i∧i<l.length)∧∀x,l[i.toNat]? =some x→K (.c8 [.str x] 0) h):=lL fun _=>rfl
theorem Lc {K:D→aa→Prop} {l:List Int} {i:Int}:iI 1 K h (fA l) i=((0≤i∧i<l.length)∧∀x,l[i.toNat]? =some x→K (.c8 [.int .i64 x] 0) h):=lL fun _=>rfl
theorem kh {l:List (List UInt8)} {x:List UInt8}:cM l++[[.str x]]=cM (l++[x]):=by simp [cM]
theorem CG {l:List Int} {x:Int}:fA l++[[.int .i64 x]]=fA (l++[x]):=by simp [fA]
def vC:List (List D)→Option (List (List UInt8))
 | []=>some []
 | [.str s]::l=>(vC l).map (s::·)
 | _=>none
theorem qI (l:List (List UInt8)):vC (cM l)=some l:=by
 induction l with
 | nil=>rfl
 | cons s l ih=>show (vC (cM l)).map _=_; rw [ih]; rfl
theorem iV:∀{l:List (List D)} {x:List (List UInt8)},vC l=some x→l=cM x
 | [],x,h=>by cases h; rfl
 | [.str s]::l,x,h=>by
  simp only [vC,Option.map_eq_some_iff] at h
  obtain ⟨y,h1,rfl⟩:=h
  rw [iV h1]; rfl
def Lx:List (List D)→Option (List Int)
 | []=>some []
 | [.int .i64 s]::l=>(Lx l).map (s::·)
 | _=>none
theorem NI (l:List Int):Lx (fA l)=some l:=by
 induction l with
 | nil=>rfl
 | cons s l ih=>show (Lx (fA l)).map _=_; rw [ih]; rfl
theorem yD:∀{l:List (List D)} {x:List Int},Lx l=some x→l=fA x
 | [],x,h=>by cases h; rfl
 | [.int .i64 s]::l,x,h=>by
  simp only [Lx,Option.map_eq_some_iff] at h
  obtain ⟨y,h1,rfl⟩:=h
  rw [yD h1]; rfl
def kJ (r n:Nat):D:=if n=0 then .bg else .row r (n+2) 0 n
def L8 (h:aa) (r sz:Nat) (xs:List (List D)):aa:=if xs=[] then h else h.set r (.row sz (xs.length+2) xs false)
theorem fX {r:Nat}:kJ r 0=.bg:=rfl
theorem cB {r n:Nat} (h:n≠0):kJ r n=.row r (n+2) 0 n:=by simp [kJ,h]
theorem nX {h:aa} {r sz:Nat}:L8 h r sz []=h:=rfl
theorem km {h:aa} {r sz:Nat} {xs:List (List D)} (e:xs≠[]):L8 h r sz xs=h.set r (.row sz (xs.length+2) xs false):=by simp [L8,e]
def vK (P:Program) (f:FuncId) (n:String):Bool:=
 match P.funcs[f]? with
 | some fn=>fn.name==n && fn.origin== "" && fn.body.isNone
 | none=>false
theorem vd.OK {P:Program} {f:FuncId} {n:String} {e:Array Value→Sem Value} {args:List D} {d:D} (h:vK P f n=true) (h1:Extern.allNextRows.lookup n=none) (h2:Extern.allGenericRows.lookup n=none) (h3:Extern.allTypedRows.lookup n=none)
  (h4:Extern.allRows.lookup n=some e) (hn:(n== "runtime.NumGoroutine")=false)
  (he:∀(κ:cp) (w:World) (vs:Array Value),bP κ w vs.toList args→∃v,(e vs).run P w=.ok v w∧cd κ w v d):vd P f args d:=fun κ w vs hr=>by
 unfold vK at h
 split at h
 ·ab fn hf
  simp only [Bool.and_eq_true,beq_iff_eq] at h
  obtain ⟨⟨k1,k2⟩,k3⟩:=h
  have o1:Extern.allNextRows.lookup "" =none:=by kernel_rfl
  have f1:Extern.findNext fn=none:=by simp only [Extern.findNext,k1,k2,h1,o1]; rfl
  have f2:Extern.find fn=some e:=by simp only [Extern.find,k1,h2,h3,h4]; rfl
  obtain ⟨v,a,b⟩:=he κ w vs hr
  exact ⟨v,by rw [run_callFunc_extern hf (by rw [k1]; exact hn) k3 f1 f2,a]; rfl,b⟩
 ·cases h
theorem kO:Extern.allNextRows.lookup "math.Float64bits" =none∧Extern.allGenericRows.lookup "math.Float64bits" =none∧Extern.allTypedRows.lookup "math.Float64bits" =none∧Extern.allRows.lookup "math.Float64bits" =some Extern.MathFloatBits.float64bits:=
 ⟨by kernel_rfl,by kernel_rfl,by kernel_rfl,by kernel_rfl⟩
theorem kP:Extern.allNextRows.lookup "math.Float64frombits" =none∧Extern.allGenericRows.lookup "math.Float64frombits" =none∧Extern.allTypedRows.lookup "math.Float64frombits" =none∧Extern.allRows.lookup "math.Float64frombits" =some Extern.MathFloatBits.float64frombits:=
 ⟨by kernel_rfl,by kernel_rfl,by kernel_rfl,by kernel_rfl⟩
def uB:List D→Option D
 | [.float .f64 b]=>some (.int .u64 b)
 | _=>none
def FH:List D→Option D
 | [.int .u64 n]=>some (.float .f64 n.toNat)
 | _=>none
theorem FG {P:Program} {f:FuncId} (h:vK P f "math.Float64bits" =true) (args:List D) (d:D) (e:uB args=some d):vd P f args d:=by
 unfold uB at e
 split at e
 ·cases e
  refine .OK h kO.1 kO.2.1 kO.2.2.1 kO.2.2.2 (by decide) fun κ w vs hr=>?_
  obtain ⟨l⟩:=vs
  cases hr with
  | cons a t=>cases t; cases a; exact ⟨_,rfl,.int _ _⟩
 ·cases e
theorem Rq {P:Program} {f:FuncId} (h:vK P f "math.Float64frombits" =true) (args:List D) (d:D) (e:FH args=some d):vd P f args d:=by
 unfold FH at e
 split at e
 ·cases e
  refine .OK h kP.1 kP.2.1 kP.2.2.1 kP.2.2.2 (by decide) fun κ w vs hr=>?_
  obtain ⟨l⟩:=vs
  cases hr with
  | cons a t=>cases t; cases a; exact ⟨_,rfl,.float _ _⟩
 ·cases e
def V2 (o:Option Nat) (K:D→aa→Prop) (h:aa):Prop:=
 match o with
 | some r=>K (.float .f64 r) h
 | none=>∀r,FloatKind.f64.format.order r r=none→K (.float .f64 r) h
theorem Di {op:BinOp} {a b:Nat} {K E:D→aa→Prop}:d_ T (.iW op (.float .f64 a) (.float .f64 b)) h K E=(eS op=true∧V2 (gZ op .f64 a b) K h):=rfl
theorem yL {r:Nat} {K:D→aa→Prop}:V2 (some r) K h=K (.float .f64 r) h:=rfl
theorem yK {K:D→aa→Prop}:V2 none K h=∀r,FloatKind.f64.format.order r r=none→K (.float .f64 r) h:=rfl
theorem xz {k:IntKind} {b:Nat}:dS (.conv (.vM k) (.float .f64 b))=(xX .f64 b k).map (.int k):=rfl
theorem rS {b:Nat}:dS (.conv .pZ (.float .f64 b))=some (.float .f64 b):=rfl
end Go.Proofs.YtpklkpkfgmoghaaGreatDoor.Zz
namespace Go.Proofs.YtpklkpkfgmoghaaGreatDoor.Zz
open Go.RowKit
theorem aO.jy [aN] {P:Program} {f:FuncId} {args:List D} {d:D} (hc:fi P f=true)
  (h:∀(κ:cp) (w:World) (vs:Array Value),gn κ w→bP κ w vs.toList args→(∀b,κ.gJ b→b<w.heap.size)→
   Calls P f vs w fun e w'=>∃v,e=.returned v∧(∀(κ':cp) (AA:World),cd κ' AA v d)∧Below w.heap.size w w'):aO P f args d:=by
 refine ⟨hc,fun κ w vs hi hr=>(h κ w vs hi.kG hr hi.fl).mono fun e w' ⟨v,e1,r,b⟩=>?_⟩
 subst e1
 have le:Le κ w κ w':=⟨fun x hx=>⟨hx,b.block x (hi.fl x hx)⟩,(Le.refl κ w).loc⟩
 refine ⟨.ret d,.emp,κ,rfl,.ret (r _ _),⟨fun x hx=>Nat.lt_of_lt_of_le (hi.fl x hx) b.size,fun i p hp=>Nat.lt_of_lt_of_le (hi.ij i p hp) b.size,hi.fresh,fun i o ho=>(by cases ho),fun i j oi oj pi pj b ho=>(by cases ho),hi.kG.mono le⟩,?_⟩
 exact ⟨b.os,b.tape,b.output,b.size,fun x hx _=>b.block x hx,fun _ h=>h,fun _ _ h=>.inl h,le.loc,fun _ _ h _=>h,fun _ _ h=>h,fun _ _ _ h=>h⟩
theorem F3 (w:World) (k:Nat) (os:Array Obj):Below w.heap.size w (Go.Sort.grow (w.HM k) os):=by
 refine ⟨rfl,rfl,rfl,?_,fun i hi=>?_⟩
 ·simp [Go.Sort.grow,World.HM]
 ·show (w.heap++os)[i]? =_
  rw [Array.getElem?_append_left hi]
theorem Cl (w:World) (k:Nat):Below w.heap.size w (w.HM k):=⟨rfl,rfl,rfl,Nat.le_refl _,fun _ _=>rfl⟩
theorem XO [aN] {P:Program} {κ:cp} {w:World} {n:String} {g:Nat} {k:IntKind} {zs:List Int} (h:gn κ w) (hg:P.globalNamed n=some g) (e:aN.of g=some (zs.map fun z=>.int k z)):b8.Hy P w n k zs:=by
 obtain ⟨_,cs,t,h1,h2,h3⟩:=h.of g _ e
 unfold b8.Hy World.var?
 rw [hg,Option.bind_some,h1]
 show some cs=_
 congr 1
 apply Array.ext'
 apply List.ext_getElem?
 intro j
 by_cases hj:j<zs.length
 ·obtain ⟨v,h4,h5⟩:=h3 j (.int k zs[j]) (by simp [hj])
  cases h5
  simp [h4,hj]
 ·have:cs.size=zs.length:=by simpa using h2
  rw [List.getElem?_eq_none (by simp; omega),List.getElem?_eq_none (by simp; omega)]
theorem fG {κ:cp} {w:World} {v:Value} {s:List UInt8} (h:cd κ w v (.str s)):v=.string ⟨s.toArray⟩∧s.length≤9223372036854775807:=by
 cases h with
 | str _ h=>exact ⟨rfl,h⟩
theorem hO {κ:cp} {w:World} {v:Value} {k:IntKind} {n:Int} (h:cd κ w v (.int k n)):v=.int k n:=by cases h; rfl
theorem BI {κ:cp} {w:World} {v:Value} {l:List (List UInt8)} (h:cd κ w v (.sl (cM l))):(l=[]∧∃a c,v=.slice a 0 c)∨
  ∃b o cap,v=.slice (some ⟨b,o,none⟩) l.length cap∧l.length≤cap∧∀(j:Nat) (s:List UInt8),l[j]? =some s→κ.gJ b∧w.cell? ⟨b,o+j,none⟩=some (.string ⟨s.toArray⟩):=by
 generalize hx:cM l=xs at h
 cases h with
 | slnil hb=>
  left
  refine ⟨?_,_,_,rfl⟩
  simpa [cM] using hx
 | sl f hn dY mU hc hr=>
  subst hx
  have hl:(cM l).length=l.length:=di
  by_cases h0:l=[]
  ·left
   subst h0
   exact ⟨rfl,_,_,rfl⟩
  right
  ab b o sz cap
  have Wt:sz=1:=by
   cases l with
   | nil=>exact absurd rfl h0
   | cons s l=>exact (mU [.str s] (by simp [cM])).symm
  subst Wt
  refine ⟨b,o,cap,by rw [hl],by omega,fun j s hj=>?_⟩
  have e1:(cM l)[j]? =some [.str s]:=by rw [NR,hj]; rfl
  obtain ⟨h1,h2⟩:=hc j [.str s] 0 (.str s) e1 rfl
  have h3:=hr j [.str s] 0 (.str s) e1 rfl
  rw [(fG h3).1] at h2
  exact ⟨h1,by simpa using h2⟩
end Go.Proofs.YtpklkpkfgmoghaaGreatDoor.Zz
namespace Go.Proofs.YtpklkpkfgmoghaaGreatDoor.Zz
theorem zz:a7% (And.intro (And.intro (And.intro (And.intro (And.intro (And.intro (And.intro (And.intro @Int.cast_ofNat_Int @Int.toNat_zero) (And.intro @forall_eq'.{1} @Ek)) (And.intro (And.intro @Ej @ID) (And.intro @run_seq @z7))) (And.intro (And.intro (And.intro @Ei @Fk) (And.intro @rQ @pR)) (And.intro (And.intro @Fi @rO) (And.intro @pQ (And.intro @KO @uA))))) (And.intro (And.intro (And.intro (And.intro @rP @Fj) (And.intro @Az @Rj)) (And.intro (And.intro @Dt @vi) (And.intro @Ck (And.intro @AU @qC)))) (And.intro (And.intro (And.intro @yo @yn) (And.intro @Cj @aaj)) (And.intro (And.intro @aai @aah) (And.intro @C7 (And.intro @H4 @Uh)))))) (And.intro (And.intro (And.intro (And.intro (And.intro @Z1 @On) (And.intro @Dk @H5)) (And.intro (And.intro @H8 @zb) (And.intro @yM (And.intro @CE @and_imp)))) (And.intro (And.intro (And.intro @ze @xj) (And.intro @Dn @zc)) (And.intro (And.intro @zd @tm) (And.intro @tn (And.intro @v7 @tl))))) (And.intro (And.intro (And.intro (And.intro @ti @tg) (And.intro @Ci @th)) (And.intro (And.intro @za @y8) (And.intro @sv (And.intro @Dj @y_)))) (And.intro (And.intro (And.intro @y9 @tj) (And.intro @Om @H6)) (And.intro (And.intro @Bm @Dg) (And.intro @Ak (And.intro @Ez @AO))))))) (And.intro (And.intro (And.intro (And.intro (And.intro (And.intro @AP @ve) (And.intro @yH @VB)) (And.intro (And.intro @Rf @KW) (And.intro @ab8 (And.intro @FB @Av)))) (And.intro (And.intro (And.intro @Ax @Aw) (And.intro @Vx @Vy)) (And.intro (And.intro @ab9 @Fx) (And.intro @xA (And.intro @Rg @xB))))) (And.intro (And.intro (And.intro (And.intro @KY @Ft) (And.intro @Aq @Ar)) (And.intro (And.intro @KX @Fu) (And.intro @As (And.intro @At @Fv)))) (And.intro (And.intro (And.intro @Fw @Fz) (And.intro @Fy @Ap)) (And.intro (And.intro @Au @FA) (And.intro @Vz (And.intro @VA @Re)))))) (And.intro (And.intro (And.intro (And.intro (And.intro @Fr.n9 @Fr.D5) (And.intro @Fr.D4 @wS)) (And.intro (And.intro @Eg @Eh) (And.intro @tP (And.intro @Ef @tO)))) (And.intro (And.intro (And.intro @yv @yw) (And.intro @yy @yz)) (And.intro (And.intro @Ai @Ij) (And.intro @NW (And.intro @DH @zB))))) (And.intro (And.intro (And.intro (And.intro @Ic @Dw) (And.intro @List.replicate_succ.{0} @List.replicate_zero.{0})) (And.intro (And.intro @List.forall_mem_cons.{0} @List.not_mem_nil.{0}) (And.intro @Nat.zero_lt_succ (And.intro @Nat.lt_add_one @uR)))) (And.intro (And.intro (And.intro @uS @vF) (And.intro @vH @vG)) (And.intro (And.intro @nO @aa.set_set) (And.intro @Int.toNat_natCast (And.intro @tK @yU)))))))) (And.intro (And.intro (And.intro (And.intro (And.intro (And.intro (And.intro @wC @CS) (And.intro @zR @HT)) (And.intro (And.intro @tF @yP) (And.intro @zW (And.intro @HX @rb)))) (And.intro (And.intro (And.intro @vP @zT) (And.intro @HV @wD)) (And.intro (And.intro @CT @wF) (And.intro @CV (And.intro @DZ @N0))))) (And.intro (And.intro (And.intro (And.intro @zQ @HS) (And.intro @tJ @yT)) (And.intro (And.intro @wE @CU) (And.intro @pK (And.intro @s9 @tG)))) (And.intro (And.intro (And.intro @yQ @tH) (And.intro @yR @zS)) (And.intro (And.intro @HU @q_) (And.intro @vO (And.intro @zP @DV)))))) (And.intro (And.intro (And.intro (And.intro (And.intro @Iq @zJ) (And.intro @Iu @wz)) (And.intro (And.intro @Is @DW) (And.intro @DY (And.intro @OW @Ip)))) (And.intro (And.intro (And.intro @zO @DX) (And.intro @tD @zK)) (And.intro (And.intro @zL @Ir) (And.intro @wy (And.intro @tI @yS))))) (And.intro (And.intro (And.intro (And.intro @zV @Iv) (And.intro @HW @CR)) (And.intro (And.intro @CQ @yN) (And.intro @wB (And.intro @zM @It)))) (And.intro (And.intro (And.intro @CZ @C1) (And.intro @vU @yV)) (And.intro (And.intro @CX @vQ) (And.intro @C2 (And.intro @tb @C0))))))) (And.intro (And.intro (And.intro (And.intro (And.intro (And.intro @yW @yY) (And.intro @vT @HY)) (And.intro (And.intro @CW @yX) (And.intro @qK (And.intro @vR @vS)))) (And.intro (And.intro (And.intro @CY @s_) (And.intro @aa.dN @aa.NQ)) (And.intro (And.intro @Option.map_some.{0,0} @Option.map_none.{0,0}) (And.intro @Option.some.injEq.{0} (And.intro @exists_eq_left'.{1} @exists_eq_left.{1}))))) (And.intro (And.intro (And.intro (And.intro @true_and @and_true) (And.intro @List.map_cons.{0,0} @List.map_nil.{0,0})) (And.intro (And.intro @List.append_nil.{0} @List.nil_append.{0}) (And.intro @List.cons_append.{0} (And.intro @List.foldl_cons.{0,0} @List.foldl_nil.{0,0})))) (And.intro (And.intro (And.intro @List.all_cons.{0} @List.all_nil.{0}) (And.intro @Bool.and_true @Bool.and_self)) (And.intro (And.intro @Bool.true_and @List.length_cons.{0}) (And.intro @List.length_nil.{0} (And.intro @List.getElem?_cons_zero.{0} @List.getElem?_cons_succ.{0})))))) (And.intro (And.intro (And.intro (And.intro (And.intro @List.set_cons_zero.{0} @List.set_cons_succ.{0}) (And.intro (And.intro @forall_const.{0} @forall_const.{1}) @false_implies)) (And.intro (And.intro (And.intro @implies_true.{0} @implies_true.{1}) @true_implies) (And.intro @Bool.not_true (And.intro @Bool.not_false @decide_eq_true_eq)))) (And.intro (And.intro (And.intro @decide_eq_false_iff_not @Bool.true_eq_false) (And.intro @Bool.false_eq_true @dF.ret.injEq)) (And.intro (And.intro @Nat.zero_add @Nat.add_zero) (And.intro @beq_self_eq_true.{0} (And.intro @bne_self_eq_false.{0} @cond_true.{1}))))) (And.intro (And.intro (And.intro (And.intro @cond_false.{1} @List.drop_zero.{0}) (And.intro @Nat.sub_zero @D.int.injEq)) (And.intro (And.intro @D.str.injEq @D.bool.injEq) (And.intro @D.tuple.injEq (And.intro @D.agg.injEq @D.sl.injEq)))) (And.intro (And.intro (And.intro @List.cons.injEq.{0} @or_true) (And.intro @true_or @or_false)) (And.intro (And.intro @false_or @and_self) (And.intro @not_true_eq_false (And.intro @not_false_eq_true @ne_eq.{1}))))))))):=(And.intro (And.intro (And.intro (And.intro (And.intro (And.intro (And.intro (And.intro @Int.cast_ofNat_Int @Int.toNat_zero) (And.intro @forall_eq'.{1} @Ek)) (And.intro (And.intro @Ej @ID) (And.intro @run_seq @z7))) (And.intro (And.intro (And.intro @Ei @Fk) (And.intro @rQ @pR)) (And.intro (And.intro @Fi @rO) (And.intro @pQ (And.intro @KO @uA))))) (And.intro (And.intro (And.intro (And.intro @rP @Fj) (And.intro @Az @Rj)) (And.intro (And.intro @Dt @vi) (And.intro @Ck (And.intro @AU @qC)))) (And.intro (And.intro (And.intro @yo @yn) (And.intro @Cj @aaj)) (And.intro (And.intro @aai @aah) (And.intro @C7 (And.intro @H4 @Uh)))))) (And.intro (And.intro (And.intro (And.intro (And.intro @Z1 @On) (And.intro @Dk @H5)) (And.intro (And.intro @H8 @zb) (And.intro @yM (And.intro @CE @and_imp)))) (And.intro (And.intro (And.intro @ze @xj) (And.intro @Dn @zc)) (And.intro (And.intro @zd @tm) (And.intro @tn (And.intro @v7 @tl))))) (And.intro (And.intro (And.intro (And.intro @ti @tg) (And.intro @Ci @th)) (And.intro (And.intro @za @y8) (And.intro @sv (And.intro @Dj @y_)))) (And.intro (And.intro (And.intro @y9 @tj) (And.intro @Om @H6)) (And.intro (And.intro @Bm @Dg) (And.intro @Ak (And.intro @Ez @AO))))))) (And.intro (And.intro (And.intro (And.intro (And.intro (And.intro @AP @ve) (And.intro @yH @VB)) (And.intro (And.intro @Rf @KW) (And.intro @ab8 (And.intro @FB @Av)))) (And.intro (And.intro (And.intro @Ax @Aw) (And.intro @Vx @Vy)) (And.intro (And.intro @ab9 @Fx) (And.intro @xA (And.intro @Rg @xB))))) (And.intro (And.intro (And.intro (And.intro @KY @Ft) (And.intro @Aq @Ar)) (And.intro (And.intro @KX @Fu) (And.intro @As (And.intro @At @Fv)))) (And.intro (And.intro (And.intro @Fw @Fz) (And.intro @Fy @Ap)) (And.intro (And.intro @Au @FA) (And.intro @Vz (And.intro @VA @Re)))))) (And.intro (And.intro (And.intro (And.intro (And.intro @Fr.n9 @Fr.D5) (And.intro @Fr.D4 @wS)) (And.intro (And.intro @Eg @Eh) (And.intro @tP (And.intro @Ef @tO)))) (And.intro (And.intro (And.intro @yv @yw) (And.intro @yy @yz)) (And.intro (And.intro @Ai @Ij) (And.intro @NW (And.intro @DH @zB))))) (And.intro (And.intro (And.intro (And.intro @Ic @Dw) (And.intro @List.replicate_succ.{0} @List.replicate_zero.{0})) (And.intro (And.intro @List.forall_mem_cons.{0} @List.not_mem_nil.{0}) (And.intro @Nat.zero_lt_succ (And.intro @Nat.lt_add_one @uR)))) (And.intro (And.intro (And.intro @uS @vF) (And.intro @vH @vG)) (And.intro (And.intro @nO @aa.set_set) (And.intro @Int.toNat_natCast (And.intro @tK @yU)))))))) (And.intro (And.intro (And.intro (And.intro (And.intro (And.intro (And.intro @wC @CS) (And.intro @zR @HT)) (And.intro (And.intro @tF @yP) (And.intro @zW (And.intro @HX @rb)))) (And.intro (And.intro (And.intro @vP @zT) (And.intro @HV @wD)) (And.intro (And.intro @CT @wF) (And.intro @CV (And.intro @DZ @N0))))) (And.intro (And.intro (And.intro (And.intro @zQ @HS) (And.intro @tJ @yT)) (And.intro (And.intro @wE @CU) (And.intro @pK (And.intro @s9 @tG)))) (And.intro (And.intro (And.intro @yQ @tH) (And.intro @yR @zS)) (And.intro (And.intro @HU @q_) (And.intro @vO (And.intro @zP @DV)))))) (And.intro (And.intro (And.intro (And.intro (And.intro @Iq @zJ) (And.intro @Iu @wz)) (And.intro (And.intro @Is @DW) (And.intro @DY (And.intro @OW @Ip)))) (And.intro (And.intro (And.intro @zO @DX) (And.intro @tD @zK)) (And.intro (And.intro @zL @Ir) (And.intro @wy (And.intro @tI @yS))))) (And.intro (And.intro (And.intro (And.intro @zV @Iv) (And.intro @HW @CR)) (And.intro (And.intro @CQ @yN) (And.intro @wB (And.intro @zM @It)))) (And.intro (And.intro (And.intro @CZ @C1) (And.intro @vU @yV)) (And.intro (And.intro @CX @vQ) (And.intro @C2 (And.intro @tb @C0))))))) (And.intro (And.intro (And.intro (And.intro (And.intro (And.intro @yW @yY) (And.intro @vT @HY)) (And.intro (And.intro @CW @yX) (And.intro @qK (And.intro @vR @vS)))) (And.intro (And.intro (And.intro @CY @s_) (And.intro @aa.dN @aa.NQ)) (And.intro (And.intro @Option.map_some.{0,0} @Option.map_none.{0,0}) (And.intro @Option.some.injEq.{0} (And.intro @exists_eq_left'.{1} @exists_eq_left.{1}))))) (And.intro (And.intro (And.intro (And.intro @true_and @and_true) (And.intro @List.map_cons.{0,0} @List.map_nil.{0,0})) (And.intro (And.intro @List.append_nil.{0} @List.nil_append.{0}) (And.intro @List.cons_append.{0} (And.intro @List.foldl_cons.{0,0} @List.foldl_nil.{0,0})))) (And.intro (And.intro (And.intro @List.all_cons.{0} @List.all_nil.{0}) (And.intro @Bool.and_true @Bool.and_self)) (And.intro (And.intro @Bool.true_and @List.length_cons.{0}) (And.intro @List.length_nil.{0} (And.intro @List.getElem?_cons_zero.{0} @List.getElem?_cons_succ.{0})))))) (And.intro (And.intro (And.intro (And.intro (And.intro @List.set_cons_zero.{0} @List.set_cons_succ.{0}) (And.intro (And.intro @forall_const.{0} @forall_const.{1}) @false_implies)) (And.intro (And.intro (And.intro @implies_true.{0} @implies_true.{1}) @true_implies) (And.intro @Bool.not_true (And.intro @Bool.not_false @decide_eq_true_eq)))) (And.intro (And.intro (And.intro @decide_eq_false_iff_not @Bool.true_eq_false) (And.intro @Bool.false_eq_true @dF.ret.injEq)) (And.intro (And.intro @Nat.zero_add @Nat.add_zero) (And.intro @beq_self_eq_true.{0} (And.intro @bne_self_eq_false.{0} @cond_true.{1}))))) (And.intro (And.intro (And.intro (And.intro @cond_false.{1} @List.drop_zero.{0}) (And.intro @Nat.sub_zero @D.int.injEq)) (And.intro (And.intro @D.str.injEq @D.bool.injEq) (And.intro @D.tuple.injEq (And.intro @D.agg.injEq @D.sl.injEq)))) (And.intro (And.intro (And.intro @List.cons.injEq.{0} @or_true) (And.intro @true_or @or_false)) (And.intro (And.intro @false_or @and_self) (And.intro @not_true_eq_false (And.intro @not_false_eq_true @ne_eq.{1})))))))))
theorem iH:a7% (And.intro @Cz (And.intro @C6 @C5)):=And.intro @Cz (And.intro @C6 @C5)
theorem iF:a7% (And.intro @Di (And.intro (And.intro @yL @yK) (And.intro @xz @rS))):=(And.intro @Di (And.intro (And.intro @yL @yK) (And.intro @xz @rS)))
theorem iE:a7% (And.intro @K4 (And.intro @z8 (And.intro @tL (And.intro @Fr.CI (And.intro @Fr.yF (And.intro @Ib (And.intro @Dv (And.intro @zA (And.intro @wj @Hv))))))))):=And.intro @K4 (And.intro @z8 (And.intro @tL (And.intro @Fr.CI (And.intro @Fr.yF (And.intro @Ib (And.intro @Dv (And.intro @zA (And.intro @wj @Hv))))))))
theorem iG:a7% (And.intro (And.intro (And.intro (And.intro (And.intro (And.intro (And.intro @bM.map.eq_1 (And.intro @bM.map.eq_2 @bM.map.eq_3)) (And.intro @bM.map.eq_4 (And.intro @bM.map.eq_5 @bM.map.eq_6))) (And.intro (And.intro @bM.map.eq_7 (And.intro @bM.map.eq_8 @bM.map.eq_9)) (And.intro (And.intro @bM.map.eq_10 @bM.map.eq_11) (And.intro @bM.map.eq_12 @bM.map.eq_13)))) (And.intro (And.intro (And.intro @bM.map.eq_14 (And.intro @bM.map.eq_15 @bM.map.eq_16)) (And.intro @bM.map.eq_17 (And.intro @bM.map.eq_18 @bM.map.eq_19))) (And.intro (And.intro @bM.map.eq_20 (And.intro @bM.map.eq_21 @bM.map.eq_22)) (And.intro (And.intro @bM.map.eq_23 @bM.map.eq_24) (And.intro @bM.map.eq_25 @bM.map.eq_26))))) (And.intro (And.intro (And.intro (And.intro @bM.map.eq_27 (And.intro @bM.map.eq_28 @bM.map.eq_29)) (And.intro @bM.map.eq_30 (And.intro @bM.map.eq_31 @bM.map.eq_32))) (And.intro (And.intro @bM.map.eq_33 (And.intro @bM.map.eq_34 @bM.map.eq_35)) (And.intro (And.intro @bM.map.eq_36 @bM.map.eq_37) (And.intro @bM.map.eq_38 @bM.map.eq_39)))) (And.intro (And.intro (And.intro @bM.map.eq_40 (And.intro @bM.map.eq_41 @bM.map.eq_42)) (And.intro (And.intro @bM.map.eq_43 @bM.map.Y3) (And.intro @bM.map.Y4 @bM.map.Y5))) (And.intro (And.intro @bM.map.Y6 (And.intro @bM.map.Y7 @bM.map.Y8)) (And.intro (And.intro @bM.map.Y9 @Fr.ev.eq_1) (And.intro @Fr.ev.eq_2 @Fr.ev.eq_3)))))) (And.intro (And.intro (And.intro (And.intro (And.intro @f8.eq_1 (And.intro @AQ.eq_1 @AQ.eq_2)) (And.intro @jP.eq_1 (And.intro @jP.eq_2 @jP.eq_3))) (And.intro (And.intro @jP.eq_4 (And.intro @jP.eq_5 @jP.eq_6)) (And.intro (And.intro @dZ.eq_1 @dZ.eq_2) (And.intro @dZ.eq_3 @dZ.eq_4)))) (And.intro (And.intro (And.intro @dZ.eq_5 (And.intro @dZ.eq_6 @dZ.eq_7)) (And.intro (And.intro @dZ.eq_8 @dZ.eq_9) (And.intro @dZ.eq_10 @dZ.eq_11))) (And.intro (And.intro @dZ.eq_12 (And.intro @dZ.eq_13 @dZ.eq_14)) (And.intro (And.intro @dZ.eq_15 @dZ.eq_16) (And.intro @ye.eq_1 @ye.eq_2))))) (And.intro (And.intro (And.intro (And.intro @ye.eq_3 (And.intro @hY.eq_1 @hY.eq_2)) (And.intro @hY.eq_3 (And.intro @hY.eq_4 @hY.eq_5))) (And.intro (And.intro @hY.eq_6 (And.intro @hY.eq_7 @hY.eq_8)) (And.intro (And.intro @me.eq_1 @me.eq_2) (And.intro @me.eq_3 @me.eq_4)))) (And.intro (And.intro (And.intro @me.eq_5 (And.intro @me.eq_6 @me.eq_7)) (And.intro (And.intro @me.eq_8 @Fr.mark.eq_1) (And.intro @Fr.mark.eq_2 @eg.eq_1))) (And.intro (And.intro @eg.eq_2 (And.intro @eg.eq_3 @xx.eq_1)) (And.intro (And.intro @xx.eq_2 @na.eq_1) (And.intro @na.eq_2 @na.eq_3))))))) (And.intro (And.intro (And.intro (And.intro (And.intro (And.intro @na.eq_4 (And.intro @na.eq_5 @na.eq_6)) (And.intro @na.eq_7 (And.intro @gQ.eq_1 @gQ.eq_2))) (And.intro (And.intro @eJ.eq_1 (And.intro @eJ.eq_2 @eJ.eq_3)) (And.intro (And.intro @eJ.eq_4 @gz.eq_1) (And.intro @gz.eq_2 @fx.eq_1)))) (And.intro (And.intro (And.intro @fx.eq_2 (And.intro @fx.eq_3 @bZ.eq_1)) (And.intro @bZ.eq_2 (And.intro @cf.eq_1 @cf.eq_2))) (And.intro (And.intro @cf.eq_3 (And.intro @cf.eq_4 @setAt.eq_1)) (And.intro (And.intro @setAt.eq_2 @gh.eq_1) (And.intro @gh.eq_2 @gh.eq_3))))) (And.intro (And.intro (And.intro (And.intro @gh.eq_4 (And.intro @gh.eq_5 @gh.eq_6)) (And.intro @eu.eq_1 (And.intro @eu.eq_2 @eu.eq_3))) (And.intro (And.intro @eu.eq_4 (And.intro @eu.eq_5 @eu.eq_6)) (And.intro (And.intro @iK.eq_1 @iK.eq_2) (And.intro @iK.eq_3 @iK.eq_4)))) (And.intro (And.intro (And.intro @iK.eq_5 (And.intro @iK.eq_6 @iK.eq_7)) (And.intro (And.intro @iK.eq_8 @iK.eq_9) (And.intro @iK.eq_10 @iK.eq_11))) (And.intro (And.intro @iK.eq_12 (And.intro @cK.eq_1 @cK.eq_2)) (And.intro (And.intro @cK.eq_3 @cK.eq_4) (And.intro @cK.eq_5 @cK.eq_6)))))) (And.intro (And.intro (And.intro (And.intro (And.intro @cK.eq_7 (And.intro @cK.eq_8 @ia.eq_1)) (And.intro @ia.eq_2 (And.intro @ew.eq_1 @ew.eq_2))) (And.intro (And.intro @rowsOf.eq_1 (And.intro @cO.eq_1 @cO.eq_2)) (And.intro (And.intro @cO.eq_3 @cO.eq_4) (And.intro @cO.eq_5 @pG.eq_1)))) (And.intro (And.intro (And.intro @fc.eq_1 (And.intro @fc.eq_2 @isNil.eq_1)) (And.intro (And.intro @isNil.eq_2 @jr.eq_1) (And.intro @jr.eq_2 @jr.eq_3))) (And.intro (And.intro @jr.eq_4 (And.intro @jr.eq_5 @jr.eq_6)) (And.intro (And.intro @jr.eq_7 @eS.eq_1) (And.intro @eS.eq_2 @eS.eq_3))))) (And.intro (And.intro (And.intro (And.intro @eS.eq_4 (And.intro @eS.eq_5 @f5.eq_1)) (And.intro @f5.eq_2 (And.intro @f5.eq_3 @f5.eq_4))) (And.intro (And.intro @cellAt.eq_1 (And.intro @cellAt.eq_2 @zp)) (And.intro (And.intro @Dy @v8) (And.intro @Dz @Dx)))) (And.intro (And.intro (And.intro @wc (And.intro @Ie @zq)) (And.intro (And.intro @v_ @wb) (And.intro @zr @List.any_cons.{0}))) (And.intro (And.intro @List.any_nil.{0} (And.intro @List.map_cons.{0,0} @List.map_nil.{0,0})) (And.intro (And.intro @Bool.or_false @Bool.false_or) (And.intro @Bool.or_true @Bool.true_or)))))))):=And.intro (And.intro (And.intro (And.intro (And.intro (And.intro (And.intro @bM.map.eq_1 (And.intro @bM.map.eq_2 @bM.map.eq_3)) (And.intro @bM.map.eq_4 (And.intro @bM.map.eq_5 @bM.map.eq_6))) (And.intro (And.intro @bM.map.eq_7 (And.intro @bM.map.eq_8 @bM.map.eq_9)) (And.intro (And.intro @bM.map.eq_10 @bM.map.eq_11) (And.intro @bM.map.eq_12 @bM.map.eq_13)))) (And.intro (And.intro (And.intro @bM.map.eq_14 (And.intro @bM.map.eq_15 @bM.map.eq_16)) (And.intro @bM.map.eq_17 (And.intro @bM.map.eq_18 @bM.map.eq_19))) (And.intro (And.intro @bM.map.eq_20 (And.intro @bM.map.eq_21 @bM.map.eq_22)) (And.intro (And.intro @bM.map.eq_23 @bM.map.eq_24) (And.intro @bM.map.eq_25 @bM.map.eq_26))))) (And.intro (And.intro (And.intro (And.intro @bM.map.eq_27 (And.intro @bM.map.eq_28 @bM.map.eq_29)) (And.intro @bM.map.eq_30 (And.intro @bM.map.eq_31 @bM.map.eq_32))) (And.intro (And.intro @bM.map.eq_33 (And.intro @bM.map.eq_34 @bM.map.eq_35)) (And.intro (And.intro @bM.map.eq_36 @bM.map.eq_37) (And.intro @bM.map.eq_38 @bM.map.eq_39)))) (And.intro (And.intro (And.intro @bM.map.eq_40 (And.intro @bM.map.eq_41 @bM.map.eq_42)) (And.intro (And.intro @bM.map.eq_43 @bM.map.Y3) (And.intro @bM.map.Y4 @bM.map.Y5))) (And.intro (And.intro @bM.map.Y6 (And.intro @bM.map.Y7 @bM.map.Y8)) (And.intro (And.intro @bM.map.Y9 @Fr.ev.eq_1) (And.intro @Fr.ev.eq_2 @Fr.ev.eq_3)))))) (And.intro (And.intro (And.intro (And.intro (And.intro @f8.eq_1 (And.intro @AQ.eq_1 @AQ.eq_2)) (And.intro @jP.eq_1 (And.intro @jP.eq_2 @jP.eq_3))) (And.intro (And.intro @jP.eq_4 (And.intro @jP.eq_5 @jP.eq_6)) (And.intro (And.intro @dZ.eq_1 @dZ.eq_2) (And.intro @dZ.eq_3 @dZ.eq_4)))) (And.intro (And.intro (And.intro @dZ.eq_5 (And.intro @dZ.eq_6 @dZ.eq_7)) (And.intro (And.intro @dZ.eq_8 @dZ.eq_9) (And.intro @dZ.eq_10 @dZ.eq_11))) (And.intro (And.intro @dZ.eq_12 (And.intro @dZ.eq_13 @dZ.eq_14)) (And.intro (And.intro @dZ.eq_15 @dZ.eq_16) (And.intro @ye.eq_1 @ye.eq_2))))) (And.intro (And.intro (And.intro (And.intro @ye.eq_3 (And.intro @hY.eq_1 @hY.eq_2)) (And.intro @hY.eq_3 (And.intro @hY.eq_4 @hY.eq_5))) (And.intro (And.intro @hY.eq_6 (And.intro @hY.eq_7 @hY.eq_8)) (And.intro (And.intro @me.eq_1 @me.eq_2) (And.intro @me.eq_3 @me.eq_4)))) (And.intro (And.intro (And.intro @me.eq_5 (And.intro @me.eq_6 @me.eq_7)) (And.intro (And.intro @me.eq_8 @Fr.mark.eq_1) (And.intro @Fr.mark.eq_2 @eg.eq_1))) (And.intro (And.intro @eg.eq_2 (And.intro @eg.eq_3 @xx.eq_1)) (And.intro (And.intro @xx.eq_2 @na.eq_1) (And.intro @na.eq_2 @na.eq_3))))))) (And.intro (And.intro (And.intro (And.intro (And.intro (And.intro @na.eq_4 (And.intro @na.eq_5 @na.eq_6)) (And.intro @na.eq_7 (And.intro @gQ.eq_1 @gQ.eq_2))) (And.intro (And.intro @eJ.eq_1 (And.intro @eJ.eq_2 @eJ.eq_3)) (And.intro (And.intro @eJ.eq_4 @gz.eq_1) (And.intro @gz.eq_2 @fx.eq_1)))) (And.intro (And.intro (And.intro @fx.eq_2 (And.intro @fx.eq_3 @bZ.eq_1)) (And.intro @bZ.eq_2 (And.intro @cf.eq_1 @cf.eq_2))) (And.intro (And.intro @cf.eq_3 (And.intro @cf.eq_4 @setAt.eq_1)) (And.intro (And.intro @setAt.eq_2 @gh.eq_1) (And.intro @gh.eq_2 @gh.eq_3))))) (And.intro (And.intro (And.intro (And.intro @gh.eq_4 (And.intro @gh.eq_5 @gh.eq_6)) (And.intro @eu.eq_1 (And.intro @eu.eq_2 @eu.eq_3))) (And.intro (And.intro @eu.eq_4 (And.intro @eu.eq_5 @eu.eq_6)) (And.intro (And.intro @iK.eq_1 @iK.eq_2) (And.intro @iK.eq_3 @iK.eq_4)))) (And.intro (And.intro (And.intro @iK.eq_5 (And.intro @iK.eq_6 @iK.eq_7)) (And.intro (And.intro @iK.eq_8 @iK.eq_9) (And.intro @iK.eq_10 @iK.eq_11))) (And.intro (And.intro @iK.eq_12 (And.intro @cK.eq_1 @cK.eq_2)) (And.intro (And.intro @cK.eq_3 @cK.eq_4) (And.intro @cK.eq_5 @cK.eq_6)))))) (And.intro (And.intro (And.intro (And.intro (And.intro @cK.eq_7 (And.intro @cK.eq_8 @ia.eq_1)) (And.intro @ia.eq_2 (And.intro @ew.eq_1 @ew.eq_2))) (And.intro (And.intro @rowsOf.eq_1 (And.intro @cO.eq_1 @cO.eq_2)) (And.intro (And.intro @cO.eq_3 @cO.eq_4) (And.intro @cO.eq_5 @pG.eq_1)))) (And.intro (And.intro (And.intro @fc.eq_1 (And.intro @fc.eq_2 @isNil.eq_1)) (And.intro (And.intro @isNil.eq_2 @jr.eq_1) (And.intro @jr.eq_2 @jr.eq_3))) (And.intro (And.intro @jr.eq_4 (And.intro @jr.eq_5 @jr.eq_6)) (And.intro (And.intro @jr.eq_7 @eS.eq_1) (And.intro @eS.eq_2 @eS.eq_3))))) (And.intro (And.intro (And.intro (And.intro @eS.eq_4 (And.intro @eS.eq_5 @f5.eq_1)) (And.intro @f5.eq_2 (And.intro @f5.eq_3 @f5.eq_4))) (And.intro (And.intro @cellAt.eq_1 (And.intro @cellAt.eq_2 @zp)) (And.intro (And.intro @Dy @v8) (And.intro @Dz @Dx)))) (And.intro (And.intro (And.intro @wc (And.intro @Ie @zq)) (And.intro (And.intro @v_ @wb) (And.intro @zr @List.any_cons.{0}))) (And.intro (And.intro @List.any_nil.{0} (And.intro @List.map_cons.{0,0} @List.map_nil.{0,0})) (And.intro (And.intro @Bool.or_false @Bool.false_or) (And.intro @Bool.or_true @Bool.true_or)))))))
def oM (a b:Nat):ep:=⟨.cy (.t a),(some b),none,true⟩
def oL (a b:Nat):ep:=⟨.load none (.t a),(some b),none,false⟩
def oJ (n a b:Nat):ep:=⟨.load (some n) (.t a),(some b),none,false⟩
def oF (n a b:Nat):ep:=⟨.fieldAddr n (.t a),(some b),none,true⟩
def oS (n a b:Nat):ep:=⟨.store n (.t a) (.t b),none,none,false⟩
def oN (a b:Nat):ep:=⟨.nilCheck (.t a),(some b),none,true⟩
def oX (a n b:Nat):ep:=⟨.extract (.t a) n,(some b),none,true⟩
def oZ (a b:Nat):ep:=⟨.len .sl (.t a),(some b),none,false⟩
def oW (a b:Nat):ep:=⟨.len .str (.t a),(some b),none,false⟩
def oI (n a b c:Nat):ep:=⟨.a8 n (.t a) (.t b),(some c),none,false⟩
def oA (a:Nat):ep:=⟨.alloc [(.int .i64 0),(.int .i64 0),(.str []),(.int .i64 0),.bg],(some a),none,false⟩
def zN:List D:=[(.int .i64 0),(.int .i64 0),(.str []),(.int .i64 0),.bg]
def oP (i:bM f7) (a:Nat):ep:=⟨i,some a,none,true⟩
def oQ (i:bM f7) (a:Nat):ep:=⟨i,some a,none,false⟩
def oG (i:bM f7) (a b:Nat) (c d:Bool):ep:=⟨i,some a,some (b,c),d⟩
def oU (i:bM f7):ep:=⟨i,none,none,false⟩
def oE (f:BinOp) (a b c:Nat):ep:=⟨.bin f (.t a) (.t b),some c,none,true⟩
def oH (f:BinOp) (a:Nat) (n:Int) (c:Nat):ep:=⟨.bin f (.t a) (.c (.int .i64 n)),some c,none,true⟩
def oC (f:Nat) (l:List f7) (a:Nat):ep:=⟨.call (.f f) l,some a,none,false⟩
def oD (f:Nat) (l:List f7) (a:Nat):ep:=⟨.qcall (.f f) l,some a,none,false⟩
def kI (n:Int):f7:=.c (.int .i64 n)
def kS (s:List UInt8):f7:=.c (.str s)
def kB (b:Bool):f7:=.c (.bool b)
def sO (l:List ep) (s:dL):dL:=.seq (.ops l) s
theorem iD:a7% (And.intro (And.intro (And.intro (And.intro @oM.eq_1 (And.intro @oL.eq_1 @oJ.eq_1)) (And.intro @oF.eq_1 (And.intro @oS.eq_1 @oN.eq_1))) (And.intro (And.intro @oX.eq_1 (And.intro @oZ.eq_1 @oW.eq_1)) (And.intro @oI.eq_1 (And.intro @oA.eq_1 @zN.eq_1)))) (And.intro (And.intro (And.intro @oP.eq_1 (And.intro @oQ.eq_1 @oG.eq_1)) (And.intro @oU.eq_1 (And.intro @oE.eq_1 @oH.eq_1))) (And.intro (And.intro @oC.eq_1 (And.intro @oD.eq_1 @kI.eq_1)) (And.intro @kS.eq_1 (And.intro @kB.eq_1 @sO.eq_1))))):=And.intro (And.intro (And.intro (And.intro @oM.eq_1 (And.intro @oL.eq_1 @oJ.eq_1)) (And.intro @oF.eq_1 (And.intro @oS.eq_1 @oN.eq_1))) (And.intro (And.intro @oX.eq_1 (And.intro @oZ.eq_1 @oW.eq_1)) (And.intro @oI.eq_1 (And.intro @oA.eq_1 @zN.eq_1)))) (And.intro (And.intro (And.intro @oP.eq_1 (And.intro @oQ.eq_1 @oG.eq_1)) (And.intro @oU.eq_1 (And.intro @oE.eq_1 @oH.eq_1))) (And.intro (And.intro @oC.eq_1 (And.intro @oD.eq_1 @kI.eq_1)) (And.intro @kS.eq_1 (And.intro @kB.eq_1 @sO.eq_1))))
theorem aD:a7% (And.intro @iD (And.intro (And.intro (And.intro (And.intro (And.intro @zz @iH) (And.intro @iF @iE)) (And.intro (And.intro @iG (And.intro @Dh (And.intro (And.intro @Dm @yh) (And.intro @wA @CP)))) (And.intro @Int.natCast_nonneg @Nat.le_refl))) (And.intro (And.intro (And.intro @Int.le_refl @List.take_succ_cons.{0}) (And.intro @List.take_zero.{0} @decide_true)) (And.intro (And.intro @decide_false @Bool.and_false) (And.intro @Bool.false_and (And.intro @cond_true.{0} @cond_false.{0}))))) (And.intro (And.intro @y7 @Cd) (And.intro (And.intro @Ce @yj) (And.intro @Dl @EA))))):=And.intro @iD (And.intro (And.intro (And.intro (And.intro (And.intro @zz @iH) (And.intro @iF @iE)) (And.intro (And.intro @iG (And.intro @Dh (And.intro (And.intro @Dm @yh) (And.intro @wA @CP)))) (And.intro @Int.natCast_nonneg @Nat.le_refl))) (And.intro (And.intro (And.intro @Int.le_refl @List.take_succ_cons.{0}) (And.intro @List.take_zero.{0} @decide_true)) (And.intro (And.intro @decide_false @Bool.and_false) (And.intro @Bool.false_and (And.intro @cond_true.{0} @cond_false.{0}))))) (And.intro (And.intro @y7 @Cd) (And.intro (And.intro @Ce @yj) (And.intro @Dl @EA))))
end Go.Proofs.YtpklkpkfgmoghaaGreatDoor.Zz
namespace Go.Proofs.YtpklkpkfgmoghaaGreatDoor.Zz
def zs0:List Int:=[1,10,100,1000,10000,100000,1000000,10000000,100000000,1000000000,10000000000,100000000000,1000000000000,10000000000000,100000000000000,1000000000000000,10000000000000000,100000000000000000,1000000000000000000,10000000000000000000]
def gl0:List D:=zs0.map fun z=>.int .u64 z
instance agr:aN:=⟨fun g=>if g=0 then some gl0 else none,fun g=>if g=2 then some .i64 else none⟩
theorem C4 {g:Nat} {ds:List D} (e:aN.of g=some ds):(g=0∧ds=gl0):=by
 simp only [aN.of] at e
 split at e
 ·ab h; cases e; exact ⟨h,rfl⟩
 ·cases e
theorem Gv {g:Nat} {k:IntKind} (e:aN.ints g=some k):(g=2∧k=.i64):=by
 simp only [aN.ints] at e
 split at e
 ·ab h; cases e; exact ⟨h,rfl⟩
 ·cases e
end Go.Proofs.YtpklkpkfgmoghaaGreatDoor.Zz

namespace Go.Proofs.YtpklkpkfgmoghaaGreatDoor.Zz
def p62:cj:=⟨⟨[],[],[],[],[],[]⟩,[],[],false⟩
def s62:dL:=
 sO [oP (.cy (kB false)) 2]
 (sO [oM 0 3,
 oP (.bin .geq (.t 3) (.c (.int .u8 97))) 4,
 oM 4 5,
 oG (.cy (.t 0)) 6 5 true true,
 oG (.bin .leq (.t 6) (.c (.int .u8 122))) 7 5 true true,
 oP (.pick (.t 5) (.t 7) (kB false)) 8,
 oM 8 9,
 oG (.cy (.t 0)) 10 9 false true,
 oG (.bin .geq (.t 10) (.c (.int .u8 65))) 11 9 false true,
 oG (.cy (.t 11)) 12 9 false true,
 oG (.cy (.t 0)) 13 12 true true,
 oG (.bin .leq (.t 13) (.c (.int .u8 90))) 14 12 true true,
 oG (.pick (.t 12) (.t 14) (kB false)) 15 9 false true,
 oP (.pick (.t 9) (kB true) (.t 15)) 16,
 oM 16 17,
 oG (.cy (.t 0)) 18 17 false true,
 oG (.bin .eql (.t 18) (.c (.int .u8 95))) 19 17 false true,
 oP (.pick (.t 17) (kB true) (.t 19)) 20,
 oM 20 2]
 (.ret))
theorem afh:bJ Tryz.prog 53 p62=some (s62,[.tmp 2],21):=by kernel_rfl
def p63:cj:=⟨⟨[],[],[],[],[],[]⟩,[],[],false⟩
def s63:dL:=
 sO [oP (.cy (kB false)) 2]
 (sO [oM 0 3,
 oP (.bin .geq (.t 3) (.c (.int .u8 48))) 4,
 oM 4 5,
 oG (.cy (.t 0)) 6 5 true true,
 oG (.bin .leq (.t 6) (.c (.int .u8 57))) 7 5 true true,
 oP (.pick (.t 5) (.t 7) (kB false)) 8,
 oM 8 2]
 (.ret))
theorem afi:bJ Tryz.prog 51 p63=some (s63,[.tmp 2],9):=by kernel_rfl
def p76:cj:=⟨⟨[],[],[],[],[],[]⟩,[],[],false⟩
def s76:dL:=
 sO [oP (.cy (kB false)) 2]
 (sO [oM 0 3,
 oP (.bin .neq (.t 3) (.c (.int .u8 10))) 4,
 oM 4 2]
 (.ret))
theorem afo:bJ Tryz.prog 50 p76=some (s76,[.tmp 2],5):=by kernel_rfl
def p78:cj:=⟨⟨[],[],[],[],[],[]⟩,[],[],false⟩
def s78:dL:=
 sO [oP (.cy (kB false)) 2]
 (sO [oM 0 3,
 oD 53 [.t 3] 4,
 oM 4 5,
 oG (.cy (.t 0)) 6 5 false true,
 oG (.qcall (.f 51) [(.t 6)]) 7 5 false false,
 oP (.pick (.t 5) (kB true) (.t 7)) 8,
 oM 8 2]
 (.ret))
theorem afq:bJ Tryz.prog 54 p78=some (s78,[.tmp 2],9):=by kernel_rfl
def p75:cj:=⟨⟨[],[],[],[],[],[]⟩,[],[],false⟩
def s75:dL:=
 sO [oP (.cy (kI 0)) 6]
 (sO [oP (.cy (kI 0)) 7]
 (.seq (.block 0 (.loop (.seq (sO [oM 1 8,
 oM 7 9,
 oE .add 8 9 10,
 oM 0 11,
 oW 11 12,
 oE .lss 10 12 13,
 oM 13 14,
 oG (.cy (.t 2)) 15 14 true true,
 oG (.cy (.t 0)) 16 14 true true,
 oG (.cy (.t 1)) 17 14 true true,
 oG (.cy (.t 7)) 18 14 true true,
 oG (.bin .add (.t 17) (.t 18)) 19 14 true true,
 oG (.ic (.t 16) (.t 19)) 20 14 true true,
 oG (.qcall (.t 15) [(.t 20)]) 21 14 true false,
 oP (.pick (.t 14) (.t 21) (kB false)) 22]
 (.cond (.t 22)
 (.skip)
 (.exit 0)))
 (.block 1 (.ops [oM 7 23,
 oH .add 23 1 24,
 oM 24 7])))))
 (sO [oM 7 25,
 oM 25 6]
 (.ret))))
theorem afn:bJ Tryz.prog 49 p75=some (s75,[.tmp 6],26):=by kernel_rfl
def p84:cj:=⟨⟨[],[],[],[],[],[]⟩,[],[],false⟩
def s84:dL:=
 sO [oP (.cy (kB false)) 4]
 (sO [oM 0 5,
 oW 5 6,
 oM 1 7,
 oW 7 8,
 oE .geq 6 8 9,
 oM 9 10,
 oG (.cy (.t 0)) 11 10 true true,
 oG (.cy (.t 1)) 12 10 true true,
 oG (.len .str (.t 12)) 13 10 true false,
 oG (.slice .str (.t 11) none (some (.t 13)) none) 14 10 true false,
 oG (.cy (.t 1)) 15 10 true true,
 oG (.bin .eql (.t 14) (.t 15)) 16 10 true true,
 oP (.pick (.t 10) (.t 16) (kB false)) 17,
 oM 17 4]
 (.ret))
theorem afu:bJ Tryz.prog 77 p84=some (s84,[.tmp 4],18):=by kernel_rfl
def p74:cj:=⟨⟨[],[],[],[],[],[]⟩,[],[],false⟩
def s74:dL:=
 sO [oP (.cy (kB false)) 4]
 (sO [oM 0 5,
 oM 1 6,
 oD 77 [.t 5,.t 6] 7,
 oM 7 4]
 (.ret))
theorem afm:bJ Tryz.prog 48 p74=some (s74,[.tmp 4],8):=by kernel_rfl
def isDigit (n:Int):Bool:=decide (48≤n) && decide (n≤57)
def eD (n:Int):Bool:=(decide (97≤n) && decide (n≤122)) || (decide (65≤n) && decide (n≤90)) || n==95
theorem RX (n:Int):aO Tryz.prog 51 [.int .u8 n] (.bool (isDigit n)):=by
 refine aO.run (bm.eH _) afi (by simp) fun E=>?_
 simp only [s63,zz,iH,iF,iE,iG,iD,cond_true,cond_false,seval]
 simp only [isDigit,or_self]
 (repeat' split)<;>dj<;>omega
theorem Oz (n:Int):aO Tryz.prog 53 [.int .u8 n] (.bool (eD n)):=by
 refine aO.run (bm.eH _) afh (by simp) fun E=>?_
 simp only [s62,zz,iH,iF,iE,iG,iD,cond_true,cond_false,seval]
 simp only [eD,or_self]
 (repeat' split)<;>dj<;>omega
def Td:List D→Option D
 | [.int .u8 n]=>if True then some (.bool (isDigit n)) else none
 | _=>none
theorem W7 (args:List D) (d:D) (h:Td args=some d):aO Tryz.prog 51 args d:=by
 unfold Td at h
 split at h
 ·split at h
  ·cases h; exact RX _
  ·cases h
 ·cases h
def W5:List D→Option D
 | [.int .u8 n]=>if True then some (.bool (eD n)) else none
 | _=>none
theorem W6 (args:List D) (d:D) (h:W5 args=some d):aO Tryz.prog 53 args d:=by
 unfold W5 at h
 split at h
 ·split at h
  ·cases h; exact Oz _
  ·cases h
 ·cases h
theorem SA (n:Int):aO Tryz.prog 50 [.int .u8 n] (.bool (n != 10)):=by
 refine aO.run (bm.eH _) afo (by simp) fun E=>?_
 simp only [s76,zz,iH,iF,iE,iG,iD,cond_true,cond_false,seval]
def q76:List D→Option D
 | [.int .u8 n]=>if True then some (.bool (n != 10)) else none
 | _=>none
theorem Xf (args:List D) (d:D) (h:q76 args=some d):aO Tryz.prog 50 args d:=by
 unfold q76 at h
 split at h
 ·split at h
  ·cases h; exact SA _
  ·cases h
 ·cases h
def E3:bm:=bm.zero.dh 51 Td
theorem He (g:FuncId) (args:List D):E3.q g args=if g=51 then Td args else bm.zero.q g args:=rfl
theorem P0:E3.a=bm.zero.a:=rfl
theorem P1:E3.c=bm.zero.c:=rfl
theorem TB:E3.ok Tryz.prog:=bm.bq (bm.eH _) W7
theorem P2:a7% (And.intro @He (And.intro @P0 @P1)):=(And.intro @He (And.intro @P0 @P1))
def E2:bm:=E3.dh 53 W5
theorem Hd (g:FuncId) (args:List D):E2.q g args=if g=53 then W5 args else E3.q g args:=rfl
theorem PY:E2.a=E3.a:=rfl
theorem PZ:E2.c=E3.c:=rfl
theorem Kb:E2.ok Tryz.prog:=bm.bq TB W6
theorem Hc:a7% (And.intro (And.intro @Hd (And.intro @PY @PZ)) @P2):=(And.intro (And.intro @Hd (And.intro @PY @PZ)) @P2)
theorem GH (n:Int):aO Tryz.prog 54 [.int .u8 n] (.bool (eD n || isDigit n)):=by
 refine aO.run Kb afq (by simp) fun E=>?_
 simp only [s78,W5,Td,Hc,zz,iH,iF,iE,iG,iD,cond_true,cond_false,seval]
 split<;>dj
def q78:List D→Option D
 | [.int .u8 n]=>if True then some (.bool (eD n || isDigit n)) else none
 | _=>none
theorem Xh (args:List D) (d:D) (h:q78 args=some d):aO Tryz.prog 54 args d:=by
 unfold q78 at h
 split at h
 ·split at h
  ·cases h; exact GH _
  ·cases h
 ·cases h
def E_:bm:=E2.dh 50 q76
theorem Hh (g:FuncId) (args:List D):E_.q g args=if g=50 then q76 args else E2.q g args:=rfl
theorem Qh:E_.a=E2.a:=rfl
theorem Qi:E_.c=E2.c:=rfl
theorem TD:E_.ok Tryz.prog:=bm.bq Kb Xf
theorem Qj:a7% (And.intro (And.intro @Hh (And.intro @Qh @Qi)) @Hc):=(And.intro (And.intro @Hh (And.intro @Qh @Qi)) @Hc)
def yf:bm:=E_.dh 54 q78
theorem Hj (g:FuncId) (args:List D):yf.q g args=if g=54 then q78 args else E_.q g args:=rfl
theorem Qn:yf.a=E_.a:=rfl
theorem Qo:yf.c=E_.c:=rfl
theorem BU:yf.ok Tryz.prog:=bm.bq TD Xh
theorem Qp:a7% (And.intro (And.intro @Hj (And.intro @Qn @Qo)) @Qj):=(And.intro (And.intro @Hj (And.intro @Qn @Qo)) @Qj)
def jl (p:Int→Bool) (l:List UInt8):Nat:=(l.takeWhile fun c=>p (c.toNat:Int)).length
theorem lH (p:Int→Bool) (l:List UInt8):jl p l≤l.length:=by
 have:=(List.takeWhile_sublist (l:=l) fun c=>p (c.toNat:Int)).length_le
 exact this
theorem ky (p:Int→Bool) (c:UInt8) (l:List UInt8):jl p (c::l)=if p (c.toNat:Int)=true then jl p l+1 else 0:=by
 simp only [jl,List.takeWhile_cons]
 split<;>simp
theorem drop_cons {s:List UInt8} {i:Nat} (h:i<s.length):s.drop i=s.getD i 0::s.drop (i+1):=by
 rw [List.drop_eq_getElem_cons h]
 simp [h]
theorem aaP {k:FuncId} {p:Int→Bool} (hq:∀n,yf.q k [.int .u8 n]=some (.bool (p n))) (s:List UInt8) (a:Nat) (h1:a≤1000000) (h2:s.length≤1000000):
  aO Tryz.prog 49 [.str s,.int .i64 a,.func (.func k) [] []] (.int .i64 (jl p (s.drop a))):=by
 refine aO.run BU afn (by simp) fun E=>?_
 simp only [s75,zz,iH,iF,iE,iG,iD,cond_true,cond_false,seval]
 refine c6 (X:=Nat) (fun n=>[(0,.str s),(1,.int .i64 a),(2,.func (.func k) [] []),(7,.int .i64 n)]) (fun _=>aa.emp) (fun n=>s.length - n)
  (fun n=>(n=0∨a+n≤s.length)∧n+jl p (s.drop (a+n))=jl p (s.drop a)) 0 (by simp) ?_ (aa.aU _) ?_
 ·simp only [zz,iH,iF,iE,iG,iD,cond_true,cond_false,seval]
 ·rintro n Q ⟨i1,i2⟩ hQ
  have w1:IntKind.i64.wrap ((a:Int)+(n:Int))=((a+n:Nat):Int):=wrap_add (by omega)
  have wi:IntKind.i64.wrap ((n:Int)+1)=((n+1:Nat):Int):=de (by omega)
  by_cases c1:a+n<s.length
  ·have g1:(((a+n:Nat):Int)<(s.length:Int))=True:=by simp; omega
   rw [drop_cons c1,ky] at i2
   simp only [g1,w1,wi,hq,decide_true,zz,iH,iF,iE,iG,iD,cond_true,cond_false,seval]
   intro _
   refine ⟨by omega,?_⟩
   split
   ·ab hp
    rw [if_pos hp] at i2
    refine hQ (n+1) _ _ ⟨by omega,by rw [←Nat.add_assoc]; omega⟩ ?_ (aa.aU _) (by omega)
    simp only [zz,iH,iF,iE,iG,iD,cond_true,cond_false,seval]
   ·ab hp
    rw [if_neg hp] at i2
    exact .inl (by omega)
  ·have g1:(((a+n:Nat):Int)<(s.length:Int))=False:=by simp; omega
   have e:s.drop (a+n)=[]:=List.drop_of_length_le (by omega)
   rw [e] at i2
   simp only [g1,w1,wi,hq,decide_false,zz,iH,iF,iE,iG,iD,cond_true,cond_false,seval]
   intro _
   simp only [jl,List.takeWhile_nil,List.length_nil] at i2
   exact .inl (by simp only [jl]; omega)
def pre (s t:List UInt8):Bool:=s.take t.length==t
theorem N5 (s t:List UInt8):aO Tryz.prog 77 [.str s,.str t] (.bool (pre s t)):=by
 refine aO.run BU afu (by simp) fun E=>?_
 simp only [s84,zz,iH,iF,iE,iG,iD,cond_true,cond_false,seval]
 intro _ _
 split
 ·exact fun _=>⟨⟨by omega,by omega⟩,.inl rfl⟩
 ·refine .inl ?_
  ab h
  have:s.take t.length=s:=List.take_of_length_le (by omega)
  simp only [pre,this]
  symm
  apply beq_eq_false_iff_ne.2
  intro e
  rw [e] at h
  omega
def q84:List D→Option D
 | [.str s,.str t]=>if True then some (.bool (pre s t)) else none
 | _=>none
theorem Xl (args:List D) (d:D) (h:q84 args=some d):aO Tryz.prog 77 args d:=by
 unfold q84 at h
 split at h
 ·split at h
  ·cases h; exact N5 _ _
  ·cases h
 ·cases h
def Fe:bm:=yf.dh 77 q84
theorem Qz (g:FuncId) (args:List D):Fe.q g args=if g=77 then q84 args else yf.q g args:=rfl
theorem Qx:Fe.a=yf.a:=rfl
theorem Qy:Fe.c=yf.c:=rfl
theorem Kx:Fe.ok Tryz.prog:=bm.bq BU Xl
theorem Hl:a7% (And.intro (And.intro @Qz (And.intro @Qx @Qy)) @Qp):=(And.intro (And.intro @Qz (And.intro @Qx @Qy)) @Qp)
theorem C9 (s t:List UInt8):aO Tryz.prog 48 [.str s,.str t] (.bool (pre s t)):=by
 refine aO.run Kx afm (by simp) fun E=>?_
 simp only [s74,q84,Hl,zz,iH,iF,iE,iG,iD,cond_true,cond_false,seval]
def Xc:List D→Option D
 | [.str s,.str t]=>if True then some (.bool (pre s t)) else none
 | _=>none
theorem Xd (args:List D) (d:D) (h:Xc args=some d):aO Tryz.prog 48 args d:=by
 unfold Xc at h
 split at h
 ·split at h
  ·cases h; exact C9 _ _
  ·cases h
 ·cases h
def E8:bm:=Fe.dh 48 Xc
theorem Qc (g:FuncId) (args:List D):E8.q g args=if g=48 then Xc args else Fe.q g args:=rfl
theorem P_:E8.a=Fe.a:=rfl
theorem Qa:E8.c=Fe.c:=rfl
theorem TC:E8.ok Tryz.prog:=bm.bq Kx Xd
theorem Qb:a7% (And.intro (And.intro @Qc (And.intro @P_ @Qa)) @Hl):=(And.intro (And.intro @Qc (And.intro @P_ @Qa)) @Hl)
def gy (n:Int):Bool:=eD n || isDigit n
def kU:FuncId→Option (Int→Bool)
 | 51=>some isDigit
 | 50=>some fun n=>n != 10
 | 54=>some gy
 | _=>none
def Te:List D→Option D
 | [.str s,.int .i64 a,.func (.func k) [] []]=>match kU k with
  | some p=>if 0≤a∧a≤1000000∧s.length≤1000000 then some (.int .i64 (jl p (s.drop a.toNat))) else none
  | none=>none
 | _=>none
theorem LP {k:FuncId} {p:Int→Bool} (h:kU k=some p) (n:Int):yf.q k [.int .u8 n]=some (.bool (p n)):=by
 unfold kU at h
 split at h<;>cases h<;>simp [gy,Td,q76,q78,Hj,Hh,Hd,He]
theorem Xe (args:List D) (d:D) (h:Te args=some d):aO Tryz.prog 49 args d:=by
 unfold Te at h
 split at h
 ·ab s a k
  split at h
  ·ab p hp
   split at h
   ·ab hc
    obtain ⟨n,rfl⟩:=Int.eq_ofNat_of_zero_le hc.1
    cases h
    exact aaP (LP hp) s n (by omega) hc.2.2
   ·cases h
  ·cases h
 ·cases h
def E9:bm:=E8.dh 49 Te
theorem Qg (g:FuncId) (args:List D):E9.q g args=if g=49 then Te args else E8.q g args:=rfl
theorem Qd:E9.a=E8.a:=rfl
theorem Qe:E9.c=E8.c:=rfl
theorem Ko:E9.ok Tryz.prog:=bm.bq TC Xe
theorem Qf:a7% (And.intro (And.intro @Qg (And.intro @Qd @Qe)) @Qb):=(And.intro (And.intro @Qg (And.intro @Qd @Qe)) @Qb)
end Go.Proofs.YtpklkpkfgmoghaaGreatDoor.Zz
