/- Running code by laws, more: where a choice is already made, the other way is not looked at. -/
import Derived.Test.YtpklkpkfgmoghaaGreatDoorZZC
import Derived.Laws.Externs
import Derived.KernelRfl
import Derived.Below
import Derived.Sort.Row
import Derived.Sort.Grow
import Derived.Deep.Draws
import Derived.Lib.LaidTab
import Derived.Lib.Join
import Derived.Test.YtpklkpkfgmoghaaGreatDoorProg
set_option linter.unnecessarySimpa false
set_option linter.unusedVariables false
set_option linter.unusedSimpArgs false
set_option maxRecDepth 20000
namespace Go.Proofs.YtpklkpkfgmoghaaGreatDoor.Zz
variable {T:bf} {K:Ex→Fr→aa→Prop} {E:Fr→D→aa→Prop} {σ:Fr} {h:aa}
theorem HE {b:Bool} {A B:Prop}:((b=true→A)∧(b=false→B))=if b=true then A else B:=by
 cases b<;>simp
theorem NM {b:Bool} {A B:Prop}:((b=false→A)∧(b=true→B))=if b=true then B else A:=by
 cases b<;>simp
theorem Cd {c:fS} {a b:dA} {k:List Item} {t:Bool}:Oa T K E c a b k σ h (.bool t)=if t=true then vc T a (todo T K E k) E (σ.mark c true) h else vc T b (todo T K E k) E (σ.mark c false) h:=by
 rw [Gp,HE]
theorem CJ {i:bG fS} {d:Option Nat} {os:List dY} {K:Fr→aa→Prop} {t:Nat} {p b:Bool}:guard T i d t true p os K E σ h (.bool b)=if b=true then eU T (⟨i,d,none,p⟩::os) K E (σ.put (some t) (.bool true)) h else eU T os K E ((σ.put (some t) (.bool false)).put d (.tuple [])) h:=by
 rw [Re,HE]
theorem CI {i:bG fS} {d:Option Nat} {os:List dY} {K:Fr→aa→Prop} {t:Nat} {p b:Bool}:guard T i d t false p os K E σ h (.bool b)=if b=true then eU T os K E ((σ.put (some t) (.bool true)).put d (.tuple [])) h else eU T (⟨i,d,none,p⟩::os) K E (σ.put (some t) (.bool false)) h:=by
 rw [Rd,NM]
def cE (l:List (List UInt8)):List (List D):=l.map fun s=>[.str s]
def fl (l:List Int):List (List D):=l.map fun c=>[.int .i64 c]
theorem cY {l:List (List UInt8)}:(cE l).length=l.length:=by simp [cE]
theorem fJ {l:List Int}:(fl l).length=l.length:=by simp [fl]
theorem M6 {l:List (List UInt8)} {i:Nat}:(cE l)[i]? =l[i]?.map fun s=>[.str s]:=by simp [cE]
theorem rP {K:D→aa→Prop} {l:List (List UInt8)} {i:Int}:iC 1 K h (cE l) i=((0≤i∧i<l.length)∧∀x,l[i.toNat]? =some x→K (.cU [.str x] 0) h):=lE fun _=>rfl
theorem KE {K:D→aa→Prop} {l:List Int} {i:Int}:iC 1 K h (fl l) i=((0≤i∧i<l.length)∧∀x,l[i.toNat]? =some x→K (.cU [.int .i64 x] 0) h):=lE fun _=>rfl
theorem j9 {l:List (List UInt8)} {x:List UInt8}:cE l++[[.str x]]=cE (l++[x]):=by simp [cE]
theorem Ck {l:List Int} {x:Int}:fl l++[[.int .i64 x]]=fl (l++[x]):=by simp [fl]
def vi:List (List D)→Option (List (List UInt8))
 | []=>some []
 | [.str s]::l=>(vi l).map (s::·)
 | _=>none
theorem qu (l:List (List UInt8)):vi (cE l)=some l:=by
 induction l with
 | nil=>rfl
 | cons s l ih=>show (vi (cE l)).map _=_; rw [ih]; rfl
theorem iP:∀{l:List (List D)} {x:List (List UInt8)},vi l=some x→l=cE x
 | [],x,h=>by cases h; rfl
 | [.str s]::l,x,h=>by
  simp only [vi,Option.map_eq_some_iff] at h
  obtain ⟨y,h1,rfl⟩:=h
  rw [iP h1]; rfl
def KW:List (List D)→Option (List Int)
 | []=>some []
 | [.int .i64 s]::l=>(KW l).map (s::·)
 | _=>none
theorem MW (l:List Int):KW (fl l)=some l:=by
 induction l with
 | nil=>rfl
 | cons s l ih=>show (KW (fl l)).map _=_; rw [ih]; rfl
theorem yd:∀{l:List (List D)} {x:List Int},KW l=some x→l=fl x
 | [],x,h=>by cases h; rfl
 | [.int .i64 s]::l,x,h=>by
  simp only [KW,Option.map_eq_some_iff] at h
  obtain ⟨y,h1,rfl⟩:=h
  rw [yd h1]; rfl
def kC (r n:Nat):D:=if n=0 then .a_ else .row r (n+2) 0 n
def Lv (h:aa) (r sz:Nat) (xs:List (List D)):aa:=if xs=[] then h else h.set r (.row sz (xs.length+2) xs false)
theorem fN {r:Nat}:kC r 0=.a_:=rfl
theorem cp {r n:Nat} (h:n≠0):kC r n=.row r (n+2) 0 n:=by simp [kC,h]
theorem nM {h:aa} {r sz:Nat}:Lv h r sz []=h:=rfl
theorem kc {h:aa} {r sz:Nat} {xs:List (List D)} (e:xs≠[]):Lv h r sz xs=h.set r (.row sz (xs.length+2) xs false):=by simp [Lv,e]
def vu (P:Program) (f:FuncId) (n:String):Bool:=
 match P.funcs[f]? with
 | some fn=>fn.name==n && fn.origin== "" && fn.body.isNone
 | none=>false
theorem uS.N0 {P:Program} {f:FuncId} {n:String} {e:Array Value→Sem Value} {args:List D} {d:D} (h:vu P f n=true) (h1:Extern.allNextRows.lookup n=none) (h2:Extern.allGenericRows.lookup n=none) (h3:Extern.allTypedRows.lookup n=none)
  (h4:Extern.allRows.lookup n=some e) (hn:(n== "runtime.NumGoroutine")=false)
  (he:∀(κ:b9) (w:World) (vs:Array Value),bJ κ w vs.toList args→∃v,(e vs).run P w=.ok v w∧bX κ w v d):uS P f args d:=fun κ w vs hr=>by
 unfold vu at h
 split at h
 ·rename_i fn hf
  simp only [Bool.and_eq_true,beq_iff_eq] at h
  obtain ⟨⟨k1,k2⟩,k3⟩:=h
  have o1:Extern.allNextRows.lookup "" =none:=by kernel_rfl
  have f1:Extern.findNext fn=none:=by simp only [Extern.findNext,k1,k2,h1,o1]; rfl
  have f2:Extern.find fn=some e:=by simp only [Extern.find,k1,h2,h3,h4]; rfl
  obtain ⟨v,a,b⟩:=he κ w vs hr
  exact ⟨v,by rw [run_callFunc_extern hf (by rw [k1]; exact hn) k3 f1 f2,a]; rfl,b⟩
 ·cases h
theorem kH:Extern.allNextRows.lookup "math.Float64bits" =none∧Extern.allGenericRows.lookup "math.Float64bits" =none∧Extern.allTypedRows.lookup "math.Float64bits" =none∧Extern.allRows.lookup "math.Float64bits" =some Extern.MathFloatBits.float64bits:=
 ⟨by kernel_rfl,by kernel_rfl,by kernel_rfl,by kernel_rfl⟩
theorem kJ:Extern.allNextRows.lookup "math.Float64frombits" =none∧Extern.allGenericRows.lookup "math.Float64frombits" =none∧Extern.allTypedRows.lookup "math.Float64frombits" =none∧Extern.allRows.lookup "math.Float64frombits" =some Extern.MathFloatBits.float64frombits:=
 ⟨by kernel_rfl,by kernel_rfl,by kernel_rfl,by kernel_rfl⟩
def uh:List D→Option D
 | [.float .f64 b]=>some (.int .u64 b)
 | _=>none
def Fj:List D→Option D
 | [.int .u64 n]=>some (.float .f64 n.toNat)
 | _=>none
theorem Fi {P:Program} {f:FuncId} (h:vu P f "math.Float64bits" =true) (args:List D) (d:D) (e:uh args=some d):uS P f args d:=by
 unfold uh at e
 split at e
 ·cases e
  refine .N0 h kH.1 kH.2.1 kH.2.2.1 kH.2.2.2 (by decide) fun κ w vs hr=>?_
  obtain ⟨l⟩:=vs
  cases hr with
  | cons a t=>cases t; cases a; exact ⟨_,rfl,.int _ _⟩
 ·cases e
theorem QD {P:Program} {f:FuncId} (h:vu P f "math.Float64frombits" =true) (args:List D) (d:D) (e:Fj args=some d):uS P f args d:=by
 unfold Fj at e
 split at e
 ·cases e
  refine .N0 h kJ.1 kJ.2.1 kJ.2.2.1 kJ.2.2.2 (by decide) fun κ w vs hr=>?_
  obtain ⟨l⟩:=vs
  cases hr with
  | cons a t=>cases t; cases a; exact ⟨_,rfl,.float _ _⟩
 ·cases e
def U2 (o:Option Nat) (K:D→aa→Prop) (h:aa):Prop:=
 match o with
 | some r=>K (.float .f64 r) h
 | none=>∀r,FloatKind.f64.format.order r r=none→K (.float .f64 r) h
theorem CW {op:BinOp} {a b:Nat} {K E:D→aa→Prop}:dS T (.iQ op (.float .f64 a) (.float .f64 b)) h K E=(eI op=true∧U2 (floatBits op .f64 a b) K h):=rfl
theorem yq {r:Nat} {K:D→aa→Prop}:U2 (some r) K h=K (.float .f64 r) h:=rfl
theorem yo {K:D→aa→Prop}:U2 none K h=∀r,FloatKind.f64.format.order r r=none→K (.float .f64 r) h:=rfl
theorem w_ {k:IntKind} {b:Nat}:dI (.conv (.vx k) (.float .f64 b))=(floatToIntVal .f64 b k).map (.int k):=rfl
theorem rF {b:Nat}:dI (.conv .pN (.float .f64 b))=some (.float .f64 b):=rfl
end Go.Proofs.YtpklkpkfgmoghaaGreatDoor.Zz
namespace Go.Proofs.YtpklkpkfgmoghaaGreatDoor.Zz
open Go.RowKit
theorem aM.jq [aL] {P:Program} {f:FuncId} {args:List D} {d:D} (hc:eY P f=true)
  (h:∀(κ:b9) (w:World) (vs:Array Value),gh κ w→bJ κ w vs.toList args→(∀b,κ.gC b→b<w.heap.size)→
   Calls P f vs w fun e w'=>∃v,e=.returned v∧(∀(κ':b9) (Ah:World),bX κ' Ah v d)∧Below w.heap.size w w'):aM P f args d:=by
 refine ⟨hc,fun κ w vs hi hr=>(h κ w vs hi.kz hr hi.fb).mono fun e w' ⟨v,e1,r,b⟩=>?_⟩
 subst e1
 have le:Le κ w κ w':=⟨fun x hx=>⟨hx,b.block x (hi.fb x hx)⟩,(Le.refl κ w).loc⟩
 refine ⟨.ret d,.emp,κ,rfl,.ret (r _ _),⟨fun x hx=>Nat.lt_of_lt_of_le (hi.fb x hx) b.size,fun i p hp=>Nat.lt_of_lt_of_le (hi.h_ i p hp) b.size,hi.fresh,fun i o ho=>(by cases ho),fun i j oi oj pi pj b ho=>(by cases ho),hi.kz.mono le⟩,?_⟩
 exact ⟨b.os,b.tape,b.output,b.size,fun x hx _=>b.block x hx,fun _ h=>h,fun _ _ h=>.inl h,le.loc,fun _ _ h _=>h,fun _ _ h=>h,fun _ _ _ h=>h⟩
theorem FC (w:World) (k:Nat) (os:Array Obj):Below w.heap.size w (Go.Sort.grow (w.drewN k) os):=by
 refine ⟨rfl,rfl,rfl,?_,fun i hi=>?_⟩
 ·simp [Go.Sort.grow,World.drewN]
 ·show (w.heap++os)[i]? =_
  rw [Array.getElem?_append_left hi]
theorem B0 (w:World) (k:Nat):Below w.heap.size w (w.drewN k):=⟨rfl,rfl,rfl,Nat.le_refl _,fun _ _=>rfl⟩
theorem WM [aL] {P:Program} {κ:b9} {w:World} {n:String} {g:Nat} {k:IntKind} {zs:List Int} (h:gh κ w) (hg:P.globalNamed n=some g) (e:aL.of g=some (zs.map fun z=>.int k z)):Lib.TabIs P w n k zs:=by
 obtain ⟨_,cs,t,h1,h2,h3⟩:=h.of g _ e
 unfold Lib.TabIs World.var?
 rw [hg,Option.bind_some,h1]
 show some cs=_
 congr 1
 apply Array.ext'
 apply List.ext_getElem?
 intro j
 by_cases hj:j<zs.length
 ·obtain ⟨v,h4,h5⟩:=h3 j (.int k zs[j]) (by simp [hj])
  cases h5
  simp [h4,hj]
 ·have:cs.size=zs.length:=by simpa using h2
  rw [List.getElem?_eq_none (by simp; omega),List.getElem?_eq_none (by simp; omega)]
theorem fu {κ:b9} {w:World} {v:Value} {s:List UInt8} (h:bX κ w v (.str s)):v=.string ⟨s.toArray⟩∧s.length≤9223372036854775807:=by
 cases h with
 | str _ h=>exact ⟨rfl,h⟩
theorem gV {κ:b9} {w:World} {v:Value} {k:IntKind} {n:Int} (h:bX κ w v (.int k n)):v=.int k n:=by cases h; rfl
theorem Bm {κ:b9} {w:World} {v:Value} {l:List (List UInt8)} (h:bX κ w v (.sl (cE l))):(l=[]∧∃a c,v=.slice a 0 c)∨
  ∃b o cap,v=.slice (some ⟨b,o,none⟩) l.length cap∧l.length≤cap∧∀(j:Nat) (s:List UInt8),l[j]? =some s→κ.gC b∧w.cell? ⟨b,o+j,none⟩=some (.string ⟨s.toArray⟩):=by
 generalize hx:cE l=xs at h
 cases h with
 | slnil hb=>
  left
  refine ⟨?_,_,_,rfl⟩
  simpa [cE] using hx
 | sl f hn dO mI hc hr=>
  subst hx
  have hl:(cE l).length=l.length:=cY
  by_cases h0:l=[]
  ·left
   subst h0
   exact ⟨rfl,_,_,rfl⟩
  right
  rename_i b o sz cap
  have Vs:sz=1:=by
   cases l with
   | nil=>exact absurd rfl h0
   | cons s l=>exact (mI [.str s] (by simp [cE])).symm
  subst Vs
  refine ⟨b,o,cap,by rw [hl],by omega,fun j s hj=>?_⟩
  have e1:(cE l)[j]? =some [.str s]:=by rw [M6,hj]; rfl
  obtain ⟨h1,h2⟩:=hc j [.str s] 0 (.str s) e1 rfl
  have h3:=hr j [.str s] 0 (.str s) e1 rfl
  rw [(fu h3).1] at h2
  exact ⟨h1,by simpa using h2⟩
end Go.Proofs.YtpklkpkfgmoghaaGreatDoor.Zz
namespace Go.Proofs.YtpklkpkfgmoghaaGreatDoor.Zz
theorem zz:type_of% (And.intro (And.intro (And.intro (And.intro (And.intro (And.intro (And.intro (And.intro @Int.cast_ofNat_Int @Int.toNat_zero) (And.intro @forall_eq'.{1} @DX)) (And.intro (And.intro @DW @H5) (And.intro @run_seq @zG))) (And.intro (And.intro (And.intro @DV @EX) (And.intro @rD @pF)) (And.intro (And.intro @EV @rB) (And.intro @pE (And.intro @Kg @ug))))) (And.intro (And.intro (And.intro (And.intro @rC @EW) (And.intro @Ag @Qz)) (And.intro (And.intro @C6 @uX) (And.intro @BZ (And.intro @Ax @qh)))) (And.intro (And.intro (And.intro @xW @xV) (And.intro @BX @YM)) (And.intro (And.intro @YL @YK) (And.intro @CL (And.intro @Hy @Tp)))))) (And.intro (And.intro (And.intro (And.intro (And.intro @Yu @NI) (And.intro @CY @Hz)) (And.intro (And.intro @HC @yN) (And.intro @yr (And.intro @Ci @and_imp)))) (And.intro (And.intro (And.intro @yQ @wT) (And.intro @C1 @yO)) (And.intro (And.intro @yP @s3) (And.intro @s4 (And.intro @vL @sZ))))) (And.intro (And.intro (And.intro (And.intro @sX @sV) (And.intro @BW @sW)) (And.intro (And.intro @yM @yJ) (And.intro @r7 (And.intro @CX @yL)))) (And.intro (And.intro (And.intro @yK @sY) (And.intro @NH @HA)) (And.intro (And.intro @A2 @CU) (And.intro @zU (And.intro @D_ @At))))))) (And.intro (And.intro (And.intro (And.intro (And.intro (And.intro @Au @uT) (And.intro @yh @UB)) (And.intro (And.intro @Qv @Kp) (And.intro @aax (And.intro @Fc @Ac)))) (And.intro (And.intro (And.intro @Ae @Ad) (And.intro @Ux @Uy)) (And.intro (And.intro @aay @E9) (And.intro @xa (And.intro @Qw @xc))))) (And.intro (And.intro (And.intro (And.intro @Ks @E5) (And.intro @z7 @z8)) (And.intro (And.intro @Kq @E6) (And.intro @z_ (And.intro @Aa @E7)))) (And.intro (And.intro (And.intro @E8 @Fa) (And.intro @E_ @zZ)) (And.intro (And.intro @Ab @Fb) (And.intro @Uz (And.intro @UA @Qu)))))) (And.intro (And.intro (And.intro (And.intro (And.intro @Fr.nR @Fr.DI) (And.intro @Fr.DH @wD)) (And.intro (And.intro @DT @DU) (And.intro @tu (And.intro @DS @tr)))) (And.intro (And.intro (And.intro @x7 @x8) (And.intro @x9 @x_)) (And.intro (And.intro @zS @HM) (And.intro @Na (And.intro @Dj @zb))))) (And.intro (And.intro (And.intro (And.intro @HH @C9) (And.intro @List.replicate_succ.{0} @List.replicate_zero.{0})) (And.intro (And.intro @List.forall_mem_cons.{0} @List.not_mem_nil.{0}) (And.intro @Nat.zero_lt_succ (And.intro @Nat.lt_add_one @uC)))) (And.intro (And.intro (And.intro @uD @vm) (And.intro @vp @vn)) (And.intro (And.intro @nC @aa.set_set) (And.intro @Int.toNat_natCast (And.intro @tl @yC)))))))) (And.intro (And.intro (And.intro (And.intro (And.intro (And.intro (And.intro @wc @Cv) (And.intro @zu @Ho)) (And.intro (And.intro @tf @yw) (And.intro @zC (And.intro @Hs @qP)))) (And.intro (And.intro (And.intro @vA @zy) (And.intro @Hq @we)) (And.intro (And.intro @Cw @wh) (And.intro @Cy (And.intro @DC @Ng))))) (And.intro (And.intro (And.intro (And.intro @zr @Hn) (And.intro @tj @yB)) (And.intro (And.intro @wg @Cx) (And.intro @py (And.intro @sP @tg)))) (And.intro (And.intro (And.intro @yy @th) (And.intro @yz @zw)) (And.intro (And.intro @Hp @qO) (And.intro @vz (And.intro @zq @Dy)))))) (And.intro (And.intro (And.intro (And.intro (And.intro @HS @zi) (And.intro @HW @v8)) (And.intro (And.intro @HU @Dz) (And.intro @DB (And.intro @Ob @HR)))) (And.intro (And.intro (And.intro @zp @DA) (And.intro @tc @zj)) (And.intro (And.intro @zn @HT) (And.intro @v7 (And.intro @ti @yA))))) (And.intro (And.intro (And.intro (And.intro @zB @HX) (And.intro @Hr @Cu)) (And.intro (And.intro @Ct @yu) (And.intro @wb (And.intro @zo @HV)))) (And.intro (And.intro (And.intro @CC @CE) (And.intro @vF @yD)) (And.intro (And.intro @CA @vB) (And.intro @CF (And.intro @sR @CD))))))) (And.intro (And.intro (And.intro (And.intro (And.intro (And.intro @yE @yG) (And.intro @vE @Ht)) (And.intro (And.intro @Cz @yF) (And.intro @qy (And.intro @vC @vD)))) (And.intro (And.intro (And.intro @CB @sQ) (And.intro @aa.dD @aa.M5)) (And.intro (And.intro @Option.map_some.{0,0} @Option.map_none.{0,0}) (And.intro @Option.some.injEq.{0} (And.intro @exists_eq_left'.{1} @exists_eq_left.{1}))))) (And.intro (And.intro (And.intro (And.intro @true_and @and_true) (And.intro @List.map_cons.{0,0} @List.map_nil.{0,0})) (And.intro (And.intro @List.append_nil.{0} @List.nil_append.{0}) (And.intro @List.cons_append.{0} (And.intro @List.foldl_cons.{0,0} @List.foldl_nil.{0,0})))) (And.intro (And.intro (And.intro @List.all_cons.{0} @List.all_nil.{0}) (And.intro @Bool.and_true @Bool.and_self)) (And.intro (And.intro @Bool.true_and @List.length_cons.{0}) (And.intro @List.length_nil.{0} (And.intro @List.getElem?_cons_zero.{0} @List.getElem?_cons_succ.{0})))))) (And.intro (And.intro (And.intro (And.intro (And.intro @List.set_cons_zero.{0} @List.set_cons_succ.{0}) (And.intro (And.intro @forall_const.{0} @forall_const.{1}) @false_implies)) (And.intro (And.intro (And.intro @implies_true.{0} @implies_true.{1}) @true_implies) (And.intro @Bool.not_true (And.intro @Bool.not_false @decide_eq_true_eq)))) (And.intro (And.intro (And.intro @decide_eq_false_iff_not @Bool.true_eq_false) (And.intro @Bool.false_eq_true @dn.ret.injEq)) (And.intro (And.intro @Nat.zero_add @Nat.add_zero) (And.intro @beq_self_eq_true.{0} (And.intro @bne_self_eq_false.{0} @cond_true.{1}))))) (And.intro (And.intro (And.intro (And.intro @cond_false.{1} @List.drop_zero.{0}) (And.intro @Nat.sub_zero @D.int.injEq)) (And.intro (And.intro @D.str.injEq @D.bool.injEq) (And.intro @D.tuple.injEq (And.intro @D.agg.injEq @D.sl.injEq)))) (And.intro (And.intro (And.intro @List.cons.injEq.{0} @or_true) (And.intro @true_or @or_false)) (And.intro (And.intro @false_or @and_self) (And.intro @not_true_eq_false (And.intro @not_false_eq_true @ne_eq.{1}))))))))):=(And.intro (And.intro (And.intro (And.intro (And.intro (And.intro (And.intro (And.intro @Int.cast_ofNat_Int @Int.toNat_zero) (And.intro @forall_eq'.{1} @DX)) (And.intro (And.intro @DW @H5) (And.intro @run_seq @zG))) (And.intro (And.intro (And.intro @DV @EX) (And.intro @rD @pF)) (And.intro (And.intro @EV @rB) (And.intro @pE (And.intro @Kg @ug))))) (And.intro (And.intro (And.intro (And.intro @rC @EW) (And.intro @Ag @Qz)) (And.intro (And.intro @C6 @uX) (And.intro @BZ (And.intro @Ax @qh)))) (And.intro (And.intro (And.intro @xW @xV) (And.intro @BX @YM)) (And.intro (And.intro @YL @YK) (And.intro @CL (And.intro @Hy @Tp)))))) (And.intro (And.intro (And.intro (And.intro (And.intro @Yu @NI) (And.intro @CY @Hz)) (And.intro (And.intro @HC @yN) (And.intro @yr (And.intro @Ci @and_imp)))) (And.intro (And.intro (And.intro @yQ @wT) (And.intro @C1 @yO)) (And.intro (And.intro @yP @s3) (And.intro @s4 (And.intro @vL @sZ))))) (And.intro (And.intro (And.intro (And.intro @sX @sV) (And.intro @BW @sW)) (And.intro (And.intro @yM @yJ) (And.intro @r7 (And.intro @CX @yL)))) (And.intro (And.intro (And.intro @yK @sY) (And.intro @NH @HA)) (And.intro (And.intro @A2 @CU) (And.intro @zU (And.intro @D_ @At))))))) (And.intro (And.intro (And.intro (And.intro (And.intro (And.intro @Au @uT) (And.intro @yh @UB)) (And.intro (And.intro @Qv @Kp) (And.intro @aax (And.intro @Fc @Ac)))) (And.intro (And.intro (And.intro @Ae @Ad) (And.intro @Ux @Uy)) (And.intro (And.intro @aay @E9) (And.intro @xa (And.intro @Qw @xc))))) (And.intro (And.intro (And.intro (And.intro @Ks @E5) (And.intro @z7 @z8)) (And.intro (And.intro @Kq @E6) (And.intro @z_ (And.intro @Aa @E7)))) (And.intro (And.intro (And.intro @E8 @Fa) (And.intro @E_ @zZ)) (And.intro (And.intro @Ab @Fb) (And.intro @Uz (And.intro @UA @Qu)))))) (And.intro (And.intro (And.intro (And.intro (And.intro @Fr.nR @Fr.DI) (And.intro @Fr.DH @wD)) (And.intro (And.intro @DT @DU) (And.intro @tu (And.intro @DS @tr)))) (And.intro (And.intro (And.intro @x7 @x8) (And.intro @x9 @x_)) (And.intro (And.intro @zS @HM) (And.intro @Na (And.intro @Dj @zb))))) (And.intro (And.intro (And.intro (And.intro @HH @C9) (And.intro @List.replicate_succ.{0} @List.replicate_zero.{0})) (And.intro (And.intro @List.forall_mem_cons.{0} @List.not_mem_nil.{0}) (And.intro @Nat.zero_lt_succ (And.intro @Nat.lt_add_one @uC)))) (And.intro (And.intro (And.intro @uD @vm) (And.intro @vp @vn)) (And.intro (And.intro @nC @aa.set_set) (And.intro @Int.toNat_natCast (And.intro @tl @yC)))))))) (And.intro (And.intro (And.intro (And.intro (And.intro (And.intro (And.intro @wc @Cv) (And.intro @zu @Ho)) (And.intro (And.intro @tf @yw) (And.intro @zC (And.intro @Hs @qP)))) (And.intro (And.intro (And.intro @vA @zy) (And.intro @Hq @we)) (And.intro (And.intro @Cw @wh) (And.intro @Cy (And.intro @DC @Ng))))) (And.intro (And.intro (And.intro (And.intro @zr @Hn) (And.intro @tj @yB)) (And.intro (And.intro @wg @Cx) (And.intro @py (And.intro @sP @tg)))) (And.intro (And.intro (And.intro @yy @th) (And.intro @yz @zw)) (And.intro (And.intro @Hp @qO) (And.intro @vz (And.intro @zq @Dy)))))) (And.intro (And.intro (And.intro (And.intro (And.intro @HS @zi) (And.intro @HW @v8)) (And.intro (And.intro @HU @Dz) (And.intro @DB (And.intro @Ob @HR)))) (And.intro (And.intro (And.intro @zp @DA) (And.intro @tc @zj)) (And.intro (And.intro @zn @HT) (And.intro @v7 (And.intro @ti @yA))))) (And.intro (And.intro (And.intro (And.intro @zB @HX) (And.intro @Hr @Cu)) (And.intro (And.intro @Ct @yu) (And.intro @wb (And.intro @zo @HV)))) (And.intro (And.intro (And.intro @CC @CE) (And.intro @vF @yD)) (And.intro (And.intro @CA @vB) (And.intro @CF (And.intro @sR @CD))))))) (And.intro (And.intro (And.intro (And.intro (And.intro (And.intro @yE @yG) (And.intro @vE @Ht)) (And.intro (And.intro @Cz @yF) (And.intro @qy (And.intro @vC @vD)))) (And.intro (And.intro (And.intro @CB @sQ) (And.intro @aa.dD @aa.M5)) (And.intro (And.intro @Option.map_some.{0,0} @Option.map_none.{0,0}) (And.intro @Option.some.injEq.{0} (And.intro @exists_eq_left'.{1} @exists_eq_left.{1}))))) (And.intro (And.intro (And.intro (And.intro @true_and @and_true) (And.intro @List.map_cons.{0,0} @List.map_nil.{0,0})) (And.intro (And.intro @List.append_nil.{0} @List.nil_append.{0}) (And.intro @List.cons_append.{0} (And.intro @List.foldl_cons.{0,0} @List.foldl_nil.{0,0})))) (And.intro (And.intro (And.intro @List.all_cons.{0} @List.all_nil.{0}) (And.intro @Bool.and_true @Bool.and_self)) (And.intro (And.intro @Bool.true_and @List.length_cons.{0}) (And.intro @List.length_nil.{0} (And.intro @List.getElem?_cons_zero.{0} @List.getElem?_cons_succ.{0})))))) (And.intro (And.intro (And.intro (And.intro (And.intro @List.set_cons_zero.{0} @List.set_cons_succ.{0}) (And.intro (And.intro @forall_const.{0} @forall_const.{1}) @false_implies)) (And.intro (And.intro (And.intro @implies_true.{0} @implies_true.{1}) @true_implies) (And.intro @Bool.not_true (And.intro @Bool.not_false @decide_eq_true_eq)))) (And.intro (And.intro (And.intro @decide_eq_false_iff_not @Bool.true_eq_false) (And.intro @Bool.false_eq_true @dn.ret.injEq)) (And.intro (And.intro @Nat.zero_add @Nat.add_zero) (And.intro @beq_self_eq_true.{0} (And.intro @bne_self_eq_false.{0} @cond_true.{1}))))) (And.intro (And.intro (And.intro (And.intro @cond_false.{1} @List.drop_zero.{0}) (And.intro @Nat.sub_zero @D.int.injEq)) (And.intro (And.intro @D.str.injEq @D.bool.injEq) (And.intro @D.tuple.injEq (And.intro @D.agg.injEq @D.sl.injEq)))) (And.intro (And.intro (And.intro @List.cons.injEq.{0} @or_true) (And.intro @true_or @or_false)) (And.intro (And.intro @false_or @and_self) (And.intro @not_true_eq_false (And.intro @not_false_eq_true @ne_eq.{1})))))))))
theorem iB:type_of% (And.intro @Cd (And.intro @CJ @CI)):=And.intro @Cd (And.intro @CJ @CI)
theorem iz:type_of% (And.intro @CW (And.intro (And.intro @yq @yo) (And.intro @w_ @rF))):=(And.intro @CW (And.intro (And.intro @yq @yo) (And.intro @w_ @rF)))
theorem iy:type_of% (And.intro @Kv (And.intro @zH (And.intro @tm (And.intro @Fr.Cm (And.intro @Fr.yf (And.intro @HG (And.intro @C8 (And.intro @za (And.intro @vT @G5))))))))):=And.intro @Kv (And.intro @zH (And.intro @tm (And.intro @Fr.Cm (And.intro @Fr.yf (And.intro @HG (And.intro @C8 (And.intro @za (And.intro @vT @G5))))))))
theorem iA:type_of% (And.intro (And.intro (And.intro (And.intro (And.intro (And.intro (And.intro @bG.map.eq_1 (And.intro @bG.map.eq_2 @bG.map.eq_3)) (And.intro @bG.map.eq_4 (And.intro @bG.map.eq_5 @bG.map.eq_6))) (And.intro (And.intro @bG.map.eq_7 (And.intro @bG.map.eq_8 @bG.map.eq_9)) (And.intro (And.intro @bG.map.eq_10 @bG.map.eq_11) (And.intro @bG.map.eq_12 @bG.map.eq_13)))) (And.intro (And.intro (And.intro @bG.map.eq_14 (And.intro @bG.map.eq_15 @bG.map.eq_16)) (And.intro @bG.map.eq_17 (And.intro @bG.map.eq_18 @bG.map.eq_19))) (And.intro (And.intro @bG.map.eq_20 (And.intro @bG.map.eq_21 @bG.map.eq_22)) (And.intro (And.intro @bG.map.eq_23 @bG.map.eq_24) (And.intro @bG.map.eq_25 @bG.map.eq_26))))) (And.intro (And.intro (And.intro (And.intro @bG.map.eq_27 (And.intro @bG.map.eq_28 @bG.map.eq_29)) (And.intro @bG.map.eq_30 (And.intro @bG.map.eq_31 @bG.map.eq_32))) (And.intro (And.intro @bG.map.eq_33 (And.intro @bG.map.eq_34 @bG.map.eq_35)) (And.intro (And.intro @bG.map.eq_36 @bG.map.eq_37) (And.intro @bG.map.eq_38 @bG.map.eq_39)))) (And.intro (And.intro (And.intro @bG.map.eq_40 (And.intro @bG.map.eq_41 @bG.map.eq_42)) (And.intro (And.intro @bG.map.eq_43 @bG.map.eq_44) (And.intro @bG.map.eq_45 @bG.map.eq_46))) (And.intro (And.intro @bG.map.eq_47 (And.intro @bG.map.eq_48 @bG.map.eq_49)) (And.intro (And.intro @bG.map.eq_50 @Fr.ev.eq_1) (And.intro @Fr.ev.eq_2 @Fr.ev.eq_3)))))) (And.intro (And.intro (And.intro (And.intro (And.intro @fT.eq_1 (And.intro @Av.eq_1 @Av.eq_2)) (And.intro @jJ.eq_1 (And.intro @jJ.eq_2 @jJ.eq_3))) (And.intro (And.intro @jJ.eq_4 (And.intro @jJ.eq_5 @jJ.eq_6)) (And.intro (And.intro @dP.eq_1 @dP.eq_2) (And.intro @dP.eq_3 @dP.eq_4)))) (And.intro (And.intro (And.intro @dP.eq_5 (And.intro @dP.eq_6 @dP.eq_7)) (And.intro (And.intro @dP.eq_8 @dP.eq_9) (And.intro @dP.eq_10 @dP.eq_11))) (And.intro (And.intro @dP.eq_12 (And.intro @dP.eq_13 @dP.eq_14)) (And.intro (And.intro @dP.eq_15 @dP.eq_16) (And.intro @xQ.eq_1 @xQ.eq_2))))) (And.intro (And.intro (And.intro (And.intro @xQ.eq_3 (And.intro @gX.eq_1 @gX.eq_2)) (And.intro @gX.eq_3 (And.intro @gX.eq_4 @gX.eq_5))) (And.intro (And.intro @gX.eq_6 (And.intro @gX.eq_7 @gX.eq_8)) (And.intro (And.intro @lX.eq_1 @lX.eq_2) (And.intro @lX.eq_3 @lX.eq_4)))) (And.intro (And.intro (And.intro @lX.eq_5 (And.intro @lX.eq_6 @lX.eq_7)) (And.intro (And.intro @lX.eq_8 @Fr.mark.eq_1) (And.intro @Fr.mark.eq_2 @dV.eq_1))) (And.intro (And.intro @dV.eq_2 (And.intro @dV.eq_3 @w8.eq_1)) (And.intro (And.intro @w8.eq_2 @mP.eq_1) (And.intro @mP.eq_2 @mP.eq_3))))))) (And.intro (And.intro (And.intro (And.intro (And.intro (And.intro @mP.eq_4 (And.intro @mP.eq_5 @mP.eq_6)) (And.intro @mP.eq_7 (And.intro @gK.eq_1 @gK.eq_2))) (And.intro (And.intro @eA.eq_1 (And.intro @eA.eq_2 @eA.eq_3)) (And.intro (And.intro @eA.eq_4 @gn.eq_1) (And.intro @gn.eq_2 @fj.eq_1)))) (And.intro (And.intro (And.intro @fj.eq_2 (And.intro @fj.eq_3 @cellsD.eq_1)) (And.intro @cellsD.eq_2 (And.intro @bY.eq_1 @bY.eq_2))) (And.intro (And.intro @bY.eq_3 (And.intro @bY.eq_4 @setAt.eq_1)) (And.intro (And.intro @setAt.eq_2 @fZ.eq_1) (And.intro @fZ.eq_2 @fZ.eq_3))))) (And.intro (And.intro (And.intro (And.intro @fZ.eq_4 (And.intro @fZ.eq_5 @fZ.eq_6)) (And.intro @dZ.eq_1 (And.intro @dZ.eq_2 @dZ.eq_3))) (And.intro (And.intro @dZ.eq_4 (And.intro @dZ.eq_5 @dZ.eq_6)) (And.intro (And.intro @iE.eq_1 @iE.eq_2) (And.intro @iE.eq_3 @iE.eq_4)))) (And.intro (And.intro (And.intro @iE.eq_5 (And.intro @iE.eq_6 @iE.eq_7)) (And.intro (And.intro @iE.eq_8 @iE.eq_9) (And.intro @iE.eq_10 @iE.eq_11))) (And.intro (And.intro @iE.eq_12 (And.intro @cC.eq_1 @cC.eq_2)) (And.intro (And.intro @cC.eq_3 @cC.eq_4) (And.intro @cC.eq_5 @cC.eq_6)))))) (And.intro (And.intro (And.intro (And.intro (And.intro @cC.eq_7 (And.intro @cC.eq_8 @g_.eq_1)) (And.intro @g_.eq_2 (And.intro @d_.eq_1 @d_.eq_2))) (And.intro (And.intro @rowsOf.eq_1 (And.intro @cG.eq_1 @cG.eq_2)) (And.intro (And.intro @cG.eq_3 @cG.eq_4) (And.intro @cG.eq_5 @pr.eq_1)))) (And.intro (And.intro (And.intro @eT.eq_1 (And.intro @eT.eq_2 @isNil.eq_1)) (And.intro (And.intro @isNil.eq_2 @jj.eq_1) (And.intro @jj.eq_2 @jj.eq_3))) (And.intro (And.intro @jj.eq_4 (And.intro @jj.eq_5 @jj.eq_6)) (And.intro (And.intro @jj.eq_7 @eI.eq_1) (And.intro @eI.eq_2 @eI.eq_3))))) (And.intro (And.intro (And.intro (And.intro @eI.eq_4 (And.intro @eI.eq_5 @fQ.eq_1)) (And.intro @fQ.eq_2 (And.intro @fQ.eq_3 @fQ.eq_4))) (And.intro (And.intro @cellAt.eq_1 (And.intro @cellAt.eq_2 @yY)) (And.intro (And.intro @Da @vM) (And.intro @Db @C_)))) (And.intro (And.intro (And.intro @vP (And.intro @HI @yZ)) (And.intro (And.intro @vN @vO) (And.intro @y7 @List.any_cons.{0}))) (And.intro (And.intro @List.any_nil.{0} (And.intro @List.map_cons.{0,0} @List.map_nil.{0,0})) (And.intro (And.intro @Bool.or_false @Bool.false_or) (And.intro @Bool.or_true @Bool.true_or)))))))):=And.intro (And.intro (And.intro (And.intro (And.intro (And.intro (And.intro @bG.map.eq_1 (And.intro @bG.map.eq_2 @bG.map.eq_3)) (And.intro @bG.map.eq_4 (And.intro @bG.map.eq_5 @bG.map.eq_6))) (And.intro (And.intro @bG.map.eq_7 (And.intro @bG.map.eq_8 @bG.map.eq_9)) (And.intro (And.intro @bG.map.eq_10 @bG.map.eq_11) (And.intro @bG.map.eq_12 @bG.map.eq_13)))) (And.intro (And.intro (And.intro @bG.map.eq_14 (And.intro @bG.map.eq_15 @bG.map.eq_16)) (And.intro @bG.map.eq_17 (And.intro @bG.map.eq_18 @bG.map.eq_19))) (And.intro (And.intro @bG.map.eq_20 (And.intro @bG.map.eq_21 @bG.map.eq_22)) (And.intro (And.intro @bG.map.eq_23 @bG.map.eq_24) (And.intro @bG.map.eq_25 @bG.map.eq_26))))) (And.intro (And.intro (And.intro (And.intro @bG.map.eq_27 (And.intro @bG.map.eq_28 @bG.map.eq_29)) (And.intro @bG.map.eq_30 (And.intro @bG.map.eq_31 @bG.map.eq_32))) (And.intro (And.intro @bG.map.eq_33 (And.intro @bG.map.eq_34 @bG.map.eq_35)) (And.intro (And.intro @bG.map.eq_36 @bG.map.eq_37) (And.intro @bG.map.eq_38 @bG.map.eq_39)))) (And.intro (And.intro (And.intro @bG.map.eq_40 (And.intro @bG.map.eq_41 @bG.map.eq_42)) (And.intro (And.intro @bG.map.eq_43 @bG.map.eq_44) (And.intro @bG.map.eq_45 @bG.map.eq_46))) (And.intro (And.intro @bG.map.eq_47 (And.intro @bG.map.eq_48 @bG.map.eq_49)) (And.intro (And.intro @bG.map.eq_50 @Fr.ev.eq_1) (And.intro @Fr.ev.eq_2 @Fr.ev.eq_3)))))) (And.intro (And.intro (And.intro (And.intro (And.intro @fT.eq_1 (And.intro @Av.eq_1 @Av.eq_2)) (And.intro @jJ.eq_1 (And.intro @jJ.eq_2 @jJ.eq_3))) (And.intro (And.intro @jJ.eq_4 (And.intro @jJ.eq_5 @jJ.eq_6)) (And.intro (And.intro @dP.eq_1 @dP.eq_2) (And.intro @dP.eq_3 @dP.eq_4)))) (And.intro (And.intro (And.intro @dP.eq_5 (And.intro @dP.eq_6 @dP.eq_7)) (And.intro (And.intro @dP.eq_8 @dP.eq_9) (And.intro @dP.eq_10 @dP.eq_11))) (And.intro (And.intro @dP.eq_12 (And.intro @dP.eq_13 @dP.eq_14)) (And.intro (And.intro @dP.eq_15 @dP.eq_16) (And.intro @xQ.eq_1 @xQ.eq_2))))) (And.intro (And.intro (And.intro (And.intro @xQ.eq_3 (And.intro @gX.eq_1 @gX.eq_2)) (And.intro @gX.eq_3 (And.intro @gX.eq_4 @gX.eq_5))) (And.intro (And.intro @gX.eq_6 (And.intro @gX.eq_7 @gX.eq_8)) (And.intro (And.intro @lX.eq_1 @lX.eq_2) (And.intro @lX.eq_3 @lX.eq_4)))) (And.intro (And.intro (And.intro @lX.eq_5 (And.intro @lX.eq_6 @lX.eq_7)) (And.intro (And.intro @lX.eq_8 @Fr.mark.eq_1) (And.intro @Fr.mark.eq_2 @dV.eq_1))) (And.intro (And.intro @dV.eq_2 (And.intro @dV.eq_3 @w8.eq_1)) (And.intro (And.intro @w8.eq_2 @mP.eq_1) (And.intro @mP.eq_2 @mP.eq_3))))))) (And.intro (And.intro (And.intro (And.intro (And.intro (And.intro @mP.eq_4 (And.intro @mP.eq_5 @mP.eq_6)) (And.intro @mP.eq_7 (And.intro @gK.eq_1 @gK.eq_2))) (And.intro (And.intro @eA.eq_1 (And.intro @eA.eq_2 @eA.eq_3)) (And.intro (And.intro @eA.eq_4 @gn.eq_1) (And.intro @gn.eq_2 @fj.eq_1)))) (And.intro (And.intro (And.intro @fj.eq_2 (And.intro @fj.eq_3 @cellsD.eq_1)) (And.intro @cellsD.eq_2 (And.intro @bY.eq_1 @bY.eq_2))) (And.intro (And.intro @bY.eq_3 (And.intro @bY.eq_4 @setAt.eq_1)) (And.intro (And.intro @setAt.eq_2 @fZ.eq_1) (And.intro @fZ.eq_2 @fZ.eq_3))))) (And.intro (And.intro (And.intro (And.intro @fZ.eq_4 (And.intro @fZ.eq_5 @fZ.eq_6)) (And.intro @dZ.eq_1 (And.intro @dZ.eq_2 @dZ.eq_3))) (And.intro (And.intro @dZ.eq_4 (And.intro @dZ.eq_5 @dZ.eq_6)) (And.intro (And.intro @iE.eq_1 @iE.eq_2) (And.intro @iE.eq_3 @iE.eq_4)))) (And.intro (And.intro (And.intro @iE.eq_5 (And.intro @iE.eq_6 @iE.eq_7)) (And.intro (And.intro @iE.eq_8 @iE.eq_9) (And.intro @iE.eq_10 @iE.eq_11))) (And.intro (And.intro @iE.eq_12 (And.intro @cC.eq_1 @cC.eq_2)) (And.intro (And.intro @cC.eq_3 @cC.eq_4) (And.intro @cC.eq_5 @cC.eq_6)))))) (And.intro (And.intro (And.intro (And.intro (And.intro @cC.eq_7 (And.intro @cC.eq_8 @g_.eq_1)) (And.intro @g_.eq_2 (And.intro @d_.eq_1 @d_.eq_2))) (And.intro (And.intro @rowsOf.eq_1 (And.intro @cG.eq_1 @cG.eq_2)) (And.intro (And.intro @cG.eq_3 @cG.eq_4) (And.intro @cG.eq_5 @pr.eq_1)))) (And.intro (And.intro (And.intro @eT.eq_1 (And.intro @eT.eq_2 @isNil.eq_1)) (And.intro (And.intro @isNil.eq_2 @jj.eq_1) (And.intro @jj.eq_2 @jj.eq_3))) (And.intro (And.intro @jj.eq_4 (And.intro @jj.eq_5 @jj.eq_6)) (And.intro (And.intro @jj.eq_7 @eI.eq_1) (And.intro @eI.eq_2 @eI.eq_3))))) (And.intro (And.intro (And.intro (And.intro @eI.eq_4 (And.intro @eI.eq_5 @fQ.eq_1)) (And.intro @fQ.eq_2 (And.intro @fQ.eq_3 @fQ.eq_4))) (And.intro (And.intro @cellAt.eq_1 (And.intro @cellAt.eq_2 @yY)) (And.intro (And.intro @Da @vM) (And.intro @Db @C_)))) (And.intro (And.intro (And.intro @vP (And.intro @HI @yZ)) (And.intro (And.intro @vN @vO) (And.intro @y7 @List.any_cons.{0}))) (And.intro (And.intro @List.any_nil.{0} (And.intro @List.map_cons.{0,0} @List.map_nil.{0,0})) (And.intro (And.intro @Bool.or_false @Bool.false_or) (And.intro @Bool.or_true @Bool.true_or)))))))
def oM (a b:Nat):dY:=⟨.cg (.t a),(some b),none,true⟩
def oL (a b:Nat):dY:=⟨.load none (.t a),(some b),none,false⟩
def oJ (n a b:Nat):dY:=⟨.load (some n) (.t a),(some b),none,false⟩
def oF (n a b:Nat):dY:=⟨.fieldAddr n (.t a),(some b),none,true⟩
def oS (n a b:Nat):dY:=⟨.store n (.t a) (.t b),none,none,false⟩
def oN (a b:Nat):dY:=⟨.nilCheck (.t a),(some b),none,true⟩
def oX (a n b:Nat):dY:=⟨.extract (.t a) n,(some b),none,true⟩
def oZ (a b:Nat):dY:=⟨.len .sl (.t a),(some b),none,false⟩
def oW (a b:Nat):dY:=⟨.len .str (.t a),(some b),none,false⟩
def oI (n a b c:Nat):dY:=⟨.aY n (.t a) (.t b),(some c),none,false⟩
def oA (a:Nat):dY:=⟨.alloc [(.int .i64 0),(.int .i64 0),(.str []),(.int .i64 0),.a_],(some a),none,false⟩
def zN:List D:=[(.int .i64 0),(.int .i64 0),(.str []),(.int .i64 0),.a_]
def oP (i:bG fS) (a:Nat):dY:=⟨i,some a,none,true⟩
def oQ (i:bG fS) (a:Nat):dY:=⟨i,some a,none,false⟩
def oG (i:bG fS) (a b:Nat) (c d:Bool):dY:=⟨i,some a,some (b,c),d⟩
def oU (i:bG fS):dY:=⟨i,none,none,false⟩
def oE (f:BinOp) (a b c:Nat):dY:=⟨.bin f (.t a) (.t b),some c,none,true⟩
def oH (f:BinOp) (a:Nat) (n:Int) (c:Nat):dY:=⟨.bin f (.t a) (.c (.int .i64 n)),some c,none,true⟩
def oC (f:Nat) (l:List fS) (a:Nat):dY:=⟨.call (.f f) l,some a,none,false⟩
def oD (f:Nat) (l:List fS) (a:Nat):dY:=⟨.qcall (.f f) l,some a,none,false⟩
def kI (n:Int):fS:=.c (.int .i64 n)
def kS (s:List UInt8):fS:=.c (.str s)
def kB (b:Bool):fS:=.c (.bool b)
def sO (l:List dY) (s:dA):dA:=.seq (.ops l) s
theorem ix:type_of% (And.intro (And.intro (And.intro (And.intro @oM.eq_1 (And.intro @oL.eq_1 @oJ.eq_1)) (And.intro @oF.eq_1 (And.intro @oS.eq_1 @oN.eq_1))) (And.intro (And.intro @oX.eq_1 (And.intro @oZ.eq_1 @oW.eq_1)) (And.intro @oI.eq_1 (And.intro @oA.eq_1 @zN.eq_1)))) (And.intro (And.intro (And.intro @oP.eq_1 (And.intro @oQ.eq_1 @oG.eq_1)) (And.intro @oU.eq_1 (And.intro @oE.eq_1 @oH.eq_1))) (And.intro (And.intro @oC.eq_1 (And.intro @oD.eq_1 @kI.eq_1)) (And.intro @kS.eq_1 (And.intro @kB.eq_1 @sO.eq_1))))):=And.intro (And.intro (And.intro (And.intro @oM.eq_1 (And.intro @oL.eq_1 @oJ.eq_1)) (And.intro @oF.eq_1 (And.intro @oS.eq_1 @oN.eq_1))) (And.intro (And.intro @oX.eq_1 (And.intro @oZ.eq_1 @oW.eq_1)) (And.intro @oI.eq_1 (And.intro @oA.eq_1 @zN.eq_1)))) (And.intro (And.intro (And.intro @oP.eq_1 (And.intro @oQ.eq_1 @oG.eq_1)) (And.intro @oU.eq_1 (And.intro @oE.eq_1 @oH.eq_1))) (And.intro (And.intro @oC.eq_1 (And.intro @oD.eq_1 @kI.eq_1)) (And.intro @kS.eq_1 (And.intro @kB.eq_1 @sO.eq_1))))
theorem aB:type_of% (And.intro @ix (And.intro (And.intro (And.intro (And.intro (And.intro @zz @iB) (And.intro @iz @iy)) (And.intro (And.intro @iA (And.intro @CV (And.intro (And.intro @C0 @xT) (And.intro @v_ @Cs)))) (And.intro @Int.natCast_nonneg @Nat.le_refl))) (And.intro (And.intro (And.intro @Int.le_refl @List.take_succ_cons.{0}) (And.intro @List.take_zero.{0} @decide_true)) (And.intro (And.intro @decide_false @Bool.and_false) (And.intro @Bool.false_and (And.intro @cond_true.{0} @cond_false.{0}))))) (And.intro (And.intro @yI @BQ) (And.intro (And.intro @BR @xU) (And.intro @CZ @Ea))))):=And.intro @ix (And.intro (And.intro (And.intro (And.intro (And.intro @zz @iB) (And.intro @iz @iy)) (And.intro (And.intro @iA (And.intro @CV (And.intro (And.intro @C0 @xT) (And.intro @v_ @Cs)))) (And.intro @Int.natCast_nonneg @Nat.le_refl))) (And.intro (And.intro (And.intro @Int.le_refl @List.take_succ_cons.{0}) (And.intro @List.take_zero.{0} @decide_true)) (And.intro (And.intro @decide_false @Bool.and_false) (And.intro @Bool.false_and (And.intro @cond_true.{0} @cond_false.{0}))))) (And.intro (And.intro @yI @BQ) (And.intro (And.intro @BR @xU) (And.intro @CZ @Ea))))
end Go.Proofs.YtpklkpkfgmoghaaGreatDoor.Zz
namespace Go.Proofs.YtpklkpkfgmoghaaGreatDoor.Zz
def zs0:List Int:=[1,10,100,1000,10000,100000,1000000,10000000,100000000,1000000000,10000000000,100000000000,1000000000000,10000000000000,100000000000000,1000000000000000,10000000000000000,100000000000000000,1000000000000000000,10000000000000000000]
def gl0:List D:=zs0.map fun z=>.int .u64 z
instance adE:aL:=⟨fun g=>if g=0 then some gl0 else none,fun g=>if g=2 then some .i64 else none⟩
theorem CH {g:Nat} {ds:List D} (e:aL.of g=some ds):(g=0∧ds=gl0):=by
 simp only [aL.of] at e
 split at e
 ·rename_i h; cases e; exact ⟨h,rfl⟩
 ·cases e
theorem F5 {g:Nat} {k:IntKind} (e:aL.ints g=some k):(g=2∧k=.i64):=by
 simp only [aL.ints] at e
 split at e
 ·rename_i h; cases e; exact ⟨h,rfl⟩
 ·cases e
end Go.Proofs.YtpklkpkfgmoghaaGreatDoor.Zz

namespace Go.Proofs.YtpklkpkfgmoghaaGreatDoor.Zz
def p62:b7:=⟨⟨[],[],[],[],[],[]⟩,[],[],false⟩
def s62:dA:=
 sO [oP (.cg (kB false)) 2]
 (sO [oM 0 3,
 oP (.bin .geq (.t 3) (.c (.int .u8 97))) 4,
 oM 4 5,
 oG (.cg (.t 0)) 6 5 true true,
 oG (.bin .leq (.t 6) (.c (.int .u8 122))) 7 5 true true,
 oP (.pick (.t 5) (.t 7) (kB false)) 8,
 oM 8 9,
 oG (.cg (.t 0)) 10 9 false true,
 oG (.bin .geq (.t 10) (.c (.int .u8 65))) 11 9 false true,
 oG (.cg (.t 11)) 12 9 false true,
 oG (.cg (.t 0)) 13 12 true true,
 oG (.bin .leq (.t 13) (.c (.int .u8 90))) 14 12 true true,
 oG (.pick (.t 12) (.t 14) (kB false)) 15 9 false true,
 oP (.pick (.t 9) (kB true) (.t 15)) 16,
 oM 16 17,
 oG (.cg (.t 0)) 18 17 false true,
 oG (.bin .eql (.t 18) (.c (.int .u8 95))) 19 17 false true,
 oP (.pick (.t 17) (kB true) (.t 19)) 20,
 oM 20 2]
 (.ret))
theorem ac_:bE Tryz.prog 53 p62=some (s62,[.tmp 2],21):=by kernel_rfl
def p63:b7:=⟨⟨[],[],[],[],[],[]⟩,[],[],false⟩
def s63:dA:=
 sO [oP (.cg (kB false)) 2]
 (sO [oM 0 3,
 oP (.bin .geq (.t 3) (.c (.int .u8 48))) 4,
 oM 4 5,
 oG (.cg (.t 0)) 6 5 true true,
 oG (.bin .leq (.t 6) (.c (.int .u8 57))) 7 5 true true,
 oP (.pick (.t 5) (.t 7) (kB false)) 8,
 oM 8 2]
 (.ret))
theorem ada:bE Tryz.prog 51 p63=some (s63,[.tmp 2],9):=by kernel_rfl
def p76:b7:=⟨⟨[],[],[],[],[],[]⟩,[],[],false⟩
def s76:dA:=
 sO [oP (.cg (kB false)) 2]
 (sO [oM 0 3,
 oP (.bin .neq (.t 3) (.c (.int .u8 10))) 4,
 oM 4 2]
 (.ret))
theorem adi:bE Tryz.prog 50 p76=some (s76,[.tmp 2],5):=by kernel_rfl
def p78:b7:=⟨⟨[],[],[],[],[],[]⟩,[],[],false⟩
def s78:dA:=
 sO [oP (.cg (kB false)) 2]
 (sO [oM 0 3,
 oD 53 [.t 3] 4,
 oM 4 5,
 oG (.cg (.t 0)) 6 5 false true,
 oG (.qcall (.f 51) [(.t 6)]) 7 5 false false,
 oP (.pick (.t 5) (kB true) (.t 7)) 8,
 oM 8 2]
 (.ret))
theorem adk:bE Tryz.prog 54 p78=some (s78,[.tmp 2],9):=by kernel_rfl
def p75:b7:=⟨⟨[],[],[],[],[],[]⟩,[],[],false⟩
def s75:dA:=
 sO [oP (.cg (kI 0)) 6]
 (sO [oP (.cg (kI 0)) 7]
 (.seq (.block 0 (.loop (.seq (sO [oM 1 8,
 oM 7 9,
 oE .add 8 9 10,
 oM 0 11,
 oW 11 12,
 oE .lss 10 12 13,
 oM 13 14,
 oG (.cg (.t 2)) 15 14 true true,
 oG (.cg (.t 0)) 16 14 true true,
 oG (.cg (.t 1)) 17 14 true true,
 oG (.cg (.t 7)) 18 14 true true,
 oG (.bin .add (.t 17) (.t 18)) 19 14 true true,
 oG (.hU (.t 16) (.t 19)) 20 14 true true,
 oG (.qcall (.t 15) [(.t 20)]) 21 14 true false,
 oP (.pick (.t 14) (.t 21) (kB false)) 22]
 (.cond (.t 22)
 (.skip)
 (.exit 0)))
 (.block 1 (.ops [oM 7 23,
 oH .add 23 1 24,
 oM 24 7])))))
 (sO [oM 7 25,
 oM 25 6]
 (.ret))))
theorem adh:bE Tryz.prog 49 p75=some (s75,[.tmp 6],26):=by kernel_rfl
def p84:b7:=⟨⟨[],[],[],[],[],[]⟩,[],[],false⟩
def s84:dA:=
 sO [oP (.cg (kB false)) 4]
 (sO [oM 0 5,
 oW 5 6,
 oM 1 7,
 oW 7 8,
 oE .geq 6 8 9,
 oM 9 10,
 oG (.cg (.t 0)) 11 10 true true,
 oG (.cg (.t 1)) 12 10 true true,
 oG (.len .str (.t 12)) 13 10 true false,
 oG (.slice .str (.t 11) none (some (.t 13)) none) 14 10 true false,
 oG (.cg (.t 1)) 15 10 true true,
 oG (.bin .eql (.t 14) (.t 15)) 16 10 true true,
 oP (.pick (.t 10) (.t 16) (kB false)) 17,
 oM 17 4]
 (.ret))
theorem ado:bE Tryz.prog 77 p84=some (s84,[.tmp 4],18):=by kernel_rfl
def p74:b7:=⟨⟨[],[],[],[],[],[]⟩,[],[],false⟩
def s74:dA:=
 sO [oP (.cg (kB false)) 4]
 (sO [oM 0 5,
 oM 1 6,
 oD 77 [.t 5,.t 6] 7,
 oM 7 4]
 (.ret))
theorem adg:bE Tryz.prog 48 p74=some (s74,[.tmp 4],8):=by kernel_rfl
def isDigit (n:Int):Bool:=decide (48≤n) && decide (n≤57)
def eh (n:Int):Bool:=(decide (97≤n) && decide (n≤122)) || (decide (65≤n) && decide (n≤90)) || n==95
theorem Q9 (n:Int):aM Tryz.prog 51 [.int .u8 n] (.bool (isDigit n)):=by
 refine aM.run (bf.ew _) ada (by simp) fun E=>?_
 simp only [s63,zz,iB,iz,iy,iA,ix,cond_true,cond_false,seval]
 simp only [isDigit,or_self]
 (repeat' split)<;>simp_all<;>omega
theorem NQ (n:Int):aM Tryz.prog 53 [.int .u8 n] (.bool (eh n)):=by
 refine aM.run (bf.ew _) ac_ (by simp) fun E=>?_
 simp only [s62,zz,iB,iz,iy,iA,ix,cond_true,cond_false,seval]
 simp only [eh,or_self]
 (repeat' split)<;>simp_all<;>omega
def Sg:List D→Option D
 | [.int .u8 n]=>if True then some (.bool (isDigit n)) else none
 | _=>none
theorem V4 (args:List D) (d:D) (h:Sg args=some d):aM Tryz.prog 51 args d:=by
 unfold Sg at h
 split at h
 ·split at h
  ·cases h; exact Q9 _
  ·cases h
 ·cases h
def V2:List D→Option D
 | [.int .u8 n]=>if True then some (.bool (eh n)) else none
 | _=>none
theorem V3 (args:List D) (d:D) (h:V2 args=some d):aM Tryz.prog 53 args d:=by
 unfold V2 at h
 split at h
 ·split at h
  ·cases h; exact NQ _
  ·cases h
 ·cases h
theorem RI (n:Int):aM Tryz.prog 50 [.int .u8 n] (.bool (n != 10)):=by
 refine aM.run (bf.ew _) adi (by simp) fun E=>?_
 simp only [s76,zz,iB,iz,iy,iA,ix,cond_true,cond_false,seval]
def Y_:List D→Option D
 | [.int .u8 n]=>if True then some (.bool (n != 10)) else none
 | _=>none
theorem Wc (args:List D) (d:D) (h:Y_ args=some d):aM Tryz.prog 50 args d:=by
 unfold Y_ at h
 split at h
 ·split at h
  ·cases h; exact RI _
  ·cases h
 ·cases h
def EE:bf:=bf.zero.cX 51 Sg
theorem GM (g:FuncId) (args:List D):EE.q g args=if g=51 then Sg args else bf.zero.q g args:=rfl
theorem Pe:EE.a=bf.zero.a:=rfl
theorem Pf:EE.c=bf.zero.c:=rfl
theorem SE:EE.ok Tryz.prog:=bf.bm (bf.ew _) V4
theorem Pg:type_of% (And.intro @GM (And.intro @Pe @Pf)):=(And.intro @GM (And.intro @Pe @Pf))
def ED:bf:=EE.cX 53 V2
theorem GL (g:FuncId) (args:List D):ED.q g args=if g=53 then V2 args else EE.q g args:=rfl
theorem Pc:ED.a=EE.a:=rfl
theorem Pd:ED.c=EE.c:=rfl
theorem JG:ED.ok Tryz.prog:=bf.bm SE V3
theorem GK:type_of% (And.intro (And.intro @GL (And.intro @Pc @Pd)) @Pg):=(And.intro (And.intro @GL (And.intro @Pc @Pd)) @Pg)
theorem Gf (n:Int):aM Tryz.prog 54 [.int .u8 n] (.bool (eh n || isDigit n)):=by
 refine aM.run JG adk (by simp) fun E=>?_
 simp only [s78,V2,Sg,GK,zz,iB,iz,iy,iA,ix,cond_true,cond_false,seval]
 split<;>simp_all
def Zb:List D→Option D
 | [.int .u8 n]=>if True then some (.bool (eh n || isDigit n)) else none
 | _=>none
theorem Wf (args:List D) (d:D) (h:Zb args=some d):aM Tryz.prog 54 args d:=by
 unfold Zb at h
 split at h
 ·split at h
  ·cases h; exact Gf _
  ·cases h
 ·cases h
def EL:bf:=ED.cX 50 Y_
theorem GP (g:FuncId) (args:List D):EL.q g args=if g=50 then Y_ args else ED.q g args:=rfl
theorem Pw:EL.a=ED.a:=rfl
theorem Px:EL.c=ED.c:=rfl
theorem SG:EL.ok Tryz.prog:=bf.bm JG Wc
theorem Py:type_of% (And.intro (And.intro @GP (And.intro @Pw @Px)) @GK):=(And.intro (And.intro @GP (And.intro @Pw @Px)) @GK)
def xR:bf:=EL.cX 54 Zb
theorem GR (g:FuncId) (args:List D):xR.q g args=if g=54 then Zb args else EL.q g args:=rfl
theorem PC:xR.a=EL.a:=rfl
theorem PD:xR.c=EL.c:=rfl
theorem Bz:xR.ok Tryz.prog:=bf.bm SG Wf
theorem PE:type_of% (And.intro (And.intro @GR (And.intro @PC @PD)) @Py):=(And.intro (And.intro @GR (And.intro @PC @PD)) @Py)
def je (p:Int→Bool) (l:List UInt8):Nat:=(l.takeWhile fun c=>p (c.toNat:Int)).length
theorem lA (p:Int→Bool) (l:List UInt8):je p l≤l.length:=by
 have:=(List.takeWhile_sublist (l:=l) fun c=>p (c.toNat:Int)).length_le
 exact this
theorem ko (p:Int→Bool) (c:UInt8) (l:List UInt8):je p (c::l)=if p (c.toNat:Int)=true then je p l+1 else 0:=by
 simp only [je,List.takeWhile_cons]
 split<;>simp
theorem drop_cons {s:List UInt8} {i:Nat} (h:i<s.length):s.drop i=s.getD i 0::s.drop (i+1):=by
 rw [List.drop_eq_getElem_cons h]
 simp [h]
theorem Zh {k:FuncId} {p:Int→Bool} (hq:∀n,xR.q k [.int .u8 n]=some (.bool (p n))) (s:List UInt8) (a:Nat) (h1:a≤1000000) (h2:s.length≤1000000):
  aM Tryz.prog 49 [.str s,.int .i64 a,.func (.func k) [] []] (.int .i64 (je p (s.drop a))):=by
 refine aM.run Bz adh (by simp) fun E=>?_
 simp only [s75,zz,iB,iz,iy,iA,ix,cond_true,cond_false,seval]
 refine cS (X:=Nat) (fun n=>[(0,.str s),(1,.int .i64 a),(2,.func (.func k) [] []),(7,.int .i64 n)]) (fun _=>aa.emp) (fun n=>s.length - n)
  (fun n=>(n=0∨a+n≤s.length)∧n+je p (s.drop (a+n))=je p (s.drop a)) 0 (by simp) ?_ (aa.aS _) ?_
 ·simp only [zz,iB,iz,iy,iA,ix,cond_true,cond_false,seval]
 ·rintro n Q ⟨i1,i2⟩ hQ
  have w1:IntKind.i64.wrap ((a:Int)+(n:Int))=((a+n:Nat):Int):=wrap_add (by omega)
  have wi:IntKind.i64.wrap ((n:Int)+1)=((n+1:Nat):Int):=cW (by omega)
  by_cases c1:a+n<s.length
  ·have g1:(((a+n:Nat):Int)<(s.length:Int))=True:=by simp; omega
   rw [drop_cons c1,ko] at i2
   simp only [g1,w1,wi,hq,decide_true,zz,iB,iz,iy,iA,ix,cond_true,cond_false,seval]
   intro _
   refine ⟨by omega,?_⟩
   split
   ·rename_i hp
    rw [if_pos hp] at i2
    refine hQ (n+1) _ _ ⟨by omega,by rw [←Nat.add_assoc]; omega⟩ ?_ (aa.aS _) (by omega)
    simp only [zz,iB,iz,iy,iA,ix,cond_true,cond_false,seval]
   ·rename_i hp
    rw [if_neg hp] at i2
    exact .inl (by omega)
  ·have g1:(((a+n:Nat):Int)<(s.length:Int))=False:=by simp; omega
   have e:s.drop (a+n)=[]:=List.drop_of_length_le (by omega)
   rw [e] at i2
   simp only [g1,w1,wi,hq,decide_false,zz,iB,iz,iy,iA,ix,cond_true,cond_false,seval]
   intro _
   simp only [je,List.takeWhile_nil,List.length_nil] at i2
   exact .inl (by simp only [je]; omega)
def pre (s t:List UInt8):Bool:=s.take t.length==t
theorem Nl (s t:List UInt8):aM Tryz.prog 77 [.str s,.str t] (.bool (pre s t)):=by
 refine aM.run Bz ado (by simp) fun E=>?_
 simp only [s84,zz,iB,iz,iy,iA,ix,cond_true,cond_false,seval]
 intro _ _
 split
 ·exact fun _=>⟨⟨by omega,by omega⟩,.inl rfl⟩
 ·refine .inl ?_
  rename_i h
  have:s.take t.length=s:=List.take_of_length_le (by omega)
  simp only [pre,this]
  symm
  apply beq_eq_false_iff_ne.2
  intro e
  rw [e] at h
  omega
def Zd:List D→Option D
 | [.str s,.str t]=>if True then some (.bool (pre s t)) else none
 | _=>none
theorem Wj (args:List D) (d:D) (h:Zd args=some d):aM Tryz.prog 77 args d:=by
 unfold Zd at h
 split at h
 ·split at h
  ·cases h; exact Nl _ _
  ·cases h
 ·cases h
def EP:bf:=xR.cX 77 Zd
theorem PO (g:FuncId) (args:List D):EP.q g args=if g=77 then Zd args else xR.q g args:=rfl
theorem PM:EP.a=xR.a:=rfl
theorem PN:EP.c=xR.c:=rfl
theorem J0:EP.ok Tryz.prog:=bf.bm Bz Wj
theorem GV:type_of% (And.intro (And.intro @PO (And.intro @PM @PN)) @PE):=(And.intro (And.intro @PO (And.intro @PM @PN)) @PE)
theorem CN (s t:List UInt8):aM Tryz.prog 48 [.str s,.str t] (.bool (pre s t)):=by
 refine aM.run J0 adg (by simp) fun E=>?_
 simp only [s74,Zd,GV,zz,iB,iz,iy,iA,ix,cond_true,cond_false,seval]
def V_:List D→Option D
 | [.str s,.str t]=>if True then some (.bool (pre s t)) else none
 | _=>none
theorem Wa (args:List D) (d:D) (h:V_ args=some d):aM Tryz.prog 48 args d:=by
 unfold V_ at h
 split at h
 ·split at h
  ·cases h; exact CN _ _
  ·cases h
 ·cases h
def EJ:bf:=EP.cX 48 V_
theorem Pr (g:FuncId) (args:List D):EJ.q g args=if g=48 then V_ args else EP.q g args:=rfl
theorem Po:EJ.a=EP.a:=rfl
theorem Pp:EJ.c=EP.c:=rfl
theorem SF:EJ.ok Tryz.prog:=bf.bm J0 Wa
theorem Pq:type_of% (And.intro (And.intro @Pr (And.intro @Po @Pp)) @GV):=(And.intro (And.intro @Pr (And.intro @Po @Pp)) @GV)
def gm (n:Int):Bool:=eh n || isDigit n
def kN:FuncId→Option (Int→Bool)
 | 51=>some isDigit
 | 50=>some fun n=>n != 10
 | 54=>some gm
 | _=>none
def Sh:List D→Option D
 | [.str s,.int .i64 a,.func (.func k) [] []]=>match kN k with
  | some p=>if 0≤a∧a≤1000000∧s.length≤1000000 then some (.int .i64 (je p (s.drop a.toNat))) else none
  | none=>none
 | _=>none
theorem Lf {k:FuncId} {p:Int→Bool} (h:kN k=some p) (n:Int):xR.q k [.int .u8 n]=some (.bool (p n)):=by
 unfold kN at h
 split at h<;>cases h<;>simp [gm,Sg,Y_,Zb,GR,GP,GL,GM]
theorem Wb (args:List D) (d:D) (h:Sh args=some d):aM Tryz.prog 49 args d:=by
 unfold Sh at h
 split at h
 ·rename_i s a k
  split at h
  ·rename_i p hp
   split at h
   ·rename_i hc
    obtain ⟨n,rfl⟩:=Int.eq_ofNat_of_zero_le hc.1
    cases h
    exact Zh (Lf hp) s n (by omega) hc.2.2
   ·cases h
  ·cases h
 ·cases h
def EK:bf:=EJ.cX 49 Sh
theorem Pv (g:FuncId) (args:List D):EK.q g args=if g=49 then Sh args else EJ.q g args:=rfl
theorem Ps:EK.a=EJ.a:=rfl
theorem Pt:EK.c=EJ.c:=rfl
theorem JS:EK.ok Tryz.prog:=bf.bm SF Wb
theorem Pu:type_of% (And.intro (And.intro @Pv (And.intro @Ps @Pt)) @Pq):=(And.intro (And.intro @Pv (And.intro @Ps @Pt)) @Pq)
end Go.Proofs.YtpklkpkfgmoghaaGreatDoor.Zz
