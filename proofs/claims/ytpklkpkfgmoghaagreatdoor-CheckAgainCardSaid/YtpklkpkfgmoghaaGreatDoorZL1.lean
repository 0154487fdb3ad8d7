/- Running code by laws, more: where a choice is already made, the other way is not looked at. -/
import Derived.Test.YtpklkpkfgmoghaaGreatDoorZZC
import Derived.Laws.Externs
import Derived.KernelRfl
import Derived.Below
import Derived.Sort.Row
import Derived.Sort.Grow
import Derived.Deep.Draws
import Derived.Lib.LaidTab
import Derived.Lib.Join
import Derived.Test.YtpklkpkfgmoghaaGreatDoorProg
set_option linter.unnecessarySimpa false
set_option linter.unusedVariables false
set_option linter.unusedSimpArgs false
set_option maxRecDepth 20000
namespace Go.Proofs.YtpklkpkfgmoghaaGreatDoor.Zz
variable {T:bh} {K:Ex→Fr→aa→Prop} {E:Fr→D→aa→Prop} {σ:Fr} {h:aa}
theorem NO {b:Bool} {A B:Prop}:((b=true→A)∧(b=false→B))=if b=true then A else B:=by
 cases b<;>simp
theorem VD {b:Bool} {A B:Prop}:((b=false→A)∧(b=true→B))=if b=true then B else A:=by
 cases b<;>simp
theorem GW {c:iC} {a b:dU} {k:List Item} {t:Bool}:V4 T K E c a b k σ h (.bool t)=if t=true then vc T a (todo T K E k) E (σ.mark c true) h else vc T b (todo T K E k) E (σ.mark c false) h:=by
 rw [Mf,NO]
theorem HC {i:cf iC} {d:Option Nat} {os:List fw} {K:Fr→aa→Prop} {t:Nat} {p b:Bool}:guard T i d t true p os K E σ h (.bool b)=if b=true then gE T (⟨i,d,none,p⟩::os) K E (σ.put (some t) (.bool true)) h else gE T os K E ((σ.put (some t) (.bool false)).put d (.tuple [])) h:=by
 rw [Zq,NO]
theorem HB {i:cf iC} {d:Option Nat} {os:List fw} {K:Fr→aa→Prop} {t:Nat} {p b:Bool}:guard T i d t false p os K E σ h (.bool b)=if b=true then gE T os K E ((σ.put (some t) (.bool true)).put d (.tuple [])) h else gE T (⟨i,d,none,p⟩::os) K E (σ.put (some t) (.bool false)) h:=by
 rw [Zp,VD]
def eR (l:List (List UInt8)):List (List D):=l.map fun s=>[.str s]
def gV (l:List Int):List (List D):=l.map fun c=>[.int .i64 c]
theorem gN {l:List (List UInt8)}:(eR l).length=l.length:=by simp [eR]
theorem il {l:List Int}:(gV l).length=l.length:=by simp [gV]
theorem vh {K:D→aa→Prop} {l:List (List UInt8)} {i:Int}:fx 1 K h (eR l) i=((0≤i∧i<l.length)∧∀x,l[i.toNat]? =some x→K (.cO [.str x] 0) h):=n9 fun _=>rfl
theorem RN {K:D→aa→Prop} {l:List Int} {i:Int}:fx 1 K h (gV l) i=((0≤i∧i<l.length)∧∀x,l[i.toNat]? =some x→K (.cO [.int .i64 x] 0) h):=n9 fun _=>rfl
theorem oe {l:List (List UInt8)} {x:List UInt8}:eR l++[[.str x]]=eR (l++[x]):=by simp [eR]
theorem G9 {l:List Int} {x:Int}:gV l++[[.int .i64 x]]=gV (l++[x]):=by simp [gV]
def B5:List (List D)→Option (List (List UInt8))
 | []=>some []
 | [.str s]::l=>(B5 l).map (s::·)
 | _=>none
theorem zR (l:List (List UInt8)):B5 (eR l)=some l:=by
 induction l with
 | nil=>rfl
 | cons s l ih=>show (B5 (eR l)).map _=_; rw [ih]; rfl
theorem lX:∀{l:List (List D)} {x:List (List UInt8)},B5 l=some x→l=eR x
 | [],x,h=>by cases h; rfl
 | [.str s]::l,x,h=>by
  simp only [B5,Option.map_eq_some_iff] at h
  obtain ⟨y,h1,rfl⟩:=h
  rw [lX h1]; rfl
def Sh:List (List D)→Option (List Int)
 | []=>some []
 | [.int .i64 s]::l=>(Sh l).map (s::·)
 | _=>none
theorem UO (l:List Int):Sh (gV l)=some l:=by
 induction l with
 | nil=>rfl
 | cons s l ih=>show (Sh (gV l)).map _=_; rw [ih]; rfl
theorem CC:∀{l:List (List D)} {x:List Int},Sh l=some x→l=gV x
 | [],x,h=>by cases h; rfl
 | [.int .i64 s]::l,x,h=>by
  simp only [Sh,Option.map_eq_some_iff] at h
  obtain ⟨y,h1,rfl⟩:=h
  rw [CC h1]; rfl
def fF (r n:Nat):D:=if n=0 then .aZ else .row r (n+2) 0 n
def V1 (h:aa) (r sz:Nat) (xs:List (List D)):aa:=if xs=[] then h else h.set r (.row sz (xs.length+2) xs false)
theorem c_ {r:Nat}:fF r 0=.aZ:=rfl
theorem bq {r n:Nat} (h:n≠0):fF r n=.row r (n+2) 0 n:=by simp [fF,h]
theorem AM {h:aa} {r sz:Nat}:V1 h r sz []=h:=rfl
theorem AN {h:aa} {r sz:Nat} {xs:List (List D)} (e:xs≠[]):V1 h r sz xs=h.set r (.row sz (xs.length+2) xs false):=by simp [V1,e]
def Ae (P:Program) (f:FuncId) (n:String):Bool:=
 match P.funcs[f]? with
 | some fn=>fn.name==n && fn.origin== "" && fn.body.isNone
 | none=>false
theorem zg.VU {P:Program} {f:FuncId} {n:String} {e:Array Value→Sem Value} {args:List D} {d:D} (h:Ae P f n=true) (h1:Extern.allNextRows.lookup n=none) (h2:Extern.allGenericRows.lookup n=none) (h3:Extern.allTypedRows.lookup n=none)
  (h4:Extern.allRows.lookup n=some e) (hn:(n== "runtime.NumGoroutine")=false)
  (he:∀(κ:cT) (w:World) (vs:Array Value),cn κ w vs.toList args→∃v,(e vs).run P w=.ok v w∧cL κ w v d):zg P f args d:=fun κ w vs hr=>by
 unfold Ae at h
 split at h
 ·rename_i fn hf
  simp only [Bool.and_eq_true,beq_iff_eq] at h
  obtain ⟨⟨k1,k2⟩,k3⟩:=h
  have o1:Extern.allNextRows.lookup "" =none:=by kernel_rfl
  have f1:Extern.findNext fn=none:=by simp only [Extern.findNext,k1,k2,h1,o1]; rfl
  have f2:Extern.find fn=some e:=by simp only [Extern.find,k1,h2,h3,h4]; rfl
  obtain ⟨v,a,b⟩:=he κ w vs hr
  exact ⟨v,by rw [run_callFunc_extern hf (by rw [k1]; exact hn) k3 f1 f2,a]; rfl,b⟩
 ·cases h
theorem mY:Extern.allNextRows.lookup "math.Float64bits" =none∧Extern.allGenericRows.lookup "math.Float64bits" =none∧Extern.allTypedRows.lookup "math.Float64bits" =none∧Extern.allRows.lookup "math.Float64bits" =some Extern.MathFloatBits.float64bits:=
 ⟨by kernel_rfl,by kernel_rfl,by kernel_rfl,by kernel_rfl⟩
theorem mZ:Extern.allNextRows.lookup "math.Float64frombits" =none∧Extern.allGenericRows.lookup "math.Float64frombits" =none∧Extern.allTypedRows.lookup "math.Float64frombits" =none∧Extern.allRows.lookup "math.Float64frombits" =some Extern.MathFloatBits.float64frombits:=
 ⟨by kernel_rfl,by kernel_rfl,by kernel_rfl,by kernel_rfl⟩
def yf:List D→Option D
 | [.float .f64 b]=>some (.int .u64 b)
 | _=>none
def KI:List D→Option D
 | [.int .u64 n]=>some (.float .f64 n.toNat)
 | _=>none
theorem KH {P:Program} {f:FuncId} (h:Ae P f "math.Float64bits" =true) (args:List D) (d:D) (e:yf args=some d):zg P f args d:=by
 unfold yf at e
 split at e
 ·cases e
  refine .VU h mY.1 mY.2.1 mY.2.2.1 mY.2.2.2 (by decide) fun κ w vs hr=>?_
  obtain ⟨l⟩:=vs
  cases hr with
  | cons a t=>cases t; cases a; exact ⟨_,rfl,.int _ _⟩
 ·cases e
theorem Yz {P:Program} {f:FuncId} (h:Ae P f "math.Float64frombits" =true) (args:List D) (d:D) (e:KI args=some d):zg P f args d:=by
 unfold KI at e
 split at e
 ·cases e
  refine .VU h mZ.1 mZ.2.1 mZ.2.2.1 mZ.2.2.2 (by decide) fun κ w vs hr=>?_
  obtain ⟨l⟩:=vs
  cases hr with
  | cons a t=>cases t; cases a; exact ⟨_,rfl,.float _ _⟩
 ·cases e
def adT (o:Option Nat) (K:D→aa→Prop) (h:aa):Prop:=
 match o with
 | some r=>K (.float .f64 r) h
 | none=>∀r,FloatKind.f64.format.order r r=none→K (.float .f64 r) h
theorem HP {op:BinOp} {a b:Nat} {K E:D→aa→Prop}:eV T (.kA op (.float .f64 a) (.float .f64 b)) h K E=(f_ op=true∧adT (floatBits op .f64 a b) K h):=rfl
theorem CO {r:Nat} {K:D→aa→Prop}:adT (some r) K h=K (.float .f64 r) h:=rfl
theorem CN {K:D→aa→Prop}:adT none K h=∀r,FloatKind.f64.format.order r r=none→K (.float .f64 r) h:=rfl
theorem BH {k:IntKind} {b:Nat}:ew (.conv (.Ah k) (.float .f64 b))=(floatToIntVal .f64 b k).map (.int k):=rfl
theorem uW {b:Nat}:ew (.conv .tb (.float .f64 b))=some (.float .f64 b):=rfl
end Go.Proofs.YtpklkpkfgmoghaaGreatDoor.Zz
namespace Go.Proofs.YtpklkpkfgmoghaaGreatDoor.Zz
open Go.RowKit
theorem aV.mo [aT] {P:Program} {f:FuncId} {args:List D} {d:D} (hc:gK P f=true)
  (h:∀(κ:cT) (w:World) (vs:Array Value),iX κ w→cn κ w vs.toList args→(∀b,κ.jv b→b<w.heap.size)→
   Calls P f vs w fun e w'=>∃v,e=.returned v∧(∀(κ':cT) (EB:World),cL κ' EB v d)∧Below w.heap.size w w'):aV P f args d:=by
 refine ⟨hc,fun κ w vs hi hr=>(h κ w vs hi.mN hr hi.gM).mono fun e w' ⟨v,e1,r,b⟩=>?_⟩
 subst e1
 have le:Le κ w κ w':=⟨fun x hx=>⟨hx,b.block x (hi.gM x hx)⟩,(Le.refl κ w).loc⟩
 refine ⟨.ret d,.emp,κ,rfl,.ret (r _ _),⟨fun x hx=>Nat.lt_of_lt_of_le (hi.gM x hx) b.size,fun i p hp=>Nat.lt_of_lt_of_le (hi.jV i p hp) b.size,hi.fresh,fun i o ho=>(by cases ho),fun i j oi oj pi pj b ho=>(by cases ho),hi.mN.mono le⟩,?_⟩
 exact ⟨b.os,b.tape,b.output,b.size,fun x hx _=>b.block x hx,fun _ h=>h,fun _ _ h=>.inl h,le.loc,fun _ _ h _=>h,fun _ _ h=>h,fun _ _ _ h=>h⟩
theorem K7 (w:World) (k:Nat) (os:Array Obj):Below w.heap.size w (Go.Sort.grow (w.drewN k) os):=by
 refine ⟨rfl,rfl,rfl,?_,fun i hi=>?_⟩
 ·simp [Go.Sort.grow,World.drewN]
 ·show (w.heap++os)[i]? =_
  rw [Array.getElem?_append_left hi]
theorem GA (w:World) (k:Nat):Below w.heap.size w (w.drewN k):=⟨rfl,rfl,rfl,Nat.le_refl _,fun _ _=>rfl⟩
theorem afN [aT] {P:Program} {κ:cT} {w:World} {n:String} {g:Nat} {k:IntKind} {zs:List Int} (h:iX κ w) (hg:P.globalNamed n=some g) (e:aT.of g=some (zs.map fun z=>.int k z)):Lib.TabIs P w n k zs:=by
 obtain ⟨_,cs,t,h1,h2,h3⟩:=h.of g _ e
 unfold Lib.TabIs World.var?
 rw [hg,Option.bind_some,h1]
 show some cs=_
 congr 1
 apply Array.ext'
 apply List.ext_getElem?
 intro j
 by_cases hj:j<zs.length
 ·obtain ⟨v,h4,h5⟩:=h3 j (.int k zs[j]) (by simp [hj])
  cases h5
  simp [h4,hj]
 ·have:cs.size=zs.length:=by simpa using h2
  rw [List.getElem?_eq_none (by simp; omega),List.getElem?_eq_none (by simp; omega)]
theorem jK {κ:cT} {w:World} {v:Value} {s:List UInt8} (h:cL κ w v (.str s)):v=.string ⟨s.toArray⟩∧s.length≤9223372036854775807:=by
 cases h with
 | str _ h=>exact ⟨rfl,h⟩
theorem jJ {κ:cT} {w:World} {v:Value} {k:IntKind} {n:Int} (h:cL κ w v (.int k n)):v=.int k n:=by cases h; rfl
end Go.Proofs.YtpklkpkfgmoghaaGreatDoor.Zz
namespace Go.Proofs.YtpklkpkfgmoghaaGreatDoor.Zz
theorem zz:type_of% (And.intro (And.intro (And.intro (And.intro (And.intro (And.intro (And.intro (And.intro @Int.cast_ofNat_Int @Int.toNat_zero) (And.intro @forall_eq'.{1} @IU)) (And.intro (And.intro @IQ @Of) (And.intro @run_seq @DV))) (And.intro (And.intro (And.intro @IP @Ki) (And.intro @uV @s4)) (And.intro (And.intro @Kg @uT) (And.intro @s3 (And.intro @Ro @yd))))) (And.intro (And.intro (And.intro (And.intro @uU @Kh) (And.intro @EA @Yw)) (And.intro (And.intro @HX @zu) (And.intro @Gz (And.intro @EP @tS)))) (And.intro (And.intro (And.intro @Cl @Ck) (And.intro @Gy @aid)) (And.intro (And.intro @aic @aib) (And.intro @HD (And.intro @NG @abK)))))) (And.intro (And.intro (And.intro (And.intro (And.intro @ahV @Vz) (And.intro @HR @NH)) (And.intro (And.intro @NK @Dc) (And.intro @CP (And.intro @G8 @and_imp)))) (And.intro (And.intro (And.intro @Dg @Bz) (And.intro @HU @De)) (And.intro (And.intro @Df @wJ) (And.intro @wK (And.intro @Aw @wI))))) (And.intro (And.intro (And.intro (And.intro @wG @wE) (And.intro @Gx @wF)) (And.intro (And.intro @Db @C8) (And.intro @vL (And.intro @HQ @Da)))) (And.intro (And.intro (And.intro @C_ @wH) (And.intro @Vy @NI)) (And.intro (And.intro @yU @HM) (And.intro @D_ (And.intro @I5 @yE))))))) (And.intro (And.intro (And.intro (And.intro (And.intro (And.intro @yF @tO) (And.intro @CH @adi)) (And.intro (And.intro @Ys @Rw) (And.intro @akl (And.intro @Kz @Eu)))) (And.intro (And.intro (And.intro @Ey @Ew) (And.intro @ade @adf)) (And.intro (And.intro @akm @Kv) (And.intro @BI (And.intro @Yt @BJ))))) (And.intro (And.intro (And.intro (And.intro @Ry @Kq) (And.intro @Eo @Ep)) (And.intro (And.intro @Rx @Ks) (And.intro @Er (And.intro @Es @Kt)))) (And.intro (And.intro (And.intro @Ku @Kx) (And.intro @Kw @En)) (And.intro (And.intro @Et @Ky) (And.intro @adg (And.intro @adh @Yr)))))) (And.intro (And.intro (And.intro (And.intro (And.intro @Fr.qY @Fr.IC) (And.intro @Fr.IB @Bc)) (And.intro (And.intro @IL @IM) (And.intro @xc (And.intro @IK @xa)))) (And.intro (And.intro (And.intro @Cu @Cv) (And.intro @Cw @Cx)) (And.intro (And.intro @D8 @NW) (And.intro @U4 (And.intro @H9 @Dw))))) (And.intro (And.intro (And.intro (And.intro @NR @H0) (And.intro @List.replicate_succ.{0} @List.replicate_zero.{0})) (And.intro (And.intro @List.forall_mem_cons.{0} @List.not_mem_nil.{0}) (And.intro @Nat.zero_lt_succ (And.intro @Nat.lt_add_one @yO)))) (And.intro (And.intro (And.intro @yP @zW) (And.intro @zY @zX)) (And.intro (And.intro @qM @aa.set_set) (And.intro @Int.toNat_natCast (And.intro @wY @CX)))))))) (And.intro (And.intro (And.intro (And.intro (And.intro (And.intro (And.intro @AW @Hn) (And.intro @DM @Nq)) (And.intro (And.intro @wT @CS) (And.intro @DR (And.intro @Nw @uw)))) (And.intro (And.intro (And.intro @Ak @DO) (And.intro @Nu @AX)) (And.intro (And.intro @Ho @AZ) (And.intro @Hq (And.intro @Iy @U8))))) (And.intro (And.intro (And.intro (And.intro @DL @Np) (And.intro @wX @CW)) (And.intro (And.intro @AY @Hp) (And.intro @sU (And.intro @wz @wU)))) (And.intro (And.intro (And.intro @CT @wV) (And.intro @CU @DN)) (And.intro (And.intro @Nr @uv) (And.intro @Aj (And.intro @DK @Iu)))))) (And.intro (And.intro (And.intro (And.intro (And.intro @N3 @DF) (And.intro @N7 @AR)) (And.intro (And.intro @N5 @Iv) (And.intro @Ix (And.intro @V5 @N2)))) (And.intro (And.intro (And.intro @DJ @Iw) (And.intro @wR @DG)) (And.intro (And.intro @DH @N4) (And.intro @AQ (And.intro @wW @CV))))) (And.intro (And.intro (And.intro (And.intro @DQ @N8) (And.intro @Nv @Hm)) (And.intro (And.intro @Hl @CQ) (And.intro @AV (And.intro @DI @N6)))) (And.intro (And.intro (And.intro @Hu @Hw) (And.intro @Ap @CY)) (And.intro (And.intro @Hs @Al) (And.intro @Hx (And.intro @wB @Hv))))))) (And.intro (And.intro (And.intro (And.intro (And.intro (And.intro @CZ @C1) (And.intro @Ao @Nx)) (And.intro (And.intro @Hr @C0) (And.intro @ud (And.intro @Am @An)))) (And.intro (And.intro (And.intro @Ht @wA) (And.intro @aa.b9 @aa.UZ)) (And.intro (And.intro @Option.map_some.{0,0} @Option.map_none.{0,0}) (And.intro @Option.some.injEq.{0} (And.intro @exists_eq_left'.{1} @exists_eq_left.{1}))))) (And.intro (And.intro (And.intro (And.intro @true_and @and_true) (And.intro @List.map_cons.{0,0} @List.map_nil.{0,0})) (And.intro (And.intro @List.append_nil.{0} @List.nil_append.{0}) (And.intro @List.cons_append.{0} (And.intro @List.foldl_cons.{0,0} @List.foldl_nil.{0,0})))) (And.intro (And.intro (And.intro @List.all_cons.{0} @List.all_nil.{0}) (And.intro @Bool.and_true @Bool.and_self)) (And.intro (And.intro @Bool.true_and @List.length_cons.{0}) (And.intro @List.length_nil.{0} (And.intro @List.getElem?_cons_zero.{0} @List.getElem?_cons_succ.{0})))))) (And.intro (And.intro (And.intro (And.intro (And.intro @List.set_cons_zero.{0} @List.set_cons_succ.{0}) (And.intro (And.intro @forall_const.{0} @forall_const.{1}) @false_implies)) (And.intro (And.intro (And.intro @implies_true.{0} @implies_true.{1}) @true_implies) (And.intro @Bool.not_true (And.intro @Bool.not_false @decide_eq_true_eq)))) (And.intro (And.intro (And.intro @decide_eq_false_iff_not @Bool.true_eq_false) (And.intro @Bool.false_eq_true @cY.ret.injEq)) (And.intro (And.intro @Nat.zero_add @Nat.add_zero) (And.intro @beq_self_eq_true.{0} (And.intro @bne_self_eq_false.{0} @cond_true.{1}))))) (And.intro (And.intro (And.intro (And.intro @cond_false.{1} @List.drop_zero.{0}) (And.intro @Nat.sub_zero @D.int.injEq)) (And.intro (And.intro @D.str.injEq @D.bool.injEq) (And.intro @D.tuple.injEq (And.intro @D.agg.injEq @D.sl.injEq)))) (And.intro (And.intro (And.intro @List.cons.injEq.{0} @or_true) (And.intro @true_or @or_false)) (And.intro (And.intro @false_or @and_self) (And.intro @not_true_eq_false (And.intro @not_false_eq_true @ne_eq.{1}))))))))):=(And.intro (And.intro (And.intro (And.intro (And.intro (And.intro (And.intro (And.intro @Int.cast_ofNat_Int @Int.toNat_zero) (And.intro @forall_eq'.{1} @IU)) (And.intro (And.intro @IQ @Of) (And.intro @run_seq @DV))) (And.intro (And.intro (And.intro @IP @Ki) (And.intro @uV @s4)) (And.intro (And.intro @Kg @uT) (And.intro @s3 (And.intro @Ro @yd))))) (And.intro (And.intro (And.intro (And.intro @uU @Kh) (And.intro @EA @Yw)) (And.intro (And.intro @HX @zu) (And.intro @Gz (And.intro @EP @tS)))) (And.intro (And.intro (And.intro @Cl @Ck) (And.intro @Gy @aid)) (And.intro (And.intro @aic @aib) (And.intro @HD (And.intro @NG @abK)))))) (And.intro (And.intro (And.intro (And.intro (And.intro @ahV @Vz) (And.intro @HR @NH)) (And.intro (And.intro @NK @Dc) (And.intro @CP (And.intro @G8 @and_imp)))) (And.intro (And.intro (And.intro @Dg @Bz) (And.intro @HU @De)) (And.intro (And.intro @Df @wJ) (And.intro @wK (And.intro @Aw @wI))))) (And.intro (And.intro (And.intro (And.intro @wG @wE) (And.intro @Gx @wF)) (And.intro (And.intro @Db @C8) (And.intro @vL (And.intro @HQ @Da)))) (And.intro (And.intro (And.intro @C_ @wH) (And.intro @Vy @NI)) (And.intro (And.intro @yU @HM) (And.intro @D_ (And.intro @I5 @yE))))))) (And.intro (And.intro (And.intro (And.intro (And.intro (And.intro @yF @tO) (And.intro @CH @adi)) (And.intro (And.intro @Ys @Rw) (And.intro @akl (And.intro @Kz @Eu)))) (And.intro (And.intro (And.intro @Ey @Ew) (And.intro @ade @adf)) (And.intro (And.intro @akm @Kv) (And.intro @BI (And.intro @Yt @BJ))))) (And.intro (And.intro (And.intro (And.intro @Ry @Kq) (And.intro @Eo @Ep)) (And.intro (And.intro @Rx @Ks) (And.intro @Er (And.intro @Es @Kt)))) (And.intro (And.intro (And.intro @Ku @Kx) (And.intro @Kw @En)) (And.intro (And.intro @Et @Ky) (And.intro @adg (And.intro @adh @Yr)))))) (And.intro (And.intro (And.intro (And.intro (And.intro @Fr.qY @Fr.IC) (And.intro @Fr.IB @Bc)) (And.intro (And.intro @IL @IM) (And.intro @xc (And.intro @IK @xa)))) (And.intro (And.intro (And.intro @Cu @Cv) (And.intro @Cw @Cx)) (And.intro (And.intro @D8 @NW) (And.intro @U4 (And.intro @H9 @Dw))))) (And.intro (And.intro (And.intro (And.intro @NR @H0) (And.intro @List.replicate_succ.{0} @List.replicate_zero.{0})) (And.intro (And.intro @List.forall_mem_cons.{0} @List.not_mem_nil.{0}) (And.intro @Nat.zero_lt_succ (And.intro @Nat.lt_add_one @yO)))) (And.intro (And.intro (And.intro @yP @zW) (And.intro @zY @zX)) (And.intro (And.intro @qM @aa.set_set) (And.intro @Int.toNat_natCast (And.intro @wY @CX)))))))) (And.intro (And.intro (And.intro (And.intro (And.intro (And.intro (And.intro @AW @Hn) (And.intro @DM @Nq)) (And.intro (And.intro @wT @CS) (And.intro @DR (And.intro @Nw @uw)))) (And.intro (And.intro (And.intro @Ak @DO) (And.intro @Nu @AX)) (And.intro (And.intro @Ho @AZ) (And.intro @Hq (And.intro @Iy @U8))))) (And.intro (And.intro (And.intro (And.intro @DL @Np) (And.intro @wX @CW)) (And.intro (And.intro @AY @Hp) (And.intro @sU (And.intro @wz @wU)))) (And.intro (And.intro (And.intro @CT @wV) (And.intro @CU @DN)) (And.intro (And.intro @Nr @uv) (And.intro @Aj (And.intro @DK @Iu)))))) (And.intro (And.intro (And.intro (And.intro (And.intro @N3 @DF) (And.intro @N7 @AR)) (And.intro (And.intro @N5 @Iv) (And.intro @Ix (And.intro @V5 @N2)))) (And.intro (And.intro (And.intro @DJ @Iw) (And.intro @wR @DG)) (And.intro (And.intro @DH @N4) (And.intro @AQ (And.intro @wW @CV))))) (And.intro (And.intro (And.intro (And.intro @DQ @N8) (And.intro @Nv @Hm)) (And.intro (And.intro @Hl @CQ) (And.intro @AV (And.intro @DI @N6)))) (And.intro (And.intro (And.intro @Hu @Hw) (And.intro @Ap @CY)) (And.intro (And.intro @Hs @Al) (And.intro @Hx (And.intro @wB @Hv))))))) (And.intro (And.intro (And.intro (And.intro (And.intro (And.intro @CZ @C1) (And.intro @Ao @Nx)) (And.intro (And.intro @Hr @C0) (And.intro @ud (And.intro @Am @An)))) (And.intro (And.intro (And.intro @Ht @wA) (And.intro @aa.b9 @aa.UZ)) (And.intro (And.intro @Option.map_some.{0,0} @Option.map_none.{0,0}) (And.intro @Option.some.injEq.{0} (And.intro @exists_eq_left'.{1} @exists_eq_left.{1}))))) (And.intro (And.intro (And.intro (And.intro @true_and @and_true) (And.intro @List.map_cons.{0,0} @List.map_nil.{0,0})) (And.intro (And.intro @List.append_nil.{0} @List.nil_append.{0}) (And.intro @List.cons_append.{0} (And.intro @List.foldl_cons.{0,0} @List.foldl_nil.{0,0})))) (And.intro (And.intro (And.intro @List.all_cons.{0} @List.all_nil.{0}) (And.intro @Bool.and_true @Bool.and_self)) (And.intro (And.intro @Bool.true_and @List.length_cons.{0}) (And.intro @List.length_nil.{0} (And.intro @List.getElem?_cons_zero.{0} @List.getElem?_cons_succ.{0})))))) (And.intro (And.intro (And.intro (And.intro (And.intro @List.set_cons_zero.{0} @List.set_cons_succ.{0}) (And.intro (And.intro @forall_const.{0} @forall_const.{1}) @false_implies)) (And.intro (And.intro (And.intro @implies_true.{0} @implies_true.{1}) @true_implies) (And.intro @Bool.not_true (And.intro @Bool.not_false @decide_eq_true_eq)))) (And.intro (And.intro (And.intro @decide_eq_false_iff_not @Bool.true_eq_false) (And.intro @Bool.false_eq_true @cY.ret.injEq)) (And.intro (And.intro @Nat.zero_add @Nat.add_zero) (And.intro @beq_self_eq_true.{0} (And.intro @bne_self_eq_false.{0} @cond_true.{1}))))) (And.intro (And.intro (And.intro (And.intro @cond_false.{1} @List.drop_zero.{0}) (And.intro @Nat.sub_zero @D.int.injEq)) (And.intro (And.intro @D.str.injEq @D.bool.injEq) (And.intro @D.tuple.injEq (And.intro @D.agg.injEq @D.sl.injEq)))) (And.intro (And.intro (And.intro @List.cons.injEq.{0} @or_true) (And.intro @true_or @or_false)) (And.intro (And.intro @false_or @and_self) (And.intro @not_true_eq_false (And.intro @not_false_eq_true @ne_eq.{1})))))))))
theorem kg:type_of% (And.intro @GW (And.intro @HC @HB)):=And.intro @GW (And.intro @HC @HB)
theorem kc:type_of% (And.intro @HP (And.intro (And.intro @CO @CN) (And.intro @BH @uW))):=(And.intro @HP (And.intro (And.intro @CO @CN) (And.intro @BH @uW)))
theorem ka:type_of% (And.intro @RC (And.intro @DW (And.intro @wZ (And.intro @Fr.Hc (And.intro @Fr.CF (And.intro @NQ (And.intro @HZ (And.intro @Dv (And.intro @AG @MU))))))))):=And.intro @RC (And.intro @DW (And.intro @wZ (And.intro @Fr.Hc (And.intro @Fr.CF (And.intro @NQ (And.intro @HZ (And.intro @Dv (And.intro @AG @MU))))))))
theorem ke:type_of% (And.intro (And.intro (And.intro (And.intro (And.intro (And.intro (And.intro @cf.map.eq_1 (And.intro @cf.map.eq_2 @cf.map.eq_3)) (And.intro @cf.map.eq_4 (And.intro @cf.map.eq_5 @cf.map.eq_6))) (And.intro (And.intro @cf.map.eq_7 (And.intro @cf.map.eq_8 @cf.map.eq_9)) (And.intro (And.intro @cf.map.eq_10 @cf.map.eq_11) (And.intro @cf.map.eq_12 @cf.map.eq_13)))) (And.intro (And.intro (And.intro @cf.map.eq_14 (And.intro @cf.map.eq_15 @cf.map.eq_16)) (And.intro @cf.map.eq_17 (And.intro @cf.map.eq_18 @cf.map.eq_19))) (And.intro (And.intro @cf.map.eq_20 (And.intro @cf.map.eq_21 @cf.map.eq_22)) (And.intro (And.intro @cf.map.eq_23 @cf.map.eq_24) (And.intro @cf.map.eq_25 @cf.map.eq_26))))) (And.intro (And.intro (And.intro (And.intro @cf.map.eq_27 (And.intro @cf.map.eq_28 @cf.map.eq_29)) (And.intro @cf.map.eq_30 (And.intro @cf.map.eq_31 @cf.map.eq_32))) (And.intro (And.intro @cf.map.eq_33 (And.intro @cf.map.eq_34 @cf.map.eq_35)) (And.intro (And.intro @cf.map.eq_36 @cf.map.eq_37) (And.intro @cf.map.eq_38 @cf.map.eq_39)))) (And.intro (And.intro (And.intro @cf.map.eq_40 (And.intro @cf.map.eq_41 @cf.map.eq_42)) (And.intro (And.intro @cf.map.eq_43 @cf.map.eq_44) (And.intro @cf.map.eq_45 @cf.map.eq_46))) (And.intro (And.intro @cf.map.eq_47 (And.intro @cf.map.eq_48 @cf.map.eq_49)) (And.intro (And.intro @cf.map.eq_50 @Fr.ev.eq_1) (And.intro @Fr.ev.eq_2 @Fr.ev.eq_3)))))) (And.intro (And.intro (And.intro (And.intro (And.intro @ij.eq_1 (And.intro @EN.eq_1 @EN.eq_2)) (And.intro @lE.eq_1 (And.intro @lE.eq_2 @lE.eq_3))) (And.intro (And.intro @lE.eq_4 (And.intro @lE.eq_5 @lE.eq_6)) (And.intro (And.intro @e_.eq_1 @e_.eq_2) (And.intro @e_.eq_3 @e_.eq_4)))) (And.intro (And.intro (And.intro @e_.eq_5 (And.intro @e_.eq_6 @e_.eq_7)) (And.intro (And.intro @e_.eq_8 @e_.eq_9) (And.intro @e_.eq_10 @e_.eq_11))) (And.intro (And.intro @e_.eq_12 (And.intro @e_.eq_13 @e_.eq_14)) (And.intro (And.intro @e_.eq_15 @e_.eq_16) (And.intro @Cf.eq_1 @Cf.eq_2))))) (And.intro (And.intro (And.intro (And.intro @Cf.eq_3 (And.intro @jM.eq_1 @jM.eq_2)) (And.intro @jM.eq_3 (And.intro @jM.eq_4 @jM.eq_5))) (And.intro (And.intro @jM.eq_6 (And.intro @jM.eq_7 @jM.eq_8)) (And.intro (And.intro @pb.eq_1 @pb.eq_2) (And.intro @pb.eq_3 @pb.eq_4)))) (And.intro (And.intro (And.intro @pb.eq_5 (And.intro @pb.eq_6 @pb.eq_7)) (And.intro (And.intro @pb.eq_8 @Fr.mark.eq_1) (And.intro @Fr.mark.eq_2 @eI.eq_1))) (And.intro (And.intro @eI.eq_2 (And.intro @eI.eq_3 @BF.eq_1)) (And.intro (And.intro @BF.eq_2 @p9.eq_1) (And.intro @p9.eq_2 @p9.eq_3))))))) (And.intro (And.intro (And.intro (And.intro (And.intro (And.intro @p9.eq_4 (And.intro @p9.eq_5 @p9.eq_6)) (And.intro @p9.eq_7 (And.intro @jx.eq_1 @jx.eq_2))) (And.intro (And.intro @fj.eq_1 (And.intro @fj.eq_2 @fj.eq_3)) (And.intro (And.intro @fj.eq_4 @iF.eq_1) (And.intro @iF.eq_2 @gT.eq_1)))) (And.intro (And.intro (And.intro @gT.eq_2 (And.intro @gT.eq_3 @cellsD.eq_1)) (And.intro @cellsD.eq_2 (And.intro @bX.eq_1 @bX.eq_2))) (And.intro (And.intro @bX.eq_3 (And.intro @bX.eq_4 @setAt.eq_1)) (And.intro (And.intro @setAt.eq_2 @iS.eq_1) (And.intro @iS.eq_2 @iS.eq_3))))) (And.intro (And.intro (And.intro (And.intro @iS.eq_4 (And.intro @iS.eq_5 @iS.eq_6)) (And.intro @fy.eq_1 (And.intro @fy.eq_2 @fy.eq_3))) (And.intro (And.intro @fy.eq_4 (And.intro @fy.eq_5 @fy.eq_6)) (And.intro (And.intro @kh.eq_1 @kh.eq_2) (And.intro @kh.eq_3 @kh.eq_4)))) (And.intro (And.intro (And.intro @kh.eq_5 (And.intro @kh.eq_6 @kh.eq_7)) (And.intro (And.intro @kh.eq_8 @kh.eq_9) (And.intro @kh.eq_10 @kh.eq_11))) (And.intro (And.intro @kh.eq_12 (And.intro @dB.eq_1 @dB.eq_2)) (And.intro (And.intro @dB.eq_3 @dB.eq_4) (And.intro @dB.eq_5 @dB.eq_6)))))) (And.intro (And.intro (And.intro (And.intro (And.intro @dB.eq_7 (And.intro @dB.eq_8 @jP.eq_1)) (And.intro @jP.eq_2 (And.intro @fD.eq_1 @fD.eq_2))) (And.intro (And.intro @rowsOf.eq_1 (And.intro @dH.eq_1 @dH.eq_2)) (And.intro (And.intro @dH.eq_3 @dH.eq_4) (And.intro @dH.eq_5 @sQ.eq_1)))) (And.intro (And.intro (And.intro @gC.eq_1 (And.intro @gC.eq_2 @isNil.eq_1)) (And.intro (And.intro @isNil.eq_2 @kT.eq_1) (And.intro @kT.eq_2 @kT.eq_3))) (And.intro (And.intro @kT.eq_4 (And.intro @kT.eq_5 @kT.eq_6)) (And.intro (And.intro @kT.eq_7 @f_.eq_1) (And.intro @f_.eq_2 @f_.eq_3))))) (And.intro (And.intro (And.intro (And.intro @f_.eq_4 (And.intro @f_.eq_5 @iz.eq_1)) (And.intro @iz.eq_2 (And.intro @iz.eq_3 @iz.eq_4))) (And.intro (And.intro @cellAt.eq_1 (And.intro @cellAt.eq_2 @Dq)) (And.intro (And.intro @H3 @Ax) (And.intro @H4 @H2)))) (And.intro (And.intro (And.intro @AA (And.intro @NS @Dr)) (And.intro (And.intro @Ay @Az) (And.intro @Ds @List.any_cons.{0}))) (And.intro (And.intro @List.any_nil.{0} (And.intro @List.map_cons.{0,0} @List.map_nil.{0,0})) (And.intro (And.intro @Bool.or_false @Bool.false_or) (And.intro @Bool.or_true @Bool.true_or)))))))):=And.intro (And.intro (And.intro (And.intro (And.intro (And.intro (And.intro @cf.map.eq_1 (And.intro @cf.map.eq_2 @cf.map.eq_3)) (And.intro @cf.map.eq_4 (And.intro @cf.map.eq_5 @cf.map.eq_6))) (And.intro (And.intro @cf.map.eq_7 (And.intro @cf.map.eq_8 @cf.map.eq_9)) (And.intro (And.intro @cf.map.eq_10 @cf.map.eq_11) (And.intro @cf.map.eq_12 @cf.map.eq_13)))) (And.intro (And.intro (And.intro @cf.map.eq_14 (And.intro @cf.map.eq_15 @cf.map.eq_16)) (And.intro @cf.map.eq_17 (And.intro @cf.map.eq_18 @cf.map.eq_19))) (And.intro (And.intro @cf.map.eq_20 (And.intro @cf.map.eq_21 @cf.map.eq_22)) (And.intro (And.intro @cf.map.eq_23 @cf.map.eq_24) (And.intro @cf.map.eq_25 @cf.map.eq_26))))) (And.intro (And.intro (And.intro (And.intro @cf.map.eq_27 (And.intro @cf.map.eq_28 @cf.map.eq_29)) (And.intro @cf.map.eq_30 (And.intro @cf.map.eq_31 @cf.map.eq_32))) (And.intro (And.intro @cf.map.eq_33 (And.intro @cf.map.eq_34 @cf.map.eq_35)) (And.intro (And.intro @cf.map.eq_36 @cf.map.eq_37) (And.intro @cf.map.eq_38 @cf.map.eq_39)))) (And.intro (And.intro (And.intro @cf.map.eq_40 (And.intro @cf.map.eq_41 @cf.map.eq_42)) (And.intro (And.intro @cf.map.eq_43 @cf.map.eq_44) (And.intro @cf.map.eq_45 @cf.map.eq_46))) (And.intro (And.intro @cf.map.eq_47 (And.intro @cf.map.eq_48 @cf.map.eq_49)) (And.intro (And.intro @cf.map.eq_50 @Fr.ev.eq_1) (And.intro @Fr.ev.eq_2 @Fr.ev.eq_3)))))) (And.intro (And.intro (And.intro (And.intro (And.intro @ij.eq_1 (And.intro @EN.eq_1 @EN.eq_2)) (And.intro @lE.eq_1 (And.intro @lE.eq_2 @lE.eq_3))) (And.intro (And.intro @lE.eq_4 (And.intro @lE.eq_5 @lE.eq_6)) (And.intro (And.intro @e_.eq_1 @e_.eq_2) (And.intro @e_.eq_3 @e_.eq_4)))) (And.intro (And.intro (And.intro @e_.eq_5 (And.intro @e_.eq_6 @e_.eq_7)) (And.intro (And.intro @e_.eq_8 @e_.eq_9) (And.intro @e_.eq_10 @e_.eq_11))) (And.intro (And.intro @e_.eq_12 (And.intro @e_.eq_13 @e_.eq_14)) (And.intro (And.intro @e_.eq_15 @e_.eq_16) (And.intro @Cf.eq_1 @Cf.eq_2))))) (And.intro (And.intro (And.intro (And.intro @Cf.eq_3 (And.intro @jM.eq_1 @jM.eq_2)) (And.intro @jM.eq_3 (And.intro @jM.eq_4 @jM.eq_5))) (And.intro (And.intro @jM.eq_6 (And.intro @jM.eq_7 @jM.eq_8)) (And.intro (And.intro @pb.eq_1 @pb.eq_2) (And.intro @pb.eq_3 @pb.eq_4)))) (And.intro (And.intro (And.intro @pb.eq_5 (And.intro @pb.eq_6 @pb.eq_7)) (And.intro (And.intro @pb.eq_8 @Fr.mark.eq_1) (And.intro @Fr.mark.eq_2 @eI.eq_1))) (And.intro (And.intro @eI.eq_2 (And.intro @eI.eq_3 @BF.eq_1)) (And.intro (And.intro @BF.eq_2 @p9.eq_1) (And.intro @p9.eq_2 @p9.eq_3))))))) (And.intro (And.intro (And.intro (And.intro (And.intro (And.intro @p9.eq_4 (And.intro @p9.eq_5 @p9.eq_6)) (And.intro @p9.eq_7 (And.intro @jx.eq_1 @jx.eq_2))) (And.intro (And.intro @fj.eq_1 (And.intro @fj.eq_2 @fj.eq_3)) (And.intro (And.intro @fj.eq_4 @iF.eq_1) (And.intro @iF.eq_2 @gT.eq_1)))) (And.intro (And.intro (And.intro @gT.eq_2 (And.intro @gT.eq_3 @cellsD.eq_1)) (And.intro @cellsD.eq_2 (And.intro @bX.eq_1 @bX.eq_2))) (And.intro (And.intro @bX.eq_3 (And.intro @bX.eq_4 @setAt.eq_1)) (And.intro (And.intro @setAt.eq_2 @iS.eq_1) (And.intro @iS.eq_2 @iS.eq_3))))) (And.intro (And.intro (And.intro (And.intro @iS.eq_4 (And.intro @iS.eq_5 @iS.eq_6)) (And.intro @fy.eq_1 (And.intro @fy.eq_2 @fy.eq_3))) (And.intro (And.intro @fy.eq_4 (And.intro @fy.eq_5 @fy.eq_6)) (And.intro (And.intro @kh.eq_1 @kh.eq_2) (And.intro @kh.eq_3 @kh.eq_4)))) (And.intro (And.intro (And.intro @kh.eq_5 (And.intro @kh.eq_6 @kh.eq_7)) (And.intro (And.intro @kh.eq_8 @kh.eq_9) (And.intro @kh.eq_10 @kh.eq_11))) (And.intro (And.intro @kh.eq_12 (And.intro @dB.eq_1 @dB.eq_2)) (And.intro (And.intro @dB.eq_3 @dB.eq_4) (And.intro @dB.eq_5 @dB.eq_6)))))) (And.intro (And.intro (And.intro (And.intro (And.intro @dB.eq_7 (And.intro @dB.eq_8 @jP.eq_1)) (And.intro @jP.eq_2 (And.intro @fD.eq_1 @fD.eq_2))) (And.intro (And.intro @rowsOf.eq_1 (And.intro @dH.eq_1 @dH.eq_2)) (And.intro (And.intro @dH.eq_3 @dH.eq_4) (And.intro @dH.eq_5 @sQ.eq_1)))) (And.intro (And.intro (And.intro @gC.eq_1 (And.intro @gC.eq_2 @isNil.eq_1)) (And.intro (And.intro @isNil.eq_2 @kT.eq_1) (And.intro @kT.eq_2 @kT.eq_3))) (And.intro (And.intro @kT.eq_4 (And.intro @kT.eq_5 @kT.eq_6)) (And.intro (And.intro @kT.eq_7 @f_.eq_1) (And.intro @f_.eq_2 @f_.eq_3))))) (And.intro (And.intro (And.intro (And.intro @f_.eq_4 (And.intro @f_.eq_5 @iz.eq_1)) (And.intro @iz.eq_2 (And.intro @iz.eq_3 @iz.eq_4))) (And.intro (And.intro @cellAt.eq_1 (And.intro @cellAt.eq_2 @Dq)) (And.intro (And.intro @H3 @Ax) (And.intro @H4 @H2)))) (And.intro (And.intro (And.intro @AA (And.intro @NS @Dr)) (And.intro (And.intro @Ay @Az) (And.intro @Ds @List.any_cons.{0}))) (And.intro (And.intro @List.any_nil.{0} (And.intro @List.map_cons.{0,0} @List.map_nil.{0,0})) (And.intro (And.intro @Bool.or_false @Bool.false_or) (And.intro @Bool.or_true @Bool.true_or)))))))
def oM (a b:Nat):fw:=⟨.cB (.t a),(some b),none,true⟩
def oL (a b:Nat):fw:=⟨.load none (.t a),(some b),none,false⟩
def oJ (n a b:Nat):fw:=⟨.load (some n) (.t a),(some b),none,false⟩
def oF (n a b:Nat):fw:=⟨.fieldAddr n (.t a),(some b),none,true⟩
def oS (n a b:Nat):fw:=⟨.store n (.t a) (.t b),none,none,false⟩
def oN (a b:Nat):fw:=⟨.nilCheck (.t a),(some b),none,true⟩
def oX (a n b:Nat):fw:=⟨.extract (.t a) n,(some b),none,true⟩
def oZ (a b:Nat):fw:=⟨.len .sl (.t a),(some b),none,false⟩
def oW (a b:Nat):fw:=⟨.len .str (.t a),(some b),none,false⟩
def oI (n a b c:Nat):fw:=⟨.aS n (.t a) (.t b),(some c),none,false⟩
def oA (a:Nat):fw:=⟨.alloc [(.int .i64 0),(.int .i64 0),(.str []),(.int .i64 0),.aZ],(some a),none,false⟩
def zN:List D:=[(.int .i64 0),(.int .i64 0),(.str []),(.int .i64 0),.aZ]
def oP (i:cf iC) (a:Nat):fw:=⟨i,some a,none,true⟩
def oQ (i:cf iC) (a:Nat):fw:=⟨i,some a,none,false⟩
def oG (i:cf iC) (a b:Nat) (c d:Bool):fw:=⟨i,some a,some (b,c),d⟩
def oU (i:cf iC):fw:=⟨i,none,none,false⟩
def oE (f:BinOp) (a b c:Nat):fw:=⟨.bin f (.t a) (.t b),some c,none,true⟩
def oH (f:BinOp) (a:Nat) (n:Int) (c:Nat):fw:=⟨.bin f (.t a) (.c (.int .i64 n)),some c,none,true⟩
def oC (f:Nat) (l:List iC) (a:Nat):fw:=⟨.call (.f f) l,some a,none,false⟩
def oD (f:Nat) (l:List iC) (a:Nat):fw:=⟨.qcall (.f f) l,some a,none,false⟩
def kI (n:Int):iC:=.c (.int .i64 n)
def kS (s:List UInt8):iC:=.c (.str s)
def kB (b:Bool):iC:=.c (.bool b)
def sO (l:List fw) (s:dU):dU:=.seq (.ops l) s
theorem j_:type_of% (And.intro (And.intro (And.intro (And.intro @oM.eq_1 (And.intro @oL.eq_1 @oJ.eq_1)) (And.intro @oF.eq_1 (And.intro @oS.eq_1 @oN.eq_1))) (And.intro (And.intro @oX.eq_1 (And.intro @oZ.eq_1 @oW.eq_1)) (And.intro @oI.eq_1 (And.intro @oA.eq_1 @zN.eq_1)))) (And.intro (And.intro (And.intro @oP.eq_1 (And.intro @oQ.eq_1 @oG.eq_1)) (And.intro @oU.eq_1 (And.intro @oE.eq_1 @oH.eq_1))) (And.intro (And.intro @oC.eq_1 (And.intro @oD.eq_1 @kI.eq_1)) (And.intro @kS.eq_1 (And.intro @kB.eq_1 @sO.eq_1))))):=And.intro (And.intro (And.intro (And.intro @oM.eq_1 (And.intro @oL.eq_1 @oJ.eq_1)) (And.intro @oF.eq_1 (And.intro @oS.eq_1 @oN.eq_1))) (And.intro (And.intro @oX.eq_1 (And.intro @oZ.eq_1 @oW.eq_1)) (And.intro @oI.eq_1 (And.intro @oA.eq_1 @zN.eq_1)))) (And.intro (And.intro (And.intro @oP.eq_1 (And.intro @oQ.eq_1 @oG.eq_1)) (And.intro @oU.eq_1 (And.intro @oE.eq_1 @oH.eq_1))) (And.intro (And.intro @oC.eq_1 (And.intro @oD.eq_1 @kI.eq_1)) (And.intro @kS.eq_1 (And.intro @kB.eq_1 @sO.eq_1))))
theorem aA:type_of% (And.intro @j_ (And.intro (And.intro (And.intro (And.intro (And.intro @zz @kg) (And.intro @kc @ka)) (And.intro (And.intro @ke (And.intro @HO (And.intro (And.intro @HT @Ci) (And.intro @AU @Hj)))) (And.intro @Int.natCast_nonneg @Nat.le_refl))) (And.intro (And.intro (And.intro @Int.le_refl @List.take_succ_cons.{0}) (And.intro @List.take_zero.{0} @decide_true)) (And.intro (And.intro @decide_false @Bool.and_false) (And.intro @Bool.false_and (And.intro @cond_true.{0} @cond_false.{0}))))) (And.intro (And.intro @rY @zi) (And.intro (And.intro @zj @vf) (And.intro @HS @I6))))):=And.intro @j_ (And.intro (And.intro (And.intro (And.intro (And.intro @zz @kg) (And.intro @kc @ka)) (And.intro (And.intro @ke (And.intro @HO (And.intro (And.intro @HT @Ci) (And.intro @AU @Hj)))) (And.intro @Int.natCast_nonneg @Nat.le_refl))) (And.intro (And.intro (And.intro @Int.le_refl @List.take_succ_cons.{0}) (And.intro @List.take_zero.{0} @decide_true)) (And.intro (And.intro @decide_false @Bool.and_false) (And.intro @Bool.false_and (And.intro @cond_true.{0} @cond_false.{0}))))) (And.intro (And.intro @rY @zi) (And.intro (And.intro @zj @vf) (And.intro @HS @I6))))
end Go.Proofs.YtpklkpkfgmoghaaGreatDoor.Zz
namespace Go.Proofs.YtpklkpkfgmoghaaGreatDoor.Zz
def zs0:List Int:=[1,10,100,1000,10000,100000,1000000,10000000,100000000,1000000000,10000000000,100000000000,1000000000000,10000000000000,100000000000000,1000000000000000,10000000000000000,100000000000000000,1000000000000000000,10000000000000000000]
def gl0:List D:=zs0.map fun z=>.int .u64 z
instance aoa:aT:=⟨fun g=>if g=0 then some gl0 else none,fun g=>if g=2 then some .i64 else none⟩
theorem HA {g:Nat} {ds:List D} (e:aT.of g=some ds):(g=0∧ds=gl0):=by
 simp only [aT.of] at e
 split at e
 ·rename_i h; cases e; exact ⟨h,rfl⟩
 ·cases e
theorem LW {g:Nat} {k:IntKind} (e:aT.ints g=some k):(g=2∧k=.i64):=by
 simp only [aT.ints] at e
 split at e
 ·rename_i h; cases e; exact ⟨h,rfl⟩
 ·cases e
end Go.Proofs.YtpklkpkfgmoghaaGreatDoor.Zz

namespace Go.Proofs.YtpklkpkfgmoghaaGreatDoor.Zz
def p62:cm:=⟨⟨[],[],[],[],[],[]⟩,[],[],false⟩
def s62:dU:=
 sO [oP (.cB (kB false)) 2]
 (sO [oM 0 3,
 oP (.bin .geq (.t 3) (.c (.int .u8 97))) 4,
 oM 4 5,
 oG (.cB (.t 0)) 6 5 true true,
 oG (.bin .leq (.t 6) (.c (.int .u8 122))) 7 5 true true,
 oP (.pick (.t 5) (.t 7) (kB false)) 8,
 oM 8 9,
 oG (.cB (.t 0)) 10 9 false true,
 oG (.bin .geq (.t 10) (.c (.int .u8 65))) 11 9 false true,
 oG (.cB (.t 11)) 12 9 false true,
 oG (.cB (.t 0)) 13 12 true true,
 oG (.bin .leq (.t 13) (.c (.int .u8 90))) 14 12 true true,
 oG (.pick (.t 12) (.t 14) (kB false)) 15 9 false true,
 oP (.pick (.t 9) (kB true) (.t 15)) 16,
 oM 16 17,
 oG (.cB (.t 0)) 18 17 false true,
 oG (.bin .eql (.t 18) (.c (.int .u8 95))) 19 17 false true,
 oP (.pick (.t 17) (kB true) (.t 19)) 20,
 oM 20 2]
 (.ret))
theorem anJ:bA Tryz.prog 53 p62=some (s62,[.tmp 2],21):=by kernel_rfl
def p63:cm:=⟨⟨[],[],[],[],[],[]⟩,[],[],false⟩
def s63:dU:=
 sO [oP (.cB (kB false)) 2]
 (sO [oM 0 3,
 oP (.bin .geq (.t 3) (.c (.int .u8 48))) 4,
 oM 4 5,
 oG (.cB (.t 0)) 6 5 true true,
 oG (.bin .leq (.t 6) (.c (.int .u8 57))) 7 5 true true,
 oP (.pick (.t 5) (.t 7) (kB false)) 8,
 oM 8 2]
 (.ret))
theorem anK:bA Tryz.prog 51 p63=some (s63,[.tmp 2],9):=by kernel_rfl
def p76:cm:=⟨⟨[],[],[],[],[],[]⟩,[],[],false⟩
def s76:dU:=
 sO [oP (.cB (kB false)) 2]
 (sO [oM 0 3,
 oP (.bin .neq (.t 3) (.c (.int .u8 10))) 4,
 oM 4 2]
 (.ret))
theorem anP:bA Tryz.prog 50 p76=some (s76,[.tmp 2],5):=by kernel_rfl
def p78:cm:=⟨⟨[],[],[],[],[],[]⟩,[],[],false⟩
def s78:dU:=
 sO [oP (.cB (kB false)) 2]
 (sO [oM 0 3,
 oD 53 [.t 3] 4,
 oM 4 5,
 oG (.cB (.t 0)) 6 5 false true,
 oG (.qcall (.f 51) [(.t 6)]) 7 5 false false,
 oP (.pick (.t 5) (kB true) (.t 7)) 8,
 oM 8 2]
 (.ret))
theorem anR:bA Tryz.prog 54 p78=some (s78,[.tmp 2],9):=by kernel_rfl
def p75:cm:=⟨⟨[],[],[],[],[],[]⟩,[],[],false⟩
def s75:dU:=
 sO [oP (.cB (kI 0)) 6]
 (sO [oP (.cB (kI 0)) 7]
 (.seq (.block 0 (.loop (.seq (sO [oM 1 8,
 oM 7 9,
 oE .add 8 9 10,
 oM 0 11,
 oW 11 12,
 oE .lss 10 12 13,
 oM 13 14,
 oG (.cB (.t 2)) 15 14 true true,
 oG (.cB (.t 0)) 16 14 true true,
 oG (.cB (.t 1)) 17 14 true true,
 oG (.cB (.t 7)) 18 14 true true,
 oG (.bin .add (.t 17) (.t 18)) 19 14 true true,
 oG (.jS (.t 16) (.t 19)) 20 14 true true,
 oG (.qcall (.t 15) [(.t 20)]) 21 14 true false,
 oP (.pick (.t 14) (.t 21) (kB false)) 22]
 (.cond (.t 22)
 (.skip)
 (.exit 0)))
 (.block 1 (.ops [oM 7 23,
 oH .add 23 1 24,
 oM 24 7])))))
 (sO [oM 7 25,
 oM 25 6]
 (.ret))))
theorem anO:bA Tryz.prog 49 p75=some (s75,[.tmp 6],26):=by kernel_rfl
def p84:cm:=⟨⟨[],[],[],[],[],[]⟩,[],[],false⟩
def s84:dU:=
 sO [oP (.cB (kB false)) 4]
 (sO [oM 0 5,
 oW 5 6,
 oM 1 7,
 oW 7 8,
 oE .geq 6 8 9,
 oM 9 10,
 oG (.cB (.t 0)) 11 10 true true,
 oG (.cB (.t 1)) 12 10 true true,
 oG (.len .str (.t 12)) 13 10 true false,
 oG (.slice .str (.t 11) none (some (.t 13)) none) 14 10 true false,
 oG (.cB (.t 1)) 15 10 true true,
 oG (.bin .eql (.t 14) (.t 15)) 16 10 true true,
 oP (.pick (.t 10) (.t 16) (kB false)) 17,
 oM 17 4]
 (.ret))
theorem anV:bA Tryz.prog 77 p84=some (s84,[.tmp 4],18):=by kernel_rfl
def p74:cm:=⟨⟨[],[],[],[],[],[]⟩,[],[],false⟩
def s74:dU:=
 sO [oP (.cB (kB false)) 4]
 (sO [oM 0 5,
 oM 1 6,
 oD 77 [.t 5,.t 6] 7,
 oM 7 4]
 (.ret))
theorem anN:bA Tryz.prog 48 p74=some (s74,[.tmp 4],8):=by kernel_rfl
def isDigit (n:Int):Bool:=decide (48≤n) && decide (n≤57)
def fL (n:Int):Bool:=(decide (97≤n) && decide (n≤122)) || (decide (65≤n) && decide (n≤90)) || n==95
theorem Zi (n:Int):aV Tryz.prog 51 [.int .u8 n] (.bool (isDigit n)):=by
 refine aV.run (bh.dJ _) anK (by simp) fun E=>?_
 simp only [s63,zz,kg,kc,ka,ke,j_,cond_true,cond_false,seval]
 simp only [isDigit,or_self]
 (repeat' split)<;>simp_all<;>omega
theorem VJ (n:Int):aV Tryz.prog 53 [.int .u8 n] (.bool (fL n)):=by
 refine aV.run (bh.dJ _) anJ (by simp) fun E=>?_
 simp only [s62,zz,kg,kc,ka,ke,j_,cond_true,cond_false,seval]
 simp only [fL,or_self]
 (repeat' split)<;>simp_all<;>omega
def q63:List D→Option D
 | [.int .u8 n]=>if True then some (.bool (isDigit n)) else none
 | _=>none
theorem aeV (args:List D) (d:D) (h:q63 args=some d):aV Tryz.prog 51 args d:=by
 unfold q63 at h
 split at h
 ·split at h
  ·cases h; exact Zi _
  ·cases h
 ·cases h
def q62:List D→Option D
 | [.int .u8 n]=>if True then some (.bool (fL n)) else none
 | _=>none
theorem aeU (args:List D) (d:D) (h:q62 args=some d):aV Tryz.prog 53 args d:=by
 unfold q62 at h
 split at h
 ·split at h
  ·cases h; exact VJ _
  ·cases h
 ·cases h
theorem ZY (n:Int):aV Tryz.prog 50 [.int .u8 n] (.bool (n != 10)):=by
 refine aV.run (bh.dJ _) anP (by simp) fun E=>?_
 simp only [s76,zz,kg,kc,ka,ke,j_,cond_true,cond_false,seval]
def q76:List D→Option D
 | [.int .u8 n]=>if True then some (.bool (n != 10)) else none
 | _=>none
theorem ae3 (args:List D) (d:D) (h:q76 args=some d):aV Tryz.prog 50 args d:=by
 unfold q76 at h
 split at h
 ·split at h
  ·cases h; exact ZY _
  ·cases h
 ·cases h
def JX:bh:=bh.zero.dR 51 q63
theorem MB (g:FuncId) (args:List D):JX.q g args=if g=51 then q63 args else bh.zero.q g args:=rfl
theorem Xf:JX.a=bh.zero.a:=rfl
theorem Xg:JX.c=bh.zero.c:=rfl
theorem aa0:JX.ok Tryz.prog:=bh.bE (bh.dJ _) aeV
theorem Xh:type_of% (And.intro @MB (And.intro @Xf @Xg)):=(And.intro @MB (And.intro @Xf @Xg))
def JW:bh:=JX.dR 53 q62
theorem MA (g:FuncId) (args:List D):JW.q g args=if g=53 then q62 args else JX.q g args:=rfl
theorem Xd:JW.a=JX.a:=rfl
theorem Xe:JW.c=JX.c:=rfl
theorem Qf:JW.ok Tryz.prog:=bh.bE aa0 aeU
theorem Mz:type_of% (And.intro (And.intro @MA (And.intro @Xd @Xe)) @Xh):=(And.intro (And.intro @MA (And.intro @Xd @Xe)) @Xh)
theorem L4 (n:Int):aV Tryz.prog 54 [.int .u8 n] (.bool (fL n || isDigit n)):=by
 refine aV.run Qf anR (by simp) fun E=>?_
 simp only [s78,q62,q63,Mz,zz,kg,kc,ka,ke,j_,cond_true,cond_false,seval]
 split<;>simp_all
def q78:List D→Option D
 | [.int .u8 n]=>if True then some (.bool (fL n || isDigit n)) else none
 | _=>none
theorem ae5 (args:List D) (d:D) (h:q78 args=some d):aV Tryz.prog 54 args d:=by
 unfold q78 at h
 split at h
 ·split at h
  ·cases h; exact L4 _
  ·cases h
 ·cases h
def J7:bh:=JW.dR 50 q76
theorem ME (g:FuncId) (args:List D):J7.q g args=if g=50 then q76 args else JW.q g args:=rfl
theorem Xx:J7.a=JW.a:=rfl
theorem Xy:J7.c=JW.c:=rfl
theorem aa2:J7.ok Tryz.prog:=bh.bE Qf ae3
theorem Xz:type_of% (And.intro (And.intro @ME (And.intro @Xx @Xy)) @Mz):=(And.intro (And.intro @ME (And.intro @Xx @Xy)) @Mz)
def Cg:bh:=J7.dR 54 q78
theorem MG (g:FuncId) (args:List D):Cg.q g args=if g=54 then q78 args else J7.q g args:=rfl
theorem XE:Cg.a=J7.a:=rfl
theorem XF:Cg.c=J7.c:=rfl
theorem F1:Cg.ok Tryz.prog:=bh.bE aa2 ae5
theorem XG:type_of% (And.intro (And.intro @MG (And.intro @XE @XF)) @Xz):=(And.intro (And.intro @MG (And.intro @XE @XF)) @Xz)
def kN (p:Int→Bool) (l:List UInt8):Nat:=(l.takeWhile fun c=>p (c.toNat:Int)).length
theorem nX (p:Int→Bool) (l:List UInt8):kN p l≤l.length:=by
 have:=(List.takeWhile_sublist (l:=l) fun c=>p (c.toNat:Int)).length_le
 exact this
theorem mE (p:Int→Bool) (c:UInt8) (l:List UInt8):kN p (c::l)=if p (c.toNat:Int)=true then kN p l+1 else 0:=by
 simp only [kN,List.takeWhile_cons]
 split<;>simp
theorem drop_cons {s:List UInt8} {i:Nat} (h:i<s.length):s.drop i=s.getD i 0::s.drop (i+1):=by
 rw [List.drop_eq_getElem_cons h]
 simp [h]
theorem aiM {k:FuncId} {p:Int→Bool} (hq:∀n,Cg.q k [.int .u8 n]=some (.bool (p n))) (s:List UInt8) (a:Nat) (h1:a≤1000000) (h2:s.length≤1000000):
  aV Tryz.prog 49 [.str s,.int .i64 a,.func (.func k) [] []] (.int .i64 (kN p (s.drop a))):=by
 refine aV.run F1 anO (by simp) fun E=>?_
 simp only [s75,zz,kg,kc,ka,ke,j_,cond_true,cond_false,seval]
 refine cj (X:=Nat) (fun n=>[(0,.str s),(1,.int .i64 a),(2,.func (.func k) [] []),(7,.int .i64 n)]) (fun _=>aa.emp) (fun n=>s.length - n)
  (fun n=>(n=0∨a+n≤s.length)∧n+kN p (s.drop (a+n))=kN p (s.drop a)) 0 (by simp) ?_ (aa.aj _) ?_
 ·simp only [zz,kg,kc,ka,ke,j_,cond_true,cond_false,seval]
 ·rintro n Q ⟨i1,i2⟩ hQ
  have w1:IntKind.i64.wrap ((a:Int)+(n:Int))=((a+n:Nat):Int):=wrap_add (by omega)
  have wi:IntKind.i64.wrap ((n:Int)+1)=((n+1:Nat):Int):=cp (by omega)
  by_cases c1:a+n<s.length
  ·have g1:(((a+n:Nat):Int)<(s.length:Int))=True:=by simp; omega
   rw [drop_cons c1,mE] at i2
   simp only [g1,w1,wi,hq,decide_true,zz,kg,kc,ka,ke,j_,cond_true,cond_false,seval]
   intro _
   refine ⟨by omega,?_⟩
   split
   ·rename_i hp
    rw [if_pos hp] at i2
    refine hQ (n+1) _ _ ⟨by omega,by rw [←Nat.add_assoc]; omega⟩ ?_ (aa.aj _) (by omega)
    simp only [zz,kg,kc,ka,ke,j_,cond_true,cond_false,seval]
   ·rename_i hp
    rw [if_neg hp] at i2
    exact .inl (by omega)
  ·have g1:(((a+n:Nat):Int)<(s.length:Int))=False:=by simp; omega
   have e:s.drop (a+n)=[]:=List.drop_of_length_le (by omega)
   rw [e] at i2
   simp only [g1,w1,wi,hq,decide_false,zz,kg,kc,ka,ke,j_,cond_true,cond_false,seval]
   intro _
   simp only [kN,List.takeWhile_nil,List.length_nil] at i2
   exact .inl (by simp only [kN]; omega)
def pre (s t:List UInt8):Bool:=s.take t.length==t
theorem Vf (s t:List UInt8):aV Tryz.prog 77 [.str s,.str t] (.bool (pre s t)):=by
 refine aV.run F1 anV (by simp) fun E=>?_
 simp only [s84,zz,kg,kc,ka,ke,j_,cond_true,cond_false,seval]
 intro _ _
 split
 ·exact fun _=>⟨⟨by omega,by omega⟩,.inl rfl⟩
 ·refine .inl ?_
  rename_i h
  have:s.take t.length=s:=List.take_of_length_le (by omega)
  simp only [pre,this]
  symm
  apply beq_eq_false_iff_ne.2
  intro e
  rw [e] at h
  omega
def q84:List D→Option D
 | [.str s,.str t]=>if True then some (.bool (pre s t)) else none
 | _=>none
theorem ae9 (args:List D) (d:D) (h:q84 args=some d):aV Tryz.prog 77 args d:=by
 unfold q84 at h
 split at h
 ·split at h
  ·cases h; exact Vf _ _
  ·cases h
 ·cases h
def Ka:bh:=Cg.dR 77 q84
theorem XR (g:FuncId) (args:List D):Ka.q g args=if g=77 then q84 args else Cg.q g args:=rfl
theorem XP:Ka.a=Cg.a:=rfl
theorem XQ:Ka.c=Cg.c:=rfl
theorem QY:Ka.ok Tryz.prog:=bh.bE F1 ae9
theorem MI:type_of% (And.intro (And.intro @XR (And.intro @XP @XQ)) @XG):=(And.intro (And.intro @XR (And.intro @XP @XQ)) @XG)
theorem HF (s t:List UInt8):aV Tryz.prog 48 [.str s,.str t] (.bool (pre s t)):=by
 refine aV.run QY anN (by simp) fun E=>?_
 simp only [s74,q84,MI,zz,kg,kc,ka,ke,j_,cond_true,cond_false,seval]
def q74:List D→Option D
 | [.str s,.str t]=>if True then some (.bool (pre s t)) else none
 | _=>none
theorem ae1 (args:List D) (d:D) (h:q74 args=some d):aV Tryz.prog 48 args d:=by
 unfold q74 at h
 split at h
 ·split at h
  ·cases h; exact HF _ _
  ·cases h
 ·cases h
def J4:bh:=Ka.dR 48 q74
theorem Xr (g:FuncId) (args:List D):J4.q g args=if g=48 then q74 args else Ka.q g args:=rfl
theorem Xo:J4.a=Ka.a:=rfl
theorem Xp:J4.c=Ka.c:=rfl
theorem aa1:J4.ok Tryz.prog:=bh.bE QY ae1
theorem Xq:type_of% (And.intro (And.intro @Xr (And.intro @Xo @Xp)) @MI):=(And.intro (And.intro @Xr (And.intro @Xo @Xp)) @MI)
def ja (n:Int):Bool:=fL n || isDigit n
def nc:FuncId→Option (Int→Bool)
 | 51=>some isDigit
 | 50=>some fun n=>n != 10
 | 54=>some ja
 | _=>none
def q75:List D→Option D
 | [.str s,.int .i64 a,.func (.func k) [] []]=>match nc k with
  | some p=>if 0≤a∧a≤1000000∧s.length≤1000000 then some (.int .i64 (kN p (s.drop a.toNat))) else none
  | none=>none
 | _=>none
theorem SB {k:FuncId} {p:Int→Bool} (h:nc k=some p) (n:Int):Cg.q k [.int .u8 n]=some (.bool (p n)):=by
 unfold nc at h
 split at h<;>cases h<;>simp [ja,q63,q76,q78,MG,ME,MA,MB]
theorem ae2 (args:List D) (d:D) (h:q75 args=some d):aV Tryz.prog 49 args d:=by
 unfold q75 at h
 split at h
 ·rename_i s a k
  split at h
  ·rename_i p hp
   split at h
   ·rename_i hc
    obtain ⟨n,rfl⟩:=Int.eq_ofNat_of_zero_le hc.1
    cases h
    exact aiM (SB hp) s n (by omega) hc.2.2
   ·cases h
  ·cases h
 ·cases h
def J6:bh:=J4.dR 49 q75
theorem Xv (g:FuncId) (args:List D):J6.q g args=if g=49 then q75 args else J4.q g args:=rfl
theorem Xs:J6.a=J4.a:=rfl
theorem Xt:J6.c=J4.c:=rfl
theorem QA:J6.ok Tryz.prog:=bh.bE aa1 ae2
theorem Xu:type_of% (And.intro (And.intro @Xv (And.intro @Xs @Xt)) @Xq):=(And.intro (And.intro @Xv (And.intro @Xs @Xt)) @Xq)
end Go.Proofs.YtpklkpkfgmoghaaGreatDoor.Zz
