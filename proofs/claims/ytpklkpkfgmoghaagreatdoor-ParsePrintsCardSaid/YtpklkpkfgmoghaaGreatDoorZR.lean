/- Operations, with their guards; rows of operations; any order of evaluation. -/
import Derived.Test.YtpklkpkfgmoghaaGreatDoorZP
import Derived.Orders
set_option linter.unnecessarySimpa false
set_option linter.unusedVariables false
set_option linter.unusedSimpArgs false
namespace Go.Proofs.YtpklkpkfgmoghaaGreatDoor.Zz
structure ep where
 i:bM f7
 d:Option Nat
 g:Option (Nat×Bool)
 p:Bool
def na:LK→D→Option D
 | .str,.str s=>some (.int .i64 (s.length:Int))
 | .arr n,_=>some (.int .i64 (n:Int))
 | .sl,.bg=>some (.int .i64 0)
 | .sl,.sl xs=>some (.int .i64 (xs.length:Int))
 | .sl,.row r aR off len=>some (.int .i64 (len:Int))
 | .sl,.r7 id off len=>some (.int .i64 (len:Int))
 | _,_=>none
def dS:bM D→Option D
 | .pick c a b=>match c with
  | .bool c=>some (bif c then a else b)
  | _=>none
 | .buildSlice sz zs len ps vh=>match vh with
  | false=>(ew sz (rowsOf sz zs len) ps).map fun xs=>.sl (pG zs xs)
  | true=>none
 | .conv c x=>match c,x with
  | .jE,.str s=>some (.sl (eP s))
  | .jE,_=>none
  | c,x=>bo (.conv c x)
 | .p7 k x=>na k x
 | i=>bo i
def qn (T:bm) (p:Bool) (i:bM D) (h:aa) (K:D→aa→Prop) (E:D→aa→Prop):Prop:=
 match p with
 | true=>∃d,dS i=some d∧K d h
 | false=>d_ T i h K E
def kE (T:bm) (o:ep) (K:D→aa→Prop) (E:D→aa→Prop) (σ:Fr) (h:aa):Prop:=
 match o.g with
 | none=>qn T o.p (o.i.map σ.ev) h K E
 | some (t,want)=>match σ.env t with
  | .bool b=>(b=want→qn T o.p (o.i.map σ.ev) h K E)∧(b= !want→K (.tuple []) h)
  | .tuple []=>K (.tuple []) h
  | _=>False
def Up (T:bm) (o:ep) (K:Fr→aa→Prop) (E:D→aa→Prop) (σ:Fr) (h:aa):Prop:=
 match o.g with
 | none=>qn T o.p (o.i.map σ.ev) h (fun d h'=>K (σ.put o.d d) h') E
 | some (t,want)=>match σ.env t with
  | .bool b=>(b=want→qn T o.p (o.i.map σ.ev) h (fun d h'=>K ((σ.put (some t) (.bool want)).put o.d d) h') E)∧
    (b= !want→K ((σ.put (some t) (.bool (!want))).put o.d (.tuple [])) h)
  | .tuple []=>K (σ.put o.d (.tuple [])) h
  | _=>False
theorem Fr.kq {σ:Fr} {t:Nat} {d:D} (e:σ.env t=d):σ.put (some t) d=σ:=
 Fr.ext (fun i=>by simp only [Fr.n9]; split<;>dj) rfl
theorem o8 {T:bm} {o:ep} {K:Fr→aa→Prop} {E:D→aa→Prop} {σ:Fr} {h:aa}:Up T o K E σ h↔kE T o (fun d h'=>K (σ.put o.d d) h') E σ h:=by
 unfold Up kE
 cases hg:o.g with
 | none=>rfl
 | some tw=>
  obtain ⟨t,want⟩:=tw
  simp only
  cases e:σ.env t with
  | bool b=>
   simp only
   constructor
   ·rintro ⟨h1,h2⟩
    refine ⟨fun hb=>?_,fun hb=>?_⟩
    ·subst hb; rw [Fr.kq e] at h1; exact h1 rfl
    ·subst hb; rw [Fr.kq e] at h2; exact h2 rfl
   ·rintro ⟨h1,h2⟩
    refine ⟨fun hb=>?_,fun hb=>?_⟩
    ·subst hb; rw [Fr.kq e]; exact h1 rfl
    ·subst hb; rw [Fr.kq e]; exact h2 rfl
  | tuple ds=>cases ds<;>rfl
  | _=>rfl
def fe (T:bm):List ep→(Fr→aa→Prop)→(Fr→D→aa→Prop)→Fr→aa→Prop
 | [],K,E,σ,h=>K σ h
 | o::os,K,E,σ,h=>Up T o (fun σ' h'=>fe T os K E σ' h') (E σ) σ h
theorem aQ.mono [aN] {P:Program} {f:FuncId} {args:List D} {h:aa} {R R':dF→aa→Prop} (c:aQ P f args h R) (hr:∀o h',R o h'→R' o h'):aQ P f args h R':=
 ⟨c.1,fun κ w vs i r=>(c.2 κ w vs i r).mono fun e w' ⟨o,h',κ',a1,a2⟩=>⟨o,h',κ',hr o h' a1,a2⟩⟩
theorem Ri {T:bm} {i:bM D} {h:aa} {K K' E E':D→aa→Prop} (hk:∀d h,K d h→K' d h) (he:∀d h,E d h→E' d h) (hv:d_ T i h K E):d_ T i h K' E':=by
 have ex:∀{p:D→Prop},(∃d,p d∧K d h)→∃d,p d∧K' d h:=fun ⟨d,a,b⟩=>⟨d,a,hk _ _ b⟩
 cases i with
 | pick c a b=>
  cases c<;>first | exact hv.elim | exact ⟨fun e=>hk _ _ (hv.1 e),fun e=>hk _ _ (hv.2 e)⟩
 | alloc ds=>exact fun id fE=>hk _ _ (hv id fE)
 | box x=>exact ⟨hv.1,fun id fE=>hk _ _ (hv.2 id fE)⟩
 | buildSlice sz zs len ps r=>
  obtain ⟨xs,h1,h2⟩:=hv
  refine ⟨xs,h1,?_⟩
  cases r with
  | true=>exact fun id fE=>hk _ _ (h2 id fE)
  | false=>exact hk _ _ h2
 | load n x=>exact ex hv
 | cT n x b=>exact ex hv
 | lN k=>obtain ⟨ds,h1,h2⟩:=hv; exact ⟨ds,h1,fun id fE=>hk _ _ (h2 id fE)⟩
 | store n x v=>obtain ⟨h',h1,h2⟩:=hv; exact ⟨h',h1,hk _ _ h2⟩
 | storeNe n x v ys=>obtain ⟨h0,h',h1,h2⟩:=hv; exact ⟨h0,h',h1,hk _ _ h2⟩
 | conv c x=>
  cases c with
  | dW=>exact ex hv
  | jE=>cases x<;>first | exact hv.elim | exact hk _ _ hv
  | _=>exact ex hv
 | slice k x lo hi mx=>cases x<;>exact ex hv
 | a8 sz x i=>cases x<;>exact ex hv
 | len k x=>
  cases k with
  | arr n=>exact hk _ _ hv
  | str=>cases x<;>first | exact hv.elim | exact fun e=>hk _ _ (hv e)
  | sl=>cases x<;>first | exact hv.elim | exact fun e=>hk _ _ (hv e) | exact hk _ _ hv
  | map=>cases x<;>exact hv.elim
 | append sz bytes str s x=>
  obtain ⟨ys,h1,h2,h3,h4⟩:=hv
  refine ⟨ys,h1,h2,h3,?_⟩
  cases s with
  | bg=>exact ⟨fun e=>hk _ _ (h4.1 e),h4.2.1,fun e id fE=>hk _ _ (h4.2.2 e id fE)⟩
  | row r aR off len=>
   simp only at h4 ⊢
   split at h4
   ·obtain ⟨a1,a2,a3,a4,a5,a6⟩:=h4
    exact ⟨a1,a2,a3,a4,a5,hk _ _ a6⟩
   ·exact h4.elim
  | _=>exact h4.elim
 | makeSlice sz bytes zs l c=>
  cases l with
  | int k l=>cases c with
   | int k' c=>
    obtain ⟨a1,a2,a3,a4,a5,a6⟩:=hv
    exact ⟨a1,a2,a3,a4,a5,fun id fE=>hk _ _ (a6 id fE)⟩
   | _=>exact hv.elim
  | _=>exact hv.elim
 | call f args=>
  simp only [d_] at hv ⊢
  split at hv
  ·exact T.mono _ _ _ _ _ _ _ hk he hv
  ·obtain ⟨h1,L,e1,e2,e3⟩:=hv
   exact ⟨h1,L,e1,e2,T.acd _ _ _ _ _ (fun d h' k hL=>hk _ _ (k hL)) e3⟩
  ·exact hv.elim
 | callR f args=>
  cases f with
  | func fn first cap=>cases fn<;>first | exact hv.elim | exact T.mono _ _ _ _ _ _ _ hk he hv
  | _=>exact hv.elim
 | callNe f args ys=>
  simp only [d_] at hv ⊢
  split at hv
  ·exact T.mono _ _ _ _ _ _ _ (fun d h k=>⟨k.1,hk _ _ k.2⟩) he hv
  ·exact hv.elim
 | appendA sz bytes str s x zs=>
  obtain ⟨h0,ys,h1,h2,h3,h4⟩:=hv
  refine ⟨h0,ys,h1,h2,h3,?_⟩
  cases s with
  | bg=>exact ⟨h4.1,h4.2.1,fun id fE=>hk _ _ (h4.2.2 id fE)⟩
  | row r aR off len=>
   simp only at h4 ⊢
   split at h4
   ·obtain ⟨a0,a1,a2,a3,a4,a5,a6⟩:=h4
    exact ⟨a0,a1,a2,a3,a4,a5,hk _ _ a6⟩
   ·obtain ⟨a1,a2,a3,a4,a5,a6⟩:=h4
    exact ⟨a1,a2,a3,a4,a5,hk _ _ a6⟩
   ·exact h4.elim
  | _=>exact h4.elim
 | iw n x v=>obtain ⟨h',h1,h2⟩:=hv; exact ⟨h',h1,hk _ _ h2⟩
 | kz n x v=>
  simp only [d_] at hv ⊢
  split at hv
  ·obtain ⟨h',h1,h2⟩:=hv; exact ⟨h',h1,hk _ _ h2⟩
  ·exact hv.elim
 | qcall f args=>
  simp only [d_] at hv ⊢
  split at hv
  ·obtain ⟨d,e,x⟩:=hv; exact ⟨d,e,hk _ _ x⟩
  ·exact hv.elim
 | panic x=>cases x<;>first | exact hv.elim | exact he _ _ hv
 | p7=>exact hv.elim
 | typeAssert t ok z x=>cases x<;>first | exact hv.elim | exact ⟨hv.1,hk _ _ hv.2⟩
 | makeMap=>exact hv.elim
 | lookup=>exact hv.elim
 | mapUpdate=>exact hv.elim
 | delete=>exact hv.elim
 | defer=>exact hv.elim
 | isNil neg x=>cases x<;>first | exact hv.elim | exact hk _ _ hv | exact ⟨fun e=>hk _ _ (hv.1 e),hk _ _ hv.2⟩
 | mK x=>cases x<;>first | exact hv.elim | exact fun id fE=>hk _ _ (hv id fE)
 | pN x=>
  cases x with
  | iter id=>
   simp only [d_] at hv ⊢
   split at hv
   ·exact ⟨fun e=>hk _ _ (hv.1 e),fun e=>hk _ _ (hv.2 e)⟩
   ·exact hv.elim
  | _=>exact hv.elim
 | iW op x y=>
  simp only [d_] at hv ⊢
  split at hv
  ·refine ⟨hv.1,?_⟩
   have h2:=hv.2
   split at h2
   ·exact hk _ _ h2
   ·exact fun r hr=>hk _ _ (h2 r hr)
  ·exact hv.elim
 | _=>exact ex hv
theorem xD {T:bm} {p:Bool} {i:bM D} {h:aa} {K K' E E':D→aa→Prop} (hk:∀d h,K d h→K' d h) (he:∀d h,E d h→E' d h) (hv:qn T p i h K E):qn T p i h K' E':=by
 cases p with
 | true=>obtain ⟨d,a,b⟩:=hv; exact ⟨d,a,hk _ _ b⟩
 | false=>exact Ri hk he hv
theorem gL {T:bm} {o:ep} {σ:Fr} {h:aa} {K K' E E':D→aa→Prop} (hk:∀d h,K d h→K' d h) (he:∀d h,E d h→E' d h) (hv:kE T o K E σ h):kE T o K' E' σ h:=by
 unfold kE at*
 cases hg:o.g with
 | none=>simp only [hg] at hv; exact xD hk he hv
 | some tw=>
  obtain ⟨t,want⟩:=tw
  simp only [hg] at hv ⊢
  split at hv
  ·exact ⟨fun e=>xD hk he (hv.1 e),fun e=>hk _ _ (hv.2 e)⟩
  ·exact hk _ _ hv
  ·exact hv.elim
theorem qV {T:bm} {o:ep} {σ:Fr} {h:aa} {K K':Fr→aa→Prop} {E E':D→aa→Prop} (hk:∀σ h,K σ h→K' σ h) (he:∀d h,E d h→E' d h) (hv:Up T o K E σ h):Up T o K' E' σ h:=
 o8.2 (gL (fun _ _=>hk _ _) he (o8.1 hv))
theorem qo {T:bm} {os:List ep}:∀{σ:Fr} {h:aa} {K K':Fr→aa→Prop} {E E':Fr→D→aa→Prop} (hk:∀σ h,K σ h→K' σ h) (he:∀σ d h,E σ d h→E' σ d h) (hv:fe T os K E σ h),fe T os K' E' σ h:=by
 induction os with
 | nil=>exact fun hk he hv=>hk _ _ hv
 | cons o os ih=>exact fun hk he hv=>qV (fun _ _ x=>ih hk he x) (he _) hv
structure VC where
 rows:List (Nat×Nat)
 aab:List (Nat×Nat)
 looks:List (Nat×Nat)
 nes:List ((Nat×Nat)×List f7)
 YK:List ((Nat×Nat)×f7)
 news:List (Nat×Nat)
def bM.aep:bM f7→Bool
 | .alloc _ | .box _ | .iW .. | .cT .. | .lN _ | .load .. | .store .. | .storeNe .. | .append .. | .makeSlice .. | .call .. | .callR .. | .callNe .. | .appendA .. | .kz .. | .iw .. | .qcall .. | .panic _ | .defer .. | .typeAssert .. | .makeMap | .lookup .. | .mapUpdate .. | .delete .. | .len .. | .isNil .. | .mK _ | .pN _=>false
 | .buildSlice _ _ _ _ r=> !r
 | .conv c _=> !(c==.dW)
 | _=>true
def NC (ops:Array Oper) (o:Oper):Option (Option (Nat×Bool)):=
 match o.guard with
 | none=>some none
 | some (j,want)=>match ops[j]? with
  | some oj=>match oj.dst with
   | some t=>some (some (t,want))
   | none=>none
  | none=>none
def T4 (n:Nat) (o:Oper):Bool:=
 match o.dst with
 | some t=>decide (t<n)
 | none=>true
def pB [aN] (P:Program) (n:Nat) (cfg:VC) (drawn:Bool) (r:Nat) (ops:Array Oper) (j:Nat):Option ep:=
 match ops[j]? with
 | none=>none
 | some o=>
  if T4 n o=true then
   match iL P (cfg.rows.contains (r,j)) (!cfg.aab.contains (r,j)) o,NC ops o with
   | some (.len k x),some g=>if drawn then some ⟨.p7 k x,o.dst,g,true⟩ else some ⟨.len k x,o.dst,g,false⟩
   | some (.store k x v),some g=>match cfg.nes.lookup (r,j) with
    | some ys=>some ⟨.storeNe k x v ys,o.dst,g,false⟩
    | none=>if cfg.rows.contains (r,j) then some ⟨.kz k x v,o.dst,g,false⟩ else if cfg.news.contains (r,j) then some ⟨.iw k x v,o.dst,g,false⟩ else some ⟨.store k x v,o.dst,g,false⟩
   | some (.append sz b st s x),some g=>match cfg.nes.lookup (r,j) with
    | some ys=>some ⟨.appendA sz b st s x ys,o.dst,g,false⟩
    | none=>some ⟨.append sz b st s x,o.dst,g,false⟩
   | some (.load k x),some g=>match cfg.YK.lookup (r,j) with
    | some b=>some ⟨.cT k x b,o.dst,g,false⟩
    | none=>some ⟨.load k x,o.dst,g,false⟩
   | some (.call (.f k) []),some g=>if cfg.news.contains (r,j) then some ⟨.lN k,o.dst,g,false⟩ else some ⟨.call (.f k) [],o.dst,g,false⟩
   | some (.call f as),some g=>match cfg.nes.lookup (r,j) with
    | some ys=>some ⟨.callNe f as ys,o.dst,g,false⟩
    | none=>some ⟨.call f as,o.dst,g,false⟩
   | some i,some g=>some ⟨i,o.dst,g,i.aep && (drawn || !(match i with | .slice .. | .a8 .. =>true | _=>false)) && !cfg.looks.contains (r,j)⟩
   | _,_=>none
  else none
theorem Rh {T:bm} {i:bM D} {d:D} {h:aa} {K E:D→aa→Prop} (hv:dS i=some d) (hk:K d h) (hp:∀k x,i≠.p7 k x):d_ T i h K E:=by
 have ex:bo i=some d→∃d,bo i=some d∧K d h:=fun e=>⟨d,e,hk⟩
 cases i with
 | pick c a b=>
  cases c with
  | bool c=>
   simp only [dS,Option.some.injEq] at hv
   subst hv
   exact ⟨fun e=>by subst e; exact hk,fun e=>by subst e; exact hk⟩
  | _=>simp [dS] at hv
 | buildSlice sz zs len ps r=>
  cases r with
  | true=>simp [dS] at hv
  | false=>
   simp only [dS,Option.map_eq_some_iff] at hv
   obtain ⟨xs,h1,rfl⟩:=hv
   exact ⟨xs,h1,hk⟩
 | conv c x=>
  cases c with
  | jE=>cases x<;>first | (simp [dS] at hv; done) | (simp only [dS,Option.some.injEq] at hv; subst hv; exact hk)
  | dW=>cases x<;>simp [dS,bo] at hv
  | _=>cases x<;>first | (simp [dS,bo] at hv; done) | exact ex hv
 | p7 k x=>exact absurd rfl (hp k x)
 | slice k x lo hi mx=>
  cases x with
  | row r aR off len=> 
   simp only [dS,bo,iv] at hv
   split at hv
   ·cases hv
   ·cases k<;>simp at hv
  | _=>exact ex hv
 | a8 sz x i=>cases x<;>first | (simp [dS,bo] at hv; done) | exact ex hv
 | _=>first | exact ex hv | (simp [dS,bo] at hv; done)
end Go.Proofs.YtpklkpkfgmoghaaGreatDoor.Zz
namespace Go.Proofs.YtpklkpkfgmoghaaGreatDoor.Zz
variable {P:Program} {T:bm} {κ:cp} {h:aa} {w:World} {σ:Fr} {n:Nat} {a:Act}
theorem vx [aN] {cfg:VC} {dr:Bool} {r j:Nat} {ops:Array Oper} {oi:ep} (hc:pB P n cfg dr r ops j=some oi):
  ∃o i q q',ops[j]? =some o∧(∀t,o.dst=some t→t<n)∧iL P q q' o=some i∧NC ops o=some oi.g∧oi.d=o.dst∧
   ((oi.i=i∧(oi.p=true→∀k x,i≠.p7 k x))∨(∃k x,i=.len k x∧oi.i=.p7 k x∧oi.p=true)∨(∃k x v ys,i=.store k x v∧oi.i=.storeNe k x v ys∧oi.p=false)∨(∃k x b,i=.load k x∧oi.i=.cT k x b∧oi.p=false)∨(∃k,i=.call (.f k) []∧oi.i=.lN k∧oi.p=false)∨(∃f as ys,i=.call f as∧oi.i=.callNe f as ys∧oi.p=false)∨(∃k x v,i=.store k x v∧oi.i=.kz k x v∧oi.p=false)∨(∃sz b st s x ys,i=.append sz b st s x∧oi.i=.appendA sz b st s x ys∧oi.p=false)∨(∃k x v,i=.store k x v∧oi.i=.iw k x v∧oi.p=false)):=by
 unfold pB at hc
 split at hc
 ·cases hc
 ·ab o ho
  split at hc
  ·ab hd
   have vX:∀t,o.dst=some t→t<n:=fun t e=>by simpa [T4,e] using hd
   split at hc
   ·ab k x g e1 e2
    split at hc
    ·cases hc; exact ⟨o,_,_,_,ho,vX,e1,e2,rfl,.inr (.inl ⟨k,x,rfl,rfl,rfl⟩)⟩
    ·cases hc; exact ⟨o,_,_,_,ho,vX,e1,e2,rfl,.inl ⟨rfl,fun h=>by cases h⟩⟩
   ·ab k x v g e1 e2
    split at hc
    ·ab ys _; cases hc; exact ⟨o,_,_,_,ho,vX,e1,e2,rfl,.inr (.inr (.inl ⟨k,x,v,ys,rfl,rfl,rfl⟩))⟩
    ·split at hc
     ·cases hc; exact ⟨o,_,_,_,ho,vX,e1,e2,rfl,.inr (.inr (.inr (.inr (.inr (.inr (.inl ⟨k,x,v,rfl,rfl,rfl⟩))))))⟩
     ·split at hc
      ·cases hc; exact ⟨o,_,_,_,ho,vX,e1,e2,rfl,.inr (.inr (.inr (.inr (.inr (.inr (.inr (.inr ⟨k,x,v,rfl,rfl,rfl⟩)))))))⟩
      ·cases hc; exact ⟨o,_,_,_,ho,vX,e1,e2,rfl,.inl ⟨rfl,fun h=>by cases h⟩⟩
   ·ab sz b st s x g e1 e2
    split at hc
    ·ab ys _; cases hc; exact ⟨o,_,_,_,ho,vX,e1,e2,rfl,.inr (.inr (.inr (.inr (.inr (.inr (.inr (.inl ⟨sz,b,st,s,x,ys,rfl,rfl,rfl⟩)))))))⟩
    ·cases hc; exact ⟨o,_,_,_,ho,vX,e1,e2,rfl,.inl ⟨rfl,fun h=>by cases h⟩⟩
   ·ab k x g e1 e2
    split at hc
    ·ab b _; cases hc; exact ⟨o,_,_,_,ho,vX,e1,e2,rfl,.inr (.inr (.inr (.inl ⟨k,x,b,rfl,rfl,rfl⟩)))⟩
    ·cases hc; exact ⟨o,_,_,_,ho,vX,e1,e2,rfl,.inl ⟨rfl,fun h=>by cases h⟩⟩
   ·ab k g e1 e2
    split at hc
    ·cases hc; exact ⟨o,_,_,_,ho,vX,e1,e2,rfl,.inr (.inr (.inr (.inr (.inl ⟨k,rfl,rfl,rfl⟩))))⟩
    ·cases hc; exact ⟨o,_,_,_,ho,vX,e1,e2,rfl,.inl ⟨rfl,fun h=>by cases h⟩⟩
   ·ab f as g xJ e1 e2
    split at hc
    ·ab ys _; cases hc; exact ⟨o,_,_,_,ho,vX,e1,e2,rfl,.inr (.inr (.inr (.inr (.inr (.inl ⟨f,as,ys,rfl,rfl,rfl⟩)))))⟩
    ·cases hc; exact ⟨o,_,_,_,ho,vX,e1,e2,rfl,.inl ⟨rfl,fun h=>by cases h⟩⟩
   ·ab i g xJ ajG ajH ajI ajJ ajK e1 e2
    cases hc
    refine ⟨o,i,_,_,ho,vX,e1,e2,rfl,.inl ⟨rfl,fun _ k x e=>?_⟩⟩
    subst e
    exact absurd e1 (by
     generalize cfg.rows.contains (r,j)=q
     generalize (!cfg.aab.contains (r,j))=q'
     intro e
     unfold iL at e
     (repeat' split at e)<;>first | (cases e; done) | (simp only [Option.map_eq_some_iff] at e; obtain ⟨_,_,e⟩:=e; cases e; done))
   ·cases hc
  ·cases hc
theorem K9 {k:LK} {x:D} {d:D} {K E:D→aa→Prop} (e:na k x=some d) (hk:K d h):d_ T (.len k x) h K E:=by
 unfold na at e
 split at e<;>first | (cases e; done) | (cases e; simp only [d_]; first | exact hk | exact fun _=>hk)
theorem Nx [aN] (hT:T.nU P κ w) {q q':Bool} {o:Oper} {k:FuncId} (hc:iL P q q' o=some (.call (.f k) [])) (hi:Inv κ h w) (hp:jF κ w σ n a) {K E:D→aa→Prop} (hv:d_ T (.lN k) h K E):eA P κ h w K E ((execOp a.eval o).run P w):=by
 unfold iL at hc
 split at hc
 bf first
  | (cases hc; done)
  | (simp only [Option.map_eq_some_iff] at hc; obtain ⟨_,_,e⟩:=hc; cases e; done)
  | ((repeat' split at hc)<;>first | (cases hc; done) | (simp only [Option.map_eq_some_iff] at hc; obtain ⟨_,_,e⟩:=hc; cases e; done) | skip)
 bf
  ab c fy _ f j4 _ _ g as e1 e2 _ _
  have hf:a.eval f=.func (.func k) #[] #[]∧c.args.map a.eval= #[]:=by
   simp only [Option.some.injEq,bM.call.injEq] at hc
   obtain ⟨rfl,rfl⟩:=hc
   constructor
   ·cases f with
    | func m=>simp [jN] at e1; subst e1; rfl
    | const v=>
     simp only [jN,Option.map_eq_some_iff] at e1
     obtain ⟨d,_,e⟩:=e1
     cases e
    | tmp t=>simp [jN] at e1
    | global g=>simp only [jN,Option.map_eq_some_iff] at e1; obtain ⟨_,_,e⟩:=e1; cases e
   ·have:=nW e2
    have h0:c.args.toList=[]:=List.length_eq_zero_iff.1 (by simpa using this)
    have:c.args= #[]:=by apply Array.ext'; simpa using h0
    rw [this]; simp
  simp only [execOp,fy,resolve,j4,hf.1,hf.2]
  exact Lu hT hi hv
theorem F1 [aN] {q q':Bool} {o:Oper} {sz jK:Nat} {st:Bool} {s x:f7} {zs:List D} (hc:iL P q q' o=some (.append sz jK st s x)) (hi:Inv κ h w) (hp:jF κ w σ n a) {K E:D→aa→Prop} (hv:d_ T (.appendA sz jK st (σ.ev s) (σ.ev x) zs) h K E):eA P κ h w K E ((execOp a.eval o).run P w):=by
 unfold iL at hc
 split at hc
 bf first
  | (cases hc; done)
  | (simp only [Option.map_eq_some_iff] at hc; obtain ⟨_,_,e⟩:=hc; cases e; done)
  | ((repeat' split at hc)<;>first | (cases hc; done) | (simp only [Option.map_eq_some_iff] at hc; obtain ⟨_,_,e⟩:=hc; cases e; done) | skip)
 ·ab c fy _ b _ _ s' x' t e1 e2 j4 _ _ e t1 t2 e3 e4 _ _ _ _ gS by' z' el f1 f2 f3 f4 kR
  simp only [Option.some.injEq,bM.append.injEq] at hc
  obtain ⟨rfl,rfl,rfl,rfl,rfl⟩:=hc
  obtain ⟨v,u,h1,r1,r2⟩:=qX hp e1
  have LM:c.argTypes= #[t,t2]:=by
   apply Array.ext'
   have:c.argTypes.toList[0]? =some t:=by simpa using e2
   simp [e4] at this
   simp [e4,this]
  have Bk:(execOp a.eval o).run P w=(builtin .append c.argTypes o.type (c.args.map fun x=>match x with | .const _=>true | _=>false) #[v,u]).run P w:=by
   simp only [execOp,fy,Sem.run_bind,resolve,j4,h1]
   rfl
  rw [Bk,LM]
  simp only [builtin]
  exact s3 (T:=T) hi (fW e3) f1 f2 f3 kR.1 kR.2 (.inl ⟨rfl,_,f4⟩) r1 r2 hv
 ·ab c fy _ b _ _ s' x' t e1 e2 j4 _ _ e t1 t2 e3 e4 _ _ _ _ gS by' z' f1 f2 f3 f4 kR
  simp only [Option.some.injEq,bM.append.injEq] at hc
  obtain ⟨rfl,rfl,rfl,rfl,rfl⟩:=hc
  obtain ⟨v,u,h1,r1,r2⟩:=qX hp e1
  have LM:c.argTypes= #[t,t2]:=by
   apply Array.ext'
   have:c.argTypes.toList[0]? =some t:=by simpa using e2
   simp [e4] at this
   simp [e4,this]
  have Bk:(execOp a.eval o).run P w=(builtin .append c.argTypes o.type (c.args.map fun x=>match x with | .const _=>true | _=>false) #[v,u]).run P w:=by
   simp only [execOp,fy,Sem.run_bind,resolve,j4,h1]
   rfl
  rw [Bk,LM]
  simp only [builtin]
  exact s3 (T:=T) hi (fW e3) f1 f2 f3 kR.1 (by omega) (.inr ⟨rfl,f4,kR.2⟩) r1 r2 hv
theorem Mx [aN] (hT:T.nU P κ w) {q q':Bool} {o:Oper} {k:Nat} {x v:f7} (hc:iL P q q' o=some (.store k x v)) (hi:Inv κ h w) (hp:jF κ w σ n a) {K E:D→aa→Prop} (hv:d_ T (.kz k (σ.ev x) (σ.ev v)) h K E):eA P κ h w K E ((execOp a.eval o).run P w):=by
 unfold iL at hc
 split at hc
 bf first
  | (cases hc; done)
  | (simp only [Option.map_eq_some_iff] at hc; obtain ⟨_,_,e⟩:=hc; cases e; done)
  | ((repeat' split at hc)<;>first | (cases hc; done) | (simp only [Option.map_eq_some_iff] at hc; obtain ⟨_,_,e⟩:=hc; cases e; done) | skip)
 bf
  ab t xo vo fy _ _ _ _ _ _ y0 u0 e0 e1 e2 e3
  simp only [Option.some.injEq,bM.store.injEq] at hc
  obtain ⟨rfl,rfl,rfl⟩:=hc
  simp only [d_] at hv
  split at hv
  ·ab v' h1 R9
   obtain ⟨h',e4,hk⟩:=hv
   obtain ⟨κ1,i1,Bb,r1⟩:=Gh hi (bp hp e3) R9
   obtain ⟨w',g1,g2,g3⟩:=mM (P:=P) i1 e1 ((bp hp e2).mono (Bb.le hi)) r1 e4
   simp only [execOp,fy,Sem.run_bind,g1,Result.andThen,Sem.run_pure]
   exact ⟨κ1,h',hk,g2,Bb.trans g3⟩
  ·exact hv.elim
theorem My [aN] (hT:T.nU P κ w) {q q':Bool} {o:Oper} {k:Nat} {x v:f7} (hc:iL P q q' o=some (.store k x v)) (hi:Inv κ h w) (hp:jF κ w σ n a) {K E:D→aa→Prop} (hv:d_ T (.iw k (σ.ev x) (σ.ev v)) h K E):eA P κ h w K E ((execOp a.eval o).run P w):=by
 unfold iL at hc
 split at hc
 bf first
  | (cases hc; done)
  | (simp only [Option.map_eq_some_iff] at hc; obtain ⟨_,_,e⟩:=hc; cases e; done)
  | ((repeat' split at hc)<;>first | (cases hc; done) | (simp only [Option.map_eq_some_iff] at hc; obtain ⟨_,_,e⟩:=hc; cases e; done) | skip)
 bf
  ab t xo vo fy _ _ _ _ _ _ y0 u0 e0 e1 e2 e3
  simp only [Option.some.injEq,bM.store.injEq] at hc
  obtain ⟨rfl,rfl,rfl⟩:=hc
  simp only [d_] at hv
  obtain ⟨h',e4,hk⟩:=hv
  obtain ⟨κ1,i1,Bb,r1⟩:=BG hi (bp hp e3)
  obtain ⟨w',g1,g2,g3⟩:=mM (P:=P) i1 e1 ((bp hp e2).mono (Bb.le hi)) r1 e4
  simp only [execOp,fy,Sem.run_bind,g1,Result.andThen,Sem.run_pure]
  exact ⟨κ1,h',hk,g2,Bb.trans g3⟩
theorem L6 [aN] (hT:T.nU P κ w) {cfg:VC} {dr:Bool} {r j:Nat} {ops:Array Oper} {oi:ep} (hc:pB P n cfg dr r ops j=some oi) {o:Oper} (ho:ops[j]? =some o) (hi:Inv κ h w) (hp:jF κ w σ n a) {K E:D→aa→Prop} (hv:kE T oi K E σ h):
  (Region.wanted o (yielded ops a.tmps)=true∧eA P κ h w K E ((execOp a.eval o).run P w))∨(Region.wanted o (yielded ops a.tmps)=false∧K (.tuple []) h):=by
 obtain ⟨o',i,q,q',nK,hd,kD,hg,N_,N8⟩:=vx hc
 rw [ho] at nK
 cases nK
 have run:qn T oi.p (oi.i.map σ.ev) h K E→eA P κ h w K E ((execOp a.eval o).run P w):=fun hv=>by
  by_cases te:∃k,i=.call (.f k) []∧oi.i=.lN k∧oi.p=false
  ·obtain ⟨k,e1,e2,e3⟩:=te
   rw [e2,e3] at hv
   rw [e1] at kD
   exact Nx hT kD hi hp hv
  by_cases ZV:∃k x v,i=.store k x v∧oi.i=.kz k x v∧oi.p=false
  ·obtain ⟨k,x,v,e1,e2,e3⟩:=ZV
   rw [e2,e3] at hv
   rw [e1] at kD
   exact Mx hT kD hi hp hv
  by_cases ZW:∃k x v,i=.store k x v∧oi.i=.iw k x v∧oi.p=false
  ·obtain ⟨k,x,v,e1,e2,e3⟩:=ZW
   rw [e2,e3] at hv
   rw [e1] at kD
   exact My hT kD hi hp hv
  by_cases Zt:∃sz b st s x ys,i=.append sz b st s x∧oi.i=.appendA sz b st s x ys∧oi.p=false
  ·obtain ⟨sz,b,st,s,x,ys,e1,e2,e3⟩:=Zt
   rw [e2,e3] at hv
   rw [e1] at kD
   exact F1 (T:=T) kD hi hp hv
  refine LO hT kD hi hp ?_
  rcases N8 with ⟨e1,e2⟩ | ⟨k,x,e1,e2,e3⟩ | ⟨k,x,v,ys,e1,e2,e3⟩ | ⟨k,x,b,e1,e2,e3⟩ | ⟨k,e1,e2,e3⟩ | ⟨f,as,ys,e1,e2,e3⟩ | ⟨k,x,v,e1,e2,e3⟩ | ⟨sz,jK,st,s,x,ys,e1,e2,e3⟩ | ⟨k,x,v,e1,e2,e3⟩
  ·rw [e1] at hv
   cases Wn:oi.p with
   | false=>rw [Wn] at hv; exact hv
   | true=>
    rw [Wn] at hv
    obtain ⟨d,h1,h2⟩:=hv
    refine Rh h1 h2 fun k x e=>?_
    cases i<;>simp only [bM.map] at e<;>first | (cases e; done) | exact e2 Wn _ _ rfl
  ·rw [e2,e3] at hv
   obtain ⟨d,h1,h2⟩:=hv
   rw [e1]
   exact K9 h1 h2
  ·rw [e2,e3] at hv
   rw [e1]
   exact hv.2
  ·rw [e2,e3] at hv
   rw [e1]
   obtain ⟨d,h1,h2⟩:=hv
   split at h1
   ·exact ⟨d,h1,h2⟩
   ·cases h1
  ·exact absurd ⟨k,e1,e2,e3⟩ te
  ·rw [e2,e3] at hv
   rw [e1]
   simp only [qn,bM.map,d_] at hv ⊢
   split at hv
   ·ab heq
    rw [heq]
    exact T.mono _ _ _ _ _ _ _ (fun d h k=>k.2) (fun _ _ k=>k) hv
   ·exact hv.elim
  ·exact absurd ⟨k,x,v,e1,e2,e3⟩ ZV
  ·exact absurd ⟨sz,jK,st,s,x,ys,e1,e2,e3⟩ Zt
  ·exact absurd ⟨k,x,v,e1,e2,e3⟩ ZW
 unfold kE at hv
 unfold NC at hg
 cases ZA:o.guard with
 | none=>
  rw [ZA] at hg
  simp only [Option.some.injEq] at hg
  rw [←hg] at hv
  exact .inl ⟨by simp [Region.wanted,ZA],run hv⟩
 | some gw=>
  obtain ⟨g,want⟩:=gw
  rw [ZA] at hg
  simp only at hg
  split at hg
  ·ab og hog
   split at hg
   ·ab t ht
    simp only [Option.some.injEq] at hg
    rw [←hg] at hv
    simp only at hv
    have hy:∀v,a.tmps[t]? =some v→yielded ops a.tmps g=match v with | .bool b=>some b | _=>none:=fun v hv=>by
     simp only [yielded,hog,Option.bind_some,ht,hv]
     cases v<;>rfl
    have rt:=hp.env t
    split at hv
    ·ab b hb
     rw [hb] at rt
     have Wh:a.tmps[t]? =some (.bool b):=by
      rw [Array.getD_eq_getD_getElem?] at rt
      cases e:a.tmps[t]? with
      | none=>rw [e] at rt; simp [undef] at rt; cases rt
      | some v=>rw [e] at rt; simp at rt; cases rt; rfl
     have hy':=hy _ Wh
     simp only at hy'
     have hw:Region.wanted o (yielded ops a.tmps)=(b==want):=by
      simp only [Region.wanted,ZA,hy']
      cases b<;>cases want<;>rfl
     by_cases hbw:b=want
     ·exact .inl ⟨by rw [hw]; simp [hbw],run (hv.1 hbw)⟩
     ·exact .inr ⟨by rw [hw]; simp [hbw],hv.2 (by cases b<;>cases want<;>first | rfl | exact absurd rfl hbw)⟩
    ·ab hb
     rw [hb] at rt
     have hw:Region.wanted o (yielded ops a.tmps)=false:=by
      have:yielded ops a.tmps g=none:=by
       cases e:a.tmps[t]? with
       | none=>simp only [yielded,hog,Option.bind_some,ht,e]
       | some v=>
        rw [hy _ e]
        rw [Array.getD_eq_getD_getElem?,e] at rt
        simp at rt
        cases rt
        rfl
      simp [Region.wanted,ZA,this]
     exact .inr ⟨hw,hv⟩
    ·exact hv.elim
   ·cases hg
  ·cases hg
def FW (ro:Option Nat):Fence:={ Fence.wide with round:=ro }
theorem uK {ro:Option Nat} {m:Nat}:(FW ro).depth.isSome=true→1≤m:=fun h=>by cases h
theorem B_ {ro:Option Nat} {f:FuncId} {vs:Array Value} {R:Ending→World→Prop} {m:Nat} (c:Calls P f vs w R):CallsIn (FW ro) m P f vs w R:=callsIn_wide.2 c
theorem TP [aN] {ro:Option Nat} {o:Oper} {K E:D→aa→Prop} {next:Act→World→Prop} {Q:Exit→Act→World→Prop} {rr:Result Next}
  (hn:∀κ' h' w' v d,K d h'→cd κ' w' v d→Inv κ' h' w'→Ev κ h w κ' h' w'→next (a.put o.dst v) w')
  (hq:∀κ' h' w' v d,E d h'→cd κ' w' v d→Inv κ' h' w'→Ev κ h w κ' h' w'→Q (.panic [{ v,recovered:=false }]) a w')
  (hu:eA P κ h w K E rr):o.uponIn (FW ro) 0 P a next Q rr:=by
 cases rr with
 | ok nx w'=>
  cases nx with
  | value v=>obtain ⟨κ',h',d,k,r,i,e⟩:=hu; exact hn _ _ _ _ _ k r i e
  | skip=>obtain ⟨κ',h',k,i,e⟩:=hu; exact hn _ _ _ _ _ k (.undef _) i e
  | enter f vs=>
   refine ⟨uK,B_ (Calls.mono hu fun e AA ⟨o',kQ,gP,k,r,i,ev⟩=>?_)⟩
   cases r with
   | ret r=>exact hn _ _ _ _ _ k r i ev
   | panic r=>exact hq _ _ _ _ _ k r i ev
  | round l f tmps assign body=>
   refine ⟨uK,RoundIn.mono (F:=FW ro) hu fun e AA ⟨o',kQ,gP,k,r,i,ev⟩=>?_⟩
   cases r with
   | ret r=>exact hn _ _ _ _ _ k r i ev
   | panic r=>exact hq _ _ _ _ _ k r i ev
  | _=>exact hu.elim
 | halt x w'=>
  cases x with
  | panic v=>obtain ⟨κ',h',d,k,r,i,e⟩:=hu; exact hq _ _ _ _ _ k r i e
  | _=>exact hu.elim
def QK [aN] (κ0:cp) (h0:aa) (w0:World) (n:Nat) (K:Ex→Fr→aa→Prop) (E:Fr→D→aa→Prop):Exit→Act→World→Prop
 | .normal,a,w=>∃κ h σ,K .normal σ h∧Inv κ h w∧jF κ w σ n a∧Ev κ0 h0 w0 κ h w
 | .ret,a,w=>∃κ h σ,K .ret σ h∧Inv κ h w∧jF κ w σ n a∧Ev κ0 h0 w0 κ h w
 | .exit id,a,w=>∃κ h σ,K (.exit id) σ h∧Inv κ h w∧jF κ w σ n a∧Ev κ0 h0 w0 κ h w
 | .panic chain,a,w=>∃κ h d v σ,chain=[{ v,recovered:=false }]∧E σ d h∧cd κ w v d∧jF κ w σ n a∧Inv κ h w∧Ev κ0 h0 w0 κ h w
 | _,_,_=>False
theorem xT [aN] {q q':Bool} {o:Oper} {i:bM f7} (hc:iL P q q' o=some i):∀c,o.op≠.defer c:=fun c e=>by
 unfold iL at hc
 rw [e] at hc
 cases hc
theorem K6 [aN] (hT:T.nU P κ w) {ro:Option Nat} {κ0:cp} {h0:aa} {w0:World} {K:Ex→Fr→aa→Prop} {E:Fr→D→aa→Prop} {cfg:VC} {dr:Bool} {r j:Nat} {ops:Array Oper} {oi:ep} (hc:pB P n cfg dr r ops j=some oi) (hi:Inv κ h w) (hp:jF κ w σ n a) (ev:Ev κ0 h0 w0 κ h w)
  {Kn:Fr→aa→Prop} {next:Act→World→Prop} (hv:Up T oi Kn (E σ) σ h)
  (hn:∀κ' h' w' σ' a',Kn σ' h'→Inv κ' h' w'→jF κ' w' σ' n a'→Ev κ0 h0 w0 κ' h' w'→next a' w'):Rm (FW ro) 0 P ops (QK κ0 h0 w0 n K E) j next a w:=by
 obtain ⟨o,i,q,q',ho,hd,hci,_,N_,_⟩:=vx hc
 have:=L6 hT hc ho hi hp (o8.1 hv)
 unfold Rm
 simp only [ho]
 rcases this with ⟨hw,hu⟩ | ⟨hw,hk⟩
 ·rw [if_pos hw]
  unfold Oper.wpIn
  refine ⟨fun _ _=>trivial,?_⟩
  rw [Oper.semAt_eq _ _ _ (xT hci)]
  refine TP (fun κ' h' w' v d k rr i' e'=>?_) (fun κ' h' w' v d k rr i' e'=>?_) hu
  ·rw [N_] at k
   exact hn κ' h' w' _ _ k i' ((hp.mono (e'.le hi)).put o.dst hd rr) (ev.trans e')
  ·exact ⟨κ',h',d,v,σ,rfl,k,rr,hp.mono (e'.le hi),i',ev.trans e'⟩
 ·rw [if_neg (by simp [hw])]
  rw [N_] at hk
  refine ⟨fun _ _=>trivial,hn κ h w _ _ hk hi (hp.put o.dst hd ?_) ev⟩
  exact .tuple rfl fun i d hd=>by simp at hd
theorem sI [aN] {ro:Option Nat} {κ0:cp} {h0:aa} {w0:World} (hT:T.nU P κ0 w0) (r9:Inv κ0 h0 w0) {K:Ex→Fr→aa→Prop} {E:Fr→D→aa→Prop} {cfg:VC} {dr:Bool} {r:Nat} {ops:Array Oper} {Kn:Fr→aa→Prop} {l2:List Nat}
  (hk:∀κ' h' w' σ' a',Kn σ' h'→Inv κ' h' w'→jF κ' w' σ' n a'→Ev κ0 h0 w0 κ' h' w'→wpOpsIn (FW ro) 0 P ops (QK κ0 h0 w0 n K E) l2 a' w'):∀(l:List Nat) (os:List ep) (hc:l.mapM (pB P n cfg dr r ops)=some os) (κ:cp) (h:aa) (w:World) (σ:Fr) (a:Act),
  Inv κ h w→jF κ w σ n a→Ev κ0 h0 w0 κ h w→fe T os Kn E σ h→wpOpsIn (FW ro) 0 P ops (QK κ0 h0 w0 n K E) (l++l2) a w
 | [],os,hc,κ,h,w,σ,a,hi,hp,ev,hv=>by
  simp at hc
  subst hc
  exact hk κ h w σ a hv hi hp ev
 | j::l,os,hc,κ,h,w,σ,a,hi,hp,ev,hv=>by
  simp only [List.mapM_cons,Option.bind_eq_bind,Option.bind_eq_some_iff] at hc
  obtain ⟨oi,e1,os',e2,e3⟩:=hc
  cases e3
  rw [List.cons_append,rY]
  exact K6 (hT.mono (ev.le r9)) e1 hi hp ev hv fun κ' h' w' σ' a' k i' p' e'=>sI hT r9 hk l os' e2 κ' h' w' σ' a' i' p' e' k
end Go.Proofs.YtpklkpkfgmoghaaGreatDoor.Zz
