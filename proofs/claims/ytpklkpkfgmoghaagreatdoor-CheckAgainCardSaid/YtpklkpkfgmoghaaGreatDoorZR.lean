/- Operations, with their guards; rows of operations; any order of evaluation. -/
import Derived.Test.YtpklkpkfgmoghaaGreatDoorZP
import Derived.Orders
set_option linter.unnecessarySimpa false
set_option linter.unusedVariables false
set_option linter.unusedSimpArgs false
namespace Go.Proofs.YtpklkpkfgmoghaaGreatDoor.Zz
structure fw where
 i:cf iC
 d:Option Nat
 g:Option (Nat×Bool)
 p:Bool
def p9:LK→D→Option D
 | .str,.str s=>some (.int .i64 (s.length:Int))
 | .arr n,_=>some (.int .i64 (n:Int))
 | .sl,.aZ=>some (.int .i64 0)
 | .sl,.sl xs=>some (.int .i64 (xs.length:Int))
 | .sl,.row r aY off len=>some (.int .i64 (len:Int))
 | .sl,.u7 id off len=>some (.int .i64 (len:Int))
 | _,_=>none
def ew:cf D→Option D
 | .pick c a b=>match c with
  | .bool c=>some (bif c then a else b)
  | _=>none
 | .buildSlice sz zs len ps zr=>match zr with
  | false=>(fD sz (rowsOf sz zs len) ps).map fun xs=>.sl (sQ zs xs)
  | true=>none
 | .conv c x=>match c,x with
  | .ld,.str s=>some (.sl (fX s))
  | .ld,_=>none
  | c,x=>bC (.conv c x)
 | .tl k x=>p9 k x
 | i=>bC i
def tH (T:bh) (p:Bool) (i:cf D) (h:aa) (K:D→aa→Prop) (E:D→aa→Prop):Prop:=
 match p with
 | true=>∃d,ew i=some d∧K d h
 | false=>eV T i h K E
def mJ (T:bh) (o:fw) (K:D→aa→Prop) (E:D→aa→Prop) (σ:Fr) (h:aa):Prop:=
 match o.g with
 | none=>tH T o.p (o.i.map σ.ev) h K E
 | some (t,want)=>match σ.env t with
  | .bool b=>(b=want→tH T o.p (o.i.map σ.ev) h K E)∧(b= !want→K (.tuple []) h)
  | .tuple []=>K (.tuple []) h
  | _=>False
def opA (T:bh) (o:fw) (K:Fr→aa→Prop) (E:D→aa→Prop) (σ:Fr) (h:aa):Prop:=
 match o.g with
 | none=>tH T o.p (o.i.map σ.ev) h (fun d h'=>K (σ.put o.d d) h') E
 | some (t,want)=>match σ.env t with
  | .bool b=>(b=want→tH T o.p (o.i.map σ.ev) h (fun d h'=>K ((σ.put (some t) (.bool want)).put o.d d) h') E)∧
    (b= !want→K ((σ.put (some t) (.bool (!want))).put o.d (.tuple [])) h)
  | .tuple []=>K (σ.put o.d (.tuple [])) h
  | _=>False
theorem Fr.mw {σ:Fr} {t:Nat} {d:D} (e:σ.env t=d):σ.put (some t) d=σ:=
 Fr.ext (fun i=>by simp only [Fr.qY]; split<;>simp_all) rfl
theorem r8 {T:bh} {o:fw} {K:Fr→aa→Prop} {E:D→aa→Prop} {σ:Fr} {h:aa}:opA T o K E σ h↔mJ T o (fun d h'=>K (σ.put o.d d) h') E σ h:=by
 unfold opA mJ
 cases hg:o.g with
 | none=>rfl
 | some tw=>
  obtain ⟨t,want⟩:=tw
  simp only
  cases e:σ.env t with
  | bool b=>
   simp only
   constructor
   ·rintro ⟨h1,h2⟩
    refine ⟨fun hb=>?_,fun hb=>?_⟩
    ·subst hb; rw [Fr.mw e] at h1; exact h1 rfl
    ·subst hb; rw [Fr.mw e] at h2; exact h2 rfl
   ·rintro ⟨h1,h2⟩
    refine ⟨fun hb=>?_,fun hb=>?_⟩
    ·subst hb; rw [Fr.mw e]; exact h1 rfl
    ·subst hb; rw [Fr.mw e]; exact h2 rfl
  | tuple ds=>cases ds<;>rfl
  | _=>rfl
def gE (T:bh):List fw→(Fr→aa→Prop)→(Fr→D→aa→Prop)→Fr→aa→Prop
 | [],K,E,σ,h=>K σ h
 | o::os,K,E,σ,h=>opA T o (fun σ' h'=>gE T os K E σ' h') (E σ) σ h
theorem aH.mono [aT] {P:Program} {f:FuncId} {args:List D} {h:aa} {R R':cY→aa→Prop} (c:aH P f args h R) (hr:∀o h',R o h'→R' o h'):aH P f args h R':=
 ⟨c.1,fun κ w vs i r=>(c.2 κ w vs i r).mono fun e w' ⟨o,h',κ',a1,a2⟩=>⟨o,h',κ',hr o h' a1,a2⟩⟩
theorem Yv {T:bh} {i:cf D} {h:aa} {K K' E E':D→aa→Prop} (hk:∀d h,K d h→K' d h) (he:∀d h,E d h→E' d h) (hv:eV T i h K E):eV T i h K' E':=by
 have ex:∀{p:D→Prop},(∃d,p d∧K d h)→∃d,p d∧K' d h:=fun ⟨d,a,b⟩=>⟨d,a,hk _ _ b⟩
 cases i with
 | pick c a b=>
  cases c<;>first | exact hv.elim | exact ⟨fun e=>hk _ _ (hv.1 e),fun e=>hk _ _ (hv.2 e)⟩
 | alloc ds=>exact fun id hid=>hk _ _ (hv id hid)
 | box x=>exact ⟨hv.1,fun id hid=>hk _ _ (hv.2 id hid)⟩
 | buildSlice sz zs len ps r=>
  obtain ⟨xs,h1,h2⟩:=hv
  refine ⟨xs,h1,?_⟩
  cases r with
  | true=>exact fun id hid=>hk _ _ (h2 id hid)
  | false=>exact hk _ _ h2
 | load n x=>exact ex hv
 | cQ n x b=>exact ex hv
 | oa k=>obtain ⟨ds,h1,h2⟩:=hv; exact ⟨ds,h1,fun id hid=>hk _ _ (h2 id hid)⟩
 | store n x v=>obtain ⟨h',h1,h2⟩:=hv; exact ⟨h',h1,hk _ _ h2⟩
 | storeNe n x v ys=>obtain ⟨h0,h',h1,h2⟩:=hv; exact ⟨h0,h',h1,hk _ _ h2⟩
 | conv c x=>
  cases c with
  | eX=>exact ex hv
  | ld=>cases x<;>first | exact hv.elim | exact hk _ _ hv
  | _=>exact ex hv
 | slice k x lo hi mx=>cases x<;>exact ex hv
 | aS sz x i=>cases x<;>exact ex hv
 | len k x=>
  cases k with
  | arr n=>exact hk _ _ hv
  | str=>cases x<;>first | exact hv.elim | exact fun e=>hk _ _ (hv e)
  | sl=>cases x<;>first | exact hv.elim | exact fun e=>hk _ _ (hv e) | exact hk _ _ hv
  | map=>cases x<;>exact hv.elim
 | append sz bytes str s x=>
  obtain ⟨ys,h1,h2,h3,h4⟩:=hv
  refine ⟨ys,h1,h2,h3,?_⟩
  cases s with
  | aZ=>exact ⟨fun e=>hk _ _ (h4.1 e),h4.2.1,fun e id hid=>hk _ _ (h4.2.2 e id hid)⟩
  | row r aY off len=>
   simp only at h4 ⊢
   split at h4
   ·obtain ⟨a1,a2,a3,a4,a5,a6⟩:=h4
    exact ⟨a1,a2,a3,a4,a5,hk _ _ a6⟩
   ·exact h4.elim
  | _=>exact h4.elim
 | makeSlice sz bytes zs l c=>
  cases l with
  | int k l=>cases c with
   | int k' c=>
    obtain ⟨a1,a2,a3,a4,a5,a6⟩:=hv
    exact ⟨a1,a2,a3,a4,a5,fun id hid=>hk _ _ (a6 id hid)⟩
   | _=>exact hv.elim
  | _=>exact hv.elim
 | call f args=>
  simp only [eV] at hv ⊢
  split at hv
  ·exact T.mono _ _ _ _ _ _ _ hk he hv
  ·obtain ⟨h1,L,e1,e2,e3⟩:=hv
   exact ⟨h1,L,e1,e2,T.aks _ _ _ _ _ (fun d h' k hL=>hk _ _ (k hL)) e3⟩
  ·exact hv.elim
 | callR f args=>
  cases f with
  | func fn first cap=>cases fn<;>first | exact hv.elim | exact T.mono _ _ _ _ _ _ _ hk he hv
  | _=>exact hv.elim
 | callNe f args ys=>
  simp only [eV] at hv ⊢
  split at hv
  ·exact T.mono _ _ _ _ _ _ _ (fun d h k=>⟨k.1,hk _ _ k.2⟩) he hv
  ·exact hv.elim
 | appendA sz bytes str s x zs=>
  obtain ⟨h0,ys,h1,h2,h3,h4⟩:=hv
  refine ⟨h0,ys,h1,h2,h3,?_⟩
  cases s with
  | aZ=>exact ⟨h4.1,h4.2.1,fun id hid=>hk _ _ (h4.2.2 id hid)⟩
  | row r aY off len=>
   simp only at h4 ⊢
   split at h4
   ·obtain ⟨a0,a1,a2,a3,a4,a5,a6⟩:=h4
    exact ⟨a0,a1,a2,a3,a4,a5,hk _ _ a6⟩
   ·obtain ⟨a1,a2,a3,a4,a5,a6⟩:=h4
    exact ⟨a1,a2,a3,a4,a5,hk _ _ a6⟩
   ·exact h4.elim
  | _=>exact h4.elim
 | j6 n x v=>obtain ⟨h',h1,h2⟩:=hv; exact ⟨h',h1,hk _ _ h2⟩
 | lA n x v=>
  simp only [eV] at hv ⊢
  split at hv
  ·obtain ⟨h',h1,h2⟩:=hv; exact ⟨h',h1,hk _ _ h2⟩
  ·exact hv.elim
 | qcall f args=>
  simp only [eV] at hv ⊢
  split at hv
  ·obtain ⟨d,e,x⟩:=hv; exact ⟨d,e,hk _ _ x⟩
  ·exact hv.elim
 | panic x=>cases x<;>first | exact hv.elim | exact he _ _ hv
 | tl=>exact hv.elim
 | typeAssert t ok z x=>cases x<;>first | exact hv.elim | exact ⟨hv.1,hk _ _ hv.2⟩
 | makeMap=>exact hv.elim
 | lookup=>exact hv.elim
 | mapUpdate=>exact hv.elim
 | delete=>exact hv.elim
 | defer=>exact hv.elim
 | isNil neg x=>cases x<;>first | exact hv.elim | exact hk _ _ hv | exact ⟨fun e=>hk _ _ (hv.1 e),hk _ _ hv.2⟩
 | pH x=>cases x<;>first | exact hv.elim | exact fun id hid=>hk _ _ (hv id hid)
 | sX x=>
  cases x with
  | iter id=>
   simp only [eV] at hv ⊢
   split at hv
   ·exact ⟨fun e=>hk _ _ (hv.1 e),fun e=>hk _ _ (hv.2 e)⟩
   ·exact hv.elim
  | _=>exact hv.elim
 | kA op x y=>
  simp only [eV] at hv ⊢
  split at hv
  ·refine ⟨hv.1,?_⟩
   have h2:=hv.2
   split at h2
   ·exact hk _ _ h2
   ·exact fun r hr=>hk _ _ (h2 r hr)
  ·exact hv.elim
 | _=>exact ex hv
theorem BL {T:bh} {p:Bool} {i:cf D} {h:aa} {K K' E E':D→aa→Prop} (hk:∀d h,K d h→K' d h) (he:∀d h,E d h→E' d h) (hv:tH T p i h K E):tH T p i h K' E':=by
 cases p with
 | true=>obtain ⟨d,a,b⟩:=hv; exact ⟨d,a,hk _ _ b⟩
 | false=>exact Yv hk he hv
theorem jq {T:bh} {o:fw} {σ:Fr} {h:aa} {K K' E E':D→aa→Prop} (hk:∀d h,K d h→K' d h) (he:∀d h,E d h→E' d h) (hv:mJ T o K E σ h):mJ T o K' E' σ h:=by
 unfold mJ at*
 cases hg:o.g with
 | none=>simp only [hg] at hv; exact BL hk he hv
 | some tw=>
  obtain ⟨t,want⟩:=tw
  simp only [hg] at hv ⊢
  split at hv
  ·exact ⟨fun e=>BL hk he (hv.1 e),fun e=>hk _ _ (hv.2 e)⟩
  ·exact hk _ _ hv
  ·exact hv.elim
theorem uk {T:bh} {o:fw} {σ:Fr} {h:aa} {K K':Fr→aa→Prop} {E E':D→aa→Prop} (hk:∀σ h,K σ h→K' σ h) (he:∀d h,E d h→E' d h) (hv:opA T o K E σ h):opA T o K' E' σ h:=
 r8.2 (jq (fun _ _=>hk _ _) he (r8.1 hv))
theorem tI {T:bh} {os:List fw}:∀{σ:Fr} {h:aa} {K K':Fr→aa→Prop} {E E':Fr→D→aa→Prop} (hk:∀σ h,K σ h→K' σ h) (he:∀σ d h,E σ d h→E' σ d h) (hv:gE T os K E σ h),gE T os K' E' σ h:=by
 induction os with
 | nil=>exact fun hk he hv=>hk _ _ hv
 | cons o os ih=>exact fun hk he hv=>uk (fun _ _ x=>ih hk he x) (he _) hv
structure Cfg where
 rows:List (Nat×Nat)
 ah6:List (Nat×Nat)
 looks:List (Nat×Nat)
 nes:List ((Nat×Nat)×List iC)
 agM:List ((Nat×Nat)×iC)
 news:List (Nat×Nat)
def cf.amq:cf iC→Bool
 | .alloc _ | .box _ | .kA .. | .cQ .. | .oa _ | .load .. | .store .. | .storeNe .. | .append .. | .makeSlice .. | .call .. | .callR .. | .callNe .. | .appendA .. | .lA .. | .j6 .. | .qcall .. | .panic _ | .defer .. | .typeAssert .. | .makeMap | .lookup .. | .mapUpdate .. | .delete .. | .len .. | .isNil .. | .pH _ | .sX _=>false
 | .buildSlice _ _ _ _ r=> !r
 | .conv c _=> !(c==.eX)
 | _=>true
def UH (ops:Array Oper) (o:Oper):Option (Option (Nat×Bool)):=
 match o.guard with
 | none=>some none
 | some (j,want)=>match ops[j]? with
  | some oj=>match oj.dst with
   | some t=>some (some (t,want))
   | none=>none
  | none=>none
def abv (n:Nat) (o:Oper):Bool:=
 match o.dst with
 | some t=>decide (t<n)
 | none=>true
def sK [aT] (P:Program) (n:Nat) (cfg:Cfg) (drawn:Bool) (r:Nat) (ops:Array Oper) (j:Nat):Option fw:=
 match ops[j]? with
 | none=>none
 | some o=>
  if abv n o=true then
   match km P (cfg.rows.contains (r,j)) (!cfg.ah6.contains (r,j)) o,UH ops o with
   | some (.len k x),some g=>if drawn then some ⟨.tl k x,o.dst,g,true⟩ else some ⟨.len k x,o.dst,g,false⟩
   | some (.store k x v),some g=>match cfg.nes.lookup (r,j) with
    | some ys=>some ⟨.storeNe k x v ys,o.dst,g,false⟩
    | none=>if cfg.rows.contains (r,j) then some ⟨.lA k x v,o.dst,g,false⟩ else if cfg.news.contains (r,j) then some ⟨.j6 k x v,o.dst,g,false⟩ else some ⟨.store k x v,o.dst,g,false⟩
   | some (.append sz b st s x),some g=>match cfg.nes.lookup (r,j) with
    | some ys=>some ⟨.appendA sz b st s x ys,o.dst,g,false⟩
    | none=>some ⟨.append sz b st s x,o.dst,g,false⟩
   | some (.load k x),some g=>match cfg.agM.lookup (r,j) with
    | some b=>some ⟨.cQ k x b,o.dst,g,false⟩
    | none=>some ⟨.load k x,o.dst,g,false⟩
   | some (.call (.f k) []),some g=>if cfg.news.contains (r,j) then some ⟨.oa k,o.dst,g,false⟩ else some ⟨.call (.f k) [],o.dst,g,false⟩
   | some (.call f as),some g=>match cfg.nes.lookup (r,j) with
    | some ys=>some ⟨.callNe f as ys,o.dst,g,false⟩
    | none=>some ⟨.call f as,o.dst,g,false⟩
   | some i,some g=>some ⟨i,o.dst,g,i.amq && (drawn || !(match i with | .slice .. | .aS .. =>true | _=>false)) && !cfg.looks.contains (r,j)⟩
   | _,_=>none
  else none
theorem Yu {T:bh} {i:cf D} {d:D} {h:aa} {K E:D→aa→Prop} (hv:ew i=some d) (hk:K d h) (hp:∀k x,i≠.tl k x):eV T i h K E:=by
 have ex:bC i=some d→∃d,bC i=some d∧K d h:=fun e=>⟨d,e,hk⟩
 cases i with
 | pick c a b=>
  cases c with
  | bool c=>
   simp only [ew,Option.some.injEq] at hv
   subst hv
   exact ⟨fun e=>by subst e; exact hk,fun e=>by subst e; exact hk⟩
  | _=>simp [ew] at hv
 | buildSlice sz zs len ps r=>
  cases r with
  | true=>simp [ew] at hv
  | false=>
   simp only [ew,Option.map_eq_some_iff] at hv
   obtain ⟨xs,h1,rfl⟩:=hv
   exact ⟨xs,h1,hk⟩
 | conv c x=>
  cases c with
  | ld=>cases x<;>first | (simp [ew] at hv; done) | (simp only [ew,Option.some.injEq] at hv; subst hv; exact hk)
  | eX=>cases x<;>simp [ew,bC] at hv
  | _=>cases x<;>first | (simp [ew,bC] at hv; done) | exact ex hv
 | tl k x=>exact absurd rfl (hp k x)
 | slice k x lo hi mx=>
  cases x with
  | row r aY off len=> 
   simp only [ew,bC,gH] at hv
   split at hv
   ·cases hv
   ·cases k<;>simp at hv
  | _=>exact ex hv
 | aS sz x i=>cases x<;>first | (simp [ew,bC] at hv; done) | exact ex hv
 | _=>first | exact ex hv | (simp [ew,bC] at hv; done)
end Go.Proofs.YtpklkpkfgmoghaaGreatDoor.Zz
namespace Go.Proofs.YtpklkpkfgmoghaaGreatDoor.Zz
variable {P:Program} {T:bh} {κ:cT} {h:aa} {w:World} {σ:Fr} {n:Nat} {a:Act}
theorem zL [aT] {cfg:Cfg} {dr:Bool} {r j:Nat} {ops:Array Oper} {oi:fw} (hc:sK P n cfg dr r ops j=some oi):
  ∃o i q q',ops[j]? =some o∧(∀t,o.dst=some t→t<n)∧km P q q' o=some i∧UH ops o=some oi.g∧oi.d=o.dst∧
   ((oi.i=i∧(oi.p=true→∀k x,i≠.tl k x))∨(∃k x,i=.len k x∧oi.i=.tl k x∧oi.p=true)∨(∃k x v ys,i=.store k x v∧oi.i=.storeNe k x v ys∧oi.p=false)∨(∃k x b,i=.load k x∧oi.i=.cQ k x b∧oi.p=false)∨(∃k,i=.call (.f k) []∧oi.i=.oa k∧oi.p=false)∨(∃f as ys,i=.call f as∧oi.i=.callNe f as ys∧oi.p=false)∨(∃k x v,i=.store k x v∧oi.i=.lA k x v∧oi.p=false)∨(∃sz b st s x ys,i=.append sz b st s x∧oi.i=.appendA sz b st s x ys∧oi.p=false)∨(∃k x v,i=.store k x v∧oi.i=.j6 k x v∧oi.p=false)):=by
 unfold sK at hc
 split at hc
 ·cases hc
 ·rename_i o ho
  split at hc
  ·rename_i hd
   have yR:∀t,o.dst=some t→t<n:=fun t e=>by simpa [abv,e] using hd
   split at hc
   ·rename_i k x g e1 e2
    split at hc
    ·cases hc; exact ⟨o,_,_,_,ho,yR,e1,e2,rfl,.inr (.inl ⟨k,x,rfl,rfl,rfl⟩)⟩
    ·cases hc; exact ⟨o,_,_,_,ho,yR,e1,e2,rfl,.inl ⟨rfl,fun h=>by cases h⟩⟩
   ·rename_i k x v g e1 e2
    split at hc
    ·rename_i ys _; cases hc; exact ⟨o,_,_,_,ho,yR,e1,e2,rfl,.inr (.inr (.inl ⟨k,x,v,ys,rfl,rfl,rfl⟩))⟩
    ·split at hc
     ·cases hc; exact ⟨o,_,_,_,ho,yR,e1,e2,rfl,.inr (.inr (.inr (.inr (.inr (.inr (.inl ⟨k,x,v,rfl,rfl,rfl⟩))))))⟩
     ·split at hc
      ·cases hc; exact ⟨o,_,_,_,ho,yR,e1,e2,rfl,.inr (.inr (.inr (.inr (.inr (.inr (.inr (.inr ⟨k,x,v,rfl,rfl,rfl⟩)))))))⟩
      ·cases hc; exact ⟨o,_,_,_,ho,yR,e1,e2,rfl,.inl ⟨rfl,fun h=>by cases h⟩⟩
   ·rename_i sz b st s x g e1 e2
    split at hc
    ·rename_i ys _; cases hc; exact ⟨o,_,_,_,ho,yR,e1,e2,rfl,.inr (.inr (.inr (.inr (.inr (.inr (.inr (.inl ⟨sz,b,st,s,x,ys,rfl,rfl,rfl⟩)))))))⟩
    ·cases hc; exact ⟨o,_,_,_,ho,yR,e1,e2,rfl,.inl ⟨rfl,fun h=>by cases h⟩⟩
   ·rename_i k x g e1 e2
    split at hc
    ·rename_i b _; cases hc; exact ⟨o,_,_,_,ho,yR,e1,e2,rfl,.inr (.inr (.inr (.inl ⟨k,x,b,rfl,rfl,rfl⟩)))⟩
    ·cases hc; exact ⟨o,_,_,_,ho,yR,e1,e2,rfl,.inl ⟨rfl,fun h=>by cases h⟩⟩
   ·rename_i k g e1 e2
    split at hc
    ·cases hc; exact ⟨o,_,_,_,ho,yR,e1,e2,rfl,.inr (.inr (.inr (.inr (.inl ⟨k,rfl,rfl,rfl⟩))))⟩
    ·cases hc; exact ⟨o,_,_,_,ho,yR,e1,e2,rfl,.inl ⟨rfl,fun h=>by cases h⟩⟩
   ·rename_i f as g yS e1 e2
    split at hc
    ·rename_i ys _; cases hc; exact ⟨o,_,_,_,ho,yR,e1,e2,rfl,.inr (.inr (.inr (.inr (.inr (.inl ⟨f,as,ys,rfl,rfl,rfl⟩)))))⟩
    ·cases hc; exact ⟨o,_,_,_,ho,yR,e1,e2,rfl,.inl ⟨rfl,fun h=>by cases h⟩⟩
   ·rename_i i g yS aqu aqv aqw aqx aqy e1 e2
    cases hc
    refine ⟨o,i,_,_,ho,yR,e1,e2,rfl,.inl ⟨rfl,fun _ k x e=>?_⟩⟩
    subst e
    exact absurd e1 (by
     generalize cfg.rows.contains (r,j)=q
     generalize (!cfg.ah6.contains (r,j))=q'
     intro e
     unfold km at e
     (repeat' split at e)<;>first | (cases e; done) | (simp only [Option.map_eq_some_iff] at e; obtain ⟨_,_,e⟩:=e; cases e; done))
   ·cases hc
  ·cases hc
theorem RH {k:LK} {x:D} {d:D} {K E:D→aa→Prop} (e:p9 k x=some d) (hk:K d h):eV T (.len k x) h K E:=by
 unfold p9 at e
 split at e<;>first | (cases e; done) | (cases e; simp only [eV]; first | exact hk | exact fun _=>hk)
theorem UD [aT] (hT:T.qe P κ w) {q q':Bool} {o:Oper} {k:FuncId} (hc:km P q q' o=some (.call (.f k) [])) (hi:Inv κ h w) (hp:lf κ w σ n a) {K E:D→aa→Prop} (hv:eV T (.oa k) h K E):fH P κ h w K E ((execOp a.eval o).run P w):=by
 unfold km at hc
 split at hc
 all_goals first
  | (cases hc; done)
  | (simp only [Option.map_eq_some_iff] at hc; obtain ⟨_,_,e⟩:=hc; cases e; done)
  | ((repeat' split at hc)<;>first | (cases hc; done) | (simp only [Option.map_eq_some_iff] at hc; obtain ⟨_,_,e⟩:=hc; cases e; done) | skip)
 all_goals
  rename_i c gU _ f lP _ _ g as e1 e2 _ _
  have hf:a.eval f=.func (.func k) #[] #[]∧c.args.map a.eval= #[]:=by
   simp only [Option.some.injEq,cf.call.injEq] at hc
   obtain ⟨rfl,rfl⟩:=hc
   constructor
   ·cases f with
    | func m=>simp [lz] at e1; subst e1; rfl
    | const v=>
     simp only [lz,Option.map_eq_some_iff] at e1
     obtain ⟨d,_,e⟩:=e1
     cases e
    | tmp t=>simp [lz] at e1
    | global g=>simp only [lz,Option.map_eq_some_iff] at e1; obtain ⟨_,_,e⟩:=e1; cases e
   ·have:=qS e2
    have h0:c.args.toList=[]:=List.length_eq_zero_iff.1 (by simpa using this)
    have:c.args= #[]:=by apply Array.ext'; simpa using h0
    rw [this]; simp
  simp only [execOp,gU,resolve,lP,hf.1,hf.2]
  exact R8 hT hi hv
theorem K3 [aT] {q q':Bool} {o:Oper} {sz lu:Nat} {st:Bool} {s x:iC} {zs:List D} (hc:km P q q' o=some (.append sz lu st s x)) (hi:Inv κ h w) (hp:lf κ w σ n a) {K E:D→aa→Prop} (hv:eV T (.appendA sz lu st (σ.ev s) (σ.ev x) zs) h K E):fH P κ h w K E ((execOp a.eval o).run P w):=by
 unfold km at hc
 split at hc
 all_goals first
  | (cases hc; done)
  | (simp only [Option.map_eq_some_iff] at hc; obtain ⟨_,_,e⟩:=hc; cases e; done)
  | ((repeat' split at hc)<;>first | (cases hc; done) | (simp only [Option.map_eq_some_iff] at hc; obtain ⟨_,_,e⟩:=hc; cases e; done) | skip)
 ·rename_i c gU _ b _ _ s' x' t e1 e2 lP _ _ e t1 t2 e3 e4 _ _ _ _ jy by' z' el f1 f2 f3 f4 mg
  simp only [Option.some.injEq,cf.append.injEq] at hc
  obtain ⟨rfl,rfl,rfl,rfl,rfl⟩:=hc
  obtain ⟨v,u,h1,r1,r2⟩:=uo hp e1
  have hts:c.argTypes= #[t,t2]:=by
   apply Array.ext'
   have:c.argTypes.toList[0]? =some t:=by simpa using e2
   simp [e4] at this
   simp [e4,this]
  have Fm:(execOp a.eval o).run P w=(builtin .append c.argTypes o.type (c.args.map fun x=>match x with | .const _=>true | _=>false) #[v,u]).run P w:=by
   simp only [execOp,gU,Sem.run_bind,resolve,lP,h1]
   rfl
  rw [Fm,hts]
  simp only [builtin]
  exact wc (T:=T) hi (iv e3) f1 f2 f3 mg.1 mg.2 (.inl ⟨rfl,_,f4⟩) r1 r2 hv
 ·rename_i c gU _ b _ _ s' x' t e1 e2 lP _ _ e t1 t2 e3 e4 _ _ _ _ jy by' z' f1 f2 f3 f4 mg
  simp only [Option.some.injEq,cf.append.injEq] at hc
  obtain ⟨rfl,rfl,rfl,rfl,rfl⟩:=hc
  obtain ⟨v,u,h1,r1,r2⟩:=uo hp e1
  have hts:c.argTypes= #[t,t2]:=by
   apply Array.ext'
   have:c.argTypes.toList[0]? =some t:=by simpa using e2
   simp [e4] at this
   simp [e4,this]
  have Fm:(execOp a.eval o).run P w=(builtin .append c.argTypes o.type (c.args.map fun x=>match x with | .const _=>true | _=>false) #[v,u]).run P w:=by
   simp only [execOp,gU,Sem.run_bind,resolve,lP,h1]
   rfl
  rw [Fm,hts]
  simp only [builtin]
  exact wc (T:=T) hi (iv e3) f1 f2 f3 mg.1 (by omega) (.inr ⟨rfl,f4,mg.2⟩) r1 r2 hv
theorem Tm [aT] (hT:T.qe P κ w) {q q':Bool} {o:Oper} {k:Nat} {x v:iC} (hc:km P q q' o=some (.store k x v)) (hi:Inv κ h w) (hp:lf κ w σ n a) {K E:D→aa→Prop} (hv:eV T (.lA k (σ.ev x) (σ.ev v)) h K E):fH P κ h w K E ((execOp a.eval o).run P w):=by
 unfold km at hc
 split at hc
 all_goals first
  | (cases hc; done)
  | (simp only [Option.map_eq_some_iff] at hc; obtain ⟨_,_,e⟩:=hc; cases e; done)
  | ((repeat' split at hc)<;>first | (cases hc; done) | (simp only [Option.map_eq_some_iff] at hc; obtain ⟨_,_,e⟩:=hc; cases e; done) | skip)
 all_goals
  rename_i t xo vo gU _ _ _ _ _ _ y0 u0 e0 e1 e2 e3
  simp only [Option.some.injEq,cf.store.injEq] at hc
  obtain ⟨rfl,rfl,rfl⟩:=hc
  simp only [eV] at hv
  split at hv
  ·rename_i v' h1 Zu
   obtain ⟨h',e4,hk⟩:=hv
   obtain ⟨κ1,i1,Fe,r1⟩:=Ls hi (bG hp e3) Zu
   obtain ⟨w',g1,g2,g3⟩:=pL (P:=P) i1 e1 ((bG hp e2).mono (Fe.le hi)) r1 e4
   simp only [execOp,gU,Sem.run_bind,g1,Result.andThen,Sem.run_pure]
   exact ⟨κ1,h',hk,g2,Fe.trans g3⟩
  ·exact hv.elim
theorem Tn [aT] (hT:T.qe P κ w) {q q':Bool} {o:Oper} {k:Nat} {x v:iC} (hc:km P q q' o=some (.store k x v)) (hi:Inv κ h w) (hp:lf κ w σ n a) {K E:D→aa→Prop} (hv:eV T (.j6 k (σ.ev x) (σ.ev v)) h K E):fH P κ h w K E ((execOp a.eval o).run P w):=by
 unfold km at hc
 split at hc
 all_goals first
  | (cases hc; done)
  | (simp only [Option.map_eq_some_iff] at hc; obtain ⟨_,_,e⟩:=hc; cases e; done)
  | ((repeat' split at hc)<;>first | (cases hc; done) | (simp only [Option.map_eq_some_iff] at hc; obtain ⟨_,_,e⟩:=hc; cases e; done) | skip)
 all_goals
  rename_i t xo vo gU _ _ _ _ _ _ y0 u0 e0 e1 e2 e3
  simp only [Option.some.injEq,cf.store.injEq] at hc
  obtain ⟨rfl,rfl,rfl⟩:=hc
  simp only [eV] at hv
  obtain ⟨h',e4,hk⟩:=hv
  obtain ⟨κ1,i1,Fe,r1⟩:=FH hi (bG hp e3)
  obtain ⟨w',g1,g2,g3⟩:=pL (P:=P) i1 e1 ((bG hp e2).mono (Fe.le hi)) r1 e4
  simp only [execOp,gU,Sem.run_bind,g1,Result.andThen,Sem.run_pure]
  exact ⟨κ1,h',hk,g2,Fe.trans g3⟩
theorem SV [aT] (hT:T.qe P κ w) {cfg:Cfg} {dr:Bool} {r j:Nat} {ops:Array Oper} {oi:fw} (hc:sK P n cfg dr r ops j=some oi) {o:Oper} (ho:ops[j]? =some o) (hi:Inv κ h w) (hp:lf κ w σ n a) {K E:D→aa→Prop} (hv:mJ T oi K E σ h):
  (Region.wanted o (yielded ops a.tmps)=true∧fH P κ h w K E ((execOp a.eval o).run P w))∨(Region.wanted o (yielded ops a.tmps)=false∧K (.tuple []) h):=by
 obtain ⟨o',i,q,q',qI,hd,mI,hg,Vm,Vi⟩:=zL hc
 rw [ho] at qI
 cases qI
 have run:tH T oi.p (oi.i.map σ.ev) h K E→fH P κ h w K E ((execOp a.eval o).run P w):=fun hv=>by
  by_cases pV:∃k,i=.call (.f k) []∧oi.i=.oa k∧oi.p=false
  ·obtain ⟨k,e1,e2,e3⟩:=pV
   rw [e2,e3] at hv
   rw [e1] at mI
   exact UD hT mI hi hp hv
  by_cases ahQ:∃k x v,i=.store k x v∧oi.i=.lA k x v∧oi.p=false
  ·obtain ⟨k,x,v,e1,e2,e3⟩:=ahQ
   rw [e2,e3] at hv
   rw [e1] at mI
   exact Tm hT mI hi hp hv
  by_cases ahR:∃k x v,i=.store k x v∧oi.i=.j6 k x v∧oi.p=false
  ·obtain ⟨k,x,v,e1,e2,e3⟩:=ahR
   rw [e2,e3] at hv
   rw [e1] at mI
   exact Tn hT mI hi hp hv
  by_cases ahs:∃sz b st s x ys,i=.append sz b st s x∧oi.i=.appendA sz b st s x ys∧oi.p=false
  ·obtain ⟨sz,b,st,s,x,ys,e1,e2,e3⟩:=ahs
   rw [e2,e3] at hv
   rw [e1] at mI
   exact K3 (T:=T) mI hi hp hv
  refine SA hT mI hi hp ?_
  rcases Vi with ⟨e1,e2⟩ | ⟨k,x,e1,e2,e3⟩ | ⟨k,x,v,ys,e1,e2,e3⟩ | ⟨k,x,b,e1,e2,e3⟩ | ⟨k,e1,e2,e3⟩ | ⟨f,as,ys,e1,e2,e3⟩ | ⟨k,x,v,e1,e2,e3⟩ | ⟨sz,lu,st,s,x,ys,e1,e2,e3⟩ | ⟨k,x,v,e1,e2,e3⟩
  ·rw [e1] at hv
   cases hpp:oi.p with
   | false=>rw [hpp] at hv; exact hv
   | true=>
    rw [hpp] at hv
    obtain ⟨d,h1,h2⟩:=hv
    refine Yu h1 h2 fun k x e=>?_
    cases i<;>simp only [cf.map] at e<;>first | (cases e; done) | exact e2 hpp _ _ rfl
  ·rw [e2,e3] at hv
   obtain ⟨d,h1,h2⟩:=hv
   rw [e1]
   exact RH h1 h2
  ·rw [e2,e3] at hv
   rw [e1]
   exact hv.2
  ·rw [e2,e3] at hv
   rw [e1]
   obtain ⟨d,h1,h2⟩:=hv
   split at h1
   ·exact ⟨d,h1,h2⟩
   ·cases h1
  ·exact absurd ⟨k,e1,e2,e3⟩ pV
  ·rw [e2,e3] at hv
   rw [e1]
   simp only [tH,cf.map,eV] at hv ⊢
   split at hv
   ·rename_i heq
    rw [heq]
    exact T.mono _ _ _ _ _ _ _ (fun d h k=>k.2) (fun _ _ k=>k) hv
   ·exact hv.elim
  ·exact absurd ⟨k,x,v,e1,e2,e3⟩ ahQ
  ·exact absurd ⟨sz,lu,st,s,x,ys,e1,e2,e3⟩ ahs
  ·exact absurd ⟨k,x,v,e1,e2,e3⟩ ahR
 unfold mJ at hv
 unfold UH at hg
 cases hgu:o.guard with
 | none=>
  rw [hgu] at hg
  simp only [Option.some.injEq] at hg
  rw [←hg] at hv
  exact .inl ⟨by simp [Region.wanted,hgu],run hv⟩
 | some gw=>
  obtain ⟨g,want⟩:=gw
  rw [hgu] at hg
  simp only at hg
  split at hg
  ·rename_i og hog
   split at hg
   ·rename_i t ht
    simp only [Option.some.injEq] at hg
    rw [←hg] at hv
    simp only at hv
    have hy:∀v,a.tmps[t]? =some v→yielded ops a.tmps g=match v with | .bool b=>some b | _=>none:=fun v hv=>by
     simp only [yielded,hog,Option.bind_some,ht,hv]
     cases v<;>rfl
    have rt:=hp.env t
    split at hv
    ·rename_i b hb
     rw [hb] at rt
     have ad7:a.tmps[t]? =some (.bool b):=by
      rw [Array.getD_eq_getD_getElem?] at rt
      cases e:a.tmps[t]? with
      | none=>rw [e] at rt; simp [undef] at rt; cases rt
      | some v=>rw [e] at rt; simp at rt; cases rt; rfl
     have hy':=hy _ ad7
     simp only at hy'
     have hw:Region.wanted o (yielded ops a.tmps)=(b==want):=by
      simp only [Region.wanted,hgu,hy']
      cases b<;>cases want<;>rfl
     by_cases hbw:b=want
     ·exact .inl ⟨by rw [hw]; simp [hbw],run (hv.1 hbw)⟩
     ·exact .inr ⟨by rw [hw]; simp [hbw],hv.2 (by cases b<;>cases want<;>first | rfl | exact absurd rfl hbw)⟩
    ·rename_i hb
     rw [hb] at rt
     have hw:Region.wanted o (yielded ops a.tmps)=false:=by
      have:yielded ops a.tmps g=none:=by
       cases e:a.tmps[t]? with
       | none=>simp only [yielded,hog,Option.bind_some,ht,e]
       | some v=>
        rw [hy _ e]
        rw [Array.getD_eq_getD_getElem?,e] at rt
        simp at rt
        cases rt
        rfl
      simp [Region.wanted,hgu,this]
     exact .inr ⟨hw,hv⟩
    ·exact hv.elim
   ·cases hg
  ·cases hg
def FW (ro:Option Nat):Fence:={ Fence.wide with round:=ro }
theorem yB {ro:Option Nat} {m:Nat}:(FW ro).depth.isSome=true→1≤m:=fun h=>by cases h
theorem Gj {ro:Option Nat} {f:FuncId} {vs:Array Value} {R:Ending→World→Prop} {m:Nat} (c:Calls P f vs w R):CallsIn (FW ro) m P f vs w R:=callsIn_wide.2 c
theorem abf [aT] {ro:Option Nat} {o:Oper} {K E:D→aa→Prop} {next:Act→World→Prop} {Q:Exit→Act→World→Prop} {rr:Result Next}
  (hn:∀κ' h' w' v d,K d h'→cL κ' w' v d→Inv κ' h' w'→Ev κ h w κ' h' w'→next (a.put o.dst v) w')
  (hq:∀κ' h' w' v d,E d h'→cL κ' w' v d→Inv κ' h' w'→Ev κ h w κ' h' w'→Q (.panic [{ v,recovered:=false }]) a w')
  (hu:fH P κ h w K E rr):o.uponIn (FW ro) 0 P a next Q rr:=by
 cases rr with
 | ok nx w'=>
  cases nx with
  | value v=>obtain ⟨κ',h',d,k,r,i,e⟩:=hu; exact hn _ _ _ _ _ k r i e
  | skip=>obtain ⟨κ',h',k,i,e⟩:=hu; exact hn _ _ _ _ _ k (.undef _) i e
  | enter f vs=>
   refine ⟨yB,Gj (Calls.mono hu fun e EB ⟨o',na,jt,k,r,i,ev⟩=>?_)⟩
   cases r with
   | ret r=>exact hn _ _ _ _ _ k r i ev
   | panic r=>exact hq _ _ _ _ _ k r i ev
  | round l f tmps assign body=>
   refine ⟨yB,RoundIn.mono (F:=FW ro) hu fun e EB ⟨o',na,jt,k,r,i,ev⟩=>?_⟩
   cases r with
   | ret r=>exact hn _ _ _ _ _ k r i ev
   | panic r=>exact hq _ _ _ _ _ k r i ev
  | _=>exact hu.elim
 | halt x w'=>
  cases x with
  | panic v=>obtain ⟨κ',h',d,k,r,i,e⟩:=hu; exact hq _ _ _ _ _ k r i e
  | _=>exact hu.elim
def QK [aT] (κ0:cT) (h0:aa) (w0:World) (n:Nat) (K:Ex→Fr→aa→Prop) (E:Fr→D→aa→Prop):Exit→Act→World→Prop
 | .normal,a,w=>∃κ h σ,K .normal σ h∧Inv κ h w∧lf κ w σ n a∧Ev κ0 h0 w0 κ h w
 | .ret,a,w=>∃κ h σ,K .ret σ h∧Inv κ h w∧lf κ w σ n a∧Ev κ0 h0 w0 κ h w
 | .exit id,a,w=>∃κ h σ,K (.exit id) σ h∧Inv κ h w∧lf κ w σ n a∧Ev κ0 h0 w0 κ h w
 | .panic chain,a,w=>∃κ h d v σ,chain=[{ v,recovered:=false }]∧E σ d h∧cL κ w v d∧lf κ w σ n a∧Inv κ h w∧Ev κ0 h0 w0 κ h w
 | _,_,_=>False
theorem B4 [aT] {q q':Bool} {o:Oper} {i:cf iC} (hc:km P q q' o=some i):∀c,o.op≠.defer c:=fun c e=>by
 unfold km at hc
 rw [e] at hc
 cases hc
theorem RE [aT] (hT:T.qe P κ w) {ro:Option Nat} {κ0:cT} {h0:aa} {w0:World} {K:Ex→Fr→aa→Prop} {E:Fr→D→aa→Prop} {cfg:Cfg} {dr:Bool} {r j:Nat} {ops:Array Oper} {oi:fw} (hc:sK P n cfg dr r ops j=some oi) (hi:Inv κ h w) (hp:lf κ w σ n a) (ev:Ev κ0 h0 w0 κ h w)
  {Kn:Fr→aa→Prop} {next:Act→World→Prop} (hv:opA T oi Kn (E σ) σ h)
  (hn:∀κ' h' w' σ' a',Kn σ' h'→Inv κ' h' w'→lf κ' w' σ' n a'→Ev κ0 h0 w0 κ' h' w'→next a' w'):wpOpIn (FW ro) 0 P ops (QK κ0 h0 w0 n K E) j next a w:=by
 obtain ⟨o,i,q,q',ho,hd,hci,_,Vm,_⟩:=zL hc
 have:=SV hT hc ho hi hp (r8.1 hv)
 unfold wpOpIn
 simp only [ho]
 rcases this with ⟨hw,hu⟩ | ⟨hw,hk⟩
 ·rw [if_pos hw]
  unfold Oper.wpIn
  refine ⟨fun _ _=>trivial,?_⟩
  rw [Oper.semAt_eq _ _ _ (B4 hci)]
  refine abf (fun κ' h' w' v d k rr i' e'=>?_) (fun κ' h' w' v d k rr i' e'=>?_) hu
  ·rw [Vm] at k
   exact hn κ' h' w' _ _ k i' ((hp.mono (e'.le hi)).put o.dst hd rr) (ev.trans e')
  ·exact ⟨κ',h',d,v,σ,rfl,k,rr,hp.mono (e'.le hi),i',ev.trans e'⟩
 ·rw [if_neg (by simp [hw])]
  rw [Vm] at hk
  refine ⟨fun _ _=>trivial,hn κ h w _ _ hk hi (hp.put o.dst hd ?_) ev⟩
  exact .tuple rfl fun i d hd=>by simp at hd
theorem vS [aT] {ro:Option Nat} {κ0:cT} {h0:aa} {w0:World} (hT:T.qe P κ0 w0) (u_:Inv κ0 h0 w0) {K:Ex→Fr→aa→Prop} {E:Fr→D→aa→Prop} {cfg:Cfg} {dr:Bool} {r:Nat} {ops:Array Oper} {Kn:Fr→aa→Prop} {l2:List Nat}
  (hk:∀κ' h' w' σ' a',Kn σ' h'→Inv κ' h' w'→lf κ' w' σ' n a'→Ev κ0 h0 w0 κ' h' w'→wpOpsIn (FW ro) 0 P ops (QK κ0 h0 w0 n K E) l2 a' w'):∀(l:List Nat) (os:List fw) (hc:l.mapM (sK P n cfg dr r ops)=some os) (κ:cT) (h:aa) (w:World) (σ:Fr) (a:Act),
  Inv κ h w→lf κ w σ n a→Ev κ0 h0 w0 κ h w→gE T os Kn E σ h→wpOpsIn (FW ro) 0 P ops (QK κ0 h0 w0 n K E) (l++l2) a w
 | [],os,hc,κ,h,w,σ,a,hi,hp,ev,hv=>by
  simp at hc
  subst hc
  exact hk κ h w σ a hv hi hp ev
 | j::l,os,hc,κ,h,w,σ,a,hi,hp,ev,hv=>by
  simp only [List.mapM_cons,Option.bind_eq_bind,Option.bind_eq_some_iff] at hc
  obtain ⟨oi,e1,os',e2,e3⟩:=hc
  cases e3
  rw [List.cons_append,wpOpsIn_cons]
  exact RE (hT.mono (ev.le u_)) e1 hi hp ev hv fun κ' h' w' σ' a' k i' p' e'=>vS hT u_ hk l os' e2 κ' h' w' σ' a' i' p' e' k
end Go.Proofs.YtpklkpkfgmoghaaGreatDoor.Zz
