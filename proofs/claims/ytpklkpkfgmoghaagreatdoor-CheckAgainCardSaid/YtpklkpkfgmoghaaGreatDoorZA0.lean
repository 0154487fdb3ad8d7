/- How expressions, statements and declarations are parsed: the plain answer. -/
import Derived.Test.YtpklkpkfgmoghaaGreatDoorZZH
import Derived.Test.YtpklkpkfgmoghaaGreatDoorZP17
import Derived.KernelRfl
import Derived.Test.YtpklkpkfgmoghaaGreatDoorZA1
set_option linter.unnecessarySimpa false
set_option linter.unusedVariables false
set_option linter.unusedSimpArgs false
namespace Go.Proofs.YtpklkpkfgmoghaaGreatDoor.Zz
noncomputable section
def Nd.bN (n:Nd) (l:List Nd):Nd:=match n with
 | .mk k t s m _=>.mk k t s m l
def Nd.cu:Nd→List Nd
 | .mk _ _ _ _ l=>l
def Nd.ea (n x:Nd):Nd:=match n with
 | .mk k t s m l=>.mk k t s m (l++[x])
def Nd.WE (n:Nd) (t:Int):Nd:=match n with
 | .mk k _ s m l=>.mk k t s m l
structure fg where
 expr:Int→PS→PR Nd
 unary:PS→PR Nd
 call:List UInt8→PS→PR Nd
 block:PS→PR Nd
 stmt:PS→PR Nd
 branch:PS→PR Nd
variable {α β:Type} (l:List Tok) (g:fg)
def nh (body:PS→PR α) (s:PS):PR α:=(pIn l s).bind fun _ s=>Mc (body s)
def wu (least:Int):Nat→Nd→PS→PR Nd
 | 0,_,_=>.out
 | j+1,n,s=>bif (fe l s).1 != 5 || decide (gZ (fe l s).2.1≤least) then .ok n s
  else (g.expr (gZ (fe l s).2.1) (di s)).bind fun r s'=>(eJ l (.mk 26 0 (fe l s).2.1 0 [n,r]) s').bind fun n s=>wu least j n s
def CJ (least:Int):PS→PR Nd:=nh l fun s=>(g.unary s).bind fun n s=>wu l g least (l.length+1) n s
def Z4 (x:List UInt8):PS→PR Nd:=nh l fun s=>(g.unary s).bind fun n s=>eJ l (.mk 25 0 x 0 [n]) s
def sR (t:Int) (s:PS):PR Nd:=(gP l [40] s).bind fun _ s=>(g.expr 0 s).bind fun n s=>(eJ l (.mk 27 t [] 0 [n]) s).bind fun n s=>(gP l [41] s).bind fun _ s=>.ok n s
def rM (s:PS):PR Nd:=
 (eC l [45] s).bind fun b s=>bif b then Z4 l g [45] s else
 (eC l [33] s).bind fun b s=>bif b then Z4 l g [33] s else
 (nS l s).bind fun x s=>bif x.2 then .ok x.1 s else
 (eC l pS s).bind fun b s=>bif b then sR l g 1 s else
 (eC l ib s).bind fun b s=>bif b then sR l g 2 s else
 (eC l [40] s).bind fun b s=>bif b then (g.expr 0 s).bind fun n s=>(gP l [41] s).bind fun _ s=>.ok n s else
 (ko l s).bind fun x s=>bif oK l [40] s then g.call x s else eJ l (.mk 23 0 x 0 []) s
def sJ:Nat→Nd→PS→PR Nd
 | 0,_,_=>.out
 | j+1,n,s=>(eC l [41] s).bind fun b s=>bif b then .ok n s else
  (bif decide (n.cu.length>0) then gP l [44] s else .ok () s).bind fun _ s=>
  bif decide (n.cu.length≥6) then jX l 3 s else (g.expr 0 s).bind fun x s=>sJ j (n.ea x) s
def Cy (x:List UInt8):PS→PR Nd:=nh l fun s=>(eJ l (.mk 24 0 x 0 []) s).bind fun n s=>(gP l [40] s).bind fun _ s=>sJ l g (l.length+1) n s
def nN:Nat→Nd→PS→PR Nd
 | 0,_,_=>.out
 | j+1,n,s=>(eC l [125] s).bind fun b s=>bif b then .ok n s else
  bif decide (n.cu.length≥32) then jX l 3 s else (g.stmt s).bind fun x s=>nN j (n.ea x) s
def vm:PS→PR Nd:=nh l fun s=>(gP l [123] s).bind fun _ s=>(eJ l (.mk 6 0 [] 0 []) s).bind fun n s=>nN l g (l.length+1) n s
def jY (k:Int) (x:List UInt8) (s:PS):PR Nd:=(eJ l (.mk k 0 x 0 []) s).bind fun n s=>(g.expr 0 s).bind fun e s=>(gP l [59] s).bind fun _ s=>.ok (n.bN [e]) s
def KO:List UInt8:=[105,102]
def KF:List UInt8:=[102,111,114]
def nI:List UInt8:=[114,101,116,117,114,110]
def nG:List UInt8:=[97,115,115,101,114,116]
def EC:List UInt8:=[115,107,105,112]
def nH:List UInt8:=[101,108,115,101]
def xh (s:PS):PR Nd:=
 (eC l KO s).bind fun b s=>bif b then g.branch s else
 (eC l KF s).bind fun b s=>bif b then (eJ l (.mk 10 0 [] 0 []) s).bind fun n s=>(g.expr 0 s).bind fun e s=>(g.block s).bind fun b s=>.ok (n.bN [e,b]) s else
 (eC l nI s).bind fun b s=>bif b then jY l g 11 [] s else
 (eC l nG s).bind fun b s=>bif b then jY l g 12 [] s else
 (eC l EC s).bind fun b s=>bif b then (gP l [59] s).bind fun _ s=>eJ l (.mk 14 0 [] 0 []) s else
 (ko l s).bind fun x s=>
 (eC l [58,61] s).bind fun b s=>bif b then jY l g 7 x s else
 (eC l [61] s).bind fun b s=>bif b then jY l g 8 x s else
 (eJ l (.mk 13 0 [] 0 []) s).bind fun n s=>(g.call x s).bind fun c s=>(gP l [59] s).bind fun _ s=>.ok (n.bN [c]) s
def rS:PS→PR Nd:=nh l fun s=>(eJ l (.mk 9 0 [] 0 []) s).bind fun n s=>(g.expr 0 s).bind fun e s=>(g.block s).bind fun b s=>
 (eC l nH s).bind fun t s=>bif !t then .ok (n.bN [e,b]) s else
 (eC l KO s).bind fun t s=>bif t then (eJ l (.mk 6 0 [] 0 []) s).bind fun m s=>(g.branch s).bind fun x s=>.ok ((n.bN [e,b]).ea (m.bN [x])) s
 else (g.block s).bind fun b2 s=>.ok ((n.bN [e,b]).ea b2) s
def qg:Nat→fg
 | 0=>⟨fun _ _=>.out,fun _=>.out,fun _ _=>.out,fun _=>.out,fun _=>.out,fun _=>.out⟩
 | f+1=>⟨CJ l (qg f),rM l (qg f),Cy l (qg f),vm l (qg f),xh l (qg f),rS l (qg f)⟩
def mR:List UInt8:=[118,97,114]
def u5:List UInt8:=[116,101,115,116]
def uZ:List UInt8:=[102,117,110,99]
def nT:Nat→Nd→PS→PR Nd
 | 0,_,_=>.out
 | j+1,n,s=>(eC l [41] s).bind fun b s=>bif b then .ok n s else
  (bif decide (n.cu.length>0) then gP l [44] s else .ok () s).bind fun _ s=>
  bif decide (n.cu.length≥6) then jX l 3 s else
  (ko l s).bind fun x s=>(sH l s).bind fun t s=>(eJ l (.mk 5 t x 0 []) s).bind fun m s=>nT j (n.ea m) s
def qA (s:PS):PR Nd:=
 (eC l mR s).bind fun b s=>bif b then (ko l s).bind fun x s=>(sH l s).bind fun t s=>(eJ l (.mk 2 t x 0 []) s).bind fun n s=>(gP l [61] s).bind fun _ s=>(FF l s).bind fun v s=>(gP l [59] s).bind fun _ s=>.ok (n.bN [v]) s else
 (eC l u5 s).bind fun b s=>bif b then (ko l s).bind fun x s=>(eJ l (.mk 4 0 x 0 []) s).bind fun n s=>(g.block s).bind fun b s=>.ok (n.bN [b]) s else
 (gP l uZ s).bind fun _ s=>(ko l s).bind fun x s=>(eJ l (.mk 3 0 x 0 []) s).bind fun n s=>(gP l [40] s).bind fun _ s=>
 (nT l (l.length+1) n s).bind fun n s=>(sH l s).bind fun t s=>(g.block s).bind fun b s=>.ok ((n.WE t).ea b) s
def sV:Nat→Int→Int→Nd→PS→PR Nd
 | 0,_,_,_,_=>.out
 | j+1,fs,gs,n,s=>bif (fe l s).1 != 0 then
   (let gs':=bif oK l mR s then gs+1 else gs
    let fs':=bif oK l mR s then fs else fs+1
    bif decide (gs'>16) || decide (fs'>32) then jX l 3 s else (qA l g s).bind fun d s=>sV j fs' gs' (n.ea d) s)
  else .ok n s
def A5 (s:PS):PR Nd:=(eJ l (.mk 1 0 [] 0 []) s).bind fun n s=>sV l g (l.length+1) 0 0 n s
def mu (f:Nat) (x:List UInt8):Option (Nd×Int×Int):=
 if (tokens x).2.2=0 then
  match A5 (tokens x).1 (qg (tokens x).1 f) ⟨0,0,0⟩ with
  | .ok n _=>some (n,0,0)
  | .fail a e=>some (.mk 0 0 [] 0 [],a,e)
  | .out=>none
 else some (.mk 0 0 [] 0 [],(tokens x).2.1,(tokens x).2.2)
end
section
variable {α β:Type}
def keeps (r:PR α) (d:Int):Prop:=∀x s,r=.ok x s→s.deep=d
theorem cW {x:α} {s:PS} {d:Int} (h:s.deep=d):keeps (.ok x s) d:=fun y s' e=>by cases e; exact h
theorem hY {a e d:Int}:keeps (.fail a e:PR α) d:=fun y s' e=>by cases e
theorem fU {d:Int}:keeps (.out:PR α) d:=fun y s' e=>by cases e
theorem a_ {r:PR α} {k:α→PS→PR β} {d d':Int} (h:keeps r d) (hk:∀x s,s.deep=d→keeps (k x s) d'):keeps (r.bind k) d':=by
 cases r with
 | ok x s=>exact hk x s (h x s rfl)
 | fail=>exact hY
 | out=>exact fU
theorem bB {c:Bool} {r r':PR α} {d:Int} (h:keeps r d) (h':keeps r' d):keeps (bif c then r else r') d:=by cases c<;>assumption
variable {l:List Tok} {g:fg}
theorem qK {e:Int} {s:PS} {d:Int}:keeps (jX l e s:PR α) d:=hY
theorem bV {x:List UInt8} {s:PS}:keeps (eC l x s) s.deep:=bB (cW rfl) (cW rfl)
theorem dN {x:List UInt8} {s:PS}:keeps (gP l x s) s.deep:=bB (cW rfl) hY
theorem jI {s:PS}:keeps (ko l s) s.deep:=bB (cW rfl) hY
theorem py {s:PS}:keeps (sH l s) s.deep:=bB (cW rfl) (bB (cW rfl) (bB (cW rfl) hY))
theorem cF {n:Nd} {s:PS}:keeps (eJ l n s) s.deep:=by
 unfold eJ
 split
 ·exact hY
 ·exact cW rfl
theorem iZ {s:PS}:keeps (nS l s) s.deep:=by
 have hgo:∀n:Nd,keeps ((eJ l n (di s)).bind fun n s=>.ok (n,true) s) s.deep:=fun n=>a_ cF fun x s' e=>cW e
 unfold nS
 exact bB (hgo _) (bB (hgo _) (bB (hgo _) (bB (hgo _) (cW rfl))))
theorem px {s:PS}:keeps (FF l s) s.deep:=by
 unfold FF
 refine a_ bV fun mi cM e1=>a_ (d:=cM.deep) iZ fun x ff e2=>bB qK (cW ?_)
 rw [e2,e1]
theorem kX {body:PS→PR α} {s:PS} (h:∀s',keeps (body s') s'.deep):keeps (nh l body s) s.deep:=by
 unfold nh pIn
 split
 ·exact hY
 ·refine a_ (d:=s.deep+1) (cW rfl) fun _ cM e1=>a_ (h cM) fun x s' e=>cW ?_
  rw [e,e1]; simp only; omega
structure qh (g:fg):Prop where
 expr:∀k s,keeps (g.expr k s) s.deep
 unary:∀s,keeps (g.unary s) s.deep
 call:∀x s,keeps (g.call x s) s.deep
 block:∀s,keeps (g.block s) s.deep
 stmt:∀s,keeps (g.stmt s) s.deep
 branch:∀s,keeps (g.branch s) s.deep
theorem bp {r:PR α} {s:PS} {d:Int} (e:s.deep=d) (h:keeps r s.deep):keeps r d:=e▸h
variable (hg:qh g)
include hg
theorem wM {k:Int}:∀(j:Nat) (n:Nd) (s:PS) (d:Int),s.deep=d→keeps (wu l g k j n s) d
 | 0,n,s,d,e=>fU
 | j+1,n,s,d,e=>by
  unfold wu
  refine bB (cW e) (a_ (d:=d) (bp (s:=di s) e (hg.expr _ _)) fun r cM e1=>a_ (d:=d) (bp e1 cF) fun n ff e2=>wM j n ff d e2)
theorem wL:∀(j:Nat) (n:Nd) (s:PS) (d:Int),s.deep=d→keeps (sJ l g j n s) d
 | 0,n,s,d,e=>fU
 | j+1,n,s,d,e=>by
  unfold sJ
  refine a_ (d:=d) (bp e bV) fun b cM e1=>bB (cW e1) (a_ (d:=d) (bB (bp e1 dN) (cW e1)) fun _ ff e2=>bB qK (a_ (d:=d) (bp e2 (hg.expr _ _)) fun x fP e3=>wL j _ fP d e3))
theorem ui:∀(j:Nat) (n:Nd) (s:PS) (d:Int),s.deep=d→keeps (nN l g j n s) d
 | 0,n,s,d,e=>fU
 | j+1,n,s,d,e=>by
  unfold nN
  refine a_ (d:=d) (bp e bV) fun b cM e1=>bB (cW e1) (bB qK (a_ (d:=d) (bp e1 (hg.stmt _)) fun x fP e3=>ui j _ fP d e3))
theorem kH {k:Int} {x:List UInt8} {s:PS}:keeps (jY l g k x s) s.deep:=by
 unfold jY
 generalize hd:s.deep=d
 repeat' first
  | exact hY
  | exact fU
  | exact cW (by first | rfl | assumption)
  | refine bB ?_ ?_
  | refine a_ (d:=d) (bp (by first | rfl | assumption) (by first | exact bV | exact dN | exact jI | exact py | exact cF | exact iZ | exact px | exact hg.expr _ _ | exact hg.unary _ | exact hg.call _ _ | exact hg.block _ | exact hg.stmt _ | exact hg.branch _)) fun _ _ _=>?_
  | exact bp (by first | rfl | assumption) (by first | exact bV | exact dN | exact jI | exact py | exact cF | exact iZ | exact px | exact hg.expr _ _ | exact hg.unary _ | exact hg.call _ _ | exact hg.block _ | exact hg.stmt _ | exact hg.branch _)
  | (refine a_ (d:=d) (bB (bp (by first | rfl | assumption) dN) (cW (by first | rfl | assumption))) fun _ _ _=>?_)
theorem wN {t:Int} {s:PS}:keeps (sR l g t s) s.deep:=by
 unfold sR
 generalize hd:s.deep=d
 repeat' first
  | exact hY
  | exact fU
  | exact cW (by first | rfl | assumption)
  | refine bB ?_ ?_
  | refine a_ (d:=d) (bp (by first | rfl | assumption) (by first | exact bV | exact dN | exact jI | exact py | exact cF | exact iZ | exact px | exact hg.expr _ _ | exact hg.unary _ | exact hg.call _ _ | exact hg.block _ | exact hg.stmt _ | exact hg.branch _)) fun _ _ _=>?_
  | exact bp (by first | rfl | assumption) (by first | exact bV | exact dN | exact jI | exact py | exact cF | exact iZ | exact px | exact hg.expr _ _ | exact hg.unary _ | exact hg.call _ _ | exact hg.block _ | exact hg.stmt _ | exact hg.branch _)
  | (refine a_ (d:=d) (bB (bp (by first | rfl | assumption) dN) (cW (by first | rfl | assumption))) fun _ _ _=>?_)
theorem Dn {x:List UInt8} {s:PS}:keeps (Z4 l g x s) s.deep:=kX fun s'=>a_ (hg.unary s') fun n ff e2=>bp e2 cF
theorem LX:qh ⟨CJ l g,rM l g,Cy l g,vm l g,xh l g,rS l g⟩ where
 expr k s:=kX fun s'=>a_ (hg.unary s') fun n ff e2=>wM hg _ _ _ _ e2
 unary s:=by
  show keeps (rM l g s) s.deep
  unfold rM
  refine a_ bV fun b cM e1=>bB (bp e1 (Dn hg)) (a_ (bp e1 bV) fun b ff e2=>bB (bp e2 (Dn hg)) (a_ (bp e2 iZ) fun x fP e3=>bB (cW e3)
   (a_ (bp e3 bV) fun b pY e4=>bB (bp e4 (wN hg)) (a_ (bp e4 bV) fun b BV e5=>bB (bp e5 (wN hg)) (a_ (bp e5 bV) fun b Be e6=>bB
    (a_ (bp e6 (hg.expr _ _)) fun n Gg e7=>a_ (bp e7 dN) fun _ s8p e8=>cW e8)
    (a_ (bp e6 jI) fun x Gg e7=>bB (bp e7 (hg.call _ _)) (bp e7 cF)))))))
 call x s:=kX fun s'=>a_ cF fun n ff e2=>a_ (bp e2 dN) fun _ fP e3=>wL hg _ _ _ _ e3
 block s:=kX fun s'=>a_ dN fun _ ff e2=>a_ (bp e2 cF) fun _ fP e3=>ui hg _ _ _ _ e3
 stmt s:=by
  show keeps (xh l g s) s.deep
  unfold xh
  refine a_ bV fun b cM e1=>bB (bp e1 (hg.branch _)) (a_ (bp e1 bV) fun b ff e2=>bB
   (a_ (bp e2 cF) fun n fP e3=>a_ (bp e3 (hg.expr _ _)) fun e pY e4=>a_ (bp e4 (hg.block _)) fun b BV e5=>cW e5)
   (a_ (bp e2 bV) fun b fP e3=>bB (bp e3 (kH hg)) (a_ (bp e3 bV) fun b pY e4=>bB (bp e4 (kH hg))
    (a_ (bp e4 bV) fun b BV e5=>bB (a_ (bp e5 dN) fun _ Be e6=>bp e6 cF)
     (a_ (bp e5 jI) fun x Be e6=>a_ (bp e6 bV) fun b Gg e7=>bB (bp e7 (kH hg)) (a_ (bp e7 bV) fun b s8p e8=>bB (bp e8 (kH hg))
      (a_ (bp e8 cF) fun n s9p e9=>a_ (bp e9 (hg.call _ _)) fun c t1 f1=>a_ (bp f1 dN) fun _ t2 f2=>cW f2)))))))
 branch s:=kX fun s'=>a_ cF fun n ff e2=>a_ (bp e2 (hg.expr _ _)) fun e fP e3=>a_ (bp e3 (hg.block _)) fun b pY e4=>a_ (bp e4 bV) fun t BV e5=>bB (cW e5)
  (a_ (bp e5 bV) fun t Be e6=>bB (a_ (bp e6 cF) fun m Gg e7=>a_ (bp e7 (hg.branch _)) fun x s8p e8=>cW e8) (a_ (bp e6 (hg.block _)) fun b2 Gg e7=>cW e7))
omit hg
theorem vN (l:List Tok):∀f,qh (qg l f)
 | 0=>⟨fun _ _=>fU,fun _=>fU,fun _ _=>fU,fun _=>fU,fun _=>fU,fun _=>fU⟩
 | f+1=>LX (vN l f)
end
end Go.Proofs.YtpklkpkfgmoghaaGreatDoor.Zz
namespace Go.Proofs.YtpklkpkfgmoghaaGreatDoor.Zz
noncomputable section
abbrev Wd:=Int×List UInt8
abbrev SR (α:Type):=Option (α×List Wd×Int)
section
variable {α β:Type}
def lB (l:List Tok):List Wd:=l.map fun t=>(t.1,t.2.1)
def vw (l:List Tok) (s:PS):List Wd:=lB (l.drop s.pos.toNat)
theorem BM (l:List Tok) (s:PS):(vw l s).length≤l.length:=by simp [vw,lB]
theorem MR {l:List Tok} {s:PS} (h:vw l s=[]):fe l s=(0,[],0):=by
 simp only [vw,lB,List.map_eq_nil_iff,List.drop_eq_nil_iff] at h
 simp [fe,h]
theorem zd {l:List Tok} {s:PS} {k:Int} {w:List UInt8} {r:List Wd} (hp:0≤s.pos) (h:vw l s=(k,w)::r):(fe l s).1=k∧(fe l s).2.1=w∧vw l (di s)=r:=by
 simp only [vw,lB] at h
 cases e:l.drop s.pos.toNat with
 | nil=>rw [e] at h; cases h
 | cons t q=>
  rw [e] at h
  simp only [List.map_cons,List.cons.injEq,Prod.mk.injEq] at h
  have e1:l.getD s.pos.toNat (0,[],0)=t:=by
   have:=congrArg (fun l:List Tok=>l[0]?) e
   simp only [List.getElem?_drop,Nat.add_zero,List.getElem?_cons_zero] at this
   rw [List.getD_eq_getElem?_getD,this]; rfl
  have e2:l.drop (s.pos.toNat+1)=q:=by
   rw [←List.drop_drop,e]; rfl
  refine ⟨by rw [fe,e1]; exact h.1.1,by rw [fe,e1]; exact h.1.2,?_⟩
  have e3:(s.pos+1).toNat=s.pos.toNat+1:=by omega
  simp only [vw,di,e3,e2,lB]
  exact h.2
def Rel (l:List Tok) (r:PR α) (q:SR α) (d:Int):Prop:=∀x ws m,q=some (x,ws,m)→∃s':PS,r=.ok x s'∧vw l s'=ws∧s'.dI=m∧s'.deep=d∧0≤s'.pos
theorem Rel.none {l:List Tok} {r:PR α} {d:Int}:Rel l r none d:=fun _ _ _ e=>by cases e
theorem Rel.ok {l:List Tok} {x:α} {s:PS} {d:Int} (h1:s.deep=d) (h2:0≤s.pos):Rel l (.ok x s) (some (x,vw l s,s.dI)) d:=fun y ws m e=>by
 cases e; exact ⟨s,rfl,rfl,rfl,h1,h2⟩
theorem Rel.sE {l:List Tok} {x:α} {s:PS} {d:Int} {ws:List Wd} (h1:s.deep=d) (h2:0≤s.pos) (h3:vw l s=ws):Rel l (.ok x s) (some (x,ws,s.dI)) d:=fun y ws m e=>by
 cases e; exact ⟨s,rfl,h3,rfl,h1,h2⟩
theorem Rel.bind {l:List Tok} {r:PR α} {q:SR α} {k:α→PS→PR β} {kk:α×List Wd×Int→SR β} {d d':Int} (h:Rel l r q d) (hk:∀x s',s'.deep=d→0≤s'.pos→Rel l (k x s') (kk (x,vw l s',s'.dI)) d'):Rel l (r.bind k) (q.bind kk) d':=fun z ws m e=>by
 cases hq:q with
 | none=>rw [hq] at e; cases e
 | some y=>
  obtain ⟨x,w1,m1⟩:=y
  obtain ⟨cM,rfl,rfl,rfl,a,b⟩:=h x w1 m1 hq
  rw [hq] at e
  exact hk x cM a b z ws m e
theorem Rel.cond {l:List Tok} {c:Bool} {r r':PR α} {q q':SR α} {d:Int} (h:Rel l r q d) (h':Rel l r' q' d):Rel l (bif c then r else r') (bif c then q else q') d:=by cases c<;>assumption
def mB (x:List UInt8):List Wd→Bool
 | []=>false
 | (k,w)::_=>w==x && (k==5 || k==4)
theorem rm {l:List Tok} {s:PS} {x:List UInt8} (hp:0≤s.pos):oK l x s=mB x (vw l s):=by
 cases e:vw l s with
 | nil=>simp [oK,MR e,mB]
 | cons t r=>
  obtain ⟨k,w⟩:=t
  obtain ⟨a,b,_⟩:=zd hp e
  simp [oK,a,b,mB]
theorem su {l:List Tok} {s:PS} (hp:0≤s.pos):vw l (di s)=(vw l s).tail:=by
 cases e:vw l s with
 | nil=>
  have e3:(s.pos+1).toNat=s.pos.toNat+1:=by omega
  simp only [vw,lB,List.map_eq_nil_iff,List.drop_eq_nil_iff] at e
  simp only [vw,lB,di,e3,List.tail_nil,List.map_eq_nil_iff,List.drop_eq_nil_iff]
  omega
 | cons t r=>
  obtain ⟨k,w⟩:=t
  exact (zd hp e).2.2
def g_ (x:List UInt8) (ws:List Wd) (m:Int):SR Bool:=bif mB x ws then some (true,ws.tail,m) else some (false,ws,m)
theorem ep {l:List Tok} {s:PS} {x:List UInt8} {d:Int} (hp:0≤s.pos) (hd:s.deep=d):Rel l (eC l x s) (g_ x (vw l s) s.dI) d:=by
 unfold eC g_
 rw [rm hp]
 exact Rel.cond (Rel.sE (s:=di s) hd (by simp only [di]; omega) (su hp)) (Rel.ok hd hp)
def kt (x:List UInt8) (ws:List Wd) (m:Int):SR Unit:=bif mB x ws then some ((),ws.tail,m) else none
theorem gj {l:List Tok} {s:PS} {x:List UInt8} {d:Int} (hp:0≤s.pos) (hd:s.deep=d):Rel l (gP l x s) (kt x (vw l s) s.dI) d:=by
 unfold gP kt
 rw [rm hp]
 exact Rel.cond (Rel.sE (s:=di s) hd (by simp only [di]; omega) (su hp)) Rel.none
def pZ:List Wd→Int
 | []=>0
 | t::_=>t.1
def p3:List Wd→List UInt8
 | []=>[]
 | t::_=>t.2
theorem uE {l:List Tok} {s:PS} (hp:0≤s.pos):(fe l s).1=pZ (vw l s):=by
 cases e:vw l s with
 | nil=>rw [MR e]; rfl
 | cons t r=>obtain ⟨k,w⟩:=t; exact (zd hp e).1
theorem Bo {l:List Tok} {s:PS} (hp:0≤s.pos):(fe l s).2.1=p3 (vw l s):=by
 cases e:vw l s with
 | nil=>rw [MR e]; rfl
 | cons t r=>obtain ⟨k,w⟩:=t; exact (zd hp e).2.1
def uF (ws:List Wd) (m:Int):SR (List UInt8):=bif pZ ws==1 then some (p3 ws,ws.tail,m) else none
theorem oY {l:List Tok} {s:PS} {d:Int} (hp:0≤s.pos) (hd:s.deep=d):Rel l (ko l s) (uF (vw l s) s.dI) d:=by
 unfold ko uF
 rw [uE hp,Bo hp]
 exact Rel.cond (Rel.sE (s:=di s) hd (by simp only [di]; omega) (su hp)) Rel.none
def Mt (ws:List Wd) (m:Int):SR Int:=bif mB pS ws then some (1,ws.tail,m) else bif mB ib ws then some (2,ws.tail,m) else bif mB BN ws then some (3,ws.tail,m) else none
theorem FM {l:List Tok} {s:PS} {d:Int} (hp:0≤s.pos) (hd:s.deep=d):Rel l (sH l s) (Mt (vw l s) s.dI) d:=by
 have h:∀x:Int,Rel l (.ok x (di s)) (some (x,(vw l s).tail,s.dI)) d:=fun x=>Rel.sE (s:=di s) hd (by simp only [di]; omega) (su hp)
 unfold sH Mt
 rw [rm hp,rm hp,rm hp]
 exact Rel.cond (h _) (Rel.cond (h _) (Rel.cond (h _) Rel.none))
def jb (n:Nd) (ws:List Wd) (m:Int):SR Nd:=if m+1>2000 then none else some (n,ws,m+1)
theorem eP {l:List Tok} {s:PS} {n:Nd} {d:Int} (hp:0≤s.pos) (hd:s.deep=d):Rel l (eJ l n s) (jb n (vw l s) s.dI) d:=by
 unfold eJ jb
 split
 ·exact Rel.none
 ·exact Rel.sE (s:={ s with dI:=s.dI+1 }) hd hp rfl
def xe (body:Int→List Wd→Int→SR α) (d:Int) (ws:List Wd) (m:Int):SR α:=if d+1>40 then none else body (d+1) ws m
theorem rk {l:List Tok} {s:PS} {body:PS→PR α} {sb:Int→List Wd→Int→SR α} {d:Int} (hp:0≤s.pos) (hd:s.deep=d) (h:∀s',s'.deep=d+1→0≤s'.pos→Rel l (body s') (sb (d+1) (vw l s') s'.dI) (d+1)):Rel l (nh l body s) (xe sb d (vw l s) s.dI) d:=by
 unfold nh xe pIn
 subst hd
 split
 ·exact Rel.none
 ·intro x ws m e
  obtain ⟨cM,e1,e2,e3,e4,e5⟩:=h { s with deep:=s.deep+1 } rfl hp x ws m e
  refine ⟨{ cM with deep:=cM.deep - 1 },?_,e2,e3,by simp only; omega,e5⟩
  show Mc (body _)=_
  rw [e1]; rfl
def xg (n:Nd) (ws:List Wd) (m:Int):SR (Nd×Bool):=(jb n ws.tail m).bind fun y=>some ((y.1,true),y.2.1,y.2.2)
def jZ (ws:List Wd) (m:Int):SR (Nd×Bool):=
 bif pZ ws==2 then xg (.mk 20 0 [] (fG (p3 ws):Nat) []) ws m
 else bif pZ ws==3 then xg (lv (p3 ws)) ws m
 else bif mB rO ws then xg (.mk 22 0 [] 1 []) ws m
 else bif mB mH ws then xg (.mk 22 0 [] 0 []) ws m
 else some ((.mk 0 0 [] 0 [],false),ws,m)
theorem D4 {l:List Tok} {s:PS} {d:Int} (hp:0≤s.pos) (hd:s.deep=d):Rel l (nS l s) (jZ (vw l s) s.dI) d:=by
 have h:∀n:Nd,Rel l ((eJ l n (di s)).bind fun n s=>.ok (n,true) s) (xg n (vw l s) s.dI) d:=fun n=>by
  unfold xg
  have h1:=eP (l:=l) (s:=di s) (n:=n) (d:=d) (by simp only [di]; omega) hd
  rw [su hp] at h1
  exact Rel.bind h1 fun x s' a b=>Rel.ok a b
 unfold nS jZ
 simp only [rm hp,uE hp,Bo hp]
 exact Rel.cond (h _) (Rel.cond (h _) (Rel.cond (h _) (Rel.cond (h _) (Rel.ok hd hp))))
end
structure ve where
 expr:Int→Int→List Wd→Int→SR Nd
 unary:Int→List Wd→Int→SR Nd
 call:List UInt8→Int→List Wd→Int→SR Nd
 block:Int→List Wd→Int→SR Nd
 stmt:Int→List Wd→Int→SR Nd
 branch:Int→List Wd→Int→SR Nd
section
variable (g:ve)
def pD (least d:Int):Nat→Nd→List Wd→Int→SR Nd
 | 0,_,_,_=>none
 | j+1,n,ws,m=>bif pZ ws != 5 || decide (gZ (p3 ws)≤least) then some (n,ws,m)
  else (g.expr (gZ (p3 ws)) d ws.tail m).bind fun y=>(jb (.mk 26 0 (p3 ws) 0 [n,y.1]) y.2.1 y.2.2).bind fun z=>pD least d j z.1 z.2.1 z.2.2
def DZ (least:Int):Int→List Wd→Int→SR Nd:=xe fun d ws m=>(g.unary d ws m).bind fun y=>pD g least d (y.2.1.length+1) y.1 y.2.1 y.2.2
def sUn (x:List UInt8):Int→List Wd→Int→SR Nd:=xe fun d ws m=>(g.unary d ws m).bind fun y=>jb (.mk 25 0 x 0 [y.1]) y.2.1 y.2.2
def DY (t:Int) (d:Int) (ws:List Wd) (m:Int):SR Nd:=(kt [40] ws m).bind fun y=>(g.expr 0 d y.2.1 y.2.2).bind fun y=>(jb (.mk 27 t [] 0 [y.1]) y.2.1 y.2.2).bind fun z=>(kt [41] z.2.1 z.2.2).bind fun y=>some (z.1,y.2.1,y.2.2)
def kE (d:Int) (ws:List Wd) (m:Int):SR Nd:=
 (g_ [45] ws m).bind fun y=>bif y.1 then sUn g [45] d y.2.1 y.2.2 else
 (g_ [33] y.2.1 y.2.2).bind fun y=>bif y.1 then sUn g [33] d y.2.1 y.2.2 else
 (jZ y.2.1 y.2.2).bind fun y=>bif y.1.2 then some (y.1.1,y.2.1,y.2.2) else
 (g_ pS y.2.1 y.2.2).bind fun y=>bif y.1 then DY g 1 d y.2.1 y.2.2 else
 (g_ ib y.2.1 y.2.2).bind fun y=>bif y.1 then DY g 2 d y.2.1 y.2.2 else
 (g_ [40] y.2.1 y.2.2).bind fun y=>bif y.1 then (g.expr 0 d y.2.1 y.2.2).bind fun z=>(kt [41] z.2.1 z.2.2).bind fun y=>some (z.1,y.2.1,y.2.2) else
 (uF y.2.1 y.2.2).bind fun y=>bif mB [40] y.2.1 then g.call y.1 d y.2.1 y.2.2 else jb (.mk 23 0 y.1 0 []) y.2.1 y.2.2
def pC (d:Int):Nat→Nd→List Wd→Int→SR Nd
 | 0,_,_,_=>none
 | j+1,n,ws,m=>(g_ [41] ws m).bind fun y=>bif y.1 then some (n,y.2.1,y.2.2) else
  (bif decide (n.cu.length>0) then kt [44] y.2.1 y.2.2 else some ((),y.2.1,y.2.2)).bind fun y=>
  bif decide (n.cu.length≥6) then none else (g.expr 0 d y.2.1 y.2.2).bind fun y=>pC d j (n.ea y.1) y.2.1 y.2.2
def IX (x:List UInt8):Int→List Wd→Int→SR Nd:=xe fun d ws m=>(jb (.mk 24 0 x 0 []) ws m).bind fun y=>(kt [40] y.2.1 y.2.2).bind fun z=>pC g d (z.2.1.length+1) y.1 z.2.1 z.2.2
def pB (d:Int):Nat→Nd→List Wd→Int→SR Nd
 | 0,_,_,_=>none
 | j+1,n,ws,m=>(g_ [125] ws m).bind fun y=>bif y.1 then some (n,y.2.1,y.2.2) else
  bif decide (n.cu.length≥32) then none else (g.stmt d y.2.1 y.2.2).bind fun y=>pB d j (n.ea y.1) y.2.1 y.2.2
def Bf:Int→List Wd→Int→SR Nd:=xe fun d ws m=>(kt [123] ws m).bind fun y=>(jb (.mk 6 0 [] 0 []) y.2.1 y.2.2).bind fun y=>pB g d (y.2.1.length+1) y.1 y.2.1 y.2.2
def nq (k:Int) (x:List UInt8) (d:Int) (ws:List Wd) (m:Int):SR Nd:=(jb (.mk k 0 x 0 []) ws m).bind fun y=>(g.expr 0 d y.2.1 y.2.2).bind fun e=>(kt [59] e.2.1 e.2.2).bind fun z=>some (y.1.bN [e.1],z.2.1,z.2.2)
def o7 (d:Int) (ws:List Wd) (m:Int):SR Nd:=
 (g_ KO ws m).bind fun y=>bif y.1 then g.branch d y.2.1 y.2.2 else
 (g_ KF y.2.1 y.2.2).bind fun y=>bif y.1 then (jb (.mk 10 0 [] 0 []) y.2.1 y.2.2).bind fun n=>(g.expr 0 d n.2.1 n.2.2).bind fun e=>(g.block d e.2.1 e.2.2).bind fun b=>some (n.1.bN [e.1,b.1],b.2.1,b.2.2) else
 (g_ nI y.2.1 y.2.2).bind fun y=>bif y.1 then nq g 11 [] d y.2.1 y.2.2 else
 (g_ nG y.2.1 y.2.2).bind fun y=>bif y.1 then nq g 12 [] d y.2.1 y.2.2 else
 (g_ EC y.2.1 y.2.2).bind fun y=>bif y.1 then (kt [59] y.2.1 y.2.2).bind fun y=>jb (.mk 14 0 [] 0 []) y.2.1 y.2.2 else
 (uF y.2.1 y.2.2).bind fun x=>
 (g_ [58,61] x.2.1 x.2.2).bind fun y=>bif y.1 then nq g 7 x.1 d y.2.1 y.2.2 else
 (g_ [61] y.2.1 y.2.2).bind fun y=>bif y.1 then nq g 8 x.1 d y.2.1 y.2.2 else
 (jb (.mk 13 0 [] 0 []) y.2.1 y.2.2).bind fun n=>(g.call x.1 d n.2.1 n.2.2).bind fun c=>(kt [59] c.2.1 c.2.2).bind fun z=>some (n.1.bN [c.1],z.2.1,z.2.2)
def se:Int→List Wd→Int→SR Nd:=xe fun d ws m=>(jb (.mk 9 0 [] 0 []) ws m).bind fun n=>(g.expr 0 d n.2.1 n.2.2).bind fun e=>(g.block d e.2.1 e.2.2).bind fun b=>
 (g_ nH b.2.1 b.2.2).bind fun t=>bif !t.1 then some (n.1.bN [e.1,b.1],t.2.1,t.2.2) else
 (g_ KO t.2.1 t.2.2).bind fun t=>bif t.1 then (jb (.mk 6 0 [] 0 []) t.2.1 t.2.2).bind fun q=>(g.branch d q.2.1 q.2.2).bind fun x=>some ((n.1.bN [e.1,b.1]).ea (q.1.bN [x.1]),x.2.1,x.2.2)
 else (g.block d t.2.1 t.2.2).bind fun b2=>some ((n.1.bN [e.1,b.1]).ea b2.1,b2.2.1,b2.2.2)
end
def sF:Nat→ve
 | 0=>⟨fun _ _ _ _=>none,fun _ _ _=>none,fun _ _ _ _=>none,fun _ _ _=>none,fun _ _ _=>none,fun _ _ _=>none⟩
 | f+1=>⟨DZ (sF f),kE (sF f),IX (sF f),Bf (sF f),o7 (sF f),se (sF f)⟩
structure TO (l:List Tok) (p:fg) (g:ve):Prop where
 expr:∀k s d,0≤s.pos→s.deep=d→Rel l (p.expr k s) (g.expr k d (vw l s) s.dI) d
 unary:∀s d,0≤s.pos→s.deep=d→Rel l (p.unary s) (g.unary d (vw l s) s.dI) d
 call:∀x s d,0≤s.pos→s.deep=d→Rel l (p.call x s) (g.call x d (vw l s) s.dI) d
 block:∀s d,0≤s.pos→s.deep=d→Rel l (p.block s) (g.block d (vw l s) s.dI) d
 stmt:∀s d,0≤s.pos→s.deep=d→Rel l (p.stmt s) (g.stmt d (vw l s) s.dI) d
 branch:∀s d,0≤s.pos→s.deep=d→Rel l (p.branch s) (g.branch d (vw l s) s.dI) d
section
variable {l:List Tok} {p:fg} {g:ve} (h:TO l p g)
include h
theorem D0 {k d:Int}:∀(J j:Nat) (n:Nd) (s:PS),J≤j→0≤s.pos→s.deep=d→Rel l (wu l p k j n s) (pD g k d J n (vw l s) s.dI) d
 | 0,_,n,s,_,_,_=>Rel.none
 | J+1,0,n,s,hj,_,_=>by omega
 | J+1,j+1,n,s,hj,hp,hd=>by
  unfold wu pD
  rw [uE hp,Bo hp]
  refine Rel.cond (Rel.ok hd hp) ?_
  have h1:=h.expr (gZ (p3 (vw l s))) (di s) d (by simp only [di]; omega) hd
  rw [su hp] at h1
  refine Rel.bind h1 fun x cM a b=>?_
  exact Rel.bind (eP b a) fun y ff a b=>D0 J j y ff (by omega) b a
theorem Ww (k:Int) (s:PS) (d:Int) (hp:0≤s.pos) (hd:s.deep=d):Rel l (CJ l p k s) (DZ g k d (vw l s) s.dI) d:=by
 unfold CJ DZ
 refine rk hp hd fun cM a b=>?_
 refine Rel.bind (h.unary cM (d+1) b a) fun x ff a b=>?_
 exact D0 h _ _ x ff (Nat.add_le_add_right (BM l ff) 1) b a
theorem WC (x:List UInt8) (s:PS) (d:Int) (hp:0≤s.pos) (hd:s.deep=d):Rel l (Z4 l p x s) (sUn g x d (vw l s) s.dI) d:=by
 unfold Z4 sUn
 refine rk hp hd fun cM a b=>?_
 exact Rel.bind (h.unary cM (d+1) b a) fun x ff a b=>eP b a
theorem IY (t:Int) (s:PS) (d:Int) (hp:0≤s.pos) (hd:s.deep=d):Rel l (sR l p t s) (DY g t d (vw l s) s.dI) d:=by
 unfold sR DY
 refine Rel.bind (gj hp hd) fun _ cM a b=>?_
 refine Rel.bind (h.expr 0 cM d b a) fun x ff a b=>?_
 refine Rel.bind (eP b a) fun x fP a b=>?_
 exact Rel.bind (gj b a) fun _ pY a b=>Rel.ok a b
theorem Tg (s:PS) (d:Int) (hp:0≤s.pos) (hd:s.deep=d):Rel l (rM l p s) (kE g d (vw l s) s.dI) d:=by
 unfold rM kE
 refine Rel.bind (ep hp hd) fun t cM a b=>Rel.cond (WC h _ cM d b a) ?_
 refine Rel.bind (ep b a) fun t cM a b=>Rel.cond (WC h _ cM d b a) ?_
 refine Rel.bind (D4 b a) fun t cM a b=>Rel.cond (Rel.ok a b) ?_
 refine Rel.bind (ep b a) fun t cM a b=>Rel.cond (IY h _ cM d b a) ?_
 refine Rel.bind (ep b a) fun t cM a b=>Rel.cond (IY h _ cM d b a) ?_
 refine Rel.bind (ep b a) fun t cM a b=>Rel.cond ?_ ?_
 ·refine Rel.bind (h.expr 0 cM d b a) fun x ff a b=>?_
  exact Rel.bind (gj b a) fun _ pY a b=>Rel.ok a b
 ·refine Rel.bind (oY b a) fun x ff a b=>?_
  rw [rm b]
  exact Rel.cond (h.call x ff d b a) (eP b a)
theorem DX {d:Int}:∀(J j:Nat) (n:Nd) (s:PS),J≤j→0≤s.pos→s.deep=d→Rel l (sJ l p j n s) (pC g d J n (vw l s) s.dI) d
 | 0,_,n,s,_,_,_=>Rel.none
 | J+1,0,n,s,hj,_,_=>by omega
 | J+1,j+1,n,s,hj,hp,hd=>by
  unfold sJ pC
  refine Rel.bind (ep hp hd) fun t cM a b=>Rel.cond (Rel.ok a b) ?_
  refine Rel.bind (d:=d) (Rel.cond (gj b a) (Rel.ok a b)) fun _ ff a b=>Rel.cond Rel.none ?_
  exact Rel.bind (h.expr 0 ff d b a) fun x fP a b=>DX J j _ fP (by omega) b a
theorem Wu (x:List UInt8) (s:PS) (d:Int) (hp:0≤s.pos) (hd:s.deep=d):Rel l (Cy l p x s) (IX g x d (vw l s) s.dI) d:=by
 unfold Cy IX
 refine rk hp hd fun cM a b=>?_
 refine Rel.bind (eP b a) fun n ff a b=>?_
 exact Rel.bind (gj b a) fun _ fP a b=>DX h _ _ n fP (Nat.add_le_add_right (BM l fP) 1) b a
theorem Bg {d:Int}:∀(J j:Nat) (n:Nd) (s:PS),J≤j→0≤s.pos→s.deep=d→Rel l (nN l p j n s) (pB g d J n (vw l s) s.dI) d
 | 0,_,n,s,_,_,_=>Rel.none
 | J+1,0,n,s,hj,_,_=>by omega
 | J+1,j+1,n,s,hj,hp,hd=>by
  unfold nN pB
  refine Rel.bind (ep hp hd) fun t cM a b=>Rel.cond (Rel.ok a b) (Rel.cond Rel.none ?_)
  exact Rel.bind (h.stmt cM d b a) fun x fP a b=>Bg J j _ fP (by omega) b a
theorem Tc (s:PS) (d:Int) (hp:0≤s.pos) (hd:s.deep=d):Rel l (vm l p s) (Bf g d (vw l s) s.dI) d:=by
 unfold vm Bf
 refine rk hp hd fun cM a b=>?_
 refine Rel.bind (gj b a) fun _ ff a b=>?_
 exact Rel.bind (eP b a) fun n fP a b=>Bg h _ _ n fP (Nat.add_le_add_right (BM l fP) 1) b a
theorem pE (k:Int) (x:List UInt8) (s:PS) (d:Int) (hp:0≤s.pos) (hd:s.deep=d):Rel l (jY l p k x s) (nq g k x d (vw l s) s.dI) d:=by
 unfold jY nq
 refine Rel.bind (eP hp hd) fun n cM a b=>?_
 refine Rel.bind (h.expr 0 cM d b a) fun e ff a b=>?_
 exact Rel.bind (gj b a) fun _ pY a b=>Rel.ok a b
theorem WB (s:PS) (d:Int) (hp:0≤s.pos) (hd:s.deep=d):Rel l (xh l p s) (o7 g d (vw l s) s.dI) d:=by
 unfold xh o7
 refine Rel.bind (ep hp hd) fun t cM a b=>Rel.cond (h.branch cM d b a) ?_
 refine Rel.bind (ep b a) fun t cM a b=>Rel.cond ?_ ?_
 ·refine Rel.bind (eP b a) fun n ff a b=>?_
  refine Rel.bind (h.expr 0 ff d b a) fun e fP a b=>?_
  exact Rel.bind (h.block fP d b a) fun b pY a b=>Rel.ok a b
 refine Rel.bind (ep b a) fun t cM a b=>Rel.cond (pE h _ _ cM d b a) ?_
 refine Rel.bind (ep b a) fun t cM a b=>Rel.cond (pE h _ _ cM d b a) ?_
 refine Rel.bind (ep b a) fun t cM a b=>Rel.cond ?_ ?_
 ·exact Rel.bind (gj b a) fun _ ff a b=>eP b a
 refine Rel.bind (oY b a) fun x ff a b=>?_
 refine Rel.bind (ep b a) fun t cM a b=>Rel.cond (pE h _ _ cM d b a) ?_
 refine Rel.bind (ep b a) fun t cM a b=>Rel.cond (pE h _ _ cM d b a) ?_
 refine Rel.bind (eP b a) fun n ff a b=>?_
 refine Rel.bind (h.call x ff d b a) fun c fP a b=>?_
 exact Rel.bind (gj b a) fun _ pY a b=>Rel.ok a b
theorem Mr (s:PS) (d:Int) (hp:0≤s.pos) (hd:s.deep=d):Rel l (rS l p s) (se g d (vw l s) s.dI) d:=by
 unfold rS se
 refine rk hp hd fun cM a b=>?_
 generalize d+1=d at a
 refine Rel.bind (eP b a) fun n cM a b=>?_
 refine Rel.bind (h.expr 0 cM d b a) fun e cM a b=>?_
 refine Rel.bind (h.block cM d b a) fun b1 cM a b=>?_
 refine Rel.bind (ep b a) fun t cM a b=>Rel.cond (Rel.ok a b) ?_
 refine Rel.bind (ep b a) fun t cM a b=>Rel.cond ?_ ?_
 ·refine Rel.bind (eP b a) fun q cM a b=>?_
  exact Rel.bind (h.branch cM d b a) fun x cM a b=>Rel.ok a b
 ·exact Rel.bind (h.block cM d b a) fun b2 cM a b=>Rel.ok a b
end
theorem Bi (l:List Tok):∀f,TO l (qg l f) (sF f)
 | 0=>⟨fun _ _ _ _ _=>Rel.none,fun _ _ _ _=>Rel.none,fun _ _ _ _ _=>Rel.none,fun _ _ _ _=>Rel.none,fun _ _ _ _=>Rel.none,fun _ _ _ _=>Rel.none⟩
 | f+1=>⟨Ww (Bi l f),Tg (Bi l f),Wu (Bi l f),Tc (Bi l f),WB (Bi l f),Mr (Bi l f)⟩
section
variable (g:ve)
def kM:Nat→Nd→List Wd→Int→SR Nd
 | 0,_,_,_=>none
 | j+1,n,ws,m=>(g_ [41] ws m).bind fun y=>bif y.1 then some (n,y.2.1,y.2.2) else
  (bif decide (n.cu.length>0) then kt [44] y.2.1 y.2.2 else some ((),y.2.1,y.2.2)).bind fun y=>
  bif decide (n.cu.length≥6) then none else
  (uF y.2.1 y.2.2).bind fun x=>(Mt x.2.1 x.2.2).bind fun t=>(jb (.mk 5 t.1 x.1 0 []) t.2.1 t.2.2).bind fun q=>kM j (n.ea q.1) q.2.1 q.2.2
def Wy (ws:List Wd) (m:Int):SR Nd:=(g_ [45] ws m).bind fun mi=>(jZ mi.2.1 mi.2.2).bind fun x=>
 bif !x.1.2 || (mi.1 && x.1.1.kind==22) then none
 else some (bif mi.1 && x.1.1.kind==20 then x.1.1.WD (IntKind.i64.wrap (0 - x.1.1.num)) else bif mi.1 && x.1.1.kind==21 then x.1.1.WD (aex x.1.1.num) else x.1.1,x.2.1,x.2.2)
def Bh (d:Int) (ws:List Wd) (m:Int):SR Nd:=
 (g_ mR ws m).bind fun y=>bif y.1 then (uF y.2.1 y.2.2).bind fun x=>(Mt x.2.1 x.2.2).bind fun t=>(jb (.mk 2 t.1 x.1 0 []) t.2.1 t.2.2).bind fun n=>(kt [61] n.2.1 n.2.2).bind fun z=>(Wy z.2.1 z.2.2).bind fun v=>(kt [59] v.2.1 v.2.2).bind fun z=>some (n.1.bN [v.1],z.2.1,z.2.2) else
 (g_ u5 y.2.1 y.2.2).bind fun y=>bif y.1 then (uF y.2.1 y.2.2).bind fun x=>(jb (.mk 4 0 x.1 0 []) x.2.1 x.2.2).bind fun n=>(g.block d n.2.1 n.2.2).bind fun b=>some (n.1.bN [b.1],b.2.1,b.2.2) else
 (kt uZ y.2.1 y.2.2).bind fun y=>(uF y.2.1 y.2.2).bind fun x=>(jb (.mk 3 0 x.1 0 []) x.2.1 x.2.2).bind fun n=>(kt [40] n.2.1 n.2.2).bind fun z=>
 (kM (z.2.1.length+1) n.1 z.2.1 z.2.2).bind fun n=>(Mt n.2.1 n.2.2).bind fun t=>(g.block d t.2.1 t.2.2).bind fun b=>some ((n.1.WE t.1).ea b.1,b.2.1,b.2.2)
def tA (d:Int):Nat→Int→Int→Nd→List Wd→Int→SR Nd
 | 0,_,_,_,_,_=>none
 | j+1,fs,gs,n,ws,m=>bif pZ ws != 0 then
   (bif decide ((bif mB mR ws then gs+1 else gs)>16) || decide ((bif mB mR ws then fs else fs+1)>32) then none else (Bh g d ws m).bind fun y=>tA d j (bif mB mR ws then fs else fs+1) (bif mB mR ws then gs+1 else gs) (n.ea y.1) y.2.1 y.2.2)
  else some (n,ws,m)
def D5 (d:Int) (ws:List Wd) (m:Int):SR Nd:=(jb (.mk 1 0 [] 0 []) ws m).bind fun y=>tA g d (y.2.1.length+1) 0 0 y.1 y.2.1 y.2.2
end
theorem Bj {l:List Tok} {d:Int}:∀(J j:Nat) (n:Nd) (s:PS),J≤j→0≤s.pos→s.deep=d→Rel l (nT l j n s) (kM J n (vw l s) s.dI) d
 | 0,_,n,s,_,_,_=>Rel.none
 | J+1,0,n,s,hj,_,_=>by omega
 | J+1,j+1,n,s,hj,hp,hd=>by
  unfold nT kM
  refine Rel.bind (ep hp hd) fun t cM a b=>Rel.cond (Rel.ok a b) ?_
  refine Rel.bind (d:=d) (Rel.cond (gj b a) (Rel.ok a b)) fun _ ff a b=>Rel.cond Rel.none ?_
  refine Rel.bind (oY b a) fun x fP a b=>?_
  refine Rel.bind (FM b a) fun t fP a b=>?_
  exact Rel.bind (eP b a) fun q fP a b=>Bj J j _ fP (by omega) b a
theorem aaO {l:List Tok} {d:Int} (s:PS) (hp:0≤s.pos) (hd:s.deep=d):Rel l (FF l s) (Wy (vw l s) s.dI) d:=by
 unfold FF Wy
 refine Rel.bind (ep hp hd) fun t cM a b=>?_
 refine Rel.bind (D4 b a) fun x ff a b=>?_
 exact Rel.cond Rel.none (Rel.ok a b)
theorem Wv {l:List Tok} {p:fg} {g:ve} (h:TO l p g) {d:Int} (s:PS) (hp:0≤s.pos) (hd:s.deep=d):Rel l (qA l p s) (Bh g d (vw l s) s.dI) d:=by
 unfold qA Bh
 refine Rel.bind (ep hp hd) fun t cM a b=>Rel.cond ?_ ?_
 ·refine Rel.bind (oY b a) fun x fP a b=>?_
  refine Rel.bind (FM b a) fun t fP a b=>?_
  refine Rel.bind (eP b a) fun n fP a b=>?_
  refine Rel.bind (gj b a) fun _ fP a b=>?_
  refine Rel.bind (aaO _ b a) fun v fP a b=>?_
  exact Rel.bind (gj b a) fun _ fP a b=>Rel.ok a b
 refine Rel.bind (ep b a) fun t cM a b=>Rel.cond ?_ ?_
 ·refine Rel.bind (oY b a) fun x fP a b=>?_
  refine Rel.bind (eP b a) fun n fP a b=>?_
  exact Rel.bind (h.block fP d b a) fun _ fP a b=>Rel.ok a b
 refine Rel.bind (gj b a) fun _ fP a b=>?_
 refine Rel.bind (oY b a) fun x fP a b=>?_
 refine Rel.bind (eP b a) fun n fP a b=>?_
 refine Rel.bind (gj b a) fun _ fP a b=>?_
 refine Rel.bind (Bj _ _ _ fP (Nat.add_le_add_right (BM l fP) 1) b a) fun n fP a b=>?_
 refine Rel.bind (FM b a) fun t fP a b=>?_
 exact Rel.bind (h.block fP d b a) fun _ fP a b=>Rel.ok a b
theorem D6 {l:List Tok} {p:fg} {g:ve} (h:TO l p g) {d:Int}:∀(J j:Nat) (fs gs:Int) (n:Nd) (s:PS),J≤j→0≤s.pos→s.deep=d→Rel l (sV l p j fs gs n s) (tA g d J fs gs n (vw l s) s.dI) d
 | 0,_,fs,gs,n,s,_,_,_=>Rel.none
 | J+1,0,fs,gs,n,s,hj,_,_=>by omega
 | J+1,j+1,fs,gs,n,s,hj,hp,hd=>by
  unfold sV tA
  simp only [uE hp,rm hp]
  refine Rel.cond (Rel.cond Rel.none ?_) (Rel.ok hd hp)
  exact Rel.bind (Wv h s hp hd) fun x cM a b=>D6 h J j _ _ _ cM (by omega) b a
theorem WA {l:List Tok} {p:fg} {g:ve} (h:TO l p g) {d:Int} (s:PS) (hp:0≤s.pos) (hd:s.deep=d):Rel l (A5 l p s) (D5 g d (vw l s) s.dI) d:=by
 unfold A5 D5
 exact Rel.bind (eP hp hd) fun n cM a b=>D6 h _ _ _ _ n cM (Nat.add_le_add_right (BM l cM) 1) b a
theorem It {x:List UInt8} {f:Nat} {n:Nd} {ws:List Wd} {m:Int} (h1:(tokens x).2.2=0) (h2:D5 (sF f) 0 (lB (tokens x).1) 0=some (n,ws,m)):mu f x=some (n,0,0):=by
 unfold mu
 rw [if_pos h1]
 obtain ⟨s',e,_⟩:=WA (Bi (tokens x).1 f) ⟨0,0,0⟩ (Int.le_refl 0) rfl n ws m h2
 rw [e]
end
end Go.Proofs.YtpklkpkfgmoghaaGreatDoor.Zz
namespace Go.Proofs.YtpklkpkfgmoghaaGreatDoor.Zz
def bu (l:List UInt8) (ws:List Wd):Prop:=∀(n p:Nat) (out:List Tok),(l.drop (eK l)).length<n→∃ts,s5 n p (l.drop (eK l)) out=(out++ts,0,0)∧lB ts=ws
theorem bu.nil:bu [] [(0,[])]:=fun n p out h=>by
 cases n with
 | zero=>simp at h
 | succ n=>exact ⟨[(0,[],(p:Int))],by rw [show ([]:List UInt8).drop (eK [])=[] from rfl]; rfl,rfl⟩
theorem bu.sp {r:List UInt8} {ws:List Wd} {c:UInt8} (hc:isSp c=true) (h:bu r ws):bu (c::r) ws:=by
 have e:(c::r).drop (eK (c::r))=r.drop (eK r):=by
  rw [kP,if_pos hc,Nat.add_comm 1]
  rfl
 unfold bu
 rw [e]
 exact h
theorem bu.word {l:List UInt8} (k:Int) (w r:List UInt8) {ws:List Wd} (e:l=w++r) (h0:eK l=0) (h1:iA l=(k,w,true)) (hw:w≠[]) (h:bu r ws):bu l ((k,w)::ws):=by
 unfold bu
 rw [h0,List.drop_zero]
 intro n p out hn
 cases n with
 | zero=>omega
 | succ n=>
  have iy:¬l=[]:=fun x=>by rw [e] at x; exact hw (List.append_eq_nil_iff.1 x).1
  unfold s5
  rw [if_neg iy,h1]
  simp only [reduceCtorEq,if_false,Bool.true_eq_false]
  have e1:l.drop w.length=r:=by rw [e,List.drop_left]
  have e2:∀b,l.drop (w.length+b)=r.drop b:=fun b=>by rw [←List.drop_drop,e1]
  rw [e1,e2]
  have hwl:0<w.length:=List.length_pos_iff.2 hw
  have hl:l.length=w.length+r.length:=by rw [e,List.length_append]
  obtain ⟨ts,a,b⟩:=h n (p+w.length+eK r) (out++[(k,w,(p:Int))]) (by rw [List.length_drop]; omega)
  exact ⟨(k,w,(p:Int))::ts,by rw [a]; simp,by simp [lB,←b]⟩
theorem Tt {x:List UInt8} {ws:List Wd} (h:bu x ws) (hl:x.length≤4096):(tokens x).2.2=0∧lB (tokens x).1=ws:=by
 obtain ⟨ts,a,b⟩:=h (x.length+1) (eK x) [] (by rw [List.length_drop]; omega)
 unfold tokens
 rw [if_neg (by omega),a]
 exact ⟨rfl,by simpa using b⟩
theorem uI {p:Int→Bool}:∀(w r:List UInt8),(∀x∈w,p (x.toNat:Int)=true)→kN p r=0→kN p (w++r)=w.length
 | [],r,_,h=>by simpa using h
 | c::w,r,hw,h=>by
  rw [List.cons_append,mE,if_pos (hw c (by simp)),uI w r (fun x hx=>hw x (by simp [hx])) h]
  rfl
theorem SF {c:UInt8} (hc:fL (c.toNat:Int)=true):isDigit (c.toNat:Int)=false∧isSp c=false∧c≠47∧ja (c.toNat:Int)=true:=by
 simp only [fL,Bool.or_eq_true,Bool.and_eq_true,decide_eq_true_eq,beq_iff_eq] at hc
 refine ⟨?_,?_,?_,?_⟩
 ·simp only [isDigit,Bool.and_eq_false_iff,decide_eq_false_iff_not]; omega
 ·simp only [isSp,Bool.or_eq_false_iff,beq_eq_false_iff_ne]; omega
 ·intro e; subst e
  have:(47:UInt8).toNat=47:=rfl
  omega
 ·simp only [ja,fL,Bool.or_eq_true,Bool.and_eq_true,decide_eq_true_eq,beq_iff_eq]; exact .inl hc
theorem DS {c:UInt8} {t:List UInt8} (h:c≠47):pre (c::t) [47,47]=false:=by
 cases t with
 | nil=>simp [pre]
 | cons d t=>simp [pre,h]
theorem bu.name {l:List UInt8} (k:Int) (c:UInt8) (w r:List UInt8) {ws:List Wd} (e:l=(c::w)++r) (hc:fL (c.toNat:Int)=true) (hw:∀x∈w,ja (x.toNat:Int)=true) (hr:kN ja r=0)
  (hk:(words.contains (c::w)=true∧k=4)∨(words.contains (c::w)=false∧k=1∧(c::w).length≤16)) (h:bu r ws):bu l ((k,c::w)::ws):=by
 obtain ⟨a1,a2,a3,a4⟩:=SF hc
 subst e
 refine bu.word k (c::w) r rfl ?_ ?_ (by simp) h
 ·rw [List.cons_append,kP,if_neg (by simp [a2]),if_neg (by simp [DS a3])]
 ·have hcw:∀x∈c::w,ja (x.toNat:Int)=true:=fun x hx=>(List.mem_cons.1 hx).elim (fun e=>by rw [e]; exact a4) (fun e=>hw x e)
  have hs:=uI (p:=ja) (c::w) r hcw hr
  have hg:((c::w)++r).getD 0 0=c:=rfl
  have ht:((c::w)++r).take (c::w).length=c::w:=List.take_left
  unfold iA
  rw [hg,if_neg (by simp [a1]),if_pos hc,hs,ht]
  rcases hk with ⟨b1,b2⟩ | ⟨b1,b2,b3⟩
  ·rw [if_pos b1,b2]
  ·rw [if_neg (by rw [b1]; simp),b2]
   simpa using b3
theorem I4 {p:Int→Bool} {c:UInt8} {r:List UInt8} (h:p (c.toNat:Int)=false):kN p (c::r)=0:=by rw [mE,if_neg (by simp [h])]
end Go.Proofs.YtpklkpkfgmoghaaGreatDoor.Zz
namespace Go.Proofs.YtpklkpkfgmoghaaGreatDoor.Zz
section
theorem eD {n:Nd} {ws:List Wd} {m:Int} (h:m+1≤2000):jb n ws m=some (n,ws,m+1):=if_neg (by omega)
theorem mA {α:Type} {body:Int→List Wd→Int→SR α} {d:Int} {ws:List Wd} {m:Int} (h:d+1≤40):xe body d ws m=body (d+1) ws m:=if_neg (by omega)
theorem bP {x:List UInt8} {ws:List Wd} {m:Int} (h:mB x ws=false):g_ x ws m=some (false,ws,m):=by rw [g_,h]; rfl
theorem dE {x:List UInt8} {ws:List Wd} {m:Int} (h:mB x ws=true):g_ x ws m=some (true,ws.tail,m):=by rw [g_,h]; rfl
theorem fl {x:List UInt8} {ws:List Wd} {m:Int} (h:mB x ws=true):kt x ws m=some ((),ws.tail,m):=by rw [kt,h]; rfl
theorem eo {x w:List UInt8} {r:List Wd}:mB x ((1,w)::r)=false:=by simp [mB]
theorem FL {x w:List UInt8} {r:List Wd}:mB x ((2,w)::r)=false:=by simp [mB]
theorem iw {w:List UInt8} {r:List Wd} {m:Int}:uF ((1,w)::r) m=some (w,r,m):=rfl
theorem Oh (f:Nat) (k d:Int) (ws:List Wd) (m:Int):(sF (f+1)).expr k d ws m=DZ (sF f) k d ws m:=rfl
theorem k_ (f:Nat) (d:Int) (ws:List Wd) (m:Int):(sF (f+1)).unary d ws m=kE (sF f) d ws m:=rfl
theorem aaN (f:Nat) (x:List UInt8) (d:Int) (ws:List Wd) (m:Int):(sF (f+1)).call x d ws m=IX (sF f) x d ws m:=rfl
theorem Wx (f:Nat) (d:Int) (ws:List Wd) (m:Int):(sF (f+1)).block d ws m=Bf (sF f) d ws m:=rfl
theorem lS (f:Nat) (d:Int) (ws:List Wd) (m:Int):(sF (f+1)).stmt d ws m=o7 (sF f) d ws m:=rfl
theorem D2 (f:Nat) (d:Int) (ws:List Wd) (m:Int):(sF (f+1)).branch d ws m=se (sF f) d ws m:=rfl
theorem Mu (g:ve) {w:List UInt8} {r:List Wd} {d m:Int} (h:mB [40] r=false) (hm:m+1≤2000):kE g d ((1,w)::r) m=some (.mk 23 0 w 0 [],r,m+1):=by
 have hp:jZ ((1,w)::r) m=some ((.mk 0 0 [] 0 [],false),(1,w)::r,m):=by
  unfold jZ; rw [eo,eo]; rfl
 unfold kE
 rw [bP eo,Option.bind_some]
 simp only [cond_false]
 rw [bP eo,Option.bind_some]
 simp only [cond_false]
 rw [hp,Option.bind_some]
 simp only [cond_false]
 rw [bP eo,Option.bind_some]
 simp only [cond_false]
 rw [bP eo,Option.bind_some]
 simp only [cond_false]
 rw [bP eo,Option.bind_some]
 simp only [cond_false]
 rw [iw,Option.bind_some]
 simp only [h,cond_false]
 exact eD hm
theorem IZ {g:ve} {k d:Int} {j:Nat} {n:Nd} {sg:List UInt8} {r:List Wd} {m:Int} (h:gZ sg≤k):pD g k d (j+1) n ((5,sg)::r) m=some (n,(5,sg)::r,m):=by
 unfold pD
 have:(pZ ((5,sg)::r) != 5 || decide (gZ (p3 ((5,sg)::r))≤k))=true:=by simp [pZ,p3,h]
 rw [this]; rfl
theorem Td {g:ve} {k d:Int} {j:Nat} {n:Nd} {sg:List UInt8} {r:List Wd} {m:Int} (h:k<gZ sg):pD g k d (j+1) n ((5,sg)::r) m=(g.expr (gZ sg) d r m).bind fun y=>(jb (.mk 26 0 sg 0 [n,y.1]) y.2.1 y.2.2).bind fun z=>pD g k d j z.1 z.2.1 z.2.2:=by
 show (bif _ then _ else _)=_
 have:(pZ ((5,sg)::r) != 5 || decide (gZ (p3 ((5,sg)::r))≤k))=false:=by
  rw [Bool.or_eq_false_iff]; exact ⟨rfl,decide_eq_false (Int.not_le.2 h)⟩
 rw [this]; rfl
end
theorem dP {x w:List UInt8} {r:List Wd}:mB x ((4,w)::r)=(w==x):=by simp [mB]
theorem dk {x w:List UInt8} {r:List Wd}:mB x ((5,w)::r)=(w==x):=by simp [mB]
end Go.Proofs.YtpklkpkfgmoghaaGreatDoor.Zz
namespace Go.Proofs.YtpklkpkfgmoghaaGreatDoor.Zz
theorem Se {l:List Nd} {i:Nat} {x:Nd} (h:l[i]? =some x):Nd.eA (l.take (i+1))=Nd.eA (l.take i)+x.cI:=by
 rw [List.take_add_one,h,jj]; simp [aD,bf]
theorem jk:∀l:List Nd,l.length≤Nd.eA l
 | []=>Nat.zero_le _
 | x::l=>by have:=jk l; have:=E6 x; rw [aD,List.length_cons]; omega
theorem wm {l:List Nd} {x:Nd} (h:x∈l):x.cI≤Nd.eA l:=by
 induction l with
 | nil=>cases h
 | cons y l ih=>
  rw [aD]
  rcases List.mem_cons.1 h with e | e
  ·subst e; omega
  ·have:=ih e; omega
end Go.Proofs.YtpklkpkfgmoghaaGreatDoor.Zz
