/- How expressions, statements and declarations are parsed: the plain answer. -/
import Derived.Test.YtpklkpkfgmoghaaGreatDoorZZH
import Derived.Test.YtpklkpkfgmoghaaGreatDoorZP17
import Derived.KernelRfl
import Derived.Test.YtpklkpkfgmoghaaGreatDoorZA1
set_option linter.unnecessarySimpa false
set_option linter.unusedVariables false
set_option linter.unusedSimpArgs false
namespace Go.Proofs.YtpklkpkfgmoghaaGreatDoor.Zz
noncomputable section
def Nd.br (n:Nd) (l:List Nd):Nd:=match n with
 | .mk k t s m _=>.mk k t s m l
def Nd.bM:Nd→List Nd
 | .mk _ _ _ _ l=>l
def Nd.c_ (n x:Nd):Nd:=match n with
 | .mk k t s m l=>.mk k t s m (l++[x])
def Nd.OL (n:Nd) (t:Int):Nd:=match n with
 | .mk k _ s m l=>.mk k t s m l
structure dU where
 expr:Int→PS→PR Nd
 unary:PS→PR Nd
 call:List UInt8→PS→PR Nd
 block:PS→PR Nd
 stmt:PS→PR Nd
 branch:PS→PR Nd
variable {α β:Type} (l:List Tok) (g:dU)
def kP (body:PS→PR α) (s:PS):PR α:=(TA l s).bind fun _ s=>Gm (body s)
def sL (least:Int):Nat→Nd→PS→PR Nd
 | 0,_,_=>.out
 | j+1,n,s=>bif (dQ l s).1 != 5 || decide (ft (dQ l s).2.1≤least) then .ok n s
  else (g.expr (ft (dQ l s).2.1) (cw s)).bind fun r s'=>(dB l (.mk 26 0 (dQ l s).2.1 0 [n,r]) s').bind fun n s=>sL least j n s
def yj (least:Int):PS→PR Nd:=kP l fun s=>(g.unary s).bind fun n s=>sL l g least (l.length+1) n s
def RN (x:List UInt8):PS→PR Nd:=kP l fun s=>(g.unary s).bind fun n s=>dB l (.mk 25 0 x 0 [n]) s
def pt (t:Int) (s:PS):PR Nd:=(ff l [40] s).bind fun _ s=>(g.expr 0 s).bind fun n s=>(dB l (.mk 27 t [] 0 [n]) s).bind fun n s=>(ff l [41] s).bind fun _ s=>.ok n s
def n_ (s:PS):PR Nd:=
 (dw l [45] s).bind fun b s=>bif b then RN l g [45] s else
 (dw l [33] s).bind fun b s=>bif b then RN l g [33] s else
 (lu l s).bind fun x s=>bif x.2 then .ok x.1 s else
 (dw l mF s).bind fun b s=>bif b then pt l g 1 s else
 (dw l fF s).bind fun b s=>bif b then pt l g 2 s else
 (dw l [40] s).bind fun b s=>bif b then (g.expr 0 s).bind fun n s=>(ff l [41] s).bind fun _ s=>.ok n s else
 (iH l s).bind fun x s=>bif lQ l [40] s then g.call x s else dB l (.mk 23 0 x 0 []) s
def pe:Nat→Nd→PS→PR Nd
 | 0,_,_=>.out
 | j+1,n,s=>(dw l [41] s).bind fun b s=>bif b then .ok n s else
  (bif decide (n.bM.length>0) then ff l [44] s else .ok () s).bind fun _ s=>
  bif decide (n.bM.length≥6) then ib l 3 s else (g.expr 0 s).bind fun x s=>pe j (n.c_ x) s
def ya (x:List UInt8):PS→PR Nd:=kP l fun s=>(dB l (.mk 24 0 x 0 []) s).bind fun n s=>(ff l [40] s).bind fun _ s=>pe l g (l.length+1) n s
def ll:Nat→Nd→PS→PR Nd
 | 0,_,_=>.out
 | j+1,n,s=>(dw l [125] s).bind fun b s=>bif b then .ok n s else
  bif decide (n.bM.length≥32) then ib l 3 s else (g.stmt s).bind fun x s=>ll j (n.c_ x) s
def rR:PS→PR Nd:=kP l fun s=>(ff l [123] s).bind fun _ s=>(dB l (.mk 6 0 [] 0 []) s).bind fun n s=>ll l g (l.length+1) n s
def ic (k:Int) (x:List UInt8) (s:PS):PR Nd:=(dB l (.mk k 0 x 0 []) s).bind fun n s=>(g.expr 0 s).bind fun e s=>(ff l [59] s).bind fun _ s=>.ok (n.br [e]) s
def Fq:List UInt8:=[105,102]
def Fg:List UInt8:=[102,111,114]
def lf:List UInt8:=[114,101,116,117,114,110]
def ld:List UInt8:=[97,115,115,101,114,116]
def Ai:List UInt8:=[115,107,105,112]
def jM:List UInt8:=[101,108,115,101]
def tA (s:PS):PR Nd:=
 (dw l Fq s).bind fun b s=>bif b then g.branch s else
 (dw l Fg s).bind fun b s=>bif b then (dB l (.mk 10 0 [] 0 []) s).bind fun n s=>(g.expr 0 s).bind fun e s=>(g.block s).bind fun b s=>.ok (n.br [e,b]) s else
 (dw l lf s).bind fun b s=>bif b then ic l g 11 [] s else
 (dw l ld s).bind fun b s=>bif b then ic l g 12 [] s else
 (dw l Ai s).bind fun b s=>bif b then (ff l [59] s).bind fun _ s=>dB l (.mk 14 0 [] 0 []) s else
 (iH l s).bind fun x s=>
 (dw l [58,61] s).bind fun b s=>bif b then ic l g 7 x s else
 (dw l [61] s).bind fun b s=>bif b then ic l g 8 x s else
 (dB l (.mk 13 0 [] 0 []) s).bind fun n s=>(g.call x s).bind fun c s=>(ff l [59] s).bind fun _ s=>.ok (n.br [c]) s
def oh:PS→PR Nd:=kP l fun s=>(dB l (.mk 9 0 [] 0 []) s).bind fun n s=>(g.expr 0 s).bind fun e s=>(g.block s).bind fun b s=>
 (dw l jM s).bind fun t s=>bif !t then .ok (n.br [e,b]) s else
 (dw l Fq s).bind fun t s=>bif t then (dB l (.mk 6 0 [] 0 []) s).bind fun m s=>(g.branch s).bind fun x s=>.ok ((n.br [e,b]).c_ (m.br [x])) s
 else (g.block s).bind fun b2 s=>.ok ((n.br [e,b]).c_ b2) s
def mV:Nat→dU
 | 0=>⟨fun _ _=>.out,fun _=>.out,fun _ _=>.out,fun _=>.out,fun _=>.out,fun _=>.out⟩
 | f+1=>⟨yj l (mV f),n_ l (mV f),ya l (mV f),rR l (mV f),tA l (mV f),oh l (mV f)⟩
def kD:List UInt8:=[118,97,114]
def rJ:List UInt8:=[116,101,115,116]
def rI:List UInt8:=[102,117,110,99]
def lv:Nat→Nd→PS→PR Nd
 | 0,_,_=>.out
 | j+1,n,s=>(dw l [41] s).bind fun b s=>bif b then .ok n s else
  (bif decide (n.bM.length>0) then ff l [44] s else .ok () s).bind fun _ s=>
  bif decide (n.bM.length≥6) then ib l 3 s else
  (iH l s).bind fun x s=>(pa l s).bind fun t s=>(dB l (.mk 5 t x 0 []) s).bind fun m s=>lv j (n.c_ m) s
def ni (s:PS):PR Nd:=
 (dw l kD s).bind fun b s=>bif b then (iH l s).bind fun x s=>(pa l s).bind fun t s=>(dB l (.mk 2 t x 0 []) s).bind fun n s=>(ff l [61] s).bind fun _ s=>(Bi l s).bind fun v s=>(ff l [59] s).bind fun _ s=>.ok (n.br [v]) s else
 (dw l rJ s).bind fun b s=>bif b then (iH l s).bind fun x s=>(dB l (.mk 4 0 x 0 []) s).bind fun n s=>(g.block s).bind fun b s=>.ok (n.br [b]) s else
 (ff l rI s).bind fun _ s=>(iH l s).bind fun x s=>(dB l (.mk 3 0 x 0 []) s).bind fun n s=>(ff l [40] s).bind fun _ s=>
 (lv l (l.length+1) n s).bind fun n s=>(pa l s).bind fun t s=>(g.block s).bind fun b s=>.ok ((n.OL t).c_ b) s
def pz:Nat→Int→Int→Nd→PS→PR Nd
 | 0,_,_,_,_=>.out
 | j+1,fs,gs,n,s=>bif (dQ l s).1 != 0 then
   (let gs':=bif lQ l kD s then gs+1 else gs
    let fs':=bif lQ l kD s then fs else fs+1
    bif decide (gs'>16) || decide (fs'>32) then ib l 3 s else (ni l g s).bind fun d s=>pz j fs' gs' (n.c_ d) s)
  else .ok n s
def wq (s:PS):PR Nd:=(dB l (.mk 1 0 [] 0 []) s).bind fun n s=>pz l g (l.length+1) 0 0 n s
def lx (f:Nat) (x:List UInt8):Option (Nd×Int×Int):=
 if (tokens x).2.2=0 then
  match wq (tokens x).1 (mV (tokens x).1 f) ⟨0,0,0⟩ with
  | .ok n _=>some (n,0,0)
  | .fail a e=>some (.mk 0 0 [] 0 [],a,e)
  | .out=>none
 else some (.mk 0 0 [] 0 [],(tokens x).2.1,(tokens x).2.2)
end
section
variable {α β:Type}
def keeps (r:PR α) (d:Int):Prop:=∀x s,r=.ok x s→s.deep=d
theorem cf {x:α} {s:PS} {d:Int} (h:s.deep=d):keeps (.ok x s) d:=fun y s' e=>by cases e; exact h
theorem fC {a e d:Int}:keeps (.fail a e:PR α) d:=fun y s' e=>by cases e
theorem eD {d:Int}:keeps (.out:PR α) d:=fun y s' e=>by cases e
theorem aN {r:PR α} {k:α→PS→PR β} {d d':Int} (h:keeps r d) (hk:∀x s,s.deep=d→keeps (k x s) d'):keeps (r.bind k) d':=by
 cases r with
 | ok x s=>exact hk x s (h x s rfl)
 | fail=>exact fC
 | out=>exact eD
theorem bc {c:Bool} {r r':PR α} {d:Int} (h:keeps r d) (h':keeps r' d):keeps (bif c then r else r') d:=by cases c<;>assumption
variable {l:List Tok} {g:dU}
theorem nB {e:Int} {s:PS} {d:Int}:keeps (ib l e s:PR α) d:=fC
theorem bD {x:List UInt8} {s:PS}:keeps (dw l x s) s.deep:=bc (cf rfl) (cf rfl)
theorem cO {x:List UInt8} {s:PS}:keeps (ff l x s) s.deep:=bc (cf rfl) fC
theorem gT {s:PS}:keeps (iH l s) s.deep:=bc (cf rfl) fC
theorem l8 {s:PS}:keeps (pa l s) s.deep:=bc (cf rfl) (bc (cf rfl) (bc (cf rfl) fC))
theorem bT {n:Nd} {s:PS}:keeps (dB l n s) s.deep:=by
 unfold dB
 split
 ·exact fC
 ·exact cf rfl
theorem gj {s:PS}:keeps (lu l s) s.deep:=by
 have Ti:∀n:Nd,keeps ((dB l n (cw s)).bind fun n s=>.ok (n,true) s) s.deep:=fun n=>aN bT fun x s' e=>cf e
 unfold lu
 exact bc (Ti _) (bc (Ti _) (bc (Ti _) (bc (Ti _) (cf rfl))))
theorem l7 {s:PS}:keeps (Bi l s) s.deep:=by
 unfold Bi
 refine aN bD fun mi bZ e1=>aN (d:=bZ.deep) gj fun x dT e2=>bc nB (cf ?_)
 rw [e2,e1]
theorem jo {body:PS→PR α} {s:PS} (h:∀s',keeps (body s') s'.deep):keeps (kP l body s) s.deep:=by
 unfold kP TA
 split
 ·exact fC
 ·refine aN (d:=s.deep+1) (cf rfl) fun _ bZ e1=>aN (h bZ) fun x s' e=>cf ?_
  rw [e,e1]; simp only; omega
structure mW (g:dU):Prop where
 expr:∀k s,keeps (g.expr k s) s.deep
 unary:∀s,keeps (g.unary s) s.deep
 call:∀x s,keeps (g.call x s) s.deep
 block:∀s,keeps (g.block s) s.deep
 stmt:∀s,keeps (g.stmt s) s.deep
 branch:∀s,keeps (g.branch s) s.deep
theorem a7 {r:PR α} {s:PS} {d:Int} (e:s.deep=d) (h:keeps r s.deep):keeps r d:=e▸h
variable (hg:mW g)
include hg
theorem s6 {k:Int}:∀(j:Nat) (n:Nd) (s:PS) (d:Int),s.deep=d→keeps (sL l g k j n s) d
 | 0,n,s,d,e=>eD
 | j+1,n,s,d,e=>by
  unfold sL
  refine bc (cf e) (aN (d:=d) (a7 (s:=cw s) e (hg.expr _ _)) fun r bZ e1=>aN (d:=d) (a7 e1 bT) fun n dT e2=>s6 j n dT d e2)
theorem s5:∀(j:Nat) (n:Nd) (s:PS) (d:Int),s.deep=d→keeps (pe l g j n s) d
 | 0,n,s,d,e=>eD
 | j+1,n,s,d,e=>by
  unfold pe
  refine aN (d:=d) (a7 e bD) fun b bZ e1=>bc (cf e1) (aN (d:=d) (bc (a7 e1 cO) (cf e1)) fun _ dT e2=>bc nB (aN (d:=d) (a7 e2 (hg.expr _ _)) fun x ez e3=>s5 j _ ez d e3))
theorem qE:∀(j:Nat) (n:Nd) (s:PS) (d:Int),s.deep=d→keeps (ll l g j n s) d
 | 0,n,s,d,e=>eD
 | j+1,n,s,d,e=>by
  unfold ll
  refine aN (d:=d) (a7 e bD) fun b bZ e1=>bc (cf e1) (bc nB (aN (d:=d) (a7 e1 (hg.stmt _)) fun x ez e3=>qE j _ ez d e3))
theorem ja {k:Int} {x:List UInt8} {s:PS}:keeps (ic l g k x s) s.deep:=by
 unfold ic
 generalize hd:s.deep=d
 repeat' first
  | exact fC
  | exact eD
  | exact cf (by first | rfl | assumption)
  | refine bc ?_ ?_
  | refine aN (d:=d) (a7 (by first | rfl | assumption) (by first | exact bD | exact cO | exact gT | exact l8 | exact bT | exact gj | exact l7 | exact hg.expr _ _ | exact hg.unary _ | exact hg.call _ _ | exact hg.block _ | exact hg.stmt _ | exact hg.branch _)) fun _ _ _=>?_
  | exact a7 (by first | rfl | assumption) (by first | exact bD | exact cO | exact gT | exact l8 | exact bT | exact gj | exact l7 | exact hg.expr _ _ | exact hg.unary _ | exact hg.call _ _ | exact hg.block _ | exact hg.stmt _ | exact hg.branch _)
  | (refine aN (d:=d) (bc (a7 (by first | rfl | assumption) cO) (cf (by first | rfl | assumption))) fun _ _ _=>?_)
theorem s7 {t:Int} {s:PS}:keeps (pt l g t s) s.deep:=by
 unfold pt
 generalize hd:s.deep=d
 repeat' first
  | exact fC
  | exact eD
  | exact cf (by first | rfl | assumption)
  | refine bc ?_ ?_
  | refine aN (d:=d) (a7 (by first | rfl | assumption) (by first | exact bD | exact cO | exact gT | exact l8 | exact bT | exact gj | exact l7 | exact hg.expr _ _ | exact hg.unary _ | exact hg.call _ _ | exact hg.block _ | exact hg.stmt _ | exact hg.branch _)) fun _ _ _=>?_
  | exact a7 (by first | rfl | assumption) (by first | exact bD | exact cO | exact gT | exact l8 | exact bT | exact gj | exact l7 | exact hg.expr _ _ | exact hg.unary _ | exact hg.call _ _ | exact hg.block _ | exact hg.stmt _ | exact hg.branch _)
  | (refine aN (d:=d) (bc (a7 (by first | rfl | assumption) cO) (cf (by first | rfl | assumption))) fun _ _ _=>?_)
theorem yW {x:List UInt8} {s:PS}:keeps (RN l g x s) s.deep:=jo fun s'=>aN (hg.unary s') fun n dT e2=>a7 e2 bT
theorem F7:mW ⟨yj l g,n_ l g,ya l g,rR l g,tA l g,oh l g⟩ where
 expr k s:=jo fun s'=>aN (hg.unary s') fun n dT e2=>s6 hg _ _ _ _ e2
 unary s:=by
  show keeps (n_ l g s) s.deep
  unfold n_
  refine aN bD fun b bZ e1=>bc (a7 e1 (yW hg)) (aN (a7 e1 bD) fun b dT e2=>bc (a7 e2 (yW hg)) (aN (a7 e2 gj) fun x ez e3=>bc (cf e3)
   (aN (a7 e3 bD) fun b mK e4=>bc (a7 e4 (s7 hg)) (aN (a7 e4 bD) fun b xw e5=>bc (a7 e5 (s7 hg)) (aN (a7 e5 bD) fun b wF e6=>bc
    (aN (a7 e6 (hg.expr _ _)) fun n BK e7=>aN (a7 e7 cO) fun _ ZJ e8=>cf e8)
    (aN (a7 e6 gT) fun x BK e7=>bc (a7 e7 (hg.call _ _)) (a7 e7 bT)))))))
 call x s:=jo fun s'=>aN bT fun n dT e2=>aN (a7 e2 cO) fun _ ez e3=>s5 hg _ _ _ _ e3
 block s:=jo fun s'=>aN cO fun _ dT e2=>aN (a7 e2 bT) fun _ ez e3=>qE hg _ _ _ _ e3
 stmt s:=by
  show keeps (tA l g s) s.deep
  unfold tA
  refine aN bD fun b bZ e1=>bc (a7 e1 (hg.branch _)) (aN (a7 e1 bD) fun b dT e2=>bc
   (aN (a7 e2 bT) fun n ez e3=>aN (a7 e3 (hg.expr _ _)) fun e mK e4=>aN (a7 e4 (hg.block _)) fun b xw e5=>cf e5)
   (aN (a7 e2 bD) fun b ez e3=>bc (a7 e3 (ja hg)) (aN (a7 e3 bD) fun b mK e4=>bc (a7 e4 (ja hg))
    (aN (a7 e4 bD) fun b xw e5=>bc (aN (a7 e5 cO) fun _ wF e6=>a7 e6 bT)
     (aN (a7 e5 gT) fun x wF e6=>aN (a7 e6 bD) fun b BK e7=>bc (a7 e7 (ja hg)) (aN (a7 e7 bD) fun b ZJ e8=>bc (a7 e8 (ja hg))
      (aN (a7 e8 bT) fun n s9p e9=>aN (a7 e9 (hg.call _ _)) fun c t1 f1=>aN (a7 f1 cO) fun _ t2 f2=>cf f2)))))))
 branch s:=jo fun s'=>aN bT fun n dT e2=>aN (a7 e2 (hg.expr _ _)) fun e ez e3=>aN (a7 e3 (hg.block _)) fun b mK e4=>aN (a7 e4 bD) fun t xw e5=>bc (cf e5)
  (aN (a7 e5 bD) fun t wF e6=>bc (aN (a7 e6 bT) fun m BK e7=>aN (a7 e7 (hg.branch _)) fun x ZJ e8=>cf e8) (aN (a7 e6 (hg.block _)) fun b2 BK e7=>cf e7))
omit hg
theorem r9 (l:List Tok):∀f,mW (mV l f)
 | 0=>⟨fun _ _=>eD,fun _=>eD,fun _ _=>eD,fun _=>eD,fun _=>eD,fun _=>eD⟩
 | f+1=>F7 (r9 l f)
end
end Go.Proofs.YtpklkpkfgmoghaaGreatDoor.Zz
namespace Go.Proofs.YtpklkpkfgmoghaaGreatDoor.Zz
noncomputable section
abbrev Wd:=Int×List UInt8
abbrev SR (α:Type):=Option (α×List Wd×Int)
section
variable {α β:Type}
def kr (l:List Tok):List Wd:=l.map fun t=>(t.1,t.2.1)
def vw (l:List Tok) (s:PS):List Wd:=kr (l.drop s.pos.toNat)
theorem xh (l:List Tok) (s:PS):(vw l s).length≤l.length:=by simp [vw,kr]
theorem G2 {l:List Tok} {s:PS} (h:vw l s=[]):dQ l s=(0,[],0):=by
 simp only [vw,kr,List.map_eq_nil_iff,List.drop_eq_nil_iff] at h
 simp [dQ,h]
theorem uQ {l:List Tok} {s:PS} {k:Int} {w:List UInt8} {r:List Wd} (hp:0≤s.pos) (h:vw l s=(k,w)::r):(dQ l s).1=k∧(dQ l s).2.1=w∧vw l (cw s)=r:=by
 simp only [vw,kr] at h
 cases e:l.drop s.pos.toNat with
 | nil=>rw [e] at h; cases h
 | cons t q=>
  rw [e] at h
  simp only [List.map_cons,List.cons.injEq,Prod.mk.injEq] at h
  have e1:l.getD s.pos.toNat (0,[],0)=t:=by
   have:=congrArg (fun l:List Tok=>l[0]?) e
   simp only [List.getElem?_drop,Nat.add_zero,List.getElem?_cons_zero] at this
   rw [List.getD_eq_getElem?_getD,this]; rfl
  have e2:l.drop (s.pos.toNat+1)=q:=by
   rw [←List.drop_drop,e]; rfl
  refine ⟨by rw [dQ,e1]; exact h.1.1,by rw [dQ,e1]; exact h.1.2,?_⟩
  have e3:(s.pos+1).toNat=s.pos.toNat+1:=by omega
  simp only [vw,cw,e3,e2,kr]
  exact h.2
def Rel (l:List Tok) (r:PR α) (q:SR α) (d:Int):Prop:=∀x ws m,q=some (x,ws,m)→∃s':PS,r=.ok x s'∧vw l s'=ws∧s'.cH=m∧s'.deep=d∧0≤s'.pos
theorem Rel.none {l:List Tok} {r:PR α} {d:Int}:Rel l r none d:=fun _ _ _ e=>by cases e
theorem Rel.ok {l:List Tok} {x:α} {s:PS} {d:Int} (h1:s.deep=d) (h2:0≤s.pos):Rel l (.ok x s) (some (x,vw l s,s.cH)) d:=fun y ws m e=>by
 cases e; exact ⟨s,rfl,rfl,rfl,h1,h2⟩
theorem Rel.o_ {l:List Tok} {x:α} {s:PS} {d:Int} {ws:List Wd} (h1:s.deep=d) (h2:0≤s.pos) (h3:vw l s=ws):Rel l (.ok x s) (some (x,ws,s.cH)) d:=fun y ws m e=>by
 cases e; exact ⟨s,rfl,h3,rfl,h1,h2⟩
theorem Rel.bind {l:List Tok} {r:PR α} {q:SR α} {k:α→PS→PR β} {kk:α×List Wd×Int→SR β} {d d':Int} (h:Rel l r q d) (hk:∀x s',s'.deep=d→0≤s'.pos→Rel l (k x s') (kk (x,vw l s',s'.cH)) d'):Rel l (r.bind k) (q.bind kk) d':=fun z ws m e=>by
 cases hq:q with
 | none=>rw [hq] at e; cases e
 | some y=>
  obtain ⟨x,w1,m1⟩:=y
  obtain ⟨bZ,rfl,rfl,rfl,a,b⟩:=h x w1 m1 hq
  rw [hq] at e
  exact hk x bZ a b z ws m e
theorem Rel.cond {l:List Tok} {c:Bool} {r r':PR α} {q q':SR α} {d:Int} (h:Rel l r q d) (h':Rel l r' q' d):Rel l (bif c then r else r') (bif c then q else q') d:=by cases c<;>assumption
def km (x:List UInt8):List Wd→Bool
 | []=>false
 | (k,w)::_=>w==x && (k==5 || k==4)
theorem nV {l:List Tok} {s:PS} {x:List UInt8} (hp:0≤s.pos):lQ l x s=km x (vw l s):=by
 cases e:vw l s with
 | nil=>simp [lQ,G2 e,km]
 | cons t r=>
  obtain ⟨k,w⟩:=t
  obtain ⟨a,b,_⟩:=uQ hp e
  simp [lQ,a,b,km]
theorem o7 {l:List Tok} {s:PS} (hp:0≤s.pos):vw l (cw s)=(vw l s).tail:=by
 cases e:vw l s with
 | nil=>
  have e3:(s.pos+1).toNat=s.pos.toNat+1:=by omega
  simp only [vw,kr,List.map_eq_nil_iff,List.drop_eq_nil_iff] at e
  simp only [vw,kr,cw,e3,List.tail_nil,List.map_eq_nil_iff,List.drop_eq_nil_iff]
  omega
 | cons t r=>
  obtain ⟨k,w⟩:=t
  exact (uQ hp e).2.2
def fw (x:List UInt8) (ws:List Wd) (m:Int):SR Bool:=bif km x ws then some (true,ws.tail,m) else some (false,ws,m)
theorem dj {l:List Tok} {s:PS} {x:List UInt8} {d:Int} (hp:0≤s.pos) (hd:s.deep=d):Rel l (dw l x s) (fw x (vw l s) s.cH) d:=by
 unfold dw fw
 rw [nV hp]
 exact Rel.cond (Rel.o_ (s:=cw s) hd (by simp only [cw]; omega) (o7 hp)) (Rel.ok hd hp)
def iI (x:List UInt8) (ws:List Wd) (m:Int):SR Unit:=bif km x ws then some ((),ws.tail,m) else none
theorem eP {l:List Tok} {s:PS} {x:List UInt8} {d:Int} (hp:0≤s.pos) (hd:s.deep=d):Rel l (ff l x s) (iI x (vw l s) s.cH) d:=by
 unfold ff iI
 rw [nV hp]
 exact Rel.cond (Rel.o_ (s:=cw s) hd (by simp only [cw]; omega) (o7 hp)) Rel.none
def mL:List Wd→Int
 | []=>0
 | t::_=>t.1
def mM:List Wd→List UInt8
 | []=>[]
 | t::_=>t.2
theorem qX {l:List Tok} {s:PS} (hp:0≤s.pos):(dQ l s).1=mL (vw l s):=by
 cases e:vw l s with
 | nil=>rw [G2 e]; rfl
 | cons t r=>obtain ⟨k,w⟩:=t; exact (uQ hp e).1
theorem wM {l:List Tok} {s:PS} (hp:0≤s.pos):(dQ l s).2.1=mM (vw l s):=by
 cases e:vw l s with
 | nil=>rw [G2 e]; rfl
 | cons t r=>obtain ⟨k,w⟩:=t; exact (uQ hp e).2.1
def qY (ws:List Wd) (m:Int):SR (List UInt8):=bif mL ws==1 then some (mM ws,ws.tail,m) else none
theorem lU {l:List Tok} {s:PS} {d:Int} (hp:0≤s.pos) (hd:s.deep=d):Rel l (iH l s) (qY (vw l s) s.cH) d:=by
 unfold iH qY
 rw [qX hp,wM hp]
 exact Rel.cond (Rel.o_ (s:=cw s) hd (by simp only [cw]; omega) (o7 hp)) Rel.none
def GB (ws:List Wd) (m:Int):SR Int:=bif km mF ws then some (1,ws.tail,m) else bif km fF ws then some (2,ws.tail,m) else bif km xj ws then some (3,ws.tail,m) else none
theorem Bp {l:List Tok} {s:PS} {d:Int} (hp:0≤s.pos) (hd:s.deep=d):Rel l (pa l s) (GB (vw l s) s.cH) d:=by
 have h:∀x:Int,Rel l (.ok x (cw s)) (some (x,(vw l s).tail,s.cH)) d:=fun x=>Rel.o_ (s:=cw s) hd (by simp only [cw]; omega) (o7 hp)
 unfold pa GB
 rw [nV hp,nV hp,nV hp]
 exact Rel.cond (h _) (Rel.cond (h _) (Rel.cond (h _) Rel.none))
def gp (n:Nd) (ws:List Wd) (m:Int):SR Nd:=if m+1>2000 then none else some (n,ws,m+1)
theorem dH {l:List Tok} {s:PS} {n:Nd} {d:Int} (hp:0≤s.pos) (hd:s.deep=d):Rel l (dB l n s) (gp n (vw l s) s.cH) d:=by
 unfold dB gp
 split
 ·exact Rel.none
 ·exact Rel.o_ (s:={ s with cH:=s.cH+1 }) hd hp rfl
def tv (body:Int→List Wd→Int→SR α) (d:Int) (ws:List Wd) (m:Int):SR α:=if d+1>40 then none else body (d+1) ws m
theorem nU {l:List Tok} {s:PS} {body:PS→PR α} {sb:Int→List Wd→Int→SR α} {d:Int} (hp:0≤s.pos) (hd:s.deep=d) (h:∀s',s'.deep=d+1→0≤s'.pos→Rel l (body s') (sb (d+1) (vw l s') s'.cH) (d+1)):Rel l (kP l body s) (tv sb d (vw l s) s.cH) d:=by
 unfold kP tv TA
 subst hd
 split
 ·exact Rel.none
 ·intro x ws m e
  obtain ⟨bZ,e1,e2,e3,e4,e5⟩:=h { s with deep:=s.deep+1 } rfl hp x ws m e
  refine ⟨{ bZ with deep:=bZ.deep - 1 },?_,e2,e3,by simp only; omega,e5⟩
  show Gm (body _)=_
  rw [e1]; rfl
def tz (n:Nd) (ws:List Wd) (m:Int):SR (Nd×Bool):=(gp n ws.tail m).bind fun y=>some ((y.1,true),y.2.1,y.2.2)
def ie (ws:List Wd) (m:Int):SR (Nd×Bool):=
 bif mL ws==2 then tz (.mk 20 0 [] (dX (mM ws):Nat) []) ws m
 else bif mL ws==3 then tz (iR (mM ws)) ws m
 else bif km lY ws then tz (.mk 22 0 [] 1 []) ws m
 else bif km iU ws then tz (.mk 22 0 [] 0 []) ws m
 else some ((.mk 0 0 [] 0 [],false),ws,m)
theorem zP {l:List Tok} {s:PS} {d:Int} (hp:0≤s.pos) (hd:s.deep=d):Rel l (lu l s) (ie (vw l s) s.cH) d:=by
 have h:∀n:Nd,Rel l ((dB l n (cw s)).bind fun n s=>.ok (n,true) s) (tz n (vw l s) s.cH) d:=fun n=>by
  unfold tz
  have h1:=dH (l:=l) (s:=cw s) (n:=n) (d:=d) (by simp only [cw]; omega) hd
  rw [o7 hp] at h1
  exact Rel.bind h1 fun x s' a b=>Rel.ok a b
 unfold lu ie
 simp only [nV hp,qX hp,wM hp]
 exact Rel.cond (h _) (Rel.cond (h _) (Rel.cond (h _) (Rel.cond (h _) (Rel.ok hd hp))))
end
structure rO where
 expr:Int→Int→List Wd→Int→SR Nd
 unary:Int→List Wd→Int→SR Nd
 call:List UInt8→Int→List Wd→Int→SR Nd
 block:Int→List Wd→Int→SR Nd
 stmt:Int→List Wd→Int→SR Nd
 branch:Int→List Wd→Int→SR Nd
section
variable (g:rO)
def mq (least d:Int):Nat→Nd→List Wd→Int→SR Nd
 | 0,_,_,_=>none
 | j+1,n,ws,m=>bif mL ws != 5 || decide (ft (mM ws)≤least) then some (n,ws,m)
  else (g.expr (ft (mM ws)) d ws.tail m).bind fun y=>(gp (.mk 26 0 (mM ws) 0 [n,y.1]) y.2.1 y.2.2).bind fun z=>mq least d j z.1 z.2.1 z.2.2
def zK (least:Int):Int→List Wd→Int→SR Nd:=tv fun d ws m=>(g.unary d ws m).bind fun y=>mq g least d (y.2.1.length+1) y.1 y.2.1 y.2.2
def Xv (x:List UInt8):Int→List Wd→Int→SR Nd:=tv fun d ws m=>(g.unary d ws m).bind fun y=>gp (.mk 25 0 x 0 [y.1]) y.2.1 y.2.2
def zJ (t:Int) (d:Int) (ws:List Wd) (m:Int):SR Nd:=(iI [40] ws m).bind fun y=>(g.expr 0 d y.2.1 y.2.2).bind fun y=>(gp (.mk 27 t [] 0 [y.1]) y.2.1 y.2.2).bind fun z=>(iI [41] z.2.1 z.2.2).bind fun y=>some (z.1,y.2.1,y.2.2)
def iT (d:Int) (ws:List Wd) (m:Int):SR Nd:=
 (fw [45] ws m).bind fun y=>bif y.1 then Xv g [45] d y.2.1 y.2.2 else
 (fw [33] y.2.1 y.2.2).bind fun y=>bif y.1 then Xv g [33] d y.2.1 y.2.2 else
 (ie y.2.1 y.2.2).bind fun y=>bif y.1.2 then some (y.1.1,y.2.1,y.2.2) else
 (fw mF y.2.1 y.2.2).bind fun y=>bif y.1 then zJ g 1 d y.2.1 y.2.2 else
 (fw fF y.2.1 y.2.2).bind fun y=>bif y.1 then zJ g 2 d y.2.1 y.2.2 else
 (fw [40] y.2.1 y.2.2).bind fun y=>bif y.1 then (g.expr 0 d y.2.1 y.2.2).bind fun z=>(iI [41] z.2.1 z.2.2).bind fun y=>some (z.1,y.2.1,y.2.2) else
 (qY y.2.1 y.2.2).bind fun y=>bif km [40] y.2.1 then g.call y.1 d y.2.1 y.2.2 else gp (.mk 23 0 y.1 0 []) y.2.1 y.2.2
def mo (d:Int):Nat→Nd→List Wd→Int→SR Nd
 | 0,_,_,_=>none
 | j+1,n,ws,m=>(fw [41] ws m).bind fun y=>bif y.1 then some (n,y.2.1,y.2.2) else
  (bif decide (n.bM.length>0) then iI [44] y.2.1 y.2.2 else some ((),y.2.1,y.2.2)).bind fun y=>
  bif decide (n.bM.length≥6) then none else (g.expr 0 d y.2.1 y.2.2).bind fun y=>mo d j (n.c_ y.1) y.2.1 y.2.2
def D2 (x:List UInt8):Int→List Wd→Int→SR Nd:=tv fun d ws m=>(gp (.mk 24 0 x 0 []) ws m).bind fun y=>(iI [40] y.2.1 y.2.2).bind fun z=>mo g d (z.2.1.length+1) y.1 z.2.1 z.2.2
def mn (d:Int):Nat→Nd→List Wd→Int→SR Nd
 | 0,_,_,_=>none
 | j+1,n,ws,m=>(fw [125] ws m).bind fun y=>bif y.1 then some (n,y.2.1,y.2.2) else
  bif decide (n.bM.length≥32) then none else (g.stmt d y.2.1 y.2.2).bind fun y=>mn d j (n.c_ y.1) y.2.1 y.2.2
def wG:Int→List Wd→Int→SR Nd:=tv fun d ws m=>(iI [123] ws m).bind fun y=>(gp (.mk 6 0 [] 0 []) y.2.1 y.2.2).bind fun y=>mn g d (y.2.1.length+1) y.1 y.2.1 y.2.2
def kV (k:Int) (x:List UInt8) (d:Int) (ws:List Wd) (m:Int):SR Nd:=(gp (.mk k 0 x 0 []) ws m).bind fun y=>(g.expr 0 d y.2.1 y.2.2).bind fun e=>(iI [59] e.2.1 e.2.2).bind fun z=>some (y.1.br [e.1],z.2.1,z.2.2)
def lV (d:Int) (ws:List Wd) (m:Int):SR Nd:=
 (fw Fq ws m).bind fun y=>bif y.1 then g.branch d y.2.1 y.2.2 else
 (fw Fg y.2.1 y.2.2).bind fun y=>bif y.1 then (gp (.mk 10 0 [] 0 []) y.2.1 y.2.2).bind fun n=>(g.expr 0 d n.2.1 n.2.2).bind fun e=>(g.block d e.2.1 e.2.2).bind fun b=>some (n.1.br [e.1,b.1],b.2.1,b.2.2) else
 (fw lf y.2.1 y.2.2).bind fun y=>bif y.1 then kV g 11 [] d y.2.1 y.2.2 else
 (fw ld y.2.1 y.2.2).bind fun y=>bif y.1 then kV g 12 [] d y.2.1 y.2.2 else
 (fw Ai y.2.1 y.2.2).bind fun y=>bif y.1 then (iI [59] y.2.1 y.2.2).bind fun y=>gp (.mk 14 0 [] 0 []) y.2.1 y.2.2 else
 (qY y.2.1 y.2.2).bind fun x=>
 (fw [58,61] x.2.1 x.2.2).bind fun y=>bif y.1 then kV g 7 x.1 d y.2.1 y.2.2 else
 (fw [61] y.2.1 y.2.2).bind fun y=>bif y.1 then kV g 8 x.1 d y.2.1 y.2.2 else
 (gp (.mk 13 0 [] 0 []) y.2.1 y.2.2).bind fun n=>(g.call x.1 d n.2.1 n.2.2).bind fun c=>(iI [59] c.2.1 c.2.2).bind fun z=>some (n.1.br [c.1],z.2.1,z.2.2)
def oO:Int→List Wd→Int→SR Nd:=tv fun d ws m=>(gp (.mk 9 0 [] 0 []) ws m).bind fun n=>(g.expr 0 d n.2.1 n.2.2).bind fun e=>(g.block d e.2.1 e.2.2).bind fun b=>
 (fw jM b.2.1 b.2.2).bind fun t=>bif !t.1 then some (n.1.br [e.1,b.1],t.2.1,t.2.2) else
 (fw Fq t.2.1 t.2.2).bind fun t=>bif t.1 then (gp (.mk 6 0 [] 0 []) t.2.1 t.2.2).bind fun q=>(g.branch d q.2.1 q.2.2).bind fun x=>some ((n.1.br [e.1,b.1]).c_ (q.1.br [x.1]),x.2.1,x.2.2)
 else (g.block d t.2.1 t.2.2).bind fun b2=>some ((n.1.br [e.1,b.1]).c_ b2.1,b2.2.1,b2.2.2)
end
def sF:Nat→rO
 | 0=>⟨fun _ _ _ _=>none,fun _ _ _=>none,fun _ _ _ _=>none,fun _ _ _=>none,fun _ _ _=>none,fun _ _ _=>none⟩
 | f+1=>⟨zK (sF f),iT (sF f),D2 (sF f),wG (sF f),lV (sF f),oO (sF f)⟩
structure Mg (l:List Tok) (p:dU) (g:rO):Prop where
 expr:∀k s d,0≤s.pos→s.deep=d→Rel l (p.expr k s) (g.expr k d (vw l s) s.cH) d
 unary:∀s d,0≤s.pos→s.deep=d→Rel l (p.unary s) (g.unary d (vw l s) s.cH) d
 call:∀x s d,0≤s.pos→s.deep=d→Rel l (p.call x s) (g.call x d (vw l s) s.cH) d
 block:∀s d,0≤s.pos→s.deep=d→Rel l (p.block s) (g.block d (vw l s) s.cH) d
 stmt:∀s d,0≤s.pos→s.deep=d→Rel l (p.stmt s) (g.stmt d (vw l s) s.cH) d
 branch:∀s d,0≤s.pos→s.deep=d→Rel l (p.branch s) (g.branch d (vw l s) s.cH) d
section
variable {l:List Tok} {p:dU} {g:rO} (h:Mg l p g)
include h
theorem zL {k d:Int}:∀(J j:Nat) (n:Nd) (s:PS),J≤j→0≤s.pos→s.deep=d→Rel l (sL l p k j n s) (mq g k d J n (vw l s) s.cH) d
 | 0,_,n,s,_,_,_=>Rel.none
 | J+1,0,n,s,hj,_,_=>by omega
 | J+1,j+1,n,s,hj,hp,hd=>by
  unfold sL mq
  rw [qX hp,wM hp]
  refine Rel.cond (Rel.ok hd hp) ?_
  have h1:=h.expr (ft (mM (vw l s))) (cw s) d (by simp only [cw]; omega) hd
  rw [o7 hp] at h1
  refine Rel.bind h1 fun x bZ a b=>?_
  exact Rel.bind (dH b a) fun y dT a b=>zL J j y dT (by omega) b a
theorem OC (k:Int) (s:PS) (d:Int) (hp:0≤s.pos) (hd:s.deep=d):Rel l (yj l p k s) (zK g k d (vw l s) s.cH) d:=by
 unfold yj zK
 refine nU hp hd fun bZ a b=>?_
 refine Rel.bind (h.unary bZ (d+1) b a) fun x dT a b=>?_
 exact zL h _ _ x dT (Nat.add_le_add_right (xh l dT) 1) b a
theorem OJ (x:List UInt8) (s:PS) (d:Int) (hp:0≤s.pos) (hd:s.deep=d):Rel l (RN l p x s) (Xv g x d (vw l s) s.cH) d:=by
 unfold RN Xv
 refine nU hp hd fun bZ a b=>?_
 exact Rel.bind (h.unary bZ (d+1) b a) fun x dT a b=>dH b a
theorem D3 (t:Int) (s:PS) (d:Int) (hp:0≤s.pos) (hd:s.deep=d):Rel l (pt l p t s) (zJ g t d (vw l s) s.cH) d:=by
 unfold pt zJ
 refine Rel.bind (eP hp hd) fun _ bZ a b=>?_
 refine Rel.bind (h.expr 0 bZ d b a) fun x dT a b=>?_
 refine Rel.bind (dH b a) fun x ez a b=>?_
 exact Rel.bind (eP b a) fun _ mK a b=>Rel.ok a b
theorem LS (s:PS) (d:Int) (hp:0≤s.pos) (hd:s.deep=d):Rel l (n_ l p s) (iT g d (vw l s) s.cH) d:=by
 unfold n_ iT
 refine Rel.bind (dj hp hd) fun t bZ a b=>Rel.cond (OJ h _ bZ d b a) ?_
 refine Rel.bind (dj b a) fun t bZ a b=>Rel.cond (OJ h _ bZ d b a) ?_
 refine Rel.bind (zP b a) fun t bZ a b=>Rel.cond (Rel.ok a b) ?_
 refine Rel.bind (dj b a) fun t bZ a b=>Rel.cond (D3 h _ bZ d b a) ?_
 refine Rel.bind (dj b a) fun t bZ a b=>Rel.cond (D3 h _ bZ d b a) ?_
 refine Rel.bind (dj b a) fun t bZ a b=>Rel.cond ?_ ?_
 ·refine Rel.bind (h.expr 0 bZ d b a) fun x dT a b=>?_
  exact Rel.bind (eP b a) fun _ mK a b=>Rel.ok a b
 ·refine Rel.bind (lU b a) fun x dT a b=>?_
  rw [nV b]
  exact Rel.cond (h.call x dT d b a) (dH b a)
theorem zI {d:Int}:∀(J j:Nat) (n:Nd) (s:PS),J≤j→0≤s.pos→s.deep=d→Rel l (pe l p j n s) (mo g d J n (vw l s) s.cH) d
 | 0,_,n,s,_,_,_=>Rel.none
 | J+1,0,n,s,hj,_,_=>by omega
 | J+1,j+1,n,s,hj,hp,hd=>by
  unfold pe mo
  refine Rel.bind (dj hp hd) fun t bZ a b=>Rel.cond (Rel.ok a b) ?_
  refine Rel.bind (d:=d) (Rel.cond (eP b a) (Rel.ok a b)) fun _ dT a b=>Rel.cond Rel.none ?_
  exact Rel.bind (h.expr 0 dT d b a) fun x ez a b=>zI J j _ ez (by omega) b a
theorem OA (x:List UInt8) (s:PS) (d:Int) (hp:0≤s.pos) (hd:s.deep=d):Rel l (ya l p x s) (D2 g x d (vw l s) s.cH) d:=by
 unfold ya D2
 refine nU hp hd fun bZ a b=>?_
 refine Rel.bind (dH b a) fun n dT a b=>?_
 exact Rel.bind (eP b a) fun _ ez a b=>zI h _ _ n ez (Nat.add_le_add_right (xh l ez) 1) b a
theorem wH {d:Int}:∀(J j:Nat) (n:Nd) (s:PS),J≤j→0≤s.pos→s.deep=d→Rel l (ll l p j n s) (mn g d J n (vw l s) s.cH) d
 | 0,_,n,s,_,_,_=>Rel.none
 | J+1,0,n,s,hj,_,_=>by omega
 | J+1,j+1,n,s,hj,hp,hd=>by
  unfold ll mn
  refine Rel.bind (dj hp hd) fun t bZ a b=>Rel.cond (Rel.ok a b) (Rel.cond Rel.none ?_)
  exact Rel.bind (h.stmt bZ d b a) fun x ez a b=>wH J j _ ez (by omega) b a
theorem LO (s:PS) (d:Int) (hp:0≤s.pos) (hd:s.deep=d):Rel l (rR l p s) (wG g d (vw l s) s.cH) d:=by
 unfold rR wG
 refine nU hp hd fun bZ a b=>?_
 refine Rel.bind (eP b a) fun _ dT a b=>?_
 exact Rel.bind (dH b a) fun n ez a b=>wH h _ _ n ez (Nat.add_le_add_right (xh l ez) 1) b a
theorem mr (k:Int) (x:List UInt8) (s:PS) (d:Int) (hp:0≤s.pos) (hd:s.deep=d):Rel l (ic l p k x s) (kV g k x d (vw l s) s.cH) d:=by
 unfold ic kV
 refine Rel.bind (dH hp hd) fun n bZ a b=>?_
 refine Rel.bind (h.expr 0 bZ d b a) fun e dT a b=>?_
 exact Rel.bind (eP b a) fun _ mK a b=>Rel.ok a b
theorem OI (s:PS) (d:Int) (hp:0≤s.pos) (hd:s.deep=d):Rel l (tA l p s) (lV g d (vw l s) s.cH) d:=by
 unfold tA lV
 refine Rel.bind (dj hp hd) fun t bZ a b=>Rel.cond (h.branch bZ d b a) ?_
 refine Rel.bind (dj b a) fun t bZ a b=>Rel.cond ?_ ?_
 ·refine Rel.bind (dH b a) fun n dT a b=>?_
  refine Rel.bind (h.expr 0 dT d b a) fun e ez a b=>?_
  exact Rel.bind (h.block ez d b a) fun b mK a b=>Rel.ok a b
 refine Rel.bind (dj b a) fun t bZ a b=>Rel.cond (mr h _ _ bZ d b a) ?_
 refine Rel.bind (dj b a) fun t bZ a b=>Rel.cond (mr h _ _ bZ d b a) ?_
 refine Rel.bind (dj b a) fun t bZ a b=>Rel.cond ?_ ?_
 ·exact Rel.bind (eP b a) fun _ dT a b=>dH b a
 refine Rel.bind (lU b a) fun x dT a b=>?_
 refine Rel.bind (dj b a) fun t bZ a b=>Rel.cond (mr h _ _ bZ d b a) ?_
 refine Rel.bind (dj b a) fun t bZ a b=>Rel.cond (mr h _ _ bZ d b a) ?_
 refine Rel.bind (dH b a) fun n dT a b=>?_
 refine Rel.bind (h.call x dT d b a) fun c ez a b=>?_
 exact Rel.bind (eP b a) fun _ mK a b=>Rel.ok a b
theorem Gz (s:PS) (d:Int) (hp:0≤s.pos) (hd:s.deep=d):Rel l (oh l p s) (oO g d (vw l s) s.cH) d:=by
 unfold oh oO
 refine nU hp hd fun bZ a b=>?_
 generalize d+1=d at a
 refine Rel.bind (dH b a) fun n bZ a b=>?_
 refine Rel.bind (h.expr 0 bZ d b a) fun e bZ a b=>?_
 refine Rel.bind (h.block bZ d b a) fun b1 bZ a b=>?_
 refine Rel.bind (dj b a) fun t bZ a b=>Rel.cond (Rel.ok a b) ?_
 refine Rel.bind (dj b a) fun t bZ a b=>Rel.cond ?_ ?_
 ·refine Rel.bind (dH b a) fun q bZ a b=>?_
  exact Rel.bind (h.branch bZ d b a) fun x bZ a b=>Rel.ok a b
 ·exact Rel.bind (h.block bZ d b a) fun b2 bZ a b=>Rel.ok a b
end
theorem wJ (l:List Tok):∀f,Mg l (mV l f) (sF f)
 | 0=>⟨fun _ _ _ _ _=>Rel.none,fun _ _ _ _=>Rel.none,fun _ _ _ _ _=>Rel.none,fun _ _ _ _=>Rel.none,fun _ _ _ _=>Rel.none,fun _ _ _ _=>Rel.none⟩
 | f+1=>⟨OC (wJ l f),LS (wJ l f),OA (wJ l f),LO (wJ l f),OI (wJ l f),Gz (wJ l f)⟩
section
variable (g:rO)
def jd:Nat→Nd→List Wd→Int→SR Nd
 | 0,_,_,_=>none
 | j+1,n,ws,m=>(fw [41] ws m).bind fun y=>bif y.1 then some (n,y.2.1,y.2.2) else
  (bif decide (n.bM.length>0) then iI [44] y.2.1 y.2.2 else some ((),y.2.1,y.2.2)).bind fun y=>
  bif decide (n.bM.length≥6) then none else
  (qY y.2.1 y.2.2).bind fun x=>(GB x.2.1 x.2.2).bind fun t=>(gp (.mk 5 t.1 x.1 0 []) t.2.1 t.2.2).bind fun q=>jd j (n.c_ q.1) q.2.1 q.2.2
def OE (ws:List Wd) (m:Int):SR Nd:=(fw [45] ws m).bind fun mi=>(ie mi.2.1 mi.2.2).bind fun x=>
 bif !x.1.2 || (mi.1 && x.1.1.kind==22) then none
 else some (bif mi.1 && x.1.1.kind==20 then x.1.1.OK (IntKind.i64.wrap (0 - x.1.1.num)) else bif mi.1 && x.1.1.kind==21 then x.1.1.OK (VK x.1.1.num) else x.1.1,x.2.1,x.2.2)
def wI (d:Int) (ws:List Wd) (m:Int):SR Nd:=
 (fw kD ws m).bind fun y=>bif y.1 then (qY y.2.1 y.2.2).bind fun x=>(GB x.2.1 x.2.2).bind fun t=>(gp (.mk 2 t.1 x.1 0 []) t.2.1 t.2.2).bind fun n=>(iI [61] n.2.1 n.2.2).bind fun z=>(OE z.2.1 z.2.2).bind fun v=>(iI [59] v.2.1 v.2.2).bind fun z=>some (n.1.br [v.1],z.2.1,z.2.2) else
 (fw rJ y.2.1 y.2.2).bind fun y=>bif y.1 then (qY y.2.1 y.2.2).bind fun x=>(gp (.mk 4 0 x.1 0 []) x.2.1 x.2.2).bind fun n=>(g.block d n.2.1 n.2.2).bind fun b=>some (n.1.br [b.1],b.2.1,b.2.2) else
 (iI rI y.2.1 y.2.2).bind fun y=>(qY y.2.1 y.2.2).bind fun x=>(gp (.mk 3 0 x.1 0 []) x.2.1 x.2.2).bind fun n=>(iI [40] n.2.1 n.2.2).bind fun z=>
 (jd (z.2.1.length+1) n.1 z.2.1 z.2.2).bind fun n=>(GB n.2.1 n.2.2).bind fun t=>(g.block d t.2.1 t.2.2).bind fun b=>some ((n.1.OL t.1).c_ b.1,b.2.1,b.2.2)
def pZ (d:Int):Nat→Int→Int→Nd→List Wd→Int→SR Nd
 | 0,_,_,_,_,_=>none
 | j+1,fs,gs,n,ws,m=>bif mL ws != 0 then
   (bif decide ((bif km kD ws then gs+1 else gs)>16) || decide ((bif km kD ws then fs else fs+1)>32) then none else (wI g d ws m).bind fun y=>pZ d j (bif km kD ws then fs else fs+1) (bif km kD ws then gs+1 else gs) (n.c_ y.1) y.2.1 y.2.2)
  else some (n,ws,m)
def D5 (d:Int) (ws:List Wd) (m:Int):SR Nd:=(gp (.mk 1 0 [] 0 []) ws m).bind fun y=>pZ g d (y.2.1.length+1) 0 0 y.1 y.2.1 y.2.2
end
theorem wK {l:List Tok} {d:Int}:∀(J j:Nat) (n:Nd) (s:PS),J≤j→0≤s.pos→s.deep=d→Rel l (lv l j n s) (jd J n (vw l s) s.cH) d
 | 0,_,n,s,_,_,_=>Rel.none
 | J+1,0,n,s,hj,_,_=>by omega
 | J+1,j+1,n,s,hj,hp,hd=>by
  unfold lv jd
  refine Rel.bind (dj hp hd) fun t bZ a b=>Rel.cond (Rel.ok a b) ?_
  refine Rel.bind (d:=d) (Rel.cond (eP b a) (Rel.ok a b)) fun _ dT a b=>Rel.cond Rel.none ?_
  refine Rel.bind (lU b a) fun x ez a b=>?_
  refine Rel.bind (Bp b a) fun t ez a b=>?_
  exact Rel.bind (dH b a) fun q ez a b=>wK J j _ ez (by omega) b a
theorem Sv {l:List Tok} {d:Int} (s:PS) (hp:0≤s.pos) (hd:s.deep=d):Rel l (Bi l s) (OE (vw l s) s.cH) d:=by
 unfold Bi OE
 refine Rel.bind (dj hp hd) fun t bZ a b=>?_
 refine Rel.bind (zP b a) fun x dT a b=>?_
 exact Rel.cond Rel.none (Rel.ok a b)
theorem OB {l:List Tok} {p:dU} {g:rO} (h:Mg l p g) {d:Int} (s:PS) (hp:0≤s.pos) (hd:s.deep=d):Rel l (ni l p s) (wI g d (vw l s) s.cH) d:=by
 unfold ni wI
 refine Rel.bind (dj hp hd) fun t bZ a b=>Rel.cond ?_ ?_
 ·refine Rel.bind (lU b a) fun x ez a b=>?_
  refine Rel.bind (Bp b a) fun t ez a b=>?_
  refine Rel.bind (dH b a) fun n ez a b=>?_
  refine Rel.bind (eP b a) fun _ ez a b=>?_
  refine Rel.bind (Sv _ b a) fun v ez a b=>?_
  exact Rel.bind (eP b a) fun _ ez a b=>Rel.ok a b
 refine Rel.bind (dj b a) fun t bZ a b=>Rel.cond ?_ ?_
 ·refine Rel.bind (lU b a) fun x ez a b=>?_
  refine Rel.bind (dH b a) fun n ez a b=>?_
  exact Rel.bind (h.block ez d b a) fun _ ez a b=>Rel.ok a b
 refine Rel.bind (eP b a) fun _ ez a b=>?_
 refine Rel.bind (lU b a) fun x ez a b=>?_
 refine Rel.bind (dH b a) fun n ez a b=>?_
 refine Rel.bind (eP b a) fun _ ez a b=>?_
 refine Rel.bind (wK _ _ _ ez (Nat.add_le_add_right (xh l ez) 1) b a) fun n ez a b=>?_
 refine Rel.bind (Bp b a) fun t ez a b=>?_
 exact Rel.bind (h.block ez d b a) fun _ ez a b=>Rel.ok a b
theorem zQ {l:List Tok} {p:dU} {g:rO} (h:Mg l p g) {d:Int}:∀(J j:Nat) (fs gs:Int) (n:Nd) (s:PS),J≤j→0≤s.pos→s.deep=d→Rel l (pz l p j fs gs n s) (pZ g d J fs gs n (vw l s) s.cH) d
 | 0,_,fs,gs,n,s,_,_,_=>Rel.none
 | J+1,0,fs,gs,n,s,hj,_,_=>by omega
 | J+1,j+1,fs,gs,n,s,hj,hp,hd=>by
  unfold pz pZ
  simp only [qX hp,nV hp]
  refine Rel.cond (Rel.cond Rel.none ?_) (Rel.ok hd hp)
  exact Rel.bind (OB h s hp hd) fun x bZ a b=>zQ h J j _ _ _ bZ (by omega) b a
theorem OH {l:List Tok} {p:dU} {g:rO} (h:Mg l p g) {d:Int} (s:PS) (hp:0≤s.pos) (hd:s.deep=d):Rel l (wq l p s) (D5 g d (vw l s) s.cH) d:=by
 unfold wq D5
 exact Rel.bind (dH hp hd) fun n bZ a b=>zQ h _ _ _ _ n bZ (Nat.add_le_add_right (xh l bZ) 1) b a
theorem Dx {x:List UInt8} {f:Nat} {n:Nd} {ws:List Wd} {m:Int} (h1:(tokens x).2.2=0) (h2:D5 (sF f) 0 (kr (tokens x).1) 0=some (n,ws,m)):lx f x=some (n,0,0):=by
 unfold lx
 rw [if_pos h1]
 obtain ⟨s',e,_⟩:=OH (wJ (tokens x).1 f) ⟨0,0,0⟩ (Int.le_refl 0) rfl n ws m h2
 rw [e]
end
end Go.Proofs.YtpklkpkfgmoghaaGreatDoor.Zz
namespace Go.Proofs.YtpklkpkfgmoghaaGreatDoor.Zz
def a8 (l:List UInt8) (ws:List Wd):Prop:=∀(n p:Nat) (out:List Tok),(l.drop (dE l)).length<n→∃ts,pG n p (l.drop (dE l)) out=(out++ts,0,0)∧kr ts=ws
theorem a8.nil:a8 [] [(0,[])]:=fun n p out h=>by
 cases n with
 | zero=>simp at h
 | succ n=>exact ⟨[(0,[],(p:Int))],by rw [show ([]:List UInt8).drop (dE [])=[] from rfl]; rfl,rfl⟩
theorem a8.sp {r:List UInt8} {ws:List Wd} {c:UInt8} (hc:isSp c=true) (h:a8 r ws):a8 (c::r) ws:=by
 have e:(c::r).drop (dE (c::r))=r.drop (dE r):=by
  rw [jh,if_pos hc,Nat.add_comm 1]
  rfl
 unfold a8
 rw [e]
 exact h
theorem a8.word {l:List UInt8} (k:Int) (w r:List UInt8) {ws:List Wd} (e:l=w++r) (h0:dE l=0) (h1:fR l=(k,w,true)) (hw:w≠[]) (h:a8 r ws):a8 l ((k,w)::ws):=by
 unfold a8
 rw [h0,List.drop_zero]
 intro n p out hn
 cases n with
 | zero=>omega
 | succ n=>
  have iw:¬l=[]:=fun x=>by rw [e] at x; exact hw (List.append_eq_nil_iff.1 x).1
  unfold pG
  rw [if_neg iw,h1]
  simp only [reduceCtorEq,if_false,Bool.true_eq_false]
  have e1:l.drop w.length=r:=by rw [e,List.drop_left]
  have e2:∀b,l.drop (w.length+b)=r.drop b:=fun b=>by rw [←List.drop_drop,e1]
  rw [e1,e2]
  have hwl:0<w.length:=List.length_pos_iff.2 hw
  have hl:l.length=w.length+r.length:=by rw [e,List.length_append]
  obtain ⟨ts,a,b⟩:=h n (p+w.length+dE r) (out++[(k,w,(p:Int))]) (by rw [List.length_drop]; omega)
  exact ⟨(k,w,(p:Int))::ts,by rw [a]; simp,by simp [kr,←b]⟩
theorem L2 {x:List UInt8} {ws:List Wd} (h:a8 x ws) (hl:x.length≤4096):(tokens x).2.2=0∧kr (tokens x).1=ws:=by
 obtain ⟨ts,a,b⟩:=h (x.length+1) (dE x) [] (by rw [List.length_drop]; omega)
 unfold tokens
 rw [if_neg (by omega),a]
 exact ⟨rfl,by simpa using b⟩
theorem re {p:Int→Bool}:∀(w r:List UInt8),(∀x∈w,p (x.toNat:Int)=true)→je p r=0→je p (w++r)=w.length
 | [],r,_,h=>by simpa using h
 | c::w,r,hw,h=>by
  rw [List.cons_append,ko,if_pos (hw c (by simp)),re w r (fun x hx=>hw x (by simp [hx])) h]
  rfl
theorem Lh {c:UInt8} (hc:eh (c.toNat:Int)=true):isDigit (c.toNat:Int)=false∧isSp c=false∧c≠47∧gm (c.toNat:Int)=true:=by
 simp only [eh,Bool.or_eq_true,Bool.and_eq_true,decide_eq_true_eq,beq_iff_eq] at hc
 refine ⟨?_,?_,?_,?_⟩
 ·simp only [isDigit,Bool.and_eq_false_iff,decide_eq_false_iff_not]; omega
 ·simp only [isSp,Bool.or_eq_false_iff,beq_eq_false_iff_ne]; omega
 ·intro e; subst e
  have:(47:UInt8).toNat=47:=rfl
  omega
 ·simp only [gm,eh,Bool.or_eq_true,Bool.and_eq_true,decide_eq_true_eq,beq_iff_eq]; exact .inl hc
theorem zD {c:UInt8} {t:List UInt8} (h:c≠47):pre (c::t) [47,47]=false:=by
 cases t with
 | nil=>simp [pre]
 | cons d t=>simp [pre,h]
theorem a8.name {l:List UInt8} (k:Int) (c:UInt8) (w r:List UInt8) {ws:List Wd} (e:l=(c::w)++r) (hc:eh (c.toNat:Int)=true) (hw:∀x∈w,gm (x.toNat:Int)=true) (hr:je gm r=0)
  (hk:(words.contains (c::w)=true∧k=4)∨(words.contains (c::w)=false∧k=1∧(c::w).length≤16)) (h:a8 r ws):a8 l ((k,c::w)::ws):=by
 obtain ⟨a1,a2,a3,a4⟩:=Lh hc
 subst e
 refine a8.word k (c::w) r rfl ?_ ?_ (by simp) h
 ·rw [List.cons_append,jh,if_neg (by simp [a2]),if_neg (by simp [zD a3])]
 ·have hcw:∀x∈c::w,gm (x.toNat:Int)=true:=fun x hx=>(List.mem_cons.1 hx).elim (fun e=>by rw [e]; exact a4) (fun e=>hw x e)
  have hs:=re (p:=gm) (c::w) r hcw hr
  have hg:((c::w)++r).getD 0 0=c:=rfl
  have ht:((c::w)++r).take (c::w).length=c::w:=List.take_left
  unfold fR
  rw [hg,if_neg (by simp [a1]),if_pos hc,hs,ht]
  rcases hk with ⟨b1,b2⟩ | ⟨b1,b2,b3⟩
  ·rw [if_pos b1,b2]
  ·rw [if_neg (by rw [b1]; simp),b2]
   simpa using b3
theorem D9 {p:Int→Bool} {c:UInt8} {r:List UInt8} (h:p (c.toNat:Int)=false):je p (c::r)=0:=by rw [ko,if_neg (by simp [h])]
end Go.Proofs.YtpklkpkfgmoghaaGreatDoor.Zz
namespace Go.Proofs.YtpklkpkfgmoghaaGreatDoor.Zz
section
theorem dy {n:Nd} {ws:List Wd} {m:Int} (h:m+1≤2000):gp n ws m=some (n,ws,m+1):=if_neg (by omega)
theorem kl {α:Type} {body:Int→List Wd→Int→SR α} {d:Int} {ws:List Wd} {m:Int} (h:d+1≤40):tv body d ws m=body (d+1) ws m:=if_neg (by omega)
theorem bx {x:List UInt8} {ws:List Wd} {m:Int} (h:km x ws=false):fw x ws m=some (false,ws,m):=by rw [fw,h]; rfl
theorem cF {x:List UInt8} {ws:List Wd} {m:Int} (h:km x ws=true):fw x ws m=some (true,ws.tail,m):=by rw [fw,h]; rfl
theorem dW {x:List UInt8} {ws:List Wd} {m:Int} (h:km x ws=true):iI x ws m=some ((),ws.tail,m):=by rw [iI,h]; rfl
theorem di {x w:List UInt8} {r:List Wd}:km x ((1,w)::r)=false:=by simp [km]
theorem Bo {x w:List UInt8} {r:List Wd}:km x ((2,w)::r)=false:=by simp [km]
theorem fO {w:List UInt8} {r:List Wd} {m:Int}:qY ((1,w)::r) m=some (w,r,m):=rfl
theorem H7 (f:Nat) (k d:Int) (ws:List Wd) (m:Int):(sF (f+1)).expr k d ws m=zK (sF f) k d ws m:=rfl
theorem jv (f:Nat) (d:Int) (ws:List Wd) (m:Int):(sF (f+1)).unary d ws m=iT (sF f) d ws m:=rfl
theorem Su (f:Nat) (x:List UInt8) (d:Int) (ws:List Wd) (m:Int):(sF (f+1)).call x d ws m=D2 (sF f) x d ws m:=rfl
theorem OD (f:Nat) (d:Int) (ws:List Wd) (m:Int):(sF (f+1)).block d ws m=wG (sF f) d ws m:=rfl
theorem jW (f:Nat) (d:Int) (ws:List Wd) (m:Int):(sF (f+1)).stmt d ws m=lV (sF f) d ws m:=rfl
theorem zM (f:Nat) (d:Int) (ws:List Wd) (m:Int):(sF (f+1)).branch d ws m=oO (sF f) d ws m:=rfl
theorem GC (g:rO) {w:List UInt8} {r:List Wd} {d m:Int} (h:km [40] r=false) (hm:m+1≤2000):iT g d ((1,w)::r) m=some (.mk 23 0 w 0 [],r,m+1):=by
 have hp:ie ((1,w)::r) m=some ((.mk 0 0 [] 0 [],false),(1,w)::r,m):=by
  unfold ie; rw [di,di]; rfl
 unfold iT
 rw [bx di,Option.bind_some]
 simp only [cond_false]
 rw [bx di,Option.bind_some]
 simp only [cond_false]
 rw [hp,Option.bind_some]
 simp only [cond_false]
 rw [bx di,Option.bind_some]
 simp only [cond_false]
 rw [bx di,Option.bind_some]
 simp only [cond_false]
 rw [bx di,Option.bind_some]
 simp only [cond_false]
 rw [fO,Option.bind_some]
 simp only [h,cond_false]
 exact dy hm
theorem D4 {g:rO} {k d:Int} {j:Nat} {n:Nd} {sg:List UInt8} {r:List Wd} {m:Int} (h:ft sg≤k):mq g k d (j+1) n ((5,sg)::r) m=some (n,(5,sg)::r,m):=by
 unfold mq
 have:(mL ((5,sg)::r) != 5 || decide (ft (mM ((5,sg)::r))≤k))=true:=by simp [mL,mM,h]
 rw [this]; rfl
theorem LP {g:rO} {k d:Int} {j:Nat} {n:Nd} {sg:List UInt8} {r:List Wd} {m:Int} (h:k<ft sg):mq g k d (j+1) n ((5,sg)::r) m=(g.expr (ft sg) d r m).bind fun y=>(gp (.mk 26 0 sg 0 [n,y.1]) y.2.1 y.2.2).bind fun z=>mq g k d j z.1 z.2.1 z.2.2:=by
 show (bif _ then _ else _)=_
 have:(mL ((5,sg)::r) != 5 || decide (ft (mM ((5,sg)::r))≤k))=false:=by
  rw [Bool.or_eq_false_iff]; exact ⟨rfl,decide_eq_false (Int.not_le.2 h)⟩
 rw [this]; rfl
end
theorem cQ {x w:List UInt8} {r:List Wd}:km x ((4,w)::r)=(w==x):=by simp [km]
theorem cy {x w:List UInt8} {r:List Wd}:km x ((5,w)::r)=(w==x):=by simp [km]
end Go.Proofs.YtpklkpkfgmoghaaGreatDoor.Zz
namespace Go.Proofs.YtpklkpkfgmoghaaGreatDoor.Zz
theorem qq:∀l:List Nd,l.length≤Nd.fy l
 | []=>Nat.zero_le _
 | x::l=>by have:=qq l; have:=He x; rw [aQ,List.length_cons]; omega
mutual
def s8:Nd→List Nd
 | .mk k t s n l=>.mk k t s n l::l9 l
def l9:List Nd→List Nd
 | []=>[]
 | x::l=>s8 x++l9 l
end
theorem vQ (k t:Int) (s:List UInt8) (n:Int) (l:List Nd):s8 (.mk k t s n l)=.mk k t s n l::l9 l:=by rw [s8]
theorem Gb:l9 []=[]:=by rw [l9]
theorem s9 (x:Nd) (l:List Nd):l9 (x::l)=s8 x++l9 l:=by rw [l9]
end Go.Proofs.YtpklkpkfgmoghaaGreatDoor.Zz
