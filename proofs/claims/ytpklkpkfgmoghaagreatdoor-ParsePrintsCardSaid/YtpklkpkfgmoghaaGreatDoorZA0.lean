/- How expressions, statements and declarations are parsed: the plain answer. -/
import Derived.Test.YtpklkpkfgmoghaaGreatDoorZZH
import Derived.Test.YtpklkpkfgmoghaaGreatDoorZP17
import Derived.KernelRfl
import Derived.Test.YtpklkpkfgmoghaaGreatDoorZA1
set_option linter.unnecessarySimpa false
set_option linter.unusedVariables false
set_option linter.unusedSimpArgs false
namespace Go.Proofs.YtpklkpkfgmoghaaGreatDoor.Zz
noncomputable section
def Nd.bz (n:Nd) (l:List Nd):Nd:=match n with
 | .mk k t s m _=>.mk k t s m l
def Nd.bR:Nd→List Nd
 | .mk _ _ _ _ l=>l
def Nd.dw (n x:Nd):Nd:=match n with
 | .mk k t s m l=>.mk k t s m (l++[x])
def Nd.Pu (n:Nd) (t:Int):Nd:=match n with
 | .mk k _ s m l=>.mk k t s m l
structure ee where
 expr:Int→PS→PR Nd
 unary:PS→PR Nd
 call:List UInt8→PS→PR Nd
 block:PS→PR Nd
 stmt:PS→PR Nd
 branch:PS→PR Nd
variable {α β:Type} (l:List cH) (g:ee)
def kW (body:PS→PR α) (s:PS):PR α:=(Uv l s).bind fun _ s=>GO (body s)
def s6 (least:Int):Nat→Nd→PS→PR Nd
 | 0,_,_=>.out
 | j+1,n,s=>bif (d8 l s).1 != 5 || decide (fF (d8 l s).2.1≤least) then .ok n s
  else (g.expr (fF (d8 l s).2.1) (cE s)).bind fun r s'=>(dM l (.mk 26 0 (d8 l s).2.1 0 [n,r]) s').bind fun n s=>s6 least j n s
def yI (least:Int):PS→PR Nd:=kW l fun s=>(g.unary s).bind fun n s=>s6 l g least (l.length+1) n s
def SE (x:List UInt8):PS→PR Nd:=kW l fun s=>(g.unary s).bind fun n s=>dM l (.mk 25 0 x 0 [n]) s
def pH (t:Int) (s:PS):PR Nd:=(fq l [40] s).bind fun _ s=>(g.expr 0 s).bind fun n s=>(dM l (.mk 27 t [] 0 [n]) s).bind fun n s=>(fq l [41] s).bind fun _ s=>.ok n s
def oz (s:PS):PR Nd:=
 (dI l [45] s).bind fun b s=>bif b then SE l g [45] s else
 (dI l [33] s).bind fun b s=>bif b then SE l g [33] s else
 (lB l s).bind fun x s=>bif x.2 then .ok x.1 s else
 (dI l mR s).bind fun b s=>bif b then pH l g 1 s else
 (dI l fP s).bind fun b s=>bif b then pH l g 2 s else
 (dI l [40] s).bind fun b s=>bif b then (g.expr 0 s).bind fun n s=>(fq l [41] s).bind fun _ s=>.ok n s else
 (iN l s).bind fun x s=>bif lZ l [40] s then g.call x s else dM l (.mk 23 0 x 0 []) s
def pA:Nat→Nd→PS→PR Nd
 | 0,_,_=>.out
 | j+1,n,s=>(dI l [41] s).bind fun b s=>bif b then .ok n s else
  (bif decide (n.bR.length>0) then fq l [44] s else .ok () s).bind fun _ s=>
  bif decide (n.bR.length≥6) then il l 3 s else (g.expr 0 s).bind fun x s=>pA j (n.dw x) s
def yA (x:List UInt8):PS→PR Nd:=kW l fun s=>(dM l (.mk 24 0 x 0 []) s).bind fun n s=>(fq l [40] s).bind fun _ s=>pA l g (l.length+1) n s
def ly:Nat→Nd→PS→PR Nd
 | 0,_,_=>.out
 | j+1,n,s=>(dI l [125] s).bind fun b s=>bif b then .ok n s else
  bif decide (n.bR.length≥32) then il l 3 s else (g.stmt s).bind fun x s=>ly j (n.dw x) s
def sf:PS→PR Nd:=kW l fun s=>(fq l [123] s).bind fun _ s=>(dM l (.mk 6 0 [] 0 []) s).bind fun n s=>ly l g (l.length+1) n s
def im (k:Int) (x:List UInt8) (s:PS):PR Nd:=(dM l (.mk k 0 x 0 []) s).bind fun n s=>(g.expr 0 s).bind fun e s=>(fq l [59] s).bind fun _ s=>.ok (n.bz [e]) s
def FQ:List UInt8:=[105,102]
def FE:List UInt8:=[102,111,114]
def lu:List UInt8:=[114,101,116,117,114,110]
def lr:List UInt8:=[97,115,115,101,114,116]
def AB:List UInt8:=[115,107,105,112]
def jS:List UInt8:=[101,108,115,101]
def tS (s:PS):PR Nd:=
 (dI l FQ s).bind fun b s=>bif b then g.branch s else
 (dI l FE s).bind fun b s=>bif b then (dM l (.mk 10 0 [] 0 []) s).bind fun n s=>(g.expr 0 s).bind fun e s=>(g.block s).bind fun b s=>.ok (n.bz [e,b]) s else
 (dI l lu s).bind fun b s=>bif b then im l g 11 [] s else
 (dI l lr s).bind fun b s=>bif b then im l g 12 [] s else
 (dI l AB s).bind fun b s=>bif b then (fq l [59] s).bind fun _ s=>dM l (.mk 14 0 [] 0 []) s else
 (iN l s).bind fun x s=>
 (dI l [58,61] s).bind fun b s=>bif b then im l g 7 x s else
 (dI l [61] s).bind fun b s=>bif b then im l g 8 x s else
 (dM l (.mk 13 0 [] 0 []) s).bind fun n s=>(g.call x s).bind fun c s=>(fq l [59] s).bind fun _ s=>.ok (n.bz [c]) s
def oR:PS→PR Nd:=kW l fun s=>(dM l (.mk 9 0 [] 0 []) s).bind fun n s=>(g.expr 0 s).bind fun e s=>(g.block s).bind fun b s=>
 (dI l jS s).bind fun t s=>bif !t then .ok (n.bz [e,b]) s else
 (dI l FQ s).bind fun t s=>bif t then (dM l (.mk 6 0 [] 0 []) s).bind fun m s=>(g.branch s).bind fun x s=>.ok ((n.bz [e,b]).dw (m.bz [x])) s
 else (g.block s).bind fun b2 s=>.ok ((n.bz [e,b]).dw b2) s
def nj:Nat→ee
 | 0=>⟨fun _ _=>.out,fun _=>.out,fun _ _=>.out,fun _=>.out,fun _=>.out,fun _=>.out⟩
 | f+1=>⟨yI l (nj f),oz l (nj f),yA l (nj f),sf l (nj f),tS l (nj f),oR l (nj f)⟩
def kK:List UInt8:=[118,97,114]
def rW:List UInt8:=[116,101,115,116]
def rV:List UInt8:=[102,117,110,99]
def lC:Nat→Nd→PS→PR Nd
 | 0,_,_=>.out
 | j+1,n,s=>(dI l [41] s).bind fun b s=>bif b then .ok n s else
  (bif decide (n.bR.length>0) then fq l [44] s else .ok () s).bind fun _ s=>
  bif decide (n.bR.length≥6) then il l 3 s else
  (iN l s).bind fun x s=>(pw l s).bind fun t s=>(dM l (.mk 5 t x 0 []) s).bind fun m s=>lC j (n.dw m) s
def nD (s:PS):PR Nd:=
 (dI l kK s).bind fun b s=>bif b then (iN l s).bind fun x s=>(pw l s).bind fun t s=>(dM l (.mk 2 t x 0 []) s).bind fun n s=>(fq l [61] s).bind fun _ s=>(BE l s).bind fun v s=>(fq l [59] s).bind fun _ s=>.ok (n.bz [v]) s else
 (dI l rW s).bind fun b s=>bif b then (iN l s).bind fun x s=>(dM l (.mk 4 0 x 0 []) s).bind fun n s=>(g.block s).bind fun b s=>.ok (n.bz [b]) s else
 (fq l rV s).bind fun _ s=>(iN l s).bind fun x s=>(dM l (.mk 3 0 x 0 []) s).bind fun n s=>(fq l [40] s).bind fun _ s=>
 (lC l (l.length+1) n s).bind fun n s=>(pw l s).bind fun t s=>(g.block s).bind fun b s=>.ok ((n.Pu t).dw b) s
def pL:Nat→Int→Int→Nd→PS→PR Nd
 | 0,_,_,_,_=>.out
 | j+1,fs,gs,n,s=>bif (d8 l s).1 != 0 then
   (let gs':=bif lZ l kK s then gs+1 else gs
    let fs':=bif lZ l kK s then fs else fs+1
    bif decide (gs'>16) || decide (fs'>32) then il l 3 s else (nD l g s).bind fun d s=>pL j fs' gs' (n.dw d) s)
  else .ok n s
def wK (s:PS):PR Nd:=(dM l (.mk 1 0 [] 0 []) s).bind fun n s=>pL l g (l.length+1) 0 0 n s
def lD (f:Nat) (x:List UInt8):Option (Nd×Int×Int):=
 if (tokens x).2.2=0 then
  match wK (tokens x).1 (nj (tokens x).1 f) ⟨0,0,0⟩ with
  | .ok n _=>some (n,0,0)
  | .fail a e=>some (.mk 0 0 [] 0 [],a,e)
  | .out=>none
 else some (.mk 0 0 [] 0 [],(tokens x).2.1,(tokens x).2.2)
end
section
variable {α β:Type}
def keeps (r:PR α) (d:Int):Prop:=∀x s,r=.ok x s→s.deep=d
theorem cw {x:α} {s:PS} {d:Int} (h:s.deep=d):keeps (.ok x s) d:=fun y s' e=>by cases e; exact h
theorem fM {a e d:Int}:keeps (.fail a e:PR α) d:=fun y s' e=>by cases e
theorem eN {d:Int}:keeps (.out:PR α) d:=fun y s' e=>by cases e
theorem aP {r:PR α} {k:α→PS→PR β} {d d':Int} (h:keeps r d) (hk:∀x s,s.deep=d→keeps (k x s) d'):keeps (r.bind k) d':=by
 cases r with
 | ok x s=>exact hk x s (h x s rfl)
 | fail=>exact fM
 | out=>exact eN
theorem bh {c:Bool} {r r':PR α} {d:Int} (h:keeps r d) (h':keeps r' d):keeps (bif c then r else r') d:=by cases c<;>assumption
variable {l:List cH} {g:ee}
theorem nN {e:Int} {s:PS} {d:Int}:keeps (il l e s:PR α) d:=fM
theorem bH {x:List UInt8} {s:PS}:keeps (dI l x s) s.deep:=bh (cw rfl) (cw rfl)
theorem cX {x:List UInt8} {s:PS}:keeps (fq l x s) s.deep:=bh (cw rfl) fM
theorem g_ {s:PS}:keeps (iN l s) s.deep:=bh (cw rfl) fM
theorem mu {s:PS}:keeps (pw l s) s.deep:=bh (cw rfl) (bh (cw rfl) (bh (cw rfl) fM))
theorem bY {n:Nd} {s:PS}:keeps (dM l n s) s.deep:=by
 unfold dM
 split
 ·exact fM
 ·exact cw rfl
theorem gu {s:PS}:keeps (lB l s) s.deep:=by
 have Ua:∀n:Nd,keeps ((dM l n (cE s)).bind fun n s=>.ok (n,true) s) s.deep:=fun n=>aP bY fun x s' e=>cw e
 unfold lB
 exact bh (Ua _) (bh (Ua _) (bh (Ua _) (bh (Ua _) (cw rfl))))
theorem mr {s:PS}:keeps (BE l s) s.deep:=by
 unfold BE
 refine aP bH fun mi cg e1=>aP (d:=cg.deep) gu fun x ea e2=>bh nN (cw ?_)
 rw [e2,e1]
theorem jx {body:PS→PR α} {s:PS} (h:∀s',keeps (body s') s'.deep):keeps (kW l body s) s.deep:=by
 unfold kW Uv
 split
 ·exact fM
 ·refine aP (d:=s.deep+1) (cw rfl) fun _ cg e1=>aP (h cg) fun x s' e=>cw ?_
  rw [e,e1]; simp only; omega
structure nn (g:ee):Prop where
 expr:∀k s,keeps (g.expr k s) s.deep
 unary:∀s,keeps (g.unary s) s.deep
 call:∀x s,keeps (g.call x s) s.deep
 block:∀s,keeps (g.block s) s.deep
 stmt:∀s,keeps (g.stmt s) s.deep
 branch:∀s,keeps (g.branch s) s.deep
theorem bc {r:PR α} {s:PS} {d:Int} (e:s.deep=d) (h:keeps r s.deep):keeps r d:=e▸h
variable (hg:nn g)
include hg
theorem tr {k:Int}:∀(j:Nat) (n:Nd) (s:PS) (d:Int),s.deep=d→keeps (s6 l g k j n s) d
 | 0,n,s,d,e=>eN
 | j+1,n,s,d,e=>by
  unfold s6
  refine bh (cw e) (aP (d:=d) (bc (s:=cE s) e (hg.expr _ _)) fun r cg e1=>aP (d:=d) (bc e1 bY) fun n ea e2=>tr j n ea d e2)
theorem tp:∀(j:Nat) (n:Nd) (s:PS) (d:Int),s.deep=d→keeps (pA l g j n s) d
 | 0,n,s,d,e=>eN
 | j+1,n,s,d,e=>by
  unfold pA
  refine aP (d:=d) (bc e bH) fun b cg e1=>bh (cw e1) (aP (d:=d) (bh (bc e1 cX) (cw e1)) fun _ ea e2=>bh nN (aP (d:=d) (bc e2 (hg.expr _ _)) fun x eI e3=>tp j _ eI d e3))
theorem qR:∀(j:Nat) (n:Nd) (s:PS) (d:Int),s.deep=d→keeps (ly l g j n s) d
 | 0,n,s,d,e=>eN
 | j+1,n,s,d,e=>by
  unfold ly
  refine aP (d:=d) (bc e bH) fun b cg e1=>bh (cw e1) (bh nN (aP (d:=d) (bc e1 (hg.stmt _)) fun x eI e3=>qR j _ eI d e3))
theorem jh {k:Int} {x:List UInt8} {s:PS}:keeps (im l g k x s) s.deep:=by
 unfold im
 generalize hd:s.deep=d
 repeat' first
  | exact fM
  | exact eN
  | exact cw (by first | rfl | assumption)
  | refine bh ?_ ?_
  | refine aP (d:=d) (bc (by first | rfl | assumption) (by first | exact bH | exact cX | exact g_ | exact mu | exact bY | exact gu | exact mr | exact hg.expr _ _ | exact hg.unary _ | exact hg.call _ _ | exact hg.block _ | exact hg.stmt _ | exact hg.branch _)) fun _ _ _=>?_
  | exact bc (by first | rfl | assumption) (by first | exact bH | exact cX | exact g_ | exact mu | exact bY | exact gu | exact mr | exact hg.expr _ _ | exact hg.unary _ | exact hg.call _ _ | exact hg.block _ | exact hg.stmt _ | exact hg.branch _)
  | (refine aP (d:=d) (bh (bc (by first | rfl | assumption) cX) (cw (by first | rfl | assumption))) fun _ _ _=>?_)
theorem tu {t:Int} {s:PS}:keeps (pH l g t s) s.deep:=by
 unfold pH
 generalize hd:s.deep=d
 repeat' first
  | exact fM
  | exact eN
  | exact cw (by first | rfl | assumption)
  | refine bh ?_ ?_
  | refine aP (d:=d) (bc (by first | rfl | assumption) (by first | exact bH | exact cX | exact g_ | exact mu | exact bY | exact gu | exact mr | exact hg.expr _ _ | exact hg.unary _ | exact hg.call _ _ | exact hg.block _ | exact hg.stmt _ | exact hg.branch _)) fun _ _ _=>?_
  | exact bc (by first | rfl | assumption) (by first | exact bH | exact cX | exact g_ | exact mu | exact bY | exact gu | exact mr | exact hg.expr _ _ | exact hg.unary _ | exact hg.call _ _ | exact hg.block _ | exact hg.stmt _ | exact hg.branch _)
  | (refine aP (d:=d) (bh (bc (by first | rfl | assumption) cX) (cw (by first | rfl | assumption))) fun _ _ _=>?_)
theorem zn {x:List UInt8} {s:PS}:keeps (SE l g x s) s.deep:=jx fun s'=>aP (hg.unary s') fun n ea e2=>bc e2 bY
theorem Gx:nn ⟨yI l g,oz l g,yA l g,sf l g,tS l g,oR l g⟩ where
 expr k s:=jx fun s'=>aP (hg.unary s') fun n ea e2=>tr hg _ _ _ _ e2
 unary s:=by
  show keeps (oz l g s) s.deep
  unfold oz
  refine aP bH fun b cg e1=>bh (bc e1 (zn hg)) (aP (bc e1 bH) fun b ea e2=>bh (bc e2 (zn hg)) (aP (bc e2 gu) fun x eI e3=>bh (cw e3)
   (aP (bc e3 bH) fun b mW e4=>bh (bc e4 (tu hg)) (aP (bc e4 bH) fun b xL e5=>bh (bc e5 (tu hg)) (aP (bc e5 bH) fun b wU e6=>bh
    (aP (bc e6 (hg.expr _ _)) fun n B7 e7=>aP (bc e7 cX) fun _ s8p e8=>cw e8)
    (aP (bc e6 g_) fun x B7 e7=>bh (bc e7 (hg.call _ _)) (bc e7 bY)))))))
 call x s:=jx fun s'=>aP bY fun n ea e2=>aP (bc e2 cX) fun _ eI e3=>tp hg _ _ _ _ e3
 block s:=jx fun s'=>aP cX fun _ ea e2=>aP (bc e2 bY) fun _ eI e3=>qR hg _ _ _ _ e3
 stmt s:=by
  show keeps (tS l g s) s.deep
  unfold tS
  refine aP bH fun b cg e1=>bh (bc e1 (hg.branch _)) (aP (bc e1 bH) fun b ea e2=>bh
   (aP (bc e2 bY) fun n eI e3=>aP (bc e3 (hg.expr _ _)) fun e mW e4=>aP (bc e4 (hg.block _)) fun b xL e5=>cw e5)
   (aP (bc e2 bH) fun b eI e3=>bh (bc e3 (jh hg)) (aP (bc e3 bH) fun b mW e4=>bh (bc e4 (jh hg))
    (aP (bc e4 bH) fun b xL e5=>bh (aP (bc e5 cX) fun _ wU e6=>bc e6 bY)
     (aP (bc e5 g_) fun x wU e6=>aP (bc e6 bH) fun b B7 e7=>bh (bc e7 (jh hg)) (aP (bc e7 bH) fun b s8p e8=>bh (bc e8 (jh hg))
      (aP (bc e8 bY) fun n s9p e9=>aP (bc e9 (hg.call _ _)) fun c t1 f1=>aP (bc f1 cX) fun _ t2 f2=>cw f2)))))))
 branch s:=jx fun s'=>aP bY fun n ea e2=>aP (bc e2 (hg.expr _ _)) fun e eI e3=>aP (bc e3 (hg.block _)) fun b mW e4=>aP (bc e4 bH) fun t xL e5=>bh (cw e5)
  (aP (bc e5 bH) fun t wU e6=>bh (aP (bc e6 bY) fun m B7 e7=>aP (bc e7 (hg.branch _)) fun x s8p e8=>cw e8) (aP (bc e6 (hg.block _)) fun b2 B7 e7=>cw e7))
omit hg
theorem sA (l:List cH):∀f,nn (nj l f)
 | 0=>⟨fun _ _=>eN,fun _=>eN,fun _ _=>eN,fun _=>eN,fun _=>eN,fun _=>eN⟩
 | f+1=>Gx (sA l f)
end
end Go.Proofs.YtpklkpkfgmoghaaGreatDoor.Zz
namespace Go.Proofs.YtpklkpkfgmoghaaGreatDoor.Zz
noncomputable section
abbrev Wd:=Int×List UInt8
abbrev SR (α:Type):=Option (α×List Wd×Int)
section
variable {α β:Type}
def kA (l:List cH):List Wd:=l.map fun t=>(t.1,t.2.1)
def vw (l:List cH) (s:PS):List Wd:=kA (l.drop s.pos.toNat)
theorem xE (l:List cH) (s:PS):(vw l s).length≤l.length:=by simp [vw,kA]
theorem Hs {l:List cH} {s:PS} (h:vw l s=[]):d8 l s=(0,[],0):=by
 simp only [vw,kA,List.map_eq_nil_iff,List.drop_eq_nil_iff] at h
 simp [d8,h]
theorem va {l:List cH} {s:PS} {k:Int} {w:List UInt8} {r:List Wd} (hp:0≤s.pos) (h:vw l s=(k,w)::r):(d8 l s).1=k∧(d8 l s).2.1=w∧vw l (cE s)=r:=by
 simp only [vw,kA] at h
 cases e:l.drop s.pos.toNat with
 | nil=>rw [e] at h; cases h
 | cons t q=>
  rw [e] at h
  simp only [List.map_cons,List.cons.injEq,Prod.mk.injEq] at h
  have e1:l.getD s.pos.toNat (0,[],0)=t:=by
   have:=congrArg (fun l:List cH=>l[0]?) e
   simp only [List.getElem?_drop,Nat.add_zero,List.getElem?_cons_zero] at this
   rw [List.getD_eq_getElem?_getD,this]; rfl
  have e2:l.drop (s.pos.toNat+1)=q:=by
   rw [←List.drop_drop,e]; rfl
  refine ⟨by rw [d8,e1]; exact h.1.1,by rw [d8,e1]; exact h.1.2,?_⟩
  have e3:(s.pos+1).toNat=s.pos.toNat+1:=by omega
  simp only [vw,cE,e3,e2,kA]
  exact h.2
def Rel (l:List cH) (r:PR α) (q:SR α) (d:Int):Prop:=∀x ws m,q=some (x,ws,m)→∃s':PS,r=.ok x s'∧vw l s'=ws∧s'.cQ=m∧s'.deep=d∧0≤s'.pos
theorem Rel.none {l:List cH} {r:PR α} {d:Int}:Rel l r none d:=fun _ _ _ e=>by cases e
theorem Rel.ok {l:List cH} {x:α} {s:PS} {d:Int} (h1:s.deep=d) (h2:0≤s.pos):Rel l (.ok x s) (some (x,vw l s,s.cQ)) d:=fun y ws m e=>by
 cases e; exact ⟨s,rfl,rfl,rfl,h1,h2⟩
theorem Rel.pv {l:List cH} {x:α} {s:PS} {d:Int} {ws:List Wd} (h1:s.deep=d) (h2:0≤s.pos) (h3:vw l s=ws):Rel l (.ok x s) (some (x,ws,s.cQ)) d:=fun y ws m e=>by
 cases e; exact ⟨s,rfl,h3,rfl,h1,h2⟩
theorem Rel.bind {l:List cH} {r:PR α} {q:SR α} {k:α→PS→PR β} {kk:α×List Wd×Int→SR β} {d d':Int} (h:Rel l r q d) (hk:∀x s',s'.deep=d→0≤s'.pos→Rel l (k x s') (kk (x,vw l s',s'.cQ)) d'):Rel l (r.bind k) (q.bind kk) d':=fun z ws m e=>by
 cases hq:q with
 | none=>rw [hq] at e; cases e
 | some y=>
  obtain ⟨x,w1,m1⟩:=y
  obtain ⟨cg,rfl,rfl,rfl,a,b⟩:=h x w1 m1 hq
  rw [hq] at e
  exact hk x cg a b z ws m e
theorem Rel.cond {l:List cH} {c:Bool} {r r':PR α} {q q':SR α} {d:Int} (h:Rel l r q d) (h':Rel l r' q' d):Rel l (bif c then r else r') (bif c then q else q') d:=by cases c<;>assumption
def ku (x:List UInt8):List Wd→Bool
 | []=>false
 | (k,w)::_=>w==x && (k==5 || k==4)
theorem oe {l:List cH} {s:PS} {x:List UInt8} (hp:0≤s.pos):lZ l x s=ku x (vw l s):=by
 cases e:vw l s with
 | nil=>simp [lZ,Hs e,ku]
 | cons t r=>
  obtain ⟨k,w⟩:=t
  obtain ⟨a,b,_⟩:=va hp e
  simp [lZ,a,b,ku]
theorem po {l:List cH} {s:PS} (hp:0≤s.pos):vw l (cE s)=(vw l s).tail:=by
 cases e:vw l s with
 | nil=>
  have e3:(s.pos+1).toNat=s.pos.toNat+1:=by omega
  simp only [vw,kA,List.map_eq_nil_iff,List.drop_eq_nil_iff] at e
  simp only [vw,kA,cE,e3,List.tail_nil,List.map_eq_nil_iff,List.drop_eq_nil_iff]
  omega
 | cons t r=>
  obtain ⟨k,w⟩:=t
  exact (va hp e).2.2
def fH (x:List UInt8) (ws:List Wd) (m:Int):SR Bool:=bif ku x ws then some (true,ws.tail,m) else some (false,ws,m)
theorem dD {l:List cH} {s:PS} {x:List UInt8} {d:Int} (hp:0≤s.pos) (hd:s.deep=d):Rel l (dI l x s) (fH x (vw l s) s.cQ) d:=by
 unfold dI fH
 rw [oe hp]
 exact Rel.cond (Rel.pv (s:=cE s) hd (by simp only [cE]; omega) (po hp)) (Rel.ok hd hp)
def iO (x:List UInt8) (ws:List Wd) (m:Int):SR Unit:=bif ku x ws then some ((),ws.tail,m) else none
theorem eY {l:List cH} {s:PS} {x:List UInt8} {d:Int} (hp:0≤s.pos) (hd:s.deep=d):Rel l (fq l x s) (iO x (vw l s) s.cQ) d:=by
 unfold fq iO
 rw [oe hp]
 exact Rel.cond (Rel.pv (s:=cE s) hd (by simp only [cE]; omega) (po hp)) Rel.none
def mX:List Wd→Int
 | []=>0
 | t::_=>t.1
def mY:List Wd→List UInt8
 | []=>[]
 | t::_=>t.2
theorem rB {l:List cH} {s:PS} (hp:0≤s.pos):(d8 l s).1=mX (vw l s):=by
 cases e:vw l s with
 | nil=>rw [Hs e]; rfl
 | cons t r=>obtain ⟨k,w⟩:=t; exact (va hp e).1
theorem w9 {l:List cH} {s:PS} (hp:0≤s.pos):(d8 l s).2.1=mY (vw l s):=by
 cases e:vw l s with
 | nil=>rw [Hs e]; rfl
 | cons t r=>obtain ⟨k,w⟩:=t; exact (va hp e).2.1
def rC (ws:List Wd) (m:Int):SR (List UInt8):=bif mX ws==1 then some (mY ws,ws.tail,m) else none
theorem l8 {l:List cH} {s:PS} {d:Int} (hp:0≤s.pos) (hd:s.deep=d):Rel l (iN l s) (rC (vw l s) s.cQ) d:=by
 unfold iN rC
 rw [rB hp,w9 hp]
 exact Rel.cond (Rel.pv (s:=cE s) hd (by simp only [cE]; omega) (po hp)) Rel.none
def G6 (ws:List Wd) (m:Int):SR Int:=bif ku mR ws then some (1,ws.tail,m) else bif ku fP ws then some (2,ws.tail,m) else bif ku xF ws then some (3,ws.tail,m) else none
theorem BL {l:List cH} {s:PS} {d:Int} (hp:0≤s.pos) (hd:s.deep=d):Rel l (pw l s) (G6 (vw l s) s.cQ) d:=by
 have h:∀x:Int,Rel l (.ok x (cE s)) (some (x,(vw l s).tail,s.cQ)) d:=fun x=>Rel.pv (s:=cE s) hd (by simp only [cE]; omega) (po hp)
 unfold pw G6
 rw [oe hp,oe hp,oe hp]
 exact Rel.cond (h _) (Rel.cond (h _) (Rel.cond (h _) Rel.none))
def gA (n:Nd) (ws:List Wd) (m:Int):SR Nd:=if m+1>2000 then none else some (n,ws,m+1)
theorem dR {l:List cH} {s:PS} {n:Nd} {d:Int} (hp:0≤s.pos) (hd:s.deep=d):Rel l (dM l n s) (gA n (vw l s) s.cQ) d:=by
 unfold dM gA
 split
 ·exact Rel.none
 ·exact Rel.pv (s:={ s with cQ:=s.cQ+1 }) hd hp rfl
def tQ (body:Int→List Wd→Int→SR α) (d:Int) (ws:List Wd) (m:Int):SR α:=if d+1>40 then none else body (d+1) ws m
theorem od {l:List cH} {s:PS} {body:PS→PR α} {sb:Int→List Wd→Int→SR α} {d:Int} (hp:0≤s.pos) (hd:s.deep=d) (h:∀s',s'.deep=d+1→0≤s'.pos→Rel l (body s') (sb (d+1) (vw l s') s'.cQ) (d+1)):Rel l (kW l body s) (tQ sb d (vw l s) s.cQ) d:=by
 unfold kW tQ Uv
 subst hd
 split
 ·exact Rel.none
 ·intro x ws m e
  obtain ⟨cg,e1,e2,e3,e4,e5⟩:=h { s with deep:=s.deep+1 } rfl hp x ws m e
  refine ⟨{ cg with deep:=cg.deep - 1 },?_,e2,e3,by simp only; omega,e5⟩
  show GO (body _)=_
  rw [e1]; rfl
def tR (n:Nd) (ws:List Wd) (m:Int):SR (Nd×Bool):=(gA n ws.tail m).bind fun y=>some ((y.1,true),y.2.1,y.2.2)
def iq (ws:List Wd) (m:Int):SR (Nd×Bool):=
 bif mX ws==2 then tR (.mk 20 0 [] (eo (mY ws):Nat) []) ws m
 else bif mX ws==3 then tR (iX (mY ws)) ws m
 else bif ku mf ws then tR (.mk 22 0 [] 1 []) ws m
 else bif ku i_ ws then tR (.mk 22 0 [] 0 []) ws m
 else some ((.mk 0 0 [] 0 [],false),ws,m)
theorem Af {l:List cH} {s:PS} {d:Int} (hp:0≤s.pos) (hd:s.deep=d):Rel l (lB l s) (iq (vw l s) s.cQ) d:=by
 have h:∀n:Nd,Rel l ((dM l n (cE s)).bind fun n s=>.ok (n,true) s) (tR n (vw l s) s.cQ) d:=fun n=>by
  unfold tR
  have h1:=dR (l:=l) (s:=cE s) (n:=n) (d:=d) (by simp only [cE]; omega) hd
  rw [po hp] at h1
  exact Rel.bind h1 fun x s' a b=>Rel.ok a b
 unfold lB iq
 simp only [oe hp,rB hp,w9 hp]
 exact Rel.cond (h _) (Rel.cond (h _) (Rel.cond (h _) (Rel.cond (h _) (Rel.ok hd hp))))
end
structure r_ where
 expr:Int→Int→List Wd→Int→SR Nd
 unary:Int→List Wd→Int→SR Nd
 call:List UInt8→Int→List Wd→Int→SR Nd
 block:Int→List Wd→Int→SR Nd
 stmt:Int→List Wd→Int→SR Nd
 branch:Int→List Wd→Int→SR Nd
section
variable (g:r_)
def mF (least d:Int):Nat→Nd→List Wd→Int→SR Nd
 | 0,_,_,_=>none
 | j+1,n,ws,m=>bif mX ws != 5 || decide (fF (mY ws)≤least) then some (n,ws,m)
  else (g.expr (fF (mY ws)) d ws.tail m).bind fun y=>(gA (.mk 26 0 (mY ws) 0 [n,y.1]) y.2.1 y.2.2).bind fun z=>mF least d j z.1 z.2.1 z.2.2
def Ab (least:Int):Int→List Wd→Int→SR Nd:=tQ fun d ws m=>(g.unary d ws m).bind fun y=>mF g least d (y.2.1.length+1) y.1 y.2.1 y.2.2
def YD (x:List UInt8):Int→List Wd→Int→SR Nd:=tQ fun d ws m=>(g.unary d ws m).bind fun y=>gA (.mk 25 0 x 0 [y.1]) y.2.1 y.2.2
def Aa (t:Int) (d:Int) (ws:List Wd) (m:Int):SR Nd:=(iO [40] ws m).bind fun y=>(g.expr 0 d y.2.1 y.2.2).bind fun y=>(gA (.mk 27 t [] 0 [y.1]) y.2.1 y.2.2).bind fun z=>(iO [41] z.2.1 z.2.2).bind fun y=>some (z.1,y.2.1,y.2.2)
def iZ (d:Int) (ws:List Wd) (m:Int):SR Nd:=
 (fH [45] ws m).bind fun y=>bif y.1 then YD g [45] d y.2.1 y.2.2 else
 (fH [33] y.2.1 y.2.2).bind fun y=>bif y.1 then YD g [33] d y.2.1 y.2.2 else
 (iq y.2.1 y.2.2).bind fun y=>bif y.1.2 then some (y.1.1,y.2.1,y.2.2) else
 (fH mR y.2.1 y.2.2).bind fun y=>bif y.1 then Aa g 1 d y.2.1 y.2.2 else
 (fH fP y.2.1 y.2.2).bind fun y=>bif y.1 then Aa g 2 d y.2.1 y.2.2 else
 (fH [40] y.2.1 y.2.2).bind fun y=>bif y.1 then (g.expr 0 d y.2.1 y.2.2).bind fun z=>(iO [41] z.2.1 z.2.2).bind fun y=>some (z.1,y.2.1,y.2.2) else
 (rC y.2.1 y.2.2).bind fun y=>bif ku [40] y.2.1 then g.call y.1 d y.2.1 y.2.2 else gA (.mk 23 0 y.1 0 []) y.2.1 y.2.2
def mE (d:Int):Nat→Nd→List Wd→Int→SR Nd
 | 0,_,_,_=>none
 | j+1,n,ws,m=>(fH [41] ws m).bind fun y=>bif y.1 then some (n,y.2.1,y.2.2) else
  (bif decide (n.bR.length>0) then iO [44] y.2.1 y.2.2 else some ((),y.2.1,y.2.2)).bind fun y=>
  bif decide (n.bR.length≥6) then none else (g.expr 0 d y.2.1 y.2.2).bind fun y=>mE d j (n.dw y.1) y.2.1 y.2.2
def Eo (x:List UInt8):Int→List Wd→Int→SR Nd:=tQ fun d ws m=>(gA (.mk 24 0 x 0 []) ws m).bind fun y=>(iO [40] y.2.1 y.2.2).bind fun z=>mE g d (z.2.1.length+1) y.1 z.2.1 z.2.2
def mD (d:Int):Nat→Nd→List Wd→Int→SR Nd
 | 0,_,_,_=>none
 | j+1,n,ws,m=>(fH [125] ws m).bind fun y=>bif y.1 then some (n,y.2.1,y.2.2) else
  bif decide (n.bR.length≥32) then none else (g.stmt d y.2.1 y.2.2).bind fun y=>mD d j (n.dw y.1) y.2.1 y.2.2
def wV:Int→List Wd→Int→SR Nd:=tQ fun d ws m=>(iO [123] ws m).bind fun y=>(gA (.mk 6 0 [] 0 []) y.2.1 y.2.2).bind fun y=>mD g d (y.2.1.length+1) y.1 y.2.1 y.2.2
def k_ (k:Int) (x:List UInt8) (d:Int) (ws:List Wd) (m:Int):SR Nd:=(gA (.mk k 0 x 0 []) ws m).bind fun y=>(g.expr 0 d y.2.1 y.2.2).bind fun e=>(iO [59] e.2.1 e.2.2).bind fun z=>some (y.1.bz [e.1],z.2.1,z.2.2)
def l9 (d:Int) (ws:List Wd) (m:Int):SR Nd:=
 (fH FQ ws m).bind fun y=>bif y.1 then g.branch d y.2.1 y.2.2 else
 (fH FE y.2.1 y.2.2).bind fun y=>bif y.1 then (gA (.mk 10 0 [] 0 []) y.2.1 y.2.2).bind fun n=>(g.expr 0 d n.2.1 n.2.2).bind fun e=>(g.block d e.2.1 e.2.2).bind fun b=>some (n.1.bz [e.1,b.1],b.2.1,b.2.2) else
 (fH lu y.2.1 y.2.2).bind fun y=>bif y.1 then k_ g 11 [] d y.2.1 y.2.2 else
 (fH lr y.2.1 y.2.2).bind fun y=>bif y.1 then k_ g 12 [] d y.2.1 y.2.2 else
 (fH AB y.2.1 y.2.2).bind fun y=>bif y.1 then (iO [59] y.2.1 y.2.2).bind fun y=>gA (.mk 14 0 [] 0 []) y.2.1 y.2.2 else
 (rC y.2.1 y.2.2).bind fun x=>
 (fH [58,61] x.2.1 x.2.2).bind fun y=>bif y.1 then k_ g 7 x.1 d y.2.1 y.2.2 else
 (fH [61] y.2.1 y.2.2).bind fun y=>bif y.1 then k_ g 8 x.1 d y.2.1 y.2.2 else
 (gA (.mk 13 0 [] 0 []) y.2.1 y.2.2).bind fun n=>(g.call x.1 d n.2.1 n.2.2).bind fun c=>(iO [59] c.2.1 c.2.2).bind fun z=>some (n.1.bz [c.1],z.2.1,z.2.2)
def pa:Int→List Wd→Int→SR Nd:=tQ fun d ws m=>(gA (.mk 9 0 [] 0 []) ws m).bind fun n=>(g.expr 0 d n.2.1 n.2.2).bind fun e=>(g.block d e.2.1 e.2.2).bind fun b=>
 (fH jS b.2.1 b.2.2).bind fun t=>bif !t.1 then some (n.1.bz [e.1,b.1],t.2.1,t.2.2) else
 (fH FQ t.2.1 t.2.2).bind fun t=>bif t.1 then (gA (.mk 6 0 [] 0 []) t.2.1 t.2.2).bind fun q=>(g.branch d q.2.1 q.2.2).bind fun x=>some ((n.1.bz [e.1,b.1]).dw (q.1.bz [x.1]),x.2.1,x.2.2)
 else (g.block d t.2.1 t.2.2).bind fun b2=>some ((n.1.bz [e.1,b.1]).dw b2.1,b2.2.1,b2.2.2)
end
def sF:Nat→r_
 | 0=>⟨fun _ _ _ _=>none,fun _ _ _=>none,fun _ _ _ _=>none,fun _ _ _=>none,fun _ _ _=>none,fun _ _ _=>none⟩
 | f+1=>⟨Ab (sF f),iZ (sF f),Eo (sF f),wV (sF f),l9 (sF f),pa (sF f)⟩
structure MV (l:List cH) (p:ee) (g:r_):Prop where
 expr:∀k s d,0≤s.pos→s.deep=d→Rel l (p.expr k s) (g.expr k d (vw l s) s.cQ) d
 unary:∀s d,0≤s.pos→s.deep=d→Rel l (p.unary s) (g.unary d (vw l s) s.cQ) d
 call:∀x s d,0≤s.pos→s.deep=d→Rel l (p.call x s) (g.call x d (vw l s) s.cQ) d
 block:∀s d,0≤s.pos→s.deep=d→Rel l (p.block s) (g.block d (vw l s) s.cQ) d
 stmt:∀s d,0≤s.pos→s.deep=d→Rel l (p.stmt s) (g.stmt d (vw l s) s.cQ) d
 branch:∀s d,0≤s.pos→s.deep=d→Rel l (p.branch s) (g.branch d (vw l s) s.cQ) d
section
variable {l:List cH} {p:ee} {g:r_} (h:MV l p g)
include h
theorem Ac {k d:Int}:∀(J j:Nat) (n:Nd) (s:PS),J≤j→0≤s.pos→s.deep=d→Rel l (s6 l p k j n s) (mF g k d J n (vw l s) s.cQ) d
 | 0,_,n,s,_,_,_=>Rel.none
 | J+1,0,n,s,hj,_,_=>by omega
 | J+1,j+1,n,s,hj,hp,hd=>by
  unfold s6 mF
  rw [rB hp,w9 hp]
  refine Rel.cond (Rel.ok hd hp) ?_
  have h1:=h.expr (fF (mY (vw l s))) (cE s) d (by simp only [cE]; omega) hd
  rw [po hp] at h1
  refine Rel.bind h1 fun x cg a b=>?_
  exact Rel.bind (dR b a) fun y ea a b=>Ac J j y ea (by omega) b a
theorem Pm (k:Int) (s:PS) (d:Int) (hp:0≤s.pos) (hd:s.deep=d):Rel l (yI l p k s) (Ab g k d (vw l s) s.cQ) d:=by
 unfold yI Ab
 refine od hp hd fun cg a b=>?_
 refine Rel.bind (h.unary cg (d+1) b a) fun x ea a b=>?_
 exact Ac h _ _ x ea (Nat.add_le_add_right (xE l ea) 1) b a
theorem Ps (x:List UInt8) (s:PS) (d:Int) (hp:0≤s.pos) (hd:s.deep=d):Rel l (SE l p x s) (YD g x d (vw l s) s.cQ) d:=by
 unfold SE YD
 refine od hp hd fun cg a b=>?_
 exact Rel.bind (h.unary cg (d+1) b a) fun x ea a b=>dR b a
theorem Ep (t:Int) (s:PS) (d:Int) (hp:0≤s.pos) (hd:s.deep=d):Rel l (pH l p t s) (Aa g t d (vw l s) s.cQ) d:=by
 unfold pH Aa
 refine Rel.bind (eY hp hd) fun _ cg a b=>?_
 refine Rel.bind (h.expr 0 cg d b a) fun x ea a b=>?_
 refine Rel.bind (dR b a) fun x eI a b=>?_
 exact Rel.bind (eY b a) fun _ mW a b=>Rel.ok a b
theorem Mu (s:PS) (d:Int) (hp:0≤s.pos) (hd:s.deep=d):Rel l (oz l p s) (iZ g d (vw l s) s.cQ) d:=by
 unfold oz iZ
 refine Rel.bind (dD hp hd) fun t cg a b=>Rel.cond (Ps h _ cg d b a) ?_
 refine Rel.bind (dD b a) fun t cg a b=>Rel.cond (Ps h _ cg d b a) ?_
 refine Rel.bind (Af b a) fun t cg a b=>Rel.cond (Rel.ok a b) ?_
 refine Rel.bind (dD b a) fun t cg a b=>Rel.cond (Ep h _ cg d b a) ?_
 refine Rel.bind (dD b a) fun t cg a b=>Rel.cond (Ep h _ cg d b a) ?_
 refine Rel.bind (dD b a) fun t cg a b=>Rel.cond ?_ ?_
 ·refine Rel.bind (h.expr 0 cg d b a) fun x ea a b=>?_
  exact Rel.bind (eY b a) fun _ mW a b=>Rel.ok a b
 ·refine Rel.bind (l8 b a) fun x ea a b=>?_
  rw [oe b]
  exact Rel.cond (h.call x ea d b a) (dR b a)
theorem z_ {d:Int}:∀(J j:Nat) (n:Nd) (s:PS),J≤j→0≤s.pos→s.deep=d→Rel l (pA l p j n s) (mE g d J n (vw l s) s.cQ) d
 | 0,_,n,s,_,_,_=>Rel.none
 | J+1,0,n,s,hj,_,_=>by omega
 | J+1,j+1,n,s,hj,hp,hd=>by
  unfold pA mE
  refine Rel.bind (dD hp hd) fun t cg a b=>Rel.cond (Rel.ok a b) ?_
  refine Rel.bind (d:=d) (Rel.cond (eY b a) (Rel.ok a b)) fun _ ea a b=>Rel.cond Rel.none ?_
  exact Rel.bind (h.expr 0 ea d b a) fun x eI a b=>z_ J j _ eI (by omega) b a
theorem Pk (x:List UInt8) (s:PS) (d:Int) (hp:0≤s.pos) (hd:s.deep=d):Rel l (yA l p x s) (Eo g x d (vw l s) s.cQ) d:=by
 unfold yA Eo
 refine od hp hd fun cg a b=>?_
 refine Rel.bind (dR b a) fun n ea a b=>?_
 exact Rel.bind (eY b a) fun _ eI a b=>z_ h _ _ n eI (Nat.add_le_add_right (xE l eI) 1) b a
theorem wW {d:Int}:∀(J j:Nat) (n:Nd) (s:PS),J≤j→0≤s.pos→s.deep=d→Rel l (ly l p j n s) (mD g d J n (vw l s) s.cQ) d
 | 0,_,n,s,_,_,_=>Rel.none
 | J+1,0,n,s,hj,_,_=>by omega
 | J+1,j+1,n,s,hj,hp,hd=>by
  unfold ly mD
  refine Rel.bind (dD hp hd) fun t cg a b=>Rel.cond (Rel.ok a b) (Rel.cond Rel.none ?_)
  exact Rel.bind (h.stmt cg d b a) fun x eI a b=>wW J j _ eI (by omega) b a
theorem Mq (s:PS) (d:Int) (hp:0≤s.pos) (hd:s.deep=d):Rel l (sf l p s) (wV g d (vw l s) s.cQ) d:=by
 unfold sf wV
 refine od hp hd fun cg a b=>?_
 refine Rel.bind (eY b a) fun _ ea a b=>?_
 exact Rel.bind (dR b a) fun n eI a b=>wW h _ _ n eI (Nat.add_le_add_right (xE l eI) 1) b a
theorem mG (k:Int) (x:List UInt8) (s:PS) (d:Int) (hp:0≤s.pos) (hd:s.deep=d):Rel l (im l p k x s) (k_ g k x d (vw l s) s.cQ) d:=by
 unfold im k_
 refine Rel.bind (dR hp hd) fun n cg a b=>?_
 refine Rel.bind (h.expr 0 cg d b a) fun e ea a b=>?_
 exact Rel.bind (eY b a) fun _ mW a b=>Rel.ok a b
theorem Pr (s:PS) (d:Int) (hp:0≤s.pos) (hd:s.deep=d):Rel l (tS l p s) (l9 g d (vw l s) s.cQ) d:=by
 unfold tS l9
 refine Rel.bind (dD hp hd) fun t cg a b=>Rel.cond (h.branch cg d b a) ?_
 refine Rel.bind (dD b a) fun t cg a b=>Rel.cond ?_ ?_
 ·refine Rel.bind (dR b a) fun n ea a b=>?_
  refine Rel.bind (h.expr 0 ea d b a) fun e eI a b=>?_
  exact Rel.bind (h.block eI d b a) fun b mW a b=>Rel.ok a b
 refine Rel.bind (dD b a) fun t cg a b=>Rel.cond (mG h _ _ cg d b a) ?_
 refine Rel.bind (dD b a) fun t cg a b=>Rel.cond (mG h _ _ cg d b a) ?_
 refine Rel.bind (dD b a) fun t cg a b=>Rel.cond ?_ ?_
 ·exact Rel.bind (eY b a) fun _ ea a b=>dR b a
 refine Rel.bind (l8 b a) fun x ea a b=>?_
 refine Rel.bind (dD b a) fun t cg a b=>Rel.cond (mG h _ _ cg d b a) ?_
 refine Rel.bind (dD b a) fun t cg a b=>Rel.cond (mG h _ _ cg d b a) ?_
 refine Rel.bind (dR b a) fun n ea a b=>?_
 refine Rel.bind (h.call x ea d b a) fun c eI a b=>?_
 exact Rel.bind (eY b a) fun _ mW a b=>Rel.ok a b
theorem G4 (s:PS) (d:Int) (hp:0≤s.pos) (hd:s.deep=d):Rel l (oR l p s) (pa g d (vw l s) s.cQ) d:=by
 unfold oR pa
 refine od hp hd fun cg a b=>?_
 generalize d+1=d at a
 refine Rel.bind (dR b a) fun n cg a b=>?_
 refine Rel.bind (h.expr 0 cg d b a) fun e cg a b=>?_
 refine Rel.bind (h.block cg d b a) fun b1 cg a b=>?_
 refine Rel.bind (dD b a) fun t cg a b=>Rel.cond (Rel.ok a b) ?_
 refine Rel.bind (dD b a) fun t cg a b=>Rel.cond ?_ ?_
 ·refine Rel.bind (dR b a) fun q cg a b=>?_
  exact Rel.bind (h.branch cg d b a) fun x cg a b=>Rel.ok a b
 ·exact Rel.bind (h.block cg d b a) fun b2 cg a b=>Rel.ok a b
end
theorem wY (l:List cH):∀f,MV l (nj l f) (sF f)
 | 0=>⟨fun _ _ _ _ _=>Rel.none,fun _ _ _ _=>Rel.none,fun _ _ _ _ _=>Rel.none,fun _ _ _ _=>Rel.none,fun _ _ _ _=>Rel.none,fun _ _ _ _=>Rel.none⟩
 | f+1=>⟨Pm (wY l f),Mu (wY l f),Pk (wY l f),Mq (wY l f),Pr (wY l f),G4 (wY l f)⟩
section
variable (g:r_)
def jk:Nat→Nd→List Wd→Int→SR Nd
 | 0,_,_,_=>none
 | j+1,n,ws,m=>(fH [41] ws m).bind fun y=>bif y.1 then some (n,y.2.1,y.2.2) else
  (bif decide (n.bR.length>0) then iO [44] y.2.1 y.2.2 else some ((),y.2.1,y.2.2)).bind fun y=>
  bif decide (n.bR.length≥6) then none else
  (rC y.2.1 y.2.2).bind fun x=>(G6 x.2.1 x.2.2).bind fun t=>(gA (.mk 5 t.1 x.1 0 []) t.2.1 t.2.2).bind fun q=>jk j (n.dw q.1) q.2.1 q.2.2
def Po (ws:List Wd) (m:Int):SR Nd:=(fH [45] ws m).bind fun mi=>(iq mi.2.1 mi.2.2).bind fun x=>
 bif !x.1.2 || (mi.1 && x.1.1.kind==22) then none
 else some (bif mi.1 && x.1.1.kind==20 then x.1.1.Pt (IntKind.i64.wrap (0 - x.1.1.num)) else bif mi.1 && x.1.1.kind==21 then x.1.1.Pt (WM x.1.1.num) else x.1.1,x.2.1,x.2.2)
def wX (d:Int) (ws:List Wd) (m:Int):SR Nd:=
 (fH kK ws m).bind fun y=>bif y.1 then (rC y.2.1 y.2.2).bind fun x=>(G6 x.2.1 x.2.2).bind fun t=>(gA (.mk 2 t.1 x.1 0 []) t.2.1 t.2.2).bind fun n=>(iO [61] n.2.1 n.2.2).bind fun z=>(Po z.2.1 z.2.2).bind fun v=>(iO [59] v.2.1 v.2.2).bind fun z=>some (n.1.bz [v.1],z.2.1,z.2.2) else
 (fH rW y.2.1 y.2.2).bind fun y=>bif y.1 then (rC y.2.1 y.2.2).bind fun x=>(gA (.mk 4 0 x.1 0 []) x.2.1 x.2.2).bind fun n=>(g.block d n.2.1 n.2.2).bind fun b=>some (n.1.bz [b.1],b.2.1,b.2.2) else
 (iO rV y.2.1 y.2.2).bind fun y=>(rC y.2.1 y.2.2).bind fun x=>(gA (.mk 3 0 x.1 0 []) x.2.1 x.2.2).bind fun n=>(iO [40] n.2.1 n.2.2).bind fun z=>
 (jk (z.2.1.length+1) n.1 z.2.1 z.2.2).bind fun n=>(G6 n.2.1 n.2.2).bind fun t=>(g.block d t.2.1 t.2.2).bind fun b=>some ((n.1.Pu t.1).dw b.1,b.2.1,b.2.2)
def qe (d:Int):Nat→Int→Int→Nd→List Wd→Int→SR Nd
 | 0,_,_,_,_,_=>none
 | j+1,fs,gs,n,ws,m=>bif mX ws != 0 then
   (bif decide ((bif ku kK ws then gs+1 else gs)>16) || decide ((bif ku kK ws then fs else fs+1)>32) then none else (wX g d ws m).bind fun y=>qe d j (bif ku kK ws then fs else fs+1) (bif ku kK ws then gs+1 else gs) (n.dw y.1) y.2.1 y.2.2)
  else some (n,ws,m)
def Es (d:Int) (ws:List Wd) (m:Int):SR Nd:=(gA (.mk 1 0 [] 0 []) ws m).bind fun y=>qe g d (y.2.1.length+1) 0 0 y.1 y.2.1 y.2.2
end
theorem wZ {l:List cH} {d:Int}:∀(J j:Nat) (n:Nd) (s:PS),J≤j→0≤s.pos→s.deep=d→Rel l (lC l j n s) (jk J n (vw l s) s.cQ) d
 | 0,_,n,s,_,_,_=>Rel.none
 | J+1,0,n,s,hj,_,_=>by omega
 | J+1,j+1,n,s,hj,hp,hd=>by
  unfold lC jk
  refine Rel.bind (dD hp hd) fun t cg a b=>Rel.cond (Rel.ok a b) ?_
  refine Rel.bind (d:=d) (Rel.cond (eY b a) (Rel.ok a b)) fun _ ea a b=>Rel.cond Rel.none ?_
  refine Rel.bind (l8 b a) fun x eI a b=>?_
  refine Rel.bind (BL b a) fun t eI a b=>?_
  exact Rel.bind (dR b a) fun q eI a b=>wZ J j _ eI (by omega) b a
theorem Tt {l:List cH} {d:Int} (s:PS) (hp:0≤s.pos) (hd:s.deep=d):Rel l (BE l s) (Po (vw l s) s.cQ) d:=by
 unfold BE Po
 refine Rel.bind (dD hp hd) fun t cg a b=>?_
 refine Rel.bind (Af b a) fun x ea a b=>?_
 exact Rel.cond Rel.none (Rel.ok a b)
theorem Pl {l:List cH} {p:ee} {g:r_} (h:MV l p g) {d:Int} (s:PS) (hp:0≤s.pos) (hd:s.deep=d):Rel l (nD l p s) (wX g d (vw l s) s.cQ) d:=by
 unfold nD wX
 refine Rel.bind (dD hp hd) fun t cg a b=>Rel.cond ?_ ?_
 ·refine Rel.bind (l8 b a) fun x eI a b=>?_
  refine Rel.bind (BL b a) fun t eI a b=>?_
  refine Rel.bind (dR b a) fun n eI a b=>?_
  refine Rel.bind (eY b a) fun _ eI a b=>?_
  refine Rel.bind (Tt _ b a) fun v eI a b=>?_
  exact Rel.bind (eY b a) fun _ eI a b=>Rel.ok a b
 refine Rel.bind (dD b a) fun t cg a b=>Rel.cond ?_ ?_
 ·refine Rel.bind (l8 b a) fun x eI a b=>?_
  refine Rel.bind (dR b a) fun n eI a b=>?_
  exact Rel.bind (h.block eI d b a) fun _ eI a b=>Rel.ok a b
 refine Rel.bind (eY b a) fun _ eI a b=>?_
 refine Rel.bind (l8 b a) fun x eI a b=>?_
 refine Rel.bind (dR b a) fun n eI a b=>?_
 refine Rel.bind (eY b a) fun _ eI a b=>?_
 refine Rel.bind (wZ _ _ _ eI (Nat.add_le_add_right (xE l eI) 1) b a) fun n eI a b=>?_
 refine Rel.bind (BL b a) fun t eI a b=>?_
 exact Rel.bind (h.block eI d b a) fun _ eI a b=>Rel.ok a b
theorem Ag {l:List cH} {p:ee} {g:r_} (h:MV l p g) {d:Int}:∀(J j:Nat) (fs gs:Int) (n:Nd) (s:PS),J≤j→0≤s.pos→s.deep=d→Rel l (pL l p j fs gs n s) (qe g d J fs gs n (vw l s) s.cQ) d
 | 0,_,fs,gs,n,s,_,_,_=>Rel.none
 | J+1,0,fs,gs,n,s,hj,_,_=>by omega
 | J+1,j+1,fs,gs,n,s,hj,hp,hd=>by
  unfold pL qe
  simp only [rB hp,oe hp]
  refine Rel.cond (Rel.cond Rel.none ?_) (Rel.ok hd hp)
  exact Rel.bind (Pl h s hp hd) fun x cg a b=>Ag h J j _ _ _ cg (by omega) b a
theorem Pq {l:List cH} {p:ee} {g:r_} (h:MV l p g) {d:Int} (s:PS) (hp:0≤s.pos) (hd:s.deep=d):Rel l (wK l p s) (Es g d (vw l s) s.cQ) d:=by
 unfold wK Es
 exact Rel.bind (dR hp hd) fun n cg a b=>Ag h _ _ _ _ n cg (Nat.add_le_add_right (xE l cg) 1) b a
theorem DU {x:List UInt8} {f:Nat} {n:Nd} {ws:List Wd} {m:Int} (h1:(tokens x).2.2=0) (h2:Es (sF f) 0 (kA (tokens x).1) 0=some (n,ws,m)):lD f x=some (n,0,0):=by
 unfold lD
 rw [if_pos h1]
 obtain ⟨s',e,_⟩:=Pq (wY (tokens x).1 f) ⟨0,0,0⟩ (Int.le_refl 0) rfl n ws m h2
 rw [e]
end
end Go.Proofs.YtpklkpkfgmoghaaGreatDoor.Zz
namespace Go.Proofs.YtpklkpkfgmoghaaGreatDoor.Zz
def bd (l:List UInt8) (ws:List Wd):Prop:=∀(n p:Nat) (out:List cH),(l.drop (dO l)).length<n→∃ts,pS n p (l.drop (dO l)) out=(out++ts,0,0)∧kA ts=ws
theorem bd.nil:bd [] [(0,[])]:=fun n p out h=>by
 cases n with
 | zero=>simp at h
 | succ n=>exact ⟨[(0,[],(p:Int))],by rw [show ([]:List UInt8).drop (dO [])=[] from rfl]; rfl,rfl⟩
theorem bd.sp {r:List UInt8} {ws:List Wd} {c:UInt8} (hc:mo c=true) (h:bd r ws):bd (c::r) ws:=by
 have e:(c::r).drop (dO (c::r))=r.drop (dO r):=by
  rw [jo,if_pos hc,Nat.add_comm 1]
  rfl
 unfold bd
 rw [e]
 exact h
theorem bd.word {l:List UInt8} (k:Int) (w r:List UInt8) {ws:List Wd} (e:l=w++r) (h0:dO l=0) (h1:f6 l=(k,w,true)) (hw:w≠[]) (h:bd r ws):bd l ((k,w)::ws):=by
 unfold bd
 rw [h0,List.drop_zero]
 intro n p out hn
 cases n with
 | zero=>omega
 | succ n=>
  have iC:¬l=[]:=fun x=>by rw [e] at x; exact hw (List.append_eq_nil_iff.1 x).1
  unfold pS
  rw [if_neg iC,h1]
  simp only [reduceCtorEq,if_false,Bool.true_eq_false]
  have e1:l.drop w.length=r:=by rw [e,List.drop_left]
  have e2:∀b,l.drop (w.length+b)=r.drop b:=fun b=>by rw [←List.drop_drop,e1]
  rw [e1,e2]
  have hwl:0<w.length:=List.length_pos_iff.2 hw
  have hl:l.length=w.length+r.length:=by rw [e,List.length_append]
  obtain ⟨ts,a,b⟩:=h n (p+w.length+dO r) (out++[(k,w,(p:Int))]) (by rw [List.length_drop]; omega)
  exact ⟨(k,w,(p:Int))::ts,by rw [a]; simp,by simp [kA,←b]⟩
theorem MC {x:List UInt8} {ws:List Wd} (h:bd x ws) (hl:x.length≤4096):(tokens x).2.2=0∧kA (tokens x).1=ws:=by
 obtain ⟨ts,a,b⟩:=h (x.length+1) (dO x) [] (by rw [List.length_drop]; omega)
 unfold tokens
 rw [if_neg (by omega),a]
 exact ⟨rfl,by simpa using b⟩
theorem rG {p:Int→Bool}:∀(w r:List UInt8),(∀x∈w,p (x.toNat:Int)=true)→jl p r=0→jl p (w++r)=w.length
 | [],r,_,h=>by simpa using h
 | c::w,r,hw,h=>by
  rw [List.cons_append,ky,if_pos (hw c (by simp)),rG w r (fun x hx=>hw x (by simp [hx])) h]
  rfl
theorem LR {c:UInt8} (hc:eD (c.toNat:Int)=true):isDigit (c.toNat:Int)=false∧mo c=false∧c≠47∧gy (c.toNat:Int)=true:=by
 simp only [eD,Bool.or_eq_true,Bool.and_eq_true,decide_eq_true_eq,beq_iff_eq] at hc
 refine ⟨?_,?_,?_,?_⟩
 ·simp only [isDigit,Bool.and_eq_false_iff,decide_eq_false_iff_not]; omega
 ·simp only [mo,Bool.or_eq_false_iff,beq_eq_false_iff_ne]; omega
 ·intro e; subst e
  have:(47:UInt8).toNat=47:=rfl
  omega
 ·simp only [gy,eD,Bool.or_eq_true,Bool.and_eq_true,decide_eq_true_eq,beq_iff_eq]; exact .inl hc
theorem zX {c:UInt8} {t:List UInt8} (h:c≠47):pre (c::t) [47,47]=false:=by
 cases t with
 | nil=>simp [pre]
 | cons d t=>simp [pre,h]
theorem bd.name {l:List UInt8} (k:Int) (c:UInt8) (w r:List UInt8) {ws:List Wd} (e:l=(c::w)++r) (hc:eD (c.toNat:Int)=true) (hw:∀x∈w,gy (x.toNat:Int)=true) (hr:jl gy r=0)
  (hk:(words.contains (c::w)=true∧k=4)∨(words.contains (c::w)=false∧k=1∧(c::w).length≤16)) (h:bd r ws):bd l ((k,c::w)::ws):=by
 obtain ⟨a1,a2,a3,a4⟩:=LR hc
 subst e
 refine bd.word k (c::w) r rfl ?_ ?_ (by simp) h
 ·rw [List.cons_append,jo,if_neg (by simp [a2]),if_neg (by simp [zX a3])]
 ·have hcw:∀x∈c::w,gy (x.toNat:Int)=true:=fun x hx=>(List.mem_cons.1 hx).elim (fun e=>by rw [e]; exact a4) (fun e=>hw x e)
  have hs:=rG (p:=gy) (c::w) r hcw hr
  have hg:((c::w)++r).getD 0 0=c:=rfl
  have ht:((c::w)++r).take (c::w).length=c::w:=List.take_left
  unfold f6
  rw [hg,if_neg (by simp [a1]),if_pos hc,hs,ht]
  rcases hk with ⟨b1,b2⟩ | ⟨b1,b2,b3⟩
  ·rw [if_pos b1,b2]
  ·rw [if_neg (by rw [b1]; simp),b2]
   simpa using b3
theorem Ey {p:Int→Bool} {c:UInt8} {r:List UInt8} (h:p (c.toNat:Int)=false):jl p (c::r)=0:=by rw [ky,if_neg (by simp [h])]
end Go.Proofs.YtpklkpkfgmoghaaGreatDoor.Zz
namespace Go.Proofs.YtpklkpkfgmoghaaGreatDoor.Zz
section
theorem dJ {n:Nd} {ws:List Wd} {m:Int} (h:m+1≤2000):gA n ws m=some (n,ws,m+1):=if_neg (by omega)
theorem kt {α:Type} {body:Int→List Wd→Int→SR α} {d:Int} {ws:List Wd} {m:Int} (h:d+1≤40):tQ body d ws m=body (d+1) ws m:=if_neg (by omega)
theorem bC {x:List UInt8} {ws:List Wd} {m:Int} (h:ku x ws=false):fH x ws m=some (false,ws,m):=by rw [fH,h]; rfl
theorem cN {x:List UInt8} {ws:List Wd} {m:Int} (h:ku x ws=true):fH x ws m=some (true,ws.tail,m):=by rw [fH,h]; rfl
theorem eh {x:List UInt8} {ws:List Wd} {m:Int} (h:ku x ws=true):iO x ws m=some ((),ws.tail,m):=by rw [iO,h]; rfl
theorem dB {x w:List UInt8} {r:List Wd}:ku x ((1,w)::r)=false:=by simp [ku]
theorem BK {x w:List UInt8} {r:List Wd}:ku x ((2,w)::r)=false:=by simp [ku]
theorem fY {w:List UInt8} {r:List Wd} {m:Int}:rC ((1,w)::r) m=some (w,r,m):=rfl
theorem IF (f:Nat) (k d:Int) (ws:List Wd) (m:Int):(sF (f+1)).expr k d ws m=Ab (sF f) k d ws m:=rfl
theorem jC (f:Nat) (d:Int) (ws:List Wd) (m:Int):(sF (f+1)).unary d ws m=iZ (sF f) d ws m:=rfl
theorem Ts (f:Nat) (x:List UInt8) (d:Int) (ws:List Wd) (m:Int):(sF (f+1)).call x d ws m=Eo (sF f) x d ws m:=rfl
theorem Pn (f:Nat) (d:Int) (ws:List Wd) (m:Int):(sF (f+1)).block d ws m=wV (sF f) d ws m:=rfl
theorem j6 (f:Nat) (d:Int) (ws:List Wd) (m:Int):(sF (f+1)).stmt d ws m=l9 (sF f) d ws m:=rfl
theorem Ad (f:Nat) (d:Int) (ws:List Wd) (m:Int):(sF (f+1)).branch d ws m=pa (sF f) d ws m:=rfl
theorem G7 (g:r_) {w:List UInt8} {r:List Wd} {d m:Int} (h:ku [40] r=false) (hm:m+1≤2000):iZ g d ((1,w)::r) m=some (.mk 23 0 w 0 [],r,m+1):=by
 have hp:iq ((1,w)::r) m=some ((.mk 0 0 [] 0 [],false),(1,w)::r,m):=by
  unfold iq; rw [dB,dB]; rfl
 unfold iZ
 rw [bC dB,Option.bind_some]
 simp only [cond_false]
 rw [bC dB,Option.bind_some]
 simp only [cond_false]
 rw [hp,Option.bind_some]
 simp only [cond_false]
 rw [bC dB,Option.bind_some]
 simp only [cond_false]
 rw [bC dB,Option.bind_some]
 simp only [cond_false]
 rw [bC dB,Option.bind_some]
 simp only [cond_false]
 rw [fY,Option.bind_some]
 simp only [h,cond_false]
 exact dJ hm
theorem Er {g:r_} {k d:Int} {j:Nat} {n:Nd} {sg:List UInt8} {r:List Wd} {m:Int} (h:fF sg≤k):mF g k d (j+1) n ((5,sg)::r) m=some (n,(5,sg)::r,m):=by
 unfold mF
 have:(mX ((5,sg)::r) != 5 || decide (fF (mY ((5,sg)::r))≤k))=true:=by simp [mX,mY,h]
 rw [this]; rfl
theorem Mr {g:r_} {k d:Int} {j:Nat} {n:Nd} {sg:List UInt8} {r:List Wd} {m:Int} (h:k<fF sg):mF g k d (j+1) n ((5,sg)::r) m=(g.expr (fF sg) d r m).bind fun y=>(gA (.mk 26 0 sg 0 [n,y.1]) y.2.1 y.2.2).bind fun z=>mF g k d j z.1 z.2.1 z.2.2:=by
 show (bif _ then _ else _)=_
 have:(mX ((5,sg)::r) != 5 || decide (fF (mY ((5,sg)::r))≤k))=false:=by
  rw [Bool.or_eq_false_iff]; exact ⟨rfl,decide_eq_false (Int.not_le.2 h)⟩
 rw [this]; rfl
end
theorem cY {x w:List UInt8} {r:List Wd}:ku x ((4,w)::r)=(w==x):=by simp [ku]
theorem cF {x w:List UInt8} {r:List Wd}:ku x ((5,w)::r)=(w==x):=by simp [ku]
end Go.Proofs.YtpklkpkfgmoghaaGreatDoor.Zz
namespace Go.Proofs.YtpklkpkfgmoghaaGreatDoor.Zz
theorem qH:∀l:List Nd,l.length≤Nd.fJ l
 | []=>Nat.zero_le _
 | x::l=>by have:=qH l; have:=HH x; rw [aS,List.length_cons]; omega
mutual
def tv:Nd→List Nd
 | .mk k t s n l=>.mk k t s n l::mv l
def mv:List Nd→List Nd
 | []=>[]
 | x::l=>tv x++mv l
end
theorem we (k t:Int) (s:List UInt8) (n:Int) (l:List Nd):tv (.mk k t s n l)=.mk k t s n l::mv l:=by rw [tv]
theorem GC:mv []=[]:=by rw [mv]
theorem tz (x:Nd) (l:List Nd):mv (x::l)=tv x++mv l:=by rw [mv]
end Go.Proofs.YtpklkpkfgmoghaaGreatDoor.Zz
