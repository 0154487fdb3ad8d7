/- Programs of picks have types: blocks. -/
import Derived.Test.YtpklkpkfgmoghaaGreatDoorZC31
import Derived.KernelRfl
set_option linter.unnecessarySimpa false
set_option linter.unusedVariables false
set_option linter.unusedSimpArgs false
set_option maxRecDepth 100000
namespace Go.Proofs.YtpklkpkfgmoghaaGreatDoor.Zz
noncomputable section
def L6 (c:UInt8) (d f:Nat):List UInt8:=[c]++bM d++[120]++bM f
theorem ZT:((List.range 3).all fun d=>(List.range 21).all fun f=>(List.range 3).all fun d'=>(List.range 21).all fun f'=> !(ox d++[120]++ox f==ox d'++[120]++ox f') || (d==d' && f==f'))=true:=by kernel_rfl
theorem ZU {c c':UInt8} {d f d' f':Nat} (hd:d≤2) (hf:f≤20) (yR:d'≤2) (hf':f'≤20) (h:L6 c d f=L6 c' d' f'):c=c'∧d=d'∧f=f':=by
 unfold L6 at h
 rw [kK (by omega),kK (by omega),kK (by omega),kK (by omega)] at h
 simp only [List.cons_append,List.nil_append,List.cons.injEq] at h
 have k:=ZT
 simp only [List.all_eq_true,List.mem_range,Bool.or_eq_true,Bool.not_eq_true',Bool.and_eq_true,beq_iff_eq] at k
 rcases k d (by omega) f (by omega) d' (by omega) f' (by omega) with e | e
 ·exfalso
  have:(ox d++[120]++ox f==ox d'++[120]++ox f')=true:=beq_iff_eq.2 h.2
  rw [e] at this
  cases this
 ·exact ⟨h.1,e.1,e.2⟩
def ze (sc:dj) (d fr:Nat):Prop:=∀c:UInt8,c=118∨c=105→∀d' f':Nat,d'≤2→f'≤20→d'<d∨(d'=d∧fr<f')→gz sc (L6 c d' f')=none
def KN (ks:List Nd):Prop:=∀(c:UInt8) (w:List UInt8),c=118∨c=105∨c=112→eY ks (c::w)=none
theorem ze.down {sc:dj} {d fr fr':Nat} (h:ze sc (d+1) fr):ze sc d fr':=fun c hc d' f' h1 h2 h3=>h c hc d' f' h1 h2 (.inl (by omega))
theorem Ag {sc:dj} {x y:List UInt8} {t:Int} (h:x≠y):gz (sc++[(x,t)]) y=gz sc y:=by
 rw [vF]
 cases gz sc y with
 | some u=>rfl
 | none=>
  simp only
  rw [if_neg (by simpa using h)]
theorem ze.more {sc:dj} {d fr:Nat} {c:UInt8} {t:Int} (h:ze sc d fr) (hd:d≤2) (hf:fr+1≤20):ze (sc++[(L6 c d (fr+1),t)]) d (fr+1):=fun c' hc d' f' h1 h2 h3=>by
 rw [Ag]
 ·exact h c' hc d' f' h1 h2 (by omega)
 ·intro e
  obtain ⟨_,e1,e2⟩:=ZU hd (by omega) h1 h2 e
  omega
theorem kO.fresh {ks:List Nd} {sc:dj} {s:Nm} (h:kO ks sc s) (n:Nat):kO ks sc { s with fresh:=n }:=⟨h.var,h.fn⟩
theorem Z0 {s:Nm} {x y:List UInt8} {t u:Int} (h0:t3 t) (h1:t3 u) (h:y∈(s.with x t).of u):y∈s.of u∨(y=x∧u=t):=by
 unfold t3 at h0 h1
 unfold Nm.with Nm.of at*
 rcases h0 with rfl | rfl | rfl<;>rcases h1 with rfl | rfl | rfl<;>simp at h ⊢ <;>exact h
theorem kO.with {ks:List Nd} {sc:dj} {s:Nm} (h:kO ks sc s) {x:List UInt8} {t:Int} (ht:t3 t) (hx:mQ ks sc x=.ok (t+1)):kO ks sc (s.with x t):=by
 refine ⟨fun u hu y hy=>?_,fun f hf=>h.fn f ?_⟩
 ·rcases Z0 ht hu hy with hy | ⟨rfl,rfl⟩
  ·exact h.var u hu y hy
  ·exact hx
 ·unfold Nm.with at hf
  split at hf
  ·exact hf
  ·split at hf<;>exact hf
theorem FT (ks:List Nd) (ans:Int) (sc:dj):bW ks ans [] sc=.ok ([],sc):=by rw [bW]
theorem uJ {ks:List Nd} {ans:Int} {sc ku Gh:dj} {x y:Nd} {l ys:List Nd} (h1:dF ks ans x sc=.ok (y,ku)) (h2:bW ks ans l ku=.ok (ys,Gh)):bW ks ans (x::l) sc=.ok (y::ys,Gh):=by
 rw [bW,h1]
 simp only
 rw [h2]
theorem FR {ks:List Nd} {ans:Int}:∀{l r ys zs:List Nd} {sc ku Gh:dj},bW ks ans l sc=.ok (ys,ku)→bW ks ans r ku=.ok (zs,Gh)→bW ks ans (l++r) sc=.ok (ys++zs,Gh)
 | [],r,ys,zs,sc,ku,Gh,h1,h2=>by
  rw [bW] at h1
  cases h1
  exact h2
 | x::l,r,ys,zs,sc,ku,Gh,h1,h2=>by
  rw [bW] at h1
  cases hx:dF ks ans x sc with
  | error e=>rw [hx] at h1; cases h1
  | ok q=>
   obtain ⟨y,sc3⟩:=q
   rw [hx] at h1
   simp only at h1
   cases hl:bW ks ans l sc3 with
   | error e=>rw [hl] at h1; cases h1
   | ok q=>
    obtain ⟨w,sc4⟩:=q
    rw [hl] at h1
    cases h1
    exact uJ hx (FR hl h2)
def MW (ks:List Nd) (ans:Int) (l:List GS) (sc:dj):Prop:=∃ys sc',bW ks ans (GS.gB l) sc=.ok (ys,sc')∧mT ks sc sc'
theorem MW.nil {ks:List Nd} {ans:Int} {sc:dj}:MW ks ans [] sc:=⟨[],sc,by rw [GS.gB]; exact FT ks ans sc,mT.refl ks sc⟩
theorem MW.cons {ks:List Nd} {ans:Int} {sc ku:dj} {s:GS} {y:Nd} {l:List GS} (h1:dF ks ans s.nd sc=.ok (y,ku)) (h:MW ks ans l ku) (k:mT ks sc ku):MW ks ans (s::l) sc:=by
 obtain ⟨ys,Gh,h2,k2⟩:=h
 exact ⟨_,Gh,by rw [GS.gB]; exact uJ h1 h2,k.trans k2⟩
theorem MW.zM {ks:List Nd} {ans:Int} {sc:dj} {s:GS} {l:List GS} (h1:∃y,dF ks ans s.nd sc=.ok (y,sc)) (h:MW ks ans l sc):MW ks ans (s::l) sc:=by
 obtain ⟨y,h1⟩:=h1
 exact h.cons h1 (mT.refl ks sc)
theorem VH {ks:List Nd} (hK:KN ks) {c:UInt8} (hc:c=118∨c=105∨c=112) (w:List UInt8):(match eY ks (c::w) with | none=>true | some o=>o.kD != 2)=true:=by rw [hK c w hc]
theorem v8 {ks:List Nd} {ans:Int} (hK:KN ks) {L:List Int} {blk:Nm→Nat→List GS×Nat} {dp:Nat} {test:Bool} (Vl:dp≤2)
  (hb:∀d,dp=d+1→∀s a sc,kO ks sc s→ze sc d s.fresh→s.fresh+3+3*d≤20→MW ks ans (blk s a).1 sc):
  ∀(n:Nat) (s:Nm) (a:Nat) (sc:dj),kO ks sc s→ze sc dp s.fresh→s.fresh+n+3*dp≤20→MW ks ans (eE L blk dp test n s a).1 sc
 | 0,s,a,sc,hs,hf,hn=>MW.nil
 | n+1,s,a,sc,hs,hf,hn=>by
  have ih:=v8 hK (L:=L) (test:=test) Vl hb n
  have he:=fun d t a ht=>qG (L:=L) hs d t a ht
  have ht3:=fun a=>FX L a
  have t2:t3 2:=.inr (.inr rfl)
  rw [eE]
  simp only
  split
  ·have h1:=hs.fresh (s.fresh+1)
   obtain ⟨y,e1,e2⟩:=qG (L:=L) h1 2 _ (bD L 3 (bD L 7 a).2).2 (ht3 (bD L 7 a).2)
   obtain ⟨d1,d2,d3⟩:=Lw (x:=L6 118 dp (s.fresh+1)) (hf 118 (.inl rfl) dp (s.fresh+1) Vl (by omega) (.inr ⟨rfl,by omega⟩)) (VH hK (.inl rfl) _) y.tD
   refine (ih _ _ _ ((h1.mono d2).with (ht3 _) (by rw [←e2]; exact d3)) ?_ (by rw [eF]; simp only; omega)).cons (WK e1 d1) d2
   rw [eF]
   exact hf.more Vl (by omega)
  ·split
   ·split
    ·exact ih _ _ _ hs hf (by omega)
    ·rename_i h0
     obtain ⟨y,e1,e2⟩:=he 2 _ (fA L (s.of (bD L 3 (bD L 7 a).2).1) (bD L 3 (bD L 7 a).2).2).2 (ht3 (bD L 7 a).2)
     refine (ih _ _ _ hs hf (by omega)).zM ⟨_,WJ e1 (hs.var _ (ht3 _) _ (fk L h0 _)) e2⟩
   ·split
    ·rename_i h
     obtain ⟨d,rfl⟩:∃d,dp=d+1:=⟨dp - 1,by omega⟩
     split
     ·obtain ⟨ys,ku,y1,_⟩:=hb d rfl s (b_ L s 2 2 (bD L 7 a).2).2 sc hs hf.down (by omega)
      obtain ⟨zs,Gh,z1,_⟩:=hb d rfl s (bD L 2 (blk s (b_ L s 2 2 (bD L 7 a).2).2).2).2 sc hs hf.down (by omega)
      exact (ih _ _ _ hs hf (by omega)).zM (afJ (he 2 2 _ t2) y1 z1)
     ·obtain ⟨ys,ku,y1,_⟩:=hb d rfl s (b_ L s 2 2 (bD L 7 a).2).2 sc hs hf.down (by omega)
      exact (ih _ _ _ hs hf (by omega)).zM (afK (he 2 2 _ t2) y1)
    ·split
     ·rename_i h
      obtain ⟨d,rfl⟩:∃d,dp=d+1:=⟨dp - 1,by omega⟩
      have h1:=hs.fresh (s.fresh+1)
      obtain ⟨d1,d2,d3⟩:=Lw (x:=L6 105 (d+1) (s.fresh+1)) (hf 105 (.inr rfl) (d+1) (s.fresh+1) Vl (by omega) (.inr ⟨rfl,by omega⟩)) (VH hK (.inr (.inl rfl)) _) 1
      have f1:ze (sc++[(L6 105 (d+1) (s.fresh+1),1)]) (d+1) (s.fresh+1):=hf.more Vl (by omega)
      have t0:t3 0:=.inl rfl
      obtain ⟨ys,ku,y1,k1⟩:=hb d rfl (({ s with fresh:=s.fresh+1 }:Nm).with (L6 105 (d+1) (s.fresh+1)) 0) (bD L 4 (bD L 7 a).2).2 _ ((h1.mono d2).with t0 d3) (by rw [eF]; exact f1.down) (by rw [eF]; simp only; omega)
      obtain ⟨y0,y2,_⟩:=F7 ks sc [48]
      obtain ⟨w0,w1,w2⟩:Ty ks ku (.bin [43] (.var (L6 105 (d+1) (s.fresh+1))) (.int [49])) 0:=MN (u:=0) (MO (t:=0) (k1 _ _ d3)) (F7 _ _ _) rfl
      have TJ:=FR y1 (show bW ks ans (GS.gB [.rQ (L6 105 (d+1) (s.fresh+1)) (.bin [43] (.var (L6 105 (d+1) (s.fresh+1))) (.int [49]))]) ku=.ok ([.mk 8 0 (L6 105 (d+1) (s.fresh+1)) 0 [w0]],ku) from by
       rw [GS.gB,GS.gB]
       exact uJ (WJ w1 (k1 _ _ d3) w2) (FT _ _ _))
      rw [←kY] at TJ
      have alw:=aaT (ans:=ans) (e:=.bin [60] (.var (L6 105 (d+1) (s.fresh+1))) (.int (bM (bD L 4 (bD L 7 a).2).1.toNat))) (MN (u:=0) (t:=2) (MO (t:=0) d3) (F7 _ _ _) rfl) TJ
      refine MW.cons (WK (x:=L6 105 (d+1) (s.fresh+1)) y2 (by rw [show y0.tD=1 from by assumption]; exact d1)) ?_ d2
      exact MW.zM alw (ih _ _ _ (h1.mono d2) f1 (by simp only; omega))
     ·split
      ·exact (ih _ _ _ hs hf (by omega)).zM (Oj (he 3 2 _ t2))
      ·split
       ·split
        ·rename_i c b hc
         exact (ih _ _ _ hs hf (by omega)).zM (aka (GR hs (fun t a ht=>he 1 t a ht) hc))
        ·exact ih _ _ _ hs hf (by omega)
       ·exact (ih _ _ _ hs hf (by omega)).zM aaU
theorem vq {ks:List Nd} {ans:Int} (hK:KN ks) {L:List Int} {test:Bool}:∀(d:Nat),d≤2→∀(s:Nm) (a:Nat) (sc:dj),kO ks sc s→ze sc d s.fresh→s.fresh+3+3*d≤20→MW ks ans (dM L test d s a).1 sc
 | 0,hd,s,a,sc,hs,hf,hn=>by
  have hr:=bY L (n:=4) (by decide) a
  rw [dM]
  exact v8 hK (by omega) (fun d h=>by omega) _ _ _ _ hs hf (by omega)
 | d+1,hd,s,a,sc,hs,hf,hn=>by
  have hr:=bY L (n:=4) (by decide) a
  rw [dM]
  refine v8 hK (by omega) (fun e h s a sc hs hf hn=>?_) _ _ _ _ hs hf (by omega)
  obtain rfl:d=e:=by omega
  exact vq hK d (by omega) s a sc hs hf hn
end
end Go.Proofs.YtpklkpkfgmoghaaGreatDoor.Zz
namespace Go.Proofs.YtpklkpkfgmoghaaGreatDoor.Zz
theorem KA {ks:List Nd} {sc:dj} {s:List UInt8} {e:Int} (h:mQ ks sc s=.error e):e≠0:=by
 unfold mQ at h
 repeat' split at h
 all_goals (cases h; try decide)
theorem TY {s:List UInt8} {a b e:Int} (h:vi s a b=.error e):e≠0:=by
 unfold vi at h
 repeat' split at h
 all_goals (cases h; try decide)
theorem Cj:∀{a b:List Nd} {e:Int},a.length≤b.length→jF a b=.error e→e≠0
 | [],b,e,hl,h=>by rw [jF] at h; cases h
 | x::a,[],e,hl,h=>by simp at hl
 | x::a,y::b,e,hl,h=>by
  rw [jF] at h
  split at h
  ·exact Cj (by simpa using hl) h
  ·cases h; decide
theorem R9 {ks:List Nd} {s:List UInt8} {args:List Nd} {e:Int} (h:pU ks s args=.error e):e≠0:=by
 unfold pU at h
 split at h
 ·cases h; decide
 ·split at h
  ·split at h
   ·rename_i hl
    split at h
    ·cases h
    ·rename_i e' he
     cases h
     exact Cj (by have:=beq_iff_eq.1 hl; omega) he
   ·cases h; decide
  ·cases h; decide
theorem Tx {ks:List Nd} {sc:dj} {k t:Int} {s:List UInt8} {l:List Nd} {e:Int} (h:lJ ks sc k t s l=.error e):e≠0:=by
 unfold lJ at h
 repeat' split at h
 all_goals first
  | exact KA h
  | exact R9 h
  | exact TY h
  | (cases h; try decide)
mutual
theorem vD (ks:List Nd) (sc:dj):∀(x:Nd) (e:Int),eh ks sc x=.error e→e≠0
 | .mk k t s n l,e,h=>by
  rw [eh] at h
  cases hl:dA ks sc l with
  | error e'=>rw [hl] at h; cases h; exact Ad ks sc l _ hl
  | ok l'=>
   rw [hl] at h
   simp only at h
   cases ht:lJ ks sc k t s l' with
   | error e'=>rw [ht] at h; cases h; exact Tx ht
   | ok t'=>rw [ht] at h; cases h
theorem Ad (ks:List Nd) (sc:dj):∀(l:List Nd) (e:Int),dA ks sc l=.error e→e≠0
 | [],e,h=>by rw [dA] at h; cases h
 | x::l,e,h=>by
  rw [dA] at h
  split at h
  ·cases hx:eh ks sc x with
   | error e'=>rw [hx] at h; cases h; exact vD ks sc x _ hx
   | ok x'=>
    rw [hx] at h
    simp only at h
    cases hl:dA ks sc l with
    | error e'=>rw [hl] at h; cases h; exact Ad ks sc l _ hl
    | ok r=>rw [hl] at h; cases h
  ·cases h; decide
end
theorem tF {ks:List Nd} {sc:dj} {x:Nd} {t e:Int} (h:dG ks sc x t=.error e):e≠0:=by
 unfold dG at h
 split at h
 ·split at h
  ·split at h
   ·cases h
   ·cases h; decide
  ·rename_i e' hx
   cases h
   exact vD ks sc x _ hx
 ·cases h; decide
theorem G3 {ks:List Nd} {sc:dj} {s:List UInt8} {t e:Int} (h:p7 ks sc s t=.error e):e≠0:=by
 unfold p7 at h
 generalize ((gz sc s).isNone && (match eY ks s with | none=>true | some o=>o.kD != 2))=b at h
 cases b with
 | false=>cases h; decide
 | true=>cases h
mutual
theorem Tj (ks:List Nd) (ans:Int):∀(x:Nd) (sc:dj) (e:Int),dF ks ans x sc=.error e→e≠0
 | .mk k t s n l,sc,e,h=>by
  rw [dF.eq_def] at h
  simp only at h
  split at h
  ·split at h<;>cases h
   decide
  ·split at h
   ·cases hl:bW ks ans l sc with
    | error e'=>rw [hl] at h; cases h; exact pJ ks ans l sc _ hl
    | ok q=>obtain ⟨l',ku⟩:=q; rw [hl] at h; cases h
   ·split at h
    ·cases l with
     | nil=>cases h; decide
     | cons x r=>
      simp only at h
      split at h
      ·cases hx:dG ks sc x 3 with
       | error e'=>rw [hx] at h; cases h; exact tF hx
       | ok x'=>
        rw [hx] at h
        simp only at h
        cases hr:cN ks ans r sc with
        | error e'=>rw [hr] at h; cases h; exact wh ks ans r sc _ hr
        | ok r'=>rw [hr] at h; cases h
      ·cases h; decide
    ·(repeat' split at h)
     all_goals first
      | (cases h<;>first | decide | (rename_i q; exact tF q) | (rename_i q; exact vD ks sc _ _ q) | (rename_i q; exact G3 q) | (rename_i q; exact KA q))
theorem pJ (ks:List Nd) (ans:Int):∀(l:List Nd) (sc:dj) (e:Int),bW ks ans l sc=.error e→e≠0
 | [],sc,e,h=>by rw [bW] at h; cases h
 | x::l,sc,e,h=>by
  rw [bW] at h
  cases hx:dF ks ans x sc with
  | error e'=>rw [hx] at h; cases h; exact Tj ks ans x sc _ hx
  | ok q=>
   obtain ⟨x',ku⟩:=q
   rw [hx] at h
   simp only at h
   cases hl:bW ks ans l ku with
   | error e'=>rw [hl] at h; cases h; exact pJ ks ans l ku _ hl
   | ok q=>obtain ⟨r,Gh⟩:=q; rw [hl] at h; cases h
theorem wh (ks:List Nd) (ans:Int):∀(l:List Nd) (sc:dj) (e:Int),cN ks ans l sc=.error e→e≠0
 | [],sc,e,h=>by rw [cN] at h; cases h
 | .mk k t s n l::r,sc,e,h=>by
  rw [cN] at h
  split at h
  ·cases hl:bW ks ans l sc with
   | error e'=>rw [hl] at h; cases h; exact pJ ks ans l sc _ hl
   | ok q=>
    obtain ⟨l1,ku⟩:=q
    rw [hl] at h
    simp only at h
    cases hr:cN ks ans r sc with
    | error e'=>rw [hr] at h; cases h; exact wh ks ans r sc _ hr
    | ok r'=>rw [hr] at h; cases h
  ·cases h; decide
end
theorem K_ {ks:List Nd} {ans:Int} {x:Nd} {sc:dj} {e:Int} (h:dV ks ans x sc=.error e):e≠0:=by
 unfold dV at h
 split at h
 ·cases hl:bW ks ans x.lD sc with
  | error e'=>rw [hl] at h; cases h; exact pJ ks ans _ sc _ hl
  | ok q=>obtain ⟨l',ku⟩:=q; rw [hl] at h; cases h
 ·cases h; decide
theorem DC {ks:List Nd}:∀{l:List Nd} {sc:dj} {e:Int},gY ks l sc=.error e→e≠0
 | [],sc,e,h=>by rw [gY] at h; cases h
 | x::l,sc,e,h=>by
  rw [gY] at h
  split at h
  ·split at h
   ·split at h
    ·exact DC h
    ·rename_i q; cases h; exact G3 q
   ·cases h; decide
  ·cases h; decide
theorem CE {ks:List Nd} {x:Nd} {e:Int} (h:eH ks x=.error e):e≠0:=by
 obtain ⟨k,t,s,n,l⟩:=x
 rw [eH.eq_def] at h
 simp only at h
 repeat' split at h
 all_goals first
  | (cases h<;>first | decide | (rename_i q; exact tF q) | (rename_i q; exact K_ q) | (rename_i q; exact DC q))
end Go.Proofs.YtpklkpkfgmoghaaGreatDoor.Zz
namespace Go.Proofs.YtpklkpkfgmoghaaGreatDoor.Zz
def bt (k t:Int):Int:=if decide (20≤k) && !(k==27) then 0 else t
mutual
def cg:Nd→Nd
 | .mk k t s n l=>.mk k (bt k t) s n (bF l)
def bF:List Nd→List Nd
 | []=>[]
 | x::l=>cg x::bF l
end
theorem eN (k t:Int) (s:List UInt8) (n:Int) (l:List Nd):cg (.mk k t s n l)=.mk k (bt k t) s n (bF l):=by rw [cg]
theorem fC:bF []=[]:=by rw [bF]
theorem bo (x:Nd) (l:List Nd):bF (x::l)=cg x::bF l:=by rw [bF]
theorem lW:∀l r:List Nd,bF (l++r)=bF l++bF r
 | [],r=>by rw [fC]; rfl
 | x::l,r=>by rw [List.cons_append,bo,bo,lW l r]; rfl
theorem gJ:∀l:List Nd,(bF l).length=l.length
 | []=>by rw [fC]
 | x::l=>by rw [bo,List.length_cons,List.length_cons,gJ l]
theorem eW {k:Int} (h:k<20) (t:Int):bt k t=t:=by
 have e:decide (20≤k)=false:=by simpa using h
 unfold bt
 rw [e]
 rfl
theorem agO (k t:Int):bt k (bt k t)=bt k t:=by
 unfold bt
 split<;>rfl
mutual
theorem Co:∀x:Nd,cg (cg x)=cg x
 | .mk k t s n l=>by rw [eN,eN,agO,we l]
theorem we:∀l:List Nd,bF (bF l)=bF l
 | []=>by rw [fC,fC]
 | x::l=>by rw [bo,bo,Co x,we l]
end
theorem jh {x':Nd} {k t:Int} {s:List UInt8} {n:Int} {l:List Nd} (h:cg x'=cg (.mk k t s n l)):∃t' l',x'=.mk k t' s n l'∧bF l'=bF l∧bt k t'=bt k t:=by
 obtain ⟨k',t',s',n',l'⟩:=x'
 rw [eN,eN] at h
 simp only [Nd.mk.injEq] at h
 obtain ⟨rfl,h2,rfl,rfl,h5⟩:=h
 exact ⟨t',l',rfl,h5,h2⟩
theorem dD {l':List Nd} (h:bF l'=bF []):l'=[]:=by
 cases l' with
 | nil=>rfl
 | cons x l=>rw [bo,fC] at h; cases h
theorem dX {l':List Nd} {x:Nd} {l:List Nd} (h:bF l'=bF (x::l)):∃x' r,l'=x'::r∧cg x'=cg x∧bF r=bF l:=by
 cases l' with
 | nil=>rw [bo,fC] at h; cases h
 | cons x' r=>
  rw [bo,bo,List.cons.injEq] at h
  exact ⟨x',r,rfl,h.1,h.2⟩
theorem fI {l':List Nd} {x:Nd} (h:bF l'=bF [x]):∃x',l'=[x']∧cg x'=cg x:=by
 obtain ⟨x',r,rfl,h1,h2⟩:=dX h
 rw [dD h2]
 exact ⟨x',rfl,h1⟩
theorem kG {x y:Nd} (h:cg x=cg y):x.kD=y.kD∧x.sD=y.sD∧bt x.kD x.tD=bt y.kD y.tD∧bF x.lD=bF y.lD:=by
 obtain ⟨k,t,s,n,l⟩:=y
 obtain ⟨t',l',rfl,h1,h2⟩:=jh h
 exact ⟨rfl,rfl,h2,h1⟩
theorem EX {x y:Nd} (h:cg x=cg y) (hk:y.kD<20):x.tD=y.tD:=by
 obtain ⟨h1,_,h2,_⟩:=kG h
 rw [h1,eW hk,eW hk] at h2
 exact h2
theorem tU {l l':List Nd} (h:bF l'=bF l):l'.length=l.length:=by rw [←gJ,h,gJ]
def KS (ks l5:List Nd):Prop:=∀s,(eY ks s=none∧eY l5 s=none)∨∃o o',eY ks s=some o∧eY l5 s=some o'∧o'.kD=o.kD∧(o.kD=2→o'.tD=o.tD)∧(o.kD=3→o'.tD=o.tD∧o'.lD.length=o.lD.length∧o'.lD.dropLast.map Nd.tD=o.lD.dropLast.map Nd.tD)
theorem RA {ks l5:List Nd} (h:KS ks l5) (sc:dj) (s:List UInt8):mQ l5 sc s=mQ ks sc s:=by
 unfold mQ
 cases gz sc s with
 | some t=>rfl
 | none=>
  rcases h s with ⟨h1,h2⟩ | ⟨o,o',h1,h2,h3,h4,h5⟩
  ·rw [h1,h2]
  ·rw [h1,h2]
   simp only
   rw [h3]
   split
   ·rename_i c
    rw [h4 (by simpa using c)]
   ·rfl
theorem zp:∀(a b b':List Nd),(b'.map Nd.tD).take a.length=(b.map Nd.tD).take a.length→a.length≤b.length→a.length≤b'.length→jF a b'=jF a b
 | [],b,b',h,l1,l2=>by rw [jF,jF]
 | x::a,[],b',h,l1,l2=>by simp at l1
 | x::a,y::b,[],h,l1,l2=>by simp at l2
 | x::a,y::b,y'::b',h,l1,l2=>by
  simp only [List.map_cons,List.length_cons,List.take_succ_cons,List.cons.injEq] at h l1 l2
  rw [jF,jF,h.1,zp a b b' h.2 (by omega) (by omega)]
theorem UE {ks l5:List Nd} (h:KS ks l5) (s:List UInt8) (args:List Nd):pU l5 s args=pU ks s args:=by
 unfold pU
 rcases h s with ⟨h1,h2⟩ | ⟨o,o',h1,h2,h3,h4,h5⟩
 ·rw [h1,h2]
 ·rw [h1,h2]
  simp only
  rw [h3]
  split
  ·rename_i c
   obtain ⟨q1,q2,q3⟩:=h5 (by simpa using c)
   rw [q1,q2]
   split
   ·rename_i c2
    have c2:args.length+1=o.lD.length:=by simpa using c2
    have e:∀l:List Nd,args.length+1=l.length→(l.dropLast.map Nd.tD)=(l.map Nd.tD).take args.length:=fun l hl=>by
     rw [List.dropLast_eq_take,List.map_take]
     congr 1
     omega
    rw [e _ c2,e _ (by omega)] at q3
    rw [zp args o.lD o'.lD q3 (by omega) (by omega)]
   ·rfl
  ·rfl
theorem M_ {ks l5:List Nd} (h:KS ks l5) (sc:dj) (s:List UInt8) (t:Int):p7 l5 sc s t=p7 ks sc s t:=by
 unfold p7
 rcases h s with ⟨h1,h2⟩ | ⟨o,o',h1,h2,h3,h4,h5⟩
 ·rw [h1,h2]
 ·simp only [h1,h2,h3]
theorem Yn {ks l5:List Nd} (h:KS ks l5) (sc:dj) {k t t':Int} (ht:k=27→t'=t) (s:List UInt8) (l:List Nd):lJ l5 sc k t' s l=lJ ks sc k t s l:=by
 unfold lJ
 rw [RA h,UE h]
 by_cases c:k=27
 ·rw [ht c]
 ·have:(k==27)=false:=by simpa using c
  rw [this]
  simp only [Bool.false_eq_true,if_false]
theorem Ym {ks:List Nd} {sc:dj} {k t t':Int} {s:List UInt8} {l:List Nd} (h:lJ ks sc k t s l=.ok t'):bt k t'=bt k t:=by
 by_cases c:k=27
 ·subst c
  unfold lJ at h
  simp only [Int.reduceBEq,Bool.or_self,Bool.false_eq_true,if_false,if_true] at h
  split at h
  ·split at h
   ·split at h<;>cases h
    rfl
   ·cases h
  ·cases h
 ·by_cases c2:20≤k
  ·unfold bt
   have:(decide (20≤k) && !(k==27))=true:=by simp [c,c2]
   rw [if_pos this,if_pos this]
  ·exfalso
   unfold lJ at h
   have e:∀j:Int,20≤j→(k==j)=false:=fun j hj=>by simp; omega
   simp only [e 20 (by decide),e 21 (by decide),e 22 (by decide),e 23 (by decide),e 24 (by decide),e 25 (by decide),e 26 (by decide),e 27 (by decide),Bool.or_self,Bool.false_eq_true,if_false] at h
   cases h
mutual
theorem ub {ks l5:List Nd} (hK:KS ks l5) (sc:dj):∀(x y:Nd),eh ks sc x=.ok y→cg y=cg x∧∀x',cg x'=cg x→eh l5 sc x'=.ok y
 | .mk k t s n l,y,h=>by
  rw [eh] at h
  cases hl:dA ks sc l with
  | error e=>rw [hl] at h; cases h
  | ok l2=>
   rw [hl] at h
   simp only at h
   cases ht:lJ ks sc k t s l2 with
   | error e=>rw [ht] at h; cases h
   | ok t2=>
    rw [ht] at h
    cases h
    obtain ⟨a,b⟩:=CI hK sc l l2 hl
    refine ⟨by rw [eN,eN,a,Ym ht],fun x' hx=>?_⟩
    obtain ⟨t',l',rfl,h1,h2⟩:=jh hx
    rw [eh,b l' h1]
    simp only
    rw [Yn hK sc (t:=t) (fun e=>by subst e; exact h2),ht]
theorem CI {ks l5:List Nd} (hK:KS ks l5) (sc:dj):∀(l l2:List Nd),dA ks sc l=.ok l2→bF l2=bF l∧∀l',bF l'=bF l→dA l5 sc l'=.ok l2
 | [],l2,h=>by
  rw [dA] at h
  cases h
  refine ⟨rfl,fun l' hl=>?_⟩
  rw [dD hl,dA]
 | x::l,l2,h=>by
  rw [dA] at h
  split at h
  ·rename_i hk
   cases hx:eh ks sc x with
   | error e=>rw [hx] at h; cases h
   | ok x2=>
    rw [hx] at h
    simp only at h
    cases hl:dA ks sc l with
    | error e=>rw [hl] at h; cases h
    | ok r=>
     rw [hl] at h
     cases h
     obtain ⟨a,b⟩:=ub hK sc x x2 hx
     obtain ⟨c,d⟩:=CI hK sc l r hl
     refine ⟨by rw [bo,bo,a,c],fun l' pf=>?_⟩
     obtain ⟨x',r',rfl,e1,e2⟩:=dX pf
     rw [dA,(kG e1).1,if_pos hk,b x' e1]
     simp only
     rw [d r' e2]
  ·cases h
end
theorem sq {ks l5:List Nd} (hK:KS ks l5) {sc:dj} {x y:Nd} {t:Int} (h:dG ks sc x t=.ok y):cg y=cg x∧∀x',cg x'=cg x→dG l5 sc x' t=.ok y:=by
 unfold dG at h
 split at h
 ·rename_i hk
  cases hx:eh ks sc x with
  | error e=>rw [hx] at h; cases h
  | ok x2=>
   rw [hx] at h
   simp only at h
   split at h
   ·rename_i ht
    cases h
    obtain ⟨a,b⟩:=ub hK sc x _ hx
    refine ⟨a,fun x' e1=>?_⟩
    unfold dG
    rw [(kG e1).1,if_pos hk,b x' e1]
    simp only
    rw [if_pos ht]
   ·cases h
 ·cases h
mutual
theorem WL {ks l5:List Nd} (hK:KS ks l5) (ans:Int):∀(x:Nd) (sc:dj) (y:Nd) (sc':dj),dF ks ans x sc=.ok (y,sc')→cg y=cg x∧∀x',cg x'=cg x→dF l5 ans x' sc=.ok (y,sc')
 | .mk k t s n l,sc,y,sc',h=>by
  rw [dF.eq_def] at h
  simp only at h
  have fin:∀{l2:List Nd},k<20→y=.mk k t s n l2→bF l2=bF l→(∀l',bF l'=bF l→dF l5 ans (.mk k t s n l') sc=.ok (y,sc'))→cg y=cg (.mk k t s n l)∧∀x',cg x'=cg (.mk k t s n l)→dF l5 ans x' sc=.ok (y,sc'):=by
   intro l2 hk hy hl hq
   refine ⟨by rw [hy,eN,eN,hl],fun x' hx=>?_⟩
   obtain ⟨t',l',rfl,h1,h2⟩:=jh hx
   rw [eW hk,eW hk] at h2
   rw [h2]
   exact hq l' h1
  split at h
  ·rename_i c1
   split at h
   ·rename_i c2
    cases h
    refine fin (by have:=beq_iff_eq.1 c1; omega) rfl rfl fun l' pf=>?_
    have e0:l=[]:=List.length_eq_zero_iff.1 (by simpa using c2)
    subst e0
    rw [dD pf,dF.eq_def]
    simp only
    rw [if_pos c1,if_pos c2]
   ·cases h
  ·rename_i c1
   split at h
   ·rename_i c2
    cases hl:bW ks ans l sc with
    | error e=>rw [hl] at h; cases h
    | ok q=>
     obtain ⟨l2,ku⟩:=q
     rw [hl] at h
     cases h
     obtain ⟨a,b⟩:=sk hK ans l sc l2 ku hl
     refine fin (by have:=beq_iff_eq.1 c2; omega) rfl a fun l' pf=>?_
     rw [dF.eq_def]
     simp only
     rw [if_neg c1,if_pos c2,b l' pf]
   ·rename_i c2
    split at h
    ·rename_i c3
     have hk:k<20:=by
      simp only [Bool.or_eq_true,beq_iff_eq] at c3
      omega
     cases l with
     | nil=>cases h
     | cons x r=>
      simp only at h
      split at h
      ·rename_i c4
       cases hx:dG ks sc x 3 with
       | error e=>rw [hx] at h; cases h
       | ok x2=>
        rw [hx] at h
        simp only at h
        cases hr:cN ks ans r sc with
        | error e=>rw [hr] at h; cases h
        | ok r2=>
         rw [hr] at h
         cases h
         obtain ⟨a,b⟩:=sq hK hx
         obtain ⟨c,d⟩:=zE hK ans r sc r2 hr
         refine fin hk rfl (by rw [bo,bo,a,c]) fun l' pf=>?_
         obtain ⟨x',r',rfl,e1,e2⟩:=dX pf
         rw [dF.eq_def]
         simp only
         rw [if_neg c1,if_neg c2,if_pos c3,tU e2,if_pos c4,b x' e1]
         simp only
         rw [d r' e2]
      ·cases h
    ·rename_i c3
     split at h
     ·rename_i c4
      have hk:k<20:=by have:=beq_iff_eq.1 c4; omega
      split at h
      ·split at h
       ·cases h
       ·rename_i x c5
        cases hx:dG ks sc x ans with
        | error e=>rw [hx] at h; cases h
        | ok x2=>
         rw [hx] at h
         cases h
         obtain ⟨a,b⟩:=sq hK hx
         refine fin hk rfl (by rw [bo,bo,a]) fun l' pf=>?_
         obtain ⟨x',rfl,e1⟩:=fI pf
         rw [dF.eq_def]
         simp only
         rw [if_neg c1,if_neg c2,if_neg c3,if_pos c4,if_neg c5,b x' e1]
      ·cases h
     ·rename_i c4
      split at h
      ·rename_i c5
       have hk:k<20:=by have:=beq_iff_eq.1 c5; omega
       split at h
       ·rename_i x
        cases hx:dG ks sc x 3 with
        | error e=>rw [hx] at h; cases h
        | ok x2=>
         rw [hx] at h
         cases h
         obtain ⟨a,b⟩:=sq hK hx
         refine fin hk rfl (by rw [bo,bo,a]) fun l' pf=>?_
         obtain ⟨x',rfl,e1⟩:=fI pf
         rw [dF.eq_def]
         simp only
         rw [if_neg c1,if_neg c2,if_neg c3,if_neg c4,if_pos c5,b x' e1]
       ·cases h
      ·rename_i c5
       split at h
       ·rename_i c6
        have hk:k<20:=by have:=beq_iff_eq.1 c6; omega
        split at h
        ·split at h
         ·rename_i x c7
          cases hx:eh ks sc x with
          | error e=>rw [hx] at h; cases h
          | ok x2=>
           rw [hx] at h
           cases h
           obtain ⟨a,b⟩:=ub hK sc x x2 hx
           refine fin hk rfl (by rw [bo,bo,a]) fun l' pf=>?_
           obtain ⟨x',rfl,e1⟩:=fI pf
           rw [dF.eq_def]
           simp only
           rw [if_neg c1,if_neg c2,if_neg c3,if_neg c4,if_neg c5,if_pos c6,(kG e1).1,if_pos c7,b x' e1]
         ·cases h
        ·cases h
       ·rename_i c6
        split at h
        ·rename_i c7
         have hk:k<20:=by
          simp only [Bool.or_eq_true,beq_iff_eq] at c7
          omega
         split at h
         ·split at h
          ·rename_i x c8
           cases hx:eh ks sc x with
           | error e=>rw [hx] at h; cases h
           | ok x2=>
            obtain ⟨a,b⟩:=ub hK sc x x2 hx
            rw [hx] at h
            simp only at h
            split at h
            ·rename_i c9
             split at h
             ·rename_i Gh hd
              cases h
              refine fin hk rfl (by rw [bo,bo,a]) fun l' pf=>?_
              obtain ⟨x',rfl,e1⟩:=fI pf
              rw [dF.eq_def]
              simp only
              rw [if_neg c1,if_neg c2,if_neg c3,if_neg c4,if_neg c5,if_neg c6,if_pos c7,(kG e1).1,if_pos c8,b x' e1]
              simp only
              rw [if_pos c9,M_ hK,hd]
             ·cases h
            ·rename_i c9
             split at h
             ·rename_i t3 hv
              split at h
              ·rename_i c10
               cases h
               refine fin hk rfl (by rw [bo,bo,a]) fun l' pf=>?_
               obtain ⟨x',rfl,e1⟩:=fI pf
               rw [dF.eq_def]
               simp only
               rw [if_neg c1,if_neg c2,if_neg c3,if_neg c4,if_neg c5,if_neg c6,if_pos c7,(kG e1).1,if_pos c8,b x' e1]
               simp only
               rw [if_neg c9,RA hK,hv]
               simp only
               rw [if_pos c10]
              ·cases h
             ·cases h
          ·cases h
         ·cases h
        ·cases h
theorem sk {ks l5:List Nd} (hK:KS ks l5) (ans:Int):∀(l:List Nd) (sc:dj) (l2:List Nd) (sc':dj),bW ks ans l sc=.ok (l2,sc')→bF l2=bF l∧∀l',bF l'=bF l→bW l5 ans l' sc=.ok (l2,sc')
 | [],sc,l2,sc',h=>by
  rw [bW] at h
  cases h
  refine ⟨rfl,fun l' hl=>?_⟩
  rw [dD hl,bW]
 | x::l,sc,l2,sc',h=>by
  rw [bW] at h
  cases hx:dF ks ans x sc with
  | error e=>rw [hx] at h; cases h
  | ok q=>
   obtain ⟨x2,ku⟩:=q
   rw [hx] at h
   simp only at h
   cases hl:bW ks ans l ku with
   | error e=>rw [hl] at h; cases h
   | ok q=>
    obtain ⟨r,Gh⟩:=q
    rw [hl] at h
    cases h
    obtain ⟨a,b⟩:=WL hK ans x sc x2 ku hx
    obtain ⟨c,d⟩:=sk hK ans l ku r _ hl
    refine ⟨by rw [bo,bo,a,c],fun l' pf=>?_⟩
    obtain ⟨x',r',rfl,e1,e2⟩:=dX pf
    rw [bW,b x' e1]
    simp only
    rw [d r' e2]
theorem zE {ks l5:List Nd} (hK:KS ks l5) (ans:Int):∀(l:List Nd) (sc:dj) (l2:List Nd),cN ks ans l sc=.ok l2→bF l2=bF l∧∀l',bF l'=bF l→cN l5 ans l' sc=.ok l2
 | [],sc,l2,h=>by
  rw [cN] at h
  cases h
  refine ⟨rfl,fun l' hl=>?_⟩
  rw [dD hl,cN]
 | .mk k t s n l::r,sc,l2,h=>by
  rw [cN] at h
  split at h
  ·rename_i hk
   cases hl:bW ks ans l sc with
   | error e=>rw [hl] at h; cases h
   | ok q=>
    obtain ⟨l1,ku⟩:=q
    rw [hl] at h
    simp only at h
    cases hr:cN ks ans r sc with
    | error e=>rw [hr] at h; cases h
    | ok r2=>
     rw [hr] at h
     cases h
     obtain ⟨a,b⟩:=sk hK ans l sc l1 ku hl
     obtain ⟨c,d⟩:=zE hK ans r sc r2 hr
     refine ⟨by rw [bo,bo,eN,eN,a,c],fun l' pf=>?_⟩
     obtain ⟨x',r',rfl,e1,e2⟩:=dX pf
     obtain ⟨t',l3,rfl,h1,h2⟩:=jh e1
     have hk6:k<20:=by have:=beq_iff_eq.1 hk; omega
     rw [eW hk6,eW hk6] at h2
     rw [cN,if_pos hk,b l3 h1]
     simp only
     rw [d r' e2,h2]
  ·cases h
end
theorem Cr {ks l5:List Nd} (hK:KS ks l5) {ans:Int} {x y:Nd} {sc:dj} (h:dV ks ans x sc=.ok y):cg y=cg x∧∀x',cg x'=cg x→dV l5 ans x' sc=.ok y:=by
 obtain ⟨k,t,s,n,l⟩:=x
 unfold dV at h
 split at h
 ·rename_i hk
  simp only [Nd.kD,Nd.tD,Nd.sD,Nd.lD] at h hk
  cases hl:bW ks ans l sc with
  | error e=>rw [hl] at h; cases h
  | ok q=>
   obtain ⟨l2,ku⟩:=q
   rw [hl] at h
   cases h
   obtain ⟨a,b⟩:=sk hK ans l sc l2 ku hl
   refine ⟨by rw [eN,eN,a],fun x' hx=>?_⟩
   obtain ⟨t',l',rfl,h1,h2⟩:=jh hx
   have hk6:k<20:=by have:=beq_iff_eq.1 hk; omega
   rw [eW hk6,eW hk6] at h2
   unfold dV
   simp only [Nd.kD,Nd.tD,Nd.sD,Nd.lD,hk,if_true,b l' h1,h2]
 ·cases h
end Go.Proofs.YtpklkpkfgmoghaaGreatDoor.Zz
namespace Go.Proofs.YtpklkpkfgmoghaaGreatDoor.Zz
mutual
theorem z7:∀(x x':Nd),cg x'=cg x→iE x'=iE x
 | .mk k t s n l,x',h=>by
  obtain ⟨t',l',rfl,h1,h2⟩:=jh h
  rw [iE,iE,z8 l l' h1]
theorem z8:∀(l l':List Nd),bF l'=bF l→jH l'=jH l
 | [],l',h=>by rw [dD h]
 | [x],l',h=>by
  obtain ⟨x',rfl,h1⟩:=fI h
  rw [jH,jH,U2 x x' h1]
 | x::y::l,l',h=>by
  obtain ⟨x',r,rfl,h1,h2⟩:=dX h
  obtain ⟨y',r',rfl,h3,h4⟩:=dX h2
  rw [jH,jH]
  exact z8 (y::l) (y'::r') (by rw [bo,bo,h3,h4])
theorem U2:∀(x x':Nd),cg x'=cg x→t_ x'=t_ x
 | .mk k t s n l,x',h=>by
  obtain ⟨t',l',rfl,h1,h2⟩:=jh h
  rw [t_.eq_def,t_.eq_def]
  simp only
  rw [z8 l l' h1]
  split
  ·rfl
  ·split
   ·match l,h1 with
    | [],h1=>rw [dD h1]
    | [x],h1=>
     obtain ⟨x',rfl,_⟩:=fI h1
     rfl
    | [x,a],h1=>
     obtain ⟨x',r,rfl,_,h3⟩:=dX h1
     obtain ⟨a',rfl,_⟩:=fI h3
     rfl
    | [x,a,b],h1=>
     obtain ⟨x',r,rfl,_,h3⟩:=dX h1
     obtain ⟨a',r',rfl,h4,h5⟩:=dX h3
     obtain ⟨b',rfl,h6⟩:=fI h5
     simp only
     rw [z7 a a' h4,z7 b b' h6]
    | x::a::b::c::r,h1=>
     obtain ⟨x',r1,rfl,_,h3⟩:=dX h1
     obtain ⟨a',r2,rfl,h4,h5⟩:=dX h3
     obtain ⟨b',r3,rfl,h6,h7⟩:=dX h5
     obtain ⟨c',r4,rfl,h8,h9⟩:=dX h7
     rfl
   ·rfl
end
theorem Iq {ks l5:List Nd} (hK:KS ks l5):∀(l:List Nd) (sc sc':dj),gY ks l sc=.ok sc'→bF l=l∧∀l',bF l'=bF l→l'=l∧gY l5 l' sc=.ok sc'
 | [],sc,sc',h=>by
  rw [gY] at h
  cases h
  refine ⟨fC,fun l' hl=>?_⟩
  rw [dD hl]
  exact ⟨rfl,by rw [gY]⟩
 | x::l,sc,sc',h=>by
  rw [gY] at h
  split at h
  ·rename_i c1
   split at h
   ·rename_i c2
    split at h
    ·rename_i ku hd
     obtain ⟨a,b⟩:=Iq hK l ku sc' h
     obtain ⟨k,t,s,n,q⟩:=x
     have e0:q=[]:=List.length_eq_zero_iff.1 (by simpa [Nd.lD] using c2)
     subst e0
     have k5:k=5:=by
      simp only [Nd.kD,Bool.and_eq_true,beq_iff_eq] at c1
      exact c1.1
     subst k5
     refine ⟨by rw [bo,eN,fC,eW (by decide),a],fun l' hl=>?_⟩
     obtain ⟨x',r,rfl,e1,e2⟩:=dX hl
     obtain ⟨t',q',rfl,h1,h2⟩:=jh e1
     rw [eW (by decide),eW (by decide)] at h2
     rw [dD h1,h2]
     obtain ⟨r1,r2⟩:=b r e2
     refine ⟨by rw [r1],?_⟩
     rw [gY,if_pos c1,if_pos c2,M_ hK,hd]
     exact r2
    ·cases h
   ·cases h
  ·cases h
theorem AP {ks:List Nd}:∀(l:List Nd) (sc sc':dj),gY ks l sc=.ok sc'→∀x∈l,x.kD=5
 | [],sc,sc',h,x,hx=>by cases hx
 | y::l,sc,sc',h,x,hx=>by
  rw [gY] at h
  split at h
  ·rename_i c1
   split at h
   ·split at h
    ·rename_i ku hd
     rcases List.mem_cons.1 hx with rfl | hx
     ·simp only [Bool.and_eq_true,beq_iff_eq] at c1
      exact c1.1
     ·exact AP l ku sc' h x hx
    ·cases h
   ·cases h
  ·cases h
theorem ZM {l:List Nd} {b:Nd} (h:l.getLast? =some b):l=l.dropLast++[b]:=by
 rcases List.eq_nil_or_concat l with rfl | ⟨L,c,rfl⟩
 ·cases h
 ·simp at h; subst h; simp
theorem zy {l' l:List Nd} {b:Nd} (h:bF l'=bF (l++[b])):∃m c,l'=m++[c]∧bF m=bF l∧cg c=cg b:=by
 rcases List.eq_nil_or_concat l' with rfl | ⟨L,c,rfl⟩
 ·rw [lW,bo,fC] at h
  simp at h
 ·rw [List.concat_eq_append,lW,lW,bo,bo,fC] at h
  rw [List.concat_eq_append]
  obtain ⟨h1,h2⟩:=List.append_inj' h rfl
  exact ⟨L,c,rfl,h1,by simpa using h2⟩
theorem UQ {ks l5:List Nd} (hK:KS ks l5) {x y:Nd} (h:eH ks x=.ok y):cg y=cg x∧∀x',cg x'=cg x→eH l5 x'=.ok y:=by
 obtain ⟨k,t,s,n,l⟩:=x
 rw [eH.eq_def] at h
 simp only at h
 have fin:∀{l2:List Nd},k<20→y=.mk k t s n l2→bF l2=bF l→(∀l',bF l'=bF l→eH l5 (.mk k t s n l')=.ok y)→cg y=cg (.mk k t s n l)∧∀x',cg x'=cg (.mk k t s n l)→eH l5 x'=.ok y:=by
  intro l2 hk hy hl hq
  refine ⟨by rw [hy,eN,eN,hl],fun x' hx=>?_⟩
  obtain ⟨t',l',rfl,h1,h2⟩:=jh hx
  rw [eW hk,eW hk] at h2
  rw [h2]
  exact hq l' h1
 split at h
 ·cases h
 ·rename_i c0
  split at h
  ·rename_i c1
   have hk:k<20:=by have:=beq_iff_eq.1 c1; omega
   split at h
   ·rename_i x
    split at h
    ·rename_i c2
     cases hx:dG ks [] x t with
     | error e=>rw [hx] at h; cases h
     | ok x2=>
      rw [hx] at h
      cases h
      obtain ⟨a,b⟩:=sq hK hx
      refine fin hk rfl (by rw [bo,bo,a]) fun l' pf=>?_
      obtain ⟨x',rfl,e1⟩:=fI pf
      rw [eH.eq_def]
      simp only
      rw [if_neg (by simp),if_pos c1,(kG e1).1,if_pos c2,b x' e1]
    ·cases h
   ·cases h
  ·rename_i c1
   split at h
   ·rename_i c2
    have hk:k<20:=by have:=beq_iff_eq.1 c2; omega
    split at h
    ·rename_i x
     cases hx:dV ks 0 x [] with
     | error e=>rw [hx] at h; cases h
     | ok x2=>
      rw [hx] at h
      cases h
      obtain ⟨a,b⟩:=Cr hK hx
      refine fin hk rfl (by rw [bo,bo,a]) fun l' pf=>?_
      obtain ⟨x',rfl,e1⟩:=fI pf
      rw [eH.eq_def]
      simp only
      rw [if_neg (by simp),if_neg c1,if_pos c2,b x' e1]
    ·cases h
   ·rename_i c2
    split at h
    ·rename_i c3
     have hk:k<20:=by
      simp only [Bool.and_eq_true,beq_iff_eq] at c3
      omega
     split at h
     ·cases h
     ·rename_i b hb
      split at h
      ·rename_i sc hsc
       cases hx:dV ks t b sc with
       | error e=>rw [hx] at h; cases h
       | ok b2=>
        rw [hx] at h
        simp only at h
        split at h
        ·rename_i c4
         cases h
         obtain ⟨a,b'⟩:=Cr hK hx
         obtain ⟨p1,p2⟩:=Iq hK l.dropLast [] sc hsc
         have el:=ZM hb
         refine fin hk rfl ?_ fun l' pf=>?_
         ·have:bF l=bF (l.dropLast++[b]):=by rw [←el]
          rw [this,lW,lW,bo,bo,a]
         ·rw [el] at pf
          obtain ⟨m,c,rfl,e1,e2⟩:=zy pf
          obtain ⟨q1,q2⟩:=p2 m e1
          rw [eH.eq_def]
          simp only
          have iy:((m++[c]).length==0)=false:=by simp
          rw [iy,if_neg (by simp),if_neg c1,if_neg c2,if_pos c3,List.getLast?_concat]
          simp only
          rw [List.dropLast_concat,q2]
          simp only
          rw [b' c e2]
          simp only
          rw [z7 b c e2,if_pos c4,q1]
        ·cases h
      ·cases h
    ·cases h
theorem vA {ks l5:List Nd} (hK:KS ks l5):∀(l:List Nd) (ns:List (List UInt8)) (i:Int) (l2:List Nd) (j:Int),fq ks l ns i=(.ok l2,j)→bF l2=bF l∧(∀x∈l,∃y,eH ks x=.ok y)∧∀l',bF l'=bF l→fq l5 l' ns i=(.ok l2,j)
 | [],ns,i,l2,j,h=>by
  rw [fq] at h
  cases h
  refine ⟨rfl,(fun x hx=>by cases hx),fun l' hl=>?_⟩
  rw [dD hl,fq]
 | x::l,ns,i,l2,j,h=>by
  rw [fq] at h
  split at h
  ·cases h
  ·rename_i c1
   cases hx:eH ks x with
   | error e=>rw [hx] at h; cases h
   | ok x2=>
    rw [hx] at h
    simp only at h
    cases hl:fq ks l (ns++[x.sD]) (i+1) with
    | mk r j'=>
     rw [hl] at h
     cases r with
     | error e=>cases h
     | ok r=>
      cases h
      obtain ⟨a,b⟩:=UQ hK hx
      obtain ⟨c,d,e⟩:=vA hK l _ _ r _ hl
      refine ⟨by rw [bo,bo,a,c],fun y hy=>?_,fun l' pf=>?_⟩
      ·rcases List.mem_cons.1 hy with rfl | hy
       ·exact ⟨_,hx⟩
       ·exact d y hy
      ·obtain ⟨x',r',rfl,e1,e2⟩:=dX pf
       rw [fq,(kG e1).2.1,if_neg c1,b x' e1]
       simp only
       rw [e r' e2]
theorem zT {ks:List Nd}:∀(l:List Nd) (ns:List (List UInt8)) (i e j:Int),fq ks l ns i=(.error e,j)→e≠0
 | [],ns,i,e,j,h=>by rw [fq] at h; cases h
 | x::l,ns,i,e,j,h=>by
  rw [fq] at h
  split at h
  ·cases h; decide
  ·cases hx:eH ks x with
   | error e'=>rw [hx] at h; cases h; exact CE hx
   | ok x2=>
    rw [hx] at h
    simp only at h
    cases hl:fq ks l (ns++[x.sD]) (i+1) with
    | mk r j'=>
     rw [hl] at h
     cases r with
     | error e'=>cases h; exact zT l _ _ _ _ hl
     | ok r=>cases h
theorem KS.refl (ks:List Nd):KS ks ks:=fun s=>by
 cases eY ks s with
 | none=>exact .inl ⟨rfl,rfl⟩
 | some o=>exact .inr ⟨o,o,rfl,rfl,rfl,fun _=>rfl,fun _=>⟨rfl,rfl,rfl⟩⟩
theorem G1 {ks:List Nd} {k t:Int} {s:List UInt8} {n:Int} {l:List Nd} {y:Nd} (h:eH ks (.mk k t s n l)=.ok y) (hk:k=3):∀x∈l.dropLast,x.kD=5:=by
 subst hk
 rw [eH.eq_def] at h
 simp only at h
 split at h
 ·cases h
 ·rw [if_neg (by decide),if_neg (by decide)] at h
  split at h
  ·split at h
   ·cases h
   ·split at h
    ·rename_i sc hsc
     exact AP _ _ _ hsc
    ·cases h
  ·cases h
theorem VP:∀(l l':List Nd),bF l'=bF l→(∀x∈l,x.kD=5)→l'.map Nd.tD=l.map Nd.tD
 | [],l',h,_=>by rw [dD h]
 | x::l,l',h,hk=>by
  obtain ⟨x',r,rfl,e1,e2⟩:=dX h
  rw [List.map_cons,List.map_cons,EX e1 (by rw [hk x (by simp)]; decide),VP l r e2 fun y hy=>hk y (by simp [hy])]
theorem K6 (l l':List Nd) (h:bF l'=bF l):bF l'.dropLast=bF l.dropLast:=by
 rcases List.eq_nil_or_concat l with rfl | ⟨L,c,rfl⟩
 ·rw [dD h]
 ·rw [List.concat_eq_append] at h ⊢
  obtain ⟨m,d,rfl,e1,_⟩:=zy h
  rw [List.dropLast_concat,List.dropLast_concat,e1]
theorem abm {ks0:List Nd}:∀(l l':List Nd),(∀x∈l,∃y,eH ks0 x=.ok y)→bF l'=bF l→KS l l'
 | [],l',_,h=>by rw [dD h]; exact KS.refl []
 | x::l,l',hd,h=>by
  obtain ⟨x',r,rfl,e1,e2⟩:=dX h
  have ih:=abm l r (fun y hy=>hd y (by simp [hy])) e2
  intro s
  unfold eY
  rw [List.find?_cons,List.find?_cons,(kG e1).2.1]
  cases c:x.sD==s with
  | false=>exact ih s
  | true=>
   simp only
   obtain ⟨y,hy⟩:=hd x (by simp)
   obtain ⟨b1,b2,b3,b4⟩:=kG e1
   refine .inr ⟨x,x',rfl,rfl,b1,fun k2=>EX e1 (by omega),fun k3=>⟨EX e1 (by omega),tU b4,?_⟩⟩
   obtain ⟨k,t,s',n,q⟩:=x
   exact VP _ _ (K6 _ _ b4) (G1 hy k3)
theorem Sb {p n:Nd} {i:Int} (h:iO p=(n,i,0)):∃k t s m l l2,p=.mk k t s m l∧k=1∧fq l l [] 0=(.ok l2,fq l l [] 0 |>.2)∧n=.mk k t s m l2∧i=0:=by
 obtain ⟨k,t,s,m,l⟩:=p
 rw [iO] at h
 split at h
 ·rename_i c
  split at h
  ·rename_i l2 j hj
   cases h
   exact ⟨k,t,s,m,l,l2,rfl,by simpa using c,by rw [hj],rfl,rfl⟩
  ·rename_i e j hj
   cases h
   exact absurd rfl (zT _ _ _ _ _ hj)
 ·cases h
theorem Sa {p n:Nd} {i:Int} (h:iO p=(n,i,0)):cg n=cg p∧∀q,cg q=cg p→iO q=(n,0,0):=by
 obtain ⟨k,t,s,m,l,l2,rfl,rfl,hd,rfl,rfl⟩:=Sb h
 obtain ⟨a,b,_⟩:=vA (KS.refl l) l [] 0 l2 _ hd
 refine ⟨by rw [eN,eN,a],fun q hq=>?_⟩
 obtain ⟨t',l',rfl,h1,h2⟩:=jh hq
 rw [eW (by decide),eW (by decide)] at h2
 obtain ⟨_,_,c⟩:=vA (abm l l' b h1) l [] 0 l2 _ hd
 rw [iO,if_pos (by decide),c l' h1,h2]
end Go.Proofs.YtpklkpkfgmoghaaGreatDoor.Zz
