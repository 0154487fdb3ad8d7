/- The text of a program as it is made has its words, and is parsed to its tree. -/
import Derived.Test.YtpklkpkfgmoghaaGreatDoorZP26
import Derived.Test.YtpklkpkfgmoghaaGreatDoorZP17
import Derived.Test.YtpklkpkfgmoghaaGreatDoorZA0
set_option linter.unnecessarySimpa false
set_option linter.unusedVariables false
set_option linter.unusedSimpArgs false
set_option maxRecDepth 20000
namespace Go.Proofs.YtpklkpkfgmoghaaGreatDoor.Zz
noncomputable section
mutual
def GE.tx:GE→List UInt8→List UInt8
 | .int w,r=>w++r
 | .pr w,r=>w++r
 | .bool b,r=>(if b then mf else i_)++r
 | .var x,r=>x++r
 | .call x l,r=>x++40::GE.c7 l (41::r)
 | .un s e,r=>s++e.tx r
 | .bin s a b,r=>40::a.tx (32::(s++32::b.tx (41::r)))
 | .conv t e,r=>(if t=1 then mR else fP)++40::e.tx (41::r)
def GE.c7:List GE→List UInt8→List UInt8
 | [],r=>r
 | e::l,r=>e.tx (GE.py l r)
def GE.py:List GE→List UInt8→List UInt8
 | [],r=>r
 | e::l,r=>44::32::e.tx (GE.py l r)
end
mutual
def GE.dn:GE→Prop
 | .int w=>zi w
 | .pr w=>CO w
 | .bool _=>True
 | .var x=>fB x
 | .call x l=>fB x∧GE.fC l
 | .un s e=>(s=[45]∨s=[33])∧e.dn
 | .bin s a b=>s∈OO∧a.dn∧b.dn
 | .conv _ e=>e.dn
def GE.fC:List GE→Prop
 | []=>True
 | e::l=>e.dn∧GE.fC l
end
theorem zC {x r:List UInt8} (h:fB x):(x++r).getD 0 0≠61:=by
 obtain ⟨c,w,rfl,h1,_⟩:=h
 intro e
 have e:c=61:=e
 subst e
 cases h1
theorem Dq {x r:List UInt8} (h0:x≠[]) (h:∀y∈x,isDigit (y.toNat:Int)=true):(x++r).getD 0 0≠61:=by
 cases x with
 | nil=>exact absurd rfl h0
 | cons c w=>
  intro e
  have e:c=61:=e
  subst e
  have:=h 61 (by simp)
  cases this
theorem TN {e:GE} {r:List UInt8} (h:e.dn):(e.tx r).getD 0 0≠61:=by
 cases e with
 | int w=>rw [GE.dn] at h; rw [GE.tx]; exact Dq h.1 h.2.1
 | pr w=>
  rw [GE.dn] at h
  obtain ⟨A,B,rfl,a0,_,a1,_⟩:=h
  rw [GE.tx,List.append_assoc]
  exact Dq a0 a1
 | bool b=>
  rw [GE.tx]
  cases b
  ·exact (by decide:(102:UInt8)≠61)
  ·exact (by decide:(116:UInt8)≠61)
 | var x=>rw [GE.dn] at h; rw [GE.tx]; exact zC h
 | call x l=>rw [GE.dn] at h; rw [GE.tx]; exact zC h.1
 | un s e=>
  rw [GE.dn] at h
  rw [GE.tx]
  rcases h.1 with rfl | rfl
  ·exact (by decide:(45:UInt8)≠61)
  ·exact (by decide:(33:UInt8)≠61)
 | bin s a b=>rw [GE.tx]; exact (by decide:(40:UInt8)≠61)
 | conv t e=>
  rw [GE.tx]
  split
  ·exact (by decide:(105:UInt8)≠61)
  ·exact (by decide:(102:UInt8)≠61)
theorem M0 (r:List UInt8):Bd (40::r):=Bd.c rfl (by decide)
theorem RL (r:List UInt8):Bd (41::r):=Bd.c rfl (by decide)
theorem lx (r:List UInt8):Bd (32::r):=Bd.c rfl (by decide)
theorem YL (r:List UInt8):Bd (44::r):=Bd.c rfl (by decide)
theorem Li (r:List UInt8):Bd (59::r):=Bd.c rfl (by decide)
theorem M3 (l:List GE) (r:List UInt8):Bd (GE.py l (41::r)):=by
 cases l with
 | nil=>rw [GE.py]; exact RL r
 | cons e l=>rw [GE.py]; exact YL _
mutual
theorem lq:∀(e:GE),e.dn→∀(r:List UInt8) (ws:List Wd),Bd r→bd r ws→bd (e.tx r) (e.wd++ws)
 | .int w,h=>fun r ws hb ht=>by rw [GE.dn] at h; rw [GE.tx,GE.wd]; exact bd.int h hb ht
 | .pr w,h=>fun r ws hb ht=>by rw [GE.dn] at h; rw [GE.tx,GE.wd]; exact bd.pr h hb ht
 | .bool b,h=>fun r ws hb ht=>by
  rw [GE.tx,GE.wd]
  cases b
  ·exact bd.kw (x:=i_) (by decide) hb ht
  ·exact bd.kw (x:=mf) (by decide) hb ht
 | .var x,h=>fun r ws hb ht=>by rw [GE.dn] at h; rw [GE.tx,GE.wd]; exact bd.nm h hb ht
 | .call x l,h=>fun r ws hb ht=>by
  rw [GE.dn] at h
  rw [GE.tx,GE.wd]
  simp only [List.cons_append,List.append_assoc,List.nil_append]
  exact bd.nm h.1 (M0 _) (bd.one (by simp) (QL l h.2 r _ (bd.one (by simp) ht)))
 | .un s e,h=>fun r ws hb ht=>by
  rw [GE.dn] at h
  rw [GE.tx,GE.wd,List.cons_append]
  have he:=lq e h.2 r ws hb ht
  rcases h.1 with rfl | rfl
  ·exact bd.one (by simp) he
  ·exact bd.not (TN h.2) he
 | .bin s a b,h=>fun r ws hb ht=>by
  rw [GE.dn] at h
  rw [GE.tx,GE.wd]
  simp only [List.cons_append,List.append_assoc,List.nil_append]
  exact bd.one (by simp) (lq a h.2.1 _ _ (lx _) (bd.sp rfl (bd.op h.1 (lq b h.2.2 _ _ (RL _) (bd.one (by simp) ht)))))
 | .conv t e,h=>fun r ws hb ht=>by
  rw [GE.dn] at h
  rw [GE.tx,GE.wd]
  simp only [List.cons_append,List.append_assoc,List.nil_append]
  have he:=bd.one (c:=40) (by simp) (lq e h _ _ (RL r) (bd.one (by simp) ht))
  split
  ·exact bd.kw (x:=mR) (by decide) (M0 _) he
  ·exact bd.kw (x:=fP) (by decide) (M0 _) he
theorem QL:∀(l:List GE),GE.fC l→∀(r:List UInt8) (ws:List Wd),bd (41::r) ws→bd (GE.c7 l (41::r)) (GE.rX l++ws)
 | [],h=>fun r ws ht=>by rw [GE.c7,GE.rX]; exact ht
 | e::l,h=>fun r ws ht=>by
  rw [GE.fC] at h
  rw [GE.c7,GE.rX,List.append_assoc]
  exact lq e h.1 _ _ (M3 l r) (QM l h.2 r ws ht)
theorem QM:∀(l:List GE),GE.fC l→∀(r:List UInt8) (ws:List Wd),bd (41::r) ws→bd (GE.py l (41::r)) (GE.B8 l++ws)
 | [],h=>fun r ws ht=>by rw [GE.py,GE.B8]; exact ht
 | e::l,h=>fun r ws ht=>by
  rw [GE.fC] at h
  rw [GE.py,GE.B8,List.cons_append,List.append_assoc]
  exact bd.one (by simp) (bd.sp rfl (lq e h.1 _ _ (M3 l r) (QM l h.2 r ws ht)))
end
mutual
def GS.tx (c:UInt8):GS→List UInt8→List UInt8
 | .jY x e,r=>x++32::([58,61]++32::e.tx (59::r))
 | .np x e,r=>x++32::([61]++32::e.tx (59::r))
 | .zg e l,r=>FQ++32::e.tx (32::123::c::GS.c7 c l (125::r))
 | .zf e l l2,r=>FQ++32::e.tx (32::123::c::GS.c7 c l (125::32::(jS++32::123::c::GS.c7 c l2 (125::r))))
 | .lR e l,r=>FE++32::e.tx (32::123::c::GS.c7 c l (125::r))
 | .ret e,r=>lu++32::e.tx (59::r)
 | .iS e,r=>lr++32::e.tx (59::r)
 | .skip,r=>AB++59::r
 | .xV x l,r=>x++40::GE.c7 l (41::59::r)
def GS.c7 (c:UInt8):List GS→List UInt8→List UInt8
 | [],r=>r
 | s::l,r=>s.tx c (c::GS.c7 c l r)
end
mutual
def GS.dn:GS→Prop
 | .jY x e=>fB x∧e.dn
 | .np x e=>fB x∧e.dn
 | .zg e l=>e.dn∧GS.fC l
 | .zf e l r=>e.dn∧GS.fC l∧GS.fC r
 | .lR e l=>e.dn∧GS.fC l
 | .ret e=>e.dn
 | .iS e=>e.dn
 | .skip=>True
 | .xV x l=>fB x∧GE.fC l
def GS.fC:List GS→Prop
 | []=>True
 | s::l=>s.dn∧GS.fC l
end
mutual
theorem abS {c:UInt8} (hc:mo c=true):∀(s:GS),s.dn→∀(r:List UInt8) (ws:List Wd),bd r ws→bd (s.tx c r) (s.wd++ws)
 | .jY x e,h=>fun r ws ht=>by
  rw [GS.dn] at h
  rw [GS.tx,GS.wd]
  simp only [List.cons_append,List.append_assoc,List.nil_append]
  exact bd.nm h.1 (lx _) (bd.sp rfl (bd.op (w:=[58,61]) (by decide) (lq e h.2 _ _ (Li _) (bd.one (by simp) ht))))
 | .np x e,h=>fun r ws ht=>by
  rw [GS.dn] at h
  rw [GS.tx,GS.wd]
  simp only [List.cons_append,List.append_assoc,List.nil_append]
  exact bd.nm h.1 (lx _) (bd.sp rfl (bd.op (w:=[61]) (by decide) (lq e h.2 _ _ (Li _) (bd.one (by simp) ht))))
 | .zg e l,h=>fun r ws ht=>by
  rw [GS.dn] at h
  rw [GS.tx,GS.wd]
  simp only [List.cons_append,List.append_assoc,List.nil_append]
  exact bd.kw (x:=FQ) (by decide) (lx _) (bd.sp rfl (lq e h.1 _ _ (lx _) (bd.sp rfl (bd.one (by simp) (bd.sp hc (qh hc l h.2 _ _ (bd.one (by simp) ht)))))))
 | .zf e l l2,h=>fun r ws ht=>by
  rw [GS.dn] at h
  rw [GS.tx,GS.wd]
  simp only [List.cons_append,List.append_assoc,List.nil_append]
  exact bd.kw (x:=FQ) (by decide) (lx _) (bd.sp rfl (lq e h.1 _ _ (lx _) (bd.sp rfl (bd.one (by simp) (bd.sp hc (qh hc l h.2.1 _ _ (bd.one (by simp) (bd.sp rfl (bd.kw (x:=jS) (by decide) (lx _) (bd.sp rfl (bd.one (by simp) (bd.sp hc (qh hc l2 h.2.2 _ _ (bd.one (by simp) ht))))))))))))))
 | .lR e l,h=>fun r ws ht=>by
  rw [GS.dn] at h
  rw [GS.tx,GS.wd]
  simp only [List.cons_append,List.append_assoc,List.nil_append]
  exact bd.kw (x:=FE) (by decide) (lx _) (bd.sp rfl (lq e h.1 _ _ (lx _) (bd.sp rfl (bd.one (by simp) (bd.sp hc (qh hc l h.2 _ _ (bd.one (by simp) ht)))))))
 | .ret e,h=>fun r ws ht=>by
  rw [GS.dn] at h
  rw [GS.tx,GS.wd]
  simp only [List.cons_append,List.append_assoc,List.nil_append]
  exact bd.kw (x:=lu) (by decide) (lx _) (bd.sp rfl (lq e h _ _ (Li _) (bd.one (by simp) ht)))
 | .iS e,h=>fun r ws ht=>by
  rw [GS.dn] at h
  rw [GS.tx,GS.wd]
  simp only [List.cons_append,List.append_assoc,List.nil_append]
  exact bd.kw (x:=lr) (by decide) (lx _) (bd.sp rfl (lq e h _ _ (Li _) (bd.one (by simp) ht)))
 | .skip,h=>fun r ws ht=>by
  rw [GS.tx,GS.wd]
  exact bd.kw (x:=AB) (by decide) (Li _) (bd.one (by simp) ht)
 | .xV x l,h=>fun r ws ht=>by
  rw [GS.dn] at h
  rw [GS.tx,GS.wd]
  simp only [List.cons_append,List.append_assoc,List.nil_append]
  exact bd.nm h.1 (M0 _) (bd.one (by simp) (QL l h.2 _ _ (bd.one (by simp) (bd.one (by simp) ht))))
theorem qh {c:UInt8} (hc:mo c=true):∀(l:List GS),GS.fC l→∀(r:List UInt8) (ws:List Wd),bd r ws→bd (GS.c7 c l r) (GS.rX l++ws)
 | [],h=>fun r ws ht=>by rw [GS.c7,GS.rX]; exact ht
 | s::l,h=>fun r ws ht=>by
  rw [GS.fC] at h
  rw [GS.c7,GS.rX,List.append_assoc]
  exact abS hc s h.1 _ _ (bd.sp hc (qh hc l h.2 r ws ht))
end
def f_:List (List UInt8×Int)→List UInt8→List UInt8
 | [],r=>r
 | p::l,r=>44::32::(p.1++32::(gx p.2++f_ l r))
def gM:List (List UInt8×Int)→List UInt8→List UInt8
 | [],r=>r
 | p::l,r=>p.1++32::(gx p.2++f_ l r)
def GD.tx (c:UInt8):GD→List UInt8→List UInt8
 | .var x t e,r=>kK++32::(x++32::(gx t++32::([61]++32::e.tx (59::r))))
 | .func x ps t l,r=>rV++32::(x++40::gM ps (41::32::(gx t++32::123::c::GS.c7 c l (125::r))))
 | .test x l,r=>rW++32::(x++32::123::c::GS.c7 c l (125::r))
def GD.dn:GD→Prop
 | .var x _ e=>fB x∧e.dn
 | .func x ps _ l=>fB x∧(∀p∈ps,fB p.1)∧GS.fC l
 | .test x l=>fB x∧GS.fC l
theorem KV (t:Int):gx t∈words:=by
 unfold gx
 split
 ·decide
 ·split<;>decide
theorem M1 (l:List (List UInt8×Int)) (r:List UInt8):Bd (f_ l (41::r)):=by
 cases l with
 | nil=>exact RL r
 | cons p l=>exact YL _
theorem Fl:∀(l:List (List UInt8×Int)),(∀p∈l,fB p.1)→∀(r:List UInt8) (ws:List Wd),bd (41::r) ws→bd (f_ l (41::r)) (BF l++ws)
 | [],h,r,ws,ht=>ht
 | p::l,h,r,ws,ht=>by
  rw [f_,BF]
  simp only [List.cons_append]
  exact bd.one (by simp) (bd.sp rfl (bd.nm (h p (by simp)) (lx _) (bd.sp rfl (bd.kw (KV _) (M1 l r) (Fl l (fun q hq=>h q (by simp [hq])) r ws ht)))))
theorem TH (l:List (List UInt8×Int)) (h:∀p∈l,fB p.1) (r:List UInt8) (ws:List Wd) (ht:bd (41::r) ws):bd (gM l (41::r)) (x_ l++ws):=by
 cases l with
 | nil=>exact ht
 | cons p l=>
  rw [gM,x_]
  simp only [List.cons_append]
  exact bd.nm (h p (by simp)) (lx _) (bd.sp rfl (bd.kw (KV _) (M1 l r) (Fl l (fun q hq=>h q (by simp [hq])) r ws ht)))
theorem abR {c:UInt8} (hc:mo c=true) (D:GD) (h:D.dn) (r:List UInt8) (ws:List Wd) (ht:bd r ws):bd (D.tx c r) (D.wd++ws):=by
 cases D with
 | var x t e=>
  rw [GD.dn] at h
  rw [GD.tx,GD.wd]
  simp only [List.cons_append,List.append_assoc,List.nil_append]
  exact bd.kw (x:=kK) (by decide) (lx _) (bd.sp rfl (bd.nm h.1 (lx _) (bd.sp rfl (bd.kw (KV t) (lx _) (bd.sp rfl (bd.op (w:=[61]) (by decide) (lq e h.2 _ _ (Li _) (bd.one (by simp) ht))))))))
 | func x ps t l=>
  rw [GD.dn] at h
  rw [GD.tx,GD.wd]
  simp only [List.cons_append,List.append_assoc,List.nil_append]
  exact bd.kw (x:=rV) (by decide) (lx _) (bd.sp rfl (bd.nm h.1 (M0 _) (bd.one (by simp) (TH ps h.2.1 _ _ (bd.one (by simp) (bd.sp rfl (bd.kw (KV t) (lx _) (bd.sp rfl (bd.one (by simp) (bd.sp hc (qh hc l h.2.2 _ _ (bd.one (by simp) ht))))))))))))
 | test x l=>
  rw [GD.dn] at h
  rw [GD.tx,GD.wd]
  simp only [List.cons_append,List.append_assoc,List.nil_append]
  exact bd.kw (x:=rW) (by decide) (lx _) (bd.sp rfl (bd.nm h.1 (lx _) (bd.sp rfl (bd.one (by simp) (bd.sp hc (qh hc l h.2 _ _ (bd.one (by simp) ht)))))))
def cC (c:UInt8):List GD→List UInt8
 | []=>[]
 | D::l=>D.tx c (10::cC c l)
theorem U_ {c:UInt8} (hc:mo c=true):∀(l:List GD),(∀D∈l,D.dn)→bd (cC c l) (kX l)
 | [],h=>bd.nil
 | D::l,h=>by
  rw [cC,kX]
  exact abR hc D (h D (by simp)) _ _ (bd.sp rfl (U_ hc l fun E hE=>h E (by simp [hE])))
theorem xv {c:UInt8} (hc:mo c=true) {l:List GD} (hlen:(cC c l).length≤4096) (hl:∀D∈l,D.ok∧D.dn) (h1:Bh l≤16) (h2:Bf l≤32) (hm:(fb l).dz≤2000):lD 81 (cC c l)=some (fb l,0,0):=
 GF (Nat.le_refl _) (U_ hc l fun D hD=>(hl D hD).2) hlen (fun D hD=>(hl D hD).1) h1 h2 hm
end
end Go.Proofs.YtpklkpkfgmoghaaGreatDoor.Zz
namespace Go.Proofs.YtpklkpkfgmoghaaGreatDoor.Zz
noncomputable section
def ae3:cj:=⟨⟨[],[(1,1),(2,1),(4,1)],[],[],[],[]⟩,[],[],false⟩
def aa9:dL:=
 sO [oA 2]
 (sO [oM 0 6,
 oC 57 [.t 6,kS [45]] 7,
 oM 7 3]
 (sO [oM 0 9,
 oC 81 [.t 9] 10,
 oM 10 8,
 oX 8 0 11,
 oX 8 1 12,
 oA 4,
 oS 5 4 11,
 oM 12 5]
 (.seq (sO [oM 5 13,
 oP (.un .not (.t 13)) 14,
 oM 14 15,
 oG (.cy (.t 3)) 16 15 false true,
 oG (.cy (.t 16)) 17 15 false true,
 oG (.fieldAddr 0 (.t 4)) 18 17 true true,
 oG (.load none (.t 18)) 19 17 true false,
 oG (.bin .eql (.t 19) (kI 22)) 20 17 true true,
 oG (.pick (.t 17) (.t 20) (kB false)) 21 15 false true,
 oP (.pick (.t 15) (kB true) (.t 21)) 22]
 (.cond (.t 22)
 (.ops [oM 0 23,
 oC 38 [.t 23,kI 110] 24])
 (.skip)))
 (.seq (sO [oM 3 25,
 oM 25 26,
 oG (.fieldAddr 0 (.t 4)) 27 26 true true,
 oG (.load none (.t 27)) 28 26 true false,
 oG (.bin .eql (.t 28) (kI 20)) 29 26 true true,
 oP (.pick (.t 26) (.t 29) (kB false)) 30]
 (.cond (.t 30)
 (.ops [oF 3 4 31,
 oL 31 32,
 oP (.un .neg (.t 32)) 33,
 oF 3 4 34,
 oS 1 34 33])
 (.skip)))
 (.seq (sO [oM 3 35,
 oM 35 36,
 oG (.fieldAddr 0 (.t 4)) 37 36 true true,
 oG (.load none (.t 37)) 38 36 true false,
 oG (.bin .eql (.t 38) (kI 21)) 39 36 true true,
 oP (.pick (.t 36) (.t 39) (kB false)) 40]
 (.cond (.t 40)
 (.ops [oF 3 4 41,
 oL 41 42,
 oP (.conv (.nL .u64) (.t 42)) 43,
 oD 83 [.t 43] 44,
 oP (.un .neg (.t 44)) 45,
 oD 82 [.t 45] 46,
 oP (.conv (.nL .i64) (.t 46)) 47,
 oF 3 4 48,
 oS 1 48 47])
 (.skip)))
 (sO [oJ 5 4 49,
 oS 5 2 49]
 (.ret)))))))
theorem abH:bJ Tryz.prog 61 ae3=some (aa9,[.cell 2 (some 5)],50):=by kernel_rfl
def aas:cj:=⟨⟨[],[],[],[],[],[]⟩,[],[],false⟩
def k9:dL:=
 sO [oP (.cy (kI 0)) 2]
 (.seq (sO [oM 0 3]
 (.block 0 (sO [oP (.bin .eql (.t 3) (kS [124,124])) 5,
 oM 5 4]
 (.cond (.t 4)
 (sO [oP (.cy (kI 1)) 2]
 (.ret))
 (sO [oP (.bin .eql (.t 3) (kS [38,38])) 7,
 oM 7 6]
 (.cond (.t 6)
 (sO [oP (.cy (kI 2)) 2]
 (.ret))
 (.seq (sO [oP (.bin .eql (.t 3) (kS [60])) 9,
 oM 9 8]
 (.cond (.t 8)
 (.skip)
 (sO [oP (.bin .eql (.t 3) (kS [60,61])) 10,
 oM 10 8]
 (.cond (.t 8)
 (.skip)
 (sO [oP (.bin .eql (.t 3) (kS [62])) 11,
 oM 11 8]
 (.cond (.t 8)
 (.skip)
 (sO [oP (.bin .eql (.t 3) (kS [62,61])) 12,
 oM 12 8]
 (.cond (.t 8)
 (.skip)
 (sO [oP (.bin .eql (.t 3) (kS [61,61])) 13,
 oM 13 8]
 (.cond (.t 8)
 (.skip)
 (.ops [oP (.bin .eql (.t 3) (kS [33,61])) 14,
 oM 14 8])))))))))))
 (.cond (.t 8)
 (sO [oP (.cy (kI 3)) 2]
 (.ret))
 (.seq (sO [oP (.bin .eql (.t 3) (kS [43])) 16,
 oM 16 15]
 (.cond (.t 15)
 (.skip)
 (.ops [oP (.bin .eql (.t 3) (kS [45])) 17,
 oM 17 15])))
 (.cond (.t 15)
 (sO [oP (.cy (kI 4)) 2]
 (.ret))
 (.seq (sO [oP (.bin .eql (.t 3) (kS [42])) 19,
 oM 19 18]
 (.cond (.t 18)
 (.skip)
 (sO [oP (.bin .eql (.t 3) (kS [47])) 20,
 oM 20 18]
 (.cond (.t 18)
 (.skip)
 (.ops [oP (.bin .eql (.t 3) (kS [37])) 21,
 oM 21 18])))))
 (.cond (.t 18)
 (sO [oP (.cy (kI 5)) 2]
 (.ret))
 (.skip)))))))))))))
 (sO [oP (.cy (kI 0)) 2]
 (.ret)))
theorem XH:bJ Tryz.prog 120 aas=some (k9,[.tmp 2],22):=by kernel_rfl
theorem Xp (s:List UInt8):aO Tryz.prog 120 [.str s] (.int .i64 (fF s)):=by
 refine aO.run (bm.eH _) XH (by simp) fun E=>?_
 unfold fF
 cases jU:(s==[124,124])
 case true=>simp (maxSteps:=1000000) only [k9,jU,aD,seval]
 cases jW:(s==[38,38])
 case true=>simp (maxSteps:=1000000) only [k9,jU,jW,aD,seval]
 cases jX:(s==[60])
 case true=>simp (maxSteps:=1000000) only [k9,jU,jW,jX,aD,seval]
 cases uP:(s==[60,61])
 case true=>simp (maxSteps:=1000000) only [k9,jU,jW,jX,uP,aD,seval]
 cases xG:(s==[62])
 case true=>simp (maxSteps:=1000000) only [k9,jU,jW,jX,uP,xG,aD,seval]
 cases TY:(s==[62,61])
 case true=>simp (maxSteps:=1000000) only [k9,jU,jW,jX,uP,xG,TY,aD,seval]
 cases VO:(s==[61,61])
 case true=>simp (maxSteps:=1000000) only [k9,jU,jW,jX,uP,xG,TY,VO,aD,seval]
 cases Ya:(s==[33,61])
 case true=>simp (maxSteps:=1000000) only [k9,jU,jW,jX,uP,xG,TY,VO,Ya,aD,seval]
 cases YP:(s==[43])
 case true=>simp (maxSteps:=1000000) only [k9,jU,jW,jX,uP,xG,TY,VO,Ya,YP,aD,seval]
 cases d1:(s==[45])
 case true=>simp (maxSteps:=1000000) only [k9,jU,jW,jX,uP,xG,TY,VO,Ya,YP,d1,aD,seval]
 cases d2:(s==[42])
 case true=>simp (maxSteps:=1000000) only [k9,jU,jW,jX,uP,xG,TY,VO,Ya,YP,d1,d2,aD,seval]
 cases d3:(s==[47])
 case true=>simp (maxSteps:=1000000) only [k9,jU,jW,jX,uP,xG,TY,VO,Ya,YP,d1,d2,d3,aD,seval]
 cases d4:(s==[37])
 bf simp (maxSteps:=1000000) only [k9,jU,jW,jX,uP,xG,TY,VO,Ya,YP,d1,d2,d3,d4,aD,seval]
def D9:List D→Option D
 | [.str s]=>some (.int .i64 (fF s))
 | _=>none
theorem O3 (args:List D) (d:D) (h:D9 args=some d):aO Tryz.prog 120 args d:=by
 unfold D9 at h
 split at h
 ·cases h; exact Xp _
 ·cases h
theorem Zb:vK Tryz.prog 82 "math.Float64bits" =true:=by kernel_rfl
theorem Zc:vK Tryz.prog 83 "math.Float64frombits" =true:=by kernel_rfl
def ow:bm:=uv.dh 120 D9
theorem EK (g:FuncId) (args:List D):ow.q g args=if g=120 then D9 args else uv.q g args:=rfl
theorem EH:ow.a=uv.a:=rfl
theorem EI:ow.c=uv.c:=rfl
theorem MA:ow.ok Tryz.prog:=bm.bq Qw O3
theorem EJ:a7% (And.intro (And.intro @EK (And.intro @EH @EI)) @Kv):=(And.intro (And.intro @EK (And.intro @EH @EI)) @Kv)
def uw:bm:=ow.dh 82 uB
theorem KB (g:FuncId) (args:List D):uw.q g args=if g=82 then uB args else ow.q g args:=rfl
theorem Ky:uw.a=ow.a:=rfl
theorem Kz:uw.c=ow.c:=rfl
theorem QA:uw.ok Tryz.prog:=bm.AN MA (FG Zb)
theorem KA:a7% (And.intro (And.intro @KB (And.intro @Ky @Kz)) @EJ):=(And.intro (And.intro @KB (And.intro @Ky @Kz)) @EJ)
def ux:bm:=uw.dh 83 FH
theorem KF (g:FuncId) (args:List D):ux.q g args=if g=83 then FH args else uw.q g args:=rfl
theorem KD:ux.a=uw.a:=rfl
theorem KE:ux.c=uw.c:=rfl
theorem Fg:ux.ok Tryz.prog:=bm.AN QA (Rq Zc)
theorem iy:a7% (And.intro (And.intro @KF (And.intro @KD @KE)) @KA):=(And.intro (And.intro @KF (And.intro @KD @KE)) @KA)
theorem Z8 (l:List cH) (hl:uL l) (s:PS) (id:Nat) (ok:cJ l s) (K0:Nd→PS→Prop) (E0:Int→Int→Prop) (hw:jG (BE l s) (fun x s'=>cJ l s'→K0 x s') E0):aQ Tryz.prog 61 [.ptr id 1 0] (aa.emp.set id (b9 l s)) (lF (fun n:Nd=>.agg n.enc) l id K0 E0):=by
 refine aQ.du Fg (dc:=cS.none) (fun _ _=>cS.eV) (by kernel_rfl) abH (by simp) ?_
 rw [dK]
 unfold BE at hw
 rw [aG] at hw
 simp (maxSteps:=1000000) only [aa9,iy,aD,seval]
 intro i2 n1 n2
 refine ⟨l,s,id,[45],rfl,hl.lo,by simp [n1,n2],ok,gO (fun mi cg k gm=>?_) (fun a e k s'=>?_) hw⟩
 case refine_2=>
  simp only [bB,ae,az]
  exact aC (s':=s') (by simp [n1,n2]) k
 rw [aG] at k
 simp (maxSteps:=1000000) only [n1,n2,iy,aD,seval]
 refine ⟨l,cg,id,rfl,hl,by simp [n1,n2],gm,gO (fun x ea k j5=>?_) (fun a e k s'=>?_) k⟩
 case refine_2=>
  simp only [bB,ae,az]
  exact aC (s':=s') (by simp [n1,n2]) k
 obtain ⟨⟨nk,nt,ns,nm,nl⟩,b⟩:=x
 simp (maxSteps:=1000000) only [aT,n1,n2,iy,aD,seval]
 intro i4 m1 m2 m3 m4
 simp only [Nd.kind,Nd.Pt,Nd.num] at k
 cases b with
 | false=>
  simp only [Bool.not_false,Bool.true_or,cond_true] at k
  simp (maxSteps:=1000000) only [n1,n2,m1,m2,m3,m4,Bool.not_false,iy,aD,seval]
  refine ⟨l,ea,id,110,rfl,by simp [n1,n2,m1,m2,m3,m4],j5.at_,?_⟩
  simp only [bB,ae,az]
  exact aC (s':=ea) (by simp [n1,n2,m1,m2,m3,m4]) k
 | true=>
  cases mi with
  | false=>
   simp only [Bool.not_true,Bool.false_and,Bool.or_self,cond_false,cu] at k
   simp (maxSteps:=1000000) only [n1,n2,m1,m2,m3,m4,Bool.not_true,ah,ae,az,iy,aD,seval]
   exact cv (x:=.mk nk nt ns nm nl) (s':=ea) (by rw [aT]) (by simp [n1,n2,m1,m2,m3,m4]) (k j5)
  | true=>
   simp only [Bool.not_true,Bool.true_and,Bool.false_or] at k
   cases jW:(nk==22) with
   | true=>
    rw [jW,cond_true] at k
    simp (maxSteps:=1000000) only [jW,n1,n2,m1,m2,m3,m4,Bool.not_true,iy,aD,seval]
    refine ⟨l,ea,id,110,rfl,by simp [n1,n2,m1,m2,m3,m4],j5.at_,?_⟩
    simp only [bB,ae,az]
    exact aC (s':=ea) (by simp [n1,n2,m1,m2,m3,m4]) k
   | false=>
    rw [jW,cond_false,cu] at k
    have k:=k j5
    cases jX:(nk==20) with
    | true=>
     have uP:(nk==21)=false:=by simp at jX ⊢; omega
     rw [jX,cond_true] at k
     simp (maxSteps:=1000000) only [jW,jX,uP,n1,n2,m1,m2,m3,m4,Bool.not_true,ah,ae,az,iy,aD,seval]
     exact cv (x:=.mk nk nt ns (IntKind.i64.wrap (0 - nm)) nl) (s':=ea) (by rw [aT]) (by simp [n1,n2,m1,m2,m3,m4]) k
    | false=>
     rw [jX,cond_false] at k
     cases uP:(nk==21) with
     | true=>
      rw [uP,cond_true] at k
      simp (maxSteps:=1000000) only [jW,jX,uP,n1,n2,m1,m2,m3,m4,Bool.not_true,uB,FH,ah,ae,az,iy,aD,seval]
      exact cv (x:=.mk nk nt ns (WM nm) nl) (s':=ea) (by rw [aT]; rfl) (by simp [n1,n2,m1,m2,m3,m4]) k
     | false=>
      rw [uP,cond_false] at k
      simp (maxSteps:=1000000) only [jW,jX,uP,n1,n2,m1,m2,m3,m4,Bool.not_true,ah,ae,az,iy,aD,seval]
      exact cv (x:=.mk nk nt ns nm nl) (s':=ea) (by rw [aT]) (by simp [n1,n2,m1,m2,m3,m4]) k
def Nk (args:List D) (h:aa) (K E:D→aa→Prop):Prop:=∃(l:List cH) (s:PS) (id:Nat) ,args=[.ptr id 1 0]∧uL l∧cP (BE l) (fun n:Nd=>.agg n.enc) l s id h K E
theorem Lo (args:List D) (h:aa) (K E K' E':D→aa→Prop) (hk:∀d h,K d h→K' d h) (he:∀d h,E d h→E' d h) (c:Nk args h K E):Nk args h K' E':=by
 obtain ⟨l,s,id,a,b,c⟩:=c
 exact ⟨l,s,id,a,b,eO hk he c⟩
theorem RP (args:List D) (h:aa) (K E:D→aa→Prop) (c:Nk args h K E):aQ Tryz.prog 61 args h (dF.to K E):=by
 obtain ⟨l,s,id,rfl,hl,c⟩:=c
 exact jq (fun ok K0 E0 hw=>Z8 l hl s id  ok K0 E0 hw) c
def uu:bm:=ux.kc 61 Nk Lo
theorem Kl:uu.q=ux.q:=rfl
theorem Kj:uu.a=ux.a:=rfl
theorem Kk (g:FuncId) (args:List D) (h:aa) (K E:D→aa→Prop):uu.c g args h K E=if g=61 then Nk args h K E else ux.c g args h K E:=rfl
theorem E6:uu.ok Tryz.prog:=bm.cL Fg RP
theorem ao:a7% (And.intro (And.intro @Kl (And.intro @Kj @Kk)) @iy):=(And.intro (And.intro @Kl (And.intro @Kj @Kk)) @iy)
end
end Go.Proofs.YtpklkpkfgmoghaaGreatDoor.Zz
namespace Go.Proofs.YtpklkpkfgmoghaaGreatDoor.Zz
noncomputable section
def aaw:cj:=⟨⟨[],[],[],[],[],[]⟩,[],[],false⟩
def UK:dL:=
 sO [oP (.cy (kS [])) 4]
 (sO [oP (.cy (.c .bg)) 5]
 (.seq (sO [oM 0 8,
 oZ 8 9,
 oP (.cy (kI 0)) 10]
 (.block 0 (.loop (sO [oE .lss 10 9 11]
 (.seq (.cond (.t 11)
 (.skip)
 (.exit 0))
 (.seq (.block 1 (sO [oI 5 8 10 12,
 oJ 5 12 13,
 oA 7,
 oS 5 7 13]
 (.ops [oM 5 14,
 oJ 5 7 15,
 oD 8 [.t 15] 16,
 oP (.buildSlice 1 [(.str [])] 1 [(0,(.t 16))] false) 17,
 oQ (.append 1 16 false (.t 14) (.t 17)) 18,
 oM 18 5])))
 (.ops [oH .add 10 1 19,
 oM 19 10])))))))
 (sO [oM 5 20,
 oM 1 21,
 oD 43 [.t 20,.t 21] 22,
 oM 22 4]
 (.ret))))
theorem XL:bJ Tryz.prog 26 aaw=some (UK,[.tmp 4],23):=by kernel_rfl
def yJ (k t:Int) (s:List UInt8) (m:Int) (ps:List (List UInt8)):List UInt8:=
 bif k==20 then b8.mq m else bif k==21 || k==23 then s else bif k==22 then (bif m==0 then i_ else mf)
 else bif k==24 then s++[40]++b8.join ps [44,32]++[41] else bif k==27 then fI t++[40]++b8.join ps [44,32]++[41]
 else bif k==25 then s++b8.join ps [] else [40]++b8.join ps (32::(s++[32]))++[41]
def Px (k:Int) (s:List UInt8) (ps:List (List UInt8)):List UInt8:=
 bif k==6 then (if ps=[] then [123,32,125] else [123,32]++b8.join ps [32]++[32,125])
 else bif k==7 then s++[32,58,61,32]++ps.getD 0 []++[59] else bif k==8 then s++[32,61,32]++ps.getD 0 []++[59]
 else bif k==9 then (if 2<ps.length then [105,102,32]++ps.getD 0 []++[32]++ps.getD 1 []++([32,101,108,115,101,32]++ps.getD 2 []) else [105,102,32]++ps.getD 0 []++[32]++ps.getD 1 [])
 else bif k==10 then [102,111,114,32]++ps.getD 0 []++[32]++ps.getD 1 []
 else bif k==11 then [114,101,116,117,114,110,32]++ps.getD 0 []++[59] else bif k==12 then [97,115,115,101,114,116,32]++ps.getD 0 []++[59]
 else bif k==13 then ps.getD 0 []++[59] else [115,107,105,112,59]
def x7 (x:Nd) (p:List UInt8):List UInt8:=match x with
 | .mk k _ s m _=>bif k==21 && decide (m<0) then [45]++s else bif k==20 then b8.mq m else p
def fN (ps:List (List UInt8)):List UInt8:=(ps.map fun p=>p++[10]).flatten
def NL (k t:Int) (s:List UInt8) (l:List Nd) (ps:List (List UInt8)):List UInt8:=
 bif k==1 then fN ps else bif k==5 then s++[32]++fI t else match l with
  | []=>[]
  | x::_=>bif k==2 then [118,97,114,32]++s++[32]++fI t++[32,61,32]++x7 x (ps.getD 0 [])++[59]
   else bif k==4 then [116,101,115,116,32]++s++[32]++ps.getD 0 []
   else [102,117,110,99,32]++s++[40]++b8.join ps.dropLast [44,32]++[41,32]++fI t++[32]++ps.getD (ps.length - 1) []
def jO (k t:Int) (s:List UInt8) (m:Int) (l:List Nd) (ps:List (List UInt8)):List UInt8:=
 if k≥20 then yJ k t s m ps else if k≤5 then NL k t s l ps else Px k s ps
mutual
def aV:Nd→List UInt8
 | .mk k t s m l=>jO k t s m l (a_ l)
def a_:List Nd→List (List UInt8)
 | []=>[]
 | x::l=>aV x::a_ l
end
theorem bN (k t:Int) (s:List UInt8) (m:Int) (l:List Nd):aV (.mk k t s m l)=jO k t s m l (a_ l):=by rw [aV]
theorem bV:a_ []=[]:=by rw [a_]
theorem bj (x:Nd) (l:List Nd):a_ (x::l)=aV x::a_ l:=by rw [a_]
theorem eW:∀l:List Nd,a_ l=l.map aV
 | []=>by rw [bV]; rfl
 | x::l=>by rw [bj,eW l]; rfl
theorem jA (l:List Nd):(a_ l).length=l.length:=by rw [eW,List.length_map]
theorem jz {l:List Nd} {i:Nat} {x:Nd} (h:l[i]? =some x):(a_ l)[i]? =some (aV x):=by rw [eW,List.getElem?_map,h]; rfl
theorem Ds {ps:List (List UInt8)} {sep x:List UInt8} (h:x∈ps):x.length≤(b8.join ps sep).length:=by
 cases ps with
 | nil=>cases h
 | cons y r=>
  rw [b8.Ui]
  have:x.length≤b8.lens (y::r):=by
   clear sep
   generalize y::r=l at*
   induction l with
   | nil=>cases h
   | cons z l ih=>
    simp only [b8.lens,List.map_cons,List.sum_cons] at ih ⊢
    rcases List.mem_cons.1 h with e | e
    ·subst e; omega
    ·have:=ih e; omega
  omega
def okX:Nd→Prop
 | .mk _ _ s m _=> -9223372036854775808≤m∧m≤9223372036854775807∧s.length≤1000000000000
def sE (n:Nd):Prop:=n.dz≤1000000000∧(aV n).length≤1000000000000∧∀x∈tv n,okX x
theorem GB {l:List Nd} {x y:Nd} (h:x∈l) (hy:y∈tv x):y∈mv l:=by
 induction l with
 | nil=>cases h
 | cons z l ih=>
  rw [tz]
  rcases List.mem_cons.1 h with e | e
  ·subst e; exact List.mem_append_left _ hy
  ·exact List.mem_append_right _ (ih e)
theorem mz {k t:Int} {s:List UInt8} {m:Int} {l:List Nd} {x:Nd} (h:sE (.mk k t s m l)) (hx:x∈l) (hp:(aV x).length≤1000000000000):sE x:=by
 obtain ⟨a,b,c⟩:=h
 refine ⟨by have:=oT (k:=k) (t:=t) (s:=s) (n:=m) hx; omega,hp,fun y hy=>c y ?_⟩
 rw [we]
 exact List.mem_cons_of_mem _ (GB hx hy)
open Classical in
def Mb (f:Nat):List D→Option D
 | [.agg ds]=>match vA ds with
  | some n=>if n.dz<f∧sE n then some (.str (aV n)) else none
  | none=>none
 | _=>none
theorem o9 {f:Nat} {n:Nd} (h:n.dz<f) (h2:sE n):Mb f [.agg n.enc]=some (.str (aV n)):=by
 simp only [Mb,kg]; rw [if_pos ⟨h,h2⟩]
def Fo:bm:=bm.zero.dh 40 D_
theorem QS (g:FuncId) (args:List D):Fo.q g args=if g=40 then D_ args else bm.zero.q g args:=rfl
theorem QP:Fo.a=bm.zero.a:=rfl
theorem QQ:Fo.c=bm.zero.c:=rfl
theorem TI:Fo.ok Tryz.prog:=bm.bq (bm.eH _) IA
theorem QR:a7% (And.intro @QS (And.intro @QP @QQ)):=(And.intro @QS (And.intro @QP @QQ))
def Fp:bm:=Fo.dh 43 tM
theorem QZ (g:FuncId) (args:List D):Fp.q g args=if g=43 then tM args else Fo.q g args:=rfl
theorem QW:Fp.a=Fo.a:=rfl
theorem QX:Fp.c=Fo.c:=rfl
theorem TJ:Fp.ok Tryz.prog:=bm.bq TI O0
theorem QY:a7% (And.intro (And.intro @QZ (And.intro @QW @QX)) @QR):=(And.intro (And.intro @QZ (And.intro @QW @QX)) @QR)
def rR:bm:=Fp.dh 41 yd
theorem QV (g:FuncId) (args:List D):rR.q g args=if g=41 then yd args else Fp.q g args:=rfl
theorem QT:rR.a=Fp.a:=rfl
theorem QU:rR.c=Fp.c:=rfl
theorem KQ:rR.ok Tryz.prog:=bm.bq TJ Iy
theorem bS:a7% (And.intro (And.intro @QV (And.intro @QT @QU)) @QY):=(And.intro (And.intro @QV (And.intro @QT @QU)) @QY)
def xN (f:Nat):bm:=rR.dh 8 (Mb f)
theorem Am (f:Nat) (g:FuncId) (args:List D):(xN f).q g args=if g=8 then Mb f args else rR.q g args:=rfl
theorem Q1 (f:Nat):(xN f).a=rR.a:=rfl
theorem Q4 (f:Nat):(xN f).c=rR.c:=rfl
set_option maxHeartbeats 1000000 in
theorem Sn (f:Nat) (hT:(xN f).ok Tryz.prog) (l:List Nd) (sep:List UInt8) (hl:∀x∈l,x.dz<f∧sE x) (hn:l.length≤1000000000) (hJ:(b8.join (a_ l) sep).length≤1000000000000):aO Tryz.prog 26 [.sl (Nd.cW l),.str sep] (.str (b8.join (a_ l) sep)):=by
 refine aO.run hT XL (by simp) fun E=>?_
 have je:=Am f
 have jc:=Q1 f
 have jd:=Q4 f
 generalize xN f=TT at je jc jd ⊢
 have Ry:=jA l
 have hj:tM [.sl (cM (a_ l)),.str sep]=some (.str (b8.join (a_ l) sep)):=OZ ⟨by omega,by omega⟩
 simp (maxSteps:=1000000) only [UK,aX,je,jc,jd,bS,aD,seval]
 intro _
 refine c6 (X:=Nat×Nat) (fun z=>[(1,.str sep),(5,kJ z.2 z.1),(8,.sl (Nd.cW l)),(9,.int .i64 l.length),(10,.int .i64 z.1)]) (fun z=>L8 .emp z.2 1 (cM ((a_ l).take z.1))) (fun z=>l.length - z.1) (fun z=>z.1≤l.length) (0,0) (Nat.zero_le _) (by simp only [fX,aD,seval]) (aa.aU _) ?_
 rintro ⟨i,q⟩ Q hi hQ
 simp only at hi hQ ⊢
 have Yr:((a_ l).take i).length=i:=by rw [List.length_take]; omega
 by_cases ci:i<l.length
 ·have g:((i:Int)<(l.length:Int))=True:=eq_true (by omega)
  obtain ⟨x,hx⟩:∃x,l[i]? =some x:=⟨_,List.getElem?_eq_getElem ci⟩
  have qM:∀(K:D→aa→Prop) (h:aa),iI 5 K h (Nd.cW l) (i:Int)=K (.c8 x.enc 0) h:=fun K h=>iR hx
  have Wo:=ak x
  have wi:IntKind.i64.wrap ((i:Int)+1)=((i+1:Nat):Int):=de (by omega)
  obtain ⟨h1,h2⟩:=hl x (List.mem_of_getElem? hx)
  have hq:=o9 h1 h2
  have LM:(a_ l).take (i+1)=(a_ l).take i++[aV x]:=by rw [List.take_add_one,jz hx]; rfl
  have hx5:=aq x
  have hxo:=ay x
  generalize aV x=px at hq LM
  obtain ⟨xk,xt,xs,xm,xl⟩:=x
  rw [aT] at*
  by_cases h0:i=0
  ·have o1:kJ q i=.bg:=by rw [h0]; rfl
   have o2:(a_ l).take i=[]:=by rw [h0]; rfl
   have o3:∀r,kJ r (i+1)=.row r 3 0 1:=fun r=>by rw [h0]; rfl
   rw [o2,List.nil_append] at LM
   simp (maxSteps:=1000000) only [g,qM,Wo,wi,hq,je,jc,jd,o1,o2,show cM []=[] from rfl,nX,bS,aD,seval]
   intro i7 i8 n1 n2
   refine hQ (i+1,i8) _ _ (by simp only; omega) (by simp only [o3,aD,seval]) ?_ (by simp only; omega)
   simp only [LM]
   rw [km (by simp [cM])]
   exact aa.dV (aa.cU (by simp [cM]) aa.bO)
  ·have e1:cM ((a_ l).take i)≠[]:=fun e=>h0 (by have:=congrArg List.length e; rw [di,Yr] at this; simpa using this)
   simp (maxSteps:=1000000) only [g,qM,Wo,wi,hq,je,jc,jd,cB h0,km e1,di,Yr,bS,aD,seval]
   intro i7 n1 n2
   simp (maxSteps:=1000000) only [g,qM,Wo,wi,hq,je,jc,jd,n1,n2,di,Yr,bS,aD,seval]
   refine ⟨by omega,hQ (i+1,q) _ _ (by simp only; omega) (by simp only [cB (Nat.succ_ne_zero i),show i+1+2=i+2+1 by omega,aD,seval]) ?_ (by simp only; omega)⟩
   simp only [LM]
   have LI:(cM ((a_ l).take i++[px])).length=i+1:=by rw [di,List.length_append,Yr]; rfl
   rw [km (by intro e; rw [e] at LI; simp at LI),LI,←kh,show i+1+2=i+2+1 by omega]
   exact aa.dV (aa.cU (by simp [n1,n2]) aa.bO)
 ·have e0:i=l.length:=by omega
  subst e0
  have g:((l.length:Int)<(l.length:Int))=False:=eq_false (by omega)
  have tk:(a_ l).take l.length=a_ l:=List.take_of_length_le (by omega)
  rw [tk] at Yr ⊢
  by_cases h0:l.length=0
  ·have FL:l=[]:=List.length_eq_zero_iff.1 h0
   subst FL
   rw [bV] at*
   have Bj:tM [.sl [],.str sep]=some (.str (b8.join [] sep)):=hj
   simp (maxSteps:=1000000) only [g,Bj,je,jc,jd,List.length_nil,fX,show cM []=[] from rfl,nX,bS,aD,seval]
  ·have e1:cM (a_ l)≠[]:=fun e=>h0 (by have:=congrArg List.length e; rw [di,Yr] at this; simpa using this)
   have tk2:(cM (a_ l)).take l.length=cM (a_ l):=List.take_of_length_le (by rw [di]; omega)
   simp (maxSteps:=1000000) only [g,hj,je,jc,jd,cB h0,km e1,di,Ry,tk2,bS,aD,seval]
end
end Go.Proofs.YtpklkpkfgmoghaaGreatDoor.Zz
namespace Go.Proofs.YtpklkpkfgmoghaaGreatDoor.Zz
noncomputable section
mutual
def GE.dG:GE→Prop
 | .int w=>b8.mq ((eo w:Nat):Int)=w
 | .pr w=>jZ w=w
 | .bool _=>True
 | .var _=>True
 | .call _ l=>GE.fg l
 | .un _ e=>e.dG
 | .bin _ a b=>a.dG∧b.dG
 | .conv t e=>(t=1∨t=2)∧e.dG
def GE.fg:List GE→Prop
 | []=>True
 | e::l=>e.dG∧GE.fg l
end
theorem gN {k:Int} (h:k≥20) (t:Int) (s:List UInt8) (m:Int) (l:List Nd) (ps:List (List UInt8)):jO k t s m l ps=yJ k t s m ps:=if_pos h
theorem gi {k:Int} (h:¬k≥20) (h2:¬k≤5) (t:Int) (s:List UInt8) (m:Int) (l:List Nd) (ps:List (List UInt8)):jO k t s m l ps=Px k s ps:=by rw [jO,if_neg h,if_neg h2]
theorem n7 {k:Int} (h:k≤5) (t:Int) (s:List UInt8) (m:Int) (l:List Nd) (ps:List (List UInt8)):jO k t s m l ps=NL k t s l ps:=by rw [jO,if_neg (by omega),if_pos h]
theorem jg (sep x:List UInt8) (r:List (List UInt8)):b8.lU sep (x::r)=sep++(x++b8.lU sep r):=by simp [b8.lU]
theorem Bp (sep:List UInt8):b8.lU sep []=[]:=rfl
theorem Ox (x y sep:List UInt8):b8.join [x,y] sep=x++(sep++y):=by rw [b8.join_cons,jg,Bp,List.append_nil]
mutual
theorem rk:∀(e:GE),e.dG→∀r:List UInt8,aV e.nd++r=e.tx r
 | .int w,h=>fun r=>by
  rw [GE.dG] at h
  rw [GE.nd,bN,gN (by decide),GE.tx]
  have e:yJ 20 0 [] ((eo w:Nat):Int) (a_ [])=b8.mq ((eo w:Nat):Int):=rfl
  rw [e,h]
 | .pr w,h=>fun r=>by
  rw [GE.dG] at h
  rw [GE.nd,iX,bN,gN (by decide),GE.tx]
  show jZ w++r=_
  rw [h]
 | .bool b,h=>fun r=>by
  rw [GE.nd,bN,gN (by decide),GE.tx]
  cases b<;>rfl
 | .var x,h=>fun r=>by
  rw [GE.nd,bN,gN (by decide),GE.tx]
  rfl
 | .call x l,h=>fun r=>by
  rw [GE.dG] at h
  rw [GE.nd,bN,gN (by decide),GE.tx]
  show x++[40]++b8.join (a_ (GE.eE l)) [44,32]++[41]++r=_
  have:=Ux l h (41::r)
  simp only [List.append_assoc,List.cons_append,List.nil_append]
  rw [this]
 | .un s e,h=>fun r=>by
  rw [GE.dG] at h
  rw [GE.nd,bN,gN (by decide),GE.tx,bj,bV]
  show s++b8.join [aV e.nd] []++r=_
  rw [b8.Ow,List.append_assoc,rk e h]
 | .bin s a b,h=>fun r=>by
  rw [GE.dG] at h
  rw [GE.nd,bN,gN (by decide),GE.tx,bj,bj,bV]
  show [40]++b8.join [aV a.nd,aV b.nd] (32::(s++[32]))++[41]++r=_
  rw [Ox]
  simp only [List.append_assoc,List.cons_append,List.nil_append]
  rw [rk b h.2,rk a h.1]
 | .conv t e,h=>fun r=>by
  rw [GE.dG] at h
  rw [GE.nd,bN,gN (by decide),GE.tx,bj,bV]
  show fI t++[40]++b8.join [aV e.nd] [44,32]++[41]++r=_
  rw [b8.Ow]
  simp only [List.append_assoc,List.cons_append,List.nil_append]
  rw [rk e h.2]
  rcases h.1 with rfl | rfl<;>rfl
theorem Ux:∀(l:List GE),GE.fg l→∀r:List UInt8,b8.join (a_ (GE.eE l)) [44,32]++r=GE.c7 l r
 | [],h=>fun r=>by rw [GE.eE,bV,GE.c7]; rfl
 | e::l,h=>fun r=>by
  rw [GE.fg] at h
  rw [GE.eE,bj,GE.c7,b8.join_cons,List.append_assoc,Uy l h.2,rk e h.1]
theorem Uy:∀(l:List GE),GE.fg l→∀r:List UInt8,b8.lU [44,32] (a_ (GE.eE l))++r=GE.py l r
 | [],h=>fun r=>by rw [GE.eE,bV,GE.py]; rfl
 | e::l,h=>fun r=>by
  rw [GE.fg] at h
  rw [GE.eE,bj,GE.py,jg]
  simp only [List.append_assoc,List.cons_append,List.nil_append]
  rw [Uy l h.2,rk e h.1]
end
mutual
def GS.dG:GS→Prop
 | .jY _ e=>e.dG
 | .np _ e=>e.dG
 | .zg e l=>e.dG∧GS.fg l
 | .zf e l r=>e.dG∧GS.fg l∧GS.fg r
 | .lR e l=>e.dG∧GS.fg l
 | .ret e=>e.dG
 | .iS e=>e.dG
 | .skip=>True
 | .xV _ l=>GE.fg l
def GS.fg:List GS→Prop
 | []=>True
 | s::l=>s.dG∧GS.fg l
end
mutual
theorem aaB:∀(s:GS),s.dG→∀r:List UInt8,aV s.nd++r=s.tx 32 r
 | .jY x e,h=>fun r=>by
  rw [GS.dG] at h
  rw [GS.nd,bN,gi (by decide) (by decide),GS.tx,bj,bV]
  show x++[32,58,61,32]++aV e.nd++[59]++r=_
  simp only [List.append_assoc,List.cons_append,List.nil_append]
  rw [rk e h]
 | .np x e,h=>fun r=>by
  rw [GS.dG] at h
  rw [GS.nd,bN,gi (by decide) (by decide),GS.tx,bj,bV]
  show x++[32,61,32]++aV e.nd++[59]++r=_
  simp only [List.append_assoc,List.cons_append,List.nil_append]
  rw [rk e h]
 | .zg e l,h=>fun r=>by
  rw [GS.dG] at h
  rw [GS.nd,bN,gi (by decide) (by decide),GS.tx,bj,bj,bV]
  show [105,102,32]++aV e.nd++[32]++aV (.mk 6 0 [] 0 (GS.eE l))++r=_
  simp only [List.append_assoc,List.cons_append,List.nil_append]
  rw [L9 l h.2,rk e h.1]
  rfl
 | .zf e l l2,h=>fun r=>by
  rw [GS.dG] at h
  rw [GS.nd,bN,gi (by decide) (by decide),GS.tx,bj,bj,bj,bV]
  show [105,102,32]++aV e.nd++[32]++aV (.mk 6 0 [] 0 (GS.eE l))++([32,101,108,115,101,32]++aV (.mk 6 0 [] 0 (GS.eE l2)))++r=_
  simp only [List.append_assoc,List.cons_append,List.nil_append]
  rw [L9 l2 h.2.2,L9 l h.2.1,rk e h.1]
  rfl
 | .lR e l,h=>fun r=>by
  rw [GS.dG] at h
  rw [GS.nd,bN,gi (by decide) (by decide),GS.tx,bj,bj,bV]
  show [102,111,114,32]++aV e.nd++[32]++aV (.mk 6 0 [] 0 (GS.eE l))++r=_
  simp only [List.append_assoc,List.cons_append,List.nil_append]
  rw [L9 l h.2,rk e h.1]
  rfl
 | .ret e,h=>fun r=>by
  rw [GS.dG] at h
  rw [GS.nd,bN,gi (by decide) (by decide),GS.tx,bj,bV]
  show [114,101,116,117,114,110,32]++aV e.nd++[59]++r=_
  simp only [List.append_assoc,List.cons_append,List.nil_append]
  rw [rk e h]
  rfl
 | .iS e,h=>fun r=>by
  rw [GS.dG] at h
  rw [GS.nd,bN,gi (by decide) (by decide),GS.tx,bj,bV]
  show [97,115,115,101,114,116,32]++aV e.nd++[59]++r=_
  simp only [List.append_assoc,List.cons_append,List.nil_append]
  rw [rk e h]
  rfl
 | .skip,h=>fun r=>by
  rw [GS.nd,bN,gi (by decide) (by decide),GS.tx]
  rfl
 | .xV x l,h=>fun r=>by
  rw [GS.dG] at h
  rw [GS.nd,bN,gi (by decide) (by decide),GS.tx,bj,bV]
  show aV (.mk 24 0 x 0 (GE.eE l))++[59]++r=_
  rw [bN,gN (by decide)]
  show x++[40]++b8.join (a_ (GE.eE l)) [44,32]++[41]++[59]++r=_
  simp only [List.append_assoc,List.cons_append,List.nil_append]
  rw [Ux l h]
theorem L9:∀(l:List GS),GS.fg l→∀r:List UInt8,aV (.mk 6 0 [] 0 (GS.eE l))++r=123::32::GS.c7 32 l (125::r)
 | [],h=>fun r=>by
  rw [bN,gi (by decide) (by decide),GS.eE,bV,GS.c7]
  rfl
 | s::l,h=>fun r=>by
  rw [GS.fg] at h
  rw [bN,gi (by decide) (by decide),GS.eE,bj,GS.c7]
  show (if aV s.nd::a_ (GS.eE l)=[] then [123,32,125] else [123,32]++b8.join (aV s.nd::a_ (GS.eE l)) [32]++[32,125])++r=_
  rw [if_neg (by simp),b8.join_cons]
  simp only [List.append_assoc,List.cons_append,List.nil_append]
  rw [aaC l h.2,aaB s h.1]
theorem aaC:∀(l:List GS),GS.fg l→∀r:List UInt8,b8.lU [32] (a_ (GS.eE l))++32::r=32::GS.c7 32 l r
 | [],h=>fun r=>by rw [GS.eE,bV,GS.c7]; rfl
 | s::l,h=>fun r=>by
  rw [GS.fg] at h
  rw [GS.eE,bj,GS.c7,jg]
  simp only [List.append_assoc,List.cons_append,List.nil_append]
  rw [aaC l h.2,aaB s h.1]
end
def GE.pos:GE→Prop
 | .pr w=>0≤jn (jZ w)
 | _=>True
def GD.dG:GD→Prop
 | .var _ t e=>B0 t∧(e.lit∧e.dG)∧e.pos
 | .func _ ps t l=>(∀p∈ps,B0 p.2)∧B0 t∧GS.fg l
 | .test _ l=>GS.fg l
theorem xy {t:Int} (h:B0 t):fI t=gx t:=by rcases h with rfl | rfl | rfl<;>rfl
theorem OU {p:List UInt8×Int} (h:B0 p.2) (r:List UInt8):aV (hC p)++r=p.1++32::(gx p.2++r):=by
 rw [hC,bN,n7 (by decide),bV]
 show p.1++[32]++fI p.2++r=_
 rw [xy h]
 simp
theorem Uw:∀(l:List (List UInt8×Int)),(∀p∈l,B0 p.2)→∀r:List UInt8,b8.lU [44,32] (l.map fun p=>aV (hC p))++r=f_ l r
 | [],h,r=>rfl
 | p::l,h,r=>by
  rw [List.map_cons,jg,f_]
  simp only [List.append_assoc,List.cons_append,List.nil_append]
  rw [Uw l (fun q hq=>h q (by simp [hq])),OU (h p (by simp))]
theorem aaA (l:List (List UInt8×Int)) (h:∀p∈l,B0 p.2) (r:List UInt8):b8.join (l.map fun p=>aV (hC p)) [44,32]++r=gM l r:=by
 cases l with
 | nil=>rfl
 | cons p l=>rw [List.map_cons,b8.join_cons,List.append_assoc,Uw l (fun q hq=>h q (by simp [hq])),OU (h p (by simp)),gM]
theorem WG {e:GE} (h:e.lit) (h2:e.dG) (h3:e.pos) (r:List UInt8):x7 e.nd (aV e.nd)++r=e.tx r:=by
 have hp:=rk e h2 r
 cases e with
 | int w=>
  rw [GE.nd,bN,gN (by decide)] at hp
  exact hp
 | pr w=>
  rw [GE.nd,iX] at hp ⊢
  have:(decide (jn (jZ w)<0))=false:=decide_eq_false (by rw [GE.pos] at h3; omega)
  show (bif (21:Int)==21 && decide (jn (jZ w)<0) then _ else bif (21:Int)==20 then _ else _)++r=_
  rw [this]
  exact hp
 | bool b=>exact hp
 | var x=>exact h.elim
 | call x l=>exact h.elim
 | un s e=>exact h.elim
 | bin s a b=>exact h.elim
 | conv t e=>exact h.elim
theorem ae8 (D:GD) (h:D.dG) (r:List UInt8):aV D.nd++r=D.tx 32 r:=by
 cases D with
 | var x t e=>
  rw [GD.dG] at h
  rw [GD.nd,bN,n7 (by decide),GD.tx,bj,bV]
  show [118,97,114,32]++x++[32]++fI t++[32,61,32]++x7 e.nd (aV e.nd)++[59]++r=_
  rw [xy h.1]
  simp only [List.append_assoc,List.cons_append,List.nil_append]
  rw [WG h.2.1.1 h.2.1.2 h.2.2]
  rfl
 | func x ps t l=>
  rw [GD.dG] at h
  rw [GD.nd,bN,n7 (by decide),GD.tx]
  obtain ⟨y,q,hy⟩:∃y q,ps.map hC++[Nd.mk 6 0 [] 0 (GS.eE l)]=y::q:=by
   cases ps with
   | nil=>exact ⟨_,_,rfl⟩
   | cons p ps=>exact ⟨_,_,rfl⟩
  have vY:a_ (ps.map hC++[Nd.mk 6 0 [] 0 (GS.eE l)])=ps.map (fun p=>aV (hC p))++[aV (.mk 6 0 [] 0 (GS.eE l))]:=by
   rw [eW,List.map_append,List.map_map]; rfl
  rw [vY,hy]
  show [102,117,110,99,32]++x++[40]++b8.join (ps.map (fun p=>aV (hC p))++[aV (.mk 6 0 [] 0 (GS.eE l))]).dropLast [44,32]++[41,32]++fI t++[32]++(ps.map (fun p=>aV (hC p))++[aV (.mk 6 0 [] 0 (GS.eE l))]).getD ((ps.map (fun p=>aV (hC p))++[aV (.mk 6 0 [] 0 (GS.eE l))]).length - 1) []++r=_
  have e1:(ps.map (fun p=>aV (hC p))++[aV (.mk 6 0 [] 0 (GS.eE l))]).getD ((ps.map (fun p=>aV (hC p))++[aV (.mk 6 0 [] 0 (GS.eE l))]).length - 1) []=aV (.mk 6 0 [] 0 (GS.eE l)):=by
   rw [List.getD_eq_getElem?_getD,List.length_append,List.length_singleton,Nat.add_sub_cancel,List.getElem?_append_right (Nat.le_refl _),Nat.sub_self]; rfl
  rw [e1,List.dropLast_concat,xy h.2.1]
  simp only [List.append_assoc,List.cons_append,List.nil_append]
  rw [L9 l h.2.2,aaA ps h.1]
  rfl
 | test x l=>
  rw [GD.dG] at h
  rw [GD.nd,bN,n7 (by decide),GD.tx,bj,bV]
  show [116,101,115,116,32]++x++[32]++aV (.mk 6 0 [] 0 (GS.eE l))++r=_
  simp only [List.append_assoc,List.cons_append,List.nil_append]
  rw [L9 l h]
  rfl
theorem D0:∀(l:List GD),(∀D∈l,D.dG)→fN (a_ (l.map GD.nd))=cC 32 l
 | [],h=>by rw [List.map_nil,bV]; rfl
 | D::l,h=>by
  rw [List.map_cons,bj,cC]
  show aV D.nd++[10]++fN (a_ (l.map GD.nd))=_
  rw [D0 l fun E hE=>h E (by simp [hE]),List.append_assoc,List.cons_append,List.nil_append]
  exact ae8 D (h D (by simp)) _
theorem SO {l:List GD} (h:∀D∈l,D.dG):aV (fb l)=cC 32 l:=by
 rw [fb,bN,n7 (by decide)]
 exact D0 l h
end
end Go.Proofs.YtpklkpkfgmoghaaGreatDoor.Zz
namespace Go.Proofs.YtpklkpkfgmoghaaGreatDoor.Zz
noncomputable section
def b7 (L:List Int) (n:Int) (a:Nat):Int×Nat:=if a≥L.length∨a>3000 then (0,a) else (Int.tmod (Int.tmod (L.getD a 0) n+n) n,a+1)
theorem b_ (L:List Int) {n:Int} (hn:0<n) (a:Nat):0≤(b7 L n a).1∧(b7 L n a).1<n:=by
 unfold b7
 split
 ·exact ⟨Int.le_refl _,hn⟩
 ·have h1:=Int.tmod_lt_of_pos (L.getD a 0) hn
  have h2:=Int.lt_tmod_of_pos (L.getD a 0) hn
  have h3:0≤Int.tmod (L.getD a 0) n+n:=by omega
  rw [Int.tmod_eq_emod_of_nonneg h3]
  exact ⟨Int.emod_nonneg _ (by omega),Int.emod_lt_of_pos _ hn⟩
structure Fn where
 name:List UInt8
 answer:Int
 params:List Int
structure Nm where
 ints:List (List UInt8)
 vN:List (List UInt8)
 nA:List (List UInt8)
 funcs:List Fn
 fresh:Nat
def Nm.of (s:Nm) (t:Int):List (List UInt8):=if t=0 then s.ints else if t=1 then s.vN else s.nA
def Nm.with (s:Nm) (x:List UInt8) (t:Int):Nm:=if t=0 then { s with ints:=s.ints++[x] } else if t=1 then { s with vN:=s.vN++[x] } else { s with nA:=s.nA++[x] }
instance:Inhabited GE:=⟨.bool true⟩
def lits (t:Int):List GE:=if t=0 then [.int [48],.int [49],.int [50],.int [51],.int [55],.int [57,50,50,51,51,55,50,48,51,54,56,53,52,55,55,53,56,48,55]]
 else if t=1 then [.pr [48,46,48],.pr [49,46,48],.pr [48,46,53],.pr [50,46,50,53],.pr [49,48,48,48,48,48,48,46,48],.pr [48,46,49]]
 else [.bool true,.bool false]
def nP (L:List Int) (t:Int) (a:Nat):GE×Nat:=((lits t).getD (b7 L (lits t).length a).1.toNat (.bool true),(b7 L (lits t).length a).2)
def Us:List (List UInt8):=[[43],[45],[42],[47],[37]]
def Ur:List (List UInt8):=[[43],[45],[42],[47]]
def DM:List (List UInt8):=[[38,38],[124,124],[61,61]]
def Uq:List (List UInt8):=[[60],[60,61],[62],[62,61],[61,61],[33,61]]
def eG (L:List Int) (l:List (List UInt8)) (a:Nat):List UInt8×Nat:=(l.getD (b7 L l.length a).1.toNat [],(b7 L l.length a).2)
def gX (g:Int→Nat→GE×Nat):List Int→Nat→List GE×Nat
 | [],a=>([],a)
 | t::r,a=>let x:=g t a
  let y:=gX g r x.2
  (x.1::y.1,y.2)
def iT (L:List Int) (s:Nm) (g:Int→Nat→GE×Nat) (t:Int) (a:Nat):Option (List UInt8×List GE)×Nat:=
 match s.funcs.filter fun f=>f.answer==t with
 | []=>(none,a)
 | f::r=>let k:=b7 L ((f::r).length) a
  let h:=(f::r).getD k.1.toNat f
  let y:=gX g h.params k.2
  (some (h.name,y.1),y.2)
def xP (L:List Int) (g:Int→Nat→GE×Nat) (u:Int) (ops:List (List UInt8)) (a:Nat):GE×Nat:=
 let x:=g u a
 let o:=eG L ops x.2
 let y:=g u o.2
 (.bin o.1 x.1 y.1,y.2)
def rq (L:List Int) (g:Int→Nat→GE×Nat) (t k:Int) (a:Nat):GE×Nat:=
 if t=0 then (if k=4 then (.conv 1 (g 1 a).1,(g 1 a).2) else if k=5 then (.un [45] (g 0 a).1,(g 0 a).2) else xP L g 0 Us a)
 else if t=1 then (if k=4 then (.conv 2 (g 0 a).1,(g 0 a).2) else if k=5 then (.un [45] (g 1 a).1,(g 1 a).2) else xP L g 1 Ur a)
 else if k=4 then (.un [33] (g 2 a).1,(g 2 a).2) else if k=5 then xP L g 2 DM a else xP L g (b7 L 2 a).1 Uq (b7 L 2 a).2
def bU (L:List Int) (s:Nm):Nat→Int→Nat→GE×Nat
 | 0,t,a=>nP L t (b7 L 8 a).2
 | d+1,t,a=>
  let k:=b7 L 8 a
  if k.1=0 then nP L t k.2
  else if k.1≤2∧s.of t≠[] then (.var (eG L (s.of t) k.2).1,(eG L (s.of t) k.2).2)
  else if k.1=3 then (match iT L s (bU L s d) t k.2 with
   | (some c,b)=>(.call c.1 c.2,b)
   | (none,b)=>rq L (bU L s d) t k.1 b)
  else rq L (bU L s d) t k.1 k.2
def TZ (L:List Int) (s:Nm) (t:Int) (a:Nat):Option (List UInt8×List GE)×Nat:=iT L s (bU L s 1) t a
def bQ (n:Nat):List UInt8:=b8.mq (n:Int)
def dT (L:List Int) (blk:Nm→Nat→List GS×Nat) (dp:Nat) (test:Bool):Nat→Nm→Nat→List GS×Nat
 | 0,s,a=>([],a)
 | n+1,s,a=>
  let k:=b7 L 7 a
  if k.1=0 then
   let t:=b7 L 3 k.2
   let cg:={ s with fresh:=s.fresh+1 }
   let x:=[118]++bQ dp++[120]++bQ (s.fresh+1)
   let e:=bU L cg 2 t.1 t.2
   let r:=dT L blk dp test n (cg.with x t.1) e.2
   (.jY x e.1::r.1,r.2)
  else if k.1=1∨k.1=2 then
   let t:=b7 L 3 k.2
   if s.of t.1=[] then dT L blk dp test n s t.2 else
    let x:=eG L (s.of t.1) t.2
    let e:=bU L s 2 t.1 x.2
    let r:=dT L blk dp test n s e.2
    (.np x.1 e.1::r.1,r.2)
  else if k.1=3∧0<dp then
   let e:=bU L s 2 2 k.2
   let b:=blk s e.2
   let q:=b7 L 2 b.2
   if q.1=1 then
    let b2:=blk s q.2
    let r:=dT L blk dp test n s b2.2
    (.zf e.1 b.1 b2.1::r.1,r.2)
   else
    let r:=dT L blk dp test n s q.2
    (.zg e.1 b.1::r.1,r.2)
  else if k.1=4∧0<dp then
   let cg:={ s with fresh:=s.fresh+1 }
   let x:=[105]++bQ dp++[120]++bQ (s.fresh+1)
   let q:=b7 L 4 k.2
   let b:=blk (cg.with x 0) q.2
   let r:=dT L blk dp test n cg b.2
   (.jY x (.int [48])::.lR (.bin [60] (.var x) (.int (bQ q.1.toNat))) (b.1++[.np x (.bin [43] (.var x) (.int [49]))])::r.1,r.2)
  else if k.1=5∧test=true then
   let e:=bU L s 3 2 k.2
   let r:=dT L blk dp test n s e.2
   (.iS e.1::r.1,r.2)
  else if k.1=6 then
   let t:=b7 L 3 k.2
   match TZ L s t.1 t.2 with
   | (some c,b)=>let r:=dT L blk dp test n s b
    (.xV c.1 c.2::r.1,r.2)
   | (none,b)=>dT L blk dp test n s b
  else
   let r:=dT L blk dp test n s k.2
   (.skip::r.1,r.2)
def dH (L:List Int) (test:Bool):Nat→Nm→Nat→List GS×Nat
 | 0,s,a=>dT L (fun _ b=>([],b)) 0 test (b7 L 4 a).1.toNat s (b7 L 4 a).2
 | d+1,s,a=>dT L (dH L test d) (d+1) test (b7 L 4 a).1.toNat s (b7 L 4 a).2
def kC (L:List Int):Nat→Nm→Nat→List GD×Nm×Nat
 | 0,s,a=>([],s,a)
 | i+1,s,a=>
  let t:=b7 L 3 a
  let x:=[103]++bQ (i+1)
  let e:=nP L t.1 t.2
  let r:=kC L i (s.with x t.1) e.2
  (.var x (t.1+1) e.1::r.1,r.2)
def kn (L:List Int):Nat→Nm→Nat→List (List UInt8×Int)×Nm×Nat
 | 0,s,a=>([],s,a)
 | i+1,s,a=>
  let t:=b7 L 3 a
  let x:=[112]++bQ (i+1)
  let r:=kn L i (s.with x t.1) t.2
  ((x,t.1+1)::r.1,r.2)
def gE (L:List Int):Nat→Nm→Nat→List GD×Nm×Nat
 | 0,s,a=>([],s,a)
 | i+1,s,a=>
  let t:=b7 L 3 a
  let n:=b7 L 3 t.2
  let ps:=kn L n.1.toNat s n.2
  let f:Fn:=⟨[102]++bQ (i+1),t.1,ps.1.map fun p=>p.2 - 1⟩
  let q:=b7 L 5 ps.2.2
  let o:Nm:=if q.1=4 then { ps.2.1 with funcs:=ps.2.1.funcs++[f] } else ps.2.1
  let b:=dH L false 2 o q.2
  let e:=bU L o 3 t.1 b.2
  let r:=gE L i { s with funcs:=s.funcs++[f] } e.2
  (.func f.name ps.1 (t.1+1) (b.1++[.ret e.1])::r.1,r.2)
def iz (L:List Int):Nat→Nm→Nat→List GD×Nat
 | 0,s,a=>([],a)
 | i+1,s,a=>
  let b:=dH L true 2 s a
  let e:=bU L s 3 2 b.2
  let r:=iz L i s e.2
  (.test ([116]++bQ (i+1)) (b.1++[.iS e.1])::r.1,r.2)
def jB (L:List Int):List GD:=
 let n:=b7 L 3 0
 let v:=kC L n.1.toNat ⟨[],[],[],[],0⟩ n.2
 let m:=b7 L 3 v.2.2
 let f:=gE L (m.1.toNat+1) v.2.1 m.2
 let k:=b7 L 3 f.2.2
 v.1++f.1++(iz L (k.1.toNat+1) f.2.1 k.2).1
def gR (L:List Int):List UInt8:=cC 10 (jB L)
end
end Go.Proofs.YtpklkpkfgmoghaaGreatDoor.Zz
