/- The text of a program as it is made has its words, and is parsed to its tree. -/
import Derived.Test.YtpklkpkfgmoghaaGreatDoorZP26
import Derived.Test.YtpklkpkfgmoghaaGreatDoorZP17
import Derived.Test.YtpklkpkfgmoghaaGreatDoorZA0
set_option linter.unnecessarySimpa false
set_option linter.unusedVariables false
set_option linter.unusedSimpArgs false
set_option maxRecDepth 20000
namespace Go.Proofs.YtpklkpkfgmoghaaGreatDoor.Zz
noncomputable section
mutual
def GE.tx:GE→List UInt8→List UInt8
 | .int w,r=>w++r
 | .o8 w,r=>w++r
 | .bool b,r=>(if b then lY else iU)++r
 | .var x,r=>x++r
 | .call x l,r=>x++40::GE.cT l (41::r)
 | .un s e,r=>s++e.tx r
 | .bin s a b,r=>40::a.tx (32::(s++32::b.tx (41::r)))
 | .conv t e,r=>(if t=1 then mF else fF)++40::e.tx (41::r)
def GE.cT:List GE→List UInt8→List UInt8
 | [],r=>r
 | e::l,r=>e.tx (GE.pb l r)
def GE.pb:List GE→List UInt8→List UInt8
 | [],r=>r
 | e::l,r=>44::32::e.tx (GE.pb l r)
end
mutual
def GE.c6:GE→Prop
 | .int w=>yU w
 | .o8 w=>Cr w
 | .bool _=>True
 | .var x=>fm x
 | .call x l=>fm x∧GE.fp l
 | .un s e=>(s=[45]∨s=[33])∧e.c6
 | .bin s a b=>s∈N4∧a.c6∧b.c6
 | .conv _ e=>e.c6
def GE.fp:List GE→Prop
 | []=>True
 | e::l=>e.c6∧GE.fp l
end
theorem zc {x r:List UInt8} (h:fm x):(x++r).getD 0 0≠61:=by
 obtain ⟨c,w,rfl,h1,_⟩:=h
 intro e
 have e:c=61:=e
 subst e
 cases h1
theorem C3 {x r:List UInt8} (h0:x≠[]) (h:∀y∈x,isDigit (y.toNat:Int)=true):(x++r).getD 0 0≠61:=by
 cases x with
 | nil=>exact absurd rfl h0
 | cons c w=>
  intro e
  have e:c=61:=e
  subst e
  have:=h 61 (by simp)
  cases this
theorem SU {e:GE} {r:List UInt8} (h:e.c6):(e.tx r).getD 0 0≠61:=by
 cases e with
 | int w=>rw [GE.c6] at h; rw [GE.tx]; exact C3 h.1 h.2.1
 | o8 w=>
  rw [GE.c6] at h
  obtain ⟨A,B,rfl,a0,_,a1,_⟩:=h
  rw [GE.tx,List.append_assoc]
  exact C3 a0 a1
 | bool b=>
  rw [GE.tx]
  cases b
  ·exact (by decide:(102:UInt8)≠61)
  ·exact (by decide:(116:UInt8)≠61)
 | var x=>rw [GE.c6] at h; rw [GE.tx]; exact zc h
 | call x l=>rw [GE.c6] at h; rw [GE.tx]; exact zc h.1
 | un s e=>
  rw [GE.c6] at h
  rw [GE.tx]
  rcases h.1 with rfl | rfl
  ·exact (by decide:(45:UInt8)≠61)
  ·exact (by decide:(33:UInt8)≠61)
 | bin s a b=>rw [GE.tx]; exact (by decide:(40:UInt8)≠61)
 | conv t e=>
  rw [GE.tx]
  split
  ·exact (by decide:(105:UInt8)≠61)
  ·exact (by decide:(102:UInt8)≠61)
theorem Ml (r:List UInt8):Bd (40::r):=Bd.c rfl (by decide)
theorem QV (r:List UInt8):Bd (41::r):=Bd.c rfl (by decide)
theorem lh (r:List UInt8):Bd (32::r):=Bd.c rfl (by decide)
theorem Xz (r:List UInt8):Bd (44::r):=Bd.c rfl (by decide)
theorem KJ (r:List UInt8):Bd (59::r):=Bd.c rfl (by decide)
theorem Mn (l:List GE) (r:List UInt8):Bd (GE.pb l (41::r)):=by
 cases l with
 | nil=>rw [GE.pb]; exact QV r
 | cons e l=>rw [GE.pb]; exact Xz _
mutual
theorem la:∀(e:GE),e.c6→∀(r:List UInt8) (ws:List Wd),Bd r→a8 r ws→a8 (e.tx r) (e.wd++ws)
 | .int w,h=>fun r ws hb ht=>by rw [GE.c6] at h; rw [GE.tx,GE.wd]; exact a8.int h hb ht
 | .o8 w,h=>fun r ws hb ht=>by rw [GE.c6] at h; rw [GE.tx,GE.wd]; exact a8.o8 h hb ht
 | .bool b,h=>fun r ws hb ht=>by
  rw [GE.tx,GE.wd]
  cases b
  ·exact a8.kw (x:=iU) (by decide) hb ht
  ·exact a8.kw (x:=lY) (by decide) hb ht
 | .var x,h=>fun r ws hb ht=>by rw [GE.c6] at h; rw [GE.tx,GE.wd]; exact a8.nm h hb ht
 | .call x l,h=>fun r ws hb ht=>by
  rw [GE.c6] at h
  rw [GE.tx,GE.wd]
  simp only [List.cons_append,List.append_assoc,List.nil_append]
  exact a8.nm h.1 (Ml _) (a8.one (by simp) (P2 l h.2 r _ (a8.one (by simp) ht)))
 | .un s e,h=>fun r ws hb ht=>by
  rw [GE.c6] at h
  rw [GE.tx,GE.wd,List.cons_append]
  have he:=la e h.2 r ws hb ht
  rcases h.1 with rfl | rfl
  ·exact a8.one (by simp) he
  ·exact a8.not (SU h.2) he
 | .bin s a b,h=>fun r ws hb ht=>by
  rw [GE.c6] at h
  rw [GE.tx,GE.wd]
  simp only [List.cons_append,List.append_assoc,List.nil_append]
  exact a8.one (by simp) (la a h.2.1 _ _ (lh _) (a8.sp rfl (a8.op h.1 (la b h.2.2 _ _ (QV _) (a8.one (by simp) ht)))))
 | .conv t e,h=>fun r ws hb ht=>by
  rw [GE.c6] at h
  rw [GE.tx,GE.wd]
  simp only [List.cons_append,List.append_assoc,List.nil_append]
  have he:=a8.one (c:=40) (by simp) (la e h _ _ (QV r) (a8.one (by simp) ht))
  split
  ·exact a8.kw (x:=mF) (by decide) (Ml _) he
  ·exact a8.kw (x:=fF) (by decide) (Ml _) he
theorem P2:∀(l:List GE),GE.fp l→∀(r:List UInt8) (ws:List Wd),a8 (41::r) ws→a8 (GE.cT l (41::r)) (GE.rK l++ws)
 | [],h=>fun r ws ht=>by rw [GE.cT,GE.rK]; exact ht
 | e::l,h=>fun r ws ht=>by
  rw [GE.fp] at h
  rw [GE.cT,GE.rK,List.append_assoc]
  exact la e h.1 _ _ (Mn l r) (P3 l h.2 r ws ht)
theorem P3:∀(l:List GE),GE.fp l→∀(r:List UInt8) (ws:List Wd),a8 (41::r) ws→a8 (GE.pb l (41::r)) (GE.BL l++ws)
 | [],h=>fun r ws ht=>by rw [GE.pb,GE.BL]; exact ht
 | e::l,h=>fun r ws ht=>by
  rw [GE.fp] at h
  rw [GE.pb,GE.BL,List.cons_append,List.append_assoc]
  exact a8.one (by simp) (a8.sp rfl (la e h.1 _ _ (Mn l r) (P3 l h.2 r ws ht)))
end
mutual
def GS.tx (c:UInt8):GS→List UInt8→List UInt8
 | .jS x e,r=>x++32::([58,61]++32::e.tx (59::r))
 | .mX x e,r=>x++32::([61]++32::e.tx (59::r))
 | .yS e l,r=>Fq++32::e.tx (32::123::c::GS.cT c l (125::r))
 | .yR e l l2,r=>Fq++32::e.tx (32::123::c::GS.cT c l (125::32::(jM++32::123::c::GS.cT c l2 (125::r))))
 | .lJ e l,r=>Fg++32::e.tx (32::123::c::GS.cT c l (125::r))
 | .ret e,r=>lf++32::e.tx (59::r)
 | .iM e,r=>ld++32::e.tx (59::r)
 | .skip,r=>Ai++59::r
 | .xF x l,r=>x++40::GE.cT l (41::59::r)
def GS.cT (c:UInt8):List GS→List UInt8→List UInt8
 | [],r=>r
 | s::l,r=>s.tx c (c::GS.cT c l r)
end
mutual
def GS.c6:GS→Prop
 | .jS x e=>fm x∧e.c6
 | .mX x e=>fm x∧e.c6
 | .yS e l=>e.c6∧GS.fp l
 | .yR e l r=>e.c6∧GS.fp l∧GS.fp r
 | .lJ e l=>e.c6∧GS.fp l
 | .ret e=>e.c6
 | .iM e=>e.c6
 | .skip=>True
 | .xF x l=>fm x∧GE.fp l
def GS.fp:List GS→Prop
 | []=>True
 | s::l=>s.c6∧GS.fp l
end
mutual
theorem aaj {c:UInt8} (hc:isSp c=true):∀(s:GS),s.c6→∀(r:List UInt8) (ws:List Wd),a8 r ws→a8 (s.tx c r) (s.wd++ws)
 | .jS x e,h=>fun r ws ht=>by
  rw [GS.c6] at h
  rw [GS.tx,GS.wd]
  simp only [List.cons_append,List.append_assoc,List.nil_append]
  exact a8.nm h.1 (lh _) (a8.sp rfl (a8.op (w:=[58,61]) (by decide) (la e h.2 _ _ (KJ _) (a8.one (by simp) ht))))
 | .mX x e,h=>fun r ws ht=>by
  rw [GS.c6] at h
  rw [GS.tx,GS.wd]
  simp only [List.cons_append,List.append_assoc,List.nil_append]
  exact a8.nm h.1 (lh _) (a8.sp rfl (a8.op (w:=[61]) (by decide) (la e h.2 _ _ (KJ _) (a8.one (by simp) ht))))
 | .yS e l,h=>fun r ws ht=>by
  rw [GS.c6] at h
  rw [GS.tx,GS.wd]
  simp only [List.cons_append,List.append_assoc,List.nil_append]
  exact a8.kw (x:=Fq) (by decide) (lh _) (a8.sp rfl (la e h.1 _ _ (lh _) (a8.sp rfl (a8.one (by simp) (a8.sp hc (p6 hc l h.2 _ _ (a8.one (by simp) ht)))))))
 | .yR e l l2,h=>fun r ws ht=>by
  rw [GS.c6] at h
  rw [GS.tx,GS.wd]
  simp only [List.cons_append,List.append_assoc,List.nil_append]
  exact a8.kw (x:=Fq) (by decide) (lh _) (a8.sp rfl (la e h.1 _ _ (lh _) (a8.sp rfl (a8.one (by simp) (a8.sp hc (p6 hc l h.2.1 _ _ (a8.one (by simp) (a8.sp rfl (a8.kw (x:=jM) (by decide) (lh _) (a8.sp rfl (a8.one (by simp) (a8.sp hc (p6 hc l2 h.2.2 _ _ (a8.one (by simp) ht))))))))))))))
 | .lJ e l,h=>fun r ws ht=>by
  rw [GS.c6] at h
  rw [GS.tx,GS.wd]
  simp only [List.cons_append,List.append_assoc,List.nil_append]
  exact a8.kw (x:=Fg) (by decide) (lh _) (a8.sp rfl (la e h.1 _ _ (lh _) (a8.sp rfl (a8.one (by simp) (a8.sp hc (p6 hc l h.2 _ _ (a8.one (by simp) ht)))))))
 | .ret e,h=>fun r ws ht=>by
  rw [GS.c6] at h
  rw [GS.tx,GS.wd]
  simp only [List.cons_append,List.append_assoc,List.nil_append]
  exact a8.kw (x:=lf) (by decide) (lh _) (a8.sp rfl (la e h _ _ (KJ _) (a8.one (by simp) ht)))
 | .iM e,h=>fun r ws ht=>by
  rw [GS.c6] at h
  rw [GS.tx,GS.wd]
  simp only [List.cons_append,List.append_assoc,List.nil_append]
  exact a8.kw (x:=ld) (by decide) (lh _) (a8.sp rfl (la e h _ _ (KJ _) (a8.one (by simp) ht)))
 | .skip,h=>fun r ws ht=>by
  rw [GS.tx,GS.wd]
  exact a8.kw (x:=Ai) (by decide) (KJ _) (a8.one (by simp) ht)
 | .xF x l,h=>fun r ws ht=>by
  rw [GS.c6] at h
  rw [GS.tx,GS.wd]
  simp only [List.cons_append,List.append_assoc,List.nil_append]
  exact a8.nm h.1 (Ml _) (a8.one (by simp) (P2 l h.2 _ _ (a8.one (by simp) (a8.one (by simp) ht))))
theorem p6 {c:UInt8} (hc:isSp c=true):∀(l:List GS),GS.fp l→∀(r:List UInt8) (ws:List Wd),a8 r ws→a8 (GS.cT c l r) (GS.rK l++ws)
 | [],h=>fun r ws ht=>by rw [GS.cT,GS.rK]; exact ht
 | s::l,h=>fun r ws ht=>by
  rw [GS.fp] at h
  rw [GS.cT,GS.rK,List.append_assoc]
  exact aaj hc s h.1 _ _ (a8.sp hc (p6 hc l h.2 r ws ht))
end
def fV:List (List UInt8×Int)→List UInt8→List UInt8
 | [],r=>r
 | p::l,r=>44::32::(p.1++32::(gk p.2++fV l r))
def gG:List (List UInt8×Int)→List UInt8→List UInt8
 | [],r=>r
 | p::l,r=>p.1++32::(gk p.2++fV l r)
def GD.tx (c:UInt8):GD→List UInt8→List UInt8
 | .var x t e,r=>kD++32::(x++32::(gk t++32::([61]++32::e.tx (59::r))))
 | .func x ps t l,r=>rI++32::(x++40::gG ps (41::32::(gk t++32::123::c::GS.cT c l (125::r))))
 | .test x l,r=>rJ++32::(x++32::123::c::GS.cT c l (125::r))
def GD.c6:GD→Prop
 | .var x _ e=>fm x∧e.c6
 | .func x ps _ l=>fm x∧(∀p∈ps,fm p.1)∧GS.fp l
 | .test x l=>fm x∧GS.fp l
theorem Ko (t:Int):gk t∈words:=by
 unfold gk
 split
 ·decide
 ·split<;>decide
theorem Mm (l:List (List UInt8×Int)) (r:List UInt8):Bd (fV l (41::r)):=by
 cases l with
 | nil=>exact QV r
 | cons p l=>exact Xz _
theorem EY:∀(l:List (List UInt8×Int)),(∀p∈l,fm p.1)→∀(r:List UInt8) (ws:List Wd),a8 (41::r) ws→a8 (fV l (41::r)) (Bj l++ws)
 | [],h,r,ws,ht=>ht
 | p::l,h,r,ws,ht=>by
  rw [fV,Bj]
  simp only [List.cons_append]
  exact a8.one (by simp) (a8.sp rfl (a8.nm (h p (by simp)) (lh _) (a8.sp rfl (a8.kw (Ko _) (Mm l r) (EY l (fun q hq=>h q (by simp [hq])) r ws ht)))))
theorem SL (l:List (List UInt8×Int)) (h:∀p∈l,fm p.1) (r:List UInt8) (ws:List Wd) (ht:a8 (41::r) ws):a8 (gG l (41::r)) (xL l++ws):=by
 cases l with
 | nil=>exact ht
 | cons p l=>
  rw [gG,xL]
  simp only [List.cons_append]
  exact a8.nm (h p (by simp)) (lh _) (a8.sp rfl (a8.kw (Ko _) (Mm l r) (EY l (fun q hq=>h q (by simp [hq])) r ws ht)))
theorem aai {c:UInt8} (hc:isSp c=true) (D:GD) (h:D.c6) (r:List UInt8) (ws:List Wd) (ht:a8 r ws):a8 (D.tx c r) (D.wd++ws):=by
 cases D with
 | var x t e=>
  rw [GD.c6] at h
  rw [GD.tx,GD.wd]
  simp only [List.cons_append,List.append_assoc,List.nil_append]
  exact a8.kw (x:=kD) (by decide) (lh _) (a8.sp rfl (a8.nm h.1 (lh _) (a8.sp rfl (a8.kw (Ko t) (lh _) (a8.sp rfl (a8.op (w:=[61]) (by decide) (la e h.2 _ _ (KJ _) (a8.one (by simp) ht))))))))
 | func x ps t l=>
  rw [GD.c6] at h
  rw [GD.tx,GD.wd]
  simp only [List.cons_append,List.append_assoc,List.nil_append]
  exact a8.kw (x:=rI) (by decide) (lh _) (a8.sp rfl (a8.nm h.1 (Ml _) (a8.one (by simp) (SL ps h.2.1 _ _ (a8.one (by simp) (a8.sp rfl (a8.kw (Ko t) (lh _) (a8.sp rfl (a8.one (by simp) (a8.sp hc (p6 hc l h.2.2 _ _ (a8.one (by simp) ht))))))))))))
 | test x l=>
  rw [GD.c6] at h
  rw [GD.tx,GD.wd]
  simp only [List.cons_append,List.append_assoc,List.nil_append]
  exact a8.kw (x:=rJ) (by decide) (lh _) (a8.sp rfl (a8.nm h.1 (lh _) (a8.sp rfl (a8.one (by simp) (a8.sp hc (p6 hc l h.2 _ _ (a8.one (by simp) ht)))))))
def cu (c:UInt8):List GD→List UInt8
 | []=>[]
 | D::l=>D.tx c (10::cu c l)
theorem Ua {c:UInt8} (hc:isSp c=true):∀(l:List GD),(∀D∈l,D.c6)→a8 (cu c l) (kQ l)
 | [],h=>a8.nil
 | D::l,h=>by
  rw [cu,kQ]
  exact aai hc D (h D (by simp)) _ _ (a8.sp rfl (Ua hc l fun E hE=>h E (by simp [hE])))
theorem wY {c:UInt8} (hc:isSp c=true) {l:List GD} (hlen:(cu c l).length≤4096) (hl:∀D∈l,D.ok∧D.c6) (h1:AV l≤16) (h2:AR l≤32) (hm:(eS l).de≤2000):lx 81 (cu c l)=some (eS l,0,0):=
 Gc (Nat.le_refl _) (Ua hc l fun D hD=>(hl D hD).2) hlen (fun D hD=>(hl D hD).1) h1 h2 hm
end
end Go.Proofs.YtpklkpkfgmoghaaGreatDoor.Zz
namespace Go.Proofs.YtpklkpkfgmoghaaGreatDoor.Zz
noncomputable section
def acV:b7:=⟨⟨[],[(1,1),(2,1),(4,1)],[],[],[],[]⟩,[],[],false⟩
def ZD:dA:=
 sO [oA 2]
 (sO [oM 0 6,
 oC 57 [.t 6,kS [45]] 7,
 oM 7 3]
 (sO [oM 0 9,
 oC 81 [.t 9] 10,
 oM 10 8,
 oX 8 0 11,
 oX 8 1 12,
 oA 4,
 oS 5 4 11,
 oM 12 5]
 (.seq (sO [oM 5 13,
 oP (.un .not (.t 13)) 14,
 oM 14 15,
 oG (.cg (.t 3)) 16 15 false true,
 oG (.cg (.t 16)) 17 15 false true,
 oG (.fieldAddr 0 (.t 4)) 18 17 true true,
 oG (.load none (.t 18)) 19 17 true false,
 oG (.bin .eql (.t 19) (kI 22)) 20 17 true true,
 oG (.pick (.t 17) (.t 20) (kB false)) 21 15 false true,
 oP (.pick (.t 15) (kB true) (.t 21)) 22]
 (.cond (.t 22)
 (.ops [oM 0 23,
 oC 38 [.t 23,kI 110] 24])
 (.skip)))
 (.seq (sO [oM 3 25,
 oM 25 26,
 oG (.fieldAddr 0 (.t 4)) 27 26 true true,
 oG (.load none (.t 27)) 28 26 true false,
 oG (.bin .eql (.t 28) (kI 20)) 29 26 true true,
 oP (.pick (.t 26) (.t 29) (kB false)) 30]
 (.cond (.t 30)
 (.ops [oF 3 4 31,
 oL 31 32,
 oP (.un .neg (.t 32)) 33,
 oF 3 4 34,
 oS 1 34 33])
 (.skip)))
 (.seq (sO [oM 3 35,
 oM 35 36,
 oG (.fieldAddr 0 (.t 4)) 37 36 true true,
 oG (.load none (.t 37)) 38 36 true false,
 oG (.bin .eql (.t 38) (kI 21)) 39 36 true true,
 oP (.pick (.t 36) (.t 39) (kB false)) 40]
 (.cond (.t 40)
 (.ops [oF 3 4 41,
 oL 41 42,
 oP (.conv (.nw .u64) (.t 42)) 43,
 oD 83 [.t 43] 44,
 oP (.un .neg (.t 44)) 45,
 oD 82 [.t 45] 46,
 oP (.conv (.nw .i64) (.t 46)) 47,
 oF 3 4 48,
 oS 1 48 47])
 (.skip)))
 (sO [oJ 5 4 49,
 oS 5 2 49]
 (.ret)))))))
theorem aaa:bE Tryz.prog 61 acV=some (ZD,[.cell 2 (some 5)],50):=by kernel_rfl
def YV:b7:=⟨⟨[],[],[],[],[],[]⟩,[],[],false⟩
def kU:dA:=
 sO [oP (.cg (kI 0)) 2]
 (.seq (sO [oM 0 3]
 (.block 0 (sO [oP (.bin .eql (.t 3) (kS [124,124])) 5,
 oM 5 4]
 (.cond (.t 4)
 (sO [oP (.cg (kI 1)) 2]
 (.ret))
 (sO [oP (.bin .eql (.t 3) (kS [38,38])) 7,
 oM 7 6]
 (.cond (.t 6)
 (sO [oP (.cg (kI 2)) 2]
 (.ret))
 (.seq (sO [oP (.bin .eql (.t 3) (kS [60])) 9,
 oM 9 8]
 (.cond (.t 8)
 (.skip)
 (sO [oP (.bin .eql (.t 3) (kS [60,61])) 10,
 oM 10 8]
 (.cond (.t 8)
 (.skip)
 (sO [oP (.bin .eql (.t 3) (kS [62])) 11,
 oM 11 8]
 (.cond (.t 8)
 (.skip)
 (sO [oP (.bin .eql (.t 3) (kS [62,61])) 12,
 oM 12 8]
 (.cond (.t 8)
 (.skip)
 (sO [oP (.bin .eql (.t 3) (kS [61,61])) 13,
 oM 13 8]
 (.cond (.t 8)
 (.skip)
 (.ops [oP (.bin .eql (.t 3) (kS [33,61])) 14,
 oM 14 8])))))))))))
 (.cond (.t 8)
 (sO [oP (.cg (kI 3)) 2]
 (.ret))
 (.seq (sO [oP (.bin .eql (.t 3) (kS [43])) 16,
 oM 16 15]
 (.cond (.t 15)
 (.skip)
 (.ops [oP (.bin .eql (.t 3) (kS [45])) 17,
 oM 17 15])))
 (.cond (.t 15)
 (sO [oP (.cg (kI 4)) 2]
 (.ret))
 (.seq (sO [oP (.bin .eql (.t 3) (kS [42])) 19,
 oM 19 18]
 (.cond (.t 18)
 (.skip)
 (sO [oP (.bin .eql (.t 3) (kS [47])) 20,
 oM 20 18]
 (.cond (.t 18)
 (.skip)
 (.ops [oP (.bin .eql (.t 3) (kS [37])) 21,
 oM 21 18])))))
 (.cond (.t 18)
 (sO [oP (.cg (kI 5)) 2]
 (.ret))
 (.skip)))))))))))))
 (sO [oP (.cg (kI 0)) 2]
 (.ret)))
theorem WE:bE Tryz.prog 120 YV=some (kU,[.tmp 2],22):=by kernel_rfl
theorem Wn (s:List UInt8):aM Tryz.prog 120 [.str s] (.int .i64 (ft s)):=by
 refine aM.run (bf.ew _) WE (by simp) fun E=>?_
 unfold ft
 cases jO:(s==[124,124])
 case true=>simp (maxSteps:=1000000) only [kU,jO,aB,seval]
 cases jQ:(s==[38,38])
 case true=>simp (maxSteps:=1000000) only [kU,jO,jQ,aB,seval]
 cases jR:(s==[60])
 case true=>simp (maxSteps:=1000000) only [kU,jO,jQ,jR,aB,seval]
 cases uA:(s==[60,61])
 case true=>simp (maxSteps:=1000000) only [kU,jO,jQ,jR,uA,aB,seval]
 cases xn:(s==[62])
 case true=>simp (maxSteps:=1000000) only [kU,jO,jQ,jR,uA,xn,aB,seval]
 cases S4:(s==[62,61])
 case true=>simp (maxSteps:=1000000) only [kU,jO,jQ,jR,uA,xn,S4,aB,seval]
 cases UM:(s==[61,61])
 case true=>simp (maxSteps:=1000000) only [kU,jO,jQ,jR,uA,xn,S4,UM,aB,seval]
 cases W8:(s==[33,61])
 case true=>simp (maxSteps:=1000000) only [kU,jO,jQ,jR,uA,xn,S4,UM,W8,aB,seval]
 cases XD:(s==[43])
 case true=>simp (maxSteps:=1000000) only [kU,jO,jQ,jR,uA,xn,S4,UM,W8,XD,aB,seval]
 cases d1:(s==[45])
 case true=>simp (maxSteps:=1000000) only [kU,jO,jQ,jR,uA,xn,S4,UM,W8,XD,d1,aB,seval]
 cases d2:(s==[42])
 case true=>simp (maxSteps:=1000000) only [kU,jO,jQ,jR,uA,xn,S4,UM,W8,XD,d1,d2,aB,seval]
 cases d3:(s==[47])
 case true=>simp (maxSteps:=1000000) only [kU,jO,jQ,jR,uA,xn,S4,UM,W8,XD,d1,d2,d3,aB,seval]
 cases d4:(s==[37])
 all_goals simp (maxSteps:=1000000) only [kU,jO,jQ,jR,uA,xn,S4,UM,W8,XD,d1,d2,d3,d4,aB,seval]
def DM:List D→Option D
 | [.str s]=>some (.int .i64 (ft s))
 | _=>none
theorem Oh (args:List D) (d:D) (h:DM args=some d):aM Tryz.prog 120 args d:=by
 unfold DM at h
 split at h
 ·cases h; exact Wn _
 ·cases h
theorem XT:vu Tryz.prog 82 "math.Float64bits" =true:=by kernel_rfl
theorem XU:vu Tryz.prog 83 "math.Float64frombits" =true:=by kernel_rfl
def n7:bf:=ub.cX 120 DM
theorem El (g:FuncId) (args:List D):n7.q g args=if g=120 then DM args else ub.q g args:=rfl
theorem Ei:n7.a=ub.a:=rfl
theorem Ej:n7.c=ub.c:=rfl
theorem LZ:n7.ok Tryz.prog:=bf.bm PL Oh
theorem Ek:type_of% (And.intro (And.intro @El (And.intro @Ei @Ej)) @JY):=(And.intro (And.intro @El (And.intro @Ei @Ej)) @JY)
def uc:bf:=n7.cX 82 uh
theorem J4 (g:FuncId) (args:List D):uc.q g args=if g=82 then uh args else n7.q g args:=rfl
theorem J1:uc.a=n7.a:=rfl
theorem J2:uc.c=n7.c:=rfl
theorem PQ:uc.ok Tryz.prog:=bf.As LZ (Fi XT)
theorem J3:type_of% (And.intro (And.intro @J4 (And.intro @J1 @J2)) @Ek):=(And.intro (And.intro @J4 (And.intro @J1 @J2)) @Ek)
def ud:bf:=uc.cX 83 Fj
theorem J8 (g:FuncId) (args:List D):ud.q g args=if g=83 then Fj args else uc.q g args:=rfl
theorem J6:ud.a=uc.a:=rfl
theorem J7:ud.c=uc.c:=rfl
theorem ES:ud.ok Tryz.prog:=bf.As PQ (QD XU)
theorem im:type_of% (And.intro (And.intro @J8 (And.intro @J6 @J7)) @J3):=(And.intro (And.intro @J8 (And.intro @J6 @J7)) @J3)
theorem YA (l:List Tok) (hl:uw l) (s:PS) (id:Nat) (ok:cB l s) (K0:Nd→PS→Prop) (E0:Int→Int→Prop) (hw:jA (Bi l s) (fun x s'=>cB l s'→K0 x s') E0):aO Tryz.prog 61 [.ptr id 1 0] (aa.emp.set id (bV l s)) (ly (fun n:Nd=>.agg n.enc) l id K0 E0):=by
 refine aO.c8 ES (dc:=cJ.none) (fun _ _=>cJ.eM) (by kernel_rfl) aaa (by simp) ?_
 rw [dz]
 unfold Bi at hw
 rw [aE] at hw
 simp (maxSteps:=1000000) only [ZD,im,aB,seval]
 intro i2 n1 n2
 refine ⟨l,s,id,[45],rfl,hl.lo,by simp [n1,n2],ok,gI (fun mi bZ k gg=>?_) (fun a e k s'=>?_) hw⟩
 case refine_2=>
  simp only [bu,ab,ax]
  exact aA (s':=s') (by simp [n1,n2]) k
 rw [aE] at k
 simp (maxSteps:=1000000) only [n1,n2,im,aB,seval]
 refine ⟨l,bZ,id,rfl,hl,by simp [n1,n2],gg,gI (fun x dT k jV=>?_) (fun a e k s'=>?_) k⟩
 case refine_2=>
  simp only [bu,ab,ax]
  exact aA (s':=s') (by simp [n1,n2]) k
 obtain ⟨⟨nk,nt,ns,nm,nl⟩,b⟩:=x
 simp (maxSteps:=1000000) only [aR,n1,n2,im,aB,seval]
 intro i4 m1 m2 m3 m4
 simp only [Nd.kind,Nd.OK,Nd.num] at k
 cases b with
 | false=>
  simp only [Bool.not_false,Bool.true_or,cond_true] at k
  simp (maxSteps:=1000000) only [n1,n2,m1,m2,m3,m4,Bool.not_false,im,aB,seval]
  refine ⟨l,dT,id,110,rfl,by simp [n1,n2,m1,m2,m3,m4],jV.at_,?_⟩
  simp only [bu,ab,ax]
  exact aA (s':=dT) (by simp [n1,n2,m1,m2,m3,m4]) k
 | true=>
  cases mi with
  | false=>
   simp only [Bool.not_true,Bool.false_and,Bool.or_self,cond_false,b_] at k
   simp (maxSteps:=1000000) only [n1,n2,m1,m2,m3,m4,Bool.not_true,ag,ab,ax,im,aB,seval]
   exact cd (x:=.mk nk nt ns nm nl) (s':=dT) (by rw [aR]) (by simp [n1,n2,m1,m2,m3,m4]) (k jV)
  | true=>
   simp only [Bool.not_true,Bool.true_and,Bool.false_or] at k
   cases jQ:(nk==22) with
   | true=>
    rw [jQ,cond_true] at k
    simp (maxSteps:=1000000) only [jQ,n1,n2,m1,m2,m3,m4,Bool.not_true,im,aB,seval]
    refine ⟨l,dT,id,110,rfl,by simp [n1,n2,m1,m2,m3,m4],jV.at_,?_⟩
    simp only [bu,ab,ax]
    exact aA (s':=dT) (by simp [n1,n2,m1,m2,m3,m4]) k
   | false=>
    rw [jQ,cond_false,b_] at k
    have k:=k jV
    cases jR:(nk==20) with
    | true=>
     have uA:(nk==21)=false:=by simp at jR ⊢; omega
     rw [jR,cond_true] at k
     simp (maxSteps:=1000000) only [jQ,jR,uA,n1,n2,m1,m2,m3,m4,Bool.not_true,ag,ab,ax,im,aB,seval]
     exact cd (x:=.mk nk nt ns (IntKind.i64.wrap (0 - nm)) nl) (s':=dT) (by rw [aR]) (by simp [n1,n2,m1,m2,m3,m4]) k
    | false=>
     rw [jR,cond_false] at k
     cases uA:(nk==21) with
     | true=>
      rw [uA,cond_true] at k
      simp (maxSteps:=1000000) only [jQ,jR,uA,n1,n2,m1,m2,m3,m4,Bool.not_true,uh,Fj,ag,ab,ax,im,aB,seval]
      exact cd (x:=.mk nk nt ns (VK nm) nl) (s':=dT) (by rw [aR]; rfl) (by simp [n1,n2,m1,m2,m3,m4]) k
     | false=>
      rw [uA,cond_false] at k
      simp (maxSteps:=1000000) only [jQ,jR,uA,n1,n2,m1,m2,m3,m4,Bool.not_true,ag,ab,ax,im,aB,seval]
      exact cd (x:=.mk nk nt ns nm nl) (s':=dT) (by rw [aR]) (by simp [n1,n2,m1,m2,m3,m4]) k
def MD (args:List D) (h:aa) (K E:D→aa→Prop):Prop:=∃(l:List Tok) (s:PS) (id:Nat) ,args=[.ptr id 1 0]∧uw l∧cP (Bi l) (fun n:Nd=>.agg n.enc) l s id h K E
theorem KN (args:List D) (h:aa) (K E K' E':D→aa→Prop) (hk:∀d h,K d h→K' d h) (he:∀d h,E d h→E' d h) (c:MD args h K E):MD args h K' E':=by
 obtain ⟨l,s,id,a,b,c⟩:=c
 exact ⟨l,s,id,a,b,eE hk he c⟩
theorem QZ (args:List D) (h:aa) (K E:D→aa→Prop) (c:MD args h K E):aO Tryz.prog 61 args h (dn.to K E):=by
 obtain ⟨l,s,id,rfl,hl,c⟩:=c
 exact ji (fun ok K0 E0 hw=>YA l hl s id  ok K0 E0 hw) c
def t_:bf:=ud.j6 61 MD KN
theorem JQ:t_.q=ud.q:=rfl
theorem JO:t_.a=ud.a:=rfl
theorem JP (g:FuncId) (args:List D) (h:aa) (K E:D→aa→Prop):t_.c g args h K E=if g=61 then MD args h K E else ud.c g args h K E:=rfl
theorem EH:t_.ok Tryz.prog:=bf.cD ES QZ
theorem an:type_of% (And.intro (And.intro @JQ (And.intro @JO @JP)) @im):=(And.intro (And.intro @JQ (And.intro @JO @JP)) @im)
end
end Go.Proofs.YtpklkpkfgmoghaaGreatDoor.Zz
namespace Go.Proofs.YtpklkpkfgmoghaaGreatDoor.Zz
noncomputable section
def YZ:b7:=⟨⟨[],[],[],[],[],[]⟩,[],[],false⟩
def TN:dA:=
 sO [oP (.cg (kS [])) 4]
 (sO [oP (.cg (.c .a_)) 5]
 (.seq (sO [oM 0 8,
 oZ 8 9,
 oP (.cg (kI 0)) 10]
 (.block 0 (.loop (sO [oE .lss 10 9 11]
 (.seq (.cond (.t 11)
 (.skip)
 (.exit 0))
 (.seq (.block 1 (sO [oI 5 8 10 12,
 oJ 5 12 13,
 oA 7,
 oS 5 7 13]
 (.ops [oM 5 14,
 oJ 5 7 15,
 oD 8 [.t 15] 16,
 oP (.buildSlice 1 [(.str [])] 1 [(0,(.t 16))] false) 17,
 oQ (.append 1 16 false (.t 14) (.t 17)) 18,
 oM 18 5])))
 (.ops [oH .add 10 1 19,
 oM 19 10])))))))
 (sO [oM 5 20,
 oM 1 21,
 oD 43 [.t 20,.t 21] 22,
 oM 22 4]
 (.ret))))
theorem WJ:bE Tryz.prog 26 YZ=some (TN,[.tmp 4],23):=by kernel_rfl
def yn (k t:Int) (s:List UInt8) (m:Int) (ps:List (List UInt8)):List UInt8:=
 bif k==20 then Lib.itoa m else bif k==21 || k==23 then s else bif k==22 then (bif m==0 then iU else lY)
 else bif k==24 then s++[40]++Lib.join ps [44,32]++[41] else bif k==27 then fx t++[40]++Lib.join ps [44,32]++[41]
 else bif k==25 then s++Lib.join ps [] else [40]++Lib.join ps (32::(s++[32]))++[41]
def OO (k:Int) (s:List UInt8) (ps:List (List UInt8)):List UInt8:=
 bif k==6 then (if ps=[] then [123,32,125] else [123,32]++Lib.join ps [32]++[32,125])
 else bif k==7 then s++[32,58,61,32]++ps.getD 0 []++[59] else bif k==8 then s++[32,61,32]++ps.getD 0 []++[59]
 else bif k==9 then (if 2<ps.length then [105,102,32]++ps.getD 0 []++[32]++ps.getD 1 []++([32,101,108,115,101,32]++ps.getD 2 []) else [105,102,32]++ps.getD 0 []++[32]++ps.getD 1 [])
 else bif k==10 then [102,111,114,32]++ps.getD 0 []++[32]++ps.getD 1 []
 else bif k==11 then [114,101,116,117,114,110,32]++ps.getD 0 []++[59] else bif k==12 then [97,115,115,101,114,116,32]++ps.getD 0 []++[59]
 else bif k==13 then ps.getD 0 []++[59] else [115,107,105,112,59]
def xJ (x:Nd) (p:List UInt8):List UInt8:=match x with
 | .mk k _ s m _=>bif k==21 && decide (m<0) then [45]++s else bif k==20 then Lib.itoa m else p
def fD (ps:List (List UInt8)):List UInt8:=(ps.map fun p=>p++[10]).flatten
def MZ (k t:Int) (s:List UInt8) (l:List Nd) (ps:List (List UInt8)):List UInt8:=
 bif k==1 then fD ps else bif k==5 then s++[32]++fx t else match l with
  | []=>[]
  | x::_=>bif k==2 then [118,97,114,32]++s++[32]++fx t++[32,61,32]++xJ x (ps.getD 0 [])++[59]
   else bif k==4 then [116,101,115,116,32]++s++[32]++ps.getD 0 []
   else [102,117,110,99,32]++s++[40]++Lib.join ps.dropLast [44,32]++[41,32]++fx t++[32]++ps.getD (ps.length - 1) []
def jI (k t:Int) (s:List UInt8) (m:Int) (l:List Nd) (ps:List (List UInt8)):List UInt8:=
 if k≥20 then yn k t s m ps else if k≤5 then MZ k t s l ps else OO k s ps
mutual
def aT:Nd→List UInt8
 | .mk k t s m l=>jI k t s m l (aZ l)
def aZ:List Nd→List (List UInt8)
 | []=>[]
 | x::l=>aT x::aZ l
end
theorem bH (k t:Int) (s:List UInt8) (m:Int) (l:List Nd):aT (.mk k t s m l)=jI k t s m l (aZ l):=by rw [aT]
theorem bQ:aZ []=[]:=by rw [aZ]
theorem bd (x:Nd) (l:List Nd):aZ (x::l)=aT x::aZ l:=by rw [aZ]
theorem eN:∀l:List Nd,aZ l=l.map aT
 | []=>by rw [bQ]; rfl
 | x::l=>by rw [bd,eN l]; rfl
theorem js (l:List Nd):(aZ l).length=l.length:=by rw [eN,List.length_map]
theorem jr {l:List Nd} {i:Nat} {x:Nd} (h:l[i]? =some x):(aZ l)[i]? =some (aT x):=by rw [eN,List.getElem?_map,h]; rfl
theorem C5 {ps:List (List UInt8)} {sep x:List UInt8} (h:x∈ps):x.length≤(Lib.join ps sep).length:=by
 cases ps with
 | nil=>cases h
 | cons y r=>
  rw [Lib.join_length]
  have:x.length≤Lib.lens (y::r):=by
   clear sep
   generalize y::r=l at*
   induction l with
   | nil=>cases h
   | cons z l ih=>
    simp only [Lib.lens,List.map_cons,List.sum_cons] at ih ⊢
    rcases List.mem_cons.1 h with e | e
    ·subst e; omega
    ·have:=ih e; omega
  omega
def okX:Nd→Prop
 | .mk _ _ s m _=> -9223372036854775808≤m∧m≤9223372036854775807∧s.length≤1000000000000
def sf (n:Nd):Prop:=n.de≤1000000000∧(aT n).length≤1000000000000∧∀x∈s8 n,okX x
theorem Ga {l:List Nd} {x y:Nd} (h:x∈l) (hy:y∈s8 x):y∈l9 l:=by
 induction l with
 | nil=>cases h
 | cons z l ih=>
  rw [s9]
  rcases List.mem_cons.1 h with e | e
  ·subst e; exact List.mem_append_left _ hy
  ·exact List.mem_append_right _ (ih e)
theorem mf {k t:Int} {s:List UInt8} {m:Int} {l:List Nd} {x:Nd} (h:sf (.mk k t s m l)) (hx:x∈l) (hp:(aT x).length≤1000000000000):sf x:=by
 obtain ⟨a,b,c⟩:=h
 refine ⟨by have:=ot (k:=k) (t:=t) (s:=s) (n:=m) hx; omega,hp,fun y hy=>c y ?_⟩
 rw [vQ]
 exact List.mem_cons_of_mem _ (Ga hx hy)
open Classical in
def Ly (f:Nat):List D→Option D
 | [.agg ds]=>match vg ds with
  | some n=>if n.de<f∧sf n then some (.str (aT n)) else none
  | none=>none
 | _=>none
theorem oB {f:Nat} {n:Nd} (h:n.de<f) (h2:sf n):Ly f [.agg n.enc]=some (.str (aT n)):=by
 simp only [Ly,j8]; rw [if_pos ⟨h,h2⟩]
def E1:bf:=bf.zero.cX 40 DN
theorem P_ (g:FuncId) (args:List D):E1.q g args=if g=40 then DN args else bf.zero.q g args:=rfl
theorem P6:E1.a=bf.zero.a:=rfl
theorem P8:E1.c=bf.zero.c:=rfl
theorem SM:E1.ok Tryz.prog:=bf.bm (bf.ew _) H2
theorem P9:type_of% (And.intro @P_ (And.intro @P6 @P8)):=(And.intro @P_ (And.intro @P6 @P8))
def E2:bf:=E1.cX 43 tn
theorem Qg (g:FuncId) (args:List D):E2.q g args=if g=43 then tn args else E1.q g args:=rfl
theorem Qd:E2.a=E1.a:=rfl
theorem Qe:E2.c=E1.c:=rfl
theorem SN:E2.ok Tryz.prog:=bf.bm SM Oe
theorem Qf:type_of% (And.intro (And.intro @Qg (And.intro @Qd @Qe)) @P9):=(And.intro (And.intro @Qg (And.intro @Qd @Qe)) @P9)
def rE:bf:=E2.cX 41 xP
theorem Qc (g:FuncId) (args:List D):rE.q g args=if g=41 then xP args else E2.q g args:=rfl
theorem Qa:rE.a=E2.a:=rfl
theorem Qb:rE.c=E2.c:=rfl
theorem Ki:rE.ok Tryz.prog:=bf.bm SN HZ
theorem bN:type_of% (And.intro (And.intro @Qc (And.intro @Qa @Qb)) @Qf):=(And.intro (And.intro @Qc (And.intro @Qa @Qb)) @Qf)
def xy (f:Nat):bf:=rE.cX 8 (Ly f)
theorem zW (f:Nat) (g:FuncId) (args:List D):(xy f).q g args=if g=8 then Ly f args else rE.q g args:=rfl
theorem Qi (f:Nat):(xy f).a=rE.a:=rfl
theorem Qj (f:Nat):(xy f).c=rE.c:=rfl
set_option maxHeartbeats 1000000 in
theorem Rx (f:Nat) (hT:(xy f).ok Tryz.prog) (l:List Nd) (sep:List UInt8) (hl:∀x∈l,x.de<f∧sf x) (hn:l.length≤1000000000) (hJ:(Lib.join (aZ l) sep).length≤1000000000000):aM Tryz.prog 26 [.sl (Nd.cN l),.str sep] (.str (Lib.join (aZ l) sep)):=by
 refine aM.run hT WJ (by simp) fun E=>?_
 have iZ:=zW f
 have iX:=Qi f
 have iY:=Qj f
 generalize xy f=TT at iZ iX iY ⊢
 have QL:=js l
 have hj:tn [.sl (cE (aZ l)),.str sep]=some (.str (Lib.join (aZ l) sep)):=Od ⟨by omega,by omega⟩
 simp (maxSteps:=1000000) only [TN,aV,iZ,iX,iY,bN,aB,seval]
 intro _
 refine cS (X:=Nat×Nat) (fun z=>[(1,.str sep),(5,kC z.2 z.1),(8,.sl (Nd.cN l)),(9,.int .i64 l.length),(10,.int .i64 z.1)]) (fun z=>Lv .emp z.2 1 (cE ((aZ l).take z.1))) (fun z=>l.length - z.1) (fun z=>z.1≤l.length) (0,0) (Nat.zero_le _) (by simp only [fN,aB,seval]) (aa.aS _) ?_
 rintro ⟨i,q⟩ Q hi hQ
 simp only at hi hQ ⊢
 have Xn:((aZ l).take i).length=i:=by rw [List.length_take]; omega
 by_cases ci:i<l.length
 ·have g:((i:Int)<(l.length:Int))=True:=eq_true (by omega)
  obtain ⟨x,hx⟩:∃x,l[i]? =some x:=⟨_,List.getElem?_eq_getElem ci⟩
  have qz:∀(K:D→aa→Prop) (h:aa),iC 5 K h (Nd.cN l) (i:Int)=K (.cU x.enc 0) h:=fun K h=>iL hx
  have Vn:=aj x
  have wi:IntKind.i64.wrap ((i:Int)+1)=((i+1:Nat):Int):=cW (by omega)
  obtain ⟨h1,h2⟩:=hl x (List.mem_of_getElem? hx)
  have hq:=oB h1 h2
  have Lb:(aZ l).take (i+1)=(aZ l).take i++[aT x]:=by rw [List.take_add_one,jr hx]; rfl
  have hx5:=ao x
  have hxo:=aw x
  generalize aT x=px at hq Lb
  obtain ⟨xk,xt,xs,xm,xl⟩:=x
  rw [aR] at*
  by_cases h0:i=0
  ·have o1:kC q i=.a_:=by rw [h0]; rfl
   have o2:(aZ l).take i=[]:=by rw [h0]; rfl
   have o3:∀r,kC r (i+1)=.row r 3 0 1:=fun r=>by rw [h0]; rfl
   rw [o2,List.nil_append] at Lb
   simp (maxSteps:=1000000) only [g,qz,Vn,wi,hq,iZ,iX,iY,o1,o2,show cE []=[] from rfl,nM,bN,aB,seval]
   intro i7 i8 n1 n2
   refine hQ (i+1,i8) _ _ (by simp only; omega) (by simp only [o3,aB,seval]) ?_ (by simp only; omega)
   simp only [Lb]
   rw [kc (by simp [cE])]
   exact aa.dL (aa.cL (by simp [cE]) aa.bI)
  ·have e1:cE ((aZ l).take i)≠[]:=fun e=>h0 (by have:=congrArg List.length e; rw [cY,Xn] at this; simpa using this)
   simp (maxSteps:=1000000) only [g,qz,Vn,wi,hq,iZ,iX,iY,cp h0,kc e1,cY,Xn,bN,aB,seval]
   intro i7 n1 n2
   simp (maxSteps:=1000000) only [g,qz,Vn,wi,hq,iZ,iX,iY,n1,n2,cY,Xn,bN,aB,seval]
   refine ⟨by omega,hQ (i+1,q) _ _ (by simp only; omega) (by simp only [cp (Nat.succ_ne_zero i),show i+1+2=i+2+1 by omega,aB,seval]) ?_ (by simp only; omega)⟩
   simp only [Lb]
   have K9:(cE ((aZ l).take i++[px])).length=i+1:=by rw [cY,List.length_append,Xn]; rfl
   rw [kc (by intro e; rw [e] at K9; simp at K9),K9,←j9,show i+1+2=i+2+1 by omega]
   exact aa.dL (aa.cL (by simp [n1,n2]) aa.bI)
 ·have e0:i=l.length:=by omega
  subst e0
  have g:((l.length:Int)<(l.length:Int))=False:=eq_false (by omega)
  have tk:(aZ l).take l.length=aZ l:=List.take_of_length_le (by omega)
  rw [tk] at Xn ⊢
  by_cases h0:l.length=0
  ·have Fm:l=[]:=List.length_eq_zero_iff.1 h0
   subst Fm
   rw [bQ] at*
   have AX:tn [.sl [],.str sep]=some (.str (Lib.join [] sep)):=hj
   simp (maxSteps:=1000000) only [g,AX,iZ,iX,iY,List.length_nil,fN,show cE []=[] from rfl,nM,bN,aB,seval]
  ·have e1:cE (aZ l)≠[]:=fun e=>h0 (by have:=congrArg List.length e; rw [cY,Xn] at this; simpa using this)
   have tk2:(cE (aZ l)).take l.length=cE (aZ l):=List.take_of_length_le (by rw [cY]; omega)
   simp (maxSteps:=1000000) only [g,hj,iZ,iX,iY,cp h0,kc e1,cY,QL,tk2,bN,aB,seval]
end
end Go.Proofs.YtpklkpkfgmoghaaGreatDoor.Zz
namespace Go.Proofs.YtpklkpkfgmoghaaGreatDoor.Zz
noncomputable section
mutual
def GE.dq:GE→Prop
 | .int w=>Lib.itoa ((dX w:Nat):Int)=w
 | .o8 w=>jT w=w
 | .bool _=>True
 | .var _=>True
 | .call _ l=>GE.eW l
 | .un _ e=>e.dq
 | .bin _ a b=>a.dq∧b.dq
 | .conv t e=>(t=1∨t=2)∧e.dq
def GE.eW:List GE→Prop
 | []=>True
 | e::l=>e.dq∧GE.eW l
end
theorem gH {k:Int} (h:k≥20) (t:Int) (s:List UInt8) (m:Int) (l:List Nd) (ps:List (List UInt8)):jI k t s m l ps=yn k t s m ps:=if_pos h
theorem f_ {k:Int} (h:¬k≥20) (h2:¬k≤5) (t:Int) (s:List UInt8) (m:Int) (l:List Nd) (ps:List (List UInt8)):jI k t s m l ps=OO k s ps:=by rw [jI,if_neg h,if_neg h2]
theorem nP {k:Int} (h:k≤5) (t:Int) (s:List UInt8) (m:Int) (l:List Nd) (ps:List (List UInt8)):jI k t s m l ps=MZ k t s l ps:=by rw [jI,if_neg (by omega),if_pos h]
theorem i_ (sep x:List UInt8) (r:List (List UInt8)):Lib.joinTail sep (x::r)=sep++(x++Lib.joinTail sep r):=by simp [Lib.joinTail]
theorem A5 (sep:List UInt8):Lib.joinTail sep []=[]:=rfl
theorem NO (x y sep:List UInt8):Lib.join [x,y] sep=x++(sep++y):=by rw [Lib.join_cons,i_,A5,List.append_nil]
mutual
theorem qQ:∀(e:GE),e.dq→∀r:List UInt8,aT e.nd++r=e.tx r
 | .int w,h=>fun r=>by
  rw [GE.dq] at h
  rw [GE.nd,bH,gH (by decide),GE.tx]
  have e:yn 20 0 [] ((dX w:Nat):Int) (aZ [])=Lib.itoa ((dX w:Nat):Int):=rfl
  rw [e,h]
 | .o8 w,h=>fun r=>by
  rw [GE.dq] at h
  rw [GE.nd,iR,bH,gH (by decide),GE.tx]
  show jT w++r=_
  rw [h]
 | .bool b,h=>fun r=>by
  rw [GE.nd,bH,gH (by decide),GE.tx]
  cases b<;>rfl
 | .var x,h=>fun r=>by
  rw [GE.nd,bH,gH (by decide),GE.tx]
  rfl
 | .call x l,h=>fun r=>by
  rw [GE.dq] at h
  rw [GE.nd,bH,gH (by decide),GE.tx]
  show x++[40]++Lib.join (aZ (GE.eo l)) [44,32]++[41]++r=_
  have:=TC l h (41::r)
  simp only [List.append_assoc,List.cons_append,List.nil_append]
  rw [this]
 | .un s e,h=>fun r=>by
  rw [GE.dq] at h
  rw [GE.nd,bH,gH (by decide),GE.tx,bd,bQ]
  show s++Lib.join [aT e.nd] []++r=_
  rw [Lib.join_one,List.append_assoc,qQ e h]
 | .bin s a b,h=>fun r=>by
  rw [GE.dq] at h
  rw [GE.nd,bH,gH (by decide),GE.tx,bd,bd,bQ]
  show [40]++Lib.join [aT a.nd,aT b.nd] (32::(s++[32]))++[41]++r=_
  rw [NO]
  simp only [List.append_assoc,List.cons_append,List.nil_append]
  rw [qQ b h.2,qQ a h.1]
 | .conv t e,h=>fun r=>by
  rw [GE.dq] at h
  rw [GE.nd,bH,gH (by decide),GE.tx,bd,bQ]
  show fx t++[40]++Lib.join [aT e.nd] [44,32]++[41]++r=_
  rw [Lib.join_one]
  simp only [List.append_assoc,List.cons_append,List.nil_append]
  rw [qQ e h.2]
  rcases h.1 with rfl | rfl<;>rfl
theorem TC:∀(l:List GE),GE.eW l→∀r:List UInt8,Lib.join (aZ (GE.eo l)) [44,32]++r=GE.cT l r
 | [],h=>fun r=>by rw [GE.eo,bQ,GE.cT]; rfl
 | e::l,h=>fun r=>by
  rw [GE.eW] at h
  rw [GE.eo,bd,GE.cT,Lib.join_cons,List.append_assoc,TD l h.2,qQ e h.1]
theorem TD:∀(l:List GE),GE.eW l→∀r:List UInt8,Lib.joinTail [44,32] (aZ (GE.eo l))++r=GE.pb l r
 | [],h=>fun r=>by rw [GE.eo,bQ,GE.pb]; rfl
 | e::l,h=>fun r=>by
  rw [GE.eW] at h
  rw [GE.eo,bd,GE.pb,i_]
  simp only [List.append_assoc,List.cons_append,List.nil_append]
  rw [TD l h.2,qQ e h.1]
end
mutual
def GS.dq:GS→Prop
 | .jS _ e=>e.dq
 | .mX _ e=>e.dq
 | .yS e l=>e.dq∧GS.eW l
 | .yR e l r=>e.dq∧GS.eW l∧GS.eW r
 | .lJ e l=>e.dq∧GS.eW l
 | .ret e=>e.dq
 | .iM e=>e.dq
 | .skip=>True
 | .xF _ l=>GE.eW l
def GS.eW:List GS→Prop
 | []=>True
 | s::l=>s.dq∧GS.eW l
end
mutual
theorem Y4:∀(s:GS),s.dq→∀r:List UInt8,aT s.nd++r=s.tx 32 r
 | .jS x e,h=>fun r=>by
  rw [GS.dq] at h
  rw [GS.nd,bH,f_ (by decide) (by decide),GS.tx,bd,bQ]
  show x++[32,58,61,32]++aT e.nd++[59]++r=_
  simp only [List.append_assoc,List.cons_append,List.nil_append]
  rw [qQ e h]
 | .mX x e,h=>fun r=>by
  rw [GS.dq] at h
  rw [GS.nd,bH,f_ (by decide) (by decide),GS.tx,bd,bQ]
  show x++[32,61,32]++aT e.nd++[59]++r=_
  simp only [List.append_assoc,List.cons_append,List.nil_append]
  rw [qQ e h]
 | .yS e l,h=>fun r=>by
  rw [GS.dq] at h
  rw [GS.nd,bH,f_ (by decide) (by decide),GS.tx,bd,bd,bQ]
  show [105,102,32]++aT e.nd++[32]++aT (.mk 6 0 [] 0 (GS.eo l))++r=_
  simp only [List.append_assoc,List.cons_append,List.nil_append]
  rw [Lw l h.2,qQ e h.1]
  rfl
 | .yR e l l2,h=>fun r=>by
  rw [GS.dq] at h
  rw [GS.nd,bH,f_ (by decide) (by decide),GS.tx,bd,bd,bd,bQ]
  show [105,102,32]++aT e.nd++[32]++aT (.mk 6 0 [] 0 (GS.eo l))++([32,101,108,115,101,32]++aT (.mk 6 0 [] 0 (GS.eo l2)))++r=_
  simp only [List.append_assoc,List.cons_append,List.nil_append]
  rw [Lw l2 h.2.2,Lw l h.2.1,qQ e h.1]
  rfl
 | .lJ e l,h=>fun r=>by
  rw [GS.dq] at h
  rw [GS.nd,bH,f_ (by decide) (by decide),GS.tx,bd,bd,bQ]
  show [102,111,114,32]++aT e.nd++[32]++aT (.mk 6 0 [] 0 (GS.eo l))++r=_
  simp only [List.append_assoc,List.cons_append,List.nil_append]
  rw [Lw l h.2,qQ e h.1]
  rfl
 | .ret e,h=>fun r=>by
  rw [GS.dq] at h
  rw [GS.nd,bH,f_ (by decide) (by decide),GS.tx,bd,bQ]
  show [114,101,116,117,114,110,32]++aT e.nd++[59]++r=_
  simp only [List.append_assoc,List.cons_append,List.nil_append]
  rw [qQ e h]
  rfl
 | .iM e,h=>fun r=>by
  rw [GS.dq] at h
  rw [GS.nd,bH,f_ (by decide) (by decide),GS.tx,bd,bQ]
  show [97,115,115,101,114,116,32]++aT e.nd++[59]++r=_
  simp only [List.append_assoc,List.cons_append,List.nil_append]
  rw [qQ e h]
  rfl
 | .skip,h=>fun r=>by
  rw [GS.nd,bH,f_ (by decide) (by decide),GS.tx]
  rfl
 | .xF x l,h=>fun r=>by
  rw [GS.dq] at h
  rw [GS.nd,bH,f_ (by decide) (by decide),GS.tx,bd,bQ]
  show aT (.mk 24 0 x 0 (GE.eo l))++[59]++r=_
  rw [bH,gH (by decide)]
  show x++[40]++Lib.join (aZ (GE.eo l)) [44,32]++[41]++[59]++r=_
  simp only [List.append_assoc,List.cons_append,List.nil_append]
  rw [TC l h]
theorem Lw:∀(l:List GS),GS.eW l→∀r:List UInt8,aT (.mk 6 0 [] 0 (GS.eo l))++r=123::32::GS.cT 32 l (125::r)
 | [],h=>fun r=>by
  rw [bH,f_ (by decide) (by decide),GS.eo,bQ,GS.cT]
  rfl
 | s::l,h=>fun r=>by
  rw [GS.eW] at h
  rw [bH,f_ (by decide) (by decide),GS.eo,bd,GS.cT]
  show (if aT s.nd::aZ (GS.eo l)=[] then [123,32,125] else [123,32]++Lib.join (aT s.nd::aZ (GS.eo l)) [32]++[32,125])++r=_
  rw [if_neg (by simp),Lib.join_cons]
  simp only [List.append_assoc,List.cons_append,List.nil_append]
  rw [Y5 l h.2,Y4 s h.1]
theorem Y5:∀(l:List GS),GS.eW l→∀r:List UInt8,Lib.joinTail [32] (aZ (GS.eo l))++32::r=32::GS.cT 32 l r
 | [],h=>fun r=>by rw [GS.eo,bQ,GS.cT]; rfl
 | s::l,h=>fun r=>by
  rw [GS.eW] at h
  rw [GS.eo,bd,GS.cT,i_]
  simp only [List.append_assoc,List.cons_append,List.nil_append]
  rw [Y5 l h.2,Y4 s h.1]
end
def GE.pos:GE→Prop
 | .o8 w=>0≤jg (jT w)
 | _=>True
def GD.dq:GD→Prop
 | .var _ t e=>BE t∧(e.lit∧e.dq)∧e.pos
 | .func _ ps t l=>(∀p∈ps,BE p.2)∧BE t∧GS.eW l
 | .test _ l=>GS.eW l
theorem w9 {t:Int} (h:BE t):fx t=gk t:=by rcases h with rfl | rfl | rfl<;>rfl
theorem N_ {p:List UInt8×Int} (h:BE p.2) (r:List UInt8):aT (gU p)++r=p.1++32::(gk p.2++r):=by
 rw [gU,bH,nP (by decide),bQ]
 show p.1++[32]++fx p.2++r=_
 rw [w9 h]
 simp
theorem TB:∀(l:List (List UInt8×Int)),(∀p∈l,BE p.2)→∀r:List UInt8,Lib.joinTail [44,32] (l.map fun p=>aT (gU p))++r=fV l r
 | [],h,r=>rfl
 | p::l,h,r=>by
  rw [List.map_cons,i_,fV]
  simp only [List.append_assoc,List.cons_append,List.nil_append]
  rw [TB l (fun q hq=>h q (by simp [hq])),N_ (h p (by simp))]
theorem Y3 (l:List (List UInt8×Int)) (h:∀p∈l,BE p.2) (r:List UInt8):Lib.join (l.map fun p=>aT (gU p)) [44,32]++r=gG l r:=by
 cases l with
 | nil=>rfl
 | cons p l=>rw [List.map_cons,Lib.join_cons,List.append_assoc,TB l (fun q hq=>h q (by simp [hq])),N_ (h p (by simp)),gG]
theorem VE {e:GE} (h:e.lit) (h2:e.dq) (h3:e.pos) (r:List UInt8):xJ e.nd (aT e.nd)++r=e.tx r:=by
 have hp:=qQ e h2 r
 cases e with
 | int w=>
  rw [GE.nd,bH,gH (by decide)] at hp
  exact hp
 | o8 w=>
  rw [GE.nd,iR] at hp ⊢
  have:(decide (jg (jT w)<0))=false:=decide_eq_false (by rw [GE.pos] at h3; omega)
  show (bif (21:Int)==21 && decide (jg (jT w)<0) then _ else bif (21:Int)==20 then _ else _)++r=_
  rw [this]
  exact hp
 | bool b=>exact hp
 | var x=>exact h.elim
 | call x l=>exact h.elim
 | un s e=>exact h.elim
 | bin s a b=>exact h.elim
 | conv t e=>exact h.elim
theorem ac0 (D:GD) (h:D.dq) (r:List UInt8):aT D.nd++r=D.tx 32 r:=by
 cases D with
 | var x t e=>
  rw [GD.dq] at h
  rw [GD.nd,bH,nP (by decide),GD.tx,bd,bQ]
  show [118,97,114,32]++x++[32]++fx t++[32,61,32]++xJ e.nd (aT e.nd)++[59]++r=_
  rw [w9 h.1]
  simp only [List.append_assoc,List.cons_append,List.nil_append]
  rw [VE h.2.1.1 h.2.1.2 h.2.2]
  rfl
 | func x ps t l=>
  rw [GD.dq] at h
  rw [GD.nd,bH,nP (by decide),GD.tx]
  obtain ⟨y,q,hy⟩:∃y q,ps.map gU++[Nd.mk 6 0 [] 0 (GS.eo l)]=y::q:=by
   cases ps with
   | nil=>exact ⟨_,_,rfl⟩
   | cons p ps=>exact ⟨_,_,rfl⟩
  have vJ:aZ (ps.map gU++[Nd.mk 6 0 [] 0 (GS.eo l)])=ps.map (fun p=>aT (gU p))++[aT (.mk 6 0 [] 0 (GS.eo l))]:=by
   rw [eN,List.map_append,List.map_map]; rfl
  rw [vJ,hy]
  show [102,117,110,99,32]++x++[40]++Lib.join (ps.map (fun p=>aT (gU p))++[aT (.mk 6 0 [] 0 (GS.eo l))]).dropLast [44,32]++[41,32]++fx t++[32]++(ps.map (fun p=>aT (gU p))++[aT (.mk 6 0 [] 0 (GS.eo l))]).getD ((ps.map (fun p=>aT (gU p))++[aT (.mk 6 0 [] 0 (GS.eo l))]).length - 1) []++r=_
  have e1:(ps.map (fun p=>aT (gU p))++[aT (.mk 6 0 [] 0 (GS.eo l))]).getD ((ps.map (fun p=>aT (gU p))++[aT (.mk 6 0 [] 0 (GS.eo l))]).length - 1) []=aT (.mk 6 0 [] 0 (GS.eo l)):=by
   rw [List.getD_eq_getElem?_getD,List.length_append,List.length_singleton,Nat.add_sub_cancel,List.getElem?_append_right (Nat.le_refl _),Nat.sub_self]; rfl
  rw [e1,List.dropLast_concat,w9 h.2.1]
  simp only [List.append_assoc,List.cons_append,List.nil_append]
  rw [Lw l h.2.2,Y3 ps h.1]
  rfl
 | test x l=>
  rw [GD.dq] at h
  rw [GD.nd,bH,nP (by decide),GD.tx,bd,bQ]
  show [116,101,115,116,32]++x++[32]++aT (.mk 6 0 [] 0 (GS.eo l))++r=_
  simp only [List.append_assoc,List.cons_append,List.nil_append]
  rw [Lw l h]
  rfl
theorem DE:∀(l:List GD),(∀D∈l,D.dq)→fD (aZ (l.map GD.nd))=cu 32 l
 | [],h=>by rw [List.map_nil,bQ]; rfl
 | D::l,h=>by
  rw [List.map_cons,bd,cu]
  show aT D.nd++[10]++fD (aZ (l.map GD.nd))=_
  rw [DE l fun E hE=>h E (by simp [hE]),List.append_assoc,List.cons_append,List.nil_append]
  exact ac0 D (h D (by simp)) _
theorem RW {l:List GD} (h:∀D∈l,D.dq):aT (eS l)=cu 32 l:=by
 rw [eS,bH,nP (by decide)]
 exact DE l h
end
end Go.Proofs.YtpklkpkfgmoghaaGreatDoor.Zz
namespace Go.Proofs.YtpklkpkfgmoghaaGreatDoor.Zz
noncomputable section
def bU (L:List Int) (n:Int) (a:Nat):Int×Nat:=if a≥L.length∨a>3000 then (0,a) else (Int.tmod (Int.tmod (L.getD a 0) n+n) n,a+1)
theorem bW (L:List Int) {n:Int} (hn:0<n) (a:Nat):0≤(bU L n a).1∧(bU L n a).1<n:=by
 unfold bU
 split
 ·exact ⟨Int.le_refl _,hn⟩
 ·have h1:=Int.tmod_lt_of_pos (L.getD a 0) hn
  have h2:=Int.lt_tmod_of_pos (L.getD a 0) hn
  have h3:0≤Int.tmod (L.getD a 0) n+n:=by omega
  rw [Int.tmod_eq_emod_of_nonneg h3]
  exact ⟨Int.emod_nonneg _ (by omega),Int.emod_lt_of_pos _ hn⟩
structure Fn where
 name:List UInt8
 answer:Int
 params:List Int
structure Nm where
 ints:List (List UInt8)
 vy:List (List UInt8)
 nf:List (List UInt8)
 funcs:List Fn
 fresh:Nat
def Nm.of (s:Nm) (t:Int):List (List UInt8):=if t=0 then s.ints else if t=1 then s.vy else s.nf
def Nm.with (s:Nm) (x:List UInt8) (t:Int):Nm:=if t=0 then { s with ints:=s.ints++[x] } else if t=1 then { s with vy:=s.vy++[x] } else { s with nf:=s.nf++[x] }
instance:Inhabited GE:=⟨.bool true⟩
def lits (t:Int):List GE:=if t=0 then [.int [48],.int [49],.int [50],.int [51],.int [55],.int [57,50,50,51,51,55,50,48,51,54,56,53,52,55,55,53,56,48,55]]
 else if t=1 then [.o8 [48,46,48],.o8 [49,46,48],.o8 [48,46,53],.o8 [50,46,50,53],.o8 [49,48,48,48,48,48,48,46,48],.o8 [48,46,49]]
 else [.bool true,.bool false]
def nD (L:List Int) (t:Int) (a:Nat):GE×Nat:=((lits t).getD (bU L (lits t).length a).1.toNat (.bool true),(bU L (lits t).length a).2)
def Tx:List (List UInt8):=[[43],[45],[42],[47],[37]]
def Tw:List (List UInt8):=[[43],[45],[42],[47]]
def Dp:List (List UInt8):=[[38,38],[124,124],[61,61]]
def Tv:List (List UInt8):=[[60],[60,61],[62],[62,61],[61,61],[33,61]]
def eu (L:List Int) (l:List (List UInt8)) (a:Nat):List UInt8×Nat:=(l.getD (bU L l.length a).1.toNat [],(bU L l.length a).2)
def gR (g:Int→Nat→GE×Nat):List Int→Nat→List GE×Nat
 | [],a=>([],a)
 | t::r,a=>let x:=g t a
  let y:=gR g r x.2
  (x.1::y.1,y.2)
def iN (L:List Int) (s:Nm) (g:Int→Nat→GE×Nat) (t:Int) (a:Nat):Option (List UInt8×List GE)×Nat:=
 match s.funcs.filter fun f=>f.answer==t with
 | []=>(none,a)
 | f::r=>let k:=bU L ((f::r).length) a
  let h:=(f::r).getD k.1.toNat f
  let y:=gR g h.params k.2
  (some (h.name,y.1),y.2)
def xA (L:List Int) (g:Int→Nat→GE×Nat) (u:Int) (ops:List (List UInt8)) (a:Nat):GE×Nat:=
 let x:=g u a
 let o:=eu L ops x.2
 let y:=g u o.2
 (.bin o.1 x.1 y.1,y.2)
def qU (L:List Int) (g:Int→Nat→GE×Nat) (t k:Int) (a:Nat):GE×Nat:=
 if t=0 then (if k=4 then (.conv 1 (g 1 a).1,(g 1 a).2) else if k=5 then (.un [45] (g 0 a).1,(g 0 a).2) else xA L g 0 Tx a)
 else if t=1 then (if k=4 then (.conv 2 (g 0 a).1,(g 0 a).2) else if k=5 then (.un [45] (g 1 a).1,(g 1 a).2) else xA L g 1 Tw a)
 else if k=4 then (.un [33] (g 2 a).1,(g 2 a).2) else if k=5 then xA L g 2 Dp a else xA L g (bU L 2 a).1 Tv (bU L 2 a).2
def bP (L:List Int) (s:Nm):Nat→Int→Nat→GE×Nat
 | 0,t,a=>nD L t (bU L 8 a).2
 | d+1,t,a=>
  let k:=bU L 8 a
  if k.1=0 then nD L t k.2
  else if k.1≤2∧s.of t≠[] then (.var (eu L (s.of t) k.2).1,(eu L (s.of t) k.2).2)
  else if k.1=3 then (match iN L s (bP L s d) t k.2 with
   | (some c,b)=>(.call c.1 c.2,b)
   | (none,b)=>qU L (bP L s d) t k.1 b)
  else qU L (bP L s d) t k.1 k.2
def S6 (L:List Int) (s:Nm) (t:Int) (a:Nat):Option (List UInt8×List GE)×Nat:=iN L s (bP L s 1) t a
def bK (n:Nat):List UInt8:=Lib.itoa (n:Int)
def dJ (L:List Int) (blk:Nm→Nat→List GS×Nat) (dp:Nat) (test:Bool):Nat→Nm→Nat→List GS×Nat
 | 0,s,a=>([],a)
 | n+1,s,a=>
  let k:=bU L 7 a
  if k.1=0 then
   let t:=bU L 3 k.2
   let bZ:={ s with fresh:=s.fresh+1 }
   let x:=[118]++bK dp++[120]++bK (s.fresh+1)
   let e:=bP L bZ 2 t.1 t.2
   let r:=dJ L blk dp test n (bZ.with x t.1) e.2
   (.jS x e.1::r.1,r.2)
  else if k.1=1∨k.1=2 then
   let t:=bU L 3 k.2
   if s.of t.1=[] then dJ L blk dp test n s t.2 else
    let x:=eu L (s.of t.1) t.2
    let e:=bP L s 2 t.1 x.2
    let r:=dJ L blk dp test n s e.2
    (.mX x.1 e.1::r.1,r.2)
  else if k.1=3∧0<dp then
   let e:=bP L s 2 2 k.2
   let b:=blk s e.2
   let q:=bU L 2 b.2
   if q.1=1 then
    let b2:=blk s q.2
    let r:=dJ L blk dp test n s b2.2
    (.yR e.1 b.1 b2.1::r.1,r.2)
   else
    let r:=dJ L blk dp test n s q.2
    (.yS e.1 b.1::r.1,r.2)
  else if k.1=4∧0<dp then
   let bZ:={ s with fresh:=s.fresh+1 }
   let x:=[105]++bK dp++[120]++bK (s.fresh+1)
   let q:=bU L 4 k.2
   let b:=blk (bZ.with x 0) q.2
   let r:=dJ L blk dp test n bZ b.2
   (.jS x (.int [48])::.lJ (.bin [60] (.var x) (.int (bK q.1.toNat))) (b.1++[.mX x (.bin [43] (.var x) (.int [49]))])::r.1,r.2)
  else if k.1=5∧test=true then
   let e:=bP L s 3 2 k.2
   let r:=dJ L blk dp test n s e.2
   (.iM e.1::r.1,r.2)
  else if k.1=6 then
   let t:=bU L 3 k.2
   match S6 L s t.1 t.2 with
   | (some c,b)=>let r:=dJ L blk dp test n s b
    (.xF c.1 c.2::r.1,r.2)
   | (none,b)=>dJ L blk dp test n s b
  else
   let r:=dJ L blk dp test n s k.2
   (.skip::r.1,r.2)
def du (L:List Int) (test:Bool):Nat→Nm→Nat→List GS×Nat
 | 0,s,a=>dJ L (fun _ b=>([],b)) 0 test (bU L 4 a).1.toNat s (bU L 4 a).2
 | d+1,s,a=>dJ L (du L test d) (d+1) test (bU L 4 a).1.toNat s (bU L 4 a).2
def kt (L:List Int):Nat→Nm→Nat→List GD×Nm×Nat
 | 0,s,a=>([],s,a)
 | i+1,s,a=>
  let t:=bU L 3 a
  let x:=[103]++bK (i+1)
  let e:=nD L t.1 t.2
  let r:=kt L i (s.with x t.1) e.2
  (.var x (t.1+1) e.1::r.1,r.2)
def ke (L:List Int):Nat→Nm→Nat→List (List UInt8×Int)×Nm×Nat
 | 0,s,a=>([],s,a)
 | i+1,s,a=>
  let t:=bU L 3 a
  let x:=[112]++bK (i+1)
  let r:=ke L i (s.with x t.1) t.2
  ((x,t.1+1)::r.1,r.2)
def gy (L:List Int):Nat→Nm→Nat→List GD×Nm×Nat
 | 0,s,a=>([],s,a)
 | i+1,s,a=>
  let t:=bU L 3 a
  let n:=bU L 3 t.2
  let ps:=ke L n.1.toNat s n.2
  let f:Fn:=⟨[102]++bK (i+1),t.1,ps.1.map fun p=>p.2 - 1⟩
  let q:=bU L 5 ps.2.2
  let o:Nm:=if q.1=4 then { ps.2.1 with funcs:=ps.2.1.funcs++[f] } else ps.2.1
  let b:=du L false 2 o q.2
  let e:=bP L o 3 t.1 b.2
  let r:=gy L i { s with funcs:=s.funcs++[f] } e.2
  (.func f.name ps.1 (t.1+1) (b.1++[.ret e.1])::r.1,r.2)
def iq (L:List Int):Nat→Nm→Nat→List GD×Nat
 | 0,s,a=>([],a)
 | i+1,s,a=>
  let b:=du L true 2 s a
  let e:=bP L s 3 2 b.2
  let r:=iq L i s e.2
  (.test ([116]++bK (i+1)) (b.1++[.iM e.1])::r.1,r.2)
def jt (L:List Int):List GD:=
 let n:=bU L 3 0
 let v:=kt L n.1.toNat ⟨[],[],[],[],0⟩ n.2
 let m:=bU L 3 v.2.2
 let f:=gy L (m.1.toNat+1) v.2.1 m.2
 let k:=bU L 3 f.2.2
 v.1++f.1++(iq L (k.1.toNat+1) f.2.1 k.2).1
def gL (L:List Int):List UInt8:=cu 10 (jt L)
end
end Go.Proofs.YtpklkpkfgmoghaaGreatDoor.Zz
