/- The text of a program as it is made has its words, and is parsed to its tree. -/
import Derived.Test.YtpklkpkfgmoghaaGreatDoorZP26
import Derived.Test.YtpklkpkfgmoghaaGreatDoorZP17
import Derived.Test.YtpklkpkfgmoghaaGreatDoorZA0
set_option linter.unnecessarySimpa false
set_option linter.unusedVariables false
set_option linter.unusedSimpArgs false
set_option maxRecDepth 20000
namespace Go.Proofs.YtpklkpkfgmoghaaGreatDoor.Zz
noncomputable section
mutual
def GE.tx:GE→List UInt8→List UInt8
 | .int w,r=>w++r
 | .tc w,r=>w++r
 | .bool b,r=>(if b then rO else mH)++r
 | .var x,r=>x++r
 | .call x l,r=>x++40::GE.eG l (41::r)
 | .un s e,r=>s++e.tx r
 | .bin s a b,r=>40::a.tx (32::(s++32::b.tx (41::r)))
 | .conv t e,r=>(if t=1 then pS else ib)++40::e.tx (41::r)
def GE.eG:List GE→List UInt8→List UInt8
 | [],r=>r
 | e::l,r=>e.tx (GE.tL l r)
def GE.tL:List GE→List UInt8→List UInt8
 | [],r=>r
 | e::l,r=>44::32::e.tx (GE.tL l r)
end
mutual
def GE.fb:GE→Prop
 | .int w=>Dk w
 | .tc w=>Hi w
 | .bool _=>True
 | .var x=>hZ x
 | .call x l=>hZ x∧GE.iL l
 | .un s e=>(s=[45]∨s=[33])∧e.fb
 | .bin s a b=>s∈Z3∧a.fb∧b.fb
 | .conv _ e=>e.fb
def GE.iL:List GE→Prop
 | []=>True
 | e::l=>e.fb∧GE.iL l
end
theorem Dx {x r:List UInt8} (h:hZ x):(x++r).getD 0 0≠61:=by
 obtain ⟨c,w,rfl,h1,_⟩:=h
 intro e
 have e:c=61:=e
 subst e
 cases h1
theorem HW {x r:List UInt8} (h0:x≠[]) (h:∀y∈x,isDigit (y.toNat:Int)=true):(x++r).getD 0 0≠61:=by
 cases x with
 | nil=>exact absurd rfl h0
 | cons c w=>
  intro e
  have e:c=61:=e
  subst e
  have:=h 61 (by simp)
  cases this
theorem abb {e:GE} {r:List UInt8} (h:e.fb):(e.tx r).getD 0 0≠61:=by
 cases e with
 | int w=>rw [GE.fb] at h; rw [GE.tx]; exact HW h.1 h.2.1
 | tc w=>
  rw [GE.fb] at h
  obtain ⟨A,B,rfl,a0,_,a1,_⟩:=h
  rw [GE.tx,List.append_assoc]
  exact HW a0 a1
 | bool b=>
  rw [GE.tx]
  cases b
  ·exact (by decide:(102:UInt8)≠61)
  ·exact (by decide:(116:UInt8)≠61)
 | var x=>rw [GE.fb] at h; rw [GE.tx]; exact Dx h
 | call x l=>rw [GE.fb] at h; rw [GE.tx]; exact Dx h.1
 | un s e=>
  rw [GE.fb] at h
  rw [GE.tx]
  rcases h.1 with rfl | rfl
  ·exact (by decide:(45:UInt8)≠61)
  ·exact (by decide:(33:UInt8)≠61)
 | bin s a b=>rw [GE.tx]; exact (by decide:(40:UInt8)≠61)
 | conv t e=>
  rw [GE.tx]
  split
  ·exact (by decide:(105:UInt8)≠61)
  ·exact (by decide:(102:UInt8)≠61)
theorem TV (r:List UInt8):Bd (40::r):=Bd.c rfl (by decide)
theorem YW (r:List UInt8):Bd (41::r):=Bd.c rfl (by decide)
theorem nM (r:List UInt8):Bd (32::r):=Bd.c rfl (by decide)
theorem agN (r:List UInt8):Bd (44::r):=Bd.c rfl (by decide)
theorem RP (r:List UInt8):Bd (59::r):=Bd.c rfl (by decide)
theorem TX (l:List GE) (r:List UInt8):Bd (GE.tL l (41::r)):=by
 cases l with
 | nil=>rw [GE.tL]; exact YW r
 | cons e l=>rw [GE.tL]; exact agN _
mutual
theorem nD:∀(e:GE),e.fb→∀(r:List UInt8) (ws:List Wd),Bd r→bu r ws→bu (e.tx r) (e.wd++ws)
 | .int w,h=>fun r ws hb ht=>by rw [GE.fb] at h; rw [GE.tx,GE.wd]; exact bu.int h hb ht
 | .tc w,h=>fun r ws hb ht=>by rw [GE.fb] at h; rw [GE.tx,GE.wd]; exact bu.tc h hb ht
 | .bool b,h=>fun r ws hb ht=>by
  rw [GE.tx,GE.wd]
  cases b
  ·exact bu.kw (x:=mH) (by decide) hb ht
  ·exact bu.kw (x:=rO) (by decide) hb ht
 | .var x,h=>fun r ws hb ht=>by rw [GE.fb] at h; rw [GE.tx,GE.wd]; exact bu.nm h hb ht
 | .call x l,h=>fun r ws hb ht=>by
  rw [GE.fb] at h
  rw [GE.tx,GE.wd]
  simp only [List.cons_append,List.append_assoc,List.nil_append]
  exact bu.nm h.1 (TV _) (bu.one (by simp) (Yb l h.2 r _ (bu.one (by simp) ht)))
 | .un s e,h=>fun r ws hb ht=>by
  rw [GE.fb] at h
  rw [GE.tx,GE.wd,List.cons_append]
  have he:=nD e h.2 r ws hb ht
  rcases h.1 with rfl | rfl
  ·exact bu.one (by simp) he
  ·exact bu.not (abb h.2) he
 | .bin s a b,h=>fun r ws hb ht=>by
  rw [GE.fb] at h
  rw [GE.tx,GE.wd]
  simp only [List.cons_append,List.append_assoc,List.nil_append]
  exact bu.one (by simp) (nD a h.2.1 _ _ (nM _) (bu.sp rfl (bu.op h.1 (nD b h.2.2 _ _ (YW _) (bu.one (by simp) ht)))))
 | .conv t e,h=>fun r ws hb ht=>by
  rw [GE.fb] at h
  rw [GE.tx,GE.wd]
  simp only [List.cons_append,List.append_assoc,List.nil_append]
  have he:=bu.one (c:=40) (by simp) (nD e h _ _ (YW r) (bu.one (by simp) ht))
  split
  ·exact bu.kw (x:=pS) (by decide) (TV _) he
  ·exact bu.kw (x:=ib) (by decide) (TV _) he
theorem Yb:∀(l:List GE),GE.iL l→∀(r:List UInt8) (ws:List Wd),bu (41::r) ws→bu (GE.eG l (41::r)) (GE.u6 l++ws)
 | [],h=>fun r ws ht=>by rw [GE.eG,GE.u6]; exact ht
 | e::l,h=>fun r ws ht=>by
  rw [GE.iL] at h
  rw [GE.eG,GE.u6,List.append_assoc]
  exact nD e h.1 _ _ (TX l r) (Yc l h.2 r ws ht)
theorem Yc:∀(l:List GE),GE.iL l→∀(r:List UInt8) (ws:List Wd),bu (41::r) ws→bu (GE.tL l (41::r)) (GE.Gi l++ws)
 | [],h=>fun r ws ht=>by rw [GE.tL,GE.Gi]; exact ht
 | e::l,h=>fun r ws ht=>by
  rw [GE.iL] at h
  rw [GE.tL,GE.Gi,List.cons_append,List.append_assoc]
  exact bu.one (by simp) (bu.sp rfl (nD e h.1 _ _ (TX l r) (Yc l h.2 r ws ht)))
end
mutual
def GS.tx (c:UInt8):GS→List UInt8→List UInt8
 | .mL x e,r=>x++32::([58,61]++32::e.tx (59::r))
 | .rQ x e,r=>x++32::([61]++32::e.tx (59::r))
 | .Gc e l,r=>KO++32::e.tx (32::123::c::GS.eG c l (125::r))
 | .Gb e l l2,r=>KO++32::e.tx (32::123::c::GS.eG c l (125::32::(nH++32::123::c::GS.eG c l2 (125::r))))
 | .p8 e l,r=>KF++32::e.tx (32::123::c::GS.eG c l (125::r))
 | .ret e,r=>nI++32::e.tx (59::r)
 | .lq e,r=>nG++32::e.tx (59::r)
 | .skip,r=>EC++59::r
 | .Fa x l,r=>x++40::GE.eG l (41::59::r)
def GS.eG (c:UInt8):List GS→List UInt8→List UInt8
 | [],r=>r
 | s::l,r=>s.tx c (c::GS.eG c l r)
end
mutual
def GS.fb:GS→Prop
 | .mL x e=>hZ x∧e.fb
 | .rQ x e=>hZ x∧e.fb
 | .Gc e l=>e.fb∧GS.iL l
 | .Gb e l r=>e.fb∧GS.iL l∧GS.iL r
 | .p8 e l=>e.fb∧GS.iL l
 | .ret e=>e.fb
 | .lq e=>e.fb
 | .skip=>True
 | .Fa x l=>hZ x∧GE.iL l
def GS.iL:List GS→Prop
 | []=>True
 | s::l=>s.fb∧GS.iL l
end
mutual
theorem akh {c:UInt8} (hc:isSp c=true):∀(s:GS),s.fb→∀(r:List UInt8) (ws:List Wd),bu r ws→bu (s.tx c r) (s.wd++ws)
 | .mL x e,h=>fun r ws ht=>by
  rw [GS.fb] at h
  rw [GS.tx,GS.wd]
  simp only [List.cons_append,List.append_assoc,List.nil_append]
  exact bu.nm h.1 (nM _) (bu.sp rfl (bu.op (w:=[58,61]) (by decide) (nD e h.2 _ _ (RP _) (bu.one (by simp) ht))))
 | .rQ x e,h=>fun r ws ht=>by
  rw [GS.fb] at h
  rw [GS.tx,GS.wd]
  simp only [List.cons_append,List.append_assoc,List.nil_append]
  exact bu.nm h.1 (nM _) (bu.sp rfl (bu.op (w:=[61]) (by decide) (nD e h.2 _ _ (RP _) (bu.one (by simp) ht))))
 | .Gc e l,h=>fun r ws ht=>by
  rw [GS.fb] at h
  rw [GS.tx,GS.wd]
  simp only [List.cons_append,List.append_assoc,List.nil_append]
  exact bu.kw (x:=KO) (by decide) (nM _) (bu.sp rfl (nD e h.1 _ _ (nM _) (bu.sp rfl (bu.one (by simp) (bu.sp hc (tE hc l h.2 _ _ (bu.one (by simp) ht)))))))
 | .Gb e l l2,h=>fun r ws ht=>by
  rw [GS.fb] at h
  rw [GS.tx,GS.wd]
  simp only [List.cons_append,List.append_assoc,List.nil_append]
  exact bu.kw (x:=KO) (by decide) (nM _) (bu.sp rfl (nD e h.1 _ _ (nM _) (bu.sp rfl (bu.one (by simp) (bu.sp hc (tE hc l h.2.1 _ _ (bu.one (by simp) (bu.sp rfl (bu.kw (x:=nH) (by decide) (nM _) (bu.sp rfl (bu.one (by simp) (bu.sp hc (tE hc l2 h.2.2 _ _ (bu.one (by simp) ht))))))))))))))
 | .p8 e l,h=>fun r ws ht=>by
  rw [GS.fb] at h
  rw [GS.tx,GS.wd]
  simp only [List.cons_append,List.append_assoc,List.nil_append]
  exact bu.kw (x:=KF) (by decide) (nM _) (bu.sp rfl (nD e h.1 _ _ (nM _) (bu.sp rfl (bu.one (by simp) (bu.sp hc (tE hc l h.2 _ _ (bu.one (by simp) ht)))))))
 | .ret e,h=>fun r ws ht=>by
  rw [GS.fb] at h
  rw [GS.tx,GS.wd]
  simp only [List.cons_append,List.append_assoc,List.nil_append]
  exact bu.kw (x:=nI) (by decide) (nM _) (bu.sp rfl (nD e h _ _ (RP _) (bu.one (by simp) ht)))
 | .lq e,h=>fun r ws ht=>by
  rw [GS.fb] at h
  rw [GS.tx,GS.wd]
  simp only [List.cons_append,List.append_assoc,List.nil_append]
  exact bu.kw (x:=nG) (by decide) (nM _) (bu.sp rfl (nD e h _ _ (RP _) (bu.one (by simp) ht)))
 | .skip,h=>fun r ws ht=>by
  rw [GS.tx,GS.wd]
  exact bu.kw (x:=EC) (by decide) (RP _) (bu.one (by simp) ht)
 | .Fa x l,h=>fun r ws ht=>by
  rw [GS.fb] at h
  rw [GS.tx,GS.wd]
  simp only [List.cons_append,List.append_assoc,List.nil_append]
  exact bu.nm h.1 (TV _) (bu.one (by simp) (Yb l h.2 _ _ (bu.one (by simp) (bu.one (by simp) ht))))
theorem tE {c:UInt8} (hc:isSp c=true):∀(l:List GS),GS.iL l→∀(r:List UInt8) (ws:List Wd),bu r ws→bu (GS.eG c l r) (GS.u6 l++ws)
 | [],h=>fun r ws ht=>by rw [GS.eG,GS.u6]; exact ht
 | s::l,h=>fun r ws ht=>by
  rw [GS.iL] at h
  rw [GS.eG,GS.u6,List.append_assoc]
  exact akh hc s h.1 _ _ (bu.sp hc (tE hc l h.2 r ws ht))
end
def kq:List (List UInt8×Int)→List UInt8→List UInt8
 | [],r=>r
 | p::l,r=>44::32::(p.1++32::(jE p.2++kq l r))
def kZ:List (List UInt8×Int)→List UInt8→List UInt8
 | [],r=>r
 | p::l,r=>p.1++32::(jE p.2++kq l r)
def GD.tx (c:UInt8):GD→List UInt8→List UInt8
 | .var x t e,r=>mR++32::(x++32::(jE t++32::([61]++32::e.tx (59::r))))
 | .func x ps t l,r=>uZ++32::(x++40::kZ ps (41::32::(jE t++32::123::c::GS.eG c l (125::r))))
 | .test x l,r=>u5++32::(x++32::123::c::GS.eG c l (125::r))
def GD.fb:GD→Prop
 | .var x _ e=>hZ x∧e.fb
 | .func x ps _ l=>hZ x∧(∀p∈ps,hZ p.1)∧GS.iL l
 | .test x l=>hZ x∧GS.iL l
theorem Rv (t:Int):jE t∈words:=by
 unfold jE
 split
 ·decide
 ·split<;>decide
theorem TW (l:List (List UInt8×Int)) (r:List UInt8):Bd (kq l (41::r)):=by
 cases l with
 | nil=>exact YW r
 | cons p l=>exact agN _
theorem Kj:∀(l:List (List UInt8×Int)),(∀p∈l,hZ p.1)→∀(r:List UInt8) (ws:List Wd),bu (41::r) ws→bu (kq l (41::r)) (FG l++ws)
 | [],h,r,ws,ht=>ht
 | p::l,h,r,ws,ht=>by
  rw [kq,FG]
  simp only [List.cons_append]
  exact bu.one (by simp) (bu.sp rfl (bu.nm (h p (by simp)) (nM _) (bu.sp rfl (bu.kw (Rv _) (TW l r) (Kj l (fun q hq=>h q (by simp [hq])) r ws ht)))))
theorem aa9 (l:List (List UInt8×Int)) (h:∀p∈l,hZ p.1) (r:List UInt8) (ws:List Wd) (ht:bu (41::r) ws):bu (kZ l (41::r)) (Cc l++ws):=by
 cases l with
 | nil=>exact ht
 | cons p l=>
  rw [kZ,Cc]
  simp only [List.cons_append]
  exact bu.nm (h p (by simp)) (nM _) (bu.sp rfl (bu.kw (Rv _) (TW l r) (Kj l (fun q hq=>h q (by simp [hq])) r ws ht)))
theorem akg {c:UInt8} (hc:isSp c=true) (D:GD) (h:D.fb) (r:List UInt8) (ws:List Wd) (ht:bu r ws):bu (D.tx c r) (D.wd++ws):=by
 cases D with
 | var x t e=>
  rw [GD.fb] at h
  rw [GD.tx,GD.wd]
  simp only [List.cons_append,List.append_assoc,List.nil_append]
  exact bu.kw (x:=mR) (by decide) (nM _) (bu.sp rfl (bu.nm h.1 (nM _) (bu.sp rfl (bu.kw (Rv t) (nM _) (bu.sp rfl (bu.op (w:=[61]) (by decide) (nD e h.2 _ _ (RP _) (bu.one (by simp) ht))))))))
 | func x ps t l=>
  rw [GD.fb] at h
  rw [GD.tx,GD.wd]
  simp only [List.cons_append,List.append_assoc,List.nil_append]
  exact bu.kw (x:=uZ) (by decide) (nM _) (bu.sp rfl (bu.nm h.1 (TV _) (bu.one (by simp) (aa9 ps h.2.1 _ _ (bu.one (by simp) (bu.sp rfl (bu.kw (Rv t) (nM _) (bu.sp rfl (bu.one (by simp) (bu.sp hc (tE hc l h.2.2 _ _ (bu.one (by simp) ht))))))))))))
 | test x l=>
  rw [GD.fb] at h
  rw [GD.tx,GD.wd]
  simp only [List.cons_append,List.append_assoc,List.nil_append]
  exact bu.kw (x:=u5) (by decide) (nM _) (bu.sp rfl (bu.nm h.1 (nM _) (bu.sp rfl (bu.one (by simp) (bu.sp hc (tE hc l h.2 _ _ (bu.one (by simp) ht)))))))
def dQ (c:UInt8):List GD→List UInt8
 | []=>[]
 | D::l=>D.tx c (10::dQ c l)
theorem adb {c:UInt8} (hc:isSp c=true):∀(l:List GD),(∀D∈l,D.fb)→bu (dQ c l) (ni l)
 | [],h=>bu.nil
 | D::l,h=>by
  rw [dQ,ni]
  exact akg hc D (h D (by simp)) _ _ (bu.sp rfl (adb hc l fun E hE=>h E (by simp [hE])))
theorem MK {c:UInt8} (hc:isSp c=true) {l:List GD} (hlen:(dQ c l).length≤4096) (hl:∀D∈l,D.ok∧D.fb) (h1:Fk l≤16) (h2:Fh l≤32) (hm:(jg l).cI≤2000):mu 81 (dQ c l)=some (jg l,0,0):=
 L2 (Nat.le_refl _) (adb hc l fun D hD=>(hl D hD).2) hlen (fun D hD=>(hl D hD).1) h1 h2 hm
end
end Go.Proofs.YtpklkpkfgmoghaaGreatDoor.Zz
namespace Go.Proofs.YtpklkpkfgmoghaaGreatDoor.Zz
noncomputable section
def ane:cm:=⟨⟨[],[(1,1),(2,1),(4,1)],[],[],[],[]⟩,[],[],false⟩
def aja:dU:=
 sO [oA 2]
 (sO [oM 0 6,
 oC 57 [.t 6,kS [45]] 7,
 oM 7 3]
 (sO [oM 0 9,
 oC 81 [.t 9] 10,
 oM 10 8,
 oX 8 0 11,
 oX 8 1 12,
 oA 4,
 oS 5 4 11,
 oM 12 5]
 (.seq (sO [oM 5 13,
 oP (.un .not (.t 13)) 14,
 oM 14 15,
 oG (.cB (.t 3)) 16 15 false true,
 oG (.cB (.t 16)) 17 15 false true,
 oG (.fieldAddr 0 (.t 4)) 18 17 true true,
 oG (.load none (.t 18)) 19 17 true false,
 oG (.bin .eql (.t 19) (kI 22)) 20 17 true true,
 oG (.pick (.t 17) (.t 20) (kB false)) 21 15 false true,
 oP (.pick (.t 15) (kB true) (.t 21)) 22]
 (.cond (.t 22)
 (.ops [oM 0 23,
 oC 38 [.t 23,kI 110] 24])
 (.skip)))
 (.seq (sO [oM 3 25,
 oM 25 26,
 oG (.fieldAddr 0 (.t 4)) 27 26 true true,
 oG (.load none (.t 27)) 28 26 true false,
 oG (.bin .eql (.t 28) (kI 20)) 29 26 true true,
 oP (.pick (.t 26) (.t 29) (kB false)) 30]
 (.cond (.t 30)
 (.ops [oF 3 4 31,
 oL 31 32,
 oP (.un .neg (.t 32)) 33,
 oF 3 4 34,
 oS 1 34 33])
 (.skip)))
 (.seq (sO [oM 3 35,
 oM 35 36,
 oG (.fieldAddr 0 (.t 4)) 37 36 true true,
 oG (.load none (.t 37)) 38 36 true false,
 oG (.bin .eql (.t 38) (kI 21)) 39 36 true true,
 oP (.pick (.t 36) (.t 39) (kB false)) 40]
 (.cond (.t 40)
 (.ops [oF 3 4 41,
 oL 41 42,
 oP (.conv (.qJ .u64) (.t 42)) 43,
 oD 83 [.t 43] 44,
 oP (.un .neg (.t 44)) 45,
 oD 82 [.t 45] 46,
 oP (.conv (.qJ .i64) (.t 46)) 47,
 oF 3 4 48,
 oS 1 48 47])
 (.skip)))
 (sO [oJ 5 4 49,
 oS 5 2 49]
 (.ret)))))))
theorem ajW:bA Tryz.prog 61 ane=some (aja,[.cell 2 (some 5)],50):=by kernel_rfl
def aiu:cm:=⟨⟨[],[],[],[],[],[]⟩,[],[],false⟩
def np:dU:=
 sO [oP (.cB (kI 0)) 2]
 (.seq (sO [oM 0 3]
 (.block 0 (sO [oP (.bin .eql (.t 3) (kS [124,124])) 5,
 oM 5 4]
 (.cond (.t 4)
 (sO [oP (.cB (kI 1)) 2]
 (.ret))
 (sO [oP (.bin .eql (.t 3) (kS [38,38])) 7,
 oM 7 6]
 (.cond (.t 6)
 (sO [oP (.cB (kI 2)) 2]
 (.ret))
 (.seq (sO [oP (.bin .eql (.t 3) (kS [60])) 9,
 oM 9 8]
 (.cond (.t 8)
 (.skip)
 (sO [oP (.bin .eql (.t 3) (kS [60,61])) 10,
 oM 10 8]
 (.cond (.t 8)
 (.skip)
 (sO [oP (.bin .eql (.t 3) (kS [62])) 11,
 oM 11 8]
 (.cond (.t 8)
 (.skip)
 (sO [oP (.bin .eql (.t 3) (kS [62,61])) 12,
 oM 12 8]
 (.cond (.t 8)
 (.skip)
 (sO [oP (.bin .eql (.t 3) (kS [61,61])) 13,
 oM 13 8]
 (.cond (.t 8)
 (.skip)
 (.ops [oP (.bin .eql (.t 3) (kS [33,61])) 14,
 oM 14 8])))))))))))
 (.cond (.t 8)
 (sO [oP (.cB (kI 3)) 2]
 (.ret))
 (.seq (sO [oP (.bin .eql (.t 3) (kS [43])) 16,
 oM 16 15]
 (.cond (.t 15)
 (.skip)
 (.ops [oP (.bin .eql (.t 3) (kS [45])) 17,
 oM 17 15])))
 (.cond (.t 15)
 (sO [oP (.cB (kI 4)) 2]
 (.ret))
 (.seq (sO [oP (.bin .eql (.t 3) (kS [42])) 19,
 oM 19 18]
 (.cond (.t 18)
 (.skip)
 (sO [oP (.bin .eql (.t 3) (kS [47])) 20,
 oM 20 18]
 (.cond (.t 18)
 (.skip)
 (.ops [oP (.bin .eql (.t 3) (kS [37])) 21,
 oM 21 18])))))
 (.cond (.t 18)
 (sO [oP (.cB (kI 5)) 2]
 (.ret))
 (.skip)))))))))))))
 (sO [oP (.cB (kI 0)) 2]
 (.ret)))
theorem afI:bA Tryz.prog 120 aiu=some (np,[.tmp 2],22):=by kernel_rfl
theorem afe (s:List UInt8):aV Tryz.prog 120 [.str s] (.int .i64 (gZ s)):=by
 refine aV.run (bh.dJ _) afI (by simp) fun E=>?_
 unfold gZ
 cases lM:(s==[124,124])
 case true=>simp (maxSteps:=1000000) only [np,lM,aA,seval]
 cases lN:(s==[38,38])
 case true=>simp (maxSteps:=1000000) only [np,lM,lN,aA,seval]
 cases lO:(s==[60])
 case true=>simp (maxSteps:=1000000) only [np,lM,lN,lO,aA,seval]
 cases yL:(s==[60,61])
 case true=>simp (maxSteps:=1000000) only [np,lM,lN,lO,yL,aA,seval]
 cases BP:(s==[62])
 case true=>simp (maxSteps:=1000000) only [np,lM,lN,lO,yL,BP,aA,seval]
 cases c6p:(s==[62,61])
 case true=>simp (maxSteps:=1000000) only [np,lM,lN,lO,yL,BP,c6p,aA,seval]
 cases c7p:(s==[61,61])
 case true=>simp (maxSteps:=1000000) only [np,lM,lN,lO,yL,BP,c6p,c7p,aA,seval]
 cases c8p:(s==[33,61])
 case true=>simp (maxSteps:=1000000) only [np,lM,lN,lO,yL,BP,c6p,c7p,c8p,aA,seval]
 cases c9p:(s==[43])
 case true=>simp (maxSteps:=1000000) only [np,lM,lN,lO,yL,BP,c6p,c7p,c8p,c9p,aA,seval]
 cases d1:(s==[45])
 case true=>simp (maxSteps:=1000000) only [np,lM,lN,lO,yL,BP,c6p,c7p,c8p,c9p,d1,aA,seval]
 cases d2:(s==[42])
 case true=>simp (maxSteps:=1000000) only [np,lM,lN,lO,yL,BP,c6p,c7p,c8p,c9p,d1,d2,aA,seval]
 cases d3:(s==[47])
 case true=>simp (maxSteps:=1000000) only [np,lM,lN,lO,yL,BP,c6p,c7p,c8p,c9p,d1,d2,d3,aA,seval]
 cases d4:(s==[37])
 all_goals simp (maxSteps:=1000000) only [np,lM,lN,lO,yL,BP,c6p,c7p,c8p,c9p,d1,d2,d3,d4,aA,seval]
def IF:List D→Option D
 | [.str s]=>some (.int .i64 (gZ s))
 | _=>none
theorem Wb (args:List D) (d:D) (h:IF args=some d):aV Tryz.prog 120 args d:=by
 unfold IF at h
 split at h
 ·cases h; exact afe _
 ·cases h
theorem ahh:Ae Tryz.prog 82 "math.Float64bits" =true:=by kernel_rfl
theorem ahi:Ae Tryz.prog 83 "math.Float64frombits" =true:=by kernel_rfl
def rJ:bh:=x7.dR 120 IF
theorem JF (g:FuncId) (args:List D):rJ.q g args=if g=120 then IF args else x7.q g args:=rfl
theorem JC:rJ.a=x7.a:=rfl
theorem JD:rJ.c=x7.c:=rfl
theorem Tq:rJ.ok Tryz.prog:=bh.bE XO Wb
theorem JE:type_of% (And.intro (And.intro @JF (And.intro @JC @JD)) @QW):=(And.intro (And.intro @JF (And.intro @JC @JD)) @QW)
def x8:bh:=rJ.dR 82 yf
theorem Q3 (g:FuncId) (args:List D):x8.q g args=if g=82 then yf args else rJ.q g args:=rfl
theorem QZ:x8.a=rJ.a:=rfl
theorem Q0:x8.c=rJ.c:=rfl
theorem XS:x8.ok Tryz.prog:=bh.EL Tq (KH ahh)
theorem Q1:type_of% (And.intro (And.intro @Q3 (And.intro @QZ @Q0)) @JE):=(And.intro (And.intro @Q3 (And.intro @QZ @Q0)) @JE)
def x9:bh:=x8.dR 83 KI
theorem Q7 (g:FuncId) (args:List D):x9.q g args=if g=83 then KI args else x8.q g args:=rfl
theorem Q5:x9.a=x8.a:=rfl
theorem Q6:x9.c=x8.c:=rfl
theorem Kc:x9.ok Tryz.prog:=bh.EL XS (Yz ahi)
theorem j8:type_of% (And.intro (And.intro @Q7 (And.intro @Q5 @Q6)) @Q1):=(And.intro (And.intro @Q7 (And.intro @Q5 @Q6)) @Q1)
theorem ah3 (l:List Tok) (hl:yC l) (s:PS) (id:Nat) (ok:dy l s) (K0:Nd→PS→Prop) (E0:Int→Int→Prop) (hw:lg (FF l s) (fun x s'=>dy l s'→K0 x s') E0):aH Tryz.prog 61 [.ptr id 1 0] (aa.emp.set id (cK l s)) (nV (fun n:Nd=>.agg n.enc) l id K0 E0):=by
 refine aH.cv Kc (dc:=cy.none) (fun _ _=>cy.cX) (by kernel_rfl) ajW (by simp) ?_
 rw [cA]
 unfold FF at hw
 rw [aR] at hw
 simp (maxSteps:=1000000) only [aja,j8,aA,seval]
 intro i2 n1 n2
 refine ⟨l,s,id,[45],rfl,hl.lo,by simp [n1,n2],ok,js (fun mi cM k iW=>?_) (fun a e k s'=>?_) hw⟩
 case refine_2=>
  simp only [aX,ab,av]
  exact aI (s':=s') (by simp [n1,n2]) k
 rw [aR] at k
 simp (maxSteps:=1000000) only [n1,n2,j8,aA,seval]
 refine ⟨l,cM,id,rfl,hl,by simp [n1,n2],iW,js (fun x ff k lR=>?_) (fun a e k s'=>?_) k⟩
 case refine_2=>
  simp only [aX,ab,av]
  exact aI (s':=s') (by simp [n1,n2]) k
 obtain ⟨⟨nk,nt,ns,nm,nl⟩,b⟩:=x
 simp (maxSteps:=1000000) only [aB,n1,n2,j8,aA,seval]
 intro i4 m1 m2 m3 m4
 simp only [Nd.kind,Nd.WD,Nd.num] at k
 cases b with
 | false=>
  simp only [Bool.not_false,Bool.true_or,cond_true] at k
  simp (maxSteps:=1000000) only [n1,n2,m1,m2,m3,m4,Bool.not_false,j8,aA,seval]
  refine ⟨l,ff,id,110,rfl,by simp [n1,n2,m1,m2,m3,m4],lR.at_,?_⟩
  simp only [aX,ab,av]
  exact aI (s':=ff) (by simp [n1,n2,m1,m2,m3,m4]) k
 | true=>
  cases mi with
  | false=>
   simp only [Bool.not_true,Bool.false_and,Bool.or_self,cond_false,cU] at k
   simp (maxSteps:=1000000) only [n1,n2,m1,m2,m3,m4,Bool.not_true,af,ab,av,j8,aA,seval]
   exact cV (x:=.mk nk nt ns nm nl) (s':=ff) (by rw [aB]) (by simp [n1,n2,m1,m2,m3,m4]) (k lR)
  | true=>
   simp only [Bool.not_true,Bool.true_and,Bool.false_or] at k
   cases lN:(nk==22) with
   | true=>
    rw [lN,cond_true] at k
    simp (maxSteps:=1000000) only [lN,n1,n2,m1,m2,m3,m4,Bool.not_true,j8,aA,seval]
    refine ⟨l,ff,id,110,rfl,by simp [n1,n2,m1,m2,m3,m4],lR.at_,?_⟩
    simp only [aX,ab,av]
    exact aI (s':=ff) (by simp [n1,n2,m1,m2,m3,m4]) k
   | false=>
    rw [lN,cond_false,cU] at k
    have k:=k lR
    cases lO:(nk==20) with
    | true=>
     have yL:(nk==21)=false:=by simp at lO ⊢; omega
     rw [lO,cond_true] at k
     simp (maxSteps:=1000000) only [lN,lO,yL,n1,n2,m1,m2,m3,m4,Bool.not_true,af,ab,av,j8,aA,seval]
     exact cV (x:=.mk nk nt ns (IntKind.i64.wrap (0 - nm)) nl) (s':=ff) (by rw [aB]) (by simp [n1,n2,m1,m2,m3,m4]) k
    | false=>
     rw [lO,cond_false] at k
     cases yL:(nk==21) with
     | true=>
      rw [yL,cond_true] at k
      simp (maxSteps:=1000000) only [lN,lO,yL,n1,n2,m1,m2,m3,m4,Bool.not_true,yf,KI,af,ab,av,j8,aA,seval]
      exact cV (x:=.mk nk nt ns (aex nm) nl) (s':=ff) (by rw [aB]; rfl) (by simp [n1,n2,m1,m2,m3,m4]) k
     | false=>
      rw [yL,cond_false] at k
      simp (maxSteps:=1000000) only [lN,lO,yL,n1,n2,m1,m2,m3,m4,Bool.not_true,af,ab,av,j8,aA,seval]
      exact cV (x:=.mk nk nt ns nm nl) (s':=ff) (by rw [aB]) (by simp [n1,n2,m1,m2,m3,m4]) k
def Uo (args:List D) (h:aa) (K E:D→aa→Prop):Prop:=∃(l:List Tok) (s:PS) (id:Nat) ,args=[.ptr id 1 0]∧yC l∧cP (FF l) (fun n:Nd=>.agg n.enc) l s id h K E
theorem RZ (args:List D) (h:aa) (K E K' E':D→aa→Prop) (hk:∀d h,K d h→K' d h) (he:∀d h,E d h→E' d h) (c:Uo args h K E):Uo args h K' E':=by
 obtain ⟨l,s,id,a,b,c⟩:=c
 exact ⟨l,s,id,a,b,fW hk he c⟩
theorem Y7 (args:List D) (h:aa) (K E:D→aa→Prop) (c:Uo args h K E):aH Tryz.prog 61 args h (cY.to K E):=by
 obtain ⟨l,s,id,rfl,hl,c⟩:=c
 exact kQ (fun ok K0 E0 hw=>ah3 l hl s id  ok K0 E0 hw) c
def xT:bh:=x9.gI 61 Uo RZ
theorem Qp:xT.q=x9.q:=rfl
theorem Qn:xT.a=x9.a:=rfl
theorem Qo (g:FuncId) (args:List D) (h:aa) (K E:D→aa→Prop):xT.c g args h K E=if g=61 then Uo args h K E else x9.c g args h K E:=rfl
theorem J0:xT.ok Tryz.prog:=bh.bQ Kc Y7
theorem aq:type_of% (And.intro (And.intro @Qp (And.intro @Qn @Qo)) @j8):=(And.intro (And.intro @Qp (And.intro @Qn @Qo)) @j8)
end
end Go.Proofs.YtpklkpkfgmoghaaGreatDoor.Zz
namespace Go.Proofs.YtpklkpkfgmoghaaGreatDoor.Zz
noncomputable section
end
end Go.Proofs.YtpklkpkfgmoghaaGreatDoor.Zz
namespace Go.Proofs.YtpklkpkfgmoghaaGreatDoor.Zz
noncomputable section
mutual
def GE.iq:GE→Prop
 | .int w=>Lib.itoa ((fG w:Nat):Int)=w
 | .tc w=>nO w=w
 | .bool _=>True
 | .var _=>True
 | .call _ l=>GE.jO l
 | .un _ e=>e.iq
 | .bin _ a b=>a.iq∧b.iq
 | .conv t e=>(t=1∨t=2)∧e.iq
def GE.jO:List GE→Prop
 | []=>True
 | e::l=>e.iq∧GE.jO l
end
mutual
def GS.iq:GS→Prop
 | .mL _ e=>e.iq
 | .rQ _ e=>e.iq
 | .Gc e l=>e.iq∧GS.jO l
 | .Gb e l r=>e.iq∧GS.jO l∧GS.jO r
 | .p8 e l=>e.iq∧GS.jO l
 | .ret e=>e.iq
 | .lq e=>e.iq
 | .skip=>True
 | .Fa _ l=>GE.jO l
def GS.jO:List GS→Prop
 | []=>True
 | s::l=>s.iq∧GS.jO l
end
def GE.pos:GE→Prop
 | .tc w=>0≤l9 (nO w)
 | _=>True
def GD.iq:GD→Prop
 | .var _ t e=>MM t∧(e.lit∧e.iq)∧e.pos
 | .func _ ps t l=>(∀p∈ps,MM p.2)∧MM t∧GS.jO l
 | .test _ l=>GS.jO l
end
end Go.Proofs.YtpklkpkfgmoghaaGreatDoor.Zz
namespace Go.Proofs.YtpklkpkfgmoghaaGreatDoor.Zz
noncomputable section
def bD (L:List Int) (n:Int) (a:Nat):Int×Nat:=if a≥L.length∨a>3000 then (0,a) else (Int.tmod (Int.tmod (L.getD a 0) n+n) n,a+1)
theorem bY (L:List Int) {n:Int} (hn:0<n) (a:Nat):0≤(bD L n a).1∧(bD L n a).1<n:=by
 unfold bD
 split
 ·exact ⟨Int.le_refl _,hn⟩
 ·have h1:=Int.tmod_lt_of_pos (L.getD a 0) hn
  have h2:=Int.lt_tmod_of_pos (L.getD a 0) hn
  have h3:0≤Int.tmod (L.getD a 0) n+n:=by omega
  rw [Int.tmod_eq_emod_of_nonneg h3]
  exact ⟨Int.emod_nonneg _ (by omega),Int.emod_lt_of_pos _ hn⟩
structure Fn where
 name:List UInt8
 answer:Int
 params:List Int
structure Nm where
 ints:List (List UInt8)
 Ai:List (List UInt8)
 qx:List (List UInt8)
 funcs:List Fn
 fresh:Nat
def Nm.of (s:Nm) (t:Int):List (List UInt8):=if t=0 then s.ints else if t=1 then s.Ai else s.qx
def Nm.with (s:Nm) (x:List UInt8) (t:Int):Nm:=if t=0 then { s with ints:=s.ints++[x] } else if t=1 then { s with Ai:=s.Ai++[x] } else { s with qx:=s.qx++[x] }
instance:Inhabited GE:=⟨.bool true⟩
def lits (t:Int):List GE:=if t=0 then [.int [48],.int [49],.int [50],.int [51],.int [55],.int [57,50,50,51,51,55,50,48,51,54,56,53,52,55,55,53,56,48,55]]
 else if t=1 then [.tc [48,46,48],.tc [49,46,48],.tc [48,46,53],.tc [50,46,50,53],.tc [49,48,48,48,48,48,48,46,48],.tc [48,46,49]]
 else [.bool true,.bool false]
def nQ (L:List Int) (t:Int) (a:Nat):GE×Nat:=((lits t).getD (bD L (lits t).length a).1.toNat (.bool true),(bD L (lits t).length a).2)
def YL:List (List UInt8):=[[43],[45],[42],[47],[37]]
def YK:List (List UInt8):=[[43],[45],[42],[47]]
def Ca:List (List UInt8):=[[38,38],[124,124],[61,61]]
def YJ:List (List UInt8):=[[60],[60,61],[62],[62,61],[61,61],[33,61]]
def fA (L:List Int) (l:List (List UInt8)) (a:Nat):List UInt8×Nat:=(l.getD (bD L l.length a).1.toNat [],(bD L l.length a).2)
def iD (g:Int→Nat→GE×Nat):List Int→Nat→List GE×Nat
 | [],a=>([],a)
 | t::r,a=>let x:=g t a
  let y:=iD g r x.2
  (x.1::y.1,y.2)
def jB (L:List Int) (s:Nm) (g:Int→Nat→GE×Nat) (t:Int) (a:Nat):Option (List UInt8×List GE)×Nat:=
 match s.funcs.filter fun f=>f.answer==t with
 | []=>(none,a)
 | f::r=>let k:=bD L ((f::r).length) a
  let h:=(f::r).getD k.1.toNat f
  let y:=iD g h.params k.2
  (some (h.name,y.1),y.2)
def zA (L:List Int) (g:Int→Nat→GE×Nat) (u:Int) (ops:List (List UInt8)) (a:Nat):GE×Nat:=
 let x:=g u a
 let o:=fA L ops x.2
 let y:=g u o.2
 (.bin o.1 x.1 y.1,y.2)
def q_ (L:List Int) (g:Int→Nat→GE×Nat) (t k:Int) (a:Nat):GE×Nat:=
 if t=0 then (if k=4 then (.conv 1 (g 1 a).1,(g 1 a).2) else if k=5 then (.un [45] (g 0 a).1,(g 0 a).2) else zA L g 0 YL a)
 else if t=1 then (if k=4 then (.conv 2 (g 0 a).1,(g 0 a).2) else if k=5 then (.un [45] (g 1 a).1,(g 1 a).2) else zA L g 1 YK a)
 else if k=4 then (.un [33] (g 2 a).1,(g 2 a).2) else if k=5 then zA L g 2 Ca a else zA L g (bD L 2 a).1 YJ (bD L 2 a).2
def b_ (L:List Int) (s:Nm):Nat→Int→Nat→GE×Nat
 | 0,t,a=>nQ L t (bD L 8 a).2
 | d+1,t,a=>
  let k:=bD L 8 a
  if k.1=0 then nQ L t k.2
  else if k.1≤2∧s.of t≠[] then (.var (fA L (s.of t) k.2).1,(fA L (s.of t) k.2).2)
  else if k.1=3 then (match jB L s (b_ L s d) t k.2 with
   | (some c,b)=>(.call c.1 c.2,b)
   | (none,b)=>q_ L (b_ L s d) t k.1 b)
  else q_ L (b_ L s d) t k.1 k.2
def abp (L:List Int) (s:Nm) (t:Int) (a:Nat):Option (List UInt8×List GE)×Nat:=jB L s (b_ L s 1) t a
def bM (n:Nat):List UInt8:=Lib.itoa (n:Int)
def eE (L:List Int) (blk:Nm→Nat→List GS×Nat) (dp:Nat) (test:Bool):Nat→Nm→Nat→List GS×Nat
 | 0,s,a=>([],a)
 | n+1,s,a=>
  let k:=bD L 7 a
  if k.1=0 then
   let t:=bD L 3 k.2
   let cM:={ s with fresh:=s.fresh+1 }
   let x:=[118]++bM dp++[120]++bM (s.fresh+1)
   let e:=b_ L cM 2 t.1 t.2
   let r:=eE L blk dp test n (cM.with x t.1) e.2
   (.mL x e.1::r.1,r.2)
  else if k.1=1∨k.1=2 then
   let t:=bD L 3 k.2
   if s.of t.1=[] then eE L blk dp test n s t.2 else
    let x:=fA L (s.of t.1) t.2
    let e:=b_ L s 2 t.1 x.2
    let r:=eE L blk dp test n s e.2
    (.rQ x.1 e.1::r.1,r.2)
  else if k.1=3∧0<dp then
   let e:=b_ L s 2 2 k.2
   let b:=blk s e.2
   let q:=bD L 2 b.2
   if q.1=1 then
    let b2:=blk s q.2
    let r:=eE L blk dp test n s b2.2
    (.Gb e.1 b.1 b2.1::r.1,r.2)
   else
    let r:=eE L blk dp test n s q.2
    (.Gc e.1 b.1::r.1,r.2)
  else if k.1=4∧0<dp then
   let cM:={ s with fresh:=s.fresh+1 }
   let x:=[105]++bM dp++[120]++bM (s.fresh+1)
   let q:=bD L 4 k.2
   let b:=blk (cM.with x 0) q.2
   let r:=eE L blk dp test n cM b.2
   (.mL x (.int [48])::.p8 (.bin [60] (.var x) (.int (bM q.1.toNat))) (b.1++[.rQ x (.bin [43] (.var x) (.int [49]))])::r.1,r.2)
  else if k.1=5∧test=true then
   let e:=b_ L s 3 2 k.2
   let r:=eE L blk dp test n s e.2
   (.lq e.1::r.1,r.2)
  else if k.1=6 then
   let t:=bD L 3 k.2
   match abp L s t.1 t.2 with
   | (some c,b)=>let r:=eE L blk dp test n s b
    (.Fa c.1 c.2::r.1,r.2)
   | (none,b)=>eE L blk dp test n s b
  else
   let r:=eE L blk dp test n s k.2
   (.skip::r.1,r.2)
def dM (L:List Int) (test:Bool):Nat→Nm→Nat→List GS×Nat
 | 0,s,a=>eE L (fun _ b=>([],b)) 0 test (bD L 4 a).1.toNat s (bD L 4 a).2
 | d+1,s,a=>eE L (dM L test d) (d+1) test (bD L 4 a).1.toNat s (bD L 4 a).2
def fB (L:List Int):Nat→Nm→Nat→List GD×Nm×Nat
 | 0,s,a=>([],s,a)
 | i+1,s,a=>
  let t:=bD L 3 a
  let x:=[103]++bM (i+1)
  let e:=nQ L t.1 t.2
  let r:=fB L i (s.with x t.1) e.2
  (.var x (t.1+1) e.1::r.1,r.2)
def gQ (L:List Int):Nat→Nm→Nat→List (List UInt8×Int)×Nm×Nat
 | 0,s,a=>([],s,a)
 | i+1,s,a=>
  let t:=bD L 3 a
  let x:=[112]++bM (i+1)
  let r:=gQ L i (s.with x t.1) t.2
  ((x,t.1+1)::r.1,r.2)
def eS (L:List Int):Nat→Nm→Nat→List GD×Nm×Nat
 | 0,s,a=>([],s,a)
 | i+1,s,a=>
  let t:=bD L 3 a
  let n:=bD L 3 t.2
  let ps:=gQ L n.1.toNat s n.2
  let f:Fn:=⟨[102]++bM (i+1),t.1,ps.1.map fun p=>p.2 - 1⟩
  let q:=bD L 5 ps.2.2
  let o:Nm:=if q.1=4 then { ps.2.1 with funcs:=ps.2.1.funcs++[f] } else ps.2.1
  let b:=dM L false 2 o q.2
  let e:=b_ L o 3 t.1 b.2
  let r:=eS L i { s with funcs:=s.funcs++[f] } e.2
  (.func f.name ps.1 (t.1+1) (b.1++[.ret e.1])::r.1,r.2)
def ia (L:List Int):Nat→Nm→Nat→List GD×Nat
 | 0,s,a=>([],a)
 | i+1,s,a=>
  let b:=dM L true 2 s a
  let e:=b_ L s 3 2 b.2
  let r:=ia L i s e.2
  (.test ([116]++bM (i+1)) (b.1++[.lq e.1])::r.1,r.2)
def iu (L:List Int):List GD:=
 let n:=bD L 3 0
 let v:=fB L n.1.toNat ⟨[],[],[],[],0⟩ n.2
 let m:=bD L 3 v.2.2
 let f:=eS L (m.1.toNat+1) v.2.1 m.2
 let k:=bD L 3 f.2.2
 v.1++f.1++(ia L (k.1.toNat+1) f.2.1 k.2).1
def lT (L:List Int):List UInt8:=dQ 10 (iu L)
end
end Go.Proofs.YtpklkpkfgmoghaaGreatDoor.Zz
namespace Go.Proofs.YtpklkpkfgmoghaaGreatDoor.Zz
noncomputable section
mutual
theorem de:∀(e:GE) (r:List UInt8),e.tx r=e.tx []++r
 | .int w,r=>by rw [GE.tx,GE.tx]; simp
 | .tc w,r=>by rw [GE.tx,GE.tx]; simp
 | .bool b,r=>by rw [GE.tx,GE.tx]; simp
 | .var x,r=>by rw [GE.tx,GE.tx]; simp
 | .call x l,r=>by
  rw [GE.tx,GE.tx,pQ l (41::r),pQ l [41]]
  simp
 | .un s e,r=>by rw [GE.tx,GE.tx,de e r]; simp
 | .bin s a b,r=>by
  rw [GE.tx,GE.tx,de b (41::r),de b [41],de a (32::_),de a (32::(s++32::(b.tx []++[41])))]
  simp
 | .conv t e,r=>by
  rw [GE.tx,GE.tx,de e (41::r),de e [41]]
  simp
theorem pQ:∀(l:List GE) (r:List UInt8),GE.eG l r=GE.eG l []++r
 | [],r=>by rw [GE.eG,GE.eG]; rfl
 | e::l,r=>by
  rw [GE.eG,GE.eG,F4 l r,de e (GE.tL l []++r),de e (GE.tL l [])]
  simp
theorem F4:∀(l:List GE) (r:List UInt8),GE.tL l r=GE.tL l []++r
 | [],r=>by rw [GE.tL,GE.tL]; rfl
 | e::l,r=>by
  rw [GE.tL,GE.tL,F4 l r,de e (GE.tL l []++r),de e (GE.tL l [])]
  simp
end
def GE.len (e:GE):Nat:=(e.tx []).length
theorem iB (e:GE) (r:List UInt8):(e.tx r).length=e.len+r.length:=by rw [de,List.length_append]; rfl
def jU:List GE→Nat
 | []=>0
 | e::l=>2+e.len+jU l
theorem Rt:∀(l:List GE) (r:List UInt8),(GE.tL l r).length=jU l+r.length
 | [],r=>by rw [GE.tL,jU]; omega
 | e::l,r=>by rw [GE.tL,jU,List.length_cons,List.length_cons,iB,Rt l r]; omega
structure Gd (e:GE) (d:Nat):Prop where
 ok:e.ok
 fb:e.fb
 iq:e.iq
 dep:e.dep≤2*d
 wt:256*e.nd.cI≤125*e.len+131*(d+1)
theorem Gd.up {e:GE} {d:Nat} (h:Gd e d):Gd e (d+1):=⟨h.ok,h.fb,h.iq,by have:=h.dep; omega,by have:=h.wt; omega⟩
structure jA (s:Nm):Prop where
 var:∀t,∀x∈s.of t,hZ x∧2≤x.length
 fn:∀f∈s.funcs,hZ f.name∧2≤f.name.length∧f.params.length≤2
theorem kW {n:Nat} (h:n<10):Lib.itoa (n:Int)=[UInt8.ofNat (48+n)]:=by
 rw [Lib.itoa,if_neg (by omega),Int.toNat_natCast,Lib.decDigits_one h]
theorem lZ:∀w∈([[48],[49],[50],[51],[55],[57,50,50,51,51,55,50,48,51,54,56,53,52,55,55,53,56,48,55]]:List (List UInt8)),Dk w∧Lib.itoa ((fG w:Nat):Int)=w:=by
 intro w hw
 simp only [List.mem_cons,List.not_mem_nil,or_false] at hw
 rcases hw with rfl | rfl | rfl | rfl | rfl | rfl
 ·exact ⟨⟨by decide,by decide,by kernel_rfl⟩,kW (n:=0) (by decide)⟩
 ·exact ⟨⟨by decide,by decide,by kernel_rfl⟩,kW (n:=1) (by decide)⟩
 ·exact ⟨⟨by decide,by decide,by kernel_rfl⟩,kW (n:=2) (by decide)⟩
 ·exact ⟨⟨by decide,by decide,by kernel_rfl⟩,kW (n:=3) (by decide)⟩
 ·exact ⟨⟨by decide,by decide,by kernel_rfl⟩,kW (n:=7) (by decide)⟩
 ·refine ⟨⟨by decide,by decide,by kernel_rfl⟩,?_⟩
  have:fG [57,50,50,51,51,55,50,48,51,54,56,53,52,55,55,53,56,48,55]=9223372036854775807:=by kernel_rfl
  rw [this]
  simp [Lib.itoa,Lib.decDigits]
theorem ou (A B:List UInt8) (h:(decide (A≠[]) && decide (B≠[]) && A.all (fun y=>isDigit (y.toNat:Int)) && B.all (fun y=>isDigit (y.toNat:Int)) && decide (A.length+B.length≤15))=true):Hi (A++46::B):=by
 simp only [Bool.and_eq_true,decide_eq_true_eq,List.all_eq_true] at h
 exact ⟨A,B,rfl,h.1.1.1.1,h.1.1.1.2,h.1.1.2,h.1.2,h.2⟩
theorem rR (s:List UInt8) (h:(decide (fG ((Lib.cut s [46]).1++(Lib.cut s [46]).2.1)<9007199254740992) && decide (10 ^ (Lib.cut s [46]).2.1.length<9007199254740992))=true):0≤l9 s:=by
 simp only [Bool.and_eq_true,decide_eq_true_eq] at h
 unfold l9
 have:=(Od h.1 h.2 (Nat.pow_pos (by decide))).2
 rw [BO (by omega)]
 omega
theorem vG:∀w∈([[48,46,48],[49,46,48],[48,46,53],[50,46,50,53],[49,48,48,48,48,48,48,46,48],[48,46,49]]:List (List UInt8)),Hi w∧nO w=w∧0≤l9 (nO w):=by
 intro w hw
 simp only [List.mem_cons,List.not_mem_nil,or_false] at hw
 rcases hw with rfl | rfl | rfl | rfl | rfl | rfl
 ·exact ⟨ou [48] [48] rfl,by kernel_rfl,rR _ (by kernel_rfl)⟩
 ·exact ⟨ou [49] [48] rfl,by kernel_rfl,rR _ (by kernel_rfl)⟩
 ·exact ⟨ou [48] [53] rfl,by kernel_rfl,rR _ (by kernel_rfl)⟩
 ·exact ⟨ou [50] [50,53] rfl,by kernel_rfl,rR _ (by kernel_rfl)⟩
 ·exact ⟨ou [49,48,48,48,48,48,48] [48] rfl,by kernel_rfl,rR _ (by kernel_rfl)⟩
 ·exact ⟨ou [48] [49] rfl,by kernel_rfl,rR _ (by kernel_rfl)⟩
theorem AB (t:Int):0<(lits t).length:=by
 unfold lits
 split
 ·decide
 ·split<;>decide
theorem ZO (t:Int):∀e∈lits t,Gd e 0∧e.lit∧e.pos∧1≤e.len∧e.nd.cI=1:=by
 have hI:∀w,Dk w→Lib.itoa ((fG w:Nat):Int)=w→Gd (.int w) 0∧(GE.int w).lit∧(GE.int w).pos∧1≤(GE.int w).len∧(GE.int w).nd.cI=1:=fun w h1 h2=>by
  have hl:1≤(GE.int w).len:=by
   rw [GE.len,GE.tx,List.append_nil]
   have:=List.length_pos_iff.2 h1.1
   omega
  have hc:(GE.int w).nd.cI=1:=by rw [GE.nd,bd,bf]
  exact ⟨⟨by rw [GE.ok]; trivial,by rw [GE.fb]; exact h1,by rw [GE.iq]; exact h2,by rw [GE.dep]; omega,by rw [hc]; omega⟩,trivial,trivial,hl,hc⟩
 have hF:∀w,Hi w→nO w=w→0≤l9 (nO w)→Gd (.tc w) 0∧(GE.tc w).lit∧(GE.tc w).pos∧1≤(GE.tc w).len∧(GE.tc w).nd.cI=1:=fun w h1 h2 h3=>by
  have hl:1≤(GE.tc w).len:=by
   obtain ⟨A,B,rfl,_⟩:=h1
   rw [GE.len,GE.tx,List.append_nil]
   simp
   omega
  have hc:(GE.tc w).nd.cI=1:=by rw [GE.nd,lv,bd,bf]
  exact ⟨⟨by rw [GE.ok]; trivial,by rw [GE.fb]; exact h1,by rw [GE.iq]; exact h2,by rw [GE.dep]; omega,by rw [hc]; omega⟩,trivial,h3,hl,hc⟩
 have hB:∀b,Gd (.bool b) 0∧(GE.bool b).lit∧(GE.bool b).pos∧1≤(GE.bool b).len∧(GE.bool b).nd.cI=1:=fun b=>by
  have hl:1≤(GE.bool b).len:=by rw [GE.len,GE.tx]; cases b<;>decide
  have hc:(GE.bool b).nd.cI=1:=by rw [GE.nd,bd,bf]
  exact ⟨⟨by rw [GE.ok]; trivial,by rw [GE.fb]; trivial,by rw [GE.iq]; trivial,by rw [GE.dep]; omega,by rw [hc]; omega⟩,trivial,trivial,hl,hc⟩
 intro e he
 unfold lits at he
 split at he
 ·simp only [List.mem_cons,List.not_mem_nil,or_false] at he
  rcases he with rfl | rfl | rfl | rfl | rfl | rfl
  all_goals exact hI _ (lZ _ (by simp)).1 (lZ _ (by simp)).2
 ·split at he
  ·simp only [List.mem_cons,List.not_mem_nil,or_false] at he
   rcases he with rfl | rfl | rfl | rfl | rfl | rfl
   all_goals exact hF _ (vG _ (by simp)).1 (vG _ (by simp)).2.1 (vG _ (by simp)).2.2
  ·simp only [List.mem_cons,List.not_mem_nil,or_false] at he
   rcases he with rfl | rfl
   all_goals exact hB _
theorem kU {α:Type} {l:List α} {i:Nat} {x:α} (h:i<l.length):l.getD i x∈l:=by
 rw [List.getD_eq_getElem?_getD,List.getElem?_eq_getElem h]
 exact List.getElem_mem h
theorem qO (L:List Int) {n:Nat} (hn:0<n) (a:Nat):(bD L n a).1.toNat<n:=by
 have:=bY L (show (0:Int)<n by omega) a
 omega
theorem yX (L:List Int) (t:Int) (a:Nat):Gd (nQ L t a).1 0∧(nQ L t a).1.lit∧(nQ L t a).1.pos∧1≤(nQ L t a).1.len∧(nQ L t a).1.nd.cI=1:=ZO t _ (kU (qO L (AB t) a))
theorem fk (L:List Int) {l:List (List UInt8)} (h:l≠[]) (a:Nat):(fA L l a).1∈l:=kU (qO L (List.length_pos_iff.2 h) a)
theorem Gu {g:Int→Nat→GE×Nat} {d:Nat} (hg:∀t a,Gd (g t a).1 d):∀(l:List Int) (a:Nat),(iD g l a).1.length=l.length∧∀e∈(iD g l a).1,Gd e d
 | [],a=>⟨rfl,fun e h=>by cases h⟩
 | t::r,a=>by
  obtain ⟨h1,h2⟩:=Gu hg r (g t a).2
  refine ⟨by simp only [iD,List.length_cons,h1],fun e he=>?_⟩
  simp only [iD,List.mem_cons] at he
  rcases he with rfl | he
  ·exact hg t a
  ·exact h2 e he
theorem Ma:∀{l:List GE} {d:Nat},(∀e∈l,Gd e d)→GE.qf l∧GE.iL l∧GE.jO l∧GE.ix l≤2*d
 | [],d,h=>⟨by rw [GE.qf]; trivial,by rw [GE.iL]; trivial,by rw [GE.jO]; trivial,by rw [GE.ix]; omega⟩
 | e::l,d,h=>by
  obtain ⟨a,b,c,q⟩:=Ma (l:=l) (d:=d) fun x hx=>h x (by simp [hx])
  have he:=h e (by simp)
  refine ⟨by rw [GE.qf]; exact ⟨he.ok,a⟩,by rw [GE.iL]; exact ⟨he.fb,b⟩,by rw [GE.jO]; exact ⟨he.iq,c⟩,?_⟩
  rw [GE.ix]
  have:=he.dep
  omega
theorem EO:∀{l:List GE} {d:Nat},(∀e∈l,Gd e d)→256*Nd.eA (GE.gB l)+250*l.length≤125*jU l+131*(d+1)*l.length
 | [],d,h=>by rw [GE.gB,bf]; simp
 | e::l,d,h=>by
  have:=EO (l:=l) (d:=d) fun x hx=>h x (by simp [hx])
  have he:=(h e (by simp)).wt
  have e2:131*(d+1)*(l.length+1)=131*(d+1)*l.length+131*(d+1):=Nat.mul_succ _ _
  rw [GE.gB,aD,jU,List.length_cons]
  omega
theorem F3 (l:List GE) (r:List UInt8):(GE.eG l r).length+(if l=[] then 0 else 2)=jU l+r.length:=by
 cases l with
 | nil=>rw [GE.eG,jU]; simp
 | cons e l=>rw [GE.eG,jU,iB,Rt]; simp; omega
def KQ (d:Nat) (c:List UInt8×List GE):Prop:=hZ c.1∧2≤c.1.length∧c.2.length≤2∧∀e∈c.2,Gd e d
theorem GQ {L:List Int} {s:Nm} (hs:jA s) {g:Int→Nat→GE×Nat} {d:Nat} (hg:∀t a,Gd (g t a).1 d) (t:Int) (a:Nat) (c:List UInt8×List GE) (b:Nat) (h:jB L s g t a=(some c,b)):KQ d c:=by
 unfold jB at h
 split at h
 ·cases h
 ·rename_i f r hf
  simp only [Prod.mk.injEq,Option.some.injEq] at h
  obtain ⟨rfl,_⟩:=h
  have hm:(f::r).getD (bD L ((f::r).length:Nat) a).1.toNat f∈s.funcs:=by
   have:=kU (x:=f) (qO L (n:=(f::r).length) (by simp) a)
   rw [←hf] at this ⊢
   exact (List.mem_filter.1 this).1
  obtain ⟨h1,h2,h3⟩:=hs.fn _ hm
  obtain ⟨e1,e2⟩:=Gu hg ((f::r).getD (bD L ((f::r).length:Nat) a).1.toNat f).params (bD L ((f::r).length:Nat) a).2
  exact ⟨h1,h2,by rw [e1]; exact h3,e2⟩
theorem Zb {d:Nat} (hd:d≤2) {c:List UInt8×List GE} (h:KQ d c):Gd (.call c.1 c.2) (d+1):=by
 obtain ⟨x,l⟩:=c
 obtain ⟨h1,h2,h3,h4⟩:=h
 simp only at h1 h2 h3 h4
 obtain ⟨a,b,q,e⟩:=Ma h4
 refine ⟨by rw [GE.ok]; exact ⟨by show l.length≤6; omega,a⟩,by rw [GE.fb]; exact ⟨h1,b⟩,by rw [GE.iq]; exact q,by show (GE.call x l).dep≤_; rw [GE.dep]; omega,?_⟩
 show 256*(GE.call x l).nd.cI≤125*(GE.call x l).len+_
 have hw:=EO h4
 have hl:(GE.call x l).len=x.length+1+(GE.eG l [41]).length:=by
  rw [GE.len,GE.tx,List.length_append,List.length_cons]; omega
 have ht:=F3 l [41]
 rw [hl,GE.nd,bd]
 simp only [List.length_singleton] at ht
 match l,h3 with
 | [],_=>simp only [GE.gB,bf,jU,if_pos] at*; omega
 | [e1],_=>simp only [List.length_singleton,Nat.mul_one,reduceCtorEq,if_false] at*; omega
 | [e1,e2],_=>simp only [List.length_cons,List.length_nil,reduceCtorEq,if_false] at*; omega
theorem Yo {d:Nat} {s:List UInt8} (hs:s=[45]∨s=[33]) {e:GE} (h:Gd e d):Gd (.un s e) (d+1):=by
 refine ⟨by rw [GE.ok]; exact ⟨hs,h.ok⟩,by rw [GE.fb]; exact ⟨hs,h.fb⟩,by rw [GE.iq]; exact h.iq,by rw [GE.dep]; have:=h.dep; omega,?_⟩
 have hl:(GE.un s e).len=1+e.len:=by
  rw [GE.len,GE.tx,List.length_append]
  rcases hs with rfl | rfl<;>rfl
 have:=h.wt
 rw [hl,GE.nd,bd,aD,bf]
 omega
theorem M8 {d:Nat} {t:Int} (ht:t=1∨t=2) {e:GE} (h:Gd e d):Gd (.conv t e) (d+1):=by
 refine ⟨by rw [GE.ok]; exact ⟨ht,h.ok⟩,by rw [GE.fb]; exact h.fb,by rw [GE.iq]; exact ⟨ht,h.iq⟩,by rw [GE.dep]; have:=h.dep; omega,?_⟩
 have hl:5+e.len≤(GE.conv t e).len:=by
  show 5+e.len≤((GE.conv t e).tx []).length
  rw [GE.tx,List.length_append,List.length_cons,iB]
  rcases ht with rfl | rfl
  ·rw [if_pos rfl]; simp [pS]; omega
  ·rw [if_neg (by decide)]; simp [ib]; omega
 have:=h.wt
 rw [GE.nd,bd,aD,bf]
 omega
def pz:List (List UInt8):=[[43],[45],[42],[47],[37],[60],[60,61],[62],[62,61],[61,61],[33,61],[38,38],[124,124]]
theorem Mb:∀s∈pz,0<gZ s∧(s==[40])=false∧s∈Z3∧1≤s.length:=by decide
theorem adq {d:Nat} (hd:d≤2) {s:List UInt8} (hs:s∈pz) {a b:GE} (h:Gd a d) (h':Gd b d):Gd (.bin s a b) (d+1):=by
 obtain ⟨o1,o2,o3,o4⟩:=Mb s hs
 refine ⟨by rw [GE.ok]; exact ⟨o1,o2,h.ok,h'.ok⟩,by rw [GE.fb]; exact ⟨o3,h.fb,h'.fb⟩,by rw [GE.iq]; exact ⟨h.iq,h'.iq⟩,by rw [GE.dep]; have:=h.dep; have:=h'.dep; omega,?_⟩
 have hl:(GE.bin s a b).len=4+s.length+a.len+b.len:=by
  rw [GE.len,GE.tx,List.length_cons,iB,List.length_cons,List.length_append,List.length_cons,iB]
  simp only [List.length_cons,List.length_nil]
  omega
 have:=h.wt
 have:=h'.wt
 rw [hl,GE.nd,bd,aD,aD,bf]
 omega
theorem af6 {d:Nat} {x:List UInt8} (h:hZ x) (h2:2≤x.length):Gd (.var x) d:=by
 have hl:(GE.var x).len=x.length:=by rw [GE.len,GE.tx,List.append_nil]
 exact ⟨by rw [GE.ok]; trivial,by rw [GE.fb]; exact h,by rw [GE.iq]; trivial,by rw [GE.dep]; omega,by rw [hl,GE.nd,bd,bf]; omega⟩
theorem Gd.le {e:GE} {d d':Nat} (h:Gd e d) (hd:d≤d'):Gd e d':=⟨h.ok,h.fb,h.iq,by have:=h.dep; omega,by have:=h.wt; omega⟩
theorem yH {L:List Int} {g:Int→Nat→GE×Nat} {d:Nat} (hd:d≤2) (hg:∀t a,Gd (g t a).1 d) (u:Int) {ops:List (List UInt8)} (h0:ops≠[]) (ho:∀s∈ops,s∈pz) (a:Nat):Gd (zA L g u ops a).1 (d+1):=
 adq hd (ho _ (fk L h0 _)) (hg _ _) (hg _ _)
theorem IH {L:List Int} {g:Int→Nat→GE×Nat} {d:Nat} (hd:d≤2) (hg:∀t a,Gd (g t a).1 d) (t k:Int) (a:Nat):Gd (q_ L g t k a).1 (d+1):=by
 unfold q_
 split
 ·split
  ·exact M8 (.inl rfl) (hg _ _)
  ·split
   ·exact Yo (.inl rfl) (hg _ _)
   ·exact yH hd hg _ (by decide) (by decide) _
 ·split
  ·split
   ·exact M8 (.inr rfl) (hg _ _)
   ·split
    ·exact Yo (.inl rfl) (hg _ _)
    ·exact yH hd hg _ (by decide) (by decide) _
  ·split
   ·exact Yo (.inr rfl) (hg _ _)
   ·split
    ·exact yH hd hg _ (by decide) (by decide) _
    ·exact yH hd hg _ (by decide) (by decide) _
theorem qF {L:List Int} {s:Nm} (hs:jA s):∀(d:Nat),d≤3→∀(t:Int) (a:Nat),Gd (b_ L s d t a).1 d
 | 0,hd,t,a=>by rw [b_]; exact (yX L t _).1
 | d+1,hd,t,a=>by
  have hg:=fun t a=>qF (L:=L) hs d (by omega) t a
  rw [b_]
  split
  ·exact (yX L t _).1.le (by omega)
  ·split
   ·rename_i h
    have:=hs.var t _ (fk L h.2 (bD L 8 a).2)
    exact af6 this.1 this.2
   ·split
    ·split
     ·rename_i c b hc
      exact Zb (by omega) (GQ hs hg t _ _ _ hc)
     ·exact IH (by omega) hg _ _ _
    ·exact IH (by omega) hg _ _ _
end
end Go.Proofs.YtpklkpkfgmoghaaGreatDoor.Zz
