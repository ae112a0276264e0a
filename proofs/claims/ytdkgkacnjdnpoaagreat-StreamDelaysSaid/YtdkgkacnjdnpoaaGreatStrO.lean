/-
  What is done, in memory; the contracts of stream.find and stream.value. The contract of stream.find at a name that an equation defines. The contract of stream.of: the value of a term.
-/
import Derived.Test.YtdkgkacnjdnpoaaGreatStrX
import Derived.Test.YtdkgkacnjdnpoaaGreatTyP
import Derived.Test.YtdkgkacnjdnpoaaGreatStzW
import Derived.Deep.RegionHeld3
set_option maxHeartbeats 1000000
set_option maxRecDepth 100000
namespace Go.Proofs.YtdkgkacnjdnpoaaGreat
open Go.RowKit
attribute [local go_sem ↓] Go.wp_at_zero Go.wp_at_succ
abbrev dnA (n:Nd) (a:NdA) (Ae:Option Addr) (m ce K:Nat):Array Value:= #[.string n.name,.slice a.ai n.ins.length a.ci,.slice a.ao n.outs.length a.co,.slice a.av n.vars.length a.cv,.slice a.aq n.eqs.length a.cq,.int .i64 n.line,.int .i64 n.col,.pointer none,.pointer none,.slice Ae m ce,.map (some K)]
structure StQ where
 n:Nd
 a:NdA
 T:List Tm
 row:List Int
 F:ByteArray→Int
 B:Nat
 lo:Nat
 hi:Nat
 R:Nat
 D:Nat
 K:Nat
 As:Value
 Ar:Option Addr
 cr:Nat
 Ae:Option Addr
 ce:Nat
structure StAt (Q:StQ) (σ:Past) (w:World) (L:List ByteArray):Prop where
 rr:Row w Q.R #[Q.As,.slice Q.Ar Q.row.length Q.cr] 73
 ri:Sl w Q.B 1 isInt Q.Ar Q.row
 rd:Row w Q.D (dnA Q.n Q.a Q.Ae Q.T.length Q.ce Q.K) 117
 nd:NdAt w Q.B Q.n Q.a
 ep:Sl w Q.B 1 isPtr Q.Ae (Q.T.map Tm.b)
 tm:∀t∈Q.T,TmAt σ w Q.lo Q.hi t
 kn:MapI Q.F w Q.K L
 sub:∀x∈L,x∈nms (vrs Q.n)
structure StK (Q:StQ):Prop where
 hR:Q.R≠Q.K
 hD:Q.D≠Q.K
 hB:Q.B≤Q.K
 hi:Q.hi≤Q.K
 hrc:Q.row.length≤Q.cr
 hrm:Q.cr≤maxLen
 hec:Q.T.length≤Q.ce
 hem:Q.ce≤maxLen
 sm:NdSm Q.n
 wf:∀x,Wf (Q.F x)
section
variable {Q:StQ} {σ:Past} {w w':World} {L L':List ByteArray}
theorem StAt.lt (h:StAt Q σ w L):Q.R<w.heap.size∧Q.D<w.heap.size∧Q.K<w.heap.size:=⟨h.rr.lt,h.rd.lt,h.kn.lt⟩
theorem StAt.upd (h:StAt Q σ w L) (hk:StK Q) (hu:Upd (fun j=>j=Q.K) w w') (hm:MapI Q.F w' Q.K L') (hs:∀x∈L',x∈nms (vrs Q.n)):StAt Q σ w' L':=by
 have hlt:=h.lt
 have hB:=hk.hB
 have hi:=hk.hi
 have kp:Keeps Q.B w w':=keeps_of (Upd.below hu (fun j e=>by omega) (by omega))
 exact ⟨hu.row h.rr hk.hR,h.ri.keep kp (Nat.le_refl _) (fun _ _ _ h=>h),hu.row h.rd hk.hD,h.nd.keep kp (Nat.le_refl _),h.ep.keep kp (Nat.le_refl _) (fun _ _ _ h=>h),fun t ht=>TmAt.upd hu (fun j e=>by omega) (by omega) (h.tm t ht),hm,hs⟩
theorem StAt.below (h:StAt Q σ w L) (hk:StK Q) (hb:Below w.heap.size w w'):StAt Q σ w' L:=h.upd hk (Upd.of_below hb) (h.kn.below hb h.kn.lt) h.sub
end
def TOfC (Q:StQ) (σ:Past) (t:Tm) (v:Int):Prop:=∀(W:World) (L:List ByteArray),StAt Q σ W L→TmAt σ W Q.lo Q.hi t→
 Calls Tryz.prog 80 #[.pointer (some ⟨Q.R,0,none⟩),.pointer (some ⟨Q.D,0,none⟩),.pointer (some ⟨t.b,0,none⟩)] W fun r W'=>r= .returned (.int .i64 v)∧(∃L',StAt Q σ W' L')∧Upd (fun j=>j=Q.K) W W'
def ValC (Q:StQ) (σ:Past) (f:FuncId) (nm:ByteArray) (v:Int):Prop:=∀(W:World) (L:List ByteArray),StAt Q σ W L→
 Calls Tryz.prog f #[.pointer (some ⟨Q.R,0,none⟩),.pointer (some ⟨Q.D,0,none⟩),.string nm] W fun r W'=>r= .returned (.int .i64 v)∧(∃L',StAt Q σ W' L')∧Upd (fun j=>j=Q.K) W W'
theorem find_inp {Q:StQ} {σ:Past} (hk:StK Q) {nm:ByteArray} {i:Nat} {v:Int} (hi:idxOf (nms Q.n.ins) nm=i) (hv:Q.row[i]? =some v):ValC Q σ 77 nm v:=by
 intro W L h
 have b1:Below W.heap.size W (W.alloc (.cells #[.string nm] 9)):=bE
 have rN:=Row.new W #[.string nm] 9
 have h1:=h.below hk b1
 have HK:=Lib.hid hk
 have HX:=Lib.hid (inIdx_any Q.n.ins Q.a.ai Q.a.ci W.heap.size nm _ h1.nd.li h1.nd.mi (vrs_keep h1.nd.si (fun _ _ _ h=>h) (by have:=h.lt;have:=hk.hB;simp;omega)) ((rN.cell 0).trans rfl) rN.lt)
 rw[hi] at HX
 have c1:(W.alloc (.cells #[.string nm] 9)).cell? ⟨Q.D,1,none⟩=some (.slice Q.a.ai Q.n.ins.length Q.a.ci):=(h1.rd.cell 1).trans rfl
 have hDl:=h.lt.2.1
 go_enter Tryz.func77,Tryz.ntmps77
 go_wp2_with fail
 refine HX.out.mono ?_
 rintro r w2 ⟨rfl,hb2⟩
 have h2:=h1.below HK.out hb2
 have hil:=(List.getElem?_eq_some_iff.1 hv).1
 obtain ⟨b,off,x,hA,hb,hx,wx,d⟩:=h2.ri.int hil
 rw[hv] at hx
 cases hx
 have c7:w2.cell? ⟨Q.D,7,none⟩=some (.pointer none):=(h2.rd.cell 7).trans rfl
 have r1:w2.cell? ⟨Q.R,1,none⟩=some (.slice (some ⟨b,off,none⟩) Q.row.length Q.cr):=by rw[←hA];exact (h2.rr.cell 1).trans rfl
 have i0:(0:Int)≤(i:Int):=by omega
 have i1:(i:Int)<(Q.row.length:Int):=by omega
 have hrm:=HK.out.hrm
 have hrm':Q.cr≤9223372036854775807:=by unfold maxLen at hrm;omega
 have hrc:=HK.out.hrc
 have HU:Hid (Upd (fun j=>j=Q.K) W w2):=Upd.of_below (b1.trans (hb2.mono b1.size))
 have H2:=Lib.hid h2
 clear h h1 h2 b1 rN hb2 HX hrm
 go_wp2_with fail
 go_ret
 exact ⟨rfl,⟨L,H2.out⟩,HU.out⟩
theorem StAt.len {Q:StQ} {σ:Past} {w:World} {L:List ByteArray} (h:StAt Q σ w L) (hk:StK Q):L.length<1000000:=by
 have h1:=nodup_len h.kn.1 h.sub
 have h2:=hk.sm.len
 rw[List.length_map] at h1
 omega
theorem value_of {Q:StQ} {σ:Past} (hk:StK Q) {nm:ByteArray} {v:Int} (hs:nm.size≤maxLen) (hm:nm∈nms (vrs Q.n)) (hv:Q.F nm=v) (hf:ValC Q σ 77 nm v):ValC Q σ 46 nm v:=by
 intro W L h
 have HK:=Lib.hid hk
 have lk:=h.kn.lookOk hs
 have c10:W.cell? ⟨Q.D,10,none⟩=some (.map (some Q.K)):=(h.rd.cell 10).trans rfl
 have H:=Lib.hid h
 have HF:=Lib.hid (hf W L h)
 subst hv
 clear h hf hk
 by_cases hn:nm∈L
 ·have lk:=lk.1 hn
  go_enter Tryz.func46,Tryz.ntmps46
  go_wp2_with fail
  go_ret
  exact ⟨rfl,⟨L,H.out⟩,Upd.refl _ _⟩
 have lk:=lk.2 hn
 go_enter Tryz.func46,Tryz.ntmps46
 go_wp2_with fail
 refine HF.out.mono ?_
 rintro r w2 ⟨rfl,⟨L2,h2⟩,hu2⟩
 have d10:w2.cell? ⟨Q.D,10,none⟩=some (.map (some Q.K)):=(h2.rd.cell 10).trans rfl
 obtain ⟨w3,hrun,hm3,hg3⟩:=h2.kn.put hs (h2.len HK.out) (HK.out.wf nm)
 have hu3:=upd_grown hg3
 have h3:=Lib.hid (h2.upd HK.out hu3 hm3 (fun x hx=>(putN_mem.1 hx).elim (h2.sub x) (fun e=>e▸hm)))
 have HU:=Lib.hid (hu2.trans hu3)
 clear h2 hu2 hu3 hm3 hg3 lk c10
 go_wp2_with fail
 go_ret
 exact ⟨rfl,⟨_,h3.out⟩,HU.out⟩
theorem TmAt.row {σ:Past} {w:World} {lo hi:Nat}:∀{t:Tm},TmAt σ w lo hi t→TmRow σ w lo hi t.b t.e (t.parts.map Tm.b)
 | .l _ _,h=>h
 | .o _ _ _,h=>h.1
 | .p _ _ _ _,h=>h.1
theorem def_at {n:Nd} {nm:ByteArray} {i i' k':Nat} {q:Eqn} (hq:n.eqs[i]? =some q) (hl:nm∈q.left) (hj:∀j,j<i→∀r,n.eqs[j]? =some r→nm∉r.left) (h:DefAt n nm i' k'):i'=i:=by
 obtain ⟨q',h1,h2,h3,_⟩:=h
 have hm:nm∈q'.left:=List.mem_of_getElem? h2
 rcases Nat.lt_trichotomy i i' with g|g|g
 ·exact absurd hl (h3 i g q hq)
 ·exact g.symm
 ·exact absurd hm (hj i' g q' h1)
theorem find_eqn {Q:StQ} {σ:Past} (hk:StK Q) {nm:ByteArray} {i:Nat} {q:Eqn} {t:Tm} {v:Int} (hni:nm∉nms Q.n.ins) (hq:Q.n.eqs[i]? =some q) (hl:q.left=[nm]) (hj:∀j,j<i→∀r,Q.n.eqs[j]? =some r→nm∉r.left) (ht:Q.T[i]? =some t) (hof:TOfC Q σ t v):ValC Q σ 77 nm v:=by
 intro W0 L h
 have b1:Below W0.heap.size W0 (W0.alloc (.cells #[.string nm] 9)):=bE
 have rN:=Row.new W0 #[.string nm] 9
 have h1:=h.below hk b1
 have HK:=Lib.hid hk
 have hBW:Q.B≤W0.heap.size:=Nat.le_trans hk.hB (Nat.le_of_lt h.lt.2.2)
 have HX:=Lib.hid (inIdx_any Q.n.ins Q.a.ai Q.a.ci W0.heap.size nm _ h1.nd.li h1.nd.mi (vrs_keep h1.nd.si (fun _ _ _ h=>h) (by simp;omega)) ((rN.cell 0).trans rfl) rN.lt)
 have hx:idxOf (nms Q.n.ins) nm= -1:=by
  rcases idx_cases (nms Q.n.ins) nm with ⟨k,h1,h2,_⟩|⟨h1,_⟩
  ·exact absurd (List.mem_of_getElem? h2) hni
  ·exact h1
 rw[hx] at HX
 have HDF:Hid (∀(W0':World),NdAt W0' W0'.heap.size Q.n Q.a→Calls Tryz.prog 122 #[ndV Q.n Q.a,.string nm] W0' fun r w'=>(∃k':Nat,r= .returned (.tuple #[.int .i64 i,.int .i64 k',.bool true]))∧Below W0'.heap.size W0' w'):=fun W0' hW=>by
  refine (sdefine_any Q.n Q.a nm W0' hW).mono ?_
  rintro r w' ⟨⟨i',k',rfl,hd⟩|⟨rfl,hd⟩,hb⟩
  ·rw[def_at hq (by rw[hl];simp) hj hd.out]
   exact ⟨⟨k',rfl⟩,hb⟩
  ·exact absurd (by rw[hl];simp) (hd.out q (List.mem_of_getElem? hq))
 have c1:(W0.alloc (.cells #[.string nm] 9)).cell? ⟨Q.D,1,none⟩=some (.slice Q.a.ai Q.n.ins.length Q.a.ci):=(h1.rd.cell 1).trans rfl
 have hDl:=h.lt.2.1
 have HOF:=Lib.hid hof
 have HT:=Lib.hid ht
 clear hof ht hq hl hj hni hx
 go_enter Tryz.func77,Tryz.ntmps77
 go_wp2_with fail
 refine HX.out.mono ?_
 rintro r w2 ⟨rfl,hb2⟩
 have h2:=h1.below HK.out hb2
 have rN2:=rN.below hb2 rN.lt
 have hB2:Below W0.heap.size W0 w2:=b1.trans (hb2.mono b1.size)
 have c7:w2.cell? ⟨Q.D,7,none⟩=some (.pointer none):=(h2.rd.cell 7).trans rfl
 have H2:=Lib.hid h2
 have hs2:=hB2.size
 clear h h1 h2 b1 rN hb2 HX c1
 go_upto_region 6 with (fail)
 have HKK:Hid (∀W,Below w2.heap.size w2 W→W.cell? ⟨Q.D,0,none⟩=some (.string Q.n.name)∧W.cell? ⟨Q.D,1,none⟩=some (.slice Q.a.ai Q.n.ins.length Q.a.ci)∧W.cell? ⟨Q.D,2,none⟩=some (.slice Q.a.ao Q.n.outs.length Q.a.co)∧W.cell? ⟨Q.D,3,none⟩=some (.slice Q.a.av Q.n.vars.length Q.a.cv)∧W.cell? ⟨Q.D,4,none⟩=some (.slice Q.a.aq Q.n.eqs.length Q.a.cq)∧W.cell? ⟨Q.D,5,none⟩=some (.int .i64 Q.n.line)∧W.cell? ⟨Q.D,6,none⟩=some (.int .i64 Q.n.col)∧W.cell? ⟨W0.heap.size,0,none⟩=some (.string nm)):=fun W hW=>by
  have g:=(H2.out.below HK.out hW).rd
  exact ⟨(g.cell 0).trans rfl,(g.cell 1).trans rfl,(g.cell 2).trans rfl,(g.cell 3).trans rfl,(g.cell 4).trans rfl,(g.cell 5).trans rfl,(g.cell 6).trans rfl,((rN2.below hW rN2.lt).cell 0).trans rfl⟩
 have HDD:Hid (∀W,Below w2.heap.size w2 W→Calls Tryz.prog 122 #[ndV Q.n Q.a,.string nm] W fun r w'=>(∃k':Nat,r= .returned (.tuple #[.int .i64 i,.int .i64 k',.bool true]))∧Below W.heap.size W w'):=fun W hW=>HDF.out W ((H2.out.below HK.out hW).nd.more (Nat.le_trans hBW (Nat.le_trans hs2 hW.size)))
 go_cut[7] (fun v7 W=>v7= .int .i64 i∧Below w2.heap.size w2 W)
 case first=>
  refine wp_region_held_drew (S:=fun W=>W.cell? ⟨Q.D,0,none⟩=some (.string Q.n.name)∧W.cell? ⟨Q.D,1,none⟩=some (.slice Q.a.ai Q.n.ins.length Q.a.ci)∧W.cell? ⟨Q.D,2,none⟩=some (.slice Q.a.ao Q.n.outs.length Q.a.co)∧W.cell? ⟨Q.D,3,none⟩=some (.slice Q.a.av Q.n.vars.length Q.a.cv)∧W.cell? ⟨Q.D,4,none⟩=some (.slice Q.a.aq Q.n.eqs.length Q.a.cq)∧W.cell? ⟨Q.D,5,none⟩=some (.int .i64 Q.n.line)∧W.cell? ⟨Q.D,6,none⟩=some (.int .i64 Q.n.col)∧W.cell? ⟨W0.heap.size,0,none⟩=some (.string nm)) (by kernel_rfl) ?_ (fun hHeld=>?_)
  ·(try dsimp only);(first|(with_reducible exact HKK.out _ bE)|exact hHeld|assumption|trivial)
  refine tk 0 (some 55) rfl ?_
  refine tk 1 (some 56) rfl ?_
  refine tk 2 (some 57) rfl ?_
  refine tk 3 (some 58) rfl ?_
  refine tk 4 (some 59) rfl ?_
  refine rd1 5 (some 60) rfl (fun KK hKK=>?_)
  go_simp
  (go_at_call 122;refine Calls.mono (HDD.out _ bE) ?_;rintro e w4 ⟨⟨k',rfl⟩,hb4⟩;(have hb5:Below w2.heap.size w2 w4:=Below.trans bE (hb4.mono lE));(have hs5:=hb5.size))
  (try go_wp2_with fail)
  refine hKK.out _ _ ?_ (fun hHeld=>?_)
  ·(try dsimp only);(first|(with_reducible exact HKK.out _ bE)|exact hHeld|assumption|trivial)
  clear hKK KK
  try simp only[Act.put,List.setIfInBounds_toArray,List.set_cons_zero,List.set_cons_succ]
  refine tk 6 (some 54) rfl ?_
  refine tk 7 (some 61) rfl ?_
  refine tk 10 (some 7) rfl ?_
  refine tk 8 (some 62) rfl ?_
  refine tk 11 (some 8) rfl ?_
  refine tk 9 (some 63) rfl ?_
  refine tk 12 (some 9) rfl ?_
  refine wpAnyH_done (by kernel_rfl) ?_ _
  go_wp2_with fail
  go_meet
  exact ⟨rfl,by first|exact hb5|exact hb5.drew⟩
 case rest=>
  obtain ⟨rfl,hbc⟩:=hcut
  have hc:=H2.out.below HK.out hbc
  have hil:=(List.getElem?_eq_some_iff.1 HT.out).1
  have hmt:=List.mem_of_getElem? HT.out
  have htm:=hc.tm t hmt
  obtain ⟨b,off,x,cs,hA,hb,hx,hcs,hcc⟩:=hc.ep.at_ (k:=i) (by rw[List.length_map];exact hil)
  rw[List.getElem?_map,HT.out] at hx
  cases hx
  have hcs':cs=[.pointer (some ⟨t.b,0,none⟩)]:=hcs
  subst hcs'
  have p0:wc.cell? ⟨b,off+i,none⟩=some (.pointer (some ⟨t.b,0,none⟩)):=by simpa using hcc 0 _ rfl
  have c9:wc.cell? ⟨Q.D,9,none⟩=some (.slice (some ⟨b,off,none⟩) Q.T.length Q.ce):=by rw[←hA];exact (hc.rd.cell 9).trans rfl
  obtain ⟨_,A',cap',pa,kc,rt,_⟩:=htm.row
  have k8:wc.cell? ⟨t.b,8,none⟩=some (.pointer none):=(rt.cell 8).trans rfl
  have i0:(0:Int)≤(i:Int):=by omega
  have i1:(i:Int)<(Q.T.length:Int):=by omega
  have hem:=HK.out.hem
  have hem':Q.ce≤9223372036854775807:=by unfold maxLen at hem;omega
  have hec:=HK.out.hec
  have HO:=Lib.hid (HOF.out wc L hc htm)
  have HU:=Lib.hid (Upd.of_below (X:=fun j=>j=Q.K) (hB2.trans (hbc.mono hs2)))
  clear hc htm rt hA hb hcs hcc hem H2 HKK HDD HDF rN2 hB2 hbc c7 hmt
  go_wp2_with fail
  refine HO.out.mono ?_
  rintro r w5 ⟨rfl,hst,hu5⟩
  have HS5:=Lib.hid hst
  have HU5:=Lib.hid (HU.out.trans hu5)
  clear hst hu5
  go_wp2_with fail
  go_ret
  exact ⟨rfl,HS5.out,HU5.out⟩
variable {Q:StQ} {σ:Past}
theorem of_num {b:Nat} {e:Ex} (ho:e.op=1):TOfC Q σ (.l b e) e.n:=by
 intro W L h ht
 obtain ⟨_,A',cap',pa,kc,rt,_⟩:=ht.row
 have k0:W.cell? ⟨b,0,none⟩=some (.int .i64 1):=by rw[←ho];exact (rt.cell 0).trans rfl
 have k2:W.cell? ⟨b,2,none⟩=some (.int .i64 e.n):=(rt.cell 2).trans rfl
 have H:=Lib.hid h
 show Calls _ _ #[_,_,.pointer (some ⟨b,0,none⟩)] _ _
 clear h ht rt ho
 go_enter Tryz.func80,Tryz.ntmps80
 go_wp2_with fail
 go_ret
 exact ⟨rfl,⟨L,H.out⟩,Upd.refl _ _⟩
theorem of_pre {b:Nat} {e:Ex} {x:Tm} (ho:e.op=21):TOfC Q σ (.o b e x) (σ b).2:=by
 intro W L h ht
 obtain ⟨_,A',cap',pa,kc,rt,_⟩:=ht.row
 have k0:W.cell? ⟨b,0,none⟩=some (.int .i64 21):=by rw[←ho];exact (rt.cell 0).trans rfl
 have k10:W.cell? ⟨b,10,none⟩=some (.int .i64 (σ b).2):=(rt.cell 10).trans rfl
 have H:=Lib.hid h
 show Calls _ _ #[_,_,.pointer (some ⟨b,0,none⟩)] _ _
 clear h ht rt ho
 go_enter Tryz.func80,Tryz.ntmps80
 go_wp2_with fail
 go_ret
 exact ⟨rfl,⟨L,H.out⟩,Upd.refl _ _⟩
theorem of_var {b:Nat} {e:Ex} {v:Int} (ho:e.op=3) (hv:ValC Q σ 46 e.name v):TOfC Q σ (.l b e) v:=by
 intro W L h ht
 obtain ⟨_,A',cap',pa,kc,rt,_⟩:=ht.row
 have k0:W.cell? ⟨b,0,none⟩=some (.int .i64 3):=by rw[←ho];exact (rt.cell 0).trans rfl
 have k1:W.cell? ⟨b,1,none⟩=some (.string e.name):=(rt.cell 1).trans rfl
 have HV:=Lib.hid (hv W L h)
 show Calls _ _ #[_,_,.pointer (some ⟨b,0,none⟩)] _ _
 clear h ht rt ho hv
 go_enter Tryz.func80,Tryz.ntmps80
 go_wp2_with fail
 refine HV.out.mono ?_
 rintro r w2 ⟨rfl,h2,hu2⟩
 have H2:=Lib.hid h2
 have HU:=Lib.hid hu2
 clear h2 hu2
 go_wp2_with fail
 go_ret
 exact ⟨rfl,H2.out,HU.out⟩
theorem of_fby1 {b:Nat} {e:Ex} {x y:Tm} (ho:e.op=22) (hs:(σ b).1=true):TOfC Q σ (.p b e x y) (σ b).2:=by
 intro W L h ht
 obtain ⟨_,A',cap',pa,kc,rt,_⟩:=ht.row
 have k0:W.cell? ⟨b,0,none⟩=some (.int .i64 22):=by rw[←ho];exact (rt.cell 0).trans rfl
 have k9:W.cell? ⟨b,9,none⟩=some (.bool true):=by rw[←hs];exact (rt.cell 9).trans rfl
 have k10:W.cell? ⟨b,10,none⟩=some (.int .i64 (σ b).2):=(rt.cell 10).trans rfl
 have H:=Lib.hid h
 show Calls _ _ #[_,_,.pointer (some ⟨b,0,none⟩)] _ _
 clear h ht rt ho hs
 go_enter Tryz.func80,Tryz.ntmps80
 go_wp2_with fail
 go_ret
 exact ⟨rfl,⟨L,H.out⟩,Upd.refl _ _⟩
theorem of_fby0 {b:Nat} {e:Ex} {x y:Tm} {v:Int} (ho:e.op=22) (hs:(σ b).1=false) (hx:TOfC Q σ x v):TOfC Q σ (.p b e x y) v:=by
 intro W L h ht
 obtain ⟨_,A',cap',pa,kc,rt,hp⟩:=ht.row
 obtain ⟨Ap,cp,rfl,hl,hm,sp⟩:=hp
 obtain ⟨g,off,z,cs,rfl,hb,hz,hcs,hcc⟩:=sp.at_ (k:=0) (by show 0<2;omega)
 cases hz
 have hcs':cs=[.pointer (some ⟨x.b,0,none⟩)]:=hcs
 subst hcs'
 have p0:W.cell? ⟨g,off,none⟩=some (.pointer (some ⟨x.b,0,none⟩)):=by
  have:=hide_cell (hcc 0 _ rfl)
  simpa using this
 have k0:W.cell? ⟨b,0,none⟩=some (.int .i64 22):=by rw[←ho];exact (rt.cell 0).trans rfl
 have k9:W.cell? ⟨b,9,none⟩=some (.bool false):=by rw[←hs];exact (rt.cell 9).trans rfl
 have k7:W.cell? ⟨b,7,none⟩=some (.slice (some ⟨g,off,none⟩) 2 cp):=(rt.cell 7).trans rfl
 have HV:=Lib.hid (hx W L h ht.2.1)
 show Calls _ _ #[_,_,.pointer (some ⟨b,0,none⟩)] _ _
 clear h ht rt ho hs hx sp hcc hcs hb
 go_enter Tryz.func80,Tryz.ntmps80
 go_wp2_with fail
 refine HV.out.mono ?_
 rintro r w2 ⟨rfl,h2,hu2⟩
 have H2:=Lib.hid h2
 have HU:=Lib.hid hu2
 clear h2 hu2
 go_wp2_with fail
 go_ret
 exact ⟨rfl,H2.out,HU.out⟩
theorem sflag_any (v:Bool) (w:World):Calls Tryz.prog 123 #[.bool v] w fun r w'=>r= .returned (.int .i64 (bif v then 1 else 0))∧w'=w:=by
 cases v
 ·go_enter Tryz.func123,Tryz.ntmps123
  go_wp2_with fail
  go_ret
  exact ⟨rfl,rfl⟩
 ·go_enter Tryz.func123,Tryz.ntmps123
  go_wp2_with fail
  go_ret
  exact ⟨rfl,rfl⟩
theorem of_arr1 (hk:StK Q) {b:Nat} {e:Ex} {x y:Tm} {v:Int} (ho:e.op=23) (hs:(σ b).1=true) (hx:TOfC Q σ y v):TOfC Q σ (.p b e x y) v:=by
 intro W0 L h ht
 obtain ⟨hbb,A',cap',pa,kc,rt,hp⟩:=ht.row
 obtain ⟨Ap,cp,rfl,hl,hm,sp⟩:=hp
 obtain ⟨g,off,z,cs,rfl,hb,hz,hcs,hcc⟩:=sp.at_ (k:=1) (by show 1<2;omega)
 cases hz
 have hcs':cs=[.pointer (some ⟨y.b,0,none⟩)]:=hcs
 subst hcs'
 have p0:W0.cell? ⟨g,off+1,none⟩=some (.pointer (some ⟨y.b,0,none⟩)):=by
  have:=hide_cell (hcc 0 _ rfl)
  simpa using this
 have k0:W0.cell? ⟨b,0,none⟩=some (.int .i64 23):=by rw[←ho];exact (rt.cell 0).trans rfl
 have hcp:2≤cp:=hl
 have k7:W0.cell? ⟨b,7,none⟩=some (.slice (some ⟨g,off,none⟩) 2 cp):=(rt.cell 7).trans rfl
 have k9:W0.cell? ⟨b,9,none⟩=some (.bool true):=by rw[←hs];exact (rt.cell 9).trans rfl
 have hKi:=hk.hi
 have hKl:=h.kn.lt
 have hkp:Hid (∀W,Upd (fun j=>j=Q.K) W0 W→W.cell? ⟨b,7,none⟩=some (.slice (some ⟨g,off,none⟩) 2 cp)∧W.cell? ⟨b,9,none⟩=some (.bool true)∧W.cell? ⟨g,off+1,none⟩=some (.pointer (some ⟨y.b,0,none⟩))):=fun W hu=>by
  have r2:=hu.row rt (by omega)
  refine ⟨(r2.cell 7).trans rfl,by rw[←hs];exact (r2.cell 9).trans rfl,?_⟩
  exact keeps_of (Upd.below hu (B:=Q.hi) (fun j e=>by omega) (by omega)) ⟨g,off+1,none⟩ _ hb p0
 have HV:Hid (∀W,Below W0.heap.size W0 W→Calls Tryz.prog 80 #[.pointer (some ⟨Q.R,0,none⟩),.pointer (some ⟨Q.D,0,none⟩),.pointer (some ⟨y.b,0,none⟩)] W fun r W'=>r= .returned (.int .i64 v)∧(∃L',StAt Q σ W' L')∧Upd (fun j=>j=Q.K) W W'):=fun W hW=>
  hx W L (h.below hk hW) (TmAt.upd (Upd.of_below (X:=fun _=>False) hW) (fun j e=>e.elim) (by omega) ht.2.2)
 show Calls _ _ #[_,_,.pointer (some ⟨b,0,none⟩)] _ _
 clear h ht rt ho hs hx sp hcc hcs hb hbb
 go_enter Tryz.func80,Tryz.ntmps80
 go_upto_region 16 with (fail)
 go_cut[6] (fun v6 W=>v6= .int .i64 v∧(∃L',StAt Q σ W L')∧Upd (fun j=>j=Q.K) W0 W)
 case first=>
  refine wp_region_held_drew (S:=fun W=>W.cell? ⟨b,7,none⟩=some (.slice (some ⟨g,off,none⟩) 2 cp)∧W.cell? ⟨b,9,none⟩=some (.bool true)∧W.cell? ⟨g,off+1,none⟩=some (.pointer (some ⟨y.b,0,none⟩))) (by kernel_rfl) ?_ (fun hHeld=>?_)
  ·(try dsimp only);(first|exact hS2|exact hHeld|(with_reducible exact hkp.out _ (Upd.of_below bE))|assumption|trivial)
  refine tk 0 (some 80) rfl ?_
  refine tk 1 (some 81) rfl ?_
  refine tk 2 (some 82) rfl ?_
  refine tk 3 (some 83) rfl ?_
  refine tk 4 (some 84) rfl ?_
  refine tk 5 (some 85) rfl ?_
  refine tk 6 (some 86) rfl ?_
  refine tk 7 (some 87) rfl ?_
  refine tk 8 (some 88) rfl ?_
  refine tk 9 (some 89) rfl ?_
  refine rd1 10 (some 90) rfl (fun KK hKK=>?_)
  go_simp
  (go_at_call 123;refine Calls.mono (sflag_any _ _) ?_;rintro r w1 ⟨rfl,rfl⟩)
  (try go_wp2_with fail)
  refine hKK.out _ _ ?_ (fun hHeld=>?_)
  ·(try dsimp only);(first|exact hS2|exact hHeld|(with_reducible exact hkp.out _ (Upd.of_below bE))|assumption|trivial)
  clear hKK KK
  try simp only[Act.put,List.setIfInBounds_toArray,List.set_cons_zero,List.set_cons_succ]
  refine tk 11 (some 91) rfl ?_
  refine tk 12 (some 92) rfl ?_
  refine rd1 13 (some 93) rfl (fun KK hKK=>?_)
  go_simp
  (go_at_call 80;refine Calls.mono (HV.out _ bE) ?_;rintro r w2 ⟨rfl,h2,hu2⟩;(have hu3:Upd (fun j=>j=Q.K) W0 w2:=(Upd.of_below bE).trans hu2);(have hS2:=hkp.out _ hu3))
  (try go_wp2_with fail)
  refine hKK.out _ _ ?_ (fun hHeld=>?_)
  ·(try dsimp only);(first|exact hS2|exact hHeld|(with_reducible exact hkp.out _ (Upd.of_below bE))|assumption|trivial)
  clear hKK KK
  try simp only[Act.put,List.setIfInBounds_toArray,List.set_cons_zero,List.set_cons_succ]
  refine tk 14 (some 6) rfl ?_
  refine wpAnyH_done (by kernel_rfl) ?_ _
  go_wp2_with fail
  go_meet
  exact ⟨rfl,h2,hu3⟩
 case rest=>
  obtain ⟨rfl,hst,hu⟩:=hcut
  have H2:=Lib.hid hst
  have HU:=Lib.hid hu
  clear hst hu
  go_wp2_with fail
  go_ret
  exact ⟨rfl,H2.out,HU.out⟩
theorem of_arr0 (hk:StK Q) {b:Nat} {e:Ex} {x y:Tm} {v:Int} (ho:e.op=23) (hs:(σ b).1=false) (hx:TOfC Q σ x v):TOfC Q σ (.p b e x y) v:=by
 intro W0 L h ht
 obtain ⟨hbb,A',cap',pa,kc,rt,hp⟩:=ht.row
 obtain ⟨Ap,cp,rfl,hl,hm,sp⟩:=hp
 obtain ⟨g,off,z,cs,rfl,hb,hz,hcs,hcc⟩:=sp.at_ (k:=0) (by show 0<2;omega)
 cases hz
 have hcs':cs=[.pointer (some ⟨x.b,0,none⟩)]:=hcs
 subst hcs'
 have p0:W0.cell? ⟨g,off,none⟩=some (.pointer (some ⟨x.b,0,none⟩)):=by
  have:=hide_cell (hcc 0 _ rfl)
  simpa using this
 have k0:W0.cell? ⟨b,0,none⟩=some (.int .i64 23):=by rw[←ho];exact (rt.cell 0).trans rfl
 have hcp:2≤cp:=hl
 have k7:W0.cell? ⟨b,7,none⟩=some (.slice (some ⟨g,off,none⟩) 2 cp):=(rt.cell 7).trans rfl
 have k9:W0.cell? ⟨b,9,none⟩=some (.bool false):=by rw[←hs];exact (rt.cell 9).trans rfl
 have hKi:=hk.hi
 have hKl:=h.kn.lt
 have hkp:Hid (∀W,Upd (fun j=>j=Q.K) W0 W→W.cell? ⟨b,7,none⟩=some (.slice (some ⟨g,off,none⟩) 2 cp)∧W.cell? ⟨b,9,none⟩=some (.bool false)∧W.cell? ⟨g,off,none⟩=some (.pointer (some ⟨x.b,0,none⟩))):=fun W hu=>by
  have r2:=hu.row rt (by omega)
  refine ⟨(r2.cell 7).trans rfl,by rw[←hs];exact (r2.cell 9).trans rfl,?_⟩
  exact keeps_of (Upd.below hu (B:=Q.hi) (fun j e=>by omega) (by omega)) ⟨g,off,none⟩ _ hb p0
 have HV:Hid (∀W,Below W0.heap.size W0 W→Calls Tryz.prog 80 #[.pointer (some ⟨Q.R,0,none⟩),.pointer (some ⟨Q.D,0,none⟩),.pointer (some ⟨x.b,0,none⟩)] W fun r W'=>r= .returned (.int .i64 v)∧(∃L',StAt Q σ W' L')∧Upd (fun j=>j=Q.K) W W'):=fun W hW=>
  hx W L (h.below hk hW) (TmAt.upd (Upd.of_below (X:=fun _=>False) hW) (fun j e=>e.elim) (by omega) ht.2.1)
 show Calls _ _ #[_,_,.pointer (some ⟨b,0,none⟩)] _ _
 clear h ht rt ho hs hx sp hcc hcs hb hbb
 go_enter Tryz.func80,Tryz.ntmps80
 go_upto_region 16 with (fail)
 go_cut[6] (fun v6 W=>v6= .int .i64 v∧(∃L',StAt Q σ W L')∧Upd (fun j=>j=Q.K) W0 W)
 case first=>
  refine wp_region_held_drew (S:=fun W=>W.cell? ⟨b,7,none⟩=some (.slice (some ⟨g,off,none⟩) 2 cp)∧W.cell? ⟨b,9,none⟩=some (.bool false)∧W.cell? ⟨g,off,none⟩=some (.pointer (some ⟨x.b,0,none⟩))) (by kernel_rfl) ?_ (fun hHeld=>?_)
  ·(try dsimp only);(first|exact hS2|exact hHeld|(with_reducible exact hkp.out _ (Upd.of_below bE))|assumption|trivial)
  refine tk 0 (some 80) rfl ?_
  refine tk 1 (some 81) rfl ?_
  refine tk 2 (some 82) rfl ?_
  refine tk 3 (some 83) rfl ?_
  refine tk 4 (some 84) rfl ?_
  refine tk 5 (some 85) rfl ?_
  refine tk 6 (some 86) rfl ?_
  refine tk 7 (some 87) rfl ?_
  refine tk 8 (some 88) rfl ?_
  refine tk 9 (some 89) rfl ?_
  refine rd1 10 (some 90) rfl (fun KK hKK=>?_)
  go_simp
  (go_at_call 123;refine Calls.mono (sflag_any _ _) ?_;rintro r w1 ⟨rfl,rfl⟩)
  (try go_wp2_with fail)
  refine hKK.out _ _ ?_ (fun hHeld=>?_)
  ·(try dsimp only);(first|exact hS2|exact hHeld|(with_reducible exact hkp.out _ (Upd.of_below bE))|assumption|trivial)
  clear hKK KK
  try simp only[Act.put,List.setIfInBounds_toArray,List.set_cons_zero,List.set_cons_succ]
  refine tk 11 (some 91) rfl ?_
  refine tk 12 (some 92) rfl ?_
  refine rd1 13 (some 93) rfl (fun KK hKK=>?_)
  go_simp
  (go_at_call 80;refine Calls.mono (HV.out _ bE) ?_;rintro r w2 ⟨rfl,h2,hu2⟩;(have hu3:Upd (fun j=>j=Q.K) W0 w2:=(Upd.of_below bE).trans hu2);(have hS2:=hkp.out _ hu3))
  (try go_wp2_with fail)
  refine hKK.out _ _ ?_ (fun hHeld=>?_)
  ·(try dsimp only);(first|exact hS2|exact hHeld|(with_reducible exact hkp.out _ (Upd.of_below bE))|assumption|trivial)
  clear hKK KK
  try simp only[Act.put,List.setIfInBounds_toArray,List.set_cons_zero,List.set_cons_succ]
  refine tk 14 (some 6) rfl ?_
  refine wpAnyH_done (by kernel_rfl) ?_ _
  go_wp2_with fail
  go_meet
  exact ⟨rfl,h2,hu3⟩
 case rest=>
  obtain ⟨rfl,hst,hu⟩:=hcut
  have H2:=Lib.hid hst
  have HU:=Lib.hid hu
  clear hst hu
  go_wp2_with fail
  go_ret
  exact ⟨rfl,H2.out,HU.out⟩
theorem tof_any (hk:StK Q) (hF:∀nm v,NI Q.n Q.T Q.row σ nm v→Q.F nm=v∧nm.size≤maxLen∧nm∈nms (vrs Q.n)) {t:Tm} {v:Int} (h:EI Q.n Q.T Q.row σ t v):TOfC Q σ t v:=by
 induction h with
 |num ho=>exact of_num ho
 |inp ho hi hr=>
  obtain ⟨h1,h2,h3⟩:=hF _ _ (.inl ⟨_,hi,hr⟩)
  exact of_var ho (value_of hk h2 h3 h1 (find_inp hk hi hr))
 |eqn ho hn hq hl hj ht hv ih=>
  obtain ⟨h1,h2,h3⟩:=hF _ _ (.inr ⟨hn,_,_,_,hq,hl,hj,ht,hv⟩)
  exact of_var ho (value_of hk h2 h3 h1 (find_eqn hk hn hq hl hj ht ih))
 |pre ho=>exact of_pre ho
 |fby1 ho hs=>exact of_fby1 ho hs
 |fby0 ho hs _ ih=>exact of_fby0 ho hs ih
 |arr1 ho hs _ ih=>exact of_arr1 hk ho hs ih
 |arr0 ho hs _ ih=>exact of_arr0 hk ho hs ih
theorem value_any (hk:StK Q) (hF:∀nm v,NI Q.n Q.T Q.row σ nm v→Q.F nm=v∧nm.size≤maxLen∧nm∈nms (vrs Q.n)) {nm:ByteArray} {v:Int} (h:NI Q.n Q.T Q.row σ nm v):ValC Q σ 46 nm v:=by
 obtain ⟨h1,h2,h3⟩:=hF _ _ h
 rcases h with ⟨i,hi,hr⟩|⟨hn,i,q,t,hq,hl,hj,ht,hv⟩
 ·exact value_of hk h2 h3 h1 (find_inp hk hi hr)
 ·exact value_of hk h2 h3 h1 (find_eqn hk hn hq hl hj ht (tof_any hk hF hv))
end Go.Proofs.YtdkgkacnjdnpoaaGreat
