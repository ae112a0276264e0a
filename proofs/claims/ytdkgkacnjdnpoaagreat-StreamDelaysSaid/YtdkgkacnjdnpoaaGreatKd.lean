/-
  The source of the check chapter's example has no fault. Plain. The contract of check.Text at a text that is read and accepted; the awake of the check chapter. The stream chapter's example: tompionlaw22.awake. What was before: the law StreamDelays of the stream chapter, of any ints: the walk. An argument that reads as data, opened: expressions. Arguments that read as data, opened: ints. Closed facts of the row StreamDelays over the program. Closed facts of the row StreamDelays over the program. Closed facts of the row StreamDelays over the program. Closed facts of the row StreamDelays over the program. Closed facts of the row StreamDelays over the program. Closed facts of the row StreamDelays over the program.
-/
import Derived.Test.YtdkgkacnjdnpoaaGreatStrW
import Derived.Test.YtdkgkacnjdnpoaaGreatCalB
import Derived.Test.YtdkgkacnjdnpoaaGreatStrP
import Derived.Test.YtdkgkacnjdnpoaaGreatPrsR
import Derived.Test.YtdkgkacnjdnpoaaGreatStzS
import Derived.Test.YtdkgkacnjdnpoaaGreatPrsM
import Derived.Test.YtdkgkacnjdnpoaaGreatExMem
import Derived.OpenShut
import Derived.DataReads
import Derived.Test.YtdkgkacnjdnpoaaGreatMem
import Derived.Test.YtdkgkacnjdnpoaaGreatRows
import Derived.Test.YtdkgkacnjdnpoaaGreatChecked
import Derived.JoinedOf
import Derived.RowKit
set_option maxHeartbeats 2000000
set_option maxRecDepth 100000
namespace Go.Proofs.YtdkgkacnjdnpoaaGreat
open Nm
open Go.RowKit Nm
attribute [local go_sem ↓] Go.wp_at_zero Go.wp_at_succ
theorem text_any (s:ByteArray) (xs:List Nd) (w:World) (hx:ptext s=some xs) (sm:SrcSm xs) (hc:checkF xs=ft0):
  Calls Tryz.prog 12 #[.string s] w fun r w'=>(∃A cap,r= .returned (.tuple #[srcV xs A cap,ftV ft0])∧xs.length≤cap∧cap≤maxLen∧Nds (hide w.heap.size w') w'.heap.size A xs)∧Below w.heap.size w w':=by
 have b1:Below w.heap.size w ((w.alloc (.cells #[.slice none 0 0] 24)).alloc (.cells ftC0 38)):=bE
 have r1:=(Row.new w #[.slice none 0 0] 24).alloc (.cells ftC0 38)
 have r2:=rowNew2 w (.cells #[.slice none 0 0] 24) ftC0 38
 have HP:=Lib.hid (fun W=>psource_any s xs W hx)
 have HC:=Lib.hid (fun (W:World) (A:Option Addr) (cap:Nat) (h1:xs.length≤cap) (h2:cap≤maxLen) (h:Nds W W.heap.size A xs)=>csource_any xs A cap W sm h1 h2 h)
 rw[hc] at HC
 clear hx hc
 go_enter Tryz.func12,Tryz.ntmps12
 go_upto_region 1 with (fail)
 change Code.wp _ _ _ _ ((w.alloc (.cells #[.slice none 0 0] 24)).alloc (.cells ftC0 38))
 generalize (w.alloc (.cells #[.slice none 0 0] 24)).alloc (.cells ftC0 38)=W1 at*
 have hs1:=b1.size
 have hl1:=r1.lt
 have hl2:=r2.lt
 go_wp2_with fail
 refine (HP.out W1).mono ?_
 rintro r w2 ⟨⟨A,cap,rfl,h1,h2,hn⟩,hb2⟩
 have hs2:=hb2.size
 have hB2:=b1.trans (hb2.mono hs1)
 have b3:Below w2.heap.size w2 ((w2.alloc (.cells #[.slice A xs.length cap] 24)).alloc (.cells ftC0 38)):=bE
 have rx:=(Row.new w2 #[.slice A xs.length cap] 24).alloc (.cells ftC0 38)
 have rf:=rowNew2 w2 (.cells #[.slice A xs.length cap] 24) ftC0 38
 have hs3:=b3.size
 have HN:Hid (∀W,Below w2.heap.size w2 W→Nds W W.heap.size A xs):=fun W hW=>nds_keep (nds_whole hn) (keeps_of hW) hW.size
 have HN2:=Lib.hid hn
 clear hn
 obtain ⟨⟨t0,t1,t2⟩,-⟩:=rf.three
 have c0:=rx.src
 go_upto_region 2 with (fail)
 change Code.wp _ _ _ _ ((w2.alloc (.cells #[.slice A xs.length cap] 24)).alloc (.cells ftC0 38))
 have r13:=(r1.below hb2 hl1).below b3 (by omega)
 have r23:=(r2.below hb2 hl2).below b3 (by omega)
 have hB3:=hB2.trans (b3.mono (by omega))
 have hl3:w.heap.size+1<w2.heap.size:=by omega
 clear r1 r2 b1 hb2 hB2
 generalize (w2.alloc (.cells #[.slice A xs.length cap] 24)).alloc (.cells ftC0 38)=W3 at*
 go_wp2_with fail
 refine (HC.out W3 A cap h1 h2 (HN.out W3 b3)).mono ?_
 rintro r w4 ⟨rfl,hb4⟩
 clear c0 t0 t1 t2
 have rx4:=rx.below hb4 rx.lt
 have rf4:=rf.below hb4 rf.lt
 have r14:=r13.below hb4 r13.lt
 have r24:=r23.below hb4 r23.lt
 have hB4:=hB3.trans (hb4.mono hB3.size)
 have hs4:=hb4.size
 have hN4:=b3.trans (hb4.mono hs3)
 obtain ⟨⟨t0,t1,t2⟩,z0,z1,z2⟩:=rf4.three
 have u5:=upd_three w4 (w2.heap.size+1) (.int .i64 0) (.int .i64 0) (.int .i64 0)
 have rf5:=rf4.set3 (.int .i64 0) (.int .i64 0) (.int .i64 0)
 go_upto_region 4 with (fail)
 change Code.wp _ _ _ _ (((w4.setCell ⟨w2.heap.size+1,0,none⟩ (.int .i64 0)).setCell ⟨w2.heap.size+1,1,none⟩ (.int .i64 0)).setCell ⟨w2.heap.size+1,2,none⟩ (.int .i64 0))
 clear t0 t1 t2 z0 z1 z2
 have rx5:=u5.row rx4 (by omega)
 have r15:=u5.row r14 (by omega)
 have r25:=u5.row r24 (by omega)
 have hB5:=hB4.trans (Upd.below u5 (fun k e=>by omega) (by have:=hB4.size;omega))
 have hN5:=hN4.trans (Upd.below u5 (fun k e=>by omega) (by omega))
 generalize ((w4.setCell ⟨w2.heap.size+1,0,none⟩ (.int .i64 0)).setCell ⟨w2.heap.size+1,1,none⟩ (.int .i64 0)).setCell ⟨w2.heap.size+1,2,none⟩ (.int .i64 0)=W5 at*
 have c0:=rx5.src
 obtain ⟨⟨t0,t1,t2⟩,-⟩:=rf5.three
 have d0:=r15.src
 have d1:=r15.frozen 0
 obtain ⟨⟨k0,k1,k2⟩,z0,z1,z2⟩:=r25.three
 have hs5:=hB5.size
 have HR1:=Lib.hid r15
 have HR2:=Lib.hid r25
 have HN5:=Lib.hid (Upd.of_below (X:=fun k=>k<W1.heap.size∨w2.heap.size≤k) hN5)
 have HB5:=Lib.hid hB5
 clear rf4 rx4 r14 r24 r15 r25 rx5 rf5 rx rf r13 r23 hb4 hN4 hB4 hB3 b3 u5 hN5
 go_upto_region 6 with (fail)
 go_region
 go_wp2_with fail
 have u6:Upd (fun k=>k=w.heap.size) W5 (W5.setCell ⟨w.heap.size,0,none⟩ (.slice A xs.length cap)):=(Upd.refl (fun k=>k=w.heap.size) W5).setCell (p:=⟨w.heap.size,0,none⟩) rfl _
 have u7:=(upd_three (W5.setCell ⟨w.heap.size,0,none⟩ (.slice A xs.length cap)) (w.heap.size+1) (.int .i64 0) (.int .i64 0) (.int .i64 0)).drew
 have q1:Row (W5.setCell ⟨w.heap.size,0,none⟩ (.slice A xs.length cap)) w.heap.size #[.slice A xs.length cap] 24:=by
  have:=HR1.out.set 0 (.slice A xs.length cap)
  simpa using this
 have q2:=(Row.set3 (u6.row HR2.out (by omega)) (.int .i64 0) (.int .i64 0) (.int .i64 0)).drew
 refine bodyPost_ret (res22 rfl Tryz.underlying24 rfl (by kernel_rfl) Tryz.underlying38 rfl (by kernel_rfl) rfl rfl (u7.row q1 (by omega)) q2) rfl ?_
 have U67:=(u6.mono (Y:=fun k=>k<W1.heap.size∨w2.heap.size≤k) (fun k e=>Or.inl (by omega))).trans (u7.mono (fun k e=>Or.inl (by omega)))
 have U:=HN5.out.trans U67
 exact ⟨⟨A,cap,rfl,h1,h2,nds_hide HN2.out U (fun k e=>e) (Nat.le_refl _) (by omega) U.size⟩,HB5.out.trans (Upd.below ((u6.mono (Y:=fun k=>w.heap.size≤k) (fun k e=>by omega)).trans (u7.mono (fun k e=>by omega))) (fun k e=>e) (by omega))⟩
theorem row_ints {w:World} {b:Nat} {l:List Int} {t:TypeId} (h:Row w b (ints l).toArray t) (hl:l.length≤maxLen) (hw:∀x∈l,Wf x):SlV w w.heap.size 1 isInt (.slice (some ⟨b,0,none⟩) l.length l.length) l:=by
 refine ⟨_,_,rfl,Nat.le_refl _,hl,fun _=>⟨b,0,rfl,h.lt,fun i x hx=>⟨[.int .i64 x],fun j u hu=>?_,rfl,hw x (List.mem_of_getElem? hx)⟩⟩⟩
 have hj:j=0:=by
  cases j with
  |zero=>rfl
  |succ j=>simp at hu
 subst hj
 have hu':u= .int .i64 x:=by simpa using hu.symm
 subst hu'
 rw[h.cell]
 simp[ints,hx]
theorem rw_up {w w':World} {v:Value} {l:List (List Int)} (h:SlV w w.heap.size 1 (isRw w w.heap.size) v l) (hb:Below w.heap.size w w'):SlV w' w'.heap.size 1 (isRw w' w'.heap.size) v l:=by
 refine SlV.keep h (fun p u hp hc=>(hb.cell hp).trans hc) hb.size fun x _ cs hx=>?_
 obtain ⟨u,rfl,hu⟩:=hx
 exact ⟨u,rfl,(hu.below hb).more hb.size⟩
abbrev w3rows (W:World) (a b c:Int):World:=((((W.alloc (.cells #[.int .i64 a] 3)).alloc (.cells #[.int .i64 b] 3)).alloc (.cells #[.int .i64 c] 3)).alloc (.cells #[.slice (some ⟨W.heap.size,0,none⟩) 1 1,.slice (some ⟨W.heap.size+1,0,none⟩) 1 1,.slice (some ⟨W.heap.size+1+1,0,none⟩) 1 1] 34))
theorem rows3_below (W:World) (a b c:Int):Below W.heap.size W (w3rows W a b c):=bE
theorem rows3 (W:World) (a b c:Int) (ha:Wf a) (hb:Wf b) (hc:Wf c):SlV (w3rows W a b c) (w3rows W a b c).heap.size 1 (isRw (w3rows W a b c) (w3rows W a b c).heap.size) (.slice (some ⟨W.heap.size+1+1+1,0,none⟩) 3 3) [[a],[b],[c]]:=by
 have r0:Row (w3rows W a b c) W.heap.size (ints [a]).toArray 3:=(((Row.new W _ _).alloc _).alloc _).alloc _
 have r1:Row (w3rows W a b c) (W.heap.size+1) (ints [b]).toArray 3:=((rowNew2 W _ _ _).alloc _).alloc _
 have r2:Row (w3rows W a b c) (W.heap.size+1+1) (ints [c]).toArray 3:=(rowNew3 W _ _ _ _).alloc _
 have r3:=Row.new (((W.alloc (.cells #[.int .i64 a] 3)).alloc (.cells #[.int .i64 b] 3)).alloc (.cells #[.int .i64 c] 3)) #[.slice (some ⟨W.heap.size,0,none⟩) 1 1,.slice (some ⟨W.heap.size+1,0,none⟩) 1 1,.slice (some ⟨W.heap.size+1+1,0,none⟩) 1 1] 34
 rw[show (((W.alloc (.cells #[.int .i64 a] 3)).alloc (.cells #[.int .i64 b] 3)).alloc (.cells #[.int .i64 c] 3)).heap.size=W.heap.size+1+1+1 by simp] at r3
 have s0:=row_ints r0 (by unfold maxLen;simp) (fun x hx=>by simp at hx;subst hx;exact ha)
 have s1:=row_ints r1 (by unfold maxLen;simp) (fun x hx=>by simp at hx;subst hx;exact hb)
 have s2:=row_ints r2 (by unfold maxLen;simp) (fun x hx=>by simp at hx;subst hx;exact hc)
 refine ⟨_,_,rfl,Nat.le_refl _,by decide,fun _=>⟨_,0,rfl,r3.lt,fun i x hx=>?_⟩⟩
 match i,hx with
 |0,hx=>
  simp at hx
  subst hx
  exact ⟨[.slice (some ⟨W.heap.size,0,none⟩) 1 1],fun j u hu=>by
   match j,hu with
   |0,hu=>simp at hu;subst hu;exact (r3.cell 0).trans rfl
   |j+1,hu=>simp at hu,_,rfl,s0⟩
 |1,hx=>
  simp at hx
  subst hx
  exact ⟨[.slice (some ⟨W.heap.size+1,0,none⟩) 1 1],fun j u hu=>by
   match j,hu with
   |0,hu=>simp at hu;subst hu;exact (r3.cell 1).trans rfl
   |j+1,hu=>simp at hu,_,rfl,s1⟩
 |2,hx=>
  simp at hx
  subst hx
  exact ⟨[.slice (some ⟨W.heap.size+1+1,0,none⟩) 1 1],fun j u hu=>by
   match j,hu with
   |0,hu=>simp at hu;subst hu;exact (r3.cell 2).trans rfl
   |j+1,hu=>simp at hu,_,rfl,s2⟩
 |i+3,hx=>simp at hx
theorem awake22_any (w:World):
  Calls Tryz.prog 7 #[] w fun r w'=>r= .returned (.bool true)∧Below w.heap.size w w':=by
 have HT:=Lib.hid (text_any txB srB w txB_is srB_sm chkB)
 have HP:Hid (∀(W:World) (A:Option Addr) (cap:Nat) (vr:Value) (h1:srB.length≤cap) (h2:cap≤maxLen) (h:Nds W W.heap.size A srB) (hr:SlV W W.heap.size 1 (isRw W W.heap.size) vr [[3],[4],[5]]),Calls Tryz.prog 10 #[srcV srB A cap,vr] W fun r w'=>(∃v,r= .returned (.tuple #[v,.int .i64 0])∧SlV w' w'.heap.size 1 (isRw w' w'.heap.size) v [[0],[3],[4]])∧Below W.heap.size W w'):=fun W A cap vr h1 h2 h hr=>by
  rw[←delay_out]
  exact srun_any machB W srB_sm h1 h2 h chkB srB_main ndB_noclk ndB_q ndB_wf ndB_left srB_size hr (fun row hrow=>fits_one (by simp at hrow;rcases hrow with rfl|rfl|rfl<;>rfl)) (by decide)
 go_enter Tryz.func7,Tryz.ntmps7
 go_wp2_with fail
 refine HT.out.mono ?_
 rintro r w2 ⟨⟨A,cap,rfl,h1,h2,hn⟩,hb2⟩
 have hs2:=hb2.size
 have b3:Below w2.heap.size w2 ((w2.alloc (.cells #[.slice A srB.length cap] 24)).alloc (.cells ftC0 38)):=bE
 have rx:=(Row.new w2 #[.slice A srB.length cap] 24).alloc (.cells ftC0 38)
 have rf:=rowNew2 w2 (.cells #[.slice A srB.length cap] 24) ftC0 38
 have HN:Hid (∀W,Below w2.heap.size w2 W→Nds W W.heap.size A srB):=fun W hW=>nds_keep (nds_whole hn) (keeps_of hW) hW.size
 clear hn
 go_upto_region 2 with (fail)
 change Code.wp _ _ _ _ ((w2.alloc (.cells #[.slice A srB.length cap] 24)).alloc (.cells ftC0 38))
 have hB3:=hb2.trans (b3.mono hs2)
 have hs3:=b3.size
 generalize (w2.alloc (.cells #[.slice A srB.length cap] 24)).alloc (.cells ftC0 38)=W3 at*
 have c0:=rx.src
 have b4:=rows3_below W3 3 4 5
 have HR:=Lib.hid (HP.out (w3rows W3 3 4 5) A cap _ h1 h2 (HN.out _ (b3.trans (b4.mono hs3))) (rows3 W3 3 4 5 (wf_of ⟨by decide,by decide⟩) (wf_of ⟨by decide,by decide⟩) (wf_of ⟨by decide,by decide⟩)))
 have rf4:=rf.below b4 (by have:=rf.lt;exact this)
 have hB4:=Lib.hid (hB3.trans (b4.mono hB3.size))
 have hs4:=b4.size
 clear hB3 b3 HN rf rx
 go_wp2_with fail
 refine HR.out.mono ?_
 rintro r w6 ⟨⟨v,rfl,hv⟩,hb6⟩
 have rf6:=rf4.below hb6 rf4.lt
 obtain ⟨⟨t0,t1,t2⟩,-⟩:=rf6.three
 have HB6:=Lib.hid (hB4.out.trans (hb6.mono hB4.out.size))
 have b7:=rows3_below w6 0 3 4
 have HSM:=Lib.hid (rows_same [[0],[3],[4]] v (.slice (some ⟨w6.heap.size+1+1+1,0,none⟩) 3 3) (w3rows w6 0 3 4).heap.size (w3rows w6 0 3 4) (rw_up hv b7) (rows3 w6 0 3 4 (wf_of ⟨by decide,by decide⟩) (wf_of ⟨by decide,by decide⟩) (wf_of ⟨by decide,by decide⟩)))
 have HB7:=Lib.hid (HB6.out.trans (b7.mono HB6.out.size))
 clear hv hb6 b4 b7 HP HT HR hb2 rf4 rf6 c0
 go_wp2_with fail
 refine HSM.out.mono ?_
 rintro r w8 ⟨rfl,n8,rfl⟩
 go_wp2_with fail
 go_ret
 exact ⟨rfl,below_drewN' HB7.out _⟩
end Go.Proofs.YtdkgkacnjdnpoaaGreat
namespace Go.Proofs.YtdkgkacnjdnpoaaGreat.streamDelays
open Go.RowKit Nm
attribute [local go_sem ↓] Go.wp_at_zero Go.wp_at_succ
theorem cells_atS (w:World) (t:TypeId) (l:List Value) {b:Nat} (hb:b=w.heap.size):∀j u,l[j]? =some u→(w.alloc (.cells l.toArray t)).cell? ((⟨b,0,none⟩:Addr).add j)=some u:=by
 subst hb
 exact cells_new5 w t l
theorem rows_snoc {base:Nat} {w w8:World} {l:List (List Int)} {vs:List Value} (h:RowsB base w l vs) (hb:Below w.heap.size w w8) (hB:base≤w.heap.size) {x:Int} (hw:Wf x) (hr:Row w8 w.heap.size #[.int .i64 x] 3):RowsB base w8 (l++ [[x]]) (vs++ [.slice (some ⟨w.heap.size,0,none⟩) 1 1]):=by
 refine RowsB.snoc (h.upd (Upd.of_below (X:=fun _=>False) hb) (fun k e=>e.elim)) (n:=1) (fun y hy=>by simp at hy;subst hy;exact hw) ?_
 exact ⟨rfl,.inr ⟨w.heap.size,1,#[.int .i64 x],rfl,hB,hr,Nat.le_refl _,by decide,rfl,rfl⟩⟩
theorem walk (l:List Int) (v:Value) (w:World) (h:SlV w w.heap.size 1 isInt v l):
  Calls Tryz.prog 4 #[v] w fun e w'=>e= .returned (.bool true)∧Below w.heap.size w w':=by
 obtain ⟨i0,hi0,hz0,hz1,hz2⟩:=info_parts info_ints
 obtain ⟨Al,cl,rfl,ll,ml,sl⟩:=h
 have HSL:Hid (∀W,Below w.heap.size w W→Sl W w.heap.size 1 isInt Al l):=fun W hW=>sl.below hW
 have HAW:=Lib.hid (awake22_any w)
 have HT:=Lib.hid (fun W=>text_any txC srC W txC_is srC_sm chkC)
 have HP:Hid (∀(W:World) (A:Option Addr) (cap:Nat) (vr:Value) (h1:srC.length≤cap) (h2:cap≤maxLen) (h:Nds W W.heap.size A srC) (hr:SlV W W.heap.size 1 (isRw W W.heap.size) vr (l.map fun x=> [x])) (hl:l.length≤20),Calls Tryz.prog 10 #[srcV srC A cap,vr] W fun r w'=>(∃Ao co,r= .returned (.tuple #[.slice Ao l.length co,.int .i64 0])∧co≤maxLen∧l.length≤co∧Sl w' w'.heap.size 1 (isRw w' w'.heap.size) Ao (machC.all (l.map fun x=> [x])))∧Below W.heap.size W w'):=fun W A cap vr h1 h2 h hr hl=>by
  refine Calls.mono (srun_any machC W srC_sm h1 h2 h chkC srC_main ndC_noclk ndC_q ndC_wf ndC_left srC_size hr (fun row hrow=>by
   obtain ⟨x,_,rfl⟩:=List.mem_map.1 hrow
   exact fits_one rfl) (by rw[List.length_map];omega)) ?_
  rintro r w' ⟨⟨v,rfl,Ao,co,rfl,g1,g2,g3⟩,hb⟩
  have hle:(machC.all (l.map fun x=> [x])).length=l.length:=by rw[machC.all_len,List.length_map]
  exact ⟨⟨Ao,co,by rw[hle],g2,by omega,g3⟩,hb⟩
 have ml':cl≤9223372036854775807:=by unfold maxLen at ml;omega
 clear sl ml
 go_enter Tryz.func4,Tryz.ntmps4
 go_wp2_with fail
 refine HAW.out.mono ?_
 rintro r w1 ⟨rfl,hb1⟩
 have hs1:=hb1.size
 have HB1:=Lib.hid hb1
 clear HAW hb1
 by_cases hlen:20<l.length
 ·have e1:decide ((l.length:Int)>20)=true:=by rw[decide_eq_true_iff];omega
  have hlen':(20:Int)<(l.length:Int):=by omega
  go_wp2_with fail
  go_ret
  exact ⟨rfl,HB1.out⟩
 have e1:decide ((l.length:Int)>20)=false:=by rw[decide_eq_false_iff_not];omega
 have hlen':(l.length:Int)≤20:=by omega
 have hle:l.length≤20:=by omega
 clear hlen
 go_wp2_with fail
 refine (HT.out w1).mono ?_
 rintro r w2 ⟨⟨A,cap,rfl,h1,h2,hn⟩,hb2⟩
 have hs2:=hb2.size
 have b3:Below w2.heap.size w2 ((w2.alloc (.cells #[.slice A srC.length cap] 24)).alloc (.cells ftC0 38)):=bE
 have rx:=(Row.new w2 #[.slice A srC.length cap] 24).alloc (.cells ftC0 38)
 have rf:=rowNew2 w2 (.cells #[.slice A srC.length cap] 24) ftC0 38
 have HN:Hid (∀W,Below w2.heap.size w2 W→Nds W W.heap.size A srC):=fun W hW=>nds_keep (nds_whole hn) (keeps_of hW) hW.size
 clear hn
 go_upto_region 6 with (fail)
 change Code.wp _ _ _ _ ((w2.alloc (.cells #[.slice A srC.length cap] 24)).alloc (.cells ftC0 38))
 have HB3:=Lib.hid (HB1.out.trans ((hb2.trans (b3.mono hs2)).mono hs1))
 have HN3:Hid (∀W,Below ((w2.alloc (.cells #[.slice A srC.length cap] 24)).alloc (.cells ftC0 38)).heap.size ((w2.alloc (.cells #[.slice A srC.length cap] 24)).alloc (.cells ftC0 38)) W→Nds W W.heap.size A srC):=fun W hW=>HN.out W (b3.trans (hW.mono b3.size))
 have hs3:=b3.size
 clear HN b3 hb2 HB1
 generalize (w2.alloc (.cells #[.slice A srC.length cap] 24)).alloc (.cells ftC0 38)=W3 at*
 have hsw:=HB3.out.size
 go_wp2_with fail
 go_loopw[5,25] (fun v5 i wr=>∃(k:Nat) (v:Value) (vs:List Value),k≤l.length∧i= .int .i64 k∧v=v5∧Hid (wr.ownsRow W3.heap.size 34 1 v k vs)∧Hid (RowsB W3.heap.size wr ((l.take k).map fun x=> [x]) vs)∧Hid (Below W3.heap.size W3 wr)) (fun _ i _=>l.length-(intOf i).toNat)
 case atStart=>exact ⟨0,_,[],Nat.zero_le _,rfl,rfl,World.ownsRow_nil _ _ _ _,⟨rfl,fun i x hi=>by simp at hi⟩,Below.refl _ _⟩
 case round=>
  obtain ⟨k,v,vs,hk,rfl,rfl,HO,HRB,HB⟩:=hrel
  have hsr:=HB.out.size
  by_cases hlt:k<l.length
  ·obtain ⟨b,off,x,hA,hb,hx,hw,d0⟩:=(HSL.out wr (HB3.out.trans (HB.out.mono hsw))).int hlt
   have i0':(0:Int)≤(k:Int):=by omega
   have i1':(k:Int)<(l.length:Int):=by omega
   have HTK:Hid (((l.take (k+1)).map fun x=> [x])=((l.take k).map fun x=> [x])++ [[x]]):=by
    show _=_
    rw[List.take_add_one,hx]
    simp
   have HRB8:=Lib.hid (rows_snoc HRB.out (bE:Below wr.heap.size wr (wr.alloc (.cells #[.int .i64 x] 3))) hsr hw (Row.new wr _ _))
   have HO8:=Lib.hid (HO.out.alloc (.cells #[.int .i64 x] 3))
   have HB8:=Lib.hid (HB.out.alloc hsr (.cells #[.int .i64 x] 3))
   have HA:=Lib.hid hA
   have hs8:W3.heap.size≤(wr.alloc (.cells #[.int .i64 x] 3)).heap.size:=by simp;omega
   rw[hA]
   clear hA hx hw HO HRB
   go_wp2_with (at_builtin;refine wpList_append_any _ rfl _ _ 25 rfl W3.heap.size 34 i0 (.slice none 0 0) 1 24 Tryz.underlying25 hi0 hz0 hz1 hz2 rfl (by decide) _ _ _ rfl (HO8.out.alloc _) ⟨_,0,none⟩ 1 1 [.slice (some ⟨wr.heap.size,0,none⟩) 1 1] rfl rfl (cells_atS _ _ _ (by simp)) (by intro u hu;simp at hu;subst hu;rfl) (by unfold maxLen;omega) (by omega) (by first|omega|(simp;omega)|simp) ?_)
   intro v13 w13 hown13 hg13 _
   have u13:Upd (fun j=>v.ownBlock=some j) (wr.alloc (.cells #[.int .i64 x] 3)) w13:=(Upd.of_below (bE:Below (wr.alloc (.cells #[.int .i64 x] 3)).heap.size (wr.alloc (.cells #[.int .i64 x] 3)) ((wr.alloc (.cells #[.int .i64 x] 3)).alloc (.cells #[.slice (some ⟨wr.heap.size,0,none⟩) 1 1] 34)))).trans ⟨hg13.os,hg13.tape,hg13.output,hg13.size,fun j hj hX=>hg13.block j hj (fun e=>hX e.symm)⟩
   have HRB13:=Lib.hid (HRB8.out.upd u13 (fun j e=>by
    obtain ⟨_,a,ha⟩:=own_row HO8.out j e
    exact .inr ⟨a,_,ha,by decide⟩))
   have HB13:=Lib.hid (HB8.out.trans (Upd.below u13 (fun j e=>(own_row HO8.out j e).1) hs8))
   rw[←HTK.out] at HRB13
   have HO13:=Lib.hid hown13
   clear hown13 hg13 u13 d0
   have hA:=HA.out
   go_wp2_with fail
   go_roundw
   case rel=>exact ⟨k+1,_,_,by omega,by go_num,rfl,HO13,HRB13,HB13⟩
   case measure=>first|(simp[intOf];omega)|simp[intOf]
  obtain rfl:k=l.length:=by omega
  have hrs:=HRB.out.sl HO.out
  rw[List.take_length] at hrs
  have HRS:=Lib.hid (HP.out wr A cap v h1 h2 (HN3.out wr HB.out) hrs hle)
  have hxl:=rx.lt
  have hfl:=rf.lt
  have rx4:=rx.below HB.out hxl
  have rf4:=rf.below HB.out hfl
  have c0:=rx4.src
  have HB4:=Lib.hid (HB3.out.trans (HB.out.mono hsw))
  clear hrs HRB HO HP HN3 rx rf
  go_wp2_with fail
  refine HRS.out.mono ?_
  rintro r w6 ⟨⟨Ao,co,rfl,mo,lo,so⟩,hb6⟩
  have rf6:=rf4.below hb6 rf4.lt
  obtain ⟨⟨t0,t1,t2⟩,-⟩:=rf6.three
  have HB6:=Lib.hid (HB4.out.trans (hb6.mono HB4.out.size))
  have HSO:=Lib.hid so
  have mo':co≤9223372036854775807:=by unfold maxLen at mo;omega
  clear so hb6 rf4 rx4 rf6 HRS HT c0 mo
  go_wp2_with fail
  go_loopw[57] (fun i wr=>∃k:Nat,k≤l.length∧i= .int .i64 k∧Hid (Below w6.heap.size w6 wr)) (fun i _=>l.length-(intOf i).toNat)
  case atStart=>exact ⟨0,Nat.zero_le _,rfl,Below.refl _ _⟩
  case round=>
   obtain ⟨k,hk,rfl,HBr⟩:=hrel
   by_cases hlt:k<l.length
   rotate_left 1
   ·obtain rfl:k=l.length:=by omega
    have HBF:=Lib.hid (HB6.out.trans (HBr.out.mono HB6.out.size))
    go_wp2_with fail
    go_ret
    exact ⟨rfl,HBF.out⟩
   obtain ⟨b,off,x,Ax,cx,hA,hb,hx,d0,lx,mx,sx⟩:=sl_rw HSO.out (k:=k) (by rw[machC.all_len,List.length_map];exact hlt)
   have d0':wr.cell? ⟨b,off+k,none⟩=some (.slice Ax x.length cx):=(HBr.out.cell hb).trans d0
   rw[machC_at hlt] at hx
   have hx2:x.length=2:=by cases hx;rfl
   rw[hx2] at d0'
   obtain ⟨bx,ox,p,hAx,hbx,hp,wp,e0⟩:=(sx.below HBr.out).int (k:=0) (by omega)
   obtain ⟨bx',ox',q,hAx',hbx',hq,wq,e1⟩:=(sx.below HBr.out).int (k:=1) (by omega)
   have hsl:=HSL.out wr (HB6.out.trans (HBr.out.mono HB6.out.size))
   obtain ⟨bl,ol,z,hAl,hbl,hz,wz,f0⟩:=hsl.int (k:=0) (by omega)
   subst hAx
   cases hAx'
   have hl0:(0:Int)<(l.length:Int):=by omega
   have i0':(0:Int)≤(k:Int):=by omega
   have i1':(k:Int)<(l.length:Int):=by omega
   have HA:=Lib.hid hA
   have hcx:(2:Int)≤(cx:Int):=by omega
   have mx':cx≤9223372036854775807:=by unfold maxLen at mx;omega
   rw[Nat.add_zero] at e0 f0
   have HSW:=Lib.hid hsl
   subst hAl
   by_cases k0:k=0
   ·subst k0
    rw[if_pos rfl,if_pos rfl] at hx
    cases hx
    have hp':p=0:=by simpa using hp.symm
    have hq':q=z:=by
     have h3:l.getD 0 0=z:=by simp[List.getD,hz]
     rw[←h3]
     simpa using hq.symm
    subst hp'
    subst hq'
    rw[Nat.add_zero] at d0'
    rw[hA]
    clear hA hsl hp hq hz hx2 d0 sx
    go_wp2_with fail
    go_region
    go_wp2_with fail
    have hA:=HA.out
    go_wp2_with fail
    go_roundw
    case rel=>exact ⟨0+1,by omega,by go_num,Lib.hid HBr.out.drew⟩
    case measure=>first|(simp[intOf];omega)|simp[intOf]
   ·obtain ⟨j,rfl⟩:∃j,k=j+1:=⟨k-1,by omega⟩
    rw[if_neg k0,if_neg k0] at hx
    cases hx
    obtain ⟨bl',ol',y,hAl',hbl',hy,wy,f1⟩:=hsl.int (k:=j) (by omega)
    cases hAl'
    have h3:l.getD (j+1-1) 0=y:=by simp[List.getD,hy]
    have hp':p=y:=by
     rw[←h3]
     simpa using hp.symm
    have hq':q=y:=by
     rw[←h3]
     simpa using hq.symm
    subst hp'
    subst hq'
    have ij0:(0:Int)≤(j:Int):=by omega
    have ij1:(j:Int)<(l.length:Int):=by omega
    have ij2:(((j+1:Nat):Int))-1=(j:Int):=by omega
    have ij3:decide ((((j+1:Nat):Int))>0)=true:=by rw[decide_eq_true_iff];omega
    rw[hA]
    clear hA hsl hp hq hz hy h3 hx2 d0 sx
    go_wp2_with fail
    go_region
    go_wp2_with fail
    go_region
    go_wp2_with fail
    have hA:=HA.out
    go_wp2_with fail
    go_roundw
    case rel=>exact ⟨j+1+1,by omega,by go_num,Lib.hid HBr.out.drew.drew⟩
    case measure=>first|(simp[intOf];omega)|simp[intOf]
end Go.Proofs.YtdkgkacnjdnpoaaGreat.streamDelays
namespace Go.Proofs.YtdkgkacnjdnpoaaGreat
open Go.RowKit
section
variable {H:Type} {enc:TypeId × Value→H} {w:World} {spare:Nat→Bool} {held:Bool}
theorem cells_int:Tryz.prog.cellsOf 3=1:=by kernel_rfl
end
section
variable {H:Type} {enc:TypeId × Value→H} {w:World} {spare:Nat→Bool} {held:Bool}
theorem isInt_len (y:Int) (cs:List Value) (h:isInt y cs):cs.length=1:=by rw[h.1];rfl
theorem open_ints {fuel:Nat} {c:Value} {x:DataW H × List MemPlace} (h:DataW.trod enc Tryz.prog w 0 spare held fuel 34 [c]=some x):∃l,SlV w w.heap.size 1 isInt c l:=
 open_sl Tryz.underlying34 cells_int (by decide) fuel (fun n _ cs x h=>open_isInt Tryz.underlying3 n cs x h) isInt_len 0 h
theorem open_intsV {base:Nat} {v:Value} {d:DataW H} {p:List MemPlace} {r:Reach} (hv:Value.okWide Tryz.prog w r base 34 v) (h:DataW.Trod enc Tryz.prog w 0 spare held 34 v d p):∃l,SlV w w.heap.size 1 isInt v l:=by
 obtain ⟨a,len,cap,rfl⟩:=WideShapes.okWide_slice Tryz.underlying34 hv
 obtain ⟨fuel,hf⟩:=h
 exact open_ints hf
end
end Go.Proofs.YtdkgkacnjdnpoaaGreat
namespace Go.Proofs.YtdkgkacnjdnpoaaGreat.streamDelays
open Go.RowKit
theorem k_laid:laidOutB Tryz.prog=true:=by kernel_rfl
theorem k_ip:(Rows.streamDelaysRow.inPlace==Tryz.prog.inPlace 4)=true:=by kernel_rfl
theorem k_un:(Rows.streamDelaysRow.unfollowed==Tryz.prog.unfollowed 4)=true:=by kernel_rfl
theorem k_re:(Rows.streamDelaysRow.recurses==Tryz.prog.recurses 4)=true:=by kernel_rfl
theorem k_nm:(Rows.streamDelaysRow.named==Tryz.prog.varsNamed 4)=true:=by kernel_rfl
theorem k_me:Tryz.prog.mayEnter=true:=by kernel_rfl
theorem k_li:(Rows.streamDelaysRow.lifted==Tryz.prog.liftsFinal)=true:=by kernel_rfl
theorem k_mk:(Tryz.prog.make==some Rows.streamDelaysRow.make)=true:=by kernel_rfl
theorem k_wf:Rows.streamDelaysRow.wf (OpenSpec.ofChange Rows.streamDelaysSpec)=true:=by kernel_rfl
theorem k_maps:mapsRowed Tryz.prog=true:=by kernel_rfl
theorem k_rd:Tryz.f4.params.all (fun t=>Tryz.prog.readableRec t)=true:=by kernel_rfl
theorem k_tie:namedTie Tryz.prog Rows.streamDelaysRow.named Rows.streamDelaysSpec.vars=true:=by kernel_rfl
theorem k_s1:(Rows.streamDelaysRow.stops==[])=true:=by kernel_rfl
theorem k_s2:(Tryz.prog.stops==[])=true:=by kernel_rfl
theorem k_s3:(Rows.streamDelaysRow.knobs==[])=true:=by kernel_rfl
theorem k_s4:(Tryz.prog.stopKnobs==[])=true:=by kernel_rfl
theorem k_m1:(Rows.streamDelaysRow.maps==(Tryz.f4.params.toList++Rows.streamDelaysSpec.plain.varTypes Tryz.prog).any (fun t=>Tryz.prog.mapsRec t))=true:=by kernel_rfl
theorem k_if1:(Rows.streamDelaysRow.ifaces==(Tryz.f4.params.toList++Rows.streamDelaysSpec.plain.varTypes Tryz.prog).any (fun t=>Tryz.prog.ifacesRec t))=true:=by kernel_rfl
theorem k_mo:(Rows.streamDelaysRow.mapsOut==Tryz.prog.mapsAmong Tryz.f4.resultTypes.toList)=true:=by kernel_rfl
theorem k_lo:(Rows.streamDelaysRow.loops==(Tryz.f4.params.toList++Rows.streamDelaysSpec.plain.varTypes Tryz.prog).any (fun t=>Tryz.prog.loopsFrom t))=true:=by kernel_rfl
theorem k_wk:(Rows.streamDelaysRow.wideKeys==(Tryz.f4.params.toList++Rows.streamDelaysSpec.plain.varTypes Tryz.prog++Tryz.f4.resultTypes.toList).any (fun t=>Tryz.prog.wideKeysFrom t))=true:=by kernel_rfl
theorem k_vr:Rows.streamDelaysSpec.vars.all (fun t=>Tryz.prog.varReadable t)=true:=by kernel_rfl
theorem k_rt:Tryz.f4.resultTypes.all (fun t=>Tryz.prog.readableRec t && decide (t<Tryz.prog.types.size))=true:=by kernel_rfl
theorem k_io:(Rows.streamDelaysRow.ifacesOut==Tryz.f4.resultTypes.toList.any (fun t=>Tryz.prog.ifacesRec t))=true:=by kernel_rfl
theorem k_lt:(Rows.streamDelaysRow.loopsOut==Tryz.f4.resultTypes.toList.any (fun t=>Tryz.prog.loopsFrom t))=true:=by kernel_rfl
theorem k_pk:(Rows.streamDelaysRow.plainKeys==Tryz.prog.plainKeys)=true:=by kernel_rfl
theorem k_st:Rows.streamDelaysRow.shortTexts.isNone=true:=by kernel_rfl
theorem k_sh:Tryz.prog.stopsHeard=true:=by kernel_rfl
theorem k_pi:(Rows.streamDelaysRow.pinned==Rows.streamDelaysRow.pinnedBy)=true:=by kernel_rfl
theorem k_ve:(Rows.streamDelaysRow.veiled==(Tryz.f4.params.toList++Rows.streamDelaysSpec.plain.varTypes Tryz.prog++Tryz.f4.resultTypes.toList).any (fun t=>Tryz.prog.veiledRec t))=true:=by kernel_rfl
theorem k_vf:Rows.streamDelaysRow.veiledFits Tryz.prog Tryz.f4.params.toList (Tryz.f4.params.toList++Rows.streamDelaysSpec.plain.varTypes Tryz.prog++Tryz.f4.resultTypes.toList)=true:=by kernel_rfl
theorem joined:joinedFacts Tryz.prog 4 Tryz.f4 Rows.streamDelaysSpec Rows.streamDelaysRow=true:=by
 unfold joinedFacts
 rw[k_wf,k_laid,k_maps,k_rd,k_tie,k_s1,k_s2,k_s3,k_s4,k_ip,k_un,k_re,k_nm,k_m1,k_if1,k_mo,k_lo,k_wk,k_vr,k_rt,k_io,k_lt,k_pk,k_st,k_sh,k_me,k_li,k_mk,k_pi,k_ve,k_vf]
 kernel_rfl
end Go.Proofs.YtdkgkacnjdnpoaaGreat.streamDelays
