/-
  The contract of check.Text at a text that is read and accepted; the awake of the check chapter. The contract of depend.Source at the depend chapter's example. The depend chapter's example: tompionlaw46.awake. Lists as lines: the law DependTexts of the depend chapter behind its example: the walk. Lists as lines: the law DependTexts of the depend chapter: the walk. Arguments that read as data, opened: rows of truths. Closed facts of the row DependTexts over the program. Closed facts of the row DependTexts over the program. Closed facts of the row DependTexts over the program. Closed facts of the row DependTexts over the program. Closed facts of the row DependTexts over the program. Closed facts of the row DependTexts over the program.
-/
import Derived.Test.YtdkgkacnjdnpoaaGreatZz
import Derived.Test.YtdkgkacnjdnpoaaGreatPrsR
import Derived.Test.YtdkgkacnjdnpoaaGreatFoL
import Derived.Test.YtdkgkacnjdnpoaaGreatCalB
import Derived.Test.YtdkgkacnjdnpoaaGreatStzP
import Derived.Test.YtdkgkacnjdnpoaaGreatDnO
import Derived.Laws.Concat
import Derived.Test.YtdkgkacnjdnpoaaGreatExMem
import Derived.OpenShut
import Derived.DataReads
import Derived.Test.YtdkgkacnjdnpoaaGreatRows
import Derived.Test.YtdkgkacnjdnpoaaGreatChecked
import Derived.JoinedOf
import Derived.RowKit
set_option maxHeartbeats 4000000
set_option maxRecDepth 100000
namespace Go.Proofs.YtdkgkacnjdnpoaaGreat
open Go.RowKit _root_.Go.Proofs.YtdkgkacnjdnpoaaGreat.Nm
attribute [local go_sem ↓] Go.wp_at_zero Go.wp_at_succ
theorem text_any (s:ByteArray) (xs:List Nd) (w:World) (hx:ptext s=some xs) (sm:SrcSm xs) (hc:checkF xs=ft0):
  Calls Tryz.prog 12 #[.string s] w fun r w'=>(∃A cap,r= .returned (.tuple #[srcV xs A cap,ftV ft0])∧xs.length≤cap∧cap≤maxLen∧Nds (hide w.heap.size w') w'.heap.size A xs)∧Below w.heap.size w w':=by
 refine' zq136
 have r2:=rowNew2 w (.cells #[.slice none 0 0] 24) ftC0 38
 have HP:=Lib.hid (fun W=>psource_any s xs W hx)
 have HC:=Lib.hid (fun (W:World) (A:Option Addr) (cap:Nat) (h1:xs.length≤cap) (h2:cap≤maxLen) (h:Nds W W.heap.size A xs)=>csource_any xs A cap W sm h1 h2 h)
 rw[hc] at HC
 clear hx hc
 go_enter Tryz.func12,Tryz.ntmps12
 refine' zq88
 refine (HP.out W1).mono ?_
 rintro r w2 ⟨⟨A,cap,rfl,h1,h2,hn⟩,hb2⟩
 have hs2:=hb2.size
 have hB2:=b1.trans (hb2.mono hs1)
 have b3:Below w2.heap.size w2 ((w2.alloc (.cells #[.slice A xs.length cap] 24)).alloc (.cells ftC0 38)):=bE
 have rx:=(Row.new w2 #[.slice A xs.length cap] 24).alloc (.cells ftC0 38)
 have rf:=rowNew2 w2 (.cells #[.slice A xs.length cap] 24) ftC0 38
 have hs3:=b3.size
 have HN:Hid (∀W,Below w2.heap.size w2 W→Nds W W.heap.size A xs):=fun W hW=>nds_keep (nds_whole hn) (keeps_of hW) hW.size
 have HN2:=Lib.hid hn
 clear hn
 obtain ⟨⟨t0,t1,t2⟩,-⟩:=rf.three
 have c0:=rx.src
 go_upto_region 2 with (fail)
 change Code.wp _ _ _ _ ((w2.alloc (.cells #[.slice A xs.length cap] 24)).alloc (.cells ftC0 38))
 have r13:=(r1.below hb2 hl1).below b3 (by omega)
 have r23:=(r2.below hb2 hl2).below b3 (by omega)
 have hB3:=hB2.trans (b3.mono (by omega))
 have hl3:w.heap.size+1<w2.heap.size:=by omega
 clear r1 r2 b1 hb2 hB2
 generalize (w2.alloc (.cells #[.slice A xs.length cap] 24)).alloc (.cells ftC0 38)=W3 at*
 go_wp2_with fail
 refine (HC.out W3 A cap h1 h2 (HN.out W3 b3)).mono ?_
 rintro r w4 ⟨rfl,hb4⟩
 clear c0 t0 t1 t2
 have rx4:=rx.below hb4 rx.lt
 have rf4:=rf.below hb4 rf.lt
 have r14:=r13.below hb4 r13.lt
 have r24:=r23.below hb4 r23.lt
 have hB4:=hB3.trans (hb4.mono hB3.size)
 have hs4:=hb4.size
 have hN4:=b3.trans (hb4.mono hs3)
 obtain ⟨⟨t0,t1,t2⟩,z0,z1,z2⟩:=rf4.three
 have u5:=upd_three w4 (w2.heap.size+1) (.int .i64 0) (.int .i64 0) (.int .i64 0)
 have rf5:=rf4.set3 (.int .i64 0) (.int .i64 0) (.int .i64 0)
 go_upto_region 4 with (fail)
 change Code.wp _ _ _ _ (((w4.setCell ⟨w2.heap.size+1,0,none⟩ (.int .i64 0)).setCell ⟨w2.heap.size+1,1,none⟩ (.int .i64 0)).setCell ⟨w2.heap.size+1,2,none⟩ (.int .i64 0))
 clear t0 t1 t2 z0 z1 z2
 have rx5:=u5.row rx4 (by omega)
 have r15:=u5.row r14 (by omega)
 have r25:=u5.row r24 (by omega)
 have hB5:=hB4.trans (Upd.below u5 (fun k e=>by omega) (by have:=hB4.size;omega))
 have hN5:=hN4.trans (Upd.below u5 (fun k e=>by omega) (by omega))
 generalize ((w4.setCell ⟨w2.heap.size+1,0,none⟩ (.int .i64 0)).setCell ⟨w2.heap.size+1,1,none⟩ (.int .i64 0)).setCell ⟨w2.heap.size+1,2,none⟩ (.int .i64 0)=W5 at*
 have c0:=rx5.src
 obtain ⟨⟨t0,t1,t2⟩,-⟩:=rf5.three
 have d0:=r15.src
 have d1:=r15.frozen 0
 obtain ⟨⟨k0,k1,k2⟩,z0,z1,z2⟩:=r25.three
 have hs5:=hB5.size
 have HR1:=Lib.hid r15
 have HR2:=Lib.hid r25
 have HN5:=Lib.hid (Upd.of_below (X:=fun k=>k<W1.heap.size∨w2.heap.size≤k) hN5)
 have HB5:=Lib.hid hB5
 clear rf4 rx4 r14 r24 r15 r25 rx5 rf5 rx rf r13 r23 hb4 hN4 hB4 hB3 b3 u5 hN5
 go_upto_region 6 with (fail)
 go_region
 go_wp2_with fail
 have u6:Upd (fun k=>k=w.heap.size) W5 (W5.setCell ⟨w.heap.size,0,none⟩ (.slice A xs.length cap)):=(Upd.refl (fun k=>k=w.heap.size) W5).setCell (p:=⟨w.heap.size,0,none⟩) rfl _
 have u7:=(upd_three (W5.setCell ⟨w.heap.size,0,none⟩ (.slice A xs.length cap)) (w.heap.size+1) (.int .i64 0) (.int .i64 0) (.int .i64 0)).drew
 have q1:Row (W5.setCell ⟨w.heap.size,0,none⟩ (.slice A xs.length cap)) w.heap.size #[.slice A xs.length cap] 24:=by
  have:=HR1.out.set 0 (.slice A xs.length cap)
  simpa using this
 have q2:=(Row.set3 (u6.row HR2.out (by omega)) (.int .i64 0) (.int .i64 0) (.int .i64 0)).drew
 refine bodyPost_ret (res22 rfl Tryz.underlying24 rfl (by kernel_rfl) Tryz.underlying38 rfl (by kernel_rfl) rfl rfl (u7.row q1 (by omega)) q2) rfl ?_
 have U67:=(u6.mono (Y:=fun k=>k<W1.heap.size∨w2.heap.size≤k) (fun k e=>Or.inl (by omega))).trans (u7.mono (fun k e=>Or.inl (by omega)))
 have U:=HN5.out.trans U67
 exact ⟨⟨A,cap,rfl,h1,h2,nds_hide HN2.out U (fun k e=>e) (Nat.le_refl _) (by omega) U.size⟩,HB5.out.trans (Upd.below ((u6.mono (Y:=fun k=>w.heap.size≤k) (fun k e=>by omega)).trans (u7.mono (fun k e=>by omega))) (fun k e=>e) (by omega))⟩
end Go.Proofs.YtdkgkacnjdnpoaaGreat
namespace Go.Proofs.YtdkgkacnjdnpoaaGreat.Q.Fo
open Go.RowKit Go.Shelf Vf
attribute [local go_sem ↓] Go.wp_at_zero Go.wp_at_succ
theorem use_E:useL (exList yE)=[0]:=by rw[yE_list];rfl
theorem use_F:useL (exList yF)=[1,3]:=by rw[yF_list];rfl
theorem two_tb {L:List (List Int)} (h:TbIs flE L) (b c:Int) (hb:0≤b):c∈rowI L b↔(b=2∧c=0)∨(b=3∧(c=1∨c=3)):=by
 unfold rowI
 rw[h.2]
 constructor
 ·rintro (⟨d,hd,e,hm⟩|⟨_,x,hx,g,hg,_⟩)
  ·simp at hd
   rcases hd with rfl|rfl
   ·rw[use_E] at hm
    simp at hm e
    exact .inl ⟨by omega,hm⟩
   ·rw[use_F] at hm
    simp at hm e
    exact .inr ⟨by omega,hm⟩
  ·have hx':=List.mem_of_getElem? hx
   simp at hx'
   subst hx'
   cases hg
 ·rintro (⟨rfl,rfl⟩|⟨rfl,h'⟩)
  ·exact .inl ⟨(2,yE),by simp,rfl,by rw[use_E];simp⟩
  ·exact .inl ⟨(3,yF),by simp,rfl,by rw[use_F];simpa using h'⟩
theorem two_r2 {L:List (List Int)} (h:TbIs flE L) {c:Int} (hr:Rch L 2 c):c=2∨c=0:=by
 induction hr with
 |refl=>exact .inl rfl
 |step h1 h2 ih=>
  have:=(two_tb h _ _ (by omega)).1 h2
  omega
theorem two_r3 {L:List (List Int)} (h:TbIs flE L) {c:Int} (hr:Rch L 3 c):c=3∨c=1:=by
 induction hr with
 |refl=>exact .inl rfl
 |step h1 h2 ih=>
  have:=(two_tb h _ _ (by omega)).1 h2
  omega
theorem two_is {L:List (List Int)} {rs:List (List Bool)} (h:TbIs flE L) (ho:OfIs flE rs 2 L):rs=[[true,false],[false,true]]:=by
 have e20:Rch L 2 0:= .step .refl ((two_tb h 2 0 (by decide)).2 (by simp))
 have e31:Rch L 3 1:= .step .refl ((two_tb h 3 1 (by decide)).2 (by simp))
 have n21:¬Rch L 2 1:=fun g=>by have:=two_r2 h g;omega
 have n30:¬Rch L 3 0:=fun g=>by have:=two_r3 h g;omega
 match rs,ho with
 | [r0,r1],ho=>
  obtain ⟨l0,h0⟩:=ho.2 0 r0 2 rfl rfl
  obtain ⟨l1,h1⟩:=ho.2 1 r1 3 rfl rfl
  match r0,l0,h0,r1,l1,h1 with
  | [a,b],_,h0,[c,d],_,h1=>
   have ha:=h0 0 a 0 rfl rfl
   have hb:=h0 1 b 1 rfl rfl
   have hc:=h1 0 c 0 rfl rfl
   have hd:=h1 1 d 1 rfl rfl
   have ea:a=true:=ha.2 e20
   have eb:b=false:=Bool.eq_false_iff.2 fun g=>n21 (hb.1 g)
   have ec:c=false:=Bool.eq_false_iff.2 fun g=>n30 (hc.1 g)
   have ed:d=true:=hd.2 e31
   rw[ea,eb,ec,ed]
 | [],ho=>exact absurd ho.1 (by simp)
 | [_],ho=>exact absurd ho.1 (by simp)
 |_::_::_::_,ho=>exact absurd ho.1 (by simp)
theorem chkE:checkF srE=ft0:=srE_check
theorem dsource_two (w:World) (A:Option Addr) (cap:Nat) (h1:srE.length≤cap) (h2:cap≤maxLen) (h:Nds w w.heap.size A srE):
  Calls Tryz.prog 14 #[srcV srE A cap] w fun r w'=>(∃v,r= .returned (.tuple #[v,.int .i64 0])∧SlV w' w'.heap.size 1 (isBrw w' w'.heap.size) v [[true,false],[false,true]])∧Below w.heap.size w w':=by
 have b1:Below w.heap.size w (w.alloc (.cells #[.slice A srE.length cap] 24)):=bE
 have hn1:=nds_keep h (keeps_of b1) b1.size
 have HF:=Lib.hid (flatOf_any (w.alloc (.cells #[.slice A srE.length cap] 24)) srE_sm h1 h2 hn1 chkE srE_main ndE_noclk ndE_nodup srE_size flD rfl ndE_q wE_wf)
 clear h hn1
 go_enter Tryz.func14,Tryz.ntmps14
 go_wp2_with fail
 refine HF.out.mono ?_
 rintro r w2 ⟨⟨M,vw,vd,vi,vo,T,rfl,hM,hMc,hT,hTm,hI,hO⟩,hb2⟩
 have hfl:=flE_at hMc hT hTm hI hO
 have b2:=b1.trans (hb2.mono b1.size)
 have hs2:=b2.size
 clear HF hMc hT hTm hI hO b1 hb2
 obtain ⟨Aw,cw,rfl,-,-,-⟩:=hfl.wires
 obtain ⟨Ad,cd,rfl,-,-,-⟩:=hfl.defs
 obtain ⟨Ai,ci,rfl,-,-,-⟩:=hfl.ins
 obtain ⟨Ao,co,rfl,-,-,-⟩:=hfl.outs
 have HFL:=Lib.hid hfl
 clear hfl
 have b3:Below w2.heap.size w2 (w2.alloc (.cells #[.slice Aw flE.wires.length cw,.slice Ad flE.defs.length cd,.slice Ai flE.ins.length ci,.slice Ao flE.outs.length co] 48)):=bE
 have HO:=Lib.hid (dof_any (HFL.out.next b3) (by decide) flE_size (fun x hx=>by simp at hx;subst hx;decide))
 have HB:=Lib.hid (b2.trans (b3.mono hs2))
 have hs3:=HB.out.size
 go_wp2_with fail
 refine HO.out.mono ?_
 rintro r w4 ⟨hr,hb4⟩
 rcases hr with ⟨hno,-⟩|⟨-,v,rs,L,rfl,hsl,htb,hof⟩
 ·exact absurd flE_ok hno
 have hrs:=two_is htb hof
 subst hrs
 have HSL:=Lib.hid hsl
 have HB4:=Lib.hid (HB.out.trans (hb4.mono hs3))
 clear HO HFL hb4 hsl htb hof
 go_wp2_with fail
 go_ret2
 exact ⟨⟨v,rfl,HSL.out⟩,HB4.out⟩
end Go.Proofs.YtdkgkacnjdnpoaaGreat.Q.Fo
namespace Go.Proofs.YtdkgkacnjdnpoaaGreat
open Go.RowKit
attribute [local go_sem ↓] Go.wp_at_zero Go.wp_at_succ
theorem two_text:textB [[true,false],[false,true]]=[120,46,10,46,120,10]:=by decide
theorem awake46_any (w:World):
  Calls Tryz.prog 13 #[] w fun r w'=>r= .returned (.bool true)∧Below w.heap.size w w':=by
 have HT:=Lib.hid (text_any txE srE w txE_is srE_sm Q.Fo.chkE)
 go_enter Tryz.func13,Tryz.ntmps13
 go_wp2_with fail
 refine HT.out.mono ?_
 rintro r w2 ⟨⟨A,cap,rfl,h1,h2,hn⟩,hb2⟩
 have hs2:=hb2.size
 have b3:Below w2.heap.size w2 ((w2.alloc (.cells #[.slice A srE.length cap] 24)).alloc (.cells ftC0 38)):=bE
 have rx:=(Row.new w2 #[.slice A srE.length cap] 24).alloc (.cells ftC0 38)
 have rf:=rowNew2 w2 (.cells #[.slice A srE.length cap] 24) ftC0 38
 have HN:Hid (∀W,Below w2.heap.size w2 W→Nds W W.heap.size A srE):=fun W hW=>nds_keep (nds_whole hn) (keeps_of hW) hW.size
 clear hn
 go_upto_region 2 with (fail)
 change Code.wp _ _ _ _ ((w2.alloc (.cells #[.slice A srE.length cap] 24)).alloc (.cells ftC0 38))
 have hB3:=hb2.trans (b3.mono hs2)
 have hs3:=b3.size
 have HR:=Lib.hid (Q.Fo.dsource_two ((w2.alloc (.cells #[.slice A srE.length cap] 24)).alloc (.cells ftC0 38)) A cap h1 h2 (HN.out _ b3))
 generalize (w2.alloc (.cells #[.slice A srE.length cap] 24)).alloc (.cells ftC0 38)=W3 at*
 have c0:=rx.src
 have HB3:=Lib.hid hB3
 clear HN b3 hB3 hb2
 go_wp2_with fail
 refine HR.out.mono ?_
 rintro r w6 ⟨⟨v,rfl,hv⟩,hb6⟩
 have rf6:=rf.below hb6 rf.lt
 obtain ⟨⟨t0,t1,t2⟩,-⟩:=rf6.three
 have HB6:=Lib.hid (HB3.out.trans (hb6.mono HB3.out.size))
 have HTX:=Lib.hid (dtext_any [[true,false],[false,true]] v w6 hv (by decide) (by decide))
 rw[two_text] at HTX
 clear hv hb6 HR rf rf6 c0 rx
 go_wp2_with fail
 refine HTX.out.mono ?_
 rintro r w8 ⟨rfl,hb8⟩
 have HB8:=Lib.hid (HB6.out.trans (hb8.mono HB6.out.size))
 clear hb8
 go_wp2_with fail
 go_ret
 exact ⟨rfl,HB8.out⟩
theorem str_snoc {S:ByteArray} {l:List UInt8} (h:S=⟨l.toArray⟩) (c:UInt8):S++(⟨#[c]⟩:ByteArray)=⟨(l++ [c]).toArray⟩:=by
 rw[h,ByteArray.mk_append_mk]
theorem str_size {S:ByteArray} {l:List UInt8} (h:S=⟨l.toArray⟩):S.size=l.length:=by
 rw[h]
 simp[ByteArray.size]
theorem texts_walk (haw:∀w,Calls Tryz.prog 13 #[] w fun r w'=>r= .returned (.bool true)∧Below w.heap.size w w') (l:List (List Bool)) (v:Value) (w:World) (h:SlV w w.heap.size 1 (isBrw w w.heap.size) v l):
  Calls Tryz.prog 6 #[v] w fun e w'=>e= .returned (.bool true)∧Below w.heap.size w w':=by
 have HS:Hid (∀W,Below w.heap.size w W→SlV W w.heap.size 1 (isBrw W w.heap.size) v l):=fun W hW=>brw_keep h hW
 obtain ⟨A,cap,rfl,hlc,hcm,-⟩:=h
 have HAW:=Lib.hid (haw w)
 have hcm':cap≤9223372036854775807:=by unfold maxLen at hcm;omega
 clear haw hcm
 go_enter Tryz.func6,Tryz.ntmps6
 go_wp2_with fail
 refine HAW.out.mono ?_
 rintro r w1 ⟨rfl,hb1⟩
 have hs1:=hb1.size
 have HB1:=Lib.hid hb1
 clear HAW hb1
 by_cases hlen:40<l.length
 ·have hlen':(40:Int)<(l.length:Int):=by omega
  go_wp2_with fail
  go_ret
  exact ⟨rfl,HB1.out⟩
 have hlen':(l.length:Int)≤40:=by omega
 have hle:l.length≤40:=by omega
 clear hlen
 go_wp2_with fail
 go_loopw[3,15] (fun v3 i wr=>∃(k:Nat) (S:ByteArray),k≤l.length∧i= .int .i64 k∧v3= .string S∧Hid (S=⟨(textB (l.take k)).toArray⟩)∧Hid (∀r∈l.take k,r.length≤40)∧Hid (Below w.heap.size w wr)) (fun _ i _=>l.length-(intOf i).toNat)
 case atStart=>exact ⟨0,_,Nat.zero_le _,rfl,rfl,rfl,fun r hr=>by simp at hr,HB1⟩
 case round=>
  clear HB1
  obtain ⟨k,S,hk,rfl,rfl,HSS,HL,HB⟩:=hrel
  have hsr:=HB.out.size
  by_cases hlt:k<l.length
  rotate_left 1
  ·obtain rfl:k=l.length:=by omega
   have hL:=HL.out
   rw[List.take_length] at hL
   have HT:=Lib.hid (dtext_any l (.slice A l.length cap) wr (by
    obtain ⟨A',c',e,g1,g2,g3⟩:=HS.out wr HB.out
    cases e
    refine ⟨_,_,rfl,g1,g2,?_⟩
    refine g3.keep (fun _ _ _ hc=>hc) hsr fun x _ cs hx=>?_
    obtain ⟨u,rfl,hu⟩:=hx
    exact ⟨u,rfl,hu.more hsr⟩) (by omega) (fun r hr=>by have:=hL r hr;omega))
   have hS:=HSS.out
   rw[List.take_length] at hS
   have HE:=Lib.hid hS
   clear hL HL hS HSS
   go_wp2_with fail
   refine HT.out.mono ?_
   rintro e w2 ⟨rfl,hb2⟩
   have HB2:=Lib.hid (HB.out.trans (hb2.mono hsr))
   clear hb2
   go_wp2_with fail
   go_ret
   exact ⟨by rw[HE.out];simp,HB2.out⟩
  obtain ⟨A',c',hv,-,-,sl⟩:=HS.out wr HB.out
  cases hv
  obtain ⟨b,off,r,Ar,cr,hA,hb,hr,d0,lr,mr,sr⟩:=sl_brw sl hlt
  have HTX:=Lib.hid (text_snoc hr)
  have HRK:=Lib.hid hr
  refine' zq98
  by_cases hrl:40<r.length
  ·have hrl':(40:Int)<(r.length:Int):=by omega
   go_wp2_with fail
   go_ret
   exact ⟨rfl,HB.out⟩
  have hrl':(r.length:Int)≤40:=by omega
  generalize wr=W0 at*
  go_wp2_with fail
  go_loopw[3,24] (fun v3 i wq=>∃(j:Nat) (U:ByteArray),j≤r.length∧i= .int .i64 j∧v3= .string U∧Hid (U=⟨(textB (l.take k)++lineB (r.take j)).toArray⟩)∧Hid (Below w.heap.size W0 wq)) (fun _ i _=>r.length-(intOf i).toNat)
  case atStart=>exact ⟨0,S,Nat.zero_le _,rfl,rfl,by show S=_;rw[HSS.out];simp[lineB],Below.refl _ _⟩
  case round=>
   clear HSS
   obtain ⟨j,U,hj,rfl,rfl,HU,HB2⟩:=hrel
   have hbd:=take_bound (l:=l.take k) (k:=k) (by rw[List.length_take];omega) (fun r hr=>by have:=HL.out r hr;omega)
   rw[List.take_take,Nat.min_self] at hbd
   have hUs:=str_size HU.out
   rw[List.length_append,line_len,List.length_take] at hUs
   have hUb:U.size≤1002000:=by omega
   clear hbd hUs
   by_cases hlt2:j<r.length
   ·refine' zq145
    rw[hA2]
    clear hA2 hx
    cases x
    ·have hadd:=run_string_add_sum (P:=Tryz.prog) wr U ⟨#[46]⟩ (by show U.size+1≤_;omega)
     have HU5:Hid (U++(⟨#[46]⟩:ByteArray)=⟨(textB (l.take k)++lineB (r.take (j+1))).toArray⟩):=by
      show _=_
      rw[str_snoc HU.out,HLX.out,←List.append_assoc]
      rfl
     refine' zq175
    ·have hadd:=run_string_add_sum (P:=Tryz.prog) wr U ⟨#[120]⟩ (by show U.size+1≤_;omega)
     have HU5:Hid (U++(⟨#[120]⟩:ByteArray)=⟨(textB (l.take k)++lineB (r.take (j+1))).toArray⟩):=by
      show _=_
      rw[str_snoc HU.out,HLX.out,←List.append_assoc]
      rfl
     refine' zq175
   ·obtain rfl:j=r.length:=by omega
    have hadd:=run_string_add_sum (P:=Tryz.prog) wr U ⟨#[10]⟩ (by show U.size+1≤_;omega)
    have HU5:Hid (U++(⟨#[10]⟩:ByteArray)=⟨(textB (l.take (k+1))).toArray⟩):=by
     show _=_
     rw[str_snoc HU.out,List.take_length,HTX.out]
    have HL5:Hid (∀r∈l.take (k+1),r.length≤40):=fun s hs=>by
     rw[List.take_add_one,HRK.out] at hs
     rcases List.mem_append.1 hs with g|g
     ·exact HL.out s g
     ·simp at g
      subst g
      omega
    have HB5:=Lib.hid (HB.out.trans HB2.out)
    have hA:=HA.out
    go_wp2_with fail
    go_roundw
    case rel=>exact ⟨k+1,_,by omega,by go_num,rfl,HU5,HL5,HB5⟩
    case measure=>first|(simp[intOf];omega)|simp[intOf]
end Go.Proofs.YtdkgkacnjdnpoaaGreat
namespace Go.Proofs.YtdkgkacnjdnpoaaGreat.dependTexts
open Go.RowKit
theorem walk (l:List (List Bool)) (v:Value) (w:World) (h:SlV w w.heap.size 1 (isBrw w w.heap.size) v l):
  Calls Tryz.prog 6 #[v] w fun e w'=>e= .returned (.bool true)∧Below w.heap.size w w':=texts_walk awake46_any l v w h
end Go.Proofs.YtdkgkacnjdnpoaaGreat.dependTexts
namespace Go.Proofs.YtdkgkacnjdnpoaaGreat
open Go.RowKit
section
variable {H:Type} {enc:TypeId × Value→H} {w:World} {spare:Nat→Bool} {held:Bool}
theorem cells_bl:Tryz.prog.cellsOf 4=1:=by kernel_rfl
theorem cells_bls:Tryz.prog.cellsOf 53=1:=by kernel_rfl
theorem isTru_len (y:Bool) (cs:List Value) (h:isTru y cs):cs.length=1:=by rw[show cs=[.bool y] from h];rfl
theorem isBrw_len (y:List Bool) (cs:List Value) (h:isBrw w w.heap.size y cs):cs.length=1:=by obtain ⟨v,rfl,_⟩:=h;rfl
theorem open_bl (n:Nat) (cs:List Value) (x:DataW H × List MemPlace) (h:DataW.trod enc Tryz.prog w 0 spare held n 4 cs=some x):∃y,isTru y cs:=by
 obtain ⟨y,h1,_⟩:=DataW.trod_bool Tryz.underlying4 h
 exact ⟨y,h1⟩
theorem open_brow (n:Nat) (cs:List Value) (x:DataW H × List MemPlace) (h:DataW.trod enc Tryz.prog w 0 spare held n 53 cs=some x):∃l,isBrw w w.heap.size l cs:=by
 rcases DataW.trod_slice Tryz.underlying53 h with ⟨hc,_⟩|⟨a',len',cap',elems,rest,k,hk,hc,_⟩
 all_goals
  subst hc
  obtain ⟨l,hl⟩:=open_sl (rel:=isTru) Tryz.underlying53 cells_bl (by decide) n (fun n _ cs x h=>open_bl n cs x h) isTru_len false h
  exact ⟨l,_,rfl,hl⟩
theorem open_browsV {base:Nat} {v:Value} {d:DataW H} {p:List MemPlace} {r:Reach} (hv:Value.okWide Tryz.prog w r base 42 v) (h:DataW.Trod enc Tryz.prog w 0 spare held 42 v d p):∃l,SlV w w.heap.size 1 (isBrw w w.heap.size) v l:=by
 obtain ⟨a,len,cap,rfl⟩:=WideShapes.okWide_slice Tryz.underlying42 hv
 obtain ⟨fuel,hf⟩:=h
 exact open_sl Tryz.underlying42 cells_bls (by decide) fuel (fun n _ cs x h=>open_brow n cs x h) isBrw_len [] hf
end
end Go.Proofs.YtdkgkacnjdnpoaaGreat
namespace Go.Proofs.YtdkgkacnjdnpoaaGreat.dependTexts
open Go.RowKit
theorem k_laid:laidOutB Tryz.prog=true:=by kernel_rfl
theorem k_ip:(Rows.dependTextsRow.inPlace==Tryz.prog.inPlace 6)=true:=by kernel_rfl
theorem k_un:(Rows.dependTextsRow.unfollowed==Tryz.prog.unfollowed 6)=true:=by kernel_rfl
theorem k_re:(Rows.dependTextsRow.recurses==Tryz.prog.recurses 6)=true:=by kernel_rfl
theorem k_nm:(Rows.dependTextsRow.named==Tryz.prog.varsNamed 6)=true:=by kernel_rfl
theorem k_me:Tryz.prog.mayEnter=true:=by kernel_rfl
theorem k_li:(Rows.dependTextsRow.lifted==Tryz.prog.liftsFinal)=true:=by kernel_rfl
theorem k_mk:(Tryz.prog.make==some Rows.dependTextsRow.make)=true:=by kernel_rfl
theorem k_wf:Rows.dependTextsRow.wf (OpenSpec.ofChange Rows.dependTextsSpec)=true:=by kernel_rfl
theorem k_maps:mapsRowed Tryz.prog=true:=by kernel_rfl
theorem k_rd:Tryz.f6.params.all (fun t=>Tryz.prog.readableRec t)=true:=by kernel_rfl
theorem k_tie:namedTie Tryz.prog Rows.dependTextsRow.named Rows.dependTextsSpec.vars=true:=by kernel_rfl
theorem k_s1:(Rows.dependTextsRow.stops==[])=true:=by kernel_rfl
theorem k_s2:(Tryz.prog.stops==[])=true:=by kernel_rfl
theorem k_s3:(Rows.dependTextsRow.knobs==[])=true:=by kernel_rfl
theorem k_s4:(Tryz.prog.stopKnobs==[])=true:=by kernel_rfl
theorem k_m1:(Rows.dependTextsRow.maps==(Tryz.f6.params.toList++Rows.dependTextsSpec.plain.varTypes Tryz.prog).any (fun t=>Tryz.prog.mapsRec t))=true:=by kernel_rfl
theorem k_if1:(Rows.dependTextsRow.ifaces==(Tryz.f6.params.toList++Rows.dependTextsSpec.plain.varTypes Tryz.prog).any (fun t=>Tryz.prog.ifacesRec t))=true:=by kernel_rfl
theorem k_mo:(Rows.dependTextsRow.mapsOut==Tryz.prog.mapsAmong Tryz.f6.resultTypes.toList)=true:=by kernel_rfl
theorem k_lo:(Rows.dependTextsRow.loops==(Tryz.f6.params.toList++Rows.dependTextsSpec.plain.varTypes Tryz.prog).any (fun t=>Tryz.prog.loopsFrom t))=true:=by kernel_rfl
theorem k_wk:(Rows.dependTextsRow.wideKeys==(Tryz.f6.params.toList++Rows.dependTextsSpec.plain.varTypes Tryz.prog++Tryz.f6.resultTypes.toList).any (fun t=>Tryz.prog.wideKeysFrom t))=true:=by kernel_rfl
theorem k_vr:Rows.dependTextsSpec.vars.all (fun t=>Tryz.prog.varReadable t)=true:=by kernel_rfl
theorem k_rt:Tryz.f6.resultTypes.all (fun t=>Tryz.prog.readableRec t && decide (t<Tryz.prog.types.size))=true:=by kernel_rfl
theorem k_io:(Rows.dependTextsRow.ifacesOut==Tryz.f6.resultTypes.toList.any (fun t=>Tryz.prog.ifacesRec t))=true:=by kernel_rfl
theorem k_lt:(Rows.dependTextsRow.loopsOut==Tryz.f6.resultTypes.toList.any (fun t=>Tryz.prog.loopsFrom t))=true:=by kernel_rfl
theorem k_pk:(Rows.dependTextsRow.plainKeys==Tryz.prog.plainKeys)=true:=by kernel_rfl
theorem k_st:Rows.dependTextsRow.shortTexts.isNone=true:=by kernel_rfl
theorem k_sh:Tryz.prog.stopsHeard=true:=by kernel_rfl
theorem k_pi:(Rows.dependTextsRow.pinned==Rows.dependTextsRow.pinnedBy)=true:=by kernel_rfl
theorem k_ve:(Rows.dependTextsRow.veiled==(Tryz.f6.params.toList++Rows.dependTextsSpec.plain.varTypes Tryz.prog++Tryz.f6.resultTypes.toList).any (fun t=>Tryz.prog.veiledRec t))=true:=by kernel_rfl
theorem k_vf:Rows.dependTextsRow.veiledFits Tryz.prog Tryz.f6.params.toList (Tryz.f6.params.toList++Rows.dependTextsSpec.plain.varTypes Tryz.prog++Tryz.f6.resultTypes.toList)=true:=by kernel_rfl
theorem joined:joinedFacts Tryz.prog 6 Tryz.f6 Rows.dependTextsSpec Rows.dependTextsRow=true:=by
 unfold joinedFacts
 rw[k_wf,k_laid,k_maps,k_rd,k_tie,k_s1,k_s2,k_s3,k_s4,k_ip,k_un,k_re,k_nm,k_m1,k_if1,k_mo,k_lo,k_wk,k_vr,k_rt,k_io,k_lt,k_pk,k_st,k_sh,k_me,k_li,k_mk,k_pi,k_ve,k_vf]
 kernel_rfl
end Go.Proofs.YtdkgkacnjdnpoaaGreat.dependTexts
