/-
  norm's looker: act, an act that is another wire. norm's looker: act, one of two.
-/
import Derived.Test.YtckognjamlckcaaGreatDoorNormKa
namespace Go.Proofs.YtckognjamlckcaaGreatDoor
open Go.RowKit Vf Fo
attribute [local go_sem ↓] Go.wp_at_zero Go.wp_at_succ
section
variable {w:World} {B L:Nat} {f:Fm} {vw va vc vk vi vo vb ve:Value}
theorem alike2_c {a b:Int} {V:Bool} {g:Nat} (h:NkAt w B L f vw va vc vk vi vo vb ve) (hB:B≤w.heap.size) (ha:isW f a) (hb:isW f b) (wa:Wf a) (wb:Wf b) (hV:cB (clockOf f a=clockOf f b)=V) {W:World} (hW:Below w.heap.size w W) (hg:W.heap.size=g):
  Calls Tryz.prog 65 #[.pointer (some ⟨L,0,none⟩),.slice (some ⟨g,0,none⟩) 2 2] (W.alloc (.cells #[.int .i64 a,.int .i64 b] 3)) fun e w'=>e= .returned (.bool V)∧Below W.heap.size W w':=by
 subst hg
 exact alike2_b h hB ha hb wa wb hV hW
theorem alike4_c {a b c d:Int} {V:Bool} {g:Nat} (h:NkAt w B L f vw va vc vk vi vo vb ve) (hB:B≤w.heap.size) (ha:isW f a) (hb:isW f b) (hc:isW f c) (hd:isW f d) (wa:Wf a) (wb:Wf b) (wc:Wf c) (wd:Wf d) (hV:cB (clockOf f a=clockOf f b∧clockOf f a=clockOf f c∧clockOf f a=clockOf f d)=V) {W:World} (hW:Below w.heap.size w W) (hg:W.heap.size=g):
  Calls Tryz.prog 65 #[.pointer (some ⟨L,0,none⟩),.slice (some ⟨g,0,none⟩) 4 4] (W.alloc (.cells #[.int .i64 a,.int .i64 b,.int .i64 c,.int .i64 d] 3)) fun e w'=>e= .returned (.bool V)∧Below W.heap.size W w':=by
 subst hg
 exact alike4_b h hB ha hb hc hd wa wb wc wd hV hW
theorem cB_beq {x y:Int}:cB (x=y)=(x==y):=by rw[Bool.eq_iff_iff,cB_iff,beq_iff_eq]
set_option maxRecDepth 100000 in
set_option maxHeartbeats 2000000 in
theorem nact_3 (h:NkAt w B L f vw va vc vk vi vo vb ve) (hB:B≤w.heap.size) (op dst a b c k:Int) (wx:AcIn ⟨op,dst,a,b,c,k⟩) (hd:isW f dst) (hop:op=3) (hall:allW3 f a b c):
  Calls Tryz.prog 28 #[.pointer (some ⟨L,0,none⟩),.agg #[.int .i64 op,.int .i64 dst,.int .i64 a,.int .i64 b,.int .i64 c,.int .i64 k]] w fun e w'=>e= .returned (.bool (cB (actOk f ⟨op,dst,a,b,c,k⟩)))∧Below w.heap.size w w':=by
 have HH:=Lib.hid h
 have hBw:=hB
 obtain ⟨wop,wd,wa,wb,wc,wk⟩:=wx
 dsimp only at wop wd wa wb wc wk
 clear h hB
 have HIFF:=Lib.hid (act_iff3 (dst:=dst) (k:=k) hop hall)
 have HV3:Hid (cB (isW f a∧isW f b∧isW f c)=true):=cB_true hall
 have sg:Ar.signB op=false:=by simp[Ar.signB];omega
 have o1:(op==1)=false:=by rw[beq_eq_false_iff_ne];omega
 have o2:(op==2)=false:=by rw[beq_eq_false_iff_ne];omega
 have o3:(op==3)=true:=by rw[beq_iff_eq];omega
 have o27:(op==27)=false:=by rw[beq_eq_false_iff_ne];omega
 have o24:(op==24)=false:=by rw[beq_eq_false_iff_ne];omega
 have o26:(op==26)=false:=by rw[beq_eq_false_iff_ne];omega
 have o21:(op==21)=false:=by rw[beq_eq_false_iff_ne];omega
 clear hop
 by_cases h0:b=0∧c=0∧k=0
 rotate_left 1
 ·have HQ:=Lib.hid (cB_false (show ¬actOk f ⟨op,dst,a,b,c,k⟩ from fun g=>h0 (HIFF.out.1 g).1))
  generalize cB (actOk f ⟨op,dst,a,b,c,k⟩)=R at*
  rcases (by omega:b≠0∨(b=0∧c≠0)∨(b=0∧c=0∧k≠0)) with hz|⟨hz0,hz⟩|⟨hz0,hz1,hz⟩
  ·have bX:=Row.new w #[.int .i64 op,.int .i64 dst,.int .i64 a,.int .i64 b,.int .i64 c,.int .i64 k] 58
   have b1:Below w.heap.size w (w.alloc (.cells #[.int .i64 op,.int .i64 dst,.int .i64 a,.int .i64 b,.int .i64 c,.int .i64 k] 58)):=bE
   have hg1:=bX.lt
   go_enter Tryz.func28,Tryz.ntmps28
   go_upto_region 1 with (fail)
   generalize hW1:w.alloc (.cells #[.int .i64 op,.int .i64 dst,.int .i64 a,.int .i64 b,.int .i64 c,.int .i64 k] 58)=w1 at*
   clear hW1
   obtain ⟨c0,c1,c2,c3,c4,c5⟩:=bX.six'
   go_wp2_with fail
   (with_reducible refine (is3_b HH.out hBw wa wb wc HV3.out b1).mono ?_)
   rintro e w5 ⟨rfl,hb5⟩
   have hb15:=b1.trans (hb5.mono b1.size)
   have bX5:=bX.below hb5 hg1
   have hg5:w.heap.size<w5.heap.size:=bX5.lt
   clear c0 c1 c2 c3 c4 c5 hb5 bX b1
   obtain ⟨c0,c1,c2,c3,c4,c5⟩:=bX5.six'
   go_wp2_with fail
   (with_reducible refine (Ar.sign_any op _).mono ?_)
   rintro e w' ⟨rfl,rfl⟩
   rw[sg]
   generalize Ar.signIn op=si at*
   generalize Ar.signOut op=so at*
   clear sg
   obtain ⟨m,b6,off6,cw6,Ag6,cg6,hmd,hm,hvw,lw6,mw6,hb6,wt6,d0,d1,lg6,mg6,sg6⟩:=(HH.out.below hBw hb15).wire hd
   subst hmd
   have q0:=(HH.out.below hBw hb15).row.eight.1.1
   have HVW:=Lib.hid hvw
   rw[hvw] at q0
   have hm':(m:Int)<f.wires.length:=by omega
   have HSG:=Lib.hid sg6
   clear hvw d0 sg6 wt6
   go_wp2_with fail
   go_quiet (fail)
   have HN5:=Lib.hid (HH.out.below hBw hb15)
   have hB5:B≤w5.heap.size:=Nat.le_trans hBw hb15.size
   have HS:Hid (∀W,Below w5.heap.size w5 W→W.cell? ⟨w.heap.size,0,none⟩=some (.int .i64 op)∧W.cell? ⟨w.heap.size,1,none⟩=some (.int .i64 (m:Int))∧W.cell? ⟨w.heap.size,2,none⟩=some (.int .i64 a)∧W.cell? ⟨w.heap.size,3,none⟩=some (.int .i64 b)∧W.cell? ⟨w.heap.size,4,none⟩=some (.int .i64 c)∧W.cell? ⟨w.heap.size,5,none⟩=some (.int .i64 k)):=fun W hW=>(bX5.below hW hg5).six'
   have HFIN:Hid (∀W,Below w5.heap.size w5 W→Below w.heap.size w W):=fun W hW=>hb15.trans (hW.mono hb15.size)
   go_upto_region 13 with (fail)
   clear c0 c1 c2 c3 c4 c5 q0 d1
   refine wp_region_held_drew (S:=fun W=>W.cell? ⟨w.heap.size,0,none⟩=some (.int .i64 op)∧W.cell? ⟨w.heap.size,1,none⟩=some (.int .i64 (m:Int))∧W.cell? ⟨w.heap.size,2,none⟩=some (.int .i64 a)∧W.cell? ⟨w.heap.size,3,none⟩=some (.int .i64 b)∧W.cell? ⟨w.heap.size,4,none⟩=some (.int .i64 c)∧W.cell? ⟨w.heap.size,5,none⟩=some (.int .i64 k)) (by kernel_rfl) ?_ (fun hHeld=>?_)
   ·(try dsimp only);(first|(with_reducible exact HS.out _ bE)|go_keep)
   refine tk 0 (some 87) rfl ?_
   refine tk 1 (some 88) rfl ?_
   refine tk 2 (some 89) rfl ?_
   refine tk 3 (some 90) rfl ?_
   refine tk 4 (some 91) rfl ?_
   refine tk 5 (some 92) rfl ?_
   refine tk 6 (some 93) rfl ?_
   refine tk 7 (some 94) rfl ?_
   refine tk 8 (some 95) rfl ?_
   refine tk 9 (some 96) rfl ?_
   refine sk 10 (some 97) rfl ?_
   refine sk 11 (some 98) rfl ?_
   refine sk 12 (some 99) rfl ?_
   refine sk 13 (some 100) rfl ?_
   refine sk 14 (some 101) rfl ?_
   refine sk 15 (some 102) rfl ?_
   refine sk 16 (some 103) rfl ?_
   refine tk 17 (some 104) rfl ?_
   refine tk 18 (some 105) rfl ?_
   refine sk 19 (some 106) rfl ?_
   refine sk 20 (some 107) rfl ?_
   refine sk 21 (some 108) rfl ?_
   refine sk 22 (some 109) rfl ?_
   refine sk 23 (some 110) rfl ?_
   refine sk 24 (some 111) rfl ?_
   refine sk 25 (some 112) rfl ?_
   refine sk 26 (some 113) rfl ?_
   refine sk 27 (some 114) rfl ?_
   refine tk 28 (some 115) rfl ?_
   refine tk 29 (some 4) rfl ?_
   refine wpAnyH_done (by kernel_rfl) ?_ _
   go_wp2_with fail
   go_ret
   exact ⟨ret_bool HQ.out.symm,HFIN.out _ bE⟩
  ·subst hz0
   have bX:=Row.new w #[.int .i64 op,.int .i64 dst,.int .i64 a,.int .i64 0,.int .i64 c,.int .i64 k] 58
   have b1:Below w.heap.size w (w.alloc (.cells #[.int .i64 op,.int .i64 dst,.int .i64 a,.int .i64 0,.int .i64 c,.int .i64 k] 58)):=bE
   have hg1:=bX.lt
   go_enter Tryz.func28,Tryz.ntmps28
   go_upto_region 1 with (fail)
   generalize hW1:w.alloc (.cells #[.int .i64 op,.int .i64 dst,.int .i64 a,.int .i64 0,.int .i64 c,.int .i64 k] 58)=w1 at*
   clear hW1
   obtain ⟨c0,c1,c2,c3,c4,c5⟩:=bX.six'
   go_wp2_with fail
   (with_reducible refine (is3_b HH.out hBw wa wb wc HV3.out b1).mono ?_)
   rintro e w5 ⟨rfl,hb5⟩
   have hb15:=b1.trans (hb5.mono b1.size)
   have bX5:=bX.below hb5 hg1
   have hg5:w.heap.size<w5.heap.size:=bX5.lt
   clear c0 c1 c2 c3 c4 c5 hb5 bX b1
   obtain ⟨c0,c1,c2,c3,c4,c5⟩:=bX5.six'
   go_wp2_with fail
   (with_reducible refine (Ar.sign_any op _).mono ?_)
   rintro e w' ⟨rfl,rfl⟩
   rw[sg]
   generalize Ar.signIn op=si at*
   generalize Ar.signOut op=so at*
   clear sg
   obtain ⟨m,b6,off6,cw6,Ag6,cg6,hmd,hm,hvw,lw6,mw6,hb6,wt6,d0,d1,lg6,mg6,sg6⟩:=(HH.out.below hBw hb15).wire hd
   subst hmd
   have q0:=(HH.out.below hBw hb15).row.eight.1.1
   have HVW:=Lib.hid hvw
   rw[hvw] at q0
   have hm':(m:Int)<f.wires.length:=by omega
   have HSG:=Lib.hid sg6
   clear hvw d0 sg6 wt6
   go_wp2_with fail
   go_quiet (fail)
   have HN5:=Lib.hid (HH.out.below hBw hb15)
   have hB5:B≤w5.heap.size:=Nat.le_trans hBw hb15.size
   have HS:Hid (∀W,Below w5.heap.size w5 W→W.cell? ⟨w.heap.size,0,none⟩=some (.int .i64 op)∧W.cell? ⟨w.heap.size,1,none⟩=some (.int .i64 (m:Int))∧W.cell? ⟨w.heap.size,2,none⟩=some (.int .i64 a)∧W.cell? ⟨w.heap.size,3,none⟩=some (.int .i64 0)∧W.cell? ⟨w.heap.size,4,none⟩=some (.int .i64 c)∧W.cell? ⟨w.heap.size,5,none⟩=some (.int .i64 k)):=fun W hW=>(bX5.below hW hg5).six'
   have HFIN:Hid (∀W,Below w5.heap.size w5 W→Below w.heap.size w W):=fun W hW=>hb15.trans (hW.mono hb15.size)
   go_upto_region 13 with (fail)
   clear c0 c1 c2 c3 c4 c5 q0 d1
   refine wp_region_held_drew (S:=fun W=>W.cell? ⟨w.heap.size,0,none⟩=some (.int .i64 op)∧W.cell? ⟨w.heap.size,1,none⟩=some (.int .i64 (m:Int))∧W.cell? ⟨w.heap.size,2,none⟩=some (.int .i64 a)∧W.cell? ⟨w.heap.size,3,none⟩=some (.int .i64 0)∧W.cell? ⟨w.heap.size,4,none⟩=some (.int .i64 c)∧W.cell? ⟨w.heap.size,5,none⟩=some (.int .i64 k)) (by kernel_rfl) ?_ (fun hHeld=>?_)
   ·(try dsimp only);(first|(with_reducible exact HS.out _ bE)|go_keep)
   refine tk 0 (some 87) rfl ?_
   refine tk 1 (some 88) rfl ?_
   refine tk 2 (some 89) rfl ?_
   refine tk 3 (some 90) rfl ?_
   refine tk 4 (some 91) rfl ?_
   refine tk 5 (some 92) rfl ?_
   refine tk 6 (some 93) rfl ?_
   refine tk 7 (some 94) rfl ?_
   refine tk 8 (some 95) rfl ?_
   refine tk 9 (some 96) rfl ?_
   refine sk 10 (some 97) rfl ?_
   refine sk 11 (some 98) rfl ?_
   refine sk 12 (some 99) rfl ?_
   refine sk 13 (some 100) rfl ?_
   refine sk 14 (some 101) rfl ?_
   refine sk 15 (some 102) rfl ?_
   refine sk 16 (some 103) rfl ?_
   refine tk 17 (some 104) rfl ?_
   refine tk 18 (some 105) rfl ?_
   refine sk 19 (some 106) rfl ?_
   refine sk 20 (some 107) rfl ?_
   refine sk 21 (some 108) rfl ?_
   refine sk 22 (some 109) rfl ?_
   refine sk 23 (some 110) rfl ?_
   refine sk 24 (some 111) rfl ?_
   refine sk 25 (some 112) rfl ?_
   refine sk 26 (some 113) rfl ?_
   refine sk 27 (some 114) rfl ?_
   refine tk 28 (some 115) rfl ?_
   refine tk 29 (some 4) rfl ?_
   refine wpAnyH_done (by kernel_rfl) ?_ _
   go_wp2_with fail
   go_ret
   exact ⟨ret_bool HQ.out.symm,HFIN.out _ bE⟩
  ·subst hz0;subst hz1
   have bX:=Row.new w #[.int .i64 op,.int .i64 dst,.int .i64 a,.int .i64 0,.int .i64 0,.int .i64 k] 58
   have b1:Below w.heap.size w (w.alloc (.cells #[.int .i64 op,.int .i64 dst,.int .i64 a,.int .i64 0,.int .i64 0,.int .i64 k] 58)):=bE
   have hg1:=bX.lt
   go_enter Tryz.func28,Tryz.ntmps28
   go_upto_region 1 with (fail)
   generalize hW1:w.alloc (.cells #[.int .i64 op,.int .i64 dst,.int .i64 a,.int .i64 0,.int .i64 0,.int .i64 k] 58)=w1 at*
   clear hW1
   obtain ⟨c0,c1,c2,c3,c4,c5⟩:=bX.six'
   go_wp2_with fail
   (with_reducible refine (is3_b HH.out hBw wa wb wc HV3.out b1).mono ?_)
   rintro e w5 ⟨rfl,hb5⟩
   have hb15:=b1.trans (hb5.mono b1.size)
   have bX5:=bX.below hb5 hg1
   have hg5:w.heap.size<w5.heap.size:=bX5.lt
   clear c0 c1 c2 c3 c4 c5 hb5 bX b1
   obtain ⟨c0,c1,c2,c3,c4,c5⟩:=bX5.six'
   go_wp2_with fail
   (with_reducible refine (Ar.sign_any op _).mono ?_)
   rintro e w' ⟨rfl,rfl⟩
   rw[sg]
   generalize Ar.signIn op=si at*
   generalize Ar.signOut op=so at*
   clear sg
   obtain ⟨m,b6,off6,cw6,Ag6,cg6,hmd,hm,hvw,lw6,mw6,hb6,wt6,d0,d1,lg6,mg6,sg6⟩:=(HH.out.below hBw hb15).wire hd
   subst hmd
   have q0:=(HH.out.below hBw hb15).row.eight.1.1
   have HVW:=Lib.hid hvw
   rw[hvw] at q0
   have hm':(m:Int)<f.wires.length:=by omega
   have HSG:=Lib.hid sg6
   clear hvw d0 sg6 wt6
   go_wp2_with fail
   go_quiet (fail)
   have HN5:=Lib.hid (HH.out.below hBw hb15)
   have hB5:B≤w5.heap.size:=Nat.le_trans hBw hb15.size
   have HS:Hid (∀W,Below w5.heap.size w5 W→W.cell? ⟨w.heap.size,0,none⟩=some (.int .i64 op)∧W.cell? ⟨w.heap.size,1,none⟩=some (.int .i64 (m:Int))∧W.cell? ⟨w.heap.size,2,none⟩=some (.int .i64 a)∧W.cell? ⟨w.heap.size,3,none⟩=some (.int .i64 0)∧W.cell? ⟨w.heap.size,4,none⟩=some (.int .i64 0)∧W.cell? ⟨w.heap.size,5,none⟩=some (.int .i64 k)):=fun W hW=>(bX5.below hW hg5).six'
   have HFIN:Hid (∀W,Below w5.heap.size w5 W→Below w.heap.size w W):=fun W hW=>hb15.trans (hW.mono hb15.size)
   go_upto_region 13 with (fail)
   clear c0 c1 c2 c3 c4 c5 q0 d1
   refine wp_region_held_drew (S:=fun W=>W.cell? ⟨w.heap.size,0,none⟩=some (.int .i64 op)∧W.cell? ⟨w.heap.size,1,none⟩=some (.int .i64 (m:Int))∧W.cell? ⟨w.heap.size,2,none⟩=some (.int .i64 a)∧W.cell? ⟨w.heap.size,3,none⟩=some (.int .i64 0)∧W.cell? ⟨w.heap.size,4,none⟩=some (.int .i64 0)∧W.cell? ⟨w.heap.size,5,none⟩=some (.int .i64 k)) (by kernel_rfl) ?_ (fun hHeld=>?_)
   ·(try dsimp only);(first|(with_reducible exact HS.out _ bE)|go_keep)
   refine tk 0 (some 87) rfl ?_
   refine tk 1 (some 88) rfl ?_
   refine tk 2 (some 89) rfl ?_
   refine tk 3 (some 90) rfl ?_
   refine tk 4 (some 91) rfl ?_
   refine tk 5 (some 92) rfl ?_
   refine tk 6 (some 93) rfl ?_
   refine tk 7 (some 94) rfl ?_
   refine tk 8 (some 95) rfl ?_
   refine tk 9 (some 96) rfl ?_
   refine sk 10 (some 97) rfl ?_
   refine sk 11 (some 98) rfl ?_
   refine sk 12 (some 99) rfl ?_
   refine sk 13 (some 100) rfl ?_
   refine sk 14 (some 101) rfl ?_
   refine sk 15 (some 102) rfl ?_
   refine sk 16 (some 103) rfl ?_
   refine tk 17 (some 104) rfl ?_
   refine tk 18 (some 105) rfl ?_
   refine sk 19 (some 106) rfl ?_
   refine sk 20 (some 107) rfl ?_
   refine sk 21 (some 108) rfl ?_
   refine sk 22 (some 109) rfl ?_
   refine sk 23 (some 110) rfl ?_
   refine sk 24 (some 111) rfl ?_
   refine sk 25 (some 112) rfl ?_
   refine sk 26 (some 113) rfl ?_
   refine sk 27 (some 114) rfl ?_
   refine tk 28 (some 115) rfl ?_
   refine tk 29 (some 4) rfl ?_
   refine wpAnyH_done (by kernel_rfl) ?_ _
   go_wp2_with fail
   go_ret
   exact ⟨ret_bool HQ.out.symm,HFIN.out _ bE⟩
 obtain ⟨rfl,rfl,rfl⟩:=h0
 have ha:=hall.1
 have HQ:Hid (cB (actOk f ⟨op,dst,a,0,0,0⟩)=(cB (clockOf f dst=clockOf f a) && cB (tyOf f dst=tyOf f a))):=by
  show _=_
  rw[←cB_and]
  exact cB_congr (HIFF.out.trans ⟨fun g=>g.2,fun g=>⟨⟨rfl,rfl,rfl⟩,g⟩⟩)
 rw[cB_beq] at HQ
 generalize cB (actOk f ⟨op,dst,a,0,0,0⟩)=R at*
 generalize hV:cB (clockOf f dst=clockOf f a)=V at*
 generalize hTa:tyOf f a=Ta at*
 generalize hTd:tyOf f dst=Td at*
 have HV:=Lib.hid hV
 have HTa:=Lib.hid hTa
 have HTd:=Lib.hid hTd
 clear hV hTa hTd HIFF
 generalize he3:(Td==Ta)=b3 at*
 have bX:=Row.new w #[.int .i64 op,.int .i64 dst,.int .i64 a,.int .i64 0,.int .i64 0,.int .i64 0] 58
 have b1:Below w.heap.size w (w.alloc (.cells #[.int .i64 op,.int .i64 dst,.int .i64 a,.int .i64 0,.int .i64 0,.int .i64 0] 58)):=bE
 have hg1:=bX.lt
 go_enter Tryz.func28,Tryz.ntmps28
 go_upto_region 1 with (fail)
 generalize hW1:w.alloc (.cells #[.int .i64 op,.int .i64 dst,.int .i64 a,.int .i64 0,.int .i64 0,.int .i64 0] 58)=w1 at*
 clear hW1
 obtain ⟨c0,c1,c2,c3,c4,c5⟩:=bX.six'
 go_wp2_with fail
 (with_reducible refine (is3_b HH.out hBw wa wb wc HV3.out b1).mono ?_)
 rintro e w5 ⟨rfl,hb5⟩
 have hb15:=b1.trans (hb5.mono b1.size)
 have bX5:=bX.below hb5 hg1
 have hg5:w.heap.size<w5.heap.size:=bX5.lt
 clear c0 c1 c2 c3 c4 c5 hb5 bX b1
 obtain ⟨c0,c1,c2,c3,c4,c5⟩:=bX5.six'
 go_wp2_with fail
 (with_reducible refine (Ar.sign_any op _).mono ?_)
 rintro e w' ⟨rfl,rfl⟩
 rw[sg]
 generalize Ar.signIn op=si at*
 generalize Ar.signOut op=so at*
 clear sg
 obtain ⟨m,b6,off6,cw6,Ag6,cg6,hmd,hm,hvw,lw6,mw6,hb6,wt6,d0,d1,lg6,mg6,sg6⟩:=(HH.out.below hBw hb15).wire hd
 subst hmd
 have q0:=(HH.out.below hBw hb15).row.eight.1.1
 have HVW:=Lib.hid hvw
 rw[hvw] at q0
 have hm':(m:Int)<f.wires.length:=by omega
 have HSG:=Lib.hid sg6
 clear hvw d0 sg6 wt6
 go_wp2_with fail
 go_quiet (fail)
 have HN5:=Lib.hid (HH.out.below hBw hb15)
 have hB5:B≤w5.heap.size:=Nat.le_trans hBw hb15.size
 have HS:Hid (∀W,Below w5.heap.size w5 W→W.cell? ⟨w.heap.size,0,none⟩=some (.int .i64 op)∧W.cell? ⟨w.heap.size,1,none⟩=some (.int .i64 (m:Int))∧W.cell? ⟨w.heap.size,2,none⟩=some (.int .i64 a)∧W.cell? ⟨w.heap.size,3,none⟩=some (.int .i64 0)∧W.cell? ⟨w.heap.size,4,none⟩=some (.int .i64 0)∧W.cell? ⟨w.heap.size,5,none⟩=some (.int .i64 0)):=fun W hW=>(bX5.below hW hg5).six'
 have HFIN:Hid (∀W,Below w5.heap.size w5 W→Below w.heap.size w W):=fun W hW=>hb15.trans (hW.mono hb15.size)
 go_upto_region 13 with (fail)
 clear c0 c1 c2 c3 c4 c5 q0 d1
 refine wp_region_held_drew (S:=fun W=>W.cell? ⟨w.heap.size,0,none⟩=some (.int .i64 op)∧W.cell? ⟨w.heap.size,1,none⟩=some (.int .i64 (m:Int))∧W.cell? ⟨w.heap.size,2,none⟩=some (.int .i64 a)∧W.cell? ⟨w.heap.size,3,none⟩=some (.int .i64 0)∧W.cell? ⟨w.heap.size,4,none⟩=some (.int .i64 0)∧W.cell? ⟨w.heap.size,5,none⟩=some (.int .i64 0)) (by kernel_rfl) ?_ (fun hHeld=>?_)
 ·(try dsimp only);(first|(with_reducible exact HS.out _ bE)|go_keep)
 refine tk 0 (some 87) rfl ?_
 refine tk 1 (some 88) rfl ?_
 refine tk 2 (some 89) rfl ?_
 refine tk 3 (some 90) rfl ?_
 refine tk 4 (some 91) rfl ?_
 refine tk 5 (some 92) rfl ?_
 refine tk 6 (some 93) rfl ?_
 refine tk 7 (some 94) rfl ?_
 refine tk 8 (some 95) rfl ?_
 refine tk 9 (some 96) rfl ?_
 refine tk 10 (some 97) rfl ?_
 refine tk 11 (some 98) rfl ?_
 refine tk 12 (some 99) rfl ?_
 refine tk 13 (some 100) rfl ?_
 refine tk 14 (some 101) rfl ?_
 refine rd1 15 (some 102) rfl (fun KK hKK=>?_)
 go_simp
 refine hKK.out _ _ ?_ (fun hHeld=>?_)
 ·(try dsimp only);(first|(with_reducible exact HS.out _ bE)|go_keep)
 clear hKK KK
 try simp only[Act.put,List.setIfInBounds_toArray,List.set_cons_zero,List.set_cons_succ]
 refine rd1 16 (some 103) rfl (fun KK hKK=>?_)
 go_simp
 (go_at_call 65;(refine (alike2_c HN5.out hB5 hd ha wd wa HV.out bE (by rfl)).mono ?_);rintro e w8 ⟨rfl,hb8⟩;(have hb9:Below w5.heap.size w5 w8:=Below.trans bE (hb8.mono lE));(have hs9:=hb9.size))
 (try go_wp2_with fail)
 refine hKK.out _ _ ?_ (fun hHeld=>?_)
 ·(try dsimp only);(first|(with_reducible exact HS.out _ bE)|go_keep)
 clear hKK KK
 try simp only[Act.put,List.setIfInBounds_toArray,List.set_cons_zero,List.set_cons_succ]
 refine tk 17 (some 104) rfl ?_
 refine tk 18 (some 105) rfl ?_
 cases V
 ·refine sk 19 (some 106) rfl ?_
  refine sk 20 (some 107) rfl ?_
  refine sk 21 (some 108) rfl ?_
  refine sk 22 (some 109) rfl ?_
  refine sk 23 (some 110) rfl ?_
  refine sk 24 (some 111) rfl ?_
  refine sk 25 (some 112) rfl ?_
  refine sk 26 (some 113) rfl ?_
  refine sk 27 (some 114) rfl ?_
  refine tk 28 (some 115) rfl ?_
  refine tk 29 (some 4) rfl ?_
  refine wpAnyH_done (by kernel_rfl) ?_ _
  go_wp2_with fail
  go_ret
  exact ⟨ret_bool HQ.out.symm,HFIN.out _ bE⟩
 refine tk 19 (some 106) rfl ?_
 refine tk 20 (some 107) rfl ?_
 refine tk 21 (some 108) rfl ?_
 refine tk 23 (some 110) rfl ?_
 refine tk 24 (some 111) rfl ?_
 refine tk 25 (some 112) rfl ?_
 refine rd1 22 (some 109) rfl (fun KK hKK=>?_)
 go_simp
 (go_at_call 64;(first|(with_reducible refine (kind_b HN5.out hB5 hd HTd.out bE).mono ?_)|(with_reducible refine (kind_b HN5.out hB5 ha HTa.out bE).mono ?_));rintro e w8 ⟨rfl,rfl⟩)
 (try go_wp2_with fail)
 refine hKK.out _ _ ?_ (fun hHeld=>?_)
 ·(try dsimp only);(first|(with_reducible exact HS.out _ bE)|go_keep)
 clear hKK KK
 try simp only[Act.put,List.setIfInBounds_toArray,List.set_cons_zero,List.set_cons_succ]
 refine rd1 26 (some 113) rfl (fun KK hKK=>?_)
 go_simp
 (go_at_call 64;(first|(with_reducible refine (kind_b HN5.out hB5 hd HTd.out bE).mono ?_)|(with_reducible refine (kind_b HN5.out hB5 ha HTa.out bE).mono ?_));rintro e w8 ⟨rfl,rfl⟩)
 (try go_wp2_with fail)
 refine hKK.out _ _ ?_ (fun hHeld=>?_)
 ·(try dsimp only);(first|(with_reducible exact HS.out _ bE)|go_keep)
 clear hKK KK
 try simp only[Act.put,List.setIfInBounds_toArray,List.set_cons_zero,List.set_cons_succ]
 refine tk 27 (some 114) rfl ?_
 refine tk 28 (some 115) rfl ?_
 refine tk 29 (some 4) rfl ?_
 refine wpAnyH_done (by kernel_rfl) ?_ _
 go_wp2_with fail
 go_ret
 exact ⟨ret_bool HQ.out.symm,HFIN.out _ bE⟩
end
end Go.Proofs.YtckognjamlckcaaGreatDoor
namespace Go.Proofs.YtckognjamlckcaaGreatDoor
open Go.RowKit Vf Fo
attribute [local go_sem ↓] Go.wp_at_zero Go.wp_at_succ
section
variable {w:World} {B L:Nat} {f:Fm} {vw va vc vk vi vo vb ve:Value}
set_option maxRecDepth 100000 in
set_option maxHeartbeats 2000000 in
theorem nact_27 (h:NkAt w B L f vw va vc vk vi vo vb ve) (hB:B≤w.heap.size) (op dst a b c k:Int) (wx:AcIn ⟨op,dst,a,b,c,k⟩) (hd:isW f dst) (hop:op=27) (hall:allW3 f a b c):
  Calls Tryz.prog 28 #[.pointer (some ⟨L,0,none⟩),.agg #[.int .i64 op,.int .i64 dst,.int .i64 a,.int .i64 b,.int .i64 c,.int .i64 k]] w fun e w'=>e= .returned (.bool (cB (actOk f ⟨op,dst,a,b,c,k⟩)))∧Below w.heap.size w w':=by
 have HH:=Lib.hid h
 have hBw:=hB
 obtain ⟨wop,wd,wa,wb,wc,wk⟩:=wx
 dsimp only at wop wd wa wb wc wk
 clear h hB
 obtain ⟨ha,hb,hc⟩:=hall
 have hall:allW3 f a b c:=⟨ha,hb,hc⟩
 have HQ:Hid (cB (actOk f ⟨op,dst,a,b,c,k⟩)=(cB (k=0) && (cB (clockOf f dst=clockOf f a∧clockOf f dst=clockOf f b∧clockOf f dst=clockOf f c) && (cB (tyOf f a=2) && (cB (tyOf f b=tyOf f c) && cB (tyOf f dst=tyOf f b)))))):=by
  show _=_
  rw[←cB_and,←cB_and,←cB_and,←cB_and]
  exact cB_congr (act_iff27 hop hall)
 rw[cB_beq (x:=k),cB_beq (x:=tyOf f a),cB_beq (x:=tyOf f b),cB_beq (x:=tyOf f dst)] at HQ
 have HV3:Hid (cB (isW f a∧isW f b∧isW f c)=true):=cB_true hall
 have sg:Ar.signB op=false:=by simp[Ar.signB];omega
 have o1:(op==1)=false:=by rw[beq_eq_false_iff_ne];omega
 have o2:(op==2)=false:=by rw[beq_eq_false_iff_ne];omega
 have o3:(op==3)=false:=by rw[beq_eq_false_iff_ne];omega
 have o27:(op==27)=true:=by rw[beq_iff_eq];omega
 have o24:(op==24)=false:=by rw[beq_eq_false_iff_ne];omega
 have o26:(op==26)=false:=by rw[beq_eq_false_iff_ne];omega
 have o21:(op==21)=false:=by rw[beq_eq_false_iff_ne];omega
 clear hop
 generalize cB (actOk f ⟨op,dst,a,b,c,k⟩)=R at*
 generalize hV:cB (clockOf f dst=clockOf f a∧clockOf f dst=clockOf f b∧clockOf f dst=clockOf f c)=V at*
 generalize hTa:tyOf f a=Ta at*
 generalize hTb:tyOf f b=Tb at*
 generalize hTc:tyOf f c=Tc at*
 generalize hTd:tyOf f dst=Td at*
 have HV:=Lib.hid hV
 have HTa:=Lib.hid hTa
 have HTb:=Lib.hid hTb
 have HTc:=Lib.hid hTc
 have HTd:=Lib.hid hTd
 clear hV hTa hTb hTc hTd
 generalize hb1:(k==0)=b1 at*
 generalize he1:(Ta==2)=e1 at*
 generalize he2:(Tb==Tc)=e2 at*
 generalize he3:(Td==Tb)=e3 at*
 have bX:=Row.new w #[.int .i64 op,.int .i64 dst,.int .i64 a,.int .i64 b,.int .i64 c,.int .i64 k] 58
 have b1:Below w.heap.size w (w.alloc (.cells #[.int .i64 op,.int .i64 dst,.int .i64 a,.int .i64 b,.int .i64 c,.int .i64 k] 58)):=bE
 have hg1:=bX.lt
 go_enter Tryz.func28,Tryz.ntmps28
 go_upto_region 1 with (fail)
 generalize hW1:w.alloc (.cells #[.int .i64 op,.int .i64 dst,.int .i64 a,.int .i64 b,.int .i64 c,.int .i64 k] 58)=w1 at*
 clear hW1
 obtain ⟨c0,c1,c2,c3,c4,c5⟩:=bX.six'
 go_wp2_with fail
 (with_reducible refine (is3_b HH.out hBw wa wb wc HV3.out b1).mono ?_)
 rintro e w5 ⟨rfl,hb5⟩
 have hb15:=b1.trans (hb5.mono b1.size)
 have bX5:=bX.below hb5 hg1
 have hg5:w.heap.size<w5.heap.size:=bX5.lt
 clear c0 c1 c2 c3 c4 c5 hb5 bX b1
 obtain ⟨c0,c1,c2,c3,c4,c5⟩:=bX5.six'
 go_wp2_with fail
 (with_reducible refine (Ar.sign_any op _).mono ?_)
 rintro e w' ⟨rfl,rfl⟩
 rw[sg]
 generalize Ar.signIn op=si at*
 generalize Ar.signOut op=so at*
 clear sg
 obtain ⟨m,b6,off6,cw6,Ag6,cg6,hmd,hm,hvw,lw6,mw6,hb6,wt6,d0,d1,lg6,mg6,sg6⟩:=(HH.out.below hBw hb15).wire hd
 subst hmd
 have q0:=(HH.out.below hBw hb15).row.eight.1.1
 have HVW:=Lib.hid hvw
 rw[hvw] at q0
 have hm':(m:Int)<f.wires.length:=by omega
 have HSG:=Lib.hid sg6
 clear hvw d0 sg6 wt6
 go_wp2_with fail
 go_quiet (fail)
 have HN5:=Lib.hid (HH.out.below hBw hb15)
 have hB5:B≤w5.heap.size:=Nat.le_trans hBw hb15.size
 have HS:Hid (∀W,Below w5.heap.size w5 W→W.cell? ⟨w.heap.size,0,none⟩=some (.int .i64 op)∧W.cell? ⟨w.heap.size,1,none⟩=some (.int .i64 (m:Int))∧W.cell? ⟨w.heap.size,2,none⟩=some (.int .i64 a)∧W.cell? ⟨w.heap.size,3,none⟩=some (.int .i64 b)∧W.cell? ⟨w.heap.size,4,none⟩=some (.int .i64 c)∧W.cell? ⟨w.heap.size,5,none⟩=some (.int .i64 k)):=fun W hW=>(bX5.below hW hg5).six'
 have HFIN:Hid (∀W,Below w5.heap.size w5 W→Below w.heap.size w W):=fun W hW=>hb15.trans (hW.mono hb15.size)
 go_upto_region 15 with (fail)
 clear c0 c1 c2 c3 c4 c5 q0 d1
 refine wp_region_held_drew (S:=fun W=>W.cell? ⟨w.heap.size,0,none⟩=some (.int .i64 op)∧W.cell? ⟨w.heap.size,1,none⟩=some (.int .i64 (m:Int))∧W.cell? ⟨w.heap.size,2,none⟩=some (.int .i64 a)∧W.cell? ⟨w.heap.size,3,none⟩=some (.int .i64 b)∧W.cell? ⟨w.heap.size,4,none⟩=some (.int .i64 c)∧W.cell? ⟨w.heap.size,5,none⟩=some (.int .i64 k)) (by kernel_rfl) ?_ (fun hHeld=>?_)
 ·(try dsimp only);(first|(with_reducible exact HS.out _ bE)|go_keep)
 refine tk 0 (some 118) rfl ?_
 refine tk 1 (some 119) rfl ?_
 refine tk 2 (some 120) rfl ?_
 refine tk 3 (some 121) rfl ?_
 cases b1
 ·refine sk 4 (some 122) rfl ?_
  refine sk 5 (some 123) rfl ?_
  refine sk 6 (some 124) rfl ?_
  refine sk 7 (some 125) rfl ?_
  refine sk 8 (some 126) rfl ?_
  refine sk 9 (some 127) rfl ?_
  refine sk 10 (some 128) rfl ?_
  refine sk 11 (some 129) rfl ?_
  refine sk 12 (some 130) rfl ?_
  refine sk 13 (some 131) rfl ?_
  refine sk 14 (some 132) rfl ?_
  refine tk 15 (some 133) rfl ?_
  refine tk 16 (some 134) rfl ?_
  refine sk 17 (some 135) rfl ?_
  refine sk 18 (some 136) rfl ?_
  refine sk 19 (some 137) rfl ?_
  refine sk 20 (some 138) rfl ?_
  refine sk 21 (some 139) rfl ?_
  refine tk 22 (some 140) rfl ?_
  refine tk 23 (some 141) rfl ?_
  refine sk 24 (some 142) rfl ?_
  refine sk 25 (some 143) rfl ?_
  refine sk 26 (some 144) rfl ?_
  refine sk 27 (some 145) rfl ?_
  refine sk 28 (some 146) rfl ?_
  refine sk 29 (some 147) rfl ?_
  refine sk 30 (some 148) rfl ?_
  refine sk 31 (some 149) rfl ?_
  refine sk 32 (some 150) rfl ?_
  refine tk 33 (some 151) rfl ?_
  refine tk 34 (some 152) rfl ?_
  refine sk 35 (some 153) rfl ?_
  refine sk 36 (some 154) rfl ?_
  refine sk 37 (some 155) rfl ?_
  refine sk 38 (some 156) rfl ?_
  refine sk 39 (some 157) rfl ?_
  refine sk 40 (some 158) rfl ?_
  refine sk 41 (some 159) rfl ?_
  refine sk 42 (some 160) rfl ?_
  refine sk 43 (some 161) rfl ?_
  refine tk 44 (some 162) rfl ?_
  refine tk 45 (some 4) rfl ?_
  refine wpAnyH_done (by kernel_rfl) ?_ _
  go_wp2_with fail
  go_ret
  exact ⟨ret_bool HQ.out.symm,HFIN.out _ bE⟩
 refine tk 4 (some 122) rfl ?_
 refine tk 5 (some 123) rfl ?_
 refine tk 6 (some 124) rfl ?_
 refine tk 7 (some 125) rfl ?_
 refine tk 8 (some 126) rfl ?_
 refine tk 9 (some 127) rfl ?_
 refine tk 10 (some 128) rfl ?_
 refine tk 11 (some 129) rfl ?_
 refine tk 12 (some 130) rfl ?_
 refine rd1 13 (some 131) rfl (fun KK hKK=>?_)
 go_simp
 refine hKK.out _ _ ?_ (fun hHeld=>?_)
 ·(try dsimp only);(first|(with_reducible exact HS.out _ bE)|go_keep)
 clear hKK KK
 try simp only[Act.put,List.setIfInBounds_toArray,List.set_cons_zero,List.set_cons_succ]
 refine rd1 14 (some 132) rfl (fun KK hKK=>?_)
 go_simp
 (go_at_call 65;(refine (alike4_c HN5.out hB5 hd ha hb hc wd wa wb wc HV.out bE (by rfl)).mono ?_);rintro e w8 ⟨rfl,hb8⟩;(have hb9:Below w5.heap.size w5 w8:=Below.trans bE (hb8.mono lE));(have hs9:=hb9.size))
 (try go_wp2_with fail)
 refine hKK.out _ _ ?_ (fun hHeld=>?_)
 ·(try dsimp only);(first|(with_reducible exact HS.out _ bE)|go_keep)
 clear hKK KK
 try simp only[Act.put,List.setIfInBounds_toArray,List.set_cons_zero,List.set_cons_succ]
 refine tk 15 (some 133) rfl ?_
 refine tk 16 (some 134) rfl ?_
 cases V
 ·refine sk 17 (some 135) rfl ?_
  refine sk 18 (some 136) rfl ?_
  refine sk 19 (some 137) rfl ?_
  refine sk 20 (some 138) rfl ?_
  refine sk 21 (some 139) rfl ?_
  refine tk 22 (some 140) rfl ?_
  refine tk 23 (some 141) rfl ?_
  refine sk 24 (some 142) rfl ?_
  refine sk 25 (some 143) rfl ?_
  refine sk 26 (some 144) rfl ?_
  refine sk 27 (some 145) rfl ?_
  refine sk 28 (some 146) rfl ?_
  refine sk 29 (some 147) rfl ?_
  refine sk 30 (some 148) rfl ?_
  refine sk 31 (some 149) rfl ?_
  refine sk 32 (some 150) rfl ?_
  refine tk 33 (some 151) rfl ?_
  refine tk 34 (some 152) rfl ?_
  refine sk 35 (some 153) rfl ?_
  refine sk 36 (some 154) rfl ?_
  refine sk 37 (some 155) rfl ?_
  refine sk 38 (some 156) rfl ?_
  refine sk 39 (some 157) rfl ?_
  refine sk 40 (some 158) rfl ?_
  refine sk 41 (some 159) rfl ?_
  refine sk 42 (some 160) rfl ?_
  refine sk 43 (some 161) rfl ?_
  refine tk 44 (some 162) rfl ?_
  refine tk 45 (some 4) rfl ?_
  refine wpAnyH_done (by kernel_rfl) ?_ _
  go_wp2_with fail
  go_ret
  exact ⟨ret_bool HQ.out.symm,HFIN.out _ bE⟩
 refine tk 17 (some 135) rfl ?_
 refine tk 18 (some 136) rfl ?_
 refine tk 19 (some 137) rfl ?_
 refine rd1 20 (some 138) rfl (fun KK hKK=>?_)
 go_simp
 (go_at_call 64;(first|(with_reducible refine (kind_b HN5.out hB5 hd HTd.out bE).mono ?_)|(with_reducible refine (kind_b HN5.out hB5 ha HTa.out bE).mono ?_)|(with_reducible refine (kind_b HN5.out hB5 hb HTb.out bE).mono ?_)|(with_reducible refine (kind_b HN5.out hB5 hc HTc.out bE).mono ?_));rintro e w8 ⟨rfl,rfl⟩)
 (try go_wp2_with fail)
 refine hKK.out _ _ ?_ (fun hHeld=>?_)
 ·(try dsimp only);(first|(with_reducible exact HS.out _ bE)|go_keep)
 clear hKK KK
 try simp only[Act.put,List.setIfInBounds_toArray,List.set_cons_zero,List.set_cons_succ]
 refine tk 21 (some 139) rfl ?_
 refine tk 22 (some 140) rfl ?_
 refine tk 23 (some 141) rfl ?_
 cases e1
 ·refine sk 24 (some 142) rfl ?_
  refine sk 25 (some 143) rfl ?_
  refine sk 26 (some 144) rfl ?_
  refine sk 27 (some 145) rfl ?_
  refine sk 28 (some 146) rfl ?_
  refine sk 29 (some 147) rfl ?_
  refine sk 30 (some 148) rfl ?_
  refine sk 31 (some 149) rfl ?_
  refine sk 32 (some 150) rfl ?_
  refine tk 33 (some 151) rfl ?_
  refine tk 34 (some 152) rfl ?_
  refine sk 35 (some 153) rfl ?_
  refine sk 36 (some 154) rfl ?_
  refine sk 37 (some 155) rfl ?_
  refine sk 38 (some 156) rfl ?_
  refine sk 39 (some 157) rfl ?_
  refine sk 40 (some 158) rfl ?_
  refine sk 41 (some 159) rfl ?_
  refine sk 42 (some 160) rfl ?_
  refine sk 43 (some 161) rfl ?_
  refine tk 44 (some 162) rfl ?_
  refine tk 45 (some 4) rfl ?_
  refine wpAnyH_done (by kernel_rfl) ?_ _
  go_wp2_with fail
  go_ret
  exact ⟨ret_bool HQ.out.symm,HFIN.out _ bE⟩
 refine tk 24 (some 142) rfl ?_
 refine tk 25 (some 143) rfl ?_
 refine tk 26 (some 144) rfl ?_
 refine tk 28 (some 146) rfl ?_
 refine tk 29 (some 147) rfl ?_
 refine tk 30 (some 148) rfl ?_
 refine rd1 27 (some 145) rfl (fun KK hKK=>?_)
 go_simp
 (go_at_call 64;(first|(with_reducible refine (kind_b HN5.out hB5 hd HTd.out bE).mono ?_)|(with_reducible refine (kind_b HN5.out hB5 ha HTa.out bE).mono ?_)|(with_reducible refine (kind_b HN5.out hB5 hb HTb.out bE).mono ?_)|(with_reducible refine (kind_b HN5.out hB5 hc HTc.out bE).mono ?_));rintro e w8 ⟨rfl,rfl⟩)
 (try go_wp2_with fail)
 refine hKK.out _ _ ?_ (fun hHeld=>?_)
 ·(try dsimp only);(first|(with_reducible exact HS.out _ bE)|go_keep)
 clear hKK KK
 try simp only[Act.put,List.setIfInBounds_toArray,List.set_cons_zero,List.set_cons_succ]
 refine rd1 31 (some 149) rfl (fun KK hKK=>?_)
 go_simp
 (go_at_call 64;(first|(with_reducible refine (kind_b HN5.out hB5 hd HTd.out bE).mono ?_)|(with_reducible refine (kind_b HN5.out hB5 ha HTa.out bE).mono ?_)|(with_reducible refine (kind_b HN5.out hB5 hb HTb.out bE).mono ?_)|(with_reducible refine (kind_b HN5.out hB5 hc HTc.out bE).mono ?_));rintro e w8 ⟨rfl,rfl⟩)
 (try go_wp2_with fail)
 refine hKK.out _ _ ?_ (fun hHeld=>?_)
 ·(try dsimp only);(first|(with_reducible exact HS.out _ bE)|go_keep)
 clear hKK KK
 try simp only[Act.put,List.setIfInBounds_toArray,List.set_cons_zero,List.set_cons_succ]
 refine tk 32 (some 150) rfl ?_
 refine tk 33 (some 151) rfl ?_
 refine tk 34 (some 152) rfl ?_
 cases e2
 ·refine sk 35 (some 153) rfl ?_
  refine sk 36 (some 154) rfl ?_
  refine sk 37 (some 155) rfl ?_
  refine sk 38 (some 156) rfl ?_
  refine sk 39 (some 157) rfl ?_
  refine sk 40 (some 158) rfl ?_
  refine sk 41 (some 159) rfl ?_
  refine sk 42 (some 160) rfl ?_
  refine sk 43 (some 161) rfl ?_
  refine tk 44 (some 162) rfl ?_
  refine tk 45 (some 4) rfl ?_
  refine wpAnyH_done (by kernel_rfl) ?_ _
  go_wp2_with fail
  go_ret
  exact ⟨ret_bool HQ.out.symm,HFIN.out _ bE⟩
 refine tk 35 (some 153) rfl ?_
 refine tk 36 (some 154) rfl ?_
 refine tk 37 (some 155) rfl ?_
 refine tk 39 (some 157) rfl ?_
 refine tk 40 (some 158) rfl ?_
 refine tk 41 (some 159) rfl ?_
 refine rd1 38 (some 156) rfl (fun KK hKK=>?_)
 go_simp
 (go_at_call 64;(first|(with_reducible refine (kind_b HN5.out hB5 hd HTd.out bE).mono ?_)|(with_reducible refine (kind_b HN5.out hB5 ha HTa.out bE).mono ?_)|(with_reducible refine (kind_b HN5.out hB5 hb HTb.out bE).mono ?_)|(with_reducible refine (kind_b HN5.out hB5 hc HTc.out bE).mono ?_));rintro e w8 ⟨rfl,rfl⟩)
 (try go_wp2_with fail)
 refine hKK.out _ _ ?_ (fun hHeld=>?_)
 ·(try dsimp only);(first|(with_reducible exact HS.out _ bE)|go_keep)
 clear hKK KK
 try simp only[Act.put,List.setIfInBounds_toArray,List.set_cons_zero,List.set_cons_succ]
 refine rd1 42 (some 160) rfl (fun KK hKK=>?_)
 go_simp
 (go_at_call 64;(first|(with_reducible refine (kind_b HN5.out hB5 hd HTd.out bE).mono ?_)|(with_reducible refine (kind_b HN5.out hB5 ha HTa.out bE).mono ?_)|(with_reducible refine (kind_b HN5.out hB5 hb HTb.out bE).mono ?_)|(with_reducible refine (kind_b HN5.out hB5 hc HTc.out bE).mono ?_));rintro e w8 ⟨rfl,rfl⟩)
 (try go_wp2_with fail)
 refine hKK.out _ _ ?_ (fun hHeld=>?_)
 ·(try dsimp only);(first|(with_reducible exact HS.out _ bE)|go_keep)
 clear hKK KK
 try simp only[Act.put,List.setIfInBounds_toArray,List.set_cons_zero,List.set_cons_succ]
 refine tk 43 (some 161) rfl ?_
 refine tk 44 (some 162) rfl ?_
 refine tk 45 (some 4) rfl ?_
 refine wpAnyH_done (by kernel_rfl) ?_ _
 go_wp2_with fail
 go_ret
 exact ⟨ret_bool HQ.out.symm,HFIN.out _ bE⟩
end
end Go.Proofs.YtckognjamlckcaaGreatDoor
