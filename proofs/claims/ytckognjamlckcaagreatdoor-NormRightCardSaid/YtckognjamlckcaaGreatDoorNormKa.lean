/-
  norm's looker: act, numbers, and what is no op.
-/
import Derived.Test.YtckognjamlckcaaGreatDoorNormK
namespace Go.Proofs.YtckognjamlckcaaGreatDoor
open Go.RowKit Vf Fo
attribute [local go_sem ↓] Go.wp_at_zero Go.wp_at_succ
section
variable {w:World} {B L:Nat} {f:Fm} {vw va vc vk vi vo vb ve:Value}
set_option maxRecDepth 100000 in
set_option maxHeartbeats 2000000 in
theorem nact_1 (h:NkAt w B L f vw va vc vk vi vo vb ve) (hB:B≤w.heap.size) (op dst a b c k:Int) (wx:AcIn ⟨op,dst,a,b,c,k⟩) (hd:isW f dst) (hop:op=1) (hall:allW3 f a b c):
  Calls Tryz.prog 28 #[.pointer (some ⟨L,0,none⟩),.agg #[.int .i64 op,.int .i64 dst,.int .i64 a,.int .i64 b,.int .i64 c,.int .i64 k]] w fun e w'=>e= .returned (.bool (cB (actOk f ⟨op,dst,a,b,c,k⟩)))∧Below w.heap.size w w':=by
 have HH:=Lib.hid h
 have hBw:=hB
 obtain ⟨wop,wd,wa,wb,wc,wk⟩:=wx
 dsimp only at wop wd wa wb wc wk
 clear h hB
 have HIFF:=Lib.hid (act_iff1 (dst:=dst) (k:=k) hop hall)
 have HV3:Hid (cB (isW f a∧isW f b∧isW f c)=true):=cB_true hall
 have sg:Ar.signB op=false:=by simp[Ar.signB];omega
 have o1:(op==1)=true:=by rw[beq_iff_eq];omega
 have o2:(op==2)=false:=by rw[beq_eq_false_iff_ne];omega
 have o3:(op==3)=false:=by rw[beq_eq_false_iff_ne];omega
 have o27:(op==27)=false:=by rw[beq_eq_false_iff_ne];omega
 have o24:(op==24)=false:=by rw[beq_eq_false_iff_ne];omega
 have o26:(op==26)=false:=by rw[beq_eq_false_iff_ne];omega
 have o21:(op==21)=false:=by rw[beq_eq_false_iff_ne];omega
 clear hop
 by_cases h0:a=0∧b=0∧c=0
 rotate_left 1
 ·have HF:=Lib.hid (cB_false (show ¬actOk f ⟨op,dst,a,b,c,k⟩ from fun g=>h0 (HIFF.out.1 g).1))
  generalize cB (actOk f ⟨op,dst,a,b,c,k⟩)=R at*
  have bX:=Row.new w #[.int .i64 op,.int .i64 dst,.int .i64 a,.int .i64 b,.int .i64 c,.int .i64 k] 58
  have b1:Below w.heap.size w (w.alloc (.cells #[.int .i64 op,.int .i64 dst,.int .i64 a,.int .i64 b,.int .i64 c,.int .i64 k] 58)):=bE
  have hg1:=bX.lt
  go_enter Tryz.func28,Tryz.ntmps28
  go_upto_region 1 with (fail)
  generalize hW1:w.alloc (.cells #[.int .i64 op,.int .i64 dst,.int .i64 a,.int .i64 b,.int .i64 c,.int .i64 k] 58)=w1 at*
  clear hW1
  obtain ⟨c0,c1,c2,c3,c4,c5⟩:=bX.six'
  go_wp2_with fail
  (with_reducible refine (is3_b HH.out hBw wa wb wc HV3.out b1).mono ?_)
  rintro e w5 ⟨rfl,hb5⟩
  have hb15:=b1.trans (hb5.mono b1.size)
  have bX5:=bX.below hb5 hg1
  have hg5:w.heap.size<w5.heap.size:=bX5.lt
  clear c0 c1 c2 c3 c4 c5 hb5 bX b1
  obtain ⟨c0,c1,c2,c3,c4,c5⟩:=bX5.six'
  go_wp2_with fail
  (with_reducible refine (Ar.sign_any op _).mono ?_)
  rintro e w' ⟨rfl,rfl⟩
  rw[sg]
  generalize Ar.signIn op=si at*
  generalize Ar.signOut op=so at*
  clear sg
  obtain ⟨m,b6,off6,cw6,Ag6,cg6,hmd,hm,hvw,lw6,mw6,hb6,wt6,d0,d1,lg6,mg6,sg6⟩:=(HH.out.below hBw hb15).wire hd
  subst hmd
  have q0:=(HH.out.below hBw hb15).row.eight.1.1
  have HVW:=Lib.hid hvw
  rw[hvw] at q0
  have hm':(m:Int)<f.wires.length:=by omega
  have HSG:=Lib.hid sg6
  clear hvw d0 sg6 wt6
  go_wp2_with fail
  go_quiet (fail)
  go_wp2_with fail
  all_goals
   go_ret
   exact ⟨ret_bool HF.out.symm,by first|exact hb15|exact below_drewN' hb15 _⟩
 obtain ⟨rfl,rfl,rfl⟩:=h0
 have HT:=Lib.hid (rfl:tyOf f dst=tyOf f dst)
 generalize hTd:tyOf f dst=Td at HIFF
 have HTd:=Lib.hid hTd
 clear hTd HT
 by_cases e1:Td=1
 ·have HR:=Lib.hid (cB_true (HIFF.out.2 ⟨⟨rfl,rfl,rfl⟩,e1⟩))
  have e1':(Td==1)=true:=by simp[e1]
  clear e1
  generalize cB (actOk f ⟨op,dst,0,0,0,k⟩)=R at*
  have bX:=Row.new w #[.int .i64 op,.int .i64 dst,.int .i64 0,.int .i64 0,.int .i64 0,.int .i64 k] 58
  have b1:Below w.heap.size w (w.alloc (.cells #[.int .i64 op,.int .i64 dst,.int .i64 0,.int .i64 0,.int .i64 0,.int .i64 k] 58)):=bE
  have hg1:=bX.lt
  go_enter Tryz.func28,Tryz.ntmps28
  go_upto_region 1 with (fail)
  generalize hW1:w.alloc (.cells #[.int .i64 op,.int .i64 dst,.int .i64 0,.int .i64 0,.int .i64 0,.int .i64 k] 58)=w1 at*
  clear hW1
  obtain ⟨c0,c1,c2,c3,c4,c5⟩:=bX.six'
  go_wp2_with fail
  (with_reducible refine (is3_b HH.out hBw wa wb wc HV3.out b1).mono ?_)
  rintro e w5 ⟨rfl,hb5⟩
  have hb15:=b1.trans (hb5.mono b1.size)
  have bX5:=bX.below hb5 hg1
  have hg5:w.heap.size<w5.heap.size:=bX5.lt
  clear c0 c1 c2 c3 c4 c5 hb5 bX b1
  obtain ⟨c0,c1,c2,c3,c4,c5⟩:=bX5.six'
  go_wp2_with fail
  (with_reducible refine (Ar.sign_any op _).mono ?_)
  rintro e w' ⟨rfl,rfl⟩
  rw[sg]
  generalize Ar.signIn op=si at*
  generalize Ar.signOut op=so at*
  clear sg
  obtain ⟨m,b6,off6,cw6,Ag6,cg6,hmd,hm,hvw,lw6,mw6,hb6,wt6,d0,d1,lg6,mg6,sg6⟩:=(HH.out.below hBw hb15).wire hd
  subst hmd
  have q0:=(HH.out.below hBw hb15).row.eight.1.1
  have HVW:=Lib.hid hvw
  rw[hvw] at q0
  have hm':(m:Int)<f.wires.length:=by omega
  have HSG:=Lib.hid sg6
  clear hvw d0 sg6 wt6
  go_wp2_with fail
  go_quiet (fail)
  have hb16:=fun n=>below_drewN' hb15 n
  (try go_wp2_with fail)
  (with_reducible refine (kind_b HH.out hBw hd HTd.out (hb16 _)).mono ?_)
  rintro e w6 ⟨rfl,rfl⟩
  go_wp2_with fail
  go_ret
  exact ⟨ret_bool HR.out.symm,hb16 _⟩
 ·have HR:=Lib.hid (cB_false (fun g=>e1 (HIFF.out.1 g).2))
  have e1':(Td==1)=false:=by simp[e1]
  clear e1
  generalize cB (actOk f ⟨op,dst,0,0,0,k⟩)=R at*
  have bX:=Row.new w #[.int .i64 op,.int .i64 dst,.int .i64 0,.int .i64 0,.int .i64 0,.int .i64 k] 58
  have b1:Below w.heap.size w (w.alloc (.cells #[.int .i64 op,.int .i64 dst,.int .i64 0,.int .i64 0,.int .i64 0,.int .i64 k] 58)):=bE
  have hg1:=bX.lt
  go_enter Tryz.func28,Tryz.ntmps28
  go_upto_region 1 with (fail)
  generalize hW1:w.alloc (.cells #[.int .i64 op,.int .i64 dst,.int .i64 0,.int .i64 0,.int .i64 0,.int .i64 k] 58)=w1 at*
  clear hW1
  obtain ⟨c0,c1,c2,c3,c4,c5⟩:=bX.six'
  go_wp2_with fail
  (with_reducible refine (is3_b HH.out hBw wa wb wc HV3.out b1).mono ?_)
  rintro e w5 ⟨rfl,hb5⟩
  have hb15:=b1.trans (hb5.mono b1.size)
  have bX5:=bX.below hb5 hg1
  have hg5:w.heap.size<w5.heap.size:=bX5.lt
  clear c0 c1 c2 c3 c4 c5 hb5 bX b1
  obtain ⟨c0,c1,c2,c3,c4,c5⟩:=bX5.six'
  go_wp2_with fail
  (with_reducible refine (Ar.sign_any op _).mono ?_)
  rintro e w' ⟨rfl,rfl⟩
  rw[sg]
  generalize Ar.signIn op=si at*
  generalize Ar.signOut op=so at*
  clear sg
  obtain ⟨m,b6,off6,cw6,Ag6,cg6,hmd,hm,hvw,lw6,mw6,hb6,wt6,d0,d1,lg6,mg6,sg6⟩:=(HH.out.below hBw hb15).wire hd
  subst hmd
  have q0:=(HH.out.below hBw hb15).row.eight.1.1
  have HVW:=Lib.hid hvw
  rw[hvw] at q0
  have hm':(m:Int)<f.wires.length:=by omega
  have HSG:=Lib.hid sg6
  clear hvw d0 sg6 wt6
  go_wp2_with fail
  go_quiet (fail)
  have hb16:=fun n=>below_drewN' hb15 n
  (try go_wp2_with fail)
  (with_reducible refine (kind_b HH.out hBw hd HTd.out (hb16 _)).mono ?_)
  rintro e w6 ⟨rfl,rfl⟩
  go_wp2_with fail
  go_ret
  exact ⟨ret_bool HR.out.symm,hb16 _⟩
set_option maxRecDepth 100000 in
set_option maxHeartbeats 2000000 in
theorem nact_2 (h:NkAt w B L f vw va vc vk vi vo vb ve) (hB:B≤w.heap.size) (op dst a b c k:Int) (wx:AcIn ⟨op,dst,a,b,c,k⟩) (hd:isW f dst) (hop:op=2) (hall:allW3 f a b c):
  Calls Tryz.prog 28 #[.pointer (some ⟨L,0,none⟩),.agg #[.int .i64 op,.int .i64 dst,.int .i64 a,.int .i64 b,.int .i64 c,.int .i64 k]] w fun e w'=>e= .returned (.bool (cB (actOk f ⟨op,dst,a,b,c,k⟩)))∧Below w.heap.size w w':=by
 have HH:=Lib.hid h
 have hBw:=hB
 obtain ⟨wop,wd,wa,wb,wc,wk⟩:=wx
 dsimp only at wop wd wa wb wc wk
 clear h hB
 have HIFF:=Lib.hid (act_iff2 (dst:=dst) (k:=k) hop hall)
 have HV3:Hid (cB (isW f a∧isW f b∧isW f c)=true):=cB_true hall
 have sg:Ar.signB op=false:=by simp[Ar.signB];omega
 have o1:(op==1)=false:=by rw[beq_eq_false_iff_ne];omega
 have o2:(op==2)=true:=by rw[beq_iff_eq];omega
 have o3:(op==3)=false:=by rw[beq_eq_false_iff_ne];omega
 have o27:(op==27)=false:=by rw[beq_eq_false_iff_ne];omega
 have o24:(op==24)=false:=by rw[beq_eq_false_iff_ne];omega
 have o26:(op==26)=false:=by rw[beq_eq_false_iff_ne];omega
 have o21:(op==21)=false:=by rw[beq_eq_false_iff_ne];omega
 clear hop
 by_cases h0:a=0∧b=0∧c=0
 rotate_left 1
 ·have HF:=Lib.hid (cB_false (show ¬actOk f ⟨op,dst,a,b,c,k⟩ from fun g=>h0 (HIFF.out.1 g).1))
  generalize cB (actOk f ⟨op,dst,a,b,c,k⟩)=R at*
  have bX:=Row.new w #[.int .i64 op,.int .i64 dst,.int .i64 a,.int .i64 b,.int .i64 c,.int .i64 k] 58
  have b1:Below w.heap.size w (w.alloc (.cells #[.int .i64 op,.int .i64 dst,.int .i64 a,.int .i64 b,.int .i64 c,.int .i64 k] 58)):=bE
  have hg1:=bX.lt
  go_enter Tryz.func28,Tryz.ntmps28
  go_upto_region 1 with (fail)
  generalize hW1:w.alloc (.cells #[.int .i64 op,.int .i64 dst,.int .i64 a,.int .i64 b,.int .i64 c,.int .i64 k] 58)=w1 at*
  clear hW1
  obtain ⟨c0,c1,c2,c3,c4,c5⟩:=bX.six'
  go_wp2_with fail
  (with_reducible refine (is3_b HH.out hBw wa wb wc HV3.out b1).mono ?_)
  rintro e w5 ⟨rfl,hb5⟩
  have hb15:=b1.trans (hb5.mono b1.size)
  have bX5:=bX.below hb5 hg1
  have hg5:w.heap.size<w5.heap.size:=bX5.lt
  clear c0 c1 c2 c3 c4 c5 hb5 bX b1
  obtain ⟨c0,c1,c2,c3,c4,c5⟩:=bX5.six'
  go_wp2_with fail
  (with_reducible refine (Ar.sign_any op _).mono ?_)
  rintro e w' ⟨rfl,rfl⟩
  rw[sg]
  generalize Ar.signIn op=si at*
  generalize Ar.signOut op=so at*
  clear sg
  obtain ⟨m,b6,off6,cw6,Ag6,cg6,hmd,hm,hvw,lw6,mw6,hb6,wt6,d0,d1,lg6,mg6,sg6⟩:=(HH.out.below hBw hb15).wire hd
  subst hmd
  have q0:=(HH.out.below hBw hb15).row.eight.1.1
  have HVW:=Lib.hid hvw
  rw[hvw] at q0
  have hm':(m:Int)<f.wires.length:=by omega
  have HSG:=Lib.hid sg6
  clear hvw d0 sg6 wt6
  go_wp2_with fail
  go_quiet (fail)
  go_wp2_with fail
  all_goals
   go_ret
   exact ⟨ret_bool HF.out.symm,by first|exact hb15|exact below_drewN' hb15 _⟩
 obtain ⟨rfl,rfl,rfl⟩:=h0
 have HT:=Lib.hid (rfl:tyOf f dst=tyOf f dst)
 generalize hTd:tyOf f dst=Td at HIFF
 have HTd:=Lib.hid hTd
 clear hTd HT
 by_cases e1:Td=2
 ·have HR:Hid (cB (actOk f ⟨op,dst,0,0,0,k⟩)=cB (valueOk 2 k)):=cB_congr (HIFF.out.trans ⟨fun g=>g.2.2,fun g=>⟨⟨rfl,rfl,rfl⟩,e1,g⟩⟩)
  have HVT:=Lib.hid (fun W=>ntruth_any 2 k W)
  have e1':(Td==2)=true:=by simp[e1]
  clear e1
  generalize cB (actOk f ⟨op,dst,0,0,0,k⟩)=R at*
  generalize cB (valueOk 2 k)=V at*
  have bX:=Row.new w #[.int .i64 op,.int .i64 dst,.int .i64 0,.int .i64 0,.int .i64 0,.int .i64 k] 58
  have b1:Below w.heap.size w (w.alloc (.cells #[.int .i64 op,.int .i64 dst,.int .i64 0,.int .i64 0,.int .i64 0,.int .i64 k] 58)):=bE
  have hg1:=bX.lt
  go_enter Tryz.func28,Tryz.ntmps28
  go_upto_region 1 with (fail)
  generalize hW1:w.alloc (.cells #[.int .i64 op,.int .i64 dst,.int .i64 0,.int .i64 0,.int .i64 0,.int .i64 k] 58)=w1 at*
  clear hW1
  obtain ⟨c0,c1,c2,c3,c4,c5⟩:=bX.six'
  go_wp2_with fail
  (with_reducible refine (is3_b HH.out hBw wa wb wc HV3.out b1).mono ?_)
  rintro e w5 ⟨rfl,hb5⟩
  have hb15:=b1.trans (hb5.mono b1.size)
  have bX5:=bX.below hb5 hg1
  have hg5:w.heap.size<w5.heap.size:=bX5.lt
  clear c0 c1 c2 c3 c4 c5 hb5 bX b1
  obtain ⟨c0,c1,c2,c3,c4,c5⟩:=bX5.six'
  go_wp2_with fail
  (with_reducible refine (Ar.sign_any op _).mono ?_)
  rintro e w' ⟨rfl,rfl⟩
  rw[sg]
  generalize Ar.signIn op=si at*
  generalize Ar.signOut op=so at*
  clear sg
  obtain ⟨m,b6,off6,cw6,Ag6,cg6,hmd,hm,hvw,lw6,mw6,hb6,wt6,d0,d1,lg6,mg6,sg6⟩:=(HH.out.below hBw hb15).wire hd
  subst hmd
  have q0:=(HH.out.below hBw hb15).row.eight.1.1
  have HVW:=Lib.hid hvw
  rw[hvw] at q0
  have hm':(m:Int)<f.wires.length:=by omega
  have HSG:=Lib.hid sg6
  clear hvw d0 sg6 wt6
  go_wp2_with fail
  go_quiet (fail)
  have hb16:=fun n=>below_drewN' hb15 n
  (try go_wp2_with fail)
  (with_reducible refine (kind_b HH.out hBw hd HTd.out (hb16 _)).mono ?_)
  rintro e w6 ⟨rfl,rfl⟩
  go_wp2_with fail
  (with_reducible refine (HVT.out _).mono ?_)
  rintro e w6 ⟨rfl,rfl⟩
  go_wp2_with fail
  go_ret
  exact ⟨ret_bool HR.out.symm,hb16 _⟩
 ·have HR:=Lib.hid (cB_false (fun g=>e1 (HIFF.out.1 g).2.1))
  have e1':(Td==2)=false:=by simp[e1]
  clear e1
  generalize cB (actOk f ⟨op,dst,0,0,0,k⟩)=R at*
  have bX:=Row.new w #[.int .i64 op,.int .i64 dst,.int .i64 0,.int .i64 0,.int .i64 0,.int .i64 k] 58
  have b1:Below w.heap.size w (w.alloc (.cells #[.int .i64 op,.int .i64 dst,.int .i64 0,.int .i64 0,.int .i64 0,.int .i64 k] 58)):=bE
  have hg1:=bX.lt
  go_enter Tryz.func28,Tryz.ntmps28
  go_upto_region 1 with (fail)
  generalize hW1:w.alloc (.cells #[.int .i64 op,.int .i64 dst,.int .i64 0,.int .i64 0,.int .i64 0,.int .i64 k] 58)=w1 at*
  clear hW1
  obtain ⟨c0,c1,c2,c3,c4,c5⟩:=bX.six'
  go_wp2_with fail
  (with_reducible refine (is3_b HH.out hBw wa wb wc HV3.out b1).mono ?_)
  rintro e w5 ⟨rfl,hb5⟩
  have hb15:=b1.trans (hb5.mono b1.size)
  have bX5:=bX.below hb5 hg1
  have hg5:w.heap.size<w5.heap.size:=bX5.lt
  clear c0 c1 c2 c3 c4 c5 hb5 bX b1
  obtain ⟨c0,c1,c2,c3,c4,c5⟩:=bX5.six'
  go_wp2_with fail
  (with_reducible refine (Ar.sign_any op _).mono ?_)
  rintro e w' ⟨rfl,rfl⟩
  rw[sg]
  generalize Ar.signIn op=si at*
  generalize Ar.signOut op=so at*
  clear sg
  obtain ⟨m,b6,off6,cw6,Ag6,cg6,hmd,hm,hvw,lw6,mw6,hb6,wt6,d0,d1,lg6,mg6,sg6⟩:=(HH.out.below hBw hb15).wire hd
  subst hmd
  have q0:=(HH.out.below hBw hb15).row.eight.1.1
  have HVW:=Lib.hid hvw
  rw[hvw] at q0
  have hm':(m:Int)<f.wires.length:=by omega
  have HSG:=Lib.hid sg6
  clear hvw d0 sg6 wt6
  go_wp2_with fail
  go_quiet (fail)
  have hb16:=fun n=>below_drewN' hb15 n
  (try go_wp2_with fail)
  (with_reducible refine (kind_b HH.out hBw hd HTd.out (hb16 _)).mono ?_)
  rintro e w6 ⟨rfl,rfl⟩
  go_wp2_with fail
  go_ret
  exact ⟨ret_bool HR.out.symm,hb16 _⟩
set_option maxRecDepth 100000 in
set_option maxHeartbeats 2000000 in
theorem nact_none (h:NkAt w B L f vw va vc vk vi vo vb ve) (hB:B≤w.heap.size) (op dst a b c k:Int) (wx:AcIn ⟨op,dst,a,b,c,k⟩) (hd:isW f dst) (hop:uses op<0) (hall:allW3 f a b c):
  Calls Tryz.prog 28 #[.pointer (some ⟨L,0,none⟩),.agg #[.int .i64 op,.int .i64 dst,.int .i64 a,.int .i64 b,.int .i64 c,.int .i64 k]] w fun e w'=>e= .returned (.bool (cB (actOk f ⟨op,dst,a,b,c,k⟩)))∧Below w.heap.size w w':=by
 have HH:=Lib.hid h
 have hBw:=hB
 obtain ⟨wop,wd,wa,wb,wc,wk⟩:=wx
 dsimp only at wop wd wa wb wc wk
 clear h hB
 have HF:=Lib.hid (cB_false (act_none (f:=f) (dst:=dst) (a:=a) (b:=b) (c:=c) (k:=k) hop))
 have hop':op≠1∧op≠2∧op≠21∧op≠3∧op≠24∧op≠26∧op≠27∧¬(5≤op∧op≤20):=by unfold uses at hop;(repeat' split at hop);all_goals omega
 have HV3:Hid (cB (isW f a∧isW f b∧isW f c)=true):=cB_true hall
 have sg:Ar.signB op=false:=by simp[Ar.signB];omega
 have o1:(op==1)=false:=by rw[beq_eq_false_iff_ne];omega
 have o2:(op==2)=false:=by rw[beq_eq_false_iff_ne];omega
 have o3:(op==3)=false:=by rw[beq_eq_false_iff_ne];omega
 have o27:(op==27)=false:=by rw[beq_eq_false_iff_ne];omega
 have o24:(op==24)=false:=by rw[beq_eq_false_iff_ne];omega
 have o26:(op==26)=false:=by rw[beq_eq_false_iff_ne];omega
 have o21:(op==21)=false:=by rw[beq_eq_false_iff_ne];omega
 clear hop hop'
 generalize cB (actOk f ⟨op,dst,a,b,c,k⟩)=R at*
 have bX:=Row.new w #[.int .i64 op,.int .i64 dst,.int .i64 a,.int .i64 b,.int .i64 c,.int .i64 k] 58
 have b1:Below w.heap.size w (w.alloc (.cells #[.int .i64 op,.int .i64 dst,.int .i64 a,.int .i64 b,.int .i64 c,.int .i64 k] 58)):=bE
 have hg1:=bX.lt
 go_enter Tryz.func28,Tryz.ntmps28
 go_upto_region 1 with (fail)
 generalize hW1:w.alloc (.cells #[.int .i64 op,.int .i64 dst,.int .i64 a,.int .i64 b,.int .i64 c,.int .i64 k] 58)=w1 at*
 clear hW1
 obtain ⟨c0,c1,c2,c3,c4,c5⟩:=bX.six'
 go_wp2_with fail
 (with_reducible refine (is3_b HH.out hBw wa wb wc HV3.out b1).mono ?_)
 rintro e w5 ⟨rfl,hb5⟩
 have hb15:=b1.trans (hb5.mono b1.size)
 have bX5:=bX.below hb5 hg1
 have hg5:w.heap.size<w5.heap.size:=bX5.lt
 clear c0 c1 c2 c3 c4 c5 hb5 bX b1
 obtain ⟨c0,c1,c2,c3,c4,c5⟩:=bX5.six'
 go_wp2_with fail
 (with_reducible refine (Ar.sign_any op _).mono ?_)
 rintro e w' ⟨rfl,rfl⟩
 rw[sg]
 generalize Ar.signIn op=si at*
 generalize Ar.signOut op=so at*
 clear sg
 obtain ⟨m,b6,off6,cw6,Ag6,cg6,hmd,hm,hvw,lw6,mw6,hb6,wt6,d0,d1,lg6,mg6,sg6⟩:=(HH.out.below hBw hb15).wire hd
 subst hmd
 have q0:=(HH.out.below hBw hb15).row.eight.1.1
 have HVW:=Lib.hid hvw
 rw[hvw] at q0
 have hm':(m:Int)<f.wires.length:=by omega
 have HSG:=Lib.hid sg6
 clear hvw d0 sg6 wt6
 go_wp2_with fail
 go_quiet (fail)
 go_wp2_with fail
 go_ret
 exact ⟨ret_bool HF.out.symm,by first|exact hb15|exact below_drewN' hb15 _⟩
end
end Go.Proofs.YtckognjamlckcaaGreatDoor
