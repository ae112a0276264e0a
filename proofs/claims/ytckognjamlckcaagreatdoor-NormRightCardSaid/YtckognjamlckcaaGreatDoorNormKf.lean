/-
  norm's looker: act, what was.
-/
import Derived.Test.YtckognjamlckcaaGreatDoorNormKc
namespace Go.Proofs.YtckognjamlckcaaGreatDoor
open Go.RowKit Vf Fo
attribute [local go_sem ↓] Go.wp_at_zero Go.wp_at_succ
section
variable {w:World} {B L:Nat} {f:Fm} {vw va vc vk vi vo vb ve:Value}
set_option maxRecDepth 100000 in
set_option maxHeartbeats 2000000 in
theorem nact_21 (h:NkAt w B L f vw va vc vk vi vo vb ve) (hB:B≤w.heap.size) (op dst a b c k:Int) (wx:AcIn ⟨op,dst,a,b,c,k⟩) (hd:isW f dst) (hop:op=21) (hall:allW3 f a b c) {K:Nat} {ks:List Int} (hve:ve= .slice (some ⟨K,0,none⟩) f.cells.length f.cells.length) (hK:KsAt w L K ks) (hkl:ks.length=f.cells.length) (hkk:∀c:Nat,c<f.cells.length→getI ks c=(kept f c).getD (-1)) (hcok:cellsOk f):
  Calls Tryz.prog 28 #[.pointer (some ⟨L,0,none⟩),.agg #[.int .i64 op,.int .i64 dst,.int .i64 a,.int .i64 b,.int .i64 c,.int .i64 k]] w fun e w'=>e= .returned (.bool (cB (actOk f ⟨op,dst,a,b,c,k⟩)))∧Below w.heap.size w w':=by
 have HH:=Lib.hid h
 have hBw:=hB
 obtain ⟨wop,wd,wa,wb,wc,wk⟩:=wx
 dsimp only at wop wd wa wb wc wk
 clear h hB
 have HIFF:=Lib.hid (act_iff21 (dst:=dst) (k:=k) hop hall)
 have HV3:Hid (cB (isW f a∧isW f b∧isW f c)=true):=cB_true hall
 have sg:Ar.signB op=false:=by simp[Ar.signB];omega
 have o1:(op==1)=false:=by rw[beq_eq_false_iff_ne];omega
 have o2:(op==2)=false:=by rw[beq_eq_false_iff_ne];omega
 have o3:(op==3)=false:=by rw[beq_eq_false_iff_ne];omega
 have o27:(op==27)=false:=by rw[beq_eq_false_iff_ne];omega
 have o24:(op==24)=false:=by rw[beq_eq_false_iff_ne];omega
 have o26:(op==26)=false:=by rw[beq_eq_false_iff_ne];omega
 have o21:(op==21)=true:=by rw[beq_iff_eq];omega
 subst hve
 have HKR:=Lib.hid hK.row
 have HKL:=Lib.hid hkl
 have HKK:=Lib.hid hkk
 have HCO:=Lib.hid hcok
 clear hop hK hkl hkk hcok
 obtain ⟨Ac,cc,hvc,lc,mc,_⟩:=HH.out.fm.cells
 subst hvc
 have mc':cc≤9223372036854775807:=by unfold maxLen at mc;omega
 by_cases h0:a=0∧b=0∧c=0
 rotate_left 1
 ·have HF:=Lib.hid (cB_false (show ¬actOk f ⟨op,dst,a,b,c,k⟩ from fun g=>h0 (HIFF.out.1 g).1))
  generalize cB (actOk f ⟨op,dst,a,b,c,k⟩)=R at*
  rcases (by omega:a≠0∨(a=0∧b≠0)∨(a=0∧b=0∧c≠0)) with hz|⟨hz0,hz⟩|⟨hz0,hz1,hz⟩
  ·have bX:=Row.new w #[.int .i64 op,.int .i64 dst,.int .i64 a,.int .i64 b,.int .i64 c,.int .i64 k] 58
   have b1:Below w.heap.size w (w.alloc (.cells #[.int .i64 op,.int .i64 dst,.int .i64 a,.int .i64 b,.int .i64 c,.int .i64 k] 58)):=bE
   have hg1:=bX.lt
   go_enter Tryz.func28,Tryz.ntmps28
   go_upto_region 1 with (fail)
   generalize hW1:w.alloc (.cells #[.int .i64 op,.int .i64 dst,.int .i64 a,.int .i64 b,.int .i64 c,.int .i64 k] 58)=w1 at*
   clear hW1
   obtain ⟨c0,c1,c2,c3,c4,c5⟩:=bX.six'
   go_wp2_with fail
   (with_reducible refine (is3_b HH.out hBw wa wb wc HV3.out b1).mono ?_)
   rintro e w5 ⟨rfl,hb5⟩
   have hb15:=b1.trans (hb5.mono b1.size)
   have bX5:=bX.below hb5 hg1
   have hg5:w.heap.size<w5.heap.size:=bX5.lt
   clear c0 c1 c2 c3 c4 c5 hb5 bX b1
   obtain ⟨c0,c1,c2,c3,c4,c5⟩:=bX5.six'
   go_wp2_with fail
   (with_reducible refine (Ar.sign_any op _).mono ?_)
   rintro e w' ⟨rfl,rfl⟩
   rw[sg]
   generalize Ar.signIn op=si at*
   generalize Ar.signOut op=so at*
   clear sg
   obtain ⟨m,b6,off6,cw6,Ag6,cg6,hmd,hm,hvw,lw6,mw6,hb6,wt6,d0,d1,lg6,mg6,sg6⟩:=(HH.out.below hBw hb15).wire hd
   subst hmd
   have q0:=(HH.out.below hBw hb15).row.eight.1.1
   have HVW:=Lib.hid hvw
   rw[hvw] at q0
   have hm':(m:Int)<f.wires.length:=by omega
   have HSG:=Lib.hid sg6
   clear hvw d0 sg6 wt6
   go_wp2_with fail
   go_quiet (fail)
   go_wp2_with fail
   go_quiet (fail)
   go_wp2_with fail
   go_ret
   exact ⟨ret_bool HF.out.symm,by repeat (first|exact hb15|refine below_drewN' ?_ _)⟩
  ·subst hz0
   have bX:=Row.new w #[.int .i64 op,.int .i64 dst,.int .i64 0,.int .i64 b,.int .i64 c,.int .i64 k] 58
   have b1:Below w.heap.size w (w.alloc (.cells #[.int .i64 op,.int .i64 dst,.int .i64 0,.int .i64 b,.int .i64 c,.int .i64 k] 58)):=bE
   have hg1:=bX.lt
   go_enter Tryz.func28,Tryz.ntmps28
   go_upto_region 1 with (fail)
   generalize hW1:w.alloc (.cells #[.int .i64 op,.int .i64 dst,.int .i64 0,.int .i64 b,.int .i64 c,.int .i64 k] 58)=w1 at*
   clear hW1
   obtain ⟨c0,c1,c2,c3,c4,c5⟩:=bX.six'
   go_wp2_with fail
   (with_reducible refine (is3_b HH.out hBw wa wb wc HV3.out b1).mono ?_)
   rintro e w5 ⟨rfl,hb5⟩
   have hb15:=b1.trans (hb5.mono b1.size)
   have bX5:=bX.below hb5 hg1
   have hg5:w.heap.size<w5.heap.size:=bX5.lt
   clear c0 c1 c2 c3 c4 c5 hb5 bX b1
   obtain ⟨c0,c1,c2,c3,c4,c5⟩:=bX5.six'
   go_wp2_with fail
   (with_reducible refine (Ar.sign_any op _).mono ?_)
   rintro e w' ⟨rfl,rfl⟩
   rw[sg]
   generalize Ar.signIn op=si at*
   generalize Ar.signOut op=so at*
   clear sg
   obtain ⟨m,b6,off6,cw6,Ag6,cg6,hmd,hm,hvw,lw6,mw6,hb6,wt6,d0,d1,lg6,mg6,sg6⟩:=(HH.out.below hBw hb15).wire hd
   subst hmd
   have q0:=(HH.out.below hBw hb15).row.eight.1.1
   have HVW:=Lib.hid hvw
   rw[hvw] at q0
   have hm':(m:Int)<f.wires.length:=by omega
   have HSG:=Lib.hid sg6
   clear hvw d0 sg6 wt6
   go_wp2_with fail
   go_quiet (fail)
   go_wp2_with fail
   go_quiet (fail)
   go_wp2_with fail
   go_ret
   exact ⟨ret_bool HF.out.symm,by repeat (first|exact hb15|refine below_drewN' ?_ _)⟩
  ·subst hz0;subst hz1
   have bX:=Row.new w #[.int .i64 op,.int .i64 dst,.int .i64 0,.int .i64 0,.int .i64 c,.int .i64 k] 58
   have b1:Below w.heap.size w (w.alloc (.cells #[.int .i64 op,.int .i64 dst,.int .i64 0,.int .i64 0,.int .i64 c,.int .i64 k] 58)):=bE
   have hg1:=bX.lt
   go_enter Tryz.func28,Tryz.ntmps28
   go_upto_region 1 with (fail)
   generalize hW1:w.alloc (.cells #[.int .i64 op,.int .i64 dst,.int .i64 0,.int .i64 0,.int .i64 c,.int .i64 k] 58)=w1 at*
   clear hW1
   obtain ⟨c0,c1,c2,c3,c4,c5⟩:=bX.six'
   go_wp2_with fail
   (with_reducible refine (is3_b HH.out hBw wa wb wc HV3.out b1).mono ?_)
   rintro e w5 ⟨rfl,hb5⟩
   have hb15:=b1.trans (hb5.mono b1.size)
   have bX5:=bX.below hb5 hg1
   have hg5:w.heap.size<w5.heap.size:=bX5.lt
   clear c0 c1 c2 c3 c4 c5 hb5 bX b1
   obtain ⟨c0,c1,c2,c3,c4,c5⟩:=bX5.six'
   go_wp2_with fail
   (with_reducible refine (Ar.sign_any op _).mono ?_)
   rintro e w' ⟨rfl,rfl⟩
   rw[sg]
   generalize Ar.signIn op=si at*
   generalize Ar.signOut op=so at*
   clear sg
   obtain ⟨m,b6,off6,cw6,Ag6,cg6,hmd,hm,hvw,lw6,mw6,hb6,wt6,d0,d1,lg6,mg6,sg6⟩:=(HH.out.below hBw hb15).wire hd
   subst hmd
   have q0:=(HH.out.below hBw hb15).row.eight.1.1
   have HVW:=Lib.hid hvw
   rw[hvw] at q0
   have hm':(m:Int)<f.wires.length:=by omega
   have HSG:=Lib.hid sg6
   clear hvw d0 sg6 wt6
   go_wp2_with fail
   go_quiet (fail)
   go_wp2_with fail
   go_quiet (fail)
   go_wp2_with fail
   go_ret
   exact ⟨ret_bool HF.out.symm,by repeat (first|exact hb15|refine below_drewN' ?_ _)⟩
 obtain ⟨rfl,rfl,rfl⟩:=h0
 by_cases hk0:k<0
 ·have HF:=Lib.hid (cB_false (show ¬actOk f ⟨op,dst,0,0,0,k⟩ from fun g=>by have:=(HIFF.out.1 g).2.1.1;omega))
  generalize cB (actOk f ⟨op,dst,0,0,0,k⟩)=R at*
  have ek:decide (k<0)=true:=by simpa using hk0
  have bX:=Row.new w #[.int .i64 op,.int .i64 dst,.int .i64 0,.int .i64 0,.int .i64 0,.int .i64 k] 58
  have b1:Below w.heap.size w (w.alloc (.cells #[.int .i64 op,.int .i64 dst,.int .i64 0,.int .i64 0,.int .i64 0,.int .i64 k] 58)):=bE
  have hg1:=bX.lt
  go_enter Tryz.func28,Tryz.ntmps28
  go_upto_region 1 with (fail)
  generalize hW1:w.alloc (.cells #[.int .i64 op,.int .i64 dst,.int .i64 0,.int .i64 0,.int .i64 0,.int .i64 k] 58)=w1 at*
  clear hW1
  obtain ⟨c0,c1,c2,c3,c4,c5⟩:=bX.six'
  go_wp2_with fail
  (with_reducible refine (is3_b HH.out hBw wa wb wc HV3.out b1).mono ?_)
  rintro e w5 ⟨rfl,hb5⟩
  have hb15:=b1.trans (hb5.mono b1.size)
  have bX5:=bX.below hb5 hg1
  have hg5:w.heap.size<w5.heap.size:=bX5.lt
  clear c0 c1 c2 c3 c4 c5 hb5 bX b1
  obtain ⟨c0,c1,c2,c3,c4,c5⟩:=bX5.six'
  go_wp2_with fail
  (with_reducible refine (Ar.sign_any op _).mono ?_)
  rintro e w' ⟨rfl,rfl⟩
  rw[sg]
  generalize Ar.signIn op=si at*
  generalize Ar.signOut op=so at*
  clear sg
  obtain ⟨m,b6,off6,cw6,Ag6,cg6,hmd,hm,hvw,lw6,mw6,hb6,wt6,d0,d1,lg6,mg6,sg6⟩:=(HH.out.below hBw hb15).wire hd
  subst hmd
  have q0:=(HH.out.below hBw hb15).row.eight.1.1
  have HVW:=Lib.hid hvw
  rw[hvw] at q0
  have hm':(m:Int)<f.wires.length:=by omega
  have HSG:=Lib.hid sg6
  clear hvw d0 sg6 wt6
  go_wp2_with fail
  go_quiet (fail)
  have q2:=(HH.out.below hBw hb15).row.eight.1.2.2.1
  go_wp2_with fail
  go_quiet (fail)
  go_wp2_with fail
  go_ret
  exact ⟨ret_bool HF.out.symm,by repeat (first|exact hb15|refine below_drewN' ?_ _)⟩
 have ek:decide (k<0)=false:=by simpa using hk0
 obtain ⟨j,rfl⟩:=Int.eq_ofNat_of_zero_le (by omega:0≤k)
 by_cases hj:f.cells.length≤j
 ·have HF:=Lib.hid (cB_false (show ¬actOk f ⟨op,dst,0,0,0,(j:Int)⟩ from fun g=>by have:=(HIFF.out.1 g).2.1.2;omega))
  generalize cB (actOk f ⟨op,dst,0,0,0,(j:Int)⟩)=R at*
  have ej:decide ((f.cells.length:Int)≤j)=true:=by simp;omega
  have ej':decide (f.cells.length≤j)=true:=by simp;omega
  have bX:=Row.new w #[.int .i64 op,.int .i64 dst,.int .i64 0,.int .i64 0,.int .i64 0,.int .i64 (j:Int)] 58
  have b1:Below w.heap.size w (w.alloc (.cells #[.int .i64 op,.int .i64 dst,.int .i64 0,.int .i64 0,.int .i64 0,.int .i64 (j:Int)] 58)):=bE
  have hg1:=bX.lt
  go_enter Tryz.func28,Tryz.ntmps28
  go_upto_region 1 with (fail)
  generalize hW1:w.alloc (.cells #[.int .i64 op,.int .i64 dst,.int .i64 0,.int .i64 0,.int .i64 0,.int .i64 (j:Int)] 58)=w1 at*
  clear hW1
  obtain ⟨c0,c1,c2,c3,c4,c5⟩:=bX.six'
  go_wp2_with fail
  (with_reducible refine (is3_b HH.out hBw wa wb wc HV3.out b1).mono ?_)
  rintro e w5 ⟨rfl,hb5⟩
  have hb15:=b1.trans (hb5.mono b1.size)
  have bX5:=bX.below hb5 hg1
  have hg5:w.heap.size<w5.heap.size:=bX5.lt
  clear c0 c1 c2 c3 c4 c5 hb5 bX b1
  obtain ⟨c0,c1,c2,c3,c4,c5⟩:=bX5.six'
  go_wp2_with fail
  (with_reducible refine (Ar.sign_any op _).mono ?_)
  rintro e w' ⟨rfl,rfl⟩
  rw[sg]
  generalize Ar.signIn op=si at*
  generalize Ar.signOut op=so at*
  clear sg
  obtain ⟨m,b6,off6,cw6,Ag6,cg6,hmd,hm,hvw,lw6,mw6,hb6,wt6,d0,d1,lg6,mg6,sg6⟩:=(HH.out.below hBw hb15).wire hd
  subst hmd
  have q0:=(HH.out.below hBw hb15).row.eight.1.1
  have HVW:=Lib.hid hvw
  rw[hvw] at q0
  have hm':(m:Int)<f.wires.length:=by omega
  have HSG:=Lib.hid sg6
  clear hvw d0 sg6 wt6
  go_wp2_with fail
  go_quiet (fail)
  have q2:=(HH.out.below hBw hb15).row.eight.1.2.2.1
  go_wp2_with fail
  go_quiet (fail)
  go_wp2_with fail
  go_ret
  exact ⟨ret_bool HF.out.symm,by repeat (first|exact hb15|refine below_drewN' ?_ _)⟩
 have hjl:j<f.cells.length:=by omega
 have ej:decide ((f.cells.length:Int)≤j)=false:=by simp;omega
 have ej':decide (f.cells.length≤j)=false:=by simp;omega
 have hjk:j<ks.length:=by rw[HKL.out];exact hjl
 obtain ⟨kn,hkn,hkW,hkT⟩:=kept_isW HCO.out hjl
 have HKJ:=Lib.hid (show getI ks j=kn by rw[HKK.out j hjl,hkn];rfl)
 have HQ:Hid (cB (actOk f ⟨op,dst,0,0,0,(j:Int)⟩)=(cB (tyOf f dst=getI (types f.cells) j) && cB (clockOf f dst=clockOf f kn))):=by
  show _=_
  rw[←cB_and]
  refine cB_congr (HIFF.out.trans ⟨fun g=>⟨g.2.2.1,?_⟩,fun g=>⟨⟨rfl,rfl,rfl⟩,⟨by omega,by omega⟩,g.1,kn,hkn,g.2⟩⟩)
  obtain ⟨q,h1,h2⟩:=g.2.2.2
  rw[hkn] at h1
  injection h1 with h1
  rw[h2,h1]
 rw[cB_beq] at HQ
 generalize cB (actOk f ⟨op,dst,0,0,0,(j:Int)⟩)=R at*
 have wkn:Wf kn:=by have h0:=hkW.1;have h1:=hkW.2;have:=HH.out.fm.wires;obtain ⟨_,cw,_,lw,mw,_⟩:=this;unfold maxLen at mw;exact wf_of (by omega)
 have hj1:(j:Int)<f.cells.length:=by omega
 clear HIFF hkn hkT hk0 hj
 generalize hV:cB (clockOf f dst=clockOf f kn)=V at*
 generalize hTd:tyOf f dst=Td at*
 generalize hTc:getI (types f.cells) (j:Int)=Tc at*
 have HV:=Lib.hid hV
 have HTd:=Lib.hid hTd
 have HTc:=Lib.hid hTc
 clear hV hTd hTc
 generalize he1:(Td==Tc)=e1 at*
 have bX:=Row.new w #[.int .i64 op,.int .i64 dst,.int .i64 0,.int .i64 0,.int .i64 0,.int .i64 (j:Int)] 58
 have b1:Below w.heap.size w (w.alloc (.cells #[.int .i64 op,.int .i64 dst,.int .i64 0,.int .i64 0,.int .i64 0,.int .i64 (j:Int)] 58)):=bE
 have hg1:=bX.lt
 go_enter Tryz.func28,Tryz.ntmps28
 go_upto_region 1 with (fail)
 generalize hW1:w.alloc (.cells #[.int .i64 op,.int .i64 dst,.int .i64 0,.int .i64 0,.int .i64 0,.int .i64 (j:Int)] 58)=w1 at*
 clear hW1
 obtain ⟨c0,c1,c2,c3,c4,c5⟩:=bX.six'
 go_wp2_with fail
 (with_reducible refine (is3_b HH.out hBw wa wb wc HV3.out b1).mono ?_)
 rintro e w5 ⟨rfl,hb5⟩
 have hb15:=b1.trans (hb5.mono b1.size)
 have bX5:=bX.below hb5 hg1
 have hg5:w.heap.size<w5.heap.size:=bX5.lt
 clear c0 c1 c2 c3 c4 c5 hb5 bX b1
 obtain ⟨c0,c1,c2,c3,c4,c5⟩:=bX5.six'
 go_wp2_with fail
 (with_reducible refine (Ar.sign_any op _).mono ?_)
 rintro e w' ⟨rfl,rfl⟩
 rw[sg]
 generalize Ar.signIn op=si at*
 generalize Ar.signOut op=so at*
 clear sg
 obtain ⟨m,b6,off6,cw6,Ag6,cg6,hmd,hm,hvw,lw6,mw6,hb6,wt6,d0,d1,lg6,mg6,sg6⟩:=(HH.out.below hBw hb15).wire hd
 subst hmd
 have q0:=(HH.out.below hBw hb15).row.eight.1.1
 have HVW:=Lib.hid hvw
 rw[hvw] at q0
 have hm':(m:Int)<f.wires.length:=by omega
 have HSG:=Lib.hid sg6
 clear hvw d0 sg6 wt6
 go_wp2_with fail
 go_quiet (fail)
 have HN5:=Lib.hid (HH.out.below hBw hb15)
 have hB5:B≤w5.heap.size:=Nat.le_trans hBw hb15.size
 have HS:Hid (∀W,Below w5.heap.size w5 W→W.cell? ⟨w.heap.size,0,none⟩=some (.int .i64 op)∧W.cell? ⟨w.heap.size,1,none⟩=some (.int .i64 (m:Int))∧W.cell? ⟨w.heap.size,2,none⟩=some (.int .i64 0)∧W.cell? ⟨w.heap.size,3,none⟩=some (.int .i64 0)∧W.cell? ⟨w.heap.size,4,none⟩=some (.int .i64 0)∧W.cell? ⟨w.heap.size,5,none⟩=some (.int .i64 (j:Int))):=fun W hW=>(bX5.below hW hg5).six'
 have HFIN:Hid (∀W,Below w5.heap.size w5 W→Below w.heap.size w W):=fun W hW=>hb15.trans (hW.mono hb15.size)
 obtain ⟨_,_,hvc,_,_,sc⟩:=HN5.out.fm.cells
 injection hvc with hv1 hv2 hv3
 subst hv1
 obtain ⟨b3,off3,xc,hAc,hb3,hxc,_,_,z0,z1⟩:=sc.cell hjl
 subst hAc
 have q2:=HN5.out.row.eight.1.2.2.1
 have HZ:Hid (xc.1=Tc):=by have:=getI_at (types_at hxc);rw[HTc.out] at this;exact this.symm
 rw[HZ.out] at z0
 have rK5:=HKR.out.below hb15 HKR.out.lt
 have hKl5:=rK5.lt
 have HS2:Hid (∀W,Below w5.heap.size w5 W→W.cell? ⟨w.heap.size,0,none⟩=some (.int .i64 op)∧W.cell? ⟨w.heap.size,1,none⟩=some (.int .i64 (m:Int))∧W.cell? ⟨w.heap.size,2,none⟩=some (.int .i64 0)∧W.cell? ⟨w.heap.size,3,none⟩=some (.int .i64 0)∧W.cell? ⟨w.heap.size,4,none⟩=some (.int .i64 0)∧W.cell? ⟨w.heap.size,5,none⟩=some (.int .i64 (j:Int))∧W.cell? ⟨L,2,none⟩=some (.slice (some ⟨b3,off3,none⟩) f.cells.length cc)∧W.cell? ⟨L,7,none⟩=some (.slice (some ⟨K,0,none⟩) f.cells.length f.cells.length)∧W.cell? ⟨K,j,none⟩=some (.int .i64 kn)∧W.cell? ⟨b3,off3+j*2,none⟩=some (.int .i64 Tc)):=fun W hW=>by
  obtain ⟨x0,x1,x2,x3,x4,x5⟩:=HS.out W hW
  have e8:=(HN5.out.below hB5 hW).row.eight.1
  have hK7:=ks_cell (rK5.below hW hKl5) hjk
  rw[HKJ.out] at hK7
  exact ⟨x0,x1,x2,x3,x4,x5,e8.2.2.1,e8.2.2.2.2.2.2.2,hK7,cell_kept z0 hW⟩
 clear z0 z1 hxc hv2 hv3 sc
 go_wp2_with fail
 go_quiet (fail)
 go_upto_region 25 with (fail)
 clear c0 c1 c2 c3 c4 c5 q0 d1 q2
 refine wp_region_held_drew (S:=fun W=>W.cell? ⟨w.heap.size,0,none⟩=some (.int .i64 op)∧W.cell? ⟨w.heap.size,1,none⟩=some (.int .i64 (m:Int))∧W.cell? ⟨w.heap.size,2,none⟩=some (.int .i64 0)∧W.cell? ⟨w.heap.size,3,none⟩=some (.int .i64 0)∧W.cell? ⟨w.heap.size,4,none⟩=some (.int .i64 0)∧W.cell? ⟨w.heap.size,5,none⟩=some (.int .i64 (j:Int))∧W.cell? ⟨L,2,none⟩=some (.slice (some ⟨b3,off3,none⟩) f.cells.length cc)∧W.cell? ⟨L,7,none⟩=some (.slice (some ⟨K,0,none⟩) f.cells.length f.cells.length)∧W.cell? ⟨K,j,none⟩=some (.int .i64 kn)∧W.cell? ⟨b3,off3+j*2,none⟩=some (.int .i64 Tc)) (by kernel_rfl) ?_ (fun hHeld=>?_)
 ·(try dsimp only);(first|(with_reducible exact HS2.out _ bE)|go_keep)
 refine tk 0 (some 295) rfl ?_
 refine tk 1 (some 296) rfl ?_
 refine tk 2 (some 297) rfl ?_
 refine tk 4 (some 299) rfl ?_
 refine tk 5 (some 300) rfl ?_
 refine tk 6 (some 301) rfl ?_
 refine tk 7 (some 302) rfl ?_
 refine tk 8 (some 303) rfl ?_
 refine tk 9 (some 304) rfl ?_
 refine tk 10 (some 305) rfl ?_
 refine tk 11 (some 306) rfl ?_
 refine tk 12 (some 307) rfl ?_
 refine tk 13 (some 308) rfl ?_
 refine rd1 3 (some 298) rfl (fun KK hKK=>?_)
 go_simp
 (go_at_call 64;(first|(with_reducible refine (kind_b HN5.out hB5 hd HTd.out bE).mono ?_));rintro e w8 ⟨rfl,rfl⟩)
 (try go_wp2_with fail)
 refine hKK.out _ _ ?_ (fun hHeld=>?_)
 ·(try dsimp only);(first|(with_reducible exact HS2.out _ bE)|go_keep)
 clear hKK KK
 try simp only[Act.put,List.setIfInBounds_toArray,List.set_cons_zero,List.set_cons_succ]
 refine tk 14 (some 309) rfl ?_
 refine tk 15 (some 310) rfl ?_
 cases e1
 ·refine sk 16 (some 311) rfl ?_
  refine sk 17 (some 312) rfl ?_
  refine sk 18 (some 313) rfl ?_
  refine sk 19 (some 314) rfl ?_
  refine sk 20 (some 315) rfl ?_
  refine sk 21 (some 316) rfl ?_
  refine sk 22 (some 317) rfl ?_
  refine sk 23 (some 318) rfl ?_
  refine sk 24 (some 319) rfl ?_
  refine sk 25 (some 320) rfl ?_
  refine sk 26 (some 321) rfl ?_
  refine sk 27 (some 322) rfl ?_
  refine sk 28 (some 323) rfl ?_
  refine tk 29 (some 324) rfl ?_
  refine tk 30 (some 4) rfl ?_
  refine wpAnyH_done (by kernel_rfl) ?_ _
  go_wp2_with fail
  go_ret
  exact ⟨ret_bool HQ.out.symm,HFIN.out _ bE⟩
 refine tk 16 (some 311) rfl ?_
 refine tk 17 (some 312) rfl ?_
 refine tk 18 (some 313) rfl ?_
 refine tk 19 (some 314) rfl ?_
 refine tk 20 (some 315) rfl ?_
 refine tk 21 (some 316) rfl ?_
 refine tk 22 (some 317) rfl ?_
 refine tk 23 (some 318) rfl ?_
 refine tk 24 (some 319) rfl ?_
 refine tk 25 (some 320) rfl ?_
 refine tk 26 (some 321) rfl ?_
 refine rd1 27 (some 322) rfl (fun KK hKK=>?_)
 go_simp
 refine hKK.out _ _ ?_ (fun hHeld=>?_)
 ·(try dsimp only);(first|(with_reducible exact HS2.out _ bE)|go_keep)
 clear hKK KK
 try simp only[Act.put,List.setIfInBounds_toArray,List.set_cons_zero,List.set_cons_succ]
 refine rd1 28 (some 323) rfl (fun KK hKK=>?_)
 go_simp
 (go_at_call 65;(refine (alike2_c HN5.out hB5 hd hkW wd wkn HV.out bE (by rfl)).mono ?_);rintro e w8 ⟨rfl,hb8⟩;(have hb9:Below w5.heap.size w5 w8:=Below.trans bE (hb8.mono lE));(have hs9:=hb9.size))
 (try go_wp2_with fail)
 refine hKK.out _ _ ?_ (fun hHeld=>?_)
 ·(try dsimp only);(first|(with_reducible exact HS2.out _ bE)|go_keep)
 clear hKK KK
 try simp only[Act.put,List.setIfInBounds_toArray,List.set_cons_zero,List.set_cons_succ]
 refine tk 29 (some 324) rfl ?_
 refine tk 30 (some 4) rfl ?_
 refine wpAnyH_done (by kernel_rfl) ?_ _
 go_wp2_with fail
 go_ret
 exact ⟨ret_bool HQ.out.symm,HFIN.out _ bE⟩
end
end Go.Proofs.YtckognjamlckcaaGreatDoor
