/-
  norm's looker: act, what was. norm.Right order: what is there; whether an act is ready. order: acts cloned; one of them struck out. order.Ordered
-/
import Derived.Test.YtckognjamlckcaaGreatDoorZz
import Derived.Test.YtckognjamlckcaaGreatDoorNormKc
import Derived.Test.YtckognjamlckcaaGreatDoorNormM
import Derived.Test.YtckognjamlckcaaGreatDoorNormKe
import Derived.Test.YtckognjamlckcaaGreatDoorNormK
import Derived.Test.YtckognjamlckcaaGreatDoorPlainA
import Derived.Deep.RegionLaw
import Derived.Lib.SliceRun
set_option maxHeartbeats 4000000
set_option maxRecDepth 100000
namespace Go.Proofs.YtckognjamlckcaaGreatDoor
open Go.RowKit Vf Fo
attribute [local go_sem ↓] Go.wp_at_zero Go.wp_at_succ
section
variable {w:World} {B L:Nat} {f:Fm} {vw va vc vk vi vo vb ve:Value}
theorem nact_21 (h:NkAt w B L f vw va vc vk vi vo vb ve) (hB:B≤w.heap.size) (op dst a b c k:Int) (wx:AcIn ⟨op,dst,a,b,c,k⟩) (hd:isW f dst) (hop:op=21) (hall:allW3 f a b c) {K:Nat} {ks:List Int} (hve:ve= .slice (some ⟨K,0,none⟩) f.cells.length f.cells.length) (hK:KsAt w L K ks) (hkl:ks.length=f.cells.length) (hkk:∀c:Nat,c<f.cells.length→getI ks c=(kept f c).getD (-1)) (hcok:cellsOk f):
  Calls Tryz.prog 28 #[.pointer (some ⟨L,0,none⟩),.agg #[.int .i64 op,.int .i64 dst,.int .i64 a,.int .i64 b,.int .i64 c,.int .i64 k]] w fun e w'=>e= .returned (.bool (cB (actOk f ⟨op,dst,a,b,c,k⟩)))∧Below w.heap.size w w':=by
 refine' zq78
 have HIFF:=Lib.hid (act_iff21 (dst:=dst) (k:=k) hop hall)
 refine' zq65
 refine' zq231
 refine' zq129
 have o21:(op==21)=true:=by rw[beq_iff_eq];omega
 subst hve
 have HKR:=Lib.hid hK.row
 have HKL:=Lib.hid hkl
 have HKK:=Lib.hid hkk
 have HCO:=Lib.hid hcok
 clear hop hK hkl hkk hcok
 obtain ⟨Ac,cc,hvc,lc,mc,_⟩:=HH.out.fm.cells
 subst hvc
 refine' zq244
 by_cases h0:a=0∧b=0∧c=0
 rotate_left 1
 ·have HF:=Lib.hid (cB_false (show ¬actOk f ⟨op,dst,a,b,c,k⟩ from fun g=>h0 (HIFF.out.1 g).1))
  refine' zq198
  rcases (by omega:a≠0∨(a=0∧b≠0)∨(a=0∧b=0∧c≠0)) with hz|⟨hz0,hz⟩|⟨hz0,hz1,hz⟩
  ·refine' zq6
   refine' zq2
   refine' zq127
  ·subst hz0
   have bX:=Row.new w #[.int .i64 op,.int .i64 dst,.int .i64 0,.int .i64 b,.int .i64 c,.int .i64 k] 58
   have b1:Below w.heap.size w (w.alloc (.cells #[.int .i64 op,.int .i64 dst,.int .i64 0,.int .i64 b,.int .i64 c,.int .i64 k] 58)):=bE
   refine' zq17
   generalize hW1:w.alloc (.cells #[.int .i64 op,.int .i64 dst,.int .i64 0,.int .i64 b,.int .i64 c,.int .i64 k] 58)=w1 at*
   refine' zq2
   refine' zq127
  ·subst hz0;subst hz1
   have bX:=Row.new w #[.int .i64 op,.int .i64 dst,.int .i64 0,.int .i64 0,.int .i64 c,.int .i64 k] 58
   have b1:Below w.heap.size w (w.alloc (.cells #[.int .i64 op,.int .i64 dst,.int .i64 0,.int .i64 0,.int .i64 c,.int .i64 k] 58)):=bE
   refine' zq17
   generalize hW1:w.alloc (.cells #[.int .i64 op,.int .i64 dst,.int .i64 0,.int .i64 0,.int .i64 c,.int .i64 k] 58)=w1 at*
   refine' zq2
   refine' zq127
 obtain ⟨rfl,rfl,rfl⟩:=h0
 by_cases hk0:k<0
 ·have HF:=Lib.hid (cB_false (show ¬actOk f ⟨op,dst,0,0,0,k⟩ from fun g=>by have:=(HIFF.out.1 g).2.1.1;omega))
  generalize cB (actOk f ⟨op,dst,0,0,0,k⟩)=R at*
  have ek:decide (k<0)=true:=by simpa using hk0
  refine' zq159
  have q2:=(HH.out.below hBw hb15).row.eight.1.2.2.1
  refine' zq127
 have ek:decide (k<0)=false:=by simpa using hk0
 obtain ⟨j,rfl⟩:=Int.eq_ofNat_of_zero_le (by omega:0≤k)
 by_cases hj:f.cells.length≤j
 ·have HF:=Lib.hid (cB_false (show ¬actOk f ⟨op,dst,0,0,0,(j:Int)⟩ from fun g=>by have:=(HIFF.out.1 g).2.1.2;omega))
  generalize cB (actOk f ⟨op,dst,0,0,0,(j:Int)⟩)=R at*
  have ej:decide ((f.cells.length:Int)≤j)=true:=by simp;omega
  have ej':decide (f.cells.length≤j)=true:=by simp;omega
  refine' zq152
  have q2:=(HH.out.below hBw hb15).row.eight.1.2.2.1
  refine' zq127
 have hjl:j<f.cells.length:=by omega
 have ej:decide ((f.cells.length:Int)≤j)=false:=by simp;omega
 have ej':decide (f.cells.length≤j)=false:=by simp;omega
 have hjk:j<ks.length:=by rw[HKL.out];exact hjl
 obtain ⟨kn,hkn,hkW,hkT⟩:=kept_isW HCO.out hjl
 have HKJ:=Lib.hid (show getI ks j=kn by rw[HKK.out j hjl,hkn];rfl)
 have HQ:Hid (cB (actOk f ⟨op,dst,0,0,0,(j:Int)⟩)=(cB (tyOf f dst=getI (types f.cells) j) && cB (clockOf f dst=clockOf f kn))):=by
  show _=_
  rw[←cB_and]
  refine cB_congr (HIFF.out.trans ⟨fun g=>⟨g.2.2.1,?_⟩,fun g=>⟨⟨rfl,rfl,rfl⟩,⟨by omega,by omega⟩,g.1,kn,hkn,g.2⟩⟩)
  obtain ⟨q,h1,h2⟩:=g.2.2.2
  rw[hkn] at h1
  injection h1 with h1
  rw[h2,h1]
 rw[cB_beq] at HQ
 generalize cB (actOk f ⟨op,dst,0,0,0,(j:Int)⟩)=R at*
 have wkn:Wf kn:=by have h0:=hkW.1;have h1:=hkW.2;have:=HH.out.fm.wires;obtain ⟨_,cw,_,lw,mw,_⟩:=this;unfold maxLen at mw;exact wf_of (by omega)
 have hj1:(j:Int)<f.cells.length:=by omega
 clear HIFF hkn hkT hk0 hj
 generalize hV:cB (clockOf f dst=clockOf f kn)=V at*
 generalize hTd:tyOf f dst=Td at*
 generalize hTc:getI (types f.cells) (j:Int)=Tc at*
 have HV:=Lib.hid hV
 have HTd:=Lib.hid hTd
 have HTc:=Lib.hid hTc
 clear hV hTd hTc
 generalize he1:(Td==Tc)=e1 at*
 refine' zq152
 refine' zq194
 have HS:Hid (∀W,Below w5.heap.size w5 W→W.cell? ⟨w.heap.size,0,none⟩=some (.int .i64 op)∧W.cell? ⟨w.heap.size,1,none⟩=some (.int .i64 (m:Int))∧W.cell? ⟨w.heap.size,2,none⟩=some (.int .i64 0)∧W.cell? ⟨w.heap.size,3,none⟩=some (.int .i64 0)∧W.cell? ⟨w.heap.size,4,none⟩=some (.int .i64 0)∧W.cell? ⟨w.heap.size,5,none⟩=some (.int .i64 (j:Int))):=fun W hW=>(bX5.below hW hg5).six'
 refine' zq166
 obtain ⟨_,_,hvc,_,_,sc⟩:=HN5.out.fm.cells
 injection hvc with hv1 hv2 hv3
 subst hv1
 obtain ⟨b3,off3,xc,hAc,hb3,hxc,_,_,z0,z1⟩:=sc.cell hjl
 subst hAc
 have q2:=HN5.out.row.eight.1.2.2.1
 have HZ:Hid (xc.1=Tc):=by have:=getI_at (types_at hxc);rw[HTc.out] at this;exact this.symm
 rw[HZ.out] at z0
 have rK5:=HKR.out.below hb15 HKR.out.lt
 have hKl5:=rK5.lt
 have HS2:Hid (∀W,Below w5.heap.size w5 W→W.cell? ⟨w.heap.size,0,none⟩=some (.int .i64 op)∧W.cell? ⟨w.heap.size,1,none⟩=some (.int .i64 (m:Int))∧W.cell? ⟨w.heap.size,2,none⟩=some (.int .i64 0)∧W.cell? ⟨w.heap.size,3,none⟩=some (.int .i64 0)∧W.cell? ⟨w.heap.size,4,none⟩=some (.int .i64 0)∧W.cell? ⟨w.heap.size,5,none⟩=some (.int .i64 (j:Int))∧W.cell? ⟨L,2,none⟩=some (.slice (some ⟨b3,off3,none⟩) f.cells.length cc)∧W.cell? ⟨L,7,none⟩=some (.slice (some ⟨K,0,none⟩) f.cells.length f.cells.length)∧W.cell? ⟨K,j,none⟩=some (.int .i64 kn)∧W.cell? ⟨b3,off3+j*2,none⟩=some (.int .i64 Tc)):=fun W hW=>by
  obtain ⟨x0,x1,x2,x3,x4,x5⟩:=HS.out W hW
  have e8:=(HN5.out.below hB5 hW).row.eight.1
  have hK7:=ks_cell (rK5.below hW hKl5) hjk
  rw[HKJ.out] at hK7
  exact ⟨x0,x1,x2,x3,x4,x5,e8.2.2.1,e8.2.2.2.2.2.2.2,hK7,cell_kept z0 hW⟩
 clear z0 z1 hxc hv2 hv3 sc
 go_wp2_with fail
 go_quiet (fail)
 go_upto_region 25 with (fail)
 clear c0 c1 c2 c3 c4 c5 q0 d1 q2
 refine wp_region_held_drew (S:=fun W=>W.cell? ⟨w.heap.size,0,none⟩=some (.int .i64 op)∧W.cell? ⟨w.heap.size,1,none⟩=some (.int .i64 (m:Int))∧W.cell? ⟨w.heap.size,2,none⟩=some (.int .i64 0)∧W.cell? ⟨w.heap.size,3,none⟩=some (.int .i64 0)∧W.cell? ⟨w.heap.size,4,none⟩=some (.int .i64 0)∧W.cell? ⟨w.heap.size,5,none⟩=some (.int .i64 (j:Int))∧W.cell? ⟨L,2,none⟩=some (.slice (some ⟨b3,off3,none⟩) f.cells.length cc)∧W.cell? ⟨L,7,none⟩=some (.slice (some ⟨K,0,none⟩) f.cells.length f.cells.length)∧W.cell? ⟨K,j,none⟩=some (.int .i64 kn)∧W.cell? ⟨b3,off3+j*2,none⟩=some (.int .i64 Tc)) (by kernel_rfl) ?_ (fun hHeld=>?_)
 ·refine' zq125
 refine tk 0 (some 295) rfl ?_
 refine tk 1 (some 296) rfl ?_
 refine tk 2 (some 297) rfl ?_
 refine tk 4 (some 299) rfl ?_
 refine tk 5 (some 300) rfl ?_
 refine tk 6 (some 301) rfl ?_
 refine tk 7 (some 302) rfl ?_
 refine tk 8 (some 303) rfl ?_
 refine tk 9 (some 304) rfl ?_
 refine tk 10 (some 305) rfl ?_
 refine tk 11 (some 306) rfl ?_
 refine tk 12 (some 307) rfl ?_
 refine tk 13 (some 308) rfl ?_
 refine rd1 3 (some 298) rfl (fun KK hKK=>?_)
 go_simp
 (go_at_call 64;(first|(with_reducible refine (kind_b HN5.out hB5 hd HTd.out bE).mono ?_));rintro e w8 ⟨rfl,rfl⟩)
 refine' zq104
 refine tk 14 (some 309) rfl ?_
 refine tk 15 (some 310) rfl ?_
 cases e1
 ·refine sk 16 (some 311) rfl ?_
  refine sk 17 (some 312) rfl ?_
  refine sk 18 (some 313) rfl ?_
  refine sk 19 (some 314) rfl ?_
  refine sk 20 (some 315) rfl ?_
  refine sk 21 (some 316) rfl ?_
  refine sk 22 (some 317) rfl ?_
  refine sk 23 (some 318) rfl ?_
  refine sk 24 (some 319) rfl ?_
  refine sk 25 (some 320) rfl ?_
  refine sk 26 (some 321) rfl ?_
  refine sk 27 (some 322) rfl ?_
  refine sk 28 (some 323) rfl ?_
  refine tk 29 (some 324) rfl ?_
  refine tk 30 (some 4) rfl ?_
  refine' zq100
 refine tk 16 (some 311) rfl ?_
 refine tk 17 (some 312) rfl ?_
 refine tk 18 (some 313) rfl ?_
 refine tk 19 (some 314) rfl ?_
 refine tk 20 (some 315) rfl ?_
 refine tk 21 (some 316) rfl ?_
 refine tk 22 (some 317) rfl ?_
 refine tk 23 (some 318) rfl ?_
 refine tk 24 (some 319) rfl ?_
 refine tk 25 (some 320) rfl ?_
 refine tk 26 (some 321) rfl ?_
 refine rd1 27 (some 322) rfl (fun KK hKK=>?_)
 go_simp
 refine hKK.out _ _ ?_ (fun hHeld=>?_)
 ·refine' zq125
 refine' zq4
 refine rd1 28 (some 323) rfl (fun KK hKK=>?_)
 go_simp
 (go_at_call 65;(refine (alike2_c HN5.out hB5 hd hkW wd wkn HV.out bE (by rfl)).mono ?_);rintro e w8 ⟨rfl,hb8⟩;(have hb9:Below w5.heap.size w5 w8:=Below.trans bE (hb8.mono lE));(have hs9:=hb9.size))
 refine' zq104
 refine tk 29 (some 324) rfl ?_
 refine tk 30 (some 4) rfl ?_
 refine' zq100
end
section
variable {w:World} {B L:Nat} {f:Fm} {vw va vc vk vi vo vb ve:Value}
theorem nact_any (h:NkAt w B L f vw va vc vk vi vo vb ve) (hB:B≤w.heap.size) (x:Ac) (wx:AcIn x) (hd:isW f x.dst) (hcl:∀n,isW f n→(clockOf f n).length≤1600)
  {K:Nat} {ks:List Int} (hve:ve= .slice (some ⟨K,0,none⟩) f.cells.length f.cells.length) (hK:KsAt w L K ks) (hkl:ks.length=f.cells.length) (hkk:∀c:Nat,c<f.cells.length→getI ks c=(kept f c).getD (-1)) (hcok:cellsOk f):
  Calls Tryz.prog 28 #[.pointer (some ⟨L,0,none⟩),acV x] w fun e w'=>e= .returned (.bool (cB (actOk f x)))∧Below w.heap.size w w':=by
 obtain ⟨op,dst,a,b,c,k⟩:=x
 by_cases hall:allW3 f a b c
 rotate_left 1
 ·exact nact_no h hB op dst a b c k wx hall
 by_cases hu:0≤uses op
 rotate_left 1
 ·exact nact_none h hB op dst a b c k wx hd (by omega) hall
 rcases uses_cases hu with hop|hop|hop|hop|hop|hop|hop|hop|hop
 ·exact nact_1 h hB op dst a b c k wx hd hop hall
 ·exact nact_2 h hB op dst a b c k wx hd hop hall
 ·exact nact_21 h hB op dst a b c k wx hd hop hall hve hK hkl hkk hcok
 ·exact nact_3 h hB op dst a b c k wx hd hop hall
 ·exact nact_24 h hB op dst a b c k wx hd hop hall hcl
 ·exact nact_26 h hB op dst a b c k wx hd hop hall (hcl dst hd)
 ·exact nact_27 h hB op dst a b c k wx hd hop hall
 ·exact nact_one h hB op dst a b c k wx hd (by omega) hall
 ·exact nact_two h hB op dst a b c k wx hd hop hall
end
theorem act_facts {f:Fm} (hw:wiresOk f) {x:Ac} (hd:isW f x.dst) (ha:actOk f x):0≤uses x.op∧isW f x.dst∧(∀n∈wants x,isW f n)∧∀g∈clockOf f x.dst,isW f g.wire:=by
 obtain ⟨h1,h2,h3,h4,_⟩:=ha
 refine ⟨h4,hd,fun n hn=>?_,fun g hg=>(clock_ok hw hd g hg).1⟩
 unfold wants at hn
 split at hn
 ·simp at hn
 ·split at hn
  ·simp at hn;rw[hn];exact h1
  ·split at hn
   ·simp at hn;rcases hn with rfl|rfl<;>assumption
   ·simp at hn;rcases hn with rfl|rfl|rfl<;>assumption
theorem nright_any (f:Fm) (vw va vc vk vi vo:Value) (w:World) (h:FmAt w w.heap.size f vw va vc vk vi vo) (hcl:f.cells.length≤1600):
  Calls Tryz.prog 8 #[fmV vw va vc vk vi vo] w fun e w'=>e= .returned (.bool (cB (formOk f)))∧Below w.heap.size w w':=by
 have HFM:=Lib.hid h
 have HCL:=Lib.hid hcl
 clear h hcl
 go_enter Tryz.func8,Tryz.ntmps8
 go_upto_region 2 with (fail)
 have b1:Below w.heap.size w ((w.alloc (.cells #[vw,va,vc,vk,vi,vo] 28)).alloc (.cells #[vw,va,vc,vk,vi,vo,.slice none 0 0,.slice none 0 0] 55)):=bE
 have rG1:Row ((w.alloc (.cells #[vw,va,vc,vk,vi,vo] 28)).alloc (.cells #[vw,va,vc,vk,vi,vo,.slice none 0 0,.slice none 0 0] 55)) w.heap.size #[vw,va,vc,vk,vi,vo] 28:=(Row.new w _ _).alloc _
 have rL1:Row ((w.alloc (.cells #[vw,va,vc,vk,vi,vo] 28)).alloc (.cells #[vw,va,vc,vk,vi,vo,.slice none 0 0,.slice none 0 0] 55)) (w.heap.size+1) #[vw,va,vc,vk,vi,vo,.slice none 0 0,.slice none 0 0] 55:=rowNew2 w _ _ _
 generalize (w.alloc (.cells #[vw,va,vc,vk,vi,vo] 28)).alloc (.cells #[vw,va,vc,vk,vi,vo,.slice none 0 0,.slice none 0 0] 55)=w1 at*
 generalize hL:w.heap.size+1=L at*
 have hGL:w.heap.size≠L:=by omega
 have hBL:w.heap.size≤L:=by omega
 have hs1:=b1.size
 have hLlt:=rL1.lt
 have hN1:NkAt w1 w.heap.size L f vw va vc vk vi vo (.slice none 0 0) (.slice none 0 0):=⟨rL1,HFM.out.below b1⟩
 have HG:Hid (∀W,Upd (fun k=>k=L) w1 W→W.cell? ⟨w.heap.size,1,none⟩=some va∧W.cell? ⟨w.heap.size,4,none⟩=some vi∧W.cell? ⟨w.heap.size,5,none⟩=some vo):=fun W hW=>
  ⟨(hW.row rG1 hGL).cell 1,(hW.row rG1 hGL).cell 4,(hW.row rG1 hGL).cell 5⟩
 have HFIN:Hid (∀W,Upd (fun k=>k=L) w1 W→Below w.heap.size w W):=fun W hW=>(b1.trans ((hW.below (B:=w.heap.size) (fun k hk=>by omega) hs1)))
 clear b1 rG1 rL1 hL
 have HC:=Lib.hid (nwires_any hN1 hs1)
 by_cases h1:wiresOk f
 rotate_left 1
 ·have HF:Hid (cB (formOk f)=false):=cB_false (fun g=>h1 g.1)
  rw[cB_false h1] at HC
  clear h1
  refine' zq59
  rintro e w2 ⟨rfl,hb2⟩
  go_wp2_with fail
  go_ret
  exact ⟨ret_bool HF.out.symm,HFIN.out _ (Upd.of_below hb2)⟩
 rw[cB_true h1] at HC
 have H1:=Lib.hid h1
 clear h1
 refine' zq59
 rintro e w2 ⟨rfl,hb2⟩
 have u2:Upd (fun k=>k=L) w1 w2:=Upd.of_below hb2
 have hN2:=hN1.below hs1 hb2
 have hs2:w.heap.size≤w2.heap.size:=Nat.le_trans hs1 hb2.size
 clear hN1 hb2 HC
 obtain ⟨x1,x4,x5⟩:=HG.out _ u2
 have HC:=Lib.hid (nports_any hN2 hs2 f.ins vi hN2.fm.ins)
 by_cases h1:portsOk f f.ins
 rotate_left 1
 ·have HF:Hid (cB (formOk f)=false):=cB_false (fun g=>h1 g.2.1)
  rw[cB_false h1] at HC
  clear h1
  refine' zq59
  rintro e w3 ⟨rfl,hb3⟩
  go_wp2_with fail
  go_ret
  exact ⟨ret_bool HF.out.symm,HFIN.out _ (u2.trans (Upd.of_below hb3))⟩
 rw[cB_true h1] at HC
 have H2:=Lib.hid h1
 clear h1
 refine' zq59
 rintro e w3 ⟨rfl,hb3⟩
 have u3:Upd (fun k=>k=L) w1 w3:=u2.trans (Upd.of_below hb3)
 have hN3:=hN2.below hs2 hb3
 have hs3:w.heap.size≤w3.heap.size:=Nat.le_trans hs2 hb3.size
 clear hN2 hb3 HC x1 x4 x5 u2
 obtain ⟨x1,x4,x5⟩:=HG.out _ u3
 have HC:=Lib.hid (nports_any hN3 hs3 f.outs vo hN3.fm.outs)
 by_cases h1:portsOk f f.outs
 rotate_left 1
 ·have HF:Hid (cB (formOk f)=false):=cB_false (fun g=>h1 g.2.2.1)
  rw[cB_false h1] at HC
  clear h1
  refine' zq59
  rintro e w4 ⟨rfl,hb4⟩
  go_wp2_with fail
  go_ret
  exact ⟨ret_bool HF.out.symm,HFIN.out _ (u3.trans (Upd.of_below hb4))⟩
 rw[cB_true h1] at HC
 have H3:=Lib.hid h1
 clear h1
 refine' zq59
 rintro e w4 ⟨rfl,hb4⟩
 have u4:Upd (fun k=>k=L) w1 w4:=u3.trans (Upd.of_below hb4)
 have hN4:=hN3.below hs3 hb4
 have hs4:w.heap.size≤w4.heap.size:=Nat.le_trans hs3 hb4.size
 clear hN3 hb4 HC x1 x4 x5 u3
 obtain ⟨x1,x4,x5⟩:=HG.out _ u4
 have HC:=Lib.hid (ncells_any hN4 hBL HCL.out)
 clear hN4
 refine' zq59
 rintro e w5 ⟨r5,ve5,rfl,hr5,hN5,v5,hK5⟩
 have u5:=u4.trans v5
 have hs5:w.heap.size≤w5.heap.size:=Nat.le_trans hs4 v5.size
 have HR5:=Lib.hid hr5
 have HK5:=Lib.hid hK5
 clear HC x1 x4 x5 u4 v5 hr5 hK5
 obtain ⟨x1,x4,x5⟩:=HG.out _ u5
 cases r5
 ·have HF:Hid (cB (formOk f)=false):=cB_false (fun g=>by have:=HR5.out.2 g.2.2.2.1;cases this)
  go_wp2_with fail
  go_ret
  exact ⟨ret_bool HF.out.symm,HFIN.out _ u5⟩
 have H4:Hid (cellsOk f):=HR5.out.1 rfl
 obtain ⟨K,ks,rfl,hKs,hkl,hkk⟩:=HK5.out rfl
 have HKK:=Lib.hid hkk
 have HKL:=Lib.hid hkl
 have HKS:=Lib.hid hKs
 have HC:=Lib.hid (ndefined_any hN5 hBL H1.out.2.2 (fun n hn=>(H2.out.1 n hn).1))
 clear hN5 hkk hkl hKs HK5 HR5
 refine' zq59
 rintro e w6 ⟨r6,vb6,rfl,hr6,hN6,v6⟩
 have u6:=u5.trans v6
 have hs6:w.heap.size≤w6.heap.size:=Nat.le_trans hs5 v6.size
 have HR6:=Lib.hid hr6
 have HKS6:Hid (KsAt w6 L K ks):=⟨v6.row HKS.out.row HKS.out.ne,HKS.out.ne⟩
 clear HC x1 x4 x5 u5 v6 hr6
 obtain ⟨x1,x4,x5⟩:=HG.out _ u6
 cases r6
 ·have HF:Hid (cB (formOk f)=false):=cB_false (fun g=>by have:=HR6.out.2 g.2.2.2.2.1;cases this)
  go_wp2_with fail
  go_ret
  exact ⟨ret_bool HF.out.symm,HFIN.out _ u6⟩
 have H5:Hid (definedOk f):=HR6.out.1 rfl
 have HN6:=Lib.hid (fun W (hW:Below w6.heap.size w6 W)=>hN6.below hs6 hW)
 have HCL2:=Lib.hid (fun n (hn:isW f n)=>clock_len H1.out hn)
 obtain ⟨Aa,ca,rfl,la,ma,sa⟩:=hN6.fm.acts
 have ma':ca≤9223372036854775807:=by unfold maxLen at ma;omega
 clear hN6 sa HR6
 go_wp2_with fail
 go_loopw[39] (fun i wr=>∃k:Nat,k≤f.acts.length∧i= .int .i64 k∧Hid (∀j,j<k→∀x,f.acts[j]? =some x→actOk f x)∧Below w6.heap.size w6 wr) (fun i _=>f.acts.length-(intOf i).toNat)
 case atStart=>exact ⟨0,Nat.zero_le _,rfl,fun j hj=>absurd hj (by omega),Below.refl _ _⟩
 case round=>
  clear x1 x4 x5
  obtain ⟨k,hk,rfl,HA,hb⟩:=hrel
  have hsr:=hb.size
  by_cases hlt:k<f.acts.length
  rotate_left 1
  ·obtain rfl:k=f.acts.length:=by omega
   have HA2:=Lib.hid (all_upto HA.out)
   have HC:=Lib.hid (nrow_any (HN6.out _ hb) (by omega) H1.out.2.2 (fun n hn=>(H2.out.1 n hn).1) (fun x hx=>act_facts H1.out (H5.out.2.1 x hx).1 (HA2.out x hx)))
   have HF:Hid (cB (formOk f)=cB (rowOk f)):=cB_congr ⟨fun g=>g.2.2.2.2.2.2,fun g=>⟨H1.out,H2.out,H3.out,H4.out,H5.out,HA2.out,g⟩⟩
   generalize cB (rowOk f)=R at*
   refine' zq59
   rintro e w8 ⟨rfl,hb8⟩
   go_wp2_with fail
   go_ret
   exact ⟨ret_bool HF.out.symm,HFIN.out _ (u6.trans ((Upd.of_below hb).trans (Upd.of_below hb8)))⟩
  obtain ⟨A',c',he,_,_,sa⟩:=(HN6.out _ hb).fm.acts
  injection he with he1 he2 he3
  subst he1
  obtain ⟨b,off,⟨xo,xd,xa,xb,xc,xk⟩,hAa,hbb,hx,wx,d0,d1,d2,d3,d4,d5⟩:=sa.ac hlt
  subst hAa
  have HX:=Lib.hid hx
  refine' zq305
  have r9:=Row.new wr #[.int .i64 xo,.int .i64 xd,.int .i64 xa,.int .i64 xb,.int .i64 xc,.int .i64 xk] 58
  have hb7:=hb.trans (ba.mono hsr)
  clear he2 he3 hx sa
  go_upto_region 7 with (fail)
  generalize wr.heap.size=g9 at*
  generalize wr.alloc (.cells #[.int .i64 xo,.int .i64 xd,.int .i64 xa,.int .i64 xb,.int .i64 xc,.int .i64 xk] 58)=w7 at*
  clear d0 d1 d2 d3 d4 d5 ba
  obtain ⟨c0,c1,c2,c3,c4,c5⟩:=r9.six'
  have hs7:=hb7.size
  have HC:=Lib.hid (nact_any (HN6.out _ hb7) (by omega) ⟨xo,xd,xa,xb,xc,xk⟩ wx (H5.out.2.1 _ (List.mem_of_getElem? HX.out)).1 HCL2.out rfl ⟨HKS6.out.row.below hb7 HKS6.out.row.lt,HKS6.out.ne⟩ HKL.out HKK.out H4.out)
  by_cases ha:actOk f ⟨xo,xd,xa,xb,xc,xk⟩
  ·rw[cB_true ha] at HC
   have HA':=Lib.hid (upto_succ HA.out (fun y hy=>by rw[HX.out] at hy;injection hy with hy;rw[←hy];exact ha))
   clear ha
   refine' zq59
   rintro e w8 ⟨rfl,hb8⟩
   have hb68:=hb7.trans (hb8.mono hs7)
   go_wp2_with fail
   go_roundw
   case rel=>exact ⟨k+1,by omega,by go_num,HA',hb68⟩
   case measure=>first|(simp[intOf];omega)|simp[intOf]
  ·rw[cB_false ha] at HC
   have HF:Hid (cB (formOk f)=false):=cB_false (fun g=>ha (g.2.2.2.2.2.1 _ (List.mem_of_getElem? HX.out)))
   clear ha
   refine' zq59
   rintro e w8 ⟨rfl,hb8⟩
   go_wp2_with fail
   go_ret
   exact ⟨ret_bool HF.out.symm,HFIN.out _ (u6.trans (Upd.of_below (hb7.trans (hb8.mono hs7))))⟩
end Go.Proofs.YtckognjamlckcaaGreatDoor
namespace Go.Proofs.YtckognjamlckcaaGreatDoor.Fo
open Vf
section
variable {f:Fm} {H H':List Int} {ds:List Bool}
end
end Go.Proofs.YtckognjamlckcaaGreatDoor.Fo
namespace Go.Proofs.YtckognjamlckcaaGreatDoor
open Go.RowKit Vf Fo
attribute [local go_sem ↓] Go.wp_at_zero Go.wp_at_succ
structure AcOk (f:Fm) (x:Ac):Prop where
 uses:0≤uses x.op
 dst:isW f x.dst
 wants:∀n∈wantsAll f x,isW f n
 clock:(clockOf f x.dst).length≤1600
def acC (x:Ac):List Value:=[.int .i64 x.op,.int .i64 x.dst,.int .i64 x.a,.int .i64 x.b,.int .i64 x.c,.int .i64 x.k]
def acF (l:List Ac):List Value:=(l.map acC).flatten
end Go.Proofs.YtckognjamlckcaaGreatDoor
