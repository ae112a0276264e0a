/-
  norm's looker: act, numbers, and what is no op. norm's looker: act, an act that is another wire. norm's looker: act, one of two.
-/
import Derived.Test.YtckognjamlckcaaGreatDoorZz
import Derived.Test.YtckognjamlckcaaGreatDoorNormK
set_option maxHeartbeats 2000000
set_option maxRecDepth 100000
namespace Go.Proofs.YtckognjamlckcaaGreatDoor
open Go.RowKit Vf Fo
attribute [local go_sem ↓] Go.wp_at_zero Go.wp_at_succ
section
variable {w:World} {B L:Nat} {f:Fm} {vw va vc vk vi vo vb ve:Value}
theorem nact_1 (h:NkAt w B L f vw va vc vk vi vo vb ve) (hB:B≤w.heap.size) (op dst a b c k:Int) (wx:AcIn ⟨op,dst,a,b,c,k⟩) (hd:isW f dst) (hop:op=1) (hall:allW3 f a b c):
  Calls Tryz.prog 28 #[.pointer (some ⟨L,0,none⟩),.agg #[.int .i64 op,.int .i64 dst,.int .i64 a,.int .i64 b,.int .i64 c,.int .i64 k]] w fun e w'=>e= .returned (.bool (cB (actOk f ⟨op,dst,a,b,c,k⟩)))∧Below w.heap.size w w':=by
 refine' zq78
 have HIFF:=Lib.hid (act_iff1 (dst:=dst) (k:=k) hop hall)
 have HV3:Hid (cB (isW f a∧isW f b∧isW f c)=true):=cB_true hall
 have sg:Ar.signB op=false:=by simp[Ar.signB];omega
 have o1:(op==1)=true:=by rw[beq_iff_eq];omega
 have o2:(op==2)=false:=by rw[beq_eq_false_iff_ne];omega
 refine' zq85
 by_cases e1:Td=1
 ·have HR:=Lib.hid (cB_true (HIFF.out.2 ⟨⟨rfl,rfl,rfl⟩,e1⟩))
  have e1':(Td==1)=true:=by simp[e1]
  refine' zq278
 ·have HR:=Lib.hid (cB_false (fun g=>e1 (HIFF.out.1 g).2))
  have e1':(Td==1)=false:=by simp[e1]
  refine' zq278
theorem nact_2 (h:NkAt w B L f vw va vc vk vi vo vb ve) (hB:B≤w.heap.size) (op dst a b c k:Int) (wx:AcIn ⟨op,dst,a,b,c,k⟩) (hd:isW f dst) (hop:op=2) (hall:allW3 f a b c):
  Calls Tryz.prog 28 #[.pointer (some ⟨L,0,none⟩),.agg #[.int .i64 op,.int .i64 dst,.int .i64 a,.int .i64 b,.int .i64 c,.int .i64 k]] w fun e w'=>e= .returned (.bool (cB (actOk f ⟨op,dst,a,b,c,k⟩)))∧Below w.heap.size w w':=by
 refine' zq78
 have HIFF:=Lib.hid (act_iff2 (dst:=dst) (k:=k) hop hall)
 refine' zq195
 have o2:(op==2)=true:=by rw[beq_iff_eq];omega
 refine' zq85
 by_cases e1:Td=2
 ·have HR:Hid (cB (actOk f ⟨op,dst,0,0,0,k⟩)=cB (valueOk 2 k)):=cB_congr (HIFF.out.trans ⟨fun g=>g.2.2,fun g=>⟨⟨rfl,rfl,rfl⟩,e1,g⟩⟩)
  have HVT:=Lib.hid (fun W=>ntruth_any 2 k W)
  have e1':(Td==2)=true:=by simp[e1]
  clear e1
  generalize cB (actOk f ⟨op,dst,0,0,0,k⟩)=R at*
  generalize cB (valueOk 2 k)=V at*
  refine' zq40
  (with_reducible refine (HVT.out _).mono ?_)
  rintro e w6 ⟨rfl,rfl⟩
  go_wp2_with fail
  go_ret
  exact ⟨ret_bool HR.out.symm,hb16 _⟩
 ·have HR:=Lib.hid (cB_false (fun g=>e1 (HIFF.out.1 g).2.1))
  have e1':(Td==2)=false:=by simp[e1]
  refine' zq278
theorem nact_none (h:NkAt w B L f vw va vc vk vi vo vb ve) (hB:B≤w.heap.size) (op dst a b c k:Int) (wx:AcIn ⟨op,dst,a,b,c,k⟩) (hd:isW f dst) (hop:uses op<0) (hall:allW3 f a b c):
  Calls Tryz.prog 28 #[.pointer (some ⟨L,0,none⟩),.agg #[.int .i64 op,.int .i64 dst,.int .i64 a,.int .i64 b,.int .i64 c,.int .i64 k]] w fun e w'=>e= .returned (.bool (cB (actOk f ⟨op,dst,a,b,c,k⟩)))∧Below w.heap.size w w':=by
 refine' zq78
 have HF:=Lib.hid (cB_false (act_none (f:=f) (dst:=dst) (a:=a) (b:=b) (c:=c) (k:=k) hop))
 have hop':op≠1∧op≠2∧op≠21∧op≠3∧op≠24∧op≠26∧op≠27∧¬(5≤op∧op≤20):=by unfold uses at hop;(repeat' split at hop);all_goals omega
 refine' zq65
 refine' zq231
 refine' zq129
 refine' zq207
 clear hop hop'
 refine' zq198
 refine' zq6
 refine' zq2
 go_wp2_with fail
 go_ret
 exact ⟨ret_bool HF.out.symm,by first|exact hb15|exact below_drewN' hb15 _⟩
end
section
variable {w:World} {B L:Nat} {f:Fm} {vw va vc vk vi vo vb ve:Value}
theorem alike2_c {a b:Int} {V:Bool} {g:Nat} (h:NkAt w B L f vw va vc vk vi vo vb ve) (hB:B≤w.heap.size) (ha:isW f a) (hb:isW f b) (wa:Wf a) (wb:Wf b) (hV:cB (clockOf f a=clockOf f b)=V) {W:World} (hW:Below w.heap.size w W) (hg:W.heap.size=g):
  Calls Tryz.prog 65 #[.pointer (some ⟨L,0,none⟩),.slice (some ⟨g,0,none⟩) 2 2] (W.alloc (.cells #[.int .i64 a,.int .i64 b] 3)) fun e w'=>e= .returned (.bool V)∧Below W.heap.size W w':=by
 subst hg
 exact alike2_b h hB ha hb wa wb hV hW
theorem alike4_c {a b c d:Int} {V:Bool} {g:Nat} (h:NkAt w B L f vw va vc vk vi vo vb ve) (hB:B≤w.heap.size) (ha:isW f a) (hb:isW f b) (hc:isW f c) (hd:isW f d) (wa:Wf a) (wb:Wf b) (wc:Wf c) (wd:Wf d) (hV:cB (clockOf f a=clockOf f b∧clockOf f a=clockOf f c∧clockOf f a=clockOf f d)=V) {W:World} (hW:Below w.heap.size w W) (hg:W.heap.size=g):
  Calls Tryz.prog 65 #[.pointer (some ⟨L,0,none⟩),.slice (some ⟨g,0,none⟩) 4 4] (W.alloc (.cells #[.int .i64 a,.int .i64 b,.int .i64 c,.int .i64 d] 3)) fun e w'=>e= .returned (.bool V)∧Below W.heap.size W w':=by
 subst hg
 exact alike4_b h hB ha hb hc hd wa wb wc wd hV hW
theorem cB_beq {x y:Int}:cB (x=y)=(x==y):=by rw[Bool.eq_iff_iff,cB_iff,beq_iff_eq]
theorem nact_3 (h:NkAt w B L f vw va vc vk vi vo vb ve) (hB:B≤w.heap.size) (op dst a b c k:Int) (wx:AcIn ⟨op,dst,a,b,c,k⟩) (hd:isW f dst) (hop:op=3) (hall:allW3 f a b c):
  Calls Tryz.prog 28 #[.pointer (some ⟨L,0,none⟩),.agg #[.int .i64 op,.int .i64 dst,.int .i64 a,.int .i64 b,.int .i64 c,.int .i64 k]] w fun e w'=>e= .returned (.bool (cB (actOk f ⟨op,dst,a,b,c,k⟩)))∧Below w.heap.size w w':=by
 refine' zq78
 have HIFF:=Lib.hid (act_iff3 (dst:=dst) (k:=k) hop hall)
 refine' zq195
 have o2:(op==2)=false:=by rw[beq_eq_false_iff_ne];omega
 have o3:(op==3)=true:=by rw[beq_iff_eq];omega
 refine' zq231
 refine' zq129
 refine' zq207
 clear hop
 by_cases h0:b=0∧c=0∧k=0
 rotate_left 1
 ·have HQ:=Lib.hid (cB_false (show ¬actOk f ⟨op,dst,a,b,c,k⟩ from fun g=>h0 (HIFF.out.1 g).1))
  refine' zq198
  rcases (by omega:b≠0∨(b=0∧c≠0)∨(b=0∧c=0∧k≠0)) with hz|⟨hz0,hz⟩|⟨hz0,hz1,hz⟩
  ·refine' zq6
   refine' zq35
   go_upto_region 13 with (fail)
   refine' zq53
   refine' zq37
   refine' zq100
  ·refine' zq74
   go_upto_region 13 with (fail)
   refine' zq141
   refine' zq37
   refine' zq100
  ·refine' zq71
   go_upto_region 13 with (fail)
   refine' zq142
   refine' zq37
   refine' zq100
 obtain ⟨rfl,rfl,rfl⟩:=h0
 have ha:=hall.1
 have HQ:Hid (cB (actOk f ⟨op,dst,a,0,0,0⟩)=(cB (clockOf f dst=clockOf f a) && cB (tyOf f dst=tyOf f a))):=by
  show _=_
  rw[←cB_and]
  exact cB_congr (HIFF.out.trans ⟨fun g=>g.2,fun g=>⟨⟨rfl,rfl,rfl⟩,g⟩⟩)
 rw[cB_beq] at HQ
 generalize cB (actOk f ⟨op,dst,a,0,0,0⟩)=R at*
 generalize hV:cB (clockOf f dst=clockOf f a)=V at*
 generalize hTa:tyOf f a=Ta at*
 refine' zq248
 have HTd:=Lib.hid hTd
 clear hV hTa hTd HIFF
 generalize he3:(Td==Ta)=b3 at*
 refine' zq38
 go_upto_region 13 with (fail)
 refine' zq140
 refine' zq218
 refine tk 10 (some 97) rfl ?_
 refine tk 11 (some 98) rfl ?_
 refine tk 12 (some 99) rfl ?_
 refine tk 13 (some 100) rfl ?_
 refine tk 14 (some 101) rfl ?_
 refine rd1 15 (some 102) rfl (fun KK hKK=>?_)
 go_simp
 refine' zq239
 refine rd1 16 (some 103) rfl (fun KK hKK=>?_)
 refine' zq243
 refine tk 17 (some 104) rfl ?_
 refine tk 18 (some 105) rfl ?_
 cases V
 ·refine' zq190
  refine' zq100
 refine tk 19 (some 106) rfl ?_
 refine tk 20 (some 107) rfl ?_
 refine tk 21 (some 108) rfl ?_
 refine tk 23 (some 110) rfl ?_
 refine tk 24 (some 111) rfl ?_
 refine tk 25 (some 112) rfl ?_
 refine rd1 22 (some 109) rfl (fun KK hKK=>?_)
 refine' zq107
 refine' zq11
 refine rd1 26 (some 113) rfl (fun KK hKK=>?_)
 refine' zq107
 refine' zq11
 refine tk 27 (some 114) rfl ?_
 refine tk 28 (some 115) rfl ?_
 refine tk 29 (some 4) rfl ?_
 refine' zq100
end
section
variable {w:World} {B L:Nat} {f:Fm} {vw va vc vk vi vo vb ve:Value}
theorem nact_27 (h:NkAt w B L f vw va vc vk vi vo vb ve) (hB:B≤w.heap.size) (op dst a b c k:Int) (wx:AcIn ⟨op,dst,a,b,c,k⟩) (hd:isW f dst) (hop:op=27) (hall:allW3 f a b c):
  Calls Tryz.prog 28 #[.pointer (some ⟨L,0,none⟩),.agg #[.int .i64 op,.int .i64 dst,.int .i64 a,.int .i64 b,.int .i64 c,.int .i64 k]] w fun e w'=>e= .returned (.bool (cB (actOk f ⟨op,dst,a,b,c,k⟩)))∧Below w.heap.size w w':=by
 refine' zq78
 obtain ⟨ha,hb,hc⟩:=hall
 have hall:allW3 f a b c:=⟨ha,hb,hc⟩
 have HQ:Hid (cB (actOk f ⟨op,dst,a,b,c,k⟩)=(cB (k=0) && (cB (clockOf f dst=clockOf f a∧clockOf f dst=clockOf f b∧clockOf f dst=clockOf f c) && (cB (tyOf f a=2) && (cB (tyOf f b=tyOf f c) && cB (tyOf f dst=tyOf f b)))))):=by
  show _=_
  rw[←cB_and,←cB_and,←cB_and,←cB_and]
  exact cB_congr (act_iff27 hop hall)
 rw[cB_beq (x:=k),cB_beq (x:=tyOf f a),cB_beq (x:=tyOf f b),cB_beq (x:=tyOf f dst)] at HQ
 refine' zq65
 have o27:(op==27)=true:=by rw[beq_iff_eq];omega
 refine' zq129
 refine' zq207
 clear hop
 refine' zq198
 generalize hV:cB (clockOf f dst=clockOf f a∧clockOf f dst=clockOf f b∧clockOf f dst=clockOf f c)=V at*
 generalize hTa:tyOf f a=Ta at*
 generalize hTb:tyOf f b=Tb at*
 generalize hTc:tyOf f c=Tc at*
 refine' zq248
 have HTb:=Lib.hid hTb
 have HTc:=Lib.hid hTc
 have HTd:=Lib.hid hTd
 clear hV hTa hTb hTc hTd
 generalize hb1:(k==0)=b1 at*
 generalize he1:(Ta==2)=e1 at*
 generalize he2:(Tb==Tc)=e2 at*
 generalize he3:(Td==Tb)=e3 at*
 refine' zq6
 refine' zq35
 go_upto_region 15 with (fail)
 refine' zq53
 refine tk 0 (some 118) rfl ?_
 refine tk 1 (some 119) rfl ?_
 refine tk 2 (some 120) rfl ?_
 refine tk 3 (some 121) rfl ?_
 cases b1
 ·refine sk 4 (some 122) rfl ?_
  refine sk 5 (some 123) rfl ?_
  refine sk 6 (some 124) rfl ?_
  refine sk 7 (some 125) rfl ?_
  refine sk 8 (some 126) rfl ?_
  refine sk 9 (some 127) rfl ?_
  refine sk 10 (some 128) rfl ?_
  refine sk 11 (some 129) rfl ?_
  refine sk 12 (some 130) rfl ?_
  refine sk 13 (some 131) rfl ?_
  refine sk 14 (some 132) rfl ?_
  refine tk 15 (some 133) rfl ?_
  refine tk 16 (some 134) rfl ?_
  refine' zq267
 refine tk 4 (some 122) rfl ?_
 refine tk 5 (some 123) rfl ?_
 refine tk 6 (some 124) rfl ?_
 refine tk 7 (some 125) rfl ?_
 refine tk 8 (some 126) rfl ?_
 refine tk 9 (some 127) rfl ?_
 refine tk 10 (some 128) rfl ?_
 refine tk 11 (some 129) rfl ?_
 refine tk 12 (some 130) rfl ?_
 refine rd1 13 (some 131) rfl (fun KK hKK=>?_)
 go_simp
 refine' zq239
 refine rd1 14 (some 132) rfl (fun KK hKK=>?_)
 go_simp
 (go_at_call 65;(refine (alike4_c HN5.out hB5 hd ha hb hc wd wa wb wc HV.out bE (by rfl)).mono ?_);rintro e w8 ⟨rfl,hb8⟩;(have hb9:Below w5.heap.size w5 w8:=Below.trans bE (hb8.mono lE));(have hs9:=hb9.size))
 refine' zq11
 refine tk 15 (some 133) rfl ?_
 refine tk 16 (some 134) rfl ?_
 cases V
 ·refine' zq267
 refine tk 17 (some 135) rfl ?_
 refine tk 18 (some 136) rfl ?_
 refine tk 19 (some 137) rfl ?_
 refine rd1 20 (some 138) rfl (fun KK hKK=>?_)
 refine' zq8
 refine tk 21 (some 139) rfl ?_
 refine tk 22 (some 140) rfl ?_
 refine tk 23 (some 141) rfl ?_
 cases e1
 ·refine' zq47
 refine tk 24 (some 142) rfl ?_
 refine tk 25 (some 143) rfl ?_
 refine tk 26 (some 144) rfl ?_
 refine tk 28 (some 146) rfl ?_
 refine tk 29 (some 147) rfl ?_
 refine tk 30 (some 148) rfl ?_
 refine rd1 27 (some 145) rfl (fun KK hKK=>?_)
 refine' zq8
 refine rd1 31 (some 149) rfl (fun KK hKK=>?_)
 refine' zq8
 refine tk 32 (some 150) rfl ?_
 refine tk 33 (some 151) rfl ?_
 refine tk 34 (some 152) rfl ?_
 cases e2
 ·refine' zq191
  refine' zq100
 refine tk 35 (some 153) rfl ?_
 refine tk 36 (some 154) rfl ?_
 refine tk 37 (some 155) rfl ?_
 refine tk 39 (some 157) rfl ?_
 refine tk 40 (some 158) rfl ?_
 refine tk 41 (some 159) rfl ?_
 refine rd1 38 (some 156) rfl (fun KK hKK=>?_)
 refine' zq8
 refine rd1 42 (some 160) rfl (fun KK hKK=>?_)
 refine' zq8
 refine tk 43 (some 161) rfl ?_
 refine tk 44 (some 162) rfl ?_
 refine tk 45 (some 4) rfl ?_
 refine' zq100
end
end Go.Proofs.YtckognjamlckcaaGreatDoor
