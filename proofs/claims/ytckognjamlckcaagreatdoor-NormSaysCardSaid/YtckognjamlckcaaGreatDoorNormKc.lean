/-
  norm's looker: act, an act that is another wire. norm's looker: act, one of two.
-/
import Derived.Test.YtckognjamlckcaaGreatDoorNormKa
set_option maxHeartbeats 2000000
set_option maxRecDepth 100000
namespace Go.Proofs.YtckognjamlckcaaGreatDoor
open Go.RowKit Vf Fo
attribute [local go_sem ↓] Go.wp_at_zero Go.wp_at_succ
section
variable {w:World} {B L:Nat} {f:Fm} {vw va vc vk vi vo vb ve:Value}
theorem ry {a b:Int} {V:Bool} {g:Nat} (h:bI w B L f vw va vc vk vi vo vb ve) (hB:B<=w.heap.size) (ha:ak f a) (hb:ak f b) (wa:Wf a) (wb:Wf b) (hV:cB (aa f a=aa f b)=V) {W:World} (hW:Below w.heap.size w W) (hg:W.heap.size=g):
  Calls Tryz.prog 65 #[.pointer (some ⟨L,0,none⟩),.slice (some ⟨g,0,none⟩) 2 2] (W.alloc (.cells #[.int .i64 a,.int .i64 b] 3)) fun e w'=>e= .returned (.bool V)/\Below W.heap.size W w':=by
 subst hg
 exact yC h hB ha hb wa wb hV hW
theorem zh {a b c d:Int} {V:Bool} {g:Nat} (h:bI w B L f vw va vc vk vi vo vb ve) (hB:B<=w.heap.size) (ha:ak f a) (hb:ak f b) (hc:ak f c) (hd:ak f d) (wa:Wf a) (wb:Wf b) (wc:Wf c) (wd:Wf d) (hV:cB (aa f a=aa f b/\aa f a=aa f c/\aa f a=aa f d)=V) {W:World} (hW:Below w.heap.size w W) (hg:W.heap.size=g):
  Calls Tryz.prog 65 #[.pointer (some ⟨L,0,none⟩),.slice (some ⟨g,0,none⟩) 4 4] (W.alloc (.cells #[.int .i64 a,.int .i64 b,.int .i64 c,.int .i64 d] 3)) fun e w'=>e= .returned (.bool V)/\Below W.heap.size W w':=by
 subst hg
 exact Ab h hB ha hb hc hd wa wb wc wd hV hW
theorem jN {x y:Int}:cB (x=y)=(x==y):=by rw[Bool.eq_iff_iff,cb,beq_iff_eq]
theorem Dr (h:bI w B L f vw va vc vk vi vo vb ve) (hB:B<=w.heap.size) (op dst a b c k:Int) (wx:eP ⟨op,dst,a,b,c,k⟩) (hd:ak f dst) (hop:op=3) (hall:cm f a b c):
  Calls Tryz.prog 28 #[.pointer (some ⟨L,0,none⟩),.agg #[.int .i64 op,.int .i64 dst,.int .i64 a,.int .i64 b,.int .i64 c,.int .i64 k]] w fun e w'=>e= .returned (.bool (cB (au f ⟨op,dst,a,b,c,k⟩)))/\Below w.heap.size w w':=by
 refine' zq143
 have HIFF:=zH (ig (dst:=dst) (k:=k) hop hall)
 refine' zq110
 have o2:(op==2)=false:=by rw[beq_eq_false_iff_ne];omega
 have o3:(op==3)=true:=by rw[beq_iff_eq];omega
 have o27:(op==27)=false:=by rw[beq_eq_false_iff_ne];omega
 refine' zq161
 by_cases h0:b=0/\c=0/\k=0
 rotate_left 1
 ·have HQ:=zH (ab (show ¬au f ⟨op,dst,a,b,c,k⟩ from fun g=>h0 (HIFF.o.1 g).1))
  generalize cB (au f ⟨op,dst,a,b,c,k⟩)=R at*
  rcases (by omega:b≠0\/(b=0/\c≠0)\/(b=0/\c=0/\k≠0)) with hz|⟨hz0,hz⟩|⟨hz0,hz1,hz⟩
  ·refine' zq90
   go_upto_region 13 with (fail)
   refine' zq121
   refine' zq33
   refine' zq116
  ·subst hz0
   have bX:=ai.new w #[.int .i64 op,.int .i64 dst,.int .i64 a,.int .i64 0,.int .i64 c,.int .i64 k] 58
   have b1:Below w.heap.size w (w.alloc (.cells #[.int .i64 op,.int .i64 dst,.int .i64 a,.int .i64 0,.int .i64 c,.int .i64 k] 58)):=bE
   refine' zq55
   generalize hW1:w.alloc (.cells #[.int .i64 op,.int .i64 dst,.int .i64 a,.int .i64 0,.int .i64 c,.int .i64 k] 58)=w1 at*
   refine' zq2
   refine' zq170
   have HS:Hid (∀W,Below w5.heap.size w5 W->W.cell? ⟨w.heap.size,0,none⟩=some (.int .i64 op)/\W.cell? ⟨w.heap.size,1,none⟩=some (.int .i64 (m:Int))/\W.cell? ⟨w.heap.size,2,none⟩=some (.int .i64 a)/\W.cell? ⟨w.heap.size,3,none⟩=some (.int .i64 0)/\W.cell? ⟨w.heap.size,4,none⟩=some (.int .i64 c)/\W.cell? ⟨w.heap.size,5,none⟩=some (.int .i64 k)):=fun W hW=>(bX5.below hW hg5).six'
   refine' zq147
   go_upto_region 13 with (fail)
   clear c0 c1 c2 c3 c4 c5 q0 d1
   refine wp_region_held_drew (S:=fun W=>W.cell? ⟨w.heap.size,0,none⟩=some (.int .i64 op)/\W.cell? ⟨w.heap.size,1,none⟩=some (.int .i64 (m:Int))/\W.cell? ⟨w.heap.size,2,none⟩=some (.int .i64 a)/\W.cell? ⟨w.heap.size,3,none⟩=some (.int .i64 0)/\W.cell? ⟨w.heap.size,4,none⟩=some (.int .i64 c)/\W.cell? ⟨w.heap.size,5,none⟩=some (.int .i64 k)) (by kernel_rfl) ?_ (fun hHeld=>?_)
   ·refine' zq21
   refine' zq33
   refine' zq116
  ·subst hz0;subst hz1
   have bX:=ai.new w #[.int .i64 op,.int .i64 dst,.int .i64 a,.int .i64 0,.int .i64 0,.int .i64 k] 58
   have b1:Below w.heap.size w (w.alloc (.cells #[.int .i64 op,.int .i64 dst,.int .i64 a,.int .i64 0,.int .i64 0,.int .i64 k] 58)):=bE
   refine' zq55
   generalize hW1:w.alloc (.cells #[.int .i64 op,.int .i64 dst,.int .i64 a,.int .i64 0,.int .i64 0,.int .i64 k] 58)=w1 at*
   refine' zq2
   refine' zq170
   have HS:Hid (∀W,Below w5.heap.size w5 W->W.cell? ⟨w.heap.size,0,none⟩=some (.int .i64 op)/\W.cell? ⟨w.heap.size,1,none⟩=some (.int .i64 (m:Int))/\W.cell? ⟨w.heap.size,2,none⟩=some (.int .i64 a)/\W.cell? ⟨w.heap.size,3,none⟩=some (.int .i64 0)/\W.cell? ⟨w.heap.size,4,none⟩=some (.int .i64 0)/\W.cell? ⟨w.heap.size,5,none⟩=some (.int .i64 k)):=fun W hW=>(bX5.below hW hg5).six'
   refine' zq147
   go_upto_region 13 with (fail)
   clear c0 c1 c2 c3 c4 c5 q0 d1
   refine wp_region_held_drew (S:=fun W=>W.cell? ⟨w.heap.size,0,none⟩=some (.int .i64 op)/\W.cell? ⟨w.heap.size,1,none⟩=some (.int .i64 (m:Int))/\W.cell? ⟨w.heap.size,2,none⟩=some (.int .i64 a)/\W.cell? ⟨w.heap.size,3,none⟩=some (.int .i64 0)/\W.cell? ⟨w.heap.size,4,none⟩=some (.int .i64 0)/\W.cell? ⟨w.heap.size,5,none⟩=some (.int .i64 k)) (by kernel_rfl) ?_ (fun hHeld=>?_)
   ·refine' zq21
   refine' zq33
   refine' zq116
 obtain ⟨rfl,rfl,rfl⟩:=h0
 have ha:=hall.1
 have HQ:Hid (cB (au f ⟨op,dst,a,0,0,0⟩)=(cB (aa f dst=aa f a) && cB (ag f dst=ag f a))):=by
  show _=_
  rw[<-jY]
  exact bu (HIFF.o.trans ⟨fun g=>g.2,fun g=>⟨⟨rfl,rfl,rfl⟩,g⟩⟩)
 rw[jN] at HQ
 generalize cB (au f ⟨op,dst,a,0,0,0⟩)=R at*
 generalize hV:cB (aa f dst=aa f a)=V at*
 generalize hTa:ag f a=Ta at*
 generalize hTd:ag f dst=Td at*
 have HV:=zH hV
 have HTa:=zH hTa
 have HTd:=zH hTd
 clear hV hTa hTd HIFF
 generalize he3:(Td==Ta)=b3 at*
 have bX:=ai.new w #[.int .i64 op,.int .i64 dst,.int .i64 a,.int .i64 0,.int .i64 0,.int .i64 0] 58
 have b1:Below w.heap.size w (w.alloc (.cells #[.int .i64 op,.int .i64 dst,.int .i64 a,.int .i64 0,.int .i64 0,.int .i64 0] 58)):=bE
 refine' zq55
 generalize hW1:w.alloc (.cells #[.int .i64 op,.int .i64 dst,.int .i64 a,.int .i64 0,.int .i64 0,.int .i64 0] 58)=w1 at*
 refine' zq2
 refine' zq170
 have HS:Hid (∀W,Below w5.heap.size w5 W->W.cell? ⟨w.heap.size,0,none⟩=some (.int .i64 op)/\W.cell? ⟨w.heap.size,1,none⟩=some (.int .i64 (m:Int))/\W.cell? ⟨w.heap.size,2,none⟩=some (.int .i64 a)/\W.cell? ⟨w.heap.size,3,none⟩=some (.int .i64 0)/\W.cell? ⟨w.heap.size,4,none⟩=some (.int .i64 0)/\W.cell? ⟨w.heap.size,5,none⟩=some (.int .i64 0)):=fun W hW=>(bX5.below hW hg5).six'
 refine' zq147
 go_upto_region 13 with (fail)
 clear c0 c1 c2 c3 c4 c5 q0 d1
 refine wp_region_held_drew (S:=fun W=>W.cell? ⟨w.heap.size,0,none⟩=some (.int .i64 op)/\W.cell? ⟨w.heap.size,1,none⟩=some (.int .i64 (m:Int))/\W.cell? ⟨w.heap.size,2,none⟩=some (.int .i64 a)/\W.cell? ⟨w.heap.size,3,none⟩=some (.int .i64 0)/\W.cell? ⟨w.heap.size,4,none⟩=some (.int .i64 0)/\W.cell? ⟨w.heap.size,5,none⟩=some (.int .i64 0)) (by kernel_rfl) ?_ (fun hHeld=>?_)
 ·refine' zq21
 refine' zq194
 refine tk 10 (some 97) rfl ?_
 refine tk 11 (some 98) rfl ?_
 refine tk 12 (some 99) rfl ?_
 refine tk 13 (some 100) rfl ?_
 refine tk 14 (some 101) rfl ?_
 refine aH 15 (some 102) rfl (fun KK hKK=>?_)
 go_simp
 refine hKK.out _ _ ?_ (fun hHeld=>?_)
 ·refine' zq21
 refine' zq4
 refine aH 16 (some 103) rfl (fun KK hKK=>?_)
 go_simp
 (go_at_call 65;(refine (ry HN5.o hB5 hd ha wd wa HV.o bE (by rfl)).mono ?_);rintro e w8 ⟨rfl,hb8⟩;(have hb9:Below w5.heap.size w5 w8:=Below.trans bE (hb8.mono lE));(have hs9:=hb9.size))
 refine' zq13
 refine tk 17 (some 104) rfl ?_
 refine tk 18 (some 105) rfl ?_
 cases V
 ·refine' zq167
  refine' zq116
 refine tk 19 (some 106) rfl ?_
 refine tk 20 (some 107) rfl ?_
 refine tk 21 (some 108) rfl ?_
 refine tk 23 (some 110) rfl ?_
 refine tk 24 (some 111) rfl ?_
 refine tk 25 (some 112) rfl ?_
 refine aH 22 (some 109) rfl (fun KK hKK=>?_)
 refine' zq238
 refine aH 26 (some 113) rfl (fun KK hKK=>?_)
 refine' zq238
 refine tk 27 (some 114) rfl ?_
 refine tk 28 (some 115) rfl ?_
 refine tk 29 (some 4) rfl ?_
 refine' zq116
end
section
variable {w:World} {B L:Nat} {f:Fm} {vw va vc vk vi vo vb ve:Value}
theorem BS (h:bI w B L f vw va vc vk vi vo vb ve) (hB:B<=w.heap.size) (op dst a b c k:Int) (wx:eP ⟨op,dst,a,b,c,k⟩) (hd:ak f dst) (hop:op=27) (hall:cm f a b c):
  Calls Tryz.prog 28 #[.pointer (some ⟨L,0,none⟩),.agg #[.int .i64 op,.int .i64 dst,.int .i64 a,.int .i64 b,.int .i64 c,.int .i64 k]] w fun e w'=>e= .returned (.bool (cB (au f ⟨op,dst,a,b,c,k⟩)))/\Below w.heap.size w w':=by
 refine' zq143
 obtain ⟨ha,hb,hc⟩:=hall
 have hall:cm f a b c:=⟨ha,hb,hc⟩
 have HQ:Hid (cB (au f ⟨op,dst,a,b,c,k⟩)=(cB (k=0) && (cB (aa f dst=aa f a/\aa f dst=aa f b/\aa f dst=aa f c) && (cB (ag f a=2) && (cB (ag f b=ag f c) && cB (ag f dst=ag f b)))))):=by
  show _=_
  rw[<-jY,<-jY,<-jY,<-jY]
  exact bu (er hop hall)
 rw[jN (x:=k),jN (x:=ag f a),jN (x:=ag f b),jN (x:=ag f dst)] at HQ
 refine' zq110
 have o2:(op==2)=false:=by rw[beq_eq_false_iff_ne];omega
 have o3:(op==3)=false:=by rw[beq_eq_false_iff_ne];omega
 have o27:(op==27)=true:=by rw[beq_iff_eq];omega
 refine' zq161
 generalize cB (au f ⟨op,dst,a,b,c,k⟩)=R at*
 generalize hV:cB (aa f dst=aa f a/\aa f dst=aa f b/\aa f dst=aa f c)=V at*
 generalize hTa:ag f a=Ta at*
 generalize hTb:ag f b=Tb at*
 generalize hTc:ag f c=Tc at*
 generalize hTd:ag f dst=Td at*
 have HV:=zH hV
 have HTa:=zH hTa
 have HTb:=zH hTb
 have HTc:=zH hTc
 have HTd:=zH hTd
 clear hV hTa hTb hTc hTd
 generalize hb1:(k==0)=b1 at*
 generalize he1:(Ta==2)=e1 at*
 generalize he2:(Tb==Tc)=e2 at*
 generalize he3:(Td==Tb)=e3 at*
 refine' zq90
 go_upto_region 15 with (fail)
 refine' zq121
 refine tk 0 (some 118) rfl ?_
 refine tk 1 (some 119) rfl ?_
 refine tk 2 (some 120) rfl ?_
 refine tk 3 (some 121) rfl ?_
 cases b1
 ·refine sk 4 (some 122) rfl ?_
  refine sk 5 (some 123) rfl ?_
  refine sk 6 (some 124) rfl ?_
  refine sk 7 (some 125) rfl ?_
  refine sk 8 (some 126) rfl ?_
  refine sk 9 (some 127) rfl ?_
  refine sk 10 (some 128) rfl ?_
  refine sk 11 (some 129) rfl ?_
  refine sk 12 (some 130) rfl ?_
  refine sk 13 (some 131) rfl ?_
  refine sk 14 (some 132) rfl ?_
  refine tk 15 (some 133) rfl ?_
  refine tk 16 (some 134) rfl ?_
  refine' zq241
 refine tk 4 (some 122) rfl ?_
 refine tk 5 (some 123) rfl ?_
 refine tk 6 (some 124) rfl ?_
 refine tk 7 (some 125) rfl ?_
 refine tk 8 (some 126) rfl ?_
 refine tk 9 (some 127) rfl ?_
 refine tk 10 (some 128) rfl ?_
 refine tk 11 (some 129) rfl ?_
 refine tk 12 (some 130) rfl ?_
 refine aH 13 (some 131) rfl (fun KK hKK=>?_)
 go_simp
 refine hKK.out _ _ ?_ (fun hHeld=>?_)
 ·refine' zq21
 refine' zq4
 refine aH 14 (some 132) rfl (fun KK hKK=>?_)
 go_simp
 (go_at_call 65;(refine (zh HN5.o hB5 hd ha hb hc wd wa wb wc HV.o bE (by rfl)).mono ?_);rintro e w8 ⟨rfl,hb8⟩;(have hb9:Below w5.heap.size w5 w8:=Below.trans bE (hb8.mono lE));(have hs9:=hb9.size))
 refine' zq13
 refine tk 15 (some 133) rfl ?_
 refine tk 16 (some 134) rfl ?_
 cases V
 ·refine' zq241
 refine tk 17 (some 135) rfl ?_
 refine tk 18 (some 136) rfl ?_
 refine tk 19 (some 137) rfl ?_
 refine aH 20 (some 138) rfl (fun KK hKK=>?_)
 refine' zq42
 refine tk 21 (some 139) rfl ?_
 refine tk 22 (some 140) rfl ?_
 refine tk 23 (some 141) rfl ?_
 cases e1
 ·refine' zq40
 refine tk 24 (some 142) rfl ?_
 refine tk 25 (some 143) rfl ?_
 refine tk 26 (some 144) rfl ?_
 refine tk 28 (some 146) rfl ?_
 refine tk 29 (some 147) rfl ?_
 refine tk 30 (some 148) rfl ?_
 refine aH 27 (some 145) rfl (fun KK hKK=>?_)
 refine' zq42
 refine aH 31 (some 149) rfl (fun KK hKK=>?_)
 refine' zq42
 refine tk 32 (some 150) rfl ?_
 refine tk 33 (some 151) rfl ?_
 refine tk 34 (some 152) rfl ?_
 cases e2
 ·refine' zq168
  refine' zq116
 refine tk 35 (some 153) rfl ?_
 refine tk 36 (some 154) rfl ?_
 refine tk 37 (some 155) rfl ?_
 refine tk 39 (some 157) rfl ?_
 refine tk 40 (some 158) rfl ?_
 refine tk 41 (some 159) rfl ?_
 refine aH 38 (some 156) rfl (fun KK hKK=>?_)
 refine' zq42
 refine aH 42 (some 160) rfl (fun KK hKK=>?_)
 refine' zq42
 refine tk 43 (some 161) rfl ?_
 refine tk 44 (some 162) rfl ?_
 refine tk 45 (some 4) rfl ?_
 refine' zq116
end
end Go.Proofs.YtckognjamlckcaaGreatDoor
