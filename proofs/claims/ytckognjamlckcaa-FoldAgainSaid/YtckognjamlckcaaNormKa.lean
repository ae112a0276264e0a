/-
  norm's looker: reckons. norm's looker: act, wires that are none; ops that are reckoned. norm's looker: act, numbers, and what is no op.
-/
import Derived.Test.YtckognjamlckcaaNormH
import Derived.Test.YtckognjamlckcaaPlainA
namespace Go.Proofs.Ytckognjamlckcaa
open Go.RowKit Vf Fo
attribute [local go_sem ↓] Go.wp_at_zero Go.wp_at_succ
theorem cB_and {p q:Prop}:cB (p∧q)=(cB p && cB q):=by
 rw[Bool.eq_iff_iff,Bool.and_eq_true,cB_iff,cB_iff,cB_iff]
theorem alike_two {f:Fm} {x y:Int}:alikeP f [x,y]↔clockOf f x=clockOf f y:=by
 simp[alikeP]
 exact ⟨fun h=>h.symm,fun h=>h.symm⟩
theorem alike_three {f:Fm} {x y z:Int}:alikeP f [x,y,z]↔clockOf f x=clockOf f y∧clockOf f x=clockOf f z:=by
 simp[alikeP]
 exact ⟨fun h=>⟨h.1.symm,h.2.symm⟩,fun h=>⟨h.1.symm,h.2.symm⟩⟩
theorem alike_four {f:Fm} {x y z u:Int}:alikeP f [x,y,z,u]↔clockOf f x=clockOf f y∧clockOf f x=clockOf f z∧clockOf f x=clockOf f u:=by
 simp[alikeP]
 exact ⟨fun h=>⟨h.1.symm,h.2.1.symm,h.2.2.symm⟩,fun h=>⟨h.1.symm,h.2.1.symm,h.2.2.symm⟩⟩
section
variable {w:World} {B L:Nat} {f:Fm} {vw va vc vk vi vo vb ve:Value}
theorem alike2_b {a b:Int} {V:Bool} (h:NkAt w B L f vw va vc vk vi vo vb ve) (hB:B≤w.heap.size) (ha:isW f a) (hb:isW f b) (wa:Wf a) (wb:Wf b) (hV:cB (clockOf f a=clockOf f b)=V) {W:World} (hW:Below w.heap.size w W):
  Calls Try.prog 74 #[.pointer (some ⟨L,0,none⟩),.slice (some ⟨W.heap.size,0,none⟩) 2 2] (W.alloc (.cells #[.int .i64 a,.int .i64 b] 3)) fun e w'=>e= .returned (.bool V)∧Below W.heap.size W w':=by
 have hK:NkAt (W.alloc (.cells #[.int .i64 a,.int .i64 b] 3)) B L f vw va vc vk vi vo vb ve:=h.below hB (hW.alloc hW.size _)
 have:=nalike_any hK [a,b] _ _ (two_slv wa wb) (by simp) (by simp[ha,hb])
 rw[cB_congr alike_two,hV] at this
 exact this.mono fun e w' ⟨he,k,hk⟩=>⟨he,by rw[hk];exact below_drewN' ((Below.refl _ _).alloc (Nat.le_refl _) _) k⟩
theorem alike3_b {a b c:Int} {V:Bool} (h:NkAt w B L f vw va vc vk vi vo vb ve) (hB:B≤w.heap.size) (ha:isW f a) (hb:isW f b) (hc:isW f c) (wa:Wf a) (wb:Wf b) (wc:Wf c) (hV:cB (clockOf f a=clockOf f b∧clockOf f a=clockOf f c)=V) {W:World} (hW:Below w.heap.size w W):
  Calls Try.prog 74 #[.pointer (some ⟨L,0,none⟩),.slice (some ⟨W.heap.size,0,none⟩) 3 3] (W.alloc (.cells #[.int .i64 a,.int .i64 b,.int .i64 c] 3)) fun e w'=>e= .returned (.bool V)∧Below W.heap.size W w':=by
 have hK:NkAt (W.alloc (.cells #[.int .i64 a,.int .i64 b,.int .i64 c] 3)) B L f vw va vc vk vi vo vb ve:=h.below hB (hW.alloc hW.size _)
 have:=nalike_any hK [a,b,c] _ _ (three_slv wa wb wc) (by simp) (by simp[ha,hb,hc])
 rw[cB_congr alike_three,hV] at this
 exact this.mono fun e w' ⟨he,k,hk⟩=>⟨he,by rw[hk];exact below_drewN' ((Below.refl _ _).alloc (Nat.le_refl _) _) k⟩
theorem alike4_b {a b c d:Int} {V:Bool} (h:NkAt w B L f vw va vc vk vi vo vb ve) (hB:B≤w.heap.size) (ha:isW f a) (hb:isW f b) (hc:isW f c) (hd:isW f d) (wa:Wf a) (wb:Wf b) (wc:Wf c) (wd:Wf d) (hV:cB (clockOf f a=clockOf f b∧clockOf f a=clockOf f c∧clockOf f a=clockOf f d)=V) {W:World} (hW:Below w.heap.size w W):
  Calls Try.prog 74 #[.pointer (some ⟨L,0,none⟩),.slice (some ⟨W.heap.size,0,none⟩) 4 4] (W.alloc (.cells #[.int .i64 a,.int .i64 b,.int .i64 c,.int .i64 d] 3)) fun e w'=>e= .returned (.bool V)∧Below W.heap.size W w':=by
 have hK:NkAt (W.alloc (.cells #[.int .i64 a,.int .i64 b,.int .i64 c,.int .i64 d] 3)) B L f vw va vc vk vi vo vb ve:=h.below hB (hW.alloc hW.size _)
 have:=nalike_any hK [a,b,c,d] _ _ (four_slv wa wb wc wd) (by simp) (by simp[ha,hb,hc,hd])
 rw[cB_congr alike_four,hV] at this
 exact this.mono fun e w' ⟨he,k,hk⟩=>⟨he,by rw[hk];exact below_drewN' ((Below.refl _ _).alloc (Nat.le_refl _) _) k⟩
theorem kind_b {n T:Int} (h:NkAt w B L f vw va vc vk vi vo vb ve) (hB:B≤w.heap.size) (hn:isW f n) (hT:tyOf f n=T) {W:World} (hW:Below w.heap.size w W):
  Calls Try.prog 73 #[.pointer (some ⟨L,0,none⟩),.int .i64 n] W fun e w'=>e= .returned (.int .i64 T)∧W=w':=by
 have:=nkind_any (h.below hB hW) n hn
 rw[hT] at this
 exact this
set_option maxRecDepth 100000 in
set_option maxHeartbeats 1000000 in
theorem nreck_one (h:NkAt w B L f vw va vc vk vi vo vb ve) (hB:B≤w.heap.size) (op dst a b c k i o:Int) (hop:op=5∨op=6) (wd:Wf dst) (wa:Wf a) (hd:isW f dst) (ha:isW f a):
  Calls Try.prog 72 #[.pointer (some ⟨L,0,none⟩),.agg #[.int .i64 op,.int .i64 dst,.int .i64 a,.int .i64 b,.int .i64 c,.int .i64 k],.int .i64 i,.int .i64 o] w
   fun e w'=>e= .returned (.bool (cB (b=0∧c=0∧k=0∧clockOf f dst=clockOf f a∧tyOf f a=i∧tyOf f dst=o)))∧Below w.heap.size w w':=by
 have HH:=Lib.hid h
 have hBw:=hB
 clear h
 have o56:(op !=5)=false∨((op !=5)=true∧(op !=6)=false):=by rcases hop with rfl|rfl<;>simp
 clear hop
 rcases o56 with o5|⟨o5,o6⟩
 all_goals
  by_cases h0:b=0∧c=0∧k=0
  rotate_left 1
  ·have HF:=Lib.hid (cB_false (fun g:b=0∧c=0∧k=0∧clockOf f dst=clockOf f a∧tyOf f a=i∧tyOf f dst=o=>h0 ⟨g.1,g.2.1,g.2.2.1⟩))
   generalize cB (b=0∧c=0∧k=0∧clockOf f dst=clockOf f a∧tyOf f a=i∧tyOf f dst=o)=R at*
   go_enter Try.func72,Try.ntmps72
   go_wp2_with fail
   all_goals
    go_ret
    exact ⟨ret_bool HF.out.symm,bE⟩
  obtain ⟨rfl,rfl,rfl⟩:=h0
  have bX:=Row.new w #[.int .i64 op,.int .i64 dst,.int .i64 a,.int .i64 0,.int .i64 0,.int .i64 0] 50
  have b1:Below w.heap.size w (w.alloc (.cells #[.int .i64 op,.int .i64 dst,.int .i64 a,.int .i64 0,.int .i64 0,.int .i64 0] 50)):=bE
  have hg1:=bX.lt
  have HQ:Hid (cB ((0:Int)=0∧(0:Int)=0∧(0:Int)=0∧clockOf f dst=clockOf f a∧tyOf f a=i∧tyOf f dst=o)=(cB (clockOf f dst=clockOf f a) && (cB (tyOf f a=i) && cB (tyOf f dst=o)))):=by
   show _=_
   rw[←cB_and,←cB_and]
   exact cB_congr (by simp)
  generalize cB ((0:Int)=0∧(0:Int)=0∧(0:Int)=0∧clockOf f dst=clockOf f a∧tyOf f a=i∧tyOf f dst=o)=R at*
  generalize hV:cB (clockOf f dst=clockOf f a)=V at*
  generalize hTa:tyOf f a=Ta at*
  generalize hTd:tyOf f dst=Td at*
  have HV:=Lib.hid hV
  have HTa:=Lib.hid hTa
  have HTd:=Lib.hid hTd
  clear hV hTa hTd
  go_enter Try.func72,Try.ntmps72
  go_upto_region 1 with (fail)
  generalize hW1:w.alloc (.cells #[.int .i64 op,.int .i64 dst,.int .i64 a,.int .i64 0,.int .i64 0,.int .i64 0] 50)=w1 at*
  clear hW1
  obtain ⟨c0,c1,c2,c3,c4,c5⟩:=bX.six'
  go_wp2_with fail
  (with_reducible refine (alike2_b HH.out hBw hd ha wd wa HV.out b1).mono ?_)
  rintro e w5 ⟨rfl,hb5⟩
  have hb15:=b1.trans (hb5.mono b1.size)
  clear c0 c1 c2 c3 c4 c5
  obtain ⟨c0,c1,c2,c3,c4,c5⟩:=(bX.below hb5 hg1).six'
  clear hb5
  cases V
  ·go_wp2_with fail
   go_ret
   exact ⟨ret_bool (by rw[HQ.out];rfl),hb15⟩
  go_wp2_with fail
  (with_reducible refine (kind_b HH.out hBw ha HTa.out hb15).mono ?_)
  rintro e w6 ⟨rfl,rfl⟩
  by_cases e2:Ta=i
  rotate_left 1
  ·have e2':(Ta==i)=false:=by simp[e2]
   have HF:=Lib.hid (cB_false e2)
   clear e2
   go_wp2_with fail
   go_ret
   exact ⟨ret_bool (by rw[HQ.out,HF.out];rfl),hb15⟩
  have HE2:=Lib.hid (cB_true e2)
  have e2':(Ta==i)=true:=by simp[e2]
  clear e2
  go_wp2_with fail
  (with_reducible refine (kind_b HH.out hBw hd HTd.out hb15).mono ?_)
  rintro e w6 ⟨rfl,rfl⟩
  by_cases e3:Td=o
  ·have e3':(Td==o)=true:=by simp[e3]
   have HF:=Lib.hid (cB_true e3)
   clear e3
   go_wp2_with fail
   go_ret
   exact ⟨ret_bool (by rw[HQ.out,HF.out,HE2.out];rfl),hb15⟩
  ·have e3':(Td==o)=false:=by simp[e3]
   have HF:=Lib.hid (cB_false e3)
   clear e3
   go_wp2_with fail
   go_ret
   exact ⟨ret_bool (by rw[HQ.out,HF.out,HE2.out];rfl),hb15⟩
set_option maxRecDepth 100000 in
set_option maxHeartbeats 1000000 in
theorem nreck_two (h:NkAt w B L f vw va vc vk vi vo vb ve) (hB:B≤w.heap.size) (op dst a b c k i o:Int) (hop:op≠5∧op≠6) (wd:Wf dst) (wa:Wf a) (wb:Wf b) (hd:isW f dst) (ha:isW f a) (hb:isW f b):
  Calls Try.prog 72 #[.pointer (some ⟨L,0,none⟩),.agg #[.int .i64 op,.int .i64 dst,.int .i64 a,.int .i64 b,.int .i64 c,.int .i64 k],.int .i64 i,.int .i64 o] w
   fun e w'=>e= .returned (.bool (cB (c=0∧k=0∧(clockOf f dst=clockOf f a∧clockOf f dst=clockOf f b)∧tyOf f dst=o∧tyOf f a=tyOf f b∧(i=0∨tyOf f a=i))))∧Below w.heap.size w w':=by
 have o1:(op !=5)=true:=by simp[hop.1]
 have o2:(op !=6)=true:=by simp[hop.2]
 have HH:=Lib.hid h
 have hBw:=hB
 clear h hop
 by_cases h0:c=0∧k=0
 rotate_left 1
 ·have HF:=Lib.hid (cB_false (fun g:c=0∧k=0∧(clockOf f dst=clockOf f a∧clockOf f dst=clockOf f b)∧tyOf f dst=o∧tyOf f a=tyOf f b∧(i=0∨tyOf f a=i)=>h0 ⟨g.1,g.2.1⟩))
  generalize cB (c=0∧k=0∧(clockOf f dst=clockOf f a∧clockOf f dst=clockOf f b)∧tyOf f dst=o∧tyOf f a=tyOf f b∧(i=0∨tyOf f a=i))=R at*
  go_enter Try.func72,Try.ntmps72
  go_wp2_with fail
  all_goals
   go_ret
   exact ⟨ret_bool HF.out.symm,bE⟩
 obtain ⟨rfl,rfl⟩:=h0
 have bX:=Row.new w #[.int .i64 op,.int .i64 dst,.int .i64 a,.int .i64 b,.int .i64 0,.int .i64 0] 50
 have b1:Below w.heap.size w (w.alloc (.cells #[.int .i64 op,.int .i64 dst,.int .i64 a,.int .i64 b,.int .i64 0,.int .i64 0] 50)):=bE
 have hg1:=bX.lt
 have HQ:Hid (cB ((0:Int)=0∧(0:Int)=0∧(clockOf f dst=clockOf f a∧clockOf f dst=clockOf f b)∧tyOf f dst=o∧tyOf f a=tyOf f b∧(i=0∨tyOf f a=i))=(cB (clockOf f dst=clockOf f a∧clockOf f dst=clockOf f b) && (cB (tyOf f dst=o) && (cB (tyOf f a=tyOf f b) && cB (i=0∨tyOf f a=i))))):=by
  show _=_
  rw[←cB_and,←cB_and,←cB_and]
  exact cB_congr (by simp)
 generalize cB ((0:Int)=0∧(0:Int)=0∧(clockOf f dst=clockOf f a∧clockOf f dst=clockOf f b)∧tyOf f dst=o∧tyOf f a=tyOf f b∧(i=0∨tyOf f a=i))=R at*
 generalize hV:cB (clockOf f dst=clockOf f a∧clockOf f dst=clockOf f b)=V at*
 generalize hTa:tyOf f a=Ta at*
 generalize hTb:tyOf f b=Tb at*
 generalize hTd:tyOf f dst=Td at*
 have HV:=Lib.hid hV
 have HTa:=Lib.hid hTa
 have HTb:=Lib.hid hTb
 have HTd:=Lib.hid hTd
 clear hV hTa hTb hTd
 go_enter Try.func72,Try.ntmps72
 go_upto_region 1 with (fail)
 generalize hW1:w.alloc (.cells #[.int .i64 op,.int .i64 dst,.int .i64 a,.int .i64 b,.int .i64 0,.int .i64 0] 50)=w1 at*
 clear hW1
 obtain ⟨c0,c1,c2,c3,c4,c5⟩:=bX.six'
 go_wp2_with fail
 (with_reducible refine (alike3_b HH.out hBw hd ha hb wd wa wb HV.out b1).mono ?_)
 rintro e w5 ⟨rfl,hb5⟩
 have hb15:=b1.trans (hb5.mono b1.size)
 clear c0 c1 c2 c3 c4 c5
 obtain ⟨c0,c1,c2,c3,c4,c5⟩:=(bX.below hb5 hg1).six'
 clear hb5
 cases V
 ·go_wp2_with fail
  go_ret
  exact ⟨ret_bool (by rw[HQ.out];rfl),hb15⟩
 go_wp2_with fail
 (with_reducible refine (kind_b HH.out hBw hd HTd.out hb15).mono ?_)
 rintro e w6 ⟨rfl,rfl⟩
 by_cases e2:Td=o
 rotate_left 1
 ·have e2':(Td !=o)=true:=by simp[e2]
  have HF:=Lib.hid (cB_false e2)
  clear e2
  go_wp2_with fail
  go_ret
  exact ⟨ret_bool (by rw[HQ.out,HF.out];rfl),hb15⟩
 have HE2:=Lib.hid (cB_true e2)
 have e2':(Td !=o)=false:=by simp[e2]
 clear e2
 go_wp2_with fail
 have HKa:=Lib.hid (fun n=>(kind_b HH.out hBw ha HTa.out (below_drewN' hb15 n)).mono fun e w' ⟨h1,h2⟩=>(⟨h1,h2.symm⟩:e=Ending.returned (.int .i64 Ta)∧w'=w5.drewN n))
 have HKb:=Lib.hid (fun n=>(kind_b HH.out hBw hb HTb.out (below_drewN' hb15 n)).mono fun e w' ⟨h1,h2⟩=>(⟨h1,h2.symm⟩:e=Ending.returned (.int .i64 Tb)∧w'=w5.drewN n))
 by_cases e3:Ta=Tb
 rotate_left 1
 ·have e3':(Ta==Tb)=false:=by simp[e3]
  have HF:=Lib.hid (cB_false e3)
  clear e3
  go_quiet ((go_at_call 73;first|(with_reducible exact Calls.quiet_of_same (HKa.out _))|(with_reducible exact Calls.quiet_of_same (HKb.out _))))
  go_wp2_with fail
  go_ret
  exact ⟨ret_bool (by rw[HQ.out,HF.out,HE2.out];rfl),by first|exact hb15|exact below_drewN' hb15 _⟩
 have HE3:=Lib.hid (cB_true e3)
 have e3':(Ta==Tb)=true:=by simp[e3]
 clear e3
 by_cases e4:i=0
 ·have e4':(i==0)=true:=by simp[e4]
  have HF:=Lib.hid (cB_true (show i=0∨Ta=i from .inl e4))
  clear e4
  go_quiet ((go_at_call 73;first|(with_reducible exact Calls.quiet_of_same (HKa.out _))|(with_reducible exact Calls.quiet_of_same (HKb.out _))))
  go_wp2_with fail
  go_ret
  exact ⟨ret_bool (by rw[HQ.out,HF.out,HE2.out,HE3.out];rfl),by first|exact hb15|exact below_drewN' hb15 _⟩
 have e4':(i==0)=false:=by simp[e4]
 by_cases e5:Ta=i
 ·have e5':(Ta==i)=true:=by simp[e5]
  have HF:=Lib.hid (cB_true (show i=0∨Ta=i from .inr e5))
  clear e4 e5
  go_quiet ((go_at_call 73;first|(with_reducible exact Calls.quiet_of_same (HKa.out _))|(with_reducible exact Calls.quiet_of_same (HKb.out _))))
  go_wp2_with fail
  go_ret
  exact ⟨ret_bool (by rw[HQ.out,HF.out,HE2.out,HE3.out];rfl),by first|exact hb15|exact below_drewN' hb15 _⟩
 ·have e5':(Ta==i)=false:=by simp[e5]
  have HF:=Lib.hid (cB_false (fun g:i=0∨Ta=i=>g.elim e4 e5))
  clear e4 e5
  go_quiet ((go_at_call 73;first|(with_reducible exact Calls.quiet_of_same (HKa.out _))|(with_reducible exact Calls.quiet_of_same (HKb.out _))))
  go_wp2_with fail
  go_ret
  exact ⟨ret_bool (by rw[HQ.out,HF.out,HE2.out,HE3.out];rfl),by first|exact hb15|exact below_drewN' hb15 _⟩
end
end Go.Proofs.Ytckognjamlckcaa
namespace Go.Proofs.Ytckognjamlckcaa
open Go.RowKit Vf Fo
attribute [local go_sem ↓] Go.wp_at_zero Go.wp_at_succ
section
variable {w:World} {B L:Nat} {f:Fm} {vw va vc vk vi vo vb ve:Value}
theorem allW_three {a b c:Int}:allW f [a,b,c]↔isW f a∧isW f b∧isW f c:=by simp[allW]
theorem is3_b {a b c:Int} {V:Bool} (h:NkAt w B L f vw va vc vk vi vo vb ve) (hB:B≤w.heap.size) (wa:Wf a) (wb:Wf b) (wc:Wf c) (hV:cB (isW f a∧isW f b∧isW f c)=V) {W:World} (hW:Below w.heap.size w W):
  Calls Try.prog 69 #[.pointer (some ⟨L,0,none⟩),.slice (some ⟨W.heap.size,0,none⟩) 3 3] (W.alloc (.cells #[.int .i64 a,.int .i64 b,.int .i64 c] 3)) fun e w'=>e= .returned (.bool V)∧Below W.heap.size W w':=by
 have hK:NkAt (W.alloc (.cells #[.int .i64 a,.int .i64 b,.int .i64 c] 3)) B L f vw va vc vk vi vo vb ve:=h.below hB (hW.alloc hW.size _)
 have:=nis_any hK [a,b,c] _ _ (three_slv wa wb wc)
 rw[cB_congr allW_three,hV] at this
 exact this.mono fun e w' ⟨he,hk⟩=>⟨he,by rw[←hk];exact (Below.refl _ _).alloc (Nat.le_refl _) _⟩
set_option maxRecDepth 100000 in
set_option maxHeartbeats 2000000 in
theorem nact_no (h:NkAt w B L f vw va vc vk vi vo vb ve) (hB:B≤w.heap.size) (op dst a b c k:Int) (wx:AcIn ⟨op,dst,a,b,c,k⟩) (hall:¬allW3 f a b c):
  Calls Try.prog 50 #[.pointer (some ⟨L,0,none⟩),.agg #[.int .i64 op,.int .i64 dst,.int .i64 a,.int .i64 b,.int .i64 c,.int .i64 k]] w fun e w'=>e= .returned (.bool (cB (actOk f ⟨op,dst,a,b,c,k⟩)))∧Below w.heap.size w w':=by
 have HH:=Lib.hid h
 have hBw:=hB
 obtain ⟨wop,wd,wa,wb,wc,wk⟩:=wx
 dsimp only at wop wd wa wb wc wk
 clear h hB
 have HF:=Lib.hid (cB_false (act_no3 (op:=op) (dst:=dst) (k:=k) hall))
 have HV3:Hid (cB (isW f a∧isW f b∧isW f c)=false):=cB_false hall
 generalize cB (actOk f ⟨op,dst,a,b,c,k⟩)=R at*
 have bX:=Row.new w #[.int .i64 op,.int .i64 dst,.int .i64 a,.int .i64 b,.int .i64 c,.int .i64 k] 50
 have b1:Below w.heap.size w (w.alloc (.cells #[.int .i64 op,.int .i64 dst,.int .i64 a,.int .i64 b,.int .i64 c,.int .i64 k] 50)):=bE
 have hg1:=bX.lt
 go_enter Try.func50,Try.ntmps50
 go_upto_region 1 with (fail)
 generalize hW1:w.alloc (.cells #[.int .i64 op,.int .i64 dst,.int .i64 a,.int .i64 b,.int .i64 c,.int .i64 k] 50)=w1 at*
 clear hW1
 obtain ⟨c0,c1,c2,c3,c4,c5⟩:=bX.six'
 go_wp2_with fail
 (with_reducible refine (is3_b HH.out hBw wa wb wc HV3.out b1).mono ?_)
 rintro e w5 ⟨rfl,hb5⟩
 have hb15:=b1.trans (hb5.mono b1.size)
 have bX5:=bX.below hb5 hg1
 have hg5:w.heap.size<w5.heap.size:=bX5.lt
 clear c0 c1 c2 c3 c4 c5 hb5 bX b1
 obtain ⟨c0,c1,c2,c3,c4,c5⟩:=bX5.six'
 go_wp2_with fail
 go_ret
 exact ⟨ret_bool HF.out.symm,hb15⟩
set_option maxRecDepth 100000 in
set_option maxHeartbeats 2000000 in
theorem nact_one (h:NkAt w B L f vw va vc vk vi vo vb ve) (hB:B≤w.heap.size) (op dst a b c k:Int) (wx:AcIn ⟨op,dst,a,b,c,k⟩) (hd:isW f dst) (hop:op=5∨op=6) (hall:allW3 f a b c):
  Calls Try.prog 50 #[.pointer (some ⟨L,0,none⟩),.agg #[.int .i64 op,.int .i64 dst,.int .i64 a,.int .i64 b,.int .i64 c,.int .i64 k]] w fun e w'=>e= .returned (.bool (cB (actOk f ⟨op,dst,a,b,c,k⟩)))∧Below w.heap.size w w':=by
 have HH:=Lib.hid h
 have hBw:=hB
 obtain ⟨wop,wd,wa,wb,wc,wk⟩:=wx
 dsimp only at wop wd wa wb wc wk
 clear h hB
 have HIFF:Hid (cB (actOk f ⟨op,dst,a,b,c,k⟩)=cB (b=0∧c=0∧k=0∧clockOf f dst=clockOf f a∧tyOf f a=Ar.signIn op∧tyOf f dst=Ar.signOut op)):=cB_congr (act_iffOne hop hall)
 have sg:Ar.signB op=true:=by simp[Ar.signB];omega
 have HOP:=Lib.hid (hop)
 clear hop
 generalize cB (actOk f ⟨op,dst,a,b,c,k⟩)=R at*
 have HV3:Hid (cB (isW f a∧isW f b∧isW f c)=true):=cB_true hall
 have bX:=Row.new w #[.int .i64 op,.int .i64 dst,.int .i64 a,.int .i64 b,.int .i64 c,.int .i64 k] 50
 have b1:Below w.heap.size w (w.alloc (.cells #[.int .i64 op,.int .i64 dst,.int .i64 a,.int .i64 b,.int .i64 c,.int .i64 k] 50)):=bE
 have hg1:=bX.lt
 go_enter Try.func50,Try.ntmps50
 go_upto_region 1 with (fail)
 generalize hW1:w.alloc (.cells #[.int .i64 op,.int .i64 dst,.int .i64 a,.int .i64 b,.int .i64 c,.int .i64 k] 50)=w1 at*
 clear hW1
 obtain ⟨c0,c1,c2,c3,c4,c5⟩:=bX.six'
 go_wp2_with fail
 (with_reducible refine (is3_b HH.out hBw wa wb wc HV3.out b1).mono ?_)
 rintro e w5 ⟨rfl,hb5⟩
 have hb15:=b1.trans (hb5.mono b1.size)
 have bX5:=bX.below hb5 hg1
 have hg5:w.heap.size<w5.heap.size:=bX5.lt
 clear c0 c1 c2 c3 c4 c5 hb5 bX b1
 obtain ⟨c0,c1,c2,c3,c4,c5⟩:=bX5.six'
 go_wp2_with fail
 (with_reducible refine (Ar.sign_any op _).mono ?_)
 rintro e w' ⟨rfl,rfl⟩
 rw[sg]
 have HC:=Lib.hid (nreck_one (HH.out.below hBw hb15) (Nat.le_trans hBw hb15.size) op dst a b c k (Ar.signIn op) (Ar.signOut op) HOP.out wd wa hd hall.1)
 generalize Ar.signIn op=si at*
 generalize Ar.signOut op=so at*
 clear sg
 go_wp2_with fail
 (with_reducible refine HC.out.mono ?_)
 rintro e w' ⟨rfl,hb7⟩
 have hb17:=hb15.trans (hb7.mono hb15.size)
 go_wp2_with fail
 go_ret
 exact ⟨ret_bool (by rw[HIFF.out]),hb17⟩
set_option maxRecDepth 100000 in
set_option maxHeartbeats 2000000 in
theorem nact_two (h:NkAt w B L f vw va vc vk vi vo vb ve) (hB:B≤w.heap.size) (op dst a b c k:Int) (wx:AcIn ⟨op,dst,a,b,c,k⟩) (hd:isW f dst) (hop:7≤op∧op≤20) (hall:allW3 f a b c):
  Calls Try.prog 50 #[.pointer (some ⟨L,0,none⟩),.agg #[.int .i64 op,.int .i64 dst,.int .i64 a,.int .i64 b,.int .i64 c,.int .i64 k]] w fun e w'=>e= .returned (.bool (cB (actOk f ⟨op,dst,a,b,c,k⟩)))∧Below w.heap.size w w':=by
 have HH:=Lib.hid h
 have hBw:=hB
 obtain ⟨wop,wd,wa,wb,wc,wk⟩:=wx
 dsimp only at wop wd wa wb wc wk
 clear h hB
 have HIFF:Hid (cB (actOk f ⟨op,dst,a,b,c,k⟩)=cB (c=0∧k=0∧(clockOf f dst=clockOf f a∧clockOf f dst=clockOf f b)∧tyOf f dst=Ar.signOut op∧tyOf f a=tyOf f b∧(Ar.signIn op=0∨tyOf f a=Ar.signIn op))):=cB_congr (act_iffTwo hop hall)
 have sg:Ar.signB op=true:=by simp[Ar.signB];omega
 have HOP:=Lib.hid ((by omega:op≠5∧op≠6))
 clear hop
 generalize cB (actOk f ⟨op,dst,a,b,c,k⟩)=R at*
 have HV3:Hid (cB (isW f a∧isW f b∧isW f c)=true):=cB_true hall
 have bX:=Row.new w #[.int .i64 op,.int .i64 dst,.int .i64 a,.int .i64 b,.int .i64 c,.int .i64 k] 50
 have b1:Below w.heap.size w (w.alloc (.cells #[.int .i64 op,.int .i64 dst,.int .i64 a,.int .i64 b,.int .i64 c,.int .i64 k] 50)):=bE
 have hg1:=bX.lt
 go_enter Try.func50,Try.ntmps50
 go_upto_region 1 with (fail)
 generalize hW1:w.alloc (.cells #[.int .i64 op,.int .i64 dst,.int .i64 a,.int .i64 b,.int .i64 c,.int .i64 k] 50)=w1 at*
 clear hW1
 obtain ⟨c0,c1,c2,c3,c4,c5⟩:=bX.six'
 go_wp2_with fail
 (with_reducible refine (is3_b HH.out hBw wa wb wc HV3.out b1).mono ?_)
 rintro e w5 ⟨rfl,hb5⟩
 have hb15:=b1.trans (hb5.mono b1.size)
 have bX5:=bX.below hb5 hg1
 have hg5:w.heap.size<w5.heap.size:=bX5.lt
 clear c0 c1 c2 c3 c4 c5 hb5 bX b1
 obtain ⟨c0,c1,c2,c3,c4,c5⟩:=bX5.six'
 go_wp2_with fail
 (with_reducible refine (Ar.sign_any op _).mono ?_)
 rintro e w' ⟨rfl,rfl⟩
 rw[sg]
 have HC:=Lib.hid (nreck_two (HH.out.below hBw hb15) (Nat.le_trans hBw hb15.size) op dst a b c k (Ar.signIn op) (Ar.signOut op) HOP.out wd wa wb hd hall.1 hall.2.1)
 generalize Ar.signIn op=si at*
 generalize Ar.signOut op=so at*
 clear sg
 go_wp2_with fail
 (with_reducible refine HC.out.mono ?_)
 rintro e w' ⟨rfl,hb7⟩
 have hb17:=hb15.trans (hb7.mono hb15.size)
 go_wp2_with fail
 go_ret
 exact ⟨ret_bool (by rw[HIFF.out]),hb17⟩
end
end Go.Proofs.Ytckognjamlckcaa
namespace Go.Proofs.Ytckognjamlckcaa
open Go.RowKit Vf Fo
attribute [local go_sem ↓] Go.wp_at_zero Go.wp_at_succ
section
variable {w:World} {B L:Nat} {f:Fm} {vw va vc vk vi vo vb ve:Value}
set_option maxRecDepth 100000 in
set_option maxHeartbeats 2000000 in
theorem nact_1 (h:NkAt w B L f vw va vc vk vi vo vb ve) (hB:B≤w.heap.size) (op dst a b c k:Int) (wx:AcIn ⟨op,dst,a,b,c,k⟩) (hd:isW f dst) (hop:op=1) (hall:allW3 f a b c):
  Calls Try.prog 50 #[.pointer (some ⟨L,0,none⟩),.agg #[.int .i64 op,.int .i64 dst,.int .i64 a,.int .i64 b,.int .i64 c,.int .i64 k]] w fun e w'=>e= .returned (.bool (cB (actOk f ⟨op,dst,a,b,c,k⟩)))∧Below w.heap.size w w':=by
 have HH:=Lib.hid h
 have hBw:=hB
 obtain ⟨wop,wd,wa,wb,wc,wk⟩:=wx
 dsimp only at wop wd wa wb wc wk
 clear h hB
 have HIFF:=Lib.hid (act_iff1 (dst:=dst) (k:=k) hop hall)
 have HV3:Hid (cB (isW f a∧isW f b∧isW f c)=true):=cB_true hall
 have sg:Ar.signB op=false:=by simp[Ar.signB];omega
 have o1:(op==1)=true:=by rw[beq_iff_eq];omega
 have o2:(op==2)=false:=by rw[beq_eq_false_iff_ne];omega
 have o3:(op==3)=false:=by rw[beq_eq_false_iff_ne];omega
 have o27:(op==27)=false:=by rw[beq_eq_false_iff_ne];omega
 have o24:(op==24)=false:=by rw[beq_eq_false_iff_ne];omega
 have o26:(op==26)=false:=by rw[beq_eq_false_iff_ne];omega
 have o21:(op==21)=false:=by rw[beq_eq_false_iff_ne];omega
 clear hop
 by_cases h0:a=0∧b=0∧c=0
 rotate_left 1
 ·have HF:=Lib.hid (cB_false (show ¬actOk f ⟨op,dst,a,b,c,k⟩ from fun g=>h0 (HIFF.out.1 g).1))
  generalize cB (actOk f ⟨op,dst,a,b,c,k⟩)=R at*
  have bX:=Row.new w #[.int .i64 op,.int .i64 dst,.int .i64 a,.int .i64 b,.int .i64 c,.int .i64 k] 50
  have b1:Below w.heap.size w (w.alloc (.cells #[.int .i64 op,.int .i64 dst,.int .i64 a,.int .i64 b,.int .i64 c,.int .i64 k] 50)):=bE
  have hg1:=bX.lt
  go_enter Try.func50,Try.ntmps50
  go_upto_region 1 with (fail)
  generalize hW1:w.alloc (.cells #[.int .i64 op,.int .i64 dst,.int .i64 a,.int .i64 b,.int .i64 c,.int .i64 k] 50)=w1 at*
  clear hW1
  obtain ⟨c0,c1,c2,c3,c4,c5⟩:=bX.six'
  go_wp2_with fail
  (with_reducible refine (is3_b HH.out hBw wa wb wc HV3.out b1).mono ?_)
  rintro e w5 ⟨rfl,hb5⟩
  have hb15:=b1.trans (hb5.mono b1.size)
  have bX5:=bX.below hb5 hg1
  have hg5:w.heap.size<w5.heap.size:=bX5.lt
  clear c0 c1 c2 c3 c4 c5 hb5 bX b1
  obtain ⟨c0,c1,c2,c3,c4,c5⟩:=bX5.six'
  go_wp2_with fail
  (with_reducible refine (Ar.sign_any op _).mono ?_)
  rintro e w' ⟨rfl,rfl⟩
  rw[sg]
  generalize Ar.signIn op=si at*
  generalize Ar.signOut op=so at*
  clear sg
  obtain ⟨m,b6,off6,cw6,Ag6,cg6,hmd,hm,hvw,lw6,mw6,hb6,wt6,d0,d1,lg6,mg6,sg6⟩:=(HH.out.below hBw hb15).wire hd
  subst hmd
  have q0:=(HH.out.below hBw hb15).row.eight.1.1
  have HVW:=Lib.hid hvw
  rw[hvw] at q0
  have hm':(m:Int)<f.wires.length:=by omega
  have HSG:=Lib.hid sg6
  clear hvw d0 sg6 wt6
  go_wp2_with fail
  go_quiet (fail)
  go_wp2_with fail
  all_goals
   go_ret
   exact ⟨ret_bool HF.out.symm,by first|exact hb15|exact below_drewN' hb15 _⟩
 obtain ⟨rfl,rfl,rfl⟩:=h0
 have HT:=Lib.hid (rfl:tyOf f dst=tyOf f dst)
 generalize hTd:tyOf f dst=Td at HIFF
 have HTd:=Lib.hid hTd
 clear hTd HT
 by_cases e1:Td=1
 ·have HR:=Lib.hid (cB_true (HIFF.out.2 ⟨⟨rfl,rfl,rfl⟩,e1⟩))
  have e1':(Td==1)=true:=by simp[e1]
  clear e1
  generalize cB (actOk f ⟨op,dst,0,0,0,k⟩)=R at*
  have bX:=Row.new w #[.int .i64 op,.int .i64 dst,.int .i64 0,.int .i64 0,.int .i64 0,.int .i64 k] 50
  have b1:Below w.heap.size w (w.alloc (.cells #[.int .i64 op,.int .i64 dst,.int .i64 0,.int .i64 0,.int .i64 0,.int .i64 k] 50)):=bE
  have hg1:=bX.lt
  go_enter Try.func50,Try.ntmps50
  go_upto_region 1 with (fail)
  generalize hW1:w.alloc (.cells #[.int .i64 op,.int .i64 dst,.int .i64 0,.int .i64 0,.int .i64 0,.int .i64 k] 50)=w1 at*
  clear hW1
  obtain ⟨c0,c1,c2,c3,c4,c5⟩:=bX.six'
  go_wp2_with fail
  (with_reducible refine (is3_b HH.out hBw wa wb wc HV3.out b1).mono ?_)
  rintro e w5 ⟨rfl,hb5⟩
  have hb15:=b1.trans (hb5.mono b1.size)
  have bX5:=bX.below hb5 hg1
  have hg5:w.heap.size<w5.heap.size:=bX5.lt
  clear c0 c1 c2 c3 c4 c5 hb5 bX b1
  obtain ⟨c0,c1,c2,c3,c4,c5⟩:=bX5.six'
  go_wp2_with fail
  (with_reducible refine (Ar.sign_any op _).mono ?_)
  rintro e w' ⟨rfl,rfl⟩
  rw[sg]
  generalize Ar.signIn op=si at*
  generalize Ar.signOut op=so at*
  clear sg
  obtain ⟨m,b6,off6,cw6,Ag6,cg6,hmd,hm,hvw,lw6,mw6,hb6,wt6,d0,d1,lg6,mg6,sg6⟩:=(HH.out.below hBw hb15).wire hd
  subst hmd
  have q0:=(HH.out.below hBw hb15).row.eight.1.1
  have HVW:=Lib.hid hvw
  rw[hvw] at q0
  have hm':(m:Int)<f.wires.length:=by omega
  have HSG:=Lib.hid sg6
  clear hvw d0 sg6 wt6
  go_wp2_with fail
  go_quiet (fail)
  have hb16:=fun n=>below_drewN' hb15 n
  (try go_wp2_with fail)
  (with_reducible refine (kind_b HH.out hBw hd HTd.out (hb16 _)).mono ?_)
  rintro e w6 ⟨rfl,rfl⟩
  go_wp2_with fail
  go_ret
  exact ⟨ret_bool HR.out.symm,hb16 _⟩
 ·have HR:=Lib.hid (cB_false (fun g=>e1 (HIFF.out.1 g).2))
  have e1':(Td==1)=false:=by simp[e1]
  clear e1
  generalize cB (actOk f ⟨op,dst,0,0,0,k⟩)=R at*
  have bX:=Row.new w #[.int .i64 op,.int .i64 dst,.int .i64 0,.int .i64 0,.int .i64 0,.int .i64 k] 50
  have b1:Below w.heap.size w (w.alloc (.cells #[.int .i64 op,.int .i64 dst,.int .i64 0,.int .i64 0,.int .i64 0,.int .i64 k] 50)):=bE
  have hg1:=bX.lt
  go_enter Try.func50,Try.ntmps50
  go_upto_region 1 with (fail)
  generalize hW1:w.alloc (.cells #[.int .i64 op,.int .i64 dst,.int .i64 0,.int .i64 0,.int .i64 0,.int .i64 k] 50)=w1 at*
  clear hW1
  obtain ⟨c0,c1,c2,c3,c4,c5⟩:=bX.six'
  go_wp2_with fail
  (with_reducible refine (is3_b HH.out hBw wa wb wc HV3.out b1).mono ?_)
  rintro e w5 ⟨rfl,hb5⟩
  have hb15:=b1.trans (hb5.mono b1.size)
  have bX5:=bX.below hb5 hg1
  have hg5:w.heap.size<w5.heap.size:=bX5.lt
  clear c0 c1 c2 c3 c4 c5 hb5 bX b1
  obtain ⟨c0,c1,c2,c3,c4,c5⟩:=bX5.six'
  go_wp2_with fail
  (with_reducible refine (Ar.sign_any op _).mono ?_)
  rintro e w' ⟨rfl,rfl⟩
  rw[sg]
  generalize Ar.signIn op=si at*
  generalize Ar.signOut op=so at*
  clear sg
  obtain ⟨m,b6,off6,cw6,Ag6,cg6,hmd,hm,hvw,lw6,mw6,hb6,wt6,d0,d1,lg6,mg6,sg6⟩:=(HH.out.below hBw hb15).wire hd
  subst hmd
  have q0:=(HH.out.below hBw hb15).row.eight.1.1
  have HVW:=Lib.hid hvw
  rw[hvw] at q0
  have hm':(m:Int)<f.wires.length:=by omega
  have HSG:=Lib.hid sg6
  clear hvw d0 sg6 wt6
  go_wp2_with fail
  go_quiet (fail)
  have hb16:=fun n=>below_drewN' hb15 n
  (try go_wp2_with fail)
  (with_reducible refine (kind_b HH.out hBw hd HTd.out (hb16 _)).mono ?_)
  rintro e w6 ⟨rfl,rfl⟩
  go_wp2_with fail
  go_ret
  exact ⟨ret_bool HR.out.symm,hb16 _⟩
set_option maxRecDepth 100000 in
set_option maxHeartbeats 2000000 in
theorem nact_2 (h:NkAt w B L f vw va vc vk vi vo vb ve) (hB:B≤w.heap.size) (op dst a b c k:Int) (wx:AcIn ⟨op,dst,a,b,c,k⟩) (hd:isW f dst) (hop:op=2) (hall:allW3 f a b c):
  Calls Try.prog 50 #[.pointer (some ⟨L,0,none⟩),.agg #[.int .i64 op,.int .i64 dst,.int .i64 a,.int .i64 b,.int .i64 c,.int .i64 k]] w fun e w'=>e= .returned (.bool (cB (actOk f ⟨op,dst,a,b,c,k⟩)))∧Below w.heap.size w w':=by
 have HH:=Lib.hid h
 have hBw:=hB
 obtain ⟨wop,wd,wa,wb,wc,wk⟩:=wx
 dsimp only at wop wd wa wb wc wk
 clear h hB
 have HIFF:=Lib.hid (act_iff2 (dst:=dst) (k:=k) hop hall)
 have HV3:Hid (cB (isW f a∧isW f b∧isW f c)=true):=cB_true hall
 have sg:Ar.signB op=false:=by simp[Ar.signB];omega
 have o1:(op==1)=false:=by rw[beq_eq_false_iff_ne];omega
 have o2:(op==2)=true:=by rw[beq_iff_eq];omega
 have o3:(op==3)=false:=by rw[beq_eq_false_iff_ne];omega
 have o27:(op==27)=false:=by rw[beq_eq_false_iff_ne];omega
 have o24:(op==24)=false:=by rw[beq_eq_false_iff_ne];omega
 have o26:(op==26)=false:=by rw[beq_eq_false_iff_ne];omega
 have o21:(op==21)=false:=by rw[beq_eq_false_iff_ne];omega
 clear hop
 by_cases h0:a=0∧b=0∧c=0
 rotate_left 1
 ·have HF:=Lib.hid (cB_false (show ¬actOk f ⟨op,dst,a,b,c,k⟩ from fun g=>h0 (HIFF.out.1 g).1))
  generalize cB (actOk f ⟨op,dst,a,b,c,k⟩)=R at*
  have bX:=Row.new w #[.int .i64 op,.int .i64 dst,.int .i64 a,.int .i64 b,.int .i64 c,.int .i64 k] 50
  have b1:Below w.heap.size w (w.alloc (.cells #[.int .i64 op,.int .i64 dst,.int .i64 a,.int .i64 b,.int .i64 c,.int .i64 k] 50)):=bE
  have hg1:=bX.lt
  go_enter Try.func50,Try.ntmps50
  go_upto_region 1 with (fail)
  generalize hW1:w.alloc (.cells #[.int .i64 op,.int .i64 dst,.int .i64 a,.int .i64 b,.int .i64 c,.int .i64 k] 50)=w1 at*
  clear hW1
  obtain ⟨c0,c1,c2,c3,c4,c5⟩:=bX.six'
  go_wp2_with fail
  (with_reducible refine (is3_b HH.out hBw wa wb wc HV3.out b1).mono ?_)
  rintro e w5 ⟨rfl,hb5⟩
  have hb15:=b1.trans (hb5.mono b1.size)
  have bX5:=bX.below hb5 hg1
  have hg5:w.heap.size<w5.heap.size:=bX5.lt
  clear c0 c1 c2 c3 c4 c5 hb5 bX b1
  obtain ⟨c0,c1,c2,c3,c4,c5⟩:=bX5.six'
  go_wp2_with fail
  (with_reducible refine (Ar.sign_any op _).mono ?_)
  rintro e w' ⟨rfl,rfl⟩
  rw[sg]
  generalize Ar.signIn op=si at*
  generalize Ar.signOut op=so at*
  clear sg
  obtain ⟨m,b6,off6,cw6,Ag6,cg6,hmd,hm,hvw,lw6,mw6,hb6,wt6,d0,d1,lg6,mg6,sg6⟩:=(HH.out.below hBw hb15).wire hd
  subst hmd
  have q0:=(HH.out.below hBw hb15).row.eight.1.1
  have HVW:=Lib.hid hvw
  rw[hvw] at q0
  have hm':(m:Int)<f.wires.length:=by omega
  have HSG:=Lib.hid sg6
  clear hvw d0 sg6 wt6
  go_wp2_with fail
  go_quiet (fail)
  go_wp2_with fail
  all_goals
   go_ret
   exact ⟨ret_bool HF.out.symm,by first|exact hb15|exact below_drewN' hb15 _⟩
 obtain ⟨rfl,rfl,rfl⟩:=h0
 have HT:=Lib.hid (rfl:tyOf f dst=tyOf f dst)
 generalize hTd:tyOf f dst=Td at HIFF
 have HTd:=Lib.hid hTd
 clear hTd HT
 by_cases e1:Td=2
 ·have HR:Hid (cB (actOk f ⟨op,dst,0,0,0,k⟩)=cB (valueOk 2 k)):=cB_congr (HIFF.out.trans ⟨fun g=>g.2.2,fun g=>⟨⟨rfl,rfl,rfl⟩,e1,g⟩⟩)
  have HVT:=Lib.hid (fun W=>ntruth_any 2 k W)
  have e1':(Td==2)=true:=by simp[e1]
  clear e1
  generalize cB (actOk f ⟨op,dst,0,0,0,k⟩)=R at*
  generalize cB (valueOk 2 k)=V at*
  have bX:=Row.new w #[.int .i64 op,.int .i64 dst,.int .i64 0,.int .i64 0,.int .i64 0,.int .i64 k] 50
  have b1:Below w.heap.size w (w.alloc (.cells #[.int .i64 op,.int .i64 dst,.int .i64 0,.int .i64 0,.int .i64 0,.int .i64 k] 50)):=bE
  have hg1:=bX.lt
  go_enter Try.func50,Try.ntmps50
  go_upto_region 1 with (fail)
  generalize hW1:w.alloc (.cells #[.int .i64 op,.int .i64 dst,.int .i64 0,.int .i64 0,.int .i64 0,.int .i64 k] 50)=w1 at*
  clear hW1
  obtain ⟨c0,c1,c2,c3,c4,c5⟩:=bX.six'
  go_wp2_with fail
  (with_reducible refine (is3_b HH.out hBw wa wb wc HV3.out b1).mono ?_)
  rintro e w5 ⟨rfl,hb5⟩
  have hb15:=b1.trans (hb5.mono b1.size)
  have bX5:=bX.below hb5 hg1
  have hg5:w.heap.size<w5.heap.size:=bX5.lt
  clear c0 c1 c2 c3 c4 c5 hb5 bX b1
  obtain ⟨c0,c1,c2,c3,c4,c5⟩:=bX5.six'
  go_wp2_with fail
  (with_reducible refine (Ar.sign_any op _).mono ?_)
  rintro e w' ⟨rfl,rfl⟩
  rw[sg]
  generalize Ar.signIn op=si at*
  generalize Ar.signOut op=so at*
  clear sg
  obtain ⟨m,b6,off6,cw6,Ag6,cg6,hmd,hm,hvw,lw6,mw6,hb6,wt6,d0,d1,lg6,mg6,sg6⟩:=(HH.out.below hBw hb15).wire hd
  subst hmd
  have q0:=(HH.out.below hBw hb15).row.eight.1.1
  have HVW:=Lib.hid hvw
  rw[hvw] at q0
  have hm':(m:Int)<f.wires.length:=by omega
  have HSG:=Lib.hid sg6
  clear hvw d0 sg6 wt6
  go_wp2_with fail
  go_quiet (fail)
  have hb16:=fun n=>below_drewN' hb15 n
  (try go_wp2_with fail)
  (with_reducible refine (kind_b HH.out hBw hd HTd.out (hb16 _)).mono ?_)
  rintro e w6 ⟨rfl,rfl⟩
  go_wp2_with fail
  (with_reducible refine (HVT.out _).mono ?_)
  rintro e w6 ⟨rfl,rfl⟩
  go_wp2_with fail
  go_ret
  exact ⟨ret_bool HR.out.symm,hb16 _⟩
 ·have HR:=Lib.hid (cB_false (fun g=>e1 (HIFF.out.1 g).2.1))
  have e1':(Td==2)=false:=by simp[e1]
  clear e1
  generalize cB (actOk f ⟨op,dst,0,0,0,k⟩)=R at*
  have bX:=Row.new w #[.int .i64 op,.int .i64 dst,.int .i64 0,.int .i64 0,.int .i64 0,.int .i64 k] 50
  have b1:Below w.heap.size w (w.alloc (.cells #[.int .i64 op,.int .i64 dst,.int .i64 0,.int .i64 0,.int .i64 0,.int .i64 k] 50)):=bE
  have hg1:=bX.lt
  go_enter Try.func50,Try.ntmps50
  go_upto_region 1 with (fail)
  generalize hW1:w.alloc (.cells #[.int .i64 op,.int .i64 dst,.int .i64 0,.int .i64 0,.int .i64 0,.int .i64 k] 50)=w1 at*
  clear hW1
  obtain ⟨c0,c1,c2,c3,c4,c5⟩:=bX.six'
  go_wp2_with fail
  (with_reducible refine (is3_b HH.out hBw wa wb wc HV3.out b1).mono ?_)
  rintro e w5 ⟨rfl,hb5⟩
  have hb15:=b1.trans (hb5.mono b1.size)
  have bX5:=bX.below hb5 hg1
  have hg5:w.heap.size<w5.heap.size:=bX5.lt
  clear c0 c1 c2 c3 c4 c5 hb5 bX b1
  obtain ⟨c0,c1,c2,c3,c4,c5⟩:=bX5.six'
  go_wp2_with fail
  (with_reducible refine (Ar.sign_any op _).mono ?_)
  rintro e w' ⟨rfl,rfl⟩
  rw[sg]
  generalize Ar.signIn op=si at*
  generalize Ar.signOut op=so at*
  clear sg
  obtain ⟨m,b6,off6,cw6,Ag6,cg6,hmd,hm,hvw,lw6,mw6,hb6,wt6,d0,d1,lg6,mg6,sg6⟩:=(HH.out.below hBw hb15).wire hd
  subst hmd
  have q0:=(HH.out.below hBw hb15).row.eight.1.1
  have HVW:=Lib.hid hvw
  rw[hvw] at q0
  have hm':(m:Int)<f.wires.length:=by omega
  have HSG:=Lib.hid sg6
  clear hvw d0 sg6 wt6
  go_wp2_with fail
  go_quiet (fail)
  have hb16:=fun n=>below_drewN' hb15 n
  (try go_wp2_with fail)
  (with_reducible refine (kind_b HH.out hBw hd HTd.out (hb16 _)).mono ?_)
  rintro e w6 ⟨rfl,rfl⟩
  go_wp2_with fail
  go_ret
  exact ⟨ret_bool HR.out.symm,hb16 _⟩
set_option maxRecDepth 100000 in
set_option maxHeartbeats 2000000 in
theorem nact_none (h:NkAt w B L f vw va vc vk vi vo vb ve) (hB:B≤w.heap.size) (op dst a b c k:Int) (wx:AcIn ⟨op,dst,a,b,c,k⟩) (hd:isW f dst) (hop:uses op<0) (hall:allW3 f a b c):
  Calls Try.prog 50 #[.pointer (some ⟨L,0,none⟩),.agg #[.int .i64 op,.int .i64 dst,.int .i64 a,.int .i64 b,.int .i64 c,.int .i64 k]] w fun e w'=>e= .returned (.bool (cB (actOk f ⟨op,dst,a,b,c,k⟩)))∧Below w.heap.size w w':=by
 have HH:=Lib.hid h
 have hBw:=hB
 obtain ⟨wop,wd,wa,wb,wc,wk⟩:=wx
 dsimp only at wop wd wa wb wc wk
 clear h hB
 have HF:=Lib.hid (cB_false (act_none (f:=f) (dst:=dst) (a:=a) (b:=b) (c:=c) (k:=k) hop))
 have hop':op≠1∧op≠2∧op≠21∧op≠3∧op≠24∧op≠26∧op≠27∧¬(5≤op∧op≤20):=by unfold uses at hop;(repeat' split at hop);all_goals omega
 have HV3:Hid (cB (isW f a∧isW f b∧isW f c)=true):=cB_true hall
 have sg:Ar.signB op=false:=by simp[Ar.signB];omega
 have o1:(op==1)=false:=by rw[beq_eq_false_iff_ne];omega
 have o2:(op==2)=false:=by rw[beq_eq_false_iff_ne];omega
 have o3:(op==3)=false:=by rw[beq_eq_false_iff_ne];omega
 have o27:(op==27)=false:=by rw[beq_eq_false_iff_ne];omega
 have o24:(op==24)=false:=by rw[beq_eq_false_iff_ne];omega
 have o26:(op==26)=false:=by rw[beq_eq_false_iff_ne];omega
 have o21:(op==21)=false:=by rw[beq_eq_false_iff_ne];omega
 clear hop hop'
 generalize cB (actOk f ⟨op,dst,a,b,c,k⟩)=R at*
 have bX:=Row.new w #[.int .i64 op,.int .i64 dst,.int .i64 a,.int .i64 b,.int .i64 c,.int .i64 k] 50
 have b1:Below w.heap.size w (w.alloc (.cells #[.int .i64 op,.int .i64 dst,.int .i64 a,.int .i64 b,.int .i64 c,.int .i64 k] 50)):=bE
 have hg1:=bX.lt
 go_enter Try.func50,Try.ntmps50
 go_upto_region 1 with (fail)
 generalize hW1:w.alloc (.cells #[.int .i64 op,.int .i64 dst,.int .i64 a,.int .i64 b,.int .i64 c,.int .i64 k] 50)=w1 at*
 clear hW1
 obtain ⟨c0,c1,c2,c3,c4,c5⟩:=bX.six'
 go_wp2_with fail
 (with_reducible refine (is3_b HH.out hBw wa wb wc HV3.out b1).mono ?_)
 rintro e w5 ⟨rfl,hb5⟩
 have hb15:=b1.trans (hb5.mono b1.size)
 have bX5:=bX.below hb5 hg1
 have hg5:w.heap.size<w5.heap.size:=bX5.lt
 clear c0 c1 c2 c3 c4 c5 hb5 bX b1
 obtain ⟨c0,c1,c2,c3,c4,c5⟩:=bX5.six'
 go_wp2_with fail
 (with_reducible refine (Ar.sign_any op _).mono ?_)
 rintro e w' ⟨rfl,rfl⟩
 rw[sg]
 generalize Ar.signIn op=si at*
 generalize Ar.signOut op=so at*
 clear sg
 obtain ⟨m,b6,off6,cw6,Ag6,cg6,hmd,hm,hvw,lw6,mw6,hb6,wt6,d0,d1,lg6,mg6,sg6⟩:=(HH.out.below hBw hb15).wire hd
 subst hmd
 have q0:=(HH.out.below hBw hb15).row.eight.1.1
 have HVW:=Lib.hid hvw
 rw[hvw] at q0
 have hm':(m:Int)<f.wires.length:=by omega
 have HSG:=Lib.hid sg6
 clear hvw d0 sg6 wt6
 go_wp2_with fail
 go_quiet (fail)
 go_wp2_with fail
 go_ret
 exact ⟨ret_bool HF.out.symm,by first|exact hb15|exact below_drewN' hb15 _⟩
end
end Go.Proofs.Ytckognjamlckcaa
