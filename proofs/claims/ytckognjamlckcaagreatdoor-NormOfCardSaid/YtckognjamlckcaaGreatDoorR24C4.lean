/-
  The document's act: ops that name some parts. The document's act: ops that name some parts.
-/
import Derived.Test.YtckognjamlckcaaGreatDoorZz
import Derived.Test.YtckognjamlckcaaGreatDoorR24C0
import Derived.Test.YtckognjamlckcaaGreatDoorLookA
set_option maxHeartbeats 8000000
set_option maxRecDepth 100000
namespace Go.Proofs.YtckognjamlckcaaGreatDoor
open Go.RowKit Vf Fo
attribute [local go_sem ↓] Go.wp_at_zero Go.wp_at_succ
theorem ract_27 {w:World} {f:Fm} {vw va vc vk vi vo:Value} (h:FmAt w w.heap.size f vw va vc vk vi vo) (op dst a b c k:Int) (hu:uses op=3) (hop:op=27) (hall:allW3 f a b c) (hd:isW f dst):
  Calls Tryz.prog 36 #[fmV vw va vc vk vi vo,acV ⟨op,dst,a,b,c,k⟩] w fun e w'=>e= .returned (.bool (cB (actOk f ⟨op,dst,a,b,c,k⟩)))∧Below w.heap.size w w':=by
 refine' zq30
 refine' zq3
 refine' zq0
 refine' zq26
 refine' zq56
 have hop:=HOP.out
 subst hop
 refine' zq95
 refine' zq155
 have HGC:Hid (∀(n:Nat) (V:Bool) (hV:cB (clockOf f (md:Int)=clockOf f (mc:Int))=V),Calls Tryz.prog 31 #[.slice Agd (clockOf f (md:Int)).length cgd,.slice Agc (clockOf f (mc:Int)).length cgc] (w5.drewN n) fun e w'=>e= .returned (.bool V)∧∃m,w'=(w5.drewN n).drewN m):=fun n V hV=>by
  have:=rguards_any _ _ _ _ _ (w5.drewN n) SVd SVc
  rw[hV] at this
  exact this
 clear HGda SVd SVa SVb SVc
 by_cases hC:clockOf f (md:Int)=clockOf f (ma:Int)
 rotate_left 1
 ·have HF:Hid (cB (actOk f ⟨27,(md:Int),(ma:Int),(mb:Int),(mc:Int),k⟩)=false):=cB_false (fun g=>hC ((act_iff27 rfl HALL.out).1 g).2.1.1)
  have HV:=Lib.hid (HGA.out false (cB_false hC))
  clear hC
  refine' zq156
 refine' zq286
 clear hC
 by_cases hC:clockOf f (md:Int)=clockOf f (mb:Int)
 rotate_left 1
 ·have HF:Hid (cB (actOk f ⟨27,(md:Int),(ma:Int),(mb:Int),(mc:Int),k⟩)=false):=cB_false (fun g=>hC ((act_iff27 rfl HALL.out).1 g).2.1.2.1)
  refine' zq255
 have HC2:=Lib.hid hC
 have HV2:=Lib.hid (fun n=>HGB.out n true (cB_true hC))
 clear hC
 by_cases hC:clockOf f (md:Int)=clockOf f (mc:Int)
 rotate_left 1
 ·have HF:Hid (cB (actOk f ⟨27,(md:Int),(ma:Int),(mb:Int),(mc:Int),k⟩)=false):=cB_false (fun g=>hC ((act_iff27 rfl HALL.out).1 g).2.1.2.2)
  have HV3:=Lib.hid (fun n=>HGC.out n false (cB_false hC))
  clear hC
  refine' zq45
  refine' zq64
 have HC3:=Lib.hid hC
 have HV3:=Lib.hid (fun n=>HGC.out n true (cB_true hC))
 clear hC
 by_cases hA:tyOf f (ma:Int)=2
 rotate_left 1
 ·have ehA:(tyOf f (ma:Int)==2)=false:=by simpa using hA
  have HF:Hid (cB (actOk f ⟨27,(md:Int),(ma:Int),(mb:Int),(mc:Int),k⟩)=false):=cB_false (fun g=>hA ((act_iff27 rfl HALL.out).1 g).2.2.1)
  clear hA
  refine' zq45
  refine' zq64
 have ehA:(tyOf f (ma:Int)==2)=true:=by simpa using hA
 have HhA:=Lib.hid hA
 clear hA
 by_cases hB:tyOf f (mb:Int)=tyOf f (mc:Int)
 rotate_left 1
 ·have ehB:(tyOf f (mb:Int)==tyOf f (mc:Int))=false:=by simpa using hB
  have HF:Hid (cB (actOk f ⟨27,(md:Int),(ma:Int),(mb:Int),(mc:Int),k⟩)=false):=cB_false (fun g=>hB ((act_iff27 rfl HALL.out).1 g).2.2.2.1)
  clear hB
  refine' zq45
  refine' zq64
 have ehB:(tyOf f (mb:Int)==tyOf f (mc:Int))=true:=by simpa using hB
 have HhB:=Lib.hid hB
 clear hB
 by_cases hD:tyOf f (md:Int)=tyOf f (mb:Int)
 rotate_left 1
 ·have ehD:(tyOf f (md:Int)==tyOf f (mb:Int))=false:=by simpa using hD
  have HF:Hid (cB (actOk f ⟨27,(md:Int),(ma:Int),(mb:Int),(mc:Int),k⟩)=false):=cB_false (fun g=>hD ((act_iff27 rfl HALL.out).1 g).2.2.2.2)
  clear hD
  refine' zq45
  refine' zq64
 have ehD:(tyOf f (md:Int)==tyOf f (mb:Int))=true:=by simpa using hD
 have HF:Hid (cB (actOk f ⟨27,(md:Int),(ma:Int),(mb:Int),(mc:Int),k⟩)=true):=cB_true ((act_iff27 rfl HALL.out).2 ⟨HZk.out,⟨HC.out,HC2.out,HC3.out⟩,HhA.out,HhB.out,hD⟩)
 clear hD
 refine' zq45
 refine' zq64
theorem ract_24 {w:World} {f:Fm} {vw va vc vk vi vo:Value} (h:FmAt w w.heap.size f vw va vc vk vi vo) (op dst a b c k:Int) (hu:uses op=1) (hop:op=24) (hall:allW3 f a b c) (hd:isW f dst):
  Calls Tryz.prog 36 #[fmV vw va vc vk vi vo,acV ⟨op,dst,a,b,c,k⟩] w fun e w'=>e= .returned (.bool (cB (actOk f ⟨op,dst,a,b,c,k⟩)))∧Below w.heap.size w w':=by
 refine' zq30
 refine' zq3
 refine' zq0
 refine' zq10
 clear hz
 refine' zq26
 have hop:=HOP.out
 subst hop
 have HIFF:=Lib.hid (act_iff24 (f:=f) (op:=24) (dst:=(md:Int)) (a:=(ma:Int)) (b:=(mb:Int)) (c:=(mc:Int)) (k:=k) rfl HALL.out)
 have HGW:Hid (∀W (L:Nat) (V:Bool),Below w5.heap.size w5 W→L≤(clockOf f (md:Int)).length→0<(clockOf f (md:Int)).length→cB ((clockOf f (md:Int)).take L=clockOf f (ma:Int))=V→Calls Tryz.prog 31 #[.slice Agd L cgd,.slice Aga (clockOf f (ma:Int)).length cga] W fun e w'=>e= .returned (.bool V)∧∃n,w'=W.drewN n):=fun W L V hW hL h0 hV=>by
  have q:=HSG.out W (HBW.out _ (b5.trans (hW.mono hs5)))
  have s1:SlV W w.heap.size 2 isGd (.slice Agd L cgd) ((clockOf f (md:Int)).take L):=by
   obtain ⟨bb,oo,rfl,_,_⟩:=q.1 h0
   exact slv_take q.1 lgd mgd hL
  have:=rguards_any _ _ _ _ _ W s1 (⟨Aga,cga,rfl,lga,mga,q.2.1⟩:SlV W w.heap.size 2 isGd (.slice Aga (clockOf f (ma:Int)).length cga) (clockOf f (ma:Int)))
  rw[hV] at this
  exact this
 have HS:Hid (∀W,Below w5.heap.size w5 W→W.cell? ⟨g6,0,none⟩=some (.int .i64 (tyOf f (md:Int)))∧W.cell? ⟨g6,1,none⟩=some (.slice Agd (clockOf f (md:Int)).length cgd)∧W.cell? ⟨g6+1,0,none⟩=some (.int .i64 (tyOf f (ma:Int)))∧W.cell? ⟨g6+1,1,none⟩=some (.slice Aga (clockOf f (ma:Int)).length cga)):=fun W hW=>⟨(HR.out W hW).1.1,(HR.out W hW).1.2,(HR.out W hW).2.1.1,(HR.out W hW).2.1.2⟩
 generalize hcd:clockOf f (md:Int)=cd at*
 have HCD:=Lib.hid hcd
 clear hcd
 generalize hln:cd.length=len at*
 have HLN:=Lib.hid hln
 clear hln
 go_upto_region 18 with (fail)
 rcases len with _|L
 ·have HF:Hid (cB (actOk f ⟨24,(md:Int),(ma:Int),(mb:Int),(mc:Int),k⟩)=false):=cB_false (fun g=>by
   obtain ⟨q,hq⟩:=(HIFF.out.1 g).2.1
   have h1:=HLN.out
   rw[hq] at h1
   simp at h1)
  refine wp_region_held_drew (S:=fun W=>W.cell? ⟨g6,0,none⟩=some (.int .i64 (tyOf f (md:Int)))∧W.cell? ⟨g6,1,none⟩=some (.slice Agd 0 cgd)∧W.cell? ⟨g6+1,0,none⟩=some (.int .i64 (tyOf f (ma:Int)))∧W.cell? ⟨g6+1,1,none⟩=some (.slice Aga (clockOf f (ma:Int)).length cga)) (by kernel_rfl) ?_ (fun hHeld=>?_)
  ·refine' zq15
  refine tk 0 (some 167) rfl ?_
  refine tk 1 (some 168) rfl ?_
  refine tk 2 (some 169) rfl ?_
  refine sk 3 (some 170) rfl ?_
  refine sk 4 (some 171) rfl ?_
  refine sk 5 (some 172) rfl ?_
  refine sk 6 (some 173) rfl ?_
  refine sk 7 (some 174) rfl ?_
  refine sk 8 (some 175) rfl ?_
  refine sk 9 (some 176) rfl ?_
  refine tk 10 (some 177) rfl ?_
  refine tk 11 (some 178) rfl ?_
  refine' zq271
 have hLc:L≤cgd:=by omega
 have HEQ:Hid ((∃g,cd=clockOf f (ma:Int)++ [g])↔cd.take L=clockOf f (ma:Int)):=by
  have h1:=HLN.out
  constructor
  ·rintro ⟨g,hg⟩
   have h2:(clockOf f (ma:Int)).length=L:=by rw[hg] at h1;simpa using h1
   rw[hg,←h2,List.take_left]
  ·intro hg
   refine ⟨cd[L]'(by omega),?_⟩
   rw[←hg]
   have:=List.take_add_one (l:=cd) (i:=L)
   rw[List.getElem?_eq_getElem (show L<cd.length by omega),List.take_of_length_le (by omega)] at this
   exact this
 by_cases hC:cd.take L=clockOf f (ma:Int)
 rotate_left 1
 ·have HF:Hid (cB (actOk f ⟨24,(md:Int),(ma:Int),(mb:Int),(mc:Int),k⟩)=false):=cB_false (fun g=>hC (HEQ.out.1 (HIFF.out.1 g).2.1))
  have HV:=Lib.hid (fun W (hW:Below w5.heap.size w5 W)=>HGW.out W L false hW (by omega) (by omega) (cB_false hC))
  clear hC
  refine' zq39
  refine' zq271
 have HV:=Lib.hid (fun W (hW:Below w5.heap.size w5 W)=>HGW.out W L true hW (by omega) (by omega) (cB_true hC))
 have HC:=Lib.hid (HEQ.out.2 hC)
 clear hC
 by_cases hT:tyOf f (md:Int)=tyOf f (ma:Int)
 ·have eT:(tyOf f (md:Int)==tyOf f (ma:Int))=true:=by simpa using hT
  have HF:Hid (cB (actOk f ⟨24,(md:Int),(ma:Int),(mb:Int),(mc:Int),k⟩)=true):=cB_true (HIFF.out.2 ⟨⟨HZb.out,HZc.out,HZk.out⟩,HC.out,hT⟩)
  refine' zq246
 have eT:(tyOf f (md:Int)==tyOf f (ma:Int))=false:=by simpa using hT
 have HF:Hid (cB (actOk f ⟨24,(md:Int),(ma:Int),(mb:Int),(mc:Int),k⟩)=false):=cB_false (fun g=>hT (HIFF.out.1 g).2.2)
 refine' zq246
end Go.Proofs.YtckognjamlckcaaGreatDoor
