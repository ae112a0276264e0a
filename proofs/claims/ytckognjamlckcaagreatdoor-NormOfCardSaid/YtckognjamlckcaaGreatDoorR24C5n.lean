/-
  The document's act: ops that name some parts.
-/
import Derived.Test.YtckognjamlckcaaGreatDoorZz
import Derived.Test.YtckognjamlckcaaGreatDoorR24C0
import Derived.Test.YtckognjamlckcaaGreatDoorLookA
import Derived.Test.YtckognjamlckcaaGreatDoorR24A
set_option maxHeartbeats 8000000
set_option maxRecDepth 100000
namespace Go.Proofs.YtckognjamlckcaaGreatDoor
open Go.RowKit Vf Fo
attribute [local go_sem ↓] Go.wp_at_zero Go.wp_at_succ
theorem ract_26n {w:World} {f:Fm} {vw va vc vk vi vo:Value} (h:FmAt w w.heap.size f vw va vc vk vi vo) (op dst a b c k:Int) (hu:uses op=3) (hop:op=26) (hall:allW3 f a b c) (hd:isW f dst) (hno:¬(clockOf f dst=clockOf f a∧tyOf f a=2∧tyOf f dst=tyOf f b∧tyOf f dst=tyOf f c)) (wx:AcIn ⟨op,dst,a,b,c,k⟩) (hcl:(clockOf f dst).length≤1600):
  Calls Tryz.prog 36 #[fmV vw va vc vk vi vo,acV ⟨op,dst,a,b,c,k⟩] w fun e w'=>e= .returned (.bool (cB (actOk f ⟨op,dst,a,b,c,k⟩)))∧Below w.heap.size w w':=by
 refine' zq30
 have HNO:=Lib.hid hno
 clear hno
 refine' zq201
 by_cases hC:clockOf f (md:Int)=clockOf f (ma:Int)
 rotate_left 1
 ·have HF:Hid (cB (actOk f ⟨26,(md:Int),(ma:Int),(mb:Int),(mc:Int),k⟩)=false):=cB_false (fun g=>hC (HIFF.out.1 g).2.2.1)
  have HV:=Lib.hid (HGA.out false (cB_false hC))
  clear hC
  refine' zq156
 refine' zq5
 by_cases hA:tyOf f (ma:Int)=2
 rotate_left 1
 ·have ehA:(tyOf f (ma:Int)==2)=false:=by simpa using hA
  have HF:Hid (cB (actOk f ⟨26,(md:Int),(ma:Int),(mb:Int),(mc:Int),k⟩)=false):=cB_false (fun g=>hA (HIFF.out.1 g).2.1)
  clear hA
  refine' zq14
  refine sk 4 (some 198) rfl ?_
  refine sk 5 (some 199) rfl ?_
  refine sk 6 (some 200) rfl ?_
  refine sk 7 (some 201) rfl ?_
  refine sk 8 (some 202) rfl ?_
  refine tk 9 (some 203) rfl ?_
  refine tk 10 (some 204) rfl ?_
  refine sk 11 (some 205) rfl ?_
  refine sk 12 (some 206) rfl ?_
  refine sk 13 (some 207) rfl ?_
  refine sk 14 (some 208) rfl ?_
  refine sk 15 (some 209) rfl ?_
  refine' zq43
 have ehA:(tyOf f (ma:Int)==2)=true:=by simpa using hA
 have HhA:=Lib.hid hA
 clear hA
 by_cases hB:tyOf f (md:Int)=tyOf f (mb:Int)
 rotate_left 1
 ·have ehB:(tyOf f (md:Int)==tyOf f (mb:Int))=false:=by simpa using hB
  have HF:Hid (cB (actOk f ⟨26,(md:Int),(ma:Int),(mb:Int),(mc:Int),k⟩)=false):=cB_false (fun g=>hB (HIFF.out.1 g).2.2.2.1)
  clear hB
  refine' zq149
  refine sk 11 (some 205) rfl ?_
  refine sk 12 (some 206) rfl ?_
  refine sk 13 (some 207) rfl ?_
  refine sk 14 (some 208) rfl ?_
  refine sk 15 (some 209) rfl ?_
  refine' zq43
 have ehB:(tyOf f (md:Int)==tyOf f (mb:Int))=true:=by simpa using hB
 have HhB:=Lib.hid hB
 clear hB
 by_cases hD:tyOf f (md:Int)=tyOf f (mc:Int)
 rotate_left 1
 ·have ehD:(tyOf f (md:Int)==tyOf f (mc:Int))=false:=by simpa using hD
  have HF:Hid (cB (actOk f ⟨26,(md:Int),(ma:Int),(mb:Int),(mc:Int),k⟩)=false):=cB_false (fun g=>hD (HIFF.out.1 g).2.2.2.2.1)
  clear hD
  refine' zq335
  refine' zq43
 have ehD:(tyOf f (md:Int)==tyOf f (mc:Int))=true:=by simpa using hD
 have HhD:=Lib.hid hD
 clear hD
 exact absurd ⟨HC.out,HhA.out,HhB.out,HhD.out⟩ HNO.out
end Go.Proofs.YtckognjamlckcaaGreatDoor
