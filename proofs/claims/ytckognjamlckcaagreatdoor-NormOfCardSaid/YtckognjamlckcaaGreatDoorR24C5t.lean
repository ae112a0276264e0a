/-
  The document's act: ops that name some parts. The document's act: ops that name some parts.
-/
import Derived.Test.YtckognjamlckcaaGreatDoorZz
import Derived.Test.YtckognjamlckcaaGreatDoorR24C0
import Derived.Test.YtckognjamlckcaaGreatDoorLookA
import Derived.Test.YtckognjamlckcaaGreatDoorR24A
set_option maxHeartbeats 8000000
set_option maxRecDepth 100000
namespace Go.Proofs.YtckognjamlckcaaGreatDoor
open Go.RowKit Vf Fo
attribute [local go_sem ↓] Go.wp_at_zero Go.wp_at_succ
theorem ract_26e {w:World} {f:Fm} {vw va vc vk vi vo:Value} (h:FmAt w w.heap.size f vw va vc vk vi vo) (op dst a b c k:Int) (hu:uses op=3) (hop:op=26) (hall:allW3 f a b c) (hd:isW f dst) (hg4:clockOf f dst=clockOf f a∧tyOf f a=2∧tyOf f dst=tyOf f b∧tyOf f dst=tyOf f c) (he0:¬(clockOf f b=clockOf f dst++ [⟨a,false⟩])) (wx:AcIn ⟨op,dst,a,b,c,k⟩) (hcl:(clockOf f dst).length≤1600):
  Calls Tryz.prog 36 #[fmV vw va vc vk vi vo,acV ⟨op,dst,a,b,c,k⟩] w fun e w'=>e= .returned (.bool (cB (actOk f ⟨op,dst,a,b,c,k⟩)))∧Below w.heap.size w w':=by
 refine' zq92
 have HVB:=Lib.hid (cB_false hE)
 have HF:Hid (cB (actOk f ⟨26,(md:Int),(ma:Int),(mb:Int),(mc:Int),k⟩)=false):=cB_false (fun g=>hE (HIFF.out.1 g).2.2.2.2.2.1)
 clear hE
 refine' zq52
 refine' zq204
 refine' zq67
theorem ract_26t {w:World} {f:Fm} {vw va vc vk vi vo:Value} (h:FmAt w w.heap.size f vw va vc vk vi vo) (op dst a b c k:Int) (hu:uses op=3) (hop:op=26) (hall:allW3 f a b c) (hd:isW f dst) (hg4:clockOf f dst=clockOf f a∧tyOf f a=2∧tyOf f dst=tyOf f b∧tyOf f dst=tyOf f c) (he0:clockOf f b=clockOf f dst++ [⟨a,false⟩]) (wx:AcIn ⟨op,dst,a,b,c,k⟩) (hcl:(clockOf f dst).length≤1600):
  Calls Tryz.prog 36 #[fmV vw va vc vk vi vo,acV ⟨op,dst,a,b,c,k⟩] w fun e w'=>e= .returned (.bool (cB (actOk f ⟨op,dst,a,b,c,k⟩)))∧Below w.heap.size w w':=by
 refine' zq92
 have HVB:=Lib.hid (cB_true hE)
 clear hE
 obtain ⟨V,HVC⟩:∃V:Bool,Hid (cB (clockOf f (mc:Int)=clockOf f (md:Int)++ [(⟨(ma:Int),true⟩:Gd)])=V):=⟨_,rfl⟩
 have HF:Hid (cB (actOk f ⟨26,(md:Int),(ma:Int),(mb:Int),(mc:Int),k⟩)=V):=by
  show _=_
  rw[←HVC.out]
  exact cB_congr ⟨fun g=>(HIFF.out.1 g).2.2.2.2.2.2,fun g=>HIFF.out.2 ⟨HZk.out,HG4.out.2.1,HG4.out.1,HG4.out.2.2.1,HG4.out.2.2.2,HE0.out,g⟩⟩
 refine' zq52
 refine tk 28 (some 222) rfl ?_
 refine tk 29 (some 223) rfl ?_
 refine tk 30 (some 224) rfl ?_
 refine tk 31 (some 225) rfl ?_
 refine tk 32 (some 226) rfl ?_
 refine tk 33 (some 227) rfl ?_
 refine rd1 34 (some 228) rfl (fun KK hKK=>?_)
 refine' zq252
 refine rd1 35 (some 229) rfl (fun KK hKK=>?_)
 refine' zq213
 refine tk 36 (some 230) rfl ?_
 refine tk 37 (some 4) rfl ?_
 refine' zq67
end Go.Proofs.YtckognjamlckcaaGreatDoor
