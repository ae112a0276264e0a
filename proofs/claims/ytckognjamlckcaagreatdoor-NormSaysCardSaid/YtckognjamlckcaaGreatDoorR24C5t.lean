/-
  The document's act: ops that name some parts. The document's act: ops that name some parts.
-/
import Derived.Test.YtckognjamlckcaaGreatDoorR24C0
set_option maxHeartbeats 8000000
set_option maxRecDepth 100000
namespace Go.Proofs.YtckognjamlckcaaGreatDoor
open Go.RowKit Vf Fo
attribute [local go_sem ↓] Go.wp_at_zero Go.wp_at_succ
theorem yV {w:World} {f:Fm} {vw va vc vk vi vo:Value} (h:bQ w w.heap.size f vw va vc vk vi vo) (op dst a b c k:Int) (hu:bl op=3) (hop:op=26) (hall:cm f a b c) (hd:ak f dst) (hg4:aa f dst=aa f a/\ag f a=2/\ag f dst=ag f b/\ag f dst=ag f c) (he0:¬(aa f b=aa f dst++ [⟨a,false⟩])) (wx:eP ⟨op,dst,a,b,c,k⟩) (hcl:(aa f dst).length<=1600):
  Calls Tryz.prog 36 #[dp vw va vc vk vi vo,fT ⟨op,dst,a,b,c,k⟩] w fun e w'=>e= .returned (.bool (cB (au f ⟨op,dst,a,b,c,k⟩)))/\Below w.heap.size w w':=by
 refine' zq76
 have HVB:=zH (ab hE)
 have HF:Hid (cB (au f ⟨26,(md:Int),(ma:Int),(mb:Int),(mc:Int),k⟩)=false):=ab (fun g=>hE (HIFF.o.1 g).2.2.2.2.2.1)
 clear hE
 refine' zq44
 refine' zq181
 refine' zq54
theorem zx {w:World} {f:Fm} {vw va vc vk vi vo:Value} (h:bQ w w.heap.size f vw va vc vk vi vo) (op dst a b c k:Int) (hu:bl op=3) (hop:op=26) (hall:cm f a b c) (hd:ak f dst) (hg4:aa f dst=aa f a/\ag f a=2/\ag f dst=ag f b/\ag f dst=ag f c) (he0:aa f b=aa f dst++ [⟨a,false⟩]) (wx:eP ⟨op,dst,a,b,c,k⟩) (hcl:(aa f dst).length<=1600):
  Calls Tryz.prog 36 #[dp vw va vc vk vi vo,fT ⟨op,dst,a,b,c,k⟩] w fun e w'=>e= .returned (.bool (cB (au f ⟨op,dst,a,b,c,k⟩)))/\Below w.heap.size w w':=by
 refine' zq76
 have HVB:=zH (aq hE)
 clear hE
 obtain ⟨V,HVC⟩:∃V:Bool,Hid (cB (aa f (mc:Int)=aa f (md:Int)++ [(⟨(ma:Int),true⟩:Gd)])=V):=⟨_,rfl⟩
 have HF:Hid (cB (au f ⟨26,(md:Int),(ma:Int),(mb:Int),(mc:Int),k⟩)=V):=by
  show _=_
  rw[<-HVC.o]
  exact bu ⟨fun g=>(HIFF.o.1 g).2.2.2.2.2.2,fun g=>HIFF.o.2 ⟨HZk.o,HG4.o.2.1,HG4.o.1,HG4.o.2.2.1,HG4.o.2.2.2,HE0.o,g⟩⟩
 refine' zq44
 refine tk 28 (some 222) rfl ?_
 refine tk 29 (some 223) rfl ?_
 refine tk 30 (some 224) rfl ?_
 refine tk 31 (some 225) rfl ?_
 refine tk 32 (some 226) rfl ?_
 refine tk 33 (some 227) rfl ?_
 refine aH 34 (some 228) rfl (fun KK hKK=>?_)
 refine' zq226
 refine aH 35 (some 229) rfl (fun KK hKK=>?_)
 refine' zq187
 refine tk 36 (some 230) rfl ?_
 refine tk 37 (some 4) rfl ?_
 refine' zq54
end Go.Proofs.YtckognjamlckcaaGreatDoor
