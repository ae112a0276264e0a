/-
  The document's act: ops that name no parts.
-/
import Derived.Test.YtckognjamlckcaaGreatDoorZz
import Derived.Test.YtckognjamlckcaaGreatDoorR24A
import Derived.Test.YtckognjamlckcaaGreatDoorLookA
set_option maxHeartbeats 8000000
set_option maxRecDepth 100000
namespace Go.Proofs.YtckognjamlckcaaGreatDoor
open Go.RowKit Vf Fo
attribute [local go_sem ↓] Go.wp_at_zero Go.wp_at_succ
theorem rowN4 (W:World) (o o' o'':Obj) (cs:Array Value) (t:TypeId):Row ((((W.alloc o).alloc o').alloc o'').alloc (.cells cs t)) (W.heap.size+1+1+1) cs t:=by
 have:=Row.new (((W.alloc o).alloc o').alloc o'') cs t
 rwa [World.size_alloc,World.size_alloc,World.size_alloc] at this
theorem two_rows {W W2:World} {c1 c2:Array Value} {t1 t2:TypeId} (h:(W.alloc (.cells c1 t1)).alloc (.cells c2 t2)=W2):Below W.heap.size W W2∧Row W2 W.heap.size c1 t1∧Row W2 (W.heap.size+1) c2 t2∧W.heap.size+1+1≤W2.heap.size:=by
 rw[←h]
 exact ⟨bE,(Row.new W _ _).alloc _,rowNew2 W _ _ _,by simp⟩
theorem four_rows {W W2:World} {c1 c2 c3 c4:Array Value} {t1 t2 t3 t4:TypeId} (h:(((W.alloc (.cells c1 t1)).alloc (.cells c2 t2)).alloc (.cells c3 t3)).alloc (.cells c4 t4)=W2):
  Below W.heap.size W W2∧Row W2 W.heap.size c1 t1∧Row W2 (W.heap.size+1) c2 t2∧Row W2 (W.heap.size+1+1) c3 t3∧Row W2 (W.heap.size+1+1+1) c4 t4:=by
 rw[←h]
 exact ⟨bE,(((Row.new W _ _).alloc _).alloc _).alloc _,((rowNew2 W _ _ _).alloc _).alloc _,(rowNew3 W _ _ _ _).alloc _,rowN4 W _ _ _ _ _⟩
theorem ract_1 {w:World} {f:Fm} {vw va vc vk vi vo:Value} (h:FmAt w w.heap.size f vw va vc vk vi vo) (op dst a b c k:Int) (hu:uses op=0) (hop:op=1) (hall:allW3 f a b c) (hd:isW f dst):
  Calls Tryz.prog 36 #[fmV vw va vc vk vi vo,acV ⟨op,dst,a,b,c,k⟩] w fun e w'=>e= .returned (.bool (cB (actOk f ⟨op,dst,a,b,c,k⟩)))∧Below w.heap.size w w':=by
 refine' zq30
 refine' zq3
 refine' zq0
 refine' zq81
 by_cases hT:tyOf f (md:Int)=1
 ·have eT:(tyOf f (md:Int)==1)=true:=by simpa using hT
  have HF:Hid (cB (actOk f ⟨1,(md:Int),(ma:Int),(mb:Int),(mc:Int),k⟩)=true):=cB_true ((act_iff1 rfl HALL.out).2 ⟨⟨HZa.out,HZb.out,HZc.out⟩,hT⟩)
  clear hT
  refine' zq168
 have eT:(tyOf f (md:Int)==1)=false:=by simpa using hT
 have HF:Hid (cB (actOk f ⟨1,(md:Int),(ma:Int),(mb:Int),(mc:Int),k⟩)=false):=cB_false (fun g=>hT ((act_iff1 rfl HALL.out).1 g).2)
 clear hT
 refine' zq168
theorem ract_2 {w:World} {f:Fm} {vw va vc vk vi vo:Value} (h:FmAt w w.heap.size f vw va vc vk vi vo) (op dst a b c k:Int) (hu:uses op=0) (hop:op=2) (hall:allW3 f a b c) (hd:isW f dst):
  Calls Tryz.prog 36 #[fmV vw va vc vk vi vo,acV ⟨op,dst,a,b,c,k⟩] w fun e w'=>e= .returned (.bool (cB (actOk f ⟨op,dst,a,b,c,k⟩)))∧Below w.heap.size w w':=by
 refine' zq30
 refine' zq3
 refine' zq0
 refine' zq81
 by_cases hT:tyOf f (md:Int)=2
 rotate_left 1
 ·have eT:(tyOf f (md:Int)==2)=false:=by simpa using hT
  have HF:Hid (cB (actOk f ⟨2,(md:Int),(ma:Int),(mb:Int),(mc:Int),k⟩)=false):=cB_false (fun g=>hT ((act_iff2 rfl HALL.out).1 g).2.1)
  clear hT
  refine' zq168
 have eT:(tyOf f (md:Int)==2)=true:=by simpa using hT
 by_cases h1:0≤k
 rotate_left 1
 ·have e1:decide (0≤k)=false:=decide_eq_false h1
  refine' zq309
 have e1:decide (0≤k)=true:=decide_eq_true h1
 by_cases h2:k≤1
 ·have e2:decide (k≤1)=true:=decide_eq_true h2
  have HF:Hid (cB (actOk f ⟨2,(md:Int),(ma:Int),(mb:Int),(mc:Int),k⟩)=true):=cB_true ((act_iff2 rfl HALL.out).2 ⟨⟨HZa.out,HZb.out,HZc.out⟩,hT,(by unfold valueOk;omega)⟩)
  clear hT
  refine' zq168
 have e2:decide (k≤1)=false:=decide_eq_false h2
 refine' zq309
end Go.Proofs.YtckognjamlckcaaGreatDoor
