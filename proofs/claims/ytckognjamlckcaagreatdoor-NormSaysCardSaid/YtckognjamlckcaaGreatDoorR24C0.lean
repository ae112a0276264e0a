/-
  The document's act: ops that name no parts.
-/
import Derived.Test.YtckognjamlckcaaGreatDoorR24A
set_option maxHeartbeats 8000000
set_option maxRecDepth 100000
namespace Go.Proofs.YtckognjamlckcaaGreatDoor
open Go.RowKit Vf Fo
attribute [local go_sem ↓] Go.wp_at_zero Go.wp_at_succ
theorem AV (W:World) (o o' o'':Obj) (cs:Array Value) (t:TypeId):ai ((((W.alloc o).alloc o').alloc o'').alloc (.cells cs t)) (W.heap.size+1+1+1) cs t:=by
 have:=ai.new (((W.alloc o).alloc o').alloc o'') cs t
 rwa [World.size_alloc,World.size_alloc,World.size_alloc] at this
theorem yA {W W2:World} {c1 c2:Array Value} {t1 t2:TypeId} (h:(W.alloc (.cells c1 t1)).alloc (.cells c2 t2)=W2):Below W.heap.size W W2/\ai W2 W.heap.size c1 t1/\ai W2 (W.heap.size+1) c2 t2/\W.heap.size+1+1<=W2.heap.size:=by
 rw[<-h]
 exact ⟨bE,(ai.new W _ _).alloc _,dw W _ _ _,by simp⟩
theorem xr {W W2:World} {c1 c2 c3 c4:Array Value} {t1 t2 t3 t4:TypeId} (h:(((W.alloc (.cells c1 t1)).alloc (.cells c2 t2)).alloc (.cells c3 t3)).alloc (.cells c4 t4)=W2):
  Below W.heap.size W W2/\ai W2 W.heap.size c1 t1/\ai W2 (W.heap.size+1) c2 t2/\ai W2 (W.heap.size+1+1) c3 t3/\ai W2 (W.heap.size+1+1+1) c4 t4:=by
 rw[<-h]
 exact ⟨bE,(((ai.new W _ _).alloc _).alloc _).alloc _,((dw W _ _ _).alloc _).alloc _,(tB W _ _ _ _).alloc _,AV W _ _ _ _ _⟩
theorem Dm {w:World} {f:Fm} {vw va vc vk vi vo:Value} (h:bQ w w.heap.size f vw va vc vk vi vo) (op dst a b c k:Int) (hu:bl op=0) (hop:op=1) (hall:cm f a b c) (hd:ak f dst):
  Calls Tryz.prog 36 #[dp vw va vc vk vi vo,fT ⟨op,dst,a,b,c,k⟩] w fun e w'=>e= .returned (.bool (cB (au f ⟨op,dst,a,b,c,k⟩)))/\Below w.heap.size w w':=by
 refine' zq27
 refine' zq3
 refine' zq0
 refine' zq65
 by_cases hT:ag f (md:Int)=1
 ·have eT:(ag f (md:Int)==1)=true:=by simpa using hT
  have HF:Hid (cB (au f ⟨1,(md:Int),(ma:Int),(mb:Int),(mc:Int),k⟩)=true):=aq ((jo rfl HALL.o).2 ⟨⟨HZa.o,HZb.o,HZc.o⟩,hT⟩)
  clear hT
  refine' zq149
 have eT:(ag f (md:Int)==1)=false:=by simpa using hT
 have HF:Hid (cB (au f ⟨1,(md:Int),(ma:Int),(mb:Int),(mc:Int),k⟩)=false):=ab (fun g=>hT ((jo rfl HALL.o).1 g).2)
 clear hT
 refine' zq149
theorem CM {w:World} {f:Fm} {vw va vc vk vi vo:Value} (h:bQ w w.heap.size f vw va vc vk vi vo) (op dst a b c k:Int) (hu:bl op=0) (hop:op=2) (hall:cm f a b c) (hd:ak f dst):
  Calls Tryz.prog 36 #[dp vw va vc vk vi vo,fT ⟨op,dst,a,b,c,k⟩] w fun e w'=>e= .returned (.bool (cB (au f ⟨op,dst,a,b,c,k⟩)))/\Below w.heap.size w w':=by
 refine' zq27
 refine' zq3
 refine' zq0
 refine' zq65
 by_cases hT:ag f (md:Int)=2
 rotate_left 1
 ·have eT:(ag f (md:Int)==2)=false:=by simpa using hT
  have HF:Hid (cB (au f ⟨2,(md:Int),(ma:Int),(mb:Int),(mc:Int),k⟩)=false):=ab (fun g=>hT ((ic rfl HALL.o).1 g).2.1)
  clear hT
  refine' zq149
 have eT:(ag f (md:Int)==2)=true:=by simpa using hT
 by_cases h1:0<=k
 rotate_left 1
 ·have e1:decide (0<=k)=false:=decide_eq_false h1
  refine' zq283
 have e1:decide (0<=k)=true:=decide_eq_true h1
 by_cases h2:k<=1
 ·have e2:decide (k<=1)=true:=decide_eq_true h2
  have HF:Hid (cB (au f ⟨2,(md:Int),(ma:Int),(mb:Int),(mc:Int),k⟩)=true):=aq ((ic rfl HALL.o).2 ⟨⟨HZa.o,HZb.o,HZc.o⟩,hT,(by unfold bN;omega)⟩)
  clear hT
  refine' zq149
 have e2:decide (k<=1)=false:=decide_eq_false h2
 refine' zq283
end Go.Proofs.YtckognjamlckcaaGreatDoor
