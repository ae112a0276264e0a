/-
  The document's act: ops that name some parts. The document's act: ops that name some parts. The document's act: ops that name some parts.
-/
import Derived.Test.YtckognjamlckcaaGreatDoorR24C0
set_option maxHeartbeats 8000000
set_option maxRecDepth 100000
namespace Go.Proofs.YtckognjamlckcaaGreatDoor
open Go.RowKit Vf Fo
attribute [local go_sem ↓] Go.wp_at_zero Go.wp_at_succ
theorem CW {w:World} {f:Fm} {vw va vc vk vi vo:Value} (h:bQ w w.heap.size f vw va vc vk vi vo) (op dst a b c k:Int) (hu:bl op=1) (hop:op=3) (hall:cm f a b c) (hd:ak f dst):
  Calls Tryz.prog 36 #[dp vw va vc vk vi vo,fT ⟨op,dst,a,b,c,k⟩] w fun e w'=>e= .returned (.bool (cB (au f ⟨op,dst,a,b,c,k⟩)))/\Below w.heap.size w w':=by
 refine' zq27
 refine' zq3
 refine' zq0
 refine' zq8
 clear hz
 refine' zq20
 refine' zq47
 have hop:=HOP.o
 subst hop
 refine' zq80
 have HGA:=zH HGda
 clear HGda SVd SVa SVb SVc
 by_cases hC:aa f (md:Int)=aa f (ma:Int)
 rotate_left 1
 ·have HF:Hid (cB (au f ⟨3,(md:Int),(ma:Int),(mb:Int),(mc:Int),k⟩)=false):=ab (fun g=>hC ((ig rfl HALL.o).1 g).2.1)
  have HV:=zH (HGA.o false (ab hC))
  clear hC
  refine' zq134
 refine' zq263
 clear hC
 by_cases hT:ag f (md:Int)=ag f (ma:Int)
 ·have eT:(ag f (md:Int)==ag f (ma:Int))=true:=by simpa using hT
  have HF:Hid (cB (au f ⟨3,(md:Int),(ma:Int),(mb:Int),(mc:Int),k⟩)=true):=aq ((ig rfl HALL.o).2 ⟨⟨HZb.o,HZc.o,HZk.o⟩,HC.o,hT⟩)
  clear hT
  refine' zq134
 have eT:(ag f (md:Int)==ag f (ma:Int))=false:=by simpa using hT
 have HF:Hid (cB (au f ⟨3,(md:Int),(ma:Int),(mb:Int),(mc:Int),k⟩)=false):=ab (fun g=>hT ((ig rfl HALL.o).1 g).2.2)
 clear hT
 refine' zq134
theorem yX {w:World} {f:Fm} {vw va vc vk vi vo:Value} (h:bQ w w.heap.size f vw va vc vk vi vo) (op dst a b c k:Int) (hu:bl op=1) (hop:op=5\/op=6) (hall:cm f a b c) (hd:ak f dst):
  Calls Tryz.prog 36 #[dp vw va vc vk vi vo,fT ⟨op,dst,a,b,c,k⟩] w fun e w'=>e= .returned (.bool (cB (au f ⟨op,dst,a,b,c,k⟩)))/\Below w.heap.size w w':=by
 refine' zq27
 refine' zq3
 refine' zq0
 refine' zq8
 clear hz
 refine' zq20
 refine' zq9
 have HGA:=zH HGda
 clear HGda SVd SVa SVb SVc
 refine' zq108
 have HSI:Hid (signIn op≠0):=by show _≠_;rcases HOP.o with rfl|rfl<;>decide
 refine' zq223
 have e0:(signIn op==0)=false:=by simpa using HSI.o
 by_cases hC:aa f (md:Int)=aa f (ma:Int)
 rotate_left 1
 ·have HF:Hid (cB (au f ⟨op,(md:Int),(ma:Int),(mb:Int),(mc:Int),k⟩)=false):=ab (fun g=>hC ((gN HOP.o HALL.o).1 g).2.2.2.1)
  have HV:=zH (HGA.o false (ab hC))
  clear hC HSGN
  refine' zq134
 refine' zq263
 clear hC
 have HSG2:=zH HSGN
 clear HSGN
 generalize hsi:signIn op=si at*
 generalize hso:signOut op=so at*
 have HSI2:=zH hsi
 have HSO2:=zH hso
 clear hsi hso
 by_cases hT:ag f (md:Int)=so
 rotate_left 1
 ·have eT:(ag f (md:Int)==so)=false:=by simpa using hT
  have HF:Hid (cB (au f ⟨op,(md:Int),(ma:Int),(mb:Int),(mc:Int),k⟩)=false):=ab (fun g=>hT (((gN HOP.o HALL.o).1 g).2.2.2.2.2.trans HSO2.o))
  clear hT
  refine' zq38
  refine' zq60
 have eT:(ag f (md:Int)==so)=true:=by simpa using hT
 by_cases hS:ag f (ma:Int)=si
 rotate_left 1
 ·have eS:(ag f (ma:Int)==si)=false:=by simpa using hS
  have HF:Hid (cB (au f ⟨op,(md:Int),(ma:Int),(mb:Int),(mc:Int),k⟩)=false):=ab (fun g=>hS (((gN HOP.o HALL.o).1 g).2.2.2.2.1.trans HSI2.o))
  clear hT hS
  refine' zq38
  refine' zq60
 have eS:(ag f (ma:Int)==si)=true:=by simpa using hS
 have HF:Hid (cB (au f ⟨op,(md:Int),(ma:Int),(mb:Int),(mc:Int),k⟩)=true):=aq ((gN HOP.o HALL.o).2 ⟨HZb.o,HZc.o,HZk.o,HC.o,hS.trans HSI2.o.symm,hT.trans HSO2.o.symm⟩)
 clear hT hS
 refine' zq38
 refine' zq60
theorem zW {w:World} {f:Fm} {vw va vc vk vi vo:Value} (h:bQ w w.heap.size f vw va vc vk vi vo) (op dst a b c k:Int) (hu:bl op=2) (hop:7<=op/\op<=20) (hall:cm f a b c) (hd:ak f dst):
  Calls Tryz.prog 36 #[dp vw va vc vk vi vo,fT ⟨op,dst,a,b,c,k⟩] w fun e w'=>e= .returned (.bool (cB (au f ⟨op,dst,a,b,c,k⟩)))/\Below w.heap.size w w':=by
 refine' zq27
 refine' zq3
 refine' zq0
 refine' zq140
 clear hz
 refine' zq20
 refine' zq9
 have HGdb:=fun (V:Bool) (hV:cB (aa f (md:Int)=aa f (mb:Int))=V)=>(show Calls Tryz.prog 31 #[.slice Agd (aa f (md:Int)).length cgd,.slice Agb (aa f (mb:Int)).length cgb] w5 fun e w'=>e= .returned (.bool V)/\∃n,w'=(w5).drewN n by
  have:=da _ _ _ _ _ w5 SVd SVb
  rw[hV] at this
  exact this)
 refine' zq133
 clear HGda HGdb SVd SVa SVb SVc
 refine' zq108
 refine' zq223
 by_cases hC:aa f (md:Int)=aa f (ma:Int)
 rotate_left 1
 ·have HF:Hid (cB (au f ⟨op,(md:Int),(ma:Int),(mb:Int),(mc:Int),k⟩)=false):=ab (fun g=>hC ((fi HOP.o HALL.o).1 g).2.2.1.1)
  have HV:=zH (HGA.o false (ab hC))
  clear hC HSGN
  refine' zq134
 refine' zq263
 clear hC
 have HSG2:=zH HSGN
 clear HSGN
 by_cases hC:aa f (md:Int)=aa f (mb:Int)
 rotate_left 1
 ·have HF:Hid (cB (au f ⟨op,(md:Int),(ma:Int),(mb:Int),(mc:Int),k⟩)=false):=ab (fun g=>hC ((fi HOP.o HALL.o).1 g).2.2.1.2)
  refine' zq229
 have HC2:=zH hC
 have HV2:=zH (fun n=>HGB.o n true (aq hC))
 clear hC
 generalize hsi:signIn op=si at*
 generalize hso:signOut op=so at*
 have HSI2:=zH hsi
 have HSO2:=zH hso
 clear hsi hso
 by_cases hT:ag f (md:Int)=so
 rotate_left 1
 ·have eT:(ag f (md:Int)==so)=false:=by simpa using hT
  have HF:Hid (cB (au f ⟨op,(md:Int),(ma:Int),(mb:Int),(mc:Int),k⟩)=false):=ab (fun g=>hT (((fi HOP.o HALL.o).1 g).2.2.2.1.trans HSO2.o))
  clear hT
  refine' zq10
 have eT:(ag f (md:Int)==so)=true:=by simpa using hT
 by_cases hS:si=0\/ag f (ma:Int)=si
 rotate_left 1
 ·have eS0:(si==0)=false:=by rw[beq_eq_false_iff_ne];exact fun g=>hS (.inl g)
  have eS:(ag f (ma:Int)==si)=false:=by rw[beq_eq_false_iff_ne];exact fun g=>hS (.inr g)
  have HF:Hid (cB (au f ⟨op,(md:Int),(ma:Int),(mb:Int),(mc:Int),k⟩)=false):=ab (fun g=>hS (by have:=((fi HOP.o HALL.o).1 g).2.2.2.2.2;rwa [HSI2.o] at this))
  clear hT hS
  refine' zq10
 by_cases hA:ag f (ma:Int)=ag f (mb:Int)
 rotate_left 1
 ·have eA:(ag f (ma:Int)==ag f (mb:Int))=false:=by simpa using hA
  have HF:Hid (cB (au f ⟨op,(md:Int),(ma:Int),(mb:Int),(mc:Int),k⟩)=false):=ab (fun g=>hA ((fi HOP.o HALL.o).1 g).2.2.2.2.1)
  refine' zq228
 have eA:(ag f (ma:Int)==ag f (mb:Int))=true:=by simpa using hA
 have HF:Hid (cB (au f ⟨op,(md:Int),(ma:Int),(mb:Int),(mc:Int),k⟩)=true):=aq ((fi HOP.o HALL.o).2 ⟨HZc.o,HZk.o,⟨HC.o,HC2.o⟩,hT.trans HSO2.o.symm,hA,by rw[HSI2.o];exact hS⟩)
 refine' zq228
end Go.Proofs.YtckognjamlckcaaGreatDoor
