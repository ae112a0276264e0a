/-
  The document's act: ops that name some parts. The document's act: ops that name some parts. The document's act: ops that name some parts.
-/
import Derived.Test.YtckognjamlckcaaGreatDoorZz
import Derived.Test.YtckognjamlckcaaGreatDoorR24C0
import Derived.Test.YtckognjamlckcaaGreatDoorLookA
set_option maxHeartbeats 8000000
set_option maxRecDepth 100000
namespace Go.Proofs.YtckognjamlckcaaGreatDoor
open Go.RowKit Vf Fo
attribute [local go_sem ↓] Go.wp_at_zero Go.wp_at_succ
theorem ract_3 {w:World} {f:Fm} {vw va vc vk vi vo:Value} (h:FmAt w w.heap.size f vw va vc vk vi vo) (op dst a b c k:Int) (hu:uses op=1) (hop:op=3) (hall:allW3 f a b c) (hd:isW f dst):
  Calls Tryz.prog 36 #[fmV vw va vc vk vi vo,acV ⟨op,dst,a,b,c,k⟩] w fun e w'=>e= .returned (.bool (cB (actOk f ⟨op,dst,a,b,c,k⟩)))∧Below w.heap.size w w':=by
 refine' zq30
 refine' zq3
 refine' zq0
 refine' zq10
 clear hz
 refine' zq26
 refine' zq56
 have hop:=HOP.out
 subst hop
 refine' zq95
 have HGA:=Lib.hid HGda
 clear HGda SVd SVa SVb SVc
 by_cases hC:clockOf f (md:Int)=clockOf f (ma:Int)
 rotate_left 1
 ·have HF:Hid (cB (actOk f ⟨3,(md:Int),(ma:Int),(mb:Int),(mc:Int),k⟩)=false):=cB_false (fun g=>hC ((act_iff3 rfl HALL.out).1 g).2.1)
  have HV:=Lib.hid (HGA.out false (cB_false hC))
  clear hC
  refine' zq156
 refine' zq286
 clear hC
 by_cases hT:tyOf f (md:Int)=tyOf f (ma:Int)
 ·have eT:(tyOf f (md:Int)==tyOf f (ma:Int))=true:=by simpa using hT
  have HF:Hid (cB (actOk f ⟨3,(md:Int),(ma:Int),(mb:Int),(mc:Int),k⟩)=true):=cB_true ((act_iff3 rfl HALL.out).2 ⟨⟨HZb.out,HZc.out,HZk.out⟩,HC.out,hT⟩)
  clear hT
  refine' zq156
 have eT:(tyOf f (md:Int)==tyOf f (ma:Int))=false:=by simpa using hT
 have HF:Hid (cB (actOk f ⟨3,(md:Int),(ma:Int),(mb:Int),(mc:Int),k⟩)=false):=cB_false (fun g=>hT ((act_iff3 rfl HALL.out).1 g).2.2)
 clear hT
 refine' zq156
theorem ract_one {w:World} {f:Fm} {vw va vc vk vi vo:Value} (h:FmAt w w.heap.size f vw va vc vk vi vo) (op dst a b c k:Int) (hu:uses op=1) (hop:op=5∨op=6) (hall:allW3 f a b c) (hd:isW f dst):
  Calls Tryz.prog 36 #[fmV vw va vc vk vi vo,acV ⟨op,dst,a,b,c,k⟩] w fun e w'=>e= .returned (.bool (cB (actOk f ⟨op,dst,a,b,c,k⟩)))∧Below w.heap.size w w':=by
 refine' zq30
 refine' zq3
 refine' zq0
 refine' zq10
 clear hz
 refine' zq26
 refine' zq12
 have HGA:=Lib.hid HGda
 clear HGda SVd SVa SVb SVc
 refine' zq130
 have HSI:Hid (signIn op≠0):=by show _≠_;rcases HOP.out with rfl|rfl<;>decide
 refine' zq249
 have e0:(signIn op==0)=false:=by simpa using HSI.out
 by_cases hC:clockOf f (md:Int)=clockOf f (ma:Int)
 rotate_left 1
 ·have HF:Hid (cB (actOk f ⟨op,(md:Int),(ma:Int),(mb:Int),(mc:Int),k⟩)=false):=cB_false (fun g=>hC ((act_iffOne HOP.out HALL.out).1 g).2.2.2.1)
  have HV:=Lib.hid (HGA.out false (cB_false hC))
  clear hC HSGN
  refine' zq156
 refine' zq286
 clear hC
 have HSG2:=Lib.hid HSGN
 clear HSGN
 generalize hsi:signIn op=si at*
 generalize hso:signOut op=so at*
 have HSI2:=Lib.hid hsi
 have HSO2:=Lib.hid hso
 clear hsi hso
 by_cases hT:tyOf f (md:Int)=so
 rotate_left 1
 ·have eT:(tyOf f (md:Int)==so)=false:=by simpa using hT
  have HF:Hid (cB (actOk f ⟨op,(md:Int),(ma:Int),(mb:Int),(mc:Int),k⟩)=false):=cB_false (fun g=>hT (((act_iffOne HOP.out HALL.out).1 g).2.2.2.2.2.trans HSO2.out))
  clear hT
  refine' zq45
  refine' zq75
 have eT:(tyOf f (md:Int)==so)=true:=by simpa using hT
 by_cases hS:tyOf f (ma:Int)=si
 rotate_left 1
 ·have eS:(tyOf f (ma:Int)==si)=false:=by simpa using hS
  have HF:Hid (cB (actOk f ⟨op,(md:Int),(ma:Int),(mb:Int),(mc:Int),k⟩)=false):=cB_false (fun g=>hS (((act_iffOne HOP.out HALL.out).1 g).2.2.2.2.1.trans HSI2.out))
  clear hT hS
  refine' zq45
  refine' zq75
 have eS:(tyOf f (ma:Int)==si)=true:=by simpa using hS
 have HF:Hid (cB (actOk f ⟨op,(md:Int),(ma:Int),(mb:Int),(mc:Int),k⟩)=true):=cB_true ((act_iffOne HOP.out HALL.out).2 ⟨HZb.out,HZc.out,HZk.out,HC.out,hS.trans HSI2.out.symm,hT.trans HSO2.out.symm⟩)
 clear hT hS
 refine' zq45
 refine' zq75
theorem ract_two {w:World} {f:Fm} {vw va vc vk vi vo:Value} (h:FmAt w w.heap.size f vw va vc vk vi vo) (op dst a b c k:Int) (hu:uses op=2) (hop:7≤op∧op≤20) (hall:allW3 f a b c) (hd:isW f dst):
  Calls Tryz.prog 36 #[fmV vw va vc vk vi vo,acV ⟨op,dst,a,b,c,k⟩] w fun e w'=>e= .returned (.bool (cB (actOk f ⟨op,dst,a,b,c,k⟩)))∧Below w.heap.size w w':=by
 refine' zq30
 refine' zq3
 refine' zq0
 refine' zq162
 clear hz
 refine' zq26
 refine' zq12
 have HGdb:=fun (V:Bool) (hV:cB (clockOf f (md:Int)=clockOf f (mb:Int))=V)=>(show Calls Tryz.prog 31 #[.slice Agd (clockOf f (md:Int)).length cgd,.slice Agb (clockOf f (mb:Int)).length cgb] w5 fun e w'=>e= .returned (.bool V)∧∃n,w'=(w5).drewN n by
  have:=rguards_any _ _ _ _ _ w5 SVd SVb
  rw[hV] at this
  exact this)
 refine' zq155
 clear HGda HGdb SVd SVa SVb SVc
 refine' zq130
 refine' zq249
 by_cases hC:clockOf f (md:Int)=clockOf f (ma:Int)
 rotate_left 1
 ·have HF:Hid (cB (actOk f ⟨op,(md:Int),(ma:Int),(mb:Int),(mc:Int),k⟩)=false):=cB_false (fun g=>hC ((act_iffTwo HOP.out HALL.out).1 g).2.2.1.1)
  have HV:=Lib.hid (HGA.out false (cB_false hC))
  clear hC HSGN
  refine' zq156
 refine' zq286
 clear hC
 have HSG2:=Lib.hid HSGN
 clear HSGN
 by_cases hC:clockOf f (md:Int)=clockOf f (mb:Int)
 rotate_left 1
 ·have HF:Hid (cB (actOk f ⟨op,(md:Int),(ma:Int),(mb:Int),(mc:Int),k⟩)=false):=cB_false (fun g=>hC ((act_iffTwo HOP.out HALL.out).1 g).2.2.1.2)
  refine' zq255
 have HC2:=Lib.hid hC
 have HV2:=Lib.hid (fun n=>HGB.out n true (cB_true hC))
 clear hC
 generalize hsi:signIn op=si at*
 generalize hso:signOut op=so at*
 have HSI2:=Lib.hid hsi
 have HSO2:=Lib.hid hso
 clear hsi hso
 by_cases hT:tyOf f (md:Int)=so
 rotate_left 1
 ·have eT:(tyOf f (md:Int)==so)=false:=by simpa using hT
  have HF:Hid (cB (actOk f ⟨op,(md:Int),(ma:Int),(mb:Int),(mc:Int),k⟩)=false):=cB_false (fun g=>hT (((act_iffTwo HOP.out HALL.out).1 g).2.2.2.1.trans HSO2.out))
  clear hT
  refine' zq13
 have eT:(tyOf f (md:Int)==so)=true:=by simpa using hT
 by_cases hS:si=0∨tyOf f (ma:Int)=si
 rotate_left 1
 ·have eS0:(si==0)=false:=by rw[beq_eq_false_iff_ne];exact fun g=>hS (.inl g)
  have eS:(tyOf f (ma:Int)==si)=false:=by rw[beq_eq_false_iff_ne];exact fun g=>hS (.inr g)
  have HF:Hid (cB (actOk f ⟨op,(md:Int),(ma:Int),(mb:Int),(mc:Int),k⟩)=false):=cB_false (fun g=>hS (by have:=((act_iffTwo HOP.out HALL.out).1 g).2.2.2.2.2;rwa [HSI2.out] at this))
  clear hT hS
  refine' zq13
 by_cases hA:tyOf f (ma:Int)=tyOf f (mb:Int)
 rotate_left 1
 ·have eA:(tyOf f (ma:Int)==tyOf f (mb:Int))=false:=by simpa using hA
  have HF:Hid (cB (actOk f ⟨op,(md:Int),(ma:Int),(mb:Int),(mc:Int),k⟩)=false):=cB_false (fun g=>hA ((act_iffTwo HOP.out HALL.out).1 g).2.2.2.2.1)
  refine' zq254
 have eA:(tyOf f (ma:Int)==tyOf f (mb:Int))=true:=by simpa using hA
 have HF:Hid (cB (actOk f ⟨op,(md:Int),(ma:Int),(mb:Int),(mc:Int),k⟩)=true):=cB_true ((act_iffTwo HOP.out HALL.out).2 ⟨HZc.out,HZk.out,⟨HC.out,HC2.out⟩,hT.trans HSO2.out.symm,hA,by rw[HSI2.out];exact hS⟩)
 refine' zq254
end Go.Proofs.YtckognjamlckcaaGreatDoor
