/-
  The document's act: ops that name some parts. The document's act: ops that name some parts. The document's act: ops that name some parts.
-/
import Derived.Test.YtckognjamlckcaaGreatDoorR24C0
set_option maxHeartbeats 8000000
set_option maxRecDepth 100000
namespace Go.Proofs.YtckognjamlckcaaGreatDoor
open Go.RowKit Vf Fo
attribute [local go_sem ↓] Go.wp_at_zero Go.wp_at_succ
theorem Bm {w:World} {f:Fm} {vw va vc vk vi vo:Value} (h:bQ w w.heap.size f vw va vc vk vi vo) (op dst a b c k:Int) (hu:bl op=3) (hop:op=27) (hall:cm f a b c) (hd:ak f dst):
  Calls Tryz.prog 36 #[dp vw va vc vk vi vo,fT ⟨op,dst,a,b,c,k⟩] w fun e w'=>e= .returned (.bool (cB (au f ⟨op,dst,a,b,c,k⟩)))/\Below w.heap.size w w':=by
 refine' zq27
 refine' zq3
 refine' zq0
 refine' zq20
 refine' zq47
 have hop:=HOP.o
 subst hop
 refine' zq80
 refine' zq133
 have HGC:Hid (∀(n:Nat) (V:Bool) (hV:cB (aa f (md:Int)=aa f (mc:Int))=V),Calls Tryz.prog 31 #[.slice Agd (aa f (md:Int)).length cgd,.slice Agc (aa f (mc:Int)).length cgc] (w5.drewN n) fun e w'=>e= .returned (.bool V)/\∃m,w'=(w5.drewN n).drewN m):=fun n V hV=>by
  have:=da _ _ _ _ _ (w5.drewN n) SVd SVc
  rw[hV] at this
  exact this
 clear HGda SVd SVa SVb SVc
 by_cases hC:aa f (md:Int)=aa f (ma:Int)
 rotate_left 1
 ·have HF:Hid (cB (au f ⟨27,(md:Int),(ma:Int),(mb:Int),(mc:Int),k⟩)=false):=ab (fun g=>hC ((er rfl HALL.o).1 g).2.1.1)
  have HV:=zH (HGA.o false (ab hC))
  clear hC
  refine' zq134
 refine' zq263
 clear hC
 by_cases hC:aa f (md:Int)=aa f (mb:Int)
 rotate_left 1
 ·have HF:Hid (cB (au f ⟨27,(md:Int),(ma:Int),(mb:Int),(mc:Int),k⟩)=false):=ab (fun g=>hC ((er rfl HALL.o).1 g).2.1.2.1)
  refine' zq229
 have HC2:=zH hC
 have HV2:=zH (fun n=>HGB.o n true (aq hC))
 clear hC
 by_cases hC:aa f (md:Int)=aa f (mc:Int)
 rotate_left 1
 ·have HF:Hid (cB (au f ⟨27,(md:Int),(ma:Int),(mb:Int),(mc:Int),k⟩)=false):=ab (fun g=>hC ((er rfl HALL.o).1 g).2.1.2.2)
  have HV3:=zH (fun n=>HGC.o n false (ab hC))
  clear hC
  refine' zq38
  refine' zq52
 have HC3:=zH hC
 have HV3:=zH (fun n=>HGC.o n true (aq hC))
 clear hC
 by_cases hA:ag f (ma:Int)=2
 rotate_left 1
 ·have ehA:(ag f (ma:Int)==2)=false:=by simpa using hA
  have HF:Hid (cB (au f ⟨27,(md:Int),(ma:Int),(mb:Int),(mc:Int),k⟩)=false):=ab (fun g=>hA ((er rfl HALL.o).1 g).2.2.1)
  clear hA
  refine' zq38
  refine' zq52
 have ehA:(ag f (ma:Int)==2)=true:=by simpa using hA
 have HhA:=zH hA
 clear hA
 by_cases hB:ag f (mb:Int)=ag f (mc:Int)
 rotate_left 1
 ·have ehB:(ag f (mb:Int)==ag f (mc:Int))=false:=by simpa using hB
  have HF:Hid (cB (au f ⟨27,(md:Int),(ma:Int),(mb:Int),(mc:Int),k⟩)=false):=ab (fun g=>hB ((er rfl HALL.o).1 g).2.2.2.1)
  clear hB
  refine' zq38
  refine' zq52
 have ehB:(ag f (mb:Int)==ag f (mc:Int))=true:=by simpa using hB
 have HhB:=zH hB
 clear hB
 by_cases hD:ag f (md:Int)=ag f (mb:Int)
 rotate_left 1
 ·have ehD:(ag f (md:Int)==ag f (mb:Int))=false:=by simpa using hD
  have HF:Hid (cB (au f ⟨27,(md:Int),(ma:Int),(mb:Int),(mc:Int),k⟩)=false):=ab (fun g=>hD ((er rfl HALL.o).1 g).2.2.2.2)
  clear hD
  refine' zq38
  refine' zq52
 have ehD:(ag f (md:Int)==ag f (mb:Int))=true:=by simpa using hD
 have HF:Hid (cB (au f ⟨27,(md:Int),(ma:Int),(mb:Int),(mc:Int),k⟩)=true):=aq ((er rfl HALL.o).2 ⟨HZk.o,⟨HC.o,HC2.o,HC3.o⟩,HhA.o,HhB.o,hD⟩)
 clear hD
 refine' zq38
 refine' zq52
theorem Cj {w:World} {f:Fm} {vw va vc vk vi vo:Value} (h:bQ w w.heap.size f vw va vc vk vi vo) (op dst a b c k:Int) (hu:bl op=1) (hop:op=24) (hall:cm f a b c) (hd:ak f dst):
  Calls Tryz.prog 36 #[dp vw va vc vk vi vo,fT ⟨op,dst,a,b,c,k⟩] w fun e w'=>e= .returned (.bool (cB (au f ⟨op,dst,a,b,c,k⟩)))/\Below w.heap.size w w':=by
 refine' zq27
 refine' zq3
 refine' zq0
 refine' zq8
 clear hz
 refine' zq20
 have hop:=HOP.o
 subst hop
 have HIFF:=zH (oQ (f:=f) (op:=24) (dst:=(md:Int)) (a:=(ma:Int)) (b:=(mb:Int)) (c:=(mc:Int)) (k:=k) rfl HALL.o)
 have HGW:Hid (∀W (L:Nat) (V:Bool),Below w5.heap.size w5 W->L<=(aa f (md:Int)).length->0<(aa f (md:Int)).length->cB ((aa f (md:Int)).take L=aa f (ma:Int))=V->Calls Tryz.prog 31 #[.slice Agd L cgd,.slice Aga (aa f (ma:Int)).length cga] W fun e w'=>e= .returned (.bool V)/\∃n,w'=W.drewN n):=fun W L V hW hL h0 hV=>by
  have q:=HSG.o W (HBW.o _ (b5.trans (hW.mono hs5)))
  have s1:aI W w.heap.size 2 aW (.slice Agd L cgd) ((aa f (md:Int)).take L):=by
   obtain ⟨bb,oo,rfl,_,_⟩:=q.1 h0
   exact ij q.1 lgd mgd hL
  have:=da _ _ _ _ _ W s1 (⟨Aga,cga,rfl,lga,mga,q.2.1⟩:aI W w.heap.size 2 aW (.slice Aga (aa f (ma:Int)).length cga) (aa f (ma:Int)))
  rw[hV] at this
  exact this
 have HS:Hid (∀W,Below w5.heap.size w5 W->W.cell? ⟨g6,0,none⟩=some (.int .i64 (ag f (md:Int)))/\W.cell? ⟨g6,1,none⟩=some (.slice Agd (aa f (md:Int)).length cgd)/\W.cell? ⟨g6+1,0,none⟩=some (.int .i64 (ag f (ma:Int)))/\W.cell? ⟨g6+1,1,none⟩=some (.slice Aga (aa f (ma:Int)).length cga)):=fun W hW=>⟨(HR.o W hW).1.1,(HR.o W hW).1.2,(HR.o W hW).2.1.1,(HR.o W hW).2.1.2⟩
 generalize hcd:aa f (md:Int)=cd at*
 have HCD:=zH hcd
 clear hcd
 generalize hln:cd.length=len at*
 have HLN:=zH hln
 clear hln
 go_upto_region 18 with (fail)
 rcases len with _|L
 ·have HF:Hid (cB (au f ⟨24,(md:Int),(ma:Int),(mb:Int),(mc:Int),k⟩)=false):=ab (fun g=>by
   obtain ⟨q,hq⟩:=(HIFF.o.1 g).2.1
   have h1:=HLN.o
   rw[hq] at h1
   simp at h1)
  refine wp_region_held_drew (S:=fun W=>W.cell? ⟨g6,0,none⟩=some (.int .i64 (ag f (md:Int)))/\W.cell? ⟨g6,1,none⟩=some (.slice Agd 0 cgd)/\W.cell? ⟨g6+1,0,none⟩=some (.int .i64 (ag f (ma:Int)))/\W.cell? ⟨g6+1,1,none⟩=some (.slice Aga (aa f (ma:Int)).length cga)) (by kernel_rfl) ?_ (fun hHeld=>?_)
  ·refine' zq21
  refine tk 0 (some 167) rfl ?_
  refine tk 1 (some 168) rfl ?_
  refine tk 2 (some 169) rfl ?_
  refine sk 3 (some 170) rfl ?_
  refine sk 4 (some 171) rfl ?_
  refine sk 5 (some 172) rfl ?_
  refine sk 6 (some 173) rfl ?_
  refine sk 7 (some 174) rfl ?_
  refine sk 8 (some 175) rfl ?_
  refine sk 9 (some 176) rfl ?_
  refine tk 10 (some 177) rfl ?_
  refine tk 11 (some 178) rfl ?_
  refine' zq244
 have hLc:L<=cgd:=by omega
 have HEQ:Hid ((∃g,cd=aa f (ma:Int)++ [g])↔cd.take L=aa f (ma:Int)):=by
  have h1:=HLN.o
  constructor
  ·rintro ⟨g,hg⟩
   have h2:(aa f (ma:Int)).length=L:=by rw[hg] at h1;simpa using h1
   rw[hg,<-h2,List.take_left]
  ·intro hg
   refine ⟨cd[L]'(by omega),?_⟩
   rw[<-hg]
   have:=List.take_add_one (l:=cd) (i:=L)
   rw[List.getElem?_eq_getElem (show L<cd.length by omega),List.take_of_length_le (by omega)] at this
   exact this
 by_cases hC:cd.take L=aa f (ma:Int)
 rotate_left 1
 ·have HF:Hid (cB (au f ⟨24,(md:Int),(ma:Int),(mb:Int),(mc:Int),k⟩)=false):=ab (fun g=>hC (HEQ.o.1 (HIFF.o.1 g).2.1))
  have HV:=zH (fun W (hW:Below w5.heap.size w5 W)=>HGW.o W L false hW (by omega) (by omega) (ab hC))
  clear hC
  refine' zq34
  refine' zq244
 have HV:=zH (fun W (hW:Below w5.heap.size w5 W)=>HGW.o W L true hW (by omega) (by omega) (aq hC))
 have HC:=zH (HEQ.o.2 hC)
 clear hC
 by_cases hT:ag f (md:Int)=ag f (ma:Int)
 ·have eT:(ag f (md:Int)==ag f (ma:Int))=true:=by simpa using hT
  have HF:Hid (cB (au f ⟨24,(md:Int),(ma:Int),(mb:Int),(mc:Int),k⟩)=true):=aq (HIFF.o.2 ⟨⟨HZb.o,HZc.o,HZk.o⟩,HC.o,hT⟩)
  refine' zq221
 have eT:(ag f (md:Int)==ag f (ma:Int))=false:=by simpa using hT
 have HF:Hid (cB (au f ⟨24,(md:Int),(ma:Int),(mb:Int),(mc:Int),k⟩)=false):=ab (fun g=>hT (HIFF.o.1 g).2.2)
 refine' zq221
theorem yL {w:World} {f:Fm} {vw va vc vk vi vo:Value} (h:bQ w w.heap.size f vw va vc vk vi vo) (op dst a b c k:Int) (hu:bl op=3) (hop:op=26) (hall:cm f a b c) (hd:ak f dst) (hno:¬(aa f dst=aa f a/\ag f a=2/\ag f dst=ag f b/\ag f dst=ag f c)) (wx:eP ⟨op,dst,a,b,c,k⟩) (hcl:(aa f dst).length<=1600):
  Calls Tryz.prog 36 #[dp vw va vc vk vi vo,fT ⟨op,dst,a,b,c,k⟩] w fun e w'=>e= .returned (.bool (cB (au f ⟨op,dst,a,b,c,k⟩)))/\Below w.heap.size w w':=by
 refine' zq27
 have HNO:=zH hno
 clear hno
 refine' zq160
 by_cases hC:aa f (md:Int)=aa f (ma:Int)
 rotate_left 1
 ·have HF:Hid (cB (au f ⟨26,(md:Int),(ma:Int),(mb:Int),(mc:Int),k⟩)=false):=ab (fun g=>hC (HIFF.o.1 g).2.2.1)
  have HV:=zH (HGA.o false (ab hC))
  clear hC
  refine' zq134
 refine' zq5
 by_cases hA:ag f (ma:Int)=2
 rotate_left 1
 ·have ehA:(ag f (ma:Int)==2)=false:=by simpa using hA
  have HF:Hid (cB (au f ⟨26,(md:Int),(ma:Int),(mb:Int),(mc:Int),k⟩)=false):=ab (fun g=>hA (HIFF.o.1 g).2.1)
  clear hA
  refine' zq11
  refine sk 4 (some 198) rfl ?_
  refine sk 5 (some 199) rfl ?_
  refine sk 6 (some 200) rfl ?_
  refine sk 7 (some 201) rfl ?_
  refine sk 8 (some 202) rfl ?_
  refine tk 9 (some 203) rfl ?_
  refine tk 10 (some 204) rfl ?_
  refine sk 11 (some 205) rfl ?_
  refine sk 12 (some 206) rfl ?_
  refine sk 13 (some 207) rfl ?_
  refine sk 14 (some 208) rfl ?_
  refine sk 15 (some 209) rfl ?_
  refine' zq36
 have ehA:(ag f (ma:Int)==2)=true:=by simpa using hA
 have HhA:=zH hA
 clear hA
 by_cases hB:ag f (md:Int)=ag f (mb:Int)
 rotate_left 1
 ·have ehB:(ag f (md:Int)==ag f (mb:Int))=false:=by simpa using hB
  have HF:Hid (cB (au f ⟨26,(md:Int),(ma:Int),(mb:Int),(mc:Int),k⟩)=false):=ab (fun g=>hB (HIFF.o.1 g).2.2.2.1)
  clear hB
  refine' zq128
  refine sk 11 (some 205) rfl ?_
  refine sk 12 (some 206) rfl ?_
  refine sk 13 (some 207) rfl ?_
  refine sk 14 (some 208) rfl ?_
  refine sk 15 (some 209) rfl ?_
  refine' zq36
 have ehB:(ag f (md:Int)==ag f (mb:Int))=true:=by simpa using hB
 have HhB:=zH hB
 clear hB
 by_cases hD:ag f (md:Int)=ag f (mc:Int)
 rotate_left 1
 ·have ehD:(ag f (md:Int)==ag f (mc:Int))=false:=by simpa using hD
  have HF:Hid (cB (au f ⟨26,(md:Int),(ma:Int),(mb:Int),(mc:Int),k⟩)=false):=ab (fun g=>hD (HIFF.o.1 g).2.2.2.2.1)
  clear hD
  refine' zq310
  refine' zq36
 have ehD:(ag f (md:Int)==ag f (mc:Int))=true:=by simpa using hD
 have HhD:=zH hD
 clear hD
 exact absurd ⟨HC.o,HhA.o,HhB.o,HhD.o⟩ HNO.o
end Go.Proofs.YtckognjamlckcaaGreatDoor
