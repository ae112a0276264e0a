/-
  norm's looker: act, what was. norm.Right order: what is there; whether an act is ready. order: acts cloned; one of them struck out. order.Ordered
-/
import Derived.Test.YtckognjamlckcaaGreatDoorNormKc
set_option maxHeartbeats 2000000
set_option maxRecDepth 100000
namespace Go.Proofs.YtckognjamlckcaaGreatDoor
open Go.RowKit Vf Fo
attribute [local go_sem ↓] Go.wp_at_zero Go.wp_at_succ
section
variable {w:World} {B L:Nat} {f:Fm} {vw va vc vk vi vo vb ve:Value}
theorem BL (h:bI w B L f vw va vc vk vi vo vb ve) (hB:B<=w.heap.size) (op dst a b c k:Int) (wx:eP ⟨op,dst,a,b,c,k⟩) (hd:ak f dst) (hop:op=21) (hall:cm f a b c) {K:Nat} {ks:List Int} (hve:ve= .slice (some ⟨K,0,none⟩) f.cells.length f.cells.length) (hK:tR w L K ks) (hkl:ks.length=f.cells.length) (hkk:∀c:Nat,c<f.cells.length->ao ks c=(kept f c).getD (-1)) (hcok:du f):
  Calls Tryz.prog 28 #[.pointer (some ⟨L,0,none⟩),.agg #[.int .i64 op,.int .i64 dst,.int .i64 a,.int .i64 b,.int .i64 c,.int .i64 k]] w fun e w'=>e= .returned (.bool (cB (au f ⟨op,dst,a,b,c,k⟩)))/\Below w.heap.size w w':=by
 refine' zq143
 have HIFF:=zH (iB (dst:=dst) (k:=k) hop hall)
 refine' zq110
 have o2:(op==2)=false:=by rw[beq_eq_false_iff_ne];omega
 have o3:(op==3)=false:=by rw[beq_eq_false_iff_ne];omega
 have o27:(op==27)=false:=by rw[beq_eq_false_iff_ne];omega
 have o24:(op==24)=false:=by rw[beq_eq_false_iff_ne];omega
 have o26:(op==26)=false:=by rw[beq_eq_false_iff_ne];omega
 have o21:(op==21)=true:=by rw[beq_iff_eq];omega
 subst hve
 have HKR:=zH hK.row
 have HKL:=zH hkl
 have HKK:=zH hkk
 have HCO:=zH hcok
 clear hop hK hkl hkk hcok
 obtain ⟨Ac,cc,hvc,lc,mc,_⟩:=HH.o.fm.cells
 subst hvc
 refine' zq220
 by_cases h0:a=0/\b=0/\c=0
 rotate_left 1
 ·have HF:=zH (ab (show ¬au f ⟨op,dst,a,b,c,k⟩ from fun g=>h0 (HIFF.o.1 g).1))
  generalize cB (au f ⟨op,dst,a,b,c,k⟩)=R at*
  rcases (by omega:a≠0\/(a=0/\b≠0)\/(a=0/\b=0/\c≠0)) with hz|⟨hz0,hz⟩|⟨hz0,hz1,hz⟩
  ·refine' zq30
   refine' zq105
  ·subst hz0
   have bX:=ai.new w #[.int .i64 op,.int .i64 dst,.int .i64 0,.int .i64 b,.int .i64 c,.int .i64 k] 58
   have b1:Below w.heap.size w (w.alloc (.cells #[.int .i64 op,.int .i64 dst,.int .i64 0,.int .i64 b,.int .i64 c,.int .i64 k] 58)):=bE
   refine' zq55
   generalize hW1:w.alloc (.cells #[.int .i64 op,.int .i64 dst,.int .i64 0,.int .i64 b,.int .i64 c,.int .i64 k] 58)=w1 at*
   refine' zq2
   refine' zq105
  ·subst hz0;subst hz1
   have bX:=ai.new w #[.int .i64 op,.int .i64 dst,.int .i64 0,.int .i64 0,.int .i64 c,.int .i64 k] 58
   have b1:Below w.heap.size w (w.alloc (.cells #[.int .i64 op,.int .i64 dst,.int .i64 0,.int .i64 0,.int .i64 c,.int .i64 k] 58)):=bE
   refine' zq55
   generalize hW1:w.alloc (.cells #[.int .i64 op,.int .i64 dst,.int .i64 0,.int .i64 0,.int .i64 c,.int .i64 k] 58)=w1 at*
   refine' zq2
   refine' zq105
 obtain ⟨rfl,rfl,rfl⟩:=h0
 by_cases hk0:k<0
 ·have HF:=zH (ab (show ¬au f ⟨op,dst,0,0,0,k⟩ from fun g=>by have:=(HIFF.o.1 g).2.1.1;omega))
  generalize cB (au f ⟨op,dst,0,0,0,k⟩)=R at*
  have ek:decide (k<0)=true:=by simpa using hk0
  refine' zq137
  have q2:=(HH.o.below hBw hb15).row.eight.1.2.2.1
  refine' zq105
 have ek:decide (k<0)=false:=by simpa using hk0
 obtain ⟨j,rfl⟩:=Int.eq_ofNat_of_zero_le (by omega:0<=k)
 by_cases hj:f.cells.length<=j
 ·have HF:=zH (ab (show ¬au f ⟨op,dst,0,0,0,(j:Int)⟩ from fun g=>by have:=(HIFF.o.1 g).2.1.2;omega))
  generalize cB (au f ⟨op,dst,0,0,0,(j:Int)⟩)=R at*
  have ej:decide ((f.cells.length:Int)<=j)=true:=by simp;omega
  have ej':decide (f.cells.length<=j)=true:=by simp;omega
  refine' zq130
  have q2:=(HH.o.below hBw hb15).row.eight.1.2.2.1
  refine' zq105
 have hjl:j<f.cells.length:=by omega
 have ej:decide ((f.cells.length:Int)<=j)=false:=by simp;omega
 have ej':decide (f.cells.length<=j)=false:=by simp;omega
 have hjk:j<ks.length:=by rw[HKL.o];exact hjl
 obtain ⟨kn,hkn,hkW,hkT⟩:=mF HCO.o hjl
 have HKJ:=zH (show ao ks j=kn by rw[HKK.o j hjl,hkn];rfl)
 have HQ:Hid (cB (au f ⟨op,dst,0,0,0,(j:Int)⟩)=(cB (ag f dst=ao (dQ f.cells) j) && cB (aa f dst=aa f kn))):=by
  show _=_
  rw[<-jY]
  refine bu (HIFF.o.trans ⟨fun g=>⟨g.2.2.1,?_⟩,fun g=>⟨⟨rfl,rfl,rfl⟩,⟨by omega,by omega⟩,g.1,kn,hkn,g.2⟩⟩)
  obtain ⟨q,h1,h2⟩:=g.2.2.2
  rw[hkn] at h1
  injection h1 with h1
  rw[h2,h1]
 rw[jN] at HQ
 generalize cB (au f ⟨op,dst,0,0,0,(j:Int)⟩)=R at*
 have wkn:Wf kn:=by have h0:=hkW.1;have h1:=hkW.2;have:=HH.o.fm.wires;obtain ⟨_,cw,_,lw,mw,_⟩:=this;unfold maxLen at mw;exact aT (by omega)
 have hj1:(j:Int)<f.cells.length:=by omega
 clear HIFF hkn hkT hk0 hj
 generalize hV:cB (aa f dst=aa f kn)=V at*
 generalize hTd:ag f dst=Td at*
 generalize hTc:ao (dQ f.cells) (j:Int)=Tc at*
 have HV:=zH hV
 have HTd:=zH hTd
 have HTc:=zH hTc
 clear hV hTd hTc
 generalize he1:(Td==Tc)=e1 at*
 refine' zq130
 refine' zq170
 have HS:Hid (∀W,Below w5.heap.size w5 W->W.cell? ⟨w.heap.size,0,none⟩=some (.int .i64 op)/\W.cell? ⟨w.heap.size,1,none⟩=some (.int .i64 (m:Int))/\W.cell? ⟨w.heap.size,2,none⟩=some (.int .i64 0)/\W.cell? ⟨w.heap.size,3,none⟩=some (.int .i64 0)/\W.cell? ⟨w.heap.size,4,none⟩=some (.int .i64 0)/\W.cell? ⟨w.heap.size,5,none⟩=some (.int .i64 (j:Int))):=fun W hW=>(bX5.below hW hg5).six'
 refine' zq147
 obtain ⟨_,_,hvc,_,_,sc⟩:=HN5.o.fm.cells
 injection hvc with hv1 hv2 hv3
 subst hv1
 obtain ⟨b3,off3,xc,hAc,hb3,hxc,_,_,z0,z1⟩:=sc.cell hjl
 subst hAc
 have q2:=HN5.o.row.eight.1.2.2.1
 have HZ:Hid (xc.1=Tc):=by have:=ot (ii hxc);rw[HTc.o] at this;exact this.symm
 rw[HZ.o] at z0
 have rK5:=HKR.o.below hb15 HKR.o.lt
 have hKl5:=rK5.lt
 have HS2:Hid (∀W,Below w5.heap.size w5 W->W.cell? ⟨w.heap.size,0,none⟩=some (.int .i64 op)/\W.cell? ⟨w.heap.size,1,none⟩=some (.int .i64 (m:Int))/\W.cell? ⟨w.heap.size,2,none⟩=some (.int .i64 0)/\W.cell? ⟨w.heap.size,3,none⟩=some (.int .i64 0)/\W.cell? ⟨w.heap.size,4,none⟩=some (.int .i64 0)/\W.cell? ⟨w.heap.size,5,none⟩=some (.int .i64 (j:Int))/\W.cell? ⟨L,2,none⟩=some (.slice (some ⟨b3,off3,none⟩) f.cells.length cc)/\W.cell? ⟨L,7,none⟩=some (.slice (some ⟨K,0,none⟩) f.cells.length f.cells.length)/\W.cell? ⟨K,j,none⟩=some (.int .i64 kn)/\W.cell? ⟨b3,off3+j*2,none⟩=some (.int .i64 Tc)):=fun W hW=>by
  obtain ⟨x0,x1,x2,x3,x4,x5⟩:=HS.o W hW
  have e8:=(HN5.o.below hB5 hW).row.eight.1
  have hK7:=ik (rK5.below hW hKl5) hjk
  rw[HKJ.o] at hK7
  exact ⟨x0,x1,x2,x3,x4,x5,e8.2.2.1,e8.2.2.2.2.2.2.2,hK7,cell_kept z0 hW⟩
 clear z0 z1 hxc hv2 hv3 sc
 go_wp2_with fail
 go_quiet (fail)
 go_upto_region 25 with (fail)
 clear c0 c1 c2 c3 c4 c5 q0 d1 q2
 refine wp_region_held_drew (S:=fun W=>W.cell? ⟨w.heap.size,0,none⟩=some (.int .i64 op)/\W.cell? ⟨w.heap.size,1,none⟩=some (.int .i64 (m:Int))/\W.cell? ⟨w.heap.size,2,none⟩=some (.int .i64 0)/\W.cell? ⟨w.heap.size,3,none⟩=some (.int .i64 0)/\W.cell? ⟨w.heap.size,4,none⟩=some (.int .i64 0)/\W.cell? ⟨w.heap.size,5,none⟩=some (.int .i64 (j:Int))/\W.cell? ⟨L,2,none⟩=some (.slice (some ⟨b3,off3,none⟩) f.cells.length cc)/\W.cell? ⟨L,7,none⟩=some (.slice (some ⟨K,0,none⟩) f.cells.length f.cells.length)/\W.cell? ⟨K,j,none⟩=some (.int .i64 kn)/\W.cell? ⟨b3,off3+j*2,none⟩=some (.int .i64 Tc)) (by kernel_rfl) ?_ (fun hHeld=>?_)
 ·refine' zq172
 refine tk 0 (some 295) rfl ?_
 refine tk 1 (some 296) rfl ?_
 refine tk 2 (some 297) rfl ?_
 refine tk 4 (some 299) rfl ?_
 refine tk 5 (some 300) rfl ?_
 refine tk 6 (some 301) rfl ?_
 refine tk 7 (some 302) rfl ?_
 refine tk 8 (some 303) rfl ?_
 refine tk 9 (some 304) rfl ?_
 refine tk 10 (some 305) rfl ?_
 refine tk 11 (some 306) rfl ?_
 refine tk 12 (some 307) rfl ?_
 refine tk 13 (some 308) rfl ?_
 refine aH 3 (some 298) rfl (fun KK hKK=>?_)
 go_simp
 (go_at_call 64;(first|(with_reducible refine (iL HN5.o hB5 hd HTd.o bE).mono ?_));rintro e w8 ⟨rfl,rfl⟩)
 (try go_wp2_with fail)
 refine' zq171
 refine tk 14 (some 309) rfl ?_
 refine tk 15 (some 310) rfl ?_
 cases e1
 ·refine sk 16 (some 311) rfl ?_
  refine sk 17 (some 312) rfl ?_
  refine sk 18 (some 313) rfl ?_
  refine sk 19 (some 314) rfl ?_
  refine sk 20 (some 315) rfl ?_
  refine sk 21 (some 316) rfl ?_
  refine sk 22 (some 317) rfl ?_
  refine sk 23 (some 318) rfl ?_
  refine sk 24 (some 319) rfl ?_
  refine sk 25 (some 320) rfl ?_
  refine sk 26 (some 321) rfl ?_
  refine sk 27 (some 322) rfl ?_
  refine sk 28 (some 323) rfl ?_
  refine tk 29 (some 324) rfl ?_
  refine tk 30 (some 4) rfl ?_
  refine' zq116
 refine tk 16 (some 311) rfl ?_
 refine tk 17 (some 312) rfl ?_
 refine tk 18 (some 313) rfl ?_
 refine tk 19 (some 314) rfl ?_
 refine tk 20 (some 315) rfl ?_
 refine tk 21 (some 316) rfl ?_
 refine tk 22 (some 317) rfl ?_
 refine tk 23 (some 318) rfl ?_
 refine tk 24 (some 319) rfl ?_
 refine tk 25 (some 320) rfl ?_
 refine tk 26 (some 321) rfl ?_
 refine aH 27 (some 322) rfl (fun KK hKK=>?_)
 go_simp
 refine' zq171
 refine aH 28 (some 323) rfl (fun KK hKK=>?_)
 go_simp
 (go_at_call 65;(refine (ry HN5.o hB5 hd hkW wd wkn HV.o bE (by rfl)).mono ?_);rintro e w8 ⟨rfl,hb8⟩;(have hb9:Below w5.heap.size w5 w8:=Below.trans bE (hb8.mono lE));(have hs9:=hb9.size))
 (try go_wp2_with fail)
 refine' zq171
 refine tk 29 (some 324) rfl ?_
 refine tk 30 (some 4) rfl ?_
 refine' zq116
end
section
variable {w:World} {B L:Nat} {f:Fm} {vw va vc vk vi vo vb ve:Value}
end
theorem oY {f:Fm} (hw:ge f) {x:Ac} (hd:ak f x.dst) (ha:au f x):0<=bl x.op/\ak f x.dst/\(∀n∈wants x,ak f n)/\∀g∈aa f x.dst,ak f g.wire:=by
 obtain ⟨h1,h2,h3,h4,_⟩:=ha
 refine ⟨h4,hd,fun n hn=>?_,fun g hg=>(yr hw hd g hg).1⟩
 unfold wants at hn
 split at hn
 ·simp at hn
 ·split at hn
  ·simp at hn;rw[hn];exact h1
  ·split at hn
   ·simp at hn;rcases hn with rfl|rfl<;>assumption
   ·simp at hn;rcases hn with rfl|rfl|rfl<;>assumption
end Go.Proofs.YtckognjamlckcaaGreatDoor
namespace Go.Proofs.YtckognjamlckcaaGreatDoor.Fo
open Vf
section
variable {f:Fm} {H H':List Int} {ds:List Bool}
end
end Go.Proofs.YtckognjamlckcaaGreatDoor.Fo
namespace Go.Proofs.YtckognjamlckcaaGreatDoor
open Go.RowKit Vf Fo
attribute [local go_sem ↓] Go.wp_at_zero Go.wp_at_succ
structure yy (f:Fm) (x:Ac):Prop where
 bl:0<=bl x.op
 dst:ak f x.dst
 wants:∀n∈cZ f x,ak f n
 clock:(aa f x.dst).length<=1600
def Dl (x:Ac):List Value:=[.int .i64 x.op,.int .i64 x.dst,.int .i64 x.a,.int .i64 x.b,.int .i64 x.c,.int .i64 x.k]
def AU (l:List Ac):List Value:=(l.map Dl).flatten
end Go.Proofs.YtckognjamlckcaaGreatDoor
