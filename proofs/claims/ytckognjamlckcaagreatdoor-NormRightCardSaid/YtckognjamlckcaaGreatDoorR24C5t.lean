/-
  The document's act: ops that name some parts. The document's act: ops that name some parts.
-/
import Derived.Test.YtckognjamlckcaaGreatDoorR24C0
import Derived.Test.YtckognjamlckcaaGreatDoorLookA
import Derived.Test.YtckognjamlckcaaGreatDoorR24A
namespace Go.Proofs.YtckognjamlckcaaGreatDoor
open Go.RowKit Vf Fo
attribute [local go_sem ↓] Go.wp_at_zero Go.wp_at_succ
set_option maxRecDepth 100000 in
set_option maxHeartbeats 8000000 in
theorem ract_26e {w:World} {f:Fm} {vw va vc vk vi vo:Value} (h:FmAt w w.heap.size f vw va vc vk vi vo) (op dst a b c k:Int) (hu:uses op=3) (hop:op=26) (hall:allW3 f a b c) (hd:isW f dst) (hg4:clockOf f dst=clockOf f a∧tyOf f a=2∧tyOf f dst=tyOf f b∧tyOf f dst=tyOf f c) (he0:¬(clockOf f b=clockOf f dst++ [⟨a,false⟩])) (wx:AcIn ⟨op,dst,a,b,c,k⟩) (hcl:(clockOf f dst).length≤1600):
  Calls Tryz.prog 36 #[fmV vw va vc vk vi vo,acV ⟨op,dst,a,b,c,k⟩] w fun e w'=>e= .returned (.bool (cB (actOk f ⟨op,dst,a,b,c,k⟩)))∧Below w.heap.size w w':=by
 obtain ⟨Aw,cw,hvw,lw,mw,_⟩:=h.wires
 have mw':cw≤9223372036854775807:=by unfold maxLen at mw;omega
 subst hvw
 have HALL:=Lib.hid hall
 have HU:=Lib.hid hu
 have HOP:=Lib.hid hop
 have hd':=hd
 obtain ⟨ha,hb,hc⟩:=hall
 clear hu hop
 have HE0:=Lib.hid he0
 clear he0
 have HG4:=Lib.hid hg4
 clear hg4
 have HCL:=Lib.hid hcl
 clear hcl
 obtain ⟨md,bx,ox,cx,Agd,cgd,hmd,hld,hv,_,_,hb6,wtd,y0d,y1d,lgd,mgd,sgd⟩:=fm_wire h hd
 injection hv with hv1 _ hv3
 subst hv1
 subst hv3
 subst hmd
 obtain ⟨b6,hb6e⟩:∃b,b=bx:=⟨_,rfl⟩
 obtain ⟨o6,ho6e⟩:∃b,b=ox:=⟨_,rfl⟩
 subst hb6e;subst ho6e
 have hld':(md:Int)<f.wires.length:=by omega
 have hcgd:cgd≤9223372036854775807:=by unfold maxLen at mgd;omega
 obtain ⟨ma,bx,ox,cx,Aga,cga,hma,hla,hv,_,_,hb6,wta,y0a,y1a,lga,mga,sga⟩:=fm_wire h ha
 injection hv with hv1 _ hv3
 injection hv1 with hv1
 injection hv1 with hv1 hv2
 subst hv1;subst hv2;subst hv3
 subst hma
 have hla':(ma:Int)<f.wires.length:=by omega
 have hcga:cga≤9223372036854775807:=by unfold maxLen at mga;omega
 obtain ⟨mb,bx,ox,cx,Agb,cgb,hmb,hlb,hv,_,_,hb6,wtb,y0b,y1b,lgb,mgb,sgb⟩:=fm_wire h hb
 injection hv with hv1 _ hv3
 injection hv1 with hv1
 injection hv1 with hv1 hv2
 subst hv1;subst hv2;subst hv3
 subst hmb
 have hlb':(mb:Int)<f.wires.length:=by omega
 have hcgb:cgb≤9223372036854775807:=by unfold maxLen at mgb;omega
 obtain ⟨mc,bx,ox,cx,Agc,cgc,hmc,hlc,hv,_,_,hb6,wtc,y0c,y1c,lgc,mgc,sgc⟩:=fm_wire h hc
 injection hv with hv1 _ hv3
 injection hv1 with hv1
 injection hv1 with hv1 hv2
 subst hv1;subst hv2;subst hv3
 subst hmc
 have hlc':(mc:Int)<f.wires.length:=by omega
 have hcgc:cgc≤9223372036854775807:=by unfold maxLen at mgc;omega
 have hwa:=wx.a
 dsimp only at hwa
 have HWA:=Lib.hid hwa
 clear hwa wx
 have HSG:Hid (∀W,Below w.heap.size w W→Sl W w.heap.size 2 isGd Agd (clockOf f (md:Int))∧Sl W w.heap.size 2 isGd Aga (clockOf f (ma:Int))∧Sl W w.heap.size 2 isGd Agb (clockOf f (mb:Int))∧Sl W w.heap.size 2 isGd Agc (clockOf f (mc:Int))):=fun W hW=>⟨sgd.below hW,sga.below hW,sgb.below hW,sgc.below hW⟩
 have HWY:Hid (∀W,Below w.heap.size w W→(W.cell? ⟨b6,o6+md*2,none⟩=some (.int .i64 (tyOf f (md:Int)))∧W.cell? ⟨b6,o6+md*2+1,none⟩=some (.slice Agd (clockOf f (md:Int)).length cgd))∧(W.cell? ⟨b6,o6+ma*2,none⟩=some (.int .i64 (tyOf f (ma:Int)))∧W.cell? ⟨b6,o6+ma*2+1,none⟩=some (.slice Aga (clockOf f (ma:Int)).length cga))∧(W.cell? ⟨b6,o6+mb*2,none⟩=some (.int .i64 (tyOf f (mb:Int)))∧W.cell? ⟨b6,o6+mb*2+1,none⟩=some (.slice Agb (clockOf f (mb:Int)).length cgb))∧(W.cell? ⟨b6,o6+mc*2,none⟩=some (.int .i64 (tyOf f (mc:Int)))∧W.cell? ⟨b6,o6+mc*2+1,none⟩=some (.slice Agc (clockOf f (mc:Int)).length cgc))):=fun W hW=>⟨⟨cell_kept y0d hW,cell_kept y1d hW⟩,⟨cell_kept y0a hW,cell_kept y1a hW⟩,⟨cell_kept y0b hW,cell_kept y1b hW⟩,⟨cell_kept y0c hW,cell_kept y1c hW⟩⟩
 have HVa:=Lib.hid (cB_true ha)
 have HVb:=Lib.hid (cB_true hb)
 have HVc:=Lib.hid (cB_true hc)
 clear sgd sga sgb sgc y0d y1d y0a y1a y0b y1b y0c y1c wtd wta wtb wtc ha hb hc hd hd'
 have HFM:=Lib.hid (fun W (hW:Below w.heap.size w W)=>h.next hW)
 clear h
 go_enter Tryz.func36,Tryz.ntmps36
 go_upto_region 1 with (fail)
 generalize hWB:World.alloc (World.alloc w _) _=w1
 obtain ⟨b1,rF,rX,hs1a⟩:=two_rows hWB
 clear hWB
 have hXl:=rX.lt
 have hs1:=b1.size
 have HBW:Hid (∀W,Below w1.heap.size w1 W→Below w.heap.size w W):=fun W hW=>b1.trans (hW.mono hs1)
 have HCX:Hid (∀W,Below w1.heap.size w1 W→(W.cell? ⟨w.heap.size,0,none⟩=some (.slice (some ⟨b6,o6,none⟩) f.wires.length cw)∧W.cell? ⟨w.heap.size,1,none⟩=some va∧W.cell? ⟨w.heap.size,2,none⟩=some vc∧W.cell? ⟨w.heap.size,3,none⟩=some vk∧W.cell? ⟨w.heap.size,4,none⟩=some vi∧W.cell? ⟨w.heap.size,5,none⟩=some vo)∧
   (W.cell? ⟨w.heap.size+1,0,none⟩=some (.int .i64 op)∧W.cell? ⟨w.heap.size+1,1,none⟩=some (.int .i64 (md:Int))∧W.cell? ⟨w.heap.size+1,2,none⟩=some (.int .i64 (ma:Int))∧W.cell? ⟨w.heap.size+1,3,none⟩=some (.int .i64 (mb:Int))∧W.cell? ⟨w.heap.size+1,4,none⟩=some (.int .i64 (mc:Int))∧W.cell? ⟨w.heap.size+1,5,none⟩=some (.int .i64 k))):=fun W hW=>
  ⟨(rF.below hW (by omega)).six',(rX.below hW hXl).six'⟩
 have HI:Hid (∀W n V,Below w1.heap.size w1 W→cB (isW f n)=V→Calls Tryz.prog 30 #[fmV (.slice (some ⟨b6,o6,none⟩) f.wires.length cw) va vc vk vi vo,.int .i64 n] W fun e w'=>e= .returned (.bool V)∧Below W.heap.size W w'):=fun W n V hW hV=>by
  have:=ris_any (HFM.out W (HBW.out W hW)) n
  rw[hV] at this
  exact this
 clear rF rX
 obtain ⟨⟨f0,f1,f2,f3,f4,f5⟩,c0,c1,c2,c3,c4,c5⟩:=HCX.out w1 (Below.refl _ _)
 go_wp2_with fail
 (with_reducible refine (ruses_any _ _).mono ?_)
 rintro e w1' ⟨rfl,rfl⟩
 rw[HU.out]
 have e0:True:=trivial
 go_wp2_with fail
 (with_reducible refine (HI.out _ _ _ (Below.refl _ _) HVa.out).mono ?_)
 rintro e w2 ⟨rfl,hbw2⟩
 have bw2:Below w1.heap.size w1 w2:=hbw2
 clear f0 f1 f2 f3 f4 f5 c0 c1 c2 c3 c4 c5
 obtain ⟨⟨f0,f1,f2,f3,f4,f5⟩,c0,c1,c2,c3,c4,c5⟩:=HCX.out w2 bw2
 go_wp2_with fail
 (with_reducible refine (HI.out _ _ _ bw2 HVb.out).mono ?_)
 rintro e w3 ⟨rfl,hbw3⟩
 have bw3:Below w1.heap.size w1 w3:=bw2.trans (hbw3.mono bw2.size)
 clear f0 f1 f2 f3 f4 f5 c0 c1 c2 c3 c4 c5
 obtain ⟨⟨f0,f1,f2,f3,f4,f5⟩,c0,c1,c2,c3,c4,c5⟩:=HCX.out w3 bw3
 go_wp2_with fail
 (with_reducible refine (HI.out _ _ _ bw3 HVc.out).mono ?_)
 rintro e w4 ⟨rfl,hbw4⟩
 have bw4:Below w1.heap.size w1 w4:=bw3.trans (hbw4.mono bw3.size)
 clear f0 f1 f2 f3 f4 f5 c0 c1 c2 c3 c4 c5
 obtain ⟨⟨f0,f1,f2,f3,f4,f5⟩,c0,c1,c2,c3,c4,c5⟩:=HCX.out w4 bw4
 by_cases hz:k=0
 rotate_left 1
 ·have HF:Hid (cB (actOk f ⟨op,(md:Int),(ma:Int),(mb:Int),(mc:Int),k⟩)=false):=cB_false (fun g=>hz (g.2.2.2.2.2.2.2.1 (by dsimp only;rw[HU.out];decide)))
  have ez:(k !=0)=true:=by simpa using hz
  clear hz
  go_wp2_with fail
  go_ret
  exact ⟨ret_bool HF.out.symm,HBW.out _ bw4⟩
 have HZk:=Lib.hid hz
 have ezk:(k !=0)=false:=by simpa using hz
 clear hz
 obtain ⟨⟨yd0,yd1⟩,⟨ya0,ya1⟩,⟨yb0,yb1⟩,yc0,yc1⟩:=HWY.out _ (HBW.out _ bw4)
 have hsw4:=(HBW.out _ bw4).size
 have hsw4':=bw4.size
 have hG4:w.heap.size+1+1≤w4.heap.size:=Nat.le_trans hs1a hsw4'
 have hb64:b6<w4.heap.size:=by omega
 have hG40:w.heap.size<w4.heap.size:=by omega
 have hG41:w.heap.size+1<w4.heap.size:=by omega
 have hZ00:b6<w4.heap.size+1:=by omega
 have hZ01:b6<w4.heap.size+1+1:=by omega
 have hZ10:w.heap.size<w4.heap.size+1:=by omega
 have hZ11:w.heap.size<w4.heap.size+1+1:=by omega
 have hZ20:w.heap.size+1<w4.heap.size+1:=by omega
 have hZ21:w.heap.size+1<w4.heap.size+1+1:=by omega
 go_upto_region 8 with (fail)
 clear hZ00 hZ01 hZ10 hZ11 hZ20 hZ21
 generalize hWA:World.alloc (World.alloc (World.alloc (World.alloc w4 _) _) _) _=w5
 obtain ⟨ba,r6,r7,r8,r9⟩:=four_rows hWA
 clear hWA
 generalize w4.heap.size=g6 at*
 have b5:Below w1.heap.size w1 w5:=bw4.trans (ba.mono (by omega))
 have hr9:=r9.lt
 have hr6:=r6.lt
 have hr7:=r7.lt
 have hr8:=r8.lt
 have hs5:=b5.size
 have HR:Hid (∀W,Below w5.heap.size w5 W→(W.cell? ⟨g6,0,none⟩=some (.int .i64 (tyOf f (md:Int)))∧W.cell? ⟨g6,1,none⟩=some (.slice Agd (clockOf f (md:Int)).length cgd))∧(W.cell? ⟨g6+1,0,none⟩=some (.int .i64 (tyOf f (ma:Int)))∧W.cell? ⟨g6+1,1,none⟩=some (.slice Aga (clockOf f (ma:Int)).length cga))∧(W.cell? ⟨g6+1+1,0,none⟩=some (.int .i64 (tyOf f (mb:Int)))∧W.cell? ⟨g6+1+1,1,none⟩=some (.slice Agb (clockOf f (mb:Int)).length cgb))∧(W.cell? ⟨g6+1+1+1,0,none⟩=some (.int .i64 (tyOf f (mc:Int)))∧W.cell? ⟨g6+1+1+1,1,none⟩=some (.slice Agc (clockOf f (mc:Int)).length cgc))):=fun W hW=>⟨(r6.below hW hr6).two',(r7.below hW hr7).two',(r8.below hW hr8).two',(r9.below hW hr9).two'⟩
 clear f0 f1 f2 f3 f4 f5 c0 c1 c2 c3 c4 c5
 clear yd0 yd1 ya0 ya1 yb0 yb1 yc0 yc1 r6 r7 r8 r9 ba
 obtain ⟨⟨f0,f1,f2,f3,f4,f5⟩,c0,c1,c2,c3,c4,c5⟩:=HCX.out w5 b5
 obtain ⟨⟨yd0,yd1⟩,⟨ya0,ya1⟩,⟨yb0,yb1⟩,yc0,yc1⟩:=HR.out w5 (Below.refl _ _)
 have hop:=HOP.out
 subst hop
 have HIFF:=Lib.hid (act_iff26 (f:=f) (op:=26) (dst:=(md:Int)) (a:=(ma:Int)) (b:=(mb:Int)) (c:=(mc:Int)) (k:=k) rfl HALL.out)
 have SVd:SlV w5 w.heap.size 2 isGd (.slice Agd (clockOf f (md:Int)).length cgd) (clockOf f (md:Int)):=⟨_,_,rfl,lgd,mgd,(HSG.out w5 (HBW.out _ b5)).1⟩
 have SVa:SlV w5 w.heap.size 2 isGd (.slice Aga (clockOf f (ma:Int)).length cga) (clockOf f (ma:Int)):=⟨_,_,rfl,lga,mga,(HSG.out w5 (HBW.out _ b5)).2.1⟩
 have SVb:SlV w5 w.heap.size 2 isGd (.slice Agb (clockOf f (mb:Int)).length cgb) (clockOf f (mb:Int)):=⟨_,_,rfl,lgb,mgb,(HSG.out w5 (HBW.out _ b5)).2.2.1⟩
 have SVc:SlV w5 w.heap.size 2 isGd (.slice Agc (clockOf f (mc:Int)).length cgc) (clockOf f (mc:Int)):=⟨_,_,rfl,lgc,mgc,(HSG.out w5 (HBW.out _ b5)).2.2.2⟩
 have HGda:=fun (V:Bool) (hV:cB (clockOf f (md:Int)=clockOf f (ma:Int))=V)=>(show Calls Tryz.prog 31 #[.slice Agd (clockOf f (md:Int)).length cgd,.slice Aga (clockOf f (ma:Int)).length cga] w5 fun e w'=>e= .returned (.bool V)∧∃n,w'=(w5).drewN n by
  have:=rguards_any _ _ _ _ _ w5 SVd SVa
  rw[hV] at this
  exact this)
 have HGA:=Lib.hid HGda
 clear HGda SVd SVa SVb SVc
 have hC:=HG4.out.1
 have HC:=Lib.hid hC
 have HV:=Lib.hid (HGA.out true (cB_true hC))
 clear hC HGA
 have HSd:Hid (∀W,Below w5.heap.size w5 W→SlV W W.heap.size 2 isGd (.slice Agd (clockOf f (md:Int)).length cgd) (clockOf f (md:Int))):=fun W hW=>⟨Agd,cgd,rfl,lgd,mgd,(HSG.out W (HBW.out _ (b5.trans (hW.mono hs5)))).1.more (HBW.out _ (b5.trans (hW.mono hs5))).size⟩
 have HWI:Hid (∀W (q:Bool),Below w5.heap.size w5 W→Calls Tryz.prog 71 #[.slice Agd (clockOf f (md:Int)).length cgd,.int .i64 (ma:Int),.bool q] W (WithIs (clockOf f (md:Int)) ⟨(ma:Int),q⟩ W)):=fun W q hW=>rwith_any _ _ W (HSd.out W hW) HCL.out ⟨(ma:Int),q⟩ HWA.out
 have HGB:Hid (∀W v (V:Bool),Below w5.heap.size w5 W→SlV W W.heap.size 2 isGd v (clockOf f (md:Int)++ [⟨(ma:Int),false⟩])→cB (clockOf f (mb:Int)=clockOf f (md:Int)++ [⟨(ma:Int),false⟩])=V→Calls Tryz.prog 31 #[.slice Agb (clockOf f (mb:Int)).length cgb,v] W fun e w'=>e= .returned (.bool V)∧∃n,w'=W.drewN n):=fun W v V hW hv hV=>by
  have q:=HBW.out _ (b5.trans (hW.mono hs5))
  have:=rguards_any _ _ _ _ _ W (⟨Agb,cgb,rfl,lgb,mgb,(HSG.out W q).2.2.1.more q.size⟩:SlV W W.heap.size 2 isGd (.slice Agb (clockOf f (mb:Int)).length cgb) (clockOf f (mb:Int))) hv
  rw[hV] at this
  exact this
 have HGC:Hid (∀W v (V:Bool),Below w5.heap.size w5 W→SlV W W.heap.size 2 isGd v (clockOf f (md:Int)++ [⟨(ma:Int),true⟩])→cB (clockOf f (mc:Int)=clockOf f (md:Int)++ [⟨(ma:Int),true⟩])=V→Calls Tryz.prog 31 #[.slice Agc (clockOf f (mc:Int)).length cgc,v] W fun e w'=>e= .returned (.bool V)∧∃n,w'=W.drewN n):=fun W v V hW hv hV=>by
  have q:=HBW.out _ (b5.trans (hW.mono hs5))
  have:=rguards_any _ _ _ _ _ W (⟨Agc,cgc,rfl,lgc,mgc,(HSG.out W q).2.2.2.more q.size⟩:SlV W W.heap.size 2 isGd (.slice Agc (clockOf f (mc:Int)).length cgc) (clockOf f (mc:Int))) hv
  rw[hV] at this
  exact this
 have HS:Hid (∀W,Below w5.heap.size w5 W→W.cell? ⟨g6,0,none⟩=some (.int .i64 (tyOf f (md:Int)))∧W.cell? ⟨g6,1,none⟩=some (.slice Agd (clockOf f (md:Int)).length cgd)∧W.cell? ⟨g6+1,0,none⟩=some (.int .i64 (tyOf f (ma:Int)))∧W.cell? ⟨g6+1+1,0,none⟩=some (.int .i64 (tyOf f (mb:Int)))∧W.cell? ⟨g6+1+1,1,none⟩=some (.slice Agb (clockOf f (mb:Int)).length cgb)∧W.cell? ⟨g6+1+1+1,0,none⟩=some (.int .i64 (tyOf f (mc:Int)))∧W.cell? ⟨g6+1+1+1,1,none⟩=some (.slice Agc (clockOf f (mc:Int)).length cgc)∧W.cell? ⟨w.heap.size+1,2,none⟩=some (.int .i64 (ma:Int))):=fun W hW=>by
  obtain ⟨⟨d0,d1⟩,⟨a0,a1⟩,⟨e0,e1⟩,q0,q1⟩:=HR.out W hW
  exact ⟨d0,d1,a0,e0,e1,q0,q1,(HCX.out W (b5.trans (hW.mono hs5))).2.2.2.1⟩
 have ehA:(tyOf f (ma:Int)==2)=true:=by simpa using HG4.out.2.1
 have ehB:(tyOf f (md:Int)==tyOf f (mb:Int))=true:=by simpa using HG4.out.2.2.1
 have ehD:(tyOf f (md:Int)==tyOf f (mc:Int))=true:=by simpa using HG4.out.2.2.2
 have hE:=HE0.out
 have HVB:=Lib.hid (cB_false hE)
 have HF:Hid (cB (actOk f ⟨26,(md:Int),(ma:Int),(mb:Int),(mc:Int),k⟩)=false):=cB_false (fun g=>hE (HIFF.out.1 g).2.2.2.2.2.1)
 clear hE
 go_wp2_with fail
 (with_reducible refine Calls.mono HV.out ?_)
 rintro e wg ⟨rfl,n,rfl⟩
 go_upto_region 22 with (fail)
 refine wp_region_held_drew (S:=fun W=>W.cell? ⟨g6,0,none⟩=some (.int .i64 (tyOf f (md:Int)))∧W.cell? ⟨g6,1,none⟩=some (.slice Agd (clockOf f (md:Int)).length cgd)∧W.cell? ⟨g6+1,0,none⟩=some (.int .i64 (tyOf f (ma:Int)))∧W.cell? ⟨g6+1+1,0,none⟩=some (.int .i64 (tyOf f (mb:Int)))∧W.cell? ⟨g6+1+1,1,none⟩=some (.slice Agb (clockOf f (mb:Int)).length cgb)∧W.cell? ⟨g6+1+1+1,0,none⟩=some (.int .i64 (tyOf f (mc:Int)))∧W.cell? ⟨g6+1+1+1,1,none⟩=some (.slice Agc (clockOf f (mc:Int)).length cgc)∧W.cell? ⟨w.heap.size+1,2,none⟩=some (.int .i64 (ma:Int))) (by kernel_rfl) ?_ (fun hHeld=>?_)
 ·(try dsimp only);(first|(with_reducible exact HS.out _ bE)|go_keep)
 refine tk 0 (some 194) rfl ?_
 refine tk 1 (some 195) rfl ?_
 refine tk 2 (some 196) rfl ?_
 refine tk 3 (some 197) rfl ?_
 refine tk 4 (some 198) rfl ?_
 refine tk 5 (some 199) rfl ?_
 refine tk 6 (some 200) rfl ?_
 refine tk 7 (some 201) rfl ?_
 refine tk 8 (some 202) rfl ?_
 refine tk 9 (some 203) rfl ?_
 refine tk 10 (some 204) rfl ?_
 refine tk 11 (some 205) rfl ?_
 refine tk 12 (some 206) rfl ?_
 refine tk 13 (some 207) rfl ?_
 refine tk 14 (some 208) rfl ?_
 refine tk 15 (some 209) rfl ?_
 refine tk 16 (some 210) rfl ?_
 refine tk 17 (some 211) rfl ?_
 refine tk 18 (some 212) rfl ?_
 refine tk 19 (some 213) rfl ?_
 refine tk 20 (some 214) rfl ?_
 refine tk 21 (some 215) rfl ?_
 refine tk 22 (some 216) rfl ?_
 refine tk 23 (some 217) rfl ?_
 refine rd1 24 (some 218) rfl (fun KK hKK=>?_)
 go_simp
 (go_at_call 71;refine Calls.mono (HWI.out _ _ ?hbb) ?_;(case hbb=>exact bE);rintro e w8 ⟨v8,rfl,hs8,hb8⟩;(have hb9:Below w5.heap.size w5 w8:=Below.trans bE (hb8.mono lE));(have hs9:=hb9.size))
 (try go_wp2_with fail)
 refine hKK.out _ _ ?_ (fun hHeld=>?_)
 ·(try dsimp only);(first|(with_reducible exact HS.out _ bE)|go_keep)
 clear hKK KK
 try simp only[Act.put,List.setIfInBounds_toArray,List.set_cons_zero,List.set_cons_succ]
 refine rd1 25 (some 219) rfl (fun KK hKK=>?_)
 go_simp
 (go_at_call 31;first|(refine Calls.mono (HGB.out _ _ _ ?hbb hs8 HVB.out) ?_;(case hbb=>exact bE);rintro e w9 ⟨rfl,n9,rfl⟩;clear HGB)|(refine Calls.mono (HGC.out _ _ _ ?hbb hs8 HVC.out) ?_;(case hbb=>exact bE);rintro e w9 ⟨rfl,n9,rfl⟩))
 (try go_wp2_with fail)
 refine hKK.out _ _ ?_ (fun hHeld=>?_)
 ·(try dsimp only);(first|(with_reducible exact HS.out _ bE)|go_keep)
 clear hKK KK
 try simp only[Act.put,List.setIfInBounds_toArray,List.set_cons_zero,List.set_cons_succ]
 refine tk 26 (some 220) rfl ?_
 refine tk 27 (some 221) rfl ?_
 refine sk 28 (some 222) rfl ?_
 refine sk 29 (some 223) rfl ?_
 refine sk 30 (some 224) rfl ?_
 refine sk 31 (some 225) rfl ?_
 refine sk 32 (some 226) rfl ?_
 refine sk 33 (some 227) rfl ?_
 refine sk 34 (some 228) rfl ?_
 refine sk 35 (some 229) rfl ?_
 refine tk 36 (some 230) rfl ?_
 refine tk 37 (some 4) rfl ?_
 refine wpAnyH_done (by kernel_rfl) ?_ _
 go_wp2_with fail
 go_ret
 exact ⟨ret_bool HF.out.symm,HBW.out _ (b5.trans ((bE:Below w5.heap.size w5 _).mono hs5))⟩
end Go.Proofs.YtckognjamlckcaaGreatDoor
namespace Go.Proofs.YtckognjamlckcaaGreatDoor
open Go.RowKit Vf Fo
attribute [local go_sem ↓] Go.wp_at_zero Go.wp_at_succ
set_option maxRecDepth 100000 in
set_option maxHeartbeats 8000000 in
theorem ract_26t {w:World} {f:Fm} {vw va vc vk vi vo:Value} (h:FmAt w w.heap.size f vw va vc vk vi vo) (op dst a b c k:Int) (hu:uses op=3) (hop:op=26) (hall:allW3 f a b c) (hd:isW f dst) (hg4:clockOf f dst=clockOf f a∧tyOf f a=2∧tyOf f dst=tyOf f b∧tyOf f dst=tyOf f c) (he0:clockOf f b=clockOf f dst++ [⟨a,false⟩]) (wx:AcIn ⟨op,dst,a,b,c,k⟩) (hcl:(clockOf f dst).length≤1600):
  Calls Tryz.prog 36 #[fmV vw va vc vk vi vo,acV ⟨op,dst,a,b,c,k⟩] w fun e w'=>e= .returned (.bool (cB (actOk f ⟨op,dst,a,b,c,k⟩)))∧Below w.heap.size w w':=by
 obtain ⟨Aw,cw,hvw,lw,mw,_⟩:=h.wires
 have mw':cw≤9223372036854775807:=by unfold maxLen at mw;omega
 subst hvw
 have HALL:=Lib.hid hall
 have HU:=Lib.hid hu
 have HOP:=Lib.hid hop
 have hd':=hd
 obtain ⟨ha,hb,hc⟩:=hall
 clear hu hop
 have HE0:=Lib.hid he0
 clear he0
 have HG4:=Lib.hid hg4
 clear hg4
 have HCL:=Lib.hid hcl
 clear hcl
 obtain ⟨md,bx,ox,cx,Agd,cgd,hmd,hld,hv,_,_,hb6,wtd,y0d,y1d,lgd,mgd,sgd⟩:=fm_wire h hd
 injection hv with hv1 _ hv3
 subst hv1
 subst hv3
 subst hmd
 obtain ⟨b6,hb6e⟩:∃b,b=bx:=⟨_,rfl⟩
 obtain ⟨o6,ho6e⟩:∃b,b=ox:=⟨_,rfl⟩
 subst hb6e;subst ho6e
 have hld':(md:Int)<f.wires.length:=by omega
 have hcgd:cgd≤9223372036854775807:=by unfold maxLen at mgd;omega
 obtain ⟨ma,bx,ox,cx,Aga,cga,hma,hla,hv,_,_,hb6,wta,y0a,y1a,lga,mga,sga⟩:=fm_wire h ha
 injection hv with hv1 _ hv3
 injection hv1 with hv1
 injection hv1 with hv1 hv2
 subst hv1;subst hv2;subst hv3
 subst hma
 have hla':(ma:Int)<f.wires.length:=by omega
 have hcga:cga≤9223372036854775807:=by unfold maxLen at mga;omega
 obtain ⟨mb,bx,ox,cx,Agb,cgb,hmb,hlb,hv,_,_,hb6,wtb,y0b,y1b,lgb,mgb,sgb⟩:=fm_wire h hb
 injection hv with hv1 _ hv3
 injection hv1 with hv1
 injection hv1 with hv1 hv2
 subst hv1;subst hv2;subst hv3
 subst hmb
 have hlb':(mb:Int)<f.wires.length:=by omega
 have hcgb:cgb≤9223372036854775807:=by unfold maxLen at mgb;omega
 obtain ⟨mc,bx,ox,cx,Agc,cgc,hmc,hlc,hv,_,_,hb6,wtc,y0c,y1c,lgc,mgc,sgc⟩:=fm_wire h hc
 injection hv with hv1 _ hv3
 injection hv1 with hv1
 injection hv1 with hv1 hv2
 subst hv1;subst hv2;subst hv3
 subst hmc
 have hlc':(mc:Int)<f.wires.length:=by omega
 have hcgc:cgc≤9223372036854775807:=by unfold maxLen at mgc;omega
 have hwa:=wx.a
 dsimp only at hwa
 have HWA:=Lib.hid hwa
 clear hwa wx
 have HSG:Hid (∀W,Below w.heap.size w W→Sl W w.heap.size 2 isGd Agd (clockOf f (md:Int))∧Sl W w.heap.size 2 isGd Aga (clockOf f (ma:Int))∧Sl W w.heap.size 2 isGd Agb (clockOf f (mb:Int))∧Sl W w.heap.size 2 isGd Agc (clockOf f (mc:Int))):=fun W hW=>⟨sgd.below hW,sga.below hW,sgb.below hW,sgc.below hW⟩
 have HWY:Hid (∀W,Below w.heap.size w W→(W.cell? ⟨b6,o6+md*2,none⟩=some (.int .i64 (tyOf f (md:Int)))∧W.cell? ⟨b6,o6+md*2+1,none⟩=some (.slice Agd (clockOf f (md:Int)).length cgd))∧(W.cell? ⟨b6,o6+ma*2,none⟩=some (.int .i64 (tyOf f (ma:Int)))∧W.cell? ⟨b6,o6+ma*2+1,none⟩=some (.slice Aga (clockOf f (ma:Int)).length cga))∧(W.cell? ⟨b6,o6+mb*2,none⟩=some (.int .i64 (tyOf f (mb:Int)))∧W.cell? ⟨b6,o6+mb*2+1,none⟩=some (.slice Agb (clockOf f (mb:Int)).length cgb))∧(W.cell? ⟨b6,o6+mc*2,none⟩=some (.int .i64 (tyOf f (mc:Int)))∧W.cell? ⟨b6,o6+mc*2+1,none⟩=some (.slice Agc (clockOf f (mc:Int)).length cgc))):=fun W hW=>⟨⟨cell_kept y0d hW,cell_kept y1d hW⟩,⟨cell_kept y0a hW,cell_kept y1a hW⟩,⟨cell_kept y0b hW,cell_kept y1b hW⟩,⟨cell_kept y0c hW,cell_kept y1c hW⟩⟩
 have HVa:=Lib.hid (cB_true ha)
 have HVb:=Lib.hid (cB_true hb)
 have HVc:=Lib.hid (cB_true hc)
 clear sgd sga sgb sgc y0d y1d y0a y1a y0b y1b y0c y1c wtd wta wtb wtc ha hb hc hd hd'
 have HFM:=Lib.hid (fun W (hW:Below w.heap.size w W)=>h.next hW)
 clear h
 go_enter Tryz.func36,Tryz.ntmps36
 go_upto_region 1 with (fail)
 generalize hWB:World.alloc (World.alloc w _) _=w1
 obtain ⟨b1,rF,rX,hs1a⟩:=two_rows hWB
 clear hWB
 have hXl:=rX.lt
 have hs1:=b1.size
 have HBW:Hid (∀W,Below w1.heap.size w1 W→Below w.heap.size w W):=fun W hW=>b1.trans (hW.mono hs1)
 have HCX:Hid (∀W,Below w1.heap.size w1 W→(W.cell? ⟨w.heap.size,0,none⟩=some (.slice (some ⟨b6,o6,none⟩) f.wires.length cw)∧W.cell? ⟨w.heap.size,1,none⟩=some va∧W.cell? ⟨w.heap.size,2,none⟩=some vc∧W.cell? ⟨w.heap.size,3,none⟩=some vk∧W.cell? ⟨w.heap.size,4,none⟩=some vi∧W.cell? ⟨w.heap.size,5,none⟩=some vo)∧
   (W.cell? ⟨w.heap.size+1,0,none⟩=some (.int .i64 op)∧W.cell? ⟨w.heap.size+1,1,none⟩=some (.int .i64 (md:Int))∧W.cell? ⟨w.heap.size+1,2,none⟩=some (.int .i64 (ma:Int))∧W.cell? ⟨w.heap.size+1,3,none⟩=some (.int .i64 (mb:Int))∧W.cell? ⟨w.heap.size+1,4,none⟩=some (.int .i64 (mc:Int))∧W.cell? ⟨w.heap.size+1,5,none⟩=some (.int .i64 k))):=fun W hW=>
  ⟨(rF.below hW (by omega)).six',(rX.below hW hXl).six'⟩
 have HI:Hid (∀W n V,Below w1.heap.size w1 W→cB (isW f n)=V→Calls Tryz.prog 30 #[fmV (.slice (some ⟨b6,o6,none⟩) f.wires.length cw) va vc vk vi vo,.int .i64 n] W fun e w'=>e= .returned (.bool V)∧Below W.heap.size W w'):=fun W n V hW hV=>by
  have:=ris_any (HFM.out W (HBW.out W hW)) n
  rw[hV] at this
  exact this
 clear rF rX
 obtain ⟨⟨f0,f1,f2,f3,f4,f5⟩,c0,c1,c2,c3,c4,c5⟩:=HCX.out w1 (Below.refl _ _)
 go_wp2_with fail
 (with_reducible refine (ruses_any _ _).mono ?_)
 rintro e w1' ⟨rfl,rfl⟩
 rw[HU.out]
 have e0:True:=trivial
 go_wp2_with fail
 (with_reducible refine (HI.out _ _ _ (Below.refl _ _) HVa.out).mono ?_)
 rintro e w2 ⟨rfl,hbw2⟩
 have bw2:Below w1.heap.size w1 w2:=hbw2
 clear f0 f1 f2 f3 f4 f5 c0 c1 c2 c3 c4 c5
 obtain ⟨⟨f0,f1,f2,f3,f4,f5⟩,c0,c1,c2,c3,c4,c5⟩:=HCX.out w2 bw2
 go_wp2_with fail
 (with_reducible refine (HI.out _ _ _ bw2 HVb.out).mono ?_)
 rintro e w3 ⟨rfl,hbw3⟩
 have bw3:Below w1.heap.size w1 w3:=bw2.trans (hbw3.mono bw2.size)
 clear f0 f1 f2 f3 f4 f5 c0 c1 c2 c3 c4 c5
 obtain ⟨⟨f0,f1,f2,f3,f4,f5⟩,c0,c1,c2,c3,c4,c5⟩:=HCX.out w3 bw3
 go_wp2_with fail
 (with_reducible refine (HI.out _ _ _ bw3 HVc.out).mono ?_)
 rintro e w4 ⟨rfl,hbw4⟩
 have bw4:Below w1.heap.size w1 w4:=bw3.trans (hbw4.mono bw3.size)
 clear f0 f1 f2 f3 f4 f5 c0 c1 c2 c3 c4 c5
 obtain ⟨⟨f0,f1,f2,f3,f4,f5⟩,c0,c1,c2,c3,c4,c5⟩:=HCX.out w4 bw4
 by_cases hz:k=0
 rotate_left 1
 ·have HF:Hid (cB (actOk f ⟨op,(md:Int),(ma:Int),(mb:Int),(mc:Int),k⟩)=false):=cB_false (fun g=>hz (g.2.2.2.2.2.2.2.1 (by dsimp only;rw[HU.out];decide)))
  have ez:(k !=0)=true:=by simpa using hz
  clear hz
  go_wp2_with fail
  go_ret
  exact ⟨ret_bool HF.out.symm,HBW.out _ bw4⟩
 have HZk:=Lib.hid hz
 have ezk:(k !=0)=false:=by simpa using hz
 clear hz
 obtain ⟨⟨yd0,yd1⟩,⟨ya0,ya1⟩,⟨yb0,yb1⟩,yc0,yc1⟩:=HWY.out _ (HBW.out _ bw4)
 have hsw4:=(HBW.out _ bw4).size
 have hsw4':=bw4.size
 have hG4:w.heap.size+1+1≤w4.heap.size:=Nat.le_trans hs1a hsw4'
 have hb64:b6<w4.heap.size:=by omega
 have hG40:w.heap.size<w4.heap.size:=by omega
 have hG41:w.heap.size+1<w4.heap.size:=by omega
 have hZ00:b6<w4.heap.size+1:=by omega
 have hZ01:b6<w4.heap.size+1+1:=by omega
 have hZ10:w.heap.size<w4.heap.size+1:=by omega
 have hZ11:w.heap.size<w4.heap.size+1+1:=by omega
 have hZ20:w.heap.size+1<w4.heap.size+1:=by omega
 have hZ21:w.heap.size+1<w4.heap.size+1+1:=by omega
 go_upto_region 8 with (fail)
 clear hZ00 hZ01 hZ10 hZ11 hZ20 hZ21
 generalize hWA:World.alloc (World.alloc (World.alloc (World.alloc w4 _) _) _) _=w5
 obtain ⟨ba,r6,r7,r8,r9⟩:=four_rows hWA
 clear hWA
 generalize w4.heap.size=g6 at*
 have b5:Below w1.heap.size w1 w5:=bw4.trans (ba.mono (by omega))
 have hr9:=r9.lt
 have hr6:=r6.lt
 have hr7:=r7.lt
 have hr8:=r8.lt
 have hs5:=b5.size
 have HR:Hid (∀W,Below w5.heap.size w5 W→(W.cell? ⟨g6,0,none⟩=some (.int .i64 (tyOf f (md:Int)))∧W.cell? ⟨g6,1,none⟩=some (.slice Agd (clockOf f (md:Int)).length cgd))∧(W.cell? ⟨g6+1,0,none⟩=some (.int .i64 (tyOf f (ma:Int)))∧W.cell? ⟨g6+1,1,none⟩=some (.slice Aga (clockOf f (ma:Int)).length cga))∧(W.cell? ⟨g6+1+1,0,none⟩=some (.int .i64 (tyOf f (mb:Int)))∧W.cell? ⟨g6+1+1,1,none⟩=some (.slice Agb (clockOf f (mb:Int)).length cgb))∧(W.cell? ⟨g6+1+1+1,0,none⟩=some (.int .i64 (tyOf f (mc:Int)))∧W.cell? ⟨g6+1+1+1,1,none⟩=some (.slice Agc (clockOf f (mc:Int)).length cgc))):=fun W hW=>⟨(r6.below hW hr6).two',(r7.below hW hr7).two',(r8.below hW hr8).two',(r9.below hW hr9).two'⟩
 clear f0 f1 f2 f3 f4 f5 c0 c1 c2 c3 c4 c5
 clear yd0 yd1 ya0 ya1 yb0 yb1 yc0 yc1 r6 r7 r8 r9 ba
 obtain ⟨⟨f0,f1,f2,f3,f4,f5⟩,c0,c1,c2,c3,c4,c5⟩:=HCX.out w5 b5
 obtain ⟨⟨yd0,yd1⟩,⟨ya0,ya1⟩,⟨yb0,yb1⟩,yc0,yc1⟩:=HR.out w5 (Below.refl _ _)
 have hop:=HOP.out
 subst hop
 have HIFF:=Lib.hid (act_iff26 (f:=f) (op:=26) (dst:=(md:Int)) (a:=(ma:Int)) (b:=(mb:Int)) (c:=(mc:Int)) (k:=k) rfl HALL.out)
 have SVd:SlV w5 w.heap.size 2 isGd (.slice Agd (clockOf f (md:Int)).length cgd) (clockOf f (md:Int)):=⟨_,_,rfl,lgd,mgd,(HSG.out w5 (HBW.out _ b5)).1⟩
 have SVa:SlV w5 w.heap.size 2 isGd (.slice Aga (clockOf f (ma:Int)).length cga) (clockOf f (ma:Int)):=⟨_,_,rfl,lga,mga,(HSG.out w5 (HBW.out _ b5)).2.1⟩
 have SVb:SlV w5 w.heap.size 2 isGd (.slice Agb (clockOf f (mb:Int)).length cgb) (clockOf f (mb:Int)):=⟨_,_,rfl,lgb,mgb,(HSG.out w5 (HBW.out _ b5)).2.2.1⟩
 have SVc:SlV w5 w.heap.size 2 isGd (.slice Agc (clockOf f (mc:Int)).length cgc) (clockOf f (mc:Int)):=⟨_,_,rfl,lgc,mgc,(HSG.out w5 (HBW.out _ b5)).2.2.2⟩
 have HGda:=fun (V:Bool) (hV:cB (clockOf f (md:Int)=clockOf f (ma:Int))=V)=>(show Calls Tryz.prog 31 #[.slice Agd (clockOf f (md:Int)).length cgd,.slice Aga (clockOf f (ma:Int)).length cga] w5 fun e w'=>e= .returned (.bool V)∧∃n,w'=(w5).drewN n by
  have:=rguards_any _ _ _ _ _ w5 SVd SVa
  rw[hV] at this
  exact this)
 have HGA:=Lib.hid HGda
 clear HGda SVd SVa SVb SVc
 have hC:=HG4.out.1
 have HC:=Lib.hid hC
 have HV:=Lib.hid (HGA.out true (cB_true hC))
 clear hC HGA
 have HSd:Hid (∀W,Below w5.heap.size w5 W→SlV W W.heap.size 2 isGd (.slice Agd (clockOf f (md:Int)).length cgd) (clockOf f (md:Int))):=fun W hW=>⟨Agd,cgd,rfl,lgd,mgd,(HSG.out W (HBW.out _ (b5.trans (hW.mono hs5)))).1.more (HBW.out _ (b5.trans (hW.mono hs5))).size⟩
 have HWI:Hid (∀W (q:Bool),Below w5.heap.size w5 W→Calls Tryz.prog 71 #[.slice Agd (clockOf f (md:Int)).length cgd,.int .i64 (ma:Int),.bool q] W (WithIs (clockOf f (md:Int)) ⟨(ma:Int),q⟩ W)):=fun W q hW=>rwith_any _ _ W (HSd.out W hW) HCL.out ⟨(ma:Int),q⟩ HWA.out
 have HGB:Hid (∀W v (V:Bool),Below w5.heap.size w5 W→SlV W W.heap.size 2 isGd v (clockOf f (md:Int)++ [⟨(ma:Int),false⟩])→cB (clockOf f (mb:Int)=clockOf f (md:Int)++ [⟨(ma:Int),false⟩])=V→Calls Tryz.prog 31 #[.slice Agb (clockOf f (mb:Int)).length cgb,v] W fun e w'=>e= .returned (.bool V)∧∃n,w'=W.drewN n):=fun W v V hW hv hV=>by
  have q:=HBW.out _ (b5.trans (hW.mono hs5))
  have:=rguards_any _ _ _ _ _ W (⟨Agb,cgb,rfl,lgb,mgb,(HSG.out W q).2.2.1.more q.size⟩:SlV W W.heap.size 2 isGd (.slice Agb (clockOf f (mb:Int)).length cgb) (clockOf f (mb:Int))) hv
  rw[hV] at this
  exact this
 have HGC:Hid (∀W v (V:Bool),Below w5.heap.size w5 W→SlV W W.heap.size 2 isGd v (clockOf f (md:Int)++ [⟨(ma:Int),true⟩])→cB (clockOf f (mc:Int)=clockOf f (md:Int)++ [⟨(ma:Int),true⟩])=V→Calls Tryz.prog 31 #[.slice Agc (clockOf f (mc:Int)).length cgc,v] W fun e w'=>e= .returned (.bool V)∧∃n,w'=W.drewN n):=fun W v V hW hv hV=>by
  have q:=HBW.out _ (b5.trans (hW.mono hs5))
  have:=rguards_any _ _ _ _ _ W (⟨Agc,cgc,rfl,lgc,mgc,(HSG.out W q).2.2.2.more q.size⟩:SlV W W.heap.size 2 isGd (.slice Agc (clockOf f (mc:Int)).length cgc) (clockOf f (mc:Int))) hv
  rw[hV] at this
  exact this
 have HS:Hid (∀W,Below w5.heap.size w5 W→W.cell? ⟨g6,0,none⟩=some (.int .i64 (tyOf f (md:Int)))∧W.cell? ⟨g6,1,none⟩=some (.slice Agd (clockOf f (md:Int)).length cgd)∧W.cell? ⟨g6+1,0,none⟩=some (.int .i64 (tyOf f (ma:Int)))∧W.cell? ⟨g6+1+1,0,none⟩=some (.int .i64 (tyOf f (mb:Int)))∧W.cell? ⟨g6+1+1,1,none⟩=some (.slice Agb (clockOf f (mb:Int)).length cgb)∧W.cell? ⟨g6+1+1+1,0,none⟩=some (.int .i64 (tyOf f (mc:Int)))∧W.cell? ⟨g6+1+1+1,1,none⟩=some (.slice Agc (clockOf f (mc:Int)).length cgc)∧W.cell? ⟨w.heap.size+1,2,none⟩=some (.int .i64 (ma:Int))):=fun W hW=>by
  obtain ⟨⟨d0,d1⟩,⟨a0,a1⟩,⟨e0,e1⟩,q0,q1⟩:=HR.out W hW
  exact ⟨d0,d1,a0,e0,e1,q0,q1,(HCX.out W (b5.trans (hW.mono hs5))).2.2.2.1⟩
 have ehA:(tyOf f (ma:Int)==2)=true:=by simpa using HG4.out.2.1
 have ehB:(tyOf f (md:Int)==tyOf f (mb:Int))=true:=by simpa using HG4.out.2.2.1
 have ehD:(tyOf f (md:Int)==tyOf f (mc:Int))=true:=by simpa using HG4.out.2.2.2
 have hE:=HE0.out
 have HVB:=Lib.hid (cB_true hE)
 clear hE
 obtain ⟨V,HVC⟩:∃V:Bool,Hid (cB (clockOf f (mc:Int)=clockOf f (md:Int)++ [(⟨(ma:Int),true⟩:Gd)])=V):=⟨_,rfl⟩
 have HF:Hid (cB (actOk f ⟨26,(md:Int),(ma:Int),(mb:Int),(mc:Int),k⟩)=V):=by
  show _=_
  rw[←HVC.out]
  exact cB_congr ⟨fun g=>(HIFF.out.1 g).2.2.2.2.2.2,fun g=>HIFF.out.2 ⟨HZk.out,HG4.out.2.1,HG4.out.1,HG4.out.2.2.1,HG4.out.2.2.2,HE0.out,g⟩⟩
 go_wp2_with fail
 (with_reducible refine Calls.mono HV.out ?_)
 rintro e wg ⟨rfl,n,rfl⟩
 go_upto_region 22 with (fail)
 refine wp_region_held_drew (S:=fun W=>W.cell? ⟨g6,0,none⟩=some (.int .i64 (tyOf f (md:Int)))∧W.cell? ⟨g6,1,none⟩=some (.slice Agd (clockOf f (md:Int)).length cgd)∧W.cell? ⟨g6+1,0,none⟩=some (.int .i64 (tyOf f (ma:Int)))∧W.cell? ⟨g6+1+1,0,none⟩=some (.int .i64 (tyOf f (mb:Int)))∧W.cell? ⟨g6+1+1,1,none⟩=some (.slice Agb (clockOf f (mb:Int)).length cgb)∧W.cell? ⟨g6+1+1+1,0,none⟩=some (.int .i64 (tyOf f (mc:Int)))∧W.cell? ⟨g6+1+1+1,1,none⟩=some (.slice Agc (clockOf f (mc:Int)).length cgc)∧W.cell? ⟨w.heap.size+1,2,none⟩=some (.int .i64 (ma:Int))) (by kernel_rfl) ?_ (fun hHeld=>?_)
 ·(try dsimp only);(first|(with_reducible exact HS.out _ bE)|go_keep)
 refine tk 0 (some 194) rfl ?_
 refine tk 1 (some 195) rfl ?_
 refine tk 2 (some 196) rfl ?_
 refine tk 3 (some 197) rfl ?_
 refine tk 4 (some 198) rfl ?_
 refine tk 5 (some 199) rfl ?_
 refine tk 6 (some 200) rfl ?_
 refine tk 7 (some 201) rfl ?_
 refine tk 8 (some 202) rfl ?_
 refine tk 9 (some 203) rfl ?_
 refine tk 10 (some 204) rfl ?_
 refine tk 11 (some 205) rfl ?_
 refine tk 12 (some 206) rfl ?_
 refine tk 13 (some 207) rfl ?_
 refine tk 14 (some 208) rfl ?_
 refine tk 15 (some 209) rfl ?_
 refine tk 16 (some 210) rfl ?_
 refine tk 17 (some 211) rfl ?_
 refine tk 18 (some 212) rfl ?_
 refine tk 19 (some 213) rfl ?_
 refine tk 20 (some 214) rfl ?_
 refine tk 21 (some 215) rfl ?_
 refine tk 22 (some 216) rfl ?_
 refine tk 23 (some 217) rfl ?_
 refine rd1 24 (some 218) rfl (fun KK hKK=>?_)
 go_simp
 (go_at_call 71;refine Calls.mono (HWI.out _ _ ?hbb) ?_;(case hbb=>exact bE);rintro e w8 ⟨v8,rfl,hs8,hb8⟩;(have hb9:Below w5.heap.size w5 w8:=Below.trans bE (hb8.mono lE));(have hs9:=hb9.size))
 (try go_wp2_with fail)
 refine hKK.out _ _ ?_ (fun hHeld=>?_)
 ·(try dsimp only);(first|(with_reducible exact HS.out _ bE)|go_keep)
 clear hKK KK
 try simp only[Act.put,List.setIfInBounds_toArray,List.set_cons_zero,List.set_cons_succ]
 refine rd1 25 (some 219) rfl (fun KK hKK=>?_)
 go_simp
 (go_at_call 31;first|(refine Calls.mono (HGB.out _ _ _ ?hbb hs8 HVB.out) ?_;(case hbb=>exact bE);rintro e w9 ⟨rfl,n9,rfl⟩;clear HGB)|(refine Calls.mono (HGC.out _ _ _ ?hbb hs8 HVC.out) ?_;(case hbb=>exact bE);rintro e w9 ⟨rfl,n9,rfl⟩))
 (try go_wp2_with fail)
 refine hKK.out _ _ ?_ (fun hHeld=>?_)
 ·(try dsimp only);(first|(with_reducible exact HS.out _ bE)|go_keep)
 clear hKK KK
 try simp only[Act.put,List.setIfInBounds_toArray,List.set_cons_zero,List.set_cons_succ]
 refine tk 26 (some 220) rfl ?_
 refine tk 27 (some 221) rfl ?_
 refine tk 28 (some 222) rfl ?_
 refine tk 29 (some 223) rfl ?_
 refine tk 30 (some 224) rfl ?_
 refine tk 31 (some 225) rfl ?_
 refine tk 32 (some 226) rfl ?_
 refine tk 33 (some 227) rfl ?_
 refine rd1 34 (some 228) rfl (fun KK hKK=>?_)
 go_simp
 (go_at_call 71;refine Calls.mono (HWI.out _ _ ?hbb) ?_;(case hbb=>exact bE);rintro e w8 ⟨v8,rfl,hs8,hb8⟩;(have hb9:Below w5.heap.size w5 w8:=Below.trans bE (hb8.mono lE));(have hs9:=hb9.size))
 (try go_wp2_with fail)
 refine hKK.out _ _ ?_ (fun hHeld=>?_)
 ·(try dsimp only);(first|(with_reducible exact HS.out _ bE)|go_keep)
 clear hKK KK
 try simp only[Act.put,List.setIfInBounds_toArray,List.set_cons_zero,List.set_cons_succ]
 refine rd1 35 (some 229) rfl (fun KK hKK=>?_)
 go_simp
 (go_at_call 31;first|(refine Calls.mono (HGB.out _ _ _ ?hbb hs8 HVB.out) ?_;(case hbb=>exact bE);rintro e w9 ⟨rfl,n9,rfl⟩;clear HGB)|(refine Calls.mono (HGC.out _ _ _ ?hbb hs8 HVC.out) ?_;(case hbb=>exact bE);rintro e w9 ⟨rfl,n9,rfl⟩))
 (try go_wp2_with fail)
 refine hKK.out _ _ ?_ (fun hHeld=>?_)
 ·(try dsimp only);(first|(with_reducible exact HS.out _ bE)|go_keep)
 clear hKK KK
 try simp only[Act.put,List.setIfInBounds_toArray,List.set_cons_zero,List.set_cons_succ]
 refine tk 36 (some 230) rfl ?_
 refine tk 37 (some 4) rfl ?_
 refine wpAnyH_done (by kernel_rfl) ?_ _
 go_wp2_with fail
 go_ret
 exact ⟨ret_bool HF.out.symm,HBW.out _ (b5.trans ((bE:Below w5.heap.size w5 _).mono hs5))⟩
end Go.Proofs.YtckognjamlckcaaGreatDoor
