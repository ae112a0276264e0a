/-
  The document's act: ops that name no parts.
-/
import Derived.Test.YtckognjamlckcaaGreatDoorR24A
import Derived.Test.YtckognjamlckcaaGreatDoorLookA
namespace Go.Proofs.YtckognjamlckcaaGreatDoor
open Go.RowKit Vf Fo
attribute [local go_sem ↓] Go.wp_at_zero Go.wp_at_succ
theorem rowN4 (W:World) (o o' o'':Obj) (cs:Array Value) (t:TypeId):Row ((((W.alloc o).alloc o').alloc o'').alloc (.cells cs t)) (W.heap.size+1+1+1) cs t:=by
 have:=Row.new (((W.alloc o).alloc o').alloc o'') cs t
 rwa [World.size_alloc,World.size_alloc,World.size_alloc] at this
theorem two_rows {W W2:World} {c1 c2:Array Value} {t1 t2:TypeId} (h:(W.alloc (.cells c1 t1)).alloc (.cells c2 t2)=W2):Below W.heap.size W W2∧Row W2 W.heap.size c1 t1∧Row W2 (W.heap.size+1) c2 t2∧W.heap.size+1+1≤W2.heap.size:=by
 rw[←h]
 exact ⟨bE,(Row.new W _ _).alloc _,rowNew2 W _ _ _,by simp⟩
theorem four_rows {W W2:World} {c1 c2 c3 c4:Array Value} {t1 t2 t3 t4:TypeId} (h:(((W.alloc (.cells c1 t1)).alloc (.cells c2 t2)).alloc (.cells c3 t3)).alloc (.cells c4 t4)=W2):
  Below W.heap.size W W2∧Row W2 W.heap.size c1 t1∧Row W2 (W.heap.size+1) c2 t2∧Row W2 (W.heap.size+1+1) c3 t3∧Row W2 (W.heap.size+1+1+1) c4 t4:=by
 rw[←h]
 exact ⟨bE,(((Row.new W _ _).alloc _).alloc _).alloc _,((rowNew2 W _ _ _).alloc _).alloc _,(rowNew3 W _ _ _ _).alloc _,rowN4 W _ _ _ _ _⟩
set_option maxRecDepth 100000 in
set_option maxHeartbeats 8000000 in
theorem ract_1 {w:World} {f:Fm} {vw va vc vk vi vo:Value} (h:FmAt w w.heap.size f vw va vc vk vi vo) (op dst a b c k:Int) (hu:uses op=0) (hop:op=1) (hall:allW3 f a b c) (hd:isW f dst):
  Calls Tryz.prog 36 #[fmV vw va vc vk vi vo,acV ⟨op,dst,a,b,c,k⟩] w fun e w'=>e= .returned (.bool (cB (actOk f ⟨op,dst,a,b,c,k⟩)))∧Below w.heap.size w w':=by
 obtain ⟨Aw,cw,hvw,lw,mw,_⟩:=h.wires
 have mw':cw≤9223372036854775807:=by unfold maxLen at mw;omega
 subst hvw
 have HALL:=Lib.hid hall
 have HU:=Lib.hid hu
 have HOP:=Lib.hid hop
 have hd':=hd
 obtain ⟨ha,hb,hc⟩:=hall
 clear hu hop
 obtain ⟨md,bx,ox,cx,Agd,cgd,hmd,hld,hv,_,_,hb6,wtd,y0d,y1d,lgd,mgd,sgd⟩:=fm_wire h hd
 injection hv with hv1 _ hv3
 subst hv1
 subst hv3
 subst hmd
 obtain ⟨b6,hb6e⟩:∃b,b=bx:=⟨_,rfl⟩
 obtain ⟨o6,ho6e⟩:∃b,b=ox:=⟨_,rfl⟩
 subst hb6e;subst ho6e
 have hld':(md:Int)<f.wires.length:=by omega
 have hcgd:cgd≤9223372036854775807:=by unfold maxLen at mgd;omega
 obtain ⟨ma,bx,ox,cx,Aga,cga,hma,hla,hv,_,_,hb6,wta,y0a,y1a,lga,mga,sga⟩:=fm_wire h ha
 injection hv with hv1 _ hv3
 injection hv1 with hv1
 injection hv1 with hv1 hv2
 subst hv1;subst hv2;subst hv3
 subst hma
 have hla':(ma:Int)<f.wires.length:=by omega
 have hcga:cga≤9223372036854775807:=by unfold maxLen at mga;omega
 obtain ⟨mb,bx,ox,cx,Agb,cgb,hmb,hlb,hv,_,_,hb6,wtb,y0b,y1b,lgb,mgb,sgb⟩:=fm_wire h hb
 injection hv with hv1 _ hv3
 injection hv1 with hv1
 injection hv1 with hv1 hv2
 subst hv1;subst hv2;subst hv3
 subst hmb
 have hlb':(mb:Int)<f.wires.length:=by omega
 have hcgb:cgb≤9223372036854775807:=by unfold maxLen at mgb;omega
 obtain ⟨mc,bx,ox,cx,Agc,cgc,hmc,hlc,hv,_,_,hb6,wtc,y0c,y1c,lgc,mgc,sgc⟩:=fm_wire h hc
 injection hv with hv1 _ hv3
 injection hv1 with hv1
 injection hv1 with hv1 hv2
 subst hv1;subst hv2;subst hv3
 subst hmc
 have hlc':(mc:Int)<f.wires.length:=by omega
 have hcgc:cgc≤9223372036854775807:=by unfold maxLen at mgc;omega
 have HSG:Hid (∀W,Below w.heap.size w W→Sl W w.heap.size 2 isGd Agd (clockOf f (md:Int))∧Sl W w.heap.size 2 isGd Aga (clockOf f (ma:Int))∧Sl W w.heap.size 2 isGd Agb (clockOf f (mb:Int))∧Sl W w.heap.size 2 isGd Agc (clockOf f (mc:Int))):=fun W hW=>⟨sgd.below hW,sga.below hW,sgb.below hW,sgc.below hW⟩
 have HWY:Hid (∀W,Below w.heap.size w W→(W.cell? ⟨b6,o6+md*2,none⟩=some (.int .i64 (tyOf f (md:Int)))∧W.cell? ⟨b6,o6+md*2+1,none⟩=some (.slice Agd (clockOf f (md:Int)).length cgd))∧(W.cell? ⟨b6,o6+ma*2,none⟩=some (.int .i64 (tyOf f (ma:Int)))∧W.cell? ⟨b6,o6+ma*2+1,none⟩=some (.slice Aga (clockOf f (ma:Int)).length cga))∧(W.cell? ⟨b6,o6+mb*2,none⟩=some (.int .i64 (tyOf f (mb:Int)))∧W.cell? ⟨b6,o6+mb*2+1,none⟩=some (.slice Agb (clockOf f (mb:Int)).length cgb))∧(W.cell? ⟨b6,o6+mc*2,none⟩=some (.int .i64 (tyOf f (mc:Int)))∧W.cell? ⟨b6,o6+mc*2+1,none⟩=some (.slice Agc (clockOf f (mc:Int)).length cgc))):=fun W hW=>⟨⟨cell_kept y0d hW,cell_kept y1d hW⟩,⟨cell_kept y0a hW,cell_kept y1a hW⟩,⟨cell_kept y0b hW,cell_kept y1b hW⟩,⟨cell_kept y0c hW,cell_kept y1c hW⟩⟩
 have HVa:=Lib.hid (cB_true ha)
 have HVb:=Lib.hid (cB_true hb)
 have HVc:=Lib.hid (cB_true hc)
 clear sgd sga sgb sgc y0d y1d y0a y1a y0b y1b y0c y1c wtd wta wtb wtc ha hb hc hd hd'
 have HFM:=Lib.hid (fun W (hW:Below w.heap.size w W)=>h.next hW)
 clear h
 go_enter Tryz.func36,Tryz.ntmps36
 go_upto_region 1 with (fail)
 generalize hWB:World.alloc (World.alloc w _) _=w1
 obtain ⟨b1,rF,rX,hs1a⟩:=two_rows hWB
 clear hWB
 have hXl:=rX.lt
 have hs1:=b1.size
 have HBW:Hid (∀W,Below w1.heap.size w1 W→Below w.heap.size w W):=fun W hW=>b1.trans (hW.mono hs1)
 have HCX:Hid (∀W,Below w1.heap.size w1 W→(W.cell? ⟨w.heap.size,0,none⟩=some (.slice (some ⟨b6,o6,none⟩) f.wires.length cw)∧W.cell? ⟨w.heap.size,1,none⟩=some va∧W.cell? ⟨w.heap.size,2,none⟩=some vc∧W.cell? ⟨w.heap.size,3,none⟩=some vk∧W.cell? ⟨w.heap.size,4,none⟩=some vi∧W.cell? ⟨w.heap.size,5,none⟩=some vo)∧
   (W.cell? ⟨w.heap.size+1,0,none⟩=some (.int .i64 op)∧W.cell? ⟨w.heap.size+1,1,none⟩=some (.int .i64 (md:Int))∧W.cell? ⟨w.heap.size+1,2,none⟩=some (.int .i64 (ma:Int))∧W.cell? ⟨w.heap.size+1,3,none⟩=some (.int .i64 (mb:Int))∧W.cell? ⟨w.heap.size+1,4,none⟩=some (.int .i64 (mc:Int))∧W.cell? ⟨w.heap.size+1,5,none⟩=some (.int .i64 k))):=fun W hW=>
  ⟨(rF.below hW (by omega)).six',(rX.below hW hXl).six'⟩
 have HI:Hid (∀W n V,Below w1.heap.size w1 W→cB (isW f n)=V→Calls Tryz.prog 30 #[fmV (.slice (some ⟨b6,o6,none⟩) f.wires.length cw) va vc vk vi vo,.int .i64 n] W fun e w'=>e= .returned (.bool V)∧Below W.heap.size W w'):=fun W n V hW hV=>by
  have:=ris_any (HFM.out W (HBW.out W hW)) n
  rw[hV] at this
  exact this
 clear rF rX
 obtain ⟨⟨f0,f1,f2,f3,f4,f5⟩,c0,c1,c2,c3,c4,c5⟩:=HCX.out w1 (Below.refl _ _)
 go_wp2_with fail
 (with_reducible refine (ruses_any _ _).mono ?_)
 rintro e w1' ⟨rfl,rfl⟩
 rw[HU.out]
 have e0:True:=trivial
 go_wp2_with fail
 (with_reducible refine (HI.out _ _ _ (Below.refl _ _) HVa.out).mono ?_)
 rintro e w2 ⟨rfl,hbw2⟩
 have bw2:Below w1.heap.size w1 w2:=hbw2
 clear f0 f1 f2 f3 f4 f5 c0 c1 c2 c3 c4 c5
 obtain ⟨⟨f0,f1,f2,f3,f4,f5⟩,c0,c1,c2,c3,c4,c5⟩:=HCX.out w2 bw2
 go_wp2_with fail
 (with_reducible refine (HI.out _ _ _ bw2 HVb.out).mono ?_)
 rintro e w3 ⟨rfl,hbw3⟩
 have bw3:Below w1.heap.size w1 w3:=bw2.trans (hbw3.mono bw2.size)
 clear f0 f1 f2 f3 f4 f5 c0 c1 c2 c3 c4 c5
 obtain ⟨⟨f0,f1,f2,f3,f4,f5⟩,c0,c1,c2,c3,c4,c5⟩:=HCX.out w3 bw3
 go_wp2_with fail
 (with_reducible refine (HI.out _ _ _ bw3 HVc.out).mono ?_)
 rintro e w4 ⟨rfl,hbw4⟩
 have bw4:Below w1.heap.size w1 w4:=bw3.trans (hbw4.mono bw3.size)
 clear f0 f1 f2 f3 f4 f5 c0 c1 c2 c3 c4 c5
 obtain ⟨⟨f0,f1,f2,f3,f4,f5⟩,c0,c1,c2,c3,c4,c5⟩:=HCX.out w4 bw4
 by_cases hz:(ma:Int)=0
 rotate_left 1
 ·have HF:Hid (cB (actOk f ⟨op,(md:Int),(ma:Int),(mb:Int),(mc:Int),k⟩)=false):=cB_false (fun g=>hz (g.2.2.2.2.1 (by dsimp only;rw[HU.out];decide)))
  have ez:((ma:Int) !=0)=true:=by simpa using hz
  clear hz
  go_wp2_with fail
  go_ret
  exact ⟨ret_bool HF.out.symm,HBW.out _ bw4⟩
 have HZa:=Lib.hid hz
 have eza:((ma:Int) !=0)=false:=by simpa using hz
 clear hz
 by_cases hz:(mb:Int)=0
 rotate_left 1
 ·have HF:Hid (cB (actOk f ⟨op,(md:Int),(ma:Int),(mb:Int),(mc:Int),k⟩)=false):=cB_false (fun g=>hz (g.2.2.2.2.2.1 (by dsimp only;rw[HU.out];decide)))
  have ez:((mb:Int) !=0)=true:=by simpa using hz
  clear hz
  go_wp2_with fail
  go_ret
  exact ⟨ret_bool HF.out.symm,HBW.out _ bw4⟩
 have HZb:=Lib.hid hz
 have ezb:((mb:Int) !=0)=false:=by simpa using hz
 clear hz
 by_cases hz:(mc:Int)=0
 rotate_left 1
 ·have HF:Hid (cB (actOk f ⟨op,(md:Int),(ma:Int),(mb:Int),(mc:Int),k⟩)=false):=cB_false (fun g=>hz (g.2.2.2.2.2.2.1 (by dsimp only;rw[HU.out];decide)))
  have ez:((mc:Int) !=0)=true:=by simpa using hz
  clear hz
  go_wp2_with fail
  go_ret
  exact ⟨ret_bool HF.out.symm,HBW.out _ bw4⟩
 have HZc:=Lib.hid hz
 have ezc:((mc:Int) !=0)=false:=by simpa using hz
 clear hz
 obtain ⟨⟨yd0,yd1⟩,⟨ya0,ya1⟩,⟨yb0,yb1⟩,yc0,yc1⟩:=HWY.out _ (HBW.out _ bw4)
 have hsw4:=(HBW.out _ bw4).size
 have hsw4':=bw4.size
 have hG4:w.heap.size+1+1≤w4.heap.size:=Nat.le_trans hs1a hsw4'
 have hb64:b6<w4.heap.size:=by omega
 have hG40:w.heap.size<w4.heap.size:=by omega
 have hG41:w.heap.size+1<w4.heap.size:=by omega
 have hZ00:b6<w4.heap.size+1:=by omega
 have hZ01:b6<w4.heap.size+1+1:=by omega
 have hZ10:w.heap.size<w4.heap.size+1:=by omega
 have hZ11:w.heap.size<w4.heap.size+1+1:=by omega
 have hZ20:w.heap.size+1<w4.heap.size+1:=by omega
 have hZ21:w.heap.size+1<w4.heap.size+1+1:=by omega
 go_upto_region 8 with (fail)
 clear hZ00 hZ01 hZ10 hZ11 hZ20 hZ21
 generalize hWA:World.alloc (World.alloc (World.alloc (World.alloc w4 _) _) _) _=w5
 obtain ⟨ba,r6,r7,r8,r9⟩:=four_rows hWA
 clear hWA
 generalize w4.heap.size=g6 at*
 have b5:Below w1.heap.size w1 w5:=bw4.trans (ba.mono (by omega))
 have hr9:=r9.lt
 have hr6:=r6.lt
 have hr7:=r7.lt
 have hr8:=r8.lt
 have hs5:=b5.size
 have HR:Hid (∀W,Below w5.heap.size w5 W→(W.cell? ⟨g6,0,none⟩=some (.int .i64 (tyOf f (md:Int)))∧W.cell? ⟨g6,1,none⟩=some (.slice Agd (clockOf f (md:Int)).length cgd))∧(W.cell? ⟨g6+1,0,none⟩=some (.int .i64 (tyOf f (ma:Int)))∧W.cell? ⟨g6+1,1,none⟩=some (.slice Aga (clockOf f (ma:Int)).length cga))∧(W.cell? ⟨g6+1+1,0,none⟩=some (.int .i64 (tyOf f (mb:Int)))∧W.cell? ⟨g6+1+1,1,none⟩=some (.slice Agb (clockOf f (mb:Int)).length cgb))∧(W.cell? ⟨g6+1+1+1,0,none⟩=some (.int .i64 (tyOf f (mc:Int)))∧W.cell? ⟨g6+1+1+1,1,none⟩=some (.slice Agc (clockOf f (mc:Int)).length cgc))):=fun W hW=>⟨(r6.below hW hr6).two',(r7.below hW hr7).two',(r8.below hW hr8).two',(r9.below hW hr9).two'⟩
 clear f0 f1 f2 f3 f4 f5 c0 c1 c2 c3 c4 c5
 clear yd0 yd1 ya0 ya1 yb0 yb1 yc0 yc1 r6 r7 r8 r9 ba
 obtain ⟨⟨f0,f1,f2,f3,f4,f5⟩,c0,c1,c2,c3,c4,c5⟩:=HCX.out w5 b5
 obtain ⟨⟨yd0,yd1⟩,⟨ya0,ya1⟩,⟨yb0,yb1⟩,yc0,yc1⟩:=HR.out w5 (Below.refl _ _)
 have hop:=HOP.out
 subst hop
 by_cases hT:tyOf f (md:Int)=1
 ·have eT:(tyOf f (md:Int)==1)=true:=by simpa using hT
  have HF:Hid (cB (actOk f ⟨1,(md:Int),(ma:Int),(mb:Int),(mc:Int),k⟩)=true):=cB_true ((act_iff1 rfl HALL.out).2 ⟨⟨HZa.out,HZb.out,HZc.out⟩,hT⟩)
  clear hT
  go_wp2_with fail
  go_ret
  exact ⟨ret_bool HF.out.symm,HBW.out _ b5⟩
 have eT:(tyOf f (md:Int)==1)=false:=by simpa using hT
 have HF:Hid (cB (actOk f ⟨1,(md:Int),(ma:Int),(mb:Int),(mc:Int),k⟩)=false):=cB_false (fun g=>hT ((act_iff1 rfl HALL.out).1 g).2)
 clear hT
 go_wp2_with fail
 go_ret
 exact ⟨ret_bool HF.out.symm,HBW.out _ b5⟩
set_option maxRecDepth 100000 in
set_option maxHeartbeats 8000000 in
theorem ract_2 {w:World} {f:Fm} {vw va vc vk vi vo:Value} (h:FmAt w w.heap.size f vw va vc vk vi vo) (op dst a b c k:Int) (hu:uses op=0) (hop:op=2) (hall:allW3 f a b c) (hd:isW f dst):
  Calls Tryz.prog 36 #[fmV vw va vc vk vi vo,acV ⟨op,dst,a,b,c,k⟩] w fun e w'=>e= .returned (.bool (cB (actOk f ⟨op,dst,a,b,c,k⟩)))∧Below w.heap.size w w':=by
 obtain ⟨Aw,cw,hvw,lw,mw,_⟩:=h.wires
 have mw':cw≤9223372036854775807:=by unfold maxLen at mw;omega
 subst hvw
 have HALL:=Lib.hid hall
 have HU:=Lib.hid hu
 have HOP:=Lib.hid hop
 have hd':=hd
 obtain ⟨ha,hb,hc⟩:=hall
 clear hu hop
 obtain ⟨md,bx,ox,cx,Agd,cgd,hmd,hld,hv,_,_,hb6,wtd,y0d,y1d,lgd,mgd,sgd⟩:=fm_wire h hd
 injection hv with hv1 _ hv3
 subst hv1
 subst hv3
 subst hmd
 obtain ⟨b6,hb6e⟩:∃b,b=bx:=⟨_,rfl⟩
 obtain ⟨o6,ho6e⟩:∃b,b=ox:=⟨_,rfl⟩
 subst hb6e;subst ho6e
 have hld':(md:Int)<f.wires.length:=by omega
 have hcgd:cgd≤9223372036854775807:=by unfold maxLen at mgd;omega
 obtain ⟨ma,bx,ox,cx,Aga,cga,hma,hla,hv,_,_,hb6,wta,y0a,y1a,lga,mga,sga⟩:=fm_wire h ha
 injection hv with hv1 _ hv3
 injection hv1 with hv1
 injection hv1 with hv1 hv2
 subst hv1;subst hv2;subst hv3
 subst hma
 have hla':(ma:Int)<f.wires.length:=by omega
 have hcga:cga≤9223372036854775807:=by unfold maxLen at mga;omega
 obtain ⟨mb,bx,ox,cx,Agb,cgb,hmb,hlb,hv,_,_,hb6,wtb,y0b,y1b,lgb,mgb,sgb⟩:=fm_wire h hb
 injection hv with hv1 _ hv3
 injection hv1 with hv1
 injection hv1 with hv1 hv2
 subst hv1;subst hv2;subst hv3
 subst hmb
 have hlb':(mb:Int)<f.wires.length:=by omega
 have hcgb:cgb≤9223372036854775807:=by unfold maxLen at mgb;omega
 obtain ⟨mc,bx,ox,cx,Agc,cgc,hmc,hlc,hv,_,_,hb6,wtc,y0c,y1c,lgc,mgc,sgc⟩:=fm_wire h hc
 injection hv with hv1 _ hv3
 injection hv1 with hv1
 injection hv1 with hv1 hv2
 subst hv1;subst hv2;subst hv3
 subst hmc
 have hlc':(mc:Int)<f.wires.length:=by omega
 have hcgc:cgc≤9223372036854775807:=by unfold maxLen at mgc;omega
 have HSG:Hid (∀W,Below w.heap.size w W→Sl W w.heap.size 2 isGd Agd (clockOf f (md:Int))∧Sl W w.heap.size 2 isGd Aga (clockOf f (ma:Int))∧Sl W w.heap.size 2 isGd Agb (clockOf f (mb:Int))∧Sl W w.heap.size 2 isGd Agc (clockOf f (mc:Int))):=fun W hW=>⟨sgd.below hW,sga.below hW,sgb.below hW,sgc.below hW⟩
 have HWY:Hid (∀W,Below w.heap.size w W→(W.cell? ⟨b6,o6+md*2,none⟩=some (.int .i64 (tyOf f (md:Int)))∧W.cell? ⟨b6,o6+md*2+1,none⟩=some (.slice Agd (clockOf f (md:Int)).length cgd))∧(W.cell? ⟨b6,o6+ma*2,none⟩=some (.int .i64 (tyOf f (ma:Int)))∧W.cell? ⟨b6,o6+ma*2+1,none⟩=some (.slice Aga (clockOf f (ma:Int)).length cga))∧(W.cell? ⟨b6,o6+mb*2,none⟩=some (.int .i64 (tyOf f (mb:Int)))∧W.cell? ⟨b6,o6+mb*2+1,none⟩=some (.slice Agb (clockOf f (mb:Int)).length cgb))∧(W.cell? ⟨b6,o6+mc*2,none⟩=some (.int .i64 (tyOf f (mc:Int)))∧W.cell? ⟨b6,o6+mc*2+1,none⟩=some (.slice Agc (clockOf f (mc:Int)).length cgc))):=fun W hW=>⟨⟨cell_kept y0d hW,cell_kept y1d hW⟩,⟨cell_kept y0a hW,cell_kept y1a hW⟩,⟨cell_kept y0b hW,cell_kept y1b hW⟩,⟨cell_kept y0c hW,cell_kept y1c hW⟩⟩
 have HVa:=Lib.hid (cB_true ha)
 have HVb:=Lib.hid (cB_true hb)
 have HVc:=Lib.hid (cB_true hc)
 clear sgd sga sgb sgc y0d y1d y0a y1a y0b y1b y0c y1c wtd wta wtb wtc ha hb hc hd hd'
 have HFM:=Lib.hid (fun W (hW:Below w.heap.size w W)=>h.next hW)
 clear h
 go_enter Tryz.func36,Tryz.ntmps36
 go_upto_region 1 with (fail)
 generalize hWB:World.alloc (World.alloc w _) _=w1
 obtain ⟨b1,rF,rX,hs1a⟩:=two_rows hWB
 clear hWB
 have hXl:=rX.lt
 have hs1:=b1.size
 have HBW:Hid (∀W,Below w1.heap.size w1 W→Below w.heap.size w W):=fun W hW=>b1.trans (hW.mono hs1)
 have HCX:Hid (∀W,Below w1.heap.size w1 W→(W.cell? ⟨w.heap.size,0,none⟩=some (.slice (some ⟨b6,o6,none⟩) f.wires.length cw)∧W.cell? ⟨w.heap.size,1,none⟩=some va∧W.cell? ⟨w.heap.size,2,none⟩=some vc∧W.cell? ⟨w.heap.size,3,none⟩=some vk∧W.cell? ⟨w.heap.size,4,none⟩=some vi∧W.cell? ⟨w.heap.size,5,none⟩=some vo)∧
   (W.cell? ⟨w.heap.size+1,0,none⟩=some (.int .i64 op)∧W.cell? ⟨w.heap.size+1,1,none⟩=some (.int .i64 (md:Int))∧W.cell? ⟨w.heap.size+1,2,none⟩=some (.int .i64 (ma:Int))∧W.cell? ⟨w.heap.size+1,3,none⟩=some (.int .i64 (mb:Int))∧W.cell? ⟨w.heap.size+1,4,none⟩=some (.int .i64 (mc:Int))∧W.cell? ⟨w.heap.size+1,5,none⟩=some (.int .i64 k))):=fun W hW=>
  ⟨(rF.below hW (by omega)).six',(rX.below hW hXl).six'⟩
 have HI:Hid (∀W n V,Below w1.heap.size w1 W→cB (isW f n)=V→Calls Tryz.prog 30 #[fmV (.slice (some ⟨b6,o6,none⟩) f.wires.length cw) va vc vk vi vo,.int .i64 n] W fun e w'=>e= .returned (.bool V)∧Below W.heap.size W w'):=fun W n V hW hV=>by
  have:=ris_any (HFM.out W (HBW.out W hW)) n
  rw[hV] at this
  exact this
 clear rF rX
 obtain ⟨⟨f0,f1,f2,f3,f4,f5⟩,c0,c1,c2,c3,c4,c5⟩:=HCX.out w1 (Below.refl _ _)
 go_wp2_with fail
 (with_reducible refine (ruses_any _ _).mono ?_)
 rintro e w1' ⟨rfl,rfl⟩
 rw[HU.out]
 have e0:True:=trivial
 go_wp2_with fail
 (with_reducible refine (HI.out _ _ _ (Below.refl _ _) HVa.out).mono ?_)
 rintro e w2 ⟨rfl,hbw2⟩
 have bw2:Below w1.heap.size w1 w2:=hbw2
 clear f0 f1 f2 f3 f4 f5 c0 c1 c2 c3 c4 c5
 obtain ⟨⟨f0,f1,f2,f3,f4,f5⟩,c0,c1,c2,c3,c4,c5⟩:=HCX.out w2 bw2
 go_wp2_with fail
 (with_reducible refine (HI.out _ _ _ bw2 HVb.out).mono ?_)
 rintro e w3 ⟨rfl,hbw3⟩
 have bw3:Below w1.heap.size w1 w3:=bw2.trans (hbw3.mono bw2.size)
 clear f0 f1 f2 f3 f4 f5 c0 c1 c2 c3 c4 c5
 obtain ⟨⟨f0,f1,f2,f3,f4,f5⟩,c0,c1,c2,c3,c4,c5⟩:=HCX.out w3 bw3
 go_wp2_with fail
 (with_reducible refine (HI.out _ _ _ bw3 HVc.out).mono ?_)
 rintro e w4 ⟨rfl,hbw4⟩
 have bw4:Below w1.heap.size w1 w4:=bw3.trans (hbw4.mono bw3.size)
 clear f0 f1 f2 f3 f4 f5 c0 c1 c2 c3 c4 c5
 obtain ⟨⟨f0,f1,f2,f3,f4,f5⟩,c0,c1,c2,c3,c4,c5⟩:=HCX.out w4 bw4
 by_cases hz:(ma:Int)=0
 rotate_left 1
 ·have HF:Hid (cB (actOk f ⟨op,(md:Int),(ma:Int),(mb:Int),(mc:Int),k⟩)=false):=cB_false (fun g=>hz (g.2.2.2.2.1 (by dsimp only;rw[HU.out];decide)))
  have ez:((ma:Int) !=0)=true:=by simpa using hz
  clear hz
  go_wp2_with fail
  go_ret
  exact ⟨ret_bool HF.out.symm,HBW.out _ bw4⟩
 have HZa:=Lib.hid hz
 have eza:((ma:Int) !=0)=false:=by simpa using hz
 clear hz
 by_cases hz:(mb:Int)=0
 rotate_left 1
 ·have HF:Hid (cB (actOk f ⟨op,(md:Int),(ma:Int),(mb:Int),(mc:Int),k⟩)=false):=cB_false (fun g=>hz (g.2.2.2.2.2.1 (by dsimp only;rw[HU.out];decide)))
  have ez:((mb:Int) !=0)=true:=by simpa using hz
  clear hz
  go_wp2_with fail
  go_ret
  exact ⟨ret_bool HF.out.symm,HBW.out _ bw4⟩
 have HZb:=Lib.hid hz
 have ezb:((mb:Int) !=0)=false:=by simpa using hz
 clear hz
 by_cases hz:(mc:Int)=0
 rotate_left 1
 ·have HF:Hid (cB (actOk f ⟨op,(md:Int),(ma:Int),(mb:Int),(mc:Int),k⟩)=false):=cB_false (fun g=>hz (g.2.2.2.2.2.2.1 (by dsimp only;rw[HU.out];decide)))
  have ez:((mc:Int) !=0)=true:=by simpa using hz
  clear hz
  go_wp2_with fail
  go_ret
  exact ⟨ret_bool HF.out.symm,HBW.out _ bw4⟩
 have HZc:=Lib.hid hz
 have ezc:((mc:Int) !=0)=false:=by simpa using hz
 clear hz
 obtain ⟨⟨yd0,yd1⟩,⟨ya0,ya1⟩,⟨yb0,yb1⟩,yc0,yc1⟩:=HWY.out _ (HBW.out _ bw4)
 have hsw4:=(HBW.out _ bw4).size
 have hsw4':=bw4.size
 have hG4:w.heap.size+1+1≤w4.heap.size:=Nat.le_trans hs1a hsw4'
 have hb64:b6<w4.heap.size:=by omega
 have hG40:w.heap.size<w4.heap.size:=by omega
 have hG41:w.heap.size+1<w4.heap.size:=by omega
 have hZ00:b6<w4.heap.size+1:=by omega
 have hZ01:b6<w4.heap.size+1+1:=by omega
 have hZ10:w.heap.size<w4.heap.size+1:=by omega
 have hZ11:w.heap.size<w4.heap.size+1+1:=by omega
 have hZ20:w.heap.size+1<w4.heap.size+1:=by omega
 have hZ21:w.heap.size+1<w4.heap.size+1+1:=by omega
 go_upto_region 8 with (fail)
 clear hZ00 hZ01 hZ10 hZ11 hZ20 hZ21
 generalize hWA:World.alloc (World.alloc (World.alloc (World.alloc w4 _) _) _) _=w5
 obtain ⟨ba,r6,r7,r8,r9⟩:=four_rows hWA
 clear hWA
 generalize w4.heap.size=g6 at*
 have b5:Below w1.heap.size w1 w5:=bw4.trans (ba.mono (by omega))
 have hr9:=r9.lt
 have hr6:=r6.lt
 have hr7:=r7.lt
 have hr8:=r8.lt
 have hs5:=b5.size
 have HR:Hid (∀W,Below w5.heap.size w5 W→(W.cell? ⟨g6,0,none⟩=some (.int .i64 (tyOf f (md:Int)))∧W.cell? ⟨g6,1,none⟩=some (.slice Agd (clockOf f (md:Int)).length cgd))∧(W.cell? ⟨g6+1,0,none⟩=some (.int .i64 (tyOf f (ma:Int)))∧W.cell? ⟨g6+1,1,none⟩=some (.slice Aga (clockOf f (ma:Int)).length cga))∧(W.cell? ⟨g6+1+1,0,none⟩=some (.int .i64 (tyOf f (mb:Int)))∧W.cell? ⟨g6+1+1,1,none⟩=some (.slice Agb (clockOf f (mb:Int)).length cgb))∧(W.cell? ⟨g6+1+1+1,0,none⟩=some (.int .i64 (tyOf f (mc:Int)))∧W.cell? ⟨g6+1+1+1,1,none⟩=some (.slice Agc (clockOf f (mc:Int)).length cgc))):=fun W hW=>⟨(r6.below hW hr6).two',(r7.below hW hr7).two',(r8.below hW hr8).two',(r9.below hW hr9).two'⟩
 clear f0 f1 f2 f3 f4 f5 c0 c1 c2 c3 c4 c5
 clear yd0 yd1 ya0 ya1 yb0 yb1 yc0 yc1 r6 r7 r8 r9 ba
 obtain ⟨⟨f0,f1,f2,f3,f4,f5⟩,c0,c1,c2,c3,c4,c5⟩:=HCX.out w5 b5
 obtain ⟨⟨yd0,yd1⟩,⟨ya0,ya1⟩,⟨yb0,yb1⟩,yc0,yc1⟩:=HR.out w5 (Below.refl _ _)
 have hop:=HOP.out
 subst hop
 by_cases hT:tyOf f (md:Int)=2
 rotate_left 1
 ·have eT:(tyOf f (md:Int)==2)=false:=by simpa using hT
  have HF:Hid (cB (actOk f ⟨2,(md:Int),(ma:Int),(mb:Int),(mc:Int),k⟩)=false):=cB_false (fun g=>hT ((act_iff2 rfl HALL.out).1 g).2.1)
  clear hT
  go_wp2_with fail
  go_ret
  exact ⟨ret_bool HF.out.symm,HBW.out _ b5⟩
 have eT:(tyOf f (md:Int)==2)=true:=by simpa using hT
 by_cases h1:0≤k
 rotate_left 1
 ·have e1:decide (0≤k)=false:=decide_eq_false h1
  have HF:Hid (cB (actOk f ⟨2,(md:Int),(ma:Int),(mb:Int),(mc:Int),k⟩)=false):=cB_false (fun g=>by have:=((act_iff2 rfl HALL.out).1 g).2.2;unfold valueOk at this;omega)
  clear hT
  go_wp2_with fail
  go_ret
  exact ⟨ret_bool HF.out.symm,HBW.out _ b5⟩
 have e1:decide (0≤k)=true:=decide_eq_true h1
 by_cases h2:k≤1
 ·have e2:decide (k≤1)=true:=decide_eq_true h2
  have HF:Hid (cB (actOk f ⟨2,(md:Int),(ma:Int),(mb:Int),(mc:Int),k⟩)=true):=cB_true ((act_iff2 rfl HALL.out).2 ⟨⟨HZa.out,HZb.out,HZc.out⟩,hT,(by unfold valueOk;omega)⟩)
  clear hT
  go_wp2_with fail
  go_ret
  exact ⟨ret_bool HF.out.symm,HBW.out _ b5⟩
 have e2:decide (k≤1)=false:=decide_eq_false h2
 have HF:Hid (cB (actOk f ⟨2,(md:Int),(ma:Int),(mb:Int),(mc:Int),k⟩)=false):=cB_false (fun g=>by have:=((act_iff2 rfl HALL.out).1 g).2.2;unfold valueOk at this;omega)
 clear hT
 go_wp2_with fail
 go_ret
 exact ⟨ret_bool HF.out.symm,HBW.out _ b5⟩
end Go.Proofs.YtckognjamlckcaaGreatDoor
