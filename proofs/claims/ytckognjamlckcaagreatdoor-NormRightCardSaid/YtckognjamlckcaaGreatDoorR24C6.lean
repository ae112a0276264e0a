/-
  The document's act: ops that name some parts.
-/
import Derived.Test.YtckognjamlckcaaGreatDoorR24C0
import Derived.Test.YtckognjamlckcaaGreatDoorLookA
namespace Go.Proofs.YtckognjamlckcaaGreatDoor
open Go.RowKit Vf Fo
attribute [local go_sem ↓] Go.wp_at_zero Go.wp_at_succ
theorem rk_none {c:Int}:∀{l:List (Int × Int)} {o:Int},(∀k∈l,k.1≠c)→rk c o l=o
 | [],o,_=>rfl
 |k::l,o,h=>by
  rw[rk,if_neg (h k (by simp))]
  exact rk_none (fun x hx=>h x (by simp[hx]))
theorem rk_first {c n:Int}:∀{l:List (Int × Int)},l.Pairwise (fun x y=>x.1≠y.1)→(l.find? (fun k=>k.1==c)).map (·.2)=some n→rk c (-1) l=n
 | [],_,h=>by simp at h
 |k::l,hp,h=>by
  rw[List.pairwise_cons] at hp
  rw[rk]
  by_cases e:k.1=c
  ·rw[if_pos e,if_neg (by simp)]
   rw[List.find?_cons_of_pos (by simpa using e)] at h
   simp at h
   rw[h]
   exact rk_none (fun x hx g=>hp.1 x hx (e.trans g.symm))
  ·rw[if_neg e]
   rw[List.find?_cons_of_neg (by simpa using e)] at h
   exact rk_first hp.2 h
theorem rk_kept {f:Fm} (h:cellsOk f) {c:Nat} (_hc:c<f.cells.length) {n:Int} (hk:kept f c=some n):rk c (-1) f.keeps=n:=rk_first (pair_of h.2.2.2.1) hk
set_option maxRecDepth 100000 in
set_option maxHeartbeats 8000000 in
theorem ract_21 {w:World} {f:Fm} {vw va vc vk vi vo:Value} (h:FmAt w w.heap.size f vw va vc vk vi vo) (op dst a b c k:Int) (hu:uses op=0) (hop:op=21) (hall:allW3 f a b c) (hd:isW f dst) (hcok:cellsOk f):
  Calls Tryz.prog 36 #[fmV vw va vc vk vi vo,acV ⟨op,dst,a,b,c,k⟩] w fun e w'=>e= .returned (.bool (cB (actOk f ⟨op,dst,a,b,c,k⟩)))∧Below w.heap.size w w':=by
 obtain ⟨Aw,cw,hvw,lw,mw,_⟩:=h.wires
 have mw':cw≤9223372036854775807:=by unfold maxLen at mw;omega
 subst hvw
 have HALL:=Lib.hid hall
 have HU:=Lib.hid hu
 have HOP:=Lib.hid hop
 have hd':=hd
 obtain ⟨ha,hb,hc⟩:=hall
 clear hu hop
 have HCK:=Lib.hid hcok
 clear hcok
 obtain ⟨md,bx,ox,cx,Agd,cgd,hmd,hld,hv,_,_,hb6,wtd,y0d,y1d,lgd,mgd,sgd⟩:=fm_wire h hd
 injection hv with hv1 _ hv3
 subst hv1
 subst hv3
 subst hmd
 obtain ⟨b6,hb6e⟩:∃b,b=bx:=⟨_,rfl⟩
 obtain ⟨o6,ho6e⟩:∃b,b=ox:=⟨_,rfl⟩
 subst hb6e;subst ho6e
 have hld':(md:Int)<f.wires.length:=by omega
 have hcgd:cgd≤9223372036854775807:=by unfold maxLen at mgd;omega
 obtain ⟨ma,bx,ox,cx,Aga,cga,hma,hla,hv,_,_,hb6,wta,y0a,y1a,lga,mga,sga⟩:=fm_wire h ha
 injection hv with hv1 _ hv3
 injection hv1 with hv1
 injection hv1 with hv1 hv2
 subst hv1;subst hv2;subst hv3
 subst hma
 have hla':(ma:Int)<f.wires.length:=by omega
 have hcga:cga≤9223372036854775807:=by unfold maxLen at mga;omega
 obtain ⟨mb,bx,ox,cx,Agb,cgb,hmb,hlb,hv,_,_,hb6,wtb,y0b,y1b,lgb,mgb,sgb⟩:=fm_wire h hb
 injection hv with hv1 _ hv3
 injection hv1 with hv1
 injection hv1 with hv1 hv2
 subst hv1;subst hv2;subst hv3
 subst hmb
 have hlb':(mb:Int)<f.wires.length:=by omega
 have hcgb:cgb≤9223372036854775807:=by unfold maxLen at mgb;omega
 obtain ⟨mc,bx,ox,cx,Agc,cgc,hmc,hlc,hv,_,_,hb6,wtc,y0c,y1c,lgc,mgc,sgc⟩:=fm_wire h hc
 injection hv with hv1 _ hv3
 injection hv1 with hv1
 injection hv1 with hv1 hv2
 subst hv1;subst hv2;subst hv3
 subst hmc
 have hlc':(mc:Int)<f.wires.length:=by omega
 have hcgc:cgc≤9223372036854775807:=by unfold maxLen at mgc;omega
 have HSG:Hid (∀W,Below w.heap.size w W→Sl W w.heap.size 2 isGd Agd (clockOf f (md:Int))∧Sl W w.heap.size 2 isGd Aga (clockOf f (ma:Int))∧Sl W w.heap.size 2 isGd Agb (clockOf f (mb:Int))∧Sl W w.heap.size 2 isGd Agc (clockOf f (mc:Int))):=fun W hW=>⟨sgd.below hW,sga.below hW,sgb.below hW,sgc.below hW⟩
 have HWY:Hid (∀W,Below w.heap.size w W→(W.cell? ⟨b6,o6+md*2,none⟩=some (.int .i64 (tyOf f (md:Int)))∧W.cell? ⟨b6,o6+md*2+1,none⟩=some (.slice Agd (clockOf f (md:Int)).length cgd))∧(W.cell? ⟨b6,o6+ma*2,none⟩=some (.int .i64 (tyOf f (ma:Int)))∧W.cell? ⟨b6,o6+ma*2+1,none⟩=some (.slice Aga (clockOf f (ma:Int)).length cga))∧(W.cell? ⟨b6,o6+mb*2,none⟩=some (.int .i64 (tyOf f (mb:Int)))∧W.cell? ⟨b6,o6+mb*2+1,none⟩=some (.slice Agb (clockOf f (mb:Int)).length cgb))∧(W.cell? ⟨b6,o6+mc*2,none⟩=some (.int .i64 (tyOf f (mc:Int)))∧W.cell? ⟨b6,o6+mc*2+1,none⟩=some (.slice Agc (clockOf f (mc:Int)).length cgc))):=fun W hW=>⟨⟨cell_kept y0d hW,cell_kept y1d hW⟩,⟨cell_kept y0a hW,cell_kept y1a hW⟩,⟨cell_kept y0b hW,cell_kept y1b hW⟩,⟨cell_kept y0c hW,cell_kept y1c hW⟩⟩
 have HVa:=Lib.hid (cB_true ha)
 have HVb:=Lib.hid (cB_true hb)
 have HVc:=Lib.hid (cB_true hc)
 clear sgd sga sgb sgc y0d y1d y0a y1a y0b y1b y0c y1c wtd wta wtb wtc ha hb hc hd hd'
 obtain ⟨Acl,cc,rfl,lc,mc_,sc⟩:=h.cells
 have HSC:=Lib.hid (fun W (hW:Below w.heap.size w W)=>sc.below hW)
 have HFM:=Lib.hid (fun W (hW:Below w.heap.size w W)=>h.next hW)
 have HFW:=Lib.hid (fun (n:Int) (hn:isW f n)=>fm_wire h hn)
 clear sc
 clear h
 go_enter Tryz.func36,Tryz.ntmps36
 go_upto_region 1 with (fail)
 generalize hWB:World.alloc (World.alloc w _) _=w1
 obtain ⟨b1,rF,rX,hs1a⟩:=two_rows hWB
 clear hWB
 have hXl:=rX.lt
 have hs1:=b1.size
 have HBW:Hid (∀W,Below w1.heap.size w1 W→Below w.heap.size w W):=fun W hW=>b1.trans (hW.mono hs1)
 have HCX:Hid (∀W,Below w1.heap.size w1 W→(W.cell? ⟨w.heap.size,0,none⟩=some (.slice (some ⟨b6,o6,none⟩) f.wires.length cw)∧W.cell? ⟨w.heap.size,1,none⟩=some va∧W.cell? ⟨w.heap.size,2,none⟩=some (.slice Acl f.cells.length cc)∧W.cell? ⟨w.heap.size,3,none⟩=some vk∧W.cell? ⟨w.heap.size,4,none⟩=some vi∧W.cell? ⟨w.heap.size,5,none⟩=some vo)∧
   (W.cell? ⟨w.heap.size+1,0,none⟩=some (.int .i64 op)∧W.cell? ⟨w.heap.size+1,1,none⟩=some (.int .i64 (md:Int))∧W.cell? ⟨w.heap.size+1,2,none⟩=some (.int .i64 (ma:Int))∧W.cell? ⟨w.heap.size+1,3,none⟩=some (.int .i64 (mb:Int))∧W.cell? ⟨w.heap.size+1,4,none⟩=some (.int .i64 (mc:Int))∧W.cell? ⟨w.heap.size+1,5,none⟩=some (.int .i64 k))):=fun W hW=>
  ⟨(rF.below hW (by omega)).six',(rX.below hW hXl).six'⟩
 have HI:Hid (∀W n V,Below w1.heap.size w1 W→cB (isW f n)=V→Calls Tryz.prog 30 #[fmV (.slice (some ⟨b6,o6,none⟩) f.wires.length cw) va (.slice Acl f.cells.length cc) vk vi vo,.int .i64 n] W fun e w'=>e= .returned (.bool V)∧Below W.heap.size W w'):=fun W n V hW hV=>by
  have:=ris_any (HFM.out W (HBW.out W hW)) n
  rw[hV] at this
  exact this
 clear rF rX
 obtain ⟨⟨f0,f1,f2,f3,f4,f5⟩,c0,c1,c2,c3,c4,c5⟩:=HCX.out w1 (Below.refl _ _)
 go_wp2_with fail
 (with_reducible refine (ruses_any _ _).mono ?_)
 rintro e w1' ⟨rfl,rfl⟩
 rw[HU.out]
 have e0:True:=trivial
 go_wp2_with fail
 (with_reducible refine (HI.out _ _ _ (Below.refl _ _) HVa.out).mono ?_)
 rintro e w2 ⟨rfl,hbw2⟩
 have bw2:Below w1.heap.size w1 w2:=hbw2
 clear f0 f1 f2 f3 f4 f5 c0 c1 c2 c3 c4 c5
 obtain ⟨⟨f0,f1,f2,f3,f4,f5⟩,c0,c1,c2,c3,c4,c5⟩:=HCX.out w2 bw2
 go_wp2_with fail
 (with_reducible refine (HI.out _ _ _ bw2 HVb.out).mono ?_)
 rintro e w3 ⟨rfl,hbw3⟩
 have bw3:Below w1.heap.size w1 w3:=bw2.trans (hbw3.mono bw2.size)
 clear f0 f1 f2 f3 f4 f5 c0 c1 c2 c3 c4 c5
 obtain ⟨⟨f0,f1,f2,f3,f4,f5⟩,c0,c1,c2,c3,c4,c5⟩:=HCX.out w3 bw3
 go_wp2_with fail
 (with_reducible refine (HI.out _ _ _ bw3 HVc.out).mono ?_)
 rintro e w4 ⟨rfl,hbw4⟩
 have bw4:Below w1.heap.size w1 w4:=bw3.trans (hbw4.mono bw3.size)
 clear f0 f1 f2 f3 f4 f5 c0 c1 c2 c3 c4 c5
 obtain ⟨⟨f0,f1,f2,f3,f4,f5⟩,c0,c1,c2,c3,c4,c5⟩:=HCX.out w4 bw4
 by_cases hz:(ma:Int)=0
 rotate_left 1
 ·have HF:Hid (cB (actOk f ⟨op,(md:Int),(ma:Int),(mb:Int),(mc:Int),k⟩)=false):=cB_false (fun g=>hz (g.2.2.2.2.1 (by dsimp only;rw[HU.out];decide)))
  have ez:((ma:Int) !=0)=true:=by simpa using hz
  clear hz
  go_wp2_with fail
  go_ret
  exact ⟨ret_bool HF.out.symm,HBW.out _ bw4⟩
 have HZa:=Lib.hid hz
 have eza:((ma:Int) !=0)=false:=by simpa using hz
 clear hz
 by_cases hz:(mb:Int)=0
 rotate_left 1
 ·have HF:Hid (cB (actOk f ⟨op,(md:Int),(ma:Int),(mb:Int),(mc:Int),k⟩)=false):=cB_false (fun g=>hz (g.2.2.2.2.2.1 (by dsimp only;rw[HU.out];decide)))
  have ez:((mb:Int) !=0)=true:=by simpa using hz
  clear hz
  go_wp2_with fail
  go_ret
  exact ⟨ret_bool HF.out.symm,HBW.out _ bw4⟩
 have HZb:=Lib.hid hz
 have ezb:((mb:Int) !=0)=false:=by simpa using hz
 clear hz
 by_cases hz:(mc:Int)=0
 rotate_left 1
 ·have HF:Hid (cB (actOk f ⟨op,(md:Int),(ma:Int),(mb:Int),(mc:Int),k⟩)=false):=cB_false (fun g=>hz (g.2.2.2.2.2.2.1 (by dsimp only;rw[HU.out];decide)))
  have ez:((mc:Int) !=0)=true:=by simpa using hz
  clear hz
  go_wp2_with fail
  go_ret
  exact ⟨ret_bool HF.out.symm,HBW.out _ bw4⟩
 have HZc:=Lib.hid hz
 have ezc:((mc:Int) !=0)=false:=by simpa using hz
 clear hz
 obtain ⟨⟨yd0,yd1⟩,⟨ya0,ya1⟩,⟨yb0,yb1⟩,yc0,yc1⟩:=HWY.out _ (HBW.out _ bw4)
 have hsw4:=(HBW.out _ bw4).size
 have hsw4':=bw4.size
 have hG4:w.heap.size+1+1≤w4.heap.size:=Nat.le_trans hs1a hsw4'
 have hb64:b6<w4.heap.size:=by omega
 have hG40:w.heap.size<w4.heap.size:=by omega
 have hG41:w.heap.size+1<w4.heap.size:=by omega
 have hZ00:b6<w4.heap.size+1:=by omega
 have hZ01:b6<w4.heap.size+1+1:=by omega
 have hZ10:w.heap.size<w4.heap.size+1:=by omega
 have hZ11:w.heap.size<w4.heap.size+1+1:=by omega
 have hZ20:w.heap.size+1<w4.heap.size+1:=by omega
 have hZ21:w.heap.size+1<w4.heap.size+1+1:=by omega
 go_upto_region 8 with (fail)
 clear hZ00 hZ01 hZ10 hZ11 hZ20 hZ21
 generalize hWA:World.alloc (World.alloc (World.alloc (World.alloc w4 _) _) _) _=w5
 obtain ⟨ba,r6,r7,r8,r9⟩:=four_rows hWA
 clear hWA
 generalize w4.heap.size=g6 at*
 have b5:Below w1.heap.size w1 w5:=bw4.trans (ba.mono (by omega))
 have hr9:=r9.lt
 have hr6:=r6.lt
 have hr7:=r7.lt
 have hr8:=r8.lt
 have hs5:=b5.size
 have HR:Hid (∀W,Below w5.heap.size w5 W→(W.cell? ⟨g6,0,none⟩=some (.int .i64 (tyOf f (md:Int)))∧W.cell? ⟨g6,1,none⟩=some (.slice Agd (clockOf f (md:Int)).length cgd))∧(W.cell? ⟨g6+1,0,none⟩=some (.int .i64 (tyOf f (ma:Int)))∧W.cell? ⟨g6+1,1,none⟩=some (.slice Aga (clockOf f (ma:Int)).length cga))∧(W.cell? ⟨g6+1+1,0,none⟩=some (.int .i64 (tyOf f (mb:Int)))∧W.cell? ⟨g6+1+1,1,none⟩=some (.slice Agb (clockOf f (mb:Int)).length cgb))∧(W.cell? ⟨g6+1+1+1,0,none⟩=some (.int .i64 (tyOf f (mc:Int)))∧W.cell? ⟨g6+1+1+1,1,none⟩=some (.slice Agc (clockOf f (mc:Int)).length cgc))):=fun W hW=>⟨(r6.below hW hr6).two',(r7.below hW hr7).two',(r8.below hW hr8).two',(r9.below hW hr9).two'⟩
 clear f0 f1 f2 f3 f4 f5 c0 c1 c2 c3 c4 c5
 clear yd0 yd1 ya0 ya1 yb0 yb1 yc0 yc1 r6 r7 r8 r9 ba
 obtain ⟨⟨f0,f1,f2,f3,f4,f5⟩,c0,c1,c2,c3,c4,c5⟩:=HCX.out w5 b5
 obtain ⟨⟨yd0,yd1⟩,⟨ya0,ya1⟩,⟨yb0,yb1⟩,yc0,yc1⟩:=HR.out w5 (Below.refl _ _)
 have hop:=HOP.out
 subst hop
 have HIFF:=Lib.hid (act_iff21 (f:=f) (op:=21) (dst:=(md:Int)) (a:=(ma:Int)) (b:=(mb:Int)) (c:=(mc:Int)) (k:=k) rfl HALL.out)
 by_cases h1:k<0
 ·have e1:decide (k<0)=true:=decide_eq_true h1
  have HF:Hid (cB (actOk f ⟨21,(md:Int),(ma:Int),(mb:Int),(mc:Int),k⟩)=false):=cB_false (fun g=>by have:=(HIFF.out.1 g).2.1.1;omega)
  clear h1
  go_wp2_with fail
  go_ret
  exact ⟨ret_bool HF.out.symm,HBW.out _ b5⟩
 have e1:decide (k<0)=false:=decide_eq_false h1
 obtain ⟨kk,rfl⟩:=Int.eq_ofNat_of_zero_le (by omega:0≤k)
 by_cases h2:(f.cells.length:Int)≤kk
 ·have e2:decide ((f.cells.length:Int)≤kk)=true:=decide_eq_true h2
  have e2':decide (f.cells.length≤kk)=true:=decide_eq_true (by omega)
  have HF:Hid (cB (actOk f ⟨21,(md:Int),(ma:Int),(mb:Int),(mc:Int),(kk:Int)⟩)=false):=cB_false (fun g=>by have:=(HIFF.out.1 g).2.1.2;omega)
  clear h2 h1
  go_wp2_with fail
  go_ret
  exact ⟨ret_bool HF.out.symm,HBW.out _ b5⟩
 have e2:decide ((f.cells.length:Int)≤kk)=false:=decide_eq_false h2
 have e2':decide (f.cells.length≤kk)=false:=decide_eq_false (by omega)
 have hkk:kk<f.cells.length:=by omega
 have hkk':(kk:Int)<f.cells.length:=by omega
 clear h1 h2
 obtain ⟨n,hkp,hnw,hnt⟩:=kept_isW HCK.out hkk
 have HKP:=Lib.hid hkp
 have HRK:=Lib.hid (rk_kept HCK.out hkk hkp)
 obtain ⟨mn,bx,ox,cx,Agn,cgn,hmn,hln,hv,_,_,hb6n,wtn,y0n,y1n,lgn,mgn,sgn⟩:=HFW.out n hnw
 injection hv with hv1 _ hv3
 injection hv1 with hv1
 injection hv1 with hv1 hv2
 subst hv1;subst hv2;subst hv3
 subst hmn
 have hln':(mn:Int)<f.wires.length:=by omega
 obtain ⟨b3,off3,xc,hAc,hb3,hxc,_,_,z0,z1⟩:=(HSC.out _ (HBW.out _ b5)).cell hkk
 subst hAc
 have HTC:=Lib.hid (show getI (types f.cells) (kk:Int)=xc.1 from getI_at (types_at hxc))
 clear z1 hxc hkp hnw hnt y0n wtn
 generalize xc.1=T2 at*
 have HSN:Hid (∀W,Below w.heap.size w W→Sl W w.heap.size 2 isGd Agn (clockOf f (mn:Int))∧W.cell? ⟨b6,o6+mn*2+1,none⟩=some (.slice Agn (clockOf f (mn:Int)).length cgn)):=fun W hW=>⟨sgn.below hW,cell_kept y1n hW⟩
 have HS:Hid (∀W,Below w5.heap.size w5 W→W.cell? ⟨w.heap.size,0,none⟩=some (.slice (some ⟨b6,o6,none⟩) f.wires.length cw)∧W.cell? ⟨w.heap.size,1,none⟩=some va∧W.cell? ⟨w.heap.size,2,none⟩=some (.slice (some ⟨b3,off3,none⟩) f.cells.length cc)∧W.cell? ⟨w.heap.size,3,none⟩=some vk∧W.cell? ⟨w.heap.size,4,none⟩=some vi∧W.cell? ⟨w.heap.size,5,none⟩=some vo∧W.cell? ⟨g6,0,none⟩=some (.int .i64 (tyOf f (md:Int)))∧W.cell? ⟨g6,1,none⟩=some (.slice Agd (clockOf f (md:Int)).length cgd)∧W.cell? ⟨w.heap.size+1,5,none⟩=some (.int .i64 (kk:Int))∧W.cell? ⟨b3,off3+kk*2,none⟩=some (.int .i64 T2)∧W.cell? ⟨b6,o6+mn*2+1,none⟩=some (.slice Agn (clockOf f (mn:Int)).length cgn)):=fun W hW=>by
  obtain ⟨⟨p0,p1,p2,p3,p4,p5⟩,q0,q1,q2,q3,q4,q5⟩:=HCX.out W (b5.trans (hW.mono hs5))
  obtain ⟨⟨d0,d1⟩,_⟩:=HR.out W hW
  exact ⟨p0,p1,p2,p3,p4,p5,d0,d1,q5,cell_kept z0 hW,(HSN.out W (HBW.out _ (b5.trans (hW.mono hs5)))).2⟩
 have HKC:Hid (∀W,Below w5.heap.size w5 W→Calls Tryz.prog 34 #[fmV (.slice (some ⟨b6,o6,none⟩) f.wires.length cw) va (.slice (some ⟨b3,off3,none⟩) f.cells.length cc) vk vi vo,.int .i64 (kk:Int)] W fun e w'=>e= .returned (.int .i64 (mn:Int))∧Below W.heap.size W w'):=fun W hW=>by
  have:=rkept_any (HFM.out W (HBW.out _ (b5.trans (hW.mono hs5)))) (kk:Int)
  rw[HRK.out] at this
  exact this
 have HGN:Hid (∀W (V:Bool),Below w5.heap.size w5 W→cB (clockOf f (md:Int)=clockOf f (mn:Int))=V→Calls Tryz.prog 31 #[.slice Agd (clockOf f (md:Int)).length cgd,.slice Agn (clockOf f (mn:Int)).length cgn] W fun e w'=>e= .returned (.bool V)∧∃n,w'=W.drewN n):=fun W V hW hV=>by
  have q:=HBW.out _ (b5.trans (hW.mono hs5))
  have:=rguards_any _ _ _ _ _ W (⟨Agd,cgd,rfl,lgd,mgd,(HSG.out W q).1⟩:SlV W w.heap.size 2 isGd (.slice Agd (clockOf f (md:Int)).length cgd) (clockOf f (md:Int))) (⟨Agn,cgn,rfl,lgn,mgn,(HSN.out W q).1⟩:SlV W w.heap.size 2 isGd (.slice Agn (clockOf f (mn:Int)).length cgn) (clockOf f (mn:Int)))
  rw[hV] at this
  exact this
 clear z0 y1n sgn
 go_upto_region 15 with (fail)
 by_cases hT:tyOf f (md:Int)=T2
 rotate_left 1
 ·have eT:(tyOf f (md:Int)==T2)=false:=by simpa using hT
  have HF:Hid (cB (actOk f ⟨21,(md:Int),(ma:Int),(mb:Int),(mc:Int),(kk:Int)⟩)=false):=cB_false (fun g=>hT ((HIFF.out.1 g).2.2.1.trans HTC.out))
  clear hT
  refine wp_region_held_drew (S:=fun W=>W.cell? ⟨w.heap.size,0,none⟩=some (.slice (some ⟨b6,o6,none⟩) f.wires.length cw)∧W.cell? ⟨w.heap.size,1,none⟩=some va∧W.cell? ⟨w.heap.size,2,none⟩=some (.slice (some ⟨b3,off3,none⟩) f.cells.length cc)∧W.cell? ⟨w.heap.size,3,none⟩=some vk∧W.cell? ⟨w.heap.size,4,none⟩=some vi∧W.cell? ⟨w.heap.size,5,none⟩=some vo∧W.cell? ⟨g6,0,none⟩=some (.int .i64 (tyOf f (md:Int)))∧W.cell? ⟨g6,1,none⟩=some (.slice Agd (clockOf f (md:Int)).length cgd)∧W.cell? ⟨w.heap.size+1,5,none⟩=some (.int .i64 (kk:Int))∧W.cell? ⟨b3,off3+kk*2,none⟩=some (.int .i64 T2)∧W.cell? ⟨b6,o6+mn*2+1,none⟩=some (.slice Agn (clockOf f (mn:Int)).length cgn)) (by kernel_rfl) ?_ (fun hHeld=>?_)
  ·(try dsimp only);(first|(with_reducible exact HS.out _ bE)|go_keep)
  refine tk 0 (some 136) rfl ?_
  refine tk 1 (some 137) rfl ?_
  refine tk 2 (some 138) rfl ?_
  refine tk 3 (some 139) rfl ?_
  refine tk 4 (some 140) rfl ?_
  refine tk 5 (some 141) rfl ?_
  refine tk 6 (some 142) rfl ?_
  refine tk 7 (some 143) rfl ?_
  refine tk 8 (some 144) rfl ?_
  refine tk 9 (some 145) rfl ?_
  refine tk 10 (some 146) rfl ?_
  refine sk 11 (some 147) rfl ?_
  refine sk 12 (some 148) rfl ?_
  refine sk 13 (some 149) rfl ?_
  refine sk 14 (some 150) rfl ?_
  refine sk 15 (some 151) rfl ?_
  refine sk 16 (some 152) rfl ?_
  refine sk 17 (some 153) rfl ?_
  refine sk 18 (some 154) rfl ?_
  refine sk 19 (some 155) rfl ?_
  refine sk 20 (some 156) rfl ?_
  refine sk 21 (some 157) rfl ?_
  refine sk 22 (some 158) rfl ?_
  refine tk 23 (some 159) rfl ?_
  refine tk 24 (some 4) rfl ?_
  refine wpAnyH_done (by kernel_rfl) ?_ _
  go_wp2_with fail
  go_ret
  exact ⟨ret_bool HF.out.symm,HBW.out _ (b5.trans ((bE:Below w5.heap.size w5 _).mono hs5))⟩
 have eT:(tyOf f (md:Int)==T2)=true:=by simpa using hT
 have HT:=Lib.hid hT
 clear hT
 by_cases hC:clockOf f (md:Int)=clockOf f (mn:Int)
 rotate_left 1
 ·have HVN:=Lib.hid (cB_false hC)
  have HF:Hid (cB (actOk f ⟨21,(md:Int),(ma:Int),(mb:Int),(mc:Int),(kk:Int)⟩)=false):=cB_false (fun g=>by obtain ⟨q,hq,hcq⟩:=(HIFF.out.1 g).2.2.2;rw[HKP.out] at hq;injection hq with hq;rw[←hq] at hcq;exact hC hcq)
  clear hC
  refine wp_region_held_drew (S:=fun W=>W.cell? ⟨w.heap.size,0,none⟩=some (.slice (some ⟨b6,o6,none⟩) f.wires.length cw)∧W.cell? ⟨w.heap.size,1,none⟩=some va∧W.cell? ⟨w.heap.size,2,none⟩=some (.slice (some ⟨b3,off3,none⟩) f.cells.length cc)∧W.cell? ⟨w.heap.size,3,none⟩=some vk∧W.cell? ⟨w.heap.size,4,none⟩=some vi∧W.cell? ⟨w.heap.size,5,none⟩=some vo∧W.cell? ⟨g6,0,none⟩=some (.int .i64 (tyOf f (md:Int)))∧W.cell? ⟨g6,1,none⟩=some (.slice Agd (clockOf f (md:Int)).length cgd)∧W.cell? ⟨w.heap.size+1,5,none⟩=some (.int .i64 (kk:Int))∧W.cell? ⟨b3,off3+kk*2,none⟩=some (.int .i64 T2)∧W.cell? ⟨b6,o6+mn*2+1,none⟩=some (.slice Agn (clockOf f (mn:Int)).length cgn)) (by kernel_rfl) ?_ (fun hHeld=>?_)
  ·(try dsimp only);(first|(with_reducible exact HS.out _ bE)|go_keep)
  refine tk 0 (some 136) rfl ?_
  refine tk 1 (some 137) rfl ?_
  refine tk 2 (some 138) rfl ?_
  refine tk 3 (some 139) rfl ?_
  refine tk 4 (some 140) rfl ?_
  refine tk 5 (some 141) rfl ?_
  refine tk 6 (some 142) rfl ?_
  refine tk 7 (some 143) rfl ?_
  refine tk 8 (some 144) rfl ?_
  refine tk 9 (some 145) rfl ?_
  refine tk 10 (some 146) rfl ?_
  refine tk 11 (some 147) rfl ?_
  refine tk 12 (some 148) rfl ?_
  refine tk 13 (some 149) rfl ?_
  refine tk 14 (some 150) rfl ?_
  refine tk 15 (some 151) rfl ?_
  refine tk 16 (some 152) rfl ?_
  refine tk 17 (some 153) rfl ?_
  refine rd1 18 (some 154) rfl (fun KK hKK=>?_)
  go_simp
  (go_at_call 34;refine Calls.mono (HKC.out _ ?hbb) ?_;(case hbb=>exact bE);rintro e w8 ⟨rfl,hb8⟩;(have hb9:Below w5.heap.size w5 w8:=Below.trans bE (hb8.mono lE));(have hs9:=hb9.size))
  (try go_wp2_with fail)
  refine hKK.out _ _ ?_ (fun hHeld=>?_)
  ·(try dsimp only);(first|(with_reducible exact HS.out _ bE)|go_keep)
  clear hKK KK
  try simp only[Act.put,List.setIfInBounds_toArray,List.set_cons_zero,List.set_cons_succ]
  refine tk 19 (some 155) rfl ?_
  refine tk 20 (some 156) rfl ?_
  refine tk 21 (some 157) rfl ?_
  refine rd1 22 (some 158) rfl (fun KK hKK=>?_)
  go_simp
  (go_at_call 31;refine Calls.mono (HGN.out _ _ ?hbb HVN.out) ?_;(case hbb=>exact bE);rintro e w9 ⟨rfl,n9,rfl⟩)
  (try go_wp2_with fail)
  refine hKK.out _ _ ?_ (fun hHeld=>?_)
  ·(try dsimp only);(first|(with_reducible exact HS.out _ bE)|go_keep)
  clear hKK KK
  try simp only[Act.put,List.setIfInBounds_toArray,List.set_cons_zero,List.set_cons_succ]
  refine tk 23 (some 159) rfl ?_
  refine tk 24 (some 4) rfl ?_
  refine wpAnyH_done (by kernel_rfl) ?_ _
  go_wp2_with fail
  go_ret
  exact ⟨ret_bool HF.out.symm,HBW.out _ (b5.trans ((bE:Below w5.heap.size w5 _).mono hs5))⟩
 have HVN:=Lib.hid (cB_true hC)
 have HF:Hid (cB (actOk f ⟨21,(md:Int),(ma:Int),(mb:Int),(mc:Int),(kk:Int)⟩)=true):=cB_true (HIFF.out.2 ⟨⟨HZa.out,HZb.out,HZc.out⟩,⟨by omega,hkk'⟩,HT.out.trans HTC.out.symm,_,HKP.out,hC⟩)
 clear hC
 refine wp_region_held_drew (S:=fun W=>W.cell? ⟨w.heap.size,0,none⟩=some (.slice (some ⟨b6,o6,none⟩) f.wires.length cw)∧W.cell? ⟨w.heap.size,1,none⟩=some va∧W.cell? ⟨w.heap.size,2,none⟩=some (.slice (some ⟨b3,off3,none⟩) f.cells.length cc)∧W.cell? ⟨w.heap.size,3,none⟩=some vk∧W.cell? ⟨w.heap.size,4,none⟩=some vi∧W.cell? ⟨w.heap.size,5,none⟩=some vo∧W.cell? ⟨g6,0,none⟩=some (.int .i64 (tyOf f (md:Int)))∧W.cell? ⟨g6,1,none⟩=some (.slice Agd (clockOf f (md:Int)).length cgd)∧W.cell? ⟨w.heap.size+1,5,none⟩=some (.int .i64 (kk:Int))∧W.cell? ⟨b3,off3+kk*2,none⟩=some (.int .i64 T2)∧W.cell? ⟨b6,o6+mn*2+1,none⟩=some (.slice Agn (clockOf f (mn:Int)).length cgn)) (by kernel_rfl) ?_ (fun hHeld=>?_)
 ·(try dsimp only);(first|(with_reducible exact HS.out _ bE)|go_keep)
 refine tk 0 (some 136) rfl ?_
 refine tk 1 (some 137) rfl ?_
 refine tk 2 (some 138) rfl ?_
 refine tk 3 (some 139) rfl ?_
 refine tk 4 (some 140) rfl ?_
 refine tk 5 (some 141) rfl ?_
 refine tk 6 (some 142) rfl ?_
 refine tk 7 (some 143) rfl ?_
 refine tk 8 (some 144) rfl ?_
 refine tk 9 (some 145) rfl ?_
 refine tk 10 (some 146) rfl ?_
 refine tk 11 (some 147) rfl ?_
 refine tk 12 (some 148) rfl ?_
 refine tk 13 (some 149) rfl ?_
 refine tk 14 (some 150) rfl ?_
 refine tk 15 (some 151) rfl ?_
 refine tk 16 (some 152) rfl ?_
 refine tk 17 (some 153) rfl ?_
 refine rd1 18 (some 154) rfl (fun KK hKK=>?_)
 go_simp
 (go_at_call 34;refine Calls.mono (HKC.out _ ?hbb) ?_;(case hbb=>exact bE);rintro e w8 ⟨rfl,hb8⟩;(have hb9:Below w5.heap.size w5 w8:=Below.trans bE (hb8.mono lE));(have hs9:=hb9.size))
 (try go_wp2_with fail)
 refine hKK.out _ _ ?_ (fun hHeld=>?_)
 ·(try dsimp only);(first|(with_reducible exact HS.out _ bE)|go_keep)
 clear hKK KK
 try simp only[Act.put,List.setIfInBounds_toArray,List.set_cons_zero,List.set_cons_succ]
 refine tk 19 (some 155) rfl ?_
 refine tk 20 (some 156) rfl ?_
 refine tk 21 (some 157) rfl ?_
 refine rd1 22 (some 158) rfl (fun KK hKK=>?_)
 go_simp
 (go_at_call 31;refine Calls.mono (HGN.out _ _ ?hbb HVN.out) ?_;(case hbb=>exact bE);rintro e w9 ⟨rfl,n9,rfl⟩)
 (try go_wp2_with fail)
 refine hKK.out _ _ ?_ (fun hHeld=>?_)
 ·(try dsimp only);(first|(with_reducible exact HS.out _ bE)|go_keep)
 clear hKK KK
 try simp only[Act.put,List.setIfInBounds_toArray,List.set_cons_zero,List.set_cons_succ]
 refine tk 23 (some 159) rfl ?_
 refine tk 24 (some 4) rfl ?_
 refine wpAnyH_done (by kernel_rfl) ?_ _
 go_wp2_with fail
 go_ret
 exact ⟨ret_bool HF.out.symm,HBW.out _ (b5.trans ((bE:Below w5.heap.size w5 _).mono hs5))⟩
end Go.Proofs.YtckognjamlckcaaGreatDoor
