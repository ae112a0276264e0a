/-
  Runs of tactics that stand in many proofs, each as a theorem's default argument.
-/
import Derived.ArgAppend
import Derived.Below
import Derived.BigQuiet
import Derived.Carry
import Derived.ChangeOld
import Derived.DataReads
import Derived.Deep.AppendLies
import Derived.Deep.CutBlock
import Derived.Deep.DeepCutAuto
import Derived.Deep.DeepHandedRow
import Derived.Deep.DrawnRows
import Derived.Deep.Draws
import Derived.Deep.QuietTactic
import Derived.Deep.RegionHeld
import Derived.Deep.RegionHeld3
import Derived.Deep.RegionLaw
import Derived.IntWalk
import Derived.Laws.AppendOwnNone
import Derived.Laws.Bits64b
import Derived.Laws.CopyOwn
import Derived.Laws.MakeOwn
import Derived.Laws.OwnMore
import Derived.Laws.StructEq
import Derived.Lib.AppendZeros
import Derived.Lib.Hide
import Derived.Lib.SliceRun
import Derived.LoopIn
import Derived.LoopNIn
import Derived.LoopTactic
import Derived.Maps.AppendAt
import Derived.Maps.Own
import Derived.Maps.OwnOps
import Derived.Maps.OwnSet
import Derived.Maps.Views
import Derived.OpenShut
import Derived.Outline
import Derived.OwnWalkIn
import Derived.ProofKit
import Derived.RangeFuncBound
import Derived.RangeFuncCalls
import Derived.RangeFuncLeaves
import Derived.RangeFuncNested
import Derived.RegionTactic
import Derived.RowKit3
import Derived.Shelf.RegionOpen
import Derived.ShutString
import Derived.Sort.CutIn
import Derived.StillTailTactics
import Derived.TacticsInMore
import Derived.WalkKit
import Derived.WalkLawsBesides
import Derived.WalkSpells
namespace Go.Proofs.YtckognjamlckcaaGreatDoor
inductive zD{p:Prop}(h:p):Prop where
 |zM:zD h
theorem zE{p:Prop}(h:p)(_:zD h):p:=h
variable{p:Prop}
theorem zq51(h:p:=by
 have HSG:Hid (∀W,Below w.heap.size w W→Sl W w.heap.size 2 isGd Agd (clockOf f (md:Int))∧Sl W w.heap.size 2 isGd Aga (clockOf f (ma:Int))∧Sl W w.heap.size 2 isGd Agb (clockOf f (mb:Int))∧Sl W w.heap.size 2 isGd Agc (clockOf f (mc:Int))):=fun W hW=>⟨sgd.below hW,sga.below hW,sgb.below hW,sgc.below hW⟩
 have HWY:Hid (∀W,Below w.heap.size w W→(W.cell? ⟨b6,o6+md*2,none⟩=some (.int .i64 (tyOf f (md:Int)))∧W.cell? ⟨b6,o6+md*2+1,none⟩=some (.slice Agd (clockOf f (md:Int)).length cgd))∧(W.cell? ⟨b6,o6+ma*2,none⟩=some (.int .i64 (tyOf f (ma:Int)))∧W.cell? ⟨b6,o6+ma*2+1,none⟩=some (.slice Aga (clockOf f (ma:Int)).length cga))∧(W.cell? ⟨b6,o6+mb*2,none⟩=some (.int .i64 (tyOf f (mb:Int)))∧W.cell? ⟨b6,o6+mb*2+1,none⟩=some (.slice Agb (clockOf f (mb:Int)).length cgb))∧(W.cell? ⟨b6,o6+mc*2,none⟩=some (.int .i64 (tyOf f (mc:Int)))∧W.cell? ⟨b6,o6+mc*2+1,none⟩=some (.slice Agc (clockOf f (mc:Int)).length cgc))):=fun W hW=>⟨⟨cell_kept y0d hW,cell_kept y1d hW⟩,⟨cell_kept y0a hW,cell_kept y1a hW⟩,⟨cell_kept y0b hW,cell_kept y1b hW⟩,⟨cell_kept y0c hW,cell_kept y1c hW⟩⟩
 have HVa:=Lib.hid (cB_true ha)
 have HVb:=Lib.hid (cB_true hb)
 have HVc:=Lib.hid (cB_true hc)
 clear sgd sga sgb sgc y0d y1d y0a y1a y0b y1b y0c y1c wtd wta wtb wtc ha hb hc hd hd'
 all_goals(apply_rules(newGoals:= .nonDependentOnly)(maxDepth:=1)only[zE];constructor)):p:=h
theorem zq164(h:p:=by
 rintro e w3 ⟨rfl,hbw3⟩
 have bw3:Below w1.heap.size w1 w3:=bw2.trans (hbw3.mono bw2.size)
 clear f0 f1 f2 f3 f4 f5 c0 c1 c2 c3 c4 c5
 obtain ⟨⟨f0,f1,f2,f3,f4,f5⟩,c0,c1,c2,c3,c4,c5⟩:=HCX.out w3 bw3
 all_goals(apply_rules(newGoals:= .nonDependentOnly)(maxDepth:=1)only[zE];constructor)):p:=h
theorem zq188(h:p:=by
 rintro e w2 ⟨rfl,hbw2⟩
 have bw2:Below w1.heap.size w1 w2:=hbw2
 clear f0 f1 f2 f3 f4 f5 c0 c1 c2 c3 c4 c5
 obtain ⟨⟨f0,f1,f2,f3,f4,f5⟩,c0,c1,c2,c3,c4,c5⟩:=HCX.out w2 bw2
 all_goals(apply_rules(newGoals:= .nonDependentOnly)(maxDepth:=1)only[zE];constructor)):p:=h
theorem zq237(h:p:=by
 go_wp2_with fail
 (with_reducible refine (ruses_any _ _).mono ?_)
 all_goals(apply_rules(newGoals:= .nonDependentOnly)(maxDepth:=1)only[zE];constructor)):p:=h
theorem zq291(h:p:=by
 rintro e w4 ⟨rfl,hbw4⟩
 have bw4:Below w1.heap.size w1 w4:=bw3.trans (hbw4.mono bw3.size)
 clear f0 f1 f2 f3 f4 f5 c0 c1 c2 c3 c4 c5
 obtain ⟨⟨f0,f1,f2,f3,f4,f5⟩,c0,c1,c2,c3,c4,c5⟩:=HCX.out w4 bw4
 all_goals(apply_rules(newGoals:= .nonDependentOnly)(maxDepth:=1)only[zE];constructor)):p:=h
theorem zq70(h:p:=by
 clear rF rX
 obtain ⟨⟨f0,f1,f2,f3,f4,f5⟩,c0,c1,c2,c3,c4,c5⟩:=HCX.out w1 (Below.refl _ _)
 refine' zq237
 rintro e w1' ⟨rfl,rfl⟩
 rw[HU.out]
 have e0:True:=trivial
 go_wp2_with fail
 (with_reducible refine (HI.out _ _ _ (Below.refl _ _) HVa.out).mono ?_)
 refine' zq188
 go_wp2_with fail
 (with_reducible refine (HI.out _ _ _ bw2 HVb.out).mono ?_)
 refine' zq164
 go_wp2_with fail
 (with_reducible refine (HI.out _ _ _ bw3 HVc.out).mono ?_)
 refine' zq291
 all_goals(apply_rules(newGoals:= .nonDependentOnly)(maxDepth:=1)only[zE];constructor)):p:=h
theorem zq144(h:p:=by
 have HBW:Hid (∀W,Below w1.heap.size w1 W→Below w.heap.size w W):=fun W hW=>b1.trans (hW.mono hs1)
 all_goals(apply_rules(newGoals:= .nonDependentOnly)(maxDepth:=1)only[zE];constructor)):p:=h
theorem zq222(h:p:=by
 clear h
 go_enter Tryz.func36,Tryz.ntmps36
 go_upto_region 1 with (fail)
 generalize hWB:World.alloc (World.alloc w _) _=w1
 obtain ⟨b1,rF,rX,hs1a⟩:=two_rows hWB
 clear hWB
 have hXl:=rX.lt
 have hs1:=b1.size
 refine' zq144
 all_goals(apply_rules(newGoals:= .nonDependentOnly)(maxDepth:=1)only[zE];constructor)):p:=h
theorem zq0(h:p:=by
 refine' zq51
 have HFM:=Lib.hid (fun W (hW:Below w.heap.size w W)=>h.next hW)
 refine' zq222
 have HCX:Hid (∀W,Below w1.heap.size w1 W→(W.cell? ⟨w.heap.size,0,none⟩=some (.slice (some ⟨b6,o6,none⟩) f.wires.length cw)∧W.cell? ⟨w.heap.size,1,none⟩=some va∧W.cell? ⟨w.heap.size,2,none⟩=some vc∧W.cell? ⟨w.heap.size,3,none⟩=some vk∧W.cell? ⟨w.heap.size,4,none⟩=some vi∧W.cell? ⟨w.heap.size,5,none⟩=some vo)∧
   (W.cell? ⟨w.heap.size+1,0,none⟩=some (.int .i64 op)∧W.cell? ⟨w.heap.size+1,1,none⟩=some (.int .i64 (md:Int))∧W.cell? ⟨w.heap.size+1,2,none⟩=some (.int .i64 (ma:Int))∧W.cell? ⟨w.heap.size+1,3,none⟩=some (.int .i64 (mb:Int))∧W.cell? ⟨w.heap.size+1,4,none⟩=some (.int .i64 (mc:Int))∧W.cell? ⟨w.heap.size+1,5,none⟩=some (.int .i64 k))):=fun W hW=>
  ⟨(rF.below hW (by omega)).six',(rX.below hW hXl).six'⟩
 have HI:Hid (∀W n V,Below w1.heap.size w1 W→cB (isW f n)=V→Calls Tryz.prog 30 #[fmV (.slice (some ⟨b6,o6,none⟩) f.wires.length cw) va vc vk vi vo,.int .i64 n] W fun e w'=>e= .returned (.bool V)∧Below W.heap.size W w'):=fun W n V hW hV=>by
  have:=ris_any (HFM.out W (HBW.out W hW)) n
  rw[hV] at this
  exact this
 refine' zq70
 all_goals(apply_rules(newGoals:= .nonDependentOnly)(maxDepth:=1)only[zE];constructor)):p:=h
theorem zq1(h:p:=by
 clear hz
 obtain ⟨⟨yd0,yd1⟩,⟨ya0,ya1⟩,⟨yb0,yb1⟩,yc0,yc1⟩:=HWY.out _ (HBW.out _ bw4)
 have hsw4:=(HBW.out _ bw4).size
 have hsw4':=bw4.size
 have hG4:w.heap.size+1+1≤w4.heap.size:=Nat.le_trans hs1a hsw4'
 have hb64:b6<w4.heap.size:=by omega
 have hG40:w.heap.size<w4.heap.size:=by omega
 have hG41:w.heap.size+1<w4.heap.size:=by omega
 have hZ00:b6<w4.heap.size+1:=by omega
 have hZ01:b6<w4.heap.size+1+1:=by omega
 have hZ10:w.heap.size<w4.heap.size+1:=by omega
 have hZ11:w.heap.size<w4.heap.size+1+1:=by omega
 have hZ20:w.heap.size+1<w4.heap.size+1:=by omega
 have hZ21:w.heap.size+1<w4.heap.size+1+1:=by omega
 go_upto_region 8 with (fail)
 clear hZ00 hZ01 hZ10 hZ11 hZ20 hZ21
 generalize hWA:World.alloc (World.alloc (World.alloc (World.alloc w4 _) _) _) _=w5
 obtain ⟨ba,r6,r7,r8,r9⟩:=four_rows hWA
 clear hWA
 generalize w4.heap.size=g6 at*
 have b5:Below w1.heap.size w1 w5:=bw4.trans (ba.mono (by omega))
 have hr9:=r9.lt
 have hr6:=r6.lt
 have hr7:=r7.lt
 have hr8:=r8.lt
 have hs5:=b5.size
 have HR:Hid (∀W,Below w5.heap.size w5 W→(W.cell? ⟨g6,0,none⟩=some (.int .i64 (tyOf f (md:Int)))∧W.cell? ⟨g6,1,none⟩=some (.slice Agd (clockOf f (md:Int)).length cgd))∧(W.cell? ⟨g6+1,0,none⟩=some (.int .i64 (tyOf f (ma:Int)))∧W.cell? ⟨g6+1,1,none⟩=some (.slice Aga (clockOf f (ma:Int)).length cga))∧(W.cell? ⟨g6+1+1,0,none⟩=some (.int .i64 (tyOf f (mb:Int)))∧W.cell? ⟨g6+1+1,1,none⟩=some (.slice Agb (clockOf f (mb:Int)).length cgb))∧(W.cell? ⟨g6+1+1+1,0,none⟩=some (.int .i64 (tyOf f (mc:Int)))∧W.cell? ⟨g6+1+1+1,1,none⟩=some (.slice Agc (clockOf f (mc:Int)).length cgc))):=fun W hW=>⟨(r6.below hW hr6).two',(r7.below hW hr7).two',(r8.below hW hr8).two',(r9.below hW hr9).two'⟩
 clear f0 f1 f2 f3 f4 f5 c0 c1 c2 c3 c4 c5
 clear yd0 yd1 ya0 ya1 yb0 yb1 yc0 yc1 r6 r7 r8 r9 ba
 obtain ⟨⟨f0,f1,f2,f3,f4,f5⟩,c0,c1,c2,c3,c4,c5⟩:=HCX.out w5 b5
 obtain ⟨⟨yd0,yd1⟩,⟨ya0,ya1⟩,⟨yb0,yb1⟩,yc0,yc1⟩:=HR.out w5 (Below.refl _ _)
 all_goals(apply_rules(newGoals:= .nonDependentOnly)(maxDepth:=1)only[zE];constructor)):p:=h
theorem zq69(h:p:=by
 clear hW1
 obtain ⟨c0,c1,c2,c3,c4,c5⟩:=bX.six'
 go_wp2_with fail
 (with_reducible refine (is3_b HH.out hBw wa wb wc HV3.out b1).mono ?_)
 rintro e w5 ⟨rfl,hb5⟩
 have hb15:=b1.trans (hb5.mono b1.size)
 have bX5:=bX.below hb5 hg1
 have hg5:w.heap.size<w5.heap.size:=bX5.lt
 clear c0 c1 c2 c3 c4 c5 hb5 bX b1
 obtain ⟨c0,c1,c2,c3,c4,c5⟩:=bX5.six'
 go_wp2_with fail
 all_goals(apply_rules(newGoals:= .nonDependentOnly)(maxDepth:=1)only[zE];constructor)):p:=h
theorem zq2(h:p:=by
 refine' zq69
 (with_reducible refine (Ar.sign_any op _).mono ?_)
 rintro e w' ⟨rfl,rfl⟩
 rw[sg]
 generalize Ar.signIn op=si at*
 generalize Ar.signOut op=so at*
 clear sg
 obtain ⟨m,b6,off6,cw6,Ag6,cg6,hmd,hm,hvw,lw6,mw6,hb6,wt6,d0,d1,lg6,mg6,sg6⟩:=(HH.out.below hBw hb15).wire hd
 subst hmd
 have q0:=(HH.out.below hBw hb15).row.eight.1.1
 have HVW:=Lib.hid hvw
 rw[hvw] at q0
 have hm':(m:Int)<f.wires.length:=by omega
 have HSG:=Lib.hid sg6
 clear hvw d0 sg6 wt6
 go_wp2_with fail
 go_quiet (fail)
 all_goals(apply_rules(newGoals:= .nonDependentOnly)(maxDepth:=1)only[zE];constructor)):p:=h
theorem zq219(h:p:=by
 injection hv with hv1 _ hv3
 injection hv1 with hv1
 injection hv1 with hv1 hv2
 subst hv1;subst hv2;subst hv3
 all_goals(apply_rules(newGoals:= .nonDependentOnly)(maxDepth:=1)only[zE];constructor)):p:=h
theorem zq3(h:p:=by
 obtain ⟨md,bx,ox,cx,Agd,cgd,hmd,hld,hv,_,_,hb6,wtd,y0d,y1d,lgd,mgd,sgd⟩:=fm_wire h hd
 injection hv with hv1 _ hv3
 subst hv1
 subst hv3
 subst hmd
 obtain ⟨b6,hb6e⟩:∃b,b=bx:=⟨_,rfl⟩
 obtain ⟨o6,ho6e⟩:∃b,b=ox:=⟨_,rfl⟩
 subst hb6e;subst ho6e
 have hld':(md:Int)<f.wires.length:=by omega
 have hcgd:cgd≤9223372036854775807:=by unfold maxLen at mgd;omega
 obtain ⟨ma,bx,ox,cx,Aga,cga,hma,hla,hv,_,_,hb6,wta,y0a,y1a,lga,mga,sga⟩:=fm_wire h ha
 refine' zq219
 subst hma
 have hla':(ma:Int)<f.wires.length:=by omega
 have hcga:cga≤9223372036854775807:=by unfold maxLen at mga;omega
 obtain ⟨mb,bx,ox,cx,Agb,cgb,hmb,hlb,hv,_,_,hb6,wtb,y0b,y1b,lgb,mgb,sgb⟩:=fm_wire h hb
 refine' zq219
 subst hmb
 have hlb':(mb:Int)<f.wires.length:=by omega
 have hcgb:cgb≤9223372036854775807:=by unfold maxLen at mgb;omega
 obtain ⟨mc,bx,ox,cx,Agc,cgc,hmc,hlc,hv,_,_,hb6,wtc,y0c,y1c,lgc,mgc,sgc⟩:=fm_wire h hc
 refine' zq219
 subst hmc
 have hlc':(mc:Int)<f.wires.length:=by omega
 have hcgc:cgc≤9223372036854775807:=by unfold maxLen at mgc;omega
 all_goals(apply_rules(newGoals:= .nonDependentOnly)(maxDepth:=1)only[zE];constructor)):p:=h
theorem zq4(h:p:=by
 clear hKK KK
 try simp only[Act.put,List.setIfInBounds_toArray,List.set_cons_zero,List.set_cons_succ]
 all_goals(apply_rules(newGoals:= .nonDependentOnly)(maxDepth:=1)only[zE];constructor)):p:=h
theorem zq286(h:p:=by
 have HC:=Lib.hid hC
 have HV:=Lib.hid (HGA.out true (cB_true hC))
 all_goals(apply_rules(newGoals:= .nonDependentOnly)(maxDepth:=1)only[zE];constructor)):p:=h
theorem zq5(h:p:=by
 refine' zq286
 clear hC HGA
 have HSd:Hid (∀W,Below w5.heap.size w5 W→SlV W W.heap.size 2 isGd (.slice Agd (clockOf f (md:Int)).length cgd) (clockOf f (md:Int))):=fun W hW=>⟨Agd,cgd,rfl,lgd,mgd,(HSG.out W (HBW.out _ (b5.trans (hW.mono hs5)))).1.more (HBW.out _ (b5.trans (hW.mono hs5))).size⟩
 have HWI:Hid (∀W (q:Bool),Below w5.heap.size w5 W→Calls Tryz.prog 71 #[.slice Agd (clockOf f (md:Int)).length cgd,.int .i64 (ma:Int),.bool q] W (WithIs (clockOf f (md:Int)) ⟨(ma:Int),q⟩ W)):=fun W q hW=>rwith_any _ _ W (HSd.out W hW) HCL.out ⟨(ma:Int),q⟩ HWA.out
 have HGB:Hid (∀W v (V:Bool),Below w5.heap.size w5 W→SlV W W.heap.size 2 isGd v (clockOf f (md:Int)++ [⟨(ma:Int),false⟩])→cB (clockOf f (mb:Int)=clockOf f (md:Int)++ [⟨(ma:Int),false⟩])=V→Calls Tryz.prog 31 #[.slice Agb (clockOf f (mb:Int)).length cgb,v] W fun e w'=>e= .returned (.bool V)∧∃n,w'=W.drewN n):=fun W v V hW hv hV=>by
  have q:=HBW.out _ (b5.trans (hW.mono hs5))
  have:=rguards_any _ _ _ _ _ W (⟨Agb,cgb,rfl,lgb,mgb,(HSG.out W q).2.2.1.more q.size⟩:SlV W W.heap.size 2 isGd (.slice Agb (clockOf f (mb:Int)).length cgb) (clockOf f (mb:Int))) hv
  rw[hV] at this
  exact this
 have HGC:Hid (∀W v (V:Bool),Below w5.heap.size w5 W→SlV W W.heap.size 2 isGd v (clockOf f (md:Int)++ [⟨(ma:Int),true⟩])→cB (clockOf f (mc:Int)=clockOf f (md:Int)++ [⟨(ma:Int),true⟩])=V→Calls Tryz.prog 31 #[.slice Agc (clockOf f (mc:Int)).length cgc,v] W fun e w'=>e= .returned (.bool V)∧∃n,w'=W.drewN n):=fun W v V hW hv hV=>by
  have q:=HBW.out _ (b5.trans (hW.mono hs5))
  have:=rguards_any _ _ _ _ _ W (⟨Agc,cgc,rfl,lgc,mgc,(HSG.out W q).2.2.2.more q.size⟩:SlV W W.heap.size 2 isGd (.slice Agc (clockOf f (mc:Int)).length cgc) (clockOf f (mc:Int))) hv
  rw[hV] at this
  exact this
 have HS:Hid (∀W,Below w5.heap.size w5 W→W.cell? ⟨g6,0,none⟩=some (.int .i64 (tyOf f (md:Int)))∧W.cell? ⟨g6,1,none⟩=some (.slice Agd (clockOf f (md:Int)).length cgd)∧W.cell? ⟨g6+1,0,none⟩=some (.int .i64 (tyOf f (ma:Int)))∧W.cell? ⟨g6+1+1,0,none⟩=some (.int .i64 (tyOf f (mb:Int)))∧W.cell? ⟨g6+1+1,1,none⟩=some (.slice Agb (clockOf f (mb:Int)).length cgb)∧W.cell? ⟨g6+1+1+1,0,none⟩=some (.int .i64 (tyOf f (mc:Int)))∧W.cell? ⟨g6+1+1+1,1,none⟩=some (.slice Agc (clockOf f (mc:Int)).length cgc)∧W.cell? ⟨w.heap.size+1,2,none⟩=some (.int .i64 (ma:Int))):=fun W hW=>by
  obtain ⟨⟨d0,d1⟩,⟨a0,a1⟩,⟨e0,e1⟩,q0,q1⟩:=HR.out W hW
  exact ⟨d0,d1,a0,e0,e1,q0,q1,(HCX.out W (b5.trans (hW.mono hs5))).2.2.2.1⟩
 all_goals(apply_rules(newGoals:= .nonDependentOnly)(maxDepth:=1)only[zE];constructor)):p:=h
theorem zq6(h:p:=by
 have bX:=Row.new w #[.int .i64 op,.int .i64 dst,.int .i64 a,.int .i64 b,.int .i64 c,.int .i64 k] 58
 have b1:Below w.heap.size w (w.alloc (.cells #[.int .i64 op,.int .i64 dst,.int .i64 a,.int .i64 b,.int .i64 c,.int .i64 k] 58)):=bE
 have hg1:=bX.lt
 go_enter Tryz.func28,Tryz.ntmps28
 go_upto_region 1 with (fail)
 generalize hW1:w.alloc (.cells #[.int .i64 op,.int .i64 dst,.int .i64 a,.int .i64 b,.int .i64 c,.int .i64 k] 58)=w1 at*
 all_goals(apply_rules(newGoals:= .nonDependentOnly)(maxDepth:=1)only[zE];constructor)):p:=h
theorem zq72(h:p:=by
 go_enter Tryz.func40,Tryz.ntmps40
 go_upto_region 1 with (fail)
 all_goals(apply_rules(newGoals:= .nonDependentOnly)(maxDepth:=1)only[zE];constructor)):p:=h
theorem zq145(h:p:=by
 have hs1:=b1.size
 generalize hbx:W.heap.size=bx at*
 have HK:Hid (∀q' W',MFr D q w1 q' W'→W'.cell? ⟨bx,0,none⟩=some (.int .i64 e.op)∧W'.cell? ⟨bx,1,none⟩=some (.string e.name)∧W'.cell? ⟨bx,2,none⟩=some (.int .i64 e.n)∧W'.cell? ⟨bx,3,none⟩=some (.slice A e.args.length cap)∧W'.cell? ⟨bx,4,none⟩=some (.int .i64 e.line)∧W'.cell? ⟨bx,5,none⟩=some (.int .i64 e.col)):=fun q' W' m=>(HBX.out q' W' m).1.six'
 all_goals(apply_rules(newGoals:= .nonDependentOnly)(maxDepth:=1)only[zE];constructor)):p:=h
theorem zq7(h:p:=by
 have hw1:Hid (∀(n1:Nat) (sa:Mk),True):=fun _ _=>trivial
 clear hw1 hi0 hm0 P0 hgl hcl hm hdl s2 own2 hcd hcd1 hb2 hy2 m2 l2
 generalize normE x c.dropLast s=p at*
 obtain ⟨p1,sa⟩:=p
 dsimp only at*
 obtain ⟨n1,rfl⟩:=Int.eq_ofNat_of_zero_le Sa.lo
 have hna:(n1:Int)<sa.wires.length:=Sa.hi
 have hnb:n1<sa.wires.length:=by omega
 have hsa:sa.acts.length≤1000000000:=by omega
 subst hv
 clear h h1 hs hop hc hp hP hpl hp1 hp2 hc1 hlen Sa
 refine' zq72
 generalize (W.alloc (.cells (exRw e A cap) 75))=w1 at*
 refine' zq145
 obtain ⟨c0,c1,c2',c3,c4,c5⟩:=rX.six'
 go_upto_region 23 with (fail)
 clear d0 d1 d2 d3 d4 d5 d6 d7
 go_cut[14] (fun v14 W=>v14= .int .i64 (n1:Int)∧∃q5,MkAt K w0 D vi vo W q5 sa∧MFr D q w1 q5 W)
 case first=>as_aux_lemma=>
  refine wp_region_held_drew (S:=fun W=>W.cell? ⟨bx,0,none⟩=some (.int .i64 e.op)∧W.cell? ⟨bx,1,none⟩=some (.string e.name)∧W.cell? ⟨bx,2,none⟩=some (.int .i64 e.n)∧W.cell? ⟨bx,3,none⟩=some (.slice A e.args.length cap)∧W.cell? ⟨bx,4,none⟩=some (.int .i64 e.line)∧W.cell? ⟨bx,5,none⟩=some (.int .i64 e.col)) (by kernel_rfl) ?_ (fun hHeld=>?_)
  ·(try dsimp only);(first|(with_reducible exact HK5.out _ bE)|(with_reducible exact HK.out _ _ (MFr.of_below bE)))
  refine tk 0 (some 122) rfl ?_
  refine tk 1 (some 123) rfl ?_
  refine tk 2 (some 124) rfl ?_
  refine tk 3 (some 125) rfl ?_
  refine tk 4 (some 126) rfl ?_
  refine tk 5 (some 127) rfl ?_
  refine tk 6 (some 128) rfl ?_
  refine rd1 7 (some 129) rfl (fun KK hKK=>?_)
  go_simp
  (go_at_call 82;(with_reducible refine Calls.mono (HC0.out _ bE) ?_);rintro r w5 ⟨rfl,q5,h5,m5⟩;(have HM5:=Lib.hid ((MFr.of_below (bE:Below w1.heap.size w1 _)).trans m5));(have HK5:=Lib.hid (fun W' (hW:Below w5.heap.size w5 W')=>HK.out _ _ (HM5.out.trans (MFr.of_below hW))));(have H5:=Lib.hid h5);clear h5 m5)
  (try go_wp2_with fail)
  refine hKK.out _ _ ?_ (fun hHeld=>?_)
  ·(try dsimp only);(first|(with_reducible exact HK5.out _ bE)|(with_reducible exact HK.out _ _ (MFr.of_below bE)))
  clear hKK KK
  try simp only[Act.put,List.setIfInBounds_toArray,List.set_cons_zero,List.set_cons_succ]
  refine tk 8 (some 14) rfl ?_
  refine wpAnyH_done (by kernel_rfl) ?_ _
  go_wp2_with fail
  go_meet
  exact ⟨rfl,q5,H5.out.below bE,HM5.out.trans (MFr.of_below bE)⟩
 case rest=>
  obtain ⟨rfl,q5,h5,m5⟩:=hcut
  obtain ⟨w5,rfl⟩:∃w5:World,w5=wc:=⟨_,rfl⟩
  obtain ⟨b1',off1,cw1,hv1,l1,m1,t0,wt⟩:=h5.wire hnb
  obtain ⟨d0,d1,d2,d3,d4,d5,d6,d7⟩:=h5.cells
  rw[hv1] at d0
  have hlw:=h5.lw
  have wn:Wf (n1:Int):=wf_of (by omega)
  have HW:=Lib.hid (mkwire_any h5 (sa.ty (n1:Int)) _ c wt (HCK.out _ _ m5))
  have HA:Hid (∀w2 q1,MkAt K w0 D vi vo w2 q1 (sa.wire (sa.ty (n1:Int)) c).2→Calls Tryz.prog 41 #[.pointer (some ⟨D,0,none⟩),acV ⟨24,(sa.wire (sa.ty (n1:Int)) c).1,n1,0,0,0⟩] w2 fun r w'=>r= .returned (.int .i64 (sa.put (sa.ty (n1:Int)) c ⟨24,0,n1,0,0,0⟩).1)∧NIs K w0 D vi vo q1 w2 (sa.put (sa.ty (n1:Int)) c ⟨24,0,n1,0,0,0⟩).2 w'):=fun w2 q1 h2=>
   mkact_any h2 ⟨24,(sa.wire (sa.ty (n1:Int)) c).1,n1,0,0,0⟩ ⟨wf_24,wf_wire,wn,wf_zero,wf_zero,wf_zero⟩ (by rw[(wire_eqs sa _ c).1];exact hsa)
  have HM5:=Lib.hid (HM1.out.trans m5)
  generalize sa.put (sa.ty (n1:Int)) c ⟨24,0,n1,0,0,0⟩=pp at*
  generalize (sa.wire (sa.ty (n1:Int)) c).2=s1 at*
  generalize (sa.wire (sa.ty (n1:Int)) c).1=r1 at*
  clear h5 m5 c0 c1 c2' c3 c4 c5 wt wn HK HBX HC0
  go_wp2_with fail
  (with_reducible refine HW.out.mono ?_)
  rintro r w6 ⟨rfl,q6,h6,m6⟩
  have HA1:=Lib.hid (HA.out w6 q6 h6)
  have HM:=Lib.hid (HM5.out.trans m6)
  clear h6 m6
  go_wp2_with fail
  (with_reducible refine HA1.out.mono ?_)
  rintro r w7 ⟨rfl,h7⟩
  have HN:=Lib.hid (NIs.trans HM.out h7)
  clear h7
  go_wp2_with fail
  go_ret
  rw[HE.out]
  exact ⟨rfl,HN.out⟩
 all_goals(apply_rules(newGoals:= .nonDependentOnly)(maxDepth:=1)only[zE];constructor)):p:=h
theorem zq15(h:p:=by
 (try dsimp only);(first|(with_reducible exact HS.out _ bE)|go_keep)
 all_goals(apply_rules(newGoals:= .nonDependentOnly)(maxDepth:=1)only[zE];constructor)):p:=h
theorem zq239(h:p:=by
 refine hKK.out _ _ ?_ (fun hHeld=>?_)
 ·refine' zq15
 refine' zq4
 all_goals(apply_rules(newGoals:= .nonDependentOnly)(maxDepth:=1)only[zE];constructor)):p:=h
theorem zq8(h:p:=by
 go_simp
 (go_at_call 64;(first|(with_reducible refine (kind_b HN5.out hB5 hd HTd.out bE).mono ?_)|(with_reducible refine (kind_b HN5.out hB5 ha HTa.out bE).mono ?_)|(with_reducible refine (kind_b HN5.out hB5 hb HTb.out bE).mono ?_)|(with_reducible refine (kind_b HN5.out hB5 hc HTc.out bE).mono ?_));rintro e w8 ⟨rfl,rfl⟩)
 (try go_wp2_with fail)
 refine' zq239
 all_goals(apply_rules(newGoals:= .nonDependentOnly)(maxDepth:=1)only[zE];constructor)):p:=h
theorem zq9(h:p:=by
 refine' zq145
 all_goals(apply_rules(newGoals:= .nonDependentOnly)(maxDepth:=1)only[zE];constructor)):p:=h
theorem zq264(h:p:=by
 go_wp2_with fail
 go_ret
 exact ⟨ret_bool HF.out.symm,HBW.out _ bw4⟩
 all_goals(apply_rules(newGoals:= .nonDependentOnly)(maxDepth:=1)only[zE];constructor)):p:=h
theorem zq162(h:p:=by
 by_cases hz:(mc:Int)=0
 rotate_left 1
 ·have HF:Hid (cB (actOk f ⟨op,(md:Int),(ma:Int),(mb:Int),(mc:Int),k⟩)=false):=cB_false (fun g=>hz (g.2.2.2.2.2.2.1 (by dsimp only;rw[HU.out];decide)))
  have ez:((mc:Int) !=0)=true:=by simpa using hz
  clear hz
  refine' zq264
 have HZc:=Lib.hid hz
 have ezc:((mc:Int) !=0)=false:=by simpa using hz
 all_goals(apply_rules(newGoals:= .nonDependentOnly)(maxDepth:=1)only[zE];constructor)):p:=h
theorem zq10(h:p:=by
 by_cases hz:(mb:Int)=0
 rotate_left 1
 ·have HF:Hid (cB (actOk f ⟨op,(md:Int),(ma:Int),(mb:Int),(mc:Int),k⟩)=false):=cB_false (fun g=>hz (g.2.2.2.2.2.1 (by dsimp only;rw[HU.out];decide)))
  have ez:((mb:Int) !=0)=true:=by simpa using hz
  clear hz
  refine' zq264
 have HZb:=Lib.hid hz
 have ezb:((mb:Int) !=0)=false:=by simpa using hz
 clear hz
 refine' zq162
 all_goals(apply_rules(newGoals:= .nonDependentOnly)(maxDepth:=1)only[zE];constructor)):p:=h
theorem zq11(h:p:=by
 (try go_wp2_with fail)
 refine' zq239
 all_goals(apply_rules(newGoals:= .nonDependentOnly)(maxDepth:=1)only[zE];constructor)):p:=h
theorem zq56(h:p:=by
 have SVd:SlV w5 w.heap.size 2 isGd (.slice Agd (clockOf f (md:Int)).length cgd) (clockOf f (md:Int)):=⟨_,_,rfl,lgd,mgd,(HSG.out w5 (HBW.out _ b5)).1⟩
 have SVa:SlV w5 w.heap.size 2 isGd (.slice Aga (clockOf f (ma:Int)).length cga) (clockOf f (ma:Int)):=⟨_,_,rfl,lga,mga,(HSG.out w5 (HBW.out _ b5)).2.1⟩
 have SVb:SlV w5 w.heap.size 2 isGd (.slice Agb (clockOf f (mb:Int)).length cgb) (clockOf f (mb:Int)):=⟨_,_,rfl,lgb,mgb,(HSG.out w5 (HBW.out _ b5)).2.2.1⟩
 have SVc:SlV w5 w.heap.size 2 isGd (.slice Agc (clockOf f (mc:Int)).length cgc) (clockOf f (mc:Int)):=⟨_,_,rfl,lgc,mgc,(HSG.out w5 (HBW.out _ b5)).2.2.2⟩
 all_goals(apply_rules(newGoals:= .nonDependentOnly)(maxDepth:=1)only[zE];constructor)):p:=h
theorem zq95(h:p:=by
 have HGda:=fun (V:Bool) (hV:cB (clockOf f (md:Int)=clockOf f (ma:Int))=V)=>(show Calls Tryz.prog 31 #[.slice Agd (clockOf f (md:Int)).length cgd,.slice Aga (clockOf f (ma:Int)).length cga] w5 fun e w'=>e= .returned (.bool V)∧∃n,w'=(w5).drewN n by
  have:=rguards_any _ _ _ _ _ w5 SVd SVa
  rw[hV] at this
  exact this)
 all_goals(apply_rules(newGoals:= .nonDependentOnly)(maxDepth:=1)only[zE];constructor)):p:=h
theorem zq12(h:p:=by
 refine' zq56
 refine' zq95
 all_goals(apply_rules(newGoals:= .nonDependentOnly)(maxDepth:=1)only[zE];constructor)):p:=h
theorem zq45(h:p:=by
 go_wp2_with fail
 (with_reducible refine Calls.mono HV.out ?_)
 rintro e wg ⟨rfl,n,rfl⟩
 go_wp2_with fail
 all_goals(apply_rules(newGoals:= .nonDependentOnly)(maxDepth:=1)only[zE];constructor)):p:=h
theorem zq216(h:p:=by
 clear f0 f1 f2 f3 f4 f5 c0 c1 c2 c3 c4 c5 yd0 yd1 ya0 ya1 yb0 yb1 yc0 yc1
 obtain ⟨⟨f0,f1,f2,f3,f4,f5⟩,c0,c1,c2,c3,c4,c5⟩:=HCX.out w6 b6'
 obtain ⟨⟨yd0,yd1⟩,⟨ya0,ya1⟩,⟨yb0,yb1⟩,yc0,yc1⟩:=HR.out w6 q6
 go_wp2_with fail
 go_ret
 exact ⟨ret_bool HF.out.symm,HBW.out _ b6'⟩
 all_goals(apply_rules(newGoals:= .nonDependentOnly)(maxDepth:=1)only[zE];constructor)):p:=h
theorem zq13(h:p:=by
 refine' zq45
 (with_reducible refine Calls.mono (HV2.out n) ?_)
 rintro e wg ⟨rfl,m,rfl⟩
 go_wp2_with fail
 (with_reducible refine (HSG2.out _).mono ?_)
 rintro e w6 ⟨rfl,hb6'⟩
 have b6':Below w1.heap.size w1 w6:=(below_drewN' b5 _).trans (hb6'.mono (by first|exact hs5|simpa using hs5))
 have q6:Below w5.heap.size w5 w6:=(below_drewN' (Below.refl _ _) _).trans hb6'
 refine' zq216
 all_goals(apply_rules(newGoals:= .nonDependentOnly)(maxDepth:=1)only[zE];constructor)):p:=h
theorem zq14(h:p:=by
 go_wp2_with fail
 (with_reducible refine Calls.mono HV.out ?_)
 rintro e wg ⟨rfl,n,rfl⟩
 go_upto_region 22 with (fail)
 refine wp_region_held_drew (S:=fun W=>W.cell? ⟨g6,0,none⟩=some (.int .i64 (tyOf f (md:Int)))∧W.cell? ⟨g6,1,none⟩=some (.slice Agd (clockOf f (md:Int)).length cgd)∧W.cell? ⟨g6+1,0,none⟩=some (.int .i64 (tyOf f (ma:Int)))∧W.cell? ⟨g6+1+1,0,none⟩=some (.int .i64 (tyOf f (mb:Int)))∧W.cell? ⟨g6+1+1,1,none⟩=some (.slice Agb (clockOf f (mb:Int)).length cgb)∧W.cell? ⟨g6+1+1+1,0,none⟩=some (.int .i64 (tyOf f (mc:Int)))∧W.cell? ⟨g6+1+1+1,1,none⟩=some (.slice Agc (clockOf f (mc:Int)).length cgc)∧W.cell? ⟨w.heap.size+1,2,none⟩=some (.int .i64 (ma:Int))) (by kernel_rfl) ?_ (fun hHeld=>?_)
 ·refine' zq15
 refine tk 0 (some 194) rfl ?_
 refine tk 1 (some 195) rfl ?_
 refine tk 2 (some 196) rfl ?_
 refine tk 3 (some 197) rfl ?_
 all_goals(apply_rules(newGoals:= .nonDependentOnly)(maxDepth:=1)only[zE];constructor)):p:=h
theorem zq183(h:p:=by
 (try dsimp only);(first|(with_reducible exact HK7.out _ bE)|(with_reducible exact HK6.out _ bE)|(with_reducible exact HK5.out _ bE)|(with_reducible exact HK.out _ _ (MFr.of_below bE)))
 all_goals(apply_rules(newGoals:= .nonDependentOnly)(maxDepth:=1)only[zE];constructor)):p:=h
theorem zq16(h:p:=by
 go_simp
 first|(go_at_call 82;(with_reducible refine Calls.mono (HC0.out _ bE) ?_);rintro r w5 ⟨rfl,q5,h5,m5⟩;(have HM5:=Lib.hid ((MFr.of_below (bE:Below w1.heap.size w1 _)).trans m5));(have HK5:=Lib.hid (fun W' (hW:Below w5.heap.size w5 W')=>HK.out _ _ (HM5.out.trans (MFr.of_below hW))));(have HD6:=Lib.hid (fun W' (hW:Below w5.heap.size w5 W')=>HC1.out W' q5 (HM5.out.trans (MFr.of_below hW)) (h5.below hW)));clear h5 m5)|(go_at_call 82;(with_reducible refine Calls.mono (HD6.out _ bE) ?_);rintro r w6 ⟨rfl,q6,h6,m6⟩;(have HM6:=Lib.hid (HM5.out.trans ((MFr.of_below (bE:Below w5.heap.size w5 _)).trans m6)));(have HK6:=Lib.hid (fun W' (hW:Below w6.heap.size w6 W')=>HK.out _ _ (HM6.out.trans (MFr.of_below hW))));(have H6:=Lib.hid h6);clear h6 m6)
 (try go_wp2_with fail)
 refine hKK.out _ _ ?_ (fun hHeld=>?_)
 ·refine' zq183
 refine' zq4
 all_goals(apply_rules(newGoals:= .nonDependentOnly)(maxDepth:=1)only[zE];constructor)):p:=h
theorem zq17(h:p:=by
 have hg1:=bX.lt
 go_enter Tryz.func28,Tryz.ntmps28
 go_upto_region 1 with (fail)
 all_goals(apply_rules(newGoals:= .nonDependentOnly)(maxDepth:=1)only[zE];constructor)):p:=h
theorem zq18(h:p:=by
 go_simp
 first|(go_at_call 82;(with_reducible refine Calls.mono (HC0.out _ bE) ?_);rintro r w5 ⟨rfl,q5,h5,m5⟩;(have HM5:=Lib.hid ((MFr.of_below (bE:Below w1.heap.size w1 _)).trans m5));(have HK5:=Lib.hid (fun W' (hW:Below w5.heap.size w5 W')=>HK.out _ _ (HM5.out.trans (MFr.of_below hW))));(have HD6:=Lib.hid (fun W' (hW:Below w5.heap.size w5 W')=>HC1.out W' q5 (HM5.out.trans (MFr.of_below hW)) (h5.below hW)));clear h5 m5)|(go_at_call 82;(with_reducible refine Calls.mono (HD6.out _ bE) ?_);rintro r w6 ⟨rfl,q6,h6,m6⟩;(have HM6:=Lib.hid (HM5.out.trans ((MFr.of_below (bE:Below w5.heap.size w5 _)).trans m6)));(have HK6:=Lib.hid (fun W' (hW:Below w6.heap.size w6 W')=>HK.out _ _ (HM6.out.trans (MFr.of_below hW))));(have HD7:=Lib.hid (fun W' (hW:Below w6.heap.size w6 W')=>HC2.out W' q6 (HM6.out.trans (MFr.of_below hW)) (h6.below hW)));clear h6 m6)|(go_at_call 82;(with_reducible refine Calls.mono (HD7.out _ bE) ?_);rintro r w7 ⟨rfl,q7,h7,m7⟩;(have HM7:=Lib.hid (HM6.out.trans ((MFr.of_below (bE:Below w6.heap.size w6 _)).trans m7)));(have HK7:=Lib.hid (fun W' (hW:Below w7.heap.size w7 W')=>HK.out _ _ (HM7.out.trans (MFr.of_below hW))));(have H7:=Lib.hid h7);clear h7 m7)
 (try go_wp2_with fail)
 refine hKK.out _ _ ?_ (fun hHeld=>?_)
 ·refine' zq183
 refine' zq4
 all_goals(apply_rules(newGoals:= .nonDependentOnly)(maxDepth:=1)only[zE];constructor)):p:=h
theorem zq99(h:p:=by
 have b1:Below W.heap.size W (W.alloc (.cells (exRw e A cap) 75)):=bE
 have rX:=Row.new W (exRw e A cap) 75
 have h1:=h.below b1
 all_goals(apply_rules(newGoals:= .nonDependentOnly)(maxDepth:=1)only[zE];constructor)):p:=h
theorem zq236(h:p:=by
 have hsz:=exSize_sum e
 rw[ha] at hsz
 simp at hsz
 have hi0:e.args[0]? =some x:=by rw[ha];rfl
 have hm0:x∈e.args:=List.mem_of_getElem? hi0
 all_goals(apply_rules(newGoals:= .nonDependentOnly)(maxDepth:=1)only[zE];constructor)):p:=h
theorem zq259(h:p:=by
 obtain ⟨hp1,hp2⟩:=plainE_iff.1 hpl
 have hfew:=hp.few
 have hwl:=hp.wl
 all_goals(apply_rules(newGoals:= .nonDependentOnly)(maxDepth:=1)only[zE];constructor)):p:=h
theorem zq114(h:p:=by
 refine' zq259
 obtain ⟨x,ha⟩:=args_one hp1 (by omega)
 refine' zq236
 have hlen:e.args.length=1:=by rw[ha];rfl
 clear ha
 all_goals(apply_rules(newGoals:= .nonDependentOnly)(maxDepth:=1)only[zE];constructor)):p:=h
theorem zq143(h:p:=by
 obtain ⟨d0,d1,d2,d3,d4,d5,d6,d7⟩:=h1.cells
 rw[hs] at d7
 all_goals(apply_rules(newGoals:= .nonDependentOnly)(maxDepth:=1)only[zE];constructor)):p:=h
theorem zq178(h:p:=by
 have HBX:=Lib.hid (box_stays h b1 rX)
 have HM1:Hid (MFr D q W q (W.alloc (.cells (exRw e A cap) 75))):=MFr.of_below b1
 all_goals(apply_rules(newGoals:= .nonDependentOnly)(maxDepth:=1)only[zE];constructor)):p:=h
theorem zq306(h:p:=by
 have HCK:=Lib.hid (fun q' W' (m:MFr D q (W.alloc (.cells (exRw e A cap) 75)) q' W')=>hc1.fr m)
 all_goals(apply_rules(newGoals:= .nonDependentOnly)(maxDepth:=1)only[zE];constructor)):p:=h
theorem zq68(h:p:=by
 refine' zq306
 have o3:(e.op==3)=false:=by rw[hop];rfl
 have o1:(e.op==1)=false:=by rw[hop];rfl
 have o2:(e.op==2)=false:=by rw[hop];rfl
 all_goals(apply_rules(newGoals:= .nonDependentOnly)(maxDepth:=1)only[zE];constructor)):p:=h
theorem zq233(h:p:=by
 refine' zq68
 have o21:(e.op==21)=false:=by rw[hop];rfl
 have o22:(e.op==22)=false:=by rw[hop];rfl
 have o23:(e.op==23)=false:=by rw[hop];rfl
 all_goals(apply_rules(newGoals:= .nonDependentOnly)(maxDepth:=1)only[zE];constructor)):p:=h
theorem zq19(h:p:=by
 refine' zq114
 have P0:Pre f K x c.dropLast s:=by have:=pre_part hp (by omega) hi0 hp.gs (Nat.le_refl _) (by omega);rwa [show pcl e c 0=c.dropLast by unfold pcl;rw[if_pos (by omega)]] at this
 have Sa:=normE_sp (f:=f) x (hp2 x hm0) c.dropLast s hp.gs hp.wl
 have sa1:=Sa.few
 have sa2:=Sa.up
 have HE:Hid (normE e c s=(normE x c.dropLast s).2.put ((normE x c.dropLast s).2.ty (normE x c.dropLast s).1) c ⟨24,0,(normE x c.dropLast s).1,0,0,0⟩):=by
  show _=_
  rw[normE_eq,norm1]
  dsimp only
  rw[if_neg (by rw[hs];decide),if_neg (by omega),if_neg (by omega),if_neg (by omega),if_neg (by omega),if_neg (by omega),if_neg (by omega),if_pos (by omega),part_is hi0]
 have hgl:=((goes_other (f:=f) (c:=c) (show e.op≠3 by omega)).1 hp.goes).1 (by omega)
 obtain ⟨A2,c2,hv,l2,m2,s2,own2⟩:=hc
 have hcl:c.length≠0:=fun g=>by rw[List.eq_nil_of_length_eq_zero g] at hgl;cases hgl
 obtain ⟨m,hm⟩:∃m,c.length=m+1:=⟨c.length-1,by omega⟩
 obtain ⟨b2,o2,y2,hA2,hb2,hy2,_,_,_⟩:=s2.gd (show m<c.length by omega)
 subst hA2
 have hdl:c.dropLast.length=m:=by rw[List.length_dropLast,hm];rfl
 have hc:CkAt D q W v c:=⟨_,c2,hv,l2,m2,s2,own2⟩
 have hcd:CkAt D q W (.slice (some ⟨b2,o2,none⟩) m c2) c.dropLast:=⟨_,c2,by rw[hdl],by omega,m2,by rw[List.dropLast_eq_take];exact s2.take _,fun _=>own2 (by omega)⟩
 have m2':c2≤9223372036854775807:=by unfold maxLen at m2;omega
 have k1:(c.length:Int)-1=(m:Int):=by omega
 have k3:m≤c2:=by omega
 have k4:(m:Int)≤(c2:Int):=by omega
 have k5:(m:Int)≤(c.length:Int):=by omega
 have k6:(0:Int)≤(m:Int):=by omega
 have kw:IntKind.i64.wrap (m:Int)=(m:Int):=IntWalk.i64_in _ (by omega)
 have k7:decide ((m:Int)<0)=false:=by simp
 refine' zq99
 have hc1:=hc.fr (MFr.of_below (q:=q) (D:=D) b1)
 refine' zq178
 refine' zq143
 have hcd1:=hcd.fr (MFr.of_below (q:=q) (D:=D) b1)
 have HC0:=Lib.hid (fun W' (hW:Below (W.alloc (.cells (exRw e A cap) 75)).heap.size (W.alloc (.cells (exRw e A cap) 75)) W')=>hP 0 0 x rfl hi0 W' q s _ c.dropLast (h1.below hW) (hcd1.fr (MFr.of_below hW)) P0)
 refine' zq233
 have o27:(e.op==27)=false:=by rw[hop];rfl
 all_goals(apply_rules(newGoals:= .nonDependentOnly)(maxDepth:=1)only[zE];constructor)):p:=h
theorem zq173(h:p:=by
 refine tk 0 (some 45) rfl ?_
 refine tk 1 (some 46) rfl ?_
 refine tk 2 (some 47) rfl ?_
 refine tk 3 (some 48) rfl ?_
 refine tk 4 (some 49) rfl ?_
 refine tk 5 (some 50) rfl ?_
 refine tk 6 (some 51) rfl ?_
 refine tk 7 (some 52) rfl ?_
 refine tk 8 (some 53) rfl ?_
 refine tk 9 (some 54) rfl ?_
 refine tk 10 (some 55) rfl ?_
 refine tk 11 (some 56) rfl ?_
 refine tk 12 (some 57) rfl ?_
 all_goals(apply_rules(newGoals:= .nonDependentOnly)(maxDepth:=1)only[zE];constructor)):p:=h
theorem zq46(h:p:=by
 refine' zq173
 refine tk 13 (some 58) rfl ?_
 refine tk 14 (some 59) rfl ?_
 refine tk 15 (some 60) rfl ?_
 refine tk 16 (some 61) rfl ?_
 refine tk 17 (some 62) rfl ?_
 refine tk 18 (some 63) rfl ?_
 refine tk 19 (some 64) rfl ?_
 refine tk 20 (some 65) rfl ?_
 refine tk 21 (some 66) rfl ?_
 refine tk 22 (some 67) rfl ?_
 refine tk 23 (some 68) rfl ?_
 refine tk 24 (some 69) rfl ?_
 refine tk 25 (some 70) rfl ?_
 all_goals(apply_rules(newGoals:= .nonDependentOnly)(maxDepth:=1)only[zE];constructor)):p:=h
theorem zq172(h:p:=by
 (try dsimp only);(first|(with_reducible exact HS5.out _ bE)|go_keep)
 all_goals(apply_rules(newGoals:= .nonDependentOnly)(maxDepth:=1)only[zE];constructor)):p:=h
theorem zq148(h:p:=by
 refine hKK.out _ _ ?_ (fun hHeld=>?_)
 ·refine' zq172
 refine' zq4
 all_goals(apply_rules(newGoals:= .nonDependentOnly)(maxDepth:=1)only[zE];constructor)):p:=h
theorem zq307(h:p:=by
 refine rd1 30 (some 75) rfl (fun KK hKK=>?_)
 go_simp
 go_at_call 58;refine Calls.mono (HI.out w4.drew _ bE hV.out) ?_;rintro e w5 ⟨rfl,rfl⟩
 (try go_wp2_with fail)
 all_goals(apply_rules(newGoals:= .nonDependentOnly)(maxDepth:=1)only[zE];constructor)):p:=h
theorem zq20(h:p:=by
 clear h5
 refine wp_region_held_drew (S:=fun W=>W.cell? ⟨L,0,none⟩=some (.slice (some ⟨b2,off2,none⟩) f.wires.length cw)∧W.cell? ⟨L,2,none⟩=some (.slice (some ⟨b3,off3,none⟩) f.cells.length cc)∧W.cell? ⟨L,7,none⟩=some (.slice (some ⟨K,0,none⟩) f.cells.length f.cells.length)∧W.cell? ⟨g6,0,none⟩=some (.int .i64 ((m:Int)))∧W.cell? ⟨g6,1,none⟩=some (.int .i64 ((n:Int)))∧W.cell? ⟨K,m,none⟩=some (.int .i64 V)∧W.cell? ⟨b2,off2+n*2,none⟩=some (.int .i64 T1)∧W.cell? ⟨b3,off3+m*2,none⟩=some (.int .i64 T2)) (by kernel_rfl) ?_ (fun hHeld=>?_)
 ·refine' zq172
 refine' zq46
 refine tk 26 (some 71) rfl ?_
 refine tk 27 (some 72) rfl ?_
 refine tk 28 (some 73) rfl ?_
 refine rd1 29 (some 74) rfl (fun KK hKK=>?_)
 go_simp
 refine' zq148
 refine' zq307
 refine' zq148
 refine tk 31 (some 76) rfl ?_
 refine tk 32 (some 77) rfl ?_
 refine tk 33 (some 78) rfl ?_
 refine tk 34 (some 79) rfl ?_
 refine tk 35 (some 80) rfl ?_
 refine tk 36 (some 81) rfl ?_
 refine tk 37 (some 82) rfl ?_
 refine tk 38 (some 83) rfl ?_
 refine tk 39 (some 84) rfl ?_
 refine tk 40 (some 85) rfl ?_
 refine tk 41 (some 86) rfl ?_
 refine tk 42 (some 87) rfl ?_
 refine tk 43 (some 88) rfl ?_
 refine tk 44 (some 89) rfl ?_
 refine tk 45 (some 90) rfl ?_
 refine tk 46 (some 91) rfl ?_
 refine tk 47 (some 92) rfl ?_
 refine tk 48 (some 93) rfl ?_
 refine tk 49 (some 94) rfl ?_
 refine tk 50 (some 95) rfl ?_
 refine tk 51 (some 96) rfl ?_
 refine tk 52 (some 97) rfl ?_
 refine tk 53 (some 98) rfl ?_
 refine tk 54 (some 99) rfl ?_
 refine tk 55 (some 100) rfl ?_
 refine wpAnyH_done (by kernel_rfl) ?_ _
 all_goals(apply_rules(newGoals:= .nonDependentOnly)(maxDepth:=1)only[zE];constructor)):p:=h
theorem zq192(h:p:=by
 refine sk 29 (some 194) rfl ?_
 refine sk 30 (some 195) rfl ?_
 refine sk 31 (some 196) rfl ?_
 refine sk 32 (some 197) rfl ?_
 refine sk 33 (some 198) rfl ?_
 refine sk 34 (some 199) rfl ?_
 refine sk 35 (some 200) rfl ?_
 refine sk 36 (some 201) rfl ?_
 refine sk 37 (some 202) rfl ?_
 refine tk 38 (some 203) rfl ?_
 refine tk 39 (some 4) rfl ?_
 all_goals(apply_rules(newGoals:= .nonDependentOnly)(maxDepth:=1)only[zE];constructor)):p:=h
theorem zq21(h:p:=by
 refine tk 13 (some 178) rfl ?_
 refine tk 14 (some 179) rfl ?_
 refine sk 15 (some 180) rfl ?_
 refine sk 16 (some 181) rfl ?_
 refine sk 17 (some 182) rfl ?_
 refine sk 18 (some 183) rfl ?_
 refine sk 19 (some 184) rfl ?_
 refine sk 20 (some 185) rfl ?_
 refine sk 21 (some 186) rfl ?_
 refine sk 22 (some 187) rfl ?_
 refine sk 23 (some 188) rfl ?_
 refine sk 24 (some 189) rfl ?_
 refine sk 25 (some 190) rfl ?_
 refine sk 26 (some 191) rfl ?_
 refine tk 27 (some 192) rfl ?_
 refine tk 28 (some 193) rfl ?_
 refine' zq192
 refine wpAnyH_done (by kernel_rfl) ?_ _
 go_wp2_with fail
 go_ret
 exact ⟨ret_bool HQ.out.symm,HFIN.out _ bE⟩
 all_goals(apply_rules(newGoals:= .nonDependentOnly)(maxDepth:=1)only[zE];constructor)):p:=h
theorem zq22(h:p:=by
 first|(rw[if_pos (by kernel_rfl)];refine wp_append_sl (.tmp 33) (.tmp 35) 26 rfl w3.heap.size 3 i2 (.int .i64 0) 1 8 Tryz.underlying26 hi2 hx0 hx1 hx2 rfl (by decide) (.slice none 0 0) 0 [] rfl (World.ownsRow_nil _ _ _ _) Ai f.ins ci rfl (HSI.out _ (Below.mono (bE:Below w5.heap.size w5 _) hs35)).1 (fun x cs g=>by obtain ⟨rfl,_⟩:=g;exact ⟨rfl,by intro u hu;simp at hu;subst hu;rfl⟩) (by unfold maxLen;omega) (by omega) (by first|omega|(simp;omega)) ?_;intro v21 w21 css21 ho21 ha21 hb21 hg21;(have hB21:Below w3.heap.size w5 w21:=Below.trans (Below.mono (bE:Below w5.heap.size w5 _) hs35) hb21);(have rD21:=(rD5.below (bE:Below w5.heap.size w5 _) hD5l).grownE hg21 (by intro e;cases e));(have HS21:=Lib.hid (And.intro (HKF.out _ hB21) (And.intro ((rD21.cell 4).trans (show _=some (Value.slice none 0 0) from rfl)) ((rD21.cell 5).trans (show _=some (Value.slice none 0 0) from rfl)))));(have q214:=(rD21.cell 4).trans (show _=some (Value.slice none 0 0) from rfl));(have q215:=(rD21.cell 5).trans (show _=some (Value.slice none 0 0) from rfl));(have l21:=rD21.lt);(obtain ⟨he21,hw21⟩:=are_ints ha21);(rw[he21] at ho21);(simp only[Nat.zero_add,List.nil_append] at ho21);(have HO21:=Lib.hid ho21);(have HW21:=Lib.hid hw21);(have HG21:=Lib.hid hg21);(obtain ⟨A21,c21,hv21',_⟩:=own_src ho21);subst hv21';clear ho21 ha21 hb21 he21 hw21 hg21)|(rw[if_pos (by kernel_rfl)];refine wp_append_sl (.tmp 41) (.tmp 43) 26 rfl w3.heap.size 3 i2 (.int .i64 0) 1 8 Tryz.underlying26 hi2 hx0 hx1 hx2 rfl (by decide) (.slice none 0 0) 0 [] rfl (World.ownsRow_nil _ _ _ _) Ao f.outs co rfl (HSI.out _ hB21).2 (fun x cs g=>by obtain ⟨rfl,_⟩:=g;exact ⟨rfl,by intro u hu;simp at hu;subst hu;rfl⟩) (by unfold maxLen;omega) (by omega) (by have:=hB21.size;omega) ?_;intro v22 w22 css22 ho22 ha22 hb22 hg22;(have hB22:Below w3.heap.size w5 w22:=Below.trans hB21 hb22);(have rD22:=rD21.grownE hg22 (by intro e;cases e));(have z22:=rD22.frozen);(have z4:=z22 4);(have z5:=z22 5);(have HS22:=Lib.hid (And.intro (HKF.out _ hB22) (And.intro ((rD22.cell 4).trans (show _=some (Value.slice none 0 0) from rfl)) ((rD22.cell 5).trans (show _=some (Value.slice none 0 0) from rfl)))));(have q224:=(rD22.cell 4).trans (show _=some (Value.slice none 0 0) from rfl));(have q225:=(rD22.cell 5).trans (show _=some (Value.slice none 0 0) from rfl));(have l22:=rD22.lt);(obtain ⟨he22,hw22⟩:=are_ints ha22);(rw[he22] at ho22);(simp only[Nat.zero_add,List.nil_append] at ho22);(have HO22:=Lib.hid ho22);(have HW22:=Lib.hid hw22);(have HG22:=Lib.hid hg22);(obtain ⟨A22,c22,hv22',_⟩:=own_src ho22);subst hv22';clear ho22 ha22 hb22 he22 hw22 hg22)
 refine hKK.out _ _ ?_ (fun hHeld=>?_)
 ·(try dsimp only);(first|exact HS22.out|exact HS21.out)
 refine' zq4
 all_goals(apply_rules(newGoals:= .nonDependentOnly)(maxDepth:=1)only[zE];constructor)):p:=h
theorem zq135(h:p:=by
 (try dsimp only);(first|(with_reducible exact HSY.out _ bE)|go_keep)
 all_goals(apply_rules(newGoals:= .nonDependentOnly)(maxDepth:=1)only[zE];constructor)):p:=h
theorem zq84(h:p:=by
 refine wp_region_held_drew (S:=fun W=>W.cell? ⟨L,0,none⟩=some (.slice (some ⟨b,off,none⟩) f.wires.length cw)∧W.cell? ⟨w2.heap.size,0,none⟩=some (.int .i64 (n:Int))∧W.cell? ⟨wo.heap.size,1,none⟩=some (.slice (some ⟨bg,og,none⟩) x.clock.length cg)∧W.cell? ⟨b,off+n*2,none⟩=some (.int .i64 y.ty)∧W.cell? ⟨b,off+n*2+1,none⟩=some (.slice Ay y.clock.length cy)) (by kernel_rfl) ?_ (fun hHeld=>?_)
 ·refine' zq135
 refine tk 0 (some 29) rfl ?_
 refine tk 1 (some 30) rfl ?_
 refine tk 2 (some 31) rfl ?_
 refine rd1 3 (some 32) rfl (fun KK hKK=>?_)
 go_simp
 refine hKK.out _ _ ?_ (fun hHeld=>?_)
 ·refine' zq135
 refine' zq4
 refine rd1 4 (some 33) rfl (fun KK hKK=>?_)
 go_simp
 all_goals(apply_rules(newGoals:= .nonDependentOnly)(maxDepth:=1)only[zE];constructor)):p:=h
theorem zq169(h:p:=by
 refine tk 5 (some 34) rfl ?_
 refine tk 6 (some 35) rfl ?_
 refine tk 7 (some 36) rfl ?_
 refine tk 8 (some 37) rfl ?_
 refine tk 9 (some 38) rfl ?_
 refine tk 10 (some 39) rfl ?_
 refine tk 11 (some 40) rfl ?_
 refine tk 12 (some 41) rfl ?_
 refine tk 13 (some 42) rfl ?_
 refine tk 14 (some 43) rfl ?_
 refine tk 15 (some 44) rfl ?_
 refine tk 16 (some 45) rfl ?_
 refine tk 17 (some 46) rfl ?_
 all_goals(apply_rules(newGoals:= .nonDependentOnly)(maxDepth:=1)only[zE];constructor)):p:=h
theorem zq103(h:p:=by
 (try go_wp2_with fail)
 refine hKK.out _ _ ?_ (fun hHeld=>?_)
 ·refine' zq135
 refine' zq4
 all_goals(apply_rules(newGoals:= .nonDependentOnly)(maxDepth:=1)only[zE];constructor)):p:=h
theorem zq206(h:p:=by
 first|(go_at_call 58;refine Calls.mono (HI.out w3.drew _ bE hV.out) ?_;rintro e w5 ⟨rfl,rfl⟩)|(go_at_call 59;refine Calls.mono (HE.out _ _ ?hbb hV2.out) ?_;(case hbb=>exact bE);rintro e w6 ⟨rfl,q,rfl⟩)
 refine' zq103
 all_goals(apply_rules(newGoals:= .nonDependentOnly)(maxDepth:=1)only[zE];constructor)):p:=h
theorem zq23(h:p:=by
 clear hc
 refine' zq84
 refine' zq206
 refine' zq169
 refine tk 18 (some 47) rfl ?_
 refine tk 19 (some 48) rfl ?_
 refine tk 20 (some 49) rfl ?_
 refine tk 21 (some 50) rfl ?_
 refine tk 22 (some 51) rfl ?_
 refine tk 23 (some 52) rfl ?_
 refine tk 24 (some 53) rfl ?_
 refine tk 25 (some 54) rfl ?_
 refine tk 26 (some 55) rfl ?_
 refine tk 27 (some 56) rfl ?_
 refine tk 28 (some 57) rfl ?_
 refine tk 29 (some 58) rfl ?_
 refine tk 30 (some 59) rfl ?_
 refine tk 31 (some 60) rfl ?_
 refine tk 32 (some 61) rfl ?_
 refine tk 33 (some 62) rfl ?_
 refine rd1 34 (some 63) rfl (fun KK hKK=>?_)
 go_simp
 refine' zq206
 refine tk 35 (some 64) rfl ?_
 refine tk 36 (some 65) rfl ?_
 refine wpAnyH_done (by kernel_rfl) ?_ _
 go_wp2_with fail
 all_goals(apply_rules(newGoals:= .nonDependentOnly)(maxDepth:=1)only[zE];constructor)):p:=h
theorem zq24(h:p:=by
 refine wp_region_held_drew (S:=fun W=>W.cell? ⟨wr.heap.size,0,none⟩=some (.int .i64 x.op)∧W.cell? ⟨wr.heap.size,1,none⟩=some (.string x.name)∧W.cell? ⟨wr.heap.size,2,none⟩=some (.int .i64 x.n)∧W.cell? ⟨wr.heap.size,3,none⟩=some (.slice A' x.args.length cap')∧W.cell? ⟨wr.heap.size,4,none⟩=some (.int .i64 x.line)∧W.cell? ⟨wr.heap.size,5,none⟩=some (.int .i64 x.col)) (by kernel_rfl) ?_ (fun hHeld=>?_)
 ·(try dsimp only);(first|(with_reducible exact HX.out _ bE))
 refine tk 0 (some 20) rfl ?_
 refine tk 1 (some 21) rfl ?_
 refine tk 2 (some 22) rfl ?_
 refine tk 3 (some 23) rfl ?_
 refine tk 4 (some 24) rfl ?_
 refine tk 5 (some 25) rfl ?_
 refine tk 6 (some 26) rfl ?_
 refine tk 7 (some 27) rfl ?_
 refine tk 8 (some 28) rfl ?_
 refine tk 9 (some 29) rfl ?_
 refine tk 10 (some 30) rfl ?_
 refine tk 12 (some 32) rfl ?_
 refine tk 13 (some 33) rfl ?_
 refine tk 14 (some 34) rfl ?_
 refine rd1 11 (some 31) rfl (fun KK hKK=>?_)
 go_simp
 go_at_call 87;refine Calls.mono (HPT.out _) ?_;rintro e w8 ⟨rfl,hb8⟩;(have hb9:Below wx.heap.size wx w8:=Below.trans bE (hb8.mono lE))
 (try go_wp2_with fail)
 refine hKK.out _ _ ?_ (fun hHeld=>?_)
 ·(try dsimp only);(first|(with_reducible exact HX.out _ bE))
 refine' zq4
 refine tk 15 (some 35) rfl ?_
 refine tk 16 (some 36) rfl ?_
 refine tk 17 (some 37) rfl ?_
 all_goals(apply_rules(newGoals:= .nonDependentOnly)(maxDepth:=1)only[zE];constructor)):p:=h
theorem zq25(h:p:=by
 refine wpAnyH_done (by kernel_rfl) ?_ _
 go_wp2_with fail
 all_goals(apply_rules(newGoals:= .nonDependentOnly)(maxDepth:=1)only[zE];constructor)):p:=h
theorem zq36(h:p:=by
 have HF:Hid (cB (actOk f ⟨op,(md:Int),(ma:Int),(mb:Int),(mc:Int),k⟩)=false):=cB_false (fun g=>hz (g.2.2.2.2.2.2.2.1 (by dsimp only;rw[HU.out];decide)))
 have ez:(k !=0)=true:=by simpa using hz
 clear hz
 refine' zq264
 all_goals(apply_rules(newGoals:= .nonDependentOnly)(maxDepth:=1)only[zE];constructor)):p:=h
theorem zq26(h:p:=by
 by_cases hz:k=0
 rotate_left 1
 ·refine' zq36
 have HZk:=Lib.hid hz
 have ezk:(k !=0)=false:=by simpa using hz
 refine' zq1
 all_goals(apply_rules(newGoals:= .nonDependentOnly)(maxDepth:=1)only[zE];constructor)):p:=h
theorem zq27(h:p:=by
 refine' zq99
 have hc1:=hc.fr (MFr.of_below (q:=q) (D:=D) b1)
 refine' zq178
 all_goals(apply_rules(newGoals:= .nonDependentOnly)(maxDepth:=1)only[zE];constructor)):p:=h
theorem zq223(h:p:=by
 (try go_wp2_with fail)
 refine hKK.out _ _ ?_ (fun hHeld=>?_)
 ·(try dsimp only);(first|(with_reducible exact HS6.out _ bE)|go_keep)
 refine' zq4
 all_goals(apply_rules(newGoals:= .nonDependentOnly)(maxDepth:=1)only[zE];constructor)):p:=h
theorem zq28(h:p:=by
 refine wp_region_held_drew (S:=fun W=>W.cell? ⟨w.heap.size,0,none⟩=some (.pointer (some ⟨D,0,none⟩))∧(W.cell? ⟨w.heap.size+1,1,none⟩=some (.int .i64 e.op)∧W.cell? ⟨w.heap.size+1,2,none⟩=some (.string e.name)∧W.cell? ⟨w.heap.size+1,3,none⟩=some (.int .i64 e.n)∧W.cell? ⟨w.heap.size+1,4,none⟩=some (.slice A e.args.length cap)∧W.cell? ⟨w.heap.size+1,5,none⟩=some (.int .i64 e.line)∧W.cell? ⟨w.heap.size+1,6,none⟩=some (.int .i64 e.col))∧W.cell? ⟨X,0,none⟩=some (.int .i64 T)∧W.cell? ⟨X,1,none⟩=some (.slice Ag C.length cg)) (by kernel_rfl) ?_ (fun hHeld=>?_)
 ·(try dsimp only);(first|(with_reducible exact HS6.out _ bE)|go_keep)
 refine tk 0 (some 26) rfl ?_
 refine tk 1 (some 27) rfl ?_
 refine rd1 2 (some 28) rfl (fun KK hKK=>?_)
 go_simp
 (go_at_call 99;refine Calls.mono (HHE.out _ bE) ?_;rintro r w8 ⟨rfl,hb8⟩;(have hb9:Below w4.heap.size w4 w8:=Below.trans bE (hb8.mono lE));(have hs9:=hb9.size))
 refine' zq223
 refine tk 3 (some 29) rfl ?_
 refine tk 4 (some 30) rfl ?_
 all_goals(apply_rules(newGoals:= .nonDependentOnly)(maxDepth:=1)only[zE];constructor)):p:=h
theorem zq29(h:p:=by
 refine wp_region_held_drew (S:=fun W=>W.cell? ⟨w.heap.size,0,none⟩=some (.slice (some ⟨b6,o6,none⟩) f.wires.length cw)∧W.cell? ⟨w.heap.size,1,none⟩=some va∧W.cell? ⟨w.heap.size,2,none⟩=some (.slice (some ⟨b3,off3,none⟩) f.cells.length cc)∧W.cell? ⟨w.heap.size,3,none⟩=some vk∧W.cell? ⟨w.heap.size,4,none⟩=some vi∧W.cell? ⟨w.heap.size,5,none⟩=some vo∧W.cell? ⟨g6,0,none⟩=some (.int .i64 (tyOf f (md:Int)))∧W.cell? ⟨g6,1,none⟩=some (.slice Agd (clockOf f (md:Int)).length cgd)∧W.cell? ⟨w.heap.size+1,5,none⟩=some (.int .i64 (kk:Int))∧W.cell? ⟨b3,off3+kk*2,none⟩=some (.int .i64 T2)∧W.cell? ⟨b6,o6+mn*2+1,none⟩=some (.slice Agn (clockOf f (mn:Int)).length cgn)) (by kernel_rfl) ?_ (fun hHeld=>?_)
 ·refine' zq15
 refine tk 0 (some 136) rfl ?_
 refine tk 1 (some 137) rfl ?_
 refine tk 2 (some 138) rfl ?_
 refine tk 3 (some 139) rfl ?_
 refine tk 4 (some 140) rfl ?_
 refine tk 5 (some 141) rfl ?_
 refine tk 6 (some 142) rfl ?_
 refine tk 7 (some 143) rfl ?_
 refine tk 8 (some 144) rfl ?_
 refine tk 9 (some 145) rfl ?_
 refine tk 10 (some 146) rfl ?_
 all_goals(apply_rules(newGoals:= .nonDependentOnly)(maxDepth:=1)only[zE];constructor)):p:=h
theorem zq76(h:p:=by
 have mw':cw≤9223372036854775807:=by unfold maxLen at mw;omega
 all_goals(apply_rules(newGoals:= .nonDependentOnly)(maxDepth:=1)only[zE];constructor)):p:=h
theorem zq30(h:p:=by
 obtain ⟨Aw,cw,hvw,lw,mw,_⟩:=h.wires
 refine' zq76
 subst hvw
 have HALL:=Lib.hid hall
 have HU:=Lib.hid hu
 have HOP:=Lib.hid hop
 have hd':=hd
 obtain ⟨ha,hb,hc⟩:=hall
 clear hu hop
 all_goals(apply_rules(newGoals:= .nonDependentOnly)(maxDepth:=1)only[zE];constructor)):p:=h
theorem zq31(h:p:=by
 refine tk 32 (some 77) rfl ?_
 refine tk 33 (some 78) rfl ?_
 refine sk 34 (some 79) rfl ?_
 refine sk 35 (some 80) rfl ?_
 refine sk 36 (some 81) rfl ?_
 refine sk 37 (some 82) rfl ?_
 refine sk 38 (some 83) rfl ?_
 refine sk 39 (some 84) rfl ?_
 refine sk 40 (some 85) rfl ?_
 refine sk 41 (some 86) rfl ?_
 refine sk 42 (some 87) rfl ?_
 refine sk 43 (some 88) rfl ?_
 refine sk 44 (some 89) rfl ?_
 refine sk 45 (some 90) rfl ?_
 refine sk 46 (some 91) rfl ?_
 refine sk 47 (some 92) rfl ?_
 refine sk 48 (some 93) rfl ?_
 refine sk 49 (some 94) rfl ?_
 refine sk 50 (some 95) rfl ?_
 refine sk 51 (some 96) rfl ?_
 refine sk 52 (some 97) rfl ?_
 refine sk 53 (some 98) rfl ?_
 refine sk 54 (some 99) rfl ?_
 refine tk 55 (some 100) rfl ?_
 all_goals(apply_rules(newGoals:= .nonDependentOnly)(maxDepth:=1)only[zE];constructor)):p:=h
theorem zq293(h:p:=by
 refine tk 0 (some 13) rfl ?_
 refine tk 1 (some 14) rfl ?_
 refine tk 2 (some 15) rfl ?_
 refine tk 3 (some 16) rfl ?_
 refine tk 4 (some 17) rfl ?_
 refine tk 5 (some 18) rfl ?_
 refine tk 6 (some 19) rfl ?_
 all_goals(apply_rules(newGoals:= .nonDependentOnly)(maxDepth:=1)only[zE];constructor)):p:=h
theorem zq32(h:p:=by
 go_upto_region 5 with (fail)
 refine wp_region_held_drew (S:=fun W=>W.cell? ⟨w.heap.size,0,none⟩=some (.slice (some ⟨b6,off6,none⟩) f.wires.length cw)∧W.cell? ⟨b,off+k,none⟩=some (.int .i64 (m:Int))∧W.cell? ⟨b6,off6+m*2,none⟩=some (.int .i64 T)) (by kernel_rfl) ?_ (fun hHeld=>?_)
 ·(try dsimp only);(first|exact HK9.out|(with_reducible exact HK.out _ bE))
 refine' zq293
 refine tk 7 (some 20) rfl ?_
 refine tk 8 (some 21) rfl ?_
 refine tk 9 (some 22) rfl ?_
 refine rd1 10 (some 23) rfl (fun KK hKK=>?_)
 go_simp
 refine hKK.out _ _ ?_ (fun hHeld=>?_)
 ·(try dsimp only);(first|exact HK9.out|(with_reducible exact HK.out _ bE))
 refine' zq4
 refine rd1 11 (some 24) rfl (fun KK hKK=>?_)
 (rw[if_pos (by kernel_rfl)];refine step_own (.tmp 13) (.tmp 23) 26 rfl w1.heap.size 3 i0 (.int .i64 0) 1 8 Tryz.underlying26 hi0 hz0 hz1 hz2 rfl (by decide) _ k LL rfl ((own_below HO.out (bE:Below wr.heap.size wr _))) (some ⟨_,0,none⟩) 1 1 [.int .i64 T] rfl NilOk.some rfl (fun ad he=>by injection he with he;subst he;exact cells_new _ _ _) (by intro u hu;simp at hu;subst hu;rfl) (by unfold maxLen;omega) (by omega) (by first|omega|(simp;omega)|simp) ?_;intro v13 w13 hown13 hg13;(have hf13:Below w1.heap.size wr w13:=below_own (Below.mono (bE:Below wr.heap.size wr _) hszr) (own_below HO.out (bE:Below wr.heap.size wr _)) hg13 (by first|omega|(simp;omega)|simp));(have HK9:Hid (w13.cell? ⟨w.heap.size,0,none⟩=some (.slice (some ⟨b6,off6,none⟩) f.wires.length cw)∧w13.cell? ⟨b,off+k,none⟩=some (.int .i64 (m:Int))∧w13.cell? ⟨b6,off6+m*2,none⟩=some (.int .i64 T)):=⟨(HF6.out _ (HBR.out.trans hf13)),HKL.out.1 w13 hf13,HKL.out.2 w13 hf13⟩))
 refine hKK.out _ _ ?_ (fun hHeld=>?_)
 ·(try dsimp only);(first|exact HK9.out|(with_reducible exact HK.out _ bE))
 refine' zq4
 refine tk 12 (some 5) rfl ?_
 refine wpAnyH_done (by kernel_rfl) ?_ _
 have HB:=Lib.hid (HBR.out.trans hf13)
 clear hf13
 all_goals(apply_rules(newGoals:= .nonDependentOnly)(maxDepth:=1)only[zE];constructor)):p:=h
theorem zq304(h:p:=by
 go_enter Tryz.func73,Tryz.ntmps73
 go_upto_region 1 with (fail)
 (try rw[hw1])
 clear hw1
 refine' zq237
 rintro e w1' ⟨rfl,rfl⟩
 rw[HUE.out]
 all_goals(apply_rules(newGoals:= .nonDependentOnly)(maxDepth:=1)only[zE];constructor)):p:=h
theorem zq33(h:p:=by
 refine' zq304
 go_wp2_with (at_builtin;refine wpList_append_own _ rfl _ _ 26 rfl w1.heap.size 3 i0 (.int .i64 0) 1 8 Tryz.underlying26 hi0 hz0 hz1 hz2 rfl (by decide) _ _ _ rfl (World.ownsRow_nil _ _ _ _) ⟨w1.heap.size,0,none⟩ 1 1 [.int .i64 a] rfl rfl (cells_new _ _ _) (HONE.out _) (by unfold maxLen;omega) (by omega) (by first|(simp;done)|(simp;omega)) ?_)
 intro v1 w1a hown hgrow _
 have hb1a:=below_own ((Below.refl w1.heap.size w1).alloc (by first|exact Nat.le_refl _|assumption) _) (World.ownsRow_nil _ _ 3 1) hgrow (by first|(simp;done)|(simp;omega))
 have HO1:Hid (w1a.ownsRow w1.heap.size 3 1 v1 1 (ints [a])):=by first|exact hown|simpa[ints] using hown
 have hs1a:=hb1a.size
 clear hown hgrow
 clear y0 y1 c0 c1 c2 c3 c4 c5
 obtain ⟨y0,y1,c0,c1,c2,c3,c4,c5⟩:=HD.out w1a hb1a
 all_goals(apply_rules(newGoals:= .nonDependentOnly)(maxDepth:=1)only[zE];constructor)):p:=h
theorem zq261(h:p:=by
 intro v' w3 hown' hgrow _
 have hb3:Below w2.heap.size w2 w3:=below_own (hbel.alloc hsz2 _) (hown.alloc _) hgrow (by simp;omega)
 all_goals(apply_rules(newGoals:= .nonDependentOnly)(maxDepth:=1)only[zE];constructor)):p:=h
theorem zq34(h:p:=by
 have hsz:=hb2.size
 go_wp2_with fail
 go_loopw[4,5] (fun v i wr=>∃j q:Nat,q+j=65∧1≤q∧i= .int .i64 ((j:Int)-1)∧wr.ownsRow w2.heap.size 3 1 v q (ints (0::(X.drop j).reverse))∧Below w2.heap.size w2 wr) (fun _ i _=>(intOf i+1).toNat)
 case atStart=>exact ⟨64,1,by omega,by omega,by rfl,by rw[List.drop_of_length_le (by rw[HL.out];omega)];exact World.ownsRow_lit _ _ 1 (Nat.le_refl _) (by unfold maxLen;omega) rfl,(Below.refl _ _).alloc (Nat.le_refl _) _⟩
 case round=>
  obtain ⟨j,q,hj,hq,rfl,hown,hbel⟩:=hrel
  by_cases hlt:1≤j
  ·obtain ⟨m,rfl⟩:∃m,j=m+1:=⟨j-1,by omega⟩
   obtain ⟨ad1,u1,rfl,hB1,hx1,hcell1⟩:=(hr1.below hbel).at1 (k:=m) (by omega)
   obtain ⟨x1,hl1,rfl⟩:=ints_get hx1
   have HS:=Lib.hid (rev_drop hl1)
   have hsz2:=hbel.size
   clear hx1 hl1
   rw[show ((m+1:Nat):Int)-1=m from by omega]
   go_wp2_with (at_builtin;refine wpList_append_own _ rfl _ _ 26 rfl w2.heap.size 3 i0 (.int .i64 0) 1 8 Tryz.underlying26 hi0 hz0 hz1 hz2 rfl (by decide) _ _ _ rfl (hown.alloc _) ⟨wr.heap.size,0,none⟩ 1 1 [.int .i64 x1] rfl rfl ?c1 ?c2 ?c3 ?c4 ?c5 ?_)
   case c1=>exact cell_one _ _ _
   case c2=>simp[Value.oneCell']
   case c3=>unfold maxLen;omega
   case c4=>omega
   case c5=>simp;omega
   refine' zq261
   have ho3:w3.ownsRow w2.heap.size 3 1 v' (q+1) (ints (0::(X.drop m).reverse)):=by
    rw[HS.out,ints_snoc];exact hown'
   clear hown hbel hown' hgrow
   go_wp2_with fail
   go_roundw
   case rel=>exact ⟨m,q+1,by omega,by omega,by go_num,ho3,hb3⟩
   case measure=>simp[intOf]
  ·obtain rfl:j=0:=by omega
   rw[show ((0:Nat):Int)-1= -1 from rfl]
   obtain rfl:q=65:=by omega
   have hfin:wr.ownsRow w.heap.size 3 1 u4 65 (ints (highL a)):=by rw[HF.out];exact own_base hown hsz
   clear hown hj hlt
   go_wp2_with fail
   go_ret
   exact ⟨_,rfl,hfin,hb2.trans (hbel.mono hsz)⟩
 all_goals(apply_rules(newGoals:= .nonDependentOnly)(maxDepth:=1)only[zE];constructor)):p:=h
theorem zq166(h:p:=by
 have HFIN:Hid (∀W,Below w5.heap.size w5 W→Below w.heap.size w W):=fun W hW=>hb15.trans (hW.mono hb15.size)
 all_goals(apply_rules(newGoals:= .nonDependentOnly)(maxDepth:=1)only[zE];constructor)):p:=h
theorem zq194(h:p:=by
 have HN5:=Lib.hid (HH.out.below hBw hb15)
 have hB5:B≤w5.heap.size:=Nat.le_trans hBw hb15.size
 all_goals(apply_rules(newGoals:= .nonDependentOnly)(maxDepth:=1)only[zE];constructor)):p:=h
theorem zq35(h:p:=by
 refine' zq2
 refine' zq194
 have HS:Hid (∀W,Below w5.heap.size w5 W→W.cell? ⟨w.heap.size,0,none⟩=some (.int .i64 op)∧W.cell? ⟨w.heap.size,1,none⟩=some (.int .i64 (m:Int))∧W.cell? ⟨w.heap.size,2,none⟩=some (.int .i64 a)∧W.cell? ⟨w.heap.size,3,none⟩=some (.int .i64 b)∧W.cell? ⟨w.heap.size,4,none⟩=some (.int .i64 c)∧W.cell? ⟨w.heap.size,5,none⟩=some (.int .i64 k)):=fun W hW=>(bX5.below hW hg5).six'
 refine' zq166
 all_goals(apply_rules(newGoals:= .nonDependentOnly)(maxDepth:=1)only[zE];constructor)):p:=h
theorem zq190(h:p:=by
 refine sk 19 (some 106) rfl ?_
 refine sk 20 (some 107) rfl ?_
 refine sk 21 (some 108) rfl ?_
 refine sk 22 (some 109) rfl ?_
 refine sk 23 (some 110) rfl ?_
 refine sk 24 (some 111) rfl ?_
 refine sk 25 (some 112) rfl ?_
 refine sk 26 (some 113) rfl ?_
 refine sk 27 (some 114) rfl ?_
 refine tk 28 (some 115) rfl ?_
 refine tk 29 (some 4) rfl ?_
 all_goals(apply_rules(newGoals:= .nonDependentOnly)(maxDepth:=1)only[zE];constructor)):p:=h
theorem zq218(h:p:=by
 refine tk 0 (some 87) rfl ?_
 refine tk 1 (some 88) rfl ?_
 refine tk 2 (some 89) rfl ?_
 refine tk 3 (some 90) rfl ?_
 refine tk 4 (some 91) rfl ?_
 refine tk 5 (some 92) rfl ?_
 refine tk 6 (some 93) rfl ?_
 refine tk 7 (some 94) rfl ?_
 refine tk 8 (some 95) rfl ?_
 refine tk 9 (some 96) rfl ?_
 all_goals(apply_rules(newGoals:= .nonDependentOnly)(maxDepth:=1)only[zE];constructor)):p:=h
theorem zq37(h:p:=by
 refine' zq218
 refine sk 10 (some 97) rfl ?_
 refine sk 11 (some 98) rfl ?_
 refine sk 12 (some 99) rfl ?_
 refine sk 13 (some 100) rfl ?_
 refine sk 14 (some 101) rfl ?_
 refine sk 15 (some 102) rfl ?_
 refine sk 16 (some 103) rfl ?_
 refine tk 17 (some 104) rfl ?_
 refine tk 18 (some 105) rfl ?_
 refine' zq190
 all_goals(apply_rules(newGoals:= .nonDependentOnly)(maxDepth:=1)only[zE];constructor)):p:=h
theorem zq245(h:p:=by
 have bX:=Row.new w #[.int .i64 op,.int .i64 dst,.int .i64 a,.int .i64 0,.int .i64 0,.int .i64 0] 58
 have b1:Below w.heap.size w (w.alloc (.cells #[.int .i64 op,.int .i64 dst,.int .i64 a,.int .i64 0,.int .i64 0,.int .i64 0] 58)):=bE
 all_goals(apply_rules(newGoals:= .nonDependentOnly)(maxDepth:=1)only[zE];constructor)):p:=h
theorem zq38(h:p:=by
 refine' zq245
 refine' zq17
 generalize hW1:w.alloc (.cells #[.int .i64 op,.int .i64 dst,.int .i64 a,.int .i64 0,.int .i64 0,.int .i64 0] 58)=w1 at*
 refine' zq2
 refine' zq194
 have HS:Hid (∀W,Below w5.heap.size w5 W→W.cell? ⟨w.heap.size,0,none⟩=some (.int .i64 op)∧W.cell? ⟨w.heap.size,1,none⟩=some (.int .i64 (m:Int))∧W.cell? ⟨w.heap.size,2,none⟩=some (.int .i64 a)∧W.cell? ⟨w.heap.size,3,none⟩=some (.int .i64 0)∧W.cell? ⟨w.heap.size,4,none⟩=some (.int .i64 0)∧W.cell? ⟨w.heap.size,5,none⟩=some (.int .i64 0)):=fun W hW=>(bX5.below hW hg5).six'
 refine' zq166
 all_goals(apply_rules(newGoals:= .nonDependentOnly)(maxDepth:=1)only[zE];constructor)):p:=h
theorem zq260(h:p:=by
 refine tk 0 (some 167) rfl ?_
 refine tk 1 (some 168) rfl ?_
 refine tk 2 (some 169) rfl ?_
 refine tk 3 (some 170) rfl ?_
 refine tk 4 (some 171) rfl ?_
 refine tk 5 (some 172) rfl ?_
 refine tk 6 (some 173) rfl ?_
 refine tk 7 (some 174) rfl ?_
 all_goals(apply_rules(newGoals:= .nonDependentOnly)(maxDepth:=1)only[zE];constructor)):p:=h
theorem zq39(h:p:=by
 refine wp_region_held_drew (S:=fun W=>W.cell? ⟨g6,0,none⟩=some (.int .i64 (tyOf f (md:Int)))∧W.cell? ⟨g6,1,none⟩=some (.slice Agd (L+1) cgd)∧W.cell? ⟨g6+1,0,none⟩=some (.int .i64 (tyOf f (ma:Int)))∧W.cell? ⟨g6+1,1,none⟩=some (.slice Aga (clockOf f (ma:Int)).length cga)) (by kernel_rfl) ?_ (fun hHeld=>?_)
 ·refine' zq15
 refine' zq260
 refine tk 8 (some 175) rfl ?_
 refine rd1 9 (some 176) rfl (fun KK hKK=>?_)
 go_simp
 go_at_call 31;refine Calls.mono (HV.out _ ?hbb) ?_;(case hbb=>exact bE);rintro e w8 ⟨rfl,n8,rfl⟩
 refine' zq11
 refine tk 10 (some 177) rfl ?_
 refine tk 11 (some 178) rfl ?_
 all_goals(apply_rules(newGoals:= .nonDependentOnly)(maxDepth:=1)only[zE];constructor)):p:=h
theorem zq159(h:p:=by
 have bX:=Row.new w #[.int .i64 op,.int .i64 dst,.int .i64 0,.int .i64 0,.int .i64 0,.int .i64 k] 58
 have b1:Below w.heap.size w (w.alloc (.cells #[.int .i64 op,.int .i64 dst,.int .i64 0,.int .i64 0,.int .i64 0,.int .i64 k] 58)):=bE
 refine' zq17
 generalize hW1:w.alloc (.cells #[.int .i64 op,.int .i64 dst,.int .i64 0,.int .i64 0,.int .i64 0,.int .i64 k] 58)=w1 at*
 refine' zq2
 all_goals(apply_rules(newGoals:= .nonDependentOnly)(maxDepth:=1)only[zE];constructor)):p:=h
theorem zq40(h:p:=by
 refine' zq159
 have hb16:=fun n=>below_drewN' hb15 n
 (try go_wp2_with fail)
 (with_reducible refine (kind_b HH.out hBw hd HTd.out (hb16 _)).mono ?_)
 rintro e w6 ⟨rfl,rfl⟩
 go_wp2_with fail
 all_goals(apply_rules(newGoals:= .nonDependentOnly)(maxDepth:=1)only[zE];constructor)):p:=h
theorem zq63(h:p:=by
 go_wp2_with fail
 go_ret
 exact ⟨ret_bool HF.out.symm,by first|exact ⟨_,rfl⟩|(rw[World.drewN_drewN];exact ⟨_,rfl⟩)⟩
 all_goals(apply_rules(newGoals:= .nonDependentOnly)(maxDepth:=1)only[zE];constructor)):p:=h
theorem zq73(h:p:=by
 obtain ⟨b1,o1,x,rfl,hb1,hx,wx,d1⟩:=s1.int hlt
 obtain ⟨b2,o2,y,rfl,hb2,hy,wy,d2⟩:=s2.int (show k<m.length by omega)
 have HX:=Lib.hid hx
 have HY:=Lib.hid hy
 clear hx hy
 have hk1:(k:Int)<l.length:=by omega
 have hk2:(k:Int)<m.length:=by omega
 have hk0:(0:Int)≤(k:Int):=by omega
 go_wp2_with fail
 go_quiet (fail)
 by_cases e:x=y
 ·have e':(x !=y)=false:=by simp[e]
  have HN':=Lib.hid (upto_succ HN.out (fun x' y' hx' hy'=>by rw[HX.out] at hx';rw[HY.out] at hy';injection hx' with hx';injection hy' with hy';rw[←hx',←hy'];exact e))
  clear e
  go_wp2_with fail
  go_roundw
  case rel=>exact ⟨k+1,by omega,by go_num,HN',by first|exact ⟨_,rfl⟩|(rw[World.drewN_drewN];exact ⟨_,rfl⟩)⟩
  case measure=>simp[intOf];omega
 ·have e':(x !=y)=true:=by simp[e]
  have HF:=Lib.hid (cB_false (fun g:l=m=>e (by have:=HX.out;rw[g,HY.out] at this;injection this with this;exact this.symm)))
  clear e
  refine' zq63
 all_goals(apply_rules(newGoals:= .nonDependentOnly)(maxDepth:=1)only[zE];constructor)):p:=h
theorem zq50(h:p:=by
 obtain ⟨k,hk,rfl,HN,n,rfl⟩:=hrel
 by_cases hlt:k<l.length
 ·refine' zq73
 ·obtain rfl:k=l.length:=by omega
  have HF:=Lib.hid (cB_true (flist_eq HL.out HN.out))
  refine' zq63
 all_goals(apply_rules(newGoals:= .nonDependentOnly)(maxDepth:=1)only[zE];constructor)):p:=h
theorem zq41(h:p:=by
 go_wp2_with fail
 go_loopw[5] (fun i wr=>∃k:Nat,k≤l.length∧i= .int .i64 k∧Hid (∀j,j<k→∀x y,l[j]? =some x→m[j]? =some y→x=y)∧∃n,wr=w.drewN n) (fun i _=>l.length-(intOf i).toNat)
 case atStart=>exact ⟨0,Nat.zero_le _,rfl,fun j h=>absurd h (by omega),0,rfl⟩
 case round=>
  refine' zq50
 all_goals(apply_rules(newGoals:= .nonDependentOnly)(maxDepth:=1)only[zE];constructor)):p:=h
theorem zq334(h:p:=by
 rintro e w5 ⟨rfl,hw5,hr5,hu5⟩
 have HW5:=Lib.hid hw5
 clear hw5
 go_wp2_with fail
 go_ret
 exact ⟨ret_int HV.out,by rw[←HV.out];exact HW5.out,hr5,HU4.out.trans hu5⟩
 all_goals(apply_rules(newGoals:= .nonDependentOnly)(maxDepth:=1)only[zE];constructor)):p:=h
theorem zq42(h:p:=by
 subst ho
 obtain ⟨hda,hwa⟩:=HWT.out xa (wants_a (by dsimp only;decide))
 obtain ⟨hdb,hwb⟩:=HWT.out xb (wants_b (by dsimp only;decide))
 obtain ⟨hdc,hwc⟩:=HWT.out xc (wants_c (by dsimp only;decide))
 have HW:=Lib.hid hwa
 have HWb:=Lib.hid hwb
 have HWc:=Lib.hid hwc
 have HY:Hid (valF f cs row xa≠0→valF f cs row xb=valF f cs row (m:Int)):=fun h=>(val_yes HOK.out cs row HX.out (by dsimp only;decide) hda h hdb).symm
 have HZ:Hid (valF f cs row xa=0→valF f cs row xc=valF f cs row (m:Int)):=fun h=>(val_no HOK.out cs row HX.out (by dsimp only;decide) hda h hdc).symm
 clear hu hwa hwb hwc hda hdb hdc HWT
 go_wp2_with fail
 refine (HW.out _ _ _ HR3.out).mono ?_
 rintro e w4 ⟨rfl,hw4,⟨ds4,vs4,hr4⟩,hu4⟩
 have HR4:=Lib.hid hr4
 have HU4:=Lib.hid (HU3.out.trans hu4)
 clear c0 c1 c2 c3 c4 c5 hw4 hr4
 obtain ⟨c0,c1,c2,c3,c4,c5⟩:=HCX.out w4 hu4
 by_cases hz:valF f cs row xa=0
 ·have HV:=Lib.hid (HZ.out hz)
  have ez:(valF f cs row xa !=0)=false:=by simp[hz]
  clear hz HY HZ
  generalize valF f cs row xa=va at*
  go_wp2_with fail
  refine (HWc.out _ _ _ HR4.out).mono ?_
  refine' zq334
 ·have HV:=Lib.hid (HY.out hz)
  have ez:(valF f cs row xa !=0)=true:=by simp[hz]
  clear hz HY HZ
  generalize valF f cs row xa=va at*
  go_wp2_with fail
  refine (HWb.out _ _ _ HR4.out).mono ?_
  refine' zq334
 all_goals(apply_rules(newGoals:= .nonDependentOnly)(maxDepth:=1)only[zE];constructor)):p:=h
theorem zq204(h:p:=by
 refine sk 28 (some 222) rfl ?_
 refine sk 29 (some 223) rfl ?_
 refine sk 30 (some 224) rfl ?_
 refine sk 31 (some 225) rfl ?_
 refine sk 32 (some 226) rfl ?_
 refine sk 33 (some 227) rfl ?_
 refine sk 34 (some 228) rfl ?_
 refine sk 35 (some 229) rfl ?_
 refine tk 36 (some 230) rfl ?_
 refine tk 37 (some 4) rfl ?_
 all_goals(apply_rules(newGoals:= .nonDependentOnly)(maxDepth:=1)only[zE];constructor)):p:=h
theorem zq43(h:p:=by
 refine tk 16 (some 210) rfl ?_
 refine tk 17 (some 211) rfl ?_
 refine sk 18 (some 212) rfl ?_
 refine sk 19 (some 213) rfl ?_
 refine sk 20 (some 214) rfl ?_
 refine sk 21 (some 215) rfl ?_
 refine sk 22 (some 216) rfl ?_
 refine sk 23 (some 217) rfl ?_
 refine sk 24 (some 218) rfl ?_
 refine sk 25 (some 219) rfl ?_
 refine tk 26 (some 220) rfl ?_
 refine tk 27 (some 221) rfl ?_
 refine' zq204
 refine' zq25
 go_ret
 exact ⟨ret_bool HF.out.symm,HBW.out _ (b5.trans ((bE:Below w5.heap.size w5 _).mono hs5))⟩
 all_goals(apply_rules(newGoals:= .nonDependentOnly)(maxDepth:=1)only[zE];constructor)):p:=h
theorem zq220(h:p:=by
 go_wp2_with fail
 go_quiet (fail)
 go_wp2_with fail
 all_goals(apply_rules(newGoals:= .nonDependentOnly)(maxDepth:=1)only[zE];constructor)):p:=h
theorem zq83(h:p:=by
 have e1':(x.wire==y.wire)=true:=by simp[e1]
 by_cases e2:x.no=y.no
 ·have e2':(x.no==y.no)=true:=by simp[e2]
  have HN':=Lib.hid (upto_succ HN.out (fun x' y' hx' hy'=>by rw[HX.out] at hx';rw[HY.out] at hy';injection hx' with hx';injection hy' with hy';rw[←hx',←hy'];exact gd_ext e1 e2))
  clear e1 e2
  refine' zq220
  go_roundw
  case rel=>exact ⟨k+1,by omega,by go_num,HN',by first|exact ⟨_,rfl⟩|(rw[World.drewN_drewN];exact ⟨_,rfl⟩)⟩
  case measure=>simp[intOf];omega
 ·have e2':(x.no==y.no)=false:=by simp[e2]
  have HF:=Lib.hid (cB_false (fun g:l=m=>e2 (by have:=HX.out;rw[g,HY.out] at this;injection this with this;rw[this])))
  clear e1 e2
  go_wp2_with fail
  go_quiet (fail)
  refine' zq63
 all_goals(apply_rules(newGoals:= .nonDependentOnly)(maxDepth:=1)only[zE];constructor)):p:=h
theorem zq44(h:p:=by
 obtain ⟨b1,o1,x,rfl,hb1,hx,wx,d1,d1'⟩:=s1.gd hlt
 obtain ⟨b2,o2,y,rfl,hb2,hy,wy,d2,d2'⟩:=s2.gd (show k<m.length by omega)
 have HX:=Lib.hid hx
 have HY:=Lib.hid hy
 clear hx hy
 have hk1:(k:Int)<l.length:=by omega
 have hk2:(k:Int)<m.length:=by omega
 have hk0:(0:Int)≤(k:Int):=by omega
 by_cases e1:x.wire=y.wire
 ·refine' zq83
 ·have e1':(x.wire==y.wire)=false:=by simp[e1]
  have HF:=Lib.hid (cB_false (fun g:l=m=>e1 (by have:=HX.out;rw[g,HY.out] at this;injection this with this;rw[this])))
  clear e1
  go_wp2_with fail
  go_quiet (fail)
  refine' zq63
 all_goals(apply_rules(newGoals:= .nonDependentOnly)(maxDepth:=1)only[zE];constructor)):p:=h
theorem zq100(h:p:=by
 refine' zq25
 go_ret
 exact ⟨ret_bool HQ.out.symm,HFIN.out _ bE⟩
 all_goals(apply_rules(newGoals:= .nonDependentOnly)(maxDepth:=1)only[zE];constructor)):p:=h
theorem zq191(h:p:=by
 refine sk 35 (some 153) rfl ?_
 refine sk 36 (some 154) rfl ?_
 refine sk 37 (some 155) rfl ?_
 refine sk 38 (some 156) rfl ?_
 refine sk 39 (some 157) rfl ?_
 refine sk 40 (some 158) rfl ?_
 refine sk 41 (some 159) rfl ?_
 refine sk 42 (some 160) rfl ?_
 refine sk 43 (some 161) rfl ?_
 refine tk 44 (some 162) rfl ?_
 refine tk 45 (some 4) rfl ?_
 all_goals(apply_rules(newGoals:= .nonDependentOnly)(maxDepth:=1)only[zE];constructor)):p:=h
theorem zq47(h:p:=by
 refine sk 24 (some 142) rfl ?_
 refine sk 25 (some 143) rfl ?_
 refine sk 26 (some 144) rfl ?_
 refine sk 27 (some 145) rfl ?_
 refine sk 28 (some 146) rfl ?_
 refine sk 29 (some 147) rfl ?_
 refine sk 30 (some 148) rfl ?_
 refine sk 31 (some 149) rfl ?_
 refine sk 32 (some 150) rfl ?_
 refine tk 33 (some 151) rfl ?_
 refine tk 34 (some 152) rfl ?_
 refine' zq191
 refine' zq100
 all_goals(apply_rules(newGoals:= .nonDependentOnly)(maxDepth:=1)only[zE];constructor)):p:=h
theorem zq79(h:p:=by
 (try dsimp only);(first|exact HS13.out|(with_reducible exact HK.out _ bE))
 all_goals(apply_rules(newGoals:= .nonDependentOnly)(maxDepth:=1)only[zE];constructor)):p:=h
theorem zq48(h:p:=by
 refine hKK.out _ _ ?_ (fun hHeld=>?_)
 ·refine' zq79
 refine' zq4
 all_goals(apply_rules(newGoals:= .nonDependentOnly)(maxDepth:=1)only[zE];constructor)):p:=h
theorem zq202(h:p:=by
 refine sk 32 (some 238) rfl ?_
 refine sk 33 (some 239) rfl ?_
 refine sk 34 (some 240) rfl ?_
 refine sk 35 (some 241) rfl ?_
 refine sk 36 (some 242) rfl ?_
 refine sk 37 (some 243) rfl ?_
 refine sk 38 (some 244) rfl ?_
 refine sk 39 (some 245) rfl ?_
 refine sk 40 (some 246) rfl ?_
 refine tk 41 (some 247) rfl ?_
 refine' zq100
 all_goals(apply_rules(newGoals:= .nonDependentOnly)(maxDepth:=1)only[zE];constructor)):p:=h
theorem zq49(h:p:=by
 refine sk 21 (some 227) rfl ?_
 refine sk 22 (some 228) rfl ?_
 refine sk 23 (some 229) rfl ?_
 refine sk 24 (some 230) rfl ?_
 refine sk 25 (some 231) rfl ?_
 refine sk 26 (some 232) rfl ?_
 refine sk 27 (some 233) rfl ?_
 refine sk 28 (some 234) rfl ?_
 refine sk 29 (some 235) rfl ?_
 refine tk 30 (some 236) rfl ?_
 refine tk 31 (some 237) rfl ?_
 refine' zq202
 all_goals(apply_rules(newGoals:= .nonDependentOnly)(maxDepth:=1)only[zE];constructor)):p:=h
theorem zq213(h:p:=by
 go_simp
 (go_at_call 31;first|(refine Calls.mono (HGB.out _ _ _ ?hbb hs8 HVB.out) ?_;(case hbb=>exact bE);rintro e w9 ⟨rfl,n9,rfl⟩;clear HGB)|(refine Calls.mono (HGC.out _ _ _ ?hbb hs8 HVC.out) ?_;(case hbb=>exact bE);rintro e w9 ⟨rfl,n9,rfl⟩))
 refine' zq11
 all_goals(apply_rules(newGoals:= .nonDependentOnly)(maxDepth:=1)only[zE];constructor)):p:=h
theorem zq252(h:p:=by
 go_simp
 (go_at_call 71;refine Calls.mono (HWI.out _ _ ?hbb) ?_;(case hbb=>exact bE);rintro e w8 ⟨v8,rfl,hs8,hb8⟩;(have hb9:Below w5.heap.size w5 w8:=Below.trans bE (hb8.mono lE));(have hs9:=hb9.size))
 refine' zq11
 all_goals(apply_rules(newGoals:= .nonDependentOnly)(maxDepth:=1)only[zE];constructor)):p:=h
theorem zq149(h:p:=by
 refine' zq14
 refine tk 4 (some 198) rfl ?_
 refine tk 5 (some 199) rfl ?_
 refine tk 6 (some 200) rfl ?_
 refine tk 7 (some 201) rfl ?_
 refine tk 8 (some 202) rfl ?_
 refine tk 9 (some 203) rfl ?_
 refine tk 10 (some 204) rfl ?_
 all_goals(apply_rules(newGoals:= .nonDependentOnly)(maxDepth:=1)only[zE];constructor)):p:=h
theorem zq335(h:p:=by
 refine' zq149
 refine tk 11 (some 205) rfl ?_
 refine tk 12 (some 206) rfl ?_
 refine tk 13 (some 207) rfl ?_
 refine tk 14 (some 208) rfl ?_
 refine tk 15 (some 209) rfl ?_
 all_goals(apply_rules(newGoals:= .nonDependentOnly)(maxDepth:=1)only[zE];constructor)):p:=h
theorem zq52(h:p:=by
 refine' zq335
 refine tk 16 (some 210) rfl ?_
 refine tk 17 (some 211) rfl ?_
 refine tk 18 (some 212) rfl ?_
 refine tk 19 (some 213) rfl ?_
 refine tk 20 (some 214) rfl ?_
 refine tk 21 (some 215) rfl ?_
 refine tk 22 (some 216) rfl ?_
 refine tk 23 (some 217) rfl ?_
 refine rd1 24 (some 218) rfl (fun KK hKK=>?_)
 refine' zq252
 refine rd1 25 (some 219) rfl (fun KK hKK=>?_)
 refine' zq213
 refine tk 26 (some 220) rfl ?_
 refine tk 27 (some 221) rfl ?_
 all_goals(apply_rules(newGoals:= .nonDependentOnly)(maxDepth:=1)only[zE];constructor)):p:=h
theorem zq53(h:p:=by
 clear c0 c1 c2 c3 c4 c5 q0 d1
 refine wp_region_held_drew (S:=fun W=>W.cell? ⟨w.heap.size,0,none⟩=some (.int .i64 op)∧W.cell? ⟨w.heap.size,1,none⟩=some (.int .i64 (m:Int))∧W.cell? ⟨w.heap.size,2,none⟩=some (.int .i64 a)∧W.cell? ⟨w.heap.size,3,none⟩=some (.int .i64 b)∧W.cell? ⟨w.heap.size,4,none⟩=some (.int .i64 c)∧W.cell? ⟨w.heap.size,5,none⟩=some (.int .i64 k)) (by kernel_rfl) ?_ (fun hHeld=>?_)
 ·refine' zq15
 all_goals(apply_rules(newGoals:= .nonDependentOnly)(maxDepth:=1)only[zE];constructor)):p:=h
theorem zq54(h:p:=by
 go_wp2_with (at_builtin;refine wpList_append_own _ rfl _ _ 26 rfl w1.heap.size 3 i0 (.int .i64 0) 1 8 Tryz.underlying26 hi0 hz0 hz1 hz2 rfl (by decide) _ _ _ rfl (hown.alloc _) ⟨wr.heap.size,0,none⟩ 1 1 [.int .i64 gw] rfl rfl (cells_new _ _ _) (HONE.out _) (by unfold maxLen;omega) (by omega) (by simp;omega) ?_)
 intro v' w3 hown1 hgrow _
 have HB:=Lib.hid (below_own (hb.alloc hsr _) (hown.alloc _) hgrow (by simp;omega))
 all_goals(apply_rules(newGoals:= .nonDependentOnly)(maxDepth:=1)only[zE];constructor)):p:=h
theorem zq171(h:p:=by
 refine tk 0 (some 54) rfl ?_
 refine tk 1 (some 55) rfl ?_
 refine tk 2 (some 56) rfl ?_
 refine rd1 3 (some 57) rfl (fun KK hKK=>?_)
 go_simp
 all_goals(apply_rules(newGoals:= .nonDependentOnly)(maxDepth:=1)only[zE];constructor)):p:=h
theorem zq197(h:p:=by
 refine tk 5 (some 59) rfl ?_
 refine tk 6 (some 60) rfl ?_
 refine tk 7 (some 61) rfl ?_
 refine tk 8 (some 62) rfl ?_
 refine tk 9 (some 63) rfl ?_
 refine tk 10 (some 64) rfl ?_
 refine tk 11 (some 65) rfl ?_
 refine tk 12 (some 66) rfl ?_
 refine tk 13 (some 67) rfl ?_
 refine tk 14 (some 68) rfl ?_
 refine tk 15 (some 69) rfl ?_
 all_goals(apply_rules(newGoals:= .nonDependentOnly)(maxDepth:=1)only[zE];constructor)):p:=h
theorem zq331(h:p:=by
 refine rd1 4 (some 58) rfl (fun KK hKK=>?_)
 go_simp
 go_at_call 58;refine Calls.mono (HI4.out w4.drew _ bE hV.out) ?_;rintro e w5 ⟨rfl,rfl⟩
 all_goals(apply_rules(newGoals:= .nonDependentOnly)(maxDepth:=1)only[zE];constructor)):p:=h
theorem zq55(h:p:=by
 clear h3
 refine wp_region_held_drew (S:=fun W=>W.cell? ⟨L,6,none⟩=some (.slice (some ⟨K,0,none⟩) f.wires.length f.wires.length)∧W.cell? ⟨g6,1,none⟩=some (.int .i64 (m:Int))∧W.cell? ⟨K,m,none⟩=some (.int .i64 V)) (by kernel_rfl) ?_ (fun hHeld=>?_)
 ·refine' zq172
 refine' zq171
 refine' zq148
 refine' zq331
 (try go_wp2_with fail)
 refine' zq148
 refine' zq197
 refine tk 16 (some 70) rfl ?_
 all_goals(apply_rules(newGoals:= .nonDependentOnly)(maxDepth:=1)only[zE];constructor)):p:=h
theorem zq57(h:p:=by
 go_wp2_with fail
 have hK7:(w7.setCell ⟨w.heap.size+2,0,none⟩ (.bool false)).heap[DD]? =some (.deferred (some [])):=(KeepsOthers.setCell w7 _ _).same DD _ hK8 rfl
 refine ⟨by simp,.inl ⟨_,_,rfl,run_takeDeferred hK7,?_⟩⟩
 have hc5:=Go.cell_kept ((hR7.set 0 (.bool false)).cell 0) (grownBy_putObj' _ DD (.deferred none)) (fun r e=>by cases e;exact ⟨_,hK7,rfl⟩)
 refine ⟨.bool false,?_,by rw[HV.out];rfl,(HB7.out.setCell (p:=⟨w.heap.size+2,0,none⟩) (by simp) _).trans (belowK_b (w:=w) (Nat.le_refl _) _ DD _ _ (by omega) hK7 rfl rfl)⟩
 simp[results,Tryz.f78,go_sem,hc5]
 all_goals(apply_rules(newGoals:= .nonDependentOnly)(maxDepth:=1)only[zE];constructor)):p:=h
theorem zq153(h:p:=by
 have HC0:=Lib.hid (fun W' (hW:Below (W.alloc (.cells (exRw e A cap) 75)).heap.size (W.alloc (.cells (exRw e A cap) 75)) W')=>hP 0 0 x rfl hi0 W' q s v c (h1.below hW) (hc1.fr (MFr.of_below hW)) P0)
 all_goals(apply_rules(newGoals:= .nonDependentOnly)(maxDepth:=1)only[zE];constructor)):p:=h
theorem zq58(h:p:=by
 refine' zq153
 have HC1:=Lib.hid (fun W' q' (m:MFr D q (W.alloc (.cells (exRw e A cap) 75)) q' W') (hk:MkAt K w0 D vi vo W' q' (normE x c s).2)=>hP 1 1 y rfl hi1 W' q' _ v c hk (hc1.fr m) P1)
 all_goals(apply_rules(newGoals:= .nonDependentOnly)(maxDepth:=1)only[zE];constructor)):p:=h
theorem zq59(h:p:=by
 go_wp2_with fail
 (with_reducible refine HC.out.mono ?_)
 all_goals(apply_rules(newGoals:= .nonDependentOnly)(maxDepth:=1)only[zE];constructor)):p:=h
theorem zq60(h:p:=by
 clear d0 d1 d2 d3 d4 d5 d6 d7
 refine wp_region_held_drew (S:=fun W=>W.cell? ⟨bx,0,none⟩=some (.int .i64 e.op)∧W.cell? ⟨bx,1,none⟩=some (.string e.name)∧W.cell? ⟨bx,2,none⟩=some (.int .i64 e.n)∧W.cell? ⟨bx,3,none⟩=some (.slice A e.args.length cap)∧W.cell? ⟨bx,4,none⟩=some (.int .i64 e.line)∧W.cell? ⟨bx,5,none⟩=some (.int .i64 e.col)) (by kernel_rfl) ?_ (fun hHeld=>?_)
 ·refine' zq183
 all_goals(apply_rules(newGoals:= .nonDependentOnly)(maxDepth:=1)only[zE];constructor)):p:=h
theorem zq61(h:p:=by
 refine tk 0 (some 165) rfl ?_
 refine tk 1 (some 166) rfl ?_
 refine tk 2 (some 167) rfl ?_
 refine tk 3 (some 168) rfl ?_
 refine tk 4 (some 169) rfl ?_
 refine tk 5 (some 170) rfl ?_
 refine tk 6 (some 171) rfl ?_
 refine tk 7 (some 172) rfl ?_
 refine tk 8 (some 173) rfl ?_
 refine tk 9 (some 174) rfl ?_
 all_goals(apply_rules(newGoals:= .nonDependentOnly)(maxDepth:=1)only[zE];constructor)):p:=h
theorem zq62(h:p:=by
 refine wp_region_held_drew (S:=fun W=>W.cell? ⟨w.heap.size,0,none⟩=some (.int .i64 e.op)∧W.cell? ⟨w.heap.size,1,none⟩=some (.string e.name)∧W.cell? ⟨w.heap.size,3,none⟩=some (.slice A e.args.length cap)) (by kernel_rfl) ?_ (fun hHeld=>?_)
 ·(try dsimp only);(first|(with_reducible exact HX3.out _ bE))
 refine tk 0 (some 6) rfl ?_
 refine tk 1 (some 7) rfl ?_
 refine tk 2 (some 8) rfl ?_
 refine tk 3 (some 9) rfl ?_
 refine tk 4 (some 10) rfl ?_
 refine tk 5 (some 11) rfl ?_
 refine tk 6 (some 12) rfl ?_
 refine tk 7 (some 13) rfl ?_
 refine tk 8 (some 14) rfl ?_
 refine tk 9 (some 15) rfl ?_
 refine tk 10 (some 16) rfl ?_
 refine tk 12 (some 18) rfl ?_
 refine tk 13 (some 19) rfl ?_
 refine tk 14 (some 20) rfl ?_
 refine rd1 11 (some 17) rfl (fun KK hKK=>?_)
 go_simp
 go_at_call 115;refine Calls.mono (HPT.out _) ?_;rintro e w8 ⟨rfl,rfl⟩
 (try go_wp2_with fail)
 refine hKK.out _ _ ?_ (fun hHeld=>?_)
 ·(try dsimp only);(first|(with_reducible exact HX3.out _ bE))
 refine' zq4
 refine tk 15 (some 21) rfl ?_
 refine tk 16 (some 22) rfl ?_
 refine tk 17 (some 5) rfl ?_
 refine' zq25
 go_meet
 exact ⟨rfl,bE⟩
 all_goals(apply_rules(newGoals:= .nonDependentOnly)(maxDepth:=1)only[zE];constructor)):p:=h
theorem zq64(h:p:=by
 (with_reducible refine Calls.mono (HV2.out n) ?_)
 rintro e wg ⟨rfl,m,rfl⟩
 (try rw[World.drewN_drewN])
 go_wp2_with fail
 (with_reducible refine Calls.mono (HV3.out _) ?_)
 rintro e wg ⟨rfl,q,rfl⟩
 go_wp2_with fail
 go_ret
 exact ⟨ret_bool HF.out.symm,HBW.out _ (below_drewN' b5 _)⟩
 all_goals(apply_rules(newGoals:= .nonDependentOnly)(maxDepth:=1)only[zE];constructor)):p:=h
theorem zq195(h:p:=by
 have HV3:Hid (cB (isW f a∧isW f b∧isW f c)=true):=cB_true hall
 have sg:Ar.signB op=false:=by simp[Ar.signB];omega
 have o1:(op==1)=false:=by rw[beq_eq_false_iff_ne];omega
 all_goals(apply_rules(newGoals:= .nonDependentOnly)(maxDepth:=1)only[zE];constructor)):p:=h
theorem zq290(h:p:=by
 have o2:(op==2)=false:=by rw[beq_eq_false_iff_ne];omega
 have o3:(op==3)=false:=by rw[beq_eq_false_iff_ne];omega
 all_goals(apply_rules(newGoals:= .nonDependentOnly)(maxDepth:=1)only[zE];constructor)):p:=h
theorem zq65(h:p:=by
 refine' zq195
 refine' zq290
 all_goals(apply_rules(newGoals:= .nonDependentOnly)(maxDepth:=1)only[zE];constructor)):p:=h
theorem zq66(h:p:=by
 clear h3
 refine wp_region_held_drew (S:=fun W=>W.cell? ⟨D,4,none⟩=some (.slice (some ⟨K,0,none⟩) f.wires.length f.wires.length)∧W.cell? ⟨g6,0,none⟩=some (.int .i64 (m:Int))∧W.cell? ⟨K,m,none⟩=some (.int .i64 V)) (by kernel_rfl) ?_ (fun hHeld=>?_)
 ·refine' zq172
 refine' zq171
 go_at_call 96;refine Calls.mono (HI4.out _ _ bE hV.out) ?_;rintro e w5 ⟨rfl,rfl⟩
 (try go_wp2_with fail)
 refine' zq148
 refine tk 4 (some 58) rfl ?_
 refine' zq197
 all_goals(apply_rules(newGoals:= .nonDependentOnly)(maxDepth:=1)only[zE];constructor)):p:=h
theorem zq67(h:p:=by
 refine' zq25
 go_ret
 exact ⟨ret_bool HF.out.symm,HBW.out _ (b5.trans ((bE:Below w5.heap.size w5 _).mono hs5))⟩
 all_goals(apply_rules(newGoals:= .nonDependentOnly)(maxDepth:=1)only[zE];constructor)):p:=h
theorem zq71(h:p:=by
 subst hz0;subst hz1
 have bX:=Row.new w #[.int .i64 op,.int .i64 dst,.int .i64 a,.int .i64 0,.int .i64 0,.int .i64 k] 58
 have b1:Below w.heap.size w (w.alloc (.cells #[.int .i64 op,.int .i64 dst,.int .i64 a,.int .i64 0,.int .i64 0,.int .i64 k] 58)):=bE
 refine' zq17
 generalize hW1:w.alloc (.cells #[.int .i64 op,.int .i64 dst,.int .i64 a,.int .i64 0,.int .i64 0,.int .i64 k] 58)=w1 at*
 refine' zq2
 refine' zq194
 have HS:Hid (∀W,Below w5.heap.size w5 W→W.cell? ⟨w.heap.size,0,none⟩=some (.int .i64 op)∧W.cell? ⟨w.heap.size,1,none⟩=some (.int .i64 (m:Int))∧W.cell? ⟨w.heap.size,2,none⟩=some (.int .i64 a)∧W.cell? ⟨w.heap.size,3,none⟩=some (.int .i64 0)∧W.cell? ⟨w.heap.size,4,none⟩=some (.int .i64 0)∧W.cell? ⟨w.heap.size,5,none⟩=some (.int .i64 k)):=fun W hW=>(bX5.below hW hg5).six'
 refine' zq166
 all_goals(apply_rules(newGoals:= .nonDependentOnly)(maxDepth:=1)only[zE];constructor)):p:=h
theorem zq74(h:p:=by
 subst hz0
 have bX:=Row.new w #[.int .i64 op,.int .i64 dst,.int .i64 a,.int .i64 0,.int .i64 c,.int .i64 k] 58
 have b1:Below w.heap.size w (w.alloc (.cells #[.int .i64 op,.int .i64 dst,.int .i64 a,.int .i64 0,.int .i64 c,.int .i64 k] 58)):=bE
 refine' zq17
 generalize hW1:w.alloc (.cells #[.int .i64 op,.int .i64 dst,.int .i64 a,.int .i64 0,.int .i64 c,.int .i64 k] 58)=w1 at*
 refine' zq2
 refine' zq194
 have HS:Hid (∀W,Below w5.heap.size w5 W→W.cell? ⟨w.heap.size,0,none⟩=some (.int .i64 op)∧W.cell? ⟨w.heap.size,1,none⟩=some (.int .i64 (m:Int))∧W.cell? ⟨w.heap.size,2,none⟩=some (.int .i64 a)∧W.cell? ⟨w.heap.size,3,none⟩=some (.int .i64 0)∧W.cell? ⟨w.heap.size,4,none⟩=some (.int .i64 c)∧W.cell? ⟨w.heap.size,5,none⟩=some (.int .i64 k)):=fun W hW=>(bX5.below hW hg5).six'
 refine' zq166
 all_goals(apply_rules(newGoals:= .nonDependentOnly)(maxDepth:=1)only[zE];constructor)):p:=h
theorem zq75(h:p:=by
 (with_reducible refine (HSG2.out _).mono ?_)
 rintro e w6 ⟨rfl,hb6'⟩
 have b6':Below w1.heap.size w1 w6:=(below_drewN' b5 n).trans (hb6'.mono hs5)
 have q6:Below w5.heap.size w5 w6:=(below_drewN' (Below.refl _ _) n).trans hb6'
 refine' zq216
 all_goals(apply_rules(newGoals:= .nonDependentOnly)(maxDepth:=1)only[zE];constructor)):p:=h
theorem zq125(h:p:=by
 (try dsimp only);(first|(with_reducible exact HS2.out _ bE)|go_keep)
 all_goals(apply_rules(newGoals:= .nonDependentOnly)(maxDepth:=1)only[zE];constructor)):p:=h
theorem zq104(h:p:=by
 (try go_wp2_with fail)
 refine hKK.out _ _ ?_ (fun hHeld=>?_)
 ·refine' zq125
 refine' zq4
 all_goals(apply_rules(newGoals:= .nonDependentOnly)(maxDepth:=1)only[zE];constructor)):p:=h
theorem zq163(h:p:=by
 refine tk 0 (some 12) rfl ?_
 refine tk 1 (some 13) rfl ?_
 refine tk 2 (some 14) rfl ?_
 refine tk 3 (some 15) rfl ?_
 refine tk 4 (some 16) rfl ?_
 refine rd1 5 (some 17) rfl (fun KK hKK=>?_)
 go_simp
 go_at_call 30;refine Calls.mono (HI.out _ _ ?hbb hV.out) ?_;(case hbb=>exact bE);rintro e w5 ⟨rfl,hb5⟩;(have hb6:Below wr.heap.size wr w5:=Below.trans bE (hb5.mono lE))
 all_goals(apply_rules(newGoals:= .nonDependentOnly)(maxDepth:=1)only[zE];constructor)):p:=h
theorem zq77(h:p:=by
 refine' zq163
 refine' zq104
 refine tk 6 (some 18) rfl ?_
 refine tk 7 (some 19) rfl ?_
 refine tk 8 (some 20) rfl ?_
 refine tk 9 (some 21) rfl ?_
 refine tk 10 (some 22) rfl ?_
 refine tk 11 (some 23) rfl ?_
 refine tk 12 (some 24) rfl ?_
 refine tk 13 (some 25) rfl ?_
 refine tk 14 (some 26) rfl ?_
 refine tk 15 (some 27) rfl ?_
 refine tk 16 (some 28) rfl ?_
 refine tk 17 (some 29) rfl ?_
 refine tk 18 (some 30) rfl ?_
 refine tk 19 (some 31) rfl ?_
 refine' zq25
 all_goals(apply_rules(newGoals:= .nonDependentOnly)(maxDepth:=1)only[zE];constructor)):p:=h
theorem zq78(h:p:=by
 have HH:=Lib.hid h
 have hBw:=hB
 obtain ⟨wop,wd,wa,wb,wc,wk⟩:=wx
 dsimp only at wop wd wa wb wc wk
 clear h hB
 all_goals(apply_rules(newGoals:= .nonDependentOnly)(maxDepth:=1)only[zE];constructor)):p:=h
theorem zq80(h:p:=by
 obtain ⟨x,y,ha⟩:=args_two hp1 (by omega)
 refine' zq236
 have hi1:e.args[1]? =some y:=by rw[ha];rfl
 have hm1:y∈e.args:=List.mem_of_getElem? hi1
 have hlen:e.args.length=2:=by rw[ha];rfl
 clear ha
 all_goals(apply_rules(newGoals:= .nonDependentOnly)(maxDepth:=1)only[zE];constructor)):p:=h
theorem zq81(h:p:=by
 by_cases hz:(ma:Int)=0
 rotate_left 1
 ·have HF:Hid (cB (actOk f ⟨op,(md:Int),(ma:Int),(mb:Int),(mc:Int),k⟩)=false):=cB_false (fun g=>hz (g.2.2.2.2.1 (by dsimp only;rw[HU.out];decide)))
  have ez:((ma:Int) !=0)=true:=by simpa using hz
  clear hz
  refine' zq264
 have HZa:=Lib.hid hz
 have eza:((ma:Int) !=0)=false:=by simpa using hz
 clear hz
 refine' zq10
 refine' zq1
 have hop:=HOP.out
 subst hop
 all_goals(apply_rules(newGoals:= .nonDependentOnly)(maxDepth:=1)only[zE];constructor)):p:=h
theorem zq82(h:p:=by
 clear hC
 refine' zq29
 refine tk 11 (some 147) rfl ?_
 refine tk 12 (some 148) rfl ?_
 refine tk 13 (some 149) rfl ?_
 refine tk 14 (some 150) rfl ?_
 refine tk 15 (some 151) rfl ?_
 refine tk 16 (some 152) rfl ?_
 refine tk 17 (some 153) rfl ?_
 refine rd1 18 (some 154) rfl (fun KK hKK=>?_)
 go_simp
 (go_at_call 34;refine Calls.mono (HKC.out _ ?hbb) ?_;(case hbb=>exact bE);rintro e w8 ⟨rfl,hb8⟩;(have hb9:Below w5.heap.size w5 w8:=Below.trans bE (hb8.mono lE));(have hs9:=hb9.size))
 refine' zq11
 refine tk 19 (some 155) rfl ?_
 refine tk 20 (some 156) rfl ?_
 refine tk 21 (some 157) rfl ?_
 refine rd1 22 (some 158) rfl (fun KK hKK=>?_)
 go_simp
 (go_at_call 31;refine Calls.mono (HGN.out _ _ ?hbb HVN.out) ?_;(case hbb=>exact bE);rintro e w9 ⟨rfl,n9,rfl⟩)
 refine' zq11
 refine tk 23 (some 159) rfl ?_
 refine tk 24 (some 4) rfl ?_
 all_goals(apply_rules(newGoals:= .nonDependentOnly)(maxDepth:=1)only[zE];constructor)):p:=h
theorem zq129(h:p:=by
 have o24:(op==24)=false:=by rw[beq_eq_false_iff_ne];omega
 have o26:(op==26)=false:=by rw[beq_eq_false_iff_ne];omega
 all_goals(apply_rules(newGoals:= .nonDependentOnly)(maxDepth:=1)only[zE];constructor)):p:=h
theorem zq198(h:p:=by
 generalize cB (actOk f ⟨op,dst,a,b,c,k⟩)=R at*
 all_goals(apply_rules(newGoals:= .nonDependentOnly)(maxDepth:=1)only[zE];constructor)):p:=h
theorem zq207(h:p:=by
 have o21:(op==21)=false:=by rw[beq_eq_false_iff_ne];omega
 all_goals(apply_rules(newGoals:= .nonDependentOnly)(maxDepth:=1)only[zE];constructor)):p:=h
theorem zq231(h:p:=by
 have o27:(op==27)=false:=by rw[beq_eq_false_iff_ne];omega
 all_goals(apply_rules(newGoals:= .nonDependentOnly)(maxDepth:=1)only[zE];constructor)):p:=h
theorem zq85(h:p:=by
 have o3:(op==3)=false:=by rw[beq_eq_false_iff_ne];omega
 refine' zq231
 refine' zq129
 refine' zq207
 clear hop
 by_cases h0:a=0∧b=0∧c=0
 rotate_left 1
 ·have HF:=Lib.hid (cB_false (show ¬actOk f ⟨op,dst,a,b,c,k⟩ from fun g=>h0 (HIFF.out.1 g).1))
  refine' zq198
  refine' zq6
  refine' zq2
  go_wp2_with fail
  all_goals
   go_ret
   exact ⟨ret_bool HF.out.symm,by first|exact hb15|exact below_drewN' hb15 _⟩
 obtain ⟨rfl,rfl,rfl⟩:=h0
 have HT:=Lib.hid (rfl:tyOf f dst=tyOf f dst)
 generalize hTd:tyOf f dst=Td at HIFF
 have HTd:=Lib.hid hTd
 clear hTd HT
 all_goals(apply_rules(newGoals:= .nonDependentOnly)(maxDepth:=1)only[zE];constructor)):p:=h
theorem zq86(h:p:=by
 refine' zq33
 go_wp2_with (at_builtin;refine wpList_append_own _ rfl _ _ 26 rfl w1.heap.size 3 i0 (.int .i64 0) 1 8 Tryz.underlying26 hi0 hz0 hz1 hz2 rfl (by decide) _ _ _ rfl (HO1.out.alloc _) ⟨w1a.heap.size,0,none⟩ 1 1 [.int .i64 b] rfl rfl (cells_new _ _ _) (HONE.out _) (by unfold maxLen;omega) (by omega) (by first|(simp;done)|(simp;omega)) ?_)
 intro v2 w2a hown hgrow _
 have hb2a:=below_own (hb1a.alloc (by first|exact Nat.le_refl _|assumption) _) (HO1.out.alloc _) hgrow (by first|(simp;done)|(simp;omega))
 have HO2:Hid (w2a.ownsRow w1.heap.size 3 1 v2 2 (ints [a,b])):=by first|exact hown|simpa[ints] using hown
 have hs2a:=hb2a.size
 clear hown hgrow
 clear y0 y1 c0 c1 c2 c3 c4 c5
 obtain ⟨y0,y1,c0,c1,c2,c3,c4,c5⟩:=HD.out w2a hb2a
 all_goals(apply_rules(newGoals:= .nonDependentOnly)(maxDepth:=1)only[zE];constructor)):p:=h
theorem zq87(h:p:=by
 obtain ⟨A1,c1,rfl,l1,m1,s1⟩:=h1
 obtain ⟨A2,c2,rfl,l2,m2,s2⟩:=h2
 have m1':c1≤9223372036854775807:=by unfold maxLen at m1;omega
 have m2':c2≤9223372036854775807:=by unfold maxLen at m2;omega
 all_goals(apply_rules(newGoals:= .nonDependentOnly)(maxDepth:=1)only[zE];constructor)):p:=h
theorem zq88(h:p:=by
 obtain ⟨b,off,x,Ag,cg,hAw,hbB,hx,wx,d0,d1,lg,mg,sg⟩:=(HW.out wr hb).wr hlt
 subst hAw
 have HX:=Lib.hid hx
 clear hx
 have mg':cg≤9223372036854775807:=by unfold maxLen at mg;omega
 have HG:Hid (∀W,Below wr.heap.size wr W→Sl W B 2 isGd Ag x.clock):=fun W hW=>sg.below (hW.mono (by omega))
 have r1:=Row.new wr #[.int .i64 x.ty,.slice Ag x.clock.length cg] 52
 have ba:Below wr.heap.size wr (wr.alloc (.cells #[.int .i64 x.ty,.slice Ag x.clock.length cg] 52)):=bE
 clear sg
 go_upto_region 4 with (fail)
 clear d0 d1
 generalize hW1:wr.alloc (.cells #[.int .i64 x.ty,.slice Ag x.clock.length cg] 52)=w1 at*
 clear hW1
 have hs1:=ba.size
 have hB1:=hb.trans (ba.mono hsb)
 have hsB1:=hB1.size
 obtain ⟨c0,c1⟩:=r1.two'
 all_goals(apply_rules(newGoals:= .nonDependentOnly)(maxDepth:=1)only[zE];constructor)):p:=h
theorem zq89(h:p:=by
 have ht':(y.ty !=2)=false:=by simp[ht]
 have HTY:=Lib.hid ht
 have HE:Hid (∀W V,Below w3.heap.size w3 W→cB (y.clock=x.clock.take m)=V→Calls Tryz.prog 59 #[.slice Ay y.clock.length cy,.slice (some ⟨bg,og,none⟩) m cg] W fun e w'=>e= .returned (.bool V)∧∃n,w'=W.drewN n):=fun W V hW hV=>by
  have:=eqGuards_any y.clock (x.clock.take m) (.slice Ay y.clock.length cy) (.slice (some ⟨bg,og,none⟩) m cg) B W ⟨_,_,rfl,ly,my,sy.below (hW.mono (by omega))⟩ (slv_take (HG.out W (ba.trans ((hb2.trans ((bb.trans (hW.mono hs3)).mono hs2)).mono hs1))) lg mg (by omega))
  rw[hV] at this
  exact this
 have hW:=Lib.hid hw
 have hmc:m≤cg:=by omega
 clear ht hw y0 y1
 all_goals(apply_rules(newGoals:= .nonDependentOnly)(maxDepth:=1)only[zE];constructor)):p:=h
theorem zq90(h:p:=by
 have HF4:Hid (∀W,Below w1.heap.size w1 W→W.cell? ⟨w.heap.size,0,none⟩=some (.slice Aw f.wires.length cw)∧W.cell? ⟨w.heap.size,1,none⟩=some (.slice Ad f.defs.length cd)∧W.cell? ⟨w.heap.size,2,none⟩=some (.slice Ai f.ins.length ci)∧W.cell? ⟨w.heap.size,3,none⟩=some (.slice Ao f.outs.length co)):=fun W hW=>(rF.below hW hFl).four'
 clear rF
 all_goals(apply_rules(newGoals:= .nonDependentOnly)(maxDepth:=1)only[zE];constructor)):p:=h
theorem zq91(h:p:=by
 go_enter Tryz.func68,Tryz.ntmps68
 go_upto_region 1 with (fail)
 all_goals(apply_rules(newGoals:= .nonDependentOnly)(maxDepth:=1)only[zE];constructor)):p:=h
theorem zq201(h:p:=by
 have HCL:=Lib.hid hcl
 clear hcl
 refine' zq3
 have hwa:=wx.a
 dsimp only at hwa
 have HWA:=Lib.hid hwa
 clear hwa wx
 refine' zq0
 refine' zq26
 have hop:=HOP.out
 subst hop
 have HIFF:=Lib.hid (act_iff26 (f:=f) (op:=26) (dst:=(md:Int)) (a:=(ma:Int)) (b:=(mb:Int)) (c:=(mc:Int)) (k:=k) rfl HALL.out)
 refine' zq12
 have HGA:=Lib.hid HGda
 clear HGda SVd SVa SVb SVc
 all_goals(apply_rules(newGoals:= .nonDependentOnly)(maxDepth:=1)only[zE];constructor)):p:=h
theorem zq92(h:p:=by
 refine' zq30
 have HE0:=Lib.hid he0
 clear he0
 have HG4:=Lib.hid hg4
 clear hg4
 refine' zq201
 have hC:=HG4.out.1
 refine' zq5
 have ehA:(tyOf f (ma:Int)==2)=true:=by simpa using HG4.out.2.1
 have ehB:(tyOf f (md:Int)==tyOf f (mb:Int))=true:=by simpa using HG4.out.2.2.1
 have ehD:(tyOf f (md:Int)==tyOf f (mc:Int))=true:=by simpa using HG4.out.2.2.2
 have hE:=HE0.out
 all_goals(apply_rules(newGoals:= .nonDependentOnly)(maxDepth:=1)only[zE];constructor)):p:=h
theorem zq93(h:p:=by
 obtain ⟨m,rfl⟩:=Int.eq_ofNat_of_zero_le hn.1
 have hm:m<f.wires.length:=by have h9:(m:Int)<f.wires.length:=hn.2;omega
 have hx:f.wires[m]? =some f.wires[m]:=List.getElem?_eq_getElem hm
 all_goals(apply_rules(newGoals:= .nonDependentOnly)(maxDepth:=1)only[zE];constructor)):p:=h
theorem zq193(h:p:=by
 obtain rfl:q=x.clock.length:=by omega
 have HP':=Lib.hid (upto_succ HP.out (fun y hy=>by rw[HX.out] at hy;injection hy with hy;rw[←hy];exact ⟨HT.out,fun i g hg=>HQ.out i (List.getElem?_eq_some_iff.1 hg).1 g hg⟩))
 go_wp2_with fail
 go_roundw
 case rel=>exact ⟨k+1,by omega,by go_num,HP'.out,hbw5⟩
 case measure=>simp[intOf];omega
 all_goals(apply_rules(newGoals:= .nonDependentOnly)(maxDepth:=1)only[zE];constructor)):p:=h
theorem zq94(h:p:=by
 have hsq:=hbq.size
 have hbw5:=hb4.trans (hbq.mono hs4)
 by_cases hlt2:q<x.clock.length
 rotate_left 1
 ·refine' zq193
 obtain ⟨bg,og,⟨gw,gn⟩,hAg,hbg,hgg,wg,e0,e0'⟩:=(HSG.out _ hbq).gd (k:=q) hlt2
 subst hAg
 dsimp only at wg e0 e0'
 have HGG:=Lib.hid hgg
 clear hgg
 go_upto_region 13 with (fail)
 obtain ⟨w5,hw5⟩:∃w5:World,w5=wr:=⟨_,rfl⟩
 subst hw5
 all_goals(apply_rules(newGoals:= .nonDependentOnly)(maxDepth:=1)only[zE];constructor)):p:=h
theorem zq165(h:p:=by
 (try dsimp only);(first|exact HCX.out _ hu10|exact HCX.out _ hu9'|exact HCX.out _ hu8'|exact HCX.out _ (Upd.of_below ((Below.refl _ _).drew)))
 all_goals(apply_rules(newGoals:= .nonDependentOnly)(maxDepth:=1)only[zE];constructor)):p:=h
theorem zq96(h:p:=by
 go_simp
 (go_at_call 90;first|((with_reducible refine Calls.mono (HWb.out _ _ _ hr8) ?_);rintro e w9 ⟨rfl,hw9,⟨ds9,vs9,hr9⟩,hu9⟩;(have hu9':Upd (fun k=>k=K∨k=V) w3 w9:=hu8'.trans hu9))|((with_reducible refine Calls.mono (HW.out _ _ _ (HR3.out.below ((Below.refl _ _).drew))) ?_);rintro e w8 ⟨rfl,hw8,⟨ds8,vs8,hr8⟩,hu8⟩;(have hu8':Upd (fun k=>k=K∨k=V) w3 w8:=(Upd.of_below ((Below.refl _ _).drew)).trans hu8)))
 (try go_wp2_with fail)
 refine hKK.out _ _ ?_ (fun hHeld=>?_)
 ·refine' zq165
 refine' zq4
 all_goals(apply_rules(newGoals:= .nonDependentOnly)(maxDepth:=1)only[zE];constructor)):p:=h
theorem zq97(h:p:=by
 go_simp
 (go_at_call 17;first|((with_reducible refine Calls.mono (HT2.out _ ?hbb) ?_);(case hbb=>exact bE);rintro e wb ⟨vb,rfl,hvb,hbb⟩;(have hbB:Below w5.heap.size w5 wb:=Below.trans bE (hbb.mono lE));(have hsB:=hbB.size);(have hva':=(hva.below hbb).more hbb.size))|((with_reducible refine Calls.mono (HT4.out _ ?hbb) ?_);(case hbb=>exact bE);rintro e wd ⟨vd,rfl,hvd,hbd⟩;(have hbD:Below w5.heap.size w5 wd:=Below.trans bE (hbd.mono lE));(have hsD:=hbD.size);(have hvc':=(hvc.below hbd).more hbd.size)))
 (try go_wp2_with fail)
 refine hKK.out _ _ ?_ (fun hHeld=>?_)
 ·(try dsimp only);(first|(with_reducible exact HX5.out _ bE))
 refine' zq4
 all_goals(apply_rules(newGoals:= .nonDependentOnly)(maxDepth:=1)only[zE];constructor)):p:=h
theorem zq98(h:p:=by
 (try dsimp only);(first|(with_reducible exact HK6.out _ bE)|(with_reducible exact HK5.out _ bE)|(with_reducible exact HK.out _ _ (MFr.of_below bE)))
 all_goals(apply_rules(newGoals:= .nonDependentOnly)(maxDepth:=1)only[zE];constructor)):p:=h
theorem zq221(h:p:=by
 refine sk 26 (some 71) rfl ?_
 refine sk 27 (some 72) rfl ?_
 refine sk 28 (some 73) rfl ?_
 refine sk 29 (some 74) rfl ?_
 refine sk 30 (some 75) rfl ?_
 refine sk 31 (some 76) rfl ?_
 refine' zq31
 refine' zq25
 go_ret
 exact CellsIs.no rfl HF.out (HNn.out _ bE).1 (HNn.out _ bE).2
 all_goals(apply_rules(newGoals:= .nonDependentOnly)(maxDepth:=1)only[zE];constructor)):p:=h
theorem zq101(h:p:=by
 refine tk 13 (some 58) rfl ?_
 refine tk 14 (some 59) rfl ?_
 refine sk 15 (some 60) rfl ?_
 refine sk 16 (some 61) rfl ?_
 refine sk 17 (some 62) rfl ?_
 refine sk 18 (some 63) rfl ?_
 refine sk 19 (some 64) rfl ?_
 refine sk 20 (some 65) rfl ?_
 refine sk 21 (some 66) rfl ?_
 refine sk 22 (some 67) rfl ?_
 refine sk 23 (some 68) rfl ?_
 refine tk 24 (some 69) rfl ?_
 refine tk 25 (some 70) rfl ?_
 refine' zq221
 all_goals(apply_rules(newGoals:= .nonDependentOnly)(maxDepth:=1)only[zE];constructor)):p:=h
theorem zq102(h:p:=by
 clear hk hh
 refine' zq28
 refine tk 5 (some 31) rfl ?_
 refine tk 6 (some 32) rfl ?_
 refine tk 7 (some 33) rfl ?_
 refine tk 9 (some 35) rfl ?_
 refine tk 10 (some 36) rfl ?_
 refine rd1 8 (some 34) rfl (fun KK hKK=>?_)
 go_simp
 (go_at_call 100;refine Calls.mono (HKI.out _ bE) ?_;rintro r w10 ⟨rfl,hb10⟩;(have hb11:Below w4.heap.size w4 w10:=Below.trans bE (hb10.mono lE));(have hs11:=hb11.size))
 refine' zq223
 refine tk 11 (some 37) rfl ?_
 refine tk 12 (some 38) rfl ?_
 refine tk 13 (some 39) rfl ?_
 all_goals(apply_rules(newGoals:= .nonDependentOnly)(maxDepth:=1)only[zE];constructor)):p:=h
theorem zq105(h:p:=by
 go_simp
 (go_at_call 41;refine Calls.mono (HA5.out _ bE) ?_;rintro r w6 ⟨rfl,h6⟩;(obtain ⟨q6,h6,m6⟩:=h6);(have HK6:=Lib.hid (fun W' (hW:Below w6.heap.size w6 W')=>HK.out _ _ (((MFr.of_below (bE:Below w1.heap.size w1 _)).trans m6).trans (MFr.of_below hW)))))
 (try go_wp2_with fail)
 refine hKK.out _ _ ?_ (fun hHeld=>?_)
 ·refine' zq98
 refine' zq4
 refine tk 10 (some 6) rfl ?_
 refine' zq25
 go_ret
 rw[HE.out]
 exact ⟨rfl,q6,h6,(HM1.out.trans (MFr.of_below bE)).trans m6⟩
 all_goals(apply_rules(newGoals:= .nonDependentOnly)(maxDepth:=1)only[zE];constructor)):p:=h
theorem zq106(h:p:=by
 refine wp_region_held_drew (S:=fun W=>W.cell? ⟨D,0,none⟩=some (.slice (some ⟨b,off,none⟩) f.wires.length cw)∧W.cell? ⟨w2.heap.size,0,none⟩=some (.int .i64 (n:Int))∧W.cell? ⟨wo.heap.size,1,none⟩=some (.slice (some ⟨bg,og,none⟩) x.clock.length cg)∧W.cell? ⟨b,off+n*2,none⟩=some (.int .i64 y.ty)∧W.cell? ⟨b,off+n*2+1,none⟩=some (.slice Ay y.clock.length cy)) (by kernel_rfl) ?_ (fun hHeld=>?_)
 ·refine' zq135
 refine tk 0 (some 33) rfl ?_
 refine tk 1 (some 34) rfl ?_
 refine tk 2 (some 35) rfl ?_
 refine rd1 3 (some 36) rfl (fun KK hKK=>?_)
 go_simp
 all_goals(apply_rules(newGoals:= .nonDependentOnly)(maxDepth:=1)only[zE];constructor)):p:=h
theorem zq107(h:p:=by
 go_simp
 (go_at_call 64;(first|(with_reducible refine (kind_b HN5.out hB5 hd HTd.out bE).mono ?_)|(with_reducible refine (kind_b HN5.out hB5 ha HTa.out bE).mono ?_));rintro e w8 ⟨rfl,rfl⟩)
 all_goals(apply_rules(newGoals:= .nonDependentOnly)(maxDepth:=1)only[zE];constructor)):p:=h
theorem zq108(h:p:=by
 refine tk 17 (some 50) rfl ?_
 refine tk 18 (some 51) rfl ?_
 refine sk 19 (some 52) rfl ?_
 refine sk 20 (some 53) rfl ?_
 refine sk 21 (some 54) rfl ?_
 refine sk 22 (some 55) rfl ?_
 refine sk 23 (some 56) rfl ?_
 refine sk 24 (some 57) rfl ?_
 refine sk 25 (some 58) rfl ?_
 refine sk 26 (some 59) rfl ?_
 refine sk 27 (some 60) rfl ?_
 refine sk 28 (some 61) rfl ?_
 refine sk 29 (some 62) rfl ?_
 refine sk 30 (some 63) rfl ?_
 refine sk 31 (some 64) rfl ?_
 refine sk 32 (some 65) rfl ?_
 refine sk 33 (some 66) rfl ?_
 refine sk 34 (some 67) rfl ?_
 refine tk 35 (some 68) rfl ?_
 refine' zq25
 go_ret
 exact ⟨ret_bool HF.out.symm,bE⟩
 all_goals(apply_rules(newGoals:= .nonDependentOnly)(maxDepth:=1)only[zE];constructor)):p:=h
theorem zq109(h:p:=by
 refine tk 18 (some 47) rfl ?_
 refine tk 19 (some 48) rfl ?_
 refine sk 20 (some 49) rfl ?_
 refine sk 21 (some 50) rfl ?_
 refine sk 22 (some 51) rfl ?_
 refine sk 23 (some 52) rfl ?_
 refine sk 24 (some 53) rfl ?_
 refine sk 25 (some 54) rfl ?_
 refine sk 26 (some 55) rfl ?_
 refine sk 27 (some 56) rfl ?_
 refine sk 28 (some 57) rfl ?_
 refine sk 29 (some 58) rfl ?_
 refine sk 30 (some 59) rfl ?_
 refine sk 31 (some 60) rfl ?_
 refine sk 32 (some 61) rfl ?_
 refine sk 33 (some 62) rfl ?_
 refine sk 34 (some 63) rfl ?_
 refine sk 35 (some 64) rfl ?_
 refine tk 36 (some 65) rfl ?_
 refine' zq25
 go_ret
 exact ⟨ret_bool HF.out.symm,bE⟩
 all_goals(apply_rules(newGoals:= .nonDependentOnly)(maxDepth:=1)only[zE];constructor)):p:=h
theorem zq110(h:p:=by
 have b1:Below w.heap.size w (w.alloc (.cells #[.slice Aw f.wires.length cw,.slice Ad f.defs.length cd,.slice Ai f.ins.length ci,.slice Ao f.outs.length co] 33)):=bE
 have rF:=Row.new w #[.slice Aw f.wires.length cw,.slice Ad f.defs.length cd,.slice Ai f.ins.length ci,.slice Ao f.outs.length co] 33
 all_goals(apply_rules(newGoals:= .nonDependentOnly)(maxDepth:=1)only[zE];constructor)):p:=h
theorem zq111(h:p:=by
 generalize (W.alloc (.cells (exRw e A cap) 75))=w1 at*
 refine' zq9
 obtain ⟨c0,c1,c2,c3,c4,c5⟩:=rX.six'
 all_goals(apply_rules(newGoals:= .nonDependentOnly)(maxDepth:=1)only[zE];constructor)):p:=h
theorem zq112(h:p:=by
 (try go_wp2_with fail)
 refine hKK.out _ _ ?_ (fun hHeld=>?_)
 ·(try dsimp only);(first|(with_reducible exact HX5.out _ bE))
 refine' zq4
 all_goals(apply_rules(newGoals:= .nonDependentOnly)(maxDepth:=1)only[zE];constructor)):p:=h
theorem zq302(h:p:=by
 go_quiet ((go_at_call 64;first|(with_reducible exact Calls.quiet_of_same (HKa.out _))|(with_reducible exact Calls.quiet_of_same (HKb.out _))))
 go_wp2_with fail
 go_ret
 all_goals(apply_rules(newGoals:= .nonDependentOnly)(maxDepth:=1)only[zE];constructor)):p:=h
theorem zq113(h:p:=by
 refine' zq302
 exact ⟨ret_bool (by rw[HQ.out,HF.out,HE2.out,HE3.out];rfl),by first|exact hb15|exact below_drewN' hb15 _⟩
 all_goals(apply_rules(newGoals:= .nonDependentOnly)(maxDepth:=1)only[zE];constructor)):p:=h
theorem zq115(h:p:=by
 obtain ⟨bg,og,⟨gw,gno⟩,hAg,hbg,hg,wg,e0,e1⟩:=(HG.out w2 (ba.trans (hb2.mono hs1))).gd hml
 subst hAg
 have HGG:=Lib.hid hg
 clear hg
 dsimp only at wg e0 e1
 have rg:=Row.new w2 #[.int .i64 gw,.bool gno] 61
 have bb:Below w2.heap.size w2 (w2.alloc (.cells #[.int .i64 gw,.bool gno] 61)):=bE
 go_upto_region 9 with (fail)
 clear e0 e1
 generalize hW3:w2.alloc (.cells #[.int .i64 gw,.bool gno] 61)=w3 at*
 clear hW3
 have hs3:=bb.size
 have hB3:=hB2.trans (bb.mono (by omega))
 have hsB3:=hB3.size
 have r3:=r1.below (hb2.trans (bb.mono hs2)) r1.lt
 all_goals(apply_rules(newGoals:= .nonDependentOnly)(maxDepth:=1)only[zE];constructor)):p:=h
theorem zq116(h:p:=by
 go_wp2_with fail
 (with_reducible refine (HNM.out _).mono ?_)
 rintro r w5 ⟨rfl,rfl⟩
 all_goals(apply_rules(newGoals:= .nonDependentOnly)(maxDepth:=1)only[zE];constructor)):p:=h
theorem zq208(h:p:=by
 have Sa:=normE_sp (f:=f) x (hp2 x hm0) c s hp.gs hp.wl
 have sa1:=Sa.few
 have sa2:=Sa.up
 all_goals(apply_rules(newGoals:= .nonDependentOnly)(maxDepth:=1)only[zE];constructor)):p:=h
theorem zq256(h:p:=by
 have P1:Pre f K y c (normE x c s).2:=by have:=pre_part hp (by omega) hi1 Sa.gs Sa.up (by omega);rwa [pcl_same (by omega)] at this
 all_goals(apply_rules(newGoals:= .nonDependentOnly)(maxDepth:=1)only[zE];constructor)):p:=h
theorem zq297(h:p:=by
 have Sb:=normE_sp (f:=f) y (hp2 y hm1) c _ Sa.gs (Nat.le_trans hp.wl Sa.up)
 have sb1:=Sb.few
 have sb2:=Sb.up
 all_goals(apply_rules(newGoals:= .nonDependentOnly)(maxDepth:=1)only[zE];constructor)):p:=h
theorem zq117(h:p:=by
 refine' zq259
 have hokc:K.ok c:=(okE_eq.1 hp.ok).1
 refine' zq80
 refine' zq208
 refine' zq297
 have P0:Pre f K x c s:=by have:=pre_part hp (by omega) hi0 hp.gs (Nat.le_refl _) (by omega);rwa [pcl_same (by omega)] at this
 refine' zq256
 all_goals(apply_rules(newGoals:= .nonDependentOnly)(maxDepth:=1)only[zE];constructor)):p:=h
theorem zq118(h:p:=by
 have HA9:=Lib.hid (HN9.out _ _ h8 m8)
 clear z0 z1 z2 z3 z4 z5
 obtain ⟨z0,z1,z2,z3,z4,z5⟩:=HA8.out.row.six'
 have g1:=HA8.out.row.frozen 1
 have hZ8:=HA8.out.row.lt
 clear h8 m8 HN9 HW8
 have HF9:=Lib.hid (HM1.out.trans HA9.out.fr)
 have HAD:=Lib.hid (HAC.out _ _ HA9.out.mkat)
 obtain ⟨y0,y1,y2,y3,y4,y5⟩:=HA9.out.row.six'
 go_upto_region 8 with (fail)
 clear z0 z1 z2 z3 z4 z5 g1
 go_wp2_with fail
 (with_reducible refine HAD.out.mono ?_)
 rintro r w9 ⟨rfl,h9⟩
 have HN9:=Lib.hid (NIs.trans HF9.out h9)
 clear h9
 go_wp2_with fail
 go_ret
 rw[HEE.out]
 exact ⟨rfl,HN9.out⟩
 all_goals(apply_rules(newGoals:= .nonDependentOnly)(maxDepth:=1)only[zE];constructor)):p:=h
theorem zq119(h:p:=by
 obtain rfl:j=len:=by omega
 have HO:=Lib.hid hown
 have HB:=Lib.hid hb
 clear hown hb
 go_wp2_with fail
 go_ret
 refine ⟨_,rfl,HFI.out _ _ HB.out ?_⟩
 have:=HO.out
 rw[←HLEN.out,List.take_length] at this
 all_goals(apply_rules(newGoals:= .nonDependentOnly)(maxDepth:=1)only[zE];constructor)):p:=h
theorem zq124(h:p:=by
 (try dsimp only);(first|(with_reducible exact HS32.out _ _ (HM6.out.trans (MFr.of_below bE)))|(with_reducible exact HS32.out _ _ (MFr.of_below bE)))
 all_goals(apply_rules(newGoals:= .nonDependentOnly)(maxDepth:=1)only[zE];constructor)):p:=h
theorem zq120(h:p:=by
 refine hKK.out _ _ ?_ (fun hHeld=>?_)
 ·refine' zq124
 refine' zq4
 all_goals(apply_rules(newGoals:= .nonDependentOnly)(maxDepth:=1)only[zE];constructor)):p:=h
theorem zq121(h:p:=by
 have P0:Pre f K x c s:=by have:=pre_part hp (by omega) hi0 hp.gs (Nat.le_refl _) (by omega);rwa [pcl_same (by omega)] at this
 all_goals(apply_rules(newGoals:= .nonDependentOnly)(maxDepth:=1)only[zE];constructor)):p:=h
theorem zq122(h:p:=by
 obtain ⟨i0,hi0,hz0,hz1,hz2⟩:=info_parts info_int
 all_goals(apply_rules(newGoals:= .nonDependentOnly)(maxDepth:=1)only[zE];constructor)):p:=h
theorem zq123(h:p:=by
 clear d0 d1 d2 d3 d4 d5 d6 d7
 refine wp_region_held_drew (S:=fun W=>W.cell? ⟨bx,0,none⟩=some (.int .i64 e.op)∧W.cell? ⟨bx,1,none⟩=some (.string e.name)∧W.cell? ⟨bx,2,none⟩=some (.int .i64 e.n)∧W.cell? ⟨bx,3,none⟩=some (.slice A e.args.length cap)∧W.cell? ⟨bx,4,none⟩=some (.int .i64 e.line)∧W.cell? ⟨bx,5,none⟩=some (.int .i64 e.col)) (by kernel_rfl) ?_ (fun hHeld=>?_)
 ·refine' zq98
 all_goals(apply_rules(newGoals:= .nonDependentOnly)(maxDepth:=1)only[zE];constructor)):p:=h
theorem zq126(h:p:=by
 go_simp
 (go_at_call 80;refine Calls.mono (HPW.out _ bE) ?_;rintro r w5 ⟨rfl,q5,m5,hA5⟩;(have HA5:=Lib.hid hA5);(have HK5:=Lib.hid (fun W' (hW:Below w5.heap.size w5 W')=>HK.out _ _ (((MFr.of_below (bE:Below w1.heap.size w1 _)).trans m5).trans (MFr.of_below hW))));clear hA5 m5)
 (try go_wp2_with fail)
 refine hKK.out _ _ ?_ (fun hHeld=>?_)
 ·refine' zq98
 refine' zq4
 all_goals(apply_rules(newGoals:= .nonDependentOnly)(maxDepth:=1)only[zE];constructor)):p:=h
theorem zq127(h:p:=by
 refine' zq220
 go_ret
 exact ⟨ret_bool HF.out.symm,by repeat (first|exact hb15|refine below_drewN' ?_ _)⟩
 all_goals(apply_rules(newGoals:= .nonDependentOnly)(maxDepth:=1)only[zE];constructor)):p:=h
theorem zq128(h:p:=by
 refine wp_region_held_drew (S:=fun W=>W.cell? ⟨L,0,none⟩=some (.slice Aw f.wires.length cw)∧W.cell? ⟨L,2,none⟩=some (.slice Ac f.cells.length cc)∧W.cell? ⟨L,7,none⟩=some (.slice (some ⟨K,0,none⟩) f.cells.length f.cells.length)∧W.cell? ⟨g6,0,none⟩=some (.int .i64 ((m:Int)))∧W.cell? ⟨g6,1,none⟩=some (.int .i64 (fr))∧W.cell? ⟨K,m,none⟩=some (.int .i64 V)) (by kernel_rfl) ?_ (fun hHeld=>?_)
 ·(try dsimp only);(first|(with_reducible exact HKm.out _ bE)|go_keep)
 refine' zq46
 all_goals(apply_rules(newGoals:= .nonDependentOnly)(maxDepth:=1)only[zE];constructor)):p:=h
theorem zq130(h:p:=by
 have eo1:(op==1)=false:=by rw[beq_eq_false_iff_ne];have:=HOP.out;omega
 have eo2:(op==2)=false:=by rw[beq_eq_false_iff_ne];have:=HOP.out;omega
 have eo21:(op==21)=false:=by rw[beq_eq_false_iff_ne];have:=HOP.out;omega
 have eo24:(op==24)=false:=by rw[beq_eq_false_iff_ne];have:=HOP.out;omega
 have eo26:(op==26)=false:=by rw[beq_eq_false_iff_ne];have:=HOP.out;omega
 have eo3:(op==3)=false:=by rw[beq_eq_false_iff_ne];have:=HOP.out;omega
 have eo27:(op==27)=false:=by rw[beq_eq_false_iff_ne];have:=HOP.out;omega
 all_goals(apply_rules(newGoals:= .nonDependentOnly)(maxDepth:=1)only[zE];constructor)):p:=h
theorem zq131(h:p:=by
 go_wp2_with fail
 go_roundw
 case rel=>exact ⟨k+1,by omega,by go_num,HP',HBD.out⟩
 case measure=>first|(simp[intOf];omega)|simp[intOf]
 all_goals(apply_rules(newGoals:= .nonDependentOnly)(maxDepth:=1)only[zE];constructor)):p:=h
theorem zq161(h:p:=by
 have hp:(x.clock.map (·.wire)).Pairwise (fun a b=>a≠b):=by
  rw[List.pairwise_map]
  refine pair_of fun i j p q hij hp hq heq=>?_
  have h1:=(hok.2 i p hp).2.2
  have h2:=(hok.2 j q hq).2.2
  rw[heq,h2] at h1
  have hl:=congrArg List.length h1
  have hi:=(List.getElem?_eq_some_iff.1 hp).1
  have hj:=(List.getElem?_eq_some_iff.1 hq).1
  rw[List.length_take,List.length_take] at hl
  omega
 exact hp
 all_goals(apply_rules(newGoals:= .nonDependentOnly)(maxDepth:=1)only[zE];constructor)):p:=h
theorem zq132(h:p:=by
 generalize f.wires[m]=x at*
 have hnd:(x.clock.map (·.wire)).Nodup:=by
  refine' zq161
 all_goals(apply_rules(newGoals:= .nonDependentOnly)(maxDepth:=1)only[zE];constructor)):p:=h
theorem zq133(h:p:=by
 go_wp2_with fail
 go_ret
 exact ⟨ret_bool HF.out.symm,HBW.out _ (Below.refl _ _)⟩
 all_goals(apply_rules(newGoals:= .nonDependentOnly)(maxDepth:=1)only[zE];constructor)):p:=h
theorem zq134(h:p:=by
 obtain ⟨m,rfl⟩:=Int.eq_ofNat_of_zero_le hn.1
 have hm:m<f.wires.length:=by have:=hn.2;omega
 all_goals(apply_rules(newGoals:= .nonDependentOnly)(maxDepth:=1)only[zE];constructor)):p:=h
theorem zq136(h:p:=by
 have hm':(m:Int)<f.wires.length:=by omega
 dsimp only at d0 d1 d2' d3 d4 d5
 have r9:=Row.new wr #[.int .i64 xo,.int .i64 (m:Int),.int .i64 xa,.int .i64 xb,.int .i64 xc,.int .i64 xk] 58
 have u4:Upd (fun k=>k=D) w1 (wr.alloc (.cells #[.int .i64 xo,.int .i64 (m:Int),.int .i64 xa,.int .i64 xb,.int .i64 xc,.int .i64 xk] 58)):=uD.alloc _
 have rD4:=rD.alloc (.cells #[.int .i64 xo,.int .i64 (m:Int),.int .i64 xa,.int .i64 xb,.int .i64 xc,.int .i64 xk] 58)
 all_goals(apply_rules(newGoals:= .nonDependentOnly)(maxDepth:=1)only[zE];constructor)):p:=h
theorem zq137(h:p:=by
 have hk:(e.op==6)=true∧kindOp e.op=2∨(e.op==6)=false∧decide (12≤e.op)=true∧kindOp e.op=2∨(e.op==6)=false∧decide (12≤e.op)=false∧kindOp e.op=1:=by
  unfold kindOp
  by_cases g6:e.op=6
  ·exact .inl ⟨by simp[g6],if_pos (.inl g6)⟩
  ·by_cases g12:12≤e.op
   ·exact .inr (.inl ⟨by simp[g6],decide_eq_true g12,if_pos (.inr g12)⟩)
   ·exact .inr (.inr ⟨by simp[g6],decide_eq_false g12,if_neg (by omega)⟩)
 have HOK:=Lib.hid hok
 all_goals(apply_rules(newGoals:= .nonDependentOnly)(maxDepth:=1)only[zE];constructor)):p:=h
theorem zq138(h:p:=by
 go_simp
 (go_at_call 16;first|((with_reducible refine Calls.mono (HT1.out _ ?hbb) ?_);(case hbb=>exact bE);rintro e wa ⟨va,rfl,hva,hba⟩;(have hbA:Below w5.heap.size w5 wa:=Below.trans bE (hba.mono lE));(have hsA:=hbA.size))|((with_reducible refine Calls.mono (HT3.out _ ?hbb) ?_);(case hbb=>exact bE);rintro e wc ⟨vc,rfl,hvc,hbc⟩;(have hbC:Below w5.heap.size w5 wc:=Below.trans bE (hbc.mono lE));(have hsC:=hbC.size)))
 all_goals(apply_rules(newGoals:= .nonDependentOnly)(maxDepth:=1)only[zE];constructor)):p:=h
theorem zq139(h:p:=by
 clear hown hown1 hgrow
 go_wp2_with fail
 go_roundw
 case rel=>exact ⟨j+1,by omega,by go_num,by rw[HS.out];exact HO.out,HB.out⟩
 case measure=>simp[intOf];omega
 all_goals(apply_rules(newGoals:= .nonDependentOnly)(maxDepth:=1)only[zE];constructor)):p:=h
theorem zq140(h:p:=by
 clear c0 c1 c2 c3 c4 c5 q0 d1
 refine wp_region_held_drew (S:=fun W=>W.cell? ⟨w.heap.size,0,none⟩=some (.int .i64 op)∧W.cell? ⟨w.heap.size,1,none⟩=some (.int .i64 (m:Int))∧W.cell? ⟨w.heap.size,2,none⟩=some (.int .i64 a)∧W.cell? ⟨w.heap.size,3,none⟩=some (.int .i64 0)∧W.cell? ⟨w.heap.size,4,none⟩=some (.int .i64 0)∧W.cell? ⟨w.heap.size,5,none⟩=some (.int .i64 0)) (by kernel_rfl) ?_ (fun hHeld=>?_)
 ·refine' zq15
 all_goals(apply_rules(newGoals:= .nonDependentOnly)(maxDepth:=1)only[zE];constructor)):p:=h
theorem zq141(h:p:=by
 clear c0 c1 c2 c3 c4 c5 q0 d1
 refine wp_region_held_drew (S:=fun W=>W.cell? ⟨w.heap.size,0,none⟩=some (.int .i64 op)∧W.cell? ⟨w.heap.size,1,none⟩=some (.int .i64 (m:Int))∧W.cell? ⟨w.heap.size,2,none⟩=some (.int .i64 a)∧W.cell? ⟨w.heap.size,3,none⟩=some (.int .i64 0)∧W.cell? ⟨w.heap.size,4,none⟩=some (.int .i64 c)∧W.cell? ⟨w.heap.size,5,none⟩=some (.int .i64 k)) (by kernel_rfl) ?_ (fun hHeld=>?_)
 ·refine' zq15
 all_goals(apply_rules(newGoals:= .nonDependentOnly)(maxDepth:=1)only[zE];constructor)):p:=h
theorem zq142(h:p:=by
 clear c0 c1 c2 c3 c4 c5 q0 d1
 refine wp_region_held_drew (S:=fun W=>W.cell? ⟨w.heap.size,0,none⟩=some (.int .i64 op)∧W.cell? ⟨w.heap.size,1,none⟩=some (.int .i64 (m:Int))∧W.cell? ⟨w.heap.size,2,none⟩=some (.int .i64 a)∧W.cell? ⟨w.heap.size,3,none⟩=some (.int .i64 0)∧W.cell? ⟨w.heap.size,4,none⟩=some (.int .i64 0)∧W.cell? ⟨w.heap.size,5,none⟩=some (.int .i64 k)) (by kernel_rfl) ?_ (fun hHeld=>?_)
 ·refine' zq15
 all_goals(apply_rules(newGoals:= .nonDependentOnly)(maxDepth:=1)only[zE];constructor)):p:=h
theorem zq146(h:p:=by
 have HW:=Lib.hid hw
 obtain ⟨m,rfl⟩:=Int.eq_ofNat_of_zero_le hw.1
 have hm:m<f.wires.length:=by have:=hw.2;omega
 have hm':(m:Int)<f.wires.length:=by omega
 all_goals(apply_rules(newGoals:= .nonDependentOnly)(maxDepth:=1)only[zE];constructor)):p:=h
theorem zq147(h:p:=by
 go_enter Tryz.func110,Tryz.ntmps110
 go_wp2_with fail
 all_goals(apply_rules(newGoals:= .nonDependentOnly)(maxDepth:=1)only[zE];constructor)):p:=h
theorem zq150(h:p:=by
 go_upto_region 1 with (fail)
 generalize w.alloc (.cells #[.slice Aw f.wires.length cw,.slice Ad f.defs.length cd,.slice Ai f.ins.length ci,.slice Ao f.outs.length co] 33)=w1 at*
 have hFl:=rF.lt
 have hs1:=b1.size
 all_goals(apply_rules(newGoals:= .nonDependentOnly)(maxDepth:=1)only[zE];constructor)):p:=h
theorem zq151(h:p:=by
 refine rdE none rfl (fun KK hKK=>?_)
 go_simp
 refine hKK.out _ _ ?_
 refine' zq4
 refine wpAnyL_done (by kernel_rfl) ?_ _
 all_goals(apply_rules(newGoals:= .nonDependentOnly)(maxDepth:=1)only[zE];constructor)):p:=h
theorem zq152(h:p:=by
 have bX:=Row.new w #[.int .i64 op,.int .i64 dst,.int .i64 0,.int .i64 0,.int .i64 0,.int .i64 (j:Int)] 58
 have b1:Below w.heap.size w (w.alloc (.cells #[.int .i64 op,.int .i64 dst,.int .i64 0,.int .i64 0,.int .i64 0,.int .i64 (j:Int)] 58)):=bE
 refine' zq17
 generalize hW1:w.alloc (.cells #[.int .i64 op,.int .i64 dst,.int .i64 0,.int .i64 0,.int .i64 0,.int .i64 (j:Int)] 58)=w1 at*
 refine' zq2
 all_goals(apply_rules(newGoals:= .nonDependentOnly)(maxDepth:=1)only[zE];constructor)):p:=h
theorem zq154(h:p:=by
 have hl':((l.length:Int) !=(m.length:Int))=false:=by rw[bne_eq_false_iff_eq];omega
 have HL:=Lib.hid hl
 have hle1:l.length≤m.length:=by omega
 clear hl
 all_goals(apply_rules(newGoals:= .nonDependentOnly)(maxDepth:=1)only[zE];constructor)):p:=h
theorem zq155(h:p:=by
 have HGA:=Lib.hid HGda
 have HGB:Hid (∀(n:Nat) (V:Bool) (hV:cB (clockOf f (md:Int)=clockOf f (mb:Int))=V),Calls Tryz.prog 31 #[.slice Agd (clockOf f (md:Int)).length cgd,.slice Agb (clockOf f (mb:Int)).length cgb] (w5.drewN n) fun e w'=>e= .returned (.bool V)∧∃m,w'=(w5.drewN n).drewN m):=fun n V hV=>by
  have:=rguards_any _ _ _ _ _ (w5.drewN n) SVd SVb
  rw[hV] at this
  exact this
 all_goals(apply_rules(newGoals:= .nonDependentOnly)(maxDepth:=1)only[zE];constructor)):p:=h
theorem zq156(h:p:=by
 refine' zq45
 go_ret
 exact ⟨ret_bool HF.out.symm,HBW.out _ (below_drewN' b5 n)⟩
 all_goals(apply_rules(newGoals:= .nonDependentOnly)(maxDepth:=1)only[zE];constructor)):p:=h
theorem zq229(h:p:=by
 refine' zq76
 have ma':ca≤9223372036854775807:=by unfold maxLen at ma;omega
 have mi':ci≤9223372036854775807:=by unfold maxLen at mi;omega
 all_goals(apply_rules(newGoals:= .nonDependentOnly)(maxDepth:=1)only[zE];constructor)):p:=h
theorem zq157(h:p:=by
 refine' zq229
 have HH:=Lib.hid h
 have HI:=Lib.hid hins
 have b0:=(Below.refl w.heap.size w).alloc (Nat.le_refl _) (.cells #[.int .i64 (-1)] 3)
 have HR:=Lib.hid (repeat_any (-1) f.wires.length w.heap.size 0 1 hwl (w.alloc (.cells #[.int .i64 (-1)] 3)) (by simp) (by simp))
 all_goals(apply_rules(newGoals:= .nonDependentOnly)(maxDepth:=1)only[zE];constructor)):p:=h
theorem zq158(h:p:=by
 obtain ⟨b,off,x,Ag,cg,hAw,hbb,hx,wx,d0,d1,lg,mg,sg⟩:=(HSW.out _ (HBW.out _ hb)).wr hlt
 subst hAw
 have HX:=Lib.hid hx
 have mg':cg≤9223372036854775807:=by unfold maxLen at mg;omega
 have ba:Below wr.heap.size wr (wr.alloc (.cells #[.int .i64 x.ty,.slice Ag x.clock.length cg] 52)):=bE
 have r4:=Row.new wr #[.int .i64 x.ty,.slice Ag x.clock.length cg] 52
 have hb4:=hb.trans (ba.mono hsr)
 all_goals(apply_rules(newGoals:= .nonDependentOnly)(maxDepth:=1)only[zE];constructor)):p:=h
theorem zq160(h:p:=by
 have HM:Hid (notYet d2+(if b2=true then 1 else 0)<gk):=by
  show _<_
  cases b2
  ·rw[(HF.out rfl).1];simp;omega
  ·have:=HT.out rfl;simp;omega
 all_goals(apply_rules(newGoals:= .nonDependentOnly)(maxDepth:=1)only[zE];constructor)):p:=h
theorem zq167(h:p:=by
 obtain ⟨f0,f1,f2,f3⟩:=HF4.out _ (hq3.trans (hb5.mono hs3'))
 go_upto_region 6 with (fail)
 generalize w4.alloc (.cells #[.slice none 0 0,.slice none 0 0,.slice none 0 0,.slice none 0 0,.slice none 0 0,.slice none 0 0] 28)=w5 at*
 have hXl:=rX.lt
 go_wp2_with fail
 (with_reducible refine (HRT.out _ hb5).mono ?_)
 rintro e w6 ⟨rfl,hb6⟩
 have hb7:=hb5.trans (hb6.mono hb5.size)
 all_goals(apply_rules(newGoals:= .nonDependentOnly)(maxDepth:=1)only[zE];constructor)):p:=h
theorem zq168(h:p:=by
 go_wp2_with fail
 go_ret
 exact ⟨ret_bool HF.out.symm,HBW.out _ b5⟩
 all_goals(apply_rules(newGoals:= .nonDependentOnly)(maxDepth:=1)only[zE];constructor)):p:=h
theorem zq170(h:p:=by
 refine tk 4 (some 37) rfl ?_
 refine tk 5 (some 38) rfl ?_
 refine tk 6 (some 39) rfl ?_
 refine tk 7 (some 40) rfl ?_
 refine tk 8 (some 41) rfl ?_
 refine tk 9 (some 42) rfl ?_
 refine tk 10 (some 43) rfl ?_
 refine tk 11 (some 44) rfl ?_
 refine tk 12 (some 45) rfl ?_
 refine tk 13 (some 46) rfl ?_
 refine tk 14 (some 47) rfl ?_
 refine tk 15 (some 48) rfl ?_
 refine tk 16 (some 49) rfl ?_
 all_goals(apply_rules(newGoals:= .nonDependentOnly)(maxDepth:=1)only[zE];constructor)):p:=h
theorem zq174(h:p:=by
 have HF:=Lib.hid (cB_false (fun g:l=m=>hl (by rw[g])))
 have hl':((l.length:Int) !=(m.length:Int))=true:=by rw[bne_iff_ne];omega
 clear hl
 all_goals(apply_rules(newGoals:= .nonDependentOnly)(maxDepth:=1)only[zE];constructor)):p:=h
theorem zq175(h:p:=by
 obtain ⟨bg,og,⟨gw,gn⟩,hAg,hbg,hgg,wg,e0,e1⟩:=(HGD.out _ hb).gd (k:=j) (by rw[HLEN.out];exact hlt)
 subst hAg
 dsimp only at e0 e1
 all_goals(apply_rules(newGoals:= .nonDependentOnly)(maxDepth:=1)only[zE];constructor)):p:=h
theorem zq176(h:p:=by
 obtain ⟨j,hj,rfl,hown,hb⟩:=hrel
 have hsr:=hb.size
 clear y0 y1 c0 c1 c2 c3 c4 c5
 obtain ⟨y0,y1,c0,c1,c2,c3,c4,c5⟩:=HD.out wr hb
 all_goals(apply_rules(newGoals:= .nonDependentOnly)(maxDepth:=1)only[zE];constructor)):p:=h
theorem zq177(h:p:=by
 obtain ⟨wo,rfl⟩:∃wo:World,wo=wr:=⟨_,rfl⟩
 all_goals(apply_rules(newGoals:= .nonDependentOnly)(maxDepth:=1)only[zE];constructor)):p:=h
theorem zq179(h:p:=by
 obtain ⟨q1,q2,q3⟩:=put_fix (s:=(s.cell 2 1).2) (ty:=2) (c:=c) (a:=⟨21,0,0,0,0,(s.cell 2 1).1⟩)
 obtain ⟨v1,v2,v3⟩:=put_fix (s:=((s.cell 2 1).2.put 2 c ⟨21,0,0,0,0,(s.cell 2 1).1⟩).2) (ty:=2) (c:=c) (a:=⟨2,0,0,0,0,0⟩)
 have hx:=put_ext (s:=((s.cell 2 1).2.put 2 c ⟨21,0,0,0,0,(s.cell 2 1).1⟩).2) (ty:=2) (c:=c) (a:=⟨2,0,0,0,0,0⟩)
 all_goals(apply_rules(newGoals:= .nonDependentOnly)(maxDepth:=1)only[zE];constructor)):p:=h
theorem zq180(h:p:=by
 go_wp2_with fail
 go_ret
 exact ⟨ret_bool HF.out.symm,HBC.out⟩
 all_goals(apply_rules(newGoals:= .nonDependentOnly)(maxDepth:=1)only[zE];constructor)):p:=h
theorem zq181(h:p:=by
 refine ⟨by simp[h.1,h'.1],fun i x cs hx hc=>?_⟩
 rcases Nat.lt_or_ge i l.length with hi|hi
 ·rw[List.getElem?_append_left hi] at hx
  rw[List.getElem?_append_left (by rw[h.1];exact hi)] at hc
  exact h.2 i x cs hx hc
 ·rw[List.getElem?_append_right hi] at hx
  rw[List.getElem?_append_right (by rw[h.1];exact hi),h.1] at hc
  exact h'.2 _ x cs hx hc
 all_goals(apply_rules(newGoals:= .nonDependentOnly)(maxDepth:=1)only[zE];constructor)):p:=h
theorem zq182(h:p:=by
 have e2:IntKind.i64.wrap ((n:Int)+((min n (c-n):Nat):Int))=(n:Int)+((min n (c-n):Nat):Int):=IntWalk.i64_in _ (by omega)
 generalize hM:min n (c-n)=mm at*
 have hmm:1≤mm:=by omega
 have hmc:n+mm≤c:=by omega
 have HMM:=Lib.hid hM
 clear hM
 go_wp2_with fail
 go_roundw
 case rel=>exact ⟨n+mm,by omega,hmc,by go_num,R3,hb3⟩
 case measure=>simp[intOf];omega
 all_goals(apply_rules(newGoals:= .nonDependentOnly)(maxDepth:=1)only[zE];constructor)):p:=h
theorem zq184(h:p:=by
 refine hKK.out _ _ ?_ (fun hHeld=>?_)
 ·(try dsimp only);(first|exact HS13.out|(with_reducible exact HK4.out _ bE))
 refine' zq4
 all_goals(apply_rules(newGoals:= .nonDependentOnly)(maxDepth:=1)only[zE];constructor)):p:=h
theorem zq185(h:p:=by
 rintro e w' ⟨rfl,rfl⟩
 go_wp2_with fail
 go_ret
 all_goals(apply_rules(newGoals:= .nonDependentOnly)(maxDepth:=1)only[zE];constructor)):p:=h
theorem zq186(h:p:=by
 have md':cd≤9223372036854775807:=by unfold maxLen at md;omega
 all_goals(apply_rules(newGoals:= .nonDependentOnly)(maxDepth:=1)only[zE];constructor)):p:=h
theorem zq187(h:p:=by
 have HNr:=Lib.hid hN
 have HC:Hid (Calls Tryz.prog 61 #[.slice (some ⟨K,0,none⟩) f.wires.length f.wires.length,.int .i64 (-1)] wr fun e w'=>e= .returned (.bool (cB ((-1:Int)∈bs)))∧wr=w'):=by
  have:=contains_int (l:=bs) (by simpa[ints] using rK) (by rw[HBL.out];omega) (-1)
  rw[HBL.out] at this
  exact this
 all_goals(apply_rules(newGoals:= .nonDependentOnly)(maxDepth:=1)only[zE];constructor)):p:=h
theorem zq189(h:p:=by
 unfold notYet
 have hl:n.toNat<ds.length:=by omega
 simp only[bGet,List.getD_eq_getElem?_getD,List.getElem?_eq_getElem hl,Option.getD_some] at hf
 have hp:0<ds.countP (fun b=>!b):=List.countP_pos_iff.2 ⟨ds[n.toNat],List.getElem_mem hl,by simp[hf]⟩
 rw[List.countP_set hl,hf,Bool.not_false,if_pos rfl,Bool.not_true,if_neg (by decide)]
 omega
 all_goals(apply_rules(newGoals:= .nonDependentOnly)(maxDepth:=1)only[zE];constructor)):p:=h
theorem zq196(h:p:=by
 have hV:=Lib.hid (cB_true hw)
 obtain ⟨n,hn⟩:=Int.eq_ofNat_of_zero_le hw.1
 have hw1:0≤gw:=hw.1
 have hw2:gw<f.wires.length:=hw.2
 subst hn
 have hwn:n<f.wires.length:=by omega
 obtain ⟨by_,oy,y,Ay,cy,hAy,hby,hy,wy,y0,y1,ly,my,sy⟩:=(HW.out w3 hB3).wr hwn
 injection hAy with hAy
 injection hAy with h1 h2
 subst h1;subst h2
 all_goals(apply_rules(newGoals:= .nonDependentOnly)(maxDepth:=1)only[zE];constructor)):p:=h
theorem zq199(h:p:=by
 refine sk 11 (some 217) rfl ?_
 refine sk 12 (some 218) rfl ?_
 refine sk 13 (some 219) rfl ?_
 refine sk 14 (some 220) rfl ?_
 refine sk 15 (some 221) rfl ?_
 refine sk 16 (some 222) rfl ?_
 refine sk 17 (some 223) rfl ?_
 refine sk 18 (some 224) rfl ?_
 refine tk 19 (some 225) rfl ?_
 refine tk 20 (some 226) rfl ?_
 refine' zq49
 all_goals(apply_rules(newGoals:= .nonDependentOnly)(maxDepth:=1)only[zE];constructor)):p:=h
theorem zq200(h:p:=by
 rcases ht with h|h
 ·have e1:(x.ty !=1)=false:=by rw[bne_eq_false_iff_eq];exact h
  clear h
  go_wp2_with fail
  go_meet
  exact ⟨rfl,rfl⟩
 ·have e1:(x.ty !=1)=true:=by rw[bne_iff_ne];omega
  have e2:(x.ty !=2)=false:=by rw[bne_eq_false_iff_eq];exact h
  clear h
  go_wp2_with fail
  go_meet
  exact ⟨rfl,rfl⟩
 all_goals(apply_rules(newGoals:= .nonDependentOnly)(maxDepth:=1)only[zE];constructor)):p:=h
theorem zq203(h:p:=by
 clear c0 c1 c2 c3 c4 c5
 obtain ⟨Z,q5,rfl,ha5⟩:=hcut
 obtain ⟨w5,rfl⟩:∃w5:World,w5=wc:=⟨_,rfl⟩
 have HA5:=Lib.hid ha5
 have HF5:=Lib.hid ha5.fr
 obtain ⟨z0,z1,z2,z3,z4,z5⟩:=ha5.row.six'
 have g1:=ha5.row.frozen 1
 have g3:=ha5.row.frozen 3
 clear ha5
 obtain ⟨c0,c1,c2,c3,c4,c5⟩:=HK.out _ _ HF5.out
 all_goals(apply_rules(newGoals:= .nonDependentOnly)(maxDepth:=1)only[zE];constructor)):p:=h
theorem zq205(h:p:=by
 refine wpAnyH_done (by kernel_rfl) ?_ _
 clear hHeld HK5 HK6 HK HBX HD6 c0 c1 c2 c3 c4 c5
 have HX7:=Lib.hid (HBG.out _ _ H6.out (HCK.out _ _ HM6.out))
 go_wp2_with fail
 (with_reducible refine HX7.out.mono ?_)
 rintro r w7 ⟨rfl,q7,h7,m7⟩
 have HM7:=Lib.hid (HM6.out.trans m7)
 have H7:=Lib.hid h7
 clear h7 m7
 all_goals(apply_rules(newGoals:= .nonDependentOnly)(maxDepth:=1)only[zE];constructor)):p:=h
theorem zq209(h:p:=by
 have HX8:=Lib.hid (HCH.out _ _ H7.out (HCK.out _ _ HM7.out))
 go_wp2_with fail
 (with_reducible refine HX8.out.mono ?_)
 rintro r w8 ⟨rfl,q8,h8,m8⟩
 have HM8:=Lib.hid (HM7.out.trans m8)
 have H8:=Lib.hid h8
 clear h8 m8
 go_wp2_with fail
 go_ret
 rw[HE.out]
 exact ⟨rfl,q8,H8.out,HM1.out.trans HM8.out⟩
 all_goals(apply_rules(newGoals:= .nonDependentOnly)(maxDepth:=1)only[zE];constructor)):p:=h
theorem zq210(h:p:=by
 have hb5:Below w3.heap.size w3 (w4.alloc (.cells #[.slice none 0 0,.slice none 0 0,.slice none 0 0,.slice none 0 0,.slice none 0 0,.slice none 0 0] 28)):=bE
 have rX:=Row.new w4 #[.slice none 0 0,.slice none 0 0,.slice none 0 0,.slice none 0 0,.slice none 0 0,.slice none 0 0] 28
 all_goals(apply_rules(newGoals:= .nonDependentOnly)(maxDepth:=1)only[zE];constructor)):p:=h
theorem zq211(h:p:=by
 generalize hD:w.heap.size+1=D at*
 generalize hG:w.heap.size=G at*
 have hs1:=b1.size
 have hGD:G≠D:=by omega
 have hGD':G≤D:=by omega
 have hDlt:=rD1.lt
 have HFI:Hid (∀W,Upd (fun k=>k=D) w1 W→Below G w W):=fun W hW=>(b1.trans ((hW.below (B:=D) (fun k hk=>by omega) (by omega)).mono (by omega)))
 all_goals(apply_rules(newGoals:= .nonDependentOnly)(maxDepth:=1)only[zE];constructor)):p:=h
theorem zq212(h:p:=by
 clear hp
 go_wp2_with fail
 (with_reducible refine (HPC.out _ hb).mono ?_)
 rintro e w3 ⟨rfl,hb3⟩
 have hb13:=hb.trans (hb3.mono hsr)
 clear f0 f1 f2 f3 f4 f5
 obtain ⟨f0,f1,f2,f3,f4,f5⟩:=HF6.out w3 hb13
 go_wp2_with fail
 (with_reducible refine (HPO.out _ hb13).mono ?_)
 rintro e w4 ⟨rfl,hb4⟩
 all_goals(apply_rules(newGoals:= .nonDependentOnly)(maxDepth:=1)only[zE];constructor)):p:=h
theorem zq214(h:p:=by
 refine sk 14 (some 40) rfl ?_
 refine sk 15 (some 41) rfl ?_
 refine sk 16 (some 42) rfl ?_
 refine sk 17 (some 43) rfl ?_
 refine sk 18 (some 44) rfl ?_
 refine sk 19 (some 45) rfl ?_
 refine sk 20 (some 46) rfl ?_
 refine tk 21 (some 47) rfl ?_
 refine' zq25
 go_meet
 exact ⟨by rw[HF.out];rfl,bE⟩
 all_goals(apply_rules(newGoals:= .nonDependentOnly)(maxDepth:=1)only[zE];constructor)):p:=h
theorem zq215(h:p:=by
 simp only[List.drop_zero,List.drop_succ_cons,List.take_succ_cons,List.take_zero] at h0 h1
 obtain ⟨a,ha,_,wa⟩:=DataW.trod_int Tryz.underlying3 h0
 all_goals(apply_rules(newGoals:= .nonDependentOnly)(maxDepth:=1)only[zE];constructor)):p:=h
theorem zq217(h:p:=by
 injection he with he1 he2 he3
 subst he1
 obtain ⟨b,off,n,rfl,hbb,hx,wx,d0⟩:=si.int hlt
 have hw:=HI.out n (List.mem_of_getElem? hx)
 have HX:=Lib.hid hx
 all_goals(apply_rules(newGoals:= .nonDependentOnly)(maxDepth:=1)only[zE];constructor)):p:=h
theorem zq224(h:p:=by
 have h0:DataW.trod enc Tryz.prog w 0 spare held n 3 (([c0,c1].drop 0).take (Tryz.prog.cellsOf 3))=some xs[0]:=(hf 0 _ rfl).trans e0
 all_goals(apply_rules(newGoals:= .nonDependentOnly)(maxDepth:=1)only[zE];constructor)):p:=h
theorem zq225(h:p:=by
 go_enter Tryz.func30,Tryz.ntmps30
 go_wp2_with fail
 go_ret
 exact ⟨ret_bool HF.out.symm,b1⟩
 all_goals(apply_rules(newGoals:= .nonDependentOnly)(maxDepth:=1)only[zE];constructor)):p:=h
theorem zq226(h:p:=by
 have HW:=Lib.hid hwa
 clear hu hwa hda HWT
 go_wp2_with fail
 refine (HW.out _ _ _ HR3.out).mono ?_
 rintro e w4 ⟨rfl,hw4,hr4,hu4⟩
 have HW4:=Lib.hid hw4
 clear hw4
 go_wp2_with fail
 go_ret
 exact ⟨ret_int HV.out,by rw[←HV.out];exact HW4.out,hr4,HU3.out.trans hu4⟩
 all_goals(apply_rules(newGoals:= .nonDependentOnly)(maxDepth:=1)only[zE];constructor)):p:=h
theorem zq227(h:p:=by
 obtain ⟨Av,cv,rfl,lv,mv,sv⟩:=hv
 have mv':cv≤9223372036854775807:=by unfold maxLen at mv;omega
 all_goals(apply_rules(newGoals:= .nonDependentOnly)(maxDepth:=1)only[zE];constructor)):p:=h
theorem zq228(h:p:=by
 rcases hown.2 with ⟨rfl,rfl⟩|⟨g,cap,cur,rfl,_,_,hnc,_⟩
 ·simp[Builtin.append_,run_underlying ht,sizeOf,typeInfo,hi,Builtin.lenOf,Builtin.firstCells]
 ·simp[Builtin.append_,run_underlying ht,sizeOf,typeInfo,hi,Builtin.lenOf,Builtin.firstCells,hnc,storeCells]
 all_goals(apply_rules(newGoals:= .nonDependentOnly)(maxDepth:=1)only[zE];constructor)):p:=h
theorem zq230(h:p:=by
 go_simp
 (go_at_call 15;first|((with_reducible refine Calls.mono (HI2.out _ _ _ hvc' hvd) ?_);rintro e w13 ⟨rfl,n13,rfl⟩)|((with_reducible refine Calls.mono (HI1.out _ _ _ hva' hvb) ?_);rintro e w13 ⟨rfl,n13,rfl⟩))
 refine' zq112
 all_goals(apply_rules(newGoals:= .nonDependentOnly)(maxDepth:=1)only[zE];constructor)):p:=h
theorem zq232(h:p:=by
 obtain ⟨A,cw,hva,hnil,_⟩:=own_src how
 dsimp only at hva
 subst hva
 have hcw:cw≤9223372036854775807:=by
  obtain ⟨A',c',he,_,hm,_⟩:=own_rd how
  injection he with _ _ he
  unfold maxLen at hm
  omega
 have hB:=h.bel.size
 have hlo:=h.lo
 have hDl:=h.row.lt
 all_goals(apply_rules(newGoals:= .nonDependentOnly)(maxDepth:=1)only[zE];constructor)):p:=h
theorem zq234(h:p:=by
 have e1:decide (xo≤2)=false:=by simp;omega
 have e2:(xo==21)=false:=by rw[beq_eq_false_iff_ne];omega
 have e3:(xo==3)=false:=by rw[beq_eq_false_iff_ne];omega
 have e4:(xo==24)=false:=by rw[beq_eq_false_iff_ne];omega
 have e5:decide (26≤xo)=false:=by simp;omega
 all_goals(apply_rules(newGoals:= .nonDependentOnly)(maxDepth:=1)only[zE];constructor)):p:=h
theorem zq235(h:p:=by
 go_enter Tryz.func63,Tryz.ntmps63
 all_goals(apply_rules(newGoals:= .nonDependentOnly)(maxDepth:=1)only[zE];constructor)):p:=h
theorem zq238(h:p:=by
 have hnd:(dsts f f.acts).Nodup:=by
  unfold dsts
  rw[List.nodup_append]
  refine ⟨pair_of (d4_pair.1 h4),hp,fun a ha b hb e=>?_⟩
  obtain ⟨x,hx,rfl⟩:=List.mem_map.1 hb
  obtain ⟨i,hi'⟩:=List.getElem?_of_mem hx
  exact (h6 i x hi').2.1 (e▸ha)
 all_goals(apply_rules(newGoals:= .nonDependentOnly)(maxDepth:=1)only[zE];constructor)):p:=h
theorem zq240(h:p:=by
 rintro e w5 ⟨rfl,hb5⟩
 have hb15:=b1.trans (hb5.mono b1.size)
 clear c0 c1 c2 c3 c4 c5
 obtain ⟨c0,c1,c2,c3,c4,c5⟩:=(bX.below hb5 hg1).six'
 clear hb5
 cases V
 ·go_wp2_with fail
  go_ret
  exact ⟨ret_bool (by rw[HQ.out];rfl),hb15⟩
 go_wp2_with fail
 all_goals(apply_rules(newGoals:= .nonDependentOnly)(maxDepth:=1)only[zE];constructor)):p:=h
theorem zq241(h:p:=by
 have l2:=nodup_len _ (dsts f f.acts) (rangeI_nodup f.wires.length) (fun n hn=>by
  obtain ⟨a,b⟩:=rangeI_mem.1 hn
  have:=hd'.2.2 n.toNat (by omega)
  rwa [show ((n.toNat:Nat):Int)=n by omega] at this)
 rw[rangeI_len] at l1 l2
 simp[dsts] at l1 l2
 omega
 all_goals(apply_rules(newGoals:= .nonDependentOnly)(maxDepth:=1)only[zE];constructor)):p:=h
theorem zq242(h:p:=by
 have HQ':=Lib.hid (upto_succ HQ.out (fun y hy=>by rw[HGG.out] at hy;injection hy with hy;rw[←hy];exact cB_iff.1 HP2.out))
 go_wp2_with fail
 go_roundw
 case rel=>exact ⟨q+1,by omega,by go_num,HQ'.out,(HLOW.out _ hbc).1⟩
 case measure=>simp[intOf];omega
 all_goals(apply_rules(newGoals:= .nonDependentOnly)(maxDepth:=1)only[zE];constructor)):p:=h
theorem zq243(h:p:=by
 go_simp
 (go_at_call 65;(refine (alike2_c HN5.out hB5 hd ha wd wa HV.out bE (by rfl)).mono ?_);rintro e w8 ⟨rfl,hb8⟩;(have hb9:Below w5.heap.size w5 w8:=Below.trans bE (hb8.mono lE));(have hs9:=hb9.size))
 refine' zq11
 all_goals(apply_rules(newGoals:= .nonDependentOnly)(maxDepth:=1)only[zE];constructor)):p:=h
theorem zq244(h:p:=by
 have mc':cc≤9223372036854775807:=by unfold maxLen at mc;omega
 all_goals(apply_rules(newGoals:= .nonDependentOnly)(maxDepth:=1)only[zE];constructor)):p:=h
theorem zq246(h:p:=by
 clear hT
 refine' zq39
 refine tk 12 (some 179) rfl ?_
 refine tk 13 (some 180) rfl ?_
 refine tk 14 (some 181) rfl ?_
 refine tk 15 (some 182) rfl ?_
 refine tk 16 (some 183) rfl ?_
 refine tk 17 (some 184) rfl ?_
 refine tk 18 (some 4) rfl ?_
 refine' zq67
 all_goals(apply_rules(newGoals:= .nonDependentOnly)(maxDepth:=1)only[zE];constructor)):p:=h
theorem zq247(h:p:=by
 generalize normE x c s=p at*
 obtain ⟨p1,sa⟩:=p
 dsimp only at*
 generalize normE y c sa=p at*
 obtain ⟨p2,sb⟩:=p
 dsimp only at*
 all_goals(apply_rules(newGoals:= .nonDependentOnly)(maxDepth:=1)only[zE];constructor)):p:=h
theorem zq248(h:p:=by
 generalize hTd:tyOf f dst=Td at*
 have HV:=Lib.hid hV
 have HTa:=Lib.hid hTa
 all_goals(apply_rules(newGoals:= .nonDependentOnly)(maxDepth:=1)only[zE];constructor)):p:=h
theorem zq249(h:p:=by
 have HSGN:∀W,Calls Tryz.prog 72 #[.int .i64 op] W fun e w'=>e= .returned (.tuple #[.int .i64 (Vf.signIn op),.int .i64 (Vf.signOut op),.bool true])∧Below W.heap.size W w':=fun W=>rsign_yes op W (by have:=HOP.out;omega)
 all_goals(apply_rules(newGoals:= .nonDependentOnly)(maxDepth:=1)only[zE];constructor)):p:=h
theorem zq250(h:p:=by
 have hs1:=b1.size
 have hGl:=rF1.lt
 have HF6:Hid (∀W,Below w1.heap.size w1 W→W.cell? ⟨w.heap.size,0,none⟩=some (.slice Aw f.wires.length cw)):=fun W hW=>(rF1.below hW hGl).cell 0
 have f0:=HF6.out _ (Below.refl _ _)
 go_wp2_with fail
 clear f0
 all_goals(apply_rules(newGoals:= .nonDependentOnly)(maxDepth:=1)only[zE];constructor)):p:=h
theorem zq251(h:p:=by
 intro v13 w13 hown13 hg13 _ hv13
 have HA13:=Lib.hid (HAD.out w13 v13 hown13 hg13 (by simpa using hv13))
 have rD13:=HRD.out w13 hg13
 all_goals(apply_rules(newGoals:= .nonDependentOnly)(maxDepth:=1)only[zE];constructor)):p:=h
theorem zq253(h:p:=by
 (try dsimp only);(first|(with_reducible exact (HS.out _ bE).2.1)|go_keep)
 all_goals(apply_rules(newGoals:= .nonDependentOnly)(maxDepth:=1)only[zE];constructor)):p:=h
theorem zq254(h:p:=by
 by_cases hS0:si=0
 ·have eS0:(si==0)=true:=by simpa using hS0
  clear hT hS hA hS0
  refine' zq13
 have eS0:(si==0)=false:=by simpa using hS0
 have eS:(tyOf f (ma:Int)==si)=true:=by simpa using hS.resolve_left hS0
 clear hT hS hA hS0
 refine' zq13
 all_goals(apply_rules(newGoals:= .nonDependentOnly)(maxDepth:=1)only[zE];constructor)):p:=h
theorem zq255(h:p:=by
 have HV2:=Lib.hid (fun n=>HGB.out n false (cB_false hC))
 clear hC
 refine' zq45
 (with_reducible refine Calls.mono (HV2.out n) ?_)
 rintro e wg ⟨rfl,m,rfl⟩
 go_wp2_with fail
 go_ret
 exact ⟨ret_bool HF.out.symm,HBW.out _ (below_drewN' b5 _)⟩
 all_goals(apply_rules(newGoals:= .nonDependentOnly)(maxDepth:=1)only[zE];constructor)):p:=h
theorem zq257(h:p:=by
 have fD:=rD5.frozen m
 have cD:=ds_cell rD5 (n:=m) (by rw[HDL.out];exact hm)
 have rD6:=Lib.hid (ds_set (m:=m) rD5 true)
 have uD6:=Lib.hid (Upd.setCell (X:=fun k=>k=D) (p:=⟨D,m,none⟩) u5 rfl (.bool true))
 generalize bGet d2 (m:Int)=V at cD
 all_goals(apply_rules(newGoals:= .nonDependentOnly)(maxDepth:=1)only[zE];constructor)):p:=h
theorem zq258(h:p:=by
 have HPW:=Lib.hid (fun W' (hW:Below (W.alloc (.cells (exRw e A cap) 75)).heap.size (W.alloc (.cells (exRw e A cap) 75)) W')=>HPU.out W' q (h1.below hW) (hc.fr (MFr.of_below (b1.trans (hW.mono b1.size)))))
 refine' zq143
 all_goals(apply_rules(newGoals:= .nonDependentOnly)(maxDepth:=1)only[zE];constructor)):p:=h
theorem zq262(h:p:=by
 refine sk 7 (some 61) rfl ?_
 refine sk 8 (some 62) rfl ?_
 refine sk 9 (some 63) rfl ?_
 refine sk 10 (some 64) rfl ?_
 refine sk 11 (some 65) rfl ?_
 refine sk 12 (some 66) rfl ?_
 refine sk 13 (some 67) rfl ?_
 refine sk 14 (some 68) rfl ?_
 all_goals(apply_rules(newGoals:= .nonDependentOnly)(maxDepth:=1)only[zE];constructor)):p:=h
theorem zq263(h:p:=by
 refine hKK.out _ _ ?_ (fun hHeld=>?_)
 ·refine' zq253
 refine' zq4
 all_goals(apply_rules(newGoals:= .nonDependentOnly)(maxDepth:=1)only[zE];constructor)):p:=h
theorem zq265(h:p:=by
 subst hop
 obtain ⟨h1,h2,h3⟩:=h
 simp[actOk,uses,h1,h2,h3,and_assoc]
 all_goals(apply_rules(newGoals:= .nonDependentOnly)(maxDepth:=1)only[zE];constructor)):p:=h
theorem zq266(h:p:=by
 rintro e w1 ⟨rfl,hb1⟩
 go_wp2_with fail
 go_ret2
 exact ⟨rfl,hb1⟩
 all_goals(apply_rules(newGoals:= .nonDependentOnly)(maxDepth:=1)only[zE];constructor)):p:=h
theorem zq267(h:p:=by
 refine sk 17 (some 135) rfl ?_
 refine sk 18 (some 136) rfl ?_
 refine sk 19 (some 137) rfl ?_
 refine sk 20 (some 138) rfl ?_
 refine sk 21 (some 139) rfl ?_
 refine tk 22 (some 140) rfl ?_
 refine tk 23 (some 141) rfl ?_
 refine' zq47
 all_goals(apply_rules(newGoals:= .nonDependentOnly)(maxDepth:=1)only[zE];constructor)):p:=h
theorem zq268(h:p:=by
 subst ho
 have HV:Hid (xk=valF f cs row (m:Int)):=(val_const HOK.out cs row HX.out (by dsimp only;decide)).symm
 clear hu
 go_wp2_with fail
 go_ret
 exact ⟨ret_int HV.out,by rw[←HV.out];exact HWX.out.k,⟨_,_,HR3.out⟩,HU3.out⟩
 all_goals(apply_rules(newGoals:= .nonDependentOnly)(maxDepth:=1)only[zE];constructor)):p:=h
theorem zq269(h:p:=by
 go_wp2_with fail
 (with_reducible refine HW1.out.mono ?_)
 rintro e w3 ⟨rfl,hb3⟩
 obtain ⟨x0,x1,x2,x3⟩:=HR3.out _ hb3
 all_goals(apply_rules(newGoals:= .nonDependentOnly)(maxDepth:=1)only[zE];constructor)):p:=h
theorem zq270(h:p:=by
 exact this.mono fun e w' ⟨he,k,hk⟩=>⟨he,by rw[hk];exact below_drewN' ((Below.refl _ _).alloc (Nat.le_refl _) _) k⟩
 all_goals(apply_rules(newGoals:= .nonDependentOnly)(maxDepth:=1)only[zE];constructor)):p:=h
theorem zq271(h:p:=by
 refine sk 12 (some 179) rfl ?_
 refine sk 13 (some 180) rfl ?_
 refine sk 14 (some 181) rfl ?_
 refine sk 15 (some 182) rfl ?_
 refine sk 16 (some 183) rfl ?_
 refine tk 17 (some 184) rfl ?_
 refine tk 18 (some 4) rfl ?_
 refine' zq67
 all_goals(apply_rules(newGoals:= .nonDependentOnly)(maxDepth:=1)only[zE];constructor)):p:=h
theorem zq272(h:p:=by
 go_wp2_with fail
 go_ret
 exact ⟨ret_int HF.out.symm,b1⟩
 all_goals(apply_rules(newGoals:= .nonDependentOnly)(maxDepth:=1)only[zE];constructor)):p:=h
theorem zq273(h:p:=by
 go_wp2_with fail
 all_goals
  go_ret
  refine ⟨ret_bool ?_,hb⟩
  rw[HF.out,Bool.eq_iff_iff,cB_iff]
  simp
  try omega
 all_goals(apply_rules(newGoals:= .nonDependentOnly)(maxDepth:=1)only[zE];constructor)):p:=h
theorem zq274(h:p:=by
 have hmb:m<bs.length:=by rw[HBL.out];exact hm
 have HNO:=Lib.hid (fun hf=>def_no_act HD.out HX.out HW.out hf)
 have HYES:=Lib.hid (fun hf=>def_step (v:=(j:Int)) HD.out HW.out hf (by omega))
 have HTS:=Lib.hid (dsts_snoc HX.out)
 all_goals(apply_rules(newGoals:= .nonDependentOnly)(maxDepth:=1)only[zE];constructor)):p:=h
theorem zq275(h:p:=by
 go_wp2_with (go_at_call 122;refine (rflag_any _ _).mono ?_;rintro e w' ⟨rfl,rfl⟩)
 go_ret2
 all_goals(apply_rules(newGoals:= .nonDependentOnly)(maxDepth:=1)only[zE];constructor)):p:=h
theorem zq276(h:p:=by
 (try dsimp only);(first|exact HCX.out _ hu9|exact HCX.out _ hu8'|exact HCX.out _ (Upd.of_below ((Below.refl _ _).drew)))
 all_goals(apply_rules(newGoals:= .nonDependentOnly)(maxDepth:=1)only[zE];constructor)):p:=h
theorem zq277(h:p:=by
 intro v' w1 hown hgrow _
 have bb:=below_own ((Below.refl w.heap.size w).alloc (Nat.le_refl _) (.cells #[] 61)) (own_empty w 61 2) hgrow (by simp)
 (try simp only[Nat.zero_add,List.nil_append] at hown)
 all_goals(apply_rules(newGoals:= .nonDependentOnly)(maxDepth:=1)only[zE];constructor)):p:=h
theorem zq278(h:p:=by
 clear e1
 generalize cB (actOk f ⟨op,dst,0,0,0,k⟩)=R at*
 refine' zq40
 go_ret
 exact ⟨ret_bool HR.out.symm,hb16 _⟩
 all_goals(apply_rules(newGoals:= .nonDependentOnly)(maxDepth:=1)only[zE];constructor)):p:=h
theorem zq279(h:p:=by
 generalize Ar.signIn op=si at*
 generalize Ar.signOut op=so at*
 clear sg
 refine' zq59
 rintro e w' ⟨rfl,hb7⟩
 have hb17:=hb15.trans (hb7.mono hb15.size)
 go_wp2_with fail
 go_ret
 exact ⟨ret_bool (by rw[HIFF.out]),hb17⟩
 all_goals(apply_rules(newGoals:= .nonDependentOnly)(maxDepth:=1)only[zE];constructor)):p:=h
theorem zq280(h:p:=by
 obtain ⟨i,hi⟩:=List.getElem?_of_mem hcs
 have hl:i<l.length:=by rw[←h.1];exact (List.getElem?_eq_some_iff.1 hi).1
 all_goals(apply_rules(newGoals:= .nonDependentOnly)(maxDepth:=1)only[zE];constructor)):p:=h
theorem zq281(h:p:=by
 refine' zq61
 refine sk 10 (some 175) rfl ?_
 refine sk 11 (some 176) rfl ?_
 refine sk 12 (some 177) rfl ?_
 refine' zq21
 all_goals(apply_rules(newGoals:= .nonDependentOnly)(maxDepth:=1)only[zE];constructor)):p:=h
theorem zq282(h:p:=by
 refine' zq146
 have fD:=rD.frozen m
 have cD:=ds_cell rD (n:=m) (by rw[HDL.out];exact hm)
 have rD6:=Lib.hid (ds_set (m:=m) rD true)
 have uD6:=Lib.hid (Upd.setCell (X:=fun k=>k=D) (p:=⟨D,m,none⟩) uD rfl (.bool true))
 all_goals(apply_rules(newGoals:= .nonDependentOnly)(maxDepth:=1)only[zE];constructor)):p:=h
theorem zq283(h:p:=by
 clear e
 generalize (clockOf f m).length=len1 at*
 generalize (clockOf f m0).length=len0 at*
 go_wp2_with fail
 go_quiet ((go_at_call 59;exact quiet_of2 (HC.out _)))
 all_goals(apply_rules(newGoals:= .nonDependentOnly)(maxDepth:=1)only[zE];constructor)):p:=h
theorem zq284(h:p:=by
 clear hw
 refine wp_region_held_drew (S:=fun W=>W.cell? ⟨w2.heap.size,0,none⟩=some (.int .i64 gw)) (by kernel_rfl) ?_ (fun hHeld=>?_)
 ·refine' zq253
 all_goals(apply_rules(newGoals:= .nonDependentOnly)(maxDepth:=1)only[zE];constructor)):p:=h
theorem zq285(h:p:=by
 go_wp2_with fail
 refine HI.out.mono ?_
 rintro e w' ⟨⟨r,rfl,hr⟩,rfl⟩
 have HR:=Lib.hid hr
 clear hr
 go_wp2_with fail
 go_ret
 exact ⟨ret_bool (by rw[←cB_congr HR.out];by_cases c:0≤r<;>simp[cB,c]),rfl⟩
 all_goals(apply_rules(newGoals:= .nonDependentOnly)(maxDepth:=1)only[zE];constructor)):p:=h
theorem zq287(h:p:=by
 rw[if_pos (by simp[h1,h2])] at HE
 go_wp2_with fail
 refine (rneg_any (wrap64 Q) _ (wrap_lo _)).mono ?_
 rintro e w6 ⟨rfl,hb6⟩
 go_wp2_with fail
 go_ret
 exact ⟨ret_int HE.out,hbf.trans (hb6.mono hbf.size)⟩
 all_goals(apply_rules(newGoals:= .nonDependentOnly)(maxDepth:=1)only[zE];constructor)):p:=h
theorem zq288(h:p:=by
 injection hA' with hA1 _ hA3
 subst hA1;subst hA3
 all_goals(apply_rules(newGoals:= .nonDependentOnly)(maxDepth:=1)only[zE];constructor)):p:=h
theorem zq289(h:p:=by
 go_simp
 refine hKK.out _ _ ?_ (fun hHeld=>?_)
 ·(try dsimp only);(exact HKF.out _ (by repeat (first|assumption|refine Below.setCell ?_ (by first|omega|(simp;omega)|simp) _|refine Below.drew ?_)))
 refine' zq4
 all_goals(apply_rules(newGoals:= .nonDependentOnly)(maxDepth:=1)only[zE];constructor)):p:=h
theorem zq292(h:p:=by
 go_wp2_with fail
 refine HR.out.mono ?_
 rintro e w1 ⟨K,rfl,hK,rK,hb1⟩
 have hb:=b0.trans (hb1.mono b0.size)
 all_goals(apply_rules(newGoals:= .nonDependentOnly)(maxDepth:=1)only[zE];constructor)):p:=h
theorem zq294(h:p:=by
 have HSD:Hid (∀W,Below w.heap.size w W→Sl W W.heap.size 7 (isDf W W.heap.size) Ad f.defs):=fun W hW=>by
  obtain ⟨A,c,hv,_,_,s⟩:=(HFL.out W hW).defs
  injection hv with h1 _ _
  rw[h1];exact s
 all_goals(apply_rules(newGoals:= .nonDependentOnly)(maxDepth:=1)only[zE];constructor)):p:=h
theorem zq295(h:p:=by
 have hN:=(h3.below ((Below.refl _ _).alloc (Nat.le_refl _) (.cells #[] 61))).flatA gdC_of gdC_len
 have HL:=Lib.hid (flat_len (size:=2) (l:=l) gdC_len)
 have HO:=Lib.hid (flat_one gdC_one l)
 all_goals(apply_rules(newGoals:= .nonDependentOnly)(maxDepth:=1)only[zE];constructor)):p:=h
theorem zq296(h:p:=by
 simp only[List.getElem?_toArray,List.getElem?_cons_zero] at q0
 all_goals(apply_rules(newGoals:= .nonDependentOnly)(maxDepth:=1)only[zE];constructor)):p:=h
theorem zq298(h:p:=by
 go_upto_region 14 with (fail)
 generalize hg9:wr.heap.size=g9 at*
 generalize wr.alloc (.cells #[.int .i64 xo,.int .i64 (m:Int),.int .i64 xa,.int .i64 xb,.int .i64 xc,.int .i64 xk] 58)=w4 at*
 all_goals(apply_rules(newGoals:= .nonDependentOnly)(maxDepth:=1)only[zE];constructor)):p:=h
theorem zq299(h:p:=by
 clear hop
 refine' zq198
 have HV3:Hid (cB (isW f a∧isW f b∧isW f c)=true):=cB_true hall
 refine' zq6
 refine' zq69
 (with_reducible refine (Ar.sign_any op _).mono ?_)
 rintro e w' ⟨rfl,rfl⟩
 rw[sg]
 all_goals(apply_rules(newGoals:= .nonDependentOnly)(maxDepth:=1)only[zE];constructor)):p:=h
theorem zq300(h:p:=by
 by_cases ht:tyOf f.fm e.n=2
 ·rw[if_pos ht] at hk;exact ⟨hk,ht⟩
 ·rw[if_neg ht] at hk;exact absurd hk h
 all_goals(apply_rules(newGoals:= .nonDependentOnly)(maxDepth:=1)only[zE];constructor)):p:=h
theorem zq301(h:p:=by
 refine' zq72
 generalize W.alloc (.cells (exRw e A cap) 75)=w1 at*
 all_goals(apply_rules(newGoals:= .nonDependentOnly)(maxDepth:=1)only[zE];constructor)):p:=h
theorem zq303(h:p:=by
 rw[kind1,if_neg h0,hx,if_neg (by rw[hn];simp),if_neg (by omega),if_neg (by omega),if_neg (by omega),if_neg (by omega)] at hk
 unfold kindR at hk
 simp only[List.map_cons,List.map_nil,q1,q2,q4] at hk
 all_goals(apply_rules(newGoals:= .nonDependentOnly)(maxDepth:=1)only[zE];constructor)):p:=h
theorem zq305(h:p:=by
 dsimp only at d0 d1 d2 d3 d4 d5
 have ba:=(Below.refl wr.heap.size wr).alloc (Nat.le_refl _) (.cells #[.int .i64 xo,.int .i64 xd,.int .i64 xa,.int .i64 xb,.int .i64 xc,.int .i64 xk] 58)
 all_goals(apply_rules(newGoals:= .nonDependentOnly)(maxDepth:=1)only[zE];constructor)):p:=h
theorem zq308(h:p:=by
 have hs5:=hbw5.size
 have HLOW:Hid (∀W,Below w5.heap.size w5 W→Below w4.heap.size w4 W∧Below w.heap.size w W):=fun W hW=>⟨hbq.trans (hW.mono hsq),HBW.out _ (hbw5.trans (hW.mono hs5))⟩
 all_goals(apply_rules(newGoals:= .nonDependentOnly)(maxDepth:=1)only[zE];constructor)):p:=h
theorem zq309(h:p:=by
 have HF:Hid (cB (actOk f ⟨2,(md:Int),(ma:Int),(mb:Int),(mc:Int),k⟩)=false):=cB_false (fun g=>by have:=((act_iff2 rfl HALL.out).1 g).2.2;unfold valueOk at this;omega)
 clear hT
 refine' zq168
 all_goals(apply_rules(newGoals:= .nonDependentOnly)(maxDepth:=1)only[zE];constructor)):p:=h
theorem zq310(h:p:=by
 rcases List.mem_append.1 hm with h|h
 ·exact rangeI_mem.2 (hi m h)
 ·obtain ⟨x,hx,rfl⟩:=List.mem_map.1 h
  obtain ⟨i,hi'⟩:=List.getElem?_of_mem hx
  exact rangeI_mem.2 (h6 i x hi').1
 all_goals(apply_rules(newGoals:= .nonDependentOnly)(maxDepth:=1)only[zE];constructor)):p:=h
theorem zq311(h:p:=by
 have fK:=rK5.frozen m
 have rK6:=Lib.hid (ks_set (m:=m) rK5 (j:Int))
 have uK6:=Lib.hid (Upd.setCell (X:=fun k=>k=K) (p:=⟨K,m,none⟩) uK5 rfl (.int .i64 (j:Int)))
 go_region
 go_wp2_with fail
 all_goals(apply_rules(newGoals:= .nonDependentOnly)(maxDepth:=1)only[zE];constructor)):p:=h
theorem zq312(h:p:=by
 clear hr
 go_wp2_with fail
 (with_reducible refine HR.out.mono ?_)
 rintro e w5 ⟨rfl,hb5⟩
 have u5:=u4.trans (Upd.of_below hb5)
 have rD5:=rD4.below hb5 hDl4
 clear x0 x1 x2 c0 c1 c2 c3 c4 c5
 all_goals(apply_rules(newGoals:= .nonDependentOnly)(maxDepth:=1)only[zE];constructor)):p:=h
theorem zq313(h:p:=by
 have hm':(m:Int)<f.wires.length:=by omega
 have HPA:Hid (portAt f.fm n↔(clockOf f.fm n).length=0):=⟨fun g=>by rw[g.2];rfl,fun g=>⟨hw,List.eq_nil_of_length_eq_zero g⟩⟩
 subst hnm
 all_goals(apply_rules(newGoals:= .nonDependentOnly)(maxDepth:=1)only[zE];constructor)):p:=h
theorem zq314(h:p:=by
 rintro e w2 ⟨v2,rfl,ho2,hb2⟩
 obtain ⟨A2,c2,rfl,hc2,hm2,hr2⟩:=own_rd ho2
 have hr1':=(hr1.below hb2).more hb2.size
 have hb12:Below w.heap.size w w2:=hb1.trans (hb2.mono hb1.size)
 all_goals(apply_rules(newGoals:= .nonDependentOnly)(maxDepth:=1)only[zE];constructor)):p:=h
theorem zq315(h:p:=by
 (try dsimp only);(first|exact HK8.out _ hu9'|exact HK8.out _ (Upd.of_below ((Below.refl _ _).drew)))
 all_goals(apply_rules(newGoals:= .nonDependentOnly)(maxDepth:=1)only[zE];constructor)):p:=h
theorem zq316(h:p:=by
 have HW:=Lib.hid hw
 obtain ⟨m,rfl⟩:=Int.eq_ofNat_of_zero_le hw.1
 have hm:m<f.wires.length:=by have h9:(m:Int)<f.wires.length:=hw.2;omega
 have hm':(m:Int)<f.wires.length:=by omega
 all_goals(apply_rules(newGoals:= .nonDependentOnly)(maxDepth:=1)only[zE];constructor)):p:=h
theorem zq317(h:p:=by
 obtain rfl:k=64:=by omega
 obtain ⟨A3,c3,rfl,hc3,hm3,hr3⟩:=own_rd hown
 go_wp2_with fail
 refine (number_any A3 c3 _ _ _ hr3 hs01).mono ?_
 rintro e w3 ⟨rfl,rfl⟩
 go_wp2_with fail
 all_goals(apply_rules(newGoals:= .nonDependentOnly)(maxDepth:=1)only[zE];constructor)):p:=h
theorem zq318(h:p:=by
 rw[hv] at hv'
 injection hv' with hA _ _
 refine ⟨g,0,hA,(h.lt g (by rw[hv,hA];rfl)).2,fun i x hi=>?_⟩
 have hil:i<css.length:=by rw[hx.1];exact (List.getElem?_eq_some_iff.1 hi).1
 all_goals(apply_rules(newGoals:= .nonDependentOnly)(maxDepth:=1)only[zE];constructor)):p:=h
theorem zq319(h:p:=by
 obtain rfl:j=f.wires.length:=by omega
 refine' zq160
 have HNR:Hid (b2=false→∀i:Nat,i<f.wires.length→¬readyS f d2 i):=fun h=>by
  obtain ⟨e,g⟩:=HF.out h
  rw[e]
  exact g
 all_goals(apply_rules(newGoals:= .nonDependentOnly)(maxDepth:=1)only[zE];constructor)):p:=h
theorem zq320(h:p:=by
 unfold Oper.wp execOp
 simp only[ho,resolve,invoke,builtin,Sem.run_bind,Sem.run_pure,Result.andThen_ok,List.map_toArray,List.map_cons,List.map_nil,hs,hx,hr]
 exact h v' w' h2 h3 h5
 all_goals(apply_rules(newGoals:= .nonDependentOnly)(maxDepth:=1)only[zE];constructor)):p:=h
theorem zq321(h:p:=by
 have HBn:=Lib.hid (HB.out.trans ((hb13.mono (by omega)).trans (u9.below (B:=w.heap.size) (fun q hq=>by omega) (by have:=hb13.size;omega))))
 have hsz:=u9.size
 have hsz2:=hb13.size
 all_goals(apply_rules(newGoals:= .nonDependentOnly)(maxDepth:=1)only[zE];constructor)):p:=h
theorem zq322(h:p:=by
 go_wp2_with fail
 (with_reducible refine HBY.out.mono ?_)
 rintro r w5 ⟨rfl,hb5⟩
 have HU5:=Lib.hid (HUD.out.trans (Upd.of_below hb5))
 have HR5:=Lib.hid (HRD.out.below hb5 hDr)
 all_goals(apply_rules(newGoals:= .nonDependentOnly)(maxDepth:=1)only[zE];constructor)):p:=h
theorem zq323(h:p:=by
 have HNO:=Lib.hid (fun hf=>def_no_in HD.out HX.out HW.out hf)
 have HYES:=Lib.hid (fun hf=>def_step (v:= -2) HD.out HW.out hf (by decide))
 have HTS:=Lib.hid (take_snoc' HX.out)
 all_goals(apply_rules(newGoals:= .nonDependentOnly)(maxDepth:=1)only[zE];constructor)):p:=h
theorem zq324(h:p:=by
 generalize wr.alloc (.cells #[.int .i64 x.ty,.slice Ag x.clock.length cg] 52)=w4 at*
 all_goals(apply_rules(newGoals:= .nonDependentOnly)(maxDepth:=1)only[zE];constructor)):p:=h
theorem zq325(h:p:=by
 obtain rfl:j=f.acts.length:=by omega
 refine' zq160
 have HNR:Hid (b2=false→∀x∈f.acts,¬readyB f d2 x):=fun h=>by
  obtain ⟨e,g⟩:=HF.out h
  rw[e]
  exact all_upto g
 all_goals(apply_rules(newGoals:= .nonDependentOnly)(maxDepth:=1)only[zE];constructor)):p:=h
theorem zq326(h:p:=by
 obtain ⟨h1,e1⟩:=List.getElem?_eq_some_iff.1 hx
 obtain ⟨h2,e2⟩:=List.getElem?_eq_some_iff.1 hy
 rw[List.drop_eq_getElem_cons h1,List.drop_eq_getElem_cons h2,e1,e2];rfl
 all_goals(apply_rules(newGoals:= .nonDependentOnly)(maxDepth:=1)only[zE];constructor)):p:=h
theorem zq327(h:p:=by
 intro l
 induction l with
 |nil=>intro x hx;cases hx
 |cons z l ih=>
  intro x hx
  simp only[maxL]
  rcases List.mem_cons.1 hx with rfl|hx
  ·omega
  ·have:=ih x hx;omega
 all_goals(apply_rules(newGoals:= .nonDependentOnly)(maxDepth:=1)only[zE];constructor)):p:=h
theorem zq328(h:p:=by
 clear f0 f1 f2 f3
 obtain ⟨f0,f1,f2,f3⟩:=HF4.out _ (hq3.trans (hb7.mono hs3'))
 go_wp2_with fail
 (with_reducible refine (HMO.out _ hb7).mono ?_)
 rintro e w7 ⟨rfl,hb8⟩
 all_goals(apply_rules(newGoals:= .nonDependentOnly)(maxDepth:=1)only[zE];constructor)):p:=h
theorem zq329(h:p:=by
 go_enter Tryz.func72,Tryz.ntmps72
 go_wp2
 all_goals(apply_rules(newGoals:= .nonDependentOnly)(maxDepth:=1)only[zE];constructor)):p:=h
theorem zq330(h:p:=by
 have HSL:=Lib.hid (fun W (hW:Below w.heap.size w W)=>sl.below (hW.mono hB))
 have HFM:=Lib.hid (fun W (hW:Below w.heap.size w W)=>h.below (hW.mono hB))
 have HW:=Lib.hid hw
 all_goals(apply_rules(newGoals:= .nonDependentOnly)(maxDepth:=1)only[zE];constructor)):p:=h
theorem zq332(h:p:=by
 refine' zq220
 go_ret
 exact ⟨ret_bool HF.out.symm,below_drewN' (below_drewN' HB1.out _) _⟩
 all_goals(apply_rules(newGoals:= .nonDependentOnly)(maxDepth:=1)only[zE];constructor)):p:=h
theorem zq333(h:p:=by
 have HW:Hid (wants ⟨op,dst,a,b,c,k⟩=[]):=by subst hop;rfl
 subst hop
 clear hu
 refine' zq91
 all_goals(apply_rules(newGoals:= .nonDependentOnly)(maxDepth:=1)only[zE];constructor)):p:=h
end Go.Proofs.YtckognjamlckcaaGreatDoor
