/-
  Runs of tactics that stand in many proofs, each as a theorem's default argument.
-/
import Derived.ArgAppend
import Derived.Below
import Derived.BigQuiet
import Derived.Carry
import Derived.ChangeOld
import Derived.DataReads
import Derived.Deep.AppendLies
import Derived.Deep.CutBlock
import Derived.Deep.DeepCutAuto
import Derived.Deep.DeepHandedRow
import Derived.Deep.DrawnRows
import Derived.Deep.Draws
import Derived.Deep.QuietTactic
import Derived.Deep.RegionHeld
import Derived.Deep.RegionHeld3
import Derived.Deep.RegionLaw
import Derived.IntWalk
import Derived.Laws.AppendOwnNone
import Derived.Laws.Bits64b
import Derived.Laws.CopyOwn
import Derived.Laws.MakeOwn
import Derived.Laws.OwnMore
import Derived.Laws.StructEq
import Derived.Lib.AppendZeros
import Derived.Lib.Hide
import Derived.Lib.SliceRun
import Derived.LoopIn
import Derived.LoopNIn
import Derived.LoopTactic
import Derived.Maps.AppendAt
import Derived.Maps.Own
import Derived.Maps.OwnOps
import Derived.Maps.OwnSet
import Derived.Maps.Views
import Derived.OpenShut
import Derived.Outline
import Derived.OwnWalkIn
import Derived.ProofKit
import Derived.RangeFuncBound
import Derived.RangeFuncCalls
import Derived.RangeFuncLeaves
import Derived.RangeFuncNested
import Derived.RegionTactic
import Derived.RowKit3
import Derived.Shelf.RegionOpen
import Derived.ShutString
import Derived.Sort.CutIn
import Derived.StillTailTactics
import Derived.TacticsInMore
import Derived.WalkKit
import Derived.WalkLawsBesides
import Derived.WalkSpells
namespace Go.Proofs.YtckognjamlckcaaGreatDoor
theorem zH{p:Prop}(h:p):Go.RowKit.Hid p:=h
theorem _root_.Go.RowKit.Hid.o{p:Prop}(h:Go.RowKit.Hid p):p:=h
inductive zD{p:Prop}(h:p):Prop where
 |zM:zD h
theorem zE{p:Prop}(h:p)(_:zD h):p:=h
variable{p:Prop}
theorem zq43(h:p:=by
 have HSG:Hid (∀W,Below w.heap.size w W->Sl W w.heap.size 2 aW Agd (aa f (md:Int))/\Sl W w.heap.size 2 aW Aga (aa f (ma:Int))/\Sl W w.heap.size 2 aW Agb (aa f (mb:Int))/\Sl W w.heap.size 2 aW Agc (aa f (mc:Int))):=fun W hW=>⟨sgd.below hW,sga.below hW,sgb.below hW,sgc.below hW⟩
 have HWY:Hid (∀W,Below w.heap.size w W->(W.cell? ⟨b6,o6+md*2,none⟩=some (.int .i64 (ag f (md:Int)))/\W.cell? ⟨b6,o6+md*2+1,none⟩=some (.slice Agd (aa f (md:Int)).length cgd))/\(W.cell? ⟨b6,o6+ma*2,none⟩=some (.int .i64 (ag f (ma:Int)))/\W.cell? ⟨b6,o6+ma*2+1,none⟩=some (.slice Aga (aa f (ma:Int)).length cga))/\(W.cell? ⟨b6,o6+mb*2,none⟩=some (.int .i64 (ag f (mb:Int)))/\W.cell? ⟨b6,o6+mb*2+1,none⟩=some (.slice Agb (aa f (mb:Int)).length cgb))/\(W.cell? ⟨b6,o6+mc*2,none⟩=some (.int .i64 (ag f (mc:Int)))/\W.cell? ⟨b6,o6+mc*2+1,none⟩=some (.slice Agc (aa f (mc:Int)).length cgc))):=fun W hW=>⟨⟨cell_kept y0d hW,cell_kept y1d hW⟩,⟨cell_kept y0a hW,cell_kept y1a hW⟩,⟨cell_kept y0b hW,cell_kept y1b hW⟩,⟨cell_kept y0c hW,cell_kept y1c hW⟩⟩
 have HVa:=zH (aq ha)
 have HVb:=zH (aq hb)
 have HVc:=zH (aq hc)
 clear sgd sga sgb sgc y0d y1d y0a y1a y0b y1b y0c y1c wtd wta wtb wtc ha hb hc hd hd'
 all_goals(apply_rules(newGoals:= .nonDependentOnly)(maxDepth:=1)only[zE];constructor)):p:=h
theorem zq146(h:p:=by
 rintro e w3 ⟨rfl,hbw3⟩
 have bw3:Below w1.heap.size w1 w3:=bw2.trans (hbw3.mono bw2.size)
 clear f0 f1 f2 f3 f4 f5 c0 c1 c2 c3 c4 c5
 obtain ⟨⟨f0,f1,f2,f3,f4,f5⟩,c0,c1,c2,c3,c4,c5⟩:=HCX.o w3 bw3
 all_goals(apply_rules(newGoals:= .nonDependentOnly)(maxDepth:=1)only[zE];constructor)):p:=h
theorem zq165(h:p:=by
 rintro e w2 ⟨rfl,hbw2⟩
 have bw2:Below w1.heap.size w1 w2:=hbw2
 clear f0 f1 f2 f3 f4 f5 c0 c1 c2 c3 c4 c5
 obtain ⟨⟨f0,f1,f2,f3,f4,f5⟩,c0,c1,c2,c3,c4,c5⟩:=HCX.o w2 bw2
 all_goals(apply_rules(newGoals:= .nonDependentOnly)(maxDepth:=1)only[zE];constructor)):p:=h
theorem zq215(h:p:=by
 go_wp2_with fail
 (with_reducible refine (xE _ _).mono ?_)
 all_goals(apply_rules(newGoals:= .nonDependentOnly)(maxDepth:=1)only[zE];constructor)):p:=h
theorem zq266(h:p:=by
 rintro e w4 ⟨rfl,hbw4⟩
 have bw4:Below w1.heap.size w1 w4:=bw3.trans (hbw4.mono bw3.size)
 clear f0 f1 f2 f3 f4 f5 c0 c1 c2 c3 c4 c5
 obtain ⟨⟨f0,f1,f2,f3,f4,f5⟩,c0,c1,c2,c3,c4,c5⟩:=HCX.o w4 bw4
 all_goals(apply_rules(newGoals:= .nonDependentOnly)(maxDepth:=1)only[zE];constructor)):p:=h
theorem zq58(h:p:=by
 clear rF rX
 obtain ⟨⟨f0,f1,f2,f3,f4,f5⟩,c0,c1,c2,c3,c4,c5⟩:=HCX.o w1 (Below.refl _ _)
 refine' zq215
 rintro e w1' ⟨rfl,rfl⟩
 rw[HU.o]
 have e0:True:=trivial
 go_wp2_with fail
 (with_reducible refine (HI.o _ _ _ (Below.refl _ _) HVa.o).mono ?_)
 refine' zq165
 go_wp2_with fail
 (with_reducible refine (HI.o _ _ _ bw2 HVb.o).mono ?_)
 refine' zq146
 go_wp2_with fail
 (with_reducible refine (HI.o _ _ _ bw3 HVc.o).mono ?_)
 refine' zq266
 all_goals(apply_rules(newGoals:= .nonDependentOnly)(maxDepth:=1)only[zE];constructor)):p:=h
theorem zq123(h:p:=by
 have HBW:Hid (∀W,Below w1.heap.size w1 W->Below w.heap.size w W):=fun W hW=>b1.trans (hW.mono hs1)
 all_goals(apply_rules(newGoals:= .nonDependentOnly)(maxDepth:=1)only[zE];constructor)):p:=h
theorem zq201(h:p:=by
 clear h
 go_enter Tryz.func36,Tryz.ntmps36
 go_upto_region 1 with (fail)
 generalize hWB:World.alloc (World.alloc w _) _=w1
 obtain ⟨b1,rF,rX,hs1a⟩:=yA hWB
 clear hWB
 have hXl:=rX.lt
 have hs1:=b1.size
 refine' zq123
 all_goals(apply_rules(newGoals:= .nonDependentOnly)(maxDepth:=1)only[zE];constructor)):p:=h
theorem zq0(h:p:=by
 refine' zq43
 have HFM:=zH (fun W (hW:Below w.heap.size w W)=>h.next hW)
 refine' zq201
 have HCX:Hid (∀W,Below w1.heap.size w1 W->(W.cell? ⟨w.heap.size,0,none⟩=some (.slice (some ⟨b6,o6,none⟩) f.wires.length cw)/\W.cell? ⟨w.heap.size,1,none⟩=some va/\W.cell? ⟨w.heap.size,2,none⟩=some vc/\W.cell? ⟨w.heap.size,3,none⟩=some vk/\W.cell? ⟨w.heap.size,4,none⟩=some vi/\W.cell? ⟨w.heap.size,5,none⟩=some vo)/\
   (W.cell? ⟨w.heap.size+1,0,none⟩=some (.int .i64 op)/\W.cell? ⟨w.heap.size+1,1,none⟩=some (.int .i64 (md:Int))/\W.cell? ⟨w.heap.size+1,2,none⟩=some (.int .i64 (ma:Int))/\W.cell? ⟨w.heap.size+1,3,none⟩=some (.int .i64 (mb:Int))/\W.cell? ⟨w.heap.size+1,4,none⟩=some (.int .i64 (mc:Int))/\W.cell? ⟨w.heap.size+1,5,none⟩=some (.int .i64 k))):=fun W hW=>
  ⟨(rF.below hW (by omega)).six',(rX.below hW hXl).six'⟩
 have HI:Hid (∀W n V,Below w1.heap.size w1 W->cB (ak f n)=V->Calls Tryz.prog 30 #[dp (.slice (some ⟨b6,o6,none⟩) f.wires.length cw) va vc vk vi vo,.int .i64 n] W fun e w'=>e= .returned (.bool V)/\Below W.heap.size W w'):=fun W n V hW hV=>by
  have:=fY (HFM.o W (HBW.o W hW)) n
  rw[hV] at this
  exact this
 refine' zq58
 all_goals(apply_rules(newGoals:= .nonDependentOnly)(maxDepth:=1)only[zE];constructor)):p:=h
theorem zq1(h:p:=by
 clear hz
 obtain ⟨⟨yd0,yd1⟩,⟨ya0,ya1⟩,⟨yb0,yb1⟩,yc0,yc1⟩:=HWY.o _ (HBW.o _ bw4)
 have hsw4:=(HBW.o _ bw4).size
 have hsw4':=bw4.size
 have hG4:w.heap.size+1+1<=w4.heap.size:=Nat.le_trans hs1a hsw4'
 have hb64:b6<w4.heap.size:=by omega
 have hG40:w.heap.size<w4.heap.size:=by omega
 have hG41:w.heap.size+1<w4.heap.size:=by omega
 have hZ00:b6<w4.heap.size+1:=by omega
 have hZ01:b6<w4.heap.size+1+1:=by omega
 have hZ10:w.heap.size<w4.heap.size+1:=by omega
 have hZ11:w.heap.size<w4.heap.size+1+1:=by omega
 have hZ20:w.heap.size+1<w4.heap.size+1:=by omega
 have hZ21:w.heap.size+1<w4.heap.size+1+1:=by omega
 go_upto_region 8 with (fail)
 clear hZ00 hZ01 hZ10 hZ11 hZ20 hZ21
 generalize hWA:World.alloc (World.alloc (World.alloc (World.alloc w4 _) _) _) _=w5
 obtain ⟨ba,r6,r7,r8,r9⟩:=xr hWA
 clear hWA
 generalize w4.heap.size=g6 at*
 have b5:Below w1.heap.size w1 w5:=bw4.trans (ba.mono (by omega))
 have hr9:=r9.lt
 have hr6:=r6.lt
 have hr7:=r7.lt
 have hr8:=r8.lt
 have hs5:=b5.size
 have HR:Hid (∀W,Below w5.heap.size w5 W->(W.cell? ⟨g6,0,none⟩=some (.int .i64 (ag f (md:Int)))/\W.cell? ⟨g6,1,none⟩=some (.slice Agd (aa f (md:Int)).length cgd))/\(W.cell? ⟨g6+1,0,none⟩=some (.int .i64 (ag f (ma:Int)))/\W.cell? ⟨g6+1,1,none⟩=some (.slice Aga (aa f (ma:Int)).length cga))/\(W.cell? ⟨g6+1+1,0,none⟩=some (.int .i64 (ag f (mb:Int)))/\W.cell? ⟨g6+1+1,1,none⟩=some (.slice Agb (aa f (mb:Int)).length cgb))/\(W.cell? ⟨g6+1+1+1,0,none⟩=some (.int .i64 (ag f (mc:Int)))/\W.cell? ⟨g6+1+1+1,1,none⟩=some (.slice Agc (aa f (mc:Int)).length cgc))):=fun W hW=>⟨(r6.below hW hr6).two',(r7.below hW hr7).two',(r8.below hW hr8).two',(r9.below hW hr9).two'⟩
 clear f0 f1 f2 f3 f4 f5 c0 c1 c2 c3 c4 c5
 clear yd0 yd1 ya0 ya1 yb0 yb1 yc0 yc1 r6 r7 r8 r9 ba
 obtain ⟨⟨f0,f1,f2,f3,f4,f5⟩,c0,c1,c2,c3,c4,c5⟩:=HCX.o w5 b5
 obtain ⟨⟨yd0,yd1⟩,⟨ya0,ya1⟩,⟨yb0,yb1⟩,yc0,yc1⟩:=HR.o w5 (Below.refl _ _)
 all_goals(apply_rules(newGoals:= .nonDependentOnly)(maxDepth:=1)only[zE];constructor)):p:=h
theorem zq2(h:p:=by
 clear hW1
 obtain ⟨c0,c1,c2,c3,c4,c5⟩:=bX.six'
 go_wp2_with fail
 (with_reducible refine (DH HH.o hBw wa wb wc HV3.o b1).mono ?_)
 rintro e w5 ⟨rfl,hb5⟩
 have hb15:=b1.trans (hb5.mono b1.size)
 have bX5:=bX.below hb5 hg1
 have hg5:w.heap.size<w5.heap.size:=bX5.lt
 clear c0 c1 c2 c3 c4 c5 hb5 bX b1
 obtain ⟨c0,c1,c2,c3,c4,c5⟩:=bX5.six'
 go_wp2_with fail
 (with_reducible refine (Ar.sign_any op _).mono ?_)
 rintro e w' ⟨rfl,rfl⟩
 rw[sg]
 generalize Ar.signIn op=si at*
 generalize Ar.signOut op=so at*
 clear sg
 obtain ⟨m,b6,off6,cw6,Ag6,cg6,hmd,hm,hvw,lw6,mw6,hb6,wt6,d0,d1,lg6,mg6,sg6⟩:=(HH.o.below hBw hb15).wire hd
 subst hmd
 have q0:=(HH.o.below hBw hb15).row.eight.1.1
 have HVW:=zH hvw
 rw[hvw] at q0
 have hm':(m:Int)<f.wires.length:=by omega
 have HSG:=zH sg6
 clear hvw d0 sg6 wt6
 go_wp2_with fail
 go_quiet (fail)
 all_goals(apply_rules(newGoals:= .nonDependentOnly)(maxDepth:=1)only[zE];constructor)):p:=h
theorem zq195(h:p:=by
 injection hv with hv1 _ hv3
 injection hv1 with hv1
 injection hv1 with hv1 hv2
 subst hv1;subst hv2;subst hv3
 all_goals(apply_rules(newGoals:= .nonDependentOnly)(maxDepth:=1)only[zE];constructor)):p:=h
theorem zq3(h:p:=by
 obtain ⟨md,bx,ox,cx,Agd,cgd,hmd,hld,hv,_,_,hb6,wtd,y0d,y1d,lgd,mgd,sgd⟩:=fW h hd
 injection hv with hv1 _ hv3
 subst hv1
 subst hv3
 subst hmd
 obtain ⟨b6,hb6e⟩:∃b,b=bx:=⟨_,rfl⟩
 obtain ⟨o6,ho6e⟩:∃b,b=ox:=⟨_,rfl⟩
 subst hb6e;subst ho6e
 have hld':(md:Int)<f.wires.length:=by omega
 have hcgd:cgd<=9223372036854775807:=by unfold maxLen at mgd;omega
 obtain ⟨ma,bx,ox,cx,Aga,cga,hma,hla,hv,_,_,hb6,wta,y0a,y1a,lga,mga,sga⟩:=fW h ha
 refine' zq195
 subst hma
 have hla':(ma:Int)<f.wires.length:=by omega
 have hcga:cga<=9223372036854775807:=by unfold maxLen at mga;omega
 obtain ⟨mb,bx,ox,cx,Agb,cgb,hmb,hlb,hv,_,_,hb6,wtb,y0b,y1b,lgb,mgb,sgb⟩:=fW h hb
 refine' zq195
 subst hmb
 have hlb':(mb:Int)<f.wires.length:=by omega
 have hcgb:cgb<=9223372036854775807:=by unfold maxLen at mgb;omega
 obtain ⟨mc,bx,ox,cx,Agc,cgc,hmc,hlc,hv,_,_,hb6,wtc,y0c,y1c,lgc,mgc,sgc⟩:=fW h hc
 refine' zq195
 subst hmc
 have hlc':(mc:Int)<f.wires.length:=by omega
 have hcgc:cgc<=9223372036854775807:=by unfold maxLen at mgc;omega
 all_goals(apply_rules(newGoals:= .nonDependentOnly)(maxDepth:=1)only[zE];constructor)):p:=h
theorem zq4(h:p:=by
 clear hKK KK
 try simp only[Act.put,List.setIfInBounds_toArray,List.set_cons_zero,List.set_cons_succ]
 all_goals(apply_rules(newGoals:= .nonDependentOnly)(maxDepth:=1)only[zE];constructor)):p:=h
theorem zq263(h:p:=by
 have HC:=zH hC
 have HV:=zH (HGA.o true (aq hC))
 all_goals(apply_rules(newGoals:= .nonDependentOnly)(maxDepth:=1)only[zE];constructor)):p:=h
theorem zq5(h:p:=by
 refine' zq263
 clear hC HGA
 have HSd:Hid (∀W,Below w5.heap.size w5 W->aI W W.heap.size 2 aW (.slice Agd (aa f (md:Int)).length cgd) (aa f (md:Int))):=fun W hW=>⟨Agd,cgd,rfl,lgd,mgd,(HSG.o W (HBW.o _ (b5.trans (hW.mono hs5)))).1.more (HBW.o _ (b5.trans (hW.mono hs5))).size⟩
 have HWI:Hid (∀W (q:Bool),Below w5.heap.size w5 W->Calls Tryz.prog 71 #[.slice Agd (aa f (md:Int)).length cgd,.int .i64 (ma:Int),.bool q] W (vy (aa f (md:Int)) ⟨(ma:Int),q⟩ W)):=fun W q hW=>oN _ _ W (HSd.o W hW) HCL.o ⟨(ma:Int),q⟩ HWA.o
 have HGB:Hid (∀W v (V:Bool),Below w5.heap.size w5 W->aI W W.heap.size 2 aW v (aa f (md:Int)++ [⟨(ma:Int),false⟩])->cB (aa f (mb:Int)=aa f (md:Int)++ [⟨(ma:Int),false⟩])=V->Calls Tryz.prog 31 #[.slice Agb (aa f (mb:Int)).length cgb,v] W fun e w'=>e= .returned (.bool V)/\∃n,w'=W.drewN n):=fun W v V hW hv hV=>by
  have q:=HBW.o _ (b5.trans (hW.mono hs5))
  have:=da _ _ _ _ _ W (⟨Agb,cgb,rfl,lgb,mgb,(HSG.o W q).2.2.1.more q.size⟩:aI W W.heap.size 2 aW (.slice Agb (aa f (mb:Int)).length cgb) (aa f (mb:Int))) hv
  rw[hV] at this
  exact this
 have HGC:Hid (∀W v (V:Bool),Below w5.heap.size w5 W->aI W W.heap.size 2 aW v (aa f (md:Int)++ [⟨(ma:Int),true⟩])->cB (aa f (mc:Int)=aa f (md:Int)++ [⟨(ma:Int),true⟩])=V->Calls Tryz.prog 31 #[.slice Agc (aa f (mc:Int)).length cgc,v] W fun e w'=>e= .returned (.bool V)/\∃n,w'=W.drewN n):=fun W v V hW hv hV=>by
  have q:=HBW.o _ (b5.trans (hW.mono hs5))
  have:=da _ _ _ _ _ W (⟨Agc,cgc,rfl,lgc,mgc,(HSG.o W q).2.2.2.more q.size⟩:aI W W.heap.size 2 aW (.slice Agc (aa f (mc:Int)).length cgc) (aa f (mc:Int))) hv
  rw[hV] at this
  exact this
 have HS:Hid (∀W,Below w5.heap.size w5 W->W.cell? ⟨g6,0,none⟩=some (.int .i64 (ag f (md:Int)))/\W.cell? ⟨g6,1,none⟩=some (.slice Agd (aa f (md:Int)).length cgd)/\W.cell? ⟨g6+1,0,none⟩=some (.int .i64 (ag f (ma:Int)))/\W.cell? ⟨g6+1+1,0,none⟩=some (.int .i64 (ag f (mb:Int)))/\W.cell? ⟨g6+1+1,1,none⟩=some (.slice Agb (aa f (mb:Int)).length cgb)/\W.cell? ⟨g6+1+1+1,0,none⟩=some (.int .i64 (ag f (mc:Int)))/\W.cell? ⟨g6+1+1+1,1,none⟩=some (.slice Agc (aa f (mc:Int)).length cgc)/\W.cell? ⟨w.heap.size+1,2,none⟩=some (.int .i64 (ma:Int))):=fun W hW=>by
  obtain ⟨⟨d0,d1⟩,⟨a0,a1⟩,⟨e0,e1⟩,q0,q1⟩:=HR.o W hW
  exact ⟨d0,d1,a0,e0,e1,q0,q1,(HCX.o W (b5.trans (hW.mono hs5))).2.2.2.1⟩
 all_goals(apply_rules(newGoals:= .nonDependentOnly)(maxDepth:=1)only[zE];constructor)):p:=h
theorem zq59(h:p:=by
 go_enter Tryz.func40,Tryz.ntmps40
 go_upto_region 1 with (fail)
 all_goals(apply_rules(newGoals:= .nonDependentOnly)(maxDepth:=1)only[zE];constructor)):p:=h
theorem zq124(h:p:=by
 have hs1:=b1.size
 generalize hbx:W.heap.size=bx at*
 have HK:Hid (∀q' W',aB D q w1 q' W'->W'.cell? ⟨bx,0,none⟩=some (.int .i64 e.op)/\W'.cell? ⟨bx,1,none⟩=some (.string e.name)/\W'.cell? ⟨bx,2,none⟩=some (.int .i64 e.n)/\W'.cell? ⟨bx,3,none⟩=some (.slice A e.args.length cap)/\W'.cell? ⟨bx,4,none⟩=some (.int .i64 e.line)/\W'.cell? ⟨bx,5,none⟩=some (.int .i64 e.col)):=fun q' W' m=>(HBX.o q' W' m).1.six'
 all_goals(apply_rules(newGoals:= .nonDependentOnly)(maxDepth:=1)only[zE];constructor)):p:=h
theorem zq6(h:p:=by
 have hw1:Hid (∀(n1:Nat) (sa:Mk),True):=fun _ _=>trivial
 clear hw1 hi0 hm0 P0 hgl hcl hm hdl s2 own2 hcd hcd1 hb2 hy2 m2 l2
 generalize ah x c.dropLast s=p at*
 obtain ⟨p1,sa⟩:=p
 dsimp only at*
 obtain ⟨n1,rfl⟩:=Int.eq_ofNat_of_zero_le Sa.lo
 have hna:(n1:Int)<sa.wires.length:=Sa.hi
 have hnb:n1<sa.wires.length:=by omega
 have hsa:sa.acts.length<=1000000000:=by omega
 subst hv
 clear h h1 hs hop hc hp hP hpl hp1 hp2 hc1 hlen Sa
 refine' zq59
 generalize (W.alloc (.cells (bi e A cap) 75))=w1 at*
 refine' zq124
 obtain ⟨c0,c1,c2',c3,c4,c5⟩:=rX.six'
 go_upto_region 23 with (fail)
 clear d0 d1 d2 d3 d4 d5 d6 d7
 go_cut[14] (fun v14 W=>v14= .int .i64 (n1:Int)/\∃q5,aF K w0 D vi vo W q5 sa/\aB D q w1 q5 W)
 case first=>as_aux_lemma=>
  refine wp_region_held_drew (S:=fun W=>W.cell? ⟨bx,0,none⟩=some (.int .i64 e.op)/\W.cell? ⟨bx,1,none⟩=some (.string e.name)/\W.cell? ⟨bx,2,none⟩=some (.int .i64 e.n)/\W.cell? ⟨bx,3,none⟩=some (.slice A e.args.length cap)/\W.cell? ⟨bx,4,none⟩=some (.int .i64 e.line)/\W.cell? ⟨bx,5,none⟩=some (.int .i64 e.col)) (by kernel_rfl) ?_ (fun hHeld=>?_)
  ·(try dsimp only);(first|(with_reducible exact HK5.o _ bE)|(with_reducible exact HK.o _ _ (aB.of_below bE)))
  refine tk 0 (some 122) rfl ?_
  refine tk 1 (some 123) rfl ?_
  refine tk 2 (some 124) rfl ?_
  refine tk 3 (some 125) rfl ?_
  refine tk 4 (some 126) rfl ?_
  refine tk 5 (some 127) rfl ?_
  refine tk 6 (some 128) rfl ?_
  refine aH 7 (some 129) rfl (fun KK hKK=>?_)
  go_simp
  (go_at_call 82;(with_reducible refine Calls.mono (HC0.o _ bE) ?_);rintro r w5 ⟨rfl,q5,h5,m5⟩;(have HM5:=zH ((aB.of_below (bE:Below w1.heap.size w1 _)).trans m5));(have HK5:=zH (fun W' (hW:Below w5.heap.size w5 W')=>HK.o _ _ (HM5.o.trans (aB.of_below hW))));(have H5:=zH h5);clear h5 m5)
  (try go_wp2_with fail)
  refine hKK.out _ _ ?_ (fun hHeld=>?_)
  ·(try dsimp only);(first|(with_reducible exact HK5.o _ bE)|(with_reducible exact HK.o _ _ (aB.of_below bE)))
  clear hKK KK
  try simp only[Act.put,List.setIfInBounds_toArray,List.set_cons_zero,List.set_cons_succ]
  refine tk 8 (some 14) rfl ?_
  refine wpAnyH_done (by kernel_rfl) ?_ _
  go_wp2_with fail
  go_meet
  exact ⟨rfl,q5,H5.o.below bE,HM5.o.trans (aB.of_below bE)⟩
 case rest=>
  obtain ⟨rfl,q5,h5,m5⟩:=hcut
  obtain ⟨w5,rfl⟩:∃w5:World,w5=wc:=⟨_,rfl⟩
  obtain ⟨b1',off1,cw1,hv1,l1,m1,t0,wt⟩:=h5.wire hnb
  obtain ⟨d0,d1,d2,d3,d4,d5,d6,d7⟩:=h5.cells
  rw[hv1] at d0
  have hlw:=h5.lw
  have wn:Wf (n1:Int):=aT (by omega)
  have HW:=zH (fh h5 (sa.ty (n1:Int)) _ c wt (HCK.o _ _ m5))
  have HA:Hid (∀w2 q1,aF K w0 D vi vo w2 q1 (sa.wire (sa.ty (n1:Int)) c).2->Calls Tryz.prog 41 #[.pointer (some ⟨D,0,none⟩),fT ⟨24,(sa.wire (sa.ty (n1:Int)) c).1,n1,0,0,0⟩] w2 fun r w'=>r= .returned (.int .i64 (sa.put (sa.ty (n1:Int)) c ⟨24,0,n1,0,0,0⟩).1)/\cN K w0 D vi vo q1 w2 (sa.put (sa.ty (n1:Int)) c ⟨24,0,n1,0,0,0⟩).2 w'):=fun w2 q1 h2=>
   eY h2 ⟨24,(sa.wire (sa.ty (n1:Int)) c).1,n1,0,0,0⟩ ⟨DA,fq,wn,aV,aV,aV⟩ (by rw[(dG sa _ c).1];exact hsa)
  have HM5:=zH (HM1.o.trans m5)
  generalize sa.put (sa.ty (n1:Int)) c ⟨24,0,n1,0,0,0⟩=pp at*
  generalize (sa.wire (sa.ty (n1:Int)) c).2=s1 at*
  generalize (sa.wire (sa.ty (n1:Int)) c).1=r1 at*
  clear h5 m5 c0 c1 c2' c3 c4 c5 wt wn HK HBX HC0
  go_wp2_with fail
  (with_reducible refine HW.o.mono ?_)
  rintro r w6 ⟨rfl,q6,h6,m6⟩
  have HA1:=zH (HA.o w6 q6 h6)
  have HM:=zH (HM5.o.trans m6)
  clear h6 m6
  go_wp2_with fail
  (with_reducible refine HA1.o.mono ?_)
  rintro r w7 ⟨rfl,h7⟩
  have HN:=zH (cN.trans HM.o h7)
  clear h7
  go_wp2_with fail
  go_ret
  rw[HE.o]
  exact ⟨rfl,HN.o⟩
 all_goals(apply_rules(newGoals:= .nonDependentOnly)(maxDepth:=1)only[zE];constructor)):p:=h
theorem zq7(h:p:=by
 refine' zq124
 all_goals(apply_rules(newGoals:= .nonDependentOnly)(maxDepth:=1)only[zE];constructor)):p:=h
theorem zq196(h:p:=by
 go_wp2_with fail
 go_ret
 exact ⟨aj HF.o.symm,HBW.o _ bw4⟩
 all_goals(apply_rules(newGoals:= .nonDependentOnly)(maxDepth:=1)only[zE];constructor)):p:=h
theorem zq140(h:p:=by
 by_cases hz:(mc:Int)=0
 rotate_left 1
 ·have HF:Hid (cB (au f ⟨op,(md:Int),(ma:Int),(mb:Int),(mc:Int),k⟩)=false):=ab (fun g=>hz (g.2.2.2.2.2.2.1 (by dsimp only;rw[HU.o];decide)))
  have ez:((mc:Int) !=0)=true:=by simpa using hz
  clear hz
  refine' zq196
 have HZc:=zH hz
 have ezc:((mc:Int) !=0)=false:=by simpa using hz
 all_goals(apply_rules(newGoals:= .nonDependentOnly)(maxDepth:=1)only[zE];constructor)):p:=h
theorem zq8(h:p:=by
 by_cases hz:(mb:Int)=0
 rotate_left 1
 ·have HF:Hid (cB (au f ⟨op,(md:Int),(ma:Int),(mb:Int),(mc:Int),k⟩)=false):=ab (fun g=>hz (g.2.2.2.2.2.1 (by dsimp only;rw[HU.o];decide)))
  have ez:((mb:Int) !=0)=true:=by simpa using hz
  clear hz
  refine' zq196
 have HZb:=zH hz
 have ezb:((mb:Int) !=0)=false:=by simpa using hz
 clear hz
 refine' zq140
 all_goals(apply_rules(newGoals:= .nonDependentOnly)(maxDepth:=1)only[zE];constructor)):p:=h
theorem zq47(h:p:=by
 have SVd:aI w5 w.heap.size 2 aW (.slice Agd (aa f (md:Int)).length cgd) (aa f (md:Int)):=⟨_,_,rfl,lgd,mgd,(HSG.o w5 (HBW.o _ b5)).1⟩
 have SVa:aI w5 w.heap.size 2 aW (.slice Aga (aa f (ma:Int)).length cga) (aa f (ma:Int)):=⟨_,_,rfl,lga,mga,(HSG.o w5 (HBW.o _ b5)).2.1⟩
 have SVb:aI w5 w.heap.size 2 aW (.slice Agb (aa f (mb:Int)).length cgb) (aa f (mb:Int)):=⟨_,_,rfl,lgb,mgb,(HSG.o w5 (HBW.o _ b5)).2.2.1⟩
 have SVc:aI w5 w.heap.size 2 aW (.slice Agc (aa f (mc:Int)).length cgc) (aa f (mc:Int)):=⟨_,_,rfl,lgc,mgc,(HSG.o w5 (HBW.o _ b5)).2.2.2⟩
 all_goals(apply_rules(newGoals:= .nonDependentOnly)(maxDepth:=1)only[zE];constructor)):p:=h
theorem zq80(h:p:=by
 have HGda:=fun (V:Bool) (hV:cB (aa f (md:Int)=aa f (ma:Int))=V)=>(show Calls Tryz.prog 31 #[.slice Agd (aa f (md:Int)).length cgd,.slice Aga (aa f (ma:Int)).length cga] w5 fun e w'=>e= .returned (.bool V)/\∃n,w'=(w5).drewN n by
  have:=da _ _ _ _ _ w5 SVd SVa
  rw[hV] at this
  exact this)
 all_goals(apply_rules(newGoals:= .nonDependentOnly)(maxDepth:=1)only[zE];constructor)):p:=h
theorem zq9(h:p:=by
 refine' zq47
 refine' zq80
 all_goals(apply_rules(newGoals:= .nonDependentOnly)(maxDepth:=1)only[zE];constructor)):p:=h
theorem zq38(h:p:=by
 go_wp2_with fail
 (with_reducible refine Calls.mono HV.o ?_)
 rintro e wg ⟨rfl,n,rfl⟩
 go_wp2_with fail
 all_goals(apply_rules(newGoals:= .nonDependentOnly)(maxDepth:=1)only[zE];constructor)):p:=h
theorem zq191(h:p:=by
 clear f0 f1 f2 f3 f4 f5 c0 c1 c2 c3 c4 c5 yd0 yd1 ya0 ya1 yb0 yb1 yc0 yc1
 obtain ⟨⟨f0,f1,f2,f3,f4,f5⟩,c0,c1,c2,c3,c4,c5⟩:=HCX.o w6 b6'
 obtain ⟨⟨yd0,yd1⟩,⟨ya0,ya1⟩,⟨yb0,yb1⟩,yc0,yc1⟩:=HR.o w6 q6
 go_wp2_with fail
 go_ret
 exact ⟨aj HF.o.symm,HBW.o _ b6'⟩
 all_goals(apply_rules(newGoals:= .nonDependentOnly)(maxDepth:=1)only[zE];constructor)):p:=h
theorem zq10(h:p:=by
 refine' zq38
 (with_reducible refine Calls.mono (HV2.o n) ?_)
 rintro e wg ⟨rfl,m,rfl⟩
 go_wp2_with fail
 (with_reducible refine (HSG2.o _).mono ?_)
 rintro e w6 ⟨rfl,hb6'⟩
 have b6':Below w1.heap.size w1 w6:=(ap b5 _).trans (hb6'.mono (by first|exact hs5|simpa using hs5))
 have q6:Below w5.heap.size w5 w6:=(ap (Below.refl _ _) _).trans hb6'
 refine' zq191
 all_goals(apply_rules(newGoals:= .nonDependentOnly)(maxDepth:=1)only[zE];constructor)):p:=h
theorem zq21(h:p:=by
 (try dsimp only);(first|(with_reducible exact HS.o _ bE)|go_keep)
 all_goals(apply_rules(newGoals:= .nonDependentOnly)(maxDepth:=1)only[zE];constructor)):p:=h
theorem zq11(h:p:=by
 go_wp2_with fail
 (with_reducible refine Calls.mono HV.o ?_)
 rintro e wg ⟨rfl,n,rfl⟩
 go_upto_region 22 with (fail)
 refine wp_region_held_drew (S:=fun W=>W.cell? ⟨g6,0,none⟩=some (.int .i64 (ag f (md:Int)))/\W.cell? ⟨g6,1,none⟩=some (.slice Agd (aa f (md:Int)).length cgd)/\W.cell? ⟨g6+1,0,none⟩=some (.int .i64 (ag f (ma:Int)))/\W.cell? ⟨g6+1+1,0,none⟩=some (.int .i64 (ag f (mb:Int)))/\W.cell? ⟨g6+1+1,1,none⟩=some (.slice Agb (aa f (mb:Int)).length cgb)/\W.cell? ⟨g6+1+1+1,0,none⟩=some (.int .i64 (ag f (mc:Int)))/\W.cell? ⟨g6+1+1+1,1,none⟩=some (.slice Agc (aa f (mc:Int)).length cgc)/\W.cell? ⟨w.heap.size+1,2,none⟩=some (.int .i64 (ma:Int))) (by kernel_rfl) ?_ (fun hHeld=>?_)
 ·refine' zq21
 refine tk 0 (some 194) rfl ?_
 refine tk 1 (some 195) rfl ?_
 refine tk 2 (some 196) rfl ?_
 refine tk 3 (some 197) rfl ?_
 all_goals(apply_rules(newGoals:= .nonDependentOnly)(maxDepth:=1)only[zE];constructor)):p:=h
theorem zq79(h:p:=by
 (try dsimp only);(first|(with_reducible exact HK7.o _ bE)|(with_reducible exact HK6.o _ bE)|(with_reducible exact HK5.o _ bE)|(with_reducible exact HK.o _ _ (aB.of_below bE)))
 all_goals(apply_rules(newGoals:= .nonDependentOnly)(maxDepth:=1)only[zE];constructor)):p:=h
theorem zq12(h:p:=by
 go_simp
 first|(go_at_call 82;(with_reducible refine Calls.mono (HC0.o _ bE) ?_);rintro r w5 ⟨rfl,q5,h5,m5⟩;(have HM5:=zH ((aB.of_below (bE:Below w1.heap.size w1 _)).trans m5));(have HK5:=zH (fun W' (hW:Below w5.heap.size w5 W')=>HK.o _ _ (HM5.o.trans (aB.of_below hW))));(have HD6:=zH (fun W' (hW:Below w5.heap.size w5 W')=>HC1.o W' q5 (HM5.o.trans (aB.of_below hW)) (h5.below hW)));clear h5 m5)|(go_at_call 82;(with_reducible refine Calls.mono (HD6.o _ bE) ?_);rintro r w6 ⟨rfl,q6,h6,m6⟩;(have HM6:=zH (HM5.o.trans ((aB.of_below (bE:Below w5.heap.size w5 _)).trans m6)));(have HK6:=zH (fun W' (hW:Below w6.heap.size w6 W')=>HK.o _ _ (HM6.o.trans (aB.of_below hW))));(have H6:=zH h6);clear h6 m6)
 (try go_wp2_with fail)
 refine hKK.out _ _ ?_ (fun hHeld=>?_)
 ·refine' zq79
 refine' zq4
 all_goals(apply_rules(newGoals:= .nonDependentOnly)(maxDepth:=1)only[zE];constructor)):p:=h
theorem zq13(h:p:=by
 (try go_wp2_with fail)
 refine hKK.out _ _ ?_ (fun hHeld=>?_)
 ·refine' zq21
 refine' zq4
 all_goals(apply_rules(newGoals:= .nonDependentOnly)(maxDepth:=1)only[zE];constructor)):p:=h
theorem zq14(h:p:=by
 go_simp
 first|(go_at_call 82;(with_reducible refine Calls.mono (HC0.o _ bE) ?_);rintro r w5 ⟨rfl,q5,h5,m5⟩;(have HM5:=zH ((aB.of_below (bE:Below w1.heap.size w1 _)).trans m5));(have HK5:=zH (fun W' (hW:Below w5.heap.size w5 W')=>HK.o _ _ (HM5.o.trans (aB.of_below hW))));(have HD6:=zH (fun W' (hW:Below w5.heap.size w5 W')=>HC1.o W' q5 (HM5.o.trans (aB.of_below hW)) (h5.below hW)));clear h5 m5)|(go_at_call 82;(with_reducible refine Calls.mono (HD6.o _ bE) ?_);rintro r w6 ⟨rfl,q6,h6,m6⟩;(have HM6:=zH (HM5.o.trans ((aB.of_below (bE:Below w5.heap.size w5 _)).trans m6)));(have HK6:=zH (fun W' (hW:Below w6.heap.size w6 W')=>HK.o _ _ (HM6.o.trans (aB.of_below hW))));(have HD7:=zH (fun W' (hW:Below w6.heap.size w6 W')=>HC2.o W' q6 (HM6.o.trans (aB.of_below hW)) (h6.below hW)));clear h6 m6)|(go_at_call 82;(with_reducible refine Calls.mono (HD7.o _ bE) ?_);rintro r w7 ⟨rfl,q7,h7,m7⟩;(have HM7:=zH (HM6.o.trans ((aB.of_below (bE:Below w6.heap.size w6 _)).trans m7)));(have HK7:=zH (fun W' (hW:Below w7.heap.size w7 W')=>HK.o _ _ (HM7.o.trans (aB.of_below hW))));(have H7:=zH h7);clear h7 m7)
 (try go_wp2_with fail)
 refine hKK.out _ _ ?_ (fun hHeld=>?_)
 ·refine' zq79
 refine' zq4
 all_goals(apply_rules(newGoals:= .nonDependentOnly)(maxDepth:=1)only[zE];constructor)):p:=h
theorem zq83(h:p:=by
 have b1:Below W.heap.size W (W.alloc (.cells (bi e A cap) 75)):=bE
 have rX:=ai.new W (bi e A cap) 75
 have h1:=h.below b1
 all_goals(apply_rules(newGoals:= .nonDependentOnly)(maxDepth:=1)only[zE];constructor)):p:=h
theorem zq213(h:p:=by
 have hsz:=ku e
 rw[ha] at hsz
 simp at hsz
 have hi0:e.args[0]? =some x:=by rw[ha];rfl
 have hm0:x∈e.args:=List.mem_of_getElem? hi0
 all_goals(apply_rules(newGoals:= .nonDependentOnly)(maxDepth:=1)only[zE];constructor)):p:=h
theorem zq233(h:p:=by
 obtain ⟨hp1,hp2⟩:=bq.1 hpl
 have hfew:=hp.few
 have hwl:=hp.wl
 all_goals(apply_rules(newGoals:= .nonDependentOnly)(maxDepth:=1)only[zE];constructor)):p:=h
theorem zq95(h:p:=by
 refine' zq233
 obtain ⟨x,ha⟩:=br hp1 (by omega)
 refine' zq213
 have hlen:e.args.length=1:=by rw[ha];rfl
 clear ha
 all_goals(apply_rules(newGoals:= .nonDependentOnly)(maxDepth:=1)only[zE];constructor)):p:=h
theorem zq122(h:p:=by
 obtain ⟨d0,d1,d2,d3,d4,d5,d6,d7⟩:=h1.cells
 rw[hs] at d7
 all_goals(apply_rules(newGoals:= .nonDependentOnly)(maxDepth:=1)only[zE];constructor)):p:=h
theorem zq155(h:p:=by
 have HBX:=zH (wm h b1 rX)
 have HM1:Hid (aB D q W q (W.alloc (.cells (bi e A cap) 75))):=aB.of_below b1
 all_goals(apply_rules(newGoals:= .nonDependentOnly)(maxDepth:=1)only[zE];constructor)):p:=h
theorem zq278(h:p:=by
 have HCK:=zH (fun q' W' (m:aB D q (W.alloc (.cells (bi e A cap) 75)) q' W')=>hc1.fr m)
 all_goals(apply_rules(newGoals:= .nonDependentOnly)(maxDepth:=1)only[zE];constructor)):p:=h
theorem zq57(h:p:=by
 refine' zq278
 have o3:(e.op==3)=false:=by rw[hop];rfl
 have o1:(e.op==1)=false:=by rw[hop];rfl
 have o2:(e.op==2)=false:=by rw[hop];rfl
 all_goals(apply_rules(newGoals:= .nonDependentOnly)(maxDepth:=1)only[zE];constructor)):p:=h
theorem zq211(h:p:=by
 refine' zq57
 have o21:(e.op==21)=false:=by rw[hop];rfl
 have o22:(e.op==22)=false:=by rw[hop];rfl
 have o23:(e.op==23)=false:=by rw[hop];rfl
 all_goals(apply_rules(newGoals:= .nonDependentOnly)(maxDepth:=1)only[zE];constructor)):p:=h
theorem zq15(h:p:=by
 refine' zq95
 have P0:fy f K x c.dropLast s:=by have:=gu hp (by omega) hi0 hp.gs (Nat.le_refl _) (by omega);rwa [show aA e c 0=c.dropLast by unfold aA;rw[if_pos (by omega)]] at this
 have Sa:=fB (f:=f) x (hp2 x hm0) c.dropLast s hp.gs hp.wl
 have sa1:=Sa.few
 have sa2:=Sa.up
 have HE:Hid (ah e c s=(ah x c.dropLast s).2.put ((ah x c.dropLast s).2.ty (ah x c.dropLast s).1) c ⟨24,0,(ah x c.dropLast s).1,0,0,0⟩):=by
  show _=_
  rw[cQ,eh]
  dsimp only
  rw[if_neg (by rw[hs];decide),if_neg (by omega),if_neg (by omega),if_neg (by omega),if_neg (by omega),if_neg (by omega),if_neg (by omega),if_pos (by omega),ar hi0]
 have hgl:=((bL (f:=f) (c:=c) (show e.op≠3 by omega)).1 hp.goes).1 (by omega)
 obtain ⟨A2,c2,hv,l2,m2,s2,own2⟩:=hc
 have hcl:c.length≠0:=fun g=>by rw[List.eq_nil_of_length_eq_zero g] at hgl;cases hgl
 obtain ⟨m,hm⟩:∃m,c.length=m+1:=⟨c.length-1,by omega⟩
 obtain ⟨b2,o2,y2,hA2,hb2,hy2,_,_,_⟩:=s2.gd (show m<c.length by omega)
 subst hA2
 have hdl:c.dropLast.length=m:=by rw[List.length_dropLast,hm];rfl
 have hc:cF D q W v c:=⟨_,c2,hv,l2,m2,s2,own2⟩
 have hcd:cF D q W (.slice (some ⟨b2,o2,none⟩) m c2) c.dropLast:=⟨_,c2,by rw[hdl],by omega,m2,by rw[List.dropLast_eq_take];exact s2.take _,fun _=>own2 (by omega)⟩
 have m2':c2<=9223372036854775807:=by unfold maxLen at m2;omega
 have k1:(c.length:Int)-1=(m:Int):=by omega
 have k3:m<=c2:=by omega
 have k4:(m:Int)<=(c2:Int):=by omega
 have k5:(m:Int)<=(c.length:Int):=by omega
 have k6:(0:Int)<=(m:Int):=by omega
 have kw:IntKind.i64.wrap (m:Int)=(m:Int):=IntWalk.i64_in _ (by omega)
 have k7:decide ((m:Int)<0)=false:=by simp
 refine' zq83
 have hc1:=hc.fr (aB.of_below (q:=q) (D:=D) b1)
 refine' zq155
 refine' zq122
 have hcd1:=hcd.fr (aB.of_below (q:=q) (D:=D) b1)
 have HC0:=zH (fun W' (hW:Below (W.alloc (.cells (bi e A cap) 75)).heap.size (W.alloc (.cells (bi e A cap) 75)) W')=>hP 0 0 x rfl hi0 W' q s _ c.dropLast (h1.below hW) (hcd1.fr (aB.of_below hW)) P0)
 refine' zq211
 have o27:(e.op==27)=false:=by rw[hop];rfl
 all_goals(apply_rules(newGoals:= .nonDependentOnly)(maxDepth:=1)only[zE];constructor)):p:=h
theorem zq258(h:p:=by
 refine tk 0 (some 45) rfl ?_
 refine tk 1 (some 46) rfl ?_
 refine tk 2 (some 47) rfl ?_
 refine tk 3 (some 48) rfl ?_
 all_goals(apply_rules(newGoals:= .nonDependentOnly)(maxDepth:=1)only[zE];constructor)):p:=h
theorem zq151(h:p:=by
 refine' zq258
 refine tk 4 (some 49) rfl ?_
 refine tk 5 (some 50) rfl ?_
 refine tk 6 (some 51) rfl ?_
 refine tk 7 (some 52) rfl ?_
 refine tk 8 (some 53) rfl ?_
 refine tk 9 (some 54) rfl ?_
 refine tk 10 (some 55) rfl ?_
 refine tk 11 (some 56) rfl ?_
 refine tk 12 (some 57) rfl ?_
 all_goals(apply_rules(newGoals:= .nonDependentOnly)(maxDepth:=1)only[zE];constructor)):p:=h
theorem zq39(h:p:=by
 refine' zq151
 refine tk 13 (some 58) rfl ?_
 refine tk 14 (some 59) rfl ?_
 refine tk 15 (some 60) rfl ?_
 refine tk 16 (some 61) rfl ?_
 refine tk 17 (some 62) rfl ?_
 refine tk 18 (some 63) rfl ?_
 refine tk 19 (some 64) rfl ?_
 refine tk 20 (some 65) rfl ?_
 refine tk 21 (some 66) rfl ?_
 refine tk 22 (some 67) rfl ?_
 refine tk 23 (some 68) rfl ?_
 refine tk 24 (some 69) rfl ?_
 refine tk 25 (some 70) rfl ?_
 all_goals(apply_rules(newGoals:= .nonDependentOnly)(maxDepth:=1)only[zE];constructor)):p:=h
theorem zq87(h:p:=by
 (try dsimp only);(first|(with_reducible exact HS5.o _ bE)|go_keep)
 all_goals(apply_rules(newGoals:= .nonDependentOnly)(maxDepth:=1)only[zE];constructor)):p:=h
theorem zq262(h:p:=by
 refine hKK.out _ _ ?_ (fun hHeld=>?_)
 ·refine' zq87
 refine' zq4
 all_goals(apply_rules(newGoals:= .nonDependentOnly)(maxDepth:=1)only[zE];constructor)):p:=h
theorem zq280(h:p:=by
 refine aH 30 (some 75) rfl (fun KK hKK=>?_)
 go_simp
 go_at_call 58;refine Calls.mono (HI.o w4.drew _ bE hV.out) ?_;rintro e w5 ⟨rfl,rfl⟩
 (try go_wp2_with fail)
 all_goals(apply_rules(newGoals:= .nonDependentOnly)(maxDepth:=1)only[zE];constructor)):p:=h
theorem zq16(h:p:=by
 clear h5
 refine wp_region_held_drew (S:=fun W=>W.cell? ⟨L,0,none⟩=some (.slice (some ⟨b2,off2,none⟩) f.wires.length cw)/\W.cell? ⟨L,2,none⟩=some (.slice (some ⟨b3,off3,none⟩) f.cells.length cc)/\W.cell? ⟨L,7,none⟩=some (.slice (some ⟨K,0,none⟩) f.cells.length f.cells.length)/\W.cell? ⟨g6,0,none⟩=some (.int .i64 ((m:Int)))/\W.cell? ⟨g6,1,none⟩=some (.int .i64 ((n:Int)))/\W.cell? ⟨K,m,none⟩=some (.int .i64 V)/\W.cell? ⟨b2,off2+n*2,none⟩=some (.int .i64 T1)/\W.cell? ⟨b3,off3+m*2,none⟩=some (.int .i64 T2)) (by kernel_rfl) ?_ (fun hHeld=>?_)
 ·refine' zq87
 refine' zq39
 refine tk 26 (some 71) rfl ?_
 refine tk 27 (some 72) rfl ?_
 refine tk 28 (some 73) rfl ?_
 refine aH 29 (some 74) rfl (fun KK hKK=>?_)
 go_simp
 refine' zq262
 refine' zq280
 refine' zq262
 refine tk 31 (some 76) rfl ?_
 refine tk 32 (some 77) rfl ?_
 refine tk 33 (some 78) rfl ?_
 refine tk 34 (some 79) rfl ?_
 refine tk 35 (some 80) rfl ?_
 refine tk 36 (some 81) rfl ?_
 refine tk 37 (some 82) rfl ?_
 refine tk 38 (some 83) rfl ?_
 refine tk 39 (some 84) rfl ?_
 refine tk 40 (some 85) rfl ?_
 refine tk 41 (some 86) rfl ?_
 refine tk 42 (some 87) rfl ?_
 refine tk 43 (some 88) rfl ?_
 refine tk 44 (some 89) rfl ?_
 refine tk 45 (some 90) rfl ?_
 refine tk 46 (some 91) rfl ?_
 refine tk 47 (some 92) rfl ?_
 refine tk 48 (some 93) rfl ?_
 refine tk 49 (some 94) rfl ?_
 refine tk 50 (some 95) rfl ?_
 refine tk 51 (some 96) rfl ?_
 refine tk 52 (some 97) rfl ?_
 refine tk 53 (some 98) rfl ?_
 refine tk 54 (some 99) rfl ?_
 refine tk 55 (some 100) rfl ?_
 refine wpAnyH_done (by kernel_rfl) ?_ _
 all_goals(apply_rules(newGoals:= .nonDependentOnly)(maxDepth:=1)only[zE];constructor)):p:=h
theorem zq17(h:p:=by
 first|(rw[if_pos (by kernel_rfl)];refine iX (.tmp 33) (.tmp 35) 26 rfl w3.heap.size 3 i2 (.int .i64 0) 1 8 Tryz.underlying26 hi2 hx0 hx1 hx2 rfl (by decide) (.slice none 0 0) 0 [] rfl (World.ownsRow_nil _ _ _ _) Ai f.ins ci rfl (HSI.o _ (Below.mono (bE:Below w5.heap.size w5 _) hs35)).1 (fun x cs g=>by obtain ⟨rfl,_⟩:=g;exact ⟨rfl,by intro u hu;simp at hu;subst hu;rfl⟩) (by unfold maxLen;omega) (by omega) (by first|omega|(simp;omega)) ?_;intro v21 w21 css21 ho21 ha21 hb21 hg21;(have hB21:Below w3.heap.size w5 w21:=Below.trans (Below.mono (bE:Below w5.heap.size w5 _) hs35) hb21);(have rD21:=(rD5.below (bE:Below w5.heap.size w5 _) hD5l).grownE hg21 (by intro e;cases e));(have HS21:=zH (And.intro (HKF.o _ hB21) (And.intro ((rD21.cell 4).trans (show _=some (Value.slice none 0 0) from rfl)) ((rD21.cell 5).trans (show _=some (Value.slice none 0 0) from rfl)))));(have q214:=(rD21.cell 4).trans (show _=some (Value.slice none 0 0) from rfl));(have q215:=(rD21.cell 5).trans (show _=some (Value.slice none 0 0) from rfl));(have l21:=rD21.lt);(obtain ⟨he21,hw21⟩:=qn ha21);(rw[he21] at ho21);(simp only[Nat.zero_add,List.nil_append] at ho21);(have HO21:=zH ho21);(have HW21:=zH hw21);(have HG21:=zH hg21);(obtain ⟨A21,c21,hv21',_⟩:=bH ho21);subst hv21';clear ho21 ha21 hb21 he21 hw21 hg21)|(rw[if_pos (by kernel_rfl)];refine iX (.tmp 41) (.tmp 43) 26 rfl w3.heap.size 3 i2 (.int .i64 0) 1 8 Tryz.underlying26 hi2 hx0 hx1 hx2 rfl (by decide) (.slice none 0 0) 0 [] rfl (World.ownsRow_nil _ _ _ _) Ao f.outs co rfl (HSI.o _ hB21).2 (fun x cs g=>by obtain ⟨rfl,_⟩:=g;exact ⟨rfl,by intro u hu;simp at hu;subst hu;rfl⟩) (by unfold maxLen;omega) (by omega) (by have:=hB21.size;omega) ?_;intro v22 w22 css22 ho22 ha22 hb22 hg22;(have hB22:Below w3.heap.size w5 w22:=Below.trans hB21 hb22);(have rD22:=rD21.grownE hg22 (by intro e;cases e));(have z22:=rD22.frozen);(have z4:=z22 4);(have z5:=z22 5);(have HS22:=zH (And.intro (HKF.o _ hB22) (And.intro ((rD22.cell 4).trans (show _=some (Value.slice none 0 0) from rfl)) ((rD22.cell 5).trans (show _=some (Value.slice none 0 0) from rfl)))));(have q224:=(rD22.cell 4).trans (show _=some (Value.slice none 0 0) from rfl));(have q225:=(rD22.cell 5).trans (show _=some (Value.slice none 0 0) from rfl));(have l22:=rD22.lt);(obtain ⟨he22,hw22⟩:=qn ha22);(rw[he22] at ho22);(simp only[Nat.zero_add,List.nil_append] at ho22);(have HO22:=zH ho22);(have HW22:=zH hw22);(have HG22:=zH hg22);(obtain ⟨A22,c22,hv22',_⟩:=bH ho22);subst hv22';clear ho22 ha22 hb22 he22 hw22 hg22)
 refine hKK.out _ _ ?_ (fun hHeld=>?_)
 ·(try dsimp only);(first|exact HS22.o|exact HS21.o)
 refine' zq4
 all_goals(apply_rules(newGoals:= .nonDependentOnly)(maxDepth:=1)only[zE];constructor)):p:=h
theorem zq306(h:p:=by
 (try dsimp only);(first|(with_reducible exact HSY.o _ bE)|go_keep)
 all_goals(apply_rules(newGoals:= .nonDependentOnly)(maxDepth:=1)only[zE];constructor)):p:=h
theorem zq69(h:p:=by
 refine wp_region_held_drew (S:=fun W=>W.cell? ⟨L,0,none⟩=some (.slice (some ⟨b,off,none⟩) f.wires.length cw)/\W.cell? ⟨w2.heap.size,0,none⟩=some (.int .i64 (n:Int))/\W.cell? ⟨wo.heap.size,1,none⟩=some (.slice (some ⟨bg,og,none⟩) x.clock.length cg)/\W.cell? ⟨b,off+n*2,none⟩=some (.int .i64 y.ty)/\W.cell? ⟨b,off+n*2+1,none⟩=some (.slice Ay y.clock.length cy)) (by kernel_rfl) ?_ (fun hHeld=>?_)
 ·refine' zq306
 refine tk 0 (some 29) rfl ?_
 refine tk 1 (some 30) rfl ?_
 refine tk 2 (some 31) rfl ?_
 refine aH 3 (some 32) rfl (fun KK hKK=>?_)
 go_simp
 refine hKK.out _ _ ?_ (fun hHeld=>?_)
 ·refine' zq306
 refine' zq4
 refine aH 4 (some 33) rfl (fun KK hKK=>?_)
 go_simp
 all_goals(apply_rules(newGoals:= .nonDependentOnly)(maxDepth:=1)only[zE];constructor)):p:=h
theorem zq85(h:p:=by
 (try go_wp2_with fail)
 refine hKK.out _ _ ?_ (fun hHeld=>?_)
 ·refine' zq306
 refine' zq4
 all_goals(apply_rules(newGoals:= .nonDependentOnly)(maxDepth:=1)only[zE];constructor)):p:=h
theorem zq142(h:p:=by
 refine' zq85
 refine tk 5 (some 34) rfl ?_
 refine tk 6 (some 35) rfl ?_
 refine tk 7 (some 36) rfl ?_
 refine tk 8 (some 37) rfl ?_
 refine tk 9 (some 38) rfl ?_
 refine tk 10 (some 39) rfl ?_
 refine tk 11 (some 40) rfl ?_
 refine tk 12 (some 41) rfl ?_
 refine tk 13 (some 42) rfl ?_
 refine tk 14 (some 43) rfl ?_
 refine tk 15 (some 44) rfl ?_
 refine tk 16 (some 45) rfl ?_
 refine tk 17 (some 46) rfl ?_
 all_goals(apply_rules(newGoals:= .nonDependentOnly)(maxDepth:=1)only[zE];constructor)):p:=h
theorem zq192(h:p:=by
 first|(go_at_call 58;refine Calls.mono (HI.o w3.drew _ bE hV.out) ?_;rintro e w5 ⟨rfl,rfl⟩)|(go_at_call 59;refine Calls.mono (HE.o _ _ ?hbb hV2.out) ?_;(case hbb=>exact bE);rintro e w6 ⟨rfl,q,rfl⟩)
 all_goals(apply_rules(newGoals:= .nonDependentOnly)(maxDepth:=1)only[zE];constructor)):p:=h
theorem zq18(h:p:=by
 clear hc
 refine' zq69
 refine' zq192
 refine' zq142
 refine tk 18 (some 47) rfl ?_
 refine tk 19 (some 48) rfl ?_
 refine tk 20 (some 49) rfl ?_
 refine tk 21 (some 50) rfl ?_
 refine tk 22 (some 51) rfl ?_
 refine tk 23 (some 52) rfl ?_
 refine tk 24 (some 53) rfl ?_
 refine tk 25 (some 54) rfl ?_
 refine tk 26 (some 55) rfl ?_
 refine tk 27 (some 56) rfl ?_
 refine tk 28 (some 57) rfl ?_
 refine tk 29 (some 58) rfl ?_
 refine tk 30 (some 59) rfl ?_
 refine tk 31 (some 60) rfl ?_
 refine tk 32 (some 61) rfl ?_
 refine tk 33 (some 62) rfl ?_
 refine aH 34 (some 63) rfl (fun KK hKK=>?_)
 go_simp
 refine' zq192
 refine' zq85
 refine tk 35 (some 64) rfl ?_
 refine tk 36 (some 65) rfl ?_
 refine wpAnyH_done (by kernel_rfl) ?_ _
 go_wp2_with fail
 all_goals(apply_rules(newGoals:= .nonDependentOnly)(maxDepth:=1)only[zE];constructor)):p:=h
theorem zq19(h:p:=by
 refine wp_region_held_drew (S:=fun W=>W.cell? ⟨wr.heap.size,0,none⟩=some (.int .i64 x.op)/\W.cell? ⟨wr.heap.size,1,none⟩=some (.string x.name)/\W.cell? ⟨wr.heap.size,2,none⟩=some (.int .i64 x.n)/\W.cell? ⟨wr.heap.size,3,none⟩=some (.slice A' x.args.length cap')/\W.cell? ⟨wr.heap.size,4,none⟩=some (.int .i64 x.line)/\W.cell? ⟨wr.heap.size,5,none⟩=some (.int .i64 x.col)) (by kernel_rfl) ?_ (fun hHeld=>?_)
 ·(try dsimp only);(first|(with_reducible exact HX.o _ bE))
 refine tk 0 (some 20) rfl ?_
 refine tk 1 (some 21) rfl ?_
 refine tk 2 (some 22) rfl ?_
 refine tk 3 (some 23) rfl ?_
 refine tk 4 (some 24) rfl ?_
 refine tk 5 (some 25) rfl ?_
 refine tk 6 (some 26) rfl ?_
 refine tk 7 (some 27) rfl ?_
 refine tk 8 (some 28) rfl ?_
 refine tk 9 (some 29) rfl ?_
 refine tk 10 (some 30) rfl ?_
 refine tk 12 (some 32) rfl ?_
 refine tk 13 (some 33) rfl ?_
 refine tk 14 (some 34) rfl ?_
 refine aH 11 (some 31) rfl (fun KK hKK=>?_)
 go_simp
 go_at_call 87;refine Calls.mono (HPT.o _) ?_;rintro e w8 ⟨rfl,hb8⟩;(have hb9:Below wx.heap.size wx w8:=Below.trans bE (hb8.mono lE))
 (try go_wp2_with fail)
 refine hKK.out _ _ ?_ (fun hHeld=>?_)
 ·(try dsimp only);(first|(with_reducible exact HX.o _ bE))
 refine' zq4
 refine tk 15 (some 35) rfl ?_
 refine tk 16 (some 36) rfl ?_
 refine tk 17 (some 37) rfl ?_
 all_goals(apply_rules(newGoals:= .nonDependentOnly)(maxDepth:=1)only[zE];constructor)):p:=h
theorem zq32(h:p:=by
 have HF:Hid (cB (au f ⟨op,(md:Int),(ma:Int),(mb:Int),(mc:Int),k⟩)=false):=ab (fun g=>hz (g.2.2.2.2.2.2.2.1 (by dsimp only;rw[HU.o];decide)))
 have ez:(k !=0)=true:=by simpa using hz
 clear hz
 refine' zq196
 all_goals(apply_rules(newGoals:= .nonDependentOnly)(maxDepth:=1)only[zE];constructor)):p:=h
theorem zq20(h:p:=by
 by_cases hz:k=0
 rotate_left 1
 ·refine' zq32
 have HZk:=zH hz
 have ezk:(k !=0)=false:=by simpa using hz
 refine' zq1
 all_goals(apply_rules(newGoals:= .nonDependentOnly)(maxDepth:=1)only[zE];constructor)):p:=h
theorem zq22(h:p:=by
 refine tk 32 (some 77) rfl ?_
 refine tk 33 (some 78) rfl ?_
 refine sk 34 (some 79) rfl ?_
 refine sk 35 (some 80) rfl ?_
 refine sk 36 (some 81) rfl ?_
 refine sk 37 (some 82) rfl ?_
 refine sk 38 (some 83) rfl ?_
 refine sk 39 (some 84) rfl ?_
 refine sk 40 (some 85) rfl ?_
 refine sk 41 (some 86) rfl ?_
 refine sk 42 (some 87) rfl ?_
 refine sk 43 (some 88) rfl ?_
 refine sk 44 (some 89) rfl ?_
 refine sk 45 (some 90) rfl ?_
 refine sk 46 (some 91) rfl ?_
 refine sk 47 (some 92) rfl ?_
 refine sk 48 (some 93) rfl ?_
 refine sk 49 (some 94) rfl ?_
 refine sk 50 (some 95) rfl ?_
 refine sk 51 (some 96) rfl ?_
 refine sk 52 (some 97) rfl ?_
 refine sk 53 (some 98) rfl ?_
 refine sk 54 (some 99) rfl ?_
 refine tk 55 (some 100) rfl ?_
 refine wpAnyH_done (by kernel_rfl) ?_ _
 go_wp2_with fail
 go_ret
 exact ip.no rfl HF.o (HNn.o _ bE).1 (HNn.o _ bE).2
 all_goals(apply_rules(newGoals:= .nonDependentOnly)(maxDepth:=1)only[zE];constructor)):p:=h
theorem zq23(h:p:=by
 refine' zq83
 have hc1:=hc.fr (aB.of_below (q:=q) (D:=D) b1)
 refine' zq155
 all_goals(apply_rules(newGoals:= .nonDependentOnly)(maxDepth:=1)only[zE];constructor)):p:=h
theorem zq202(h:p:=by
 (try go_wp2_with fail)
 refine hKK.out _ _ ?_ (fun hHeld=>?_)
 ·(try dsimp only);(first|(with_reducible exact HS6.o _ bE)|go_keep)
 refine' zq4
 all_goals(apply_rules(newGoals:= .nonDependentOnly)(maxDepth:=1)only[zE];constructor)):p:=h
theorem zq24(h:p:=by
 refine wp_region_held_drew (S:=fun W=>W.cell? ⟨w.heap.size,0,none⟩=some (.pointer (some ⟨D,0,none⟩))/\(W.cell? ⟨w.heap.size+1,1,none⟩=some (.int .i64 e.op)/\W.cell? ⟨w.heap.size+1,2,none⟩=some (.string e.name)/\W.cell? ⟨w.heap.size+1,3,none⟩=some (.int .i64 e.n)/\W.cell? ⟨w.heap.size+1,4,none⟩=some (.slice A e.args.length cap)/\W.cell? ⟨w.heap.size+1,5,none⟩=some (.int .i64 e.line)/\W.cell? ⟨w.heap.size+1,6,none⟩=some (.int .i64 e.col))/\W.cell? ⟨X,0,none⟩=some (.int .i64 T)/\W.cell? ⟨X,1,none⟩=some (.slice Ag C.length cg)) (by kernel_rfl) ?_ (fun hHeld=>?_)
 ·(try dsimp only);(first|(with_reducible exact HS6.o _ bE)|go_keep)
 refine tk 0 (some 26) rfl ?_
 refine tk 1 (some 27) rfl ?_
 refine aH 2 (some 28) rfl (fun KK hKK=>?_)
 go_simp
 (go_at_call 99;refine Calls.mono (HHE.o _ bE) ?_;rintro r w8 ⟨rfl,hb8⟩;(have hb9:Below w4.heap.size w4 w8:=Below.trans bE (hb8.mono lE));(have hs9:=hb9.size))
 refine' zq202
 refine tk 3 (some 29) rfl ?_
 refine tk 4 (some 30) rfl ?_
 all_goals(apply_rules(newGoals:= .nonDependentOnly)(maxDepth:=1)only[zE];constructor)):p:=h
theorem zq25(h:p:=by
 refine wp_region_held_drew (S:=fun W=>W.cell? ⟨w.heap.size,0,none⟩=some (.slice (some ⟨b6,o6,none⟩) f.wires.length cw)/\W.cell? ⟨w.heap.size,1,none⟩=some va/\W.cell? ⟨w.heap.size,2,none⟩=some (.slice (some ⟨b3,off3,none⟩) f.cells.length cc)/\W.cell? ⟨w.heap.size,3,none⟩=some vk/\W.cell? ⟨w.heap.size,4,none⟩=some vi/\W.cell? ⟨w.heap.size,5,none⟩=some vo/\W.cell? ⟨g6,0,none⟩=some (.int .i64 (ag f (md:Int)))/\W.cell? ⟨g6,1,none⟩=some (.slice Agd (aa f (md:Int)).length cgd)/\W.cell? ⟨w.heap.size+1,5,none⟩=some (.int .i64 (kk:Int))/\W.cell? ⟨b3,off3+kk*2,none⟩=some (.int .i64 T2)/\W.cell? ⟨b6,o6+mn*2+1,none⟩=some (.slice Agn (aa f (mn:Int)).length cgn)) (by kernel_rfl) ?_ (fun hHeld=>?_)
 ·refine' zq21
 refine tk 0 (some 136) rfl ?_
 refine tk 1 (some 137) rfl ?_
 refine tk 2 (some 138) rfl ?_
 refine tk 3 (some 139) rfl ?_
 refine tk 4 (some 140) rfl ?_
 refine tk 5 (some 141) rfl ?_
 refine tk 6 (some 142) rfl ?_
 refine tk 7 (some 143) rfl ?_
 refine tk 8 (some 144) rfl ?_
 refine tk 9 (some 145) rfl ?_
 refine tk 10 (some 146) rfl ?_
 all_goals(apply_rules(newGoals:= .nonDependentOnly)(maxDepth:=1)only[zE];constructor)):p:=h
theorem zq26(h:p:=by
 refine wpAnyH_done (by kernel_rfl) ?_ _
 go_wp2_with fail
 all_goals(apply_rules(newGoals:= .nonDependentOnly)(maxDepth:=1)only[zE];constructor)):p:=h
theorem zq62(h:p:=by
 have mw':cw<=9223372036854775807:=by unfold maxLen at mw;omega
 all_goals(apply_rules(newGoals:= .nonDependentOnly)(maxDepth:=1)only[zE];constructor)):p:=h
theorem zq27(h:p:=by
 obtain ⟨Aw,cw,hvw,lw,mw,_⟩:=h.wires
 refine' zq62
 subst hvw
 have HALL:=zH hall
 have HU:=zH hu
 have HOP:=zH hop
 have hd':=hd
 obtain ⟨ha,hb,hc⟩:=hall
 clear hu hop
 all_goals(apply_rules(newGoals:= .nonDependentOnly)(maxDepth:=1)only[zE];constructor)):p:=h
theorem zq279(h:p:=by
 go_enter Tryz.func73,Tryz.ntmps73
 go_upto_region 1 with (fail)
 (try rw[hw1])
 clear hw1
 refine' zq215
 rintro e w1' ⟨rfl,rfl⟩
 rw[HUE.o]
 all_goals(apply_rules(newGoals:= .nonDependentOnly)(maxDepth:=1)only[zE];constructor)):p:=h
theorem zq28(h:p:=by
 refine' zq279
 go_wp2_with (at_builtin;refine wpList_append_own _ rfl _ _ 26 rfl w1.heap.size 3 i0 (.int .i64 0) 1 8 Tryz.underlying26 hi0 hz0 hz1 hz2 rfl (by decide) _ _ _ rfl (World.ownsRow_nil _ _ _ _) ⟨w1.heap.size,0,none⟩ 1 1 [.int .i64 a] rfl rfl (cA _ _ _) (HONE.o _) (by unfold maxLen;omega) (by omega) (by first|(simp;done)|(simp;omega)) ?_)
 intro v1 w1a hown hgrow _
 have hb1a:=aY ((Below.refl w1.heap.size w1).alloc (by first|exact Nat.le_refl _|assumption) _) (World.ownsRow_nil _ _ 3 1) hgrow (by first|(simp;done)|(simp;omega))
 have HO1:Hid (w1a.ownsRow w1.heap.size 3 1 v1 1 (al [a])):=by first|exact hown|simpa[al] using hown
 have hs1a:=hb1a.size
 clear hown hgrow
 clear y0 y1 c0 c1 c2 c3 c4 c5
 obtain ⟨y0,y1,c0,c1,c2,c3,c4,c5⟩:=HD.o w1a hb1a
 all_goals(apply_rules(newGoals:= .nonDependentOnly)(maxDepth:=1)only[zE];constructor)):p:=h
theorem zq55(h:p:=by
 have hg1:=bX.lt
 go_enter Tryz.func28,Tryz.ntmps28
 go_upto_region 1 with (fail)
 all_goals(apply_rules(newGoals:= .nonDependentOnly)(maxDepth:=1)only[zE];constructor)):p:=h
theorem zq137(h:p:=by
 have bX:=ai.new w #[.int .i64 op,.int .i64 dst,.int .i64 0,.int .i64 0,.int .i64 0,.int .i64 k] 58
 have b1:Below w.heap.size w (w.alloc (.cells #[.int .i64 op,.int .i64 dst,.int .i64 0,.int .i64 0,.int .i64 0,.int .i64 k] 58)):=bE
 refine' zq55
 generalize hW1:w.alloc (.cells #[.int .i64 op,.int .i64 dst,.int .i64 0,.int .i64 0,.int .i64 0,.int .i64 k] 58)=w1 at*
 refine' zq2
 all_goals(apply_rules(newGoals:= .nonDependentOnly)(maxDepth:=1)only[zE];constructor)):p:=h
theorem zq29(h:p:=by
 refine' zq137
 have hb16:=fun n=>ap hb15 n
 (try go_wp2_with fail)
 (with_reducible refine (iL HH.o hBw hd HTd.o (hb16 _)).mono ?_)
 rintro e w6 ⟨rfl,rfl⟩
 go_wp2_with fail
 all_goals(apply_rules(newGoals:= .nonDependentOnly)(maxDepth:=1)only[zE];constructor)):p:=h
theorem zq30(h:p:=by
 have bX:=ai.new w #[.int .i64 op,.int .i64 dst,.int .i64 a,.int .i64 b,.int .i64 c,.int .i64 k] 58
 have b1:Below w.heap.size w (w.alloc (.cells #[.int .i64 op,.int .i64 dst,.int .i64 a,.int .i64 b,.int .i64 c,.int .i64 k] 58)):=bE
 refine' zq55
 generalize hW1:w.alloc (.cells #[.int .i64 op,.int .i64 dst,.int .i64 a,.int .i64 b,.int .i64 c,.int .i64 k] 58)=w1 at*
 refine' zq2
 all_goals(apply_rules(newGoals:= .nonDependentOnly)(maxDepth:=1)only[zE];constructor)):p:=h
theorem zq235(h:p:=by
 intro v' w3 hown' hgrow _
 have hb3:Below w2.heap.size w2 w3:=aY (hbel.alloc hsz2 _) (hown.alloc _) hgrow (by simp;omega)
 all_goals(apply_rules(newGoals:= .nonDependentOnly)(maxDepth:=1)only[zE];constructor)):p:=h
theorem zq31(h:p:=by
 have hsz:=hb2.size
 go_wp2_with fail
 go_loopw[4,5] (fun v i wr=>∃j q:Nat,q+j=65/\1<=q/\i= .int .i64 ((j:Int)-1)/\wr.ownsRow w2.heap.size 3 1 v q (al (0::(X.drop j).reverse))/\Below w2.heap.size w2 wr) (fun _ i _=>(intOf i+1).toNat)
 case atStart=>exact ⟨64,1,by omega,by omega,by rfl,by rw[List.drop_of_length_le (by rw[HL.o];omega)];exact World.ownsRow_lit _ _ 1 (Nat.le_refl _) (by unfold maxLen;omega) rfl,(Below.refl _ _).alloc (Nat.le_refl _) _⟩
 case round=>
  obtain ⟨j,q,hj,hq,rfl,hown,hbel⟩:=hrel
  by_cases hlt:1<=j
  ·obtain ⟨m,rfl⟩:∃m,j=m+1:=⟨j-1,by omega⟩
   obtain ⟨ad1,u1,rfl,hB1,hx1,hcell1⟩:=(hr1.below hbel).at1 (k:=m) (by omega)
   obtain ⟨x1,hl1,rfl⟩:=dX hx1
   have HS:=zH (yc hl1)
   have hsz2:=hbel.size
   clear hx1 hl1
   rw[show ((m+1:Nat):Int)-1=m from by omega]
   go_wp2_with (at_builtin;refine wpList_append_own _ rfl _ _ 26 rfl w2.heap.size 3 i0 (.int .i64 0) 1 8 Tryz.underlying26 hi0 hz0 hz1 hz2 rfl (by decide) _ _ _ rfl (hown.alloc _) ⟨wr.heap.size,0,none⟩ 1 1 [.int .i64 x1] rfl rfl ?c1 ?c2 ?c3 ?c4 ?c5 ?_)
   case c1=>exact fe _ _ _
   case c2=>simp[Value.oneCell']
   case c3=>unfold maxLen;omega
   case c4=>omega
   case c5=>simp;omega
   refine' zq235
   have ho3:w3.ownsRow w2.heap.size 3 1 v' (q+1) (al (0::(X.drop m).reverse)):=by
    rw[HS.o,bS];exact hown'
   clear hown hbel hown' hgrow
   go_wp2_with fail
   go_roundw
   case rel=>exact ⟨m,q+1,by omega,by omega,by go_num,ho3,hb3⟩
   case measure=>simp[intOf]
  ·obtain rfl:j=0:=by omega
   rw[show ((0:Nat):Int)-1= -1 from rfl]
   obtain rfl:q=65:=by omega
   have hfin:wr.ownsRow w.heap.size 3 1 u4 65 (al (gX a)):=by rw[HF.o];exact dg hown hsz
   clear hown hj hlt
   go_wp2_with fail
   go_ret
   exact ⟨_,rfl,hfin,hb2.trans (hbel.mono hsz)⟩
 all_goals(apply_rules(newGoals:= .nonDependentOnly)(maxDepth:=1)only[zE];constructor)):p:=h
theorem zq167(h:p:=by
 refine sk 19 (some 106) rfl ?_
 refine sk 20 (some 107) rfl ?_
 refine sk 21 (some 108) rfl ?_
 refine sk 22 (some 109) rfl ?_
 refine sk 23 (some 110) rfl ?_
 refine sk 24 (some 111) rfl ?_
 refine sk 25 (some 112) rfl ?_
 refine sk 26 (some 113) rfl ?_
 refine sk 27 (some 114) rfl ?_
 refine tk 28 (some 115) rfl ?_
 refine tk 29 (some 4) rfl ?_
 all_goals(apply_rules(newGoals:= .nonDependentOnly)(maxDepth:=1)only[zE];constructor)):p:=h
theorem zq194(h:p:=by
 refine tk 0 (some 87) rfl ?_
 refine tk 1 (some 88) rfl ?_
 refine tk 2 (some 89) rfl ?_
 refine tk 3 (some 90) rfl ?_
 refine tk 4 (some 91) rfl ?_
 refine tk 5 (some 92) rfl ?_
 refine tk 6 (some 93) rfl ?_
 refine tk 7 (some 94) rfl ?_
 refine tk 8 (some 95) rfl ?_
 refine tk 9 (some 96) rfl ?_
 all_goals(apply_rules(newGoals:= .nonDependentOnly)(maxDepth:=1)only[zE];constructor)):p:=h
theorem zq33(h:p:=by
 refine' zq194
 refine sk 10 (some 97) rfl ?_
 refine sk 11 (some 98) rfl ?_
 refine sk 12 (some 99) rfl ?_
 refine sk 13 (some 100) rfl ?_
 refine sk 14 (some 101) rfl ?_
 refine sk 15 (some 102) rfl ?_
 refine sk 16 (some 103) rfl ?_
 refine tk 17 (some 104) rfl ?_
 refine tk 18 (some 105) rfl ?_
 refine' zq167
 all_goals(apply_rules(newGoals:= .nonDependentOnly)(maxDepth:=1)only[zE];constructor)):p:=h
theorem zq234(h:p:=by
 refine tk 0 (some 167) rfl ?_
 refine tk 1 (some 168) rfl ?_
 refine tk 2 (some 169) rfl ?_
 refine tk 3 (some 170) rfl ?_
 refine tk 4 (some 171) rfl ?_
 refine tk 5 (some 172) rfl ?_
 refine tk 6 (some 173) rfl ?_
 refine tk 7 (some 174) rfl ?_
 all_goals(apply_rules(newGoals:= .nonDependentOnly)(maxDepth:=1)only[zE];constructor)):p:=h
theorem zq34(h:p:=by
 refine wp_region_held_drew (S:=fun W=>W.cell? ⟨g6,0,none⟩=some (.int .i64 (ag f (md:Int)))/\W.cell? ⟨g6,1,none⟩=some (.slice Agd (L+1) cgd)/\W.cell? ⟨g6+1,0,none⟩=some (.int .i64 (ag f (ma:Int)))/\W.cell? ⟨g6+1,1,none⟩=some (.slice Aga (aa f (ma:Int)).length cga)) (by kernel_rfl) ?_ (fun hHeld=>?_)
 ·refine' zq21
 refine' zq234
 refine tk 8 (some 175) rfl ?_
 refine aH 9 (some 176) rfl (fun KK hKK=>?_)
 go_simp
 go_at_call 31;refine Calls.mono (HV.o _ ?hbb) ?_;(case hbb=>exact bE);rintro e w8 ⟨rfl,n8,rfl⟩
 refine' zq13
 refine tk 10 (some 177) rfl ?_
 refine tk 11 (some 178) rfl ?_
 all_goals(apply_rules(newGoals:= .nonDependentOnly)(maxDepth:=1)only[zE];constructor)):p:=h
theorem zq309(h:p:=by
 rintro e w5 ⟨rfl,hw5,hr5,hu5⟩
 have HW5:=zH hw5
 clear hw5
 go_wp2_with fail
 go_ret
 exact ⟨az HV.o,by rw[<-HV.o];exact HW5.o,hr5,HU4.o.trans hu5⟩
 all_goals(apply_rules(newGoals:= .nonDependentOnly)(maxDepth:=1)only[zE];constructor)):p:=h
theorem zq35(h:p:=by
 subst ho
 obtain ⟨hda,hwa⟩:=HWT.o xa (eW (by dsimp only;decide))
 obtain ⟨hdb,hwb⟩:=HWT.o xb (jK (by dsimp only;decide))
 obtain ⟨hdc,hwc⟩:=HWT.o xc (nV (by dsimp only;decide))
 have HW:=zH hwa
 have HWb:=zH hwb
 have HWc:=zH hwc
 have HY:Hid (aK f cs row xa≠0->aK f cs row xb=aK f cs row (m:Int)):=fun h=>(tP HOK.o cs row HX.o (by dsimp only;decide) hda h hdb).symm
 have HZ:Hid (aK f cs row xa=0->aK f cs row xc=aK f cs row (m:Int)):=fun h=>(xR HOK.o cs row HX.o (by dsimp only;decide) hda h hdc).symm
 clear hu hwa hwb hwc hda hdb hdc HWT
 go_wp2_with fail
 refine (HW.o _ _ _ HR3.o).mono ?_
 rintro e w4 ⟨rfl,hw4,⟨ds4,vs4,hr4⟩,hu4⟩
 have HR4:=zH hr4
 have HU4:=zH (HU3.o.trans hu4)
 clear c0 c1 c2 c3 c4 c5 hw4 hr4
 obtain ⟨c0,c1,c2,c3,c4,c5⟩:=HCX.o w4 hu4
 by_cases hz:aK f cs row xa=0
 ·have HV:=zH (HZ.o hz)
  have ez:(aK f cs row xa !=0)=false:=by simp[hz]
  clear hz HY HZ
  generalize aK f cs row xa=va at*
  go_wp2_with fail
  refine (HWc.o _ _ _ HR4.o).mono ?_
  refine' zq309
 ·have HV:=zH (HY.o hz)
  have ez:(aK f cs row xa !=0)=true:=by simp[hz]
  clear hz HY HZ
  generalize aK f cs row xa=va at*
  go_wp2_with fail
  refine (HWb.o _ _ _ HR4.o).mono ?_
  refine' zq309
 all_goals(apply_rules(newGoals:= .nonDependentOnly)(maxDepth:=1)only[zE];constructor)):p:=h
theorem zq181(h:p:=by
 refine sk 28 (some 222) rfl ?_
 refine sk 29 (some 223) rfl ?_
 refine sk 30 (some 224) rfl ?_
 refine sk 31 (some 225) rfl ?_
 refine sk 32 (some 226) rfl ?_
 refine sk 33 (some 227) rfl ?_
 refine sk 34 (some 228) rfl ?_
 refine sk 35 (some 229) rfl ?_
 refine tk 36 (some 230) rfl ?_
 refine tk 37 (some 4) rfl ?_
 all_goals(apply_rules(newGoals:= .nonDependentOnly)(maxDepth:=1)only[zE];constructor)):p:=h
theorem zq36(h:p:=by
 refine tk 16 (some 210) rfl ?_
 refine tk 17 (some 211) rfl ?_
 refine sk 18 (some 212) rfl ?_
 refine sk 19 (some 213) rfl ?_
 refine sk 20 (some 214) rfl ?_
 refine sk 21 (some 215) rfl ?_
 refine sk 22 (some 216) rfl ?_
 refine sk 23 (some 217) rfl ?_
 refine sk 24 (some 218) rfl ?_
 refine sk 25 (some 219) rfl ?_
 refine tk 26 (some 220) rfl ?_
 refine tk 27 (some 221) rfl ?_
 refine' zq181
 refine' zq26
 go_ret
 exact ⟨aj HF.o.symm,HBW.o _ (b5.trans ((bE:Below w5.heap.size w5 _).mono hs5))⟩
 all_goals(apply_rules(newGoals:= .nonDependentOnly)(maxDepth:=1)only[zE];constructor)):p:=h
theorem zq66(h:p:=by
 go_wp2_with fail
 go_ret
 exact ⟨aj HF.o.symm,by first|exact ⟨_,rfl⟩|(rw[World.drewN_drewN];exact ⟨_,rfl⟩)⟩
 all_goals(apply_rules(newGoals:= .nonDependentOnly)(maxDepth:=1)only[zE];constructor)):p:=h
theorem zq199(h:p:=by
 go_wp2_with fail
 go_quiet (fail)
 go_wp2_with fail
 all_goals(apply_rules(newGoals:= .nonDependentOnly)(maxDepth:=1)only[zE];constructor)):p:=h
theorem zq68(h:p:=by
 have e1':(x.wire==y.wire)=true:=by simp[e1]
 by_cases e2:x.no=y.no
 ·have e2':(x.no==y.no)=true:=by simp[e2]
  have HN':=zH (aC HN.o (fun x' y' hx' hy'=>by rw[HX.o] at hx';rw[HY.o] at hy';injection hx' with hx';injection hy' with hy';rw[<-hx',<-hy'];exact Df e1 e2))
  clear e1 e2
  refine' zq199
  go_roundw
  case rel=>exact ⟨k+1,by omega,by go_num,HN',by first|exact ⟨_,rfl⟩|(rw[World.drewN_drewN];exact ⟨_,rfl⟩)⟩
  case measure=>simp[intOf];omega
 ·have e2':(x.no==y.no)=false:=by simp[e2]
  have HF:=zH (ab (fun g:l=m=>e2 (by have:=HX.o;rw[g,HY.o] at this;injection this with this;rw[this])))
  clear e1 e2
  go_wp2_with fail
  go_quiet (fail)
  refine' zq66
 all_goals(apply_rules(newGoals:= .nonDependentOnly)(maxDepth:=1)only[zE];constructor)):p:=h
theorem zq37(h:p:=by
 obtain ⟨b1,o1,x,rfl,hb1,hx,wx,d1,d1'⟩:=s1.gd hlt
 obtain ⟨b2,o2,y,rfl,hb2,hy,wy,d2,d2'⟩:=s2.gd (show k<m.length by omega)
 have HX:=zH hx
 have HY:=zH hy
 clear hx hy
 have hk1:(k:Int)<l.length:=by omega
 have hk2:(k:Int)<m.length:=by omega
 have hk0:(0:Int)<=(k:Int):=by omega
 by_cases e1:x.wire=y.wire
 ·refine' zq68
 ·have e1':(x.wire==y.wire)=false:=by simp[e1]
  have HF:=zH (ab (fun g:l=m=>e1 (by have:=HX.o;rw[g,HY.o] at this;injection this with this;rw[this])))
  clear e1
  go_wp2_with fail
  go_quiet (fail)
  refine' zq66
 all_goals(apply_rules(newGoals:= .nonDependentOnly)(maxDepth:=1)only[zE];constructor)):p:=h
theorem zq116(h:p:=by
 refine' zq26
 go_ret
 exact ⟨aj HQ.o.symm,HFIN.o _ bE⟩
 all_goals(apply_rules(newGoals:= .nonDependentOnly)(maxDepth:=1)only[zE];constructor)):p:=h
theorem zq168(h:p:=by
 refine sk 35 (some 153) rfl ?_
 refine sk 36 (some 154) rfl ?_
 refine sk 37 (some 155) rfl ?_
 refine sk 38 (some 156) rfl ?_
 refine sk 39 (some 157) rfl ?_
 refine sk 40 (some 158) rfl ?_
 refine sk 41 (some 159) rfl ?_
 refine sk 42 (some 160) rfl ?_
 refine sk 43 (some 161) rfl ?_
 refine tk 44 (some 162) rfl ?_
 refine tk 45 (some 4) rfl ?_
 all_goals(apply_rules(newGoals:= .nonDependentOnly)(maxDepth:=1)only[zE];constructor)):p:=h
theorem zq40(h:p:=by
 refine sk 24 (some 142) rfl ?_
 refine sk 25 (some 143) rfl ?_
 refine sk 26 (some 144) rfl ?_
 refine sk 27 (some 145) rfl ?_
 refine sk 28 (some 146) rfl ?_
 refine sk 29 (some 147) rfl ?_
 refine sk 30 (some 148) rfl ?_
 refine sk 31 (some 149) rfl ?_
 refine sk 32 (some 150) rfl ?_
 refine tk 33 (some 151) rfl ?_
 refine tk 34 (some 152) rfl ?_
 refine' zq168
 refine' zq116
 all_goals(apply_rules(newGoals:= .nonDependentOnly)(maxDepth:=1)only[zE];constructor)):p:=h
theorem zq63(h:p:=by
 (try dsimp only);(first|exact HS13.o|(with_reducible exact HK.o _ bE))
 all_goals(apply_rules(newGoals:= .nonDependentOnly)(maxDepth:=1)only[zE];constructor)):p:=h
theorem zq41(h:p:=by
 refine hKK.out _ _ ?_ (fun hHeld=>?_)
 ·refine' zq63
 refine' zq4
 all_goals(apply_rules(newGoals:= .nonDependentOnly)(maxDepth:=1)only[zE];constructor)):p:=h
theorem zq42(h:p:=by
 go_simp
 (go_at_call 64;(first|(with_reducible refine (iL HN5.o hB5 hd HTd.o bE).mono ?_)|(with_reducible refine (iL HN5.o hB5 ha HTa.o bE).mono ?_)|(with_reducible refine (iL HN5.o hB5 hb HTb.o bE).mono ?_)|(with_reducible refine (iL HN5.o hB5 hc HTc.o bE).mono ?_));rintro e w8 ⟨rfl,rfl⟩)
 refine' zq13
 all_goals(apply_rules(newGoals:= .nonDependentOnly)(maxDepth:=1)only[zE];constructor)):p:=h
theorem zq187(h:p:=by
 go_simp
 (go_at_call 31;first|(refine Calls.mono (HGB.o _ _ _ ?hbb hs8 HVB.o) ?_;(case hbb=>exact bE);rintro e w9 ⟨rfl,n9,rfl⟩;clear HGB)|(refine Calls.mono (HGC.o _ _ _ ?hbb hs8 HVC.o) ?_;(case hbb=>exact bE);rintro e w9 ⟨rfl,n9,rfl⟩))
 refine' zq13
 all_goals(apply_rules(newGoals:= .nonDependentOnly)(maxDepth:=1)only[zE];constructor)):p:=h
theorem zq226(h:p:=by
 go_simp
 (go_at_call 71;refine Calls.mono (HWI.o _ _ ?hbb) ?_;(case hbb=>exact bE);rintro e w8 ⟨v8,rfl,hs8,hb8⟩;(have hb9:Below w5.heap.size w5 w8:=Below.trans bE (hb8.mono lE));(have hs9:=hb9.size))
 refine' zq13
 all_goals(apply_rules(newGoals:= .nonDependentOnly)(maxDepth:=1)only[zE];constructor)):p:=h
theorem zq128(h:p:=by
 refine' zq11
 refine tk 4 (some 198) rfl ?_
 refine tk 5 (some 199) rfl ?_
 refine tk 6 (some 200) rfl ?_
 refine tk 7 (some 201) rfl ?_
 refine tk 8 (some 202) rfl ?_
 refine tk 9 (some 203) rfl ?_
 refine tk 10 (some 204) rfl ?_
 all_goals(apply_rules(newGoals:= .nonDependentOnly)(maxDepth:=1)only[zE];constructor)):p:=h
theorem zq310(h:p:=by
 refine' zq128
 refine tk 11 (some 205) rfl ?_
 refine tk 12 (some 206) rfl ?_
 refine tk 13 (some 207) rfl ?_
 refine tk 14 (some 208) rfl ?_
 refine tk 15 (some 209) rfl ?_
 all_goals(apply_rules(newGoals:= .nonDependentOnly)(maxDepth:=1)only[zE];constructor)):p:=h
theorem zq44(h:p:=by
 refine' zq310
 refine tk 16 (some 210) rfl ?_
 refine tk 17 (some 211) rfl ?_
 refine tk 18 (some 212) rfl ?_
 refine tk 19 (some 213) rfl ?_
 refine tk 20 (some 214) rfl ?_
 refine tk 21 (some 215) rfl ?_
 refine tk 22 (some 216) rfl ?_
 refine tk 23 (some 217) rfl ?_
 refine aH 24 (some 218) rfl (fun KK hKK=>?_)
 refine' zq226
 refine aH 25 (some 219) rfl (fun KK hKK=>?_)
 refine' zq187
 refine tk 26 (some 220) rfl ?_
 refine tk 27 (some 221) rfl ?_
 all_goals(apply_rules(newGoals:= .nonDependentOnly)(maxDepth:=1)only[zE];constructor)):p:=h
theorem zq45(h:p:=by
 go_wp2_with (at_builtin;refine wpList_append_own _ rfl _ _ 26 rfl w1.heap.size 3 i0 (.int .i64 0) 1 8 Tryz.underlying26 hi0 hz0 hz1 hz2 rfl (by decide) _ _ _ rfl (hown.alloc _) ⟨wr.heap.size,0,none⟩ 1 1 [.int .i64 gw] rfl rfl (cA _ _ _) (HONE.o _) (by unfold maxLen;omega) (by omega) (by simp;omega) ?_)
 intro v' w3 hown1 hgrow _
 have HB:=zH (aY (hb.alloc hsr _) (hown.alloc _) hgrow (by simp;omega))
 all_goals(apply_rules(newGoals:= .nonDependentOnly)(maxDepth:=1)only[zE];constructor)):p:=h
theorem zq150(h:p:=by
 refine tk 0 (some 54) rfl ?_
 refine tk 1 (some 55) rfl ?_
 refine tk 2 (some 56) rfl ?_
 refine aH 3 (some 57) rfl (fun KK hKK=>?_)
 go_simp
 all_goals(apply_rules(newGoals:= .nonDependentOnly)(maxDepth:=1)only[zE];constructor)):p:=h
theorem zq174(h:p:=by
 refine tk 5 (some 59) rfl ?_
 refine tk 6 (some 60) rfl ?_
 refine tk 7 (some 61) rfl ?_
 refine tk 8 (some 62) rfl ?_
 refine tk 9 (some 63) rfl ?_
 refine tk 10 (some 64) rfl ?_
 refine tk 11 (some 65) rfl ?_
 refine tk 12 (some 66) rfl ?_
 refine tk 13 (some 67) rfl ?_
 refine tk 14 (some 68) rfl ?_
 refine tk 15 (some 69) rfl ?_
 all_goals(apply_rules(newGoals:= .nonDependentOnly)(maxDepth:=1)only[zE];constructor)):p:=h
theorem zq307(h:p:=by
 refine aH 4 (some 58) rfl (fun KK hKK=>?_)
 go_simp
 go_at_call 58;refine Calls.mono (HI4.o w4.drew _ bE hV.out) ?_;rintro e w5 ⟨rfl,rfl⟩
 all_goals(apply_rules(newGoals:= .nonDependentOnly)(maxDepth:=1)only[zE];constructor)):p:=h
theorem zq46(h:p:=by
 clear h3
 refine wp_region_held_drew (S:=fun W=>W.cell? ⟨L,6,none⟩=some (.slice (some ⟨K,0,none⟩) f.wires.length f.wires.length)/\W.cell? ⟨g6,1,none⟩=some (.int .i64 (m:Int))/\W.cell? ⟨K,m,none⟩=some (.int .i64 V)) (by kernel_rfl) ?_ (fun hHeld=>?_)
 ·refine' zq87
 refine' zq150
 refine' zq262
 refine' zq307
 (try go_wp2_with fail)
 refine' zq262
 refine' zq174
 refine tk 16 (some 70) rfl ?_
 all_goals(apply_rules(newGoals:= .nonDependentOnly)(maxDepth:=1)only[zE];constructor)):p:=h
theorem zq48(h:p:=by
 go_wp2_with fail
 have hK7:(w7.setCell ⟨w.heap.size+2,0,none⟩ (.bool false)).heap[DD]? =some (.deferred (some [])):=(KeepsOthers.setCell w7 _ _).same DD _ hK8 rfl
 refine ⟨by simp,.inl ⟨_,_,rfl,run_takeDeferred hK7,?_⟩⟩
 have hc5:=Go.cell_kept ((hR7.set 0 (.bool false)).cell 0) (grownBy_putObj' _ DD (.deferred none)) (fun r e=>by cases e;exact ⟨_,hK7,rfl⟩)
 refine ⟨.bool false,?_,by rw[HV.o];rfl,(HB7.o.setCell (p:=⟨w.heap.size+2,0,none⟩) (by simp) _).trans (belowK_b (w:=w) (Nat.le_refl _) _ DD _ _ (by omega) hK7 rfl rfl)⟩
 simp[results,Tryz.f78,go_sem,hc5]
 all_goals(apply_rules(newGoals:= .nonDependentOnly)(maxDepth:=1)only[zE];constructor)):p:=h
theorem zq131(h:p:=by
 have HC0:=zH (fun W' (hW:Below (W.alloc (.cells (bi e A cap) 75)).heap.size (W.alloc (.cells (bi e A cap) 75)) W')=>hP 0 0 x rfl hi0 W' q s v c (h1.below hW) (hc1.fr (aB.of_below hW)) P0)
 all_goals(apply_rules(newGoals:= .nonDependentOnly)(maxDepth:=1)only[zE];constructor)):p:=h
theorem zq49(h:p:=by
 refine' zq131
 have HC1:=zH (fun W' q' (m:aB D q (W.alloc (.cells (bi e A cap) 75)) q' W') (hk:aF K w0 D vi vo W' q' (ah x c s).2)=>hP 1 1 y rfl hi1 W' q' _ v c hk (hc1.fr m) P1)
 all_goals(apply_rules(newGoals:= .nonDependentOnly)(maxDepth:=1)only[zE];constructor)):p:=h
theorem zq50(h:p:=by
 clear d0 d1 d2 d3 d4 d5 d6 d7
 refine wp_region_held_drew (S:=fun W=>W.cell? ⟨bx,0,none⟩=some (.int .i64 e.op)/\W.cell? ⟨bx,1,none⟩=some (.string e.name)/\W.cell? ⟨bx,2,none⟩=some (.int .i64 e.n)/\W.cell? ⟨bx,3,none⟩=some (.slice A e.args.length cap)/\W.cell? ⟨bx,4,none⟩=some (.int .i64 e.line)/\W.cell? ⟨bx,5,none⟩=some (.int .i64 e.col)) (by kernel_rfl) ?_ (fun hHeld=>?_)
 ·refine' zq79
 all_goals(apply_rules(newGoals:= .nonDependentOnly)(maxDepth:=1)only[zE];constructor)):p:=h
theorem zq51(h:p:=by
 refine wp_region_held_drew (S:=fun W=>W.cell? ⟨w.heap.size,0,none⟩=some (.int .i64 e.op)/\W.cell? ⟨w.heap.size,1,none⟩=some (.string e.name)/\W.cell? ⟨w.heap.size,3,none⟩=some (.slice A e.args.length cap)) (by kernel_rfl) ?_ (fun hHeld=>?_)
 ·(try dsimp only);(first|(with_reducible exact HX3.o _ bE))
 refine tk 0 (some 6) rfl ?_
 refine tk 1 (some 7) rfl ?_
 refine tk 2 (some 8) rfl ?_
 refine tk 3 (some 9) rfl ?_
 refine tk 4 (some 10) rfl ?_
 refine tk 5 (some 11) rfl ?_
 refine tk 6 (some 12) rfl ?_
 refine tk 7 (some 13) rfl ?_
 refine tk 8 (some 14) rfl ?_
 refine tk 9 (some 15) rfl ?_
 refine tk 10 (some 16) rfl ?_
 refine tk 12 (some 18) rfl ?_
 refine tk 13 (some 19) rfl ?_
 refine tk 14 (some 20) rfl ?_
 refine aH 11 (some 17) rfl (fun KK hKK=>?_)
 go_simp
 go_at_call 115;refine Calls.mono (HPT.o _) ?_;rintro e w8 ⟨rfl,rfl⟩
 (try go_wp2_with fail)
 refine hKK.out _ _ ?_ (fun hHeld=>?_)
 ·(try dsimp only);(first|(with_reducible exact HX3.o _ bE))
 refine' zq4
 refine tk 15 (some 21) rfl ?_
 refine tk 16 (some 22) rfl ?_
 refine tk 17 (some 5) rfl ?_
 refine' zq26
 go_meet
 exact ⟨rfl,bE⟩
 all_goals(apply_rules(newGoals:= .nonDependentOnly)(maxDepth:=1)only[zE];constructor)):p:=h
theorem zq52(h:p:=by
 (with_reducible refine Calls.mono (HV2.o n) ?_)
 rintro e wg ⟨rfl,m,rfl⟩
 (try rw[World.drewN_drewN])
 go_wp2_with fail
 (with_reducible refine Calls.mono (HV3.o _) ?_)
 rintro e wg ⟨rfl,q,rfl⟩
 go_wp2_with fail
 go_ret
 exact ⟨aj HF.o.symm,HBW.o _ (ap b5 _)⟩
 all_goals(apply_rules(newGoals:= .nonDependentOnly)(maxDepth:=1)only[zE];constructor)):p:=h
theorem zq53(h:p:=by
 clear h3
 refine wp_region_held_drew (S:=fun W=>W.cell? ⟨D,4,none⟩=some (.slice (some ⟨K,0,none⟩) f.wires.length f.wires.length)/\W.cell? ⟨g6,0,none⟩=some (.int .i64 (m:Int))/\W.cell? ⟨K,m,none⟩=some (.int .i64 V)) (by kernel_rfl) ?_ (fun hHeld=>?_)
 ·refine' zq87
 refine' zq150
 go_at_call 96;refine Calls.mono (HI4.o _ _ bE hV.out) ?_;rintro e w5 ⟨rfl,rfl⟩
 (try go_wp2_with fail)
 refine' zq262
 refine tk 4 (some 58) rfl ?_
 refine' zq174
 all_goals(apply_rules(newGoals:= .nonDependentOnly)(maxDepth:=1)only[zE];constructor)):p:=h
theorem zq54(h:p:=by
 refine' zq26
 go_ret
 exact ⟨aj HF.o.symm,HBW.o _ (b5.trans ((bE:Below w5.heap.size w5 _).mono hs5))⟩
 all_goals(apply_rules(newGoals:= .nonDependentOnly)(maxDepth:=1)only[zE];constructor)):p:=h
theorem zq56(h:p:=by
 go_wp2_with fail
 (with_reducible refine HC.o.mono ?_)
 all_goals(apply_rules(newGoals:= .nonDependentOnly)(maxDepth:=1)only[zE];constructor)):p:=h
theorem zq60(h:p:=by
 (with_reducible refine (HSG2.o _).mono ?_)
 rintro e w6 ⟨rfl,hb6'⟩
 have b6':Below w1.heap.size w1 w6:=(ap b5 n).trans (hb6'.mono hs5)
 have q6:Below w5.heap.size w5 w6:=(ap (Below.refl _ _) n).trans hb6'
 refine' zq191
 all_goals(apply_rules(newGoals:= .nonDependentOnly)(maxDepth:=1)only[zE];constructor)):p:=h
theorem zq145(h:p:=by
 refine tk 0 (some 12) rfl ?_
 refine tk 1 (some 13) rfl ?_
 refine tk 2 (some 14) rfl ?_
 refine tk 3 (some 15) rfl ?_
 refine tk 4 (some 16) rfl ?_
 refine aH 5 (some 17) rfl (fun KK hKK=>?_)
 go_simp
 go_at_call 30;refine Calls.mono (HI.o _ _ ?hbb hV.out) ?_;(case hbb=>exact bE);rintro e w5 ⟨rfl,hb5⟩;(have hb6:Below wr.heap.size wr w5:=Below.trans bE (hb5.mono lE))
 all_goals(apply_rules(newGoals:= .nonDependentOnly)(maxDepth:=1)only[zE];constructor)):p:=h
theorem zq172(h:p:=by
 (try dsimp only);(first|(with_reducible exact HS2.o _ bE)|go_keep)
 all_goals(apply_rules(newGoals:= .nonDependentOnly)(maxDepth:=1)only[zE];constructor)):p:=h
theorem zq171(h:p:=by
 refine hKK.out _ _ ?_ (fun hHeld=>?_)
 ·refine' zq172
 refine' zq4
 all_goals(apply_rules(newGoals:= .nonDependentOnly)(maxDepth:=1)only[zE];constructor)):p:=h
theorem zq61(h:p:=by
 refine' zq145
 (try go_wp2_with fail)
 refine' zq171
 refine tk 6 (some 18) rfl ?_
 refine tk 7 (some 19) rfl ?_
 refine tk 8 (some 20) rfl ?_
 refine tk 9 (some 21) rfl ?_
 refine tk 10 (some 22) rfl ?_
 refine tk 11 (some 23) rfl ?_
 refine tk 12 (some 24) rfl ?_
 refine tk 13 (some 25) rfl ?_
 refine tk 14 (some 26) rfl ?_
 refine tk 15 (some 27) rfl ?_
 refine tk 16 (some 28) rfl ?_
 refine tk 17 (some 29) rfl ?_
 refine tk 18 (some 30) rfl ?_
 refine tk 19 (some 31) rfl ?_
 refine' zq26
 all_goals(apply_rules(newGoals:= .nonDependentOnly)(maxDepth:=1)only[zE];constructor)):p:=h
theorem zq64(h:p:=by
 obtain ⟨x,y,ha⟩:=aQ hp1 (by omega)
 refine' zq213
 have hi1:e.args[1]? =some y:=by rw[ha];rfl
 have hm1:y∈e.args:=List.mem_of_getElem? hi1
 have hlen:e.args.length=2:=by rw[ha];rfl
 clear ha
 all_goals(apply_rules(newGoals:= .nonDependentOnly)(maxDepth:=1)only[zE];constructor)):p:=h
theorem zq65(h:p:=by
 by_cases hz:(ma:Int)=0
 rotate_left 1
 ·have HF:Hid (cB (au f ⟨op,(md:Int),(ma:Int),(mb:Int),(mc:Int),k⟩)=false):=ab (fun g=>hz (g.2.2.2.2.1 (by dsimp only;rw[HU.o];decide)))
  have ez:((ma:Int) !=0)=true:=by simpa using hz
  clear hz
  refine' zq196
 have HZa:=zH hz
 have eza:((ma:Int) !=0)=false:=by simpa using hz
 clear hz
 refine' zq8
 refine' zq1
 have hop:=HOP.o
 subst hop
 all_goals(apply_rules(newGoals:= .nonDependentOnly)(maxDepth:=1)only[zE];constructor)):p:=h
theorem zq67(h:p:=by
 clear hC
 refine' zq25
 refine tk 11 (some 147) rfl ?_
 refine tk 12 (some 148) rfl ?_
 refine tk 13 (some 149) rfl ?_
 refine tk 14 (some 150) rfl ?_
 refine tk 15 (some 151) rfl ?_
 refine tk 16 (some 152) rfl ?_
 refine tk 17 (some 153) rfl ?_
 refine aH 18 (some 154) rfl (fun KK hKK=>?_)
 go_simp
 (go_at_call 34;refine Calls.mono (HKC.o _ ?hbb) ?_;(case hbb=>exact bE);rintro e w8 ⟨rfl,hb8⟩;(have hb9:Below w5.heap.size w5 w8:=Below.trans bE (hb8.mono lE));(have hs9:=hb9.size))
 refine' zq13
 refine tk 19 (some 155) rfl ?_
 refine tk 20 (some 156) rfl ?_
 refine tk 21 (some 157) rfl ?_
 refine aH 22 (some 158) rfl (fun KK hKK=>?_)
 go_simp
 (go_at_call 31;refine Calls.mono (HGN.o _ _ ?hbb HVN.o) ?_;(case hbb=>exact bE);rintro e w9 ⟨rfl,n9,rfl⟩)
 refine' zq13
 refine tk 23 (some 159) rfl ?_
 refine tk 24 (some 4) rfl ?_
 all_goals(apply_rules(newGoals:= .nonDependentOnly)(maxDepth:=1)only[zE];constructor)):p:=h
theorem zq161(h:p:=by
 have o24:(op==24)=false:=by rw[beq_eq_false_iff_ne];omega
 have o26:(op==26)=false:=by rw[beq_eq_false_iff_ne];omega
 have o21:(op==21)=false:=by rw[beq_eq_false_iff_ne];omega
 clear hop
 all_goals(apply_rules(newGoals:= .nonDependentOnly)(maxDepth:=1)only[zE];constructor)):p:=h
theorem zq70(h:p:=by
 have o3:(op==3)=false:=by rw[beq_eq_false_iff_ne];omega
 have o27:(op==27)=false:=by rw[beq_eq_false_iff_ne];omega
 refine' zq161
 by_cases h0:a=0/\b=0/\c=0
 rotate_left 1
 ·have HF:=zH (ab (show ¬au f ⟨op,dst,a,b,c,k⟩ from fun g=>h0 (HIFF.o.1 g).1))
  generalize cB (au f ⟨op,dst,a,b,c,k⟩)=R at*
  refine' zq30
  go_wp2_with fail
  all_goals
   go_ret
   exact ⟨aj HF.o.symm,by first|exact hb15|exact ap hb15 _⟩
 obtain ⟨rfl,rfl,rfl⟩:=h0
 have HT:=zH (rfl:ag f dst=ag f dst)
 generalize hTd:ag f dst=Td at HIFF
 have HTd:=zH hTd
 clear hTd HT
 all_goals(apply_rules(newGoals:= .nonDependentOnly)(maxDepth:=1)only[zE];constructor)):p:=h
theorem zq71(h:p:=by
 refine' zq28
 go_wp2_with (at_builtin;refine wpList_append_own _ rfl _ _ 26 rfl w1.heap.size 3 i0 (.int .i64 0) 1 8 Tryz.underlying26 hi0 hz0 hz1 hz2 rfl (by decide) _ _ _ rfl (HO1.o.alloc _) ⟨w1a.heap.size,0,none⟩ 1 1 [.int .i64 b] rfl rfl (cA _ _ _) (HONE.o _) (by unfold maxLen;omega) (by omega) (by first|(simp;done)|(simp;omega)) ?_)
 intro v2 w2a hown hgrow _
 have hb2a:=aY (hb1a.alloc (by first|exact Nat.le_refl _|assumption) _) (HO1.o.alloc _) hgrow (by first|(simp;done)|(simp;omega))
 have HO2:Hid (w2a.ownsRow w1.heap.size 3 1 v2 2 (al [a,b])):=by first|exact hown|simpa[al] using hown
 have hs2a:=hb2a.size
 clear hown hgrow
 clear y0 y1 c0 c1 c2 c3 c4 c5
 obtain ⟨y0,y1,c0,c1,c2,c3,c4,c5⟩:=HD.o w2a hb2a
 all_goals(apply_rules(newGoals:= .nonDependentOnly)(maxDepth:=1)only[zE];constructor)):p:=h
theorem zq72(h:p:=by
 obtain ⟨A1,c1,rfl,l1,m1,s1⟩:=h1
 obtain ⟨A2,c2,rfl,l2,m2,s2⟩:=h2
 have m1':c1<=9223372036854775807:=by unfold maxLen at m1;omega
 have m2':c2<=9223372036854775807:=by unfold maxLen at m2;omega
 all_goals(apply_rules(newGoals:= .nonDependentOnly)(maxDepth:=1)only[zE];constructor)):p:=h
theorem zq73(h:p:=by
 obtain ⟨b,off,x,Ag,cg,hAw,hbB,hx,wx,d0,d1,lg,mg,sg⟩:=(HW.o wr hb).wr hlt
 subst hAw
 have HX:=zH hx
 clear hx
 have mg':cg<=9223372036854775807:=by unfold maxLen at mg;omega
 have HG:Hid (∀W,Below wr.heap.size wr W->Sl W B 2 aW Ag x.clock):=fun W hW=>sg.below (hW.mono (by omega))
 have r1:=ai.new wr #[.int .i64 x.ty,.slice Ag x.clock.length cg] 52
 have ba:Below wr.heap.size wr (wr.alloc (.cells #[.int .i64 x.ty,.slice Ag x.clock.length cg] 52)):=bE
 clear sg
 go_upto_region 4 with (fail)
 clear d0 d1
 generalize hW1:wr.alloc (.cells #[.int .i64 x.ty,.slice Ag x.clock.length cg] 52)=w1 at*
 clear hW1
 have hs1:=ba.size
 have hB1:=hb.trans (ba.mono hsb)
 have hsB1:=hB1.size
 obtain ⟨c0,c1⟩:=r1.two'
 all_goals(apply_rules(newGoals:= .nonDependentOnly)(maxDepth:=1)only[zE];constructor)):p:=h
theorem zq74(h:p:=by
 have ht':(y.ty !=2)=false:=by simp[ht]
 have HTY:=zH ht
 have HE:Hid (∀W V,Below w3.heap.size w3 W->cB (y.clock=x.clock.take m)=V->Calls Tryz.prog 59 #[.slice Ay y.clock.length cy,.slice (some ⟨bg,og,none⟩) m cg] W fun e w'=>e= .returned (.bool V)/\∃n,w'=W.drewN n):=fun W V hW hV=>by
  have:=hI y.clock (x.clock.take m) (.slice Ay y.clock.length cy) (.slice (some ⟨bg,og,none⟩) m cg) B W ⟨_,_,rfl,ly,my,sy.below (hW.mono (by omega))⟩ (ij (HG.o W (ba.trans ((hb2.trans ((bb.trans (hW.mono hs3)).mono hs2)).mono hs1))) lg mg (by omega))
  rw[hV] at this
  exact this
 have hW:=zH hw
 have hmc:m<=cg:=by omega
 clear ht hw y0 y1
 all_goals(apply_rules(newGoals:= .nonDependentOnly)(maxDepth:=1)only[zE];constructor)):p:=h
theorem zq75(h:p:=by
 have HF4:Hid (∀W,Below w1.heap.size w1 W->W.cell? ⟨w.heap.size,0,none⟩=some (.slice Aw f.wires.length cw)/\W.cell? ⟨w.heap.size,1,none⟩=some (.slice Ad f.defs.length cd)/\W.cell? ⟨w.heap.size,2,none⟩=some (.slice Ai f.ins.length ci)/\W.cell? ⟨w.heap.size,3,none⟩=some (.slice Ao f.outs.length co)):=fun W hW=>(rF.below hW hFl).four'
 clear rF
 all_goals(apply_rules(newGoals:= .nonDependentOnly)(maxDepth:=1)only[zE];constructor)):p:=h
theorem zq160(h:p:=by
 have HCL:=zH hcl
 clear hcl
 refine' zq3
 have hwa:=wx.a
 dsimp only at hwa
 have HWA:=zH hwa
 clear hwa wx
 refine' zq0
 refine' zq20
 have hop:=HOP.o
 subst hop
 have HIFF:=zH (pk (f:=f) (op:=26) (dst:=(md:Int)) (a:=(ma:Int)) (b:=(mb:Int)) (c:=(mc:Int)) (k:=k) rfl HALL.o)
 refine' zq9
 have HGA:=zH HGda
 clear HGda SVd SVa SVb SVc
 all_goals(apply_rules(newGoals:= .nonDependentOnly)(maxDepth:=1)only[zE];constructor)):p:=h
theorem zq76(h:p:=by
 refine' zq27
 have HE0:=zH he0
 clear he0
 have HG4:=zH hg4
 clear hg4
 refine' zq160
 have hC:=HG4.o.1
 refine' zq5
 have ehA:(ag f (ma:Int)==2)=true:=by simpa using HG4.o.2.1
 have ehB:(ag f (md:Int)==ag f (mb:Int))=true:=by simpa using HG4.o.2.2.1
 have ehD:(ag f (md:Int)==ag f (mc:Int))=true:=by simpa using HG4.o.2.2.2
 have hE:=HE0.o
 all_goals(apply_rules(newGoals:= .nonDependentOnly)(maxDepth:=1)only[zE];constructor)):p:=h
theorem zq77(h:p:=by
 obtain ⟨m,rfl⟩:=Int.eq_ofNat_of_zero_le hn.1
 have hm:m<f.wires.length:=by have h9:(m:Int)<f.wires.length:=hn.2;omega
 have hx:f.wires[m]? =some f.wires[m]:=List.getElem?_eq_getElem hm
 all_goals(apply_rules(newGoals:= .nonDependentOnly)(maxDepth:=1)only[zE];constructor)):p:=h
theorem zq78(h:p:=by
 have hsq:=hbq.size
 have hbw5:=hb4.trans (hbq.mono hs4)
 by_cases hlt2:q<x.clock.length
 rotate_left 1
 ·obtain rfl:q=x.clock.length:=by omega
  have HP':=zH (aC HP.o (fun y hy=>by rw[HX.o] at hy;injection hy with hy;rw[<-hy];exact ⟨HT.o,fun i g hg=>HQ.o i (List.getElem?_eq_some_iff.1 hg).1 g hg⟩))
  go_wp2_with fail
  go_roundw
  case rel=>exact ⟨k+1,by omega,by go_num,HP'.o,hbw5⟩
  case measure=>simp[intOf];omega
 obtain ⟨bg,og,⟨gw,gn⟩,hAg,hbg,hgg,wg,e0,e0'⟩:=(HSG.o _ hbq).gd (k:=q) hlt2
 subst hAg
 dsimp only at wg e0 e0'
 have HGG:=zH hgg
 clear hgg
 go_upto_region 13 with (fail)
 obtain ⟨w5,hw5⟩:∃w5:World,w5=wr:=⟨_,rfl⟩
 subst hw5
 all_goals(apply_rules(newGoals:= .nonDependentOnly)(maxDepth:=1)only[zE];constructor)):p:=h
theorem zq205(h:p:=by
 (try dsimp only);(first|exact HCX.o _ hu10|exact HCX.o _ hu9'|exact HCX.o _ hu8'|exact HCX.o _ (ae.of_below ((Below.refl _ _).drew)))
 all_goals(apply_rules(newGoals:= .nonDependentOnly)(maxDepth:=1)only[zE];constructor)):p:=h
theorem zq254(h:p:=by
 (try go_wp2_with fail)
 refine hKK.out _ _ ?_ (fun hHeld=>?_)
 ·refine' zq205
 refine' zq4
 all_goals(apply_rules(newGoals:= .nonDependentOnly)(maxDepth:=1)only[zE];constructor)):p:=h
theorem zq81(h:p:=by
 go_simp
 (go_at_call 90;first|((with_reducible refine Calls.mono (HWb.o _ _ _ hr8) ?_);rintro e w9 ⟨rfl,hw9,⟨ds9,vs9,hr9⟩,hu9⟩;(have hu9':ae (fun k=>k=K\/k=V) w3 w9:=hu8'.trans hu9))|((with_reducible refine Calls.mono (HW.o _ _ _ (HR3.o.below ((Below.refl _ _).drew))) ?_);rintro e w8 ⟨rfl,hw8,⟨ds8,vs8,hr8⟩,hu8⟩;(have hu8':ae (fun k=>k=K\/k=V) w3 w8:=(ae.of_below ((Below.refl _ _).drew)).trans hu8)))
 refine' zq254
 all_goals(apply_rules(newGoals:= .nonDependentOnly)(maxDepth:=1)only[zE];constructor)):p:=h
theorem zq82(h:p:=by
 (try dsimp only);(first|(with_reducible exact HK6.o _ bE)|(with_reducible exact HK5.o _ bE)|(with_reducible exact HK.o _ _ (aB.of_below bE)))
 all_goals(apply_rules(newGoals:= .nonDependentOnly)(maxDepth:=1)only[zE];constructor)):p:=h
theorem zq84(h:p:=by
 clear hk hh
 refine' zq24
 refine tk 5 (some 31) rfl ?_
 refine tk 6 (some 32) rfl ?_
 refine tk 7 (some 33) rfl ?_
 refine tk 9 (some 35) rfl ?_
 refine tk 10 (some 36) rfl ?_
 refine aH 8 (some 34) rfl (fun KK hKK=>?_)
 go_simp
 (go_at_call 100;refine Calls.mono (HKI.o _ bE) ?_;rintro r w10 ⟨rfl,hb10⟩;(have hb11:Below w4.heap.size w4 w10:=Below.trans bE (hb10.mono lE));(have hs11:=hb11.size))
 refine' zq202
 refine tk 11 (some 37) rfl ?_
 refine tk 12 (some 38) rfl ?_
 refine tk 13 (some 39) rfl ?_
 all_goals(apply_rules(newGoals:= .nonDependentOnly)(maxDepth:=1)only[zE];constructor)):p:=h
theorem zq86(h:p:=by
 go_simp
 (go_at_call 41;refine Calls.mono (HA5.o _ bE) ?_;rintro r w6 ⟨rfl,h6⟩;(obtain ⟨q6,h6,m6⟩:=h6);(have HK6:=zH (fun W' (hW:Below w6.heap.size w6 W')=>HK.o _ _ (((aB.of_below (bE:Below w1.heap.size w1 _)).trans m6).trans (aB.of_below hW)))))
 (try go_wp2_with fail)
 refine hKK.out _ _ ?_ (fun hHeld=>?_)
 ·refine' zq82
 refine' zq4
 refine tk 10 (some 6) rfl ?_
 refine' zq26
 go_ret
 rw[HE.o]
 exact ⟨rfl,q6,h6,(HM1.o.trans (aB.of_below bE)).trans m6⟩
 all_goals(apply_rules(newGoals:= .nonDependentOnly)(maxDepth:=1)only[zE];constructor)):p:=h
theorem zq88(h:p:=by
 refine wp_region_held_drew (S:=fun W=>W.cell? ⟨D,0,none⟩=some (.slice (some ⟨b,off,none⟩) f.wires.length cw)/\W.cell? ⟨w2.heap.size,0,none⟩=some (.int .i64 (n:Int))/\W.cell? ⟨wo.heap.size,1,none⟩=some (.slice (some ⟨bg,og,none⟩) x.clock.length cg)/\W.cell? ⟨b,off+n*2,none⟩=some (.int .i64 y.ty)/\W.cell? ⟨b,off+n*2+1,none⟩=some (.slice Ay y.clock.length cy)) (by kernel_rfl) ?_ (fun hHeld=>?_)
 ·refine' zq306
 refine tk 0 (some 33) rfl ?_
 refine tk 1 (some 34) rfl ?_
 refine tk 2 (some 35) rfl ?_
 refine aH 3 (some 36) rfl (fun KK hKK=>?_)
 go_simp
 all_goals(apply_rules(newGoals:= .nonDependentOnly)(maxDepth:=1)only[zE];constructor)):p:=h
theorem zq89(h:p:=by
 refine Eh none rfl (fun KK hKK=>?_)
 go_simp
 refine hKK.out _ _ ?_
 refine' zq4
 refine tb (by kernel_rfl) ?_ _
 all_goals(apply_rules(newGoals:= .nonDependentOnly)(maxDepth:=1)only[zE];constructor)):p:=h
theorem zq147(h:p:=by
 have HFIN:Hid (∀W,Below w5.heap.size w5 W->Below w.heap.size w W):=fun W hW=>hb15.trans (hW.mono hb15.size)
 all_goals(apply_rules(newGoals:= .nonDependentOnly)(maxDepth:=1)only[zE];constructor)):p:=h
theorem zq170(h:p:=by
 have HN5:=zH (HH.o.below hBw hb15)
 have hB5:B<=w5.heap.size:=Nat.le_trans hBw hb15.size
 all_goals(apply_rules(newGoals:= .nonDependentOnly)(maxDepth:=1)only[zE];constructor)):p:=h
theorem zq90(h:p:=by
 refine' zq30
 refine' zq170
 have HS:Hid (∀W,Below w5.heap.size w5 W->W.cell? ⟨w.heap.size,0,none⟩=some (.int .i64 op)/\W.cell? ⟨w.heap.size,1,none⟩=some (.int .i64 (m:Int))/\W.cell? ⟨w.heap.size,2,none⟩=some (.int .i64 a)/\W.cell? ⟨w.heap.size,3,none⟩=some (.int .i64 b)/\W.cell? ⟨w.heap.size,4,none⟩=some (.int .i64 c)/\W.cell? ⟨w.heap.size,5,none⟩=some (.int .i64 k)):=fun W hW=>(bX5.below hW hg5).six'
 refine' zq147
 all_goals(apply_rules(newGoals:= .nonDependentOnly)(maxDepth:=1)only[zE];constructor)):p:=h
theorem zq91(h:p:=by
 refine tk 17 (some 50) rfl ?_
 refine tk 18 (some 51) rfl ?_
 refine sk 19 (some 52) rfl ?_
 refine sk 20 (some 53) rfl ?_
 refine sk 21 (some 54) rfl ?_
 refine sk 22 (some 55) rfl ?_
 refine sk 23 (some 56) rfl ?_
 refine sk 24 (some 57) rfl ?_
 refine sk 25 (some 58) rfl ?_
 refine sk 26 (some 59) rfl ?_
 refine sk 27 (some 60) rfl ?_
 refine sk 28 (some 61) rfl ?_
 refine sk 29 (some 62) rfl ?_
 refine sk 30 (some 63) rfl ?_
 refine sk 31 (some 64) rfl ?_
 refine sk 32 (some 65) rfl ?_
 refine sk 33 (some 66) rfl ?_
 refine sk 34 (some 67) rfl ?_
 refine tk 35 (some 68) rfl ?_
 refine' zq26
 go_ret
 exact ⟨aj HF.o.symm,bE⟩
 all_goals(apply_rules(newGoals:= .nonDependentOnly)(maxDepth:=1)only[zE];constructor)):p:=h
theorem zq92(h:p:=by
 refine tk 18 (some 47) rfl ?_
 refine tk 19 (some 48) rfl ?_
 refine sk 20 (some 49) rfl ?_
 refine sk 21 (some 50) rfl ?_
 refine sk 22 (some 51) rfl ?_
 refine sk 23 (some 52) rfl ?_
 refine sk 24 (some 53) rfl ?_
 refine sk 25 (some 54) rfl ?_
 refine sk 26 (some 55) rfl ?_
 refine sk 27 (some 56) rfl ?_
 refine sk 28 (some 57) rfl ?_
 refine sk 29 (some 58) rfl ?_
 refine sk 30 (some 59) rfl ?_
 refine sk 31 (some 60) rfl ?_
 refine sk 32 (some 61) rfl ?_
 refine sk 33 (some 62) rfl ?_
 refine sk 34 (some 63) rfl ?_
 refine sk 35 (some 64) rfl ?_
 refine tk 36 (some 65) rfl ?_
 refine' zq26
 go_ret
 exact ⟨aj HF.o.symm,bE⟩
 all_goals(apply_rules(newGoals:= .nonDependentOnly)(maxDepth:=1)only[zE];constructor)):p:=h
theorem zq93(h:p:=by
 have b1:Below w.heap.size w (w.alloc (.cells #[.slice Aw f.wires.length cw,.slice Ad f.defs.length cd,.slice Ai f.ins.length ci,.slice Ao f.outs.length co] 33)):=bE
 have rF:=ai.new w #[.slice Aw f.wires.length cw,.slice Ad f.defs.length cd,.slice Ai f.ins.length ci,.slice Ao f.outs.length co] 33
 all_goals(apply_rules(newGoals:= .nonDependentOnly)(maxDepth:=1)only[zE];constructor)):p:=h
theorem zq94(h:p:=by
 generalize (W.alloc (.cells (bi e A cap) 75))=w1 at*
 refine' zq7
 obtain ⟨c0,c1,c2,c3,c4,c5⟩:=rX.six'
 all_goals(apply_rules(newGoals:= .nonDependentOnly)(maxDepth:=1)only[zE];constructor)):p:=h
theorem zq282(h:p:=by
 refine sk 26 (some 71) rfl ?_
 refine sk 27 (some 72) rfl ?_
 refine sk 28 (some 73) rfl ?_
 refine sk 29 (some 74) rfl ?_
 refine sk 30 (some 75) rfl ?_
 refine sk 31 (some 76) rfl ?_
 refine' zq22
 all_goals(apply_rules(newGoals:= .nonDependentOnly)(maxDepth:=1)only[zE];constructor)):p:=h
theorem zq96(h:p:=by
 refine tk 13 (some 58) rfl ?_
 refine tk 14 (some 59) rfl ?_
 refine sk 15 (some 60) rfl ?_
 refine sk 16 (some 61) rfl ?_
 refine sk 17 (some 62) rfl ?_
 refine sk 18 (some 63) rfl ?_
 refine sk 19 (some 64) rfl ?_
 refine sk 20 (some 65) rfl ?_
 refine sk 21 (some 66) rfl ?_
 refine sk 22 (some 67) rfl ?_
 refine sk 23 (some 68) rfl ?_
 refine tk 24 (some 69) rfl ?_
 refine tk 25 (some 70) rfl ?_
 refine' zq282
 all_goals(apply_rules(newGoals:= .nonDependentOnly)(maxDepth:=1)only[zE];constructor)):p:=h
theorem zq97(h:p:=by
 obtain ⟨bg,og,⟨gw,gno⟩,hAg,hbg,hg,wg,e0,e1⟩:=(HG.o w2 (ba.trans (hb2.mono hs1))).gd hml
 subst hAg
 have HGG:=zH hg
 clear hg
 dsimp only at wg e0 e1
 have rg:=ai.new w2 #[.int .i64 gw,.bool gno] 61
 have bb:Below w2.heap.size w2 (w2.alloc (.cells #[.int .i64 gw,.bool gno] 61)):=bE
 go_upto_region 9 with (fail)
 clear e0 e1
 generalize hW3:w2.alloc (.cells #[.int .i64 gw,.bool gno] 61)=w3 at*
 clear hW3
 have hs3:=bb.size
 have hB3:=hB2.trans (bb.mono (by omega))
 have hsB3:=hB3.size
 have r3:=r1.below (hb2.trans (bb.mono hs2)) r1.lt
 all_goals(apply_rules(newGoals:= .nonDependentOnly)(maxDepth:=1)only[zE];constructor)):p:=h
theorem zq98(h:p:=by
 go_wp2_with fail
 (with_reducible refine (HNM.o _).mono ?_)
 rintro r w5 ⟨rfl,rfl⟩
 all_goals(apply_rules(newGoals:= .nonDependentOnly)(maxDepth:=1)only[zE];constructor)):p:=h
theorem zq198(h:p:=by
 have Sa:=fB (f:=f) x (hp2 x hm0) c s hp.gs hp.wl
 have sa1:=Sa.few
 have sa2:=Sa.up
 all_goals(apply_rules(newGoals:= .nonDependentOnly)(maxDepth:=1)only[zE];constructor)):p:=h
theorem zq230(h:p:=by
 have P1:fy f K y c (ah x c s).2:=by have:=gu hp (by omega) hi1 Sa.gs Sa.up (by omega);rwa [jd (by omega)] at this
 all_goals(apply_rules(newGoals:= .nonDependentOnly)(maxDepth:=1)only[zE];constructor)):p:=h
theorem zq271(h:p:=by
 have Sb:=fB (f:=f) y (hp2 y hm1) c _ Sa.gs (Nat.le_trans hp.wl Sa.up)
 have sb1:=Sb.few
 have sb2:=Sb.up
 all_goals(apply_rules(newGoals:= .nonDependentOnly)(maxDepth:=1)only[zE];constructor)):p:=h
theorem zq99(h:p:=by
 refine' zq233
 have hokc:K.ok c:=(lj.1 hp.ok).1
 refine' zq64
 refine' zq198
 refine' zq271
 have P0:fy f K x c s:=by have:=gu hp (by omega) hi0 hp.gs (Nat.le_refl _) (by omega);rwa [jd (by omega)] at this
 refine' zq230
 all_goals(apply_rules(newGoals:= .nonDependentOnly)(maxDepth:=1)only[zE];constructor)):p:=h
theorem zq100(h:p:=by
 have HA9:=zH (HN9.o _ _ h8 m8)
 clear z0 z1 z2 z3 z4 z5
 obtain ⟨z0,z1,z2,z3,z4,z5⟩:=HA8.o.row.six'
 have g1:=HA8.o.row.frozen 1
 have hZ8:=HA8.o.row.lt
 clear h8 m8 HN9 HW8
 have HF9:=zH (HM1.o.trans HA9.o.fr)
 have HAD:=zH (HAC.o _ _ HA9.o.mkat)
 obtain ⟨y0,y1,y2,y3,y4,y5⟩:=HA9.o.row.six'
 go_upto_region 8 with (fail)
 clear z0 z1 z2 z3 z4 z5 g1
 go_wp2_with fail
 (with_reducible refine HAD.o.mono ?_)
 rintro r w9 ⟨rfl,h9⟩
 have HN9:=zH (cN.trans HF9.o h9)
 clear h9
 go_wp2_with fail
 go_ret
 rw[HEE.o]
 exact ⟨rfl,HN9.o⟩
 all_goals(apply_rules(newGoals:= .nonDependentOnly)(maxDepth:=1)only[zE];constructor)):p:=h
theorem zq101(h:p:=by
 obtain rfl:j=len:=by omega
 have HO:=zH hown
 have HB:=zH hb
 clear hown hb
 go_wp2_with fail
 go_ret
 refine ⟨_,rfl,HFI.o _ _ HB.o ?_⟩
 have:=HO.o
 rw[<-HLEN.o,List.take_length] at this
 all_goals(apply_rules(newGoals:= .nonDependentOnly)(maxDepth:=1)only[zE];constructor)):p:=h
theorem zq104(h:p:=by
 (try dsimp only);(first|(with_reducible exact HS32.o _ _ (HM6.o.trans (aB.of_below bE)))|(with_reducible exact HS32.o _ _ (aB.of_below bE)))
 all_goals(apply_rules(newGoals:= .nonDependentOnly)(maxDepth:=1)only[zE];constructor)):p:=h
theorem zq102(h:p:=by
 refine hKK.out _ _ ?_ (fun hHeld=>?_)
 ·refine' zq104
 refine' zq4
 all_goals(apply_rules(newGoals:= .nonDependentOnly)(maxDepth:=1)only[zE];constructor)):p:=h
theorem zq103(h:p:=by
 have P0:fy f K x c s:=by have:=gu hp (by omega) hi0 hp.gs (Nat.le_refl _) (by omega);rwa [jd (by omega)] at this
 all_goals(apply_rules(newGoals:= .nonDependentOnly)(maxDepth:=1)only[zE];constructor)):p:=h
theorem zq105(h:p:=by
 refine' zq199
 go_ret
 exact ⟨aj HF.o.symm,by repeat (first|exact hb15|refine ap ?_ _)⟩
 all_goals(apply_rules(newGoals:= .nonDependentOnly)(maxDepth:=1)only[zE];constructor)):p:=h
theorem zq106(h:p:=by
 obtain ⟨i0,hi0,hz0,hz1,hz2⟩:=info_parts mJ
 all_goals(apply_rules(newGoals:= .nonDependentOnly)(maxDepth:=1)only[zE];constructor)):p:=h
theorem zq107(h:p:=by
 refine wp_region_held_drew (S:=fun W=>W.cell? ⟨L,0,none⟩=some (.slice Aw f.wires.length cw)/\W.cell? ⟨L,2,none⟩=some (.slice Ac f.cells.length cc)/\W.cell? ⟨L,7,none⟩=some (.slice (some ⟨K,0,none⟩) f.cells.length f.cells.length)/\W.cell? ⟨g6,0,none⟩=some (.int .i64 ((m:Int)))/\W.cell? ⟨g6,1,none⟩=some (.int .i64 (fr))/\W.cell? ⟨K,m,none⟩=some (.int .i64 V)) (by kernel_rfl) ?_ (fun hHeld=>?_)
 ·(try dsimp only);(first|(with_reducible exact HKm.o _ bE)|go_keep)
 refine' zq39
 all_goals(apply_rules(newGoals:= .nonDependentOnly)(maxDepth:=1)only[zE];constructor)):p:=h
theorem zq108(h:p:=by
 have eo1:(op==1)=false:=by rw[beq_eq_false_iff_ne];have:=HOP.o;omega
 have eo2:(op==2)=false:=by rw[beq_eq_false_iff_ne];have:=HOP.o;omega
 have eo21:(op==21)=false:=by rw[beq_eq_false_iff_ne];have:=HOP.o;omega
 have eo24:(op==24)=false:=by rw[beq_eq_false_iff_ne];have:=HOP.o;omega
 have eo26:(op==26)=false:=by rw[beq_eq_false_iff_ne];have:=HOP.o;omega
 have eo3:(op==3)=false:=by rw[beq_eq_false_iff_ne];have:=HOP.o;omega
 have eo27:(op==27)=false:=by rw[beq_eq_false_iff_ne];have:=HOP.o;omega
 all_goals(apply_rules(newGoals:= .nonDependentOnly)(maxDepth:=1)only[zE];constructor)):p:=h
theorem zq109(h:p:=by
 go_wp2_with fail
 go_roundw
 case rel=>exact ⟨k+1,by omega,by go_num,HP',HBD.o⟩
 case measure=>first|(simp[intOf];omega)|simp[intOf]
 all_goals(apply_rules(newGoals:= .nonDependentOnly)(maxDepth:=1)only[zE];constructor)):p:=h
theorem zq110(h:p:=by
 have HV3:Hid (cB (ak f a/\ak f b/\ak f c)=true):=aq hall
 have sg:Ar.signB op=false:=by simp[Ar.signB];omega
 have o1:(op==1)=false:=by rw[beq_eq_false_iff_ne];omega
 all_goals(apply_rules(newGoals:= .nonDependentOnly)(maxDepth:=1)only[zE];constructor)):p:=h
theorem zq180(h:p:=by
 rw[List.pairwise_map]
 refine gG fun i j p q hij hp hq heq=>?_
 have h1:=(hok.2 i p hp).2.2
 have h2:=(hok.2 j q hq).2.2
 rw[heq,h2] at h1
 have hl:=congrArg List.length h1
 have hi:=(List.getElem?_eq_some_iff.1 hp).1
 have hj:=(List.getElem?_eq_some_iff.1 hq).1
 rw[List.length_take,List.length_take] at hl
 omega
 all_goals(apply_rules(newGoals:= .nonDependentOnly)(maxDepth:=1)only[zE];constructor)):p:=h
theorem zq139(h:p:=by
 have hp:(x.clock.map (·.wire)).Pairwise (fun a b=>a≠b):=by
  refine' zq180
 exact hp
 all_goals(apply_rules(newGoals:= .nonDependentOnly)(maxDepth:=1)only[zE];constructor)):p:=h
theorem zq111(h:p:=by
 generalize f.wires[m]=x at*
 have hnd:(x.clock.map (·.wire)).Nodup:=by
  refine' zq139
 all_goals(apply_rules(newGoals:= .nonDependentOnly)(maxDepth:=1)only[zE];constructor)):p:=h
theorem zq112(h:p:=by
 go_wp2_with fail
 go_ret
 exact ⟨aj HF.o.symm,HBW.o _ (Below.refl _ _)⟩
 all_goals(apply_rules(newGoals:= .nonDependentOnly)(maxDepth:=1)only[zE];constructor)):p:=h
theorem zq113(h:p:=by
 obtain ⟨m,rfl⟩:=Int.eq_ofNat_of_zero_le hn.1
 have hm:m<f.wires.length:=by have:=hn.2;omega
 all_goals(apply_rules(newGoals:= .nonDependentOnly)(maxDepth:=1)only[zE];constructor)):p:=h
theorem zq114(h:p:=by
 have hm':(m:Int)<f.wires.length:=by omega
 dsimp only at d0 d1 d2' d3 d4 d5
 have r9:=ai.new wr #[.int .i64 xo,.int .i64 (m:Int),.int .i64 xa,.int .i64 xb,.int .i64 xc,.int .i64 xk] 58
 have u4:ae (fun k=>k=D) w1 (wr.alloc (.cells #[.int .i64 xo,.int .i64 (m:Int),.int .i64 xa,.int .i64 xb,.int .i64 xc,.int .i64 xk] 58)):=uD.alloc _
 have rD4:=rD.alloc (.cells #[.int .i64 xo,.int .i64 (m:Int),.int .i64 xa,.int .i64 xb,.int .i64 xc,.int .i64 xk] 58)
 all_goals(apply_rules(newGoals:= .nonDependentOnly)(maxDepth:=1)only[zE];constructor)):p:=h
theorem zq115(h:p:=by
 refine ⟨by simp[h.1],fun i y hi=>?_⟩
 rcases Nat.lt_or_ge i l.length with hl|hl
 ·rw[List.getElem?_append_left hl] at hi
  obtain ⟨h1,u,h2,h3⟩:=h.2 i y hi
  exact ⟨h1,u,by rw[List.getElem?_append_left (by rw[h.1];exact hl)];exact h2,h3⟩
 ·rw[List.getElem?_append_right hl] at hi
  match e:i-l.length,hi with
  |0,hi=>
   simp at hi
   subst hi
   exact ⟨hw,v,by rw[List.getElem?_append_right (by rw[h.1];exact hl),h.1,e];rfl,n,ho⟩
  |q+1,hi=>simp at hi
 all_goals(apply_rules(newGoals:= .nonDependentOnly)(maxDepth:=1)only[zE];constructor)):p:=h
theorem zq178(h:p:=by
 (try dsimp only);(first|exact HS13.o|(with_reducible exact HS5.o _ bE))
 all_goals(apply_rules(newGoals:= .nonDependentOnly)(maxDepth:=1)only[zE];constructor)):p:=h
theorem zq117(h:p:=by
 refine hKK.out _ _ ?_ (fun hHeld=>?_)
 ·refine' zq178
 refine' zq4
 all_goals(apply_rules(newGoals:= .nonDependentOnly)(maxDepth:=1)only[zE];constructor)):p:=h
theorem zq179(h:p:=by
 (try dsimp only);(first|exact HS13.o|(with_reducible exact HS6.o _ bE))
 all_goals(apply_rules(newGoals:= .nonDependentOnly)(maxDepth:=1)only[zE];constructor)):p:=h
theorem zq118(h:p:=by
 refine hKK.out _ _ ?_ (fun hHeld=>?_)
 ·refine' zq179
 refine' zq4
 all_goals(apply_rules(newGoals:= .nonDependentOnly)(maxDepth:=1)only[zE];constructor)):p:=h
theorem zq119(h:p:=by
 have hk:(e.op==6)=true/\cj e.op=2\/(e.op==6)=false/\decide (12<=e.op)=true/\cj e.op=2\/(e.op==6)=false/\decide (12<=e.op)=false/\cj e.op=1:=by
  unfold cj
  by_cases g6:e.op=6
  ·exact .inl ⟨by simp[g6],if_pos (.inl g6)⟩
  ·by_cases g12:12<=e.op
   ·exact .inr (.inl ⟨by simp[g6],decide_eq_true g12,if_pos (.inr g12)⟩)
   ·exact .inr (.inr ⟨by simp[g6],decide_eq_false g12,if_neg (by omega)⟩)
 have HOK:=zH hok
 all_goals(apply_rules(newGoals:= .nonDependentOnly)(maxDepth:=1)only[zE];constructor)):p:=h
theorem zq120(h:p:=by
 clear hown hown1 hgrow
 go_wp2_with fail
 go_roundw
 case rel=>exact ⟨j+1,by omega,by go_num,by rw[HS.o];exact HO.o,HB.o⟩
 case measure=>simp[intOf];omega
 all_goals(apply_rules(newGoals:= .nonDependentOnly)(maxDepth:=1)only[zE];constructor)):p:=h
theorem zq121(h:p:=by
 clear c0 c1 c2 c3 c4 c5 q0 d1
 refine wp_region_held_drew (S:=fun W=>W.cell? ⟨w.heap.size,0,none⟩=some (.int .i64 op)/\W.cell? ⟨w.heap.size,1,none⟩=some (.int .i64 (m:Int))/\W.cell? ⟨w.heap.size,2,none⟩=some (.int .i64 a)/\W.cell? ⟨w.heap.size,3,none⟩=some (.int .i64 b)/\W.cell? ⟨w.heap.size,4,none⟩=some (.int .i64 c)/\W.cell? ⟨w.heap.size,5,none⟩=some (.int .i64 k)) (by kernel_rfl) ?_ (fun hHeld=>?_)
 ·refine' zq21
 all_goals(apply_rules(newGoals:= .nonDependentOnly)(maxDepth:=1)only[zE];constructor)):p:=h
theorem zq125(h:p:=by
 have HW:=zH hw
 obtain ⟨m,rfl⟩:=Int.eq_ofNat_of_zero_le hw.1
 have hm:m<f.wires.length:=by have:=hw.2;omega
 have hm':(m:Int)<f.wires.length:=by omega
 all_goals(apply_rules(newGoals:= .nonDependentOnly)(maxDepth:=1)only[zE];constructor)):p:=h
theorem zq126(h:p:=by
 subst hop
 clear hu
 go_enter Tryz.func68,Tryz.ntmps68
 go_upto_region 1 with (fail)
 all_goals(apply_rules(newGoals:= .nonDependentOnly)(maxDepth:=1)only[zE];constructor)):p:=h
theorem zq127(h:p:=by
 go_enter Tryz.func110,Tryz.ntmps110
 go_wp2_with fail
 all_goals(apply_rules(newGoals:= .nonDependentOnly)(maxDepth:=1)only[zE];constructor)):p:=h
theorem zq129(h:p:=by
 go_upto_region 1 with (fail)
 generalize w.alloc (.cells #[.slice Aw f.wires.length cw,.slice Ad f.defs.length cd,.slice Ai f.ins.length ci,.slice Ao f.outs.length co] 33)=w1 at*
 have hFl:=rF.lt
 have hs1:=b1.size
 all_goals(apply_rules(newGoals:= .nonDependentOnly)(maxDepth:=1)only[zE];constructor)):p:=h
theorem zq130(h:p:=by
 have bX:=ai.new w #[.int .i64 op,.int .i64 dst,.int .i64 0,.int .i64 0,.int .i64 0,.int .i64 (j:Int)] 58
 have b1:Below w.heap.size w (w.alloc (.cells #[.int .i64 op,.int .i64 dst,.int .i64 0,.int .i64 0,.int .i64 0,.int .i64 (j:Int)] 58)):=bE
 refine' zq55
 generalize hW1:w.alloc (.cells #[.int .i64 op,.int .i64 dst,.int .i64 0,.int .i64 0,.int .i64 0,.int .i64 (j:Int)] 58)=w1 at*
 refine' zq2
 all_goals(apply_rules(newGoals:= .nonDependentOnly)(maxDepth:=1)only[zE];constructor)):p:=h
theorem zq132(h:p:=by
 clear d0 d1 d2 d3 d4 d5 d6 d7
 refine wp_region_held_drew (S:=fun W=>W.cell? ⟨bx,0,none⟩=some (.int .i64 e.op)/\W.cell? ⟨bx,1,none⟩=some (.string e.name)/\W.cell? ⟨bx,2,none⟩=some (.int .i64 e.n)/\W.cell? ⟨bx,3,none⟩=some (.slice A e.args.length cap)/\W.cell? ⟨bx,4,none⟩=some (.int .i64 e.line)/\W.cell? ⟨bx,5,none⟩=some (.int .i64 e.col)) (by kernel_rfl) ?_ (fun hHeld=>?_)
 ·refine' zq82
 all_goals(apply_rules(newGoals:= .nonDependentOnly)(maxDepth:=1)only[zE];constructor)):p:=h
theorem zq133(h:p:=by
 have HGA:=zH HGda
 have HGB:Hid (∀(n:Nat) (V:Bool) (hV:cB (aa f (md:Int)=aa f (mb:Int))=V),Calls Tryz.prog 31 #[.slice Agd (aa f (md:Int)).length cgd,.slice Agb (aa f (mb:Int)).length cgb] (w5.drewN n) fun e w'=>e= .returned (.bool V)/\∃m,w'=(w5.drewN n).drewN m):=fun n V hV=>by
  have:=da _ _ _ _ _ (w5.drewN n) SVd SVb
  rw[hV] at this
  exact this
 all_goals(apply_rules(newGoals:= .nonDependentOnly)(maxDepth:=1)only[zE];constructor)):p:=h
theorem zq134(h:p:=by
 refine' zq38
 go_ret
 exact ⟨aj HF.o.symm,HBW.o _ (ap b5 n)⟩
 all_goals(apply_rules(newGoals:= .nonDependentOnly)(maxDepth:=1)only[zE];constructor)):p:=h
theorem zq209(h:p:=by
 refine' zq62
 have ma':ca<=9223372036854775807:=by unfold maxLen at ma;omega
 have mi':ci<=9223372036854775807:=by unfold maxLen at mi;omega
 all_goals(apply_rules(newGoals:= .nonDependentOnly)(maxDepth:=1)only[zE];constructor)):p:=h
theorem zq135(h:p:=by
 refine' zq209
 have HH:=zH h
 have HI:=zH hins
 have b0:=(Below.refl w.heap.size w).alloc (Nat.le_refl _) (.cells #[.int .i64 (-1)] 3)
 have HR:=zH (nJ (-1) f.wires.length w.heap.size 0 1 hwl (w.alloc (.cells #[.int .i64 (-1)] 3)) (by simp) (by simp))
 all_goals(apply_rules(newGoals:= .nonDependentOnly)(maxDepth:=1)only[zE];constructor)):p:=h
theorem zq136(h:p:=by
 obtain ⟨b,off,x,Ag,cg,hAw,hbb,hx,wx,d0,d1,lg,mg,sg⟩:=(HSW.o _ (HBW.o _ hb)).wr hlt
 subst hAw
 have HX:=zH hx
 have mg':cg<=9223372036854775807:=by unfold maxLen at mg;omega
 have ba:Below wr.heap.size wr (wr.alloc (.cells #[.int .i64 x.ty,.slice Ag x.clock.length cg] 52)):=bE
 have r4:=ai.new wr #[.int .i64 x.ty,.slice Ag x.clock.length cg] 52
 have hb4:=hb.trans (ba.mono hsr)
 all_goals(apply_rules(newGoals:= .nonDependentOnly)(maxDepth:=1)only[zE];constructor)):p:=h
theorem zq138(h:p:=by
 have HM:Hid (aZ d2+(if b2=true then 1 else 0)<gk):=by
  show _<_
  cases b2
  ·rw[(HF.o rfl).1];simp;omega
  ·have:=HT.o rfl;simp;omega
 all_goals(apply_rules(newGoals:= .nonDependentOnly)(maxDepth:=1)only[zE];constructor)):p:=h
theorem zq141(h:p:=by
 go_simp
 (go_at_call 80;refine Calls.mono (HPW.o _ bE) ?_;rintro r w5 ⟨rfl,q5,m5,hA5⟩;(have HA5:=zH hA5);(have HK5:=zH (fun W' (hW:Below w5.heap.size w5 W')=>HK.o _ _ (((aB.of_below (bE:Below w1.heap.size w1 _)).trans m5).trans (aB.of_below hW))));clear hA5 m5)
 (try go_wp2_with fail)
 refine hKK.out _ _ ?_ (fun hHeld=>?_)
 ·refine' zq82
 refine' zq4
 all_goals(apply_rules(newGoals:= .nonDependentOnly)(maxDepth:=1)only[zE];constructor)):p:=h
theorem zq143(h:p:=by
 have HH:=zH h
 have hBw:=hB
 obtain ⟨wop,wd,wa,wb,wc,wk⟩:=wx
 dsimp only at wop wd wa wb wc wk
 clear h hB
 all_goals(apply_rules(newGoals:= .nonDependentOnly)(maxDepth:=1)only[zE];constructor)):p:=h
theorem zq144(h:p:=by
 refine' zq85
 refine tk 4 (some 37) rfl ?_
 refine tk 5 (some 38) rfl ?_
 refine tk 6 (some 39) rfl ?_
 refine tk 7 (some 40) rfl ?_
 refine tk 8 (some 41) rfl ?_
 refine tk 9 (some 42) rfl ?_
 refine tk 10 (some 43) rfl ?_
 refine tk 11 (some 44) rfl ?_
 refine tk 12 (some 45) rfl ?_
 refine tk 13 (some 46) rfl ?_
 refine tk 14 (some 47) rfl ?_
 refine tk 15 (some 48) rfl ?_
 refine tk 16 (some 49) rfl ?_
 all_goals(apply_rules(newGoals:= .nonDependentOnly)(maxDepth:=1)only[zE];constructor)):p:=h
theorem zq148(h:p:=by
 obtain ⟨wo,rfl⟩:∃wo:World,wo=wr:=⟨_,rfl⟩
 all_goals(apply_rules(newGoals:= .nonDependentOnly)(maxDepth:=1)only[zE];constructor)):p:=h
theorem zq149(h:p:=by
 go_wp2_with fail
 go_ret
 exact ⟨aj HF.o.symm,HBW.o _ b5⟩
 all_goals(apply_rules(newGoals:= .nonDependentOnly)(maxDepth:=1)only[zE];constructor)):p:=h
theorem zq152(h:p:=by
 (try go_wp2_with fail)
 refine hKK.out _ _ ?_ (fun hHeld=>?_)
 ·(try dsimp only);(first|(with_reducible exact HX6.o _ bE))
 refine' zq4
 all_goals(apply_rules(newGoals:= .nonDependentOnly)(maxDepth:=1)only[zE];constructor)):p:=h
theorem zq153(h:p:=by
 obtain ⟨bg,og,⟨gw,gn⟩,hAg,hbg,hgg,wg,e0,e1⟩:=(HGD.o _ hb).gd (k:=j) (by rw[HLEN.o];exact hlt)
 subst hAg
 dsimp only at e0 e1
 all_goals(apply_rules(newGoals:= .nonDependentOnly)(maxDepth:=1)only[zE];constructor)):p:=h
theorem zq154(h:p:=by
 obtain ⟨j,hj,rfl,hown,hb⟩:=hrel
 have hsr:=hb.size
 clear y0 y1 c0 c1 c2 c3 c4 c5
 obtain ⟨y0,y1,c0,c1,c2,c3,c4,c5⟩:=HD.o wr hb
 all_goals(apply_rules(newGoals:= .nonDependentOnly)(maxDepth:=1)only[zE];constructor)):p:=h
theorem zq156(h:p:=by
 obtain ⟨q1,q2,q3⟩:=jL (s:=(s.cell 2 1).2) (ty:=2) (c:=c) (a:=⟨21,0,0,0,0,(s.cell 2 1).1⟩)
 obtain ⟨v1,v2,v3⟩:=jL (s:=((s.cell 2 1).2.put 2 c ⟨21,0,0,0,0,(s.cell 2 1).1⟩).2) (ty:=2) (c:=c) (a:=⟨2,0,0,0,0,0⟩)
 have hx:=av (s:=((s.cell 2 1).2.put 2 c ⟨21,0,0,0,0,(s.cell 2 1).1⟩).2) (ty:=2) (c:=c) (a:=⟨2,0,0,0,0,0⟩)
 all_goals(apply_rules(newGoals:= .nonDependentOnly)(maxDepth:=1)only[zE];constructor)):p:=h
theorem zq157(h:p:=by
 go_wp2_with fail
 go_ret
 exact ⟨aj HF.o.symm,HBC.o⟩
 all_goals(apply_rules(newGoals:= .nonDependentOnly)(maxDepth:=1)only[zE];constructor)):p:=h
theorem zq158(h:p:=by
 refine ⟨by simp[h.1,h'.1],fun i x cs hx hc=>?_⟩
 rcases Nat.lt_or_ge i l.length with hi|hi
 ·rw[List.getElem?_append_left hi] at hx
  rw[List.getElem?_append_left (by rw[h.1];exact hi)] at hc
  exact h.2 i x cs hx hc
 ·rw[List.getElem?_append_right hi] at hx
  rw[List.getElem?_append_right (by rw[h.1];exact hi),h.1] at hc
  exact h'.2 _ x cs hx hc
 all_goals(apply_rules(newGoals:= .nonDependentOnly)(maxDepth:=1)only[zE];constructor)):p:=h
theorem zq159(h:p:=by
 have e2:IntKind.i64.wrap ((n:Int)+((min n (c-n):Nat):Int))=(n:Int)+((min n (c-n):Nat):Int):=IntWalk.i64_in _ (by omega)
 generalize hM:min n (c-n)=mm at*
 have hmm:1<=mm:=by omega
 have hmc:n+mm<=c:=by omega
 have HMM:=zH hM
 clear hM
 go_wp2_with fail
 go_roundw
 case rel=>exact ⟨n+mm,by omega,hmc,by go_num,R3,hb3⟩
 case measure=>simp[intOf];omega
 all_goals(apply_rules(newGoals:= .nonDependentOnly)(maxDepth:=1)only[zE];constructor)):p:=h
theorem zq162(h:p:=by
 refine hKK.out _ _ ?_ (fun hHeld=>?_)
 ·(try dsimp only);(first|exact HS13.o|(with_reducible exact HK4.o _ bE))
 refine' zq4
 all_goals(apply_rules(newGoals:= .nonDependentOnly)(maxDepth:=1)only[zE];constructor)):p:=h
theorem zq163(h:p:=by
 rintro e w' ⟨rfl,rfl⟩
 go_wp2_with fail
 go_ret
 all_goals(apply_rules(newGoals:= .nonDependentOnly)(maxDepth:=1)only[zE];constructor)):p:=h
theorem zq164(h:p:=by
 have HNr:=zH hN
 have HC:Hid (Calls Tryz.prog 61 #[.slice (some ⟨K,0,none⟩) f.wires.length f.wires.length,.int .i64 (-1)] wr fun e w'=>e= .returned (.bool (cB ((-1:Int)∈bs)))/\wr=w'):=by
  have:=kU (l:=bs) (by simpa[al] using rK) (by rw[HBL.o];omega) (-1)
  rw[HBL.o] at this
  exact this
 all_goals(apply_rules(newGoals:= .nonDependentOnly)(maxDepth:=1)only[zE];constructor)):p:=h
theorem zq166(h:p:=by
 unfold aZ
 have hl:n.toNat<ds.length:=by omega
 simp only[aL,List.getD_eq_getElem?_getD,List.getElem?_eq_getElem hl,Option.getD_some] at hf
 have hp:0<ds.countP (fun b=>!b):=List.countP_pos_iff.2 ⟨ds[n.toNat],List.getElem_mem hl,by simp[hf]⟩
 rw[List.countP_set hl,hf,Bool.not_false,if_pos rfl,Bool.not_true,if_neg (by decide)]
 omega
 all_goals(apply_rules(newGoals:= .nonDependentOnly)(maxDepth:=1)only[zE];constructor)):p:=h
theorem zq169(h:p:=by
 injection hA' with hA1 _ hA3
 subst hA1;subst hA3
 all_goals(apply_rules(newGoals:= .nonDependentOnly)(maxDepth:=1)only[zE];constructor)):p:=h
theorem zq173(h:p:=by
 have hV:=zH (aq hw)
 obtain ⟨n,hn⟩:=Int.eq_ofNat_of_zero_le hw.1
 have hw1:0<=gw:=hw.1
 have hw2:gw<f.wires.length:=hw.2
 subst hn
 have hwn:n<f.wires.length:=by omega
 obtain ⟨by_,oy,y,Ay,cy,hAy,hby,hy,wy,y0,y1,ly,my,sy⟩:=(HW.o w3 hB3).wr hwn
 injection hAy with hAy
 injection hAy with h1 h2
 subst h1;subst h2
 all_goals(apply_rules(newGoals:= .nonDependentOnly)(maxDepth:=1)only[zE];constructor)):p:=h
theorem zq294(h:p:=by
 (try dsimp only);(first|exact HK.o _ hu8'|exact HK.o _ (ae.of_below ((Below.refl _ _).drew)))
 all_goals(apply_rules(newGoals:= .nonDependentOnly)(maxDepth:=1)only[zE];constructor)):p:=h
theorem zq175(h:p:=by
 clear sl hx wx d0 d1
 go_upto_region 4 with (fail)
 refine wp_region_held_drew (S:=fun W=>W.cell? ⟨b,off+k*2,none⟩=some (.int .i64 gw)/\W.cell? ⟨b,off+k*2+1,none⟩=some (.bool gn)) (by kernel_rfl) ?_ (fun hHeld=>?_)
 ·refine' zq294
 all_goals(apply_rules(newGoals:= .nonDependentOnly)(maxDepth:=1)only[zE];constructor)):p:=h
theorem zq176(h:p:=by
 rcases ht with h|h
 ·have e1:(x.ty !=1)=false:=by rw[bne_eq_false_iff_eq];exact h
  clear h
  go_wp2_with fail
  go_meet
  exact ⟨rfl,rfl⟩
 ·have e1:(x.ty !=1)=true:=by rw[bne_iff_ne];omega
  have e2:(x.ty !=2)=false:=by rw[bne_eq_false_iff_eq];exact h
  clear h
  go_wp2_with fail
  go_meet
  exact ⟨rfl,rfl⟩
 all_goals(apply_rules(newGoals:= .nonDependentOnly)(maxDepth:=1)only[zE];constructor)):p:=h
theorem zq177(h:p:=by
 clear c0 c1 c2 c3 c4 c5
 obtain ⟨Z,q5,rfl,ha5⟩:=hcut
 obtain ⟨w5,rfl⟩:∃w5:World,w5=wc:=⟨_,rfl⟩
 have HA5:=zH ha5
 have HF5:=zH ha5.fr
 obtain ⟨z0,z1,z2,z3,z4,z5⟩:=ha5.row.six'
 have g1:=ha5.row.frozen 1
 have g3:=ha5.row.frozen 3
 clear ha5
 obtain ⟨c0,c1,c2,c3,c4,c5⟩:=HK.o _ _ HF5.o
 all_goals(apply_rules(newGoals:= .nonDependentOnly)(maxDepth:=1)only[zE];constructor)):p:=h
theorem zq182(h:p:=by
 refine wpAnyH_done (by kernel_rfl) ?_ _
 clear hHeld HK5 HK6 HK HBX HD6 c0 c1 c2 c3 c4 c5
 have HX7:=zH (HBG.o _ _ H6.o (HCK.o _ _ HM6.o))
 go_wp2_with fail
 (with_reducible refine HX7.o.mono ?_)
 rintro r w7 ⟨rfl,q7,h7,m7⟩
 have HM7:=zH (HM6.o.trans m7)
 have H7:=zH h7
 clear h7 m7
 all_goals(apply_rules(newGoals:= .nonDependentOnly)(maxDepth:=1)only[zE];constructor)):p:=h
theorem zq183(h:p:=by
 have HX8:=zH (HCH.o _ _ H7.o (HCK.o _ _ HM7.o))
 go_wp2_with fail
 (with_reducible refine HX8.o.mono ?_)
 rintro r w8 ⟨rfl,q8,h8,m8⟩
 have HM8:=zH (HM7.o.trans m8)
 have H8:=zH h8
 clear h8 m8
 go_wp2_with fail
 go_ret
 rw[HE.o]
 exact ⟨rfl,q8,H8.o,HM1.o.trans HM8.o⟩
 all_goals(apply_rules(newGoals:= .nonDependentOnly)(maxDepth:=1)only[zE];constructor)):p:=h
theorem zq184(h:p:=by
 have md':cd<=9223372036854775807:=by unfold maxLen at md;omega
 all_goals(apply_rules(newGoals:= .nonDependentOnly)(maxDepth:=1)only[zE];constructor)):p:=h
theorem zq185(h:p:=by
 generalize hD:w.heap.size+1=D at*
 generalize hG:w.heap.size=G at*
 have hs1:=b1.size
 have hGD:G≠D:=by omega
 have hGD':G<=D:=by omega
 have hDlt:=rD1.lt
 have HFI:Hid (∀W,ae (fun k=>k=D) w1 W->Below G w W):=fun W hW=>(b1.trans ((hW.below (B:=D) (fun k hk=>by omega) (by omega)).mono (by omega)))
 all_goals(apply_rules(newGoals:= .nonDependentOnly)(maxDepth:=1)only[zE];constructor)):p:=h
theorem zq186(h:p:=by
 clear hp
 go_wp2_with fail
 (with_reducible refine (HPC.o _ hb).mono ?_)
 rintro e w3 ⟨rfl,hb3⟩
 have hb13:=hb.trans (hb3.mono hsr)
 clear f0 f1 f2 f3 f4 f5
 obtain ⟨f0,f1,f2,f3,f4,f5⟩:=HF6.o w3 hb13
 go_wp2_with fail
 (with_reducible refine (HPO.o _ hb13).mono ?_)
 rintro e w4 ⟨rfl,hb4⟩
 all_goals(apply_rules(newGoals:= .nonDependentOnly)(maxDepth:=1)only[zE];constructor)):p:=h
theorem zq188(h:p:=by
 have HV:=zH hv
 obtain ⟨A,cap,rfl,l1,m1,_⟩:=hv W (ae.refl _ _)
 have m1':cap<=9223372036854775807:=by unfold maxLen at m1;omega
 have HH:=zH h
 all_goals(apply_rules(newGoals:= .nonDependentOnly)(maxDepth:=1)only[zE];constructor)):p:=h
theorem zq189(h:p:=by
 refine sk 14 (some 40) rfl ?_
 refine sk 15 (some 41) rfl ?_
 refine sk 16 (some 42) rfl ?_
 refine sk 17 (some 43) rfl ?_
 refine sk 18 (some 44) rfl ?_
 refine sk 19 (some 45) rfl ?_
 refine sk 20 (some 46) rfl ?_
 refine tk 21 (some 47) rfl ?_
 refine' zq26
 go_meet
 exact ⟨by rw[HF.o];rfl,bE⟩
 all_goals(apply_rules(newGoals:= .nonDependentOnly)(maxDepth:=1)only[zE];constructor)):p:=h
theorem zq190(h:p:=by
 simp only[List.drop_zero,List.drop_succ_cons,List.take_succ_cons,List.take_zero] at h0 h1
 obtain ⟨a,ha,_,wa⟩:=DataW.trod_int Tryz.underlying3 h0
 all_goals(apply_rules(newGoals:= .nonDependentOnly)(maxDepth:=1)only[zE];constructor)):p:=h
theorem zq193(h:p:=by
 injection he with he1 he2 he3
 subst he1
 obtain ⟨b,off,n,rfl,hbb,hx,wx,d0⟩:=si.int hlt
 have hw:=HI.o n (List.mem_of_getElem? hx)
 have HX:=zH hx
 all_goals(apply_rules(newGoals:= .nonDependentOnly)(maxDepth:=1)only[zE];constructor)):p:=h
theorem zq197(h:p:=by
 have hl':((l.length:Int) !=(m.length:Int))=false:=by rw[bne_eq_false_iff_eq];omega
 have HL:=zH hl
 have hle1:l.length<=m.length:=by omega
 clear hl
 all_goals(apply_rules(newGoals:= .nonDependentOnly)(maxDepth:=1)only[zE];constructor)):p:=h
theorem zq200(h:p:=by
 obtain ⟨A',c',hA',_,_,sl⟩:=HV.o W1 (HU.o.trans u)
 refine' zq169
 obtain ⟨b',off',g',hA',_,hx',_,e0,e1⟩:=sl.gd hlt
 injection hA' with hA'
 injection hA' with h1 h2
 subst h1;subst h2
 obtain rfl:(⟨gw,gn⟩:Gd)=g':=Option.some.inj (HX.o.symm.trans hx')
 exact ⟨e0,e1⟩
 all_goals(apply_rules(newGoals:= .nonDependentOnly)(maxDepth:=1)only[zE];constructor)):p:=h
theorem zq203(h:p:=by
 go_enter Tryz.func30,Tryz.ntmps30
 go_wp2_with fail
 go_ret
 exact ⟨aj HF.o.symm,b1⟩
 all_goals(apply_rules(newGoals:= .nonDependentOnly)(maxDepth:=1)only[zE];constructor)):p:=h
theorem zq204(h:p:=by
 have h0:DataW.trod enc Tryz.prog w 0 spare held n 3 (([c0,c1].drop 0).take (Tryz.prog.cellsOf 3))=some xs[0]:=(hf 0 _ rfl).trans e0
 all_goals(apply_rules(newGoals:= .nonDependentOnly)(maxDepth:=1)only[zE];constructor)):p:=h
theorem zq206(h:p:=by
 have HW:=zH hwa
 clear hu hwa hda HWT
 go_wp2_with fail
 refine (HW.o _ _ _ HR3.o).mono ?_
 rintro e w4 ⟨rfl,hw4,hr4,hu4⟩
 have HW4:=zH hw4
 clear hw4
 go_wp2_with fail
 go_ret
 exact ⟨az HV.o,by rw[<-HV.o];exact HW4.o,hr4,HU3.o.trans hu4⟩
 all_goals(apply_rules(newGoals:= .nonDependentOnly)(maxDepth:=1)only[zE];constructor)):p:=h
theorem zq207(h:p:=by
 obtain ⟨Av,cv,rfl,lv,mv,sv⟩:=hv
 have mv':cv<=9223372036854775807:=by unfold maxLen at mv;omega
 all_goals(apply_rules(newGoals:= .nonDependentOnly)(maxDepth:=1)only[zE];constructor)):p:=h
theorem zq208(h:p:=by
 rcases hown.2 with ⟨rfl,rfl⟩|⟨g,cap,cur,rfl,_,_,hnc,_⟩
 ·simp[Builtin.append_,run_underlying ht,sizeOf,typeInfo,hi,Builtin.lenOf,Builtin.firstCells]
 ·simp[Builtin.append_,run_underlying ht,sizeOf,typeInfo,hi,Builtin.lenOf,Builtin.firstCells,hnc,storeCells]
 all_goals(apply_rules(newGoals:= .nonDependentOnly)(maxDepth:=1)only[zE];constructor)):p:=h
theorem zq210(h:p:=by
 obtain ⟨A,cw,hva,hnil,_⟩:=bH how
 dsimp only at hva
 subst hva
 have hcw:cw<=9223372036854775807:=by
  obtain ⟨A',c',he,_,hm,_⟩:=fJ how
  injection he with _ _ he
  unfold maxLen at hm
  omega
 have hB:=h.bel.size
 have hlo:=h.lo
 have hDl:=h.row.lt
 all_goals(apply_rules(newGoals:= .nonDependentOnly)(maxDepth:=1)only[zE];constructor)):p:=h
theorem zq212(h:p:=by
 have e1:decide (xo<=2)=false:=by simp;omega
 have e2:(xo==21)=false:=by rw[beq_eq_false_iff_ne];omega
 have e3:(xo==3)=false:=by rw[beq_eq_false_iff_ne];omega
 have e4:(xo==24)=false:=by rw[beq_eq_false_iff_ne];omega
 have e5:decide (26<=xo)=false:=by simp;omega
 all_goals(apply_rules(newGoals:= .nonDependentOnly)(maxDepth:=1)only[zE];constructor)):p:=h
theorem zq214(h:p:=by
 have hsz:=HU.o.size
 obtain ⟨A',c',hA',_,_,sl⟩:=HV.o wr HU.o
 refine' zq169
 obtain ⟨b,off,⟨gw,gn⟩,rfl,hbB,hx,wx,d0,d1⟩:=sl.gd hlt
 dsimp only at d0 d1
 have hlt':(k:Int)<c.length:=by omega
 have HGW:=zH (HC.o _ (List.mem_of_getElem? hx))
 all_goals(apply_rules(newGoals:= .nonDependentOnly)(maxDepth:=1)only[zE];constructor)):p:=h
theorem zq261(h:p:=by
 unfold dO
 rw[List.nodup_append]
 refine ⟨gG (om.1 h4),hp,fun a ha b hb e=>?_⟩
 obtain ⟨x,hx,rfl⟩:=List.mem_map.1 hb
 obtain ⟨i,hi'⟩:=List.getElem?_of_mem hx
 exact (h6 i x hi').2.1 (e▸ha)
 all_goals(apply_rules(newGoals:= .nonDependentOnly)(maxDepth:=1)only[zE];constructor)):p:=h
theorem zq216(h:p:=by
 have hnd:(dO f f.acts).Nodup:=by
  refine' zq261
 all_goals(apply_rules(newGoals:= .nonDependentOnly)(maxDepth:=1)only[zE];constructor)):p:=h
theorem zq217(h:p:=by
 have HF:=zH (ab (fun g:l=m=>hl (by rw[g])))
 have hl':((l.length:Int) !=(m.length:Int))=true:=by rw[bne_iff_ne];omega
 clear hl
 all_goals(apply_rules(newGoals:= .nonDependentOnly)(maxDepth:=1)only[zE];constructor)):p:=h
theorem zq218(h:p:=by
 have HQ':=zH (aC HQ.o (fun y hy=>by rw[HGG.o] at hy;injection hy with hy;rw[<-hy];exact cb.1 HP2.o))
 go_wp2_with fail
 go_roundw
 case rel=>exact ⟨q+1,by omega,by go_num,HQ'.o,(HLOW.o _ hbc).1⟩
 case measure=>simp[intOf];omega
 all_goals(apply_rules(newGoals:= .nonDependentOnly)(maxDepth:=1)only[zE];constructor)):p:=h
theorem zq219(h:p:=by
 have l2:=eI _ (dO f f.acts) (gR f.wires.length) (fun n hn=>by
  obtain ⟨a,b⟩:=cJ.1 hn
  have:=hd'.2.2 n.toNat (by omega)
  rwa [show ((n.toNat:Nat):Int)=n by omega] at this)
 rw[f'] at l1 l2
 simp[dO] at l1 l2
 omega
 all_goals(apply_rules(newGoals:= .nonDependentOnly)(maxDepth:=1)only[zE];constructor)):p:=h
theorem zq220(h:p:=by
 have mc':cc<=9223372036854775807:=by unfold maxLen at mc;omega
 all_goals(apply_rules(newGoals:= .nonDependentOnly)(maxDepth:=1)only[zE];constructor)):p:=h
theorem zq221(h:p:=by
 clear hT
 refine' zq34
 refine tk 12 (some 179) rfl ?_
 refine tk 13 (some 180) rfl ?_
 refine tk 14 (some 181) rfl ?_
 refine tk 15 (some 182) rfl ?_
 refine tk 16 (some 183) rfl ?_
 refine tk 17 (some 184) rfl ?_
 refine tk 18 (some 4) rfl ?_
 refine' zq54
 all_goals(apply_rules(newGoals:= .nonDependentOnly)(maxDepth:=1)only[zE];constructor)):p:=h
theorem zq222(h:p:=by
 generalize ah x c s=p at*
 obtain ⟨p1,sa⟩:=p
 dsimp only at*
 generalize ah y c sa=p at*
 obtain ⟨p2,sb⟩:=p
 dsimp only at*
 all_goals(apply_rules(newGoals:= .nonDependentOnly)(maxDepth:=1)only[zE];constructor)):p:=h
theorem zq223(h:p:=by
 have HSGN:∀W,Calls Tryz.prog 72 #[.int .i64 op] W fun e w'=>e= .returned (.tuple #[.int .i64 (Vf.signIn op),.int .i64 (Vf.signOut op),.bool true])/\Below W.heap.size W w':=fun W=>pd op W (by have:=HOP.o;omega)
 all_goals(apply_rules(newGoals:= .nonDependentOnly)(maxDepth:=1)only[zE];constructor)):p:=h
theorem zq224(h:p:=by
 (try dsimp only);(first|exact HS.o _ hu9|exact HS.o _ hu8'|exact HS.o _ (U2.o.trans (ae.of_below ((Below.refl _ _).drew))))
 all_goals(apply_rules(newGoals:= .nonDependentOnly)(maxDepth:=1)only[zE];constructor)):p:=h
theorem zq225(h:p:=by
 intro v13 w13 hown13 hg13 _ hv13
 have HA13:=zH (HAD.o w13 v13 hown13 hg13 (by simpa using hv13))
 have rD13:=HRD.o w13 hg13
 all_goals(apply_rules(newGoals:= .nonDependentOnly)(maxDepth:=1)only[zE];constructor)):p:=h
theorem zq227(h:p:=by
 (try dsimp only);(first|(with_reducible exact (HS.o _ bE).2.1)|go_keep)
 all_goals(apply_rules(newGoals:= .nonDependentOnly)(maxDepth:=1)only[zE];constructor)):p:=h
theorem zq228(h:p:=by
 by_cases hS0:si=0
 ·have eS0:(si==0)=true:=by simpa using hS0
  clear hT hS hA hS0
  refine' zq10
 have eS0:(si==0)=false:=by simpa using hS0
 have eS:(ag f (ma:Int)==si)=true:=by simpa using hS.resolve_left hS0
 clear hT hS hA hS0
 refine' zq10
 all_goals(apply_rules(newGoals:= .nonDependentOnly)(maxDepth:=1)only[zE];constructor)):p:=h
theorem zq229(h:p:=by
 have HV2:=zH (fun n=>HGB.o n false (ab hC))
 clear hC
 refine' zq38
 (with_reducible refine Calls.mono (HV2.o n) ?_)
 rintro e wg ⟨rfl,m,rfl⟩
 go_wp2_with fail
 go_ret
 exact ⟨aj HF.o.symm,HBW.o _ (ap b5 _)⟩
 all_goals(apply_rules(newGoals:= .nonDependentOnly)(maxDepth:=1)only[zE];constructor)):p:=h
theorem zq231(h:p:=by
 have fD:=rD5.frozen m
 have cD:=cU rD5 (n:=m) (by rw[HDL.o];exact hm)
 have rD6:=zH (iH (m:=m) rD5 true)
 have uD6:=zH (ae.setCell (X:=fun k=>k=D) (p:=⟨D,m,none⟩) u5 rfl (.bool true))
 generalize aL d2 (m:Int)=V at cD
 all_goals(apply_rules(newGoals:= .nonDependentOnly)(maxDepth:=1)only[zE];constructor)):p:=h
theorem zq232(h:p:=by
 have HPW:=zH (fun W' (hW:Below (W.alloc (.cells (bi e A cap) 75)).heap.size (W.alloc (.cells (bi e A cap) 75)) W')=>HPU.o W' q (h1.below hW) (hc.fr (aB.of_below (b1.trans (hW.mono b1.size)))))
 refine' zq122
 all_goals(apply_rules(newGoals:= .nonDependentOnly)(maxDepth:=1)only[zE];constructor)):p:=h
theorem zq236(h:p:=by
 refine sk 7 (some 61) rfl ?_
 refine sk 8 (some 62) rfl ?_
 refine sk 9 (some 63) rfl ?_
 refine sk 10 (some 64) rfl ?_
 refine sk 11 (some 65) rfl ?_
 refine sk 12 (some 66) rfl ?_
 refine sk 13 (some 67) rfl ?_
 refine sk 14 (some 68) rfl ?_
 all_goals(apply_rules(newGoals:= .nonDependentOnly)(maxDepth:=1)only[zE];constructor)):p:=h
theorem zq237(h:p:=by
 refine hKK.out _ _ ?_ (fun hHeld=>?_)
 ·refine' zq227
 refine' zq4
 all_goals(apply_rules(newGoals:= .nonDependentOnly)(maxDepth:=1)only[zE];constructor)):p:=h
theorem zq238(h:p:=by
 go_simp
 (go_at_call 64;(first|(with_reducible refine (iL HN5.o hB5 hd HTd.o bE).mono ?_)|(with_reducible refine (iL HN5.o hB5 ha HTa.o bE).mono ?_));rintro e w8 ⟨rfl,rfl⟩)
 refine' zq13
 all_goals(apply_rules(newGoals:= .nonDependentOnly)(maxDepth:=1)only[zE];constructor)):p:=h
theorem zq239(h:p:=by
 subst hop
 obtain ⟨h1,h2,h3⟩:=h
 simp[au,bl,h1,h2,h3,and_assoc]
 all_goals(apply_rules(newGoals:= .nonDependentOnly)(maxDepth:=1)only[zE];constructor)):p:=h
theorem zq240(h:p:=by
 rintro e w1 ⟨rfl,hb1⟩
 go_wp2_with fail
 go_ret2
 exact ⟨rfl,hb1⟩
 all_goals(apply_rules(newGoals:= .nonDependentOnly)(maxDepth:=1)only[zE];constructor)):p:=h
theorem zq241(h:p:=by
 refine sk 17 (some 135) rfl ?_
 refine sk 18 (some 136) rfl ?_
 refine sk 19 (some 137) rfl ?_
 refine sk 20 (some 138) rfl ?_
 refine sk 21 (some 139) rfl ?_
 refine tk 22 (some 140) rfl ?_
 refine tk 23 (some 141) rfl ?_
 refine' zq40
 all_goals(apply_rules(newGoals:= .nonDependentOnly)(maxDepth:=1)only[zE];constructor)):p:=h
theorem zq242(h:p:=by
 subst ho
 have HV:Hid (xk=aK f cs row (m:Int)):=(lm HOK.o cs row HX.o (by dsimp only;decide)).symm
 clear hu
 go_wp2_with fail
 go_ret
 exact ⟨az HV.o,by rw[<-HV.o];exact HWX.o.k,⟨_,_,HR3.o⟩,HU3.o⟩
 all_goals(apply_rules(newGoals:= .nonDependentOnly)(maxDepth:=1)only[zE];constructor)):p:=h
theorem zq243(h:p:=by
 go_wp2_with fail
 (with_reducible refine HW1.o.mono ?_)
 rintro e w3 ⟨rfl,hb3⟩
 obtain ⟨x0,x1,x2,x3⟩:=HR3.o _ hb3
 all_goals(apply_rules(newGoals:= .nonDependentOnly)(maxDepth:=1)only[zE];constructor)):p:=h
theorem zq244(h:p:=by
 refine sk 12 (some 179) rfl ?_
 refine sk 13 (some 180) rfl ?_
 refine sk 14 (some 181) rfl ?_
 refine sk 15 (some 182) rfl ?_
 refine sk 16 (some 183) rfl ?_
 refine tk 17 (some 184) rfl ?_
 refine tk 18 (some 4) rfl ?_
 refine' zq54
 all_goals(apply_rules(newGoals:= .nonDependentOnly)(maxDepth:=1)only[zE];constructor)):p:=h
theorem zq245(h:p:=by
 go_wp2_with fail
 go_ret
 exact ⟨az HF.o.symm,b1⟩
 all_goals(apply_rules(newGoals:= .nonDependentOnly)(maxDepth:=1)only[zE];constructor)):p:=h
theorem zq246(h:p:=by
 go_wp2_with fail
 all_goals
  go_ret
  refine ⟨aj ?_,hb⟩
  rw[HF.o,Bool.eq_iff_iff,cb]
  simp
  try omega
 all_goals(apply_rules(newGoals:= .nonDependentOnly)(maxDepth:=1)only[zE];constructor)):p:=h
theorem zq247(h:p:=by
 have hmb:m<bs.length:=by rw[HBL.o];exact hm
 have HNO:=zH (fun hf=>tU HD.o HX.o HW.o hf)
 have HYES:=zH (fun hf=>su (v:=(j:Int)) HD.o HW.o hf (by omega))
 have HTS:=zH (xh HX.o)
 all_goals(apply_rules(newGoals:= .nonDependentOnly)(maxDepth:=1)only[zE];constructor)):p:=h
theorem zq248(h:p:=by
 go_wp2_with (go_at_call 122;refine (jD _ _).mono ?_;rintro e w' ⟨rfl,rfl⟩)
 go_ret2
 all_goals(apply_rules(newGoals:= .nonDependentOnly)(maxDepth:=1)only[zE];constructor)):p:=h
theorem zq249(h:p:=by
 (try dsimp only);(first|exact HCX.o _ hu9|exact HCX.o _ hu8'|exact HCX.o _ (ae.of_below ((Below.refl _ _).drew)))
 all_goals(apply_rules(newGoals:= .nonDependentOnly)(maxDepth:=1)only[zE];constructor)):p:=h
theorem zq250(h:p:=by
 intro v' w1 hown hgrow _
 have bb:=aY ((Below.refl w.heap.size w).alloc (Nat.le_refl _) (.cells #[] 61)) (fG w 61 2) hgrow (by simp)
 (try simp only[Nat.zero_add,List.nil_append] at hown)
 all_goals(apply_rules(newGoals:= .nonDependentOnly)(maxDepth:=1)only[zE];constructor)):p:=h
theorem zq251(h:p:=by
 clear e1
 generalize cB (au f ⟨op,dst,0,0,0,k⟩)=R at*
 refine' zq29
 go_ret
 exact ⟨aj HR.o.symm,hb16 _⟩
 all_goals(apply_rules(newGoals:= .nonDependentOnly)(maxDepth:=1)only[zE];constructor)):p:=h
theorem zq252(h:p:=by
 obtain ⟨i,hi⟩:=List.getElem?_of_mem hcs
 have hl:i<l.length:=by rw[<-h.1];exact (List.getElem?_eq_some_iff.1 hi).1
 all_goals(apply_rules(newGoals:= .nonDependentOnly)(maxDepth:=1)only[zE];constructor)):p:=h
theorem zq253(h:p:=by
 refine' zq125
 have fD:=rD.frozen m
 have cD:=cU rD (n:=m) (by rw[HDL.o];exact hm)
 have rD6:=zH (iH (m:=m) rD true)
 have uD6:=zH (ae.setCell (X:=fun k=>k=D) (p:=⟨D,m,none⟩) uD rfl (.bool true))
 all_goals(apply_rules(newGoals:= .nonDependentOnly)(maxDepth:=1)only[zE];constructor)):p:=h
theorem zq255(h:p:=by
 clear e
 generalize (aa f m).length=len1 at*
 generalize (aa f m0).length=len0 at*
 go_wp2_with fail
 go_quiet ((go_at_call 59;exact wZ (HC.o _)))
 all_goals(apply_rules(newGoals:= .nonDependentOnly)(maxDepth:=1)only[zE];constructor)):p:=h
theorem zq256(h:p:=by
 go_wp2_with fail
 go_roundw
 case rel=>exact ⟨k+1,by omega,by go_num,HN',trivial⟩
 case measure=>simp[intOf];omega
 all_goals(apply_rules(newGoals:= .nonDependentOnly)(maxDepth:=1)only[zE];constructor)):p:=h
theorem zq257(h:p:=by
 go_wp2_with fail
 go_roundw
 case rel=>exact ⟨k+1,by omega,by go_num,HJ',trivial⟩
 case measure=>simp[intOf];omega
 all_goals(apply_rules(newGoals:= .nonDependentOnly)(maxDepth:=1)only[zE];constructor)):p:=h
theorem zq259(h:p:=by
 clear hw
 refine wp_region_held_drew (S:=fun W=>W.cell? ⟨w2.heap.size,0,none⟩=some (.int .i64 gw)) (by kernel_rfl) ?_ (fun hHeld=>?_)
 ·refine' zq227
 all_goals(apply_rules(newGoals:= .nonDependentOnly)(maxDepth:=1)only[zE];constructor)):p:=h
theorem zq260(h:p:=by
 go_wp2_with fail
 refine HI.o.mono ?_
 rintro e w' ⟨⟨r,rfl,hr⟩,rfl⟩
 have HR:=zH hr
 clear hr
 go_wp2_with fail
 go_ret
 exact ⟨aj (by rw[<-bu HR.o];by_cases c:0<=r<;>simp[cB,c]),rfl⟩
 all_goals(apply_rules(newGoals:= .nonDependentOnly)(maxDepth:=1)only[zE];constructor)):p:=h
theorem zq264(h:p:=by
 rw[if_pos (by simp[h1,h2])] at HE
 go_wp2_with fail
 refine (je (wrap64 Q) _ (dS _)).mono ?_
 rintro e w6 ⟨rfl,hb6⟩
 go_wp2_with fail
 go_ret
 exact ⟨az HE.o,hbf.trans (hb6.mono hbf.size)⟩
 all_goals(apply_rules(newGoals:= .nonDependentOnly)(maxDepth:=1)only[zE];constructor)):p:=h
theorem zq265(h:p:=by
 go_simp
 refine hKK.out _ _ ?_ (fun hHeld=>?_)
 ·(try dsimp only);(exact HKF.o _ (by repeat (first|assumption|refine Below.setCell ?_ (by first|omega|(simp;omega)|simp) _|refine Below.drew ?_)))
 refine' zq4
 all_goals(apply_rules(newGoals:= .nonDependentOnly)(maxDepth:=1)only[zE];constructor)):p:=h
theorem zq267(h:p:=by
 go_wp2_with fail
 refine HR.o.mono ?_
 rintro e w1 ⟨K,rfl,hK,rK,hb1⟩
 have hb:=b0.trans (hb1.mono b0.size)
 all_goals(apply_rules(newGoals:= .nonDependentOnly)(maxDepth:=1)only[zE];constructor)):p:=h
theorem zq268(h:p:=by
 refine tk 0 (some 13) rfl ?_
 refine tk 1 (some 14) rfl ?_
 refine tk 2 (some 15) rfl ?_
 refine tk 3 (some 16) rfl ?_
 refine tk 4 (some 17) rfl ?_
 refine tk 5 (some 18) rfl ?_
 refine tk 6 (some 19) rfl ?_
 all_goals(apply_rules(newGoals:= .nonDependentOnly)(maxDepth:=1)only[zE];constructor)):p:=h
theorem zq269(h:p:=by
 have HSD:Hid (∀W,Below w.heap.size w W->Sl W W.heap.size 7 (gU W W.heap.size) Ad f.defs):=fun W hW=>by
  obtain ⟨A,c,hv,_,_,s⟩:=(HFL.o W hW).defs
  injection hv with h1 _ _
  rw[h1];exact s
 all_goals(apply_rules(newGoals:= .nonDependentOnly)(maxDepth:=1)only[zE];constructor)):p:=h
theorem zq270(h:p:=by
 have hN:=(h3.below ((Below.refl _ _).alloc (Nat.le_refl _) (.cells #[] 61))).flatA CU lJ
 have HL:=zH (mU (size:=2) (l:=l) lJ)
 have HO:=zH (mM oE l)
 all_goals(apply_rules(newGoals:= .nonDependentOnly)(maxDepth:=1)only[zE];constructor)):p:=h
theorem zq272(h:p:=by
 go_upto_region 14 with (fail)
 generalize hg9:wr.heap.size=g9 at*
 generalize wr.alloc (.cells #[.int .i64 xo,.int .i64 (m:Int),.int .i64 xa,.int .i64 xb,.int .i64 xc,.int .i64 xk] 58)=w4 at*
 all_goals(apply_rules(newGoals:= .nonDependentOnly)(maxDepth:=1)only[zE];constructor)):p:=h
theorem zq273(h:p:=by
 by_cases ht:ag f.fm e.n=2
 ·rw[if_pos ht] at hk;exact ⟨hk,ht⟩
 ·rw[if_neg ht] at hk;exact absurd hk h
 all_goals(apply_rules(newGoals:= .nonDependentOnly)(maxDepth:=1)only[zE];constructor)):p:=h
theorem zq274(h:p:=by
 refine' zq59
 generalize W.alloc (.cells (bi e A cap) 75)=w1 at*
 all_goals(apply_rules(newGoals:= .nonDependentOnly)(maxDepth:=1)only[zE];constructor)):p:=h
theorem zq275(h:p:=by
 rw[eV,if_neg h0,hx,if_neg (by rw[hn];simp),if_neg (by omega),if_neg (by omega),if_neg (by omega),if_neg (by omega)] at hk
 unfold dJ at hk
 simp only[List.map_cons,List.map_nil,q1,q2,q4] at hk
 all_goals(apply_rules(newGoals:= .nonDependentOnly)(maxDepth:=1)only[zE];constructor)):p:=h
theorem zq276(h:p:=by
 (try go_wp2_with fail)
 refine hKK.out _ _ ?_ (fun hHeld=>?_)
 ·refine' zq249
 refine' zq4
 all_goals(apply_rules(newGoals:= .nonDependentOnly)(maxDepth:=1)only[zE];constructor)):p:=h
theorem zq277(h:p:=by
 dsimp only at d0 d1 d2 d3 d4 d5
 have ba:=(Below.refl wr.heap.size wr).alloc (Nat.le_refl _) (.cells #[.int .i64 xo,.int .i64 xd,.int .i64 xa,.int .i64 xb,.int .i64 xc,.int .i64 xk] 58)
 all_goals(apply_rules(newGoals:= .nonDependentOnly)(maxDepth:=1)only[zE];constructor)):p:=h
theorem zq281(h:p:=by
 have hs5:=hbw5.size
 have HLOW:Hid (∀W,Below w5.heap.size w5 W->Below w4.heap.size w4 W/\Below w.heap.size w W):=fun W hW=>⟨hbq.trans (hW.mono hsq),HBW.o _ (hbw5.trans (hW.mono hs5))⟩
 all_goals(apply_rules(newGoals:= .nonDependentOnly)(maxDepth:=1)only[zE];constructor)):p:=h
theorem zq283(h:p:=by
 have HF:Hid (cB (au f ⟨2,(md:Int),(ma:Int),(mb:Int),(mc:Int),k⟩)=false):=ab (fun g=>by have:=((ic rfl HALL.o).1 g).2.2;unfold bN at this;omega)
 clear hT
 refine' zq149
 all_goals(apply_rules(newGoals:= .nonDependentOnly)(maxDepth:=1)only[zE];constructor)):p:=h
theorem zq284(h:p:=by
 have fK:=rK5.frozen m
 have rK6:=zH (nu (m:=m) rK5 (j:Int))
 have uK6:=zH (ae.setCell (X:=fun k=>k=K) (p:=⟨K,m,none⟩) uK5 rfl (.int .i64 (j:Int)))
 go_region
 go_wp2_with fail
 all_goals(apply_rules(newGoals:= .nonDependentOnly)(maxDepth:=1)only[zE];constructor)):p:=h
theorem zq285(h:p:=by
 rcases List.mem_append.1 hm with h|h
 ·exact cJ.2 (hi m h)
 ·obtain ⟨x,hx,rfl⟩:=List.mem_map.1 h
  obtain ⟨i,hi'⟩:=List.getElem?_of_mem hx
  exact cJ.2 (h6 i x hi').1
 all_goals(apply_rules(newGoals:= .nonDependentOnly)(maxDepth:=1)only[zE];constructor)):p:=h
theorem zq286(h:p:=by
 clear hr
 go_wp2_with fail
 (with_reducible refine HR.o.mono ?_)
 rintro e w5 ⟨rfl,hb5⟩
 have u5:=u4.trans (ae.of_below hb5)
 have rD5:=rD4.below hb5 hDl4
 clear x0 x1 x2 c0 c1 c2 c3 c4 c5
 all_goals(apply_rules(newGoals:= .nonDependentOnly)(maxDepth:=1)only[zE];constructor)):p:=h
theorem zq287(h:p:=by
 go_wp2_with fail
 go_ret
 exact ⟨⟨false,rfl,fun g=>by cases g⟩,rfl⟩
 all_goals(apply_rules(newGoals:= .nonDependentOnly)(maxDepth:=1)only[zE];constructor)):p:=h
theorem zq288(h:p:=by
 have hm':(m:Int)<f.wires.length:=by omega
 have HPA:Hid (jW f.fm n↔(aa f.fm n).length=0):=⟨fun g=>by rw[g.2];rfl,fun g=>⟨hw,List.eq_nil_of_length_eq_zero g⟩⟩
 subst hnm
 all_goals(apply_rules(newGoals:= .nonDependentOnly)(maxDepth:=1)only[zE];constructor)):p:=h
theorem zq289(h:p:=by
 rintro e w2 ⟨v2,rfl,ho2,hb2⟩
 obtain ⟨A2,c2,rfl,hc2,hm2,hr2⟩:=fJ ho2
 have hr1':=(hr1.below hb2).more hb2.size
 have hb12:Below w.heap.size w w2:=hb1.trans (hb2.mono hb1.size)
 all_goals(apply_rules(newGoals:= .nonDependentOnly)(maxDepth:=1)only[zE];constructor)):p:=h
theorem zq290(h:p:=by
 (try dsimp only);(first|exact HK8.o _ hu9'|exact HK8.o _ (ae.of_below ((Below.refl _ _).drew)))
 all_goals(apply_rules(newGoals:= .nonDependentOnly)(maxDepth:=1)only[zE];constructor)):p:=h
theorem zq291(h:p:=by
 have HW:=zH hw
 obtain ⟨m,rfl⟩:=Int.eq_ofNat_of_zero_le hw.1
 have hm:m<f.wires.length:=by have h9:(m:Int)<f.wires.length:=hw.2;omega
 have hm':(m:Int)<f.wires.length:=by omega
 all_goals(apply_rules(newGoals:= .nonDependentOnly)(maxDepth:=1)only[zE];constructor)):p:=h
theorem zq292(h:p:=by
 obtain rfl:k=64:=by omega
 obtain ⟨A3,c3,rfl,hc3,hm3,hr3⟩:=fJ hown
 go_wp2_with fail
 refine (uJ A3 c3 _ _ _ hr3 hs01).mono ?_
 rintro e w3 ⟨rfl,rfl⟩
 go_wp2_with fail
 all_goals(apply_rules(newGoals:= .nonDependentOnly)(maxDepth:=1)only[zE];constructor)):p:=h
theorem zq293(h:p:=by
 rw[hv] at hv'
 injection hv' with hA _ _
 refine ⟨g,0,hA,(h.lt g (by rw[hv,hA];rfl)).2,fun i x hi=>?_⟩
 have hil:i<css.length:=by rw[hx.1];exact (List.getElem?_eq_some_iff.1 hi).1
 all_goals(apply_rules(newGoals:= .nonDependentOnly)(maxDepth:=1)only[zE];constructor)):p:=h
theorem zq295(h:p:=by
 obtain rfl:j=f.wires.length:=by omega
 refine' zq138
 have HNR:Hid (b2=false->∀i:Nat,i<f.wires.length->¬dN f d2 i):=fun h=>by
  obtain ⟨e,g⟩:=HF.o h
  rw[e]
  exact g
 all_goals(apply_rules(newGoals:= .nonDependentOnly)(maxDepth:=1)only[zE];constructor)):p:=h
theorem zq296(h:p:=by
 unfold Oper.wp execOp
 simp only[ho,resolve,invoke,builtin,Sem.run_bind,Sem.run_pure,Result.andThen_ok,List.map_toArray,List.map_cons,List.map_nil,hs,hx,hr]
 exact h v' w' h2 h3 h5
 all_goals(apply_rules(newGoals:= .nonDependentOnly)(maxDepth:=1)only[zE];constructor)):p:=h
theorem zq297(h:p:=by
 have HBn:=zH (HB.o.trans ((hb13.mono (by omega)).trans (u9.below (B:=w.heap.size) (fun q hq=>by omega) (by have:=hb13.size;omega))))
 have hsz:=u9.size
 have hsz2:=hb13.size
 all_goals(apply_rules(newGoals:= .nonDependentOnly)(maxDepth:=1)only[zE];constructor)):p:=h
theorem zq298(h:p:=by
 go_wp2_with fail
 (with_reducible refine HBY.o.mono ?_)
 rintro r w5 ⟨rfl,hb5⟩
 have HU5:=zH (HUD.o.trans (ae.of_below hb5))
 have HR5:=zH (HRD.o.below hb5 hDr)
 all_goals(apply_rules(newGoals:= .nonDependentOnly)(maxDepth:=1)only[zE];constructor)):p:=h
theorem zq299(h:p:=by
 have HNO:=zH (fun hf=>wG HD.o HX.o HW.o hf)
 have HYES:=zH (fun hf=>su (v:= -2) HD.o HW.o hf (by decide))
 have HTS:=zH (bj HX.o)
 all_goals(apply_rules(newGoals:= .nonDependentOnly)(maxDepth:=1)only[zE];constructor)):p:=h
theorem zq300(h:p:=by
 generalize wr.alloc (.cells #[.int .i64 x.ty,.slice Ag x.clock.length cg] 52)=w4 at*
 all_goals(apply_rules(newGoals:= .nonDependentOnly)(maxDepth:=1)only[zE];constructor)):p:=h
theorem zq301(h:p:=by
 obtain rfl:j=f.acts.length:=by omega
 refine' zq138
 have HNR:Hid (b2=false->∀x∈f.acts,¬di f d2 x):=fun h=>by
  obtain ⟨e,g⟩:=HF.o h
  rw[e]
  exact dY g
 all_goals(apply_rules(newGoals:= .nonDependentOnly)(maxDepth:=1)only[zE];constructor)):p:=h
theorem zq302(h:p:=by
 (try go_wp2_with fail)
 refine hKK.out _ _ ?_ (fun hHeld=>?_)
 ·refine' zq294
 refine' zq4
 all_goals(apply_rules(newGoals:= .nonDependentOnly)(maxDepth:=1)only[zE];constructor)):p:=h
theorem zq303(h:p:=by
 obtain ⟨h1,e1⟩:=List.getElem?_eq_some_iff.1 hx
 obtain ⟨h2,e2⟩:=List.getElem?_eq_some_iff.1 hy
 rw[List.drop_eq_getElem_cons h1,List.drop_eq_getElem_cons h2,e1,e2];rfl
 all_goals(apply_rules(newGoals:= .nonDependentOnly)(maxDepth:=1)only[zE];constructor)):p:=h
theorem zq304(h:p:=by
 intro l
 induction l with
 |nil=>intro x hx;cases hx
 |cons z l ih=>
  intro x hx
  simp only[dz]
  rcases List.mem_cons.1 hx with rfl|hx
  ·omega
  ·have:=ih x hx;omega
 all_goals(apply_rules(newGoals:= .nonDependentOnly)(maxDepth:=1)only[zE];constructor)):p:=h
theorem zq305(h:p:=by
 go_enter Tryz.func72,Tryz.ntmps72
 go_wp2
 all_goals(apply_rules(newGoals:= .nonDependentOnly)(maxDepth:=1)only[zE];constructor)):p:=h
theorem zq308(h:p:=by
 refine' zq199
 go_ret
 exact ⟨aj HF.o.symm,ap (ap HB1.o _) _⟩
 all_goals(apply_rules(newGoals:= .nonDependentOnly)(maxDepth:=1)only[zE];constructor)):p:=h
end Go.Proofs.YtckognjamlckcaaGreatDoor
