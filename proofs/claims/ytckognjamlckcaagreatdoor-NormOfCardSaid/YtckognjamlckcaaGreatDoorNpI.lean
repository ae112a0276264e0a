/-
  Few parts of a flat: tompionlaw23.Few. Has a form nothing: tompionlaw24.none. How many wires and cells a flat may need. norm, as plain data: how much is made of an expression, and that there is room. norm, as plain data: what stands in what is made. norm, as plain data: what was, and where a clock begins.
-/
import Derived.Test.YtckognjamlckcaaGreatDoorZz
import Derived.Test.YtckognjamlckcaaGreatDoorFrD
import Derived.Test.YtckognjamlckcaaGreatDoorNormK
import Derived.Test.YtckognjamlckcaaGreatDoorNoV
import Derived.Test.YtckognjamlckcaaGreatDoorFew
import Derived.Test.YtckognjamlckcaaGreatDoorFltA
set_option maxHeartbeats 8000000
set_option maxRecDepth 100000
namespace Go.Proofs.YtckognjamlckcaaGreatDoor
open Go.RowKit Vf Fo
attribute [local go_sem ↓] Go.wp_at_zero Go.wp_at_succ
def fewL (f:Fl):Prop:=(∀x∈f.defs,exSize x.2≤200)∧f.wires.length≤450∧f.defs.length≤450∧f.ins.length≤20∧f.outs.length≤20
theorem few23_any {w:World} {f:Fl} {vw vd vi vo:Value} (h:FlAt w w.heap.size f vw vd vi vo):
  Calls Tryz.prog 10 #[flV vw vd vi vo] w (FewIs (fewL f) w):=by
 have HSW:Hid (∀W,Below w.heap.size w W→∀A c,vw= .slice A f.wires.length c→Sl W W.heap.size 2 (isWr W W.heap.size) A f.wires):=fun W hW A c e=>by
  obtain ⟨A',c',hv,_,_,s⟩:=(h.next hW).wires
  rw[e] at hv
  injection hv with h1 _ _
  rw[h1];exact s
 have HSD:Hid (∀W,Below w.heap.size w W→∀A c,vd= .slice A f.defs.length c→Sl W W.heap.size 7 (isDf W W.heap.size) A f.defs):=fun W hW A c e=>by
  obtain ⟨A',c',hv,_,_,s⟩:=(h.next hW).defs
  rw[e] at hv
  injection hv with h1 _ _
  rw[h1];exact s
 obtain ⟨Aw,cw,rfl,lw,mw,_⟩:=h.wires
 obtain ⟨Ad,cd,rfl,ld,md,_⟩:=h.defs
 obtain ⟨Ai,ci,rfl,_,_,_⟩:=h.ins
 obtain ⟨Ao,co,rfl,_,_,_⟩:=h.outs
 refine' zq76
 refine' zq186
 refine' zq110
 clear h
 go_enter Tryz.func10,Tryz.ntmps10
 refine' zq150
 refine' zq90
 obtain ⟨f0,f1,f2,f3⟩:=HF4.out _ (Below.refl _ _)
 go_wp2_with fail
 clear f0 f1 f2 f3
 go_loopw[10] (fun i wr=>∃k:Nat,k≤f.wires.length∧i= .int .i64 k∧Hid (Below w1.heap.size w1 wr)) (fun i _=>f.wires.length-(intOf i).toNat)
 case atStart=>exact ⟨0,Nat.zero_le _,rfl,Below.refl _ _⟩
 case round=>
  obtain ⟨k,hk,rfl,HB⟩:=hrel
  have hszr:=HB.out.size
  have hb:=b1.trans (HB.out.mono hs1)
  by_cases hlt:k<f.wires.length
  ·obtain ⟨b,off,x,Ag,cg,rfl,hb',hx,wx,d0,d1,lg,mg,_⟩:=(HSW.out _ hb _ _ rfl).wr hlt
   clear hx
   have hbr:=HB.out
   have hb2:Below w.heap.size w (wr.alloc (.cells #[.int .i64 x.ty,.slice Ag x.clock.length cg] 52)):=bE
   have hb3:Below w1.heap.size w1 (wr.alloc (.cells #[.int .i64 x.ty,.slice Ag x.clock.length cg] 52)):=bE
   have rX:=Row.new wr #[.int .i64 x.ty,.slice Ag x.clock.length cg] 52
   go_upto_region 4 with (fail)
   generalize wr.alloc (.cells #[.int .i64 x.ty,.slice Ag x.clock.length cg] 52)=w3 at*
   have q0:=rX.cell 0
   have q1:=rX.cell 1
   simp only[List.getElem?_toArray,List.getElem?_cons_zero,List.getElem?_cons_succ] at q0 q1
   have HB3:=Lib.hid hb3
   by_cases e1:40<x.clock.length
   ·have e1':decide (40<(x.clock.length:Int))=true:=by simp;omega
    go_wp2_with fail
    go_ret
    exact FewIs.no hb2
   have e1':decide (40<(x.clock.length:Int))=false:=by simp;omega
   clear hb3
   go_wp2_with fail
   go_roundw
   case rel=>exact ⟨k+1,by omega,by go_num,HB3⟩
   case measure=>simp[intOf];omega
  obtain rfl:k=f.wires.length:=by omega
  obtain ⟨f0,f1,f2,f3⟩:=HF4.out _ HB.out
  go_wp2_with fail
  clear f0 f1 f2 f3
  have HBW:=Lib.hid HB.out
  refine' zq177
  go_loopw[22] (fun i wr=>∃k:Nat,k≤f.defs.length∧i= .int .i64 k∧Hid (∀j,j<k→∀x,f.defs[j]? =some x→exSize x.2≤200)∧Hid (Below w1.heap.size w1 wr)) (fun i _=>f.defs.length-(intOf i).toNat)
  case atStart=>exact ⟨0,Nat.zero_le _,rfl,fun j h=>absurd h (by omega),HBW.out⟩
  case round=>
   clear HB hb hszr hk
   obtain ⟨k,hk,rfl,HN,HB⟩:=hrel
   have hszr:=HB.out.size
   have hb:=b1.trans (HB.out.mono hs1)
   by_cases hlt:k<f.defs.length
   ·obtain ⟨b,off,d,Ag,cg,rfl,hbb,hx,wd,hok,hcap,hmax,hxs,d0,d1,d2,d3,d4,d5,d6⟩:=(HSD.out _ hb _ _ rfl).df hlt
    have hbr:=HB.out
    have HX:=Lib.hid hx
    have hb2:Below w.heap.size w (wr.alloc (.cells #[.int .i64 d.1,.int .i64 d.2.op,.string d.2.name,.int .i64 d.2.n,.slice Ag d.2.args.length cg,.int .i64 d.2.line,.int .i64 d.2.col] 77)):=bE
    have hb3:Below w1.heap.size w1 (wr.alloc (.cells #[.int .i64 d.1,.int .i64 d.2.op,.string d.2.name,.int .i64 d.2.n,.slice Ag d.2.args.length cg,.int .i64 d.2.line,.int .i64 d.2.col] 77)):=bE
    have hb4:Below wr.heap.size wr (wr.alloc (.cells #[.int .i64 d.1,.int .i64 d.2.op,.string d.2.name,.int .i64 d.2.n,.slice Ag d.2.args.length cg,.int .i64 d.2.line,.int .i64 d.2.col] 77)):=bE
    have rX:=Row.new wr #[.int .i64 d.1,.int .i64 d.2.op,.string d.2.name,.int .i64 d.2.n,.slice Ag d.2.args.length cg,.int .i64 d.2.line,.int .i64 d.2.col] 77
    have HC:=Lib.hid (few_any d.2 Ag cg _ hok hcap hmax ((hxs.below hb4).more hb4.size))
    clear hx hxs hok hcap hmax wd
    go_upto_region 10 with (fail)
    generalize wr.alloc (.cells #[.int .i64 d.1,.int .i64 d.2.op,.string d.2.name,.int .i64 d.2.n,.slice Ag d.2.args.length cg,.int .i64 d.2.line,.int .i64 d.2.col] 77)=w3 at*
    have q1:=rX.cell 1
    have q2:=rX.cell 2
    have q3:=rX.cell 3
    have q4:=rX.cell 4
    have q5:=rX.cell 5
    have q6:=rX.cell 6
    simp only[List.getElem?_toArray,List.getElem?_cons_zero,List.getElem?_cons_succ] at q1 q2 q3 q4 q5 q6
    have hs3:=hb3.size
    have hs2:=hb2.size
    clear rX hb4 d0 d1 d2 d3 d4 d5 d6
    refine' zq59
    rintro e w4 ⟨rfl,hb5⟩
    have HB4:=Lib.hid (hb3.trans (hb5.mono hs3))
    have hb6:=hb2.trans (hb5.mono hs2)
    clear q1 q2 q3 q4 q5 q6 HC hb3 hb2
    cases hf:fewB d.2
    ·clear hf
     go_wp2_with fail
     go_ret
     exact FewIs.no hb6
    have HN':=Lib.hid (upto_succ HN.out (fun x' hx'=>by rw[HX.out] at hx';injection hx' with hx';rw[←hx'];exact (few_small hf).2))
    clear hf
    go_wp2_with fail
    go_roundw
    case rel=>exact ⟨k+1,by omega,by go_num,HN',HB4⟩
    case measure=>simp[intOf];omega
   obtain rfl:k=f.defs.length:=by omega
   have HM:=Lib.hid (all_upto HN.out)
   obtain ⟨f0,f1,f2,f3⟩:=HF4.out _ HB.out
   clear HN
   by_cases e0:f.wires.length≤450
   rotate_left 1
   ·have e0':decide ((f.wires.length:Int)≤450)=false:=by simp;omega
    go_wp2_with fail
    go_ret
    exact FewIs.no hb
   have e0':decide ((f.wires.length:Int)≤450)=true:=by simp;omega
   by_cases e1:f.defs.length≤450
   rotate_left 1
   ·have e1':decide ((f.defs.length:Int)≤450)=false:=by simp;omega
    go_wp2_with fail
    go_ret
    exact FewIs.no hb
   have e1':decide ((f.defs.length:Int)≤450)=true:=by simp;omega
   by_cases e2:f.ins.length≤20
   rotate_left 1
   ·have e2':decide ((f.ins.length:Int)≤20)=false:=by simp;omega
    go_wp2_with fail
    go_ret
    exact FewIs.no hb
   have e2':decide ((f.ins.length:Int)≤20)=true:=by simp;omega
   have HP:Hid (f.outs.length≤20→fewL f):=fun h5=>⟨HM.out,e0,e1,e2,h5⟩
   go_wp2_with fail
   go_ret
   exact ⟨⟨_,rfl,fun g=>HP.out (by simp at g;omega)⟩,hb⟩
theorem none_any (w:World):Calls Tryz.prog 13 #[fmV (.slice none 0 0) (.slice none 0 0) (.slice none 0 0) (.slice none 0 0) (.slice none 0 0) (.slice none 0 0)] w fun e w'=>e= .returned (.bool true)∧Below w.heap.size w w':=by
 have b1:Below w.heap.size w (w.alloc (.cells #[.slice none 0 0,.slice none 0 0,.slice none 0 0,.slice none 0 0,.slice none 0 0,.slice none 0 0] 28)):=bE
 have rF:=Row.new w #[.slice none 0 0,.slice none 0 0,.slice none 0 0,.slice none 0 0,.slice none 0 0,.slice none 0 0] 28
 go_enter Tryz.func13,Tryz.ntmps13
 go_upto_region 1 with (fail)
 generalize w.alloc (.cells #[.slice none 0 0,.slice none 0 0,.slice none 0 0,.slice none 0 0,.slice none 0 0,.slice none 0 0] 28)=w1 at*
 have hFl:=rF.lt
 obtain ⟨f0,f1,f2,f3,f4,f5⟩:=rF.six'
 go_wp2_with fail
 go_ret
 exact ⟨rfl,b1⟩
def costX (x:Ex):Nat:=if x.op=21∨x.op=23 then 1 else if x.op=22 then 2 else 0
noncomputable def ccE (e:Ex) (k:Nat):Nat:=(((exList e).take k).map costX).sum
noncomputable def mwTo (f:Fl) (k:Nat):Nat:=f.wires.length+3*((f.defs.take k).map (fun d=>exSize d.2)).sum
noncomputable def mcTo (f:Fl) (k:Nat):Nat:=((f.defs.take k).map (fun d=>ccE d.2 (exSize d.2))).sum
theorem sum_le_of {α:Type} {g h:α→Nat}:∀(l:List α),(∀x∈l,g x≤h x)→(l.map g).sum≤(l.map h).sum
 | [],_=>Nat.le_refl _
 |x::l,hl=>by
  simp only[List.map_cons,List.sum_cons]
  have h1:=hl x (by simp)
  have h2:=sum_le_of l (fun y hy=>hl y (by simp[hy]))
  omega
theorem take_sum_le {α:Type} (g:α→Nat):∀(l:List α) (k:Nat),((l.take k).map g).sum≤(l.map g).sum
 | [],k=>by simp
 |x::l,0=>by simp
 |x::l,k+1=>by
  simp only[List.take_succ_cons,List.map_cons,List.sum_cons]
  have:=take_sum_le g l k
  omega
theorem cc_le (e:Ex) (k:Nat):ccE e k≤2*exSize e:=by
 have h1:=take_sum_le costX (exList e) k
 have h2:=sum_le_of (g:=costX) (h:=fun _=>2) (exList e) (fun x _=>by unfold costX;split<;>(try split)<;>omega)
 have h3:((exList e).map (fun _=>2)).sum=2*exSize e:=by
  unfold exSize
  induction exList e with
  |nil=>rfl
  |cons x l ih=>simp only[List.map_cons,List.sum_cons,List.length_cons,ih];omega
 unfold ccE
 omega
theorem cc_succ {e x:Ex} {k:Nat} (h:(exList e)[k]? =some x):ccE e (k+1)=ccE e k+costX x:=by
 unfold ccE
 rw[take_snoc' h,List.map_append,List.sum_append];simp
theorem mw_succ {f:Fl} {k:Nat} {d:Int × Ex} (h:f.defs[k]? =some d):mwTo f (k+1)=mwTo f k+3*exSize d.2:=by
 unfold mwTo
 rw[take_snoc' h,List.map_append,List.sum_append];simp;omega
theorem mc_succ {f:Fl} {k:Nat} {d:Int × Ex} (h:f.defs[k]? =some d):mcTo f (k+1)=mcTo f k+ccE d.2 (exSize d.2):=by
 unfold mcTo
 rw[take_snoc' h,List.map_append,List.sum_append];simp
theorem mw_le {f:Fl} (hw:f.wires.length≤100000) (hs:(f.defs.map (fun d=>exSize d.2)).sum≤100000000) (k:Nat):mwTo f k≤1000000000:=by
 have:=take_sum_le (fun d:Int × Ex=>exSize d.2) f.defs k
 unfold mwTo;omega
theorem mc_le {f:Fl} (hs:(f.defs.map (fun d=>exSize d.2)).sum≤100000000) (k:Nat):mcTo f k≤1000000000:=by
 have h1:=take_sum_le (fun d:Int × Ex=>ccE d.2 (exSize d.2)) f.defs k
 have h2:=sum_le_of (g:=fun d:Int × Ex=>ccE d.2 (exSize d.2)) (h:=fun d=>2*exSize d.2) f.defs (fun d _=>cc_le _ _)
 have h3:(f.defs.map (fun d=>2*exSize d.2)).sum=2*(f.defs.map (fun d=>exSize d.2)).sum:=by
  induction f.defs with
  |nil=>rfl
  |cons x l ih=>simp only[List.map_cons,List.sum_cons,ih];omega
 unfold mcTo;omega
theorem rmostF_any {w:World} {f:Fl} {vw vd vi vo:Value} (h:FlAt w w.heap.size f vw vd vi vo) (hw:f.wires.length≤100000) (hs:(f.defs.map (fun d=>exSize d.2)).sum≤100000000) (hsz:∀d∈f.defs,exSize d.2≤1000000):
  Calls Tryz.prog 14 #[flV vw vd vi vo] w fun e w'=>e= .returned (.tuple #[.int .i64 (mwTo f f.defs.length),.int .i64 (mcTo f f.defs.length)])∧Below w.heap.size w w':=by
 obtain ⟨Aw,cw,rfl,lw,mw,_⟩:=h.wires
 obtain ⟨Ad,cd,rfl,ld,md,_⟩:=h.defs
 refine' zq76
 refine' zq186
 have b1:Below w.heap.size w (w.alloc (.cells #[.slice Aw f.wires.length cw,.slice Ad f.defs.length cd,vi,vo] 33)):=bE
 have rF:=Row.new w #[.slice Aw f.wires.length cw,.slice Ad f.defs.length cd,vi,vo] 33
 have HSD:Hid (∀W,Below w.heap.size w W→Sl W W.heap.size 7 (isDf W W.heap.size) Ad f.defs):=fun W hW=>by
  obtain ⟨A,c,hv,_,_,s⟩:=(h.next hW).defs
  injection hv with h1 _ _
  rw[h1];exact s
 have HSZ:=Lib.hid hsz
 have HMW:=Lib.hid (mw_le hw hs)
 have HMC:=Lib.hid (mc_le hs)
 have HM0:Hid (mwTo f 0=f.wires.length):=by show _=_;unfold mwTo;simp
 have HM1:Hid (mcTo f 0=0):=by show _=_;unfold mcTo;simp
 clear h hsz hs hw mw md
 go_enter Tryz.func14,Tryz.ntmps14
 go_upto_region 1 with (fail)
 generalize w.alloc (.cells #[.slice Aw f.wires.length cw,.slice Ad f.defs.length cd,vi,vo] 33)=w1 at*
 have hFl:=rF.lt
 have hs1:=b1.size
 have HF4:Hid (∀W,Below w1.heap.size w1 W→W.cell? ⟨w.heap.size,0,none⟩=some (.slice Aw f.wires.length cw)∧W.cell? ⟨w.heap.size,1,none⟩=some (.slice Ad f.defs.length cd)∧W.cell? ⟨w.heap.size,2,none⟩=some vi∧W.cell? ⟨w.heap.size,3,none⟩=some vo):=fun W hW=>(rF.below hW hFl).four'
 clear rF
 obtain ⟨f0,f1,f2,f3⟩:=HF4.out _ (Below.refl _ _)
 go_wp2_with fail
 clear f0 f1 f2 f3
 go_loopw[4,5,6] (fun v4 v5 i wr=>∃k:Nat,k≤f.defs.length∧i= .int .i64 k∧v4= .int .i64 (mwTo f k)∧v5= .int .i64 (mcTo f k)∧Hid (Below w1.heap.size w1 wr)) (fun _ _ i _=>f.defs.length-(intOf i).toNat)
 case atStart=>exact ⟨0,Nat.zero_le _,rfl,by rw[HM0.out],by rw[HM1.out];rfl,Below.refl _ _⟩
 case round=>
  obtain ⟨k,hk,rfl,rfl,rfl,HB⟩:=hrel
  have hszr:=HB.out.size
  have hb:=b1.trans (HB.out.mono hs1)
  obtain ⟨f0,f1,f2,f3⟩:=HF4.out _ HB.out
  by_cases hlt:k<f.defs.length
  ·obtain ⟨b,off,d,Ag,cg,rfl,hbb,hx,wd,hok,hcap,hmax,hxs,d0,d1,d2,d3,d4,d5,d6⟩:=(HSD.out _ hb).df hlt
   have hlt':(k:Int)<f.defs.length:=by omega
   have hes:=HSZ.out d (List.mem_of_getElem? hx)
   have HC:=Lib.hid (list_any wr.heap.size d.2 Ag cg wr hok hcap hmax (Nat.le_refl _) hxs hes)
   have hm1:=HMW.out (k+1)
   have hm2:=HMC.out (k+1)
   rw[mw_succ hx] at hm1
   rw[mc_succ hx] at hm2
   have HW1:=Lib.hid (mw_succ hx)
   have HC1:=Lib.hid (mc_succ hx)
   have HCL:=Lib.hid (cc_le d.2)
   clear hx hxs hok hcap hmax wd
   refine' zq59
   rintro r w2 ⟨v,css,rfl,own,hcs,hb2⟩
   have HB2:=Lib.hid (HB.out.trans (hb2.mono hszr))
   obtain ⟨Al,cl,rfl,hn0,hl1,hl2,hxs⟩:=own_exs own hcs (by have:=hb2.size;omega)
   have hl2':cl≤9223372036854775807:=by unfold maxLen at hl2;omega
   have HXS:=Lib.hid hxs
   generalize hLL:(exList d.2).length=L at*
   have hE:exSize d.2=L:=hLL
   have HLL:=Lib.hid hLL
   rw[hE] at hm1 hm2 HW1 HC1 hes HCL
   clear hLL hE
   clear own hcs hxs hn0 hb2 HC f0 f1 f2 f3 d0 d1 d2 d3 d4 d5 d6
   generalize mwTo f k=MW at*
   generalize mcTo f k=MC at*
   go_wp2_with fail
   obtain ⟨wo2,rfl⟩:∃wo2:World,wo2=w2:=⟨_,rfl⟩
   go_loopw[5,8] (fun v5 i wr=>∃q:Nat,q≤L∧i= .int .i64 q∧v5= .int .i64 ((MC+ccE d.2 q:Nat):Int)∧wo2=wr) (fun _ i _=>L-(intOf i).toNat)
   case atStart=>exact ⟨0,Nat.zero_le _,rfl,by simp[ccE],rfl⟩
   case round=>
    obtain ⟨q,hq,rfl,rfl,rfl⟩:=hrel
    by_cases hl3:q<L
    ·obtain ⟨b3,off3,x,A',cap',rfl,hb3,hxk,_,_,_,_,_,c0,c1,c2,c3,c4,c5⟩:=HXS.out.at_ (show q<(exList d.2).length by rw[HLL.out];exact hl3)
     have hl3':(q:Int)<L:=by omega
     have hcs:=cc_succ hxk
     have hle:ccE d.2 (q+1)≤2*L:=HCL.out (q+1)
     have hes':=hes
     clear hxk
     have hcase:((x.op==21)=true∧(x.op==22)=false∧costX x=1)∨((x.op==21)=false∧(x.op==23)=true∧(x.op==22)=false∧costX x=1)∨((x.op==21)=false∧(x.op==23)=false∧(x.op==22)=true∧costX x=2)∨((x.op==21)=false∧(x.op==23)=false∧(x.op==22)=false∧costX x=0):=by
      unfold costX
      by_cases g1:x.op=21
      ·exact .inl ⟨by simp[g1],by simp[g1],if_pos (.inl g1)⟩
      by_cases g3:x.op=23
      ·exact .inr (.inl ⟨by simp[g3],by simp[g3],by simp[g3],if_pos (.inr g3)⟩)
      by_cases g2:x.op=22
      ·exact .inr (.inr (.inl ⟨by simp[g2],by simp[g2],by simp[g2],by rw[if_neg (by omega),if_pos g2]⟩))
      ·exact .inr (.inr (.inr ⟨by simp[g1],by simp[g3],by simp[g2],by rw[if_neg (by omega),if_neg g2]⟩))
     rcases hcase with ⟨e1,e2,e3⟩|⟨e1,e4,e2,e3⟩|⟨e1,e4,e2,e3⟩|⟨e1,e4,e2,e3⟩
     all_goals
      rw[e3] at hcs
      have HCS:=Lib.hid hcs
      have hb5:MC+ccE d.2 q≤3000000000:=by omega
      have hb6:((MC+ccE d.2 q:Nat):Int)≤3000000000:=by omega
      clear hcs e3
      generalize hT:MC+ccE d.2 q=T at*
      have HT:=Lib.hid hT
      clear hT
      go_wp2_with fail
      go_roundw
      case rel=>exact ⟨q+1,by omega,by go_num,by rw[HCS.out];have:=HT.out;(first|(congr 1;omega)|(congr 2;omega)),(by first|rfl|trivial)⟩
      case measure=>simp[intOf];omega
    ·obtain rfl:q=L:=by omega
     have HEQ:Hid (MC+ccE d.2 q=mcTo f (k+1)):=HC1.out.symm
     have HWQ:=Lib.hid HW1.out.symm
     rw[HEQ.out]
     go_wp2_with fail
     go_roundw
     case rel=>exact ⟨k+1,by omega,by go_num,by rw[HW1.out];go_num,rfl,HB2.out⟩
     case measure=>simp[intOf];omega
  obtain rfl:k=f.defs.length:=by omega
  go_wp2_with fail
  go_ret2
  exact ⟨rfl,hb⟩
open Vf Fo
structure Gr (a b:Nat) (s r:Mk):Prop where
 w:r.wires.length≤s.wires.length+a
 c:r.cells.length≤s.cells.length+b
 ok:s.spent=false→s.wires.length+a≤1600→s.cells.length+b≤60→r.spent=false
section
variable {s r r':Mk} {a b a' b':Nat} {ty k n x:Int} {c:List Gd} {t:Ac}
theorem Gr.refl (s:Mk):Gr 0 0 s s:=⟨Nat.le_refl _,Nat.le_refl _,fun h _ _=>h⟩
theorem Gr.more (h:Gr a b s r) (ha:a≤a') (hb:b≤b'):Gr a' b' s r:=⟨by have:=h.w;omega,by have:=h.c;omega,fun h1 h2 h3=>h.ok h1 (by omega) (by omega)⟩
theorem Gr.trans (h:Gr a b s r) (h':Gr a' b' r r'):Gr (a+a') (b+b') s r':=
 ⟨by have:=h.w;have:=h'.w;omega,by have:=h.c;have:=h'.c;omega,fun h1 h2 h3=>h'.ok (h.ok h1 (by omega) (by omega)) (by have:=h.w;omega) (by have:=h.c;omega)⟩
theorem wire_gr:Gr 1 0 s (s.wire ty c).2:=by
 unfold Mk.wire
 split
 ·exact ⟨by simp,Nat.le_refl _,fun _ h _=>by omega⟩
 ·exact ⟨by simp,Nat.le_refl _,fun h _ _=>h⟩
theorem put_gr:Gr 1 0 s (s.put ty c t).2:=by
 have:=wire_gr (s:=s) (ty:=ty) (c:=c)
 exact ⟨this.w,this.c,this.ok⟩
theorem cell_gr:Gr 0 1 s (s.cell ty k).2:=by
 unfold Mk.cell
 split
 ·exact ⟨Nat.le_refl _,by simp,fun _ _ h=>by omega⟩
 ·exact ⟨Nat.le_refl _,by simp,fun h _ _=>h⟩
theorem was_gr:Gr 1 1 s (s.was x n c).2:=by
 have h1:=cell_gr (s:=s) (ty:=s.ty x) (k:=n)
 have h2:Gr 0 1 s ((s.cell (s.ty x) n).2.keep (s.cell (s.ty x) n).1 x):=⟨h1.w,h1.c,h1.ok⟩
 exact (h2.trans put_gr).more (by omega) (by omega)
theorem begins_gr:Gr 2 1 s (s.begins c).2:=by
 unfold Mk.begins
 split
 ·exact (Gr.refl s).more (by omega) (by omega)
 ·have h1:=((cell_gr (s:=s) (ty:=2) (k:=1)).trans (put_gr (ty:=2) (c:=c) (t:=⟨21,0,0,0,0,(s.cell 2 1).1⟩))).trans (put_gr (ty:=2) (c:=c) (t:=⟨2,0,0,0,0,0⟩))
  exact ⟨h1.w,h1.c,h1.ok⟩
end
noncomputable def ccA (e:Ex):Nat:=((exList e).map costX).sum
theorem ccA_eq (e:Ex):ccA e=costX e+(e.args.map ccA).sum:=by
 unfold ccA
 rw[exList_eq]
 simp only[List.map_cons,List.sum_cons]
 congr 1
 induction e.args with
 |nil=>rfl
 |cons x l ih=>simp only[List.map_cons,List.flatten_cons,List.map_append,List.sum_append,List.sum_cons,ih]
theorem normE_gr {f:Fl} (e:Ex):plainE f e→∀(c:List Gd) (s:Mk),Gr (3*exSize e-1) (ccA e) s (normE e c s).2:=by
 induction e using Ex.ind with
 |h e ih=>
  intro hp c s
  obtain ⟨hp1,hp2⟩:=plainE_iff.1 hp
  have hz:=exSize_sum e
  have hc:=ccA_eq e
  have hpos:=exSize_pos
  have ih':∀x∈e.args,∀(c:List Gd) (s:Mk),Gr (3*exSize x-1) (ccA x) s (normE x c s).2:=fun x hx=>ih x hx (hp2 x hx)
  rw[normE_eq,norm1]
  dsimp only
  by_cases hs:s.spent=true
  ·rw[if_pos hs]
   exact (Gr.refl s).more (by omega) (by omega)
  rw[if_neg hs]
  by_cases h3:e.op=3
  ·rw[if_pos h3]
   exact (Gr.refl s).more (by omega) (by omega)
  rw[if_neg h3]
  by_cases h12:e.op=1∨e.op=2
  ·rw[if_pos h12]
   exact put_gr.more (by omega) (by omega)
  rw[if_neg h12]
  have hops:=plain1_ops hp1
  by_cases h21:e.op=21
  ·rw[if_pos h21]
   obtain ⟨x,hx⟩:=args_one hp1 (by omega)
   rw[part_is (x:=x) (i:=0) (by rw[hx];rfl)]
   rw[hx] at hz ih' hc
   have hcx:costX e=1:=if_pos (.inl h21)
   simp at hz hc
   have:=hpos x
   exact ((ih' x (by simp) c s).trans was_gr).more (by omega) (by omega)
  rw[if_neg h21]
  by_cases h22:e.op=22
  ·rw[if_pos h22]
   obtain ⟨x,y,hx⟩:=args_two hp1 (by omega)
   rw[part_is (x:=x) (i:=0) (by rw[hx];rfl),part_is (x:=y) (i:=1) (by rw[hx];rfl)]
   rw[hx] at hz ih' hc
   have hcx:costX e=2:=by unfold costX;rw[if_neg (by omega),if_pos h22]
   simp at hz hc
   have:=hpos x
   have:=hpos y
   exact (((((ih' x (by simp) c s).trans (ih' y (by simp) c _)).trans begins_gr).trans was_gr).trans put_gr).more (by omega) (by omega)
  rw[if_neg h22]
  by_cases h23:e.op=23
  ·rw[if_pos h23]
   obtain ⟨x,y,hx⟩:=args_two hp1 (by omega)
   rw[part_is (x:=x) (i:=0) (by rw[hx];rfl),part_is (x:=y) (i:=1) (by rw[hx];rfl)]
   rw[hx] at hz ih' hc
   have hcx:costX e=1:=if_pos (.inr h23)
   simp at hz hc
   have:=hpos x
   have:=hpos y
   exact ((((ih' x (by simp) c s).trans (ih' y (by simp) c _)).trans begins_gr).trans put_gr).more (by omega) (by omega)
  rw[if_neg h23]
  by_cases h27:e.op=27
  ·rw[if_pos h27]
   obtain ⟨x,y,z,hx⟩:=args_three hp1 h27
   rw[part_is (x:=x) (i:=0) (by rw[hx];rfl),part_is (x:=y) (i:=1) (by rw[hx];rfl),part_is (x:=z) (i:=2) (by rw[hx];rfl)]
   rw[hx] at hz ih' hc
   simp at hz hc
   have:=hpos x
   have:=hpos y
   have:=hpos z
   exact ((((ih' x (by simp) c s).trans (ih' y (by simp) c _)).trans (ih' z (by simp) c _)).trans put_gr).more (by omega) (by omega)
  rw[if_neg h27]
  by_cases h24:e.op=24∨e.op=25
  ·rw[if_pos h24]
   obtain ⟨x,hx⟩:=args_one hp1 (by omega)
   rw[part_is (x:=x) (i:=0) (by rw[hx];rfl)]
   rw[hx] at hz ih' hc
   simp at hz hc
   have:=hpos x
   exact ((ih' x (by simp) c.dropLast s).trans put_gr).more (by omega) (by omega)
  rw[if_neg h24]
  by_cases h26:e.op=26
  ·rw[if_pos h26]
   obtain ⟨x,y,hx⟩:=args_two hp1 (by omega)
   rw[part_is (x:=x) (i:=0) (by rw[hx];rfl),part_is (x:=y) (i:=1) (by rw[hx];rfl)]
   rw[hx] at hz ih' hc
   simp at hz hc
   have:=hpos x
   have:=hpos y
   have h1:=ih' x (by simp) (c++ [⟨e.n,false⟩]) s
   have h2:=ih' y (by simp) (c++ [⟨e.n,true⟩]) (normE x (c++ [⟨e.n,false⟩]) s).2
   exact Gr.more ((h1.trans h2).trans put_gr) (by omega) (by omega)
  rw[if_neg h26]
  by_cases h2:e.args.length=2
  ·rw[if_pos h2]
   obtain ⟨x,y,hx⟩:=len_two h2
   rw[part_is (x:=x) (i:=0) (by rw[hx];rfl),part_is (x:=y) (i:=1) (by rw[hx];rfl)]
   rw[hx] at hz ih' hc
   simp at hz hc
   have:=hpos x
   have:=hpos y
   exact (((ih' x (by simp) c s).trans (ih' y (by simp) c _)).trans put_gr).more (by omega) (by omega)
  ·rw[if_neg h2]
   obtain ⟨x,hx⟩:∃x,e.args=[x]:=by
    by_cases h5:e.op=5∨e.op=6
    ·exact args_one hp1 (by omega)
    ·obtain ⟨x,y,hx⟩:=args_two hp1 (by omega)
     rw[hx] at h2
     exact absurd rfl h2
   rw[part_is (x:=x) (i:=0) (by rw[hx];rfl)]
   rw[hx] at hz ih' hc
   simp at hz hc
   have:=hpos x
   exact ((ih' x (by simp) c s).trans put_gr).more (by omega) (by omega)
theorem ccE_all (e:Ex):ccE e (exSize e)=ccA e:=by unfold ccE ccA exSize;rw[List.take_length]
theorem normTo_gr {f:Fl} (hp:∀d∈f.defs,plainE f d.2):∀k,k≤f.defs.length→Gr (mwTo f k-f.wires.length) (mcTo f k) (startN f) (normTo f k):=by
 intro k
 induction k with
 |zero=>exact fun _=>(Gr.refl _).more (by omega) (by omega)
 |succ k ih=>
  intro hk
  have g:=ih (by omega)
  have hd:=List.getElem?_eq_getElem (show k<f.defs.length by omega)
  rw[normTo_succ hd,mw_succ hd,mc_succ hd,ccE_all]
  have h:=normE_gr (f:=f) (f.defs[k]).2 (hp _ (List.getElem_mem _)) (clockOf f.fm (f.defs[k]).1) (normTo f k)
  have h2:Gr (3*exSize (f.defs[k]).2-1) (ccA (f.defs[k]).2) (normTo f k) (normD f (normTo f k) f.defs[k]):=⟨h.w,h.c,h.ok⟩
  have h3:f.wires.length≤mwTo f k:=by unfold mwTo;omega
  exact (g.trans h2).more (by omega) (by omega)
theorem normS_size {f:Fl} (hp:∀d∈f.defs,plainE f d.2):(normS f).wires.length≤mwTo f f.defs.length∧(normS f).cells.length≤mcTo f f.defs.length∧((normS f).spent=true→1600<mwTo f f.defs.length∨60<mcTo f f.defs.length):=by
 have g:=normTo_gr hp f.defs.length (Nat.le_refl _)
 rw[normTo_all] at g
 have h3:f.wires.length≤mwTo f f.defs.length:=by unfold mwTo;omega
 refine ⟨by have h1:=g.w;have h2:(startN f).wires.length=f.wires.length:=rfl;omega,by have h1:=g.c;have h2:(startN f).cells.length=0:=rfl;omega,fun hs=>?_⟩
 apply Classical.byContradiction
 intro hn
 have h1:=g.ok rfl (by have h2:(startN f).wires.length=f.wires.length:=rfl;omega) (by have h2:(startN f).cells.length=0:=rfl;omega)
 rw[hs] at h1;cases h1
end Go.Proofs.YtckognjamlckcaaGreatDoor
namespace Go.Proofs.YtckognjamlckcaaGreatDoor.Fo
open Vf
structure Ext (s r:Mk):Prop where
 w:s.wires<+:r.wires
 a:s.acts<+:r.acts
 c:s.cells<+:r.cells
 k:s.keeps<+:r.keeps
 sp:r.spent=false→s.spent=false
def WAt (s:Mk) (n ty:Int) (c:List Gd):Prop:=∃m:Nat,n=m∧s.wires[m]? =some ⟨ty,c⟩
def CAt (s:Mk) (k:Int) (ty v n:Int):Prop:=∃m:Nat,k=m∧s.cells[m]? =some (ty,v)∧s.keeps[m]? =some ((m:Int),n)
def BegAt (s:Mk) (n:Int) (c:List Gd):Prop:=∃k t,WAt s n 2 c∧WAt s t 2 c∧CAt s k 2 1 t∧(⟨21,n,0,0,0,k⟩:Ac)∈s.acts∧(⟨2,t,0,0,0,0⟩:Ac)∈s.acts
def WasAt (s:Mk) (n x:Int) (c:List Gd):Prop:=∃k ty,WAt s n ty c∧WAt s x ty c∧CAt s k ty 0 x∧(⟨21,n,0,0,0,k⟩:Ac)∈s.acts
section
variable {s r t:Mk} {n ty x k v:Int} {c:List Gd}
theorem Ext.refl (s:Mk):Ext s s:=⟨List.prefix_refl _,List.prefix_refl _,List.prefix_refl _,List.prefix_refl _,id⟩
theorem Ext.trans (h:Ext s r) (g:Ext r t):Ext s t:=⟨h.w.trans g.w,h.a.trans g.a,h.c.trans g.c,h.k.trans g.k,fun q=>h.sp (g.sp q)⟩
theorem pre_get {α:Type} {l m:List α} {i:Nat} {x:α} (h:l<+:m) (hx:l[i]? =some x):m[i]? =some x:=by
 obtain ⟨t,rfl⟩:=h
 rw[List.getElem?_append_left (List.getElem?_eq_some_iff.1 hx).1];exact hx
theorem Ext.mem (h:Ext s r) {a:Ac} (ha:a∈s.acts):a∈r.acts:=h.a.subset ha
theorem WAt.ext (h:Ext s r) (g:WAt s n ty c):WAt r n ty c:=by
 obtain ⟨m,e,q⟩:=g
 exact ⟨m,e,pre_get h.w q⟩
theorem CAt.ext (h:Ext s r) (g:CAt s k ty v n):CAt r k ty v n:=by
 obtain ⟨m,e,q1,q2⟩:=g
 exact ⟨m,e,pre_get h.c q1,pre_get h.k q2⟩
theorem BegAt.ext (h:Ext s r) (g:BegAt s n c):BegAt r n c:=by
 obtain ⟨k,t,g1,g2,g3,g4,g5⟩:=g
 exact ⟨k,t,g1.ext h,g2.ext h,g3.ext h,h.mem g4,h.mem g5⟩
theorem WasAt.ext (h:Ext s r) (g:WasAt s n x c):WasAt r n x c:=by
 obtain ⟨k,t,g1,g2,g3,g4⟩:=g
 exact ⟨k,t,g1.ext h,g2.ext h,g3.ext h,h.mem g4⟩
theorem wire_ext:Ext s (s.wire ty c).2:=by
 unfold Mk.wire
 split
 ·exact ⟨List.prefix_refl _,List.prefix_refl _,List.prefix_refl _,List.prefix_refl _,fun h=>by cases h⟩
 ·exact ⟨List.prefix_append _ _,List.prefix_refl _,List.prefix_refl _,List.prefix_refl _,id⟩
theorem act_ext {a:Ac}:Ext s (s.act a):=⟨List.prefix_refl _,List.prefix_append _ _,List.prefix_refl _,List.prefix_refl _,id⟩
theorem put_ext {a:Ac}:Ext s (s.put ty c a).2:=wire_ext.trans act_ext
theorem cell_ext:Ext s (s.cell ty k).2:=by
 unfold Mk.cell
 split
 ·exact ⟨List.prefix_refl _,List.prefix_refl _,List.prefix_refl _,List.prefix_refl _,fun h=>by cases h⟩
 ·exact ⟨List.prefix_refl _,List.prefix_refl _,List.prefix_append _ _,List.prefix_refl _,id⟩
theorem keep_ext:Ext s (s.keep k n):=⟨List.prefix_refl _,List.prefix_refl _,List.prefix_refl _,List.prefix_append _ _,id⟩
theorem was_ext:Ext s (s.was x k c).2:=(cell_ext.trans keep_ext).trans put_ext
theorem begins_ext:Ext s (s.begins c).2:=by
 unfold Mk.begins
 split
 ·exact Ext.refl s
 ·have h:=(((cell_ext (s:=s) (ty:=2) (k:=1)).trans (put_ext (ty:=2) (c:=c) (a:=⟨21,0,0,0,0,(s.cell 2 1).1⟩))).trans (put_ext (ty:=2) (c:=c) (a:=⟨2,0,0,0,0,0⟩)))
  exact ⟨h.w,h.a,h.c,h.k.trans (List.prefix_append _ _),h.sp⟩
theorem put_at {a:Ac} (h:(s.put ty c a).2.spent=false):WAt (s.put ty c a).2 (s.put ty c a).1 ty c∧{a with dst:=(s.put ty c a).1}∈(s.put ty c a).2.acts:=by
 refine ⟨?_,by simp[Mk.put,Mk.act]⟩
 have h':(s.wire ty c).2.spent=false:=h
 show ∃m:Nat,(s.wire ty c).1=m∧(s.wire ty c).2.wires[m]? =some ⟨ty,c⟩
 unfold Mk.wire at h'⊢
 split at h'
 ·cases h'
 ·rename_i hn
  rw[if_neg hn]
  exact ⟨s.wires.length,rfl,by simp⟩
end
structure NK (s:Mk):Prop where
 kc:s.keeps.length=s.cells.length
 fst:∀p∈s.first,BegAt s p.2 p.1
section
variable {s r t:Mk} {n ty x k v:Int} {c:List Gd}
theorem ty_of (h:WAt s x ty c):s.ty x=ty:=by
 obtain ⟨m,rfl,hm⟩:=h
 unfold Mk.ty
 rw[Int.toNat_natCast,List.getD_eq_getElem?_getD,hm];rfl
theorem cell_at (h:(s.cell ty k).2.spent=false):(s.cell ty k).1=(s.cells.length:Int)∧(s.cell ty k).2.cells=s.cells++ [(ty,k)]:=by
 unfold Mk.cell at h⊢
 split at h
 ·cases h
 ·rename_i hn
  rw[if_neg hn]
  exact ⟨rfl,rfl⟩
theorem cell_fix:(s.cell ty k).2.wires=s.wires∧(s.cell ty k).2.acts=s.acts∧(s.cell ty k).2.keeps=s.keeps∧(s.cell ty k).2.first=s.first:=by
 unfold Mk.cell;split<;>exact ⟨rfl,rfl,rfl,rfl⟩
theorem put_fix {a:Ac}:(s.put ty c a).2.cells=s.cells∧(s.put ty c a).2.keeps=s.keeps∧(s.put ty c a).2.first=s.first:=by
 unfold Mk.put Mk.wire Mk.act;dsimp only;split<;>exact ⟨rfl,rfl,rfl⟩
theorem NK.put {a:Ac} (h:NK s):NK (s.put ty c a).2:=by
 obtain ⟨q1,q2,q3⟩:=put_fix (s:=s) (ty:=ty) (c:=c) (a:=a)
 exact ⟨by rw[q1,q2];exact h.kc,by rw[q3];exact fun p hp=>(h.fst p hp).ext put_ext⟩
theorem was_at (hk:NK s) (hx:WAt s x ty c) (h:(s.was x 0 c).2.spent=false):WasAt (s.was x 0 c).2 (s.was x 0 c).1 x c∧NK (s.was x 0 c).2:=by
 have hty:=ty_of hx
 unfold Mk.was at h⊢
 rw[hty] at h⊢
 have h1:(s.cell ty 0).2.spent=false:=(keep_ext.trans (put_ext (s:=(s.cell ty 0).2.keep (s.cell ty 0).1 x))).sp h
 obtain ⟨e1,e2⟩:=cell_at h1
 obtain ⟨f1,f2,f3,f4⟩:=cell_fix (s:=s) (ty:=ty) (k:=0)
 obtain ⟨p1,p2⟩:=put_at h
 obtain ⟨q1,q2,q3⟩:=put_fix (s:=(s.cell ty 0).2.keep (s.cell ty 0).1 x) (ty:=ty) (c:=c) (a:=⟨21,0,0,0,0,(s.cell ty 0).1⟩)
 have hE:Ext s (((s.cell ty 0).2.keep (s.cell ty 0).1 x).put ty c ⟨21,0,0,0,0,(s.cell ty 0).1⟩).2:=(cell_ext.trans keep_ext).trans put_ext
 refine ⟨⟨(s.cell ty 0).1,ty,p1,hx.ext hE,⟨s.cells.length,e1,?_,?_⟩,p2⟩,?_,?_⟩
 ·rw[q1]
  show (s.cell ty 0).2.cells[_]? =_
  rw[e2];simp
 ·rw[q2]
  show ((s.cell ty 0).2.keeps++ [((s.cell ty 0).1,x)])[_]? =_
  rw[f3,e1,←hk.kc];simp
 ·rw[q1,q2]
  show ((s.cell ty 0).2.keeps++ [((s.cell ty 0).1,x)]).length=(s.cell ty 0).2.cells.length
  rw[f3,e2];simp[hk.kc]
 ·rw[q3]
  show ∀p∈(s.cell ty 0).2.first,_
  rw[f4]
  exact fun p hp=>(hk.fst p hp).ext hE
theorem begins_at (hk:NK s) (h:(s.begins c).2.spent=false):BegAt (s.begins c).2 (s.begins c).1 c∧NK (s.begins c).2:=by
 have hE:=begins_ext (s:=s) (c:=c)
 unfold Mk.begins at h hE⊢
 split at h
 ·rename_i w hw
  obtain ⟨p,hp,rfl⟩:=Option.map_eq_some_iff.1 hw
  have h1:=hk.fst p (List.mem_of_find?_eq_some hp)
  have h2:=List.find?_some hp
  rw[cB_iff.1 h2] at h1
  exact ⟨h1,hk⟩
 ·rename_i hw
  rw[hw] at hE
  dsimp only at h hE⊢
  have ht:(((s.cell 2 1).2.put 2 c ⟨21,0,0,0,0,(s.cell 2 1).1⟩).2.put 2 c ⟨2,0,0,0,0,0⟩).2.spent=false:=h
  have hw1:=put_ext.sp ht
  have hc1:=put_ext.sp hw1
  obtain ⟨e1,e2⟩:=cell_at hc1
  obtain ⟨f1,f2,f3,f4⟩:=cell_fix (s:=s) (ty:=2) (k:=1)
  obtain ⟨p1,p2⟩:=put_at hw1
  obtain ⟨u1,u2⟩:=put_at ht
  refine' zq179
  generalize hw2:(s.cell 2 1).2.put 2 c ⟨21,0,0,0,0,(s.cell 2 1).1⟩=W at*
  generalize ht2:W.2.put 2 c ⟨2,0,0,0,0,0⟩=T at*
  have hx2:Ext W.2 {T.2.keep (s.cell 2 1).1 T.1 with first:=(c,W.1)::T.2.first}:=⟨hx.w,hx.a,hx.c,hx.k.trans (List.prefix_append _ _),hx.sp⟩
  have hb:BegAt {T.2.keep (s.cell 2 1).1 T.1 with first:=(c,W.1)::T.2.first} W.1 c:=by
   refine ⟨(s.cell 2 1).1,T.1,p1.ext hx2,u1,⟨s.cells.length,e1,?_,?_⟩,hx2.mem p2,u2⟩
   ·show T.2.cells[_]? =_
    rw[v1,q1,e2];simp
   ·show (T.2.keeps++ [((s.cell 2 1).1,T.1)])[_]? =_
    rw[v2,q2,f3,e1,←hk.kc];simp
  refine ⟨hb,?_,fun p hp=>?_⟩
  ·show (T.2.keeps++ [((s.cell 2 1).1,T.1)]).length=T.2.cells.length
   rw[v1,q1,e2,v2,q2,f3];simp[hk.kc]
  ·rcases List.mem_cons.1 hp with rfl|hp
   ·exact hb
   ·rw[v3,q3,f4] at hp
    exact (hk.fst p hp).ext hE
end
end Go.Proofs.YtckognjamlckcaaGreatDoor.Fo
