/-
  The document's Wants.
-/
import Derived.Test.YtckognjamlckcaaGreatDoorR24A
namespace Go.Proofs.YtckognjamlckcaaGreatDoor
open Go.RowKit Vf Fo
attribute [local go_sem ↓] Go.wp_at_zero Go.wp_at_succ
set_option maxRecDepth 100000 in
set_option maxHeartbeats 8000000 in
theorem rwants_any {w:World} {B:Nat} {f:Fm} {vw va vc vk vi vo:Value} (h:FmAt w B f vw va vc vk vi vo) (hB:B≤w.heap.size) (x:Ac) (wx:AcIn x) (ho:AcOk f x):
  Calls Tryz.prog 73 #[fmV vw va vc vk vi vo,acV x] w fun e w'=>∃v,e= .returned v∧SlV w' w'.heap.size 1 isInt v (wantsAll f x)∧Below w.heap.size w w':=by
 obtain ⟨hu,hd,hwn,hcl⟩:=ho
 obtain ⟨i0,hi0,hz0,hz1,hz2⟩:=info_parts info_int
 obtain ⟨m0,b6,off6,cw6,Ag6,cg6,hmd,hm,hvw,lw6,mw6,hb6,wt6,d0,d1,lg6,mg6,sg6⟩:=fm_wire h hd
 subst hvw
 have hgl:b6<w.heap.size:=by omega
 obtain ⟨op,dst,a,b,c,k⟩:=x
 dsimp only at*
 subst hmd
 have hm':(m0:Int)<f.wires.length:=by omega
 have hcg:cg6≤9223372036854775807:=by unfold maxLen at mg6;omega
 have HWF:Hid (∀n∈wantsAll f ⟨op,(m0:Int),a,b,c,k⟩,Wf n):=by
  intro n hn
  rcases List.mem_append.1 hn with hn|hn
  ·have hw:n=a∨n=b∨n=c:=by
    unfold wants at hn
    dsimp only at hn
    split at hn
    ·simp at hn
    ·split at hn
     ·simp at hn;exact .inl hn
     ·split at hn
      ·simp at hn;rcases hn with h|h<;>simp[h]
      ·simp at hn;exact hn
   rcases hw with rfl|rfl|rfl
   ·exact wx.a
   ·exact wx.b
   ·exact wx.c
  ·obtain ⟨g,hg,rfl⟩:=List.mem_map.1 hn
   obtain ⟨i,hi⟩:=List.getElem?_of_mem hg
   obtain ⟨_,_,g',_,_,hg',wg,_⟩:=sg6.gd (List.getElem?_eq_some_iff.1 hi).1
   rw[hi] at hg'
   injection hg' with hg'
   rw[hg'];exact wg
 generalize hw1:(w.alloc (.cells #[.slice (some ⟨b6,off6,none⟩) f.wires.length cw6,va,vc,vk,vi,vo] 28)).alloc (.cells #[.int .i64 op,.int .i64 (m0:Int),.int .i64 a,.int .i64 b,.int .i64 c,.int .i64 k] 58)=w1
 have b1:Below w.heap.size w w1:=by rw[←hw1];exact bE
 have rF:Row w1 w.heap.size #[.slice (some ⟨b6,off6,none⟩) f.wires.length cw6,va,vc,vk,vi,vo] 28:=by rw[←hw1];exact (Row.new w _ _).alloc _
 have rX:Row w1 (w.heap.size+1) #[.int .i64 op,.int .i64 (m0:Int),.int .i64 a,.int .i64 b,.int .i64 c,.int .i64 k] 58:=by rw[←hw1];exact rowNew2 w _ _ _
 have hs1:w1.heap.size=w.heap.size+1+1:=by rw[←hw1];simp
 have HD:Hid (∀W,Below w1.heap.size w1 W→W.cell? ⟨w.heap.size,0,none⟩=some (.slice (some ⟨b6,off6,none⟩) f.wires.length cw6)∧W.cell? ⟨b6,off6+m0*2+1,none⟩=some (.slice Ag6 (clockOf f m0).length cg6)∧W.cell? ⟨w.heap.size+1,0,none⟩=some (.int .i64 op)∧W.cell? ⟨w.heap.size+1,1,none⟩=some (.int .i64 (m0:Int))∧W.cell? ⟨w.heap.size+1,2,none⟩=some (.int .i64 a)∧W.cell? ⟨w.heap.size+1,3,none⟩=some (.int .i64 b)∧W.cell? ⟨w.heap.size+1,4,none⟩=some (.int .i64 c)∧W.cell? ⟨w.heap.size+1,5,none⟩=some (.int .i64 k)):=fun W hW=>
  ⟨(rF.below hW rF.lt).cell 0,cell_kept d1 (b1.trans (hW.mono (by omega))),(rX.below hW rX.lt).six'⟩
 have HGD:Hid (∀W,Below w1.heap.size w1 W→Sl W B 2 isGd Ag6 (clockOf f m0)):=fun W hW=>sg6.below ((b1.trans (hW.mono (by omega))).mono hB)
 have HFI:Hid (∀W v,Below w1.heap.size w1 W→W.ownsRow w1.heap.size 3 1 v (wantsAll f ⟨op,(m0:Int),a,b,c,k⟩).length (ints (wantsAll f ⟨op,(m0:Int),a,b,c,k⟩))→SlV W W.heap.size 1 isInt v (wantsAll f ⟨op,(m0:Int),a,b,c,k⟩)∧Below w.heap.size w W):=fun W v hW ho=>
  ⟨ownI ho HWF.out,b1.trans (hW.mono (by omega))⟩
 have HCL:=Lib.hid hcl
 have HU:=Lib.hid hu
 have HONE:Hid (∀(q:Int),∀u∈[Value.int .i64 q],u.oneCell'=true):=by intro q u hu;simp at hu;subst hu;rfl
 clear h wx hd hwn hu d0 d1 sg6 wt6 HWF b1 rF rX hcl hs1
 have hcl16:(clockOf f m0).length≤1600:=HCL.out
 have hs11:w1.heap.size≤w1.heap.size:=Nat.le_refl _
 generalize hlen:(clockOf f (m0:Int)).length=len at*
 have HLEN:=Lib.hid hlen
 clear hlen
 obtain ⟨y0,y1,c0,c1,c2,c3,c4,c5⟩:=HD.out w1 (Below.refl _ _)
 generalize hu:uses op=u at*
 have HUE:=Lib.hid hu
 have hu4:u=0∨u=1∨u=2∨u=3:=by
  have h0:=HU.out
  have h1:=HUE.out
  unfold uses at h1
  split at h1
  ·omega
  ·split at h1
   ·omega
   ·split at h1
    ·omega
    ·split at h1<;>omega
 clear hu
 rcases hu4 with hu|hu|hu|hu
 ·subst hu
  have HW:Hid (wants ⟨op,(m0:Int),a,b,c,k⟩=[]):=by show _=_;simp[wants,HUE.out]
  go_enter Tryz.func73,Tryz.ntmps73
  go_upto_region 1 with (fail)
  (try rw[hw1])
  clear hw1
  go_wp2_with fail
  (with_reducible refine (ruses_any _ _).mono ?_)
  rintro e w1' ⟨rfl,rfl⟩
  rw[HUE.out]
  go_wp2_with fail
  go_loopw[5,7] (fun v i wr=>∃j:Nat,j≤len∧i= .int .i64 j∧wr.ownsRow w1.heap.size 3 1 v (0+j) (ints ([]++((clockOf f m0).take j).map (·.wire)))∧Below w1.heap.size w1 wr) (fun _ i _=>len-(intOf i).toNat)
  case atStart=>exact ⟨0,Nat.zero_le _,rfl,World.ownsRow_nil _ _ _ _,Below.refl _ _⟩
  case round=>
   obtain ⟨j,hj,rfl,hown,hb⟩:=hrel
   have hsr:=hb.size
   clear y0 y1 c0 c1 c2 c3 c4 c5
   obtain ⟨y0,y1,c0,c1,c2,c3,c4,c5⟩:=HD.out wr hb
   by_cases hlt:j<len
   ·obtain ⟨bg,og,⟨gw,gn⟩,hAg,hbg,hgg,wg,e0,e1⟩:=(HGD.out _ hb).gd (k:=j) (by rw[HLEN.out];exact hlt)
    subst hAg
    dsimp only at e0 e1
    have HS:=Lib.hid (show ints ([]++((clockOf f m0).take (j+1)).map (·.wire))=ints ([]++((clockOf f m0).take j).map (·.wire))++ [.int .i64 gw] by
     rw[take_snoc' hgg,List.map_append,←List.append_assoc,List.map_singleton,ints_snoc])
    clear hgg
    generalize ints ([]++((clockOf f m0).take j).map (·.wire))=LL at*
    go_wp2_with (at_builtin;refine wpList_append_own _ rfl _ _ 26 rfl w1.heap.size 3 i0 (.int .i64 0) 1 8 Tryz.underlying26 hi0 hz0 hz1 hz2 rfl (by decide) _ _ _ rfl (hown.alloc _) ⟨wr.heap.size,0,none⟩ 1 1 [.int .i64 gw] rfl rfl (cells_new _ _ _) (HONE.out _) (by unfold maxLen;omega) (by omega) (by simp;omega) ?_)
    intro v' w3 hown1 hgrow _
    have HB:=Lib.hid (below_own (hb.alloc hsr _) (hown.alloc _) hgrow (by simp;omega))
    have HO:Hid (w3.ownsRow w1.heap.size 3 1 v' (0+(j+1)) (LL++ [Value.int IntKind.i64 gw])):=by first|exact hown1|(rw[Nat.zero_add];exact hown1)|(rw[←Nat.add_assoc];exact hown1)
    clear hown hown1 hgrow
    go_wp2_with fail
    go_roundw
    case rel=>exact ⟨j+1,by omega,by go_num,by rw[HS.out];exact HO.out,HB.out⟩
    case measure=>simp[intOf];omega
   ·obtain rfl:j=len:=by omega
    have HO:=Lib.hid hown
    have HB:=Lib.hid hb
    clear hown hb
    go_wp2_with fail
    go_ret
    refine ⟨_,rfl,HFI.out _ _ HB.out ?_⟩
    have:=HO.out
    rw[←HLEN.out,List.take_length] at this
    rw[show wantsAll f ⟨_,(m0:Int),a,b,c,k⟩=([]:List Int)++(clockOf f m0).map (·.wire) from by rw[wantsAll,HW.out],show (([]:List Int)++(clockOf f m0).map (·.wire)).length=0+(clockOf f m0).length by simp;(try omega)]
    exact this
 ·subst hu
  have HW:Hid (wants ⟨op,(m0:Int),a,b,c,k⟩=[a]):=by show _=_;simp[wants,HUE.out]
  go_enter Tryz.func73,Tryz.ntmps73
  go_upto_region 1 with (fail)
  (try rw[hw1])
  clear hw1
  go_wp2_with fail
  (with_reducible refine (ruses_any _ _).mono ?_)
  rintro e w1' ⟨rfl,rfl⟩
  rw[HUE.out]
  go_wp2_with (at_builtin;refine wpList_append_own _ rfl _ _ 26 rfl w1.heap.size 3 i0 (.int .i64 0) 1 8 Tryz.underlying26 hi0 hz0 hz1 hz2 rfl (by decide) _ _ _ rfl (World.ownsRow_nil _ _ _ _) ⟨w1.heap.size,0,none⟩ 1 1 [.int .i64 a] rfl rfl (cells_new _ _ _) (HONE.out _) (by unfold maxLen;omega) (by omega) (by first|(simp;done)|(simp;omega)) ?_)
  intro v1 w1a hown hgrow _
  have hb1a:=below_own ((Below.refl w1.heap.size w1).alloc (by first|exact Nat.le_refl _|assumption) _) (World.ownsRow_nil _ _ 3 1) hgrow (by first|(simp;done)|(simp;omega))
  have HO1:Hid (w1a.ownsRow w1.heap.size 3 1 v1 1 (ints [a])):=by first|exact hown|simpa[ints] using hown
  have hs1a:=hb1a.size
  clear hown hgrow
  clear y0 y1 c0 c1 c2 c3 c4 c5
  obtain ⟨y0,y1,c0,c1,c2,c3,c4,c5⟩:=HD.out w1a hb1a
  go_wp2_with fail
  go_loopw[5,7] (fun v i wr=>∃j:Nat,j≤len∧i= .int .i64 j∧wr.ownsRow w1.heap.size 3 1 v (1+j) (ints ([a]++((clockOf f m0).take j).map (·.wire)))∧Below w1.heap.size w1 wr) (fun _ i _=>len-(intOf i).toNat)
  case atStart=>exact ⟨0,Nat.zero_le _,rfl,(by first|exact HO1.out|(rw[Nat.add_zero,List.take_zero,List.map_nil,List.append_nil];exact HO1.out)),hb1a⟩
  case round=>
   obtain ⟨j,hj,rfl,hown,hb⟩:=hrel
   have hsr:=hb.size
   clear y0 y1 c0 c1 c2 c3 c4 c5
   obtain ⟨y0,y1,c0,c1,c2,c3,c4,c5⟩:=HD.out wr hb
   by_cases hlt:j<len
   ·obtain ⟨bg,og,⟨gw,gn⟩,hAg,hbg,hgg,wg,e0,e1⟩:=(HGD.out _ hb).gd (k:=j) (by rw[HLEN.out];exact hlt)
    subst hAg
    dsimp only at e0 e1
    have HS:=Lib.hid (show ints ([a]++((clockOf f m0).take (j+1)).map (·.wire))=ints ([a]++((clockOf f m0).take j).map (·.wire))++ [.int .i64 gw] by
     rw[take_snoc' hgg,List.map_append,←List.append_assoc,List.map_singleton,ints_snoc])
    clear hgg
    generalize ints ([a]++((clockOf f m0).take j).map (·.wire))=LL at*
    go_wp2_with (at_builtin;refine wpList_append_own _ rfl _ _ 26 rfl w1.heap.size 3 i0 (.int .i64 0) 1 8 Tryz.underlying26 hi0 hz0 hz1 hz2 rfl (by decide) _ _ _ rfl (hown.alloc _) ⟨wr.heap.size,0,none⟩ 1 1 [.int .i64 gw] rfl rfl (cells_new _ _ _) (HONE.out _) (by unfold maxLen;omega) (by omega) (by simp;omega) ?_)
    intro v' w3 hown1 hgrow _
    have HB:=Lib.hid (below_own (hb.alloc hsr _) (hown.alloc _) hgrow (by simp;omega))
    have HO:Hid (w3.ownsRow w1.heap.size 3 1 v' (1+(j+1)) (LL++ [Value.int IntKind.i64 gw])):=by first|exact hown1|(rw[Nat.zero_add];exact hown1)|(rw[←Nat.add_assoc];exact hown1)
    clear hown hown1 hgrow
    go_wp2_with fail
    go_roundw
    case rel=>exact ⟨j+1,by omega,by go_num,by rw[HS.out];exact HO.out,HB.out⟩
    case measure=>simp[intOf];omega
   ·obtain rfl:j=len:=by omega
    have HO:=Lib.hid hown
    have HB:=Lib.hid hb
    clear hown hb
    go_wp2_with fail
    go_ret
    refine ⟨_,rfl,HFI.out _ _ HB.out ?_⟩
    have:=HO.out
    rw[←HLEN.out,List.take_length] at this
    rw[show wantsAll f ⟨_,(m0:Int),a,b,c,k⟩=[a]++(clockOf f m0).map (·.wire) from by rw[wantsAll,HW.out],show ([a]++(clockOf f m0).map (·.wire)).length=1+(clockOf f m0).length by simp;(try omega)]
    exact this
 ·subst hu
  have HW:Hid (wants ⟨op,(m0:Int),a,b,c,k⟩=[a,b]):=by show _=_;simp[wants,HUE.out]
  go_enter Tryz.func73,Tryz.ntmps73
  go_upto_region 1 with (fail)
  (try rw[hw1])
  clear hw1
  go_wp2_with fail
  (with_reducible refine (ruses_any _ _).mono ?_)
  rintro e w1' ⟨rfl,rfl⟩
  rw[HUE.out]
  go_wp2_with (at_builtin;refine wpList_append_own _ rfl _ _ 26 rfl w1.heap.size 3 i0 (.int .i64 0) 1 8 Tryz.underlying26 hi0 hz0 hz1 hz2 rfl (by decide) _ _ _ rfl (World.ownsRow_nil _ _ _ _) ⟨w1.heap.size,0,none⟩ 1 1 [.int .i64 a] rfl rfl (cells_new _ _ _) (HONE.out _) (by unfold maxLen;omega) (by omega) (by first|(simp;done)|(simp;omega)) ?_)
  intro v1 w1a hown hgrow _
  have hb1a:=below_own ((Below.refl w1.heap.size w1).alloc (by first|exact Nat.le_refl _|assumption) _) (World.ownsRow_nil _ _ 3 1) hgrow (by first|(simp;done)|(simp;omega))
  have HO1:Hid (w1a.ownsRow w1.heap.size 3 1 v1 1 (ints [a])):=by first|exact hown|simpa[ints] using hown
  have hs1a:=hb1a.size
  clear hown hgrow
  clear y0 y1 c0 c1 c2 c3 c4 c5
  obtain ⟨y0,y1,c0,c1,c2,c3,c4,c5⟩:=HD.out w1a hb1a
  go_wp2_with (at_builtin;refine wpList_append_own _ rfl _ _ 26 rfl w1.heap.size 3 i0 (.int .i64 0) 1 8 Tryz.underlying26 hi0 hz0 hz1 hz2 rfl (by decide) _ _ _ rfl (HO1.out.alloc _) ⟨w1a.heap.size,0,none⟩ 1 1 [.int .i64 b] rfl rfl (cells_new _ _ _) (HONE.out _) (by unfold maxLen;omega) (by omega) (by first|(simp;done)|(simp;omega)) ?_)
  intro v2 w2a hown hgrow _
  have hb2a:=below_own (hb1a.alloc (by first|exact Nat.le_refl _|assumption) _) (HO1.out.alloc _) hgrow (by first|(simp;done)|(simp;omega))
  have HO2:Hid (w2a.ownsRow w1.heap.size 3 1 v2 2 (ints [a,b])):=by first|exact hown|simpa[ints] using hown
  have hs2a:=hb2a.size
  clear hown hgrow
  clear y0 y1 c0 c1 c2 c3 c4 c5
  obtain ⟨y0,y1,c0,c1,c2,c3,c4,c5⟩:=HD.out w2a hb2a
  go_wp2_with fail
  go_loopw[5,7] (fun v i wr=>∃j:Nat,j≤len∧i= .int .i64 j∧wr.ownsRow w1.heap.size 3 1 v (2+j) (ints ([a,b]++((clockOf f m0).take j).map (·.wire)))∧Below w1.heap.size w1 wr) (fun _ i _=>len-(intOf i).toNat)
  case atStart=>exact ⟨0,Nat.zero_le _,rfl,(by first|exact HO2.out|(rw[Nat.add_zero,List.take_zero,List.map_nil,List.append_nil];exact HO2.out)),hb2a⟩
  case round=>
   obtain ⟨j,hj,rfl,hown,hb⟩:=hrel
   have hsr:=hb.size
   clear y0 y1 c0 c1 c2 c3 c4 c5
   obtain ⟨y0,y1,c0,c1,c2,c3,c4,c5⟩:=HD.out wr hb
   by_cases hlt:j<len
   ·obtain ⟨bg,og,⟨gw,gn⟩,hAg,hbg,hgg,wg,e0,e1⟩:=(HGD.out _ hb).gd (k:=j) (by rw[HLEN.out];exact hlt)
    subst hAg
    dsimp only at e0 e1
    have HS:=Lib.hid (show ints ([a,b]++((clockOf f m0).take (j+1)).map (·.wire))=ints ([a,b]++((clockOf f m0).take j).map (·.wire))++ [.int .i64 gw] by
     rw[take_snoc' hgg,List.map_append,←List.append_assoc,List.map_singleton,ints_snoc])
    clear hgg
    generalize ints ([a,b]++((clockOf f m0).take j).map (·.wire))=LL at*
    go_wp2_with (at_builtin;refine wpList_append_own _ rfl _ _ 26 rfl w1.heap.size 3 i0 (.int .i64 0) 1 8 Tryz.underlying26 hi0 hz0 hz1 hz2 rfl (by decide) _ _ _ rfl (hown.alloc _) ⟨wr.heap.size,0,none⟩ 1 1 [.int .i64 gw] rfl rfl (cells_new _ _ _) (HONE.out _) (by unfold maxLen;omega) (by omega) (by simp;omega) ?_)
    intro v' w3 hown1 hgrow _
    have HB:=Lib.hid (below_own (hb.alloc hsr _) (hown.alloc _) hgrow (by simp;omega))
    have HO:Hid (w3.ownsRow w1.heap.size 3 1 v' (2+(j+1)) (LL++ [Value.int IntKind.i64 gw])):=by first|exact hown1|(rw[Nat.zero_add];exact hown1)|(rw[←Nat.add_assoc];exact hown1)
    clear hown hown1 hgrow
    go_wp2_with fail
    go_roundw
    case rel=>exact ⟨j+1,by omega,by go_num,by rw[HS.out];exact HO.out,HB.out⟩
    case measure=>simp[intOf];omega
   ·obtain rfl:j=len:=by omega
    have HO:=Lib.hid hown
    have HB:=Lib.hid hb
    clear hown hb
    go_wp2_with fail
    go_ret
    refine ⟨_,rfl,HFI.out _ _ HB.out ?_⟩
    have:=HO.out
    rw[←HLEN.out,List.take_length] at this
    rw[show wantsAll f ⟨_,(m0:Int),a,b,c,k⟩=[a,b]++(clockOf f m0).map (·.wire) from by rw[wantsAll,HW.out],show ([a,b]++(clockOf f m0).map (·.wire)).length=2+(clockOf f m0).length by simp;(try omega)]
    exact this
 ·subst hu
  have HW:Hid (wants ⟨op,(m0:Int),a,b,c,k⟩=[a,b,c]):=by show _=_;simp[wants,HUE.out]
  go_enter Tryz.func73,Tryz.ntmps73
  go_upto_region 1 with (fail)
  (try rw[hw1])
  clear hw1
  go_wp2_with fail
  (with_reducible refine (ruses_any _ _).mono ?_)
  rintro e w1' ⟨rfl,rfl⟩
  rw[HUE.out]
  go_wp2_with (at_builtin;refine wpList_append_own _ rfl _ _ 26 rfl w1.heap.size 3 i0 (.int .i64 0) 1 8 Tryz.underlying26 hi0 hz0 hz1 hz2 rfl (by decide) _ _ _ rfl (World.ownsRow_nil _ _ _ _) ⟨w1.heap.size,0,none⟩ 1 1 [.int .i64 a] rfl rfl (cells_new _ _ _) (HONE.out _) (by unfold maxLen;omega) (by omega) (by first|(simp;done)|(simp;omega)) ?_)
  intro v1 w1a hown hgrow _
  have hb1a:=below_own ((Below.refl w1.heap.size w1).alloc (by first|exact Nat.le_refl _|assumption) _) (World.ownsRow_nil _ _ 3 1) hgrow (by first|(simp;done)|(simp;omega))
  have HO1:Hid (w1a.ownsRow w1.heap.size 3 1 v1 1 (ints [a])):=by first|exact hown|simpa[ints] using hown
  have hs1a:=hb1a.size
  clear hown hgrow
  clear y0 y1 c0 c1 c2 c3 c4 c5
  obtain ⟨y0,y1,c0,c1,c2,c3,c4,c5⟩:=HD.out w1a hb1a
  go_wp2_with (at_builtin;refine wpList_append_own _ rfl _ _ 26 rfl w1.heap.size 3 i0 (.int .i64 0) 1 8 Tryz.underlying26 hi0 hz0 hz1 hz2 rfl (by decide) _ _ _ rfl (HO1.out.alloc _) ⟨w1a.heap.size,0,none⟩ 1 1 [.int .i64 b] rfl rfl (cells_new _ _ _) (HONE.out _) (by unfold maxLen;omega) (by omega) (by first|(simp;done)|(simp;omega)) ?_)
  intro v2 w2a hown hgrow _
  have hb2a:=below_own (hb1a.alloc (by first|exact Nat.le_refl _|assumption) _) (HO1.out.alloc _) hgrow (by first|(simp;done)|(simp;omega))
  have HO2:Hid (w2a.ownsRow w1.heap.size 3 1 v2 2 (ints [a,b])):=by first|exact hown|simpa[ints] using hown
  have hs2a:=hb2a.size
  clear hown hgrow
  clear y0 y1 c0 c1 c2 c3 c4 c5
  obtain ⟨y0,y1,c0,c1,c2,c3,c4,c5⟩:=HD.out w2a hb2a
  go_wp2_with (at_builtin;refine wpList_append_own _ rfl _ _ 26 rfl w1.heap.size 3 i0 (.int .i64 0) 1 8 Tryz.underlying26 hi0 hz0 hz1 hz2 rfl (by decide) _ _ _ rfl (HO2.out.alloc _) ⟨w2a.heap.size,0,none⟩ 1 1 [.int .i64 c] rfl rfl (cells_new _ _ _) (HONE.out _) (by unfold maxLen;omega) (by omega) (by first|(simp;done)|(simp;omega)) ?_)
  intro v3 w3a hown hgrow _
  have hb3a:=below_own (hb2a.alloc (by first|exact Nat.le_refl _|assumption) _) (HO2.out.alloc _) hgrow (by first|(simp;done)|(simp;omega))
  have HO3:Hid (w3a.ownsRow w1.heap.size 3 1 v3 3 (ints [a,b,c])):=by first|exact hown|simpa[ints] using hown
  have hs3a:=hb3a.size
  clear hown hgrow
  clear y0 y1 c0 c1 c2 c3 c4 c5
  obtain ⟨y0,y1,c0,c1,c2,c3,c4,c5⟩:=HD.out w3a hb3a
  go_wp2_with fail
  go_loopw[5,7] (fun v i wr=>∃j:Nat,j≤len∧i= .int .i64 j∧wr.ownsRow w1.heap.size 3 1 v (3+j) (ints ([a,b,c]++((clockOf f m0).take j).map (·.wire)))∧Below w1.heap.size w1 wr) (fun _ i _=>len-(intOf i).toNat)
  case atStart=>exact ⟨0,Nat.zero_le _,rfl,(by first|exact HO3.out|(rw[Nat.add_zero,List.take_zero,List.map_nil,List.append_nil];exact HO3.out)),hb3a⟩
  case round=>
   obtain ⟨j,hj,rfl,hown,hb⟩:=hrel
   have hsr:=hb.size
   clear y0 y1 c0 c1 c2 c3 c4 c5
   obtain ⟨y0,y1,c0,c1,c2,c3,c4,c5⟩:=HD.out wr hb
   by_cases hlt:j<len
   ·obtain ⟨bg,og,⟨gw,gn⟩,hAg,hbg,hgg,wg,e0,e1⟩:=(HGD.out _ hb).gd (k:=j) (by rw[HLEN.out];exact hlt)
    subst hAg
    dsimp only at e0 e1
    have HS:=Lib.hid (show ints ([a,b,c]++((clockOf f m0).take (j+1)).map (·.wire))=ints ([a,b,c]++((clockOf f m0).take j).map (·.wire))++ [.int .i64 gw] by
     rw[take_snoc' hgg,List.map_append,←List.append_assoc,List.map_singleton,ints_snoc])
    clear hgg
    generalize ints ([a,b,c]++((clockOf f m0).take j).map (·.wire))=LL at*
    go_wp2_with (at_builtin;refine wpList_append_own _ rfl _ _ 26 rfl w1.heap.size 3 i0 (.int .i64 0) 1 8 Tryz.underlying26 hi0 hz0 hz1 hz2 rfl (by decide) _ _ _ rfl (hown.alloc _) ⟨wr.heap.size,0,none⟩ 1 1 [.int .i64 gw] rfl rfl (cells_new _ _ _) (HONE.out _) (by unfold maxLen;omega) (by omega) (by simp;omega) ?_)
    intro v' w3 hown1 hgrow _
    have HB:=Lib.hid (below_own (hb.alloc hsr _) (hown.alloc _) hgrow (by simp;omega))
    have HO:Hid (w3.ownsRow w1.heap.size 3 1 v' (3+(j+1)) (LL++ [Value.int IntKind.i64 gw])):=by first|exact hown1|(rw[Nat.zero_add];exact hown1)|(rw[←Nat.add_assoc];exact hown1)
    clear hown hown1 hgrow
    go_wp2_with fail
    go_roundw
    case rel=>exact ⟨j+1,by omega,by go_num,by rw[HS.out];exact HO.out,HB.out⟩
    case measure=>simp[intOf];omega
   ·obtain rfl:j=len:=by omega
    have HO:=Lib.hid hown
    have HB:=Lib.hid hb
    clear hown hb
    go_wp2_with fail
    go_ret
    refine ⟨_,rfl,HFI.out _ _ HB.out ?_⟩
    have:=HO.out
    rw[←HLEN.out,List.take_length] at this
    rw[show wantsAll f ⟨_,(m0:Int),a,b,c,k⟩=[a,b,c]++(clockOf f m0).map (·.wire) from by rw[wantsAll,HW.out],show ([a,b,c]++(clockOf f m0).map (·.wire)).length=3+(clockOf f m0).length by simp;(try omega)]
    exact this
end Go.Proofs.YtckognjamlckcaaGreatDoor
