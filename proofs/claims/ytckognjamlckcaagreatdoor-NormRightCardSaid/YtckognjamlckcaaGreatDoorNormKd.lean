/-
  norm's looker: act, an act that is rarer.
-/
import Derived.Test.YtckognjamlckcaaGreatDoorNormKc
import Derived.IntWalk
namespace Go.Proofs.YtckognjamlckcaaGreatDoor
open Go.RowKit Vf Fo
attribute [local go_sem ↓] Go.wp_at_zero Go.wp_at_succ
section
variable {w:World} {B L:Nat} {f:Fm} {vw va vc vk vi vo vb ve:Value}
theorem last_iff {l m:List Gd} {n:Nat} {g:Gd} (hl:l.length=n+1) (hg:l[n]? =some g):(∃g,l=m++ [g])↔l=m++ [g]:=by
 constructor
 ·rintro ⟨g',h⟩
  have hm:m.length=n:=by have:=congrArg List.length h;simp at this;omega
  rw[h,List.getElem?_append_right (by omega),hm] at hg
  simp at hg
  rw[h,hg]
 ·exact fun h=>⟨g,h⟩
set_option maxRecDepth 100000 in
set_option maxHeartbeats 2000000 in
theorem nact_24 (h:NkAt w B L f vw va vc vk vi vo vb ve) (hB:B≤w.heap.size) (op dst a b c k:Int) (wx:AcIn ⟨op,dst,a,b,c,k⟩) (hd:isW f dst) (hop:op=24) (hall:allW3 f a b c) (hcl:∀n,isW f n→(clockOf f n).length≤1600):
  Calls Tryz.prog 28 #[.pointer (some ⟨L,0,none⟩),.agg #[.int .i64 op,.int .i64 dst,.int .i64 a,.int .i64 b,.int .i64 c,.int .i64 k]] w fun e w'=>e= .returned (.bool (cB (actOk f ⟨op,dst,a,b,c,k⟩)))∧Below w.heap.size w w':=by
 have HH:=Lib.hid h
 have hBw:=hB
 obtain ⟨wop,wd,wa,wb,wc,wk⟩:=wx
 dsimp only at wop wd wa wb wc wk
 clear h hB
 have HIFF:=Lib.hid (act_iff24 (dst:=dst) (k:=k) hop hall)
 have HV3:Hid (cB (isW f a∧isW f b∧isW f c)=true):=cB_true hall
 have sg:Ar.signB op=false:=by simp[Ar.signB];omega
 have o1:(op==1)=false:=by rw[beq_eq_false_iff_ne];omega
 have o2:(op==2)=false:=by rw[beq_eq_false_iff_ne];omega
 have o3:(op==3)=false:=by rw[beq_eq_false_iff_ne];omega
 have o27:(op==27)=false:=by rw[beq_eq_false_iff_ne];omega
 have o24:(op==24)=true:=by rw[beq_iff_eq];omega
 have o26:(op==26)=false:=by rw[beq_eq_false_iff_ne];omega
 have o21:(op==21)=false:=by rw[beq_eq_false_iff_ne];omega
 clear hop
 by_cases h0:b=0∧c=0∧k=0
 rotate_left 1
 ·have HQ:=Lib.hid (cB_false (show ¬actOk f ⟨op,dst,a,b,c,k⟩ from fun g=>h0 (HIFF.out.1 g).1))
  generalize cB (actOk f ⟨op,dst,a,b,c,k⟩)=R at*
  rcases (by omega:b≠0∨(b=0∧c≠0)∨(b=0∧c=0∧k≠0)) with hz|⟨hz0,hz⟩|⟨hz0,hz1,hz⟩
  ·have bX:=Row.new w #[.int .i64 op,.int .i64 dst,.int .i64 a,.int .i64 b,.int .i64 c,.int .i64 k] 58
   have b1:Below w.heap.size w (w.alloc (.cells #[.int .i64 op,.int .i64 dst,.int .i64 a,.int .i64 b,.int .i64 c,.int .i64 k] 58)):=bE
   have hg1:=bX.lt
   go_enter Tryz.func28,Tryz.ntmps28
   go_upto_region 1 with (fail)
   generalize hW1:w.alloc (.cells #[.int .i64 op,.int .i64 dst,.int .i64 a,.int .i64 b,.int .i64 c,.int .i64 k] 58)=w1 at*
   clear hW1
   obtain ⟨c0,c1,c2,c3,c4,c5⟩:=bX.six'
   go_wp2_with fail
   (with_reducible refine (is3_b HH.out hBw wa wb wc HV3.out b1).mono ?_)
   rintro e w5 ⟨rfl,hb5⟩
   have hb15:=b1.trans (hb5.mono b1.size)
   have bX5:=bX.below hb5 hg1
   have hg5:w.heap.size<w5.heap.size:=bX5.lt
   clear c0 c1 c2 c3 c4 c5 hb5 bX b1
   obtain ⟨c0,c1,c2,c3,c4,c5⟩:=bX5.six'
   go_wp2_with fail
   (with_reducible refine (Ar.sign_any op _).mono ?_)
   rintro e w' ⟨rfl,rfl⟩
   rw[sg]
   generalize Ar.signIn op=si at*
   generalize Ar.signOut op=so at*
   clear sg
   obtain ⟨m,b6,off6,cw6,Ag6,cg6,hmd,hm,hvw,lw6,mw6,hb6,wt6,d0,d1,lg6,mg6,sg6⟩:=(HH.out.below hBw hb15).wire hd
   subst hmd
   have q0:=(HH.out.below hBw hb15).row.eight.1.1
   have HVW:=Lib.hid hvw
   rw[hvw] at q0
   have hm':(m:Int)<f.wires.length:=by omega
   have HSG:=Lib.hid sg6
   clear hvw d0 sg6 wt6
   go_wp2_with fail
   go_quiet (fail)
   have HN5:=Lib.hid (HH.out.below hBw hb15)
   have hB5:B≤w5.heap.size:=Nat.le_trans hBw hb15.size
   have HS:Hid (∀W,Below w5.heap.size w5 W→W.cell? ⟨w.heap.size,0,none⟩=some (.int .i64 op)∧W.cell? ⟨w.heap.size,1,none⟩=some (.int .i64 (m:Int))∧W.cell? ⟨w.heap.size,2,none⟩=some (.int .i64 a)∧W.cell? ⟨w.heap.size,3,none⟩=some (.int .i64 b)∧W.cell? ⟨w.heap.size,4,none⟩=some (.int .i64 c)∧W.cell? ⟨w.heap.size,5,none⟩=some (.int .i64 k)):=fun W hW=>(bX5.below hW hg5).six'
   have HFIN:Hid (∀W,Below w5.heap.size w5 W→Below w.heap.size w W):=fun W hW=>hb15.trans (hW.mono hb15.size)
   go_upto_region 17 with (fail)
   clear c0 c1 c2 c3 c4 c5 q0 d1
   refine wp_region_held_drew (S:=fun W=>W.cell? ⟨w.heap.size,0,none⟩=some (.int .i64 op)∧W.cell? ⟨w.heap.size,1,none⟩=some (.int .i64 (m:Int))∧W.cell? ⟨w.heap.size,2,none⟩=some (.int .i64 a)∧W.cell? ⟨w.heap.size,3,none⟩=some (.int .i64 b)∧W.cell? ⟨w.heap.size,4,none⟩=some (.int .i64 c)∧W.cell? ⟨w.heap.size,5,none⟩=some (.int .i64 k)) (by kernel_rfl) ?_ (fun hHeld=>?_)
   ·(try dsimp only);(first|(with_reducible exact HS.out _ bE)|go_keep)
   refine tk 0 (some 165) rfl ?_
   refine tk 1 (some 166) rfl ?_
   refine tk 2 (some 167) rfl ?_
   refine tk 3 (some 168) rfl ?_
   refine tk 4 (some 169) rfl ?_
   refine tk 5 (some 170) rfl ?_
   refine tk 6 (some 171) rfl ?_
   refine tk 7 (some 172) rfl ?_
   refine tk 8 (some 173) rfl ?_
   refine tk 9 (some 174) rfl ?_
   refine sk 10 (some 175) rfl ?_
   refine sk 11 (some 176) rfl ?_
   refine sk 12 (some 177) rfl ?_
   refine tk 13 (some 178) rfl ?_
   refine tk 14 (some 179) rfl ?_
   refine sk 15 (some 180) rfl ?_
   refine sk 16 (some 181) rfl ?_
   refine sk 17 (some 182) rfl ?_
   refine sk 18 (some 183) rfl ?_
   refine sk 19 (some 184) rfl ?_
   refine sk 20 (some 185) rfl ?_
   refine sk 21 (some 186) rfl ?_
   refine sk 22 (some 187) rfl ?_
   refine sk 23 (some 188) rfl ?_
   refine sk 24 (some 189) rfl ?_
   refine sk 25 (some 190) rfl ?_
   refine sk 26 (some 191) rfl ?_
   refine tk 27 (some 192) rfl ?_
   refine tk 28 (some 193) rfl ?_
   refine sk 29 (some 194) rfl ?_
   refine sk 30 (some 195) rfl ?_
   refine sk 31 (some 196) rfl ?_
   refine sk 32 (some 197) rfl ?_
   refine sk 33 (some 198) rfl ?_
   refine sk 34 (some 199) rfl ?_
   refine sk 35 (some 200) rfl ?_
   refine sk 36 (some 201) rfl ?_
   refine sk 37 (some 202) rfl ?_
   refine tk 38 (some 203) rfl ?_
   refine tk 39 (some 4) rfl ?_
   refine wpAnyH_done (by kernel_rfl) ?_ _
   go_wp2_with fail
   go_ret
   exact ⟨ret_bool HQ.out.symm,HFIN.out _ bE⟩
  ·subst hz0
   have bX:=Row.new w #[.int .i64 op,.int .i64 dst,.int .i64 a,.int .i64 0,.int .i64 c,.int .i64 k] 58
   have b1:Below w.heap.size w (w.alloc (.cells #[.int .i64 op,.int .i64 dst,.int .i64 a,.int .i64 0,.int .i64 c,.int .i64 k] 58)):=bE
   have hg1:=bX.lt
   go_enter Tryz.func28,Tryz.ntmps28
   go_upto_region 1 with (fail)
   generalize hW1:w.alloc (.cells #[.int .i64 op,.int .i64 dst,.int .i64 a,.int .i64 0,.int .i64 c,.int .i64 k] 58)=w1 at*
   clear hW1
   obtain ⟨c0,c1,c2,c3,c4,c5⟩:=bX.six'
   go_wp2_with fail
   (with_reducible refine (is3_b HH.out hBw wa wb wc HV3.out b1).mono ?_)
   rintro e w5 ⟨rfl,hb5⟩
   have hb15:=b1.trans (hb5.mono b1.size)
   have bX5:=bX.below hb5 hg1
   have hg5:w.heap.size<w5.heap.size:=bX5.lt
   clear c0 c1 c2 c3 c4 c5 hb5 bX b1
   obtain ⟨c0,c1,c2,c3,c4,c5⟩:=bX5.six'
   go_wp2_with fail
   (with_reducible refine (Ar.sign_any op _).mono ?_)
   rintro e w' ⟨rfl,rfl⟩
   rw[sg]
   generalize Ar.signIn op=si at*
   generalize Ar.signOut op=so at*
   clear sg
   obtain ⟨m,b6,off6,cw6,Ag6,cg6,hmd,hm,hvw,lw6,mw6,hb6,wt6,d0,d1,lg6,mg6,sg6⟩:=(HH.out.below hBw hb15).wire hd
   subst hmd
   have q0:=(HH.out.below hBw hb15).row.eight.1.1
   have HVW:=Lib.hid hvw
   rw[hvw] at q0
   have hm':(m:Int)<f.wires.length:=by omega
   have HSG:=Lib.hid sg6
   clear hvw d0 sg6 wt6
   go_wp2_with fail
   go_quiet (fail)
   have HN5:=Lib.hid (HH.out.below hBw hb15)
   have hB5:B≤w5.heap.size:=Nat.le_trans hBw hb15.size
   have HS:Hid (∀W,Below w5.heap.size w5 W→W.cell? ⟨w.heap.size,0,none⟩=some (.int .i64 op)∧W.cell? ⟨w.heap.size,1,none⟩=some (.int .i64 (m:Int))∧W.cell? ⟨w.heap.size,2,none⟩=some (.int .i64 a)∧W.cell? ⟨w.heap.size,3,none⟩=some (.int .i64 0)∧W.cell? ⟨w.heap.size,4,none⟩=some (.int .i64 c)∧W.cell? ⟨w.heap.size,5,none⟩=some (.int .i64 k)):=fun W hW=>(bX5.below hW hg5).six'
   have HFIN:Hid (∀W,Below w5.heap.size w5 W→Below w.heap.size w W):=fun W hW=>hb15.trans (hW.mono hb15.size)
   go_upto_region 17 with (fail)
   clear c0 c1 c2 c3 c4 c5 q0 d1
   refine wp_region_held_drew (S:=fun W=>W.cell? ⟨w.heap.size,0,none⟩=some (.int .i64 op)∧W.cell? ⟨w.heap.size,1,none⟩=some (.int .i64 (m:Int))∧W.cell? ⟨w.heap.size,2,none⟩=some (.int .i64 a)∧W.cell? ⟨w.heap.size,3,none⟩=some (.int .i64 0)∧W.cell? ⟨w.heap.size,4,none⟩=some (.int .i64 c)∧W.cell? ⟨w.heap.size,5,none⟩=some (.int .i64 k)) (by kernel_rfl) ?_ (fun hHeld=>?_)
   ·(try dsimp only);(first|(with_reducible exact HS.out _ bE)|go_keep)
   refine tk 0 (some 165) rfl ?_
   refine tk 1 (some 166) rfl ?_
   refine tk 2 (some 167) rfl ?_
   refine tk 3 (some 168) rfl ?_
   refine tk 4 (some 169) rfl ?_
   refine tk 5 (some 170) rfl ?_
   refine tk 6 (some 171) rfl ?_
   refine tk 7 (some 172) rfl ?_
   refine tk 8 (some 173) rfl ?_
   refine tk 9 (some 174) rfl ?_
   refine sk 10 (some 175) rfl ?_
   refine sk 11 (some 176) rfl ?_
   refine sk 12 (some 177) rfl ?_
   refine tk 13 (some 178) rfl ?_
   refine tk 14 (some 179) rfl ?_
   refine sk 15 (some 180) rfl ?_
   refine sk 16 (some 181) rfl ?_
   refine sk 17 (some 182) rfl ?_
   refine sk 18 (some 183) rfl ?_
   refine sk 19 (some 184) rfl ?_
   refine sk 20 (some 185) rfl ?_
   refine sk 21 (some 186) rfl ?_
   refine sk 22 (some 187) rfl ?_
   refine sk 23 (some 188) rfl ?_
   refine sk 24 (some 189) rfl ?_
   refine sk 25 (some 190) rfl ?_
   refine sk 26 (some 191) rfl ?_
   refine tk 27 (some 192) rfl ?_
   refine tk 28 (some 193) rfl ?_
   refine sk 29 (some 194) rfl ?_
   refine sk 30 (some 195) rfl ?_
   refine sk 31 (some 196) rfl ?_
   refine sk 32 (some 197) rfl ?_
   refine sk 33 (some 198) rfl ?_
   refine sk 34 (some 199) rfl ?_
   refine sk 35 (some 200) rfl ?_
   refine sk 36 (some 201) rfl ?_
   refine sk 37 (some 202) rfl ?_
   refine tk 38 (some 203) rfl ?_
   refine tk 39 (some 4) rfl ?_
   refine wpAnyH_done (by kernel_rfl) ?_ _
   go_wp2_with fail
   go_ret
   exact ⟨ret_bool HQ.out.symm,HFIN.out _ bE⟩
  ·subst hz0;subst hz1
   have bX:=Row.new w #[.int .i64 op,.int .i64 dst,.int .i64 a,.int .i64 0,.int .i64 0,.int .i64 k] 58
   have b1:Below w.heap.size w (w.alloc (.cells #[.int .i64 op,.int .i64 dst,.int .i64 a,.int .i64 0,.int .i64 0,.int .i64 k] 58)):=bE
   have hg1:=bX.lt
   go_enter Tryz.func28,Tryz.ntmps28
   go_upto_region 1 with (fail)
   generalize hW1:w.alloc (.cells #[.int .i64 op,.int .i64 dst,.int .i64 a,.int .i64 0,.int .i64 0,.int .i64 k] 58)=w1 at*
   clear hW1
   obtain ⟨c0,c1,c2,c3,c4,c5⟩:=bX.six'
   go_wp2_with fail
   (with_reducible refine (is3_b HH.out hBw wa wb wc HV3.out b1).mono ?_)
   rintro e w5 ⟨rfl,hb5⟩
   have hb15:=b1.trans (hb5.mono b1.size)
   have bX5:=bX.below hb5 hg1
   have hg5:w.heap.size<w5.heap.size:=bX5.lt
   clear c0 c1 c2 c3 c4 c5 hb5 bX b1
   obtain ⟨c0,c1,c2,c3,c4,c5⟩:=bX5.six'
   go_wp2_with fail
   (with_reducible refine (Ar.sign_any op _).mono ?_)
   rintro e w' ⟨rfl,rfl⟩
   rw[sg]
   generalize Ar.signIn op=si at*
   generalize Ar.signOut op=so at*
   clear sg
   obtain ⟨m,b6,off6,cw6,Ag6,cg6,hmd,hm,hvw,lw6,mw6,hb6,wt6,d0,d1,lg6,mg6,sg6⟩:=(HH.out.below hBw hb15).wire hd
   subst hmd
   have q0:=(HH.out.below hBw hb15).row.eight.1.1
   have HVW:=Lib.hid hvw
   rw[hvw] at q0
   have hm':(m:Int)<f.wires.length:=by omega
   have HSG:=Lib.hid sg6
   clear hvw d0 sg6 wt6
   go_wp2_with fail
   go_quiet (fail)
   have HN5:=Lib.hid (HH.out.below hBw hb15)
   have hB5:B≤w5.heap.size:=Nat.le_trans hBw hb15.size
   have HS:Hid (∀W,Below w5.heap.size w5 W→W.cell? ⟨w.heap.size,0,none⟩=some (.int .i64 op)∧W.cell? ⟨w.heap.size,1,none⟩=some (.int .i64 (m:Int))∧W.cell? ⟨w.heap.size,2,none⟩=some (.int .i64 a)∧W.cell? ⟨w.heap.size,3,none⟩=some (.int .i64 0)∧W.cell? ⟨w.heap.size,4,none⟩=some (.int .i64 0)∧W.cell? ⟨w.heap.size,5,none⟩=some (.int .i64 k)):=fun W hW=>(bX5.below hW hg5).six'
   have HFIN:Hid (∀W,Below w5.heap.size w5 W→Below w.heap.size w W):=fun W hW=>hb15.trans (hW.mono hb15.size)
   go_upto_region 17 with (fail)
   clear c0 c1 c2 c3 c4 c5 q0 d1
   refine wp_region_held_drew (S:=fun W=>W.cell? ⟨w.heap.size,0,none⟩=some (.int .i64 op)∧W.cell? ⟨w.heap.size,1,none⟩=some (.int .i64 (m:Int))∧W.cell? ⟨w.heap.size,2,none⟩=some (.int .i64 a)∧W.cell? ⟨w.heap.size,3,none⟩=some (.int .i64 0)∧W.cell? ⟨w.heap.size,4,none⟩=some (.int .i64 0)∧W.cell? ⟨w.heap.size,5,none⟩=some (.int .i64 k)) (by kernel_rfl) ?_ (fun hHeld=>?_)
   ·(try dsimp only);(first|(with_reducible exact HS.out _ bE)|go_keep)
   refine tk 0 (some 165) rfl ?_
   refine tk 1 (some 166) rfl ?_
   refine tk 2 (some 167) rfl ?_
   refine tk 3 (some 168) rfl ?_
   refine tk 4 (some 169) rfl ?_
   refine tk 5 (some 170) rfl ?_
   refine tk 6 (some 171) rfl ?_
   refine tk 7 (some 172) rfl ?_
   refine tk 8 (some 173) rfl ?_
   refine tk 9 (some 174) rfl ?_
   refine sk 10 (some 175) rfl ?_
   refine sk 11 (some 176) rfl ?_
   refine sk 12 (some 177) rfl ?_
   refine tk 13 (some 178) rfl ?_
   refine tk 14 (some 179) rfl ?_
   refine sk 15 (some 180) rfl ?_
   refine sk 16 (some 181) rfl ?_
   refine sk 17 (some 182) rfl ?_
   refine sk 18 (some 183) rfl ?_
   refine sk 19 (some 184) rfl ?_
   refine sk 20 (some 185) rfl ?_
   refine sk 21 (some 186) rfl ?_
   refine sk 22 (some 187) rfl ?_
   refine sk 23 (some 188) rfl ?_
   refine sk 24 (some 189) rfl ?_
   refine sk 25 (some 190) rfl ?_
   refine sk 26 (some 191) rfl ?_
   refine tk 27 (some 192) rfl ?_
   refine tk 28 (some 193) rfl ?_
   refine sk 29 (some 194) rfl ?_
   refine sk 30 (some 195) rfl ?_
   refine sk 31 (some 196) rfl ?_
   refine sk 32 (some 197) rfl ?_
   refine sk 33 (some 198) rfl ?_
   refine sk 34 (some 199) rfl ?_
   refine sk 35 (some 200) rfl ?_
   refine sk 36 (some 201) rfl ?_
   refine sk 37 (some 202) rfl ?_
   refine tk 38 (some 203) rfl ?_
   refine tk 39 (some 4) rfl ?_
   refine wpAnyH_done (by kernel_rfl) ?_ _
   go_wp2_with fail
   go_ret
   exact ⟨ret_bool HQ.out.symm,HFIN.out _ bE⟩
 obtain ⟨rfl,rfl,rfl⟩:=h0
 have ha:=hall.1
 have HCL:=Lib.hid hcl
 clear hcl
 rcases Nat.eq_zero_or_pos (clockOf f dst).length with hl0|hl0
 ·have HQ:=Lib.hid (cB_false (show ¬actOk f ⟨op,dst,a,0,0,0⟩ from fun g=>by
   obtain ⟨_,⟨q,hq⟩,_⟩:=HIFF.out.1 g
   have:=congrArg List.length hq
   simp at this
   omega))
  generalize cB (actOk f ⟨op,dst,a,0,0,0⟩)=R at*
  have HL0:=Lib.hid hl0
  clear hl0
  have bX:=Row.new w #[.int .i64 op,.int .i64 dst,.int .i64 a,.int .i64 0,.int .i64 0,.int .i64 0] 58
  have b1:Below w.heap.size w (w.alloc (.cells #[.int .i64 op,.int .i64 dst,.int .i64 a,.int .i64 0,.int .i64 0,.int .i64 0] 58)):=bE
  have hg1:=bX.lt
  go_enter Tryz.func28,Tryz.ntmps28
  go_upto_region 1 with (fail)
  generalize hW1:w.alloc (.cells #[.int .i64 op,.int .i64 dst,.int .i64 a,.int .i64 0,.int .i64 0,.int .i64 0] 58)=w1 at*
  clear hW1
  obtain ⟨c0,c1,c2,c3,c4,c5⟩:=bX.six'
  go_wp2_with fail
  (with_reducible refine (is3_b HH.out hBw wa wb wc HV3.out b1).mono ?_)
  rintro e w5 ⟨rfl,hb5⟩
  have hb15:=b1.trans (hb5.mono b1.size)
  have bX5:=bX.below hb5 hg1
  have hg5:w.heap.size<w5.heap.size:=bX5.lt
  clear c0 c1 c2 c3 c4 c5 hb5 bX b1
  obtain ⟨c0,c1,c2,c3,c4,c5⟩:=bX5.six'
  go_wp2_with fail
  (with_reducible refine (Ar.sign_any op _).mono ?_)
  rintro e w' ⟨rfl,rfl⟩
  rw[sg]
  generalize Ar.signIn op=si at*
  generalize Ar.signOut op=so at*
  clear sg
  obtain ⟨m,b6,off6,cw6,Ag6,cg6,hmd,hm,hvw,lw6,mw6,hb6,wt6,d0,d1,lg6,mg6,sg6⟩:=(HH.out.below hBw hb15).wire hd
  subst hmd
  have q0:=(HH.out.below hBw hb15).row.eight.1.1
  have HVW:=Lib.hid hvw
  rw[hvw] at q0
  have hm':(m:Int)<f.wires.length:=by omega
  have HSG:=Lib.hid sg6
  clear hvw d0 sg6 wt6
  go_wp2_with fail
  go_quiet (fail)
  have HN5:=Lib.hid (HH.out.below hBw hb15)
  have hB5:B≤w5.heap.size:=Nat.le_trans hBw hb15.size
  have HS:Hid (∀W,Below w5.heap.size w5 W→W.cell? ⟨w.heap.size,0,none⟩=some (.int .i64 op)∧W.cell? ⟨w.heap.size,1,none⟩=some (.int .i64 (m:Int))∧W.cell? ⟨w.heap.size,2,none⟩=some (.int .i64 a)∧W.cell? ⟨w.heap.size,3,none⟩=some (.int .i64 0)∧W.cell? ⟨w.heap.size,4,none⟩=some (.int .i64 0)∧W.cell? ⟨w.heap.size,5,none⟩=some (.int .i64 0)):=fun W hW=>(bX5.below hW hg5).six'
  have HFIN:Hid (∀W,Below w5.heap.size w5 W→Below w.heap.size w W):=fun W hW=>hb15.trans (hW.mono hb15.size)
  have hl0:=HL0.out
  generalize (clockOf f (m:Int)).length=len at*
  subst hl0
  go_upto_region 17 with (fail)
  clear c0 c1 c2 c3 c4 c5 q0 d1
  refine wp_region_held_drew (S:=fun W=>W.cell? ⟨w.heap.size,0,none⟩=some (.int .i64 op)∧W.cell? ⟨w.heap.size,1,none⟩=some (.int .i64 (m:Int))∧W.cell? ⟨w.heap.size,2,none⟩=some (.int .i64 a)∧W.cell? ⟨w.heap.size,3,none⟩=some (.int .i64 0)∧W.cell? ⟨w.heap.size,4,none⟩=some (.int .i64 0)∧W.cell? ⟨w.heap.size,5,none⟩=some (.int .i64 0)) (by kernel_rfl) ?_ (fun hHeld=>?_)
  ·(try dsimp only);(first|(with_reducible exact HS.out _ bE)|go_keep)
  refine tk 0 (some 165) rfl ?_
  refine tk 1 (some 166) rfl ?_
  refine tk 2 (some 167) rfl ?_
  refine tk 3 (some 168) rfl ?_
  refine tk 4 (some 169) rfl ?_
  refine tk 5 (some 170) rfl ?_
  refine tk 6 (some 171) rfl ?_
  refine tk 7 (some 172) rfl ?_
  refine tk 8 (some 173) rfl ?_
  refine tk 9 (some 174) rfl ?_
  refine tk 10 (some 175) rfl ?_
  refine tk 11 (some 176) rfl ?_
  refine tk 12 (some 177) rfl ?_
  refine tk 13 (some 178) rfl ?_
  refine tk 14 (some 179) rfl ?_
  refine sk 15 (some 180) rfl ?_
  refine sk 16 (some 181) rfl ?_
  refine sk 17 (some 182) rfl ?_
  refine sk 18 (some 183) rfl ?_
  refine sk 19 (some 184) rfl ?_
  refine sk 20 (some 185) rfl ?_
  refine sk 21 (some 186) rfl ?_
  refine sk 22 (some 187) rfl ?_
  refine sk 23 (some 188) rfl ?_
  refine sk 24 (some 189) rfl ?_
  refine sk 25 (some 190) rfl ?_
  refine sk 26 (some 191) rfl ?_
  refine tk 27 (some 192) rfl ?_
  refine tk 28 (some 193) rfl ?_
  refine sk 29 (some 194) rfl ?_
  refine sk 30 (some 195) rfl ?_
  refine sk 31 (some 196) rfl ?_
  refine sk 32 (some 197) rfl ?_
  refine sk 33 (some 198) rfl ?_
  refine sk 34 (some 199) rfl ?_
  refine sk 35 (some 200) rfl ?_
  refine sk 36 (some 201) rfl ?_
  refine sk 37 (some 202) rfl ?_
  refine tk 38 (some 203) rfl ?_
  refine tk 39 (some 4) rfl ?_
  refine wpAnyH_done (by kernel_rfl) ?_ _
  go_wp2_with fail
  go_ret
  exact ⟨ret_bool HQ.out.symm,HFIN.out _ bE⟩
 obtain ⟨n,hn⟩:∃n,(clockOf f dst).length=n+1:=⟨(clockOf f dst).length-1,by omega⟩
 have HG:=Lib.hid (List.getElem?_eq_getElem (l:=clockOf f dst) (i:=n) (by omega))
 generalize (clockOf f dst)[n]=gg at*
 have HQ:Hid (cB (actOk f ⟨op,dst,a,0,0,0⟩)=(cB (clockOf f dst=clockOf f a++ [gg]) && cB (tyOf f dst=tyOf f a))):=by
  show _=_
  rw[←cB_and]
  exact cB_congr (HIFF.out.trans ⟨fun g=>⟨(last_iff hn HG.out).1 g.2.1,g.2.2⟩,fun g=>⟨⟨rfl,rfl,rfl⟩,⟨gg,g.1⟩,g.2⟩⟩)
 rw[cB_beq] at HQ
 have HN:=Lib.hid hn
 clear hl0 HIFF
 generalize cB (actOk f ⟨op,dst,a,0,0,0⟩)=R at*
 generalize hV:cB (clockOf f dst=clockOf f a++ [gg])=V at*
 generalize hTa:tyOf f a=Ta at*
 generalize hTd:tyOf f dst=Td at*
 have HV:=Lib.hid hV
 have HTa:=Lib.hid hTa
 have HTd:=Lib.hid hTd
 clear hV hTa hTd
 clear hn
 generalize he3:(Td==Ta)=b3 at*
 have bX:=Row.new w #[.int .i64 op,.int .i64 dst,.int .i64 a,.int .i64 0,.int .i64 0,.int .i64 0] 58
 have b1:Below w.heap.size w (w.alloc (.cells #[.int .i64 op,.int .i64 dst,.int .i64 a,.int .i64 0,.int .i64 0,.int .i64 0] 58)):=bE
 have hg1:=bX.lt
 go_enter Tryz.func28,Tryz.ntmps28
 go_upto_region 1 with (fail)
 generalize hW1:w.alloc (.cells #[.int .i64 op,.int .i64 dst,.int .i64 a,.int .i64 0,.int .i64 0,.int .i64 0] 58)=w1 at*
 clear hW1
 obtain ⟨c0,c1,c2,c3,c4,c5⟩:=bX.six'
 go_wp2_with fail
 (with_reducible refine (is3_b HH.out hBw wa wb wc HV3.out b1).mono ?_)
 rintro e w5 ⟨rfl,hb5⟩
 have hb15:=b1.trans (hb5.mono b1.size)
 have bX5:=bX.below hb5 hg1
 have hg5:w.heap.size<w5.heap.size:=bX5.lt
 clear c0 c1 c2 c3 c4 c5 hb5 bX b1
 obtain ⟨c0,c1,c2,c3,c4,c5⟩:=bX5.six'
 go_wp2_with fail
 (with_reducible refine (Ar.sign_any op _).mono ?_)
 rintro e w' ⟨rfl,rfl⟩
 rw[sg]
 generalize Ar.signIn op=si at*
 generalize Ar.signOut op=so at*
 clear sg
 obtain ⟨m,b6,off6,cw6,Ag6,cg6,hmd,hm,hvw,lw6,mw6,hb6,wt6,d0,d1,lg6,mg6,sg6⟩:=(HH.out.below hBw hb15).wire hd
 subst hmd
 have q0:=(HH.out.below hBw hb15).row.eight.1.1
 have HVW:=Lib.hid hvw
 rw[hvw] at q0
 have hm':(m:Int)<f.wires.length:=by omega
 have HSG:=Lib.hid sg6
 clear hvw d0 sg6 wt6
 go_wp2_with fail
 go_quiet (fail)
 have HN5:=Lib.hid (HH.out.below hBw hb15)
 have hB5:B≤w5.heap.size:=Nat.le_trans hBw hb15.size
 have HS:Hid (∀W,Below w5.heap.size w5 W→W.cell? ⟨w.heap.size,0,none⟩=some (.int .i64 op)∧W.cell? ⟨w.heap.size,1,none⟩=some (.int .i64 (m:Int))∧W.cell? ⟨w.heap.size,2,none⟩=some (.int .i64 a)∧W.cell? ⟨w.heap.size,3,none⟩=some (.int .i64 0)∧W.cell? ⟨w.heap.size,4,none⟩=some (.int .i64 0)∧W.cell? ⟨w.heap.size,5,none⟩=some (.int .i64 0)):=fun W hW=>(bX5.below hW hg5).six'
 have HFIN:Hid (∀W,Below w5.heap.size w5 W→Below w.heap.size w W):=fun W hW=>hb15.trans (hW.mono hb15.size)
 have hlen:=HN.out
 have hcl1:=HCL.out (m:Int) hd
 obtain ⟨bg,og,g2,hAg,hbg,hg2,wg,y0,y1⟩:=HSG.out.gd (k:=n) (by omega)
 have HGE:=HG.out
 rw[HGE] at hg2
 injection hg2 with hg2
 subst hg2
 subst hAg
 generalize (clockOf f (m:Int)).length=len at*
 subst hlen
 have HS2:Hid (∀W,Below w5.heap.size w5 W→W.cell? ⟨w.heap.size,0,none⟩=some (.int .i64 op)∧W.cell? ⟨w.heap.size,1,none⟩=some (.int .i64 (m:Int))∧W.cell? ⟨w.heap.size,2,none⟩=some (.int .i64 a)∧W.cell? ⟨w.heap.size,3,none⟩=some (.int .i64 0)∧W.cell? ⟨w.heap.size,4,none⟩=some (.int .i64 0)∧W.cell? ⟨w.heap.size,5,none⟩=some (.int .i64 0)∧W.cell? ⟨bg,og+n*2,none⟩=some (.int .i64 gg.wire)∧W.cell? ⟨bg,og+n*2+1,none⟩=some (.bool gg.no)):=fun W hW=>by
  obtain ⟨x0,x1,x2,x3,x4,x5⟩:=HS.out W hW
  exact ⟨x0,x1,x2,x3,x4,x5,cell_kept y0 hW,cell_kept y1 hW⟩
 have HBH:Hid (∀W,Below w5.heap.size w5 W→Calls Tryz.prog 66 #[.pointer (some ⟨L,0,none⟩),.int .i64 m,.int .i64 a,.agg #[.int .i64 gg.wire,.bool gg.no]] W fun e w'=>e= .returned (.bool V)∧Below W.heap.size W w'):=fun W hW=>by
  have:=nbehind_any (HN5.out.below hB5 hW) (Nat.le_trans hB5 hW.size) m a hd ha gg wg (HCL.out a ha)
  rw[HV.out] at this
  exact this
 clear y0 y1 HGE
 have hn1:(n:Int)<(n+1:Nat):=by omega
 have hn0:(0:Int)≤(n:Int):=by omega
 have hn3:(n:Int)<(n:Int)+1:=by omega
 have ew:IntKind.i64.wrap (n:Int)=(n:Int):=IntWalk.i64_in _ (by omega)
 have hn2:n+1≤cg6:=lg6
 go_upto_region 17 with (fail)
 clear c0 c1 c2 c3 c4 c5 q0 d1
 refine wp_region_held_drew (S:=fun W=>W.cell? ⟨w.heap.size,0,none⟩=some (.int .i64 op)∧W.cell? ⟨w.heap.size,1,none⟩=some (.int .i64 (m:Int))∧W.cell? ⟨w.heap.size,2,none⟩=some (.int .i64 a)∧W.cell? ⟨w.heap.size,3,none⟩=some (.int .i64 0)∧W.cell? ⟨w.heap.size,4,none⟩=some (.int .i64 0)∧W.cell? ⟨w.heap.size,5,none⟩=some (.int .i64 0)∧W.cell? ⟨bg,og+n*2,none⟩=some (.int .i64 gg.wire)∧W.cell? ⟨bg,og+n*2+1,none⟩=some (.bool gg.no)) (by kernel_rfl) ?_ (fun hHeld=>?_)
 ·(try dsimp only);(first|(with_reducible exact HS2.out _ bE)|go_keep)
 refine tk 0 (some 165) rfl ?_
 refine tk 1 (some 166) rfl ?_
 refine tk 2 (some 167) rfl ?_
 refine tk 3 (some 168) rfl ?_
 refine tk 4 (some 169) rfl ?_
 refine tk 5 (some 170) rfl ?_
 refine tk 6 (some 171) rfl ?_
 refine tk 7 (some 172) rfl ?_
 refine tk 8 (some 173) rfl ?_
 refine tk 9 (some 174) rfl ?_
 refine tk 10 (some 175) rfl ?_
 refine tk 11 (some 176) rfl ?_
 refine tk 12 (some 177) rfl ?_
 refine tk 13 (some 178) rfl ?_
 refine tk 14 (some 179) rfl ?_
 refine tk 15 (some 180) rfl ?_
 refine tk 16 (some 181) rfl ?_
 refine tk 17 (some 182) rfl ?_
 refine tk 18 (some 183) rfl ?_
 refine tk 19 (some 184) rfl ?_
 refine tk 20 (some 185) rfl ?_
 refine tk 21 (some 186) rfl ?_
 refine tk 22 (some 187) rfl ?_
 refine tk 23 (some 188) rfl ?_
 refine tk 24 (some 189) rfl ?_
 refine tk 25 (some 190) rfl ?_
 refine rd1 26 (some 191) rfl (fun KK hKK=>?_)
 go_simp
 (go_at_call 66;(with_reducible refine (HBH.out _ bE).mono ?_);rintro e w8 ⟨rfl,hb8⟩;(have hb9:Below w5.heap.size w5 w8:=Below.trans bE (hb8.mono lE));(have hs9:=hb9.size))
 (try go_wp2_with fail)
 refine hKK.out _ _ ?_ (fun hHeld=>?_)
 ·(try dsimp only);(first|(with_reducible exact HS2.out _ bE)|go_keep)
 clear hKK KK
 try simp only[Act.put,List.setIfInBounds_toArray,List.set_cons_zero,List.set_cons_succ]
 refine tk 27 (some 192) rfl ?_
 refine tk 28 (some 193) rfl ?_
 cases V
 ·refine sk 29 (some 194) rfl ?_
  refine sk 30 (some 195) rfl ?_
  refine sk 31 (some 196) rfl ?_
  refine sk 32 (some 197) rfl ?_
  refine sk 33 (some 198) rfl ?_
  refine sk 34 (some 199) rfl ?_
  refine sk 35 (some 200) rfl ?_
  refine sk 36 (some 201) rfl ?_
  refine sk 37 (some 202) rfl ?_
  refine tk 38 (some 203) rfl ?_
  refine tk 39 (some 4) rfl ?_
  refine wpAnyH_done (by kernel_rfl) ?_ _
  go_wp2_with fail
  go_ret
  exact ⟨ret_bool HQ.out.symm,HFIN.out _ bE⟩
 refine tk 29 (some 194) rfl ?_
 refine tk 30 (some 195) rfl ?_
 refine tk 31 (some 196) rfl ?_
 refine tk 33 (some 198) rfl ?_
 refine tk 34 (some 199) rfl ?_
 refine tk 35 (some 200) rfl ?_
 refine rd1 32 (some 197) rfl (fun KK hKK=>?_)
 go_simp
 (go_at_call 64;(first|(with_reducible refine (kind_b HN5.out hB5 hd HTd.out bE).mono ?_)|(with_reducible refine (kind_b HN5.out hB5 ha HTa.out bE).mono ?_));rintro e w8 ⟨rfl,rfl⟩)
 (try go_wp2_with fail)
 refine hKK.out _ _ ?_ (fun hHeld=>?_)
 ·(try dsimp only);(first|(with_reducible exact HS2.out _ bE)|go_keep)
 clear hKK KK
 try simp only[Act.put,List.setIfInBounds_toArray,List.set_cons_zero,List.set_cons_succ]
 refine rd1 36 (some 201) rfl (fun KK hKK=>?_)
 go_simp
 (go_at_call 64;(first|(with_reducible refine (kind_b HN5.out hB5 hd HTd.out bE).mono ?_)|(with_reducible refine (kind_b HN5.out hB5 ha HTa.out bE).mono ?_));rintro e w8 ⟨rfl,rfl⟩)
 (try go_wp2_with fail)
 refine hKK.out _ _ ?_ (fun hHeld=>?_)
 ·(try dsimp only);(first|(with_reducible exact HS2.out _ bE)|go_keep)
 clear hKK KK
 try simp only[Act.put,List.setIfInBounds_toArray,List.set_cons_zero,List.set_cons_succ]
 refine tk 37 (some 202) rfl ?_
 refine tk 38 (some 203) rfl ?_
 refine tk 39 (some 4) rfl ?_
 refine wpAnyH_done (by kernel_rfl) ?_ _
 go_wp2_with fail
 go_ret
 exact ⟨ret_bool HQ.out.symm,HFIN.out _ bE⟩
end
end Go.Proofs.YtckognjamlckcaaGreatDoor
