/-
  norm's looker: act, two that are rarer.
-/
import Derived.Test.YtckognjamlckcaaGreatDoorNormKc
namespace Go.Proofs.YtckognjamlckcaaGreatDoor
open Go.RowKit Vf Fo
attribute [local go_sem ↓] Go.wp_at_zero Go.wp_at_succ
section
variable {w:World} {B L:Nat} {f:Fm} {vw va vc vk vi vo vb ve:Value}
theorem cB_bne {x y:Int}:cB (x=y)= !(x !=y):=by rw[cB_beq];simp[bne]
set_option maxRecDepth 100000 in
set_option maxHeartbeats 2000000 in
theorem nact_26 (h:NkAt w B L f vw va vc vk vi vo vb ve) (hB:B≤w.heap.size) (op dst a b c k:Int) (wx:AcIn ⟨op,dst,a,b,c,k⟩) (hd:isW f dst) (hop:op=26) (hall:allW3 f a b c) (hcl:(clockOf f dst).length≤1600):
  Calls Tryz.prog 28 #[.pointer (some ⟨L,0,none⟩),.agg #[.int .i64 op,.int .i64 dst,.int .i64 a,.int .i64 b,.int .i64 c,.int .i64 k]] w fun e w'=>e= .returned (.bool (cB (actOk f ⟨op,dst,a,b,c,k⟩)))∧Below w.heap.size w w':=by
 have HH:=Lib.hid h
 have hBw:=hB
 obtain ⟨wop,wd,wa,wb,wc,wk⟩:=wx
 dsimp only at wop wd wa wb wc wk
 clear h hB
 obtain ⟨ha,hb,hc⟩:=hall
 have hall:allW3 f a b c:=⟨ha,hb,hc⟩
 have HQ:Hid (cB (actOk f ⟨op,dst,a,b,c,k⟩)=(cB (k=0) && (cB (tyOf f a=2) && (cB (clockOf f dst=clockOf f a) && (cB (tyOf f dst=tyOf f b) && (cB (tyOf f dst=tyOf f c) && (cB (clockOf f b=clockOf f dst++ [⟨a,false⟩]) && cB (clockOf f c=clockOf f dst++ [⟨a,true⟩])))))))):=by
  show _=_
  rw[←cB_and,←cB_and,←cB_and,←cB_and,←cB_and,←cB_and]
  exact cB_congr (act_iff26 hop hall)
 rw[cB_bne (x:=k),cB_bne (x:=tyOf f a),cB_bne (y:=tyOf f b),cB_bne (y:=tyOf f c)] at HQ
 have HV3:Hid (cB (isW f a∧isW f b∧isW f c)=true):=cB_true hall
 have sg:Ar.signB op=false:=by simp[Ar.signB];omega
 have o1:(op==1)=false:=by rw[beq_eq_false_iff_ne];omega
 have o2:(op==2)=false:=by rw[beq_eq_false_iff_ne];omega
 have o3:(op==3)=false:=by rw[beq_eq_false_iff_ne];omega
 have o27:(op==27)=false:=by rw[beq_eq_false_iff_ne];omega
 have o24:(op==24)=false:=by rw[beq_eq_false_iff_ne];omega
 have o26:(op==26)=true:=by rw[beq_iff_eq];omega
 have o21:(op==21)=false:=by rw[beq_eq_false_iff_ne];omega
 have HCL:=Lib.hid hcl
 clear hop hcl
 generalize cB (actOk f ⟨op,dst,a,b,c,k⟩)=R at*
 generalize hV':cB (clockOf f dst=clockOf f a)=V0 at*
 generalize hnV:(!V0)=nV at*
 have HVN:Hid (V0= !nV):=by show _=_;rw[←hnV];simp
 rw[HVN.out] at HQ
 generalize hU1:cB (clockOf f b=clockOf f dst++ [⟨a,false⟩])=U1 at*
 generalize hU2:cB (clockOf f c=clockOf f dst++ [⟨a,true⟩])=U2 at*
 generalize hTa:tyOf f a=Ta at*
 generalize hTb:tyOf f b=Tb at*
 generalize hTc:tyOf f c=Tc at*
 generalize hTd:tyOf f dst=Td at*
 have HU1:=Lib.hid hU1
 have HU2:=Lib.hid hU2
 have HTa:=Lib.hid hTa
 have HTb:=Lib.hid hTb
 have HTc:=Lib.hid hTc
 have HTd:=Lib.hid hTd
 clear hU1 hU2 hTa hTb hTc hTd
 have HV:=Lib.hid hV'
 clear hV'
 generalize hb1:(k !=0)=b1 at*
 generalize he1:(Ta !=2)=e1 at*
 generalize he2:(Td !=Tb)=e2 at*
 generalize he3:(Td !=Tc)=e3 at*
 have bX:=Row.new w #[.int .i64 op,.int .i64 dst,.int .i64 a,.int .i64 b,.int .i64 c,.int .i64 k] 58
 have b1:Below w.heap.size w (w.alloc (.cells #[.int .i64 op,.int .i64 dst,.int .i64 a,.int .i64 b,.int .i64 c,.int .i64 k] 58)):=bE
 have hg1:=bX.lt
 go_enter Tryz.func28,Tryz.ntmps28
 go_upto_region 1 with (fail)
 generalize hW1:w.alloc (.cells #[.int .i64 op,.int .i64 dst,.int .i64 a,.int .i64 b,.int .i64 c,.int .i64 k] 58)=w1 at*
 clear hW1
 obtain ⟨c0,c1,c2,c3,c4,c5⟩:=bX.six'
 go_wp2_with fail
 (with_reducible refine (is3_b HH.out hBw wa wb wc HV3.out b1).mono ?_)
 rintro e w5 ⟨rfl,hb5⟩
 have hb15:=b1.trans (hb5.mono b1.size)
 have bX5:=bX.below hb5 hg1
 have hg5:w.heap.size<w5.heap.size:=bX5.lt
 clear c0 c1 c2 c3 c4 c5 hb5 bX b1
 obtain ⟨c0,c1,c2,c3,c4,c5⟩:=bX5.six'
 go_wp2_with fail
 (with_reducible refine (Ar.sign_any op _).mono ?_)
 rintro e w' ⟨rfl,rfl⟩
 rw[sg]
 generalize Ar.signIn op=si at*
 generalize Ar.signOut op=so at*
 clear sg
 obtain ⟨m,b6,off6,cw6,Ag6,cg6,hmd,hm,hvw,lw6,mw6,hb6,wt6,d0,d1,lg6,mg6,sg6⟩:=(HH.out.below hBw hb15).wire hd
 subst hmd
 have q0:=(HH.out.below hBw hb15).row.eight.1.1
 have HVW:=Lib.hid hvw
 rw[hvw] at q0
 have hm':(m:Int)<f.wires.length:=by omega
 have HSG:=Lib.hid sg6
 clear hvw d0 sg6 wt6
 go_wp2_with fail
 go_quiet (fail)
 have HN5:=Lib.hid (HH.out.below hBw hb15)
 have hB5:B≤w5.heap.size:=Nat.le_trans hBw hb15.size
 have HS:Hid (∀W,Below w5.heap.size w5 W→W.cell? ⟨w.heap.size,0,none⟩=some (.int .i64 op)∧W.cell? ⟨w.heap.size,1,none⟩=some (.int .i64 (m:Int))∧W.cell? ⟨w.heap.size,2,none⟩=some (.int .i64 a)∧W.cell? ⟨w.heap.size,3,none⟩=some (.int .i64 b)∧W.cell? ⟨w.heap.size,4,none⟩=some (.int .i64 c)∧W.cell? ⟨w.heap.size,5,none⟩=some (.int .i64 k)):=fun W hW=>(bX5.below hW hg5).six'
 have HFIN:Hid (∀W,Below w5.heap.size w5 W→Below w.heap.size w W):=fun W hW=>hb15.trans (hW.mono hb15.size)
 have HB1:Hid (∀W,Below w5.heap.size w5 W→Calls Tryz.prog 66 #[.pointer (some ⟨L,0,none⟩),.int .i64 b,.int .i64 m,.agg #[.int .i64 a,.bool false]] W fun e w'=>e= .returned (.bool U1)∧Below W.heap.size W w'):=fun W hW=>by
  have:=nbehind_any (HN5.out.below hB5 hW) (Nat.le_trans hB5 hW.size) b m hb hd ⟨a,false⟩ wa HCL.out
  rw[HU1.out] at this
  exact this
 have HB2:Hid (∀W,Below w5.heap.size w5 W→Calls Tryz.prog 66 #[.pointer (some ⟨L,0,none⟩),.int .i64 c,.int .i64 m,.agg #[.int .i64 a,.bool true]] W fun e w'=>e= .returned (.bool U2)∧Below W.heap.size W w'):=fun W hW=>by
  have:=nbehind_any (HN5.out.below hB5 hW) (Nat.le_trans hB5 hW.size) c m hc hd ⟨a,true⟩ wa HCL.out
  rw[HU2.out] at this
  exact this
 go_upto_region 19 with (fail)
 clear c0 c1 c2 c3 c4 c5 q0 d1
 refine wp_region_held_drew (S:=fun W=>W.cell? ⟨w.heap.size,0,none⟩=some (.int .i64 op)∧W.cell? ⟨w.heap.size,1,none⟩=some (.int .i64 (m:Int))∧W.cell? ⟨w.heap.size,2,none⟩=some (.int .i64 a)∧W.cell? ⟨w.heap.size,3,none⟩=some (.int .i64 b)∧W.cell? ⟨w.heap.size,4,none⟩=some (.int .i64 c)∧W.cell? ⟨w.heap.size,5,none⟩=some (.int .i64 k)) (by kernel_rfl) ?_ (fun hHeld=>?_)
 ·(try dsimp only);(first|(with_reducible exact HS.out _ bE)|go_keep)
 refine tk 0 (some 206) rfl ?_
 refine tk 1 (some 207) rfl ?_
 refine tk 2 (some 208) rfl ?_
 refine tk 3 (some 209) rfl ?_
 cases b1
 rotate_left 1
 ·refine sk 4 (some 210) rfl ?_
  refine sk 5 (some 211) rfl ?_
  refine sk 6 (some 212) rfl ?_
  refine sk 7 (some 213) rfl ?_
  refine sk 8 (some 214) rfl ?_
  refine tk 9 (some 215) rfl ?_
  refine tk 10 (some 216) rfl ?_
  refine sk 11 (some 217) rfl ?_
  refine sk 12 (some 218) rfl ?_
  refine sk 13 (some 219) rfl ?_
  refine sk 14 (some 220) rfl ?_
  refine sk 15 (some 221) rfl ?_
  refine sk 16 (some 222) rfl ?_
  refine sk 17 (some 223) rfl ?_
  refine sk 18 (some 224) rfl ?_
  refine tk 19 (some 225) rfl ?_
  refine tk 20 (some 226) rfl ?_
  refine sk 21 (some 227) rfl ?_
  refine sk 22 (some 228) rfl ?_
  refine sk 23 (some 229) rfl ?_
  refine sk 24 (some 230) rfl ?_
  refine sk 25 (some 231) rfl ?_
  refine sk 26 (some 232) rfl ?_
  refine sk 27 (some 233) rfl ?_
  refine sk 28 (some 234) rfl ?_
  refine sk 29 (some 235) rfl ?_
  refine tk 30 (some 236) rfl ?_
  refine tk 31 (some 237) rfl ?_
  refine sk 32 (some 238) rfl ?_
  refine sk 33 (some 239) rfl ?_
  refine sk 34 (some 240) rfl ?_
  refine sk 35 (some 241) rfl ?_
  refine sk 36 (some 242) rfl ?_
  refine sk 37 (some 243) rfl ?_
  refine sk 38 (some 244) rfl ?_
  refine sk 39 (some 245) rfl ?_
  refine sk 40 (some 246) rfl ?_
  refine tk 41 (some 247) rfl ?_
  refine wpAnyH_done (by kernel_rfl) ?_ _
  go_wp2_with fail
  go_ret
  exact ⟨ret_bool HQ.out.symm,HFIN.out _ bE⟩
 refine tk 4 (some 210) rfl ?_
 refine tk 5 (some 211) rfl ?_
 refine tk 6 (some 212) rfl ?_
 refine rd1 7 (some 213) rfl (fun KK hKK=>?_)
 go_simp
 (go_at_call 64;(first|(with_reducible refine (kind_b HN5.out hB5 hd HTd.out bE).mono ?_)|(with_reducible refine (kind_b HN5.out hB5 ha HTa.out bE).mono ?_)|(with_reducible refine (kind_b HN5.out hB5 hb HTb.out bE).mono ?_)|(with_reducible refine (kind_b HN5.out hB5 hc HTc.out bE).mono ?_));rintro e w8 ⟨rfl,rfl⟩)
 (try go_wp2_with fail)
 refine hKK.out _ _ ?_ (fun hHeld=>?_)
 ·(try dsimp only);(first|(with_reducible exact HS.out _ bE)|go_keep)
 clear hKK KK
 try simp only[Act.put,List.setIfInBounds_toArray,List.set_cons_zero,List.set_cons_succ]
 refine tk 8 (some 214) rfl ?_
 refine tk 9 (some 215) rfl ?_
 refine tk 10 (some 216) rfl ?_
 cases e1
 rotate_left 1
 ·refine sk 11 (some 217) rfl ?_
  refine sk 12 (some 218) rfl ?_
  refine sk 13 (some 219) rfl ?_
  refine sk 14 (some 220) rfl ?_
  refine sk 15 (some 221) rfl ?_
  refine sk 16 (some 222) rfl ?_
  refine sk 17 (some 223) rfl ?_
  refine sk 18 (some 224) rfl ?_
  refine tk 19 (some 225) rfl ?_
  refine tk 20 (some 226) rfl ?_
  refine sk 21 (some 227) rfl ?_
  refine sk 22 (some 228) rfl ?_
  refine sk 23 (some 229) rfl ?_
  refine sk 24 (some 230) rfl ?_
  refine sk 25 (some 231) rfl ?_
  refine sk 26 (some 232) rfl ?_
  refine sk 27 (some 233) rfl ?_
  refine sk 28 (some 234) rfl ?_
  refine sk 29 (some 235) rfl ?_
  refine tk 30 (some 236) rfl ?_
  refine tk 31 (some 237) rfl ?_
  refine sk 32 (some 238) rfl ?_
  refine sk 33 (some 239) rfl ?_
  refine sk 34 (some 240) rfl ?_
  refine sk 35 (some 241) rfl ?_
  refine sk 36 (some 242) rfl ?_
  refine sk 37 (some 243) rfl ?_
  refine sk 38 (some 244) rfl ?_
  refine sk 39 (some 245) rfl ?_
  refine sk 40 (some 246) rfl ?_
  refine tk 41 (some 247) rfl ?_
  refine wpAnyH_done (by kernel_rfl) ?_ _
  go_wp2_with fail
  go_ret
  exact ⟨ret_bool HQ.out.symm,HFIN.out _ bE⟩
 refine tk 11 (some 217) rfl ?_
 refine tk 12 (some 218) rfl ?_
 refine tk 13 (some 219) rfl ?_
 refine tk 14 (some 220) rfl ?_
 refine tk 15 (some 221) rfl ?_
 refine rd1 16 (some 222) rfl (fun KK hKK=>?_)
 go_simp
 refine hKK.out _ _ ?_ (fun hHeld=>?_)
 ·(try dsimp only);(first|(with_reducible exact HS.out _ bE)|go_keep)
 clear hKK KK
 try simp only[Act.put,List.setIfInBounds_toArray,List.set_cons_zero,List.set_cons_succ]
 refine rd1 17 (some 223) rfl (fun KK hKK=>?_)
 go_simp
 (go_at_call 65;(refine (alike2_c HN5.out hB5 hd ha wd wa HV.out bE (by rfl)).mono ?_);rintro e w8 ⟨rfl,hb8⟩;(have hb9:Below w5.heap.size w5 w8:=Below.trans bE (hb8.mono lE));(have hs9:=hb9.size))
 (try go_wp2_with fail)
 refine hKK.out _ _ ?_ (fun hHeld=>?_)
 ·(try dsimp only);(first|(with_reducible exact HS.out _ bE)|go_keep)
 clear hKK KK
 try simp only[Act.put,List.setIfInBounds_toArray,List.set_cons_zero,List.set_cons_succ]
 refine tk 18 (some 224) rfl ?_
 refine tk 19 (some 225) rfl ?_
 refine tk 20 (some 226) rfl ?_
 cases nV
 rotate_left 1
 ·refine sk 21 (some 227) rfl ?_
  refine sk 22 (some 228) rfl ?_
  refine sk 23 (some 229) rfl ?_
  refine sk 24 (some 230) rfl ?_
  refine sk 25 (some 231) rfl ?_
  refine sk 26 (some 232) rfl ?_
  refine sk 27 (some 233) rfl ?_
  refine sk 28 (some 234) rfl ?_
  refine sk 29 (some 235) rfl ?_
  refine tk 30 (some 236) rfl ?_
  refine tk 31 (some 237) rfl ?_
  refine sk 32 (some 238) rfl ?_
  refine sk 33 (some 239) rfl ?_
  refine sk 34 (some 240) rfl ?_
  refine sk 35 (some 241) rfl ?_
  refine sk 36 (some 242) rfl ?_
  refine sk 37 (some 243) rfl ?_
  refine sk 38 (some 244) rfl ?_
  refine sk 39 (some 245) rfl ?_
  refine sk 40 (some 246) rfl ?_
  refine tk 41 (some 247) rfl ?_
  refine wpAnyH_done (by kernel_rfl) ?_ _
  go_wp2_with fail
  go_ret
  exact ⟨ret_bool HQ.out.symm,HFIN.out _ bE⟩
 refine tk 21 (some 227) rfl ?_
 refine tk 22 (some 228) rfl ?_
 refine tk 23 (some 229) rfl ?_
 refine tk 25 (some 231) rfl ?_
 refine tk 26 (some 232) rfl ?_
 refine tk 27 (some 233) rfl ?_
 refine rd1 24 (some 230) rfl (fun KK hKK=>?_)
 go_simp
 (go_at_call 64;(first|(with_reducible refine (kind_b HN5.out hB5 hd HTd.out bE).mono ?_)|(with_reducible refine (kind_b HN5.out hB5 ha HTa.out bE).mono ?_)|(with_reducible refine (kind_b HN5.out hB5 hb HTb.out bE).mono ?_)|(with_reducible refine (kind_b HN5.out hB5 hc HTc.out bE).mono ?_));rintro e w8 ⟨rfl,rfl⟩)
 (try go_wp2_with fail)
 refine hKK.out _ _ ?_ (fun hHeld=>?_)
 ·(try dsimp only);(first|(with_reducible exact HS.out _ bE)|go_keep)
 clear hKK KK
 try simp only[Act.put,List.setIfInBounds_toArray,List.set_cons_zero,List.set_cons_succ]
 refine rd1 28 (some 234) rfl (fun KK hKK=>?_)
 go_simp
 (go_at_call 64;(first|(with_reducible refine (kind_b HN5.out hB5 hd HTd.out bE).mono ?_)|(with_reducible refine (kind_b HN5.out hB5 ha HTa.out bE).mono ?_)|(with_reducible refine (kind_b HN5.out hB5 hb HTb.out bE).mono ?_)|(with_reducible refine (kind_b HN5.out hB5 hc HTc.out bE).mono ?_));rintro e w8 ⟨rfl,rfl⟩)
 (try go_wp2_with fail)
 refine hKK.out _ _ ?_ (fun hHeld=>?_)
 ·(try dsimp only);(first|(with_reducible exact HS.out _ bE)|go_keep)
 clear hKK KK
 try simp only[Act.put,List.setIfInBounds_toArray,List.set_cons_zero,List.set_cons_succ]
 refine tk 29 (some 235) rfl ?_
 refine tk 30 (some 236) rfl ?_
 refine tk 31 (some 237) rfl ?_
 cases e2
 rotate_left 1
 ·refine sk 32 (some 238) rfl ?_
  refine sk 33 (some 239) rfl ?_
  refine sk 34 (some 240) rfl ?_
  refine sk 35 (some 241) rfl ?_
  refine sk 36 (some 242) rfl ?_
  refine sk 37 (some 243) rfl ?_
  refine sk 38 (some 244) rfl ?_
  refine sk 39 (some 245) rfl ?_
  refine sk 40 (some 246) rfl ?_
  refine tk 41 (some 247) rfl ?_
  refine wpAnyH_done (by kernel_rfl) ?_ _
  go_wp2_with fail
  go_ret
  exact ⟨ret_bool HQ.out.symm,HFIN.out _ bE⟩
 refine tk 32 (some 238) rfl ?_
 refine tk 33 (some 239) rfl ?_
 refine tk 34 (some 240) rfl ?_
 refine tk 36 (some 242) rfl ?_
 refine tk 37 (some 243) rfl ?_
 refine tk 38 (some 244) rfl ?_
 refine rd1 35 (some 241) rfl (fun KK hKK=>?_)
 go_simp
 (go_at_call 64;(first|(with_reducible refine (kind_b HN5.out hB5 hd HTd.out bE).mono ?_)|(with_reducible refine (kind_b HN5.out hB5 ha HTa.out bE).mono ?_)|(with_reducible refine (kind_b HN5.out hB5 hb HTb.out bE).mono ?_)|(with_reducible refine (kind_b HN5.out hB5 hc HTc.out bE).mono ?_));rintro e w8 ⟨rfl,rfl⟩)
 (try go_wp2_with fail)
 refine hKK.out _ _ ?_ (fun hHeld=>?_)
 ·(try dsimp only);(first|(with_reducible exact HS.out _ bE)|go_keep)
 clear hKK KK
 try simp only[Act.put,List.setIfInBounds_toArray,List.set_cons_zero,List.set_cons_succ]
 refine rd1 39 (some 245) rfl (fun KK hKK=>?_)
 go_simp
 (go_at_call 64;(first|(with_reducible refine (kind_b HN5.out hB5 hd HTd.out bE).mono ?_)|(with_reducible refine (kind_b HN5.out hB5 ha HTa.out bE).mono ?_)|(with_reducible refine (kind_b HN5.out hB5 hb HTb.out bE).mono ?_)|(with_reducible refine (kind_b HN5.out hB5 hc HTc.out bE).mono ?_));rintro e w8 ⟨rfl,rfl⟩)
 (try go_wp2_with fail)
 refine hKK.out _ _ ?_ (fun hHeld=>?_)
 ·(try dsimp only);(first|(with_reducible exact HS.out _ bE)|go_keep)
 clear hKK KK
 try simp only[Act.put,List.setIfInBounds_toArray,List.set_cons_zero,List.set_cons_succ]
 refine tk 40 (some 246) rfl ?_
 refine tk 41 (some 247) rfl ?_
 refine wpAnyH_done (by kernel_rfl) ?_ _
 cases e3
 rotate_left 1
 ·go_wp2_with fail
  go_ret
  exact ⟨ret_bool HQ.out.symm,HFIN.out _ bE⟩
 have HW9:Hid (∀W,Below w5.heap.size w5 W→W.cell? ⟨w.heap.size,0,none⟩=some (.int .i64 op)∧W.cell? ⟨w.heap.size,1,none⟩=some (.int .i64 (m:Int))∧W.cell? ⟨w.heap.size,2,none⟩=some (.int .i64 a)∧W.cell? ⟨w.heap.size,3,none⟩=some (.int .i64 b)∧W.cell? ⟨w.heap.size,4,none⟩=some (.int .i64 c)∧W.cell? ⟨w.heap.size,5,none⟩=some (.int .i64 k)):=HS.out
 obtain ⟨c0,c1,c2,c3,c4,c5⟩:=HW9.out _ (show Below w5.heap.size w5 _ from bE)
 go_wp2_with fail
 (with_reducible refine (HB1.out _ bE).mono ?_)
 rintro e w8 ⟨rfl,hb8⟩
 (have hb9:Below w5.heap.size w5 w8:=Below.trans bE (hb8.mono lE));(have hs9:=hb9.size)
 clear c0 c1 c2 c3 c4 c5
 obtain ⟨c0,c1,c2,c3,c4,c5⟩:=HW9.out _ hb9
 cases U1
 ·go_wp2_with fail
  go_ret
  exact ⟨ret_bool HQ.out.symm,HFIN.out _ bE⟩
 go_wp2_with fail
 (with_reducible refine (HB2.out _ bE).mono ?_)
 rintro e w10 ⟨rfl,hb10⟩
 have hb11:=hb9.trans (hb10.mono hs9)
 go_wp2_with fail
 go_ret
 exact ⟨ret_bool HQ.out.symm,HFIN.out _ hb11⟩
end
end Go.Proofs.YtckognjamlckcaaGreatDoor
