/-
  norm's looker: act, an act that is rarer. norm's looker: act, two that are rarer.
-/
import Derived.Test.YtckognjamlckcaaGreatDoorZz
import Derived.Test.YtckognjamlckcaaGreatDoorNormKc
import Derived.IntWalk
set_option maxHeartbeats 2000000
set_option maxRecDepth 100000
namespace Go.Proofs.YtckognjamlckcaaGreatDoor
open Go.RowKit Vf Fo
attribute [local go_sem ↓] Go.wp_at_zero Go.wp_at_succ
section
variable {w:World} {B L:Nat} {f:Fm} {vw va vc vk vi vo vb ve:Value}
theorem last_iff {l m:List Gd} {n:Nat} {g:Gd} (hl:l.length=n+1) (hg:l[n]? =some g):(∃g,l=m++ [g])↔l=m++ [g]:=by
 constructor
 ·rintro ⟨g',h⟩
  have hm:m.length=n:=by have:=congrArg List.length h;simp at this;omega
  rw[h,List.getElem?_append_right (by omega),hm] at hg
  simp at hg
  rw[h,hg]
 ·exact fun h=>⟨g,h⟩
theorem nact_24 (h:NkAt w B L f vw va vc vk vi vo vb ve) (hB:B≤w.heap.size) (op dst a b c k:Int) (wx:AcIn ⟨op,dst,a,b,c,k⟩) (hd:isW f dst) (hop:op=24) (hall:allW3 f a b c) (hcl:∀n,isW f n→(clockOf f n).length≤1600):
  Calls Tryz.prog 28 #[.pointer (some ⟨L,0,none⟩),.agg #[.int .i64 op,.int .i64 dst,.int .i64 a,.int .i64 b,.int .i64 c,.int .i64 k]] w fun e w'=>e= .returned (.bool (cB (actOk f ⟨op,dst,a,b,c,k⟩)))∧Below w.heap.size w w':=by
 refine' zq78
 have HIFF:=Lib.hid (act_iff24 (dst:=dst) (k:=k) hop hall)
 refine' zq65
 refine' zq231
 have o24:(op==24)=true:=by rw[beq_iff_eq];omega
 have o26:(op==26)=false:=by rw[beq_eq_false_iff_ne];omega
 refine' zq207
 clear hop
 by_cases h0:b=0∧c=0∧k=0
 rotate_left 1
 ·have HQ:=Lib.hid (cB_false (show ¬actOk f ⟨op,dst,a,b,c,k⟩ from fun g=>h0 (HIFF.out.1 g).1))
  refine' zq198
  rcases (by omega:b≠0∨(b=0∧c≠0)∨(b=0∧c=0∧k≠0)) with hz|⟨hz0,hz⟩|⟨hz0,hz1,hz⟩
  ·refine' zq6
   refine' zq35
   go_upto_region 17 with (fail)
   refine' zq53
   refine' zq281
  ·refine' zq74
   go_upto_region 17 with (fail)
   refine' zq141
   refine' zq281
  ·refine' zq71
   go_upto_region 17 with (fail)
   refine' zq142
   refine' zq281
 obtain ⟨rfl,rfl,rfl⟩:=h0
 have ha:=hall.1
 have HCL:=Lib.hid hcl
 clear hcl
 rcases Nat.eq_zero_or_pos (clockOf f dst).length with hl0|hl0
 ·have HQ:=Lib.hid (cB_false (show ¬actOk f ⟨op,dst,a,0,0,0⟩ from fun g=>by
   obtain ⟨_,⟨q,hq⟩,_⟩:=HIFF.out.1 g
   have:=congrArg List.length hq
   simp at this
   omega))
  generalize cB (actOk f ⟨op,dst,a,0,0,0⟩)=R at*
  have HL0:=Lib.hid hl0
  clear hl0
  refine' zq38
  have hl0:=HL0.out
  generalize (clockOf f (m:Int)).length=len at*
  subst hl0
  go_upto_region 17 with (fail)
  refine' zq140
  refine' zq61
  refine tk 10 (some 175) rfl ?_
  refine tk 11 (some 176) rfl ?_
  refine tk 12 (some 177) rfl ?_
  refine' zq21
 obtain ⟨n,hn⟩:∃n,(clockOf f dst).length=n+1:=⟨(clockOf f dst).length-1,by omega⟩
 have HG:=Lib.hid (List.getElem?_eq_getElem (l:=clockOf f dst) (i:=n) (by omega))
 generalize (clockOf f dst)[n]=gg at*
 have HQ:Hid (cB (actOk f ⟨op,dst,a,0,0,0⟩)=(cB (clockOf f dst=clockOf f a++ [gg]) && cB (tyOf f dst=tyOf f a))):=by
  show _=_
  rw[←cB_and]
  exact cB_congr (HIFF.out.trans ⟨fun g=>⟨(last_iff hn HG.out).1 g.2.1,g.2.2⟩,fun g=>⟨⟨rfl,rfl,rfl⟩,⟨gg,g.1⟩,g.2⟩⟩)
 rw[cB_beq] at HQ
 have HN:=Lib.hid hn
 clear hl0 HIFF
 generalize cB (actOk f ⟨op,dst,a,0,0,0⟩)=R at*
 generalize hV:cB (clockOf f dst=clockOf f a++ [gg])=V at*
 generalize hTa:tyOf f a=Ta at*
 refine' zq248
 have HTd:=Lib.hid hTd
 clear hV hTa hTd
 clear hn
 generalize he3:(Td==Ta)=b3 at*
 refine' zq38
 have hlen:=HN.out
 have hcl1:=HCL.out (m:Int) hd
 obtain ⟨bg,og,g2,hAg,hbg,hg2,wg,y0,y1⟩:=HSG.out.gd (k:=n) (by omega)
 have HGE:=HG.out
 rw[HGE] at hg2
 injection hg2 with hg2
 subst hg2
 subst hAg
 generalize (clockOf f (m:Int)).length=len at*
 subst hlen
 have HS2:Hid (∀W,Below w5.heap.size w5 W→W.cell? ⟨w.heap.size,0,none⟩=some (.int .i64 op)∧W.cell? ⟨w.heap.size,1,none⟩=some (.int .i64 (m:Int))∧W.cell? ⟨w.heap.size,2,none⟩=some (.int .i64 a)∧W.cell? ⟨w.heap.size,3,none⟩=some (.int .i64 0)∧W.cell? ⟨w.heap.size,4,none⟩=some (.int .i64 0)∧W.cell? ⟨w.heap.size,5,none⟩=some (.int .i64 0)∧W.cell? ⟨bg,og+n*2,none⟩=some (.int .i64 gg.wire)∧W.cell? ⟨bg,og+n*2+1,none⟩=some (.bool gg.no)):=fun W hW=>by
  obtain ⟨x0,x1,x2,x3,x4,x5⟩:=HS.out W hW
  exact ⟨x0,x1,x2,x3,x4,x5,cell_kept y0 hW,cell_kept y1 hW⟩
 have HBH:Hid (∀W,Below w5.heap.size w5 W→Calls Tryz.prog 66 #[.pointer (some ⟨L,0,none⟩),.int .i64 m,.int .i64 a,.agg #[.int .i64 gg.wire,.bool gg.no]] W fun e w'=>e= .returned (.bool V)∧Below W.heap.size W w'):=fun W hW=>by
  have:=nbehind_any (HN5.out.below hB5 hW) (Nat.le_trans hB5 hW.size) m a hd ha gg wg (HCL.out a ha)
  rw[HV.out] at this
  exact this
 clear y0 y1 HGE
 have hn1:(n:Int)<(n+1:Nat):=by omega
 have hn0:(0:Int)≤(n:Int):=by omega
 have hn3:(n:Int)<(n:Int)+1:=by omega
 have ew:IntKind.i64.wrap (n:Int)=(n:Int):=IntWalk.i64_in _ (by omega)
 have hn2:n+1≤cg6:=lg6
 go_upto_region 17 with (fail)
 clear c0 c1 c2 c3 c4 c5 q0 d1
 refine wp_region_held_drew (S:=fun W=>W.cell? ⟨w.heap.size,0,none⟩=some (.int .i64 op)∧W.cell? ⟨w.heap.size,1,none⟩=some (.int .i64 (m:Int))∧W.cell? ⟨w.heap.size,2,none⟩=some (.int .i64 a)∧W.cell? ⟨w.heap.size,3,none⟩=some (.int .i64 0)∧W.cell? ⟨w.heap.size,4,none⟩=some (.int .i64 0)∧W.cell? ⟨w.heap.size,5,none⟩=some (.int .i64 0)∧W.cell? ⟨bg,og+n*2,none⟩=some (.int .i64 gg.wire)∧W.cell? ⟨bg,og+n*2+1,none⟩=some (.bool gg.no)) (by kernel_rfl) ?_ (fun hHeld=>?_)
 ·refine' zq125
 refine' zq61
 refine tk 10 (some 175) rfl ?_
 refine tk 11 (some 176) rfl ?_
 refine tk 12 (some 177) rfl ?_
 refine tk 13 (some 178) rfl ?_
 refine tk 14 (some 179) rfl ?_
 refine tk 15 (some 180) rfl ?_
 refine tk 16 (some 181) rfl ?_
 refine tk 17 (some 182) rfl ?_
 refine tk 18 (some 183) rfl ?_
 refine tk 19 (some 184) rfl ?_
 refine tk 20 (some 185) rfl ?_
 refine tk 21 (some 186) rfl ?_
 refine tk 22 (some 187) rfl ?_
 refine tk 23 (some 188) rfl ?_
 refine tk 24 (some 189) rfl ?_
 refine tk 25 (some 190) rfl ?_
 refine rd1 26 (some 191) rfl (fun KK hKK=>?_)
 go_simp
 (go_at_call 66;(with_reducible refine (HBH.out _ bE).mono ?_);rintro e w8 ⟨rfl,hb8⟩;(have hb9:Below w5.heap.size w5 w8:=Below.trans bE (hb8.mono lE));(have hs9:=hb9.size))
 refine' zq104
 refine tk 27 (some 192) rfl ?_
 refine tk 28 (some 193) rfl ?_
 cases V
 ·refine' zq192
  refine' zq100
 refine tk 29 (some 194) rfl ?_
 refine tk 30 (some 195) rfl ?_
 refine tk 31 (some 196) rfl ?_
 refine tk 33 (some 198) rfl ?_
 refine tk 34 (some 199) rfl ?_
 refine tk 35 (some 200) rfl ?_
 refine rd1 32 (some 197) rfl (fun KK hKK=>?_)
 refine' zq107
 refine' zq104
 refine rd1 36 (some 201) rfl (fun KK hKK=>?_)
 refine' zq107
 refine' zq104
 refine tk 37 (some 202) rfl ?_
 refine tk 38 (some 203) rfl ?_
 refine tk 39 (some 4) rfl ?_
 refine' zq100
end
section
variable {w:World} {B L:Nat} {f:Fm} {vw va vc vk vi vo vb ve:Value}
theorem cB_bne {x y:Int}:cB (x=y)= !(x !=y):=by rw[cB_beq];simp[bne]
theorem nact_26 (h:NkAt w B L f vw va vc vk vi vo vb ve) (hB:B≤w.heap.size) (op dst a b c k:Int) (wx:AcIn ⟨op,dst,a,b,c,k⟩) (hd:isW f dst) (hop:op=26) (hall:allW3 f a b c) (hcl:(clockOf f dst).length≤1600):
  Calls Tryz.prog 28 #[.pointer (some ⟨L,0,none⟩),.agg #[.int .i64 op,.int .i64 dst,.int .i64 a,.int .i64 b,.int .i64 c,.int .i64 k]] w fun e w'=>e= .returned (.bool (cB (actOk f ⟨op,dst,a,b,c,k⟩)))∧Below w.heap.size w w':=by
 refine' zq78
 obtain ⟨ha,hb,hc⟩:=hall
 have hall:allW3 f a b c:=⟨ha,hb,hc⟩
 have HQ:Hid (cB (actOk f ⟨op,dst,a,b,c,k⟩)=(cB (k=0) && (cB (tyOf f a=2) && (cB (clockOf f dst=clockOf f a) && (cB (tyOf f dst=tyOf f b) && (cB (tyOf f dst=tyOf f c) && (cB (clockOf f b=clockOf f dst++ [⟨a,false⟩]) && cB (clockOf f c=clockOf f dst++ [⟨a,true⟩])))))))):=by
  show _=_
  rw[←cB_and,←cB_and,←cB_and,←cB_and,←cB_and,←cB_and]
  exact cB_congr (act_iff26 hop hall)
 rw[cB_bne (x:=k),cB_bne (x:=tyOf f a),cB_bne (y:=tyOf f b),cB_bne (y:=tyOf f c)] at HQ
 refine' zq65
 refine' zq231
 have o24:(op==24)=false:=by rw[beq_eq_false_iff_ne];omega
 have o26:(op==26)=true:=by rw[beq_iff_eq];omega
 refine' zq207
 have HCL:=Lib.hid hcl
 clear hop hcl
 refine' zq198
 generalize hV':cB (clockOf f dst=clockOf f a)=V0 at*
 generalize hnV:(!V0)=nV at*
 have HVN:Hid (V0= !nV):=by show _=_;rw[←hnV];simp
 rw[HVN.out] at HQ
 generalize hU1:cB (clockOf f b=clockOf f dst++ [⟨a,false⟩])=U1 at*
 generalize hU2:cB (clockOf f c=clockOf f dst++ [⟨a,true⟩])=U2 at*
 generalize hTa:tyOf f a=Ta at*
 generalize hTb:tyOf f b=Tb at*
 generalize hTc:tyOf f c=Tc at*
 generalize hTd:tyOf f dst=Td at*
 have HU1:=Lib.hid hU1
 have HU2:=Lib.hid hU2
 have HTa:=Lib.hid hTa
 have HTb:=Lib.hid hTb
 have HTc:=Lib.hid hTc
 have HTd:=Lib.hid hTd
 clear hU1 hU2 hTa hTb hTc hTd
 have HV:=Lib.hid hV'
 clear hV'
 generalize hb1:(k !=0)=b1 at*
 generalize he1:(Ta !=2)=e1 at*
 generalize he2:(Td !=Tb)=e2 at*
 generalize he3:(Td !=Tc)=e3 at*
 refine' zq6
 refine' zq35
 have HB1:Hid (∀W,Below w5.heap.size w5 W→Calls Tryz.prog 66 #[.pointer (some ⟨L,0,none⟩),.int .i64 b,.int .i64 m,.agg #[.int .i64 a,.bool false]] W fun e w'=>e= .returned (.bool U1)∧Below W.heap.size W w'):=fun W hW=>by
  have:=nbehind_any (HN5.out.below hB5 hW) (Nat.le_trans hB5 hW.size) b m hb hd ⟨a,false⟩ wa HCL.out
  rw[HU1.out] at this
  exact this
 have HB2:Hid (∀W,Below w5.heap.size w5 W→Calls Tryz.prog 66 #[.pointer (some ⟨L,0,none⟩),.int .i64 c,.int .i64 m,.agg #[.int .i64 a,.bool true]] W fun e w'=>e= .returned (.bool U2)∧Below W.heap.size W w'):=fun W hW=>by
  have:=nbehind_any (HN5.out.below hB5 hW) (Nat.le_trans hB5 hW.size) c m hc hd ⟨a,true⟩ wa HCL.out
  rw[HU2.out] at this
  exact this
 go_upto_region 19 with (fail)
 refine' zq53
 refine tk 0 (some 206) rfl ?_
 refine tk 1 (some 207) rfl ?_
 refine tk 2 (some 208) rfl ?_
 refine tk 3 (some 209) rfl ?_
 cases b1
 rotate_left 1
 ·refine sk 4 (some 210) rfl ?_
  refine sk 5 (some 211) rfl ?_
  refine sk 6 (some 212) rfl ?_
  refine sk 7 (some 213) rfl ?_
  refine sk 8 (some 214) rfl ?_
  refine tk 9 (some 215) rfl ?_
  refine tk 10 (some 216) rfl ?_
  refine' zq199
 refine tk 4 (some 210) rfl ?_
 refine tk 5 (some 211) rfl ?_
 refine tk 6 (some 212) rfl ?_
 refine rd1 7 (some 213) rfl (fun KK hKK=>?_)
 refine' zq8
 refine tk 8 (some 214) rfl ?_
 refine tk 9 (some 215) rfl ?_
 refine tk 10 (some 216) rfl ?_
 cases e1
 rotate_left 1
 ·refine' zq199
 refine tk 11 (some 217) rfl ?_
 refine tk 12 (some 218) rfl ?_
 refine tk 13 (some 219) rfl ?_
 refine tk 14 (some 220) rfl ?_
 refine tk 15 (some 221) rfl ?_
 refine rd1 16 (some 222) rfl (fun KK hKK=>?_)
 go_simp
 refine' zq239
 refine rd1 17 (some 223) rfl (fun KK hKK=>?_)
 refine' zq243
 refine tk 18 (some 224) rfl ?_
 refine tk 19 (some 225) rfl ?_
 refine tk 20 (some 226) rfl ?_
 cases nV
 rotate_left 1
 ·refine' zq49
 refine tk 21 (some 227) rfl ?_
 refine tk 22 (some 228) rfl ?_
 refine tk 23 (some 229) rfl ?_
 refine tk 25 (some 231) rfl ?_
 refine tk 26 (some 232) rfl ?_
 refine tk 27 (some 233) rfl ?_
 refine rd1 24 (some 230) rfl (fun KK hKK=>?_)
 refine' zq8
 refine rd1 28 (some 234) rfl (fun KK hKK=>?_)
 refine' zq8
 refine tk 29 (some 235) rfl ?_
 refine tk 30 (some 236) rfl ?_
 refine tk 31 (some 237) rfl ?_
 cases e2
 rotate_left 1
 ·refine' zq202
 refine tk 32 (some 238) rfl ?_
 refine tk 33 (some 239) rfl ?_
 refine tk 34 (some 240) rfl ?_
 refine tk 36 (some 242) rfl ?_
 refine tk 37 (some 243) rfl ?_
 refine tk 38 (some 244) rfl ?_
 refine rd1 35 (some 241) rfl (fun KK hKK=>?_)
 refine' zq8
 refine rd1 39 (some 245) rfl (fun KK hKK=>?_)
 refine' zq8
 refine tk 40 (some 246) rfl ?_
 refine tk 41 (some 247) rfl ?_
 refine wpAnyH_done (by kernel_rfl) ?_ _
 cases e3
 rotate_left 1
 ·go_wp2_with fail
  go_ret
  exact ⟨ret_bool HQ.out.symm,HFIN.out _ bE⟩
 have HW9:Hid (∀W,Below w5.heap.size w5 W→W.cell? ⟨w.heap.size,0,none⟩=some (.int .i64 op)∧W.cell? ⟨w.heap.size,1,none⟩=some (.int .i64 (m:Int))∧W.cell? ⟨w.heap.size,2,none⟩=some (.int .i64 a)∧W.cell? ⟨w.heap.size,3,none⟩=some (.int .i64 b)∧W.cell? ⟨w.heap.size,4,none⟩=some (.int .i64 c)∧W.cell? ⟨w.heap.size,5,none⟩=some (.int .i64 k)):=HS.out
 obtain ⟨c0,c1,c2,c3,c4,c5⟩:=HW9.out _ (show Below w5.heap.size w5 _ from bE)
 go_wp2_with fail
 (with_reducible refine (HB1.out _ bE).mono ?_)
 rintro e w8 ⟨rfl,hb8⟩
 (have hb9:Below w5.heap.size w5 w8:=Below.trans bE (hb8.mono lE));(have hs9:=hb9.size)
 clear c0 c1 c2 c3 c4 c5
 obtain ⟨c0,c1,c2,c3,c4,c5⟩:=HW9.out _ hb9
 cases U1
 ·go_wp2_with fail
  go_ret
  exact ⟨ret_bool HQ.out.symm,HFIN.out _ bE⟩
 go_wp2_with fail
 (with_reducible refine (HB2.out _ bE).mono ?_)
 rintro e w10 ⟨rfl,hb10⟩
 have hb11:=hb9.trans (hb10.mono hs9)
 go_wp2_with fail
 go_ret
 exact ⟨ret_bool HQ.out.symm,HFIN.out _ hb11⟩
end
end Go.Proofs.YtckognjamlckcaaGreatDoor
