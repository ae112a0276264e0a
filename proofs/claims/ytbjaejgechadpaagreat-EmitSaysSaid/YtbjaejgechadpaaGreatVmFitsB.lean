/-
  The contract of tompionref29.reckon. The contract of tompionref04.Fits.
-/
import Derived.Test.YtbjaejgechadpaaGreatRefVmA
import Derived.Test.YtbjaejgechadpaaGreatRefAr
import Derived.Test.YtbjaejgechadpaaGreatVmZ
namespace Go.Proofs.YtbjaejgechadpaaGreat
open Go.RowKit Vf
attribute [local go_sem ↓] Go.wp_at_zero Go.wp_at_succ
def ReckonC (op:Int→Prop):Prop:=∀(w:World) (R:Nat) (cells inn regs:List Int) (p:Pg) (i:Nat) (x:In5),op x.op→Row w R (regs.map (Value.int .i64)).toArray 3→AllIn regs→Vf.Safe p i x→(regs.length:Int)=p.regs→regs.length≤1600→
 Calls Tryz.prog 36 #[in5V x,.slice (some ⟨R,0,none⟩) regs.length regs.length] w fun e w'=>e= .returned (.int .i64 (vgive cells inn regs x))∧Below w.heap.size w w'
set_option maxRecDepth 100000 in
set_option maxHeartbeats 2000000 in
theorem reckon_var:ReckonC (fun op=>op=3):=by
 intro w R cells inn regs p i x hop hR hin hs hrl hrm
 have bX:=Row.new w #[.int .i64 x.op,.int .i64 x.a,.int .i64 x.b,.int .i64 x.c,.int .i64 x.k] 58
 have b0:=(Below.refl w.heap.size w).alloc (Nat.le_refl _) (.cells #[.int .i64 x.op,.int .i64 x.a,.int .i64 x.b,.int .i64 x.c,.int .i64 x.k] 58)
 have hR0:=hR.alloc (.cells #[.int .i64 x.op,.int .i64 x.a,.int .i64 x.b,.int .i64 x.c,.int .i64 x.k] 58)
 have HIn:=Lib.hid hin
 have o3:(x.op==3)=true:=by rw[beq_iff_eq];omega
 have o5:(x.op==5)=false:=by rw[beq_eq_false_iff_ne];omega
 have o6:(x.op==6)=false:=by rw[beq_eq_false_iff_ne];omega
 have o27:(x.op==27)=false:=by rw[beq_eq_false_iff_ne];omega
 obtain ⟨rb0,rb1⟩:=hs.b (.inl hop)
 obtain ⟨nb,hnb⟩:=Int.eq_ofNat_of_zero_le rb0
 have hlb:nb<regs.length:=by omega
 have hlb':(nb:Int)<regs.length:=by omega
 have hzb':(0:Int)≤(nb:Int):=by omega
 have HE:=Lib.hid (show vgive cells inn regs x=getI regs nb by unfold vgive;rw[if_neg (by omega),if_pos hop,hnb])
 have HNb:=Lib.hid hnb
 clear hnb rb0 rb1
 clear hop hs hrl hin hR
 go_enter Tryz.func36,Tryz.ntmps36
 go_upto_region 1 with (fail)
 generalize hW:w.alloc (.cells #[.int .i64 x.op,.int .i64 x.a,.int .i64 x.b,.int .i64 x.c,.int .i64 x.k] 58)=W at*
 clear hW
 obtain ⟨x0,x1,x2,x3,x4⟩:=in5x bX
 rw[HNb.out] at x2
 have cb:=kind_cell hR0 hlb
 clear bX
 generalize getI regs nb=vb at*
 go_wp2_with fail
 go_ret
 exact ⟨ret_i64 HE.out.symm,b0⟩
set_option maxRecDepth 100000 in
set_option maxHeartbeats 2000000 in
theorem reckon_num:ReckonC (fun op=>op=1∨op=2):=by
 intro w R cells inn regs p i x hop hR hin hs hrl hrm
 have bX:=Row.new w #[.int .i64 x.op,.int .i64 x.a,.int .i64 x.b,.int .i64 x.c,.int .i64 x.k] 58
 have b0:=(Below.refl w.heap.size w).alloc (Nat.le_refl _) (.cells #[.int .i64 x.op,.int .i64 x.a,.int .i64 x.b,.int .i64 x.c,.int .i64 x.k] 58)
 have hR0:=hR.alloc (.cells #[.int .i64 x.op,.int .i64 x.a,.int .i64 x.b,.int .i64 x.c,.int .i64 x.k] 58)
 have HIn:=Lib.hid hin
 have o3:(x.op==3)=false:=by rw[beq_eq_false_iff_ne];omega
 have o5:(x.op==5)=false:=by rw[beq_eq_false_iff_ne];omega
 have o6:(x.op==6)=false:=by rw[beq_eq_false_iff_ne];omega
 have o27:(x.op==27)=false:=by rw[beq_eq_false_iff_ne];omega
 have h7:x.op<7:=by omega
 have HE:=Lib.hid (show vgive cells inn regs x=x.k by unfold vgive;rw[if_pos hop])
 clear hop hs hrl hin hR
 go_enter Tryz.func36,Tryz.ntmps36
 go_upto_region 1 with (fail)
 generalize hW:w.alloc (.cells #[.int .i64 x.op,.int .i64 x.a,.int .i64 x.b,.int .i64 x.c,.int .i64 x.k] 58)=W at*
 clear hW
 obtain ⟨x0,x1,x2,x3,x4⟩:=in5x bX
 clear bX
 go_wp2_with fail
 go_ret
 exact ⟨ret_i64 HE.out.symm,b0⟩
set_option maxRecDepth 100000 in
set_option maxHeartbeats 2000000 in
theorem reckon_if:ReckonC (fun op=>op=27):=by
 intro w R cells inn regs p i x hop hR hin hs hrl hrm
 have bX:=Row.new w #[.int .i64 x.op,.int .i64 x.a,.int .i64 x.b,.int .i64 x.c,.int .i64 x.k] 58
 have b0:=(Below.refl w.heap.size w).alloc (Nat.le_refl _) (.cells #[.int .i64 x.op,.int .i64 x.a,.int .i64 x.b,.int .i64 x.c,.int .i64 x.k] 58)
 have hR0:=hR.alloc (.cells #[.int .i64 x.op,.int .i64 x.a,.int .i64 x.b,.int .i64 x.c,.int .i64 x.k] 58)
 have HIn:=Lib.hid hin
 have o3:(x.op==3)=false:=by rw[beq_eq_false_iff_ne];omega
 have o5:(x.op==5)=false:=by rw[beq_eq_false_iff_ne];omega
 have o6:(x.op==6)=false:=by rw[beq_eq_false_iff_ne];omega
 have o27:(x.op==27)=true:=by rw[beq_iff_eq];omega
 obtain ⟨rb0,rb1⟩:=hs.b (.inr (.inr hop))
 obtain ⟨nb,hnb⟩:=Int.eq_ofNat_of_zero_le rb0
 have hlb:nb<regs.length:=by omega
 have hlb':(nb:Int)<regs.length:=by omega
 have hzb':(0:Int)≤(nb:Int):=by omega
 obtain ⟨rc0,rc1⟩:=hs.c (.inr hop)
 obtain ⟨nc,hnc⟩:=Int.eq_ofNat_of_zero_le rc0
 have hlc:nc<regs.length:=by omega
 have hlc':(nc:Int)<regs.length:=by omega
 have hzc':(0:Int)≤(nc:Int):=by omega
 obtain ⟨rk0,rk1⟩:=hs.k27 hop
 obtain ⟨nk,hnk⟩:=Int.eq_ofNat_of_zero_le rk0
 have hlk:nk<regs.length:=by omega
 have hlk':(nk:Int)<regs.length:=by omega
 have hzk':(0:Int)≤(nk:Int):=by omega
 have HE:=Lib.hid (show vgive cells inn regs x=(if getI regs nb≠0 then getI regs nc else getI regs nk) by unfold vgive;rw[if_neg (by omega),if_neg (by omega),if_neg (by omega),if_pos hop,hnb,hnc,hnk])
 have HNb:=Lib.hid hnb
 clear hnb rb0 rb1
 have HNc:=Lib.hid hnc
 clear hnc rc0 rc1
 have HNk:=Lib.hid hnk
 clear hnk rk0 rk1
 clear hop hs hrl hin hR
 go_enter Tryz.func36,Tryz.ntmps36
 go_upto_region 1 with (fail)
 generalize hW:w.alloc (.cells #[.int .i64 x.op,.int .i64 x.a,.int .i64 x.b,.int .i64 x.c,.int .i64 x.k] 58)=W at*
 clear hW
 obtain ⟨x0,x1,x2,x3,x4⟩:=in5x bX
 rw[HNb.out] at x2
 rw[HNc.out] at x3
 rw[HNk.out] at x4
 have cb:=kind_cell hR0 hlb
 have cc:=kind_cell hR0 hlc
 have ck:=kind_cell hR0 hlk
 clear bX
 generalize getI regs nb=vb at*
 generalize getI regs nc=vd at*
 generalize getI regs nk=vk at*
 by_cases hb0:vb=0
 ·have e0:(vb !=0)=false:=by simp[hb0]
  have HE':=Lib.hid (show vgive cells inn regs x=vk by rw[HE.out,if_neg (fun g=>g hb0)])
  clear HE hb0
  go_wp2_with fail
  go_ret
  exact ⟨ret_i64 HE'.out.symm,b0⟩
 ·have e0:(vb !=0)=true:=by simp[hb0]
  have HE':=Lib.hid (show vgive cells inn regs x=vd by rw[HE.out,if_pos hb0])
  clear HE hb0
  go_wp2_with fail
  go_ret
  exact ⟨ret_i64 HE'.out.symm,b0⟩
set_option maxRecDepth 100000 in
set_option maxHeartbeats 2000000 in
theorem reckon_neg:ReckonC (fun op=>op=5):=by
 intro w R cells inn regs p i x hop hR hin hs hrl hrm
 have bX:=Row.new w #[.int .i64 x.op,.int .i64 x.a,.int .i64 x.b,.int .i64 x.c,.int .i64 x.k] 58
 have b0:=(Below.refl w.heap.size w).alloc (Nat.le_refl _) (.cells #[.int .i64 x.op,.int .i64 x.a,.int .i64 x.b,.int .i64 x.c,.int .i64 x.k] 58)
 have hR0:=hR.alloc (.cells #[.int .i64 x.op,.int .i64 x.a,.int .i64 x.b,.int .i64 x.c,.int .i64 x.k] 58)
 have HIn:=Lib.hid hin
 have o3:(x.op==3)=false:=by rw[beq_eq_false_iff_ne];omega
 have o5:(x.op==5)=true:=by rw[beq_iff_eq];omega
 have o6:(x.op==6)=false:=by rw[beq_eq_false_iff_ne];omega
 have o27:(x.op==27)=false:=by rw[beq_eq_false_iff_ne];omega
 obtain ⟨rb0,rb1⟩:=hs.b (.inr (.inl (by omega)))
 obtain ⟨nb,hnb⟩:=Int.eq_ofNat_of_zero_le rb0
 have hlb:nb<regs.length:=by omega
 have hlb':(nb:Int)<regs.length:=by omega
 have hzb':(0:Int)≤(nb:Int):=by omega
 have HE:=Lib.hid (show vgive cells inn regs x=Ar.oneV x.op (getI regs nb) by unfold vgive;rw[if_neg (by omega),if_neg (by omega),if_pos (by omega),hnb])
 have HNb:=Lib.hid hnb
 clear hnb rb0 rb1
 clear hop hs hrl hin hR
 go_enter Tryz.func36,Tryz.ntmps36
 go_upto_region 1 with (fail)
 generalize hW:w.alloc (.cells #[.int .i64 x.op,.int .i64 x.a,.int .i64 x.b,.int .i64 x.c,.int .i64 x.k] 58)=W at*
 clear hW
 obtain ⟨x0,x1,x2,x3,x4⟩:=in5x bX
 rw[HNb.out] at x2
 have cb:=kind_cell hR0 hlb
 have HC:=Lib.hid (rone_any x.op (getI regs nb) W.drew (HIn.out.get _))
 have hlt:=bX.lt
 generalize getI regs nb=vb at*
 generalize Ar.oneV x.op vb=vo at*
 generalize Ar.oneB x.op=bo at*
 go_wp2_with fail
 go_region_held3 (fun w'=>w'.cell? ⟨w.heap.size,0,none⟩=some (.int .i64 x.op)∧w'.cell? ⟨w.heap.size,2,none⟩=some (.int .i64 (nb:Int))∧w'.cell? ⟨R,nb,none⟩=some (.int .i64 vb))
  (first|exact ⟨y0,y2,yb⟩|exact ⟨x0,x2,cb⟩)
  (first|(go_at_call 63;refine HC.out.mono ?_;rintro e w1 ⟨rfl,hb1⟩;have y0:w1.cell? ⟨w.heap.size,0,none⟩=some (.int .i64 x.op):=(hb1.cell (p:=⟨w.heap.size,0,none⟩) hlt).trans x0;have y2:w1.cell? ⟨w.heap.size,2,none⟩=some (.int .i64 (nb:Int)):=(hb1.cell (p:=⟨w.heap.size,2,none⟩) hlt).trans x2;have yb:w1.cell? ⟨R,nb,none⟩=some (.int .i64 vb):=(hb1.cell (p:=⟨R,nb,none⟩) hR0.lt).trans cb;have b1:=b0.drew.trans (hb1.mono b0.size)))
 all_goals
  go_wp2_with fail
  go_ret
  exact ⟨ret_i64 HE.out.symm,b1⟩
set_option maxRecDepth 100000 in
set_option maxHeartbeats 2000000 in
theorem reckon_not:ReckonC (fun op=>op=6):=by
 intro w R cells inn regs p i x hop hR hin hs hrl hrm
 have bX:=Row.new w #[.int .i64 x.op,.int .i64 x.a,.int .i64 x.b,.int .i64 x.c,.int .i64 x.k] 58
 have b0:=(Below.refl w.heap.size w).alloc (Nat.le_refl _) (.cells #[.int .i64 x.op,.int .i64 x.a,.int .i64 x.b,.int .i64 x.c,.int .i64 x.k] 58)
 have hR0:=hR.alloc (.cells #[.int .i64 x.op,.int .i64 x.a,.int .i64 x.b,.int .i64 x.c,.int .i64 x.k] 58)
 have HIn:=Lib.hid hin
 have o3:(x.op==3)=false:=by rw[beq_eq_false_iff_ne];omega
 have o5:(x.op==5)=false:=by rw[beq_eq_false_iff_ne];omega
 have o6:(x.op==6)=true:=by rw[beq_iff_eq];omega
 have o27:(x.op==27)=false:=by rw[beq_eq_false_iff_ne];omega
 obtain ⟨rb0,rb1⟩:=hs.b (.inr (.inl (by omega)))
 obtain ⟨nb,hnb⟩:=Int.eq_ofNat_of_zero_le rb0
 have hlb:nb<regs.length:=by omega
 have hlb':(nb:Int)<regs.length:=by omega
 have hzb':(0:Int)≤(nb:Int):=by omega
 have HE:=Lib.hid (show vgive cells inn regs x=Ar.oneV x.op (getI regs nb) by unfold vgive;rw[if_neg (by omega),if_neg (by omega),if_pos (by omega),hnb])
 have HNb:=Lib.hid hnb
 clear hnb rb0 rb1
 clear hop hs hrl hin hR
 go_enter Tryz.func36,Tryz.ntmps36
 go_upto_region 1 with (fail)
 generalize hW:w.alloc (.cells #[.int .i64 x.op,.int .i64 x.a,.int .i64 x.b,.int .i64 x.c,.int .i64 x.k] 58)=W at*
 clear hW
 obtain ⟨x0,x1,x2,x3,x4⟩:=in5x bX
 rw[HNb.out] at x2
 have cb:=kind_cell hR0 hlb
 have HC:=Lib.hid (rone_any x.op (getI regs nb) W.drew (HIn.out.get _))
 have hlt:=bX.lt
 generalize getI regs nb=vb at*
 generalize Ar.oneV x.op vb=vo at*
 generalize Ar.oneB x.op=bo at*
 go_wp2_with fail
 go_region_held3 (fun w'=>w'.cell? ⟨w.heap.size,0,none⟩=some (.int .i64 x.op)∧w'.cell? ⟨w.heap.size,2,none⟩=some (.int .i64 (nb:Int))∧w'.cell? ⟨R,nb,none⟩=some (.int .i64 vb))
  (first|exact ⟨y0,y2,yb⟩|exact ⟨x0,x2,cb⟩)
  (first|(go_at_call 63;refine HC.out.mono ?_;rintro e w1 ⟨rfl,hb1⟩;have y0:w1.cell? ⟨w.heap.size,0,none⟩=some (.int .i64 x.op):=(hb1.cell (p:=⟨w.heap.size,0,none⟩) hlt).trans x0;have y2:w1.cell? ⟨w.heap.size,2,none⟩=some (.int .i64 (nb:Int)):=(hb1.cell (p:=⟨w.heap.size,2,none⟩) hlt).trans x2;have yb:w1.cell? ⟨R,nb,none⟩=some (.int .i64 vb):=(hb1.cell (p:=⟨R,nb,none⟩) hR0.lt).trans cb;have b1:=b0.drew.trans (hb1.mono b0.size)))
 all_goals
  go_wp2_with fail
  go_ret
  exact ⟨ret_i64 HE.out.symm,b1⟩
set_option maxRecDepth 100000 in
set_option maxHeartbeats 2000000 in
theorem reckon_do:ReckonC (fun op=>7≤op∧op≤20):=by
 intro w R cells inn regs p i x hop hR hin hs hrl hrm
 have bX:=Row.new w #[.int .i64 x.op,.int .i64 x.a,.int .i64 x.b,.int .i64 x.c,.int .i64 x.k] 58
 have b0:=(Below.refl w.heap.size w).alloc (Nat.le_refl _) (.cells #[.int .i64 x.op,.int .i64 x.a,.int .i64 x.b,.int .i64 x.c,.int .i64 x.k] 58)
 have hR0:=hR.alloc (.cells #[.int .i64 x.op,.int .i64 x.a,.int .i64 x.b,.int .i64 x.c,.int .i64 x.k] 58)
 have HIn:=Lib.hid hin
 have o3:(x.op==3)=false:=by rw[beq_eq_false_iff_ne];omega
 have o5:(x.op==5)=false:=by rw[beq_eq_false_iff_ne];omega
 have o6:(x.op==6)=false:=by rw[beq_eq_false_iff_ne];omega
 have o27:(x.op==27)=false:=by rw[beq_eq_false_iff_ne];omega
 have h7:7≤x.op:=hop.1
 have h20:x.op≤20:=hop.2
 obtain ⟨rb0,rb1⟩:=hs.b (.inr (.inl (by omega)))
 obtain ⟨nb,hnb⟩:=Int.eq_ofNat_of_zero_le rb0
 have hlb:nb<regs.length:=by omega
 have hlb':(nb:Int)<regs.length:=by omega
 have hzb':(0:Int)≤(nb:Int):=by omega
 obtain ⟨rc0,rc1⟩:=hs.c (.inl hop)
 obtain ⟨nc,hnc⟩:=Int.eq_ofNat_of_zero_le rc0
 have hlc:nc<regs.length:=by omega
 have hlc':(nc:Int)<regs.length:=by omega
 have hzc':(0:Int)≤(nc:Int):=by omega
 have HE:=Lib.hid (show vgive cells inn regs x=Ar.doV x.op (getI regs nb) (getI regs nc) by unfold vgive;rw[if_neg (by omega),if_neg (by omega),if_neg (by omega),if_neg (by omega),if_neg (by omega),if_neg (by omega),hnb,hnc])
 have HNb:=Lib.hid hnb
 clear hnb rb0 rb1
 have HNc:=Lib.hid hnc
 clear hnc rc0 rc1
 clear hop hs hrl hin hR
 go_enter Tryz.func36,Tryz.ntmps36
 go_upto_region 1 with (fail)
 generalize hW:w.alloc (.cells #[.int .i64 x.op,.int .i64 x.a,.int .i64 x.b,.int .i64 x.c,.int .i64 x.k] 58)=W at*
 clear hW
 obtain ⟨x0,x1,x2,x3,x4⟩:=in5x bX
 rw[HNb.out] at x2
 rw[HNc.out] at x3
 have cb:=kind_cell hR0 hlb
 have cc:=kind_cell hR0 hlc
 have HC:=Lib.hid (rdo_any x.op (getI regs nb) (getI regs nc) W.drew (HIn.out.get _) (HIn.out.get _))
 have hlt:=bX.lt
 generalize getI regs nb=vb at*
 generalize getI regs nc=vd at*
 generalize Ar.doV x.op vb vd=vo at*
 generalize Ar.doB x.op=bo at*
 go_wp2_with fail
 go_region_held3 (fun w'=>w'.cell? ⟨w.heap.size,0,none⟩=some (.int .i64 x.op)∧w'.cell? ⟨w.heap.size,2,none⟩=some (.int .i64 (nb:Int))∧w'.cell? ⟨w.heap.size,3,none⟩=some (.int .i64 (nc:Int))∧w'.cell? ⟨R,nb,none⟩=some (.int .i64 vb)∧w'.cell? ⟨R,nc,none⟩=some (.int .i64 vd))
  (first|exact ⟨y0,y2,y3,yb,yc⟩|exact ⟨x0,x2,x3,cb,cc⟩)
  (first|(go_at_call 64;refine HC.out.mono ?_;rintro e w1 ⟨rfl,hb1⟩;have y0:w1.cell? ⟨w.heap.size,0,none⟩=some (.int .i64 x.op):=(hb1.cell (p:=⟨w.heap.size,0,none⟩) hlt).trans x0;have y2:w1.cell? ⟨w.heap.size,2,none⟩=some (.int .i64 (nb:Int)):=(hb1.cell (p:=⟨w.heap.size,2,none⟩) hlt).trans x2;have y3:w1.cell? ⟨w.heap.size,3,none⟩=some (.int .i64 (nc:Int)):=(hb1.cell (p:=⟨w.heap.size,3,none⟩) hlt).trans x3;have yb:w1.cell? ⟨R,nb,none⟩=some (.int .i64 vb):=(hb1.cell (p:=⟨R,nb,none⟩) hR0.lt).trans cb;have yc:w1.cell? ⟨R,nc,none⟩=some (.int .i64 vd):=(hb1.cell (p:=⟨R,nc,none⟩) hR0.lt).trans cc;have b1:=b0.drew.trans (hb1.mono b0.size)))
 all_goals
  go_wp2_with fail
  go_ret
  exact ⟨ret_i64 HE.out.symm,b1⟩
theorem reckon_any:ReckonC (fun op=>(op=1∨op=2∨op=3∨op=27)∨(5≤op∧op≤20)):=by
 intro w R cells inn regs p i x hop h1 h2 h3 h4 h5
 rcases hop with (e|e|e|e)|e
 ·exact reckon_num w R cells inn regs p i x (.inl e) h1 h2 h3 h4 h5
 ·exact reckon_num w R cells inn regs p i x (.inr e) h1 h2 h3 h4 h5
 ·exact reckon_var w R cells inn regs p i x e h1 h2 h3 h4 h5
 ·exact reckon_if w R cells inn regs p i x e h1 h2 h3 h4 h5
 ·rcases (by omega:x.op=5∨x.op=6∨(7≤x.op∧x.op≤20)) with e|e|e
  ·exact reckon_neg w R cells inn regs p i x e h1 h2 h3 h4 h5
  ·exact reckon_not w R cells inn regs p i x e h1 h2 h3 h4 h5
  ·exact reckon_do w R cells inn regs p i x e h1 h2 h3 h4 h5
end Go.Proofs.YtbjaejgechadpaaGreat
namespace Go.Proofs.YtbjaejgechadpaaGreat
open Go.RowKit Vf
attribute [local go_sem ↓] Go.wp_at_zero Go.wp_at_succ
set_option maxRecDepth 100000 in
set_option maxHeartbeats 2000000 in
theorem rfits04_any (ts vs:List Int) (A1 A2:Option Addr) (c1 c2 B:Nat) (w:World) (hc1:ts.length≤c1) (hm1:c1≤maxLen) (_hc2:vs.length≤c2) (hm2:c2≤maxLen) (h1:Sl w B 1 isInt A1 ts) (h2:Sl w B 1 isInt A2 vs):
  Calls Tryz.prog 8 #[.slice A1 ts.length c1,.slice A2 vs.length c2] w fun e w'=>e= .returned (.bool (cB (fitsOk ts vs)))∧w=w':=by
 have hm1':c1≤9223372036854775807:=by unfold maxLen at hm1;omega
 have hm2':c2≤9223372036854775807:=by unfold maxLen at hm2;omega
 go_enter Tryz.func8,Tryz.ntmps8
 go_wp2_with fail
 refine (rref04_any ts A1 c1 B _ hc1 hm1 h1).mono ?_
 rintro e w' ⟨rfl,rfl⟩
 generalize hV:cB (typesOk ts)=V at*
 have HV:=Lib.hid hV
 clear hV
 cases V
 ·have HF:=Lib.hid (cB_false (fun g:fitsOk ts vs=>cB_not.1 HV.out g.1))
  go_wp2_with fail
  go_ret
  exact ⟨ret_bool HF.out.symm,rfl⟩
 by_cases hl:vs.length=ts.length
 rotate_left 1
 ·have HF:=Lib.hid (cB_false (fun g:fitsOk ts vs=>hl g.2.1))
  have hl':((vs.length:Int) !=(ts.length:Int))=true:=by rw[bne_iff_ne];omega
  have hl'':((ts.length:Int) !=(vs.length:Int))=true:=by rw[bne_iff_ne];omega
  clear hl
  go_wp2_with fail
  go_ret
  exact ⟨ret_bool HF.out.symm,rfl⟩
 have hl':((vs.length:Int) !=(ts.length:Int))=false:=by rw[bne_eq_false_iff_eq];omega
 have hl'':((ts.length:Int) !=(vs.length:Int))=false:=by rw[bne_eq_false_iff_eq];omega
 have HL:=Lib.hid hl
 have hle:vs.length≤ts.length:=by omega
 have hle':ts.length≤vs.length:=by omega
 clear hl
 go_wp2_with fail
 go_loop[5] (fun s=>∃k:Nat,k≤vs.length∧s= .int .i64 k∧Hid (∀j,j<k→fitsAt ts vs j)) (fun s=>vs.length-(intOf s).toNat)
 case atStart=>exact ⟨0,Nat.zero_le _,rfl,fun j h=>absurd h (by omega)⟩
 case round=>
  obtain ⟨k,hk,rfl,HN⟩:=hrel
  by_cases hlt:k<vs.length
  ·obtain ⟨b1,o1,t,rfl,hb1,ht,hwt,d1⟩:=h1.int (show k<ts.length by omega)
   obtain ⟨b2,o2,v,rfl,hb2,hv,hwv,d2⟩:=h2.int (show k<vs.length by omega)
   have HTk:=Lib.hid ht
   have HVk:=Lib.hid hv
   clear ht hv
   have hk1:(k:Int)<ts.length:=by omega
   have hk2:(k:Int)<vs.length:=by omega
   by_cases e2:t=2
   ·have e2':(t==2)=true:=by simp[e2]
    by_cases ev:v=0∨v=1
    ·have HN':=Lib.hid (upto_succ HN.out (fitsAt_mk HTk.out HVk.out (fun _=>ev)))
     rcases ev with rfl|rfl
     all_goals
      clear e2
      go_wp2_with fail
      go_round
      case rel=>exact ⟨k+1,by omega,by go_num,HN'⟩
      case measure=>simp[intOf];omega
    ·have HF:=Lib.hid (cB_false (fits_no HTk.out HVk.out e2 ev))
     have ev0:(v !=0)=true:=by rw[bne_iff_ne];omega
     have ev1:(v !=1)=true:=by rw[bne_iff_ne];omega
     clear e2 ev
     go_wp2_with fail
     go_ret
     exact ⟨ret_bool HF.out.symm,rfl⟩
   ·have e2':(t==2)=false:=by simp[e2]
    have HN':=Lib.hid (upto_succ HN.out (fitsAt_mk HTk.out HVk.out (fun g=>absurd g e2)))
    clear e2
    go_wp2_with fail
    go_round
    case rel=>exact ⟨k+1,by omega,by go_num,HN'⟩
    case measure=>simp[intOf];omega
  ·obtain rfl:k=vs.length:=by omega
   have HF:=Lib.hid (cB_true (fits_yes (cB_iff.1 HV.out) HL.out HN.out))
   go_wp2_with fail
   go_ret
   exact ⟨ret_bool HF.out.symm,rfl⟩
end Go.Proofs.YtbjaejgechadpaaGreat
