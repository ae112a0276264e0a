/-
  norm's maker: ops with parts (printed by gen_nor.py). A region that draws its order and holds late stores: what is held till the first of them (S1), and what is held throughout (S0). A region that draws its order, with late stores and steps that make memory ahead of them. norm.Of: what lies in memory at first, and at the end.
-/
import Derived.Test.YtckognjamlckcaaGreatDoorZz
import Derived.Test.YtckognjamlckcaaGreatDoorNoQ
import Derived.Test.YtckognjamlckcaaGreatDoorRgL
set_option maxHeartbeats 8000000
set_option maxRecDepth 100000
namespace Go.Proofs.YtckognjamlckcaaGreatDoor
open Go.RowKit Vf Fo
attribute [local go_sem ↓] Go.wp_at_zero Go.wp_at_succ
theorem pcl_same {e:Ex} {c:List Gd} {i:Nat} (h:e.op≠24∧e.op≠25∧e.op≠26):pcl e c i=c:=by
 unfold pcl
 rw[if_neg (by omega),if_neg (by omega)]
theorem pre_part {f:Fl} {K:Kw} {e x:Ex} {c:List Gd} {s s':Mk} {i:Nat} (hp:Pre f K e c s) (h3:e.op≠3) (hi:e.args[i]? =some x) (g:Gs s') (hw:s.wires.length≤s'.wires.length) (hf:s'.acts.length+s'.keeps.length+8*exSize x≤900000000):Pre f K x (pcl e c i) s':=
 ⟨((goes_other h3).1 hp.goes).2.2 i x hi,(okE_eq.1 hp.ok).2 i x hi,Nat.le_trans hp.wl hw,g,hf,by have:=pcl_len (e:=e) (c:=c) i;have:=exHeight_arg (List.mem_of_getElem? hi);have:=hp.len;omega⟩
section
variable {f:Fl} {K:Kw} {w0:World} {D:Nat} {vi vo:Value} {W:World} {q:MkQ} {s:Mk} {e:Ex} {A:Option Addr} {cap:Nat}
theorem nexpr_pre (_law:KwLaw K w0) (hs:s.spent=false) (h:MkAt K w0 D vi vo W q s) (hpl:plainE f e) (hop:e.op=21) (v:Value) (c:List Gd) (hc:CkAt D q W v c) (hp:Pre f K e c s) (hP:PartIs f K w0 D vi vo e A cap):Calls Tryz.prog 40 #[.pointer (some ⟨D,0,none⟩),exV e A cap,v] W fun r w'=>r= .returned (.int .i64 (normE e c s).1)∧NIs K w0 D vi vo q W (normE e c s).2 w':=by
 refine' zq114
 refine' zq208
 refine' zq121
 have HE:Hid (normE e c s=(normE x c s).2.was (normE x c s).1 0 c):=by
  show _=_
  rw[normE_eq,norm1]
  dsimp only
  rw[if_neg (by rw[hs];decide),if_neg (by omega),if_neg (by omega),if_pos hop,part_is hi0]
 refine' zq27
 refine' zq143
 refine' zq153
 refine' zq68
 have o21:(e.op==21)=true:=by rw[hop];rfl
 have HSA:=Lib.hid Sa
 clear sa1 sa2 hi0 hm0 P0
 generalize normE x c s=p at*
 obtain ⟨p1,sa⟩:=p
 dsimp only at*
 obtain ⟨n1,rfl⟩:=Int.eq_ofNat_of_zero_le Sa.lo
 clear h h1 hs hop hc hp hP hpl hp1 hp2 hc1 hlen Sa
 refine' zq72
 refine' zq111
 have HC:=Lib.hid (HC0.out _ (Below.refl _ _))
 refine' zq59
 rintro r w5 ⟨rfl,q5,h5,m5⟩
 have HM5:=Lib.hid m5
 have H5:=Lib.hid h5
 clear h5 m5 c0 c1 c2 c3 c4 c5 d0 d1 d2 d3 d4 d5 d6 d7
 have HX6:=Lib.hid (mkwas_any H5.out n1 0 v c (by have h9:(n1:Int)<sa.wires.length:=HSA.out.hi;omega) wf_zero (HCK.out _ _ HM5.out) (by have:=HSA.out.few;dsimp only at this;omega))
 go_wp2_with fail
 (with_reducible refine HX6.out.mono ?_)
 rintro r w6 ⟨rfl,q6,h6,m6⟩
 have HM6:=Lib.hid (HM5.out.trans m6)
 have H6:=Lib.hid h6
 clear h6 m6
 go_wp2_with fail
 go_ret
 rw[HE.out]
 exact ⟨rfl,q6,H6.out,HM1.out.trans HM6.out⟩
theorem nexpr_fby (law:KwLaw K w0) (hs:s.spent=false) (h:MkAt K w0 D vi vo W q s) (hpl:plainE f e) (hop:e.op=22) (v:Value) (c:List Gd) (hc:CkAt D q W v c) (hp:Pre f K e c s) (hP:PartIs f K w0 D vi vo e A cap):Calls Tryz.prog 40 #[.pointer (some ⟨D,0,none⟩),exV e A cap,v] W fun r w'=>r= .returned (.int .i64 (normE e c s).1)∧NIs K w0 D vi vo q W (normE e c s).2 w':=by
 refine' zq117
 have HE:Hid (normE e c s=((((normE y c (normE x c s).2).2.begins c).2.was (normE y c (normE x c s).2).1 0 c).2.choose ((normE y c (normE x c s).2).2.begins c).1 (normE x c s).1 (((normE y c (normE x c s).2).2.begins c).2.was (normE y c (normE x c s).2).1 0 c).1 c)):=by
  show _=_
  rw[normE_eq,norm1]
  dsimp only
  rw[if_neg (by rw[hs];decide),if_neg (by omega),if_neg (by omega),if_neg (by omega),if_pos hop,part_is hi0,part_is hi1]
 refine' zq27
 refine' zq143
 refine' zq58
 refine' zq68
 have o21:(e.op==21)=false:=by rw[hop];rfl
 have o22:(e.op==22)=true:=by rw[hop];rfl
 have Sf:=begins_sp (c:=c) Sb.gs
 have sf1:=Sf.few
 have sf2:=Sf.up
 clear hi0 hm0 hi1 hm1 P0 P1
 refine' zq247
 have HFB:Hid (sb.begins c=sb.begins c):=rfl
 have Sy:=was_sp (c:=c) (x:=p2) (n:=0) Sf.gs
 have sy1:=Sy.few
 have sy2:=Sy.up
 obtain ⟨n1,rfl⟩:=Int.eq_ofNat_of_zero_le Sa.lo
 obtain ⟨n2,rfl⟩:=Int.eq_ofNat_of_zero_le Sb.lo
 have hna:(n1:Int)<sa.wires.length:=Sa.hi
 have hnb:(n2:Int)<sb.wires.length:=Sb.hi
 have HBG:=Lib.hid (fun W' q' (hk:MkAt K w0 D vi vo W' q' sb) hc'=>mkbegins_any law hk v c hokc hc' (by omega))
 have HWS:=Lib.hid (fun W' q' (hk:MkAt K w0 D vi vo W' q' (sb.begins c).2) hc'=>mkwas_any hk n2 0 v c (by omega) wf_zero hc' (by omega))
 have HCH:=Lib.hid (fun W' q' (hk:MkAt K w0 D vi vo W' q' ((sb.begins c).2.was n2 0 c).2) hc'=>mkchoose_any hk (sb.begins c).1 ((sb.begins c).2.was n2 0 c).1 n1 v c (wf_of (by have:=hk.lw;have:=Sf.lo;have:=Sf.hi;omega)) (by omega) wf_wire hc' (by omega))
 generalize (sb.begins c).2.was n2 0 c=py at*
 generalize sb.begins c=pf at*
 clear h h1 hs hop hc hp hP hpl hp1 hp2 hc1 hlen Sa Sb Sf Sy hna hnb
 refine' zq72
 refine' zq111
 go_upto_region 13 with (fail)
 refine' zq60
 refine tk 0 (some 62) rfl ?_
 refine tk 1 (some 63) rfl ?_
 refine tk 2 (some 64) rfl ?_
 refine tk 4 (some 66) rfl ?_
 refine tk 5 (some 67) rfl ?_
 refine tk 6 (some 68) rfl ?_
 refine rd1 3 (some 65) rfl (fun KK hKK=>?_)
 refine' zq16
 refine rd1 7 (some 69) rfl (fun KK hKK=>?_)
 refine' zq16
 refine tk 8 (some 7) rfl ?_
 refine tk 9 (some 8) rfl ?_
 refine' zq205
 have HX8:=Lib.hid (HWS.out _ _ H7.out (HCK.out _ _ HM7.out))
 go_wp2_with fail
 (with_reducible refine HX8.out.mono ?_)
 rintro r w8 ⟨rfl,q8,h8,m8⟩
 have HM8:=Lib.hid (HM7.out.trans m8)
 have H8:=Lib.hid h8
 clear h8 m8
 have HX9:=Lib.hid (HCH.out _ _ H8.out (HCK.out _ _ HM8.out))
 go_wp2_with fail
 (with_reducible refine HX9.out.mono ?_)
 rintro r w9 ⟨rfl,q9,h9,m9⟩
 have HM9:=Lib.hid (HM8.out.trans m9)
 have H9:=Lib.hid h9
 clear h9 m9
 go_wp2_with fail
 go_ret
 rw[HE.out]
 exact ⟨rfl,q9,H9.out,HM1.out.trans HM9.out⟩
theorem nexpr_arrow (law:KwLaw K w0) (hs:s.spent=false) (h:MkAt K w0 D vi vo W q s) (hpl:plainE f e) (hop:e.op=23) (v:Value) (c:List Gd) (hc:CkAt D q W v c) (hp:Pre f K e c s) (hP:PartIs f K w0 D vi vo e A cap):Calls Tryz.prog 40 #[.pointer (some ⟨D,0,none⟩),exV e A cap,v] W fun r w'=>r= .returned (.int .i64 (normE e c s).1)∧NIs K w0 D vi vo q W (normE e c s).2 w':=by
 refine' zq117
 have HE:Hid (normE e c s=(((normE y c (normE x c s).2).2.begins c).2.choose ((normE y c (normE x c s).2).2.begins c).1 (normE x c s).1 (normE y c (normE x c s).2).1 c)):=by
  show _=_
  rw[normE_eq,norm1]
  dsimp only
  rw[if_neg (by rw[hs];decide),if_neg (by omega),if_neg (by omega),if_neg (by omega),if_neg (by omega),if_pos hop,part_is hi0,part_is hi1]
 refine' zq27
 refine' zq143
 refine' zq58
 refine' zq68
 have o21:(e.op==21)=false:=by rw[hop];rfl
 have o22:(e.op==22)=false:=by rw[hop];rfl
 have o23:(e.op==23)=true:=by rw[hop];rfl
 have Sf:=begins_sp (c:=c) Sb.gs
 have sf1:=Sf.few
 have sf2:=Sf.up
 clear hi0 hm0 hi1 hm1 P0 P1
 refine' zq247
 obtain ⟨n1,rfl⟩:=Int.eq_ofNat_of_zero_le Sa.lo
 have hna:(n1:Int)<sa.wires.length:=Sa.hi
 have HBG:=Lib.hid (fun W' q' (hk:MkAt K w0 D vi vo W' q' sb) hc'=>mkbegins_any law hk v c hokc hc' (by omega))
 have HCH:=Lib.hid (fun W' q' (hk:MkAt K w0 D vi vo W' q' (sb.begins c).2) hc'=>mkchoose_any hk (sb.begins c).1 p2 n1 v c (wf_of (by have:=hk.lw;have:=Sf.lo;have:=Sf.hi;omega)) (by omega) (wf_of (by have:=hk.lw;have:=Sb.lo;have:=Sb.hi;dsimp only at*;omega)) hc' (by omega))
 generalize sb.begins c=pf at*
 clear h h1 hs hop hc hp hP hpl hp1 hp2 hc1 hlen Sa Sb Sf hna
 refine' zq72
 refine' zq111
 go_upto_region 16 with (fail)
 refine' zq60
 refine tk 0 (some 83) rfl ?_
 refine tk 1 (some 84) rfl ?_
 refine tk 2 (some 85) rfl ?_
 refine tk 4 (some 87) rfl ?_
 refine tk 5 (some 88) rfl ?_
 refine tk 6 (some 89) rfl ?_
 refine rd1 3 (some 86) rfl (fun KK hKK=>?_)
 refine' zq16
 refine rd1 7 (some 90) rfl (fun KK hKK=>?_)
 refine' zq16
 refine tk 8 (some 9) rfl ?_
 refine tk 9 (some 10) rfl ?_
 refine' zq205
 refine' zq209
theorem nexpr_if (_law:KwLaw K w0) (hs:s.spent=false) (h:MkAt K w0 D vi vo W q s) (hpl:plainE f e) (hop:e.op=27) (v:Value) (c:List Gd) (hc:CkAt D q W v c) (hp:Pre f K e c s) (hP:PartIs f K w0 D vi vo e A cap):Calls Tryz.prog 40 #[.pointer (some ⟨D,0,none⟩),exV e A cap,v] W fun r w'=>r= .returned (.int .i64 (normE e c s).1)∧NIs K w0 D vi vo q W (normE e c s).2 w':=by
 refine' zq259
 obtain ⟨x,y,z,ha⟩:=args_three hp1 (by omega)
 refine' zq236
 have hi1:e.args[1]? =some y:=by rw[ha];rfl
 have hm1:y∈e.args:=List.mem_of_getElem? hi1
 have hi2:e.args[2]? =some z:=by rw[ha];rfl
 have hm2:z∈e.args:=List.mem_of_getElem? hi2
 have hlen:e.args.length=3:=by rw[ha];rfl
 clear ha
 refine' zq208
 refine' zq297
 have Sc:=normE_sp (f:=f) z (hp2 z hm2) c _ Sb.gs (Nat.le_trans (Nat.le_trans hp.wl Sa.up) Sb.up)
 have sc1:=Sc.few
 have sc2:=Sc.up
 refine' zq121
 refine' zq256
 have P2:Pre f K z c (normE y c (normE x c s).2).2:=by have:=pre_part hp (by omega) hi2 Sb.gs (Nat.le_trans Sa.up Sb.up) (by omega);rwa [pcl_same (by omega)] at this
 have HE:Hid (normE e c s=((normE z c (normE y c (normE x c s).2).2).2.choose (normE x c s).1 (normE y c (normE x c s).2).1 (normE z c (normE y c (normE x c s).2).2).1 c)):=by
  show _=_
  rw[normE_eq,norm1]
  dsimp only
  rw[if_neg (by rw[hs];decide),if_neg (by omega),if_neg (by omega),if_neg (by omega),if_neg (by omega),if_neg (by omega),if_pos hop,part_is hi0,part_is hi1,part_is hi2]
 refine' zq27
 refine' zq143
 refine' zq58
 have HC2:=Lib.hid (fun W' q' (m:MFr D q (W.alloc (.cells (exRw e A cap) 75)) q' W') (hk:MkAt K w0 D vi vo W' q' (normE y c (normE x c s).2).2)=>hP 2 2 z rfl hi2 W' q' _ v c hk (hc1.fr m) P2)
 refine' zq233
 have o27:(e.op==27)=true:=by rw[hop];rfl
 clear hi0 hm0 hi1 hm1 hi2 hm2 P0 P1 P2
 refine' zq247
 generalize normE z c sb=p at*
 obtain ⟨p3,sc⟩:=p
 dsimp only at*
 obtain ⟨n2,rfl⟩:=Int.eq_ofNat_of_zero_le Sb.lo
 have hnb:(n2:Int)<sb.wires.length:=Sb.hi
 have HCH:=Lib.hid (fun W' q' (hk:MkAt K w0 D vi vo W' q' sc) hc'=>mkchoose_any hk p1 p3 n2 v c (wf_of (by have:=hk.lw;have:=Sa.lo;have:=Sa.hi;dsimp only at*;omega)) (by omega) (wf_of (by have:=hk.lw;have:=Sc.lo;have:=Sc.hi;dsimp only at*;omega)) hc' (by omega))
 clear h h1 hs hop hc hp hP hpl hp1 hp2 hc1 hlen Sa Sb Sc hnb
 refine' zq72
 refine' zq111
 go_upto_region 19 with (fail)
 refine' zq60
 refine tk 0 (some 101) rfl ?_
 refine tk 1 (some 102) rfl ?_
 refine tk 2 (some 103) rfl ?_
 refine tk 4 (some 105) rfl ?_
 refine tk 5 (some 106) rfl ?_
 refine tk 6 (some 107) rfl ?_
 refine tk 8 (some 109) rfl ?_
 refine tk 9 (some 110) rfl ?_
 refine tk 10 (some 111) rfl ?_
 refine rd1 3 (some 104) rfl (fun KK hKK=>?_)
 refine' zq18
 refine rd1 7 (some 108) rfl (fun KK hKK=>?_)
 refine' zq18
 refine rd1 11 (some 112) rfl (fun KK hKK=>?_)
 refine' zq18
 refine tk 12 (some 11) rfl ?_
 refine tk 13 (some 12) rfl ?_
 refine tk 14 (some 13) rfl ?_
 refine wpAnyH_done (by kernel_rfl) ?_ _
 clear hHeld HK5 HK6 HK7 HK HBX HD6 HD7 c0 c1 c2 c3 c4 c5
 refine' zq209
end
open Go.RowKit
section
variable {P:Program} {ops:Array Oper} {Q:Exit→Act→World→Prop} {md:Region.Mode} {S0 S1:World→Prop} {T:List Nat}
def SM (S0 S1:World→Prop) (T:List Nat) (listed:Array Bool) (w:World):Prop:=S0 w∧((∀t∈T,listed.getD t true=false)→S1 w)
def wpAnyM (P:Program) (md:Region.Mode) (ops:Array Oper) (Q:Exit→Act→World→Prop) (S0 S1:World→Prop) (T:List Nat):Nat→Array Bool→Act→World→Prop
 |0,listed,a,w=>Region.ready md ops listed=[]∧Q .normal a w
 |fuel+1,listed,a,w=>
  (Region.ready md ops listed=[]→Q .normal a w)∧
  ∀i∈Region.ready md ops listed,wpOp P ops Q i (fun a' w'=>SM S0 S1 T (listed.setIfInBounds i true) w'∧wpAnyM P md ops Q S0 S1 T fuel (listed.setIfInBounds i true) a' w') a w
theorem wpAny_of_M:∀(fuel:Nat) (listed:Array Bool) (a:Act) (w:World),wpAnyM P md ops Q S0 S1 T fuel listed a w→wpAny P md ops Q fuel listed a w
 |0,_,_,_,h=>h
 |fuel+1,_,_,_,h=>⟨h.1,fun i hi=>wpOp_mono (fun a' w' h'=>wpAny_of_M fuel _ a' w' h'.2) (h.2 i hi)⟩
theorem unl_set {listed:Array Bool} {i t:Nat} (h:i≠t):(listed.setIfInBounds i true).getD t true=listed.getD t true:=getD_set_ne true h
theorem SM.set {listed:Array Bool} {i:Nat} {w:World} (hi:i∉T):SM S0 S1 T (listed.setIfInBounds i true) w↔SM S0 S1 T listed w:=by
 have e:(∀t∈T,(listed.setIfInBounds i true).getD t true=false)↔∀t∈T,listed.getD t true=false:=
  forall_congr' fun t=>forall_congr' fun ht=>by
   have hne:i≠t:=fun g=>hi (by rw[g];exact ht)
   rw[unl_set hne]
 unfold SM
 rw[e]
theorem wpAnyM_first {b:Bool} {i:Nat} {oi:Oper} {v:Value} (hiT:i∉T) (hl:b=true→∀t∈T,lastOp md ops t i=true) (hi:ops[i]? =some oi) (hsel:∀(j:Nat) (o:Oper) cs c,ops[j]? =some o→o.op≠ .select cs c)
  (hQ:∀c a w,Q (.panic c) (a.put oi.dst v) w→Q (.panic c) a w):
  ∀(fuel:Nat) (listed:Array Bool) (a:Act) (w:World),
   (∀j oj,ops[j]? =some oj→j≠i→listed.getD j true=false→(∀e∈oj.after,Region.binds md e=true→e.on≠i)→oi.apart ops oj=true)→
   i∈Region.ready md ops listed→YieldsIf P ops (fun w=>S0 w∧(b=true→S1 w)) oi v a→SM S0 S1 T listed w→(b=true→∀t∈T,listed.getD t true=false)→
   wpAnyM P md ops Q S0 S1 T fuel (listed.setIfInBounds i true) (a.put oi.dst v) w→wpAnyM P md ops Q S0 S1 T (fuel+1) listed a w:=by
 intro fuel
 induction fuel with
 |zero=>
  intro listed a w _ hr hy hS hT H
  refine ⟨fun h=>(by rw[h] at hr;cases hr),fun j hj=>?_⟩
  by_cases hji:j=i
  ·subst hji;exact hy.wpOp hi ⟨hS.1,fun g=>hS.2 (hT g)⟩ ⟨(SM.set hiT).2 hS,H⟩
  ·have:=ready_mono hj hji
   rw[H.1] at this
   cases this
 |succ fuel ih=>
  intro listed a w hfree hr hy hS hT H
  refine ⟨fun h=>(by rw[h] at hr;cases hr),fun j hj=>?_⟩
  by_cases hji:j=i
  ·subst hji;exact hy.wpOp hi ⟨hS.1,fun g=>hS.2 (hT g)⟩ ⟨(SM.set hiT).2 hS,H⟩
  ·have h1:=H.2 j (ready_mono hj hji)
   obtain ⟨hjun,oj,hoj,hall⟩:=mem_ready.1 hj
   have hnot:∀e∈oj.after,Region.binds md e=true→e.on≠i:=fun e he hb heq=>by
    have h1:=hall e he hb
    have h0:=(mem_ready.1 hr).1
    rw[heq] at h1
    rcases Nat.lt_or_ge i listed.size with h'|h'
    ·simp[h'] at h0 h1;rw[h0] at h1;cases h1
    ·simp[Array.getElem?_eq_none h'] at h1
   have h2:=wpOp_putIf hoj (hfree j oj hoj hji hjun hnot) (fun cs c=>hsel i oi cs c hi) (fun cs c=>hsel j oj cs c hoj) hQ hy h1
   have hfree':∀k ok,ops[k]? =some ok→k≠i→(listed.setIfInBounds j true).getD k true=false→
     (∀e∈ok.after,Region.binds md e=true→e.on≠i)→oi.apart ops ok=true:=fun k ok hk hki hun hno=>by
    refine hfree k ok hk hki ?_ hno
    by_cases hjk:j=k
    ·subst hjk;exact hjun
    ·rw[getD_set_ne true hjk] at hun;exact hun
   have hT':b=true→∀t∈T,(listed.setIfInBounds j true).getD t true=false:=fun g t ht=>by
    have hjt:j≠t:=fun e=>last_not (hl g t ht) hr (e▸hj)
    rw[unl_set hjt]
    exact hT g t ht
   have hSM:∀w',SM S0 S1 T ((listed.setIfInBounds i true).setIfInBounds j true) w'→SM S0 S1 T (listed.setIfInBounds j true) w':=fun w' g=>by
    rw[Array.setIfInBounds_comm _ _ (Ne.symm hji)] at g
    exact (SM.set hiT).1 g
   refine wpOp_mono (fun a' w' h3=>⟨hSM w' h3.2.1,ih (listed.setIfInBounds j true) a' w' hfree' (ready_mono hr (Ne.symm hji)) h3.1 (hSM w' h3.2.1) hT' ?_⟩) h2
   rw[Array.setIfInBounds_comm _ _ hji]
   exact h3.2.2
theorem wpAnyM_done {listed:Array Bool} {a:Act} {w:World} (hr:Region.ready md ops listed=[]) (h:Q .normal a w):∀fuel,wpAnyM P md ops Q S0 S1 T fuel listed a w
 |0=>⟨hr,h⟩
 |_+1=>⟨fun _=>h,by rw[hr];simp⟩
theorem wp_region_M (T:List Nat) {id:Nat} {a:Act} {w:World} (hm:P.follows .mixedOrders=true) (hS:S0 w.drew∧S1 w.drew) (h:S0 w.drew∧S1 w.drew→wpAnyM P .any ops Q S0 S1 T ops.size (Array.replicate ops.size false) a w.drew):(Code.region id ops true).wp P Q a w:=
 wp_region_any hm (wpAny_of_M _ _ _ _ (h hS))
variable {fuel:Nat} {listed:Array Bool} {a a':Act} {w:World} {v:Value} {o:Op} {ty:TypeId} {pos:String} {af:Array Edge} {g:Option (Nat × Bool)}
theorem tk_core (b:Bool) (i:Nat) (d:Option Tmp) (hi:ops[i]? =some {dst:=d,op:=o,type:=ty,pos:=pos,after:=af,guard:=g}) (h:wpAnyM P md ops Q S0 S1 T fuel (listed.setIfInBounds i true) (a.put d v) w)
  (hl:(T.contains i==false && (!b||T.all fun t=>lastOp md ops t i && (listed.getD t true==false)))=true)
  (hs:Region.noSelect ops=true) (hf:Region.free md ops listed i=true) (hr:(Region.ready md ops listed).contains i=true)
  (hw:Region.wanted {dst:=d,op:=o,type:=ty,pos:=pos,after:=af,guard:=g} (yielded ops a.tmps)=true)
  (hy:∀w,S0 w→(b=true→S1 w)→(execOp a.eval {dst:=d,op:=o,type:=ty,pos:=pos,after:=af,guard:=g}).run P w= .ok (.value v) w)
  (hQ:∀c a w,Q (.panic c) (a.put d v) w→Q (.panic c) a w) (hS:SM S0 S1 T listed w):wpAnyM P md ops Q S0 S1 T (fuel+1) listed a w:=by
 rw[Bool.and_eq_true] at hl
 have hiT:i∉T:=fun h=>by
  have:=List.contains_iff_mem.2 h
  rw[this] at hl
  exact absurd hl.1 (by decide)
 have hb:b=true→∀t∈T,lastOp md ops t i=true∧listed.getD t true=false:=fun g t ht=>by
  have h2:=hl.2
  rw[g] at h2
  simp only[Bool.not_true,Bool.false_or,List.all_eq_true,Bool.and_eq_true,beq_iff_eq] at h2
  exact h2 t ht
 exact wpAnyM_first (b:=b) hiT (fun g t ht=>(hb g t ht).1) hi (Region.noSelect_spec hs) hQ fuel listed a w (Region.free_spec hi hf) (by simpa using hr) (.inl ⟨hw,fun w h=>hy w h.1 h.2⟩) hS (fun g t ht=>(hb g t ht).2) h
theorem tkN (i:Nat) (d:Option Tmp) (hi:ops[i]? =some {dst:=d,op:=o,type:=ty,pos:=pos,after:=af,guard:=g}) (h:wpAnyM P md ops Q S0 S1 T fuel (listed.setIfInBounds i true) a' w)
  (hl:(T.contains i==false && (!true||T.all fun t=>lastOp md ops t i && (listed.getD t true==false)))=true:=by kernel_rfl)
  (hs:Region.noSelect ops=true:=by kernel_rfl) (hf:Region.free md ops listed i=true:=by kernel_rfl) (hr:(Region.ready md ops listed).contains i=true:=by kernel_rfl)
  (hw:Region.wanted {dst:=d,op:=o,type:=ty,pos:=pos,after:=af,guard:=g} (yielded ops a.tmps)=true:=by kernel_rfl)
  (hy:∀w,S0 w→S1 w→(execOp a.eval {dst:=d,op:=o,type:=ty,pos:=pos,after:=af,guard:=g}).run P w= .ok (.value v) w:=by intro w hSw hSw1;(try dsimp only at hSw hSw1);go_simp;(try with_reducible rfl))
  (hQ:∀c a w,Q (.panic c) (a.put d v) w→Q (.panic c) a w:=by exact fun _ _ _ h=>h)
  (hS:S0 w∧S1 w:=by first|assumption|trivial)
  (ha:a.put d v=a':=by (try simp only[Act.put,List.setIfInBounds_toArray,List.set_cons_zero,List.set_cons_succ]);(try exact rfl)):wpAnyM P md ops Q S0 S1 T (fuel+1) listed a w:=by
 subst ha
 exact tk_core true i d hi h hl hs hf hr hw (fun w h0 h1=>hy w h0 (h1 rfl)) hQ ⟨hS.1,fun _=>hS.2⟩
theorem tkB (i:Nat) (d:Option Tmp) (hi:ops[i]? =some {dst:=d,op:=o,type:=ty,pos:=pos,after:=af,guard:=g}) (h:wpAnyM P md ops Q S0 S1 T fuel (listed.setIfInBounds i true) a' w)
  (hl:(T.contains i==false && (!false||T.all fun t=>lastOp md ops t i && (listed.getD t true==false)))=true:=by kernel_rfl)
  (hs:Region.noSelect ops=true:=by kernel_rfl) (hf:Region.free md ops listed i=true:=by kernel_rfl) (hr:(Region.ready md ops listed).contains i=true:=by kernel_rfl)
  (hw:Region.wanted {dst:=d,op:=o,type:=ty,pos:=pos,after:=af,guard:=g} (yielded ops a.tmps)=true:=by kernel_rfl)
  (hy:∀w,S0 w→(execOp a.eval {dst:=d,op:=o,type:=ty,pos:=pos,after:=af,guard:=g}).run P w= .ok (.value v) w:=by intro w hSw;(try dsimp only at hSw);go_simp;(try with_reducible rfl))
  (hQ:∀c a w,Q (.panic c) (a.put d v) w→Q (.panic c) a w:=by exact fun _ _ _ h=>h)
  (hS:S0 w∧S1 w:=by first|assumption|trivial)
  (ha:a.put d v=a':=by (try simp only[Act.put,List.setIfInBounds_toArray,List.set_cons_zero,List.set_cons_succ]);(try exact rfl)):wpAnyM P md ops Q S0 S1 T (fuel+1) listed a w:=by
 subst ha
 exact tk_core false i d hi h hl hs hf hr hw (fun w h0 _=>hy w h0) hQ ⟨hS.1,fun _=>hS.2⟩
theorem tkA (i:Nat) (d:Option Tmp) (hi:ops[i]? =some {dst:=d,op:=o,type:=ty,pos:=pos,after:=af,guard:=g}) (h:wpAnyM P md ops Q S0 S1 T fuel (listed.setIfInBounds i true) a' w)
  (hl:(T.contains i==false && (!false||T.all fun t=>lastOp md ops t i && (listed.getD t true==false)))=true:=by kernel_rfl)
  (hs:Region.noSelect ops=true:=by kernel_rfl) (hf:Region.free md ops listed i=true:=by kernel_rfl) (hr:(Region.ready md ops listed).contains i=true:=by kernel_rfl)
  (hw:Region.wanted {dst:=d,op:=o,type:=ty,pos:=pos,after:=af,guard:=g} (yielded ops a.tmps)=true:=by kernel_rfl)
  (hy:∀w,S0 w→(execOp a.eval {dst:=d,op:=o,type:=ty,pos:=pos,after:=af,guard:=g}).run P w= .ok (.value v) w:=by intro w hSw;(try dsimp only at hSw);go_simp;(try with_reducible rfl))
  (hQ:∀c a w,Q (.panic c) (a.put d v) w→Q (.panic c) a w:=by exact fun _ _ _ h=>h)
  (hT:(T.any fun t=>listed.getD t true)=true:=by kernel_rfl)
  (hS:S0 w:=by first|assumption|trivial)
  (ha:a.put d v=a':=by (try simp only[Act.put,List.setIfInBounds_toArray,List.set_cons_zero,List.set_cons_succ]);(try exact rfl)):wpAnyM P md ops Q S0 S1 T (fuel+1) listed a w:=by
 subst ha
 refine tk_core false i d hi h hl hs hf hr hw (fun w h0 _=>hy w h0) hQ ⟨hS,fun q=>?_⟩
 obtain ⟨t,ht,e⟩:=List.any_eq_true.1 hT
 rw[q t ht] at e
 cases e
theorem rdM (i:Nat) (d:Option Tmp) (hi:ops[i]? =some {dst:=d,op:=o,type:=ty,pos:=pos,after:=af,guard:=g})
  (h:∀K':Act→World→Prop,Shut (∀a w,S0 w→(S0 w→wpAnyM P md ops Q S0 S1 T fuel (listed.setIfInBounds i true) a w)→K' a w)→if Region.wanted {dst:=d,op:=o,type:=ty,pos:=pos,after:=af,guard:=g} (yielded ops a.tmps)=true then Oper.wp P {dst:=d,op:=o,type:=ty,pos:=pos,after:=af,guard:=g} a w K' Q else K' (a.put d undef) w)
  (hr:Region.ready md ops listed=[i]:=by kernel_rfl) (ht:(T.contains i && decide (i<listed.size))=true:=by kernel_rfl):wpAnyM P md ops Q S0 S1 T (fuel+1) listed a w:=
 ⟨fun h0=>(by rw[hr] at h0;cases h0),fun j hj=>by
  rw[hr] at hj
  obtain rfl:=List.mem_singleton.1 hj
  rw[Bool.and_eq_true] at ht
  exact wpOp_step hi (fun K' hK=>h K' (fun a w hS hW=>hK a w ⟨⟨hS,fun g=>by
   have:=g j (List.contains_iff_mem.1 ht.1)
   have hs:j<listed.size:=of_decide_eq_true ht.2
   simp[hs] at this⟩,hW hS⟩))⟩
end
section
variable {P:Program} {ops:Array Oper} {Q:Exit→Act→World→Prop} {md:Region.Mode} {S0 S1:World→Prop} {T:List Nat}
variable {fuel:Nat} {listed:Array Bool} {a a':Act} {w:World} {v:Value} {o:Op} {ty:TypeId} {pos:String} {af:Array Edge} {g:Option (Nat × Bool)}
theorem rdMe (i:Nat) (d:Option Tmp) (hi:ops[i]? =some {dst:=d,op:=o,type:=ty,pos:=pos,after:=af,guard:=g})
  (h:∀K':Act→World→Prop,Shut (∀a w,S0 w∧S1 w→(S0 w∧S1 w→wpAnyM P md ops Q S0 S1 T fuel (listed.setIfInBounds i true) a w)→K' a w)→if Region.wanted {dst:=d,op:=o,type:=ty,pos:=pos,after:=af,guard:=g} (yielded ops a.tmps)=true then Oper.wp P {dst:=d,op:=o,type:=ty,pos:=pos,after:=af,guard:=g} a w K' Q else K' (a.put d undef) w)
  (hr:Region.ready md ops listed=[i]:=by kernel_rfl):wpAnyM P md ops Q S0 S1 T (fuel+1) listed a w:=
 ⟨fun h0=>(by rw[hr] at h0;cases h0),fun j hj=>by
  rw[hr] at hj
  obtain rfl:=List.mem_singleton.1 hj
  exact wpOp_step hi (fun K' hK=>h K' (fun a w hS hW=>hK a w ⟨⟨hS.1,fun _=>hS.2⟩,hW hS⟩))⟩
end
theorem ints_flatN (l:List Int):ints l=(l.map (fun n=> [Value.int .i64 n])).flatten:=by
 induction l with
 |nil=>rfl
 |cons x l ih=>
  rw[List.map_cons,List.flatten_cons,←ih]
  rfl
theorem own_grownN {w w':World} {base size n:Nat} {e:TypeId} {v:Value} {xs:List Value} {row:Option Nat} (h:w.ownsRow base e size v n xs) (hg:w.grownBy w' row) (hne:∀k,v.ownBlock=some k→row≠some k):w'.ownsRow base e size v n xs:=by
 refine ⟨h.1,?_⟩
 rcases h.2 with h0|⟨g,c,cur,h1,h2,h3,h4⟩
 ·exact .inl h0
 ·have hgl:g<w.heap.size:=(Array.getElem?_eq_some_iff.1 h3).1
  exact .inr ⟨g,c,cur,h1,h2,(hg.block g hgl (fun e=>hne g (by rw[h1];rfl) e.symm)).trans h3,h4⟩
section
variable {f:Fl} {K:Kw} {w0:World} {D:Nat} {vi vo:Value} {W W':World} {q q':MkQ} {s:Mk}
theorem MkAt.other (h:MkAt K w0 D vi vo W q s) (m:MFr D q W q' W') {v:Value} {n:Nat} {xs:List Value} (ho:W.ownsRow w0.heap.size 3 1 v n xs):W'.ownsRow w0.heap.size 3 1 v n xs:=by
 obtain ⟨css,how,_⟩:=h.ow
 obtain ⟨es,clock,hm⟩:=h.mp.map
 refine own_updE ho m.upd (fun k hk e=>?_)
 rcases e with e|e|e|e|e|e
 ·exact own_ne ho h.row (by decide) (e▸hk)
 ·exact own_apartE how ho (by decide) k e hk
 ·exact own_apartE h.oa ho (by decide) k e hk
 ·exact own_apartE h.oc ho (by decide) k e hk
 ·exact own_apartE h.ok ho (by decide) k e hk
 ·exact own_mapne ho hm (e▸hk)
theorem wk_of {B:Nat} {x:Wr} {cs:List Value} (hD:B≤D) (hq:∀k,OwnQ q k→B≤k) (hB:B≤W.heap.size) (h:isWr W B x cs):isWk D q W x cs:=by
 obtain ⟨v,rfl,h1,A,cap,rfl,h2,h3,h4⟩:=h
 refine ⟨_,rfl,h1,A,cap,rfl,h2,h3,h4.more hB,fun hl a ha=>?_⟩
 obtain ⟨b,off,rfl,hb,_⟩:=h4 hl
 cases ha
 exact ⟨by dsimp only;omega,fun g=>by have:=hq _ g;dsimp only at this;omega⟩
theorem FirstAt.none (hp:W.ownsMap Tryz.prog 9 (plainElem (H:=Unit) Tryz.prog 3) q.P 0 (.map [])):FirstAt K W q.P []:=⟨0,.map [],hp,Nat.le_refl _,⟨[],rfl⟩,fun _ _=>⟨rfl,rfl⟩⟩
theorem ck_of {B:Nat} {v:Value} {c:List Gd} (hD:B≤D) (hq:∀k,OwnQ q k→B≤k) (hB:B≤W.heap.size) (h:SlV W B 2 isGd v c):CkAt D q W v c:=by
 obtain ⟨A,cap,rfl,h2,h3,h4⟩:=h
 refine ⟨A,cap,rfl,h2,h3,h4.more hB,fun hl a ha=>?_⟩
 obtain ⟨b,off,rfl,hb,_⟩:=h4 hl
 cases ha
 exact ⟨by dsimp only;omega,fun g=>by have:=hq _ g;dsimp only at this;omega⟩
theorem wk_upd {Z:Nat} {cs:Array Value} {t:TypeId} {x:Wr} {ys:List Value} (h:isWk D q W x ys) (r:Row W Z cs t) (hcs:∀(i:Nat) (n:Int),cs[i]?≠some (Value.int .i64 n)) (u:Upd (fun k=>k=Z) W W'):isWr W' W'.heap.size x ys:=by
 obtain ⟨v,rfl,h1,A,cap,rfl,h2,h3,h4,_⟩:=h
 refine ⟨_,rfl,h1,A,cap,rfl,h2,h3,fun hl=>?_⟩
 obtain ⟨b,off,rfl,hb,hx⟩:=h4 hl
 have hne:b≠Z:=fun e=>by
  subst e
  obtain ⟨cs',hc,rfl,_⟩:=hx 0 _ (List.getElem?_eq_getElem hl)
  have:=hc 0 _ rfl
  rw[r.cell] at this
  exact hcs _ _ this
 exact sl_block h4 (u.block b hb hne) (Nat.lt_of_lt_of_le hb u.size) hl
theorem MkAt.form (h:MkAt K w0 D vi vo W q s) {Z:Nat} {zs:Array Value} {t:TypeId} (hZ:Z<w0.heap.size) (r:Row W Z zs t) (hzs:∀(i:Nat) (n:Int),zs[i]?≠some (Value.int .i64 n)) (u:Upd (fun k=>k=Z) W W')
  {ins outs:List Int} (hi:W.ownsRow w0.heap.size 3 1 vi ins.length (ints ins)) (hwi:∀n∈ins,Wf n) (ho:W.ownsRow w0.heap.size 3 1 vo outs.length (ints outs)) (hwo:∀n∈outs,Wf n):
  FmAt W' W'.heap.size ⟨s.wires,s.acts,s.cells,s.keeps,ins,outs⟩ q.vw q.va q.vc q.vk vi vo:=by
 obtain ⟨css,how,ha⟩:=h.ow
 have tr:∀{sz n:Nat} {e:TypeId} {v:Value} {xs:List Value},W.ownsRow w0.heap.size e sz v n xs→W'.ownsRow w0.heap.size e sz v n xs:=fun g=>own_updE g u (fun k hk e=>by have:=(g.lt k hk).1;omega)
 have i1:∀{l:List Int} {v:Value},W'.ownsRow w0.heap.size 3 1 v l.length (ints l)→(∀n∈l,Wf n)→SlV W' W'.heap.size 1 isInt v l:=fun {l v} g hw=>
  (own_sl (css:=l.map (fun n=> [Value.int .i64 n])) (by rw[←ints_flatN];exact g) (Are.map (f:=fun n=> [Value.int .i64 n]) (fun n hn=>⟨rfl,hw n hn⟩)) (fun cs hcs=>by obtain ⟨n,_,rfl⟩:=List.mem_map.1 hcs;rfl) (by omega)).1
 refine ⟨?_,?_,?_,?_,i1 (tr hi) hwi,i1 (tr ho) hwo⟩
 ·exact (own_sl (tr how) (ha.mono (fun _ _ _ g=>wk_upd g r hzs u)) (ha.all (p:=fun cs=>cs.length=2) (fun x _ cs g=>by obtain ⟨v,rfl,_⟩:=g;rfl)) (by omega)).1
 ·exact (own_sl (rel:=isAc) (l:=s.acts) (tr h.oa) (Are.map (f:=acC) (fun a g=>⟨rfl,h.wa a g⟩)) (fun cs hcs=>by obtain ⟨n,_,rfl⟩:=List.mem_map.1 hcs;rfl) (by omega)).1
 ·exact (own_sl (rel:=isCell) (l:=s.cells) (tr h.oc) (Are.map (f:=prC) (fun a g=>⟨rfl,h.wc a g⟩)) (fun cs hcs=>by obtain ⟨n,_,rfl⟩:=List.mem_map.1 hcs;rfl) (by omega)).1
 ·exact (own_sl (rel:=isCell) (l:=s.keeps) (tr h.ok) (Are.map (f:=prC) (fun a g=>⟨rfl,h.wk a g⟩)) (fun cs hcs=>by obtain ⟨n,_,rfl⟩:=List.mem_map.1 hcs;rfl) (by omega)).1
end
end Go.Proofs.YtckognjamlckcaaGreatDoor
