/-
  norm's maker: ops with parts (printed by gen_nor.py). A region that draws its order and holds late stores: what is held till the first of them (S1), and what is held throughout (S0). A region that draws its order, with late stores and steps that make memory ahead of them. norm.Of: what lies in memory at first, and at the end.
-/
import Derived.Test.YtckognjamlckcaaGreatDoorNoQ
set_option maxHeartbeats 8000000
set_option maxRecDepth 100000
namespace Go.Proofs.YtckognjamlckcaaGreatDoor
open Go.RowKit Vf Fo
attribute [local go_sem ↓] Go.wp_at_zero Go.wp_at_succ
theorem jd {e:Ex} {c:List Gd} {i:Nat} (h:e.op≠24/\e.op≠25/\e.op≠26):aA e c i=c:=by
 unfold aA
 rw[if_neg (by omega),if_neg (by omega)]
theorem gu {f:Fl} {K:Kw} {e x:Ex} {c:List Gd} {s s':Mk} {i:Nat} (hp:fy f K e c s) (h3:e.op≠3) (hi:e.args[i]? =some x) (g:Gs s') (hw:s.wires.length<=s'.wires.length) (hf:s'.acts.length+s'.keeps.length+8*ay x<=900000000):fy f K x (aA e c i) s':=
 ⟨((bL h3).1 hp.goes).2.2 i x hi,(lj.1 hp.ok).2 i x hi,Nat.le_trans hp.wl hw,g,hf,by have:=j' (e:=e) (c:=c) i;have:=eX (List.mem_of_getElem? hi);have:=hp.len;omega⟩
section
variable {f:Fl} {K:Kw} {w0:World} {D:Nat} {vi vo:Value} {W:World} {q:dH} {s:Mk} {e:Ex} {A:Option Addr} {cap:Nat}
theorem we (_law:fx K w0) (hs:s.spent=false) (h:aF K w0 D vi vo W q s) (hpl:aO f e) (hop:e.op=21) (v:Value) (c:List Gd) (hc:cF D q W v c) (hp:fy f K e c s) (hP:fp f K w0 D vi vo e A cap):Calls Tryz.prog 40 #[.pointer (some ⟨D,0,none⟩),bz e A cap,v] W fun r w'=>r= .returned (.int .i64 (ah e c s).1)/\cN K w0 D vi vo q W (ah e c s).2 w':=by
 refine' zq95
 refine' zq198
 refine' zq103
 have HE:Hid (ah e c s=(ah x c s).2.was (ah x c s).1 0 c):=by
  show _=_
  rw[cQ,eh]
  dsimp only
  rw[if_neg (by rw[hs];decide),if_neg (by omega),if_neg (by omega),if_pos hop,ar hi0]
 refine' zq23
 refine' zq122
 refine' zq131
 refine' zq57
 have o21:(e.op==21)=true:=by rw[hop];rfl
 have HSA:=zH Sa
 clear sa1 sa2 hi0 hm0 P0
 generalize ah x c s=p at*
 obtain ⟨p1,sa⟩:=p
 dsimp only at*
 obtain ⟨n1,rfl⟩:=Int.eq_ofNat_of_zero_le Sa.lo
 clear h h1 hs hop hc hp hP hpl hp1 hp2 hc1 hlen Sa
 refine' zq59
 refine' zq94
 have HC:=zH (HC0.o _ (Below.refl _ _))
 refine' zq56
 rintro r w5 ⟨rfl,q5,h5,m5⟩
 have HM5:=zH m5
 have H5:=zH h5
 clear h5 m5 c0 c1 c2 c3 c4 c5 d0 d1 d2 d3 d4 d5 d6 d7
 have HX6:=zH (oW H5.o n1 0 v c (by have h9:(n1:Int)<sa.wires.length:=HSA.o.hi;omega) aV (HCK.o _ _ HM5.o) (by have:=HSA.o.few;dsimp only at this;omega))
 go_wp2_with fail
 (with_reducible refine HX6.o.mono ?_)
 rintro r w6 ⟨rfl,q6,h6,m6⟩
 have HM6:=zH (HM5.o.trans m6)
 have H6:=zH h6
 clear h6 m6
 go_wp2_with fail
 go_ret
 rw[HE.o]
 exact ⟨rfl,q6,H6.o,HM1.o.trans HM6.o⟩
theorem oX (law:fx K w0) (hs:s.spent=false) (h:aF K w0 D vi vo W q s) (hpl:aO f e) (hop:e.op=22) (v:Value) (c:List Gd) (hc:cF D q W v c) (hp:fy f K e c s) (hP:fp f K w0 D vi vo e A cap):Calls Tryz.prog 40 #[.pointer (some ⟨D,0,none⟩),bz e A cap,v] W fun r w'=>r= .returned (.int .i64 (ah e c s).1)/\cN K w0 D vi vo q W (ah e c s).2 w':=by
 refine' zq99
 have HE:Hid (ah e c s=((((ah y c (ah x c s).2).2.begins c).2.was (ah y c (ah x c s).2).1 0 c).2.choose ((ah y c (ah x c s).2).2.begins c).1 (ah x c s).1 (((ah y c (ah x c s).2).2.begins c).2.was (ah y c (ah x c s).2).1 0 c).1 c)):=by
  show _=_
  rw[cQ,eh]
  dsimp only
  rw[if_neg (by rw[hs];decide),if_neg (by omega),if_neg (by omega),if_neg (by omega),if_pos hop,ar hi0,ar hi1]
 refine' zq23
 refine' zq122
 refine' zq49
 refine' zq57
 have o21:(e.op==21)=false:=by rw[hop];rfl
 have o22:(e.op==22)=true:=by rw[hop];rfl
 have Sf:=jB (c:=c) Sb.gs
 have sf1:=Sf.few
 have sf2:=Sf.up
 clear hi0 hm0 hi1 hm1 P0 P1
 refine' zq222
 have HFB:Hid (sb.begins c=sb.begins c):=rfl
 have Sy:=qX (c:=c) (x:=p2) (n:=0) Sf.gs
 have sy1:=Sy.few
 have sy2:=Sy.up
 obtain ⟨n1,rfl⟩:=Int.eq_ofNat_of_zero_le Sa.lo
 obtain ⟨n2,rfl⟩:=Int.eq_ofNat_of_zero_le Sb.lo
 have hna:(n1:Int)<sa.wires.length:=Sa.hi
 have hnb:(n2:Int)<sb.wires.length:=Sb.hi
 have HBG:=zH (fun W' q' (hk:aF K w0 D vi vo W' q' sb) hc'=>lh law hk v c hokc hc' (by omega))
 have HWS:=zH (fun W' q' (hk:aF K w0 D vi vo W' q' (sb.begins c).2) hc'=>oW hk n2 0 v c (by omega) aV hc' (by omega))
 have HCH:=zH (fun W' q' (hk:aF K w0 D vi vo W' q' ((sb.begins c).2.was n2 0 c).2) hc'=>jh hk (sb.begins c).1 ((sb.begins c).2.was n2 0 c).1 n1 v c (aT (by have:=hk.lw;have:=Sf.lo;have:=Sf.hi;omega)) (by omega) fq hc' (by omega))
 generalize (sb.begins c).2.was n2 0 c=py at*
 generalize sb.begins c=pf at*
 clear h h1 hs hop hc hp hP hpl hp1 hp2 hc1 hlen Sa Sb Sf Sy hna hnb
 refine' zq59
 refine' zq94
 go_upto_region 13 with (fail)
 refine' zq50
 refine tk 0 (some 62) rfl ?_
 refine tk 1 (some 63) rfl ?_
 refine tk 2 (some 64) rfl ?_
 refine tk 4 (some 66) rfl ?_
 refine tk 5 (some 67) rfl ?_
 refine tk 6 (some 68) rfl ?_
 refine aH 3 (some 65) rfl (fun KK hKK=>?_)
 refine' zq12
 refine aH 7 (some 69) rfl (fun KK hKK=>?_)
 refine' zq12
 refine tk 8 (some 7) rfl ?_
 refine tk 9 (some 8) rfl ?_
 refine' zq182
 have HX8:=zH (HWS.o _ _ H7.o (HCK.o _ _ HM7.o))
 go_wp2_with fail
 (with_reducible refine HX8.o.mono ?_)
 rintro r w8 ⟨rfl,q8,h8,m8⟩
 have HM8:=zH (HM7.o.trans m8)
 have H8:=zH h8
 clear h8 m8
 have HX9:=zH (HCH.o _ _ H8.o (HCK.o _ _ HM8.o))
 go_wp2_with fail
 (with_reducible refine HX9.o.mono ?_)
 rintro r w9 ⟨rfl,q9,h9,m9⟩
 have HM9:=zH (HM8.o.trans m9)
 have H9:=zH h9
 clear h9 m9
 go_wp2_with fail
 go_ret
 rw[HE.o]
 exact ⟨rfl,q9,H9.o,HM1.o.trans HM9.o⟩
theorem sX (law:fx K w0) (hs:s.spent=false) (h:aF K w0 D vi vo W q s) (hpl:aO f e) (hop:e.op=23) (v:Value) (c:List Gd) (hc:cF D q W v c) (hp:fy f K e c s) (hP:fp f K w0 D vi vo e A cap):Calls Tryz.prog 40 #[.pointer (some ⟨D,0,none⟩),bz e A cap,v] W fun r w'=>r= .returned (.int .i64 (ah e c s).1)/\cN K w0 D vi vo q W (ah e c s).2 w':=by
 refine' zq99
 have HE:Hid (ah e c s=(((ah y c (ah x c s).2).2.begins c).2.choose ((ah y c (ah x c s).2).2.begins c).1 (ah x c s).1 (ah y c (ah x c s).2).1 c)):=by
  show _=_
  rw[cQ,eh]
  dsimp only
  rw[if_neg (by rw[hs];decide),if_neg (by omega),if_neg (by omega),if_neg (by omega),if_neg (by omega),if_pos hop,ar hi0,ar hi1]
 refine' zq23
 refine' zq122
 refine' zq49
 refine' zq57
 have o21:(e.op==21)=false:=by rw[hop];rfl
 have o22:(e.op==22)=false:=by rw[hop];rfl
 have o23:(e.op==23)=true:=by rw[hop];rfl
 have Sf:=jB (c:=c) Sb.gs
 have sf1:=Sf.few
 have sf2:=Sf.up
 clear hi0 hm0 hi1 hm1 P0 P1
 refine' zq222
 obtain ⟨n1,rfl⟩:=Int.eq_ofNat_of_zero_le Sa.lo
 have hna:(n1:Int)<sa.wires.length:=Sa.hi
 have HBG:=zH (fun W' q' (hk:aF K w0 D vi vo W' q' sb) hc'=>lh law hk v c hokc hc' (by omega))
 have HCH:=zH (fun W' q' (hk:aF K w0 D vi vo W' q' (sb.begins c).2) hc'=>jh hk (sb.begins c).1 p2 n1 v c (aT (by have:=hk.lw;have:=Sf.lo;have:=Sf.hi;omega)) (by omega) (aT (by have:=hk.lw;have:=Sb.lo;have:=Sb.hi;dsimp only at*;omega)) hc' (by omega))
 generalize sb.begins c=pf at*
 clear h h1 hs hop hc hp hP hpl hp1 hp2 hc1 hlen Sa Sb Sf hna
 refine' zq59
 refine' zq94
 go_upto_region 16 with (fail)
 refine' zq50
 refine tk 0 (some 83) rfl ?_
 refine tk 1 (some 84) rfl ?_
 refine tk 2 (some 85) rfl ?_
 refine tk 4 (some 87) rfl ?_
 refine tk 5 (some 88) rfl ?_
 refine tk 6 (some 89) rfl ?_
 refine aH 3 (some 86) rfl (fun KK hKK=>?_)
 refine' zq12
 refine aH 7 (some 90) rfl (fun KK hKK=>?_)
 refine' zq12
 refine tk 8 (some 9) rfl ?_
 refine tk 9 (some 10) rfl ?_
 refine' zq182
 refine' zq183
theorem AE (_law:fx K w0) (hs:s.spent=false) (h:aF K w0 D vi vo W q s) (hpl:aO f e) (hop:e.op=27) (v:Value) (c:List Gd) (hc:cF D q W v c) (hp:fy f K e c s) (hP:fp f K w0 D vi vo e A cap):Calls Tryz.prog 40 #[.pointer (some ⟨D,0,none⟩),bz e A cap,v] W fun r w'=>r= .returned (.int .i64 (ah e c s).1)/\cN K w0 D vi vo q W (ah e c s).2 w':=by
 refine' zq233
 obtain ⟨x,y,z,ha⟩:=eo hp1 (by omega)
 refine' zq213
 have hi1:e.args[1]? =some y:=by rw[ha];rfl
 have hm1:y∈e.args:=List.mem_of_getElem? hi1
 have hi2:e.args[2]? =some z:=by rw[ha];rfl
 have hm2:z∈e.args:=List.mem_of_getElem? hi2
 have hlen:e.args.length=3:=by rw[ha];rfl
 clear ha
 refine' zq198
 refine' zq271
 have Sc:=fB (f:=f) z (hp2 z hm2) c _ Sb.gs (Nat.le_trans (Nat.le_trans hp.wl Sa.up) Sb.up)
 have sc1:=Sc.few
 have sc2:=Sc.up
 refine' zq103
 refine' zq230
 have P2:fy f K z c (ah y c (ah x c s).2).2:=by have:=gu hp (by omega) hi2 Sb.gs (Nat.le_trans Sa.up Sb.up) (by omega);rwa [jd (by omega)] at this
 have HE:Hid (ah e c s=((ah z c (ah y c (ah x c s).2).2).2.choose (ah x c s).1 (ah y c (ah x c s).2).1 (ah z c (ah y c (ah x c s).2).2).1 c)):=by
  show _=_
  rw[cQ,eh]
  dsimp only
  rw[if_neg (by rw[hs];decide),if_neg (by omega),if_neg (by omega),if_neg (by omega),if_neg (by omega),if_neg (by omega),if_pos hop,ar hi0,ar hi1,ar hi2]
 refine' zq23
 refine' zq122
 refine' zq49
 have HC2:=zH (fun W' q' (m:aB D q (W.alloc (.cells (bi e A cap) 75)) q' W') (hk:aF K w0 D vi vo W' q' (ah y c (ah x c s).2).2)=>hP 2 2 z rfl hi2 W' q' _ v c hk (hc1.fr m) P2)
 refine' zq211
 have o27:(e.op==27)=true:=by rw[hop];rfl
 clear hi0 hm0 hi1 hm1 hi2 hm2 P0 P1 P2
 refine' zq222
 generalize ah z c sb=p at*
 obtain ⟨p3,sc⟩:=p
 dsimp only at*
 obtain ⟨n2,rfl⟩:=Int.eq_ofNat_of_zero_le Sb.lo
 have hnb:(n2:Int)<sb.wires.length:=Sb.hi
 have HCH:=zH (fun W' q' (hk:aF K w0 D vi vo W' q' sc) hc'=>jh hk p1 p3 n2 v c (aT (by have:=hk.lw;have:=Sa.lo;have:=Sa.hi;dsimp only at*;omega)) (by omega) (aT (by have:=hk.lw;have:=Sc.lo;have:=Sc.hi;dsimp only at*;omega)) hc' (by omega))
 clear h h1 hs hop hc hp hP hpl hp1 hp2 hc1 hlen Sa Sb Sc hnb
 refine' zq59
 refine' zq94
 go_upto_region 19 with (fail)
 refine' zq50
 refine tk 0 (some 101) rfl ?_
 refine tk 1 (some 102) rfl ?_
 refine tk 2 (some 103) rfl ?_
 refine tk 4 (some 105) rfl ?_
 refine tk 5 (some 106) rfl ?_
 refine tk 6 (some 107) rfl ?_
 refine tk 8 (some 109) rfl ?_
 refine tk 9 (some 110) rfl ?_
 refine tk 10 (some 111) rfl ?_
 refine aH 3 (some 104) rfl (fun KK hKK=>?_)
 refine' zq14
 refine aH 7 (some 108) rfl (fun KK hKK=>?_)
 refine' zq14
 refine aH 11 (some 112) rfl (fun KK hKK=>?_)
 refine' zq14
 refine tk 12 (some 11) rfl ?_
 refine tk 13 (some 12) rfl ?_
 refine tk 14 (some 13) rfl ?_
 refine wpAnyH_done (by kernel_rfl) ?_ _
 clear hHeld HK5 HK6 HK7 HK HBX HD6 HD7 c0 c1 c2 c3 c4 c5
 refine' zq183
end
open Go.RowKit
section
variable {P:Program} {ops:Array Oper} {Q:Exit->Act->World->Prop} {md:Region.Mode} {S0 S1:World->Prop} {T:List Nat}
def SM (S0 S1:World->Prop) (T:List Nat) (listed:Array Bool) (w:World):Prop:=S0 w/\((∀t∈T,listed.getD t true=false)->S1 w)
def dB (P:Program) (md:Region.Mode) (ops:Array Oper) (Q:Exit->Act->World->Prop) (S0 S1:World->Prop) (T:List Nat):Nat->Array Bool->Act->World->Prop
 |0,listed,a,w=>Region.ready md ops listed=[]/\Q .normal a w
 |fuel+1,listed,a,w=>
  (Region.ready md ops listed=[]->Q .normal a w)/\
  ∀i∈Region.ready md ops listed,wpOp P ops Q i (fun a' w'=>SM S0 S1 T (listed.setIfInBounds i true) w'/\dB P md ops Q S0 S1 T fuel (listed.setIfInBounds i true) a' w') a w
theorem nf:∀(fuel:Nat) (listed:Array Bool) (a:Act) (w:World),dB P md ops Q S0 S1 T fuel listed a w->wpAny P md ops Q fuel listed a w
 |0,_,_,_,h=>h
 |fuel+1,_,_,_,h=>⟨h.1,fun i hi=>wpOp_mono (fun a' w' h'=>nf fuel _ a' w' h'.2) (h.2 i hi)⟩
theorem tG {listed:Array Bool} {i t:Nat} (h:i≠t):(listed.setIfInBounds i true).getD t true=listed.getD t true:=getD_set_ne true h
theorem SM.set {listed:Array Bool} {i:Nat} {w:World} (hi:i∉T):SM S0 S1 T (listed.setIfInBounds i true) w↔SM S0 S1 T listed w:=by
 have e:(∀t∈T,(listed.setIfInBounds i true).getD t true=false)↔∀t∈T,listed.getD t true=false:=
  forall_congr' fun t=>forall_congr' fun ht=>by
   have hne:i≠t:=fun g=>hi (by rw[g];exact ht)
   rw[tG hne]
 unfold SM
 rw[e]
theorem rn {b:Bool} {i:Nat} {oi:Oper} {v:Value} (hiT:i∉T) (hl:b=true->∀t∈T,gp md ops t i=true) (hi:ops[i]? =some oi) (hsel:∀(j:Nat) (o:Oper) cs c,ops[j]? =some o->o.op≠ .select cs c)
  (hQ:∀c a w,Q (.panic c) (a.put oi.dst v) w->Q (.panic c) a w):
  ∀(fuel:Nat) (listed:Array Bool) (a:Act) (w:World),
   (∀j oj,ops[j]? =some oj->j≠i->listed.getD j true=false->(∀e∈oj.after,Region.binds md e=true->e.on≠i)->oi.apart ops oj=true)->
   i∈Region.ready md ops listed->YieldsIf P ops (fun w=>S0 w/\(b=true->S1 w)) oi v a->SM S0 S1 T listed w->(b=true->∀t∈T,listed.getD t true=false)->
   dB P md ops Q S0 S1 T fuel (listed.setIfInBounds i true) (a.put oi.dst v) w->dB P md ops Q S0 S1 T (fuel+1) listed a w:=by
 intro fuel
 induction fuel with
 |zero=>
  intro listed a w _ hr hy hS hT H
  refine ⟨fun h=>(by rw[h] at hr;cases hr),fun j hj=>?_⟩
  by_cases hji:j=i
  ·subst hji;exact hy.wpOp hi ⟨hS.1,fun g=>hS.2 (hT g)⟩ ⟨(SM.set hiT).2 hS,H⟩
  ·have:=ready_mono hj hji
   rw[H.1] at this
   cases this
 |succ fuel ih=>
  intro listed a w hfree hr hy hS hT H
  refine ⟨fun h=>(by rw[h] at hr;cases hr),fun j hj=>?_⟩
  by_cases hji:j=i
  ·subst hji;exact hy.wpOp hi ⟨hS.1,fun g=>hS.2 (hT g)⟩ ⟨(SM.set hiT).2 hS,H⟩
  ·have h1:=H.2 j (ready_mono hj hji)
   obtain ⟨hjun,oj,hoj,hall⟩:=mem_ready.1 hj
   have hnot:∀e∈oj.after,Region.binds md e=true->e.on≠i:=fun e he hb heq=>by
    have h1:=hall e he hb
    have h0:=(mem_ready.1 hr).1
    rw[heq] at h1
    rcases Nat.lt_or_ge i listed.size with h'|h'
    ·simp[h'] at h0 h1;rw[h0] at h1;cases h1
    ·simp[Array.getElem?_eq_none h'] at h1
   have h2:=wpOp_putIf hoj (hfree j oj hoj hji hjun hnot) (fun cs c=>hsel i oi cs c hi) (fun cs c=>hsel j oj cs c hoj) hQ hy h1
   have hfree':∀k ok,ops[k]? =some ok->k≠i->(listed.setIfInBounds j true).getD k true=false->
     (∀e∈ok.after,Region.binds md e=true->e.on≠i)->oi.apart ops ok=true:=fun k ok hk hki hun hno=>by
    refine hfree k ok hk hki ?_ hno
    by_cases hjk:j=k
    ·subst hjk;exact hjun
    ·rw[getD_set_ne true hjk] at hun;exact hun
   have hT':b=true->∀t∈T,(listed.setIfInBounds j true).getD t true=false:=fun g t ht=>by
    have hjt:j≠t:=fun e=>qt (hl g t ht) hr (e▸hj)
    rw[tG hjt]
    exact hT g t ht
   have hSM:∀w',SM S0 S1 T ((listed.setIfInBounds i true).setIfInBounds j true) w'->SM S0 S1 T (listed.setIfInBounds j true) w':=fun w' g=>by
    rw[Array.setIfInBounds_comm _ _ (Ne.symm hji)] at g
    exact (SM.set hiT).1 g
   refine wpOp_mono (fun a' w' h3=>⟨hSM w' h3.2.1,ih (listed.setIfInBounds j true) a' w' hfree' (ready_mono hr (Ne.symm hji)) h3.1 (hSM w' h3.2.1) hT' ?_⟩) h2
   rw[Array.setIfInBounds_comm _ _ hji]
   exact h3.2.2
theorem sL {listed:Array Bool} {a:Act} {w:World} (hr:Region.ready md ops listed=[]) (h:Q .normal a w):∀fuel,dB P md ops Q S0 S1 T fuel listed a w
 |0=>⟨hr,h⟩
 |_+1=>⟨fun _=>h,by rw[hr];simp⟩
theorem sM (T:List Nat) {id:Nat} {a:Act} {w:World} (hm:P.follows .mixedOrders=true) (hS:S0 w.drew/\S1 w.drew) (h:S0 w.drew/\S1 w.drew->dB P .any ops Q S0 S1 T ops.size (Array.replicate ops.size false) a w.drew):(Code.region id ops true).wp P Q a w:=
 wp_region_any hm (nf _ _ _ _ (h hS))
variable {fuel:Nat} {listed:Array Bool} {a a':Act} {w:World} {v:Value} {o:Op} {ty:TypeId} {pos:String} {af:Array Edge} {g:Option (Nat × Bool)}
theorem oB (b:Bool) (i:Nat) (d:Option Tmp) (hi:ops[i]? =some {dst:=d,op:=o,type:=ty,pos:=pos,after:=af,guard:=g}) (h:dB P md ops Q S0 S1 T fuel (listed.setIfInBounds i true) (a.put d v) w)
  (hl:(T.contains i==false && (!b||T.all fun t=>gp md ops t i && (listed.getD t true==false)))=true)
  (hs:Region.noSelect ops=true) (hf:Region.free md ops listed i=true) (hr:(Region.ready md ops listed).contains i=true)
  (hw:Region.wanted {dst:=d,op:=o,type:=ty,pos:=pos,after:=af,guard:=g} (yielded ops a.tmps)=true)
  (hy:∀w,S0 w->(b=true->S1 w)->(execOp a.eval {dst:=d,op:=o,type:=ty,pos:=pos,after:=af,guard:=g}).run P w= .ok (.value v) w)
  (hQ:∀c a w,Q (.panic c) (a.put d v) w->Q (.panic c) a w) (hS:SM S0 S1 T listed w):dB P md ops Q S0 S1 T (fuel+1) listed a w:=by
 rw[Bool.and_eq_true] at hl
 have hiT:i∉T:=fun h=>by
  have:=List.contains_iff_mem.2 h
  rw[this] at hl
  exact absurd hl.1 (by decide)
 have hb:b=true->∀t∈T,gp md ops t i=true/\listed.getD t true=false:=fun g t ht=>by
  have h2:=hl.2
  rw[g] at h2
  simp only[Bool.not_true,Bool.false_or,List.all_eq_true,Bool.and_eq_true,beq_iff_eq] at h2
  exact h2 t ht
 exact rn (b:=b) hiT (fun g t ht=>(hb g t ht).1) hi (Region.noSelect_spec hs) hQ fuel listed a w (Region.free_spec hi hf) (by simpa using hr) (.inl ⟨hw,fun w h=>hy w h.1 h.2⟩) hS (fun g t ht=>(hb g t ht).2) h
theorem DW (i:Nat) (d:Option Tmp) (hi:ops[i]? =some {dst:=d,op:=o,type:=ty,pos:=pos,after:=af,guard:=g}) (h:dB P md ops Q S0 S1 T fuel (listed.setIfInBounds i true) a' w)
  (hl:(T.contains i==false && (!true||T.all fun t=>gp md ops t i && (listed.getD t true==false)))=true:=by kernel_rfl)
  (hs:Region.noSelect ops=true:=by kernel_rfl) (hf:Region.free md ops listed i=true:=by kernel_rfl) (hr:(Region.ready md ops listed).contains i=true:=by kernel_rfl)
  (hw:Region.wanted {dst:=d,op:=o,type:=ty,pos:=pos,after:=af,guard:=g} (yielded ops a.tmps)=true:=by kernel_rfl)
  (hy:∀w,S0 w->S1 w->(execOp a.eval {dst:=d,op:=o,type:=ty,pos:=pos,after:=af,guard:=g}).run P w= .ok (.value v) w:=by intro w hSw hSw1;(try dsimp only at hSw hSw1);go_simp;(try with_reducible rfl))
  (hQ:∀c a w,Q (.panic c) (a.put d v) w->Q (.panic c) a w:=by exact fun _ _ _ h=>h)
  (hS:S0 w/\S1 w:=by first|assumption|trivial)
  (ha:a.put d v=a':=by (try simp only[Act.put,List.setIfInBounds_toArray,List.set_cons_zero,List.set_cons_succ]);(try exact rfl)):dB P md ops Q S0 S1 T (fuel+1) listed a w:=by
 subst ha
 exact oB true i d hi h hl hs hf hr hw (fun w h0 h1=>hy w h0 (h1 rfl)) hQ ⟨hS.1,fun _=>hS.2⟩
theorem iC (i:Nat) (d:Option Tmp) (hi:ops[i]? =some {dst:=d,op:=o,type:=ty,pos:=pos,after:=af,guard:=g}) (h:dB P md ops Q S0 S1 T fuel (listed.setIfInBounds i true) a' w)
  (hl:(T.contains i==false && (!false||T.all fun t=>gp md ops t i && (listed.getD t true==false)))=true:=by kernel_rfl)
  (hs:Region.noSelect ops=true:=by kernel_rfl) (hf:Region.free md ops listed i=true:=by kernel_rfl) (hr:(Region.ready md ops listed).contains i=true:=by kernel_rfl)
  (hw:Region.wanted {dst:=d,op:=o,type:=ty,pos:=pos,after:=af,guard:=g} (yielded ops a.tmps)=true:=by kernel_rfl)
  (hy:∀w,S0 w->(execOp a.eval {dst:=d,op:=o,type:=ty,pos:=pos,after:=af,guard:=g}).run P w= .ok (.value v) w:=by intro w hSw;(try dsimp only at hSw);go_simp;(try with_reducible rfl))
  (hQ:∀c a w,Q (.panic c) (a.put d v) w->Q (.panic c) a w:=by exact fun _ _ _ h=>h)
  (hS:S0 w/\S1 w:=by first|assumption|trivial)
  (ha:a.put d v=a':=by (try simp only[Act.put,List.setIfInBounds_toArray,List.set_cons_zero,List.set_cons_succ]);(try exact rfl)):dB P md ops Q S0 S1 T (fuel+1) listed a w:=by
 subst ha
 exact oB false i d hi h hl hs hf hr hw (fun w h0 _=>hy w h0) hQ ⟨hS.1,fun _=>hS.2⟩
theorem CO (i:Nat) (d:Option Tmp) (hi:ops[i]? =some {dst:=d,op:=o,type:=ty,pos:=pos,after:=af,guard:=g}) (h:dB P md ops Q S0 S1 T fuel (listed.setIfInBounds i true) a' w)
  (hl:(T.contains i==false && (!false||T.all fun t=>gp md ops t i && (listed.getD t true==false)))=true:=by kernel_rfl)
  (hs:Region.noSelect ops=true:=by kernel_rfl) (hf:Region.free md ops listed i=true:=by kernel_rfl) (hr:(Region.ready md ops listed).contains i=true:=by kernel_rfl)
  (hw:Region.wanted {dst:=d,op:=o,type:=ty,pos:=pos,after:=af,guard:=g} (yielded ops a.tmps)=true:=by kernel_rfl)
  (hy:∀w,S0 w->(execOp a.eval {dst:=d,op:=o,type:=ty,pos:=pos,after:=af,guard:=g}).run P w= .ok (.value v) w:=by intro w hSw;(try dsimp only at hSw);go_simp;(try with_reducible rfl))
  (hQ:∀c a w,Q (.panic c) (a.put d v) w->Q (.panic c) a w:=by exact fun _ _ _ h=>h)
  (hT:(T.any fun t=>listed.getD t true)=true:=by kernel_rfl)
  (hS:S0 w:=by first|assumption|trivial)
  (ha:a.put d v=a':=by (try simp only[Act.put,List.setIfInBounds_toArray,List.set_cons_zero,List.set_cons_succ]);(try exact rfl)):dB P md ops Q S0 S1 T (fuel+1) listed a w:=by
 subst ha
 refine oB false i d hi h hl hs hf hr hw (fun w h0 _=>hy w h0) hQ ⟨hS,fun q=>?_⟩
 obtain ⟨t,ht,e⟩:=List.any_eq_true.1 hT
 rw[q t ht] at e
 cases e
theorem DS (i:Nat) (d:Option Tmp) (hi:ops[i]? =some {dst:=d,op:=o,type:=ty,pos:=pos,after:=af,guard:=g})
  (h:∀K':Act->World->Prop,Shut (∀a w,S0 w->(S0 w->dB P md ops Q S0 S1 T fuel (listed.setIfInBounds i true) a w)->K' a w)->if Region.wanted {dst:=d,op:=o,type:=ty,pos:=pos,after:=af,guard:=g} (yielded ops a.tmps)=true then Oper.wp P {dst:=d,op:=o,type:=ty,pos:=pos,after:=af,guard:=g} a w K' Q else K' (a.put d undef) w)
  (hr:Region.ready md ops listed=[i]:=by kernel_rfl) (ht:(T.contains i && decide (i<listed.size))=true:=by kernel_rfl):dB P md ops Q S0 S1 T (fuel+1) listed a w:=
 ⟨fun h0=>(by rw[hr] at h0;cases h0),fun j hj=>by
  rw[hr] at hj
  obtain rfl:=List.mem_singleton.1 hj
  rw[Bool.and_eq_true] at ht
  exact wpOp_step hi (fun K' hK=>h K' (fun a w hS hW=>hK a w ⟨⟨hS,fun g=>by
   have:=g j (List.contains_iff_mem.1 ht.1)
   have hs:j<listed.size:=of_decide_eq_true ht.2
   simp[hs] at this⟩,hW hS⟩))⟩
end
section
variable {P:Program} {ops:Array Oper} {Q:Exit->Act->World->Prop} {md:Region.Mode} {S0 S1:World->Prop} {T:List Nat}
variable {fuel:Nat} {listed:Array Bool} {a a':Act} {w:World} {v:Value} {o:Op} {ty:TypeId} {pos:String} {af:Array Edge} {g:Option (Nat × Bool)}
theorem Db (i:Nat) (d:Option Tmp) (hi:ops[i]? =some {dst:=d,op:=o,type:=ty,pos:=pos,after:=af,guard:=g})
  (h:∀K':Act->World->Prop,Shut (∀a w,S0 w/\S1 w->(S0 w/\S1 w->dB P md ops Q S0 S1 T fuel (listed.setIfInBounds i true) a w)->K' a w)->if Region.wanted {dst:=d,op:=o,type:=ty,pos:=pos,after:=af,guard:=g} (yielded ops a.tmps)=true then Oper.wp P {dst:=d,op:=o,type:=ty,pos:=pos,after:=af,guard:=g} a w K' Q else K' (a.put d undef) w)
  (hr:Region.ready md ops listed=[i]:=by kernel_rfl):dB P md ops Q S0 S1 T (fuel+1) listed a w:=
 ⟨fun h0=>(by rw[hr] at h0;cases h0),fun j hj=>by
  rw[hr] at hj
  obtain rfl:=List.mem_singleton.1 hj
  exact wpOp_step hi (fun K' hK=>h K' (fun a w hS hW=>hK a w ⟨⟨hS.1,fun _=>hS.2⟩,hW hS⟩))⟩
end
theorem uu (l:List Int):al l=(l.map (fun n=> [Value.int .i64 n])).flatten:=by
 induction l with
 |nil=>rfl
 |cons x l ih=>
  rw[List.map_cons,List.flatten_cons,<-ih]
  rfl
theorem nA {w w':World} {base size n:Nat} {e:TypeId} {v:Value} {xs:List Value} {row:Option Nat} (h:w.ownsRow base e size v n xs) (hg:w.grownBy w' row) (hne:∀k,v.ownBlock=some k->row≠some k):w'.ownsRow base e size v n xs:=by
 refine ⟨h.1,?_⟩
 rcases h.2 with h0|⟨g,c,cur,h1,h2,h3,h4⟩
 ·exact .inl h0
 ·have hgl:g<w.heap.size:=(Array.getElem?_eq_some_iff.1 h3).1
  exact .inr ⟨g,c,cur,h1,h2,(hg.block g hgl (fun e=>hne g (by rw[h1];rfl) e.symm)).trans h3,h4⟩
section
variable {f:Fl} {K:Kw} {w0:World} {D:Nat} {vi vo:Value} {W W':World} {q q':dH} {s:Mk}
theorem aF.other (h:aF K w0 D vi vo W q s) (m:aB D q W q' W') {v:Value} {n:Nat} {xs:List Value} (ho:W.ownsRow w0.heap.size 3 1 v n xs):W'.ownsRow w0.heap.size 3 1 v n xs:=by
 obtain ⟨css,how,_⟩:=h.ow
 obtain ⟨es,clock,hm⟩:=h.mp.map
 refine aN ho m.upd (fun k hk e=>?_)
 rcases e with e|e|e|e|e|e
 ·exact bh ho h.row (by decide) (e▸hk)
 ·exact eH how ho (by decide) k e hk
 ·exact eH h.oa ho (by decide) k e hk
 ·exact eH h.oc ho (by decide) k e hk
 ·exact eH h.ok ho (by decide) k e hk
 ·exact gM ho hm (e▸hk)
theorem Dw {B:Nat} {x:Wr} {cs:List Value} (hD:B<=D) (hq:∀k,dP q k->B<=k) (hB:B<=W.heap.size) (h:fu W B x cs):mZ D q W x cs:=by
 obtain ⟨v,rfl,h1,A,cap,rfl,h2,h3,h4⟩:=h
 refine ⟨_,rfl,h1,A,cap,rfl,h2,h3,h4.more hB,fun hl a ha=>?_⟩
 obtain ⟨b,off,rfl,hb,_⟩:=h4 hl
 cases ha
 exact ⟨by dsimp only;omega,fun g=>by have:=hq _ g;dsimp only at this;omega⟩
theorem dh.none (hp:W.ownsMap Tryz.prog 9 (plainElem (H:=Unit) Tryz.prog 3) q.P 0 (.map [])):dh K W q.P []:=⟨0,.map [],hp,Nat.le_refl _,⟨[],rfl⟩,fun _ _=>⟨rfl,rfl⟩⟩
theorem DE {B:Nat} {v:Value} {c:List Gd} (hD:B<=D) (hq:∀k,dP q k->B<=k) (hB:B<=W.heap.size) (h:aI W B 2 aW v c):cF D q W v c:=by
 obtain ⟨A,cap,rfl,h2,h3,h4⟩:=h
 refine ⟨A,cap,rfl,h2,h3,h4.more hB,fun hl a ha=>?_⟩
 obtain ⟨b,off,rfl,hb,_⟩:=h4 hl
 cases ha
 exact ⟨by dsimp only;omega,fun g=>by have:=hq _ g;dsimp only at this;omega⟩
theorem CY {Z:Nat} {cs:Array Value} {t:TypeId} {x:Wr} {ys:List Value} (h:mZ D q W x ys) (r:ai W Z cs t) (hcs:∀(i:Nat) (n:Int),cs[i]?≠some (Value.int .i64 n)) (u:ae (fun k=>k=Z) W W'):fu W' W'.heap.size x ys:=by
 obtain ⟨v,rfl,h1,A,cap,rfl,h2,h3,h4,_⟩:=h
 refine ⟨_,rfl,h1,A,cap,rfl,h2,h3,fun hl=>?_⟩
 obtain ⟨b,off,rfl,hb,hx⟩:=h4 hl
 have hne:b≠Z:=fun e=>by
  subst e
  obtain ⟨cs',hc,rfl,_⟩:=hx 0 _ (List.getElem?_eq_getElem hl)
  have:=hc 0 _ rfl
  rw[r.cell] at this
  exact hcs _ _ this
 exact mK h4 (u.block b hb hne) (Nat.lt_of_lt_of_le hb u.size) hl
theorem aF.form (h:aF K w0 D vi vo W q s) {Z:Nat} {zs:Array Value} {t:TypeId} (hZ:Z<w0.heap.size) (r:ai W Z zs t) (hzs:∀(i:Nat) (n:Int),zs[i]?≠some (Value.int .i64 n)) (u:ae (fun k=>k=Z) W W')
  {ins outs:List Int} (hi:W.ownsRow w0.heap.size 3 1 vi ins.length (al ins)) (hwi:∀n∈ins,Wf n) (ho:W.ownsRow w0.heap.size 3 1 vo outs.length (al outs)) (hwo:∀n∈outs,Wf n):
  bQ W' W'.heap.size ⟨s.wires,s.acts,s.cells,s.keeps,ins,outs⟩ q.vw q.va q.vc q.vk vi vo:=by
 obtain ⟨css,how,ha⟩:=h.ow
 have tr:∀{sz n:Nat} {e:TypeId} {v:Value} {xs:List Value},W.ownsRow w0.heap.size e sz v n xs->W'.ownsRow w0.heap.size e sz v n xs:=fun g=>aN g u (fun k hk e=>by have:=(g.lt k hk).1;omega)
 have i1:∀{l:List Int} {v:Value},W'.ownsRow w0.heap.size 3 1 v l.length (al l)->(∀n∈l,Wf n)->aI W' W'.heap.size 1 aP v l:=fun {l v} g hw=>
  (fV (css:=l.map (fun n=> [Value.int .i64 n])) (by rw[<-uu];exact g) (ep.map (f:=fun n=> [Value.int .i64 n]) (fun n hn=>⟨rfl,hw n hn⟩)) (fun cs hcs=>by obtain ⟨n,_,rfl⟩:=List.mem_map.1 hcs;rfl) (by omega)).1
 refine ⟨?_,?_,?_,?_,i1 (tr hi) hwi,i1 (tr ho) hwo⟩
 ·exact (fV (tr how) (ha.mono (fun _ _ _ g=>CY g r hzs u)) (ha.all (p:=fun cs=>cs.length=2) (fun x _ cs g=>by obtain ⟨v,rfl,_⟩:=g;rfl)) (by omega)).1
 ·exact (fV (rel:=yf) (l:=s.acts) (tr h.oa) (ep.map (f:=Dl) (fun a g=>⟨rfl,h.wa a g⟩)) (fun cs hcs=>by obtain ⟨n,_,rfl⟩:=List.mem_map.1 hcs;rfl) (by omega)).1
 ·exact (fV (rel:=lu) (l:=s.cells) (tr h.oc) (ep.map (f:=wU) (fun a g=>⟨rfl,h.wc a g⟩)) (fun cs hcs=>by obtain ⟨n,_,rfl⟩:=List.mem_map.1 hcs;rfl) (by omega)).1
 ·exact (fV (rel:=lu) (l:=s.keeps) (tr h.ok) (ep.map (f:=wU) (fun a g=>⟨rfl,h.wk a g⟩)) (fun cs hcs=>by obtain ⟨n,_,rfl⟩:=List.mem_map.1 hcs;rfl) (by omega)).1
end
end Go.Proofs.YtckognjamlckcaaGreatDoor
