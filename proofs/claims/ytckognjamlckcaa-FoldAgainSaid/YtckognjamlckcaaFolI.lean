/-
  fold: what is needed: the walk.
-/
import Derived.Test.YtckognjamlckcaaFolM
import Derived.Test.YtckognjamlckcaaFolF
import Derived.StillTailTactics
namespace Go.Proofs.Ytckognjamlckcaa
open Go.RowKit Vf Fo Ar
attribute [local go_sem ↓] Go.wp_at_zero Go.wp_at_succ
section
variable {f:Fm} {L:List Int} {q:FoQ} {W:World} {R:List Int} {A:List Ac} {ds need cl:List Bool} {fr:List Int}
structure WOk (f:Fm) (L:List Int) (R:List Int) (A:List Ac) (fr:List Int):Prop where
 ok:formOk f
 by_:ByL f L
 inv:FInv f R A (isW f)
 from_:∀c:Int,0≤c→c<f.cells.length→isW f (getI fr c)
def WantP (f:Fm) (L:List Int) (q:FoQ) (R:List Int) (A:List Ac) (ds need cl:List Bool) (fr:List Int) (n:Int) (W:World) (e:Ending) (w':World):Prop:=e= .returned (.tuple #[])∧(∃need' cl',FoAt f L q w' R A ds need' cl' fr∧WSt f R A fr need cl n need' cl')∧Upd (foX q) W w'
theorem FoAt.guards (h:FoAt f L q W R A ds need cl fr) {m:Nat} (hm:m<f.wires.length):∃b off cw Ag cg,q.vw= .slice (some ⟨b,off,none⟩) f.wires.length cw∧cw≤9223372036854775807∧f.wires.length≤cw∧(∀W',Upd (foY q) W W'→W'.cell? ⟨b,off+m*2,none⟩=some (.int .i64 (tyOf f (m:Int)))∧W'.cell? ⟨b,off+m*2+1,none⟩=some (.slice Ag (clockOf f (m:Int)).length cg)∧Sl W' q.M 2 isGd Ag (clockOf f (m:Int)))∧(clockOf f (m:Int)).length≤cg∧cg≤9223372036854775807:=by
 obtain ⟨Aw,cw,e,h1,h2,s⟩:=h.fm.wires
 obtain ⟨b,off,x,Ag,cg,rfl,hb,hx,wt,c0,c1,l1,m1,sg⟩:=s.wr (k:=m) hm
 have hw:wAt f (m:Int)=x:=wAt_some hx
 refine ⟨b,off,cw,Ag,cg,e,by unfold maxLen at h2;omega,h1,fun W' u=>?_,by unfold clockOf;rw[hw];exact l1,by unfold maxLen at m1;omega⟩
 have bl:=h.low u
 unfold tyOf clockOf
 rw[hw]
 exact ⟨(bl.cell (p:=⟨b,off+m*2,none⟩) hb).trans c0,(bl.cell (p:=⟨b,off+m*2+1,none⟩) hb).trans c1,sg.below bl⟩
theorem notYet_mono:∀{l l':List Bool},l'.length=l.length→(∀v,nd l v→nd l' v)→notYet l'≤notYet l
 | [],l',h,_=>by obtain rfl:=List.eq_nil_of_length_eq_zero h;exact Nat.le_refl _
 |b::l,[],h,_=>by simp at h
 |b::l,b'::l',h,g=>by
  have ih:=notYet_mono (l:=l) (l':=l') (by simpa using h) (fun v hv=>by
   have:=g (v+1) ⟨by have:=hv.1;omega,by
    have h2:=hv.2
    unfold bGet at h2⊢
    rw[show (v+1).toNat=v.toNat+1 by have:=hv.1;omega]
    simpa using h2⟩
   refine ⟨hv.1,?_⟩
   have h2:=this.2
   unfold bGet at h2⊢
   rw[show (v+1).toNat=v.toNat+1 by have:=hv.1;omega] at h2
   simpa using h2)
  have hb:b=true→b'=true:=fun e=>by
   have:=(g 0 ⟨by omega,by simp[bGet,e]⟩).2
   simpa[bGet] using this
  unfold notYet at ih⊢
  simp only[List.countP_cons]
  cases b<;>cases b'<;>simp at hb⊢<;>omega
set_option maxRecDepth 100000 in
set_option maxHeartbeats 32000000 in
theorem want_any (hO:WOk f L R A fr):∀(k:Nat) (W:World) (need cl:List Bool) (n:Int),notYet need≤k→isW f n→getI R n=n→FoAt f L q W R A ds need cl fr→Calls Try.prog 32 #[.pointer (some ⟨q.D,0,none⟩),.int .i64 n] W (WantP f L q R A ds need cl fr n W):=by
 intro k0
 induction k0 using Nat.strongRecOn with
 |ind k0 ih=>
 intro W need cl n hk hw hrt h
 obtain ⟨m,rfl⟩:=Int.eq_ofNat_of_zero_le hw.1
 have hm:m<f.wires.length:=by have:=hw.2;omega
 have hm':(m:Int)<f.wires.length:=by omega
 obtain ⟨d0,d1,d2,d3,d4,d5,d6,d7,d8,d9,d10,d11,d12⟩:=h.cells
 have cE:=ds_cell h.e (n:=m) (by rw[h.el];exact hm)
 have HH:=Lib.hid h
 generalize hB:bGet need (m:Int)=B0 at cE
 cases B0
 rotate_left 1
 ·have HST:=Lib.hid (WSt.same (f:=f) (R:=R) (A:=A) (fr:=fr) (cl:=cl) (n:=(m:Int)) ⟨by omega,hB⟩)
  clear h hw hB ih hk hrt hO
  go_enter Try.func32,Try.ntmps32
  go_wp2_with fail
  (try simp only[Exit.inBlock,Exit.then]);refine bodyPost_ret (results_none rfl _ _ _) rfl ?_
  exact ⟨rfl,⟨_,_,HH.out,HST.out⟩,Upd.refl _ _⟩
 have hlt1:notYet (need.set m true)<k0:=by
  have:=notYet_set (ds:=need) (n:=(m:Int)) (by omega) (by rw[h.el];exact hm') hB
  rw[Int.toNat_natCast] at this
  omega
 have HO:=Lib.hid hO
 have HIH:Hid (∀W need' cl' u,(∀v,nd (need.set m true) v→nd need' v)→isW f u→getI R u=u→FoAt f L q W R A ds need' cl' fr→Calls Try.prog 32 #[.pointer (some ⟨q.D,0,none⟩),.int .i64 u] W (WantP f L q R A ds need' cl' fr u W)):=fun W2 need' cl' u h1 h2 h3 h4=>by
  have hle:=notYet_mono (l:=need.set m true) (l':=need') (by rw[h4.el,List.length_set,h.el]) h1
  exact ih (notYet need') (by omega) W2 need' cl' u (Nat.le_refl _) h2 h3 h4
 have HRC:=Lib.hid (HO.out.inv.roots HO.out.ok HO.out.from_ (m:Int) ⟨hw,hrt⟩)
 have HRW:Hid (∀P,wClosed f R A fr P→P (m:Int)→∀u,wSucc f R A (m:Int) u→P u):=fun P hP hn u hu=>(hP _ hn).1 u hu
 have hA0:=WAcc.start (f:=f) (R:=R) (A:=A) (fr:=fr) (cl:=cl) (need:=need) (m:=m) (by rw[h.el];exact hm)
 have HA0:=Lib.hid hA0
 have HNE:Hid (∀v,nd (need.set m true) v→nd (need.set m true) v):=fun _ g=>g
 have fE:=h.e.frozen m
 obtain ⟨h1,u1⟩:=h.setE m
 have H1:=Lib.hid h1
 have U1:=Lib.hid (u1.mono (Y:=foX q) (fun k e=> .inr (.inr (.inr (.inl e)))))
 obtain ⟨b,off,cw,Ag,cg,hvw,mw,lw,hg0,lg,mg⟩:=h1.guards hm
 have HG:=Lib.hid hg0
 rw[hvw] at d0
 have hXl:=Lib.hid h.xlt
 have HW:=Lib.hid hw
 have HCK:Hid (∀g∈clockOf f (m:Int),isW f g.wire):=fun g hg=>(clock_ok HO.out.ok.1 HW.out g hg).1
 have HV:=Lib.hid hvw
 clear h hw hB ih hk hrt hO hlt1 hA0 h1 u1 hg0 hvw
 go_enter Try.func32,Try.ntmps32
 go_upto_region 2 with (fail)
 clear cE fE d0 d1 d2 d3 d4 d5 d6 d7 d8 d9 d10 d11 d12
 obtain ⟨d0,d1,d2,d3,d4,d5,d6,d7,d8,d9,d10,d11,d12⟩:=H1.out.cells
 rw[HV.out] at d0
 have c1:=(HG.out _ (Upd.refl _ _)).2.1
 have hs1:=U1.out.size
 have hsX:=Lib.hid (fun k hk=>Nat.lt_of_lt_of_le (hXl.out k hk) hs1)
 generalize W.setCell ⟨q.E,m,none⟩ (.bool true)=w1 at*
 generalize hclk:clockOf f (m:Int)=clk at*
 have HCL:=Lib.hid hclk
 clear hclk
 go_wp2_with fail
 go_loopw[33] (fun i wr=>∃(k:Nat) (need' cl':List Bool),k≤clk.length∧i= .int .i64 k∧Hid (FoAt f L q wr R A ds need' cl' fr)∧Hid (WAcc f R A fr need cl (m:Int) need' cl')∧Hid (∀v,nd (need.set m true) v→nd need' v)∧Hid (∀j,j<k→∀g,clk[j]? =some g→nd need' (getI R g.wire))∧Hid (Upd (foX q) w1 wr)) (fun i _=>clk.length-(intOf i).toNat)
 case atStart=>exact ⟨0,_,_,Nat.zero_le _,rfl,H1.out,HA0.out,HNE.out,fun j hj=>absurd hj (by omega),Upd.refl _ _⟩
 case round=>
  clear d0 d1 d2 d3 d4 d5 d6 d7 d8 d9 d10 d11 d12 c1
  obtain ⟨k,need',cl',hk,rfl,HF,HA,HN,HD,HU⟩:=hrel
  have hsr:=HU.out.size
  have hlb:=HF.out.bB
  by_cases hlt:k<clk.length
  ·obtain ⟨b5,off5,⟨gw,gn⟩,rfl,hb5,hg,wg,e0,e1⟩:=((HG.out _ (HU.out.mono (fun k hk=> .inl hk))).2.2).gd hlt
   have hgm:=HCK.out _ (List.mem_of_getElem? hg)
   dsimp only at e0 e1 hgm
   obtain ⟨mg',rfl⟩:=Int.eq_ofNat_of_zero_le hgm.1
   have hml:mg'<f.wires.length:=by have:=hgm.2;omega
   have hml':(mg':Int)<f.wires.length:=by omega
   have hlt':(k:Int)<clk.length:=by omega
   have hroot:=HRC.out.1 (getI R (mg':Int)) (.inl ⟨_,by rw[HCL.out];exact List.mem_of_getElem? hg,rfl⟩)
   have HROOT:=Lib.hid hroot
   have HGK:=Lib.hid hg
   have rG:=Row.new wr #[.int .i64 (mg':Int),.bool gn] 65
   have b4:Below wr.heap.size wr (wr.alloc (.cells #[.int .i64 (mg':Int),.bool gn] 65)):=bE
   have hF4:=HF.out.below b4
   have HU4:=Lib.hid (HU.out.trans (Upd.of_below b4))
   go_upto_region 5 with (fail)
   generalize wr.alloc (.cells #[.int .i64 (mg':Int),.bool gn] 65)=w4 at*
   obtain ⟨g0,g1⟩:=rG.two'
   obtain ⟨d0,d1,d2,d3,d4,d5,d6,d7,d8,d9,d10,d11,d12⟩:=hF4.cells
   have cR:=vs_cell hF4.r (n:=mg') (by rw[hF4.rl];exact hml)
   generalize hru:getI R (mg':Int)=ru at*
   have HRU:=Lib.hid hru
   have HC:=Lib.hid (HIH.out w4.drew need' cl' ru HN.out HROOT.out.1 HROOT.out.2 (hF4.below ((Below.refl _ _).drew)))
   clear hroot hg wg e0 e1 hgm hF4 hru b4
   go_still_tail 9,(by kernel_rfl)
   change wpList _ _ _ _ _ w4.drew
   go_wp2_with fail
   (with_reducible refine HC.out.mono ?_)
   rintro e w6 ⟨rfl,⟨need2,cl2,hF6,hst⟩,u6⟩
   have HST:=Lib.hid (HA.out.step (fun P hP hn=>by rw[←HRU.out];exact HRW.out P hP hn _ (.inl ⟨_,by rw[HCL.out];exact List.mem_of_getElem? HGK.out,rfl⟩)) hst)
   have HN2:=Lib.hid (fun v hv=>hst.up v (HN.out v hv))
   have HD2:Hid (∀j,j<k+1→∀g,clk[j]? =some g→nd need2 (getI R g.wire)):=upto_succ (P:=fun j=>∀g,clk[j]? =some g→nd need2 (getI R g.wire)) (fun j hj g hg=>hst.up _ (HD.out j hj g hg)) (fun g hg=>by
    rw[HGK.out] at hg
    injection hg with hg
    rw[←hg]
    show nd need2 (getI R (mg':Int))
    rw[HRU.out]
    exact HST.out.2)
   have HU6:=Lib.hid ((HU4.out.trans (Upd.of_below ((Below.refl _ _).drew))).trans u6)
   have HF6:=Lib.hid hF6
   clear hF6 hst u6 d0 d1 d2 d3 d4 d5 d6 d7 d8 d9 d10 d11 d12 cR g0 g1 HC rG
   go_wp2_with fail
   go_roundw
   case rel=>exact ⟨k+1,need2,cl2,by omega,by go_num,HF6,HST.out.1,HN2,HD2,HU6⟩
   case measure=>simp[intOf];omega
  obtain rfl:k=clk.length:=by omega
  have HGD:Hid (∀u,(∃g∈clockOf f (m:Int),u=getI R g.wire)→nd need' u):=fun u hu=>by
   obtain ⟨g,hg,rfl⟩:=hu
   rw[HCL.out] at hg
   obtain ⟨j,hj⟩:=List.getElem?_of_mem hg
   exact HD.out j (List.getElem?_eq_some_iff.1 hj).1 g hj
  obtain ⟨bA,offA,cbA,hvb,mbA,lbA,hcA⟩:=HF.out.at_ HO.out.by_ hm
  obtain ⟨d0,d1,d2,d3,d4,d5,d6,d7,d8,d9,d10,d11,d12⟩:=HF.out.cells
  rw[hvb] at d6
  have HU0:=Lib.hid (U1.out.trans HU.out)
  rcases HO.out.by_.2.2 _ HW.out with ⟨hin,hneg⟩|⟨i,x,hx,hxd,hidx⟩
  ·have hno:actAt A (m:Int)=none:=actAt_none (fun g=>by
    rw[HO.out.inv.ad] at g
    obtain ⟨x,hx,e⟩:=List.mem_map.1 g
    exact (HO.out.ok.2.2.2.2.1.2.1 x hx).2 (by rw[e];exact hin))
   have HST:=Lib.hid (HA.out.done (fun u hu=>by
    rcases hu with hu|⟨y,hy,_⟩
    ·exact HGD.out u hu
    ·rw[hno] at hy;cases hy) (fun y hy=>by rw[hno] at hy;cases hy))
   rw[hneg] at hcA
   clear hin hneg hno hvb
   go_wp2_with fail
   (try simp only[Exit.inBlock,Exit.then]);refine bodyPost_ret (results_none rfl _ _ _) rfl ?_
   exact ⟨rfl,⟨_,_,HF.out,HST.out⟩,HU0.out⟩
  obtain ⟨y,hy,hyd0,hya⟩:=act_of_idx HO.out.ok.2.2.2.2.1 HO.out.inv.ad hx
  clear hyd0
  rw[hxd] at hya
  have hil:=(List.getElem?_eq_some_iff.1 hy).1
  have hil':(i:Int)<A.length:=by omega
  obtain ⟨hvx,lx,mx⟩:=HF.out.acts hy
  rw[hvx] at d8
  obtain ⟨⟨c0,c1,c2,c3,c4,c5⟩,_⟩:=HF.out.a.six hy
  rw[hidx] at hcA
  have hyi:=HF.out.wA _ (List.mem_of_getElem? hy)
  have hfac:=HO.out.inv.ac_facts HO.out.ok HW.out hya
  obtain ⟨op,dst,a,bb,c,kk⟩:=y
  dsimp only at c0 c1 c2 c3 c4 c5 hfac
  have HYA:=Lib.hid hya
  have HFK:=Lib.hid hfac.2
  have HPT:=Lib.hid (fun W'=>parts_any (⟨op,dst,a,bb,c,kk⟩:Ac) hyi hfac.1 W')
  have rX:=Row.new wr #[.int .i64 op,.int .i64 dst,.int .i64 a,.int .i64 bb,.int .i64 c,.int .i64 kk] 50
  have b4:Below wr.heap.size wr (wr.alloc (.cells #[.int .i64 op,.int .i64 dst,.int .i64 a,.int .i64 bb,.int .i64 c,.int .i64 kk] 50)):=bE
  have HF4:=Lib.hid (HF.out.below b4)
  have HU4:=Lib.hid (HU0.out.trans (Upd.of_below b4))
  have hi0:(0:Int)≤(i:Int):=by omega
  have hXW:=hXl.out
  have hWr:W.heap.size≤wr.heap.size:=HU0.out.size
  clear hx hxd hidx hy hya hvb hvx hyi hfac HF HU
  go_upto_region 10 with (fail)
  clear c0 c1 c2 c3 c4 c5 d0 d1 d2 d3 d4 d5 d6 d7 d8 d9 d10 d11 d12 hcA
  generalize hGg:wr.heap.size=G at*
  generalize wr.alloc (.cells #[.int .i64 op,.int .i64 dst,.int .i64 a,.int .i64 bb,.int .i64 c,.int .i64 kk] 50)=w4 at*
  have HGX:Hid (∀k,foX q k→k≠G):=fun k hk e=>by have:=hXW k hk;omega
  have hs4:=HU4.out.size
  obtain ⟨e0,e1,e2,e3,e4,e5⟩:=rX.six'
  clear hXW b4 hi0
  go_wp2_with fail
  (with_reducible refine (HPT.out w4).mono ?_)
  rintro e w5 ⟨v,rfl,hv,hvo,hb5⟩
  have HF5:=Lib.hid (HF4.out.below hb5)
  have rX5:=rX.below hb5 rX.lt
  have hs5:=hb5.size
  have HU5:=Lib.hid (HU4.out.trans (Upd.of_below hb5))
  have HVL:=Lib.hid (fun W' (u:Upd (foX q) w5 W')=>sl_updX hv u (Nat.le_refl _) (fun k hk hX=>by have:=hvo k hk;have:=hXl.out k hX;omega))
  obtain ⟨Av,cv,rfl,lv,mv,_⟩:=id hv
  have mv':cv≤9223372036854775807:=by unfold maxLen at mv;omega
  have hl3:=wants_le3 (⟨op,dst,a,bb,c,kk⟩:Ac)
  clear e0 e1 e2 e3 e4 e5 hv hvo mv hb5 HF4 rX HPT
  generalize hwl:wants (⟨op,dst,a,bb,c,kk⟩:Ac)=wl at*
  have HWL:=Lib.hid hwl
  clear hwl
  have HA5:=Lib.hid HA.out
  have HN5:=Lib.hid HN.out
  have HG5:=Lib.hid HGD.out
  clear HA HN HD HGD
  go_wp2_with fail
  obtain ⟨nd5,hnd5⟩:∃x,x=need':=⟨_,rfl⟩
  go_loopw[67] (fun i wr=>∃(k:Nat) (need2 cl2:List Bool),k≤wl.length∧i= .int .i64 k∧Hid (FoAt f L q wr R A ds need2 cl2 fr)∧Hid (WAcc f R A fr need cl (m:Int) need2 cl2)∧Hid (∀v,nd need' v→nd need2 v)∧Hid (∀j,j<k→∀n,wl[j]? =some n→nd need2 n)∧Hid (Upd (foX q) w5 wr)) (fun i _=>wl.length-(intOf i).toNat)
  case atStart=>exact ⟨0,_,_,Nat.zero_le _,rfl,HF5.out,HA5.out,fun _ g=>g,fun j hj=>absurd hj (by omega),Upd.refl _ _⟩
  case round=>
   clear HF5 HA5
   obtain ⟨k,need2,cl2,hk,rfl,HF,HA,HNN,HD,HU⟩:=hrel
   have hsr:=HU.out.size
   by_cases hlt:k<wl.length
   ·obtain ⟨A',c',hA',_,_,sl⟩:=HVL.out _ HU.out
    injection hA' with hA1 _ hA3
    subst hA1;subst hA3
    obtain ⟨b6,off6,n,rfl,hb6,hn,wn,e0⟩:=sl.int hlt
    have hlt':(k:Int)<wl.length:=by omega
    have hroot:=HRC.out.1 n (.inr ⟨_,HYA.out,by rw[HWL.out];exact List.mem_of_getElem? hn⟩)
    have HNK:=Lib.hid hn
    have HC:=Lib.hid (HIH.out wr need2 cl2 n (fun v hv=>HNN.out v (HN5.out v hv)) hroot.1 hroot.2 HF.out)
    clear sl hn wn hroot
    go_wp2_with fail
    (with_reducible refine HC.out.mono ?_)
    rintro e w6 ⟨rfl,⟨need3,cl3,hF6,hst⟩,u6⟩
    have HST:=Lib.hid (HA.out.step (fun P hP hn=>HRW.out P hP hn _ (.inr ⟨_,HYA.out,by rw[HWL.out];exact List.mem_of_getElem? HNK.out⟩)) hst)
    have HN2:=Lib.hid (fun v hv=>hst.up v (HNN.out v hv))
    have HD2:Hid (∀j,j<k+1→∀n,wl[j]? =some n→nd need3 n):=upto_succ (P:=fun j=>∀n,wl[j]? =some n→nd need3 n) (fun j hj n hn=>hst.up _ (HD.out j hj n hn)) (fun n' hn'=>by
     rw[HNK.out] at hn'
     injection hn' with hn'
     rw[←hn']
     exact HST.out.2)
    have HU6:=Lib.hid (HU.out.trans u6)
    have HF6:=Lib.hid hF6
    clear hF6 hst u6 HC
    go_wp2_with fail
    go_roundw
    case rel=>exact ⟨k+1,need3,cl3,by omega,by go_num,HF6,HST.out.1,HN2,HD2,HU6⟩
    case measure=>simp[intOf];omega
   obtain rfl:k=wl.length:=by omega
   have HPD:Hid (∀u,wSucc f R A (m:Int) u→nd need2 u):=fun u hu=>by
    rcases hu with hu|⟨y,hy,hu⟩
    ·exact HNN.out u (HG5.out u hu)
    ·rw[HYA.out] at hy
     injection hy with hy
     subst hy
     rw[HWL.out] at hu
     obtain ⟨j,hj⟩:=List.getElem?_of_mem hu
     exact HD.out j (List.getElem?_eq_some_iff.1 hj).1 u hj
   have rX6:=HU.out.row rX5 (fun g=>HGX.out _ g rfl)
   have HU6:=Lib.hid (HU5.out.trans HU.out)
   obtain ⟨e0,e1,e2,e3,e4,e5⟩:=rX6.six'
   clear HD HU HVL hk hlt
   by_cases ho:op=21
   rotate_left 1
   ·have HST:=Lib.hid (HA.out.done HPD.out (fun y hy g=>by
     rw[HYA.out] at hy
     injection hy with hy
     rw[←hy] at g
     exact absurd g ho))
    have o21:(op==21)=false:=by simp[ho]
    clear ho
    go_upto_region 15 with (fail)
    go_quiet (fail)
    go_wp2_with fail
    go_end0
    exact ⟨rfl,⟨_,_,HF.out.below (below_drewN' (Below.refl _ _) _),HST.out⟩,HU6.out.drewN _⟩
   obtain ⟨mk,hmk⟩:=Int.eq_ofNat_of_zero_le (HFK.out ho).1
   have hkl:=(HFK.out ho).2
   (try dsimp only at hmk)
   subst hmk
   have hkl2:mk<f.cells.length:=by omega
   have hfw:=HO.out.from_ (mk:Int) (by omega) hkl
   obtain ⟨mf,hmf⟩:=Int.eq_ofNat_of_zero_le hfw.1
   have hmfl:mf<f.wires.length:=by have:=hfw.2;omega
   have hmfl':(mf:Int)<f.wires.length:=by omega
   have hroot:=HRC.out.2 _ HYA.out ho
   (try dsimp only at hroot)
   rw[hmf] at hroot
   have HROOT:=Lib.hid hroot
   have HMF:=Lib.hid hmf
   have HOP:=Lib.hid ho
   have o21:(op==21)=true:=by simp[ho]
   obtain ⟨d0,d1,d2,d3,d4,d5,d6,d7,d8,d9,d10,d11,d12⟩:=HF.out.cells
   have cC:=ds_cell HF.out.c (n:=mk) (by rw[HF.out.kl];exact hkl2)
   generalize hcl:bGet cl2 (mk:Int)=C0 at cC
   have HCL2:=Lib.hid hcl
   clear ho hfw hmf hroot hcl
   cases C0
   rotate_left 1
   ·have HST:=Lib.hid (HA.out.done HPD.out (fun y hy _=>by
     rw[HYA.out] at hy
     injection hy with hy
     rw[←hy]
     exact ⟨by dsimp only;omega,HCL2.out⟩))
    go_upto_region 15 with (fail)
    go_quiet (fail)
    go_wp2_with fail
    go_end0
    exact ⟨rfl,⟨_,_,HF.out.below (below_drewN' (Below.refl _ _) _),HST.out⟩,HU6.out.drewN _⟩
   go_upto_region 15 with (fail)
   go_quiet (fail)
   rename_i nq
   have HF7:=Lib.hid (HF.out.below (below_drewN' (Below.refl wr.heap.size wr) nq))
   have HU7:=Lib.hid (HU6.out.drewN nq)
   have rX7:=rX6.drewN nq
   clear d0 d1 d2 d3 d4 d5 d6 d7 d8 d9 d10 d11 d12 cC e0 e1 e2 e3 e4 e5 rX6 HF HU6 rX5
   generalize wr.drewN nq=w7 at*
   obtain ⟨e0,e1,e2,e3,e4,e5⟩:=rX7.six'
   obtain ⟨d0,d1,d2,d3,d4,d5,d6,d7,d8,d9,d10,d11,d12⟩:=HF7.out.cells
   have cC:=ds_cell HF7.out.c (n:=mk) (by rw[HF7.out.kl];exact hkl2)
   have fC:=HF7.out.c.frozen mk
   obtain ⟨h8,u8⟩:=HF7.out.setC mk
   have H8:=Lib.hid (h8.below ((Below.refl _ _).drew))
   have HU8:=Lib.hid ((HU7.out.trans (u8.mono (Y:=foX q) (fun k e=> .inr (.inr (.inr (.inr (.inl e))))))).drew)
   have rX8:=(u8.row rX7 (fun e=>HGX.out _ (.inr (.inr (.inr (.inr (.inl rfl))))) e.symm)).drew
   generalize bGet cl2 (mk:Int)=C9 at cC
   clear h8 u8
   go_wp2_with fail
   go_region
   clear d0 d1 d2 d3 d4 d5 d6 d7 d8 d9 d10 d11 d12 cC fC e0 e1 e2 e3 e4 e5 rX7
   generalize (w7.setCell ⟨q.C,mk,none⟩ (.bool true)).drew=w8 at*
   obtain ⟨e0,e1,e2,e3,e4,e5⟩:=rX8.six'
   obtain ⟨d0,d1,d2,d3,d4,d5,d6,d7,d8,d9,d10,d11,d12⟩:=H8.out.cells
   have cF:=vs_cell H8.out.fb (n:=mk) (by rw[H8.out.fl];exact hkl2)
   rw[HMF.out] at cF
   have cR:=vs_cell H8.out.r (n:=mf) (by rw[H8.out.rl];exact hmfl)
   generalize hru:getI R (mf:Int)=ru at*
   have HRU:=Lib.hid hru
   have HC:=Lib.hid (HIH.out w8.drew need2 (cl2.set mk true) ru (fun v hv=>HNN.out v (HN5.out v hv)) HROOT.out.1 HROOT.out.2 (H8.out.below ((Below.refl _ _).drew)))
   clear hru
   go_wp2_with fail
   go_still_tail 15,(by kernel_rfl)
   change wpList _ _ _ _ _ w8.drew
   go_wp2_with fail
   (with_reducible refine HC.out.mono ?_)
   rintro e w9 ⟨rfl,⟨need3,cl3,hF9,hst⟩,u9⟩
   have hst':WSt f R A fr need2 (cl2.set mk true) (getI R (getI fr (mk:Int))) need3 cl3:=by rw[HMF.out,HRU.out];exact hst
   have HAC:=Lib.hid (HA.out.cell (m:=mk) (by have:=H8.out.kl;rw[List.length_set] at this;omega) HYA.out HOP.out rfl hst')
   have HST:=Lib.hid (HAC.out.1.done (fun u hu=>hst.up u (HPD.out u hu)) (fun y hy _=>by
    rw[HYA.out] at hy
    injection hy with hy
    rw[←hy]
    exact HAC.out.2))
   have HF9:=Lib.hid hF9
   have HU9:=Lib.hid ((HU8.out.drew).trans u9)
   clear hF9 hst hst' u9
   go_wp2_with fail
   go_end0
   exact ⟨rfl,⟨_,_,HF9.out,HST.out⟩,HU9.out⟩
end
end Go.Proofs.Ytckognjamlckcaa
