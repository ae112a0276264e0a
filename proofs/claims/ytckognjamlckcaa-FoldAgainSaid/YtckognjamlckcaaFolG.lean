/-
  fold: a wire that is an act's is settled.
-/
import Derived.Test.YtckognjamlckcaaFolF
import Derived.Test.YtckognjamlckcaaRgM
namespace Go.Proofs.Ytckognjamlckcaa
open Go.RowKit Vf Fo Ar
attribute [local go_sem ↓] Go.wp_at_zero Go.wp_at_succ
section
variable {f:Fm} {L:List Int} {q:FoQ} {W w1:World} {R:List Int} {A:List Ac} {ds need cl:List Bool} {fr:List Int}
def GoOn (f:Fm) (L:List Int) (q:FoQ) (R:List Int) (ds need cl:List Bool) (fr:List Int) (S:Int→Prop) (m:Nat) (x:Ac) (k:Nat) (w:World):Prop:=∃R2 A2 ds2 S2,FoAt f L q w R2 A2 ds2 need cl fr∧PSt f (R.set m (m:Int)) (ds.set m true) S (m:Int) R2 A2 ds2 S2∧∀j,j<k→∀n,(wants x)[j]? =some n→S2 n
def SetlP (f:Fm) (L:List Int) (q:FoQ) (R:List Int) (ds need cl:List Bool) (fr:List Int) (S:Int→Prop) (n:Int) (W:World) (e:Ending) (w':World):Prop:=e= .returned (.tuple #[])∧(∃R' A' ds' S',FoAt f L q w' R' A' ds' need cl fr∧SSt f R ds S n R' A' ds' S')∧Upd (foX q) W w'
set_option maxRecDepth 100000 in
set_option maxHeartbeats 32000000 in
theorem settle_act (hf:formOk f) (hL:ByL f L) (x:Ac) (hx:x∈f.acts) (hp:∀n∈wants x,SetlC f L q n):SetlC f L q x.dst:=by
 intro W R A ds need cl fr S h hI hsd hS
 show Calls _ _ _ _ (SetlP f L q R ds need cl fr S x.dst W)
 have hd:=hf.2.2.2.2.1
 have hw:=(hd.2.1 x hx).1
 have hok:=hf.2.2.2.2.2.1 x hx
 obtain ⟨i,hi⟩:=List.getElem?_of_mem hx
 obtain ⟨m,hm0⟩:=Int.eq_ofNat_of_zero_le hw.1
 rw[hm0] at hw hS⊢
 have hm:m<f.wires.length:=by have:=hw.2;omega
 have hm':(m:Int)<f.wires.length:=by omega
 obtain ⟨b,off,cb,hvb,mb,lb,hc⟩:=h.at_ hL hm
 obtain ⟨d0,d1,d2,d3,d4,d5,d6,d7,d8,d9,d10,d11,d12⟩:=h.cells
 have cN:=ds_cell h.n (n:=m) (by rw[h.nl];exact hm)
 rw[hvb] at d6
 have HH:=Lib.hid h
 generalize hB:bGet ds (m:Int)=B0 at cN
 cases B0
 rotate_left 1
 ·have HST:=Lib.hid (SSt.same (w:=(m:Int)) hI (hS _ hw hB (Nat.le_refl _)) hsd)
  clear h hI hsd hS hf hL hx hw hvb hB hp hok hd hi
  go_enter Try.func31,Try.ntmps31
  go_wp2_with fail
  (try simp only[Exit.inBlock,Exit.then]);refine bodyPost_ret (results_none rfl _ _ _) rfl ?_
  exact ⟨rfl,⟨_,_,_,_,HH.out,HST.out⟩,Upd.refl _ _⟩
 have hns:¬S (m:Int):=fun g=>by rw[hsd _ g] at hB;cases hB
 have hidx:getI L (m:Int)=(i:Nat):=by
  rcases hL.2.2 _ hw with ⟨e,_⟩|⟨j,y,hy,hyd,e⟩
  ·exact absurd (by rw[hm0];exact e) (hd.2.1 x hx).2
  ·rcases Nat.lt_trichotomy i j with g|g|g
   ·exact absurd (hm0.trans hyd.symm) (hd.2.2.1 i j x y g hi hy)
   ·rw[e,g]
   ·exact absurd (hyd.trans hm0.symm) (hd.2.2.1 j i y x g hy hi)
 have hAi:A[i]? =some x:=by
  obtain ⟨y,hy,_,hya⟩:=act_of_idx hd hI.ad hi
  have:=hI.old x hx (by rw[hm0];exact hns)
  rw[hya] at this
  rw[hy,this]
 have hst:=PSt.start hf hI hw hns hsd
 have hil:=(List.getElem?_eq_some_iff.1 hAi).1
 have hil':(i:Int)<A.length:=by omega
 obtain ⟨hvx,lx,mx⟩:=h.acts hAi
 have hAL:A.length=f.acts.length:=h.al
 obtain ⟨⟨c0,c1,c2,c3,c4,c5⟩,_⟩:=h.a.six hAi
 have hXl:=h.xlt
 have fN:=h.n.frozen m
 have fR:=h.r.frozen m
 have cR:=vs_cell h.r (n:=m) (by rw[h.rl];exact hm)
 obtain ⟨h1,u1⟩:=h.setN m
 obtain ⟨h2,u2⟩:=h1.setR m (x:=(m:Int)) (wf_of (by have:=hf.1.2.2;omega))
 have U2:=Lib.hid ((u1.mono (Y:=foX q) (fun k e=> .inr (.inr (.inl e)))).trans (u2.mono (fun k e=> .inl e)))
 obtain ⟨⟨_,nRN,_⟩,_⟩:=h.nes
 have nRN':=Ne.symm nRN
 rw[hvx] at d8
 have HXL:=Lib.hid hXl
 have HWX:=Lib.hid (fun (W':World)=>parts_any x (h.wA x (List.mem_of_getElem? hAi)) hok.2.2.2.1 W')
 have HDN:Hid (∀R2 A2 ds2 S2,PSt f (R.set m (m:Int)) (ds.set m true) S (m:Int) R2 A2 ds2 S2→(∀n∈wants x,S2 n)→SSt f R ds S (m:Int) (finF f R2 A2 i x).1 (finF f R2 A2 i x).2 ds2 (fun v=>S2 v∨v=m)):=fun R2 A2 ds2 S2 g g2=>
  PSt.done hf g (by rw[h.nl];exact hm) (by rw[h.rl];exact hm) hns hi hm0 g2
 have HPC:Hid (∀n∈wants x,∀W R2 A2 ds2 S2,FoAt f L q W R2 A2 ds2 need cl fr→PSt f (R.set m (m:Int)) (ds.set m true) S (m:Int) R2 A2 ds2 S2→Calls Try.prog 31 #[.pointer (some ⟨q.D,0,none⟩),.int .i64 n] W fun e w'=>e= .returned (.tuple #[])∧(∃R' A' ds' S',FoAt f L q w' R' A' ds' need cl fr∧PSt f (R.set m (m:Int)) (ds.set m true) S (m:Int) R' A' ds' S'∧S' n∧∀v,S2 v→S' v)∧Upd (foX q) W w'):=fun n hn W2 R2 A2 ds2 S2 g g2=>by
  have hr:=(rk_part hf hx).1 n hn
  rw[hm0] at hr
  refine (hp n hn W2 R2 A2 ds2 need cl fr S2 g g2.inv g2.sd (g2.pre hS hr)).mono ?_
  rintro e w' ⟨e1,⟨R',A',ds',S',e2,e3⟩,e4⟩
  exact ⟨e1,⟨R',A',ds',S',e2,g2.step hr e3,e3.me,e3.sub⟩,e4⟩
 have HST:=Lib.hid hst
 have HNS:=Lib.hid hns
 have HOK:=Lib.hid hf
 have HBL:=Lib.hid hL
 have HX0:=Lib.hid hx
 have HI0:=Lib.hid hi
 have HM0:=Lib.hid hm0
 have HAO:=Lib.hid hok
 have HK:Hid (∀W',W'=(W.setCell ⟨q.N,m,none⟩ (.bool true)).setCell ⟨q.R,m,none⟩ (.int .i64 (m:Int))→FoAt f L q W' (R.set m (m:Int)) A (ds.set m true) need cl fr∧W'.cell? ⟨q.D,6,none⟩=some (.slice (some ⟨b,off,none⟩) f.wires.length cb)∧W'.cell? ⟨b,off+m,none⟩=some (.int .i64 i)∧W'.cell? ⟨q.D,8,none⟩=some (.slice (some ⟨q.A,0,none⟩) A.length q.cap)):=fun W' e=>by
  obtain ⟨b',off',cb',hvb',_,_,hc'⟩:=h2.at_ hL hm
  rw[hvb] at hvb'
  injection hvb' with q1 _ q3
  injection q1 with q1
  injection q1 with q4 q5
  subst q3;subst q4;subst q5
  obtain ⟨_,_,_,_,_,_,d6',_,d8',_⟩:=h2.cells
  rw[hvb] at d6'
  rw[hvx] at d8'
  rw[hidx] at hc'
  rw[e]
  exact ⟨h2,d6',hc',d8'⟩
 have hi0:(0:Int)≤(i:Int):=by omega
 have HAI:=Lib.hid hAi
 clear h hI hsd hS hf hL hx hw hvb hB hns h1 h2 u1 u2 hd hok hi hm0 hidx hAi hst hvx c0 c1 c2 c3 c4 c5 hp hXl hAL
 obtain ⟨op,dst,a,bb,c,kk⟩:=x
 go_enter Try.func31,Try.ntmps31
 go_wp2_with fail
 go_region
 obtain ⟨hF2,k6,k7,k8⟩:=HK.out _ rfl
 clear d0 d1 d2 d3 d4 d5 d6 d7 d8 d9 d10 d11 d12 cN hc fN fR cR HK
 have U2s:=Lib.hid U2.out.size
 generalize (W.setCell ⟨q.N,m,none⟩ (.bool true)).setCell ⟨q.R,m,none⟩ (.int .i64 (m:Int))=w2 at*
 obtain ⟨⟨c0,c1,c2,c3,c4,c5⟩,_⟩:=hF2.a.six HAI.out
 dsimp only at c0 c1 c2 c3 c4 c5
 have b3:Below w2.heap.size w2 ((w2.alloc (.cells #[.int .i64 op,.int .i64 dst,.int .i64 a,.int .i64 bb,.int .i64 c,.int .i64 kk] 50)).drew):=bE
 have rX:Row ((w2.alloc (.cells #[.int .i64 op,.int .i64 dst,.int .i64 a,.int .i64 bb,.int .i64 c,.int .i64 kk] 50)).drew) w2.heap.size #[.int .i64 op,.int .i64 dst,.int .i64 a,.int .i64 bb,.int .i64 c,.int .i64 kk] 50:=(Row.new w2 _ _).drew
 have hF3:=hF2.below b3
 have U3:=Lib.hid (U2.out.trans (Upd.of_below b3))
 have hGB:=hF2.bB
 go_upto_region 5 with (fail)
 clear c0 c1 c2 c3 c4 c5 k6 k7 k8 b3 hF2
 generalize (w2.alloc (.cells #[.int .i64 op,.int .i64 dst,.int .i64 a,.int .i64 bb,.int .i64 c,.int .i64 kk] 50)).drew=w3 at*
 generalize w2.heap.size=G at*
 have HG:Hid (∀k,foX q k→k≠G):=fun k hk e=>by have:=HXL.out k hk;have:=U2s.out;omega
 have hWG:=U2s.out
 have hs3:=U3.out.size
 obtain ⟨e0,e1,e2,e3,e4,e5⟩:=rX.six'
 clear hi0
 go_wp2_with fail
 (with_reducible refine (HWX.out w3).mono ?_)
 rintro e w4 ⟨v,rfl,hv,hvo,hb4⟩
 have hF4:=Lib.hid (hF3.below hb4)
 have rX4:=rX.below hb4 rX.lt
 have hs4:=hb4.size
 have U4:=Lib.hid (U3.out.trans (Upd.of_below hb4))
 have HV:=Lib.hid (fun W' (u:Upd (foX q) w4 W')=>sl_updX hv u (Nat.le_refl _) (fun k hk hX=>by have:=hvo k hk;have:=HXL.out k hX;omega))
 obtain ⟨Av,cv,rfl,lv,mv,_⟩:=id hv
 have mv':cv≤9223372036854775807:=by unfold maxLen at mv;omega
 have hl3:=wants_le3 (⟨op,dst,a,bb,c,kk⟩:Ac)
 have HLU:=Lib.hid (wants_len HAO.out.2.2.2.1)
 clear e0 e1 e2 e3 e4 e5 hv hvo mv hb4 hF3 rX
 generalize hwl:wants ⟨op,dst,a,bb,c,kk⟩=wl at*
 have HWL:=Lib.hid hwl
 clear hwl
 go_wp2_with fail
 go_loopw[52] (fun i wr=>∃k:Nat,k≤wl.length∧i= .int .i64 k∧Hid (GoOn f L q R ds need cl fr S m ⟨op,dst,a,bb,c,kk⟩ k wr)∧Hid (Upd (foX q) w4 wr)) (fun i _=>wl.length-(intOf i).toNat)
 case atStart=>exact ⟨0,Nat.zero_le _,rfl,⟨_,_,_,_,hF4.out,HST.out,fun j hj=>absurd hj (by omega)⟩,Upd.refl _ _⟩
 case round=>
  obtain ⟨k,hk,rfl,HGO,HU⟩:=hrel
  by_cases hlt:k<wl.length
  ·obtain ⟨A',c',hA',_,_,sl⟩:=HV.out _ HU.out
   injection hA' with hA1 _ hA3
   subst hA1;subst hA3
   obtain ⟨b5,off5,n,rfl,hb5,hn,wn,e0⟩:=sl.int hlt
   obtain ⟨R2,A2,ds2,S2,hF5,hPS,hall⟩:=HGO.out
   have HC:=Lib.hid (HPC.out n (List.mem_of_getElem? hn) wr R2 A2 ds2 S2 hF5 hPS)
   have HN:=Lib.hid hn
   have HALL:=Lib.hid hall
   have hlt':(k:Int)<wl.length:=by omega
   clear sl hn wn hF5 hPS hall
   go_wp2_with fail
   (with_reducible refine HC.out.mono ?_)
   rintro e w6 ⟨rfl,⟨R3,A3,ds3,S3,hF6,hPS6,hme,hsub⟩,u6⟩
   have HGO':Hid (GoOn f L q R ds need cl fr S m ⟨op,dst,a,bb,c,kk⟩ (k+1) w6):=⟨R3,A3,ds3,S3,hF6,hPS6,fun j hj n' hn'=>by
    rw[HWL.out] at hn'
    rcases Nat.lt_or_ge j k with g|g
    ·exact hsub _ (HALL.out j g n' (by rw[HWL.out];exact hn'))
    ·obtain rfl:j=k:=by omega
     rw[HN.out] at hn'
     injection hn' with hn'
     rw[←hn']
     exact hme⟩
   have HU':=Lib.hid (HU.out.trans u6)
   clear hF6 hPS6 hme hsub u6 HC
   go_wp2_with fail
   go_roundw
   case rel=>exact ⟨k+1,by omega,by go_num,HGO',HU'⟩
   case measure=>simp[intOf];omega
  obtain rfl:k=wl.length:=by omega
  obtain ⟨R2,A2,ds2,S2,hF5,hPS,hall⟩:=HGO.out
  have hall':∀n∈wl,S2 n:=fun n hn=>by
   obtain ⟨j,hj⟩:=List.getElem?_of_mem hn
   exact hall j (List.getElem?_eq_some_iff.1 hj).1 n (by rw[HWL.out];exact hj)
  have HSS:=Lib.hid (HDN.out R2 A2 ds2 S2 hPS hall')
  have HPS:=Lib.hid hPS
  have HALL:Hid (∀n∈wants (⟨op,dst,a,bb,c,kk⟩:Ac),S2 n):=by rw[HWL.out];exact hall'
  have HF5:=Lib.hid hF5
  have rX5:=HU.out.row rX4 (fun g=>HG.out _ g rfl)
  have U5:=Lib.hid (U4.out.trans HU.out)
  have hs5:=HU.out.size
  obtain ⟨e0,e1,e2,e3,e4,e5⟩:=rX5.six'
  clear hF5 hPS hall hall' rX4 HGO HU HV HDN HPC HST hlt hk
  by_cases hu:uses op≤0
  ·have hl0:wl.length=0:=by have:=HLU.out;omega
   have HE:Hid (finF f R2 A2 i ⟨op,dst,a,bb,c,kk⟩=(R2,A2)):=fin_const hu
   have ho:op=1∨op=2∨op=21:=by
    have:=uses_cases HAO.out.2.2.2.1
    dsimp only at this
    unfold uses at hu
    split at hu
    ·assumption
    ·split at hu
     ·omega
     ·split at hu
      ·omega
      ·split at hu<;>omega
   have o3:(op==3)=false:=by rw[beq_eq_false_iff_ne];omega
   have o27:(op==27)=false:=by rw[beq_eq_false_iff_ne];omega
   have o24:(op==24)=false:=by rw[beq_eq_false_iff_ne];omega
   have os:signB op=false:=by unfold signB;simp;omega
   have HSG:=Lib.hid (fun W=>sign_any op W)
   rw[os] at HSG
   clear hu ho os
   go_wp2_with fail
   (with_reducible refine (HWX.out _).mono ?_)
   rintro e w6 ⟨v6,rfl,hv6,_,hb6⟩
   rw[HWL.out] at hv6
   obtain ⟨A6,c6,rfl,l6,m6,_⟩:=hv6
   have m6':c6≤9223372036854775807:=by unfold maxLen at m6;omega
   have rX6:=rX5.below hb6 rX5.lt
   have HF6:=Lib.hid (HF5.out.below hb6)
   have U6:=Lib.hid (U5.out.trans (Upd.of_below hb6))
   clear e0 e1 e2 e3 e4 e5 hb6 m6 rX5
   obtain ⟨e0,e1,e2,e3,e4,e5⟩:=rX6.six'
   have hz:decide (0<wl.length)=false:=by simp[hl0]
   clear hl0
   go_wp2_with fail
   (with_reducible refine (HSG.out _).mono ?_)
   rintro e _ ⟨rfl,rfl⟩
   go_wp2_with fail
   go_end0
   exact ⟨rfl,⟨_,_,_,_,HF6.out,by have:=HSS.out;rw[HE.out] at this;exact this⟩,U6.out⟩
  have hu1:1≤uses op:=by omega
  have hz:decide (0<wl.length)=true:=by have:=HLU.out;simp;omega
  clear hu
  go_wp2_with fail
  (with_reducible refine (HWX.out _).mono ?_)
  rintro e w6 ⟨v6,rfl,hv6,_,hb6⟩
  rw[HWL.out] at hv6
  obtain ⟨A6,c6,rfl,l6,m6,_⟩:=hv6
  have m6':c6≤9223372036854775807:=by unfold maxLen at m6;omega
  have rX6:=rX5.below hb6 rX5.lt
  have hF6:=HF5.out.below hb6
  have U6:=Lib.hid (U5.out.trans (Upd.of_below hb6))
  have hs6:=hb6.size
  clear e0 e1 e2 e3 e4 e5 hb6 m6 rX5
  obtain ⟨e0,e1,e2,e3,e4,e5⟩:=rX6.six'
  obtain ⟨ma,ha⟩:=Int.eq_ofNat_of_zero_le HAO.out.1.1
  obtain ⟨mb',hb⟩:=Int.eq_ofNat_of_zero_le HAO.out.2.1.1
  obtain ⟨mc,hc⟩:=Int.eq_ofNat_of_zero_le HAO.out.2.2.1.1
  dsimp only at ha hb hc
  subst ha;subst hb;subst hc
  have la:ma<f.wires.length:=by have:=HAO.out.1.2;dsimp only at this;omega
  have lb':mb'<f.wires.length:=by have:=HAO.out.2.1.2;dsimp only at this;omega
  have lc:mc<f.wires.length:=by have:=HAO.out.2.2.1.2;dsimp only at this;omega
  have la':(ma:Int)<f.wires.length:=by omega
  have lb2:(mb':Int)<f.wires.length:=by omega
  have lc':(mc:Int)<f.wires.length:=by omega
  obtain ⟨d0,d1,d2,d3,d4,d5,d6,d7,d8,d9,d10,d11,d12⟩:=hF6.cells
  have ca:=vs_cell hF6.r (n:=ma) (by rw[hF6.rl];exact la)
  have cb':=vs_cell hF6.r (n:=mb') (by rw[hF6.rl];exact lb')
  have cc:=vs_cell hF6.r (n:=mc) (by rw[hF6.rl];exact lc)
  have HRA:Hid (isW f (getI R2 (ma:Int))):=by
   have:=HPS.out.inv.rt HOK.out (HALL.out (ma:Int) (wants_a hu1))
   exact HPS.out.inv.sw _ this.1
  have wR:∀n:Nat,Wf (getI R2 (n:Int)):=fun n=>by
   unfold getI
   rw[List.getD_eq_getElem?_getD]
   cases hq:R2[((n:Int)).toNat]? with
   |none=>exact wf_of (by simp)
   |some y=>exact hF6.wR y (List.mem_of_getElem? hq)
  have wra:=wR ma
  have wrb:=wR mb'
  have wrc:=wR mc
  have HRAW:Hid (rawAc R2 ⟨op,dst,(ma:Int),(mb':Int),(mc:Int),kk⟩=⟨op,dst,getI R2 (ma:Int),getI R2 (mb':Int),getI R2 (mc:Int),kk⟩):=rfl
  have HA2:=Lib.hid (HPS.out.orig HOK.out HNS.out HI0.out HM0.out)
  have hAX:=hF6.wA _ (List.mem_of_getElem? HA2.out)
  have HU1:=Lib.hid hu1
  have hul:0≤uses op:=by omega
  have HZ0:Hid (onlyAc (rawAc R2 (⟨op,dst,(ma:Int),(mb':Int),(mc:Int),kk⟩:Ac))=rootAc R2 (⟨op,dst,(ma:Int),(mb':Int),(mc:Int),kk⟩:Ac)):=(root_raw (R:=R2) (x:=(⟨op,dst,(ma:Int),(mb':Int),(mc:Int),kk⟩:Ac)) hu1).symm
  rw[HRAW.out] at HZ0
  have HRB:Hid (2≤uses op→isW f (getI R2 (mb':Int))):=fun g=>by
   have:=HPS.out.inv.rt HOK.out (HALL.out (mb':Int) (wants_b g))
   exact HPS.out.inv.sw _ this.1
  generalize hra:getI R2 (ma:Int)=ra at*
  generalize hrb:getI R2 (mb':Int)=rb at*
  generalize hrc:getI R2 (mc:Int)=rc at*
  have HGA:=Lib.hid hra
  have HGB':=Lib.hid hrb
  have HGC:=Lib.hid hrc
  clear hra hrb hrc
  have hyin:AcIn (⟨op,dst,ra,rb,rc,kk⟩:Ac):=⟨hAX.op,hAX.dst,wra,wrb,wrc,hAX.k⟩
  have HYI:=Lib.hid hyin
  have HZI:=Lib.hid (only_in hyin)
  have HONL:=Lib.hid (fun W'=>only_any (.pointer (some ⟨q.D,0,none⟩)) (⟨op,dst,ra,rb,rc,kk⟩:Ac) hyin hul W')
  rw[HZ0.out] at HZI HONL
  have HZD:=Lib.hid (rootAc_dst R2 (⟨op,dst,(ma:Int),(mb':Int),(mc:Int),kk⟩:Ac))
  obtain ⟨z,hz0⟩:∃z,rootAc R2 (⟨op,dst,(ma:Int),(mb':Int),(mc:Int),kk⟩:Ac)=z:=⟨_,rfl⟩
  have HZ:=Lib.hid hz0
  rw[hz0] at HZI HONL HZD
  obtain ⟨hvx2,lx2,mx2⟩:=hF6.acts HA2.out
  rw[hvx2] at d8
  have hil2:=(List.getElem?_eq_some_iff.1 HA2.out).1
  have hil2':(i:Int)<A2.length:=by omega
  have zX:=fun i=>rX6.frozen i
  have z2:=zX 2
  have z3:=zX 3
  have z4:=zX 4
  have nRG:q.R≠G:=HG.out _ (.inl rfl)
  have nDG:q.D≠G:=by have:=hF6.db;omega
  have HF6:=Lib.hid hF6
  have HR6:=Lib.hid rX6
  clear zX hF6 hz0 hyin hAX hvx2 wR wra wrb wrc HRAW HZ0 hu1 hul rX6
  go_wp2_with fail
  go_cut[] (fun W=>Row W G #[.int .i64 op,.int .i64 dst,.int .i64 ra,.int .i64 rb,.int .i64 rc,.int .i64 kk] 50∧Upd (fun k=>k=G) w6 W)
  case first=>
   have HX2:=Lib.hid (HR6.out.set 2 (.int .i64 ra))
   have HX3:=Lib.hid (HX2.out.set 3 (.int .i64 rb))
   have HX4:=Lib.hid (HX3.out.set 4 (.int .i64 rc))
   have HU2:=Lib.hid (Upd.setCell (X:=fun k=>k=G) (p:=⟨G,2,none⟩) (Upd.refl _ w6) rfl (.int .i64 ra))
   have HU3:=Lib.hid (Upd.setCell (X:=fun k=>k=G) (p:=⟨G,3,none⟩) HU2.out rfl (.int .i64 rb))
   have HU4:=Lib.hid (Upd.setCell (X:=fun k=>k=G) (p:=⟨G,4,none⟩) HU3.out rfl (.int .i64 rc))
   have HS0:Hid (∀(W:World) (x2 x3 x4:Value),Upd (fun k=>k=G) w6 W→Row W G #[.int .i64 op,.int .i64 dst,x2,x3,x4,.int .i64 kk] 50→W.cell? ⟨q.D,7,none⟩=some (.slice (some ⟨q.R,0,none⟩) f.wires.length f.wires.length)∧W.cell? ⟨q.R,ma,none⟩=some (.int .i64 ra)∧W.cell? ⟨q.R,mb',none⟩=some (.int .i64 rb)∧W.cell? ⟨q.R,mc,none⟩=some (.int .i64 rc)∧(W.cell? ⟨G,2,none⟩).isSome=true∧(W.cell? ⟨G,3,none⟩).isSome=true∧(W.cell? ⟨G,4,none⟩).isSome=true∧W.frozen? ⟨G,2,none⟩=false∧W.frozen? ⟨G,3,none⟩=false∧W.frozen? ⟨G,4,none⟩=false):=fun W x2 x3 x4 u r=>by
    have hc:∀p:Addr,p.block≠G→(∃v,w6.cell? p=some v)→W.cell? p=w6.cell? p:=fun p hp ⟨v,hv⟩=>World.cell?_of_block (u.block p.block (World.block_lt_of_cell? w6 p hv) hp)
    obtain ⟨_,_,r2,r3,r4,_⟩:=r.six'
    exact ⟨(hc _ nDG ⟨_,d7⟩).trans d7,(hc _ nRG ⟨_,ca⟩).trans ca,(hc _ nRG ⟨_,cb'⟩).trans cb',(hc _ nRG ⟨_,cc⟩).trans cc,by rw[r2];rfl,by rw[r3];rfl,by rw[r4];rfl,r.frozen 2,r.frozen 3,r.frozen 4⟩
   clear HH HXL HWX HNS HOK HBL HX0 HI0 HM0 HAO HAI U2 U2s HG U3 U4 U5 U6 HLU HWL HSS HPS HALL HF5 HRA HRB HGA HGB' HGC HA2 HU1 HYI HZI HONL HZD HZ HF6 d0 d1 d2 d3 d4 d5 d6 d8 d9 d10 d11 d12
   refine wp_region_M [25,27,29] (S0:=fun W=>W.cell? ⟨q.D,7,none⟩=some (.slice (some ⟨q.R,0,none⟩) f.wires.length f.wires.length)∧W.cell? ⟨q.R,ma,none⟩=some (.int .i64 ra)∧W.cell? ⟨q.R,mb',none⟩=some (.int .i64 rb)∧W.cell? ⟨q.R,mc,none⟩=some (.int .i64 rc)∧(W.cell? ⟨G,2,none⟩).isSome=true∧(W.cell? ⟨G,3,none⟩).isSome=true∧(W.cell? ⟨G,4,none⟩).isSome=true∧W.frozen? ⟨G,2,none⟩=false∧W.frozen? ⟨G,3,none⟩=false∧W.frozen? ⟨G,4,none⟩=false) (S1:=fun W=>W.cell? ⟨G,2,none⟩=some (.int .i64 (ma:Int))∧W.cell? ⟨G,3,none⟩=some (.int .i64 (mb':Int))∧W.cell? ⟨G,4,none⟩=some (.int .i64 (mc:Int))) (by kernel_rfl) ⟨?_,?_⟩ (fun hHeld=>?_)
   ·(try dsimp only);(first|exact HS0.out _ _ _ _ (Upd.refl _ _).drew HR6.out.drew|simp[*])
   ·(try dsimp only);(first|exact HS0.out _ _ _ _ (Upd.refl _ _).drew HR6.out.drew|simp[*])
   refine tkB 0 (some 64) rfl ?_
   refine tkB 1 (some 65) rfl ?_
   refine tkB 2 (some 66) rfl ?_
   refine tkB 3 (some 67) rfl ?_
   refine tkB 4 (some 68) rfl ?_
   refine tkN 5 (some 69) rfl ?_
   refine tkB 6 (some 70) rfl ?_
   refine tkB 7 (some 71) rfl ?_
   refine tkB 8 (some 72) rfl ?_
   refine tkB 9 (some 73) rfl ?_
   refine tkB 10 (some 74) rfl ?_
   refine tkB 11 (some 75) rfl ?_
   refine tkB 12 (some 76) rfl ?_
   refine tkN 13 (some 77) rfl ?_
   refine tkB 14 (some 78) rfl ?_
   refine tkB 15 (some 79) rfl ?_
   refine tkB 16 (some 80) rfl ?_
   refine tkB 17 (some 81) rfl ?_
   refine tkB 18 (some 82) rfl ?_
   refine tkB 19 (some 83) rfl ?_
   refine tkB 20 (some 84) rfl ?_
   refine tkN 21 (some 85) rfl ?_
   refine tkB 22 (some 86) rfl ?_
   refine tkB 23 (some 87) rfl ?_
   refine tkB 24 (some 88) rfl ?_
   refine rdM 25 none rfl (fun KK hKK=>?_)
   go_simp
   refine hKK.out _ _ ?_ (fun hHeld=>?_)
   ·(try dsimp only);(first|exact HS0.out _ _ _ _ HU2.out.drew HX2.out.drew|exact HS0.out _ _ _ _ HU3.out.drew HX3.out.drew|exact HS0.out _ _ _ _ HU4.out.drew HX4.out.drew)
   clear hKK KK
   try simp only[Act.put,List.setIfInBounds_toArray,List.set_cons_zero,List.set_cons_succ]
   refine tkA 26 (some 89) rfl ?_
   refine rdM 27 none rfl (fun KK hKK=>?_)
   go_simp
   refine hKK.out _ _ ?_ (fun hHeld=>?_)
   ·(try dsimp only);(first|exact HS0.out _ _ _ _ HU2.out.drew HX2.out.drew|exact HS0.out _ _ _ _ HU3.out.drew HX3.out.drew|exact HS0.out _ _ _ _ HU4.out.drew HX4.out.drew)
   clear hKK KK
   try simp only[Act.put,List.setIfInBounds_toArray,List.set_cons_zero,List.set_cons_succ]
   refine tkA 28 (some 90) rfl ?_
   refine rdM 29 none rfl (fun KK hKK=>?_)
   go_simp
   refine hKK.out _ _ ?_ (fun hHeld=>?_)
   ·(try dsimp only);(first|exact HS0.out _ _ _ _ HU2.out.drew HX2.out.drew|exact HS0.out _ _ _ _ HU3.out.drew HX3.out.drew|exact HS0.out _ _ _ _ HU4.out.drew HX4.out.drew)
   clear hKK KK
   try simp only[Act.put,List.setIfInBounds_toArray,List.set_cons_zero,List.set_cons_succ]
   refine wpAnyM_done (by kernel_rfl) ?_ _
   go_wp2_with fail
   go_meet
   exact ⟨HX4.out.drew,HU4.out.drew⟩
  case rest=>
  obtain ⟨rX7,u7⟩:=hcut
  have hs7:=u7.size
  have HF7:=Lib.hid (HF6.out.box (u7.mono (fun k e=>by rw[e];exact hGB)))
  have HU7:Hid (Upd (foX q) W wc):=U6.out.trans_new u7 (fun k hk e=>by omega)
  have hAG:q.A≠G:=HG.out _ (.inr (.inl rfl))
  have HX7:=Lib.hid rX7
  clear d0 d1 d2 d3 d4 d5 d6 d7 d8 d9 d10 d11 d12 ca cb' cc e0 e1 e2 e3 e4 e5 z2 z3 z4 u7 HF6 HR6 U6 rX7
  have HS7:Hid (∀W,Below wc.heap.size wc W→W.cell? ⟨q.D,8,none⟩=some (.slice (some ⟨q.A,0,none⟩) A2.length q.cap)∧W.cell? ⟨G,0,none⟩=some (.int .i64 op)∧W.cell? ⟨G,1,none⟩=some (.int .i64 dst)∧W.cell? ⟨G,2,none⟩=some (.int .i64 ra)∧W.cell? ⟨G,3,none⟩=some (.int .i64 rb)∧W.cell? ⟨G,4,none⟩=some (.int .i64 rc)∧W.cell? ⟨G,5,none⟩=some (.int .i64 kk)):=fun W hW=>by
   have h8:=HF7.out.below hW
   obtain ⟨hvx,_⟩:=h8.acts HA2.out
   obtain ⟨_,_,_,_,_,_,_,_,d8,_⟩:=h8.cells
   rw[hvx] at d8
   exact ⟨d8,(HX7.out.below hW HX7.out.lt).six'⟩
  obtain ⟨d8,e0,e1,e2,e3,e4,e5⟩:=HS7.out wc (Below.refl _ _)
  go_upto_region 12 with (fail)
  refine wp_region_held_drew (S:=fun W=>W.cell? ⟨q.D,8,none⟩=some (.slice (some ⟨q.A,0,none⟩) A2.length q.cap)∧W.cell? ⟨G,0,none⟩=some (.int .i64 op)∧W.cell? ⟨G,1,none⟩=some (.int .i64 dst)∧W.cell? ⟨G,2,none⟩=some (.int .i64 ra)∧W.cell? ⟨G,3,none⟩=some (.int .i64 rb)∧W.cell? ⟨G,4,none⟩=some (.int .i64 rc)∧W.cell? ⟨G,5,none⟩=some (.int .i64 kk)) (by kernel_rfl) ?_ (fun hHeld=>?_)
  ·(try dsimp only);(first|(with_reducible exact HS7.out _ hb78)|(with_reducible exact HS8.out)|(with_reducible exact HS7.out _ bE))
  refine tk 0 (some 91) rfl ?_
  refine tk 1 (some 92) rfl ?_
  refine tk 2 (some 93) rfl ?_
  refine tk 3 (some 94) rfl ?_
  refine tk 4 (some 95) rfl ?_
  refine tk 5 (some 96) rfl ?_
  refine tk 6 (some 97) rfl ?_
  refine rd1 7 (some 98) rfl (fun KK hKK=>?_)
  go_simp
  go_at_call 56;refine Calls.mono (HONL.out _) ?_;rintro e w8 ⟨rfl,hb8⟩;(have hb78:Below wc.heap.size wc w8:=Below.trans bE (hb8.mono lE));(obtain ⟨⟨q0,q1,q2,q3,q4,q5⟩,z0,z1,z2,z3,z4,z5⟩:=(HF7.out.below hb78).a.six HA2.out);(obtain ⟨h9,u9⟩:=(HF7.out.below hb78).setA (i:=i) hil2 HZI.out);(have HS8:Hid (((((((w8.setCell ⟨q.A,i*6,none⟩ (.int .i64 z.op)).setCell ⟨q.A,i*6+1,none⟩ (.int .i64 z.dst)).setCell ⟨q.A,i*6+2,none⟩ (.int .i64 z.a)).setCell ⟨q.A,i*6+3,none⟩ (.int .i64 z.b)).setCell ⟨q.A,i*6+4,none⟩ (.int .i64 z.c)).setCell ⟨q.A,i*6+5,none⟩ (.int .i64 z.k)).cell? ⟨q.D,8,none⟩=some (.slice (some ⟨q.A,0,none⟩) A2.length q.cap)∧((((((w8.setCell ⟨q.A,i*6,none⟩ (.int .i64 z.op)).setCell ⟨q.A,i*6+1,none⟩ (.int .i64 z.dst)).setCell ⟨q.A,i*6+2,none⟩ (.int .i64 z.a)).setCell ⟨q.A,i*6+3,none⟩ (.int .i64 z.b)).setCell ⟨q.A,i*6+4,none⟩ (.int .i64 z.c)).setCell ⟨q.A,i*6+5,none⟩ (.int .i64 z.k)).cell? ⟨G,0,none⟩=some (.int .i64 op)∧((((((w8.setCell ⟨q.A,i*6,none⟩ (.int .i64 z.op)).setCell ⟨q.A,i*6+1,none⟩ (.int .i64 z.dst)).setCell ⟨q.A,i*6+2,none⟩ (.int .i64 z.a)).setCell ⟨q.A,i*6+3,none⟩ (.int .i64 z.b)).setCell ⟨q.A,i*6+4,none⟩ (.int .i64 z.c)).setCell ⟨q.A,i*6+5,none⟩ (.int .i64 z.k)).cell? ⟨G,1,none⟩=some (.int .i64 dst)∧((((((w8.setCell ⟨q.A,i*6,none⟩ (.int .i64 z.op)).setCell ⟨q.A,i*6+1,none⟩ (.int .i64 z.dst)).setCell ⟨q.A,i*6+2,none⟩ (.int .i64 z.a)).setCell ⟨q.A,i*6+3,none⟩ (.int .i64 z.b)).setCell ⟨q.A,i*6+4,none⟩ (.int .i64 z.c)).setCell ⟨q.A,i*6+5,none⟩ (.int .i64 z.k)).cell? ⟨G,2,none⟩=some (.int .i64 ra)∧((((((w8.setCell ⟨q.A,i*6,none⟩ (.int .i64 z.op)).setCell ⟨q.A,i*6+1,none⟩ (.int .i64 z.dst)).setCell ⟨q.A,i*6+2,none⟩ (.int .i64 z.a)).setCell ⟨q.A,i*6+3,none⟩ (.int .i64 z.b)).setCell ⟨q.A,i*6+4,none⟩ (.int .i64 z.c)).setCell ⟨q.A,i*6+5,none⟩ (.int .i64 z.k)).cell? ⟨G,3,none⟩=some (.int .i64 rb)∧((((((w8.setCell ⟨q.A,i*6,none⟩ (.int .i64 z.op)).setCell ⟨q.A,i*6+1,none⟩ (.int .i64 z.dst)).setCell ⟨q.A,i*6+2,none⟩ (.int .i64 z.a)).setCell ⟨q.A,i*6+3,none⟩ (.int .i64 z.b)).setCell ⟨q.A,i*6+4,none⟩ (.int .i64 z.c)).setCell ⟨q.A,i*6+5,none⟩ (.int .i64 z.k)).cell? ⟨G,4,none⟩=some (.int .i64 rc)∧((((((w8.setCell ⟨q.A,i*6,none⟩ (.int .i64 z.op)).setCell ⟨q.A,i*6+1,none⟩ (.int .i64 z.dst)).setCell ⟨q.A,i*6+2,none⟩ (.int .i64 z.a)).setCell ⟨q.A,i*6+3,none⟩ (.int .i64 z.b)).setCell ⟨q.A,i*6+4,none⟩ (.int .i64 z.c)).setCell ⟨q.A,i*6+5,none⟩ (.int .i64 z.k)).cell? ⟨G,5,none⟩=some (.int .i64 kk)):=⟨((h9.cells).2.2.2.2.2.2.2.2.1).trans (congrArg some (by have:=(h9.acts (List.getElem?_set_self hil2)).1;rwa [List.length_set] at this)),(u9.row (HX7.out.below hb78 HX7.out.lt) (Ne.symm hAG)).six'⟩)
  (try go_wp2_with fail)
  refine hKK.out _ _ ?_ (fun hHeld=>?_)
  ·(try dsimp only);(first|(with_reducible exact HS7.out _ hb78)|(with_reducible exact HS8.out)|(with_reducible exact HS7.out _ bE))
  clear hKK KK
  try simp only[Act.put,List.setIfInBounds_toArray,List.set_cons_zero,List.set_cons_succ]
  refine tk 8 (some 99) rfl ?_
  refine rd1 9 none rfl (fun KK hKK=>?_)
  go_simp
  refine hKK.out _ _ ?_ (fun hHeld=>?_)
  ·(try dsimp only);(first|(with_reducible exact HS7.out _ hb78)|(with_reducible exact HS8.out)|(with_reducible exact HS7.out _ bE))
  clear hKK KK
  try simp only[Act.put,List.setIfInBounds_toArray,List.set_cons_zero,List.set_cons_succ]
  refine wpAnyH_done (by kernel_rfl) ?_ _
  have h9':FoAt f L q ((((((w8.setCell ⟨q.A,i*6,none⟩ (.int .i64 z.op)).setCell ⟨q.A,i*6+1,none⟩ (.int .i64 z.dst)).setCell ⟨q.A,i*6+2,none⟩ (.int .i64 z.a)).setCell ⟨q.A,i*6+3,none⟩ (.int .i64 z.b)).setCell ⟨q.A,i*6+4,none⟩ (.int .i64 z.c)).setCell ⟨q.A,i*6+5,none⟩ (.int .i64 z.k)) R2 (A2.set i z) ds2 need cl fr:=h9
  have u9':Upd (fun k=>k=q.A) w8 ((((((w8.setCell ⟨q.A,i*6,none⟩ (.int .i64 z.op)).setCell ⟨q.A,i*6+1,none⟩ (.int .i64 z.dst)).setCell ⟨q.A,i*6+2,none⟩ (.int .i64 z.a)).setCell ⟨q.A,i*6+3,none⟩ (.int .i64 z.b)).setCell ⟨q.A,i*6+4,none⟩ (.int .i64 z.c)).setCell ⟨q.A,i*6+5,none⟩ (.int .i64 z.k)):=u9
  have HF9:=Lib.hid h9'
  have HU9:=Lib.hid ((HU7.out.trans (Upd.of_below hb78)).trans (u9'.mono (Y:=foX q) (fun k e=> .inr (.inl e))))
  have hS9:=HS8.out
  clear hHeld h9 u9 h9' u9' HS8 q0 q1 q2 q3 q4 q5 z0 z1 z2 z3 z4 z5 d8 e0 e1 e2 e3 e4 e5 hb8 hb78 HS7 HX7 HU7 HF7
  generalize ((((((w8.setCell ⟨q.A,i*6,none⟩ (.int .i64 z.op)).setCell ⟨q.A,i*6+1,none⟩ (.int .i64 z.dst)).setCell ⟨q.A,i*6+2,none⟩ (.int .i64 z.a)).setCell ⟨q.A,i*6+3,none⟩ (.int .i64 z.b)).setCell ⟨q.A,i*6+4,none⟩ (.int .i64 z.c)).setCell ⟨q.A,i*6+5,none⟩ (.int .i64 z.k))=w9 at*
  obtain ⟨d8,e0,e1,e2,e3,e4,e5⟩:=hS9
  have HAD:Hid (Fo.dstsOf (A2.set i z)=Fo.dstsOf f.acts):=by
   show _=_
   rw[dsts_set (fun y hy=>by rw[HA2.out] at hy;injection hy with hy;rw[←hy,HZD.out])]
   exact HPS.out.inv.ad
  have HAI2:Hid ((A2.set i z)[i]? =some z):=List.getElem?_set_self hil2
  have hdm:dst=(m:Int):=HM0.out
  have HDM:=Lib.hid hdm
  have HDF:=Lib.hid HOK.out.2.2.2.2.1
  have HW:=Lib.hid (HOK.out.2.2.2.2.1.2.1 _ HX0.out).1
  have HSG:=Lib.hid (fun W=>sign_any op W)
  have hops:op=3∨op=24∨op=26∨op=27∨(5≤op∧op≤20):=by
   have h1:=uses_cases HAO.out.2.2.2.1
   have h2:=HU1.out
   dsimp only at h1
   rcases h1 with h|h|h|h|h|h|h|h|h
   ·rw[h] at h2;exact absurd h2 (by decide)
   ·rw[h] at h2;exact absurd h2 (by decide)
   ·rw[h] at h2;exact absurd h2 (by decide)
   all_goals omega
  clear hdm
  rcases hops with h0|h0|h0|h0|h0
  ·have HE:Hid (finF f R2 A2 i (⟨op,dst,(ma:Int),(mb':Int),(mc:Int),kk⟩:Ac)=(R2.set m ra,A2.set i z)):=by
    show _=_
    rw[fin_var (x:=(⟨op,dst,(ma:Int),(mb':Int),(mc:Int),kk⟩:Ac)) h0]
    dsimp only
    rw[HGA.out,HZ.out,HDM.out,Int.toNat_natCast]
   have os:signB op=false:=by unfold signB;simp;omega
   rw[os] at HSG
   have o3:(op==3)=true:=by simp[h0]
   have cR:=vs_cell HF9.out.r (n:=m) (by rw[HF9.out.rl];exact hm)
   have fR:=HF9.out.r.frozen m
   obtain ⟨_,_,_,_,_,_,_,d7,_⟩:=HF9.out.cells
   obtain ⟨h10,u10⟩:=HF9.out.setR m HYI.out.a
   have H10:=Lib.hid (h10.below ((Below.refl _ _).drew))
   have U10:=Lib.hid ((HU9.out.trans (u10.mono (Y:=foX q) (fun k e=> .inl e))).drew)
   clear h10 u10 h0 os
   go_wp2_with fail
   (with_reducible refine (HSG.out _).mono ?_)
   rintro e _ ⟨rfl,rfl⟩
   go_wp2_with fail
   go_region
   go_wp2_with fail
   go_end0
   exact ⟨rfl,⟨_,_,_,_,H10.out,by have:=HSS.out;rw[HE.out] at this;exact this⟩,U10.out⟩
  ·have HE0:=Lib.hid (fin_when (f:=f) (R:=R2) (A:=A2) (i:=i) (x:=(⟨op,dst,(ma:Int),(mb':Int),(mc:Int),kk⟩:Ac)) h0)
   have os:signB op=false:=by unfold signB;simp;omega
   rw[os] at HSG
   have o3:(op==3)=false:=by rw[beq_eq_false_iff_ne];omega
   have o27:(op==27)=false:=by rw[beq_eq_false_iff_ne];omega
   have o24:(op==24)=true:=by simp[h0]
   have HN:=Lib.hid (fnum_any HF9.out HBL.out HDF.out HAD.out HRA.out)
   have HT:=Lib.hid (fun W' (hW:Below w9.heap.size w9 W') k (hk:Wf k)=>turn_any (HF9.out.below hW) HAI2.out (by rw[HZD.out];exact HW.out) hk)
   clear h0 os
   go_wp2_with fail
   (with_reducible refine (HSG.out _).mono ?_)
   rintro e _ ⟨rfl,rfl⟩
   go_wp2_with fail
   (with_reducible refine HN.out.mono ?_)
   rintro e w10 ⟨rfl,hb10⟩
   have HF10:=Lib.hid (HF9.out.below hb10)
   have U10:=Lib.hid (HU9.out.trans (Upd.of_below hb10))
   rcases optV_is (numAt (A2.set i z) ra) with ⟨hn,hv⟩|⟨p,hn,hv⟩
   ·have HE:Hid (finF f R2 A2 i (⟨op,dst,(ma:Int),(mb':Int),(mc:Int),kk⟩:Ac)=(R2,A2.set i z)):=by
     show _=_
     rw[HE0.out,HGA.out,HZ.out,hn]
    rw[hv]
    clear hn hv hb10
    go_wp2_with fail
    go_end0
    exact ⟨rfl,⟨_,_,_,_,HF10.out,by have:=HSS.out;rw[HE.out] at this;exact this⟩,U10.out⟩
   ·have HE:Hid (finF f R2 A2 i (⟨op,dst,(ma:Int),(mb':Int),(mc:Int),kk⟩:Ac)=(R2,(A2.set i z).set i (turnAc f z.dst p))):=by
     show _=_
     rw[HE0.out,HGA.out,HZ.out,hn,HZD.out]
    have hwp:Wf p:=by
     obtain ⟨y,hy,_,e⟩:=numAt_some hn
     rw[←e]
     exact (HF9.out.wA y (actAt_dst hy).1).k
    have HTT:=Lib.hid (HT.out w10 hb10 p hwp)
    rw[hv]
    clear hn hv hb10 hwp
    go_wp2_with fail
    (with_reducible refine HTT.out.mono ?_)
    rintro e w11 ⟨rfl,h11,u11⟩
    have U11:=Lib.hid (U10.out.trans (u11.mono (Y:=foX q) (fun k e=> .inr (.inl e))))
    have H11:=Lib.hid h11
    clear h11 u11
    go_wp2_with fail
    go_end0
    exact ⟨rfl,⟨_,_,_,_,H11.out,by have:=HSS.out;rw[HE.out] at this;exact this⟩,U11.out⟩
  ·have HE:Hid (finF f R2 A2 i (⟨op,dst,(ma:Int),(mb':Int),(mc:Int),kk⟩:Ac)=(R2,A2.set i z)):=by
    show _=_
    rw[fin_merge (x:=(⟨op,dst,(ma:Int),(mb':Int),(mc:Int),kk⟩:Ac)) h0,HZ.out]
   have os:signB op=false:=by unfold signB;simp;omega
   rw[os] at HSG
   have o3:(op==3)=false:=by rw[beq_eq_false_iff_ne];omega
   have o27:(op==27)=false:=by rw[beq_eq_false_iff_ne];omega
   have o24:(op==24)=false:=by rw[beq_eq_false_iff_ne];omega
   clear h0 os
   go_wp2_with fail
   (with_reducible refine (HSG.out _).mono ?_)
   rintro e _ ⟨rfl,rfl⟩
   go_wp2_with fail
   go_end0
   exact ⟨rfl,⟨_,_,_,_,HF9.out,by have:=HSS.out;rw[HE.out] at this;exact this⟩,HU9.out⟩
  ·have HE:Hid (finF f R2 A2 i (⟨op,dst,(ma:Int),(mb':Int),(mc:Int),kk⟩:Ac)=(chF R2 (A2.set i z) (m:Int) (⟨op,dst,ra,rb,rc,kk⟩:Ac),A2.set i z)):=by
    show _=_
    rw[fin_if (x:=(⟨op,dst,(ma:Int),(mb':Int),(mc:Int),kk⟩:Ac)) h0]
    have e:rawAc R2 (⟨op,dst,(ma:Int),(mb':Int),(mc:Int),kk⟩:Ac)=(⟨op,dst,ra,rb,rc,kk⟩:Ac):=by unfold rawAc;dsimp only;rw[HGA.out,HGB'.out,HGC.out]
    rw[HZ.out,e]
    dsimp only
    rw[HDM.out]
   have os:signB op=false:=by unfold signB;simp;omega
   rw[os] at HSG
   have o3:(op==3)=false:=by rw[beq_eq_false_iff_ne];omega
   have o27:(op==27)=true:=by simp[h0]
   have HC:=Lib.hid (choose_any HF9.out HBL.out HDF.out HAD.out (n:=(m:Int)) ⟨by omega,by omega⟩ (⟨op,dst,ra,rb,rc,kk⟩:Ac) HYI.out HRA.out)
   clear h0 os
   go_wp2_with fail
   (with_reducible refine (HSG.out _).mono ?_)
   rintro e _ ⟨rfl,rfl⟩
   go_wp2_with fail
   (with_reducible refine HC.out.mono ?_)
   rintro e w10 ⟨rfl,h10,u10⟩
   have U10:=Lib.hid (HU9.out.trans (u10.mono (Y:=foX q) (fun k e=> .inl e)))
   have H10:=Lib.hid h10
   clear h10 u10
   go_wp2_with fail
   go_end0
   exact ⟨rfl,⟨_,_,_,_,H10.out,by have:=HSS.out;rw[HE.out] at this;exact this⟩,U10.out⟩
  ·have HE:Hid (finF f R2 A2 i (⟨op,dst,(ma:Int),(mb':Int),(mc:Int),kk⟩:Ac)=(R2,recF f (A2.set i z) i z)):=by
    show _=_
    rw[fin_rec (x:=(⟨op,dst,(ma:Int),(mb':Int),(mc:Int),kk⟩:Ac)) h0,HZ.out]
   have os:signB op=true:=by unfold signB;simp;omega
   rw[os] at HSG
   have o3:(op==3)=false:=by rw[beq_eq_false_iff_ne];omega
   have o27:(op==27)=false:=by rw[beq_eq_false_iff_ne];omega
   have o24:(op==24)=false:=by rw[beq_eq_false_iff_ne];omega
   have hzo:z.op=op:=by rw[←HZ.out];exact root_op
   have hza:z.a=ra:=by rw[←HZ.out,←HGA.out];exact root_a HU1.out
   have hzb:isW f z.b:=by
    by_cases g:2≤uses op
    ·rw[←HZ.out,root_b (x:=(⟨op,dst,(ma:Int),(mb':Int),(mc:Int),kk⟩:Ac)) g]
     dsimp only
     rw[HGB'.out]
     exact HRB.out g
    ·rw[←HZ.out]
     unfold rootAc
     rw[if_neg (by have:=HU1.out;dsimp only;omega)]
     dsimp only
     rw[if_neg g]
     exact ⟨by omega,by omega⟩
   have HC:=Lib.hid (reckon_any HF9.out HBL.out HDF.out HAD.out HAI2.out (by rw[HZD.out];exact HW.out) (by rw[hza];exact HRA.out) hzb (by rw[hzo];exact h0))
   clear h0 os hzo hza hzb
   go_wp2_with fail
   (with_reducible refine (HSG.out _).mono ?_)
   rintro e _ ⟨rfl,rfl⟩
   go_wp2_with fail
   (with_reducible refine HC.out.mono ?_)
   rintro e w10 ⟨rfl,h10,u10⟩
   have U10:=Lib.hid (HU9.out.trans (u10.mono (Y:=foX q) (fun k e=> .inr (.inl e))))
   have H10:=Lib.hid h10
   clear h10 u10
   go_wp2_with fail
   go_end0
   exact ⟨rfl,⟨_,_,_,_,H10.out,by have:=HSS.out;rw[HE.out] at this;exact this⟩,U10.out⟩
theorem settle_all (hf:formOk f) (hL:ByL f L) {n:Int} (h:Done f n):SetlC f L q n:=by
 induction h with
 |ins n h=>exact settle_in hf hL n h
 |act x hx _ _ ih1 _=>exact settle_act hf hL x hx ih1
end
end Go.Proofs.Ytckognjamlckcaa
