/-
  The type of a call: the contract of types' call.
-/
import Derived.Test.YtdkgkacnjdnpoaaGreatTyB
import Derived.Deep.RegionHeld3
import Derived.StillTailTactics
set_option maxHeartbeats 1000000
set_option maxRecDepth 100000
namespace Go.Proofs.YtdkgkacnjdnpoaaGreat
open Go.RowKit
attribute [local go_sem ↓] Go.wp_at_zero Go.wp_at_succ
theorem find_lo (s:List Nd) (m:Nat) (A:Option Addr) (cap:Nat) (nm:ByteArray) (w:World) (B:Nat) (hBw:B≤w.heap.size) (hm:s.length=m) (h1:m≤cap) (h2:cap≤maxLen) (h:Nds w B A s):
  Calls Tryz.prog 37 #[.agg #[.slice A m cap],.string nm] w fun e w'=>(∃(n:Nd) (a:NdA),e= .returned (.tuple #[ndV n a,.bool (cB (nm∈s.map Nd.name))])∧Hid (nm∈s.map Nd.name→nodeAt s nm=some n∧NdAt w' B n a)∧Hid (nm∉s.map Nd.name→n=nd0∧a=nda0))∧Below w.heap.size w w':=by
 subst hm
 have rf1:=rowNew2 w (.cells #[.slice A s.length cap] 24) ndZ 58
 have rs1:=(Row.new w #[.slice A s.length cap] 24).alloc (.cells ndZ 58)
 have b1:Below w.heap.size w ((w.alloc (.cells #[.slice A s.length cap] 24)).alloc (.cells ndZ 58)):=(by repeat (first|(with_reducible assumption)|(with_reducible exact Below.refl _ _)|(with_reducible refine Below.drew ?_)|(with_reducible refine below_drewN' ?_ _)|(with_reducible refine Below.alloc ?_ (by first|assumption|omega|(simp;omega)|simp|(simp[World.setCell];omega)|simp[World.setCell]) _)|(with_reducible refine Below.setCell ?_ (by first|assumption|omega|(simp;omega)|simp|(simp[World.setCell];omega)|simp[World.setCell]) _)))
 have HS:=Lib.hid (nds_keep h (keeps_of (b1.mono hBw)) (Nat.le_refl _))
 have h2':cap≤9223372036854775807:=by unfold maxLen at h2;omega
 clear h
 go_enter Tryz.func37,Tryz.ntmps37
 go_upto_region 1 with (fail)
 generalize (w.alloc (.cells #[.slice A s.length cap] 24)).alloc (.cells ndZ 58)=W1 at*
 have hs1:=b1.size
 have l1:=rf1.lt
 have c0:=rs1.src
 go_wp2_with fail
 clear c0 rs1
 go_loopw[11] (fun i wr=>∃k:Nat,k≤s.length∧i= .int .i64 k∧Hid (∀j,j<k→∀x,s[j]? =some x→x.name≠nm)∧Below W1.heap.size W1 wr) (fun i _=>s.length-(intOf i).toNat)
 case atStart=>exact ⟨0,Nat.zero_le _,rfl,fun j h=>absurd h (by omega),Below.refl _ _⟩
 case round=>
  obtain ⟨k,hk,rfl,HN,hbr⟩:=hrel
  have hszr:=hbr.size
  have rr:=rf1.below hbr l1
  have lr:=rr.lt
  have hB:=b1.trans (hbr.mono hs1)
  obtain ⟨⟨z0,z1,z2,z3,z4,z5,z6⟩,f0,f1,f2,f3,f4,f5,f6⟩:=rr.seven
  by_cases hlt:k<s.length
  ·obtain ⟨b,off,n,a,rfl,hb,hn,hat,d0,d1,d2,d3,d4,d5,d6⟩:=(nds_keep HS.out (keeps_of ((hbr.mono hs1).mono hBw)) (Nat.le_refl _)).nd hlt
   have HX:=Lib.hid hn
   have HAT:=Lib.hid hat
   clear hn hat
   by_cases e:n.name=nm
   ·have e1:=beq_yes e
    have HM:Hid (nm∈s.map Nd.name):=by show _∈_;rw[←e];exact List.mem_map_of_mem (List.mem_of_getElem? HX.out)
    have HF:=Lib.hid (nodeAt_at HN.out HX.out e)
    clear e
    go_wp2_with fail
    have bb:=(below_set7 (Below.refl w.heap.size wr) (Nat.le_succ w.heap.size) (.string n.name) (.slice a.ai n.ins.length a.ci) (.slice a.ao n.outs.length a.co) (.slice a.av n.vars.length a.cv) (.slice a.aq n.eqs.length a.cq) (.int .i64 n.line) (.int .i64 n.col)).alloc (by simp[World.setCell];omega) (.cells (ndArr n a) 58)
    have HQ:Hid (Ending.returned (.tuple #[ndV n a,.bool true])= .returned (.tuple #[ndV n a,.bool (cB (nm∈s.map Nd.name))])):=by show _=_;rw[cB_true HM.out]
    exact bodyPost_ret (v:= .tuple #[ndV n a,.bool true]) (res2 rfl Tryz.underlying58 rfl (by kernel_rfl) rfl rfl ((rr.set7 _ _ _ _ _ _ _).alloc _)) rfl ⟨⟨n,a,HQ.out,fun _=>⟨HF.out,HAT.out.below (bb.mono hBw)⟩,fun g=>absurd HM.out g⟩,hB.trans bb⟩
   ·have e1:=beq_no e
    have HN':=Lib.hid (step_upto (P:=fun x:Nd=>x.name≠nm) HN.out HX.out e)
    clear e
    go_wp2_with fail
    go_roundw
    case rel=>exact ⟨k+1,by omega,by go_num,HN',hbr.alloc hszr _⟩
    case measure=>first|(simp[intOf];omega)|simp[intOf]
  ·obtain rfl:k=s.length:=by omega
   have HM:Hid (nm∉s.map Nd.name):=fun g=>by
    obtain ⟨n,hn,he⟩:=List.mem_map.1 g
    obtain ⟨j,hj⟩:=List.getElem?_of_mem hn
    exact HN.out j (List.getElem?_eq_some_iff.1 hj).1 n hj he
   go_wp2_with fail
   have HQ:Hid (Ending.returned (.tuple #[ndV nd0 nda0,.bool false])= .returned (.tuple #[ndV nd0 nda0,.bool (cB (nm∈s.map Nd.name))])):=by show _=_;rw[cB_false HM.out]
   exact bodyPost_ret (v:= .tuple #[ndV nd0 nda0,.bool false]) (res2 rfl Tryz.underlying58 rfl (by kernel_rfl) rfl rfl (rr.set7 _ _ _ _ _ _ _)) rfl ⟨⟨nd0,nda0,HQ.out,fun g=>absurd g HM.out,fun _=>⟨rfl,rfl⟩⟩,below_set7 hB (Nat.le_succ _) _ _ _ _ _ _ _⟩
def IntR (w:World) (g q:Nat) (l:List Int):Prop:=g<q∧q<w.heap.size∧∀(i:Nat) x,l[i]? =some x→w.cell? ⟨q,i,none⟩=some (.int .i64 x)
theorem IntR.upd {w w':World} {g q:Nat} {l:List Int} (h:IntR w g q l) (hu:UpdM g w w'):IntR w' g q l:=
 ⟨h.1,Nat.lt_of_lt_of_le h.2.1 hu.size,fun i x hi=>(Upd.cellk hu (p:=⟨q,i,none⟩) h.2.1 (fun e=>by have h1:=h.1;have h2:q=g:=e;omega)).trans (h.2.2 i x hi)⟩
theorem ints_rd {base g:Nat} {w:World} {v:Value} {l:List Int} (h:IntsO base w v l) (hb:g<base) (h1:1≤l.length):∃q c,v= .slice (some ⟨q,0,none⟩) l.length c∧l.length≤c∧c≤maxLen∧IntR w g q l:=by
 obtain ⟨q,c,rfl⟩:=own_some h (by omega)
 obtain ⟨A,c',he,hc,hm,hr⟩:=own_rd h
 injection he with hA hn hcc
 subst hA
 subst hcc
 have hlt:=World.ownsRow.lt h q rfl
 refine ⟨q,c,rfl,hc,hm,by omega,hlt.2,fun i x hi=>?_⟩
 obtain ⟨ad,e,hbk,hc⟩:=hr.2 (by omega)
 injection e with e
 subst e
 have h3:=hc i (.int .i64 x) (by unfold intsV;rw[List.getElem?_map,hi];rfl)
 have h4:(⟨q,0,none⟩:Addr).add i=⟨q,i,none⟩:=by
  by_cases h0:i=0
  ·subst h0;simp[Addr.add]
  ·simp[Addr.add,h0]
 rwa [h4] at h3
theorem node_in {s:List Nd} {nm:ByteArray} {m:Nd} (h:nodeAt s nm=some m):nm∈s.map Nd.name:=Classical.byContradiction fun g=>by
 rw[nodeAt_none.2 g] at h
 cases h
theorem call_tany (T:Tp) (B g:Nat) (e:Ex) (m:Nd) (hm:nodeAt T.s e.name=some m) (hlen:m.ins.length=e.args.length) (hout:1≤m.outs.length) (f:Ft) (A:Option Addr) (cap q c:Nat) (l:List Int) (w:World) (h:TpAt w B g T f)
  (hcap:cap≤maxLen) (hx:IsExs w B A e.args) (hl:l.length=e.args.length) (hc2:c≤maxLen) (hq:IntR w g q l) (h8:e.args.length≤8):
  Calls Tryz.prog 181 #[.pointer (some ⟨g,0,none⟩),exV e A cap,.slice (some ⟨q,0,none⟩) l.length c] w fun r w'=>r= .returned (.int .i64 (outTy m))∧TpL w B g T (ft2 f (fstl (callFs m e l))) w':=by
 have re1:=Row.new w (exA e A cap) 63
 have b1:Below w.heap.size w (w.alloc (.cells (exA e A cap) 63)):=(by repeat (first|(with_reducible assumption)|(with_reducible exact Below.refl _ _)|(with_reducible refine Below.drew ?_)|(with_reducible refine below_drewN' ?_ _)|(with_reducible refine Below.alloc ?_ (by first|assumption|omega|(simp;omega)|simp|(simp[World.setCell];omega)|simp[World.setCell]) _)|(with_reducible refine Below.setCell ?_ (by first|assumption|omega|(simp;omega)|simp|(simp[World.setCell];omega)|simp[World.setCell]) _)))
 have H1:=Lib.hid (h.bel b1)
 have HX:Hid (∀W,Below B w W→IsExs W B A e.args):=fun W hW=>hx.below hW
 have hlg:=h.lt
 have hlo:=h.lo
 have hsB:=h.size
 have HFZ:=Lib.hid h.fz
 have HQ:=Lib.hid hq
 have HLEN:=Lib.hid hlen
 have HM:=Lib.hid hm
 have HLL:=Lib.hid hl
 have HU1:Hid (UpdM g w (w.alloc (.cells (exA e A cap) 63))):=UpdM.of b1
 have hcap':cap≤9223372036854775807:=by unfold maxLen at hcap;omega
 have hc2':c≤9223372036854775807:=by unfold maxLen at hc2;omega
 have hmc:=h.mc
 have hlc:=h.lc
 clear h hx hq hm hl hlen
 go_enter Tryz.func181,Tryz.ntmps181
 go_upto_region 1 with (fail)
 generalize w.alloc (.cells (exA e A cap) 63)=W1 at*
 have hs1:=b1.size
 have hsB1:B≤W1.heap.size:=by omega
 obtain ⟨x0,x1,x2,x3,x4,x5⟩:=re1.ex6
 obtain ⟨⟨t0,t1,t2,t3,t4,t5,t6,t7⟩,-⟩:=H1.out.row.tp
 clear t1 t2 t3 t4 t5 t6 t7
 have HFD:Hid (∀W,Below W1.heap.size W1 W→Calls Tryz.prog 37 #[.agg #[.slice T.A T.s.length T.cap],.string e.name] W fun r w'=>(∃am:NdA,r= .returned (.tuple #[ndV m am,.bool true])∧Hid (NdAt w' B m am))∧Below W.heap.size W w'):=fun W hW=>by
  refine (find_lo T.s T.s.length T.A T.cap e.name W B (Nat.le_trans hsB1 hW.size) rfl hlc hmc (H1.out.bel hW).s).mono ?_
  rintro r w' ⟨⟨n,a,rfl,hy,hn⟩,hb⟩
  have hin:=node_in HM.out
  obtain ⟨h5,h6⟩:=hy.out hin
  rw[HM.out] at h5
  injection h5 with h5
  subst h5
  rw[cB_true hin]
  exact ⟨⟨a,rfl,h6⟩,hb⟩
 have HK:Hid (∀W,Below W1.heap.size W1 W→W.cell? ⟨g,0,none⟩=some (.slice T.A T.s.length T.cap)∧W.cell? ⟨w.heap.size,1,none⟩=some (.string e.name)):=fun W hW=>⟨old_cell hW t0,old_cell hW x1⟩
 go_cut[7] (fun v7 W=>∃(gm:Nat) (am:NdA),v7= .pointer (some ⟨gm,0,none⟩)∧W1.heap.size≤gm∧Row W gm (ndArr m am) 58∧Hid (NdAt W B m am)∧Below W1.heap.size W1 W)
 case first=>
  go_region_held3 (fun W=>W.cell? ⟨g,0,none⟩=some (.slice T.A T.s.length T.cap)∧W.cell? ⟨w.heap.size,1,none⟩=some (.string e.name)) (first|(with_reducible exact HK.out _ (by repeat (first|(with_reducible assumption)|(with_reducible exact Below.refl _ _)|(with_reducible refine Below.drew ?_)|(with_reducible refine below_drewN' ?_ _)|(with_reducible refine Below.alloc ?_ (by first|assumption|omega|(simp;omega)|simp|(simp[World.setCell];omega)|simp[World.setCell]) _)|(with_reducible refine Below.setCell ?_ (by first|assumption|omega|(simp;omega)|simp|(simp[World.setCell];omega)|simp[World.setCell]) _))))|go_keep)
   (first|((go_at_call 37);(refine (HFD.out _ (by repeat (first|(with_reducible assumption)|(with_reducible exact Below.refl _ _)|(with_reducible refine Below.drew ?_)|(with_reducible refine below_drewN' ?_ _)|(with_reducible refine Below.alloc ?_ (by first|assumption|omega|(simp;omega)|simp|(simp[World.setCell];omega)|simp[World.setCell]) _)|(with_reducible refine Below.setCell ?_ (by first|assumption|omega|(simp;omega)|simp|(simp[World.setCell];omega)|simp[World.setCell]) _)))).mono ?_);rintro e w3 ⟨⟨am,rfl,HMA⟩,hb3⟩;(try (have r5:Row w3 W1.heap.size ndZ 58:=(by first|(with_reducible exact Row.below (Row.drew (Row.new W1 ndZ 58)) hb3 (by simp))|(with_reducible exact Row.below (Row.new W1.drew ndZ 58) hb3 (by simp)));obtain ⟨⟨x0,x1,x2,x3,x4,x5,x6⟩,g0,g1,g2,g3,g4,g5,g6⟩:=r5.seven));(have hb4:Below W1.heap.size W1 w3:=Below.trans (by repeat (first|(with_reducible assumption)|(with_reducible exact Below.refl _ _)|(with_reducible refine Below.drew ?_)|(with_reducible refine below_drewN' ?_ _)|(with_reducible refine Below.alloc ?_ (by first|assumption|omega|(simp;omega)|simp|(simp[World.setCell];omega)|simp[World.setCell]) _)|(with_reducible refine Below.setCell ?_ (by first|assumption|omega|(simp;omega)|simp|(simp[World.setCell];omega)|simp[World.setCell]) _))) (hb3.mono (by first|exact Nat.le_refl _|simp|(simp;omega)|omega)));(have hs4:=hb4.size)))
  all_goals
   go_wp2_with fail
   go_meet
   exact ⟨_,am,rfl,by first|exact Nat.le_refl _|exact hs4,by first|(with_reducible exact Row.new _ _ _)|(with_reducible exact r5.set7 _ _ _ _ _ _ _),HMA.out.below (by repeat (first|(with_reducible assumption)|(with_reducible exact Below.refl _ _)|(with_reducible refine Below.drew ?_)|(with_reducible refine below_drewN' ?_ _)|(with_reducible refine Below.alloc ?_ (by first|assumption|omega|(simp;omega)|simp|(simp[World.setCell];omega)|simp[World.setCell]) _)|(with_reducible refine Below.setCell ?_ (by first|assumption|omega|(simp;omega)|simp|(simp[World.setCell];omega)|simp[World.setCell]) _))),(by repeat (first|(with_reducible assumption)|(with_reducible exact Below.refl _ _)|(with_reducible refine Below.drew ?_)|(with_reducible refine below_drewN' ?_ _)|(with_reducible refine Below.alloc ?_ (by first|assumption|omega|(simp;omega)|simp|(simp[World.setCell];omega)|simp[World.setCell]) _)|(with_reducible refine Below.setCell ?_ (by first|assumption|omega|(simp;omega)|simp|(simp[World.setCell];omega)|simp[World.setCell]) _)))⟩
 case rest=>
  obtain ⟨gm,am,rfl,hgm,rgm,HMA,hbc⟩:=hcut
  obtain ⟨w2,rfl⟩:∃w2:World,w2=wc:=⟨_,rfl⟩
  have HT2:=Lib.hid (H1.out.bel hbc)
  have HU2:Hid (UpdM g w w2):=Upd.trans HU1.out (UpdM.of hbc)
  have re2:=re1.below hbc re1.lt
  have HQ2:=Lib.hid (HQ.out.upd HU2.out)
  have hs2:=hbc.size
  have hwg:=re1.lt
  obtain ⟨c0,c1,cc2,c3,c4,c5,c6⟩:=rgm.nd
  clear x0 x1 x2 x3 x4 x5 t0 HK
  go_wp2_with fail
  clear c0 c1 cc2 c3 c4 c5 c6
  go_loopw[24] (fun i wr=>∃k:Nat,k≤m.ins.length∧i= .int .i64 k∧TpL w2 B g T (accF f (callFs m e l) k) wr) (fun i _=>m.ins.length-(intOf i).toNat)
  case atStart=>exact ⟨0,Nat.zero_le _,rfl,by rw[acc_0 HFZ.out];exact HT2.out,Upd.refl _ _⟩
  case round=>
   obtain ⟨k,hk,rfl,ht,hu⟩:=hrel
   have HT:=Lib.hid ht
   have HU:=Lib.hid hu
   have hsr:=hu.size
   have hsB2:B≤w2.heap.size:=by omega
   have hbB:=UpdM.bel hu hlo hsB2
   have re:=Row.upd hu re2 (by omega)
   have rm:=Row.upd hu rgm (by omega)
   have HMW:=Lib.hid (HMA.out.below hbB)
   have HQR:=Lib.hid (HQ2.out.upd hu)
   clear ht hu
   by_cases hlt:k<m.ins.length
   ·obtain ⟨b,off,x,A',cap',hA,hb,hxk,ok,g1,g2,hxs,d0,d1,d2,d3,d4⟩:=HMW.out.si.vr hlt
    obtain ⟨b2,off2,y,A2,cap2,rfl,hb2,hyk,hym,hok',hcap',hmax',hy',y0,y1,y2,y3,y4,y5⟩:=(HX.out wr (UpdM.bel (Upd.trans HU2.out HU.out) hlo hsB)).at_ (show k<e.args.length by rw[←HLEN.out];exact hlt)
    obtain ⟨lk,hlk⟩:∃lk,l[k]? =some lk:=⟨_,List.getElem?_eq_getElem (by rw[HLL.out,←HLEN.out];exact hlt)⟩
    rw[hA]
    have q0:=HQR.out.2.2 k lk hlk
    have hqlt:=HQR.out.2.1
    have HCF:Hid ((callFs m e l)[k]? =some (needF (lk==x.ty) y.line y.col)):=by
     show _=_
     unfold callFs
     rw[List.getElem?_mapIdx,hxk,(arg_at hyk).1,(arg_at hyk).2]
     simp[List.getD,hlk]
    have HACC:Hid (ft2 (accF f (callFs m e l) k) (needF (lk==x.ty) y.line y.col)=accF f (callFs m e l) (k+1)):=(acc_succ HCF.out (need_fz _ _ _)).symm
    have bx:Below wr.heap.size wr (wr.alloc (.cells (vrArr x A' cap') 103)):=(by repeat (first|(with_reducible assumption)|(with_reducible exact Below.refl _ _)|(with_reducible refine Below.drew ?_)|(with_reducible refine below_drewN' ?_ _)|(with_reducible refine Below.alloc ?_ (by first|assumption|omega|(simp;omega)|simp|(simp[World.setCell];omega)|simp[World.setCell]) _)|(with_reducible refine Below.setCell ?_ (by first|assumption|omega|(simp;omega)|simp|(simp[World.setCell];omega)|simp[World.setCell]) _)))
    have rx:=Row.new wr (vrArr x A' cap') 103
    have HT4:=Lib.hid (HT.out.bel bx)
    have HU4:=Lib.hid (Upd.trans HU.out (UpdM.of (bm:=g) bx))
    have re4:=re.below bx re.lt
    have hk2:k<e.args.length:=by rw[←HLEN.out];exact hlt
    have hk3:k<l.length:=by rw[HLL.out];exact hk2
    clear hA hxk hyk hym hok' hcap' hy' hxs hlk ok
    go_upto_region 5 with (fail)
    have v4:=old_cell bx y4
    have v5:=old_cell bx y5
    have v0:=old_cell bx q0
    clear d0 d1 d2 d3 d4 y0 y1 y2 y3 y4 y5 q0
    generalize hW4:wr.alloc (.cells (vrArr x A' cap') 103)=w4 at*
    clear hW4
    obtain ⟨z0,z1,z2,z3,z4⟩:=rx.vr
    obtain ⟨x0,x1,x2,x3,x4,x5⟩:=re4.ex6
    have i0:(0:Int)≤(k:Int):=by omega
    have i1:(k:Int)<(e.args.length:Int):=by omega
    have i2:(k:Int)<(l.length:Int):=by omega
    have HN:=Lib.hid (need_any T (accF f (callFs m e l) k) B g (lk==x.ty) y.line y.col w4.drew (HT4.out.bel (by repeat (first|(with_reducible assumption)|(with_reducible exact Below.refl _ _)|(with_reducible refine Below.drew ?_)|(with_reducible refine below_drewN' ?_ _)|(with_reducible refine Below.alloc ?_ (by first|assumption|omega|(simp;omega)|simp|(simp[World.setCell];omega)|simp[World.setCell]) _)|(with_reducible refine Below.setCell ?_ (by first|assumption|omega|(simp;omega)|simp|(simp[World.setCell];omega)|simp[World.setCell]) _)))))
    go_still_tail 14,(by kernel_rfl)
    change wpList _ _ _ _ _ w4.drew
    go_wp2_with fail
    refine HN.out.mono ?_
    rintro r w5 ⟨rfl,ht5,hu5⟩
    rw[HACC.out] at ht5
    have HT5:=Lib.hid ht5
    have HU5:Hid (UpdM g w2 w5):=Upd.trans (Upd.drew HU4.out) hu5
    clear ht5 hu5 z0 z1 z2 z3 z4 x0 x1 x2 x3 x4 x5 v0 v4 v5
    go_wp2_with fail
    go_roundw
    case rel=>exact ⟨k+1,by omega,by go_num,HT5.out,HU5.out⟩
    case measure=>first|(simp[intOf];omega)|simp[intOf]
   ·obtain rfl:k=m.ins.length:=by omega
    obtain ⟨b,off,x,A',cap',hA,hb,hxk,ok,g1,g2,hxs,d0,d1,d2,d3,d4⟩:=HMW.out.so.vr (show 0<m.outs.length by omega)
    rw[Nat.zero_mul,Nat.add_zero] at d1
    obtain ⟨c0,c1,cc2,c3,c4,c5,c6⟩:=rm.nd
    rw[hA] at cc2
    have hxo:x.ty=outTy m:=by unfold outTy;rw[List.head?_eq_getElem?,hxk];rfl
    have HXO:=Lib.hid hxo
    have HE:Hid (accF f (callFs m e l) m.ins.length=ft2 f (fstl (callFs m e l))):=by
     show _=_
     have:=acc_all (f:=f) (l:=callFs m e l)
     rwa [show (callFs m e l).length=m.ins.length from by unfold callFs;exact List.length_mapIdx] at this
    have p0:0<m.outs.length:=by omega
    have p1:(0:Int)<(m.outs.length:Int):=by omega
    clear hxk hxs ok hA hxo
    go_wp2_with fail
    go_ret
    rw[HXO.out]
    exact ⟨rfl,by rw[←HE.out];exact HT.out,Upd.trans HU2.out HU.out⟩
end Go.Proofs.YtdkgkacnjdnpoaaGreat
