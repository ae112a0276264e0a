/-
  What is wrong with the types of an equation: the contract of types' equation. What is wrong first with a source's types: the contract of types.Check.
-/
import Derived.Test.YtdkgkacnjdnpoaaGreatZz
import Derived.Test.YtdkgkacnjdnpoaaGreatTyDz
set_option maxHeartbeats 4000000
set_option maxRecDepth 100000
namespace Go.Proofs.YtdkgkacnjdnpoaaGreat
open Go.RowKit
attribute [local go_sem ↓] Go.wp_at_zero Go.wp_at_succ
def leftFs (n:Nd) (q:Eqn) (L:List Int):List Ft:=q.left.mapIdx fun i nm=>needF (tyOf n nm==L.getD i 0) q.line q.col
theorem left_come {s:List Nd} {n:Nd} {q:Eqn}:leftFs n q (comeOf s n q)=leftTs s n q:=rfl
theorem equation_tany (T:Tp) (B g:Nat) (q:Eqn) (f:Ft) (A1:Option Addr) (c1:Nat) (A2:Option Addr) (c2:Nat) (w:World) (h:TpAt w B g T f) (hok:ExOk q.right) (hm1:c1≤maxLen) (hx1:Sl w B 1 isStr A1 q.left)
  (hl2:q.right.args.length≤c2) (hm2:c2≤maxLen) (hx2:IsExs w B A2 q.right.args) (hk:TyKn T.s T.n q.right) (hc:(comeOf T.s T.n q).length=q.left.length∧1≤q.left.length) (h8:q.left.length≤8):
  Calls Tryz.prog 99 #[.pointer (some ⟨g,0,none⟩),eqV q A1 c1 A2 c2] w fun r w'=>r= .returned (.tuple #[])∧TpL w B g T (ft2 f (eqnTF T.s T.n q)) w':=by
 refine' zq125
 have rq1:=Row.new w (eqArr q A1 c1 A2 c2) 65
 have b1:Below w.heap.size w (w.alloc (.cells (eqArr q A1 c1 A2 c2) 65)):=(by repeat (first|(with_reducible assumption)|(with_reducible exact Below.refl _ _)|(with_reducible refine Below.drew ?_)|(with_reducible refine below_drewN' ?_ _)|(with_reducible refine Below.alloc ?_ (by first|assumption|omega|(simp;omega)|simp|(simp[World.setCell];omega)|simp[World.setCell]) _)|(with_reducible refine Below.setCell ?_ (by first|assumption|omega|(simp;omega)|simp|(simp[World.setCell];omega)|simp[World.setCell]) _)))
 have hlg:=h.lt
 have hlo:=h.lo
 have hsB:=h.size
 have HU1:Hid (UpdM g w (w.alloc (.cells (eqArr q A1 c1 A2 c2) 65))):=UpdM.of b1
 have HS:Hid (∀W,Below B w W→Sl W B 1 isStr A1 q.left):=fun W hW=>strs_keep hx1 (keeps_of hW) (Nat.le_refl _)
 have HO:=Lib.hid (of_tany T B g q.right f A2 c2 _ (h.bel b1) hok hl2 hm2 (hx2.below (UpdM.bel HU1.out hlo hsB)) hk)
 have HOWN:=Lib.hid hk.own
 have HC:=Lib.hid hc
 have hlc:=h.lc
 have hmc:=h.mc
 have HNL:=Lib.hid h.hl
 have hm1':c1≤9223372036854775807:=by unfold maxLen at hm1;omega
 have hm2':c2≤9223372036854775807:=by unfold maxLen at hm2;omega
 have hsw:w.heap.size+1≤(w.alloc (.cells (eqArr q A1 c1 A2 c2) 65)).heap.size:=by simp
 clear h hx1 hx2 hk hok hc
 go_enter Tryz.func99,Tryz.ntmps99
 go_upto_region 1 with (fail)
 generalize w.alloc (.cells (eqArr q A1 c1 A2 c2) 65)=W1 at*
 have hs1:=b1.size
 obtain ⟨x0,x1,x2,x3,x4,x5,x6,x7,x8⟩:=rq1.eqn
 go_wp2_with fail
 refine HO.out.mono ?_
 rintro r w2 ⟨⟨kk,rfl,HKK⟩,ht2,hu2⟩
 have HT2:=Lib.hid ht2
 have HU2:Hid (UpdM g w w2):=Upd.trans HU1.out hu2
 have rq2:=Row.upd hu2 rq1 (by omega)
 have hs2:=hu2.size
 clear x0 x1 x2 x3 x4 x5 x6 x7 x8 ht2 hu2 HO
 obtain ⟨f2,HF2⟩:∃f2,Hid (ft2 f (tyF T.s T.n q.right)=f2):=⟨_,rfl⟩
 rw[HF2.out] at HT2 HKK
 have b3:Below w2.heap.size w2 (w2.alloc (.cells #[.int .i64 kk] 3)):=(by repeat (first|(with_reducible assumption)|(with_reducible exact Below.refl _ _)|(with_reducible refine Below.drew ?_)|(with_reducible refine below_drewN' ?_ _)|(with_reducible refine Below.alloc ?_ (by first|assumption|omega|(simp;omega)|simp|(simp[World.setCell];omega)|simp[World.setCell]) _)|(with_reducible refine Below.setCell ?_ (by first|assumption|omega|(simp;omega)|simp|(simp[World.setCell];omega)|simp[World.setCell]) _)))
 have r3:=Row.new w2 #[.int .i64 kk] 3
 have hsw2:w2.heap.size+1≤(w2.alloc (.cells #[.int .i64 kk] 3)).heap.size:=by simp
 go_upto_region 2 with (fail)
 generalize hW3:w2.alloc (.cells #[.int .i64 kk] 3)=wk at*
 clear hW3
 have HT3:=Lib.hid (HT2.out.bel b3)
 have HU3:Hid (UpdM g w wk):=Upd.trans HU2.out (UpdM.of b3)
 have rq3:=rq2.below b3 rq2.lt
 have hs3:=b3.size
 obtain ⟨x0,x1,x2,x3,x4,x5,x6,x7,x8⟩:=rq3.eqn
 go_upto_if 21 with (fail)
 go_cut[4] (fun v4 W=>∃(q4 c4:Nat) (L:List Int),v4= .slice (some ⟨q4,0,none⟩) L.length c4∧L.length=q.left.length∧L.length≤c4∧c4≤maxLen∧IntR W g q4 L∧Hid (f2.err=0→L=comeOf T.s T.n q)∧Below wk.heap.size wk W)
 case first=>
  by_cases h4:q.right.op=4
  ·have o4:=eq_yes h4
   obtain ⟨m,hm4,hlen4,hout4⟩:=HOWN.out.call h4
   have HCM:Hid (comeOf T.s T.n q=m.outs.map Vr.ty):=by show _=_;unfold comeOf;rw[if_pos h4,hm4]
   have HM:=Lib.hid hm4
   have HOUT8:Hid (m.outs.length≤8):=by have h1:=HC.out.1;rw[HCM.out,List.length_map] at h1;show _≤_;omega
   have hin:=node_in hm4
   have HIN:=Lib.hid hin
   have hsB3:B≤wk.heap.size:=by omega
   have HFD:Hid (∀W,Below wk.heap.size wk W→Calls Tryz.prog 37 #[.agg #[.slice T.A T.s.length T.cap],.string q.right.name] W fun r w'=>(∃am:NdA,r= .returned (.tuple #[ndV m am,.bool true])∧Hid (NdAt w' B m am))∧Below W.heap.size W w'):=fun W hW=>by
    refine (find_lo T.s T.s.length T.A T.cap q.right.name W B (Nat.le_trans hsB3 hW.size) rfl hlc hmc (HT3.out.bel hW).s).mono ?_
    rintro r w' ⟨⟨n,a,rfl,hy,hn⟩,hb⟩
    obtain ⟨h5,h6⟩:=hy.out HIN.out
    rw[HM.out] at h5
    injection h5 with h5
    subst h5
    rw[cB_true HIN.out]
    exact ⟨⟨a,rfl,h6⟩,hb⟩
   obtain ⟨⟨t0,t1,t2,t3,t4,t5,t6,t7⟩,-⟩:=HT3.out.row.tp
   clear h4 hm4 hlen4 hin t1 t2 t3 t4 t5 t6 t7 x0 x1 x3 x4 x5 x6 x7 x8
   go_wp2_with fail
   have HK:Hid (∀W,Below wk.heap.size wk W→W.cell? ⟨g,0,none⟩=some (.slice T.A T.s.length T.cap)∧W.cell? ⟨w.heap.size,2,none⟩=some (.string q.right.name)):=fun W hW=>⟨old_cell hW t0,old_cell hW x2⟩
   go_cut[5] (fun v5 W=>∃(gm:Nat) (am:NdA),v5= .pointer (some ⟨gm,0,none⟩)∧wk.heap.size≤gm∧Row W gm (ndArr m am) 58∧Hid (NdAt W B m am)∧Below wk.heap.size wk W)
   case first=>
    go_region_held3 (fun W=>W.cell? ⟨g,0,none⟩=some (.slice T.A T.s.length T.cap)∧W.cell? ⟨w.heap.size,2,none⟩=some (.string q.right.name)) (first|(with_reducible exact HK.out _ (by repeat (first|(with_reducible assumption)|(with_reducible exact Below.refl _ _)|(with_reducible refine Below.drew ?_)|(with_reducible refine below_drewN' ?_ _)|(with_reducible refine Below.alloc ?_ (by first|assumption|omega|(simp;omega)|simp|(simp[World.setCell];omega)|simp[World.setCell]) _)|(with_reducible refine Below.setCell ?_ (by first|assumption|omega|(simp;omega)|simp|(simp[World.setCell];omega)|simp[World.setCell]) _))))|go_keep)
     (first|((go_at_call 37);(refine (HFD.out _ (by repeat (first|(with_reducible assumption)|(with_reducible exact Below.refl _ _)|(with_reducible refine Below.drew ?_)|(with_reducible refine below_drewN' ?_ _)|(with_reducible refine Below.alloc ?_ (by first|assumption|omega|(simp;omega)|simp|(simp[World.setCell];omega)|simp[World.setCell]) _)|(with_reducible refine Below.setCell ?_ (by first|assumption|omega|(simp;omega)|simp|(simp[World.setCell];omega)|simp[World.setCell]) _)))).mono ?_);rintro e w3 ⟨⟨am,rfl,HMA⟩,hb3⟩;(try (have r5:Row w3 wk.heap.size ndZ 58:=(by first|(with_reducible exact Row.below (Row.drew (Row.new wk ndZ 58)) hb3 (by simp))|(with_reducible exact Row.below (Row.new wk.drew ndZ 58) hb3 (by simp)));obtain ⟨⟨x0,x1,x2,x3,x4,x5,x6⟩,g0,g1,g2,g3,g4,g5,g6⟩:=r5.seven));(have hb4:Below wk.heap.size wk w3:=Below.trans (by repeat (first|(with_reducible assumption)|(with_reducible exact Below.refl _ _)|(with_reducible refine Below.drew ?_)|(with_reducible refine below_drewN' ?_ _)|(with_reducible refine Below.alloc ?_ (by first|assumption|omega|(simp;omega)|simp|(simp[World.setCell];omega)|simp[World.setCell]) _)|(with_reducible refine Below.setCell ?_ (by first|assumption|omega|(simp;omega)|simp|(simp[World.setCell];omega)|simp[World.setCell]) _))) (hb3.mono (by first|exact Nat.le_refl _|simp|(simp;omega)|omega)));(have hs4:=hb4.size)))
    all_goals
     refine' zq24
   case rest=>
    obtain ⟨gm,am,rfl,hgm,rgm,HMA,hbc⟩:=hcut
    obtain ⟨w4,rfl⟩:∃w4:World,w4=wc:=⟨_,rfl⟩
    have hs4:=hbc.size
    obtain ⟨c0,c1,cc2,c3,c4,c5,c6⟩:=rgm.nd
    clear HK t0 x2
    refine' zq137
    go_loopw[4,36] (fun v i wr=>∃(k:Nat) (v0:Value),k≤m.outs.length∧i= .int .i64 k∧v0=v∧wr.ownsRow w4.heap.size 3 1 v0 k (intsV ((m.outs.map Vr.ty).take k))∧Below w4.heap.size w4 wr) (fun _ i _=>m.outs.length-(intOf i).toNat)
    case atStart=>exact ⟨0,_,Nat.zero_le _,rfl,rfl,World.ownsRow_nil _ _ _ _,Below.refl _ _⟩
    case round=>
     obtain ⟨k,v,hk,rfl,rfl,hown,hbr⟩:=hrel
     have hszr:=hbr.size
     by_cases hlt:k<m.outs.length
     ·obtain ⟨b,off,x,A',cap',hA,hb,hxk,ok,g1,g2,hxs,d0,d1,d2,d3,d4⟩:=(HMA.out.below (hbr.mono (show B≤w4.heap.size by omega))).so.vr hlt
      rw[hA]
      have HTK:Hid ((m.outs.map Vr.ty).take (k+1)=(m.outs.map Vr.ty).take k++ [x.ty]):=by
       show _=_
       rw[List.take_add_one,List.getElem?_map,hxk];rfl
      refine' zq28
      refine' zq128
      go_upto_region 8 with (fail)
      clear d0 d1 d2 d3 d4
      generalize hW5:wr.alloc (.cells (vrArr x A' cap') 103)=w5 at*
      clear hW5
      obtain ⟨z0,z1,z2,z3,z4⟩:=rx.vr
      have hb5:=hbr.trans (bx.mono hszr)
      have hno:m.outs.length≤8:=HOUT8.out
      go_wp2_with (at_builtin;refine wpList_append_own _ rfl _ _ 34 rfl w4.heap.size 3 i0 (.int .i64 0) 1 8 Tryz.underlying34 hi0 hz0 hz1 hz2 rfl (by decide) _ _ _ rfl (ho2.alloc _) ⟨w5.heap.size,0,none⟩ 1 1 [.int .i64 x.ty] rfl rfl ?c1 ?c2 ?c3 ?c4 ?c5 ?_)
      case c1=>exact cell_one _ _ _
      case c2=>simp[Value.oneCell']
      case c3=>unfold maxLen;omega
      case c4=>omega
      case c5=>simp;omega
      intro v' w6 hown6 hg6 _
      have hb6:Below w4.heap.size w4 w6:=below_own (hb5.alloc (by omega) _) (ho2.alloc _) hg6 (by simp;omega)
      have hown7:w6.ownsRow w4.heap.size 3 1 v' (k+1) (intsV ((m.outs.map Vr.ty).take (k+1))):=by rw[HTK.out,intsV_snoc];exact hown6
      clear hown ho2 hown6 hg6 z0 z1 z2 z3 z4
      go_wp2_with fail
      go_roundw
      case rel=>exact ⟨k+1,_,by omega,by go_num,rfl,hown7,hb6⟩
      case measure=>first|(simp[intOf];omega)|simp[intOf]
     ·obtain rfl:k=m.outs.length:=by omega
      have hown7:IntsO w4.heap.size wr v (m.outs.map Vr.ty):=by
       unfold IntsO
       rw[List.length_map]
       have h2:(m.outs.map Vr.ty).take m.outs.length=m.outs.map Vr.ty:=List.take_of_length_le (by rw[List.length_map];exact Nat.le_refl _)
       rw[h2] at hown
       exact hown
      obtain ⟨q4,c4,rfl,e1,e2,e3⟩:=ints_rd (g:=g) hown7 (by omega) (by rw[List.length_map];exact hout4)
      have hln:(m.outs.map Vr.ty).length=q.left.length:=by rw[←HCM.out];exact HC.out.1
      have HFIN:Hid ((m.outs.map Vr.ty).length=q.left.length∧(m.outs.map Vr.ty).length≤c4∧c4≤maxLen∧IntR wr g q4 (m.outs.map Vr.ty)∧Hid (f2.err=0→m.outs.map Vr.ty=comeOf T.s T.n q)∧Below wk.heap.size wk wr):=⟨hln,e1,e2,e3,fun _=>HCM.out.symm,hbc.trans (hbr.mono hs4)⟩
      clear hown hown7 e1 e2 e3 hln
      go_wp2_with fail
      go_meet
      exact ⟨q4,c4,m.outs.map Vr.ty,rfl,HFIN.out⟩
  ·have o4:=eq_no h4
   have HCM:Hid (comeOf T.s T.n q=[tyK T.s T.n q.right]):=if_neg h4
   have hln: [kk].length=q.left.length:=by have:=HC.out.1;rw[HCM.out] at this;exact this
   have hir:IntR wk g w2.heap.size [kk]:=⟨by omega,by omega,fun i x hi=>by
    match i,hi with
    |0,hi=>injection hi with hi;subst hi;exact (r3.cell 0).trans rfl
    |i+1,hi=>simp at hi⟩
   have HFIN:Hid ([kk].length=q.left.length∧[kk].length≤1∧1≤maxLen∧IntR wk g w2.heap.size [kk]∧Hid (f2.err=0→[kk]=comeOf T.s T.n q)∧Below wk.heap.size wk wk):=⟨hln,Nat.le_refl _,by unfold maxLen;decide,hir,fun g0=>by rw[HCM.out,HKK.out g0],Below.refl _ _⟩
   clear h4 hln hir
   go_wp2_with fail
   go_meet
   exact ⟨w2.heap.size,1,[kk],rfl,HFIN.out⟩
 case rest=>
  obtain ⟨q4,c4,L,rfl,e1,e2,e3,e4,HLC,hbc⟩:=hcut
  obtain ⟨w4,rfl⟩:∃w4:World,w4=wc:=⟨_,rfl⟩
  have HE1:=Lib.hid e1
  have HQ4:=Lib.hid e4
  have hm4:c4≤9223372036854775807:=by unfold maxLen at e3;exact e3
  have hgq:=e4.1
  rw[e1]
  rw[e1] at e2
  have HT4:=Lib.hid (HT3.out.bel hbc)
  have HU4:Hid (UpdM g w w4):=Upd.trans HU3.out (UpdM.of hbc)
  have rq4:=rq3.below hbc rq3.lt
  have hs4:=hbc.size
  clear e1 e3 e4 x0 x1 x2 x3 x4 x5 x6 x7 x8
  obtain ⟨x0,x1,x2,x3,x4,x5,x6,x7,x8⟩:=rq4.eqn
  go_wp2_with fail
  clear x0 x1 x2 x3 x4 x5 x6 x7 x8
  go_loopw[49] (fun i wr=>∃k:Nat,k≤q.left.length∧i= .int .i64 k∧TpL w4 B g T (accF f2 (leftFs T.n q L) k) wr) (fun i _=>q.left.length-(intOf i).toNat)
  case atStart=>exact ⟨0,Nat.zero_le _,rfl,by rw[acc_0 HT4.out.fz];exact HT4.out,Upd.refl _ _⟩
  case round=>
   obtain ⟨k,hk,rfl,ht,hu⟩:=hrel
   refine' zq163
   have rq:=Row.upd hu rq4 (by omega)
   have HQR:=Lib.hid (HQ4.out.upd hu)
   clear ht hu
   by_cases hlt:k<q.left.length
   ·obtain ⟨b,off,nm,hA,hb,hnk,hnsz,hcell⟩:=(HS.out wr (UpdM.bel (Upd.trans HU4.out HU.out) hlo hsB)).str hlt
    subst hA
    obtain ⟨lk,hlk⟩:∃lk,L[k]? =some lk:=⟨_,List.getElem?_eq_getElem (by rw[HE1.out];exact hlt)⟩
    have q0:=HQR.out.2.2 k lk hlk
    have HLF:Hid ((leftFs T.n q L)[k]? =some (needF (tyOf T.n nm==lk) q.line q.col)):=by
     show _=_
     unfold leftFs
     rw[List.getElem?_mapIdx,hnk]
     simp[List.getD,hlk]
    have HACC:Hid (ft2 (accF f2 (leftFs T.n q L) k) (needF (tyOf T.n nm==lk) q.line q.col)=accF f2 (leftFs T.n q L) (k+1)):=(acc_succ HLF.out (need_fz _ _ _)).symm
    have HV:=Lib.hid (svar1_any T.n T.a nm wr HT.out.ndw HNL.out)
    obtain ⟨⟨t0,t1,t2,t3,t4,t5,t6,t7⟩,-⟩:=HT.out.row.tp
    have HLK:=Lib.hid hlk
    clear hnk hlk
    go_wp2_with fail
    refine HV.out.mono ?_
    rintro r w5 ⟨⟨x,A',cap',rfl,HY,HNo⟩,hb5⟩
    have HXT:Hid (x.ty=tyOf T.n nm):=by
     show _=_
     by_cases hm:nm∈nms (vrs T.n)
     ·obtain ⟨k,h1,h2,_⟩:=HY.out hm
      exact (ty_at h1 h2).symm
     ·obtain ⟨rfl,_,_⟩:=HNo.out hm
      rw[ty_no hm]
    obtain ⟨bv,HBV⟩:∃bv,Hid (cB (nm∈nms (vrs T.n))=bv):=⟨_,rfl⟩
    rw[HBV.out]
    have hs5:=hb5.size
    have HT5:=Lib.hid (HT.out.bel hb5)
    have HU5:Hid (UpdM g w4 w5):=Upd.trans HU.out (UpdM.of hb5)
    have rq5:=rq.below hb5 rq.lt
    have HQ5:=Lib.hid (HQR.out.upd (UpdM.of hb5))
    clear HY HNo HBV HV t0 t1 t2 t3 t4 t5 t6 t7 hcell q0
    have bx:Below w5.heap.size w5 (w5.alloc (.cells (vrArr x A' cap') 103)):=(by repeat (first|(with_reducible assumption)|(with_reducible exact Below.refl _ _)|(with_reducible refine Below.drew ?_)|(with_reducible refine below_drewN' ?_ _)|(with_reducible refine Below.alloc ?_ (by first|assumption|omega|(simp;omega)|simp|(simp[World.setCell];omega)|simp[World.setCell]) _)|(with_reducible refine Below.setCell ?_ (by first|assumption|omega|(simp;omega)|simp|(simp[World.setCell];omega)|simp[World.setCell]) _)))
    have rx:=Row.new w5 (vrArr x A' cap') 103
    go_upto_region 14 with (fail)
    generalize hW6:w5.alloc (.cells (vrArr x A' cap') 103)=w6 at*
    clear hW6
    have HT6:=Lib.hid (HT5.out.bel bx)
    have HU6:Hid (UpdM g w4 w6):=Upd.trans HU5.out (UpdM.of bx)
    have rq6:=rq5.below bx rq5.lt
    have q0:=(HQ5.out.upd (UpdM.of bx)).2.2 k lk HLK.out
    have HACC2:Hid (ft2 (accF f2 (leftFs T.n q L) k) (needF (x.ty==lk) q.line q.col)=accF f2 (leftFs T.n q L) (k+1)):=by
     show _=_
     rw[HXT.out]
     exact HACC.out
    obtain ⟨z0,z1,z2,z3,z4⟩:=rx.vr
    obtain ⟨x0,x1,x2,x3,x4,x5,x6,x7,x8⟩:=rq6.eqn
    have i0':(0:Int)≤(k:Int):=by omega
    have i1':(k:Int)<(q.left.length:Int):=by omega
    have HN:=Lib.hid (need_any T (accF f2 (leftFs T.n q L) k) B g (x.ty==lk) q.line q.col w6.drew (HT6.out.bel (by repeat (first|(with_reducible assumption)|(with_reducible exact Below.refl _ _)|(with_reducible refine Below.drew ?_)|(with_reducible refine below_drewN' ?_ _)|(with_reducible refine Below.alloc ?_ (by first|assumption|omega|(simp;omega)|simp|(simp[World.setCell];omega)|simp[World.setCell]) _)|(with_reducible refine Below.setCell ?_ (by first|assumption|omega|(simp;omega)|simp|(simp[World.setCell];omega)|simp[World.setCell]) _)))))
    go_still_tail 10,(by kernel_rfl)
    change wpList _ _ _ _ _ w6.drew
    go_wp2_with fail
    refine HN.out.mono ?_
    rintro r w7 ⟨rfl,ht7,hu7⟩
    rw[HACC2.out] at ht7
    have HT7:=Lib.hid ht7
    have HU7:Hid (UpdM g w4 w7):=Upd.trans (Upd.drew HU6.out) hu7
    clear ht7 hu7 z0 z1 z2 z3 z4 x0 x1 x2 x3 x4 x5 x6 x7 x8 q0
    go_wp2_with fail
    go_roundw
    case rel=>exact ⟨k+1,by omega,by go_num,HT7.out,HU7.out⟩
    case measure=>first|(simp[intOf];omega)|simp[intOf]
   ·obtain rfl:k=q.left.length:=by omega
    have HEA:Hid (accF f2 (leftFs T.n q L) q.left.length=ft2 f (eqnTF T.s T.n q)):=by
     show _=_
     have h1:=acc_all (f:=f2) (l:=leftFs T.n q L)
     rw[show (leftFs T.n q L).length=q.left.length from by unfold leftFs;exact List.length_mapIdx] at h1
     rw[h1]
     unfold eqnTF
     rw[←ft2_assoc,HF2.out]
     by_cases h0:f2.err=0
     ·rw[HLC.out h0,left_come]
     ·rw[ft2_1 h0,ft2_1 h0]
    go_wp2_with fail
    go_end0
    rw[←HEA.out]
    exact ⟨rfl,HT.out,Upd.trans HU4.out HU.out⟩
theorem tcheck_any (s:List Nd) (A:Option Addr) (cap:Nat) (w:World) (sm:SrcSm s) (h1:s.length≤cap) (h2:cap≤maxLen) (h:Nds w w.heap.size A s):
  Calls Tryz.prog 55 #[srcV s A cap] w fun r w'=>r= .returned (ftV (typesF s))∧Below w.heap.size w w':=by
 refine' zq5
 have HMC:=Lib.hid h2
 refine' zq50
 clear h sm
 go_enter Tryz.func55,Tryz.ntmps55
 refine' zq93
 have HF0:Hid (typesF s=ft2 f (fstL (fun _ n=>nodeTF s n) s)):=by show _=_;rw[←HFN.out];rfl
 rw[HFN.out]
 by_cases hf:f.err=0
 rotate_left 1
 ·have hf1:(f.err !=0)=true:=neq_yes hf
  have HF:Hid (typesF s=f):=by show _=_;rw[HF0.out,ft2_1 hf]
  clear hf
  refine' zq147
  refine' zq9
 have hf1:(f.err !=0)=false:=neq_no hf
 have HF1:Hid (typesF s=fstL (fun _ n=>nodeTF s n) s):=by show _=_;rw[HF0.out,ft2_0 hf]
 have HZ:Hid ((scopeF s).err=0):=by show _=_;rw[HFN.out];exact hf
 clear hf
 refine' zq30
 refine' zq46
 have c0:=rs4.src
 clear rs2 rf2 hB2 hs2 ba hl2 HF0
 go_wp2_with fail
 clear c0
 go_loopw[22] (fun i wr=>∃k:Nat,k≤s.length∧i= .int .i64 k∧Hid (∀j,j<k→∀x,s[j]? =some x→(nodeTF s x).err=0)∧Below w4.heap.size w4 wr) (fun i _=>s.length-(intOf i).toNat)
 case atStart=>exact ⟨0,Nat.zero_le _,rfl,fun j h=>absurd h (by omega),Below.refl _ _⟩
 case round=>
  refine' zq62
  have rf:=rf4.below hbr rf4.lt
  have rs:=rs4.below hbr rs4.lt
  have c0:=rs.src
  have hB:=hB4.trans (hbr.mono hs4)
  have hsB:=hB.size
  by_cases hlt:k<s.length
  rotate_left 1
  ·obtain rfl:k=s.length:=by omega
   have HF:Hid (typesF s=ft0):=HF1.out.trans (fstL_end HN.out)
   refine' zq129
   refine' zq17
  refine' zq73
  subst hA
  have HX:=Lib.hid hn
  have hnm:=List.mem_of_getElem? hn
  have HNM:=Lib.hid hnm
  have HNS:=Lib.hid (HSM.out.all n hnm)
  have HL:=Lib.hid (show (vrs n).length≤10000 by have:=HNS.out.len;omega)
  have HKNn:=Lib.hid (scope_kn HZ.out n hnm)
  have gv:=hat.mv
  have gq:=hat.mq
  have lv:=hat.lv
  have lq:=hat.lq
  refine' zq116
  have HAT:Hid (∀W,Below wr.heap.size wr W→NdAt W w.heap.size n a):=fun W hW=>hat.below (hW.mono hsB)
  have HFn:Hid ((nodeTF s n).err≠0→typesF s=nodeTF s n):=fun g=>by
   rw[HF1.out,fstL_stop (f:=fun _ n=>nodeTF s n) HN.out HX.out g]
  have HNF:Hid (nodeTF s n=ft2 (fstl (n.vars.map (clkTF n))) (fstl (n.eqs.map (eqnTF s n)))):=rfl
  have rn1:=Row.new wr (ndArr n a) 58
  refine' zq61
  clear hn hat hnm
  go_upto_region 7 with (fail)
  clear d0 d1 d2 d3 d4 d5 d6 c0
  refine' zq180
  have rf6:=rf.below ba rf.lt
  have rs6:=rs.below ba rs.lt
  have hB6:=hB.trans (ba.mono hsB)
  have hs6:=hB6.size
  refine' zq97
  have c0:=rs6.src
  obtain ⟨e0,e1,e2,e3,e4,e5,e6⟩:=rn1.nd
  have rt0:TpRow (w6.alloc (.cells #[.slice (some ⟨b,off,none⟩) s.length cap,.string n.name,.slice a.ai n.ins.length a.ci,.slice a.ao n.outs.length a.co,.slice a.av n.vars.length a.cv,.slice a.aq n.eqs.length a.cq,.int .i64 n.line,.int .i64 n.col,.int .i64 0,.int .i64 0,.int .i64 0] 180)) w6.heap.size ⟨s,some ⟨b,off,none⟩,cap,n,a⟩ ft0:=Row.new w6 _ _
  have bt:Below w6.heap.size w6 (w6.alloc (.cells #[.slice (some ⟨b,off,none⟩) s.length cap,.string n.name,.slice a.ai n.ins.length a.ci,.slice a.ao n.outs.length a.co,.slice a.av n.vars.length a.cv,.slice a.aq n.eqs.length a.cq,.int .i64 n.line,.int .i64 n.col,.int .i64 0,.int .i64 0,.int .i64 0] 180)):=(by repeat (first|(with_reducible assumption)|(with_reducible exact Below.refl _ _)|(with_reducible refine Below.drew ?_)|(with_reducible refine below_drewN' ?_ _)|(with_reducible refine Below.alloc ?_ (by first|assumption|omega|(simp;omega)|simp|(simp[World.setCell];omega)|simp[World.setCell]) _)|(with_reducible refine Below.setCell ?_ (by first|assumption|omega|(simp;omega)|simp|(simp[World.setCell];omega)|simp[World.setCell]) _)))
  have hsw7:w6.heap.size+1≤(w6.alloc (.cells #[.slice (some ⟨b,off,none⟩) s.length cap,.string n.name,.slice a.ai n.ins.length a.ci,.slice a.ao n.outs.length a.co,.slice a.av n.vars.length a.cv,.slice a.aq n.eqs.length a.cq,.int .i64 n.line,.int .i64 n.col,.int .i64 0,.int .i64 0,.int .i64 0] 180)).heap.size:=by simp
  go_upto_region 8 with (fail)
  clear e0 e1 e2 e3 e4 e5 e6 c0
  generalize hW7:w6.alloc (.cells #[.slice (some ⟨b,off,none⟩) s.length cap,.string n.name,.slice a.ai n.ins.length a.ci,.slice a.ao n.outs.length a.co,.slice a.av n.vars.length a.cv,.slice a.aq n.eqs.length a.cq,.int .i64 n.line,.int .i64 n.col,.int .i64 0,.int .i64 0,.int .i64 0] 180)=w7 at*
  clear hW7
  have rf7:=rf6.below bt rf6.lt
  have rn7:=rn1.below bt rn1.lt
  have hB7:=hB6.trans (bt.mono hs6)
  have hs7:=hB7.size
  have b07:=ba.trans (bt.mono hsa)
  have hwo:=rn1.lt
  have hrf:=rf6.lt
  obtain ⟨g,HG⟩:∃g,Hid (w6.heap.size=g):=⟨_,rfl⟩
  have hgw:w6.heap.size=g:=HG.out
  rw[hgw] at rt0
  rw[show w6.heap.size=g from hgw]
  have hlg:g<w7.heap.size:=by omega
  have hlo:w.heap.size≤g:=by omega
  have hwg:wo.heap.size<g:=by omega
  have hrg:w.heap.size+1<g:=by omega
  have HT7:Hid (TpAt w7 w.heap.size g ⟨s,some ⟨b,off,none⟩,cap,n,a⟩ ft0):=⟨rt0,hlo,HAT.out w7 b07,HS.out w7 hB7,HL.out,h1,HMC.out,fz0⟩
  clear hgw bt rt0
  obtain ⟨e0,e1,e2,e3,e4,e5,e6⟩:=rn7.nd
  go_wp2_with fail
  clear e0 e1 e2 e3 e4 e5 e6
  go_loopw[33] (fun i wr=>∃p:Nat,p≤n.vars.length∧i= .int .i64 p∧TpL w7 w.heap.size g ⟨s,some ⟨b,off,none⟩,cap,n,a⟩ (accF ft0 (n.vars.map (clkTF n)) p) wr) (fun i _=>n.vars.length-(intOf i).toNat)
  case atStart=>exact ⟨0,Nat.zero_le _,rfl,by rw[acc_0 fz0];exact HT7.out,Upd.refl _ _⟩
  case round=>
   obtain ⟨p,hp,rfl,ht,hu⟩:=hrel
   refine' zq163
   have rn8:=Row.upd hu rn7 (by omega)
   clear ht hu
   by_cases hlp:p<n.vars.length
   ·obtain ⟨b',off',x,A',cap',hA,hb',hx,ok,g1,g2,hxs,d0,d1,d2,d3,d4⟩:=HT.out.n.sv.vr hlp
    have hA:a.av=some ⟨b',off',none⟩:=hA
    rw[hA]
    have HACC:Hid (ft2 (accF ft0 (n.vars.map (clkTF n)) p) (clkTF n x)=accF ft0 (n.vars.map (clkTF n)) (p+1)):=(acc_succ (by rw[List.getElem?_map,hx];rfl) clkTF_fz).symm
    have g2':cap'≤9223372036854775807:=by unfold maxLen at g2;omega
    have HXS:Hid (∀W,Below w.heap.size wr W→Sl W w.heap.size 2 isLit A' x.clock):=fun W hW=>lits_keep hxs (keeps_of hW) (Nat.le_refl _)
    have rx:=Row.new wr (vrArr x A' cap') 103
    refine' zq28
    have hsx:wr.heap.size+1≤(wr.alloc (.cells (vrArr x A' cap') 103)).heap.size:=by simp
    clear hA hx hxs ok
    go_upto_region 11 with (fail)
    clear d0 d1 d2 d3 d4
    generalize hW9:wr.alloc (.cells (vrArr x A' cap') 103)=w9 at*
    clear hW9
    have HT9:=Lib.hid (HT.out.bel bx)
    have HU9:=Lib.hid (Upd.trans HU.out (UpdM.of (bm:=g) bx))
    have HB9:Hid (Below w.heap.size wr w9):=bx.mono (by omega)
    obtain ⟨wv,rfl⟩:∃wv:World,wv=wr:=⟨_,rfl⟩
    obtain ⟨z0,z1,z2,z3,z4⟩:=rx.vr
    go_wp2_with fail
    clear z0 z1 z2 z3 z4
    go_loopw[40] (fun i wr=>∃j:Nat,j≤x.clock.length∧i= .int .i64 j∧TpL w9 w.heap.size g ⟨s,some ⟨b,off,none⟩,cap,n,a⟩ (accF (accF ft0 (n.vars.map (clkTF n)) p) (clkTs n x) j) wr) (fun i _=>x.clock.length-(intOf i).toNat)
    case atStart=>exact ⟨0,Nat.zero_le _,rfl,by rw[acc_0 HT9.out.fz];exact HT9.out,Upd.refl _ _⟩
    case round=>
     obtain ⟨j,hj,rfl,ht,hu⟩:=hrel
     have HT10:=Lib.hid ht
     have HU10:=Lib.hid hu
     have hsr2:=hu.size
     have rx10:=Row.upd hu rx (by omega)
     clear ht hu
     by_cases hlj:j<x.clock.length
     ·obtain ⟨b3,off3,c,hA3,hb3,hc,hcn,f0,f1⟩:=(HXS.out wr (HB9.out.trans (UpdM.bel HU10.out hlo (by omega)))).lit hlj
      subst hA3
      have HACC2:Hid (ft2 (accF (accF ft0 (n.vars.map (clkTF n)) p) (clkTs n x) j) (needF (tyOf n c.name==2) x.line x.col)=accF (accF ft0 (n.vars.map (clkTF n)) p) (clkTs n x) (j+1)):=(acc_succ (by unfold clkTs;rw[List.getElem?_map,hc];rfl) (need_fz _ _ _)).symm
      have rl:=Row.new wr #[.string c.name,.bool c.no] 105
      have bl:Below wr.heap.size wr (wr.alloc (.cells #[.string c.name,.bool c.no] 105)):=(by repeat (first|(with_reducible assumption)|(with_reducible exact Below.refl _ _)|(with_reducible refine Below.drew ?_)|(with_reducible refine below_drewN' ?_ _)|(with_reducible refine Below.alloc ?_ (by first|assumption|omega|(simp;omega)|simp|(simp[World.setCell];omega)|simp[World.setCell]) _)|(with_reducible refine Below.setCell ?_ (by first|assumption|omega|(simp;omega)|simp|(simp[World.setCell];omega)|simp[World.setCell]) _)))
      clear hc
      go_upto_region 14 with (fail)
      clear f0 f1
      generalize hW11:wr.alloc (.cells #[.string c.name,.bool c.no] 105)=w11 at*
      clear hW11
      have HT11:=Lib.hid (HT10.out.bel bl)
      have HU11:=Lib.hid (Upd.trans HU10.out (UpdM.of (bm:=g) bl))
      have rx11:=rx10.below bl rx10.lt
      obtain ⟨z0,z1,z2,z3,z4⟩:=rx11.vr
      have y0:=(rl.cell 0).trans rfl
      have HTR:=Lib.hid (truth_any ⟨s,some ⟨b,off,none⟩,cap,n,a⟩ _ w.heap.size g c.name x.line x.col w11 HT11.out)
      go_wp2_with fail
      refine HTR.out.mono ?_
      rintro r w12 ⟨rfl,ht12,hu12⟩
      have ht13:TpAt w12 w.heap.size g ⟨s,some ⟨b,off,none⟩,cap,n,a⟩ (accF (accF ft0 (n.vars.map (clkTF n)) p) (clkTs n x) (j+1)):=by rw[←HACC2.out];exact ht12
      have HT12:=Lib.hid ht13
      have HU12:=Lib.hid (Upd.trans HU11.out hu12)
      clear ht12 ht13 hu12 z0 z1 z2 z3 z4 y0
      go_wp2_with fail
      go_roundw
      case rel=>exact ⟨j+1,by omega,by go_num,HT12.out,HU12.out⟩
      case measure=>first|(simp[intOf];omega)|simp[intOf]
     ·obtain rfl:j=x.clock.length:=by omega
      have HEA:Hid (accF (accF ft0 (n.vars.map (clkTF n)) p) (clkTs n x) x.clock.length=accF ft0 (n.vars.map (clkTF n)) (p+1)):=by
       show _=_
       rw[←HACC.out]
       have:=acc_all (f:=accF ft0 (n.vars.map (clkTF n)) p) (l:=clkTs n x)
       rwa [show (clkTs n x).length=x.clock.length from by unfold clkTs;exact List.length_map _] at this
      rw[HEA.out] at HT10
      go_wp2_with fail
      go_roundw
      case rel=>exact ⟨p+1,by omega,by go_num,HT10.out,Upd.trans HU9.out HU10.out⟩
      case measure=>first|(simp[intOf];omega)|simp[intOf]
   ·obtain rfl:p=n.vars.length:=by omega
    have HEA:Hid (accF ft0 (n.vars.map (clkTF n)) n.vars.length=fstl (n.vars.map (clkTF n))):=by
     show _=_
     have:=acc_all (f:=ft0) (l:=n.vars.map (clkTF n))
     rwa [List.length_map,ft2_l] at this
    rw[HEA.out] at HT
    obtain ⟨w8,rfl⟩:∃w8:World,w8=wr:=⟨_,rfl⟩
    obtain ⟨e0,e1,e2,e3,e4,e5,e6⟩:=rn8.nd
    go_wp2_with fail
    clear e0 e1 e2 e3 e4 e5 e6
    go_loopw[55] (fun i wr=>∃p:Nat,p≤n.eqs.length∧i= .int .i64 p∧TpL w8 w.heap.size g ⟨s,some ⟨b,off,none⟩,cap,n,a⟩ (accF (fstl (n.vars.map (clkTF n))) (n.eqs.map (eqnTF s n)) p) wr) (fun i _=>n.eqs.length-(intOf i).toNat)
    case atStart=>exact ⟨0,Nat.zero_le _,rfl,by rw[acc_0 fz_fstl];exact HT.out,Upd.refl _ _⟩
    case round=>
     obtain ⟨p,hp,rfl,ht,hu⟩:=hrel
     have HT9:=Lib.hid ht
     have HU9:=Lib.hid hu
     have hsr2:=hu.size
     have HUA:=Lib.hid (Upd.trans HU.out hu)
     clear ht hu
     by_cases hlp:p<n.eqs.length
     ·obtain ⟨b',off',q,A1,k1,A2,k2,hA,hb',hq,ok,lq1,mq1,sl1,lq2,mq2,sl2,d0,d1,d2,d3,d4,d5,d6,d7,d8⟩:=HT9.out.n.sq.eqn hlp
      have hA:a.aq=some ⟨b',off',none⟩:=hA
      rw[hA]
      have hqm:=List.mem_of_getElem? hq
      have HACC:Hid (ft2 (accF (fstl (n.vars.map (clkTF n))) (n.eqs.map (eqnTF s n)) p) (eqnTF s n q)=accF (fstl (n.vars.map (clkTF n))) (n.eqs.map (eqnTF s n)) (p+1)):=(acc_succ (by rw[List.getElem?_map,hq];rfl) eqnTF_fz).symm
      refine' zq157
      have bq:Below wr.heap.size wr (wr.alloc (.cells (eqArr q A1 k1 A2 k2) 65)):=(by repeat (first|(with_reducible assumption)|(with_reducible exact Below.refl _ _)|(with_reducible refine Below.drew ?_)|(with_reducible refine below_drewN' ?_ _)|(with_reducible refine Below.alloc ?_ (by first|assumption|omega|(simp;omega)|simp|(simp[World.setCell];omega)|simp[World.setCell]) _)|(with_reducible refine Below.setCell ?_ (by first|assumption|omega|(simp;omega)|simp|(simp[World.setCell];omega)|simp[World.setCell]) _)))
      have HT10:=Lib.hid (HT9.out.bel bq)
      have HQE:=Lib.hid (equation_tany ⟨s,some ⟨b,off,none⟩,cap,n,a⟩ w.heap.size g q _ A1 k1 A2 k2 _ HT10.out ok.right mq1 (strs_keep sl1 (keeps_of (bq.mono (by omega))) (Nat.le_refl _)) lq2 mq2 (sl2.below (bq.mono (by omega))) (tykn_of HZ.out HNM.out hqm) (come_len HZ.out HNM.out hqm) (by have:=(HKNn.out.rt.1 q hqm).2.2.1;omega))
      clear hA hq ok sl1 sl2 hqm
      go_upto_region 20 with (fail)
      clear d0 d1 d2 d3 d4 d5 d6 d7 d8
      generalize hW10:wr.alloc (.cells (eqArr q A1 k1 A2 k2) 65)=w10 at*
      clear hW10
      have HU10:=Lib.hid (Upd.trans HU9.out (UpdM.of (bm:=g) bq))
      obtain ⟨z0,z1,z2,z3,z4,z5,z6,z7,z8⟩:=re.eqn
      go_wp2_with fail
      refine HQE.out.mono ?_
      rintro r w11 ⟨rfl,ht11,hu11⟩
      have ht12:TpAt w11 w.heap.size g ⟨s,some ⟨b,off,none⟩,cap,n,a⟩ (accF (fstl (n.vars.map (clkTF n))) (n.eqs.map (eqnTF s n)) (p+1)):=by rw[←HACC.out];exact ht11
      have HT12:=Lib.hid ht12
      have HU12:=Lib.hid (Upd.trans HU10.out hu11)
      clear ht11 ht12 hu11 z0 z1 z2 z3 z4 z5 z6 z7 z8
      go_wp2_with fail
      go_roundw
      case rel=>exact ⟨p+1,by omega,by go_num,HT12.out,HU12.out⟩
      case measure=>first|(simp[intOf];omega)|simp[intOf]
     ·obtain rfl:p=n.eqs.length:=by omega
      have HEB:Hid (accF (fstl (n.vars.map (clkTF n))) (n.eqs.map (eqnTF s n)) n.eqs.length=nodeTF s n):=by
       show _=_
       have:=acc_all (f:=fstl (n.vars.map (clkTF n))) (l:=n.eqs.map (eqnTF s n))
       rwa [List.length_map,←HNF.out] at this
      rw[HEB.out] at HT9
      have HBD:=Lib.hid (bad_any ⟨s,some ⟨b,off,none⟩,cap,n,a⟩ _ g wr HT9.out.row HT9.out.fz)
      have hbB:=UpdM.bel HUA.out (show w6.heap.size≤g by rw[HG.out];exact Nat.le_refl _) (by omega)
      have hBe:=hB7.trans (UpdM.bel HUA.out hlo (by omega))
      have rfe:=Row.upd HUA.out rf7 (by omega)
      by_cases hbad:(nodeTF s n).err=0
      ·have HB:Hid (badB (nodeTF s n)=false):=neq_no hbad
       have HN':=Lib.hid (step_uptoI (P:=fun _ x=>(nodeTF s x).err=0) HN.out HX.out hbad)
       have hbz:Below w4.heap.size w4 wr:=(hbr.trans (b07.mono hszr)).trans (UpdM.bel HUA.out (by omega) (by omega))
       clear hbad
       go_wp2_with fail
       refine HBD.out.mono ?_
       rintro r w9 ⟨rfl,rfl⟩
       rw[HB.out]
       go_wp2_with fail
       go_roundw
       case rel=>exact ⟨k+1,by omega,by go_num,HN',hbz⟩
       case measure=>first|(simp[intOf];omega)|simp[intOf]
      ·have HB:Hid (badB (nodeTF s n)=true):=neq_yes hbad
       have HF:Hid (typesF s=nodeTF s n):=HFn.out hbad
       clear hbad
       go_wp2_with fail
       refine HBD.out.mono ?_
       rintro r w9 ⟨rfl,rfl⟩
       rw[HB.out]
       obtain ⟨-,t8,t9,t10⟩:=HT9.out.row.tp
       obtain ⟨⟨k0,k1',k2'⟩,g0,g1,g2⟩:=rfe.three
       go_wp2_with fail
       exact bodyPost_ret (res1 rfl Tryz.underlying38 rfl (by kernel_rfl) rfl (rfe.set3 _ _ _)) rfl ⟨(congrArg (fun f=>Ending.returned (ftV f)) HF.out).symm,below_set3 hBe (by first|omega|(simp;omega)|simp) _ _ _⟩
end Go.Proofs.YtdkgkacnjdnpoaaGreat
