/-
  What is wrong first with a node's clocks: the contracts of clock.node and clock.Check.
-/
import Derived.Test.YtdkgkacnjdnpoaaGreatCkA
import Derived.Test.YtdkgkacnjdnpoaaGreatClkD
set_option maxHeartbeats 1000000
set_option maxRecDepth 100000
namespace Go.Proofs.YtdkgkacnjdnpoaaGreat
open Go.RowKit
attribute [local go_sem ↓] Go.wp_at_zero Go.wp_at_succ
theorem cnode_any (n:Nd) (a:NdA) (w:World) (sm:NdSm n) (kn:NdKn n) (hn:NdAt w w.heap.size n a):
  Calls Tryz.prog 103 #[ndV n a] w fun r w'=>r= .returned (ftV (clkNF 0 n))∧Below w.heap.size w w':=by
 have rn1:=(Row.new w (ndArr n a) 58).alloc (.cells ftC0 38)
 have rf1:=rowNew2 w (.cells (ndArr n a) 58) ftC0 38
 have b1:Below w.heap.size w ((w.alloc (.cells (ndArr n a) 58)).alloc (.cells ftC0 38)):=(by repeat (first|(with_reducible assumption)|(with_reducible exact Below.refl _ _)|(with_reducible refine Below.drew ?_)|(with_reducible refine below_drewN' ?_ _)|(with_reducible refine Below.alloc ?_ (by first|assumption|omega|(simp;omega)|simp|(simp[World.setCell];omega)|simp[World.setCell]) _)|(with_reducible refine Below.setCell ?_ (by first|assumption|omega|(simp;omega)|simp|(simp[World.setCell];omega)|simp[World.setCell]) _)))
 have HN:Hid (∀W,Below w.heap.size w W→NdAt W w.heap.size n a):=fun W hW=>hn.below hW
 have HSM:=Lib.hid sm
 have HKN:=Lib.hid kn
 have HO:Hid (∀(nm:ByteArray) W,Below w.heap.size w W→Calls Tryz.prog 147 #[ndV n a,.string nm] W (OfRes n nm W)):=fun nm W hW=>of_any n a nm W ((hn.below hW).more hW.size) sm
 have gv:=hn.mv
 have gq:=hn.mq
 have lv:=hn.lv
 have lq:=hn.lq
 have gv':a.cv≤9223372036854775807:=by unfold maxLen at gv;omega
 have gq':a.cq≤9223372036854775807:=by unfold maxLen at gq;omega
 have HF0:Hid (clkNF 0 n=ft2 (fstL (clkVF n) n.vars) (fstL (clkQF n) n.eqs)):=rfl
 clear hn sm kn
 go_enter Tryz.func103,Tryz.ntmps103
 go_upto_region 1 with (fail)
 generalize (w.alloc (.cells (ndArr n a) 58)).alloc (.cells ftC0 38)=W1 at*
 have hs1:=b1.size
 obtain ⟨c0,c1,cc2,c3,c4,c5,c6⟩:=rn1.nd
 go_wp2_with fail
 clear c0 c1 cc2 c3 c4 c5 c6
 go_loopw[17] (fun i wr=>∃k:Nat,k≤n.vars.length∧i= .int .i64 k∧Hid (∀j,j<k→∀x,n.vars[j]? =some x→(clkVF n j x).err=0)∧Below W1.heap.size W1 wr) (fun i _=>n.vars.length-(intOf i).toNat)
 case atStart=>exact ⟨0,Nat.zero_le _,rfl,fun j h=>absurd h (by omega),Below.refl _ _⟩
 case round=>
  obtain ⟨k,hk,rfl,HJ,hbr⟩:=hrel
  have hszr:=hbr.size
  have rn:=rn1.below hbr rn1.lt
  have rf:=rf1.below hbr rf1.lt
  have hB:=b1.trans (hbr.mono hs1)
  have hsB:=hB.size
  by_cases hlt:k<n.vars.length
  ·obtain ⟨b,off,x,A',cap',hA,hb,hx,ok,g1,g2,hxs,d0,d1,d2,d3,d4⟩:=(HN.out wr hB).sv.vr hlt
   rw[hA]
   have HA:=Lib.hid hA
   have HXK:=Lib.hid hx
   have rx:=Row.new wr (vrArr x A' cap') 103
   have ba:Below wr.heap.size wr (wr.alloc (.cells (vrArr x A' cap') 103)):=(by repeat (first|(with_reducible assumption)|(with_reducible exact Below.refl _ _)|(with_reducible refine Below.drew ?_)|(with_reducible refine below_drewN' ?_ _)|(with_reducible refine Below.alloc ?_ (by first|assumption|omega|(simp;omega)|simp|(simp[World.setCell];omega)|simp[World.setCell]) _)|(with_reducible refine Below.setCell ?_ (by first|assumption|omega|(simp;omega)|simp|(simp[World.setCell];omega)|simp[World.setCell]) _)))
   have hBa:=hB.trans (ba.mono hsB)
   have HR:=Lib.hid (cright_any n a x.clock A' cap' (wr.alloc (.cells (vrArr x A' cap') 103)) HSM.out ((HN.out _ hBa).more hBa.size) g1 g2 (lits_keep hxs (keeps_of (ba.mono hsB)) hBa.size))
   clear hA hx hxs ok
   go_upto_region 4 with (fail)
   clear d0 d1 d2 d3 d4
   generalize hW2:wr.alloc (.cells (vrArr x A' cap') 103)=w2 at*
   clear hW2
   have rn2:=rn.below ba rn.lt
   have rf2:=rf.below ba rf.lt
   have hs2:=ba.size
   have hsBa:=hBa.size
   obtain ⟨d0,d1,d2,d3,d4⟩:=rx.vr
   obtain ⟨c0,c1,cc2,c3,c4,c5,c6⟩:=rn2.nd
   go_wp2_with fail
   refine HR.out.mono ?_
   rintro r w3 ⟨rfl,hb3⟩
   have rf3:=rf2.below hb3 rf2.lt
   have rx3:=rx.below hb3 rx.lt
   have hB3:=hBa.trans (hb3.mono hsBa)
   clear c0 c1 cc2 c3 c4 c5 c6 d0 d1 d2 d3 d4
   obtain ⟨d0,d1,d2,d3,d4⟩:=rx3.vr
   by_cases hP:RightClk n x.clock
   ·have HJ':=Lib.hid (step_uptoI (P:=fun j x=>(clkVF n j x).err=0) HJ.out HXK.out (by rw[clkVF_yes hP]))
    rw[cB_true hP]
    clear hP
    go_wp2_with fail
    go_roundw
    case rel=>exact ⟨k+1,by omega,by go_num,HJ',(hbr.trans (ba.mono hszr)).trans (hb3.mono (by omega))⟩
    case measure=>first|(simp[intOf];omega)|simp[intOf]
   ·have HF:Hid (clkNF 0 n=⟨30,x.line,x.col⟩):=by
     have e:clkVF n k x=⟨30,x.line,x.col⟩:=clkVF_no hP
     have h:=fstL_stop (f:=clkVF n) HJ.out HXK.out (by rw[e];show (30:Int)≠0;decide)
     show _=_
     rw[HF0.out,h,e];rfl
    rw[cB_false hP]
    clear hP
    obtain ⟨⟨k0,k1,k2⟩,g0,g1,g2⟩:=rf3.three
    go_wp2_with fail
    exact bodyPost_ret (res1 rfl Tryz.underlying38 rfl (by kernel_rfl) rfl (rf3.set3 _ _ _)) rfl ⟨(congrArg (fun f=>Ending.returned (ftV f)) HF.out).symm,below_set3 hB3 (by first|omega|(simp;omega)|simp) _ _ _⟩
  ·obtain rfl:k=n.vars.length:=by omega
   have HF1:Hid (clkNF 0 n=fstL (clkQF n) n.eqs):=by
    show _=_
    rw[HF0.out,fstL_end HJ.out,ft2_0 (a:=ft0) rfl]
   clear HJ HF0
   obtain ⟨w3,rfl⟩:∃w3:World,w3=wr:=⟨_,rfl⟩
   obtain ⟨c0,c1,cc2,c3,c4,c5,c6⟩:=rn.nd
   go_wp2_with fail
   clear c0 c1 cc2 c3 c4 c5 c6
   go_loopw[33] (fun i wr=>∃k:Nat,k≤n.eqs.length∧i= .int .i64 k∧Hid (∀j,j<k→∀x,n.eqs[j]? =some x→(clkQF n j x).err=0)∧Below w3.heap.size w3 wr) (fun i _=>n.eqs.length-(intOf i).toNat)
   case atStart=>exact ⟨0,Nat.zero_le _,rfl,fun j h=>absurd h (by omega),Below.refl _ _⟩
   case round=>
    obtain ⟨k,hk,rfl,HJ,hbr2⟩:=hrel
    have hszr2:=hbr2.size
    have rn4:=rn.below hbr2 rn.lt
    have rf4:=rf.below hbr2 rf.lt
    have hB4:=hB.trans (hbr2.mono hsB)
    have hsB4:=hB4.size
    by_cases hlt:k<n.eqs.length
    ·obtain ⟨b,off,q,A1,k1,A2,k2,hA,hb,hq,ok,lq1,mq1,sl1,lq2,mq2,sl2,d0,d1,d2,d3,d4,d5,d6,d7,d8⟩:=(HN.out wr hB4).sq.eqn hlt
     rw[hA]
     have HA:=Lib.hid hA
     have HXK:=Lib.hid hq
     have hqm:=List.mem_of_getElem? hq
     have HQM:=Lib.hid hqm
     have HSQ:=Lib.hid (HSM.out.eq q hqm)
     have HOK:=Lib.hid ok.right
     have HRT:=Lib.hid (HKN.out.rt.1 q hqm)
     have hl1:=HRT.out.2.1
     have HS1:Hid (∀W,Below wr.heap.size wr W→Sl W w.heap.size 1 isStr A1 q.left):=fun W hW=>strs_keep sl1 (keeps_of (hW.mono hsB4)) (Nat.le_refl _)
     have HS2:Hid (∀W,Below wr.heap.size wr W→IsExs W w.heap.size A2 q.right.args):=fun W hW=>exs_keep sl2 (keeps_of (hW.mono hsB4)) (Nat.le_refl _)
     have mq1':k1≤9223372036854775807:=by unfold maxLen at mq1;omega
     have HFn:Hid ((clkQF n k q).err≠0→clkNF 0 n=clkQF n k q):=fun g=>by
      rw[HF1.out,fstL_stop (f:=clkQF n) HJ.out HXK.out g]
     have re:=Row.new wr (eqArr q A1 k1 A2 k2) 65
     have ba:Below wr.heap.size wr (wr.alloc (.cells (eqArr q A1 k1 A2 k2) 65)):=(by repeat (first|(with_reducible assumption)|(with_reducible exact Below.refl _ _)|(with_reducible refine Below.drew ?_)|(with_reducible refine below_drewN' ?_ _)|(with_reducible refine Below.alloc ?_ (by first|assumption|omega|(simp;omega)|simp|(simp[World.setCell];omega)|simp[World.setCell]) _)|(with_reducible refine Below.setCell ?_ (by first|assumption|omega|(simp;omega)|simp|(simp[World.setCell];omega)|simp[World.setCell]) _)))
     obtain ⟨bs,offs,nm0,hAs,hbs,hy0,ys0,f0⟩:=(HS1.out wr (Below.refl _ _)).str (k:=0) (by omega)
     subst hAs
     have HCK:=Lib.hid (eqClk_head (n:=n) hy0)
     clear hA hq ok sl1 sl2 hqm hy0
     go_upto_region 10 with (fail)
     clear d0 d1 d2 d3 d4 d5 d6 d7 d8
     generalize hW6:wr.alloc (.cells (eqArr q (some ⟨bs,offs,none⟩) k1 A2 k2) 65)=w6 at*
     clear hW6
     have hsa:=ba.size
     have rn6:=rn4.below ba rn4.lt
     have rf6:=rf4.below ba rf4.lt
     have hB6:=hB4.trans (ba.mono hsB4)
     have hs6:=hB6.size
     have f6:=old_cell ba f0
     obtain ⟨d0,d1,d2,d3,d4,d5,d6,d7,d8⟩:=re.eqn
     obtain ⟨c0,c1,cc2,c3,c4,c5,c6⟩:=rn6.nd
     have HON:=Lib.hid (HO.out nm0)
     have i0:(0:Int)<(q.left.length:Int):=by omega
     have i4:0<q.left.length:=by omega
     have HK:Hid (∀W,Below w6.heap.size w6 W→(W.cell? ⟨w.heap.size,0,none⟩=some (.string n.name)∧W.cell? ⟨w.heap.size,1,none⟩=some (.slice a.ai n.ins.length a.ci)∧W.cell? ⟨w.heap.size,2,none⟩=some (.slice a.ao n.outs.length a.co)∧W.cell? ⟨w.heap.size,3,none⟩=some (.slice a.av n.vars.length a.cv)∧W.cell? ⟨w.heap.size,4,none⟩=some (.slice a.aq n.eqs.length a.cq)∧W.cell? ⟨w.heap.size,5,none⟩=some (.int .i64 n.line)∧W.cell? ⟨w.heap.size,6,none⟩=some (.int .i64 n.col))∧W.cell? ⟨wr.heap.size,0,none⟩=some (.slice (some ⟨bs,offs,none⟩) q.left.length k1)∧W.cell? ⟨bs,offs,none⟩=some (.string nm0)):=fun W hW=>⟨(rn6.below hW rn6.lt).nd,old_cell hW d0,old_cell hW f6⟩
     go_cut[7] (fun v7 W=>∃A0 x0,v7= .slice A0 (eqClk n q).length x0∧(eqClk n q).length≤x0∧x0≤maxLen∧Hid (Sl W W.heap.size 2 isLit A0 (eqClk n q))∧Below w6.heap.size w6 W)
     case first=>
      go_region_held3 (fun W=>(W.cell? ⟨w.heap.size,0,none⟩=some (.string n.name)∧W.cell? ⟨w.heap.size,1,none⟩=some (.slice a.ai n.ins.length a.ci)∧W.cell? ⟨w.heap.size,2,none⟩=some (.slice a.ao n.outs.length a.co)∧W.cell? ⟨w.heap.size,3,none⟩=some (.slice a.av n.vars.length a.cv)∧W.cell? ⟨w.heap.size,4,none⟩=some (.slice a.aq n.eqs.length a.cq)∧W.cell? ⟨w.heap.size,5,none⟩=some (.int .i64 n.line)∧W.cell? ⟨w.heap.size,6,none⟩=some (.int .i64 n.col))∧W.cell? ⟨wr.heap.size,0,none⟩=some (.slice (some ⟨bs,offs,none⟩) q.left.length k1)∧W.cell? ⟨bs,offs,none⟩=some (.string nm0)) (first|(with_reducible exact HK.out _ (by repeat (first|(with_reducible assumption)|(with_reducible exact Below.refl _ _)|(with_reducible refine Below.drew ?_)|(with_reducible refine below_drewN' ?_ _)|(with_reducible refine Below.alloc ?_ (by first|assumption|omega|(simp;omega)|simp|(simp[World.setCell];omega)|simp[World.setCell]) _)|(with_reducible refine Below.setCell ?_ (by first|assumption|omega|(simp;omega)|simp|(simp[World.setCell];omega)|simp[World.setCell]) _))))|go_keep)
       (first|((go_at_call 147);(refine (HON.out _ (hB6.trans (Below.mono (B:=w6.heap.size) (by repeat (first|(with_reducible assumption)|(with_reducible exact Below.refl _ _)|(with_reducible refine Below.drew ?_)|(with_reducible refine below_drewN' ?_ _)|(with_reducible refine Below.alloc ?_ (by first|assumption|omega|(simp;omega)|simp|(simp[World.setCell];omega)|simp[World.setCell]) _)|(with_reducible refine Below.setCell ?_ (by first|assumption|omega|(simp;omega)|simp|(simp[World.setCell];omega)|simp[World.setCell]) _))) hs6))).mono ?_);rintro e w3 ⟨⟨A3,cap3,rfl,l3,m3,s3⟩,hb3⟩;(rw[←HCK.out] at l3 s3⊢);(have hb4:Below w6.heap.size w6 w3:=Below.trans (by repeat (first|(with_reducible assumption)|(with_reducible exact Below.refl _ _)|(with_reducible refine Below.drew ?_)|(with_reducible refine below_drewN' ?_ _)|(with_reducible refine Below.alloc ?_ (by first|assumption|omega|(simp;omega)|simp|(simp[World.setCell];omega)|simp[World.setCell]) _)|(with_reducible refine Below.setCell ?_ (by first|assumption|omega|(simp;omega)|simp|(simp[World.setCell];omega)|simp[World.setCell]) _))) (hb3.mono (by first|exact Nat.le_refl _|simp|(simp;omega)|omega)));(have hs4:=hb4.size)))
      all_goals
       go_wp2_with fail
       go_meet
       exact ⟨A3,cap3,rfl,l3,m3,(by exact s3),(by repeat (first|(with_reducible assumption)|(with_reducible exact Below.refl _ _)|(with_reducible refine Below.drew ?_)|(with_reducible refine below_drewN' ?_ _)|(with_reducible refine Below.alloc ?_ (by first|assumption|omega|(simp;omega)|simp|(simp[World.setCell];omega)|simp[World.setCell]) _)|(with_reducible refine Below.setCell ?_ (by first|assumption|omega|(simp;omega)|simp|(simp[World.setCell];omega)|simp[World.setCell]) _)))⟩
     case rest=>
      obtain ⟨A0,x0,rfl,l3,m3,HS3,hbc⟩:=hcut
      have rn7:=rn6.below hbc rn6.lt
      have rf7:=rf6.below hbc rf6.lt
      have re7:=re.below hbc re.lt
      have hB7:=hB6.trans (hbc.mono hs6)
      have hs7:=hB7.size
      have b67:=ba.trans (hbc.mono hsa)
      clear c0 c1 cc2 c3 c4 c5 c6 d0 d1 d2 d3 d4 d5 d6 d7 d8 HK f6 f0
      obtain ⟨w7,rfl⟩:∃w7:World,w7=wc:=⟨_,rfl⟩
      obtain ⟨d0,d1,d2,d3,d4,d5,d6,d7,d8⟩:=re7.eqn
      obtain ⟨wo,rfl⟩:∃wo:World,wo=wr:=⟨_,rfl⟩
      go_wp2_with fail
      clear d0 d1 d2 d3 d4 d5 d6 d7 d8
      go_loopw[49] (fun i wr=>∃p:Nat,p≤q.left.length∧i= .int .i64 p∧Hid (∀j,j<p→∀x,q.left[j]? =some x→clockOf n x=eqClk n q)∧Below w7.heap.size w7 wr) (fun i _=>q.left.length-(intOf i).toNat)
      case atStart=>exact ⟨0,Nat.zero_le _,rfl,fun j h=>absurd h (by omega),Below.refl _ _⟩
      case round=>
       obtain ⟨p,hp,rfl,HP,hbq⟩:=hrel
       have hszq:=hbq.size
       have rn8:=rn7.below hbq rn7.lt
       have rf8:=rf7.below hbq rf7.lt
       have re8:=re7.below hbq re7.lt
       have hB8:=hB7.trans (hbq.mono hs7)
       have hsB8:=hB8.size
       have b68:=b67.trans (hbq.mono b67.size)
       obtain ⟨c0,c1,cc2,c3,c4,c5,c6⟩:=rn8.nd
       obtain ⟨d0,d1,d2,d3,d4,d5,d6,d7,d8⟩:=re8.eqn
       by_cases hlp:p<q.left.length
       ·obtain ⟨b',off',nm,hA',hb',hy,ys,f0⟩:=(HS1.out wr b68).str hlp
        injection hA' with hA'
        injection hA' with hA1 hA2
        subst hA1;subst hA2
        have HY:=Lib.hid hy
        have HR:=Lib.hid (HO.out nm wr hB8)
        clear hy
        go_wp2_with fail
        refine HR.out.mono ?_
        rintro r w9 ⟨⟨A4,cap4,rfl,l4,m4,s4⟩,hb9⟩
        have hB9:=hB8.trans (hb9.mono hsB8)
        have hs9:=hb9.size
        have b79:=hbq.trans (hb9.mono hszq)
        have HE:=Lib.hid (eqLits_any (eqClk n q) (clockOf n nm) A0 A4 x0 cap4 w9.heap.size w9 l3 m3 (lits_keep HS3.out (keeps_of b79) b79.size) l4 m4 s4)
        have re9:=re8.below hb9 re8.lt
        have rf9:=rf8.below hb9 rf8.lt
        clear s4 c0 c1 cc2 c3 c4 c5 c6 d0 d1 d2 d3 d4 d5 d6 d7 d8 f0
        go_wp2_with fail
        refine HE.out.mono ?_
        rintro r w10 ⟨rfl,nn,rfl⟩
        by_cases hP:clockOf n nm=eqClk n q
        ·have HP':=Lib.hid (step_uptoI (P:=fun _ x=>clockOf n x=eqClk n q) HP.out HY.out hP)
         rw[cB_true hP.symm]
         clear hP
         have b10:=below_drewN' b79 nn
         go_wp2_with fail
         go_roundw
         case rel=>exact ⟨p+1,by omega,by go_num,HP',b10⟩
         case measure=>first|(simp[intOf];omega)|simp[intOf]
        ·have HF:Hid (clkNF 0 n=⟨30,q.line,q.col⟩):=by
          have e:=clkQF_bad (i:=k) (List.mem_of_getElem? HY.out) hP
          exact (HFn.out (by rw[e];show (30:Int)≠0;decide)).trans e
         rw[cB_false (fun g=>hP g.symm)]
         clear hP
         have re10:=re9.drewN nn
         have rf10:=rf9.drewN nn
         have hB10:=below_drewN' hB9 nn
         generalize w9.drewN nn=w10 at*
         obtain ⟨d0,d1,d2,d3,d4,d5,d6,d7,d8⟩:=re10.eqn
         obtain ⟨⟨k0,k1',k2'⟩,g0,g1,g2⟩:=rf10.three
         go_wp2_with fail
         exact bodyPost_ret (res1 rfl Tryz.underlying38 rfl (by kernel_rfl) rfl (rf10.set3 _ _ _)) rfl ⟨(congrArg (fun f=>Ending.returned (ftV f)) HF.out).symm,below_set3 hB10 (by first|omega|(simp;omega)|simp) _ _ _⟩
       ·obtain rfl:p=q.left.length:=by omega
        have HEQ:Hid (clkQF n k q=fitsP n q.right (eqClk n q)):=clkQF_ok (fun nm hm=>by
         obtain ⟨j,hj⟩:=List.getElem?_of_mem hm
         exact HP.out j (List.getElem?_eq_some_iff.1 hj).1 nm hj)
        have hcl:(eqClk n q).length≤6:=clock_small HSM.out _
        have b78:=hbq
        have HR:=Lib.hid (fits_any n a HSM.out q.right A2 k2 (eqClk n q) A0 x0 wr ((HN.out wr hB8).more hsB8) HOK.out lq2 mq2 (exs_keep (HS2.out wr b68) (fun _ _ _ h=>h) hsB8) (kn_args HKN.out HQM.out) (by have:=HSQ.out.right.size;omega) l3 m3 (lits_keep HS3.out (keeps_of hbq) hszq))
        obtain ⟨f,HFX⟩:∃f,Hid (fitsP n q.right (eqClk n q)=f):=⟨_,rfl⟩
        rw[HFX.out] at HR HEQ
        go_wp2_with fail
        refine HR.out.mono ?_
        rintro r w9 ⟨rfl,hb9⟩
        have rf9:=rf8.below hb9 rf8.lt
        have hB9:=hB8.trans (hb9.mono hsB8)
        have hs9:=hb9.size
        have hsB9:=hB9.size
        have hl9:=rf9.lt
        by_cases hf:f.err=0
        ·have hf1:(f.err !=0)=false:=neq_no hf
         have HJ':=Lib.hid (step_uptoI (P:=fun j x=>(clkQF n j x).err=0) HJ.out HXK.out (by rw[HEQ.out];exact hf))
         have b9:Below w3.heap.size w3 (w9.alloc (.cells (ftC f) 38)):=((hbr2.trans (b68.mono hszr2)).trans (hb9.mono (by have:=b68.size;omega))).alloc (by have:=b68.size;omega) _
         clear hf
         go_wp2_with fail
         go_roundw
         case rel=>exact ⟨k+1,by omega,by go_num,HJ',b9⟩
         case measure=>first|(simp[intOf];omega)|simp[intOf]
        ·have hf1:(f.err !=0)=true:=neq_yes hf
         have HF:Hid (clkNF 0 n=f):=(HFn.out (by rw[HEQ.out];exact hf)).trans HEQ.out
         clear hf
         obtain ⟨⟨k0,k1',k2'⟩,g0,g1,g2⟩:=rf9.three
         go_wp2_with fail
         exact bodyPost_ret (res1 rfl Tryz.underlying38 rfl (by kernel_rfl) rfl ((rf9.set3 _ _ _).alloc _)) rfl ⟨(congrArg (fun f=>Ending.returned (ftV f)) HF.out).symm,(below_set3 hB9 (by first|omega|(simp;omega)|simp) _ _ _).alloc (by first|(simp[World.setCell];omega)|simp[World.setCell]) _⟩
    ·obtain rfl:k=n.eqs.length:=by omega
     have HF:Hid (clkNF 0 n=ft0):=HF1.out.trans (fstL_end HJ.out)
     obtain ⟨⟨k0,k1,k2⟩,g0,g1,g2⟩:=rf4.three
     go_wp2_with fail
     exact bodyPost_ret (res1 rfl Tryz.underlying38 rfl (by kernel_rfl) rfl (rf4.set3 _ _ _)) rfl ⟨(congrArg (fun f=>Ending.returned (ftV f)) HF.out).symm,below_set3 hB4 (by first|omega|(simp;omega)|simp) _ _ _⟩
def ClkAt (s:List Nd) (k:Nat) (f:Ft):Prop:=(f=ft0∧(scopeF s).err=0∧∀j,j<k→∀x,s[j]? =some x→(clkNF j x).err=0)∨(f.err≠0∧clockF s=f)
theorem ccheck_any (s:List Nd) (A:Option Addr) (cap:Nat) (w:World) (sm:SrcSm s) (h1:s.length≤cap) (h2:cap≤maxLen) (h:Nds w w.heap.size A s):
  Calls Tryz.prog 57 #[srcV s A cap] w fun r w'=>r= .returned (ftV (clockF s))∧Below w.heap.size w w':=by
 have rf1:=rowNew2 w (.cells #[.slice A s.length cap] 24) ftC0 38
 have rs1:=(Row.new w #[.slice A s.length cap] 24).alloc (.cells ftC0 38)
 have b1:Below w.heap.size w ((w.alloc (.cells #[.slice A s.length cap] 24)).alloc (.cells ftC0 38)):=(by repeat (first|(with_reducible assumption)|(with_reducible exact Below.refl _ _)|(with_reducible refine Below.drew ?_)|(with_reducible refine below_drewN' ?_ _)|(with_reducible refine Below.alloc ?_ (by first|assumption|omega|(simp;omega)|simp|(simp[World.setCell];omega)|simp[World.setCell]) _)|(with_reducible refine Below.setCell ?_ (by first|assumption|omega|(simp;omega)|simp|(simp[World.setCell];omega)|simp[World.setCell]) _)))
 have HS:Hid (∀W,Below w.heap.size w W→Nds W w.heap.size A s):=fun W hW=>nds_keep h (keeps_of hW) (Nat.le_refl _)
 have HSM:=Lib.hid sm
 have h2':cap≤9223372036854775807:=by unfold maxLen at h2;omega
 clear h sm
 go_enter Tryz.func57,Tryz.ntmps57
 go_upto_region 1 with (fail)
 generalize (w.alloc (.cells #[.slice A s.length cap] 24)).alloc (.cells ftC0 38)=W1 at*
 have hs1:=b1.size
 have c0:=rs1.src
 go_wp2_with fail
 refine (check15_any s A cap W1 HSM.out h1 h2 (nds_keep (HS.out W1 b1) (fun _ _ _ h=>h) hs1)).mono ?_
 rintro r w2 ⟨rfl,hb2⟩
 have rs2:=rs1.below hb2 rs1.lt
 have rf2:=rf1.below hb2 rf1.lt
 have hB2:=b1.trans (hb2.mono hs1)
 have hs2:=hB2.size
 have HC0:Hid (ClkAt s 0 (scopeF s)):=by
  by_cases g:(scopeF s).err=0
  ·refine .inl ⟨?_,g,fun j h=>absurd h (by omega)⟩
   have hr:=scope_rt g
   rw[scopeF_rt hr] at g⊢
   obtain ⟨g1,g2⟩:=ft2_ok g
   obtain ⟨g3,g4⟩:=ft2_ok g2
   rw[ft2_0 g1,ft2_0 g3]
   unfold mainF at g4⊢
   split at g4
   ·exact absurd g4 (by show ¬(27:Int)=0;decide)
   ·rw[if_neg ‹_›]
  ·exact .inr ⟨g,ft2_1 g⟩
 obtain ⟨f,HFN⟩:∃f,Hid (scopeF s=f):=⟨_,rfl⟩
 rw[HFN.out] at HC0⊢
 have rg2:=Row.new w2 (ftC f) 38
 have ba:Below w2.heap.size w2 (w2.alloc (.cells (ftC f) 38)):=(by repeat (first|(with_reducible assumption)|(with_reducible exact Below.refl _ _)|(with_reducible refine Below.drew ?_)|(with_reducible refine below_drewN' ?_ _)|(with_reducible refine Below.alloc ?_ (by first|assumption|omega|(simp;omega)|simp|(simp[World.setCell];omega)|simp[World.setCell]) _)|(with_reducible refine Below.setCell ?_ (by first|assumption|omega|(simp;omega)|simp|(simp[World.setCell];omega)|simp[World.setCell]) _)))
 have rs3:=rs2.below ba rs2.lt
 have rf3:=rf2.below ba rf2.lt
 have hB3:=hB2.trans (ba.mono hs2)
 have hgf:w.heap.size≤w2.heap.size:=hs2
 have hne1:w.heap.size≠w2.heap.size:=by have:=rs2.lt;omega
 have hne2:w.heap.size+1≠w2.heap.size:=by have:=rf2.lt;omega
 clear c0 rs1 rf1 b1 hb2 hs1
 go_upto_region 2 with (fail)
 generalize hW3:w2.alloc (.cells (ftC f) 38)=w3 at*
 clear hW3
 generalize hG:w2.heap.size=gf at*
 clear hG
 go_wp2_with fail
 clear rs2 rf2 hB2 hs2 ba
 go_loopw[4] (fun i wr=>∃(k:Nat) (f:Ft),k≤s.length∧i= .int .i64 k∧Hid (ClkAt s k f)∧Row wr w.heap.size #[.slice A s.length cap] 24∧Row wr (w.heap.size+1) ftC0 38∧Row wr gf (ftC f) 38∧Below w.heap.size w wr) (fun i _=>s.length-(intOf i).toNat)
 case atStart=>exact ⟨0,f,Nat.zero_le _,rfl,HC0,rs3,rf3,rg2,hB3⟩
 case round=>
  obtain ⟨k,f,hk,rfl,HC,rs,rf,rg,hB⟩:=hrel
  have hsB:=hB.size
  have c0:=rs.src
  obtain ⟨⟨y0,y1,y2⟩,p0,p1,p2⟩:=rg.three
  by_cases hf:f.err=0
  rotate_left 1
  ·have hf1:(f.err==0)=false:=eq_no hf
   have HF:Hid (clockF s=f):=HC.out.elim (fun g=>absurd (show f.err=0 by rw[g.1]) hf) (fun g=>g.2)
   clear hf
   obtain ⟨⟨k0,k1,k2⟩,g0,g1,g2⟩:=rf.three
   by_cases hlt:k<s.length
   ·go_wp2_with fail
    exact bodyPost_ret (res1 rfl Tryz.underlying38 rfl (by kernel_rfl) rfl (rf.set3 _ _ _)) rfl ⟨(congrArg (fun f=>Ending.returned (ftV f)) HF.out).symm,below_set3 hB (by first|omega|(simp;omega)|simp) _ _ _⟩
   ·obtain rfl:k=s.length:=by omega
    go_wp2_with fail
    exact bodyPost_ret (res1 rfl Tryz.underlying38 rfl (by kernel_rfl) rfl (rf.set3 _ _ _)) rfl ⟨(congrArg (fun f=>Ending.returned (ftV f)) HF.out).symm,below_set3 hB (by first|omega|(simp;omega)|simp) _ _ _⟩
  have hf1:(f.err==0)=true:=eq_yes hf
  obtain ⟨hf0,hz,HN⟩:f=ft0∧(scopeF s).err=0∧Hid (∀j,j<k→∀x,s[j]? =some x→(clkNF j x).err=0):=HC.out.elim (fun g=>g) (fun g=>absurd hf g.1)
  have HZ:=Lib.hid hz
  have HF0:=Lib.hid hf0
  clear hf hz hf0
  by_cases hlt:k<s.length
  ·obtain ⟨b,off,n,a,hA,hb,hn,hat,d0,d1,d2,d3,d4,d5,d6⟩:=(HS.out wr hB).nd hlt
   subst hA
   have HX:=Lib.hid hn
   have hnm:=List.mem_of_getElem? hn
   have HR:=Lib.hid (cnode_any n a wr (HSM.out.all n hnm) (scope_kn HZ.out n hnm) (hat.more hsB))
   obtain ⟨f',HFX⟩:∃f,Hid (clkNF 0 n=f):=⟨_,rfl⟩
   rw[HFX.out] at HR
   have HC':Hid (ClkAt s (k+1) f'):=by
    have e:clkNF k n=f':=HFX.out
    by_cases g:f'.err=0
    ·refine .inl ⟨?_,HZ.out,step_uptoI (P:=fun j x=>(clkNF j x).err=0) HN.out HX.out (by rw[e];exact g)⟩
     rw[←HFX.out] at g⊢
     exact clkNF_zero g
    ·refine .inr ⟨g,?_⟩
     unfold clockF
     rw[ft2_0 HZ.out,fstL_stop (f:=clkNF) HN.out HX.out (by rw[e];exact g),e]
   have i0:(0:Int)≤(k:Int):=by omega
   have i1:(k:Int)<(s.length:Int):=by omega
   clear hn hat hnm
   go_wp2_with fail
   refine HR.out.mono ?_
   rintro r w5 ⟨rfl,hb5⟩
   have rs5:=rs.below hb5 rs.lt
   have rf5:=rf.below hb5 rf.lt
   have rg5:=rg.below hb5 rg.lt
   have hB5:=hB.trans (hb5.mono hsB)
   clear c0 d0 d1 d2 d3 d4 d5 d6 y0 y1 y2 p0 p1 p2
   obtain ⟨⟨y0,y1,y2⟩,p0,p1,p2⟩:=rg5.three
   go_wp2_with fail
   go_roundw
   case rel=>exact ⟨k+1,f',by omega,by go_num,HC',rs5.far3 hne1 _ _ _,rf5.far3 hne2 _ _ _,rg5.set3 _ _ _,below_set3 hB5 hgf _ _ _⟩
   case measure=>first|(simp[intOf];omega)|simp[intOf]
  ·obtain rfl:k=s.length:=by omega
   have HF:Hid (clockF s=f):=by
    show _=_
    unfold clockF
    rw[ft2_0 HZ.out,fstL_end HN.out,HF0.out]
   obtain ⟨⟨k0,k1,k2⟩,g0,g1,g2⟩:=rf.three
   go_wp2_with fail
   exact bodyPost_ret (res1 rfl Tryz.underlying38 rfl (by kernel_rfl) rfl (rf.set3 _ _ _)) rfl ⟨(congrArg (fun f=>Ending.returned (ftV f)) HF.out).symm,below_set3 hB (by first|omega|(simp;omega)|simp) _ _ _⟩
end Go.Proofs.YtdkgkacnjdnpoaaGreat
