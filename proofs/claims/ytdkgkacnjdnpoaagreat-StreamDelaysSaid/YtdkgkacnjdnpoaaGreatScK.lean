/-
  What is wrong first with a node's equations: the contract of scope.equations.
-/
import Derived.Test.YtdkgkacnjdnpoaaGreatScI
set_option maxHeartbeats 1000000
set_option maxRecDepth 100000
namespace Go.Proofs.YtdkgkacnjdnpoaaGreat
open Go.RowKit
theorem catTo_two (s1 s2:Vsl):catTo [s1,s2] 2=s1.l++s2.l:=by simp[catTo]
theorem equations_any (s:List Nd) (A:Option Addr) (cap:Nat) (n:Nd) (a:NdA) (w:World) (h1:s.length≤cap) (h2:cap≤maxLen) (sm:NdSm n) (hs:Nds w w.heap.size A s) (hn:NdAt w w.heap.size n a):
  Calls Tryz.prog 97 #[srcV s A cap,ndV n a] w fun r w'=>r= .returned (ftV (equationsF s n))∧Below w.heap.size w w':=by
 have hmm:= @run_makeMap Tryz.prog
 have rs1:=((Row.new w #[.slice A s.length cap] 24).alloc (.cells (ndArr n a) 58)).alloc (.cells ftC0 38)
 have rn1:=(rowNew2 w (.cells #[.slice A s.length cap] 24) (ndArr n a) 58).alloc (.cells ftC0 38)
 have rf1:=rowNew3 w (.cells #[.slice A s.length cap] 24) (.cells (ndArr n a) 58) ftC0 38
 have b1:Below w.heap.size w (((w.alloc (.cells #[.slice A s.length cap] 24)).alloc (.cells (ndArr n a) 58)).alloc (.cells ftC0 38)):=bE
 have HS:Hid (∀W,Keeps w.heap.size w W→Nds W w.heap.size A s):=fun W hW=>nds_keep hs hW (Nat.le_refl _)
 have HN:Hid (∀W,Keeps w.heap.size w W→NdAt W w.heap.size n a):=fun W hW=>hn.keep hW (Nat.le_refl _)
 have HL:=Lib.hid (show (vrs n).length≤10000 by have:=sm.len;omega)
 have HSM:=Lib.hid sm
 have HML:=Lib.hid (metTo_len sm)
 have gi:=hn.mi
 have go:=hn.mo
 have gv:=hn.mv
 have gq:=hn.mq
 have hnv:=hn.lv
 have hli:=hn.li
 have hlo:=hn.lo
 have hlq:=hn.lq
 have hil:=sm.ins
 have hol:=sm.outs
 have hvl:=sm.vars
 have h2':cap≤9223372036854775807:=by unfold maxLen at h2;omega
 have gi':a.ci≤9223372036854775807:=by unfold maxLen at gi;omega
 have go':a.co≤9223372036854775807:=by unfold maxLen at go;omega
 have gv':a.cv≤9223372036854775807:=by unfold maxLen at gv;omega
 have gq':a.cq≤9223372036854775807:=by unfold maxLen at gq;omega
 have HF0:Hid (equationsF s n=ft2 (fstL (eqnF s n) n.eqs) (fstL (defF n) (n.outs++n.vars))):=rfl
 clear hs hn sm
 go_enter Tryz.func97,Tryz.ntmps97
 go_upto_region 1 with (fail)
 generalize ((w.alloc (.cells #[.slice A s.length cap] 24)).alloc (.cells (ndArr n a) 58)).alloc (.cells ftC0 38)=W1 at*
 have hs1:=b1.size
 have mt2:=(met_made W1).alloc (.cells #[.map (some W1.heap.size)] 85)
 have rm2:=rowNew2 W1 (.map #[] 0) #[.map (some W1.heap.size)] 85
 have b2:Below W1.heap.size W1 ((W1.alloc (.map #[] 0)).alloc (.cells #[.map (some W1.heap.size)] 85)):=bE
 go_upto_region 2 with (fail)
 clear hmm
 have rs2:=rs1.below b2 rs1.lt
 have rn2:=rn1.below b2 rn1.lt
 have rf2:=rf1.below b2 rf1.lt
 have hB2:=b1.trans (b2.mono hs1)
 generalize hW2:(W1.alloc (.map #[] 0)).alloc (.cells #[.map (some W1.heap.size)] 85)=W2 at*
 clear hW2
 have hs2:=hB2.size
 have hbm:w.heap.size≤W1.heap.size:=hs1
 have hlm:=rm2.lt
 generalize hbmm:W1.heap.size=bm at*
 clear hbmm rs1 rn1 rf1 b1 b2 hs1
 obtain ⟨c0,c1,cc2,c3,c4,c5,c6⟩:=rn2.nd
 go_wp2_with fail
 clear c0 c1 cc2 c3 c4 c5 c6
 go_loopw[17] (fun i wr=>∃k:Nat,k≤n.ins.length∧i= .int .i64 k∧MetIs wr bm ((nms n.ins).take k)∧UpdM bm W2 wr) (fun i _=>n.ins.length-(intOf i).toNat)
 case atStart=>exact ⟨0,Nat.zero_le _,rfl,mt2,Upd.refl _ _⟩
 case round=>
  obtain ⟨k,hk,rfl,mtr,hu⟩:=hrel
  have hszr:=hu.size
  have rm:=hu.row mt2 rm2
  have hB:Below w.heap.size w wr:=hB2.trans (Upd.below hu (fun k hk=>by omega) hs2)
  have hsB:=hB.size
  by_cases hlt:k<n.ins.length
  ·obtain ⟨b,off,x,A',cap',hA,hb,hx,ok,g1,g2,hxs,d0,d1,d2,d3,d4⟩:=(HN.out wr (keeps_of hB)).si.vr hlt
   rw[hA]
   have HA:=Lib.hid hA
   have hnm:=ok.name
   have HTK:Hid ((nms n.ins).take (k+1)=(nms n.ins).take k++ [x.name]):=by
    show _=_
    rw[List.take_add_one,map_get Vr.name hx];rfl
   have rx:=Row.new wr (vrArr x A' cap') 103
   have ba:Below wr.heap.size wr (wr.alloc (.cells (vrArr x A' cap') 103)):=bE
   have mta:=mtr.below ba
   have rma:=rm.below ba rm.lt
   have hua:=hu.trans (UpdM.of ba)
   have hml:((nms n.ins).take k).length<1000000:=by have:=met_le (l:=n.ins) (k:=k);omega
   clear hA hx hxs ok
   go_upto_region 5 with (fail)
   clear d0 d1 d2 d3 d4
   generalize hW4:wr.alloc (.cells (vrArr x A' cap') 103)=w4 at*
   clear hW4
   obtain ⟨d0,d1,d2,d3,d4⟩:=rx.vr
   have e0:=rma.src
   go_wp2_with (at_mapUpdate;refine wpList_met rfl _ _ _ rfl bm _ rfl mta hml x.name rfl hnm rfl ?_)
   intro w5 mt5 hg5
   rw[←HTK.out] at mt5
   have hu5:UpdM bm W2 w5:=UpdM.grown hua hg5
   go_wp2_with fail
   go_roundw
   case rel=>exact ⟨k+1,by omega,by go_num,mt5,hu5⟩
   case measure=>first|(simp[intOf];omega)|simp[intOf]
  ·obtain rfl:k=n.ins.length:=by omega
   have mt3:MetIs wr bm (metTo n 0):=by
    have h:=mtr
    rw[List.take_of_length_le (by rw[List.length_map];exact Nat.le_refl _)] at h
    have e:metTo n 0=nms n.ins:=by unfold metTo lefts;simp
    rw[e];exact h
   have rn:=hu.row mt2 rn2
   have rf:=hu.row mt2 rf2
   have rs:=hu.row mt2 rs2
   have hbm3:=mt3.lt
   clear mtr hu rs2 rn2 rf2 rm2 hB2 hs2 mt2 hszr
   obtain ⟨w3,rfl⟩:∃w3:World,w3=wr:=⟨_,rfl⟩
   obtain ⟨c0,c1,cc2,c3,c4,c5,c6⟩:=rn.nd
   go_wp2_with fail
   clear c0 c1 cc2 c3 c4 c5 c6
   go_loopw[28] (fun i wr=>∃k:Nat,k≤n.eqs.length∧i= .int .i64 k∧Hid (∀j,j<k→∀x,n.eqs[j]? =some x→(eqnF s n j x).err=0)∧MetIs wr bm (metTo n k)∧UpdM bm w3 wr) (fun i _=>n.eqs.length-(intOf i).toNat)
   case atStart=>exact ⟨0,Nat.zero_le _,rfl,fun j h=>absurd h (by omega),mt3,Upd.refl _ _⟩
   case round=>
    obtain ⟨k,hk,rfl,HJ,mtr,hu⟩:=hrel
    have hszr:=hu.size
    have rm4:=hu.row mt3 rm
    have rn4:=hu.row mt3 rn
    have rs4:=hu.row mt3 rs
    have rf4:=hu.row mt3 rf
    have hB4:Below w.heap.size w wr:=hB.trans (Upd.below hu (fun k hk=>by omega) hsB)
    have hsB4:=hB4.size
    by_cases hlt:k<n.eqs.length
    ·obtain ⟨b,off,q,A1,k1,A2,k2,hA,hb,hq,ok,lq1,mq1,sl1,lq2,mq2,sl2,d0,d1,d2,d3,d4,d5,d6,d7,d8⟩:=(HN.out wr (keeps_of hB4)).sq.eqn hlt
     rw[hA]
     have HA:=Lib.hid hA
     have HXK:=Lib.hid hq
     have HSQ:=Lib.hid (HSM.out.eq q (List.mem_of_getElem? hq))
     have HOK:=Lib.hid ok.right
     have HS1:Hid (∀W,UpdM bm wr W→Sl W W.heap.size 1 isStr A1 q.left):=fun W hW=>strs_keep sl1 (hW.keeps mtr) (Nat.le_trans hsB4 hW.size)
     have HS2:Hid (∀W,UpdM bm wr W→IsExs W W.heap.size A2 q.right.args):=fun W hW=>exs_keep sl2 (hW.keeps mtr) (Nat.le_trans hsB4 hW.size)
     have HNW:Hid (∀W,UpdM bm wr W→NdAt W W.heap.size n a):=fun W hW=>((HN.out wr (keeps_of hB4)).keep (hW.keeps mtr) (Nat.le_refl _)).more (Nat.le_trans hsB4 hW.size)
     have HSW:Hid (∀W,UpdM bm wr W→Nds W W.heap.size A s):=fun W hW=>nds_keep (HS.out wr (keeps_of hB4)) (hW.keeps mtr) (Nat.le_trans hsB4 hW.size)
     have HMT:Hid (metTo n (k+1)=metTo n k++q.left):=metTo_succ hq
     have hll:(metTo n k).length+q.left.length<1000000:=by
      have h1:=HML.out k
      have h2:=HSQ.out.left
      omega
     have HLL:=Lib.hid hll
     obtain ⟨f1,HF1⟩:∃f,Hid (leftF n (metTo n k) q=f):=⟨_,rfl⟩
     obtain ⟨f2,HF2⟩:∃f,Hid (exprF s n q.left.length q.right=f):=⟨_,rfl⟩
     have HZ2:Hid (f2.err=0→f2=ft0):=fun g=>by
      rw[←HF2.out,←exprF_list] at g⊢
      exact fstL_zero g
     have HEQ:Hid (eqnF s n k q=ft2 f1 f2):=by show _=_;rw[←HF1.out,←HF2.out];rfl
     clear hA hq ok sl1 sl2 hll
     have re:=Row.new wr (eqArr q A1 k1 A2 k2) 65
     have ba:Below wr.heap.size wr (wr.alloc (.cells (eqArr q A1 k1 A2 k2) 65)):=bE
     go_upto_region 10 with (fail)
     clear d0 d1 d2 d3 d4 d5 d6 d7 d8
     generalize hW6:wr.alloc (.cells (eqArr q A1 k1 A2 k2) 65)=w6 at*
     clear hW6
     have hsa:=ba.size
     have bb:Below w6.heap.size w6 (w6.alloc (.cells #[.func (.func 138) #[] #[.pointer (some ⟨w.heap.size+1,0,none⟩),.pointer (some ⟨wr.heap.size,0,none⟩),.pointer (some ⟨bm+1,0,none⟩)],.func (.func 140) #[] #[.pointer (some ⟨w.heap.size,0,none⟩),.pointer (some ⟨w.heap.size+1,0,none⟩),.pointer (some ⟨wr.heap.size,0,none⟩)]] 176)):=bE
     have rc:=Row.new w6 #[.func (.func 138) #[] #[.pointer (some ⟨w.heap.size+1,0,none⟩),.pointer (some ⟨wr.heap.size,0,none⟩),.pointer (some ⟨bm+1,0,none⟩)],.func (.func 140) #[] #[.pointer (some ⟨w.heap.size,0,none⟩),.pointer (some ⟨w.heap.size+1,0,none⟩),.pointer (some ⟨wr.heap.size,0,none⟩)]] 176
     have b67:=ba.trans (bb.mono hsa)
     go_wp2_with fail
     generalize hW7:w6.alloc (.cells #[.func (.func 138) #[] #[.pointer (some ⟨w.heap.size+1,0,none⟩),.pointer (some ⟨wr.heap.size,0,none⟩),.pointer (some ⟨bm+1,0,none⟩)],.func (.func 140) #[] #[.pointer (some ⟨w.heap.size,0,none⟩),.pointer (some ⟨w.heap.size+1,0,none⟩),.pointer (some ⟨wr.heap.size,0,none⟩)]] 176)=w7 at*
     clear hW7
     have mt7:=mtr.below b67
     have rm7:=rm4.below b67 rm4.lt
     have rn7:=rn4.below b67 rn4.lt
     have rs7:=rs4.below b67 rs4.lt
     have rf7:=rf4.below b67 rf4.lt
     have re7:=re.below bb re.lt
     have u7:UpdM bm wr w7:=UpdM.of b67
     have hs7:=u7.size
     have hbm7:=mt7.lt
     refine (first_two 138 140 _ _ w6.heap.size w7 (fun j=>j=bm) f1 f2 (fun W=>MetIs W bm (metTo n (k+1))) (fun W=>MetIs W bm (metTo n (k+1))) 176 (enters_of Tryz.func138 (by kernel_rfl) rfl) (enters_of Tryz.func140 (by kernel_rfl) rfl) rc (fun g=>by have:=mtr.lt;omega)
      (fun W o h=>h.alloc o) (fun W o h=>h.alloc o) (fun W g y0 y1 y2 hg h=>h.set3 (by omega) y0 y1 y2) ?f1 ?f2 (fun k hk=>by omega) HZ2.out).mono ?_
     case f1=>
      intro W hW
      have hu7:UpdM bm wr W:=u7.trans (UpdM.of hW)
      refine (eqs1_any n a q A1 k1 A2 k2 (metTo n k) bm _ _ _ W _ HL.out (HNW.out W hu7) mq1 (HS1.out W hu7) (mt7.below hW) HLL.out (rn7.below hW rn7.lt) (re7.below hW re7.lt) (rm7.below hW rm7.lt)).mono fun r W' hr=>?_
      obtain ⟨g1,g2,g3⟩:=hr
      rw[HF1.out] at g1 g2
      exact ⟨g1,g3,fun g=>by rw[HMT.out];exact g2.out g⟩
     case f2=>
      intro W hW hR
      have hu7:UpdM bm wr W:=u7.trans hW
      refine (eqs2_any s A cap n a q A1 k1 A2 k2 _ _ _ W h1 h2 HL.out HOK.out lq2 mq2 (HSW.out W hu7) (HNW.out W hu7) (HS2.out W hu7) (UpdM.row hW mt7 rs7) (UpdM.row hW mt7 rn7) (UpdM.row hW mt7 re7)).mono fun r W' hr=>?_
      obtain ⟨g1,g2⟩:=hr
      rw[HF2.out] at g1
      exact ⟨g1,Upd.of_below g2,fun _=>hR.below g2⟩
     rintro r w8 ⟨rfl,hu8,hm8⟩
     have rf8:=UpdM.row hu8 mt7 rf7
     have hu9:UpdM bm w3 w8:=hu.trans (Upd.trans u7 hu8)
     have hB8:Below w.heap.size w w8:=hB.trans (Upd.below hu9 (fun k hk=>by omega) hsB)
     have hsB8:=hB8.size
     have hl8:=rf8.lt
     have hl8':w.heap.size+1+1<w8.heap.size:=hl8
     obtain ⟨f,HF⟩:∃f,Hid (ft2 f1 f2=f):=⟨_,rfl⟩
     rw[HF.out] at hm8⊢
     by_cases hf:f.err=0
     ·have hf1:(f.err !=0)=false:=neq_no hf
      have HJ':=Lib.hid (step_uptoI (P:=fun j x=>(eqnF s n j x).err=0) HJ.out HXK.out (by rw[HEQ.out,HF.out];exact hf))
      have mt9:=(hm8.out hf).alloc (.cells (ftC f) 38)
      clear hf
      go_wp2_with fail
      go_roundw
      case rel=>exact ⟨k+1,by omega,by go_num,HJ',mt9,Upd.alloc hu9 _⟩
      case measure=>first|(simp[intOf];omega)|simp[intOf]
     ·have hf1:(f.err !=0)=true:=neq_yes hf
      have HFE:Hid (equationsF s n=f):=by
       have e:eqnF s n k q=f:=by rw[HEQ.out,HF.out]
       have h:=fstL_stop (f:=eqnF s n) HJ.out HXK.out (by rw[e];exact hf)
       show _=_
       rw[HF0.out,h,e,ft2_1 hf]
      clear hf
      obtain ⟨⟨k0,k1',k2'⟩,g0,g1,g2⟩:=rf8.three
      go_wp2_with fail
      exact bodyPost_ret (res1 rfl Tryz.underlying38 rfl (by kernel_rfl) rfl ((rf8.set3 _ _ _).alloc _)) rfl ⟨(congrArg (fun f=>Ending.returned (ftV f)) HFE.out).symm,(below_set3 hB8 (by first|omega|(simp;omega)|simp) _ _ _).alloc (by first|(simp[World.setCell];omega)|simp[World.setCell]) _⟩
    ·obtain rfl:k=n.eqs.length:=by omega
     have HF1:Hid (equationsF s n=fstL (defF n) (n.outs++n.vars)):=by
      show _=_
      rw[HF0.out,fstL_end HJ.out,ft2_0 (a:=ft0) rfl]
     have hcat:catTo [⟨a.ao,a.co,n.outs⟩,⟨a.av,a.cv,n.vars⟩] 2=n.outs++n.vars:=catTo_two _ _
     have HC:=Lib.hid hcat
     have hNr:=HN.out wr (keeps_of hB4)
     have HSO:=Lib.hid hNr.so
     have HSV:=Lib.hid hNr.sv
     have bb:Below wr.heap.size wr (wr.alloc (.cells #[.slice a.ao n.outs.length a.co,.slice a.av n.vars.length a.cv] 55)):=bE
     obtain ⟨c0,c1,cc2,c3,c4,c5,c6⟩:=rn4.nd
     clear hcat hNr HJ HF0
     go_wp2_with fail
     refine (concat_var [⟨a.ao,a.co,n.outs⟩,⟨a.av,a.cv,n.vars⟩] wr.heap.size w.heap.size 2 _ (Nat.le_refl _) (by decide) (by rw[show [(⟨a.ao,a.co,n.outs⟩:Vsl),⟨a.av,a.cv,n.vars⟩].length=2 from rfl,HC.out,List.length_append];omega) (by simp) (by simp;omega) ?_ ?_).mono ?_
     ·intro k s hs
      match k,hs with
      |0,hs=>simp at hs;subst hs;simp
      |1,hs=>simp at hs;subst hs;simp
     ·intro k s hs
      match k,hs with
      |0,hs=>simp at hs;subst hs;exact vrs_keep HSO.out (keeps_of (bb.mono hsB4)) (Nat.le_refl _)
      |1,hs=>simp at hs;subst hs;exact vrs_keep HSV.out (keeps_of (bb.mono hsB4)) (Nat.le_refl _)
     rintro e w5 ⟨v,css,rfl,ho,ha,hb5⟩
     rw[show [(⟨a.ao,a.co,n.outs⟩:Vsl),⟨a.av,a.cv,n.vars⟩].length=2 from rfl,HC.out] at ho ha
     obtain ⟨⟨Al,cl,hv,ll,ml,hsl⟩,_⟩:=own_sl ho ha (ha.all (fun _ _ _ h=>(isVr_one h).1)) (by decide)
     subst hv
     have HSL:=Lib.hid hsl
     have ml':cl≤9223372036854775807:=by unfold maxLen at ml;omega
     have b5:=bb.trans (hb5.mono bb.size)
     have mt5:=mtr.below b5
     have rm5:=rm4.below b5 rm4.lt
     have rf5:=rf4.below b5 rf4.lt
     have hB5:=hB4.trans (b5.mono hsB4)
     have hsB5:=hB5.size
     have hlen:(n.outs++n.vars).length≤10000:=by rw[List.length_append];omega
     clear ho ha hsl HSO HSV c0 c1 cc2 c3 c4 c5 c6 bb hb5
     obtain ⟨L,HLL⟩:∃L,Hid (n.outs++n.vars=L):=⟨_,rfl⟩
     rw[HLL.out] at ll hlen HSL HF1⊢
     go_wp2_with fail
     go_loopw[48] (fun i wr=>∃k:Nat,k≤L.length∧i= .int .i64 k∧Hid (∀j,j<k→∀x,L[j]? =some x→(defF n j x).err=0)∧Below w5.heap.size w5 wr) (fun i _=>L.length-(intOf i).toNat)
     case atStart=>exact ⟨0,Nat.zero_le _,rfl,fun j h=>absurd h (by omega),Below.refl _ _⟩
     case round=>
      obtain ⟨k,hk,rfl,HJ,hbr⟩:=hrel
      have hszr:=hbr.size
      have mt6:=mt5.below hbr
      have rm6:=rm5.below hbr rm5.lt
      have rf6:=rf5.below hbr rf5.lt
      have hB6:=hB5.trans (hbr.mono hsB5)
      have hsB6:=hB6.size
      by_cases hlt:k<L.length
      ·obtain ⟨b,off,x,A',cap',hA,hb,hx,ok,g1,g2,hxs,d0,d1,d2,d3,d4⟩:=(vrs_keep2 HSL.out hbr hsB5).vr hlt
       subst hA
       have HXK:=Lib.hid hx
       have hnm:=ok.name
       have rx:=Row.new wr (vrArr x A' cap') 103
       have ba:Below wr.heap.size wr (wr.alloc (.cells (vrArr x A' cap') 103)):=bE
       clear hx hxs ok
       go_upto_region 17 with (fail)
       clear d0 d1 d2 d3 d4
       generalize hW8:wr.alloc (.cells (vrArr x A' cap') 103)=w8 at*
       clear hW8
       have mt8:=mt6.below ba
       have rm8:=rm6.below ba rm6.lt
       have rf8:=rf6.below ba rf6.lt
       have hB8:=hB6.trans (ba.mono hsB6)
       obtain ⟨d0,d1,d2,d3,d4⟩:=rx.vr
       have e0:=rm8.src
       by_cases hP:x.name∈metTo n n.eqs.length
       ·have hlk:=(mt8.look hnm).1 hP
        have HJ':=Lib.hid (step_uptoI (P:=fun j x=>(defF n j x).err=0) HJ.out HXK.out (by unfold defF;rw[if_neg (fun g=>g hP)]))
        clear hP
        go_wp2_with fail
        go_roundw
        case rel=>exact ⟨k+1,by omega,by go_num,HJ',hbr.trans (ba.mono hszr)⟩
        case measure=>first|(simp[intOf];omega)|simp[intOf]
       ·have hlk:=(mt8.look hnm).2 hP
        have HF:Hid (equationsF s n=⟨26,x.line,x.col⟩):=by
         have e:defF n k x=⟨26,x.line,x.col⟩:=by unfold defF;rw[if_pos hP]
         have h:=fstL_stop (f:=defF n) HJ.out HXK.out (by rw[e];show (26:Int)≠0;decide)
         show _=_
         rw[HF1.out,h,e]
        clear hP
        go_wp2_with fail
        refine (fault_any _ _ _ _).mono ?_
        rintro r w9 ⟨rfl,hb9⟩
        have q9:Below w8.heap.size w8 w9:=Below.trans bE (hb9.mono lE)
        have rf9:=rf8.below q9 rf8.lt
        have b9:=Below.trans hB8 (q9.mono (Below.size hB8))
        obtain ⟨⟨k0,k1,k2⟩,h0,h1,h2⟩:=rf9.three
        go_wp2_with fail
        exact bodyPost_ret (res1 rfl Tryz.underlying38 rfl (by kernel_rfl) rfl (rf9.set3 _ _ _)) rfl ⟨(congrArg (fun f=>Ending.returned (ftV f)) HF.out).symm,below_set3 b9 (by first|omega|(simp;omega)|simp) _ _ _⟩
      ·obtain rfl:k=L.length:=by omega
       have HF:Hid (equationsF s n=ft0):=HF1.out.trans (fstL_end HJ.out)
       obtain ⟨⟨k0,k1,k2⟩,g0,g1,g2⟩:=rf6.three
       go_wp2_with fail
       exact bodyPost_ret (res1 rfl Tryz.underlying38 rfl (by kernel_rfl) rfl (rf6.set3 _ _ _)) rfl ⟨(congrArg (fun f=>Ending.returned (ftV f)) HF.out).symm,below_set3 hB6 (by first|omega|(simp;omega)|simp) _ _ _⟩
end Go.Proofs.YtdkgkacnjdnpoaaGreat
