/-
  What is wrong first with a node's equations: the contract of scope.equations. What is wrong first with a source's names: the contract of scope.Check. Which expressions go by which clocks, plain. slices.Repeat of one row of conditions.
-/
import Derived.Test.YtdkgkacnjdnpoaaGreatZz
import Derived.Test.YtdkgkacnjdnpoaaGreatScI
import Derived.Test.YtdkgkacnjdnpoaaGreatScH
import Derived.Test.YtdkgkacnjdnpoaaGreatExMem
import Derived.Deep.RegionWith
import Derived.Deep.DeepCutAuto
import Derived.Laws.MakeOwn
import Derived.Laws.CopyOwn
import Derived.Deep.RegionHeld3
import Derived.IntWalk
set_option maxHeartbeats 2000000
set_option maxRecDepth 100000
namespace Go.Proofs.YtdkgkacnjdnpoaaGreat
open Go.RowKit
theorem catTo_two (s1 s2:Vsl):catTo [s1,s2] 2=s1.l++s2.l:=by simp[catTo]
theorem equations_any (s:List Nd) (A:Option Addr) (cap:Nat) (n:Nd) (a:NdA) (w:World) (h1:s.length≤cap) (h2:cap≤maxLen) (sm:NdSm n) (hs:Nds w w.heap.size A s) (hn:NdAt w w.heap.size n a):
  Calls Tryz.prog 97 #[srcV s A cap,ndV n a] w fun r w'=>r= .returned (ftV (equationsF s n))∧Below w.heap.size w w':=by
 have hmm:= @run_makeMap Tryz.prog
 have rs1:=((Row.new w #[.slice A s.length cap] 24).alloc (.cells (ndArr n a) 58)).alloc (.cells ftC0 38)
 have rn1:=(rowNew2 w (.cells #[.slice A s.length cap] 24) (ndArr n a) 58).alloc (.cells ftC0 38)
 have rf1:=rowNew3 w (.cells #[.slice A s.length cap] 24) (.cells (ndArr n a) 58) ftC0 38
 have b1:Below w.heap.size w (((w.alloc (.cells #[.slice A s.length cap] 24)).alloc (.cells (ndArr n a) 58)).alloc (.cells ftC0 38)):=bE
 have HS:Hid (∀W,Keeps w.heap.size w W→Nds W w.heap.size A s):=fun W hW=>nds_keep hs hW (Nat.le_refl _)
 refine' zq156
 have HML:=Lib.hid (metTo_len sm)
 have gi:=hn.mi
 have go:=hn.mo
 have gv:=hn.mv
 have gq:=hn.mq
 have hnv:=hn.lv
 have hli:=hn.li
 have hlo:=hn.lo
 have hlq:=hn.lq
 have hil:=sm.ins
 have hol:=sm.outs
 have hvl:=sm.vars
 refine' zq50
 have gi':a.ci≤9223372036854775807:=by unfold maxLen at gi;omega
 have go':a.co≤9223372036854775807:=by unfold maxLen at go;omega
 refine' zq116
 have HF0:Hid (equationsF s n=ft2 (fstL (eqnF s n) n.eqs) (fstL (defF n) (n.outs++n.vars))):=rfl
 clear hs hn sm
 go_enter Tryz.func97,Tryz.ntmps97
 go_upto_region 1 with (fail)
 generalize ((w.alloc (.cells #[.slice A s.length cap] 24)).alloc (.cells (ndArr n a) 58)).alloc (.cells ftC0 38)=W1 at*
 have hs1:=b1.size
 have mt2:=(met_made W1).alloc (.cells #[.map (some W1.heap.size)] 85)
 have rm2:=rowNew2 W1 (.map #[] 0) #[.map (some W1.heap.size)] 85
 have b2:Below W1.heap.size W1 ((W1.alloc (.map #[] 0)).alloc (.cells #[.map (some W1.heap.size)] 85)):=bE
 go_upto_region 2 with (fail)
 clear hmm
 have rs2:=rs1.below b2 rs1.lt
 have rn2:=rn1.below b2 rn1.lt
 have rf2:=rf1.below b2 rf1.lt
 have hB2:=b1.trans (b2.mono hs1)
 generalize hW2:(W1.alloc (.map #[] 0)).alloc (.cells #[.map (some W1.heap.size)] 85)=W2 at*
 clear hW2
 have hs2:=hB2.size
 have hbm:w.heap.size≤W1.heap.size:=hs1
 have hlm:=rm2.lt
 generalize hbmm:W1.heap.size=bm at*
 clear hbmm rs1 rn1 rf1 b1 b2 hs1
 obtain ⟨c0,c1,cc2,c3,c4,c5,c6⟩:=rn2.nd
 refine' zq137
 go_loopw[17] (fun i wr=>∃k:Nat,k≤n.ins.length∧i= .int .i64 k∧MetIs wr bm ((nms n.ins).take k)∧UpdM bm W2 wr) (fun i _=>n.ins.length-(intOf i).toNat)
 case atStart=>exact ⟨0,Nat.zero_le _,rfl,mt2,Upd.refl _ _⟩
 case round=>
  obtain ⟨k,hk,rfl,mtr,hu⟩:=hrel
  have hszr:=hu.size
  have rm:=hu.row mt2 rm2
  have hB:Below w.heap.size w wr:=hB2.trans (Upd.below hu (fun k hk=>by omega) hs2)
  have hsB:=hB.size
  by_cases hlt:k<n.ins.length
  ·obtain ⟨b,off,x,A',cap',hA,hb,hx,ok,g1,g2,hxs,d0,d1,d2,d3,d4⟩:=(HN.out wr (keeps_of hB)).si.vr hlt
   rw[hA]
   have HA:=Lib.hid hA
   have hnm:=ok.name
   have HTK:Hid ((nms n.ins).take (k+1)=(nms n.ins).take k++ [x.name]):=by
    show _=_
    rw[List.take_add_one,map_get Vr.name hx];rfl
   refine' zq80
   have mta:=mtr.below ba
   have rma:=rm.below ba rm.lt
   have hua:=hu.trans (UpdM.of ba)
   have hml:((nms n.ins).take k).length<1000000:=by have:=met_le (l:=n.ins) (k:=k);omega
   clear hA hx hxs ok
   go_upto_region 5 with (fail)
   clear d0 d1 d2 d3 d4
   generalize hW4:wr.alloc (.cells (vrArr x A' cap') 103)=w4 at*
   clear hW4
   obtain ⟨d0,d1,d2,d3,d4⟩:=rx.vr
   have e0:=rma.src
   go_wp2_with (at_mapUpdate;refine wpList_met rfl _ _ _ rfl bm _ rfl mta hml x.name rfl hnm rfl ?_)
   intro w5 mt5 hg5
   rw[←HTK.out] at mt5
   have hu5:UpdM bm W2 w5:=UpdM.grown hua hg5
   go_wp2_with fail
   go_roundw
   case rel=>exact ⟨k+1,by omega,by go_num,mt5,hu5⟩
   case measure=>first|(simp[intOf];omega)|simp[intOf]
  ·obtain rfl:k=n.ins.length:=by omega
   have mt3:MetIs wr bm (metTo n 0):=by
    have h:=mtr
    rw[List.take_of_length_le (by rw[List.length_map];exact Nat.le_refl _)] at h
    have e:metTo n 0=nms n.ins:=by unfold metTo lefts;simp
    rw[e];exact h
   have rn:=hu.row mt2 rn2
   have rf:=hu.row mt2 rf2
   have rs:=hu.row mt2 rs2
   have hbm3:=mt3.lt
   clear mtr hu rs2 rn2 rf2 rm2 hB2 hs2 mt2 hszr
   obtain ⟨w3,rfl⟩:∃w3:World,w3=wr:=⟨_,rfl⟩
   obtain ⟨c0,c1,cc2,c3,c4,c5,c6⟩:=rn.nd
   refine' zq137
   go_loopw[28] (fun i wr=>∃k:Nat,k≤n.eqs.length∧i= .int .i64 k∧Hid (∀j,j<k→∀x,n.eqs[j]? =some x→(eqnF s n j x).err=0)∧MetIs wr bm (metTo n k)∧UpdM bm w3 wr) (fun i _=>n.eqs.length-(intOf i).toNat)
   case atStart=>exact ⟨0,Nat.zero_le _,rfl,fun j h=>absurd h (by omega),mt3,Upd.refl _ _⟩
   case round=>
    obtain ⟨k,hk,rfl,HJ,mtr,hu⟩:=hrel
    have hszr:=hu.size
    have rm4:=hu.row mt3 rm
    have rn4:=hu.row mt3 rn
    have rs4:=hu.row mt3 rs
    have rf4:=hu.row mt3 rf
    have hB4:Below w.heap.size w wr:=hB.trans (Upd.below hu (fun k hk=>by omega) hsB)
    have hsB4:=hB4.size
    by_cases hlt:k<n.eqs.length
    ·obtain ⟨b,off,q,A1,k1,A2,k2,hA,hb,hq,ok,lq1,mq1,sl1,lq2,mq2,sl2,d0,d1,d2,d3,d4,d5,d6,d7,d8⟩:=(HN.out wr (keeps_of hB4)).sq.eqn hlt
     rw[hA]
     have HA:=Lib.hid hA
     have HXK:=Lib.hid hq
     have HSQ:=Lib.hid (HSM.out.eq q (List.mem_of_getElem? hq))
     have HOK:=Lib.hid ok.right
     have HS1:Hid (∀W,UpdM bm wr W→Sl W W.heap.size 1 isStr A1 q.left):=fun W hW=>strs_keep sl1 (hW.keeps mtr) (Nat.le_trans hsB4 hW.size)
     have HS2:Hid (∀W,UpdM bm wr W→IsExs W W.heap.size A2 q.right.args):=fun W hW=>exs_keep sl2 (hW.keeps mtr) (Nat.le_trans hsB4 hW.size)
     have HNW:Hid (∀W,UpdM bm wr W→NdAt W W.heap.size n a):=fun W hW=>((HN.out wr (keeps_of hB4)).keep (hW.keeps mtr) (Nat.le_refl _)).more (Nat.le_trans hsB4 hW.size)
     have HSW:Hid (∀W,UpdM bm wr W→Nds W W.heap.size A s):=fun W hW=>nds_keep (HS.out wr (keeps_of hB4)) (hW.keeps mtr) (Nat.le_trans hsB4 hW.size)
     have HMT:Hid (metTo n (k+1)=metTo n k++q.left):=metTo_succ hq
     have hll:(metTo n k).length+q.left.length<1000000:=by
      have h1:=HML.out k
      have h2:=HSQ.out.left
      omega
     have HLL:=Lib.hid hll
     obtain ⟨f1,HF1⟩:∃f,Hid (leftF n (metTo n k) q=f):=⟨_,rfl⟩
     obtain ⟨f2,HF2⟩:∃f,Hid (exprF s n q.left.length q.right=f):=⟨_,rfl⟩
     have HZ2:Hid (f2.err=0→f2=ft0):=fun g=>by
      rw[←HF2.out,←exprF_list] at g⊢
      exact fstL_zero g
     have HEQ:Hid (eqnF s n k q=ft2 f1 f2):=by show _=_;rw[←HF1.out,←HF2.out];rfl
     clear hA hq ok sl1 sl2 hll
     refine' zq157
     have ba:Below wr.heap.size wr (wr.alloc (.cells (eqArr q A1 k1 A2 k2) 65)):=bE
     go_upto_region 10 with (fail)
     clear d0 d1 d2 d3 d4 d5 d6 d7 d8
     generalize hW6:wr.alloc (.cells (eqArr q A1 k1 A2 k2) 65)=w6 at*
     clear hW6
     have hsa:=ba.size
     have bb:Below w6.heap.size w6 (w6.alloc (.cells #[.func (.func 138) #[] #[.pointer (some ⟨w.heap.size+1,0,none⟩),.pointer (some ⟨wr.heap.size,0,none⟩),.pointer (some ⟨bm+1,0,none⟩)],.func (.func 140) #[] #[.pointer (some ⟨w.heap.size,0,none⟩),.pointer (some ⟨w.heap.size+1,0,none⟩),.pointer (some ⟨wr.heap.size,0,none⟩)]] 176)):=bE
     have rc:=Row.new w6 #[.func (.func 138) #[] #[.pointer (some ⟨w.heap.size+1,0,none⟩),.pointer (some ⟨wr.heap.size,0,none⟩),.pointer (some ⟨bm+1,0,none⟩)],.func (.func 140) #[] #[.pointer (some ⟨w.heap.size,0,none⟩),.pointer (some ⟨w.heap.size+1,0,none⟩),.pointer (some ⟨wr.heap.size,0,none⟩)]] 176
     have b67:=ba.trans (bb.mono hsa)
     go_wp2_with fail
     generalize hW7:w6.alloc (.cells #[.func (.func 138) #[] #[.pointer (some ⟨w.heap.size+1,0,none⟩),.pointer (some ⟨wr.heap.size,0,none⟩),.pointer (some ⟨bm+1,0,none⟩)],.func (.func 140) #[] #[.pointer (some ⟨w.heap.size,0,none⟩),.pointer (some ⟨w.heap.size+1,0,none⟩),.pointer (some ⟨wr.heap.size,0,none⟩)]] 176)=w7 at*
     clear hW7
     have mt7:=mtr.below b67
     have rm7:=rm4.below b67 rm4.lt
     have rn7:=rn4.below b67 rn4.lt
     have rs7:=rs4.below b67 rs4.lt
     have rf7:=rf4.below b67 rf4.lt
     have re7:=re.below bb re.lt
     have u7:UpdM bm wr w7:=UpdM.of b67
     have hs7:=u7.size
     have hbm7:=mt7.lt
     refine (first_two 138 140 _ _ w6.heap.size w7 (fun j=>j=bm) f1 f2 (fun W=>MetIs W bm (metTo n (k+1))) (fun W=>MetIs W bm (metTo n (k+1))) 176 (enters_of Tryz.func138 (by kernel_rfl) rfl) (enters_of Tryz.func140 (by kernel_rfl) rfl) rc (fun g=>by have:=mtr.lt;omega)
      (fun W o h=>h.alloc o) (fun W o h=>h.alloc o) (fun W g y0 y1 y2 hg h=>h.set3 (by omega) y0 y1 y2) ?f1 ?f2 (fun k hk=>by omega) HZ2.out).mono ?_
     case f1=>
      intro W hW
      have hu7:UpdM bm wr W:=u7.trans (UpdM.of hW)
      refine (eqs1_any n a q A1 k1 A2 k2 (metTo n k) bm _ _ _ W _ HL.out (HNW.out W hu7) mq1 (HS1.out W hu7) (mt7.below hW) HLL.out (rn7.below hW rn7.lt) (re7.below hW re7.lt) (rm7.below hW rm7.lt)).mono fun r W' hr=>?_
      obtain ⟨g1,g2,g3⟩:=hr
      rw[HF1.out] at g1 g2
      exact ⟨g1,g3,fun g=>by rw[HMT.out];exact g2.out g⟩
     case f2=>
      intro W hW hR
      have hu7:UpdM bm wr W:=u7.trans hW
      refine (eqs2_any s A cap n a q A1 k1 A2 k2 _ _ _ W h1 h2 HL.out HOK.out lq2 mq2 (HSW.out W hu7) (HNW.out W hu7) (HS2.out W hu7) (UpdM.row hW mt7 rs7) (UpdM.row hW mt7 rn7) (UpdM.row hW mt7 re7)).mono fun r W' hr=>?_
      obtain ⟨g1,g2⟩:=hr
      rw[HF2.out] at g1
      exact ⟨g1,Upd.of_below g2,fun _=>hR.below g2⟩
     rintro r w8 ⟨rfl,hu8,hm8⟩
     have rf8:=UpdM.row hu8 mt7 rf7
     have hu9:UpdM bm w3 w8:=hu.trans (Upd.trans u7 hu8)
     have hB8:Below w.heap.size w w8:=hB.trans (Upd.below hu9 (fun k hk=>by omega) hsB)
     have hsB8:=hB8.size
     have hl8:=rf8.lt
     have hl8':w.heap.size+1+1<w8.heap.size:=hl8
     obtain ⟨f,HF⟩:∃f,Hid (ft2 f1 f2=f):=⟨_,rfl⟩
     rw[HF.out] at hm8⊢
     by_cases hf:f.err=0
     ·have hf1:(f.err !=0)=false:=neq_no hf
      have HJ':=Lib.hid (step_uptoI (P:=fun j x=>(eqnF s n j x).err=0) HJ.out HXK.out (by rw[HEQ.out,HF.out];exact hf))
      have mt9:=(hm8.out hf).alloc (.cells (ftC f) 38)
      clear hf
      go_wp2_with fail
      go_roundw
      case rel=>exact ⟨k+1,by omega,by go_num,HJ',mt9,Upd.alloc hu9 _⟩
      case measure=>first|(simp[intOf];omega)|simp[intOf]
     ·have hf1:(f.err !=0)=true:=neq_yes hf
      have HFE:Hid (equationsF s n=f):=by
       have e:eqnF s n k q=f:=by rw[HEQ.out,HF.out]
       have h:=fstL_stop (f:=eqnF s n) HJ.out HXK.out (by rw[e];exact hf)
       show _=_
       rw[HF0.out,h,e,ft2_1 hf]
      clear hf
      obtain ⟨⟨k0,k1',k2'⟩,g0,g1,g2⟩:=rf8.three
      go_wp2_with fail
      exact bodyPost_ret (res1 rfl Tryz.underlying38 rfl (by kernel_rfl) rfl ((rf8.set3 _ _ _).alloc _)) rfl ⟨(congrArg (fun f=>Ending.returned (ftV f)) HFE.out).symm,(below_set3 hB8 (by first|omega|(simp;omega)|simp) _ _ _).alloc (by first|(simp[World.setCell];omega)|simp[World.setCell]) _⟩
    ·obtain rfl:k=n.eqs.length:=by omega
     have HF1:Hid (equationsF s n=fstL (defF n) (n.outs++n.vars)):=by
      show _=_
      rw[HF0.out,fstL_end HJ.out,ft2_0 (a:=ft0) rfl]
     have hcat:catTo [⟨a.ao,a.co,n.outs⟩,⟨a.av,a.cv,n.vars⟩] 2=n.outs++n.vars:=catTo_two _ _
     have HC:=Lib.hid hcat
     have hNr:=HN.out wr (keeps_of hB4)
     have HSO:=Lib.hid hNr.so
     have HSV:=Lib.hid hNr.sv
     have bb:Below wr.heap.size wr (wr.alloc (.cells #[.slice a.ao n.outs.length a.co,.slice a.av n.vars.length a.cv] 55)):=bE
     obtain ⟨c0,c1,cc2,c3,c4,c5,c6⟩:=rn4.nd
     clear hcat hNr HJ HF0
     go_wp2_with fail
     refine (concat_var [⟨a.ao,a.co,n.outs⟩,⟨a.av,a.cv,n.vars⟩] wr.heap.size w.heap.size 2 _ (Nat.le_refl _) (by decide) (by rw[show [(⟨a.ao,a.co,n.outs⟩:Vsl),⟨a.av,a.cv,n.vars⟩].length=2 from rfl,HC.out,List.length_append];omega) (by simp) (by simp;omega) ?_ ?_).mono ?_
     ·intro k s hs
      match k,hs with
      |0,hs=>simp at hs;subst hs;simp
      |1,hs=>simp at hs;subst hs;simp
     ·intro k s hs
      match k,hs with
      |0,hs=>simp at hs;subst hs;exact vrs_keep HSO.out (keeps_of (bb.mono hsB4)) (Nat.le_refl _)
      |1,hs=>simp at hs;subst hs;exact vrs_keep HSV.out (keeps_of (bb.mono hsB4)) (Nat.le_refl _)
     rintro e w5 ⟨v,css,rfl,ho,ha,hb5⟩
     rw[show [(⟨a.ao,a.co,n.outs⟩:Vsl),⟨a.av,a.cv,n.vars⟩].length=2 from rfl,HC.out] at ho ha
     obtain ⟨⟨Al,cl,hv,ll,ml,hsl⟩,_⟩:=own_sl ho ha (ha.all (fun _ _ _ h=>(isVr_one h).1)) (by decide)
     subst hv
     have HSL:=Lib.hid hsl
     have ml':cl≤9223372036854775807:=by unfold maxLen at ml;omega
     have b5:=bb.trans (hb5.mono bb.size)
     have mt5:=mtr.below b5
     have rm5:=rm4.below b5 rm4.lt
     have rf5:=rf4.below b5 rf4.lt
     have hB5:=hB4.trans (b5.mono hsB4)
     have hsB5:=hB5.size
     have hlen:(n.outs++n.vars).length≤10000:=by rw[List.length_append];omega
     clear ho ha hsl HSO HSV c0 c1 cc2 c3 c4 c5 c6 bb hb5
     obtain ⟨L,HLL⟩:∃L,Hid (n.outs++n.vars=L):=⟨_,rfl⟩
     rw[HLL.out] at ll hlen HSL HF1⊢
     go_wp2_with fail
     go_loopw[48] (fun i wr=>∃k:Nat,k≤L.length∧i= .int .i64 k∧Hid (∀j,j<k→∀x,L[j]? =some x→(defF n j x).err=0)∧Below w5.heap.size w5 wr) (fun i _=>L.length-(intOf i).toNat)
     case atStart=>exact ⟨0,Nat.zero_le _,rfl,fun j h=>absurd h (by omega),Below.refl _ _⟩
     case round=>
      obtain ⟨k,hk,rfl,HJ,hbr⟩:=hrel
      have hszr:=hbr.size
      have mt6:=mt5.below hbr
      have rm6:=rm5.below hbr rm5.lt
      have rf6:=rf5.below hbr rf5.lt
      have hB6:=hB5.trans (hbr.mono hsB5)
      have hsB6:=hB6.size
      by_cases hlt:k<L.length
      ·obtain ⟨b,off,x,A',cap',hA,hb,hx,ok,g1,g2,hxs,d0,d1,d2,d3,d4⟩:=(vrs_keep2 HSL.out hbr hsB5).vr hlt
       subst hA
       have HXK:=Lib.hid hx
       have hnm:=ok.name
       refine' zq80
       clear hx hxs ok
       go_upto_region 17 with (fail)
       clear d0 d1 d2 d3 d4
       generalize hW8:wr.alloc (.cells (vrArr x A' cap') 103)=w8 at*
       clear hW8
       have mt8:=mt6.below ba
       have rm8:=rm6.below ba rm6.lt
       have rf8:=rf6.below ba rf6.lt
       have hB8:=hB6.trans (ba.mono hsB6)
       obtain ⟨d0,d1,d2,d3,d4⟩:=rx.vr
       have e0:=rm8.src
       by_cases hP:x.name∈metTo n n.eqs.length
       ·have hlk:=(mt8.look hnm).1 hP
        have HJ':=Lib.hid (step_uptoI (P:=fun j x=>(defF n j x).err=0) HJ.out HXK.out (by unfold defF;rw[if_neg (fun g=>g hP)]))
        clear hP
        go_wp2_with fail
        go_roundw
        case rel=>exact ⟨k+1,by omega,by go_num,HJ',hbr.trans (ba.mono hszr)⟩
        case measure=>first|(simp[intOf];omega)|simp[intOf]
       ·have hlk:=(mt8.look hnm).2 hP
        have HF:Hid (equationsF s n=⟨26,x.line,x.col⟩):=by
         have e:defF n k x=⟨26,x.line,x.col⟩:=by unfold defF;rw[if_pos hP]
         have h:=fstL_stop (f:=defF n) HJ.out HXK.out (by rw[e];show (26:Int)≠0;decide)
         show _=_
         rw[HF1.out,h,e]
        clear hP
        refine' zq54
        have q9:Below w8.heap.size w8 w9:=Below.trans bE (hb9.mono lE)
        have rf9:=rf8.below q9 rf8.lt
        have b9:=Below.trans hB8 (q9.mono (Below.size hB8))
        refine' zq2
      ·obtain rfl:k=L.length:=by omega
       have HF:Hid (equationsF s n=ft0):=HF1.out.trans (fstL_end HJ.out)
       obtain ⟨⟨k0,k1,k2⟩,g0,g1,g2⟩:=rf6.three
       go_wp2_with fail
       exact bodyPost_ret (res1 rfl Tryz.underlying38 rfl (by kernel_rfl) rfl (rf6.set3 _ _ _)) rfl ⟨(congrArg (fun f=>Ending.returned (ftV f)) HF.out).symm,below_set3 hB6 (by first|omega|(simp;omega)|simp) _ _ _⟩
theorem chk1_any (n:Nd) (a:NdA) (b1:Nat) (w:World) (sm:NdSm n) (hn:NdAt w w.heap.size n a) (r1:Row w b1 (ndArr n a) 58):
  Calls Tryz.prog 94 #[.pointer (some ⟨b1,0,none⟩)] w fun r w'=>r= .returned (ftV (variablesF n))∧Below w.heap.size w w':=by
 refine' zq78
 have HN:=Lib.hid (hn.next b0)
 clear hn r1
 go_enter Tryz.func94,Tryz.ntmps94
 refine' zq100
 obtain ⟨c0,c1,cc2,c3,c4,c5,c6⟩:=r1'.nd
 go_wp2_with fail
 refine (variables_any n a W1 sm HN.out).mono ?_
 refine' zq49
theorem chk2_any (s:List Nd) (A:Option Addr) (cap:Nat) (n:Nd) (a:NdA) (b1 b2:Nat) (w:World) (h1:s.length≤cap) (h2:cap≤maxLen) (sm:NdSm n) (hs:Nds w w.heap.size A s) (hn:NdAt w w.heap.size n a) (r1:Row w b1 #[.slice A s.length cap] 24) (r2:Row w b2 (ndArr n a) 58):
  Calls Tryz.prog 96 #[.pointer (some ⟨b1,0,none⟩),.pointer (some ⟨b2,0,none⟩)] w fun r w'=>r= .returned (ftV (equationsF s n))∧Below w.heap.size w w':=by
 refine' zq78
 have r2':=r2.below b0 r2.lt
 have HS:=Lib.hid (nds_keep hs (keeps_of b0) b0.size)
 have HN:=Lib.hid (hn.next b0)
 clear hn hs r1 r2
 go_enter Tryz.func96,Tryz.ntmps96
 refine' zq100
 have z0:=r1'.src
 obtain ⟨c0,c1,cc2,c3,c4,c5,c6⟩:=r2'.nd
 go_wp2_with fail
 refine (equations_any s A cap n a W1 h1 h2 sm HS.out HN.out).mono ?_
 refine' zq49
theorem equationsF_zero {s:List Nd} {n:Nd} (h:(equationsF s n).err=0):equationsF s n=ft0:=by
 unfold equationsF at h⊢
 obtain ⟨h1,h2⟩:=ft2_ok h
 rw[ft2_0 h1]
 exact fstL_zero h2
theorem check15_any (s:List Nd) (A:Option Addr) (cap:Nat) (w:World) (sm:SrcSm s) (h1:s.length≤cap) (h2:cap≤maxLen) (h:Nds w w.heap.size A s):
  Calls Tryz.prog 54 #[srcV s A cap] w fun r w'=>r= .returned (ftV (scopeF s))∧Below w.heap.size w w':=by
 refine' zq26
 go_enter Tryz.func54,Tryz.ntmps54
 refine' zq92
 have c0:=rs1.src
 go_wp2_with fail
 refine (source_any s A cap W1 HSM.out h1 h2 (nds_keep (HS.out W1 b1) (fun _ _ _ h=>h) hs1)).mono ?_
 rintro r w2 ⟨rfl,hb2⟩
 have rs2:=rs1.below hb2 rs1.lt
 have rf2:=rf1.below hb2 rf1.lt
 have hB2:=b1.trans (hb2.mono hs1)
 have hs2:=hB2.size
 clear c0 rs1 rf1 b1 hb2 hs1
 have c0:=rs2.src
 by_cases hP:SrcRt s
 rotate_left 1
 ·have HF:=Lib.hid (scopeF_2 hP)
  rw[cB_false hP]
  clear hP
  refine' zq32
 have HF0:=Lib.hid (scopeF_rt hP)
 rw[cB_true hP]
 clear hP
 go_wp2_with fail
 refine (names_scope s A cap w2 h1 h2 (nds_keep (HS.out w2 hB2) (fun _ _ _ h=>h) hs2)).mono ?_
 rintro r w3 ⟨rfl,hb3⟩
 have rs3:=rs2.below hb3 rs2.lt
 have rf3:=rf2.below hb3 rf2.lt
 have hB3:=hB2.trans (hb3.mono hs2)
 have hs3:=hB3.size
 have hl3:=rf3.lt
 clear c0 rs2 rf2 hB2 hb3 hs2
 obtain ⟨f,HFN⟩:∃f,Hid (fstL (nameF s) s=f):=⟨_,rfl⟩
 rw[HFN.out] at HF0⊢
 by_cases hf:f.err=0
 rotate_left 1
 ·have hf1:(f.err !=0)=true:=neq_yes hf
  have HF:Hid (scopeF s=f):=by show _=_;rw[HF0.out,ft2_1 hf]
  clear hf
  obtain ⟨⟨k0,k1,k2⟩,g0,g1,g2⟩:=rf3.three
  go_wp2_with fail
  exact bodyPost_ret (res1 rfl Tryz.underlying38 rfl (by kernel_rfl) rfl ((rf3.set3 _ _ _).alloc _)) rfl ⟨(congrArg (fun f=>Ending.returned (ftV f)) HF.out).symm,(below_set3 hB3 (by first|omega|(simp;omega)|simp) _ _ _).alloc (by first|(simp[World.setCell];omega)|simp[World.setCell]) _⟩
 have hf1:(f.err !=0)=false:=neq_no hf
 have HF1:Hid (scopeF s=ft2 (fstL (nodeF s) s) (mainF s)):=by show _=_;rw[HF0.out,ft2_0 hf]
 clear hf
 have c0:=rs3.src
 have ba:Below w3.heap.size w3 (w3.alloc (.cells (ftC f) 38)):=bE
 go_upto_region 6 with (fail)
 generalize hW4:w3.alloc (.cells (ftC f) 38)=w4 at*
 clear hW4
 have rs4:=rs3.below ba rs3.lt
 have rf4:=rf3.below ba rf3.lt
 have hB4:=hB3.trans (ba.mono hs3)
 have hs4:=hB4.size
 clear c0 rs3 rf3 hB3 hs3 ba hl3 HF0
 have c0:=rs4.src
 go_wp2_with fail
 clear c0
 go_loopw[23] (fun i wr=>∃k:Nat,k≤s.length∧i= .int .i64 k∧Hid (∀j,j<k→∀x,s[j]? =some x→(nodeF s j x).err=0)∧Below w4.heap.size w4 wr) (fun i _=>s.length-(intOf i).toNat)
 case atStart=>exact ⟨0,Nat.zero_le _,rfl,fun j h=>absurd h (by omega),Below.refl _ _⟩
 case round=>
  refine' zq62
  have rs:=rs4.below hbr rs4.lt
  have rf:=rf4.below hbr rf4.lt
  have hB:=hB4.trans (hbr.mono hs4)
  have hsB:=hB.size
  by_cases hlt:k<s.length
  ·refine' zq73
   rw[hA]
   have HA:=Lib.hid hA
   have HX:=Lib.hid hn
   have HSN:=Lib.hid (HSM.out.all n (List.mem_of_getElem? hn))
   have HAT:Hid (∀W,Below wr.heap.size wr W→NdAt W W.heap.size n a):=fun W hW=>(hat.below (hW.mono hsB)).more (Nat.le_trans hsB hW.size)
   have HSW:Hid (∀W,Below wr.heap.size wr W→Nds W W.heap.size A s):=fun W hW=>nds_keep (HS.out W (hB.trans (hW.mono hsB))) (fun _ _ _ h=>h) (Nat.le_trans hsB hW.size)
   obtain ⟨f1,HV1⟩:∃f,Hid (variablesF n=f):=⟨_,rfl⟩
   obtain ⟨f2,HV2⟩:∃f,Hid (equationsF s n=f):=⟨_,rfl⟩
   have HZ2:Hid (f2.err=0→f2=ft0):=fun g=>by
    rw[←HV2.out] at g⊢
    exact equationsF_zero g
   have HEQ:Hid (nodeF s k n=ft2 f1 f2):=by show _=_;rw[←HV1.out,←HV2.out];rfl
   have rn:=Row.new wr (ndArr n a) 58
   refine' zq106
   clear hA hn hat
   go_upto_region 9 with (fail)
   clear d0 d1 d2 d3 d4 d5 d6
   refine' zq180
   have bb:Below w6.heap.size w6 (w6.alloc (.cells #[.func (.func 94) #[] #[.pointer (some ⟨wr.heap.size,0,none⟩)],.func (.func 96) #[] #[.pointer (some ⟨w.heap.size,0,none⟩),.pointer (some ⟨wr.heap.size,0,none⟩)]] 176)):=bE
   have rc:=Row.new w6 #[.func (.func 94) #[] #[.pointer (some ⟨wr.heap.size,0,none⟩)],.func (.func 96) #[] #[.pointer (some ⟨w.heap.size,0,none⟩),.pointer (some ⟨wr.heap.size,0,none⟩)]] 176
   have b67:=ba.trans (bb.mono hsa)
   go_wp2_with fail
   generalize hW7:w6.alloc (.cells #[.func (.func 94) #[] #[.pointer (some ⟨wr.heap.size,0,none⟩)],.func (.func 96) #[] #[.pointer (some ⟨w.heap.size,0,none⟩),.pointer (some ⟨wr.heap.size,0,none⟩)]] 176)=w7 at*
   clear hW7
   have rs7:=rs.below b67 rs.lt
   have rn7:=rn.below bb rn.lt
   have rf7:=rf.below b67 rf.lt
   have hB7:=hB.trans (b67.mono hsB)
   have hs7:=b67.size
   refine (first_two 94 96 _ _ w6.heap.size w7 (fun _=>False) f1 f2 (fun _=>True) (fun _=>True) 176 (enters_of Tryz.func94 (by kernel_rfl) rfl) (enters_of Tryz.func96 (by kernel_rfl) rfl) rc (fun g=>g)
    (fun W o h=>h) (fun W o h=>h) (fun W g y0 y1 y2 hg h=>h) ?f1 ?f2 (fun k hk=>hk.elim) HZ2.out).mono ?_
   case f1=>
    intro W hW
    refine (chk1_any n a _ W HSN.out (HAT.out W (b67.trans (hW.mono hs7))) (rn7.below hW rn7.lt)).mono fun r W' hr=>?_
    obtain ⟨g1,g2⟩:=hr
    rw[HV1.out] at g1
    exact ⟨g1,Upd.of_below g2,fun _=>trivial⟩
   case f2=>
    intro W hW hR
    have hW':Below w7.heap.size w7 W:=Upd.below hW (fun k hk=>hk.elim) (Nat.le_refl _)
    have hW2:=b67.trans (hW'.mono hs7)
    refine (chk2_any s A cap n a _ _ W h1 h2 HSN.out (HSW.out W hW2) (HAT.out W hW2) (rs7.below hW' rs7.lt) (rn7.below hW' rn7.lt)).mono fun r W' hr=>?_
    obtain ⟨g1,g2⟩:=hr
    rw[HV2.out] at g1
    exact ⟨g1,Upd.of_below g2,fun _=>trivial⟩
   rintro r w8 ⟨rfl,hu8,_⟩
   have hb8:Below w7.heap.size w7 w8:=Upd.below hu8 (fun k hk=>hk.elim) (Nat.le_refl _)
   have rf8:=rf7.below hb8 rf7.lt
   have hB8:=hB7.trans (hb8.mono hB7.size)
   have hsB8:=hB8.size
   have hs8:=hb8.size
   have hl8:=rf8.lt
   obtain ⟨f',HF'⟩:∃f,Hid (ft2 f1 f2=f):=⟨_,rfl⟩
   rw[HF'.out]
   by_cases hf:f'.err=0
   ·have hf1:(f'.err !=0)=false:=neq_no hf
    have HN':=Lib.hid (step_uptoI (P:=fun j x=>(nodeF s j x).err=0) HN.out HX.out (by rw[HEQ.out,HF'.out];exact hf))
    have b9:Below w4.heap.size w4 (w8.alloc (.cells (ftC f') 38)):=((hbr.trans (b67.mono hszr)).trans (hb8.mono (by omega))).alloc (by omega) _
    clear hf
    go_wp2_with fail
    go_roundw
    case rel=>exact ⟨k+1,by omega,by go_num,HN',b9⟩
    case measure=>first|(simp[intOf];omega)|simp[intOf]
   ·have hf1:(f'.err !=0)=true:=neq_yes hf
    have HF:Hid (scopeF s=f'):=by
     have e:nodeF s k n=f':=by rw[HEQ.out,HF'.out]
     have h:=fstL_stop (f:=nodeF s) HN.out HX.out (by rw[e];exact hf)
     show _=_
     rw[HF1.out,h,e,ft2_1 hf]
    clear hf
    obtain ⟨⟨k0,k1,k2⟩,g0,g1,g2⟩:=rf8.three
    go_wp2_with fail
    exact bodyPost_ret (res1 rfl Tryz.underlying38 rfl (by kernel_rfl) rfl ((rf8.set3 _ _ _).alloc _)) rfl ⟨(congrArg (fun f=>Ending.returned (ftV f)) HF.out).symm,(below_set3 hB8 (by first|omega|(simp;omega)|simp) _ _ _).alloc (by first|(simp[World.setCell];omega)|simp[World.setCell]) _⟩
  ·obtain rfl:k=s.length:=by omega
   have HF2:Hid (scopeF s=mainF s):=by
    show _=_
    rw[HF1.out,fstL_end HN.out,ft2_0 (a:=ft0) rfl]
   have HR:=Lib.hid (find_any s s.length A cap mainNm wr rfl h1 h2 (nds_keep (HS.out wr hB) (fun _ _ _ h=>h) hsB))
   have c0:=rs.src
   by_cases hP:mainNm∈s.map Nd.name
   ·have HC:=Lib.hid (cB_true hP)
    have HF:Hid (scopeF s=ft0):=by show _=_;rw[HF2.out];unfold mainF;rw[if_neg (fun g=>g hP)]
    refine' zq146
    obtain ⟨⟨k0,k1,k2⟩,g0,g1,g2⟩:=rf5.three
    go_wp2_with fail
    exact bodyPost_ret (res1 rfl Tryz.underlying38 rfl (by kernel_rfl) rfl ((rf5.set3 _ _ _).alloc _)) rfl ⟨(congrArg (fun f=>Ending.returned (ftV f)) HF.out).symm,(below_set3 hB5 (by first|omega|(simp;omega)|simp) _ _ _).alloc (by first|(simp[World.setCell];omega)|simp[World.setCell]) _⟩
   ·have HC:=Lib.hid (cB_false hP)
    have HF:Hid (scopeF s=⟨27,0,0⟩):=by show _=_;rw[HF2.out];unfold mainF;rw[if_pos hP]
    refine' zq146
    refine' zq54
    have q9:Below w5.heap.size w5 w9:=Below.trans bE (hb9.mono lE)
    have rf9:=rf5.below q9 rf5.lt
    have b9:=Below.trans hB5 (q9.mono (Below.size hB5))
    refine' zq2
def partClock (e:Ex) (clock:List Lt) (i:Nat):List Lt:=
 if e.op=24∨e.op=25 then clock.dropLast else if e.op=26 then clock++ [⟨e.name,decide (i=1)⟩] else clock
def fitsL (e:Ex) (clock:List Lt):List (List Lt→Ft)→Nat→Ft
 | [],_=>ft0
 |p::ps,i=>if (p (partClock e clock i)).err≠0 then p (partClock e clock i) else fitsL e clock ps (i+1)
def badClock (n:Nd) (e:Ex) (clock:List Lt):Prop:=((e.op=3∨e.op=26)∧clockOf n e.name≠clock)∨((e.op=24∨e.op=25)∧clock.getLast?≠some ⟨e.name,decide (e.op=25)⟩)
open Classical in
noncomputable def fitsP (n:Nd):Ex→List Lt→Ft:=Ex.para fun e ps clock=>if badClock n e clock then ⟨30,e.line,e.col⟩ else fitsL e clock ps 0
theorem fitsP_bad {n:Nd} {e:Ex} {clock:List Lt} (h:badClock n e clock):fitsP n e clock=⟨30,e.line,e.col⟩:=by
 unfold fitsP;rw[Ex.para_eq,if_pos h]
theorem fitsP_ok {n:Nd} {e:Ex} {clock:List Lt} (h:¬badClock n e clock):fitsP n e clock=fitsL e clock (e.args.map (fitsP n)) 0:=by
 unfold fitsP;rw[Ex.para_eq,if_neg h]
def ArgsOk (e:Ex):Prop:=(e.op=24∨e.op=25→e.args.length=1)∧(e.op=26→e.args.length=2)
theorem bad_3 {n:Nd} {e:Ex} {clock:List Lt} (h:e.op=3∨e.op=26):badClock n e clock↔clockOf n e.name≠clock:=by
 unfold badClock
 constructor
 ·rintro (⟨_,h'⟩|⟨h',_⟩)
  ·exact h'
  ·omega
 ·exact fun h'=> .inl ⟨h,h'⟩
theorem bad_24 {n:Nd} {e:Ex} {clock:List Lt} (h:e.op=24∨e.op=25):badClock n e clock↔clock.getLast?≠some ⟨e.name,decide (e.op=25)⟩:=by
 unfold badClock
 constructor
 ·rintro (⟨h',_⟩|⟨_,h'⟩)
  ·omega
  ·exact h'
 ·exact fun h'=> .inr ⟨h,h'⟩
theorem bad_no {n:Nd} {e:Ex} {clock:List Lt} (h3:e.op≠3) (h4:e.op≠24) (h5:e.op≠25) (h6:e.op≠26):¬badClock n e clock:=by
 unfold badClock
 rintro (⟨h,_⟩|⟨h,_⟩)<;>omega
theorem part_24 {e:Ex} (h:e.op=24∨e.op=25) (clock:List Lt) (i:Nat):partClock e clock i=clock.dropLast:=by unfold partClock;rw[if_pos h]
theorem part_26 {e:Ex} (h:e.op=26) (clock:List Lt) (i:Nat):partClock e clock i=clock++ [⟨e.name,decide (i=1)⟩]:=by unfold partClock;rw[if_neg (by omega),if_pos h]
theorem part_no {e:Ex} (h4:e.op≠24) (h5:e.op≠25) (h6:e.op≠26) (clock:List Lt) (i:Nat):partClock e clock i=clock:=by unfold partClock;rw[if_neg (by omega),if_neg h6]
theorem part_len (e:Ex) (clock:List Lt) (i:Nat):(partClock e clock i).length≤clock.length+1:=by
 unfold partClock;split
 ·simp;omega
 ·split<;>simp
def repN (x:Value) (n c:Nat):List Value:=List.replicate n x++List.replicate (c-n) (.slice none 0 0)
theorem repN_len {x:Value} {n c:Nat} (h:n≤c):(repN x n c).length=c:=by simp[repN];omega
theorem repN_splice {x:Value} {n m c:Nat}:splice (repN x n c) n (List.replicate m x)=repN x (n+m) c:=by
 unfold splice repN
 refine' zq114
theorem repN_get {x:Value} {n c j:Nat} (h:j<n):(repN x n c)[j]? =some x:=by
 unfold repN
 rw[List.getElem?_append_left (by simpa using h),List.getElem?_replicate,if_pos h]
theorem repN_zero (x:Value) (c:Nat):repN x 0 c=List.replicate c (.slice none 0 0):=by simp[repN]
theorem repN_full (x:Value) (c:Nat):repN x c c=List.replicate c x:=by simp[repN]
theorem made_one (z:Value) (n:Nat):madeCells #[z] n=(List.replicate n z).toArray:=by
 apply Array.ext
 ·simp[madeCells]
 ·intro i h1 h2
  simp[madeCells,Nat.mod_one]
theorem info_lits:(Tryz.prog.info? 101).map (fun i=>(i.zero,i.size,i.bytes))=some (some (.slice none 0 0),1,24):=by kernel_rfl
theorem make_lits (n:Int) (h0:0≤n) (h1:n≤1600) (W:World):(Instr.makeSlice 260 (.int .i64 n) (.int .i64 n)).run Tryz.prog W= .ok (.slice (some ⟨W.heap.size,0,none⟩) n.toNat n.toNat) (W.alloc (.cells (List.replicate n.toNat (.slice none 0 0)).toArray 101)):=by
 obtain ⟨i0,hi0,hz0,hz1,hz2⟩:=info_parts info_lits
 rw[run_make (P:=Tryz.prog) W 260 101 i0 (.slice none 0 0) rfl hi0 hz0 .i64 .i64 n n h0 (Int.le_refl _) (by rw[hz2];omega) (by omega),hz1,Nat.mul_one,←made_one]
 rfl
def RepIs (x:Value) (c:Nat) (w:World) (e:Ending) (w':World):Prop:=∃R,e= .returned (.slice (some ⟨R,0,none⟩) c c)∧w.heap.size≤R∧Row w' R (List.replicate c x).toArray 101∧Below w.heap.size w w'
theorem repL_pos (x:Value) (c b off cap:Nat) (hc:c≤1600) (hc1:1≤c) (w:World) (hv:x.oneCell'=true) (hb:b<w.heap.size) (hx:w.cell? ⟨b,off,none⟩=some x):
  Calls Tryz.prog 184 #[.slice (some ⟨b,off,none⟩) 1 cap,.int .i64 c] w (RepIs x c w):=by
 have mk:=make_lits c (by omega) (by omega)
 have e1:IntKind.u64.wrap (c:Int)=(c:Int):=by rw[IntKind.wrap_u64];omega
 have hsz1:(Tryz.prog.info? 101).map (·.size)=some 1:=by kernel_rfl
 have b1:=(Below.refl w.heap.size w).alloc (Nat.le_refl _) (.cells (Array.replicate c (.slice none 0 0)) 101)
 have r1:=Row.new w (Array.replicate c (.slice none 0 0)) 101
 have hx1:(w.alloc (.cells (Array.replicate c (.slice none 0 0)) 101)).cell? ⟨b,off,none⟩=some x:=(World.cell?_alloc_lt w _ _ hb).trans hx
 have R1:Hid ((w.alloc (.cells (Array.replicate c (.slice none 0 0)) 101)).heap[w.heap.size]? =some (.cells (repN x 0 c).toArray 101 (0,0))):=by show _=_;rw[repN_zero];simpa[Row] using r1
 clear r1
 go_enter Tryz.func184,Tryz.ntmps184
 refine' zq142
 go_wp2_with (refine wpList_copy_splice rfl (.tmp 31) (.tmp 32) 260 260 rfl 101 Tryz.underlying260 hsz1 _ _ _ _ _ _ rfl rfl w.heap.size 0 (repN x 0 c) 101 R1.out [x] ?c1 ?c2 ?c3 ?c4 w.heap.size w b1 (Nat.le_refl _) ?_)
 case c1=>exact (Nat.min_eq_left hc1).symm
 case c2=>
  intro j v hv
  match j,hv with
  |0,hv=>simp at hv;subst hv;simpa using hx
 case c3=>rw[repN_len (Nat.zero_le _)];simpa using hc1
 case c4=>intro v hw;simp at hw;subst hw;exact hv
 intro w2 hR2 hb2
 have R2:Hid (Row w2 w.heap.size (repN x 1 c).toArray 101):=by
  have:=hR2.out
  rw[show [x]=List.replicate 1 x from rfl,repN_splice] at this
  exact this
 clear hR2 R1 b1 hx1 mk
 go_wp2_with fail
 go_loopw[8] (fun i wr=>∃n:Nat,1≤n∧n≤c∧i= .int .i64 n∧Hid (Row wr w.heap.size (repN x n c).toArray 101)∧Below w.heap.size w wr) (fun i _=>c-(intOf i).toNat)
 case atStart=>exact ⟨1,by omega,hc1,rfl,R2,hb2⟩
 case round=>
  clear R2 hb2
  obtain ⟨n,hn1,hnc,rfl,HR,hbr⟩:=hrel
  by_cases hlt:n<c
  ·refine' zq112
   have HC:Hid (∀j v,(List.replicate (min n (c-n)) x)[j]? =some v→wr.drew.cell? ((⟨w.heap.size,0,none⟩:Addr).add j)=some v):=by
    refine' zq115
   have HL:Hid ((repN x n c).length=c):=repN_len hnc
   go_wp2_with fail
   go_region_held3 (fun _=>True) (first|trivial) (first|((refine step_copy_splice (by rfl) (.tmp 41) (.tmp 44) 260 260 (by rfl) 101 Tryz.underlying260 hsz1 (some ⟨w.heap.size,n,none⟩) (some ⟨w.heap.size,0,none⟩) (c-n) (c-n) n c (by rfl) (by rfl) w.heap.size n (repN x n c) 101 HR.out.drew (List.replicate (min n (c-n)) x) (by simp) (fun _=>⟨rfl,_,rfl,HC.out⟩) (by rw[HL.out];simp;omega) HM.out w.heap.size w hbr.drew (Nat.le_refl _) ?_);intro w3 hR3 hb3))
   have R3:Hid (Row w3 w.heap.size (repN x (n+min n (c-n)) c).toArray 101):=by
    have:=hR3.out
    rw[repN_splice] at this
    exact this
   have hlen:(List.replicate (min n (c-n)) x).length=min n (c-n):=by simp
   refine' zq39
  ·obtain rfl:n=c:=by omega
   go_wp2_with fail
   go_ret
   exact ⟨w.heap.size,rfl,Nat.le_refl _,by rw[←repN_full];exact HR.out,hbr⟩
theorem repL_zero (x:Value) (b off cap:Nat) (w:World):
  Calls Tryz.prog 184 #[.slice (some ⟨b,off,none⟩) 1 cap,.int .i64 0] w (RepIs x 0 w):=by
 have mk:=make_lits 0 (by omega) (by omega)
 have hsz1:(Tryz.prog.info? 101).map (·.size)=some 1:=by kernel_rfl
 have b1:=(Below.refl w.heap.size w).alloc (Nat.le_refl _) (.cells #[] 101)
 have R1:Hid ((w.alloc (.cells #[] 101)).heap[w.heap.size]? =some (.cells ([]:List Value).toArray 101 (0,0))):=Row.new w #[] 101
 go_enter Tryz.func184,Tryz.ntmps184
 refine' zq143
 go_wp2_with (refine wpList_copy_splice rfl (.tmp 31) (.tmp 32) 260 260 rfl 101 Tryz.underlying260 hsz1 _ _ _ _ _ _ rfl rfl w.heap.size 0 [] 101 R1.out [] ?c1 (fun h=>absurd h (by simp)) ?c3 ?c4 w.heap.size w b1 (Nat.le_refl _) ?_)
 case c1=>rfl
 case c3=>simp
 case c4=>intro v hw;simp at hw
 refine' zq123
theorem repL_any (x:Value) (c b off cap:Nat) (hc:c≤1600) (w:World) (hv:x.oneCell'=true) (hb:b<w.heap.size) (hx:w.cell? ⟨b,off,none⟩=some x):
  Calls Tryz.prog 184 #[.slice (some ⟨b,off,none⟩) 1 cap,.int .i64 c] w (RepIs x c w):=by
 rcases Nat.eq_zero_or_pos c with rfl|h
 ·exact repL_zero x b off cap w
 ·exact repL_pos x c b off cap hc h w hv hb hx
end Go.Proofs.YtdkgkacnjdnpoaaGreat
