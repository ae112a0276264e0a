/-
  Which expressions go by which clocks: the contract of clock.fits.
-/
import Derived.Test.YtdkgkacnjdnpoaaGreatRepL
import Derived.Test.YtdkgkacnjdnpoaaGreatFewM
import Derived.Deep.CutBlock
set_option maxHeartbeats 8000000
set_option maxRecDepth 100000
namespace Go.Proofs.YtdkgkacnjdnpoaaGreat
open Go.RowKit
attribute [local go_sem ↓] Go.wp_at_zero Go.wp_at_succ
abbrev exArr (e:Ex) (A:Option Addr) (cap:Nat):Array Value:= #[.int .i64 e.op,.string e.name,.int .i64 e.n,.slice A e.args.length cap,.int .i64 e.line,.int .i64 e.col]
theorem Row.ex {W:World} {b:Nat} {e:Ex} {A:Option Addr} {cap:Nat} {t:TypeId} (h:Row W b (exArr e A cap) t):W.cell? ⟨b,0,none⟩=some (.int .i64 e.op)∧W.cell? ⟨b,1,none⟩=some (.string e.name)∧W.cell? ⟨b,2,none⟩=some (.int .i64 e.n)∧
  W.cell? ⟨b,3,none⟩=some (.slice A e.args.length cap)∧W.cell? ⟨b,4,none⟩=some (.int .i64 e.line)∧W.cell? ⟨b,5,none⟩=some (.int .i64 e.col):=
 ⟨(h.cell 0).trans rfl,(h.cell 1).trans rfl,(h.cell 2).trans rfl,(h.cell 3).trans rfl,(h.cell 4).trans rfl,(h.cell 5).trans rfl⟩
abbrev ftArr (f:Ft):Array Value:= #[.int .i64 f.err,.int .i64 f.line,.int .i64 f.col]
theorem rowNew4 (W:World) (o o' o'':Obj) (cs:Array Value) (t:TypeId):Row ((((W.alloc o).alloc o').alloc o'').alloc (.cells cs t)) (W.heap.size+3) cs t:=by
 have:=Row.new (((W.alloc o).alloc o').alloc o'') cs t
 rwa [World.size_alloc,World.size_alloc,World.size_alloc] at this
def ClkRow (W:World) (B R:Nat) (e:Ex) (clock:List Lt):Prop:=∀i,i<e.args.length→∃A c,W.cell? ⟨R,i,none⟩=some (.slice A (partClock e clock i).length c)∧(partClock e clock i).length≤c∧c≤maxLen∧Sl W B 2 isLit A (partClock e clock i)
theorem ClkRow.below {W W':World} {R:Nat} {e:Ex} {clock:List Lt} (h:ClkRow W W.heap.size R e clock) (hR:R<W.heap.size) (hb:Below W.heap.size W W'):ClkRow W' W'.heap.size R e clock:=fun i hi=>by
 obtain ⟨A,c,h1,h2,h3,h4⟩:=h i hi
 exact ⟨A,c,(hb.cell (p:=⟨R,i,none⟩) hR).trans h1,h2,h3,lits_keep h4 (keeps_of hb) hb.size⟩
def Calls2 (n:Nd) (a:NdA) (x:Ex) (A':Option Addr) (cap':Nat) (clock:List Lt) (Ac:Option Addr) (cc:Nat) (W4:World):Prop:=
 ∀W:World,Below W4.heap.size W4 W→Calls Tryz.prog 149 #[ndV n a,exV x A' cap',.slice Ac clock.length cc] W fun r w'=>r= .returned (ftV (fitsP n x clock))∧Below W.heap.size W w'
theorem ck_same {W:World} {B R:Nat} {e:Ex} {clock:List Lt} {A2:Option Addr} {c2:Nat} {t:TypeId} (rr:Row W R (List.replicate e.args.length (.slice A2 clock.length c2)).toArray t) (h:Sl W B 2 isLit A2 clock) (h1:clock.length≤c2) (h2:c2≤maxLen) (h4:e.op≠24) (h5:e.op≠25) (h6:e.op≠26) (hB:B≤W.heap.size:=by omega):ClkRow W W.heap.size R e clock:=fun i hi=>by
 rw[part_no h4 h5 h6]
 exact ⟨A2,c2,(rr.cell i).trans (by simp[hi]),h1,h2,h.more hB⟩
structure FitCut (n:Nd) (a:NdA) (e:Ex) (A:Option Addr) (cap:Nat) (clock:List Lt) (w:World) (R:Nat) (W:World):Prop where
 rn:Row W w.heap.size (ndArr n a) 58
 re:Row W (w.heap.size+1) (exArr e A cap) 63
 rf:Row W (w.heap.size+2) (ftArr ft0) 38
 hR:R<W.heap.size
 ck:ClkRow W W.heap.size R e clock
 ok:fitsP n e clock=fitsL e clock (e.args.map (fitsP n)) 0
 bel:Below w.heap.size w W
theorem FitCut.drewN {n:Nd} {a:NdA} {e:Ex} {A:Option Addr} {cap:Nat} {clock:List Lt} {w:World} {R:Nat} {W:World} (h:FitCut n a e A cap clock w R W) (k:Nat):FitCut n a e A cap clock w R (W.drewN k):=
 ⟨h.rn,h.re,h.rf,h.hR,h.ck.below h.hR (below_drewN' (Below.refl _ _) k),h.ok,below_drewN' h.bel k⟩
theorem fits_any (n:Nd) (a:NdA) (hs:NdSm n) (e:Ex):∀(A:Option Addr) (cap:Nat) (clock:List Lt) (A2:Option Addr) (c2:Nat) (w:World),NdAt w w.heap.size n a→ExOk e→e.args.length≤cap→cap≤maxLen→IsExs w w.heap.size A e.args→(∀x∈exList e,ArgsOk x)→
  clock.length+exSize e≤1000→clock.length≤c2→c2≤maxLen→Sl w w.heap.size 2 isLit A2 clock→
  Calls Tryz.prog 149 #[ndV n a,exV e A cap,.slice A2 clock.length c2] w fun r w'=>r= .returned (ftV (fitsP n e clock))∧Below w.heap.size w w':=by
 induction e using Ex.ind with
 |h e ih=>
  intro A cap clock A2 c2 w hn hok hcap hmax hx hargs hsz hc2 hm2 hcl
  have HI:=Lib.hid ih
  have hag:=hargs e (exList_self e)
  have HG:=Lib.hid hag
  have HAR:=Lib.hid hargs
  have hm2':c2≤9223372036854775807:=by unfold maxLen at hm2;omega
  have hal:=exSize_args e
  have hal2:e.args.length≤1000:=by omega
  have hcl2:clock.length≤1000:=by omega
  have HSM:=Lib.hid hs
  clear ih hag hargs hs
  have b1:Below w.heap.size w ((((w.alloc (.cells (ndArr n a) 58)).alloc (.cells (exArr e A cap) 63)).alloc (.cells (ftArr ft0) 38)).alloc (.cells (ftArr ⟨30,e.line,e.col⟩) 38)):=
   ((((Below.refl _ _).alloc (Nat.le_refl _) _).alloc (by simp) _).alloc (by simp;omega) _).alloc (by simp;omega) _
  have rn1:=(((Row.new w (ndArr n a) 58).alloc (.cells (exArr e A cap) 63)).alloc (.cells (ftArr ft0) 38)).alloc (.cells (ftArr ⟨30,e.line,e.col⟩) 38)
  have re1:=((rowNew2 w (.cells (ndArr n a) 58) (exArr e A cap) 63).alloc (.cells (ftArr ft0) 38)).alloc (.cells (ftArr ⟨30,e.line,e.col⟩) 38)
  have rf1:=(rowNew3 w (.cells (ndArr n a) 58) (.cells (exArr e A cap) 63) (ftArr ft0) 38).alloc (.cells (ftArr ⟨30,e.line,e.col⟩) 38)
  have rg1:=rowNew4 w (.cells (ndArr n a) 58) (.cells (exArr e A cap) 63) (.cells (ftArr ft0) 38) (ftArr ⟨30,e.line,e.col⟩) 38
  have HN:=Lib.hid hn
  have HX:=Lib.hid hx
  have HC:=Lib.hid hcl
  clear hn hx hcl
  go_enter Tryz.func149,Tryz.ntmps149
  go_upto_region 2 with (fail)
  generalize ((((w.alloc (.cells (ndArr n a) 58)).alloc (.cells (exArr e A cap) 63)).alloc (.cells (ftArr ft0) 38)).alloc (.cells (ftArr ⟨30,e.line,e.col⟩) 38))=W1 at*
  have hs1:=b1.size
  have hl1:=rg1.lt
  have hlx:=re1.lt
  obtain ⟨x0,x1,x2,x3,x4,x5⟩:=re1.ex
  go_wp2_with fail
  refine (repL_any (.slice A2 clock.length c2) e.args.length W1.heap.size 0 1 (by omega) (W1.alloc (.cells #[.slice A2 clock.length c2] 101)) rfl (by simp) (by simp)).mono ?_
  rintro r W2 ⟨R,rfl,hR1,rr,hb2'⟩
  have hb2:Below W1.heap.size W1 W2:=((Below.refl _ _).alloc (Nat.le_refl _) _).trans (hb2'.mono (by simp))
  have rn:=rn1.below hb2 rn1.lt
  have re:=re1.below hb2 re1.lt
  have rf:=rf1.below hb2 rf1.lt
  have rg:=rg1.below hb2 rg1.lt
  have hB2:=b1.trans (hb2.mono hs1)
  have hlR:=rr.lt
  have hsz2:=hB2.size
  have hR2:w.heap.size+4≤R:=by simp at hR1;omega
  clear rn1 re1 rf1 rg1 b1 hb2 hb2' hR1 hs1 hl1 hlx x0 x1 x2 x3 x4 x5
  obtain ⟨x0,x1,x2,x3,x4,x5⟩:=re.ex
  have HCL:=Lib.hid (lits_keep HC.out (keeps_of hB2) (Nat.le_refl _))
  go_upto_block 0 with (fail)
  go_cut[] (fun W=>FitCut n a e A cap clock w R W)
  case first=>
   have hlr4:=rg.lt
   have HM:Hid (∀W:World,Below (w.heap.size+4) W2 W→ClkRow W W.heap.size R e clock→fitsP n e clock=fitsL e clock (e.args.map (fitsP n)) 0→FitCut n a e A cap clock w R W):=fun W hW ck ok=>
    ⟨rn.below hW (by omega),re.below hW (by omega),rf.below hW (by omega),by have:=hW.size;omega,ck,ok,hB2.trans (hW.mono (by omega))⟩
   have hsz4:w.heap.size+4≤W2.heap.size:=by omega
   have HN2:Hid (NdAt W2 W2.heap.size n a):=(HN.out.below hB2).more hsz2
   obtain ⟨c0,c1,cc2,c3,c4,c5,c6⟩:=rn.nd
   by_cases h24:e.op=24∨e.op=25
   ·have ha1:e.args.length=1:=HG.out.1 h24
    rcases h24 with hop|hop
    ·have o3:(e.op==3)=false:=by rw[beq_eq_false_iff_ne];omega
     have o24:(e.op==24)=true:=by rw[beq_iff_eq];exact hop
     have o25:(e.op==25)=false:=by rw[beq_eq_false_iff_ne];omega
     have H24:Hid (e.op=24∨e.op=25):=by show _∨_;omega
     have HD25:Hid (decide (e.op=25)=false):=by show _=_;simp[hop]
     have HA1:=Lib.hid ha1
     obtain ⟨⟨y0,y1,y2⟩,_⟩:=rg.three
     obtain ⟨⟨z0,z1,z2⟩,g0,g1,g2⟩:=rf.three
     clear hop ha1
     by_cases h0:clock.length=0
     ·obtain rfl:clock=[]:=List.eq_nil_of_length_eq_zero h0
      have HF:=Lib.hid (fitsP_bad ((bad_24 (n:=n) (e:=e) (clock:=[]) H24.out).2 (by simp)))
      clear h0
      go_wp2_with fail
      go_quiet (fail)
      go_wp2_with fail
      exact bodyPost_ret (v:=ftV ⟨30,e.line,e.col⟩) (res1 rfl Tryz.underlying38 rfl (by kernel_rfl) rfl (by first|exact (rf.set3 _ _ _).drewN _|exact (rf.set3 _ _ _).drew|exact (rf.drewN _).set3 _ _ _|exact rf.drew.set3 _ _ _)) rfl ⟨by rw[HF.out],by repeat (first|exact hB2|refine Below.drew ?_|refine below_drewN' ?_ _|refine Below.setCell ?_ (by first|(simp;omega)|simp) _)⟩
     ·obtain ⟨m,hm⟩:∃m,clock.length=m+1:=⟨clock.length-1,by omega⟩
      obtain ⟨b2,o2,y,rfl,hb2,hy,ys,d0,d1⟩:=HCL.out.lit (show m<clock.length by omega)
      have HY:Hid (clock.getLast? =some y):=by show _=_;rw[List.getLast?_eq_getElem?,hm];exact hy
      have hm1:(clock.length:Int)-1=(m:Int):=by omega
      have hm3:m≤c2:=by omega
      have hm4:(m:Int)≤(c2:Int):=by omega
      have hm5:(m:Int)<(clock.length:Int):=by omega
      have hm6:(0:Int)≤(m:Int):=by omega
      have hm7:decide ((m:Int)<0)=false:=by simp
      have hm8:m<clock.length:=by omega
      have HM1:=Lib.hid hm
      clear hm hy h0
      obtain ⟨yn,yb⟩:=y
      by_cases e1:yn=e.name
      ·have e1':=beq_yes e1
       cases yb
       ·have HOK:=Lib.hid (fitsP_ok (fun hb=>(bad_24 (n:=n) (e:=e) (clock:=clock) H24.out).1 hb (by rw[HY.out,HD25.out,e1])))
        have rr8:=rr.set 0 (.slice (some ⟨b2,o2,none⟩) m m)
        have q0:W2.cell? ⟨R,0,none⟩=some (.slice (some ⟨b2,o2,none⟩) clock.length c2):=(rr.cell 0).trans (by simp[HA1.out])
        have q1:=rr.frozen 0
        have i1:(0:Int)<(e.args.length:Int):=by have:=HA1.out;omega
        have i3:0<e.args.length:=by omega
        have HCUT:Hid (FitCut n a e A cap clock w R (W2.setCell ⟨R,0,none⟩ (.slice (some ⟨b2,o2,none⟩) m m))):=by
         refine HM.out _ ((Below.refl _ _).setCell (p:=⟨R,0,none⟩) (by show w.heap.size+4≤R;omega) _) (fun i hi=>?_) HOK.out
         have hsz10:(W2.setCell ⟨R,0,none⟩ (.slice (some ⟨b2,o2,none⟩) m m)).heap.size=W2.heap.size:=by simp[World.setCell]
         have hi2:i=0:=by have:=HA1.out;omega
         have hdl:clock.dropLast.length=m:=by simp[HM1.out]
         subst hi2
         rw[part_24 H24.out,hsz10,hdl]
         refine ⟨some ⟨b2,o2,none⟩,m,(rr8.cell 0).trans (by simp[HA1.out]),Nat.le_refl _,by omega,?_⟩
         rw[List.dropLast_eq_take]
         exact (sl_far (HCL.out.take _) (p:=⟨R,0,none⟩) (fun ad hA=>by injection hA with hA;subst hA;show b2≠R;omega) _).more (by omega)
        clear e1 rr8
        go_wp2_with fail
        go_quiet (fail)
        go_wp2_with fail
        go_meet
        first|exact HCUT.out|exact HCUT.out.drewN _|exact HCUT.out.drew
       ·have HF:=Lib.hid (fitsP_bad ((bad_24 (n:=n) (e:=e) (clock:=clock) H24.out).2 (by rw[HY.out,HD25.out];simp)))
        clear e1
        go_wp2_with fail
        go_quiet (fail)
        go_wp2_with fail
        exact bodyPost_ret (v:=ftV ⟨30,e.line,e.col⟩) (res1 rfl Tryz.underlying38 rfl (by kernel_rfl) rfl (by first|exact (rf.set3 _ _ _).drewN _|exact (rf.set3 _ _ _).drew|exact (rf.drewN _).set3 _ _ _|exact rf.drew.set3 _ _ _)) rfl ⟨by rw[HF.out],by repeat (first|exact hB2|refine Below.drew ?_|refine below_drewN' ?_ _|refine Below.setCell ?_ (by first|(simp;omega)|simp) _)⟩
      ·have e1':=beq_no e1
       have HF:=Lib.hid (fitsP_bad ((bad_24 (n:=n) (e:=e) (clock:=clock) H24.out).2 (by rw[HY.out];intro g;injection g with g;injection g with g;exact e1 g)))
       clear e1
       go_wp2_with fail
       go_quiet (fail)
       go_wp2_with fail
       exact bodyPost_ret (v:=ftV ⟨30,e.line,e.col⟩) (res1 rfl Tryz.underlying38 rfl (by kernel_rfl) rfl (by first|exact (rf.set3 _ _ _).drewN _|exact (rf.set3 _ _ _).drew|exact (rf.drewN _).set3 _ _ _|exact rf.drew.set3 _ _ _)) rfl ⟨by rw[HF.out],by repeat (first|exact hB2|refine Below.drew ?_|refine below_drewN' ?_ _|refine Below.setCell ?_ (by first|(simp;omega)|simp) _)⟩
    ·have o3:(e.op==3)=false:=by rw[beq_eq_false_iff_ne];omega
     have o25:(e.op==25)=true:=by rw[beq_iff_eq];exact hop
     have o24:(e.op==24)=false:=by rw[beq_eq_false_iff_ne];omega
     have H24:Hid (e.op=24∨e.op=25):=by show _∨_;omega
     have HD25:Hid (decide (e.op=25)=true):=by show _=_;simp[hop]
     have HA1:=Lib.hid ha1
     obtain ⟨⟨y0,y1,y2⟩,_⟩:=rg.three
     obtain ⟨⟨z0,z1,z2⟩,g0,g1,g2⟩:=rf.three
     clear hop ha1
     by_cases h0:clock.length=0
     ·obtain rfl:clock=[]:=List.eq_nil_of_length_eq_zero h0
      have HF:=Lib.hid (fitsP_bad ((bad_24 (n:=n) (e:=e) (clock:=[]) H24.out).2 (by simp)))
      clear h0
      go_wp2_with fail
      go_quiet (fail)
      go_wp2_with fail
      exact bodyPost_ret (v:=ftV ⟨30,e.line,e.col⟩) (res1 rfl Tryz.underlying38 rfl (by kernel_rfl) rfl (by first|exact (rf.set3 _ _ _).drewN _|exact (rf.set3 _ _ _).drew|exact (rf.drewN _).set3 _ _ _|exact rf.drew.set3 _ _ _)) rfl ⟨by rw[HF.out],by repeat (first|exact hB2|refine Below.drew ?_|refine below_drewN' ?_ _|refine Below.setCell ?_ (by first|(simp;omega)|simp) _)⟩
     ·obtain ⟨m,hm⟩:∃m,clock.length=m+1:=⟨clock.length-1,by omega⟩
      obtain ⟨b2,o2,y,rfl,hb2,hy,ys,d0,d1⟩:=HCL.out.lit (show m<clock.length by omega)
      have HY:Hid (clock.getLast? =some y):=by show _=_;rw[List.getLast?_eq_getElem?,hm];exact hy
      have hm1:(clock.length:Int)-1=(m:Int):=by omega
      have hm3:m≤c2:=by omega
      have hm4:(m:Int)≤(c2:Int):=by omega
      have hm5:(m:Int)<(clock.length:Int):=by omega
      have hm6:(0:Int)≤(m:Int):=by omega
      have hm7:decide ((m:Int)<0)=false:=by simp
      have hm8:m<clock.length:=by omega
      have HM1:=Lib.hid hm
      clear hm hy h0
      obtain ⟨yn,yb⟩:=y
      by_cases e1:yn=e.name
      ·have e1':=beq_yes e1
       cases yb
       ·have HF:=Lib.hid (fitsP_bad ((bad_24 (n:=n) (e:=e) (clock:=clock) H24.out).2 (by rw[HY.out,HD25.out];simp)))
        clear e1
        go_wp2_with fail
        go_quiet (fail)
        go_wp2_with fail
        exact bodyPost_ret (v:=ftV ⟨30,e.line,e.col⟩) (res1 rfl Tryz.underlying38 rfl (by kernel_rfl) rfl (by first|exact (rf.set3 _ _ _).drewN _|exact (rf.set3 _ _ _).drew|exact (rf.drewN _).set3 _ _ _|exact rf.drew.set3 _ _ _)) rfl ⟨by rw[HF.out],by repeat (first|exact hB2|refine Below.drew ?_|refine below_drewN' ?_ _|refine Below.setCell ?_ (by first|(simp;omega)|simp) _)⟩
       ·have HOK:=Lib.hid (fitsP_ok (fun hb=>(bad_24 (n:=n) (e:=e) (clock:=clock) H24.out).1 hb (by rw[HY.out,HD25.out,e1])))
        have rr8:=rr.set 0 (.slice (some ⟨b2,o2,none⟩) m m)
        have q0:W2.cell? ⟨R,0,none⟩=some (.slice (some ⟨b2,o2,none⟩) clock.length c2):=(rr.cell 0).trans (by simp[HA1.out])
        have q1:=rr.frozen 0
        have i1:(0:Int)<(e.args.length:Int):=by have:=HA1.out;omega
        have i3:0<e.args.length:=by omega
        have HCUT:Hid (FitCut n a e A cap clock w R (W2.setCell ⟨R,0,none⟩ (.slice (some ⟨b2,o2,none⟩) m m))):=by
         refine HM.out _ ((Below.refl _ _).setCell (p:=⟨R,0,none⟩) (by show w.heap.size+4≤R;omega) _) (fun i hi=>?_) HOK.out
         have hsz10:(W2.setCell ⟨R,0,none⟩ (.slice (some ⟨b2,o2,none⟩) m m)).heap.size=W2.heap.size:=by simp[World.setCell]
         have hi2:i=0:=by have:=HA1.out;omega
         have hdl:clock.dropLast.length=m:=by simp[HM1.out]
         subst hi2
         rw[part_24 H24.out,hsz10,hdl]
         refine ⟨some ⟨b2,o2,none⟩,m,(rr8.cell 0).trans (by simp[HA1.out]),Nat.le_refl _,by omega,?_⟩
         rw[List.dropLast_eq_take]
         exact (sl_far (HCL.out.take _) (p:=⟨R,0,none⟩) (fun ad hA=>by injection hA with hA;subst hA;show b2≠R;omega) _).more (by omega)
        clear e1 rr8
        go_wp2_with fail
        go_quiet (fail)
        go_wp2_with fail
        go_meet
        first|exact HCUT.out|exact HCUT.out.drewN _|exact HCUT.out.drew
      ·have e1':=beq_no e1
       have HF:=Lib.hid (fitsP_bad ((bad_24 (n:=n) (e:=e) (clock:=clock) H24.out).2 (by rw[HY.out];intro g;injection g with g;injection g with g;exact e1 g)))
       clear e1
       go_wp2_with fail
       go_quiet (fail)
       go_wp2_with fail
       exact bodyPost_ret (v:=ftV ⟨30,e.line,e.col⟩) (res1 rfl Tryz.underlying38 rfl (by kernel_rfl) rfl (by first|exact (rf.set3 _ _ _).drewN _|exact (rf.set3 _ _ _).drew|exact (rf.drewN _).set3 _ _ _|exact rf.drew.set3 _ _ _)) rfl ⟨by rw[HF.out],by repeat (first|exact hB2|refine Below.drew ?_|refine below_drewN' ?_ _|refine Below.setCell ?_ (by first|(simp;omega)|simp) _)⟩
   by_cases h326:e.op=3∨e.op=26
   ·by_cases h3:e.op=3
    ·have o3:(e.op==3)=true:=by rw[beq_iff_eq];exact h3
     have H3:=Lib.hid h3
     clear h24 h326 h3
     go_wp2_with fail
     refine (of_any n a e.name W2 HN2.out HSM.out).mono ?_
     rintro r W3 ⟨⟨A3,c3',rfl,l3,m3,s3⟩,hb3⟩
     have hsz3:=hb3.size
     have HE:=Lib.hid (eqLits_any (clockOf n e.name) clock A3 A2 c3' c2 W3.heap.size W3 l3 m3 s3 hc2 hm2 (lits_keep HCL.out (keeps_of (hb3.mono (by omega))) (by omega)))
     have rn3:=rn.below hb3 rn.lt
     have re3:=re.below hb3 re.lt
     have rf3:=rf.below hb3 rf.lt
     have rg3:=rg.below hb3 rg.lt
     have rr3:=rr.below hb3 rr.lt
     have hB3:=hB2.trans (hb3.mono (by omega))
     clear s3
     go_wp2_with fail
     refine HE.out.mono ?_
     rintro r W4 ⟨rfl,nn,rfl⟩
     clear HE
     by_cases hq:clockOf n e.name=clock
     ·rw[cB_true hq]
      have HCUT:=Lib.hid (HM.out (W3.drewN nn) (below_drewN' (hb3.mono hsz4) nn) (ck_same (rr3.drewN nn) (B:=w.heap.size) (lits_keep HCL.out (w':=W3.drewN nn) (keeps_of (below_drewN' (hb3.mono (by omega)) nn)) (Nat.le_refl _)) hc2 hm2 (by have:=H3.out;omega) (by have:=H3.out;omega) (by have:=H3.out;omega) (show w.heap.size≤W3.heap.size by omega)) (fitsP_ok (fun hb=>(bad_3 (.inl H3.out)).1 hb hq)))
      clear hq
      go_wp2_with fail
      go_meet
      exact HCUT.out
     ·rw[cB_false hq]
      have HF:=Lib.hid (fitsP_bad ((bad_3 (n:=n) (e:=e) (clock:=clock) (.inl H3.out)).2 hq))
      have rg4:=rg3.drewN nn
      have rf4:=rf3.drewN nn
      have hB4:=below_drewN' hB3 nn
      obtain ⟨⟨y0,y1,y2⟩,_⟩:=rg4.three
      obtain ⟨⟨z0,z1,z2⟩,g0,g1,g2⟩:=rf4.three
      clear hq
      generalize W3.drewN nn=W5 at*
      go_wp2_with fail
      exact bodyPost_ret (v:=ftV ⟨30,e.line,e.col⟩) (res1 rfl Tryz.underlying38 rfl (by kernel_rfl) rfl (rf4.set3 _ _ _)) rfl ⟨by rw[HF.out],by repeat (first|exact hB4|refine Below.setCell ?_ (by first|(simp;omega)|simp) _)⟩
    ·have h26:e.op=26:=by omega
     have ha2:e.args.length=2:=HG.out.2 h26
     have o3:(e.op==3)=false:=by rw[beq_eq_false_iff_ne];omega
     have o24:(e.op==24)=false:=by rw[beq_eq_false_iff_ne];omega
     have o25:(e.op==25)=false:=by rw[beq_eq_false_iff_ne];omega
     have o26:(e.op==26)=true:=by rw[beq_iff_eq];exact h26
     have H26:=Lib.hid h26
     have HA2:=Lib.hid ha2
     clear h24 h326 h3 h26 ha2
     go_wp2_with fail
     refine (of_any n a e.name W2 HN2.out HSM.out).mono ?_
     rintro r W3 ⟨⟨A3,c3',rfl,l3,m3,s3⟩,hb3⟩
     have hsz3:=hb3.size
     have HE:=Lib.hid (eqLits_any (clockOf n e.name) clock A3 A2 c3' c2 W3.heap.size W3 l3 m3 s3 hc2 hm2 (lits_keep HCL.out (keeps_of (hb3.mono (by omega))) (by omega)))
     have rn3:=rn.below hb3 rn.lt
     have re3:=re.below hb3 re.lt
     have rf3:=rf.below hb3 rf.lt
     have rg3:=rg.below hb3 rg.lt
     have rr3:=rr.below hb3 rr.lt
     have hB3:=hB2.trans (hb3.mono (by omega))
     clear s3
     go_wp2_with fail
     refine HE.out.mono ?_
     rintro r W4 ⟨rfl,nn,rfl⟩
     clear HE
     by_cases hq:clockOf n e.name=clock
     ·rw[cB_true hq]
      have HOK:=Lib.hid (fitsP_ok (fun hb=>(bad_3 (n:=n) (.inr H26.out)).1 hb hq))
      have b4:Below (w.heap.size+4) W2 (W3.drewN nn):=below_drewN' (hb3.mono hsz4) nn
      have re4:=re3.drewN nn
      have rr4:=rr3.drewN nn
      have hsz5:W2.heap.size≤(W3.drewN nn).heap.size:=hsz3
      clear hq rn3 re3 rf3 rg3 rr3 hb3 hsz3 hB3 c0 c1 cc2 c3 c4 c5 c6 x0 x1 x2 x3 x4 x5
      generalize W3.drewN nn=W4 at*
      obtain ⟨x0,x1,x2,x3,x4,x5⟩:=re4.ex
      have HC4:=Lib.hid (lits_keep HCL.out (keeps_of (b4.mono (by omega))) (show w.heap.size≤W4.heap.size by omega))
      go_wp2_with fail
      refine (more_any clock ⟨e.name,false⟩ A2 c2 W4 hcl2 hok.name hc2 hm2 HC4.out).mono ?_
      rintro r W5 ⟨⟨v5,rfl,A5,k5,rfl,l5,m5,s5,o5⟩,hb5⟩
      have hsz6:=hb5.size
      have b5:Below (w.heap.size+4) W2 W5:=b4.trans (hb5.mono (by omega))
      have re5:=re4.below hb5 re4.lt
      have rr5:=rr4.below hb5 rr4.lt
      have q0:W5.cell? ⟨R,0,none⟩=some (.slice A2 clock.length c2):=(rr5.cell 0).trans (by simp[HA2.out])
      have q1:=rr5.frozen 0
      have i1:(0:Int)<(e.args.length:Int):=by have:=HA2.out;omega
      have i2:(1:Int)<(e.args.length:Int):=by have:=HA2.out;omega
      have i3:0<e.args.length:=by omega
      have i4:1<e.args.length:=by omega
      have HS5:=Lib.hid s5
      have HO5:=Lib.hid o5
      have hR5:R<W5.heap.size:=by omega
      generalize hL5:(clock++ [(⟨e.name,false⟩:Lt)]).length=L5 at*
      have HL5:=Lib.hid hL5
      clear hL5 s5 o5 x0 x1 x2 x3 x4 x5
      go_upto_region 19 with (fail)
      have re6:=re5.far (p:=⟨R,0,none⟩) (by show w.heap.size+1≠R;omega) (.slice A5 L5 k5)
      have rr6:=rr5.set 0 (.slice A5 L5 k5)
      have b6:=b5.setCell (p:=⟨R,0,none⟩) (by show w.heap.size+4≤R;omega) (.slice A5 L5 k5)
      have HS6:=Lib.hid (sl_far HS5.out (p:=⟨R,0,none⟩) (fun ad hA=>by have:=HO5.out ad hA;show ad.block≠R;omega) (.slice A5 L5 k5))
      have hsz7:(W5.setCell ⟨R,0,none⟩ (.slice A5 L5 k5)).heap.size=W5.heap.size:=by simp[World.setCell]
      have hsz8:W5.heap.size≤(W5.setCell ⟨R,0,none⟩ (.slice A5 L5 k5)).heap.size:=by omega
      clear re5 rr5 b5 HS5 q0 q1 hsz7
      generalize W5.setCell ⟨R,0,none⟩ (.slice A5 L5 k5)=W6 at*
      obtain ⟨x0,x1,x2,x3,x4,x5⟩:=re6.ex
      have HC6:=Lib.hid (lits_keep HCL.out (keeps_of (b6.mono (by omega))) (show w.heap.size≤W6.heap.size by omega))
      go_wp2_with fail
      refine (more_any clock ⟨e.name,true⟩ A2 c2 W6 hcl2 hok.name hc2 hm2 HC6.out).mono ?_
      rintro r W7 ⟨⟨v7,rfl,A7,k7,rfl,l7,m7,s7,o7⟩,hb7⟩
      have hsz9:=hb7.size
      have b7:Below (w.heap.size+4) W2 W7:=b6.trans (hb7.mono (by omega))
      have rr7:=rr6.below hb7 rr6.lt
      have HS7:=Lib.hid s7
      have HO7:=Lib.hid o7
      have HS57:=Lib.hid (lits_keep HS6.out (keeps_of (hb7.mono hsz8)) (show W5.heap.size≤W7.heap.size by omega))
      have q0:W7.cell? ⟨R,1,none⟩=some (.slice A2 clock.length c2):=(rr7.cell 1).trans (by simp[HA2.out])
      have q1:=rr7.frozen 1
      generalize hL7:(clock++ [(⟨e.name,true⟩:Lt)]).length=L7 at*
      have HL7:=Lib.hid hL7
      clear hL7 s7 o7 x0 x1 x2 x3 x4 x5
      have rr8:=rr7.set 1 (.slice A7 L7 k7)
      have HCUT:Hid (FitCut n a e A cap clock w R (W7.setCell ⟨R,1,none⟩ (.slice A7 L7 k7))):=by
       refine HM.out _ (b7.setCell (p:=⟨R,1,none⟩) (by show w.heap.size+4≤R;omega) _) (fun i hi=>?_) HOK.out
       have hsz10:(W7.setCell ⟨R,1,none⟩ (.slice A7 L7 k7)).heap.size=W7.heap.size:=by simp[World.setCell]
       have hi2:i=0∨i=1:=by have:=HA2.out;omega
       rw[part_26 H26.out,hsz10]
       rcases hi2 with rfl|rfl
       ·refine ⟨A5,k5,?_,(by have h:=HL5.out;show (clock++ [(⟨e.name,false⟩:Lt)]).length≤k5;omega),m5,?_⟩
        ·show _=some (Value.slice A5 (clock++ [(⟨e.name,false⟩:Lt)]).length k5)
         rw[HL5.out]
         exact (rr8.cell 0).trans (by simp[HA2.out])
        ·exact sl_far HS57.out (fun ad hA=>by have:=HO5.out ad hA;show ad.block≠R;omega) _
       ·refine ⟨A7,k7,?_,(by have h:=HL7.out;show (clock++ [(⟨e.name,true⟩:Lt)]).length≤k7;omega),m7,?_⟩
        ·show _=some (Value.slice A7 (clock++ [(⟨e.name,true⟩:Lt)]).length k7)
         rw[HL7.out]
         exact (rr8.cell 1).trans (by simp[HA2.out])
        ·exact sl_far HS7.out (fun ad hA=>by have:=HO7.out ad hA;show ad.block≠R;omega) _
      go_wp2_with fail
      go_meet
      exact HCUT.out
     ·rw[cB_false hq]
      have HF:=Lib.hid (fitsP_bad ((bad_3 (n:=n) (e:=e) (clock:=clock) (.inr H26.out)).2 hq))
      have rg4:=rg3.drewN nn
      have rf4:=rf3.drewN nn
      have hB4:=below_drewN' hB3 nn
      obtain ⟨⟨y0,y1,y2⟩,_⟩:=rg4.three
      obtain ⟨⟨z0,z1,z2⟩,g0,g1,g2⟩:=rf4.three
      clear hq
      generalize W3.drewN nn=W5 at*
      go_wp2_with fail
      exact bodyPost_ret (v:=ftV ⟨30,e.line,e.col⟩) (res1 rfl Tryz.underlying38 rfl (by kernel_rfl) rfl (rf4.set3 _ _ _)) rfl ⟨by rw[HF.out],by repeat (first|exact hB4|refine Below.setCell ?_ (by first|(simp;omega)|simp) _)⟩
   ·have o3:(e.op==3)=false:=by rw[beq_eq_false_iff_ne];omega
    have o24:(e.op==24)=false:=by rw[beq_eq_false_iff_ne];omega
    have o25:(e.op==25)=false:=by rw[beq_eq_false_iff_ne];omega
    have o26:(e.op==26)=false:=by rw[beq_eq_false_iff_ne];omega
    have HCUT:=Lib.hid (HM.out W2 (Below.refl _ _) (ck_same rr HCL.out hc2 hm2 (by omega) (by omega) (by omega)) (fitsP_ok (bad_no (by omega) (by omega) (by omega) (by omega))))
    clear h24 h326
    go_wp2_with fail
    go_meet
    exact HCUT.out
  case rest=>
   obtain ⟨rn3,re3,rf3,hR3,ck3,ok3,hB3⟩:=hcut
   obtain ⟨wq,rfl⟩:∃wq:World,wq=wc:=⟨_,rfl⟩
   clear x0 x1 x2 x3 x4 x5 rn re rf rg rr hB2 hlR hsz2 HCL
   have HCK:=Lib.hid ck3
   have HOK:=Lib.hid ok3
   have hsz3:=hB3.size
   have hlf:=rf3.lt
   clear ck3 ok3
   obtain ⟨x0,x1,x2,x3,x4,x5⟩:=re3.ex
   have hmax':cap≤9223372036854775807:=by unfold maxLen at hmax;omega
   go_wp2_with fail
   go_loopw[101] (fun i wr=>∃k:Nat,k≤e.args.length∧i= .int .i64 k∧Hid (fitsP n e clock=fitsL e clock ((e.args.drop k).map (fitsP n)) k)∧Below wq.heap.size wq wr) (fun i _=>e.args.length-(intOf i).toNat)
   case atStart=>exact ⟨0,Nat.zero_le _,rfl,HOK,Below.refl _ _⟩
   case round=>
    obtain ⟨k,hk,rfl,HR,hbr⟩:=hrel
    have hszr:=hbr.size
    have hBr:=hB3.trans (hbr.mono hsz3)
    have rfr:=rf3.below hbr hlf
    by_cases hlt:k<e.args.length
    ·obtain ⟨b,off,x,A',cap',rfl,hb,hxk,hxm,hok',hcap',hmax',hx',c0,c1,cc2,c3,c4,c5⟩:=(exs_keep HX.out (keeps_of hBr) (Nat.le_refl _)).at_ hlt
     obtain ⟨Ac,cc,hcc,hcl,hcm,hcs⟩:=(HCK.out.below hR3 hbr) k hlt
     have rnr:=rn3.below hbr rn3.lt
     have bx:Below wr.heap.size wr (wr.alloc (.cells (exArr x A' cap') 63)):=(Below.refl _ _).alloc (Nat.le_refl _) _
     have rx:=Row.new wr (exArr x A' cap') 63
     have rn4:=rnr.below bx rnr.lt
     have ck4:=(bx.cell (p:=⟨R,k,none⟩) (show R<wr.heap.size by omega)).trans hcc
     have hB4:=hBr.trans (bx.mono (by omega))
     have HXS:Hid (Calls2 n a x A' cap' (partClock e clock k) Ac cc (wr.alloc (.cells (exArr x A' cap') 63))):=fun W hW=>by
      have hW2:=hB4.trans (hW.mono (by simp;omega))
      refine HI.out x hxm A' cap' (partClock e clock k) Ac cc W ((HN.out.below hW2).more hW2.size) hok' hcap' hmax' (exs_keep (exs_keep hx' (keeps_of (bx.mono (by omega))) (show w.heap.size≤wr.heap.size by omega)) (keeps_of (hW.mono (by simp))) (by have:=hW.size;simp at this;omega)) (fun y hy=>HAR.out y (exList_sub hxm hy)) ?_ hcl hcm (lits_keep (lits_keep hcs (keeps_of bx) (Nat.le_refl _)) (keeps_of (hW.mono (by simp))) (by have:=hW.size;simp at this;omega))
      have h1:=exSize_arg hxm
      have h2:=part_len e clock k
      omega
     have HD:=Lib.hid (drop_succ_map (fitsP n) hxk)
     have hszx:wr.heap.size+1≤(wr.alloc (.cells (exArr x A' cap') 63)).heap.size:=by simp
     clear hxk hxm hx' hcs hcc x0 x1 x2 x3 x4 x5
     go_upto_region 23 with (fail)
     clear c0 c1 cc2 c3 c4 c5
     generalize wr.alloc (.cells (exArr x A' cap') 63)=W4 at*
     have hszb:=bx.size
     have hlR4:R<W4.heap.size:=by omega
     have HK:Hid (∀W:World,Below W4.heap.size W4 W→(W.cell? ⟨w.heap.size,0,none⟩=some (.string n.name)∧W.cell? ⟨w.heap.size,1,none⟩=some (.slice a.ai n.ins.length a.ci)∧W.cell? ⟨w.heap.size,2,none⟩=some (.slice a.ao n.outs.length a.co)∧
       W.cell? ⟨w.heap.size,3,none⟩=some (.slice a.av n.vars.length a.cv)∧W.cell? ⟨w.heap.size,4,none⟩=some (.slice a.aq n.eqs.length a.cq)∧W.cell? ⟨w.heap.size,5,none⟩=some (.int .i64 n.line)∧W.cell? ⟨w.heap.size,6,none⟩=some (.int .i64 n.col))∧
       (W.cell? ⟨wr.heap.size,0,none⟩=some (.int .i64 x.op)∧W.cell? ⟨wr.heap.size,1,none⟩=some (.string x.name)∧W.cell? ⟨wr.heap.size,2,none⟩=some (.int .i64 x.n)∧
       W.cell? ⟨wr.heap.size,3,none⟩=some (.slice A' x.args.length cap')∧W.cell? ⟨wr.heap.size,4,none⟩=some (.int .i64 x.line)∧W.cell? ⟨wr.heap.size,5,none⟩=some (.int .i64 x.col))∧W.cell? ⟨R,k,none⟩=some (.slice Ac (partClock e clock k).length cc)):=
      fun W hW=>⟨(rn4.below hW rn4.lt).nd,(rx.below hW rx.lt).ex,(hW.cell (p:=⟨R,k,none⟩) hlR4).trans ck4⟩
     have i0:(0:Int)≤(k:Int):=by omega
     have i1:(k:Int)<(e.args.length:Int):=by omega
     obtain ⟨⟨c0,c1,cc2,c3,c4,c5,c6⟩,⟨d0,d1,d2,d3,d4,d5⟩,q0⟩:=HK.out W4 (Below.refl _ _)
     go_cut[16] (fun p W=>∃bF,p= .pointer (some ⟨bF,0,none⟩)∧Row W bF (ftArr (fitsP n x (partClock e clock k))) 38∧Below W4.heap.size W4 W)
     case first=>
      go_region_held3 (fun W=>(W.cell? ⟨w.heap.size,0,none⟩=some (.string n.name)∧W.cell? ⟨w.heap.size,1,none⟩=some (.slice a.ai n.ins.length a.ci)∧W.cell? ⟨w.heap.size,2,none⟩=some (.slice a.ao n.outs.length a.co)∧
       W.cell? ⟨w.heap.size,3,none⟩=some (.slice a.av n.vars.length a.cv)∧W.cell? ⟨w.heap.size,4,none⟩=some (.slice a.aq n.eqs.length a.cq)∧W.cell? ⟨w.heap.size,5,none⟩=some (.int .i64 n.line)∧W.cell? ⟨w.heap.size,6,none⟩=some (.int .i64 n.col))∧
       (W.cell? ⟨wr.heap.size,0,none⟩=some (.int .i64 x.op)∧W.cell? ⟨wr.heap.size,1,none⟩=some (.string x.name)∧W.cell? ⟨wr.heap.size,2,none⟩=some (.int .i64 x.n)∧
       W.cell? ⟨wr.heap.size,3,none⟩=some (.slice A' x.args.length cap')∧W.cell? ⟨wr.heap.size,4,none⟩=some (.int .i64 x.line)∧W.cell? ⟨wr.heap.size,5,none⟩=some (.int .i64 x.col))∧W.cell? ⟨R,k,none⟩=some (.slice Ac (partClock e clock k).length cc))
       (first|exact HK.out _ (by repeat (first|exact hb6|exact Below.refl _ _|refine Below.drew ?_|refine Below.alloc ?_ (by first|omega|(simp;omega)|simp) _|refine Below.setCell ?_ (by first|omega|(simp;omega)|simp) _))|go_keep)
       (first|((go_at_call 149);(refine (HXS.out _ (by repeat (first|exact Below.refl _ _|exact Below.refl _ _|refine Below.drew ?_|refine Below.alloc ?_ (by first|omega|(simp;omega)|simp) _|refine Below.setCell ?_ (by first|omega|(simp;omega)|simp) _))).mono ?_);rintro r W5 ⟨rfl,hb5⟩;(have hb6:Below W4.heap.size W4 W5:=Below.trans (by repeat (first|exact Below.refl _ _|exact Below.refl _ _|refine Below.drew ?_|refine Below.alloc ?_ (by first|omega|(simp;omega)|simp) _|refine Below.setCell ?_ (by first|omega|(simp;omega)|simp) _)) (hb5.mono (by first|exact Nat.le_refl _|(simp;omega)|simp)));(have hsz6:=hb6.size);(try (have rF5:Row W5 W4.heap.size (ftArr ft0) 38:=(by first|exact (Row.new W4 _ _).below hb5 (by simp)|exact (Row.new W4 _ _).drew.below hb5 (by simp)|exact (Row.new W4.drew _ _).below hb5 (by simp));obtain ⟨⟨k0,k1,k2⟩,f0,f1,f2⟩:=rF5.three;have hlF5:=rF5.lt))))
      all_goals
       go_wp2_with fail
       go_meet
       refine ⟨_,rfl,?_,?_⟩
       ·first|exact Row.new W5 _ _|exact rF5.set3 _ _ _|exact (rF5.set3 _ _ _).drew|exact (Row.new W5 _ _).drew
       ·repeat (first|exact hb6|exact Below.refl _ _|refine Below.drew ?_|refine Below.alloc ?_ (by first|omega|(simp;omega)|simp) _|refine Below.setCell ?_ (by first|omega|(simp;omega)|simp) _)
     case rest=>
      obtain ⟨bF,rfl,rF,hb7⟩:=hcut
      have hB7:=hB4.trans (hb7.mono (by omega))
      have hlF:=rF.lt
      have hb8:Below wq.heap.size wq _:=hbr.trans (bx.mono (by omega)|>.trans (hb7.mono (by omega)))
      have rf7:=rf3.below hb8 hlf
      obtain ⟨⟨y0,y1,y2⟩,_⟩:=rF.three
      obtain ⟨⟨z0,z1,z2⟩,g0,g1,g2⟩:=rf7.three
      generalize hff:fitsP n x (partClock e clock k)=f at*
      have HFF:=Lib.hid hff
      clear hff c0 c1 cc2 c3 c4 c5 c6 d0 d1 d2 d3 d4 d5 q0 HXS HK
      by_cases hf:f.err=0
      ·have hf1:(f.err !=0)=false:=by simp[hf]
       have HR':Hid (fitsP n e clock=fitsL e clock ((e.args.drop (k+1)).map (fitsP n)) (k+1)):=by
        show _=_
        rw[HR.out,HD.out,fitsL,HFF.out,if_neg (by simp[hf])]
       clear hf
       go_wp2_with fail
       go_roundw
       case rel=>exact ⟨k+1,by omega,by go_num,HR',hb8⟩
       case measure=>simp[intOf];omega
      ·have hf1:(f.err !=0)=true:=by simp[hf]
       have HF:Hid (fitsP n e clock=f):=by
        show _=_
        rw[HR.out,HD.out,fitsL,HFF.out,if_pos hf]
       clear hf
       go_wp2_with fail
       exact bodyPost_ret (v:=ftV f) (res1 rfl Tryz.underlying38 rfl (by kernel_rfl) rfl (rf7.set3 _ _ _)) rfl ⟨by rw[HF.out],by repeat (first|exact hB7|refine Below.setCell ?_ (by first|(simp;omega)|simp) _)⟩
    ·obtain rfl:k=e.args.length:=by omega
     have HF:Hid (fitsP n e clock=ft0):=by
      show _=_
      rw[HR.out,List.drop_length]
      rfl
     obtain ⟨⟨z0,z1,z2⟩,g0,g1,g2⟩:=rfr.three
     go_wp2_with fail
     exact bodyPost_ret (v:=ftV ft0) (res1 rfl Tryz.underlying38 rfl (by kernel_rfl) rfl (rfr.set3 _ _ _)) rfl ⟨by rw[HF.out],by repeat (first|exact hBr|refine Below.setCell ?_ (by first|(simp;omega)|simp) _)⟩
end Go.Proofs.YtdkgkacnjdnpoaaGreat
