/-
  Which expressions go by which clocks, by the document: the contract of tompionref18.Fits.
-/
import Derived.Test.YtgjfkidbfmbjoaaGreatClkD
set_option maxHeartbeats 8000000
set_option maxRecDepth 100000
namespace Go.Proofs.YtgjfkidbfmbjoaaGreat
open Go.RowKit
attribute [local go_sem ↓] Go.wp_at_zero Go.wp_at_succ
def Known (n:Nd) (e:Ex):Prop:=ArgsOk e∧(e.op=3∨e.op=26→0≤varIdx n e.name)
def Tst (P:Bool) (Q:Prop):Prop:=P=true↔Q
def RCalls2 (n:Nd) (a:NdA) (x:Ex) (A':Option Addr) (cap':Nat) (clock:List Lt) (Ac:Option Addr) (cc:Nat) (W4:World):Prop:=
 ∀W:World,Below W4.heap.size W4 W→Calls Tryz.prog 115 #[ndV n a,exV x A' cap',.slice Ac clock.length cc] W fun r w'=>r= .returned (ftV (fitsP n x clock))∧Below W.heap.size W w'
theorem Upd.cell {X:Nat→Prop} {w w':World} (h:Upd X w w') {p:Addr} (hp:p.block<w.heap.size) (hX:¬X p.block):w'.cell? p=w.cell? p:=World.cell?_of_block (h.block p.block hp hX)
theorem rfits_any (n:Nd) (a:NdA) (hs:NdSm n) (e:Ex):∀(A:Option Addr) (cap:Nat) (clock:List Lt) (A2:Option Addr) (c2:Nat) (w:World),NdAt w w.heap.size n a→ExOk e→e.args.length≤cap→cap≤maxLen→IsExs w w.heap.size A e.args→(∀x∈exList e,Known n x)→
  clock.length+exSize e≤1000→clock.length≤c2→c2≤maxLen→Sl w w.heap.size 2 isLit A2 clock→
  Calls Tryz.prog 115 #[ndV n a,exV e A cap,.slice A2 clock.length c2] w fun r w'=>r= .returned (ftV (fitsP n e clock))∧Below w.heap.size w w':=by
 induction e using Ex.ind with
 |h e ih=>
  intro A cap clock A2 c2 w hn hok hcap hmax hx hargs hsz hc2 hm2 hcl
  have HI:=Lib.hid ih
  have hag:=hargs e (exList_self e)
  have HG:=Lib.hid hag
  have HAR:=Lib.hid hargs
  have hm2':c2≤9223372036854775807:=by unfold maxLen at hm2;omega
  have hmax2:cap≤9223372036854775807:=by unfold maxLen at hmax;omega
  have hal:=exSize_args e
  have hal2:e.args.length≤1000:=by omega
  have hcl2:clock.length≤1000:=by omega
  have HSM:=Lib.hid hs
  clear ih hag hargs hs
  have b1:Below w.heap.size w ((((w.alloc (.cells (ndArr n a) 39)).alloc (.cells (exArr e A cap) 79)).alloc (.cells (ftArr ft0) 31)).alloc (.cells (ftArr ⟨30,e.line,e.col⟩) 31)):=
   ((((Below.refl _ _).alloc (Nat.le_refl _) _).alloc (by simp) _).alloc (by simp;omega) _).alloc (by simp;omega) _
  have rn1:=(((Row.new w (ndArr n a) 39).alloc (.cells (exArr e A cap) 79)).alloc (.cells (ftArr ft0) 31)).alloc (.cells (ftArr ⟨30,e.line,e.col⟩) 31)
  have re1:=((rowNew2 w (.cells (ndArr n a) 39) (exArr e A cap) 79).alloc (.cells (ftArr ft0) 31)).alloc (.cells (ftArr ⟨30,e.line,e.col⟩) 31)
  have rf1:=(rowNew3 w (.cells (ndArr n a) 39) (.cells (exArr e A cap) 79) (ftArr ft0) 31).alloc (.cells (ftArr ⟨30,e.line,e.col⟩) 31)
  have rg1:=rowNew4 w (.cells (ndArr n a) 39) (.cells (exArr e A cap) 79) (.cells (ftArr ft0) 31) (ftArr ⟨30,e.line,e.col⟩) 31
  have HN:=Lib.hid hn
  have HX:=Lib.hid hx
  have HC:=Lib.hid hcl
  clear hn hx hcl
  go_enter Tryz.func115,Tryz.ntmps115
  go_upto_region 2 with (fail)
  generalize ((((w.alloc (.cells (ndArr n a) 39)).alloc (.cells (exArr e A cap) 79)).alloc (.cells (ftArr ft0) 31)).alloc (.cells (ftArr ⟨30,e.line,e.col⟩) 31))=W1 at*
  have hs1:=b1.size
  have hl1:=rg1.lt
  obtain ⟨x0,x1,x2,x3,x4,x5⟩:=re1.ex
  obtain ⟨c0,c1,cc2,c3,c4,c5,c6⟩:=rn1.nd
  go_cut[31] (fun v W=>∃P:Bool,v= .bool P∧Tst P ((e.op=3∨e.op=26)∧clockOf n e.name≠clock)∧Below W1.heap.size W1 W)
  case first=>
   by_cases h326:e.op=3∨e.op=26
   ·have hv:=HG.out.2 h326
    have HR:=Lib.hid (rof_any n a e.name W1 ((HN.out.below b1).more hs1) HSM.out hv)
    have H326:=Lib.hid h326
    have o326:(e.op==3)=true∨((e.op==3)=false∧(e.op==26)=true):=by
     rcases h326 with h|h
     ·exact .inl (by rw[beq_iff_eq];exact h)
     ·exact .inr ⟨by rw[beq_eq_false_iff_ne];omega,by rw[beq_iff_eq];exact h⟩
    clear h326 hv
    rcases o326 with o3|⟨o3,o26⟩
    all_goals
     go_wp2_with fail
     refine HR.out.mono ?_
     rintro r W3 ⟨⟨v3,rfl,A3,k3,rfl,l3,m3,s3⟩,hb3⟩
     have hsz3:=hb3.size
     have HE:=Lib.hid (rlits_any (clockOf n e.name) clock A3 A2 k3 c2 W3.heap.size W3 l3 m3 s3 hc2 hm2 (lits_keep HC.out (keeps_of (b1.trans (hb3.mono hs1))) (by omega)))
     clear s3 HR
     go_wp2_with fail
     refine HE.out.mono ?_
     rintro r W4 ⟨rfl,nn,rfl⟩
     have hb4:=below_drewN' hb3 nn
     clear HE
     by_cases hq:clockOf n e.name=clock
     ·rw[cB_true hq]
      have HP:Tst false ((e.op=3∨e.op=26)∧clockOf n e.name≠clock):=⟨fun h=>Bool.noConfusion h,fun h=>absurd hq h.2⟩
      clear hq
      go_wp2_with fail
      go_meet
      exact ⟨false,rfl,HP,hb4⟩
     ·rw[cB_false hq]
      have HP:Tst true ((e.op=3∨e.op=26)∧clockOf n e.name≠clock):=⟨fun _=>⟨H326.out,hq⟩,fun _=>rfl⟩
      clear hq
      go_wp2_with fail
      go_meet
      exact ⟨true,rfl,HP,hb4⟩
   ·have o3:(e.op==3)=false:=by rw[beq_eq_false_iff_ne];omega
    have o26:(e.op==26)=false:=by rw[beq_eq_false_iff_ne];omega
    have HP:Tst false ((e.op=3∨e.op=26)∧clockOf n e.name≠clock):=⟨fun h=>Bool.noConfusion h,fun h=>absurd h.1 h326⟩
    clear h326
    go_wp2_with fail
    go_meet
    exact ⟨false,rfl,HP,Below.refl _ _⟩
  case rest=>
   obtain ⟨P,rfl,HP,hb2⟩:=hcut
   obtain ⟨W2,rfl⟩:∃W2:World,W2=wc:=⟨_,rfl⟩
   have rn:=rn1.below hb2 rn1.lt
   have re:=re1.below hb2 re1.lt
   have rf:=rf1.below hb2 rf1.lt
   have rg:=rg1.below hb2 rg1.lt
   have hB2:=b1.trans (hb2.mono hs1)
   have hsz2:=hB2.size
   have hlg:=rg.lt
   clear rn1 re1 rf1 rg1 b1 hb2 hs1 hl1 x0 x1 x2 x3 x4 x5 c0 c1 cc2 c3 c4 c5 c6
   obtain ⟨x0,x1,x2,x3,x4,x5⟩:=re.ex
   obtain ⟨⟨y0,y1,y2⟩,_⟩:=rg.three
   obtain ⟨⟨z0,z1,z2⟩,g0,g1,g2⟩:=rf.three
   have HCL:=Lib.hid (lits_keep HC.out (keeps_of hB2) (Nat.le_refl _))
   cases P
   rotate_left 1
   ·have h:=HP.1 rfl
    have HF:=Lib.hid (fitsP_bad (.inl h))
    clear h
    go_wp2_with fail
    exact bodyPost_ret (v:=ftV ⟨30,e.line,e.col⟩) (res1 rfl Tryz.underlying31 rfl (by kernel_rfl) rfl (rf.set3 _ _ _)) rfl ⟨by rw[HF.out],by repeat (first|exact hB2|refine Below.setCell ?_ (by first|(simp;omega)|simp) _)⟩
   by_cases h24:e.op=24∨e.op=25
   ·have ha1:e.args.length=1:=HG.out.1.1 h24
    rcases h24 with hop|hop
    ·have o24:(e.op==24)=true:=by rw[beq_iff_eq];exact hop
     have o25:(e.op==25)=false:=by rw[beq_eq_false_iff_ne];omega
     have H24:Hid (e.op=24∨e.op=25):=by show _∨_;omega
     have HD25:Hid (decide (e.op=25)=false):=by show _=_;simp[hop]
     have HA1:=Lib.hid ha1
     clear hop ha1
     by_cases h0:clock.length=0
     ·obtain rfl:clock=[]:=List.eq_nil_of_length_eq_zero h0
      have HF:=Lib.hid (fitsP_bad ((bad_24 (n:=n) (e:=e) (clock:=[]) H24.out).2 (by simp)))
      clear h0
      go_wp2_with fail
      go_quiet (fail)
      go_wp2_with fail
      exact bodyPost_ret (v:=ftV ⟨30,e.line,e.col⟩) (res1 rfl Tryz.underlying31 rfl (by kernel_rfl) rfl (by first|exact (rf.set3 _ _ _).drewN _|exact (rf.set3 _ _ _).drew|exact (rf.drewN _).set3 _ _ _|exact rf.drew.set3 _ _ _)) rfl ⟨by rw[HF.out],by repeat (first|exact hB2|refine Below.drew ?_|refine below_drewN' ?_ _|refine Below.setCell ?_ (by first|(simp;omega)|simp) _)⟩
     ·obtain ⟨m,hm⟩:∃m,clock.length=m+1:=⟨clock.length-1,by omega⟩
      obtain ⟨b2,o2,y,rfl,hb2,hy,ys,d0,d1⟩:=HCL.out.lit (show m<clock.length by omega)
      have HY:Hid (clock.getLast? =some y):=by show _=_;rw[List.getLast?_eq_getElem?,hm];exact hy
      have hm1:(clock.length:Int)-1=(m:Int):=by omega
      have hm3:m≤c2:=by omega
      have hm4:(m:Int)≤(c2:Int):=by omega
      have hm5:(m:Int)<(clock.length:Int):=by omega
      have hm6:(0:Int)≤(m:Int):=by omega
      have hm7:decide ((m:Int)<0)=false:=by simp
      have hm8:m<clock.length:=by omega
      have HM1:=Lib.hid hm
      clear hm hy h0
      obtain ⟨yn,yb⟩:=y
      by_cases e1:yn=e.name
      ·have e1':=beq_yes e1
       have e1'':(yn.toList !=e.name.toList)=false:=by rw[bne,e1'];rfl
       cases yb
       ·have HOK:=Lib.hid (fitsP_ok (fun hb=>(bad_24 (n:=n) (e:=e) (clock:=clock) H24.out).1 hb (by rw[HY.out,HD25.out,e1])))
        obtain ⟨b,off,x,A',cap',rfl,hb,hxk,hxm,hok',hcap',hmax',hx',f0,f1,f2,f3,f4,f5⟩:=(exs_keep HX.out (keeps_of hB2) (Nat.le_refl _)).at_ (show 0<e.args.length by have:=HA1.out;omega)
        have hdl:clock.dropLast.length=m:=by simp[HM1.out]
        have HXS:Hid (∀W:World,Below W2.heap.size W2 W→Calls Tryz.prog 115 #[ndV n a,exV x A' cap',.slice (some ⟨b2,o2,none⟩) m c2] W fun r w'=>r= .returned (ftV (fitsP n x clock.dropLast))∧Below W.heap.size W w'):=fun W hW=>by
         have hW2:=hB2.trans (hW.mono (by omega))
         have:=HI.out x hxm A' cap' clock.dropLast (some ⟨b2,o2,none⟩) c2 W ((HN.out.below hW2).more hW2.size) hok' hcap' hmax' (exs_keep hx' (keeps_of (hW.mono (by omega))) (by have:=hW.size;omega)) (fun y hy=>HAR.out y (exList_sub hxm hy)) (by have h1:=exSize_arg hxm;rw[hdl];omega) (by rw[hdl];omega) hm2 (by rw[List.dropLast_eq_take];exact (lits_keep HCL.out (keeps_of (hW.mono (by omega))) (by have:=hW.size;omega)).take _)
         rw[hdl] at this
         exact this
        have HF:Hid (fitsP n e clock=fitsP n x clock.dropLast):=by
         show _=_
         have hl1:e.args=[x]:=by
          have h1:=HA1.out
          match hh:e.args,h1,hxk with
          | [z],_,hz=>simp at hz;rw[hz]
         rw[HOK.out,hl1,List.map_cons,List.map_nil,fitsL,part_24 H24.out,fitsL]
         by_cases hz:(fitsP n x clock.dropLast).err=0
         ·rw[if_neg (by simp[hz]),fitsP_zero hz]
         ·rw[if_pos hz]
        have HK:Hid (∀W:World,Upd (fun j=>j=w.heap.size+2) W2 W→(W.cell? ⟨w.heap.size,0,none⟩=some (.string n.name)∧W.cell? ⟨w.heap.size,1,none⟩=some (.slice a.ai n.ins.length a.ci)∧W.cell? ⟨w.heap.size,2,none⟩=some (.slice a.ao n.outs.length a.co)∧W.cell? ⟨w.heap.size,3,none⟩=some (.slice a.av n.vars.length a.cv)∧W.cell? ⟨w.heap.size,4,none⟩=some (.slice a.aq n.eqs.length a.cq)∧W.cell? ⟨w.heap.size,5,none⟩=some (.int .i64 n.line)∧W.cell? ⟨w.heap.size,6,none⟩=some (.int .i64 n.col))∧(W.cell? ⟨b,off,none⟩=some (.int .i64 x.op)∧W.cell? ⟨b,off+1,none⟩=some (.string x.name)∧W.cell? ⟨b,off+2,none⟩=some (.int .i64 x.n)∧W.cell? ⟨b,off+3,none⟩=some (.slice A' x.args.length cap')∧W.cell? ⟨b,off+4,none⟩=some (.int .i64 x.line)∧W.cell? ⟨b,off+5,none⟩=some (.int .i64 x.col))∧W.cell? ⟨w.heap.size+1,3,none⟩=some (.slice (some ⟨b,off,none⟩) e.args.length cap)):=fun W hW=>
         ⟨(hW.row rn (by omega)).nd,⟨(hW.cell (p:=⟨b,off,none⟩) (show b<W2.heap.size by omega) (by show ¬b=_;omega)).trans (by simpa using f0),(hW.cell (p:=⟨b,off+1,none⟩) (show b<W2.heap.size by omega) (by show ¬b=_;omega)).trans (by simpa using f1),(hW.cell (p:=⟨b,off+2,none⟩) (show b<W2.heap.size by omega) (by show ¬b=_;omega)).trans (by simpa using f2),(hW.cell (p:=⟨b,off+3,none⟩) (show b<W2.heap.size by omega) (by show ¬b=_;omega)).trans (by simpa using f3),(hW.cell (p:=⟨b,off+4,none⟩) (show b<W2.heap.size by omega) (by show ¬b=_;omega)).trans (by simpa using f4),(hW.cell (p:=⟨b,off+5,none⟩) (show b<W2.heap.size by omega) (by show ¬b=_;omega)).trans (by simpa using f5)⟩,(hW.row re (by omega)).ex.2.2.2.1⟩
        have i1:(0:Int)<(e.args.length:Int):=by have:=HA1.out;omega
        have i3:0<e.args.length:=by omega
        clear e1 hxk hxm hx' f0 f1 f2 f3 f4 f5 hdl
        generalize fitsP n x clock.dropLast=f at*
        go_wp2_with fail
        go_quiet (fail)
        obtain ⟨⟨c0,c1,cc2,c3,c4,c5,c6⟩,⟨f0,f1,f2,f3,f4,f5⟩,q0⟩:=HK.out W2 (Upd.refl _ _)
        go_upto_region 8 with (fail)
        go_cut[] (fun W=>Row W (w.heap.size+2) (ftArr f) 31∧Below w.heap.size w W)
        case first=>
         go_region_held3 (fun W=>(W.cell? ⟨w.heap.size,0,none⟩=some (.string n.name)∧W.cell? ⟨w.heap.size,1,none⟩=some (.slice a.ai n.ins.length a.ci)∧W.cell? ⟨w.heap.size,2,none⟩=some (.slice a.ao n.outs.length a.co)∧W.cell? ⟨w.heap.size,3,none⟩=some (.slice a.av n.vars.length a.cv)∧W.cell? ⟨w.heap.size,4,none⟩=some (.slice a.aq n.eqs.length a.cq)∧W.cell? ⟨w.heap.size,5,none⟩=some (.int .i64 n.line)∧W.cell? ⟨w.heap.size,6,none⟩=some (.int .i64 n.col))∧(W.cell? ⟨b,off,none⟩=some (.int .i64 x.op)∧W.cell? ⟨b,off+1,none⟩=some (.string x.name)∧W.cell? ⟨b,off+2,none⟩=some (.int .i64 x.n)∧W.cell? ⟨b,off+3,none⟩=some (.slice A' x.args.length cap')∧W.cell? ⟨b,off+4,none⟩=some (.int .i64 x.line)∧W.cell? ⟨b,off+5,none⟩=some (.int .i64 x.col))∧W.cell? ⟨w.heap.size+1,3,none⟩=some (.slice (some ⟨b,off,none⟩) e.args.length cap))
          (first|exact HK.out _ (by repeat (first|exact ub6|exact Upd.refl _ _|refine Upd.drew ?_|refine Upd.drewN ?_ _|refine Upd.alloc ?_ _|refine Upd.setCell ?_ (by simp) _))|go_keep)
          (first|((go_at_call 115);(refine (HXS.out _ (by repeat (first|exact (Below.refl _ _)|exact Below.refl _ _|refine Below.drew ?_|refine below_drewN' ?_ _|refine below_drewN' ?_ _|refine Below.alloc ?_ (by first|omega|(simp;omega)|simp) _|refine Below.setCell ?_ (by first|omega|(simp;omega)|simp) _))).mono ?_);rintro r W5 ⟨rfl,hb5⟩;(have hb6:Below W2.heap.size W2 W5:=Below.trans (by repeat (first|exact (Below.refl _ _)|exact Below.refl _ _|refine Below.drew ?_|refine below_drewN' ?_ _|refine below_drewN' ?_ _|refine Below.alloc ?_ (by first|omega|(simp;omega)|simp) _|refine Below.setCell ?_ (by first|omega|(simp;omega)|simp) _)) (hb5.mono (by first|exact Nat.le_refl _|(simp;omega)|simp)));(have hsz6:=hb6.size);(have ub6:Upd (fun j=>j=w.heap.size+2) W2 W5:=Upd.of_below hb6);(have rf5:=rf.below hb6 rf.lt);obtain ⟨⟨k0,k1,k2⟩,h0,h1,h2⟩:=rf5.three;have hB5:=hB2.trans (hb6.mono (by omega))))
         all_goals
          go_wp2_with fail
          go_meet
          exact ⟨by first|exact rf5.set3 _ _ _|exact (rf5.set3 _ _ _).drew,by repeat (first|exact hB5|refine Below.drew ?_|refine Below.setCell ?_ (by first|(simp;omega)|simp) _)⟩
        case rest=>
         obtain ⟨rf8,hB8⟩:=hcut
         go_wp2_with fail
         exact bodyPost_ret (v:=ftV f) (res1 rfl Tryz.underlying31 rfl (by kernel_rfl) rfl rf8) rfl ⟨by rw[HF.out],hB8⟩
       ·have HF:=Lib.hid (fitsP_bad ((bad_24 (n:=n) (e:=e) (clock:=clock) H24.out).2 (by rw[HY.out,HD25.out];simp)))
        clear e1
        go_wp2_with fail
        go_quiet (fail)
        go_wp2_with fail
        exact bodyPost_ret (v:=ftV ⟨30,e.line,e.col⟩) (res1 rfl Tryz.underlying31 rfl (by kernel_rfl) rfl (by first|exact (rf.set3 _ _ _).drewN _|exact (rf.set3 _ _ _).drew|exact (rf.drewN _).set3 _ _ _|exact rf.drew.set3 _ _ _)) rfl ⟨by rw[HF.out],by repeat (first|exact hB2|refine Below.drew ?_|refine below_drewN' ?_ _|refine Below.setCell ?_ (by first|(simp;omega)|simp) _)⟩
      ·have e1':=beq_no e1
       have e1'':(yn.toList !=e.name.toList)=true:=by rw[bne,e1'];rfl
       have HF:=Lib.hid (fitsP_bad ((bad_24 (n:=n) (e:=e) (clock:=clock) H24.out).2 (by rw[HY.out];intro g;injection g with g;injection g with g;exact e1 g)))
       clear e1
       go_wp2_with fail
       go_quiet (fail)
       go_wp2_with fail
       exact bodyPost_ret (v:=ftV ⟨30,e.line,e.col⟩) (res1 rfl Tryz.underlying31 rfl (by kernel_rfl) rfl (by first|exact (rf.set3 _ _ _).drewN _|exact (rf.set3 _ _ _).drew|exact (rf.drewN _).set3 _ _ _|exact rf.drew.set3 _ _ _)) rfl ⟨by rw[HF.out],by repeat (first|exact hB2|refine Below.drew ?_|refine below_drewN' ?_ _|refine Below.setCell ?_ (by first|(simp;omega)|simp) _)⟩
    ·have o25:(e.op==25)=true:=by rw[beq_iff_eq];exact hop
     have o24:(e.op==24)=false:=by rw[beq_eq_false_iff_ne];omega
     have H24:Hid (e.op=24∨e.op=25):=by show _∨_;omega
     have HD25:Hid (decide (e.op=25)=true):=by show _=_;simp[hop]
     have HA1:=Lib.hid ha1
     clear hop ha1
     by_cases h0:clock.length=0
     ·obtain rfl:clock=[]:=List.eq_nil_of_length_eq_zero h0
      have HF:=Lib.hid (fitsP_bad ((bad_24 (n:=n) (e:=e) (clock:=[]) H24.out).2 (by simp)))
      clear h0
      go_wp2_with fail
      go_quiet (fail)
      go_wp2_with fail
      exact bodyPost_ret (v:=ftV ⟨30,e.line,e.col⟩) (res1 rfl Tryz.underlying31 rfl (by kernel_rfl) rfl (by first|exact (rf.set3 _ _ _).drewN _|exact (rf.set3 _ _ _).drew|exact (rf.drewN _).set3 _ _ _|exact rf.drew.set3 _ _ _)) rfl ⟨by rw[HF.out],by repeat (first|exact hB2|refine Below.drew ?_|refine below_drewN' ?_ _|refine Below.setCell ?_ (by first|(simp;omega)|simp) _)⟩
     ·obtain ⟨m,hm⟩:∃m,clock.length=m+1:=⟨clock.length-1,by omega⟩
      obtain ⟨b2,o2,y,rfl,hb2,hy,ys,d0,d1⟩:=HCL.out.lit (show m<clock.length by omega)
      have HY:Hid (clock.getLast? =some y):=by show _=_;rw[List.getLast?_eq_getElem?,hm];exact hy
      have hm1:(clock.length:Int)-1=(m:Int):=by omega
      have hm3:m≤c2:=by omega
      have hm4:(m:Int)≤(c2:Int):=by omega
      have hm5:(m:Int)<(clock.length:Int):=by omega
      have hm6:(0:Int)≤(m:Int):=by omega
      have hm7:decide ((m:Int)<0)=false:=by simp
      have hm8:m<clock.length:=by omega
      have HM1:=Lib.hid hm
      clear hm hy h0
      obtain ⟨yn,yb⟩:=y
      by_cases e1:yn=e.name
      ·have e1':=beq_yes e1
       have e1'':(yn.toList !=e.name.toList)=false:=by rw[bne,e1'];rfl
       cases yb
       ·have HF:=Lib.hid (fitsP_bad ((bad_24 (n:=n) (e:=e) (clock:=clock) H24.out).2 (by rw[HY.out,HD25.out];simp)))
        clear e1
        go_wp2_with fail
        go_quiet (fail)
        go_wp2_with fail
        exact bodyPost_ret (v:=ftV ⟨30,e.line,e.col⟩) (res1 rfl Tryz.underlying31 rfl (by kernel_rfl) rfl (by first|exact (rf.set3 _ _ _).drewN _|exact (rf.set3 _ _ _).drew|exact (rf.drewN _).set3 _ _ _|exact rf.drew.set3 _ _ _)) rfl ⟨by rw[HF.out],by repeat (first|exact hB2|refine Below.drew ?_|refine below_drewN' ?_ _|refine Below.setCell ?_ (by first|(simp;omega)|simp) _)⟩
       ·have HOK:=Lib.hid (fitsP_ok (fun hb=>(bad_24 (n:=n) (e:=e) (clock:=clock) H24.out).1 hb (by rw[HY.out,HD25.out,e1])))
        obtain ⟨b,off,x,A',cap',rfl,hb,hxk,hxm,hok',hcap',hmax',hx',f0,f1,f2,f3,f4,f5⟩:=(exs_keep HX.out (keeps_of hB2) (Nat.le_refl _)).at_ (show 0<e.args.length by have:=HA1.out;omega)
        have hdl:clock.dropLast.length=m:=by simp[HM1.out]
        have HXS:Hid (∀W:World,Below W2.heap.size W2 W→Calls Tryz.prog 115 #[ndV n a,exV x A' cap',.slice (some ⟨b2,o2,none⟩) m c2] W fun r w'=>r= .returned (ftV (fitsP n x clock.dropLast))∧Below W.heap.size W w'):=fun W hW=>by
         have hW2:=hB2.trans (hW.mono (by omega))
         have:=HI.out x hxm A' cap' clock.dropLast (some ⟨b2,o2,none⟩) c2 W ((HN.out.below hW2).more hW2.size) hok' hcap' hmax' (exs_keep hx' (keeps_of (hW.mono (by omega))) (by have:=hW.size;omega)) (fun y hy=>HAR.out y (exList_sub hxm hy)) (by have h1:=exSize_arg hxm;rw[hdl];omega) (by rw[hdl];omega) hm2 (by rw[List.dropLast_eq_take];exact (lits_keep HCL.out (keeps_of (hW.mono (by omega))) (by have:=hW.size;omega)).take _)
         rw[hdl] at this
         exact this
        have HF:Hid (fitsP n e clock=fitsP n x clock.dropLast):=by
         show _=_
         have hl1:e.args=[x]:=by
          have h1:=HA1.out
          match hh:e.args,h1,hxk with
          | [z],_,hz=>simp at hz;rw[hz]
         rw[HOK.out,hl1,List.map_cons,List.map_nil,fitsL,part_24 H24.out,fitsL]
         by_cases hz:(fitsP n x clock.dropLast).err=0
         ·rw[if_neg (by simp[hz]),fitsP_zero hz]
         ·rw[if_pos hz]
        have HK:Hid (∀W:World,Upd (fun j=>j=w.heap.size+2) W2 W→(W.cell? ⟨w.heap.size,0,none⟩=some (.string n.name)∧W.cell? ⟨w.heap.size,1,none⟩=some (.slice a.ai n.ins.length a.ci)∧W.cell? ⟨w.heap.size,2,none⟩=some (.slice a.ao n.outs.length a.co)∧W.cell? ⟨w.heap.size,3,none⟩=some (.slice a.av n.vars.length a.cv)∧W.cell? ⟨w.heap.size,4,none⟩=some (.slice a.aq n.eqs.length a.cq)∧W.cell? ⟨w.heap.size,5,none⟩=some (.int .i64 n.line)∧W.cell? ⟨w.heap.size,6,none⟩=some (.int .i64 n.col))∧(W.cell? ⟨b,off,none⟩=some (.int .i64 x.op)∧W.cell? ⟨b,off+1,none⟩=some (.string x.name)∧W.cell? ⟨b,off+2,none⟩=some (.int .i64 x.n)∧W.cell? ⟨b,off+3,none⟩=some (.slice A' x.args.length cap')∧W.cell? ⟨b,off+4,none⟩=some (.int .i64 x.line)∧W.cell? ⟨b,off+5,none⟩=some (.int .i64 x.col))∧W.cell? ⟨w.heap.size+1,3,none⟩=some (.slice (some ⟨b,off,none⟩) e.args.length cap)):=fun W hW=>
         ⟨(hW.row rn (by omega)).nd,⟨(hW.cell (p:=⟨b,off,none⟩) (show b<W2.heap.size by omega) (by show ¬b=_;omega)).trans (by simpa using f0),(hW.cell (p:=⟨b,off+1,none⟩) (show b<W2.heap.size by omega) (by show ¬b=_;omega)).trans (by simpa using f1),(hW.cell (p:=⟨b,off+2,none⟩) (show b<W2.heap.size by omega) (by show ¬b=_;omega)).trans (by simpa using f2),(hW.cell (p:=⟨b,off+3,none⟩) (show b<W2.heap.size by omega) (by show ¬b=_;omega)).trans (by simpa using f3),(hW.cell (p:=⟨b,off+4,none⟩) (show b<W2.heap.size by omega) (by show ¬b=_;omega)).trans (by simpa using f4),(hW.cell (p:=⟨b,off+5,none⟩) (show b<W2.heap.size by omega) (by show ¬b=_;omega)).trans (by simpa using f5)⟩,(hW.row re (by omega)).ex.2.2.2.1⟩
        have i1:(0:Int)<(e.args.length:Int):=by have:=HA1.out;omega
        have i3:0<e.args.length:=by omega
        clear e1 hxk hxm hx' f0 f1 f2 f3 f4 f5 hdl
        generalize fitsP n x clock.dropLast=f at*
        go_wp2_with fail
        go_quiet (fail)
        obtain ⟨⟨c0,c1,cc2,c3,c4,c5,c6⟩,⟨f0,f1,f2,f3,f4,f5⟩,q0⟩:=HK.out W2 (Upd.refl _ _)
        go_upto_region 8 with (fail)
        go_cut[] (fun W=>Row W (w.heap.size+2) (ftArr f) 31∧Below w.heap.size w W)
        case first=>
         go_region_held3 (fun W=>(W.cell? ⟨w.heap.size,0,none⟩=some (.string n.name)∧W.cell? ⟨w.heap.size,1,none⟩=some (.slice a.ai n.ins.length a.ci)∧W.cell? ⟨w.heap.size,2,none⟩=some (.slice a.ao n.outs.length a.co)∧W.cell? ⟨w.heap.size,3,none⟩=some (.slice a.av n.vars.length a.cv)∧W.cell? ⟨w.heap.size,4,none⟩=some (.slice a.aq n.eqs.length a.cq)∧W.cell? ⟨w.heap.size,5,none⟩=some (.int .i64 n.line)∧W.cell? ⟨w.heap.size,6,none⟩=some (.int .i64 n.col))∧(W.cell? ⟨b,off,none⟩=some (.int .i64 x.op)∧W.cell? ⟨b,off+1,none⟩=some (.string x.name)∧W.cell? ⟨b,off+2,none⟩=some (.int .i64 x.n)∧W.cell? ⟨b,off+3,none⟩=some (.slice A' x.args.length cap')∧W.cell? ⟨b,off+4,none⟩=some (.int .i64 x.line)∧W.cell? ⟨b,off+5,none⟩=some (.int .i64 x.col))∧W.cell? ⟨w.heap.size+1,3,none⟩=some (.slice (some ⟨b,off,none⟩) e.args.length cap))
          (first|exact HK.out _ (by repeat (first|exact ub6|exact Upd.refl _ _|refine Upd.drew ?_|refine Upd.drewN ?_ _|refine Upd.alloc ?_ _|refine Upd.setCell ?_ (by simp) _))|go_keep)
          (first|((go_at_call 115);(refine (HXS.out _ (by repeat (first|exact (Below.refl _ _)|exact Below.refl _ _|refine Below.drew ?_|refine below_drewN' ?_ _|refine below_drewN' ?_ _|refine Below.alloc ?_ (by first|omega|(simp;omega)|simp) _|refine Below.setCell ?_ (by first|omega|(simp;omega)|simp) _))).mono ?_);rintro r W5 ⟨rfl,hb5⟩;(have hb6:Below W2.heap.size W2 W5:=Below.trans (by repeat (first|exact (Below.refl _ _)|exact Below.refl _ _|refine Below.drew ?_|refine below_drewN' ?_ _|refine below_drewN' ?_ _|refine Below.alloc ?_ (by first|omega|(simp;omega)|simp) _|refine Below.setCell ?_ (by first|omega|(simp;omega)|simp) _)) (hb5.mono (by first|exact Nat.le_refl _|(simp;omega)|simp)));(have hsz6:=hb6.size);(have ub6:Upd (fun j=>j=w.heap.size+2) W2 W5:=Upd.of_below hb6);(have rf5:=rf.below hb6 rf.lt);obtain ⟨⟨k0,k1,k2⟩,h0,h1,h2⟩:=rf5.three;have hB5:=hB2.trans (hb6.mono (by omega))))
         all_goals
          go_wp2_with fail
          go_meet
          exact ⟨by first|exact rf5.set3 _ _ _|exact (rf5.set3 _ _ _).drew,by repeat (first|exact hB5|refine Below.drew ?_|refine Below.setCell ?_ (by first|(simp;omega)|simp) _)⟩
        case rest=>
         obtain ⟨rf8,hB8⟩:=hcut
         go_wp2_with fail
         exact bodyPost_ret (v:=ftV f) (res1 rfl Tryz.underlying31 rfl (by kernel_rfl) rfl rf8) rfl ⟨by rw[HF.out],hB8⟩
      ·have e1':=beq_no e1
       have e1'':(yn.toList !=e.name.toList)=true:=by rw[bne,e1'];rfl
       have HF:=Lib.hid (fitsP_bad ((bad_24 (n:=n) (e:=e) (clock:=clock) H24.out).2 (by rw[HY.out];intro g;injection g with g;injection g with g;exact e1 g)))
       clear e1
       go_wp2_with fail
       go_quiet (fail)
       go_wp2_with fail
       exact bodyPost_ret (v:=ftV ⟨30,e.line,e.col⟩) (res1 rfl Tryz.underlying31 rfl (by kernel_rfl) rfl (by first|exact (rf.set3 _ _ _).drewN _|exact (rf.set3 _ _ _).drew|exact (rf.drewN _).set3 _ _ _|exact rf.drew.set3 _ _ _)) rfl ⟨by rw[HF.out],by repeat (first|exact hB2|refine Below.drew ?_|refine below_drewN' ?_ _|refine Below.setCell ?_ (by first|(simp;omega)|simp) _)⟩
   ·have o24:(e.op==24)=false:=by rw[beq_eq_false_iff_ne];omega
    have o25:(e.op==25)=false:=by rw[beq_eq_false_iff_ne];omega
    have HOK:Hid (fitsP n e clock=fitsL e clock (e.args.map (fitsP n)) 0):=fitsP_ok (fun hb=>hb.elim (fun h=>by have:=HP.2 h;cases this) (fun h=>h24 h.1))
    have H24:Hid (¬(e.op=24∨e.op=25)):=h24
    clear h24
    go_wp2_with fail
    go_loopw[9] (fun i wr=>∃k:Nat,k≤e.args.length∧i= .int .i64 k∧Hid (fitsP n e clock=fitsL e clock ((e.args.drop k).map (fitsP n)) k)∧Below W2.heap.size W2 wr) (fun i _=>e.args.length-(intOf i).toNat)
    case atStart=>exact ⟨0,Nat.zero_le _,rfl,HOK,Below.refl _ _⟩
    case round=>
     obtain ⟨k,hk,rfl,HR,hbr⟩:=hrel
     clear x0 x1 x2 x3 x4 x5 y0 y1 y2 z0 z1 z2 g0 g1 g2
     have hszr:=hbr.size
     have hBr:=hB2.trans (hbr.mono hsz2)
     have rnr:=rn.below hbr rn.lt
     have rer:=re.below hbr re.lt
     have rfr:=rf.below hbr rf.lt
     obtain ⟨x0,x1,x2,x3,x4,x5⟩:=rer.ex
     by_cases hlt:k<e.args.length
     ·obtain ⟨b,off,x,A',cap',rfl,hb,hxk,hxm,hok',hcap',hmax',hx',d0,d1,d2,d3,d4,d5⟩:=(exs_keep HX.out (keeps_of hBr) (Nat.le_refl _)).at_ hlt
      have HXK:=Lib.hid hxk
      have HXM:=Lib.hid hxm
      have HXX:=Lib.hid hx'
      have HD:=Lib.hid (drop_succ_map (fitsP n) hxk)
      clear hxk hxm hx'
      have hlt1:(k:Int)<(e.args.length:Int):=by omega
      have hlt0:(0:Int)≤(k:Int):=by omega
      have HCR:=Lib.hid (lits_keep HCL.out (keeps_of (hbr.mono hsz2)) (show w.heap.size≤wr.heap.size by omega))
      go_upto_region 12 with (fail)
      go_upto_if 87 with (fail)
      go_cut[10] (fun v W=>∃Ac cc,v= .slice Ac (partClock e clock k).length cc∧(partClock e clock k).length≤cc∧cc≤maxLen∧Sl W W.heap.size 2 isLit Ac (partClock e clock k)∧Below wr.heap.size wr W)
      case first=>
       by_cases h26:e.op=26
       ·have o26:(e.op==26)=true:=by rw[beq_iff_eq];exact h26
        by_cases hk1:k=1
        ·have hk1':((k:Int)==1)=true:=by rw[beq_iff_eq];omega
         have HPC:Hid (partClock e clock k=clock++ [⟨e.name,true⟩]):=by show _=_;rw[part_26 h26,hk1];rfl
         clear h26 hk1
         go_wp2_with fail
         refine (with_any clock ⟨e.name,true⟩ A2 c2 wr hcl2 hok.name HCR.out).mono ?_
         rintro r W3 ⟨⟨v3,rfl,A3,k3,rfl,l3,m3,s3⟩,hb3⟩
         rw[←HPC.out] at l3 s3⊢
         go_wp2_with fail
         go_meet
         exact ⟨A3,k3,rfl,l3,m3,s3,hb3⟩
        ·have hk1':((k:Int)==1)=false:=by rw[beq_eq_false_iff_ne];omega
         have HPC:Hid (partClock e clock k=clock++ [⟨e.name,false⟩]):=by show _=_;rw[part_26 h26,decide_eq_false hk1]
         clear h26 hk1
         go_wp2_with fail
         refine (with_any clock ⟨e.name,false⟩ A2 c2 wr hcl2 hok.name HCR.out).mono ?_
         rintro r W3 ⟨⟨v3,rfl,A3,k3,rfl,l3,m3,s3⟩,hb3⟩
         rw[←HPC.out] at l3 s3⊢
         go_wp2_with fail
         go_meet
         exact ⟨A3,k3,rfl,l3,m3,s3,hb3⟩
       ·have o26:(e.op==26)=false:=by rw[beq_eq_false_iff_ne];exact h26
        have HPC:Hid (partClock e clock k=clock):=part_no (fun h=>H24.out (.inl h)) (fun h=>H24.out (.inr h)) h26 clock k
        clear h26
        go_wp2_with fail
        go_meet
        rw[HPC.out]
        exact ⟨A2,c2,rfl,hc2,hm2,HCR.out,Below.refl _ _⟩
      case rest=>
       obtain ⟨Ac,cc,rfl,hcl,hcm,hcs,hb3⟩:=hcut
       obtain ⟨W4,rfl⟩:∃W4:World,W4=wc:=⟨_,rfl⟩
       have hsz4:=hb3.size
       have hB4:=hBr.trans (hb3.mono (by omega))
       have rn4:=rnr.below hb3 rnr.lt
       have re4:=rer.below hb3 rer.lt
       have rf4:=rfr.below hb3 rfr.lt
       have HXS:Hid (RCalls2 n a x A' cap' (partClock e clock k) Ac cc W4):=fun W hW=>by
        have hW2:=hB4.trans (hW.mono (by omega))
        refine HI.out x HXM.out A' cap' (partClock e clock k) Ac cc W ((HN.out.below hW2).more hW2.size) hok' hcap' hmax' (exs_keep HXX.out (keeps_of ((hb3.mono (by omega)).trans (hW.mono (by omega)))) (by have:=hW.size;omega)) (fun y hy=>HAR.out y (exList_sub HXM.out hy)) ?_ hcl hcm (lits_keep hcs (keeps_of hW) hW.size)
        have h1:=exSize_arg HXM.out
        have h2:=part_len e clock k
        omega
       have HK:Hid (∀W:World,Below W4.heap.size W4 W→(W.cell? ⟨w.heap.size,0,none⟩=some (.string n.name)∧W.cell? ⟨w.heap.size,1,none⟩=some (.slice a.ai n.ins.length a.ci)∧W.cell? ⟨w.heap.size,2,none⟩=some (.slice a.ao n.outs.length a.co)∧W.cell? ⟨w.heap.size,3,none⟩=some (.slice a.av n.vars.length a.cv)∧W.cell? ⟨w.heap.size,4,none⟩=some (.slice a.aq n.eqs.length a.cq)∧W.cell? ⟨w.heap.size,5,none⟩=some (.int .i64 n.line)∧W.cell? ⟨w.heap.size,6,none⟩=some (.int .i64 n.col))∧(W.cell? ⟨b,off+k*6,none⟩=some (.int .i64 x.op)∧W.cell? ⟨b,off+k*6+1,none⟩=some (.string x.name)∧W.cell? ⟨b,off+k*6+2,none⟩=some (.int .i64 x.n)∧W.cell? ⟨b,off+k*6+3,none⟩=some (.slice A' x.args.length cap')∧W.cell? ⟨b,off+k*6+4,none⟩=some (.int .i64 x.line)∧W.cell? ⟨b,off+k*6+5,none⟩=some (.int .i64 x.col))∧W.cell? ⟨w.heap.size+1,3,none⟩=some (.slice (some ⟨b,off,none⟩) e.args.length cap)):=fun W hW=>
        ⟨(rn4.below hW rn4.lt).nd,⟨(hW.cell (p:=⟨b,off+k*6,none⟩) (show b<W4.heap.size by omega)).trans ((hb3.cell (p:=⟨b,off+k*6,none⟩) (show b<wr.heap.size by omega)).trans d0),(hW.cell (p:=⟨b,off+k*6+1,none⟩) (show b<W4.heap.size by omega)).trans ((hb3.cell (p:=⟨b,off+k*6+1,none⟩) (show b<wr.heap.size by omega)).trans d1),(hW.cell (p:=⟨b,off+k*6+2,none⟩) (show b<W4.heap.size by omega)).trans ((hb3.cell (p:=⟨b,off+k*6+2,none⟩) (show b<wr.heap.size by omega)).trans d2),(hW.cell (p:=⟨b,off+k*6+3,none⟩) (show b<W4.heap.size by omega)).trans ((hb3.cell (p:=⟨b,off+k*6+3,none⟩) (show b<wr.heap.size by omega)).trans d3),(hW.cell (p:=⟨b,off+k*6+4,none⟩) (show b<W4.heap.size by omega)).trans ((hb3.cell (p:=⟨b,off+k*6+4,none⟩) (show b<wr.heap.size by omega)).trans d4),(hW.cell (p:=⟨b,off+k*6+5,none⟩) (show b<W4.heap.size by omega)).trans ((hb3.cell (p:=⟨b,off+k*6+5,none⟩) (show b<wr.heap.size by omega)).trans d5)⟩,(re4.below hW re4.lt).ex.2.2.2.1⟩
       have hB3:=hbr.trans (hb3.mono (by omega))
       clear hcs x0 x1 x2 x3 x4 x5
       generalize hff:fitsP n x (partClock e clock k)=f at*
       have HFF:=Lib.hid hff
       have HXT:Hid (∀W:World,Below W4.heap.size W4 W→Calls Tryz.prog 115 #[ndV n a,exV x A' cap',.slice Ac (partClock e clock k).length cc] W fun r w'=>r= .returned (ftV f)∧Below W.heap.size W w'):=by rw[←hff];exact HXS.out
       have HFL:Hid (fitsP n e clock=if f.err≠0 then f else fitsL e clock ((e.args.drop (k+1)).map (fitsP n)) (k+1)):=by show _=_;rw[HR.out,HD.out,fitsL,hff]
       clear hff HXS d0 d1 d2 d3 d4 d5 HFF
       generalize partClock e clock k=pc at*
       go_upto_region 15 with (fail)
       obtain ⟨⟨c0,c1,cc2,c3,c4,c5,c6⟩,⟨d0,d1,d2,d3,d4,d5⟩,q0⟩:=HK.out W4 (Below.refl _ _)
       go_cut[11] (fun p W=>∃bF,p= .pointer (some ⟨bF,0,none⟩)∧Row W bF (ftArr f) 31∧Below W4.heap.size W4 W)
       case first=>
        go_region_held3 (fun W=>(W.cell? ⟨w.heap.size,0,none⟩=some (.string n.name)∧W.cell? ⟨w.heap.size,1,none⟩=some (.slice a.ai n.ins.length a.ci)∧W.cell? ⟨w.heap.size,2,none⟩=some (.slice a.ao n.outs.length a.co)∧W.cell? ⟨w.heap.size,3,none⟩=some (.slice a.av n.vars.length a.cv)∧W.cell? ⟨w.heap.size,4,none⟩=some (.slice a.aq n.eqs.length a.cq)∧W.cell? ⟨w.heap.size,5,none⟩=some (.int .i64 n.line)∧W.cell? ⟨w.heap.size,6,none⟩=some (.int .i64 n.col))∧(W.cell? ⟨b,off+k*6,none⟩=some (.int .i64 x.op)∧W.cell? ⟨b,off+k*6+1,none⟩=some (.string x.name)∧W.cell? ⟨b,off+k*6+2,none⟩=some (.int .i64 x.n)∧W.cell? ⟨b,off+k*6+3,none⟩=some (.slice A' x.args.length cap')∧W.cell? ⟨b,off+k*6+4,none⟩=some (.int .i64 x.line)∧W.cell? ⟨b,off+k*6+5,none⟩=some (.int .i64 x.col))∧W.cell? ⟨w.heap.size+1,3,none⟩=some (.slice (some ⟨b,off,none⟩) e.args.length cap))
         (first|exact HK.out _ (by repeat (first|exact hb6|exact Below.refl _ _|refine Below.drew ?_|refine below_drewN' ?_ _|refine Below.alloc ?_ (by first|omega|(simp;omega)|simp) _|refine Below.setCell ?_ (by first|omega|(simp;omega)|simp) _))|go_keep)
         (first|((go_at_call 115);(refine (HXT.out _ (by repeat (first|exact Below.refl _ _|exact Below.refl _ _|refine Below.drew ?_|refine below_drewN' ?_ _|refine Below.alloc ?_ (by first|omega|(simp;omega)|simp) _|refine Below.setCell ?_ (by first|omega|(simp;omega)|simp) _))).mono ?_);rintro r W5 ⟨rfl,hb5⟩;(have hb6:Below W4.heap.size W4 W5:=Below.trans (by repeat (first|exact Below.refl _ _|exact Below.refl _ _|refine Below.drew ?_|refine below_drewN' ?_ _|refine Below.alloc ?_ (by first|omega|(simp;omega)|simp) _|refine Below.setCell ?_ (by first|omega|(simp;omega)|simp) _)) (hb5.mono (by first|exact Nat.le_refl _|(simp;omega)|simp)));(have hsz6:=hb6.size);(try (have rF5:Row W5 W4.heap.size (ftArr ft0) 31:=(by first|exact (Row.new W4 _ _).below hb5 (by simp)|exact (Row.new W4 _ _).drew.below hb5 (by simp)|exact (Row.new W4.drew _ _).below hb5 (by simp));obtain ⟨⟨k0,k1,k2⟩,f0,f1,f2⟩:=rF5.three;have hlF5:=rF5.lt))))
        all_goals
         go_wp2_with fail
         go_meet
         refine ⟨_,rfl,?_,?_⟩
         ·first|exact Row.new W5 _ _|exact rF5.set3 _ _ _|exact (rF5.set3 _ _ _).drew|exact (Row.new W5 _ _).drew
         ·repeat (first|exact hb6|exact Below.refl _ _|refine Below.drew ?_|refine below_drewN' ?_ _|refine Below.alloc ?_ (by first|omega|(simp;omega)|simp) _|refine Below.setCell ?_ (by first|omega|(simp;omega)|simp) _)
       case rest=>
        obtain ⟨bF,rfl,rF,hb7⟩:=hcut
        have hB7:=hB4.trans (hb7.mono (by omega))
        have hlF:=rF.lt
        have hb8:=hB3.trans (hb7.mono (by omega))
        have rf7:=rf4.below hb7 rf4.lt
        obtain ⟨⟨y0,y1,y2⟩,_⟩:=rF.three
        obtain ⟨⟨z0,z1,z2⟩,g0,g1,g2⟩:=rf7.three
        clear c0 c1 cc2 c3 c4 c5 c6 d0 d1 d2 d3 d4 d5 q0 HXT HK
        by_cases hf:f.err=0
        ·have hf1:(f.err !=0)=false:=by simp[hf]
         have HR':Hid (fitsP n e clock=fitsL e clock ((e.args.drop (k+1)).map (fitsP n)) (k+1)):=by
          show _=_
          rw[HFL.out,if_neg (by simp[hf])]
         clear hf
         go_wp2_with fail
         go_roundw
         case rel=>exact ⟨k+1,by omega,by go_num,HR',hb8⟩
         case measure=>simp[intOf];omega
        ·have hf1:(f.err !=0)=true:=by simp[hf]
         have HF:Hid (fitsP n e clock=f):=by
          show _=_
          rw[HFL.out,if_pos hf]
         clear hf
         go_wp2_with fail
         exact bodyPost_ret (v:=ftV f) (res1 rfl Tryz.underlying31 rfl (by kernel_rfl) rfl (rf7.set3 _ _ _)) rfl ⟨by rw[HF.out],by repeat (first|exact hB7|refine Below.setCell ?_ (by first|(simp;omega)|simp) _)⟩
     ·obtain rfl:k=e.args.length:=by omega
      have HF:Hid (fitsP n e clock=ft0):=by
       show _=_
       rw[HR.out,List.drop_length]
       rfl
      obtain ⟨⟨z0,z1,z2⟩,g0,g1,g2⟩:=rfr.three
      go_wp2_with fail
      exact bodyPost_ret (v:=ftV ft0) (res1 rfl Tryz.underlying31 rfl (by kernel_rfl) rfl (rfr.set3 _ _ _)) rfl ⟨by rw[HF.out],by repeat (first|exact hBr|refine Below.setCell ?_ (by first|(simp;omega)|simp) _)⟩
end Go.Proofs.YtgjfkidbfmbjoaaGreat
