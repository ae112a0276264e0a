/-
  What is wrong first with clocks, by the document: the contract of tompionref18.Check.
-/
import Derived.Test.YtgjfkidbfmbjoaaGreatZz
import Derived.Test.YtgjfkidbfmbjoaaGreatCkB
set_option maxHeartbeats 1000000
set_option maxRecDepth 100000
namespace Go.Proofs.YtgjfkidbfmbjoaaGreat
open Go.RowKit
attribute [local go_sem ↓] Go.wp_at_zero Go.wp_at_succ
theorem rccheck_any (s:List Nd) (A:Option Addr) (cap:Nat) (w:World) (sm:SrcSm s) (h1:s.length≤cap) (h2:cap≤maxLen) (h:Nds w w.heap.size A s):
  Calls Tryz.prog 50 #[srcV s A cap] w fun r w'=>r= .returned (ftV (clockF s))∧Below w.heap.size w w':=by
 refine' zq7
 refine' zq30
 clear h sm
 go_enter Tryz.func50,Tryz.ntmps50
 refine' zq110
 refine' zq20
 have HF0:Hid (clockF s=ft2 f (fstL clkNF s)):=by show _=_;rw[←HFN.out];rfl
 rw[HFN.out]
 by_cases hf:f.err=0
 rotate_left 1
 ·have hf1:(f.err !=0)=true:=neq_yes hf
  have HF:Hid (clockF s=f):=by show _=_;rw[HF0.out,ft2_1 hf]
  clear hf
  refine' zq10
 have hf1:(f.err !=0)=false:=neq_no hf
 have HF1:Hid (clockF s=fstL clkNF s):=by show _=_;rw[HF0.out,ft2_0 hf]
 have HKN:=Lib.hid (scope_kn (s:=s) (by rw[HFN.out];exact hf))
 refine' zq17
 clear rs2 rf2 hB2 hs2 ba hl2 HF0
 go_wp2_with fail
 go_loopw[4] (fun i wr=>∃k:Nat,k≤s.length∧i= .int .i64 k∧Hid (∀j,j<k→∀x,s[j]? =some x→(clkNF j x).err=0)∧Below w4.heap.size w4 wr) (fun i _=>s.length-(intOf i).toNat)
 case atStart=>exact ⟨0,Nat.zero_le _,rfl,fun j h=>absurd h (by omega),Below.refl _ _⟩
 case round=>
  refine' zq170
  by_cases hlt:k<s.length
  rotate_left 1
  ·obtain rfl:k=s.length:=by omega
   have HF:Hid (clockF s=ft0):=HF1.out.trans (fstL_end HN.out)
   refine' zq11
  refine' zq68
  have hnm:=List.mem_of_getElem? hn
  have HNS:=Lib.hid (HSM.out.all n hnm)
  have HKNn:=Lib.hid (HKN.out n hnm)
  have gv:=hat.mv
  have gq:=hat.mq
  have lv:=hat.lv
  have lq:=hat.lq
  refine' zq80
  refine' zq230
  have HAW:Hid (∀W,Below wr.heap.size wr W→NdAt W W.heap.size n a):=fun W hW=>(hat.below (hW.mono hsB)).more (Nat.le_trans hsB hW.size)
  refine' zq69
  have HFn:Hid ((clkNF k n).err≠0→clockF s=clkNF k n):=fun g=>by
   rw[HF1.out,fstL_stop (f:=clkNF) HN.out HX.out g]
  have HNF:Hid (clkNF k n=ft2 (fstL (clkVF n) n.vars) (fstL (clkQF n) n.eqs)):=rfl
  have rn1:=Row.new wr (ndArr n a) 39
  refine' zq43
  clear hn hat hnm
  go_upto_region 8 with (fail)
  clear d0 d1 d2 d3 d4 d5 d6 c0
  refine' zq60
  refine' zq118
  go_wp2_with fail
  go_loopw[6] (fun i wr=>∃p:Nat,p≤n.vars.length∧i= .int .i64 p∧Hid (∀j,j<p→∀x,n.vars[j]? =some x→(clkVF n j x).err=0)∧Below w6.heap.size w6 wr) (fun i _=>n.vars.length-(intOf i).toNat)
  case atStart=>exact ⟨0,Nat.zero_le _,rfl,fun j h=>absurd h (by omega),Below.refl _ _⟩
  case round=>
   refine' zq116
   obtain ⟨c0,c1,cc2,c3,c4,c5,c6⟩:=rn7.nd
   by_cases hlp:p<n.vars.length
   ·obtain ⟨b',off',x,A',cap',hA,hb',hx,ok,g1,g2,hxs,d0,d1,d2,d3,d4⟩:=(HAT.out wr b07).sv.vr hlp
    have HA:=Lib.hid hA
    rw[hA] at c3
    have HXK:=Lib.hid hx
    have hxm:=List.mem_of_getElem? hx
    have HR:Hid (∀W,Below wr.heap.size wr W→Calls Tryz.prog 112 #[.agg #[.string n.name,.slice a.ai n.ins.length a.ci,.slice a.ao n.outs.length a.co,.slice (some ⟨b',off',none⟩) n.vars.length a.cv,.slice a.aq n.eqs.length a.cq,.int .i64 n.line,.int .i64 n.col],.slice A' x.clock.length cap'] W fun r w'=>r= .returned (.bool (cB (RightClk n x.clock)))∧Below W.heap.size W w'):=fun W hW=>by
     rw[←HA.out]
     exact rright18_any n a x.clock A' cap' W HNS.out (HAW.out W (b07.trans (hW.mono b07.size))) g1 g2 (lits_keep hxs (keeps_of (hW.mono hsB7)) (Nat.le_trans hsB7 hW.size)) (HKNn.out.conds x hxm)
    have j0:(0:Int)≤(p:Int):=by omega
    have j1:(p:Int)<(n.vars.length:Int):=by omega
    obtain ⟨P,HPB⟩:∃P:Bool,Hid (cB (RightClk n x.clock)=P):=⟨_,rfl⟩
    rw[HPB.out] at HR
    clear hA hx hxs ok hxm
    go_upto_region 11 with (fail)
    have HK:Hid (∀W,Below wr.heap.size wr W→(W.cell? ⟨wo.heap.size,0,none⟩=some (.string n.name)∧W.cell? ⟨wo.heap.size,1,none⟩=some (.slice a.ai n.ins.length a.ci)∧W.cell? ⟨wo.heap.size,2,none⟩=some (.slice a.ao n.outs.length a.co)∧W.cell? ⟨wo.heap.size,3,none⟩=some (.slice (some ⟨b',off',none⟩) n.vars.length a.cv)∧W.cell? ⟨wo.heap.size,4,none⟩=some (.slice a.aq n.eqs.length a.cq)∧W.cell? ⟨wo.heap.size,5,none⟩=some (.int .i64 n.line)∧W.cell? ⟨wo.heap.size,6,none⟩=some (.int .i64 n.col))∧W.cell? ⟨b',off'+p*5+2,none⟩=some (.slice A' x.clock.length cap')):=fun W hW=>⟨⟨old_cell hW c0,old_cell hW c1,old_cell hW cc2,old_cell hW c3,old_cell hW c4,old_cell hW c5,old_cell hW c6⟩,old_cell hW d2⟩
    go_cut[45] (fun v45 W=>v45= .bool (!P)∧Below wr.heap.size wr W)
    case first=>
     go_region_held3 (fun W=>(W.cell? ⟨wo.heap.size,0,none⟩=some (.string n.name)∧W.cell? ⟨wo.heap.size,1,none⟩=some (.slice a.ai n.ins.length a.ci)∧W.cell? ⟨wo.heap.size,2,none⟩=some (.slice a.ao n.outs.length a.co)∧W.cell? ⟨wo.heap.size,3,none⟩=some (.slice (some ⟨b',off',none⟩) n.vars.length a.cv)∧W.cell? ⟨wo.heap.size,4,none⟩=some (.slice a.aq n.eqs.length a.cq)∧W.cell? ⟨wo.heap.size,5,none⟩=some (.int .i64 n.line)∧W.cell? ⟨wo.heap.size,6,none⟩=some (.int .i64 n.col))∧W.cell? ⟨b',off'+p*5+2,none⟩=some (.slice A' x.clock.length cap')) (first|(with_reducible exact HK.out _ (by repeat (first|(with_reducible assumption)|(with_reducible exact Below.refl _ _)|(with_reducible refine Below.drew ?_)|(with_reducible refine below_drewN' ?_ _)|(with_reducible refine Below.alloc ?_ (by first|assumption|omega|(simp;omega)|simp|(simp[World.setCell];omega)|simp[World.setCell]) _)|(with_reducible refine Below.setCell ?_ (by first|assumption|omega|(simp;omega)|simp|(simp[World.setCell];omega)|simp[World.setCell]) _))))|go_keep)
      (first|((go_at_call 112);(refine (HR.out _ (by repeat (first|(with_reducible assumption)|(with_reducible exact Below.refl _ _)|(with_reducible refine Below.drew ?_)|(with_reducible refine below_drewN' ?_ _)|(with_reducible refine Below.alloc ?_ (by first|assumption|omega|(simp;omega)|simp|(simp[World.setCell];omega)|simp[World.setCell]) _)|(with_reducible refine Below.setCell ?_ (by first|assumption|omega|(simp;omega)|simp|(simp[World.setCell];omega)|simp[World.setCell]) _)))).mono ?_);rintro e w3 ⟨rfl,hb3⟩;(have hb4:Below wr.heap.size wr w3:=Below.trans (by repeat (first|(with_reducible assumption)|(with_reducible exact Below.refl _ _)|(with_reducible refine Below.drew ?_)|(with_reducible refine below_drewN' ?_ _)|(with_reducible refine Below.alloc ?_ (by first|assumption|omega|(simp;omega)|simp|(simp[World.setCell];omega)|simp[World.setCell]) _)|(with_reducible refine Below.setCell ?_ (by first|assumption|omega|(simp;omega)|simp|(simp[World.setCell];omega)|simp[World.setCell]) _))) (hb3.mono (by first|exact Nat.le_refl _|simp|(simp;omega)|omega)));(have hs4:=hb4.size)))
     all_goals
      refine' zq46
    case rest=>
     obtain ⟨rfl,hbc⟩:=hcut
     have rf8:=rf7.below hbc rf7.lt
     have hB8:=hB7.trans (hbc.mono hsB7)
     have m3:=old_cell hbc d3
     have m4:=old_cell hbc d4
     have n3:=old_cell hbc c3
     clear c0 c1 cc2 c3 c4 c5 c6 d0 d1 d2 d3 d4 HK
     cases P
     ·have hq:¬RightClk n x.clock:=cB_not.1 HPB.out
      have HF:Hid (clockF s=⟨30,x.line,x.col⟩):=by
       have e:clkVF n p x=⟨30,x.line,x.col⟩:=clkVF_no hq
       have e1:=fstL_stop (f:=clkVF n) HP.out HXK.out (by rw[e];show (30:Int)≠0;decide)
       have e2:clkNF k n=⟨30,x.line,x.col⟩:=by rw[HNF.out,e1,e];rfl
       exact (HFn.out (by rw[e2];show (30:Int)≠0;decide)).trans e2
      clear hq
      obtain ⟨⟨k0,k1,k2⟩,g0,g1',g2'⟩:=rf8.three
      go_wp2_with fail
      exact bodyPost_ret (res1 rfl Tryz.underlying31 rfl (by kernel_rfl) rfl (rf8.set3 _ _ _)) rfl ⟨(congrArg (fun f=>Ending.returned (ftV f)) HF.out).symm,below_set3 hB8 (by first|omega|(simp;omega)|simp) _ _ _⟩
     ·have hq:=cB_iff.1 HPB.out
      have HP':=Lib.hid (step_uptoI (P:=fun j x=>(clkVF n j x).err=0) HP.out HXK.out (by rw[clkVF_yes hq]))
      clear hq
      go_wp2_with fail
      go_roundw
      case rel=>exact ⟨p+1,by omega,by go_num,HP',hbq.trans (hbc.mono hszq)⟩
      case measure=>first|(simp[intOf];omega)|simp[intOf]
   ·obtain rfl:p=n.vars.length:=by omega
    have HNF2:Hid (clkNF k n=fstL (clkQF n) n.eqs):=by
     show _=_
     rw[HNF.out,fstL_end HP.out,ft2_0 (a:=ft0) rfl]
    clear HP HNF
    obtain ⟨w7,rfl⟩:∃w7:World,w7=wr:=⟨_,rfl⟩
    refine' zq121
    go_loopw[7] (fun i wr=>∃p:Nat,p≤n.eqs.length∧i= .int .i64 p∧Hid (∀j,j<p→∀x,n.eqs[j]? =some x→(clkQF n j x).err=0)∧Below w7.heap.size w7 wr) (fun i _=>n.eqs.length-(intOf i).toNat)
    case atStart=>exact ⟨0,Nat.zero_le _,rfl,fun j h=>absurd h (by omega),Below.refl _ _⟩
    case round=>
     obtain ⟨p,hp,rfl,HP,hbp⟩:=hrel
     have hszp:=hbp.size
     have rn8:=rn7.below hbp rn7.lt
     have rf8:=rf7.below hbp rf7.lt
     have hB8:=hB7.trans (hbp.mono hsB7)
     have hsB8:=hB8.size
     have b08:=b07.trans (hbp.mono b07.size)
     obtain ⟨c0,c1,cc2,c3,c4,c5,c6⟩:=rn8.nd
     by_cases hlp:p<n.eqs.length
     ·obtain ⟨b',off',q,A1,k1,A2,k2,hA,hb',hq,ok,lq1,mq1,sl1,lq2,mq2,sl2,d0,d1,d2,d3,d4,d5,d6,d7,d8⟩:=(HAT.out wr b08).sq.eqn hlp
      have HA:=Lib.hid hA
      rw[hA] at c4
      have HXK:=Lib.hid hq
      have hqm:=List.mem_of_getElem? hq
      have HQM:=Lib.hid hqm
      have HSQ:=Lib.hid (HNS.out.eq q hqm)
      have HOK:=Lib.hid ok.right
      have HRT:=Lib.hid (HKNn.out.rt.1 q hqm)
      have hl1:=HRT.out.2.1
      have HS1:Hid (∀W,Below wr.heap.size wr W→Sl W w.heap.size 1 isStr A1 q.left):=fun W hW=>strs_keep sl1 (keeps_of (hW.mono hsB8)) (Nat.le_refl _)
      have HS2:Hid (∀W,Below wr.heap.size wr W→IsExs W w.heap.size A2 q.right.args):=fun W hW=>exs_keep sl2 (keeps_of (hW.mono hsB8)) (Nat.le_refl _)
      refine' zq148
      have HQn:Hid ((clkQF n p q).err≠0→clockF s=clkQF n p q):=fun g=>by
       have e2:clkNF k n=clkQF n p q:=by rw[HNF2.out,fstL_stop (f:=clkQF n) HP.out HXK.out g]
       exact (HFn.out (by rw[e2];exact g)).trans e2
      refine' zq192
      refine' zq35
      obtain ⟨bs,offs,nm0,hAs,hbs,hy0,ys0,f0⟩:=(HS1.out wr (Below.refl _ _)).str (k:=0) (by omega)
      subst hAs
      have HCK:=Lib.hid (eqClk_head (n:=n) hy0)
      have HM0:=Lib.hid (HKNn.out.lefts q hqm nm0 (List.mem_of_getElem? hy0))
      have HRO:Hid (∀(nm:ByteArray) W,nm∈nms (vrs n)→Below wr.heap.size wr W→Calls Tryz.prog 113 #[ndV n a,.string nm] W fun e w'=>(∃v,e= .returned v∧LitsV w' (clockOf n nm) v)∧Below W.heap.size W w'):=fun nm W hm hW=>rof_any n a nm W (HAW.out W (b08.trans (hW.mono b08.size))) HNS.out (var_mem.2 hm)
      have j0:(0:Int)≤(p:Int):=by omega
      have j1:(p:Int)<(n.eqs.length:Int):=by omega
      clear hA hq ok sl1 sl2 hqm hy0
      go_upto_region 17 with (fail)
      clear d0 d1 d2 d3 d4 d5 d6 d7 d8 c0 c1 cc2 c3 c4 c5 c6
      generalize hW9:wr.alloc (.cells (eqArr q (some ⟨bs,offs,none⟩) k1 A2 k2) 81)=w9 at*
      clear hW9
      have hsq:=bq.size
      have rn9:=rn8.below bq rn8.lt
      have rf9:=rf8.below bq rf8.lt
      have hB9:=hB8.trans (bq.mono hsB8)
      have hs9:=hB9.size
      have f9:=old_cell bq f0
      obtain ⟨d0,d1,d2,d3,d4,d5,d6,d7,d8⟩:=re.eqn
      obtain ⟨c0,c1,cc2,c3,c4,c5,c6⟩:=rn9.nd
      have i2:(0:Int)<(q.left.length:Int):=by omega
      have i4:0<q.left.length:=by omega
      obtain ⟨wp,rfl⟩:∃wp:World,wp=wr:=⟨_,rfl⟩
      have HK:Hid (∀W,Below w9.heap.size w9 W→(W.cell? ⟨wo.heap.size,0,none⟩=some (.string n.name)∧W.cell? ⟨wo.heap.size,1,none⟩=some (.slice a.ai n.ins.length a.ci)∧W.cell? ⟨wo.heap.size,2,none⟩=some (.slice a.ao n.outs.length a.co)∧W.cell? ⟨wo.heap.size,3,none⟩=some (.slice a.av n.vars.length a.cv)∧W.cell? ⟨wo.heap.size,4,none⟩=some (.slice a.aq n.eqs.length a.cq)∧W.cell? ⟨wo.heap.size,5,none⟩=some (.int .i64 n.line)∧W.cell? ⟨wo.heap.size,6,none⟩=some (.int .i64 n.col))∧W.cell? ⟨wp.heap.size,0,none⟩=some (.slice (some ⟨bs,offs,none⟩) q.left.length k1)∧W.cell? ⟨bs,offs,none⟩=some (.string nm0)):=fun W hW=>⟨(rn9.below hW rn9.lt).nd,old_cell hW d0,old_cell hW f9⟩
      go_cut[9] (fun v9 W=>∃A0 x0,v9= .slice A0 (eqClk n q).length x0∧(eqClk n q).length≤x0∧x0≤maxLen∧Hid (Sl W W.heap.size 2 isLit A0 (eqClk n q))∧Below w9.heap.size w9 W)
      case first=>
       go_region_held3 (fun W=>(W.cell? ⟨wo.heap.size,0,none⟩=some (.string n.name)∧W.cell? ⟨wo.heap.size,1,none⟩=some (.slice a.ai n.ins.length a.ci)∧W.cell? ⟨wo.heap.size,2,none⟩=some (.slice a.ao n.outs.length a.co)∧W.cell? ⟨wo.heap.size,3,none⟩=some (.slice a.av n.vars.length a.cv)∧W.cell? ⟨wo.heap.size,4,none⟩=some (.slice a.aq n.eqs.length a.cq)∧W.cell? ⟨wo.heap.size,5,none⟩=some (.int .i64 n.line)∧W.cell? ⟨wo.heap.size,6,none⟩=some (.int .i64 n.col))∧W.cell? ⟨wp.heap.size,0,none⟩=some (.slice (some ⟨bs,offs,none⟩) q.left.length k1)∧W.cell? ⟨bs,offs,none⟩=some (.string nm0)) (first|(with_reducible exact HK.out _ (by repeat (first|(with_reducible assumption)|(with_reducible exact Below.refl _ _)|(with_reducible refine Below.drew ?_)|(with_reducible refine below_drewN' ?_ _)|(with_reducible refine Below.alloc ?_ (by first|assumption|omega|(simp;omega)|simp|(simp[World.setCell];omega)|simp[World.setCell]) _)|(with_reducible refine Below.setCell ?_ (by first|assumption|omega|(simp;omega)|simp|(simp[World.setCell];omega)|simp[World.setCell]) _))))|go_keep)
        (first|((go_at_call 113);(refine (HRO.out nm0 _ HM0.out (bq.trans (Below.mono (B:=w9.heap.size) (by repeat (first|(with_reducible assumption)|(with_reducible exact Below.refl _ _)|(with_reducible refine Below.drew ?_)|(with_reducible refine below_drewN' ?_ _)|(with_reducible refine Below.alloc ?_ (by first|assumption|omega|(simp;omega)|simp|(simp[World.setCell];omega)|simp[World.setCell]) _)|(with_reducible refine Below.setCell ?_ (by first|assumption|omega|(simp;omega)|simp|(simp[World.setCell];omega)|simp[World.setCell]) _))) hsq))).mono ?_);rintro e w3 ⟨⟨v3,rfl,A3,cap3,rfl,l3,m3,s3⟩,hb3⟩;(rw[←HCK.out] at l3 s3⊢);(have hb4:Below w9.heap.size w9 w3:=Below.trans (by repeat (first|(with_reducible assumption)|(with_reducible exact Below.refl _ _)|(with_reducible refine Below.drew ?_)|(with_reducible refine below_drewN' ?_ _)|(with_reducible refine Below.alloc ?_ (by first|assumption|omega|(simp;omega)|simp|(simp[World.setCell];omega)|simp[World.setCell]) _)|(with_reducible refine Below.setCell ?_ (by first|assumption|omega|(simp;omega)|simp|(simp[World.setCell];omega)|simp[World.setCell]) _))) (hb3.mono (by first|exact Nat.le_refl _|simp|(simp;omega)|omega)));(have hs4:=hb4.size)))
       all_goals
        refine' zq97
      case rest=>
       obtain ⟨A0,x0,rfl,l3,m3,HS3,hbc⟩:=hcut
       have rn10:=rn9.below hbc rn9.lt
       have rf10:=rf9.below hbc rf9.lt
       have re10:=re.below hbc re.lt
       have hB10:=hB9.trans (hbc.mono hs9)
       have hs10:=hB10.size
       have b10:=bq.trans (hbc.mono hsq)
       clear c0 c1 cc2 c3 c4 c5 c6 d0 d1 d2 d3 d4 d5 d6 d7 d8 HK f9 f0
       obtain ⟨w10,rfl⟩:∃w10:World,w10=wc:=⟨_,rfl⟩
       go_wp2_with fail
       go_loopw[10] (fun i wr=>∃j:Nat,1≤j∧j≤q.left.length∧i= .int .i64 j∧Hid (∀i,i<j→∀x,q.left[i]? =some x→clockOf n x=eqClk n q)∧Below w10.heap.size w10 wr) (fun i _=>q.left.length-(intOf i).toNat)
       case atStart=>exact ⟨1,by omega,by omega,rfl,fun i hi x hx=>by
        have e0:i=0:=by omega
        subst e0
        exact (eqClk_head hx).symm,Below.refl _ _⟩
       case round=>
        obtain ⟨j,hj1,hj,rfl,HJ,hbj⟩:=hrel
        have hszj:=hbj.size
        have rn11:=rn10.below hbj rn10.lt
        have rf11:=rf10.below hbj rf10.lt
        have re11:=re10.below hbj re10.lt
        have hB11:=hB10.trans (hbj.mono hs10)
        have hsB11:=hB11.size
        have b11:=b10.trans (hbj.mono b10.size)
        obtain ⟨c0,c1,cc2,c3,c4,c5,c6⟩:=rn11.nd
        obtain ⟨d0,d1,d2,d3,d4,d5,d6,d7,d8⟩:=re11.eqn
        by_cases hlj:j<q.left.length
        ·obtain ⟨b2,off2,nm,hA',hb2,hy,ys,f0⟩:=(HS1.out wr b11).str hlj
         injection hA' with hA'
         injection hA' with hA1 hA2
         subst hA1;subst hA2
         have HY:=Lib.hid hy
         have HMY:=Lib.hid (HKNn.out.lefts q HQM.out nm (List.mem_of_getElem? hy))
         have HOY:=Lib.hid (fun W (hW:Below wr.heap.size wr W)=>HRO.out nm W HMY.out (b11.trans (hW.mono b11.size)))
         obtain ⟨P,HPB⟩:∃P:Bool,Hid (cB (eqClk n q=clockOf n nm)=P):=⟨_,rfl⟩
         have HE:Hid (∀W A4 cap4 (nn:Nat),Below wr.heap.size wr W→(clockOf n nm).length≤cap4→cap4≤maxLen→Sl W W.heap.size 2 isLit A4 (clockOf n nm)→Calls Tryz.prog 114 #[.slice A0 (eqClk n q).length x0,.slice A4 (clockOf n nm).length cap4] (W.drewN nn) fun e w'=>e= .returned (.bool P)∧∃n,w'=(W.drewN nn).drewN n):=fun W A4 cap4 nn hW l4 m4 s4=>by
          have hWB:=hbj.trans (hW.mono hszj)
          have h:=rlits_any (eqClk n q) (clockOf n nm) A0 A4 x0 cap4 W.heap.size (W.drewN nn) l3 m3 (lits_keep HS3.out (keeps_of (below_drewN' hWB nn)) hWB.size) l4 m4 s4
          rw[HPB.out] at h
          exact h
         have j2:(0:Int)≤(j:Int):=by omega
         have j3:(j:Int)<(q.left.length:Int):=by omega
         clear hy
         have HK:Hid (∀W,Below wr.heap.size wr W→(W.cell? ⟨wo.heap.size,0,none⟩=some (.string n.name)∧W.cell? ⟨wo.heap.size,1,none⟩=some (.slice a.ai n.ins.length a.ci)∧W.cell? ⟨wo.heap.size,2,none⟩=some (.slice a.ao n.outs.length a.co)∧W.cell? ⟨wo.heap.size,3,none⟩=some (.slice a.av n.vars.length a.cv)∧W.cell? ⟨wo.heap.size,4,none⟩=some (.slice a.aq n.eqs.length a.cq)∧W.cell? ⟨wo.heap.size,5,none⟩=some (.int .i64 n.line)∧W.cell? ⟨wo.heap.size,6,none⟩=some (.int .i64 n.col))∧W.cell? ⟨wp.heap.size,0,none⟩=some (.slice (some ⟨bs,offs,none⟩) q.left.length k1)∧W.cell? ⟨bs,offs+j,none⟩=some (.string nm)):=fun W hW=>⟨(rn11.below hW rn11.lt).nd,old_cell hW d0,old_cell hW f0⟩
         go_upto_region 21 with (fail)
         go_cut[87] (fun v87 W=>v87= .bool (!P)∧Below wr.heap.size wr W)
         case first=>
          go_region_held3 (fun W=>(W.cell? ⟨wo.heap.size,0,none⟩=some (.string n.name)∧W.cell? ⟨wo.heap.size,1,none⟩=some (.slice a.ai n.ins.length a.ci)∧W.cell? ⟨wo.heap.size,2,none⟩=some (.slice a.ao n.outs.length a.co)∧W.cell? ⟨wo.heap.size,3,none⟩=some (.slice a.av n.vars.length a.cv)∧W.cell? ⟨wo.heap.size,4,none⟩=some (.slice a.aq n.eqs.length a.cq)∧W.cell? ⟨wo.heap.size,5,none⟩=some (.int .i64 n.line)∧W.cell? ⟨wo.heap.size,6,none⟩=some (.int .i64 n.col))∧W.cell? ⟨wp.heap.size,0,none⟩=some (.slice (some ⟨bs,offs,none⟩) q.left.length k1)∧W.cell? ⟨bs,offs+j,none⟩=some (.string nm)) (first|(with_reducible exact HK.out _ (by repeat (first|(with_reducible assumption)|(with_reducible exact Below.refl _ _)|(with_reducible refine Below.drew ?_)|(with_reducible refine below_drewN' ?_ _)|(with_reducible refine Below.alloc ?_ (by first|assumption|omega|(simp;omega)|simp|(simp[World.setCell];omega)|simp[World.setCell]) _)|(with_reducible refine Below.setCell ?_ (by first|assumption|omega|(simp;omega)|simp|(simp[World.setCell];omega)|simp[World.setCell]) _))))|go_keep)
           (first
            |((go_at_call 113);(refine (HOY.out _ (by repeat (first|(with_reducible assumption)|(with_reducible exact Below.refl _ _)|(with_reducible refine Below.drew ?_)|(with_reducible refine below_drewN' ?_ _)|(with_reducible refine Below.alloc ?_ (by first|assumption|omega|(simp;omega)|simp|(simp[World.setCell];omega)|simp[World.setCell]) _)|(with_reducible refine Below.setCell ?_ (by first|assumption|omega|(simp;omega)|simp|(simp[World.setCell];omega)|simp[World.setCell]) _)))).mono ?_);rintro e w3 ⟨⟨v3,rfl,A4,cap4,rfl,l4,m4,s4⟩,hb3⟩;(have hb4:Below wr.heap.size wr w3:=Below.trans (by repeat (first|(with_reducible assumption)|(with_reducible exact Below.refl _ _)|(with_reducible refine Below.drew ?_)|(with_reducible refine below_drewN' ?_ _)|(with_reducible refine Below.alloc ?_ (by first|assumption|omega|(simp;omega)|simp|(simp[World.setCell];omega)|simp[World.setCell]) _)|(with_reducible refine Below.setCell ?_ (by first|assumption|omega|(simp;omega)|simp|(simp[World.setCell];omega)|simp[World.setCell]) _))) (hb3.mono (by first|exact Nat.le_refl _|simp|(simp;omega)|omega)));(have s4:=Lib.hid s4);clear hb3)
            |((go_at_call 114);(refine (by first|exact HE.out w3 A4 cap4 0 hb4 l4 m4 s4.out|exact HE.out w3 A4 cap4 1 hb4 l4 m4 s4.out:Calls _ _ _ _ _).mono ?_);rintro e w5 ⟨rfl,nn,rfl⟩))
          all_goals
           refine' zq46
         case rest=>
          obtain ⟨rfl,hbc2⟩:=hcut
          have re12:=re11.below hbc2 re11.lt
          have rf12:=rf11.below hbc2 rf11.lt
          have hB12:=hB11.trans (hbc2.mono hsB11)
          clear c0 c1 cc2 c3 c4 c5 c6 d0 d1 d2 d3 d4 d5 d6 d7 d8 HK f0
          obtain ⟨d0,d1,d2,d3,d4,d5,d6,d7,d8⟩:=re12.eqn
          cases P
          ·have hq:=cB_not.1 HPB.out
           have HF:Hid (clockF s=⟨30,q.line,q.col⟩):=by
            have e:=clkQF_bad (i:=p) (List.mem_of_getElem? HY.out) (fun g=>hq g.symm)
            exact (HQn.out (by rw[e];show (30:Int)≠0;decide)).trans e
           clear hq
           obtain ⟨⟨k0,k1',k2'⟩,g0,g1',g2'⟩:=rf12.three
           go_wp2_with fail
           exact bodyPost_ret (res1 rfl Tryz.underlying31 rfl (by kernel_rfl) rfl (rf12.set3 _ _ _)) rfl ⟨(congrArg (fun f=>Ending.returned (ftV f)) HF.out).symm,below_set3 hB12 (by first|omega|(simp;omega)|simp) _ _ _⟩
          ·have HJ':=Lib.hid (step_upto (P:=fun x=>clockOf n x=eqClk n q) HJ.out HY.out (cB_iff.1 HPB.out).symm)
           go_wp2_with fail
           go_roundw
           case rel=>exact ⟨j+1,by omega,by omega,by go_num,HJ',hbj.trans (hbc2.mono hszj)⟩
           case measure=>first|(simp[intOf];omega)|simp[intOf]
        ·obtain rfl:j=q.left.length:=by omega
         have HEQ:Hid (clkQF n p q=fitsP n q.right (eqClk n q)):=clkQF_ok (fun nm hm=>by
          obtain ⟨i,hi⟩:=List.getElem?_of_mem hm
          exact HJ.out i (List.getElem?_eq_some_iff.1 hi).1 nm hi)
         have hcl:(eqClk n q).length≤6:=clock_small HNS.out _
         have HR:=Lib.hid (rfits_any n a HNS.out q.right A2 k2 (eqClk n q) A0 x0 wr (HAW.out wr (b08.trans (b11.mono b08.size))) HOK.out lq2 mq2 (exs_keep (HS2.out wr b11) (fun _ _ _ h=>h) hsB11) (kn_known HKNn.out HQM.out) (by have:=HSQ.out.right.size;omega) l3 m3 (lits_keep HS3.out (keeps_of hbj) hszj))
         obtain ⟨f,HFX⟩:∃f,Hid (fitsP n q.right (eqClk n q)=f):=⟨_,rfl⟩
         rw[HFX.out] at HR HEQ
         go_wp2_with fail
         refine HR.out.mono ?_
         rintro r w12 ⟨rfl,hb12⟩
         have rf12:=rf11.below hb12 rf11.lt
         have hB12:=hB11.trans (hb12.mono hsB11)
         have hs12:=hb12.size
         have hsB12:=hB12.size
         have hl12:=rf12.lt
         by_cases hf:f.err=0
         ·have hf1:(f.err !=0)=false:=neq_no hf
          have HP':=Lib.hid (step_uptoI (P:=fun j x=>(clkQF n j x).err=0) HP.out HXK.out (by rw[HEQ.out];exact hf))
          have bz:Below w7.heap.size w7 (w12.alloc (.cells (ftC f) 31)):=((hbp.trans (b11.mono hszp)).trans (hb12.mono (by have:=b11.size;omega))).alloc (by have:=b11.size;omega) _
          clear hf
          go_wp2_with fail
          go_roundw
          case rel=>exact ⟨p+1,by omega,by go_num,HP',bz⟩
          case measure=>first|(simp[intOf];omega)|simp[intOf]
         ·have hf1:(f.err !=0)=true:=neq_yes hf
          have HF:Hid (clockF s=f):=(HQn.out (by rw[HEQ.out];exact hf)).trans HEQ.out
          clear hf
          obtain ⟨⟨k0,k1',k2'⟩,g0,g1',g2'⟩:=rf12.three
          go_wp2_with fail
          exact bodyPost_ret (res1 rfl Tryz.underlying31 rfl (by kernel_rfl) rfl ((rf12.set3 _ _ _).alloc _)) rfl ⟨(congrArg (fun f=>Ending.returned (ftV f)) HF.out).symm,(below_set3 hB12 (by first|omega|(simp;omega)|simp) _ _ _).alloc (by first|(simp[World.setCell];omega)|simp[World.setCell]) _⟩
     ·obtain rfl:p=n.eqs.length:=by omega
      have HN':=Lib.hid (step_uptoI (P:=fun j x=>(clkNF j x).err=0) HN.out HX.out (by rw[HNF2.out,fstL_end HP.out]))
      go_wp2_with fail
      go_roundw
      case rel=>exact ⟨k+1,by omega,by go_num,HN',hbr.trans ((b07.trans (hbp.mono b07.size)).mono hszr)⟩
      case measure=>first|(simp[intOf];omega)|simp[intOf]
end Go.Proofs.YtgjfkidbfmbjoaaGreat
