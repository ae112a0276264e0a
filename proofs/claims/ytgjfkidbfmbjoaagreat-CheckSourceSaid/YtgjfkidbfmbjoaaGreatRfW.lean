/-
  Types by the document: the contracts of tompionref16.node and Check.
-/
import Derived.Test.YtgjfkidbfmbjoaaGreatZz
import Derived.Test.YtgjfkidbfmbjoaaGreatRfUz
set_option maxHeartbeats 4000000
set_option maxRecDepth 100000
namespace Go.Proofs.YtgjfkidbfmbjoaaGreat
open Go.RowKit
attribute [local go_sem ↓] Go.wp_at_zero Go.wp_at_succ
theorem clkT_get {n:Nd} {v:Vr} {j:Nat} {c:Lt} (h:v.clock[j]? =some c):(clkTs n v)[j]? =some (needF (tyOf n c.name==2) v.line v.col):=by unfold clkTs;rw[List.getElem?_map,h];rfl
theorem left_get {s:List Nd} {n:Nd} {q:Eqn} {j:Nat} {nm:ByteArray} {ck:Int} (h:q.left[j]? =some nm) (hc:(comeOf s n q)[j]? =some ck):(leftTs s n q)[j]? =some (needF (tyOf n nm==ck) q.line q.col):=by
 unfold leftTs
 rw[List.getElem?_mapIdx,h]
 simp[List.getD,hc]
theorem rnode16_any (s:List Nd) (A:Option Addr) (cap:Nat) (n:Nd) (a:NdA) (w:World) (h1:s.length≤cap) (h2:cap≤maxLen) (hz:(scopeF s).err=0) (hnm:n∈s) (hl:(vrs n).length≤10000) (hs:Nds w w.heap.size A s) (hn:NdAt w w.heap.size n a):
  Calls Tryz.prog 109 #[srcV s A cap,ndV n a] w fun r w'=>r= .returned (ftV (nodeTF s n))∧Below w.heap.size w w':=by
 refine' zq61
 have b1:Below w.heap.size w (((w.alloc (.cells #[.slice A s.length cap] 24)).alloc (.cells (ndArr n a) 39)).alloc (.cells ftC0 31)):=(by repeat (first|(with_reducible assumption)|(with_reducible exact Below.refl _ _)|(with_reducible refine Below.drew ?_)|(with_reducible refine below_drewN' ?_ _)|(with_reducible refine Below.alloc ?_ (by first|assumption|omega|(simp;omega)|simp|(simp[World.setCell];omega)|simp[World.setCell]) _)|(with_reducible refine Below.setCell ?_ (by first|assumption|omega|(simp;omega)|simp|(simp[World.setCell];omega)|simp[World.setCell]) _)))
 refine' zq83
 have HL:=Lib.hid hl
 have HZ:=Lib.hid hz
 have HNM:=Lib.hid hnm
 have HKN:=Lib.hid (scope_kn hz n hnm)
 have gv:=hn.mv
 have gq:=hn.mq
 have lv:=hn.lv
 have lq:=hn.lq
 refine' zq30
 refine' zq80
 have HNF:Hid (nodeTF s n=ft2 (fstL (fun _ v=>clkTF n v) n.vars) (fstL (fun _ q=>eqnTF s n q) n.eqs)):=by show _=_;rw[fstL_map,fstL_map];rfl
 clear hs hn hl hz hnm
 go_enter Tryz.func109,Tryz.ntmps109
 refine' zq119
 go_wp2_with fail
 go_loopw[5] (fun i wr=>∃p:Nat,p≤n.vars.length∧i= .int .i64 p∧Hid (∀j,j<p→∀x,n.vars[j]? =some x→(clkTF n x).err=0)∧Below W1.heap.size W1 wr) (fun i _=>n.vars.length-(intOf i).toNat)
 case atStart=>exact ⟨0,Nat.zero_le _,rfl,fun j h=>absurd h (by omega),Below.refl _ _⟩
 case round=>
  obtain ⟨p,hp,rfl,HP,hbr⟩:=hrel
  have hszr:=hbr.size
  have rs2:=rs1.below hbr rs1.lt
  have rn2:=rn1.below hbr rn1.lt
  have rf2:=rf1.below hbr rf1.lt
  have hB2:=b1.trans (hbr.mono hs1)
  have hs2:=hB2.size
  obtain ⟨c0,c1,cc2,c3,c4,c5,c6⟩:=rn2.nd
  by_cases hlp:p<n.vars.length
  ·obtain ⟨b',off',x,A',cap',hA,hb',hx,ok,g1,g2,hxs,d0,d1,d2,d3,d4⟩:=(HN.out wr hB2).sv.vr hlp
   have HXK:=Lib.hid hx
   have hxm:=List.mem_of_getElem? hx
   have HCN:=Lib.hid (HKN.out.conds x hxm)
   have HXS:Hid (∀W,Below wr.heap.size wr W→Sl W w.heap.size 2 isLit A' x.clock):=fun W hW=>lits_keep hxs (keeps_of (hW.mono hs2)) (Nat.le_refl _)
   have HA:=Lib.hid hA
   rw[hA] at c3
   refine' zq205
   have j0:(0:Int)≤(p:Int):=by omega
   have j1:(p:Int)<(n.vars.length:Int):=by omega
   have HXF:Hid (clkTF n x=fstl (clkTs n x)):=rfl
   obtain ⟨w2,rfl⟩:∃w2:World,w2=wr:=⟨_,rfl⟩
   clear hA hx hxs ok hxm
   refine' zq121
   go_loopw[6] (fun i wr=>∃j:Nat,j≤x.clock.length∧i= .int .i64 j∧Hid (∀i,i<j→∀g,(clkTs n x)[i]? =some g→g.err=0)∧Below w2.heap.size w2 wr) (fun i _=>x.clock.length-(intOf i).toNat)
   case atStart=>exact ⟨0,Nat.zero_le _,rfl,fun j h=>absurd h (by omega),Below.refl _ _⟩
   case round=>
    obtain ⟨j,hj,rfl,HJ,hbq⟩:=hrel
    have hszq:=hbq.size
    have rn3:=rn2.below hbq rn2.lt
    have rf3:=rf2.below hbq rf2.lt
    have hB3:=hB2.trans (hbq.mono hs2)
    have hs3:=hB3.size
    have e2:=old_cell hbq d2
    have e3:=old_cell hbq d3
    have e4:=old_cell hbq d4
    obtain ⟨c0,c1,cc2,c3,c4,c5,c6⟩:=rn3.nd
    rw[HA.out] at c3
    by_cases hlj:j<x.clock.length
    ·obtain ⟨b3,off3,c,hA3,hb3,hc,hcn,f0,f1⟩:=(HXS.out wr hbq).lit hlj
     rw[hA3] at e2
     have HCG:=Lib.hid (clkT_get (n:=n) hc)
     have hcm:=HCN.out c (List.mem_of_getElem? hc)
     have HNW:Hid (∀W,Below wr.heap.size wr W→Calls Tryz.prog 187 #[.agg #[.string n.name,.slice a.ai n.ins.length a.ci,.slice a.ao n.outs.length a.co,.slice (some ⟨b',off',none⟩) n.vars.length a.cv,.slice a.aq n.eqs.length a.cq,.int .i64 n.line,.int .i64 n.col],.string c.name] W fun r w'=>r= .returned (.int .i64 (tyOf n c.name))∧Below W.heap.size W w'):=fun W hW=>by
      rw[←HA.out]
      exact rty_any n a c.name W ((HN.out W (hB3.trans (hW.mono hs3))).more (Below.size (hB3.trans (hW.mono hs3)))) HL.out hcm
     obtain ⟨ty,HTY⟩:∃ty,Hid (tyOf n c.name=ty):=⟨_,rfl⟩
     rw[HTY.out] at HNW
     rw[HTY.out] at HCG
     have k0:(0:Int)≤(j:Int):=by omega
     have k1:(j:Int)<(x.clock.length:Int):=by omega
     obtain ⟨bb,HBB⟩:∃bb,Hid ((ty !=2)=bb):=⟨_,rfl⟩
     have hbb:(ty !=2)=bb:=HBB.out
     clear hA3 hc hcm
     go_upto_region 7 with (fail)
     have HK:Hid (∀W,Below wr.heap.size wr W→(W.cell? ⟨w.heap.size+1,0,none⟩=some (.string n.name)∧W.cell? ⟨w.heap.size+1,1,none⟩=some (.slice a.ai n.ins.length a.ci)∧W.cell? ⟨w.heap.size+1,2,none⟩=some (.slice a.ao n.outs.length a.co)∧W.cell? ⟨w.heap.size+1,3,none⟩=some (.slice (some ⟨b',off',none⟩) n.vars.length a.cv)∧W.cell? ⟨w.heap.size+1,4,none⟩=some (.slice a.aq n.eqs.length a.cq)∧W.cell? ⟨w.heap.size+1,5,none⟩=some (.int .i64 n.line)∧W.cell? ⟨w.heap.size+1,6,none⟩=some (.int .i64 n.col))∧W.cell? ⟨b',off'+p*5+2,none⟩=some (.slice (some ⟨b3,off3,none⟩) x.clock.length cap')∧W.cell? ⟨b3,off3+j*2,none⟩=some (.string c.name)):=fun W hW=>⟨⟨old_cell hW c0,old_cell hW c1,old_cell hW cc2,old_cell hW c3,old_cell hW c4,old_cell hW c5,old_cell hW c6⟩,old_cell hW e2,old_cell hW f0⟩
     go_cut[42] (fun v42 W=>v42= .bool bb∧Below wr.heap.size wr W)
     case first=>
      go_region_held3 (fun W=>(W.cell? ⟨w.heap.size+1,0,none⟩=some (.string n.name)∧W.cell? ⟨w.heap.size+1,1,none⟩=some (.slice a.ai n.ins.length a.ci)∧W.cell? ⟨w.heap.size+1,2,none⟩=some (.slice a.ao n.outs.length a.co)∧W.cell? ⟨w.heap.size+1,3,none⟩=some (.slice (some ⟨b',off',none⟩) n.vars.length a.cv)∧W.cell? ⟨w.heap.size+1,4,none⟩=some (.slice a.aq n.eqs.length a.cq)∧W.cell? ⟨w.heap.size+1,5,none⟩=some (.int .i64 n.line)∧W.cell? ⟨w.heap.size+1,6,none⟩=some (.int .i64 n.col))∧W.cell? ⟨b',off'+p*5+2,none⟩=some (.slice (some ⟨b3,off3,none⟩) x.clock.length cap')∧W.cell? ⟨b3,off3+j*2,none⟩=some (.string c.name)) (first|(with_reducible exact HK.out _ (by repeat (first|(with_reducible assumption)|(with_reducible exact Below.refl _ _)|(with_reducible refine Below.drew ?_)|(with_reducible refine below_drewN' ?_ _)|(with_reducible refine Below.alloc ?_ (by first|assumption|omega|(simp;omega)|simp|(simp[World.setCell];omega)|simp[World.setCell]) _)|(with_reducible refine Below.setCell ?_ (by first|assumption|omega|(simp;omega)|simp|(simp[World.setCell];omega)|simp[World.setCell]) _))))|go_keep)
       (first|((go_at_call 187);(refine (HNW.out _ (by repeat (first|(with_reducible assumption)|(with_reducible exact Below.refl _ _)|(with_reducible refine Below.drew ?_)|(with_reducible refine below_drewN' ?_ _)|(with_reducible refine Below.alloc ?_ (by first|assumption|omega|(simp;omega)|simp|(simp[World.setCell];omega)|simp[World.setCell]) _)|(with_reducible refine Below.setCell ?_ (by first|assumption|omega|(simp;omega)|simp|(simp[World.setCell];omega)|simp[World.setCell]) _)))).mono ?_);rintro e w3 ⟨rfl,hb3⟩;(have hb4:Below wr.heap.size wr w3:=Below.trans (by repeat (first|(with_reducible assumption)|(with_reducible exact Below.refl _ _)|(with_reducible refine Below.drew ?_)|(with_reducible refine below_drewN' ?_ _)|(with_reducible refine Below.alloc ?_ (by first|assumption|omega|(simp;omega)|simp|(simp[World.setCell];omega)|simp[World.setCell]) _)|(with_reducible refine Below.setCell ?_ (by first|assumption|omega|(simp;omega)|simp|(simp[World.setCell];omega)|simp[World.setCell]) _))) (hb3.mono (by first|exact Nat.le_refl _|omega|(simp;omega)|simp)));(have hs4:=hb4.size)))
      all_goals
       refine' zq99
     case rest=>
      obtain ⟨rfl,hbc⟩:=hcut
      have rf4:=rf3.below hbc rf3.lt
      have hB4:=hB3.trans (hbc.mono hs3)
      have m3:=old_cell hbc e3
      have m4:=old_cell hbc e4
      have n3:=old_cell hbc c3
      clear c0 c1 cc2 c3 c4 c5 c6 e2 e3 e4 f0 f1 HK hbb
      by_cases ht:ty=2
      ·obtain rfl:bb=false:=by rw[←HBB.out];exact neq_no ht
       have HJ':=Lib.hid (fs_step HJ.out HCG.out (by rw[eq_beq ht];rfl))
       clear ht
       go_wp2_with fail
       go_roundw
       case rel=>exact ⟨j+1,by omega,by go_num,HJ',hbq.trans (hbc.mono hszq)⟩
       case measure=>first|(simp[intOf];omega)|simp[intOf]
      ·obtain rfl:bb=true:=by rw[←HBB.out];exact neq_yes ht
       have HF:Hid (nodeTF s n=⟨28,x.line,x.col⟩):=by
        have h3:needF (ty==2) x.line x.col=⟨28,x.line,x.col⟩:=need_ne (ne_beq ht)
        have h4:clkTF n x=⟨28,x.line,x.col⟩:=by rw[HXF.out,fs_stop HJ.out HCG.out (by rw[h3];exact n28 _ _),h3]
        have h5:=fstL_stop (f:=fun _ v=>clkTF n v) HP.out HXK.out (by show (clkTF n x).err≠0;rw[h4];exact n28 _ _)
        show _=_
        rw[HNF.out,h5]
        show ft2 (clkTF n x) _=_
        rw[h4]
        exact ft2_1 (n28 _ _)
       clear ht
       obtain ⟨⟨y0,y1,y2⟩,g0,g1',g2'⟩:=rf4.three
       refine' zq75
       have rf9:=rf4.below q9 rf4.lt
       have b9:=Below.trans hB4 (q9.mono (Below.size hB4))
       refine' zq5
    ·obtain rfl:j=x.clock.length:=by omega
     have HP':=Lib.hid (step_uptoI (P:=fun _ x=>(clkTF n x).err=0) HP.out HXK.out (by rw[HXF.out,fs_end (fun j hj=>HJ.out j (by unfold clkTs at hj;rw[List.length_map] at hj;exact hj))]))
     go_wp2_with fail
     go_roundw
     case rel=>exact ⟨p+1,by omega,by go_num,HP',hbr.trans (hbq.mono hszr)⟩
     case measure=>first|(simp[intOf];omega)|simp[intOf]
  ·obtain rfl:p=n.vars.length:=by omega
   have HNF2:Hid (nodeTF s n=fstL (fun _ q=>eqnTF s n q) n.eqs):=by show _=_;rw[HNF.out,fstL_end HP.out];exact ft2_l _
   clear HP HNF
   obtain ⟨w2,rfl⟩:∃w2:World,w2=wr:=⟨_,rfl⟩
   refine' zq121
   go_loopw[7] (fun i wr=>∃p:Nat,p≤n.eqs.length∧i= .int .i64 p∧Hid (∀j,j<p→∀x,n.eqs[j]? =some x→(eqnTF s n x).err=0)∧Below w2.heap.size w2 wr) (fun i _=>n.eqs.length-(intOf i).toNat)
   case atStart=>exact ⟨0,Nat.zero_le _,rfl,fun j h=>absurd h (by omega),Below.refl _ _⟩
   case round=>
    refine' zq265
    have rs3:=rs2.below hbq rs2.lt
    have rn3:=rn2.below hbq rn2.lt
    have rf3:=rf2.below hbq rf2.lt
    have hB3:=hB2.trans (hbq.mono hs2)
    have hs3:=hB3.size
    obtain ⟨c0,c1,cc2,c3,c4,c5,c6⟩:=rn3.nd
    by_cases hlp:p<n.eqs.length
    ·obtain ⟨b',off',q,A1,k1,A2,k2,hA,hb',hq,ok,lq1,mq1,sl1,lq2,mq2,sl2,d0,d1,d2,d3,d4,d5,d6,d7,d8⟩:=(HN.out wr hB3).sq.eqn hlp
     have HA:=Lib.hid hA
     rw[hA] at c4
     have HXK:=Lib.hid hq
     have hqm:=List.mem_of_getElem? hq
     have HOK:=Lib.hid ok.right
     have HRT:=Lib.hid (HKN.out.rt.1 q hqm)
     have HLN:=Lib.hid (HKN.out.lefts q hqm)
     have HTK:=Lib.hid (tykn_of HZ.out HNM.out hqm)
     have HCL:=Lib.hid (come_len HZ.out HNM.out hqm)
     have HS1:Hid (∀W,Below wr.heap.size wr W→Sl W w.heap.size 1 isStr A1 q.left):=fun W hW=>strs_keep sl1 (keeps_of (hW.mono hs3)) (Nat.le_refl _)
     have HS2:Hid (∀W,Below wr.heap.size wr W→IsExs W w.heap.size A2 q.right.args):=fun W hW=>exs_keep sl2 (keeps_of (hW.mono hs3)) (Nat.le_refl _)
     refine' zq148
     have HQF:Hid (eqnTF s n q=ft2 (tyF s n q.right) (fstl (leftTs s n q))):=rfl
     have HQn:Hid ((eqnTF s n q).err≠0→nodeTF s n=eqnTF s n q):=fun g=>by
      rw[HNF2.out,fstL_stop (f:=fun _ q=>eqnTF s n q) HP.out HXK.out g]
     have re3:=Row.new wr (eqArr q A1 k1 A2 k2) 81
     refine' zq35
     have j0:(0:Int)≤(p:Int):=by omega
     have j1:(p:Int)<(n.eqs.length:Int):=by omega
     have HRE:Hid (∀W,Below wr.heap.size wr W→Calls Tryz.prog 189 #[srcV s A cap,ndV n a,exV q.right A2 k2] W (ExprR s n q.right W)):=fun W hW=>by
      have hWB:=hB3.trans (hW.mono hs3)
      exact rtyx_any s A cap n a h1 h2 HL.out q.right A2 k2 W (nds_keep (HS.out W hWB) (fun _ _ _ h=>h) hWB.size) ((HN.out W hWB).more hWB.size) HOK.out lq2 mq2 ((HS2.out W hW).more hWB.size) HTK.out
     clear hA hq ok sl1 sl2 hqm
     go_upto_region 13 with (fail)
     clear d0 d1 d2 d3 d4 d5 d6 d7 d8 c0 c1 cc2 c3 c4 c5 c6
     generalize hW4:wr.alloc (.cells (eqArr q A1 k1 A2 k2) 81)=w4 at*
     clear hW4
     have rs4:=rs3.below bq rs3.lt
     have rn4:=rn3.below bq rn3.lt
     have rf4:=rf3.below bq rf3.lt
     have hB4:=hB3.trans (bq.mono hs3)
     have hs4:=hB4.size
     refine' zq118
     have c0s:=rs4.src
     obtain ⟨c0,c1,cc2,c3,c4,c5,c6⟩:=rn4.nd
     obtain ⟨z0,z1,z2,z3,z4,z5,z6,z7,z8⟩:=re3.eqn
     obtain ⟨f,HFX⟩:∃f,Hid (tyF s n q.right=f):=⟨_,rfl⟩
     have HRW:Hid (Calls Tryz.prog 189 #[srcV s A cap,ndV n a,exV q.right A2 k2] w4 fun r w'=>(∃k:Int,r= .returned (.tuple #[.int .i64 k,ftV f])∧Hid (f.err=0→k=tyK s n q.right))∧Below w4.heap.size w4 w'):=by
      rw[←HFX.out]
      exact (HRE.out w4 bq).mono fun r w' h=>by obtain ⟨⟨kk,e1,h1⟩,h2⟩:=h;exact ⟨⟨kk,e1,h1.out.1⟩,h2⟩
     go_wp2_with fail
     refine HRW.out.mono ?_
     rintro r w5 ⟨⟨kk,rfl,HKK⟩,hb5⟩
     have rs5:=rs4.below hb5 rs4.lt
     have rn5:=rn4.below hb5 rn4.lt
     have rf5:=rf4.below hb5 rf4.lt
     have re5:=re3.below hb5 re3.lt
     have hB5:=hB4.trans (hb5.mono hs4)
     have hs5:=hB5.size
     have b05:=bq.trans (hb5.mono bq.size)
     clear c0s c0 c1 cc2 c3 c4 c5 c6 z0 z1 z2 z3 z4 z5 z6 z7 z8
     have hl5:=rf5.lt
     have hl5':w.heap.size+1+1<w5.heap.size:=hl5
     by_cases hf:f.err=0
     rotate_left 1
     ·have hf1:(f.err !=0)=true:=neq_yes hf
      have HF:Hid (nodeTF s n=f):=by
       have h4:eqnTF s n q=f:=by rw[HQF.out,HFX.out];exact ft2_1 hf
       exact (HQn.out (by rw[h4];exact hf)).trans h4
      clear hf
      obtain ⟨⟨y0,y1,y2⟩,g0,g1',g2'⟩:=rf5.three
      refine' zq141
     have hf1:(f.err !=0)=false:=neq_no hf
     have HQF2:Hid (eqnTF s n q=fstl (leftTs s n q)):=by show _=_;rw[HQF.out,HFX.out];exact ft2_0 hf
     have HK0:Hid (kk=tyK s n q.right):=HKK.out hf
     clear hf
     have bf:Below w5.heap.size w5 (w5.alloc (.cells (ftC f) 31)):=(by repeat (first|(with_reducible assumption)|(with_reducible exact Below.refl _ _)|(with_reducible refine Below.drew ?_)|(with_reducible refine below_drewN' ?_ _)|(with_reducible refine Below.alloc ?_ (by first|assumption|omega|(simp;omega)|simp|(simp[World.setCell];omega)|simp[World.setCell]) _)|(with_reducible refine Below.setCell ?_ (by first|assumption|omega|(simp;omega)|simp|(simp[World.setCell];omega)|simp[World.setCell]) _)))
     go_upto_region 16 with (fail)
     generalize hW6:w5.alloc (.cells (ftC f) 31)=w6 at*
     clear hW6
     have rs6:=rs5.below bf rs5.lt
     have rn6:=rn5.below bf rn5.lt
     have rf6:=rf5.below bf rf5.lt
     have re6:=re5.below bf re5.lt
     have hB6:=hB5.trans (bf.mono hs5)
     have hs6:=hB6.size
     have b06:=b05.trans (bf.mono b05.size)
     obtain ⟨z0,z1,z2,z3,z4,z5,z6,z7,z8⟩:=re6.eqn
     go_wp2_with fail
     clear z0 z1 z2 z3 z4 z5 z6 z7 z8
     go_loopw[9,11] (fun v i wr=>∃(j:Nat) (kd:Int),j≤q.left.length∧v= .int .i64 kd∧i= .int .i64 j∧Hid (q.right.op≠4→kd=tyK s n q.right)∧Hid (∀i,i<j→∀g,(leftTs s n q)[i]? =some g→g.err=0)∧Below w6.heap.size w6 wr) (fun _ i _=>q.left.length-(intOf i).toNat)
     case atStart=>exact ⟨0,kk,Nat.zero_le _,rfl,rfl,fun _=>HK0.out,fun j h=>absurd h (by omega),Below.refl _ _⟩
     case round=>
      obtain ⟨j,kd,hj,rfl,rfl,HKD,HJ,hbj⟩:=hrel
      have rs7:=rs6.below hbj rs6.lt
      have rn7:=rn6.below hbj rn6.lt
      have rf7:=rf6.below hbj rf6.lt
      have re7:=re6.below hbj re6.lt
      have hB7:=hB6.trans (hbj.mono hs6)
      have hs7:=hB7.size
      have b07:=b06.trans (hbj.mono b06.size)
      obtain ⟨z0,z1,z2,z3,z4,z5,z6,z7,z8⟩:=re7.eqn
      by_cases hlj:j<q.left.length
      ·obtain ⟨b3,off3,nm,hA3,hb3,hnk,hnsz,f0⟩:=(HS1.out wr b07).str hlj
       have HA3:=Lib.hid hA3
       obtain ⟨ck,hck⟩:∃ck,(comeOf s n q)[j]? =some ck:=⟨_,List.getElem?_eq_getElem (by rw[HCL.out.1];exact hlj)⟩
       have HLG:=Lib.hid (left_get hnk hck)
       have HCK:=Lib.hid hck
       have hnv:=HLN.out nm (List.mem_of_getElem? hnk)
       have HNV:=Lib.hid hnv
       clear hA3 hnk hck hnv
       go_upto_if 84 with (fail)
       go_cut[9] (fun v9 W=>v9= .int .i64 ck∧Below wr.heap.size wr W)
       case first=>
        by_cases h4:q.right.op=4
        ·have o4:=eq_yes h4
         obtain ⟨m,hm4,hlen4,hout4⟩:=HTK.out.own.call h4
         have HCM:Hid (comeOf s n q=m.outs.map Vr.ty):=by show _=_;unfold comeOf;rw[if_pos h4,hm4]
         have hoj:∃x:Vr,m.outs[j]? =some x∧x.ty=ck:=by
          have h5:=HCK.out
          rw[HCM.out,List.getElem?_map,Option.map_eq_some_iff] at h5
          exact h5
         obtain ⟨xo,hxo,hxt⟩:=hoj
         obtain ⟨k,m',hki,hkm,hme,hma⟩|⟨hki,hma⟩:=node_cases s q.right.name
         rotate_left 1
         ·rw[hma] at hm4;cases hm4
         obtain rfl:m'=m:=Option.some.inj (hma.symm.trans hm4)
         have hkl:=(List.getElem?_eq_some_iff.1 hkm).1
         obtain ⟨b,off,m2,am,hA,hb,hm2',hmat,d0,d1,d2,d3,d4,d5,d6⟩:=(HS.out wr hB7).nd hkl
         obtain rfl:m'=m2:=Option.some.inj (hkm.symm.trans hm2')
         subst hA
         obtain ⟨b4,off4,x4,A4,cap4,hA4,hb4,hx4,ok4,g14,g24,hxs4,v0,v1,v2,v3,v4⟩:=hmat.so.vr (List.getElem?_eq_some_iff.1 hxo).1
         obtain rfl:xo=x4:=Option.some.inj (hxo.symm.trans hx4)
         rw[hA4] at d2
         have HC:Hid (∀W,Below wr.heap.size wr W→Calls Tryz.prog 61 #[srcV s (some ⟨b,off,none⟩) cap,.string q.right.name] W fun r w'=>r= .returned (.int .i64 (k:Int))∧Below W.heap.size W w'):=fun W hW=>by
          have hWB:=hB7.trans (hW.mono hs7)
          have h3:=rnode_any s (some ⟨b,off,none⟩) cap q.right.name W h1 h2 (nds_keep (HS.out W hWB) (fun _ _ _ h=>h) hWB.size)
          rw[hki] at h3
          exact h3
         refine' zq69
         have i2:(0:Int)≤(j:Int):=by omega
         have i3:(j:Int)<(m'.outs.length:Int):=by have:=(List.getElem?_eq_some_iff.1 hxo).1;omega
         have go4:=hmat.mo
         have go4':am.co≤9223372036854775807:=by unfold maxLen at go4;omega
         have c0s:=rs7.src
         have HXT:=Lib.hid hxt
         clear h4 hm4 hlen4 hout4 hxo hxt hki hkm hme hma hkl hm2' hmat hA4 hx4 ok4 hxs4 d0 d1 d3 d4 d5 d6 v0 v2 v3 v4
         go_wp2_with fail
         go_region_held3 (fun W=>W.cell? ⟨w.heap.size,0,none⟩=some (.slice (some ⟨b,off,none⟩) s.length cap)∧W.cell? ⟨wo.heap.size,2,none⟩=some (.string q.right.name)∧W.cell? ⟨b,off+k*7+2,none⟩=some (.slice (some ⟨b4,off4,none⟩) m'.outs.length am.co)∧W.cell? ⟨b4,off4+j*5+1,none⟩=some (.int .i64 xo.ty)) (first|(with_reducible exact (fun W (hW:Below wr.heap.size wr W)=>(⟨old_cell hW c0s,old_cell hW z2,old_cell hW d2,old_cell hW v1⟩:_∧_∧_∧_)) _ (by repeat (first|(with_reducible assumption)|(with_reducible exact Below.refl _ _)|(with_reducible refine Below.drew ?_)|(with_reducible refine below_drewN' ?_ _)|(with_reducible refine Below.alloc ?_ (by first|assumption|omega|(simp;omega)|simp|(simp[World.setCell];omega)|simp[World.setCell]) _)|(with_reducible refine Below.setCell ?_ (by first|assumption|omega|(simp;omega)|simp|(simp[World.setCell];omega)|simp[World.setCell]) _))))|go_keep)
          (first|((go_at_call 61);(refine (HC.out _ (by repeat (first|(with_reducible assumption)|(with_reducible exact Below.refl _ _)|(with_reducible refine Below.drew ?_)|(with_reducible refine below_drewN' ?_ _)|(with_reducible refine Below.alloc ?_ (by first|assumption|omega|(simp;omega)|simp|(simp[World.setCell];omega)|simp[World.setCell]) _)|(with_reducible refine Below.setCell ?_ (by first|assumption|omega|(simp;omega)|simp|(simp[World.setCell];omega)|simp[World.setCell]) _)))).mono ?_);rintro e w8 ⟨rfl,hb8⟩;(have hb9:Below wr.heap.size wr w8:=Below.trans (by repeat (first|(with_reducible assumption)|(with_reducible exact Below.refl _ _)|(with_reducible refine Below.drew ?_)|(with_reducible refine below_drewN' ?_ _)|(with_reducible refine Below.alloc ?_ (by first|assumption|omega|(simp;omega)|simp|(simp[World.setCell];omega)|simp[World.setCell]) _)|(with_reducible refine Below.setCell ?_ (by first|assumption|omega|(simp;omega)|simp|(simp[World.setCell];omega)|simp[World.setCell]) _))) (hb8.mono (by first|exact Nat.le_refl _|omega|(simp;omega)|simp)));(have hs9:=hb9.size)))
         all_goals
          go_wp2_with fail
          go_meet
          exact ⟨by rw[HXT.out],(by repeat (first|(with_reducible assumption)|(with_reducible exact Below.refl _ _)|(with_reducible refine Below.drew ?_)|(with_reducible refine below_drewN' ?_ _)|(with_reducible refine Below.alloc ?_ (by first|assumption|omega|(simp;omega)|simp|(simp[World.setCell];omega)|simp[World.setCell]) _)|(with_reducible refine Below.setCell ?_ (by first|assumption|omega|(simp;omega)|simp|(simp[World.setCell];omega)|simp[World.setCell]) _)))⟩
        ·have o4:=eq_no h4
         have HCM:Hid (comeOf s n q=[tyK s n q.right]):=if_neg h4
         have hkd:kd=ck:=by
          have h5:=HCK.out
          have h6:=HCL.out.1
          rw[HCM.out] at h5 h6
          have h7:j=0:=by simp at h6;omega
          subst h7
          rw[HKD.out h4]
          simpa using h5
         subst hkd
         clear h4
         go_wp2_with fail
         go_meet
         exact ⟨rfl,Below.refl _ _⟩
       case rest=>
        obtain ⟨rfl,hbc⟩:=hcut
        obtain ⟨w8,rfl⟩:∃w8:World,w8=wc:=⟨_,rfl⟩
        have rn8:=rn7.below hbc rn7.lt
        have rf8:=rf7.below hbc rf7.lt
        have re8:=re7.below hbc re7.lt
        have hB8:=hB7.trans (hbc.mono hs7)
        have hs8:=hB8.size
        have b08:=b07.trans (hbc.mono b07.size)
        have hbj8:=hbj.trans (hbc.mono hbj.size)
        have f08:=old_cell hbc f0
        clear z0 z1 z2 z3 z4 z5 z6 z7 z8 f0
        obtain ⟨z0,z1,z2,z3,z4,z5,z6,z7,z8⟩:=re8.eqn
        obtain ⟨c0,c1,cc2,c3,c4,c5,c6⟩:=rn8.nd
        rw[HA3.out] at z0
        have HNW:Hid (∀W,Below w8.heap.size w8 W→Calls Tryz.prog 187 #[ndV n a,.string nm] W fun r w'=>r= .returned (.int .i64 (tyOf n nm))∧Below W.heap.size W w'):=fun W hW=>
         rty_any n a nm W ((HN.out W (hB8.trans (hW.mono hs8))).more (Below.size (hB8.trans (hW.mono hs8)))) HL.out HNV.out
        obtain ⟨ty,HTY⟩:∃ty,Hid (tyOf n nm=ty):=⟨_,rfl⟩
        rw[HTY.out] at HNW
        rw[HTY.out] at HLG
        have k0:(0:Int)≤(j:Int):=by omega
        have k1':(j:Int)<(q.left.length:Int):=by omega
        obtain ⟨bb,HBB⟩:∃bb,Hid ((ty !=ck)=bb):=⟨_,rfl⟩
        have hbb:(ty !=ck)=bb:=HBB.out
        go_upto_region 21 with (fail)
        have HK:Hid (∀W,Below w8.heap.size w8 W→(W.cell? ⟨w.heap.size+1,0,none⟩=some (.string n.name)∧W.cell? ⟨w.heap.size+1,1,none⟩=some (.slice a.ai n.ins.length a.ci)∧W.cell? ⟨w.heap.size+1,2,none⟩=some (.slice a.ao n.outs.length a.co)∧W.cell? ⟨w.heap.size+1,3,none⟩=some (.slice a.av n.vars.length a.cv)∧W.cell? ⟨w.heap.size+1,4,none⟩=some (.slice a.aq n.eqs.length a.cq)∧W.cell? ⟨w.heap.size+1,5,none⟩=some (.int .i64 n.line)∧W.cell? ⟨w.heap.size+1,6,none⟩=some (.int .i64 n.col))∧W.cell? ⟨wo.heap.size,0,none⟩=some (.slice (some ⟨b3,off3,none⟩) q.left.length k1)∧W.cell? ⟨b3,off3+j,none⟩=some (.string nm)):=fun W hW=>⟨(rn8.below hW rn8.lt).nd,old_cell hW z0,old_cell hW f08⟩
        go_cut[107] (fun v107 W=>v107= .bool bb∧Below w8.heap.size w8 W)
        case first=>
         go_region_held3 (fun W=>(W.cell? ⟨w.heap.size+1,0,none⟩=some (.string n.name)∧W.cell? ⟨w.heap.size+1,1,none⟩=some (.slice a.ai n.ins.length a.ci)∧W.cell? ⟨w.heap.size+1,2,none⟩=some (.slice a.ao n.outs.length a.co)∧W.cell? ⟨w.heap.size+1,3,none⟩=some (.slice a.av n.vars.length a.cv)∧W.cell? ⟨w.heap.size+1,4,none⟩=some (.slice a.aq n.eqs.length a.cq)∧W.cell? ⟨w.heap.size+1,5,none⟩=some (.int .i64 n.line)∧W.cell? ⟨w.heap.size+1,6,none⟩=some (.int .i64 n.col))∧W.cell? ⟨wo.heap.size,0,none⟩=some (.slice (some ⟨b3,off3,none⟩) q.left.length k1)∧W.cell? ⟨b3,off3+j,none⟩=some (.string nm)) (first|(with_reducible exact HK.out _ (by repeat (first|(with_reducible assumption)|(with_reducible exact Below.refl _ _)|(with_reducible refine Below.drew ?_)|(with_reducible refine below_drewN' ?_ _)|(with_reducible refine Below.alloc ?_ (by first|assumption|omega|(simp;omega)|simp|(simp[World.setCell];omega)|simp[World.setCell]) _)|(with_reducible refine Below.setCell ?_ (by first|assumption|omega|(simp;omega)|simp|(simp[World.setCell];omega)|simp[World.setCell]) _))))|go_keep)
          (first|((go_at_call 187);(refine (HNW.out _ (by repeat (first|(with_reducible assumption)|(with_reducible exact Below.refl _ _)|(with_reducible refine Below.drew ?_)|(with_reducible refine below_drewN' ?_ _)|(with_reducible refine Below.alloc ?_ (by first|assumption|omega|(simp;omega)|simp|(simp[World.setCell];omega)|simp[World.setCell]) _)|(with_reducible refine Below.setCell ?_ (by first|assumption|omega|(simp;omega)|simp|(simp[World.setCell];omega)|simp[World.setCell]) _)))).mono ?_);rintro e w3 ⟨rfl,hb3⟩;(have hb4:Below w8.heap.size w8 w3:=Below.trans (by repeat (first|(with_reducible assumption)|(with_reducible exact Below.refl _ _)|(with_reducible refine Below.drew ?_)|(with_reducible refine below_drewN' ?_ _)|(with_reducible refine Below.alloc ?_ (by first|assumption|omega|(simp;omega)|simp|(simp[World.setCell];omega)|simp[World.setCell]) _)|(with_reducible refine Below.setCell ?_ (by first|assumption|omega|(simp;omega)|simp|(simp[World.setCell];omega)|simp[World.setCell]) _))) (hb3.mono (by first|exact Nat.le_refl _|omega|(simp;omega)|simp)));(have hs4:=hb4.size)))
         all_goals
          refine' zq99
        case rest=>
         obtain ⟨rfl,hbc⟩:=hcut
         have rf9:=rf8.below hbc rf8.lt
         have hB9:=hB8.trans (hbc.mono hs8)
         have m7:=old_cell hbc z7
         have m8:=old_cell hbc z8
         have hbj9:=hbj8.trans (hbc.mono hbj8.size)
         clear c0 c1 cc2 c3 c4 c5 c6 z0 z1 z2 z3 z4 z5 z6 z7 z8 f08 HK hbb
         by_cases ht:ty=ck
         ·obtain rfl:bb=false:=by rw[←HBB.out];exact neq_no ht
          have HJ':=Lib.hid (fs_step HJ.out HLG.out (by rw[eq_beq ht];rfl))
          have HCD:Hid (q.right.op≠4→ck=tyK s n q.right):=fun h4=>by
           have h5:=HCK.out
           have h6:=HCL.out.1
           rw[show comeOf s n q=[tyK s n q.right] from if_neg h4] at h5 h6
           have h7:j=0:=by simp at h6;omega
           subst h7
           simpa using h5.symm
          clear ht
          go_wp2_with fail
          go_roundw
          case rel=>exact ⟨j+1,ck,by omega,rfl,by go_num,HCD,HJ',hbj9⟩
          case measure=>first|(simp[intOf];omega)|simp[intOf]
         ·obtain rfl:bb=true:=by rw[←HBB.out];exact neq_yes ht
          have HF:Hid (nodeTF s n=⟨28,q.line,q.col⟩):=by
           have h3:needF (ty==ck) q.line q.col=⟨28,q.line,q.col⟩:=need_ne (ne_beq ht)
           have h4:eqnTF s n q=⟨28,q.line,q.col⟩:=by rw[HQF2.out,fs_stop HJ.out HLG.out (by rw[h3];exact n28 _ _),h3]
           exact (HQn.out (by rw[h4];exact n28 _ _)).trans h4
          clear ht
          obtain ⟨⟨y0,y1,y2⟩,g0,g1',g2'⟩:=rf9.three
          refine' zq75
          refine' zq181
      ·obtain rfl:j=q.left.length:=by omega
       have HP':=Lib.hid (step_uptoI (P:=fun _ x=>(eqnTF s n x).err=0) HP.out HXK.out (by rw[HQF2.out,fs_end (fun j hj=>HJ.out j (by unfold leftTs at hj;rw[List.length_mapIdx] at hj;exact hj))]))
       go_wp2_with fail
       go_roundw
       case rel=>exact ⟨p+1,by omega,by go_num,HP',hbq.trans (b07.mono hszq)⟩
       case measure=>first|(simp[intOf];omega)|simp[intOf]
    ·obtain rfl:p=n.eqs.length:=by omega
     have HF:Hid (nodeTF s n=ft0):=by show _=_;rw[HNF2.out,fstL_end HP.out]
     obtain ⟨⟨y0,y1,y2⟩,g0,g1',g2'⟩:=rf3.three
     refine' zq188
theorem upd_set3 {g:Nat} {W W':World} (h:UpdM g W W') (y0 y1 y2:Value):UpdM g W (((W'.setCell ⟨g,0,none⟩ y0).setCell ⟨g,1,none⟩ y1).setCell ⟨g,2,none⟩ y2):=
 Upd.setCell (Upd.setCell (Upd.setCell h (p:=⟨g,0,none⟩) rfl y0) (p:=⟨g,1,none⟩) rfl y1) (p:=⟨g,2,none⟩) rfl y2
theorem scopeF_fz {s:List Nd}:Fz (scopeF s):=by
 unfold scopeF
 split
 ·exact fun h=>absurd h (by show ¬(2:Int)=0;decide)
 ·refine fz_ft2 (fz_ft2 ?_)
  unfold mainF
  split
  ·exact fun h=>absurd h (by show ¬(27:Int)=0;decide)
  ·exact fz0
set_option linter.unusedSimpArgs false in
theorem rtcheck_any (s:List Nd) (A:Option Addr) (cap:Nat) (w:World) (sm:SrcSm s) (h1:s.length≤cap) (h2:cap≤maxLen) (h:Nds w w.heap.size A s):
  Calls Tryz.prog 48 #[srcV s A cap] w fun r w'=>r= .returned (ftV (typesF s))∧Below w.heap.size w w':=by
 refine' zq7
 refine' zq30
 clear h sm
 go_enter Tryz.func48,Tryz.ntmps48
 refine' zq110
 refine' zq93
 have hl2:=rf2.lt
 clear c0 rs1 rf1 b1 hb2 hs1
 obtain ⟨f0,HFN⟩:∃f,Hid (scopeF s=f):=⟨_,rfl⟩
 have HFZ:Hid (Fz f0):=by
  show Fz _
  rw[←HFN.out]
  exact scopeF_fz
 have HTY:Hid (typesF s=ft2 f0 (fstl (s.map (nodeTF s)))):=by show _=_;rw[←HFN.out,←fstL_map];rfl
 rw[HFN.out]
 have ba:Below w2.heap.size w2 (w2.alloc (.cells (ftC f0) 31)):=(by repeat (first|(with_reducible assumption)|(with_reducible exact Below.refl _ _)|(with_reducible refine Below.drew ?_)|(with_reducible refine below_drewN' ?_ _)|(with_reducible refine Below.alloc ?_ (by first|assumption|omega|(simp;omega)|simp|(simp[World.setCell];omega)|simp[World.setCell]) _)|(with_reducible refine Below.setCell ?_ (by first|assumption|omega|(simp;omega)|simp|(simp[World.setCell];omega)|simp[World.setCell]) _)))
 have r3:=Row.new w2 (ftC f0) 31
 have hsw:w2.heap.size+1≤(w2.alloc (.cells (ftC f0) 31)).heap.size:=by simp
 go_upto_region 2 with (fail)
 generalize hW4:w2.alloc (.cells (ftC f0) 31)=w4 at*
 refine' zq194
 obtain ⟨g,HG⟩:∃g,Hid (w2.heap.size=g):=⟨_,rfl⟩
 have hgw:w2.heap.size=g:=HG.out
 rw[hgw] at r3 hsw
 rw[show w2.heap.size=g from hgw]
 have hlo:w.heap.size≤g:=by omega
 have hrf:w.heap.size+1<g:=by omega
 clear rs2 rf2 hB2 hs2 ba hl2 hgw HG
 go_wp2_with fail
 go_loopw[4] (fun i wr=>∃k:Nat,k≤s.length∧i= .int .i64 k∧Row wr g (ftC (accF f0 (s.map (nodeTF s)) k)) 31∧UpdM g w4 wr) (fun i _=>s.length-(intOf i).toNat)
 case atStart=>exact ⟨0,Nat.zero_le _,rfl,by rw[acc_0 HFZ.out];exact r3,Upd.refl _ _⟩
 case round=>
  obtain ⟨k,hk,rfl,r5,hu⟩:=hrel
  have HU:=Lib.hid hu
  have hsr:=hu.size
  have rs:=Row.upd hu rs4 (by omega)
  have rf:=Row.upd hu rf4 (by omega)
  have hB:=hB4.trans (UpdM.bel hu hlo (by omega))
  have hsB:=hB.size
  have HR5:=Lib.hid r5
  have c0:=rs.src
  clear hu
  obtain ⟨f,HFK⟩:∃f,Hid (accF f0 (s.map (nodeTF s)) k=f):=⟨_,rfl⟩
  rw[HFK.out] at HR5
  obtain ⟨⟨y0,y1,y2⟩,q0,q1,q2⟩:=HR5.out.three
  clear r5
  have hgl:g<wr.heap.size:=by omega
  by_cases hlt:k<s.length
  rotate_left 1
  ·obtain rfl:k=s.length:=by omega
   have HF:Hid (typesF s=f):=by
    show _=_
    have h3:=acc_all (f:=f0) (l:=s.map (nodeTF s))
    rw[List.length_map] at h3
    rw[HTY.out,←h3]
    exact HFK.out
   refine' zq11
  by_cases hf:f.err=0
  rotate_left 1
  ·have hf1:(f.err==0)=false:=ne_beq hf
   have HF:Hid (typesF s=f):=by
    show _=_
    have h3:=acc_stop (f:=f0) (l:=s.map (nodeTF s)) (k:=k) (by rw[HFK.out];exact hf)
    rw[HTY.out,←h3]
    exact HFK.out
   clear hf
   refine' zq11
  have hf1:(f.err==0)=true:=eq_beq hf
  have HZ:Hid ((scopeF s).err=0):=by
   have h3:(ft2 f0 (fstl ((s.map (nodeTF s)).take k))).err=0:=by
    show (accF f0 (s.map (nodeTF s)) k).err=0
    rw[HFK.out];exact hf
   show _=_
   rw[HFN.out]
   exact (ft2_ok h3).1
  clear hf
  refine' zq211
  subst hA
  have hnm:=List.mem_of_getElem? hn
  have HACC:Hid (ft2 f (nodeTF s n)=accF f0 (s.map (nodeTF s)) (k+1)):=by
   show _=_
   rw[←HFK.out]
   exact (acc_succ (by rw[List.getElem?_map,hn];rfl) nodeTF_fz).symm
  have HFF:Hid (f=ft0):=by
   show _=_
   rw[←HFK.out]
   exact fz_ft2 fz_fstl (by
    show (accF f0 (s.map (nodeTF s)) k).err=0
    rw[HFK.out];exact beq_iff_eq.1 hf1)
  have HNC:Hid (∀W,Below wr.heap.size wr W→Calls Tryz.prog 109 #[srcV s (some ⟨b,off,none⟩) cap,ndV n a] W fun r w'=>r= .returned (ftV (nodeTF s n))∧Below W.heap.size W w'):=fun W hW=>by
   have hWB:=hB.trans (hW.mono hsB)
   exact rnode16_any s (some ⟨b,off,none⟩) cap n a W h1 h2 HZ.out hnm (by have:=(HSM.out.all n hnm).len;omega) (nds_keep (HS.out W hWB) (fun _ _ _ h=>h) hWB.size) ((hat.below (hW.mono hsB)).more hWB.size)
  obtain ⟨fn,HFNN⟩:∃fn,Hid (nodeTF s n=fn):=⟨_,rfl⟩
  rw[HFNN.out] at HNC HACC
  refine' zq69
  have hbg:b≠g:=by omega
  have hwg:w.heap.size≠g:=by omega
  clear hn hat hnm
  refine' zq64
  have hbw:b<wr.heap.size:=by omega
  go_upto_region 5 with (fail)
  refine wp_region_held_drew (S:=fun W=>W.cell? ⟨w.heap.size,0,none⟩=some (.slice (some ⟨b,off,none⟩) s.length cap)∧(W.cell? ⟨b,off+k*7,none⟩=some (.string n.name)∧W.cell? ⟨b,off+k*7+1,none⟩=some (.slice a.ai n.ins.length a.ci)∧W.cell? ⟨b,off+k*7+2,none⟩=some (.slice a.ao n.outs.length a.co)∧W.cell? ⟨b,off+k*7+3,none⟩=some (.slice a.av n.vars.length a.cv)∧W.cell? ⟨b,off+k*7+4,none⟩=some (.slice a.aq n.eqs.length a.cq)∧W.cell? ⟨b,off+k*7+5,none⟩=some (.int .i64 n.line)∧W.cell? ⟨b,off+k*7+6,none⟩=some (.int .i64 n.col))) (by kernel_rfl) ?_ (fun hHeld=>?_)
  ·refine' zq41
  refine wpAnyH_take (i:=0) (oi:={dst:=some 19,op:=_,type:=_,pos:=_,after:=_,guard:=_}) (v:= ?_) rfl (by kernel_rfl) (by kernel_rfl) (by kernel_rfl) (fun _ _ _ h=>h) (Or.inl ⟨by kernel_rfl,?_⟩) (by first|assumption|trivial) ?_
  rotate_left 1
  ·refine' zq22
  refine' zq6
  refine wpAnyH_take (i:=1) (oi:={dst:=some 20,op:=_,type:=_,pos:=_,after:=_,guard:=_}) (v:= ?_) rfl (by kernel_rfl) (by kernel_rfl) (by kernel_rfl) (fun _ _ _ h=>h) (Or.inl ⟨by kernel_rfl,?_⟩) (by first|assumption|trivial) ?_
  rotate_left 1
  ·refine' zq22
  refine' zq6
  refine wpAnyH_take (i:=2) (oi:={dst:=some 21,op:=_,type:=_,pos:=_,after:=_,guard:=_}) (v:= ?_) rfl (by kernel_rfl) (by kernel_rfl) (by kernel_rfl) (fun _ _ _ h=>h) (Or.inl ⟨by kernel_rfl,?_⟩) (by first|assumption|trivial) ?_
  rotate_left 1
  ·refine' zq22
  refine' zq6
  refine wpAnyH_take (i:=3) (oi:={dst:=some 22,op:=_,type:=_,pos:=_,after:=_,guard:=_}) (v:= ?_) rfl (by kernel_rfl) (by kernel_rfl) (by kernel_rfl) (fun _ _ _ h=>h) (Or.inl ⟨by kernel_rfl,?_⟩) (by first|assumption|trivial) ?_
  rotate_left 1
  ·refine' zq22
  refine' zq6
  refine wpAnyH_take (i:=4) (oi:={dst:=some 23,op:=_,type:=_,pos:=_,after:=_,guard:=_}) (v:= ?_) rfl (by kernel_rfl) (by kernel_rfl) (by kernel_rfl) (fun _ _ _ h=>h) (Or.inl ⟨by kernel_rfl,?_⟩) (by first|assumption|trivial) ?_
  rotate_left 1
  ·refine' zq22
  refine' zq6
  refine wpAnyH_take (i:=5) (oi:={dst:=some 24,op:=_,type:=_,pos:=_,after:=_,guard:=_}) (v:= ?_) rfl (by kernel_rfl) (by kernel_rfl) (by kernel_rfl) (fun _ _ _ h=>h) (Or.inl ⟨by kernel_rfl,?_⟩) (by first|assumption|trivial) ?_
  rotate_left 1
  ·refine' zq22
  refine' zq6
  refine wpAnyH_ready (rs:=[6]) (by kernel_rfl) (by simp) ?_
  refine AllReadyH.cons (o:={dst:=some 25,op:=_,type:=_,pos:=_,after:=_,guard:=_}) rfl (fun KK hKK=>?_) AllReadyH.nil
  go_simp
  go_at_call 109;(refine (HNC.out _ (by repeat (first|(with_reducible assumption)|(with_reducible exact Below.refl _ _)|(with_reducible refine Below.drew ?_)|(with_reducible refine below_drewN' ?_ _)|(with_reducible refine Below.alloc ?_ (by first|assumption|omega|(simp;omega)|simp|(simp[World.setCell];omega)|simp[World.setCell]) _)|(with_reducible refine Below.setCell ?_ (by first|assumption|omega|(simp;omega)|simp|(simp[World.setCell];omega)|simp[World.setCell]) _)))).mono ?_);rintro r w5 ⟨rfl,hb5⟩;(have hb6:Below wr.heap.size wr w5:=Below.trans (by repeat (first|(with_reducible assumption)|(with_reducible exact Below.refl _ _)|(with_reducible refine Below.drew ?_)|(with_reducible refine below_drewN' ?_ _)|(with_reducible refine Below.alloc ?_ (by first|assumption|omega|(simp;omega)|simp|(simp[World.setCell];omega)|simp[World.setCell]) _)|(with_reducible refine Below.setCell ?_ (by first|assumption|omega|(simp;omega)|simp|(simp[World.setCell];omega)|simp[World.setCell]) _))) (hb5.mono (by first|exact Nat.le_refl _|omega|(simp;omega)|simp)));(have r6:=HR5.out.below hb6 hgl);(obtain ⟨⟨p0,p1,p2⟩,f0',f1',f2'⟩:=r6.three);(have kkS:=fun y0 y1 y2:Value=>(⟨upd_cell (upd_set3 (Upd.refl _ w5) y0 y1 y2) (HK.out _ hb6).1 hwg,upd_cell (upd_set3 (Upd.refl _ w5) y0 y1 y2) (HK.out _ hb6).2.1 hbg,upd_cell (upd_set3 (Upd.refl _ w5) y0 y1 y2) (HK.out _ hb6).2.2.1 hbg,upd_cell (upd_set3 (Upd.refl _ w5) y0 y1 y2) (HK.out _ hb6).2.2.2.1 hbg,upd_cell (upd_set3 (Upd.refl _ w5) y0 y1 y2) (HK.out _ hb6).2.2.2.2.1 hbg,upd_cell (upd_set3 (Upd.refl _ w5) y0 y1 y2) (HK.out _ hb6).2.2.2.2.2.1 hbg,upd_cell (upd_set3 (Upd.refl _ w5) y0 y1 y2) (HK.out _ hb6).2.2.2.2.2.2.1 hbg,upd_cell (upd_set3 (Upd.refl _ w5) y0 y1 y2) (HK.out _ hb6).2.2.2.2.2.2.2 hbg⟩:_∧_∧_∧_∧_∧_∧_∧_))
  (try go_wp2_with fail)
  refine hKK.out _ _ ?_ (fun hHeld=>?_)
  ·refine' zq41
  clear hKK KK
  refine' zq6
  refine wpAnyH_ready (rs:=[7]) (by kernel_rfl) (by simp) ?_
  refine AllReadyH.cons (o:={dst:=none,op:=_,type:=_,pos:=_,after:=_,guard:=_}) rfl (fun KK hKK=>?_) AllReadyH.nil
  go_simp
  refine hKK.out _ _ ?_ (fun hHeld=>?_)
  ·refine' zq41
  clear hKK KK
  refine' zq6
  refine wpAnyH_done (by kernel_rfl) ?_ _
  have r7:Row (((w5.setCell ⟨g,0,none⟩ (.int .i64 fn.err)).setCell ⟨g,1,none⟩ (.int .i64 fn.line)).setCell ⟨g,2,none⟩ (.int .i64 fn.col)) g (ftC (accF f0 (s.map (nodeTF s)) (k+1))) 31:=by
   rw[←HACC.out,HFF.out,ft2_l]
   exact r6.set3 _ _ _
  have HU7:=Lib.hid (upd_set3 (Upd.trans HU.out (UpdM.of hb6)) (.int .i64 fn.err) (.int .i64 fn.line) (.int .i64 fn.col))
  have HR7:=Lib.hid r7
  clear r7 r6 p0 p1 p2 kkS
  go_wp2_with fail
  go_roundw
  case rel=>exact ⟨k+1,by omega,by go_num,HR7.out,HU7.out⟩
  case measure=>first|(simp[intOf];omega)|simp[intOf]
end Go.Proofs.YtgjfkidbfmbjoaaGreat
