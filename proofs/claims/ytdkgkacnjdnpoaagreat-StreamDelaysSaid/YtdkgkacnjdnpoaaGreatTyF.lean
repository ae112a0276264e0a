/-
  What is wrong first with a source's types: the contract of types.Check.
-/
import Derived.Test.YtdkgkacnjdnpoaaGreatTyE
set_option maxHeartbeats 4000000
set_option maxRecDepth 100000
namespace Go.Proofs.YtdkgkacnjdnpoaaGreat
open Go.RowKit
attribute [local go_sem ↓] Go.wp_at_zero Go.wp_at_succ
theorem tcheck_any (s:List Nd) (A:Option Addr) (cap:Nat) (w:World) (sm:SrcSm s) (h1:s.length≤cap) (h2:cap≤maxLen) (h:Nds w w.heap.size A s):
  Calls Tryz.prog 55 #[srcV s A cap] w fun r w'=>r= .returned (ftV (typesF s))∧Below w.heap.size w w':=by
 have rf1:=rowNew2 w (.cells #[.slice A s.length cap] 24) ftC0 38
 have rs1:=(Row.new w #[.slice A s.length cap] 24).alloc (.cells ftC0 38)
 have b1:Below w.heap.size w ((w.alloc (.cells #[.slice A s.length cap] 24)).alloc (.cells ftC0 38)):=(by repeat (first|(with_reducible assumption)|(with_reducible exact Below.refl _ _)|(with_reducible refine Below.drew ?_)|(with_reducible refine below_drewN' ?_ _)|(with_reducible refine Below.alloc ?_ (by first|assumption|omega|(simp;omega)|simp|(simp[World.setCell];omega)|simp[World.setCell]) _)|(with_reducible refine Below.setCell ?_ (by first|assumption|omega|(simp;omega)|simp|(simp[World.setCell];omega)|simp[World.setCell]) _)))
 have HS:Hid (∀W,Below w.heap.size w W→Nds W w.heap.size A s):=fun W hW=>nds_keep h (keeps_of hW) (Nat.le_refl _)
 have HSM:=Lib.hid sm
 have HMC:=Lib.hid h2
 have h2':cap≤9223372036854775807:=by unfold maxLen at h2;omega
 clear h sm
 go_enter Tryz.func55,Tryz.ntmps55
 go_upto_region 1 with (fail)
 generalize (w.alloc (.cells #[.slice A s.length cap] 24)).alloc (.cells ftC0 38)=W1 at*
 have hs1:=b1.size
 have c0:=rs1.src
 go_wp2_with fail
 refine (check15_any s A cap W1 HSM.out h1 h2 (nds_keep (HS.out W1 b1) (fun _ _ _ h=>h) hs1)).mono ?_
 rintro r w2 ⟨rfl,hb2⟩
 have rs2:=rs1.below hb2 rs1.lt
 have rf2:=rf1.below hb2 rf1.lt
 have hB2:=b1.trans (hb2.mono hs1)
 have hs2:=hB2.size
 have hl2:=rf2.lt
 clear c0 rs1 rf1 b1 hb2 hs1
 obtain ⟨f,HFN⟩:∃f,Hid (scopeF s=f):=⟨_,rfl⟩
 have HF0:Hid (typesF s=ft2 f (fstL (fun _ n=>nodeTF s n) s)):=by show _=_;rw[←HFN.out];rfl
 rw[HFN.out]
 by_cases hf:f.err=0
 rotate_left 1
 ·have hf1:(f.err !=0)=true:=neq_yes hf
  have HF:Hid (typesF s=f):=by show _=_;rw[HF0.out,ft2_1 hf]
  clear hf
  obtain ⟨⟨k0,k1,k2⟩,g0,g1,g2⟩:=rf2.three
  go_wp2_with fail
  exact bodyPost_ret (res1 rfl Tryz.underlying38 rfl (by kernel_rfl) rfl ((rf2.set3 _ _ _).alloc _)) rfl ⟨(congrArg (fun f=>Ending.returned (ftV f)) HF.out).symm,(below_set3 hB2 (by first|omega|(simp;omega)|simp) _ _ _).alloc (by first|(simp[World.setCell];omega)|simp[World.setCell]) _⟩
 have hf1:(f.err !=0)=false:=neq_no hf
 have HF1:Hid (typesF s=fstL (fun _ n=>nodeTF s n) s):=by show _=_;rw[HF0.out,ft2_0 hf]
 have HZ:Hid ((scopeF s).err=0):=by show _=_;rw[HFN.out];exact hf
 clear hf
 have ba:Below w2.heap.size w2 (w2.alloc (.cells (ftC f) 38)):=(by repeat (first|(with_reducible assumption)|(with_reducible exact Below.refl _ _)|(with_reducible refine Below.drew ?_)|(with_reducible refine below_drewN' ?_ _)|(with_reducible refine Below.alloc ?_ (by first|assumption|omega|(simp;omega)|simp|(simp[World.setCell];omega)|simp[World.setCell]) _)|(with_reducible refine Below.setCell ?_ (by first|assumption|omega|(simp;omega)|simp|(simp[World.setCell];omega)|simp[World.setCell]) _)))
 go_upto_region 4 with (fail)
 generalize hW4:w2.alloc (.cells (ftC f) 38)=w4 at*
 clear hW4
 have rs4:=rs2.below ba rs2.lt
 have rf4:=rf2.below ba rf2.lt
 have hB4:=hB2.trans (ba.mono hs2)
 have hs4:=hB4.size
 have c0:=rs4.src
 clear rs2 rf2 hB2 hs2 ba hl2 HF0
 go_wp2_with fail
 clear c0
 go_loopw[22] (fun i wr=>∃k:Nat,k≤s.length∧i= .int .i64 k∧Hid (∀j,j<k→∀x,s[j]? =some x→(nodeTF s x).err=0)∧Below w4.heap.size w4 wr) (fun i _=>s.length-(intOf i).toNat)
 case atStart=>exact ⟨0,Nat.zero_le _,rfl,fun j h=>absurd h (by omega),Below.refl _ _⟩
 case round=>
  obtain ⟨k,hk,rfl,HN,hbr⟩:=hrel
  have hszr:=hbr.size
  have rf:=rf4.below hbr rf4.lt
  have rs:=rs4.below hbr rs4.lt
  have c0:=rs.src
  have hB:=hB4.trans (hbr.mono hs4)
  have hsB:=hB.size
  by_cases hlt:k<s.length
  rotate_left 1
  ·obtain rfl:k=s.length:=by omega
   have HF:Hid (typesF s=ft0):=HF1.out.trans (fstL_end HN.out)
   obtain ⟨⟨k0,k1,k2⟩,g0,g1,g2⟩:=rf.three
   go_wp2_with fail
   exact bodyPost_ret (res1 rfl Tryz.underlying38 rfl (by kernel_rfl) rfl (rf.set3 _ _ _)) rfl ⟨(congrArg (fun f=>Ending.returned (ftV f)) HF.out).symm,below_set3 hB (by first|omega|(simp;omega)|simp) _ _ _⟩
  obtain ⟨b,off,n,a,hA,hb,hn,hat,d0,d1,d2,d3,d4,d5,d6⟩:=(HS.out wr hB).nd hlt
  subst hA
  have HX:=Lib.hid hn
  have hnm:=List.mem_of_getElem? hn
  have HNM:=Lib.hid hnm
  have HNS:=Lib.hid (HSM.out.all n hnm)
  have HL:=Lib.hid (show (vrs n).length≤10000 by have:=HNS.out.len;omega)
  have HKNn:=Lib.hid (scope_kn HZ.out n hnm)
  have gv:=hat.mv
  have gq:=hat.mq
  have lv:=hat.lv
  have lq:=hat.lq
  have gv':a.cv≤9223372036854775807:=by unfold maxLen at gv;omega
  have gq':a.cq≤9223372036854775807:=by unfold maxLen at gq;omega
  have HAT:Hid (∀W,Below wr.heap.size wr W→NdAt W w.heap.size n a):=fun W hW=>hat.below (hW.mono hsB)
  have HFn:Hid ((nodeTF s n).err≠0→typesF s=nodeTF s n):=fun g=>by
   rw[HF1.out,fstL_stop (f:=fun _ n=>nodeTF s n) HN.out HX.out g]
  have HNF:Hid (nodeTF s n=ft2 (fstl (n.vars.map (clkTF n))) (fstl (n.eqs.map (eqnTF s n)))):=rfl
  have rn1:=Row.new wr (ndArr n a) 58
  have ba:Below wr.heap.size wr (wr.alloc (.cells (ndArr n a) 58)):=(by repeat (first|(with_reducible assumption)|(with_reducible exact Below.refl _ _)|(with_reducible refine Below.drew ?_)|(with_reducible refine below_drewN' ?_ _)|(with_reducible refine Below.alloc ?_ (by first|assumption|omega|(simp;omega)|simp|(simp[World.setCell];omega)|simp[World.setCell]) _)|(with_reducible refine Below.setCell ?_ (by first|assumption|omega|(simp;omega)|simp|(simp[World.setCell];omega)|simp[World.setCell]) _)))
  clear hn hat hnm
  go_upto_region 7 with (fail)
  clear d0 d1 d2 d3 d4 d5 d6 c0
  generalize hW6:wr.alloc (.cells (ndArr n a) 58)=w6 at*
  clear hW6
  have hsa:=ba.size
  have rf6:=rf.below ba rf.lt
  have rs6:=rs.below ba rs.lt
  have hB6:=hB.trans (ba.mono hsB)
  have hs6:=hB6.size
  obtain ⟨wo,rfl⟩:∃wo:World,wo=wr:=⟨_,rfl⟩
  have c0:=rs6.src
  obtain ⟨e0,e1,e2,e3,e4,e5,e6⟩:=rn1.nd
  have rt0:TpRow (w6.alloc (.cells #[.slice (some ⟨b,off,none⟩) s.length cap,.string n.name,.slice a.ai n.ins.length a.ci,.slice a.ao n.outs.length a.co,.slice a.av n.vars.length a.cv,.slice a.aq n.eqs.length a.cq,.int .i64 n.line,.int .i64 n.col,.int .i64 0,.int .i64 0,.int .i64 0] 180)) w6.heap.size ⟨s,some ⟨b,off,none⟩,cap,n,a⟩ ft0:=Row.new w6 _ _
  have bt:Below w6.heap.size w6 (w6.alloc (.cells #[.slice (some ⟨b,off,none⟩) s.length cap,.string n.name,.slice a.ai n.ins.length a.ci,.slice a.ao n.outs.length a.co,.slice a.av n.vars.length a.cv,.slice a.aq n.eqs.length a.cq,.int .i64 n.line,.int .i64 n.col,.int .i64 0,.int .i64 0,.int .i64 0] 180)):=(by repeat (first|(with_reducible assumption)|(with_reducible exact Below.refl _ _)|(with_reducible refine Below.drew ?_)|(with_reducible refine below_drewN' ?_ _)|(with_reducible refine Below.alloc ?_ (by first|assumption|omega|(simp;omega)|simp|(simp[World.setCell];omega)|simp[World.setCell]) _)|(with_reducible refine Below.setCell ?_ (by first|assumption|omega|(simp;omega)|simp|(simp[World.setCell];omega)|simp[World.setCell]) _)))
  have hsw7:w6.heap.size+1≤(w6.alloc (.cells #[.slice (some ⟨b,off,none⟩) s.length cap,.string n.name,.slice a.ai n.ins.length a.ci,.slice a.ao n.outs.length a.co,.slice a.av n.vars.length a.cv,.slice a.aq n.eqs.length a.cq,.int .i64 n.line,.int .i64 n.col,.int .i64 0,.int .i64 0,.int .i64 0] 180)).heap.size:=by simp
  go_upto_region 8 with (fail)
  clear e0 e1 e2 e3 e4 e5 e6 c0
  generalize hW7:w6.alloc (.cells #[.slice (some ⟨b,off,none⟩) s.length cap,.string n.name,.slice a.ai n.ins.length a.ci,.slice a.ao n.outs.length a.co,.slice a.av n.vars.length a.cv,.slice a.aq n.eqs.length a.cq,.int .i64 n.line,.int .i64 n.col,.int .i64 0,.int .i64 0,.int .i64 0] 180)=w7 at*
  clear hW7
  have rf7:=rf6.below bt rf6.lt
  have rn7:=rn1.below bt rn1.lt
  have hB7:=hB6.trans (bt.mono hs6)
  have hs7:=hB7.size
  have b07:=ba.trans (bt.mono hsa)
  have hwo:=rn1.lt
  have hrf:=rf6.lt
  obtain ⟨g,HG⟩:∃g,Hid (w6.heap.size=g):=⟨_,rfl⟩
  have hgw:w6.heap.size=g:=HG.out
  rw[hgw] at rt0
  rw[show w6.heap.size=g from hgw]
  have hlg:g<w7.heap.size:=by omega
  have hlo:w.heap.size≤g:=by omega
  have hwg:wo.heap.size<g:=by omega
  have hrg:w.heap.size+1<g:=by omega
  have HT7:Hid (TpAt w7 w.heap.size g ⟨s,some ⟨b,off,none⟩,cap,n,a⟩ ft0):=⟨rt0,hlo,HAT.out w7 b07,HS.out w7 hB7,HL.out,h1,HMC.out,fz0⟩
  clear hgw bt rt0
  obtain ⟨e0,e1,e2,e3,e4,e5,e6⟩:=rn7.nd
  go_wp2_with fail
  clear e0 e1 e2 e3 e4 e5 e6
  go_loopw[33] (fun i wr=>∃p:Nat,p≤n.vars.length∧i= .int .i64 p∧TpL w7 w.heap.size g ⟨s,some ⟨b,off,none⟩,cap,n,a⟩ (accF ft0 (n.vars.map (clkTF n)) p) wr) (fun i _=>n.vars.length-(intOf i).toNat)
  case atStart=>exact ⟨0,Nat.zero_le _,rfl,by rw[acc_0 fz0];exact HT7.out,Upd.refl _ _⟩
  case round=>
   obtain ⟨p,hp,rfl,ht,hu⟩:=hrel
   have HT:=Lib.hid ht
   have HU:=Lib.hid hu
   have hsr:=hu.size
   have rn8:=Row.upd hu rn7 (by omega)
   clear ht hu
   by_cases hlp:p<n.vars.length
   ·obtain ⟨b',off',x,A',cap',hA,hb',hx,ok,g1,g2,hxs,d0,d1,d2,d3,d4⟩:=HT.out.n.sv.vr hlp
    have hA:a.av=some ⟨b',off',none⟩:=hA
    rw[hA]
    have HACC:Hid (ft2 (accF ft0 (n.vars.map (clkTF n)) p) (clkTF n x)=accF ft0 (n.vars.map (clkTF n)) (p+1)):=(acc_succ (by rw[List.getElem?_map,hx];rfl) clkTF_fz).symm
    have g2':cap'≤9223372036854775807:=by unfold maxLen at g2;omega
    have HXS:Hid (∀W,Below w.heap.size wr W→Sl W w.heap.size 2 isLit A' x.clock):=fun W hW=>lits_keep hxs (keeps_of hW) (Nat.le_refl _)
    have rx:=Row.new wr (vrArr x A' cap') 103
    have bx:Below wr.heap.size wr (wr.alloc (.cells (vrArr x A' cap') 103)):=(by repeat (first|(with_reducible assumption)|(with_reducible exact Below.refl _ _)|(with_reducible refine Below.drew ?_)|(with_reducible refine below_drewN' ?_ _)|(with_reducible refine Below.alloc ?_ (by first|assumption|omega|(simp;omega)|simp|(simp[World.setCell];omega)|simp[World.setCell]) _)|(with_reducible refine Below.setCell ?_ (by first|assumption|omega|(simp;omega)|simp|(simp[World.setCell];omega)|simp[World.setCell]) _)))
    have hsx:wr.heap.size+1≤(wr.alloc (.cells (vrArr x A' cap') 103)).heap.size:=by simp
    clear hA hx hxs ok
    go_upto_region 11 with (fail)
    clear d0 d1 d2 d3 d4
    generalize hW9:wr.alloc (.cells (vrArr x A' cap') 103)=w9 at*
    clear hW9
    have HT9:=Lib.hid (HT.out.bel bx)
    have HU9:=Lib.hid (Upd.trans HU.out (UpdM.of (bm:=g) bx))
    have HB9:Hid (Below w.heap.size wr w9):=bx.mono (by omega)
    obtain ⟨wv,rfl⟩:∃wv:World,wv=wr:=⟨_,rfl⟩
    obtain ⟨z0,z1,z2,z3,z4⟩:=rx.vr
    go_wp2_with fail
    clear z0 z1 z2 z3 z4
    go_loopw[40] (fun i wr=>∃j:Nat,j≤x.clock.length∧i= .int .i64 j∧TpL w9 w.heap.size g ⟨s,some ⟨b,off,none⟩,cap,n,a⟩ (accF (accF ft0 (n.vars.map (clkTF n)) p) (clkTs n x) j) wr) (fun i _=>x.clock.length-(intOf i).toNat)
    case atStart=>exact ⟨0,Nat.zero_le _,rfl,by rw[acc_0 HT9.out.fz];exact HT9.out,Upd.refl _ _⟩
    case round=>
     obtain ⟨j,hj,rfl,ht,hu⟩:=hrel
     have HT10:=Lib.hid ht
     have HU10:=Lib.hid hu
     have hsr2:=hu.size
     have rx10:=Row.upd hu rx (by omega)
     clear ht hu
     by_cases hlj:j<x.clock.length
     ·obtain ⟨b3,off3,c,hA3,hb3,hc,hcn,f0,f1⟩:=(HXS.out wr (HB9.out.trans (UpdM.bel HU10.out hlo (by omega)))).lit hlj
      subst hA3
      have HACC2:Hid (ft2 (accF (accF ft0 (n.vars.map (clkTF n)) p) (clkTs n x) j) (needF (tyOf n c.name==2) x.line x.col)=accF (accF ft0 (n.vars.map (clkTF n)) p) (clkTs n x) (j+1)):=(acc_succ (by unfold clkTs;rw[List.getElem?_map,hc];rfl) (need_fz _ _ _)).symm
      have rl:=Row.new wr #[.string c.name,.bool c.no] 105
      have bl:Below wr.heap.size wr (wr.alloc (.cells #[.string c.name,.bool c.no] 105)):=(by repeat (first|(with_reducible assumption)|(with_reducible exact Below.refl _ _)|(with_reducible refine Below.drew ?_)|(with_reducible refine below_drewN' ?_ _)|(with_reducible refine Below.alloc ?_ (by first|assumption|omega|(simp;omega)|simp|(simp[World.setCell];omega)|simp[World.setCell]) _)|(with_reducible refine Below.setCell ?_ (by first|assumption|omega|(simp;omega)|simp|(simp[World.setCell];omega)|simp[World.setCell]) _)))
      clear hc
      go_upto_region 14 with (fail)
      clear f0 f1
      generalize hW11:wr.alloc (.cells #[.string c.name,.bool c.no] 105)=w11 at*
      clear hW11
      have HT11:=Lib.hid (HT10.out.bel bl)
      have HU11:=Lib.hid (Upd.trans HU10.out (UpdM.of (bm:=g) bl))
      have rx11:=rx10.below bl rx10.lt
      obtain ⟨z0,z1,z2,z3,z4⟩:=rx11.vr
      have y0:=(rl.cell 0).trans rfl
      have HTR:=Lib.hid (truth_any ⟨s,some ⟨b,off,none⟩,cap,n,a⟩ _ w.heap.size g c.name x.line x.col w11 HT11.out)
      go_wp2_with fail
      refine HTR.out.mono ?_
      rintro r w12 ⟨rfl,ht12,hu12⟩
      have ht13:TpAt w12 w.heap.size g ⟨s,some ⟨b,off,none⟩,cap,n,a⟩ (accF (accF ft0 (n.vars.map (clkTF n)) p) (clkTs n x) (j+1)):=by rw[←HACC2.out];exact ht12
      have HT12:=Lib.hid ht13
      have HU12:=Lib.hid (Upd.trans HU11.out hu12)
      clear ht12 ht13 hu12 z0 z1 z2 z3 z4 y0
      go_wp2_with fail
      go_roundw
      case rel=>exact ⟨j+1,by omega,by go_num,HT12.out,HU12.out⟩
      case measure=>first|(simp[intOf];omega)|simp[intOf]
     ·obtain rfl:j=x.clock.length:=by omega
      have HEA:Hid (accF (accF ft0 (n.vars.map (clkTF n)) p) (clkTs n x) x.clock.length=accF ft0 (n.vars.map (clkTF n)) (p+1)):=by
       show _=_
       rw[←HACC.out]
       have:=acc_all (f:=accF ft0 (n.vars.map (clkTF n)) p) (l:=clkTs n x)
       rwa [show (clkTs n x).length=x.clock.length from by unfold clkTs;exact List.length_map _] at this
      rw[HEA.out] at HT10
      go_wp2_with fail
      go_roundw
      case rel=>exact ⟨p+1,by omega,by go_num,HT10.out,Upd.trans HU9.out HU10.out⟩
      case measure=>first|(simp[intOf];omega)|simp[intOf]
   ·obtain rfl:p=n.vars.length:=by omega
    have HEA:Hid (accF ft0 (n.vars.map (clkTF n)) n.vars.length=fstl (n.vars.map (clkTF n))):=by
     show _=_
     have:=acc_all (f:=ft0) (l:=n.vars.map (clkTF n))
     rwa [List.length_map,ft2_l] at this
    rw[HEA.out] at HT
    obtain ⟨w8,rfl⟩:∃w8:World,w8=wr:=⟨_,rfl⟩
    obtain ⟨e0,e1,e2,e3,e4,e5,e6⟩:=rn8.nd
    go_wp2_with fail
    clear e0 e1 e2 e3 e4 e5 e6
    go_loopw[55] (fun i wr=>∃p:Nat,p≤n.eqs.length∧i= .int .i64 p∧TpL w8 w.heap.size g ⟨s,some ⟨b,off,none⟩,cap,n,a⟩ (accF (fstl (n.vars.map (clkTF n))) (n.eqs.map (eqnTF s n)) p) wr) (fun i _=>n.eqs.length-(intOf i).toNat)
    case atStart=>exact ⟨0,Nat.zero_le _,rfl,by rw[acc_0 fz_fstl];exact HT.out,Upd.refl _ _⟩
    case round=>
     obtain ⟨p,hp,rfl,ht,hu⟩:=hrel
     have HT9:=Lib.hid ht
     have HU9:=Lib.hid hu
     have hsr2:=hu.size
     have HUA:=Lib.hid (Upd.trans HU.out hu)
     clear ht hu
     by_cases hlp:p<n.eqs.length
     ·obtain ⟨b',off',q,A1,k1,A2,k2,hA,hb',hq,ok,lq1,mq1,sl1,lq2,mq2,sl2,d0,d1,d2,d3,d4,d5,d6,d7,d8⟩:=HT9.out.n.sq.eqn hlp
      have hA:a.aq=some ⟨b',off',none⟩:=hA
      rw[hA]
      have hqm:=List.mem_of_getElem? hq
      have HACC:Hid (ft2 (accF (fstl (n.vars.map (clkTF n))) (n.eqs.map (eqnTF s n)) p) (eqnTF s n q)=accF (fstl (n.vars.map (clkTF n))) (n.eqs.map (eqnTF s n)) (p+1)):=(acc_succ (by rw[List.getElem?_map,hq];rfl) eqnTF_fz).symm
      have re:=Row.new wr (eqArr q A1 k1 A2 k2) 65
      have bq:Below wr.heap.size wr (wr.alloc (.cells (eqArr q A1 k1 A2 k2) 65)):=(by repeat (first|(with_reducible assumption)|(with_reducible exact Below.refl _ _)|(with_reducible refine Below.drew ?_)|(with_reducible refine below_drewN' ?_ _)|(with_reducible refine Below.alloc ?_ (by first|assumption|omega|(simp;omega)|simp|(simp[World.setCell];omega)|simp[World.setCell]) _)|(with_reducible refine Below.setCell ?_ (by first|assumption|omega|(simp;omega)|simp|(simp[World.setCell];omega)|simp[World.setCell]) _)))
      have HT10:=Lib.hid (HT9.out.bel bq)
      have HQE:=Lib.hid (equation_tany ⟨s,some ⟨b,off,none⟩,cap,n,a⟩ w.heap.size g q _ A1 k1 A2 k2 _ HT10.out ok.right mq1 (strs_keep sl1 (keeps_of (bq.mono (by omega))) (Nat.le_refl _)) lq2 mq2 (sl2.below (bq.mono (by omega))) (tykn_of HZ.out HNM.out hqm) (come_len HZ.out HNM.out hqm) (by have:=(HKNn.out.rt.1 q hqm).2.2.1;omega))
      clear hA hq ok sl1 sl2 hqm
      go_upto_region 20 with (fail)
      clear d0 d1 d2 d3 d4 d5 d6 d7 d8
      generalize hW10:wr.alloc (.cells (eqArr q A1 k1 A2 k2) 65)=w10 at*
      clear hW10
      have HU10:=Lib.hid (Upd.trans HU9.out (UpdM.of (bm:=g) bq))
      obtain ⟨z0,z1,z2,z3,z4,z5,z6,z7,z8⟩:=re.eqn
      go_wp2_with fail
      refine HQE.out.mono ?_
      rintro r w11 ⟨rfl,ht11,hu11⟩
      have ht12:TpAt w11 w.heap.size g ⟨s,some ⟨b,off,none⟩,cap,n,a⟩ (accF (fstl (n.vars.map (clkTF n))) (n.eqs.map (eqnTF s n)) (p+1)):=by rw[←HACC.out];exact ht11
      have HT12:=Lib.hid ht12
      have HU12:=Lib.hid (Upd.trans HU10.out hu11)
      clear ht11 ht12 hu11 z0 z1 z2 z3 z4 z5 z6 z7 z8
      go_wp2_with fail
      go_roundw
      case rel=>exact ⟨p+1,by omega,by go_num,HT12.out,HU12.out⟩
      case measure=>first|(simp[intOf];omega)|simp[intOf]
     ·obtain rfl:p=n.eqs.length:=by omega
      have HEB:Hid (accF (fstl (n.vars.map (clkTF n))) (n.eqs.map (eqnTF s n)) n.eqs.length=nodeTF s n):=by
       show _=_
       have:=acc_all (f:=fstl (n.vars.map (clkTF n))) (l:=n.eqs.map (eqnTF s n))
       rwa [List.length_map,←HNF.out] at this
      rw[HEB.out] at HT9
      have HBD:=Lib.hid (bad_any ⟨s,some ⟨b,off,none⟩,cap,n,a⟩ _ g wr HT9.out.row HT9.out.fz)
      have hbB:=UpdM.bel HUA.out (show w6.heap.size≤g by rw[HG.out];exact Nat.le_refl _) (by omega)
      have hBe:=hB7.trans (UpdM.bel HUA.out hlo (by omega))
      have rfe:=Row.upd HUA.out rf7 (by omega)
      by_cases hbad:(nodeTF s n).err=0
      ·have HB:Hid (badB (nodeTF s n)=false):=neq_no hbad
       have HN':=Lib.hid (step_uptoI (P:=fun _ x=>(nodeTF s x).err=0) HN.out HX.out hbad)
       have hbz:Below w4.heap.size w4 wr:=(hbr.trans (b07.mono hszr)).trans (UpdM.bel HUA.out (by omega) (by omega))
       clear hbad
       go_wp2_with fail
       refine HBD.out.mono ?_
       rintro r w9 ⟨rfl,rfl⟩
       rw[HB.out]
       go_wp2_with fail
       go_roundw
       case rel=>exact ⟨k+1,by omega,by go_num,HN',hbz⟩
       case measure=>first|(simp[intOf];omega)|simp[intOf]
      ·have HB:Hid (badB (nodeTF s n)=true):=neq_yes hbad
       have HF:Hid (typesF s=nodeTF s n):=HFn.out hbad
       clear hbad
       go_wp2_with fail
       refine HBD.out.mono ?_
       rintro r w9 ⟨rfl,rfl⟩
       rw[HB.out]
       obtain ⟨-,t8,t9,t10⟩:=HT9.out.row.tp
       obtain ⟨⟨k0,k1',k2'⟩,g0,g1,g2⟩:=rfe.three
       go_wp2_with fail
       exact bodyPost_ret (res1 rfl Tryz.underlying38 rfl (by kernel_rfl) rfl (rfe.set3 _ _ _)) rfl ⟨(congrArg (fun f=>Ending.returned (ftV f)) HF.out).symm,below_set3 hBe (by first|omega|(simp;omega)|simp) _ _ _⟩
end Go.Proofs.YtdkgkacnjdnpoaaGreat
