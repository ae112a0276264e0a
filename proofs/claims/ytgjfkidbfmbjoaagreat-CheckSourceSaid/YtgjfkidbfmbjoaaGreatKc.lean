/-
  CheckSource: the walk. Closed facts of the row CheckSource over the program. Closed facts of the row CheckSource over the program. Closed facts of the row CheckSource over the program. Closed facts of the row CheckSource over the program. Closed facts of the row CheckSource over the program. Closed facts of the row CheckSource over the program.
-/
import Derived.Test.YtgjfkidbfmbjoaaGreatZz
import Derived.Test.YtgjfkidbfmbjoaaGreatOpenN
import Derived.Test.YtgjfkidbfmbjoaaGreatFewM
import Derived.Deep.RegionHeld3
import Derived.RowKit
set_option maxHeartbeats 1000000
set_option maxRecDepth 100000
namespace Go.Proofs.YtgjfkidbfmbjoaaGreat.checkSource
open Go.RowKit
attribute [local go_sem ↓] Go.wp_at_zero Go.wp_at_succ
theorem walk (s:List Nd) (v:Value) (w:World) (h:SrcIs w s v):
  Calls Tryz.prog 3 #[v] w fun r w'=>r= .returned (.bool true)∧Below w.heap.size w w':=by
 obtain ⟨A,cap,rfl,h1,h2,hn⟩:=h
 refine' zq159
 have HS:Hid (∀W,Below w.heap.size w W→Nds W W.heap.size A s):=fun W hW=>nds_keep hn (keeps_of hW) hW.size
 clear hn
 go_enter Tryz.func3,Tryz.ntmps3
 refine' zq103
 go_wp2_with fail
 refine (awake21_any W1).mono ?_
 rintro r w2 ⟨rfl,hb2⟩
 have rs2:=rs1.below hb2 rs1.lt
 refine' zq153
 have c0:=rs2.src
 go_wp2_with fail
 refine (fewNodes_any s A cap w2 h1 h2 (HS.out w2 hB2)).mono ?_
 rintro r w3 ⟨⟨bf,rfl,HFN⟩,hb3⟩
 have rs3:=rs2.below hb3 rs2.lt
 refine' zq217
 clear c0 rs1 rs2 b1 hb2 hb3 hB2 hs1 hs2
 cases bf
 ·go_wp2_with fail
  go_ret
  exact ⟨rfl,hB3⟩
 have HSM:Hid (SrcSm s):=HFN.out (by first|rfl|trivial)
 clear HFN
 obtain ⟨f,HFX⟩:∃f,Hid (checkF s=f):=⟨_,rfl⟩
 have HC1:Hid (∀W,Below w3.heap.size w3 W→Calls Tryz.prog 19 #[srcV s A cap] W fun r w'=>r= .returned (ftV f)∧Below W.heap.size W w'):=fun W hW=>by
  rw[←HFX.out]
  exact csource_any s A cap W HSM.out h1 h2 (HS.out W (hB3.trans (hW.mono hs3)))
 have HC2:Hid (∀W,Below w3.heap.size w3 W→Calls Tryz.prog 17 #[srcV s A cap] W fun r w'=>r= .returned (ftV f)∧Below W.heap.size W w'):=fun W hW=>by
  rw[←HFX.out]
  exact rsrc21_any s A cap W HSM.out h1 h2 (HS.out W (hB3.trans (hW.mono hs3)))
 have HPO:Hid (∀W,Below w3.heap.size w3 W→Calls Tryz.prog 18 #[srcV s A cap] W (PortsR s W)):=fun W hW=>ports_chk s A cap W HSM.out h1 h2 (HS.out W (hB3.trans (hW.mono hs3)))
 have c0:=rs3.src
 go_wp2_with fail
 refine (HC2.out w3 (Below.refl _ _)).mono ?_
 rintro r w4 ⟨rfl,hb4⟩
 have b5:Below w4.heap.size w4 (w4.alloc (.cells (ftC f) 31)):=bE
 have rx:=Row.new w4 (ftC f) 31
 have hs4:=hb4.size
 have rs5:=(rs3.below hb4 rs3.lt).below b5 (by have:=rs3.lt;omega)
 have hB5:=hb4.trans (b5.mono hs4)
 clear c0
 have c0:=rs5.src
 go_upto_region 6 with (fail)
 change Code.wp _ _ _ _ (w4.alloc (.cells (ftC f) 31))
 generalize w4.alloc (.cells (ftC f) 31)=W5 at*
 have hs5:=hB5.size
 go_wp2_with fail
 refine (HPO.out W5 hB5).mono ?_
 rintro r w6 ⟨⟨v1,v2,b,rfl,HPb,HPn,HPy⟩,hb6⟩
 have rs6:=rs5.below hb6 rs5.lt
 have rx6:=rx.below hb6 rx.lt
 have hB6:=hB5.trans (hb6.mono hs5)
 have hs6:=hB6.size
 have HKK:Hid (∀W,Below w6.heap.size w6 W→W.cell? ⟨w.heap.size,0,none⟩=some (.slice A s.length cap)∧W.cell? ⟨w4.heap.size,0,none⟩=some (.int .i64 f.err)∧W.cell? ⟨w4.heap.size,1,none⟩=some (.int .i64 f.line)∧W.cell? ⟨w4.heap.size,2,none⟩=some (.int .i64 f.col)):=fun W hW=>
  ⟨(rs6.below hW rs6.lt).src,(rx6.below hW rx6.lt).three.1⟩
 have HC1':Hid (∀W,Below w6.heap.size w6 W→Calls Tryz.prog 19 #[srcV s A cap] W fun r w'=>r= .returned (ftV f)∧Below W.heap.size W w'):=fun W hW=>HC1.out W (hB6.trans (hW.mono hs6))
 have e0:(f.err==f.err)=true:=by simp
 have e1:(f.line==f.line)=true:=by simp
 have e2:(f.col==f.col)=true:=by simp
 clear c0 hb4 b5 rx rs5 hb6 HC1 HC2 HPO
 by_cases he:f.err=0
 ·have hbt:b=true:=by have:=HPb.out;rw[HFX.out,decide_eq_true he] at this;exact this
  subst hbt
  have e3:(f.err==0)=true:=ieq_yes he
  obtain ⟨n,hnA,hv1,hv2⟩:=HPy.out rfl
  have HMM:Hid (mainNm∈s.map Nd.name):=check_main (by rw[HFX.out];exact he)
  have HNA:=Lib.hid hnA
  have HV1:=Lib.hid hv1
  have HV2:=Lib.hid hv2
  clear hnA hv1 hv2 HPb HPn HPy he
  go_upto_region 7 with (fail)
  go_cut[31] (fun v31 W=>v31= .bool false∧Below w6.heap.size w6 W)
  case first=>
   refine' zq26
  case rest=>
   obtain ⟨rfl,hbc⟩:=hcut
   have rsc:=rs6.below hbc rs6.lt
   obtain ⟨k,m,hk,hm,hnm⟩:=name_node HMM.out
   rw[HNA.out] at hnm
   cases hnm
   have hBc:=hB6.trans (hbc.mono hs6)
   have hsc:=hBc.size
   have HMA:=Lib.hid (rmain_any s A cap wc n k hk hm h1 h2 (HS.out wc (hB3.trans (hBc.mono hs3))))
   have HNS:Hid (NdSm n):=HSM.out.all n (List.mem_of_getElem? hm)
   have c0:=rsc.src
   clear hk hm
   go_wp2_with fail
   refine HMA.out.mono ?_
   rintro r w8 ⟨⟨a,rfl,hat⟩,hb8⟩
   have hs8:=hb8.size
   have rn:=Row.new w8 (ndArr n a) 39
   have ba:Below w8.heap.size w8 (w8.alloc (.cells (ndArr n a) 39)):=bE
   have hsa:=ba.size
   have HAT:Hid (∀W,Below w8.heap.size w8 W→NdAt W W.heap.size n a):=fun W hW=>(hat.below (hW.mono hs8)).more (Nat.le_trans hs8 hW.size)
   clear hat c0 HMA
   go_upto_region 12 with (fail)
   change Code.wp _ _ _ _ (w8.alloc (.cells (ndArr n a) 39))
   have hB9:=hb8.trans (ba.mono hs8)
   generalize w8.alloc (.cells (ndArr n a) 39)=W9 at*
   have HKN:Hid (∀W,Below W9.heap.size W9 W→W.cell? ⟨w8.heap.size,2,none⟩=some (.slice a.ao n.outs.length a.co)):=fun W hW=>((rn.below hW rn.lt).nd).2.2.1
   obtain ⟨-,d1,-⟩:=rn.nd
   have HT1:=Lib.hid (rtypes_any n.ins a.ai a.ci W9 (HAT.out W9 ba).mi HNS.out.ins (HAT.out W9 ba).si)
   go_wp2_with fail
   refine HT1.out.mono ?_
   rintro r w10 ⟨⟨v3,rfl,hv3⟩,hb10⟩
   have hs10:=hb10.size
   have hN10:=ba.trans (hb10.mono hsa)
   have h610:Below w6.heap.size w6 w10:=hbc.trans ((hB9.trans (hb10.mono hB9.size)).mono hbc.size)
   have HI1:Hid (Calls Tryz.prog 21 #[v1,v3] w10 fun e w'=>e= .returned (.bool true)∧∃n,w'=w10.drewN n):=by
    have:=rints_any (tysOf n.ins) (tysOf n.ins) v1 v3 _ w10 (ints_up HV1.out h610 h610.size) (ints_sl hv3 (tys_wf (HAT.out W9 ba).si))
    rw[cB_true rfl] at this
    exact this
   clear hv3 HT1 d1
   go_wp2_with fail
   refine HI1.out.mono ?_
   rintro r w11 ⟨rfl,n11,rfl⟩
   have b11:Below w10.heap.size w10 (w10.drewN n11):=below_drewN' (Below.refl _ _) _
   have hb911:Below W9.heap.size W9 (w10.drewN n11):=hb10.trans (b11.mono hs10)
   have d2:=HKN.out _ hb911
   have h611:=h610.trans (b11.mono h610.size)
   have hN11:=hN10.trans (b11.mono hN10.size)
   clear HI1
   generalize w10.drewN n11=w12 at*
   have HT2:=Lib.hid (rtypes_any n.outs a.ao a.co w12 (HAT.out w12 hN11).mo HNS.out.outs (HAT.out w12 hN11).so)
   go_wp2_with fail
   refine HT2.out.mono ?_
   rintro r w13 ⟨⟨v4,rfl,hv4⟩,hb13⟩
   have h613:Below w6.heap.size w6 w13:=h611.trans (hb13.mono h611.size)
   have HI2:Hid (Calls Tryz.prog 21 #[v2,v4] w13 fun e w'=>e= .returned (.bool true)∧∃n,w'=w13.drewN n):=by
    have:=rints_any (tysOf n.outs) (tysOf n.outs) v2 v4 _ w13 (ints_up HV2.out h613 h613.size) (ints_sl hv4 (tys_wf (HAT.out w12 hN11).so))
    rw[cB_true rfl] at this
    exact this
   have HBF:=Lib.hid (hB3.trans ((hB6.trans (h613.mono hs6)).mono hs3))
   clear hv4 HT2 d2
   go_wp2_with fail
   refine HI2.out.mono ?_
   rintro r w14 ⟨rfl,n14,rfl⟩
   go_wp2_with fail
   go_ret
   exact ⟨rfl,below_drewN' HBF.out _⟩
 ·have hbt:b=false:=by have:=HPb.out;rw[HFX.out,decide_eq_false he] at this;exact this
  subst hbt
  have e3:(f.err==0)=false:=ieq_no he
  obtain ⟨rfl,rfl⟩:=HPn.out rfl
  clear HPb HPn HPy he
  go_upto_region 7 with (fail)
  go_cut[31] (fun v31 W=>v31= .bool false∧Below w6.heap.size w6 W)
  case first=>
   refine' zq26
  case rest=>
   obtain ⟨rfl,hbc⟩:=hcut
   have HBF:=Lib.hid (hB3.trans ((hB6.trans (hbc.mono hs6)).mono hs3))
   go_wp2_with fail
   go_ret
   exact ⟨rfl,HBF.out⟩
end Go.Proofs.YtgjfkidbfmbjoaaGreat.checkSource
