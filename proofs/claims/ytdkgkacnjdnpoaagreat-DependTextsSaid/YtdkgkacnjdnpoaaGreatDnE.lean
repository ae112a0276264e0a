/-
  The contract of flat.Of, of a source without calls and clocks. The depend chapter's example as a flat: it is right; what flat.Of leaves in memory reads as it. Plain.
-/
import Derived.Test.YtdkgkacnjdnpoaaGreatZz
import Derived.Test.YtdkgkacnjdnpoaaGreatFoB
import Derived.Test.YtdkgkacnjdnpoaaGreatStzP
import Derived.Test.YtdkgkacnjdnpoaaGreatStzM
import Derived.Test.YtdkgkacnjdnpoaaGreatStzW
import Derived.Deep.RegionHeld3
import Derived.Test.YtdkgkacnjdnpoaaGreatFoL
import Derived.Test.YtdkgkacnjdnpoaaGreatExMem
import Derived.Test.YtdkgkacnjdnpoaaGreatTreePlain
import Derived.BigQuiet
import Derived.Test.YtdkgkacnjdnpoaaGreatRgL
import Derived.Test.YtdkgkacnjdnpoaaGreatCauD
import Derived.Deep.DeepCutAuto
import Derived.Test.YtdkgkacnjdnpoaaGreatFoD
import Derived.Test.YtdkgkacnjdnpoaaGreatScB
set_option maxHeartbeats 4000000
set_option maxRecDepth 100000
namespace Go.Proofs.YtdkgkacnjdnpoaaGreat
open Go.RowKit
attribute [local go_sem ↓] Go.wp_at_zero Go.wp_at_succ
attribute [local go_sem] field_flt
abbrev mkC (As vw vd vi vo:Value):Array Value:= #[As,vw,vd,vi,vo]
abbrev nl:Value:= .slice none 0 0
theorem csrc_ok {s:List Nd} {A:Option Addr} {cap:Nat} {w:World} (sm:SrcSm s) (h1:s.length≤cap) (h2:cap≤maxLen) (h:Nds w w.heap.size A s) (hck:checkF s=ft0):Calls Tryz.prog 27 #[srcV s A cap] w fun r w'=>r= .returned (ftV ft0)∧Below w.heap.size w w':=by
 have:=csource_any s A cap w sm h1 h2 h
 rwa [hck] at this
theorem flatOf_any {s:List Nd} {n:Nd} {A:Option Addr} {cap:Nat} (w:World) (sm:SrcSm s) (h1:s.length≤cap) (h2:cap≤maxLen) (h:Nds w w.heap.size A s) (hck:checkF s=ft0) (hn:nodeAt s mainNm=some n) (hc:NoClk n) (hnd:(nms (vrs n)).Nodup) (hz:sizeS s≤400) (D:List (Int × Ex)) (hD:D.length=n.eqs.length)
  (hq:∀(i:Nat) q,n.eqs[i]? =some q→∃nm y,q.left=[nm]∧nm∈nms (vrs n)∧q.right.op≠4∧Fw (wireOf n) (nms (vrs n)) q.right y∧D[i]? =some (wireOf n nm,y)) (hF:∀x,Wf (wireOf n x)):
  Calls Tryz.prog 15 #[srcV s A cap] w fun r w'=>(∃M vw vd vi vo T,r= .returned (.tuple #[.agg #[vw,vd,vi,vo],.int .i64 0])∧w.heap.size≤M∧McAt M (.slice A s.length cap) (M+1) w' (tysOf (vrs n)) vw vd vi vo∧FxI w' (M+1) 149 1 vd T∧T.map (fun t=>(t.pre,t.e))=D.map (fun d=>([.int .i64 d.1],d.2))∧IntsO (M+1) w' vi (nosF (wireOf n) n.ins)∧IntsO (M+1) w' vo (nosF (wireOf n) n.outs))∧Below w.heap.size w w':=by
 refine' zq87
 have HCK:Hid (∀W,Below w.heap.size w W→Calls Tryz.prog 27 #[srcV s A cap] W fun r w'=>r= .returned (ftV ft0)∧Below W.heap.size W w'):=fun W hW=>csrc_ok sm h1 h2 (nds_keep h (keeps_of hW) hW.size) hck
 have HZ:Hid (∀W,Below w.heap.size w W→Calls Tryz.prog 21 #[srcV s A cap] W fun r w'=>r= .returned (.int .i64 (sizeS s))∧Below W.heap.size W w'):=fun W hW=>size_any s A cap W sm h1 h2 (nds_keep h (keeps_of hW) hW.size)
 have hmem:mainNm∈s.map Nd.name:=check_main (by rw[hck])
 have hz':decide ((sizeS s:Int)>400)=false:=by rw[decide_eq_false_iff_not];omega
 obtain ⟨Z,hZ⟩:∃Z:Int,((sizeS s:Nat):Int)=Z:=⟨_,rfl⟩
 rw[hZ] at HZ hz'
 have HQ:=Lib.hid hq
 have HN:=Lib.hid hn
 have HC:=Lib.hid hc
 have HND:=Lib.hid hnd
 have HM:=Lib.hid hmem
 have HSM:=Lib.hid sm
 have HDL:=Lib.hid hD
 have HF:=Lib.hid hF
 have rs1:=(Row.new w #[.slice A s.length cap] 24).alloc (.cells #[nl,nl,nl,nl] 48)
 have rf1:=rowNew2 w (.cells #[.slice A s.length cap] 24) #[nl,nl,nl,nl] 48
 have b1:Below w.heap.size w ((w.alloc (.cells #[.slice A s.length cap] 24)).alloc (.cells #[nl,nl,nl,nl] 48)):=bE
 clear h sm hck hn hc hnd hq hmem hZ hz hD hF
 go_enter Tryz.func15,Tryz.ntmps15
 go_upto_region 1 with (fail)
 change Code.wp _ _ _ _ ((w.alloc (.cells #[.slice A s.length cap] 24)).alloc (.cells #[nl,nl,nl,nl] 48))
 generalize (w.alloc (.cells #[.slice A s.length cap] 24)).alloc (.cells #[nl,nl,nl,nl] 48)=W1 at*
 have hs1:=b1.size
 have c0:=rs1.src
 have H1:=Lib.hid (HCK.out W1 b1)
 go_wp2_with fail
 refine H1.out.mono ?_
 rintro r w2 ⟨rfl,hb2⟩
 have b2:=b1.trans (hb2.mono hs1)
 have rs2:=rs1.below hb2 rs1.lt
 have rf2:=rf1.below hb2 rf1.lt
 have hs2:=b2.size
 clear c0 rs1 rf1 hb2 H1
 have c0:=rs2.src
 have H2:=Lib.hid (HZ.out w2 b2)
 go_wp2_with fail
 refine H2.out.mono ?_
 rintro r w3 ⟨rfl,hb3⟩
 have b3:=b2.trans (hb3.mono hs2)
 have rs3:=rs2.below hb3 rs2.lt
 have rf3:=rf2.below hb3 rf2.lt
 have hs3:=b3.size
 clear c0 rs2 rf2 hb3 H2
 have c0:=rs3.src
 have b4:Below w3.heap.size w3 (w3.alloc (.cells (mkC (.slice A s.length cap) nl nl nl nl) 80)):=bE
 have rm:=Row.new w3 (mkC (.slice A s.length cap) nl nl nl nl) 80
 have hs4:w3.heap.size+1≤(w3.alloc (.cells (mkC (.slice A s.length cap) nl nl nl nl) 80)).heap.size:=by simp
 go_upto_region 6 with (fail)
 change Code.wp _ _ _ _ (w3.alloc (.cells (mkC (.slice A s.length cap) nl nl nl nl) 80))
 generalize w3.alloc (.cells (mkC (.slice A s.length cap) nl nl nl nl) 80)=w4 at*
 have H4:Hid (McAt w3.heap.size (.slice A s.length cap) (w3.heap.size+1) w4 [] nl nl nl nl):=⟨rm,World.ownsRow_nil _ _ _ _,Nat.lt_succ_self _,hs4⟩
 have HE:=Lib.hid (enter_any (N:=w.heap.size) w4 HSM.out h1 h2 (by omega) (HS.out w4 (b3.trans (b4.mono hs3))) H4.out HN.out HM.out HC.out HND.out)
 clear c0
 go_wp2_with fail
 refine HE.out.mono ?_
 rintro r w5 ⟨⟨P,K,a,vw,rfl,hP,hM5,hPb,hKb,hvw⟩,hu5⟩
 have hs5:=hu5.size
 have rf3lt:Hid (w.heap.size+1<w3.heap.size):=rf3.lt
 have b5:Below w3.heap.size w3 w5:=b4.trans (hu5.below (B:=w3.heap.size) (fun j e=>by omega) (by omega))
 have HP5:=Lib.hid hP
 have HM5:=Lib.hid hM5
 have HVW:=Lib.hid hvw
 have hPl:=hP.row.lt
 have hKl:=hP.map.lt
 have rf5:=rf3.below b5 rf3.lt
 have hs35:=b5.size
 clear hP hM5 hvw hu5 rs3 rf3 rm H4 HE HCK HZ
 have HSN:Hid (NdSm n):=HSM.out.all n (List.mem_of_find?_eq_some HN.out)
 have HLI:Hid (∀W,Below w5.heap.size w5 W→Calls Tryz.prog 30 #[.pointer (some ⟨P,0,none⟩),.slice a.ai n.ins.length a.ci] W fun r w'=>(∃v,r= .returned v∧IntsO W.heap.size w' v (nosF (wireOf n) n.ins))∧Below W.heap.size W w'):=fun W hW=>by
  have p:=HP5.out.below hW
  have d:=p.nd.more (Nat.le_trans p.hP (Nat.le_of_lt p.row.lt))
  exact list_any W p n.ins a.ai a.ci d.mi HSN.out.ins d.si (fun x hx=>⟨by have:=(HSN.out.all x (by simp[vrs,hx])).name;unfold maxLen;omega,List.mem_map.2 ⟨x,by simp[vrs,hx],rfl⟩⟩)
 have HLO:Hid (∀W,Below w5.heap.size w5 W→Calls Tryz.prog 30 #[.pointer (some ⟨P,0,none⟩),.slice a.ao n.outs.length a.co] W fun r w'=>(∃v,r= .returned v∧IntsO W.heap.size w' v (nosF (wireOf n) n.outs))∧Below W.heap.size W w'):=fun W hW=>by
  have p:=HP5.out.below hW
  have d:=p.nd.more (Nat.le_trans p.hP (Nat.le_of_lt p.row.lt))
  exact list_any W p n.outs a.ao a.co d.mo HSN.out.outs d.so (fun x hx=>⟨by have:=(HSN.out.all x (by simp[vrs,hx])).name;unfold maxLen;omega,List.mem_map.2 ⟨x,by simp[vrs,hx],rfl⟩⟩)
 have HS:Hid (∀W,Upd (fun j=>j=w3.heap.size) w5 W→W.cell? ⟨P,1,none⟩=some (.slice a.ai n.ins.length a.ci)∧W.cell? ⟨P,2,none⟩=some (.slice a.ao n.outs.length a.co)):=fun W hW=>by
  have p:=hW.row HP5.out.row (by omega)
  exact ⟨(p.cell 1).trans rfl,(p.cell 2).trans rfl⟩
 have HRM:Hid (∀W,Below w5.heap.size w5 W→W.frozen? ⟨w3.heap.size,3,none⟩=false∧W.frozen? ⟨w3.heap.size,4,none⟩=false∧W.cell? ⟨w3.heap.size,3,none⟩=some nl∧(∀u,(W.setCell ⟨w3.heap.size,3,none⟩ u).cell? ⟨w3.heap.size,4,none⟩=some nl)∧∀u,(W.setCell ⟨w3.heap.size,3,none⟩ u).frozen? ⟨w3.heap.size,4,none⟩=false):=fun W hW=>by
  have r:=HM5.out.row.below hW HM5.out.row.lt
  exact ⟨r.frozen 3,r.frozen 4,(r.cell 3).trans rfl,fun u=>((r.set 3 u).cell 4).trans rfl,fun u=>(r.set 3 u).frozen 4⟩
 have tok:Hid True:=Lib.hid trivial
 go_upto_region 7 with (fail)
 refine wp_region_held_drew (S:=fun W=>W.cell? ⟨P,1,none⟩=some (.slice a.ai n.ins.length a.ci)∧W.cell? ⟨P,2,none⟩=some (.slice a.ao n.outs.length a.co)) (by kernel_rfl) ?_ (fun hHeld=>?_)
 ·refine' zq53
 refine tk 0 (some 24) rfl ?_
 refine tk 1 (some 25) rfl ?_
 refine tk 2 (some 26) rfl ?_
 refine tk 3 (some 27) rfl ?_
 refine tk 4 (some 28) rfl ?_
 refine tk 5 (some 29) rfl ?_
 refine tk 6 (some 30) rfl ?_
 refine tk 7 (some 31) rfl ?_
 refine tk 9 (some 33) rfl ?_
 refine tk 10 (some 34) rfl ?_
 refine tk 11 (some 35) rfl ?_
 refine tk 12 (some 36) rfl ?_
 refine tk 13 (some 37) rfl ?_
 refine tk 14 (some 38) rfl ?_
 refine rd1 8 (some 32) rfl (fun KK hKK=>?_)
 refine' zq22
 refine rd1 15 (some 39) rfl (fun KK hKK=>?_)
 refine' zq22
 refine tk 16 (some 40) rfl ?_
 refine tk 17 (some 41) rfl ?_
 refine tk 18 (some 42) rfl ?_
 refine rd1 19 none rfl (fun KK hKK=>?_)
 go_simp
 refine' zq59
 refine tk 20 (some 43) rfl ?_
 refine tk 21 (some 44) rfl ?_
 refine tk 22 (some 45) rfl ?_
 refine rd1 23 none rfl (fun KK hKK=>?_)
 go_simp
 refine' zq59
 refine wpAnyH_done (by kernel_rfl) ?_ _
 have HVI':Hid (w6.ownsRow (w3.heap.size+1) 3 1 (.slice AI (nosF (wireOf n) n.ins).length cI) (nosF (wireOf n) n.ins).length (intsV (nosF (wireOf n) n.ins))):=own_base HVI.out (show w3.heap.size+1≤w5.heap.size by omega)
 have HVO':Hid (w7.ownsRow (w3.heap.size+1) 3 1 (.slice AO (nosF (wireOf n) n.outs).length cO) (nosF (wireOf n) n.outs).length (intsV (nosF (wireOf n) n.outs))):=own_base HVO.out (show w3.heap.size+1≤w6.heap.size by omega)
 have u8:Upd (fun j=>j=w3.heap.size) w7 ((w7.setCell ⟨w3.heap.size,3,none⟩ (.slice AI (nosF (wireOf n) n.ins).length cI)).setCell ⟨w3.heap.size,4,none⟩ (.slice AO (nosF (wireOf n) n.outs).length cO)):=Upd.setCell (Upd.setCell (Upd.refl _ _) (by exact rfl) _) (by exact rfl) _
 have r7:=HM5.out.row.below hB7 HM5.out.row.lt
 have r8:Row ((w7.setCell ⟨w3.heap.size,3,none⟩ (.slice AI (nosF (wireOf n) n.ins).length cI)).setCell ⟨w3.heap.size,4,none⟩ (.slice AO (nosF (wireOf n) n.outs).length cO)) w3.heap.size #[.slice A s.length cap,vw,nl,.slice AI (nosF (wireOf n) n.ins).length cI,.slice AO (nosF (wireOf n) n.outs).length cO] 80:=by
  have:=(r7.set 3 (.slice AI (nosF (wireOf n) n.ins).length cI)).set 4 (.slice AO (nosF (wireOf n) n.outs).length cO)
  simpa using this
 have hlow:w.heap.size+1<w3.heap.size:=rf3lt.out
 have rf8:=u8.row (rf5.below hB7 rf5.lt) (by omega)
 have hs8:=u8.size
 have hN7:Below w.heap.size w5 w7:=hB7.mono (by omega)
 have hP8:PlAt ((w7.setCell ⟨w3.heap.size,3,none⟩ (.slice AI (nosF (wireOf n) n.ins).length cI)).setCell ⟨w3.heap.size,4,none⟩ (.slice AO (nosF (wireOf n) n.outs).length cO)) P K w.heap.size n a (wireOf n) (nms (vrs n)):=by
  have p:=HP5.out.below hB7
  exact ⟨u8.row p.row (by omega),p.nd.keep (keeps_of (u8.below (B:=w.heap.size) (fun j e=>by omega) (by omega))) (Nat.le_refl _),p.map.upd u8 (by omega),p.hP,p.hK,p.ne⟩
 have hM8:McAt w3.heap.size (.slice A s.length cap) (w3.heap.size+1) ((w7.setCell ⟨w3.heap.size,3,none⟩ (.slice AI (nosF (wireOf n) n.ins).length cI)).setCell ⟨w3.heap.size,4,none⟩ (.slice AO (nosF (wireOf n) n.outs).length cO)) (tysOf (vrs n)) vw nl (.slice AI (nosF (wireOf n) n.ins).length cI) (.slice AO (nosF (wireOf n) n.outs).length cO):=
  ⟨r8,own_updX (own_below HM5.out.own hB7) u8 (fun k e=>by omega),Nat.lt_succ_self _,by omega⟩
 have hi8:=own_updX (own_below HVI'.out HBB.out) u8 (fun k e=>by omega)
 have ho8:=own_updX HVO'.out u8 (fun k e=>by omega)
 have hb8:Below w.heap.size w ((w7.setCell ⟨w3.heap.size,3,none⟩ (.slice AI (nosF (wireOf n) n.ins).length cI)).setCell ⟨w3.heap.size,4,none⟩ (.slice AO (nosF (wireOf n) n.outs).length cO)):=((b3.trans (b5.mono hs3)).trans hN7).trans (u8.below (B:=w.heap.size) (fun j e=>by omega) (by omega))
 simp only[Exit.then]
 rename_i K9 a9 q1 q2 q3 q4
 refine a9 _ _ ?_
 clear q1 q2 q3 q4 a9 K9 is3 is4 is5 fz3 fz4 fz5 fz6 HRM HS HLI HLO r7 u8 r8 HVI HVO hB6 HP5 HM5 HVI' HVO' HBB hN7
 generalize (w7.setCell ⟨w3.heap.size,3,none⟩ (.slice AI (nosF (wireOf n) n.ins).length cI)).setCell ⟨w3.heap.size,4,none⟩ (.slice AO (nosF (wireOf n) n.outs).length cO)=w8 at*
 have HB:=Lib.hid (body_any w8 hP8 hM8 (by omega) (by omega) (by omega) D HDL.out HQ.out HF.out HSN.out HC.out)
 have hMl:=hM8.row.lt
 have HI8:=Lib.hid hi8
 have HO8:=Lib.hid ho8
 have HB8:=Lib.hid hb8
 clear hP8 hM8 hi8 ho8 hb8
 go_wp2_with fail
 refine HB.out.mono ?_
 rintro r w9 ⟨rfl,⟨vd,T,hM9,hT,hTm,hvd⟩,hu9⟩
 have hs9:=hu9.size
 obtain ⟨Aw,cw,rfl,-⟩:=own_rd hM9.own
 obtain ⟨Ad,cd,rfl,-⟩:=own_rd hT.own
 have rf9:=hu9.row rf8 (by omega)
 have hi9:=own_updX HI8.out hu9 (fun k e=>by omega)
 have ho9:=own_updX HO8.out hu9 (fun k e=>by omega)
 have hb9:=HB8.out.trans (hu9.below (B:=w.heap.size) (fun j e=>by omega) (by omega))
 have m1:w9.cell? ⟨w3.heap.size,1,none⟩=some (.slice Aw (tysOf (vrs n)).length cw):=(hM9.row.cell 1).trans rfl
 have m2:w9.cell? ⟨w3.heap.size,2,none⟩=some (.slice Ad T.length cd):=(hM9.row.cell 2).trans rfl
 have m3:w9.cell? ⟨w3.heap.size,3,none⟩=some (.slice AI (nosF (wireOf n) n.ins).length cI):=(hM9.row.cell 3).trans rfl
 have m4:w9.cell? ⟨w3.heap.size,4,none⟩=some (.slice AO (nosF (wireOf n) n.outs).length cO):=(hM9.row.cell 4).trans rfl
 have g0:w9.cell? ⟨w.heap.size+1,0,none⟩=some nl:=(rf9.cell 0).trans rfl
 have g1:w9.cell? ⟨w.heap.size+1,1,none⟩=some nl:=(rf9.cell 1).trans rfl
 have g2:w9.cell? ⟨w.heap.size+1,2,none⟩=some nl:=(rf9.cell 2).trans rfl
 have g3:w9.cell? ⟨w.heap.size+1,3,none⟩=some nl:=(rf9.cell 3).trans rfl
 have z0:=rf9.frozen 0
 have z1:=rf9.frozen 1
 have z2:=rf9.frozen 2
 have z3:=rf9.frozen 3
 have us:Upd (fun j=>j=w.heap.size+1) w9 ((((w9.setCell ⟨w.heap.size+1,0,none⟩ (.slice Aw (tysOf (vrs n)).length cw)).setCell ⟨w.heap.size+1,1,none⟩ (.slice Ad T.length cd)).setCell ⟨w.heap.size+1,2,none⟩ (.slice AI (nosF (wireOf n) n.ins).length cI)).setCell ⟨w.heap.size+1,3,none⟩ (.slice AO (nosF (wireOf n) n.outs).length cO)):=Upd.setCell (Upd.setCell (Upd.setCell (Upd.setCell (Upd.refl _ _) (by exact rfl) _) (by exact rfl) _) (by exact rfl) _) (by exact rfl) _
 have rr:=(((rf9.set 0 (.slice Aw (tysOf (vrs n)).length cw)).set 1 (.slice Ad T.length cd)).set 2 (.slice AI (nosF (wireOf n) n.ins).length cI)).set 3 (.slice AO (nosF (wireOf n) n.outs).length cO)
 have HFIN:=Lib.hid (show McAt _ _ _ _ _ _ _ _ _ from hM9.upd us (by omega) (fun g hg e=>by have:=(hM9.own.lt g hg).1;omega))
 have HFT:=Lib.hid (hT.upd us (fun j e=>Or.inl (by omega)))
 have HFI:=Lib.hid (own_updX hi9 us (fun k e=>by omega))
 have HFO:=Lib.hid (own_updX ho9 us (fun k e=>by omega))
 have HFB:=Lib.hid (hb9.trans (us.below (B:=w.heap.size) (fun j e=>by omega) (by omega)))
 have HRR:=Lib.hid rr
 have HTM:=Lib.hid hTm
 clear HB hM9 hT hTm hvd hu9 rf8 rf9 hi9 ho9 hb9 us rr HI8 HO8 HB8
 go_wp2_with fail
 refine bodyPost_ret (res2 rfl Tryz.underlying48 rfl (by kernel_rfl) rfl rfl HRR.out) rfl ⟨⟨w3.heap.size,_,_,_,_,T,rfl,hs3,HFIN.out,HFT.out,HTM.out,HFI.out,HFO.out⟩,HFB.out⟩
end Go.Proofs.YtdkgkacnjdnpoaaGreat
namespace Go.Proofs.YtdkgkacnjdnpoaaGreat.Q.Fo
open Vf
abbrev yE:Ex:=⟨3,⟨#[]⟩,0,[],0,0⟩
abbrev yF0:Ex:=⟨3,⟨#[]⟩,1,[],0,0⟩
abbrev yF1:Ex:=⟨3,⟨#[]⟩,3,[],0,0⟩
abbrev yF:Ex:=⟨22,⟨#[]⟩,0,[yF0,yF1],0,0⟩
abbrev flD:List (Int × Ex):=[(2,yE),(3,yF)]
abbrev flE:Fl:=⟨[⟨1,[]⟩,⟨1,[]⟩,⟨1,[]⟩,⟨1,[]⟩],flD,[0,1],[2,3]⟩
theorem wE_a:wireOf ndE ⟨#[97]⟩=0:=by kernel_rfl
theorem wE_d:wireOf ndE ⟨#[100]⟩=1:=by kernel_rfl
theorem wE_b:wireOf ndE ⟨#[98]⟩=2:=by kernel_rfl
theorem wE_c:wireOf ndE ⟨#[99]⟩=3:=by kernel_rfl
theorem ndE_q:∀(i:Nat) q,ndE.eqs[i]? =some q→∃nm y,q.left=[nm]∧nm∈nms (vrs ndE)∧q.right.op≠4∧Fw (wireOf ndE) (nms (vrs ndE)) q.right y∧flD[i]? =some (wireOf ndE nm,y)
 |0,q,h=>by
  simp at h
  subst h
  refine ⟨_,_,rfl,by simp[nms,vrs],by decide,.var rfl rfl (by simp[nms,vrs,Ex.name]),?_⟩
  rw[wE_b]
  simp[exF,Ex.op,Ex.name,wE_a]
 |1,q,h=>by
  simp at h
  subst h
  refine ⟨_,_,rfl,by simp[nms,vrs],by decide,.two (.inr (.inl rfl)) rfl (.var rfl rfl (by simp[nms,vrs,Ex.name])) (.var rfl rfl (by simp[nms,vrs,Ex.name])),?_⟩
  rw[wE_c]
  simp[exF,Ex.op,Ex.name,Ex.n,wE_d,wE_c]
 |i+2,q,h=>by simp at h
theorem ndE_nodup:(nms (vrs ndE)).Nodup:=by simp[nms,vrs]
theorem srE_size:sizeS srE≤400:=size_free srE_main (fun q hq x hx=>(ndE_ops q hq x hx).1) (by decide)
theorem wE_wf (x:ByteArray):Wf (wireOf ndE x):=by
 rcases idx_cases (nms (vrs ndE)) x with ⟨k,h,hk,_⟩|⟨h,_⟩
 ·have hl:=(List.getElem?_eq_some_iff.1 hk).1
  have h4:(nms (vrs ndE)).length=4:=rfl
  show Wf (idxOf (nms (vrs ndE)) x)
  rw[h]
  exact wf_of ⟨by omega,by omega⟩
 ·show Wf (idxOf (nms (vrs ndE)) x)
  rw[h]
  exact wf_of ⟨by decide,by decide⟩
theorem yE_list:exList yE=[yE]:=by rw[exList_eq];simp[Ex.args]
theorem yF0_list:exList yF0=[yF0]:=by rw[exList_eq];simp[Ex.args]
theorem yF1_list:exList yF1=[yF1]:=by rw[exList_eq];simp[Ex.args]
theorem yF_list:exList yF=[yF,yF0,yF1]:=by rw[exList_eq];simp[Ex.args,yF0_list,yF1_list]
theorem flE_w {n:Int} (h:n=0∨n=1∨n=2∨n=3):isW flE.fm n∧tyOf flE.fm n=1∧clockOf flE.fm n=[]:=by
 rcases h with rfl|rfl|rfl|rfl<;>exact ⟨⟨by decide,by decide⟩,rfl,rfl⟩
theorem flE_size:∀d∈flE.defs,exSize d.2≤1000000:=by
 intro d hd
 simp at hd
 rcases hd with rfl|rfl
 ·unfold exSize;rw[yE_list];decide
 ·unfold exSize;rw[yF_list];decide
theorem flE_def:∀d∈flE.defs,defOkL flE d:=by
 intro d hd
 simp at hd
 have k0:kindE flE yE=1:=by rw[kindE_eq];simp[kind1,namedB,Ex.op,Ex.args,Ex.n,(flE_w (.inl rfl)).2.1]
 have k1:kindE flE yF0=1:=by rw[kindE_eq];simp[kind1,namedB,Ex.op,Ex.args,Ex.n,(flE_w (.inr (.inl rfl))).2.1]
 have k2:kindE flE yF1=1:=by rw[kindE_eq];simp[kind1,namedB,Ex.op,Ex.args,Ex.n,(flE_w (.inr (.inr (.inr rfl)))).2.1]
 have k3:kindE flE yF=1:=by rw[kindE_eq];simp[kind1,kindR,namedB,Ar.signB,getI,Ex.op,Ex.args,Ex.n,k1,k2]
 have g0:goesE flE yE []:=by rw[goesE_eq];simp[goes1,Ex.op,Ex.n,(flE_w (.inl rfl)).2.2]
 have g1:goesE flE yF0 []:=by rw[goesE_eq];simp[goes1,Ex.op,Ex.n,(flE_w (.inr (.inl rfl))).2.2]
 have g2:goesE flE yF1 []:=by rw[goesE_eq];simp[goes1,Ex.op,Ex.n,(flE_w (.inr (.inr (.inr rfl)))).2.2]
 have g3:goesE flE yF []:=by rw[goesE_eq];simp[goes1,Ex.op,Ex.args,g1,g2]
 have l0:lateE yE=0:=by rw[lateE_eq];simp[late1,Ex.op,Ex.args,maxL]
 have l1:lateE yF0=0:=by rw[lateE_eq];simp[late1,Ex.op,Ex.args,maxL]
 have l2:lateE yF1=0:=by rw[lateE_eq];simp[late1,Ex.op,Ex.args,maxL]
 have l3:lateE yF=0:=by rw[lateE_eq];simp[late1,Ex.op,Ex.args,maxL,l1,l2]
 rcases hd with rfl|rfl
 ·refine ⟨fun x hx=>?_,by simp[exHeight,Ex.para_eq,Ex.args,maxL],k0,g0,l0⟩
  dsimp only at hx
  rw[yE_list] at hx
  simp at hx
  subst hx
  exact ⟨by simp[Ex.name,ByteArray.toList_eq],by decide,by simp[partsZ,Ex.op,Ex.args],(flE_w (.inl rfl)).1⟩
 ·refine ⟨fun x hx=>?_,by simp[exHeight,Ex.para_eq,Ex.args,maxL],k3,g3,l3⟩
  dsimp only at hx
  rw[yF_list] at hx
  simp at hx
  rcases hx with rfl|rfl|rfl
  ·exact ⟨by simp[Ex.name,ByteArray.toList_eq],by decide,by simp[partsZ,Ex.op,Ex.args],rfl⟩
  ·exact ⟨by simp[Ex.name,ByteArray.toList_eq],by decide,by simp[partsZ,Ex.op,Ex.args],(flE_w (.inr (.inl rfl))).1⟩
  ·exact ⟨by simp[Ex.name,ByteArray.toList_eq],by decide,by simp[partsZ,Ex.op,Ex.args],(flE_w (.inr (.inr (.inr rfl)))).1⟩
theorem flE_done (n:Nat) (h:n<flE.wires.length):DoneL flE n:=by
 have d0:DoneL flE 0:= .ins 0 (by simp)
 have d1:DoneL flE 1:= .ins 1 (by simp)
 have w0:wantE yE=[0]:=by rw[wantE_eq];simp[want1,namedB,Ex.op,Ex.args,Ex.n]
 have w1:wantE yF0=[1]:=by rw[wantE_eq];simp[want1,namedB,Ex.op,Ex.args,Ex.n]
 have w3:wantE yF=[1]:=by rw[wantE_eq];simp[want1,namedB,Ex.op,Ex.args,w1]
 match n,h with
 |0,_=>exact d0
 |1,_=>exact d1
 |2,_=>exact .def_ (2,yE) (by simp) (fun m hm=>by dsimp only at hm;rw[w0] at hm;simp at hm;subst hm;exact d0) (fun g hg=>by dsimp only at hg;rw[(flE_w (.inr (.inr (.inl rfl)))).2.2] at hg;cases hg)
 |3,_=>exact .def_ (3,yF) (by simp) (fun m hm=>by dsimp only at hm;rw[w3] at hm;simp at hm;subst hm;exact d1) (fun g hg=>by dsimp only at hg;rw[(flE_w (.inr (.inr (.inr rfl)))).2.2] at hg;cases hg)
 |n+4,h=>simp at h;omega
theorem flE_ok:flatOk flE:=by
 refine ⟨⟨fun w hw=>?_,by decide,by decide⟩,⟨fun n hn=>?_,by decide,by decide⟩,⟨fun n hn=>?_,by decide,by decide⟩,⟨fun i j x y hij hi hj=>?_,fun a ha=>?_,fun i j x y hij hi hj=>?_,fun n hn=>?_⟩,flE_def,flE_done⟩
 ·simp at hw
  subst hw
  exact ⟨.inl rfl,fun i g hg=>by simp at hg⟩
 ·have h:n=0∨n=1:=by simpa using hn
  have:=flE_w (n:=n) (by omega)
  exact ⟨this.1,this.2.2⟩
 ·have h:n=2∨n=3:=by simpa using hn
  have:=flE_w (n:=n) (by omega)
  exact ⟨this.1,this.2.2⟩
 ·match i,j,hij,hi,hj with
  |0,1,_,hi,hj=>simp[Fl.fm] at hi hj;omega
  |0,0,h,_,_=>omega
  |i+1,1,h,_,_=>omega
  |i+1,0,h,_,_=>omega
  |_,j+2,_,_,hj=>simp[Fl.fm] at hj
 ·simp[Fl.fm] at ha
  rcases ha with rfl|rfl
  ·exact ⟨(flE_w (.inr (.inr (.inl rfl)))).1,by simp[Fl.fm]⟩
  ·exact ⟨(flE_w (.inr (.inr (.inr rfl)))).1,by simp[Fl.fm]⟩
 ·match i,j,hij,hi,hj with
  |0,1,_,hi,hj=>
   simp[Fl.fm] at hi hj
   subst hi hj
   decide
  |0,0,h,_,_=>omega
  |i+1,1,h,_,_=>omega
  |i+1,0,h,_,_=>omega
  |_,j+2,_,_,hj=>simp[Fl.fm] at hj
 ·match n,hn with
  |0,_=>exact .inl (by simp[Fl.fm])
  |1,_=>exact .inl (by simp[Fl.fm])
  |2,_=>exact .inr ⟨_,by simp[Fl.fm];exact .inl rfl,rfl⟩
  |3,_=>exact .inr ⟨_,by simp[Fl.fm];exact .inr rfl,rfl⟩
  |n+4,h=>simp[Fl.fm] at h;omega
theorem wires_sl {w:World} {base:Nat} {v:Value} {tys:List Int} (h:w.ownsRow base 141 2 v tys.length (wiresC tys)) (hw:∀t∈tys,Wf t):SlV w w.heap.size 2 (Q.isWr w w.heap.size) v (tys.map fun t=>(⟨t,[]⟩:Wr)):=by
 refine SlV.keep (own_slx (lo:=0) (rel:=Q.isWr w w.heap.size) (l:=tys.map fun t=>(⟨t,[]⟩:Wr)) h (Nat.zero_le _) (by simp) (fun i x hx=>?_)) (fun p u _ hc=>hide_cell hc) (Nat.le_refl _) (fun _ _ _ g=>g)
 rw[List.getElem?_map] at hx
 obtain ⟨t,ht,rfl⟩:=Option.map_eq_some_iff.1 hx
 refine ⟨[.int .i64 t,.slice none 0 0],rfl,fun j hj=>?_,_,rfl,hw t (List.mem_of_getElem? ht),SlV.nil⟩
 exact (flatten_get (k:=2) (fun cs hcs=>by obtain ⟨t,_,rfl⟩:=List.mem_map.1 hcs;rfl) (by rw[List.getElem?_map,ht];rfl) hj).symm
theorem ints_whole {w:World} {base:Nat} {v:Value} {l:List Int} (h:IntsO base w v l) (hw:∀t∈l,Wf t):SlV w w.heap.size 1 isInt v l:=by
 refine SlV.keep (own_slx (lo:=0) (rel:=isInt) (l:=l) h (Nat.zero_le _) rfl (fun i x hx=>?_)) (fun p u _ hc=>hide_cell hc) (Nat.le_refl _) (fun _ _ _ g=>g)
 refine ⟨[.int .i64 x],rfl,fun j hj=>?_,rfl,hw x (List.mem_of_getElem? hx)⟩
 obtain rfl:j=0:=by omega
 simp[intsV,hx]
theorem flE_at {M:Nat} {As vw vd vi vo:Value} {w:World} {T:List FT} (hM:McAt M As (M+1) w (tysOf (vrs ndE)) vw vd vi vo) (hT:FxI w (M+1) 149 1 vd T) (hm:T.map (fun t=>(t.pre,t.e))=flD.map (fun d=>([.int .i64 d.1],d.2))) (hi:IntsO (M+1) w vi (nosF (wireOf ndE) ndE.ins)) (ho:IntsO (M+1) w vo (nosF (wireOf ndE) ndE.outs)):Q.FlAt w w.heap.size flE vw vd vi vo:=by
 have ei:nosF (wireOf ndE) ndE.ins=[0,1]:=by simp[nosF,wE_a,wE_d]
 have eo:nosF (wireOf ndE) ndE.outs=[2,3]:=by simp[nosF,wE_b,wE_c]
 rw[ei] at hi
 rw[eo] at ho
 have et:tysOf (vrs ndE)=[1,1,1,1]:=by simp[tysOf,vrs]
 have hown:=hM.own
 rw[et] at hown
 have hl:flD=T.map (fun t=>(match t.pre with| [.int _ n]=>n|_=>0,t.e)):=by
  have:=congrArg (List.map (fun x:List Value × Ex=>((match x.1 with| [.int _ n]=>n|_=>0:Int),x.2))) hm
  rw[List.map_map,List.map_map] at this
  exact this.symm
 refine ⟨wires_sl hown (fun t ht=>by simp at ht;subst ht;exact wf_of ⟨by decide,by decide⟩),?_,ints_whole hi (fun t ht=>by simp at ht;rcases ht with rfl|rfl<;>exact wf_of ⟨by decide,by decide⟩),ints_whole ho (fun t ht=>by simp at ht;rcases ht with rfl|rfl<;>exact wf_of ⟨by decide,by decide⟩)⟩
 refine SlV.keep (hT.sl (rel:=Q.isDf w w.heap.size) (B:=0) (Nat.zero_le _) hl (fun t ht hx=>?_)) (fun p u _ hc=>hide_cell hc) (Nat.le_refl _) (fun _ _ _ g=>g)
 have hp:(t.pre,t.e)∈flD.map (fun d=>([Value.int .i64 d.1],d.2)):=by rw[←hm];exact List.mem_map_of_mem ht
 obtain ⟨d,hd,e⟩:=List.mem_map.1 hp
 have e1:t.pre=[.int .i64 d.1]:=(congrArg Prod.fst e).symm
 have e2:t.e=d.2:=(congrArg Prod.snd e).symm
 have hw:Wf d.1:=by
  simp at hd
  rcases hd with rfl|rfl<;>exact wf_of ⟨by decide,by decide⟩
 refine ⟨by rw[e1];exact hw,exCells t.e t.A t.c,?_,IsEx.keepS (fun p u hp hc=>hide_cell hc) hx⟩
 show t.pre++_=_
 rw[e1]
 rfl
end Go.Proofs.YtdkgkacnjdnpoaaGreat.Q.Fo
