/-
  The contracts of check.Source and of tompionref21.Source: one check behind the other.
-/
import Derived.Test.YtdkgkacnjdnpoaaGreatRepL
import Derived.Test.YtdkgkacnjdnpoaaGreatTyF
import Derived.Test.YtdkgkacnjdnpoaaGreatCkA
import Derived.Test.YtdkgkacnjdnpoaaGreatCkB
import Derived.Test.YtdkgkacnjdnpoaaGreatOnsC
import Derived.Test.YtdkgkacnjdnpoaaGreatCauD
import Derived.Test.YtdkgkacnjdnpoaaGreatScI
import Derived.Test.YtdkgkacnjdnpoaaGreatTyDz
import Derived.Test.YtdkgkacnjdnpoaaGreatCalB
import Derived.Test.YtdkgkacnjdnpoaaGreatStrP
import Derived.Test.YtdkgkacnjdnpoaaGreatCauA
set_option maxHeartbeats 1000000
set_option maxRecDepth 100000
namespace Go.Proofs.YtdkgkacnjdnpoaaGreat
open Go.RowKit
attribute [local go_sem ↓] Go.wp_at_zero Go.wp_at_succ
noncomputable def checkF (s:List Nd):Ft:=fstl [scopeF s,typesF s,callsF s,clockF s,onsF s,causeF s]
theorem Row.has {W:World} {b i:Nat} {arr:Array Value} {t:TypeId} (h:Row W b arr t) (hi:i<arr.size):∃u,W.cell? ⟨b,i,none⟩=some u:=⟨arr[i],by rw[h.cell i,Array.getElem?_eq_getElem hi]⟩
theorem Row.put3 {W:World} {b k:Nat} {arr:Array Value} {t:TypeId} (h:Row W b arr t) (hk:k+2<arr.size) (x0 x1 x2:Value):∃arr':Array Value,arr'.size=arr.size∧Row (((W.setCell ⟨b,k,none⟩ x0).setCell ⟨b,k+1,none⟩ x1).setCell ⟨b,k+2,none⟩ x2) b arr' t∧arr'[k]? =some x0∧arr'[k+1]? =some x1∧arr'[k+2]? =some x2:=by
 refine ⟨((arr.setIfInBounds k x0).setIfInBounds (k+1) x1).setIfInBounds (k+2) x2,by simp,((h.set k x0).set (k+1) x1).set (k+2) x2,?_,?_,?_⟩
 ·rw[Array.getElem?_setIfInBounds_ne (by omega),Array.getElem?_setIfInBounds_ne (by omega),Array.getElem?_setIfInBounds_self_of_lt (by omega)]
 ·rw[Array.getElem?_setIfInBounds_ne (by omega),Array.getElem?_setIfInBounds_self_of_lt (by simp;omega)]
 ·rw[Array.getElem?_setIfInBounds_self_of_lt (by simp;omega)]
theorem upd_cells3 (w:World) (g k:Nat) (y0 y1 y2:Value):Upd (fun x=>x=g) w (((w.setCell ⟨g,k,none⟩ y0).setCell ⟨g,k+1,none⟩ y1).setCell ⟨g,k+2,none⟩ y2):=
 (((Upd.refl (fun x=>x=g) w).setCell (p:=⟨g,k,none⟩) rfl y0).setCell (p:=⟨g,k+1,none⟩) rfl y1).setCell (p:=⟨g,k+2,none⟩) rfl y2
abbrev fd18:Array Value:= #[.int .i64 0,.int .i64 0,.int .i64 0,.int .i64 0,.int .i64 0,.int .i64 0,.int .i64 0,.int .i64 0,.int .i64 0,.int .i64 0,.int .i64 0,.int .i64 0,.int .i64 0,.int .i64 0,.int .i64 0,.int .i64 0,.int .i64 0,.int .i64 0]
theorem csource_any (s:List Nd) (A:Option Addr) (cap:Nat) (w:World) (sm:SrcSm s) (h1:s.length≤cap) (h2:cap≤maxLen) (h:Nds w w.heap.size A s):
  Calls Tryz.prog 27 #[srcV s A cap] w fun r w'=>r= .returned (ftV (checkF s))∧Below w.heap.size w w':=by
 have b1:Below w.heap.size w (((w.alloc (.cells #[.slice A s.length cap] 24)).alloc (.cells ftC0 38)).alloc (.cells fd18 137)):=bE
 have rs1:=((Row.new w #[.slice A s.length cap] 24).alloc (.cells ftC0 38)).alloc (.cells fd18 137)
 have rf1:=(rowNew2 w (.cells #[.slice A s.length cap] 24) ftC0 38).alloc (.cells fd18 137)
 have rd1:Row (((w.alloc (.cells #[.slice A s.length cap] 24)).alloc (.cells ftC0 38)).alloc (.cells fd18 137)) (w.heap.size+2) fd18 137:=by
  have:=Row.new ((w.alloc (.cells #[.slice A s.length cap] 24)).alloc (.cells ftC0 38)) fd18 137
  simpa using this
 have HS:Hid (∀W,Below w.heap.size w W→Nds W W.heap.size A s):=fun W hW=>nds_keep h (keeps_of hW) hW.size
 obtain ⟨f1,HF1⟩:∃f,Hid (scopeF s=f):=⟨_,rfl⟩
 have HC1:Hid (∀W,Below w.heap.size w W→Calls Tryz.prog 54 #[srcV s A cap] W fun r w'=>r= .returned (ftV f1)∧Below W.heap.size W w'):=fun W hW=>by rw[←HF1.out];exact check15_any s A cap W sm h1 h2 (HS.out W hW)
 obtain ⟨f2,HF2⟩:∃f,Hid (typesF s=f):=⟨_,rfl⟩
 have HC2:Hid (∀W,Below w.heap.size w W→Calls Tryz.prog 55 #[srcV s A cap] W fun r w'=>r= .returned (ftV f2)∧Below W.heap.size W w'):=fun W hW=>by rw[←HF2.out];exact tcheck_any s A cap W sm h1 h2 (HS.out W hW)
 obtain ⟨f3,HF3⟩:∃f,Hid (callsF s=f):=⟨_,rfl⟩
 have HC3:Hid (∀W,Below w.heap.size w W→Calls Tryz.prog 56 #[srcV s A cap] W fun r w'=>r= .returned (ftV f3)∧Below W.heap.size W w'):=fun W hW=>by rw[←HF3.out];exact check_calls s A cap W sm h1 h2 (HS.out W hW)
 obtain ⟨f4,HF4⟩:∃f,Hid (clockF s=f):=⟨_,rfl⟩
 have HC4:Hid (∀W,Below w.heap.size w W→Calls Tryz.prog 57 #[srcV s A cap] W fun r w'=>r= .returned (ftV f4)∧Below W.heap.size W w'):=fun W hW=>by rw[←HF4.out];exact ccheck_any s A cap W sm h1 h2 (HS.out W hW)
 obtain ⟨f5,HF5⟩:∃f,Hid (onsF s=f):=⟨_,rfl⟩
 have HC5:Hid (∀W,Below w.heap.size w W→Calls Tryz.prog 58 #[srcV s A cap] W fun r w'=>r= .returned (ftV f5)∧Below W.heap.size W w'):=fun W hW=>by rw[←HF5.out];exact ocheck_any s A cap W sm h1 h2 (HS.out W hW)
 obtain ⟨f6,HF6⟩:∃f,Hid (causeF s=f):=⟨_,rfl⟩
 have HC6:Hid (∀W,Below w.heap.size w W→Calls Tryz.prog 59 #[srcV s A cap] W fun r w'=>r= .returned (ftV f6)∧Below W.heap.size W w'):=fun W hW=>by rw[←HF6.out];exact cacheck_any s A cap W sm h1 h2 (HS.out W hW)
 have HK:Hid (checkF s=fstl [f1,f2,f3,f4,f5,f6]):=by show _=_;unfold checkF;rw[HF1.out,HF2.out,HF3.out,HF4.out,HF5.out,HF6.out]
 clear h sm HF1 HF2 HF3 HF4 HF5 HF6
 go_enter Tryz.func27,Tryz.ntmps27
 go_upto_region 2 with (fail)
 change Code.wp _ _ _ _ (((w.alloc (.cells #[.slice A s.length cap] 24)).alloc (.cells ftC0 38)).alloc (.cells fd18 137))
 generalize ((w.alloc (.cells #[.slice A s.length cap] 24)).alloc (.cells ftC0 38)).alloc (.cells fd18 137)=W1 at*
 have hs1:=b1.size
 go_wp2_with fail
 go_loopw[5] (fun i wr=>∃(k:Nat) (arr:Array Value),k≤6∧i= .int .i64 k∧Hid (checkF s=fstl (List.drop k [f1,f2,f3,f4,f5,f6]))∧arr.size=18∧Row wr w.heap.size #[.slice A s.length cap] 24∧Row wr (w.heap.size+1) ftC0 38∧Row wr (w.heap.size+2) arr 137∧Below w.heap.size w wr) (fun i _=>6-(intOf i).toNat)
 case atStart=>exact ⟨0,fd18,by omega,rfl,HK,rfl,rs1,rf1,rd1,b1⟩
 case round=>
  obtain ⟨k,arr,hk,rfl,HN,ha,rs,rf,rd,hB⟩:=hrel
  have hsB:=hB.size
  have c0:=rs.src
  rcases (by omega:k=0∨k=1∨k=2∨k=3∨k=4∨k=5∨k=6) with rfl|rfl|rfl|rfl|rfl|rfl|rfl
  ·go_wp2_with fail
   refine (HC1.out _ hB).mono ?_
   rintro r w4 ⟨rfl,hb4⟩
   have rs4:=rs.below hb4 rs.lt
   have rf4:=rf.below hb4 rf.lt
   have rd4:=rd.below hb4 rd.lt
   have hB4:=hB.trans (hb4.mono hsB)
   obtain ⟨u0,y0⟩:=rd4.has (i:=0) (by omega)
   obtain ⟨u1,y1⟩:=rd4.has (i:=1) (by omega)
   obtain ⟨u2,y2⟩:=rd4.has (i:=2) (by omega)
   have z0:=rd4.frozen 0
   have z1:=rd4.frozen 1
   have z2:=rd4.frozen 2
   obtain ⟨arr',ha',rd5,x0,x1,x2⟩:=rd4.put3 (k:=0) (by omega) (.int .i64 f1.err) (.int .i64 f1.line) (.int .i64 f1.col)
   have u5:=upd_cells3 w4 (w.heap.size+2) 0 (.int .i64 f1.err) (.int .i64 f1.line) (.int .i64 f1.col)
   clear c0 rs rf rd
   go_upto_region 17 with (fail)
   clear y0 y1 y2 z0 z1 z2
   have rs5:=u5.row rs4 (by omega)
   have rf5:=u5.row rf4 (by omega)
   have hB5:=hB4.trans (Upd.below u5 (fun k e=>by omega) (by have:=hB4.size;omega))
   generalize ((w4.setCell ⟨w.heap.size+2,0,none⟩ (.int .i64 f1.err)).setCell ⟨w.heap.size+2,1,none⟩ (.int .i64 f1.line)).setCell ⟨w.heap.size+2,2,none⟩ (.int .i64 f1.col)=W5 at*
   have k0:=(rd5.cell 0).trans x0
   have k1:=(rd5.cell 1).trans x1
   have k2:=(rd5.cell 2).trans x2
   obtain ⟨⟨j0,j1,j2⟩,g0,g1,g2⟩:=rf5.three
   by_cases he:f1.err=0
   ·have e1:(f1.err !=0)=false:=neq_no he
    have HN1:Hid (checkF s=fstl (List.drop 1 [f1,f2,f3,f4,f5,f6])):=HN.out.trans (fstl_cons0 he)
    clear he
    go_wp2_with fail
    go_roundw
    case rel=>exact ⟨1,arr',by omega,by go_num,HN1,ha'.trans ha,rs5,rf5,rd5,hB5⟩
    case measure=>first|(simp[intOf];omega)|simp[intOf]
   ·have e1:(f1.err !=0)=true:=neq_yes he
    have HF:Hid (checkF s=f1):=HN.out.trans (fstl_cons1 he)
    clear he
    go_wp2_with fail
    exact bodyPost_ret (res1 rfl Tryz.underlying38 rfl (by kernel_rfl) rfl (rf5.set3 _ _ _)) rfl ⟨(congrArg (fun f=>Ending.returned (ftV f)) HF.out).symm,below_set3 hB5 (by omega) _ _ _⟩
  ·go_wp2_with fail
   refine (HC2.out _ hB).mono ?_
   rintro r w4 ⟨rfl,hb4⟩
   have rs4:=rs.below hb4 rs.lt
   have rf4:=rf.below hb4 rf.lt
   have rd4:=rd.below hb4 rd.lt
   have hB4:=hB.trans (hb4.mono hsB)
   obtain ⟨u0,y0⟩:=rd4.has (i:=3) (by omega)
   obtain ⟨u1,y1⟩:=rd4.has (i:=4) (by omega)
   obtain ⟨u2,y2⟩:=rd4.has (i:=5) (by omega)
   have z0:=rd4.frozen 3
   have z1:=rd4.frozen 4
   have z2:=rd4.frozen 5
   obtain ⟨arr',ha',rd5,x0,x1,x2⟩:=rd4.put3 (k:=3) (by omega) (.int .i64 f2.err) (.int .i64 f2.line) (.int .i64 f2.col)
   have u5:=upd_cells3 w4 (w.heap.size+2) 3 (.int .i64 f2.err) (.int .i64 f2.line) (.int .i64 f2.col)
   clear c0 rs rf rd
   go_upto_region 17 with (fail)
   clear y0 y1 y2 z0 z1 z2
   have rs5:=u5.row rs4 (by omega)
   have rf5:=u5.row rf4 (by omega)
   have hB5:=hB4.trans (Upd.below u5 (fun k e=>by omega) (by have:=hB4.size;omega))
   generalize ((w4.setCell ⟨w.heap.size+2,3,none⟩ (.int .i64 f2.err)).setCell ⟨w.heap.size+2,4,none⟩ (.int .i64 f2.line)).setCell ⟨w.heap.size+2,5,none⟩ (.int .i64 f2.col)=W5 at*
   have k0:=(rd5.cell 3).trans x0
   have k1:=(rd5.cell 4).trans x1
   have k2:=(rd5.cell 5).trans x2
   obtain ⟨⟨j0,j1,j2⟩,g0,g1,g2⟩:=rf5.three
   by_cases he:f2.err=0
   ·have e1:(f2.err !=0)=false:=neq_no he
    have HN1:Hid (checkF s=fstl (List.drop 2 [f1,f2,f3,f4,f5,f6])):=HN.out.trans (fstl_cons0 he)
    clear he
    go_wp2_with fail
    go_roundw
    case rel=>exact ⟨2,arr',by omega,by go_num,HN1,ha'.trans ha,rs5,rf5,rd5,hB5⟩
    case measure=>first|(simp[intOf];omega)|simp[intOf]
   ·have e1:(f2.err !=0)=true:=neq_yes he
    have HF:Hid (checkF s=f2):=HN.out.trans (fstl_cons1 he)
    clear he
    go_wp2_with fail
    exact bodyPost_ret (res1 rfl Tryz.underlying38 rfl (by kernel_rfl) rfl (rf5.set3 _ _ _)) rfl ⟨(congrArg (fun f=>Ending.returned (ftV f)) HF.out).symm,below_set3 hB5 (by omega) _ _ _⟩
  ·go_wp2_with fail
   refine (HC3.out _ hB).mono ?_
   rintro r w4 ⟨rfl,hb4⟩
   have rs4:=rs.below hb4 rs.lt
   have rf4:=rf.below hb4 rf.lt
   have rd4:=rd.below hb4 rd.lt
   have hB4:=hB.trans (hb4.mono hsB)
   obtain ⟨u0,y0⟩:=rd4.has (i:=6) (by omega)
   obtain ⟨u1,y1⟩:=rd4.has (i:=7) (by omega)
   obtain ⟨u2,y2⟩:=rd4.has (i:=8) (by omega)
   have z0:=rd4.frozen 6
   have z1:=rd4.frozen 7
   have z2:=rd4.frozen 8
   obtain ⟨arr',ha',rd5,x0,x1,x2⟩:=rd4.put3 (k:=6) (by omega) (.int .i64 f3.err) (.int .i64 f3.line) (.int .i64 f3.col)
   have u5:=upd_cells3 w4 (w.heap.size+2) 6 (.int .i64 f3.err) (.int .i64 f3.line) (.int .i64 f3.col)
   clear c0 rs rf rd
   go_upto_region 17 with (fail)
   clear y0 y1 y2 z0 z1 z2
   have rs5:=u5.row rs4 (by omega)
   have rf5:=u5.row rf4 (by omega)
   have hB5:=hB4.trans (Upd.below u5 (fun k e=>by omega) (by have:=hB4.size;omega))
   generalize ((w4.setCell ⟨w.heap.size+2,6,none⟩ (.int .i64 f3.err)).setCell ⟨w.heap.size+2,7,none⟩ (.int .i64 f3.line)).setCell ⟨w.heap.size+2,8,none⟩ (.int .i64 f3.col)=W5 at*
   have k0:=(rd5.cell 6).trans x0
   have k1:=(rd5.cell 7).trans x1
   have k2:=(rd5.cell 8).trans x2
   obtain ⟨⟨j0,j1,j2⟩,g0,g1,g2⟩:=rf5.three
   by_cases he:f3.err=0
   ·have e1:(f3.err !=0)=false:=neq_no he
    have HN1:Hid (checkF s=fstl (List.drop 3 [f1,f2,f3,f4,f5,f6])):=HN.out.trans (fstl_cons0 he)
    clear he
    go_wp2_with fail
    go_roundw
    case rel=>exact ⟨3,arr',by omega,by go_num,HN1,ha'.trans ha,rs5,rf5,rd5,hB5⟩
    case measure=>first|(simp[intOf];omega)|simp[intOf]
   ·have e1:(f3.err !=0)=true:=neq_yes he
    have HF:Hid (checkF s=f3):=HN.out.trans (fstl_cons1 he)
    clear he
    go_wp2_with fail
    exact bodyPost_ret (res1 rfl Tryz.underlying38 rfl (by kernel_rfl) rfl (rf5.set3 _ _ _)) rfl ⟨(congrArg (fun f=>Ending.returned (ftV f)) HF.out).symm,below_set3 hB5 (by omega) _ _ _⟩
  ·go_wp2_with fail
   refine (HC4.out _ hB).mono ?_
   rintro r w4 ⟨rfl,hb4⟩
   have rs4:=rs.below hb4 rs.lt
   have rf4:=rf.below hb4 rf.lt
   have rd4:=rd.below hb4 rd.lt
   have hB4:=hB.trans (hb4.mono hsB)
   obtain ⟨u0,y0⟩:=rd4.has (i:=9) (by omega)
   obtain ⟨u1,y1⟩:=rd4.has (i:=10) (by omega)
   obtain ⟨u2,y2⟩:=rd4.has (i:=11) (by omega)
   have z0:=rd4.frozen 9
   have z1:=rd4.frozen 10
   have z2:=rd4.frozen 11
   obtain ⟨arr',ha',rd5,x0,x1,x2⟩:=rd4.put3 (k:=9) (by omega) (.int .i64 f4.err) (.int .i64 f4.line) (.int .i64 f4.col)
   have u5:=upd_cells3 w4 (w.heap.size+2) 9 (.int .i64 f4.err) (.int .i64 f4.line) (.int .i64 f4.col)
   clear c0 rs rf rd
   go_upto_region 17 with (fail)
   clear y0 y1 y2 z0 z1 z2
   have rs5:=u5.row rs4 (by omega)
   have rf5:=u5.row rf4 (by omega)
   have hB5:=hB4.trans (Upd.below u5 (fun k e=>by omega) (by have:=hB4.size;omega))
   generalize ((w4.setCell ⟨w.heap.size+2,9,none⟩ (.int .i64 f4.err)).setCell ⟨w.heap.size+2,10,none⟩ (.int .i64 f4.line)).setCell ⟨w.heap.size+2,11,none⟩ (.int .i64 f4.col)=W5 at*
   have k0:=(rd5.cell 9).trans x0
   have k1:=(rd5.cell 10).trans x1
   have k2:=(rd5.cell 11).trans x2
   obtain ⟨⟨j0,j1,j2⟩,g0,g1,g2⟩:=rf5.three
   by_cases he:f4.err=0
   ·have e1:(f4.err !=0)=false:=neq_no he
    have HN1:Hid (checkF s=fstl (List.drop 4 [f1,f2,f3,f4,f5,f6])):=HN.out.trans (fstl_cons0 he)
    clear he
    go_wp2_with fail
    go_roundw
    case rel=>exact ⟨4,arr',by omega,by go_num,HN1,ha'.trans ha,rs5,rf5,rd5,hB5⟩
    case measure=>first|(simp[intOf];omega)|simp[intOf]
   ·have e1:(f4.err !=0)=true:=neq_yes he
    have HF:Hid (checkF s=f4):=HN.out.trans (fstl_cons1 he)
    clear he
    go_wp2_with fail
    exact bodyPost_ret (res1 rfl Tryz.underlying38 rfl (by kernel_rfl) rfl (rf5.set3 _ _ _)) rfl ⟨(congrArg (fun f=>Ending.returned (ftV f)) HF.out).symm,below_set3 hB5 (by omega) _ _ _⟩
  ·go_wp2_with fail
   refine (HC5.out _ hB).mono ?_
   rintro r w4 ⟨rfl,hb4⟩
   have rs4:=rs.below hb4 rs.lt
   have rf4:=rf.below hb4 rf.lt
   have rd4:=rd.below hb4 rd.lt
   have hB4:=hB.trans (hb4.mono hsB)
   obtain ⟨u0,y0⟩:=rd4.has (i:=12) (by omega)
   obtain ⟨u1,y1⟩:=rd4.has (i:=13) (by omega)
   obtain ⟨u2,y2⟩:=rd4.has (i:=14) (by omega)
   have z0:=rd4.frozen 12
   have z1:=rd4.frozen 13
   have z2:=rd4.frozen 14
   obtain ⟨arr',ha',rd5,x0,x1,x2⟩:=rd4.put3 (k:=12) (by omega) (.int .i64 f5.err) (.int .i64 f5.line) (.int .i64 f5.col)
   have u5:=upd_cells3 w4 (w.heap.size+2) 12 (.int .i64 f5.err) (.int .i64 f5.line) (.int .i64 f5.col)
   clear c0 rs rf rd
   go_upto_region 17 with (fail)
   clear y0 y1 y2 z0 z1 z2
   have rs5:=u5.row rs4 (by omega)
   have rf5:=u5.row rf4 (by omega)
   have hB5:=hB4.trans (Upd.below u5 (fun k e=>by omega) (by have:=hB4.size;omega))
   generalize ((w4.setCell ⟨w.heap.size+2,12,none⟩ (.int .i64 f5.err)).setCell ⟨w.heap.size+2,13,none⟩ (.int .i64 f5.line)).setCell ⟨w.heap.size+2,14,none⟩ (.int .i64 f5.col)=W5 at*
   have k0:=(rd5.cell 12).trans x0
   have k1:=(rd5.cell 13).trans x1
   have k2:=(rd5.cell 14).trans x2
   obtain ⟨⟨j0,j1,j2⟩,g0,g1,g2⟩:=rf5.three
   by_cases he:f5.err=0
   ·have e1:(f5.err !=0)=false:=neq_no he
    have HN1:Hid (checkF s=fstl (List.drop 5 [f1,f2,f3,f4,f5,f6])):=HN.out.trans (fstl_cons0 he)
    clear he
    go_wp2_with fail
    go_roundw
    case rel=>exact ⟨5,arr',by omega,by go_num,HN1,ha'.trans ha,rs5,rf5,rd5,hB5⟩
    case measure=>first|(simp[intOf];omega)|simp[intOf]
   ·have e1:(f5.err !=0)=true:=neq_yes he
    have HF:Hid (checkF s=f5):=HN.out.trans (fstl_cons1 he)
    clear he
    go_wp2_with fail
    exact bodyPost_ret (res1 rfl Tryz.underlying38 rfl (by kernel_rfl) rfl (rf5.set3 _ _ _)) rfl ⟨(congrArg (fun f=>Ending.returned (ftV f)) HF.out).symm,below_set3 hB5 (by omega) _ _ _⟩
  ·go_wp2_with fail
   refine (HC6.out _ hB).mono ?_
   rintro r w4 ⟨rfl,hb4⟩
   have rs4:=rs.below hb4 rs.lt
   have rf4:=rf.below hb4 rf.lt
   have rd4:=rd.below hb4 rd.lt
   have hB4:=hB.trans (hb4.mono hsB)
   obtain ⟨u0,y0⟩:=rd4.has (i:=15) (by omega)
   obtain ⟨u1,y1⟩:=rd4.has (i:=16) (by omega)
   obtain ⟨u2,y2⟩:=rd4.has (i:=17) (by omega)
   have z0:=rd4.frozen 15
   have z1:=rd4.frozen 16
   have z2:=rd4.frozen 17
   obtain ⟨arr',ha',rd5,x0,x1,x2⟩:=rd4.put3 (k:=15) (by omega) (.int .i64 f6.err) (.int .i64 f6.line) (.int .i64 f6.col)
   have u5:=upd_cells3 w4 (w.heap.size+2) 15 (.int .i64 f6.err) (.int .i64 f6.line) (.int .i64 f6.col)
   clear c0 rs rf rd
   go_upto_region 17 with (fail)
   clear y0 y1 y2 z0 z1 z2
   have rs5:=u5.row rs4 (by omega)
   have rf5:=u5.row rf4 (by omega)
   have hB5:=hB4.trans (Upd.below u5 (fun k e=>by omega) (by have:=hB4.size;omega))
   generalize ((w4.setCell ⟨w.heap.size+2,15,none⟩ (.int .i64 f6.err)).setCell ⟨w.heap.size+2,16,none⟩ (.int .i64 f6.line)).setCell ⟨w.heap.size+2,17,none⟩ (.int .i64 f6.col)=W5 at*
   have k0:=(rd5.cell 15).trans x0
   have k1:=(rd5.cell 16).trans x1
   have k2:=(rd5.cell 17).trans x2
   obtain ⟨⟨j0,j1,j2⟩,g0,g1,g2⟩:=rf5.three
   by_cases he:f6.err=0
   ·have e1:(f6.err !=0)=false:=neq_no he
    have HN1:Hid (checkF s=fstl (List.drop 6 [f1,f2,f3,f4,f5,f6])):=HN.out.trans (fstl_cons0 he)
    clear he
    go_wp2_with fail
    go_roundw
    case rel=>exact ⟨6,arr',by omega,by go_num,HN1,ha'.trans ha,rs5,rf5,rd5,hB5⟩
    case measure=>first|(simp[intOf];omega)|simp[intOf]
   ·have e1:(f6.err !=0)=true:=neq_yes he
    have HF:Hid (checkF s=f6):=HN.out.trans (fstl_cons1 he)
    clear he
    go_wp2_with fail
    exact bodyPost_ret (res1 rfl Tryz.underlying38 rfl (by kernel_rfl) rfl (rf5.set3 _ _ _)) rfl ⟨(congrArg (fun f=>Ending.returned (ftV f)) HF.out).symm,below_set3 hB5 (by omega) _ _ _⟩
  ·have HF:Hid (checkF s=ft0):=HN.out
   obtain ⟨⟨j0,j1,j2⟩,g0,g1,g2⟩:=rf.three
   go_wp2_with fail
   exact bodyPost_ret (res1 rfl Tryz.underlying38 rfl (by kernel_rfl) rfl (rf.set3 _ _ _)) rfl ⟨(congrArg (fun f=>Ending.returned (ftV f)) HF.out).symm,below_set3 hB (by omega) _ _ _⟩
end Go.Proofs.YtdkgkacnjdnpoaaGreat
