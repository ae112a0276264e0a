/-
  The contracts of check.Source and of tompionref21.Source: one check behind the other. The contract of stream.Size's closure.
-/
import Derived.Test.YtdkgkacnjdnpoaaGreatZz
import Derived.Test.YtdkgkacnjdnpoaaGreatRepL
import Derived.Test.YtdkgkacnjdnpoaaGreatTyF
import Derived.Test.YtdkgkacnjdnpoaaGreatCkB
import Derived.Test.YtdkgkacnjdnpoaaGreatCauA
import Derived.Test.YtdkgkacnjdnpoaaGreatCauD
import Derived.Test.YtdkgkacnjdnpoaaGreatScI
import Derived.Test.YtdkgkacnjdnpoaaGreatTyDz
import Derived.Test.YtdkgkacnjdnpoaaGreatCalB
import Derived.Test.YtdkgkacnjdnpoaaGreatStzP
import Derived.Test.YtdkgkacnjdnpoaaGreatStzM
import Derived.Test.YtdkgkacnjdnpoaaGreatTyP
import Derived.RangeFuncCalls
import Derived.Shelf.RegionOpen
set_option maxHeartbeats 4000000
set_option maxRecDepth 100000
namespace Go.Proofs.YtdkgkacnjdnpoaaGreat
open Go.RowKit
attribute [local go_sem ↓] Go.wp_at_zero Go.wp_at_succ
noncomputable def checkF (s:List Nd):Ft:=fstl [scopeF s,typesF s,callsF s,clockF s,onsF s,causeF s]
theorem Row.has {W:World} {b i:Nat} {arr:Array Value} {t:TypeId} (h:Row W b arr t) (hi:i<arr.size):∃u,W.cell? ⟨b,i,none⟩=some u:=⟨arr[i],by rw[h.cell i,Array.getElem?_eq_getElem hi]⟩
theorem Row.put3 {W:World} {b k:Nat} {arr:Array Value} {t:TypeId} (h:Row W b arr t) (hk:k+2<arr.size) (x0 x1 x2:Value):∃arr':Array Value,arr'.size=arr.size∧Row (((W.setCell ⟨b,k,none⟩ x0).setCell ⟨b,k+1,none⟩ x1).setCell ⟨b,k+2,none⟩ x2) b arr' t∧arr'[k]? =some x0∧arr'[k+1]? =some x1∧arr'[k+2]? =some x2:=by
 refine ⟨((arr.setIfInBounds k x0).setIfInBounds (k+1) x1).setIfInBounds (k+2) x2,by simp,((h.set k x0).set (k+1) x1).set (k+2) x2,?_,?_,?_⟩
 ·rw[Array.getElem?_setIfInBounds_ne (by omega),Array.getElem?_setIfInBounds_ne (by omega),Array.getElem?_setIfInBounds_self_of_lt (by omega)]
 ·rw[Array.getElem?_setIfInBounds_ne (by omega),Array.getElem?_setIfInBounds_self_of_lt (by simp;omega)]
 ·rw[Array.getElem?_setIfInBounds_self_of_lt (by simp;omega)]
theorem upd_cells3 (w:World) (g k:Nat) (y0 y1 y2:Value):Upd (fun x=>x=g) w (((w.setCell ⟨g,k,none⟩ y0).setCell ⟨g,k+1,none⟩ y1).setCell ⟨g,k+2,none⟩ y2):=
 (((Upd.refl (fun x=>x=g) w).setCell (p:=⟨g,k,none⟩) rfl y0).setCell (p:=⟨g,k+1,none⟩) rfl y1).setCell (p:=⟨g,k+2,none⟩) rfl y2
abbrev fd18:Array Value:= #[.int .i64 0,.int .i64 0,.int .i64 0,.int .i64 0,.int .i64 0,.int .i64 0,.int .i64 0,.int .i64 0,.int .i64 0,.int .i64 0,.int .i64 0,.int .i64 0,.int .i64 0,.int .i64 0,.int .i64 0,.int .i64 0,.int .i64 0,.int .i64 0]
theorem csource_any (s:List Nd) (A:Option Addr) (cap:Nat) (w:World) (sm:SrcSm s) (h1:s.length≤cap) (h2:cap≤maxLen) (h:Nds w w.heap.size A s):
  Calls Tryz.prog 27 #[srcV s A cap] w fun r w'=>r= .returned (ftV (checkF s))∧Below w.heap.size w w':=by
 have b1:Below w.heap.size w (((w.alloc (.cells #[.slice A s.length cap] 24)).alloc (.cells ftC0 38)).alloc (.cells fd18 137)):=bE
 have rs1:=((Row.new w #[.slice A s.length cap] 24).alloc (.cells ftC0 38)).alloc (.cells fd18 137)
 have rf1:=(rowNew2 w (.cells #[.slice A s.length cap] 24) ftC0 38).alloc (.cells fd18 137)
 have rd1:Row (((w.alloc (.cells #[.slice A s.length cap] 24)).alloc (.cells ftC0 38)).alloc (.cells fd18 137)) (w.heap.size+2) fd18 137:=by
  have:=Row.new ((w.alloc (.cells #[.slice A s.length cap] 24)).alloc (.cells ftC0 38)) fd18 137
  simpa using this
 have HS:Hid (∀W,Below w.heap.size w W→Nds W W.heap.size A s):=fun W hW=>nds_keep h (keeps_of hW) hW.size
 obtain ⟨f1,HF1⟩:∃f,Hid (scopeF s=f):=⟨_,rfl⟩
 have HC1:Hid (∀W,Below w.heap.size w W→Calls Tryz.prog 54 #[srcV s A cap] W fun r w'=>r= .returned (ftV f1)∧Below W.heap.size W w'):=fun W hW=>by rw[←HF1.out];exact check15_any s A cap W sm h1 h2 (HS.out W hW)
 obtain ⟨f2,HF2⟩:∃f,Hid (typesF s=f):=⟨_,rfl⟩
 have HC2:Hid (∀W,Below w.heap.size w W→Calls Tryz.prog 55 #[srcV s A cap] W fun r w'=>r= .returned (ftV f2)∧Below W.heap.size W w'):=fun W hW=>by rw[←HF2.out];exact tcheck_any s A cap W sm h1 h2 (HS.out W hW)
 obtain ⟨f3,HF3⟩:∃f,Hid (callsF s=f):=⟨_,rfl⟩
 have HC3:Hid (∀W,Below w.heap.size w W→Calls Tryz.prog 56 #[srcV s A cap] W fun r w'=>r= .returned (ftV f3)∧Below W.heap.size W w'):=fun W hW=>by rw[←HF3.out];exact check_calls s A cap W sm h1 h2 (HS.out W hW)
 obtain ⟨f4,HF4⟩:∃f,Hid (clockF s=f):=⟨_,rfl⟩
 have HC4:Hid (∀W,Below w.heap.size w W→Calls Tryz.prog 57 #[srcV s A cap] W fun r w'=>r= .returned (ftV f4)∧Below W.heap.size W w'):=fun W hW=>by rw[←HF4.out];exact ccheck_any s A cap W sm h1 h2 (HS.out W hW)
 obtain ⟨f5,HF5⟩:∃f,Hid (onsF s=f):=⟨_,rfl⟩
 have HC5:Hid (∀W,Below w.heap.size w W→Calls Tryz.prog 58 #[srcV s A cap] W fun r w'=>r= .returned (ftV f5)∧Below W.heap.size W w'):=fun W hW=>by rw[←HF5.out];exact ocheck_any s A cap W sm h1 h2 (HS.out W hW)
 obtain ⟨f6,HF6⟩:∃f,Hid (causeF s=f):=⟨_,rfl⟩
 have HC6:Hid (∀W,Below w.heap.size w W→Calls Tryz.prog 59 #[srcV s A cap] W fun r w'=>r= .returned (ftV f6)∧Below W.heap.size W w'):=fun W hW=>by rw[←HF6.out];exact cacheck_any s A cap W sm h1 h2 (HS.out W hW)
 have HK:Hid (checkF s=fstl [f1,f2,f3,f4,f5,f6]):=by show _=_;unfold checkF;rw[HF1.out,HF2.out,HF3.out,HF4.out,HF5.out,HF6.out]
 clear h sm HF1 HF2 HF3 HF4 HF5 HF6
 go_enter Tryz.func27,Tryz.ntmps27
 go_upto_region 2 with (fail)
 change Code.wp _ _ _ _ (((w.alloc (.cells #[.slice A s.length cap] 24)).alloc (.cells ftC0 38)).alloc (.cells fd18 137))
 generalize ((w.alloc (.cells #[.slice A s.length cap] 24)).alloc (.cells ftC0 38)).alloc (.cells fd18 137)=W1 at*
 have hs1:=b1.size
 go_wp2_with fail
 go_loopw[5] (fun i wr=>∃(k:Nat) (arr:Array Value),k≤6∧i= .int .i64 k∧Hid (checkF s=fstl (List.drop k [f1,f2,f3,f4,f5,f6]))∧arr.size=18∧Row wr w.heap.size #[.slice A s.length cap] 24∧Row wr (w.heap.size+1) ftC0 38∧Row wr (w.heap.size+2) arr 137∧Below w.heap.size w wr) (fun i _=>6-(intOf i).toNat)
 case atStart=>exact ⟨0,fd18,by omega,rfl,HK,rfl,rs1,rf1,rd1,b1⟩
 case round=>
  obtain ⟨k,arr,hk,rfl,HN,ha,rs,rf,rd,hB⟩:=hrel
  have hsB:=hB.size
  have c0:=rs.src
  rcases (by omega:k=0∨k=1∨k=2∨k=3∨k=4∨k=5∨k=6) with rfl|rfl|rfl|rfl|rfl|rfl|rfl
  ·go_wp2_with fail
   refine (HC1.out _ hB).mono ?_
   refine' zq43
   obtain ⟨u0,y0⟩:=rd4.has (i:=0) (by omega)
   obtain ⟨u1,y1⟩:=rd4.has (i:=1) (by omega)
   obtain ⟨u2,y2⟩:=rd4.has (i:=2) (by omega)
   have z0:=rd4.frozen 0
   have z1:=rd4.frozen 1
   have z2:=rd4.frozen 2
   obtain ⟨arr',ha',rd5,x0,x1,x2⟩:=rd4.put3 (k:=0) (by omega) (.int .i64 f1.err) (.int .i64 f1.line) (.int .i64 f1.col)
   have u5:=upd_cells3 w4 (w.heap.size+2) 0 (.int .i64 f1.err) (.int .i64 f1.line) (.int .i64 f1.col)
   refine' zq29
   generalize ((w4.setCell ⟨w.heap.size+2,0,none⟩ (.int .i64 f1.err)).setCell ⟨w.heap.size+2,1,none⟩ (.int .i64 f1.line)).setCell ⟨w.heap.size+2,2,none⟩ (.int .i64 f1.col)=W5 at*
   have k0:=(rd5.cell 0).trans x0
   have k1:=(rd5.cell 1).trans x1
   have k2:=(rd5.cell 2).trans x2
   refine' zq178
   by_cases he:f1.err=0
   ·have e1:(f1.err !=0)=false:=neq_no he
    have HN1:Hid (checkF s=fstl (List.drop 1 [f1,f2,f3,f4,f5,f6])):=HN.out.trans (fstl_cons0 he)
    clear he
    go_wp2_with fail
    go_roundw
    case rel=>exact ⟨1,arr',by omega,by go_num,HN1,ha'.trans ha,rs5,rf5,rd5,hB5⟩
    case measure=>first|(simp[intOf];omega)|simp[intOf]
   ·have e1:(f1.err !=0)=true:=neq_yes he
    have HF:Hid (checkF s=f1):=HN.out.trans (fstl_cons1 he)
    refine' zq25
  ·go_wp2_with fail
   refine (HC2.out _ hB).mono ?_
   refine' zq43
   obtain ⟨u0,y0⟩:=rd4.has (i:=3) (by omega)
   obtain ⟨u1,y1⟩:=rd4.has (i:=4) (by omega)
   obtain ⟨u2,y2⟩:=rd4.has (i:=5) (by omega)
   have z0:=rd4.frozen 3
   have z1:=rd4.frozen 4
   have z2:=rd4.frozen 5
   obtain ⟨arr',ha',rd5,x0,x1,x2⟩:=rd4.put3 (k:=3) (by omega) (.int .i64 f2.err) (.int .i64 f2.line) (.int .i64 f2.col)
   have u5:=upd_cells3 w4 (w.heap.size+2) 3 (.int .i64 f2.err) (.int .i64 f2.line) (.int .i64 f2.col)
   refine' zq29
   generalize ((w4.setCell ⟨w.heap.size+2,3,none⟩ (.int .i64 f2.err)).setCell ⟨w.heap.size+2,4,none⟩ (.int .i64 f2.line)).setCell ⟨w.heap.size+2,5,none⟩ (.int .i64 f2.col)=W5 at*
   have k0:=(rd5.cell 3).trans x0
   have k1:=(rd5.cell 4).trans x1
   have k2:=(rd5.cell 5).trans x2
   refine' zq178
   by_cases he:f2.err=0
   ·have e1:(f2.err !=0)=false:=neq_no he
    have HN1:Hid (checkF s=fstl (List.drop 2 [f1,f2,f3,f4,f5,f6])):=HN.out.trans (fstl_cons0 he)
    clear he
    go_wp2_with fail
    go_roundw
    case rel=>exact ⟨2,arr',by omega,by go_num,HN1,ha'.trans ha,rs5,rf5,rd5,hB5⟩
    case measure=>first|(simp[intOf];omega)|simp[intOf]
   ·have e1:(f2.err !=0)=true:=neq_yes he
    have HF:Hid (checkF s=f2):=HN.out.trans (fstl_cons1 he)
    refine' zq25
  ·go_wp2_with fail
   refine (HC3.out _ hB).mono ?_
   refine' zq43
   obtain ⟨u0,y0⟩:=rd4.has (i:=6) (by omega)
   obtain ⟨u1,y1⟩:=rd4.has (i:=7) (by omega)
   obtain ⟨u2,y2⟩:=rd4.has (i:=8) (by omega)
   have z0:=rd4.frozen 6
   have z1:=rd4.frozen 7
   have z2:=rd4.frozen 8
   obtain ⟨arr',ha',rd5,x0,x1,x2⟩:=rd4.put3 (k:=6) (by omega) (.int .i64 f3.err) (.int .i64 f3.line) (.int .i64 f3.col)
   have u5:=upd_cells3 w4 (w.heap.size+2) 6 (.int .i64 f3.err) (.int .i64 f3.line) (.int .i64 f3.col)
   refine' zq29
   generalize ((w4.setCell ⟨w.heap.size+2,6,none⟩ (.int .i64 f3.err)).setCell ⟨w.heap.size+2,7,none⟩ (.int .i64 f3.line)).setCell ⟨w.heap.size+2,8,none⟩ (.int .i64 f3.col)=W5 at*
   have k0:=(rd5.cell 6).trans x0
   have k1:=(rd5.cell 7).trans x1
   have k2:=(rd5.cell 8).trans x2
   refine' zq178
   by_cases he:f3.err=0
   ·have e1:(f3.err !=0)=false:=neq_no he
    have HN1:Hid (checkF s=fstl (List.drop 3 [f1,f2,f3,f4,f5,f6])):=HN.out.trans (fstl_cons0 he)
    clear he
    go_wp2_with fail
    go_roundw
    case rel=>exact ⟨3,arr',by omega,by go_num,HN1,ha'.trans ha,rs5,rf5,rd5,hB5⟩
    case measure=>first|(simp[intOf];omega)|simp[intOf]
   ·have e1:(f3.err !=0)=true:=neq_yes he
    have HF:Hid (checkF s=f3):=HN.out.trans (fstl_cons1 he)
    refine' zq25
  ·go_wp2_with fail
   refine (HC4.out _ hB).mono ?_
   refine' zq43
   obtain ⟨u0,y0⟩:=rd4.has (i:=9) (by omega)
   obtain ⟨u1,y1⟩:=rd4.has (i:=10) (by omega)
   obtain ⟨u2,y2⟩:=rd4.has (i:=11) (by omega)
   have z0:=rd4.frozen 9
   have z1:=rd4.frozen 10
   have z2:=rd4.frozen 11
   obtain ⟨arr',ha',rd5,x0,x1,x2⟩:=rd4.put3 (k:=9) (by omega) (.int .i64 f4.err) (.int .i64 f4.line) (.int .i64 f4.col)
   have u5:=upd_cells3 w4 (w.heap.size+2) 9 (.int .i64 f4.err) (.int .i64 f4.line) (.int .i64 f4.col)
   refine' zq29
   generalize ((w4.setCell ⟨w.heap.size+2,9,none⟩ (.int .i64 f4.err)).setCell ⟨w.heap.size+2,10,none⟩ (.int .i64 f4.line)).setCell ⟨w.heap.size+2,11,none⟩ (.int .i64 f4.col)=W5 at*
   have k0:=(rd5.cell 9).trans x0
   have k1:=(rd5.cell 10).trans x1
   have k2:=(rd5.cell 11).trans x2
   refine' zq178
   by_cases he:f4.err=0
   ·have e1:(f4.err !=0)=false:=neq_no he
    have HN1:Hid (checkF s=fstl (List.drop 4 [f1,f2,f3,f4,f5,f6])):=HN.out.trans (fstl_cons0 he)
    clear he
    go_wp2_with fail
    go_roundw
    case rel=>exact ⟨4,arr',by omega,by go_num,HN1,ha'.trans ha,rs5,rf5,rd5,hB5⟩
    case measure=>first|(simp[intOf];omega)|simp[intOf]
   ·have e1:(f4.err !=0)=true:=neq_yes he
    have HF:Hid (checkF s=f4):=HN.out.trans (fstl_cons1 he)
    refine' zq25
  ·go_wp2_with fail
   refine (HC5.out _ hB).mono ?_
   refine' zq43
   obtain ⟨u0,y0⟩:=rd4.has (i:=12) (by omega)
   obtain ⟨u1,y1⟩:=rd4.has (i:=13) (by omega)
   obtain ⟨u2,y2⟩:=rd4.has (i:=14) (by omega)
   have z0:=rd4.frozen 12
   have z1:=rd4.frozen 13
   have z2:=rd4.frozen 14
   obtain ⟨arr',ha',rd5,x0,x1,x2⟩:=rd4.put3 (k:=12) (by omega) (.int .i64 f5.err) (.int .i64 f5.line) (.int .i64 f5.col)
   have u5:=upd_cells3 w4 (w.heap.size+2) 12 (.int .i64 f5.err) (.int .i64 f5.line) (.int .i64 f5.col)
   refine' zq29
   generalize ((w4.setCell ⟨w.heap.size+2,12,none⟩ (.int .i64 f5.err)).setCell ⟨w.heap.size+2,13,none⟩ (.int .i64 f5.line)).setCell ⟨w.heap.size+2,14,none⟩ (.int .i64 f5.col)=W5 at*
   have k0:=(rd5.cell 12).trans x0
   have k1:=(rd5.cell 13).trans x1
   have k2:=(rd5.cell 14).trans x2
   refine' zq178
   by_cases he:f5.err=0
   ·have e1:(f5.err !=0)=false:=neq_no he
    have HN1:Hid (checkF s=fstl (List.drop 5 [f1,f2,f3,f4,f5,f6])):=HN.out.trans (fstl_cons0 he)
    clear he
    go_wp2_with fail
    go_roundw
    case rel=>exact ⟨5,arr',by omega,by go_num,HN1,ha'.trans ha,rs5,rf5,rd5,hB5⟩
    case measure=>first|(simp[intOf];omega)|simp[intOf]
   ·have e1:(f5.err !=0)=true:=neq_yes he
    have HF:Hid (checkF s=f5):=HN.out.trans (fstl_cons1 he)
    refine' zq25
  ·go_wp2_with fail
   refine (HC6.out _ hB).mono ?_
   refine' zq43
   obtain ⟨u0,y0⟩:=rd4.has (i:=15) (by omega)
   obtain ⟨u1,y1⟩:=rd4.has (i:=16) (by omega)
   obtain ⟨u2,y2⟩:=rd4.has (i:=17) (by omega)
   have z0:=rd4.frozen 15
   have z1:=rd4.frozen 16
   have z2:=rd4.frozen 17
   obtain ⟨arr',ha',rd5,x0,x1,x2⟩:=rd4.put3 (k:=15) (by omega) (.int .i64 f6.err) (.int .i64 f6.line) (.int .i64 f6.col)
   have u5:=upd_cells3 w4 (w.heap.size+2) 15 (.int .i64 f6.err) (.int .i64 f6.line) (.int .i64 f6.col)
   refine' zq29
   generalize ((w4.setCell ⟨w.heap.size+2,15,none⟩ (.int .i64 f6.err)).setCell ⟨w.heap.size+2,16,none⟩ (.int .i64 f6.line)).setCell ⟨w.heap.size+2,17,none⟩ (.int .i64 f6.col)=W5 at*
   have k0:=(rd5.cell 15).trans x0
   have k1:=(rd5.cell 16).trans x1
   have k2:=(rd5.cell 17).trans x2
   refine' zq178
   by_cases he:f6.err=0
   ·have e1:(f6.err !=0)=false:=neq_no he
    have HN1:Hid (checkF s=fstl (List.drop 6 [f1,f2,f3,f4,f5,f6])):=HN.out.trans (fstl_cons0 he)
    clear he
    go_wp2_with fail
    go_roundw
    case rel=>exact ⟨6,arr',by omega,by go_num,HN1,ha'.trans ha,rs5,rf5,rd5,hB5⟩
    case measure=>first|(simp[intOf];omega)|simp[intOf]
   ·have e1:(f6.err !=0)=true:=neq_yes he
    have HF:Hid (checkF s=f6):=HN.out.trans (fstl_cons1 he)
    refine' zq25
  ·have HF:Hid (checkF s=ft0):=HN.out
   obtain ⟨⟨j0,j1,j2⟩,g0,g1,g2⟩:=rf.three
   go_wp2_with fail
   exact bodyPost_ret (res1 rfl Tryz.underlying38 rfl (by kernel_rfl) rfl (rf.set3 _ _ _)) rfl ⟨(congrArg (fun f=>Ending.returned (ftV f)) HF.out).symm,below_set3 hB (by omega) _ _ _⟩
open Go.RowKit Go.Shelf
attribute [local go_sem] Oper.semAt_some
structure SzAt (F:ByteArray→Nat) (s:List Nd) (A:Option Addr) (cap N0 S X Z M:Nat) (w:World) (L:List ByteArray):Prop where
 rs:Row w S #[.slice A s.length cap] 24
 rx:Row w X #[.map (some M)] 85
 rz:Row w Z #[.func (.func 39) #[] #[.pointer (some ⟨X,0,none⟩),.pointer (some ⟨S,0,none⟩),.pointer (some ⟨Z,0,none⟩)]] 108
 mp:MapN F w M L
 sub:∀x∈L,x∈s.map Nd.name
 nds:Nds w N0 A s
structure SzK (F:ByteArray→Nat) (s:List Nd) (A:Option Addr) (cap N0 S X Z M:Nat):Prop where
 h1:s.length≤cap
 h2:cap≤maxLen
 sm:SrcSm s
 hS:S≠M
 hX:X≠M
 hZ:Z≠M
 hN:N0≤M
 hF:∀c,F c≤401
section
variable {F:ByteArray→Nat} {s:List Nd} {A:Option Addr} {cap N0 S X Z M:Nat} {w w':World} {L:List ByteArray}
theorem SzAt.lt (h:SzAt F s A cap N0 S X Z M w L):S<w.heap.size∧X<w.heap.size∧Z<w.heap.size∧M<w.heap.size:=⟨h.rs.lt,h.rx.lt,h.rz.lt,h.mp.lt⟩
theorem SzAt.drew (h:SzAt F s A cap N0 S X Z M w L):SzAt F s A cap N0 S X Z M w.drew L:=⟨h.rs,h.rx,h.rz,h.mp,h.sub,nds_keep h.nds (fun _ _ _ h=>h) (Nat.le_refl _)⟩
theorem SzAt.below {B:Nat} (h:SzAt F s A cap N0 S X Z M w L) (hb:Below B w w') (hB:w.heap.size≤B) (hN:N0≤w.heap.size):SzAt F s A cap N0 S X Z M w' L:=
 ⟨h.rs.below hb (Nat.lt_of_lt_of_le h.rs.lt hB),h.rx.below hb (Nat.lt_of_lt_of_le h.rx.lt hB),h.rz.below hb (Nat.lt_of_lt_of_le h.rz.lt hB),h.mp.below hb (Nat.lt_of_lt_of_le h.mp.lt hB),h.sub,nds_keep h.nds (keeps_of (hb.mono (Nat.le_trans hN hB))) (Nat.le_refl _)⟩
theorem upd_row {row:Option Nat} (hg:w.grownBy w' row):Upd (fun k=>row=some k) w w':=⟨hg.os,hg.tape,hg.output,hg.size,fun k hk hX=>hg.block k hk (fun e=>hX e.symm)⟩
theorem SzAt.upd {X':Nat→Prop} (h:SzAt F s A cap N0 S X Z M w L) (hu:Upd X' w w') (hS:¬X' S) (hX:¬X' X) (hZ:¬X' Z) (hM:¬X' M) (hN:∀k,X' k→N0≤k) (hNM:N0≤M):SzAt F s A cap N0 S X Z M w' L:=
 ⟨hu.row h.rs hS,hu.row h.rx hX,hu.row h.rz hZ,h.mp.upd hu hM,h.sub,nds_keep h.nds (keeps_of (Upd.below hu hN (Nat.le_trans hNM (Nat.le_of_lt h.mp.lt)))) (Nat.le_refl _)⟩
theorem SzAt.ownB {B:Nat} {row:Option Nat} (h:SzAt F s A cap N0 S X Z M w L) (hg:w.grownBy w' row) (hr:∀r,row=some r→B≤r) (hb:S<B∧X<B∧Z<B∧M<B) (hN:N0≤M):SzAt F s A cap N0 S X Z M w' L:=
 h.upd (upd_row hg) (fun e=>by have:=hr _ e;omega) (fun e=>by have:=hr _ e;omega) (fun e=>by have:=hr _ e;omega) (fun e=>by have:=hr _ e;omega) (fun k e=>by have:=hr _ e;omega) hN
theorem SzAt.updM {L':List ByteArray} (h:SzAt F s A cap N0 S X Z M w L) (hk:SzK F s A cap N0 S X Z M) (hu:Upd (fun k=>k=M) w w') (hm:MapN F w' M L') (hs:∀x∈L',x∈s.map Nd.name):SzAt F s A cap N0 S X Z M w' L':=
 ⟨hu.row h.rs hk.hS,hu.row h.rx hk.hX,hu.row h.rz hk.hZ,hm,hs,nds_keep h.nds (keeps_of (Upd.below hu (fun k e=>by rw[e];exact hk.hN) (Nat.le_trans hk.hN (Nat.le_of_lt h.mp.lt)))) (Nat.le_refl _)⟩
theorem upd_nar {X' Y:Nat→Prop} (h:Upd Y w w') (hs:∀k,k<w.heap.size→Y k→X' k):Upd X' w w':=⟨h.os,h.tape,h.output,h.size,fun k hk hX=>h.block k hk (fun e=>hX (hs k hk e))⟩
theorem upd_grown {b:Nat} (hg:w.grownBy w' (some b)):Upd (fun k=>k=b) w w':=⟨hg.os,hg.tape,hg.output,hg.size,fun k hk hX=>hg.block k hk (fun e=>hX (by cases e;rfl))⟩
theorem keeps_updM {B hi:Nat} {l:List ByteArray} (hm:MapN F w M l) (hu:Upd (fun k=>k=M∨B≤k) w w') (hB:hi≤B) (hw:hi≤w.heap.size):Keeps hi w w':=by
 intro p u hp hc
 by_cases e:p.block=M
 ·obtain ⟨es,clock,h⟩:=hm.isMap
  rw[←e] at h
  simp only[World.cell?,h] at hc
  cases hc
 ·have:=hu.block p.block (by omega) (by omega)
  rw[World.cell?_of_block this];exact hc
theorem keepC_updM {X':Nat→Prop} {l:List ByteArray} (hm:MapN F w M l) (hu:Upd (fun k=>k=M) w w'):KeepC X' w w':=by
 refine ⟨hu.size,fun c cs t f _ hc=>(hu.block c (Array.getElem?_eq_some_iff.1 hc).1 (fun e=>?_)).trans hc⟩
 obtain ⟨es,clock,h⟩:=hm.isMap
 subst e
 rw[h] at hc
 cases hc
theorem MarksAt.updM {marks:List Nat} {l:List ByteArray} (h:MarksAt w marks) (hm:MapN F w M l) (hu:Upd (fun k=>k=M) w w'):MarksAt w' marks:=
 ⟨h.1,fun D hD=>(hu.block D (h.lt hD) (fun e=>by
  obtain ⟨es,clock,h'⟩:=hm.isMap
  have:=h.2 D hD
  rw[e,h'] at this
  cases this)).trans (h.2 D hD)⟩
theorem wpListIn_mapn {Fe:Fence} {nF:Nat} {ops:Array Oper} {rest:List Oper} {o:Oper} {a:Act} {Q:Exit→Act→World→Prop} (hg:o.guard=none) (m x v:Operand) (hop:o.op=Op.mapUpdate 85 m x v)
  (b:Nat) (l:List ByteArray) (hm:a.eval m= .map (some b)) (h:MapN F w b l) (hn:l.length<1000000) (nm:ByteArray) (hx:a.eval x= .string nm) (hs:nm.size≤maxLen) (y:Int) (hv:a.eval v= .int .i64 y) (hy:y=(F nm:Int)) (hF:F nm≤401)
  (hK:∀w',MapN F w' b (putN l nm)→w.grownBy w' (some b)→wpListIn Fe nF Tryz.prog ops Q rest (a.put o.dst undef) w'):wpListIn Fe nF Tryz.prog ops Q (o::rest) a w:=by
 refine wpListIn_plain hg fun K' hK'=>?_
 obtain ⟨w',hrun,r1,r2⟩:=h.put hs hn hF
 subst hy
 unfold Oper.wpIn
 refine ⟨by simp[Oper.about,hop],?_⟩
 rw[Oper.semAt_plain _ _ _ (by rw[hop];intro c hc';cases hc')]
 refine' zq158
end
noncomputable def callsL (l:List Ex):List ByteArray:=(l.filter (fun x=>cB (x.op=4))).map Ex.name
theorem callsL_snoc1 {l:List Ex} {x:Ex} (h:x.op=4):callsL (l++ [x])=callsL l++ [x.name]:=by unfold callsL;simp[cB_true h]
theorem callsL_snoc0 {l:List Ex} {x:Ex} (h:x.op≠4):callsL (l++ [x])=callsL l:=by unfold callsL;simp[cB_false h]
def szTo (F:ByteArray→Nat) (n:Nd) (l:List ByteArray):Nat:=capZ ((vrs n).length+(l.map F).sum)
theorem szTo_snoc (F:ByteArray→Nat) (n:Nd) (l:List ByteArray) (x:ByteArray):((szTo F n (l++ [x]):Nat):Int)=min ((szTo F n l:Int)+(F x:Int)) 401:=by
 unfold szTo capZ
 rw[List.map_append,List.sum_append,List.map_cons,List.map_nil,List.sum_cons,List.sum_nil]
 omega
theorem sz_fin {F:ByteArray→Nat} {s:List Nd} {A:Option Addr} {cap N0 S X Z M NB B:Nat} {w3 W W3:World} {L1 L2:List ByteArray} {n:Nd} {a:NdA} {marks:List Nat} {v:Int} {l:List ByteArray} {u:Value} (hk:SzK F s A cap N0 S X Z M) (hu3:Upd (fun k=>k=M) W W3) (s1:SzAt F s A cap N0 S X Z M W L1) (s3:SzAt F s A cap N0 S X Z M W3 L2)
  (r1:Row W NB (ndArr n a) 58) (r2:Row W (NB+1) #[u] 3) (hm:MarksAt W marks) (hmk:∀D∈marks,NB+1<D) (hB:Upd (fun j=>j=M∨NB≤j) w3 W) (hMB:M<B) (hl:S<NB∧X<NB∧Z<NB∧M<NB) (hN:N0≤NB) (hv:v=(szTo F n l:Int)):
  KeepsFrom B W (W3.setCell ⟨NB+1,0,none⟩ (.int .i64 v))∧KeepC (fun j=>j=NB+1) W (W3.setCell ⟨NB+1,0,none⟩ (.int .i64 v))∧((Row (W3.setCell ⟨NB+1,0,none⟩ (.int .i64 v)) NB (ndArr n a) 58∧Row (W3.setCell ⟨NB+1,0,none⟩ (.int .i64 v)) (NB+1) #[.int .i64 (szTo F n l)] 3)∧
   (∃L',SzAt F s A cap N0 S X Z M (W3.setCell ⟨NB+1,0,none⟩ (.int .i64 v)) L')∧MarksAt (W3.setCell ⟨NB+1,0,none⟩ (.int .i64 v)) marks)∧Upd (fun j=>j=M∨NB≤j) w3 (W3.setCell ⟨NB+1,0,none⟩ (.int .i64 v)):=by
 subst hv
 have u4:Upd (fun k=>k=NB+1) W3 (W3.setCell ⟨NB+1,0,none⟩ (.int .i64 (szTo F n l))):=(Upd.refl (fun k=>k=NB+1) W3).setCell (p:=⟨NB+1,0,none⟩) rfl _
 have r13:=hu3.row r1 (by omega)
 have r23:=hu3.row r2 (by omega)
 have hm3:=hm.updM s1.mp hu3
 have kf:KeepsFrom B W W3:=⟨hu3.size,fun k o hBk ho _=>(hu3.block k (Array.getElem?_eq_some_iff.1 ho).1 (by omega)).trans ho⟩
 refine ⟨kf.trans ((KeepsOthers.setCell _ _ _).from _),(keepC_updM s1.mp hu3).trans (keepC_set (X:=fun j=>j=NB+1) (p:=⟨NB+1,0,none⟩) rfl _),⟨⟨u4.row r13 (by omega),?_⟩,⟨L2,s3.upd u4 (by omega) (by omega) (by omega) (by omega) (fun k e=>by omega) hk.hN⟩,?_⟩,hB.trans ((hu3.mono (fun k e=>Or.inl e)).trans (u4.mono (fun k e=>Or.inr (by omega))))⟩
 ·have:=r23.set 0 (.int .i64 (szTo F n l))
  simpa using this
 ·exact ⟨hm3.1,fun D hD=>(u4.block D (hm3.lt hD) (fun e=>by have:=hmk D hD;omega)).trans (hm3.2 D hD)⟩
def SzC (F:ByteArray→Nat) (s:List Nd) (A:Option Addr) (cap N0 S X Z M:Nat) (nm:ByteArray):Prop:=
 ∀(W:World) (L:List ByteArray),SzAt F s A cap N0 S X Z M W L→Calls Tryz.prog 39 #[.string nm,.pointer (some ⟨X,0,none⟩),.pointer (some ⟨S,0,none⟩),.pointer (some ⟨Z,0,none⟩)] W fun r W'=>r= .returned (.int .i64 (F nm))∧(∃L',SzAt F s A cap N0 S X Z M W' L')∧Upd (fun k=>k=M) W W'
theorem size1_step {F:ByteArray→Nat} {s:List Nd} {A:Option Addr} {cap N0 S X Z M:Nat} (hk:SzK F s A cap N0 S X Z M) {nm:ByteArray} {n:Nd} (hn:nodeAt s nm=some n) (hnm:nm∈s.map Nd.name) (hv:F nm=szOf n F) (ih:∀c∈usesF n,SzC F s A cap N0 S X Z M c):SzC F s A cap N0 S X Z M nm:=by
 intro W L h
 refine (callsIn_wide (n:=9)).1 ?_
 have hsz:nm.size≤maxLen:=by
  obtain ⟨m,hm,rfl⟩:=List.mem_map.1 hnm
  have:=(hk.sm.all m hm).name
  unfold maxLen;omega
 have H:=Lib.hid h
 have HK:=Lib.hid hk
 have HIH:=Lib.hid ih
 have HN:=Lib.hid hn
 have HV:=Lib.hid hv
 have cx:W.cell? ⟨X,0,none⟩=some (.map (some M)):=(h.rx.cell 0).trans rfl
 have cs:W.cell? ⟨S,0,none⟩=some (.slice A s.length cap):=(h.rs.cell 0).trans rfl
 have lk:=h.mp.lookOk hsz
 clear h hk ih hn hv
 refine callsIn_of_wp_marks Tryz.func39 rfl trivial ?_ rfl
 simp only[Tryz.ntmps39,List.size_toArray,List.length_cons,List.length_nil,Nat.reduceAdd,Nat.reduceSub,Array.replicate_succ,Array.replicate_zero,List.push_toArray,List.append_toArray,List.nil_append,List.cons_append]
 have HFD:Hid (Calls Tryz.prog 37 #[srcV s A cap,.string nm] W (FindRes s nm W)):=find_any s s.length A cap nm W rfl HK.out.h1 HK.out.h2 (nds_keep H.out.nds (fun _ _ _ h=>h) (Nat.le_trans HK.out.hN (Nat.le_of_lt H.out.lt.2.2.2)))
 have HNS:Hid (NdSm n):=HK.out.sm.all n (List.mem_of_find?_eq_some HN.out)
 have hni:=HNS.out.ins
 have hno:=HNS.out.outs
 have hnv:=HNS.out.vars
 by_cases hm:nm∈L
 ·have lk:=lk.1 hm
  gi_wp2_with (fail)
  refine leaves_marks [] _ List.nodup_nil (fun D h=>by cases h) fun w' hu=>?_
  have hu':Upd (fun k=>k=M) W w':=hu.mono (fun k e=>by cases e)
  exact ⟨_,by simp[results,Tryz.f39,go_sem],rfl,⟨L,H.out.upd hu (fun e=>by cases e) (fun e=>by cases e) (fun e=>by cases e) (fun e=>by cases e) (fun k e=>by cases e) HK.out.hN⟩,hu'⟩
 have lk:=lk.2 hm
 gi_wp2_with (refine ⟨trivial,?_⟩;gi_at_call 37;refine (callsIn_wide.2 HFD.out).mono ?_;rintro r w3 ⟨⟨m,a,rfl,hm1,-⟩,hb3⟩;(obtain ⟨hma,hat⟩:=hm1.out hnm);rw[HN.out] at hma;cases hma)
 generalize hNB:w3.heap.size=NB
 have hWM:=H.out.lt
 have hb3s:=hb3.size
 obtain ⟨w4,hw4⟩:∃w4,(w3.alloc (.cells (ndArr n a) 58)).alloc (.cells #[.int .i64 ((n.ins.length:Int)+n.outs.length+n.vars.length)] 3)=w4:=⟨_,rfl⟩
 have rn0:Row w4 NB (ndArr n a) 58:=by rw[←hw4,←hNB];exact (Row.new w3 _ _).alloc _
 have rb0:Row w4 (NB+1) #[.int .i64 (szTo F n (callTo n 0))] 3:=by
  have e:((szTo F n (callTo n 0):Nat):Int)=(n.ins.length:Int)+n.outs.length+n.vars.length:=by
   rw[callTo_zero];unfold szTo capZ vrs;simp only[List.map_nil,List.sum_nil,List.length_append];omega
  rw[e,←hw4,←hNB];exact rowNew2 w3 _ _ _
 have U0:Upd (fun j=>j=M∨NB≤j) w3 w4:=by rw[←hw4];exact Upd.of_below bE
 have hBW:Below W.heap.size W w4:=by rw[←hw4];exact hb3.trans ((bE:Below w3.heap.size w3 _).mono hb3s)
 have sz0:=H.out.below hBW (Nat.le_refl _) (Nat.le_trans HK.out.hN (Nat.le_of_lt hWM.2.2.2))
 have HAT:Hid (∀W',Upd (fun j=>j=M∨NB≤j) w3 W'→NdAt W' W.heap.size n a):=fun W' hu=>by
  have hm3:=H.out.mp.below hb3 hWM.2.2.2
  exact hat.keep (keeps_updM hm3 hu (by omega) hb3s) (Nat.le_refl _)
 have HB3:=Lib.hid hb3
 have hnl:=HNS.out.eqs
 have hcq:=hat.lq
 have hmq:=hat.mq
 refine' zq182
 have hlt4:=rb0.lt
 rw[hw4]
 clear hw4 hat hBW hm1 lk cx cs
 refine wpIn_loop (fun a' wr=>∃(k:Nat) (marks:List Nat) (u12 u43 u44 u45 u46 u47 u48 u60:Value),a'={tmps:= #[.string nm,.pointer (some ⟨X,0,none⟩),.pointer (some ⟨S,0,none⟩),.pointer (some ⟨Z,0,none⟩),undef,.int .i64 0,.int .i64 0,.bool false,.pointer (some ⟨NB,0,none⟩),.bool (cB True),.pointer (some ⟨NB+1,0,none⟩),undef,u12,undef,.tuple #[.int .i64 0,.bool false],.map (some M),.string nm,.tuple #[.int .i64 0,.bool false],.int .i64 0,.bool false,.bool false,undef,.tuple #[ndV n a,.bool (cB True)],.agg #[.slice A s.length cap],.string nm,.tuple #[ndV n a,.bool (cB True)],ndV n a,.bool (cB True),.pointer (some ⟨NB,1,none⟩),.slice a.ai n.ins.length a.ci,.int .i64 n.ins.length,.pointer (some ⟨NB,2,none⟩),.slice a.ao n.outs.length a.co,.int .i64 n.outs.length,.int .i64 ((n.ins.length:Int)+n.outs.length),.pointer (some ⟨NB,3,none⟩),.slice a.av n.vars.length a.cv,.int .i64 n.vars.length,.int .i64 ((n.ins.length:Int)+n.outs.length+n.vars.length),.pointer (some ⟨NB,4,none⟩),.slice a.aq n.eqs.length a.cq,.int .i64 n.eqs.length,.int .i64 (k:Int),u43,u44,u45,u46,u47,u48,undef,undef,undef,undef,undef,undef,undef,undef,undef,undef,undef,u60,undef,undef,undef,undef,undef,undef,undef],defers:=marks.map mark}∧k≤n.eqs.length∧(Row wr NB (ndArr n a) 58∧Row wr (NB+1) #[.int .i64 (szTo F n (callTo n k))] 3)∧(∃L',SzAt F s A cap N0 S X Z M wr L')∧Upd (fun j=>j=M∨NB≤j) w3 wr∧Hid (MarksAt wr marks∧∀D∈marks,NB+1<D))
  (fun a' _=>n.eqs.length-(intOf (a'.tmps.getD 42 undef)).toNat) ⟨0,[],_,_,_,_,_,_,_,_,rfl,Nat.zero_le _,⟨rn0,rb0⟩,⟨L,sz0⟩,U0,⟨⟨List.nodup_nil,fun D h=>by cases h⟩,fun D h=>by cases h⟩⟩ ?_
 clear rn0 rb0 sz0 U0
 rintro _ wr ⟨k,marks,u12,u43,u44,u45,u46,u47,u48,u60,rfl,hkl,⟨rn,rb⟩,⟨L',sz⟩,hU,HM⟩
 have hsU:=hU.size
 by_cases hlt:k<n.eqs.length
 rotate_left 1
 ·obtain rfl:k=n.eqs.length:=by omega
  have cx:wr.cell? ⟨X,0,none⟩=some (.map (some M)):=(sz.rx.cell 0).trans rfl
  have cb:wr.cell? ⟨NB+1,0,none⟩=some (.int .i64 (szTo F n (callTo n n.eqs.length))):=(rb.cell 0).trans rfl
  have hFV:Hid (F nm=szTo F n (callTo n n.eqs.length)):=HV.out
  have hF4:F nm≤401:=by rw[hFV.out];exact capZ_le _
  have hlen:L'.length<1000000:=by
   have h1:=nodup_len sz.mp.1 sz.sub
   have h2:=HK.out.sm.len
   rw[List.length_map] at h1
   omega
  gi_wp2_with (gi_at_mapUpdate;refine wpListIn_mapn rfl _ _ _ rfl M L' rfl sz.mp hlen nm rfl hsz _ rfl ?c1 hF4 ?_;(case c1=>(rw[hFV.out];(have:=capZ_le ((vrs n).length+((callTo n n.eqs.length).map F).sum));unfold szTo;omega));intro w1 m2 hg2;(have hu2:=upd_grown hg2);(have sz2:=sz.updM HK.out hu2 m2 (fun x hx=>(putN_mem.1 hx).elim (sz.sub x) (fun e=>e▸hnm)));(have cx1:w1.cell? ⟨X,0,none⟩=some (.map (some M)):=(sz2.rx.cell 0).trans rfl);(have lk1:=m2.look hsz (putN_mem.2 (.inr rfl))))
  have HM2:=HM.out.1.updM sz.mp hu2
  refine leaves_marks marks _ HM2.1 HM2.2 fun w' hu=>?_
  have U2:Upd (fun k=>k=M∨W.heap.size≤k) W w':=((Upd.of_below HB3.out).trans (hU.mono (Y:=fun k=>k=M∨W.heap.size≤k) (fun k e=>by omega))).trans ((hu2.mono (fun k e=>Or.inl e)).trans (hu.mono (fun k e=>Or.inr (by have:=HM.out.2 k e;omega))))
  exact ⟨_,by simp[results,Tryz.f39,go_sem],rfl,⟨_,sz2.upd hu (fun e=>by have:=HM.out.2 _ e;omega) (fun e=>by have:=HM.out.2 _ e;omega) (fun e=>by have:=HM.out.2 _ e;omega) (fun e=>by have:=HM.out.2 _ e;omega) (fun k e=>by have:=HM.out.2 _ e;have:=HK.out.hN;omega) HK.out.hN⟩,upd_nar U2 (fun k hk e=>by omega)⟩
 obtain ⟨b,off,q,A1,k1,A2,k2,hA,hb,hq,ok,lq1,mq1,sl1,lq2,mq2,sl2,d0,d1,d2,d3,d4,d5,d6,d7,d8⟩:=(HAT.out wr hU).sq.eqn hlt
 rw[hA]
 have HQ:=Lib.hid hq
 have HOK:=Lib.hid ok.right
 have HS2:=Lib.hid sl2
 have HSQ:=Lib.hid (HNS.out.eq q (List.mem_of_getElem? hq))
 refine' zq31
 have rb2:=rb.below b2 rb.lt
 have szr:=sz.below b2 (Nat.le_refl _) (Nat.le_trans HK.out.hN (Nat.le_of_lt sz.mp.lt))
 have HM2:=Lib.hid (HM.out.1.below b2)
 have hU2:=hU.trans (Upd.of_below (X:=fun j=>j=M∨NB≤j) b2)
 have hML:Hid (∀D∈marks,D<W2.heap.size):=fun D hD=>HM2.out.lt hD
 have hrl:=rb.lt
 have HCM:Hid (∀y∈exList q.right,y.op=4→y.name∈usesF n):=fun y hy h4=>usesF_mem.2 ⟨q,List.mem_of_getElem? HQ.out,y,hy,h4,rfl⟩
 have hBl:S<W2.heap.size∧X<W2.heap.size∧Z<W2.heap.size∧M<W2.heap.size:=by omega
 clear rn rb sz
 refine wpIn_rangeFunc_ownH rfl (by decide) (gf:=71) (lb:= #[.pointer (some ⟨wr.heap.size+1,0,none⟩)]) rfl trivial (enters_of Tryz.func71 (by kernel_rfl) rfl)
  (all_stopsM _ (fun y=>y∈exList q.right) rfl _ trivial trivial rfl (wr.heap.size+1) W.heap.size (fun j=>j=NB+1) q.right A2 k2 W2 (fun j e=>⟨by omega,by omega⟩) (fun y hy=>hy) HOK.out lq2 mq2 (by omega) (by omega) (fun j u hu=>by rw[bE0.cell];simpa[exCells] using hu) (exs_keep HS2.out (keeps_of (b2.mono (by omega))) (Nat.le_refl _)))
  (fun h k=>h.trans k) (fun W l o o' _ h ho _=>keepC_putObj W l o o' h ho) (Below.refl _ _) (fun _=>rfl)
  (fun pre W=>((Row W NB (ndArr n a) 58∧Row W (NB+1) #[.int .i64 (szTo F n (callTo n k++callsL (pre.map ExM.ex)))] 3)∧(∃L',SzAt F s A cap N0 S X Z M W L')∧MarksAt W marks)∧Upd (fun j=>j=M∨NB≤j) w3 W)
  (fun _ _ _=>False)
  (OwnFrom.and (OwnFrom.and (OwnFrom.and (fun _ _ _ row hs hg hr=>hs.own hg (fun r e=>(hr r e).2)) (fun _ _ _ row hs hg hr=>hs.own hg (fun r e=>(hr r e).2)))
   (OwnFrom.and (fun _ _ _ row hs hg hr=>by obtain ⟨L',g1⟩:=hs;exact ⟨L',g1.ownB hg (fun r e=>(hr r e).1) hBl HK.out.hN⟩) (fun _ _ _ row hs hg hr=>hs.grown hg (fun r e hm=>by have:=(hr r e).1;have:=hML.out r hm;omega)))) (fun _ _ _ row hs hg hr=>hs.trans ((upd_row hg).mono (fun j e=>Or.inr (by have:=(hr j e).1;omega)))))
  (fun _ _ _ _ _ hs _ _=>hs)
  ⟨⟨⟨rn2,by simpa[callsL] using rb2⟩,⟨L',szr⟩,HM2.out⟩,hU2⟩
  (fun x a' W=>∃Bx,NB+1<Bx∧Row W Bx (exA x.ex x.toN.A x.toN.cap) 63∧a'={tmps:= #[.string nm,.pointer (some ⟨X,0,none⟩),.pointer (some ⟨S,0,none⟩),.pointer (some ⟨Z,0,none⟩),undef,.int .i64 0,.int .i64 0,.bool false,.pointer (some ⟨NB,0,none⟩),.bool (cB True),.pointer (some ⟨NB+1,0,none⟩),undef,.pointer (some ⟨wr.heap.size,0,none⟩),.pointer (some ⟨Bx,0,none⟩),.tuple #[.int .i64 0,.bool false],.map (some M),.string nm,.tuple #[.int .i64 0,.bool false],.int .i64 0,.bool false,.bool false,undef,.tuple #[ndV n a,.bool (cB True)],.agg #[.slice A s.length cap],.string nm,.tuple #[ndV n a,.bool (cB True)],ndV n a,.bool (cB True),.pointer (some ⟨NB,1,none⟩),.slice a.ai n.ins.length a.ci,.int .i64 n.ins.length,.pointer (some ⟨NB,2,none⟩),.slice a.ao n.outs.length a.co,.int .i64 n.outs.length,.int .i64 ((n.ins.length:Int)+n.outs.length),.pointer (some ⟨NB,3,none⟩),.slice a.av n.vars.length a.cv,.int .i64 n.vars.length,.int .i64 ((n.ins.length:Int)+n.outs.length+n.vars.length),.pointer (some ⟨NB,4,none⟩),.slice (some ⟨b,off,none⟩) n.eqs.length a.cq,.int .i64 n.eqs.length,.int .i64 (k:Int),.bool true,.pointer (some ⟨b,off+k*9,none⟩),eqV q A1 k1 A2 k2,.pointer (some ⟨wr.heap.size,1,none⟩),exV q.right A2 k2,.func (.func 71) #[] #[.pointer (some ⟨wr.heap.size+1,0,none⟩)],x.v,undef,undef,undef,undef,undef,undef,undef,undef,undef,undef,u60,undef,undef,undef,undef,undef,undef,undef],defers:=[]})
  (fun x a' _ _ _ row hs hg hr=>by obtain ⟨Bx,h1,h2,h3⟩:=hs;exact ⟨Bx,h1,h2.own hg (fun r e=>(hr r e).2),h3⟩)
  ?assign ?body ?done ?stop
 case assign=>
  rintro l pre x W K ⟨⟨⟨r1,r2⟩,⟨L',s1⟩,HM1⟩,hB1⟩ hK
  gi_wp2
  exact hK _ _ ((KeepsOthers.alloc _ _).from _) (KeepC.alloc _ _ _) ⟨⟨⟨r1.alloc _,r2.alloc _⟩,⟨L',s1.below ((Below.refl _ _).alloc (Nat.le_refl _) _) (Nat.le_refl _) (Nat.le_trans HK.out.hN (Nat.le_of_lt s1.mp.lt))⟩,HM1.below ((Below.refl _ _).alloc (Nat.le_refl _) _)⟩,hB1.trans (Upd.of_below ((Below.refl _ _).alloc (Nat.le_refl _) _))⟩ ⟨W.heap.size,r2.lt,Row.new W _ _,rfl⟩
 case body=>
  rintro l pre x a' W hl _ ⟨⟨⟨r1,r2⟩,⟨L',s1⟩,HM1⟩,hB1⟩ ⟨Bx,hBx,bX,rfl⟩ hlt2
  obtain ⟨x0,x1,x2,x3,x4,x5⟩:=bX.ex6
  have cb:W.cell? ⟨NB+1,0,none⟩=some (.int .i64 (szTo F n (callTo n k++callsL (pre.map ExM.ex)))):=(r2.cell 0).trans rfl
  have cz:W.cell? ⟨Z,0,none⟩=some (.func (.func 39) #[] #[.pointer (some ⟨X,0,none⟩),.pointer (some ⟨S,0,none⟩),.pointer (some ⟨Z,0,none⟩)]):=(s1.rz.cell 0).trans rfl
  have fb:=r2.frozen 0
  by_cases h4:x.ex.op=4
  ·have h4':(x.ex.op==4)=true:=eq_yes h4
   have HC:=Lib.hid (callsL_snoc1 (l:=pre.map ExM.ex) h4)
   have HR:=Lib.hid (HIH.out x.ex.name (HCM.out x.ex x.mem h4))
   have HSN:=Lib.hid (szTo_snoc F n (callTo n k++callsL (pre.map ExM.ex)) x.ex.name)
   have hF4:=HK.out.hF x.ex.name
   have hT4:szTo F n (callTo n k++callsL (pre.map ExM.ex))≤401:=capZ_le _
   clear h4
   generalize szTo F n (callTo n k++callsL (pre.map ExM.ex))=y at*
   have hmo:Tryz.prog.follows .mixedOrders=true:=by kernel_rfl
   gi_wp2_with (fail)
   gi_region_with_o ((refine ⟨trivial,?_⟩);(gi_at_call 39);(refine (CallsIn.inRound l (callsIn_wide.2 (HR.out _ L' (by first|exact s1|exact s1.drew)))).mono ?_);rintro r W3 ⟨rfl,⟨L2,s3⟩,hu3⟩;(have r13:=hu3.row r1 (by omega));(have r23:=hu3.row r2 (by omega));(have cb3:W3.cell? ⟨NB+1,0,none⟩=some (.int .i64 y):=(r23.cell 0).trans rfl);(have fb3:=r23.frozen 0))
   all_goals
    gi_wp2_with (fail)
    have hv:min (IntKind.i64.wrap ((y:Int)+(F x.ex.name:Int))) 401=(szTo F n (callTo n k++callsL ((pre++ [x]).map ExM.ex)):Int):=by
     rw[List.map_append,List.map_cons,List.map_nil,HC.out,←List.append_assoc,HSN.out,IntWalk.i64_in _ (by omega)]
    exact sz_fin HK.out (by first|exact hu3|exact (Upd.refl _ W).drew.trans hu3) s1 s3 r1 r2 HM1 HM.out.2 hB1 hBl.2.2.2 (by omega) (by have:=HK.out.hN;omega) hv
  ·have h4':(x.ex.op==4)=false:=eq_no h4
   have HC:=Lib.hid (callsL_snoc0 (l:=pre.map ExM.ex) h4)
   clear h4
   gi_wp2
   refine ⟨KeepsFrom.refl _ _,KeepC.below (Below.refl _ _),⟨⟨⟨r1,?_⟩,⟨L',s1⟩,HM1⟩,hB1⟩⟩
   rw[List.map_append,List.map_cons,List.map_nil]
   have:=HC.out
   rw[this]
   exact r2
 case done=>
  rintro D ys W hD hys ⟨⟨⟨r1,r2⟩,⟨L',s1⟩,HM1⟩,hB1⟩ hK
  have HMD:Hid (MarksAt W (D::marks)∧∀E∈D::marks,NB+1<E):=⟨HM1.more (fun h=>by have:=hML.out D h;omega) hK,fun E hE=>by
   rcases List.mem_cons.1 hE with rfl|hE
   ·omega
   ·exact HM.out.2 E hE⟩
  have HT:Hid (callTo n k++callsL (ys.map ExM.ex)=callTo n (k+1)):=by
   show _=_
   rw[callTo_succ HQ.out,hys];rfl
  rw[HT.out] at r2
  gi_wp2
  refine ⟨?_,?_⟩
  ·refine ⟨k+1,D::marks,?_⟩
   (repeat apply Exists.intro)
   refine ⟨rfl,by omega,⟨r1,r2⟩,⟨L',s1⟩,hB1,HMD⟩
  ·simp[intOf]
   omega
 case stop=>
  rintro D c pre W _ _ h _
  exact h.elim
end Go.Proofs.YtdkgkacnjdnpoaaGreat
