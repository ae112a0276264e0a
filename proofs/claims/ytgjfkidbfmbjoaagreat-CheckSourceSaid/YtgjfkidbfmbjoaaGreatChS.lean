/-
  The contracts of check.Source and of tompionref21.Source: one check behind the other.
-/
import Derived.Test.YtgjfkidbfmbjoaaGreatZz
import Derived.Test.YtgjfkidbfmbjoaaGreatRepL
import Derived.Test.YtgjfkidbfmbjoaaGreatHgP
import Derived.Test.YtgjfkidbfmbjoaaGreatCalC
import Derived.Test.YtgjfkidbfmbjoaaGreatCkB
import Derived.Test.YtgjfkidbfmbjoaaGreatOnsC
import Derived.Test.YtgjfkidbfmbjoaaGreatRfT
import Derived.Test.YtgjfkidbfmbjoaaGreatScK
import Derived.Test.YtgjfkidbfmbjoaaGreatRfW
import Derived.Test.YtgjfkidbfmbjoaaGreatRfK
import Derived.Test.YtgjfkidbfmbjoaaGreatCkC
import Derived.Test.YtgjfkidbfmbjoaaGreatRf20
set_option maxHeartbeats 1000000
set_option maxRecDepth 100000
namespace Go.Proofs.YtgjfkidbfmbjoaaGreat
open Go.RowKit
attribute [local go_sem ↓] Go.wp_at_zero Go.wp_at_succ
noncomputable def checkF (s:List Nd):Ft:=fstl [scopeF s,typesF s,callsF s,clockF s,onsF s,causeF s]
theorem Row.has {W:World} {b i:Nat} {arr:Array Value} {t:TypeId} (h:Row W b arr t) (hi:i<arr.size):∃u,W.cell? ⟨b,i,none⟩=some u:=⟨arr[i],by rw[h.cell i,Array.getElem?_eq_getElem hi]⟩
theorem Row.put3 {W:World} {b k:Nat} {arr:Array Value} {t:TypeId} (h:Row W b arr t) (hk:k+2<arr.size) (x0 x1 x2:Value):∃arr':Array Value,arr'.size=arr.size∧Row (((W.setCell ⟨b,k,none⟩ x0).setCell ⟨b,k+1,none⟩ x1).setCell ⟨b,k+2,none⟩ x2) b arr' t∧arr'[k]? =some x0∧arr'[k+1]? =some x1∧arr'[k+2]? =some x2:=by
 refine ⟨((arr.setIfInBounds k x0).setIfInBounds (k+1) x1).setIfInBounds (k+2) x2,by simp,((h.set k x0).set (k+1) x1).set (k+2) x2,?_,?_,?_⟩
 ·rw[Array.getElem?_setIfInBounds_ne (by omega),Array.getElem?_setIfInBounds_ne (by omega),Array.getElem?_setIfInBounds_self_of_lt (by omega)]
 ·rw[Array.getElem?_setIfInBounds_ne (by omega),Array.getElem?_setIfInBounds_self_of_lt (by simp;omega)]
 ·rw[Array.getElem?_setIfInBounds_self_of_lt (by simp;omega)]
theorem upd_cells3 (w:World) (g k:Nat) (y0 y1 y2:Value):Upd (fun x=>x=g) w (((w.setCell ⟨g,k,none⟩ y0).setCell ⟨g,k+1,none⟩ y1).setCell ⟨g,k+2,none⟩ y2):=
 (((Upd.refl (fun x=>x=g) w).setCell (p:=⟨g,k,none⟩) rfl y0).setCell (p:=⟨g,k+1,none⟩) rfl y1).setCell (p:=⟨g,k+2,none⟩) rfl y2
theorem ieq_yes {a b:Int} (h:a=b):(a==b)=true:=beq_iff_eq.2 h
theorem ieq_no {a b:Int} (h:¬a=b):(a==b)=false:=beq_eq_false_iff_ne.2 h
abbrev fd18:Array Value:= #[.int .i64 0,.int .i64 0,.int .i64 0,.int .i64 0,.int .i64 0,.int .i64 0,.int .i64 0,.int .i64 0,.int .i64 0,.int .i64 0,.int .i64 0,.int .i64 0,.int .i64 0,.int .i64 0,.int .i64 0,.int .i64 0,.int .i64 0,.int .i64 0]
theorem csource_any (s:List Nd) (A:Option Addr) (cap:Nat) (w:World) (sm:SrcSm s) (h1:s.length≤cap) (h2:cap≤maxLen) (h:Nds w w.heap.size A s):
  Calls Tryz.prog 19 #[srcV s A cap] w fun r w'=>r= .returned (ftV (checkF s))∧Below w.heap.size w w':=by
 have b1:Below w.heap.size w (((w.alloc (.cells #[.slice A s.length cap] 24)).alloc (.cells ftC0 31)).alloc (.cells fd18 85)):=bE
 have rs1:=((Row.new w #[.slice A s.length cap] 24).alloc (.cells ftC0 31)).alloc (.cells fd18 85)
 have rf1:=(rowNew2 w (.cells #[.slice A s.length cap] 24) ftC0 31).alloc (.cells fd18 85)
 have rd1:Row (((w.alloc (.cells #[.slice A s.length cap] 24)).alloc (.cells ftC0 31)).alloc (.cells fd18 85)) (w.heap.size+2) fd18 85:=by
  have:=Row.new ((w.alloc (.cells #[.slice A s.length cap] 24)).alloc (.cells ftC0 31)) fd18 85
  simpa using this
 refine' zq218
 obtain ⟨f1,HF1⟩:∃f,Hid (scopeF s=f):=⟨_,rfl⟩
 have HC1:Hid (∀W,Below w.heap.size w W→Calls Tryz.prog 55 #[srcV s A cap] W fun r w'=>r= .returned (ftV f1)∧Below W.heap.size W w'):=fun W hW=>by rw[←HF1.out];exact check15_any s A cap W sm h1 h2 (HS.out W hW)
 obtain ⟨f2,HF2⟩:∃f,Hid (typesF s=f):=⟨_,rfl⟩
 have HC2:Hid (∀W,Below w.heap.size w W→Calls Tryz.prog 56 #[srcV s A cap] W fun r w'=>r= .returned (ftV f2)∧Below W.heap.size W w'):=fun W hW=>by rw[←HF2.out];exact tcheck_any s A cap W sm h1 h2 (HS.out W hW)
 obtain ⟨f3,HF3⟩:∃f,Hid (callsF s=f):=⟨_,rfl⟩
 have HC3:Hid (∀W,Below w.heap.size w W→Calls Tryz.prog 57 #[srcV s A cap] W fun r w'=>r= .returned (ftV f3)∧Below W.heap.size W w'):=fun W hW=>by rw[←HF3.out];exact check_calls s A cap W sm h1 h2 (HS.out W hW)
 obtain ⟨f4,HF4⟩:∃f,Hid (clockF s=f):=⟨_,rfl⟩
 have HC4:Hid (∀W,Below w.heap.size w W→Calls Tryz.prog 58 #[srcV s A cap] W fun r w'=>r= .returned (ftV f4)∧Below W.heap.size W w'):=fun W hW=>by rw[←HF4.out];exact ccheck_any s A cap W sm h1 h2 (HS.out W hW)
 obtain ⟨f5,HF5⟩:∃f,Hid (onsF s=f):=⟨_,rfl⟩
 have HC5:Hid (∀W,Below w.heap.size w W→Calls Tryz.prog 59 #[srcV s A cap] W fun r w'=>r= .returned (ftV f5)∧Below W.heap.size W w'):=fun W hW=>by rw[←HF5.out];exact ocheck_any s A cap W sm h1 h2 (HS.out W hW)
 obtain ⟨f6,HF6⟩:∃f,Hid (causeF s=f):=⟨_,rfl⟩
 have HC6:Hid (∀W,Below w.heap.size w W→Calls Tryz.prog 60 #[srcV s A cap] W fun r w'=>r= .returned (ftV f6)∧Below W.heap.size W w'):=fun W hW=>by rw[←HF6.out];exact cacheck_any s A cap W sm h1 h2 (HS.out W hW)
 have HK:Hid (checkF s=fstl [f1,f2,f3,f4,f5,f6]):=by show _=_;unfold checkF;rw[HF1.out,HF2.out,HF3.out,HF4.out,HF5.out,HF6.out]
 clear h sm HF1 HF2 HF3 HF4 HF5 HF6
 go_enter Tryz.func19,Tryz.ntmps19
 go_upto_region 2 with (fail)
 change Code.wp _ _ _ _ (((w.alloc (.cells #[.slice A s.length cap] 24)).alloc (.cells ftC0 31)).alloc (.cells fd18 85))
 generalize ((w.alloc (.cells #[.slice A s.length cap] 24)).alloc (.cells ftC0 31)).alloc (.cells fd18 85)=W1 at*
 have hs1:=b1.size
 go_wp2_with fail
 go_loopw[5] (fun i wr=>∃(k:Nat) (arr:Array Value),k≤6∧i= .int .i64 k∧Hid (checkF s=fstl (List.drop k [f1,f2,f3,f4,f5,f6]))∧arr.size=18∧Row wr w.heap.size #[.slice A s.length cap] 24∧Row wr (w.heap.size+1) ftC0 31∧Row wr (w.heap.size+2) arr 85∧Below w.heap.size w wr) (fun i _=>6-(intOf i).toNat)
 case atStart=>exact ⟨0,fd18,by omega,rfl,HK,rfl,rs1,rf1,rd1,b1⟩
 case round=>
  obtain ⟨k,arr,hk,rfl,HN,ha,rs,rf,rd,hB⟩:=hrel
  have hsB:=hB.size
  have c0:=rs.src
  rcases (by omega:k=0∨k=1∨k=2∨k=3∨k=4∨k=5∨k=6) with rfl|rfl|rfl|rfl|rfl|rfl|rfl
  ·go_wp2_with fail
   refine (HC1.out _ hB).mono ?_
   refine' zq73
   obtain ⟨u0,y0⟩:=rd4.has (i:=0) (by omega)
   obtain ⟨u1,y1⟩:=rd4.has (i:=1) (by omega)
   obtain ⟨u2,y2⟩:=rd4.has (i:=2) (by omega)
   have z0:=rd4.frozen 0
   have z1:=rd4.frozen 1
   have z2:=rd4.frozen 2
   obtain ⟨arr',ha',rd5,x0,x1,x2⟩:=rd4.put3 (k:=0) (by omega) (.int .i64 f1.err) (.int .i64 f1.line) (.int .i64 f1.col)
   have u5:=upd_cells3 w4 (w.heap.size+2) 0 (.int .i64 f1.err) (.int .i64 f1.line) (.int .i64 f1.col)
   refine' zq42
   generalize ((w4.setCell ⟨w.heap.size+2,0,none⟩ (.int .i64 f1.err)).setCell ⟨w.heap.size+2,1,none⟩ (.int .i64 f1.line)).setCell ⟨w.heap.size+2,2,none⟩ (.int .i64 f1.col)=W5 at*
   have k0:=(rd5.cell 0).trans x0
   have k1:=(rd5.cell 1).trans x1
   have k2:=(rd5.cell 2).trans x2
   refine' zq253
   by_cases he:f1.err=0
   ·have e1:(f1.err !=0)=false:=neq_no he
    have HN1:Hid (checkF s=fstl (List.drop 1 [f1,f2,f3,f4,f5,f6])):=HN.out.trans (fstl_cons0 he)
    clear he
    go_wp2_with fail
    go_roundw
    case rel=>exact ⟨1,arr',by omega,by go_num,HN1,ha'.trans ha,rs5,rf5,rd5,hB5⟩
    case measure=>first|(simp[intOf];omega)|simp[intOf]
   ·have e1:(f1.err !=0)=true:=neq_yes he
    have HF:Hid (checkF s=f1):=HN.out.trans (fstl_cons1 he)
    refine' zq34
  ·go_wp2_with fail
   refine (HC2.out _ hB).mono ?_
   refine' zq73
   obtain ⟨u0,y0⟩:=rd4.has (i:=3) (by omega)
   obtain ⟨u1,y1⟩:=rd4.has (i:=4) (by omega)
   obtain ⟨u2,y2⟩:=rd4.has (i:=5) (by omega)
   have z0:=rd4.frozen 3
   have z1:=rd4.frozen 4
   have z2:=rd4.frozen 5
   obtain ⟨arr',ha',rd5,x0,x1,x2⟩:=rd4.put3 (k:=3) (by omega) (.int .i64 f2.err) (.int .i64 f2.line) (.int .i64 f2.col)
   have u5:=upd_cells3 w4 (w.heap.size+2) 3 (.int .i64 f2.err) (.int .i64 f2.line) (.int .i64 f2.col)
   refine' zq42
   generalize ((w4.setCell ⟨w.heap.size+2,3,none⟩ (.int .i64 f2.err)).setCell ⟨w.heap.size+2,4,none⟩ (.int .i64 f2.line)).setCell ⟨w.heap.size+2,5,none⟩ (.int .i64 f2.col)=W5 at*
   have k0:=(rd5.cell 3).trans x0
   have k1:=(rd5.cell 4).trans x1
   have k2:=(rd5.cell 5).trans x2
   refine' zq253
   by_cases he:f2.err=0
   ·have e1:(f2.err !=0)=false:=neq_no he
    have HN1:Hid (checkF s=fstl (List.drop 2 [f1,f2,f3,f4,f5,f6])):=HN.out.trans (fstl_cons0 he)
    clear he
    go_wp2_with fail
    go_roundw
    case rel=>exact ⟨2,arr',by omega,by go_num,HN1,ha'.trans ha,rs5,rf5,rd5,hB5⟩
    case measure=>first|(simp[intOf];omega)|simp[intOf]
   ·have e1:(f2.err !=0)=true:=neq_yes he
    have HF:Hid (checkF s=f2):=HN.out.trans (fstl_cons1 he)
    refine' zq34
  ·go_wp2_with fail
   refine (HC3.out _ hB).mono ?_
   refine' zq73
   obtain ⟨u0,y0⟩:=rd4.has (i:=6) (by omega)
   obtain ⟨u1,y1⟩:=rd4.has (i:=7) (by omega)
   obtain ⟨u2,y2⟩:=rd4.has (i:=8) (by omega)
   have z0:=rd4.frozen 6
   have z1:=rd4.frozen 7
   have z2:=rd4.frozen 8
   obtain ⟨arr',ha',rd5,x0,x1,x2⟩:=rd4.put3 (k:=6) (by omega) (.int .i64 f3.err) (.int .i64 f3.line) (.int .i64 f3.col)
   have u5:=upd_cells3 w4 (w.heap.size+2) 6 (.int .i64 f3.err) (.int .i64 f3.line) (.int .i64 f3.col)
   refine' zq42
   generalize ((w4.setCell ⟨w.heap.size+2,6,none⟩ (.int .i64 f3.err)).setCell ⟨w.heap.size+2,7,none⟩ (.int .i64 f3.line)).setCell ⟨w.heap.size+2,8,none⟩ (.int .i64 f3.col)=W5 at*
   have k0:=(rd5.cell 6).trans x0
   have k1:=(rd5.cell 7).trans x1
   have k2:=(rd5.cell 8).trans x2
   refine' zq253
   by_cases he:f3.err=0
   ·have e1:(f3.err !=0)=false:=neq_no he
    have HN1:Hid (checkF s=fstl (List.drop 3 [f1,f2,f3,f4,f5,f6])):=HN.out.trans (fstl_cons0 he)
    clear he
    go_wp2_with fail
    go_roundw
    case rel=>exact ⟨3,arr',by omega,by go_num,HN1,ha'.trans ha,rs5,rf5,rd5,hB5⟩
    case measure=>first|(simp[intOf];omega)|simp[intOf]
   ·have e1:(f3.err !=0)=true:=neq_yes he
    have HF:Hid (checkF s=f3):=HN.out.trans (fstl_cons1 he)
    refine' zq34
  ·go_wp2_with fail
   refine (HC4.out _ hB).mono ?_
   refine' zq73
   obtain ⟨u0,y0⟩:=rd4.has (i:=9) (by omega)
   obtain ⟨u1,y1⟩:=rd4.has (i:=10) (by omega)
   obtain ⟨u2,y2⟩:=rd4.has (i:=11) (by omega)
   have z0:=rd4.frozen 9
   have z1:=rd4.frozen 10
   have z2:=rd4.frozen 11
   obtain ⟨arr',ha',rd5,x0,x1,x2⟩:=rd4.put3 (k:=9) (by omega) (.int .i64 f4.err) (.int .i64 f4.line) (.int .i64 f4.col)
   have u5:=upd_cells3 w4 (w.heap.size+2) 9 (.int .i64 f4.err) (.int .i64 f4.line) (.int .i64 f4.col)
   refine' zq42
   generalize ((w4.setCell ⟨w.heap.size+2,9,none⟩ (.int .i64 f4.err)).setCell ⟨w.heap.size+2,10,none⟩ (.int .i64 f4.line)).setCell ⟨w.heap.size+2,11,none⟩ (.int .i64 f4.col)=W5 at*
   have k0:=(rd5.cell 9).trans x0
   have k1:=(rd5.cell 10).trans x1
   have k2:=(rd5.cell 11).trans x2
   refine' zq253
   by_cases he:f4.err=0
   ·have e1:(f4.err !=0)=false:=neq_no he
    have HN1:Hid (checkF s=fstl (List.drop 4 [f1,f2,f3,f4,f5,f6])):=HN.out.trans (fstl_cons0 he)
    clear he
    go_wp2_with fail
    go_roundw
    case rel=>exact ⟨4,arr',by omega,by go_num,HN1,ha'.trans ha,rs5,rf5,rd5,hB5⟩
    case measure=>first|(simp[intOf];omega)|simp[intOf]
   ·have e1:(f4.err !=0)=true:=neq_yes he
    have HF:Hid (checkF s=f4):=HN.out.trans (fstl_cons1 he)
    refine' zq34
  ·go_wp2_with fail
   refine (HC5.out _ hB).mono ?_
   refine' zq73
   obtain ⟨u0,y0⟩:=rd4.has (i:=12) (by omega)
   obtain ⟨u1,y1⟩:=rd4.has (i:=13) (by omega)
   obtain ⟨u2,y2⟩:=rd4.has (i:=14) (by omega)
   have z0:=rd4.frozen 12
   have z1:=rd4.frozen 13
   have z2:=rd4.frozen 14
   obtain ⟨arr',ha',rd5,x0,x1,x2⟩:=rd4.put3 (k:=12) (by omega) (.int .i64 f5.err) (.int .i64 f5.line) (.int .i64 f5.col)
   have u5:=upd_cells3 w4 (w.heap.size+2) 12 (.int .i64 f5.err) (.int .i64 f5.line) (.int .i64 f5.col)
   refine' zq42
   generalize ((w4.setCell ⟨w.heap.size+2,12,none⟩ (.int .i64 f5.err)).setCell ⟨w.heap.size+2,13,none⟩ (.int .i64 f5.line)).setCell ⟨w.heap.size+2,14,none⟩ (.int .i64 f5.col)=W5 at*
   have k0:=(rd5.cell 12).trans x0
   have k1:=(rd5.cell 13).trans x1
   have k2:=(rd5.cell 14).trans x2
   refine' zq253
   by_cases he:f5.err=0
   ·have e1:(f5.err !=0)=false:=neq_no he
    have HN1:Hid (checkF s=fstl (List.drop 5 [f1,f2,f3,f4,f5,f6])):=HN.out.trans (fstl_cons0 he)
    clear he
    go_wp2_with fail
    go_roundw
    case rel=>exact ⟨5,arr',by omega,by go_num,HN1,ha'.trans ha,rs5,rf5,rd5,hB5⟩
    case measure=>first|(simp[intOf];omega)|simp[intOf]
   ·have e1:(f5.err !=0)=true:=neq_yes he
    have HF:Hid (checkF s=f5):=HN.out.trans (fstl_cons1 he)
    refine' zq34
  ·go_wp2_with fail
   refine (HC6.out _ hB).mono ?_
   refine' zq73
   obtain ⟨u0,y0⟩:=rd4.has (i:=15) (by omega)
   obtain ⟨u1,y1⟩:=rd4.has (i:=16) (by omega)
   obtain ⟨u2,y2⟩:=rd4.has (i:=17) (by omega)
   have z0:=rd4.frozen 15
   have z1:=rd4.frozen 16
   have z2:=rd4.frozen 17
   obtain ⟨arr',ha',rd5,x0,x1,x2⟩:=rd4.put3 (k:=15) (by omega) (.int .i64 f6.err) (.int .i64 f6.line) (.int .i64 f6.col)
   have u5:=upd_cells3 w4 (w.heap.size+2) 15 (.int .i64 f6.err) (.int .i64 f6.line) (.int .i64 f6.col)
   refine' zq42
   generalize ((w4.setCell ⟨w.heap.size+2,15,none⟩ (.int .i64 f6.err)).setCell ⟨w.heap.size+2,16,none⟩ (.int .i64 f6.line)).setCell ⟨w.heap.size+2,17,none⟩ (.int .i64 f6.col)=W5 at*
   have k0:=(rd5.cell 15).trans x0
   have k1:=(rd5.cell 16).trans x1
   have k2:=(rd5.cell 17).trans x2
   refine' zq253
   by_cases he:f6.err=0
   ·have e1:(f6.err !=0)=false:=neq_no he
    have HN1:Hid (checkF s=fstl (List.drop 6 [f1,f2,f3,f4,f5,f6])):=HN.out.trans (fstl_cons0 he)
    clear he
    go_wp2_with fail
    go_roundw
    case rel=>exact ⟨6,arr',by omega,by go_num,HN1,ha'.trans ha,rs5,rf5,rd5,hB5⟩
    case measure=>first|(simp[intOf];omega)|simp[intOf]
   ·have e1:(f6.err !=0)=true:=neq_yes he
    have HF:Hid (checkF s=f6):=HN.out.trans (fstl_cons1 he)
    refine' zq34
  ·have HF:Hid (checkF s=ft0):=HN.out
   obtain ⟨⟨j0,j1,j2⟩,g0,g1,g2⟩:=rf.three
   refine' zq28
theorem rsrc21_any (s:List Nd) (A:Option Addr) (cap:Nat) (w:World) (sm:SrcSm s) (h1:s.length≤cap) (h2:cap≤maxLen) (h:Nds w w.heap.size A s):
  Calls Tryz.prog 17 #[srcV s A cap] w fun r w'=>r= .returned (ftV (checkF s))∧Below w.heap.size w w':=by
 refine' zq186
 have rs1:=(Row.new w #[.slice A s.length cap] 24).alloc (.cells ftC0 31)
 have rf1:=rowNew2 w (.cells #[.slice A s.length cap] 24) ftC0 31
 refine' zq218
 obtain ⟨f1,HF1⟩:∃f,Hid (scopeF s=f):=⟨_,rfl⟩
 have HC1:Hid (∀W,Below w.heap.size w W→Calls Tryz.prog 47 #[srcV s A cap] W fun r w'=>r= .returned (ftV f1)∧Below W.heap.size W w'):=fun W hW=>by rw[←HF1.out];exact rcheck15_any s A cap W sm h1 h2 (HS.out W hW)
 obtain ⟨f2,HF2⟩:∃f,Hid (typesF s=f):=⟨_,rfl⟩
 have HC2:Hid (∀W,Below w.heap.size w W→Calls Tryz.prog 48 #[srcV s A cap] W fun r w'=>r= .returned (ftV f2)∧Below W.heap.size W w'):=fun W hW=>by rw[←HF2.out];exact rtcheck_any s A cap W sm h1 h2 (HS.out W hW)
 obtain ⟨f3,HF3⟩:∃f,Hid (callsF s=f):=⟨_,rfl⟩
 have HC3:Hid (∀W,Below w.heap.size w W→Calls Tryz.prog 49 #[srcV s A cap] W fun r w'=>r= .returned (ftV f3)∧Below W.heap.size W w'):=fun W hW=>by rw[←HF3.out];exact rcheck17_any s A cap W sm h1 h2 (HS.out W hW)
 obtain ⟨f4,HF4⟩:∃f,Hid (clockF s=f):=⟨_,rfl⟩
 have HC4:Hid (∀W,Below w.heap.size w W→Calls Tryz.prog 50 #[srcV s A cap] W fun r w'=>r= .returned (ftV f4)∧Below W.heap.size W w'):=fun W hW=>by rw[←HF4.out];exact rccheck_any s A cap W sm h1 h2 (HS.out W hW)
 obtain ⟨f5,HF5⟩:∃f,Hid (onsF s=f):=⟨_,rfl⟩
 have HC5:Hid (∀W,Below w.heap.size w W→Calls Tryz.prog 51 #[srcV s A cap] W fun r w'=>r= .returned (ftV f5)∧Below W.heap.size W w'):=fun W hW=>by rw[←HF5.out];exact rocheck_any s A cap W sm h1 h2 (HS.out W hW)
 obtain ⟨f6,HF6⟩:∃f,Hid (causeF s=f):=⟨_,rfl⟩
 have HC6:Hid (∀W,Below w.heap.size w W→Calls Tryz.prog 52 #[srcV s A cap] W fun r w'=>r= .returned (ftV f6)∧Below W.heap.size W w'):=fun W hW=>by rw[←HF6.out];exact rcheck20_any s A cap W sm h1 h2 (HS.out W hW)
 have HK:Hid (checkF s=fstl [f1,f2,f3,f4,f5,f6]):=by show _=_;unfold checkF;rw[HF1.out,HF2.out,HF3.out,HF4.out,HF5.out,HF6.out]
 have HZ6:Hid (f6.err=0→f6=ft0):=fun g=>by rw[←HF6.out] at g⊢;exact causeF_zero g
 clear h sm HF1 HF2 HF3 HF4 HF5 HF6
 go_enter Tryz.func17,Tryz.ntmps17
 go_upto_region 1 with (fail)
 change Code.wp _ _ _ _ ((w.alloc (.cells #[.slice A s.length cap] 24)).alloc (.cells ftC0 31))
 refine' zq184
 have c0:=rs1.src
 go_wp2_with fail
 refine (HC1.out _ b1).mono ?_
 rintro r w2 ⟨rfl,hb2⟩
 refine' zq153
 have b3:Below w2.heap.size w2 (w2.alloc (.cells (ftC f1) 31)):=bE
 have rx:=Row.new w2 (ftC f1) 31
 have rs:=(rs1.below hb2 rs1.lt).below b3 (by have:=rs1.lt;have:=hb2.size;omega)
 have rf:=(rf1.below hb2 rf1.lt).below b3 (by have:=rf1.lt;have:=hb2.size;omega)
 have hB:=hB2.trans (b3.mono hs2)
 have hX:w.heap.size+1<w2.heap.size:=by have:=rf1.lt;have:=hb2.size;omega
 clear c0 rs1 rf1 b1 hb2 hB2 b3 HC1
 go_upto_region 2 with (fail)
 generalize hW:w2.alloc (.cells (ftC f1) 31)=W2 at*
 clear hW
 generalize w2.heap.size=X at*
 refine' zq114
 have c0:=rs.src
 by_cases he:f1.err=0
 rotate_left 1
 ·have e1:(f1.err==0)=false:=ieq_no he
  have HF:Hid (checkF s=f1):=HK.out.trans (fstl_cons1 he)
  clear he
  refine' zq28
 have e1:(f1.err==0)=true:=ieq_yes he
 replace HK:Hid (checkF s=fstl [f2,f3,f4,f5,f6]):=HK.out.trans (fstl_cons0 he)
 clear he
 have hsB:=hB.size
 go_wp2_with fail
 refine (HC2.out _ hB).mono ?_
 refine' zq49
 have u5:=upd_cells3 w4 X 0 (.int .i64 f2.err) (.int .i64 f2.line) (.int .i64 f2.col)
 replace rx:=rx.set3 (.int .i64 f2.err) (.int .i64 f2.line) (.int .i64 f2.col)
 go_upto_region 4 with (fail)
 refine' zq67
 generalize ((w4.setCell ⟨X,0,none⟩ (.int .i64 f2.err)).setCell ⟨X,1,none⟩ (.int .i64 f2.line)).setCell ⟨X,2,none⟩ (.int .i64 f2.col)=W3 at*
 clear HC2
 refine' zq114
 have c0:=rs.src
 by_cases he:f2.err=0
 rotate_left 1
 ·have e1:(f2.err==0)=false:=ieq_no he
  have HF:Hid (checkF s=f2):=HK.out.trans (fstl_cons1 he)
  clear he
  refine' zq28
 have e1:(f2.err==0)=true:=ieq_yes he
 replace HK:Hid (checkF s=fstl [f3,f4,f5,f6]):=HK.out.trans (fstl_cons0 he)
 clear he
 have hsB:=hB.size
 go_wp2_with fail
 refine (HC3.out _ hB).mono ?_
 refine' zq49
 have u5:=upd_cells3 w4 X 0 (.int .i64 f3.err) (.int .i64 f3.line) (.int .i64 f3.col)
 replace rx:=rx.set3 (.int .i64 f3.err) (.int .i64 f3.line) (.int .i64 f3.col)
 go_upto_region 6 with (fail)
 refine' zq67
 generalize ((w4.setCell ⟨X,0,none⟩ (.int .i64 f3.err)).setCell ⟨X,1,none⟩ (.int .i64 f3.line)).setCell ⟨X,2,none⟩ (.int .i64 f3.col)=W4 at*
 clear HC3
 refine' zq114
 have c0:=rs.src
 by_cases he:f3.err=0
 rotate_left 1
 ·have e1:(f3.err==0)=false:=ieq_no he
  have HF:Hid (checkF s=f3):=HK.out.trans (fstl_cons1 he)
  clear he
  refine' zq28
 have e1:(f3.err==0)=true:=ieq_yes he
 replace HK:Hid (checkF s=fstl [f4,f5,f6]):=HK.out.trans (fstl_cons0 he)
 clear he
 have hsB:=hB.size
 go_wp2_with fail
 refine (HC4.out _ hB).mono ?_
 refine' zq49
 have u5:=upd_cells3 w4 X 0 (.int .i64 f4.err) (.int .i64 f4.line) (.int .i64 f4.col)
 replace rx:=rx.set3 (.int .i64 f4.err) (.int .i64 f4.line) (.int .i64 f4.col)
 go_upto_region 8 with (fail)
 refine' zq67
 generalize ((w4.setCell ⟨X,0,none⟩ (.int .i64 f4.err)).setCell ⟨X,1,none⟩ (.int .i64 f4.line)).setCell ⟨X,2,none⟩ (.int .i64 f4.col)=W5 at*
 clear HC4
 refine' zq114
 have c0:=rs.src
 by_cases he:f4.err=0
 rotate_left 1
 ·have e1:(f4.err==0)=false:=ieq_no he
  have HF:Hid (checkF s=f4):=HK.out.trans (fstl_cons1 he)
  clear he
  refine' zq28
 have e1:(f4.err==0)=true:=ieq_yes he
 replace HK:Hid (checkF s=fstl [f5,f6]):=HK.out.trans (fstl_cons0 he)
 clear he
 have hsB:=hB.size
 go_wp2_with fail
 refine (HC5.out _ hB).mono ?_
 refine' zq49
 have u5:=upd_cells3 w4 X 0 (.int .i64 f5.err) (.int .i64 f5.line) (.int .i64 f5.col)
 replace rx:=rx.set3 (.int .i64 f5.err) (.int .i64 f5.line) (.int .i64 f5.col)
 go_upto_region 10 with (fail)
 refine' zq67
 generalize ((w4.setCell ⟨X,0,none⟩ (.int .i64 f5.err)).setCell ⟨X,1,none⟩ (.int .i64 f5.line)).setCell ⟨X,2,none⟩ (.int .i64 f5.col)=W6 at*
 clear HC5
 refine' zq114
 have c0:=rs.src
 by_cases he:f5.err=0
 rotate_left 1
 ·have e1:(f5.err==0)=false:=ieq_no he
  have HF:Hid (checkF s=f5):=HK.out.trans (fstl_cons1 he)
  clear he
  refine' zq28
 have e1:(f5.err==0)=true:=ieq_yes he
 replace HK:Hid (checkF s=fstl [f6]):=HK.out.trans (fstl_cons0 he)
 clear he
 have hsB:=hB.size
 go_wp2_with fail
 refine (HC6.out _ hB).mono ?_
 refine' zq49
 have u5:=upd_cells3 w4 X 0 (.int .i64 f6.err) (.int .i64 f6.line) (.int .i64 f6.col)
 replace rx:=rx.set3 (.int .i64 f6.err) (.int .i64 f6.line) (.int .i64 f6.col)
 go_upto_region 12 with (fail)
 refine' zq67
 generalize ((w4.setCell ⟨X,0,none⟩ (.int .i64 f6.err)).setCell ⟨X,1,none⟩ (.int .i64 f6.line)).setCell ⟨X,2,none⟩ (.int .i64 f6.col)=W7 at*
 clear HC6
 refine' zq114
 have HF:Hid (checkF s=f6):=by
  refine HK.out.trans ?_
  by_cases he:f6.err=0
  ·rw[fstl_cons0 he];exact (HZ6.out he).symm
  ·exact fstl_cons1 he
 refine' zq28
end Go.Proofs.YtgjfkidbfmbjoaaGreat
