/-
  What is wrong first with a source's names: the contract of scope.Check. Which expressions go by which clocks, plain. bits.Mul of one and a small number. slices.Repeat of one row of conditions.
-/
import Derived.Test.YtdkgkacnjdnpoaaGreatScK
import Derived.Test.YtdkgkacnjdnpoaaGreatScH
import Derived.Test.YtdkgkacnjdnpoaaGreatMem
import Derived.Laws.Bits64b
import Derived.Deep.RegionWith
import Derived.Deep.DeepCutAuto
import Derived.Laws.MakeOwn
import Derived.Laws.CopyOwn
import Derived.Deep.RegionHeld3
import Derived.IntWalk
set_option maxHeartbeats 2000000
set_option maxRecDepth 100000
namespace Go.Proofs.YtdkgkacnjdnpoaaGreat
open Go.RowKit
theorem chk1_any (n:Nd) (a:NdA) (b1:Nat) (w:World) (sm:NdSm n) (hn:NdAt w w.heap.size n a) (r1:Row w b1 (ndArr n a) 58):
  Calls Tryz.prog 94 #[.pointer (some ⟨b1,0,none⟩)] w fun r w'=>r= .returned (ftV (variablesF n))∧Below w.heap.size w w':=by
 have b0:Below w.heap.size w (w.alloc (.cells ftC0 38)):=bE
 have rf:=Row.new w ftC0 38
 have r1':=r1.below b0 r1.lt
 have HN:=Lib.hid (hn.next b0)
 clear hn r1
 go_enter Tryz.func94,Tryz.ntmps94
 go_upto_region 1 with (fail)
 generalize w.alloc (.cells ftC0 38)=W1 at*
 obtain ⟨c0,c1,cc2,c3,c4,c5,c6⟩:=r1'.nd
 go_wp2_with fail
 refine (variables_any n a W1 sm HN.out).mono ?_
 rintro r w2 ⟨rfl,hb2⟩
 have rf2:=rf.below hb2 rf.lt
 have hB2:=b0.trans (hb2.mono b0.size)
 obtain ⟨⟨k0,k1',k2'⟩,g0,g1,g2⟩:=rf2.three
 go_wp2_with fail
 exact bodyPost_ret (res1 rfl Tryz.underlying38 rfl (by kernel_rfl) rfl (rf2.set3 _ _ _)) rfl ⟨rfl,below_set3 hB2 (Nat.le_refl _) _ _ _⟩
theorem chk2_any (s:List Nd) (A:Option Addr) (cap:Nat) (n:Nd) (a:NdA) (b1 b2:Nat) (w:World) (h1:s.length≤cap) (h2:cap≤maxLen) (sm:NdSm n) (hs:Nds w w.heap.size A s) (hn:NdAt w w.heap.size n a) (r1:Row w b1 #[.slice A s.length cap] 24) (r2:Row w b2 (ndArr n a) 58):
  Calls Tryz.prog 96 #[.pointer (some ⟨b1,0,none⟩),.pointer (some ⟨b2,0,none⟩)] w fun r w'=>r= .returned (ftV (equationsF s n))∧Below w.heap.size w w':=by
 have b0:Below w.heap.size w (w.alloc (.cells ftC0 38)):=bE
 have rf:=Row.new w ftC0 38
 have r1':=r1.below b0 r1.lt
 have r2':=r2.below b0 r2.lt
 have HS:=Lib.hid (nds_keep hs (keeps_of b0) b0.size)
 have HN:=Lib.hid (hn.next b0)
 clear hn hs r1 r2
 go_enter Tryz.func96,Tryz.ntmps96
 go_upto_region 1 with (fail)
 generalize w.alloc (.cells ftC0 38)=W1 at*
 have z0:=r1'.src
 obtain ⟨c0,c1,cc2,c3,c4,c5,c6⟩:=r2'.nd
 go_wp2_with fail
 refine (equations_any s A cap n a W1 h1 h2 sm HS.out HN.out).mono ?_
 rintro r w2 ⟨rfl,hb2⟩
 have rf2:=rf.below hb2 rf.lt
 have hB2:=b0.trans (hb2.mono b0.size)
 obtain ⟨⟨k0,k1',k2'⟩,g0,g1,g2⟩:=rf2.three
 go_wp2_with fail
 exact bodyPost_ret (res1 rfl Tryz.underlying38 rfl (by kernel_rfl) rfl (rf2.set3 _ _ _)) rfl ⟨rfl,below_set3 hB2 (Nat.le_refl _) _ _ _⟩
theorem equationsF_zero {s:List Nd} {n:Nd} (h:(equationsF s n).err=0):equationsF s n=ft0:=by
 unfold equationsF at h⊢
 obtain ⟨h1,h2⟩:=ft2_ok h
 rw[ft2_0 h1]
 exact fstL_zero h2
theorem check15_any (s:List Nd) (A:Option Addr) (cap:Nat) (w:World) (sm:SrcSm s) (h1:s.length≤cap) (h2:cap≤maxLen) (h:Nds w w.heap.size A s):
  Calls Tryz.prog 54 #[srcV s A cap] w fun r w'=>r= .returned (ftV (scopeF s))∧Below w.heap.size w w':=by
 have rf1:=rowNew2 w (.cells #[.slice A s.length cap] 24) ftC0 38
 have rs1:=(Row.new w #[.slice A s.length cap] 24).alloc (.cells ftC0 38)
 have b1:Below w.heap.size w ((w.alloc (.cells #[.slice A s.length cap] 24)).alloc (.cells ftC0 38)):=bE
 have HS:Hid (∀W,Below w.heap.size w W→Nds W w.heap.size A s):=fun W hW=>nds_keep h (keeps_of hW) (Nat.le_refl _)
 have HSM:=Lib.hid sm
 have h2':cap≤9223372036854775807:=by unfold maxLen at h2;omega
 clear h sm
 go_enter Tryz.func54,Tryz.ntmps54
 go_upto_region 1 with (fail)
 generalize (w.alloc (.cells #[.slice A s.length cap] 24)).alloc (.cells ftC0 38)=W1 at*
 have hs1:=b1.size
 have c0:=rs1.src
 go_wp2_with fail
 refine (source_any s A cap W1 HSM.out h1 h2 (nds_keep (HS.out W1 b1) (fun _ _ _ h=>h) hs1)).mono ?_
 rintro r w2 ⟨rfl,hb2⟩
 have rs2:=rs1.below hb2 rs1.lt
 have rf2:=rf1.below hb2 rf1.lt
 have hB2:=b1.trans (hb2.mono hs1)
 have hs2:=hB2.size
 clear c0 rs1 rf1 b1 hb2 hs1
 have c0:=rs2.src
 by_cases hP:SrcRt s
 rotate_left 1
 ·have HF:=Lib.hid (scopeF_2 hP)
  rw[cB_false hP]
  clear hP
  go_wp2_with fail
  refine (fault_any _ _ _ _).mono ?_
  rintro r w9 ⟨rfl,hb9⟩
  have q9:Below w2.heap.size w2 w9:=Below.trans bE (hb9.mono lE)
  have rf9:=rf2.below q9 rf2.lt
  have b9:=Below.trans hB2 (q9.mono (Below.size hB2))
  obtain ⟨⟨k0,k1,k2⟩,h0,h1,h2⟩:=rf9.three
  go_wp2_with fail
  exact bodyPost_ret (res1 rfl Tryz.underlying38 rfl (by kernel_rfl) rfl (rf9.set3 _ _ _)) rfl ⟨(congrArg (fun f=>Ending.returned (ftV f)) HF.out).symm,below_set3 b9 (by first|omega|(simp;omega)|simp) _ _ _⟩
 have HF0:=Lib.hid (scopeF_rt hP)
 rw[cB_true hP]
 clear hP
 go_wp2_with fail
 refine (names_scope s A cap w2 h1 h2 (nds_keep (HS.out w2 hB2) (fun _ _ _ h=>h) hs2)).mono ?_
 rintro r w3 ⟨rfl,hb3⟩
 have rs3:=rs2.below hb3 rs2.lt
 have rf3:=rf2.below hb3 rf2.lt
 have hB3:=hB2.trans (hb3.mono hs2)
 have hs3:=hB3.size
 have hl3:=rf3.lt
 clear c0 rs2 rf2 hB2 hb3 hs2
 obtain ⟨f,HFN⟩:∃f,Hid (fstL (nameF s) s=f):=⟨_,rfl⟩
 rw[HFN.out] at HF0⊢
 by_cases hf:f.err=0
 rotate_left 1
 ·have hf1:(f.err !=0)=true:=neq_yes hf
  have HF:Hid (scopeF s=f):=by show _=_;rw[HF0.out,ft2_1 hf]
  clear hf
  obtain ⟨⟨k0,k1,k2⟩,g0,g1,g2⟩:=rf3.three
  go_wp2_with fail
  exact bodyPost_ret (res1 rfl Tryz.underlying38 rfl (by kernel_rfl) rfl ((rf3.set3 _ _ _).alloc _)) rfl ⟨(congrArg (fun f=>Ending.returned (ftV f)) HF.out).symm,(below_set3 hB3 (by first|omega|(simp;omega)|simp) _ _ _).alloc (by first|(simp[World.setCell];omega)|simp[World.setCell]) _⟩
 have hf1:(f.err !=0)=false:=neq_no hf
 have HF1:Hid (scopeF s=ft2 (fstL (nodeF s) s) (mainF s)):=by show _=_;rw[HF0.out,ft2_0 hf]
 clear hf
 have c0:=rs3.src
 have ba:Below w3.heap.size w3 (w3.alloc (.cells (ftC f) 38)):=bE
 go_upto_region 6 with (fail)
 generalize hW4:w3.alloc (.cells (ftC f) 38)=w4 at*
 clear hW4
 have rs4:=rs3.below ba rs3.lt
 have rf4:=rf3.below ba rf3.lt
 have hB4:=hB3.trans (ba.mono hs3)
 have hs4:=hB4.size
 clear c0 rs3 rf3 hB3 hs3 ba hl3 HF0
 have c0:=rs4.src
 go_wp2_with fail
 clear c0
 go_loopw[23] (fun i wr=>∃k:Nat,k≤s.length∧i= .int .i64 k∧Hid (∀j,j<k→∀x,s[j]? =some x→(nodeF s j x).err=0)∧Below w4.heap.size w4 wr) (fun i _=>s.length-(intOf i).toNat)
 case atStart=>exact ⟨0,Nat.zero_le _,rfl,fun j h=>absurd h (by omega),Below.refl _ _⟩
 case round=>
  obtain ⟨k,hk,rfl,HN,hbr⟩:=hrel
  have hszr:=hbr.size
  have rs:=rs4.below hbr rs4.lt
  have rf:=rf4.below hbr rf4.lt
  have hB:=hB4.trans (hbr.mono hs4)
  have hsB:=hB.size
  by_cases hlt:k<s.length
  ·obtain ⟨b,off,n,a,hA,hb,hn,hat,d0,d1,d2,d3,d4,d5,d6⟩:=(HS.out wr hB).nd hlt
   rw[hA]
   have HA:=Lib.hid hA
   have HX:=Lib.hid hn
   have HSN:=Lib.hid (HSM.out.all n (List.mem_of_getElem? hn))
   have HAT:Hid (∀W,Below wr.heap.size wr W→NdAt W W.heap.size n a):=fun W hW=>(hat.below (hW.mono hsB)).more (Nat.le_trans hsB hW.size)
   have HSW:Hid (∀W,Below wr.heap.size wr W→Nds W W.heap.size A s):=fun W hW=>nds_keep (HS.out W (hB.trans (hW.mono hsB))) (fun _ _ _ h=>h) (Nat.le_trans hsB hW.size)
   obtain ⟨f1,HV1⟩:∃f,Hid (variablesF n=f):=⟨_,rfl⟩
   obtain ⟨f2,HV2⟩:∃f,Hid (equationsF s n=f):=⟨_,rfl⟩
   have HZ2:Hid (f2.err=0→f2=ft0):=fun g=>by
    rw[←HV2.out] at g⊢
    exact equationsF_zero g
   have HEQ:Hid (nodeF s k n=ft2 f1 f2):=by show _=_;rw[←HV1.out,←HV2.out];rfl
   have rn:=Row.new wr (ndArr n a) 58
   have ba:Below wr.heap.size wr (wr.alloc (.cells (ndArr n a) 58)):=bE
   clear hA hn hat
   go_upto_region 9 with (fail)
   clear d0 d1 d2 d3 d4 d5 d6
   generalize hW6:wr.alloc (.cells (ndArr n a) 58)=w6 at*
   clear hW6
   have hsa:=ba.size
   have bb:Below w6.heap.size w6 (w6.alloc (.cells #[.func (.func 94) #[] #[.pointer (some ⟨wr.heap.size,0,none⟩)],.func (.func 96) #[] #[.pointer (some ⟨w.heap.size,0,none⟩),.pointer (some ⟨wr.heap.size,0,none⟩)]] 176)):=bE
   have rc:=Row.new w6 #[.func (.func 94) #[] #[.pointer (some ⟨wr.heap.size,0,none⟩)],.func (.func 96) #[] #[.pointer (some ⟨w.heap.size,0,none⟩),.pointer (some ⟨wr.heap.size,0,none⟩)]] 176
   have b67:=ba.trans (bb.mono hsa)
   go_wp2_with fail
   generalize hW7:w6.alloc (.cells #[.func (.func 94) #[] #[.pointer (some ⟨wr.heap.size,0,none⟩)],.func (.func 96) #[] #[.pointer (some ⟨w.heap.size,0,none⟩),.pointer (some ⟨wr.heap.size,0,none⟩)]] 176)=w7 at*
   clear hW7
   have rs7:=rs.below b67 rs.lt
   have rn7:=rn.below bb rn.lt
   have rf7:=rf.below b67 rf.lt
   have hB7:=hB.trans (b67.mono hsB)
   have hs7:=b67.size
   refine (first_two 94 96 _ _ w6.heap.size w7 (fun _=>False) f1 f2 (fun _=>True) (fun _=>True) 176 (enters_of Tryz.func94 (by kernel_rfl) rfl) (enters_of Tryz.func96 (by kernel_rfl) rfl) rc (fun g=>g)
    (fun W o h=>h) (fun W o h=>h) (fun W g y0 y1 y2 hg h=>h) ?f1 ?f2 (fun k hk=>hk.elim) HZ2.out).mono ?_
   case f1=>
    intro W hW
    refine (chk1_any n a _ W HSN.out (HAT.out W (b67.trans (hW.mono hs7))) (rn7.below hW rn7.lt)).mono fun r W' hr=>?_
    obtain ⟨g1,g2⟩:=hr
    rw[HV1.out] at g1
    exact ⟨g1,Upd.of_below g2,fun _=>trivial⟩
   case f2=>
    intro W hW hR
    have hW':Below w7.heap.size w7 W:=Upd.below hW (fun k hk=>hk.elim) (Nat.le_refl _)
    have hW2:=b67.trans (hW'.mono hs7)
    refine (chk2_any s A cap n a _ _ W h1 h2 HSN.out (HSW.out W hW2) (HAT.out W hW2) (rs7.below hW' rs7.lt) (rn7.below hW' rn7.lt)).mono fun r W' hr=>?_
    obtain ⟨g1,g2⟩:=hr
    rw[HV2.out] at g1
    exact ⟨g1,Upd.of_below g2,fun _=>trivial⟩
   rintro r w8 ⟨rfl,hu8,_⟩
   have hb8:Below w7.heap.size w7 w8:=Upd.below hu8 (fun k hk=>hk.elim) (Nat.le_refl _)
   have rf8:=rf7.below hb8 rf7.lt
   have hB8:=hB7.trans (hb8.mono hB7.size)
   have hsB8:=hB8.size
   have hs8:=hb8.size
   have hl8:=rf8.lt
   obtain ⟨f',HF'⟩:∃f,Hid (ft2 f1 f2=f):=⟨_,rfl⟩
   rw[HF'.out]
   by_cases hf:f'.err=0
   ·have hf1:(f'.err !=0)=false:=neq_no hf
    have HN':=Lib.hid (step_uptoI (P:=fun j x=>(nodeF s j x).err=0) HN.out HX.out (by rw[HEQ.out,HF'.out];exact hf))
    have b9:Below w4.heap.size w4 (w8.alloc (.cells (ftC f') 38)):=((hbr.trans (b67.mono hszr)).trans (hb8.mono (by omega))).alloc (by omega) _
    clear hf
    go_wp2_with fail
    go_roundw
    case rel=>exact ⟨k+1,by omega,by go_num,HN',b9⟩
    case measure=>first|(simp[intOf];omega)|simp[intOf]
   ·have hf1:(f'.err !=0)=true:=neq_yes hf
    have HF:Hid (scopeF s=f'):=by
     have e:nodeF s k n=f':=by rw[HEQ.out,HF'.out]
     have h:=fstL_stop (f:=nodeF s) HN.out HX.out (by rw[e];exact hf)
     show _=_
     rw[HF1.out,h,e,ft2_1 hf]
    clear hf
    obtain ⟨⟨k0,k1,k2⟩,g0,g1,g2⟩:=rf8.three
    go_wp2_with fail
    exact bodyPost_ret (res1 rfl Tryz.underlying38 rfl (by kernel_rfl) rfl ((rf8.set3 _ _ _).alloc _)) rfl ⟨(congrArg (fun f=>Ending.returned (ftV f)) HF.out).symm,(below_set3 hB8 (by first|omega|(simp;omega)|simp) _ _ _).alloc (by first|(simp[World.setCell];omega)|simp[World.setCell]) _⟩
  ·obtain rfl:k=s.length:=by omega
   have HF2:Hid (scopeF s=mainF s):=by
    show _=_
    rw[HF1.out,fstL_end HN.out,ft2_0 (a:=ft0) rfl]
   have HR:=Lib.hid (find_any s s.length A cap mainNm wr rfl h1 h2 (nds_keep (HS.out wr hB) (fun _ _ _ h=>h) hsB))
   have c0:=rs.src
   by_cases hP:mainNm∈s.map Nd.name
   ·have HC:=Lib.hid (cB_true hP)
    have HF:Hid (scopeF s=ft0):=by show _=_;rw[HF2.out];unfold mainF;rw[if_neg (fun g=>g hP)]
    clear hP
    go_wp2_with fail
    refine HR.out.mono ?_
    rintro r w5 ⟨⟨m,am,rfl,hm1,hm0⟩,hb5⟩
    rw[HC.out]
    have rf5:=rf.below hb5 rf.lt
    have hB5:=hB.trans (hb5.mono hsB)
    have hsB5:=hB5.size
    have hl5:=rf5.lt
    obtain ⟨⟨k0,k1,k2⟩,g0,g1,g2⟩:=rf5.three
    go_wp2_with fail
    exact bodyPost_ret (res1 rfl Tryz.underlying38 rfl (by kernel_rfl) rfl ((rf5.set3 _ _ _).alloc _)) rfl ⟨(congrArg (fun f=>Ending.returned (ftV f)) HF.out).symm,(below_set3 hB5 (by first|omega|(simp;omega)|simp) _ _ _).alloc (by first|(simp[World.setCell];omega)|simp[World.setCell]) _⟩
   ·have HC:=Lib.hid (cB_false hP)
    have HF:Hid (scopeF s=⟨27,0,0⟩):=by show _=_;rw[HF2.out];unfold mainF;rw[if_pos hP]
    clear hP
    go_wp2_with fail
    refine HR.out.mono ?_
    rintro r w5 ⟨⟨m,am,rfl,hm1,hm0⟩,hb5⟩
    rw[HC.out]
    have rf5:=rf.below hb5 rf.lt
    have hB5:=hB.trans (hb5.mono hsB)
    have hsB5:=hB5.size
    have hl5:=rf5.lt
    go_wp2_with fail
    refine (fault_any _ _ _ _).mono ?_
    rintro r w9 ⟨rfl,hb9⟩
    have q9:Below w5.heap.size w5 w9:=Below.trans bE (hb9.mono lE)
    have rf9:=rf5.below q9 rf5.lt
    have b9:=Below.trans hB5 (q9.mono (Below.size hB5))
    obtain ⟨⟨k0,k1,k2⟩,h0,h1,h2⟩:=rf9.three
    go_wp2_with fail
    exact bodyPost_ret (res1 rfl Tryz.underlying38 rfl (by kernel_rfl) rfl (rf9.set3 _ _ _)) rfl ⟨(congrArg (fun f=>Ending.returned (ftV f)) HF.out).symm,below_set3 b9 (by first|omega|(simp;omega)|simp) _ _ _⟩
def partClock (e:Ex) (clock:List Lt) (i:Nat):List Lt:=
 if e.op=24∨e.op=25 then clock.dropLast else if e.op=26 then clock++ [⟨e.name,decide (i=1)⟩] else clock
def fitsL (e:Ex) (clock:List Lt):List (List Lt→Ft)→Nat→Ft
 | [],_=>ft0
 |p::ps,i=>if (p (partClock e clock i)).err≠0 then p (partClock e clock i) else fitsL e clock ps (i+1)
def badClock (n:Nd) (e:Ex) (clock:List Lt):Prop:=((e.op=3∨e.op=26)∧clockOf n e.name≠clock)∨((e.op=24∨e.op=25)∧clock.getLast?≠some ⟨e.name,decide (e.op=25)⟩)
open Classical in
noncomputable def fitsP (n:Nd):Ex→List Lt→Ft:=Ex.para fun e ps clock=>if badClock n e clock then ⟨30,e.line,e.col⟩ else fitsL e clock ps 0
theorem fitsP_bad {n:Nd} {e:Ex} {clock:List Lt} (h:badClock n e clock):fitsP n e clock=⟨30,e.line,e.col⟩:=by
 unfold fitsP;rw[Ex.para_eq,if_pos h]
theorem fitsP_ok {n:Nd} {e:Ex} {clock:List Lt} (h:¬badClock n e clock):fitsP n e clock=fitsL e clock (e.args.map (fitsP n)) 0:=by
 unfold fitsP;rw[Ex.para_eq,if_neg h]
def ArgsOk (e:Ex):Prop:=(e.op=24∨e.op=25→e.args.length=1)∧(e.op=26→e.args.length=2)
theorem bad_3 {n:Nd} {e:Ex} {clock:List Lt} (h:e.op=3∨e.op=26):badClock n e clock↔clockOf n e.name≠clock:=by
 unfold badClock
 constructor
 ·rintro (⟨_,h'⟩|⟨h',_⟩)
  ·exact h'
  ·omega
 ·exact fun h'=> .inl ⟨h,h'⟩
theorem bad_24 {n:Nd} {e:Ex} {clock:List Lt} (h:e.op=24∨e.op=25):badClock n e clock↔clock.getLast?≠some ⟨e.name,decide (e.op=25)⟩:=by
 unfold badClock
 constructor
 ·rintro (⟨h',_⟩|⟨_,h'⟩)
  ·omega
  ·exact h'
 ·exact fun h'=> .inr ⟨h,h'⟩
theorem bad_no {n:Nd} {e:Ex} {clock:List Lt} (h3:e.op≠3) (h4:e.op≠24) (h5:e.op≠25) (h6:e.op≠26):¬badClock n e clock:=by
 unfold badClock
 rintro (⟨h,_⟩|⟨h,_⟩)<;>omega
theorem part_24 {e:Ex} (h:e.op=24∨e.op=25) (clock:List Lt) (i:Nat):partClock e clock i=clock.dropLast:=by unfold partClock;rw[if_pos h]
theorem part_26 {e:Ex} (h:e.op=26) (clock:List Lt) (i:Nat):partClock e clock i=clock++ [⟨e.name,decide (i=1)⟩]:=by unfold partClock;rw[if_neg (by omega),if_pos h]
theorem part_no {e:Ex} (h4:e.op≠24) (h5:e.op≠25) (h6:e.op≠26) (clock:List Lt) (i:Nat):partClock e clock i=clock:=by unfold partClock;rw[if_neg (by omega),if_neg h6]
theorem part_len (e:Ex) (clock:List Lt) (i:Nat):(partClock e clock i).length≤clock.length+1:=by
 unfold partClock;split
 ·simp;omega
 ·split<;>simp
theorem mask_small (a:Nat) (ha:a≤100000):bits .and .u64 (a:Int) 4294967295=(a:Int):=by
 have h:=bits_and_u64_nat a 4294967295 (by omega) (by omega)
 have e:a &&& 4294967295=a:=by rw[show (4294967295:Nat)=2 ^ 32-1 by rfl,Nat.and_two_pow_sub_one_eq_mod];exact Nat.mod_eq_of_lt (by omega)
 rw[e] at h
 exact h
theorem mask_one:bits .and .u64 1 4294967295=1:=by decide
theorem mask_zero:bits .and .u64 0 4294967295=0:=by decide
theorem mul64_one (y:Nat) (hy:y≤100000) (w:World):
  Calls Tryz.prog 188 #[.int .u64 1,.int .u64 y] w fun e w'=>e= .returned (.tuple #[.int .u64 0,.int .u64 y])∧w=w':=by
 have k1:=mask_small y hy
 have k2:=mask_one
 have k3:=mask_zero
 have hd:(y:Int)/4294967296=0:=by omega
 go_enter Tryz.func188,Tryz.ntmps188
 go_wp2
 go_ret2
 exact ⟨rfl,rfl⟩
theorem mul_one (y:Nat) (hy:y≤100000) (w:World):
  Calls Tryz.prog 152 #[.int .u64 1,.int .u64 y] w fun e w'=>e= .returned (.tuple #[.int .u64 0,.int .u64 y])∧w=w':=by
 go_enter Tryz.func152,Tryz.ntmps152
 go_wp2_with (go_at_call 188;refine (mul64_one _ hy _).mono ?_;rintro e w' ⟨rfl,rfl⟩)
 go_ret2
 exact ⟨rfl,rfl⟩
def repN (x:Value) (n c:Nat):List Value:=List.replicate n x++List.replicate (c-n) (.slice none 0 0)
theorem repN_len {x:Value} {n c:Nat} (h:n≤c):(repN x n c).length=c:=by simp[repN];omega
theorem repN_splice {x:Value} {n m c:Nat}:splice (repN x n c) n (List.replicate m x)=repN x (n+m) c:=by
 unfold splice repN
 rw[List.take_left' (by simp),List.length_replicate,show n+m=(List.replicate n x).length+m by simp,List.drop_length_add_append,List.drop_replicate,List.length_replicate,←List.append_assoc,List.replicate_append_replicate,show c-n-m=c-(n+m) by omega]
theorem repN_get {x:Value} {n c j:Nat} (h:j<n):(repN x n c)[j]? =some x:=by
 unfold repN
 rw[List.getElem?_append_left (by simpa using h),List.getElem?_replicate,if_pos h]
theorem repN_zero (x:Value) (c:Nat):repN x 0 c=List.replicate c (.slice none 0 0):=by simp[repN]
theorem repN_full (x:Value) (c:Nat):repN x c c=List.replicate c x:=by simp[repN]
theorem made_one (z:Value) (n:Nat):madeCells #[z] n=(List.replicate n z).toArray:=by
 apply Array.ext
 ·simp[madeCells]
 ·intro i h1 h2
  simp[madeCells,Nat.mod_one]
theorem info_lits:(Tryz.prog.info? 101).map (fun i=>(i.zero,i.size,i.bytes))=some (some (.slice none 0 0),1,24):=by kernel_rfl
theorem make_lits (n:Int) (h0:0≤n) (h1:n≤1600) (W:World):(Instr.makeSlice 260 (.int .i64 n) (.int .i64 n)).run Tryz.prog W= .ok (.slice (some ⟨W.heap.size,0,none⟩) n.toNat n.toNat) (W.alloc (.cells (List.replicate n.toNat (.slice none 0 0)).toArray 101)):=by
 obtain ⟨i0,hi0,hz0,hz1,hz2⟩:=info_parts info_lits
 rw[run_make (P:=Tryz.prog) W 260 101 i0 (.slice none 0 0) rfl hi0 hz0 .i64 .i64 n n h0 (Int.le_refl _) (by rw[hz2];omega) (by omega),hz1,Nat.mul_one,←made_one]
 rfl
def RepIs (x:Value) (c:Nat) (w:World) (e:Ending) (w':World):Prop:=∃R,e= .returned (.slice (some ⟨R,0,none⟩) c c)∧w.heap.size≤R∧Row w' R (List.replicate c x).toArray 101∧Below w.heap.size w w'
theorem repL_pos (x:Value) (c b off cap:Nat) (hc:c≤1600) (hc1:1≤c) (w:World) (hv:x.oneCell'=true) (hb:b<w.heap.size) (hx:w.cell? ⟨b,off,none⟩=some x):
  Calls Tryz.prog 184 #[.slice (some ⟨b,off,none⟩) 1 cap,.int .i64 c] w (RepIs x c w):=by
 have mk:=make_lits c (by omega) (by omega)
 have e1:IntKind.u64.wrap (c:Int)=(c:Int):=by rw[IntKind.wrap_u64];omega
 have hsz1:(Tryz.prog.info? 101).map (·.size)=some 1:=by kernel_rfl
 have b1:=(Below.refl w.heap.size w).alloc (Nat.le_refl _) (.cells (Array.replicate c (.slice none 0 0)) 101)
 have r1:=Row.new w (Array.replicate c (.slice none 0 0)) 101
 have hx1:(w.alloc (.cells (Array.replicate c (.slice none 0 0)) 101)).cell? ⟨b,off,none⟩=some x:=(World.cell?_alloc_lt w _ _ hb).trans hx
 have R1:Hid ((w.alloc (.cells (Array.replicate c (.slice none 0 0)) 101)).heap[w.heap.size]? =some (.cells (repN x 0 c).toArray 101 (0,0))):=by show _=_;rw[repN_zero];simpa[Row] using r1
 clear r1
 go_enter Tryz.func184,Tryz.ntmps184
 go_wp2_with fail
 refine (mul_one c (by omega) _).mono ?_
 rintro e w' ⟨rfl,rfl⟩
 go_upto_region 7 with (fail)
 go_wp2_with (refine wpList_copy_splice rfl (.tmp 31) (.tmp 32) 260 260 rfl 101 Tryz.underlying260 hsz1 _ _ _ _ _ _ rfl rfl w.heap.size 0 (repN x 0 c) 101 R1.out [x] ?c1 ?c2 ?c3 ?c4 w.heap.size w b1 (Nat.le_refl _) ?_)
 case c1=>exact (Nat.min_eq_left hc1).symm
 case c2=>
  intro j v hv
  match j,hv with
  |0,hv=>simp at hv;subst hv;simpa using hx
 case c3=>rw[repN_len (Nat.zero_le _)];simpa using hc1
 case c4=>intro v hw;simp at hw;subst hw;exact hv
 intro w2 hR2 hb2
 have R2:Hid (Row w2 w.heap.size (repN x 1 c).toArray 101):=by
  have:=hR2.out
  rw[show [x]=List.replicate 1 x from rfl,repN_splice] at this
  exact this
 clear hR2 R1 b1 hx1 mk
 go_wp2_with fail
 go_loopw[8] (fun i wr=>∃n:Nat,1≤n∧n≤c∧i= .int .i64 n∧Hid (Row wr w.heap.size (repN x n c).toArray 101)∧Below w.heap.size w wr) (fun i _=>c-(intOf i).toNat)
 case atStart=>exact ⟨1,by omega,hc1,rfl,R2,hb2⟩
 case round=>
  clear R2 hb2
  obtain ⟨n,hn1,hnc,rfl,HR,hbr⟩:=hrel
  by_cases hlt:n<c
  ·have hi0:(0:Int)≤(n:Int):=by omega
   have hi1:(n:Int)≤(c:Int):=by omega
   have hne:¬(c=n):=by omega
   have hm:min n (c-n)≤c:=by omega
   have HM:Hid (∀v∈List.replicate (min n (c-n)) x,v.oneCell'=true):=fun v hw=>by rw[(List.mem_replicate.1 hw).2];exact hv
   have HC:Hid (∀j v,(List.replicate (min n (c-n)) x)[j]? =some v→wr.drew.cell? ((⟨w.heap.size,0,none⟩:Addr).add j)=some v):=by
    intro j v hv
    rw[List.getElem?_replicate] at hv
    split at hv
    ·rename_i hj
     injection hv with hv
     subst hv
     rw[Addr.add_lit,Nat.zero_add]
     refine (Row.cell HR.out.drew j).trans ?_
     rw[List.getElem?_toArray]
     exact repN_get (by omega)
    ·cases hv
   have HL:Hid ((repN x n c).length=c):=repN_len hnc
   go_wp2_with fail
   go_region_held3 (fun _=>True) (first|trivial) (first|((refine step_copy_splice (by rfl) (.tmp 41) (.tmp 44) 260 260 (by rfl) 101 Tryz.underlying260 hsz1 (some ⟨w.heap.size,n,none⟩) (some ⟨w.heap.size,0,none⟩) (c-n) (c-n) n c (by rfl) (by rfl) w.heap.size n (repN x n c) 101 HR.out.drew (List.replicate (min n (c-n)) x) (by simp) (fun _=>⟨rfl,_,rfl,HC.out⟩) (by rw[HL.out];simp;omega) HM.out w.heap.size w hbr.drew (Nat.le_refl _) ?_);intro w3 hR3 hb3))
   have R3:Hid (Row w3 w.heap.size (repN x (n+min n (c-n)) c).toArray 101):=by
    have:=hR3.out
    rw[repN_splice] at this
    exact this
   have hlen:(List.replicate (min n (c-n)) x).length=min n (c-n):=by simp
   have e2:IntKind.i64.wrap ((n:Int)+((min n (c-n):Nat):Int))=(n:Int)+((min n (c-n):Nat):Int):=IntWalk.i64_in _ (by omega)
   generalize hM:min n (c-n)=mm at*
   have hmm:1≤mm:=by omega
   have hmc:n+mm≤c:=by omega
   have HMM:=Lib.hid hM
   clear hM
   go_wp2_with fail
   go_roundw
   case rel=>exact ⟨n+mm,by omega,hmc,by go_num,R3,hb3⟩
   case measure=>simp[intOf];omega
  ·obtain rfl:n=c:=by omega
   go_wp2_with fail
   go_ret
   exact ⟨w.heap.size,rfl,Nat.le_refl _,by rw[←repN_full];exact HR.out,hbr⟩
theorem repL_zero (x:Value) (b off cap:Nat) (w:World):
  Calls Tryz.prog 184 #[.slice (some ⟨b,off,none⟩) 1 cap,.int .i64 0] w (RepIs x 0 w):=by
 have mk:=make_lits 0 (by omega) (by omega)
 have hsz1:(Tryz.prog.info? 101).map (·.size)=some 1:=by kernel_rfl
 have b1:=(Below.refl w.heap.size w).alloc (Nat.le_refl _) (.cells #[] 101)
 have R1:Hid ((w.alloc (.cells #[] 101)).heap[w.heap.size]? =some (.cells ([]:List Value).toArray 101 (0,0))):=Row.new w #[] 101
 go_enter Tryz.func184,Tryz.ntmps184
 go_wp2_with fail
 refine (mul_one 0 (by omega) _).mono ?_
 rintro e w' ⟨rfl,rfl⟩
 go_upto_region 7 with (fail)
 go_wp2_with (refine wpList_copy_splice rfl (.tmp 31) (.tmp 32) 260 260 rfl 101 Tryz.underlying260 hsz1 _ _ _ _ _ _ rfl rfl w.heap.size 0 [] 101 R1.out [] ?c1 (fun h=>absurd h (by simp)) ?c3 ?c4 w.heap.size w b1 (Nat.le_refl _) ?_)
 case c1=>rfl
 case c3=>simp
 case c4=>intro v hw;simp at hw
 intro w2 hR2 hb2
 clear R1 mk b1
 go_wp2_with fail
 go_loop[8] (fun i=>i= .int .i64 0) (fun _=>0)
 case atStart=>exact rfl
 case round=>
  obtain rfl:=hrel
  go_wp2_with fail
  go_ret
  exact ⟨w.heap.size,rfl,Nat.le_refl _,hR2.out,hb2⟩
theorem repL_any (x:Value) (c b off cap:Nat) (hc:c≤1600) (w:World) (hv:x.oneCell'=true) (hb:b<w.heap.size) (hx:w.cell? ⟨b,off,none⟩=some x):
  Calls Tryz.prog 184 #[.slice (some ⟨b,off,none⟩) 1 cap,.int .i64 c] w (RepIs x c w):=by
 rcases Nat.eq_zero_or_pos c with rfl|h
 ·exact repL_zero x b off cap w
 ·exact repL_pos x c b off cap hc h w hv hb hx
end Go.Proofs.YtdkgkacnjdnpoaaGreat
