/-
  Which node hangs on itself first: the contract of calls.Check. Which clocks are right: the contracts of clock.right and tompionref18.Right. What is wrong first with a node's clocks: the contracts of clock.node and clock.Check.
-/
import Derived.Test.YtdkgkacnjdnpoaaGreatZz
import Derived.Test.YtdkgkacnjdnpoaaGreatCalB
import Derived.Test.YtdkgkacnjdnpoaaGreatSrt
import Derived.Test.YtdkgkacnjdnpoaaGreatScH
import Derived.Deep.RegionWith
import Derived.Test.YtdkgkacnjdnpoaaGreatClkD
set_option maxHeartbeats 1000000
set_option maxRecDepth 100000
namespace Go.Proofs.YtdkgkacnjdnpoaaGreat
open Go.RowKit
attribute [local go_sem ↓] Go.wp_at_zero Go.wp_at_succ
theorem step_look {w:World} {ops:Array Oper} {o:Oper} {a:Act} {K:Act→World→Prop} {Q:Exit→Act→World→Prop} {E:Prop} (hgd:o.guard=none) (m x:Operand) (hop:o.op=Op.lookup 85 m x false)
  (b:Nat) (hm:a.eval m= .map (some b)) (nm:ByteArray) (hx:a.eval x= .string nm) (u:Value) (hrun:(Instr.lookup 85 (.map (some b)) (.string nm) false).run Tryz.prog w= .ok u w) (hK:K (a.put o.dst u) w):
  if Region.wanted o (yielded ops a.tmps)=true then Oper.wp Tryz.prog o a w K Q else E:=by
 refine' zq121
 unfold Oper.wp
 simp[execOp,hop,hm,hx,hrun,Result.andThen]
 exact hK
theorem MetS.val {w:World} {b:Nat} {l:List ByteArray} (h:MetS w b l) {nm:ByteArray} (hs:nm.size≤maxLen) {P:Bool} (hP:P=true↔nm∈l):(Instr.lookup 85 (.map (some b)) (.string nm) false).run Tryz.prog w= .ok (.int .i64 (bif P then 1 else 0)) w:=by
 cases P
 ·exact (h.look hs).2 (fun g=>by have:=hP.2 g;cases this)
 ·exact (h.look hs).1 (hP.1 rfl)
theorem calF_yes {s:List Nd} {k:Nat} {n:Nd} (h:Hg (usesAt s) n.name n.name):calF s k n=⟨29,n.line,n.col⟩:=if_pos h
theorem calF_no {s:List Nd} {k:Nat} {n:Nd} (h:¬Hg (usesAt s) n.name n.name):calF s k n=ft0:=if_neg h
theorem check_calls (s:List Nd) (A:Option Addr) (cap:Nat) (w:World) (sm:SrcSm s) (h1:s.length≤cap) (h2:cap≤maxLen) (h:Nds w w.heap.size A s):
  Calls Tryz.prog 56 #[srcV s A cap] w fun r w'=>r= .returned (ftV (callsF s))∧Below w.heap.size w w':=by
 refine' zq26
 go_enter Tryz.func56,Tryz.ntmps56
 refine' zq93
 have HF0:Hid (callsF s=ft2 f (fstL (calF s) s)):=by show _=_;rw[←HFN.out];rfl
 rw[HFN.out]
 by_cases hf:f.err=0
 rotate_left 1
 ·have hf1:(f.err !=0)=true:=neq_yes hf
  have HF:Hid (callsF s=f):=by show _=_;rw[HF0.out,ft2_1 hf]
  clear hf
  refine' zq147
  refine' zq9
 have hf1:(f.err !=0)=false:=neq_no hf
 have HF1:Hid (callsF s=fstL (calF s) s):=by show _=_;rw[HF0.out,ft2_0 hf]
 refine' zq134
 go_upto_region 5 with (go_at_call 101;refine Calls.mono (all_calls s A cap w4 H0.out HSM.out h1 h2 (nds_keep (HS.out w4 hB4) (fun _ _ _ h=>h) hs4)) ?_;rintro r w5 ⟨⟨bu,rfl,hU5,hbu⟩,hb5⟩)
 have rs5:=rs4.below hb5 rs4.lt
 have rf5:=rf4.below hb5 rf4.lt
 have hB5:=hB4.trans (hb5.mono hs4)
 have hs5:=hB5.size
 clear c0 rs4 rf4 hB4 hb5
 have c0:=rs5.src
 go_wp2_with fail
 go_loopw[18] (fun i wr=>∃k:Nat,k≤s.length∧i= .int .i64 k∧Hid (∀j,j<k→∀x,s[j]? =some x→(calF s j x).err=0)∧Below w5.heap.size w5 wr) (fun i _=>s.length-(intOf i).toNat)
 case atStart=>exact ⟨0,Nat.zero_le _,rfl,fun j h=>absurd h (by omega),Below.refl _ _⟩
 case round=>
  obtain ⟨k,hk,rfl,HN,hbr⟩:=hrel
  have rf:=rf5.below hbr rf5.lt
  have hB:=hB5.trans (hbr.mono hs5)
  have hsB:=hB.size
  have hszr:=hbr.size
  by_cases hlt:k<s.length
  rotate_left 1
  ·obtain rfl:k=s.length:=by omega
   have HF:Hid (callsF s=ft0):=HF1.out.trans (fstL_end HN.out)
   refine' zq129
   refine' zq17
  refine' zq73
  subst hA
  have HX:=Lib.hid hn
  have hnm:=hat.name
  refine' zq153
  have rn1:=Row.new wr (ndArr n a) 58
  refine' zq106
  obtain ⟨P,HPB⟩:∃P:Bool,Hid (cB (Hg (usesAt s) n.name n.name)=P):=⟨_,rfl⟩
  clear hn hat
  go_upto_region 8 with (fail)
  refine' zq76
  have HU:Hid (∀W,Below w6.heap.size w6 W→UsesM W bu s s.length):=fun W hW=>hU5.below (hbr.trans ((ba.trans (hW.mono hsa)).mono hszr))
  have HK:Hid (∀W,Below w6.heap.size w6 W→(W.cell? ⟨wr.heap.size,0,none⟩=some (.string n.name)∧W.cell? ⟨wr.heap.size,1,none⟩=some (.slice a.ai n.ins.length a.ci)∧W.cell? ⟨wr.heap.size,2,none⟩=some (.slice a.ao n.outs.length a.co)∧W.cell? ⟨wr.heap.size,3,none⟩=some (.slice a.av n.vars.length a.cv)∧W.cell? ⟨wr.heap.size,4,none⟩=some (.slice a.aq n.eqs.length a.cq)∧W.cell? ⟨wr.heap.size,5,none⟩=some (.int .i64 n.line)∧W.cell? ⟨wr.heap.size,6,none⟩=some (.int .i64 n.col))):=fun W hW=>(rn1.below hW rn1.lt).nd
  go_cut[29] (fun v29 W=>v29= .bool P∧Below w6.heap.size w6 W)
  case first=>
   refine wp_region_held_drew (S:=fun W=>(W.cell? ⟨wr.heap.size,0,none⟩=some (.string n.name)∧W.cell? ⟨wr.heap.size,1,none⟩=some (.slice a.ai n.ins.length a.ci)∧W.cell? ⟨wr.heap.size,2,none⟩=some (.slice a.ao n.outs.length a.co)∧W.cell? ⟨wr.heap.size,3,none⟩=some (.slice a.av n.vars.length a.cv)∧W.cell? ⟨wr.heap.size,4,none⟩=some (.slice a.aq n.eqs.length a.cq)∧W.cell? ⟨wr.heap.size,5,none⟩=some (.int .i64 n.line)∧W.cell? ⟨wr.heap.size,6,none⟩=some (.int .i64 n.col))) (by kernel_rfl) ?_ (fun hHeld=>?_)
   ·(try dsimp only);(first|(with_reducible exact HK.out _ bE)|exact hHeld|assumption|trivial)
   refine tk 0 (some 22) rfl ?_
   refine tk 1 (some 23) rfl ?_
   refine tk 2 (some 24) rfl ?_
   refine tk 4 (some 26) rfl ?_
   refine tk 5 (some 27) rfl ?_
   refine rd1 3 (some 25) rfl (fun KK hKK=>?_)
   go_simp
   (go_at_call 102;refine Calls.mono (reach_any s bu n.name _ H0.out HSM.out (HU.out _ bE) hnm) ?_;rintro e w7 ⟨⟨b7,L7,rfl,hM7,HL7⟩,hb7⟩;(have hb8:Below w6.heap.size w6 w7:=Below.trans bE (hb7.mono lE));have hlv:=MetS.val hM7 hnm (P:=P) (by rw[HL7.out,←HPB.out];exact cB_iff))
   (try go_wp2_with fail)
   refine hKK.out _ _ ?_ (fun hHeld=>?_)
   ·(try dsimp only);(first|(with_reducible exact HK.out _ bE)|exact hHeld|assumption|trivial)
   clear hKK KK
   refine' zq1
   refine rd1 6 (some 28) rfl (fun KK hKK=>?_)
   (refine step_look rfl _ _ rfl b7 rfl n.name rfl (.int .i64 (bif P then 1 else 0)) hlv ?_)
   refine hKK.out _ _ ?_ (fun hHeld=>?_)
   ·(try dsimp only);(first|(with_reducible exact HK.out _ bE)|exact hHeld|assumption|trivial)
   clear hKK KK
   refine' zq1
   refine tk 7 (some 29) rfl ?_
   refine' zq67
   go_meet
   exact ⟨by cases P<;>rfl,bE⟩
  case rest=>
   obtain ⟨rfl,hbc⟩:=hcut
   have rf7:=rf6.below hbc rf6.lt
   have hB7:=hB6.trans (hbc.mono hs6)
   have rn7:=rn1.below hbc rn1.lt
   obtain ⟨e0,e1,e2,e3,e4,e5,e6⟩:=rn7.nd
   cases P
   ·have hq:=cB_not.1 HPB.out
    have HN':=Lib.hid (step_uptoI (P:=fun j x=>(calF s j x).err=0) HN.out HX.out (by rw[calF_no hq]))
    clear hq
    go_wp2_with fail
    go_roundw
    case rel=>exact ⟨k+1,by omega,by go_num,HN',hbr.trans ((ba.trans (hbc.mono hsa)).mono hszr)⟩
    case measure=>first|(simp[intOf];omega)|simp[intOf]
   ·have hq:=cB_iff.1 HPB.out
    have HF:Hid (callsF s=⟨29,n.line,n.col⟩):=by
     have e:calF s k n=⟨29,n.line,n.col⟩:=calF_yes hq
     show _=_
     rw[HF1.out,fstL_stop (f:=calF s) HN.out HX.out (by rw[e];show (29:Int)≠0;decide),e]
    clear hq
    refine' zq99
theorem right_no {n:Nd} {clock:List Lt} {k:Nat} {l:Lt} (hk:clock[k]? =some l) (h:clockOf n l.name≠clock.take k):¬RightClk n clock:=fun g=>h (g k l hk)
theorem lits_take {w:World} {B:Nat} {A:Option Addr} {l:List Lt} (h:Sl w B 2 isLit A l) (k:Nat):Sl w B 2 isLit A (l.take k):=h.take k
theorem cright_any (n:Nd) (a:NdA) (clock:List Lt) (A:Option Addr) (cap:Nat) (w:World) (sm:NdSm n) (hn:NdAt w w.heap.size n a) (h1:clock.length≤cap) (h2:cap≤maxLen) (h:Sl w w.heap.size 2 isLit A clock):
  Calls Tryz.prog 146 #[ndV n a,.slice A clock.length cap] w fun r w'=>r= .returned (.bool (cB (RightClk n clock)))∧Below w.heap.size w w':=by
 have rn1:=Row.new w (ndArr n a) 58
 have b1:Below w.heap.size w (w.alloc (.cells (ndArr n a) 58)):=(by repeat (first|(with_reducible assumption)|(with_reducible exact Below.refl _ _)|(with_reducible refine Below.drew ?_)|(with_reducible refine below_drewN' ?_ _)|(with_reducible refine Below.alloc ?_ (by first|assumption|omega|(simp;omega)|simp|(simp[World.setCell];omega)|simp[World.setCell]) _)|(with_reducible refine Below.setCell ?_ (by first|assumption|omega|(simp;omega)|simp|(simp[World.setCell];omega)|simp[World.setCell]) _)))
 have HS:Hid (∀W,Below w.heap.size w W→Sl W w.heap.size 2 isLit A clock):=fun W hW=>lits_keep h (keeps_of hW) (Nat.le_refl _)
 refine' zq154
 refine' zq50
 clear hn h sm
 go_enter Tryz.func146,Tryz.ntmps146
 refine' zq149
 go_wp2_with fail
 go_loopw[11] (fun i wr=>∃k:Nat,k≤clock.length∧i= .int .i64 k∧Hid (∀j,j<k→∀x,clock[j]? =some x→clockOf n x.name=clock.take j)∧Below W1.heap.size W1 wr) (fun i _=>clock.length-(intOf i).toNat)
 case atStart=>exact ⟨0,Nat.zero_le _,rfl,fun j h=>absurd h (by omega),Below.refl _ _⟩
 case round=>
  refine' zq62
  have rn:=rn1.below hbr rn1.lt
  have hB:=b1.trans (hbr.mono hs1)
  have hsB:=hB.size
  by_cases hlt:k<clock.length
  ·obtain ⟨b,off,y,hA,hb,hy,ys,d0,d1⟩:=(HS.out wr hB).lit hlt
   subst hA
   have HY:=Lib.hid hy
   have rl:=Row.new wr #[.string y.name,.bool y.no] 105
   have ba:Below wr.heap.size wr (wr.alloc (.cells #[.string y.name,.bool y.no] 105)):=(by repeat (first|(with_reducible assumption)|(with_reducible exact Below.refl _ _)|(with_reducible refine Below.drew ?_)|(with_reducible refine below_drewN' ?_ _)|(with_reducible refine Below.alloc ?_ (by first|assumption|omega|(simp;omega)|simp|(simp[World.setCell];omega)|simp[World.setCell]) _)|(with_reducible refine Below.setCell ?_ (by first|assumption|omega|(simp;omega)|simp|(simp[World.setCell];omega)|simp[World.setCell]) _)))
   clear hy
   go_upto_region 4 with (fail)
   clear d0 d1
   generalize hW2:wr.alloc (.cells #[.string y.name,.bool y.no] 105)=w2 at*
   clear hW2
   have hsa:=ba.size
   have rn2:=rn.below ba rn.lt
   have hB2:=hB.trans (ba.mono hsB)
   have d0:=(rl.cell 0).trans rfl
   obtain ⟨c0,c1,cc2,c3,c4,c5,c6⟩:=rn2.nd
   go_wp2_with fail
   refine (HO.out y.name w2 hB2).mono ?_
   rintro r w3 ⟨⟨A3,cap3,rfl,l3,m3,s3⟩,hb3⟩
   have hB3:=hB2.trans (hb3.mono hB2.size)
   have hs3:=hb3.size
   have hsB3:=hB3.size
   have i0:(0:Int)≤(k:Int):=by omega
   have i1:(k:Int)≤(cap:Int):=by omega
   have htk:(clock.take k).length=k:=by rw[List.length_take];omega
   have HE:=Lib.hid (eqLits_any (clockOf n y.name) (clock.take k) A3 (some ⟨b,off,none⟩) cap3 cap w3.heap.size w3 l3 m3 s3 (by omega) h2 (lits_keep (lits_take (HS.out w3 hB3) k) (fun _ _ _ h=>h) hsB3))
   rw[htk] at HE
   clear s3 htk
   go_wp2_with fail
   refine HE.out.mono ?_
   rintro r w4 ⟨rfl,nn,rfl⟩
   by_cases hq:clockOf n y.name=clock.take k
   ·rw[cB_true hq]
    have HN':=Lib.hid (step_uptoI (P:=fun j x=>clockOf n x.name=clock.take j) HN.out HY.out hq)
    clear hq
    have b4:=below_drewN' ((hbr.trans (ba.mono hszr)).trans (hb3.mono (by omega))) nn
    go_wp2_with fail
    go_roundw
    case rel=>exact ⟨k+1,by omega,by go_num,HN',b4⟩
    case measure=>first|(simp[intOf];omega)|simp[intOf]
   ·rw[cB_false hq]
    have HF:Hid (cB (RightClk n clock)=false):=cB_false (right_no HY.out hq)
    have b4:=below_drewN' hB3 nn
    clear hq
    go_wp2_with fail
    go_ret
    exact ⟨ret_bool HF.out.symm,b4⟩
  ·obtain rfl:k=clock.length:=by omega
   have HF:Hid (cB (RightClk n clock)=true):=cB_true (fun i l hi=>HN.out i (List.getElem?_eq_some_iff.1 hi).1 l hi)
   refine' zq86
theorem cnode_any (n:Nd) (a:NdA) (w:World) (sm:NdSm n) (kn:NdKn n) (hn:NdAt w w.heap.size n a):
  Calls Tryz.prog 103 #[ndV n a] w fun r w'=>r= .returned (ftV (clkNF 0 n))∧Below w.heap.size w w':=by
 have rn1:=(Row.new w (ndArr n a) 58).alloc (.cells ftC0 38)
 have rf1:=rowNew2 w (.cells (ndArr n a) 58) ftC0 38
 have b1:Below w.heap.size w ((w.alloc (.cells (ndArr n a) 58)).alloc (.cells ftC0 38)):=(by repeat (first|(with_reducible assumption)|(with_reducible exact Below.refl _ _)|(with_reducible refine Below.drew ?_)|(with_reducible refine below_drewN' ?_ _)|(with_reducible refine Below.alloc ?_ (by first|assumption|omega|(simp;omega)|simp|(simp[World.setCell];omega)|simp[World.setCell]) _)|(with_reducible refine Below.setCell ?_ (by first|assumption|omega|(simp;omega)|simp|(simp[World.setCell];omega)|simp[World.setCell]) _)))
 have HN:Hid (∀W,Below w.heap.size w W→NdAt W w.heap.size n a):=fun W hW=>hn.below hW
 have HSM:=Lib.hid sm
 have HKN:=Lib.hid kn
 refine' zq154
 have gv:=hn.mv
 have gq:=hn.mq
 have lv:=hn.lv
 have lq:=hn.lq
 refine' zq116
 have HF0:Hid (clkNF 0 n=ft2 (fstL (clkVF n) n.vars) (fstL (clkQF n) n.eqs)):=rfl
 clear hn sm kn
 go_enter Tryz.func103,Tryz.ntmps103
 go_upto_region 1 with (fail)
 generalize (w.alloc (.cells (ndArr n a) 58)).alloc (.cells ftC0 38)=W1 at*
 have hs1:=b1.size
 obtain ⟨c0,c1,cc2,c3,c4,c5,c6⟩:=rn1.nd
 refine' zq137
 go_loopw[17] (fun i wr=>∃k:Nat,k≤n.vars.length∧i= .int .i64 k∧Hid (∀j,j<k→∀x,n.vars[j]? =some x→(clkVF n j x).err=0)∧Below W1.heap.size W1 wr) (fun i _=>n.vars.length-(intOf i).toNat)
 case atStart=>exact ⟨0,Nat.zero_le _,rfl,fun j h=>absurd h (by omega),Below.refl _ _⟩
 case round=>
  obtain ⟨k,hk,rfl,HJ,hbr⟩:=hrel
  have hszr:=hbr.size
  have rn:=rn1.below hbr rn1.lt
  have rf:=rf1.below hbr rf1.lt
  have hB:=b1.trans (hbr.mono hs1)
  have hsB:=hB.size
  by_cases hlt:k<n.vars.length
  ·obtain ⟨b,off,x,A',cap',hA,hb,hx,ok,g1,g2,hxs,d0,d1,d2,d3,d4⟩:=(HN.out wr hB).sv.vr hlt
   rw[hA]
   have HA:=Lib.hid hA
   have HXK:=Lib.hid hx
   have rx:=Row.new wr (vrArr x A' cap') 103
   have ba:Below wr.heap.size wr (wr.alloc (.cells (vrArr x A' cap') 103)):=(by repeat (first|(with_reducible assumption)|(with_reducible exact Below.refl _ _)|(with_reducible refine Below.drew ?_)|(with_reducible refine below_drewN' ?_ _)|(with_reducible refine Below.alloc ?_ (by first|assumption|omega|(simp;omega)|simp|(simp[World.setCell];omega)|simp[World.setCell]) _)|(with_reducible refine Below.setCell ?_ (by first|assumption|omega|(simp;omega)|simp|(simp[World.setCell];omega)|simp[World.setCell]) _)))
   have hBa:=hB.trans (ba.mono hsB)
   have HR:=Lib.hid (cright_any n a x.clock A' cap' (wr.alloc (.cells (vrArr x A' cap') 103)) HSM.out ((HN.out _ hBa).more hBa.size) g1 g2 (lits_keep hxs (keeps_of (ba.mono hsB)) hBa.size))
   clear hA hx hxs ok
   go_upto_region 4 with (fail)
   clear d0 d1 d2 d3 d4
   generalize hW2:wr.alloc (.cells (vrArr x A' cap') 103)=w2 at*
   clear hW2
   have rn2:=rn.below ba rn.lt
   have rf2:=rf.below ba rf.lt
   have hs2:=ba.size
   have hsBa:=hBa.size
   obtain ⟨d0,d1,d2,d3,d4⟩:=rx.vr
   obtain ⟨c0,c1,cc2,c3,c4,c5,c6⟩:=rn2.nd
   go_wp2_with fail
   refine HR.out.mono ?_
   rintro r w3 ⟨rfl,hb3⟩
   have rf3:=rf2.below hb3 rf2.lt
   have rx3:=rx.below hb3 rx.lt
   have hB3:=hBa.trans (hb3.mono hsBa)
   clear c0 c1 cc2 c3 c4 c5 c6 d0 d1 d2 d3 d4
   obtain ⟨d0,d1,d2,d3,d4⟩:=rx3.vr
   by_cases hP:RightClk n x.clock
   ·have HJ':=Lib.hid (step_uptoI (P:=fun j x=>(clkVF n j x).err=0) HJ.out HXK.out (by rw[clkVF_yes hP]))
    rw[cB_true hP]
    clear hP
    go_wp2_with fail
    go_roundw
    case rel=>exact ⟨k+1,by omega,by go_num,HJ',(hbr.trans (ba.mono hszr)).trans (hb3.mono (by omega))⟩
    case measure=>first|(simp[intOf];omega)|simp[intOf]
   ·have HF:Hid (clkNF 0 n=⟨30,x.line,x.col⟩):=by
     have e:clkVF n k x=⟨30,x.line,x.col⟩:=clkVF_no hP
     have h:=fstL_stop (f:=clkVF n) HJ.out HXK.out (by rw[e];show (30:Int)≠0;decide)
     show _=_
     rw[HF0.out,h,e];rfl
    rw[cB_false hP]
    clear hP
    obtain ⟨⟨k0,k1,k2⟩,g0,g1,g2⟩:=rf3.three
    go_wp2_with fail
    exact bodyPost_ret (res1 rfl Tryz.underlying38 rfl (by kernel_rfl) rfl (rf3.set3 _ _ _)) rfl ⟨(congrArg (fun f=>Ending.returned (ftV f)) HF.out).symm,below_set3 hB3 (by first|omega|(simp;omega)|simp) _ _ _⟩
  ·obtain rfl:k=n.vars.length:=by omega
   have HF1:Hid (clkNF 0 n=fstL (clkQF n) n.eqs):=by
    show _=_
    rw[HF0.out,fstL_end HJ.out,ft2_0 (a:=ft0) rfl]
   clear HJ HF0
   obtain ⟨w3,rfl⟩:∃w3:World,w3=wr:=⟨_,rfl⟩
   obtain ⟨c0,c1,cc2,c3,c4,c5,c6⟩:=rn.nd
   refine' zq137
   go_loopw[33] (fun i wr=>∃k:Nat,k≤n.eqs.length∧i= .int .i64 k∧Hid (∀j,j<k→∀x,n.eqs[j]? =some x→(clkQF n j x).err=0)∧Below w3.heap.size w3 wr) (fun i _=>n.eqs.length-(intOf i).toNat)
   case atStart=>exact ⟨0,Nat.zero_le _,rfl,fun j h=>absurd h (by omega),Below.refl _ _⟩
   case round=>
    obtain ⟨k,hk,rfl,HJ,hbr2⟩:=hrel
    have hszr2:=hbr2.size
    have rn4:=rn.below hbr2 rn.lt
    have rf4:=rf.below hbr2 rf.lt
    have hB4:=hB.trans (hbr2.mono hsB)
    have hsB4:=hB4.size
    by_cases hlt:k<n.eqs.length
    ·obtain ⟨b,off,q,A1,k1,A2,k2,hA,hb,hq,ok,lq1,mq1,sl1,lq2,mq2,sl2,d0,d1,d2,d3,d4,d5,d6,d7,d8⟩:=(HN.out wr hB4).sq.eqn hlt
     rw[hA]
     have HA:=Lib.hid hA
     have HXK:=Lib.hid hq
     have hqm:=List.mem_of_getElem? hq
     have HQM:=Lib.hid hqm
     have HSQ:=Lib.hid (HSM.out.eq q hqm)
     have HOK:=Lib.hid ok.right
     have HRT:=Lib.hid (HKN.out.rt.1 q hqm)
     have hl1:=HRT.out.2.1
     have HS1:Hid (∀W,Below wr.heap.size wr W→Sl W w.heap.size 1 isStr A1 q.left):=fun W hW=>strs_keep sl1 (keeps_of (hW.mono hsB4)) (Nat.le_refl _)
     have HS2:Hid (∀W,Below wr.heap.size wr W→IsExs W w.heap.size A2 q.right.args):=fun W hW=>exs_keep sl2 (keeps_of (hW.mono hsB4)) (Nat.le_refl _)
     have mq1':k1≤9223372036854775807:=by unfold maxLen at mq1;omega
     have HFn:Hid ((clkQF n k q).err≠0→clkNF 0 n=clkQF n k q):=fun g=>by
      rw[HF1.out,fstL_stop (f:=clkQF n) HJ.out HXK.out g]
     refine' zq157
     have ba:Below wr.heap.size wr (wr.alloc (.cells (eqArr q A1 k1 A2 k2) 65)):=(by repeat (first|(with_reducible assumption)|(with_reducible exact Below.refl _ _)|(with_reducible refine Below.drew ?_)|(with_reducible refine below_drewN' ?_ _)|(with_reducible refine Below.alloc ?_ (by first|assumption|omega|(simp;omega)|simp|(simp[World.setCell];omega)|simp[World.setCell]) _)|(with_reducible refine Below.setCell ?_ (by first|assumption|omega|(simp;omega)|simp|(simp[World.setCell];omega)|simp[World.setCell]) _)))
     obtain ⟨bs,offs,nm0,hAs,hbs,hy0,ys0,f0⟩:=(HS1.out wr (Below.refl _ _)).str (k:=0) (by omega)
     subst hAs
     have HCK:=Lib.hid (eqClk_head (n:=n) hy0)
     clear hA hq ok sl1 sl2 hqm hy0
     go_upto_region 10 with (fail)
     clear d0 d1 d2 d3 d4 d5 d6 d7 d8
     generalize hW6:wr.alloc (.cells (eqArr q (some ⟨bs,offs,none⟩) k1 A2 k2) 65)=w6 at*
     clear hW6
     have hsa:=ba.size
     have rn6:=rn4.below ba rn4.lt
     have rf6:=rf4.below ba rf4.lt
     have hB6:=hB4.trans (ba.mono hsB4)
     have hs6:=hB6.size
     have f6:=old_cell ba f0
     obtain ⟨d0,d1,d2,d3,d4,d5,d6,d7,d8⟩:=re.eqn
     obtain ⟨c0,c1,cc2,c3,c4,c5,c6⟩:=rn6.nd
     have HON:=Lib.hid (HO.out nm0)
     have i0:(0:Int)<(q.left.length:Int):=by omega
     have i4:0<q.left.length:=by omega
     have HK:Hid (∀W,Below w6.heap.size w6 W→(W.cell? ⟨w.heap.size,0,none⟩=some (.string n.name)∧W.cell? ⟨w.heap.size,1,none⟩=some (.slice a.ai n.ins.length a.ci)∧W.cell? ⟨w.heap.size,2,none⟩=some (.slice a.ao n.outs.length a.co)∧W.cell? ⟨w.heap.size,3,none⟩=some (.slice a.av n.vars.length a.cv)∧W.cell? ⟨w.heap.size,4,none⟩=some (.slice a.aq n.eqs.length a.cq)∧W.cell? ⟨w.heap.size,5,none⟩=some (.int .i64 n.line)∧W.cell? ⟨w.heap.size,6,none⟩=some (.int .i64 n.col))∧W.cell? ⟨wr.heap.size,0,none⟩=some (.slice (some ⟨bs,offs,none⟩) q.left.length k1)∧W.cell? ⟨bs,offs,none⟩=some (.string nm0)):=fun W hW=>⟨(rn6.below hW rn6.lt).nd,old_cell hW d0,old_cell hW f6⟩
     go_cut[7] (fun v7 W=>∃A0 x0,v7= .slice A0 (eqClk n q).length x0∧(eqClk n q).length≤x0∧x0≤maxLen∧Hid (Sl W W.heap.size 2 isLit A0 (eqClk n q))∧Below w6.heap.size w6 W)
     case first=>
      go_region_held3 (fun W=>(W.cell? ⟨w.heap.size,0,none⟩=some (.string n.name)∧W.cell? ⟨w.heap.size,1,none⟩=some (.slice a.ai n.ins.length a.ci)∧W.cell? ⟨w.heap.size,2,none⟩=some (.slice a.ao n.outs.length a.co)∧W.cell? ⟨w.heap.size,3,none⟩=some (.slice a.av n.vars.length a.cv)∧W.cell? ⟨w.heap.size,4,none⟩=some (.slice a.aq n.eqs.length a.cq)∧W.cell? ⟨w.heap.size,5,none⟩=some (.int .i64 n.line)∧W.cell? ⟨w.heap.size,6,none⟩=some (.int .i64 n.col))∧W.cell? ⟨wr.heap.size,0,none⟩=some (.slice (some ⟨bs,offs,none⟩) q.left.length k1)∧W.cell? ⟨bs,offs,none⟩=some (.string nm0)) (first|(with_reducible exact HK.out _ (by repeat (first|(with_reducible assumption)|(with_reducible exact Below.refl _ _)|(with_reducible refine Below.drew ?_)|(with_reducible refine below_drewN' ?_ _)|(with_reducible refine Below.alloc ?_ (by first|assumption|omega|(simp;omega)|simp|(simp[World.setCell];omega)|simp[World.setCell]) _)|(with_reducible refine Below.setCell ?_ (by first|assumption|omega|(simp;omega)|simp|(simp[World.setCell];omega)|simp[World.setCell]) _))))|go_keep)
       (first|((go_at_call 147);(refine (HON.out _ (hB6.trans (Below.mono (B:=w6.heap.size) (by repeat (first|(with_reducible assumption)|(with_reducible exact Below.refl _ _)|(with_reducible refine Below.drew ?_)|(with_reducible refine below_drewN' ?_ _)|(with_reducible refine Below.alloc ?_ (by first|assumption|omega|(simp;omega)|simp|(simp[World.setCell];omega)|simp[World.setCell]) _)|(with_reducible refine Below.setCell ?_ (by first|assumption|omega|(simp;omega)|simp|(simp[World.setCell];omega)|simp[World.setCell]) _))) hs6))).mono ?_);rintro e w3 ⟨⟨A3,cap3,rfl,l3,m3,s3⟩,hb3⟩;(rw[←HCK.out] at l3 s3⊢);(have hb4:Below w6.heap.size w6 w3:=Below.trans (by repeat (first|(with_reducible assumption)|(with_reducible exact Below.refl _ _)|(with_reducible refine Below.drew ?_)|(with_reducible refine below_drewN' ?_ _)|(with_reducible refine Below.alloc ?_ (by first|assumption|omega|(simp;omega)|simp|(simp[World.setCell];omega)|simp[World.setCell]) _)|(with_reducible refine Below.setCell ?_ (by first|assumption|omega|(simp;omega)|simp|(simp[World.setCell];omega)|simp[World.setCell]) _))) (hb3.mono (by first|exact Nat.le_refl _|simp|(simp;omega)|omega)));(have hs4:=hb4.size)))
      all_goals
       go_wp2_with fail
       go_meet
       exact ⟨A3,cap3,rfl,l3,m3,(by exact s3),(by repeat (first|(with_reducible assumption)|(with_reducible exact Below.refl _ _)|(with_reducible refine Below.drew ?_)|(with_reducible refine below_drewN' ?_ _)|(with_reducible refine Below.alloc ?_ (by first|assumption|omega|(simp;omega)|simp|(simp[World.setCell];omega)|simp[World.setCell]) _)|(with_reducible refine Below.setCell ?_ (by first|assumption|omega|(simp;omega)|simp|(simp[World.setCell];omega)|simp[World.setCell]) _)))⟩
     case rest=>
      obtain ⟨A0,x0,rfl,l3,m3,HS3,hbc⟩:=hcut
      have rn7:=rn6.below hbc rn6.lt
      have rf7:=rf6.below hbc rf6.lt
      have re7:=re.below hbc re.lt
      have hB7:=hB6.trans (hbc.mono hs6)
      have hs7:=hB7.size
      have b67:=ba.trans (hbc.mono hsa)
      clear c0 c1 cc2 c3 c4 c5 c6 d0 d1 d2 d3 d4 d5 d6 d7 d8 HK f6 f0
      obtain ⟨w7,rfl⟩:∃w7:World,w7=wc:=⟨_,rfl⟩
      obtain ⟨d0,d1,d2,d3,d4,d5,d6,d7,d8⟩:=re7.eqn
      refine' zq97
      go_wp2_with fail
      clear d0 d1 d2 d3 d4 d5 d6 d7 d8
      go_loopw[49] (fun i wr=>∃p:Nat,p≤q.left.length∧i= .int .i64 p∧Hid (∀j,j<p→∀x,q.left[j]? =some x→clockOf n x=eqClk n q)∧Below w7.heap.size w7 wr) (fun i _=>q.left.length-(intOf i).toNat)
      case atStart=>exact ⟨0,Nat.zero_le _,rfl,fun j h=>absurd h (by omega),Below.refl _ _⟩
      case round=>
       obtain ⟨p,hp,rfl,HP,hbq⟩:=hrel
       have hszq:=hbq.size
       have rn8:=rn7.below hbq rn7.lt
       have rf8:=rf7.below hbq rf7.lt
       have re8:=re7.below hbq re7.lt
       have hB8:=hB7.trans (hbq.mono hs7)
       have hsB8:=hB8.size
       have b68:=b67.trans (hbq.mono b67.size)
       obtain ⟨c0,c1,cc2,c3,c4,c5,c6⟩:=rn8.nd
       obtain ⟨d0,d1,d2,d3,d4,d5,d6,d7,d8⟩:=re8.eqn
       by_cases hlp:p<q.left.length
       ·obtain ⟨b',off',nm,hA',hb',hy,ys,f0⟩:=(HS1.out wr b68).str hlp
        injection hA' with hA'
        injection hA' with hA1 hA2
        subst hA1;subst hA2
        have HY:=Lib.hid hy
        have HR:=Lib.hid (HO.out nm wr hB8)
        clear hy
        go_wp2_with fail
        refine HR.out.mono ?_
        rintro r w9 ⟨⟨A4,cap4,rfl,l4,m4,s4⟩,hb9⟩
        have hB9:=hB8.trans (hb9.mono hsB8)
        have hs9:=hb9.size
        have b79:=hbq.trans (hb9.mono hszq)
        have HE:=Lib.hid (eqLits_any (eqClk n q) (clockOf n nm) A0 A4 x0 cap4 w9.heap.size w9 l3 m3 (lits_keep HS3.out (keeps_of b79) b79.size) l4 m4 s4)
        have re9:=re8.below hb9 re8.lt
        have rf9:=rf8.below hb9 rf8.lt
        clear s4 c0 c1 cc2 c3 c4 c5 c6 d0 d1 d2 d3 d4 d5 d6 d7 d8 f0
        go_wp2_with fail
        refine HE.out.mono ?_
        rintro r w10 ⟨rfl,nn,rfl⟩
        by_cases hP:clockOf n nm=eqClk n q
        ·have HP':=Lib.hid (step_uptoI (P:=fun _ x=>clockOf n x=eqClk n q) HP.out HY.out hP)
         rw[cB_true hP.symm]
         clear hP
         have b10:=below_drewN' b79 nn
         go_wp2_with fail
         go_roundw
         case rel=>exact ⟨p+1,by omega,by go_num,HP',b10⟩
         case measure=>first|(simp[intOf];omega)|simp[intOf]
        ·have HF:Hid (clkNF 0 n=⟨30,q.line,q.col⟩):=by
          have e:=clkQF_bad (i:=k) (List.mem_of_getElem? HY.out) hP
          exact (HFn.out (by rw[e];show (30:Int)≠0;decide)).trans e
         rw[cB_false (fun g=>hP g.symm)]
         clear hP
         have re10:=re9.drewN nn
         have rf10:=rf9.drewN nn
         have hB10:=below_drewN' hB9 nn
         generalize w9.drewN nn=w10 at*
         obtain ⟨d0,d1,d2,d3,d4,d5,d6,d7,d8⟩:=re10.eqn
         obtain ⟨⟨k0,k1',k2'⟩,g0,g1,g2⟩:=rf10.three
         go_wp2_with fail
         exact bodyPost_ret (res1 rfl Tryz.underlying38 rfl (by kernel_rfl) rfl (rf10.set3 _ _ _)) rfl ⟨(congrArg (fun f=>Ending.returned (ftV f)) HF.out).symm,below_set3 hB10 (by first|omega|(simp;omega)|simp) _ _ _⟩
       ·obtain rfl:p=q.left.length:=by omega
        have HEQ:Hid (clkQF n k q=fitsP n q.right (eqClk n q)):=clkQF_ok (fun nm hm=>by
         obtain ⟨j,hj⟩:=List.getElem?_of_mem hm
         exact HP.out j (List.getElem?_eq_some_iff.1 hj).1 nm hj)
        have hcl:(eqClk n q).length≤6:=clock_small HSM.out _
        have b78:=hbq
        have HR:=Lib.hid (fits_any n a HSM.out q.right A2 k2 (eqClk n q) A0 x0 wr ((HN.out wr hB8).more hsB8) HOK.out lq2 mq2 (exs_keep (HS2.out wr b68) (fun _ _ _ h=>h) hsB8) (kn_args HKN.out HQM.out) (by have:=HSQ.out.right.size;omega) l3 m3 (lits_keep HS3.out (keeps_of hbq) hszq))
        obtain ⟨f,HFX⟩:∃f,Hid (fitsP n q.right (eqClk n q)=f):=⟨_,rfl⟩
        rw[HFX.out] at HR HEQ
        go_wp2_with fail
        refine HR.out.mono ?_
        rintro r w9 ⟨rfl,hb9⟩
        have rf9:=rf8.below hb9 rf8.lt
        have hB9:=hB8.trans (hb9.mono hsB8)
        have hs9:=hb9.size
        have hsB9:=hB9.size
        have hl9:=rf9.lt
        by_cases hf:f.err=0
        ·have hf1:(f.err !=0)=false:=neq_no hf
         have HJ':=Lib.hid (step_uptoI (P:=fun j x=>(clkQF n j x).err=0) HJ.out HXK.out (by rw[HEQ.out];exact hf))
         have b9:Below w3.heap.size w3 (w9.alloc (.cells (ftC f) 38)):=((hbr2.trans (b68.mono hszr2)).trans (hb9.mono (by have:=b68.size;omega))).alloc (by have:=b68.size;omega) _
         clear hf
         go_wp2_with fail
         go_roundw
         case rel=>exact ⟨k+1,by omega,by go_num,HJ',b9⟩
         case measure=>first|(simp[intOf];omega)|simp[intOf]
        ·have hf1:(f.err !=0)=true:=neq_yes hf
         have HF:Hid (clkNF 0 n=f):=(HFn.out (by rw[HEQ.out];exact hf)).trans HEQ.out
         clear hf
         obtain ⟨⟨k0,k1',k2'⟩,g0,g1,g2⟩:=rf9.three
         refine' zq45
    ·obtain rfl:k=n.eqs.length:=by omega
     have HF:Hid (clkNF 0 n=ft0):=HF1.out.trans (fstL_end HJ.out)
     obtain ⟨⟨k0,k1,k2⟩,g0,g1,g2⟩:=rf4.three
     go_wp2_with fail
     exact bodyPost_ret (res1 rfl Tryz.underlying38 rfl (by kernel_rfl) rfl (rf4.set3 _ _ _)) rfl ⟨(congrArg (fun f=>Ending.returned (ftV f)) HF.out).symm,below_set3 hB4 (by first|omega|(simp;omega)|simp) _ _ _⟩
def ClkAt (s:List Nd) (k:Nat) (f:Ft):Prop:=(f=ft0∧(scopeF s).err=0∧∀j,j<k→∀x,s[j]? =some x→(clkNF j x).err=0)∨(f.err≠0∧clockF s=f)
theorem ccheck_any (s:List Nd) (A:Option Addr) (cap:Nat) (w:World) (sm:SrcSm s) (h1:s.length≤cap) (h2:cap≤maxLen) (h:Nds w w.heap.size A s):
  Calls Tryz.prog 57 #[srcV s A cap] w fun r w'=>r= .returned (ftV (clockF s))∧Below w.heap.size w w':=by
 refine' zq5
 refine' zq50
 clear h sm
 go_enter Tryz.func57,Tryz.ntmps57
 refine' zq6
 have HC0:Hid (ClkAt s 0 (scopeF s)):=by
  by_cases g:(scopeF s).err=0
  ·refine .inl ⟨?_,g,fun j h=>absurd h (by omega)⟩
   have hr:=scope_rt g
   rw[scopeF_rt hr] at g⊢
   obtain ⟨g1,g2⟩:=ft2_ok g
   obtain ⟨g3,g4⟩:=ft2_ok g2
   rw[ft2_0 g1,ft2_0 g3]
   unfold mainF at g4⊢
   split at g4
   ·exact absurd g4 (by show ¬(27:Int)=0;decide)
   ·rw[if_neg ‹_›]
  ·exact .inr ⟨g,ft2_1 g⟩
 obtain ⟨f,HFN⟩:∃f,Hid (scopeF s=f):=⟨_,rfl⟩
 rw[HFN.out] at HC0⊢
 have rg2:=Row.new w2 (ftC f) 38
 refine' zq30
 have rs3:=rs2.below ba rs2.lt
 have rf3:=rf2.below ba rf2.lt
 have hB3:=hB2.trans (ba.mono hs2)
 have hgf:w.heap.size≤w2.heap.size:=hs2
 have hne1:w.heap.size≠w2.heap.size:=by have:=rs2.lt;omega
 have hne2:w.heap.size+1≠w2.heap.size:=by have:=rf2.lt;omega
 clear c0 rs1 rf1 b1 hb2 hs1
 go_upto_region 2 with (fail)
 generalize hW3:w2.alloc (.cells (ftC f) 38)=w3 at*
 clear hW3
 generalize hG:w2.heap.size=gf at*
 clear hG
 go_wp2_with fail
 clear rs2 rf2 hB2 hs2 ba
 go_loopw[4] (fun i wr=>∃(k:Nat) (f:Ft),k≤s.length∧i= .int .i64 k∧Hid (ClkAt s k f)∧Row wr w.heap.size #[.slice A s.length cap] 24∧Row wr (w.heap.size+1) ftC0 38∧Row wr gf (ftC f) 38∧Below w.heap.size w wr) (fun i _=>s.length-(intOf i).toNat)
 case atStart=>exact ⟨0,f,Nat.zero_le _,rfl,HC0,rs3,rf3,rg2,hB3⟩
 case round=>
  obtain ⟨k,f,hk,rfl,HC,rs,rf,rg,hB⟩:=hrel
  have hsB:=hB.size
  have c0:=rs.src
  obtain ⟨⟨y0,y1,y2⟩,p0,p1,p2⟩:=rg.three
  by_cases hf:f.err=0
  rotate_left 1
  ·have hf1:(f.err==0)=false:=eq_no hf
   have HF:Hid (clockF s=f):=HC.out.elim (fun g=>absurd (show f.err=0 by rw[g.1]) hf) (fun g=>g.2)
   clear hf
   refine' zq129
   by_cases hlt:k<s.length
   ·refine' zq17
   ·obtain rfl:k=s.length:=by omega
    refine' zq17
  have hf1:(f.err==0)=true:=eq_yes hf
  obtain ⟨hf0,hz,HN⟩:f=ft0∧(scopeF s).err=0∧Hid (∀j,j<k→∀x,s[j]? =some x→(clkNF j x).err=0):=HC.out.elim (fun g=>g) (fun g=>absurd hf g.1)
  have HZ:=Lib.hid hz
  have HF0:=Lib.hid hf0
  clear hf hz hf0
  by_cases hlt:k<s.length
  ·refine' zq73
   subst hA
   have HX:=Lib.hid hn
   have hnm:=List.mem_of_getElem? hn
   have HR:=Lib.hid (cnode_any n a wr (HSM.out.all n hnm) (scope_kn HZ.out n hnm) (hat.more hsB))
   obtain ⟨f',HFX⟩:∃f,Hid (clkNF 0 n=f):=⟨_,rfl⟩
   rw[HFX.out] at HR
   have HC':Hid (ClkAt s (k+1) f'):=by
    have e:clkNF k n=f':=HFX.out
    by_cases g:f'.err=0
    ·refine .inl ⟨?_,HZ.out,step_uptoI (P:=fun j x=>(clkNF j x).err=0) HN.out HX.out (by rw[e];exact g)⟩
     rw[←HFX.out] at g⊢
     exact clkNF_zero g
    ·refine .inr ⟨g,?_⟩
     unfold clockF
     rw[ft2_0 HZ.out,fstL_stop (f:=clkNF) HN.out HX.out (by rw[e];exact g),e]
   refine' zq153
   clear hn hat hnm
   go_wp2_with fail
   refine HR.out.mono ?_
   rintro r w5 ⟨rfl,hb5⟩
   have rs5:=rs.below hb5 rs.lt
   have rf5:=rf.below hb5 rf.lt
   have rg5:=rg.below hb5 rg.lt
   have hB5:=hB.trans (hb5.mono hsB)
   clear c0 d0 d1 d2 d3 d4 d5 d6 y0 y1 y2 p0 p1 p2
   obtain ⟨⟨y0,y1,y2⟩,p0,p1,p2⟩:=rg5.three
   go_wp2_with fail
   go_roundw
   case rel=>exact ⟨k+1,f',by omega,by go_num,HC',rs5.far3 hne1 _ _ _,rf5.far3 hne2 _ _ _,rg5.set3 _ _ _,below_set3 hB5 hgf _ _ _⟩
   case measure=>first|(simp[intOf];omega)|simp[intOf]
  ·obtain rfl:k=s.length:=by omega
   have HF:Hid (clockF s=f):=by
    show _=_
    unfold clockF
    rw[ft2_0 HZ.out,fstL_end HN.out,HF0.out]
   refine' zq129
   refine' zq17
end Go.Proofs.YtdkgkacnjdnpoaaGreat
