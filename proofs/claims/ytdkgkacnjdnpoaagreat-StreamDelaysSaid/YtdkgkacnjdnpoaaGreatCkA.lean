/-
  Which node hangs on itself first: the contract of calls.Check. Which clocks are right: the contracts of clock.right and tompionref18.Right.
-/
import Derived.Test.YtdkgkacnjdnpoaaGreatCalB
import Derived.Test.YtdkgkacnjdnpoaaGreatHgP
import Derived.Test.YtdkgkacnjdnpoaaGreatScH
import Derived.Deep.RegionWith
set_option maxHeartbeats 1000000
set_option maxRecDepth 100000
namespace Go.Proofs.YtdkgkacnjdnpoaaGreat
open Go.RowKit
attribute [local go_sem ↓] Go.wp_at_zero Go.wp_at_succ
theorem step_look {w:World} {ops:Array Oper} {o:Oper} {a:Act} {K:Act→World→Prop} {Q:Exit→Act→World→Prop} {E:Prop} (hgd:o.guard=none) (m x:Operand) (hop:o.op=Op.lookup 85 m x false)
  (b:Nat) (hm:a.eval m= .map (some b)) (nm:ByteArray) (hx:a.eval x= .string nm) (u:Value) (hrun:(Instr.lookup 85 (.map (some b)) (.string nm) false).run Tryz.prog w= .ok u w) (hK:K (a.put o.dst u) w):
  if Region.wanted o (yielded ops a.tmps)=true then Oper.wp Tryz.prog o a w K Q else E:=by
 have hw:Region.wanted o (yielded ops a.tmps)=true:=by simp[Region.wanted,hgd]
 rw[if_pos hw]
 unfold Oper.wp
 simp[execOp,hop,hm,hx,hrun,Result.andThen]
 exact hK
theorem MetS.val {w:World} {b:Nat} {l:List ByteArray} (h:MetS w b l) {nm:ByteArray} (hs:nm.size≤maxLen) {P:Bool} (hP:P=true↔nm∈l):(Instr.lookup 85 (.map (some b)) (.string nm) false).run Tryz.prog w= .ok (.int .i64 (bif P then 1 else 0)) w:=by
 cases P
 ·exact (h.look hs).2 (fun g=>by have:=hP.2 g;cases this)
 ·exact (h.look hs).1 (hP.1 rfl)
theorem calF_yes {s:List Nd} {k:Nat} {n:Nd} (h:Hg (usesAt s) n.name n.name):calF s k n=⟨29,n.line,n.col⟩:=if_pos h
theorem calF_no {s:List Nd} {k:Nat} {n:Nd} (h:¬Hg (usesAt s) n.name n.name):calF s k n=ft0:=if_neg h
theorem check_calls (s:List Nd) (A:Option Addr) (cap:Nat) (w:World) (sm:SrcSm s) (h1:s.length≤cap) (h2:cap≤maxLen) (h:Nds w w.heap.size A s):
  Calls Tryz.prog 56 #[srcV s A cap] w fun r w'=>r= .returned (ftV (callsF s))∧Below w.heap.size w w':=by
 have rf1:=rowNew2 w (.cells #[.slice A s.length cap] 24) ftC0 38
 have rs1:=(Row.new w #[.slice A s.length cap] 24).alloc (.cells ftC0 38)
 have b1:Below w.heap.size w ((w.alloc (.cells #[.slice A s.length cap] 24)).alloc (.cells ftC0 38)):=bE
 have HS:Hid (∀W,Below w.heap.size w W→Nds W w.heap.size A s):=fun W hW=>nds_keep h (keeps_of hW) (Nat.le_refl _)
 have HSM:=Lib.hid sm
 have h2':cap≤9223372036854775807:=by unfold maxLen at h2;omega
 clear h sm
 go_enter Tryz.func56,Tryz.ntmps56
 go_upto_region 1 with (fail)
 generalize (w.alloc (.cells #[.slice A s.length cap] 24)).alloc (.cells ftC0 38)=W1 at*
 have hs1:=b1.size
 have c0:=rs1.src
 go_wp2_with fail
 refine (check15_any s A cap W1 HSM.out h1 h2 (nds_keep (HS.out W1 b1) (fun _ _ _ h=>h) hs1)).mono ?_
 rintro r w2 ⟨rfl,hb2⟩
 have rs2:=rs1.below hb2 rs1.lt
 have rf2:=rf1.below hb2 rf1.lt
 have hB2:=b1.trans (hb2.mono hs1)
 have hs2:=hB2.size
 have hl2:=rf2.lt
 clear c0 rs1 rf1 b1 hb2 hs1
 obtain ⟨f,HFN⟩:∃f,Hid (scopeF s=f):=⟨_,rfl⟩
 have HF0:Hid (callsF s=ft2 f (fstL (calF s) s)):=by show _=_;rw[←HFN.out];rfl
 rw[HFN.out]
 by_cases hf:f.err=0
 rotate_left 1
 ·have hf1:(f.err !=0)=true:=neq_yes hf
  have HF:Hid (callsF s=f):=by show _=_;rw[HF0.out,ft2_1 hf]
  clear hf
  obtain ⟨⟨k0,k1,k2⟩,g0,g1,g2⟩:=rf2.three
  go_wp2_with fail
  exact bodyPost_ret (res1 rfl Tryz.underlying38 rfl (by kernel_rfl) rfl ((rf2.set3 _ _ _).alloc _)) rfl ⟨(congrArg (fun f=>Ending.returned (ftV f)) HF.out).symm,(below_set3 hB2 (by first|omega|(simp;omega)|simp) _ _ _).alloc (by first|(simp[World.setCell];omega)|simp[World.setCell]) _⟩
 have hf1:(f.err !=0)=false:=neq_no hf
 have HF1:Hid (callsF s=fstL (calF s) s):=by show _=_;rw[HF0.out,ft2_0 hf]
 have H0:Hid ((scopeF s).err=0):=by show _=_;rw[HFN.out];exact hf
 clear hf
 have ba:Below w2.heap.size w2 (w2.alloc (.cells (ftC f) 38)):=bE
 go_upto_region 4 with (fail)
 generalize hW4:w2.alloc (.cells (ftC f) 38)=w4 at*
 clear hW4
 have rs4:=rs2.below ba rs2.lt
 have rf4:=rf2.below ba rf2.lt
 have hB4:=hB2.trans (ba.mono hs2)
 have hs4:=hB4.size
 have c0:=rs4.src
 clear rs2 rf2 hB2 hs2 ba hl2 HF0 HFN
 go_upto_region 5 with (go_at_call 101;refine Calls.mono (all_calls s A cap w4 H0.out HSM.out h1 h2 (nds_keep (HS.out w4 hB4) (fun _ _ _ h=>h) hs4)) ?_;rintro r w5 ⟨⟨bu,rfl,hU5,hbu⟩,hb5⟩)
 have rs5:=rs4.below hb5 rs4.lt
 have rf5:=rf4.below hb5 rf4.lt
 have hB5:=hB4.trans (hb5.mono hs4)
 have hs5:=hB5.size
 clear c0 rs4 rf4 hB4 hb5
 have c0:=rs5.src
 go_wp2_with fail
 go_loopw[18] (fun i wr=>∃k:Nat,k≤s.length∧i= .int .i64 k∧Hid (∀j,j<k→∀x,s[j]? =some x→(calF s j x).err=0)∧Below w5.heap.size w5 wr) (fun i _=>s.length-(intOf i).toNat)
 case atStart=>exact ⟨0,Nat.zero_le _,rfl,fun j h=>absurd h (by omega),Below.refl _ _⟩
 case round=>
  obtain ⟨k,hk,rfl,HN,hbr⟩:=hrel
  have rf:=rf5.below hbr rf5.lt
  have hB:=hB5.trans (hbr.mono hs5)
  have hsB:=hB.size
  have hszr:=hbr.size
  by_cases hlt:k<s.length
  rotate_left 1
  ·obtain rfl:k=s.length:=by omega
   have HF:Hid (callsF s=ft0):=HF1.out.trans (fstL_end HN.out)
   obtain ⟨⟨k0,k1,k2⟩,g0,g1,g2⟩:=rf.three
   go_wp2_with fail
   exact bodyPost_ret (res1 rfl Tryz.underlying38 rfl (by kernel_rfl) rfl (rf.set3 _ _ _)) rfl ⟨(congrArg (fun f=>Ending.returned (ftV f)) HF.out).symm,below_set3 hB (by first|omega|(simp;omega)|simp) _ _ _⟩
  obtain ⟨b,off,n,a,hA,hb,hn,hat,d0,d1,d2,d3,d4,d5,d6⟩:=(HS.out wr hB).nd hlt
  subst hA
  have HX:=Lib.hid hn
  have hnm:=hat.name
  have i0:(0:Int)≤(k:Int):=by omega
  have i1:(k:Int)<(s.length:Int):=by omega
  have rn1:=Row.new wr (ndArr n a) 58
  have ba:Below wr.heap.size wr (wr.alloc (.cells (ndArr n a) 58)):=bE
  obtain ⟨P,HPB⟩:∃P:Bool,Hid (cB (Hg (usesAt s) n.name n.name)=P):=⟨_,rfl⟩
  clear hn hat
  go_upto_region 8 with (fail)
  clear d0 d1 d2 d3 d4 d5 d6
  generalize hW6:wr.alloc (.cells (ndArr n a) 58)=w6 at*
  clear hW6
  have hsa:=ba.size
  have rf6:=rf.below ba rf.lt
  have hB6:=hB.trans (ba.mono hsB)
  have hs6:=hB6.size
  have HU:Hid (∀W,Below w6.heap.size w6 W→UsesM W bu s s.length):=fun W hW=>hU5.below (hbr.trans ((ba.trans (hW.mono hsa)).mono hszr))
  have HK:Hid (∀W,Below w6.heap.size w6 W→(W.cell? ⟨wr.heap.size,0,none⟩=some (.string n.name)∧W.cell? ⟨wr.heap.size,1,none⟩=some (.slice a.ai n.ins.length a.ci)∧W.cell? ⟨wr.heap.size,2,none⟩=some (.slice a.ao n.outs.length a.co)∧W.cell? ⟨wr.heap.size,3,none⟩=some (.slice a.av n.vars.length a.cv)∧W.cell? ⟨wr.heap.size,4,none⟩=some (.slice a.aq n.eqs.length a.cq)∧W.cell? ⟨wr.heap.size,5,none⟩=some (.int .i64 n.line)∧W.cell? ⟨wr.heap.size,6,none⟩=some (.int .i64 n.col))):=fun W hW=>(rn1.below hW rn1.lt).nd
  go_cut[29] (fun v29 W=>v29= .bool P∧Below w6.heap.size w6 W)
  case first=>
   refine wp_region_held_drew (S:=fun W=>(W.cell? ⟨wr.heap.size,0,none⟩=some (.string n.name)∧W.cell? ⟨wr.heap.size,1,none⟩=some (.slice a.ai n.ins.length a.ci)∧W.cell? ⟨wr.heap.size,2,none⟩=some (.slice a.ao n.outs.length a.co)∧W.cell? ⟨wr.heap.size,3,none⟩=some (.slice a.av n.vars.length a.cv)∧W.cell? ⟨wr.heap.size,4,none⟩=some (.slice a.aq n.eqs.length a.cq)∧W.cell? ⟨wr.heap.size,5,none⟩=some (.int .i64 n.line)∧W.cell? ⟨wr.heap.size,6,none⟩=some (.int .i64 n.col))) (by kernel_rfl) ?_ (fun hHeld=>?_)
   ·(try dsimp only);(first|(with_reducible exact HK.out _ bE)|exact hHeld|assumption|trivial)
   refine tk 0 (some 22) rfl ?_
   refine tk 1 (some 23) rfl ?_
   refine tk 2 (some 24) rfl ?_
   refine tk 4 (some 26) rfl ?_
   refine tk 5 (some 27) rfl ?_
   refine rd1 3 (some 25) rfl (fun KK hKK=>?_)
   go_simp
   (go_at_call 102;refine Calls.mono (reach_any s bu n.name _ H0.out HSM.out (HU.out _ bE) hnm) ?_;rintro e w7 ⟨⟨b7,L7,rfl,hM7,HL7⟩,hb7⟩;(have hb8:Below w6.heap.size w6 w7:=Below.trans bE (hb7.mono lE));have hlv:=MetS.val hM7 hnm (P:=P) (by rw[HL7.out,←HPB.out];exact cB_iff))
   (try go_wp2_with fail)
   refine hKK.out _ _ ?_ (fun hHeld=>?_)
   ·(try dsimp only);(first|(with_reducible exact HK.out _ bE)|exact hHeld|assumption|trivial)
   clear hKK KK
   try simp only[Act.put,List.setIfInBounds_toArray,List.set_cons_zero,List.set_cons_succ]
   refine rd1 6 (some 28) rfl (fun KK hKK=>?_)
   (refine step_look rfl _ _ rfl b7 rfl n.name rfl (.int .i64 (bif P then 1 else 0)) hlv ?_)
   refine hKK.out _ _ ?_ (fun hHeld=>?_)
   ·(try dsimp only);(first|(with_reducible exact HK.out _ bE)|exact hHeld|assumption|trivial)
   clear hKK KK
   try simp only[Act.put,List.setIfInBounds_toArray,List.set_cons_zero,List.set_cons_succ]
   refine tk 7 (some 29) rfl ?_
   refine wpAnyH_done (by kernel_rfl) ?_ _
   go_wp2_with fail
   go_meet
   exact ⟨by cases P<;>rfl,bE⟩
  case rest=>
   obtain ⟨rfl,hbc⟩:=hcut
   have rf7:=rf6.below hbc rf6.lt
   have hB7:=hB6.trans (hbc.mono hs6)
   have rn7:=rn1.below hbc rn1.lt
   obtain ⟨e0,e1,e2,e3,e4,e5,e6⟩:=rn7.nd
   cases P
   ·have hq:=cB_not.1 HPB.out
    have HN':=Lib.hid (step_uptoI (P:=fun j x=>(calF s j x).err=0) HN.out HX.out (by rw[calF_no hq]))
    clear hq
    go_wp2_with fail
    go_roundw
    case rel=>exact ⟨k+1,by omega,by go_num,HN',hbr.trans ((ba.trans (hbc.mono hsa)).mono hszr)⟩
    case measure=>first|(simp[intOf];omega)|simp[intOf]
   ·have hq:=cB_iff.1 HPB.out
    have HF:Hid (callsF s=⟨29,n.line,n.col⟩):=by
     have e:calF s k n=⟨29,n.line,n.col⟩:=calF_yes hq
     show _=_
     rw[HF1.out,fstL_stop (f:=calF s) HN.out HX.out (by rw[e];show (29:Int)≠0;decide),e]
    clear hq
    obtain ⟨⟨k0,k1,k2⟩,g0,g1,g2⟩:=rf7.three
    go_wp2_with fail
    exact bodyPost_ret (res1 rfl Tryz.underlying38 rfl (by kernel_rfl) rfl (rf7.set3 _ _ _)) rfl ⟨(congrArg (fun f=>Ending.returned (ftV f)) HF.out).symm,below_set3 hB7 (by first|omega|(simp;omega)|simp) _ _ _⟩
theorem right_no {n:Nd} {clock:List Lt} {k:Nat} {l:Lt} (hk:clock[k]? =some l) (h:clockOf n l.name≠clock.take k):¬RightClk n clock:=fun g=>h (g k l hk)
theorem lits_take {w:World} {B:Nat} {A:Option Addr} {l:List Lt} (h:Sl w B 2 isLit A l) (k:Nat):Sl w B 2 isLit A (l.take k):=h.take k
theorem cright_any (n:Nd) (a:NdA) (clock:List Lt) (A:Option Addr) (cap:Nat) (w:World) (sm:NdSm n) (hn:NdAt w w.heap.size n a) (h1:clock.length≤cap) (h2:cap≤maxLen) (h:Sl w w.heap.size 2 isLit A clock):
  Calls Tryz.prog 146 #[ndV n a,.slice A clock.length cap] w fun r w'=>r= .returned (.bool (cB (RightClk n clock)))∧Below w.heap.size w w':=by
 have rn1:=Row.new w (ndArr n a) 58
 have b1:Below w.heap.size w (w.alloc (.cells (ndArr n a) 58)):=(by repeat (first|(with_reducible assumption)|(with_reducible exact Below.refl _ _)|(with_reducible refine Below.drew ?_)|(with_reducible refine below_drewN' ?_ _)|(with_reducible refine Below.alloc ?_ (by first|assumption|omega|(simp;omega)|simp|(simp[World.setCell];omega)|simp[World.setCell]) _)|(with_reducible refine Below.setCell ?_ (by first|assumption|omega|(simp;omega)|simp|(simp[World.setCell];omega)|simp[World.setCell]) _)))
 have HS:Hid (∀W,Below w.heap.size w W→Sl W w.heap.size 2 isLit A clock):=fun W hW=>lits_keep h (keeps_of hW) (Nat.le_refl _)
 have HO:Hid (∀(nm:ByteArray) W,Below w.heap.size w W→Calls Tryz.prog 147 #[ndV n a,.string nm] W (OfRes n nm W)):=fun nm W hW=>of_any n a nm W ((hn.below hW).more hW.size) sm
 have h2':cap≤9223372036854775807:=by unfold maxLen at h2;omega
 clear hn h sm
 go_enter Tryz.func146,Tryz.ntmps146
 go_upto_region 1 with (fail)
 generalize w.alloc (.cells (ndArr n a) 58)=W1 at*
 have hs1:=b1.size
 go_wp2_with fail
 go_loopw[11] (fun i wr=>∃k:Nat,k≤clock.length∧i= .int .i64 k∧Hid (∀j,j<k→∀x,clock[j]? =some x→clockOf n x.name=clock.take j)∧Below W1.heap.size W1 wr) (fun i _=>clock.length-(intOf i).toNat)
 case atStart=>exact ⟨0,Nat.zero_le _,rfl,fun j h=>absurd h (by omega),Below.refl _ _⟩
 case round=>
  obtain ⟨k,hk,rfl,HN,hbr⟩:=hrel
  have hszr:=hbr.size
  have rn:=rn1.below hbr rn1.lt
  have hB:=b1.trans (hbr.mono hs1)
  have hsB:=hB.size
  by_cases hlt:k<clock.length
  ·obtain ⟨b,off,y,hA,hb,hy,ys,d0,d1⟩:=(HS.out wr hB).lit hlt
   subst hA
   have HY:=Lib.hid hy
   have rl:=Row.new wr #[.string y.name,.bool y.no] 105
   have ba:Below wr.heap.size wr (wr.alloc (.cells #[.string y.name,.bool y.no] 105)):=(by repeat (first|(with_reducible assumption)|(with_reducible exact Below.refl _ _)|(with_reducible refine Below.drew ?_)|(with_reducible refine below_drewN' ?_ _)|(with_reducible refine Below.alloc ?_ (by first|assumption|omega|(simp;omega)|simp|(simp[World.setCell];omega)|simp[World.setCell]) _)|(with_reducible refine Below.setCell ?_ (by first|assumption|omega|(simp;omega)|simp|(simp[World.setCell];omega)|simp[World.setCell]) _)))
   clear hy
   go_upto_region 4 with (fail)
   clear d0 d1
   generalize hW2:wr.alloc (.cells #[.string y.name,.bool y.no] 105)=w2 at*
   clear hW2
   have hsa:=ba.size
   have rn2:=rn.below ba rn.lt
   have hB2:=hB.trans (ba.mono hsB)
   have d0:=(rl.cell 0).trans rfl
   obtain ⟨c0,c1,cc2,c3,c4,c5,c6⟩:=rn2.nd
   go_wp2_with fail
   refine (HO.out y.name w2 hB2).mono ?_
   rintro r w3 ⟨⟨A3,cap3,rfl,l3,m3,s3⟩,hb3⟩
   have hB3:=hB2.trans (hb3.mono hB2.size)
   have hs3:=hb3.size
   have hsB3:=hB3.size
   have i0:(0:Int)≤(k:Int):=by omega
   have i1:(k:Int)≤(cap:Int):=by omega
   have htk:(clock.take k).length=k:=by rw[List.length_take];omega
   have HE:=Lib.hid (eqLits_any (clockOf n y.name) (clock.take k) A3 (some ⟨b,off,none⟩) cap3 cap w3.heap.size w3 l3 m3 s3 (by omega) h2 (lits_keep (lits_take (HS.out w3 hB3) k) (fun _ _ _ h=>h) hsB3))
   rw[htk] at HE
   clear s3 htk
   go_wp2_with fail
   refine HE.out.mono ?_
   rintro r w4 ⟨rfl,nn,rfl⟩
   by_cases hq:clockOf n y.name=clock.take k
   ·rw[cB_true hq]
    have HN':=Lib.hid (step_uptoI (P:=fun j x=>clockOf n x.name=clock.take j) HN.out HY.out hq)
    clear hq
    have b4:=below_drewN' ((hbr.trans (ba.mono hszr)).trans (hb3.mono (by omega))) nn
    go_wp2_with fail
    go_roundw
    case rel=>exact ⟨k+1,by omega,by go_num,HN',b4⟩
    case measure=>first|(simp[intOf];omega)|simp[intOf]
   ·rw[cB_false hq]
    have HF:Hid (cB (RightClk n clock)=false):=cB_false (right_no HY.out hq)
    have b4:=below_drewN' hB3 nn
    clear hq
    go_wp2_with fail
    go_ret
    exact ⟨ret_bool HF.out.symm,b4⟩
  ·obtain rfl:k=clock.length:=by omega
   have HF:Hid (cB (RightClk n clock)=true):=cB_true (fun i l hi=>HN.out i (List.getElem?_eq_some_iff.1 hi).1 l hi)
   go_wp2_with fail
   go_ret
   exact ⟨ret_bool HF.out.symm,hB⟩
end Go.Proofs.YtdkgkacnjdnpoaaGreat
