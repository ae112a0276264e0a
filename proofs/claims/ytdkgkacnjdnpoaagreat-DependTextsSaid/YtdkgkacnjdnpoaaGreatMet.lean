/-
  Which variables, equations, nodes and sources are right: the contracts of package tree. A source's node of a name, the names of nodes, where a name is defined: the contracts of package scope and of tompionref15. Names met: a map from names to 1, as a list of names.
-/
import Derived.Test.YtdkgkacnjdnpoaaGreatZz
import Derived.Test.YtdkgkacnjdnpoaaGreatFewM
import Derived.Test.YtdkgkacnjdnpoaaGreatTreeRight
import Derived.Deep.RegionHeld3
import Derived.Maps.Own
import Derived.Maps.OwnOps
import Derived.Maps.Views
set_option maxHeartbeats 4000000
set_option maxRecDepth 100000
namespace Go.Proofs.YtdkgkacnjdnpoaaGreat
open Go.RowKit _root_.Go.Proofs.YtdkgkacnjdnpoaaGreat.Nm
theorem bool_no {b:Bool} (h:¬b=true):b=false:=by simpa using h
theorem dec_yes {p:Prop} [Decidable p] (h:p):decide p=true:=decide_eq_true h
theorem dec_no {p:Prop} [Decidable p] (h:¬p):decide p=false:=decide_eq_false h
theorem eq_yes {a b:Int} (h:a=b):(a==b)=true:=by rw[beq_iff_eq];exact h
theorem eq_no {a b:Int} (h:a≠b):(a==b)=false:=by rw[beq_eq_false_iff_ne];exact h
theorem neq_no {a b:Int} (h:a=b):(a !=b)=false:=by simp[h]
theorem neq_yes {a b:Int} (h:a≠b):(a !=b)=true:=by simp[h]
abbrev eqV (q:Eqn) (A1:Option Addr) (c1:Nat) (A2:Option Addr) (c2:Nat):Value:= .agg (eqArr q A1 c1 A2 c2)
theorem variable_any (x:Vr) (A:Option Addr) (cap:Nat) (w:World) (ok:VrOk x) (h1:x.clock.length≤cap) (h2:cap≤maxLen) (h:Sl w w.heap.size 2 isLit A x.clock):
  Calls Tryz.prog 193 #[vrV x A cap] w fun e w'=>e= .returned (.bool (cB (VrRt x)))∧Below w.heap.size w w':=by
 have r1:=Row.new w (vrArr x A cap) 103
 have b1:Below w.heap.size w (w.alloc (.cells (vrArr x A cap) 103)):=(Below.refl _ _).alloc (Nat.le_refl _) _
 have HS:=Lib.hid (lits_keep h (keeps_of b1) (Nat.le_refl _))
 have g3:cap≤9223372036854775807:=by unfold maxLen at h2;omega
 have hnm:=ok.name
 clear h ok
 go_enter Tryz.func193,Tryz.ntmps193
 go_upto_region 1 with (fail)
 generalize w.alloc (.cells (vrArr x A cap) 103)=W1 at*
 have hs1:=b1.size
 have l1:=r1.lt
 obtain ⟨c0,c1,c2,c3,c4⟩:=r1.vr
 go_wp2_with fail
 go_loopw[8] (fun i wr=>∃k:Nat,k≤x.clock.length∧i= .int .i64 k∧Hid (∀j,j<k→∀c,x.clock[j]? =some c→nameB c.name.toList=true)∧Below W1.heap.size W1 wr) (fun i _=>x.clock.length-(intOf i).toNat)
 case atStart=>exact ⟨0,Nat.zero_le _,rfl,fun j h=>absurd h (by omega),Below.refl _ _⟩
 case round=>
  refine' zq165
  clear c0 c1 c2 c3 c4
  by_cases hlt:k<x.clock.length
  ·obtain ⟨b,off,y,rfl,hb,hy,ys,d0,d1⟩:=(lits_keep HS.out (keeps_of (hbr.mono hs1)) (Nat.le_refl _)).lit hlt
   have HY:=Lib.hid hy
   clear hy
   have ba:Below W1.heap.size W1 (wr.alloc (.cells #[.string y.name,.bool y.no] 105)):=hbr.alloc hszr _
   go_wp2_with fail
   refine (name_any y.name _ ys).mono ?_
   rintro e w2 ⟨rfl,hb2⟩
   have b2:=ba.trans (hb2.mono (by simp;omega))
   by_cases hP:nameB y.name.toList=true
   ·have HN':=Lib.hid (step_upto (P:=fun c:Lt=>nameB c.name.toList=true) HN.out HY.out hP)
    rw[hP]
    refine' zq65
   ·have HF:Hid (cB (VrRt x)=false):=cB_false (fun g=>hP (g.1 y (List.mem_of_getElem? HY.out)))
    rw[bool_no hP]
    refine' zq124
  ·obtain rfl:k=x.clock.length:=by omega
   have HA:Hid (∀c∈x.clock,nameB c.name.toList=true):=mem_upto HN.out
   obtain ⟨d0,d1,d2,d3,d4⟩:=rr.vr
   go_wp2_with fail
   refine (name_any x.name _ hnm).mono ?_
   rintro e w2 ⟨rfl,hb2⟩
   have r2:=rr.below hb2 rr.lt
   have b2:=hB.trans (hb2.mono (by omega))
   clear d0 d1 d2 d3 d4
   obtain ⟨d0,d1,d2,d3,d4⟩:=r2.vr
   by_cases hP:nameB x.name.toList=true
   rotate_left 1
   ·have HF:Hid (cB (VrRt x)=false):=cB_false (fun g=>hP g.2.1)
    rw[bool_no hP]
    clear hP
    refine' zq70
   have HP:=Lib.hid hP
   rw[hP]
   clear hP
   by_cases t:x.ty=1∨x.ty=2
   rotate_left 1
   ·have HF:Hid (cB (VrRt x)=false):=cB_false (fun g=>t g.2.2.1)
    have e1:(x.ty==1)=false:=eq_no (fun g=>t (.inl g))
    have e2:(x.ty==2)=false:=eq_no (fun g=>t (.inr g))
    clear t
    refine' zq70
   have HT:=Lib.hid t
   have e12:(x.ty==1)=true∨((x.ty==1)=false∧(x.ty==2)=true):=by
    by_cases e:x.ty=1
    ·exact .inl (eq_yes e)
    ·exact .inr ⟨eq_no e,eq_yes (t.resolve_left e)⟩
   clear t
   by_cases hl:x.clock.length≤4
   ·have HF:Hid (cB (VrRt x)=true):=cB_true ⟨HA.out,HP.out,HT.out,hl⟩
    have e3:decide ((x.clock.length:Int)≤4)=true:=dec_yes (by omega)
    rcases e12 with e1|⟨e1,e2⟩
    all_goals
     refine' zq70
   ·have HF:Hid (cB (VrRt x)=false):=cB_false (fun g=>hl g.2.2.2)
    have e3:decide ((x.clock.length:Int)≤4)=false:=dec_no (by omega)
    rcases e12 with e1|⟨e1,e2⟩
    all_goals
     refine' zq70
theorem many_any (l:List Vr) (A:Option Addr) (cap:Nat) (lo hi:Int) (w:World) (h1:l.length≤cap) (h2:cap≤maxLen) (h:Vrs w w.heap.size A l):
  Calls Tryz.prog 178 #[.slice A l.length cap,.int .i64 lo,.int .i64 hi] w fun e w'=>e= .returned (.bool (cB (VrsRt l lo hi)))∧Below w.heap.size w w':=by
 have HS:=Lib.hid h
 have g3:cap≤9223372036854775807:=by unfold maxLen at h2;omega
 clear h
 go_enter Tryz.func178,Tryz.ntmps178
 go_wp2_with fail
 go_loopw[11] (fun i wr=>∃k:Nat,k≤l.length∧i= .int .i64 k∧Hid (∀j,j<k→∀v,l[j]? =some v→VrRt v)∧Below w.heap.size w wr) (fun i _=>l.length-(intOf i).toNat)
 case atStart=>exact ⟨0,Nat.zero_le _,rfl,fun j h=>absurd h (by omega),Below.refl _ _⟩
 case round=>
  refine' zq62
  by_cases hlt:k<l.length
  ·obtain ⟨b,off,x,A',cap',rfl,hb,hx,ok,g1,g2,hsl,c0,c1,c2,c3,c4⟩:=(vrs_keep HS.out (keeps_of hbr) (Nat.le_refl _)).vr hlt
   have HX:=Lib.hid hx
   have HSL:=Lib.hid hsl
   have ba:Below wr.heap.size wr (wr.alloc (.cells (vrArr x A' cap') 103)):=(Below.refl _ _).alloc (Nat.le_refl _) _
   clear hx hsl
   go_wp2_with fail
   refine (variable_any x A' cap' _ ok g1 g2 (lits_keep HSL.out (keeps_of (ba.mono hszr)) (by simp;omega))).mono ?_
   refine' zq170
   by_cases hP:VrRt x
   ·have HN':=Lib.hid (step_upto (P:=VrRt) HN.out HX.out hP)
    rw[cB_true hP]
    refine' zq65
   ·have HF:Hid (cB (VrsRt l lo hi)=false):=cB_false (fun g=>hP (g.1 x (List.mem_of_getElem? HX.out)))
    rw[cB_false hP]
    clear hP
    refine' zq70
  ·obtain rfl:k=l.length:=by omega
   have HA:Hid (∀v∈l,VrRt v):=mem_upto HN.out
   by_cases e1:lo≤l.length
   ·have e1':decide (lo≤(l.length:Int))=true:=dec_yes e1
    by_cases e2:(l.length:Int)≤hi
    ·have e2':decide ((l.length:Int)≤hi)=true:=dec_yes e2
     have HF:Hid (cB (VrsRt l lo hi)=true):=cB_true ⟨HA.out,e1,e2⟩
     clear e1 e2
     go_wp2_with fail
     go_ret
     exact ⟨ret_bool HF.out.symm,hbr⟩
    ·have e2':decide ((l.length:Int)≤hi)=false:=dec_no e2
     have HF:Hid (cB (VrsRt l lo hi)=false):=cB_false (fun g=>e2 g.2.2)
     clear e1 e2
     go_wp2_with fail
     go_ret
     exact ⟨ret_bool HF.out.symm,hbr⟩
   ·have e1':decide (lo≤(l.length:Int))=false:=dec_no e1
    have HF:Hid (cB (VrsRt l lo hi)=false):=cB_false (fun g=>e1 g.2.1)
    clear e1
    go_wp2_with fail
    go_ret
    exact ⟨ret_bool HF.out.symm,hbr⟩
theorem equation_any (q:Eqn) (A1:Option Addr) (k1:Nat) (A2:Option Addr) (k2:Nat) (w:World) (ok:EqnOk q) (sm:Small q.right) (h1:q.left.length≤k1) (m1:k1≤maxLen) (s1:Sl w w.heap.size 1 isStr A1 q.left) (h2:q.right.args.length≤k2) (m2:k2≤maxLen) (s2:IsExs w w.heap.size A2 q.right.args):
  Calls Tryz.prog 176 #[eqV q A1 k1 A2 k2] w fun e w'=>e= .returned (.bool (cB (EqnRt q)))∧Below w.heap.size w w':=by
 have r1:=Row.new w (eqArr q A1 k1 A2 k2) 65
 have b1:Below w.heap.size w (w.alloc (.cells (eqArr q A1 k1 A2 k2) 65)):=(Below.refl _ _).alloc (Nat.le_refl _) _
 have HS:=Lib.hid (strs_keep s1 (keeps_of b1) (Nat.le_refl _))
 have HE:=Lib.hid (exs_keep s2 (keeps_of b1) (Nat.le_refl _))
 have HSM:=Lib.hid sm
 have HOK:=Lib.hid ok
 have g3:k1≤9223372036854775807:=by unfold maxLen at m1;omega
 clear s1 s2 sm ok
 go_enter Tryz.func176,Tryz.ntmps176
 go_upto_region 1 with (fail)
 generalize w.alloc (.cells (eqArr q A1 k1 A2 k2) 65)=W1 at*
 have hs1:=b1.size
 have l1:=r1.lt
 obtain ⟨c0,c1,c2,c3,c4,c5,c6,c7,c8⟩:=r1.eqn
 go_wp2_with fail
 go_loopw[8] (fun i wr=>∃k:Nat,k≤q.left.length∧i= .int .i64 k∧Hid (∀j,j<k→∀c,q.left[j]? =some c→nameB c.toList=true)∧Below W1.heap.size W1 wr) (fun i _=>q.left.length-(intOf i).toNat)
 case atStart=>exact ⟨0,Nat.zero_le _,rfl,fun j h=>absurd h (by omega),Below.refl _ _⟩
 case round=>
  refine' zq165
  clear c0 c1 c2 c3 c4 c5 c6 c7 c8
  by_cases hlt:k<q.left.length
  ·obtain ⟨b,off,y,rfl,hb,hy,ys,d0⟩:=(strs_keep HS.out (keeps_of (hbr.mono hs1)) (Nat.le_refl _)).str hlt
   have HY:=Lib.hid hy
   clear hy
   go_wp2_with fail
   refine (name_any y _ ys).mono ?_
   rintro e w2 ⟨rfl,hb2⟩
   have b2:=hbr.trans (hb2.mono hszr)
   by_cases hP:nameB y.toList=true
   ·have HN':=Lib.hid (step_upto (P:=fun c:ByteArray=>nameB c.toList=true) HN.out HY.out hP)
    rw[hP]
    refine' zq65
   ·have HF:Hid (cB (EqnRt q)=false):=cB_false (fun g=>hP (g.1 y (List.mem_of_getElem? HY.out)))
    rw[bool_no hP]
    refine' zq124
  ·obtain rfl:k=q.left.length:=by omega
   have HA:Hid (∀c∈q.left,nameB c.toList=true):=mem_upto HN.out
   obtain ⟨d0,d1,d2,d3,d4,d5,d6,d7,d8⟩:=rr.eqn
   by_cases e1:1≤q.left.length
   rotate_left 1
   ·have e1':decide ((1:Int)≤(q.left.length:Int))=false:=dec_no (by omega)
    have HF:Hid (cB (EqnRt q)=false):=cB_false (fun g=>e1 g.2.1)
    clear e1
    refine' zq86
   have e1':decide ((1:Int)≤(q.left.length:Int))=true:=dec_yes (by omega)
   by_cases e2:q.left.length≤8
   rotate_left 1
   ·have e2':decide ((q.left.length:Int)≤8)=false:=dec_no (by omega)
    have HF:Hid (cB (EqnRt q)=false):=cB_false (fun g=>e2 g.2.2.1)
    clear e2
    refine' zq86
   have e2':decide ((q.left.length:Int)≤8)=true:=dec_yes (by omega)
   go_wp2_with fail
   refine (right_any q.right A2 k2 _ HOK.out.right h2 m2 (exs_keep HE.out (keeps_of (hbr.mono hs1)) (by omega)) (by have:=HSM.out.size;omega)).mono ?_
   rintro e w2 ⟨rfl,hb2⟩
   have b2:=hB.trans (hb2.mono (by omega))
   by_cases hP:exRight q.right=true
   ·have HF:Hid (cB (EqnRt q)=true):=cB_true ⟨HA.out,e1,e2,hP⟩
    rw[hP]
    clear hP
    refine' zq70
   ·have HF:Hid (cB (EqnRt q)=false):=cB_false (fun g=>hP g.2.2.2)
    rw[bool_no hP]
    clear hP
    refine' zq70
theorem node_any (n:Nd) (a:NdA) (w:World) (sm:NdSm n) (h:NdAt w w.heap.size n a):
  Calls Tryz.prog 137 #[ndV n a] w fun e w'=>e= .returned (.bool (cB (NdRt n)))∧Below w.heap.size w w':=by
 have r1:=Row.new w (ndArr n a) 58
 have b1:Below w.heap.size w (w.alloc (.cells (ndArr n a) 58)):=(Below.refl _ _).alloc (Nat.le_refl _) _
 have H:=Lib.hid (h.below b1)
 have HSM:=Lib.hid sm
 have hq2:=h.mq
 have hq1:=h.lq
 have hnm:=h.name
 have g3:a.cq≤9223372036854775807:=by unfold maxLen at hq2;omega
 clear h sm
 go_enter Tryz.func137,Tryz.ntmps137
 refine' zq149
 have l1:=r1.lt
 obtain ⟨c0,c1,c2,c3,c4,c5,c6⟩:=r1.nd
 go_wp2_with fail
 go_loopw[8] (fun i wr=>∃k:Nat,k≤n.eqs.length∧i= .int .i64 k∧Hid (∀j,j<k→∀c,n.eqs[j]? =some c→EqnRt c)∧Below W1.heap.size W1 wr) (fun i _=>n.eqs.length-(intOf i).toNat)
 case atStart=>exact ⟨0,Nat.zero_le _,rfl,fun j h=>absurd h (by omega),Below.refl _ _⟩
 case round=>
  refine' zq165
  clear c0 c1 c2 c3 c4 c5 c6
  by_cases hlt:k<n.eqs.length
  ·obtain ⟨b,off,q,A1,k1,A2,k2,haq,hb,hq,ok,lq1,mq1,sl1,lq2,mq2,sl2,d0,d1,d2,d3,d4,d5,d6,d7,d8⟩:=(eqs_keep H.out.sq (keeps_of (hbr.mono hs1)) (Nat.le_refl _)).eqn hlt
   have HX:=Lib.hid hq
   have HO:=Lib.hid ok
   have HS1:=Lib.hid sl1
   have HS2:=Lib.hid sl2
   have hsmq:=Lib.hid (HSM.out.eq q (List.mem_of_getElem? hq)).right
   have HAQ:=Lib.hid haq
   rw[haq]
   clear hq ok sl1 sl2 haq
   have ba:Below wr.heap.size wr (wr.alloc (.cells (eqArr q A1 k1 A2 k2) 65)):=(Below.refl _ _).alloc (Nat.le_refl _) _
   go_wp2_with fail
   refine (equation_any q A1 k1 A2 k2 _ HO.out hsmq.out lq1 mq1 (strs_keep HS1.out (keeps_of (ba.mono (by omega))) (by simp;omega)) lq2 mq2 (exs_keep HS2.out (keeps_of (ba.mono (by omega))) (by simp;omega))).mono ?_
   refine' zq170
   by_cases hP:EqnRt q
   ·have HN':=Lib.hid (step_upto (P:=EqnRt) HN.out HX.out hP)
    rw[cB_true hP]
    refine' zq65
   ·have HF:Hid (cB (NdRt n)=false):=cB_false (fun g=>hP (g.1 q (List.mem_of_getElem? HX.out)))
    rw[cB_false hP]
    refine' zq124
  ·obtain rfl:k=n.eqs.length:=by omega
   have HA:Hid (∀q∈n.eqs,EqnRt q):=mem_upto HN.out
   obtain ⟨d0,d1,d2,d3,d4,d5,d6⟩:=rr.nd
   go_wp2_with fail
   refine (name_any n.name _ hnm).mono ?_
   rintro e w2 ⟨rfl,hb2⟩
   have r2:=rr.below hb2 rr.lt
   have b2:=hB.trans (hb2.mono (by omega))
   have hs2:=b2.size
   clear d0 d1 d2 d3 d4 d5 d6
   obtain ⟨d0,d1,d2,d3,d4,d5,d6⟩:=r2.nd
   by_cases hP:nameB n.name.toList=true
   rotate_left 1
   ·have HF:Hid (cB (NdRt n)=false):=cB_false (fun g=>hP g.2.1)
    rw[bool_no hP]
    clear hP
    refine' zq70
   have HP:=Lib.hid hP
   rw[hP]
   clear hP
   by_cases e1:n.eqs.length<1
   ·have e1':decide ((n.eqs.length:Int)<1)=true:=dec_yes (by omega)
    have HF:Hid (cB (NdRt n)=false):=cB_false (fun g=>by have:=g.2.2.1;omega)
    refine' zq70
   have e1':decide ((n.eqs.length:Int)<1)=false:=dec_no (by omega)
   by_cases e2:48<n.eqs.length
   ·have e2':decide ((48:Int)<(n.eqs.length:Int))=true:=dec_yes (by omega)
    have HF:Hid (cB (NdRt n)=false):=cB_false (fun g=>by have:=g.2.2.2.1;omega)
    refine' zq70
   have e2':decide ((48:Int)<(n.eqs.length:Int))=false:=dec_no (by omega)
   go_wp2_with fail
   refine (many_any n.ins a.ai a.ci 1 8 w2 H.out.li H.out.mi (vrs_keep H.out.si (keeps_of ((hbr.mono hs1).trans (hb2.mono (by omega)))) hs2)).mono ?_
   rintro e w3 ⟨rfl,hb3⟩
   have r3:=r2.below hb3 r2.lt
   have b3:=b2.trans (hb3.mono hs2)
   have hs3:=b3.size
   clear d0 d1 d2 d3 d4 d5 d6
   obtain ⟨d0,d1,d2,d3,d4,d5,d6⟩:=r3.nd
   by_cases h1:VrsRt n.ins 1 8
   rotate_left 1
   ·have HF:Hid (cB (NdRt n)=false):=cB_false (fun g=>h1 g.2.2.2.2.1)
    rw[cB_false h1]
    clear h1
    go_wp2_with fail
    go_ret
    exact ⟨ret_bool HF.out.symm,b3⟩
   have H1:=Lib.hid h1
   rw[cB_true h1]
   clear h1
   go_wp2_with fail
   refine (many_any n.outs a.ao a.co 1 8 w3 H.out.lo H.out.mo (vrs_keep H.out.so (keeps_of (((hbr.mono hs1).trans (hb2.mono (by omega))).trans (hb3.mono hs2))) hs3)).mono ?_
   rintro e w4 ⟨rfl,hb4⟩
   have r4:=r3.below hb4 r3.lt
   have b4:=b3.trans (hb4.mono hs3)
   have hs4:=b4.size
   clear d0 d1 d2 d3 d4 d5 d6
   obtain ⟨d0,d1,d2,d3,d4,d5,d6⟩:=r4.nd
   by_cases h1:VrsRt n.outs 1 8
   rotate_left 1
   ·have HF:Hid (cB (NdRt n)=false):=cB_false (fun g=>h1 g.2.2.2.2.2.1)
    rw[cB_false h1]
    clear h1
    go_wp2_with fail
    go_ret
    exact ⟨ret_bool HF.out.symm,b4⟩
   have H2:=Lib.hid h1
   rw[cB_true h1]
   clear h1
   go_wp2_with fail
   refine (many_any n.vars a.av a.cv 0 40 w4 H.out.lv H.out.mv (vrs_keep H.out.sv (keeps_of ((((hbr.mono hs1).trans (hb2.mono (by omega))).trans (hb3.mono hs2)).trans (hb4.mono hs3))) hs4)).mono ?_
   rintro e w5 ⟨rfl,hb5⟩
   have b5:=b4.trans (hb5.mono hs4)
   by_cases h1:VrsRt n.vars 0 40
   ·have HF:Hid (cB (NdRt n)=true):=cB_true ⟨HA.out,HP.out,by omega,by omega,H1.out,H2.out,h1⟩
    rw[cB_true h1]
    clear h1
    go_wp2_with fail
    go_ret
    exact ⟨ret_bool HF.out.symm,b5⟩
   ·have HF:Hid (cB (NdRt n)=false):=cB_false (fun g=>h1 g.2.2.2.2.2.2)
    rw[cB_false h1]
    clear h1
    go_wp2_with fail
    go_ret
    exact ⟨ret_bool HF.out.symm,b5⟩
theorem Row.src {W:World} {b:Nat} {x0:Value} {t:TypeId} (h:Row W b #[x0] t):W.cell? ⟨b,0,none⟩=some x0:=(h.cell 0).trans rfl
theorem source_any (s:List Nd) (A:Option Addr) (cap:Nat) (w:World) (sm:SrcSm s) (h1:s.length≤cap) (h2:cap≤maxLen) (h:Nds w w.heap.size A s):
  Calls Tryz.prog 90 #[srcV s A cap] w fun e w'=>e= .returned (.bool (cB (SrcRt s)))∧Below w.heap.size w w':=by
 have r1:=Row.new w #[.slice A s.length cap] 24
 have b1:Below w.heap.size w (w.alloc (.cells #[.slice A s.length cap] 24)):=(Below.refl _ _).alloc (Nat.le_refl _) _
 have HS:=Lib.hid (nds_keep h (keeps_of b1) (Nat.le_refl _))
 have HSM:=Lib.hid sm
 have g3:cap≤9223372036854775807:=by unfold maxLen at h2;omega
 clear h sm
 go_enter Tryz.func90,Tryz.ntmps90
 go_upto_region 1 with (fail)
 generalize w.alloc (.cells #[.slice A s.length cap] 24)=W1 at*
 have hs1:=b1.size
 have l1:=r1.lt
 have c0:=r1.src
 go_wp2_with fail
 go_loopw[8] (fun i wr=>∃k:Nat,k≤s.length∧i= .int .i64 k∧Hid (∀j,j<k→∀c,s[j]? =some c→NdRt c)∧Below W1.heap.size W1 wr) (fun i _=>s.length-(intOf i).toNat)
 case atStart=>exact ⟨0,Nat.zero_le _,rfl,fun j h=>absurd h (by omega),Below.refl _ _⟩
 case round=>
  refine' zq165
  clear c0
  by_cases hlt:k<s.length
  ·obtain ⟨b,off,n,a,rfl,hb,hn,hat,d0,d1,d2,d3,d4,d5,d6⟩:=(nds_keep HS.out (keeps_of (hbr.mono hs1)) (Nat.le_refl _)).nd hlt
   have HX:=Lib.hid hn
   have hsm:=Lib.hid (HSM.out.all n (List.mem_of_getElem? hn))
   have HAT:=Lib.hid hat
   clear hn hat
   have ba:Below wr.heap.size wr (wr.alloc (.cells (ndArr n a) 58)):=(Below.refl _ _).alloc (Nat.le_refl _) _
   go_wp2_with fail
   refine (node_any n a _ hsm.out (HAT.out.keep (keeps_of (ba.mono (by omega))) (by simp;omega))).mono ?_
   refine' zq170
   by_cases hP:NdRt n
   ·have HN':=Lib.hid (step_upto (P:=NdRt) HN.out HX.out hP)
    rw[cB_true hP]
    refine' zq65
   ·have HF:Hid (cB (SrcRt s)=false):=cB_false (fun g=>hP (g.1 n (List.mem_of_getElem? HX.out)))
    rw[cB_false hP]
    refine' zq124
  ·obtain rfl:k=s.length:=by omega
   have HA:Hid (∀n∈s,NdRt n):=mem_upto HN.out
   have d0:=rr.src
   by_cases e1:1≤s.length
   ·have e1':decide ((1:Int)≤(s.length:Int))=true:=dec_yes (by omega)
    by_cases e2:s.length≤16
    ·have e2':decide ((s.length:Int)≤16)=true:=dec_yes (by omega)
     have HF:Hid (cB (SrcRt s)=true):=cB_true ⟨HA.out,e1,e2⟩
     refine' zq86
    ·have e2':decide ((s.length:Int)≤16)=false:=dec_no (by omega)
     have HF:Hid (cB (SrcRt s)=false):=cB_false (fun g=>e2 g.2.2)
     refine' zq86
   ·have e1':decide ((1:Int)≤(s.length:Int))=false:=dec_no (by omega)
    have HF:Hid (cB (SrcRt s)=false):=cB_false (fun g=>e1 g.2.1)
    refine' zq86
open Go.RowKit
attribute [local go_sem ↓] Go.wp_at_zero Go.wp_at_succ
abbrev ftC (f:Ft):Array Value:= #[.int .i64 f.err,.int .i64 f.line,.int .i64 f.col]
abbrev ftC0:Array Value:= #[.int .i64 0,.int .i64 0,.int .i64 0]
theorem fault_any (e l c:Int) (w:World):
  Calls Tryz.prog 91 #[.int .i64 e,.agg #[.int .i64 l,.int .i64 c]] w fun r w'=>r= .returned (ftV ⟨e,l,c⟩)∧Below w.heap.size w w':=by
 go_enter Tryz.func91,Tryz.ntmps91
 go_wp2_with fail
 exact bodyPost_ret (v:=ftV ⟨e,l,c⟩) (by simp[results,Tryz.results91,go_sem]) rfl ⟨rfl,bE⟩
section
variable {B b:Nat} {a w:World}
theorem below_set3 (h:Below B a w) (hb:B≤b) (y0 y1 y2:Value):Below B a (((w.setCell ⟨b,0,none⟩ y0).setCell ⟨b,1,none⟩ y1).setCell ⟨b,2,none⟩ y2):=
 ((h.setCell (p:=⟨b,0,none⟩) hb y0).setCell (p:=⟨b,1,none⟩) hb y1).setCell (p:=⟨b,2,none⟩) hb y2
theorem below_set5 (h:Below B a w) (hb:B≤b) (y0 y1 y2 y3 y4:Value):Below B a (((((w.setCell ⟨b,0,none⟩ y0).setCell ⟨b,1,none⟩ y1).setCell ⟨b,2,none⟩ y2).setCell ⟨b,3,none⟩ y3).setCell ⟨b,4,none⟩ y4):=
 ((below_set3 h hb y0 y1 y2).setCell (p:=⟨b,3,none⟩) hb y3).setCell (p:=⟨b,4,none⟩) hb y4
theorem below_set7 (h:Below B a w) (hb:B≤b) (y0 y1 y2 y3 y4 y5 y6:Value):Below B a (((((((w.setCell ⟨b,0,none⟩ y0).setCell ⟨b,1,none⟩ y1).setCell ⟨b,2,none⟩ y2).setCell ⟨b,3,none⟩ y3).setCell ⟨b,4,none⟩ y4).setCell ⟨b,5,none⟩ y5).setCell ⟨b,6,none⟩ y6):=
 ((below_set5 h hb y0 y1 y2 y3 y4).setCell (p:=⟨b,5,none⟩) hb y5).setCell (p:=⟨b,6,none⟩) hb y6
end
section
variable {W:World} {b g:Nat} {cs:Array Value} {t:TypeId}
theorem Row.far3 (h:Row W b cs t) (hne:b≠g) (y0 y1 y2:Value):Row (((W.setCell ⟨g,0,none⟩ y0).setCell ⟨g,1,none⟩ y1).setCell ⟨g,2,none⟩ y2) b cs t:=
 ((h.far (p:=⟨g,0,none⟩) hne y0).far (p:=⟨g,1,none⟩) hne y1).far (p:=⟨g,2,none⟩) hne y2
theorem Row.far5 (h:Row W b cs t) (hne:b≠g) (y0 y1 y2 y3 y4:Value):Row (((((W.setCell ⟨g,0,none⟩ y0).setCell ⟨g,1,none⟩ y1).setCell ⟨g,2,none⟩ y2).setCell ⟨g,3,none⟩ y3).setCell ⟨g,4,none⟩ y4) b cs t:=
 ((h.far3 hne y0 y1 y2).far (p:=⟨g,3,none⟩) hne y3).far (p:=⟨g,4,none⟩) hne y4
theorem Row.far7 (h:Row W b cs t) (hne:b≠g) (y0 y1 y2 y3 y4 y5 y6:Value):Row (((((((W.setCell ⟨g,0,none⟩ y0).setCell ⟨g,1,none⟩ y1).setCell ⟨g,2,none⟩ y2).setCell ⟨g,3,none⟩ y3).setCell ⟨g,4,none⟩ y4).setCell ⟨g,5,none⟩ y5).setCell ⟨g,6,none⟩ y6) b cs t:=
 ((h.far5 hne y0 y1 y2 y3 y4).far (p:=⟨g,5,none⟩) hne y5).far (p:=⟨g,6,none⟩) hne y6
end
abbrev exA (e:Ex) (A:Option Addr) (cap:Nat):Array Value:= #[.int .i64 e.op,.string e.name,.int .i64 e.n,.slice A e.args.length cap,.int .i64 e.line,.int .i64 e.col]
theorem Row.ex6 {W:World} {b:Nat} {e:Ex} {A:Option Addr} {cap:Nat} {t:TypeId} (h:Row W b (exA e A cap) t):W.cell? ⟨b,0,none⟩=some (.int .i64 e.op)∧W.cell? ⟨b,1,none⟩=some (.string e.name)∧W.cell? ⟨b,2,none⟩=some (.int .i64 e.n)∧
  W.cell? ⟨b,3,none⟩=some (.slice A e.args.length cap)∧W.cell? ⟨b,4,none⟩=some (.int .i64 e.line)∧W.cell? ⟨b,5,none⟩=some (.int .i64 e.col):=
 ⟨(h.cell 0).trans rfl,(h.cell 1).trans rfl,(h.cell 2).trans rfl,(h.cell 3).trans rfl,(h.cell 4).trans rfl,(h.cell 5).trans rfl⟩
theorem rowNewD (W:World) (o o' o'':Obj) (cs:Array Value) (t:TypeId):Row ((((W.alloc o).alloc o').alloc o'').alloc (.cells cs t)) (W.heap.size+3) cs t:=by
 have:=Row.new (((W.alloc o).alloc o').alloc o'') cs t
 rwa [World.size_alloc,World.size_alloc,World.size_alloc] at this
abbrev nd0:Nd:=⟨⟨#[]⟩,[],[],[],[],0,0⟩
abbrev nda0:NdA:=⟨none,0,none,0,none,0,none,0⟩
abbrev ndZ:Array Value:= #[.string ⟨#[]⟩,.slice none 0 0,.slice none 0 0,.slice none 0 0,.slice none 0 0,.int .i64 0,.int .i64 0]
theorem nodeAt_at {s:List Nd} {nm:ByteArray} {k:Nat} {n:Nd} (h:∀j,j<k→∀x,s[j]? =some x→x.name≠nm) (hk:s[k]? =some n) (he:n.name=nm):nodeAt s nm=some n:=by
 obtain ⟨hl,hm⟩:=List.getElem?_eq_some_iff.1 hk
 unfold nodeAt
 rw[List.find?_eq_some_iff_getElem]
 refine ⟨by simpa using he,k,hl,hm,fun j hj=>?_⟩
 have:=h j hj _ (List.getElem?_eq_getElem (by omega))
 simpa using this
theorem nodeAt_mem {s:List Nd} {nm:ByteArray} {n:Nd} (h:nodeAt s nm=some n):n∈s∧n.name=nm:=by
 unfold nodeAt at h
 exact ⟨List.mem_of_find?_eq_some h,by simpa using List.find?_some h⟩
theorem nodeAt_none {s:List Nd} {nm:ByteArray}:nodeAt s nm=none↔nm∉s.map Nd.name:=by
 unfold nodeAt
 rw[List.find?_eq_none]
 constructor
 ·intro h hm
  obtain ⟨n,hn,he⟩:=List.mem_map.1 hm
  have:=h n hn
  simp at this
  exact this he
 ·intro h n hn he
  have:n.name=nm:=by simpa using he
  exact h (by rw[←this];exact List.mem_map_of_mem hn)
def FindRes (s:List Nd) (nm:ByteArray) (w:World) (e:Ending) (w':World):Prop:=
 (∃(n:Nd) (a:NdA),e= .returned (.tuple #[ndV n a,.bool (cB (nm∈s.map Nd.name))])∧Hid (nm∈s.map Nd.name→nodeAt s nm=some n∧NdAt w' w.heap.size n a)∧Hid (nm∉s.map Nd.name→n=nd0∧a=nda0))∧Below w.heap.size w w'
theorem find_any (s:List Nd) (m:Nat) (A:Option Addr) (cap:Nat) (nm:ByteArray) (w:World) (hm:s.length=m) (h1:m≤cap) (h2:cap≤maxLen) (h:Nds w w.heap.size A s):
  Calls Tryz.prog 37 #[.agg #[.slice A m cap],.string nm] w (FindRes s nm w):=by
 refine' zq81
 have b1:Below w.heap.size w ((w.alloc (.cells #[.slice A s.length cap] 24)).alloc (.cells ndZ 58)):=bE
 have HS:=Lib.hid (nds_keep h (keeps_of b1) (Nat.le_refl _))
 refine' zq36
 go_loopw[11] (fun i wr=>∃k:Nat,k≤s.length∧i= .int .i64 k∧Hid (∀j,j<k→∀x,s[j]? =some x→x.name≠nm)∧Below W1.heap.size W1 wr) (fun i _=>s.length-(intOf i).toNat)
 case atStart=>exact ⟨0,Nat.zero_le _,rfl,fun j h=>absurd h (by omega),Below.refl _ _⟩
 case round=>
  refine' zq94
  by_cases hlt:k<s.length
  ·obtain ⟨b,off,n,a,rfl,hb,hn,hat,d0,d1,d2,d3,d4,d5,d6⟩:=(nds_keep HS.out (keeps_of (hbr.mono hs1)) (Nat.le_refl _)).nd hlt
   have HX:=Lib.hid hn
   have HAT:=Lib.hid hat
   clear hn hat
   by_cases e:n.name=nm
   ·refine' zq13
    exact bodyPost_ret (v:= .tuple #[ndV n a,.bool true]) (res2 rfl Tryz.underlying58 rfl (by kernel_rfl) rfl rfl ((rr.set7 _ _ _ _ _ _ _).alloc _)) rfl ⟨⟨n,a,HQ.out,fun _=>⟨HF.out,HAT.out.below bb⟩,fun g=>absurd HM.out g⟩,hB.trans bb⟩
   ·refine' zq119
  ·refine' zq16
def MetIs (w:World) (b:Nat) (l:List ByteArray):Prop:=
 ∃(n:Nat) (D:DataW Unit),w.ownsMap Tryz.prog 9 (plainElem Tryz.prog 3) b n D∧n≤l.length∧Maps.IsMap D∧
  ∀nm:ByteArray,(nm∈l→D.atKey (.string nm.data.toList) (.lit (.int .i64 0))= .lit (.int .i64 1))∧(nm∉l→D.atKey (.string nm.data.toList) (.lit (.int .i64 0))= .lit (.int .i64 0))
theorem str_key {a b:ByteArray} (h:(Lit.string a.data.toList)= .string b.data.toList):a=b:=by
 injection h with h
 exact WideShapes.bytes_inj h
section
variable {w w':World} {b:Nat} {l:List ByteArray}
theorem MetIs.lt (h:MetIs w b l):b<w.heap.size:=by
 obtain ⟨n,D,h1,_⟩:=h
 exact h1.lt
theorem MetIs.keep (h:MetIs w b l) (hk:w'.heap[b]? =w.heap[b]?):MetIs w' b l:=by
 obtain ⟨n,D,⟨es,clock,h0,h1⟩,h2,h3⟩:=h
 exact ⟨n,D,⟨es,clock,hk.trans h0,h1⟩,h2,h3⟩
theorem MetIs.below (h:MetIs w b l) (hb:Below w.heap.size w w'):MetIs w' b l:=h.keep (hb.block b h.lt)
theorem MetIs.alloc (h:MetIs w b l) (o:Obj):MetIs (w.alloc o) b l:=h.below ((Below.refl _ _).alloc (Nat.le_refl _) _)
theorem MetIs.set (h:MetIs w b l) {p:Addr} (hp:b≠p.block) (u:Value):MetIs (w.setCell p u) b l:=h.keep (Below.heap_setCell w p u b hp)
theorem met_made (w:World):MetIs (w.alloc (.map #[] 0)) w.heap.size []:=
 ⟨0,.map [],World.ownsMap_made w _ _ _,Nat.le_refl _,⟨[],rfl⟩,fun nm=>⟨fun h=>absurd h (by simp),fun _=>rfl⟩⟩
theorem zero_int (w:World):(zeroValue 3).run Tryz.prog w= .ok (.int .i64 0) w:=by kernel_rfl
theorem MetIs.look (h:MetIs w b l) {nm:ByteArray} (hs:nm.size≤maxLen):(nm∈l→(Instr.lookup 85 (.map (some b)) (.string nm) false).run Tryz.prog w= .ok (.int .i64 1) w)∧(nm∉l→(Instr.lookup 85 (.map (some b)) (.string nm) false).run Tryz.prog w= .ok (.int .i64 0) w):=by
 obtain ⟨n,D,h1,h2,h3,h4⟩:=h
 obtain ⟨c,hr,ha,_⟩:=h1.lookup_int (Maps.string_keyed Tryz.underlying9) Tryz.underlying85 Tryz.underlying3 (zero_int w) (_root_.Go.WideMaps.keyOf_string_mk Tryz.underlying9 hs)
 constructor
 ·intro g
  rw[(h4 nm).1 g] at ha
  refine' zq103
 ·intro g
  rw[(h4 nm).2 g] at ha
  refine' zq103
theorem MetIs.put (h:MetIs w b l) {nm:ByteArray} (hs:nm.size≤maxLen) (hn:l.length<1000000):∃w',(Instr.mapUpdate 85 (.map (some b)) (.string nm) (.int .i64 1)).run Tryz.prog w= .ok () w'∧MetIs w' b (l++ [nm])∧w.grownBy w' (some b):=by
 obtain ⟨n,D,h1,h2,h3,h4⟩:=h
 obtain ⟨w',hr,ho,hg⟩:=h1.update (Maps.string_keyed Tryz.underlying9) Tryz.underlying85 (by unfold maxLen;omega) (_root_.Go.WideMaps.keyOf_string_mk Tryz.underlying9 hs) (plainElem_int (a:=1) Tryz.underlying3 (by decide))
 refine ⟨w',hr,⟨n+1,_,ho,by simp;omega,h3.put _ _,fun x=>?_⟩,hg⟩
 by_cases e:x=nm
 ·subst e
  refine ⟨fun _=>Maps.atKey_put_same h3 (by trivial) _ _,fun g=>absurd (by simp) g⟩
 ·have hne:(Lit.string x.data.toList)≠ .string nm.data.toList:=fun g=>e (str_key g)
  rw[Maps.atKey_put_other hne]
  constructor
  ·intro g
   exact (h4 x).1 ((List.mem_append.1 g).resolve_right (by simpa using e))
  ·intro g
   exact (h4 x).2 (fun g'=>g (List.mem_append_left _ g'))
end
theorem wpList_met {w:World} {ops:Array Oper} {rest:List Oper} {o:Oper} {a:Act} {Q:Exit→Act→World→Prop} (hg:o.guard=none) (m x v:Operand) (hop:o.op=Op.mapUpdate 85 m x v)
  (b:Nat) (l:List ByteArray) (hm:a.eval m= .map (some b)) (h:MetIs w b l) (hn:l.length<1000000) (nm:ByteArray) (hx:a.eval x= .string nm) (hs:nm.size≤maxLen) (hv:a.eval v= .int .i64 1)
  (hK:∀w',MetIs w' b (l++ [nm])→w.grownBy w' (some b)→wpList Tryz.prog ops Q rest (a.put o.dst undef) w'):wpList Tryz.prog ops Q (o::rest) a w:=by
 refine wpList_plain hg fun K' hK'=>?_
 obtain ⟨w',hrun,r1,r2⟩:=h.put hs hn
 unfold Oper.wp
 refine' zq158
end Go.Proofs.YtdkgkacnjdnpoaaGreat
