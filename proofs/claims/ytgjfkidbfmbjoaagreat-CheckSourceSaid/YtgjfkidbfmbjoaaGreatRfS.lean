/-
  Which variables, equations, nodes and sources are right: the contracts of package tree. Which variables, nodes and sources are right, by the document: the contracts of tompionref12.
-/
import Derived.Test.YtgjfkidbfmbjoaaGreatZz
import Derived.Test.YtgjfkidbfmbjoaaGreatScP
import Derived.Test.YtgjfkidbfmbjoaaGreatFewM
import Derived.Test.YtgjfkidbfmbjoaaGreatTreeRight
set_option maxHeartbeats 8000000
set_option maxRecDepth 100000
namespace Go.Proofs.YtgjfkidbfmbjoaaGreat
open Go.RowKit Nm
theorem bool_no {b:Bool} (h:¬b=true):b=false:=by simpa using h
theorem dec_yes {p:Prop} [Decidable p] (h:p):decide p=true:=decide_eq_true h
theorem dec_no {p:Prop} [Decidable p] (h:¬p):decide p=false:=decide_eq_false h
theorem eq_yes {a b:Int} (h:a=b):(a==b)=true:=by rw[beq_iff_eq];exact h
theorem eq_no {a b:Int} (h:a≠b):(a==b)=false:=by rw[beq_eq_false_iff_ne];exact h
theorem neq_no {a b:Int} (h:a=b):(a !=b)=false:=by simp[h]
theorem neq_yes {a b:Int} (h:a≠b):(a !=b)=true:=by simp[h]
abbrev eqV (q:Eqn) (A1:Option Addr) (c1:Nat) (A2:Option Addr) (c2:Nat):Value:= .agg (eqArr q A1 c1 A2 c2)
theorem variable_any (x:Vr) (A:Option Addr) (cap:Nat) (w:World) (ok:VrOk x) (h1:x.clock.length≤cap) (h2:cap≤maxLen) (h:Sl w w.heap.size 2 isLit A x.clock):
  Calls Tryz.prog 300 #[vrV x A cap] w fun e w'=>e= .returned (.bool (cB (VrRt x)))∧Below w.heap.size w w':=by
 have r1:=Row.new w (vrArr x A cap) 89
 have b1:Below w.heap.size w (w.alloc (.cells (vrArr x A cap) 89)):=(Below.refl _ _).alloc (Nat.le_refl _) _
 have HS:=Lib.hid (lits_keep h (keeps_of b1) (Nat.le_refl _))
 refine' zq214
 have hnm:=ok.name
 clear h ok
 go_enter Tryz.func300,Tryz.ntmps300
 go_upto_region 1 with (fail)
 generalize w.alloc (.cells (vrArr x A cap) 89)=W1 at*
 have hs1:=b1.size
 have l1:=r1.lt
 obtain ⟨c0,c1,c2,c3,c4⟩:=r1.vr
 go_wp2_with fail
 go_loopw[8] (fun i wr=>∃k:Nat,k≤x.clock.length∧i= .int .i64 k∧Hid (∀j,j<k→∀c,x.clock[j]? =some c→nameB c.name.toList=true)∧Below W1.heap.size W1 wr) (fun i _=>x.clock.length-(intOf i).toNat)
 case atStart=>exact ⟨0,Nat.zero_le _,rfl,fun j h=>absurd h (by omega),Below.refl _ _⟩
 case round=>
  refine' zq190
  clear c0 c1 c2 c3 c4
  by_cases hlt:k<x.clock.length
  ·obtain ⟨b,off,y,rfl,hb,hy,ys,d0,d1⟩:=(lits_keep HS.out (keeps_of (hbr.mono hs1)) (Nat.le_refl _)).lit hlt
   have HY:=Lib.hid hy
   clear hy
   have ba:Below W1.heap.size W1 (wr.alloc (.cells #[.string y.name,.bool y.no] 158)):=hbr.alloc hszr _
   go_wp2_with fail
   refine (name_any y.name _ ys).mono ?_
   rintro e w2 ⟨rfl,hb2⟩
   have b2:=ba.trans (hb2.mono (by simp;omega))
   by_cases hP:nameB y.name.toList=true
   ·have HN':=Lib.hid (step_upto (P:=fun c:Lt=>nameB c.name.toList=true) HN.out HY.out hP)
    rw[hP]
    refine' zq88
   ·have HF:Hid (cB (VrRt x)=false):=cB_false (fun g=>hP (g.1 y (List.mem_of_getElem? HY.out)))
    rw[bool_no hP]
    refine' zq191
  ·obtain rfl:k=x.clock.length:=by omega
   have HA:Hid (∀c∈x.clock,nameB c.name.toList=true):=mem_upto HN.out
   obtain ⟨d0,d1,d2,d3,d4⟩:=rr.vr
   go_wp2_with fail
   refine (name_any x.name _ hnm).mono ?_
   rintro e w2 ⟨rfl,hb2⟩
   have r2:=rr.below hb2 rr.lt
   have b2:=hB.trans (hb2.mono (by omega))
   clear d0 d1 d2 d3 d4
   obtain ⟨d0,d1,d2,d3,d4⟩:=r2.vr
   by_cases hP:nameB x.name.toList=true
   rotate_left 1
   ·have HF:Hid (cB (VrRt x)=false):=cB_false (fun g=>hP g.2.1)
    rw[bool_no hP]
    clear hP
    refine' zq113
   have HP:=Lib.hid hP
   rw[hP]
   clear hP
   by_cases t:x.ty=1∨x.ty=2
   rotate_left 1
   ·have HF:Hid (cB (VrRt x)=false):=cB_false (fun g=>t g.2.2.1)
    have e1:(x.ty==1)=false:=eq_no (fun g=>t (.inl g))
    have e2:(x.ty==2)=false:=eq_no (fun g=>t (.inr g))
    clear t
    refine' zq113
   have HT:=Lib.hid t
   have e12:(x.ty==1)=true∨((x.ty==1)=false∧(x.ty==2)=true):=by
    by_cases e:x.ty=1
    ·exact .inl (eq_yes e)
    ·exact .inr ⟨eq_no e,eq_yes (t.resolve_left e)⟩
   clear t
   by_cases hl:x.clock.length≤4
   ·have HF:Hid (cB (VrRt x)=true):=cB_true ⟨HA.out,HP.out,HT.out,hl⟩
    have e3:decide ((x.clock.length:Int)≤4)=true:=dec_yes (by omega)
    rcases e12 with e1|⟨e1,e2⟩
    all_goals
     refine' zq113
   ·have HF:Hid (cB (VrRt x)=false):=cB_false (fun g=>hl g.2.2.2)
    have e3:decide ((x.clock.length:Int)≤4)=false:=dec_no (by omega)
    rcases e12 with e1|⟨e1,e2⟩
    all_goals
     refine' zq113
theorem many_any (l:List Vr) (A:Option Addr) (cap:Nat) (lo hi:Int) (w:World) (h1:l.length≤cap) (h2:cap≤maxLen) (h:Vrs w w.heap.size A l):
  Calls Tryz.prog 257 #[.slice A l.length cap,.int .i64 lo,.int .i64 hi] w fun e w'=>e= .returned (.bool (cB (VrsRt l lo hi)))∧Below w.heap.size w w':=by
 have HS:=Lib.hid h
 refine' zq214
 clear h
 go_enter Tryz.func257,Tryz.ntmps257
 go_wp2_with fail
 go_loopw[11] (fun i wr=>∃k:Nat,k≤l.length∧i= .int .i64 k∧Hid (∀j,j<k→∀v,l[j]? =some v→VrRt v)∧Below w.heap.size w wr) (fun i _=>l.length-(intOf i).toNat)
 case atStart=>exact ⟨0,Nat.zero_le _,rfl,fun j h=>absurd h (by omega),Below.refl _ _⟩
 case round=>
  refine' zq56
  by_cases hlt:k<l.length
  ·refine' zq147
   have ba:Below wr.heap.size wr (wr.alloc (.cells (vrArr x A' cap') 89)):=(Below.refl _ _).alloc (Nat.le_refl _) _
   clear hx hsl
   go_wp2_with fail
   refine (variable_any x A' cap' _ ok g1 g2 (lits_keep HSL.out (keeps_of (ba.mono hszr)) (by simp;omega))).mono ?_
   refine' zq250
   by_cases hP:VrRt x
   ·have HN':=Lib.hid (step_upto (P:=VrRt) HN.out HX.out hP)
    rw[cB_true hP]
    refine' zq88
   ·have HF:Hid (cB (VrsRt l lo hi)=false):=cB_false (fun g=>hP (g.1 x (List.mem_of_getElem? HX.out)))
    rw[cB_false hP]
    clear hP
    refine' zq113
  ·refine' zq59
theorem equation_any (q:Eqn) (A1:Option Addr) (k1:Nat) (A2:Option Addr) (k2:Nat) (w:World) (ok:EqnOk q) (sm:Small q.right) (h1:q.left.length≤k1) (m1:k1≤maxLen) (s1:Sl w w.heap.size 1 isStr A1 q.left) (h2:q.right.args.length≤k2) (m2:k2≤maxLen) (s2:IsExs w w.heap.size A2 q.right.args):
  Calls Tryz.prog 255 #[eqV q A1 k1 A2 k2] w fun e w'=>e= .returned (.bool (cB (EqnRt q)))∧Below w.heap.size w w':=by
 have r1:=Row.new w (eqArr q A1 k1 A2 k2) 81
 have b1:Below w.heap.size w (w.alloc (.cells (eqArr q A1 k1 A2 k2) 81)):=(Below.refl _ _).alloc (Nat.le_refl _) _
 have HS:=Lib.hid (strs_keep s1 (keeps_of b1) (Nat.le_refl _))
 have HE:=Lib.hid (exs_keep s2 (keeps_of b1) (Nat.le_refl _))
 have HSM:=Lib.hid sm
 have HOK:=Lib.hid ok
 have g3:k1≤9223372036854775807:=by unfold maxLen at m1;omega
 clear s1 s2 sm ok
 go_enter Tryz.func255,Tryz.ntmps255
 go_upto_region 1 with (fail)
 generalize w.alloc (.cells (eqArr q A1 k1 A2 k2) 81)=W1 at*
 have hs1:=b1.size
 have l1:=r1.lt
 obtain ⟨c0,c1,c2,c3,c4,c5,c6,c7,c8⟩:=r1.eqn
 go_wp2_with fail
 go_loopw[8] (fun i wr=>∃k:Nat,k≤q.left.length∧i= .int .i64 k∧Hid (∀j,j<k→∀c,q.left[j]? =some c→nameB c.toList=true)∧Below W1.heap.size W1 wr) (fun i _=>q.left.length-(intOf i).toNat)
 case atStart=>exact ⟨0,Nat.zero_le _,rfl,fun j h=>absurd h (by omega),Below.refl _ _⟩
 case round=>
  refine' zq190
  clear c0 c1 c2 c3 c4 c5 c6 c7 c8
  by_cases hlt:k<q.left.length
  ·obtain ⟨b,off,y,rfl,hb,hy,ys,d0⟩:=(strs_keep HS.out (keeps_of (hbr.mono hs1)) (Nat.le_refl _)).str hlt
   have HY:=Lib.hid hy
   clear hy
   go_wp2_with fail
   refine (name_any y _ ys).mono ?_
   rintro e w2 ⟨rfl,hb2⟩
   have b2:=hbr.trans (hb2.mono hszr)
   by_cases hP:nameB y.toList=true
   ·have HN':=Lib.hid (step_upto (P:=fun c:ByteArray=>nameB c.toList=true) HN.out HY.out hP)
    rw[hP]
    refine' zq88
   ·have HF:Hid (cB (EqnRt q)=false):=cB_false (fun g=>hP (g.1 y (List.mem_of_getElem? HY.out)))
    rw[bool_no hP]
    refine' zq191
  ·obtain rfl:k=q.left.length:=by omega
   have HA:Hid (∀c∈q.left,nameB c.toList=true):=mem_upto HN.out
   obtain ⟨d0,d1,d2,d3,d4,d5,d6,d7,d8⟩:=rr.eqn
   by_cases e1:1≤q.left.length
   rotate_left 1
   ·have e1':decide ((1:Int)≤(q.left.length:Int))=false:=dec_no (by omega)
    have HF:Hid (cB (EqnRt q)=false):=cB_false (fun g=>e1 g.2.1)
    clear e1
    refine' zq76
   have e1':decide ((1:Int)≤(q.left.length:Int))=true:=dec_yes (by omega)
   by_cases e2:q.left.length≤8
   rotate_left 1
   ·have e2':decide ((q.left.length:Int)≤8)=false:=dec_no (by omega)
    have HF:Hid (cB (EqnRt q)=false):=cB_false (fun g=>e2 g.2.2.1)
    clear e2
    refine' zq76
   have e2':decide ((q.left.length:Int)≤8)=true:=dec_yes (by omega)
   go_wp2_with fail
   refine (right_any q.right A2 k2 _ HOK.out.right h2 m2 (exs_keep HE.out (keeps_of (hbr.mono hs1)) (by omega)) (by have:=HSM.out.size;omega)).mono ?_
   rintro e w2 ⟨rfl,hb2⟩
   have b2:=hB.trans (hb2.mono (by omega))
   by_cases hP:exRight q.right=true
   ·have HF:Hid (cB (EqnRt q)=true):=cB_true ⟨HA.out,e1,e2,hP⟩
    rw[hP]
    clear hP
    refine' zq113
   ·have HF:Hid (cB (EqnRt q)=false):=cB_false (fun g=>hP g.2.2.2)
    rw[bool_no hP]
    clear hP
    refine' zq113
theorem node_any (n:Nd) (a:NdA) (w:World) (sm:NdSm n) (h:NdAt w w.heap.size n a):
  Calls Tryz.prog 194 #[ndV n a] w fun e w'=>e= .returned (.bool (cB (NdRt n)))∧Below w.heap.size w w':=by
 have r1:=Row.new w (ndArr n a) 39
 refine' zq111
 have H:=Lib.hid (h.below b1)
 have HSM:=Lib.hid sm
 have hq2:=h.mq
 have hq1:=h.lq
 have hnm:=h.name
 have g3:a.cq≤9223372036854775807:=by unfold maxLen at hq2;omega
 clear h sm
 go_enter Tryz.func194,Tryz.ntmps194
 refine' zq63
 have l1:=r1.lt
 obtain ⟨c0,c1,c2,c3,c4,c5,c6⟩:=r1.nd
 go_wp2_with fail
 go_loopw[8] (fun i wr=>∃k:Nat,k≤n.eqs.length∧i= .int .i64 k∧Hid (∀j,j<k→∀c,n.eqs[j]? =some c→EqnRt c)∧Below W1.heap.size W1 wr) (fun i _=>n.eqs.length-(intOf i).toNat)
 case atStart=>exact ⟨0,Nat.zero_le _,rfl,fun j h=>absurd h (by omega),Below.refl _ _⟩
 case round=>
  refine' zq190
  clear c0 c1 c2 c3 c4 c5 c6
  by_cases hlt:k<n.eqs.length
  ·obtain ⟨b,off,q,A1,k1,A2,k2,haq,hb,hq,ok,lq1,mq1,sl1,lq2,mq2,sl2,d0,d1,d2,d3,d4,d5,d6,d7,d8⟩:=(eqs_keep H.out.sq (keeps_of (hbr.mono hs1)) (Nat.le_refl _)).eqn hlt
   have HX:=Lib.hid hq
   have HO:=Lib.hid ok
   have HS1:=Lib.hid sl1
   have HS2:=Lib.hid sl2
   have hsmq:=Lib.hid (HSM.out.eq q (List.mem_of_getElem? hq)).right
   have HAQ:=Lib.hid haq
   rw[haq]
   clear hq ok sl1 sl2 haq
   have ba:Below wr.heap.size wr (wr.alloc (.cells (eqArr q A1 k1 A2 k2) 81)):=(Below.refl _ _).alloc (Nat.le_refl _) _
   go_wp2_with fail
   refine (equation_any q A1 k1 A2 k2 _ HO.out hsmq.out lq1 mq1 (strs_keep HS1.out (keeps_of (ba.mono (by omega))) (by simp;omega)) lq2 mq2 (exs_keep HS2.out (keeps_of (ba.mono (by omega))) (by simp;omega))).mono ?_
   refine' zq250
   by_cases hP:EqnRt q
   ·have HN':=Lib.hid (step_upto (P:=EqnRt) HN.out HX.out hP)
    rw[cB_true hP]
    refine' zq88
   ·have HF:Hid (cB (NdRt n)=false):=cB_false (fun g=>hP (g.1 q (List.mem_of_getElem? HX.out)))
    rw[cB_false hP]
    refine' zq191
  ·obtain rfl:k=n.eqs.length:=by omega
   have HA:Hid (∀q∈n.eqs,EqnRt q):=mem_upto HN.out
   obtain ⟨d0,d1,d2,d3,d4,d5,d6⟩:=rr.nd
   go_wp2_with fail
   refine (name_any n.name _ hnm).mono ?_
   rintro e w2 ⟨rfl,hb2⟩
   have r2:=rr.below hb2 rr.lt
   have b2:=hB.trans (hb2.mono (by omega))
   have hs2:=b2.size
   clear d0 d1 d2 d3 d4 d5 d6
   obtain ⟨d0,d1,d2,d3,d4,d5,d6⟩:=r2.nd
   by_cases hP:nameB n.name.toList=true
   rotate_left 1
   ·have HF:Hid (cB (NdRt n)=false):=cB_false (fun g=>hP g.2.1)
    rw[bool_no hP]
    clear hP
    refine' zq113
   have HP:=Lib.hid hP
   rw[hP]
   clear hP
   by_cases e1:n.eqs.length<1
   ·have e1':decide ((n.eqs.length:Int)<1)=true:=dec_yes (by omega)
    have HF:Hid (cB (NdRt n)=false):=cB_false (fun g=>by have:=g.2.2.1;omega)
    refine' zq113
   have e1':decide ((n.eqs.length:Int)<1)=false:=dec_no (by omega)
   by_cases e2:48<n.eqs.length
   ·have e2':decide ((48:Int)<(n.eqs.length:Int))=true:=dec_yes (by omega)
    have HF:Hid (cB (NdRt n)=false):=cB_false (fun g=>by have:=g.2.2.2.1;omega)
    refine' zq113
   have e2':decide ((48:Int)<(n.eqs.length:Int))=false:=dec_no (by omega)
   go_wp2_with fail
   refine (many_any n.ins a.ai a.ci 1 8 w2 H.out.li H.out.mi (vrs_keep H.out.si (keeps_of ((hbr.mono hs1).trans (hb2.mono (by omega)))) hs2)).mono ?_
   rintro e w3 ⟨rfl,hb3⟩
   have r3:=r2.below hb3 r2.lt
   have b3:=b2.trans (hb3.mono hs2)
   refine' zq132
   refine (many_any n.outs a.ao a.co 1 8 w3 H.out.lo H.out.mo (vrs_keep H.out.so (keeps_of (((hbr.mono hs1).trans (hb2.mono (by omega))).trans (hb3.mono hs2))) hs3)).mono ?_
   refine' zq102
   refine (many_any n.vars a.av a.cv 0 40 w4 H.out.lv H.out.mv (vrs_keep H.out.sv (keeps_of ((((hbr.mono hs1).trans (hb2.mono (by omega))).trans (hb3.mono hs2)).trans (hb4.mono hs3))) hs4)).mono ?_
   rintro e w5 ⟨rfl,hb5⟩
   have b5:=b4.trans (hb5.mono hs4)
   by_cases h1:VrsRt n.vars 0 40
   ·have HF:Hid (cB (NdRt n)=true):=cB_true ⟨HA.out,HP.out,by omega,by omega,H1.out,H2.out,h1⟩
    rw[cB_true h1]
    clear h1
    go_wp2_with fail
    go_ret
    exact ⟨ret_bool HF.out.symm,b5⟩
   ·have HF:Hid (cB (NdRt n)=false):=cB_false (fun g=>h1 g.2.2.2.2.2.2)
    rw[cB_false h1]
    clear h1
    go_wp2_with fail
    go_ret
    exact ⟨ret_bool HF.out.symm,b5⟩
theorem Row.src {W:World} {b:Nat} {x0:Value} {t:TypeId} (h:Row W b #[x0] t):W.cell? ⟨b,0,none⟩=some x0:=(h.cell 0).trans rfl
theorem source_any (s:List Nd) (A:Option Addr) (cap:Nat) (w:World) (sm:SrcSm s) (h1:s.length≤cap) (h2:cap≤maxLen) (h:Nds w w.heap.size A s):
  Calls Tryz.prog 119 #[srcV s A cap] w fun e w'=>e= .returned (.bool (cB (SrcRt s)))∧Below w.heap.size w w':=by
 refine' zq128
 refine' zq233
 have HSM:=Lib.hid sm
 refine' zq214
 clear h sm
 go_enter Tryz.func119,Tryz.ntmps119
 refine' zq103
 have l1:=r1.lt
 have c0:=r1.src
 go_wp2_with fail
 go_loopw[8] (fun i wr=>∃k:Nat,k≤s.length∧i= .int .i64 k∧Hid (∀j,j<k→∀c,s[j]? =some c→NdRt c)∧Below W1.heap.size W1 wr) (fun i _=>s.length-(intOf i).toNat)
 case atStart=>exact ⟨0,Nat.zero_le _,rfl,fun j h=>absurd h (by omega),Below.refl _ _⟩
 case round=>
  refine' zq190
  clear c0
  by_cases hlt:k<s.length
  ·refine' zq164
   have hsm:=Lib.hid (HSM.out.all n (List.mem_of_getElem? hn))
   have HAT:=Lib.hid hat
   clear hn hat
   have ba:Below wr.heap.size wr (wr.alloc (.cells (ndArr n a) 39)):=(Below.refl _ _).alloc (Nat.le_refl _) _
   go_wp2_with fail
   refine (node_any n a _ hsm.out (HAT.out.keep (keeps_of (ba.mono (by omega))) (by simp;omega))).mono ?_
   refine' zq250
   refine' zq104
  ·obtain rfl:k=s.length:=by omega
   have HA:Hid (∀n∈s,NdRt n):=mem_upto HN.out
   have d0:=rr.src
   by_cases e1:1≤s.length
   ·have e1':decide ((1:Int)≤(s.length:Int))=true:=dec_yes (by omega)
    refine' zq107
   ·have e1':decide ((1:Int)≤(s.length:Int))=false:=dec_no (by omega)
    have HF:Hid (cB (SrcRt s)=false):=cB_false (fun g=>e1 g.2.1)
    refine' zq76
theorem rvarsR_any (l:List Vr) (A:Option Addr) (cap:Nat) (lo hi:Int) (w:World) (sm:∀v∈l,VrSm v) (h1:l.length≤cap) (h2:cap≤maxLen) (h:Vrs w w.heap.size A l):
  Calls Tryz.prog 252 #[.slice A l.length cap,.int .i64 lo,.int .i64 hi] w fun e w'=>e= .returned (.bool (cB (VrsRt l lo hi)))∧Below w.heap.size w w':=by
 have HS:=Lib.hid h
 have HSM:=Lib.hid sm
 refine' zq214
 clear h sm
 go_enter Tryz.func252,Tryz.ntmps252
 go_wp2_with fail
 go_loopw[7] (fun i wr=>∃k:Nat,k≤l.length∧i= .int .i64 k∧Hid (∀j,j<k→∀v,l[j]? =some v→VrRt v)∧Below w.heap.size w wr) (fun i _=>l.length-(intOf i).toNat)
 case atStart=>exact ⟨0,Nat.zero_le _,rfl,fun j h=>absurd h (by omega),Below.refl _ _⟩
 case round=>
  refine' zq56
  by_cases hlt:k<l.length
  ·refine' zq147
   have hvs:=HSM.out x (List.mem_of_getElem? hx)
   have hnm:=hvs.name
   have HVS:=Lib.hid hvs
   have g4:cap'≤9223372036854775807:=by unfold maxLen at g2;omega
   clear hx hsl ok hvs
   have HFn:Hid (¬VrRt x→cB (VrsRt l lo hi)=false):=fun hP=>cB_false (fun g=>hP (g.1 x (List.mem_of_getElem? HX.out)))
   refine' zq235
   have ba:Below wr.heap.size wr (wr.alloc (.cells (vrArr x A' cap') 89)):=(Below.refl _ _).alloc (Nat.le_refl _) _
   have bB:=hbr.trans (ba.mono hszr)
   go_upto_region 5 with (fail)
   clear c0 c1 c2 c3 c4
   generalize hW2:wr.alloc (.cells (vrArr x A' cap') 89)=W2 at*
   clear hW2
   have hs2:=bB.size
   have hsa:=ba.size
   obtain ⟨d0,d1,d2,d3,d4⟩:=rx.vr
   go_wp2_with fail
   refine (rname_any x.name _ (by omega)).mono ?_
   rintro e w' ⟨rfl,rfl⟩
   by_cases hP:nameB x.name.toList=true
   rotate_left 1
   ·have HF:=Lib.hid (HFn.out (fun g=>hP g.2.1))
    rw[bool_no hP]
    clear hP
    go_wp2_with fail
    go_ret
    exact ⟨ret_bool HF.out.symm,bB⟩
   have HP:=Lib.hid hP
   rw[hP]
   clear hP
   by_cases t:x.ty=1∨x.ty=2
   rotate_left 1
   ·have HF:=Lib.hid (HFn.out (fun g=>t g.2.2.1))
    have e1:(x.ty !=1)=true:=neq_yes (fun g=>t (.inl g))
    have e2:(x.ty !=2)=true:=neq_yes (fun g=>t (.inr g))
    clear t
    go_wp2_with fail
    go_ret
    exact ⟨ret_bool HF.out.symm,bB⟩
   have HT:=Lib.hid t
   have e12:(x.ty !=1)=false∨((x.ty !=1)=true∧(x.ty !=2)=false):=by
    by_cases e:x.ty=1
    ·exact .inl (neq_no e)
    ·exact .inr ⟨neq_yes e,neq_no (t.resolve_left e)⟩
   clear t
   by_cases hl:4<x.clock.length
   ·have HF:=Lib.hid (HFn.out (fun g=>by have:=g.2.2.2;omega))
    have e3:decide (4<(x.clock.length:Int))=true:=dec_yes (by omega)
    rcases e12 with e1|⟨e1,e2⟩
    all_goals
     go_wp2_with fail
     go_ret
     exact ⟨ret_bool HF.out.symm,bB⟩
   have e3:decide (4<(x.clock.length:Int))=false:=dec_no (by omega)
   have HSL2:=Lib.hid (lits_keep HSL.out (keeps_of (ba.mono hszr)) (Nat.le_refl _))
   obtain ⟨t0,ht0⟩:∃t0:Bool,t0=(x.ty !=1):=⟨_,rfl⟩
   rcases e12 with e1|⟨e1,e2⟩
   all_goals
    clear ht0
    go_upto_region 7 with (fail)
    go_wp2_with fail
    obtain ⟨wo,rfl⟩:∃wo:World,wo=W2:=⟨_,rfl⟩
    go_loop[9] (fun i=>∃k:Nat,k≤x.clock.length∧i= .int .i64 k∧Hid (∀j,j<k→∀c,x.clock[j]? =some c→nameB c.name.toList=true)) (fun i=>x.clock.length-(intOf i).toNat)
    case atStart=>exact ⟨0,Nat.zero_le _,rfl,fun j h=>absurd h (by omega)⟩
    case round=>
     obtain ⟨q,hq,rfl,HQ⟩:=hrel
     by_cases hlq:q<x.clock.length
     ·obtain ⟨b',off',y,rfl,hb',hy,ys,f0,f1⟩:=HSL2.out.lit hlq
      have HY:=Lib.hid hy
      have hys:=HVS.out.names y (List.mem_of_getElem? hy)
      clear hy
      go_wp2_with fail
      refine (rname_any y.name _ (by omega)).mono ?_
      rintro e w' ⟨rfl,rfl⟩
      by_cases hP:nameB y.name.toList=true
      ·have HQ':=Lib.hid (step_upto (P:=fun c:Lt=>nameB c.name.toList=true) HQ.out HY.out hP)
       rw[hP]
       clear hP
       go_wp2_with fail
       go_round
       case rel=>exact ⟨q+1,by omega,by go_num,HQ'⟩
       case measure=>simp[intOf];omega
      ·have HF:=Lib.hid (HFn.out (fun g=>hP (g.1 y (List.mem_of_getElem? HY.out))))
       rw[bool_no hP]
       clear hP
       go_wp2_with fail
       go_ret
       exact ⟨ret_bool HF.out.symm,bB⟩
     ·obtain rfl:q=x.clock.length:=by omega
      have HN':=Lib.hid (step_upto (P:=VrRt) HN.out HX.out ⟨mem_upto HQ.out,HP.out,HT.out,by omega⟩)
      go_wp2_with fail
      go_roundw
      case rel=>exact ⟨k+1,by omega,by go_num,HN',bB⟩
      case measure=>simp[intOf];omega
  ·refine' zq59
theorem rnodeR_any (n:Nd) (a:NdA) (w:World) (sm:NdSm n) (h:NdAt w w.heap.size n a):
  Calls Tryz.prog 184 #[ndV n a] w fun e w'=>e= .returned (.bool (cB (NdRt n)))∧Below w.heap.size w w':=by
 have r1:=Row.new w (ndArr n a) 39
 refine' zq111
 have H:=Lib.hid (h.below b1)
 have HSM:=Lib.hid sm
 have hq2:=h.mq
 have hq1:=h.lq
 have hnm:=sm.name
 have g3:a.cq≤9223372036854775807:=by unfold maxLen at hq2;omega
 have hsi:Hid (∀v∈n.ins,VrSm v):=fun v hv=>sm.all v (by simp[vrs,hv])
 have hso:Hid (∀v∈n.outs,VrSm v):=fun v hv=>sm.all v (by simp[vrs,hv])
 have hsv:Hid (∀v∈n.vars,VrSm v):=fun v hv=>sm.all v (by simp[vrs,hv])
 clear h sm
 go_enter Tryz.func184,Tryz.ntmps184
 refine' zq63
 obtain ⟨d0,d1,d2,d3,d4,d5,d6⟩:=r1.nd
 go_wp2_with fail
 refine (rname_any n.name _ (by omega)).mono ?_
 rintro e w' ⟨rfl,rfl⟩
 by_cases hP:nameB n.name.toList=true
 rotate_left 1
 ·have HF:Hid (cB (NdRt n)=false):=cB_false (fun g=>hP g.2.1)
  rw[bool_no hP]
  clear hP
  go_wp2_with fail
  go_ret
  exact ⟨ret_bool HF.out.symm,b1⟩
 have HP:=Lib.hid hP
 rw[hP]
 clear hP
 go_wp2_with fail
 refine (rvarsR_any n.ins a.ai a.ci 1 8 W1 hsi.out H.out.li H.out.mi (vrs_keep H.out.si (keeps_of (Below.refl _ _)) hs1)).mono ?_
 rintro e w3 ⟨rfl,hb3⟩
 have r3:=r1.below hb3 r1.lt
 have b3:=b1.trans (hb3.mono hs1)
 refine' zq132
 refine (rvarsR_any n.outs a.ao a.co 1 8 w3 hso.out H.out.lo H.out.mo (vrs_keep H.out.so (keeps_of (hb3.mono hs1)) hs3)).mono ?_
 refine' zq102
 refine (rvarsR_any n.vars a.av a.cv 0 40 w4 hsv.out H.out.lv H.out.mv (vrs_keep H.out.sv (keeps_of ((hb3.mono hs1).trans (hb4.mono hs3))) hs4)).mono ?_
 rintro e w5 ⟨rfl,hb5⟩
 have r5:=r4.below hb5 r4.lt
 have b5:=b4.trans (hb5.mono hs4)
 have hs5:=b5.size
 have HK:=Lib.hid (eqs_keep H.out.sq (keeps_of ((hb3.mono hs1).trans ((hb4.mono hs3).trans (hb5.mono hs4)))) (Nat.le_refl _))
 clear d0 d1 d2 d3 d4 d5 d6
 obtain ⟨d0,d1,d2,d3,d4,d5,d6⟩:=r5.nd
 by_cases h1:VrsRt n.vars 0 40
 rotate_left 1
 ·have HF:Hid (cB (NdRt n)=false):=cB_false (fun g=>h1 g.2.2.2.2.2.2)
  rw[cB_false h1]
  clear h1
  go_wp2_with fail
  go_ret
  exact ⟨ret_bool HF.out.symm,b5⟩
 have H3:=Lib.hid h1
 rw[cB_true h1]
 clear h1 r1 r3 r4 hb3 hb4 hb5 b1 b3 b4
 go_wp2_with fail
 go_loopw[3] (fun i wr=>∃k:Nat,k≤n.eqs.length∧i= .int .i64 k∧Hid (∀j,j<k→∀c,n.eqs[j]? =some c→EqnRt c)∧Below w5.heap.size w5 wr) (fun i _=>n.eqs.length-(intOf i).toNat)
 case atStart=>exact ⟨0,Nat.zero_le _,rfl,fun j h=>absurd h (by omega),Below.refl _ _⟩
 case round=>
  refine' zq56
  have hB:=b5.trans (hbr.mono hs5)
  have rr:=r5.below hbr r5.lt
  have hlr:=rr.lt
  clear d0 d1 d2 d3 d4 d5 d6
  obtain ⟨c0,c1,c2,c3,c4,c5,c6⟩:=rr.nd
  by_cases hlt:k<n.eqs.length
  ·obtain ⟨b,off,q,A1,k1,A2,k2,haq,hb,hq,ok,lq1,mq1,sl1,lq2,mq2,sl2,d0,d1,d2,d3,d4,d5,d6,d7,d8⟩:=(eqs_keep HK.out (keeps_of (hbr.mono hs5)) (Nat.le_refl _)).eqn hlt
   have HX:=Lib.hid hq
   have HO:=Lib.hid ok
   have HS1:=Lib.hid sl1
   have HS2:=Lib.hid sl2
   have hsmq:=Lib.hid (HSM.out.eq q (List.mem_of_getElem? hq))
   have HAQ:=Lib.hid haq
   rw[haq] at c4
   have gk1:k1≤9223372036854775807:=by unfold maxLen at mq1;omega
   have HFn:Hid (¬EqnRt q→cB (NdRt n)=false):=fun hP=>cB_false (fun g=>hP (g.1 q (List.mem_of_getElem? HX.out)))
   clear hq ok sl1 sl2 haq
   have rq:=Row.new wr (eqArr q A1 k1 A2 k2) 81
   have ba:Below wr.heap.size wr (wr.alloc (.cells (eqArr q A1 k1 A2 k2) 81)):=(Below.refl _ _).alloc (Nat.le_refl _) _
   have bB:=hbr.trans (ba.mono hszr)
   go_upto_region 7 with (fail)
   clear c0 c1 c2 c3 c4 c5 c6 d0 d1 d2 d3 d4 d5 d6 d7 d8
   generalize hW2:wr.alloc (.cells (eqArr q A1 k1 A2 k2) 81)=W2 at*
   clear hW2
   have hsa:=ba.size
   have hB2:=hB.trans (ba.mono (by omega))
   obtain ⟨d0,d1,d2,d3,d4,d5,d6,d7,d8⟩:=rq.eqn
   by_cases e1:q.left.length<1
   ·have e1':decide ((q.left.length:Int)<1)=true:=dec_yes (by omega)
    have HF:=Lib.hid (HFn.out (fun g=>by have:=g.2.1;omega))
    go_wp2_with fail
    go_ret
    exact ⟨ret_bool HF.out.symm,hB2⟩
   have e1':decide ((q.left.length:Int)<1)=false:=dec_no (by omega)
   by_cases e2:8<q.left.length
   ·have e2':decide ((8:Int)<(q.left.length:Int))=true:=dec_yes (by omega)
    have HF:=Lib.hid (HFn.out (fun g=>by have:=g.2.2.1;omega))
    go_wp2_with fail
    go_ret
    exact ⟨ret_bool HF.out.symm,hB2⟩
   have e2':decide ((8:Int)<(q.left.length:Int))=false:=dec_no (by omega)
   go_wp2_with fail
   refine (rright_any q.right A2 k2 _ HO.out.right lq2 mq2 (exs_keep HS2.out (keeps_of (ba.mono (by omega))) (by omega)) hsmq.out.right).mono ?_
   rintro e w6 ⟨rfl,hb6⟩
   have r6:=rq.below hb6 rq.lt
   have b6:=bB.trans (hb6.mono (by omega))
   have hB6:=hB2.trans (hb6.mono (by omega))
   clear d0 d1 d2 d3 d4 d5 d6 d7 d8
   obtain ⟨d0,d1,d2,d3,d4,d5,d6,d7,d8⟩:=r6.eqn
   by_cases hR:exRight q.right=true
   rotate_left 1
   ·have HF:=Lib.hid (HFn.out (fun g=>hR g.2.2.2))
    rw[bool_no hR]
    clear hR
    go_wp2_with fail
    go_ret
    exact ⟨ret_bool HF.out.symm,hB6⟩
   have HR:=Lib.hid hR
   rw[hR]
   clear hR
   have HS3:=Lib.hid (strs_keep HS1.out (keeps_of ((ba.mono (by omega)).trans (hb6.mono (by omega)))) (Nat.le_refl _))
   go_wp2_with fail
   obtain ⟨wo,rfl⟩:∃wo:World,wo=w6:=⟨_,rfl⟩
   go_loop[5] (fun i=>∃k:Nat,k≤q.left.length∧i= .int .i64 k∧Hid (∀j,j<k→∀c,q.left[j]? =some c→nameB c.toList=true)) (fun i=>q.left.length-(intOf i).toNat)
   case atStart=>exact ⟨0,Nat.zero_le _,rfl,fun j h=>absurd h (by omega)⟩
   case round=>
    obtain ⟨p,hp,rfl,HQ⟩:=hrel
    by_cases hlp:p<q.left.length
    ·obtain ⟨b',off',y,rfl,hb',hy,ys,f0⟩:=HS3.out.str hlp
     have HY:=Lib.hid hy
     have hys:=hsmq.out.names y (List.mem_of_getElem? hy)
     clear hy
     go_wp2_with fail
     refine (rname_any y _ (by omega)).mono ?_
     rintro e w' ⟨rfl,rfl⟩
     by_cases hP:nameB y.toList=true
     ·have HQ':=Lib.hid (step_upto (P:=fun c:ByteArray=>nameB c.toList=true) HQ.out HY.out hP)
      rw[hP]
      clear hP
      go_wp2_with fail
      go_round
      case rel=>exact ⟨p+1,by omega,by go_num,HQ'⟩
      case measure=>simp[intOf];omega
     ·have HF:=Lib.hid (HFn.out (fun g=>hP (g.1 y (List.mem_of_getElem? HY.out))))
      rw[bool_no hP]
      clear hP
      go_wp2_with fail
      go_ret
      exact ⟨ret_bool HF.out.symm,hB6⟩
    ·obtain rfl:p=q.left.length:=by omega
     have HN':=Lib.hid (step_upto (P:=EqnRt) HN.out HX.out ⟨mem_upto HQ.out,by omega,by omega,HR.out⟩)
     go_wp2_with fail
     go_roundw
     case rel=>exact ⟨k+1,by omega,by go_num,HN',b6⟩
     case measure=>simp[intOf];omega
  ·obtain rfl:k=n.eqs.length:=by omega
   have HA:Hid (∀q∈n.eqs,EqnRt q):=mem_upto HN.out
   by_cases e1:0<n.eqs.length
   ·have e1':decide ((0:Int)<(n.eqs.length:Int))=true:=dec_yes (by omega)
    have e1'':decide (0<n.eqs.length)=true:=dec_yes e1
    by_cases e2:n.eqs.length≤48
    ·have e2':decide ((n.eqs.length:Int)≤48)=true:=dec_yes (by omega)
     have HF:Hid (cB (NdRt n)=true):=cB_true ⟨HA.out,HP.out,by omega,by omega,H1.out,H2.out,H3.out⟩
     refine' zq76
    ·have e2':decide ((n.eqs.length:Int)≤48)=false:=dec_no (by omega)
     have HF:Hid (cB (NdRt n)=false):=cB_false (fun g=>by have:=g.2.2.2.1;omega)
     refine' zq76
   ·have e1':decide ((0:Int)<(n.eqs.length:Int))=false:=dec_no (by omega)
    have e1'':decide (0<n.eqs.length)=false:=dec_no e1
    have HF:Hid (cB (NdRt n)=false):=cB_false (fun g=>by have:=g.2.2.1;omega)
    refine' zq76
theorem rsource_any (s:List Nd) (A:Option Addr) (cap:Nat) (w:World) (sm:SrcSm s) (h1:s.length≤cap) (h2:cap≤maxLen) (h:Nds w w.heap.size A s):
  Calls Tryz.prog 106 #[srcV s A cap] w fun e w'=>e= .returned (.bool (cB (SrcRt s)))∧Below w.heap.size w w':=by
 refine' zq128
 refine' zq233
 have HSM:=Lib.hid sm
 refine' zq214
 clear h sm
 go_enter Tryz.func106,Tryz.ntmps106
 refine' zq103
 have l1:=r1.lt
 go_wp2_with fail
 go_loopw[3] (fun i wr=>∃k:Nat,k≤s.length∧i= .int .i64 k∧Hid (∀j,j<k→∀c,s[j]? =some c→NdRt c)∧Below W1.heap.size W1 wr) (fun i _=>s.length-(intOf i).toNat)
 case atStart=>exact ⟨0,Nat.zero_le _,rfl,fun j h=>absurd h (by omega),Below.refl _ _⟩
 case round=>
  refine' zq190
  have c0:=rr.src
  by_cases hlt:k<s.length
  ·refine' zq164
   have hsm:=Lib.hid (HSM.out.all n (List.mem_of_getElem? hn))
   have HAT:=Lib.hid hat
   clear hn hat
   go_wp2_with fail
   refine (rnodeR_any n a _ hsm.out (HAT.out.more (by omega))).mono ?_
   rintro e w2 ⟨rfl,hb2⟩
   have b2:=hbr.trans (hb2.mono hszr)
   refine' zq104
  ·obtain rfl:k=s.length:=by omega
   have HA:Hid (∀n∈s,NdRt n):=mem_upto HN.out
   by_cases e1:0<s.length
   ·have e1':decide ((0:Int)<(s.length:Int))=true:=dec_yes (by omega)
    have e1'':decide (0<s.length)=true:=dec_yes e1
    refine' zq107
   ·have e1':decide ((0:Int)<(s.length:Int))=false:=dec_no (by omega)
    have e1'':decide (0<s.length)=false:=dec_no e1
    have HF:Hid (cB (SrcRt s)=false):=cB_false (fun g=>e1 g.2.1)
    refine' zq76
end Go.Proofs.YtgjfkidbfmbjoaaGreat
