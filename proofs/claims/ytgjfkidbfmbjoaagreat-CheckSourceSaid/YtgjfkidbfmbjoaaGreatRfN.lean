/-
  What is wrong first with a node's names, by the document: the contract of tompionref15.node.
-/
import Derived.Test.YtgjfkidbfmbjoaaGreatZz
import Derived.Test.YtgjfkidbfmbjoaaGreatRfE
import Derived.Test.YtgjfkidbfmbjoaaGreatScN
import Derived.Deep.RegionHeld3
import Derived.Deep.DeepCutAuto
set_option maxHeartbeats 1000000
set_option maxRecDepth 100000
namespace Go.Proofs.YtgjfkidbfmbjoaaGreat
open Go.RowKit
attribute [local go_sem ↓] Go.wp_at_zero Go.wp_at_succ
theorem left_24 {n:Nd} {met:List ByteArray} {q:Eqn} {k:Nat} {nm:ByteArray} (h:varIdx n nm<0):leftNF n met q k nm=⟨24,q.line,q.col⟩:=if_pos (var_neg.1 h)
theorem left_iff {n:Nd} {q:Eqn} {i k:Nat} {nm:ByteArray} {x y:Int} (hv:0≤varIdx n nm) (hd:DefZ n nm x y) (hq:n.eqs[i]? =some q) (hk:q.left[k]? =some nm):(varIdx n nm<n.ins.length∨x<i∨y<k)↔nm∈metTo n i++q.left.take k:=by
 obtain ⟨a,b,rfl,rfl,hd⟩|⟨_,_,hd⟩:=hd
 ·have h1:=var_lt (i:=n.ins.length) hv
  rw[take_ins] at h1
  have h2:=def_lt hd hq hk
  unfold metTo
  rw[List.append_assoc,List.mem_append,←h2,←h1]
  constructor
  ·rintro (h|h|h)
   ·exact .inl h
   ·exact .inr (.inl (by omega))
   ·exact .inr (.inr (by omega))
  ·rintro (h|h|h)
   ·exact .inl h
   ·exact .inr (.inl (by omega))
   ·exact .inr (.inr (by omega))
 ·exact absurd (List.mem_of_getElem? hk) (hd q (List.mem_of_getElem? hq))
theorem left_23 {n:Nd} {q:Eqn} {i k:Nat} {nm:ByteArray} {x y:Int} (hv:¬varIdx n nm<0) (hd:DefZ n nm x y) (hq:n.eqs[i]? =some q) (hk:q.left[k]? =some nm) (h:varIdx n nm<n.ins.length∨x<i∨y<k):leftNF n (metTo n i) q k nm=⟨23,q.line,q.col⟩:=by
 unfold leftNF
 rw[if_neg (fun g=>hv (var_neg.2 g)),if_pos ((left_iff (by omega) hd hq hk).1 h)]
theorem left_0 {n:Nd} {q:Eqn} {i k:Nat} {nm:ByteArray} {x y:Int} (hv:¬varIdx n nm<0) (hd:DefZ n nm x y) (hq:n.eqs[i]? =some q) (hk:q.left[k]? =some nm) (h:¬(varIdx n nm<n.ins.length∨x<i∨y<k)):leftNF n (metTo n i) q k nm=ft0:=by
 unfold leftNF
 rw[if_neg (fun g=>hv (var_neg.2 g)),if_neg (fun g=>h ((left_iff (by omega) hd hq hk).2 g))]
theorem vrs_drop (n:Nd) (i:Nat):(n.outs++n.vars)[i]? =(vrs n)[n.ins.length+i]? :=by
 rw[vrs,List.append_assoc,List.getElem?_append_right (show n.ins.length≤n.ins.length+i by omega),Nat.add_sub_cancel_left]
theorem def_iff {n:Nd} {i:Nat} {v:Vr} (hi:n.ins.length≤i) (hd:v.name∉(nms (vrs n)).take i) {x y:Int} (h:DefZ n v.name x y):x<0↔v.name∉metTo n n.eqs.length:=by
 have h0:v.name∉nms n.ins:=fun g=>hd (by
  rw[←take_ins] at g
  obtain ⟨j,hj,he⟩:=mem_take.1 g
  exact mem_take.2 ⟨j,by omega,he⟩)
 unfold metTo
 rw[List.take_length,List.mem_append]
 obtain ⟨a,b,rfl,rfl,q,h1,h2,_⟩|⟨rfl,_,h⟩:=h
 ·exact ⟨fun g=>by omega,fun g=>absurd (.inr (mem_lefts.2 ⟨q,List.mem_of_getElem? h1,List.mem_of_getElem? h2⟩)) g⟩
 ·refine ⟨fun _ g=>g.elim h0 fun g=>?_,fun _=>by omega⟩
  obtain ⟨q,hq,hm⟩:=mem_lefts.1 g
  exact h q hq hm
theorem rnode_check (s:List Nd) (A:Option Addr) (cap:Nat) (n:Nd) (a:NdA) (w:World) (h1:s.length≤cap) (h2:cap≤maxLen) (sm:NdSm n) (hs:Nds w w.heap.size A s) (hn:NdAt w w.heap.size n a):
  Calls Tryz.prog 108 #[srcV s A cap,ndV n a] w fun r w'=>r= .returned (ftV (nodeF s 0 n))∧Below w.heap.size w w':=by
 refine' zq236
 refine' zq83
 have HL:=Lib.hid (show (vrs n).length≤10000 by have:=sm.len;omega)
 have gi:=hn.mi
 have go:=hn.mo
 have gv:=hn.mv
 have gq:=hn.mq
 have hnv:=hn.lv
 have hnq:=hn.lq
 refine' zq30
 refine' zq182
 refine' zq80
 have HF0:Hid (nodeF s 0 n=ft2 (ft2 (fstL (varF n) (vrs n)) (fstL (clkF n) n.vars)) (ft2 (fstL (eqnF s n) n.eqs) (fstL (defF n) (n.outs++n.vars)))):=rfl
 have HVR:Hid (∀(nm:ByteArray) W,Below w.heap.size w W→Calls Tryz.prog 157 #[ndV n a,.string nm] W fun r w'=>r= .returned (.int .i64 (varIdx n nm))∧Below W.heap.size W w'):=fun nm W hW=>rvar_any n a nm W ((HN.out W hW).more hW.size) HL.out
 have HDF:Hid (∀(nm:ByteArray) W,Below w.heap.size w W→Calls Tryz.prog 185 #[ndV n a,.string nm] W fun r w'=>(∃x y:Int,r= .returned (.tuple #[.int .i64 x,.int .i64 y])∧Hid (DefZ n nm x y))∧Below W.heap.size W w'):=fun nm W hW=>rdefine_any n a nm W ((HN.out W hW).more hW.size)
 clear hs hn
 go_enter Tryz.func108,Tryz.ntmps108
 refine' zq119
 obtain ⟨c0,c1,cc2,c3,c4,c5,c6⟩:=rn1.nd
 go_wp2_with fail
 refine (rvars_any w.heap.size n a W1 hs1 (HN.out W1 b1) HL.out).mono ?_
 rintro r w2 ⟨⟨v,rfl,hown⟩,hb2⟩
 obtain ⟨Al,cl,rfl,ll,ml,hsl⟩:=hown.sl
 have HSL:=Lib.hid hsl
 have ml':cl≤9223372036854775807:=by unfold maxLen at ml;omega
 have rs2:=rs1.below hb2 rs1.lt
 have rn2:=rn1.below hb2 rn1.lt
 have rf2:=rf1.below hb2 rf1.lt
 refine' zq153
 have HLE:=HL.out
 have HVL:Hid (vrs n=vrs n):=rfl
 clear hown hsl rs1 rn1 rf1 b1 hb2 hs1 c0 c1 cc2 c3 c4 c5 c6
 obtain ⟨L,HLL⟩:∃L,Hid (vrs n=L):=⟨_,rfl⟩
 rw[HLL.out] at ll HLE HSL⊢
 go_wp2_with fail
 go_loopw[6] (fun i wr=>∃k:Nat,k≤L.length∧i= .int .i64 k∧Hid (∀j,j<k→∀x,L[j]? =some x→(varF n j x).err=0)∧Below w2.heap.size w2 wr) (fun i _=>L.length-(intOf i).toNat)
 case atStart=>exact ⟨0,Nat.zero_le _,rfl,fun j h=>absurd h (by omega),Below.refl _ _⟩
 case round=>
  refine' zq210
  have rs:=rs2.below hbr rs2.lt
  have rn:=rn2.below hbr rn2.lt
  have rf:=rf2.below hbr rf2.lt
  have hB:=hB2.trans (hbr.mono hs2)
  have HSR:=Lib.hid (vrs_keep2 HSL.out hbr hs2)
  obtain ⟨c0,c1,cc2,c3,c4,c5,c6⟩:=rn.nd
  by_cases hlt:k<L.length
  ·refine' zq240
   have HXM:Hid (0≤varIdx n x.name):=var_mem.2 (List.mem_map_of_mem (List.mem_of_getElem? HXV.out))
   have hkx:k<L.length:=hlt
   have HVX:=Lib.hid (HVR.out x.name)
   have HFn:Hid ((varF n k x).err≠0→nodeF s 0 n=varF n k x):=fun g=>by
    have h:=fstL_stop (f:=varF n) (l:=vrs n) (by rw[HLL.out];exact HJ.out) HXV.out g
    rw[HF0.out,h,ft2_1 (a:=varF n k x) g,ft2_1 (a:=varF n k x) g]
   clear hx hxs ok
   have i0:(0:Int)≤(k:Int):=by omega
   have i1:(k:Int)<(L.length:Int):=by omega
   by_cases hP:x.name∈(nms (vrs n)).take k
   ·have hv:decide (varIdx n x.name<(k:Int))=true:=dec_yes ((var_lt HXM.out).2 hP)
    have e:varF n k x=⟨23,x.line,x.col⟩:=by unfold varF;rw[if_pos hP]
    have HF:=Lib.hid ((HFn.out (by rw[e];show (23:Int)≠0;decide)).trans e)
    clear hP e HXM
    refine' zq70
    go_cut[35] (fun v35 W=>v35= .bool true∧Below wr.heap.size wr W)
    case first=>
     refine' zq52
    case rest=>
     obtain ⟨rfl,hbc⟩:=hcut
     have rf3:=rf.below hbc rf.lt
     have hB3:=hB.trans (hbc.mono hB.size)
     have e3:=old_cell hbc d3
     have e4:=old_cell hbc d4
     clear c0 c1 cc2 c3 c4 c5 c6 d0 d1 d2 d3 d4
     refine' zq224
   have hv:decide (varIdx n x.name<(k:Int))=false:=dec_no (fun g=>hP ((var_lt HXM.out).1 g))
   have HP:=Lib.hid hP
   clear hP
   refine' zq70
   go_cut[35] (fun v35 W=>v35= .bool false∧Below wr.heap.size wr W)
   case first=>
    refine' zq52
   case rest=>
    obtain ⟨rfl,hbc⟩:=hcut
    have rf3:=rf.below hbc rf.lt
    have rn3:=rn.below hbc rn.lt
    have hB3:=hB.trans (hbc.mono hB.size)
    have e0:=old_cell hbc d0
    have e2:=old_cell hbc d2
    have e3:=old_cell hbc d3
    have e4:=old_cell hbc d4
    clear c0 c1 cc2 c3 c4 c5 c6 d0 d1 d2 d3 d4
    obtain ⟨c0,c1,cc2,c3,c4,c5,c6⟩:=rn3.nd
    have hli:n.ins.length≤a.ci:=(HN.out wr hB).li
    have hlo:n.outs.length≤a.co:=(HN.out wr hB).lo
    have hlim:n.ins.length+n.outs.length≤10000:=by
     have h:=HL.out
     simp only[vrs,List.length_append] at h
     omega
    by_cases q1:k<n.ins.length+n.outs.length
    ·have q1':decide ((k:Int)<(n.ins.length:Int)+(n.outs.length:Int))=true:=dec_yes (by omega)
     have q1'':decide (k<n.ins.length+n.outs.length)=true:=dec_yes q1
     by_cases q2:0<x.clock.length
     ·have q2':decide ((0:Int)<(x.clock.length:Int))=true:=dec_yes (by omega)
      have q2'':decide (0<x.clock.length)=true:=dec_yes q2
      have e:varF n k x=⟨30,x.line,x.col⟩:=by unfold varF;rw[if_neg HP.out,if_pos ⟨q1,q2⟩]
      have HF:=Lib.hid ((HFn.out (by rw[e];show (30:Int)≠0;decide)).trans e)
      clear e q1 q2
      refine' zq224
     ·have q2':decide ((0:Int)<(x.clock.length:Int))=false:=dec_no (by omega)
      have q2'':decide (0<x.clock.length)=false:=dec_no q2
      have HJ':=Lib.hid (step_uptoI (P:=fun j x=>(varF n j x).err=0) HJ.out HXK.out (by unfold varF;rw[if_neg HP.out,if_neg (fun g=>q2 g.2)]))
      clear q1 q2
      go_wp2_with fail
      go_roundw
      case rel=>exact ⟨k+1,by omega,by go_num,HJ',hbr.trans (hbc.mono hszr)⟩
      case measure=>first|(simp[intOf];omega)|simp[intOf]
    ·have q1':decide ((k:Int)<(n.ins.length:Int)+(n.outs.length:Int))=false:=dec_no (by omega)
     have q1'':decide (k<n.ins.length+n.outs.length)=false:=dec_no q1
     have HJ':=Lib.hid (step_uptoI (P:=fun j x=>(varF n j x).err=0) HJ.out HXK.out (by unfold varF;rw[if_neg HP.out,if_neg (fun g=>q1 g.1)]))
     clear q1
     go_wp2_with fail
     go_roundw
     case rel=>exact ⟨k+1,by omega,by go_num,HJ',hbr.trans (hbc.mono hszr)⟩
     case measure=>first|(simp[intOf];omega)|simp[intOf]
  ·obtain rfl:k=L.length:=by omega
   have HD:Hid (∀(i:Nat) v,(vrs n)[i]? =some v→v.name∉(nms (vrs n)).take i):=fun i v hv g=>by
    have h:=HJ.out i (by rw[←HLL.out];exact (List.getElem?_eq_some_iff.1 hv).1) v (by rw[←HLL.out];exact hv)
    unfold varF at h
    rw[if_pos g] at h
    exact absurd h (by show ¬(23:Int)=0;decide)
   have HF1:Hid (nodeF s 0 n=ft2 (fstL (clkF n) n.vars) (ft2 (fstL (eqnF s n) n.eqs) (fstL (defF n) (n.outs++n.vars)))):=by
    show _=_
    rw[HF0.out,fstL_end (f:=varF n) (l:=vrs n) (by rw[HLL.out];exact HJ.out),ft2_0 (a:=ft0) rfl]
   have HSW:Hid (∀W,Below wr.heap.size wr W→Sl W w2.heap.size 5 (isVr W w.heap.size) Al L):=fun W hW=>vrs_keep2 HSR.out (hW.mono hszr) hs2
   have hsB:=hB.size
   clear HJ HSR hbr c0 c1 cc2 c3 c4 c5 c6 rs2 rn2 rf2 hB2
   obtain ⟨w3,rfl⟩:∃w3:World,w3=wr:=⟨_,rfl⟩
   go_wp2_with fail
   go_loopw[7] (fun i wr=>∃k:Nat,k≤n.vars.length∧i= .int .i64 k∧Hid (∀j,j<k→∀x,n.vars[j]? =some x→(clkF n j x).err=0)∧Below w3.heap.size w3 wr) (fun i _=>n.vars.length-(intOf i).toNat)
   case atStart=>exact ⟨0,Nat.zero_le _,rfl,fun j h=>absurd h (by omega),Below.refl _ _⟩
   case round=>
    refine' zq210
    have rn4:=rn.below hbr rn.lt
    have rf4:=rf.below hbr rf.lt
    have rs4:=rs.below hbr rs.lt
    have hB4:=hB.trans (hbr.mono hsB)
    obtain ⟨c0,c1,cc2,c3,c4,c5,c6⟩:=rn4.nd
    by_cases hlt:k<n.vars.length
    ·obtain ⟨b,off,x,A',cap',hA,hb,hx,ok,g1,g2,hxs,d0,d1,d2,d3,d4⟩:=(HN.out wr hB4).sv.vr hlt
     rw[hA] at c3
     have HA:=Lib.hid hA
     have HXK:=Lib.hid hx
     have HXS:Hid (∀W,Below wr.heap.size wr W→Sl W w.heap.size 2 isLit A' x.clock):=fun W hW=>lits_keep hxs (keeps_of (hW.mono hB4.size)) (Nat.le_refl _)
     refine' zq205
     have i0:(0:Int)≤(k:Int):=by omega
     have i1:(k:Int)<(n.vars.length:Int):=by omega
     clear hA hx hxs ok
     go_wp2_with fail
     obtain ⟨w5,rfl⟩:∃w5:World,w5=wr:=⟨_,rfl⟩
     go_loopw[8] (fun i wr=>∃k:Nat,k≤x.clock.length∧i= .int .i64 k∧Hid (∀j,j<k→∀c,x.clock[j]? =some c→(condF n x j c).err=0)∧Below w5.heap.size w5 wr) (fun i _=>x.clock.length-(intOf i).toNat)
     case atStart=>exact ⟨0,Nat.zero_le _,rfl,fun j h=>absurd h (by omega),Below.refl _ _⟩
     case round=>
      obtain ⟨p,hp,rfl,HQ,hbq⟩:=hrel
      have hszq:=hbq.size
      have rn5:=rn4.below hbq rn4.lt
      have rf5:=rf4.below hbq rf4.lt
      have hB5:=hB4.trans (hbq.mono hB4.size)
      have m0:=old_cell hbq d0
      have m2:=old_cell hbq d2
      have m3:=old_cell hbq d3
      have m4:=old_cell hbq d4
      clear d0 d1 d2 d3 d4 c0 c1 cc2 c3 c4 c5 c6
      have nq5:=rn5.nd
      rw[HA.out] at nq5
      obtain ⟨c0,c1,cc2,c3,c4,c5,c6⟩:=nq5
      by_cases hlp:p<x.clock.length
      ·obtain ⟨b',off',y,hA',hb',hy,ys,f0,f1⟩:=(HXS.out wr hbq).lit hlp
       subst hA'
       have HY:=Lib.hid hy
       have HVX:Hid (∀W,Below w.heap.size w W→Calls Tryz.prog 157 #[.agg #[.string n.name,.slice a.ai n.ins.length a.ci,.slice a.ao n.outs.length a.co,.slice (some ⟨b,off,none⟩) n.vars.length a.cv,.slice a.aq n.eqs.length a.cq,.int .i64 n.line,.int .i64 n.col],.string y.name] W fun r w'=>r= .returned (.int .i64 (varIdx n y.name))∧Below W.heap.size W w'):=by
        rw[←HA.out]
        exact HVR.out y.name
       have j0:(0:Int)≤(p:Int):=by omega
       have j1:(p:Int)<(x.clock.length:Int):=by omega
       clear hy
       by_cases hP:y.name∈nms (vrs n)
       ·have hv:decide (varIdx n y.name<0)=false:=dec_no (fun g=>var_neg.1 g hP)
        have HQ':=Lib.hid (step_uptoI (P:=fun j c=>(condF n x j c).err=0) HQ.out HY.out (by unfold condF;rw[if_neg (fun g=>g hP)]))
        refine' zq50
        go_cut[96] (fun v96 W=>v96= .bool false∧Below wr.heap.size wr W)
        case first=>
         refine' zq38
        case rest=>
         obtain ⟨rfl,hbc⟩:=hcut
         go_wp2_with fail
         go_roundw
         case rel=>exact ⟨p+1,by omega,by go_num,HQ',hbq.trans (hbc.mono hszq)⟩
         case measure=>first|(simp[intOf];omega)|simp[intOf]
       ·have hv:decide (varIdx n y.name<0)=true:=dec_yes (var_neg.2 hP)
        have HF:Hid (nodeF s 0 n=⟨24,x.line,x.col⟩):=by
         refine' zq150
         rw[HF1.out,e3,e2];rfl
        refine' zq50
        go_cut[96] (fun v96 W=>v96= .bool true∧Below wr.heap.size wr W)
        case first=>
         refine' zq38
        case rest=>
         obtain ⟨rfl,hbc⟩:=hcut
         have rf6:=rf5.below hbc rf5.lt
         have hB6:=hB5.trans (hbc.mono hB5.size)
         have n3:=old_cell hbc m3
         have n4:=old_cell hbc m4
         have n5:=old_cell hbc c3
         clear c0 c1 cc2 c3 c4 c5 c6 m0 m2 m3 m4 f0 f1
         refine' zq44
         refine' zq208
         refine' zq5
      ·refine' zq258
       go_roundw
       case rel=>exact ⟨k+1,by omega,by go_num,HJ',hbr.trans (hbq.mono hszr)⟩
       case measure=>first|(simp[intOf];omega)|simp[intOf]
    ·obtain rfl:k=n.vars.length:=by omega
     have HF2:Hid (nodeF s 0 n=ft2 (fstL (eqnF s n) n.eqs) (fstL (defF n) (n.outs++n.vars))):=by
      show _=_
      rw[HF1.out,fstL_end HJ.out,ft2_0 (a:=ft0) rfl]
     have HSX:Hid (∀W,Below wr.heap.size wr W→Sl W w2.heap.size 5 (isVr W w.heap.size) Al L):=fun W hW=>HSW.out W (hbr.trans (hW.mono hszr))
     have hszB:=hB4.size
     clear HSW HF1 HJ hbr rs rn rf hB hsB
     obtain ⟨w4,rfl⟩:∃w4:World,w4=wr:=⟨_,rfl⟩
     refine' zq121
     go_loopw[9] (fun i wr=>∃k:Nat,k≤n.eqs.length∧i= .int .i64 k∧Hid (∀j,j<k→∀x,n.eqs[j]? =some x→(eqnF s n j x).err=0)∧Below w4.heap.size w4 wr) (fun i _=>n.eqs.length-(intOf i).toNat)
     case atStart=>exact ⟨0,Nat.zero_le _,rfl,fun j h=>absurd h (by omega),Below.refl _ _⟩
     case round=>
      refine' zq210
      have rn:=rn4.below hbr rn4.lt
      have rf:=rf4.below hbr rf4.lt
      have rs:=rs4.below hbr rs4.lt
      have hB:=hB4.trans (hbr.mono hszB)
      have hsB:=hB.size
      obtain ⟨c0,c1,cc2,c3,c4,c5,c6⟩:=rn.nd
      by_cases hlt:k<n.eqs.length
      ·refine' zq195
       rw[hA] at c4
       have HXK:=Lib.hid hq
       refine' zq148
       have rq:=Row.new wr (eqArr q A1 k1 A2 k2) 81
       refine' zq261
       have HS1:Hid (∀W,Below wr.heap.size wr W→Sl W w.heap.size 1 isStr A1 q.left):=fun W hW=>strs_keep sl1 (keeps_of (hW.mono hsB)) (Nat.le_refl _)
       have HS2:Hid (∀W,Below wr.heap.size wr W→IsExs W w.heap.size A2 q.right.args):=fun W hW=>exs_keep sl2 (keeps_of (hW.mono hsB)) (Nat.le_refl _)
       have HOK:=Lib.hid ok.right
       have HSQ:=Lib.hid (sm.eq q (List.mem_of_getElem? hq))
       have HEQ:Hid (eqnF s n k q=ft2 (ft2 (fstL (leftNF n (metTo n k) q) q.left) (countF q)) (exprF s n q.left.length q.right)):=rfl
       have HFn:Hid ((eqnF s n k q).err≠0→nodeF s 0 n=eqnF s n k q):=fun g=>by
        have h:=fstL_stop (f:=eqnF s n) HJ.out HXK.out g
        rw[HF2.out,h,ft2_1 (a:=eqnF s n k q) g]
       have i0:(0:Int)≤(k:Int):=by omega
       have i1:(k:Int)<(n.eqs.length:Int):=by omega
       clear hA hq ok sl1 sl2
       go_upto_region 21 with (fail)
       generalize hW6:wr.alloc (.cells (eqArr q A1 k1 A2 k2) 81)=w6 at*
       clear hW6
       have rn6:=rn.below ba rn.lt
       have rf6:=rf.below ba rf.lt
       have rs6:=rs.below ba rs.lt
       have hB6:=hB.trans (ba.mono hsB)
       have hs6:=hB6.size
       have hsa:=ba.size
       clear c0 c1 cc2 c3 c4 c5 c6 d0 d1 d2 d3 d4 d5 d6 d7 d8
       obtain ⟨d0,d1,d2,d3,d4,d5,d6,d7,d8⟩:=rq.eqn
       go_wp2_with fail
       refine' zq118
       go_loopw[11] (fun i wr=>∃p:Nat,p≤q.left.length∧i= .int .i64 p∧Hid (∀j,j<p→∀x,q.left[j]? =some x→(leftNF n (metTo n k) q j x).err=0)∧Below w6.heap.size w6 wr) (fun i _=>q.left.length-(intOf i).toNat)
       case atStart=>exact ⟨0,Nat.zero_le _,rfl,fun j h=>absurd h (by omega),Below.refl _ _⟩
       case round=>
        obtain ⟨p,hp,rfl,HQ,hbq⟩:=hrel
        have hszq:=hbq.size
        have rn7:=rn6.below hbq rn6.lt
        have rf7:=rf6.below hbq rf6.lt
        have rs7:=rs6.below hbq rs6.lt
        have rq7:=rq.below hbq rq.lt
        have hB7:=hB6.trans (hbq.mono hs6)
        have hs7:=hB7.size
        have hbW:=ba.trans (hbq.mono hsa)
        clear d0 d1 d2 d3 d4 d5 d6 d7 d8
        obtain ⟨d0,d1,d2,d3,d4,d5,d6,d7,d8⟩:=rq7.eqn
        obtain ⟨c0,c1,cc2,c3,c4,c5,c6⟩:=rn7.nd
        by_cases hlp:p<q.left.length
        ·obtain ⟨b',off',nm,hA',hb',hy,ys,f0⟩:=(HS1.out _ hbW).str hlp
         have HA':=Lib.hid hA'
         rw[hA'] at d0
         have HY:=Lib.hid hy
         have HVX:=Lib.hid (HVR.out nm)
         have HDX:=Lib.hid (HDF.out nm)
         have j0:(0:Int)≤(p:Int):=by omega
         have j1:(p:Int)<(q.left.length:Int):=by omega
         have HFl:Hid ((leftNF n (metTo n k) q p nm).err≠0→nodeF s 0 n=leftNF n (metTo n k) q p nm):=fun g=>by
          have e1:=fstL_stop (f:=leftNF n (metTo n k) q) HQ.out HY.out g
          have e2:eqnF s n k q=leftNF n (metTo n k) q p nm:=by rw[HEQ.out,e1,ft2_1 g,ft2_1 g]
          rw[HFn.out (by rw[e2];exact g),e2]
         obtain ⟨v,HV⟩:∃v:Int,Hid (varIdx n nm=v):=⟨_,rfl⟩
         rw[HV.out] at HVX
         clear hy hA'
         go_upto_region 24 with (fail)
         have HK:Hid (∀W,Below wr.heap.size wr W→(W.cell? ⟨w.heap.size+1,0,none⟩=some (.string n.name)∧W.cell? ⟨w.heap.size+1,1,none⟩=some (.slice a.ai n.ins.length a.ci)∧W.cell? ⟨w.heap.size+1,2,none⟩=some (.slice a.ao n.outs.length a.co)∧W.cell? ⟨w.heap.size+1,3,none⟩=some (.slice a.av n.vars.length a.cv)∧W.cell? ⟨w.heap.size+1,4,none⟩=some (.slice a.aq n.eqs.length a.cq)∧W.cell? ⟨w.heap.size+1,5,none⟩=some (.int .i64 n.line)∧W.cell? ⟨w.heap.size+1,6,none⟩=some (.int .i64 n.col))∧W.cell? ⟨wo.heap.size,0,none⟩=some (.slice (some ⟨b',off',none⟩) q.left.length k1)∧W.cell? ⟨b',off'+p,none⟩=some (.string nm)):=fun W hW=>⟨(rn7.below hW rn7.lt).nd,old_cell hW d0,old_cell hW f0⟩
         go_cut[12] (fun v12 W=>v12= .int .i64 v∧Below wr.heap.size wr W)
         case first=>
          go_region_held3 (fun W=>(W.cell? ⟨w.heap.size+1,0,none⟩=some (.string n.name)∧W.cell? ⟨w.heap.size+1,1,none⟩=some (.slice a.ai n.ins.length a.ci)∧W.cell? ⟨w.heap.size+1,2,none⟩=some (.slice a.ao n.outs.length a.co)∧W.cell? ⟨w.heap.size+1,3,none⟩=some (.slice a.av n.vars.length a.cv)∧W.cell? ⟨w.heap.size+1,4,none⟩=some (.slice a.aq n.eqs.length a.cq)∧W.cell? ⟨w.heap.size+1,5,none⟩=some (.int .i64 n.line)∧W.cell? ⟨w.heap.size+1,6,none⟩=some (.int .i64 n.col))∧W.cell? ⟨wo.heap.size,0,none⟩=some (.slice (some ⟨b',off',none⟩) q.left.length k1)∧W.cell? ⟨b',off'+p,none⟩=some (.string nm)) (first|(with_reducible exact HK.out _ bE)|go_keep)
           (first|((go_at_call 157);(refine (HVX.out _ (hB7.trans (Below.mono (B:=wr.heap.size) bE hs7))).mono ?_);rintro e w3 ⟨rfl,hb3⟩;(have hb4:Below wr.heap.size wr w3:=Below.trans bE (hb3.mono lE));(have hs4:=hb4.size)))
          all_goals
           go_wp2_with fail
           go_meet
           exact ⟨rfl,bE⟩
         case rest=>
          obtain ⟨rfl,hbc⟩:=hcut
          have rf8:=rf7.below hbc rf7.lt
          have rn8:=rn7.below hbc rn7.lt
          have rq8:=rq7.below hbc rq7.lt
          have hB8:=hB7.trans (hbc.mono hs7)
          have hs8:=hB8.size
          have f0':=old_cell hbc f0
          clear c0 c1 cc2 c3 c4 c5 c6 d0 d1 d2 d3 d4 d5 d6 d7 d8 f0 HK
          obtain ⟨d0,d1,d2,d3,d4,d5,d6,d7,d8⟩:=rq8.eqn
          rw[HA'.out] at d0
          obtain ⟨c0,c1,cc2,c3,c4,c5,c6⟩:=rn8.nd
          by_cases hv:v<0
          ·have hv':decide (v<0)=true:=dec_yes hv
           have e:=left_24 (met:=metTo n k) (q:=q) (k:=p) (show varIdx n nm<0 by rw[HV.out];exact hv)
           have HF:=Lib.hid ((HFl.out (by rw[e];show (24:Int)≠0;decide)).trans e)
           clear e hv
           refine' zq44
           have rf9:=rf8.below q9 rf8.lt
           have b9:=Below.trans hB8 (q9.mono (Below.size hB8))
           refine' zq5
          have hv':decide (v<0)=false:=dec_no hv
          have HNV:Hid (¬varIdx n nm<0):=by show ¬_;rw[HV.out];exact hv
          clear hv
          obtain ⟨wd,rfl⟩:∃wd:World,wd=wc:=⟨_,rfl⟩
          have hbd:=hbc
          go_upto_region 27 with (fail)
          have HK:Hid (∀W,Below wd.heap.size wd W→(W.cell? ⟨w.heap.size+1,0,none⟩=some (.string n.name)∧W.cell? ⟨w.heap.size+1,1,none⟩=some (.slice a.ai n.ins.length a.ci)∧W.cell? ⟨w.heap.size+1,2,none⟩=some (.slice a.ao n.outs.length a.co)∧W.cell? ⟨w.heap.size+1,3,none⟩=some (.slice a.av n.vars.length a.cv)∧W.cell? ⟨w.heap.size+1,4,none⟩=some (.slice a.aq n.eqs.length a.cq)∧W.cell? ⟨w.heap.size+1,5,none⟩=some (.int .i64 n.line)∧W.cell? ⟨w.heap.size+1,6,none⟩=some (.int .i64 n.col))∧W.cell? ⟨wo.heap.size,0,none⟩=some (.slice (some ⟨b',off',none⟩) q.left.length k1)∧W.cell? ⟨b',off'+p,none⟩=some (.string nm)):=fun W hW=>⟨(rn8.below hW rn8.lt).nd,old_cell hW d0,old_cell hW f0'⟩
          go_cut[13,14] (fun v13 v14 W=>∃x y:Int,v13= .int .i64 x∧v14= .int .i64 y∧Hid (DefZ n nm x y)∧Below wd.heap.size wd W)
          case first=>
           go_region_held3 (fun W=>(W.cell? ⟨w.heap.size+1,0,none⟩=some (.string n.name)∧W.cell? ⟨w.heap.size+1,1,none⟩=some (.slice a.ai n.ins.length a.ci)∧W.cell? ⟨w.heap.size+1,2,none⟩=some (.slice a.ao n.outs.length a.co)∧W.cell? ⟨w.heap.size+1,3,none⟩=some (.slice a.av n.vars.length a.cv)∧W.cell? ⟨w.heap.size+1,4,none⟩=some (.slice a.aq n.eqs.length a.cq)∧W.cell? ⟨w.heap.size+1,5,none⟩=some (.int .i64 n.line)∧W.cell? ⟨w.heap.size+1,6,none⟩=some (.int .i64 n.col))∧W.cell? ⟨wo.heap.size,0,none⟩=some (.slice (some ⟨b',off',none⟩) q.left.length k1)∧W.cell? ⟨b',off'+p,none⟩=some (.string nm)) (first|(with_reducible exact HK.out _ bE)|go_keep)
            (first|((go_at_call 185);(refine (HDX.out _ (hB8.trans (Below.mono (B:=wd.heap.size) bE hs8))).mono ?_);rintro e w3 ⟨⟨x,y,rfl,hd⟩,hb3⟩;(have hb4:Below wd.heap.size wd w3:=Below.trans bE (hb3.mono lE));(have hs4:=hb4.size)))
           all_goals
            go_wp2_with fail
            go_meet
            exact ⟨x,y,rfl,rfl,hd,bE⟩
          case rest=>
           obtain ⟨x,y,rfl,rfl,hd,hbc⟩:=hcut
           have rf9:=rf8.below hbc rf8.lt
           have rn9:=rn8.below hbc rn8.lt
           have rq9:=rq8.below hbc rq8.lt
           have hB9:=hB8.trans (hbc.mono hs8)
           clear c0 c1 cc2 c3 c4 c5 c6 d0 d1 d2 d3 d4 d5 d6 d7 d8 f0' HK
           obtain ⟨d0,d1,d2,d3,d4,d5,d6,d7,d8⟩:=rq9.eqn
           obtain ⟨c0,c1,cc2,c3,c4,c5,c6⟩:=rn9.nd
           have HL3:Hid ((v<n.ins.length∨x<k∨y<p)→nodeF s 0 n=⟨23,q.line,q.col⟩):=fun g=>by
            have e:=left_23 HNV.out hd.out HXK.out HY.out (by rw[HV.out];exact g)
            exact (HFl.out (by rw[e];show (23:Int)≠0;decide)).trans e
           by_cases q1:v<n.ins.length
           ·have q1':decide (v<(n.ins.length:Int))=true:=dec_yes q1
            have HF:=Lib.hid (HL3.out (.inl q1))
            clear q1
            refine' zq44
            refine' zq181
           have q1':decide (v<(n.ins.length:Int))=false:=dec_no q1
           by_cases q2:x<k
           ·have q2':decide (x<(k:Int))=true:=dec_yes q2
            have HF:=Lib.hid (HL3.out (.inr (.inl q2)))
            clear q1 q2
            refine' zq44
            refine' zq181
           have q2':decide (x<(k:Int))=false:=dec_no q2
           by_cases q3:y<p
           ·have q3':decide (y<(p:Int))=true:=dec_yes q3
            have HF:=Lib.hid (HL3.out (.inr (.inr q3)))
            clear q1 q2 q3
            refine' zq44
            refine' zq181
           have q3':decide (y<(p:Int))=false:=dec_no q3
           have HQ':=Lib.hid (step_uptoI (P:=fun j x=>(leftNF n (metTo n k) q j x).err=0) HQ.out HY.out (by rw[left_0 HNV.out hd.out HXK.out HY.out (by rw[HV.out];rintro (g|g|g);exact q1 g;exact q2 g;exact q3 g)]))
           clear q1 q2 q3
           go_wp2_with fail
           go_roundw
           case rel=>exact ⟨p+1,by omega,by go_num,HQ',hbq.trans (Below.mono (hbd.trans (hbc.mono hbd.size)) hszq)⟩
           case measure=>first|(simp[intOf];omega)|simp[intOf]
        ·obtain rfl:p=q.left.length:=by omega
         have HQ1:=Lib.hid (fstL_end HQ.out)
         have hs2':=hs7
         have rs8:=rs7
         by_cases hc:1<q.left.length∧q.right.op≠4
         ·have e1:decide ((1:Int)<(q.left.length:Int))=true:=dec_yes (by omega)
          have e1':decide (1<q.left.length)=true:=dec_yes hc.1
          have e2:(q.right.op !=4)=true:=neq_yes hc.2
          have e:eqnF s n k q=⟨25,q.line,q.col⟩:=by
           rw[HEQ.out,HQ1.out,ft2_0 (a:=ft0) rfl]
           unfold countF
           rw[if_pos hc];rfl
          have HF:=Lib.hid ((HFn.out (by rw[e];show (25:Int)≠0;decide)).trans e)
          clear e hc
          refine' zq220
          have q9:Below wr.heap.size wr w9:=Below.trans bE (hb9.mono lE)
          refine' zq209
          refine' zq5
         have HEQ2:Hid (eqnF s n k q=exprF s n q.left.length q.right):=by
          show _=_
          rw[HEQ.out,HQ1.out,ft2_0 (a:=ft0) rfl]
          unfold countF
          rw[if_neg hc,ft2_0 (a:=ft0) rfl]
         refine' zq124
         have hx2:=HS2.out _ hbW
         have HR:=Lib.hid (rexpr_any s A cap n a h1 h2 HL.out q.right q.left.length A2 k2 wr HOK.out lq2 mq2 (nds_keep (HS.out wr hB7) (fun _ _ _ h=>h) hs7) ((HN.out wr hB7).more hs7) (exs_keep hx2 (fun _ _ _ h=>h) hs7))
         have k0:=rs7.src
         obtain ⟨f,HFX⟩:∃f,Hid (exprF s n q.left.length q.right=f):=⟨_,rfl⟩
         rw[HFX.out] at HR
         clear hc hx2
         rcases e12 with ⟨e1,e1'⟩|⟨e1,e1',e2⟩
         all_goals
          go_wp2_with fail
          refine HR.out.mono ?_
          rintro r w8 ⟨rfl,hb8⟩
          have rf8:=rf7.below hb8 rf7.lt
          have hB8:=hB7.trans (hb8.mono hs7)
          have hs8:=hb8.size
          by_cases hf:f.err=0
          ·have hf1:(f.err !=0)=false:=neq_no hf
           have HJ':=Lib.hid (step_uptoI (P:=fun j x=>(eqnF s n j x).err=0) HJ.out HXK.out (by rw[HEQ2.out,HFX.out];exact hf))
           clear hf
           go_wp2_with fail
           go_roundw
           case rel=>exact ⟨k+1,by omega,by go_num,HJ',(hbr.trans (hbW.mono hszr)).trans (Below.mono (B:=wr.heap.size) bE (by have:=hbW.size;omega))⟩
           case measure=>first|(simp[intOf];omega)|simp[intOf]
          ·have hf1:(f.err !=0)=true:=neq_yes hf
           have HF:Hid (nodeF s 0 n=f):=by
            show _=_
            have e:eqnF s n k q=f:=by rw[HEQ2.out,HFX.out]
            rw[HFn.out (by rw[e];exact hf),e]
           have hsB8:=hB8.size
           have hl8:=rf8.lt
           have hl8':w.heap.size+1+1<w8.heap.size:=hl8
           refine' zq125
      ·obtain rfl:k=n.eqs.length:=by omega
       have HF3:Hid (nodeF s 0 n=fstL (defF n) (n.outs++n.vars)):=by
        show _=_
        rw[HF2.out,fstL_end HJ.out,ft2_0 (a:=ft0) rfl]
       have HSY:Hid (∀W,Below wr.heap.size wr W→Sl W w2.heap.size 5 (isVr W w.heap.size) Al L):=fun W hW=>HSX.out W (hbr.trans (hW.mono hszr))
       have hLI:n.ins.length≤L.length:=by rw[←HLL.out,vrs];simp only[List.length_append];omega
       clear HSX HF2 HJ
       obtain ⟨w5,rfl⟩:∃w5:World,w5=wr:=⟨_,rfl⟩
       refine' zq121
       go_loopw[16] (fun i wr=>∃k:Nat,n.ins.length≤k∧k≤L.length∧i= .int .i64 k∧Hid (∀j,j<k-n.ins.length→∀x,(n.outs++n.vars)[j]? =some x→(defF n j x).err=0)∧Below w5.heap.size w5 wr) (fun i _=>L.length-(intOf i).toNat)
       case atStart=>exact ⟨n.ins.length,Nat.le_refl _,hLI,rfl,fun j h=>absurd h (by omega),Below.refl _ _⟩
       case round=>
        obtain ⟨k,hik,hk,rfl,HJ,hbr2⟩:=hrel
        have hszr2:=hbr2.size
        have rn5:=rn.below hbr2 rn.lt
        have rf5:=rf.below hbr2 rf.lt
        have hB5:=hB.trans (hbr2.mono hsB)
        have hsB5:=hB5.size
        by_cases hlt:k<L.length
        ·obtain ⟨b,off,x,A',cap',hA,hb,hx,ok,g1,g2,hxs,d0,d1,d2,d3,d4⟩:=(HSY.out _ hbr2).vr hlt
         subst hA
         have HXV:Hid ((vrs n)[k]? =some x):=by show _=_;rw[HLL.out];exact hx
         have HXK:Hid ((n.outs++n.vars)[k-n.ins.length]? =some x):=by show _=_;rw[vrs_drop,show n.ins.length+(k-n.ins.length)=k by omega];exact HXV.out
         have HDX:=Lib.hid (HDF.out x.name)
         have HNM:Hid (x.name∉(nms (vrs n)).take k):=HD.out k x HXV.out
         have i0:(0:Int)≤(k:Int):=by omega
         have i1:(k:Int)<(L.length:Int):=by omega
         obtain ⟨c0,c1,cc2,c3,c4,c5,c6⟩:=rn5.nd
         clear hx hxs ok
         go_upto_region 38 with (fail)
         have HK:Hid (∀W,Below wr.heap.size wr W→(W.cell? ⟨w.heap.size+1,0,none⟩=some (.string n.name)∧W.cell? ⟨w.heap.size+1,1,none⟩=some (.slice a.ai n.ins.length a.ci)∧W.cell? ⟨w.heap.size+1,2,none⟩=some (.slice a.ao n.outs.length a.co)∧W.cell? ⟨w.heap.size+1,3,none⟩=some (.slice a.av n.vars.length a.cv)∧W.cell? ⟨w.heap.size+1,4,none⟩=some (.slice a.aq n.eqs.length a.cq)∧W.cell? ⟨w.heap.size+1,5,none⟩=some (.int .i64 n.line)∧W.cell? ⟨w.heap.size+1,6,none⟩=some (.int .i64 n.col))∧W.cell? ⟨b,off+k*5,none⟩=some (.string x.name)):=fun W hW=>⟨(rn5.below hW rn5.lt).nd,old_cell hW d0⟩
         go_cut[17] (fun v17 W=>∃x1 y1:Int,v17= .int .i64 x1∧Hid (DefZ n x.name x1 y1)∧Below wr.heap.size wr W)
         case first=>
          go_region_held3 (fun W=>(W.cell? ⟨w.heap.size+1,0,none⟩=some (.string n.name)∧W.cell? ⟨w.heap.size+1,1,none⟩=some (.slice a.ai n.ins.length a.ci)∧W.cell? ⟨w.heap.size+1,2,none⟩=some (.slice a.ao n.outs.length a.co)∧W.cell? ⟨w.heap.size+1,3,none⟩=some (.slice a.av n.vars.length a.cv)∧W.cell? ⟨w.heap.size+1,4,none⟩=some (.slice a.aq n.eqs.length a.cq)∧W.cell? ⟨w.heap.size+1,5,none⟩=some (.int .i64 n.line)∧W.cell? ⟨w.heap.size+1,6,none⟩=some (.int .i64 n.col))∧W.cell? ⟨b,off+k*5,none⟩=some (.string x.name)) (first|(with_reducible exact HK.out _ bE)|go_keep)
           (first|((go_at_call 185);(refine (HDX.out _ (hB5.trans (Below.mono (B:=wr.heap.size) bE hsB5))).mono ?_);rintro e w3 ⟨⟨x1,y1,rfl,hd⟩,hb3⟩;(have hb4:Below wr.heap.size wr w3:=Below.trans bE (hb3.mono lE));(have hs4:=hb4.size)))
          all_goals
           go_wp2_with fail
           go_meet
           exact ⟨x1,y1,rfl,hd,bE⟩
         case rest=>
          obtain ⟨x1,y1,rfl,hd,hbc⟩:=hcut
          have rf6:=rf5.below hbc rf5.lt
          have hB6:=hB5.trans (hbc.mono hsB5)
          have n3:=old_cell hbc d3
          have n4:=old_cell hbc d4
          clear c0 c1 cc2 c3 c4 c5 c6 d0 d1 d2 d3 d4 HK
          by_cases q1:x1<0
          ·have q1':decide (x1<0)=true:=dec_yes q1
           have HF:Hid (nodeF s 0 n=⟨26,x.line,x.col⟩):=by
            have e:defF n (k-n.ins.length) x=⟨26,x.line,x.col⟩:=by unfold defF;rw[if_pos ((def_iff hik HNM.out hd.out).1 q1)]
            show _=_
            rw[HF3.out,fstL_stop HJ.out HXK.out (by rw[e];show (26:Int)≠0;decide),e]
           clear q1
           refine' zq44
           refine' zq208
           refine' zq5
          ·have q1':decide (x1<0)=false:=dec_no q1
           have HJ':Hid (∀j,j<(k+1)-n.ins.length→∀x,(n.outs++n.vars)[j]? =some x→(defF n j x).err=0):=by
            have h:=step_uptoI (P:=fun j x=>(defF n j x).err=0) HJ.out HXK.out (by unfold defF;rw[if_neg (fun g=>q1 ((def_iff hik HNM.out hd.out).2 g))])
            rw[show k+1-n.ins.length=k-n.ins.length+1 by omega]
            exact h
           clear q1
           go_wp2_with fail
           go_roundw
           case rel=>exact ⟨k+1,by omega,by omega,by go_num,HJ',hbr2.trans (hbc.mono hszr2)⟩
           case measure=>first|(simp[intOf];omega)|simp[intOf]
        ·obtain rfl:k=L.length:=by omega
         have HF:Hid (nodeF s 0 n=ft0):=by
          show _=_
          rw[HF3.out]
          refine fstL_end ?_
          have hll:(n.outs++n.vars).length=L.length-n.ins.length:=by rw[←HLL.out,vrs];simp only[List.length_append];omega
          rw[hll]
          exact HJ.out
         refine' zq87
end Go.Proofs.YtgjfkidbfmbjoaaGreat
