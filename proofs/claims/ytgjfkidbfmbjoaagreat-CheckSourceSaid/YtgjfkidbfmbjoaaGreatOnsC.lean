/-
  What is wrong first with first ticks: the contracts of onset.Check and tompionref19.Check.
-/
import Derived.Test.YtgjfkidbfmbjoaaGreatZz
import Derived.Test.YtgjfkidbfmbjoaaGreatRepL
import Derived.Test.YtgjfkidbfmbjoaaGreatOnsetRef
set_option maxHeartbeats 1000000
set_option maxRecDepth 100000
namespace Go.Proofs.YtgjfkidbfmbjoaaGreat
open Go.RowKit
abbrev ftOf (f:Fl):Ft:=⟨f.err,f.line,f.col⟩
noncomputable def onsQ (q:Eqn):Ft:=if (lateR q.right).2.err≠0 then ftOf (lateR q.right).2 else if (lateR q.right).1=true then ⟨31,q.line,q.col⟩ else ft0
noncomputable def onsN (_:Nat) (n:Nd):Ft:=fstL (fun _ q=>onsQ q) n.eqs
noncomputable def onsF (s:List Nd):Ft:=ft2 (scopeF s) (fstL onsN s)
theorem onsQ_1 {q:Eqn} {b:Bool} {f:Fl} (h:lateR q.right=(b,f)) (hf:f.err≠0):onsQ q=ftOf f:=by unfold onsQ;rw[h];exact if_pos hf
theorem onsQ_2 {q:Eqn} {b:Bool} {f:Fl} (h:lateR q.right=(b,f)) (hf:f.err=0) (hb:b=true):onsQ q=⟨31,q.line,q.col⟩:=by
 unfold onsQ;rw[h,if_neg (fun g=>g hf),if_pos hb]
theorem onsQ_3 {q:Eqn} {b:Bool} {f:Fl} (h:lateR q.right=(b,f)) (hf:f.err=0) (hb:b=false):onsQ q=ft0:=by
 unfold onsQ;rw[h];simp[hf,hb]
theorem ocheck_any (s:List Nd) (A:Option Addr) (cap:Nat) (w:World) (sm:SrcSm s) (h1:s.length≤cap) (h2:cap≤maxLen) (h:Nds w w.heap.size A s):
  Calls Tryz.prog 59 #[srcV s A cap] w fun r w'=>r= .returned (ftV (onsF s))∧Below w.heap.size w w':=by
 refine' zq7
 refine' zq30
 clear h sm
 go_enter Tryz.func59,Tryz.ntmps59
 refine' zq112
 refine' zq109
 have c0:=rs4.src
 go_wp2_with fail
 clear c0
 go_loopw[19] (fun i wr=>∃k:Nat,k≤s.length∧i= .int .i64 k∧Hid (∀j,j<k→∀x,s[j]? =some x→(onsN j x).err=0)∧Below w4.heap.size w4 wr) (fun i _=>s.length-(intOf i).toNat)
 case atStart=>exact ⟨0,Nat.zero_le _,rfl,fun j h=>absurd h (by omega),Below.refl _ _⟩
 case round=>
  refine' zq56
  have rf:=rf4.below hbr rf4.lt
  have hB:=hB4.trans (hbr.mono hs4)
  have hsB:=hB.size
  by_cases hlt:k<s.length
  ·refine' zq211
   rw[hA]
   have HA:=Lib.hid hA
   have HX:=Lib.hid hn
   refine' zq187
   have rn:=Row.new wr (ndArr n a) 39
   refine' zq43
   clear hA hn hat
   go_upto_region 7 with (fail)
   clear d0 d1 d2 d3 d4 d5 d6
   refine' zq60
   obtain ⟨d0,d1,d2,d3,d4,d5,d6⟩:=rn.nd
   refine' zq118
   go_wp2_with fail
   clear d0 d1 d2 d3 d4 d5 d6
   go_loopw[26] (fun i wr=>∃p:Nat,p≤n.eqs.length∧i= .int .i64 p∧Hid (∀j,j<p→∀x,n.eqs[j]? =some x→(onsQ x).err=0)∧Below w6.heap.size w6 wr) (fun i _=>n.eqs.length-(intOf i).toNat)
   case atStart=>exact ⟨0,Nat.zero_le _,rfl,fun j h=>absurd h (by omega),Below.refl _ _⟩
   case round=>
    refine' zq265
    have rf7:=rf6.below hbq rf6.lt
    have hB7:=hB6.trans (hbq.mono hs6)
    have hsB7:=hB7.size
    by_cases hlp:p<n.eqs.length
    ·obtain ⟨b',off',q,A1,k1,A2,k2,hAq,hbb,hq,ok,lq1,mq1,sl1,lq2,mq2,sl2,d0,d1,d2,d3,d4,d5,d6,d7,d8⟩:=(HQ.out wr (ba.trans (hbq.mono hsa))).eqn hlp
     rw[hAq]
     refine' zq74
     have HR:=Lib.hid (late_any q.right A2 k2 (wr.alloc (.cells (eqArr q A1 k1 A2 k2) 81)) lq2 mq2 (exs_keep sl2 (keeps_of (be.mono hsB7)) (by have:=be.size;omega)))
     refine' zq213
     obtain ⟨L,HLT⟩:∃L,Hid (lateR q.right=L):=⟨_,rfl⟩
     rw[HLT.out] at HR
     obtain ⟨bl,fl⟩:=L
     clear hAq hq ok sl1 sl2
     go_upto_region 10 with (fail)
     clear d0 d1 d2 d3 d4 d5 d6 d7 d8
     refine' zq81
     by_cases hfl:fl.err=0
     ·have hfl1:(fl.err !=0)=false:=neq_no hfl
      cases bl
      ·have HP':=Lib.hid (step_uptoI (P:=fun _ x=>(onsQ x).err=0) HP.out HXQ.out (by rw[onsQ_3 HLT.out hfl rfl]))
       clear hfl
       have b9:Below w6.heap.size w6 (w9.alloc (.cells #[.int .i64 fl.err,.int .i64 fl.line,.int .i64 fl.col] 31)):=((hbq.trans (be.mono hszq)).trans (hb9.mono (by omega))).alloc (by omega) _
       go_wp2_with fail
       go_roundw
       case rel=>exact ⟨p+1,by omega,by go_num,HP',b9⟩
       case measure=>first|(simp[intOf];omega)|simp[intOf]
      ·have HF:Hid (onsF s=⟨31,q.line,q.col⟩):=by
        have e:=onsQ_2 HLT.out hfl rfl
        exact (HFn.out (by rw[e];show (31:Int)≠0;decide)).trans e
       clear hfl
       refine' zq51
     ·refine' zq249
    ·obtain rfl:p=n.eqs.length:=by omega
     have HN':=Lib.hid (step_uptoI (P:=fun j x=>(onsN j x).err=0) HN.out HX.out (by unfold onsN;rw[fstL_end HP.out]))
     go_wp2_with fail
     go_roundw
     case rel=>exact ⟨k+1,by omega,by go_num,HN',hbr.trans ((ba.trans (hbq.mono hsa)).mono hszr)⟩
     case measure=>first|(simp[intOf];omega)|simp[intOf]
  ·obtain rfl:k=s.length:=by omega
   have HF:Hid (onsF s=ft0):=HF1.out.trans (fstL_end HN.out)
   refine' zq11
theorem rocheck_any (s:List Nd) (A:Option Addr) (cap:Nat) (w:World) (sm:SrcSm s) (h1:s.length≤cap) (h2:cap≤maxLen) (h:Nds w w.heap.size A s):
  Calls Tryz.prog 51 #[srcV s A cap] w fun r w'=>r= .returned (ftV (onsF s))∧Below w.heap.size w w':=by
 refine' zq7
 refine' zq30
 clear h sm
 go_enter Tryz.func51,Tryz.ntmps51
 refine' zq110
 refine' zq109
 go_wp2_with fail
 go_loopw[4] (fun i wr=>∃k:Nat,k≤s.length∧i= .int .i64 k∧Hid (∀j,j<k→∀x,s[j]? =some x→(onsN j x).err=0)∧Below w4.heap.size w4 wr) (fun i _=>s.length-(intOf i).toNat)
 case atStart=>exact ⟨0,Nat.zero_le _,rfl,fun j h=>absurd h (by omega),Below.refl _ _⟩
 case round=>
  refine' zq170
  by_cases hlt:k<s.length
  ·refine' zq68
   refine' zq187
   refine' zq69
   clear hn hat
   have hszk:=hszr
   refine' zq118
   go_wp2_with fail
   go_loopw[5] (fun i wr=>∃p:Nat,p≤n.eqs.length∧i= .int .i64 p∧Hid (∀j,j<p→∀x,n.eqs[j]? =some x→(onsQ x).err=0)∧Below wo.heap.size wo wr) (fun i _=>n.eqs.length-(intOf i).toNat)
   case atStart=>exact ⟨0,Nat.zero_le _,rfl,fun j h=>absurd h (by omega),Below.refl _ _⟩
   case round=>
    refine' zq265
    have rf7:=rf.below hbq rf.lt
    have rs7:=rs.below hbq rs.lt
    have hB7:=hB.trans (hbq.mono hsB)
    have hsB7:=hB7.size
    have m4:=old_cell hbq d4
    have z0:=rs7.src
    clear d0 d1 d2 d3 d4 d5 d6 c0
    by_cases hlp:p<n.eqs.length
    ·obtain ⟨b',off',q,A1,k1,A2,k2,hAq,hbb,hq,ok,lq1,mq1,sl1,lq2,mq2,sl2,d0,d1,d2,d3,d4,d5,d6,d7,d8⟩:=(HQ.out wr hbq).eqn hlp
     rw[hAq] at m4
     refine' zq74
     have HR:=Lib.hid (rwrong_any q.right A2 k2 (wr.alloc (.cells (eqArr q A1 k1 A2 k2) 81)) lq2 mq2 (exs_keep sl2 (keeps_of (be.mono hsB7)) (by have:=be.size;omega)))
     refine' zq213
     have HX2W:Hid (∀W,Below wr.heap.size wr W→IsExs W w.heap.size A2 q.right.args):=fun W hW=>exs_keep sl2 (keeps_of (hW.mono hsB7)) (Nat.le_refl _)
     obtain ⟨L,HLT⟩:∃L,Hid (lateR q.right=L):=⟨_,rfl⟩
     obtain ⟨bl,fl⟩:=L
     have hli:=late_is q.right
     rw[HLT.out] at hli
     have HRW:Hid (rwrong q.right=fl):=(congrArg Prod.snd hli).symm
     have HRL:Hid (fl.err=0→rlate q.right=bl):=fun g=>by
      have h:=congrArg Prod.fst hli
      simp only[HRW.out,g] at h
      simpa using h.symm
     rw[HRW.out] at HR
     have i2:(0:Int)≤(p:Int):=by omega
     have i3:(p:Int)<(n.eqs.length:Int):=by omega
     clear hli
     clear hAq hq ok sl1 sl2
     go_upto_region 11 with (fail)
     clear d0 d1 d2 d3 d4 d5 d6 d7 d8 m4 z0
     refine' zq81
     by_cases hfl:fl.err=0
     ·have hfl1:(fl.err !=0)=false:=neq_no hfl
      have HR2:=Lib.hid (HRL.out hfl)
      have bX:Below w9.heap.size w9 (w9.alloc (.cells #[.int .i64 fl.err,.int .i64 fl.line,.int .i64 fl.col] 31)):=(by repeat (first|(with_reducible assumption)|(with_reducible exact Below.refl _ _)|(with_reducible refine Below.drew ?_)|(with_reducible refine below_drewN' ?_ _)|(with_reducible refine Below.alloc ?_ (by first|assumption|omega|(simp;omega)|simp|(simp[World.setCell];omega)|simp[World.setCell]) _)|(with_reducible refine Below.setCell ?_ (by first|assumption|omega|(simp;omega)|simp|(simp[World.setCell];omega)|simp[World.setCell]) _)))
      have HX2:=Lib.hid (HX2W.out w9 (be.trans (hb9.mono hse)))
      have HFL:=Lib.hid hfl
      clear hfl
      go_upto_region 14 with (fail)
      generalize hWx:w9.alloc (.cells #[.int .i64 fl.err,.int .i64 fl.line,.int .i64 fl.col] 31)=wx at*
      clear hWx
      have rfx:=rf9.below bX rf9.lt
      have rex:=re9.below bX re9.lt
      have hBx:=hB9.trans (bX.mono hsB9)
      have hsx:=bX.size
      have hsBx:=hBx.size
      clear d0 d1 d2 d3 d4 d5 d6 d7 d8 k0 k1' k2' g0 g1 g2
      obtain ⟨d0,d1,d2,d3,d4,d5,d6,d7,d8⟩:=rex.eqn
      go_wp2_with fail
      refine (rlate_any q.right A2 k2 wx lq2 mq2 (exs_keep HX2.out (keeps_of (bX.mono hsB9)) (by omega))).mono ?_
      rintro r wy ⟨rfl,hby⟩
      rw[HR2.out]
      have rfy:=rfx.below hby rfx.lt
      have rey:=rex.below hby rex.lt
      have hBy:=hBx.trans (hby.mono hsBx)
      have hsy:=hby.size
      clear d0 d1 d2 d3 d4 d5 d6 d7 d8
      obtain ⟨d0,d1,d2,d3,d4,d5,d6,d7,d8⟩:=rey.eqn
      obtain ⟨⟨k0,k1',k2'⟩,g0,g1,g2⟩:=rfy.three
      cases bl
      ·have HP':=Lib.hid (step_uptoI (P:=fun _ x=>(onsQ x).err=0) HP.out HXQ.out (by rw[onsQ_3 HLT.out HFL.out rfl]))
       have b9:Below wo.heap.size wo wy:=((hbq.trans (be.mono hszq)).trans (hb9.mono (by omega))).trans ((bX.trans (hby.mono hsx)).mono (by omega))
       go_wp2_with fail
       go_roundw
       case rel=>exact ⟨p+1,by omega,by go_num,HP',b9⟩
       case measure=>first|(simp[intOf];omega)|simp[intOf]
      ·have HF:Hid (onsF s=⟨31,q.line,q.col⟩):=by
        have e:=onsQ_2 HLT.out HFL.out rfl
        exact (HFn.out (by rw[e];show (31:Int)≠0;decide)).trans e
       go_wp2_with fail
       exact bodyPost_ret (res1 rfl Tryz.underlying31 rfl (by kernel_rfl) rfl (rfy.set3 _ _ _)) rfl ⟨(congrArg (fun f=>Ending.returned (ftV f)) HF.out).symm,below_set3 hBy (by first|omega|(simp;omega)|simp) _ _ _⟩
     ·refine' zq249
    ·obtain rfl:p=n.eqs.length:=by omega
     have HN':=Lib.hid (step_uptoI (P:=fun j x=>(onsN j x).err=0) HN.out HX.out (by unfold onsN;rw[fstL_end HP.out]))
     go_wp2_with fail
     go_roundw
     case rel=>exact ⟨k+1,by omega,by go_num,HN',hbr.trans (hbq.mono hszr)⟩
     case measure=>first|(simp[intOf];omega)|simp[intOf]
  ·obtain rfl:k=s.length:=by omega
   have HF:Hid (onsF s=ft0):=HF1.out.trans (fstL_end HN.out)
   refine' zq11
end Go.Proofs.YtgjfkidbfmbjoaaGreat
