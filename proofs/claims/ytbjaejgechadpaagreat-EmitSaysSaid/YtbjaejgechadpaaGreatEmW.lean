/-
  The contracts of tompionref28's skipped and Right. Forms of few parts for layer 30; its example.
-/
import Derived.Test.YtbjaejgechadpaaGreatRefTakes
import Derived.Test.YtbjaejgechadpaaGreatEmE
import Derived.Test.YtbjaejgechadpaaGreatRefKind
namespace Go.Proofs.YtbjaejgechadpaaGreat
open Go.RowKit Vf
section
variable {p:Pg} {vi vo vc vd:Value}
def skips (p:Pg) (i j:Nat):Prop:=∃x,p.code[j]? =some x∧(x.op=30∨x.op=31)∧(i:Int)-j≤x.k
theorem skips_no {i k:Nat} {x:In5} (hx:p.code[k]? =some x) (h:¬((x.op=30∨x.op=31)∧(i:Int)-k≤x.k)):¬skips p i k:=fun ⟨y,hy,h1⟩=>by
 rw[hx] at hy
 injection hy with hy
 rw[←hy] at h1
 exact h h1
theorem skipped_no {i:Nat} (h:∀j,j<i→¬skips p i j):¬skipped p i:=fun ⟨k,x,hk,hx,h1,h2⟩=>h k hk ⟨x,hx,h1,h2⟩
set_option maxRecDepth 100000 in
set_option maxHeartbeats 2000000 in
theorem skipped_any {i:Nat} (hi:i≤p.code.length) (w:World) (h:PgAt w w.heap.size p vi vo vc vd):
  Calls Tryz.prog 41 #[pgV p vi vo vc vd,.int .i64 i] w fun e w'=>e= .returned (.bool (cB (skipped p i)))∧Below w.heap.size w w':=by
 obtain ⟨⟨Ai,ci,rfl,li,mi,si⟩,⟨Ao,co,rfl,lo,mo,so⟩,hreg,⟨Ac,cc,rfl,lc,mc,sc⟩,⟨Ad,cd,rfl,ld,md,sd⟩⟩:=h
 have md':cd≤9223372036854775807:=by unfold maxLen at md;omega
 have b0:Below w.heap.size w (w.alloc (.cells #[.slice Ai p.ins.length ci,.slice Ao p.outs.length co,.int .i64 p.regs,.slice Ac p.cells.length cc,.slice Ad p.code.length cd] 37)):=(Below.refl _ _).alloc (Nat.le_refl _) _
 have sd0:=sd.below b0
 clear sd si so sc
 go_enter Tryz.func41,Tryz.ntmps41
 go_wp2_with fail
 go_loop[5] (fun s=>∃k:Nat,k≤i∧s= .int .i64 k∧Hid (∀j,j<k→¬skips p i j)) (fun s=>i-(intOf s).toNat)
 case atStart=>exact ⟨0,Nat.zero_le _,rfl,fun j h=>absurd h (by omega)⟩
 case round=>
  obtain ⟨k,hk,rfl,HN⟩:=hrel
  by_cases hlt:k<i
  ·obtain ⟨b,off,x,rfl,hb,hxk,hok,c0,c1,c2,c3,c4⟩:=sd0.in5 (show k<p.code.length by omega)
   have hkl:(k:Int)<p.code.length:=by omega
   have hkw:=hok.k.le
   by_cases ho:x.op=30∨x.op=31
   ·by_cases hs:(i:Int)-k≤x.k
    ·have HF:=Lib.hid (cB_true (show skipped p i from ⟨k,x,hlt,hxk,ho,hs⟩))
     clear hxk
     rcases ho with ho|ho
     ·have o1:(x.op==30)=true:=by simp[ho]
      clear ho
      go_wp2_with fail
      go_ret
      exact ⟨ret_bool HF.out.symm,b0⟩
     ·have o1:(x.op==30)=false:=by simp[ho]
      have o2:(x.op==31)=true:=by simp[ho]
      clear ho
      go_wp2_with fail
      go_ret
      exact ⟨ret_bool HF.out.symm,b0⟩
    ·have HN':=Lib.hid (upto_succ HN.out (skips_no hxk (fun g=>hs g.2)))
     clear hxk
     rcases ho with ho|ho
     ·have o1:(x.op==30)=true:=by simp[ho]
      clear ho
      go_wp2_with fail
      go_round
      case rel=>exact ⟨k+1,by omega,by go_num,HN'⟩
      case measure=>simp[intOf];omega
     ·have o1:(x.op==30)=false:=by simp[ho]
      have o2:(x.op==31)=true:=by simp[ho]
      clear ho
      go_wp2_with fail
      go_round
      case rel=>exact ⟨k+1,by omega,by go_num,HN'⟩
      case measure=>simp[intOf];omega
   ·have HN':=Lib.hid (upto_succ HN.out (skips_no hxk (fun g=>ho g.1)))
    have o1:(x.op==30)=false:=by simp;omega
    have o2:(x.op==31)=false:=by simp;omega
    clear hxk ho
    go_wp2_with fail
    go_round
    case rel=>exact ⟨k+1,by omega,by go_num,HN'⟩
    case measure=>simp[intOf];omega
  ·obtain rfl:k=i:=by omega
   have HF:=Lib.hid (cB_false (skipped_no HN.out))
   go_wp2_with fail
   go_ret
   exact ⟨ret_bool HF.out.symm,b0⟩
theorem right_no {k:Nat} {x:In5} (hx:p.code[k]? =some x) (h:¬instrRight p k x):¬rightOk p:=fun g=>h (g.2.1 k x hx)
theorem right_outs {o:Nat} (ho:o<p.outs.length) (h:outCount p o p.code≠1):¬rightOk p:=fun g=>h (g.2.2 o ho)
theorem right_yes (hm:mayOk p) (h1:∀j,j<p.code.length→∀x,p.code[j]? =some x→instrRight p j x) (h2:∀o,o<p.outs.length→outCount p o p.code=1):rightOk p:=
 ⟨hm,fun i x hx=>h1 i (List.getElem?_eq_some_iff.1 hx).1 x hx,h2⟩
theorem outCount_snoc {o:Int} {x:In5}:∀l:List In5,outCount p o (l++ [x])=outCount p o l+(if x.op=29∧x.k=o then 1 else 0)
 | []=>by simp[outCount]
 |y::l=>by rw[List.cons_append,outCount,outCount,outCount_snoc l];omega
theorem outCount_take {o:Int} {k:Nat} {x:In5} (hx:p.code[k]? =some x):outCount p o (p.code.take (k+1))=outCount p o (p.code.take k)+(if x.op=29∧x.k=o then 1 else 0):=by
 obtain ⟨h,e⟩:=List.getElem?_eq_some_iff.1 hx
 rw[List.take_succ_eq_append_getElem h,outCount_snoc,e]
theorem outCount_le {o:Int}:∀l:List In5,outCount p o l≤l.length
 | []=>by simp[outCount]
 |y::l=>by rw[outCount,List.length_cons];have:=outCount_le (o:=o) l;split<;>omega
set_option maxRecDepth 100000 in
set_option maxHeartbeats 8000000 in
theorem kright_any (w:World) (h:PgAt w w.heap.size p vi vo vc vd):
  Calls Tryz.prog 17 #[pgV p vi vo vc vd] w fun e w'=>e= .returned (.bool (cB (rightOk p)))∧Below w.heap.size w w':=by
 have HP:=Lib.hid h
 have b0:Below w.heap.size w (w.alloc (.cells #[vi,vo,.int .i64 p.regs,vc,vd] 37)):=(Below.refl _ _).alloc (Nat.le_refl _) _
 have hM:=Lib.hid (rmay_any p vi vo vc vd _ (h.next b0))
 clear b0
 obtain ⟨⟨Ai,ci,rfl,li,mi,si⟩,⟨Ao,co,rfl,lo,mo,so⟩,hreg,⟨Ac,cc,rfl,lc,mc,sc⟩,⟨Ad,cd,rfl,ld,md,sd⟩⟩:=h
 have mo':co≤9223372036854775807:=by unfold maxLen at mo;omega
 have md':cd≤9223372036854775807:=by unfold maxLen at md;omega
 clear si so sc
 go_enter Tryz.func17,Tryz.ntmps17
 go_wp2_with fail
 refine hM.out.mono ?_
 rintro e w0 ⟨rfl,hb0⟩
 have hbox0:Below (w.heap.size+1) (w.alloc (.cells #[.slice Ai p.ins.length ci,.slice Ao p.outs.length co,.int .i64 p.regs,.slice Ac p.cells.length cc,.slice Ad p.code.length cd] 37)) w0:=by simpa using hb0
 obtain ⟨⟨q0,q1,q2,q3,q4⟩,hbel0,hsz0⟩:=pgBox hbox0
 generalize hV:cB (mayOk p)=V at*
 have HV:=Lib.hid hV
 clear hV hb0 hM
 cases V
 ·have HF:=Lib.hid (cB_false (fun g:rightOk p=>cB_not.1 HV.out g.1))
  go_wp2_with fail
  go_ret
  exact ⟨ret_bool HF.out.symm,hbel0⟩
 have HM:=Lib.hid (cB_iff.1 HV.out)
 go_wp2_with fail
 go_loopw[3] (fun s wr=>∃k:Nat,k≤p.code.length∧s= .int .i64 k∧Hid (∀j,j<k→∀x,p.code[j]? =some x→instrRight p j x)∧Below (w.heap.size+1) (w.alloc (.cells #[.slice Ai p.ins.length ci,.slice Ao p.outs.length co,.int .i64 p.regs,.slice Ac p.cells.length cc,.slice Ad p.code.length cd] 37)) wr) (fun s _=>p.code.length-(intOf s).toNat)
 case atStart=>exact ⟨0,Nat.zero_le _,rfl,fun j h=>absurd h (by omega),hbox0⟩
 case round=>
  clear hbox0 hbel0 hsz0 q0 q1 q2 q3 q4
  obtain ⟨k,hk,rfl,HN,hbox⟩:=hrel
  obtain ⟨⟨q0,q1,q2,q3,q4⟩,hbel,hsz⟩:=pgBox hbox
  by_cases hlt:k<p.code.length
  ·obtain ⟨b,off,x,rfl,hb,hxk,hok,c0,c1,c2,c3,c4⟩:=(sd.below hbel).in5 hlt
   have HK:=Lib.hid hxk
   have hkl:(k:Int)<p.code.length:=by omega
   clear hxk
   have HI:=Lib.hid (HM.out.2.1 x (List.mem_of_getElem? HK.out))
   have hA1:=hbox.alloc (by omega) (.cells #[.int .i64 x.op,.int .i64 x.a,.int .i64 x.b,.int .i64 x.c,.int .i64 x.k] 58)
   have bX1:=Row.new wr #[.int .i64 x.op,.int .i64 x.a,.int .i64 x.b,.int .i64 x.c,.int .i64 x.k] 58
   go_upto_region 7 with (fail)
   generalize wr.alloc (.cells #[.int .i64 x.op,.int .i64 x.a,.int .i64 x.b,.int .i64 x.c,.int .i64 x.k] 58)=W1 at*
   generalize wr.heap.size=gx at*
   clear q0 q1 q2 q3 q4 hbel hbox c0 c1 c2 c3 c4
   obtain ⟨⟨q0,q1,q2,q3,q4⟩,hbel1,hsz1⟩:=pgBox hA1
   have hP1:=HP.out.next hbel1
   have x0:=bX1.cell 0
   have x1:=bX1.cell 1
   have x2:=bX1.cell 2
   have x3:=bX1.cell 3
   have x4:=bX1.cell 4
   simp only[List.getElem?_toArray,List.getElem?_cons_zero,List.getElem?_cons_succ] at x0 x1 x2 x3 x4
   go_wp2_with fail
   refine (rtakes_any _ HK.out hP1 HI.out).mono ?_
   rintro e w2 ⟨rfl,hb2⟩
   have hA2:=hA1.trans (hb2.mono hsz1)
   have bX2:=bX1.below hb2 bX1.lt
   clear q0 q1 q2 q3 q4 x0 x1 x2 x3 x4 hb2 hP1 hbel1
   obtain ⟨⟨q0,q1,q2,q3,q4⟩,hbel2,hsz2⟩:=pgBox hA2
   have hP2:=HP.out.next hbel2
   have x0:=bX2.cell 0
   have x1:=bX2.cell 1
   have x2:=bX2.cell 2
   have x3:=bX2.cell 3
   have x4:=bX2.cell 4
   simp only[List.getElem?_toArray,List.getElem?_cons_zero,List.getElem?_cons_succ] at x0 x1 x2 x3 x4
   generalize hV2:cB (takesOk p (pairs p k) k x)=V2 at*
   have HV2:=Lib.hid hV2
   clear hV2
   cases V2
   ·have HF:=Lib.hid (cB_false (right_no HK.out (fun g=>cB_not.1 HV2.out g.1)))
    go_wp2_with fail
    go_ret
    exact ⟨ret_bool HF.out.symm,hbel2⟩
   have HT:=Lib.hid (cB_iff.1 HV2.out)
   clear HV2
   by_cases ho:x.op<29
   ·go_wp2_with fail
    refine (gives_all (by omega) x _ HK.out hP2).mono ?_
    rintro e w3 ⟨rfl,hb3⟩
    have hA3:=hA2.trans (hb3.mono hsz2)
    have bX3:=bX2.below hb3 bX2.lt
    clear q0 q1 q2 q3 q4 x0 x1 x2 x3 x4 hb3 hP2 hbel2
    obtain ⟨⟨q0,q1,q2,q3,q4⟩,hbel3,hsz3⟩:=pgBox hA3
    have hP3:=HP.out.next hbel3
    have x0:=bX3.cell 0
    have x1:=bX3.cell 1
    have x2:=bX3.cell 2
    have x3:=bX3.cell 3
    have x4:=bX3.cell 4
    simp only[List.getElem?_toArray,List.getElem?_cons_zero,List.getElem?_cons_succ] at x0 x1 x2 x3 x4
    generalize hG:givesOf p (pairs p k) x=G at*
    have HG:=Lib.hid hG
    clear hG
    have o29:(x.op==29)=false:=by simp;omega
    by_cases hr:p.regs≤x.a
    ·have HF:=Lib.hid (cB_false (right_no HK.out (fun g=>by have:=(g.2.1 ho).1;omega)))
     go_wp2_with fail
     go_ret
     exact ⟨ret_bool HF.out.symm,hbel3⟩
    go_wp2_with fail
    refine (kind_all k (by omega) x.a _ hP3).mono ?_
    rintro e w4 ⟨rfl,hb4⟩
    have hA4:=hA3.trans (hb4.mono hsz3)
    have bX4:=bX3.below hb4 bX3.lt
    clear q0 q1 q2 q3 q4 x0 x1 x2 x3 x4 hb4 hP3 hbel3
    obtain ⟨⟨q0,q1,q2,q3,q4⟩,hbel4,hsz4⟩:=pgBox hA4
    have hP4:=HP.out.next hbel4
    have x0:=bX4.cell 0
    have x1:=bX4.cell 1
    have x2:=bX4.cell 2
    have x3:=bX4.cell 3
    have x4:=bX4.cell 4
    simp only[List.getElem?_toArray,List.getElem?_cons_zero,List.getElem?_cons_succ] at x0 x1 x2 x3 x4
    generalize hQ:kindAcc (pairs p k) x.a 0=Q at*
    have HQ:=Lib.hid hQ
    clear hQ
    by_cases hq:Q=0
    ·have q':(Q !=0)=false:=by simp[hq]
     have HQ0:=Lib.hid hq
     clear hq
     by_cases hg:G=1∨G=2
     ·have HN':=Lib.hid (upto_succ HN.out (fun y hy=>by
       rw[HK.out] at hy;injection hy with hy;rw[←hy]
       exact ⟨HT.out,fun _=>⟨by omega,HQ.out.trans HQ0.out,by rw[HG.out];exact hg⟩,fun g=>absurd g (by omega)⟩))
      rcases hg with rfl|rfl
      all_goals
       go_wp2_with fail
       go_roundw
       case rel=>exact ⟨k+1,by omega,by go_num,HN',hA4⟩
       case measure=>simp[intOf];omega
     ·have HF:=Lib.hid (cB_false (right_no HK.out (fun g=>hg (by have:=(g.2.1 ho).2.2;rw[HG.out] at this;exact this))))
      have g1:(G !=1)=true:=by simp;omega
      have g2:(G !=2)=true:=by simp;omega
      clear hg
      go_wp2_with fail
      go_ret
      exact ⟨ret_bool HF.out.symm,hbel4⟩
    ·have q':(Q !=0)=true:=by simp[hq]
     have HF:=Lib.hid (cB_false (right_no HK.out (fun g=>hq (HQ.out.symm.trans (g.2.1 ho).2.1))))
     clear hq
     go_wp2_with fail
     go_ret
     exact ⟨ret_bool HF.out.symm,hbel4⟩
   ·by_cases o29:x.op=29
    ·have o29':(x.op==29)=true:=by simp[o29]
     have HO:=Lib.hid o29
     clear o29
     go_wp2_with fail
     refine (skipped_any (i:=k) (by omega) _ hP2).mono ?_
     rintro e w3 ⟨rfl,hb3⟩
     have hA3:=hA2.trans (hb3.mono hsz2)
     have bX3:=bX2.below hb3 bX2.lt
     clear q0 q1 q2 q3 q4 x0 x1 x2 x3 x4 hb3 hP2 hbel2
     obtain ⟨⟨q0,q1,q2,q3,q4⟩,hbel3,hsz3⟩:=pgBox hA3
     have hP3:=HP.out.next hbel3
     have x0:=bX3.cell 0
     have x1:=bX3.cell 1
     have x2:=bX3.cell 2
     have x3:=bX3.cell 3
     have x4:=bX3.cell 4
     simp only[List.getElem?_toArray,List.getElem?_cons_zero,List.getElem?_cons_succ] at x0 x1 x2 x3 x4
     generalize hV3:cB (skipped p k)=V3 at*
     have HV3:=Lib.hid hV3
     clear hV3
     cases V3
     ·have HN':=Lib.hid (upto_succ HN.out (fun y hy=>by
       rw[HK.out] at hy;injection hy with hy;rw[←hy]
       exact ⟨HT.out,fun g=>absurd g (by omega),fun _=>cB_not.1 HV3.out⟩))
      go_wp2_with fail
      go_roundw
      case rel=>exact ⟨k+1,by omega,by go_num,HN',hA3⟩
      case measure=>simp[intOf];omega
     ·have HF:=Lib.hid (cB_false (right_no HK.out (fun g=>g.2.2 HO.out (cB_iff.1 HV3.out))))
      go_wp2_with fail
      go_ret
      exact ⟨ret_bool HF.out.symm,hbel3⟩
    ·have o29':(x.op==29)=false:=by simp[o29]
     have HN':=Lib.hid (upto_succ HN.out (fun y hy=>by
      rw[HK.out] at hy;injection hy with hy;rw[←hy]
      exact ⟨HT.out,fun g=>absurd g (by omega),fun g=>absurd g o29⟩))
     clear o29
     go_wp2_with fail
     go_roundw
     case rel=>exact ⟨k+1,by omega,by go_num,HN',hA2⟩
     case measure=>simp[intOf];omega
  ·obtain rfl:k=p.code.length:=by omega
   have HC:=Lib.hid HN.out
   clear HN hk hlt
   have HSD:=Lib.hid (sd.below hbel)
   generalize wr=W0 at*
   go_wp2_with fail
   go_loop[6] (fun s=>∃o:Nat,o≤p.outs.length∧s= .int .i64 o∧Hid (∀j,j<o→outCount p j p.code=1)) (fun s=>p.outs.length-(intOf s).toNat)
   case atStart=>exact ⟨0,Nat.zero_le _,rfl,fun j h=>absurd h (by omega)⟩
   case round=>
    obtain ⟨o,ho,rfl,HN⟩:=hrel
    by_cases hlt:o<p.outs.length
    ·go_wp2_with fail
     go_loop[7,8] (fun t s=>∃k:Nat,k≤p.code.length∧s= .int .i64 k∧t= .int .i64 (outCount p o (p.code.take k):Nat)) (fun _ s=>p.code.length-(intOf s).toNat)
     case atStart=>exact ⟨0,Nat.zero_le _,rfl,rfl⟩
     case round=>
      obtain ⟨k,hk,rfl,rfl⟩:=hrel
      have hcl:=outCount_le (p:=p) (o:=o) (p.code.take k)
      have htl:(p.code.take k).length≤k:=List.length_take_le _ _
      by_cases hlt2:k<p.code.length
      ·obtain ⟨b,off,x,rfl,hb,hxk,hok,c0,c1,c2,c3,c4⟩:=HSD.out.in5 hlt2
       have hkl:(k:Int)<p.code.length:=by omega
       have HS:=Lib.hid (outCount_take (o:=(o:Int)) hxk)
       clear hxk
       generalize outCount p o (p.code.take k)=T at*
       by_cases h29:x.op=29
       ·have h29':(x.op==29)=true:=by simp[h29]
        by_cases hko:x.k=o
        ·have hko':(x.k==(o:Int))=true:=by simp[hko]
         have HS':=Lib.hid (show outCount p o (p.code.take (k+1))=T+1 by rw[HS.out,if_pos ⟨h29,hko⟩])
         clear h29 hko HS
         go_wp2_with fail
         go_round
         case rel=>exact ⟨k+1,by omega,by go_num,by rw[HS'.out];go_num⟩
         case measure=>simp[intOf];omega
        ·have hko':(x.k==(o:Int))=false:=by simp[hko]
         have HS':=Lib.hid (show outCount p o (p.code.take (k+1))=T by rw[HS.out,if_neg (fun g=>hko g.2)];rfl)
         clear h29 hko HS
         go_wp2_with fail
         go_round
         case rel=>exact ⟨k+1,by omega,by go_num,by rw[HS'.out]⟩
         case measure=>simp[intOf];omega
       ·have h29':(x.op==29)=false:=by simp[h29]
        have HS':=Lib.hid (show outCount p o (p.code.take (k+1))=T by rw[HS.out,if_neg (fun g=>h29 g.1)];rfl)
        clear h29 HS
        go_wp2_with fail
        go_round
        case rel=>exact ⟨k+1,by omega,by go_num,by rw[HS'.out]⟩
        case measure=>simp[intOf];omega
      ·obtain rfl:k=p.code.length:=by omega
       have HE:=Lib.hid (show outCount p o (p.code.take p.code.length)=outCount p o p.code by rw[List.take_length])
       generalize outCount p o (p.code.take p.code.length)=T at*
       by_cases h1:T=1
       ·have h1':((T:Int) !=1)=false:=by simp;omega
        have HN':=Lib.hid (upto_succ HN.out (HE.out.symm.trans h1))
        clear h1
        go_wp2_with fail
        go_round
        case rel=>exact ⟨o+1,by omega,by go_num,HN'⟩
        case measure=>simp[intOf];omega
       ·have h1':((T:Int) !=1)=true:=by simp;omega
        have HF:=Lib.hid (cB_false (right_outs hlt (fun g=>h1 (HE.out.trans g))))
        clear h1
        go_wp2_with fail
        go_ret
        exact ⟨ret_bool HF.out.symm,hbel⟩
    ·obtain rfl:o=p.outs.length:=by omega
     have HF:=Lib.hid (cB_true (right_yes HM.out HC.out HN.out))
     go_wp2_with fail
     go_ret
     exact ⟨ret_bool HF.out.symm,hbel⟩
end
end Go.Proofs.YtbjaejgechadpaaGreat
namespace Go.Proofs.YtbjaejgechadpaaGreat.Fo
open Vf
theorem runs_nil {l:List Stp} {code:List In5} (h:Runs l code) (e:l=[]):code=[]:=by
 cases h with
 |nil=>rfl
 |cons h t c code hne _ _=>exact absurd (List.append_eq_nil_iff.1 e).1 hne
theorem runs_one {x:In5} {body:List In5} (h:Runs [(x,[])] body):body=[x]:=by
 generalize hl: [((x,[]):Stp)]=l at h
 cases h with
 |nil=>cases hl
 |cons h t c code hne hc ht=>
  cases h with
  |nil=>exact absurd rfl hne
  |cons s0 h=>
   simp only[List.cons_append,List.cons.injEq] at hl
   obtain ⟨rfl,hl⟩:=hl
   have hl':=List.append_eq_nil_iff.1 hl.symm
   obtain ⟨rfl,rfl⟩:=hl'
   have hc0:=hc (x,[]) (by simp)
   dsimp only at hc0
   subst hc0
   rw[runs_nil ht rfl]
   simp[skipsOf]
theorem emits_fB {code:List In5} (h:Emits fB code):code=[⟨28,0,0,0,0⟩,⟨5,1,0,0,0⟩,⟨29,1,0,0,0⟩]:=by
 obtain ⟨body,hr,rfl⟩:=h
 have e:stepsOf fB=[((⟨5,1,0,0,0⟩:In5),[])]:=rfl
 rw[e] at hr
 rw[runs_one hr]
 rfl
end Go.Proofs.YtbjaejgechadpaaGreat.Fo
namespace Go.Proofs.YtbjaejgechadpaaGreat
open Go.RowKit Vf Fo
attribute [local go_sem ↓] Go.wp_at_zero Go.wp_at_succ
set_option maxRecDepth 100000 in
set_option maxHeartbeats 4000000 in
theorem few30_any {w:World} {B:Nat} {f:Fm} {vw va vc vk vi vo:Value} (h:FmAt w B f vw va vc vk vi vo) (hB:B≤w.heap.size):
  Calls Tryz.prog 5 #[fmV vw va vc vk vi vo] w (FewIs (FewOk f 160) w):=by
 have b1:Below w.heap.size w (w.alloc (.cells #[vw,va,vc,vk,vi,vo] 28)):=bE
 have rF1:=Row.new w #[vw,va,vc,vk,vi,vo] 28
 have HC:=Lib.hid (few24_any (h.below (b1.mono hB)) (Nat.le_trans hB b1.size))
 obtain ⟨Aw,cw,rfl,lw,mw,sw⟩:=h.wires
 clear h sw
 go_enter Tryz.func5,Tryz.ntmps5
 go_upto_region 1 with (fail)
 generalize w.alloc (.cells #[.slice Aw f.wires.length cw,va,vc,vk,vi,vo] 28)=w1 at*
 have hs1:=b1.size
 have hGl:=rF1.lt
 obtain ⟨f0,f1,f2,f3,f4,f5⟩:=rF1.six'
 go_wp2_with fail
 (with_reducible refine HC.out.mono ?_)
 rintro e w3 ⟨⟨b,rfl,HB⟩,hb3⟩
 have hb:=b1.trans (hb3.mono hs1)
 have rF3:=rF1.below hb3 hGl
 clear f0 f1 f2 f3 f4 f5 HC
 obtain ⟨f0,f1,f2,f3,f4,f5⟩:=rF3.six'
 clear rF3 rF1
 cases b
 ·go_wp2_with fail
  go_ret
  exact FewIs.no hb
 ·have HP:Hid (f.wires.length≤160→FewOk f 160):=fun h5=>⟨HB.out rfl,h5⟩
  clear HB
  go_wp2_with fail
  go_ret
  exact ⟨⟨_,rfl,fun g=>HP.out (by simp at g;omega)⟩,hb⟩
structure FbAt (W:World) (b:Nat):Prop where
 r0:Row W b #[.int .i64 1,.slice none 0 0,.int .i64 1,.slice none 0 0] 54
 r1:Row W (b+1) #[.int .i64 5,.int .i64 1,.int .i64 0,.int .i64 0,.int .i64 0,.int .i64 0] 56
 r2:Row W (b+1+1) #[.int .i64 0] 3
 r3:Row W (b+1+1+1) #[.int .i64 1] 3
theorem FbAt.fm {W:World} {b:Nat} (h:FbAt W b):FmAt W (b+4) fB (.slice (some ⟨b,0,none⟩) 2 2) (.slice (some ⟨b+1,0,none⟩) 1 1) (.slice none 0 0) (.slice none 0 0) (.slice (some ⟨b+1+1,0,none⟩) 1 1) (.slice (some ⟨b+1+1+1,0,none⟩) 1 1):=
 ⟨row_flat (C:=wr0) (l:=fB.wires) h.r0 (fun _=>rfl) (fun x hx=>by simp[fB] at hx;subst hx;exact isWr0 rfl (wf_little (by decide))) (by omega) (by simp[maxLen,fB]),
  row_flat (C:=acC) (l:=fB.acts) h.r1 (fun _=>rfl) (fun x hx=>by simp[fB] at hx;subst hx;exact ⟨rfl,acIn_small (by decide)⟩) (by omega) (by simp[maxLen,fB]),
  SlV.nil,SlV.nil,ones_row h.r2 (wf_little (by decide)) (by omega),ones_row h.r3 (wf_little (by decide)) (by omega)⟩
set_option maxRecDepth 100000 in
set_option maxHeartbeats 8000000 in
theorem awake30_any (w:World):Calls Tryz.prog 4 #[] w fun e w'=>e= .returned (.bool true)∧Below w.heap.size w w':=by
 go_enter Tryz.func4,Tryz.ntmps4
 go_upto_region 2 with (fail)
 generalize hW:World.alloc (World.alloc (World.alloc (World.alloc (World.alloc w _) _) _) _) _=w1
 have b1:Below w.heap.size w w1:=by rw[←hW];exact bE
 have rF:Row w1 (w.heap.size+1+1+1+1) #[.slice (some ⟨w.heap.size,0,none⟩) 2 2,.slice (some ⟨w.heap.size+1,0,none⟩) 1 1,.slice none 0 0,.slice none 0 0,.slice (some ⟨w.heap.size+1+1,0,none⟩) 1 1,.slice (some ⟨w.heap.size+1+1+1,0,none⟩) 1 1] 28:=by
  rw[←hW]
  exact rowN5 w _ _ _ _ _ _
 have hA:FbAt w1 w.heap.size:=by
  rw[←hW]
  exact ⟨((((Row.new w _ _).alloc _).alloc _).alloc _).alloc _,(((rowNew2 w _ _ _).alloc _).alloc _).alloc _,((rowN3 w _ _ _ _).alloc _).alloc _,(rowN4 w _ _ _ _ _).alloc _⟩
 have hs1:w.heap.size+4≤w1.heap.size:=by rw[←hW];simp
 clear hW
 have hs0:w.heap.size≤w1.heap.size:=by omega
 obtain ⟨f0,f1,f2,f3,f4,f5⟩:=rF.six'
 have HO:=Lib.hid (emit_any fB _ _ _ _ _ _ w1 (hA.fm.more hs1) (by decide))
 go_wp2_with fail
 (with_reducible refine HO.out.mono ?_)
 rintro e w2 ⟨hout,hb2⟩
 rcases hout with ⟨hno,_⟩|⟨_,code,hem,hout⟩
 ·exact absurd fB_ordered hno
 have hcode:=emits_fB hem
 rcases hout with ⟨hbig,_⟩|⟨hle,vi,vo,vc,vd,he,hpg⟩
 ·rw[hcode] at hbig;exact absurd hbig (by decide)
 have HRO:=Lib.hid (emit_right fB_ordered hem hle)
 subst hcode
 obtain ⟨A0,c0,hv0,_,_,_⟩:=id hpg.ins
 obtain ⟨A1,c1,hv1,_,_,_⟩:=id hpg.outs
 obtain ⟨A3,c3,hv3,_,_,_⟩:=id hpg.cells
 obtain ⟨A4,c4,hv4,l4,m4,s4⟩:=id hpg.code
 change vi= .slice A0 1 c0 at hv0
 change vo= .slice A1 1 c1 at hv1
 change vc= .slice A3 0 c3 at hv3
 change vd= .slice A4 3 c4 at hv4
 change 3≤c4 at l4
 subst hv0;subst hv1;subst hv3;subst hv4
 change e= .returned (.tuple #[.agg #[.slice A0 1 c0,.slice A1 1 c1,.int .i64 2,.slice A3 0 c3,.slice A4 3 c4],.int .i64 0]) at he
 subst he
 have m4':c4≤9223372036854775807:=by unfold maxLen at m4;omega
 obtain ⟨b,off,x,rfl,hbb,hx,_,d0,d1,d2,d3,d4⟩:=s4.in5 (k:=1) (by decide)
 change some _=some x at hx
 injection hx with hx
 subst hx
 dsimp only at d0
 have b2:=b1.trans (hb2.mono hs0)
 have hs2:=b2.size
 have b3:Below w2.heap.size w2 (w2.alloc (.cells #[.slice A0 1 c0,.slice A1 1 c1,.int .i64 2,.slice A3 0 c3,.slice (some ⟨b,off,none⟩) 3 c4] 37)):=bE
 have rP:=Row.new w2 #[.slice A0 1 c0,.slice A1 1 c1,.int .i64 2,.slice A3 0 c3,.slice (some ⟨b,off,none⟩) 3 c4] 37
 have HKR0:=kright_any _ (hpg.next b3)
 rw[cB_true HRO.out] at HKR0
 have HKR:Hid (Calls Tryz.prog 17 #[.agg #[.slice A0 1 c0,.slice A1 1 c1,.int .i64 2,.slice A3 0 c3,.slice (some ⟨b,off,none⟩) 3 c4]] (w2.alloc (.cells #[.slice A0 1 c0,.slice A1 1 c1,.int .i64 2,.slice A3 0 c3,.slice (some ⟨b,off,none⟩) 3 c4] 37)) fun e w'=>e= .returned (.bool true)∧Below (w2.alloc (.cells #[.slice A0 1 c0,.slice A1 1 c1,.int .i64 2,.slice A3 0 c3,.slice (some ⟨b,off,none⟩) 3 c4] 37)).heap.size (w2.alloc (.cells #[.slice A0 1 c0,.slice A1 1 c1,.int .i64 2,.slice A3 0 c3,.slice (some ⟨b,off,none⟩) 3 c4] 37)) w'):=HKR0
 clear HKR0
 have HD:=Lib.hid (cell_kept d0 b3)
 clear f0 f1 f2 f3 f4 f5 d0 d1 d2 d3 d4 HO hA hem hpg s4 rF hb2 b1
 go_upto_region 3 with (fail)
 generalize w2.alloc (.cells #[.slice A0 1 c0,.slice A1 1 c1,.int .i64 2,.slice A3 0 c3,.slice (some ⟨b,off,none⟩) 3 c4] 37)=w3 at*
 have b3':=b2.trans (b3.mono hs2)
 have hs3:=b3'.size
 obtain ⟨p0,p1,p2,p3,p4⟩:=rP.five'
 go_wp2_with fail
 (with_reducible refine HKR.out.mono ?_)
 rintro e w4 ⟨rfl,hb4⟩
 have b4:=b3'.trans (hb4.mono hs3)
 have rP4:=rP.below hb4 rP.lt
 have d9:=cell_kept HD.out hb4
 clear p0 p1 p2 p3 p4 rP
 obtain ⟨p0,p1,p2,p3,p4⟩:=rP4.five'
 go_wp2_with fail
 go_ret
 exact ⟨rfl,b4⟩
end Go.Proofs.YtbjaejgechadpaaGreat
