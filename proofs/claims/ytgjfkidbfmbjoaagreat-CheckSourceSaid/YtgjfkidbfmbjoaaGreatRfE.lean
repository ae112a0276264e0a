/-
  What is wrong first with an expression's names, by the document: the contract of tompionref15.expr.
-/
import Derived.Test.YtgjfkidbfmbjoaaGreatScnF
import Derived.Test.YtgjfkidbfmbjoaaGreatScH
import Derived.Deep.RegionHeld3
import Derived.Deep.DeepCutAuto
set_option maxHeartbeats 1000000
set_option maxRecDepth 100000
namespace Go.Proofs.YtgjfkidbfmbjoaaGreat
open Go.RowKit
attribute [local go_sem ↓] Go.wp_at_zero Go.wp_at_succ
theorem rexpr_any (s:List Nd) (A:Option Addr) (cap:Nat) (n:Nd) (a:NdA) (h1:s.length≤cap) (h2:cap≤maxLen) (hl:(vrs n).length≤10000) (e:Ex):∀(outs:Int) (A2:Option Addr) (cap2:Nat) (w:World),ExOk e→e.args.length≤cap2→cap2≤maxLen→
   Nds w w.heap.size A s→NdAt w w.heap.size n a→IsExs w w.heap.size A2 e.args→
  Calls Tryz.prog 186 #[srcV s A cap,ndV n a,exV e A2 cap2,.int .i64 outs] w fun r w'=>r= .returned (ftV (exprF s n outs e))∧Below w.heap.size w w':=by
 induction e using Ex.ind with
 |h e ih=>
  intro outs A2 cap2 w hok hc2 hm2 hs hn hx
  have HI:=Lib.hid ih
  have rs1:=(((Row.new w #[.slice A s.length cap] 24).alloc (.cells (ndArr n a) 39)).alloc (.cells (exA e A2 cap2) 79)).alloc (.cells ftC0 31)
  have rn1:=((rowNew2 w (.cells #[.slice A s.length cap] 24) (ndArr n a) 39).alloc (.cells (exA e A2 cap2) 79)).alloc (.cells ftC0 31)
  have re1:=(rowNew3 w (.cells #[.slice A s.length cap] 24) (.cells (ndArr n a) 39) (exA e A2 cap2) 79).alloc (.cells ftC0 31)
  have rf1:=rowNewD w (.cells #[.slice A s.length cap] 24) (.cells (ndArr n a) 39) (.cells (exA e A2 cap2) 79) ftC0 31
  have b1:Below w.heap.size w ((((w.alloc (.cells #[.slice A s.length cap] 24)).alloc (.cells (ndArr n a) 39)).alloc (.cells (exA e A2 cap2) 79)).alloc (.cells ftC0 31)):=bE
  have HS:Hid (∀W,Below w.heap.size w W→Nds W w.heap.size A s):=fun W hW=>nds_keep hs (keeps_of hW) (Nat.le_refl _)
  have HN:Hid (∀W,Below w.heap.size w W→NdAt W w.heap.size n a):=fun W hW=>hn.below hW
  have HX:Hid (∀W,Below w.heap.size w W→IsExs W w.heap.size A2 e.args):=fun W hW=>exs_keep hx (keeps_of hW) (Nat.le_refl _)
  have HL:=Lib.hid hl
  have h2':cap≤9223372036854775807:=by unfold maxLen at h2;omega
  have hm2':cap2≤9223372036854775807:=by unfold maxLen at hm2;omega
  have HE:Hid (exprF s n outs e=ft2 (oneF s n outs e) (fstL (fun _ x=>subF s n x) e.args)):=rfl
  clear hs hn hx hok ih hl
  go_enter Tryz.func186,Tryz.ntmps186
  go_upto_region 1 with (fail)
  generalize (((w.alloc (.cells #[.slice A s.length cap] 24)).alloc (.cells (ndArr n a) 39)).alloc (.cells (exA e A2 cap2) 79)).alloc (.cells ftC0 31)=W1 at*
  have hs1:=b1.size
  obtain ⟨x0,x1,x2,x3,x4,x5⟩:=re1.ex6
  obtain ⟨c0,c1,cc2,c3,c4,c5,c6⟩:=rn1.nd
  go_cut[31] (fun v W=>∃P:Bool,v= .bool P∧Hid (TstP P (namesB e.op=true∧e.name∉nms (vrs n)))∧Below W1.heap.size W1 W)
  case first=>
   by_cases hnb:namesB e.op=true
   ·have hcs:=names_yes hnb
    by_cases hin:e.name∈nms (vrs n)
    ·have HP:Hid (TstP false (namesB e.op=true∧e.name∉nms (vrs n))):=TstP.no (fun g=>g.2 hin)
     have hv:decide (varIdx n e.name<0)=false:=dec_no (by rw[var_neg];exact fun g=>g hin)
     have HR:=Lib.hid (rvar_any n a e.name W1 ((HN.out W1 b1).more hs1) HL.out)
     clear hnb hin
     generalize varIdx n e.name=v at*
     rcases hcs with o3|⟨o3,o24,o26⟩
     all_goals
      go_wp2_with fail
      refine HR.out.mono ?_
      rintro r w2 ⟨rfl,hb2⟩
      go_wp2_with fail
      go_meet
      exact ⟨false,rfl,HP,hb2⟩
    ·have HP:Hid (TstP true (namesB e.op=true∧e.name∉nms (vrs n))):=TstP.yes ⟨hnb,hin⟩
     have hv:decide (varIdx n e.name<0)=true:=dec_yes (var_neg.2 hin)
     have HR:=Lib.hid (rvar_any n a e.name W1 ((HN.out W1 b1).more hs1) HL.out)
     clear hnb hin
     generalize varIdx n e.name=v at*
     rcases hcs with o3|⟨o3,o24,o26⟩
     all_goals
      go_wp2_with fail
      refine HR.out.mono ?_
      rintro r w2 ⟨rfl,hb2⟩
      go_wp2_with fail
      go_meet
      exact ⟨true,rfl,HP,hb2⟩
   ·have HP:Hid (TstP false (namesB e.op=true∧e.name∉nms (vrs n))):=TstP.no (fun g=>hnb g.1)
    obtain ⟨o3,o24|⟨o24,o26⟩⟩:=names_no (bool_no hnb)
    all_goals
     clear hnb
     go_wp2_with fail
     go_meet
     exact ⟨false,rfl,HP,Below.refl _ _⟩
  case rest=>
   obtain ⟨P,rfl,HP,hb2⟩:=hcut
   obtain ⟨W2,rfl⟩:∃W2:World,W2=wc:=⟨_,rfl⟩
   have rs:=rs1.below hb2 rs1.lt
   have rn:=rn1.below hb2 rn1.lt
   have re:=re1.below hb2 re1.lt
   have rf:=rf1.below hb2 rf1.lt
   have hB2:=b1.trans (hb2.mono hs1)
   have hsz2:=hB2.size
   clear rs1 rn1 re1 rf1 b1 hb2 hs1 x0 x1 x2 x3 x4 x5 c0 c1 cc2 c3 c4 c5 c6
   obtain ⟨x0,x1,x2,x3,x4,x5⟩:=re.ex6
   cases P
   rotate_left 1
   ·have HF:Hid (exprF s n outs e=⟨24,e.line,e.col⟩):=by
     obtain ⟨g1,g2⟩:=HP.out.1 rfl
     have:oneF s n outs e=⟨24,e.line,e.col⟩:=by unfold oneF;rw[if_pos g1,if_pos g2]
     show _=_
     rw[HE.out,this];rfl
    go_wp2_with fail
    refine (rwrong_at _ _ _ _).mono ?_
    rintro r w9 ⟨rfl,hb9⟩
    have q9:Below W2.heap.size W2 w9:=Below.trans bE (hb9.mono lE)
    have rf9:=rf.below q9 rf.lt
    have b9:=Below.trans hB2 (q9.mono (Below.size hB2))
    obtain ⟨⟨k0,k1,k2⟩,h0,h1,h2⟩:=rf9.three
    go_wp2_with fail
    exact bodyPost_ret (res1 rfl Tryz.underlying31 rfl (by kernel_rfl) rfl (rf9.set3 _ _ _)) rfl ⟨(congrArg (fun f=>Ending.returned (ftV f)) HF.out).symm,below_set3 b9 (by first|omega|(simp;omega)|simp) _ _ _⟩
   have HP2:Hid (namesB e.op=true→e.name∈nms (vrs n)):=fun g=>Classical.byContradiction fun g'=>Bool.noConfusion (HP.out.2 ⟨g,g'⟩)
   clear HP
   go_upto_if 37 with (fail)
   go_cut[] (fun W=>Hid ((oneF s n outs e).err=0)∧Below W2.heap.size W2 W)
   case first=>
    by_cases h4:e.op=4
    ·have HNB:=Lib.hid (names_4 h4)
     have HO4:=Lib.hid h4
     have o4:=eq_yes h4
     have HR:=Lib.hid (rnode_any s A cap e.name W2 h1 h2 (nds_keep (HS.out W2 hB2) (fun _ _ _ h=>h) hsz2))
     have c0:=rs.src
     clear h4
     have HC:=node_cases s e.name
     generalize nodeIdx s e.name=v at*
     rcases HC with ⟨k,m,hk,hm,he,hat⟩|⟨hk,hat⟩
     ·subst hk
      have HAT:=Lib.hid hat
      have hkl:=(List.getElem?_eq_some_iff.1 hm).1
      obtain ⟨b,off,m',am,hA,hb,hm',hmat,d0,d1,d2,d3,d4,d5,d6⟩:=(HS.out W2 hB2).nd hkl
      rw[hm] at hm'
      injection hm' with hm'
      subst hm'
      subst hA
      have gi:=hmat.mi
      have go:=hmat.mo
      have HB:=Lib.hid hb
      clear hm he hat hmat
      go_wp2_with fail
      refine HR.out.mono ?_
      rintro r w3 ⟨rfl,hb3⟩
      have hB3:=hB2.trans (hb3.mono hsz2)
      have d1':=(hb3.cell (p:=⟨b,off+k*7+1,none⟩) (by have:=HB.out;show b<_;omega)).trans d1
      have d2':=(hb3.cell (p:=⟨b,off+k*7+2,none⟩) (by have:=HB.out;show b<_;omega)).trans d2
      have re3:=re.below hb3 re.lt
      have rs3:=rs.below hb3 rs.lt
      have rf3:=rf.below hb3 rf.lt
      clear d0 d1 d2 d3 d4 d5 d6 x0 x1 x2 x3 x4 x5 c0
      obtain ⟨x0,x1,x2,x3,x4,x5⟩:=re3.ex6
      have c0:=rs3.src
      have i0:(0:Int)≤(k:Int):=by omega
      have i1:(k:Int)<(s.length:Int):=by omega
      have kn:decide ((k:Int)<0)=false:=dec_no (by omega)
      by_cases q1:m.ins.length=e.args.length
      ·have q1':((m.ins.length:Int) !=(e.args.length:Int))=false:=neq_no (by omega)
       by_cases q2:(m.outs.length:Int)=outs
       ·have q2':((m.outs.length:Int) !=outs)=false:=neq_no q2
        have HZ:Hid ((oneF s n outs e).err=0):=by
         show _=_
         unfold oneF
         rw[if_neg (by rw[HNB.out];decide),if_pos HO4.out,HAT.out]
         simp only
         rw[if_neg (by rintro (g|g);exact g q1;exact g q2)]
        clear q1 q2
        go_wp2_with fail
        go_quiet (fail)
        go_wp2_with fail
        go_meet
        exact ⟨HZ,bE⟩
       ·have q2':((m.outs.length:Int) !=outs)=true:=neq_yes q2
        have HF:Hid (exprF s n outs e=⟨25,e.line,e.col⟩):=by
         have:oneF s n outs e=⟨25,e.line,e.col⟩:=by
          unfold oneF
          rw[if_neg (by rw[HNB.out];decide),if_pos HO4.out,HAT.out]
          simp only
          rw[if_pos (.inr q2)]
         show _=_
         rw[HE.out,this];rfl
        clear q1 q2
        go_wp2_with fail
        go_quiet (fail)
        go_wp2_with fail
        refine (rwrong_at _ _ _ _).mono ?_
        rintro r w9 ⟨rfl,hb9⟩
        have q9:Below w3.heap.size w3 w9:=Below.trans bE (hb9.mono lE)
        have rf9:=rf3.below q9 rf3.lt
        have b9:=Below.trans hB3 (q9.mono (Below.size hB3))
        obtain ⟨⟨k0,k1,k2⟩,h0,h1,h2⟩:=rf9.three
        go_wp2_with fail
        exact bodyPost_ret (res1 rfl Tryz.underlying31 rfl (by kernel_rfl) rfl (rf9.set3 _ _ _)) rfl ⟨(congrArg (fun f=>Ending.returned (ftV f)) HF.out).symm,below_set3 b9 (by first|omega|(simp;omega)|simp) _ _ _⟩
      ·have q1':((m.ins.length:Int) !=(e.args.length:Int))=true:=neq_yes (by omega)
       have HF:Hid (exprF s n outs e=⟨25,e.line,e.col⟩):=by
        have:oneF s n outs e=⟨25,e.line,e.col⟩:=by
         unfold oneF
         rw[if_neg (by rw[HNB.out];decide),if_pos HO4.out,HAT.out]
         simp only
         rw[if_pos (.inl q1)]
        show _=_
        rw[HE.out,this];rfl
       clear q1
       go_wp2_with fail
       go_quiet (fail)
       go_wp2_with fail
       refine (rwrong_at _ _ _ _).mono ?_
       rintro r w9 ⟨rfl,hb9⟩
       have q9:Below w3.heap.size w3 w9:=Below.trans bE (hb9.mono lE)
       have rf9:=rf3.below q9 rf3.lt
       have b9:=Below.trans hB3 (q9.mono (Below.size hB3))
       obtain ⟨⟨k0,k1,k2⟩,h0,h1,h2⟩:=rf9.three
       go_wp2_with fail
       exact bodyPost_ret (res1 rfl Tryz.underlying31 rfl (by kernel_rfl) rfl (rf9.set3 _ _ _)) rfl ⟨(congrArg (fun f=>Ending.returned (ftV f)) HF.out).symm,below_set3 b9 (by first|omega|(simp;omega)|simp) _ _ _⟩
     ·subst hk
      have HF:Hid (exprF s n outs e=⟨24,e.line,e.col⟩):=by
       have:oneF s n outs e=⟨24,e.line,e.col⟩:=by
        unfold oneF
        rw[if_neg (by rw[HNB.out];decide),if_pos HO4.out,hat]
       show _=_
       rw[HE.out,this];rfl
      clear hat
      go_wp2_with fail
      refine HR.out.mono ?_
      rintro r w3 ⟨rfl,hb3⟩
      have hB3:=hB2.trans (hb3.mono hsz2)
      have re3:=re.below hb3 re.lt
      have rf3:=rf.below hb3 rf.lt
      clear x0 x1 x2 x3 x4 x5 c0
      obtain ⟨x0,x1,x2,x3,x4,x5⟩:=re3.ex6
      go_wp2_with fail
      refine (rwrong_at _ _ _ _).mono ?_
      rintro r w9 ⟨rfl,hb9⟩
      have q9:Below w3.heap.size w3 w9:=Below.trans bE (hb9.mono lE)
      have rf9:=rf3.below q9 rf3.lt
      have b9:=Below.trans hB3 (q9.mono (Below.size hB3))
      obtain ⟨⟨k0,k1,k2⟩,h0,h1,h2⟩:=rf9.three
      go_wp2_with fail
      exact bodyPost_ret (res1 rfl Tryz.underlying31 rfl (by kernel_rfl) rfl (rf9.set3 _ _ _)) rfl ⟨(congrArg (fun f=>Ending.returned (ftV f)) HF.out).symm,below_set3 b9 (by first|omega|(simp;omega)|simp) _ _ _⟩
    ·have o4:=eq_no h4
     have HZ:Hid ((oneF s n outs e).err=0):=by
      show _=_
      unfold oneF
      by_cases g:namesB e.op=true
      ·rw[if_pos g,if_neg (fun g'=>g' (HP2.out g))]
      ·rw[if_neg g,if_neg h4]
     clear h4
     go_wp2_with fail
     go_meet
     exact ⟨HZ,Below.refl _ _⟩
   case rest=>
    obtain ⟨HZ,hb3⟩:=hcut
    obtain ⟨W3,rfl⟩:∃W3:World,W3=wc:=⟨_,rfl⟩
    have rs3:=rs.below hb3 rs.lt
    have rn3:=rn.below hb3 rn.lt
    have re3:=re.below hb3 re.lt
    have rf3:=rf.below hb3 rf.lt
    have hB3:=hB2.trans (hb3.mono hsz2)
    have hsz3:=hB3.size
    have HE2:=Lib.hid (HE.out.trans (ft2_0 HZ.out))
    clear rs rn re rf hb3 hB2 hsz2 x0 x1 x2 x3 x4 x5 HP2 HE HZ
    go_wp2_with fail
    go_loopw[10] (fun i wr=>∃k:Nat,k≤e.args.length∧i= .int .i64 k∧Hid (∀j,j<k→∀x,e.args[j]? =some x→(subF s n x).err=0)∧Below W3.heap.size W3 wr) (fun i _=>e.args.length-(intOf i).toNat)
    case atStart=>exact ⟨0,Nat.zero_le _,rfl,fun j h=>absurd h (by omega),Below.refl _ _⟩
    case round=>
     obtain ⟨k,hk,rfl,HJ,hbr⟩:=hrel
     have hszr:=hbr.size
     have rs:=rs3.below hbr rs3.lt
     have rn:=rn3.below hbr rn3.lt
     have re:=re3.below hbr re3.lt
     have rf:=rf3.below hbr rf3.lt
     have hB:=hB3.trans (hbr.mono hsz3)
     obtain ⟨x0,x1,x2,x3,x4,x5⟩:=re.ex6
     by_cases hlt:k<e.args.length
     ·obtain ⟨b,off,x,A',cap',hA,hb,hxk,hxm,hok',hcap',hmax',hx',d0,d1,d2,d3,d4,d5⟩:=(HX.out wr hB).at_ hlt
      subst hA
      have HXK:=Lib.hid hxk
      obtain ⟨f,HFX⟩:∃f,Hid (subF s n x=f):=⟨_,rfl⟩
      have HC:Hid (∀W,Below wr.heap.size wr W→Calls Tryz.prog 186 #[srcV s A cap,ndV n a,exV x A' cap',.int .i64 1] W fun r w'=>r= .returned (ftV f)∧Below W.heap.size W w'):=fun W hW=>by
       have hWB:=hB.trans (hW.mono hB.size)
       have hWs:=hWB.size
       rw[←HFX.out,subF_eq]
       exact HI.out x hxm 1 A' cap' W hok' hcap' hmax' (nds_keep (HS.out W hWB) (fun _ _ _ h=>h) hWs) ((HN.out W hWB).more hWs) (exs_keep hx' (keeps_of (hW.mono hB.size)) hWs)
      have i0:(0:Int)≤(k:Int):=by omega
      have i1:(k:Int)<(e.args.length:Int):=by omega
      clear hx' hxm hxk hok'
      go_upto_region 12 with (fail)
      have HK:Hid (∀W,Below wr.heap.size wr W→W.cell? ⟨w.heap.size,0,none⟩=some (.slice A s.length cap)∧(W.cell? ⟨w.heap.size+1,0,none⟩=some (.string n.name)∧W.cell? ⟨w.heap.size+1,1,none⟩=some (.slice a.ai n.ins.length a.ci)∧W.cell? ⟨w.heap.size+1,2,none⟩=some (.slice a.ao n.outs.length a.co)∧W.cell? ⟨w.heap.size+1,3,none⟩=some (.slice a.av n.vars.length a.cv)∧W.cell? ⟨w.heap.size+1,4,none⟩=some (.slice a.aq n.eqs.length a.cq)∧W.cell? ⟨w.heap.size+1,5,none⟩=some (.int .i64 n.line)∧W.cell? ⟨w.heap.size+1,6,none⟩=some (.int .i64 n.col))∧W.cell? ⟨w.heap.size+2,3,none⟩=some (.slice (some ⟨b,off,none⟩) e.args.length cap2)∧(W.cell? ⟨b,off+k*6,none⟩=some (.int .i64 x.op)∧W.cell? ⟨b,off+k*6+1,none⟩=some (.string x.name)∧W.cell? ⟨b,off+k*6+2,none⟩=some (.int .i64 x.n)∧W.cell? ⟨b,off+k*6+3,none⟩=some (.slice A' x.args.length cap')∧W.cell? ⟨b,off+k*6+4,none⟩=some (.int .i64 x.line)∧W.cell? ⟨b,off+k*6+5,none⟩=some (.int .i64 x.col))):=fun W hW=>⟨(rs.below hW rs.lt).src,(rn.below hW rn.lt).nd,(re.below hW re.lt).ex6.2.2.2.1,old_cell hW d0,old_cell hW d1,old_cell hW d2,old_cell hW d3,old_cell hW d4,old_cell hW d5⟩
      go_cut[11] (fun v11 W=>∃g,v11= .pointer (some ⟨g,0,none⟩)∧wr.heap.size≤g∧Row W g (ftC f) 31∧Below wr.heap.size wr W)
      case first=>
       go_region_held3 (fun W=>W.cell? ⟨w.heap.size,0,none⟩=some (.slice A s.length cap)∧(W.cell? ⟨w.heap.size+1,0,none⟩=some (.string n.name)∧W.cell? ⟨w.heap.size+1,1,none⟩=some (.slice a.ai n.ins.length a.ci)∧W.cell? ⟨w.heap.size+1,2,none⟩=some (.slice a.ao n.outs.length a.co)∧W.cell? ⟨w.heap.size+1,3,none⟩=some (.slice a.av n.vars.length a.cv)∧W.cell? ⟨w.heap.size+1,4,none⟩=some (.slice a.aq n.eqs.length a.cq)∧W.cell? ⟨w.heap.size+1,5,none⟩=some (.int .i64 n.line)∧W.cell? ⟨w.heap.size+1,6,none⟩=some (.int .i64 n.col))∧W.cell? ⟨w.heap.size+2,3,none⟩=some (.slice (some ⟨b,off,none⟩) e.args.length cap2)∧(W.cell? ⟨b,off+k*6,none⟩=some (.int .i64 x.op)∧W.cell? ⟨b,off+k*6+1,none⟩=some (.string x.name)∧W.cell? ⟨b,off+k*6+2,none⟩=some (.int .i64 x.n)∧W.cell? ⟨b,off+k*6+3,none⟩=some (.slice A' x.args.length cap')∧W.cell? ⟨b,off+k*6+4,none⟩=some (.int .i64 x.line)∧W.cell? ⟨b,off+k*6+5,none⟩=some (.int .i64 x.col))) (first|(with_reducible exact HK.out _ bE)|go_keep)
        (first|((go_at_call 186);(refine (HC.out _ bE).mono ?_);rintro e w3 ⟨rfl,hb3⟩;(try (have r5:Row w3 wr.heap.size ftC0 31:=(by first|(with_reducible exact Row.below (Row.drew (Row.new wr ftC0 31)) hb3 (by simp))|(with_reducible exact Row.below (Row.new wr.drew ftC0 31) hb3 (by simp)));obtain ⟨⟨x0,x1,x2⟩,g0,g1,g2⟩:=r5.three));(have hb4:Below wr.heap.size wr w3:=Below.trans bE (hb3.mono lE));(have hs4:=hb4.size)))
       all_goals
        go_wp2_with fail
        go_meet
        exact ⟨_,rfl,by first|exact Nat.le_refl _|exact hs4,by first|(with_reducible exact Row.new _ _ _)|(with_reducible exact r5.set3 _ _ _),bE⟩
      case rest=>
       obtain ⟨g,rfl,hg,rg,hbc⟩:=hcut
       have rf':=rf.below hbc rf.lt
       have hB':=hB.trans (hbc.mono hB.size)
       clear x0 x1 x2 x3 x4 x5 d0 d1 d2 d3 d4 d5 HK HC
       obtain ⟨⟨y0,y1,y2⟩,_⟩:=rg.three
       by_cases hf:f.err=0
       ·have hf1:(f.err !=0)=false:=neq_no hf
        have HJ':=Lib.hid (step_uptoI (P:=fun _ x=>(subF s n x).err=0) HJ.out HXK.out (by rw[HFX.out];exact hf))
        clear hf
        go_wp2_with fail
        go_roundw
        case rel=>exact ⟨k+1,by omega,by go_num,HJ',hbr.trans (hbc.mono hszr)⟩
        case measure=>first|(simp[intOf];omega)|simp[intOf]
       ·have hf1:(f.err !=0)=true:=neq_yes hf
        have HF:Hid (exprF s n outs e=f):=by
         show _=_
         rw[HE2.out,←HFX.out]
         exact fstL_stop (f:=fun _ x=>subF s n x) HJ.out HXK.out (by show (subF s n x).err≠0;rw[HFX.out];exact hf)
        clear hf
        obtain ⟨⟨k0,k1,k2⟩,g0,g1,g2⟩:=rf'.three
        go_wp2_with fail
        exact bodyPost_ret (res1 rfl Tryz.underlying31 rfl (by kernel_rfl) rfl (rf'.set3 _ _ _)) rfl ⟨(congrArg (fun f=>Ending.returned (ftV f)) HF.out).symm,below_set3 hB' (by first|omega|(simp;omega)|simp) _ _ _⟩
     ·obtain rfl:k=e.args.length:=by omega
      have HF:=Lib.hid (HE2.out.trans (fstL_end HJ.out))
      obtain ⟨⟨k0,k1,k2⟩,g0,g1,g2⟩:=rf.three
      go_wp2_with fail
      exact bodyPost_ret (res1 rfl Tryz.underlying31 rfl (by kernel_rfl) rfl (rf.set3 _ _ _)) rfl ⟨(congrArg (fun f=>Ending.returned (ftV f)) HF.out).symm,below_set3 hB (by first|omega|(simp;omega)|simp) _ _ _⟩
end Go.Proofs.YtgjfkidbfmbjoaaGreat
