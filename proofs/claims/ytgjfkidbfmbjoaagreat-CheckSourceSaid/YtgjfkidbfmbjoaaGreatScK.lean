/-
  What is wrong first with a source's names, by the document: the contract of tompionref15.Check. What is wrong first with a source's names: the contracts of scope.first, equations and Check. What is wrong first with a node's equations: the contract of scope.equations. What is wrong first with a node's equations: the contract of scope.equations.
-/
import Derived.Test.YtgjfkidbfmbjoaaGreatZz
import Derived.Test.YtgjfkidbfmbjoaaGreatRfN
import Derived.Test.YtgjfkidbfmbjoaaGreatScG
import Derived.Test.YtgjfkidbfmbjoaaGreatScN
import Derived.Laws.EntriesVeiled
set_option maxHeartbeats 1000000
set_option maxRecDepth 100000
namespace Go.Proofs.YtgjfkidbfmbjoaaGreat
open Go.RowKit
attribute [local go_sem ↓] Go.wp_at_zero Go.wp_at_succ
theorem scopeF_2 {s:List Nd} (h:¬SrcRt s):scopeF s=⟨2,0,0⟩:=if_pos h
theorem scopeF_rt {s:List Nd} (h:SrcRt s):scopeF s=ft2 (fstL (nameF s) s) (ft2 (fstL (nodeF s) s) (mainF s)):=if_neg (fun g=>g h)
theorem rcheck15_any (s:List Nd) (A:Option Addr) (cap:Nat) (w:World) (sm:SrcSm s) (h1:s.length≤cap) (h2:cap≤maxLen) (h:Nds w w.heap.size A s):
  Calls Tryz.prog 47 #[srcV s A cap] w fun r w'=>r= .returned (ftV (scopeF s))∧Below w.heap.size w w':=by
 refine' zq13
 go_enter Tryz.func47,Tryz.ntmps47
 refine' zq18
 refine (rsource_any s A cap W1 HSM.out h1 h2 (nds_keep (HS.out W1 b1) (fun _ _ _ h=>h) hs1)).mono ?_
 refine' zq93
 clear c0 rs1 rf1 b1 hb2 hs1
 have c0:=rs2.src
 by_cases hP:SrcRt s
 rotate_left 1
 ·have HF:=Lib.hid (scopeF_2 hP)
  rw[cB_false hP]
  clear hP
  refine' zq220
  refine' zq267
  have b9:=Below.trans hB2 (q9.mono (Below.size hB2))
  refine' zq5
 have HF0:=Lib.hid (scopeF_rt hP)
 rw[cB_true hP]
 clear hP
 go_wp2_with fail
 clear c0
 go_loopw[3] (fun i wr=>∃k:Nat,k≤s.length∧i= .int .i64 k∧Hid (∀j,j<k→∀x,s[j]? =some x→(nameF s j x).err=0)∧Below w2.heap.size w2 wr) (fun i _=>s.length-(intOf i).toNat)
 case atStart=>exact ⟨0,Nat.zero_le _,rfl,fun j h=>absurd h (by omega),Below.refl _ _⟩
 case round=>
  refine' zq56
  have rs:=rs2.below hbr rs2.lt
  have rf:=rf2.below hbr rf2.lt
  have hB:=hB2.trans (hbr.mono hs2)
  have hsB:=hB.size
  have c0:=rs.src
  by_cases hlt:k<s.length
  ·refine' zq68
   have HXM:Hid (0≤nodeIdx s n.name):=node_mem.2 (List.mem_map_of_mem (List.mem_of_getElem? hn))
   have HVX:Hid (∀W,Below w.heap.size w W→Calls Tryz.prog 61 #[srcV s (some ⟨b,off,none⟩) cap,.string n.name] W fun r w'=>r= .returned (.int .i64 (nodeIdx s n.name))∧Below W.heap.size W w'):=fun W hW=>rnode_any s _ cap n.name W h1 h2 (nds_keep (HS.out W hW) (fun _ _ _ h=>h) hW.size)
   refine' zq69
   clear hn hat
   by_cases hP:n.name∈(s.map Nd.name).take k
   ·have hv:decide (nodeIdx s n.name<(k:Int))=true:=dec_yes ((idx_lt HXM.out).2 hP)
    have HF:Hid (scopeF s=⟨23,n.line,n.col⟩):=by
     have e:nameF s k n=⟨23,n.line,n.col⟩:=by unfold nameF;rw[if_pos hP]
     have h:=fstL_stop HN.out HX.out (by rw[e];show (23:Int)≠0;decide)
     show _=_
     rw[HF0.out,h,e];rfl
    refine' zq154
    go_cut[27] (fun v27 W=>v27= .bool true∧Below wr.heap.size wr W)
    case first=>
     refine' zq90
    case rest=>
     obtain ⟨rfl,hbc⟩:=hcut
     have rf3:=rf.below hbc rf.lt
     have hB3:=hB.trans (hbc.mono hsB)
     have e0:=old_cell hbc c0
     have e5:=old_cell hbc d5
     have e6:=old_cell hbc d6
     clear c0 d0 d1 d2 d3 d4 d5 d6 HK
     refine' zq224
   have hv:decide (nodeIdx s n.name<(k:Int))=false:=dec_no (fun g=>hP ((idx_lt HXM.out).1 g))
   have HN':=Lib.hid (step_uptoI (P:=fun j x=>(nameF s j x).err=0) HN.out HX.out (by unfold nameF;rw[if_neg hP]))
   refine' zq154
   go_cut[27] (fun v27 W=>v27= .bool false∧Below wr.heap.size wr W)
   case first=>
    refine' zq90
   case rest=>
    obtain ⟨rfl,hbc⟩:=hcut
    refine' zq158
  ·obtain rfl:k=s.length:=by omega
   have HF1:Hid (scopeF s=ft2 (fstL (nodeF s) s) (mainF s)):=by
    show _=_
    rw[HF0.out,fstL_end HN.out,ft2_0 (a:=ft0) rfl]
   clear HN HF0
   obtain ⟨w3,rfl⟩:∃w3:World,w3=wr:=⟨_,rfl⟩
   go_wp2_with fail
   clear c0
   go_loopw[4] (fun i wr=>∃k:Nat,k≤s.length∧i= .int .i64 k∧Hid (∀j,j<k→∀x,s[j]? =some x→(nodeF s j x).err=0)∧Below w3.heap.size w3 wr) (fun i _=>s.length-(intOf i).toNat)
   case atStart=>exact ⟨0,Nat.zero_le _,rfl,fun j h=>absurd h (by omega),Below.refl _ _⟩
   case round=>
    refine' zq56
    have rs4:=rs.below hbr rs.lt
    have rf4:=rf.below hbr rf.lt
    have hB4:=hB.trans (hbr.mono hsB)
    have hsB4:=hB4.size
    have c0:=rs4.src
    by_cases hlt:k<s.length
    ·obtain ⟨b,off,n,a,hA,hb,hn,hat,d0,d1,d2,d3,d4,d5,d6⟩:=(HS.out wr hB4).nd hlt
     subst hA
     have HX:=Lib.hid hn
     obtain ⟨f,HFX⟩:∃f,Hid (nodeF s 0 n=f):=⟨_,rfl⟩
     have HVX:Hid (∀W,Below wr.heap.size wr W→Calls Tryz.prog 108 #[srcV s (some ⟨b,off,none⟩) cap,ndV n a] W fun r w'=>r= .returned (ftV f)∧Below W.heap.size W w'):=fun W hW=>by
      have hWB:=hB4.trans (hW.mono hsB4)
      rw[←HFX.out]
      exact rnode_check s _ cap n a W h1 h2 (HSM.out.all n (List.mem_of_getElem? hn)) (nds_keep (HS.out W hWB) (fun _ _ _ h=>h) hWB.size) ((hat.below (hW.mono hsB4)).more hWB.size)
     refine' zq69
     clear hn hat
     go_upto_region 11 with (fail)
     refine' zq64
     go_cut[5] (fun v5 W=>∃g,v5= .pointer (some ⟨g,0,none⟩)∧wr.heap.size≤g∧Row W g (ftC f) 31∧Below wr.heap.size wr W)
     case first=>
      go_region_held3 (fun W=>W.cell? ⟨w.heap.size,0,none⟩=some (.slice (some ⟨b,off,none⟩) s.length cap)∧(W.cell? ⟨b,off+k*7,none⟩=some (.string n.name)∧W.cell? ⟨b,off+k*7+1,none⟩=some (.slice a.ai n.ins.length a.ci)∧W.cell? ⟨b,off+k*7+2,none⟩=some (.slice a.ao n.outs.length a.co)∧W.cell? ⟨b,off+k*7+3,none⟩=some (.slice a.av n.vars.length a.cv)∧W.cell? ⟨b,off+k*7+4,none⟩=some (.slice a.aq n.eqs.length a.cq)∧W.cell? ⟨b,off+k*7+5,none⟩=some (.int .i64 n.line)∧W.cell? ⟨b,off+k*7+6,none⟩=some (.int .i64 n.col))) (first|(with_reducible exact HK.out _ bE)|go_keep)
       (first|((go_at_call 108);(refine (HVX.out _ bE).mono ?_);rintro e w3 ⟨rfl,hb3⟩;(try (have r5:Row w3 wr.heap.size ftC0 31:=(by first|(with_reducible exact Row.below (Row.drew (Row.new wr ftC0 31)) hb3 (by simp))|(with_reducible exact Row.below (Row.new wr.drew ftC0 31) hb3 (by simp)));obtain ⟨⟨x0,x1,x2⟩,g0,g1,g2⟩:=r5.three));(have hb4:Below wr.heap.size wr w3:=Below.trans bE (hb3.mono lE));(have hs4:=hb4.size)))
      all_goals
       go_wp2_with fail
       go_meet
       exact ⟨_,rfl,by first|exact Nat.le_refl _|exact hs4,by first|(with_reducible exact Row.new _ _ _)|(with_reducible exact r5.set3 _ _ _),bE⟩
     case rest=>
      obtain ⟨g,rfl,hg,rg,hbc⟩:=hcut
      have rf5:=rf4.below hbc rf4.lt
      have hB5:=hB4.trans (hbc.mono hsB4)
      clear c0 d0 d1 d2 d3 d4 d5 d6 HK HVX
      obtain ⟨⟨y0,y1,y2⟩,_⟩:=rg.three
      by_cases hf:f.err=0
      ·have hf1:(f.err !=0)=false:=neq_no hf
       have HN':=Lib.hid (step_uptoI (P:=fun j x=>(nodeF s j x).err=0) HN.out HX.out (by show (nodeF s 0 n).err=0;rw[HFX.out];exact hf))
       clear hf
       refine' zq158
      ·have hf1:(f.err !=0)=true:=neq_yes hf
       have HF:Hid (scopeF s=f):=by
        have e:nodeF s k n=f:=HFX.out
        have h:=fstL_stop (f:=nodeF s) HN.out HX.out (by rw[e];exact hf)
        show _=_
        rw[HF1.out,h,e,ft2_1 hf]
       clear hf
       refine' zq87
    ·obtain rfl:k=s.length:=by omega
     have HF2:Hid (scopeF s=mainF s):=by
      show _=_
      rw[HF1.out,fstL_end HN.out,ft2_0 (a:=ft0) rfl]
     have HR:=Lib.hid (rnode_any s A cap mainNm wr h1 h2 (nds_keep (HS.out wr hB4) (fun _ _ _ h=>h) hsB4))
     have hm:=node_mem (s:=s) (nm:=mainNm)
     by_cases hP:mainNm∈s.map Nd.name
     ·have hv:decide (nodeIdx s mainNm<0)=false:=dec_no (by have:=hm.2 hP;omega)
      have HF:Hid (scopeF s=ft0):=by show _=_;rw[HF2.out];unfold mainF;rw[if_neg (fun g=>g hP)]
      refine' zq242
      refine' zq87
     ·have hv:decide (nodeIdx s mainNm<0)=true:=dec_yes (by have:=mt hm.1 hP;omega)
      have HF:Hid (scopeF s=⟨27,0,0⟩):=by show _=_;rw[HF2.out];unfold mainF;rw[if_pos hP]
      refine' zq242
      refine' zq220
      have q9:Below w5.heap.size w5 w9:=Below.trans bE (hb9.mono lE)
      have rf9:=rf5.below q9 rf5.lt
      have b9:=Below.trans hB5 (q9.mono (Below.size hB5))
      refine' zq5
theorem first_two (F1 F2:FuncId) (c1 c2:Array Value) (b:Nat) (w:World) (X:Nat→Prop) (f1 f2:Ft) (R1 R2:World→Prop) (t:TypeId)
  (hF1:∀args w,(callFunc F1 args).run Tryz.prog w= .ok (.enter F1 args) w) (hF2:∀args w,(callFunc F2 args).run Tryz.prog w= .ok (.enter F2 args) w)
  (hr:Row w b #[.func (.func F1) #[] c1,.func (.func F2) #[] c2] t) (hX:¬X b)
  (hR1:∀W o,R1 W→R1 (W.alloc o)) (hR2:∀W o,R2 W→R2 (W.alloc o)) (hR3:∀W g y0 y1 y2,w.heap.size≤g→R2 W→R2 (((W.setCell ⟨g,0,none⟩ y0).setCell ⟨g,1,none⟩ y1).setCell ⟨g,2,none⟩ y2))
  (H1:∀W,Below w.heap.size w W→Calls Tryz.prog F1 c1 W fun r W'=>r= .returned (ftV f1)∧Upd X W W'∧Hid (f1.err=0→R1 W'))
  (H2:∀W,Upd X w W→R1 W→Calls Tryz.prog F2 c2 W fun r W'=>r= .returned (ftV f2)∧Upd X W W'∧Hid (f2.err=0→R2 W')) (hXw:∀k,X k→k<w.heap.size) (hZ:f2.err=0→f2=ft0):
  Calls Tryz.prog 122 #[.slice (some ⟨b,0,none⟩) 2 2] w fun r w'=>r= .returned (ftV (ft2 f1 f2))∧Upd X w w'∧Hid ((ft2 f1 f2).err=0→R2 w'):=by
 have b1:Below w.heap.size w (w.alloc (.cells ftC0 31)):=bE
 have rf1:=Row.new w ftC0 31
 have hbw:=hr.lt
 have HH1:=Lib.hid H1
 have HH2:=Lib.hid H2
 have HF2:=Lib.hid hF2
 have HR1:=Lib.hid hR1
 have HR2:=Lib.hid hR2
 have HR3:=Lib.hid hR3
 have HX:Hid (¬X w.heap.size):=fun h=>by have:=hXw _ h;omega
 have HZ:=Lib.hid hZ
 have HXb:=Lib.hid hX
 clear H1 H2 hF2 hR1 hR2 hR3 hXw hX hZ
 go_enter Tryz.func122,Tryz.ntmps122
 refine' zq162
 go_wp2_with fail
 go_loopw[8] (fun i wr=>∃k:Nat,k≤2∧i= .int .i64 k∧Upd X w wr∧Row wr w.heap.size ftC0 31∧Hid (k=0→Below w.heap.size w wr)∧Hid (1≤k→f1.err=0)∧Hid (k=1→R1 wr)∧Hid (k=2→f2.err=0∧R2 wr)) (fun i _=>2-(intOf i).toNat)
 case atStart=>exact ⟨0,by omega,rfl,Upd.of_below b1,rf1,fun _=>b1,fun h=>absurd h (by omega),fun h=>absurd h (by omega),fun h=>absurd h (by omega)⟩
 case round=>
  obtain ⟨k,hk,rfl,hu,rf,K0,K1,K2,K3⟩:=hrel
  have hszr:=hu.size
  have rr:=hu.row hr HXb.out
  have q0:wr.cell? ⟨b,0,none⟩=some (.func (.func F1) #[] c1):=(rr.cell 0).trans rfl
  have q1:wr.cell? ⟨b,1,none⟩=some (.func (.func F2) #[] c2):=(rr.cell 1).trans rfl
  have h3:k=0∨k=1∨k=2:=by omega
  rcases h3 with rfl|rfl|rfl
  ·go_wp2_with fail
   refine (HH1.out wr (K0.out (by first|rfl|trivial))).mono ?_
   rintro r w2 ⟨rfl,hu2,hr1⟩
   have rf2:=hu2.row rf HX.out
   have hu3:=hu.trans hu2
   have hl2:=rf2.lt
   by_cases hf:f1.err=0
   ·have hf1:(f1.err !=0)=false:=neq_no hf
    have HE:=Lib.hid hf
    have HR:=Lib.hid (HR1.out w2 (.cells (ftC f1) 31) (hr1.out hf))
    clear hf
    go_wp2_with fail
    go_roundw
    case rel=>exact ⟨1,by omega,by go_num,hu3.alloc _,rf2.alloc _,fun h=>absurd h (by omega),fun _=>HE.out,fun _=>HR.out,fun h=>absurd h (by omega)⟩
    case measure=>first|(simp[intOf];omega)|simp[intOf]
   ·have hf1:(f1.err !=0)=true:=neq_yes hf
    have HF:=Lib.hid (ft2_1 (b:=f2) hf)
    refine' zq120
  ·have hF2:=HF2.out
   clear hF1
   go_wp2_with fail
   refine (HH2.out wr hu (K2.out (by first|rfl|trivial))).mono ?_
   rintro r w2 ⟨rfl,hu2,hr2⟩
   have rf2:=hu2.row rf HX.out
   have hu3:=hu.trans hu2
   have hl2:=rf2.lt
   have HE1:=Lib.hid (K1.out (by first|omega|trivial|simp))
   by_cases hf:f2.err=0
   ·have hf1:(f2.err !=0)=false:=neq_no hf
    have HE:=Lib.hid hf
    have HR:=Lib.hid (HR2.out w2 (.cells (ftC f2) 31) (hr2.out hf))
    clear hf
    go_wp2_with fail
    go_roundw
    case rel=>exact ⟨2,by omega,by go_num,hu3.alloc _,rf2.alloc _,fun h=>absurd h (by omega),fun _=>HE1.out,fun h=>absurd h (by omega),fun _=>⟨HE.out,HR.out⟩⟩
    case measure=>first|(simp[intOf];omega)|simp[intOf]
   ·have hf1:(f2.err !=0)=true:=neq_yes hf
    have HF:=Lib.hid (ft2_0 (b:=f2) HE1.out)
    refine' zq120
  ·have HF:Hid (ft2 f1 f2=ft0):=by
    show _=_
    rw[ft2_0 (K1.out (by first|omega|trivial|simp)),HZ.out (K3.out (by first|rfl|trivial)).1]
   have HR:=Lib.hid (HR3.out wr w.heap.size (.int .i64 0) (.int .i64 0) (.int .i64 0) (Nat.le_refl _) (K3.out (by first|rfl|trivial)).2)
   obtain ⟨⟨k0,k1,k2⟩,g0,g1,g2⟩:=rf.three
   go_wp2_with fail
   exact bodyPost_ret (res1 rfl Tryz.underlying31 rfl (by kernel_rfl) rfl (rf.set3 _ _ _)) rfl ⟨(congrArg (fun f=>Ending.returned (ftV f)) HF.out).symm,hu.set3 (Nat.le_refl _) _ _ _,fun _=>HR.out⟩
theorem lefts_len {l:List Eqn} (h:∀q∈l,q.left.length≤12):(lefts l).length≤12*l.length:=by
 induction l with
 |nil=>simp[lefts]
 |cons q l ih=>
  have h1:=ih (fun q hq=>h q (by simp[hq]))
  have h2:=h q (by simp)
  simp only[lefts,List.map_cons,List.flatten_cons,List.length_append,List.length_cons] at h1⊢
  omega
theorem metTo_succ {n:Nd} {k:Nat} {q:Eqn} (h:n.eqs[k]? =some q):metTo n (k+1)=metTo n k++q.left:=by
 unfold metTo lefts
 rw[List.take_add_one,h]
 simp
theorem metTo_len {n:Nd} (sm:NdSm n) (k:Nat):(metTo n k).length≤1000:=by
 unfold metTo
 rw[List.length_append,List.length_map]
 have h1:=lefts_len (l:=n.eqs.take k) (fun q hq=>(sm.eq q (List.mem_of_mem_take hq)).left)
 have h2:=sm.ins
 have h3:=sm.eqs
 have h4:(n.eqs.take k).length≤n.eqs.length:=List.length_take_le' _ _
 omega
theorem eqs1_any (n:Nd) (a:NdA) (q:Eqn) (A1:Option Addr) (k1:Nat) (A2:Option Addr) (k2:Nat) (met:List ByteArray) (bm b1 b2 b3:Nat) (w:World) (t:TypeId) (hl:(vrs n).length≤10000) (hn:NdAt w w.heap.size n a) (m1:k1≤maxLen) (s1:Sl w w.heap.size 1 isStr A1 q.left) (hm:MetIs w bm met) (hlen:met.length+q.left.length<1000000)
  (r1:Row w b1 (ndArr n a) 39) (r2:Row w b2 (eqArr q A1 k1 A2 k2) 81) (r3:Row w b3 #[.map (some bm)] t):
  Calls Tryz.prog 196 #[.pointer (some ⟨b1,0,none⟩),.pointer (some ⟨b2,0,none⟩),.pointer (some ⟨b3,0,none⟩)] w (LeftRes n met q bm w):=by
 refine' zq123
 have r2':=r2.below b0 r2.lt
 have r3':=r3.below b0 r3.lt
 have mt:=hm.below b0
 have hbm:=hm.lt
 have HN:=Lib.hid (hn.next b0)
 have HS:=Lib.hid (strs_keep s1 (keeps_of b0) b0.size)
 clear hn s1 r1 r2 r3
 go_enter Tryz.func196,Tryz.ntmps196
 refine' zq162
 obtain ⟨c0,c1,cc2,c3,c4,c5,c6⟩:=r1'.nd
 obtain ⟨d0,d1,d2,d3,d4,d5,d6,d7,d8⟩:=r2'.eqn
 have e0:=r3'.src
 go_wp2_with fail
 refine (left_any n a q A1 k1 A2 k2 met bm W1 hl HN.out m1 HS.out mt hlen).mono ?_
 rintro r w2 ⟨rfl,hm2,hu2⟩
 have rf2:=UpdM.row hu2 mt rf
 have hu3:UpdM bm w w2:=(UpdM.of b0).trans hu2
 obtain ⟨⟨k0,k1',k2'⟩,g0,g1,g2⟩:=rf2.three
 have hne:bm≠w.heap.size:=by omega
 go_wp2_with fail
 exact bodyPost_ret (res1 rfl Tryz.underlying31 rfl (by kernel_rfl) rfl (rf2.set3 _ _ _)) rfl ⟨rfl,fun g=>(hm2.out g).set3 hne _ _ _,Upd.set3 hu3 (Nat.le_refl _) _ _ _⟩
theorem eqs2_any (s:List Nd) (A:Option Addr) (cap:Nat) (n:Nd) (a:NdA) (q:Eqn) (A1:Option Addr) (k1:Nat) (A2:Option Addr) (k2:Nat) (b1 b2 b3:Nat) (w:World) (h1:s.length≤cap) (h2:cap≤maxLen) (hl:(vrs n).length≤10000) (ok:ExOk q.right) (hk2:q.right.args.length≤k2) (hm2:k2≤maxLen)
  (hs:Nds w w.heap.size A s) (hn:NdAt w w.heap.size n a) (hx:IsExs w w.heap.size A2 q.right.args)
  (r1:Row w b1 #[.slice A s.length cap] 24) (r2:Row w b2 (ndArr n a) 39) (r3:Row w b3 (eqArr q A1 k1 A2 k2) 81):
  Calls Tryz.prog 198 #[.pointer (some ⟨b1,0,none⟩),.pointer (some ⟨b2,0,none⟩),.pointer (some ⟨b3,0,none⟩)] w fun r w'=>r= .returned (ftV (exprF s n q.left.length q.right))∧Below w.heap.size w w':=by
 refine' zq123
 have r2':=r2.below b0 r2.lt
 have r3':=r3.below b0 r3.lt
 have HS:=Lib.hid (nds_keep hs (keeps_of b0) b0.size)
 have HN:=Lib.hid (hn.next b0)
 have HX:=Lib.hid (exs_keep hx (keeps_of b0) b0.size)
 clear hs hn hx r1 r2 r3
 go_enter Tryz.func198,Tryz.ntmps198
 refine' zq162
 have z0:=r1'.src
 obtain ⟨c0,c1,cc2,c3,c4,c5,c6⟩:=r2'.nd
 obtain ⟨d0,d1,d2,d3,d4,d5,d6,d7,d8⟩:=r3'.eqn
 go_wp2_with fail
 refine (right_scope s A cap n a q A1 k1 A2 k2 W1 h1 h2 hl ok hk2 hm2 HS.out HN.out HX.out).mono ?_
 refine' zq78
theorem catTo_two (s1 s2:Vsl):catTo [s1,s2] 2=s1.l++s2.l:=by simp[catTo]
theorem equations_any (s:List Nd) (A:Option Addr) (cap:Nat) (n:Nd) (a:NdA) (w:World) (h1:s.length≤cap) (h2:cap≤maxLen) (sm:NdSm n) (hs:Nds w w.heap.size A s) (hn:NdAt w w.heap.size n a):
  Calls Tryz.prog 126 #[srcV s A cap,ndV n a] w fun r w'=>r= .returned (ftV (equationsF s n))∧Below w.heap.size w w':=by
 have hmm:= @run_makeMap Tryz.prog
 refine' zq236
 have HS:Hid (∀W,Keeps w.heap.size w W→Nds W w.heap.size A s):=fun W hW=>nds_keep hs hW (Nat.le_refl _)
 refine' zq227
 have HML:=Lib.hid (metTo_len sm)
 have gi:=hn.mi
 have go:=hn.mo
 have gv:=hn.mv
 have gq:=hn.mq
 have hnv:=hn.lv
 have hli:=hn.li
 have hlo:=hn.lo
 have hlq:=hn.lq
 have hil:=sm.ins
 have hol:=sm.outs
 have hvl:=sm.vars
 refine' zq30
 refine' zq182
 refine' zq80
 have HF0:Hid (equationsF s n=ft2 (fstL (eqnF s n) n.eqs) (fstL (defF n) (n.outs++n.vars))):=rfl
 clear hs hn sm
 go_enter Tryz.func126,Tryz.ntmps126
 refine' zq119
 have mt2:=(met_made W1).alloc (.cells #[.map (some W1.heap.size)] 107)
 have rm2:=rowNew2 W1 (.map #[] 0) #[.map (some W1.heap.size)] 107
 have b2:Below W1.heap.size W1 ((W1.alloc (.map #[] 0)).alloc (.cells #[.map (some W1.heap.size)] 107)):=bE
 go_upto_region 2 with (fail)
 clear hmm
 have rs2:=rs1.below b2 rs1.lt
 have rn2:=rn1.below b2 rn1.lt
 have rf2:=rf1.below b2 rf1.lt
 have hB2:=b1.trans (b2.mono hs1)
 generalize hW2:(W1.alloc (.map #[] 0)).alloc (.cells #[.map (some W1.heap.size)] 107)=W2 at*
 clear hW2
 have hs2:=hB2.size
 have hbm:w.heap.size≤W1.heap.size:=hs1
 have hlm:=rm2.lt
 generalize hbmm:W1.heap.size=bm at*
 clear hbmm rs1 rn1 rf1 b1 b2 hs1
 obtain ⟨c0,c1,cc2,c3,c4,c5,c6⟩:=rn2.nd
 refine' zq121
 go_loopw[17] (fun i wr=>∃k:Nat,k≤n.ins.length∧i= .int .i64 k∧MetIs wr bm ((nms n.ins).take k)∧UpdM bm W2 wr) (fun i _=>n.ins.length-(intOf i).toNat)
 case atStart=>exact ⟨0,Nat.zero_le _,rfl,mt2,Upd.refl _ _⟩
 case round=>
  obtain ⟨k,hk,rfl,mtr,hu⟩:=hrel
  have hszr:=hu.size
  have rm:=hu.row mt2 rm2
  have hB:Below w.heap.size w wr:=hB2.trans (Upd.below hu (fun k hk=>by omega) hs2)
  have hsB:=hB.size
  by_cases hlt:k<n.ins.length
  ·obtain ⟨b,off,x,A',cap',hA,hb,hx,ok,g1,g2,hxs,d0,d1,d2,d3,d4⟩:=(HN.out wr (keeps_of hB)).si.vr hlt
   rw[hA]
   have HA:=Lib.hid hA
   have hnm:=ok.name
   have HTK:Hid ((nms n.ins).take (k+1)=(nms n.ins).take k++ [x.name]):=by
    show _=_
    rw[List.take_add_one,map_get Vr.name hx];rfl
   refine' zq126
   have mta:=mtr.below ba
   have rma:=rm.below ba rm.lt
   have hua:=hu.trans (UpdM.of ba)
   have hml:((nms n.ins).take k).length<1000000:=by have:=met_le (l:=n.ins) (k:=k);omega
   clear hA hx hxs ok
   go_upto_region 5 with (fail)
   clear d0 d1 d2 d3 d4
   generalize hW4:wr.alloc (.cells (vrArr x A' cap') 89)=w4 at*
   clear hW4
   obtain ⟨d0,d1,d2,d3,d4⟩:=rx.vr
   have e0:=rma.src
   go_wp2_with (at_mapUpdate;refine wpList_met rfl _ _ _ rfl bm _ rfl mta hml x.name rfl hnm rfl ?_)
   intro w5 mt5 hg5
   rw[←HTK.out] at mt5
   have hu5:UpdM bm W2 w5:=UpdM.grown hua hg5
   go_wp2_with fail
   go_roundw
   case rel=>exact ⟨k+1,by omega,by go_num,mt5,hu5⟩
   case measure=>first|(simp[intOf];omega)|simp[intOf]
  ·obtain rfl:k=n.ins.length:=by omega
   have mt3:MetIs wr bm (metTo n 0):=by
    have h:=mtr
    rw[List.take_of_length_le (by rw[List.length_map];exact Nat.le_refl _)] at h
    have e:metTo n 0=nms n.ins:=by unfold metTo lefts;simp
    rw[e];exact h
   have rn:=hu.row mt2 rn2
   have rf:=hu.row mt2 rf2
   have rs:=hu.row mt2 rs2
   have hbm3:=mt3.lt
   clear mtr hu rs2 rn2 rf2 rm2 hB2 hs2 mt2 hszr
   obtain ⟨w3,rfl⟩:∃w3:World,w3=wr:=⟨_,rfl⟩
   obtain ⟨c0,c1,cc2,c3,c4,c5,c6⟩:=rn.nd
   refine' zq121
   go_loopw[28] (fun i wr=>∃k:Nat,k≤n.eqs.length∧i= .int .i64 k∧Hid (∀j,j<k→∀x,n.eqs[j]? =some x→(eqnF s n j x).err=0)∧MetIs wr bm (metTo n k)∧UpdM bm w3 wr) (fun i _=>n.eqs.length-(intOf i).toNat)
   case atStart=>exact ⟨0,Nat.zero_le _,rfl,fun j h=>absurd h (by omega),mt3,Upd.refl _ _⟩
   case round=>
    obtain ⟨k,hk,rfl,HJ,mtr,hu⟩:=hrel
    have hszr:=hu.size
    have rm4:=hu.row mt3 rm
    have rn4:=hu.row mt3 rn
    have rs4:=hu.row mt3 rs
    have rf4:=hu.row mt3 rf
    have hB4:Below w.heap.size w wr:=hB.trans (Upd.below hu (fun k hk=>by omega) hsB)
    have hsB4:=hB4.size
    by_cases hlt:k<n.eqs.length
    ·obtain ⟨b,off,q,A1,k1,A2,k2,hA,hb,hq,ok,lq1,mq1,sl1,lq2,mq2,sl2,d0,d1,d2,d3,d4,d5,d6,d7,d8⟩:=(HN.out wr (keeps_of hB4)).sq.eqn hlt
     rw[hA]
     have HA:=Lib.hid hA
     have HXK:=Lib.hid hq
     have HSQ:=Lib.hid (HSM.out.eq q (List.mem_of_getElem? hq))
     have HOK:=Lib.hid ok.right
     have HS1:Hid (∀W,UpdM bm wr W→Sl W W.heap.size 1 isStr A1 q.left):=fun W hW=>strs_keep sl1 (hW.keeps mtr) (Nat.le_trans hsB4 hW.size)
     have HS2:Hid (∀W,UpdM bm wr W→IsExs W W.heap.size A2 q.right.args):=fun W hW=>exs_keep sl2 (hW.keeps mtr) (Nat.le_trans hsB4 hW.size)
     have HNW:Hid (∀W,UpdM bm wr W→NdAt W W.heap.size n a):=fun W hW=>((HN.out wr (keeps_of hB4)).keep (hW.keeps mtr) (Nat.le_refl _)).more (Nat.le_trans hsB4 hW.size)
     have HSW:Hid (∀W,UpdM bm wr W→Nds W W.heap.size A s):=fun W hW=>nds_keep (HS.out wr (keeps_of hB4)) (hW.keeps mtr) (Nat.le_trans hsB4 hW.size)
     have HMT:Hid (metTo n (k+1)=metTo n k++q.left):=metTo_succ hq
     have hll:(metTo n k).length+q.left.length<1000000:=by
      have h1:=HML.out k
      have h2:=HSQ.out.left
      omega
     have HLL:=Lib.hid hll
     obtain ⟨f1,HF1⟩:∃f,Hid (leftF n (metTo n k) q=f):=⟨_,rfl⟩
     obtain ⟨f2,HF2⟩:∃f,Hid (exprF s n q.left.length q.right=f):=⟨_,rfl⟩
     have HZ2:Hid (f2.err=0→f2=ft0):=fun g=>by
      rw[←HF2.out,←exprF_list] at g⊢
      exact fstL_zero g
     have HEQ:Hid (eqnF s n k q=ft2 f1 f2):=by show _=_;rw[←HF1.out,←HF2.out];rfl
     clear hA hq ok sl1 sl2 hll
     refine' zq192
     refine' zq261
     go_upto_region 10 with (fail)
     clear d0 d1 d2 d3 d4 d5 d6 d7 d8
     generalize hW6:wr.alloc (.cells (eqArr q A1 k1 A2 k2) 81)=w6 at*
     clear hW6
     have hsa:=ba.size
     have bb:Below w6.heap.size w6 (w6.alloc (.cells #[.func (.func 196) #[] #[.pointer (some ⟨w.heap.size+1,0,none⟩),.pointer (some ⟨wr.heap.size,0,none⟩),.pointer (some ⟨bm+1,0,none⟩)],.func (.func 198) #[] #[.pointer (some ⟨w.heap.size,0,none⟩),.pointer (some ⟨w.heap.size+1,0,none⟩),.pointer (some ⟨wr.heap.size,0,none⟩)]] 172)):=bE
     have rc:=Row.new w6 #[.func (.func 196) #[] #[.pointer (some ⟨w.heap.size+1,0,none⟩),.pointer (some ⟨wr.heap.size,0,none⟩),.pointer (some ⟨bm+1,0,none⟩)],.func (.func 198) #[] #[.pointer (some ⟨w.heap.size,0,none⟩),.pointer (some ⟨w.heap.size+1,0,none⟩),.pointer (some ⟨wr.heap.size,0,none⟩)]] 172
     have b67:=ba.trans (bb.mono hsa)
     go_wp2_with fail
     generalize hW7:w6.alloc (.cells #[.func (.func 196) #[] #[.pointer (some ⟨w.heap.size+1,0,none⟩),.pointer (some ⟨wr.heap.size,0,none⟩),.pointer (some ⟨bm+1,0,none⟩)],.func (.func 198) #[] #[.pointer (some ⟨w.heap.size,0,none⟩),.pointer (some ⟨w.heap.size+1,0,none⟩),.pointer (some ⟨wr.heap.size,0,none⟩)]] 172)=w7 at*
     clear hW7
     have mt7:=mtr.below b67
     have rm7:=rm4.below b67 rm4.lt
     have rn7:=rn4.below b67 rn4.lt
     have rs7:=rs4.below b67 rs4.lt
     have rf7:=rf4.below b67 rf4.lt
     have re7:=re.below bb re.lt
     have u7:UpdM bm wr w7:=UpdM.of b67
     have hs7:=u7.size
     have hbm7:=mt7.lt
     refine (first_two 196 198 _ _ w6.heap.size w7 (fun j=>j=bm) f1 f2 (fun W=>MetIs W bm (metTo n (k+1))) (fun W=>MetIs W bm (metTo n (k+1))) 172 (enters_of Tryz.func196 (by kernel_rfl) rfl) (enters_of Tryz.func198 (by kernel_rfl) rfl) rc (fun g=>by have:=mtr.lt;omega)
      (fun W o h=>h.alloc o) (fun W o h=>h.alloc o) (fun W g y0 y1 y2 hg h=>h.set3 (by omega) y0 y1 y2) ?f1 ?f2 (fun k hk=>by omega) HZ2.out).mono ?_
     case f1=>
      intro W hW
      have hu7:UpdM bm wr W:=u7.trans (UpdM.of hW)
      refine (eqs1_any n a q A1 k1 A2 k2 (metTo n k) bm _ _ _ W _ HL.out (HNW.out W hu7) mq1 (HS1.out W hu7) (mt7.below hW) HLL.out (rn7.below hW rn7.lt) (re7.below hW re7.lt) (rm7.below hW rm7.lt)).mono fun r W' hr=>?_
      obtain ⟨g1,g2,g3⟩:=hr
      rw[HF1.out] at g1 g2
      exact ⟨g1,g3,fun g=>by rw[HMT.out];exact g2.out g⟩
     case f2=>
      intro W hW hR
      have hu7:UpdM bm wr W:=u7.trans hW
      refine (eqs2_any s A cap n a q A1 k1 A2 k2 _ _ _ W h1 h2 HL.out HOK.out lq2 mq2 (HSW.out W hu7) (HNW.out W hu7) (HS2.out W hu7) (UpdM.row hW mt7 rs7) (UpdM.row hW mt7 rn7) (UpdM.row hW mt7 re7)).mono fun r W' hr=>?_
      obtain ⟨g1,g2⟩:=hr
      rw[HF2.out] at g1
      exact ⟨g1,Upd.of_below g2,fun _=>hR.below g2⟩
     rintro r w8 ⟨rfl,hu8,hm8⟩
     have rf8:=UpdM.row hu8 mt7 rf7
     have hu9:UpdM bm w3 w8:=hu.trans (Upd.trans u7 hu8)
     have hB8:Below w.heap.size w w8:=hB.trans (Upd.below hu9 (fun k hk=>by omega) hsB)
     have hsB8:=hB8.size
     have hl8:=rf8.lt
     have hl8':w.heap.size+1+1<w8.heap.size:=hl8
     obtain ⟨f,HF⟩:∃f,Hid (ft2 f1 f2=f):=⟨_,rfl⟩
     rw[HF.out] at hm8⊢
     by_cases hf:f.err=0
     ·have hf1:(f.err !=0)=false:=neq_no hf
      have HJ':=Lib.hid (step_uptoI (P:=fun j x=>(eqnF s n j x).err=0) HJ.out HXK.out (by rw[HEQ.out,HF.out];exact hf))
      have mt9:=(hm8.out hf).alloc (.cells (ftC f) 31)
      clear hf
      go_wp2_with fail
      go_roundw
      case rel=>exact ⟨k+1,by omega,by go_num,HJ',mt9,Upd.alloc hu9 _⟩
      case measure=>first|(simp[intOf];omega)|simp[intOf]
     ·have hf1:(f.err !=0)=true:=neq_yes hf
      have HFE:Hid (equationsF s n=f):=by
       have e:eqnF s n k q=f:=by rw[HEQ.out,HF.out]
       have h:=fstL_stop (f:=eqnF s n) HJ.out HXK.out (by rw[e];exact hf)
       show _=_
       rw[HF0.out,h,e,ft2_1 hf]
      clear hf
      obtain ⟨⟨k0,k1',k2'⟩,g0,g1,g2⟩:=rf8.three
      go_wp2_with fail
      exact bodyPost_ret (res1 rfl Tryz.underlying31 rfl (by kernel_rfl) rfl ((rf8.set3 _ _ _).alloc _)) rfl ⟨(congrArg (fun f=>Ending.returned (ftV f)) HFE.out).symm,(below_set3 hB8 (by first|omega|(simp;omega)|simp) _ _ _).alloc (by first|(simp[World.setCell];omega)|simp[World.setCell]) _⟩
    ·obtain rfl:k=n.eqs.length:=by omega
     have HF1:Hid (equationsF s n=fstL (defF n) (n.outs++n.vars)):=by
      show _=_
      rw[HF0.out,fstL_end HJ.out,ft2_0 (a:=ft0) rfl]
     have hcat:catTo [⟨a.ao,a.co,n.outs⟩,⟨a.av,a.cv,n.vars⟩] 2=n.outs++n.vars:=catTo_two _ _
     have HC:=Lib.hid hcat
     have hNr:=HN.out wr (keeps_of hB4)
     have HSO:=Lib.hid hNr.so
     have HSV:=Lib.hid hNr.sv
     have bb:Below wr.heap.size wr (wr.alloc (.cells #[.slice a.ao n.outs.length a.co,.slice a.av n.vars.length a.cv] 36)):=bE
     obtain ⟨c0,c1,cc2,c3,c4,c5,c6⟩:=rn4.nd
     clear hcat hNr HJ HF0
     go_wp2_with fail
     refine (concat_var [⟨a.ao,a.co,n.outs⟩,⟨a.av,a.cv,n.vars⟩] wr.heap.size w.heap.size 2 _ (Nat.le_refl _) (by decide) (by rw[show [(⟨a.ao,a.co,n.outs⟩:Vsl),⟨a.av,a.cv,n.vars⟩].length=2 from rfl,HC.out,List.length_append];omega) (by simp) (by simp;omega) ?_ ?_).mono ?_
     ·intro k s hs
      match k,hs with
      |0,hs=>simp at hs;subst hs;simp
      |1,hs=>simp at hs;subst hs;simp
     ·intro k s hs
      match k,hs with
      |0,hs=>simp at hs;subst hs;exact vrs_keep HSO.out (keeps_of (bb.mono hsB4)) (Nat.le_refl _)
      |1,hs=>simp at hs;subst hs;exact vrs_keep HSV.out (keeps_of (bb.mono hsB4)) (Nat.le_refl _)
     rintro e w5 ⟨v,css,rfl,ho,ha,hb5⟩
     rw[show [(⟨a.ao,a.co,n.outs⟩:Vsl),⟨a.av,a.cv,n.vars⟩].length=2 from rfl,HC.out] at ho ha
     obtain ⟨⟨Al,cl,hv,ll,ml,hsl⟩,_⟩:=own_sl ho ha (ha.all (fun _ _ _ h=>(isVr_one h).1)) (by decide)
     subst hv
     have HSL:=Lib.hid hsl
     have ml':cl≤9223372036854775807:=by unfold maxLen at ml;omega
     have b5:=bb.trans (hb5.mono bb.size)
     have mt5:=mtr.below b5
     have rm5:=rm4.below b5 rm4.lt
     have rf5:=rf4.below b5 rf4.lt
     have hB5:=hB4.trans (b5.mono hsB4)
     have hsB5:=hB5.size
     have hlen:(n.outs++n.vars).length≤10000:=by rw[List.length_append];omega
     clear ho ha hsl HSO HSV c0 c1 cc2 c3 c4 c5 c6 bb hb5
     obtain ⟨L,HLL⟩:∃L,Hid (n.outs++n.vars=L):=⟨_,rfl⟩
     rw[HLL.out] at ll hlen HSL HF1⊢
     go_wp2_with fail
     go_loopw[48] (fun i wr=>∃k:Nat,k≤L.length∧i= .int .i64 k∧Hid (∀j,j<k→∀x,L[j]? =some x→(defF n j x).err=0)∧Below w5.heap.size w5 wr) (fun i _=>L.length-(intOf i).toNat)
     case atStart=>exact ⟨0,Nat.zero_le _,rfl,fun j h=>absurd h (by omega),Below.refl _ _⟩
     case round=>
      refine' zq210
      have mt6:=mt5.below hbr
      have rm6:=rm5.below hbr rm5.lt
      have rf6:=rf5.below hbr rf5.lt
      have hB6:=hB5.trans (hbr.mono hsB5)
      have hsB6:=hB6.size
      by_cases hlt:k<L.length
      ·obtain ⟨b,off,x,A',cap',hA,hb,hx,ok,g1,g2,hxs,d0,d1,d2,d3,d4⟩:=(vrs_keep2 HSL.out hbr hsB5).vr hlt
       subst hA
       have HXK:=Lib.hid hx
       have hnm:=ok.name
       refine' zq126
       clear hx hxs ok
       go_upto_region 17 with (fail)
       clear d0 d1 d2 d3 d4
       generalize hW8:wr.alloc (.cells (vrArr x A' cap') 89)=w8 at*
       clear hW8
       have mt8:=mt6.below ba
       have rm8:=rm6.below ba rm6.lt
       have rf8:=rf6.below ba rf6.lt
       have hB8:=hB6.trans (ba.mono hsB6)
       obtain ⟨d0,d1,d2,d3,d4⟩:=rx.vr
       have e0:=rm8.src
       by_cases hP:x.name∈metTo n n.eqs.length
       ·have hlk:=(mt8.look hnm).1 hP
        have HJ':=Lib.hid (step_uptoI (P:=fun j x=>(defF n j x).err=0) HJ.out HXK.out (by unfold defF;rw[if_neg (fun g=>g hP)]))
        clear hP
        go_wp2_with fail
        go_roundw
        case rel=>exact ⟨k+1,by omega,by go_num,HJ',hbr.trans (ba.mono hszr)⟩
        case measure=>first|(simp[intOf];omega)|simp[intOf]
       ·have hlk:=(mt8.look hnm).2 hP
        have HF:Hid (equationsF s n=⟨26,x.line,x.col⟩):=by
         have e:defF n k x=⟨26,x.line,x.col⟩:=by unfold defF;rw[if_pos hP]
         have h:=fstL_stop (f:=defF n) HJ.out HXK.out (by rw[e];show (26:Int)≠0;decide)
         show _=_
         rw[HF1.out,h,e]
        clear hP
        refine' zq86
        have q9:Below w8.heap.size w8 w9:=Below.trans bE (hb9.mono lE)
        have rf9:=rf8.below q9 rf8.lt
        have b9:=Below.trans hB8 (q9.mono (Below.size hB8))
        refine' zq5
      ·obtain rfl:k=L.length:=by omega
       have HF:Hid (equationsF s n=ft0):=HF1.out.trans (fstL_end HJ.out)
       obtain ⟨⟨k0,k1,k2⟩,g0,g1,g2⟩:=rf6.three
       go_wp2_with fail
       exact bodyPost_ret (res1 rfl Tryz.underlying31 rfl (by kernel_rfl) rfl (rf6.set3 _ _ _)) rfl ⟨(congrArg (fun f=>Ending.returned (ftV f)) HF.out).symm,below_set3 hB6 (by first|omega|(simp;omega)|simp) _ _ _⟩
end Go.Proofs.YtgjfkidbfmbjoaaGreat
