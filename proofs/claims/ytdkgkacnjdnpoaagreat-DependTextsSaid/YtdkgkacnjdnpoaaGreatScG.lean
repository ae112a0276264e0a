/-
  What is wrong first with a node's variables, and with the left of an equation: the contracts of scope.variables and scope.left. What is wrong with the left of an equation: the contract of scope.left.
-/
import Derived.Test.YtdkgkacnjdnpoaaGreatZz
import Derived.Test.YtdkgkacnjdnpoaaGreatMet
import Derived.Test.YtdkgkacnjdnpoaaGreatScH
import Derived.Carry
set_option maxHeartbeats 1000000
set_option maxRecDepth 100000
namespace Go.Proofs.YtdkgkacnjdnpoaaGreat
open Go.RowKit
abbrev UpdM (bm:Nat) (w w':World):Prop:=Upd (fun j=>j=bm) w w'
section
variable {w w' a:World} {bm B b:Nat} {l:List ByteArray}
theorem UpdM.cell (h:UpdM bm w w') (hm:MetIs w bm l) {p:Addr} {u:Value} (hc:w.cell? p=some u):w'.cell? p=some u:=by
 have hb:=block_lt_of_cell hc
 by_cases e:p.block=bm
 ·obtain ⟨n,D,⟨es,clock,h0,_⟩,_⟩:=hm
  rw[←e] at h0
  simp[World.cell?,h0] at hc
 ·have:=h.block p.block hb e
  simp only[World.cell?,this]
  exact hc
theorem UpdM.keeps (h:UpdM bm w w') (hm:MetIs w bm l):Keeps B w w':=fun _ _ _ hc=>h.cell hm hc
theorem UpdM.row (h:UpdM bm w w') (hm:MetIs w bm l) {cs:Array Value} {t:TypeId} (hr:Row w b cs t):Row w' b cs t:=by
 refine (h.block b hr.lt fun e=>?_).trans hr
 obtain ⟨n,D,⟨es,clock,h0,_⟩,_⟩:=hm
 have h1:w.heap[b]? =some (.cells cs t (0,0)):=hr
 rw[e,h0] at h1
 cases h1
theorem UpdM.grown (h:UpdM bm a w) (hg:w.grownBy w' (some bm)):UpdM bm a w':=
 ⟨hg.os.trans h.os,hg.tape.trans h.tape,hg.output.trans h.output,Nat.le_trans h.size hg.size,fun k hk hX=>(hg.block k (Nat.lt_of_lt_of_le hk h.size) (fun e=>hX (by injection e))).trans (h.block k hk hX)⟩
theorem Upd.setNew {X:Nat→Prop} (h:Upd X a w) {p:Addr} (hp:a.heap.size≤p.block) (u:Value):Upd X a (w.setCell p u):=
 ⟨h.os,h.tape,h.output,by simpa[World.setCell] using h.size,fun i hi hX=>(Below.heap_setCell w p u i (by omega)).trans (h.block i hi hX)⟩
theorem Upd.set3 {X:Nat→Prop} (h:Upd X a w) {g:Nat} (hp:a.heap.size≤g) (y0 y1 y2:Value):Upd X a (((w.setCell ⟨g,0,none⟩ y0).setCell ⟨g,1,none⟩ y1).setCell ⟨g,2,none⟩ y2):=
 ((h.setNew (p:=⟨g,0,none⟩) hp y0).setNew (p:=⟨g,1,none⟩) hp y1).setNew (p:=⟨g,2,none⟩) hp y2
theorem MetIs.set3 (h:MetIs w bm l) {g:Nat} (hp:bm≠g) (y0 y1 y2:Value):MetIs (((w.setCell ⟨g,0,none⟩ y0).setCell ⟨g,1,none⟩ y1).setCell ⟨g,2,none⟩ y2) bm l:=
 ((h.set (p:=⟨g,0,none⟩) hp y0).set (p:=⟨g,1,none⟩) hp y1).set (p:=⟨g,2,none⟩) hp y2
theorem UpdM.of (h:Below w.heap.size w w'):UpdM bm w w':=Upd.of_below h
end
theorem met_le {l:List Vr} {k:Nat}:((nms l).take k).length≤l.length:=by simp[List.length_take];omega
theorem variables_any (n:Nd) (a:NdA) (w:World) (sm:NdSm n) (hn:NdAt w w.heap.size n a):
  Calls Tryz.prog 95 #[ndV n a] w fun r w'=>r= .returned (ftV (variablesF n))∧Below w.heap.size w w':=by
 have hmm:= @run_makeMap Tryz.prog
 have rn1:=(Row.new w (ndArr n a) 58).alloc (.cells ftC0 38)
 have rf1:=rowNew2 w (.cells (ndArr n a) 58) ftC0 38
 have b1:Below w.heap.size w ((w.alloc (.cells (ndArr n a) 58)).alloc (.cells ftC0 38)):=bE
 refine' zq156
 have gi:=hn.mi
 have go:=hn.mo
 have gv:=hn.mv
 have hnv:=hn.lv
 have hli:=hn.li
 have hlo:=hn.lo
 have hil:=sm.ins
 have hol:=sm.outs
 have gi':a.ci≤9223372036854775807:=by unfold maxLen at gi;omega
 have go':a.co≤9223372036854775807:=by unfold maxLen at go;omega
 have gv':a.cv≤9223372036854775807:=by unfold maxLen at gv;omega
 have HF0:Hid (variablesF n=ft2 (fstL (varF n) (vrs n)) (fstL (clkF n) n.vars)):=rfl
 clear hn sm
 go_enter Tryz.func95,Tryz.ntmps95
 go_upto_region 1 with (fail)
 generalize (w.alloc (.cells (ndArr n a) 58)).alloc (.cells ftC0 38)=W1 at*
 have hs1:=b1.size
 have mt2:=met_made W1
 have b2:Below W1.heap.size W1 (W1.alloc (.map #[] 0)):=(Below.refl _ _).alloc (Nat.le_refl _) _
 go_upto_region 2 with (fail)
 clear hmm
 have rn2:=rn1.below b2 rn1.lt
 have rf2:=rf1.below b2 rf1.lt
 have hB2:=b1.trans (b2.mono hs1)
 generalize hW2:W1.alloc (.map #[] 0)=W2 at*
 clear hW2
 have hs2:=hB2.size
 have hbm:w.heap.size≤W1.heap.size:=hs1
 generalize hbmm:W1.heap.size=bm at*
 clear hbmm
 obtain ⟨c0,c1,cc2,c3,c4,c5,c6⟩:=rn2.nd
 go_wp2_with fail
 refine (all_any w.heap.size n a W2 hs2 (HN.out W2 (keeps_of hB2)) HL.out).mono ?_
 rintro r w3 ⟨⟨v,rfl,hown⟩,hb3⟩
 obtain ⟨Al,cl,rfl,ll,ml,hsl⟩:=hown.sl
 have ml':cl≤9223372036854775807:=by unfold maxLen at ml;omega
 have HSL:=Lib.hid hsl
 have rn3:=rn2.below hb3 rn2.lt
 have rf3:=rf2.below hb3 rf2.lt
 have mt3:=mt2.below hb3
 have hB3:=hB2.trans (hb3.mono hs2)
 have hs3:=hB3.size
 have HLE:=HL.out
 clear hown hsl rn1 rf1 rn2 rf2 mt2 hb3 hB2 hs2 b1 b2 hs1 c0 c1 cc2 c3 c4 c5 c6
 obtain ⟨L,HLL⟩:∃L,Hid (vrs n=L):=⟨_,rfl⟩
 rw[HLL.out] at ll HLE HSL⊢
 go_wp2_with fail
 go_loopw[22] (fun i wr=>∃k:Nat,k≤L.length∧i= .int .i64 k∧Hid (∀j,j<k→∀x,L[j]? =some x→(varF n j x).err=0)∧MetIs wr bm ((nms (vrs n)).take k)∧UpdM bm w3 wr) (fun i _=>L.length-(intOf i).toNat)
 case atStart=>exact ⟨0,Nat.zero_le _,rfl,fun j h=>absurd h (by omega),mt3,Upd.refl _ _⟩
 case round=>
  obtain ⟨k,hk,rfl,HJ,mtr,hu⟩:=hrel
  have hszr:=hu.size
  have rn:=hu.row mt3 rn3
  have rf:=hu.row mt3 rf3
  have hB:Below w.heap.size w wr:=hB3.trans (Upd.below hu (fun k hk=>by omega) hs3)
  have hsB:=hB.size
  have HSR:=Lib.hid (Sl.keep HSL.out (hu.keeps mt3 (B:=w3.heap.size)) (Nat.le_refl _) (fun _ _ _ h=>isVr_keep (hu.keeps mt3 (B:=w.heap.size)) (Nat.le_refl _) h))
  by_cases hlt:k<L.length
  ·obtain ⟨b,off,x,A',cap',hA,hb,hx,ok,g1,g2,hxs,d0,d1,d2,d3,d4⟩:=HSR.out.vr hlt
   subst hA
   have HXK:=Lib.hid hx
   have HXV:Hid ((vrs n)[k]? =some x):=by show _=_;rw[HLL.out];exact hx
   have hnm:=ok.name
   have HFn:Hid ((varF n k x).err≠0→variablesF n=varF n k x):=fun g=>by
    have h:=fstL_stop (f:=varF n) (l:=vrs n) (by rw[HLL.out];exact HJ.out) HXV.out g
    rw[HF0.out,h,ft2_1 (a:=varF n k x) g]
   have HTK:Hid ((nms (vrs n)).take (k+1)=(nms (vrs n)).take k++ [x.name]):=by
    show _=_
    rw[List.take_add_one,map_get Vr.name HXV.out];rfl
   refine' zq80
   have mta:=mtr.below ba
   have hua:=hu.trans (UpdM.of ba)
   clear hx hxs ok
   go_upto_region 6 with (fail)
   clear d0 d1 d2 d3 d4
   generalize hW4:wr.alloc (.cells (vrArr x A' cap') 103)=w4 at*
   clear hW4
   have hsa:=ba.size
   have hB4:=hB.trans (ba.mono hsB)
   have rf4:=rf.below ba rf.lt
   obtain ⟨d0,d1,d2,d3,d4⟩:=rx.vr
   by_cases hP:x.name∈(nms (vrs n)).take k
   ·have hlk:=(mta.look hnm).1 hP
    have e:varF n k x=⟨23,x.line,x.col⟩:=by unfold varF;rw[if_pos hP]
    have HF:=Lib.hid ((HFn.out (by rw[e];show (23:Int)≠0;decide)).trans e)
    clear hP e
    refine' zq155
    have b9:=Below.trans hB4 (q9.mono (Below.size hB4))
    refine' zq2
   have hlk:=(mta.look hnm).2 hP
   have HP:=Lib.hid hP
   clear hP
   by_cases q1:k<n.ins.length+n.outs.length∧0<x.clock.length
   ·have q1':decide ((k:Int)<(n.ins.length:Int)+(n.outs.length:Int))=true:=dec_yes (by omega)
    have q1'':decide (k<n.ins.length+n.outs.length)=true:=dec_yes q1.1
    have q2':decide ((0:Int)<(x.clock.length:Int))=true:=dec_yes (by omega)
    have q2'':decide (0<x.clock.length)=true:=dec_yes q1.2
    have e:varF n k x=⟨30,x.line,x.col⟩:=by unfold varF;rw[if_neg HP.out,if_pos q1]
    have HF:=Lib.hid ((HFn.out (by rw[e];show (30:Int)≠0;decide)).trans e)
    clear e q1
    refine' zq155
    have b9:=Below.trans hB4 (q9.mono (Below.size hB4))
    refine' zq2
   have HJ':=Lib.hid (step_uptoI (P:=fun j x=>(varF n j x).err=0) HJ.out HXK.out (by unfold varF;rw[if_neg HP.out,if_neg q1]))
   have hml:((nms (vrs n)).take k).length<1000000:=by have:=met_le (l:=vrs n) (k:=k);have:=HL.out;omega
   have q12:(decide ((k:Int)<(n.ins.length:Int)+(n.outs.length:Int))=false∧decide (k<n.ins.length+n.outs.length)=false)∨(decide ((k:Int)<(n.ins.length:Int)+(n.outs.length:Int))=true∧decide (k<n.ins.length+n.outs.length)=true∧decide ((0:Int)<(x.clock.length:Int))=false∧decide (0<x.clock.length)=false):=by
    by_cases g:k<n.ins.length+n.outs.length
    ·exact .inr ⟨dec_yes (by omega),dec_yes g,dec_no (by omega),dec_no (by omega)⟩
    ·exact .inl ⟨dec_no (by omega),dec_no g⟩
   clear q1
   rcases q12 with ⟨q1',q1''⟩|⟨q1',q1'',q2',q2''⟩
   all_goals
    go_wp2_with (at_mapUpdate;refine wpList_met rfl _ _ _ rfl bm _ rfl mta hml x.name rfl hnm rfl ?_)
    intro w5 mt5 hg5
    rw[←HTK.out] at mt5
    have hu5:UpdM bm w3 w5:=UpdM.grown hua hg5
    go_wp2_with fail
    go_roundw
    case rel=>exact ⟨k+1,by omega,by go_num,HJ',mt5,hu5⟩
    case measure=>first|(simp[intOf];omega)|simp[intOf]
  ·obtain rfl:k=L.length:=by omega
   have HF1:Hid (variablesF n=fstL (clkF n) n.vars):=by
    show _=_
    rw[HF0.out,fstL_end (f:=varF n) (l:=vrs n) (by rw[HLL.out];exact HJ.out),ft2_0 (a:=ft0) rfl]
   have mt6:MetIs wr bm (nms (vrs n)):=by
    have h:=mtr
    rw[List.take_of_length_le (by rw[List.length_map,HLL.out];exact Nat.le_refl _)] at h
    exact h
   obtain ⟨c0,c1,cc2,c3,c4,c5,c6⟩:=rn.nd
   clear HJ HSR HF0 mtr
   obtain ⟨w6,rfl⟩:∃w6:World,w6=wr:=⟨_,rfl⟩
   refine' zq137
   go_loopw[56] (fun i wr=>∃k:Nat,k≤n.vars.length∧i= .int .i64 k∧Hid (∀j,j<k→∀x,n.vars[j]? =some x→(clkF n j x).err=0)∧Below w6.heap.size w6 wr) (fun i _=>n.vars.length-(intOf i).toNat)
   case atStart=>exact ⟨0,Nat.zero_le _,rfl,fun j h=>absurd h (by omega),Below.refl _ _⟩
   case round=>
    obtain ⟨k,hk,rfl,HJ,hbr⟩:=hrel
    have hszr:=hbr.size
    have rf7:=rf.below hbr rf.lt
    have mt7:=mt6.below hbr
    have hB7:=hB.trans (hbr.mono hsB)
    have hsB7:=hB7.size
    by_cases hlt:k<n.vars.length
    ·obtain ⟨b,off,x,A',cap',hA,hb,hx,ok,g1,g2,hxs,d0,d1,d2,d3,d4⟩:=(HN.out wr (keeps_of hB7)).sv.vr hlt
     rw[hA]
     have HA:=Lib.hid hA
     have HXK:=Lib.hid hx
     have HXS:Hid (∀W,Below wr.heap.size wr W→Sl W w.heap.size 2 isLit A' x.clock):=fun W hW=>lits_keep hxs (keeps_of (hW.mono hsB7)) (Nat.le_refl _)
     have HVS:=Lib.hid (HSM.out.all x (by simp[vrs];exact .inr (.inr (List.mem_of_getElem? hx))))
     have g2':cap'≤9223372036854775807:=by unfold maxLen at g2;omega
     refine' zq80
     clear hA hx hxs ok
     go_upto_region 15 with (fail)
     clear d0 d1 d2 d3 d4
     generalize hW8:wr.alloc (.cells (vrArr x A' cap') 103)=w8 at*
     clear hW8
     have hsa:=ba.size
     have hB8:=hB7.trans (ba.mono hsB7)
     have rf8:=rf7.below ba rf7.lt
     have mt8:=mt7.below ba
     have hs8:=hB8.size
     obtain ⟨d0,d1,d2,d3,d4⟩:=rx.vr
     refine' zq97
     go_wp2_with fail
     clear d0 d1 d2 d3 d4
     go_loopw[63] (fun i wr=>∃k:Nat,k≤x.clock.length∧i= .int .i64 k∧Hid (∀j,j<k→∀c,x.clock[j]? =some c→(condF n x j c).err=0)∧Below w8.heap.size w8 wr) (fun i _=>x.clock.length-(intOf i).toNat)
     case atStart=>exact ⟨0,Nat.zero_le _,rfl,fun j h=>absurd h (by omega),Below.refl _ _⟩
     case round=>
      obtain ⟨p,hp,rfl,HQ,hbq⟩:=hrel
      have hszq:=hbq.size
      have rx9:=rx.below hbq rx.lt
      have rf9:=rf8.below hbq rf8.lt
      have mt9:=mt8.below hbq
      have hB9:=hB8.trans (hbq.mono hs8)
      have hsB9:=hB9.size
      by_cases hlp:p<x.clock.length
      ·obtain ⟨b',off',y,hA',hb',hy,ys,f0,f1⟩:=(HXS.out wr (ba.trans (hbq.mono hsa))).lit hlp
       subst hA'
       have HY:=Lib.hid hy
       have rl:=Row.new wr #[.string y.name,.bool y.no] 105
       have bl:Below wr.heap.size wr (wr.alloc (.cells #[.string y.name,.bool y.no] 105)):=bE
       clear hy
       go_upto_region 18 with (fail)
       clear f0 f1
       generalize hWa:wr.alloc (.cells #[.string y.name,.bool y.no] 105)=wa at*
       clear hWa
       have hsl':=bl.size
       have mta:=mt9.below bl
       have rfa:=rf9.below bl rf9.lt
       have rxa:=rx9.below bl rx9.lt
       have hBa:=hB9.trans (bl.mono hsB9)
       have f0:=(rl.cell 0).trans rfl
       obtain ⟨d0,d1,d2,d3,d4⟩:=rxa.vr
       by_cases hP:y.name∈nms (vrs n)
       ·have hlk:=(mta.look ys).1 hP
        have HQ':=Lib.hid (step_uptoI (P:=fun j c=>(condF n x j c).err=0) HQ.out HY.out (by unfold condF;rw[if_neg (fun g=>g hP)]))
        clear hP
        go_wp2_with fail
        go_roundw
        case rel=>exact ⟨p+1,by omega,by go_num,HQ',hbq.trans (bl.mono hszq)⟩
        case measure=>first|(simp[intOf];omega)|simp[intOf]
       ·have hlk:=(mta.look ys).2 hP
        have HF:Hid (variablesF n=⟨24,x.line,x.col⟩):=by
         have e:condF n x p y=⟨24,x.line,x.col⟩:=by unfold condF;rw[if_pos hP]
         have e1:=fstL_stop (f:=condF n x) HQ.out HY.out (by rw[e];show (24:Int)≠0;decide)
         rw[e] at e1
         have e2:clkF n k x=⟨24,x.line,x.col⟩:=e1
         have e3:=fstL_stop (f:=clkF n) HJ.out HXK.out (by rw[e2];show (24:Int)≠0;decide)
         show _=_
         rw[HF1.out,e3,e2]
        clear hP
        refine' zq54
        have q9:Below wa.heap.size wa w9:=Below.trans bE (hb9.mono lE)
        have rf9:=rfa.below q9 rfa.lt
        have b9:=Below.trans hBa (q9.mono (Below.size hBa))
        refine' zq2
      ·obtain rfl:p=x.clock.length:=by omega
       have HJ':=Lib.hid (step_uptoI (P:=fun j x=>(clkF n j x).err=0) HJ.out HXK.out (by unfold clkF;rw[fstL_end HQ.out]))
       go_wp2_with fail
       go_roundw
       case rel=>exact ⟨k+1,by omega,by go_num,HJ',hbr.trans ((ba.trans (hbq.mono hsa)).mono hszr)⟩
       case measure=>first|(simp[intOf];omega)|simp[intOf]
    ·obtain rfl:k=n.vars.length:=by omega
     have HF:=Lib.hid (HF1.out.trans (fstL_end HJ.out))
     refine' zq99
def LeftRes (n:Nd) (met:List ByteArray) (q:Eqn) (bm:Nat) (w:World) (r:Ending) (w':World):Prop:=
 r= .returned (ftV (leftF n met q))∧Hid ((leftF n met q).err=0→MetIs w' bm (met++q.left))∧UpdM bm w w'
theorem left_any (n:Nd) (a:NdA) (q:Eqn) (A1:Option Addr) (k1:Nat) (A2:Option Addr) (k2:Nat) (met:List ByteArray) (bm:Nat) (w:World) (hl:(vrs n).length≤10000) (hn:NdAt w w.heap.size n a) (m1:k1≤maxLen) (s1:Sl w w.heap.size 1 isStr A1 q.left) (hm:MetIs w bm met) (hlen:met.length+q.left.length<1000000):
  Calls Tryz.prog 139 #[ndV n a,eqV q A1 k1 A2 k2,.map (some bm)] w (LeftRes n met q bm w):=by
 have rn1:=((Row.new w (ndArr n a) 58).alloc (.cells (eqArr q A1 k1 A2 k2) 65)).alloc (.cells ftC0 38)
 have rq1:=(rowNew2 w (.cells (ndArr n a) 58) (eqArr q A1 k1 A2 k2) 65).alloc (.cells ftC0 38)
 have rf1:=rowNew3 w (.cells (ndArr n a) 58) (.cells (eqArr q A1 k1 A2 k2) 65) ftC0 38
 have b1:Below w.heap.size w (((w.alloc (.cells (ndArr n a) 58)).alloc (.cells (eqArr q A1 k1 A2 k2) 65)).alloc (.cells ftC0 38)):=bE
 have HN:Hid (∀W,Keeps w.heap.size w W→NdAt W w.heap.size n a):=fun W hW=>hn.keep hW (Nat.le_refl _)
 have HS:Hid (∀W,Keeps w.heap.size w W→Sl W w.heap.size 1 isStr A1 q.left):=fun W hW=>strs_keep s1 hW (Nat.le_refl _)
 have HL:=Lib.hid hl
 have hm0:=hm
 have hbm:=hm.lt
 have mt1:=hm.below b1
 have m1':k1≤9223372036854775807:=by unfold maxLen at m1;omega
 have HF0:Hid (leftF n met q=ft2 (fstL (leftNF n met q) q.left) (countF q)):=rfl
 clear hn s1 hl hm
 go_enter Tryz.func139,Tryz.ntmps139
 go_upto_region 1 with (fail)
 generalize ((w.alloc (.cells (ndArr n a) 58)).alloc (.cells (eqArr q A1 k1 A2 k2) 65)).alloc (.cells ftC0 38)=W1 at*
 have hs1:=b1.size
 have hu1:UpdM bm w W1:=UpdM.of b1
 have hf1:bm≠w.heap.size+2:=by omega
 obtain ⟨d0,d1,d2,d3,d4,d5,d6,d7,d8⟩:=rq1.eqn
 go_wp2_with fail
 clear d0 d1 d2 d3 d4 d5 d6 d7 d8
 go_loopw[14] (fun i wr=>∃k:Nat,k≤q.left.length∧i= .int .i64 k∧Hid (∀j,j<k→∀x,q.left[j]? =some x→(leftNF n met q j x).err=0)∧MetIs wr bm (met++q.left.take k)∧UpdM bm W1 wr) (fun i _=>q.left.length-(intOf i).toNat)
 case atStart=>exact ⟨0,Nat.zero_le _,rfl,fun j h=>absurd h (by omega),by rw[List.take_zero,List.append_nil];exact mt1,Upd.refl _ _⟩
 case round=>
  obtain ⟨k,hk,rfl,HJ,mtr,hu⟩:=hrel
  have hszr:=hu.size
  have rn:=hu.row mt1 rn1
  have rq:=hu.row mt1 rq1
  have rf:=hu.row mt1 rf1
  have huw:UpdM bm w wr:=hu1.trans hu
  have hsB:=huw.size
  have HKW:Hid (Keeps w.heap.size w wr):=huw.keeps hm0
  obtain ⟨c0,c1,cc2,c3,c4,c5,c6⟩:=rn.nd
  obtain ⟨d0,d1,d2,d3,d4,d5,d6,d7,d8⟩:=rq.eqn
  by_cases hlt:k<q.left.length
  ·obtain ⟨b,off,nm,hA,hb,hx,ys,f0⟩:=(HS.out wr HKW.out).str hlt
   rw[hA] at d0
   rw[hA]
   have HA:=Lib.hid hA
   have HXK:=Lib.hid hx
   have HFn:Hid ((leftNF n met q k nm).err≠0→leftF n met q=leftNF n met q k nm):=fun g=>by
    have h:=fstL_stop (f:=leftNF n met q) HJ.out HXK.out g
    rw[HF0.out,h,ft2_1 (a:=leftNF n met q k nm) g]
   have HR:=Lib.hid (svar1_any n a nm wr ((HN.out wr HKW.out).more hsB) HL.out)
   have HTK:Hid (met++q.left.take (k+1)=met++(q.left.take k++ [nm])):=by
    show _=_
    rw[List.take_add_one,HXK.out];rfl
   have hml:(met++q.left.take k).length<1000000:=by rw[List.length_append,List.length_take];omega
   clear hA hx
   by_cases hin:nm∈nms (vrs n)
   rotate_left 1
   ·have HB:=Lib.hid (cB_false hin)
    have e:leftNF n met q k nm=⟨24,q.line,q.col⟩:=if_pos hin
    have HF:=Lib.hid ((HFn.out (by rw[e];show (24:Int)≠0;decide)).trans e)
    clear e hin
    refine' zq107
    have rf2:=rf.below hb2 rf.lt
    have rq2:=rq.below hb2 rq.lt
    have hu2:=huw.trans (UpdM.of hb2)
    clear c0 c1 cc2 c3 c4 c5 c6 d0 d1 d2 d3 d4 d5 d6 d7 d8
    obtain ⟨d0,d1,d2,d3,d4,d5,d6,d7,d8⟩:=rq2.eqn
    have hq1:=rf2.lt
    have hq2:w.heap.size+1<w2.heap.size:=by omega
    have hq3:w.heap.size+1+1<w2.heap.size:=by omega
    have hsw2:=hu2.size
    have HE:Hid ((leftF n met q).err≠0):=by show _≠_;rw[HF.out];show (24:Int)≠0;decide
    refine' zq54
    have q9:Below w2.heap.size w2 w9:=Below.trans bE (hb9.mono lE)
    have rf9:=rf2.below q9 rf2.lt
    have u9:=Upd.trans hu2 (UpdM.of q9)
    refine' zq51
   have HB:=Lib.hid (cB_true hin)
   have HIN:=Lib.hid hin
   clear hin
   refine' zq107
   have rf2:=rf.below hb2 rf.lt
   have rq2:=rq.below hb2 rq.lt
   have mt2:=mtr.below hb2
   have hu2:UpdM bm W1 w2:=hu.trans (UpdM.of hb2)
   clear c0 c1 cc2 c3 c4 c5 c6 d0 d1 d2 d3 d4 d5 d6 d7 d8 f0
   go_upto_region 7 with (fail)
   have ba:Below w2.heap.size w2 (w2.alloc (.cells (vrArr x A' cap') 103)):=bE
   generalize w2.alloc (.cells (vrArr x A' cap') 103)=w4 at*
   have rf4:=rf2.below ba rf2.lt
   have rq4:=rq2.below ba rq2.lt
   have mt4:=mt2.below ba
   have hu4:UpdM bm W1 w4:=hu2.trans (UpdM.of ba)
   have huw4:UpdM bm w w4:=hu1.trans hu4
   have hsw4:=huw4.size
   obtain ⟨d0,d1,d2,d3,d4,d5,d6,d7,d8⟩:=rq4.eqn
   by_cases hP:nm∈met++q.left.take k
   ·have hlk:=(mt4.look ys).1 hP
    have e:leftNF n met q k nm=⟨23,q.line,q.col⟩:=by unfold leftNF;rw[if_neg (fun g=>g HIN.out),if_pos hP]
    have HF:=Lib.hid ((HFn.out (by rw[e];show (23:Int)≠0;decide)).trans e)
    have HE:Hid ((leftF n met q).err≠0):=by show _≠_;rw[HF.out];show (23:Int)≠0;decide
    clear e hP
    refine' zq155
    have u9:=Upd.trans huw4 (UpdM.of q9)
    refine' zq51
   have hlk:=(mt4.look ys).2 hP
   have HJ':=Lib.hid (step_uptoI (P:=fun j x=>(leftNF n met q j x).err=0) HJ.out HXK.out (by unfold leftNF;rw[if_neg (fun g=>g HIN.out),if_neg hP]))
   clear hP
   go_wp2_with (at_mapUpdate;refine wpList_met rfl _ _ _ rfl bm _ rfl mt4 hml nm rfl ys rfl ?_)
   intro w5 mt5 hg5
   rw[←HTK.out] at mt5
   have hu5:UpdM bm W1 w5:=UpdM.grown hu4 hg5
   go_wp2_with fail
   go_roundw
   case rel=>exact ⟨k+1,by omega,by go_num,HJ',mt5,hu5⟩
   case measure=>first|(simp[intOf];omega)|simp[intOf]
  ·obtain rfl:k=q.left.length:=by omega
   have HF1:Hid (leftF n met q=countF q):=by
    show _=_
    rw[HF0.out,fstL_end HJ.out,ft2_0 (a:=ft0) rfl]
   have mt6:MetIs wr bm (met++q.left):=by
    have h:=mtr
    rwa [List.take_length] at h
   clear HJ HF0 mtr
   by_cases hc:1<q.left.length∧q.right.op≠4
   ·have e1:decide ((1:Int)<(q.left.length:Int))=true:=dec_yes (by omega)
    have e1':decide (1<q.left.length)=true:=dec_yes hc.1
    have e2:(q.right.op !=4)=true:=neq_yes hc.2
    have HF:Hid (leftF n met q=⟨25,q.line,q.col⟩):=by show _=_;rw[HF1.out];unfold countF;rw[if_pos hc]
    have HE:Hid ((leftF n met q).err≠0):=by show _≠_;rw[HF.out];show (25:Int)≠0;decide
    clear hc
    refine' zq54
    have q9:Below wr.heap.size wr w9:=Below.trans bE (hb9.mono lE)
    have rf9:=rf.below q9 rf.lt
    have u9:=Upd.trans huw (UpdM.of q9)
    refine' zq51
   have HF:Hid (leftF n met q=ft0):=by show _=_;rw[HF1.out];unfold countF;rw[if_neg hc]
   have e12:(decide ((1:Int)<(q.left.length:Int))=false∧decide (1<q.left.length)=false)∨(decide ((1:Int)<(q.left.length:Int))=true∧decide (1<q.left.length)=true∧(q.right.op !=4)=false):=by
    by_cases g:1<q.left.length
    ·exact .inr ⟨dec_yes (by omega),dec_yes g,neq_no (Classical.byContradiction fun g'=>hc ⟨g,g'⟩)⟩
    ·exact .inl ⟨dec_no (by omega),dec_no g⟩
   clear hc
   refine' zq129
   rcases e12 with ⟨e1,e1'⟩|⟨e1,e1',e2⟩
   all_goals
    go_wp2_with fail
    exact bodyPost_ret (res1 rfl Tryz.underlying38 rfl (by kernel_rfl) rfl (rf.set3 _ _ _)) rfl ⟨(congrArg (fun f=>Ending.returned (ftV f)) HF.out).symm,fun _=>mt6.set3 hf1 _ _ _,huw.set3 (by omega) _ _ _⟩
end Go.Proofs.YtdkgkacnjdnpoaaGreat
