/-
  The contract of flat.maker.body, of a node without calls and clocks.
-/
import Derived.Test.YtdkgkacnjdnpoaaGreatZz
import Derived.Test.YtdkgkacnjdnpoaaGreatFoD
set_option maxHeartbeats 4000000
set_option maxRecDepth 100000
namespace Go.Proofs.YtdkgkacnjdnpoaaGreat
open Go.RowKit
attribute [local go_sem ↓] Go.wp_at_zero Go.wp_at_succ
theorem body_any {P K N M base:Nat} {n:Nd} {a:NdA} {F:ByteArray→Int} {L:List ByteArray} {As vw vi vo:Value} {tys:List Int} (w:World) (hP:PlAt w P K N n a F L) (hM:McAt M As base w tys vw (.slice none 0 0) vi vo) (hNM:N≤M) (hPM:P≠M) (hKM:K≠M) (D:List (Int × Ex)) (hD:D.length=n.eqs.length)
  (hq:∀(i:Nat) q,n.eqs[i]? =some q→∃nm y,q.left=[nm]∧nm∈L∧q.right.op≠4∧Fw F L q.right y∧D[i]? =some (F nm,y)) (hF:∀x,Wf (F x)) (sm:NdSm n) (hc:NoClk n):
  Calls Tryz.prog 31 #[.pointer (some ⟨M,0,none⟩),.pointer (some ⟨P,0,none⟩)] w fun r w'=>r= .returned (.tuple #[])∧(∃vd T,McAt M As base w' tys vw vd vi vo∧FxI w' base 149 1 vd T∧T.map (fun t=>(t.pre,t.e))=D.map (fun d=>([.int .i64 d.1],d.2))∧∀g,vd.ownBlock=some g→w.heap.size≤g)∧Upd (fun j=>j=M) w w':=by
 have hPl:=hP.row.lt
 have hKl:=hP.map.lt
 have hMl:=hM.row.lt
 have hNP:=hP.hP
 have hNK:=hP.hK
 have HP:=Lib.hid hP
 have HM:=Lib.hid hM
 have HQ:=Lib.hid hq
 have HDL:=Lib.hid hD
 have HF:=Lib.hid hF
 have HSM:=Lib.hid sm
 have HC:=Lib.hid hc
 have hmq:=hP.nd.mq
 have hlq:=hP.nd.lq
 have hne:=sm.eqs
 have q4:w.cell? ⟨P,4,none⟩=some (.slice a.aq n.eqs.length a.cq):=(hP.row.cell 4).trans rfl
 refine' zq182
 clear hP hM hq hD hF sm hc
 go_enter Tryz.func31,Tryz.ntmps31
 go_wp2_with fail
 clear q4
 go_loopw[16] (fun i wr=>∃(k:Nat) (vd:Value) (T:List FT),k≤n.eqs.length∧i= .int .i64 k∧Hid (McAt M As base wr tys vw vd vi vo)∧Hid (FxI wr base 149 1 vd T)∧Hid (T.length=k∧T.map (fun t=>(t.pre,t.e))=(D.take k).map (fun d=>([.int .i64 d.1],d.2)))∧Hid (∀g,vd.ownBlock=some g→w.heap.size≤g)∧Hid (Upd (fun j=>j=M) w wr)) (fun i _=>n.eqs.length-(intOf i).toNat)
 case atStart=>exact ⟨0,_,[],Nat.zero_le _,rfl,HM,FxI.nil,⟨rfl,by simp⟩,fun g hg=>by simp[Value.ownBlock] at hg,Upd.refl _ _⟩
 case round=>
  have HVW:Hid (∀g,vw.ownBlock=some g→base≤g∧g<w.heap.size):=fun g hg=>HM.out.own.lt g hg
  have hMB:=HM.out.lt
  clear HM
  obtain ⟨k,vd,T,hk,rfl,HMk,HI,HTL,HG,HU⟩:=hrel
  have hsr:=HU.out.size
  by_cases hlt:k<n.eqs.length
  rotate_left 1
  ·obtain rfl:k=n.eqs.length:=by omega
   have HFIN:Hid (T.map (fun t=>(t.pre,t.e))=D.map (fun d=>([.int .i64 d.1],d.2))):=by
    have:=HTL.out.2
    rw[←HDL.out,List.take_length] at this
    exact this
   go_wp2_with fail
   refine bodyPost_end (results_none rfl _ _ _) rfl ⟨rfl,⟨vd,T,HMk.out,HI.out,HFIN.out,HG.out⟩,HU.out⟩
  have hNd:NdAt wr N n a:=HP.out.nd.keep (keeps_of (HU.out.below (B:=N) (fun j e=>by omega) (by omega))) (Nat.le_refl _)
  obtain ⟨b,off,q,A1,k1,A2,k2,hA,hb,hqk,okq,l1,m1,s1,l2,m2,s2,d0,d1,d2,d3,d4,d5,d6,d7,d8⟩:=hNd.sq.eqn hlt
  obtain ⟨nm,y,hleft,hnm,hop4,hfw,hDk⟩:=HQ.out k q hqk
  have hl1:0<q.left.length:=by rw[hleft];simp
  obtain ⟨bs,offs,x0,hA1,hbs,hx0,hsx,e0⟩:=s1.str (k:=0) (by omega)
  have hx0':x0=nm:=by
   rw[hleft] at hx0
   simpa using hx0.symm
  subst hx0'
  subst hA1
  clear hleft hx0
  have re:=Row.new wr (eqArr q (some ⟨bs,offs,none⟩) k1 A2 k2) 65
  have bq:Below wr.heap.size wr (wr.alloc (.cells (eqArr q (some ⟨bs,offs,none⟩) k1 A2 k2) 65)):=bE
  rw[hA]
  have HA:=Lib.hid hA
  clear hA
  have i0':(0:Int)≤(k:Int):=by omega
  have i1':(k:Int)<(n.eqs.length:Int):=by omega
  go_upto_region 3 with (fail)
  change Code.wp _ _ _ _ (wr.alloc (.cells (eqArr q (some ⟨bs,offs,none⟩) k1 A2 k2) 65))
  clear d0 d1 d2 d3 d4 d5 d6 d7 d8
  have hs5:=bq.size
  have hE:=re.lt
  have hPr:Row wr P (plA n a K) 88:=HU.out.row HP.out.row hPM
  generalize wr.alloc (.cells (eqArr q (some ⟨bs,offs,none⟩) k1 A2 k2) 65)=W5 at*
  have HP5:=Lib.hid (hPr.below bq hPr.lt)
  have e5:W5.cell? ⟨bs,offs,none⟩=some (.string x0):=keeps_of (bq.mono (show N≤wr.heap.size by omega)) _ _ hbs (by simpa using e0)
  have HI5:=Lib.hid (HI.out.below bq)
  have hbq:=Lib.hid bq
  have HSZ:Hid (x0.size≤maxLen):=hsx
  have HVD:Hid (∀g,vd.ownBlock=some g→g<wr.heap.size):=fun g hg=>(HI.out.own.lt g hg).2
  have HM5:=Lib.hid (HMk.out.below bq)
  have HN5:Hid (∀W,Below W5.heap.size W5 W→NdAt W W.heap.size n a):=fun W hW=>(hNd.keep (keeps_of ((bq.mono (by omega)).trans (hW.mono (by omega)))) (Nat.le_refl _)).more (by have:=hW.size;omega)
  have HX2:Hid (∀W,Below W5.heap.size W5 W→IsExs W N A2 q.right.args):=fun W hW=>exs_keep s2 (keeps_of ((bq.mono (by omega)).trans (hW.mono (by omega)))) (Nat.le_refl _)
  have HOK:=Lib.hid okq
  have HQK:=Lib.hid hqk
  have HFW:=Lib.hid hfw
  have HDK:=Lib.hid hDk
  have HNM:=Lib.hid hnm
  have hop:(q.right.op==4)=false:=by simp only[beq_eq_false_iff_ne];omega
  have HVC:Hid (∀W,Below W5.heap.size W5 W→Calls Tryz.prog 43 #[ndV n a,.string x0] W fun r w'=>(∃(x:Vr) (A':Option Addr) (cap':Nat) (bv:Bool),r= .returned (.tuple #[vrV x A' cap',.bool bv])∧Hid (x.clock=[]))∧Below W.heap.size W w'):=fun W hW=>by
   refine (svarC_any n a x0 W (HN5.out W hW) HSM.out).mono ?_
   rintro r w' ⟨⟨x,A',cap',bv,rfl,HCK,-⟩,hb⟩
   exact ⟨⟨x,A',cap',bv,rfl,HCK.out.trans (clock_nil HC.out x0)⟩,hb⟩
  have hl1':(0:Int)<(q.left.length:Int):=by omega
  have hk1:q.left.length≤k1:=l1
  have m1':k1≤9223372036854775807:=by unfold maxLen at m1;omega
  have hPl5:=HP5.out.lt
  clear e0 hsx s1 s2 okq hqk hfw hDk hnm hop4 HI HMk m1 hNd hPr
  have HK:Hid (∀W,Below W5.heap.size W5 W→(W.cell? ⟨P,0,none⟩=some (.string n.name)∧W.cell? ⟨P,1,none⟩=some (.slice a.ai n.ins.length a.ci)∧W.cell? ⟨P,2,none⟩=some (.slice a.ao n.outs.length a.co)∧W.cell? ⟨P,3,none⟩=some (.slice a.av n.vars.length a.cv)∧W.cell? ⟨P,4,none⟩=some (.slice a.aq n.eqs.length a.cq)∧W.cell? ⟨P,5,none⟩=some (.int .i64 n.line)∧W.cell? ⟨P,6,none⟩=some (.int .i64 n.col))∧W.cell? ⟨wr.heap.size,0,none⟩=some (.slice (some ⟨bs,offs,none⟩) q.left.length k1)∧W.cell? ⟨bs,offs,none⟩=some (.string x0)):=fun W hW=>by
   have p1:=HP5.out.below hW HP5.out.lt
   exact ⟨⟨(p1.cell 0).trans rfl,(p1.cell 1).trans rfl,(p1.cell 2).trans rfl,(p1.cell 3).trans rfl,(p1.cell 4).trans rfl,(p1.cell 5).trans rfl,(p1.cell 6).trans rfl⟩,((re.below hW re.lt).cell 0).trans rfl,keeps_of hW _ _ (show bs<W5.heap.size by omega) e5⟩
  go_cut[6] (fun v6 W=>∃(gv:Nat) (x:Vr) (A':Option Addr) (cap':Nat),v6= .pointer (some ⟨gv,0,none⟩)∧Row W gv (vrArr x A' cap') 103∧Hid (x.clock=[])∧W5.heap.size≤gv∧Below W5.heap.size W5 W)
  case first=>
   refine wp_region_held_drew (S:=fun W=>(W.cell? ⟨P,0,none⟩=some (.string n.name)∧W.cell? ⟨P,1,none⟩=some (.slice a.ai n.ins.length a.ci)∧W.cell? ⟨P,2,none⟩=some (.slice a.ao n.outs.length a.co)∧W.cell? ⟨P,3,none⟩=some (.slice a.av n.vars.length a.cv)∧W.cell? ⟨P,4,none⟩=some (.slice a.aq n.eqs.length a.cq)∧W.cell? ⟨P,5,none⟩=some (.int .i64 n.line)∧W.cell? ⟨P,6,none⟩=some (.int .i64 n.col))∧W.cell? ⟨wr.heap.size,0,none⟩=some (.slice (some ⟨bs,offs,none⟩) q.left.length k1)∧W.cell? ⟨bs,offs,none⟩=some (.string x0)) (by kernel_rfl) ?_ (fun hHeld=>?_)
   ·refine' zq68
   refine tk 0 (some 21) rfl ?_
   refine tk 1 (some 22) rfl ?_
   refine tk 2 (some 23) rfl ?_
   refine tk 3 (some 24) rfl ?_
   refine tk 4 (some 25) rfl ?_
   refine tk 5 (some 26) rfl ?_
   refine tk 6 (some 27) rfl ?_
   refine tk 7 (some 28) rfl ?_
   refine wpAnyH_ready (rs:=[8,12]) (by kernel_rfl) (by simp) ?_
   refine AllReadyH.cons (o:={dst:=some 29,op:=_,type:=_,pos:=_,after:=_,guard:=_}) rfl (fun KK hKK=>?_) (AllReadyH.cons (o:={dst:=some 6,op:=_,type:=_,pos:=_,after:=_,guard:=_}) rfl (fun KK hKK=>?_) AllReadyH.nil)
   ·refine' zq35
    refine rd1 12 (some 6) rfl (fun KK hKK=>?_)
    go_simp
    refine' zq40
    refine' zq101
   ·go_simp
    refine' zq40
    refine rd1 8 (some 29) rfl (fun KK hKK=>?_)
    refine' zq35
    refine' zq101
  case rest=>
   obtain ⟨gv,x,A',cap',rfl,rvv,HXT,hgv,hbc⟩:=hcut
   have hsc:=hbc.size
   have hvdb:Hid (∀g,vd.ownBlock=some g→w.heap.size≤g∧g<wr.heap.size):=fun g hg=>⟨HG.out g hg,HVD.out g hg⟩
   have hvd:=hvdb.out
   have hx0s:x0.size≤maxLen:=HSZ.out
   have HPc:=Lib.hid (HP5.out.below hbc (by omega))
   have HKw:Hid (MapI F wc K L):=HP.out.map.upd (HU.out.trans (Upd.of_below ((hbq.out).trans (hbc.mono hs5)))) hKM
   have HS:Hid (∀W,Upd (fun j=>j=M∨vd.ownBlock=some j) wc W→W.cell? ⟨P,7,none⟩=some (.map (some K))∧W.cell? ⟨wr.heap.size,0,none⟩=some (.slice (some ⟨bs,offs,none⟩) q.left.length k1)∧W.cell? ⟨bs,offs,none⟩=some (.string x0)∧W.cell? ⟨wr.heap.size,1,none⟩=some (.int .i64 q.right.op)∧W.cell? ⟨wr.heap.size,2,none⟩=some (.string q.right.name)∧W.cell? ⟨wr.heap.size,3,none⟩=some (.int .i64 q.right.n)∧W.cell? ⟨wr.heap.size,4,none⟩=some (.slice A2 q.right.args.length k2)∧W.cell? ⟨wr.heap.size,5,none⟩=some (.int .i64 q.right.line)∧W.cell? ⟨wr.heap.size,6,none⟩=some (.int .i64 q.right.col)∧W.cell? ⟨gv,2,none⟩=some (.slice A' x.clock.length cap')∧(Instr.lookup 85 (.map (some K)) (.string x0) false).run Tryz.prog W= .ok (.int .i64 (F x0)) W):=fun W hW=>by
    have nn:∀b0,b0≠M→(b0<w.heap.size∨wr.heap.size≤b0)→¬(b0=M∨vd.ownBlock=some b0):=fun b0 h1 h2 e=>by
     rcases e with e|e
     ·exact h1 e
     ·have:=hvd b0 e;omega
    have p1:=hW.row HPc.out (nn _ hPM (Or.inl hPl))
    have p2:=hW.row (re.below hbc re.lt) (nn _ (by omega) (Or.inr (Nat.le_refl _)))
    have p3:=hW.row rvv (nn _ (by omega) (Or.inr (by omega)))
    have p4:W.cell? ⟨bs,offs,none⟩=some (.string x0):=(keeps_of (Upd.below hW (B:=N) (fun j e=>by
     rcases e with e|e
     ·omega
     ·have:=hvd j e;omega) (by omega))) _ _ hbs (keeps_of hbc _ _ (show bs<W5.heap.size by omega) e5)
    have p5:=(HKw.out.upd hW (nn _ hKM (Or.inl hKl))).look hx0s HNM.out
    obtain ⟨y0,y1,y2,y3,y4,y5,y6,-,-⟩:=p2.eqn
    exact ⟨(p1.cell 7).trans rfl,y0,p4,y1,y2,y3,y4,y5,y6,p3.vr.2.2.1,p5⟩
   have q4:=(HS.out wc (Upd.refl _ _)).2.2.2.1
   go_upto_region 10 with (fail)
   have hbw:Below w.heap.size wr wc:=(hbq.out.mono hsr).trans (hbc.mono (by omega))
   have HPL:Hid (∀W,Below wc.heap.size wc W→PlAt W P K N n a F L):=fun W hW=>
    ⟨HPc.out.below hW HPc.out.lt,HP.out.nd.keep (keeps_of ((HU.out.below (B:=N) (fun j e=>by omega) (by omega)).trans ((hbw.mono (by omega)).trans (hW.mono (by omega))))) (Nat.le_refl _),HKw.out.below hW HKw.out.lt,hNP,hNK,HP.out.ne⟩
   have HEX:Hid (∀W,Below wc.heap.size wc W→Calls Tryz.prog 64 #[.pointer (some ⟨M,0,none⟩),.pointer (some ⟨P,0,none⟩),exV q.right A2 k2,.slice A' x.clock.length cap'] W fun r w'=>(∃Ay cy,r= .returned (exV y Ay cy)∧ExH w' W.heap.size w'.heap.size y Ay cy)∧Below W.heap.size W w'):=fun W hW=>
    fexpr_any HFW.out P K N n a _ _ A2 k2 W (HPL.out W hW) HF.out HOK.out.right l2 m2 (exs_keep (HX2.out W (hbc.trans (hW.mono (by omega)))) (fun _ _ _ h=>h) (by have:=hW.size;omega))
   have HMc:=Lib.hid (HM5.out.below hbc)
   have HIc:=Lib.hid (HI5.out.below hbc)
   have HUF:Hid (∀W,Upd (fun j=>j=M∨vd.ownBlock=some j) wc W→Upd (fun j=>j=M) w W):=fun W hW=>Upd.narrow ((HU.out.mono (Y:=fun j=>j=M∨vd.ownBlock=some j) (fun j e=>Or.inl e)).trans ((Upd.of_below ((hbq.out).trans (hbc.mono hs5))).trans hW)) (fun j hj e=>e.elim id (fun e=>by have:=hvd j e;omega))
   have hne9:Hid (∀g,vw.ownBlock=some g→vd.ownBlock≠some g):=fun g hg e=>by
    have:=HVW.out g hg
    have:=hvd g e
    omega
   have hT9:T.length<1000:=by have:=HTL.out.1;omega
   have hbs9:base≤wc.heap.size:=HMc.out.hb
   refine wp_region_held_drew (S:=fun W=>W.cell? ⟨P,7,none⟩=some (.map (some K))∧W.cell? ⟨wr.heap.size,0,none⟩=some (.slice (some ⟨bs,offs,none⟩) q.left.length k1)∧W.cell? ⟨bs,offs,none⟩=some (.string x0)∧W.cell? ⟨wr.heap.size,1,none⟩=some (.int .i64 q.right.op)∧W.cell? ⟨wr.heap.size,2,none⟩=some (.string q.right.name)∧W.cell? ⟨wr.heap.size,3,none⟩=some (.int .i64 q.right.n)∧W.cell? ⟨wr.heap.size,4,none⟩=some (.slice A2 q.right.args.length k2)∧W.cell? ⟨wr.heap.size,5,none⟩=some (.int .i64 q.right.line)∧W.cell? ⟨wr.heap.size,6,none⟩=some (.int .i64 q.right.col)∧W.cell? ⟨gv,2,none⟩=some (.slice A' x.clock.length cap')∧(Instr.lookup 85 (.map (some K)) (.string x0) false).run Tryz.prog W= .ok (.int .i64 (F x0)) W) (by kernel_rfl) ?_ (fun hHeld=>?_)
   ·refine' zq57
   refine tk 0 (some 64) rfl ?_
   refine tk 1 (some 65) rfl ?_
   refine tk 2 (some 66) rfl ?_
   refine tk 3 (some 67) rfl ?_
   refine tk 4 (some 68) rfl ?_
   refine tk 5 (some 69) rfl ?_
   refine tk 6 (some 70) rfl ?_
   refine tk 7 (some 71) rfl ?_
   refine tk 8 (some 72) rfl ?_
   refine tk 10 (some 74) rfl ?_
   refine tk 11 (some 75) rfl ?_
   refine tk 12 (some 76) rfl ?_
   refine tk 13 (some 77) rfl ?_
   refine tk 14 (some 78) rfl ?_
   refine tk 15 (some 79) rfl ?_
   refine wpAnyH_ready (rs:=[9,16]) (by kernel_rfl) (by simp) ?_
   refine AllReadyH.cons (o:={dst:=some 73,op:=_,type:=_,pos:=_,after:=_,guard:=_}) rfl (fun KK hKK=>?_) (AllReadyH.cons (o:={dst:=some 80,op:=_,type:=_,pos:=_,after:=_,guard:=_}) rfl (fun KK hKK=>?_) AllReadyH.nil)
   ·refine' zq172
    refine' zq48
    refine rd1 16 (some 80) rfl (fun KK hKK=>?_)
    refine' zq91
    refine' zq7
   ·refine' zq91
    refine' zq48
    refine rd1 9 (some 73) rfl (fun KK hKK=>?_)
    refine' zq172
    refine' zq7
end Go.Proofs.YtdkgkacnjdnpoaaGreat
