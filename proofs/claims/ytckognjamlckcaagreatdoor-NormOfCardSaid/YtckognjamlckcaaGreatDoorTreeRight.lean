/-
  flat.wants. Flats, as plain data: all wires in a row. The iterator over an expression and all within it: the contracts of tree.walk, All. The iterator over an expression, once more: rows of cells may turn by their types. What is plain of an expression, by the document: the contract of tompionref12.plain. Which expressions are right, by the document: the contract of tompionref12.Right. Which expressions are right: the contract of tree.Right.
-/
import Derived.Test.YtckognjamlckcaaGreatDoorFltH
import Derived.Test.YtckognjamlckcaaGreatDoorNormM
import Derived.Deep.CutBlock
import Derived.RangeFuncNested
import Derived.RangeFuncBound
import Derived.RangeFuncCalls
import Derived.RangeFuncLeaves
import Derived.Shelf.Abstract
import Derived.Shelf.RegionOpen
import Derived.OwnWalkIn
import Derived.TacticsInMore
import Derived.LoopNIn
import Derived.LoopIn
import Derived.Test.YtckognjamlckcaaGreatDoorFltA
import Derived.Test.YtckognjamlckcaaGreatDoorLookA
set_option maxHeartbeats 8000000
set_option maxRecDepth 100000
namespace Go.Proofs.YtckognjamlckcaaGreatDoor.Fo
open Vf
def Mt (ms0:List Bool) (S:List Int) (ms:List Bool):Prop:=ms.length=ms0.length∧∀c:Nat,bGet ms c=true↔bGet ms0 c=true∨(c:Int)∈S
theorem mt_refl (ms:List Bool):Mt ms [] ms:=⟨rfl,fun c=>by simp⟩
theorem mt_trans {m0 m1 m2:List Bool} {S T:List Int} (h:Mt m0 S m1) (k:Mt m1 T m2):Mt m0 (S++T) m2:=⟨k.1.trans h.1,fun c=>by rw[k.2,h.2,List.mem_append,or_assoc]⟩
theorem mt_one {ms:List Bool} {n:Int} (h0:0≤n) (h1:n<ms.length):Mt ms [n] (ms.set n.toNat true):=⟨by simp,fun c=>by
 have:=bGet_set (ds:=ms) (n:=n) (c:=c) h0 h1
 unfold bGet
 rw[Int.toNat_natCast,this,List.mem_singleton]
 by_cases g:n=c
 ·rw[if_pos g];simp[g]
 ·rw[if_neg g]
  exact ⟨fun q=> .inl q,fun q=>q.elim id (fun q=>absurd q.symm g)⟩⟩
noncomputable def wantTo (e:Ex) (k:Nat):List Int:=(if namedB e.op=true then [e.n] else [])++(if e.op=21 then [] else if e.op=22 then ((e.args.take k).map wantE).headD [] else ((e.args.take k).map wantE).flatten)
section
variable {e x:Ex} {k:Nat}
theorem want_zero:wantTo e 0=if namedB e.op=true then [e.n] else []:=by
 unfold wantTo
 rw[List.take_zero]
 simp
theorem want_fin:wantTo e e.args.length=wantE e:=by
 rw[wantE_eq]
 unfold wantTo want1
 rw[List.take_length]
theorem want_yes (h:e.args[k]? =some x) (h1:e.op≠21) (h2:e.op≠22∨k=0):wantTo e (k+1)=wantTo e k++wantE x:=by
 unfold wantTo
 rw[if_neg h1,if_neg h1,take_succ_map wantE h,List.append_assoc]
 congr 1
 split
 ·obtain rfl:k=0:=h2.elim (fun g=>absurd ‹e.op=22› g) id
  simp
 ·simp
theorem want_no (h:e.args[k]? =some x) (h1:e.op=21∨(e.op=22∧k≠0)):wantTo e (k+1)=wantTo e k:=by
 unfold wantTo
 rcases h1 with g|⟨g,g0⟩
 ·rw[if_pos g,if_pos g]
 ·have h21:¬e.op=21:=by omega
  rw[if_neg h21,if_neg h21,if_pos g,if_pos g,take_succ_map wantE h]
  congr 1
  have hl:0<e.args.length:=by have:=(List.getElem?_eq_some_iff.1 h).1;omega
  cases ha:e.args with
  |nil=>rw[ha] at hl;simp at hl
  |cons y l=>
   obtain ⟨j,rfl⟩:∃j,k=j+1:=⟨k-1,by omega⟩
   simp
end
end Go.Proofs.YtckognjamlckcaaGreatDoor.Fo
namespace Go.Proofs.YtckognjamlckcaaGreatDoor
open Go.RowKit Vf Fo
attribute [local go_sem ↓] Go.wp_at_zero Go.wp_at_succ
def WantP (M:Nat) (ms:List Bool) (S:List Int) (w:World) (r:Ending) (w':World):Prop:=r= .returned (.tuple #[])∧∃ms',Row w' M (bls ms').toArray 4∧Mt ms S ms'∧Upd (fun k=>k=M) w w'
theorem fwants_any {f:Fl} {B M:Nat} (hBM:B≤M) (e:Ex):∀(A:Option Addr) (cap:Nat) (ms:List Bool) (w:World),B≤w.heap.size→ExOk e→e.args.length≤cap→cap≤maxLen→IsExs w B A e.args→plainE f e→ms.length=f.wires.length→f.wires.length≤1600→Row w M (bls ms).toArray 4→
  Calls Tryz.prog 103 #[exV e A cap,.slice (some ⟨M,0,none⟩) f.wires.length f.wires.length] w (WantP M ms (wantE e) w):=by
 induction e using Ex.ind with
 |h e ih=>
  intro A cap ms w hBw hok hcap hmax hx hp hml hwl hr
  obtain ⟨hp1,hp2⟩:=plainE_iff.1 hp
  have hMl:=hr.lt
  have HI:Hid (∀x∈e.args,∀(A:Option Addr) (cap:Nat) (ms:List Bool) (W:World),B≤W.heap.size→ExOk x→x.args.length≤cap→cap≤maxLen→IsExs W B A x.args→ms.length=f.wires.length→Row W M (bls ms).toArray 4→Calls Tryz.prog 103 #[exV x A cap,.slice (some ⟨M,0,none⟩) f.wires.length f.wires.length] W (WantP M ms (wantE x) W)):=fun x hx A cap ms W h1 h2 h3 h4 h5 h6 h7=>ih x hx A cap ms W h1 h2 h3 h4 h5 (hp2 x hx) h6 hwl h7
  have HW:Hid (namedB e.op=true→isW f.fm e.n):=fun hn=>plain1_w hp1 hn
  have b1:Below w.heap.size w (w.alloc (.cells (exRw e A cap) 75)):=bE
  have rX:=Row.new w (exRw e A cap) 75
  have rM:=hr.below b1 hMl
  have HXS:=Lib.hid (fun W (hW:Below B w W)=>hx.below hW)
  have HNM:=Lib.hid (fnamed_any e.op)
  have HML:=Lib.hid hml
  have hcm:e.args.length≤9223372036854775807:=by unfold maxLen at hmax;omega
  unfold maxLen at hmax
  have hMw:M≠w.heap.size:=by omega
  clear ih hx hok hp hp1 hp2 hr hml
  go_enter Tryz.func103,Tryz.ntmps103
  go_upto_region 1 with (fail)
  generalize w.alloc (.cells (exRw e A cap) 75)=w1 at*
  have hXl:=rX.lt
  have hs1:=b1.size
  have HRE:Hid (∀W,Upd (fun k=>k=M) w1 W→W.cell? ⟨w.heap.size,0,none⟩=some (.int .i64 e.op)∧W.cell? ⟨w.heap.size,1,none⟩=some (.string e.name)∧W.cell? ⟨w.heap.size,2,none⟩=some (.int .i64 e.n)∧W.cell? ⟨w.heap.size,3,none⟩=some (.slice A e.args.length cap)∧W.cell? ⟨w.heap.size,4,none⟩=some (.int .i64 e.line)∧W.cell? ⟨w.heap.size,5,none⟩=some (.int .i64 e.col)):=fun W hW=>(hW.row rX (fun g=>hMw g.symm)).six'
  obtain ⟨c0,c1,c2,c3,c4,c5⟩:=rX.six'
  have HZ:=Lib.hid (want_zero (e:=e))
  obtain ⟨NB,hnb⟩:∃NB,namedB e.op=NB:=⟨_,rfl⟩
  rw[hnb] at HNM HW HZ
  have HNB:=Lib.hid hnb
  clear hnb rX
  go_wp2_with fail
  (with_reducible refine (HNM.out _).mono ?_)
  rintro r _ ⟨rfl,rfl⟩
  go_upto_if 8 with (fail)
  go_cut[] (fun W=>∃ms1,Row W M (bls ms1).toArray 4∧Mt ms (wantTo e 0) ms1∧Upd (fun k=>k=M) w1 W)
  case first=>
   cases NB
   ·rw[if_neg (by decide)] at HZ
    go_wp2_with fail
    go_meet
    exact ⟨ms,rM,by rw[HZ.out];exact mt_refl ms,Upd.refl _ _⟩
   ·rw[if_pos rfl] at HZ
    have hw:=HW.out rfl
    obtain ⟨m,hm0⟩:=Int.eq_ofNat_of_zero_le hw.1
    have hm:m<f.wires.length:=by have h9:e.n<f.wires.length:=hw.2;omega
    have hm':(m:Int)<f.wires.length:=by omega
    have HMT:Hid (Mt ms (wantTo e 0) (ms.set m true)):=by
     have:=mt_one (ms:=ms) (n:=e.n) hw.1 (by rw[HML.out];exact hw.2)
     show Mt _ _ _
     rw[HZ.out]
     rwa [hm0,Int.toNat_natCast,←hm0] at this
    have qM:w1.cell? ⟨M,m,none⟩=some (.bool (bGet ms m)):=ds_cell rM (by rw[HML.out];exact hm)
    have fM:=rM.frozen m
    have rM6:=Lib.hid (ds_set (m:=m) rM true)
    have uM6:=Lib.hid (Upd.setCell (X:=fun k=>k=M) (p:=⟨M,m,none⟩) (Upd.refl _ w1) rfl (.bool true))
    rw[hm0] at c2
    clear hm0 hw rM
    go_wp2_with fail
    go_meet
    exact ⟨_,rM6.out,HMT.out,uM6.out⟩
  case rest=>
   obtain ⟨ms1,rM1,hMT1,u1⟩:=hcut
   have HR1:=Lib.hid rM1
   have HM1:=Lib.hid hMT1
   have HU1:=Lib.hid u1
   clear c0 c1 c2 c3 c4 c5 rM rM1 hMT1
   obtain ⟨c0,c1,c2,c3,c4,c5⟩:=HRE.out _ u1
   go_wp2_with fail
   clear c0 c1 c2 c3 c4 c5 u1
   go_loopw[16] (fun i wr=>∃(k:Nat) (ms2:List Bool),k≤e.args.length∧i= .int .i64 k∧Hid (Row wr M (bls ms2).toArray 4)∧Hid (Mt ms (wantTo e k) ms2)∧Hid (Upd (fun k=>k=M) w1 wr)) (fun i _=>e.args.length-(intOf i).toNat)
   case atStart=>exact ⟨0,ms1,Nat.zero_le _,rfl,HR1,HM1,HU1⟩
   case round=>
    clear HR1 HM1 HU1
    obtain ⟨k,ms2,hk,rfl,HR,HMT,HU⟩:=hrel
    have hu:=HU.out
    have hus:=hu.size
    by_cases hlt:k<e.args.length
    rotate_left 1
    ·obtain rfl:k=e.args.length:=by omega
     have HF:Hid (Mt ms (wantE e) ms2):=by have:=HMT.out;rwa [want_fin] at this
     go_wp2_with fail
     (try simp only[Exit.inBlock,Exit.then])
     refine bodyPost_ret (results_none rfl _ _ _) rfl ?_
     exact ⟨rfl,ms2,HR.out,HF.out,(Upd.of_below b1).trans hu⟩
    have hbB:Below B w wr:=(b1.mono hBw).trans (hu.below (fun k hk=>by omega) (by omega))
    obtain ⟨b,off,x,A',cap',rfl,hbb,hxk,hxm,hok',hcap',hmax',hx',d0,d1,d2,d3,d4,d5⟩:=(HXS.out _ hbB).at_ hlt
    have hk':(k:Int)<e.args.length:=by omega
    have bx:Below wr.heap.size wr (wr.alloc (.cells (exRw x A' cap') 75)):=bE
    have hBx:B≤wr.heap.size:=by omega
    have HC:=Lib.hid (HI.out x hxm A' cap' ms2 (wr.alloc (.cells (exRw x A' cap') 75)) (by have:=bx.size;omega) hok' hcap' hmax' (hx'.below (bx.mono hBx)) (by rw[HMT.out.1];exact HML.out) (HR.out.below bx HR.out.lt))
    have HY:=Lib.hid (fun h1 h2=>want_yes hxk h1 h2)
    have HN:=Lib.hid (fun h1=>want_no hxk h1)
    have HUX:=Lib.hid (hu.trans (Upd.of_below bx))
    have HRX:=Lib.hid (HR.out.below bx HR.out.lt)
    obtain ⟨c0,c1,c2,c3,c4,c5⟩:=HRE.out _ HUX.out
    clear hxk hxm hok' hcap' hmax' hx' hbB
    have rx:=Row.new wr (exRw x A' cap') 75
    go_upto_region 6 with (fail)
    generalize wr.alloc (.cells (exRw x A' cap') 75)=w4 at*
    obtain ⟨x0,x1,x2,x3,x4,x5⟩:=rx.six'
    clear rx
    by_cases hq:e.op=21∨(e.op=22∧k≠0)
    ·have HT:=Lib.hid (HN.out hq)
     have HMT':Hid (Mt ms (wantTo e (k+1)) ms2):=by have:=HMT.out;rwa [←HT.out] at this
     have hqs:(e.op !=21)=false∨((e.op !=21)=true∧(e.op !=22)=false∧((k:Int)==0)=false):=by
      rcases hq with g|⟨g,g0⟩
      ·exact .inl (by rw[g];rfl)
      ·exact .inr ⟨by rw[g];rfl,by rw[g];rfl,by rw[beq_eq_false_iff_ne];omega⟩
     clear hq
     rcases hqs with g|⟨g,g1,g2⟩
     all_goals
      go_wp2_with fail
      go_roundw
      case rel=>exact ⟨k+1,ms2,by omega,by go_num,HRX,HMT',HUX⟩
      case measure=>simp[intOf];omega
    have HT:=Lib.hid (HY.out (by omega) (by omega))
    have hqs:(e.op !=21)=true∧((e.op !=22)=true∨((e.op !=22)=false∧((k:Int)==0)=true)):=by
     refine ⟨by rw[bne_iff_ne];omega,?_⟩
     by_cases g:e.op=22
     ·exact .inr ⟨by rw[g];rfl,by rw[beq_iff_eq];omega⟩
     ·exact .inl (by rw[bne_iff_ne];exact g)
    clear hq
    obtain ⟨g,g1|⟨g1,g2⟩⟩:=hqs
    all_goals
     go_wp2_with fail
     (with_reducible refine HC.out.mono ?_)
     rintro r w6 ⟨rfl,ms3,hR3,hT3,hU3⟩
     have HMT':Hid (Mt ms (wantTo e (k+1)) ms3):=by
      show Mt _ _ _
      rw[HT.out]
      exact mt_trans HMT.out hT3
     have HU':=Lib.hid (HUX.out.trans hU3)
     have HR':=Lib.hid hR3
     clear hR3 hT3 hU3 x0 x1 x2 x3 x4 x5 c0 c1 c2 c3 c4 c5 d0 d1 d2 d3 d4 d5
     go_wp2_with fail
     go_roundw
     case rel=>exact ⟨k+1,ms3,by omega,by go_num,HR',HMT',HU'⟩
     case measure=>simp[intOf];omega
end Go.Proofs.YtckognjamlckcaaGreatDoor
namespace Go.Proofs.YtckognjamlckcaaGreatDoor.Fo
open Vf
def Hang (f:Fl) (i c:Int):Prop:=∃d∈f.defs,d.1=i∧(c∈wantE d.2∨∃g∈clockOf f.fm i,g.wire=c)
structure RowS (f:Fl) (ds:List Bool):Prop where
 len:ds.length=f.wires.length
 done:∀m:Nat,bGet ds m=true→DoneL f m
def readyS (f:Fl) (ds:List Bool) (i:Int):Prop:=bGet ds i=false∧∀c:Nat,Hang f i c→bGet ds c=true
section
variable {f:Fl} {ds:List Bool}
theorem rows_start (f:Fl):RowS f (List.replicate f.wires.length false):=⟨by simp,fun m hm=>by
 simp only[bGet,List.getD_eq_getElem?_getD,List.getElem?_replicate] at hm
 split at hm<;>simp at hm⟩
def Cov (f:Fl):Prop:=∀i:Nat,i<f.wires.length→(i:Int)∈f.ins∨∃d∈f.defs,d.1=i
def WantW (f:Fl):Prop:=∀d∈f.defs,(∀n∈wantE d.2,isW f.fm n)∧∀g∈clockOf f.fm d.1,isW f.fm g.wire
theorem rows_step (hc:Cov f) (hw:WantW f) (h:RowS f ds) {i:Nat} (hi:i<f.wires.length) (hr:readyS f ds i):RowS f (ds.set i true):=by
 refine ⟨by simp[h.len],fun m hm=>?_⟩
 have:=bGet_set (ds:=ds) (n:=(i:Int)) (c:=m) (by omega) (by rw[h.len];omega)
 unfold bGet at hm
 rw[Int.toNat_natCast] at this hm
 rw[this] at hm
 by_cases e:(i:Int)=m
 ·rw[←e]
  rcases hc i hi with g|⟨d,hd,g⟩
  ·exact DoneL.ins _ g
  ·rw[←g]
   have key:∀n:Int,0≤n→Hang f i n→DoneL f n:=fun n h0 hn=>by
    obtain ⟨c,rfl⟩:=Int.eq_ofNat_of_zero_le h0
    exact h.done c (hr.2 c hn)
   exact DoneL.def_ d hd (fun n hn=>key n ((hw d hd).1 n hn).1 ⟨d,hd,g,.inl hn⟩) (fun q hq=>key q.wire ((hw d hd).2 q hq).1 ⟨d,hd,g,.inr ⟨q,by rw[←g];exact hq,rfl⟩⟩)
 ·rw[if_neg e] at hm
  exact h.done m hm
theorem rows_closed (hi:∀n∈f.ins,isW f.fm n) (hd:∀d∈f.defs,isW f.fm d.1) (hni:∀n∈f.ins,∀d∈f.defs,d.1≠n) (hu:∀d∈f.defs,∀d'∈f.defs,d.1=d'.1→d=d') (hn:∀i:Nat,i<f.wires.length→¬readyS f ds i) {n:Int} (h:DoneL f n):bGet ds n=true:=by
 induction h with
 |ins n h=>
  obtain ⟨m,rfl⟩:=Int.eq_ofNat_of_zero_le (hi n h).1
  cases hb:bGet ds m with
  |true=>rfl
  |false=>
   refine absurd ⟨hb,fun c hc=>?_⟩ (hn m (by have h9:(m:Int)<f.wires.length:=(hi _ h).2;omega))
   obtain ⟨d,hdd,g,_⟩:=hc
   exact absurd g (hni _ h d hdd)
 |def_ d hdd _ _ ih1 ih2=>
  obtain ⟨m,hm⟩:=Int.eq_ofNat_of_zero_le (hd d hdd).1
  rw[hm] at ih2⊢
  cases hb:bGet ds m with
  |true=>rfl
  |false=>
   refine absurd ⟨hb,fun c hc=>?_⟩ (hn m (by have h9:d.1<f.wires.length:=(hd d hdd).2;omega))
   obtain ⟨d',hd',g,q⟩:=hc
   have e:=hu d hdd d' hd' (hm.trans g.symm)
   subst e
   rcases q with q|⟨g',q,q2⟩
   ·exact ih1 _ q
   ·rw[←q2];exact ih2 g' q
theorem rows_end (hi:∀n∈f.ins,isW f.fm n) (hd:∀d∈f.defs,isW f.fm d.1) (hni:∀n∈f.ins,∀d∈f.defs,d.1≠n) (hu:∀d∈f.defs,∀d'∈f.defs,d.1=d'.1→d=d') (h:RowS f ds) (hn:∀i:Nat,i<f.wires.length→¬readyS f ds i):(∀n:Nat,n<f.wires.length→DoneL f n)↔∀b∈ds,b=true:=by
 constructor
 ·intro hr b hb
  obtain ⟨i,hi',e⟩:=List.getElem_of_mem hb
  have:=rows_closed hi hd hni hu hn (hr i (by rw[←h.len];exact hi'))
  simp only[bGet,List.getD_eq_getElem?_getD,Int.toNat_natCast,List.getElem?_eq_getElem hi',Option.getD_some] at this
  rw[←e];exact this
 ·intro ha n hn'
  refine h.done n ?_
  have hl:n<ds.length:=by rw[h.len];exact hn'
  simp only[bGet,List.getD_eq_getElem?_getD,Int.toNat_natCast]
  rw[List.getElem?_eq_getElem hl]
  exact ha _ (List.getElem_mem hl)
end
end Go.Proofs.YtckognjamlckcaaGreatDoor.Fo
namespace Go.Proofs.YtckognjamlckcaaGreatDoor
open Go.RowKit Go.Shelf
attribute [local go_sem] Oper.semAt_some
theorem room_of_none {F:Fence} (hd:F.depth=none) (k:Nat):F.room k:=fun d h=>by rw[hd] at h;cases h
theorem roundIn_any {F:Fence} (hd:F.depth=none) {m m':Nat} {P:Program} {l:Nat} {f:FuncId} {tmps:Array Value} {assign body:Code} {w:World} {R:Ending→World→Prop}
  (h:RoundIn F m P l f tmps assign body w R):RoundIn F m' P l f tmps assign body w R:=⟨h.1,fun c cs _=>h.2 c cs (room_of_none hd _)⟩
theorem yieldAt_any {F:Fence} (hd:F.depth=none) {m:Nat} (m':Nat) {P:Program} {l:Nat} {args:Array Value} {W:World} {R:Ending→World→Prop} (h:YieldAt F m P l args W R):YieldAt F m' P l args W R:=by
 obtain ⟨fn,tmps,assign,body,hy,hR⟩:=h
 exact ⟨fn,tmps,assign,body,hy,roundIn_any hd hR⟩
structure ExN where
 ex:Ex
 A:Option Addr
 cap:Nat
 ok:ExOk ex
 len:ex.args.length≤cap
 max:cap≤maxLen
abbrev ExN.v (x:ExN):Value:=exV x.ex x.A x.cap
theorem abide_alloc {β:Type} {B:Nat} {J:β→World→Prop} (h:AbidesFrom B J) {s:β} {W:World} (hs:J s W) (o:Obj):J s (W.alloc o):=
 h s W _ none hs (World.grownBy_alloc W o none) (fun _ e=>by cases e)
theorem lTo_pre (e:Ex) (k:Nat):lTo e k<+:exList e:=by
 rw[exList_eq];unfold lTo
 refine ⟨((e.args.drop k).map exList).flatten,?_⟩
 rw[List.cons_append,←List.flatten_append,←List.map_append,List.take_append_drop]
theorem wlkIn (F:Fence) (hd:F.depth=none) (hf:F.fn 114) (hro:F.round=none) (l N n₀ B0:Nat) (X:Nat→Prop) (hX:∀b,X b→n₀≤b∧b<B0) (J Jx:List ExN→World→Prop) (hJ:AbidesFrom B0 J)
  (hY:∀m pre x W,J pre W→pre.length<N→YieldAt F m Tryz.prog l #[x.v] W fun e W'=>(e= .returned (.bool true)∧J (pre++ [x]) W'∧KeepC X W W')∨(e= .returned (.bool false)∧Jx (pre++ [x]) W')) (e:Ex):
  ∀(n:Nat) (A:Option Addr) (cap:Nat) (pre:List ExN) (W:World),ExOk e→e.args.length≤cap→cap≤maxLen→n₀≤B0→B0≤W.heap.size→IsExs W n₀ A e.args→J pre W→pre.length+exSize e≤N→
   CallsIn F n Tryz.prog 114 #[exV e A cap,.func (.yield l) #[] #[]] W fun r W'=>
    (r= .returned (.bool true)∧∃q,q.map ExN.ex=exList e∧J (pre++q) W'∧KeepC X W W')∨(r= .returned (.bool false)∧∃q,q.map ExN.ex<+:exList e∧Jx (pre++q) W'):=by
 induction e using Ex.ind with
 |h e ih=>
  intro n A cap pre W hok hcap hmax hn0 hB0 hx hj hN
  have hdd:∀k:Nat,(F.depth.isSome=true→1≤k):=fun k h=>by rw[hd] at h;cases h
  have HI:=Lib.hid ih
  have HX:=Lib.hid hX
  have hXW:¬X W.heap.size:=fun h=>by have:=(hX _ h).2;omega
  have HE:=Lib.hid (lTo_end e)
  have hpos:=exSize_pos e
  have HN:=Lib.hid hN
  clear ih hX
  obtain ⟨fn,tmps,assign,body,hy,hR⟩:=hY (n-1) pre ⟨e,A,cap,hok,hcap,hmax⟩ (W.alloc (.cells #[.int .i64 e.op,.string e.name,.int .i64 e.n,.slice A e.args.length cap,.int .i64 e.line,.int .i64 e.col] 75)) (abide_alloc hJ hj _) (by omega)
  replace hR:=hR.mono (R':=fun r W2=>(r= .returned (.bool true)∧J (pre++ [⟨e,A,cap,hok,hcap,hmax⟩]) W2∧KeepC X (W.alloc (.cells #[.int .i64 e.op,.string e.name,.int .i64 e.n,.slice A e.args.length cap,.int .i64 e.line,.int .i64 e.col] 75)) W2∧W2.cell? ⟨W.heap.size,3,none⟩=some (.slice A e.args.length cap))∨(r= .returned (.bool false)∧Jx (pre++ [⟨e,A,cap,hok,hcap,hmax⟩]) W2))
   (fun r W2 h=>h.elim (fun ⟨h1,h2,h3⟩=> .inl ⟨h1,h2,h3,(exBoxC h3 hXW).2.2.2.1⟩) .inr)
  unfold maxLen at hmax
  refine callsIn_of_wp Tryz.func114 rfl hf ?_ hro
  simp only[Tryz.ntmps114,List.size_toArray,List.length_cons,List.length_nil,Nat.reduceAdd,Nat.reduceSub,Array.replicate_succ,Array.replicate_zero,List.push_toArray,List.append_toArray,List.nil_append,List.cons_append]
  gi_wp2_with ((try refine ⟨hdd _,?_⟩);refine hR.mono ?_;clear hR;rintro r W2 (⟨rfl,hJ2,hK2,c3⟩|⟨rfl,hx2⟩))
  ·gi_loopw [14] (fun i wr=>∃(k:Nat) (q:List ExN),k≤e.args.length∧i= .int .i64 k∧Hid (q.map ExN.ex=lTo e k)∧J (pre++q) wr∧KeepC X (W.alloc (.cells #[.int .i64 e.op,.string e.name,.int .i64 e.n,.slice A e.args.length cap,.int .i64 e.line,.int .i64 e.col] 75)) wr) (fun i _=>e.args.length-(intOf i).toNat)
   case atStart=>exact ⟨0,[⟨e,A,cap,hok,hcap,by unfold maxLen;omega⟩],Nat.zero_le _,rfl,rfl,hJ2,hK2⟩
   case round=>
    obtain ⟨k,q,hk,rfl,HQ,hJr,hKr⟩:=hrel
    have hK0:KeepC X W wr:=(KeepC.alloc X W _).trans hKr
    have hszr:=hKr.size
    rw[World.size_alloc] at hszr
    by_cases hlt:k<e.args.length
    ·obtain ⟨b,off,x,A',cap',rfl,hb,hxk,hxm,hok',hcap',hmax',hx',d0,d1,d2,d3,d4,d5⟩:=(hx.keepS (fun p u hp hc=>hK0.cell (fun h=>by have:=(HX.out _ h).1;omega) hc)).at_ hlt
     have HT:=Lib.hid (lTo_succ hxk)
     have hlq:Hid ((pre++q).length+exSize x≤N):=by
      have h1:=lTo_le e (k+1)
      rw[HT.out,List.length_append,←HQ.out,List.length_map] at h1
      have h2:=HN.out
      show _≤_
      rw[List.length_append]
      unfold exSize at h1 h2⊢
      omega
     have HC:=HI.out x hxm (n-1) A' cap' (pre++q) (wr.alloc (.cells #[.int .i64 x.op,.string x.name,.int .i64 x.n,.slice A' x.args.length cap',.int .i64 x.line,.int .i64 x.col] 75)) hok' hcap' hmax' hn0 (by simp;omega) (hx'.keepS (fun p u hp hc=>(KeepC.alloc (fun _=>False) wr _).cell (fun h=>h) hc)) (abide_alloc hJ hJr _) hlq.out
     have HC':=Lib.hid HC
     clear hxk hxm HC
     gi_wp2_with ((try refine ⟨hdd _,?_⟩);gi_at_call 114;refine HC'.out.mono ?_;clear HC';rintro r W3 (⟨rfl,q3,hq3,hJ3,hK3⟩|⟨rfl,q3,hq3,hx3⟩))
     ·go_roundw
      case rel=>exact ⟨k+1,q++q3,by omega,by go_num,by show _=_;rw[List.map_append,HQ.out,hq3,HT.out],by rw[←List.append_assoc];exact hJ3,hKr.trans ((KeepC.alloc X wr _).trans hK3)⟩
      case measure=>simp[intOf];omega
     ·go_ret
      refine .inr ⟨rfl,q++q3,?_,by rw[←List.append_assoc];exact hx3⟩
      rw[List.map_append,HQ.out]
      exact ((List.prefix_append_right_inj _).2 hq3).trans (HT.out▸lTo_pre e (k+1))
    ·obtain rfl:k=e.args.length:=by omega
     gi_wp2
     go_ret
     exact .inl ⟨rfl,q,by rw[HQ.out,←HE.out],hJr,hK0⟩
  ·go_ret
   exact .inr ⟨rfl,_,by rw[exList_eq];exact ⟨_,rfl⟩,hx2⟩
theorem all1_in (F:Fence) (hd:F.depth=none) (n:Nat) (hf:F.fn 114) (hf1:F.fn 113) (hro:F.round=none) (l Bt n₀ B0:Nat) (X:Nat→Prop) (hX:∀b,X b→n₀≤b∧b<B0) (J Jx:List ExN→World→Prop) (hJ:AbidesFrom B0 J)
  (e:Ex) (A:Option Addr) (cap:Nat) (hok:ExOk e) (hcap:e.args.length≤cap) (hmax:cap≤maxLen) (hn0:n₀≤B0)
  (hY:∀pre x W,J pre W→pre.length<exSize e→YieldAt F (n-1) Tryz.prog l #[x.v] W fun e W'=>(e= .returned (.bool true)∧J (pre++ [x]) W'∧KeepC X W W')∨(e= .returned (.bool false)∧Jx (pre++ [x]) W'))
  (W:World) (hB0:B0≤W.heap.size) (hc:∀j u,(exCells e A cap)[j]? =some u→W.cell? ⟨Bt,j,none⟩=some u) (hx:IsExs W n₀ A e.args) (h0:J [] W):
  CallsIn F n Tryz.prog 113 #[.func (.yield l) #[] #[],.pointer (some ⟨Bt,0,none⟩)] W fun r W'=>(∃v,r= .returned v)∧
   ((∃ys,ys.map ExN.ex=exList e∧J ys W')∨(∃pre,pre.map ExN.ex<+:exList e∧Jx pre W')):=by
 have hdd:∀k:Nat,(F.depth.isSome=true→1≤k):=fun k h=>by rw[hd] at h;cases h
 have hp:=wlkIn F hd hf hro l (exSize e) n₀ B0 X hX J Jx hJ (fun m pre x W hj hl=>yieldAt_any hd m (hY pre x W hj hl)) e (n-1) A cap [] W hok hcap hmax hn0 hB0 hx h0 (by simp)
 have HP:=Lib.hid hp
 have c0:=hc 0 _ rfl
 have c1:=hc 1 _ rfl
 have c2:=hc 2 _ rfl
 have c3:=hc 3 _ rfl
 have c4:=hc 4 _ rfl
 have c5:=hc 5 _ rfl
 clear hp hc
 refine callsIn_of_wp Tryz.func113 rfl hf1 ?_ hro
 simp only[Tryz.ntmps113,List.size_toArray,List.length_cons,List.length_nil,Nat.reduceAdd,Nat.reduceSub,Array.replicate_succ,Array.replicate_zero,List.push_toArray,List.append_toArray,List.nil_append,List.cons_append]
 gi_wp2_with ((try refine ⟨hdd _,?_⟩);gi_at_call 114;refine HP.out.mono ?_;clear HP;rintro e W1 (⟨rfl,q,hq,hJ1,_⟩|⟨rfl,q,hq,hx⟩))
 ·go_end0
  exact ⟨⟨_,rfl⟩,.inl ⟨q,hq,by simpa using hJ1⟩⟩
 ·go_end0
  exact ⟨⟨_,rfl⟩,.inr ⟨q,hq,by simpa using hx⟩⟩
theorem all_in (F:Fence) (n:Nat) (hf:F.fn 97) (hro:F.round=none) (e:Ex) (A:Option Addr) (cap:Nat) (W:World):
  CallsIn F n Tryz.prog 97 #[exV e A cap] W fun r w'=>r= .returned (.func (.func 113) #[] #[.pointer (some ⟨W.heap.size,0,none⟩)])∧w'=W.alloc (.cells #[.int .i64 e.op,.string e.name,.int .i64 e.n,.slice A e.args.length cap,.int .i64 e.line,.int .i64 e.col] 75):=by
 refine callsIn_of_wp Tryz.func97 rfl hf ?_ hro
 simp only[Tryz.ntmps97,List.size_toArray,List.length_cons,List.length_nil,Nat.reduceAdd,Nat.reduceSub,Array.replicate_succ,Array.replicate_zero,List.push_toArray,List.append_toArray,List.nil_append,List.cons_append]
 gi_wp2
 go_ret
 exact ⟨rfl,rfl⟩
theorem all_stops (F:Fence) (hd:F.depth=none) (n:Nat) (hf:F.fn 114) (hf1:F.fn 113) (hro:F.round=none) (Bt n₀:Nat) (X:Nat→Prop) (e:Ex) (A:Option Addr) (cap:Nat) (w:World) (hX:∀b,X b→n₀≤b∧b<w.heap.size)
  (hok:ExOk e) (hcap:e.args.length≤cap) (hmax:cap≤maxLen) (hBt:Bt<w.heap.size) (hn₀:n₀≤w.heap.size) (hc:∀j u,(exCells e A cap)[j]? =some u→w.cell? ⟨Bt,j,none⟩=some u) (hx:IsExs w n₀ A e.args):
  SeqStopsK F n Tryz.prog 113 #[.pointer (some ⟨Bt,0,none⟩)] (fun x:ExN=> #[x.v]) (KeepC X) (fun ys=>ys.map ExN.ex=exList e) (fun pre=>pre.map ExN.ex<+:exList e) (exSize e) w:=fun l J Jx W hW hJ _ hY h0=>
 all1_in F hd n hf hf1 hro l Bt n₀ W.heap.size X (fun b hb=>⟨(hX b hb).1,Nat.lt_of_lt_of_le (hX b hb).2 hW.size⟩) J Jx hJ e A cap hok hcap hmax (Nat.le_trans hn₀ hW.size) hY W (Nat.le_refl _)
  (fun j u hu=>(hW.cell (p:=⟨Bt,j,none⟩) hBt).trans (hc j u hu)) (hx.below (hW.mono hn₀)) h0
open Go.RowKit Nm
structure Small (e:Ex):Prop where
 size:exSize e≤900
 names:∀x∈exList e,x.name.size≤30
open Go.RowKit Go.Shelf Nm
theorem keepC_putObj {X:Nat→Prop} (W:World) (l:Nat) (o o':Obj) (h:W.heap[l]? =some o) (ho:o.isCells=false):KeepC X W (W.putObj l o'):=by
 refine ⟨(grownBy_putObj' W l o').size,fun b cs t f _ hb=>((grownBy_putObj' W l o').block b (Array.getElem?_eq_some_iff.1 hb).1 (fun e=>?_)).trans hb⟩
 injection e with e
 subst e
 rw[hb] at h
 injection h with h
 subst h
 cases ho
theorem Row.own {W W':World} {b:Nat} {cs:Array Value} {t:TypeId} {row:Option Nat} (h:Row W b cs t) (hg:W.grownBy W' row) (hr:∀r,row=some r→∃o:Obj,W.heap[r]? =some o∧o.isCells=false):Row W' b cs t:=by
 refine (hg.block b h.lt fun e=>?_).trans h
 obtain ⟨o,ho,hc⟩:=hr b e.symm
 rw[show W.heap[b]? =_ from h] at ho
 cases ho
 cases hc
theorem keeps_below {W W':World} (h:Below W.heap.size W W'):KeepsOthers W W':=⟨h.size,fun k _ hk _=>(h.block k (Array.getElem?_eq_some_iff.1 hk).1).trans hk⟩
end Go.Proofs.YtckognjamlckcaaGreatDoor
