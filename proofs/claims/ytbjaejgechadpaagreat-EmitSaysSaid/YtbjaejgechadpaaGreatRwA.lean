/-
  The document's order of acts: Ordered. Several texts in one: SemE, SemF, OpenR, RTy.
-/
import Derived.Test.YtbjaejgechadpaaGreatR26A
import Derived.Test.YtbjaejgechadpaaGreatOrdB
import Derived.Test.YtbjaejgechadpaaGreatR24F
import Derived.Deep.DeepCutAuto
import Derived.Test.YtbjaejgechadpaaGreatNmA
import Derived.Test.YtbjaejgechadpaaGreatR24A
import Derived.Test.YtbjaejgechadpaaGreatNmD
import Derived.Test.YtbjaejgechadpaaGreatArZ
import Derived.Test.YtbjaejgechadpaaGreatOrdA
namespace Go.Proofs.YtbjaejgechadpaaGreat
open Go.RowKit Vf Fo
attribute [local go_sem ↓] Go.wp_at_zero Go.wp_at_succ
set_option maxRecDepth 100000 in
set_option maxHeartbeats 4000000 in
theorem rordered_any (f:Fm) (vw va vc vk vi vo:Value) (w:World) (h:FmAt w w.heap.size f vw va vc vk vi vo) (hla:f.acts.length≤100000) (hli:f.ins.length≤100000):
  Calls Tryz.prog 7 #[fmV vw va vc vk vi vo] w fun e w'=>e= .returned (.bool (cB (orderedOk f)))∧Below w.heap.size w w':=by
 have b1:Below w.heap.size w (w.alloc (.cells #[vw,va,vc,vk,vi,vo] 28)):=bE
 have rF:=Row.new w #[vw,va,vc,vk,vi,vo] 28
 have HR:=Lib.hid (rright_any f vw va vc vk vi vo _ (h.next b1) hla hli)
 have HFM:=Lib.hid (fun W (hW:Below w.heap.size w W)=>h.below hW)
 obtain ⟨Aa,ca,rfl,la,ma,sa⟩:=h.acts
 have ma':ca≤9223372036854775807:=by unfold maxLen at ma;omega
 have HSA:=Lib.hid (fun W (hW:Below w.heap.size w W)=>sa.below hW)
 clear h hla hli sa
 go_enter Tryz.func7,Tryz.ntmps7
 go_upto_region 1 with (fail)
 generalize w.alloc (.cells #[vw,.slice Aa f.acts.length ca,vc,vk,vi,vo] 28)=w1 at*
 have hs1:=b1.size
 have hGl:=rF.lt
 obtain ⟨f0,f1,f2,f3,f4,f5⟩:=rF.six'
 by_cases hf:formOk f
 rotate_left 1
 ·have HF:Hid (cB (orderedOk f)=false):=cB_false (fun g=>hf g.1)
  rw[cB_false hf] at HR
  clear hf
  go_wp2_with fail
  (with_reducible refine HR.out.mono ?_)
  rintro e w2 ⟨rfl,hb2⟩
  go_wp2_with fail
  go_ret
  exact ⟨ret_bool HF.out.symm,b1.trans (hb2.mono hs1)⟩
 have HOK:=Lib.hid hf
 rw[cB_true hf] at HR
 clear hf
 go_wp2_with fail
 (with_reducible refine HR.out.mono ?_)
 rintro e w2 ⟨rfl,hb2⟩
 have b2:=b1.trans (hb2.mono hs1)
 have rF2:=rF.below hb2 hGl
 have hs2:=b2.size
 have hG2:=rF2.lt
 clear f0 f1 f2 f3 f4 f5 rF HR hb2
 obtain ⟨f0,f1,f2,f3,f4,f5⟩:=rF2.six'
 have HT:=Lib.hid (rat_any (HFM.out _ b2) hs2 HOK.out.1.2.2 (fun n hn=>(HOK.out.2.1.1 n hn).1))
 go_wp2_with fail
 (with_reducible refine HT.out.mono ?_)
 rintro e w3 ⟨D,ds0,rfl,hD,rD,hH,hb3⟩
 have HH:=Lib.hid hH
 have HRD:=Lib.hid rD
 have b3:=b2.trans (hb3.mono hs2)
 have rF3:=rF2.below hb3 hG2
 have hGD:w.heap.size≠D:=by omega
 have hDlt:=rD.lt
 have hs3:=b3.size
 have HW:Hid (∀W,Upd (fun k=>k=D) w3 W→Below w.heap.size w W∧Row W w.heap.size #[vw,.slice Aa f.acts.length ca,vc,vk,vi,vo] 28):=fun W hW=>
  ⟨b3.trans ((hW.below (B:=w.heap.size) (fun k hk=>by omega) (by omega))),hW.row rF3 hGD⟩
 clear f0 f1 f2 f3 f4 f5 HT hb3 hH rD b1 b2 rF2 hs1
 obtain ⟨f0,f1,f2,f3,f4,f5⟩:=rF3.six'
 clear rF3
 go_wp2_with fail
 go_loopw[4] (fun i wr=>∃(k:Nat) (H:List Int) (ds:List Bool),k≤f.acts.length∧i= .int .i64 k∧Hid (HaveSt f H ds)∧Hid (ordFrom f f.ins f.acts↔ordFrom f H (f.acts.drop k))∧Row wr D (bls ds).toArray 4∧Upd (fun k=>k=D) w3 wr) (fun i _=>f.acts.length-(intOf i).toNat)
 case atStart=>exact ⟨0,f.ins,ds0,Nat.zero_le _,rfl,HH.out,(by rw[List.drop_zero];exact Iff.rfl),HRD.out,Upd.refl _ _⟩
 case round=>
  clear f0 f1 f2 f3 f4 f5 HH HRD
  obtain ⟨k,H,ds,hk,rfl,HS,HI,rD,uD⟩:=hrel
  obtain ⟨bw,rFr⟩:=HW.out _ uD
  have HDL:=Lib.hid HS.out.1
  by_cases hlt:k<f.acts.length
  rotate_left 1
  ·obtain rfl:k=f.acts.length:=by omega
   have HF:Hid (cB (orderedOk f)=true):=cB_true ⟨HOK.out,HI.out.2 (by rw[List.drop_length];trivial)⟩
   obtain ⟨f0,f1,f2,f3,f4,f5⟩:=rFr.six'
   clear rFr
   go_wp2_with fail
   go_ret
   exact ⟨ret_bool HF.out.symm,bw⟩
  obtain ⟨f0,f1,f2,f3,f4,f5⟩:=rFr.six'
  obtain ⟨b,off,⟨xo,xd,xa,xb,xc,xk⟩,hAa,hbb,hx,wx,d0,d1,d2,d3,d4,d5⟩:=(HSA.out _ bw).ac hlt
  subst hAa
  have HX:=Lib.hid hx
  have HAC:=Lib.hid (ac_ok HOK.out (List.mem_of_getElem? hx))
  have hdst:=HAC.out.dst
  obtain ⟨m,rfl⟩:=Int.eq_ofNat_of_zero_le (show 0≤xd from hdst.1)
  have hm:m<f.wires.length:=by have:=hdst.2;dsimp only at this;omega
  have hm':(m:Int)<f.wires.length:=by omega
  have hk':(k:Int)<f.acts.length:=by omega
  dsimp only at d0 d1 d2 d3 d4 d5
  have hDl4:=rD.lt
  have hbwl:=bw.size
  have HS7:Hid (∀W,Below wr.heap.size wr W→W.cell? ⟨w.heap.size,0,none⟩=some vw∧W.cell? ⟨w.heap.size,1,none⟩=some (.slice (some ⟨b,off,none⟩) f.acts.length ca)∧W.cell? ⟨w.heap.size,2,none⟩=some vc∧W.cell? ⟨w.heap.size,3,none⟩=some vk∧W.cell? ⟨w.heap.size,4,none⟩=some vi∧W.cell? ⟨w.heap.size,5,none⟩=some vo∧W.cell? ⟨b,off+k*6,none⟩=some (.int .i64 xo)∧W.cell? ⟨b,off+k*6+1,none⟩=some (.int .i64 (m:Int))∧W.cell? ⟨b,off+k*6+2,none⟩=some (.int .i64 xa)∧W.cell? ⟨b,off+k*6+3,none⟩=some (.int .i64 xb)∧W.cell? ⟨b,off+k*6+4,none⟩=some (.int .i64 xc)∧W.cell? ⟨b,off+k*6+5,none⟩=some (.int .i64 xk)):=fun W hW=>
   ⟨(rFr.below hW rFr.lt).cell 0,(rFr.below hW rFr.lt).cell 1,(rFr.below hW rFr.lt).cell 2,(rFr.below hW rFr.lt).cell 3,(rFr.below hW rFr.lt).cell 4,(rFr.below hW rFr.lt).cell 5,cell_kept d0 hW,cell_kept d1 hW,cell_kept d2 hW,cell_kept d3 hW,cell_kept d4 hW,cell_kept d5 hW⟩
  have HR:=Lib.hid (fun W (hW:Below wr.heap.size wr W)=>rready_any (HFM.out _ (bw.trans (hW.mono hbwl))) (Nat.le_trans hbwl hW.size) ⟨xo,(m:Int),xa,xb,xc,xk⟩ wx HAC.out D ds (rD.below hW hDl4) HDL.out)
  have HQ:=Lib.hid (ready_iff HS.out HAC.out.wants)
  have HRD4:=Lib.hid rD
  have HUU:=Lib.hid uD
  clear hx hdst wx rFr rD uD
  obtain ⟨P,HP2⟩:∃P:Bool,Hid (cB (∀n∈wantsAll f ⟨xo,(m:Int),xa,xb,xc,xk⟩,bGet ds n=true)=P):=⟨_,rfl⟩
  rw[HP2.out] at HR
  go_upto_region 7 with (fail)
  clear d0 d1 d2 d3 d4 d5 f0 f1 f2 f3 f4 f5
  go_cut[25] (fun v25 W=>v25= .bool (!P)∧Below wr.heap.size wr W)
  case first=>
   refine wp_region_held_drew (S:=fun W=>W.cell? ⟨w.heap.size,0,none⟩=some vw∧W.cell? ⟨w.heap.size,1,none⟩=some (.slice (some ⟨b,off,none⟩) f.acts.length ca)∧W.cell? ⟨w.heap.size,2,none⟩=some vc∧W.cell? ⟨w.heap.size,3,none⟩=some vk∧W.cell? ⟨w.heap.size,4,none⟩=some vi∧W.cell? ⟨w.heap.size,5,none⟩=some vo∧W.cell? ⟨b,off+k*6,none⟩=some (.int .i64 xo)∧W.cell? ⟨b,off+k*6+1,none⟩=some (.int .i64 (m:Int))∧W.cell? ⟨b,off+k*6+2,none⟩=some (.int .i64 xa)∧W.cell? ⟨b,off+k*6+3,none⟩=some (.int .i64 xb)∧W.cell? ⟨b,off+k*6+4,none⟩=some (.int .i64 xc)∧W.cell? ⟨b,off+k*6+5,none⟩=some (.int .i64 xk)) (by kernel_rfl) ?_ (fun hHeld=>?_)
   ·(try dsimp only);(first|(with_reducible exact HS7.out _ bE)|go_keep)
   refine tk 0 (some 17) rfl ?_
   refine tk 1 (some 18) rfl ?_
   refine tk 2 (some 19) rfl ?_
   refine tk 3 (some 20) rfl ?_
   refine tk 4 (some 21) rfl ?_
   refine tk 5 (some 22) rfl ?_
   refine tk 6 (some 23) rfl ?_
   refine rd1 7 (some 24) rfl (fun KK hKK=>?_)
   go_simp
   go_at_call 21;refine Calls.mono (HR.out _ ?hbb) ?_;(case hbb=>exact bE);rintro e w8 ⟨rfl,hb8⟩;(have hb9:Below wr.heap.size wr w8:=Below.trans bE (hb8.mono lE))
   (try go_wp2_with fail)
   refine hKK.out _ _ ?_ (fun hHeld=>?_)
   ·(try dsimp only);(first|(with_reducible exact HS7.out _ bE)|go_keep)
   clear hKK KK
   try simp only[Act.put,List.setIfInBounds_toArray,List.set_cons_zero,List.set_cons_succ]
   refine tk 8 (some 25) rfl ?_
   refine wpAnyH_done (by kernel_rfl) ?_ _
   go_wp2_with fail
   go_meet
   exact ⟨by first|rfl|(cases P<;>rfl),bE⟩
  case rest=>
  obtain ⟨rfl,hbc⟩:=hcut
  have u5:=HUU.out.trans (Upd.of_below hbc)
  cases P
  ·have HF:Hid (cB (orderedOk f)=false):=cB_false (fun g=>by
    have h1:=HI.out.1 g.2
    rw[getI_drop HX.out] at h1
    exact cB_not.1 HP2.out (HQ.out.2 h1.1))
   go_wp2_with fail
   go_ret
   exact ⟨ret_bool HF.out.symm,(HW.out _ u5).1⟩
  have HI':Hid (ordFrom f f.ins f.acts↔ordFrom f ((m:Int)::H) (f.acts.drop (k+1))):=by
   refine HI.out.trans ?_
   rw[getI_drop HX.out]
   exact ⟨fun g=>g.2,fun g=>⟨HQ.out.1 (cB_iff.1 HP2.out),g⟩⟩
  have HS':Hid (HaveSt f ((m:Int)::H) (ds.set m true)):=HS.out.set HAC.out.dst
  have rD5:=HRD4.out.below hbc hDl4
  obtain ⟨f0,f1,f2,f3,f4,f5,d0,d1,d2,d3,d4,d5⟩:=HS7.out _ hbc
  have fD:=rD5.frozen m
  have cD:=ds_cell rD5 (n:=m) (by rw[HDL.out];exact hm)
  have rD6:=Lib.hid (ds_set (m:=m) rD5 true)
  have uD6:=Lib.hid (Upd.setCell (X:=fun k=>k=D) (p:=⟨D,m,none⟩) u5 rfl (.bool true))
  generalize bGet ds (m:Int)=V at cD
  clear rD5
  go_wp2_with fail
  go_roundw
  case rel=>exact ⟨k+1,(m:Int)::H,ds.set m true,by omega,by go_num,HS'.out,HI'.out,rD6.out,uD6.out⟩
  case measure=>simp[intOf];omega
end Go.Proofs.YtbjaejgechadpaaGreat
namespace Go.Proofs.YtbjaejgechadpaaGreat
open Go.RowKit Vf Fo
attribute [local go_sem ↓] Go.wp_at_zero Go.wp_at_succ
def isRw (w:World) (B:Nat) (l:List Int) (cs:List Value):Prop:=∃v,cs=[v]∧SlV w B 1 isInt v l
theorem sl_rw {w:World} {B C:Nat} {A:Option Addr} {l:List (List Int)} {k:Nat} (h:Sl w B 1 (isRw w C) A l) (hk:k<l.length):∃b off x Ax cx,A=some ⟨b,off,none⟩∧b<B∧l[k]? =some x∧w.cell? ⟨b,off+k,none⟩=some (.slice Ax x.length cx)∧x.length≤cx∧cx≤maxLen∧Sl w C 1 isInt Ax x:=by
 obtain ⟨b,off,x,cs,h1,h2,h3,⟨v,rfl,Ax,cx,rfl,h4,h6,h7⟩,h5⟩:=h.at_ hk
 have:=h5 0 _ rfl
 rw[Nat.mul_one,Nat.add_zero] at this
 exact ⟨b,off,x,Ax,cx,h1,h2,h3,this,h4,h6,h7⟩
def RwsSm (l:List (List Int)):Prop:=l.length≤12∧∀x∈l,x.length≤12
set_option maxRecDepth 100000 in
set_option maxHeartbeats 4000000 in
theorem few22_any (l:List (List Int)) (v:Value) (B:Nat) (w:World) (h:SlV w B 1 (isRw w B) v l):
  Calls Tryz.prog 6 #[v] w fun e w'=>(∃b,e= .returned (.bool b)∧Hid (b=true→RwsSm l))∧w=w':=by
 obtain ⟨A1,c1,rfl,l1,m1,s1⟩:=h
 have m1':c1≤9223372036854775807:=by unfold maxLen at m1;omega
 go_enter Tryz.func6,Tryz.ntmps6
 go_wp2_with fail
 go_loopw[7] (fun i wr=>∃k:Nat,k≤l.length∧i= .int .i64 k∧Hid (∀j,j<k→∀x,l[j]? =some x→x.length≤12)∧w=wr) (fun i _=>l.length-(intOf i).toNat)
 case atStart=>exact ⟨0,Nat.zero_le _,rfl,fun j h=>absurd h (by omega),rfl⟩
 case round=>
  obtain ⟨k,hk,rfl,HN,rfl⟩:=hrel
  by_cases hlt:k<l.length
  ·obtain ⟨b1,o1,x,Ax,cx,rfl,hb1,hx,d0,ly,my,sx⟩:=sl_rw s1 hlt
   have HX:=Lib.hid hx
   clear hx
   by_cases e1:12<x.length
   ·have e1':decide (12<(x.length:Int))=true:=by simp;omega
    go_wp2_with fail
    go_ret
    exact ⟨⟨false,rfl,fun g=>by cases g⟩,rfl⟩
   have e1':decide (12<(x.length:Int))=false:=by simp;omega
   have HN':=Lib.hid (upto_succ HN.out (fun x' hx'=>by rw[HX.out] at hx';injection hx' with hx';rw[←hx'];omega))
   clear HX
   go_wp2_with fail
   go_roundw
   case rel=>exact ⟨k+1,by omega,by go_num,HN',trivial⟩
   case measure=>simp[intOf];omega
  ·obtain rfl:k=l.length:=by omega
   have HM:Hid (∀x∈l,x.length≤12):=fun x hx=>by
    obtain ⟨j,hj⟩:=List.getElem?_of_mem hx
    exact HN.out j (List.getElem?_eq_some_iff.1 hj).1 x hj
   go_wp2_with fail
   go_ret
   exact ⟨⟨_,rfl,fun g=>⟨by simp at g;omega,HM.out⟩⟩,rfl⟩
end Go.Proofs.YtbjaejgechadpaaGreat
namespace Go.Proofs.YtbjaejgechadpaaGreat
open Go.RowKit Vf Fo
attribute [local go_sem ↓] Go.wp_at_zero Go.wp_at_succ
set_option maxRecDepth 100000 in
set_option maxHeartbeats 4000000 in
theorem right04_any (l:List Int) (v:Value) (B:Nat) (w:World) (h:SlV w B 1 isInt v l):
  Calls Tryz.prog 22 #[v] w fun e w'=>(∃b,e= .returned (.bool b))∧w=w':=by
 obtain ⟨A1,c1,rfl,l1,m1,s1⟩:=h
 have m1':c1≤9223372036854775807:=by unfold maxLen at m1;omega
 go_enter Tryz.func22,Tryz.ntmps22
 go_wp2_with fail
 go_loopw[3] (fun i wr=>∃k:Nat,k≤l.length∧i= .int .i64 k∧w=wr) (fun i _=>l.length-(intOf i).toNat)
 case atStart=>exact ⟨0,Nat.zero_le _,rfl,rfl⟩
 case round=>
  obtain ⟨k,hk,rfl,rfl⟩:=hrel
  by_cases hlt:k<l.length
  ·obtain ⟨b1,o1,x,rfl,hb1,hx,wx,d0⟩:=s1.int hlt
   clear hx wx
   have hlt':(k:Int)<l.length:=by omega
   by_cases e1:x=1
   ·have q1:(x !=1)=false:=by simp[e1]
    clear e1
    go_wp2_with fail
    go_roundw
    case rel=>exact ⟨k+1,by omega,by go_num,trivial⟩
    case measure=>simp[intOf];omega
   have q1:(x !=1)=true:=by simp[e1]
   by_cases e2:x=2
   ·have q2:(x !=2)=false:=by simp[e2]
    clear e1 e2
    go_wp2_with fail
    go_roundw
    case rel=>exact ⟨k+1,by omega,by go_num,trivial⟩
    case measure=>simp[intOf];omega
   have q2:(x !=2)=true:=by simp[e2]
   clear e1 e2
   go_wp2_with fail
   go_ret
   exact ⟨⟨_,rfl⟩,rfl⟩
  ·obtain rfl:k=l.length:=by omega
   by_cases h0:0<l.length
   ·have q0:decide ((0:Int)<(l.length:Int))=true:=decide_eq_true (by omega)
    go_wp2_with fail
    go_ret
    exact ⟨⟨_,rfl⟩,rfl⟩
   ·have q0:decide ((0:Int)<(l.length:Int))=false:=decide_eq_false (by omega)
    go_wp2_with fail
    go_ret
    exact ⟨⟨_,rfl⟩,rfl⟩
set_option maxRecDepth 100000 in
set_option maxHeartbeats 4000000 in
theorem fits04_any (ts l:List Int) (v1 v2:Value) (B:Nat) (w:World) (h1:SlV w B 1 isInt v1 ts) (h2:SlV w B 1 isInt v2 l):
  Calls Tryz.prog 8 #[v1,v2] w fun e w'=>(∃b,e= .returned (.bool b)∧Hid (b=true→l.length=ts.length∧∀(j:Nat) x y,ts[j]? =some x→l[j]? =some y→x=2→y=0∨y=1))∧w=w':=by
 have HR:=Lib.hid (right04_any ts v1 B w h1)
 obtain ⟨A1,c1,rfl,l1,m1,s1⟩:=h1
 obtain ⟨A2,c2,rfl,l2,m2,s2⟩:=h2
 have m1':c1≤9223372036854775807:=by unfold maxLen at m1;omega
 have m2':c2≤9223372036854775807:=by unfold maxLen at m2;omega
 go_enter Tryz.func8,Tryz.ntmps8
 go_wp2_with fail
 refine HR.out.mono ?_
 rintro e w1 ⟨⟨b,rfl⟩,rfl⟩
 cases b
 ·go_wp2_with fail
  go_ret
  exact ⟨⟨false,rfl,fun g=>by cases g⟩,rfl⟩
 by_cases hl:l.length=ts.length
 rotate_left 1
 ·have hl':((l.length:Int) !=(ts.length:Int))=true:=by rw[bne_iff_ne];omega
  clear hl
  go_wp2_with fail
  go_ret
  exact ⟨⟨false,rfl,fun g=>by cases g⟩,rfl⟩
 have hl':((l.length:Int) !=(ts.length:Int))=false:=by rw[bne_eq_false_iff_eq];omega
 have HL:=Lib.hid hl
 have hle:l.length≤ts.length:=by omega
 clear hl
 go_wp2_with fail
 go_loopw[5] (fun i wr=>∃k:Nat,k≤l.length∧i= .int .i64 k∧Hid (∀j:Nat,j<k→∀x y,ts[j]? =some x→l[j]? =some y→x=2→y=0∨y=1)∧w=wr) (fun i _=>l.length-(intOf i).toNat)
 case atStart=>exact ⟨0,Nat.zero_le _,rfl,fun j h=>absurd h (by omega),rfl⟩
 case round=>
  obtain ⟨k,hk,rfl,HJ,rfl⟩:=hrel
  by_cases hlt:k<l.length
  ·obtain ⟨b1,o1,x,rfl,hb1,hx,wx,d0⟩:=s1.int (show k<ts.length by omega)
   obtain ⟨b2,o2,y,rfl,hb2,hy,wy,e0⟩:=s2.int hlt
   have HNX:Hid ((x=2→y=0∨y=1)→∀j:Nat,j<k+1→∀x y,ts[j]? =some x→l[j]? =some y→x=2→y=0∨y=1):=fun g j hj x' y' hx' hy'=>by
    rcases Nat.lt_or_ge j k with hjk|hjk
    ·exact HJ.out j hjk x' y' hx' hy'
    ·obtain rfl:j=k:=by omega
     rw[hx] at hx';rw[hy] at hy'
     injection hx' with hx';injection hy' with hy'
     subst hx';subst hy'
     exact g
   clear hx wx hy wy
   have hlt1:(k:Int)<l.length:=by omega
   have hlt2:(k:Int)<ts.length:=by omega
   by_cases e1:x=2
   ·have q1:(x==2)=true:=by simp[e1]
    clear e1
    by_cases e2:y=0
    ·have q2:(y !=0)=false:=by simp[e2]
     have HJ':=Lib.hid (HNX.out (fun _=> .inl e2))
     clear e2
     go_wp2_with fail
     go_roundw
     case rel=>exact ⟨k+1,by omega,by go_num,HJ',trivial⟩
     case measure=>simp[intOf];omega
    have q2:(y !=0)=true:=by simp[e2]
    by_cases e3:y=1
    ·have q3:(y !=1)=false:=by simp[e3]
     have HJ':=Lib.hid (HNX.out (fun _=> .inr e3))
     clear e2 e3
     go_wp2_with fail
     go_roundw
     case rel=>exact ⟨k+1,by omega,by go_num,HJ',trivial⟩
     case measure=>simp[intOf];omega
    have q3:(y !=1)=true:=by simp[e3]
    clear e2 e3
    go_wp2_with fail
    go_ret
    exact ⟨⟨false,rfl,fun g=>by cases g⟩,rfl⟩
   ·have q1:(x==2)=false:=by simp[e1]
    have HJ':=Lib.hid (HNX.out (fun g=>absurd g e1))
    clear e1
    go_wp2_with fail
    go_roundw
    case rel=>exact ⟨k+1,by omega,by go_num,HJ',trivial⟩
    case measure=>simp[intOf];omega
  ·obtain rfl:k=l.length:=by omega
   go_wp2_with fail
   go_ret
   exact ⟨⟨true,rfl,fun _=>⟨HL.out,fun j x y hx hy=>HJ.out j (List.getElem?_eq_some_iff.1 hy).1 x y hx hy⟩⟩,rfl⟩
end Go.Proofs.YtbjaejgechadpaaGreat
namespace Go.Proofs.YtbjaejgechadpaaGreat
open Go.RowKit Vf
def RowsIs (w:World) (l:List (List Int)) (v:Value):Prop:=SlV w w.heap.size 1 (isRw w w.heap.size) v l
section
variable {H:Type} {enc:TypeId × Value→H} {w:World} {spare:Nat→Bool} {held:Bool}
theorem isRw_len (y:List Int) (cs:List Value) (h:isRw w w.heap.size y cs):cs.length=1:=by obtain ⟨v,rfl,_⟩:=h;rfl
set_option maxRecDepth 100000 in
theorem open_row (n:Nat) (cs:List Value) (x:DataW H × List MemPlace) (h:DataW.trod enc Tryz.prog w 0 spare held n 26 cs=some x):∃l,isRw w w.heap.size l cs:=by
 rcases DataW.trod_slice Tryz.underlying26 h with ⟨hc,_⟩|⟨a',len',cap',elems,rest,k,hk,hc,_⟩
 all_goals
  subst hc
  obtain ⟨l,hl⟩:=open_ints h
  exact ⟨l,_,rfl,hl⟩
set_option maxRecDepth 100000 in
theorem open_rowsV {base:Nat} {v:Value} {d:DataW H} {p:List MemPlace} {r:Reach} (hv:Value.okWide Tryz.prog w r base 29 v) (h:DataW.Trod enc Tryz.prog w 0 spare held 29 v d p):∃l,RowsIs w l v:=by
 obtain ⟨a,len,cap,rfl⟩:=WideShapes.okWide_slice Tryz.underlying29 hv
 obtain ⟨fuel,hf⟩:=h
 exact open_sl Tryz.underlying29 cells_ints (by decide) fuel (fun n _ cs x h=>open_row n cs x h) isRw_len [] hf
end
end Go.Proofs.YtbjaejgechadpaaGreat
namespace Go.Proofs.YtbjaejgechadpaaGreat
open Go.RowKit Vf Fo
attribute [local go_sem ↓] Go.wp_at_zero Go.wp_at_succ
set_option maxRecDepth 100000 in
set_option maxHeartbeats 8000000 in
theorem rtypes24_any {w:World} {B:Nat} {f:Fm} {vw va vc vk vi vo:Value} (h:FmAt w B f vw va vc vk vi vo) (hB:B≤w.heap.size) (l:List Int) (v:Value) (hv:SlV w B 1 isInt v l) (hl:l.length≤1600) (hw:∀n∈l,isW f n):
  Calls Tryz.prog 9 #[fmV vw va vc vk vi vo,v] w fun e w'=>∃v',e= .returned v'∧SlV w' w'.heap.size 1 isInt v' (l.map (tyOf f))∧Below w.heap.size w w':=by
 obtain ⟨i0,hi0,hz0,hz1,hz2⟩:=info_parts info_int
 obtain ⟨Al,cl,rfl,ll,ml,sl⟩:=hv
 have ml':cl≤9223372036854775807:=by unfold maxLen at ml;omega
 have b1:Below w.heap.size w (w.alloc (.cells #[vw,va,vc,vk,vi,vo] 28)):=bE
 have rF1:=Row.new w #[vw,va,vc,vk,vi,vo] 28
 have HSL:=Lib.hid (fun W (hW:Below w.heap.size w W)=>sl.below (hW.mono hB))
 have HFM:=Lib.hid (fun W (hW:Below w.heap.size w W)=>h.below (hW.mono hB))
 have HW:=Lib.hid hw
 obtain ⟨Aw,cw,rfl,lw,mw,_⟩:=h.wires
 have mw':cw≤9223372036854775807:=by unfold maxLen at mw;omega
 clear sl h hw
 go_enter Tryz.func9,Tryz.ntmps9
 go_upto_region 1 with (fail)
 generalize w.alloc (.cells #[.slice Aw f.wires.length cw,va,vc,vk,vi,vo] 28)=w1 at*
 have hs1:=b1.size
 have hGl:=rF1.lt
 have HF6:Hid (∀W,Below w1.heap.size w1 W→W.cell? ⟨w.heap.size,0,none⟩=some (.slice Aw f.wires.length cw)):=fun W hW=>(rF1.below hW hGl).cell 0
 have f0:=HF6.out _ (Below.refl _ _)
 go_wp2_with fail
 clear f0
 go_loopw[5,6] (fun v5 i wr=>∃k:Nat,k≤l.length∧i= .int .i64 k∧Hid (wr.ownsRow w1.heap.size 3 1 v5 k (ints ((l.take k).map (tyOf f))))∧Hid (Below w1.heap.size w1 wr)) (fun _ i _=>l.length-(intOf i).toNat)
 case atStart=>exact ⟨0,Nat.zero_le _,rfl,World.ownsRow_nil _ _ _ _,Below.refl _ _⟩
 case round=>
  obtain ⟨k,hk,rfl,HO,HBR⟩:=hrel
  have hszr:=HBR.out.size
  have hb:=b1.trans (HBR.out.mono hs1)
  by_cases hlt:k<l.length
  ·obtain ⟨b,off,n,rfl,hb',hx,wx,d0⟩:=(HSL.out _ hb).int hlt
   obtain ⟨m,b6,off6,cw6,Ag6,cg6,rfl,hm,hvw,_,_,hb6B,wt6,y0,_,_,_,_⟩:=fm_wire (HFM.out _ hb) (HW.out n (List.mem_of_getElem? hx))
   injection hvw with h1 h2 h3
   subst h1;subst h3
   have hm':(m:Int)<f.wires.length:=by omega
   have hk':(k:Int)<l.length:=by omega
   have HTK:Hid (ints ((l.take (k+1)).map (tyOf f))=ints ((l.take k).map (tyOf f))++ [.int .i64 (tyOf f m)]):=by
    show _=_
    rw[take_snoc' hx,List.map_append,List.map_singleton,ints_snoc]
   have f0:=HF6.out _ HBR.out
   have HK:Hid (∀W,Below wr.heap.size wr W→W.cell? ⟨w.heap.size,0,none⟩=some (.slice (some ⟨b6,off6,none⟩) f.wires.length cw)∧W.cell? ⟨b,off+k,none⟩=some (.int .i64 (m:Int))∧W.cell? ⟨b6,off6+m*2,none⟩=some (.int .i64 (tyOf f (m:Int)))):=fun W hW=>⟨cell_kept f0 hW,cell_kept d0 hW,cell_kept y0 hW⟩
   have hbw:b<w1.heap.size:=by omega
   have hb6w:b6<w1.heap.size:=by omega
   have HKL:Hid ((∀W,Below w1.heap.size wr W→W.cell? ⟨b,off+k,none⟩=some (.int .i64 (m:Int)))∧(∀W,Below w1.heap.size wr W→W.cell? ⟨b6,off6+m*2,none⟩=some (.int .i64 (tyOf f (m:Int))))):=⟨fun W hW=>(hW.cell hbw).trans d0,fun W hW=>(hW.cell hb6w).trans y0⟩
   generalize tyOf f (m:Int)=T at*
   generalize ints ((l.take k).map (tyOf f))=LL at*
   clear hx wx wt6 h2 d0 y0 f0
   go_upto_region 5 with (fail)
   refine wp_region_held_drew (S:=fun W=>W.cell? ⟨w.heap.size,0,none⟩=some (.slice (some ⟨b6,off6,none⟩) f.wires.length cw)∧W.cell? ⟨b,off+k,none⟩=some (.int .i64 (m:Int))∧W.cell? ⟨b6,off6+m*2,none⟩=some (.int .i64 T)) (by kernel_rfl) ?_ (fun hHeld=>?_)
   ·(try dsimp only);(first|exact HK9.out|(with_reducible exact HK.out _ bE))
   refine tk 0 (some 13) rfl ?_
   refine tk 1 (some 14) rfl ?_
   refine tk 2 (some 15) rfl ?_
   refine tk 3 (some 16) rfl ?_
   refine tk 4 (some 17) rfl ?_
   refine tk 5 (some 18) rfl ?_
   refine tk 6 (some 19) rfl ?_
   refine tk 7 (some 20) rfl ?_
   refine tk 8 (some 21) rfl ?_
   refine tk 9 (some 22) rfl ?_
   refine rd1 10 (some 23) rfl (fun KK hKK=>?_)
   go_simp
   refine hKK.out _ _ ?_ (fun hHeld=>?_)
   ·(try dsimp only);(first|exact HK9.out|(with_reducible exact HK.out _ bE))
   clear hKK KK
   try simp only[Act.put,List.setIfInBounds_toArray,List.set_cons_zero,List.set_cons_succ]
   refine rd1 11 (some 24) rfl (fun KK hKK=>?_)
   (rw[if_pos (by kernel_rfl)];refine step_own (.tmp 13) (.tmp 23) 26 rfl w1.heap.size 3 i0 (.int .i64 0) 1 8 Tryz.underlying26 hi0 hz0 hz1 hz2 rfl (by decide) _ k LL rfl ((own_below HO.out (bE:Below wr.heap.size wr _))) (some ⟨_,0,none⟩) 1 1 [.int .i64 T] rfl NilOk.some rfl (fun ad he=>by injection he with he;subst he;exact cells_new _ _ _) (by intro u hu;simp at hu;subst hu;rfl) (by unfold maxLen;omega) (by omega) (by first|omega|(simp;omega)|simp) ?_;intro v13 w13 hown13 hg13;(have hf13:Below w1.heap.size wr w13:=below_own (Below.mono (bE:Below wr.heap.size wr _) hszr) (own_below HO.out (bE:Below wr.heap.size wr _)) hg13 (by first|omega|(simp;omega)|simp));(have HK9:Hid (w13.cell? ⟨w.heap.size,0,none⟩=some (.slice (some ⟨b6,off6,none⟩) f.wires.length cw)∧w13.cell? ⟨b,off+k,none⟩=some (.int .i64 (m:Int))∧w13.cell? ⟨b6,off6+m*2,none⟩=some (.int .i64 T)):=⟨(HF6.out _ (HBR.out.trans hf13)),HKL.out.1 w13 hf13,HKL.out.2 w13 hf13⟩))
   refine hKK.out _ _ ?_ (fun hHeld=>?_)
   ·(try dsimp only);(first|exact HK9.out|(with_reducible exact HK.out _ bE))
   clear hKK KK
   try simp only[Act.put,List.setIfInBounds_toArray,List.set_cons_zero,List.set_cons_succ]
   refine tk 12 (some 5) rfl ?_
   refine wpAnyH_done (by kernel_rfl) ?_ _
   have HB:=Lib.hid (HBR.out.trans hf13)
   clear hf13
   have HO':Hid (w13.ownsRow w1.heap.size 3 1 v13 (k+1) (ints ((l.take (k+1)).map (tyOf f)))):=by
    show World.ownsRow _ _ _ _ _ _ _
    rw[HTK.out];exact hown13
   clear hown13
   go_wp2_with fail
   go_roundw
   case rel=>exact ⟨k+1,by omega,by go_num,HO',HB⟩
   case measure=>simp[intOf];omega
  ·obtain rfl:k=l.length:=by omega
   have HWF:Hid (∀x∈l.map (tyOf f),Wf x):=fun x hx=>by
    obtain ⟨n,hn,rfl⟩:=List.mem_map.1 hx
    obtain ⟨_,_,_,_,_,_,_,_,_,_,_,_,wt,_⟩:=fm_wire (HFM.out _ hb) (HW.out n hn)
    exact wt
   go_wp2_with fail
   go_ret
   refine ⟨_,rfl,?_,hb⟩
   have:=HO.out
   rw[List.take_length] at this
   exact ownI this HWF.out
end Go.Proofs.YtbjaejgechadpaaGreat
