/-
  norm: what an act wants at once; whether it is ready.
-/
import Derived.Test.YtbjaejgechadpaaGreatNormH
import Derived.Test.YtbjaejgechadpaaGreatLookZ
import Derived.Test.YtbjaejgechadpaaGreatPlainA
namespace Go.Proofs.YtbjaejgechadpaaGreat
open Go.RowKit Vf Fo
attribute [local go_sem ↓] Go.wp_at_zero Go.wp_at_succ
def WantsIs (x:Ac) (w:World) (e:Ending) (w':World):Prop:=∃v,e= .returned v∧SlV w' w'.heap.size 1 isInt v (wants x)∧Below w.heap.size w w'
set_option maxRecDepth 100000 in
set_option maxHeartbeats 2000000 in
theorem nwants_any (x:Ac) (wx:AcIn x) (hu:0≤uses x.op) (w:World):
  Calls Tryz.prog 101 #[acV x] w (WantsIs x w):=by
 obtain ⟨op,dst,a,b,c,k⟩:=x
 obtain ⟨_,_,wa,wb,wc,_⟩:=wx
 dsimp only at hu wa wb wc
 have H0:Hid (∀W,Below w.heap.size w W→wants ⟨op,dst,a,b,c,k⟩=[]→SlV W W.heap.size 1 isInt (.slice none 0 0) (wants ⟨op,dst,a,b,c,k⟩)):=fun W _ e=>by rw[e];exact SlV.nil
 have H1:Hid (∀W:World,wants ⟨op,dst,a,b,c,k⟩=[a]→SlV (W.alloc (.cells #[.int .i64 a] 3)) (W.alloc (.cells #[.int .i64 a] 3)).heap.size 1 isInt (.slice (some ⟨W.heap.size,0,none⟩) 1 1) (wants ⟨op,dst,a,b,c,k⟩)):=fun W e=>by rw[e];exact (one_slv wa).more (by simp)
 have H2:Hid (∀W:World,wants ⟨op,dst,a,b,c,k⟩=[a,b]→SlV (W.alloc (.cells #[.int .i64 a,.int .i64 b] 3)) (W.alloc (.cells #[.int .i64 a,.int .i64 b] 3)).heap.size 1 isInt (.slice (some ⟨W.heap.size,0,none⟩) 2 2) (wants ⟨op,dst,a,b,c,k⟩)):=fun W e=>by rw[e];exact (two_slv wa wb).more (by simp)
 have H3:Hid (∀W:World,wants ⟨op,dst,a,b,c,k⟩=[a,b,c]→SlV (W.alloc (.cells #[.int .i64 a,.int .i64 b,.int .i64 c] 3)) (W.alloc (.cells #[.int .i64 a,.int .i64 b,.int .i64 c] 3)).heap.size 1 isInt (.slice (some ⟨W.heap.size,0,none⟩) 3 3) (wants ⟨op,dst,a,b,c,k⟩)):=fun W e=>by rw[e];exact (three_slv wa wb wc).more (by simp)
 have b1:Below w.heap.size w (w.alloc (.cells #[.int .i64 op,.int .i64 dst,.int .i64 a,.int .i64 b,.int .i64 c,.int .i64 k] 56)):=bE
 have hs1:w.heap.size<(w.alloc (.cells #[.int .i64 op,.int .i64 dst,.int .i64 a,.int .i64 b,.int .i64 c,.int .i64 k] 56)).heap.size:=by simp
 obtain ⟨c0,c1,c2,c3,c4,c5⟩:=(Row.new w #[.int .i64 op,.int .i64 dst,.int .i64 a,.int .i64 b,.int .i64 c,.int .i64 k] 56).six'
 rcases uses_cases hu with hop|hop|hop|hop|hop|hop|hop|hop|hop
 ·have HW:Hid (wants ⟨op,dst,a,b,c,k⟩=[]):=by subst hop;rfl
  subst hop
  clear hu
  go_enter Tryz.func101,Tryz.ntmps101
  go_upto_region 1 with (fail)
  generalize w.alloc (.cells #[.int .i64 1,.int .i64 dst,.int .i64 a,.int .i64 b,.int .i64 c,.int .i64 k] 56)=w1 at*
  go_wp2_with fail
  go_ret
  exact ⟨_,rfl,H0.out _ b1 HW.out,b1⟩
 ·have HW:Hid (wants ⟨op,dst,a,b,c,k⟩=[]):=by subst hop;rfl
  subst hop
  clear hu
  go_enter Tryz.func101,Tryz.ntmps101
  go_upto_region 1 with (fail)
  generalize w.alloc (.cells #[.int .i64 2,.int .i64 dst,.int .i64 a,.int .i64 b,.int .i64 c,.int .i64 k] 56)=w1 at*
  go_wp2_with fail
  go_ret
  exact ⟨_,rfl,H0.out _ b1 HW.out,b1⟩
 ·have HW:Hid (wants ⟨op,dst,a,b,c,k⟩=[]):=by subst hop;rfl
  subst hop
  clear hu
  go_enter Tryz.func101,Tryz.ntmps101
  go_upto_region 1 with (fail)
  generalize w.alloc (.cells #[.int .i64 21,.int .i64 dst,.int .i64 a,.int .i64 b,.int .i64 c,.int .i64 k] 56)=w1 at*
  go_wp2_with fail
  go_ret
  exact ⟨_,rfl,H0.out _ b1 HW.out,b1⟩
 ·have HW:Hid (wants ⟨op,dst,a,b,c,k⟩=[a]):=by subst hop;rfl
  subst hop
  clear hu
  go_enter Tryz.func101,Tryz.ntmps101
  go_upto_region 1 with (fail)
  generalize w.alloc (.cells #[.int .i64 3,.int .i64 dst,.int .i64 a,.int .i64 b,.int .i64 c,.int .i64 k] 56)=w1 at*
  go_wp2_with fail
  go_ret
  exact ⟨_,rfl,H1.out _ HW.out,bE⟩
 ·have HW:Hid (wants ⟨op,dst,a,b,c,k⟩=[a]):=by subst hop;rfl
  subst hop
  clear hu
  go_enter Tryz.func101,Tryz.ntmps101
  go_upto_region 1 with (fail)
  generalize w.alloc (.cells #[.int .i64 24,.int .i64 dst,.int .i64 a,.int .i64 b,.int .i64 c,.int .i64 k] 56)=w1 at*
  go_wp2_with fail
  go_ret
  exact ⟨_,rfl,H1.out _ HW.out,bE⟩
 ·have HW:Hid (wants ⟨op,dst,a,b,c,k⟩=[a,b,c]):=by subst hop;rfl
  subst hop
  clear hu
  go_enter Tryz.func101,Tryz.ntmps101
  go_upto_region 1 with (fail)
  generalize w.alloc (.cells #[.int .i64 26,.int .i64 dst,.int .i64 a,.int .i64 b,.int .i64 c,.int .i64 k] 56)=w1 at*
  go_wp2_with fail
  go_ret
  exact ⟨_,rfl,H3.out _ HW.out,bE⟩
 ·have HW:Hid (wants ⟨op,dst,a,b,c,k⟩=[a,b,c]):=by subst hop;rfl
  subst hop
  clear hu
  go_enter Tryz.func101,Tryz.ntmps101
  go_upto_region 1 with (fail)
  generalize w.alloc (.cells #[.int .i64 27,.int .i64 dst,.int .i64 a,.int .i64 b,.int .i64 c,.int .i64 k] 56)=w1 at*
  go_wp2_with fail
  go_ret
  exact ⟨_,rfl,H3.out _ HW.out,bE⟩
 ·have HW:Hid (wants ⟨op,dst,a,b,c,k⟩=[a]):=by have h1:uses op=1:=(by unfold uses;rw[if_neg (by omega),if_pos (by omega)]);show _=_;simp[wants,h1]
  have o5:(op==5)=true∨((op==5)=false∧(op==6)=true):=by rcases (by omega:op=5∨op=6) with rfl|rfl<;>simp
  have o1:(op==1)=false:=by rw[beq_eq_false_iff_ne];omega
  have o2:(op==2)=false:=by rw[beq_eq_false_iff_ne];omega
  have o3:(op==3)=false:=by rw[beq_eq_false_iff_ne];omega
  have o21:(op==21)=false:=by rw[beq_eq_false_iff_ne];omega
  clear hu hop
  rcases o5 with o5|⟨o5,o6⟩
  all_goals
   go_enter Tryz.func101,Tryz.ntmps101
   go_upto_region 1 with (fail)
   generalize w.alloc (.cells #[.int .i64 op,.int .i64 dst,.int .i64 a,.int .i64 b,.int .i64 c,.int .i64 k] 56)=w1 at*
   go_wp2_with fail
   go_ret
   exact ⟨_,rfl,H1.out _ HW.out,bE⟩
 ·have HW:Hid (wants ⟨op,dst,a,b,c,k⟩=[a,b]):=by have h1:uses op=2:=(by unfold uses;rw[if_neg (by omega),if_neg (by omega),if_pos (by omega)]);show _=_;simp[wants,h1]
  have o1:(op==1)=false:=by rw[beq_eq_false_iff_ne];omega
  have o2:(op==2)=false:=by rw[beq_eq_false_iff_ne];omega
  have o3:(op==3)=false:=by rw[beq_eq_false_iff_ne];omega
  have o5:(op==5)=false:=by rw[beq_eq_false_iff_ne];omega
  have o6:(op==6)=false:=by rw[beq_eq_false_iff_ne];omega
  have o21:(op==21)=false:=by rw[beq_eq_false_iff_ne];omega
  have o24:(op==24)=false:=by rw[beq_eq_false_iff_ne];omega
  have o26:(op==26)=false:=by rw[beq_eq_false_iff_ne];omega
  have o27:(op==27)=false:=by rw[beq_eq_false_iff_ne];omega
  clear hu hop
  go_enter Tryz.func101,Tryz.ntmps101
  go_upto_region 1 with (fail)
  generalize w.alloc (.cells #[.int .i64 op,.int .i64 dst,.int .i64 a,.int .i64 b,.int .i64 c,.int .i64 k] 56)=w1 at*
  go_wp2_with fail
  go_ret
  exact ⟨_,rfl,H2.out _ HW.out,bE⟩
theorem ds_cell {w:World} {O:Nat} {l:List Bool} {t:TypeId} (h:Row w O (l.map Value.bool).toArray t) {n:Nat} (hn:n<l.length):w.cell? ⟨O,n,none⟩=some (.bool (bGet l n)):=out_cell h hn
theorem ready_no1 {f:Fm} {ds:List Bool} {x:Ac} {k:Nat} {n:Int} (h:(wants x)[k]? =some n) (hf:bGet ds n=false):¬readyB f ds x:=fun g=>by
 have:=g.1 n (List.mem_of_getElem? h)
 rw[hf] at this
 cases this
theorem ready_no2 {f:Fm} {ds:List Bool} {x:Ac} {k:Nat} {g:Gd} (h:(clockOf f x.dst)[k]? =some g) (hf:bGet ds g.wire=false):¬readyB f ds x:=fun q=>by
 have:=q.2.1 g (List.mem_of_getElem? h)
 rw[hf] at this
 cases this
theorem all_upto {α:Type} {l:List α} {P:α→Prop} (h:∀j,j<l.length→∀x,l[j]? =some x→P x):∀x∈l,P x:=fun x hx=>by
 obtain ⟨j,hj⟩:=List.getElem?_of_mem hx
 exact h j (List.getElem?_eq_some_iff.1 hj).1 x hj
section
variable {w:World} {B L:Nat} {f:Fm} {vw va vc vk vi vo vb ve:Value}
set_option maxRecDepth 100000 in
set_option maxHeartbeats 2000000 in
theorem nready_any (h:NkAt w B L f vw va vc vk vi vo vb ve) (hB:B≤w.heap.size) (x:Ac) (wx:AcIn x) (hu:0≤uses x.op) (hd:isW f x.dst) (hw:∀n∈wants x,isW f n) (hg:∀g∈clockOf f x.dst,isW f g.wire)
  (Dp Lp D:Nat) (ds:List Bool) (hD:w.cell? ⟨Dp,0,none⟩=some (.slice (some ⟨D,0,none⟩) f.wires.length f.wires.length)) (hL:w.cell? ⟨Lp,0,none⟩=some (.pointer (some ⟨L,0,none⟩))) (rD:Row w D (ds.map Value.bool).toArray 4) (hdl:ds.length=f.wires.length):
  Calls Tryz.prog 100 #[acV x,.pointer (some ⟨Dp,0,none⟩),.pointer (some ⟨Lp,0,none⟩)] w fun e w'=>e= .returned (.bool (cB (readyB f ds x)))∧Below w.heap.size w w':=by
 obtain ⟨m0,b6,off6,cw6,Ag6,cg6,hmd,hm,hvw,lw6,mw6,hb6,wt6,d0,d1,lg6,mg6,sg6⟩:=h.wire hd
 subst hvw
 have HN:=Lib.hid (fun W (hW:Below w.heap.size w W)=>h.below hB hW)
 have hDl:=World.block_lt_of_cell? w _ hD
 have hLl:=World.block_lt_of_cell? w _ hL
 have hrl:=rD.lt
 have HDW:Hid (∀W,Below w.heap.size w W→W.cell? ⟨Dp,0,none⟩=some (.slice (some ⟨D,0,none⟩) f.wires.length f.wires.length)∧W.cell? ⟨Lp,0,none⟩=some (.pointer (some ⟨L,0,none⟩))∧W.cell? ⟨L,0,none⟩=some (.slice (some ⟨b6,off6,none⟩) f.wires.length cw6)∧W.cell? ⟨b6,off6+m0*2+1,none⟩=some (.slice Ag6 (clockOf f m0).length cg6)):=fun W hW=>
  ⟨cell_kept hD hW,cell_kept hL hW,(HN.out W hW).row.eight.1.1,cell_kept (hmd▸d1) hW⟩
 have HR:=Lib.hid (fun W (hW:Below w.heap.size w W)=>rD.below hW hrl)
 have HDL:=Lib.hid hdl
 have HGD:Hid (∀W,Below w.heap.size w W→Sl W B 2 isGd Ag6 (clockOf f m0)):=fun W hW=>(hmd▸sg6:Sl w B 2 isGd Ag6 (clockOf f m0)).below (hW.mono hB)
 have HW:=Lib.hid hw
 have HG:=Lib.hid hg
 obtain ⟨op,dst,a,b,c,k⟩:=x
 dsimp only at*
 subst hmd
 have HWN:=Lib.hid (nwants_any ⟨op,(m0:Int),a,b,c,k⟩ wx hu)
 have bX:=Row.new w #[.int .i64 op,.int .i64 (m0:Int),.int .i64 a,.int .i64 b,.int .i64 c,.int .i64 k] 56
 have b1:Below w.heap.size w (w.alloc (.cells #[.int .i64 op,.int .i64 (m0:Int),.int .i64 a,.int .i64 b,.int .i64 c,.int .i64 k] 56)):=bE
 have hg1:=bX.lt
 have hB1:=hB
 have hm':(m0:Int)<f.wires.length:=by omega
 have hcg:cg6≤9223372036854775807:=by unfold maxLen at mg6;omega
 clear h hD hL rD hdl hw hg hu wx d0 d1 sg6 wt6 hd hB
 go_enter Tryz.func100,Tryz.ntmps100
 go_upto_region 1 with (fail)
 generalize w.alloc (.cells #[.int .i64 op,.int .i64 (m0:Int),.int .i64 a,.int .i64 b,.int .i64 c,.int .i64 k] 56)=w1 at*
 obtain ⟨c0,c1,c2,c3,c4,c5⟩:=bX.six'
 go_wp2_with fail
 (with_reducible refine (HWN.out _).mono ?_)
 rintro e w2 ⟨v2,rfl,hs2,hb2⟩
 have hb12:=b1.trans (hb2.mono b1.size)
 have bX2:=bX.below hb2 hg1
 have hl2:=bX2.lt
 obtain ⟨A2,cap2,rfl,lv2,mv2,sv2⟩:=hs2
 have mv2':cap2≤9223372036854775807:=by unfold maxLen at mv2;omega
 have HSV:=Lib.hid sv2
 generalize hwl:wants ⟨op,(m0:Int),a,b,c,k⟩=wl at*
 have HWL:=Lib.hid hwl
 clear c0 c1 c2 c3 c4 c5 bX hb2 b1 sv2 hg1 hwl
 go_wp2_with fail
 go_loopw[12] (fun i wr=>∃j:Nat,j≤wl.length∧i= .int .i64 j∧Hid (∀i,i<j→∀n,wl[i]? =some n→bGet ds n=true)∧w2=wr) (fun i _=>wl.length-(intOf i).toNat)
 case atStart=>exact ⟨0,Nat.zero_le _,rfl,fun j h=>absurd h (by omega),rfl⟩
 case round=>
  obtain ⟨j,hj,rfl,HP,rfl⟩:=hrel
  by_cases hlt:j<wl.length
  ·obtain ⟨b3,off3,n,rfl,hb3,hn,wn,e0⟩:=HSV.out.int hlt
   have hWn:=HW.out n (List.mem_of_getElem? hn)
   have HNn:=Lib.hid hn
   obtain ⟨m,rfl⟩:=Int.eq_ofNat_of_zero_le hWn.1
   have hml:m<f.wires.length:=by have:=hWn.2;omega
   have hml':(m:Int)<f.wires.length:=by omega
   obtain ⟨x0,x1,x2,x3⟩:=HDW.out _ hb12
   have y0:=ds_cell (HR.out _ hb12) (n:=m) (by rw[HDL.out];exact hml)
   have HV:=Lib.hid (rfl:bGet ds (m:Int)=bGet ds (m:Int))
   generalize hV:bGet ds (m:Int)=V at y0 HV
   have HV':=Lib.hid hV
   clear hn hWn hV
   cases V
   ·have HF:Hid (cB (readyB f ds ⟨op,(m0:Int),a,b,c,k⟩)=false):=cB_false (ready_no1 (by rw[HWL.out];exact HNn.out) HV'.out)
    go_wp2_with fail
    go_ret
    exact ⟨ret_bool HF.out.symm,hb12⟩
   ·have HP':=Lib.hid (upto_succ HP.out (fun n' hn'=>by rw[HNn.out] at hn';injection hn' with hn';rw[←hn'];exact HV'.out))
    go_wp2_with fail
    go_roundw
    case rel=>exact ⟨j+1,by omega,by go_num,HP',trivial⟩
    case measure=>first|(simp[intOf];omega)|simp[intOf]
  obtain rfl:j=wl.length:=by omega
  have HP1:=Lib.hid (all_upto HP.out)
  go_upto_region 7 with (fail)
  obtain ⟨x0,x1,x2,x3⟩:=HDW.out _ hb12
  obtain ⟨c0,c1,c2,c3,c4,c5⟩:=bX2.six'
  go_quiet (fail)
  have HBW:=Lib.hid (fun n=>below_drewN' hb12 n)
  clear x0 x1 x2 x3 c0 c1 c2 c3 c4 c5
  generalize hlc:(clockOf f (m0:Int)).length=len at*
  have HLC:=Lib.hid hlc
  clear hlc
  go_wp2_with fail
  go_loopw[33] (fun i wr=>∃j:Nat,j≤len∧i= .int .i64 j∧Hid (∀i,i<j→∀g,(clockOf f m0)[i]? =some g→bGet ds g.wire=true)∧Below w2.heap.size w2 wr) (fun i _=>len-(intOf i).toNat)
  case atStart=>exact ⟨0,Nat.zero_le _,rfl,fun j h=>absurd h (by omega),below_drewN' (Below.refl _ _) _⟩
  case round=>
   obtain ⟨j,hj,rfl,HQ,hbr⟩:=hrel
   have hb1r:=hb12.trans (hbr.mono hb12.size)
   by_cases hlt2:j<len
   ·obtain ⟨bg,og,⟨gw,gn⟩,hAg,hbg,hgg,wg,e0,e1⟩:=(HGD.out _ hb1r).gd (k:=j) (by rw[HLC.out];exact hlt2)
    subst hAg
    dsimp only at wg e0 e1
    have hWn:=HG.out _ (List.mem_of_getElem? hgg)
    dsimp only at hWn
    have HNn:=Lib.hid hgg
    obtain ⟨m,rfl⟩:=Int.eq_ofNat_of_zero_le hWn.1
    have hml:m<f.wires.length:=by have:=hWn.2;omega
    have hml':(m:Int)<f.wires.length:=by omega
    have ba:Below wr.heap.size wr (wr.alloc (.cells #[.int .i64 (m:Int),.bool gn] 86)):=bE
    have bGr:=Row.new wr #[.int .i64 (m:Int),.bool gn] 86
    have hb3:=hbr.trans (ba.mono hbr.size)
    have hb13:=hb1r.trans (ba.mono hb1r.size)
    clear hgg hWn
    go_upto_region 10 with (fail)
    generalize wr.alloc (.cells #[.int .i64 (m:Int),.bool gn] 86)=w4 at*
    obtain ⟨z0,z1⟩:=bGr.two'
    obtain ⟨x0,x1,x2,x3⟩:=HDW.out _ hb13
    have y0:=ds_cell (HR.out _ hb13) (n:=m) (by rw[HDL.out];exact hml)
    generalize hV:bGet ds (m:Int)=V at y0
    have HV':=Lib.hid hV
    clear hV e0 e1 ba
    cases V
    ·have HF:Hid (cB (readyB f ds ⟨op,(m0:Int),a,b,c,k⟩)=false):=cB_false (ready_no2 HNn.out HV'.out)
     go_wp2_with fail
     go_ret
     exact ⟨ret_bool HF.out.symm,hb13⟩
    ·have HQ':=Lib.hid (upto_succ HQ.out (fun n' hn'=>by rw[HNn.out] at hn';injection hn' with hn';rw[←hn'];exact HV'.out))
     go_wp2_with fail
     go_roundw
     case rel=>exact ⟨j+1,by omega,by go_num,HQ',hb3⟩
     case measure=>first|(simp[intOf];omega)|simp[intOf]
   obtain rfl:j=len:=by omega
   have HQ1:=Lib.hid (all_upto (P:=fun (g:Gd)=>bGet ds g.wire=true) (fun i hi=>HQ.out i (by rw[←HLC.out];exact hi)))
   obtain ⟨x0,x1,x2,x3⟩:=HDW.out _ hb1r
   obtain ⟨c0,c1,c2,c3,c4,c5⟩:=(bX2.below hbr hl2).six'
   have y0:=ds_cell (HR.out _ hb1r) (n:=m0) (by rw[HDL.out];exact hm)
   have HFF:Hid (∀V,bGet ds (m0:Int)=V→cB (readyB f ds ⟨op,(m0:Int),a,b,c,k⟩)= !V):=fun V hV=>by
    cases V
    ·exact cB_true ⟨by rw[HWL.out];exact HP1.out,HQ1.out,hV⟩
    ·refine cB_false (fun g=>?_)
     have:=g.2.2
     dsimp only at this
     rw[hV] at this
     cases this
   generalize hV:bGet ds (m0:Int)=V at y0
   have HF:=Lib.hid (HFF.out V hV)
   clear hV HFF
   go_wp2_with fail
   go_ret
   exact ⟨ret_bool HF.out.symm,hb1r⟩
end
end Go.Proofs.YtbjaejgechadpaaGreat
