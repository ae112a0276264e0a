/-
  norm: what an act wants at once; whether it is ready. norm: whether all wires can be put in a row.
-/
import Derived.Test.YtckognjamlckcaaGreatDoorZz
import Derived.Test.YtckognjamlckcaaGreatDoorFltH
import Derived.Test.YtckognjamlckcaaGreatDoorVmZ
import Derived.Test.YtckognjamlckcaaGreatDoorPlainA
set_option maxHeartbeats 4000000
set_option maxRecDepth 100000
namespace Go.Proofs.YtckognjamlckcaaGreatDoor
open Go.RowKit Vf Fo
attribute [local go_sem ↓] Go.wp_at_zero Go.wp_at_succ
def WantsIs (x:Ac) (w:World) (e:Ending) (w':World):Prop:=∃v,e= .returned v∧SlV w' w'.heap.size 1 isInt v (wants x)∧Below w.heap.size w w'
theorem nwants_any (x:Ac) (wx:AcIn x) (hu:0≤uses x.op) (w:World):
  Calls Tryz.prog 68 #[acV x] w (WantsIs x w):=by
 obtain ⟨op,dst,a,b,c,k⟩:=x
 obtain ⟨_,_,wa,wb,wc,_⟩:=wx
 dsimp only at hu wa wb wc
 have H0:Hid (∀W,Below w.heap.size w W→wants ⟨op,dst,a,b,c,k⟩=[]→SlV W W.heap.size 1 isInt (.slice none 0 0) (wants ⟨op,dst,a,b,c,k⟩)):=fun W _ e=>by rw[e];exact SlV.nil
 have H1:Hid (∀W:World,wants ⟨op,dst,a,b,c,k⟩=[a]→SlV (W.alloc (.cells #[.int .i64 a] 3)) (W.alloc (.cells #[.int .i64 a] 3)).heap.size 1 isInt (.slice (some ⟨W.heap.size,0,none⟩) 1 1) (wants ⟨op,dst,a,b,c,k⟩)):=fun W e=>by rw[e];exact (one_slv wa).more (by simp)
 have H2:Hid (∀W:World,wants ⟨op,dst,a,b,c,k⟩=[a,b]→SlV (W.alloc (.cells #[.int .i64 a,.int .i64 b] 3)) (W.alloc (.cells #[.int .i64 a,.int .i64 b] 3)).heap.size 1 isInt (.slice (some ⟨W.heap.size,0,none⟩) 2 2) (wants ⟨op,dst,a,b,c,k⟩)):=fun W e=>by rw[e];exact (two_slv wa wb).more (by simp)
 have H3:Hid (∀W:World,wants ⟨op,dst,a,b,c,k⟩=[a,b,c]→SlV (W.alloc (.cells #[.int .i64 a,.int .i64 b,.int .i64 c] 3)) (W.alloc (.cells #[.int .i64 a,.int .i64 b,.int .i64 c] 3)).heap.size 1 isInt (.slice (some ⟨W.heap.size,0,none⟩) 3 3) (wants ⟨op,dst,a,b,c,k⟩)):=fun W e=>by rw[e];exact (three_slv wa wb wc).more (by simp)
 have b1:Below w.heap.size w (w.alloc (.cells #[.int .i64 op,.int .i64 dst,.int .i64 a,.int .i64 b,.int .i64 c,.int .i64 k] 58)):=bE
 have hs1:w.heap.size<(w.alloc (.cells #[.int .i64 op,.int .i64 dst,.int .i64 a,.int .i64 b,.int .i64 c,.int .i64 k] 58)).heap.size:=by simp
 obtain ⟨c0,c1,c2,c3,c4,c5⟩:=(Row.new w #[.int .i64 op,.int .i64 dst,.int .i64 a,.int .i64 b,.int .i64 c,.int .i64 k] 58).six'
 rcases uses_cases hu with hop|hop|hop|hop|hop|hop|hop|hop|hop
 ·refine' zq333
  generalize w.alloc (.cells #[.int .i64 1,.int .i64 dst,.int .i64 a,.int .i64 b,.int .i64 c,.int .i64 k] 58)=w1 at*
  go_wp2_with fail
  go_ret
  exact ⟨_,rfl,H0.out _ b1 HW.out,b1⟩
 ·refine' zq333
  generalize w.alloc (.cells #[.int .i64 2,.int .i64 dst,.int .i64 a,.int .i64 b,.int .i64 c,.int .i64 k] 58)=w1 at*
  go_wp2_with fail
  go_ret
  exact ⟨_,rfl,H0.out _ b1 HW.out,b1⟩
 ·refine' zq333
  generalize w.alloc (.cells #[.int .i64 21,.int .i64 dst,.int .i64 a,.int .i64 b,.int .i64 c,.int .i64 k] 58)=w1 at*
  go_wp2_with fail
  go_ret
  exact ⟨_,rfl,H0.out _ b1 HW.out,b1⟩
 ·have HW:Hid (wants ⟨op,dst,a,b,c,k⟩=[a]):=by subst hop;rfl
  subst hop
  clear hu
  refine' zq91
  generalize w.alloc (.cells #[.int .i64 3,.int .i64 dst,.int .i64 a,.int .i64 b,.int .i64 c,.int .i64 k] 58)=w1 at*
  go_wp2_with fail
  go_ret
  exact ⟨_,rfl,H1.out _ HW.out,bE⟩
 ·have HW:Hid (wants ⟨op,dst,a,b,c,k⟩=[a]):=by subst hop;rfl
  subst hop
  clear hu
  refine' zq91
  generalize w.alloc (.cells #[.int .i64 24,.int .i64 dst,.int .i64 a,.int .i64 b,.int .i64 c,.int .i64 k] 58)=w1 at*
  go_wp2_with fail
  go_ret
  exact ⟨_,rfl,H1.out _ HW.out,bE⟩
 ·have HW:Hid (wants ⟨op,dst,a,b,c,k⟩=[a,b,c]):=by subst hop;rfl
  subst hop
  clear hu
  refine' zq91
  generalize w.alloc (.cells #[.int .i64 26,.int .i64 dst,.int .i64 a,.int .i64 b,.int .i64 c,.int .i64 k] 58)=w1 at*
  go_wp2_with fail
  go_ret
  exact ⟨_,rfl,H3.out _ HW.out,bE⟩
 ·have HW:Hid (wants ⟨op,dst,a,b,c,k⟩=[a,b,c]):=by subst hop;rfl
  subst hop
  clear hu
  refine' zq91
  generalize w.alloc (.cells #[.int .i64 27,.int .i64 dst,.int .i64 a,.int .i64 b,.int .i64 c,.int .i64 k] 58)=w1 at*
  go_wp2_with fail
  go_ret
  exact ⟨_,rfl,H3.out _ HW.out,bE⟩
 ·have HW:Hid (wants ⟨op,dst,a,b,c,k⟩=[a]):=by have h1:uses op=1:=(by unfold uses;rw[if_neg (by omega),if_pos (by omega)]);show _=_;simp[wants,h1]
  have o5:(op==5)=true∨((op==5)=false∧(op==6)=true):=by rcases (by omega:op=5∨op=6) with rfl|rfl<;>simp
  have o1:(op==1)=false:=by rw[beq_eq_false_iff_ne];omega
  refine' zq290
  refine' zq207
  clear hu hop
  rcases o5 with o5|⟨o5,o6⟩
  all_goals
   refine' zq91
   generalize w.alloc (.cells #[.int .i64 op,.int .i64 dst,.int .i64 a,.int .i64 b,.int .i64 c,.int .i64 k] 58)=w1 at*
   go_wp2_with fail
   go_ret
   exact ⟨_,rfl,H1.out _ HW.out,bE⟩
 ·have HW:Hid (wants ⟨op,dst,a,b,c,k⟩=[a,b]):=by have h1:uses op=2:=(by unfold uses;rw[if_neg (by omega),if_neg (by omega),if_pos (by omega)]);show _=_;simp[wants,h1]
  have o1:(op==1)=false:=by rw[beq_eq_false_iff_ne];omega
  refine' zq290
  have o5:(op==5)=false:=by rw[beq_eq_false_iff_ne];omega
  have o6:(op==6)=false:=by rw[beq_eq_false_iff_ne];omega
  refine' zq207
  refine' zq129
  refine' zq231
  clear hu hop
  refine' zq91
  generalize w.alloc (.cells #[.int .i64 op,.int .i64 dst,.int .i64 a,.int .i64 b,.int .i64 c,.int .i64 k] 58)=w1 at*
  go_wp2_with fail
  go_ret
  exact ⟨_,rfl,H2.out _ HW.out,bE⟩
theorem ds_cell {w:World} {O:Nat} {l:List Bool} {t:TypeId} (h:Row w O (l.map Value.bool).toArray t) {n:Nat} (hn:n<l.length):w.cell? ⟨O,n,none⟩=some (.bool (bGet l n)):=out_cell h hn
theorem ready_no1 {f:Fm} {ds:List Bool} {x:Ac} {k:Nat} {n:Int} (h:(wants x)[k]? =some n) (hf:bGet ds n=false):¬readyB f ds x:=fun g=>by
 have:=g.1 n (List.mem_of_getElem? h)
 rw[hf] at this
 cases this
theorem ready_no2 {f:Fm} {ds:List Bool} {x:Ac} {k:Nat} {g:Gd} (h:(clockOf f x.dst)[k]? =some g) (hf:bGet ds g.wire=false):¬readyB f ds x:=fun q=>by
 have:=q.2.1 g (List.mem_of_getElem? h)
 rw[hf] at this
 cases this
theorem all_upto {α:Type} {l:List α} {P:α→Prop} (h:∀j,j<l.length→∀x,l[j]? =some x→P x):∀x∈l,P x:=fun x hx=>by
 obtain ⟨j,hj⟩:=List.getElem?_of_mem hx
 exact h j (List.getElem?_eq_some_iff.1 hj).1 x hj
section
variable {w:World} {B L:Nat} {f:Fm} {vw va vc vk vi vo vb ve:Value}
theorem nready_any (h:NkAt w B L f vw va vc vk vi vo vb ve) (hB:B≤w.heap.size) (x:Ac) (wx:AcIn x) (hu:0≤uses x.op) (hd:isW f x.dst) (hw:∀n∈wants x,isW f n) (hg:∀g∈clockOf f x.dst,isW f g.wire)
  (Dp Lp D:Nat) (ds:List Bool) (hD:w.cell? ⟨Dp,0,none⟩=some (.slice (some ⟨D,0,none⟩) f.wires.length f.wires.length)) (hL:w.cell? ⟨Lp,0,none⟩=some (.pointer (some ⟨L,0,none⟩))) (rD:Row w D (ds.map Value.bool).toArray 4) (hdl:ds.length=f.wires.length):
  Calls Tryz.prog 67 #[acV x,.pointer (some ⟨Dp,0,none⟩),.pointer (some ⟨Lp,0,none⟩)] w fun e w'=>e= .returned (.bool (cB (readyB f ds x)))∧Below w.heap.size w w':=by
 obtain ⟨m0,b6,off6,cw6,Ag6,cg6,hmd,hm,hvw,lw6,mw6,hb6,wt6,d0,d1,lg6,mg6,sg6⟩:=h.wire hd
 subst hvw
 have HN:=Lib.hid (fun W (hW:Below w.heap.size w W)=>h.below hB hW)
 have hDl:=World.block_lt_of_cell? w _ hD
 have hLl:=World.block_lt_of_cell? w _ hL
 have hrl:=rD.lt
 have HDW:Hid (∀W,Below w.heap.size w W→W.cell? ⟨Dp,0,none⟩=some (.slice (some ⟨D,0,none⟩) f.wires.length f.wires.length)∧W.cell? ⟨Lp,0,none⟩=some (.pointer (some ⟨L,0,none⟩))∧W.cell? ⟨L,0,none⟩=some (.slice (some ⟨b6,off6,none⟩) f.wires.length cw6)∧W.cell? ⟨b6,off6+m0*2+1,none⟩=some (.slice Ag6 (clockOf f m0).length cg6)):=fun W hW=>
  ⟨cell_kept hD hW,cell_kept hL hW,(HN.out W hW).row.eight.1.1,cell_kept (hmd▸d1) hW⟩
 have HR:=Lib.hid (fun W (hW:Below w.heap.size w W)=>rD.below hW hrl)
 have HDL:=Lib.hid hdl
 have HGD:Hid (∀W,Below w.heap.size w W→Sl W B 2 isGd Ag6 (clockOf f m0)):=fun W hW=>(hmd▸sg6:Sl w B 2 isGd Ag6 (clockOf f m0)).below (hW.mono hB)
 have HW:=Lib.hid hw
 have HG:=Lib.hid hg
 obtain ⟨op,dst,a,b,c,k⟩:=x
 dsimp only at*
 subst hmd
 have HWN:=Lib.hid (nwants_any ⟨op,(m0:Int),a,b,c,k⟩ wx hu)
 have bX:=Row.new w #[.int .i64 op,.int .i64 (m0:Int),.int .i64 a,.int .i64 b,.int .i64 c,.int .i64 k] 58
 have b1:Below w.heap.size w (w.alloc (.cells #[.int .i64 op,.int .i64 (m0:Int),.int .i64 a,.int .i64 b,.int .i64 c,.int .i64 k] 58)):=bE
 have hg1:=bX.lt
 have hB1:=hB
 have hm':(m0:Int)<f.wires.length:=by omega
 have hcg:cg6≤9223372036854775807:=by unfold maxLen at mg6;omega
 clear h hD hL rD hdl hw hg hu wx d0 d1 sg6 wt6 hd hB
 go_enter Tryz.func67,Tryz.ntmps67
 go_upto_region 1 with (fail)
 generalize w.alloc (.cells #[.int .i64 op,.int .i64 (m0:Int),.int .i64 a,.int .i64 b,.int .i64 c,.int .i64 k] 58)=w1 at*
 obtain ⟨c0,c1,c2,c3,c4,c5⟩:=bX.six'
 go_wp2_with fail
 (with_reducible refine (HWN.out _).mono ?_)
 rintro e w2 ⟨v2,rfl,hs2,hb2⟩
 have hb12:=b1.trans (hb2.mono b1.size)
 have bX2:=bX.below hb2 hg1
 have hl2:=bX2.lt
 obtain ⟨A2,cap2,rfl,lv2,mv2,sv2⟩:=hs2
 have mv2':cap2≤9223372036854775807:=by unfold maxLen at mv2;omega
 have HSV:=Lib.hid sv2
 generalize hwl:wants ⟨op,(m0:Int),a,b,c,k⟩=wl at*
 have HWL:=Lib.hid hwl
 clear c0 c1 c2 c3 c4 c5 bX hb2 b1 sv2 hg1 hwl
 go_wp2_with fail
 go_loopw[12] (fun i wr=>∃j:Nat,j≤wl.length∧i= .int .i64 j∧Hid (∀i,i<j→∀n,wl[i]? =some n→bGet ds n=true)∧w2=wr) (fun i _=>wl.length-(intOf i).toNat)
 case atStart=>exact ⟨0,Nat.zero_le _,rfl,fun j h=>absurd h (by omega),rfl⟩
 case round=>
  obtain ⟨j,hj,rfl,HP,rfl⟩:=hrel
  by_cases hlt:j<wl.length
  ·obtain ⟨b3,off3,n,rfl,hb3,hn,wn,e0⟩:=HSV.out.int hlt
   have hWn:=HW.out n (List.mem_of_getElem? hn)
   have HNn:=Lib.hid hn
   obtain ⟨m,rfl⟩:=Int.eq_ofNat_of_zero_le hWn.1
   have hml:m<f.wires.length:=by have:=hWn.2;omega
   have hml':(m:Int)<f.wires.length:=by omega
   obtain ⟨x0,x1,x2,x3⟩:=HDW.out _ hb12
   have y0:=ds_cell (HR.out _ hb12) (n:=m) (by rw[HDL.out];exact hml)
   have HV:=Lib.hid (rfl:bGet ds (m:Int)=bGet ds (m:Int))
   generalize hV:bGet ds (m:Int)=V at y0 HV
   have HV':=Lib.hid hV
   clear hn hWn hV
   cases V
   ·have HF:Hid (cB (readyB f ds ⟨op,(m0:Int),a,b,c,k⟩)=false):=cB_false (ready_no1 (by rw[HWL.out];exact HNn.out) HV'.out)
    go_wp2_with fail
    go_ret
    exact ⟨ret_bool HF.out.symm,hb12⟩
   ·have HP':=Lib.hid (upto_succ HP.out (fun n' hn'=>by rw[HNn.out] at hn';injection hn' with hn';rw[←hn'];exact HV'.out))
    go_wp2_with fail
    go_roundw
    case rel=>exact ⟨j+1,by omega,by go_num,HP',trivial⟩
    case measure=>first|(simp[intOf];omega)|simp[intOf]
  obtain rfl:j=wl.length:=by omega
  have HP1:=Lib.hid (all_upto HP.out)
  go_upto_region 7 with (fail)
  obtain ⟨x0,x1,x2,x3⟩:=HDW.out _ hb12
  obtain ⟨c0,c1,c2,c3,c4,c5⟩:=bX2.six'
  go_quiet (fail)
  have HBW:=Lib.hid (fun n=>below_drewN' hb12 n)
  clear x0 x1 x2 x3 c0 c1 c2 c3 c4 c5
  generalize hlc:(clockOf f (m0:Int)).length=len at*
  have HLC:=Lib.hid hlc
  clear hlc
  go_wp2_with fail
  go_loopw[33] (fun i wr=>∃j:Nat,j≤len∧i= .int .i64 j∧Hid (∀i,i<j→∀g,(clockOf f m0)[i]? =some g→bGet ds g.wire=true)∧Below w2.heap.size w2 wr) (fun i _=>len-(intOf i).toNat)
  case atStart=>exact ⟨0,Nat.zero_le _,rfl,fun j h=>absurd h (by omega),below_drewN' (Below.refl _ _) _⟩
  case round=>
   obtain ⟨j,hj,rfl,HQ,hbr⟩:=hrel
   have hb1r:=hb12.trans (hbr.mono hb12.size)
   by_cases hlt2:j<len
   ·obtain ⟨bg,og,⟨gw,gn⟩,hAg,hbg,hgg,wg,e0,e1⟩:=(HGD.out _ hb1r).gd (k:=j) (by rw[HLC.out];exact hlt2)
    subst hAg
    dsimp only at wg e0 e1
    have hWn:=HG.out _ (List.mem_of_getElem? hgg)
    dsimp only at hWn
    have HNn:=Lib.hid hgg
    obtain ⟨m,rfl⟩:=Int.eq_ofNat_of_zero_le hWn.1
    have hml:m<f.wires.length:=by have:=hWn.2;omega
    have hml':(m:Int)<f.wires.length:=by omega
    have ba:Below wr.heap.size wr (wr.alloc (.cells #[.int .i64 (m:Int),.bool gn] 61)):=bE
    have bGr:=Row.new wr #[.int .i64 (m:Int),.bool gn] 61
    have hb3:=hbr.trans (ba.mono hbr.size)
    have hb13:=hb1r.trans (ba.mono hb1r.size)
    clear hgg hWn
    go_upto_region 10 with (fail)
    generalize wr.alloc (.cells #[.int .i64 (m:Int),.bool gn] 61)=w4 at*
    obtain ⟨z0,z1⟩:=bGr.two'
    obtain ⟨x0,x1,x2,x3⟩:=HDW.out _ hb13
    have y0:=ds_cell (HR.out _ hb13) (n:=m) (by rw[HDL.out];exact hml)
    generalize hV:bGet ds (m:Int)=V at y0
    have HV':=Lib.hid hV
    clear hV e0 e1 ba
    cases V
    ·have HF:Hid (cB (readyB f ds ⟨op,(m0:Int),a,b,c,k⟩)=false):=cB_false (ready_no2 HNn.out HV'.out)
     go_wp2_with fail
     go_ret
     exact ⟨ret_bool HF.out.symm,hb13⟩
    ·have HQ':=Lib.hid (upto_succ HQ.out (fun n' hn'=>by rw[HNn.out] at hn';injection hn' with hn';rw[←hn'];exact HV'.out))
     go_wp2_with fail
     go_roundw
     case rel=>exact ⟨j+1,by omega,by go_num,HQ',hb3⟩
     case measure=>first|(simp[intOf];omega)|simp[intOf]
   obtain rfl:j=len:=by omega
   have HQ1:=Lib.hid (all_upto (P:=fun (g:Gd)=>bGet ds g.wire=true) (fun i hi=>HQ.out i (by rw[←HLC.out];exact hi)))
   obtain ⟨x0,x1,x2,x3⟩:=HDW.out _ hb1r
   obtain ⟨c0,c1,c2,c3,c4,c5⟩:=(bX2.below hbr hl2).six'
   have y0:=ds_cell (HR.out _ hb1r) (n:=m0) (by rw[HDL.out];exact hm)
   have HFF:Hid (∀V,bGet ds (m0:Int)=V→cB (readyB f ds ⟨op,(m0:Int),a,b,c,k⟩)= !V):=fun V hV=>by
    cases V
    ·exact cB_true ⟨by rw[HWL.out];exact HP1.out,HQ1.out,hV⟩
    ·refine cB_false (fun g=>?_)
     have:=g.2.2
     dsimp only at this
     rw[hV] at this
     cases this
   generalize hV:bGet ds (m0:Int)=V at y0
   have HF:=Lib.hid (HFF.out V hV)
   clear hV HFF
   go_wp2_with fail
   go_ret
   exact ⟨ret_bool HF.out.symm,hb1r⟩
end
def bls (l:List Bool):List Value:=l.map Value.bool
theorem ds_set {W:World} {K m:Nat} {ds:List Bool} {t:TypeId} (h:Row W K (bls ds).toArray t) (v:Bool):Row (W.setCell ⟨K,m,none⟩ (.bool v)) K (bls (ds.set m v)).toArray t:=by
 have:=h.set m (.bool v)
 rw[List.setIfInBounds_toArray] at this
 rw[bls,List.map_set]
 exact this
structure RowIn (f:Fm) (ds:List Bool):Prop where
 st:RowSt f ds
 ins:∀n∈f.ins,bGet ds n=true
theorem bGet_keep {ds:List Bool} {n m:Int} (h0:0≤n) (h1:n<ds.length) (h:bGet ds m=true):bGet (ds.set n.toNat true) m=true:=by
 have:=bGet_set (ds:=ds) (n:=n) (c:=m.toNat) h0 h1
 unfold bGet at h⊢
 rw[this]
 split
 ·rfl
 ·exact h
theorem row_start (f:Fm):RowSt f (List.replicate f.wires.length false):=⟨by simp,fun m hm=>by
 rw[List.getD_eq_getElem?_getD,List.getElem?_replicate] at hm
 split at hm<;>simp at hm⟩
theorem row_in {f:Fm} {ds:List Bool} (h:RowSt f ds) {n:Int} (hn:n∈f.ins) (hw:isW f n):RowSt f (ds.set n.toNat true):=by
 refine ⟨by simp[h.len],fun m hm=>?_⟩
 rw[bGet_set hw.1 (by rw[h.len];exact hw.2)] at hm
 by_cases e:n=m
 ·rw[←e];exact .ins n hn
 ·rw[if_neg e] at hm;exact h.done m hm
theorem nrow_any {w:World} {B L:Nat} {f:Fm} {vw va vc vk vi vo vb ve:Value} (h:NkAt w B L f vw va vc vk vi vo vb ve) (hB:B≤w.heap.size) (hwl:f.wires.length≤1600) (hins:∀n∈f.ins,isW f n)
  (hacts:∀x∈f.acts,0≤uses x.op∧isW f x.dst∧(∀n∈wants x,isW f n)∧∀g∈clockOf f x.dst,isW f g.wire):
  Calls Tryz.prog 29 #[.pointer (some ⟨L,0,none⟩)] w fun e w'=>e= .returned (.bool (cB (rowOk f)))∧Below w.heap.size w w':=by
 have hLlt:=h.row.lt
 obtain ⟨Aw,cw,rfl,lw,mw,sw⟩:=h.fm.wires
 obtain ⟨Aa,ca,rfl,la,ma,sa⟩:=h.fm.acts
 obtain ⟨Ai,ci,rfl,li,mi,si⟩:=h.fm.ins
 refine' zq229
 have mk:=make_bools f.wires.length (by omega) (by omega)
 have hB0:=hB
 have HN0:=Lib.hid (fun W (hW:Below w.heap.size w W)=>h.below hB0 hW)
 have HI:=Lib.hid hins
 have HA:=Lib.hid hacts
 have HWL:=Lib.hid hwl
 obtain ⟨q0,q1,q2,q3,q4,q5,q6,q7⟩:=h.row.eight.1
 clear h sw sa si hins hacts hB
 go_enter Tryz.func29,Tryz.ntmps29
 go_upto_region 2 with (fail)
 have b1:Below w.heap.size w (((w.alloc (.cells #[.pointer (some ⟨L,0,none⟩)] 53)).alloc (.cells (Array.replicate f.wires.length (.bool false)) 4)).alloc (.cells #[.slice (some ⟨w.heap.size+1,0,none⟩) f.wires.length f.wires.length] 109)):=bE
 have rL1:Row (((w.alloc (.cells #[.pointer (some ⟨L,0,none⟩)] 53)).alloc (.cells (Array.replicate f.wires.length (.bool false)) 4)).alloc (.cells #[.slice (some ⟨w.heap.size+1,0,none⟩) f.wires.length f.wires.length] 109)) w.heap.size #[.pointer (some ⟨L,0,none⟩)] 53:=((Row.new w _ _).alloc _).alloc _
 have rD1:Row (((w.alloc (.cells #[.pointer (some ⟨L,0,none⟩)] 53)).alloc (.cells (Array.replicate f.wires.length (.bool false)) 4)).alloc (.cells #[.slice (some ⟨w.heap.size+1,0,none⟩) f.wires.length f.wires.length] 109)) (w.heap.size+1) (bls (List.replicate f.wires.length false)).toArray 4:=by
  have:=(rowNew2 w (.cells #[.pointer (some ⟨L,0,none⟩)] 53) (Array.replicate f.wires.length (.bool false)) 4).alloc (.cells #[.slice (some ⟨w.heap.size+1,0,none⟩) f.wires.length f.wires.length] 109)
  simpa[bls] using this
 have rP1:Row (((w.alloc (.cells #[.pointer (some ⟨L,0,none⟩)] 53)).alloc (.cells (Array.replicate f.wires.length (.bool false)) 4)).alloc (.cells #[.slice (some ⟨w.heap.size+1,0,none⟩) f.wires.length f.wires.length] 109)) (w.heap.size+1+1) #[.slice (some ⟨w.heap.size+1,0,none⟩) f.wires.length f.wires.length] 109:=rowNew3 w _ _ _ _
 generalize ((w.alloc (.cells #[.pointer (some ⟨L,0,none⟩)] 53)).alloc (.cells (Array.replicate f.wires.length (.bool false)) 4)).alloc (.cells #[.slice (some ⟨w.heap.size+1,0,none⟩) f.wires.length f.wires.length] 109)=w1 at*
 generalize hD:w.heap.size+1=D at*
 generalize hP:D+1=P at*
 generalize hG:w.heap.size=G at*
 have hs1:=b1.size
 have hGD:G≠D:=by omega
 have hPD:P≠D:=by omega
 have hLD:L≠D:=by omega
 have hBD:B≤D:=by omega
 have hDlt:=rD1.lt
 have HN1:Hid (∀W,Upd (fun k=>k=D) w1 W→NkAt W B L f (.slice Aw f.wires.length cw) (.slice Aa f.acts.length ca) vc vk (.slice Ai f.ins.length ci) vo vb ve):=fun W hW=>((HN0.out w1 b1).updK hW (fun e=>hLD e.symm) hBD (by omega))
 have HP1:Hid (∀W,Upd (fun k=>k=D) w1 W→W.cell? ⟨G,0,none⟩=some (.pointer (some ⟨L,0,none⟩))∧W.cell? ⟨P,0,none⟩=some (.slice (some ⟨D,0,none⟩) f.wires.length f.wires.length)∧B≤W.heap.size):=fun W hW=>
  ⟨(hW.row rL1 hGD).cell 0,(hW.row rP1 hPD).cell 0,by have:=hW.size;omega⟩
 have HFIN:Hid (∀W,Upd (fun k=>k=D) w1 W→Below G w W):=fun W hW=>(b1.trans ((hW.below (B:=D) (fun k hk=>by omega) (by omega)).mono (by omega)))
 have HRD:=Lib.hid rD1
 clear rL1 rD1 rP1 b1 q0 q1 q2 q3 q4 q5 q6 q7 hs1 HN0 mk
 obtain ⟨x0,x1,x2⟩:=HP1.out _ (Upd.refl _ _)
 obtain ⟨q0,q1,q2,q3,q4,q5,q6,q7⟩:=(HN1.out _ (Upd.refl _ _)).row.eight.1
 go_wp2_with fail
 go_loopw[23] (fun i wr=>∃(k:Nat) (ds:List Bool),k≤f.ins.length∧i= .int .i64 k∧Hid (RowSt f ds∧∀j,j<k→∀n,f.ins[j]? =some n→bGet ds n=true)∧Row wr D (bls ds).toArray 4∧Upd (fun k=>k=D) w1 wr) (fun i _=>f.ins.length-(intOf i).toNat)
 case atStart=>exact ⟨0,List.replicate f.wires.length false,Nat.zero_le _,rfl,⟨row_start f,fun j hj=>absurd hj (by omega)⟩,HRD.out,Upd.refl _ _⟩
 case round=>
  clear x0 x1 x2 q0 q1 q2 q3 q4 q5 q6 q7
  obtain ⟨k,ds,hk,rfl,HS,rD,uD⟩:=hrel
  obtain ⟨x0,x1,x2⟩:=HP1.out _ uD
  have hN:=HN1.out _ uD
  have HDL:=Lib.hid HS.out.1.len
  by_cases hlt:k<f.ins.length
  ·obtain ⟨A',c',he,_,_,si⟩:=hN.fm.ins
   refine' zq217
   refine' zq282
   have HS':Hid (RowSt f (ds.set m true)∧∀j,j<k+1→∀n,f.ins[j]? =some n→bGet (ds.set m true) n=true):=by
    have hml:(m:Int)<ds.length:=by rw[HDL.out];exact hm'
    refine ⟨row_in HS.out.1 (List.mem_of_getElem? HX.out) HW.out,upto_succ (fun j hj n hn=>bGet_keep (n:=(m:Int)) (by omega) hml (HS.out.2 j hj n hn)) (fun n hn=>?_)⟩
    rw[HX.out] at hn
    injection hn with hn
    rw[←hn]
    have:=bGet_set (ds:=ds) (n:=(m:Int)) (c:=m) (by omega) hml
    rw[if_pos rfl] at this
    exact this
   generalize bGet ds (m:Int)=V at cD
   clear he2 he3 hx hw hN si rD
   go_wp2_with fail
   go_roundw
   case rel=>exact ⟨k+1,ds.set m true,by omega,by go_num,HS'.out,rD6.out,uD6.out⟩
   case measure=>simp[intOf];omega
  obtain rfl:k=f.ins.length:=by omega
  have HIN:=Lib.hid (RowIn.mk HS.out.1 (all_upto HS.out.2))
  have HRr:=Lib.hid rD
  have HUr:=Lib.hid uD
  clear hN rD uD HS x0 x1 x2
  go_wp2_with fail
  refine' zq177
  go_loopg [7] (notYet ds+1) (fun q u wr=>∃(ds:List Bool) (bb:Bool),u= .bool bb∧notYet ds+(if bb=true then 1 else 0)≤q∧Hid (RowIn f ds)∧Hid (bb=false→∀x∈f.acts,¬readyB f ds x)∧Row wr D (bls ds).toArray 4∧Upd (fun k=>k=D) w1 wr)
  case atStart=>exact ⟨ds,true,rfl,by simp,HIN.out,(fun h=>by cases h),HRr.out,HUr.out⟩
  case round=>
   clear HIN HRr HUr HDL
   obtain ⟨ds,bb,rfl,hq,HIN,HNR,rD,uD⟩:=hrel
   clear hlt
   obtain ⟨x0,x1,x2⟩:=HP1.out _ uD
   have HDL:=Lib.hid HIN.out.st.len
   cases bb
   ·have HE:=Lib.hid (row_end HIN.out.st HIN.out.ins (HNR.out rfl))
    have HC:Hid (Calls Tryz.prog 69 #[.slice (some ⟨D,0,none⟩) f.wires.length f.wires.length,.bool false] wr fun e w'=>e= .returned (.bool (cB (¬∀b∈ds,b=true)))∧wr=w'):=by
     have:=contains_bool (l:=ds) rD (by rw[HDL.out];exact HWL.out)
     rw[HDL.out] at this
     exact this
    have HQ:Hid (cB (rowOk f)= !(cB (¬∀b∈ds,b=true))):=by
     show _=_
     rw[cB_congr HE.out]
     by_cases c:∀b∈ds,b=true
     ·rw[cB_true c,cB_false (fun g=>g c)];rfl
     ·rw[cB_false c,cB_true c];rfl
    generalize cB (¬∀b∈ds,b=true)=V at*
    clear rD hq
    refine' zq59
    refine' zq185
    exact ⟨ret_bool HQ.out.symm,by rw[hG];exact HFIN.out _ uD⟩
   rw[if_pos rfl] at hq
   obtain ⟨q0,q1,q2,q3,q4,q5,q6,q7⟩:=(HN1.out _ uD).row.eight.1
   have HRr:=Lib.hid rD
   have HUr:=Lib.hid uD
   clear rD
   go_wp2_with fail
   clear x0 x1 x2 q0 q1 q2 q3 q4 q5 q6 q7
   go_loopw[7,39] (fun u i w3=>∃(j:Nat) (d2:List Bool) (b2:Bool),j≤f.acts.length∧u= .bool b2∧i= .int .i64 j∧Hid (RowIn f d2)∧Hid (b2=true→notYet d2<notYet ds)∧Hid (b2=false→d2=ds∧∀i,i<j→∀x,f.acts[i]? =some x→¬readyB f ds x)∧Row w3 D (bls d2).toArray 4∧Upd (fun k=>k=D) w1 w3) (fun _ i _=>f.acts.length-(intOf i).toNat)
   case atStart=>exact ⟨0,ds,false,Nat.zero_le _,rfl,rfl,HIN.out,(fun h=>by cases h),fun _=>⟨rfl,fun i hi=>absurd hi (by omega)⟩,HRr.out,HUr.out⟩
   case round=>
    clear HIN HRr HUr HDL uD
    obtain ⟨j,d2,b2,hj,rfl,rfl,HIN,HT,HF,rD,uD⟩:=hrel
    obtain ⟨x0,x1,x2⟩:=HP1.out _ uD
    have hN:=HN1.out _ uD
    have HDL:=Lib.hid HIN.out.st.len
    by_cases hlt:j<f.acts.length
    rotate_left 1
    ·refine' zq325
     clear hq x0 x1 x2 hN
     go_wp2_with fail
     go_roundg (notYet d2+(if b2=true then 1 else 0))
     case measure=>exact HM.out
     case rel=>exact ⟨d2,b2,rfl,Nat.le_refl _,HIN.out,HNR.out,rD,uD⟩
    obtain ⟨A',c',he,_,_,sa⟩:=hN.fm.acts
    injection he with he1 he2 he3
    subst he1
    obtain ⟨b,off,⟨xo,xd,xa,xb,xc,xk⟩,hAa,hbb,hx,wx,d0,d1,d2',d3,d4,d5⟩:=sa.ac hlt
    subst hAa
    have HX:=Lib.hid hx
    have hact:=HA.out _ (List.mem_of_getElem? hx)
    have HAC:=Lib.hid hact
    obtain ⟨m,rfl⟩:=Int.eq_ofNat_of_zero_le (show 0≤xd from hact.2.1.1)
    have hm:m<f.wires.length:=by have:=hact.2.1.2;dsimp only at this;omega
    refine' zq136
    clear he2 he3 hx hact hN sa rD
    refine' zq298
    clear d0 d1 d2' d3 d4 d5 x0 x1 x2
    obtain ⟨x0,x1,x2⟩:=HP1.out _ u4
    have HR:=Lib.hid (nready_any (HN1.out _ u4) x2 ⟨xo,(m:Int),xa,xb,xc,xk⟩ wx HAC.out.1 HAC.out.2.1 HAC.out.2.2.1 HAC.out.2.2.2 P G D d2 x1 x0 rD4 HDL.out)
    obtain ⟨c0,c1,c2,c3,c4,c5⟩:=r9.six'
    have hDl4:=rD4.lt
    have hg9l:=r9.lt
    have hgD:g9≠D:=by have:=uD.size;omega
    clear wx hg9
    by_cases hr:readyB f d2 ⟨xo,(m:Int),xa,xb,xc,xk⟩
    rotate_left 1
    ·have HF':Hid (b2=false→d2=ds∧∀i,i<j+1→∀x,f.acts[i]? =some x→¬readyB f ds x):=fun h=>by
      obtain ⟨e,g⟩:=HF.out h
      refine ⟨e,upto_succ g (fun y hy=>?_)⟩
      rw[HX.out] at hy
      injection hy with hy
      rw[←hy,←e]
      exact hr
     rw[cB_false hr] at HR
     refine' zq312
     go_wp2_with fail
     go_roundw
     case rel=>exact ⟨j+1,d2,b2,by omega,rfl,by go_num,HIN.out,HT.out,HF'.out,rD5,u5⟩
     case measure=>simp[intOf];omega
    have hml:(m:Int)<d2.length:=by rw[HDL.out];exact hm'
    have HIN':Hid (RowIn f (d2.set m true)):=⟨row_step HIN.out.st (List.mem_of_getElem? HX.out) HAC.out.2.1 HAC.out.2.2.1 HAC.out.2.2.2 hr,fun n hn=>bGet_keep (n:=(m:Int)) (by omega) hml (HIN.out.ins n hn)⟩
    have HT':Hid (notYet (d2.set m true)<notYet ds):=by
     show _<_
     have h1:=notYet_set (ds:=d2) (n:=(m:Int)) (by omega) hml hr.2.2
     simp only[Int.toNat_natCast] at h1
     cases b2
     ·have:=(HF.out rfl).1
      rw[this] at h1⊢
      exact h1
     ·have:=HT.out rfl
      omega
    rw[cB_true hr] at HR
    refine' zq312
    obtain ⟨c0,c1,c2,c3,c4,c5⟩:=(r9.below hb5 hg9l).six'
    obtain ⟨x0,x1,x2⟩:=HP1.out _ u5
    refine' zq257
    go_wp2_with fail
    go_roundw
    case rel=>exact ⟨j+1,d2.set m true,true,by omega,rfl,by go_num,HIN'.out,(fun _=>HT'.out),(fun h=>by cases h),rD6.out,uD6.out⟩
    case measure=>simp[intOf];omega
end Go.Proofs.YtckognjamlckcaaGreatDoor
