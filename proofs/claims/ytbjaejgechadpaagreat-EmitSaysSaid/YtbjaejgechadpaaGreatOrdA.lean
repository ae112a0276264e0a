/-
  order: what an act wants, with its clock.
-/
import Derived.Test.YtbjaejgechadpaaGreatNmD
import Derived.Test.YtbjaejgechadpaaGreatPlainA
import Derived.Test.YtbjaejgechadpaaGreatPgA
namespace Go.Proofs.YtbjaejgechadpaaGreat
open Go.RowKit Vf Fo
attribute [local go_sem ↓] Go.wp_at_zero Go.wp_at_succ
def wantsAll (f:Fm) (x:Ac):List Int:=wants x++(clockOf f x.dst).map (·.wire)
theorem cells_new (w:World) (t:TypeId) (l:List Value):∀j u,l[j]? =some u→(w.alloc (.cells l.toArray t)).cell? ((⟨w.heap.size,0,none⟩:Addr).add j)=some u:=by
 intro j u h
 rw[Addr.add_lit]
 have:=(Row.new w l.toArray t).cell (0+j)
 rw[this]
 simpa using h
theorem ints_flat (l:List Int):ints l=(l.map fun x=> [Value.int .i64 x]).flatten:=by
 induction l with
 |nil=>rfl
 |cons x l ih=>simp only[ints,List.map_cons,List.flatten_cons,List.singleton_append] at ih⊢;rw[ih]
theorem ownI {w:World} {base:Nat} {e:TypeId} {v:Value} {n:Nat} {l:List Int} (h:w.ownsRow base e 1 v n (ints l)) (hi:∀x∈l,Wf x):SlV w w.heap.size 1 isInt v l:=by
 rw[ints_flat] at h
 refine (own_sl (rel:=isInt) (l:=l) h ⟨by simp,fun i x cs hx hc=>?_⟩ (fun cs hcs=>?_) (by decide)).1
 ·simp only[List.getElem?_map,hx,Option.map_some,Option.some.injEq] at hc
  exact ⟨hc.symm,hi x (List.mem_of_getElem? hx)⟩
 ·obtain ⟨x,_,rfl⟩:=List.mem_map.1 hcs
  rfl
theorem fm_wire {w:World} {B:Nat} {f:Fm} {vw va vc vk vi vo:Value} (h:FmAt w B f vw va vc vk vi vo) {n:Int} (hn:isW f n):
  ∃(m:Nat) (b off cw:Nat) (Ag:Option Addr) (cg:Nat),n=m∧m<f.wires.length∧vw= .slice (some ⟨b,off,none⟩) f.wires.length cw∧f.wires.length≤cw∧cw≤9223372036854775807∧b<B∧Wf (tyOf f n)∧
   w.cell? ⟨b,off+m*2,none⟩=some (.int .i64 (tyOf f n))∧w.cell? ⟨b,off+m*2+1,none⟩=some (.slice Ag (clockOf f n).length cg)∧(clockOf f n).length≤cg∧cg≤maxLen∧Sl w B 2 isGd Ag (clockOf f n):=by
 obtain ⟨m,rfl⟩:=Int.eq_ofNat_of_zero_le hn.1
 have hm:m<f.wires.length:=by have:=hn.2;omega
 obtain ⟨A,cw,rfl,lw,mw,sw⟩:=h.wires
 obtain ⟨b,off,x,Ag,cg,rfl,hb,hx,wx,d0,d1,lg,mg,sg⟩:=sw.wr hm
 have e:wAt f m=x:=wAt_some hx
 unfold maxLen at mw
 refine ⟨m,b,off,cw,Ag,cg,rfl,hm,rfl,lw,by omega,hb,?_,?_,?_,?_,mg,?_⟩
 ·unfold tyOf;rw[e];exact wx
 ·unfold tyOf;rw[e];exact d0
 ·unfold clockOf;rw[e];exact d1
 ·unfold clockOf;rw[e];exact lg
 ·unfold clockOf;rw[e];exact sg
theorem ac_six {op dst a b c k:Int} {w:World} {g:Nat} {t:TypeId} (h:Row w g #[.int .i64 op,.int .i64 dst,.int .i64 a,.int .i64 b,.int .i64 c,.int .i64 k] t):
  w.cell? ⟨g,0,none⟩=some (.int .i64 op)∧w.cell? ⟨g,1,none⟩=some (.int .i64 dst)∧w.cell? ⟨g,2,none⟩=some (.int .i64 a)∧w.cell? ⟨g,3,none⟩=some (.int .i64 b)∧w.cell? ⟨g,4,none⟩=some (.int .i64 c)∧w.cell? ⟨g,5,none⟩=some (.int .i64 k):=
 ⟨h.cell 0,h.cell 1,h.cell 2,h.cell 3,h.cell 4,h.cell 5⟩
set_option maxRecDepth 100000 in
set_option maxHeartbeats 8000000 in
theorem owants_any {w:World} {B:Nat} {f:Fm} {vw va vc vk vi vo:Value} (h:FmAt w B f vw va vc vk vi vo) (hB:B≤w.heap.size) (x:Ac) (wx:AcIn x) (hu:0≤uses x.op) (hd:isW f x.dst) (hcl:(clockOf f x.dst).length≤1600):
  Calls Tryz.prog 76 #[fmV vw va vc vk vi vo,acV x] w fun e w'=>∃v,e= .returned v∧SlV w' w'.heap.size 1 isInt v (wantsAll f x)∧Below w.heap.size w w':=by
 obtain ⟨i0,hi0,hz0,hz1,hz2⟩:=info_parts info_int
 obtain ⟨m0,b6,off6,cw6,Ag6,cg6,hmd,hm,hvw,lw6,mw6,hb6,wt6,d0,d1,lg6,mg6,sg6⟩:=fm_wire h hd
 subst hvw
 have hgl:b6<w.heap.size:=by omega
 obtain ⟨op,dst,a,b,c,k⟩:=x
 dsimp only at*
 subst hmd
 have hm':(m0:Int)<f.wires.length:=by omega
 have hcg:cg6≤9223372036854775807:=by unfold maxLen at mg6;omega
 have HWF:Hid (∀n∈wantsAll f ⟨op,(m0:Int),a,b,c,k⟩,Wf n):=by
  intro n hn
  rcases List.mem_append.1 hn with hn|hn
  ·have hw:n=a∨n=b∨n=c:=by
    unfold wants at hn
    dsimp only at hn
    split at hn
    ·simp at hn
    ·split at hn
     ·simp at hn;exact .inl hn
     ·split at hn
      ·simp at hn;rcases hn with h|h<;>simp[h]
      ·simp at hn;exact hn
   rcases hw with rfl|rfl|rfl
   ·exact wx.a
   ·exact wx.b
   ·exact wx.c
  ·obtain ⟨g,hg,rfl⟩:=List.mem_map.1 hn
   obtain ⟨i,hi⟩:=List.getElem?_of_mem hg
   obtain ⟨_,_,g',_,_,hg',wg,_⟩:=sg6.gd (List.getElem?_eq_some_iff.1 hi).1
   rw[hi] at hg'
   injection hg' with hg'
   rw[hg'];exact wg
 generalize hw1:(w.alloc (.cells #[.slice (some ⟨b6,off6,none⟩) f.wires.length cw6,va,vc,vk,vi,vo] 28)).alloc (.cells #[.int .i64 op,.int .i64 (m0:Int),.int .i64 a,.int .i64 b,.int .i64 c,.int .i64 k] 56)=w1
 have b1:Below w.heap.size w w1:=by rw[←hw1];exact bE
 have rF:Row w1 w.heap.size #[.slice (some ⟨b6,off6,none⟩) f.wires.length cw6,va,vc,vk,vi,vo] 28:=by rw[←hw1];exact (Row.new w _ _).alloc _
 have rX:Row w1 (w.heap.size+1) #[.int .i64 op,.int .i64 (m0:Int),.int .i64 a,.int .i64 b,.int .i64 c,.int .i64 k] 56:=by rw[←hw1];exact rowNew2 w _ _ _
 have hs1:w1.heap.size=w.heap.size+1+1:=by rw[←hw1];simp
 have HD:Hid (∀W,Below w1.heap.size w1 W→W.cell? ⟨w.heap.size,0,none⟩=some (.slice (some ⟨b6,off6,none⟩) f.wires.length cw6)∧W.cell? ⟨w.heap.size+1,1,none⟩=some (.int .i64 (m0:Int))∧W.cell? ⟨b6,off6+m0*2+1,none⟩=some (.slice Ag6 (clockOf f m0).length cg6)):=fun W hW=>
  ⟨(rF.below hW rF.lt).cell 0,(rX.below hW rX.lt).cell 1,cell_kept d1 (b1.trans (hW.mono (by omega)))⟩
 have HGD:Hid (∀W,Below w1.heap.size w1 W→Sl W B 2 isGd Ag6 (clockOf f m0)):=fun W hW=>sg6.below ((b1.trans (hW.mono (by omega))).mono hB)
 have HFI:Hid (∀W v,Below w1.heap.size w1 W→W.ownsRow w1.heap.size 3 1 v (wantsAll f ⟨op,(m0:Int),a,b,c,k⟩).length (ints (wantsAll f ⟨op,(m0:Int),a,b,c,k⟩))→SlV W W.heap.size 1 isInt v (wantsAll f ⟨op,(m0:Int),a,b,c,k⟩)∧Below w.heap.size w W):=fun W v hW ho=>
  ⟨ownI ho HWF.out,b1.trans (hW.mono (by omega))⟩
 have HCL:=Lib.hid hcl
 obtain ⟨c0,c1,c2,c3,c4,c5⟩:=ac_six rX
 clear h wx hd d0 d1 sg6 wt6 HWF b1 rF rX hcl hs1
 have hcl16:(clockOf f m0).length≤1600:=HCL.out
 obtain ⟨y0,y1,y2⟩:=HD.out w1 (Below.refl _ _)
 generalize hlen:(clockOf f (m0:Int)).length=len at*
 have HLEN:=Lib.hid hlen
 clear hlen
 rcases uses_cases hu with hop|hop|hop|hop|hop|hop|hop|hop|hop
 ·have HW:Hid (wants ⟨op,(m0:Int),a,b,c,k⟩=[]):=by subst hop;rfl
  subst hop
  clear hu
  go_enter Tryz.func76,Tryz.ntmps76
  go_upto_region 1 with (fail)
  (try rw[hw1])
  clear hw1
  have hb2:Below w1.heap.size w1 w1:=Below.refl _ _
  have HO2:Hid (w1.ownsRow w1.heap.size 3 1 (.slice none 0 0) 0 (ints [])):=World.ownsRow_nil _ _ _ _
  go_wp2_with fail
  go_loopw[5,51] (fun v i wr=>∃j:Nat,j≤len∧i= .int .i64 j∧wr.ownsRow w1.heap.size 3 1 v (0+j) (ints ([]++((clockOf f m0).take j).map (·.wire)))∧Below w1.heap.size w1 wr) (fun _ i _=>len-(intOf i).toNat)
  case atStart=>exact ⟨0,Nat.zero_le _,rfl,HO2.out,hb2⟩
  case round=>
   clear HO2 hb2
   obtain ⟨j,hj,rfl,hown,hb⟩:=hrel
   have hsr:=hb.size
   by_cases hlt:j<len
   ·obtain ⟨bg,og,⟨gw,gn⟩,hAg,hbg,hgg,wg,e0,e1⟩:=(HGD.out _ hb).gd (k:=j) (by rw[HLEN.out];exact hlt)
    subst hAg
    dsimp only at e0 e1
    have HS:=Lib.hid (show ints ([]++((clockOf f m0).take (j+1)).map (·.wire))=ints ([]++((clockOf f m0).take j).map (·.wire))++ [.int .i64 gw] by
     rw[take_snoc' hgg,List.map_append,←List.append_assoc,List.map_singleton,ints_snoc])
    clear hgg
    generalize ints ([]++((clockOf f m0).take j).map (·.wire))=LL at*
    go_wp2_with (at_builtin;refine wpList_append_own _ rfl _ _ 26 rfl w1.heap.size 3 i0 (.int .i64 0) 1 8 Tryz.underlying26 hi0 hz0 hz1 hz2 rfl (by decide) _ _ _ rfl ((hown.alloc _).alloc _) ⟨wr.heap.size+1,0,none⟩ 1 1 [.int .i64 gw] rfl rfl ?d1x1 ?d1x2 ?d1x3 ?d1x4 ?d1x5 ?_)
    case d1x2=>first|rfl|(intro u hu;simp at hu;subst hu;rfl)
    case d1x3=>unfold maxLen;omega
    case d1x4=>omega
    case d1x5=>first|omega|(simp;omega)
    intro v' w3 hown1 hgrow _
    have HB:=Lib.hid (below_own ((hb.alloc hsr _).alloc (by simp;omega) _) ((hown.alloc _).alloc _) hgrow (by simp;omega))
    have HO:Hid (w3.ownsRow w1.heap.size 3 1 v' (0+(j+1)) (LL++ [Value.int IntKind.i64 gw])):=by first|exact hown1|(rw[Nat.zero_add];exact hown1)|(rw[←Nat.add_assoc];exact hown1)
    clear hown hown1 hgrow
    go_wp2_with fail
    go_roundw
    case rel=>exact ⟨j+1,by omega,by go_num,by rw[HS.out];exact HO.out,HB.out⟩
    case measure=>simp[intOf];omega
   ·obtain rfl:j=len:=by omega
    have HO:=Lib.hid hown
    have HB:=Lib.hid hb
    clear hown hb
    go_wp2_with fail
    go_ret
    refine ⟨_,rfl,HFI.out _ _ HB.out ?_⟩
    have:=HO.out
    rw[←HLEN.out,List.take_length] at this
    simpa[wantsAll,HW.out,Nat.add_comm] using this
 ·have HW:Hid (wants ⟨op,(m0:Int),a,b,c,k⟩=[]):=by subst hop;rfl
  subst hop
  clear hu
  go_enter Tryz.func76,Tryz.ntmps76
  go_upto_region 1 with (fail)
  (try rw[hw1])
  clear hw1
  have hb2:Below w1.heap.size w1 w1:=Below.refl _ _
  have HO2:Hid (w1.ownsRow w1.heap.size 3 1 (.slice none 0 0) 0 (ints [])):=World.ownsRow_nil _ _ _ _
  go_wp2_with fail
  go_loopw[5,51] (fun v i wr=>∃j:Nat,j≤len∧i= .int .i64 j∧wr.ownsRow w1.heap.size 3 1 v (0+j) (ints ([]++((clockOf f m0).take j).map (·.wire)))∧Below w1.heap.size w1 wr) (fun _ i _=>len-(intOf i).toNat)
  case atStart=>exact ⟨0,Nat.zero_le _,rfl,HO2.out,hb2⟩
  case round=>
   clear HO2 hb2
   obtain ⟨j,hj,rfl,hown,hb⟩:=hrel
   have hsr:=hb.size
   by_cases hlt:j<len
   ·obtain ⟨bg,og,⟨gw,gn⟩,hAg,hbg,hgg,wg,e0,e1⟩:=(HGD.out _ hb).gd (k:=j) (by rw[HLEN.out];exact hlt)
    subst hAg
    dsimp only at e0 e1
    have HS:=Lib.hid (show ints ([]++((clockOf f m0).take (j+1)).map (·.wire))=ints ([]++((clockOf f m0).take j).map (·.wire))++ [.int .i64 gw] by
     rw[take_snoc' hgg,List.map_append,←List.append_assoc,List.map_singleton,ints_snoc])
    clear hgg
    generalize ints ([]++((clockOf f m0).take j).map (·.wire))=LL at*
    go_wp2_with (at_builtin;refine wpList_append_own _ rfl _ _ 26 rfl w1.heap.size 3 i0 (.int .i64 0) 1 8 Tryz.underlying26 hi0 hz0 hz1 hz2 rfl (by decide) _ _ _ rfl ((hown.alloc _).alloc _) ⟨wr.heap.size+1,0,none⟩ 1 1 [.int .i64 gw] rfl rfl ?d2x1 ?d2x2 ?d2x3 ?d2x4 ?d2x5 ?_)
    case d2x2=>first|rfl|(intro u hu;simp at hu;subst hu;rfl)
    case d2x3=>unfold maxLen;omega
    case d2x4=>omega
    case d2x5=>first|omega|(simp;omega)
    intro v' w3 hown1 hgrow _
    have HB:=Lib.hid (below_own ((hb.alloc hsr _).alloc (by simp;omega) _) ((hown.alloc _).alloc _) hgrow (by simp;omega))
    have HO:Hid (w3.ownsRow w1.heap.size 3 1 v' (0+(j+1)) (LL++ [Value.int IntKind.i64 gw])):=by first|exact hown1|(rw[Nat.zero_add];exact hown1)|(rw[←Nat.add_assoc];exact hown1)
    clear hown hown1 hgrow
    go_wp2_with fail
    go_roundw
    case rel=>exact ⟨j+1,by omega,by go_num,by rw[HS.out];exact HO.out,HB.out⟩
    case measure=>simp[intOf];omega
   ·obtain rfl:j=len:=by omega
    have HO:=Lib.hid hown
    have HB:=Lib.hid hb
    clear hown hb
    go_wp2_with fail
    go_ret
    refine ⟨_,rfl,HFI.out _ _ HB.out ?_⟩
    have:=HO.out
    rw[←HLEN.out,List.take_length] at this
    simpa[wantsAll,HW.out,Nat.add_comm] using this
 ·have HW:Hid (wants ⟨op,(m0:Int),a,b,c,k⟩=[]):=by subst hop;rfl
  subst hop
  clear hu
  go_enter Tryz.func76,Tryz.ntmps76
  go_upto_region 1 with (fail)
  (try rw[hw1])
  clear hw1
  have hb2:Below w1.heap.size w1 w1:=Below.refl _ _
  have HO2:Hid (w1.ownsRow w1.heap.size 3 1 (.slice none 0 0) 0 (ints [])):=World.ownsRow_nil _ _ _ _
  go_wp2_with fail
  go_loopw[5,51] (fun v i wr=>∃j:Nat,j≤len∧i= .int .i64 j∧wr.ownsRow w1.heap.size 3 1 v (0+j) (ints ([]++((clockOf f m0).take j).map (·.wire)))∧Below w1.heap.size w1 wr) (fun _ i _=>len-(intOf i).toNat)
  case atStart=>exact ⟨0,Nat.zero_le _,rfl,HO2.out,hb2⟩
  case round=>
   clear HO2 hb2
   obtain ⟨j,hj,rfl,hown,hb⟩:=hrel
   have hsr:=hb.size
   by_cases hlt:j<len
   ·obtain ⟨bg,og,⟨gw,gn⟩,hAg,hbg,hgg,wg,e0,e1⟩:=(HGD.out _ hb).gd (k:=j) (by rw[HLEN.out];exact hlt)
    subst hAg
    dsimp only at e0 e1
    have HS:=Lib.hid (show ints ([]++((clockOf f m0).take (j+1)).map (·.wire))=ints ([]++((clockOf f m0).take j).map (·.wire))++ [.int .i64 gw] by
     rw[take_snoc' hgg,List.map_append,←List.append_assoc,List.map_singleton,ints_snoc])
    clear hgg
    generalize ints ([]++((clockOf f m0).take j).map (·.wire))=LL at*
    go_wp2_with (at_builtin;refine wpList_append_own _ rfl _ _ 26 rfl w1.heap.size 3 i0 (.int .i64 0) 1 8 Tryz.underlying26 hi0 hz0 hz1 hz2 rfl (by decide) _ _ _ rfl ((hown.alloc _).alloc _) ⟨wr.heap.size+1,0,none⟩ 1 1 [.int .i64 gw] rfl rfl ?d3x1 ?d3x2 ?d3x3 ?d3x4 ?d3x5 ?_)
    case d3x2=>first|rfl|(intro u hu;simp at hu;subst hu;rfl)
    case d3x3=>unfold maxLen;omega
    case d3x4=>omega
    case d3x5=>first|omega|(simp;omega)
    intro v' w3 hown1 hgrow _
    have HB:=Lib.hid (below_own ((hb.alloc hsr _).alloc (by simp;omega) _) ((hown.alloc _).alloc _) hgrow (by simp;omega))
    have HO:Hid (w3.ownsRow w1.heap.size 3 1 v' (0+(j+1)) (LL++ [Value.int IntKind.i64 gw])):=by first|exact hown1|(rw[Nat.zero_add];exact hown1)|(rw[←Nat.add_assoc];exact hown1)
    clear hown hown1 hgrow
    go_wp2_with fail
    go_roundw
    case rel=>exact ⟨j+1,by omega,by go_num,by rw[HS.out];exact HO.out,HB.out⟩
    case measure=>simp[intOf];omega
   ·obtain rfl:j=len:=by omega
    have HO:=Lib.hid hown
    have HB:=Lib.hid hb
    clear hown hb
    go_wp2_with fail
    go_ret
    refine ⟨_,rfl,HFI.out _ _ HB.out ?_⟩
    have:=HO.out
    rw[←HLEN.out,List.take_length] at this
    simpa[wantsAll,HW.out,Nat.add_comm] using this
 ·have HW:Hid (wants ⟨op,(m0:Int),a,b,c,k⟩=[a]):=by subst hop;rfl
  subst hop
  clear hu
  go_enter Tryz.func76,Tryz.ntmps76
  go_upto_region 1 with (fail)
  (try rw[hw1])
  clear hw1
  go_wp2_with (at_builtin;refine wpList_append_own _ rfl _ _ 26 rfl w1.heap.size 3 i0 (.int .i64 0) 1 8 Tryz.underlying26 hi0 hz0 hz1 hz2 rfl (by decide) _ _ _ rfl (World.ownsRow_nil _ _ _ _) ⟨w1.heap.size,0,none⟩ 1 1 [.int .i64 a] rfl rfl ?d4x1 ?d4x2 ?d4x3 ?d4x4 ?d4x5 ?_)
  case d4x1=>exact cells_new _ _ _
  case d4x2=>intro u hu;simp at hu;(first|(rcases hu with rfl|rfl|rfl<;>rfl)|(rcases hu with rfl|rfl<;>rfl)|(subst hu;rfl))
  case d4x3=>unfold maxLen;omega
  case d4x4=>omega
  case d4x5=>simp
  intro v0 w2 hown hgrow _
  have hb2:=below_own ((Below.refl w1.heap.size w1).alloc (Nat.le_refl _) _) (World.ownsRow_nil _ _ 3 1) hgrow (by simp)
  have HO2:Hid (w2.ownsRow w1.heap.size 3 1 v0 1 (ints [a])):=by exact hown
  clear hown hgrow
  obtain ⟨z0,z1,z2⟩:=HD.out w2 hb2
  go_wp2_with fail
  go_loopw[5,51] (fun v i wr=>∃j:Nat,j≤len∧i= .int .i64 j∧wr.ownsRow w1.heap.size 3 1 v (1+j) (ints ([a]++((clockOf f m0).take j).map (·.wire)))∧Below w1.heap.size w1 wr) (fun _ i _=>len-(intOf i).toNat)
  case atStart=>exact ⟨0,Nat.zero_le _,rfl,HO2.out,hb2⟩
  case round=>
   clear HO2 hb2
   obtain ⟨j,hj,rfl,hown,hb⟩:=hrel
   have hsr:=hb.size
   by_cases hlt:j<len
   ·obtain ⟨bg,og,⟨gw,gn⟩,hAg,hbg,hgg,wg,e0,e1⟩:=(HGD.out _ hb).gd (k:=j) (by rw[HLEN.out];exact hlt)
    subst hAg
    dsimp only at e0 e1
    have HS:=Lib.hid (show ints ([a]++((clockOf f m0).take (j+1)).map (·.wire))=ints ([a]++((clockOf f m0).take j).map (·.wire))++ [.int .i64 gw] by
     rw[take_snoc' hgg,List.map_append,←List.append_assoc,List.map_singleton,ints_snoc])
    clear hgg
    generalize ints ([a]++((clockOf f m0).take j).map (·.wire))=LL at*
    go_wp2_with (at_builtin;refine wpList_append_own _ rfl _ _ 26 rfl w1.heap.size 3 i0 (.int .i64 0) 1 8 Tryz.underlying26 hi0 hz0 hz1 hz2 rfl (by decide) _ _ _ rfl ((hown.alloc _).alloc _) ⟨wr.heap.size+1,0,none⟩ 1 1 [.int .i64 gw] rfl rfl ?d5x1 ?d5x2 ?d5x3 ?d5x4 ?d5x5 ?_)
    case d5x2=>first|rfl|(intro u hu;simp at hu;subst hu;rfl)
    case d5x3=>unfold maxLen;omega
    case d5x4=>omega
    case d5x5=>first|omega|(simp;omega)
    intro v' w3 hown1 hgrow _
    have HB:=Lib.hid (below_own ((hb.alloc hsr _).alloc (by simp;omega) _) ((hown.alloc _).alloc _) hgrow (by simp;omega))
    have HO:Hid (w3.ownsRow w1.heap.size 3 1 v' (1+(j+1)) (LL++ [Value.int IntKind.i64 gw])):=by first|exact hown1|(rw[Nat.zero_add];exact hown1)|(rw[←Nat.add_assoc];exact hown1)
    clear hown hown1 hgrow
    go_wp2_with fail
    go_roundw
    case rel=>exact ⟨j+1,by omega,by go_num,by rw[HS.out];exact HO.out,HB.out⟩
    case measure=>simp[intOf];omega
   ·obtain rfl:j=len:=by omega
    have HO:=Lib.hid hown
    have HB:=Lib.hid hb
    clear hown hb
    go_wp2_with fail
    go_ret
    refine ⟨_,rfl,HFI.out _ _ HB.out ?_⟩
    have:=HO.out
    rw[←HLEN.out,List.take_length] at this
    simpa[wantsAll,HW.out,Nat.add_comm] using this
 ·have HW:Hid (wants ⟨op,(m0:Int),a,b,c,k⟩=[a]):=by subst hop;rfl
  subst hop
  clear hu
  go_enter Tryz.func76,Tryz.ntmps76
  go_upto_region 1 with (fail)
  (try rw[hw1])
  clear hw1
  go_wp2_with (at_builtin;refine wpList_append_own _ rfl _ _ 26 rfl w1.heap.size 3 i0 (.int .i64 0) 1 8 Tryz.underlying26 hi0 hz0 hz1 hz2 rfl (by decide) _ _ _ rfl (World.ownsRow_nil _ _ _ _) ⟨w1.heap.size,0,none⟩ 1 1 [.int .i64 a] rfl rfl ?d6x1 ?d6x2 ?d6x3 ?d6x4 ?d6x5 ?_)
  case d6x1=>exact cells_new _ _ _
  case d6x2=>intro u hu;simp at hu;(first|(rcases hu with rfl|rfl|rfl<;>rfl)|(rcases hu with rfl|rfl<;>rfl)|(subst hu;rfl))
  case d6x3=>unfold maxLen;omega
  case d6x4=>omega
  case d6x5=>simp
  intro v0 w2 hown hgrow _
  have hb2:=below_own ((Below.refl w1.heap.size w1).alloc (Nat.le_refl _) _) (World.ownsRow_nil _ _ 3 1) hgrow (by simp)
  have HO2:Hid (w2.ownsRow w1.heap.size 3 1 v0 1 (ints [a])):=by exact hown
  clear hown hgrow
  obtain ⟨z0,z1,z2⟩:=HD.out w2 hb2
  go_wp2_with fail
  go_loopw[5,51] (fun v i wr=>∃j:Nat,j≤len∧i= .int .i64 j∧wr.ownsRow w1.heap.size 3 1 v (1+j) (ints ([a]++((clockOf f m0).take j).map (·.wire)))∧Below w1.heap.size w1 wr) (fun _ i _=>len-(intOf i).toNat)
  case atStart=>exact ⟨0,Nat.zero_le _,rfl,HO2.out,hb2⟩
  case round=>
   clear HO2 hb2
   obtain ⟨j,hj,rfl,hown,hb⟩:=hrel
   have hsr:=hb.size
   by_cases hlt:j<len
   ·obtain ⟨bg,og,⟨gw,gn⟩,hAg,hbg,hgg,wg,e0,e1⟩:=(HGD.out _ hb).gd (k:=j) (by rw[HLEN.out];exact hlt)
    subst hAg
    dsimp only at e0 e1
    have HS:=Lib.hid (show ints ([a]++((clockOf f m0).take (j+1)).map (·.wire))=ints ([a]++((clockOf f m0).take j).map (·.wire))++ [.int .i64 gw] by
     rw[take_snoc' hgg,List.map_append,←List.append_assoc,List.map_singleton,ints_snoc])
    clear hgg
    generalize ints ([a]++((clockOf f m0).take j).map (·.wire))=LL at*
    go_wp2_with (at_builtin;refine wpList_append_own _ rfl _ _ 26 rfl w1.heap.size 3 i0 (.int .i64 0) 1 8 Tryz.underlying26 hi0 hz0 hz1 hz2 rfl (by decide) _ _ _ rfl ((hown.alloc _).alloc _) ⟨wr.heap.size+1,0,none⟩ 1 1 [.int .i64 gw] rfl rfl ?d7x1 ?d7x2 ?d7x3 ?d7x4 ?d7x5 ?_)
    case d7x2=>first|rfl|(intro u hu;simp at hu;subst hu;rfl)
    case d7x3=>unfold maxLen;omega
    case d7x4=>omega
    case d7x5=>first|omega|(simp;omega)
    intro v' w3 hown1 hgrow _
    have HB:=Lib.hid (below_own ((hb.alloc hsr _).alloc (by simp;omega) _) ((hown.alloc _).alloc _) hgrow (by simp;omega))
    have HO:Hid (w3.ownsRow w1.heap.size 3 1 v' (1+(j+1)) (LL++ [Value.int IntKind.i64 gw])):=by first|exact hown1|(rw[Nat.zero_add];exact hown1)|(rw[←Nat.add_assoc];exact hown1)
    clear hown hown1 hgrow
    go_wp2_with fail
    go_roundw
    case rel=>exact ⟨j+1,by omega,by go_num,by rw[HS.out];exact HO.out,HB.out⟩
    case measure=>simp[intOf];omega
   ·obtain rfl:j=len:=by omega
    have HO:=Lib.hid hown
    have HB:=Lib.hid hb
    clear hown hb
    go_wp2_with fail
    go_ret
    refine ⟨_,rfl,HFI.out _ _ HB.out ?_⟩
    have:=HO.out
    rw[←HLEN.out,List.take_length] at this
    simpa[wantsAll,HW.out,Nat.add_comm] using this
 ·have HW:Hid (wants ⟨op,(m0:Int),a,b,c,k⟩=[a,b,c]):=by subst hop;rfl
  subst hop
  clear hu
  go_enter Tryz.func76,Tryz.ntmps76
  go_upto_region 1 with (fail)
  (try rw[hw1])
  clear hw1
  go_wp2_with (at_builtin;refine wpList_append_own _ rfl _ _ 26 rfl w1.heap.size 3 i0 (.int .i64 0) 1 8 Tryz.underlying26 hi0 hz0 hz1 hz2 rfl (by decide) _ _ _ rfl (World.ownsRow_nil _ _ _ _) ⟨w1.heap.size,0,none⟩ 3 3 [.int .i64 a,.int .i64 b,.int .i64 c] rfl rfl ?d8x1 ?d8x2 ?d8x3 ?d8x4 ?d8x5 ?_)
  case d8x1=>exact cells_new _ _ _
  case d8x2=>intro u hu;simp at hu;(first|(rcases hu with rfl|rfl|rfl<;>rfl)|(rcases hu with rfl|rfl<;>rfl)|(subst hu;rfl))
  case d8x3=>unfold maxLen;omega
  case d8x4=>omega
  case d8x5=>simp
  intro v0 w2 hown hgrow _
  have hb2:=below_own ((Below.refl w1.heap.size w1).alloc (Nat.le_refl _) _) (World.ownsRow_nil _ _ 3 1) hgrow (by simp)
  have HO2:Hid (w2.ownsRow w1.heap.size 3 1 v0 3 (ints [a,b,c])):=by exact hown
  clear hown hgrow
  obtain ⟨z0,z1,z2⟩:=HD.out w2 hb2
  go_wp2_with fail
  go_loopw[5,51] (fun v i wr=>∃j:Nat,j≤len∧i= .int .i64 j∧wr.ownsRow w1.heap.size 3 1 v (3+j) (ints ([a,b,c]++((clockOf f m0).take j).map (·.wire)))∧Below w1.heap.size w1 wr) (fun _ i _=>len-(intOf i).toNat)
  case atStart=>exact ⟨0,Nat.zero_le _,rfl,HO2.out,hb2⟩
  case round=>
   clear HO2 hb2
   obtain ⟨j,hj,rfl,hown,hb⟩:=hrel
   have hsr:=hb.size
   by_cases hlt:j<len
   ·obtain ⟨bg,og,⟨gw,gn⟩,hAg,hbg,hgg,wg,e0,e1⟩:=(HGD.out _ hb).gd (k:=j) (by rw[HLEN.out];exact hlt)
    subst hAg
    dsimp only at e0 e1
    have HS:=Lib.hid (show ints ([a,b,c]++((clockOf f m0).take (j+1)).map (·.wire))=ints ([a,b,c]++((clockOf f m0).take j).map (·.wire))++ [.int .i64 gw] by
     rw[take_snoc' hgg,List.map_append,←List.append_assoc,List.map_singleton,ints_snoc])
    clear hgg
    generalize ints ([a,b,c]++((clockOf f m0).take j).map (·.wire))=LL at*
    go_wp2_with (at_builtin;refine wpList_append_own _ rfl _ _ 26 rfl w1.heap.size 3 i0 (.int .i64 0) 1 8 Tryz.underlying26 hi0 hz0 hz1 hz2 rfl (by decide) _ _ _ rfl ((hown.alloc _).alloc _) ⟨wr.heap.size+1,0,none⟩ 1 1 [.int .i64 gw] rfl rfl ?d9x1 ?d9x2 ?d9x3 ?d9x4 ?d9x5 ?_)
    case d9x2=>first|rfl|(intro u hu;simp at hu;subst hu;rfl)
    case d9x3=>unfold maxLen;omega
    case d9x4=>omega
    case d9x5=>first|omega|(simp;omega)
    intro v' w3 hown1 hgrow _
    have HB:=Lib.hid (below_own ((hb.alloc hsr _).alloc (by simp;omega) _) ((hown.alloc _).alloc _) hgrow (by simp;omega))
    have HO:Hid (w3.ownsRow w1.heap.size 3 1 v' (3+(j+1)) (LL++ [Value.int IntKind.i64 gw])):=by first|exact hown1|(rw[Nat.zero_add];exact hown1)|(rw[←Nat.add_assoc];exact hown1)
    clear hown hown1 hgrow
    go_wp2_with fail
    go_roundw
    case rel=>exact ⟨j+1,by omega,by go_num,by rw[HS.out];exact HO.out,HB.out⟩
    case measure=>simp[intOf];omega
   ·obtain rfl:j=len:=by omega
    have HO:=Lib.hid hown
    have HB:=Lib.hid hb
    clear hown hb
    go_wp2_with fail
    go_ret
    refine ⟨_,rfl,HFI.out _ _ HB.out ?_⟩
    have:=HO.out
    rw[←HLEN.out,List.take_length] at this
    rw[show wantsAll f ⟨_,(m0:Int),a,b,c,k⟩=[a,b,c]++(clockOf f m0).map (·.wire) from by rw[wantsAll,HW.out],show ([a,b,c]++(clockOf f m0).map (·.wire)).length=3+(clockOf f m0).length by simp;omega]
    exact this
 ·have HW:Hid (wants ⟨op,(m0:Int),a,b,c,k⟩=[a,b,c]):=by subst hop;rfl
  subst hop
  clear hu
  go_enter Tryz.func76,Tryz.ntmps76
  go_upto_region 1 with (fail)
  (try rw[hw1])
  clear hw1
  go_wp2_with (at_builtin;refine wpList_append_own _ rfl _ _ 26 rfl w1.heap.size 3 i0 (.int .i64 0) 1 8 Tryz.underlying26 hi0 hz0 hz1 hz2 rfl (by decide) _ _ _ rfl (World.ownsRow_nil _ _ _ _) ⟨w1.heap.size,0,none⟩ 3 3 [.int .i64 a,.int .i64 b,.int .i64 c] rfl rfl ?d10x1 ?d10x2 ?d10x3 ?d10x4 ?d10x5 ?_)
  case d10x1=>exact cells_new _ _ _
  case d10x2=>intro u hu;simp at hu;(first|(rcases hu with rfl|rfl|rfl<;>rfl)|(rcases hu with rfl|rfl<;>rfl)|(subst hu;rfl))
  case d10x3=>unfold maxLen;omega
  case d10x4=>omega
  case d10x5=>simp
  intro v0 w2 hown hgrow _
  have hb2:=below_own ((Below.refl w1.heap.size w1).alloc (Nat.le_refl _) _) (World.ownsRow_nil _ _ 3 1) hgrow (by simp)
  have HO2:Hid (w2.ownsRow w1.heap.size 3 1 v0 3 (ints [a,b,c])):=by exact hown
  clear hown hgrow
  obtain ⟨z0,z1,z2⟩:=HD.out w2 hb2
  go_wp2_with fail
  go_loopw[5,51] (fun v i wr=>∃j:Nat,j≤len∧i= .int .i64 j∧wr.ownsRow w1.heap.size 3 1 v (3+j) (ints ([a,b,c]++((clockOf f m0).take j).map (·.wire)))∧Below w1.heap.size w1 wr) (fun _ i _=>len-(intOf i).toNat)
  case atStart=>exact ⟨0,Nat.zero_le _,rfl,HO2.out,hb2⟩
  case round=>
   clear HO2 hb2
   obtain ⟨j,hj,rfl,hown,hb⟩:=hrel
   have hsr:=hb.size
   by_cases hlt:j<len
   ·obtain ⟨bg,og,⟨gw,gn⟩,hAg,hbg,hgg,wg,e0,e1⟩:=(HGD.out _ hb).gd (k:=j) (by rw[HLEN.out];exact hlt)
    subst hAg
    dsimp only at e0 e1
    have HS:=Lib.hid (show ints ([a,b,c]++((clockOf f m0).take (j+1)).map (·.wire))=ints ([a,b,c]++((clockOf f m0).take j).map (·.wire))++ [.int .i64 gw] by
     rw[take_snoc' hgg,List.map_append,←List.append_assoc,List.map_singleton,ints_snoc])
    clear hgg
    generalize ints ([a,b,c]++((clockOf f m0).take j).map (·.wire))=LL at*
    go_wp2_with (at_builtin;refine wpList_append_own _ rfl _ _ 26 rfl w1.heap.size 3 i0 (.int .i64 0) 1 8 Tryz.underlying26 hi0 hz0 hz1 hz2 rfl (by decide) _ _ _ rfl ((hown.alloc _).alloc _) ⟨wr.heap.size+1,0,none⟩ 1 1 [.int .i64 gw] rfl rfl ?d11x1 ?d11x2 ?d11x3 ?d11x4 ?d11x5 ?_)
    case d11x2=>first|rfl|(intro u hu;simp at hu;subst hu;rfl)
    case d11x3=>unfold maxLen;omega
    case d11x4=>omega
    case d11x5=>first|omega|(simp;omega)
    intro v' w3 hown1 hgrow _
    have HB:=Lib.hid (below_own ((hb.alloc hsr _).alloc (by simp;omega) _) ((hown.alloc _).alloc _) hgrow (by simp;omega))
    have HO:Hid (w3.ownsRow w1.heap.size 3 1 v' (3+(j+1)) (LL++ [Value.int IntKind.i64 gw])):=by first|exact hown1|(rw[Nat.zero_add];exact hown1)|(rw[←Nat.add_assoc];exact hown1)
    clear hown hown1 hgrow
    go_wp2_with fail
    go_roundw
    case rel=>exact ⟨j+1,by omega,by go_num,by rw[HS.out];exact HO.out,HB.out⟩
    case measure=>simp[intOf];omega
   ·obtain rfl:j=len:=by omega
    have HO:=Lib.hid hown
    have HB:=Lib.hid hb
    clear hown hb
    go_wp2_with fail
    go_ret
    refine ⟨_,rfl,HFI.out _ _ HB.out ?_⟩
    have:=HO.out
    rw[←HLEN.out,List.take_length] at this
    rw[show wantsAll f ⟨_,(m0:Int),a,b,c,k⟩=[a,b,c]++(clockOf f m0).map (·.wire) from by rw[wantsAll,HW.out],show ([a,b,c]++(clockOf f m0).map (·.wire)).length=3+(clockOf f m0).length by simp;omega]
    exact this
 ·have HW:Hid (wants ⟨op,(m0:Int),a,b,c,k⟩=[a]):=by have h1:uses op=1:=(by unfold uses;rw[if_neg (by omega),if_pos (by omega)]);show _=_;simp[wants,h1]
  have o5:(op==5)=true∨((op==5)=false∧(op==6)=true):=by rcases (by omega:op=5∨op=6) with rfl|rfl<;>simp
  have o1:(op==1)=false:=by rw[beq_eq_false_iff_ne];omega
  have o2:(op==2)=false:=by rw[beq_eq_false_iff_ne];omega
  have o3:(op==3)=false:=by rw[beq_eq_false_iff_ne];omega
  have o21:(op==21)=false:=by rw[beq_eq_false_iff_ne];omega
  clear hu hop
  rcases o5 with o5|⟨o5,o6⟩
  ·go_enter Tryz.func76,Tryz.ntmps76
   go_upto_region 1 with (fail)
   (try rw[hw1])
   clear hw1
   go_wp2_with (at_builtin;refine wpList_append_own _ rfl _ _ 26 rfl w1.heap.size 3 i0 (.int .i64 0) 1 8 Tryz.underlying26 hi0 hz0 hz1 hz2 rfl (by decide) _ _ _ rfl (World.ownsRow_nil _ _ _ _) ⟨w1.heap.size,0,none⟩ 1 1 [.int .i64 a] rfl rfl ?d12x1 ?d12x2 ?d12x3 ?d12x4 ?d12x5 ?_)
   case d12x1=>exact cells_new _ _ _
   case d12x2=>intro u hu;simp at hu;(first|(rcases hu with rfl|rfl|rfl<;>rfl)|(rcases hu with rfl|rfl<;>rfl)|(subst hu;rfl))
   case d12x3=>unfold maxLen;omega
   case d12x4=>omega
   case d12x5=>simp
   intro v0 w2 hown hgrow _
   have hb2:=below_own ((Below.refl w1.heap.size w1).alloc (Nat.le_refl _) _) (World.ownsRow_nil _ _ 3 1) hgrow (by simp)
   have HO2:Hid (w2.ownsRow w1.heap.size 3 1 v0 1 (ints [a])):=by exact hown
   clear hown hgrow
   obtain ⟨z0,z1,z2⟩:=HD.out w2 hb2
   go_wp2_with fail
   go_loopw[5,51] (fun v i wr=>∃j:Nat,j≤len∧i= .int .i64 j∧wr.ownsRow w1.heap.size 3 1 v (1+j) (ints ([a]++((clockOf f m0).take j).map (·.wire)))∧Below w1.heap.size w1 wr) (fun _ i _=>len-(intOf i).toNat)
   case atStart=>exact ⟨0,Nat.zero_le _,rfl,HO2.out,hb2⟩
   case round=>
    clear HO2 hb2
    obtain ⟨j,hj,rfl,hown,hb⟩:=hrel
    have hsr:=hb.size
    by_cases hlt:j<len
    ·obtain ⟨bg,og,⟨gw,gn⟩,hAg,hbg,hgg,wg,e0,e1⟩:=(HGD.out _ hb).gd (k:=j) (by rw[HLEN.out];exact hlt)
     subst hAg
     dsimp only at e0 e1
     have HS:=Lib.hid (show ints ([a]++((clockOf f m0).take (j+1)).map (·.wire))=ints ([a]++((clockOf f m0).take j).map (·.wire))++ [.int .i64 gw] by
      rw[take_snoc' hgg,List.map_append,←List.append_assoc,List.map_singleton,ints_snoc])
     clear hgg
     generalize ints ([a]++((clockOf f m0).take j).map (·.wire))=LL at*
     go_wp2_with (at_builtin;refine wpList_append_own _ rfl _ _ 26 rfl w1.heap.size 3 i0 (.int .i64 0) 1 8 Tryz.underlying26 hi0 hz0 hz1 hz2 rfl (by decide) _ _ _ rfl ((hown.alloc _).alloc _) ⟨wr.heap.size+1,0,none⟩ 1 1 [.int .i64 gw] rfl rfl ?d13x1 ?d13x2 ?d13x3 ?d13x4 ?d13x5 ?_)
     case d13x2=>first|rfl|(intro u hu;simp at hu;subst hu;rfl)
     case d13x3=>unfold maxLen;omega
     case d13x4=>omega
     case d13x5=>first|omega|(simp;omega)
     intro v' w3 hown1 hgrow _
     have HB:=Lib.hid (below_own ((hb.alloc hsr _).alloc (by simp;omega) _) ((hown.alloc _).alloc _) hgrow (by simp;omega))
     have HO:Hid (w3.ownsRow w1.heap.size 3 1 v' (1+(j+1)) (LL++ [Value.int IntKind.i64 gw])):=by first|exact hown1|(rw[Nat.zero_add];exact hown1)|(rw[←Nat.add_assoc];exact hown1)
     clear hown hown1 hgrow
     go_wp2_with fail
     go_roundw
     case rel=>exact ⟨j+1,by omega,by go_num,by rw[HS.out];exact HO.out,HB.out⟩
     case measure=>simp[intOf];omega
    ·obtain rfl:j=len:=by omega
     have HO:=Lib.hid hown
     have HB:=Lib.hid hb
     clear hown hb
     go_wp2_with fail
     go_ret
     refine ⟨_,rfl,HFI.out _ _ HB.out ?_⟩
     have:=HO.out
     rw[←HLEN.out,List.take_length] at this
     simpa[wantsAll,HW.out,Nat.add_comm] using this
  ·go_enter Tryz.func76,Tryz.ntmps76
   go_upto_region 1 with (fail)
   (try rw[hw1])
   clear hw1
   go_wp2_with (at_builtin;refine wpList_append_own _ rfl _ _ 26 rfl w1.heap.size 3 i0 (.int .i64 0) 1 8 Tryz.underlying26 hi0 hz0 hz1 hz2 rfl (by decide) _ _ _ rfl (World.ownsRow_nil _ _ _ _) ⟨w1.heap.size,0,none⟩ 1 1 [.int .i64 a] rfl rfl ?e12x1 ?e12x2 ?e12x3 ?e12x4 ?e12x5 ?_)
   case e12x1=>exact cells_new _ _ _
   case e12x2=>intro u hu;simp at hu;(first|(rcases hu with rfl|rfl|rfl<;>rfl)|(rcases hu with rfl|rfl<;>rfl)|(subst hu;rfl))
   case e12x3=>unfold maxLen;omega
   case e12x4=>omega
   case e12x5=>simp
   intro v0 w2 hown hgrow _
   have hb2:=below_own ((Below.refl w1.heap.size w1).alloc (Nat.le_refl _) _) (World.ownsRow_nil _ _ 3 1) hgrow (by simp)
   have HO2:Hid (w2.ownsRow w1.heap.size 3 1 v0 1 (ints [a])):=by exact hown
   clear hown hgrow
   obtain ⟨z0,z1,z2⟩:=HD.out w2 hb2
   go_wp2_with fail
   go_loopw[5,51] (fun v i wr=>∃j:Nat,j≤len∧i= .int .i64 j∧wr.ownsRow w1.heap.size 3 1 v (1+j) (ints ([a]++((clockOf f m0).take j).map (·.wire)))∧Below w1.heap.size w1 wr) (fun _ i _=>len-(intOf i).toNat)
   case atStart=>exact ⟨0,Nat.zero_le _,rfl,HO2.out,hb2⟩
   case round=>
    clear HO2 hb2
    obtain ⟨j,hj,rfl,hown,hb⟩:=hrel
    have hsr:=hb.size
    by_cases hlt:j<len
    ·obtain ⟨bg,og,⟨gw,gn⟩,hAg,hbg,hgg,wg,e0,e1⟩:=(HGD.out _ hb).gd (k:=j) (by rw[HLEN.out];exact hlt)
     subst hAg
     dsimp only at e0 e1
     have HS:=Lib.hid (show ints ([a]++((clockOf f m0).take (j+1)).map (·.wire))=ints ([a]++((clockOf f m0).take j).map (·.wire))++ [.int .i64 gw] by
      rw[take_snoc' hgg,List.map_append,←List.append_assoc,List.map_singleton,ints_snoc])
     clear hgg
     generalize ints ([a]++((clockOf f m0).take j).map (·.wire))=LL at*
     go_wp2_with (at_builtin;refine wpList_append_own _ rfl _ _ 26 rfl w1.heap.size 3 i0 (.int .i64 0) 1 8 Tryz.underlying26 hi0 hz0 hz1 hz2 rfl (by decide) _ _ _ rfl ((hown.alloc _).alloc _) ⟨wr.heap.size+1,0,none⟩ 1 1 [.int .i64 gw] rfl rfl ?e13x1 ?e13x2 ?e13x3 ?e13x4 ?e13x5 ?_)
     case e13x2=>first|rfl|(intro u hu;simp at hu;subst hu;rfl)
     case e13x3=>unfold maxLen;omega
     case e13x4=>omega
     case e13x5=>first|omega|(simp;omega)
     intro v' w3 hown1 hgrow _
     have HB:=Lib.hid (below_own ((hb.alloc hsr _).alloc (by simp;omega) _) ((hown.alloc _).alloc _) hgrow (by simp;omega))
     have HO:Hid (w3.ownsRow w1.heap.size 3 1 v' (1+(j+1)) (LL++ [Value.int IntKind.i64 gw])):=by first|exact hown1|(rw[Nat.zero_add];exact hown1)|(rw[←Nat.add_assoc];exact hown1)
     clear hown hown1 hgrow
     go_wp2_with fail
     go_roundw
     case rel=>exact ⟨j+1,by omega,by go_num,by rw[HS.out];exact HO.out,HB.out⟩
     case measure=>simp[intOf];omega
    ·obtain rfl:j=len:=by omega
     have HO:=Lib.hid hown
     have HB:=Lib.hid hb
     clear hown hb
     go_wp2_with fail
     go_ret
     refine ⟨_,rfl,HFI.out _ _ HB.out ?_⟩
     have:=HO.out
     rw[←HLEN.out,List.take_length] at this
     simpa[wantsAll,HW.out,Nat.add_comm] using this
 ·have HW:Hid (wants ⟨op,(m0:Int),a,b,c,k⟩=[a,b]):=by have h1:uses op=2:=(by unfold uses;rw[if_neg (by omega),if_neg (by omega),if_pos (by omega)]);show _=_;simp[wants,h1]
  have o1:(op==1)=false:=by rw[beq_eq_false_iff_ne];omega
  have o2:(op==2)=false:=by rw[beq_eq_false_iff_ne];omega
  have o3:(op==3)=false:=by rw[beq_eq_false_iff_ne];omega
  have o5:(op==5)=false:=by rw[beq_eq_false_iff_ne];omega
  have o6:(op==6)=false:=by rw[beq_eq_false_iff_ne];omega
  have o21:(op==21)=false:=by rw[beq_eq_false_iff_ne];omega
  have o24:(op==24)=false:=by rw[beq_eq_false_iff_ne];omega
  have o26:(op==26)=false:=by rw[beq_eq_false_iff_ne];omega
  have o27:(op==27)=false:=by rw[beq_eq_false_iff_ne];omega
  clear hu hop
  go_enter Tryz.func76,Tryz.ntmps76
  go_upto_region 1 with (fail)
  (try rw[hw1])
  clear hw1
  go_wp2_with (at_builtin;refine wpList_append_own _ rfl _ _ 26 rfl w1.heap.size 3 i0 (.int .i64 0) 1 8 Tryz.underlying26 hi0 hz0 hz1 hz2 rfl (by decide) _ _ _ rfl (World.ownsRow_nil _ _ _ _) ⟨w1.heap.size,0,none⟩ 2 2 [.int .i64 a,.int .i64 b] rfl rfl ?d14x1 ?d14x2 ?d14x3 ?d14x4 ?d14x5 ?_)
  case d14x1=>exact cells_new _ _ _
  case d14x2=>intro u hu;simp at hu;(first|(rcases hu with rfl|rfl|rfl<;>rfl)|(rcases hu with rfl|rfl<;>rfl)|(subst hu;rfl))
  case d14x3=>unfold maxLen;omega
  case d14x4=>omega
  case d14x5=>simp
  intro v0 w2 hown hgrow _
  have hb2:=below_own ((Below.refl w1.heap.size w1).alloc (Nat.le_refl _) _) (World.ownsRow_nil _ _ 3 1) hgrow (by simp)
  have HO2:Hid (w2.ownsRow w1.heap.size 3 1 v0 2 (ints [a,b])):=by exact hown
  clear hown hgrow
  obtain ⟨z0,z1,z2⟩:=HD.out w2 hb2
  go_wp2_with fail
  go_loopw[5,51] (fun v i wr=>∃j:Nat,j≤len∧i= .int .i64 j∧wr.ownsRow w1.heap.size 3 1 v (2+j) (ints ([a,b]++((clockOf f m0).take j).map (·.wire)))∧Below w1.heap.size w1 wr) (fun _ i _=>len-(intOf i).toNat)
  case atStart=>exact ⟨0,Nat.zero_le _,rfl,HO2.out,hb2⟩
  case round=>
   clear HO2 hb2
   obtain ⟨j,hj,rfl,hown,hb⟩:=hrel
   have hsr:=hb.size
   by_cases hlt:j<len
   ·obtain ⟨bg,og,⟨gw,gn⟩,hAg,hbg,hgg,wg,e0,e1⟩:=(HGD.out _ hb).gd (k:=j) (by rw[HLEN.out];exact hlt)
    subst hAg
    dsimp only at e0 e1
    have HS:=Lib.hid (show ints ([a,b]++((clockOf f m0).take (j+1)).map (·.wire))=ints ([a,b]++((clockOf f m0).take j).map (·.wire))++ [.int .i64 gw] by
     rw[take_snoc' hgg,List.map_append,←List.append_assoc,List.map_singleton,ints_snoc])
    clear hgg
    generalize ints ([a,b]++((clockOf f m0).take j).map (·.wire))=LL at*
    go_wp2_with (at_builtin;refine wpList_append_own _ rfl _ _ 26 rfl w1.heap.size 3 i0 (.int .i64 0) 1 8 Tryz.underlying26 hi0 hz0 hz1 hz2 rfl (by decide) _ _ _ rfl ((hown.alloc _).alloc _) ⟨wr.heap.size+1,0,none⟩ 1 1 [.int .i64 gw] rfl rfl ?d15x1 ?d15x2 ?d15x3 ?d15x4 ?d15x5 ?_)
    case d15x2=>first|rfl|(intro u hu;simp at hu;subst hu;rfl)
    case d15x3=>unfold maxLen;omega
    case d15x4=>omega
    case d15x5=>first|omega|(simp;omega)
    intro v' w3 hown1 hgrow _
    have HB:=Lib.hid (below_own ((hb.alloc hsr _).alloc (by simp;omega) _) ((hown.alloc _).alloc _) hgrow (by simp;omega))
    have HO:Hid (w3.ownsRow w1.heap.size 3 1 v' (2+(j+1)) (LL++ [Value.int IntKind.i64 gw])):=by first|exact hown1|(rw[Nat.zero_add];exact hown1)|(rw[←Nat.add_assoc];exact hown1)
    clear hown hown1 hgrow
    go_wp2_with fail
    go_roundw
    case rel=>exact ⟨j+1,by omega,by go_num,by rw[HS.out];exact HO.out,HB.out⟩
    case measure=>simp[intOf];omega
   ·obtain rfl:j=len:=by omega
    have HO:=Lib.hid hown
    have HB:=Lib.hid hb
    clear hown hb
    go_wp2_with fail
    go_ret
    refine ⟨_,rfl,HFI.out _ _ HB.out ?_⟩
    have:=HO.out
    rw[←HLEN.out,List.take_length] at this
    rw[show wantsAll f ⟨_,(m0:Int),a,b,c,k⟩=[a,b]++(clockOf f m0).map (·.wire) from by rw[wantsAll,HW.out],show ([a,b]++(clockOf f m0).map (·.wire)).length=2+(clockOf f m0).length by simp;omega]
    exact this
end Go.Proofs.YtbjaejgechadpaaGreat
