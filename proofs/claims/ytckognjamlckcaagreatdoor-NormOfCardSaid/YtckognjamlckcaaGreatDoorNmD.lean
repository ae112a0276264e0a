/-
  norm's looker: wires. norm's looker: kind, alike, behind; slices.Clone of guards. norm's looker: behind; small rows of numbers as arguments.
-/
import Derived.Test.YtckognjamlckcaaGreatDoorZz
import Derived.Test.YtckognjamlckcaaGreatDoorVmZ
import Derived.Deep.RegionHeld3
import Derived.Test.YtckognjamlckcaaGreatDoorPlainA
set_option maxHeartbeats 4000000
set_option maxRecDepth 100000
namespace Go.Proofs.YtckognjamlckcaaGreatDoor
open Go.RowKit Vf Fo
attribute [local go_sem ↓] Go.wp_at_zero Go.wp_at_succ
theorem Row.two' {W:World} {b:Nat} {x0 x1:Value} {t:TypeId} (h:Row W b #[x0,x1] t):W.cell? ⟨b,0,none⟩=some x0∧W.cell? ⟨b,1,none⟩=some x1:=⟨(h.cell 0).trans rfl,(h.cell 1).trans rfl⟩
theorem cell_kept {w W:World} {b i:Nat} {u:Value} (h:w.cell? ⟨b,i,none⟩=some u) (hb:Below w.heap.size w W):W.cell? ⟨b,i,none⟩=some u:=(hb.cell (World.block_lt_of_cell? w _ h)).trans h
def gdOk (f:Fm) (x:Wr) (i:Nat) (g:Gd):Prop:=isW f g.wire∧tyOf f g.wire=2∧clockOf f g.wire=x.clock.take i
theorem wires_no {f:Fm} {k:Nat} {x:Wr} (h:f.wires[k]? =some x) (hn:¬wireOk f x):¬wiresOk f:=fun g=>hn (g.1 x (List.mem_of_getElem? h))
theorem wire_no {f:Fm} {x:Wr} {m:Nat} {g:Gd} (h:x.clock[m]? =some g) (hn:¬gdOk f x m g):¬wireOk f x:=fun q=>hn (q.2 m g h)
theorem wire_yes {f:Fm} {x:Wr} (ht:valueOk x.ty 0) (h:∀j,j<x.clock.length→∀g,x.clock[j]? =some g→gdOk f x j g):wireOk f x:=
 ⟨by unfold valueOk at ht;omega,fun i g hg=>h i (List.getElem?_eq_some_iff.1 hg).1 g hg⟩
theorem wires_yes {f:Fm} (h:∀j,j<f.wires.length→∀x,f.wires[j]? =some x→wireOk f x):wiresOk f↔1≤f.wires.length∧f.wires.length≤1600:=by
 refine ⟨fun g=>g.2,fun g=>⟨fun x hx=>?_,g⟩⟩
 obtain ⟨j,hj⟩:=List.getElem?_of_mem hx
 exact h j (List.getElem?_eq_some_iff.1 hj).1 x hj
theorem slv_take {α:Type} {w:World} {B size b off cap:Nat} {rel:α→List Value→Prop} {l:List α} {k:Nat} (h:Sl w B size rel (some ⟨b,off,none⟩) l) (hc:l.length≤cap) (hm:cap≤maxLen) (hk:k≤l.length):SlV w B size rel (.slice (some ⟨b,off,none⟩) k cap) (l.take k):=by
 refine ⟨_,_,by rw[List.length_take,Nat.min_eq_left hk],by simp;omega,hm,fun h0=>?_⟩
 obtain ⟨b',off',hA,hb,hx⟩:=h (by simp at h0;omega)
 refine ⟨b',off',hA,hb,fun i x hi=>hx i x ?_⟩
 rw[List.getElem?_take] at hi
 split at hi
 ·exact hi
 ·cases hi
section
variable {w:World} {B L:Nat} {f:Fm} {vw va vc vk vi vo vb ve:Value}
theorem NkAt.all (h:NkAt w B L f vw va vc vk vi vo vb ve) (hB:B≤w.heap.size):∃Aw cw,vw= .slice Aw f.wires.length cw∧f.wires.length≤cw∧cw≤maxLen∧Hid (∀W,Below w.heap.size w W→NkAt W B L f vw va vc vk vi vo vb ve)∧Hid (∀W,Below w.heap.size w W→Sl W B 2 (isWr W B) Aw f.wires)∧Hid (∀W,Below w.heap.size w W→W.cell? ⟨L,0,none⟩=some vw):=by
 obtain ⟨Aw,cw,rfl,lw,mw,sw⟩:=h.fm.wires
 refine ⟨Aw,cw,rfl,lw,mw,fun W hW=>h.below hB hW,fun W hW=>?_,fun W hW=>(h.row.below hW h.row.lt).cell 0⟩
 obtain ⟨A',c',he,_,_,s'⟩:=(h.fm.below (hW.mono hB)).wires
 injection he with he1 he2 he3
 subst he1
 exact s'
theorem is_one {n:Int} {W:World} {V:Bool} (wn:Wf n) (hK:NkAt (W.alloc (.cells #[.int .i64 n] 3)) B L f vw va vc vk vi vo vb ve) (hV:cB (isW f n)=V):
  Calls Tryz.prog 58 #[.pointer (some ⟨L,0,none⟩),.slice (some ⟨W.heap.size,0,none⟩) 1 1] (W.alloc (.cells #[.int .i64 n] 3)) fun e w'=>e= .returned (.bool V)∧W.alloc (.cells #[.int .i64 n] 3)=w':=by
 have:=nis_any hK [n] _ _ (one_slv wn)
 rw[cB_congr allW_one,hV] at this
 exact this
theorem nwires_any (h:NkAt w B L f vw va vc vk vi vo vb ve) (hB:B≤w.heap.size):
  Calls Tryz.prog 24 #[.pointer (some ⟨L,0,none⟩)] w fun e w'=>e= .returned (.bool (cB (wiresOk f)))∧Below w.heap.size w w':=by
 obtain ⟨Aw,cw,rfl,lw,mw,HN0,HW,HR⟩:=h.all hB
 refine' zq76
 have c0:=HR.out w (Below.refl _ _)
 clear h
 go_enter Tryz.func24,Tryz.ntmps24
 go_wp2_with fail
 clear c0
 go_loopw[13] (fun i wr=>∃k:Nat,k≤f.wires.length∧i= .int .i64 k∧Hid (∀j,j<k→∀x,f.wires[j]? =some x→wireOk f x)∧Below w.heap.size w wr) (fun i _=>f.wires.length-(intOf i).toNat)
 case atStart=>exact ⟨0,Nat.zero_le _,rfl,fun j h=>absurd h (by omega),Below.refl _ _⟩
 case round=>
  obtain ⟨k,hk,rfl,HN,hb⟩:=hrel
  have hsb:=hb.size
  by_cases hlt:k<f.wires.length
  rotate_left 1
  ·obtain rfl:k=f.wires.length:=by omega
   have c0:=HR.out wr hb
   have HF:=Lib.hid (cB_congr (wires_yes HN.out))
   refine' zq273
  refine' zq88
  by_cases ht:valueOk x.ty 0
  rotate_left 1
  ·have HT:=Lib.hid (ntruth_any x.ty 0 w1)
   rw[cB_false ht] at HT
   have HF:=Lib.hid (cB_false (wires_no (f:=f) HX.out (fun g=>ht (by have:=g.1;unfold valueOk;omega))))
   clear ht
   go_wp2_with fail
   refine HT.out.mono ?_
   refine' zq185
   exact ⟨ret_bool HF.out.symm,hB1⟩
  have HT:=Lib.hid (ntruth_any x.ty 0 w1)
  rw[cB_true ht] at HT
  have HTO:=Lib.hid ht
  clear ht
  go_wp2_with fail
  refine HT.out.mono ?_
  rintro e w' ⟨rfl,rfl⟩
  go_wp2_with fail
  clear c0 c1 HT
  refine' zq177
  go_loopw[24] (fun i w2=>∃m:Nat,m≤x.clock.length∧i= .int .i64 m∧Hid (∀j,j<m→∀g,x.clock[j]? =some g→gdOk f x j g)∧Below w1.heap.size w1 w2) (fun i _=>x.clock.length-(intOf i).toNat)
  case atStart=>exact ⟨0,Nat.zero_le _,rfl,fun j h=>absurd h (by omega),Below.refl _ _⟩
  case round=>
   obtain ⟨m,hm,rfl,HM,hb2⟩:=hrel
   obtain ⟨w2,rfl⟩:∃w2:World,w2=wr:=⟨_,rfl⟩
   have hs2:=hb2.size
   have hB2:=hB1.trans (hb2.mono hsB1)
   by_cases hml:m<x.clock.length
   rotate_left 1
   ·obtain rfl:m=x.clock.length:=by omega
    have HN':=Lib.hid (upto_succ HN.out (fun y hy=>by rw[HX.out] at hy;injection hy with hy;rw[←hy];exact wire_yes HTO.out HM.out))
    go_wp2_with fail
    go_roundw
    case rel=>exact ⟨k+1,by omega,by go_num,HN',hB2⟩
    case measure=>simp[intOf];omega
   refine' zq115
   have HS:Hid (∀W,Below w3.heap.size w3 W→W.cell? ⟨L,0,none⟩=some (.slice (some ⟨b,off,none⟩) f.wires.length cw)∧W.cell? ⟨w2.heap.size,0,none⟩=some (.int .i64 gw)∧W.cell? ⟨wo.heap.size,1,none⟩=some (.slice (some ⟨bg,og,none⟩) x.clock.length cg)):=fun W hW=>⟨HR.out W (hB3.trans (hW.mono hsB3)),(rg.below hW rg.lt).two'.1,(r3.below hW r3.lt).two'.2⟩
   have HI:Hid (∀W V,Below w3.heap.size w3 W→cB (isW f gw)=V→Calls Tryz.prog 58 #[.pointer (some ⟨L,0,none⟩),.slice (some ⟨W.heap.size,0,none⟩) 1 1] (W.alloc (.cells #[.int .i64 gw] 3)) fun e w'=>e= .returned (.bool V)∧W.alloc (.cells #[.int .i64 gw] 3)=w'):=fun W V hW hV=>is_one wg (HN0.out _ ((hB3.trans (hW.mono hsB3)).alloc (by have:=hW.size;omega) _)) hV
   have hl3:w2.heap.size<w3.heap.size:=rg.lt
   have hl1:wo.heap.size<w3.heap.size:=r3.lt
   by_cases hw:isW f gw
   rotate_left 1
   ·have hV:=Lib.hid (cB_false hw)
    have HF:=Lib.hid (cB_false (wires_no (f:=f) HX.out (wire_no HGG.out (fun q=>hw q.1))))
    refine' zq284
    refine tk 0 (some 29) rfl ?_
    refine tk 1 (some 30) rfl ?_
    refine tk 2 (some 31) rfl ?_
    refine rd1 3 (some 32) rfl (fun KK hKK=>?_)
    go_simp
    refine' zq263
    refine rd1 4 (some 33) rfl (fun KK hKK=>?_)
    go_simp
    go_at_call 58;refine Calls.mono (HI.out w3.drew _ bE hV.out) ?_;rintro e w5 ⟨rfl,rfl⟩
    (try go_wp2_with fail)
    refine' zq263
    refine tk 5 (some 34) rfl ?_
    refine tk 6 (some 35) rfl ?_
    refine sk 7 (some 36) rfl ?_
    refine sk 8 (some 37) rfl ?_
    refine sk 9 (some 38) rfl ?_
    refine sk 10 (some 39) rfl ?_
    refine sk 11 (some 40) rfl ?_
    refine sk 12 (some 41) rfl ?_
    refine sk 13 (some 42) rfl ?_
    refine sk 14 (some 43) rfl ?_
    refine sk 15 (some 44) rfl ?_
    refine sk 16 (some 45) rfl ?_
    refine sk 17 (some 46) rfl ?_
    refine' zq109
   refine' zq196
   have HY:Hid (tyOf f n=y.ty∧clockOf f n=y.clock):=by
    show _∧_
    unfold tyOf clockOf
    rw[wAt_some hy]
    exact ⟨rfl,rfl⟩
   clear hy
   have my':cy≤9223372036854775807:=by unfold maxLen at my;omega
   have HSY:Hid (∀W,Below w3.heap.size w3 W→W.cell? ⟨L,0,none⟩=some (.slice (some ⟨b,off,none⟩) f.wires.length cw)∧W.cell? ⟨w2.heap.size,0,none⟩=some (.int .i64 (n:Int))∧W.cell? ⟨wo.heap.size,1,none⟩=some (.slice (some ⟨bg,og,none⟩) x.clock.length cg)∧W.cell? ⟨b,off+n*2,none⟩=some (.int .i64 y.ty)∧W.cell? ⟨b,off+n*2+1,none⟩=some (.slice Ay y.clock.length cy)):=fun W hW=>⟨(HS.out W hW).1,(HS.out W hW).2.1,(HS.out W hW).2.2,cell_kept y0 hW,cell_kept y1 hW⟩
   by_cases ht:y.ty=2
   rotate_left 1
   ·have ht':(y.ty !=2)=true:=by simp[ht]
    have HF:=Lib.hid (cB_false (wires_no (f:=f) HX.out (wire_no HGG.out (fun q=>ht (by rw[←HY.out.1];exact q.2.1)))))
    clear ht hw y0 y1
    refine' zq84
    go_at_call 58;refine Calls.mono (HI.out w3.drew _ bE hV.out) ?_;rintro e w5 ⟨rfl,rfl⟩
    refine' zq103
    refine' zq169
    refine' zq109
   refine' zq89
   by_cases hc:y.clock=x.clock.take m
   ·have hV2:=Lib.hid (cB_true hc)
    have HM':=Lib.hid (upto_succ HM.out (fun g' hg'=>by rw[HGG.out] at hg';injection hg' with hg';rw[←hg'];exact (⟨hW.out,HY.out.1.trans HTY.out,HY.out.2.trans hc⟩:gdOk f x m ⟨n,gno⟩)))
    refine' zq23
    go_roundw
    case rel=>exact ⟨m+1,by omega,by go_num,HM',by have h9:Below w1.heap.size w1 w3:=hb2.trans (bb.mono hs2);have h99:=h9.size;exact bE⟩
    case measure=>simp[intOf];omega
   ·have hV2:=Lib.hid (cB_false hc)
    have HF:=Lib.hid (cB_false (wires_no (f:=f) HX.out (wire_no HGG.out (fun q=>hc (HY.out.2.symm.trans q.2.2)))))
    refine' zq23
    go_ret
    exact ⟨ret_bool HF.out.symm,bE⟩
end
theorem quiet_of2 {P:Program} {f:FuncId} {args:Array Value} {w:World} {q n:Nat} {v:Value}
  (h:Calls P f args (w.drewN (q+n)) fun e w'=>e= .returned v∧∃m,w'=(w.drewN (q+n)).drewN m):Calls P f args (w.drewN (q+n)) fun e w''=>e= .returned v∧∃m,w''=w.drewN (q+m):=
 h.mono fun _ _ ⟨he,m,hm⟩=>⟨he,n+m,by rw[hm,World.drewN_drewN,Nat.add_assoc]⟩
def gdC (x:Gd):List Value:=[.int .i64 x.wire,.bool x.no]
theorem gdC_of (x:Gd) (cs:List Value) (h:isGd x cs):cs=gdC x:=h.1
theorem gdC_len (x:Gd):(gdC x).length=2:=rfl
theorem gdC_one (x:Gd):∀u∈gdC x,u.oneCell'=true:=by
 intro u hu
 simp only[gdC,List.mem_cons,List.not_mem_nil,or_false] at hu
 rcases hu with rfl|rfl<;>rfl
theorem info_gd:(Tryz.prog.info? 61).map (fun i=>(i.zero,i.size,i.bytes))=some (some (.agg #[.int .i64 0,.bool false]),2,16):=by kernel_rfl
theorem clone_gd (l:List Gd) (v:Value) (w:World) (h:SlV w w.heap.size 2 isGd v l) (hl:l.length≤100000):
  Calls Tryz.prog 85 #[v] w (CloneIs 61 2 gdC l w):=by
 obtain ⟨A,cap,rfl,h1,h2,h3⟩:=h
 have hq:=fun (w:World) (a:Option Addr) (n c:Nat)=>Lib.run_eql_slice_nil (P:=Tryz.prog) w 50 61 a n c 0 0 Tryz.underlying50
 rcases A with _|ad
 ·have h0:=h3.none
  subst h0
  go_enter Tryz.func85,Tryz.ntmps85
  go_wp2_with fail
  go_ret
  exact ⟨_,rfl,⟨by simp,.inl ⟨rfl,rfl⟩⟩,Below.refl _ _⟩
 ·refine' zq295
  obtain ⟨i0,hi0,hz0,hz1,hz2⟩:=info_parts info_gd
  go_enter Tryz.func85,Tryz.ntmps85
  go_wp2_with (at_builtin;refine wpList_append_own _ rfl _ _ 50 rfl w.heap.size 61 i0 (.agg #[.int .i64 0,.bool false]) 2 16 Tryz.underlying50 hi0 hz0 hz1 hz2 rfl (by decide) _ _ _ rfl (own_empty w 61 2) ad l.length cap (l.map gdC).flatten rfl ?c0 ?c1 ?c2 ?c3 ?c4 ?c5 ?_)
  case c0=>exact HL.out
  case c1=>exact hN
  case c2=>exact HO.out
  case c3=>unfold maxLen;omega
  case c4=>omega
  case c5=>simp
  refine' zq277
  go_wp2_with fail
  go_ret
  exact ⟨_,rfl,hown,bb⟩
theorem NkAt.wire {w:World} {B L:Nat} {f:Fm} {vw va vc vk vi vo vb ve:Value} (h:NkAt w B L f vw va vc vk vi vo vb ve) {n:Int} (hn:isW f n):
  ∃(m:Nat) (b off cw:Nat) (Ag:Option Addr) (cg:Nat),n=m∧m<f.wires.length∧vw= .slice (some ⟨b,off,none⟩) f.wires.length cw∧f.wires.length≤cw∧cw≤9223372036854775807∧b<B∧Wf (tyOf f n)∧
   w.cell? ⟨b,off+m*2,none⟩=some (.int .i64 (tyOf f n))∧w.cell? ⟨b,off+m*2+1,none⟩=some (.slice Ag (clockOf f n).length cg)∧(clockOf f n).length≤cg∧cg≤maxLen∧Sl w B 2 isGd Ag (clockOf f n):=by
 refine' zq134
 obtain ⟨A,cw,rfl,lw,mw,sw⟩:=h.fm.wires
 obtain ⟨b,off,x,Ag,cg,rfl,hb,hx,wx,d0,d1,lg,mg,sg⟩:=sw.wr hm
 have e:wAt f m=x:=wAt_some hx
 unfold maxLen at mw
 refine ⟨m,b,off,cw,Ag,cg,rfl,hm,rfl,lw,by omega,hb,?_,?_,?_,?_,mg,?_⟩
 all_goals simp only[tyOf,clockOf,e]
 all_goals assumption
section
variable {w:World} {B L:Nat} {f:Fm} {vw va vc vk vi vo vb ve:Value}
theorem nkind_any (h:NkAt w B L f vw va vc vk vi vo vb ve) (n:Int) (hn:isW f n):
  Calls Tryz.prog 64 #[.pointer (some ⟨L,0,none⟩),.int .i64 n] w fun e w'=>e= .returned (.int .i64 (tyOf f n))∧w=w':=by
 obtain ⟨m,b,off,cw,Ag,cg,rfl,hm,rfl,lw,mw,hb,wt,d0,d1,lg,mg,sg⟩:=h.wire hn
 have q0:=h.row.cell 0
 refine' zq296
 generalize tyOf f m=T at*
 clear h hn sg
 go_enter Tryz.func64,Tryz.ntmps64
 go_wp2_with fail
 go_ret
 exact ⟨rfl,rfl⟩
def alikeP (f:Fm) (l:List Int):Prop:=∀n∈l,clockOf f n=clockOf f (l.headD 0)
theorem alike_no {l:List Int} {k:Nat} {n x0:Int} (h0:l[0]? =some x0) (h:l[k]? =some n) (hn:clockOf f n≠clockOf f x0):¬alikeP f l:=fun g=>by
 have:=g n (List.mem_of_getElem? h)
 cases l with
 |nil=>simp at h0
 |cons a l=>simp at h0;subst h0;exact hn this
theorem alike_yes {l:List Int} {x0:Int} (h0:l[0]? =some x0) (h:∀j,j<l.length→∀n,l[j]? =some n→clockOf f n=clockOf f x0):alikeP f l:=fun n hn=>by
 obtain ⟨j,hj⟩:=List.getElem?_of_mem hn
 have:=h j (List.getElem?_eq_some_iff.1 hj).1 n hj
 cases l with
 |nil=>simp at h0
 |cons a l=>simp at h0;subst h0;exact this
theorem nalike_any (h:NkAt w B L f vw va vc vk vi vo vb ve) (l:List Int) (v:Value) (B':Nat) (hv:SlV w B' 1 isInt v l) (hl:0<l.length) (hW:∀n∈l,isW f n):
  Calls Tryz.prog 65 #[.pointer (some ⟨L,0,none⟩),v] w fun e w'=>e= .returned (.bool (cB (alikeP f l)))∧∃k,w'=w.drewN k:=by
 refine' zq227
 obtain ⟨b0,off0,x0,rfl,hb0,hx0,wx0,e0⟩:=sv.int hl
 have q0:=h.row.cell 0
 refine' zq296
 obtain ⟨m0,b,off,cw,Ag,cg,rfl,hm0,rfl,lw,mw,hb,wt,d0,d1,lg,mg,sg⟩:=h.wire (hW x0 (List.mem_of_getElem? hx0))
 have HX0:=Lib.hid hx0
 have HW:=Lib.hid hW
 have HK:=Lib.hid h
 rw[Nat.add_zero] at e0
 clear hx0 hW h d0 wt
 go_enter Tryz.func65,Tryz.ntmps65
 go_wp2_with fail
 go_loopw[9] (fun i wr=>∃k:Nat,k≤l.length∧i= .int .i64 k∧Hid (∀j,j<k→∀n,l[j]? =some n→clockOf f n=clockOf f m0)∧∃q,wr=w.drewN q) (fun i _=>l.length-(intOf i).toNat)
 case atStart=>exact ⟨0,Nat.zero_le _,rfl,fun j h=>absurd h (by omega),0,rfl⟩
 case round=>
  obtain ⟨k,hk,rfl,HN,q,rfl⟩:=hrel
  by_cases hlt:k<l.length
  ·obtain ⟨b1,off1,n,hA,hb1,hn,wn,e1⟩:=sv.int hlt
   injection hA with hA
   injection hA with h1 h2
   subst h1;subst h2
   have HNn:=Lib.hid hn
   obtain ⟨m,b2,off2,cw2,Ag2,cg2,rfl,hm,hv2,_,_,_,wt2,d2,d3,lg2,mg2,sg2⟩:=HK.out.wire (HW.out n (List.mem_of_getElem? hn))
   injection hv2 with h1 h2 h3
   injection h1 with h1
   injection h1 with h1 h4
   subst h1;subst h4
   clear hn h3 h2 d2 wt2
   have HC:=Lib.hid (fun k=>eqGuards_any (clockOf f m) (clockOf f m0) (.slice Ag2 (clockOf f m).length cg2) (.slice Ag (clockOf f m0).length cg) B (w.drewN (q+k)) ⟨_,_,rfl,lg2,mg2,sg2⟩ ⟨_,_,rfl,lg,mg,sg⟩)
   have hk1:(k:Int)<l.length:=by omega
   have hl0:(0:Int)<l.length:=by omega
   have hm1:(m:Int)<f.wires.length:=by omega
   have hm2:(m0:Int)<f.wires.length:=by omega
   by_cases e:clockOf f m=clockOf f m0
   ·rw[cB_true e] at HC
    have HN':=Lib.hid (upto_succ HN.out (fun n' hn'=>by rw[HNn.out] at hn';injection hn' with hn';rw[←hn'];exact e))
    refine' zq283
    go_wp2_with fail
    go_roundw
    case rel=>exact ⟨k+1,by omega,by go_num,HN',by first|exact ⟨_,rfl⟩|(rw[World.drewN_drewN];exact ⟨_,rfl⟩)⟩
    case measure=>first|(simp[intOf];omega)|simp[intOf]
   ·rw[cB_false e] at HC
    have HF:=Lib.hid (cB_false (alike_no (f:=f) HX0.out HNn.out e))
    refine' zq283
    refine' zq63
  ·obtain rfl:k=l.length:=by omega
   have HF:=Lib.hid (cB_true (alike_yes (f:=f) HX0.out HN.out))
   refine' zq63
end
theorem row_slv {W:World} {g:Nat} {t:TypeId} {l:List Int} (hr:Row W g (l.map (Value.int .i64)).toArray t) (hw:∀x∈l,Wf x) (hl:l.length≤maxLen):SlV W (g+1) 1 isInt (.slice (some ⟨g,0,none⟩) l.length l.length) l:=by
 refine ⟨_,_,rfl,Nat.le_refl _,hl,fun _=>⟨_,_,rfl,by omega,fun i x hx=>⟨[.int .i64 x],fun j u hu=>?_,rfl,hw x (List.mem_of_getElem? hx)⟩⟩⟩
 match j,hu with
 |0,hu=>
  simp at hu
  subst hu
  refine (hr.cell _).trans ?_
  rw[List.getElem?_toArray,List.getElem?_map]
  simp[hx]
theorem two_slv {W:World} {a b:Int} (ha:Wf a) (hb:Wf b):SlV (W.alloc (.cells #[.int .i64 a,.int .i64 b] 3)) (W.heap.size+1) 1 isInt (.slice (some ⟨W.heap.size,0,none⟩) 2 2) [a,b]:=
 row_slv (l:=[a,b]) (Row.new W _ _) (by simp[ha,hb]) (by simp[maxLen])
theorem three_slv {W:World} {a b c:Int} (ha:Wf a) (hb:Wf b) (hc:Wf c):SlV (W.alloc (.cells #[.int .i64 a,.int .i64 b,.int .i64 c] 3)) (W.heap.size+1) 1 isInt (.slice (some ⟨W.heap.size,0,none⟩) 3 3) [a,b,c]:=
 row_slv (l:=[a,b,c]) (Row.new W _ _) (by simp[ha,hb,hc]) (by simp[maxLen])
theorem four_slv {W:World} {a b c d:Int} (ha:Wf a) (hb:Wf b) (hc:Wf c) (hd:Wf d):SlV (W.alloc (.cells #[.int .i64 a,.int .i64 b,.int .i64 c,.int .i64 d] 3)) (W.heap.size+1) 1 isInt (.slice (some ⟨W.heap.size,0,none⟩) 4 4) [a,b,c,d]:=
 row_slv (l:=[a,b,c,d]) (Row.new W _ _) (by simp[ha,hb,hc,hd]) (by simp[maxLen])
theorem cell_two (w:World) (t:TypeId) (x y:Value):∀j u,[x,y][j]? =some u→(w.alloc (.cells #[x,y] t)).cell? ((⟨w.heap.size,0,none⟩:Addr).add j)=some u:=by
 intro j u h
 rw[Addr.add_lit,Nat.zero_add]
 refine ((Row.new w #[x,y] t).cell j).trans ?_
 rw[List.getElem?_toArray]
 exact h
section
variable {w:World} {B L:Nat} {f:Fm} {vw va vc vk vi vo vb ve:Value}
theorem snoc_sl {W:World} {base:Nat} {v:Value} {l:List Gd} {g:Gd} (h:W.ownsRow base 61 2 v (l.length+1) ((l.map gdC).flatten++ [.int .i64 g.wire,.bool g.no])) (ha:∀x∈l++ [g],isGd x (gdC x)):SlV W W.heap.size 2 isGd v (l++ [g]):=by
 refine (own_sl (css:=(l++ [g]).map gdC) (n:=l.length+1) (base:=base) (e:=61) ?_ (Are.map ha) (fun cs hcs=>by obtain ⟨y,_,rfl⟩:=List.mem_map.1 hcs;rfl) (by decide)).1
 rw[List.map_append,List.flatten_append]
 exact h
theorem nbehind_any (h:NkAt w B L f vw va vc vk vi vo vb ve) (hB:B≤w.heap.size) (n o:Int) (hn:isW f n) (ho:isW f o) (g:Gd) (hgw:Wf g.wire) (hcl:(clockOf f o).length≤1600):
  Calls Tryz.prog 66 #[.pointer (some ⟨L,0,none⟩),.int .i64 n,.int .i64 o,.agg #[.int .i64 g.wire,.bool g.no]] w fun e w'=>e= .returned (.bool (cB (clockOf f n=clockOf f o++ [g])))∧Below w.heap.size w w':=by
 have HKK:=Lib.hid (fun W (hW:Below w.heap.size w W)=>h.below hB hW)
 obtain ⟨m1,b,off,cw,Ag,cg,rfl,hm1,rfl,lw,mw,hb,wt,d0,d1,lg,mg,sg⟩:=h.wire hn
 obtain ⟨m2,b2,off2,cw2,Ag2,cg2,rfl,hm2,hv2,_,_,_,wt2,e0,e1,lg2,mg2,sg2⟩:=h.wire ho
 injection hv2 with h1 h2 h3
 injection h1 with h1
 injection h1 with h1 h4
 subst h1;subst h4
 have q0:=h.row.cell 0
 have hLlt:=h.row.lt
 refine' zq296
 have bX:=Row.new w #[.int .i64 g.wire,.bool g.no] 61
 have b1:=(Below.refl w.heap.size w).alloc (Nat.le_refl _) (.cells #[.int .i64 g.wire,.bool g.no] 61)
 have hs1:w.heap.size<(w.alloc (.cells #[.int .i64 g.wire,.bool g.no] 61)).heap.size:=by simp
 have HB:=Lib.hid hB
 clear h h2 h3 d0 e0 wt wt2 hn ho hB
 obtain ⟨gw,gn⟩:=g
 dsimp only at*
 go_enter Tryz.func66,Tryz.ntmps66
 go_wp2_with fail
 generalize hW1:w.alloc (.cells #[.int .i64 gw,.bool gn] 61)=w1 at*
 have HS:Hid (∀W,Below w1.heap.size w1 W→W.cell? ⟨L,0,none⟩=some (.slice (some ⟨b,off,none⟩) f.wires.length cw)∧W.cell? ⟨b,off+m1*2+1,none⟩=some (.slice Ag (clockOf f m1).length cg)∧W.cell? ⟨b,off+m2*2+1,none⟩=some (.slice Ag2 (clockOf f m2).length cg2)∧W.cell? ⟨w.heap.size,0,none⟩=some (.int .i64 gw)∧W.cell? ⟨w.heap.size,1,none⟩=some (.bool gn)):=fun W hW=>by
  have hb':=b1.trans (hW.mono b1.size)
  have hr:=bX.below hW hs1
  have hbw:b<w.heap.size:=by have:=HB.out;omega
  exact ⟨(hb'.cell hLlt).trans q0,(hb'.cell hbw).trans d1,(hb'.cell hbw).trans e1,hr.two'.1,hr.two'.2⟩
 have HC1:Hid (∀W,Below w1.heap.size w1 W→SlV W W.heap.size 2 isGd (.slice Ag (clockOf f m1).length cg) (clockOf f m1)∧SlV W W.heap.size 2 isGd (.slice Ag2 (clockOf f m2).length cg2) (clockOf f m2)):=fun W hW=>by
  have hb':=b1.trans (hW.mono b1.size)
  have hle:B≤W.heap.size:=Nat.le_trans HB.out hb'.size
  exact ⟨⟨_,_,rfl,lg,mg,(sg.below (hb'.mono HB.out)).more hle⟩,⟨_,_,rfl,lg2,mg2,(sg2.below (hb'.mono HB.out)).more hle⟩⟩
 obtain ⟨i0,hi0,hz0,hz1,hz2⟩:=info_parts info_gd
 have HL:=Lib.hid hcl
 have HB1:=Lib.hid b1
 have HLN:=Lib.hid (flat_len (size:=2) (l:=clockOf f m2) gdC_len)
 have HON:Hid (∀u∈[Value.int .i64 gw,.bool gn],u.oneCell'=true):=flat_one gdC_one [(⟨gw,gn⟩:Gd)]
 have HALL:Hid (∀x∈clockOf f m2++ [⟨gw,gn⟩],isGd x (gdC x)):=fun x hx=>by
  rcases List.mem_append.1 hx with hx|hx
  ·exact ⟨rfl,sg2.all (P:=fun x=>Wf x.wire) (fun x cs h=>h.2) x hx⟩
  ·simp at hx;subst hx;exact ⟨rfl,hgw⟩
 clear d1 e1 q0 sg sg2 bX hW1 b1 HKK hcl hLlt
 have hm1':(m1:Int)<f.wires.length:=by omega
 have hm2':(m2:Int)<f.wires.length:=by omega
 generalize hl1:clockOf f m1=l1 at*
 generalize hl2:clockOf f m2=l2 at*
 have H1:=Lib.hid hl1
 have H2:=Lib.hid hl2
 clear hl1 hl2
 go_region_held3 (fun W=>W.cell? ⟨L,0,none⟩=some (.slice (some ⟨b,off,none⟩) f.wires.length cw)∧W.cell? ⟨b,off+m1*2+1,none⟩=some (.slice Ag l1.length cg)∧W.cell? ⟨b,off+m2*2+1,none⟩=some (.slice Ag2 l2.length cg2)∧W.cell? ⟨w.heap.size,0,none⟩=some (.int .i64 gw)∧W.cell? ⟨w.heap.size,1,none⟩=some (.bool gn))
  (first|(with_reducible exact HS.out _ bE)|go_keep)
  (first|((go_at_call 85);(refine (clone_gd l2 _ _ (HC1.out _ bE).2 (by have:=HL.out;omega)).mono ?_);rintro e w5 ⟨v5,rfl,ho5,hb5⟩;(have hb6:Below w1.heap.size w1 w5:=Below.trans bE (hb5.mono lE));(have hs6:=hb6.size);(have ho6:w5.ownsRow w1.heap.size 61 2 v5 l2.length (l2.map gdC).flatten:=own_base ho5 lE))|((refine step_append_any _ (by rfl) (.tmp 27) (.tmp 29) 50 (by rfl) w1.heap.size 61 i0 _ 2 16 Tryz.underlying50 hi0 hz0 hz1 hz2 (by rfl) (by decide) v5 l2.length (l2.map gdC).flatten (by rfl) ho6 ⟨w1.heap.size,0,none⟩ 1 1 [.int .i64 gw,.bool gn] (by rfl) (by rfl) (fun j u hu=>Eq.trans (Below.cell hb5 (by rw[add_block];simp)) (cell_two _ _ _ _ j u hu)) HON.out (by have:=HL.out;unfold maxLen;omega) (by have:=HL.out;omega) hs6 ?_);intro v7 w7 ho7 hg7 _hat7;(have hb7:Below w1.heap.size w1 w7:=below_own hb6 ho6 hg7 hs6);(have hs7:=hb7.size))|((refine step_append_any _ (by rfl) (.tmp 27) (.tmp 29) 50 (by rfl) w1.heap.size 61 i0 _ 2 16 Tryz.underlying50 hi0 hz0 hz1 hz2 (by rfl) (by decide) v5 l2.length (l2.map gdC).flatten (by rfl) (ho6.alloc _) ⟨w5.heap.size,0,none⟩ 1 1 [.int .i64 gw,.bool gn] (by rfl) (by rfl) (fun j u hu=>cell_two _ _ _ _ j u hu) HON.out (by have:=HL.out;unfold maxLen;omega) (by have:=HL.out;omega) (by simp;omega) ?_);intro v7 w7 ho7 hg7 _hat7;(have hb7:Below w1.heap.size w1 w7:=below_own (hb6.alloc hs6 _) (ho6.alloc _) hg7 (by simp;omega));(have hs7:=hb7.size))|((go_at_call 59);(refine (eqGuards_any l1 (l2++ [⟨gw,gn⟩]) _ _ _ _ (HC1.out _ bE).1 (snoc_sl ho7 HALL.out)).mono ?_);rintro e w8 ⟨rfl,n8,rfl⟩))
 all_goals
  go_wp2_with fail
  go_ret
  refine ⟨ret_bool (by rw[H1.out,H2.out]),HB1.out.trans ?_⟩
  exact (below_drewN' hb7 _).mono (Nat.le_of_lt hs1)
end
end Go.Proofs.YtckognjamlckcaaGreatDoor
