/-
  norm's looker: wires. norm's looker: kind, alike, behind; slices.Clone of guards. norm's looker: behind; small rows of numbers as arguments.
-/
import Derived.Test.YtckognjamlckcaaGreatDoorVmZ
set_option maxHeartbeats 4000000
set_option maxRecDepth 100000
namespace Go.Proofs.YtckognjamlckcaaGreatDoor
open Go.RowKit Vf Fo
attribute [local go_sem ↓] Go.wp_at_zero Go.wp_at_succ
theorem ai.two' {W:World} {b:Nat} {x0 x1:Value} {t:TypeId} (h:ai W b #[x0,x1] t):W.cell? ⟨b,0,none⟩=some x0/\W.cell? ⟨b,1,none⟩=some x1:=⟨(h.cell 0).trans rfl,(h.cell 1).trans rfl⟩
theorem cell_kept {w W:World} {b i:Nat} {u:Value} (h:w.cell? ⟨b,i,none⟩=some u) (hb:Below w.heap.size w W):W.cell? ⟨b,i,none⟩=some u:=(hb.cell (World.block_lt_of_cell? w _ h)).trans h
def ob (f:Fm) (x:Wr) (i:Nat) (g:Gd):Prop:=ak f g.wire/\ag f g.wire=2/\aa f g.wire=x.clock.take i
theorem kg {f:Fm} {k:Nat} {x:Wr} (h:f.wires[k]? =some x) (hn:¬eL f x):¬ge f:=fun g=>hn (g.1 x (List.mem_of_getElem? h))
theorem iU {f:Fm} {x:Wr} {m:Nat} {g:Gd} (h:x.clock[m]? =some g) (hn:¬ob f x m g):¬eL f x:=fun q=>hn (q.2 m g h)
theorem zv {f:Fm} {x:Wr} (ht:bN x.ty 0) (h:∀j,j<x.clock.length->∀g,x.clock[j]? =some g->ob f x j g):eL f x:=
 ⟨by unfold bN at ht;omega,fun i g hg=>h i (List.getElem?_eq_some_iff.1 hg).1 g hg⟩
theorem xW {f:Fm} (h:∀j,j<f.wires.length->∀x,f.wires[j]? =some x->eL f x):ge f↔1<=f.wires.length/\f.wires.length<=1600:=by
 refine ⟨fun g=>g.2,fun g=>⟨fun x hx=>?_,g⟩⟩
 obtain ⟨j,hj⟩:=List.getElem?_of_mem hx
 exact h j (List.getElem?_eq_some_iff.1 hj).1 x hj
theorem ij {α:Type} {w:World} {B size b off cap:Nat} {rel:α->List Value->Prop} {l:List α} {k:Nat} (h:Sl w B size rel (some ⟨b,off,none⟩) l) (hc:l.length<=cap) (hm:cap<=maxLen) (hk:k<=l.length):aI w B size rel (.slice (some ⟨b,off,none⟩) k cap) (l.take k):=by
 refine ⟨_,_,by rw[List.length_take,Nat.min_eq_left hk],by simp;omega,hm,fun h0=>?_⟩
 obtain ⟨b',off',hA,hb,hx⟩:=h (by simp at h0;omega)
 refine ⟨b',off',hA,hb,fun i x hi=>hx i x ?_⟩
 rw[List.getElem?_take] at hi
 split at hi
 ·exact hi
 ·cases hi
section
variable {w:World} {B L:Nat} {f:Fm} {vw va vc vk vi vo vb ve:Value}
theorem bI.all (h:bI w B L f vw va vc vk vi vo vb ve) (hB:B<=w.heap.size):∃Aw cw,vw= .slice Aw f.wires.length cw/\f.wires.length<=cw/\cw<=maxLen/\Hid (∀W,Below w.heap.size w W->bI W B L f vw va vc vk vi vo vb ve)/\Hid (∀W,Below w.heap.size w W->Sl W B 2 (fu W B) Aw f.wires)/\Hid (∀W,Below w.heap.size w W->W.cell? ⟨L,0,none⟩=some vw):=by
 obtain ⟨Aw,cw,rfl,lw,mw,sw⟩:=h.fm.wires
 refine ⟨Aw,cw,rfl,lw,mw,fun W hW=>h.below hB hW,fun W hW=>?_,fun W hW=>(h.row.below hW h.row.lt).cell 0⟩
 obtain ⟨A',c',he,_,_,s'⟩:=(h.fm.below (hW.mono hB)).wires
 injection he with he1 he2 he3
 subst he1
 exact s'
theorem ql {n:Int} {W:World} {V:Bool} (wn:Wf n) (hK:bI (W.alloc (.cells #[.int .i64 n] 3)) B L f vw va vc vk vi vo vb ve) (hV:cB (ak f n)=V):
  Calls Tryz.prog 58 #[.pointer (some ⟨L,0,none⟩),.slice (some ⟨W.heap.size,0,none⟩) 1 1] (W.alloc (.cells #[.int .i64 n] 3)) fun e w'=>e= .returned (.bool V)/\W.alloc (.cells #[.int .i64 n] 3)=w':=by
 have:=oq hK [n] _ _ (oH wn)
 rw[bu qQ,hV] at this
 exact this
theorem ud (h:bI w B L f vw va vc vk vi vo vb ve) (hB:B<=w.heap.size):
  Calls Tryz.prog 24 #[.pointer (some ⟨L,0,none⟩)] w fun e w'=>e= .returned (.bool (cB (ge f)))/\Below w.heap.size w w':=by
 obtain ⟨Aw,cw,rfl,lw,mw,HN0,HW,HR⟩:=h.all hB
 refine' zq62
 have c0:=HR.o w (Below.refl _ _)
 clear h
 go_enter Tryz.func24,Tryz.ntmps24
 go_wp2_with fail
 clear c0
 go_loopw[13] (fun i wr=>∃k:Nat,k<=f.wires.length/\i= .int .i64 k/\Hid (∀j,j<k->∀x,f.wires[j]? =some x->eL f x)/\Below w.heap.size w wr) (fun i _=>f.wires.length-(intOf i).toNat)
 case atStart=>exact ⟨0,Nat.zero_le _,rfl,fun j h=>absurd h (by omega),Below.refl _ _⟩
 case round=>
  obtain ⟨k,hk,rfl,HN,hb⟩:=hrel
  have hsb:=hb.size
  by_cases hlt:k<f.wires.length
  rotate_left 1
  ·obtain rfl:k=f.wires.length:=by omega
   have c0:=HR.o wr hb
   have HF:=zH (bu (xW HN.o))
   refine' zq246
  refine' zq73
  by_cases ht:bN x.ty 0
  rotate_left 1
  ·have HT:=zH (gP x.ty 0 w1)
   rw[ab ht] at HT
   have HF:=zH (ab (kg (f:=f) HX.o (fun g=>ht (by have:=g.1;unfold bN;omega))))
   clear ht
   go_wp2_with fail
   refine HT.o.mono ?_
   refine' zq163
   exact ⟨aj HF.o.symm,hB1⟩
  have HT:=zH (gP x.ty 0 w1)
  rw[aq ht] at HT
  have HTO:=zH ht
  clear ht
  go_wp2_with fail
  refine HT.o.mono ?_
  rintro e w' ⟨rfl,rfl⟩
  go_wp2_with fail
  clear c0 c1 HT
  refine' zq148
  go_loopw[24] (fun i w2=>∃m:Nat,m<=x.clock.length/\i= .int .i64 m/\Hid (∀j,j<m->∀g,x.clock[j]? =some g->ob f x j g)/\Below w1.heap.size w1 w2) (fun i _=>x.clock.length-(intOf i).toNat)
  case atStart=>exact ⟨0,Nat.zero_le _,rfl,fun j h=>absurd h (by omega),Below.refl _ _⟩
  case round=>
   obtain ⟨m,hm,rfl,HM,hb2⟩:=hrel
   obtain ⟨w2,rfl⟩:∃w2:World,w2=wr:=⟨_,rfl⟩
   have hs2:=hb2.size
   have hB2:=hB1.trans (hb2.mono hsB1)
   by_cases hml:m<x.clock.length
   rotate_left 1
   ·obtain rfl:m=x.clock.length:=by omega
    have HN':=zH (aC HN.o (fun y hy=>by rw[HX.o] at hy;injection hy with hy;rw[<-hy];exact zv HTO.o HM.o))
    go_wp2_with fail
    go_roundw
    case rel=>exact ⟨k+1,by omega,by go_num,HN',hB2⟩
    case measure=>simp[intOf];omega
   refine' zq97
   have HS:Hid (∀W,Below w3.heap.size w3 W->W.cell? ⟨L,0,none⟩=some (.slice (some ⟨b,off,none⟩) f.wires.length cw)/\W.cell? ⟨w2.heap.size,0,none⟩=some (.int .i64 gw)/\W.cell? ⟨wo.heap.size,1,none⟩=some (.slice (some ⟨bg,og,none⟩) x.clock.length cg)):=fun W hW=>⟨HR.o W (hB3.trans (hW.mono hsB3)),(rg.below hW rg.lt).two'.1,(r3.below hW r3.lt).two'.2⟩
   have HI:Hid (∀W V,Below w3.heap.size w3 W->cB (ak f gw)=V->Calls Tryz.prog 58 #[.pointer (some ⟨L,0,none⟩),.slice (some ⟨W.heap.size,0,none⟩) 1 1] (W.alloc (.cells #[.int .i64 gw] 3)) fun e w'=>e= .returned (.bool V)/\W.alloc (.cells #[.int .i64 gw] 3)=w'):=fun W V hW hV=>ql wg (HN0.o _ ((hB3.trans (hW.mono hsB3)).alloc (by have:=hW.size;omega) _)) hV
   have hl3:w2.heap.size<w3.heap.size:=rg.lt
   have hl1:wo.heap.size<w3.heap.size:=r3.lt
   by_cases hw:ak f gw
   rotate_left 1
   ·have hV:=zH (ab hw)
    have HF:=zH (ab (kg (f:=f) HX.o (iU HGG.o (fun q=>hw q.1))))
    refine' zq259
    refine tk 0 (some 29) rfl ?_
    refine tk 1 (some 30) rfl ?_
    refine tk 2 (some 31) rfl ?_
    refine aH 3 (some 32) rfl (fun KK hKK=>?_)
    go_simp
    refine' zq237
    refine aH 4 (some 33) rfl (fun KK hKK=>?_)
    go_simp
    go_at_call 58;refine Calls.mono (HI.o w3.drew _ bE hV.out) ?_;rintro e w5 ⟨rfl,rfl⟩
    (try go_wp2_with fail)
    refine' zq237
    refine tk 5 (some 34) rfl ?_
    refine tk 6 (some 35) rfl ?_
    refine sk 7 (some 36) rfl ?_
    refine sk 8 (some 37) rfl ?_
    refine sk 9 (some 38) rfl ?_
    refine sk 10 (some 39) rfl ?_
    refine sk 11 (some 40) rfl ?_
    refine sk 12 (some 41) rfl ?_
    refine sk 13 (some 42) rfl ?_
    refine sk 14 (some 43) rfl ?_
    refine sk 15 (some 44) rfl ?_
    refine sk 16 (some 45) rfl ?_
    refine sk 17 (some 46) rfl ?_
    refine' zq92
   refine' zq173
   have HY:Hid (ag f n=y.ty/\aa f n=y.clock):=by
    show _/\_
    unfold ag aa
    rw[bW hy]
    exact ⟨rfl,rfl⟩
   clear hy
   have my':cy<=9223372036854775807:=by unfold maxLen at my;omega
   have HSY:Hid (∀W,Below w3.heap.size w3 W->W.cell? ⟨L,0,none⟩=some (.slice (some ⟨b,off,none⟩) f.wires.length cw)/\W.cell? ⟨w2.heap.size,0,none⟩=some (.int .i64 (n:Int))/\W.cell? ⟨wo.heap.size,1,none⟩=some (.slice (some ⟨bg,og,none⟩) x.clock.length cg)/\W.cell? ⟨b,off+n*2,none⟩=some (.int .i64 y.ty)/\W.cell? ⟨b,off+n*2+1,none⟩=some (.slice Ay y.clock.length cy)):=fun W hW=>⟨(HS.o W hW).1,(HS.o W hW).2.1,(HS.o W hW).2.2,cell_kept y0 hW,cell_kept y1 hW⟩
   by_cases ht:y.ty=2
   rotate_left 1
   ·have ht':(y.ty !=2)=true:=by simp[ht]
    have HF:=zH (ab (kg (f:=f) HX.o (iU HGG.o (fun q=>ht (by rw[<-HY.o.1];exact q.2.1)))))
    clear ht hw y0 y1
    refine' zq69
    go_at_call 58;refine Calls.mono (HI.o w3.drew _ bE hV.out) ?_;rintro e w5 ⟨rfl,rfl⟩
    refine' zq142
    refine' zq92
   refine' zq74
   by_cases hc:y.clock=x.clock.take m
   ·have hV2:=zH (aq hc)
    have HM':=zH (aC HM.o (fun g' hg'=>by rw[HGG.o] at hg';injection hg' with hg';rw[<-hg'];exact (⟨hW.out,HY.o.1.trans HTY.o,HY.o.2.trans hc⟩:ob f x m ⟨n,gno⟩)))
    refine' zq18
    go_roundw
    case rel=>exact ⟨m+1,by omega,by go_num,HM',by have h9:Below w1.heap.size w1 w3:=hb2.trans (bb.mono hs2);have h99:=h9.size;exact bE⟩
    case measure=>simp[intOf];omega
   ·have hV2:=zH (ab hc)
    have HF:=zH (ab (kg (f:=f) HX.o (iU HGG.o (fun q=>hc (HY.o.2.symm.trans q.2.2)))))
    refine' zq18
    go_ret
    exact ⟨aj HF.o.symm,bE⟩
end
theorem wZ {P:Program} {f:FuncId} {args:Array Value} {w:World} {q n:Nat} {v:Value}
  (h:Calls P f args (w.drewN (q+n)) fun e w'=>e= .returned v/\∃m,w'=(w.drewN (q+n)).drewN m):Calls P f args (w.drewN (q+n)) fun e w''=>e= .returned v/\∃m,w''=w.drewN (q+m):=
 h.mono fun _ _ ⟨he,m,hm⟩=>⟨he,n+m,by rw[hm,World.drewN_drewN,Nat.add_assoc]⟩
def fk (x:Gd):List Value:=[.int .i64 x.wire,.bool x.no]
theorem CU (x:Gd) (cs:List Value) (h:aW x cs):cs=fk x:=h.1
theorem lJ (x:Gd):(fk x).length=2:=rfl
theorem oE (x:Gd):∀u∈fk x,u.oneCell'=true:=by
 intro u hu
 simp only[fk,List.mem_cons,List.not_mem_nil,or_false] at hu
 rcases hu with rfl|rfl<;>rfl
theorem lN:(Tryz.prog.info? 61).map (fun i=>(i.zero,i.size,i.bytes))=some (some (.agg #[.int .i64 0,.bool false]),2,16):=by kernel_rfl
theorem qG (l:List Gd) (v:Value) (w:World) (h:aI w w.heap.size 2 aW v l) (hl:l.length<=100000):
  Calls Tryz.prog 85 #[v] w (Bn 61 2 fk l w):=by
 obtain ⟨A,cap,rfl,h1,h2,h3⟩:=h
 have hq:=fun (w:World) (a:Option Addr) (n c:Nat)=>Lib.run_eql_slice_nil (P:=Tryz.prog) w 50 61 a n c 0 0 Tryz.underlying50
 rcases A with _|ad
 ·have h0:=h3.none
  subst h0
  go_enter Tryz.func85,Tryz.ntmps85
  go_wp2_with fail
  go_ret
  exact ⟨_,rfl,⟨by simp,.inl ⟨rfl,rfl⟩⟩,Below.refl _ _⟩
 ·refine' zq270
  obtain ⟨i0,hi0,hz0,hz1,hz2⟩:=info_parts lN
  go_enter Tryz.func85,Tryz.ntmps85
  go_wp2_with (at_builtin;refine wpList_append_own _ rfl _ _ 50 rfl w.heap.size 61 i0 (.agg #[.int .i64 0,.bool false]) 2 16 Tryz.underlying50 hi0 hz0 hz1 hz2 rfl (by decide) _ _ _ rfl (fG w 61 2) ad l.length cap (l.map fk).flatten rfl ?c0 ?c1 ?c2 ?c3 ?c4 ?c5 ?_)
  case c0=>exact HL.o
  case c1=>exact hN
  case c2=>exact HO.o
  case c3=>unfold maxLen;omega
  case c4=>omega
  case c5=>simp
  refine' zq250
  go_wp2_with fail
  go_ret
  exact ⟨_,rfl,hown,bb⟩
theorem bI.wire {w:World} {B L:Nat} {f:Fm} {vw va vc vk vi vo vb ve:Value} (h:bI w B L f vw va vc vk vi vo vb ve) {n:Int} (hn:ak f n):
  ∃(m:Nat) (b off cw:Nat) (Ag:Option Addr) (cg:Nat),n=m/\m<f.wires.length/\vw= .slice (some ⟨b,off,none⟩) f.wires.length cw/\f.wires.length<=cw/\cw<=9223372036854775807/\b<B/\Wf (ag f n)/\
   w.cell? ⟨b,off+m*2,none⟩=some (.int .i64 (ag f n))/\w.cell? ⟨b,off+m*2+1,none⟩=some (.slice Ag (aa f n).length cg)/\(aa f n).length<=cg/\cg<=maxLen/\Sl w B 2 aW Ag (aa f n):=by
 refine' zq113
 obtain ⟨A,cw,rfl,lw,mw,sw⟩:=h.fm.wires
 obtain ⟨b,off,x,Ag,cg,rfl,hb,hx,wx,d0,d1,lg,mg,sg⟩:=sw.wr hm
 have e:jZ f m=x:=bW hx
 unfold maxLen at mw
 refine ⟨m,b,off,cw,Ag,cg,rfl,hm,rfl,lw,by omega,hb,?_,?_,?_,?_,mg,?_⟩
 all_goals simp only[ag,aa,e]
 all_goals assumption
section
variable {w:World} {B L:Nat} {f:Fm} {vw va vc vk vi vo vb ve:Value}
theorem wV (h:bI w B L f vw va vc vk vi vo vb ve) (n:Int) (hn:ak f n):
  Calls Tryz.prog 64 #[.pointer (some ⟨L,0,none⟩),.int .i64 n] w fun e w'=>e= .returned (.int .i64 (ag f n))/\w=w':=by
 obtain ⟨m,b,off,cw,Ag,cg,rfl,hm,rfl,lw,mw,hb,wt,d0,d1,lg,mg,sg⟩:=h.wire hn
 have q0:=h.row.cell 0
 simp only[List.getElem?_toArray,List.getElem?_cons_zero] at q0
 generalize ag f m=T at*
 clear h hn sg
 go_enter Tryz.func64,Tryz.ntmps64
 go_wp2_with fail
 go_ret
 exact ⟨rfl,rfl⟩
def jj (f:Fm) (l:List Int):Prop:=∀n∈l,aa f n=aa f (l.headD 0)
theorem yz {l:List Int} {k:Nat} {n x0:Int} (h0:l[0]? =some x0) (h:l[k]? =some n) (hn:aa f n≠aa f x0):¬jj f l:=fun g=>by
 have:=g n (List.mem_of_getElem? h)
 cases l with
 |nil=>simp at h0
 |cons a l=>simp at h0;subst h0;exact hn this
theorem wW {l:List Int} {x0:Int} (h0:l[0]? =some x0) (h:∀j,j<l.length->∀n,l[j]? =some n->aa f n=aa f x0):jj f l:=fun n hn=>by
 obtain ⟨j,hj⟩:=List.getElem?_of_mem hn
 have:=h j (List.getElem?_eq_some_iff.1 hj).1 n hj
 cases l with
 |nil=>simp at h0
 |cons a l=>simp at h0;subst h0;exact this
theorem nS (h:bI w B L f vw va vc vk vi vo vb ve) (l:List Int) (v:Value) (B':Nat) (hv:aI w B' 1 aP v l) (hl:0<l.length) (hW:∀n∈l,ak f n):
  Calls Tryz.prog 65 #[.pointer (some ⟨L,0,none⟩),v] w fun e w'=>e= .returned (.bool (cB (jj f l)))/\∃k,w'=w.drewN k:=by
 refine' zq207
 obtain ⟨b0,off0,x0,rfl,hb0,hx0,wx0,e0⟩:=sv.int hl
 have q0:=h.row.cell 0
 simp only[List.getElem?_toArray,List.getElem?_cons_zero] at q0
 obtain ⟨m0,b,off,cw,Ag,cg,rfl,hm0,rfl,lw,mw,hb,wt,d0,d1,lg,mg,sg⟩:=h.wire (hW x0 (List.mem_of_getElem? hx0))
 have HX0:=zH hx0
 have HW:=zH hW
 have HK:=zH h
 rw[Nat.add_zero] at e0
 clear hx0 hW h d0 wt
 go_enter Tryz.func65,Tryz.ntmps65
 go_wp2_with fail
 go_loopw[9] (fun i wr=>∃k:Nat,k<=l.length/\i= .int .i64 k/\Hid (∀j,j<k->∀n,l[j]? =some n->aa f n=aa f m0)/\∃q,wr=w.drewN q) (fun i _=>l.length-(intOf i).toNat)
 case atStart=>exact ⟨0,Nat.zero_le _,rfl,fun j h=>absurd h (by omega),0,rfl⟩
 case round=>
  obtain ⟨k,hk,rfl,HN,q,rfl⟩:=hrel
  by_cases hlt:k<l.length
  ·obtain ⟨b1,off1,n,hA,hb1,hn,wn,e1⟩:=sv.int hlt
   injection hA with hA
   injection hA with h1 h2
   subst h1;subst h2
   have HNn:=zH hn
   obtain ⟨m,b2,off2,cw2,Ag2,cg2,rfl,hm,hv2,_,_,_,wt2,d2,d3,lg2,mg2,sg2⟩:=HK.o.wire (HW.o n (List.mem_of_getElem? hn))
   injection hv2 with h1 h2 h3
   injection h1 with h1
   injection h1 with h1 h4
   subst h1;subst h4
   clear hn h3 h2 d2 wt2
   have HC:=zH (fun k=>hI (aa f m) (aa f m0) (.slice Ag2 (aa f m).length cg2) (.slice Ag (aa f m0).length cg) B (w.drewN (q+k)) ⟨_,_,rfl,lg2,mg2,sg2⟩ ⟨_,_,rfl,lg,mg,sg⟩)
   have hk1:(k:Int)<l.length:=by omega
   have hl0:(0:Int)<l.length:=by omega
   have hm1:(m:Int)<f.wires.length:=by omega
   have hm2:(m0:Int)<f.wires.length:=by omega
   by_cases e:aa f m=aa f m0
   ·rw[aq e] at HC
    have HN':=zH (aC HN.o (fun n' hn'=>by rw[HNn.o] at hn';injection hn' with hn';rw[<-hn'];exact e))
    refine' zq255
    go_wp2_with fail
    go_roundw
    case rel=>exact ⟨k+1,by omega,by go_num,HN',by first|exact ⟨_,rfl⟩|(rw[World.drewN_drewN];exact ⟨_,rfl⟩)⟩
    case measure=>first|(simp[intOf];omega)|simp[intOf]
   ·rw[ab e] at HC
    have HF:=zH (ab (yz (f:=f) HX0.o HNn.o e))
    refine' zq255
    refine' zq66
  ·obtain rfl:k=l.length:=by omega
   have HF:=zH (aq (wW (f:=f) HX0.o HN.o))
   refine' zq66
end
theorem od {W:World} {g:Nat} {t:TypeId} {l:List Int} (hr:ai W g (l.map (Value.int .i64)).toArray t) (hw:∀x∈l,Wf x) (hl:l.length<=maxLen):aI W (g+1) 1 aP (.slice (some ⟨g,0,none⟩) l.length l.length) l:=by
 refine ⟨_,_,rfl,Nat.le_refl _,hl,fun _=>⟨_,_,rfl,by omega,fun i x hx=>⟨[.int .i64 x],fun j u hu=>?_,rfl,hw x (List.mem_of_getElem? hx)⟩⟩⟩
 match j,hu with
 |0,hu=>
  simp at hu
  subst hu
  refine (hr.cell _).trans ?_
  rw[List.getElem?_toArray,List.getElem?_map]
  simp[hx]
theorem CC {W:World} {a b:Int} (ha:Wf a) (hb:Wf b):aI (W.alloc (.cells #[.int .i64 a,.int .i64 b] 3)) (W.heap.size+1) 1 aP (.slice (some ⟨W.heap.size,0,none⟩) 2 2) [a,b]:=
 od (l:=[a,b]) (ai.new W _ _) (by simp[ha,hb]) (by simp[maxLen])
theorem pr {W:World} {a b c:Int} (ha:Wf a) (hb:Wf b) (hc:Wf c):aI (W.alloc (.cells #[.int .i64 a,.int .i64 b,.int .i64 c] 3)) (W.heap.size+1) 1 aP (.slice (some ⟨W.heap.size,0,none⟩) 3 3) [a,b,c]:=
 od (l:=[a,b,c]) (ai.new W _ _) (by simp[ha,hb,hc]) (by simp[maxLen])
theorem yD {W:World} {a b c d:Int} (ha:Wf a) (hb:Wf b) (hc:Wf c) (hd:Wf d):aI (W.alloc (.cells #[.int .i64 a,.int .i64 b,.int .i64 c,.int .i64 d] 3)) (W.heap.size+1) 1 aP (.slice (some ⟨W.heap.size,0,none⟩) 4 4) [a,b,c,d]:=
 od (l:=[a,b,c,d]) (ai.new W _ _) (by simp[ha,hb,hc,hd]) (by simp[maxLen])
theorem iq (w:World) (t:TypeId) (x y:Value):∀j u,[x,y][j]? =some u->(w.alloc (.cells #[x,y] t)).cell? ((⟨w.heap.size,0,none⟩:Addr).add j)=some u:=by
 intro j u h
 rw[Addr.add_lit,Nat.zero_add]
 refine ((ai.new w #[x,y] t).cell j).trans ?_
 rw[List.getElem?_toArray]
 exact h
section
variable {w:World} {B L:Nat} {f:Fm} {vw va vc vk vi vo vb ve:Value}
theorem tg {W:World} {base:Nat} {v:Value} {l:List Gd} {g:Gd} (h:W.ownsRow base 61 2 v (l.length+1) ((l.map fk).flatten++ [.int .i64 g.wire,.bool g.no])) (ha:∀x∈l++ [g],aW x (fk x)):aI W W.heap.size 2 aW v (l++ [g]):=by
 refine (fV (css:=(l++ [g]).map fk) (n:=l.length+1) (base:=base) (e:=61) ?_ (ep.map ha) (fun cs hcs=>by obtain ⟨y,_,rfl⟩:=List.mem_map.1 hcs;rfl) (by decide)).1
 rw[List.map_append,List.flatten_append]
 exact h
end
end Go.Proofs.YtckognjamlckcaaGreatDoor
