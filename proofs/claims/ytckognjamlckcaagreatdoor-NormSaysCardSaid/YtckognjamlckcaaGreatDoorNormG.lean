/-
  norm's looker: cells.
-/
import Derived.Test.YtckognjamlckcaaGreatDoorNmD
set_option maxHeartbeats 8000000
set_option maxRecDepth 100000
namespace Go.Proofs.YtckognjamlckcaaGreatDoor
open Go.RowKit Vf Fo
attribute [local go_sem ↓] Go.wp_at_zero Go.wp_at_succ
section
variable {w w':World} {B L:Nat} {f:Fm} {vw va vc vk vi vo vb ve:Value}
theorem bQ.upd (h:bQ w B f vw va vc vk vi vo) {X:Nat->Prop} (hX:∀k,k<B->¬X k) (hB:B<=w.heap.size) (u:ae X w w'):bQ w' B f vw va vc vk vi vo:=
 h.keep (fun p v hp hc=>(World.cell?_of_block (u.block p.block (by omega) (hX _ hp))).trans hc) (Nat.le_refl _)
theorem ai.eight {W:World} {b:Nat} {x0 x1 x2 x3 x4 x5 x6 x7:Value} {t:TypeId} (h:ai W b #[x0,x1,x2,x3,x4,x5,x6,x7] t):(W.cell? ⟨b,0,none⟩=some x0/\W.cell? ⟨b,1,none⟩=some x1/\W.cell? ⟨b,2,none⟩=some x2/\W.cell? ⟨b,3,none⟩=some x3/\W.cell? ⟨b,4,none⟩=some x4/\W.cell? ⟨b,5,none⟩=some x5/\W.cell? ⟨b,6,none⟩=some x6/\W.cell? ⟨b,7,none⟩=some x7)/\W.frozen? ⟨b,6,none⟩=false/\W.frozen? ⟨b,7,none⟩=false:=
 ⟨⟨(h.cell 0).trans rfl,(h.cell 1).trans rfl,(h.cell 2).trans rfl,(h.cell 3).trans rfl,(h.cell 4).trans rfl,(h.cell 5).trans rfl,(h.cell 6).trans rfl,(h.cell 7).trans rfl⟩,h.frozen 6,h.frozen 7⟩
theorem ae.trans_new {X Y:Nat->Prop} {a w w':World} (h:ae X a w) (k:ae Y w w') (hY:∀i,i<a.heap.size->Y i->X i):ae X a w':=
 ⟨k.os.trans h.os,k.tape.trans h.tape,k.output.trans h.output,Nat.le_trans h.size k.size,fun i hi hX=>(k.block i (Nat.lt_of_lt_of_le hi h.size) (fun g=>hX (hY i hi g))).trans (h.block i hi hX)⟩
theorem bI.updK {w w':World} {B L:Nat} {f:Fm} {vw va vc vk vi vo vb ve:Value} (h:bI w B L f vw va vc vk vi vo vb ve) {K:Nat} (u:ae (fun k=>k=K) w w') (hK:K≠L) (hBK:B<=K) (hB:B<=w.heap.size):bI w' B L f vw va vc vk vi vo vb ve:=
 ⟨u.row h.row (fun e=>hK e.symm),h.fm.upd (fun k hk e=>by omega) hB u⟩
structure tR (w:World) (L K:Nat) (ks:List Int):Prop where
 row:ai w K (al ks).toArray 3
 ne:K≠L
theorem ik {W:World} {K m:Nat} {ks:List Int} {t:TypeId} (h:ai W K (al ks).toArray t) (hm:m<ks.length):W.cell? ⟨K,m,none⟩=some (.int .i64 (ao ks m)):=by
 refine (h.cell m).trans ?_
 rw[List.getElem?_toArray,al,List.getElem?_map,List.getElem?_eq_getElem hm]
 simp[ao,List.getD_eq_getElem?_getD,List.getElem?_eq_getElem hm]
theorem nu {W:World} {K m:Nat} {ks:List Int} {t:TypeId} (h:ai W K (al ks).toArray t) (v:Int):ai (W.setCell ⟨K,m,none⟩ (.int .i64 v)) K (al (ks.set m v)).toArray t:=by
 have:=h.set m (.int .i64 v)
 rw[List.setIfInBounds_toArray] at this
 rw[al,List.map_set]
 exact this
def ip (w:World) (B L:Nat) (f:Fm) (vw va vc vk vi vo vb:Value) (e:Ending) (w':World):Prop:=∃(r:Bool) (ve:Value),e= .returned (.bool r)/\(r=true↔du f)/\bI w' B L f vw va vc vk vi vo vb ve/\ae (fun k=>k=L) w w'/\
 (r=true->∃K ks,ve= .slice (some ⟨K,0,none⟩) f.cells.length f.cells.length/\tR w' L K ks/\ks.length=f.cells.length/\∀c:Nat,c<f.cells.length->ao ks c=(kept f c).getD (-1))
theorem ip.no {w w':World} {e:Ending} (he:e= .returned (.bool false)) (hn:¬du f) (h:bI w' B L f vw va vc vk vi vo vb ve) (u:ae (fun k=>k=L) w w'):ip w B L f vw va vc vk vi vo vb e w':=
 ⟨false,ve,he,⟨fun g=>by simp at g,fun g=>absurd g hn⟩,h,u,fun g=>by simp at g⟩
end
theorem uU {w:World} {B L:Nat} {f:Fm} {vw va vc vk vi vo vb ve:Value} (h:bI w B L f vw va vc vk vi vo vb ve) (hBL:B<=L) (hcl:f.cells.length<=1600):
  Calls Tryz.prog 26 #[.pointer (some ⟨L,0,none⟩)] w (ip w B L f vw va vc vk vi vo vb):=by
 have hLlt:=h.row.lt
 obtain ⟨⟨q0,q1,q2,q3,q4,q5,q6,q7⟩,_,lf⟩:=h.row.eight
 obtain ⟨Ac,cc,rfl,lc,mc,sc⟩:=h.fm.cells
 obtain ⟨Ak,ck,rfl,lk,mk,sk⟩:=h.fm.keeps
 obtain ⟨Aw,cw,rfl,lw,mw,sw⟩:=h.fm.wires
 refine' zq220
 have mk':ck<=9223372036854775807:=by unfold maxLen at mk;omega
 refine' zq62
 have HH:=zH h
 have b0:=(Below.refl w.heap.size w).alloc (Nat.le_refl _) (.cells #[.int .i64 (-1)] 3)
 have HR:=zH (nJ (-1) f.cells.length w.heap.size 0 1 hcl (w.alloc (.cells #[.int .i64 (-1)] 3)) (by simp) (by simp))
 clear h sc sk sw q1 q3 q4 q5 q6
 go_enter Tryz.func26,Tryz.ntmps26
 refine' zq267
 have rL:=HH.o.row.below hb hLlt
 obtain ⟨⟨p0,p1,p2,p3,p4,p5,p6,p7⟩,_,pf⟩:=rL.eight
 have hKL:K≠L:=by simp at hK;omega
 have hwK:w.heap.size<=K:=by simp at hK;omega
 have rL2:=rL.set 7 (.slice (some ⟨K,0,none⟩) f.cells.length f.cells.length)
 have rK2:=rK.far (p:=⟨L,7,none⟩) hKL (.slice (some ⟨K,0,none⟩) f.cells.length f.cells.length)
 have u2:ae (fun k=>k=L) w (w1.setCell ⟨L,7,none⟩ (.slice (some ⟨K,0,none⟩) f.cells.length f.cells.length)):=ae.setCell (X:=fun k=>k=L) (ae.of_below hb) rfl _
 have hN2:bI (w1.setCell ⟨L,7,none⟩ (.slice (some ⟨K,0,none⟩) f.cells.length f.cells.length)) B L f (.slice Aw f.wires.length cw) va (.slice Ac f.cells.length cc) (.slice Ak f.keeps.length ck) vi vo vb (.slice (some ⟨K,0,none⟩) f.cells.length f.cells.length):=
  ⟨by simpa using rL2,HH.o.fm.upd (fun k hk e=>by omega) (by omega) u2⟩
 have hKlt2:K<(w1.setCell ⟨L,7,none⟩ (.slice (some ⟨K,0,none⟩) f.cells.length f.cells.length)).heap.size:=rK2.lt
 clear hb1 b0 q0 q2 q7 lf HR p1 p3 p4 p5 p6
 go_upto_region 2 with (fail)
 clear p0 p2 p7 pf rL rL2 rK hb
 generalize w1.setCell ⟨L,7,none⟩ (.slice (some ⟨K,0,none⟩) f.cells.length f.cells.length)=w2 at*
 have hB2:B<=w2.heap.size:=by have:=hN2.row.lt;omega
 obtain ⟨⟨p0,p1,p2,p3,p4,p5,p6,p7⟩,_,_⟩:=hN2.row.eight
 clear p1 p3 p4 p5 p6
 have HN2:=zH hN2
 have HU2:=zH u2
 have HRK:=zH rK2
 clear hN2 u2 rK2 hK
 go_wp2_with fail
 go_loopw[24] (fun i wr=>∃k:Nat,k<=f.cells.length/\i= .int .i64 k/\Hid (∀j,j<k->∀x,f.cells[j]? =some x->bN x.1 x.2)/\Below w2.heap.size w2 wr) (fun i _=>f.cells.length-(intOf i).toNat)
 case atStart=>exact ⟨0,Nat.zero_le _,rfl,fun j h=>absurd h (by omega),Below.refl _ _⟩
 case round=>
  clear p0 p2 p7
  obtain ⟨k,hk,rfl,HV,hb⟩:=hrel
  have hN:=HN2.o.below hB2 hb
  by_cases hlt:k<f.cells.length
  ·obtain ⟨A',c',he,_,_,sc⟩:=hN.fm.cells
   injection he with he1 he2 he3
   subst he1
   obtain ⟨b,off,x,rfl,hbb,hx,wx1,wx2,d0,d1⟩:=sc.cell hlt
   have HX:=zH hx
   have hB3:B<=wr.heap.size:=Nat.le_trans hB2 hb.size
   have ba:=(Below.refl wr.heap.size wr).alloc (Nat.le_refl _) (.cells #[.int .i64 x.1,.int .i64 x.2] 67)
   obtain ⟨c0,c1⟩:=(ai.new wr #[.int .i64 x.1,.int .i64 x.2] 67).two'
   have hbt:=hb.trans (ba.mono hb.size)
   have hNt:=zH (HN2.o.below hB2 hbt)
   clear he2 he3 hx hN sc
   go_upto_region 5 with (fail)
   generalize wr.alloc (.cells #[.int .i64 x.1,.int .i64 x.2] 67)=w3 at*
   clear d0 d1 ba
   by_cases hv:bN x.1 x.2
   ·have HV':=zH (aC HV.o (fun y hy=>by rw[HX.o] at hy;injection hy with hy;rw[<-hy];exact hv))
    have HT:=zH (gP x.1 x.2 w3)
    rw[aq hv] at HT
    clear hv
    go_wp2_with fail
    refine HT.o.mono ?_
    rintro e w' ⟨rfl,rfl⟩
    go_wp2_with fail
    go_roundw
    case rel=>exact ⟨k+1,by omega,by go_num,HV',hbt⟩
    case measure=>first|(simp[intOf];omega)|simp[intOf]
   ·have HF:=zH (pG (f:=f) HX.o hv)
    have HT:=zH (gP x.1 x.2 w3)
    rw[ab hv] at HT
    clear hv
    go_wp2_with fail
    refine HT.o.mono ?_
    refine' zq163
    exact ip.no rfl HF.o hNt.out (HU2.o.trans (ae.of_below (hbt.mono (Nat.le_refl _))))
  obtain rfl:k=f.cells.length:=by omega
  obtain ⟨⟨p0,p1,p2,p3,p4,p5,p6,p7⟩,_,_⟩:=hN.row.eight
  clear p1 p4 p5 p6
  have HUr:=zH (HU2.o.trans (ae.of_below hb))
  have HNr:=zH hN
  have HKr:=zH (HRK.o.below hb hKlt2)
  have hKltr:=HKr.o.lt
  have hBr:B<=wr.heap.size:=Nat.le_trans hB2 hb.size
  clear hN
  go_wp2_with fail
  refine' zq148
  go_loopw[41] (fun i w3=>∃(j:Nat) (ks:List Int),j<=f.keeps.length/\i= .int .i64 j/\Hid (iD f j ks)/\ai w3 K (al ks).toArray 3/\ae (fun k=>k=K) wo w3) (fun i _=>f.keeps.length-(intOf i).toNat)
  case atStart=>exact ⟨0,List.replicate f.cells.length (-1),Nat.zero_le _,rfl,tV f,by rw[al,List.map_replicate];exact HKr.o,ae.refl _ _⟩
  case round=>
   clear p0 p2 p3 p7
   obtain ⟨j,ks,hj,rfl,HKS,rK,uK⟩:=hrel
   have hN:=HNr.o.updK uK hKL (by omega) hBr
   have hBw:B<=wr.heap.size:=Nat.le_trans hBr uK.size
   have HUw:=zH (HUr.o.trans_new uK (fun i hi e=>by omega))
   obtain ⟨⟨p0,p1,p2,p3,p4,p5,p6,p7⟩,_,_⟩:=hN.row.eight
   clear p1 p3 p4 p5 p6
   by_cases hlt:j<f.keeps.length
   rotate_left 1
   ·obtain rfl:j=f.keeps.length:=by omega
    have HE:=zH (xZ HV.o HKS.o)
    have HNw:=zH hN
    have HKE:=zH (fun (c:Nat) (hc:c<f.cells.length)=>yI HKS.o hc)
    have HRK2:=zH rK
    by_cases h60:f.cells.length<=60
    rotate_left 1
    ·have HF:=zH (fun g=>h60 (HE.o.1 g).1)
     have e60:decide ((f.cells.length:Int)<=60)=false:=by simp;omega
     have e60':decide (f.cells.length<=60)=false:=by simp;omega
     clear hN rK h60
     go_wp2_with fail
     go_ret
     exact ip.no rfl HF.o HNw.o HUw.o
    have e60:decide ((f.cells.length:Int)<=60)=true:=by simp;omega
    have e60':decide (f.cells.length<=60)=true:=by simp;omega
    have HC:Hid (Calls Tryz.prog 61 #[.slice (some ⟨K,0,none⟩) f.cells.length f.cells.length,.int .i64 (-1)] wr fun e w'=>e= .returned (.bool (cB ((-1:Int)∈ks)))/\wr=w'):=by
     have:=kU (l:=ks) (by simpa[al] using rK) (by rw[HKS.o.len];omega) (-1)
     rw[HKS.o.len] at this
     exact this
    have HQ:Hid (cB ((-1:Int)∈ks)=false↔du f):=by
     show _↔_
     rw[fO,HE.o]
     exact ⟨fun g=>⟨h60,g⟩,fun g=>g.2⟩
    have HKL:=zH HKS.o.len
    clear hN rK h60
    generalize cB ((-1:Int)∈ks)=bb at*
    go_wp2_with fail
    refine HC.o.mono ?_
    refine' zq163
    exact ⟨!bb,_,rfl,by rw[<-HQ.o];cases bb<;>simp,HNw.o,HUw.o,fun _=>⟨K,ks,rfl,⟨HRK2.o,hKL⟩,HKL.o,HKE.o⟩⟩
   obtain ⟨A',c',he,_,_,sk⟩:=hN.fm.keeps
   injection he with he1 he2 he3
   subst he1
   obtain ⟨b,off,⟨c0,fr⟩,hAk,hbb,hx,wx1,wx2,d0,d1⟩:=sk.cell hlt
   subst hAk
   have HX:=zH hx
   dsimp only at wx1 wx2 d0 d1
   have ba:=(Below.refl wr.heap.size wr).alloc (Nat.le_refl _) (.cells #[.int .i64 c0,.int .i64 fr] 103)
   have r6:=ai.new wr #[.int .i64 c0,.int .i64 fr] 103
   have hN4:=hN.below hBw ba
   have u4:=HUw.o.trans_new (ae.of_below ba) (fun i hi e=>e)
   have rK4:=rK.below ba rK.lt
   have uK4:ae (fun k=>k=K) wo (wr.alloc (.cells #[.int .i64 c0,.int .i64 fr] 103)):=uK.alloc _
   have hB4:B<=(wr.alloc (.cells #[.int .i64 c0,.int .i64 fr] 103)).heap.size:=Nat.le_trans hBw ba.size
   clear he2 he3 hx hN sk
   go_upto_region 11 with (fail)
   generalize hg6:wr.heap.size=g6 at*
   generalize wr.alloc (.cells #[.int .i64 c0,.int .i64 fr] 103)=w4 at*
   clear d0 d1 ba p0 p2 p7 hg6
   have HNn:Hid (∀W,Below w4.heap.size w4 W->bI W B L f (.slice Aw f.wires.length cw) va (.slice Ac f.cells.length cc) (.slice (some ⟨b,off,none⟩) f.keeps.length ck) vi vo vb (.slice (some ⟨K,0,none⟩) f.cells.length f.cells.length)/\ae (fun k=>k=L) w W):=fun W hW=>⟨hN4.below hB4 hW,u4.trans (ae.of_below hW)⟩
   have HS:Hid (∀W,Below w4.heap.size w4 W->W.cell? ⟨L,0,none⟩=some (.slice Aw f.wires.length cw)/\W.cell? ⟨L,2,none⟩=some (.slice Ac f.cells.length cc)/\W.cell? ⟨L,7,none⟩=some (.slice (some ⟨K,0,none⟩) f.cells.length f.cells.length)/\W.cell? ⟨g6,0,none⟩=some (.int .i64 (c0))/\W.cell? ⟨g6,1,none⟩=some (.int .i64 (fr))):=fun W hW=>by
    obtain ⟨⟨p0,p1,p2,p3,p4,p5,p6,p7⟩,_,_⟩:=(HNn.o W hW).1.row.eight
    have h6:=(r6.below hW r6.lt).two'
    exact ⟨p0,p2,p7,h6.1,h6.2⟩
   have HKS2:=zH (fun (hn:¬(jV f (c0,fr)/\ao ks c0= -1))=>pK HKS.o HX.o hn)
   by_cases h1:c0<0
   ·have HF:=zH (HKS2.o (fun g=>by have:=g.1.1;dsimp only at this;omega))
    have e1:decide (c0<0)=true:=by simpa using h1
    refine wp_region_held_drew (S:=fun W=>W.cell? ⟨L,0,none⟩=some (.slice Aw f.wires.length cw)/\W.cell? ⟨L,2,none⟩=some (.slice Ac f.cells.length cc)/\W.cell? ⟨L,7,none⟩=some (.slice (some ⟨K,0,none⟩) f.cells.length f.cells.length)/\W.cell? ⟨g6,0,none⟩=some (.int .i64 (c0))/\W.cell? ⟨g6,1,none⟩=some (.int .i64 (fr))) (by kernel_rfl) ?_ (fun hHeld=>?_)
    ·refine' zq21
    refine' zq258
    refine sk 4 (some 49) rfl ?_
    refine sk 5 (some 50) rfl ?_
    refine sk 6 (some 51) rfl ?_
    refine sk 7 (some 52) rfl ?_
    refine sk 8 (some 53) rfl ?_
    refine sk 9 (some 54) rfl ?_
    refine sk 10 (some 55) rfl ?_
    refine sk 11 (some 56) rfl ?_
    refine sk 12 (some 57) rfl ?_
    refine' zq96
   have e1:decide (c0<0)=false:=by simpa using h1
   obtain ⟨m,hm⟩:=Int.eq_ofNat_of_zero_le (by omega:0<=c0)
   subst hm
   by_cases h2:(f.cells.length:Int)<=m
   ·have HF:=zH (HKS2.o (fun g=>by have:=g.1.2.1;dsimp only at this;omega))
    have e2:decide ((f.cells.length:Int)<=m)=true:=by simpa using h2
    have e2':decide (f.cells.length<=m)=true:=by simp;omega
    refine wp_region_held_drew (S:=fun W=>W.cell? ⟨L,0,none⟩=some (.slice Aw f.wires.length cw)/\W.cell? ⟨L,2,none⟩=some (.slice Ac f.cells.length cc)/\W.cell? ⟨L,7,none⟩=some (.slice (some ⟨K,0,none⟩) f.cells.length f.cells.length)/\W.cell? ⟨g6,0,none⟩=some (.int .i64 ((m:Int)))/\W.cell? ⟨g6,1,none⟩=some (.int .i64 (fr))) (by kernel_rfl) ?_ (fun hHeld=>?_)
    ·refine' zq21
    refine' zq151
    refine' zq96
   have hml:m<f.cells.length:=by omega
   have e2:decide ((f.cells.length:Int)<=m)=false:=by simp;omega
   have e2':decide (f.cells.length<=m)=false:=by simp;omega
   have hks:m<ks.length:=by rw[HKS.o.len];exact hml
   have HKm:Hid (∀W,Below w4.heap.size w4 W->W.cell? ⟨L,0,none⟩=some (.slice Aw f.wires.length cw)/\W.cell? ⟨L,2,none⟩=some (.slice Ac f.cells.length cc)/\W.cell? ⟨L,7,none⟩=some (.slice (some ⟨K,0,none⟩) f.cells.length f.cells.length)/\W.cell? ⟨g6,0,none⟩=some (.int .i64 ((m:Int)))/\W.cell? ⟨g6,1,none⟩=some (.int .i64 (fr))/\W.cell? ⟨K,m,none⟩=some (.int .i64 (ao ks m))):=fun W hW=>by
    obtain ⟨a1,a2,a3,a4,a5⟩:=HS.o W hW
    exact ⟨a1,a2,a3,a4,a5,ik (rK4.below hW rK4.lt) hks⟩
   have hm':(m:Int)<f.cells.length:=by omega
   have hKl:K<w4.heap.size:=rK4.lt
   have hg6l:g6<w4.heap.size:=r6.lt
   have HKS3:=zH (fun (hk:jV f ((m:Int),fr)) (hf:ao ks m= -1)=>uk HKS.o HX.o hk hf)
   have HKL:=zH HKS.o.len
   clear h1 h2 hks
   generalize ao ks (m:Int)=V at*
   by_cases h3:V= -1
   rotate_left 1
   ·have HF:=zH (HKS2.o (fun g=>h3 g.2))
    have e3:(V != -1)=true:=by simp[h3]
    clear h3
    refine' zq107
    refine' zq282
   have e3:(V != -1)=false:=by simp[h3]
   have HV3:=zH h3
   have HI:Hid (∀W V,Below w4.heap.size w4 W->cB (ak f fr)=V->Calls Tryz.prog 58 #[.pointer (some ⟨L,0,none⟩),.slice (some ⟨W.heap.size,0,none⟩) 1 1] (W.alloc (.cells #[.int .i64 fr] 3)) fun e w'=>e= .returned (.bool V)/\W.alloc (.cells #[.int .i64 fr] 3)=w'):=fun W V hW hV=>ql wx2 (HNn.o _ (hW.alloc hW.size _)).1 hV
   clear h3
   by_cases h4:ak f fr
   rotate_left 1
   ·have HF:=zH (HKS2.o (fun g=>h4 g.1.2.2.1))
    have hV:=zH (ab h4)
    clear h4
    refine' zq107
    refine tk 26 (some 71) rfl ?_
    refine tk 27 (some 72) rfl ?_
    refine tk 28 (some 73) rfl ?_
    refine aH 29 (some 74) rfl (fun KK hKK=>?_)
    go_simp
    refine hKK.out _ _ ?_ (fun hHeld=>?_)
    ·(try dsimp only);(first|(with_reducible exact HKm.o _ bE)|go_keep)
    refine' zq4
    refine' zq280
    refine hKK.out _ _ ?_ (fun hHeld=>?_)
    ·(try dsimp only);(first|(with_reducible exact HKm.o _ bE)|go_keep)
    refine' zq4
    refine tk 31 (some 76) rfl ?_
    refine' zq22
   have hV:=zH (aq h4)
   have H4:=zH h4
   obtain ⟨n,b2,off2,cw2,Ag2,cg2,rfl,hn,hv2,_,_,hb2,wt2,y0,y1,_,_,_⟩:=hN4.wire h4
   injection hv2 with h1 h2 h3
   subst h1
   obtain ⟨A',c',he,_,_,sc⟩:=hN4.fm.cells
   injection he with he1 he2 he3
   subst he1
   obtain ⟨b3,off3,xc,hAc,hb3,hxc,_,_,z0,z1⟩:=sc.cell hml
   subst hAc
   have HT2:=zH (show ao (dQ f.cells) m=xc.1 from ot (ii hxc))
   have hn':(n:Int)<f.wires.length:=by omega
   clear he2 he3 h2 h3 y1 z1 hxc sc h4
   generalize hT1:ag f n=T1 at*
   generalize xc.1=T2 at*
   have HT1:=zH hT1
   have HS5:Hid (∀W,Below w4.heap.size w4 W->W.cell? ⟨L,0,none⟩=some (.slice (some ⟨b2,off2,none⟩) f.wires.length cw)/\W.cell? ⟨L,2,none⟩=some (.slice (some ⟨b3,off3,none⟩) f.cells.length cc)/\W.cell? ⟨L,7,none⟩=some (.slice (some ⟨K,0,none⟩) f.cells.length f.cells.length)/\W.cell? ⟨g6,0,none⟩=some (.int .i64 ((m:Int)))/\W.cell? ⟨g6,1,none⟩=some (.int .i64 ((n:Int)))/\W.cell? ⟨K,m,none⟩=some (.int .i64 V)/\W.cell? ⟨b2,off2+n*2,none⟩=some (.int .i64 T1)/\W.cell? ⟨b3,off3+m*2,none⟩=some (.int .i64 T2)):=fun W hW=>by
    obtain ⟨a1,a2,a3,a4,a5,a6⟩:=HKm.o W hW
    exact ⟨a1,a2,a3,a4,a5,a6,cell_kept y0 hW,cell_kept z0 hW⟩
   clear hT1 y0 z0
   by_cases h5:T1=T2
   rotate_left 1
   ·have HF:=zH (HKS2.o (fun g=>h5 (HT1.o.symm.trans (g.1.2.2.2.trans HT2.o))))
    have e5:(T1 !=T2)=true:=by simp[h5]
    refine' zq16
    go_wp2_with fail
    go_ret
    exact ip.no rfl HF.o (HNn.o _ bE).1 (HNn.o _ bE).2
   have HOK:=zH (HKS3.o ⟨by dsimp only;omega,hm',H4.o,by dsimp only;rw[HT1.o,HT2.o,h5]⟩ HV3.o)
   have e5:(T1 !=T2)=false:=by simp[h5]
   refine' zq16
   go_upto_region 13 with (fail)
   have b5:Below w4.heap.size w4 ((w4.alloc (.cells #[.int .i64 (n:Int)] 3)).drew):=bE
   have rK5:=rK4.below b5 rK4.lt
   have uK5:=uK4.trans (ae.of_below b5)
   obtain ⟨a1,a2,a3,a4,a5,a6⟩:=HKm.o _ b5
   generalize (w4.alloc (.cells #[.int .i64 (n:Int)] 3)).drew=w5 at*
   have fK:=rK5.frozen m
   have rK6:=zH (nu (m:=m) rK5 (n:Int))
   have uK6:=zH (ae.setCell (X:=fun k=>k=K) (p:=⟨K,m,none⟩) uK5 rfl (.int .i64 (n:Int)))
   go_region
   go_wp2_with fail
   go_roundw
   case rel=>exact ⟨j+1,ks.set m n,by omega,by go_num,HOK.o,rK6.out.drew,uK6.out.drew⟩
   case measure=>simp[intOf];omega
end Go.Proofs.YtckognjamlckcaaGreatDoor
