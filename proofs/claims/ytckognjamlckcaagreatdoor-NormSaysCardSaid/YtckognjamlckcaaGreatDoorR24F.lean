/-
  The document's Right.
-/
import Derived.Test.YtckognjamlckcaaGreatDoorR24E
import Derived.Test.YtckognjamlckcaaGreatDoorR24C2
import Derived.Test.YtckognjamlckcaaGreatDoorR24C5n
import Derived.Test.YtckognjamlckcaaGreatDoorR24C5t
set_option maxHeartbeats 16000000
set_option maxRecDepth 100000
namespace Go.Proofs.YtckognjamlckcaaGreatDoor
open Go.RowKit Vf Fo
attribute [local go_sem ↓] Go.wp_at_zero Go.wp_at_succ
theorem zy {w:World} {f:Fm} {vw va vc vk vi vo:Value} (h:bQ w w.heap.size f vw va vc vk vi vo) (x:Ac) (wx:eP x) (hd:ak f x.dst) (hcok:du f) (hcl:(aa f x.dst).length<=1600):
  Calls Tryz.prog 36 #[dp vw va vc vk vi vo,fT x] w fun e w'=>e= .returned (.bool (cB (au f x)))/\Below w.heap.size w w':=by
 obtain ⟨op,dst,a,b,c,k⟩:=x
 by_cases hall:cm f a b c
 rotate_left 1
 ·exact rU h op dst a b c k (.inr hall)
 by_cases hu:0<=bl op
 rotate_left 1
 ·exact rU h op dst a b c k (.inl (by omega))
 rcases kE hu with hop|hop|hop|hop|hop|hop|hop|hop|hop
 ·exact Dm h op dst a b c k (by subst hop;rfl) hop hall hd
 ·exact CM h op dst a b c k (by subst hop;rfl) hop hall hd
 ·exact BN h op dst a b c k (by subst hop;rfl) hop hall hd hcok
 ·exact CW h op dst a b c k (by subst hop;rfl) hop hall hd
 ·exact Cj h op dst a b c k (by subst hop;rfl) hop hall hd
 ·by_cases h4:aa f dst=aa f a/\ag f a=2/\ag f dst=ag f b/\ag f dst=ag f c
  ·by_cases he:aa f b=aa f dst++ [⟨a,false⟩]
   ·exact zx h op dst a b c k (by subst hop;rfl) hop hall hd h4 he wx hcl
   ·exact yV h op dst a b c k (by subst hop;rfl) hop hall hd h4 he wx hcl
  ·exact yL h op dst a b c k (by subst hop;rfl) hop hall hd h4 wx hcl
 ·exact Bm h op dst a b c k (by subst hop;rfl) hop hall hd
 ·exact yX h op dst a b c k (by rcases (show op=5\/op=6 by omega) with rfl|rfl<;>rfl) (by omega) hall hd
 ·exact zW h op dst a b c k (by unfold bl;rw[if_neg (by omega),if_neg (by omega),if_pos (by omega)]) hop hall hd
theorem nF (f:Fm) (vw va vc vk vi vo:Value) (w:World) (h:bQ w w.heap.size f vw va vc vk vi vo) (hla:f.acts.length<=100000) (hli:f.ins.length<=100000):
  Calls Tryz.prog 9 #[dp vw va vc vk vi vo] w fun e w'=>e= .returned (.bool (cB (bm f)))/\Below w.heap.size w w':=by
 obtain ⟨Aw,cw,rfl,lw,mw,sw⟩:=h.wires
 obtain ⟨Aa,ca,rfl,la,ma,sa⟩:=h.acts
 obtain ⟨Acl,cc,rfl,lc,mc,sc⟩:=h.cells
 obtain ⟨Ak,ck,rfl,lk,mk,_⟩:=h.keeps
 obtain ⟨Ai,ci,rfl,li,mi,si⟩:=h.ins
 obtain ⟨Ao,co,rfl,lo,mo,so⟩:=h.outs
 refine' zq62
 have ma':ca<=9223372036854775807:=by unfold maxLen at ma;omega
 refine' zq220
 have mk':ck<=9223372036854775807:=by unfold maxLen at mk;omega
 have mi':ci<=9223372036854775807:=by unfold maxLen at mi;omega
 have mo':co<=9223372036854775807:=by unfold maxLen at mo;omega
 have b1:Below w.heap.size w (w.alloc (.cells #[.slice Aw f.wires.length cw,.slice Aa f.acts.length ca,.slice Acl f.cells.length cc,.slice Ak f.keeps.length ck,.slice Ai f.ins.length ci,.slice Ao f.outs.length co] 28)):=bE
 have rF:=ai.new w #[.slice Aw f.wires.length cw,.slice Aa f.acts.length ca,.slice Acl f.cells.length cc,.slice Ak f.keeps.length ck,.slice Ai f.ins.length ci,.slice Ao f.outs.length co] 28
 have HFM:=zH (fun W (hW:Below w.heap.size w W)=>h.below hW)
 have HFN:=zH (fun W (hW:Below w.heap.size w W)=>h.next hW)
 have HSW:=zH (fun W (hW:Below w.heap.size w W)=>(sw.keep (fun _ _ hp hc=>(hW.cell hp).trans hc) (Nat.le_refl _) (fun _ _ _ g=>g.keep (fun _ _ hp hc=>(hW.cell hp).trans hc) (Nat.le_refl _)):Sl W w.heap.size 2 (fu W w.heap.size) Aw f.wires))
 have HSA:=zH (fun W (hW:Below w.heap.size w W)=>sa.below hW)
 have HSC:=zH (fun W (hW:Below w.heap.size w W)=>sc.below hW)
 have HSI:=zH (fun W (hW:Below w.heap.size w W)=>si.below hW)
 have HSO:=zH (fun W (hW:Below w.heap.size w W)=>so.below hW)
 have HOD:=zH (fun (g:bm f)=>Ec g)
 clear h sw sa sc si so
 go_enter Tryz.func9,Tryz.ntmps9
 go_upto_region 1 with (fail)
 generalize w.alloc (.cells #[.slice Aw f.wires.length cw,.slice Aa f.acts.length ca,.slice Acl f.cells.length cc,.slice Ak f.keeps.length ck,.slice Ai f.ins.length ci,.slice Ao f.outs.length co] 28)=w1 at*
 have hFl:=rF.lt
 have hs1:=b1.size
 refine' zq123
 have HF6:Hid (∀W,Below w1.heap.size w1 W->W.cell? ⟨w.heap.size,0,none⟩=some (.slice Aw f.wires.length cw)/\W.cell? ⟨w.heap.size,1,none⟩=some (.slice Aa f.acts.length ca)/\W.cell? ⟨w.heap.size,2,none⟩=some (.slice Acl f.cells.length cc)/\W.cell? ⟨w.heap.size,3,none⟩=some (.slice Ak f.keeps.length ck)/\W.cell? ⟨w.heap.size,4,none⟩=some (.slice Ai f.ins.length ci)/\W.cell? ⟨w.heap.size,5,none⟩=some (.slice Ao f.outs.length co)):=fun W hW=>(rF.below hW hFl).six'
 clear rF
 obtain ⟨f0,f1,f2,f3,f4,f5⟩:=HF6.o w1 (Below.refl _ _)
 by_cases h1:f.wires.length<1
 ·have e1:decide ((f.wires.length:Int)<1)=true:=decide_eq_true (by omega)
  have e1':decide (f.wires.length<1)=true:=decide_eq_true h1
  have HF:Hid (cB (bm f)=false):=ab (fun g=>by have:=(HOD.o g).1.1.1;omega)
  clear h1
  refine' zq112
 have ea:decide ((f.wires.length:Int)<1)=false:=decide_eq_false (by omega)
 have ea':decide (f.wires.length<1)=false:=decide_eq_false h1
 have HD11:=zH h1
 have hz1:0<f.wires.length:=by omega
 clear h1
 by_cases h1:1600<f.wires.length
 ·have e1:decide ((1600:Int)<(f.wires.length:Int))=true:=decide_eq_true (by omega)
  have e1':decide (1600<f.wires.length)=true:=decide_eq_true h1
  have HF:Hid (cB (bm f)=false):=ab (fun g=>by have:=(HOD.o g).1.1.2;omega)
  clear h1
  refine' zq112
 have eb:decide ((1600:Int)<(f.wires.length:Int))=false:=decide_eq_false (by omega)
 have eb':decide (1600<f.wires.length)=false:=decide_eq_false h1
 have hz2:f.wires.length<=1600:=by omega
 clear h1
 by_cases h1:60<f.cells.length
 ·have e1:decide ((60:Int)<(f.cells.length:Int))=true:=decide_eq_true (by omega)
  have e1':decide (60<f.cells.length)=true:=decide_eq_true h1
  have HF:Hid (cB (bm f)=false):=ab (fun g=>by have:=(HOD.o g).1.2.1;omega)
  clear h1
  refine' zq112
 have ec:decide ((60:Int)<(f.cells.length:Int))=false:=decide_eq_false (by omega)
 have ec':decide (60<f.cells.length)=false:=decide_eq_false h1
 have hz3:f.cells.length<=60:=by omega
 clear h1
 by_cases h1:¬f.keeps.length=f.cells.length
 ·have e1:((f.keeps.length:Int) !=(f.cells.length:Int))=true:=by rw[bne_iff_ne];omega
  have e1':(f.keeps.length !=f.cells.length)=true:=by rw[bne_iff_ne];exact h1
  have HF:Hid (cB (bm f)=false):=ab (fun g=>h1 (HOD.o g).1.2.2.1)
  clear h1
  refine' zq112
 have ed:((f.keeps.length:Int) !=(f.cells.length:Int))=false:=by rw[bne_eq_false_iff_eq];omega
 have ed':(f.keeps.length !=f.cells.length)=false:=by rw[bne_eq_false_iff_eq];omega
 have HD14:Hid (f.keeps.length=f.cells.length):=Classical.not_not.1 h1
 clear h1
 by_cases h1:¬f.acts.length+f.ins.length=f.wires.length
 ·have e1:((f.acts.length:Int)+(f.ins.length:Int) !=(f.wires.length:Int))=true:=by rw[bne_iff_ne];omega
  have HF:Hid (cB (bm f)=false):=ab (fun g=>h1 (HOD.o g).1.2.2.2)
  clear h1
  refine' zq112
 have ee:((f.acts.length:Int)+(f.ins.length:Int) !=(f.wires.length:Int))=false:=by rw[bne_eq_false_iff_eq];omega
 have HD1:Hid (D1 f):=⟨⟨by omega,by omega⟩,by omega,HD14.o,Classical.not_not.1 h1⟩
 clear h1 HD11
 go_wp2_with fail
 clear f0 f1 f2 f3 f4 f5 ea ea' eb eb' ec ec' ed ed' ee
 go_loopw[3] (fun i wr=>∃k:Nat,k<=f.wires.length/\i= .int .i64 k/\Hid (∀j,j<k->∀x,f.wires[j]? =some x->eL f x)/\Below w1.heap.size w1 wr) (fun i _=>f.wires.length-(intOf i).toNat)
 case atStart=>exact ⟨0,Nat.zero_le _,rfl,fun j hj=>absurd hj (by omega),Below.refl _ _⟩
 case round=>
  obtain ⟨k,hk,rfl,HP,hb⟩:=hrel
  have hsr:=hb.size
  obtain ⟨f0,f1,f2,f3,f4,f5⟩:=HF6.o wr hb
  by_cases hlt:k<f.wires.length
  ·refine' zq136
   have HGR:Hid (Below w.heap.size wr (wr.alloc (.cells #[.int .i64 x.ty,.slice Ag x.clock.length cg] 52))):=ba.mono (HBW.o _ hb).size
   have hx':=hx
   clear hx hx'
   go_upto_region 7 with (fail)
   generalize wr.heap.size=g4 at*
   refine' zq300
   clear d0 d1 f0 f1 f2 f3 f4 f5 ba
   have hg4:=r4.lt
   have hs4:=hb4.size
   have HS4:Hid (∀W,Below w4.heap.size w4 W->W.cell? ⟨w.heap.size,0,none⟩=some (.slice (some ⟨b,off,none⟩) f.wires.length cw)/\W.cell? ⟨w.heap.size,1,none⟩=some (.slice Aa f.acts.length ca)/\W.cell? ⟨w.heap.size,2,none⟩=some (.slice Acl f.cells.length cc)/\W.cell? ⟨w.heap.size,3,none⟩=some (.slice Ak f.keeps.length ck)/\W.cell? ⟨w.heap.size,4,none⟩=some (.slice Ai f.ins.length ci)/\W.cell? ⟨w.heap.size,5,none⟩=some (.slice Ao f.outs.length co)/\W.cell? ⟨g4,1,none⟩=some (.slice Ag x.clock.length cg)):=fun W hW=>by
    obtain ⟨a0,a1,a2,a3,a4,a5⟩:=HF6.o W (hb4.trans (hW.mono hs4))
    exact ⟨a0,a1,a2,a3,a4,a5,(r4.below hW hg4).two'.2⟩
   obtain ⟨z0,z1⟩:=r4.two'
   obtain ⟨f0,f1,f2,f3,f4,f5⟩:=HF6.o w4 hb4
   by_cases ht:x.ty=1\/x.ty=2
   rotate_left 1
   ·have e1:(x.ty !=1)=true:=by rw[bne_iff_ne];exact fun g=>ht (.inl g)
    have e2:(x.ty !=2)=true:=by rw[bne_iff_ne];exact fun g=>ht (.inr g)
    have HF:Hid (cB (bm f)=false):=ab (fun g=>ht (g.1.1 x (List.mem_of_getElem? HX.o)).1)
    clear ht
    go_wp2_with fail
    go_ret
    exact ⟨aj HF.o.symm,HBW.o _ hb4⟩
   have HT:=zH ht
   go_cut[70] (fun v70 W=>v70= .bool false/\w4=W)
   case first=>
    refine' zq176
   case rest=>
   obtain ⟨rfl,rfl⟩:=hcut
   clear ht
   have HSG:Hid (∀W,Below w4.heap.size w4 W->Sl W w.heap.size 2 aW Ag x.clock):=fun W hW=>sg.below ((HGR.o).trans (hW.mono (HBW.o _ hb4).size))
   go_wp2_with fail
   clear z0 z1 f0 f1 f2 f3 f4 f5
   go_loopw[5] (fun i wr=>∃q:Nat,q<=x.clock.length/\i= .int .i64 q/\Hid (∀p,p<q->∀g,x.clock[p]? =some g->ak f g.wire/\ag f g.wire=2/\aa f g.wire=x.clock.take p)/\Below w4.heap.size w4 wr) (fun i _=>x.clock.length-(intOf i).toNat)
   case atStart=>exact ⟨0,Nat.zero_le _,rfl,fun j hj=>absurd hj (by omega),Below.refl _ _⟩
   case round=>
    obtain ⟨q,hq,rfl,HQ,hbq⟩:=hrel
    obtain ⟨f0,f1,f2,f3,f4,f5,z1⟩:=HS4.o _ hbq
    refine' zq78
    clear f0 f1 f2 f3 f4 f5 z1 e0 e0'
    refine' zq281
    obtain ⟨P,HP2⟩:∃P:Bool,Hid (cB (ak f gw/\ag f gw=2/\aa f gw=x.clock.take q)=P):=⟨_,rfl⟩
    go_cut[110] (fun v110 W=>v110= .bool (!P)/\Below w5.heap.size w5 W)
    case first=>as_aux_lemma=>
     by_cases hw:ak f gw
     rotate_left 1
     ·obtain rfl:P=false:=by rw[<-HP2.o];exact ab (fun g=>hw g.1)
      have HS:Hid (∀W,Below w5.heap.size w5 W->W.cell? ⟨w.heap.size,0,none⟩=some (.slice (some ⟨b,off,none⟩) f.wires.length cw)/\W.cell? ⟨w.heap.size,1,none⟩=some (.slice Aa f.acts.length ca)/\W.cell? ⟨w.heap.size,2,none⟩=some (.slice Acl f.cells.length cc)/\W.cell? ⟨w.heap.size,3,none⟩=some (.slice Ak f.keeps.length ck)/\W.cell? ⟨w.heap.size,4,none⟩=some (.slice Ai f.ins.length ci)/\W.cell? ⟨w.heap.size,5,none⟩=some (.slice Ao f.outs.length co)/\W.cell? ⟨g4,1,none⟩=some (.slice (some ⟨bg,og,none⟩) x.clock.length cg)):=fun W hW=>HS4.o W (HLOW.o W hW).1
      have HI:Hid (∀W,Below w5.heap.size w5 W->Calls Tryz.prog 30 #[dp (.slice (some ⟨b,off,none⟩) f.wires.length cw) (.slice Aa f.acts.length ca) (.slice Acl f.cells.length cc) (.slice Ak f.keeps.length ck) (.slice Ai f.ins.length ci) (.slice Ao f.outs.length co),.int .i64 gw] W fun e w'=>e= .returned (.bool false)/\Below W.heap.size W w'):=fun W hW=>by
       have:=fY (HFM.o W (HLOW.o W hW).2) gw
       rw[ab hw] at this
       exact this
      clear hw
      refine wp_region_held_drew (S:=fun W=>W.cell? ⟨w.heap.size,0,none⟩=some (.slice (some ⟨b,off,none⟩) f.wires.length cw)/\W.cell? ⟨w.heap.size,1,none⟩=some (.slice Aa f.acts.length ca)/\W.cell? ⟨w.heap.size,2,none⟩=some (.slice Acl f.cells.length cc)/\W.cell? ⟨w.heap.size,3,none⟩=some (.slice Ak f.keeps.length ck)/\W.cell? ⟨w.heap.size,4,none⟩=some (.slice Ai f.ins.length ci)/\W.cell? ⟨w.heap.size,5,none⟩=some (.slice Ao f.outs.length co)/\W.cell? ⟨g4,1,none⟩=some (.slice (some ⟨bg,og,none⟩) x.clock.length cg)) (by kernel_rfl) ?_ (fun hHeld=>?_)
      ·(try dsimp only);(first|(with_reducible exact HS.o _ bE)|go_keep)
      refine tk 0 (some 84) rfl ?_
      refine tk 1 (some 85) rfl ?_
      refine aH 2 (some 86) rfl (fun KK hKK=>?_)
      go_simp
      (go_at_call 30;refine Calls.mono (HI.o _ ?hbb) ?_;(case hbb=>exact bE);rintro e w8 ⟨rfl,hb8⟩;(have hb9:Below w5.heap.size w5 w8:=Below.trans bE (hb8.mono lE));(have hs9:=hb9.size))
      (try go_wp2_with fail)
      refine hKK.out _ _ ?_ (fun hHeld=>?_)
      ·(try dsimp only);(first|(with_reducible exact HS.o _ bE)|go_keep)
      clear hKK KK
      try simp only[Act.put,List.setIfInBounds_toArray,List.set_cons_zero,List.set_cons_succ]
      refine tk 3 (some 87) rfl ?_
      refine tk 4 (some 88) rfl ?_
      refine sk 5 (some 89) rfl ?_
      refine sk 6 (some 90) rfl ?_
      refine sk 7 (some 91) rfl ?_
      refine sk 8 (some 92) rfl ?_
      refine sk 9 (some 93) rfl ?_
      refine sk 10 (some 94) rfl ?_
      refine sk 11 (some 95) rfl ?_
      refine tk 12 (some 96) rfl ?_
      refine tk 13 (some 97) rfl ?_
      refine sk 14 (some 98) rfl ?_
      refine sk 15 (some 99) rfl ?_
      refine sk 16 (some 100) rfl ?_
      refine sk 17 (some 101) rfl ?_
      refine sk 18 (some 102) rfl ?_
      refine sk 19 (some 103) rfl ?_
      refine sk 20 (some 104) rfl ?_
      refine sk 21 (some 105) rfl ?_
      refine sk 22 (some 106) rfl ?_
      refine sk 23 (some 107) rfl ?_
      refine sk 24 (some 108) rfl ?_
      refine sk 25 (some 109) rfl ?_
      refine tk 26 (some 110) rfl ?_
      refine wpAnyH_done (by kernel_rfl) ?_ _
      go_wp2_with fail
      go_meet
      exact ⟨by first|rfl|(cases P<;>rfl),bE⟩
     have HW:=zH hw
     obtain ⟨m,b2,off2,cw2,Ag2,cg2,rfl,hm,hv2,_,mw2,hb2,wt2,y0,y1,lg2,mg2,sg2⟩:=fW (HFM.o _ (HBW.o _ hbw5)) hw
     injection hv2 with hv2 _ hv3
     injection hv2 with hv2
     injection hv2 with hv2 hv4
     subst hv2;subst hv4;subst hv3
     have hm':(m:Int)<f.wires.length:=by omega
     have hcg2:cg2<=9223372036854775807:=by unfold maxLen at mg2;omega
     have hqc:q<=cg:=by omega
     have HI:Hid (∀W,Below w5.heap.size w5 W->Calls Tryz.prog 30 #[dp (.slice (some ⟨b,off,none⟩) f.wires.length cw) (.slice Aa f.acts.length ca) (.slice Acl f.cells.length cc) (.slice Ak f.keeps.length ck) (.slice Ai f.ins.length ci) (.slice Ao f.outs.length co),.int .i64 (m:Int)] W fun e w'=>e= .returned (.bool true)/\Below W.heap.size W w'):=fun W hW=>by
      have:=fY (HFM.o W (HLOW.o W hW).2) (m:Int)
      rw[aq hw] at this
      exact this
     have HS:Hid (∀W,Below w5.heap.size w5 W->W.cell? ⟨w.heap.size,0,none⟩=some (.slice (some ⟨b,off,none⟩) f.wires.length cw)/\W.cell? ⟨w.heap.size,1,none⟩=some (.slice Aa f.acts.length ca)/\W.cell? ⟨w.heap.size,2,none⟩=some (.slice Acl f.cells.length cc)/\W.cell? ⟨w.heap.size,3,none⟩=some (.slice Ak f.keeps.length ck)/\W.cell? ⟨w.heap.size,4,none⟩=some (.slice Ai f.ins.length ci)/\W.cell? ⟨w.heap.size,5,none⟩=some (.slice Ao f.outs.length co)/\W.cell? ⟨g4,1,none⟩=some (.slice (some ⟨bg,og,none⟩) x.clock.length cg)/\W.cell? ⟨b,off+m*2,none⟩=some (.int .i64 (ag f (m:Int)))/\W.cell? ⟨b,off+m*2+1,none⟩=some (.slice Ag2 (aa f (m:Int)).length cg2)):=fun W hW=>by
      obtain ⟨a0,a1,a2,a3,a4,a5,a6⟩:=HS4.o W (HLOW.o W hW).1
      exact ⟨a0,a1,a2,a3,a4,a5,a6,cell_kept y0 hW,cell_kept y1 hW⟩
     have HGV:Hid (∀W V,Below w5.heap.size w5 W->cB (aa f (m:Int)=x.clock.take q)=V->Calls Tryz.prog 31 #[.slice Ag2 (aa f (m:Int)).length cg2,.slice (some ⟨bg,og,none⟩) q cg] W fun e w'=>e= .returned (.bool V)/\∃n,w'=W.drewN n):=fun W V hW hV=>by
      have hl:=HLOW.o W hW
      have:=da _ _ _ _ _ W (⟨Ag2,cg2,rfl,lg2,mg2,sg2.below (hW.mono (HBW.o _ hbw5).size)⟩:aI W w.heap.size 2 aW (.slice Ag2 (aa f (m:Int)).length cg2) (aa f (m:Int))) (ij (HSG.o W hl.1) lg mg (Nat.le_of_lt hlt2))
      rw[hV] at this
      exact this
     clear hw y0 y1 wt2 sg2
     by_cases ht:ag f (m:Int)=2
     rotate_left 1
     ·obtain rfl:P=false:=by rw[<-HP2.o];exact ab (fun g=>ht g.2.1)
      have et:(ag f (m:Int) !=2)=true:=by rw[bne_iff_ne];exact ht
      clear ht
      refine wp_region_held_drew (S:=fun W=>W.cell? ⟨w.heap.size,0,none⟩=some (.slice (some ⟨b,off,none⟩) f.wires.length cw)/\W.cell? ⟨w.heap.size,1,none⟩=some (.slice Aa f.acts.length ca)/\W.cell? ⟨w.heap.size,2,none⟩=some (.slice Acl f.cells.length cc)/\W.cell? ⟨w.heap.size,3,none⟩=some (.slice Ak f.keeps.length ck)/\W.cell? ⟨w.heap.size,4,none⟩=some (.slice Ai f.ins.length ci)/\W.cell? ⟨w.heap.size,5,none⟩=some (.slice Ao f.outs.length co)/\W.cell? ⟨g4,1,none⟩=some (.slice (some ⟨bg,og,none⟩) x.clock.length cg)/\W.cell? ⟨b,off+m*2,none⟩=some (.int .i64 (ag f (m:Int)))/\W.cell? ⟨b,off+m*2+1,none⟩=some (.slice Ag2 (aa f (m:Int)).length cg2)) (by kernel_rfl) ?_ (fun hHeld=>?_)
      ·(try dsimp only);(first|(with_reducible exact HS.o _ bE)|go_keep)
      refine tk 0 (some 84) rfl ?_
      refine tk 1 (some 85) rfl ?_
      refine aH 2 (some 86) rfl (fun KK hKK=>?_)
      go_simp
      (go_at_call 30;refine Calls.mono (HI.o _ ?hbb) ?_;(case hbb=>exact bE);rintro e w8 ⟨rfl,hb8⟩;(have hb9:Below w5.heap.size w5 w8:=Below.trans bE (hb8.mono lE));(have hs9:=hb9.size))
      (try go_wp2_with fail)
      refine hKK.out _ _ ?_ (fun hHeld=>?_)
      ·(try dsimp only);(first|(with_reducible exact HS.o _ bE)|go_keep)
      clear hKK KK
      try simp only[Act.put,List.setIfInBounds_toArray,List.set_cons_zero,List.set_cons_succ]
      refine tk 3 (some 87) rfl ?_
      refine tk 4 (some 88) rfl ?_
      refine tk 5 (some 89) rfl ?_
      refine tk 6 (some 90) rfl ?_
      refine tk 7 (some 91) rfl ?_
      refine tk 8 (some 92) rfl ?_
      refine tk 9 (some 93) rfl ?_
      refine tk 10 (some 94) rfl ?_
      refine tk 11 (some 95) rfl ?_
      refine tk 12 (some 96) rfl ?_
      refine tk 13 (some 97) rfl ?_
      refine sk 14 (some 98) rfl ?_
      refine sk 15 (some 99) rfl ?_
      refine sk 16 (some 100) rfl ?_
      refine sk 17 (some 101) rfl ?_
      refine sk 18 (some 102) rfl ?_
      refine sk 19 (some 103) rfl ?_
      refine sk 20 (some 104) rfl ?_
      refine sk 21 (some 105) rfl ?_
      refine sk 22 (some 106) rfl ?_
      refine sk 23 (some 107) rfl ?_
      refine sk 24 (some 108) rfl ?_
      refine sk 25 (some 109) rfl ?_
      refine tk 26 (some 110) rfl ?_
      refine wpAnyH_done (by kernel_rfl) ?_ _
      go_wp2_with fail
      go_meet
      exact ⟨by first|rfl|(cases P<;>rfl),bE⟩
     have et:(ag f (m:Int) !=2)=false:=by rw[bne_eq_false_iff_eq];exact ht
     have HG:=zH (fun W hW=>HGV.o W P hW (by
      rw[<-HP2.o]
      exact bu ⟨fun g=>⟨HW.o,ht,g⟩,fun g=>g.2.2⟩))
     clear ht
     refine wp_region_held_drew (S:=fun W=>W.cell? ⟨w.heap.size,0,none⟩=some (.slice (some ⟨b,off,none⟩) f.wires.length cw)/\W.cell? ⟨w.heap.size,1,none⟩=some (.slice Aa f.acts.length ca)/\W.cell? ⟨w.heap.size,2,none⟩=some (.slice Acl f.cells.length cc)/\W.cell? ⟨w.heap.size,3,none⟩=some (.slice Ak f.keeps.length ck)/\W.cell? ⟨w.heap.size,4,none⟩=some (.slice Ai f.ins.length ci)/\W.cell? ⟨w.heap.size,5,none⟩=some (.slice Ao f.outs.length co)/\W.cell? ⟨g4,1,none⟩=some (.slice (some ⟨bg,og,none⟩) x.clock.length cg)/\W.cell? ⟨b,off+m*2,none⟩=some (.int .i64 (ag f (m:Int)))/\W.cell? ⟨b,off+m*2+1,none⟩=some (.slice Ag2 (aa f (m:Int)).length cg2)) (by kernel_rfl) ?_ (fun hHeld=>?_)
     ·(try dsimp only);(first|(with_reducible exact HS.o _ bE)|go_keep)
     refine tk 0 (some 84) rfl ?_
     refine tk 1 (some 85) rfl ?_
     refine aH 2 (some 86) rfl (fun KK hKK=>?_)
     go_simp
     (go_at_call 30;refine Calls.mono (HI.o _ ?hbb) ?_;(case hbb=>exact bE);rintro e w8 ⟨rfl,hb8⟩;(have hb9:Below w5.heap.size w5 w8:=Below.trans bE (hb8.mono lE));(have hs9:=hb9.size))
     (try go_wp2_with fail)
     refine hKK.out _ _ ?_ (fun hHeld=>?_)
     ·(try dsimp only);(first|(with_reducible exact HS.o _ bE)|go_keep)
     clear hKK KK
     try simp only[Act.put,List.setIfInBounds_toArray,List.set_cons_zero,List.set_cons_succ]
     refine tk 3 (some 87) rfl ?_
     refine tk 4 (some 88) rfl ?_
     refine tk 5 (some 89) rfl ?_
     refine tk 6 (some 90) rfl ?_
     refine tk 7 (some 91) rfl ?_
     refine tk 8 (some 92) rfl ?_
     refine tk 9 (some 93) rfl ?_
     refine tk 10 (some 94) rfl ?_
     refine tk 11 (some 95) rfl ?_
     refine tk 12 (some 96) rfl ?_
     refine tk 13 (some 97) rfl ?_
     refine tk 14 (some 98) rfl ?_
     refine tk 15 (some 99) rfl ?_
     refine tk 16 (some 100) rfl ?_
     refine tk 17 (some 101) rfl ?_
     refine tk 18 (some 102) rfl ?_
     refine tk 19 (some 103) rfl ?_
     refine tk 20 (some 104) rfl ?_
     refine tk 21 (some 105) rfl ?_
     refine tk 22 (some 106) rfl ?_
     refine tk 23 (some 107) rfl ?_
     refine aH 24 (some 108) rfl (fun KK hKK=>?_)
     go_simp
     (go_at_call 31;refine Calls.mono (HG.o _ ?hbb) ?_;(case hbb=>exact bE);rintro e w9 ⟨rfl,n9,rfl⟩)
     (try go_wp2_with fail)
     refine hKK.out _ _ ?_ (fun hHeld=>?_)
     ·(try dsimp only);(first|(with_reducible exact HS.o _ bE)|go_keep)
     clear hKK KK
     try simp only[Act.put,List.setIfInBounds_toArray,List.set_cons_zero,List.set_cons_succ]
     refine tk 25 (some 109) rfl ?_
     refine tk 26 (some 110) rfl ?_
     refine wpAnyH_done (by kernel_rfl) ?_ _
     go_wp2_with fail
     go_meet
     exact ⟨by first|rfl|(cases P<;>rfl),bE⟩
    case rest=>
    obtain ⟨rfl,hbc⟩:=hcut
    cases P
    ·have HF:Hid (cB (bm f)=false):=ab (fun g=>fO.1 HP2.o ((g.1.1 x (List.mem_of_getElem? HX.o)).2 q _ HGG.o))
     go_wp2_with fail
     go_ret
     exact ⟨aj HF.o.symm,(HLOW.o _ hbc).2⟩
    refine' zq218
  obtain rfl:k=f.wires.length:=by omega
  have HWO:=zH (dY HP.o)
  clear HP
  obtain ⟨w2,hw2⟩:∃w2:World,w2=wr:=⟨_,rfl⟩
  subst hw2
  have hsw2:=(HBW.o _ hb).size
  have HPC:=zH (fun W (hW:Below w1.heap.size w1 W)=>nR (HFN.o W (HBW.o _ hW)) f.ins _ ⟨Ai,ci,rfl,li,mi,(HSI.o W (HBW.o _ hW)).more (HBW.o _ hW).size⟩)
  have HPO:=zH (fun W (hW:Below w1.heap.size w1 W)=>nR (HFN.o W (HBW.o _ hW)) f.outs _ ⟨Ao,co,rfl,lo,mo,(HSO.o W (HBW.o _ hW)).more (HBW.o _ hW).size⟩)
  by_cases hp:bG f f.ins
  rotate_left 1
  ·rw[ab hp] at HPC
   have HF:Hid (cB (bm f)=false):=ab (fun g=>hp g.2.1)
   clear hp
   go_wp2_with fail
   (with_reducible refine (HPC.o _ hb).mono ?_)
   rintro e w3 ⟨rfl,hb3⟩
   go_wp2_with fail
   go_ret
   exact ⟨aj HF.o.symm,HBW.o _ (hb.trans (hb3.mono hsr))⟩
  rw[aq hp] at HPC
  have HPI:=zH hp
  clear hp
  by_cases hp:bG f f.outs
  rotate_left 1
  ·rw[ab hp] at HPO
   have HF:Hid (cB (bm f)=false):=ab (fun g=>hp g.2.2.1)
   refine' zq186
   go_wp2_with fail
   go_ret
   exact ⟨aj HF.o.symm,HBW.o _ (hb13.trans (hb4.mono hb13.size))⟩
  rw[aq hp] at HPO
  have HPOK:=zH hp
  refine' zq186
  have hb14:=hb13.trans (hb4.mono hb13.size)
  clear f0 f1 f2 f3 f4 f5 HPC HPO hb3 hb4 hb13
  obtain ⟨f0,f1,f2,f3,f4,f5⟩:=HF6.o w4 hb14
  go_wp2_with fail
  clear f0 f1 f2 f3 f4 f5 hb hsr hlt hsw2
  go_loopw[7] (fun i wr=>∃k:Nat,k<=f.ins.length/\i= .int .i64 k/\Hid (∀j,j<k->∀y,f.ins[j]? =some y->y∉f.ins.take j)/\Below w1.heap.size w1 wr) (fun i _=>f.ins.length-(intOf i).toNat)
  case atStart=>exact ⟨0,Nat.zero_le _,rfl,fun j hj=>absurd hj (by omega),hb14⟩
  case round=>as_aux_lemma=>
   obtain ⟨k,hk,rfl,HP,hb⟩:=hrel
   have hsr:=hb.size
   obtain ⟨f0,f1,f2,f3,f4,f5⟩:=HF6.o wr hb
   have hbl:=HBW.o _ hb
   by_cases hlt:k<f.ins.length
   ·obtain ⟨b,off,n,hAi,hbb,hx,wx,d0⟩:=(HSI.o _ hbl).int hlt
    subst hAi
    have HX:=zH hx
    have hk':(k:Int)<f.ins.length:=by omega
    have hkc:k<=ci:=by omega
    have HS:Hid (∀W,Below wr.heap.size wr W->W.cell? ⟨w.heap.size,0,none⟩=some (.slice Aw f.wires.length cw)/\W.cell? ⟨w.heap.size,1,none⟩=some (.slice Aa f.acts.length ca)/\W.cell? ⟨w.heap.size,2,none⟩=some (.slice Acl f.cells.length cc)/\W.cell? ⟨w.heap.size,3,none⟩=some (.slice Ak f.keeps.length ck)/\W.cell? ⟨w.heap.size,4,none⟩=some (.slice (some ⟨b,off,none⟩) f.ins.length ci)/\W.cell? ⟨w.heap.size,5,none⟩=some (.slice Ao f.outs.length co)/\W.cell? ⟨b,off+k,none⟩=some (.int .i64 n)):=fun W hW=>by
     obtain ⟨a0,a1,a2,a3,a4,a5⟩:=HF6.o W (hb.trans (hW.mono hsr))
     exact ⟨a0,a1,a2,a3,a4,a5,cell_kept d0 hW⟩
    obtain ⟨P,HP2⟩:∃P:Bool,Hid (cB (n∈f.ins.take k)=P):=⟨_,rfl⟩
    have HIN:Hid (∀W,Below wr.heap.size wr W->Calls Tryz.prog 33 #[.slice (some ⟨b,off,none⟩) k ci,.int .i64 n] W fun e w'=>e= .returned (.bool P)/\W=w'):=fun W hW=>by
     have:=lG _ n _ _ W (ij (HSI.o W (hbl.trans (hW.mono hbl.size))) li mi (Nat.le_of_lt hlt))
     rw[HP2.o] at this
     exact this
    clear hx
    go_upto_region 20 with (fail)
    clear d0 f0 f1 f2 f3 f4 f5
    go_cut[139] (fun v139 W=>v139= .bool P/\Below wr.heap.size wr W)
    case first=>as_aux_lemma=>
     refine wp_region_held_drew (S:=fun W=>W.cell? ⟨w.heap.size,0,none⟩=some (.slice Aw f.wires.length cw)/\W.cell? ⟨w.heap.size,1,none⟩=some (.slice Aa f.acts.length ca)/\W.cell? ⟨w.heap.size,2,none⟩=some (.slice Acl f.cells.length cc)/\W.cell? ⟨w.heap.size,3,none⟩=some (.slice Ak f.keeps.length ck)/\W.cell? ⟨w.heap.size,4,none⟩=some (.slice (some ⟨b,off,none⟩) f.ins.length ci)/\W.cell? ⟨w.heap.size,5,none⟩=some (.slice Ao f.outs.length co)/\W.cell? ⟨b,off+k,none⟩=some (.int .i64 n)) (by kernel_rfl) ?_ (fun hHeld=>?_)
     ·(try dsimp only);(first|(with_reducible exact HS.o _ bE)|go_keep)
     refine tk 0 (some 130) rfl ?_
     refine tk 1 (some 131) rfl ?_
     refine tk 2 (some 132) rfl ?_
     refine tk 3 (some 133) rfl ?_
     refine tk 4 (some 134) rfl ?_
     refine tk 5 (some 135) rfl ?_
     refine tk 6 (some 136) rfl ?_
     refine tk 7 (some 137) rfl ?_
     refine tk 8 (some 138) rfl ?_
     refine aH 9 (some 139) rfl (fun KK hKK=>?_)
     go_simp
     go_at_call 33;refine Calls.mono (HIN.o _ ?hbb) ?_;(case hbb=>exact bE);rintro e w8 ⟨rfl,rfl⟩
     (try go_wp2_with fail)
     refine hKK.out _ _ ?_ (fun hHeld=>?_)
     ·(try dsimp only);(first|(with_reducible exact HS.o _ bE)|go_keep)
     clear hKK KK
     try simp only[Act.put,List.setIfInBounds_toArray,List.set_cons_zero,List.set_cons_succ]
     refine wpAnyH_done (by kernel_rfl) ?_ _
     go_wp2_with fail
     go_meet
     exact ⟨rfl,bE⟩
    case rest=>
    obtain ⟨rfl,hbc⟩:=hcut
    cases P
    rotate_left 1
    ·have HF:Hid (cB (bm f)=false):=ab (fun g=>(HOD.o g).2.1 k n HX.o (cb.1 HP2.o))
     go_wp2_with fail
     go_ret
     exact ⟨aj HF.o.symm,HBW.o _ (hb.trans (hbc.mono hsr))⟩
    have HP':=zH (aC HP.o (fun y hy=>by rw[HX.o] at hy;injection hy with hy;rw[<-hy];exact fO.1 HP2.o))
    go_wp2_with fail
    go_roundw
    case rel=>exact ⟨k+1,by omega,by go_num,HP'.o,hb.trans (hbc.mono hsr)⟩
    case measure=>simp[intOf];omega
   obtain rfl:k=f.ins.length:=by omega
   have HD4:Hid (D4 f):=fun j y hy=>HP.o j (List.getElem?_eq_some_iff.1 hy).1 y hy
   clear HP
   go_wp2_with fail
   obtain ⟨w5,hw5⟩:∃w5:World,w5=wr:=⟨_,rfl⟩
   subst hw5
   have hb15:=hb
   clear f0 f1 f2 f3 f4 f5 hb hsr hlt hb14 hbl
   go_loopw[8] (fun i wr=>∃k:Nat,k<=f.cells.length/\i= .int .i64 k/\Hid (∀j,j<k->∀c,f.cells[j]? =some c->bN c.1 c.2/\ak f (rk j (-1) f.keeps)/\ag f (rk j (-1) f.keeps)=c.1)/\Below w1.heap.size w1 wr) (fun i _=>f.cells.length-(intOf i).toNat)
   case atStart=>exact ⟨0,Nat.zero_le _,rfl,fun j hj=>absurd hj (by omega),hb15⟩
   case round=>as_aux_lemma=>
    clear hb15
    obtain ⟨k,hk,rfl,HP,hb⟩:=hrel
    have hsr:=hb.size
    obtain ⟨f0,f1,f2,f3,f4,f5⟩:=HF6.o wr hb
    have hbl:=HBW.o _ hb
    by_cases hlt:k<f.cells.length
    ·obtain ⟨b,off,⟨c0,c1⟩,hAc,hbb,hx,wx1,wx2,d0,d1⟩:=(HSC.o _ hbl).cell hlt
     subst hAc
     dsimp only at d0 d1
     have HX:=zH hx
     have ba:Below wr.heap.size wr (wr.alloc (.cells #[.int .i64 c0,.int .i64 c1] 67)):=bE
     have r4:=ai.new wr #[.int .i64 c0,.int .i64 c1] 67
     have hb4:=hb.trans (ba.mono hsr)
     clear hx
     go_upto_region 26 with (fail)
     generalize wr.heap.size=g4 at*
     generalize wr.alloc (.cells #[.int .i64 c0,.int .i64 c1] 67)=w4 at*
     clear d0 d1 f0 f1 f2 f3 f4 f5 ba
     have hg4:=r4.lt
     have hs4:=hb4.size
     have hbl4:=HBW.o _ hb4
     obtain ⟨f0,f1,f2,f3,f4,f5⟩:=HF6.o w4 hb4
     have HKC:=zH (oK (HFN.o w4 hbl4) (k:Int))
     generalize hq:rk (k:Int) (-1) f.keeps=q at*
     have HQQ:=zH hq
     clear hq
     go_wp2_with fail
     (with_reducible refine HKC.o.mono ?_)
     rintro e w5 ⟨rfl,hb5⟩
     have hb15:=hb4.trans (hb5.mono hs4)
     have r5:=r4.below hb5 hg4
     have hg5:=r5.lt
     have hs5:=hb15.size
     have hbl5:=HBW.o _ hb15
     clear f0 f1 f2 f3 f4 f5 HKC
     go_upto_region 27 with (fail)
     have HLOW:Hid (∀W,Below w5.heap.size w5 W->Below w.heap.size w W):=fun W hW=>hbl5.trans (hW.mono hbl5.size)
     have HS0:Hid (∀W,Below w5.heap.size w5 W->W.cell? ⟨w.heap.size,0,none⟩=some (.slice Aw f.wires.length cw)/\W.cell? ⟨w.heap.size,1,none⟩=some (.slice Aa f.acts.length ca)/\W.cell? ⟨w.heap.size,2,none⟩=some (.slice (some ⟨b,off,none⟩) f.cells.length cc)/\W.cell? ⟨w.heap.size,3,none⟩=some (.slice Ak f.keeps.length ck)/\W.cell? ⟨w.heap.size,4,none⟩=some (.slice Ai f.ins.length ci)/\W.cell? ⟨w.heap.size,5,none⟩=some (.slice Ao f.outs.length co)/\W.cell? ⟨g4,0,none⟩=some (.int .i64 c0)/\W.cell? ⟨g4,1,none⟩=some (.int .i64 c1)):=fun W hW=>by
      obtain ⟨a0,a1,a2,a3,a4,a5⟩:=HF6.o W (hb15.trans (hW.mono hs5))
      exact ⟨a0,a1,a2,a3,a4,a5,(r5.below hW hg5).two'⟩
     obtain ⟨P,HP2⟩:∃P:Bool,Hid (cB (bN c0 c1/\ak f q/\ag f q=c0)=P):=⟨_,rfl⟩
     go_cut[189] (fun v189 W=>v189= .bool (!P)/\Below w5.heap.size w5 W)
     case first=>as_aux_lemma=>
      have bk:bN c0 c1↔c0=1\/c0=2/\(c1=0\/c1=1):=by unfold bN;omega
      by_cases hv:bN c0 c1
      rotate_left 1
      ·obtain rfl:P=false:=by rw[<-HP2.o];exact ab (fun g=>hv g.1)
       have HS:=HS0
       have HI:True:=trivial
       rw[bk] at hv
       have e3:(c0 !=1)=true:=by rw[bne_iff_ne];omega
       by_cases h2:c0=2
       ·have e7:(c0 !=2)=false:=by rw[bne_eq_false_iff_eq];exact h2
        have e11:(c1 !=0)=true:=by rw[bne_iff_ne];omega
        have e12:(c1 !=1)=true:=by rw[bne_iff_ne];omega
        clear hv h2 bk
        refine wp_region_held_drew (S:=fun W=>W.cell? ⟨w.heap.size,0,none⟩=some (.slice Aw f.wires.length cw)/\W.cell? ⟨w.heap.size,1,none⟩=some (.slice Aa f.acts.length ca)/\W.cell? ⟨w.heap.size,2,none⟩=some (.slice (some ⟨b,off,none⟩) f.cells.length cc)/\W.cell? ⟨w.heap.size,3,none⟩=some (.slice Ak f.keeps.length ck)/\W.cell? ⟨w.heap.size,4,none⟩=some (.slice Ai f.ins.length ci)/\W.cell? ⟨w.heap.size,5,none⟩=some (.slice Ao f.outs.length co)/\W.cell? ⟨g4,0,none⟩=some (.int .i64 c0)/\W.cell? ⟨g4,1,none⟩=some (.int .i64 c1)) (by kernel_rfl) ?_ (fun hHeld=>?_)
        ·(try dsimp only);(first|(with_reducible exact HS.o _ bE)|go_keep)
        refine tk 0 (some 155) rfl ?_
        refine tk 1 (some 156) rfl ?_
        refine tk 2 (some 157) rfl ?_
        refine tk 3 (some 158) rfl ?_
        refine tk 4 (some 159) rfl ?_
        refine tk 5 (some 160) rfl ?_
        refine tk 6 (some 161) rfl ?_
        refine tk 7 (some 162) rfl ?_
        refine tk 8 (some 163) rfl ?_
        refine tk 9 (some 164) rfl ?_
        refine tk 10 (some 165) rfl ?_
        refine tk 11 (some 166) rfl ?_
        refine tk 12 (some 167) rfl ?_
        refine tk 13 (some 168) rfl ?_
        refine tk 14 (some 169) rfl ?_
        refine tk 15 (some 170) rfl ?_
        refine tk 16 (some 171) rfl ?_
        refine tk 17 (some 172) rfl ?_
        refine tk 18 (some 173) rfl ?_
        refine sk 19 (some 174) rfl ?_
        refine sk 20 (some 175) rfl ?_
        refine sk 21 (some 176) rfl ?_
        refine sk 22 (some 177) rfl ?_
        refine tk 23 (some 178) rfl ?_
        refine tk 24 (some 179) rfl ?_
        refine sk 25 (some 180) rfl ?_
        refine sk 26 (some 181) rfl ?_
        refine sk 27 (some 182) rfl ?_
        refine sk 28 (some 183) rfl ?_
        refine sk 29 (some 184) rfl ?_
        refine sk 30 (some 185) rfl ?_
        refine sk 31 (some 186) rfl ?_
        refine sk 32 (some 187) rfl ?_
        refine sk 33 (some 188) rfl ?_
        refine tk 34 (some 189) rfl ?_
        refine wpAnyH_done (by kernel_rfl) ?_ _
        go_wp2_with fail
        go_meet
        exact ⟨by first|rfl|(cases P<;>rfl),bE⟩
       ·have e7:(c0 !=2)=true:=by rw[bne_iff_ne];exact h2
        clear hv h2 bk
        refine wp_region_held_drew (S:=fun W=>W.cell? ⟨w.heap.size,0,none⟩=some (.slice Aw f.wires.length cw)/\W.cell? ⟨w.heap.size,1,none⟩=some (.slice Aa f.acts.length ca)/\W.cell? ⟨w.heap.size,2,none⟩=some (.slice (some ⟨b,off,none⟩) f.cells.length cc)/\W.cell? ⟨w.heap.size,3,none⟩=some (.slice Ak f.keeps.length ck)/\W.cell? ⟨w.heap.size,4,none⟩=some (.slice Ai f.ins.length ci)/\W.cell? ⟨w.heap.size,5,none⟩=some (.slice Ao f.outs.length co)/\W.cell? ⟨g4,0,none⟩=some (.int .i64 c0)/\W.cell? ⟨g4,1,none⟩=some (.int .i64 c1)) (by kernel_rfl) ?_ (fun hHeld=>?_)
        ·(try dsimp only);(first|(with_reducible exact HS.o _ bE)|go_keep)
        refine tk 0 (some 155) rfl ?_
        refine tk 1 (some 156) rfl ?_
        refine tk 2 (some 157) rfl ?_
        refine tk 3 (some 158) rfl ?_
        refine tk 4 (some 159) rfl ?_
        refine tk 5 (some 160) rfl ?_
        refine tk 6 (some 161) rfl ?_
        refine tk 7 (some 162) rfl ?_
        refine sk 8 (some 163) rfl ?_
        refine sk 9 (some 164) rfl ?_
        refine sk 10 (some 165) rfl ?_
        refine sk 11 (some 166) rfl ?_
        refine sk 12 (some 167) rfl ?_
        refine sk 13 (some 168) rfl ?_
        refine sk 14 (some 169) rfl ?_
        refine sk 15 (some 170) rfl ?_
        refine tk 16 (some 171) rfl ?_
        refine tk 17 (some 172) rfl ?_
        refine tk 18 (some 173) rfl ?_
        refine sk 19 (some 174) rfl ?_
        refine sk 20 (some 175) rfl ?_
        refine sk 21 (some 176) rfl ?_
        refine sk 22 (some 177) rfl ?_
        refine tk 23 (some 178) rfl ?_
        refine tk 24 (some 179) rfl ?_
        refine sk 25 (some 180) rfl ?_
        refine sk 26 (some 181) rfl ?_
        refine sk 27 (some 182) rfl ?_
        refine sk 28 (some 183) rfl ?_
        refine sk 29 (some 184) rfl ?_
        refine sk 30 (some 185) rfl ?_
        refine sk 31 (some 186) rfl ?_
        refine sk 32 (some 187) rfl ?_
        refine sk 33 (some 188) rfl ?_
        refine tk 34 (some 189) rfl ?_
        refine wpAnyH_done (by kernel_rfl) ?_ _
        go_wp2_with fail
        go_meet
        exact ⟨by first|rfl|(cases P<;>rfl),bE⟩
      have hv3:((c0 !=1)=false)\/((c0 !=1)=true/\(c0 !=2)=false/\(c1 !=0)=false)\/((c0 !=1)=true/\(c0 !=2)=false/\(c1 !=0)=true/\(c1 !=1)=false):=by
       rcases bk.1 hv with h|⟨h,h'|h'⟩
       ·left;rw[bne_eq_false_iff_eq];exact h
       ·right;left;exact ⟨by rw[bne_iff_ne];omega,by rw[bne_eq_false_iff_eq];exact h,by rw[bne_eq_false_iff_eq];exact h'⟩
       ·right;right;exact ⟨by rw[bne_iff_ne];omega,by rw[bne_eq_false_iff_eq];exact h,by rw[bne_iff_ne];omega,by rw[bne_eq_false_iff_eq];exact h'⟩
      have HV:=zH hv
      clear hv bk
      by_cases hw:ak f q
      rotate_left 1
      ·obtain rfl:P=false:=by rw[<-HP2.o];exact ab (fun g=>hw g.2.1)
       have HS:=HS0
       have HI:Hid (∀W,Below w5.heap.size w5 W->Calls Tryz.prog 30 #[dp (.slice Aw f.wires.length cw) (.slice Aa f.acts.length ca) (.slice (some ⟨b,off,none⟩) f.cells.length cc) (.slice Ak f.keeps.length ck) (.slice Ai f.ins.length ci) (.slice Ao f.outs.length co),.int .i64 q] W fun e w'=>e= .returned (.bool false)/\Below W.heap.size W w'):=fun W hW=>by
        have:=fY (HFM.o W (HLOW.o W hW)) q
        rw[ab hw] at this
        exact this
       clear hw
       rcases hv3 with e3|⟨e3,e7,e11⟩|⟨e3,e7,e11,e12⟩
       ·refine wp_region_held_drew (S:=fun W=>W.cell? ⟨w.heap.size,0,none⟩=some (.slice Aw f.wires.length cw)/\W.cell? ⟨w.heap.size,1,none⟩=some (.slice Aa f.acts.length ca)/\W.cell? ⟨w.heap.size,2,none⟩=some (.slice (some ⟨b,off,none⟩) f.cells.length cc)/\W.cell? ⟨w.heap.size,3,none⟩=some (.slice Ak f.keeps.length ck)/\W.cell? ⟨w.heap.size,4,none⟩=some (.slice Ai f.ins.length ci)/\W.cell? ⟨w.heap.size,5,none⟩=some (.slice Ao f.outs.length co)/\W.cell? ⟨g4,0,none⟩=some (.int .i64 c0)/\W.cell? ⟨g4,1,none⟩=some (.int .i64 c1)) (by kernel_rfl) ?_ (fun hHeld=>?_)
        ·(try dsimp only);(first|(with_reducible exact HS.o _ bE)|go_keep)
        refine tk 0 (some 155) rfl ?_
        refine tk 1 (some 156) rfl ?_
        refine tk 2 (some 157) rfl ?_
        refine tk 3 (some 158) rfl ?_
        refine sk 4 (some 159) rfl ?_
        refine sk 5 (some 160) rfl ?_
        refine sk 6 (some 161) rfl ?_
        refine sk 7 (some 162) rfl ?_
        refine sk 8 (some 163) rfl ?_
        refine sk 9 (some 164) rfl ?_
        refine sk 10 (some 165) rfl ?_
        refine sk 11 (some 166) rfl ?_
        refine sk 12 (some 167) rfl ?_
        refine sk 13 (some 168) rfl ?_
        refine sk 14 (some 169) rfl ?_
        refine sk 15 (some 170) rfl ?_
        refine sk 16 (some 171) rfl ?_
        refine tk 17 (some 172) rfl ?_
        refine tk 18 (some 173) rfl ?_
        refine tk 19 (some 174) rfl ?_
        refine tk 20 (some 175) rfl ?_
        refine aH 21 (some 176) rfl (fun KK hKK=>?_)
        go_simp
        go_at_call 30;refine Calls.mono (HI.o _ ?hbb) ?_;(case hbb=>exact bE);rintro e w8 ⟨rfl,hb8⟩;(have hb9:Below w5.heap.size w5 w8:=Below.trans bE (hb8.mono lE));(have hs9:=hb9.size)
        (try go_wp2_with fail)
        refine hKK.out _ _ ?_ (fun hHeld=>?_)
        ·(try dsimp only);(first|(with_reducible exact HS.o _ bE)|go_keep)
        clear hKK KK
        try simp only[Act.put,List.setIfInBounds_toArray,List.set_cons_zero,List.set_cons_succ]
        refine tk 22 (some 177) rfl ?_
        refine tk 23 (some 178) rfl ?_
        refine tk 24 (some 179) rfl ?_
        refine sk 25 (some 180) rfl ?_
        refine sk 26 (some 181) rfl ?_
        refine sk 27 (some 182) rfl ?_
        refine sk 28 (some 183) rfl ?_
        refine sk 29 (some 184) rfl ?_
        refine sk 30 (some 185) rfl ?_
        refine sk 31 (some 186) rfl ?_
        refine sk 32 (some 187) rfl ?_
        refine sk 33 (some 188) rfl ?_
        refine tk 34 (some 189) rfl ?_
        refine wpAnyH_done (by kernel_rfl) ?_ _
        go_wp2_with fail
        go_meet
        exact ⟨by first|rfl|(cases P<;>rfl),bE⟩
       ·refine wp_region_held_drew (S:=fun W=>W.cell? ⟨w.heap.size,0,none⟩=some (.slice Aw f.wires.length cw)/\W.cell? ⟨w.heap.size,1,none⟩=some (.slice Aa f.acts.length ca)/\W.cell? ⟨w.heap.size,2,none⟩=some (.slice (some ⟨b,off,none⟩) f.cells.length cc)/\W.cell? ⟨w.heap.size,3,none⟩=some (.slice Ak f.keeps.length ck)/\W.cell? ⟨w.heap.size,4,none⟩=some (.slice Ai f.ins.length ci)/\W.cell? ⟨w.heap.size,5,none⟩=some (.slice Ao f.outs.length co)/\W.cell? ⟨g4,0,none⟩=some (.int .i64 c0)/\W.cell? ⟨g4,1,none⟩=some (.int .i64 c1)) (by kernel_rfl) ?_ (fun hHeld=>?_)
        ·(try dsimp only);(first|(with_reducible exact HS.o _ bE)|go_keep)
        refine tk 0 (some 155) rfl ?_
        refine tk 1 (some 156) rfl ?_
        refine tk 2 (some 157) rfl ?_
        refine tk 3 (some 158) rfl ?_
        refine tk 4 (some 159) rfl ?_
        refine tk 5 (some 160) rfl ?_
        refine tk 6 (some 161) rfl ?_
        refine tk 7 (some 162) rfl ?_
        refine tk 8 (some 163) rfl ?_
        refine tk 9 (some 164) rfl ?_
        refine tk 10 (some 165) rfl ?_
        refine tk 11 (some 166) rfl ?_
        refine sk 12 (some 167) rfl ?_
        refine sk 13 (some 168) rfl ?_
        refine sk 14 (some 169) rfl ?_
        refine tk 15 (some 170) rfl ?_
        refine tk 16 (some 171) rfl ?_
        refine tk 17 (some 172) rfl ?_
        refine tk 18 (some 173) rfl ?_
        refine tk 19 (some 174) rfl ?_
        refine tk 20 (some 175) rfl ?_
        refine aH 21 (some 176) rfl (fun KK hKK=>?_)
        go_simp
        go_at_call 30;refine Calls.mono (HI.o _ ?hbb) ?_;(case hbb=>exact bE);rintro e w8 ⟨rfl,hb8⟩;(have hb9:Below w5.heap.size w5 w8:=Below.trans bE (hb8.mono lE));(have hs9:=hb9.size)
        (try go_wp2_with fail)
        refine hKK.out _ _ ?_ (fun hHeld=>?_)
        ·(try dsimp only);(first|(with_reducible exact HS.o _ bE)|go_keep)
        clear hKK KK
        try simp only[Act.put,List.setIfInBounds_toArray,List.set_cons_zero,List.set_cons_succ]
        refine tk 22 (some 177) rfl ?_
        refine tk 23 (some 178) rfl ?_
        refine tk 24 (some 179) rfl ?_
        refine sk 25 (some 180) rfl ?_
        refine sk 26 (some 181) rfl ?_
        refine sk 27 (some 182) rfl ?_
        refine sk 28 (some 183) rfl ?_
        refine sk 29 (some 184) rfl ?_
        refine sk 30 (some 185) rfl ?_
        refine sk 31 (some 186) rfl ?_
        refine sk 32 (some 187) rfl ?_
        refine sk 33 (some 188) rfl ?_
        refine tk 34 (some 189) rfl ?_
        refine wpAnyH_done (by kernel_rfl) ?_ _
        go_wp2_with fail
        go_meet
        exact ⟨by first|rfl|(cases P<;>rfl),bE⟩
       ·refine wp_region_held_drew (S:=fun W=>W.cell? ⟨w.heap.size,0,none⟩=some (.slice Aw f.wires.length cw)/\W.cell? ⟨w.heap.size,1,none⟩=some (.slice Aa f.acts.length ca)/\W.cell? ⟨w.heap.size,2,none⟩=some (.slice (some ⟨b,off,none⟩) f.cells.length cc)/\W.cell? ⟨w.heap.size,3,none⟩=some (.slice Ak f.keeps.length ck)/\W.cell? ⟨w.heap.size,4,none⟩=some (.slice Ai f.ins.length ci)/\W.cell? ⟨w.heap.size,5,none⟩=some (.slice Ao f.outs.length co)/\W.cell? ⟨g4,0,none⟩=some (.int .i64 c0)/\W.cell? ⟨g4,1,none⟩=some (.int .i64 c1)) (by kernel_rfl) ?_ (fun hHeld=>?_)
        ·(try dsimp only);(first|(with_reducible exact HS.o _ bE)|go_keep)
        refine tk 0 (some 155) rfl ?_
        refine tk 1 (some 156) rfl ?_
        refine tk 2 (some 157) rfl ?_
        refine tk 3 (some 158) rfl ?_
        refine tk 4 (some 159) rfl ?_
        refine tk 5 (some 160) rfl ?_
        refine tk 6 (some 161) rfl ?_
        refine tk 7 (some 162) rfl ?_
        refine tk 8 (some 163) rfl ?_
        refine tk 9 (some 164) rfl ?_
        refine tk 10 (some 165) rfl ?_
        refine tk 11 (some 166) rfl ?_
        refine tk 12 (some 167) rfl ?_
        refine tk 13 (some 168) rfl ?_
        refine tk 14 (some 169) rfl ?_
        refine tk 15 (some 170) rfl ?_
        refine tk 16 (some 171) rfl ?_
        refine tk 17 (some 172) rfl ?_
        refine tk 18 (some 173) rfl ?_
        refine tk 19 (some 174) rfl ?_
        refine tk 20 (some 175) rfl ?_
        refine aH 21 (some 176) rfl (fun KK hKK=>?_)
        go_simp
        go_at_call 30;refine Calls.mono (HI.o _ ?hbb) ?_;(case hbb=>exact bE);rintro e w8 ⟨rfl,hb8⟩;(have hb9:Below w5.heap.size w5 w8:=Below.trans bE (hb8.mono lE));(have hs9:=hb9.size)
        (try go_wp2_with fail)
        refine hKK.out _ _ ?_ (fun hHeld=>?_)
        ·(try dsimp only);(first|(with_reducible exact HS.o _ bE)|go_keep)
        clear hKK KK
        try simp only[Act.put,List.setIfInBounds_toArray,List.set_cons_zero,List.set_cons_succ]
        refine tk 22 (some 177) rfl ?_
        refine tk 23 (some 178) rfl ?_
        refine tk 24 (some 179) rfl ?_
        refine sk 25 (some 180) rfl ?_
        refine sk 26 (some 181) rfl ?_
        refine sk 27 (some 182) rfl ?_
        refine sk 28 (some 183) rfl ?_
        refine sk 29 (some 184) rfl ?_
        refine sk 30 (some 185) rfl ?_
        refine sk 31 (some 186) rfl ?_
        refine sk 32 (some 187) rfl ?_
        refine sk 33 (some 188) rfl ?_
        refine tk 34 (some 189) rfl ?_
        refine wpAnyH_done (by kernel_rfl) ?_ _
        go_wp2_with fail
        go_meet
        exact ⟨by first|rfl|(cases P<;>rfl),bE⟩
      obtain ⟨m,b2,off2,cw2,Ag2,cg2,rfl,hm,hv2,_,mw2,hb2,wt2,y0,y1,lg2,mg2,sg2⟩:=fW (HFM.o _ hbl5) hw
      injection hv2 with hv2 _ hv3'
      subst hv2;subst hv3'
      have hm':(m:Int)<f.wires.length:=by omega
      have HI:Hid (∀W,Below w5.heap.size w5 W->Calls Tryz.prog 30 #[dp (.slice (some ⟨b2,off2,none⟩) f.wires.length cw) (.slice Aa f.acts.length ca) (.slice (some ⟨b,off,none⟩) f.cells.length cc) (.slice Ak f.keeps.length ck) (.slice Ai f.ins.length ci) (.slice Ao f.outs.length co),.int .i64 (m:Int)] W fun e w'=>e= .returned (.bool true)/\Below W.heap.size W w'):=fun W hW=>by
       have:=fY (HFM.o W (HLOW.o W hW)) (m:Int)
       rw[aq hw] at this
       exact this
      generalize hT1:ag f (m:Int)=T1 at*
      have HE:Hid ((T1 !=c0)= !P):=by
       show _=_
       rw[<-HP2.o]
       by_cases e:T1=c0
       ·rw[aq ⟨HV.o,hw,e⟩];simp[e]
       ·rw[ab (fun g=>e g.2.2)];simp[e]
      have HS:Hid (∀W,Below w5.heap.size w5 W->W.cell? ⟨w.heap.size,0,none⟩=some (.slice (some ⟨b2,off2,none⟩) f.wires.length cw)/\W.cell? ⟨w.heap.size,1,none⟩=some (.slice Aa f.acts.length ca)/\W.cell? ⟨w.heap.size,2,none⟩=some (.slice (some ⟨b,off,none⟩) f.cells.length cc)/\W.cell? ⟨w.heap.size,3,none⟩=some (.slice Ak f.keeps.length ck)/\W.cell? ⟨w.heap.size,4,none⟩=some (.slice Ai f.ins.length ci)/\W.cell? ⟨w.heap.size,5,none⟩=some (.slice Ao f.outs.length co)/\W.cell? ⟨g4,0,none⟩=some (.int .i64 c0)/\W.cell? ⟨g4,1,none⟩=some (.int .i64 c1)/\W.cell? ⟨b2,off2+m*2,none⟩=some (.int .i64 T1)):=fun W hW=>by
       obtain ⟨a0,a1,a2,a3,a4,a5,a6,a7⟩:=HS0.o W hW
       exact ⟨a0,a1,a2,a3,a4,a5,a6,a7,cell_kept y0 hW⟩
      clear hw hT1 y0 y1 wt2 sg2
      rcases hv3 with e3|⟨e3,e7,e11⟩|⟨e3,e7,e11,e12⟩
      ·refine wp_region_held_drew (S:=fun W=>W.cell? ⟨w.heap.size,0,none⟩=some (.slice (some ⟨b2,off2,none⟩) f.wires.length cw)/\W.cell? ⟨w.heap.size,1,none⟩=some (.slice Aa f.acts.length ca)/\W.cell? ⟨w.heap.size,2,none⟩=some (.slice (some ⟨b,off,none⟩) f.cells.length cc)/\W.cell? ⟨w.heap.size,3,none⟩=some (.slice Ak f.keeps.length ck)/\W.cell? ⟨w.heap.size,4,none⟩=some (.slice Ai f.ins.length ci)/\W.cell? ⟨w.heap.size,5,none⟩=some (.slice Ao f.outs.length co)/\W.cell? ⟨g4,0,none⟩=some (.int .i64 c0)/\W.cell? ⟨g4,1,none⟩=some (.int .i64 c1)/\W.cell? ⟨b2,off2+m*2,none⟩=some (.int .i64 T1)) (by kernel_rfl) ?_ (fun hHeld=>?_)
       ·(try dsimp only);(first|(with_reducible exact HS.o _ bE)|go_keep)
       refine tk 0 (some 155) rfl ?_
       refine tk 1 (some 156) rfl ?_
       refine tk 2 (some 157) rfl ?_
       refine tk 3 (some 158) rfl ?_
       refine sk 4 (some 159) rfl ?_
       refine sk 5 (some 160) rfl ?_
       refine sk 6 (some 161) rfl ?_
       refine sk 7 (some 162) rfl ?_
       refine sk 8 (some 163) rfl ?_
       refine sk 9 (some 164) rfl ?_
       refine sk 10 (some 165) rfl ?_
       refine sk 11 (some 166) rfl ?_
       refine sk 12 (some 167) rfl ?_
       refine sk 13 (some 168) rfl ?_
       refine sk 14 (some 169) rfl ?_
       refine sk 15 (some 170) rfl ?_
       refine sk 16 (some 171) rfl ?_
       refine tk 17 (some 172) rfl ?_
       refine tk 18 (some 173) rfl ?_
       refine tk 19 (some 174) rfl ?_
       refine tk 20 (some 175) rfl ?_
       refine aH 21 (some 176) rfl (fun KK hKK=>?_)
       go_simp
       go_at_call 30;refine Calls.mono (HI.o _ ?hbb) ?_;(case hbb=>exact bE);rintro e w8 ⟨rfl,hb8⟩;(have hb9:Below w5.heap.size w5 w8:=Below.trans bE (hb8.mono lE));(have hs9:=hb9.size)
       (try go_wp2_with fail)
       refine hKK.out _ _ ?_ (fun hHeld=>?_)
       ·(try dsimp only);(first|(with_reducible exact HS.o _ bE)|go_keep)
       clear hKK KK
       try simp only[Act.put,List.setIfInBounds_toArray,List.set_cons_zero,List.set_cons_succ]
       refine tk 22 (some 177) rfl ?_
       refine tk 23 (some 178) rfl ?_
       refine tk 24 (some 179) rfl ?_
       refine tk 25 (some 180) rfl ?_
       refine tk 26 (some 181) rfl ?_
       refine tk 27 (some 182) rfl ?_
       refine tk 28 (some 183) rfl ?_
       refine tk 29 (some 184) rfl ?_
       refine tk 30 (some 185) rfl ?_
       refine tk 31 (some 186) rfl ?_
       refine tk 32 (some 187) rfl ?_
       refine tk 33 (some 188) rfl ?_
       refine tk 34 (some 189) rfl ?_
       refine wpAnyH_done (by kernel_rfl) ?_ _
       go_wp2_with fail
       go_meet
       exact ⟨by first|exact congrArg Value.bool HE.o|rfl|(cases P<;>rfl),bE⟩
      ·refine wp_region_held_drew (S:=fun W=>W.cell? ⟨w.heap.size,0,none⟩=some (.slice (some ⟨b2,off2,none⟩) f.wires.length cw)/\W.cell? ⟨w.heap.size,1,none⟩=some (.slice Aa f.acts.length ca)/\W.cell? ⟨w.heap.size,2,none⟩=some (.slice (some ⟨b,off,none⟩) f.cells.length cc)/\W.cell? ⟨w.heap.size,3,none⟩=some (.slice Ak f.keeps.length ck)/\W.cell? ⟨w.heap.size,4,none⟩=some (.slice Ai f.ins.length ci)/\W.cell? ⟨w.heap.size,5,none⟩=some (.slice Ao f.outs.length co)/\W.cell? ⟨g4,0,none⟩=some (.int .i64 c0)/\W.cell? ⟨g4,1,none⟩=some (.int .i64 c1)/\W.cell? ⟨b2,off2+m*2,none⟩=some (.int .i64 T1)) (by kernel_rfl) ?_ (fun hHeld=>?_)
       ·(try dsimp only);(first|(with_reducible exact HS.o _ bE)|go_keep)
       refine tk 0 (some 155) rfl ?_
       refine tk 1 (some 156) rfl ?_
       refine tk 2 (some 157) rfl ?_
       refine tk 3 (some 158) rfl ?_
       refine tk 4 (some 159) rfl ?_
       refine tk 5 (some 160) rfl ?_
       refine tk 6 (some 161) rfl ?_
       refine tk 7 (some 162) rfl ?_
       refine tk 8 (some 163) rfl ?_
       refine tk 9 (some 164) rfl ?_
       refine tk 10 (some 165) rfl ?_
       refine tk 11 (some 166) rfl ?_
       refine sk 12 (some 167) rfl ?_
       refine sk 13 (some 168) rfl ?_
       refine sk 14 (some 169) rfl ?_
       refine tk 15 (some 170) rfl ?_
       refine tk 16 (some 171) rfl ?_
       refine tk 17 (some 172) rfl ?_
       refine tk 18 (some 173) rfl ?_
       refine tk 19 (some 174) rfl ?_
       refine tk 20 (some 175) rfl ?_
       refine aH 21 (some 176) rfl (fun KK hKK=>?_)
       go_simp
       go_at_call 30;refine Calls.mono (HI.o _ ?hbb) ?_;(case hbb=>exact bE);rintro e w8 ⟨rfl,hb8⟩;(have hb9:Below w5.heap.size w5 w8:=Below.trans bE (hb8.mono lE));(have hs9:=hb9.size)
       (try go_wp2_with fail)
       refine hKK.out _ _ ?_ (fun hHeld=>?_)
       ·(try dsimp only);(first|(with_reducible exact HS.o _ bE)|go_keep)
       clear hKK KK
       try simp only[Act.put,List.setIfInBounds_toArray,List.set_cons_zero,List.set_cons_succ]
       refine tk 22 (some 177) rfl ?_
       refine tk 23 (some 178) rfl ?_
       refine tk 24 (some 179) rfl ?_
       refine tk 25 (some 180) rfl ?_
       refine tk 26 (some 181) rfl ?_
       refine tk 27 (some 182) rfl ?_
       refine tk 28 (some 183) rfl ?_
       refine tk 29 (some 184) rfl ?_
       refine tk 30 (some 185) rfl ?_
       refine tk 31 (some 186) rfl ?_
       refine tk 32 (some 187) rfl ?_
       refine tk 33 (some 188) rfl ?_
       refine tk 34 (some 189) rfl ?_
       refine wpAnyH_done (by kernel_rfl) ?_ _
       go_wp2_with fail
       go_meet
       exact ⟨by first|exact congrArg Value.bool HE.o|rfl|(cases P<;>rfl),bE⟩
      ·refine wp_region_held_drew (S:=fun W=>W.cell? ⟨w.heap.size,0,none⟩=some (.slice (some ⟨b2,off2,none⟩) f.wires.length cw)/\W.cell? ⟨w.heap.size,1,none⟩=some (.slice Aa f.acts.length ca)/\W.cell? ⟨w.heap.size,2,none⟩=some (.slice (some ⟨b,off,none⟩) f.cells.length cc)/\W.cell? ⟨w.heap.size,3,none⟩=some (.slice Ak f.keeps.length ck)/\W.cell? ⟨w.heap.size,4,none⟩=some (.slice Ai f.ins.length ci)/\W.cell? ⟨w.heap.size,5,none⟩=some (.slice Ao f.outs.length co)/\W.cell? ⟨g4,0,none⟩=some (.int .i64 c0)/\W.cell? ⟨g4,1,none⟩=some (.int .i64 c1)/\W.cell? ⟨b2,off2+m*2,none⟩=some (.int .i64 T1)) (by kernel_rfl) ?_ (fun hHeld=>?_)
       ·(try dsimp only);(first|(with_reducible exact HS.o _ bE)|go_keep)
       refine tk 0 (some 155) rfl ?_
       refine tk 1 (some 156) rfl ?_
       refine tk 2 (some 157) rfl ?_
       refine tk 3 (some 158) rfl ?_
       refine tk 4 (some 159) rfl ?_
       refine tk 5 (some 160) rfl ?_
       refine tk 6 (some 161) rfl ?_
       refine tk 7 (some 162) rfl ?_
       refine tk 8 (some 163) rfl ?_
       refine tk 9 (some 164) rfl ?_
       refine tk 10 (some 165) rfl ?_
       refine tk 11 (some 166) rfl ?_
       refine tk 12 (some 167) rfl ?_
       refine tk 13 (some 168) rfl ?_
       refine tk 14 (some 169) rfl ?_
       refine tk 15 (some 170) rfl ?_
       refine tk 16 (some 171) rfl ?_
       refine tk 17 (some 172) rfl ?_
       refine tk 18 (some 173) rfl ?_
       refine tk 19 (some 174) rfl ?_
       refine tk 20 (some 175) rfl ?_
       refine aH 21 (some 176) rfl (fun KK hKK=>?_)
       go_simp
       go_at_call 30;refine Calls.mono (HI.o _ ?hbb) ?_;(case hbb=>exact bE);rintro e w8 ⟨rfl,hb8⟩;(have hb9:Below w5.heap.size w5 w8:=Below.trans bE (hb8.mono lE));(have hs9:=hb9.size)
       (try go_wp2_with fail)
       refine hKK.out _ _ ?_ (fun hHeld=>?_)
       ·(try dsimp only);(first|(with_reducible exact HS.o _ bE)|go_keep)
       clear hKK KK
       try simp only[Act.put,List.setIfInBounds_toArray,List.set_cons_zero,List.set_cons_succ]
       refine tk 22 (some 177) rfl ?_
       refine tk 23 (some 178) rfl ?_
       refine tk 24 (some 179) rfl ?_
       refine tk 25 (some 180) rfl ?_
       refine tk 26 (some 181) rfl ?_
       refine tk 27 (some 182) rfl ?_
       refine tk 28 (some 183) rfl ?_
       refine tk 29 (some 184) rfl ?_
       refine tk 30 (some 185) rfl ?_
       refine tk 31 (some 186) rfl ?_
       refine tk 32 (some 187) rfl ?_
       refine tk 33 (some 188) rfl ?_
       refine tk 34 (some 189) rfl ?_
       refine wpAnyH_done (by kernel_rfl) ?_ _
       go_wp2_with fail
       go_meet
       exact ⟨by first|exact congrArg Value.bool HE.o|rfl|(cases P<;>rfl),bE⟩
     case rest=>
     obtain ⟨rfl,hbc⟩:=hcut
     have hbE:=hb15.trans (hbc.mono hs5)
     cases P
     ·have HF:Hid (cB (bm f)=false):=ab (fun g=>fO.1 HP2.o (by
       have:=(HOD.o g).2.2.1 k _ HX.o
       rw[HQQ.o] at this
       exact this))
      go_wp2_with fail
      go_ret
      exact ⟨aj HF.o.symm,HBW.o _ hbE⟩
     have HP':=zH (aC HP.o (fun y hy=>by
      rw[HX.o] at hy;injection hy with hy;rw[<-hy,HQQ.o];exact cb.1 HP2.o))
     go_wp2_with fail
     go_roundw
     case rel=>exact ⟨k+1,by omega,by go_num,HP'.o,hbE⟩
     case measure=>simp[intOf];omega
    obtain rfl:k=f.cells.length:=by omega
    have HD5:Hid (D5 f):=fun j y hy=>HP.o j (List.getElem?_eq_some_iff.1 hy).1 y hy
    have HCOK:=zH (rO HD1.o HD5.o)
    have HWIR:Hid (ge f):=⟨HWO.o,HD1.o.1.1,HD1.o.1.2⟩
    clear HP
    go_wp2_with fail
    obtain ⟨w6,hw6⟩:∃w6:World,w6=wr:=⟨_,rfl⟩
    subst hw6
    have hb16:=hb
    clear f0 f1 f2 f3 f4 f5 hb hsr hlt hbl
    go_loopw[11] (fun i wr=>∃k:Nat,k<=f.acts.length/\i= .int .i64 k/\Hid (∀j,j<k->∀x,f.acts[j]? =some x->ak f x.dst/\x.dst∉f.ins/\bO x.dst 0 f.acts=j/\au f x)/\Below w1.heap.size w1 wr) (fun i _=>f.acts.length-(intOf i).toNat)
    case atStart=>exact ⟨0,Nat.zero_le _,rfl,fun j hj=>absurd hj (by omega),hb16⟩
    case round=>as_aux_lemma=>
     clear hb16
     obtain ⟨k,hk,rfl,HP,hb⟩:=hrel
     have hsr:=hb.size
     obtain ⟨f0,f1,f2,f3,f4,f5⟩:=HF6.o wr hb
     have hbl:=HBW.o _ hb
     by_cases hlt:k<f.acts.length
     ·obtain ⟨b,off,⟨xo,xd,xa,xb,xc,xk⟩,hAa,hbb,hx,wx,d0,d1,d2,d3,d4,d5⟩:=(HSA.o _ hbl).ac hlt
      subst hAa
      dsimp only at d0 d1 d2 d3 d4 d5
      have HX:=zH hx
      have ba:Below wr.heap.size wr (wr.alloc (.cells #[.int .i64 xo,.int .i64 xd,.int .i64 xa,.int .i64 xb,.int .i64 xc,.int .i64 xk] 58)):=bE
      have r4:=ai.new wr #[.int .i64 xo,.int .i64 xd,.int .i64 xa,.int .i64 xb,.int .i64 xc,.int .i64 xk] 58
      have hb4:=hb.trans (ba.mono hsr)
      clear hx
      go_upto_region 33 with (fail)
      generalize wr.heap.size=g4 at*
      generalize wr.alloc (.cells #[.int .i64 xo,.int .i64 xd,.int .i64 xa,.int .i64 xb,.int .i64 xc,.int .i64 xk] 58)=w4 at*
      clear d0 d1 d2 d3 d4 d5 f0 f1 f2 f3 f4 f5 ba
      have hg4:=r4.lt
      have hs4:=hb4.size
      have HNOF:Hid (¬(ak f xd/\xd∉f.ins/\bO xd 0 f.acts=k/\au f ⟨xo,xd,xa,xb,xc,xk⟩)->cB (bm f)=false):=fun hn=>ab (fun g=>hn ((HOD.o g).2.2.2 k _ HX.o))
      have HC6:Hid (∀W,Below w4.heap.size w4 W->W.cell? ⟨g4,0,none⟩=some (.int .i64 xo)/\W.cell? ⟨g4,1,none⟩=some (.int .i64 xd)/\W.cell? ⟨g4,2,none⟩=some (.int .i64 xa)/\W.cell? ⟨g4,3,none⟩=some (.int .i64 xb)/\W.cell? ⟨g4,4,none⟩=some (.int .i64 xc)/\W.cell? ⟨g4,5,none⟩=some (.int .i64 xk)):=fun W hW=>(r4.below hW hg4).six'
      obtain ⟨f0,f1,f2,f3,f4,f5⟩:=HF6.o w4 hb4
      obtain ⟨z0,z1,z2,z3,z4,z5⟩:=HC6.o w4 (Below.refl _ _)
      have HI:=zH (fY (HFM.o w4 (HBW.o _ hb4)) xd)
      by_cases h1:ak f xd
      rotate_left 1
      ·have HF:=zH (HNOF.o (fun g=>h1 g.1))
       rw[ab h1] at HI
       clear h1
       go_wp2_with fail
       (with_reducible refine HI.o.mono ?_)
       rintro e w5 ⟨rfl,hb5⟩
       go_wp2_with fail
       go_ret
       exact ⟨aj HF.o.symm,HBW.o _ (hb4.trans (hb5.mono hs4))⟩
      have H1:=zH h1
      rw[aq h1] at HI
      clear h1
      have HIN:=zH (fun W (hW:Below w1.heap.size w1 W)=>lG f.ins xd _ _ W ⟨Ai,ci,rfl,li,mi,HSI.o W (HBW.o _ hW)⟩)
      obtain ⟨P,HP2⟩:∃P:Bool,Hid (cB (xd∈f.ins)=P):=⟨_,rfl⟩
      rw[HP2.o] at HIN
      go_wp2_with fail
      (with_reducible refine HI.o.mono ?_)
      rintro e w5 ⟨rfl,hb5⟩
      have hb45:=hb5
      have hb15:=hb4.trans (hb5.mono hs4)
      clear f0 f1 f2 f3 f4 f5 z0 z1 z2 z3 z4 z5 HI hb5
      obtain ⟨f0,f1,f2,f3,f4,f5⟩:=HF6.o w5 hb15
      obtain ⟨z0,z1,z2,z3,z4,z5⟩:=HC6.o w5 hb45
      cases P
      rotate_left 1
      ·have HF:=zH (HNOF.o (fun g=>g.2.1 (cb.1 HP2.o)))
       go_wp2_with fail
       (with_reducible refine (HIN.o _ hb15).mono ?_)
       rintro e w6 ⟨rfl,rfl⟩
       go_wp2_with fail
       go_ret
       exact ⟨aj HF.o.symm,HBW.o _ hb15⟩
      have HBY:=zH (tA (HFN.o w5 (HBW.o _ hb15)) xd)
      generalize hq:bO xd 0 f.acts=q at*
      go_wp2_with fail
      (with_reducible refine (HIN.o _ hb15).mono ?_)
      rintro e w6 ⟨rfl,rfl⟩
      have hqe:=zH hq
      by_cases h2:q=k
      rotate_left 1
      ·have HF:=zH (HNOF.o (fun g=>h2 g.2.2.1))
       have e2:(q !=(k:Int))=true:=by rw[bne_iff_ne];exact h2
       clear h2 hq
       go_wp2_with fail
       (with_reducible refine HBY.o.mono ?_)
       rintro e w7 ⟨rfl,hb7⟩
       go_wp2_with fail
       go_ret
       exact ⟨aj HF.o.symm,HBW.o _ (hb15.trans (hb7.mono hb15.size))⟩
      have e2:(q !=(k:Int))=false:=by rw[bne_eq_false_iff_eq];exact h2
      have H2:=zH h2
      clear h2 hq
      go_wp2_with fail
      (with_reducible refine HBY.o.mono ?_)
      rintro e w7 ⟨rfl,hb7⟩
      have hb47:=hb45.trans (hb7.mono hb45.size)
      have hb17:=hb15.trans (hb7.mono hb15.size)
      clear f0 f1 f2 f3 f4 f5 z0 z1 z2 z3 z4 z5 HBY hb7
      obtain ⟨f0,f1,f2,f3,f4,f5⟩:=HF6.o w7 hb17
      obtain ⟨z0,z1,z2,z3,z4,z5⟩:=HC6.o w7 hb47
      have HAC:=zH (zy (HFN.o w7 (HBW.o _ hb17)) ⟨xo,xd,xa,xb,xc,xk⟩ wx H1.o HCOK.o (jr HWIR.o H1.o))
      obtain ⟨Q,HQ2⟩:∃Q:Bool,Hid (cB (au f ⟨xo,xd,xa,xb,xc,xk⟩)=Q):=⟨_,rfl⟩
      rw[HQ2.o] at HAC
      cases Q
      ·have HF:=zH (HNOF.o (fun g=>fO.1 HQ2.o g.2.2.2))
       go_wp2_with fail
       (with_reducible refine HAC.o.mono ?_)
       rintro e w8 ⟨rfl,hb8⟩
       go_wp2_with fail
       go_ret
       exact ⟨aj HF.o.symm,HBW.o _ (hb17.trans (hb8.mono hb17.size))⟩
      have HP':=zH (aC HP.o (fun y hy=>by
       rw[HX.o] at hy;injection hy with hy;rw[<-hy]
       exact ⟨H1.o,fO.1 HP2.o,hqe.out.trans H2.o,cb.1 HQ2.o⟩))
      go_wp2_with fail
      (with_reducible refine HAC.o.mono ?_)
      rintro e w8 ⟨rfl,hb8⟩
      go_wp2_with fail
      go_roundw
      case rel=>exact ⟨k+1,by omega,by go_num,HP'.o,hb17.trans (hb8.mono hb17.size)⟩
      case measure=>simp[intOf];omega
     obtain rfl:k=f.acts.length:=by omega
     have HD6:Hid (D6 f):=fun j y hy=>HP.o j (List.getElem?_eq_some_iff.1 hy).1 y hy
     have HACS:Hid (∀x∈f.acts,yy f x):=fun x hx=>by
      obtain ⟨j,hj⟩:=List.getElem?_of_mem hx
      obtain ⟨q1,q2,q3,q4⟩:=HD6.o j x hj
      obtain ⟨p1,p2,p3,p4⟩:=oY HWIR.o q1 q4
      refine ⟨p1,p2,fun n hn=>?_,jr HWIR.o p2⟩
      rcases List.mem_append.1 hn with hn|hn
      ·exact p3 n hn
      ·obtain ⟨g,hg,rfl⟩:=List.mem_map.1 hn
       exact p4 g hg
     have HROW:=zH (fun W (hW:Below w1.heap.size w1 W)=>zU (HFN.o W (HBW.o _ hW)) HD1.o (fun n hn=>(HPI.o.1 n hn).1) HD4.o HACS.o)
     have HEND:Hid (∀n:Nat,(n=f.acts.length↔gY f)->cB (bm f)=((n:Int)==(f.acts.length:Int))):=fun n hn=>by
      rw[Bool.eq_iff_iff,cb,beq_iff_eq]
      constructor
      ·intro g
       have:=hn.2 g.2.2.2.2.2.2
       omega
      ·intro g
       exact Eg HD1.o HWO.o HPI.o HPOK.o HD4.o HD5.o HD6.o (hn.1 (by omega))
     have HS:=zH (fun W (hW:Below wr.heap.size wr W)=>HF6.o W (hb.trans (hW.mono hsr)))
     clear HP
     go_upto_region 35 with (fail)
     clear f0 f1 f2 f3 f4 f5
     refine wp_region_held_drew (S:=fun W=>W.cell? ⟨w.heap.size,0,none⟩=some (.slice Aw f.wires.length cw)/\W.cell? ⟨w.heap.size,1,none⟩=some (.slice Aa f.acts.length ca)/\W.cell? ⟨w.heap.size,2,none⟩=some (.slice Acl f.cells.length cc)/\W.cell? ⟨w.heap.size,3,none⟩=some (.slice Ak f.keeps.length ck)/\W.cell? ⟨w.heap.size,4,none⟩=some (.slice Ai f.ins.length ci)/\W.cell? ⟨w.heap.size,5,none⟩=some (.slice Ao f.outs.length co)) (by kernel_rfl) ?_ (fun hHeld=>?_)
     ·(try dsimp only);(first|(with_reducible exact HS.o _ bE)|go_keep)
     refine tk 0 (some 228) rfl ?_
     refine tk 2 (some 230) rfl ?_
     refine tk 3 (some 231) rfl ?_
     refine tk 4 (some 232) rfl ?_
     refine aH 1 (some 229) rfl (fun KK hKK=>?_)
     go_simp
     go_at_call 37;refine Calls.mono (HROW.o _ ?hbb) ?_;(case hbb=>exact hb.trans (Below.mono (bE:Below wr.heap.size wr _) hsr));rintro e w8 ⟨n8,rfl,hn8,hiff,hb8⟩;(have HIFF8:=zH hiff);clear hiff;(have hb9:Below wr.heap.size wr w8:=Below.trans bE (hb8.mono lE))
     (try go_wp2_with fail)
     refine hKK.out _ _ ?_ (fun hHeld=>?_)
     ·(try dsimp only);(first|(with_reducible exact HS.o _ bE)|go_keep)
     clear hKK KK
     try simp only[Act.put,List.setIfInBounds_toArray,List.set_cons_zero,List.set_cons_succ]
     refine tk 5 (some 233) rfl ?_
     refine tk 6 (some 2) rfl ?_
     refine wpAnyH_done (by kernel_rfl) ?_ _
     go_wp2_with fail
     go_ret
     exact ⟨aj (HEND.o n8 HIFF8.o).symm,HBW.o _ (hb.trans (Below.mono (bE:Below wr.heap.size wr _) hsr))⟩
end Go.Proofs.YtckognjamlckcaaGreatDoor
