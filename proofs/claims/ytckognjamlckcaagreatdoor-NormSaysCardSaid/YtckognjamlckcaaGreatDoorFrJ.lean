/-
  The document's words on flats: whether a flat is right.
-/
import Derived.Test.YtckognjamlckcaaGreatDoorNpI
set_option maxHeartbeats 16000000
set_option maxRecDepth 100000
namespace Go.Proofs.YtckognjamlckcaaGreatDoor
open Go.RowKit Vf Fo
attribute [local go_sem ↓] Go.wp_at_zero Go.wp_at_succ
abbrev yE (d:Int × Ex) (A:Option Addr) (cap:Nat):Array Value:= #[.int .i64 d.1,.int .i64 d.2.op,.string d.2.name,.int .i64 d.2.n,.slice A d.2.args.length cap,.int .i64 d.2.line,.int .i64 d.2.col]
theorem ai.seven' {W:World} {b:Nat} {x0 x1 x2 x3 x4 x5 x6:Value} {t:TypeId} (h:ai W b #[x0,x1,x2,x3,x4,x5,x6] t):W.cell? ⟨b,0,none⟩=some x0/\W.cell? ⟨b,1,none⟩=some x1/\W.cell? ⟨b,2,none⟩=some x2/\W.cell? ⟨b,3,none⟩=some x3/\W.cell? ⟨b,4,none⟩=some x4/\W.cell? ⟨b,5,none⟩=some x5/\W.cell? ⟨b,6,none⟩=some x6:=
 ⟨(h.cell 0).trans rfl,(h.cell 1).trans rfl,(h.cell 2).trans rfl,(h.cell 3).trans rfl,(h.cell 4).trans rfl,(h.cell 5).trans rfl,(h.cell 6).trans rfl⟩
theorem sI {w:World} {f:Fl} {vw vd vi vo:Value} (h:cS w w.heap.size f vw vd vi vo) (hs:∀d∈f.defs,ay d.2<=1000000) (hld:f.defs.length<=100000) (hli:f.ins.length<=100000):
  Calls Tryz.prog 12 #[eZ vw vd vi vo] w fun e w'=>e= .returned (.bool (cB (bn f)))/\Below w.heap.size w w':=by
 obtain ⟨Aw,cw,rfl,lw,mw,_⟩:=h.wires
 obtain ⟨Ad,cd,rfl,ld,md,_⟩:=h.defs
 obtain ⟨Ai,ci,rfl,li,mi,_⟩:=h.ins
 obtain ⟨Ao,co,rfl,lo,mo,_⟩:=h.outs
 refine' zq62
 refine' zq184
 have mi':ci<=9223372036854775807:=by unfold maxLen at mi;omega
 have mo':co<=9223372036854775807:=by unfold maxLen at mo;omega
 refine' zq93
 have HFL:=zH (fun W (hW:Below w.heap.size w W)=>h.next hW)
 have HSW:Hid (∀W,Below w.heap.size w W->Sl W W.heap.size 2 (fu W W.heap.size) Aw f.wires):=fun W hW=>by
  obtain ⟨A,c,hv,_,_,s⟩:=(HFL.o W hW).wires
  injection hv with h1 _ _
  rw[h1];exact s
 refine' zq269
 have HSI:Hid (∀W,Below w.heap.size w W->Sl W W.heap.size 1 aP Ai f.ins):=fun W hW=>by
  obtain ⟨A,c,hv,_,_,s⟩:=(HFL.o W hW).ins
  injection hv with h1 _ _
  rw[h1];exact s
 have HSZ:=zH hs
 have HOD:=zH (fun (g:bn f)=>Dd g)
 clear h hs
 go_enter Tryz.func12,Tryz.ntmps12
 refine' zq129
 refine' zq123
 refine' zq75
 obtain ⟨f0,f1,f2,f3⟩:=HF4.o w1 (Below.refl _ _)
 by_cases h1:f.wires.length<1
 ·have e1:decide ((f.wires.length:Int)<1)=true:=decide_eq_true (by omega)
  have e1':decide (f.wires.length<1)=true:=decide_eq_true h1
  have HF:Hid (cB (bn f)=false):=ab (fun g=>by have:=g.1.2.1;omega)
  clear h1
  refine' zq112
 have ea:decide ((f.wires.length:Int)<1)=false:=decide_eq_false (by omega)
 have ea':decide (f.wires.length<1)=false:=decide_eq_false h1
 have hz1:0<f.wires.length:=by omega
 clear h1
 by_cases h1:400<f.wires.length
 ·have e1:decide ((400:Int)<(f.wires.length:Int))=true:=decide_eq_true (by omega)
  have e1':decide (400<f.wires.length)=true:=decide_eq_true h1
  have HF:Hid (cB (bn f)=false):=ab (fun g=>by have:=g.1.2.2;omega)
  clear h1
  refine' zq112
 have eb:decide ((400:Int)<(f.wires.length:Int))=false:=decide_eq_false (by omega)
 have eb':decide (400<f.wires.length)=false:=decide_eq_false h1
 have hz2:f.wires.length<=400:=by omega
 clear h1
 go_wp2_with fail
 clear f0 f1 f2 f3 ea ea' eb eb'
 go_loopw[3] (fun i wr=>∃k:Nat,k<=f.wires.length/\i= .int .i64 k/\Hid (∀j,j<k->∀x,f.wires[j]? =some x->eL f.fm x)/\Below w1.heap.size w1 wr) (fun i _=>f.wires.length-(intOf i).toNat)
 case atStart=>exact ⟨0,Nat.zero_le _,rfl,fun j hj=>absurd hj (by omega),Below.refl _ _⟩
 case round=>
  obtain ⟨k,hk,rfl,HP,hb⟩:=hrel
  have hsr:=hb.size
  obtain ⟨f0,f1,f2,f3⟩:=HF4.o wr hb
  by_cases hlt:k<f.wires.length
  ·refine' zq136
   have HSG0:=zH ((sg.below ba).more ba.size)
   clear hx sg
   go_upto_region 7 with (fail)
   generalize wr.heap.size=g4 at*
   refine' zq300
   clear d0 d1 f0 f1 f2 f3 ba
   have hg4:=r4.lt
   have hs4:=hb4.size
   have HS4:Hid (∀W,Below w4.heap.size w4 W->(W.cell? ⟨w.heap.size,0,none⟩=some (.slice (some ⟨b,off,none⟩) f.wires.length cw)/\W.cell? ⟨w.heap.size,1,none⟩=some (.slice Ad f.defs.length cd)/\W.cell? ⟨w.heap.size,2,none⟩=some (.slice Ai f.ins.length ci)/\W.cell? ⟨w.heap.size,3,none⟩=some (.slice Ao f.outs.length co))/\W.cell? ⟨g4,1,none⟩=some (.slice Ag x.clock.length cg)):=fun W hW=>⟨HF4.o W (hb4.trans (hW.mono hs4)),(r4.below hW hg4).two'.2⟩
   obtain ⟨z0,z1⟩:=r4.two'
   obtain ⟨f0,f1,f2,f3⟩:=HF4.o w4 hb4
   by_cases ht:x.ty=1\/x.ty=2
   rotate_left 1
   ·have e1:(x.ty !=1)=true:=by rw[bne_iff_ne];exact fun g=>ht (.inl g)
    have e2:(x.ty !=2)=true:=by rw[bne_iff_ne];exact fun g=>ht (.inr g)
    have HF:Hid (cB (bn f)=false):=ab (fun g=>ht (g.1.1 x (List.mem_of_getElem? HX.o)).1)
    clear ht
    go_wp2_with fail
    go_ret
    exact ⟨aj HF.o.symm,HBW.o _ hb4⟩
   have HT:=zH ht
   go_cut[40] (fun v40 W=>v40= .bool false/\w4=W)
   case first=>
    refine' zq176
   case rest=>
   obtain ⟨rfl,rfl⟩:=hcut
   clear ht
   have HSG:Hid (∀W,Below w4.heap.size w4 W->Sl W W.heap.size 2 aW Ag x.clock):=fun W hW=>(HSG0.o.below hW).more hW.size
   go_wp2_with fail
   clear z0 z1 f0 f1 f2 f3 HSG0
   go_loopw[5] (fun i wr=>∃q:Nat,q<=x.clock.length/\i= .int .i64 q/\Hid (∀p,p<q->∀g,x.clock[p]? =some g->ak f.fm g.wire/\ag f.fm g.wire=2/\aa f.fm g.wire=x.clock.take p)/\Below w4.heap.size w4 wr) (fun i _=>x.clock.length-(intOf i).toNat)
   case atStart=>exact ⟨0,Nat.zero_le _,rfl,fun j hj=>absurd hj (by omega),Below.refl _ _⟩
   case round=>
    obtain ⟨q,hq,rfl,HQ,hbq⟩:=hrel
    obtain ⟨⟨f0,f1,f2,f3⟩,z1⟩:=HS4.o _ hbq
    refine' zq78
    clear e0 e0'
    refine' zq281
    obtain ⟨P,HP2⟩:∃P:Bool,Hid (cB (ak f.fm gw/\ag f.fm gw=2/\aa f.fm gw=x.clock.take q)=P):=⟨_,rfl⟩
    go_cut[85] (fun v85 W=>v85= .bool (!P)/\Below w5.heap.size w5 W)
    case first=>as_aux_lemma=>
     have HS0:Hid (∀W,Below w5.heap.size w5 W->(W.cell? ⟨w.heap.size,0,none⟩=some (.slice (some ⟨b,off,none⟩) f.wires.length cw)/\W.cell? ⟨w.heap.size,1,none⟩=some (.slice Ad f.defs.length cd)/\W.cell? ⟨w.heap.size,2,none⟩=some (.slice Ai f.ins.length ci)/\W.cell? ⟨w.heap.size,3,none⟩=some (.slice Ao f.outs.length co))/\W.cell? ⟨g4,1,none⟩=some (.slice (some ⟨bg,og,none⟩) x.clock.length cg)):=fun W hW=>HS4.o W (HLOW.o W hW).1
     by_cases hn:gw<0
     ·obtain rfl:P=false:=by rw[<-HP2.o];exact ab (fun g=>by have:=g.1.1;omega)
      have en:decide (gw<0)=true:=decide_eq_true hn
      clear hn
      refine wp_region_held_drew (S:=fun W=>(W.cell? ⟨w.heap.size,0,none⟩=some (.slice (some ⟨b,off,none⟩) f.wires.length cw)/\W.cell? ⟨w.heap.size,1,none⟩=some (.slice Ad f.defs.length cd)/\W.cell? ⟨w.heap.size,2,none⟩=some (.slice Ai f.ins.length ci)/\W.cell? ⟨w.heap.size,3,none⟩=some (.slice Ao f.outs.length co))/\W.cell? ⟨g4,1,none⟩=some (.slice (some ⟨bg,og,none⟩) x.clock.length cg)) (by kernel_rfl) ?_ (fun hHeld=>?_)
      ·(try dsimp only);(first|(with_reducible exact HS0.o _ bE)|go_keep)
      refine tk 0 (some 54) rfl ?_
      refine tk 1 (some 55) rfl ?_
      refine tk 2 (some 56) rfl ?_
      refine sk 3 (some 57) rfl ?_
      refine sk 4 (some 58) rfl ?_
      refine sk 5 (some 59) rfl ?_
      refine sk 6 (some 60) rfl ?_
      refine sk 7 (some 61) rfl ?_
      refine tk 8 (some 62) rfl ?_
      refine tk 9 (some 63) rfl ?_
      refine sk 10 (some 64) rfl ?_
      refine sk 11 (some 65) rfl ?_
      refine sk 12 (some 66) rfl ?_
      refine sk 13 (some 67) rfl ?_
      refine sk 14 (some 68) rfl ?_
      refine sk 15 (some 69) rfl ?_
      refine sk 16 (some 70) rfl ?_
      refine tk 17 (some 71) rfl ?_
      refine tk 18 (some 72) rfl ?_
      refine sk 19 (some 73) rfl ?_
      refine sk 20 (some 74) rfl ?_
      refine sk 21 (some 75) rfl ?_
      refine sk 22 (some 76) rfl ?_
      refine sk 23 (some 77) rfl ?_
      refine sk 24 (some 78) rfl ?_
      refine sk 25 (some 79) rfl ?_
      refine sk 26 (some 80) rfl ?_
      refine sk 27 (some 81) rfl ?_
      refine sk 28 (some 82) rfl ?_
      refine sk 29 (some 83) rfl ?_
      refine sk 30 (some 84) rfl ?_
      refine tk 31 (some 85) rfl ?_
      refine wpAnyH_done (by kernel_rfl) ?_ _
      go_wp2_with fail
      go_meet
      exact ⟨rfl,bE⟩
     have en:decide (gw<0)=false:=decide_eq_false hn
     by_cases hw2:(f.wires.length:Int)<=gw
     ·obtain rfl:P=false:=by rw[<-HP2.o];exact ab (fun g=>by have h9:gw<f.wires.length:=g.1.2;omega)
      have en2:decide ((f.wires.length:Int)<=gw)=true:=decide_eq_true hw2
      clear hn hw2
      refine wp_region_held_drew (S:=fun W=>(W.cell? ⟨w.heap.size,0,none⟩=some (.slice (some ⟨b,off,none⟩) f.wires.length cw)/\W.cell? ⟨w.heap.size,1,none⟩=some (.slice Ad f.defs.length cd)/\W.cell? ⟨w.heap.size,2,none⟩=some (.slice Ai f.ins.length ci)/\W.cell? ⟨w.heap.size,3,none⟩=some (.slice Ao f.outs.length co))/\W.cell? ⟨g4,1,none⟩=some (.slice (some ⟨bg,og,none⟩) x.clock.length cg)) (by kernel_rfl) ?_ (fun hHeld=>?_)
      ·(try dsimp only);(first|(with_reducible exact HS0.o _ bE)|go_keep)
      refine tk 0 (some 54) rfl ?_
      refine tk 1 (some 55) rfl ?_
      refine tk 2 (some 56) rfl ?_
      refine tk 3 (some 57) rfl ?_
      refine tk 4 (some 58) rfl ?_
      refine tk 5 (some 59) rfl ?_
      refine tk 6 (some 60) rfl ?_
      refine tk 7 (some 61) rfl ?_
      refine tk 8 (some 62) rfl ?_
      refine tk 9 (some 63) rfl ?_
      refine sk 10 (some 64) rfl ?_
      refine sk 11 (some 65) rfl ?_
      refine sk 12 (some 66) rfl ?_
      refine sk 13 (some 67) rfl ?_
      refine sk 14 (some 68) rfl ?_
      refine sk 15 (some 69) rfl ?_
      refine sk 16 (some 70) rfl ?_
      refine tk 17 (some 71) rfl ?_
      refine tk 18 (some 72) rfl ?_
      refine sk 19 (some 73) rfl ?_
      refine sk 20 (some 74) rfl ?_
      refine sk 21 (some 75) rfl ?_
      refine sk 22 (some 76) rfl ?_
      refine sk 23 (some 77) rfl ?_
      refine sk 24 (some 78) rfl ?_
      refine sk 25 (some 79) rfl ?_
      refine sk 26 (some 80) rfl ?_
      refine sk 27 (some 81) rfl ?_
      refine sk 28 (some 82) rfl ?_
      refine sk 29 (some 83) rfl ?_
      refine sk 30 (some 84) rfl ?_
      refine tk 31 (some 85) rfl ?_
      refine wpAnyH_done (by kernel_rfl) ?_ _
      go_wp2_with fail
      go_meet
      exact ⟨rfl,bE⟩
     have en2:decide ((f.wires.length:Int)<=gw)=false:=decide_eq_false hw2
     have hw:ak f.fm gw:=⟨by omega,by show gw<(f.wires.length:Int);omega⟩
     have HW:=zH hw
     obtain ⟨m,b2,off2,cw2,Ag2,cg2,rfl,hm,hv2,_,mw2,hb2,y0,y1,lg2,mg2,sg2⟩:=dT (HFL.o _ (HBW.o _ hbw5)) hw
     injection hv2 with hv2 _ hv3
     injection hv2 with hv2
     injection hv2 with hv2 hv4
     subst hv2;subst hv4;subst hv3
     have hm':(m:Int)<f.wires.length:=by omega
     have en3:decide (f.wires.length<=m)=false:=decide_eq_false (by omega)
     have hqc:q<=cg:=by omega
     have hqc2:(q:Int)<=(x.clock.length:Int):=by omega
     have HGV:Hid (∀W V,Below w5.heap.size w5 W->cB (aa f.fm (m:Int)=x.clock.take q)=V->Calls Tryz.prog 31 #[.slice Ag2 (aa f.fm (m:Int)).length cg2,.slice (some ⟨bg,og,none⟩) q cg] W fun e w'=>e= .returned (.bool V)/\∃n,w'=W.drewN n):=fun W V hW hV=>by
      have hl:=HLOW.o W hW
      have:=da _ _ _ _ _ W (⟨Ag2,cg2,rfl,lg2,by unfold maxLen;omega,(sg2.below hW).more hW.size⟩:aI W W.heap.size 2 aW (.slice Ag2 (aa f.fm (m:Int)).length cg2) (aa f.fm (m:Int))) (ij (HSG.o W hl.1) lg mg (Nat.le_of_lt hlt2))
      rw[hV] at this
      exact this
     have HS:Hid (∀W,Below w5.heap.size w5 W->(W.cell? ⟨w.heap.size,0,none⟩=some (.slice (some ⟨b,off,none⟩) f.wires.length cw)/\W.cell? ⟨w.heap.size,1,none⟩=some (.slice Ad f.defs.length cd)/\W.cell? ⟨w.heap.size,2,none⟩=some (.slice Ai f.ins.length ci)/\W.cell? ⟨w.heap.size,3,none⟩=some (.slice Ao f.outs.length co))/\W.cell? ⟨g4,1,none⟩=some (.slice (some ⟨bg,og,none⟩) x.clock.length cg)/\W.cell? ⟨b,off+m*2,none⟩=some (.int .i64 (ag f.fm (m:Int)))/\W.cell? ⟨b,off+m*2+1,none⟩=some (.slice Ag2 (aa f.fm (m:Int)).length cg2)):=fun W hW=>by
      obtain ⟨a0,a6⟩:=HS4.o W (HLOW.o W hW).1
      exact ⟨a0,a6,cell_kept y0 hW,cell_kept y1 hW⟩
     clear hw sg2 hn hw2 y0 y1
     by_cases ht:ag f.fm (m:Int)=2
     rotate_left 1
     ·obtain rfl:P=false:=by rw[<-HP2.o];exact ab (fun g=>ht g.2.1)
      have et:(ag f.fm (m:Int) !=2)=true:=by rw[bne_iff_ne];exact ht
      clear ht
      refine wp_region_held_drew (S:=fun W=>(W.cell? ⟨w.heap.size,0,none⟩=some (.slice (some ⟨b,off,none⟩) f.wires.length cw)/\W.cell? ⟨w.heap.size,1,none⟩=some (.slice Ad f.defs.length cd)/\W.cell? ⟨w.heap.size,2,none⟩=some (.slice Ai f.ins.length ci)/\W.cell? ⟨w.heap.size,3,none⟩=some (.slice Ao f.outs.length co))/\W.cell? ⟨g4,1,none⟩=some (.slice (some ⟨bg,og,none⟩) x.clock.length cg)/\W.cell? ⟨b,off+m*2,none⟩=some (.int .i64 (ag f.fm (m:Int)))/\W.cell? ⟨b,off+m*2+1,none⟩=some (.slice Ag2 (aa f.fm (m:Int)).length cg2)) (by kernel_rfl) ?_ (fun hHeld=>?_)
      ·(try dsimp only);(first|(with_reducible exact HS.o _ bE)|go_keep)
      refine tk 0 (some 54) rfl ?_
      refine tk 1 (some 55) rfl ?_
      refine tk 2 (some 56) rfl ?_
      refine tk 3 (some 57) rfl ?_
      refine tk 4 (some 58) rfl ?_
      refine tk 5 (some 59) rfl ?_
      refine tk 6 (some 60) rfl ?_
      refine tk 7 (some 61) rfl ?_
      refine tk 8 (some 62) rfl ?_
      refine tk 9 (some 63) rfl ?_
      refine tk 10 (some 64) rfl ?_
      refine tk 11 (some 65) rfl ?_
      refine tk 12 (some 66) rfl ?_
      refine tk 13 (some 67) rfl ?_
      refine tk 14 (some 68) rfl ?_
      refine tk 15 (some 69) rfl ?_
      refine tk 16 (some 70) rfl ?_
      refine tk 17 (some 71) rfl ?_
      refine tk 18 (some 72) rfl ?_
      refine sk 19 (some 73) rfl ?_
      refine sk 20 (some 74) rfl ?_
      refine sk 21 (some 75) rfl ?_
      refine sk 22 (some 76) rfl ?_
      refine sk 23 (some 77) rfl ?_
      refine sk 24 (some 78) rfl ?_
      refine sk 25 (some 79) rfl ?_
      refine sk 26 (some 80) rfl ?_
      refine sk 27 (some 81) rfl ?_
      refine sk 28 (some 82) rfl ?_
      refine sk 29 (some 83) rfl ?_
      refine sk 30 (some 84) rfl ?_
      refine tk 31 (some 85) rfl ?_
      refine wpAnyH_done (by kernel_rfl) ?_ _
      go_wp2_with fail
      go_meet
      exact ⟨rfl,bE⟩
     have et:(ag f.fm (m:Int) !=2)=false:=by rw[bne_eq_false_iff_eq];exact ht
     have HG:=zH (fun W hW=>HGV.o W P hW (by
      rw[<-HP2.o]
      exact bu ⟨fun g=>⟨HW.o,ht,g⟩,fun g=>g.2.2⟩))
     clear ht
     refine wp_region_held_drew (S:=fun W=>(W.cell? ⟨w.heap.size,0,none⟩=some (.slice (some ⟨b,off,none⟩) f.wires.length cw)/\W.cell? ⟨w.heap.size,1,none⟩=some (.slice Ad f.defs.length cd)/\W.cell? ⟨w.heap.size,2,none⟩=some (.slice Ai f.ins.length ci)/\W.cell? ⟨w.heap.size,3,none⟩=some (.slice Ao f.outs.length co))/\W.cell? ⟨g4,1,none⟩=some (.slice (some ⟨bg,og,none⟩) x.clock.length cg)/\W.cell? ⟨b,off+m*2,none⟩=some (.int .i64 (ag f.fm (m:Int)))/\W.cell? ⟨b,off+m*2+1,none⟩=some (.slice Ag2 (aa f.fm (m:Int)).length cg2)) (by kernel_rfl) ?_ (fun hHeld=>?_)
     ·(try dsimp only);(first|(with_reducible exact HS.o _ bE)|go_keep)
     refine tk 0 (some 54) rfl ?_
     refine tk 1 (some 55) rfl ?_
     refine tk 2 (some 56) rfl ?_
     refine tk 3 (some 57) rfl ?_
     refine tk 4 (some 58) rfl ?_
     refine tk 5 (some 59) rfl ?_
     refine tk 6 (some 60) rfl ?_
     refine tk 7 (some 61) rfl ?_
     refine tk 8 (some 62) rfl ?_
     refine tk 9 (some 63) rfl ?_
     refine tk 10 (some 64) rfl ?_
     refine tk 11 (some 65) rfl ?_
     refine tk 12 (some 66) rfl ?_
     refine tk 13 (some 67) rfl ?_
     refine tk 14 (some 68) rfl ?_
     refine tk 15 (some 69) rfl ?_
     refine tk 16 (some 70) rfl ?_
     refine tk 17 (some 71) rfl ?_
     refine tk 18 (some 72) rfl ?_
     refine tk 19 (some 73) rfl ?_
     refine tk 20 (some 74) rfl ?_
     refine tk 21 (some 75) rfl ?_
     refine tk 22 (some 76) rfl ?_
     refine tk 23 (some 77) rfl ?_
     refine tk 24 (some 78) rfl ?_
     refine tk 25 (some 79) rfl ?_
     refine tk 26 (some 80) rfl ?_
     refine tk 27 (some 81) rfl ?_
     refine tk 28 (some 82) rfl ?_
     refine aH 29 (some 83) rfl (fun KK hKK=>?_)
     go_simp
     go_at_call 31;refine Calls.mono (HG.o _ bE) ?_;rintro e w8 ⟨rfl,n8,rfl⟩
     (try go_wp2_with fail)
     refine hKK.out _ _ ?_ (fun hHeld=>?_)
     ·(try dsimp only);(first|(with_reducible exact HS.o _ bE)|go_keep)
     clear hKK KK
     try simp only[Act.put,List.setIfInBounds_toArray,List.set_cons_zero,List.set_cons_succ]
     refine tk 30 (some 84) rfl ?_
     refine tk 31 (some 85) rfl ?_
     refine wpAnyH_done (by kernel_rfl) ?_ _
     go_wp2_with fail
     go_meet
     exact ⟨by first|rfl|(cases P<;>rfl),bE⟩
    case rest=>
    obtain ⟨rfl,hbc⟩:=hcut
    clear f0 f1 f2 f3 z1
    cases P
    ·have HF:Hid (cB (bn f)=false):=ab (fun g=>fO.1 HP2.o ((g.1.1 x (List.mem_of_getElem? HX.o)).2 q _ HGG.o))
     go_wp2_with fail
     go_ret
     exact ⟨aj HF.o.symm,(HLOW.o _ hbc).2⟩
    refine' zq218
  obtain rfl:k=f.wires.length:=by omega
  have HWO:Hid (de f):=⟨dY HP.o,hz1,hz2⟩
  clear HP
  obtain ⟨w2,hw2⟩:∃w2:World,w2=wr:=⟨_,rfl⟩
  subst hw2
  have hsw2:=(HBW.o _ hb).size
  have HPC:=zH (fun W (hW:Below w1.heap.size w1 W)=>mj (HFL.o W (HBW.o _ hW)) f.ins _ (HFL.o W (HBW.o _ hW)).ins)
  have HPO:=zH (fun W (hW:Below w1.heap.size w1 W)=>mj (HFL.o W (HBW.o _ hW)) f.outs _ (HFL.o W (HBW.o _ hW)).outs)
  go_wp2_with fail
  (with_reducible refine (HPC.o _ hb).mono ?_)
  rintro e w3 ⟨rfl,hb3⟩
  have hb13:=hb.trans (hb3.mono hsr)
  clear f0 f1 f2 f3
  obtain ⟨f0,f1,f2,f3⟩:=HF4.o w3 hb13
  by_cases hp:bG f.fm f.ins
  rotate_left 1
  ·rw[ab hp]
   have HF:Hid (cB (bn f)=false):=ab (fun g=>hp g.2.1)
   clear hp
   go_wp2_with fail
   go_ret
   exact ⟨aj HF.o.symm,HBW.o _ hb13⟩
  rw[aq hp]
  have HPI:=zH hp
  clear hp
  go_wp2_with fail
  (with_reducible refine (HPO.o _ hb13).mono ?_)
  rintro e w4 ⟨rfl,hb4⟩
  have hb14:=hb13.trans (hb4.mono hb13.size)
  clear f0 f1 f2 f3 HPC HPO hb3 hb4 hb13
  obtain ⟨f0,f1,f2,f3⟩:=HF4.o w4 hb14
  by_cases hp:bG f.fm f.outs
  rotate_left 1
  ·rw[ab hp]
   have HF:Hid (cB (bn f)=false):=ab (fun g=>hp g.2.2.1)
   clear hp
   go_wp2_with fail
   go_ret
   exact ⟨aj HF.o.symm,HBW.o _ hb14⟩
  rw[aq hp]
  have HPOK:=zH hp
  clear hp
  by_cases hc:f.defs.length+f.ins.length=f.wires.length
  rotate_left 1
  ·have e1:((f.defs.length:Int)+(f.ins.length:Int) !=(f.wires.length:Int))=true:=by rw[bne_iff_ne];omega
   have HF:Hid (cB (bn f)=false):=ab (fun g=>hc (HOD.o g).1.cnt)
   clear hc
   go_wp2_with fail
   go_ret
   exact ⟨aj HF.o.symm,HBW.o _ hb14⟩
  have e1:((f.defs.length:Int)+(f.ins.length:Int) !=(f.wires.length:Int))=false:=by rw[bne_eq_false_iff_eq];omega
  have HCN:=zH hc
  clear hc
  go_wp2_with fail
  clear f0 f1 f2 f3 hb hsr hlt hsw2 e1
  go_loopw[7] (fun i wr=>∃k:Nat,k<=f.ins.length/\i= .int .i64 k/\Hid (∀j,j<k->∀y,f.ins[j]? =some y->y∉f.ins.take j)/\Below w1.heap.size w1 wr) (fun i _=>f.ins.length-(intOf i).toNat)
  case atStart=>exact ⟨0,Nat.zero_le _,rfl,fun j hj=>absurd hj (by omega),hb14⟩
  case round=>
   obtain ⟨k,hk,rfl,HP,hb⟩:=hrel
   have hsr:=hb.size
   obtain ⟨f0,f1,f2,f3⟩:=HF4.o wr hb
   have hbl:=HBW.o _ hb
   by_cases hlt:k<f.ins.length
   ·obtain ⟨b,off,n,hAi,hbb,hx,wx,d0⟩:=(HSI.o _ hbl).int hlt
    subst hAi
    have HX:=zH hx
    have hk':(k:Int)<f.ins.length:=by omega
    have hkc:k<=ci:=by omega
    have HS:Hid (∀W,Below wr.heap.size wr W->(W.cell? ⟨w.heap.size,0,none⟩=some (.slice Aw f.wires.length cw)/\W.cell? ⟨w.heap.size,1,none⟩=some (.slice Ad f.defs.length cd)/\W.cell? ⟨w.heap.size,2,none⟩=some (.slice (some ⟨b,off,none⟩) f.ins.length ci)/\W.cell? ⟨w.heap.size,3,none⟩=some (.slice Ao f.outs.length co))/\W.cell? ⟨b,off+k,none⟩=some (.int .i64 n)):=fun W hW=>⟨HF4.o W (hb.trans (hW.mono hsr)),cell_kept d0 hW⟩
    obtain ⟨P,HP2⟩:∃P:Bool,Hid (cB (n∈f.ins.take k)=P):=⟨_,rfl⟩
    have HIN:Hid (∀W,Below wr.heap.size wr W->Calls Tryz.prog 33 #[.slice (some ⟨b,off,none⟩) k ci,.int .i64 n] W fun e w'=>e= .returned (.bool P)/\W=w'):=fun W hW=>by
     have:=lG _ n _ _ W (ij (HSI.o W (hbl.trans (hW.mono hbl.size))) li mi (Nat.le_of_lt hlt))
     rw[HP2.o] at this
     exact this
    clear hx
    go_upto_region 20 with (fail)
    clear d0 f0 f1 f2 f3
    go_cut[127] (fun v127 W=>v127= .bool P/\Below wr.heap.size wr W)
    case first=>as_aux_lemma=>
     refine wp_region_held_drew (S:=fun W=>(W.cell? ⟨w.heap.size,0,none⟩=some (.slice Aw f.wires.length cw)/\W.cell? ⟨w.heap.size,1,none⟩=some (.slice Ad f.defs.length cd)/\W.cell? ⟨w.heap.size,2,none⟩=some (.slice (some ⟨b,off,none⟩) f.ins.length ci)/\W.cell? ⟨w.heap.size,3,none⟩=some (.slice Ao f.outs.length co))/\W.cell? ⟨b,off+k,none⟩=some (.int .i64 n)) (by kernel_rfl) ?_ (fun hHeld=>?_)
     ·(try dsimp only);(first|(with_reducible exact HS.o _ bE)|go_keep)
     refine tk 0 (some 118) rfl ?_
     refine tk 1 (some 119) rfl ?_
     refine tk 2 (some 120) rfl ?_
     refine tk 3 (some 121) rfl ?_
     refine tk 4 (some 122) rfl ?_
     refine tk 5 (some 123) rfl ?_
     refine tk 6 (some 124) rfl ?_
     refine tk 7 (some 125) rfl ?_
     refine tk 8 (some 126) rfl ?_
     refine aH 9 (some 127) rfl (fun KK hKK=>?_)
     go_simp
     go_at_call 33;refine Calls.mono (HIN.o _ bE) ?_;rintro e w8 ⟨rfl,rfl⟩
     (try go_wp2_with fail)
     refine hKK.out _ _ ?_ (fun hHeld=>?_)
     ·(try dsimp only);(first|(with_reducible exact HS.o _ bE)|go_keep)
     clear hKK KK
     try simp only[Act.put,List.setIfInBounds_toArray,List.set_cons_zero,List.set_cons_succ]
     refine wpAnyH_done (by kernel_rfl) ?_ _
     go_wp2_with fail
     go_meet
     exact ⟨rfl,bE⟩
    case rest=>
    obtain ⟨rfl,hbc⟩:=hcut
    have hbc2:=hb.trans (hbc.mono hsr)
    cases P
    rotate_left 1
    ·have HF:Hid (cB (bn f)=false):=ab (fun g=>(HOD.o g).1.d4 k n HX.o (cb.1 HP2.o))
     go_wp2_with fail
     go_ret
     exact ⟨aj HF.o.symm,HBW.o _ hbc2⟩
    have HP':=zH (aC HP.o (fun y hy=>by rw[HX.o] at hy;injection hy with hy;rw[<-hy];exact fO.1 HP2.o))
    go_wp2_with fail
    go_roundw
    case rel=>exact ⟨k+1,by omega,by go_num,HP'.o,hbc2⟩
    case measure=>simp[intOf];omega
   obtain rfl:k=f.ins.length:=by omega
   have HD:Hid (wA f):=⟨HWO.o,HPI.o,HPOK.o,HCN.o,fun j y hy=>HP.o j (List.getElem?_eq_some_iff.1 hy).1 y hy⟩
   have hbi:=hb
   clear HP
   go_wp2_with fail
   clear f0 f1 f2 f3 hb hsr hlt hbl HPI HPOK HCN
   go_loopw[8] (fun i wr=>∃k:Nat,k<=f.defs.length/\i= .int .i64 k/\Hid (∀j,j<k->∀d,f.defs[j]? =some d->F5 f j d)/\Below w1.heap.size w1 wr) (fun i _=>f.defs.length-(intOf i).toNat)
   case atStart=>exact ⟨0,Nat.zero_le _,rfl,fun j hj=>absurd hj (by omega),hbi⟩
   case round=>
    obtain ⟨k,hk,rfl,HP,hb⟩:=hrel
    have hsr:=hb.size
    obtain ⟨f0,f1,f2,f3⟩:=HF4.o wr hb
    have hbl:=HBW.o _ hb
    by_cases hlt:k<f.defs.length
    rotate_left 1
    ·obtain rfl:k=f.defs.length:=by omega
     have HALL:Hid (∀(i:Nat) d,f.defs[i]? =some d->F5 f i d):=fun i d hd=>HP.o i (List.getElem?_eq_some_iff.1 hd).1 d hd
     have HQQ:=zH (Cv HD.o HALL.o HSZ.o)
     have HRW:=zH (fun W (hW:Below wr.heap.size wr W)=>wu (HFL.o W (hbl.trans (hW.mono hbl.size))) HQQ.o)
     have HS:Hid (∀W,Below wr.heap.size wr W->W.cell? ⟨w.heap.size,0,none⟩=some (.slice Aw f.wires.length cw)/\W.cell? ⟨w.heap.size,1,none⟩=some (.slice Ad f.defs.length cd)/\W.cell? ⟨w.heap.size,2,none⟩=some (.slice Ai f.ins.length ci)/\W.cell? ⟨w.heap.size,3,none⟩=some (.slice Ao f.outs.length co)):=fun W hW=>HF4.o W (hb.trans (hW.mono hsr))
     have HEN:Hid (∀n:Nat,(n=f.wires.length↔∀n:Nat,n<f.wires.length->dt f n)->((n:Int)==(f.wires.length:Int))=cB (bn f)):=fun n hn=>by
      have:bn f↔n=f.wires.length:=⟨fun g=>hn.2 g.2.2.2.2.2,fun g=>Cy HD.o HALL.o (hn.1 g)⟩
      by_cases e:n=f.wires.length
      ·rw[aq (this.2 e),e];simp
      ·rw[ab (fun g=>e (this.1 g)),beq_eq_false_iff_ne];omega
     go_upto_region 31 with (fail)
     clear HP f0 f1 f2 f3
     refine wp_region_held_drew (S:=fun W=>W.cell? ⟨w.heap.size,0,none⟩=some (.slice Aw f.wires.length cw)/\W.cell? ⟨w.heap.size,1,none⟩=some (.slice Ad f.defs.length cd)/\W.cell? ⟨w.heap.size,2,none⟩=some (.slice Ai f.ins.length ci)/\W.cell? ⟨w.heap.size,3,none⟩=some (.slice Ao f.outs.length co)) (by kernel_rfl) ?_ (fun hHeld=>?_)
     ·refine' zq21
     refine tk 0 (some 207) rfl ?_
     refine tk 2 (some 209) rfl ?_
     refine tk 3 (some 210) rfl ?_
     refine tk 4 (some 211) rfl ?_
     refine aH 1 (some 208) rfl (fun KK hKK=>?_)
     go_simp
     go_at_call 49;refine Calls.mono (HRW.o _ bE) ?_;rintro e w8 ⟨nn,rfl,hnn,hni,hb8⟩;(have hb9:Below wr.heap.size wr w8:=Below.trans bE (hb8.mono lE));(have HNI:=zH hni);clear hni
     refine' zq13
     refine tk 5 (some 212) rfl ?_
     refine tk 6 (some 2) rfl ?_
     refine' zq26
     go_ret
     exact ⟨aj (HEN.o nn HNI.o),hbl.trans ((bE:Below wr.heap.size wr _).mono hbl.size)⟩
    have hk':(k:Int)<f.defs.length:=by omega
    obtain ⟨b,off,d,Ag,cg,hAd,hbb,hx,wd,hok,hcap,hmax,hxs,d0,d1,d2,d3,d4,d5,d6⟩:=(HSD.o _ hbl).df hlt
    subst hAd
    have HX:=zH hx
    have HFF:Hid (¬F5 f k d->cB (bn f)=false):=fun hn=>ab (fun g=>hn ((HOD.o g).2 k d HX.o))
    have HSX:=zH (HSZ.o d (List.mem_of_getElem? hx))
    have ba:Below wr.heap.size wr (wr.alloc (.cells (yE d Ag cg) 77)):=bE
    have r4:=ai.new wr (yE d Ag cg) 77
    have hsz4:=ba.size
    have hb4:=hb.trans (ba.mono hsr)
    have HXA:=zH (fun W (hW:Below wr.heap.size wr W)=>(hxs.below hW).more hW.size)
    clear hx hxs
    go_upto_region 26 with (fail)
    generalize wr.heap.size=gD at*
    generalize wr.alloc (.cells (yE d Ag cg) 77)=w4 at*
    clear d0 d1 d2 d3 d4 d5 d6 f0 f1 f2 f3
    have hgD:=r4.lt
    have hs4:=hb4.size
    have hbl4:=HBW.o _ hb4
    have HS4:Hid (∀W,Below w4.heap.size w4 W->(W.cell? ⟨w.heap.size,0,none⟩=some (.slice Aw f.wires.length cw)/\W.cell? ⟨w.heap.size,1,none⟩=some (.slice (some ⟨b,off,none⟩) f.defs.length cd)/\W.cell? ⟨w.heap.size,2,none⟩=some (.slice Ai f.ins.length ci)/\W.cell? ⟨w.heap.size,3,none⟩=some (.slice Ao f.outs.length co))/\W.cell? ⟨gD,0,none⟩=some (.int .i64 d.1)/\W.cell? ⟨gD,1,none⟩=some (.int .i64 d.2.op)/\W.cell? ⟨gD,2,none⟩=some (.string d.2.name)/\W.cell? ⟨gD,3,none⟩=some (.int .i64 d.2.n)/\W.cell? ⟨gD,4,none⟩=some (.slice Ag d.2.args.length cg)/\W.cell? ⟨gD,5,none⟩=some (.int .i64 d.2.line)/\W.cell? ⟨gD,6,none⟩=some (.int .i64 d.2.col)):=fun W hW=>⟨HF4.o W (hb4.trans (hW.mono hs4)),(r4.below hW hgD).seven'⟩
    have HXB:Hid (∀W,Below w4.heap.size w4 W->aM W W.heap.size Ag d.2.args):=fun W hW=>HXA.o W (ba.trans (hW.mono hsz4))
    have HB4:Hid (∀W,Below w4.heap.size w4 W->Below w.heap.size w W):=fun W hW=>hbl4.trans (hW.mono hbl4.size)
    have HIN:=zH (fun W (hW:Below w4.heap.size w4 W)=>lG f.ins d.1 _ _ W (HFL.o W (HB4.o W hW)).ins)
    have HBY:=zH (fun W (hW:Below w4.heap.size w4 W)=>mG (HFL.o W (HB4.o W hW)) d.1)
    have HPL:=zH (fun W (hW:Below w4.heap.size w4 W)=>sE (HFL.o W (HB4.o W hW)) d.2 Ag cg hok hcap hmax (HXB.o W hW) HSX.o)
    have HHT:=zH (fun W (hW:Below w4.heap.size w4 W)=>sU d.2 Ag cg W hcap hmax (HXB.o W hW) HSX.o)
    clear HXA r4 ba hsr
    obtain ⟨⟨f0,f1,f2,f3⟩,c0,c1,c2,c3,c4,c5,c6⟩:=HS4.o _ (Below.refl _ _)
    by_cases hn:d.1<0
    ·have HF:=zH (HFF.o (fun g=>by have:=g.1.1.1;omega))
     have en:decide (d.1<0)=true:=decide_eq_true hn
     clear hn
     go_wp2_with fail
     go_ret
     exact ⟨aj HF.o.symm,hbl4⟩
    have en:decide (d.1<0)=false:=decide_eq_false hn
    by_cases hw2:(f.wires.length:Int)<=d.1
    ·have HF:=zH (HFF.o (fun g=>by have h9:d.1<f.wires.length:=g.1.1.2;omega))
     have en2:decide ((f.wires.length:Int)<=d.1)=true:=decide_eq_true hw2
     clear hn hw2
     go_wp2_with fail
     go_ret
     exact ⟨aj HF.o.symm,hbl4⟩
    have en2:decide ((f.wires.length:Int)<=d.1)=false:=decide_eq_false hw2
    have hw:ak f.fm d.1:=⟨by omega,by show d.1<(f.wires.length:Int);omega⟩
    have HW:=zH hw
    clear hn hw2 hw
    go_wp2_with fail
    (with_reducible refine (HIN.o _ (Below.refl _ _)).mono ?_)
    rintro e w5 ⟨rfl,rfl⟩
    by_cases hp:d.1∈f.ins
    ·rw[aq hp]
     have HF:=zH (HFF.o (fun g=>g.1.2.1 hp))
     clear hp
     go_wp2_with fail
     go_ret
     exact ⟨aj HF.o.symm,hbl4⟩
    rw[ab hp]
    have HNI:=zH hp
    clear hp
    go_wp2_with fail
    (with_reducible refine (HBY.o _ (Below.refl _ _)).mono ?_)
    rintro e w6 ⟨rfl,hb6⟩
    clear f0 f1 f2 f3 c0 c1 c2 c3 c4 c5 c6
    obtain ⟨⟨f0,f1,f2,f3⟩,c0,c1,c2,c3,c4,c5,c6⟩:=HS4.o _ hb6
    by_cases hp:bO d.1 0 f.fm.acts=(k:Int)
    rotate_left 1
    ·have HF:=zH (HFF.o (fun g=>hp g.1.2.2))
     have e1:(bO d.1 0 f.fm.acts !=(k:Int))=true:=by rw[bne_iff_ne];exact hp
     clear hp
     generalize bO d.1 0 f.fm.acts=BY at*
     go_wp2_with fail
     go_ret
     exact ⟨aj HF.o.symm,HB4.o _ hb6⟩
    have HBE:=zH hp
    rw[hp]
    clear hp
    go_wp2_with fail
    (with_reducible refine (HPL.o _ hb6).mono ?_)
    rintro e w7 ⟨rfl,hb7⟩
    have hb47:=hb6.trans (hb7.mono hb6.size)
    clear f0 f1 f2 f3 c0 c1 c2 c3 c4 c5 c6
    obtain ⟨⟨f0,f1,f2,f3⟩,c0,c1,c2,c3,c4,c5,c6⟩:=HS4.o _ hb47
    by_cases hp:aO f d.2
    rotate_left 1
    ·rw[ab hp]
     have HF:=zH (HFF.o (fun g=>hp g.2.1))
     clear hp
     go_wp2_with fail
     go_ret
     exact ⟨aj HF.o.symm,HB4.o _ hb47⟩
    rw[aq hp]
    have HPE:=zH hp
    clear hp
    go_wp2_with fail
    (with_reducible refine (HHT.o _ hb47).mono ?_)
    rintro e w8 ⟨rfl,hb8⟩
    have hb48:=hb47.trans (hb8.mono hb47.size)
    clear f0 f1 f2 f3 c0 c1 c2 c3 c4 c5 c6 hb6 hb7 hb8 hb47
    obtain ⟨⟨f0,f1,f2,f3⟩,c0,c1,c2,c3,c4,c5,c6⟩:=HS4.o _ hb48
    by_cases hp:30<ax d.2
    ·have HF:=zH (HFF.o (fun g=>by have:=g.2.2.1;omega))
     have e1:decide ((30:Int)<(ax d.2:Int))=true:=decide_eq_true (by omega)
     have e2:decide (30<ax d.2)=true:=decide_eq_true hp
     clear hp
     go_wp2_with fail
     go_ret
     exact ⟨aj HF.o.symm,HB4.o _ hb48⟩
    have e1:decide ((30:Int)<(ax d.2:Int))=false:=decide_eq_false (by omega)
    have e2:decide (30<ax d.2)=false:=decide_eq_false hp
    have HHE:Hid (ax d.2<=30):=Nat.not_lt.1 hp
    clear hp
    obtain ⟨m,bw,ow,cw2,Aq,cq,hdm,hm,hvw,_,mw2,hbw2,y0,y1,lq,mq,sq⟩:=dT (HFL.o _ (HB4.o _ hb48)) HW.o
    injection hvw with hv1 _ hv3
    subst hv1
    subst hv3
    have hm':(m:Int)<f.wires.length:=by omega
    have y0':=y0
    have y1':=y1
    have HDM:=zH hdm
    rw[hdm] at c0
    have ba:Below w8.heap.size w8 (w8.alloc (.cells #[.int .i64 (ag f.fm d.1),.slice Aq (aa f.fm d.1).length cq] 52)):=bE
    have r9:=ai.new w8 #[.int .i64 (ag f.fm d.1),.slice Aq (aa f.fm d.1).length cq] 52
    have hs48:=hb48.size
    have hsb:=ba.size
    have hb49:=hb48.trans (ba.mono hs48)
    have HSQ:=zH (fun W (hW:Below w8.heap.size w8 W)=>(sq.below hW).more hW.size)
    clear hdm sq y0' y1'
    go_upto_region 29 with (fail)
    generalize w8.heap.size=gW at*
    generalize w8.alloc (.cells #[.int .i64 (ag f.fm d.1),.slice Aq (aa f.fm d.1).length cq] 52)=w9 at*
    clear f0 f1 f2 f3 c0 c1 c2 c3 c4 c5 c6 y0 y1 e1 e2
    have hgW:=r9.lt
    have hs49:=hb49.size
    have HS9:Hid (∀W,Below w9.heap.size w9 W->((W.cell? ⟨w.heap.size,0,none⟩=some (.slice (some ⟨bw,ow,none⟩) f.wires.length cw)/\W.cell? ⟨w.heap.size,1,none⟩=some (.slice (some ⟨b,off,none⟩) f.defs.length cd)/\W.cell? ⟨w.heap.size,2,none⟩=some (.slice Ai f.ins.length ci)/\W.cell? ⟨w.heap.size,3,none⟩=some (.slice Ao f.outs.length co))/\W.cell? ⟨gD,0,none⟩=some (.int .i64 d.1)/\W.cell? ⟨gD,1,none⟩=some (.int .i64 d.2.op)/\W.cell? ⟨gD,2,none⟩=some (.string d.2.name)/\W.cell? ⟨gD,3,none⟩=some (.int .i64 d.2.n)/\W.cell? ⟨gD,4,none⟩=some (.slice Ag d.2.args.length cg)/\W.cell? ⟨gD,5,none⟩=some (.int .i64 d.2.line)/\W.cell? ⟨gD,6,none⟩=some (.int .i64 d.2.col))/\W.cell? ⟨gW,0,none⟩=some (.int .i64 (ag f.fm d.1))/\W.cell? ⟨gW,1,none⟩=some (.slice Aq (aa f.fm d.1).length cq)):=fun W hW=>⟨HS4.o W (hb49.trans (hW.mono hs49)),(r9.below hW hgW).two'⟩
    have HB9:Hid (∀W,Below w9.heap.size w9 W->Below w.heap.size w W):=fun W hW=>HB4.o W (hb49.trans (hW.mono hs49))
    have HXC:Hid (∀W,Below w9.heap.size w9 W->aM W W.heap.size Ag d.2.args):=fun W hW=>HXB.o W (hb49.trans (hW.mono hs49))
    have HKD:=zH (fun W (hW:Below w9.heap.size w9 W)=>ux HWO.o d.2 Ag cg W (HFL.o W (HB9.o W hW)) hok hcap hmax (HXC.o W hW) HPE.o)
    have HGO:=zH (fun W (hW:Below w9.heap.size w9 W)=>vg d.2 Ag cg (aa f.fm d.1) Aq cq W (HFL.o W (HB9.o W hW)) hok hcap hmax (HXC.o W hW) HPE.o (by have:=iO HWO.o HW.o;have:=HHE.o;omega) lq (by unfold maxLen;omega) (HSQ.o W (ba.trans (hW.mono hsb))))
    have HLT:=zH (fun W (hW:Below w9.heap.size w9 W)=>uG d.2 Ag cg W hcap hmax (HXC.o W hW))
    have HBL9:=zH (HB9.o _ (Below.refl _ _))
    obtain ⟨P,HP2⟩:∃P:Bool,Hid (cB (am f d.2=ag f.fm d.1/\aE f d.2 (aa f.fm d.1)/\bf d.2=0)=P):=⟨_,rfl⟩
    clear HSQ HXB HIN HBY HPL HHT ba r9 hs48 hb48 HS4
    obtain ⟨⟨⟨f0,f1,f2,f3⟩,c0,c1,c2,c3,c4,c5,c6⟩,y0,y1⟩:=HS9.o _ (Below.refl _ _)
    go_cut[206] (fun v206 W=>v206= .bool (!P)/\Below w9.heap.size w9 W)
    case first=>as_aux_lemma=>
     unfold lO at HKD
     unfold gr at HGO
     by_cases hk1:am f d.2=ag f.fm d.1
     rotate_left 1
     ·obtain rfl:P=false:=by rw[<-HP2.o];exact ab (fun g=>hk1 g.1)
      have ek:(am f d.2 !=ag f.fm d.1)=true:=by rw[bne_iff_ne];exact hk1
      clear hk1 HP2
      generalize am f d.2=KD at*
      generalize ag f.fm d.1=TY at*
      refine wp_region_held_drew (S:=fun W=>((W.cell? ⟨w.heap.size,0,none⟩=some (.slice (some ⟨bw,ow,none⟩) f.wires.length cw)/\W.cell? ⟨w.heap.size,1,none⟩=some (.slice (some ⟨b,off,none⟩) f.defs.length cd)/\W.cell? ⟨w.heap.size,2,none⟩=some (.slice Ai f.ins.length ci)/\W.cell? ⟨w.heap.size,3,none⟩=some (.slice Ao f.outs.length co))/\W.cell? ⟨gD,0,none⟩=some (.int .i64 d.1)/\W.cell? ⟨gD,1,none⟩=some (.int .i64 d.2.op)/\W.cell? ⟨gD,2,none⟩=some (.string d.2.name)/\W.cell? ⟨gD,3,none⟩=some (.int .i64 d.2.n)/\W.cell? ⟨gD,4,none⟩=some (.slice Ag d.2.args.length cg)/\W.cell? ⟨gD,5,none⟩=some (.int .i64 d.2.line)/\W.cell? ⟨gD,6,none⟩=some (.int .i64 d.2.col))/\W.cell? ⟨gW,0,none⟩=some (.int .i64 TY)/\W.cell? ⟨gW,1,none⟩=some (.slice Aq (aa f.fm d.1).length cq)) (by kernel_rfl) ?_ (fun hHeld=>?_)
      ·(try dsimp only);(first|(with_reducible exact HS9.o _ bE)|go_keep)
      refine tk 0 (some 185) rfl ?_
      refine tk 1 (some 186) rfl ?_
      refine tk 2 (some 187) rfl ?_
      refine tk 4 (some 189) rfl ?_
      refine tk 5 (some 190) rfl ?_
      refine aH 3 (some 188) rfl (fun KK hKK=>?_)
      go_simp
      (go_at_call 46;refine Calls.mono (HKD.o _ bE) ?_;rintro e wk ⟨rfl,hbk⟩;(have hbk9:Below w9.heap.size w9 wk:=Below.trans bE (hbk.mono lE));(have hsk:=hbk9.size))
      (try go_wp2_with fail)
      refine hKK.out _ _ ?_ (fun hHeld=>?_)
      ·(try dsimp only);(first|(with_reducible exact HS9.o _ bE)|go_keep)
      clear hKK KK
      try simp only[Act.put,List.setIfInBounds_toArray,List.set_cons_zero,List.set_cons_succ]
      refine tk 6 (some 191) rfl ?_
      refine tk 7 (some 192) rfl ?_
      refine sk 8 (some 193) rfl ?_
      refine sk 9 (some 194) rfl ?_
      refine sk 10 (some 195) rfl ?_
      refine sk 11 (some 196) rfl ?_
      refine sk 12 (some 197) rfl ?_
      refine sk 13 (some 198) rfl ?_
      refine sk 14 (some 199) rfl ?_
      refine tk 15 (some 200) rfl ?_
      refine tk 16 (some 201) rfl ?_
      refine sk 17 (some 202) rfl ?_
      refine sk 18 (some 203) rfl ?_
      refine sk 19 (some 204) rfl ?_
      refine sk 20 (some 205) rfl ?_
      refine tk 21 (some 206) rfl ?_
      refine wpAnyH_done (by kernel_rfl) ?_ _
      go_wp2_with fail
      go_meet
      exact ⟨rfl,bE⟩
     have ek:(am f d.2 !=ag f.fm d.1)=false:=by rw[bne_eq_false_iff_eq];exact hk1
     by_cases hg1:aE f d.2 (aa f.fm d.1)
     rotate_left 1
     ·obtain rfl:P=false:=by rw[<-HP2.o];exact ab (fun g=>hg1 g.2.1)
      rw[ab hg1] at HGO
      clear hk1 hg1 HP2
      generalize am f d.2=KD at*
      generalize ag f.fm d.1=TY at*
      refine wp_region_held_drew (S:=fun W=>((W.cell? ⟨w.heap.size,0,none⟩=some (.slice (some ⟨bw,ow,none⟩) f.wires.length cw)/\W.cell? ⟨w.heap.size,1,none⟩=some (.slice (some ⟨b,off,none⟩) f.defs.length cd)/\W.cell? ⟨w.heap.size,2,none⟩=some (.slice Ai f.ins.length ci)/\W.cell? ⟨w.heap.size,3,none⟩=some (.slice Ao f.outs.length co))/\W.cell? ⟨gD,0,none⟩=some (.int .i64 d.1)/\W.cell? ⟨gD,1,none⟩=some (.int .i64 d.2.op)/\W.cell? ⟨gD,2,none⟩=some (.string d.2.name)/\W.cell? ⟨gD,3,none⟩=some (.int .i64 d.2.n)/\W.cell? ⟨gD,4,none⟩=some (.slice Ag d.2.args.length cg)/\W.cell? ⟨gD,5,none⟩=some (.int .i64 d.2.line)/\W.cell? ⟨gD,6,none⟩=some (.int .i64 d.2.col))/\W.cell? ⟨gW,0,none⟩=some (.int .i64 TY)/\W.cell? ⟨gW,1,none⟩=some (.slice Aq (aa f.fm d.1).length cq)) (by kernel_rfl) ?_ (fun hHeld=>?_)
      ·(try dsimp only);(first|(with_reducible exact HS9.o _ bE)|go_keep)
      refine tk 0 (some 185) rfl ?_
      refine tk 1 (some 186) rfl ?_
      refine tk 2 (some 187) rfl ?_
      refine tk 4 (some 189) rfl ?_
      refine tk 5 (some 190) rfl ?_
      refine aH 3 (some 188) rfl (fun KK hKK=>?_)
      go_simp
      (go_at_call 46;refine Calls.mono (HKD.o _ bE) ?_;rintro e wk ⟨rfl,hbk⟩;(have hbk9:Below w9.heap.size w9 wk:=Below.trans bE (hbk.mono lE));(have hsk:=hbk9.size))
      (try go_wp2_with fail)
      refine hKK.out _ _ ?_ (fun hHeld=>?_)
      ·(try dsimp only);(first|(with_reducible exact HS9.o _ bE)|go_keep)
      clear hKK KK
      try simp only[Act.put,List.setIfInBounds_toArray,List.set_cons_zero,List.set_cons_succ]
      refine tk 6 (some 191) rfl ?_
      refine tk 7 (some 192) rfl ?_
      refine tk 8 (some 193) rfl ?_
      refine tk 9 (some 194) rfl ?_
      refine tk 10 (some 195) rfl ?_
      refine tk 11 (some 196) rfl ?_
      refine tk 12 (some 197) rfl ?_
      refine aH 13 (some 198) rfl (fun KK hKK=>?_)
      go_simp
      (go_at_call 47;refine Calls.mono (HGO.o _ bE) ?_;rintro e wg ⟨rfl,hbg⟩;(have hbg9:Below w9.heap.size w9 wg:=Below.trans bE (hbg.mono lE));(have hsg:=hbg9.size))
      (try go_wp2_with fail)
      refine hKK.out _ _ ?_ (fun hHeld=>?_)
      ·(try dsimp only);(first|(with_reducible exact HS9.o _ bE)|go_keep)
      clear hKK KK
      try simp only[Act.put,List.setIfInBounds_toArray,List.set_cons_zero,List.set_cons_succ]
      refine tk 14 (some 199) rfl ?_
      refine tk 15 (some 200) rfl ?_
      refine tk 16 (some 201) rfl ?_
      refine sk 17 (some 202) rfl ?_
      refine sk 18 (some 203) rfl ?_
      refine sk 19 (some 204) rfl ?_
      refine sk 20 (some 205) rfl ?_
      refine tk 21 (some 206) rfl ?_
      refine wpAnyH_done (by kernel_rfl) ?_ _
      go_wp2_with fail
      go_meet
      exact ⟨rfl,bE⟩
     have HPP:Hid (((bf d.2:Int) !=0)= !P):=by
      show _=_
      rw[<-HP2.o]
      by_cases hl:bf d.2=0
      ·rw[aq ⟨hk1,hg1,hl⟩,hl];rfl
      ·rw[ab (fun g=>hl g.2.2)];simp[hl]
     rw[aq hg1] at HGO
     clear hk1 hg1 HP2
     generalize am f d.2=KD at*
     generalize ag f.fm d.1=TY at*
     refine wp_region_held_drew (S:=fun W=>((W.cell? ⟨w.heap.size,0,none⟩=some (.slice (some ⟨bw,ow,none⟩) f.wires.length cw)/\W.cell? ⟨w.heap.size,1,none⟩=some (.slice (some ⟨b,off,none⟩) f.defs.length cd)/\W.cell? ⟨w.heap.size,2,none⟩=some (.slice Ai f.ins.length ci)/\W.cell? ⟨w.heap.size,3,none⟩=some (.slice Ao f.outs.length co))/\W.cell? ⟨gD,0,none⟩=some (.int .i64 d.1)/\W.cell? ⟨gD,1,none⟩=some (.int .i64 d.2.op)/\W.cell? ⟨gD,2,none⟩=some (.string d.2.name)/\W.cell? ⟨gD,3,none⟩=some (.int .i64 d.2.n)/\W.cell? ⟨gD,4,none⟩=some (.slice Ag d.2.args.length cg)/\W.cell? ⟨gD,5,none⟩=some (.int .i64 d.2.line)/\W.cell? ⟨gD,6,none⟩=some (.int .i64 d.2.col))/\W.cell? ⟨gW,0,none⟩=some (.int .i64 TY)/\W.cell? ⟨gW,1,none⟩=some (.slice Aq (aa f.fm d.1).length cq)) (by kernel_rfl) ?_ (fun hHeld=>?_)
     ·(try dsimp only);(first|(with_reducible exact HS9.o _ bE)|go_keep)
     refine tk 0 (some 185) rfl ?_
     refine tk 1 (some 186) rfl ?_
     refine tk 2 (some 187) rfl ?_
     refine tk 4 (some 189) rfl ?_
     refine tk 5 (some 190) rfl ?_
     refine aH 3 (some 188) rfl (fun KK hKK=>?_)
     go_simp
     (go_at_call 46;refine Calls.mono (HKD.o _ bE) ?_;rintro e wk ⟨rfl,hbk⟩;(have hbk9:Below w9.heap.size w9 wk:=Below.trans bE (hbk.mono lE));(have hsk:=hbk9.size))
     (try go_wp2_with fail)
     refine hKK.out _ _ ?_ (fun hHeld=>?_)
     ·(try dsimp only);(first|(with_reducible exact HS9.o _ bE)|go_keep)
     clear hKK KK
     try simp only[Act.put,List.setIfInBounds_toArray,List.set_cons_zero,List.set_cons_succ]
     refine tk 6 (some 191) rfl ?_
     refine tk 7 (some 192) rfl ?_
     refine tk 8 (some 193) rfl ?_
     refine tk 9 (some 194) rfl ?_
     refine tk 10 (some 195) rfl ?_
     refine tk 11 (some 196) rfl ?_
     refine tk 12 (some 197) rfl ?_
     refine aH 13 (some 198) rfl (fun KK hKK=>?_)
     go_simp
     (go_at_call 47;refine Calls.mono (HGO.o _ bE) ?_;rintro e wg ⟨rfl,hbg⟩;(have hbg9:Below w9.heap.size w9 wg:=Below.trans bE (hbg.mono lE));(have hsg:=hbg9.size))
     (try go_wp2_with fail)
     refine hKK.out _ _ ?_ (fun hHeld=>?_)
     ·(try dsimp only);(first|(with_reducible exact HS9.o _ bE)|go_keep)
     clear hKK KK
     try simp only[Act.put,List.setIfInBounds_toArray,List.set_cons_zero,List.set_cons_succ]
     refine tk 14 (some 199) rfl ?_
     refine tk 15 (some 200) rfl ?_
     refine tk 16 (some 201) rfl ?_
     refine tk 17 (some 202) rfl ?_
     refine tk 18 (some 203) rfl ?_
     refine aH 19 (some 204) rfl (fun KK hKK=>?_)
     go_simp
     (go_at_call 48;refine Calls.mono (HLT.o _ bE) ?_;rintro e wl ⟨rfl,hbl9⟩;(have hbl8:Below w9.heap.size w9 wl:=Below.trans bE (hbl9.mono lE)))
     (try go_wp2_with fail)
     refine hKK.out _ _ ?_ (fun hHeld=>?_)
     ·(try dsimp only);(first|(with_reducible exact HS9.o _ bE)|go_keep)
     clear hKK KK
     try simp only[Act.put,List.setIfInBounds_toArray,List.set_cons_zero,List.set_cons_succ]
     refine tk 20 (some 205) rfl ?_
     refine tk 21 (some 206) rfl ?_
     refine wpAnyH_done (by kernel_rfl) ?_ _
     go_wp2_with fail
     go_meet
     exact ⟨by rw[HPP.o],bE⟩
    case rest=>
    obtain ⟨rfl,hbc⟩:=hcut
    have hbc2:=HB9.o _ hbc
    have hbc3:=hb4.trans ((hb49.trans (hbc.mono hs49)).mono hs4)
    cases P
    ·have HF:=zH (HFF.o (fun g=>fO.1 HP2.o ⟨g.2.2.2.1,g.2.2.2.2.1,g.2.2.2.2.2⟩))
     go_wp2_with fail
     go_ret
     exact ⟨aj HF.o.symm,hbc2⟩
    have HP':=zH (aC HP.o (fun y hy=>by
     rw[HX.o] at hy;injection hy with hy;rw[<-hy]
     obtain ⟨q1,q2,q3⟩:=cb.1 HP2.o
     exact ⟨⟨HW.o,HNI.o,HBE.o⟩,HPE.o,HHE.o,q1,q2,q3⟩))
    go_wp2_with fail
    go_roundw
    case rel=>exact ⟨k+1,by omega,by go_num,HP'.o,hbc3⟩
    case measure=>simp[intOf];omega
end Go.Proofs.YtckognjamlckcaaGreatDoor
