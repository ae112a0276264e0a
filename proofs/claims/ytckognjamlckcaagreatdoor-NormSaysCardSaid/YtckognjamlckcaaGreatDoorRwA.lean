/-
  Several texts in one: SemG, SemH. Several texts in one: SemE, SemF, OpenR, RTy.
-/
import Derived.Test.YtckognjamlckcaaGreatDoorSemC
set_option maxHeartbeats 16000000
set_option maxRecDepth 100000
namespace Go.Proofs.YtckognjamlckcaaGreatDoor
open Go.RowKit Vf Fo Ar
attribute [local go_sem ↓] Go.wp_at_zero Go.wp_at_succ
theorem Cr {w:World} {base size n:Nat} {e:TypeId} {v:Value} {xs:List Value} (h:w.ownsRow base e size v n xs):eK v:=by
 obtain ⟨A,c,rfl,hn,_⟩:=bH h
 exact hn
theorem lI {w:World} {b1 b2 s1 s2 n1 n2 k:Nat} {e1 e2:TypeId} {v1 v2:Value} {xs1 xs2:List Value} (h1:w.ownsRow b1 e1 s1 v1 n1 xs1) (h2:w.ownsRow b2 e2 s2 v2 n2 xs2) (he:e1≠e2) (hk:v1.ownBlock=some k):v2.ownBlock≠some k:=by
 rcases h1.2 with ⟨h0,_⟩|⟨g,c,cur,h3,h4,h5,_⟩
 ·rw[h0] at hk;cases hk
 ·rw[h3] at hk
  obtain rfl:g=k:=by injection hk
  exact bh h2 (show ai w g cur e1 from h5) he
theorem ae.grown {w w':World} {row:Option Nat} (hg:w.grownBy w' row):ae (fun k=>row=some k) w w':=⟨hg.os,hg.tape,hg.output,hg.size,fun k hk hX=>hg.block k hk (fun e=>hX e.symm)⟩
theorem qS {w w':World} {b B size n:Nat} {e:TypeId} {v:Value} {xs:List Value} (h:w.ownsRow b e size v n xs) (hb:Below B w w') (hv:∀k,v.ownBlock=some k->k<B):w'.ownsRow b e size v n xs:=by
 refine ⟨h.1,?_⟩
 rcases h.2 with h0|⟨g,c,cur,h1,h2,h3,h4⟩
 ·exact .inl h0
 ·exact .inr ⟨g,c,cur,h1,h2,(hb.block g (hv g (by rw[h1];rfl))).trans h3,h4⟩
theorem BT {α:Type} {W:World} {B B' size:Nat} {rel:α->List Value->Prop} {v:Value} {l:List α} (h:aI W B size rel v l) (hB:∀k,v.ownBlock=some k->k<B'):aI W B' size rel v l:=by
 obtain ⟨A,c,rfl,h1,h2,h3⟩:=h
 refine ⟨A,c,rfl,h1,h2,fun hl=>?_⟩
 obtain ⟨b,off,rfl,_,h5⟩:=h3 hl
 exact ⟨b,off,rfl,hB b rfl,h5⟩
structure fU (f:Fm) (cs:List Int) (B R:Nat) (vw va vc vk vi vo vC vP:Value) (W:World):Prop where
 bR:B<=R
 fm:bQ W B f vw va vc vk vi vo
 c:∃n,W.ownsRow B 3 1 vC n (al cs)
 cw:∀x∈cs,Wf x
 p:∃n,W.ownsRow B 3 1 vP n (al (iE f))
 pw:∀x∈iE f,Wf x
 r:∃x7 x8 x9:Value,ai W R #[vw,va,vc,vk,vi,vo,vC,x7,x8,x9,vP] 129
section
variable {f:Fm} {cs:List Int} {B R:Nat} {vw va vc vk vi vo vC vP:Value} {W W':World}
theorem fU.nil (h:fU f cs B R vw va vc vk vi vo vC vP W):eK vC:=by
 obtain ⟨_,h⟩:=h.c
 exact Cr h
theorem fU.rlt (h:fU f cs B R vw va vc vk vi vo vC vP W):R<W.heap.size:=by
 obtain ⟨_,_,_,h⟩:=h.r
 exact h.lt
theorem nZ {v:Value} {n:Nat} {l:List Int} (h:W.ownsRow B 3 1 v n (al l)) (hw:∀x∈l,Wf x) {X:Nat->Prop} (u:ae X W W') (hX:∀k,v.ownBlock=some k->¬X k):aI W' W.heap.size 1 aP v l:=by
 have hn:n=l.length:=by
  have:=h.1
  rw[fF] at this
  omega
 subst hn
 exact BT (Au (aN h u hX) hw) (fun k hk=>(h.lt k hk).2)
theorem fU.keep (h:fU f cs B R vw va vc vk vi vo vC vP W) (W':World) (u:ae (fun k=>k=R) W W'):bQ W' W.heap.size f vw va vc vk vi vo/\aI W' W.heap.size 1 aP vC cs/\aI W' W.heap.size 1 aP vP (iE f):=by
 have hR:=h.rlt
 have hB:=h.bR
 obtain ⟨_,_,_,r⟩:=h.r
 obtain ⟨_,c⟩:=h.c
 obtain ⟨_,p⟩:=h.p
 refine ⟨(h.fm.below (u.below (B:=B) (fun q hq=>by omega) (by omega))).keep (fun _ _ _ hc=>hc) (by omega),nZ c h.cw u (fun q hq e=>bh c r (by decide) (by rw[<-e];exact hq)),nZ p h.pw u (fun q hq e=>bh p r (by decide) (by rw[<-e];exact hq))⟩
theorem fU.upd {X:Nat->Prop} (h:fU f cs B R vw va vc vk vi vo vC vP W) (u:ae X W W') (hX:∀k,X k->B<=k) (hR:¬X R) (hc:∀n xs,W.ownsRow B 3 1 vC n xs->∀k,vC.ownBlock=some k->¬X k) (hp:∀n xs,W.ownsRow B 3 1 vP n xs->∀k,vP.ownBlock=some k->¬X k):fU f cs B R vw va vc vk vi vo vC vP W':=by
 have hl:=h.rlt
 have hB:=h.bR
 obtain ⟨x7,x8,x9,r⟩:=h.r
 obtain ⟨n,c⟩:=h.c
 obtain ⟨m,p⟩:=h.p
 exact ⟨hB,h.fm.below (u.below (B:=B) hX (by omega)),⟨n,aN c u (hc _ _ c)⟩,h.cw,⟨m,aN p u (hp _ _ p)⟩,h.pw,x7,x8,x9,u.row r hR⟩
end
theorem Dv {f:Fm} (hla:f.acts.length<=100000) (n:Int):Wf (bO n 0 f.acts):=by
 have:∀(l:List Ac) (i:Nat),i+l.length<=100000->-1<=bO n i l/\bO n i l<=100000:=by
  intro l
  induction l with
  |nil=>intro i _;simp[bO]
  |cons x l ih=>
   intro i h
   simp only[List.length_cons] at h
   simp only[bO]
   split
   ·omega
   ·exact ih (i+1) (by omega)
 have h:=this f.acts 0 (by omega)
 exact aT (by omega)
theorem Ct (f:Fm) (vw va vc vk vi vo:Value) (w:World) (h:bQ w w.heap.size f vw va vc vk vi vo) (hwl:f.wires.length<=1600) (hcl:f.cells.length<=1600) (hla:f.acts.length<=100000) (hcw:∀x∈f.cells,Wf x.2):
  Calls Tryz.prog 53 #[dp vw va vc vk vi vo] w fun e w'=>∃R vC vP,e= .returned (.pointer (some ⟨R,0,none⟩))/\fU f (f.cells.map (·.2)) w.heap.size R vw va vc vk vi vo vC vP w'/\Below w.heap.size w w':=by
 refine' zq106
 obtain ⟨Aw,cw,rfl,lw,mw,_⟩:=id h.wires
 obtain ⟨Aa,ca,rfl,_,_,_⟩:=id h.acts
 obtain ⟨Acc,cc,rfl,lc,mc,_⟩:=id h.cells
 obtain ⟨Akk,ck,rfl,_,_,_⟩:=id h.keeps
 obtain ⟨Ai,ci,rfl,_,_,_⟩:=id h.ins
 obtain ⟨Ao,co,rfl,_,_,_⟩:=id h.outs
 refine' zq62
 refine' zq220
 have HFM:=zH (fun W (hW:Below w.heap.size w W)=>h.below hW)
 clear h
 go_enter Tryz.func53,Tryz.ntmps53
 go_upto_region 2 with (fail)
 generalize hWW:World.alloc (World.alloc w _) _=w1
 have hX:Below w.heap.size w w1/\ai w1 w.heap.size #[.slice Aw f.wires.length cw,.slice Aa f.acts.length ca,.slice Acc f.cells.length cc,.slice Akk f.keeps.length ck,.slice Ai f.ins.length ci,.slice Ao f.outs.length co] 28/\ai w1 (w.heap.size+1) #[.slice Aw f.wires.length cw,.slice Aa f.acts.length ca,.slice Acc f.cells.length cc,.slice Akk f.keeps.length ck,.slice Ai f.ins.length ci,.slice Ao f.outs.length co,.slice none 0 0,.slice none 0 0,.slice none 0 0,.slice none 0 0,.slice none 0 0] 129:=by
  rw[<-hWW]
  exact ⟨bE,(ai.new w _ _).alloc _,dw w _ _ _⟩
 clear hWW
 obtain ⟨b1,rG1,rR1⟩:=hX
 have hs1:=b1.size
 have hR1:=rR1.lt
 have HG1:=zH rG1
 have HR1:=zH rR1
 have HB1:=zH b1
 clear rG1 rR1 b1
 go_wp2_with fail
 go_loopw[4] (fun i wr=>∃(k:Nat) (v6:Value),k<=f.cells.length/\i= .int .i64 k/\Hid (ai wr w.heap.size #[.slice Aw f.wires.length cw,.slice Aa f.acts.length ca,.slice Acc f.cells.length cc,.slice Akk f.keeps.length ck,.slice Ai f.ins.length ci,.slice Ao f.outs.length co] 28)/\Hid (ai wr (w.heap.size+1) #[.slice Aw f.wires.length cw,.slice Aa f.acts.length ca,.slice Acc f.cells.length cc,.slice Akk f.keeps.length ck,.slice Ai f.ins.length ci,.slice Ao f.outs.length co,v6,.slice none 0 0,.slice none 0 0,.slice none 0 0,.slice none 0 0] 129)/\Hid (wr.ownsRow w1.heap.size 3 1 v6 k (al ((f.cells.take k).map (·.2))))/\Hid (Below w.heap.size w wr)/\Hid (w1.heap.size<=wr.heap.size)) (fun i _=>f.cells.length-(intOf i).toNat)
 case atStart=>exact ⟨0,_,Nat.zero_le _,rfl,HG1.o,HR1.o,World.ownsRow_nil _ _ _ _,HB1.o,Nat.le_refl _⟩
 case round=>
  clear HG1 HR1 HB1
  obtain ⟨k,v6,hk,rfl,HG,HR,HO,HB,HS⟩:=hrel
  have hsr:=HS.o
  have q2:=HG.o.cell 2
  have q6:=HR.o.cell 6
  simp only[List.getElem?_toArray,List.getElem?_cons_zero,List.getElem?_cons_succ] at q2 q6
  by_cases hlt:k<f.cells.length
  ·obtain ⟨A',c',hA',_,_,sl⟩:=(HFM.o _ HB.o).cells
   refine' zq169
   obtain ⟨b,off,⟨ct,T⟩,rfl,hbb,hx,_,_,d0,d1⟩:=sl.cell hlt
   dsimp only at d0 d1
   have hk':(k:Int)<f.cells.length:=by omega
   have HTK:Hid (al ((f.cells.take (k+1)).map (·.2))=al ((f.cells.take k).map (·.2))++ [.int .i64 T]):=by
    show _=_
    rw[bj hx,List.map_append,List.map_singleton,bS]
   generalize al ((f.cells.take k).map (·.2))=LL at*
   have HK:Hid (∀W,Below wr.heap.size wr W->W.cell? ⟨w.heap.size+1,6,none⟩=some v6/\W.cell? ⟨w.heap.size,2,none⟩=some (.slice (some ⟨b,off,none⟩) f.cells.length cc)/\W.cell? ⟨b,off+k*2+1,none⟩=some (.int .i64 T)):=fun W hW=>⟨cell_kept q6 hW,cell_kept q2 hW,cell_kept d1 hW⟩
   have hbw:=World.block_lt_of_cell? wr _ d1
   clear sl hx
   go_upto_region 5 with (fail)
   clear d0 q2 q6
   refine eN 15 (S:=fun W=>W.cell? ⟨w.heap.size+1,6,none⟩=some v6/\W.cell? ⟨w.heap.size,2,none⟩=some (.slice (some ⟨b,off,none⟩) f.cells.length cc)/\W.cell? ⟨b,off+k*2+1,none⟩=some (.int .i64 T)) (by kernel_rfl) ?_ (fun hHeld=>?_)
   ·refine' zq63
   refine cf 0 (some 16) rfl ?_
   refine cf 1 (some 17) rfl ?_
   refine cf 2 (some 18) rfl ?_
   refine cf 3 (some 19) rfl ?_
   refine cf 4 (some 20) rfl ?_
   refine cf 5 (some 21) rfl ?_
   refine cf 6 (some 22) rfl ?_
   refine cf 7 (some 23) rfl ?_
   refine cf 8 (some 24) rfl ?_
   refine cf 9 (some 25) rfl ?_
   refine cf 10 (some 26) rfl ?_
   refine eD 11 (some 27) rfl (fun KK hKK=>?_)
   go_simp
   refine' zq41
   refine eD 12 (some 28) rfl (fun KK hKK=>?_)
   (rw[if_pos (by kernel_rfl)];refine i' (.tmp 20) (.tmp 27) 26 rfl w1.heap.size 3 i0 (.int .i64 0) 1 8 Tryz.underlying26 hi0 hz0 hz1 hz2 rfl (by decide) _ k LL rfl (aG HO.o (bE:Below wr.heap.size wr _)) (some ⟨_,0,none⟩) 1 1 [.int .i64 T] rfl eK.some rfl (fun ad he=>by injection he with he;subst he;exact cA _ _ _) (by intro u hu;simp at hu;subst hu;rfl) (by unfold maxLen;omega) (by omega) (by first|omega|(simp;omega)|simp) ?_;intro v13 w13 hown13 hg13;(have rr13:=(HR.o.below (bE:Below wr.heap.size wr _) HR.o.lt).grownE hg13 (bh (aG HO.o (bE:Below wr.heap.size wr _)) (HR.o.below (bE:Below wr.heap.size wr _) HR.o.lt) (by decide)));(have rg13:=(HG.o.below (bE:Below wr.heap.size wr _) HG.o.lt).grownE hg13 (bh (aG HO.o (bE:Below wr.heap.size wr _)) (HG.o.below (bE:Below wr.heap.size wr _) HG.o.lt) (by decide)));(have hb13:Below w1.heap.size wr w13:=aY (Below.mono (bE:Below wr.heap.size wr _) hsr) (aG HO.o (bE:Below wr.heap.size wr _)) hg13 (by first|omega|(simp;omega)|simp));(have q13:=rr13.cell 6);(have z13:=rr13.frozen 6);(have q14:=rg13.cell 2);(simp only[List.getElem?_toArray,List.getElem?_cons_zero,List.getElem?_cons_succ] at q13 q14);(have q15:=(hb13.cell (p:=⟨b,off+k*2+1,none⟩) (by show b<w1.heap.size;omega)).trans d1);(have HS13:=zH (And.intro q13 (And.intro q14 q15)));(obtain ⟨A13,c13,hv13,_⟩:=bH hown13);subst hv13)
   refine' zq41
   refine eD 13 (some 29) rfl (fun KK hKK=>?_)
   go_simp
   refine' zq41
   refine eD 14 (some 30) rfl (fun KK hKK=>?_)
   go_simp
   refine' zq41
   refine' zq89
   have u9:=ae.setCell (X:=fun k=>k=w.heap.size+1) (p:=⟨w.heap.size+1,6,none⟩) (ae.refl _ w13) rfl (.slice A13 (k+1) c13)
   have HRn:Hid (ai (w13.setCell ⟨w.heap.size+1,6,none⟩ (.slice A13 (k+1) c13)) (w.heap.size+1) #[.slice Aw f.wires.length cw,.slice Aa f.acts.length ca,.slice (some ⟨b,off,none⟩) f.cells.length cc,.slice Akk f.keeps.length ck,.slice Ai f.ins.length ci,.slice Ao f.outs.length co,.slice A13 (k+1) c13,.slice none 0 0,.slice none 0 0,.slice none 0 0,.slice none 0 0] 129):=by
    show ai _ _ _ _
    have:=rr13.set 6 (.slice A13 (k+1) c13)
    simpa using this
   have HGn:=zH (u9.row rg13 (by omega))
   have HOn:Hid ((w13.setCell ⟨w.heap.size+1,6,none⟩ (.slice A13 (k+1) c13)).ownsRow w1.heap.size 3 1 (.slice A13 (k+1) c13) (k+1) (al ((f.cells.take (k+1)).map (·.2)))):=by
    show World.ownsRow _ _ _ _ _ _ _
    rw[HTK.o]
    exact aN hown13 u9 (fun q hq e=>bh hown13 rr13 (by decide) (by rw[<-e];exact hq))
   refine' zq297
   have HSn:Hid (w1.heap.size<=(w13.setCell ⟨w.heap.size+1,6,none⟩ (.slice A13 (k+1) c13)).heap.size):=by show _<=_;omega
   clear hown13 hg13 rr13 rg13 hb13 q13 z13 q14 q15 HS13 hHeld u9 d1
   go_wp2_with fail
   go_roundw
   case rel=>exact ⟨k+1,_,by omega,by go_num,HGn,HRn,HOn,HBn,HSn⟩
   case measure=>simp[intOf];omega
  ·obtain rfl:k=f.cells.length:=by omega
   have HC0:Hid (wr.ownsRow w1.heap.size 3 1 v6 f.cells.length (al (f.cells.map (·.2)))):=by have:=HO.o;rw[List.take_length] at this;exact this
   have HG0:=HG
   have HR0:=HR
   have HB0:=HB
   have hsr0:=HS.o
   have HVB:Hid (∀q,v6.ownBlock=some q->q<wr.heap.size):=fun q hq=>(HC0.o.lt q hq).2
   go_wp2_with fail
   obtain ⟨wo,hwo⟩:∃wo:World,wo=wr:=⟨_,rfl⟩
   subst hwo
   clear HG HR HB HS HO q2 q6
   go_loopw[5] (fun i wr=>∃(k:Nat) (v10:Value),k<=f.wires.length/\i= .int .i64 k/\Hid (ai wr w.heap.size #[.slice Aw f.wires.length cw,.slice Aa f.acts.length ca,.slice Acc f.cells.length cc,.slice Akk f.keeps.length ck,.slice Ai f.ins.length ci,.slice Ao f.outs.length co] 28)/\Hid (ai wr (w.heap.size+1) #[.slice Aw f.wires.length cw,.slice Aa f.acts.length ca,.slice Acc f.cells.length cc,.slice Akk f.keeps.length ck,.slice Ai f.ins.length ci,.slice Ao f.outs.length co,v6,.slice none 0 0,.slice none 0 0,.slice none 0 0,v10] 129)/\Hid (wr.ownsRow wo.heap.size 3 1 v10 k (al ((iE f).take k)))/\Hid (wr.ownsRow w1.heap.size 3 1 v6 f.cells.length (al (f.cells.map (·.2))))/\Hid (Below w.heap.size w wr)/\Hid (wo.heap.size<=wr.heap.size)) (fun i _=>f.wires.length-(intOf i).toNat)
   case atStart=>exact ⟨0,_,Nat.zero_le _,rfl,HG0.o,HR0.o,World.ownsRow_nil _ _ _ _,HC0.o,HB0.o,Nat.le_refl _⟩
   case round=>
    clear HG0 HR0 HC0 HB0
    obtain ⟨k,v10,hk,rfl,HG,HR,HP,HC,HB,HS⟩:=hrel
    have hsr:=HS.o
    have hBw:=HB.o.size
    obtain ⟨f0,f1,f2,f3,f4,f5⟩:=HG.o.six'
    have q10:=HR.o.cell 10
    simp only[List.getElem?_toArray,List.getElem?_cons_zero,List.getElem?_cons_succ] at q10
    by_cases hlt:k<f.wires.length
    ·have hk':(k:Int)<f.wires.length:=by omega
     have HTK:Hid (al ((iE f).take (k+1))=al ((iE f).take k)++ [.int .i64 (bO (k:Int) 0 f.acts)]):=by
      show _=_
      rw[bj (oA hlt),bS]
     generalize al ((iE f).take k)=LL at*
     have HK:Hid (∀W,Below wr.heap.size wr W->W.cell? ⟨w.heap.size+1,10,none⟩=some v10/\W.cell? ⟨w.heap.size,0,none⟩=some (.slice Aw f.wires.length cw)/\W.cell? ⟨w.heap.size,1,none⟩=some (.slice Aa f.acts.length ca)/\W.cell? ⟨w.heap.size,2,none⟩=some (.slice Acc f.cells.length cc)/\W.cell? ⟨w.heap.size,3,none⟩=some (.slice Akk f.keeps.length ck)/\W.cell? ⟨w.heap.size,4,none⟩=some (.slice Ai f.ins.length ci)/\W.cell? ⟨w.heap.size,5,none⟩=some (.slice Ao f.outs.length co)):=fun W hW=>⟨cell_kept q10 hW,cell_kept f0 hW,cell_kept f1 hW,cell_kept f2 hW,cell_kept f3 hW,cell_kept f4 hW,cell_kept f5 hW⟩
     go_upto_region 9 with (fail)
     clear f0 f1 f2 f3 f4 f5 q10
     refine eN 12 (S:=fun W=>W.cell? ⟨w.heap.size+1,10,none⟩=some v10/\W.cell? ⟨w.heap.size,0,none⟩=some (.slice Aw f.wires.length cw)/\W.cell? ⟨w.heap.size,1,none⟩=some (.slice Aa f.acts.length ca)/\W.cell? ⟨w.heap.size,2,none⟩=some (.slice Acc f.cells.length cc)/\W.cell? ⟨w.heap.size,3,none⟩=some (.slice Akk f.keeps.length ck)/\W.cell? ⟨w.heap.size,4,none⟩=some (.slice Ai f.ins.length ci)/\W.cell? ⟨w.heap.size,5,none⟩=some (.slice Ao f.outs.length co)) (by kernel_rfl) ?_ (fun hHeld=>?_)
     ·refine' zq63
     refine cf 0 (some 38) rfl ?_
     refine cf 1 (some 39) rfl ?_
     refine cf 2 (some 40) rfl ?_
     refine cf 3 (some 41) rfl ?_
     refine cf 4 (some 42) rfl ?_
     refine cf 5 (some 43) rfl ?_
     refine cf 6 (some 44) rfl ?_
     refine eD 7 (some 45) rfl (fun KK hKK=>?_)
     go_simp
     (go_at_call 35;refine Calls.mono (tA ((HFM.o _ (HB.o.trans (Below.mono (bE:Below wr.heap.size wr _) hBw))).keep (fun _ _ _ hc=>hc) (by first|omega|(simp;omega))) (k:Int)) ?_;rintro e w8 ⟨rfl,hb8⟩;(have hb9:Below wr.heap.size wr w8:=Below.trans bE (hb8.mono lE));(have hs9:=hb9.size))
     (try go_wp2_with fail)
     refine' zq41
     refine eD 8 (some 46) rfl (fun KK hKK=>?_)
     go_simp
     refine' zq41
     refine eD 9 (some 47) rfl (fun KK hKK=>?_)
     (rw[if_pos (by kernel_rfl)];refine i' (.tmp 42) (.tmp 46) 26 rfl wo.heap.size 3 i0 (.int .i64 0) 1 8 Tryz.underlying26 hi0 hz0 hz1 hz2 rfl (by decide) v10 k LL rfl (aG HP.o (bE:Below wr.heap.size wr _)) (some ⟨_,0,none⟩) 1 1 [.int .i64 (bO (k:Int) 0 f.acts)] rfl eK.some rfl (fun ad he=>by injection he with he;subst he;exact cA _ _ _) (by intro u hu;simp at hu;subst hu;rfl) (by unfold maxLen;omega) (by omega) (by first|omega|(simp;omega)|simp) ?_;intro v13 w13 hown13 hg13;(have hba:Below wr.heap.size wr (w8.alloc (.cells #[.int .i64 (bO (k:Int) 0 f.acts)] 3)):=bE);(have rr13:=(HR.o.below hba HR.o.lt).grownE hg13 (bh (aG HP.o hba) (HR.o.below hba HR.o.lt) (by decide)));(have rg13:=(HG.o.below hba HG.o.lt).grownE hg13 (bh (aG HP.o hba) (HG.o.below hba HG.o.lt) (by decide)));(have hb13:Below wo.heap.size wr w13:=aY (Below.mono hba hsr) (aG HP.o hba) hg13 (by first|omega|(simp;omega)|simp));(have q13:=rr13.cell 10);(have z13:=rr13.frozen 10);(simp only[List.getElem?_toArray,List.getElem?_cons_zero,List.getElem?_cons_succ] at q13);(have HS13:=zH (And.intro q13 rg13.six'));(obtain ⟨A13,c13,hv13,_⟩:=bH hown13);subst hv13)
     refine' zq41
     refine eD 10 (some 48) rfl (fun KK hKK=>?_)
     go_simp
     refine' zq41
     refine eD 11 (some 49) rfl (fun KK hKK=>?_)
     go_simp
     refine' zq41
     refine' zq89
     have u9:=ae.setCell (X:=fun k=>k=w.heap.size+1) (p:=⟨w.heap.size+1,10,none⟩) (ae.refl _ w13) rfl (.slice A13 (k+1) c13)
     have HRn:Hid (ai (w13.setCell ⟨w.heap.size+1,10,none⟩ (.slice A13 (k+1) c13)) (w.heap.size+1) #[.slice Aw f.wires.length cw,.slice Aa f.acts.length ca,.slice Acc f.cells.length cc,.slice Akk f.keeps.length ck,.slice Ai f.ins.length ci,.slice Ao f.outs.length co,v6,.slice none 0 0,.slice none 0 0,.slice none 0 0,.slice A13 (k+1) c13] 129):=by
      show ai _ _ _ _
      have:=rr13.set 10 (.slice A13 (k+1) c13)
      simpa using this
     have HGn:=zH (u9.row rg13 (by omega))
     have HPn:Hid ((w13.setCell ⟨w.heap.size+1,10,none⟩ (.slice A13 (k+1) c13)).ownsRow wo.heap.size 3 1 (.slice A13 (k+1) c13) (k+1) (al ((iE f).take (k+1)))):=by
      show World.ownsRow _ _ _ _ _ _ _
      rw[HTK.o]
      exact aN hown13 u9 (fun q hq e=>bh hown13 rr13 (by decide) (by rw[<-e];exact hq))
     have hc13:=qS HC.o hb13 HVB.o
     have HCn:=zH (aN hc13 u9 (fun q hq e=>bh hc13 rr13 (by decide) (by rw[<-e];exact hq)))
     refine' zq297
     have HSn:Hid (wo.heap.size<=(w13.setCell ⟨w.heap.size+1,10,none⟩ (.slice A13 (k+1) c13)).heap.size):=by show _<=_;omega
     clear hown13 hg13 rr13 rg13 hb13 q13 z13 HS13 hHeld u9 hc13
     go_wp2_with fail
     go_roundw
     case rel=>exact ⟨k+1,_,by omega,by go_num,HGn,HRn,HPn,HCn,HBn,HSn⟩
     case measure=>simp[intOf];omega
    ·obtain rfl:k=f.wires.length:=by omega
     have HPF:Hid (wr.ownsRow wo.heap.size 3 1 v10 f.wires.length (al (iE f))):=by
      have:=HP.o
      rw[show (iE f).take f.wires.length=iE f by rw[<-jS f,List.take_length]] at this
      exact this
     have HRI:Hid (fU f (f.cells.map (·.2)) w.heap.size (w.heap.size+1) (.slice Aw f.wires.length cw) (.slice Aa f.acts.length ca) (.slice Acc f.cells.length cc) (.slice Akk f.keeps.length ck) (.slice Ai f.ins.length ci) (.slice Ao f.outs.length co) v6 v10 wr):=by
      refine ⟨by omega,HFM.o _ HB.o,⟨_,dg HC.o (by omega)⟩,fun x hx=>?_,⟨_,dg HPF.o (by omega)⟩,fun x hx=>?_,⟨_,_,_,HR.o⟩⟩
      ·obtain ⟨y,hy,rfl⟩:=List.mem_map.1 hx
       exact hcw y hy
      ·obtain ⟨y,_,rfl⟩:=List.mem_map.1 hx
       exact Dv hla _
     go_wp2_with fail
     go_ret
     exact ⟨_,_,_,rfl,HRI.o,HB.o⟩
theorem oz {R K V:Nat} {W W3 W':World} (u:ae (fun k=>k=R) W W3) (u':ae (fun k=>k=K\/k=V) W3 W') (hK:W.heap.size<=K) (hV:W.heap.size<=V):ae (fun k=>k=R) W W':=
 ⟨u'.os.trans u.os,u'.tape.trans u.tape,u'.output.trans u.output,Nat.le_trans u.size u'.size,fun k hk hR=>(u'.block k (Nat.lt_of_lt_of_le hk u.size) (by omega)).trans (u.block k hk hR)⟩
section
variable {f:Fm} {cs row:List Int} {B R K V:Nat} {vw va vc vk vi vo vC vR vP:Value} {W W3:World}
theorem fU.start (h:fU f cs B R vw va vc vk vi vo vC vP W) (hrow:∀W',ae (fun k=>k=R) W W'->aI W' W.heap.size 1 aP vR row) (u:ae (fun k=>k=R) W W3) (hK:W.heap.size<=K) (hV:W.heap.size<=V) (kv:K≠V) (hR:R<W.heap.size)
  (rr:ai W3 R #[vw,va,vc,vk,vi,vo,vC,vR,.slice (some ⟨K,0,none⟩) f.wires.length f.wires.length,.slice (some ⟨V,0,none⟩) f.wires.length f.wires.length,vP] 129)
  (rk:ai W3 K (dI (List.replicate f.wires.length false)).toArray 4) (rv:ai W3 V (al (List.replicate f.wires.length 0)).toArray 3):
  cz f cs row R K V vw va vc vk vi vo vC vR vP W3 (List.replicate f.wires.length false) (List.replicate f.wires.length 0):=by
 refine ⟨fun W' u'=>?_,rk,rv,kv,by simp,by simp,fun x hx=>?_,fun n hn hd=>?_⟩
 ·have um:=oz u u' hK hV
  obtain ⟨h1,h2,h3⟩:=h.keep W' um
  have hs:=u.size
  exact ⟨h1.keep (fun _ _ _ hc=>hc) hs,h2.more hs,(hrow W' um).more hs,h3.more hs,u'.row rr (by omega)⟩
 ·rw[(List.mem_replicate.1 hx).2]
  exact aT (by omega)
 ·exfalso
  unfold aL at hd
  rw[List.getD_eq_getElem?_getD,List.getElem?_replicate] at hd
  split at hd<;>cases hd
end
open Go.RowKit Vf Fo
theorem wB (l m:List Int) (v1 v2:Value) (B:Nat) (w:World) (h1:aI w B 1 aP v1 l) (h2:aI w B 1 aP v2 m):
  Calls Tryz.prog 52 #[v1,v2] w fun e w'=>e= .returned (.bool (cB (l=m)))/\∃n,w'=w.drewN n:=by
 refine' zq72
 by_cases hl:l.length=m.length
 rotate_left 1
 ·refine' zq217
  go_enter Tryz.func52,Tryz.ntmps52
  go_wp2_with fail
  go_ret
  exact ⟨aj HF.o.symm,0,rfl⟩
 refine' zq197
 go_enter Tryz.func52,Tryz.ntmps52
 go_wp2_with fail
 go_loopw[5] (fun i wr=>∃k:Nat,k<=l.length/\i= .int .i64 k/\Hid (∀j,j<k->∀x y,l[j]? =some x->m[j]? =some y->x=y)/\∃n,wr=w.drewN n) (fun i _=>l.length-(intOf i).toNat)
 case atStart=>exact ⟨0,Nat.zero_le _,rfl,fun j h=>absurd h (by omega),0,rfl⟩
 case round=>
  obtain ⟨k,hk,rfl,HN,n,rfl⟩:=hrel
  by_cases hlt:k<l.length
  ·obtain ⟨b1,o1,x,rfl,hb1,hx,wx,d1⟩:=s1.int hlt
   obtain ⟨b2,o2,y,rfl,hb2,hy,wy,d2⟩:=s2.int (show k<m.length by omega)
   have HX:=zH hx
   have HY:=zH hy
   clear hx hy
   have hk1:(k:Int)<l.length:=by omega
   have hk2:(k:Int)<m.length:=by omega
   have hk0:(0:Int)<=(k:Int):=by omega
   go_wp2_with fail
   go_quiet (fail)
   by_cases e:x=y
   ·have e':(x !=y)=false:=by simp[e]
    have HN':=zH (aC HN.o (fun x' y' hx' hy'=>by rw[HX.o] at hx';rw[HY.o] at hy';injection hx' with hx';injection hy' with hy';rw[<-hx',<-hy'];exact e))
    clear e
    go_wp2_with fail
    go_roundw
    case rel=>exact ⟨k+1,by omega,by go_num,HN',by first|exact ⟨_,rfl⟩|(rw[World.drewN_drewN];exact ⟨_,rfl⟩)⟩
    case measure=>simp[intOf];omega
   ·have e':(x !=y)=true:=by simp[e]
    have HF:=zH (ab (fun g:l=m=>e (by have:=HX.o;rw[g,HY.o] at this;injection this with this;exact this.symm)))
    clear e
    refine' zq66
  ·obtain rfl:k=l.length:=by omega
   have HF:=zH (aq (yp HL.o HN.o))
   refine' zq66
def eF (w:World) (B:Nat) (l:List Int) (cs:List Value):Prop:=∃v,cs=[v]/\aI w B 1 aP v l
theorem lS {w:World} {B C:Nat} {A:Option Addr} {l:List (List Int)} {k:Nat} (h:Sl w B 1 (eF w C) A l) (hk:k<l.length):∃b off x Ax cx,A=some ⟨b,off,none⟩/\b<B/\l[k]? =some x/\w.cell? ⟨b,off+k,none⟩=some (.slice Ax x.length cx)/\x.length<=cx/\cx<=maxLen/\Sl w C 1 aP Ax x:=by
 obtain ⟨b,off,x,cs,h1,h2,h3,⟨v,rfl,Ax,cx,rfl,h4,h6,h7⟩,h5⟩:=h.at_ hk
 have:=h5 0 _ rfl
 rw[Nat.mul_one,Nat.add_zero] at this
 exact ⟨b,off,x,Ax,cx,h1,h2,h3,this,h4,h6,h7⟩
theorem Dz {P:Program} {f:FuncId} {args:Array Value} {w:World} {q n:Nat} {v:Value}
  (h:Calls P f args (w.drewN (q+n)) fun e w'=>e= .returned v/\∃m,w'=(w.drewN (q+n)).drewN m):Calls P f args (w.drewN (q+n)) fun e w''=>e= .returned v/\∃m,w''=w.drewN (q+m):=
 h.mono fun _ _ ⟨he,m,hm⟩=>⟨he,n+m,by rw[hm,World.drewN_drewN,Nat.add_assoc]⟩
theorem pa (l:List (List Int)) (v1 v2:Value) (B:Nat) (w:World) (h1:aI w B 1 (eF w B) v1 l) (h2:aI w B 1 (eF w B) v2 l):
  Calls Tryz.prog 20 #[v1,v2] w fun e w'=>e= .returned (.bool true)/\∃n,w'=w.drewN n:=by
 refine' zq72
 go_enter Tryz.func20,Tryz.ntmps20
 go_wp2_with fail
 go_loopw[5] (fun i wr=>∃k:Nat,k<=l.length/\i= .int .i64 k/\∃n,wr=w.drewN n) (fun i _=>l.length-(intOf i).toNat)
 case atStart=>exact ⟨0,Nat.zero_le _,rfl,0,rfl⟩
 case round=>
  obtain ⟨k,hk,rfl,n,rfl⟩:=hrel
  by_cases hlt:k<l.length
  ·obtain ⟨b1,o1,x,Ax,cx,rfl,hb1,hx,d0,ly,my,sx⟩:=lS s1 hlt
   obtain ⟨b2,o2,y,Ay,cy,rfl,hb2,hy,e0,lz,mz,sy⟩:=lS s2 hlt
   obtain rfl:x=y:=Option.some.inj (hx.symm.trans hy)
   have hk1:(k:Int)<l.length:=by omega
   have hk0:(0:Int)<=(k:Int):=by omega
   have HC:Hid (∀q,Calls Tryz.prog 52 #[.slice Ax x.length cx,.slice Ay x.length cy] (w.drewN (n+q)) fun e w'=>e= .returned (.bool true)/\∃m,w'=(w.drewN (n+q)).drewN m):=fun q=>by
    have:=wB x x (.slice Ax x.length cx) (.slice Ay x.length cy) B (w.drewN (n+q)) ⟨_,_,rfl,ly,my,sx⟩ ⟨_,_,rfl,lz,mz,sy⟩
    rwa [aq rfl] at this
   clear hx hy
   generalize x.length=len at*
   go_wp2_with fail
   go_quiet ((go_at_call 52;exact Dz (HC.o _)))
   go_wp2_with fail
   go_roundw
   case rel=>exact ⟨k+1,by omega,by go_num,by first|exact ⟨_,rfl⟩|(rw[World.drewN_drewN];exact ⟨_,rfl⟩)⟩
   case measure=>simp[intOf];omega
  ·obtain rfl:k=l.length:=by omega
   go_wp2_with fail
   go_ret
   exact ⟨rfl,n,rfl⟩
def DP (l:List (List Int)):Prop:=l.length<=12/\∀x∈l,x.length<=12
theorem xy (l:List (List Int)) (v:Value) (B:Nat) (w:World) (h:aI w B 1 (eF w B) v l):
  Calls Tryz.prog 18 #[v] w fun e w'=>(∃b,e= .returned (.bool b)/\Hid (b=true->DP l))/\w=w':=by
 obtain ⟨A1,c1,rfl,l1,m1,s1⟩:=h
 have m1':c1<=9223372036854775807:=by unfold maxLen at m1;omega
 go_enter Tryz.func18,Tryz.ntmps18
 go_wp2_with fail
 go_loopw[7] (fun i wr=>∃k:Nat,k<=l.length/\i= .int .i64 k/\Hid (∀j,j<k->∀x,l[j]? =some x->x.length<=12)/\w=wr) (fun i _=>l.length-(intOf i).toNat)
 case atStart=>exact ⟨0,Nat.zero_le _,rfl,fun j h=>absurd h (by omega),rfl⟩
 case round=>
  obtain ⟨k,hk,rfl,HN,rfl⟩:=hrel
  by_cases hlt:k<l.length
  ·obtain ⟨b1,o1,x,Ax,cx,rfl,hb1,hx,d0,ly,my,sx⟩:=lS s1 hlt
   have HX:=zH hx
   clear hx
   by_cases e1:12<x.length
   ·have e1':decide (12<(x.length:Int))=true:=by simp;omega
    refine' zq287
   have e1':decide (12<(x.length:Int))=false:=by simp;omega
   have HN':=zH (aC HN.o (fun x' hx'=>by rw[HX.o] at hx';injection hx' with hx';rw[<-hx'];omega))
   clear HX
   refine' zq256
  ·obtain rfl:k=l.length:=by omega
   have HM:Hid (∀x∈l,x.length<=12):=fun x hx=>by
    obtain ⟨j,hj⟩:=List.getElem?_of_mem hx
    exact HN.o j (List.getElem?_eq_some_iff.1 hj).1 x hj
   go_wp2_with fail
   go_ret
   exact ⟨⟨_,rfl,fun g=>⟨by simp at g;omega,HM.o⟩⟩,rfl⟩
theorem sF (l:List Int) (v:Value) (B:Nat) (w:World) (h:aI w B 1 aP v l):
  Calls Tryz.prog 51 #[v] w fun e w'=>(∃b,e= .returned (.bool b))/\w=w':=by
 obtain ⟨A1,c1,rfl,l1,m1,s1⟩:=h
 have m1':c1<=9223372036854775807:=by unfold maxLen at m1;omega
 go_enter Tryz.func51,Tryz.ntmps51
 go_wp2_with fail
 go_loopw[3] (fun i wr=>∃k:Nat,k<=l.length/\i= .int .i64 k/\w=wr) (fun i _=>l.length-(intOf i).toNat)
 case atStart=>exact ⟨0,Nat.zero_le _,rfl,rfl⟩
 case round=>
  obtain ⟨k,hk,rfl,rfl⟩:=hrel
  by_cases hlt:k<l.length
  ·obtain ⟨b1,o1,x,rfl,hb1,hx,wx,d0⟩:=s1.int hlt
   clear hx wx
   have hlt':(k:Int)<l.length:=by omega
   by_cases e1:x=1
   ·have q1:(x !=1)=false:=by simp[e1]
    clear e1
    go_wp2_with fail
    go_roundw
    case rel=>exact ⟨k+1,by omega,by go_num,trivial⟩
    case measure=>simp[intOf];omega
   have q1:(x !=1)=true:=by simp[e1]
   by_cases e2:x=2
   ·have q2:(x !=2)=false:=by simp[e2]
    clear e1 e2
    go_wp2_with fail
    go_roundw
    case rel=>exact ⟨k+1,by omega,by go_num,trivial⟩
    case measure=>simp[intOf];omega
   have q2:(x !=2)=true:=by simp[e2]
   clear e1 e2
   go_wp2_with fail
   go_ret
   exact ⟨⟨_,rfl⟩,rfl⟩
  ·obtain rfl:k=l.length:=by omega
   by_cases h0:0<l.length
   ·have q0:decide ((0:Int)<(l.length:Int))=true:=decide_eq_true (by omega)
    go_wp2_with fail
    go_ret
    exact ⟨⟨_,rfl⟩,rfl⟩
   ·have q0:decide ((0:Int)<(l.length:Int))=false:=decide_eq_false (by omega)
    go_wp2_with fail
    go_ret
    exact ⟨⟨_,rfl⟩,rfl⟩
theorem us (ts l:List Int) (v1 v2:Value) (B:Nat) (w:World) (h1:aI w B 1 aP v1 ts) (h2:aI w B 1 aP v2 l):
  Calls Tryz.prog 19 #[v1,v2] w fun e w'=>(∃b,e= .returned (.bool b)/\Hid (b=true->l.length=ts.length/\∀(j:Nat) x y,ts[j]? =some x->l[j]? =some y->x=2->y=0\/y=1))/\w=w':=by
 have HR:=zH (sF ts v1 B w h1)
 refine' zq72
 go_enter Tryz.func19,Tryz.ntmps19
 go_wp2_with fail
 refine HR.o.mono ?_
 rintro e w1 ⟨⟨b,rfl⟩,rfl⟩
 cases b
 ·refine' zq287
 by_cases hl:l.length=ts.length
 rotate_left 1
 ·have hl':((l.length:Int) !=(ts.length:Int))=true:=by rw[bne_iff_ne];omega
  clear hl
  refine' zq287
 have hl':((l.length:Int) !=(ts.length:Int))=false:=by rw[bne_eq_false_iff_eq];omega
 have HL:=zH hl
 have hle:l.length<=ts.length:=by omega
 clear hl
 go_wp2_with fail
 go_loopw[5] (fun i wr=>∃k:Nat,k<=l.length/\i= .int .i64 k/\Hid (∀j:Nat,j<k->∀x y,ts[j]? =some x->l[j]? =some y->x=2->y=0\/y=1)/\w=wr) (fun i _=>l.length-(intOf i).toNat)
 case atStart=>exact ⟨0,Nat.zero_le _,rfl,fun j h=>absurd h (by omega),rfl⟩
 case round=>
  obtain ⟨k,hk,rfl,HJ,rfl⟩:=hrel
  by_cases hlt:k<l.length
  ·obtain ⟨b1,o1,x,rfl,hb1,hx,wx,d0⟩:=s1.int (show k<ts.length by omega)
   obtain ⟨b2,o2,y,rfl,hb2,hy,wy,e0⟩:=s2.int hlt
   have HNX:Hid ((x=2->y=0\/y=1)->∀j:Nat,j<k+1->∀x y,ts[j]? =some x->l[j]? =some y->x=2->y=0\/y=1):=fun g j hj x' y' hx' hy'=>by
    rcases Nat.lt_or_ge j k with hjk|hjk
    ·exact HJ.o j hjk x' y' hx' hy'
    ·obtain rfl:j=k:=by omega
     rw[hx] at hx';rw[hy] at hy'
     injection hx' with hx';injection hy' with hy'
     subst hx';subst hy'
     exact g
   clear hx wx hy wy
   have hlt1:(k:Int)<l.length:=by omega
   have hlt2:(k:Int)<ts.length:=by omega
   by_cases e1:x=2
   ·have q1:(x==2)=true:=by simp[e1]
    clear e1
    by_cases e2:y=0
    ·have q2:(y !=0)=false:=by simp[e2]
     have HJ':=zH (HNX.o (fun _=> .inl e2))
     clear e2
     refine' zq257
    have q2:(y !=0)=true:=by simp[e2]
    by_cases e3:y=1
    ·have q3:(y !=1)=false:=by simp[e3]
     have HJ':=zH (HNX.o (fun _=> .inr e3))
     clear e2 e3
     refine' zq257
    have q3:(y !=1)=true:=by simp[e3]
    clear e2 e3
    refine' zq287
   ·have q1:(x==2)=false:=by simp[e1]
    have HJ':=zH (HNX.o (fun g=>absurd g e1))
    clear e1
    refine' zq257
  ·obtain rfl:k=l.length:=by omega
   go_wp2_with fail
   go_ret
   exact ⟨⟨true,rfl,fun _=>⟨HL.o,fun j x y hx hy=>HJ.o j (List.getElem?_eq_some_iff.1 hy).1 x y hx hy⟩⟩,rfl⟩
open Go.RowKit Vf
def rY (w:World) (l:List (List Int)) (v:Value):Prop:=aI w w.heap.size 1 (eF w w.heap.size) v l
section
variable {H:Type} {enc:TypeId × Value->H} {w:World} {spare:Nat->Bool} {held:Bool}
theorem AB (y:List Int) (cs:List Value) (h:eF w w.heap.size y cs):cs.length=1:=by obtain ⟨v,rfl,_⟩:=h;rfl
theorem yY (n:Nat) (cs:List Value) (x:DataW H × List MemPlace) (h:DataW.trod enc Tryz.prog w 0 spare held n 26 cs=some x):∃l,eF w w.heap.size l cs:=by
 rcases DataW.trod_slice Tryz.underlying26 h with ⟨hc,_⟩|⟨a',len',cap',elems,rest,k,hk,hc,_⟩
 all_goals
  subst hc
  obtain ⟨l,hl⟩:=lC h
  exact ⟨l,_,rfl,hl⟩
theorem uv {base:Nat} {v:Value} {d:DataW H} {p:List MemPlace} {r:Reach} (hv:Value.okWide Tryz.prog w r base 43 v) (h:DataW.Trod enc Tryz.prog w 0 spare held 43 v d p):∃l,rY w l v:=by
 obtain ⟨a,len,cap,rfl⟩:=WideShapes.okWide_slice Tryz.underlying43 hv
 obtain ⟨fuel,hf⟩:=h
 exact jT Tryz.underlying43 kx (by decide) fuel (fun n _ cs x h=>yY n cs x h) AB [] hf
end
end Go.Proofs.YtckognjamlckcaaGreatDoor
