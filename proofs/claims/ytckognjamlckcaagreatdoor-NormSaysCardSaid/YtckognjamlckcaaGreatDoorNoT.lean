/-
  norm.Of: what it comes to.
-/
import Derived.Test.YtckognjamlckcaaGreatDoorNoS
set_option maxHeartbeats 16000000
set_option maxRecDepth 100000
namespace Go.Proofs.YtckognjamlckcaaGreatDoor
open Go.RowKit Vf Fo
attribute [local go_sem ↓] Go.wp_at_zero Go.wp_at_succ
theorem ai.set6N {W:World} {b:Nat} {t:TypeId} {z0 z1 z2 z3 z4 z5:Value} (h:ai W b #[z0,z1,z2,z3,z4,z5] t) (x0 x1 x2 x3 x4 x5:Value):ai ((((((W.setCell ⟨b,0,none⟩ x0).setCell ⟨b,1,none⟩ x1).setCell ⟨b,2,none⟩ x2).setCell ⟨b,3,none⟩ x3).setCell ⟨b,4,none⟩ x4).setCell ⟨b,5,none⟩ x5) b #[x0,x1,x2,x3,x4,x5] t:=by
 have:=(((((h.set 0 x0).set 1 x1).set 2 x2).set 3 x3).set 4 x4).set 5 x5
 simpa using this
theorem ka {B b:Nat} {a W:World} (h:Below B a W) (hB:B<=b) (x0 x1 x2 x3 x4 x5:Value):Below B a ((((((W.setCell ⟨b,0,none⟩ x0).setCell ⟨b,1,none⟩ x1).setCell ⟨b,2,none⟩ x2).setCell ⟨b,3,none⟩ x3).setCell ⟨b,4,none⟩ x4).setCell ⟨b,5,none⟩ x5):=
 (((((h.setCell (p:=⟨b,0,none⟩) hB x0).setCell (p:=⟨b,1,none⟩) hB x1).setCell (p:=⟨b,2,none⟩) hB x2).setCell (p:=⟨b,3,none⟩) hB x3).setCell (p:=⟨b,4,none⟩) hB x4).setCell (p:=⟨b,5,none⟩) hB x5
theorem qn {l:List Int} {css:List (List Value)} (h:ep aP l css):css.flatten=al l/\∀n∈l,Wf n:=by
 induction l generalizing css with
 |nil=>exact ⟨by rw[List.eq_nil_of_length_eq_zero h.1];rfl,fun n hn=>by cases hn⟩
 |cons x l ih=>
  cases css with
  |nil=>have:=h.1;simp at this
  |cons cs css=>
   obtain ⟨h1,h2⟩:=h.2 0 x cs rfl rfl
   obtain ⟨h3,h4⟩:=ih (css:=css) ⟨by have:=h.1;simpa using this,fun i y ys hy hys=>h.2 (i+1) y ys (by simpa using hy) (by simpa using hys)⟩
   subst h1
   refine ⟨by rw[List.flatten_cons,h3];rfl,fun n hn=>?_⟩
   rcases List.mem_cons.1 hn with rfl|hn
   ·exact h2
   ·exact h4 n hn
def Ba (f:Fl) (w:World) (e:Ending) (w':World):Prop:=Below w.heap.size w w'/\
 ((¬bn f/\e= .returned (.tuple #[dp (.slice none 0 0) (.slice none 0 0) (.slice none 0 0) (.slice none 0 0) (.slice none 0 0) (.slice none 0 0),.int .i64 2]))\/
  (bn f/\(dr f).spent=true/\e= .returned (.tuple #[dp (.slice none 0 0) (.slice none 0 0) (.slice none 0 0) (.slice none 0 0) (.slice none 0 0) (.slice none 0 0),.int .i64 3]))\/
  (bn f/\(dr f).spent=false/\∃vw va vc vk vi vo,e= .returned (.tuple #[dp vw va vc vk vi vo,.int .i64 0])/\bQ w' w'.heap.size (aD f (dr f)) vw va vc vk vi vo))
theorem tM {w:World} {f:Fl} {K:Kw} {vw vd vi vo:Value} (h:cS w w.heap.size f vw vd vi vo) (hsz:∀d∈f.defs,ay d.2<=1000000) (hsum:(f.defs.map (fun d=>8*ay d.2+1)).sum<=800000000)
  (hK:∀w0,Below w.heap.size w w0->fx K w0) (hN:bn f->∀w0 D vi vo,fx K w0->∀d∈f.defs,jQ f K w0 D vi vo d.2) (hO:bn f->∀d∈f.defs,nG K d.2 (aa f.fm d.1)):
  Calls Tryz.prog 11 #[eZ vw vd vi vo] w (Ba f w):=by
 have HN:=zH hN
 have HO:=zH hO
 have HKL:=zH hK
 have HSM:=zH hsum
 have b2:Below w.heap.size w ((w.alloc (.cells #[vw,vd,vi,vo] 33)).alloc (.cells #[.slice none 0 0,.slice none 0 0,.slice none 0 0,.slice none 0 0,.slice none 0 0,.slice none 0 0] 28)):=bE
 have rF:=(ai.new w #[vw,vd,vi,vo] 33).alloc (.cells #[.slice none 0 0,.slice none 0 0,.slice none 0 0,.slice none 0 0,.slice none 0 0,.slice none 0 0] 28)
 have rZ:=dw w (.cells #[vw,vd,vi,vo] 33) #[.slice none 0 0,.slice none 0 0,.slice none 0 0,.slice none 0 0,.slice none 0 0,.slice none 0 0] 28
 have HFL:=zH (fun W (hW:Below w.heap.size w W)=>h.next hW)
 have HFB:=zH (fun W (hW:Below w.heap.size w W)=>h.below hW)
 have HFR:=zH (uh (HFL.o _ b2) hsz)
 clear h hsz hK hN hO hsum
 go_enter Tryz.func11,Tryz.ntmps11
 go_upto_region 1 with (fail)
 generalize (w.alloc (.cells #[vw,vd,vi,vo] 33)).alloc (.cells #[.slice none 0 0,.slice none 0 0,.slice none 0 0,.slice none 0 0,.slice none 0 0,.slice none 0 0] 28)=w2 at*
 have hs2:=b2.size
 have hFl:=rF.lt
 have hZl:=rZ.lt
 obtain ⟨x0,x1,x2,x3⟩:=rF.four'
 by_cases hok:bn f
 rotate_left 1
 ·rw[ab hok] at HFR
  have HOK:=zH hok
  clear hok
  go_wp2_with fail
  (with_reducible refine HFR.o.mono ?_)
  rintro r w3 ⟨rfl,hb3⟩
  have rZ3:=rZ.below hb3 rZ.lt
  obtain ⟨y0,y1,y2,y3,y4,y5⟩:=rZ3.six'
  have z:=rZ3.frozen
  have z0:=z 0
  have z1:=z 1
  have z2:=z 2
  have z3:=z 3
  have z4:=z 4
  have z5:=z 5
  clear z
  have HB3:=zH (b2.trans (hb3.mono hs2))
  have HR3:=zH rZ3
  clear hb3 rZ3 rF rZ
  go_wp2_with fail
  exact bodyPost_ret (AF (p:=2) (q:=3) (u:= .int .i64 2) rfl Tryz.underlying28 rfl (by kernel_rfl) rfl rfl (HR3.o.set6N _ _ _ _ _ _)) rfl ⟨ka HB3.o (by omega) _ _ _ _ _ _,.inl ⟨HOK.o,rfl⟩⟩
 rw[aq hok] at HFR
 have HOK:=zH hok
 clear hok
 go_wp2_with fail
 (with_reducible refine HFR.o.mono ?_)
 rintro r w3 ⟨rfl,hb3⟩
 have rF3:=rF.below hb3 rF.lt
 have rZ3:=rZ.below hb3 rZ.lt
 have hs3:=hb3.size
 clear rF rZ x0 x1 x2 x3
 obtain ⟨x0,x1,x2,x3⟩:=rF3.four'
 have hmm:= @run_makeMap Tryz.prog
 obtain ⟨Aw,cw,hvw,lw,mw,_⟩:=(HFB.o _ b2).wires
 subst hvw
 go_upto_region 4 with (fail)
 have b4:Below w3.heap.size w3 ((w3.alloc (.map #[] 0)).alloc (.cells #[.slice none 0 0,.slice none 0 0,.slice none 0 0,.slice none 0 0,.slice none 0 0,.slice none 0 0,.map (some w3.heap.size),.bool false] 82)):=bE
 have rD4:=dw w3 (.map #[] 0) #[.slice none 0 0,.slice none 0 0,.slice none 0 0,.slice none 0 0,.slice none 0 0,.slice none 0 0,.map (some w3.heap.size),.bool false] 82
 have HMP:Hid (World.ownsMap ((w3.alloc (.map #[] 0)).alloc (.cells #[.slice none 0 0,.slice none 0 0,.slice none 0 0,.slice none 0 0,.slice none 0 0,.slice none 0 0,.map (some w3.heap.size),.bool false] 82)) Tryz.prog 9 (plainElem (H:=Unit) Tryz.prog 3) w3.heap.size 0 (.map [])):=(World.ownsMap_made w3 _ _ _).alloc _
 generalize hw4:(w3.alloc (.map #[] 0)).alloc (.cells #[.slice none 0 0,.slice none 0 0,.slice none 0 0,.slice none 0 0,.slice none 0 0,.slice none 0 0,.map (some w3.heap.size),.bool false] 82)=w4 at*
 clear hw4 hmm
 have hs4:=b4.size
 have hs4lt:w3.heap.size<w4.heap.size:=by have:=rD4.lt;omega
 have HB3:=zH (b2.trans (hb3.mono hs2))
 have hB3:=HB3.o.size
 have rF4:=rF3.below (b4.mono (Nat.le_refl _)) rF3.lt
 have hF3l:=rF3.lt
 have hZ3l:=rZ3.lt
 have HZ4:=zH (rZ3.below b4 hZ3l)
 have hD4l:=rD4.lt
 have HB4:=zH (HB3.o.trans (b4.mono hB3))
 have hB4:=HB4.o.size
 have HK4:Hid (∀W,Below w4.heap.size w4 W->W.cell? ⟨w3.heap.size+1,0,none⟩=some (.slice none 0 0)/\W.cell? ⟨w.heap.size,0,none⟩=some (.slice Aw f.wires.length cw)):=fun W hW=>⟨((rD4.below hW hD4l).cell 0).trans rfl,((rF4.below hW rF4.lt).cell 0).trans rfl⟩
 have HSW:Hid (∀W,Below w4.heap.size w4 W->Sl W w.heap.size 2 (fu W w.heap.size) Aw f.wires):=fun W hW=>by
  obtain ⟨A',c',he,_,_,s'⟩:=(HFB.o _ (HB4.o.trans (hW.mono hB4))).wires
  injection he with he1
  subst he1
  exact s'
 obtain ⟨i1,hi1,hy0,hy1,hy2⟩:=info_parts qK
 have hwl:f.wires.length<=400:=HOK.o.1.2.2
 clear b2 hb3 x0 x1 x2 x3 rF3 rZ3 HFR
 refine eN 12 (S:=fun W=>W.cell? ⟨w3.heap.size+1,0,none⟩=some (.slice none 0 0)/\W.cell? ⟨w.heap.size,0,none⟩=some (.slice Aw f.wires.length cw)) (by kernel_rfl) ?_ (fun hHeld=>?_)
 ·(try dsimp only);(first|exact HS13.o|(with_reducible exact HK4.o _ bE))
 refine cf 0 (some 15) rfl ?_
 refine cf 1 (some 16) rfl ?_
 refine cf 2 (some 17) rfl ?_
 refine cf 3 (some 18) rfl ?_
 refine cf 4 (some 19) rfl ?_
 refine cf 5 (some 20) rfl ?_
 refine cf 6 (some 21) rfl ?_
 refine cf 7 (some 22) rfl ?_
 refine eD 8 (some 23) rfl (fun KK hKK=>?_)
 (rw[if_pos (by kernel_rfl)];refine iX (.tmp 20) (.tmp 22) 22 rfl w3.heap.size 52 i1 (.agg #[.int .i64 0,.slice none 0 0]) 2 32 Tryz.underlying22 hi1 hy0 hy1 hy2 rfl (by decide) (.slice none 0 0) 0 [] rfl (World.ownsRow_nil _ _ _ _) Aw f.wires cw rfl (HSW.o _ bE) (fun x cs g=>by obtain ⟨v,rfl,_,A9,c9,rfl,_⟩:=g;exact ⟨rfl,by intro u hu;simp at hu;rcases hu with rfl|rfl<;>rfl⟩) (by unfold maxLen;omega) (by omega) (by first|omega|(simp;omega)) ?_;intro v13 w13 css ho13 ha13 hb13 hg13;(have rD13:=(rD4.below (bE:Below w4.heap.size w4 _) hD4l).grownE hg13 (by intro e;cases e));(have rF13:=(rF4.below (bE:Below w4.heap.size w4 _) rF4.lt).below hb13 hF3l);(have q13:=(rD13.cell 0).trans (show _=some (Value.slice none 0 0) from rfl));(have z13:=rD13.frozen 0);(have l13:=rD13.lt);(have HS13:=zH (And.intro q13 rF13.four'.1));(have HA13:=zH (And.intro ho13 ha13));(have HB13:=zH hb13);(obtain ⟨A13,c13,hv13',_⟩:=bH ho13);subst hv13';clear ho13 ha13)
 refine' zq162
 refine eD 9 (some 24) rfl (fun KK hKK=>?_)
 go_simp
 refine' zq162
 refine eD 10 (some 25) rfl (fun KK hKK=>?_)
 go_simp
 refine' zq162
 refine eD 11 (some 26) rfl (fun KK hKK=>?_)
 go_simp
 refine' zq162
 refine' zq89
 simp only[Nat.zero_add,List.nil_append] at HA13⊢
 have rD5:ai (w13.setCell ⟨w3.heap.size+1,0,none⟩ (.slice A13 f.wires.length c13)) (w3.heap.size+1) #[.slice A13 f.wires.length c13,.slice none 0 0,.slice none 0 0,.slice none 0 0,.slice none 0 0,.slice none 0 0,.map (some w3.heap.size),.bool false] 82:=by
  have:=rD13.set 0 (.slice A13 f.wires.length c13)
  simpa using this
 have rF5:=rF13.far (p:=⟨w3.heap.size+1,0,none⟩) (by dsimp only;omega) (.slice A13 f.wires.length c13)
 have HB5:Hid (Below w3.heap.size w4 (w13.setCell ⟨w3.heap.size+1,0,none⟩ (.slice A13 f.wires.length c13))):=(Below.trans ((Below.refl _ w4).drew) HB13.o).setCell (p:=⟨w3.heap.size+1,0,none⟩) (by dsimp only;omega) _
 have HO5:Hid ((w13.setCell ⟨w3.heap.size+1,0,none⟩ (.slice A13 f.wires.length c13)).ownsRow w3.heap.size 52 2 (.slice A13 f.wires.length c13) f.wires.length css.flatten):=kQ HA13.o.1 rD13 (by decide)
 have HM5:Hid ((w13.setCell ⟨w3.heap.size+1,0,none⟩ (.slice A13 f.wires.length c13)).heap[w3.heap.size]? =w4.heap[w3.heap.size]?):=(Below.heap_setCell w13 _ _ _ (by dsimp only;omega)).trans (hg13.block w3.heap.size hs4lt (by intro e;cases e))
 clear hb13 hg13 rD13 rF13 q13 z13 l13 HS13 HB13 hHeld rD4 rF4 HK4
 generalize w13.setCell ⟨w3.heap.size+1,0,none⟩ (.slice A13 f.wires.length c13)=w5 at*
 have hD5l:=rD5.lt
 have hs35:w3.heap.size<=w5.heap.size:=by omega
 obtain ⟨Ai,ci,hvi,li,mi,_⟩:=(HFB.o _ HB3.o).ins
 obtain ⟨Ao,co,hvo,lo,mo,_⟩:=(HFB.o _ HB3.o).outs
 subst hvi
 subst hvo
 obtain ⟨i2,hi2,hx0,hx1,hx2⟩:=info_parts mJ
 have hil:f.ins.length<=8:=HOK.o.2.1.2.2
 have hol:f.outs.length<=8:=HOK.o.2.2.1.2.2
 have HSI:Hid (∀W,Below w3.heap.size w5 W->Sl W w.heap.size 1 aP Ai f.ins/\Sl W w.heap.size 1 aP Ao f.outs):=fun W hW=>by
  have hb:=HFB.o W (HB4.o.trans ((HB5.o.trans hW).mono hB3))
  obtain ⟨A',c',he,_,_,s'⟩:=hb.ins
  obtain ⟨A2,c2,he2,_,_,s2⟩:=hb.outs
  injection he with he1
  injection he2 with he3
  subst he1
  subst he3
  exact ⟨s',s2⟩
 have HKF:Hid (∀W,Below w3.heap.size w5 W->W.cell? ⟨w.heap.size,2,none⟩=some (.slice Ai f.ins.length ci)/\W.cell? ⟨w.heap.size,3,none⟩=some (.slice Ao f.outs.length co)):=fun W hW=>⟨((rF5.below hW hF3l).cell 2).trans rfl,((rF5.below hW hF3l).cell 3).trans rfl⟩
 have HK5:Hid (∀W,Below w5.heap.size w5 W->(W.cell? ⟨w.heap.size,2,none⟩=some (.slice Ai f.ins.length ci)/\W.cell? ⟨w.heap.size,3,none⟩=some (.slice Ao f.outs.length co))/\W.cell? ⟨w3.heap.size+1,4,none⟩=some (.slice none 0 0)/\W.cell? ⟨w3.heap.size+1,5,none⟩=some (.slice none 0 0)):=fun W hW=>⟨HKF.o W (hW.mono hs35),((rD5.below hW hD5l).cell 4).trans rfl,((rD5.below hW hD5l).cell 5).trans rfl⟩
 go_upto_region 5 with (fail)
 refine sM [21,25] (S0:=fun W=>W.cell? ⟨w.heap.size,2,none⟩=some (.slice Ai f.ins.length ci)/\W.cell? ⟨w.heap.size,3,none⟩=some (.slice Ao f.outs.length co)) (S1:=fun W=>W.cell? ⟨w3.heap.size+1,4,none⟩=some (.slice none 0 0)/\W.cell? ⟨w3.heap.size+1,5,none⟩=some (.slice none 0 0)) (by kernel_rfl) ⟨?_,?_⟩ (fun hHeld=>?_)
 ·(try dsimp only);(first|(with_reducible exact (HK5.o _ bE).1)|(with_reducible exact (HK5.o _ bE).2))
 ·(try dsimp only);(first|(with_reducible exact (HK5.o _ bE).1)|(with_reducible exact (HK5.o _ bE).2))
 refine iC 0 (some 27) rfl ?_
 refine iC 1 (some 28) rfl ?_
 refine iC 2 (some 29) rfl ?_
 refine iC 3 (some 30) rfl ?_
 refine iC 4 (some 31) rfl ?_
 refine iC 5 (some 32) rfl ?_
 refine DW 6 (some 33) rfl ?_
 refine iC 7 (some 34) rfl ?_
 refine iC 8 (some 35) rfl ?_
 refine iC 10 (some 37) rfl ?_
 refine iC 11 (some 38) rfl ?_
 refine iC 12 (some 39) rfl ?_
 refine iC 13 (some 40) rfl ?_
 refine DW 14 (some 41) rfl ?_
 refine iC 15 (some 42) rfl ?_
 refine iC 16 (some 43) rfl ?_
 refine Db 9 (some 36) rfl (fun KK hKK=>?_)
 refine' zq17
 refine Db 17 (some 44) rfl (fun KK hKK=>?_)
 refine' zq17
 refine iC 18 (some 45) rfl ?_
 refine iC 19 (some 46) rfl ?_
 refine iC 20 (some 47) rfl ?_
 refine DS 21 none rfl (fun KK hKK=>?_)
 refine' zq265
 refine CO 22 (some 48) rfl ?_
 refine CO 23 (some 49) rfl ?_
 refine CO 24 (some 50) rfl ?_
 refine DS 25 none rfl (fun KK hKK=>?_)
 refine' zq265
 refine sL (by kernel_rfl) ?_ _
 have rD6:ai ((w22.setCell ⟨w3.heap.size+1,4,none⟩ (.slice A21 f.ins.length c21)).setCell ⟨w3.heap.size+1,5,none⟩ (.slice A22 f.outs.length c22)) (w3.heap.size+1) #[.slice A13 f.wires.length c13,.slice none 0 0,.slice none 0 0,.slice none 0 0,.slice A21 f.ins.length c21,.slice A22 f.outs.length c22,.map (some w3.heap.size),.bool false] 82:=by
  have:=(rD22.set 4 (.slice A21 f.ins.length c21)).set 5 (.slice A22 f.outs.length c22)
  simpa using this
 have hud:ae (fun k=>k=w3.heap.size+1) w22 ((w22.setCell ⟨w3.heap.size+1,4,none⟩ (.slice A21 f.ins.length c21)).setCell ⟨w3.heap.size+1,5,none⟩ (.slice A22 f.outs.length c22)):=ae.setCell (X:=fun k=>k=w3.heap.size+1) (p:=⟨w3.heap.size+1,5,none⟩) (ae.setCell (X:=fun k=>k=w3.heap.size+1) (p:=⟨w3.heap.size+1,4,none⟩) (ae.refl _ _) rfl _) rfl _
 generalize (w22.setCell ⟨w3.heap.size+1,4,none⟩ (.slice A21 f.ins.length c21)).setCell ⟨w3.heap.size+1,5,none⟩ (.slice A22 f.outs.length c22)=w6 at*
 clear hHeld q214 q215 q224 q225 z22 z4 z5 HS21 HS22 HK5
 have HB6:Hid (Below w3.heap.size w5 w6):=hB22.trans (hud.below (fun k e=>by omega) (by have:=hB22.size;omega))
 have hE:∀{base sz n:Nat} {e:TypeId} {v:Value} {xs:List Value},w5.ownsRow base e sz v n xs->w21.ownsRow base e sz v n xs:=fun g=>nA (aG g ((Below.refl _ w5).drew)) HG21.o (fun k hk e=>by cases e)
 have hE2:∀{base sz n:Nat} {e:TypeId} {v:Value} {xs:List Value},w21.ownsRow base e sz v n xs->w22.ownsRow base e sz v n xs:=fun g=>nA g HG22.o (fun k hk e=>by cases e)
 have hE3:∀{base sz n:Nat} {e:TypeId} {v:Value} {xs:List Value},w22.ownsRow base e sz v n xs->82≠e->w6.ownsRow base e sz v n xs:=fun g ht=>aN g hud (fun k hk e=>bh g rD22 ht (e▸hk))
 have HI6:=zH (hE3 (hE2 HO21.o) (by decide))
 have HO6:=zH (hE3 HO22.o (by decide))
 have hw6:=hE3 (hE2 (hE HO5.o)) (by decide)
 have hm6:w6.heap[w3.heap.size]? =w4.heap[w3.heap.size]? :=by
  refine (hud.block _ (by have:=hB22.size;omega) (by omega)).trans ((HG22.o.block _ (by have:=hB21.size;omega) (by intro e;cases e)).trans ((HG21.o.block _ (by show _<w5.heap.size;omega) (by intro e;cases e)).trans HM5.o))
 have hBA:Below w.heap.size w4 w6:=(HB5.o.trans HB6.o).mono hB3
 have HMK:Hid (aF K w3 (w3.heap.size+1) (.slice A21 f.ins.length c21) (.slice A22 f.outs.length c22) w6 ⟨.slice A13 f.wires.length c13,.slice none 0 0,.slice none 0 0,.slice none 0 0,w3.heap.size⟩ (dL f)):=by
  refine ⟨by omega,b4.trans (HB5.o.trans HB6.o),rD6,⟨css,hw6,(HA13.o.2.mono (fun x _ cs g=>Dw (B:=w.heap.size) (by omega) ?_ (by have:=HB6.o.size;omega) (g.keep (fun p u hp hc=>(hBA.cell hp).trans hc) (Nat.le_refl _))))⟩,World.ownsRow_nil _ _ _ _,World.ownsRow_nil _ _ _ _,World.ownsRow_nil _ _ _ _,(fun a g=>by cases g),(fun a g=>by cases g),(fun a g=>by cases g),?_,Nat.le_refl _,by show f.wires.length<=1600;omega,Nat.zero_le _,Nat.le_refl _⟩
  ·intro k hk
   rcases hk with g|g|g|g|g
   ·exact Nat.le_trans hB3 (hw6.lt k g).1
   ·cases g
   ·cases g
   ·cases g
   ·dsimp only at g;omega
  ·refine dh.none (q:=⟨.slice A13 f.wires.length c13,.slice none 0 0,.slice none 0 0,.slice none 0 0,w3.heap.size⟩) ?_
   obtain ⟨es,clock,g1,g2⟩:=HMP.o
   exact ⟨es,clock,hm6.trans g1,g2⟩
 obtain ⟨Ad,cd,hvd,ld,md,sd3⟩:=(HFB.o _ HB3.o).defs
 subst hvd
 obtain ⟨_,cw',hew,_,_,sw3⟩:=(HFB.o _ HB3.o).wires
 injection hew with hew1 hew2 hew3
 subst hew1
 subst hew3
 refine' zq184
 have HR6:=zH (HZ4.o.below (HB5.o.trans HB6.o) hZ3l)
 have HF6:=zH (rF5.below HB6.o hF3l)
 have hB6:=HB6.o.size
 have HLAW:=zH (HKL.o w3 HB3.o)
 have HPL:Hid (∀d∈f.defs,aO f d.2):=fun d hd=>(HOK.o.2.2.2.2.1 d hd).1
 have HWI:=zH (fun n hn=>HW21.o n hn)
 clear rD6 hud rF5 rD5 rD22 rD21 hE hE2 hE3 hw6 hm6 hBA HG21 HG22 HO21 HO22 hB21 hB22 l21 l22
 have f6:=HF6.o.four'
 obtain ⟨x0,x1,x2,x3⟩:=f6
 go_wp2_with fail
 clear x0 x1 x2 x3
 go_loopw[54] (fun i wr=>∃(k:Nat) (q:dH),k<=f.defs.length/\i= .int .i64 k/\Hid (aF K w3 (w3.heap.size+1) (.slice A21 f.ins.length c21) (.slice A22 f.outs.length c22) wr q (bv f k))/\Hid (wr.ownsRow w3.heap.size 3 1 (.slice A21 f.ins.length c21) f.ins.length (al f.ins))/\Hid (wr.ownsRow w3.heap.size 3 1 (.slice A22 f.outs.length c22) f.outs.length (al f.outs))/\Hid (Below w3.heap.size w6 wr)) (fun i _=>f.defs.length-(intOf i).toNat)
 case atStart=>exact ⟨0,_,Nat.zero_le _,rfl,HMK,HI6,HO6,Below.refl _ _⟩
 case round=>
  clear HMK HI6 HO6
  obtain ⟨k,q,hk,rfl,HMK,HI,HO',HBr⟩:=hrel
  have hbr:=HBr.o
  have hsr:=hbr.size
  obtain ⟨gs,hwk,hfk⟩:=wH HPL.o (by have:=HOK.o.1.2.1;omega) k hk
  by_cases hlt:k<f.defs.length
  rotate_left 1
  ·obtain rfl:k=f.defs.length:=by omega
   rw[ei] at HMK
   have HRZ:=zH (HR6.o.below hbr (by omega))
   obtain ⟨d0,d1,d2,d3,d4,d5,d6,d7⟩:=HMK.o.cells
   obtain ⟨r0,r1,r2,r3,r4,r5⟩:=HRZ.o.six'
   have y:=HRZ.o.frozen
   have y0:=y 0
   have y1:=y 1
   have y2:=y 2
   have y3:=y 3
   have y4:=y 4
   have y5:=y 5
   clear y
   have HBZ:=zH (HB3.o.trans (HMK.o.bel.mono hB3))
   cases hsp:(dr f).spent with
   |true=>
    rw[hsp] at d7
    have HSPE:=zH hsp
    clear hsp gs hwk hfk
    go_wp2_with fail
    exact bodyPost_ret (AF (p:=2) (q:=3) (u:= .int .i64 3) rfl Tryz.underlying28 rfl (by kernel_rfl) rfl rfl (HRZ.o.set6N _ _ _ _ _ _)) rfl ⟨ka HBZ.o (by omega) _ _ _ _ _ _,.inr (.inl ⟨HOK.o,HSPE.o,rfl⟩)⟩
   |false=>
    rw[hsp] at d7
    have HSPE:=zH hsp
    have HUZ:Hid (∀x0 x1 x2 x3 x4 x5,ae (fun k=>k=w.heap.size+1) wr ((((((wr.setCell ⟨w.heap.size+1,0,none⟩ x0).setCell ⟨w.heap.size+1,1,none⟩ x1).setCell ⟨w.heap.size+1,2,none⟩ x2).setCell ⟨w.heap.size+1,3,none⟩ x3).setCell ⟨w.heap.size+1,4,none⟩ x4).setCell ⟨w.heap.size+1,5,none⟩ x5)):=fun x0 x1 x2 x3 x4 x5=>
     ae.setCell (p:=⟨w.heap.size+1,5,none⟩) (ae.setCell (p:=⟨w.heap.size+1,4,none⟩) (ae.setCell (p:=⟨w.heap.size+1,3,none⟩) (ae.setCell (p:=⟨w.heap.size+1,2,none⟩) (ae.setCell (p:=⟨w.heap.size+1,1,none⟩) (ae.setCell (X:=fun k=>k=w.heap.size+1) (p:=⟨w.heap.size+1,0,none⟩) (ae.refl _ _) rfl _) rfl _) rfl _) rfl _) rfl _) rfl _
    obtain ⟨qw,qa,qc,qk,qP⟩:=q
    obtain ⟨css',how,_⟩:=HMK.o.ow
    obtain ⟨a1,c1,hq1,_⟩:=bH how
    obtain ⟨a2,c2,hq2,_⟩:=bH HMK.o.oa
    obtain ⟨a3,c3,hq3,_⟩:=bH HMK.o.oc
    obtain ⟨a4,c4,hq4,_⟩:=bH HMK.o.ok
    dsimp only at d0 d1 d2 d3 d6 hq1 hq2 hq3 hq4
    subst hq1
    subst hq2
    subst hq3
    subst hq4
    clear how
    have HFF:=zH (fun x0 x1 x2 x3 x4 x5=>HMK.o.form (Z:=w.heap.size+1) (by omega) HRZ.o (fun i n=>by
     rcases i with _|_|_|_|_|_|i<;>simp) (HUZ.o x0 x1 x2 x3 x4 x5) HI.o HW21.o HO'.o HW22.o)
    clear hsp gs hwk hfk
    go_wp2_with fail
    exact bodyPost_ret (AF (p:=2) (q:=3) (u:= .int .i64 0) rfl Tryz.underlying28 rfl (by kernel_rfl) rfl rfl (HRZ.o.set6N _ _ _ _ _ _)) rfl ⟨ka HBZ.o (by omega) _ _ _ _ _ _,.inr (.inr ⟨HOK.o,HSPE.o,_,_,_,_,_,_,rfl,HFF.o _ _ _ _ _ _⟩)⟩
  obtain ⟨b,off,⟨dd,ex⟩,Ae,ce,hAd,hbB,hx,wxd,hok,lg,mg,hxs,d0,d1,d2,d3,d4,d5,d6⟩:=sd3.df hlt
  subst hAd
  dsimp only at hx wxd hok lg hxs d0 d1 d2 d3 d4 d5 d6
  have hdm:=List.mem_of_getElem? hx
  have hdw:ak f.fm dd:=pM HOK.o.2.2.2.1 _ hdm
  obtain ⟨m,rfl⟩:=Int.eq_ofNat_of_zero_le hdw.1
  have hm:m<f.wires.length:=by have h9:(m:Int)<f.wires.length:=hdw.2;omega
  have hm':(m:Int)<f.wires.length:=by omega
  obtain ⟨bw,ow,x,Ag,cg,hAw,hbw,hxw,wx,e0,e1,lx,mx,sx⟩:=sw3.wr hm
  subst hAw
  have hcl:aa f.fm (m:Int)=x.clock:=by unfold aa;rw[bW (f:=f.fm) hxw]
  have hb3r:Below w3.heap.size w3 wr:=HMK.o.bel
  have hckl:x.clock.length<=1600:=by
   have hq:=jr (f:=f.fm) ⟨HOK.o.1.1,HOK.o.1.2.1,by show f.wires.length<=1600;omega⟩ hdw
   rw[hcl] at hq
   exact hq
  rw[<-hcl] at e1 lx sx hckl
  have HCK:=zH (DE (D:=w3.heap.size+1) (q:=q) (W:=wr) (B:=w.heap.size) (v:= .slice Ag (aa f.fm (m:Int)).length cg) (c:=aa f.fm (m:Int)) (by omega) (fun k hk=>by have:=(HMK.o.ownq hk).1;omega) (by omega) ⟨_,_,rfl,lx,mx,sx.below (hb3r.mono hB3)⟩)
  have HSUM:Hid ((bv f k).acts.length+(bv f k).keeps.length+8*ay ex+1<=800000000):=by
   have:=qx (fun d:Int × Ex=>8*ay d.2+1) f.defs k _ hx
   have h2:=HSM.o
   dsimp only at this
   show _<=_
   omega
  have hdo:=HOK.o.2.2.2.2.1 _ hdm
  have HPR:Hid (fy f K ex (aa f.fm (m:Int)) (bv f k)):=⟨hdo.2.2.2.1,HO.o HOK.o _ hdm,hwk,gs,by have:=HSUM.o;omega,by have:ax ex<=30:=hdo.2.1;omega⟩
  have HSP:=zH (fB (f:=f) ex (HPL.o _ hdm) (aa f.fm (m:Int)) _ gs hwk)
  have HNX:Hid (bv f (k+1)=(ah ex (aa f.fm (m:Int)) (bv f k)).2.act ⟨3,m,(ah ex (aa f.fm (m:Int)) (bv f k)).1,0,0,0⟩):=gm hx
  have HX3:Hid (aM w3 w3.heap.size Ae ex.args):=hxs.more hB3
  have b1:Below wr.heap.size wr (wr.alloc (.cells (gh ((m:Int),ex) Ae ce) 77)):=bE
  have rX:=ai.new wr (gh ((m:Int),ex) Ae ce) 77
  have HCE:=zH (fun W' (hW:Below wr.heap.size wr W')=>HN.o HOK.o w3 _ _ _ HLAW.o _ hdm Ae ce W' q (bv f k) _ _ (HMK.o.below hW) (HCK.o.fr (aB.of_below hW)) HPR.o hok lg mg HX3.o)
  have HST:Hid (∀q' W',aB (w3.heap.size+1) q (wr.alloc (.cells (gh ((m:Int),ex) Ae ce) 77)) q' W'->ai W' wr.heap.size (gh ((m:Int),ex) Ae ce) 77):=fun q' W' mm=>mm.row rX (fun e=>by have:=HMK.o.row.lt;omega) (fun g=>by have:=(HMK.o.ownq g).2.1;omega)
  have HMR:Hid (aB (w3.heap.size+1) q wr q (wr.alloc (.cells (gh ((m:Int),ex) Ae ce) 77))):=aB.of_below b1
  have lX:=rX.lt
  generalize (ah ex (aa f.fm (m:Int)) (bv f k))=p at*
  replace d0:=(hb3r.cell (p:=⟨b,off+k*7,none⟩) (by dsimp only;omega)).trans d0
  replace d1:=(hb3r.cell (p:=⟨b,off+k*7+1,none⟩) (by dsimp only;omega)).trans d1
  replace d2:=(hb3r.cell (p:=⟨b,off+k*7+2,none⟩) (by dsimp only;omega)).trans d2
  replace d3:=(hb3r.cell (p:=⟨b,off+k*7+3,none⟩) (by dsimp only;omega)).trans d3
  replace d4:=(hb3r.cell (p:=⟨b,off+k*7+4,none⟩) (by dsimp only;omega)).trans d4
  replace d5:=(hb3r.cell (p:=⟨b,off+k*7+5,none⟩) (by dsimp only;omega)).trans d5
  replace d6:=(hb3r.cell (p:=⟨b,off+k*7+6,none⟩) (by dsimp only;omega)).trans d6
  replace e1:=(hb3r.cell (p:=⟨bw,ow+m*2+1,none⟩) (by dsimp only;omega)).trans e1
  have g0:=(HF6.o.below hbr (by omega)).four'.1
  have HC3:Hid (∀W',Below w3.heap.size wr W'->W'.cell? ⟨w.heap.size,0,none⟩=some (.slice (some ⟨bw,ow,none⟩) f.wires.length cw)/\W'.cell? ⟨bw,ow+m*2+1,none⟩=some (.slice Ag (aa f.fm (m:Int)).length cg)):=fun W' hW=>⟨(hW.cell (p:=⟨w.heap.size,0,none⟩) (by dsimp only;omega)).trans g0,(hW.cell (p:=⟨bw,ow+m*2+1,none⟩) (by dsimp only;omega)).trans e1⟩
  have hl3:w3.heap.size<=wr.heap.size:=hb3r.size
  have HUB:Hid (∀q' W',aB (w3.heap.size+1) q wr q' W'->Below w3.heap.size wr W'):=fun q' W' mm=>mm.upd.below (fun k hk=>by
   rcases hk with e|e
   ·omega
   ·exact (HMK.o.ownq e).1) hl3
  clear hx wxd hok hxs sd3 hdm hdw hxw wx e0 sx sw3 hcl gs hwk hfk hdo hckl e1 g0 hHeld
  go_upto_region 9 with (fail)
  clear d0 d1 d2 d3 d4 d5 d6
  generalize hw7:wr.alloc (.cells (gh ((m:Int),ex) Ae ce) 77)=w7 at*
  clear hw7
  have hs7:=b1.size
  generalize hbd:wr.heap.size=bd at*
  have HK7:Hid (∀q' W',aB (w3.heap.size+1) q w7 q' W'->W'.cell? ⟨w.heap.size,0,none⟩=some (.slice (some ⟨bw,ow,none⟩) f.wires.length cw)/\W'.cell? ⟨bw,ow+m*2+1,none⟩=some (.slice Ag (aa f.fm (m:Int)).length cg)/\W'.cell? ⟨bd,0,none⟩=some (.int .i64 (m:Int))/\W'.cell? ⟨bd,1,none⟩=some (.int .i64 ex.op)/\W'.cell? ⟨bd,2,none⟩=some (.string ex.name)/\W'.cell? ⟨bd,3,none⟩=some (.int .i64 ex.n)/\W'.cell? ⟨bd,4,none⟩=some (.slice Ae ex.args.length ce)/\W'.cell? ⟨bd,5,none⟩=some (.int .i64 ex.line)/\W'.cell? ⟨bd,6,none⟩=some (.int .i64 ex.col)):=fun q' W' mm=>by
   obtain ⟨g1,g2⟩:=HC3.o W' (HUB.o q' W' (HMR.o.trans mm))
   obtain ⟨h0,h1,h2,h3,h4,h5,h6⟩:=(HST.o q' W' mm).seven.1
   exact ⟨g1,g2,h0,h1,h2,h3,h4,h5,h6⟩
  refine wp_region_held_drew (S:=fun W=>W.cell? ⟨w.heap.size,0,none⟩=some (.slice (some ⟨bw,ow,none⟩) f.wires.length cw)/\W.cell? ⟨bw,ow+m*2+1,none⟩=some (.slice Ag (aa f.fm (m:Int)).length cg)/\W.cell? ⟨bd,0,none⟩=some (.int .i64 (m:Int))/\W.cell? ⟨bd,1,none⟩=some (.int .i64 ex.op)/\W.cell? ⟨bd,2,none⟩=some (.string ex.name)/\W.cell? ⟨bd,3,none⟩=some (.int .i64 ex.n)/\W.cell? ⟨bd,4,none⟩=some (.slice Ae ex.args.length ce)/\W.cell? ⟨bd,5,none⟩=some (.int .i64 ex.line)/\W.cell? ⟨bd,6,none⟩=some (.int .i64 ex.col)) (by kernel_rfl) ?_ (fun hHeld=>?_)
  ·(try dsimp only);(first|(with_reducible exact HK8.o _ bE)|(with_reducible exact HK7.o _ _ (aB.of_below bE)))
  refine tk 0 (some 58) rfl ?_
  refine tk 1 (some 59) rfl ?_
  refine tk 2 (some 60) rfl ?_
  refine tk 3 (some 61) rfl ?_
  refine tk 4 (some 62) rfl ?_
  refine tk 5 (some 63) rfl ?_
  refine tk 6 (some 64) rfl ?_
  refine tk 7 (some 65) rfl ?_
  refine tk 8 (some 66) rfl ?_
  refine tk 9 (some 67) rfl ?_
  refine aH 10 (some 68) rfl (fun KK hKK=>?_)
  go_simp
  go_at_call 40;(with_reducible refine Calls.mono (HCE.o _ (b1.trans (Below.mono (bE:Below w7.heap.size w7 _) hs7))) ?_);rintro r w8 ⟨rfl,q8,h8,m8⟩;(have HM8:=zH ((HMR.o.trans (aB.of_below (bE:Below w7.heap.size w7 _))).trans m8));(have HK8:=zH (fun W' (hW:Below w8.heap.size w8 W')=>HK7.o _ _ (((aB.of_below (bE:Below w7.heap.size w7 _)).trans m8).trans (aB.of_below hW))));(have H8:=zH h8);clear h8 m8
  (try go_wp2_with fail)
  refine hKK.out _ _ ?_ (fun hHeld=>?_)
  ·(try dsimp only);(first|(with_reducible exact HK8.o _ bE)|(with_reducible exact HK7.o _ _ (aB.of_below bE)))
  refine' zq4
  refine tk 11 (some 7) rfl ?_
  refine wpAnyH_done (by kernel_rfl) ?_ _
  obtain ⟨_,_,k0,k1,k2,k3,k4,k5,k6⟩:=HK8.o _ (Below.refl _ _)
  have HA8:=zH (eY H8.o ⟨3,m,p.1,0,0,0⟩ ⟨aT (by dsimp only;omega),aT (by dsimp only;omega),aT (by have:=HSP.o.lo;have:=HSP.o.hi;have:=H8.o.lw;dsimp only;omega),aV,aV,aV⟩ (by have:=HSP.o.few;have:=HSUM.o;omega))
  clear hHeld
  go_wp2_with fail
  (with_reducible refine HA8.o.mono ?_)
  rintro r w9 ⟨rfl,q9,h9,m9⟩
  have HM9:=zH (HM8.o.trans m9)
  have HI9:=zH (HMK.o.other HM9.o HI.o)
  have HO9:=zH (HMK.o.other HM9.o HO'.o)
  have HB9:=zH (hbr.trans (HUB.o _ _ HM9.o))
  have H9:Hid (aF K w3 (w3.heap.size+1) (.slice A21 f.ins.length c21) (.slice A22 f.outs.length c22) w9 q9 (bv f (k+1))):=by
   show aF _ _ _ _ _ _ _ _
   rw[HNX.o]
   exact h9
  clear h9 m9 k0 k1 k2 k3 k4 k5 k6
  go_wp2_with fail
  go_roundw
  case rel=>exact ⟨k+1,q9,by omega,by go_num,H9,HI9,HO9,HB9.o⟩
  case measure=>simp[intOf];omega
end Go.Proofs.YtckognjamlckcaaGreatDoor
