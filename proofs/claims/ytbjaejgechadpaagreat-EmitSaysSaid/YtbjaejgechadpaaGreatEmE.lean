/-
  emit.Of: the walk.
-/
import Derived.Test.YtbjaejgechadpaaGreatEmD
import Derived.Test.YtbjaejgechadpaaGreatOrdB
import Derived.Deep.DeepCutAuto
namespace Go.Proofs.YtbjaejgechadpaaGreat
open Go.RowKit Vf Fo
attribute [local go_sem ↓] Go.wp_at_zero Go.wp_at_succ
def pg0V:Value:= .agg #[.slice none 0 0,.slice none 0 0,.int .i64 0,.slice none 0 0,.slice none 0 0]
def EmOut (f:Fm) (e:Ending) (w':World):Prop:=
 (¬orderedOk f∧e= .returned (.tuple #[pg0V,.int .i64 2]))∨(orderedOk f∧∃code,Emits f code∧((2048<code.length∧e= .returned (.tuple #[pg0V,.int .i64 3]))∨
  (code.length≤2048∧∃vi vo vc vd,e= .returned (.tuple #[pgV (progOf f code) vi vo vc vd,.int .i64 0])∧PgAt w' w'.heap.size (progOf f code) vi vo vc vd)))
def EmIs (f:Fm) (w:World) (e:Ending) (w':World):Prop:=EmOut f e w'∧Below w.heap.size w w'
theorem steps_clock {f:Fm} (hf:formOk f):∀s∈stepsOf f,s.2.length≤1600:=by
 intro s hs
 simp only[stepsOf,List.mem_append,List.mem_map] at hs
 rcases hs with ⟨y,hy,rfl⟩|⟨k,hk,rfl⟩
 ·exact clock_len hf.1 (hf.2.2.2.2.1.2.1 y hy).1
 ·exact clock_len hf.1 (hf.2.2.2.1.2.2.1 k hk).2.2.1
theorem gds_wf {w:World} {B:Nat} {v:Value} {l:List Gd} (h:SlV w B 2 isGd v l):∀g∈l,Wf g.wire:=by
 obtain ⟨A,c,_,_,_,h⟩:=h
 exact h.all (fun x cs hx=>hx.2)
theorem cells_wf {w:World} {B:Nat} {v:Value} {l:List (Int × Int)} (h:SlV w B 2 isCell v l):∀x∈l,Wf x.1∧Wf x.2:=by
 obtain ⟨A,c,_,_,_,h⟩:=h
 exact h.all (fun x cs hx=>hx.2)
theorem own_cells {w:World} {base:Nat} {e:TypeId} {v:Value} {n:Nat} {l:List (Int × Int)} (h:w.ownsRow base e 2 v n (l.map cellC).flatten) (hi:∀x∈l,Wf x.1∧Wf x.2):SlV w w.heap.size 2 isCell v l:=by
 refine (own_sl (rel:=isCell) (l:=l) h ⟨by simp,fun i x cs hx hc=>?_⟩ (fun cs hcs=>?_) (by decide)).1
 ·simp only[List.getElem?_map,hx,Option.map_some,Option.some.injEq] at hc
  exact ⟨hc.symm,hi x (List.mem_of_getElem? hx)⟩
 ·obtain ⟨x,_,rfl⟩:=List.mem_map.1 hcs
  rfl
theorem row_of_alloc {W W':World} {cs:Array Value} {t:TypeId} (h:W.alloc (.cells cs t)=W'):Row W' W.heap.size cs t∧Below W.heap.size W W':=by
 rw[←h]
 exact ⟨Row.new W cs t,(Below.refl _ _).alloc (Nat.le_refl _) _⟩
theorem EmSt.start {f:Fm} {w w2 W:World} {P:Nat} {fc:Array Value} {vi vo vc y0 y1 y2 y3 y4:Value} (hb:Below w2.heap.size w2 W) (b2:Below w.heap.size w w2) (rG:Row w2 w.heap.size fc 28) (rR:Row w2 (w.heap.size+1) zp5 37)
  (rP:Row W P #[y0,y1,y2,y3,y4] 37) (hP:w2.heap.size≤P) (o1:W.ownsRow w2.heap.size 3 1 vi f.ins.length (ints (f.ins.map (tyOf f)))) (o2:W.ownsRow w2.heap.size 3 1 vo f.outs.length (ints (f.outs.map (tyOf f))))
  (o3:W.ownsRow w2.heap.size 64 2 vc f.cells.length (f.cells.map cellC).flatten):
  EmSt f w (((((W.setCell ⟨P,0,none⟩ vi).setCell ⟨P,1,none⟩ vo).setCell ⟨P,2,none⟩ (.int .i64 f.wires.length)).setCell ⟨P,3,none⟩ vc).setCell ⟨P,4,none⟩ (.slice none 0 0)) w2.heap.size P fc vi vo vc (.slice none 0 0) []:=by
 have u:=upd_set5 (W:=W) (b:=P) vi vo (.int .i64 f.wires.length) vc (.slice none 0 0)
 have hl:=rR.lt
 exact ⟨b2.trans ((hb.trans (u.below (B:=w2.heap.size) (fun k hk=>by omega) hb.size)).mono b2.size),u.row (rG.below hb rG.lt) (by omega),u.row (rR.below hb rR.lt) (by omega),⟨rP.set5' _ _ _ _ _,World.ownsRow_nil _ _ _ _⟩,
  own_updE o1 u (fun k hk e=>own_ne o1 rP (by decide) (by rw[←e];exact hk)),own_updE o2 u (fun k hk e=>own_ne o2 rP (by decide) (by rw[←e];exact hk)),own_updE o3 u (fun k hk e=>own_ne o3 rP (by decide) (by rw[←e];exact hk)),
  by omega,hl,hP,Nat.le_trans hb.size u.size⟩
theorem stv_one (y0 y1 y2 y3 y4:Int) (clk:List Gd) (A:Option Addr) (n c:Nat):∀u∈stvC ((⟨y0,y1,y2,y3,y4⟩,clk),.slice A n c),u.oneCell'=true:=by
 intro u hu
 simp only[stvC,List.mem_cons,List.not_mem_nil,or_false] at hu
 rcases hu with rfl|rfl|rfl|rfl|rfl|rfl<;>rfl
set_option maxRecDepth 100000 in
set_option maxHeartbeats 20000000 in
theorem emit_any (f:Fm) (vw va vc vk vi vo:Value) (w:World) (h:FmAt w w.heap.size f vw va vc vk vi vo) (hcl:f.cells.length≤1600):
  Calls Tryz.prog 10 #[fmV vw va vc vk vi vo] w (EmIs f w):=by
 obtain ⟨i0,hi0,hz0,hz1,hz2⟩:=info_parts info_in5
 obtain ⟨j0,hj0,hy0,hy1,hy2⟩:=info_parts info_stp
 obtain ⟨Aw,cw,rfl,lw,mw,_⟩:=id h.wires
 obtain ⟨Aa,ca,rfl,la,ma,_⟩:=id h.acts
 obtain ⟨Acc,cc,rfl,_,_,_⟩:=id h.cells
 obtain ⟨Akk,ck,rfl,lk,mk,_⟩:=id h.keeps
 obtain ⟨Ai,ci,rfl,li,mi,_⟩:=id h.ins
 obtain ⟨Ao,co,rfl,lo,mo,_⟩:=id h.outs
 have mw':cw≤9223372036854775807:=by unfold maxLen at mw;omega
 have ma':ca≤9223372036854775807:=by unfold maxLen at ma;omega
 have mk':ck≤9223372036854775807:=by unfold maxLen at mk;omega
 have mi':ci≤9223372036854775807:=by unfold maxLen at mi;omega
 have mo':co≤9223372036854775807:=by unfold maxLen at mo;omega
 have b1:Below w.heap.size w ((w.alloc (.cells #[(.slice Aw f.wires.length cw),(.slice Aa f.acts.length ca),(.slice Acc f.cells.length cc),(.slice Akk f.keeps.length ck),(.slice Ai f.ins.length ci),(.slice Ao f.outs.length co)] 28)).alloc (.cells zp5 37)):=bE
 have rG1:Row ((w.alloc (.cells #[(.slice Aw f.wires.length cw),(.slice Aa f.acts.length ca),(.slice Acc f.cells.length cc),(.slice Akk f.keeps.length ck),(.slice Ai f.ins.length ci),(.slice Ao f.outs.length co)] 28)).alloc (.cells zp5 37)) w.heap.size #[(.slice Aw f.wires.length cw),(.slice Aa f.acts.length ca),(.slice Acc f.cells.length cc),(.slice Akk f.keeps.length ck),(.slice Ai f.ins.length ci),(.slice Ao f.outs.length co)] 28:=(Row.new w _ _).alloc _
 have rR1:Row ((w.alloc (.cells #[(.slice Aw f.wires.length cw),(.slice Aa f.acts.length ca),(.slice Acc f.cells.length cc),(.slice Akk f.keeps.length ck),(.slice Ai f.ins.length ci),(.slice Ao f.outs.length co)] 28)).alloc (.cells zp5 37)) (w.heap.size+1) #[.slice none 0 0,.slice none 0 0,.int .i64 0,.slice none 0 0,.slice none 0 0] 37:=rowNew2 w _ _ _
 have HFM:=Lib.hid (fun W (hW:Below w.heap.size w W)=>h.below hW)
 have HO:=Lib.hid (ordered_any f _ _ _ _ _ _ _ (h.next b1) hcl)
 clear h
 go_enter Tryz.func10,Tryz.ntmps10
 go_upto_region 1 with (fail)
 change Code.wp _ _ _ _ ((w.alloc (.cells #[(.slice Aw f.wires.length cw),(.slice Aa f.acts.length ca),(.slice Acc f.cells.length cc),(.slice Akk f.keeps.length ck),(.slice Ai f.ins.length ci),(.slice Ao f.outs.length co)] 28)).alloc (.cells zp5 37))
 generalize (w.alloc (.cells #[(.slice Aw f.wires.length cw),(.slice Aa f.acts.length ca),(.slice Acc f.cells.length cc),(.slice Akk f.keeps.length ck),(.slice Ai f.ins.length ci),(.slice Ao f.outs.length co)] 28)).alloc (.cells zp5 37)=w1 at*
 have hs1:=b1.size
 have hR1:=rR1.lt
 obtain ⟨f0,f1,f2,f3,f4,f5⟩:=rG1.six'
 by_cases ho:orderedOk f
 rotate_left 1
 ·have HNO:=Lib.hid ho
  rw[cB_false ho] at HO
  clear ho
  go_wp2_with fail
  (with_reducible refine HO.out.mono ?_)
  rintro e w2 ⟨rfl,hb2⟩
  have b2:=b1.trans (hb2.mono hs1)
  have rR2:=rR1.below hb2 hR1
  obtain ⟨z0,z1,z2,z3,z4⟩:=rR2.five'
  have y0:=rR2.frozen 0
  have y1:=rR2.frozen 1
  have y2:=rR2.frozen 2
  have y3:=rR2.frozen 3
  have y4:=rR2.frozen 4
  clear f0 f1 f2 f3 f4 f5
  go_wp2_with fail
  exact bodyPost_ret (res2 rfl Tryz.underlying37 rfl (by kernel_rfl) rfl rfl (rR2.set5' _ _ _ _ _)) rfl ⟨.inl ⟨HNO.out,rfl⟩,b2.trans ((upd_set5 _ _ _ _ _).below (fun k hk=>by omega) b2.size)⟩
 have HOK:=Lib.hid ho
 rw[cB_true ho] at HO
 clear ho
 go_wp2_with fail
 (with_reducible refine HO.out.mono ?_)
 rintro e w2 ⟨rfl,hb2⟩
 have b2:=b1.trans (hb2.mono hs1)
 have rG2:=rG1.below hb2 rG1.lt
 have rR2:=rR1.below hb2 hR1
 clear f0 f1 f2 f3 f4 f5 HO hb2 b1 rG1 rR1 hs1
 have hs2:=b2.size
 have hR2:=rR2.lt
 have ha16:=facts_len HOK.out.1
 have hi8:f.ins.length≤8:=HOK.out.1.2.1.2.2
 have ho8:f.outs.length≤8:=HOK.out.1.2.2.1.2.2
 have hk60:=keeps_len HOK.out.1
 have HW1:Hid (∀n∈f.ins,isW f n):=fun n hn=>(HOK.out.1.2.1.1 n hn).1
 have HW2:Hid (∀n∈f.outs,isW f n):=fun n hn=>(HOK.out.1.2.2.1.1 n hn).1
 have HFM2:=Lib.hid (fun W (hW:Below w2.heap.size w2 W)=>HFM.out W (b2.trans (hW.mono hs2)))
 have HT1:=Lib.hid (fun W (hW:Below w2.heap.size w2 W)=>types_any (HFM2.out W hW) (Nat.le_trans hs2 hW.size) f.ins _ (HFM2.out W hW).ins (by omega) HW1.out)
 have HT2:=Lib.hid (fun W (hW:Below w2.heap.size w2 W)=>types_any (HFM2.out W hW) (Nat.le_trans hs2 hW.size) f.outs _ (HFM2.out W hW).outs (by omega) HW2.out)
 have HT3:=Lib.hid (fun W (hW:Below w2.heap.size w2 W)=>clone_cell f.cells _ W ((HFM2.out W hW).cells.more (Nat.le_trans hs2 hW.size)) (by omega))
 have HK6:Hid (∀W,Below w2.heap.size w2 W→W.cell? ⟨w.heap.size,0,none⟩=some (.slice Aw f.wires.length cw)∧W.cell? ⟨w.heap.size,1,none⟩=some (.slice Aa f.acts.length ca)∧W.cell? ⟨w.heap.size,2,none⟩=some (.slice Acc f.cells.length cc)∧W.cell? ⟨w.heap.size,3,none⟩=some (.slice Akk f.keeps.length ck)∧W.cell? ⟨w.heap.size,4,none⟩=some (.slice Ai f.ins.length ci)∧W.cell? ⟨w.heap.size,5,none⟩=some (.slice Ao f.outs.length co)):=fun W hW=>(rG2.below hW rG2.lt).six'
 have HB2:=Lib.hid b2
 have HG2:=Lib.hid rG2
 have HR2:Hid (Row w2 (w.heap.size+1) zp5 37):=rR2
 have HWFI:Hid (∀x∈f.ins.map (tyOf f),Wf x):=fun x hx=>by
  obtain ⟨n,hn,rfl⟩:=List.mem_map.1 hx
  rcases ty_two HOK.out.1.1 n (HW1.out n hn) with h|h<;>rw[h]<;>exact wf_of (by omega)
 have HWFO:Hid (∀x∈f.outs.map (tyOf f),Wf x):=fun x hx=>by
  obtain ⟨n,hn,rfl⟩:=List.mem_map.1 hx
  rcases ty_two HOK.out.1.1 n (HW2.out n hn) with h|h<;>rw[h]<;>exact wf_of (by omega)
 clear b2 rG2 rR2 HFM2
 go_upto_region 3 with (fail)
 go_cut[4] (fun v4 W=>∃(P:Nat) (vi' vo' vc':Value),v4= .pointer (some ⟨P,0,none⟩)∧Hid (EmSt f w W w2.heap.size P #[(.slice Aw f.wires.length cw),(.slice Aa f.acts.length ca),(.slice Acc f.cells.length cc),(.slice Akk f.keeps.length ck),(.slice Ai f.ins.length ci),(.slice Ao f.outs.length co)] vi' vo' vc' (.slice none 0 0) []))
 case first=>
  refine wp_region_held_drew (S:=fun W=>W.cell? ⟨w.heap.size,0,none⟩=some (.slice Aw f.wires.length cw)∧W.cell? ⟨w.heap.size,1,none⟩=some (.slice Aa f.acts.length ca)∧W.cell? ⟨w.heap.size,2,none⟩=some (.slice Acc f.cells.length cc)∧W.cell? ⟨w.heap.size,3,none⟩=some (.slice Akk f.keeps.length ck)∧W.cell? ⟨w.heap.size,4,none⟩=some (.slice Ai f.ins.length ci)∧W.cell? ⟨w.heap.size,5,none⟩=some (.slice Ao f.outs.length co)) (by kernel_rfl) ?_ (fun hHeld=>?_)
  ·(try dsimp only);(first|(with_reducible exact HK6.out _ bE)|assumption)
  refine tk 0 (some 18) rfl ?_
  refine tk 1 (some 19) rfl ?_
  refine tk 2 (some 20) rfl ?_
  refine tk 4 (some 22) rfl ?_
  refine tk 5 (some 23) rfl ?_
  refine tk 6 (some 24) rfl ?_
  refine tk 8 (some 26) rfl ?_
  refine tk 9 (some 27) rfl ?_
  refine tk 10 (some 28) rfl ?_
  refine tk 11 (some 29) rfl ?_
  refine tk 12 (some 30) rfl ?_
  refine wpAnyH_ready (rs:=[3,15]) (by kernel_rfl) (by simp) ?_
  refine AllReadyH.cons (o:={dst:=some 21,op:=_,type:=_,pos:=_,after:=_,guard:=_}) rfl (fun KK hKK=>?_) (AllReadyH.cons (o:={dst:=some 4,op:=_,type:=_,pos:=_,after:=_,guard:=_}) rfl (fun KK hKK=>?_) AllReadyH.nil)
  ·go_simp
   (go_at_call 24;first|((with_reducible refine Calls.mono (HT1.out _ ?hbb) ?_);(case hbb=>exact bE);rintro e w8 ⟨v8,rfl,ho8',hw8,hb8⟩;(have hb9:Below w2.heap.size w2 w8:=Below.trans bE (hb8.mono lE));(have hs9:=hb9.size);(obtain ⟨A8,c8,hv8,_⟩:=own_src ho8');subst hv8;(have HO1:=Lib.hid (fun W (hW:Below w8.heap.size w8 W)=>own_below (own_low (base':=w2.heap.size) ho8' lE) hW));(try (have hc1:=Below.trans hc1 (hb8.mono hc1.size)));(try (have hc2:=Below.trans hc2 (hb8.mono hc2.size)));(try (have hc3:=Below.trans hc3 (hb8.mono hc3.size)));(try (have rP:=(by first|exact Row.below rP hb8 rP.lt|exact Row.below rP.drew hb8 rP.drew.lt);obtain ⟨p0,p1,p2,p3,p4⟩:=rP.five';have pz0:=rP.frozen 0;have pz1:=rP.frozen 1;have pz2:=rP.frozen 2;have pz3:=rP.frozen 3;have pz4:=rP.frozen 4));(have hc1:=Below.refl w8.heap.size w8))|((with_reducible refine Calls.mono (HT2.out _ ?hbb) ?_);(case hbb=>exact bE);rintro e w8 ⟨v8,rfl,ho8',hw8,hb8⟩;(have hb9:Below w2.heap.size w2 w8:=Below.trans bE (hb8.mono lE));(have hs9:=hb9.size);(obtain ⟨A8,c8,hv8,_⟩:=own_src ho8');subst hv8;(have HO2:=Lib.hid (fun W (hW:Below w8.heap.size w8 W)=>own_below (own_low (base':=w2.heap.size) ho8' lE) hW));(try (have hc1:=Below.trans hc1 (hb8.mono hc1.size)));(try (have hc2:=Below.trans hc2 (hb8.mono hc2.size)));(try (have hc3:=Below.trans hc3 (hb8.mono hc3.size)));(try (have rP:=(by first|exact Row.below rP hb8 rP.lt|exact Row.below rP.drew hb8 rP.drew.lt);obtain ⟨p0,p1,p2,p3,p4⟩:=rP.five';have pz0:=rP.frozen 0;have pz1:=rP.frozen 1;have pz2:=rP.frozen 2;have pz3:=rP.frozen 3;have pz4:=rP.frozen 4));(have hc2:=Below.refl w8.heap.size w8)))
   (try go_wp2_with fail)
   refine hKK.out _ _ ?_ (fun hHeld=>?_)
   ·(try dsimp only);(first|(with_reducible exact HK6.out _ bE)|assumption)
   clear hKK KK
   try simp only[Act.put,List.setIfInBounds_toArray,List.set_cons_zero,List.set_cons_succ]
   refine wpAnyH_ready (rs:=[7,15]) (by kernel_rfl) (by simp) ?_
   refine AllReadyH.cons (o:={dst:=some 25,op:=_,type:=_,pos:=_,after:=_,guard:=_}) rfl (fun KK hKK=>?_) (AllReadyH.cons (o:={dst:=some 4,op:=_,type:=_,pos:=_,after:=_,guard:=_}) rfl (fun KK hKK=>?_) AllReadyH.nil)
   ·go_simp
    (go_at_call 24;first|((with_reducible refine Calls.mono (HT1.out _ ?hbb) ?_);(case hbb=>exact bE);rintro e w8 ⟨v8,rfl,ho8',hw8,hb8⟩;(have hb9:Below w2.heap.size w2 w8:=Below.trans bE (hb8.mono lE));(have hs9:=hb9.size);(obtain ⟨A8,c8,hv8,_⟩:=own_src ho8');subst hv8;(have HO1:=Lib.hid (fun W (hW:Below w8.heap.size w8 W)=>own_below (own_low (base':=w2.heap.size) ho8' lE) hW));(try (have hc1:=Below.trans hc1 (hb8.mono hc1.size)));(try (have hc2:=Below.trans hc2 (hb8.mono hc2.size)));(try (have hc3:=Below.trans hc3 (hb8.mono hc3.size)));(try (have rP:=(by first|exact Row.below rP hb8 rP.lt|exact Row.below rP.drew hb8 rP.drew.lt);obtain ⟨p0,p1,p2,p3,p4⟩:=rP.five';have pz0:=rP.frozen 0;have pz1:=rP.frozen 1;have pz2:=rP.frozen 2;have pz3:=rP.frozen 3;have pz4:=rP.frozen 4));(have hc1:=Below.refl w8.heap.size w8))|((with_reducible refine Calls.mono (HT2.out _ ?hbb) ?_);(case hbb=>exact bE);rintro e w8 ⟨v8,rfl,ho8',hw8,hb8⟩;(have hb9:Below w2.heap.size w2 w8:=Below.trans bE (hb8.mono lE));(have hs9:=hb9.size);(obtain ⟨A8,c8,hv8,_⟩:=own_src ho8');subst hv8;(have HO2:=Lib.hid (fun W (hW:Below w8.heap.size w8 W)=>own_below (own_low (base':=w2.heap.size) ho8' lE) hW));(try (have hc1:=Below.trans hc1 (hb8.mono hc1.size)));(try (have hc2:=Below.trans hc2 (hb8.mono hc2.size)));(try (have hc3:=Below.trans hc3 (hb8.mono hc3.size)));(try (have rP:=(by first|exact Row.below rP hb8 rP.lt|exact Row.below rP.drew hb8 rP.drew.lt);obtain ⟨p0,p1,p2,p3,p4⟩:=rP.five';have pz0:=rP.frozen 0;have pz1:=rP.frozen 1;have pz2:=rP.frozen 2;have pz3:=rP.frozen 3;have pz4:=rP.frozen 4));(have hc2:=Below.refl w8.heap.size w8)))
    (try go_wp2_with fail)
    refine hKK.out _ _ ?_ (fun hHeld=>?_)
    ·(try dsimp only);(first|(with_reducible exact HK6.out _ bE)|assumption)
    clear hKK KK
    try simp only[Act.put,List.setIfInBounds_toArray,List.set_cons_zero,List.set_cons_succ]
    refine wpAnyH_ready (rs:=[13,15]) (by kernel_rfl) (by simp) ?_
    refine AllReadyH.cons (o:={dst:=some 31,op:=_,type:=_,pos:=_,after:=_,guard:=_}) rfl (fun KK hKK=>?_) (AllReadyH.cons (o:={dst:=some 4,op:=_,type:=_,pos:=_,after:=_,guard:=_}) rfl (fun KK hKK=>?_) AllReadyH.nil)
    ·go_simp
     (go_at_call 25;(with_reducible refine Calls.mono (HT3.out _ ?hbb) ?_);(case hbb=>exact bE);rintro e w8 ⟨v8,rfl,ho8',hb8⟩;(have hb9:Below w2.heap.size w2 w8:=Below.trans bE (hb8.mono lE));(have hs9:=hb9.size);(obtain ⟨A8,c8,hv8,_⟩:=own_src ho8');subst hv8;(have HO3:=Lib.hid (fun W (hW:Below w8.heap.size w8 W)=>own_below (own_low (base':=w2.heap.size) ho8' lE) hW));(try (have hc1:=Below.trans hc1 (hb8.mono hc1.size)));(try (have hc2:=Below.trans hc2 (hb8.mono hc2.size)));(try (have hc3:=Below.trans hc3 (hb8.mono hc3.size)));(try (have rP:=(by first|exact Row.below rP hb8 rP.lt|exact Row.below rP.drew hb8 rP.drew.lt);obtain ⟨p0,p1,p2,p3,p4⟩:=rP.five';have pz0:=rP.frozen 0;have pz1:=rP.frozen 1;have pz2:=rP.frozen 2;have pz3:=rP.frozen 3;have pz4:=rP.frozen 4));(have hc3:=Below.refl w8.heap.size w8))
     (try go_wp2_with fail)
     refine hKK.out _ _ ?_ (fun hHeld=>?_)
     ·(try dsimp only);(first|(with_reducible exact HK6.out _ bE)|assumption)
     clear hKK KK
     try simp only[Act.put,List.setIfInBounds_toArray,List.set_cons_zero,List.set_cons_succ]
     refine tk 14 (some 32) rfl ?_
     refine rd1 15 (some 4) rfl (fun KK hKK=>?_)
     go_simp
     refine hKK.out _ _ ?_ (fun hHeld=>?_)
     ·(try dsimp only);(first|(with_reducible exact HK6.out _ bE)|assumption)
     clear hKK KK
     try simp only[Act.put,List.setIfInBounds_toArray,List.set_cons_zero,List.set_cons_succ]
     (try (first|(have hdup:=rP.lt;clear hdup)|(generalize hP5:World.alloc _ (Obj.cells _ 37)=w9 at*;obtain ⟨rP,bP9⟩:=row_of_alloc hP5;(have hb9:Below w2.heap.size w2 w9:=Below.trans bE (bP9.mono lE));(have hs9:=hb9.size);clear hP5;(try (have hc1:=Below.trans hc1 (bP9.mono hc1.size)));(try (have hc2:=Below.trans hc2 (bP9.mono hc2.size)));(try (have hc3:=Below.trans hc3 (bP9.mono hc3.size)));obtain ⟨p0,p1,p2,p3,p4⟩:=rP.five';have pz0:=rP.frozen 0;have pz1:=rP.frozen 1;have pz2:=rP.frozen 2;have pz3:=rP.frozen 3;have pz4:=rP.frozen 4)))
     refine rd1 16 none rfl (fun KK hKK=>?_)
     go_simp
     refine hKK.out _ _ ?_ (fun hHeld=>?_)
     ·(try dsimp only);(first|(with_reducible exact HK6.out _ bE)|assumption)
     clear hKK KK
     try simp only[Act.put,List.setIfInBounds_toArray,List.set_cons_zero,List.set_cons_succ]
     (try (first|(have hdup:=rP.lt;clear hdup)|(generalize hP5:World.alloc _ (Obj.cells _ 37)=w9 at*;obtain ⟨rP,bP9⟩:=row_of_alloc hP5;(have hb9:Below w2.heap.size w2 w9:=Below.trans bE (bP9.mono lE));(have hs9:=hb9.size);clear hP5;(try (have hc1:=Below.trans hc1 (bP9.mono hc1.size)));(try (have hc2:=Below.trans hc2 (bP9.mono hc2.size)));(try (have hc3:=Below.trans hc3 (bP9.mono hc3.size)));obtain ⟨p0,p1,p2,p3,p4⟩:=rP.five';have pz0:=rP.frozen 0;have pz1:=rP.frozen 1;have pz2:=rP.frozen 2;have pz3:=rP.frozen 3;have pz4:=rP.frozen 4)))
     refine wpAnyH_done (by kernel_rfl) ?_ _
     go_wp2_with fail
     go_meet
     exact ⟨_,_,_,_,rfl,EmSt.start hb9 HB2.out HG2.out HR2.out rP (by first|omega|simp|(simp;omega)) (HO1.out _ hc1) (HO2.out _ hc2) (HO3.out _ hc3)⟩
    ·go_simp
     refine hKK.out _ _ ?_ (fun hHeld=>?_)
     ·(try dsimp only);(first|(with_reducible exact HK6.out _ bE)|assumption)
     clear hKK KK
     try simp only[Act.put,List.setIfInBounds_toArray,List.set_cons_zero,List.set_cons_succ]
     (try (first|(have hdup:=rP.lt;clear hdup)|(generalize hP5:World.alloc _ (Obj.cells _ 37)=w9 at*;obtain ⟨rP,bP9⟩:=row_of_alloc hP5;(have hb9:Below w2.heap.size w2 w9:=Below.trans bE (bP9.mono lE));(have hs9:=hb9.size);clear hP5;(try (have hc1:=Below.trans hc1 (bP9.mono hc1.size)));(try (have hc2:=Below.trans hc2 (bP9.mono hc2.size)));(try (have hc3:=Below.trans hc3 (bP9.mono hc3.size)));obtain ⟨p0,p1,p2,p3,p4⟩:=rP.five';have pz0:=rP.frozen 0;have pz1:=rP.frozen 1;have pz2:=rP.frozen 2;have pz3:=rP.frozen 3;have pz4:=rP.frozen 4)))
     refine rd1 13 (some 31) rfl (fun KK hKK=>?_)
     go_simp
     (go_at_call 25;(with_reducible refine Calls.mono (HT3.out _ ?hbb) ?_);(case hbb=>exact bE);rintro e w8 ⟨v8,rfl,ho8',hb8⟩;(have hb9:Below w2.heap.size w2 w8:=Below.trans bE (hb8.mono lE));(have hs9:=hb9.size);(obtain ⟨A8,c8,hv8,_⟩:=own_src ho8');subst hv8;(have HO3:=Lib.hid (fun W (hW:Below w8.heap.size w8 W)=>own_below (own_low (base':=w2.heap.size) ho8' lE) hW));(try (have hc1:=Below.trans hc1 (hb8.mono hc1.size)));(try (have hc2:=Below.trans hc2 (hb8.mono hc2.size)));(try (have hc3:=Below.trans hc3 (hb8.mono hc3.size)));(try (have rP:=(by first|exact Row.below rP hb8 rP.lt|exact Row.below rP.drew hb8 rP.drew.lt);obtain ⟨p0,p1,p2,p3,p4⟩:=rP.five';have pz0:=rP.frozen 0;have pz1:=rP.frozen 1;have pz2:=rP.frozen 2;have pz3:=rP.frozen 3;have pz4:=rP.frozen 4));(have hc3:=Below.refl w8.heap.size w8))
     (try go_wp2_with fail)
     refine hKK.out _ _ ?_ (fun hHeld=>?_)
     ·(try dsimp only);(first|(with_reducible exact HK6.out _ bE)|assumption)
     clear hKK KK
     try simp only[Act.put,List.setIfInBounds_toArray,List.set_cons_zero,List.set_cons_succ]
     refine tk 14 (some 32) rfl ?_
     refine rd1 16 none rfl (fun KK hKK=>?_)
     go_simp
     refine hKK.out _ _ ?_ (fun hHeld=>?_)
     ·(try dsimp only);(first|(with_reducible exact HK6.out _ bE)|assumption)
     clear hKK KK
     try simp only[Act.put,List.setIfInBounds_toArray,List.set_cons_zero,List.set_cons_succ]
     (try (first|(have hdup:=rP.lt;clear hdup)|(generalize hP5:World.alloc _ (Obj.cells _ 37)=w9 at*;obtain ⟨rP,bP9⟩:=row_of_alloc hP5;(have hb9:Below w2.heap.size w2 w9:=Below.trans bE (bP9.mono lE));(have hs9:=hb9.size);clear hP5;(try (have hc1:=Below.trans hc1 (bP9.mono hc1.size)));(try (have hc2:=Below.trans hc2 (bP9.mono hc2.size)));(try (have hc3:=Below.trans hc3 (bP9.mono hc3.size)));obtain ⟨p0,p1,p2,p3,p4⟩:=rP.five';have pz0:=rP.frozen 0;have pz1:=rP.frozen 1;have pz2:=rP.frozen 2;have pz3:=rP.frozen 3;have pz4:=rP.frozen 4)))
     refine wpAnyH_done (by kernel_rfl) ?_ _
     go_wp2_with fail
     go_meet
     exact ⟨_,_,_,_,rfl,EmSt.start hb9 HB2.out HG2.out HR2.out rP (by first|omega|simp|(simp;omega)) (HO1.out _ hc1) (HO2.out _ hc2) (HO3.out _ hc3)⟩
   ·go_simp
    refine hKK.out _ _ ?_ (fun hHeld=>?_)
    ·(try dsimp only);(first|(with_reducible exact HK6.out _ bE)|assumption)
    clear hKK KK
    try simp only[Act.put,List.setIfInBounds_toArray,List.set_cons_zero,List.set_cons_succ]
    (try (first|(have hdup:=rP.lt;clear hdup)|(generalize hP5:World.alloc _ (Obj.cells _ 37)=w9 at*;obtain ⟨rP,bP9⟩:=row_of_alloc hP5;(have hb9:Below w2.heap.size w2 w9:=Below.trans bE (bP9.mono lE));(have hs9:=hb9.size);clear hP5;(try (have hc1:=Below.trans hc1 (bP9.mono hc1.size)));(try (have hc2:=Below.trans hc2 (bP9.mono hc2.size)));(try (have hc3:=Below.trans hc3 (bP9.mono hc3.size)));obtain ⟨p0,p1,p2,p3,p4⟩:=rP.five';have pz0:=rP.frozen 0;have pz1:=rP.frozen 1;have pz2:=rP.frozen 2;have pz3:=rP.frozen 3;have pz4:=rP.frozen 4)))
    refine rd1 7 (some 25) rfl (fun KK hKK=>?_)
    go_simp
    (go_at_call 24;first|((with_reducible refine Calls.mono (HT1.out _ ?hbb) ?_);(case hbb=>exact bE);rintro e w8 ⟨v8,rfl,ho8',hw8,hb8⟩;(have hb9:Below w2.heap.size w2 w8:=Below.trans bE (hb8.mono lE));(have hs9:=hb9.size);(obtain ⟨A8,c8,hv8,_⟩:=own_src ho8');subst hv8;(have HO1:=Lib.hid (fun W (hW:Below w8.heap.size w8 W)=>own_below (own_low (base':=w2.heap.size) ho8' lE) hW));(try (have hc1:=Below.trans hc1 (hb8.mono hc1.size)));(try (have hc2:=Below.trans hc2 (hb8.mono hc2.size)));(try (have hc3:=Below.trans hc3 (hb8.mono hc3.size)));(try (have rP:=(by first|exact Row.below rP hb8 rP.lt|exact Row.below rP.drew hb8 rP.drew.lt);obtain ⟨p0,p1,p2,p3,p4⟩:=rP.five';have pz0:=rP.frozen 0;have pz1:=rP.frozen 1;have pz2:=rP.frozen 2;have pz3:=rP.frozen 3;have pz4:=rP.frozen 4));(have hc1:=Below.refl w8.heap.size w8))|((with_reducible refine Calls.mono (HT2.out _ ?hbb) ?_);(case hbb=>exact bE);rintro e w8 ⟨v8,rfl,ho8',hw8,hb8⟩;(have hb9:Below w2.heap.size w2 w8:=Below.trans bE (hb8.mono lE));(have hs9:=hb9.size);(obtain ⟨A8,c8,hv8,_⟩:=own_src ho8');subst hv8;(have HO2:=Lib.hid (fun W (hW:Below w8.heap.size w8 W)=>own_below (own_low (base':=w2.heap.size) ho8' lE) hW));(try (have hc1:=Below.trans hc1 (hb8.mono hc1.size)));(try (have hc2:=Below.trans hc2 (hb8.mono hc2.size)));(try (have hc3:=Below.trans hc3 (hb8.mono hc3.size)));(try (have rP:=(by first|exact Row.below rP hb8 rP.lt|exact Row.below rP.drew hb8 rP.drew.lt);obtain ⟨p0,p1,p2,p3,p4⟩:=rP.five';have pz0:=rP.frozen 0;have pz1:=rP.frozen 1;have pz2:=rP.frozen 2;have pz3:=rP.frozen 3;have pz4:=rP.frozen 4));(have hc2:=Below.refl w8.heap.size w8)))
    (try go_wp2_with fail)
    refine hKK.out _ _ ?_ (fun hHeld=>?_)
    ·(try dsimp only);(first|(with_reducible exact HK6.out _ bE)|assumption)
    clear hKK KK
    try simp only[Act.put,List.setIfInBounds_toArray,List.set_cons_zero,List.set_cons_succ]
    refine rd1 13 (some 31) rfl (fun KK hKK=>?_)
    go_simp
    (go_at_call 25;(with_reducible refine Calls.mono (HT3.out _ ?hbb) ?_);(case hbb=>exact bE);rintro e w8 ⟨v8,rfl,ho8',hb8⟩;(have hb9:Below w2.heap.size w2 w8:=Below.trans bE (hb8.mono lE));(have hs9:=hb9.size);(obtain ⟨A8,c8,hv8,_⟩:=own_src ho8');subst hv8;(have HO3:=Lib.hid (fun W (hW:Below w8.heap.size w8 W)=>own_below (own_low (base':=w2.heap.size) ho8' lE) hW));(try (have hc1:=Below.trans hc1 (hb8.mono hc1.size)));(try (have hc2:=Below.trans hc2 (hb8.mono hc2.size)));(try (have hc3:=Below.trans hc3 (hb8.mono hc3.size)));(try (have rP:=(by first|exact Row.below rP hb8 rP.lt|exact Row.below rP.drew hb8 rP.drew.lt);obtain ⟨p0,p1,p2,p3,p4⟩:=rP.five';have pz0:=rP.frozen 0;have pz1:=rP.frozen 1;have pz2:=rP.frozen 2;have pz3:=rP.frozen 3;have pz4:=rP.frozen 4));(have hc3:=Below.refl w8.heap.size w8))
    (try go_wp2_with fail)
    refine hKK.out _ _ ?_ (fun hHeld=>?_)
    ·(try dsimp only);(first|(with_reducible exact HK6.out _ bE)|assumption)
    clear hKK KK
    try simp only[Act.put,List.setIfInBounds_toArray,List.set_cons_zero,List.set_cons_succ]
    refine tk 14 (some 32) rfl ?_
    refine rd1 16 none rfl (fun KK hKK=>?_)
    go_simp
    refine hKK.out _ _ ?_ (fun hHeld=>?_)
    ·(try dsimp only);(first|(with_reducible exact HK6.out _ bE)|assumption)
    clear hKK KK
    try simp only[Act.put,List.setIfInBounds_toArray,List.set_cons_zero,List.set_cons_succ]
    (try (first|(have hdup:=rP.lt;clear hdup)|(generalize hP5:World.alloc _ (Obj.cells _ 37)=w9 at*;obtain ⟨rP,bP9⟩:=row_of_alloc hP5;(have hb9:Below w2.heap.size w2 w9:=Below.trans bE (bP9.mono lE));(have hs9:=hb9.size);clear hP5;(try (have hc1:=Below.trans hc1 (bP9.mono hc1.size)));(try (have hc2:=Below.trans hc2 (bP9.mono hc2.size)));(try (have hc3:=Below.trans hc3 (bP9.mono hc3.size)));obtain ⟨p0,p1,p2,p3,p4⟩:=rP.five';have pz0:=rP.frozen 0;have pz1:=rP.frozen 1;have pz2:=rP.frozen 2;have pz3:=rP.frozen 3;have pz4:=rP.frozen 4)))
    refine wpAnyH_done (by kernel_rfl) ?_ _
    go_wp2_with fail
    go_meet
    exact ⟨_,_,_,_,rfl,EmSt.start hb9 HB2.out HG2.out HR2.out rP (by first|omega|simp|(simp;omega)) (HO1.out _ hc1) (HO2.out _ hc2) (HO3.out _ hc3)⟩
  ·go_simp
   refine hKK.out _ _ ?_ (fun hHeld=>?_)
   ·(try dsimp only);(first|(with_reducible exact HK6.out _ bE)|assumption)
   clear hKK KK
   try simp only[Act.put,List.setIfInBounds_toArray,List.set_cons_zero,List.set_cons_succ]
   (try (first|(have hdup:=rP.lt;clear hdup)|(generalize hP5:World.alloc _ (Obj.cells _ 37)=w9 at*;obtain ⟨rP,bP9⟩:=row_of_alloc hP5;(have hb9:Below w2.heap.size w2 w9:=Below.trans bE (bP9.mono lE));(have hs9:=hb9.size);clear hP5;(try (have hc1:=Below.trans hc1 (bP9.mono hc1.size)));(try (have hc2:=Below.trans hc2 (bP9.mono hc2.size)));(try (have hc3:=Below.trans hc3 (bP9.mono hc3.size)));obtain ⟨p0,p1,p2,p3,p4⟩:=rP.five';have pz0:=rP.frozen 0;have pz1:=rP.frozen 1;have pz2:=rP.frozen 2;have pz3:=rP.frozen 3;have pz4:=rP.frozen 4)))
   refine rd1 3 (some 21) rfl (fun KK hKK=>?_)
   go_simp
   (go_at_call 24;first|((with_reducible refine Calls.mono (HT1.out _ ?hbb) ?_);(case hbb=>exact bE);rintro e w8 ⟨v8,rfl,ho8',hw8,hb8⟩;(have hb9:Below w2.heap.size w2 w8:=Below.trans bE (hb8.mono lE));(have hs9:=hb9.size);(obtain ⟨A8,c8,hv8,_⟩:=own_src ho8');subst hv8;(have HO1:=Lib.hid (fun W (hW:Below w8.heap.size w8 W)=>own_below (own_low (base':=w2.heap.size) ho8' lE) hW));(try (have hc1:=Below.trans hc1 (hb8.mono hc1.size)));(try (have hc2:=Below.trans hc2 (hb8.mono hc2.size)));(try (have hc3:=Below.trans hc3 (hb8.mono hc3.size)));(try (have rP:=(by first|exact Row.below rP hb8 rP.lt|exact Row.below rP.drew hb8 rP.drew.lt);obtain ⟨p0,p1,p2,p3,p4⟩:=rP.five';have pz0:=rP.frozen 0;have pz1:=rP.frozen 1;have pz2:=rP.frozen 2;have pz3:=rP.frozen 3;have pz4:=rP.frozen 4));(have hc1:=Below.refl w8.heap.size w8))|((with_reducible refine Calls.mono (HT2.out _ ?hbb) ?_);(case hbb=>exact bE);rintro e w8 ⟨v8,rfl,ho8',hw8,hb8⟩;(have hb9:Below w2.heap.size w2 w8:=Below.trans bE (hb8.mono lE));(have hs9:=hb9.size);(obtain ⟨A8,c8,hv8,_⟩:=own_src ho8');subst hv8;(have HO2:=Lib.hid (fun W (hW:Below w8.heap.size w8 W)=>own_below (own_low (base':=w2.heap.size) ho8' lE) hW));(try (have hc1:=Below.trans hc1 (hb8.mono hc1.size)));(try (have hc2:=Below.trans hc2 (hb8.mono hc2.size)));(try (have hc3:=Below.trans hc3 (hb8.mono hc3.size)));(try (have rP:=(by first|exact Row.below rP hb8 rP.lt|exact Row.below rP.drew hb8 rP.drew.lt);obtain ⟨p0,p1,p2,p3,p4⟩:=rP.five';have pz0:=rP.frozen 0;have pz1:=rP.frozen 1;have pz2:=rP.frozen 2;have pz3:=rP.frozen 3;have pz4:=rP.frozen 4));(have hc2:=Below.refl w8.heap.size w8)))
   (try go_wp2_with fail)
   refine hKK.out _ _ ?_ (fun hHeld=>?_)
   ·(try dsimp only);(first|(with_reducible exact HK6.out _ bE)|assumption)
   clear hKK KK
   try simp only[Act.put,List.setIfInBounds_toArray,List.set_cons_zero,List.set_cons_succ]
   refine rd1 7 (some 25) rfl (fun KK hKK=>?_)
   go_simp
   (go_at_call 24;first|((with_reducible refine Calls.mono (HT1.out _ ?hbb) ?_);(case hbb=>exact bE);rintro e w8 ⟨v8,rfl,ho8',hw8,hb8⟩;(have hb9:Below w2.heap.size w2 w8:=Below.trans bE (hb8.mono lE));(have hs9:=hb9.size);(obtain ⟨A8,c8,hv8,_⟩:=own_src ho8');subst hv8;(have HO1:=Lib.hid (fun W (hW:Below w8.heap.size w8 W)=>own_below (own_low (base':=w2.heap.size) ho8' lE) hW));(try (have hc1:=Below.trans hc1 (hb8.mono hc1.size)));(try (have hc2:=Below.trans hc2 (hb8.mono hc2.size)));(try (have hc3:=Below.trans hc3 (hb8.mono hc3.size)));(try (have rP:=(by first|exact Row.below rP hb8 rP.lt|exact Row.below rP.drew hb8 rP.drew.lt);obtain ⟨p0,p1,p2,p3,p4⟩:=rP.five';have pz0:=rP.frozen 0;have pz1:=rP.frozen 1;have pz2:=rP.frozen 2;have pz3:=rP.frozen 3;have pz4:=rP.frozen 4));(have hc1:=Below.refl w8.heap.size w8))|((with_reducible refine Calls.mono (HT2.out _ ?hbb) ?_);(case hbb=>exact bE);rintro e w8 ⟨v8,rfl,ho8',hw8,hb8⟩;(have hb9:Below w2.heap.size w2 w8:=Below.trans bE (hb8.mono lE));(have hs9:=hb9.size);(obtain ⟨A8,c8,hv8,_⟩:=own_src ho8');subst hv8;(have HO2:=Lib.hid (fun W (hW:Below w8.heap.size w8 W)=>own_below (own_low (base':=w2.heap.size) ho8' lE) hW));(try (have hc1:=Below.trans hc1 (hb8.mono hc1.size)));(try (have hc2:=Below.trans hc2 (hb8.mono hc2.size)));(try (have hc3:=Below.trans hc3 (hb8.mono hc3.size)));(try (have rP:=(by first|exact Row.below rP hb8 rP.lt|exact Row.below rP.drew hb8 rP.drew.lt);obtain ⟨p0,p1,p2,p3,p4⟩:=rP.five';have pz0:=rP.frozen 0;have pz1:=rP.frozen 1;have pz2:=rP.frozen 2;have pz3:=rP.frozen 3;have pz4:=rP.frozen 4));(have hc2:=Below.refl w8.heap.size w8)))
   (try go_wp2_with fail)
   refine hKK.out _ _ ?_ (fun hHeld=>?_)
   ·(try dsimp only);(first|(with_reducible exact HK6.out _ bE)|assumption)
   clear hKK KK
   try simp only[Act.put,List.setIfInBounds_toArray,List.set_cons_zero,List.set_cons_succ]
   refine rd1 13 (some 31) rfl (fun KK hKK=>?_)
   go_simp
   (go_at_call 25;(with_reducible refine Calls.mono (HT3.out _ ?hbb) ?_);(case hbb=>exact bE);rintro e w8 ⟨v8,rfl,ho8',hb8⟩;(have hb9:Below w2.heap.size w2 w8:=Below.trans bE (hb8.mono lE));(have hs9:=hb9.size);(obtain ⟨A8,c8,hv8,_⟩:=own_src ho8');subst hv8;(have HO3:=Lib.hid (fun W (hW:Below w8.heap.size w8 W)=>own_below (own_low (base':=w2.heap.size) ho8' lE) hW));(try (have hc1:=Below.trans hc1 (hb8.mono hc1.size)));(try (have hc2:=Below.trans hc2 (hb8.mono hc2.size)));(try (have hc3:=Below.trans hc3 (hb8.mono hc3.size)));(try (have rP:=(by first|exact Row.below rP hb8 rP.lt|exact Row.below rP.drew hb8 rP.drew.lt);obtain ⟨p0,p1,p2,p3,p4⟩:=rP.five';have pz0:=rP.frozen 0;have pz1:=rP.frozen 1;have pz2:=rP.frozen 2;have pz3:=rP.frozen 3;have pz4:=rP.frozen 4));(have hc3:=Below.refl w8.heap.size w8))
   (try go_wp2_with fail)
   refine hKK.out _ _ ?_ (fun hHeld=>?_)
   ·(try dsimp only);(first|(with_reducible exact HK6.out _ bE)|assumption)
   clear hKK KK
   try simp only[Act.put,List.setIfInBounds_toArray,List.set_cons_zero,List.set_cons_succ]
   refine tk 14 (some 32) rfl ?_
   refine rd1 16 none rfl (fun KK hKK=>?_)
   go_simp
   refine hKK.out _ _ ?_ (fun hHeld=>?_)
   ·(try dsimp only);(first|(with_reducible exact HK6.out _ bE)|assumption)
   clear hKK KK
   try simp only[Act.put,List.setIfInBounds_toArray,List.set_cons_zero,List.set_cons_succ]
   (try (first|(have hdup:=rP.lt;clear hdup)|(generalize hP5:World.alloc _ (Obj.cells _ 37)=w9 at*;obtain ⟨rP,bP9⟩:=row_of_alloc hP5;(have hb9:Below w2.heap.size w2 w9:=Below.trans bE (bP9.mono lE));(have hs9:=hb9.size);clear hP5;(try (have hc1:=Below.trans hc1 (bP9.mono hc1.size)));(try (have hc2:=Below.trans hc2 (bP9.mono hc2.size)));(try (have hc3:=Below.trans hc3 (bP9.mono hc3.size)));obtain ⟨p0,p1,p2,p3,p4⟩:=rP.five';have pz0:=rP.frozen 0;have pz1:=rP.frozen 1;have pz2:=rP.frozen 2;have pz3:=rP.frozen 3;have pz4:=rP.frozen 4)))
   refine wpAnyH_done (by kernel_rfl) ?_ _
   go_wp2_with fail
   go_meet
   exact ⟨_,_,_,_,rfl,EmSt.start hb9 HB2.out HG2.out HR2.out rP (by first|omega|simp|(simp;omega)) (HO1.out _ hc1) (HO2.out _ hc2) (HO3.out _ hc3)⟩
 case rest=>
 obtain ⟨P,vi',vo',vc',rfl,HE⟩:=hcut
 clear HT1 HT2 HT3 HK6 HB2 HG2 HR2
 obtain ⟨f0,f1,f2,f3,f4,f5⟩:=HE.out.g.six'
 go_wp2_with fail
 clear f0 f1 f2 f3 f4 f5
 go_loopw[36] (fun i wr=>∃(k:Nat) (v5:Value),k≤f.ins.length∧i= .int .i64 k∧Hid (EmSt f w wr w2.heap.size P #[(.slice Aw f.wires.length cw),(.slice Aa f.acts.length ca),(.slice Acc f.cells.length cc),(.slice Akk f.keeps.length ck),(.slice Ai f.ins.length ci),(.slice Ao f.outs.length co)] vi' vo' vc' v5 (portsC 28 0 (f.ins.take k)))) (fun i _=>f.ins.length-(intOf i).toNat)
 case atStart=>exact ⟨0,_,Nat.zero_le _,rfl,(by have:=HE.out;rw[List.take_zero];exact this)⟩
 case round=>
  clear HE
  obtain ⟨k,v5,hk,rfl,HS⟩:=hrel
  by_cases hlt:k<f.ins.length
  ·obtain ⟨A',c',hA',_,_,sl⟩:=(HFM.out _ HS.out.bel).ins
   injection hA' with hA1 _ hA3
   subst hA1;subst hA3
   obtain ⟨b,off,n,rfl,hbb,hx,wx,d0⟩:=sl.int hlt
   clear sl
   have HTK:Hid (portsC 28 0 (f.ins.take (k+1))=(portsC 28 0 (f.ins.take k))++ [⟨28,n,0,0,(k:Int)⟩]):=by
    show _=_
    rw[take_snoc' hx,portsC_snoc,List.length_take,Nat.min_eq_left (by omega),Nat.zero_add]
   have hll:(portsC 28 0 (f.ins.take k)).length≤20000000:=by
    rw[portsC_len,List.length_take];omega
   generalize portsC 28 0 (f.ins.take k)=L at*
   have q4:=HS.out.p.row.cell 4
   simp only[List.getElem?_toArray,List.getElem?_cons_zero,List.getElem?_cons_succ] at q4
   have hs3:=HS.out.hs
   have hPl:=HS.out.p.row.lt
   go_wp2_with (at_builtin;refine wpList_append_own _ rfl _ _ 35 rfl w2.heap.size 58 i0 (.agg zi5) 5 40 Tryz.underlying35 hi0 hz0 hz1 hz2 rfl (by decide) _ _ _ rfl (HS.out.p.own.alloc _) ⟨wr.heap.size,0,none⟩ 1 1 (in5C ⟨28,n,0,0,(k:Int)⟩) rfl rfl (cells_new _ _ _) (in5C_one _) (by unfold maxLen;omega) (by omega) (by simp;omega) ?_)
   intro v' w4 hown hgrow _
   have hp3a:=HS.out.p.below ((Below.refl _ wr).alloc (Nat.le_refl _) (.cells #[.int .i64 (28),.int .i64 (n),.int .i64 (0),.int .i64 (0),.int .i64 ((k:Int))] 58))
   have hown':w4.ownsRow w2.heap.size 58 5 v' (L.length+ [(⟨28,n,0,0,(k:Int)⟩:In5)].length) (in5F L++in5F [⟨28,n,0,0,(k:Int)⟩]):=by simpa[in5F] using hown
   have hnx:=hp3a.next hown' hgrow
   have hrw:=hp3a.row.grownE hgrow (own_ne hp3a.own hp3a.row (by decide))
   have q5:=hrw.cell 4
   have z5:=hrw.frozen 4
   simp only[List.getElem?_toArray,List.getElem?_cons_zero,List.getElem?_cons_succ] at q5
   obtain ⟨A5,c5,hv5,_⟩:=own_src hown
   subst hv5
   have HNX:Hid (EmSt f w (w4.setCell ⟨P,4,none⟩ (.slice A5 (L.length+1) c5)) w2.heap.size P #[(.slice Aw f.wires.length cw),(.slice Aa f.acts.length ca),(.slice Acc f.cells.length cc),(.slice Akk f.keeps.length ck),(.slice (some ⟨b,off,none⟩) f.ins.length ci),(.slice Ao f.outs.length co)] vi' vo' vc' (.slice A5 (L.length+1) c5) (portsC 28 0 (f.ins.take (k+1)))):=by
    show EmSt _ _ _ _ _ _ _ _ _ _ _
    rw[HTK.out];exact HS.out.fri ((FrI.of_below ((Below.refl _ wr).alloc (Nat.le_refl _) (.cells #[.int .i64 (28),.int .i64 (n),.int .i64 (0),.int .i64 (0),.int .i64 ((k:Int))] 58))).trans hnx.2) hnx.1
   clear hown hown' hgrow hnx hrw hp3a q4
   go_wp2_with fail
   go_roundw
   case rel=>exact ⟨k+1,_,by omega,by go_num,HNX⟩
   case measure=>simp[intOf];omega
  obtain rfl:k=f.ins.length:=by omega
  have HE1:Hid (EmSt f w wr w2.heap.size P #[(.slice Aw f.wires.length cw),(.slice Aa f.acts.length ca),(.slice Acc f.cells.length cc),(.slice Akk f.keeps.length ck),(.slice Ai f.ins.length ci),(.slice Ao f.outs.length co)] vi' vo' vc' v5 (portsC 28 0 f.ins)):=by have:=HS.out;rw[List.take_length] at this;exact this
  clear HS hlt
  obtain ⟨f0,f1,f2,f3,f4,f5⟩:=HE1.out.g.six'
  go_wp2_with fail
  clear f0 f1 f2 f3 f4 f5
  obtain ⟨wo,hwo⟩:∃wo:World,wo=wr:=⟨_,rfl⟩
  subst hwo
  go_loopw[7,53] (fun v7 i wr=>∃(k:Nat) (lv:List Stv),k≤f.acts.length∧i= .int .i64 k∧Hid (EmSt f w wr w2.heap.size P #[(.slice Aw f.wires.length cw),(.slice Aa f.acts.length ca),(.slice Acc f.cells.length cc),(.slice Akk f.keeps.length ck),(.slice Ai f.ins.length ci),(.slice Ao f.outs.length co)] vi' vo' vc' v5 (portsC 28 0 f.ins))∧Hid (lv.map (·.1)=(f.acts.take k).map (actStp f))∧Hid (StO w wr w2.heap.size v7 lv)) (fun _ i _=>f.acts.length-(intOf i).toNat)
  case atStart=>exact ⟨0,[],Nat.zero_le _,rfl,HE1.out,rfl,⟨World.ownsRow_nil _ _ _ _,by simp⟩⟩
  case round=>
   clear HE1
   obtain ⟨k,lv,hk,rfl,HS,HL,HSO⟩:=hrel
   have hlvl:lv.length≤1700:=by
    have:=congrArg List.length HL.out
    simp only[List.length_map,List.length_take] at this
    omega
   by_cases hlt:k<f.acts.length
   ·obtain ⟨A',c',hA',_,_,sl⟩:=(HFM.out _ HS.out.bel).acts
    injection hA' with hA1 _ hA3
    subst hA1;subst hA3
    obtain ⟨b,off,⟨xo,xd,xa,xb,xc,xk⟩,rfl,hbb,hx,wx,d0,d1,d2,d3,d4,d5⟩:=sl.ac hlt
    dsimp only at d0 d1 d2 d3 d4 d5
    have HX:=Lib.hid hx
    have hw:=(HOK.out.1.2.2.2.2.1.2.1 _ (List.mem_of_getElem? hx)).1
    obtain ⟨m,b6,off6,cw6,Ag6,cg6,hmd,hm,hvw,_,_,_,_,_,g1,lg6,mg6,sg6⟩:=fm_wire (HFM.out w (Below.refl _ _)) hw
    have hmd':xd=(m:Int):=hmd
    subst hmd'
    injection hvw with hv1 _ hv3
    subst hv1;subst hv3
    have g2:=cell_kept g1 HS.out.bel
    have hm':(m:Int)<f.wires.length:=by omega
    generalize hclk:clockOf f (m:Int)=clk at*
    have HCK:=Lib.hid hclk
    have HGS:Hid (SlV w w.heap.size 2 isGd (.slice Ag6 clk.length cg6) clk):=⟨_,_,rfl,lg6,mg6,sg6⟩
    obtain ⟨⟨y0,y1,y2,y3,y4⟩,hy⟩:∃y,instrOf ⟨xo,(m:Int),xa,xb,xc,xk⟩=y:=⟨_,rfl⟩
    have HY:=Lib.hid hy
    have HYO:Hid (In5Ok ⟨y0,y1,y2,y3,y4⟩):=by have:=instrOf_ok wx;rw[hy] at this;exact this
    have HIN:Hid (∀W,Calls Tryz.prog 26 #[acV ⟨xo,(m:Int),xa,xb,xc,xk⟩] W fun e w'=>e= .returned (.agg #[.int .i64 y0,.int .i64 y1,.int .i64 y2,.int .i64 y3,.int .i64 y4])∧Below W.heap.size W w'):=fun W=>by have:=einstr_any ⟨xo,(m:Int),xa,xb,xc,xk⟩ W;rw[hy] at this;exact this
    clear hy
    have rX:=Row.new wr #[.int .i64 xo,.int .i64 (m:Int),.int .i64 xa,.int .i64 xb,.int .i64 xc,.int .i64 xk] 56
    have b3:Below wr.heap.size wr (wr.alloc (.cells #[.int .i64 xo,.int .i64 (m:Int),.int .i64 xa,.int .i64 xb,.int .i64 xc,.int .i64 xk] 56)):=bE
    have HS3:=Lib.hid (HS.out.below b3)
    have HSO3:=Lib.hid (HSO.out.below b3)
    have hg2:=World.block_lt_of_cell? wr _ g2
    have hb6:b6<w.heap.size:=World.block_lt_of_cell? w _ g1
    have hbase:=HS.out.hb
    have g3:=cell_kept g2 b3
    go_upto_region 13 with (fail)
    generalize hw3:wr.alloc (.cells #[.int .i64 xo,.int .i64 (m:Int),.int .i64 xa,.int .i64 xb,.int .i64 xc,.int .i64 xk] 56)=w3 at*
    have hs3:=HS3.out.hs
    have HK:Hid (∀W,FrX 68 w2.heap.size w3 W→W.cell? ⟨wr.heap.size,0,none⟩=some (.int .i64 xo)∧W.cell? ⟨wr.heap.size,1,none⟩=some (.int .i64 (m:Int))∧W.cell? ⟨wr.heap.size,2,none⟩=some (.int .i64 xa)∧W.cell? ⟨wr.heap.size,3,none⟩=some (.int .i64 xb)∧W.cell? ⟨wr.heap.size,4,none⟩=some (.int .i64 xc)∧W.cell? ⟨wr.heap.size,5,none⟩=some (.int .i64 xk)∧W.cell? ⟨w.heap.size,0,none⟩=some (.slice (some ⟨b6,off6,none⟩) f.wires.length cw)∧W.cell? ⟨b6,off6+m*2+1,none⟩=some (.slice Ag6 clk.length cg6)):=fun W hW=>by
     have r1:=hW.row rX (by decide)
     have r2:=(hW.row HS3.out.g (by decide)).cell 0
     have r3:W.cell? ⟨b6,off6+m*2+1,none⟩=some (.slice Ag6 clk.length cg6):=by
      rw[World.cell?_of_block (hW.block b6 (by have:=b3.size;omega) (.inl (by omega)))]
      exact g3
     simp only[List.getElem?_toArray,List.getElem?_cons_zero] at r2
     exact ⟨r1.cell 0,r1.cell 1,r1.cell 2,r1.cell 3,r1.cell 4,r1.cell 5,r2,r3⟩
    clear hw3 b3 g1 g2 g3 rX sl hclk hmd hx d0 d1 d2 d3 d4 d5
    refine wp_region_held_drew (S:=fun W=>W.cell? ⟨wr.heap.size,0,none⟩=some (.int .i64 xo)∧W.cell? ⟨wr.heap.size,1,none⟩=some (.int .i64 (m:Int))∧W.cell? ⟨wr.heap.size,2,none⟩=some (.int .i64 xa)∧W.cell? ⟨wr.heap.size,3,none⟩=some (.int .i64 xb)∧W.cell? ⟨wr.heap.size,4,none⟩=some (.int .i64 xc)∧W.cell? ⟨wr.heap.size,5,none⟩=some (.int .i64 xk)∧W.cell? ⟨w.heap.size,0,none⟩=some (.slice (some ⟨b6,off6,none⟩) f.wires.length cw)∧W.cell? ⟨b6,off6+m*2+1,none⟩=some (.slice Ag6 clk.length cg6)) (by kernel_rfl) ?_ (fun hHeld=>?_)
    ·(try dsimp only);(first|(with_reducible exact HK.out _ hf13)|(with_reducible exact HK.out _ hf9)|exact HK.out _ (FrX.of_below (by first|exact Below.refl _ _|exact (Below.refl _ _).drew))|exact HK.out _ (FrX.trans hf9 (FrX.of_below ((Below.refl _ _).alloc (Nat.le_refl _) _)))|exact HK.out _ (FrX.of_below ((Below.refl _ _).drew.alloc (Nat.le_refl _) _)))
    refine tk 0 (some 57) rfl ?_
    refine tk 1 (some 58) rfl ?_
    refine tk 3 (some 60) rfl ?_
    refine tk 4 (some 61) rfl ?_
    refine tk 5 (some 62) rfl ?_
    refine tk 6 (some 63) rfl ?_
    refine tk 7 (some 64) rfl ?_
    refine tk 8 (some 65) rfl ?_
    refine tk 9 (some 66) rfl ?_
    refine rd1 2 (some 59) rfl (fun KK hKK=>?_)
    go_simp
    (go_at_call 26;refine Calls.mono (HIN.out _) ?_;rintro e w8 ⟨rfl,hb8⟩;(have hb9:Below w3.heap.size w3 w8:=Below.trans bE (hb8.mono lE));(have hs9:=hb9.size);(have hf9:FrX 68 w2.heap.size w3 w8:=FrX.of_below hb9))
    (try go_wp2_with fail)
    refine hKK.out _ _ ?_ (fun hHeld=>?_)
    ·(try dsimp only);(first|(with_reducible exact HK.out _ hf13)|(with_reducible exact HK.out _ hf9)|exact HK.out _ (FrX.of_below (by first|exact Below.refl _ _|exact (Below.refl _ _).drew))|exact HK.out _ (FrX.trans hf9 (FrX.of_below ((Below.refl _ _).alloc (Nat.le_refl _) _)))|exact HK.out _ (FrX.of_below ((Below.refl _ _).drew.alloc (Nat.le_refl _) _)))
    clear hKK KK
    try simp only[Act.put,List.setIfInBounds_toArray,List.set_cons_zero,List.set_cons_succ]
    refine tk 10 (some 67) rfl ?_
    refine rd1 11 (some 68) rfl (fun KK hKK=>?_)
    go_simp
    refine hKK.out _ _ ?_ (fun hHeld=>?_)
    ·(try dsimp only);(first|(with_reducible exact HK.out _ hf13)|(with_reducible exact HK.out _ hf9)|exact HK.out _ (FrX.of_below (by first|exact Below.refl _ _|exact (Below.refl _ _).drew))|exact HK.out _ (FrX.trans hf9 (FrX.of_below ((Below.refl _ _).alloc (Nat.le_refl _) _)))|exact HK.out _ (FrX.of_below ((Below.refl _ _).drew.alloc (Nat.le_refl _) _)))
    clear hKK KK
    try simp only[Act.put,List.setIfInBounds_toArray,List.set_cons_zero,List.set_cons_succ]
    refine rd1 12 (some 69) rfl (fun KK hKK=>?_)
    (rw[if_pos (by kernel_rfl)];refine step_own (.tmp 57) (.tmp 68) 65 rfl w2.heap.size 68 j0 (.agg #[.int .i64 0,.int .i64 0,.int .i64 0,.int .i64 0,.int .i64 0,.slice none 0 0]) 6 64 Tryz.underlying65 hj0 hy0 hy1 hy2 rfl (by decide) _ lv.length (stF lv) rfl (HSO3.out.below bE).own (some ⟨_,0,none⟩) 1 1 (stvC ((⟨y0,y1,y2,y3,y4⟩,clk),.slice Ag6 clk.length cg6)) rfl NilOk.some rfl (fun ad he=>by injection he with he;subst he;exact cells_new _ _ _) (stv_one _ _ _ _ _ _ _ _ _) (by unfold maxLen;omega) (by omega) (by first|omega|(simp;omega)|simp) ?_;intro v13 w13 hown13 hg13;(have hf13:FrX 68 w2.heap.size w3 w13:=(FrX.of_below bE).trans (FrX.grown (HSO3.out.below bE).own hg13)))
    refine hKK.out _ _ ?_ (fun hHeld=>?_)
    ·(try dsimp only);(first|(with_reducible exact HK.out _ hf13)|(with_reducible exact HK.out _ hf9)|exact HK.out _ (FrX.of_below (by first|exact Below.refl _ _|exact (Below.refl _ _).drew))|exact HK.out _ (FrX.trans hf9 (FrX.of_below ((Below.refl _ _).alloc (Nat.le_refl _) _)))|exact HK.out _ (FrX.of_below ((Below.refl _ _).drew.alloc (Nat.le_refl _) _)))
    clear hKK KK
    try simp only[Act.put,List.setIfInBounds_toArray,List.set_cons_zero,List.set_cons_succ]
    refine tk 13 (some 7) rfl ?_
    refine wpAnyH_done (by kernel_rfl) ?_ _
    have HS13:=Lib.hid (HS3.out.frx hf13)
    have HLV:Hid ((lv++ [(((⟨y0,y1,y2,y3,y4⟩:In5),clk),Value.slice Ag6 clk.length cg6)]:List Stv).map (·.1)=(f.acts.take (k+1)).map (actStp f)):=by
     show _=_
     rw[List.map_append,HL.out,take_snoc' HX.out,List.map_append,List.map_singleton,List.map_singleton]
     simp only[actStp,HCK.out,HY.out]
    have HSN:Hid (StO w w13 w2.heap.size v13 (lv++ [((⟨y0,y1,y2,y3,y4⟩,clk),Value.slice Ag6 clk.length cg6)])):=by
     refine ⟨by rw[stF_snoc,List.length_append];exact hown13,fun s hs=>?_⟩
     rcases List.mem_append.1 hs with h|h
     ·exact HSO.out.ok s h
     ·simp at h;rw[h];exact ⟨HYO.out,HGS.out⟩
    clear hf13 hown13 hg13 hHeld HK
    go_wp2_with fail
    go_roundw
    case rel=>exact ⟨k+1,_,by omega,by go_num,HS13,HLV,HSN⟩
    case measure=>simp[intOf];omega
   obtain rfl:k=f.acts.length:=by omega
   have HE1:Hid (lv.map (·.1)=f.acts.map (actStp f)):=by have:=HL.out;rw[List.take_length] at this;exact this
   have HSA:=HS
   have HSB:=HSO
   clear HS HSO HL hlt hlvl
   obtain ⟨f0,f1,f2,f3,f4,f5⟩:=HSA.out.g.six'
   go_wp2_with fail
   clear f0 f1 f2 f3 f4 f5
   obtain ⟨wo2,hwo2⟩:∃wo2:World,wo2=wr:=⟨_,rfl⟩
   subst hwo2
   have HLA:=HE1
   go_loopw[7,74] (fun v7 i wr=>∃(k:Nat) (lv:List Stv),k≤f.keeps.length∧i= .int .i64 k∧Hid (EmSt f w wr w2.heap.size P #[(.slice Aw f.wires.length cw),(.slice Aa f.acts.length ca),(.slice Acc f.cells.length cc),(.slice Akk f.keeps.length ck),(.slice Ai f.ins.length ci),(.slice Ao f.outs.length co)] vi' vo' vc' v5 (portsC 28 0 f.ins))∧Hid (lv.map (·.1)=f.acts.map (actStp f)++(f.keeps.take k).map (keepStp f))∧Hid (StO w wr w2.heap.size v7 lv)) (fun _ i _=>f.keeps.length-(intOf i).toNat)
   case atStart=>exact ⟨0,lv,Nat.zero_le _,rfl,HSA.out,(by show _=_;rw[HLA.out];simp),HSB.out⟩
   case round=>
    clear HE1 HSA HSB HLA
    clear lv
    obtain ⟨k,lv,hk,rfl,HS,HL,HSO⟩:=hrel
    have hlvl:lv.length≤1700:=by
     have:=congrArg List.length HL.out
     simp only[List.length_map,List.length_append,List.length_take] at this
     omega
    by_cases hlt:k<f.keeps.length
    ·obtain ⟨A',c',hA',_,_,sl⟩:=(HFM.out _ HS.out.bel).keeps
     injection hA' with hA1 _ hA3
     subst hA1;subst hA3
     obtain ⟨b,off,⟨xc,xf⟩,rfl,hbb,hx,wx,wx',d0,d1⟩:=sl.cell hlt
     dsimp only at d0 d1 wx wx'
     have HX:=Lib.hid hx
     have hw:=(HOK.out.1.2.2.2.1.2.2.1 _ (List.mem_of_getElem? hx)).2.2.1
     obtain ⟨m,b6,off6,cw6,Ag6,cg6,hmd,hm,hvw,_,_,_,_,_,g1,lg6,mg6,sg6⟩:=fm_wire (HFM.out w (Below.refl _ _)) hw
     have hmd':xf=(m:Int):=hmd
     subst hmd'
     injection hvw with hv1 _ hv3
     subst hv1;subst hv3
     have g2:=cell_kept g1 HS.out.bel
     have hm':(m:Int)<f.wires.length:=by omega
     generalize hclk:clockOf f (m:Int)=clk at*
     have HCK:=Lib.hid hclk
     have HGS:Hid (SlV w w.heap.size 2 isGd (.slice Ag6 clk.length cg6) clk):=⟨_,_,rfl,lg6,mg6,sg6⟩
     have HYO:Hid (In5Ok ⟨32,(m:Int),0,0,xc⟩):=⟨wf_of (by dsimp only;omega),wx',wf_of (by dsimp only;omega),wf_of (by dsimp only;omega),wx⟩
     have rX:=Row.new wr #[.int .i64 xc,.int .i64 (m:Int)] 70
     have b3:Below wr.heap.size wr (wr.alloc (.cells #[.int .i64 xc,.int .i64 (m:Int)] 70)):=bE
     have HS3:=Lib.hid (HS.out.below b3)
     have HSO3:=Lib.hid (HSO.out.below b3)
     have hg2:=World.block_lt_of_cell? wr _ g2
     have hb6:b6<w.heap.size:=World.block_lt_of_cell? w _ g1
     have hbase:=HS.out.hb
     have g3:=cell_kept g2 b3
     go_upto_region 18 with (fail)
     generalize hw3:wr.alloc (.cells #[.int .i64 xc,.int .i64 (m:Int)] 70)=w3 at*
     have hs3:=HS3.out.hs
     have HK:Hid (∀W,FrX 68 w2.heap.size w3 W→W.cell? ⟨wr.heap.size,0,none⟩=some (.int .i64 xc)∧W.cell? ⟨wr.heap.size,1,none⟩=some (.int .i64 (m:Int))∧W.cell? ⟨w.heap.size,0,none⟩=some (.slice (some ⟨b6,off6,none⟩) f.wires.length cw)∧W.cell? ⟨b6,off6+m*2+1,none⟩=some (.slice Ag6 clk.length cg6)):=fun W hW=>by
      have r1:=hW.row rX (by decide)
      have r2:=(hW.row HS3.out.g (by decide)).cell 0
      have r3:W.cell? ⟨b6,off6+m*2+1,none⟩=some (.slice Ag6 clk.length cg6):=by
       rw[World.cell?_of_block (hW.block b6 (by have:=b3.size;omega) (.inl (by omega)))]
       exact g3
      simp only[List.getElem?_toArray,List.getElem?_cons_zero] at r2
      exact ⟨r1.cell 0,r1.cell 1,r2,r3⟩
     clear hw3 b3 g1 g2 g3 rX sl hclk hmd hx d0 d1
     refine wp_region_held_drew (S:=fun W=>W.cell? ⟨wr.heap.size,0,none⟩=some (.int .i64 xc)∧W.cell? ⟨wr.heap.size,1,none⟩=some (.int .i64 (m:Int))∧W.cell? ⟨w.heap.size,0,none⟩=some (.slice (some ⟨b6,off6,none⟩) f.wires.length cw)∧W.cell? ⟨b6,off6+m*2+1,none⟩=some (.slice Ag6 clk.length cg6)) (by kernel_rfl) ?_ (fun hHeld=>?_)
     ·(try dsimp only);(first|(with_reducible exact HK.out _ hf13)|(with_reducible exact HK.out _ hf9)|exact HK.out _ (FrX.of_below (by first|exact Below.refl _ _|exact (Below.refl _ _).drew))|exact HK.out _ (FrX.trans hf9 (FrX.of_below ((Below.refl _ _).alloc (Nat.le_refl _) _)))|exact HK.out _ (FrX.of_below ((Below.refl _ _).drew.alloc (Nat.le_refl _) _)))
     refine tk 0 (some 78) rfl ?_
     refine tk 1 (some 79) rfl ?_
     refine tk 2 (some 80) rfl ?_
     refine tk 3 (some 81) rfl ?_
     refine tk 4 (some 82) rfl ?_
     refine tk 5 (some 83) rfl ?_
     refine tk 6 (some 84) rfl ?_
     refine tk 7 (some 85) rfl ?_
     refine tk 8 (some 86) rfl ?_
     refine tk 9 (some 87) rfl ?_
     refine tk 10 (some 88) rfl ?_
     refine tk 11 (some 89) rfl ?_
     refine tk 12 (some 90) rfl ?_
     refine tk 13 (some 91) rfl ?_
     refine rd1 14 (some 92) rfl (fun KK hKK=>?_)
     go_simp
     refine hKK.out _ _ ?_ (fun hHeld=>?_)
     ·(try dsimp only);(first|(with_reducible exact HK.out _ hf13)|(with_reducible exact HK.out _ hf9)|exact HK.out _ (FrX.of_below (by first|exact Below.refl _ _|exact (Below.refl _ _).drew))|exact HK.out _ (FrX.trans hf9 (FrX.of_below ((Below.refl _ _).alloc (Nat.le_refl _) _)))|exact HK.out _ (FrX.of_below ((Below.refl _ _).drew.alloc (Nat.le_refl _) _)))
     clear hKK KK
     try simp only[Act.put,List.setIfInBounds_toArray,List.set_cons_zero,List.set_cons_succ]
     refine rd1 15 (some 93) rfl (fun KK hKK=>?_)
     (rw[if_pos (by kernel_rfl)];refine step_own (.tmp 78) (.tmp 92) 65 rfl w2.heap.size 68 j0 (.agg #[.int .i64 0,.int .i64 0,.int .i64 0,.int .i64 0,.int .i64 0,.slice none 0 0]) 6 64 Tryz.underlying65 hj0 hy0 hy1 hy2 rfl (by decide) _ lv.length (stF lv) rfl (HSO3.out.below bE).own (some ⟨_,0,none⟩) 1 1 (stvC ((⟨32,(m:Int),0,0,xc⟩,clk),.slice Ag6 clk.length cg6)) rfl NilOk.some rfl (fun ad he=>by injection he with he;subst he;exact cells_new _ _ _) (stv_one _ _ _ _ _ _ _ _ _) (by unfold maxLen;omega) (by omega) (by first|omega|(simp;omega)|simp) ?_;intro v13 w13 hown13 hg13;(have hf13:FrX 68 w2.heap.size w3 w13:=(FrX.of_below bE).trans (FrX.grown (HSO3.out.below bE).own hg13)))
     refine hKK.out _ _ ?_ (fun hHeld=>?_)
     ·(try dsimp only);(first|(with_reducible exact HK.out _ hf13)|(with_reducible exact HK.out _ hf9)|exact HK.out _ (FrX.of_below (by first|exact Below.refl _ _|exact (Below.refl _ _).drew))|exact HK.out _ (FrX.trans hf9 (FrX.of_below ((Below.refl _ _).alloc (Nat.le_refl _) _)))|exact HK.out _ (FrX.of_below ((Below.refl _ _).drew.alloc (Nat.le_refl _) _)))
     clear hKK KK
     try simp only[Act.put,List.setIfInBounds_toArray,List.set_cons_zero,List.set_cons_succ]
     refine tk 16 (some 7) rfl ?_
     refine wpAnyH_done (by kernel_rfl) ?_ _
     have HS13:=Lib.hid (HS3.out.frx hf13)
     have HLV:Hid ((lv++ [(((⟨32,(m:Int),0,0,xc⟩:In5),clk),Value.slice Ag6 clk.length cg6)]:List Stv).map (·.1)=f.acts.map (actStp f)++(f.keeps.take (k+1)).map (keepStp f)):=by
      show _=_
      rw[List.map_append,HL.out,take_snoc' HX.out,List.map_append,←List.append_assoc,List.map_singleton,List.map_singleton]
      simp only[keepStp,HCK.out]
     have HSN:Hid (StO w w13 w2.heap.size v13 (lv++ [((⟨32,(m:Int),0,0,xc⟩,clk),Value.slice Ag6 clk.length cg6)])):=by
      refine ⟨by rw[stF_snoc,List.length_append];exact hown13,fun s hs=>?_⟩
      rcases List.mem_append.1 hs with h|h
      ·exact HSO.out.ok s h
      ·simp at h;rw[h];exact ⟨HYO.out,HGS.out⟩
     clear hf13 hown13 hg13 hHeld HK
     go_wp2_with fail
     go_roundw
     case rel=>exact ⟨k+1,_,by omega,by go_num,HS13,HLV,HSN⟩
     case measure=>simp[intOf];omega
    obtain rfl:k=f.keeps.length:=by omega
    have HLS:Hid (lv.map (·.1)=stepsOf f):=by have:=HL.out;rw[List.take_length] at this;exact this
    have hlv16:lv.length≤1660:=by
     have:=congrArg List.length HLS.out
     simp only[List.length_map,stepsOf,List.length_append] at this
     omega
    have HCLK:Hid (∀s∈lv,s.1.2.length≤1600):=fun s hs=>steps_clock HOK.out.1 s.1 (by rw[←HLS.out];exact List.mem_map.2 ⟨s,hs,rfl⟩)
    have hbb:=HS.out.hb
    have HRN:=Lib.hid (runs_any (w:=wr) (base:=w2.heap.size) (P:=P) (C:=w.heap.size) vi' vo' (.int .i64 f.wires.length) vc' v5 (portsC 28 0 f.ins) lv _ HS.out.p HS.out.hs (by omega)
     (fun W hW=>((HSO.out.fri hW HS.out.p.row).slv (HS.out.bel.trans ((hW.below HS.out.hbP HS.out.hs).mono (by omega)))).cutB (fun k hk=>(HSO.out.own.lt k hk).2)) HCLK.out (by rw[portsC_len];omega) (by omega))
    obtain ⟨f0,f1,f2,f3,f4,f5⟩:=HS.out.g.six'
    go_wp2_with fail
    (with_reducible refine HRN.out.mono ?_)
    rintro e w20 ⟨rfl,body,v6,hRuns,hpA,hfr⟩
    have HS20:=Lib.hid (HS.out.fri hfr hpA)
    have HBO:Hid (∀x∈body,In5Ok x):=runs_ok hRuns (by rw[List.length_map];omega) (fun s hs=>by
     obtain ⟨x,hx,rfl⟩:=List.mem_map.1 hs
     obtain ⟨h1,h2⟩:=HSO.out.ok x hx
     exact ⟨h1,HCLK.out x hx,gds_wf h2⟩)
    have hbl:body.length≤3000000:=by
     have:=runs_len hRuns (fun s hs=>by
      obtain ⟨x,hx,rfl⟩:=List.mem_map.1 hs
      exact HCLK.out x hx)
     rw[List.length_map] at this
     omega
    have HEM:Hid (Runs (stepsOf f) body):=by
     show Runs _ _
     rw[←HLS.out];exact hRuns
    clear f0 f1 f2 f3 f4 f5 HRN hRuns hpA hfr HS HSO HLS HCLK HL hlvl hlt hlv16
    clear lv
    obtain ⟨f0,f1,f2,f3,f4,f5⟩:=HS20.out.g.six'
    go_wp2_with fail
    clear f0 f1 f2 f3 f4 f5
    go_loopw[101] (fun i wr=>∃(k:Nat) (v5:Value),k≤f.outs.length∧i= .int .i64 k∧Hid (EmSt f w wr w2.heap.size P #[(.slice Aw f.wires.length cw),(.slice Aa f.acts.length ca),(.slice Acc f.cells.length cc),(.slice Akk f.keeps.length ck),(.slice Ai f.ins.length ci),(.slice Ao f.outs.length co)] vi' vo' vc' v5 (portsC 28 0 f.ins++body++portsC 29 0 (f.outs.take k)))) (fun i _=>f.outs.length-(intOf i).toNat)
    case atStart=>exact ⟨0,_,Nat.zero_le _,rfl,(by rw[List.take_zero,show portsC 29 0 []=[] from rfl,List.append_nil];exact HS20.out)⟩
    case round=>
     clear HS20
     obtain ⟨k,v5,hk,rfl,HS⟩:=hrel
     by_cases hlt:k<f.outs.length
     ·obtain ⟨A',c',hA',_,_,sl⟩:=(HFM.out _ HS.out.bel).outs
      injection hA' with hA1 _ hA3
      subst hA1;subst hA3
      obtain ⟨b,off,n,rfl,hbb,hx,wx,d0⟩:=sl.int hlt
      clear sl
      have HTK:Hid (portsC 28 0 f.ins++body++portsC 29 0 (f.outs.take (k+1))=(portsC 28 0 f.ins++body++portsC 29 0 (f.outs.take k))++ [⟨29,n,0,0,(k:Int)⟩]):=by
       show _=_
       rw[take_snoc' hx,portsC_snoc,List.length_take,Nat.min_eq_left (by omega),Nat.zero_add,←List.append_assoc]
      have hll:(portsC 28 0 f.ins++body++portsC 29 0 (f.outs.take k)).length≤20000000:=by
       simp only[List.length_append,portsC_len,List.length_take];omega
      generalize portsC 28 0 f.ins++body++portsC 29 0 (f.outs.take k)=L at*
      have q4:=HS.out.p.row.cell 4
      simp only[List.getElem?_toArray,List.getElem?_cons_zero,List.getElem?_cons_succ] at q4
      have hs3:=HS.out.hs
      have hPl:=HS.out.p.row.lt
      go_wp2_with (at_builtin;refine wpList_append_own _ rfl _ _ 35 rfl w2.heap.size 58 i0 (.agg zi5) 5 40 Tryz.underlying35 hi0 hz0 hz1 hz2 rfl (by decide) _ _ _ rfl (HS.out.p.own.alloc _) ⟨wr.heap.size,0,none⟩ 1 1 (in5C ⟨29,n,0,0,(k:Int)⟩) rfl rfl (cells_new _ _ _) (in5C_one _) (by unfold maxLen;omega) (by omega) (by simp;omega) ?_)
      intro v' w4 hown hgrow _
      have hp3a:=HS.out.p.below ((Below.refl _ wr).alloc (Nat.le_refl _) (.cells #[.int .i64 (29),.int .i64 (n),.int .i64 (0),.int .i64 (0),.int .i64 ((k:Int))] 58))
      have hown':w4.ownsRow w2.heap.size 58 5 v' (L.length+ [(⟨29,n,0,0,(k:Int)⟩:In5)].length) (in5F L++in5F [⟨29,n,0,0,(k:Int)⟩]):=by simpa[in5F] using hown
      have hnx:=hp3a.next hown' hgrow
      have hrw:=hp3a.row.grownE hgrow (own_ne hp3a.own hp3a.row (by decide))
      have q5:=hrw.cell 4
      have z5:=hrw.frozen 4
      simp only[List.getElem?_toArray,List.getElem?_cons_zero,List.getElem?_cons_succ] at q5
      obtain ⟨A5,c5,hv5,_⟩:=own_src hown
      subst hv5
      have HNX:Hid (EmSt f w (w4.setCell ⟨P,4,none⟩ (.slice A5 (L.length+1) c5)) w2.heap.size P #[(.slice Aw f.wires.length cw),(.slice Aa f.acts.length ca),(.slice Acc f.cells.length cc),(.slice Akk f.keeps.length ck),(.slice Ai f.ins.length ci),(.slice (some ⟨b,off,none⟩) f.outs.length co)] vi' vo' vc' (.slice A5 (L.length+1) c5) (portsC 28 0 f.ins++body++portsC 29 0 (f.outs.take (k+1)))):=by
       show EmSt _ _ _ _ _ _ _ _ _ _ _
       rw[HTK.out];exact HS.out.fri ((FrI.of_below ((Below.refl _ wr).alloc (Nat.le_refl _) (.cells #[.int .i64 (29),.int .i64 (n),.int .i64 (0),.int .i64 (0),.int .i64 ((k:Int))] 58))).trans hnx.2) hnx.1
      clear hown hown' hgrow hnx hrw hp3a q4
      go_wp2_with fail
      go_roundw
      case rel=>exact ⟨k+1,_,by omega,by go_num,HNX⟩
      case measure=>simp[intOf];omega
     obtain rfl:k=f.outs.length:=by omega
     have HEMIT:Hid (Emits f (portsC 28 0 f.ins++body++portsC 29 0 f.outs)):=⟨body,HEM.out,rfl⟩
     have HEZ:Hid (EmSt f w wr w2.heap.size P #[(.slice Aw f.wires.length cw),(.slice Aa f.acts.length ca),(.slice Acc f.cells.length cc),(.slice Akk f.keeps.length ck),(.slice Ai f.ins.length ci),(.slice Ao f.outs.length co)] vi' vo' vc' v5 (portsC 28 0 f.ins++body++portsC 29 0 f.outs)):=by have:=HS.out;rw[List.take_length] at this;exact this
     have HCO:Hid (∀x∈portsC 28 0 f.ins++body++portsC 29 0 f.outs,In5Ok x):=fun x hx=>by
      have hwi:∀(l:List Int),(∀n∈l,isW f n)→∀n∈l,Wf n:=fun l hl n hn=>wf_of (by have:=hl n hn;have:=this.1;have:=(hl n hn).2;have:=HOK.out.1.1.2.2;omega)
      rcases List.mem_append.1 hx with h|h
      ·rcases List.mem_append.1 h with h|h
       ·exact ports_ok (by decide) f.ins 0 (by omega) (hwi _ HW1.out) x h
       ·exact HBO.out x h
      ·exact ports_ok (by decide) f.outs 0 (by omega) (hwi _ HW2.out) x h
     clear HS hlt HEM HBO
     generalize portsC 28 0 f.ins++body++portsC 29 0 f.outs=CD at*
     obtain ⟨A6,c6,rfl,_⟩:=own_src HEZ.out.p.own
     obtain ⟨A7,c7,rfl,_⟩:=own_src HEZ.out.oi
     obtain ⟨A8,c8,rfl,_⟩:=own_src HEZ.out.oo
     obtain ⟨A9,c9,rfl,_⟩:=own_src HEZ.out.oc
     obtain ⟨q0,q1,q2,q3,q4⟩:=HEZ.out.p.row.five'
     have rZ:Row wr (w.heap.size+1) #[.slice none 0 0,.slice none 0 0,.int .i64 0,.slice none 0 0,.slice none 0 0] 37:=HEZ.out.r
     obtain ⟨z0,z1,z2,z3,z4⟩:=rZ.five'
     have y0:=rZ.frozen 0
     have y1:=rZ.frozen 1
     have y2:=rZ.frozen 2
     have y3:=rZ.frozen 3
     have y4:=rZ.frozen 4
     have HZ:=Lib.hid rZ
     have HBEL:Hid (∀x0 x1 x2 x3 x4:Value,Below w.heap.size w (((((wr.setCell ⟨w.heap.size+1,0,none⟩ x0).setCell ⟨w.heap.size+1,1,none⟩ x1).setCell ⟨w.heap.size+1,2,none⟩ x2).setCell ⟨w.heap.size+1,3,none⟩ x3).setCell ⟨w.heap.size+1,4,none⟩ x4)):=fun _ _ _ _ _=>HEZ.out.bel.trans ((upd_set5 _ _ _ _ _).below (fun k hk=>by omega) HEZ.out.bel.size)
     clear rZ
     by_cases hbig:2048<CD.length
     ·have e0:decide (2048<(CD.length:Int))=true:=decide_eq_true (by omega)
      have HBIG:=Lib.hid hbig
      clear hbig
      go_wp2_with fail
      exact bodyPost_ret (res2 rfl Tryz.underlying37 rfl (by kernel_rfl) rfl rfl (HZ.out.set5' _ _ _ _ _)) rfl ⟨.inr ⟨HOK.out,CD,HEMIT.out,.inl ⟨HBIG.out,rfl⟩⟩,HBEL.out _ _ _ _ _⟩
     ·have e0:decide (2048<(CD.length:Int))=false:=decide_eq_false (by omega)
      have HBIG:Hid (CD.length≤2048):=by show _≤_;omega
      clear hbig
      have HPG:Hid (∀x0 x1 x2 x3 x4:Value,PgAt (((((wr.setCell ⟨w.heap.size+1,0,none⟩ x0).setCell ⟨w.heap.size+1,1,none⟩ x1).setCell ⟨w.heap.size+1,2,none⟩ x2).setCell ⟨w.heap.size+1,3,none⟩ x3).setCell ⟨w.heap.size+1,4,none⟩ x4) (((((wr.setCell ⟨w.heap.size+1,0,none⟩ x0).setCell ⟨w.heap.size+1,1,none⟩ x1).setCell ⟨w.heap.size+1,2,none⟩ x2).setCell ⟨w.heap.size+1,3,none⟩ x3).setCell ⟨w.heap.size+1,4,none⟩ x4).heap.size (progOf f CD) (.slice A7 f.ins.length c7) (.slice A8 f.outs.length c8) (.slice A9 f.cells.length c9) (.slice A6 CD.length c6)):=fun x0 x1 x2 x3 x4=>by
       have u:=upd_set5 (W:=wr) (b:=w.heap.size+1) x0 x1 x2 x3 x4
       have E:=HEZ.out
       exact ⟨ownI (own_updE E.oi u (fun k hk e=>own_ne E.oi HZ.out (by decide) (by rw[←e];exact hk))) HWFI.out,ownI (own_updE E.oo u (fun k hk e=>own_ne E.oo HZ.out (by decide) (by rw[←e];exact hk))) HWFO.out,
        wf_of (by have:=HOK.out.1.1.2.2;simp only[progOf];omega),own_cells (own_updE E.oc u (fun k hk e=>own_ne E.oc HZ.out (by decide) (by rw[←e];exact hk))) (cells_wf (HFM.out w (Below.refl _ _)).cells),
        own_in5 (own_updE E.p.own u (fun k hk e=>own_ne E.p.own HZ.out (by decide) (by rw[←e];exact hk))) HCO.out⟩
      go_wp2_with fail
      exact bodyPost_ret (res2 rfl Tryz.underlying37 rfl (by kernel_rfl) rfl rfl (HZ.out.set5' _ _ _ _ _)) rfl ⟨.inr ⟨HOK.out,CD,HEMIT.out,.inr ⟨HBIG.out,_,_,_,_,rfl,HPG.out _ _ _ _ _⟩⟩,HBEL.out _ _ _ _ _⟩
end Go.Proofs.YtbjaejgechadpaaGreat
