/-
  flat.Right: whether any flat is right. order: what an act wants, with its clock. norm's looker: reckons. norm's looker: act, wires that are none; ops that are reckoned.
-/
import Derived.Test.YtckognjamlckcaaGreatDoorZz
import Derived.Test.YtckognjamlckcaaGreatDoorFltR
import Derived.Test.YtckognjamlckcaaGreatDoorNmD
import Derived.Test.YtckognjamlckcaaGreatDoorPlainA
import Derived.Test.YtckognjamlckcaaGreatDoorLookA
import Derived.Test.YtckognjamlckcaaGreatDoorFltH
set_option maxHeartbeats 16000000
set_option maxRecDepth 100000
namespace Go.Proofs.YtckognjamlckcaaGreatDoor.Fo
open Vf
theorem wantE_w {f:Fl} (e:Ex):plainE f e→∀n∈wantE e,isW f.fm n:=by
 induction e using Ex.ind with
 |h e ih=>
  intro hp n hn
  obtain ⟨hp1,hp2⟩:=plainE_iff.1 hp
  rw[wantE_eq,want1,List.mem_append] at hn
  rcases hn with h|h
  ·split at h
   ·simp only[List.mem_singleton] at h
    subst h
    exact plain1_w hp1 ‹_›
   ·cases h
  ·have key:∀l∈e.args.map wantE,n∈l→isW f.fm n:=fun l hl hn=>by
    obtain ⟨x,hx,rfl⟩:=List.mem_map.1 hl
    exact ih x hx (hp2 x hx) n hn
   split at h
   ·cases h
   ·split at h
    ·cases ha:e.args.map wantE with
     |nil=>rw[ha] at h;cases h
     |cons y l=>rw[ha] at h;exact key y (by rw[ha];simp) h
    ·obtain ⟨l,hl,hn⟩:=List.mem_flatten.1 h
     exact key l hl hn
theorem flat_wants {f:Fl} (hw:wiresOkL f) (hd:∀d∈f.defs,isW f.fm d.1) (hp:∀d∈f.defs,plainE f d.2):WantW f:=fun d h=>⟨wantE_w d.2 (hp d h),fun g hg=>by
 have hx:=hd d h
 obtain ⟨m,hm⟩:=Int.eq_ofNat_of_zero_le hx.1
 have hl:m<f.wires.length:=by have h9:d.1<f.wires.length:=hx.2;omega
 have hc:clockOf f.fm d.1=f.wires[m].clock:=by
  unfold clockOf
  rw[hm,wAt_some (f:=f.fm) (List.getElem?_eq_getElem hl)]
 rw[hc] at hg
 obtain ⟨i,hi⟩:=List.getElem?_of_mem hg
 exact ((hw.1 _ (List.getElem_mem hl)).2 i g hi).1⟩
end Go.Proofs.YtckognjamlckcaaGreatDoor.Fo
namespace Go.Proofs.YtckognjamlckcaaGreatDoor
open Go.RowKit Vf Fo
attribute [local go_sem ↓] Go.wp_at_zero Go.wp_at_succ
theorem Row.four' {W:World} {b:Nat} {x0 x1 x2 x3:Value} {t:TypeId} (h:Row W b #[x0,x1,x2,x3] t):W.cell? ⟨b,0,none⟩=some x0∧W.cell? ⟨b,1,none⟩=some x1∧W.cell? ⟨b,2,none⟩=some x2∧W.cell? ⟨b,3,none⟩=some x3:=
 ⟨(h.cell 0).trans rfl,(h.cell 1).trans rfl,(h.cell 2).trans rfl,(h.cell 3).trans rfl⟩
theorem fright_any {w:World} {f:Fl} {vw vd vi vo:Value} (h:FlAt w w.heap.size f vw vd vi vo) (hsz:∀d∈f.defs,exSize d.2≤1000000):
  Calls Tryz.prog 39 #[flV vw vd vi vo] w fun e w'=>e= .returned (.bool (cB (flatOk f)))∧Below w.heap.size w w':=by
 have HSZ:=Lib.hid hsz
 have b2:Below w.heap.size w ((w.alloc (.cells #[vw,vd,vi,vo] 33)).alloc (.cells #[vw,vd,vi,vo,.slice none 0 0] 117)):=bE
 have rF:=(Row.new w #[vw,vd,vi,vo] 33).alloc (.cells #[vw,vd,vi,vo,.slice none 0 0] 117)
 have rK:=rowNew2 w (.cells #[vw,vd,vi,vo] 33) #[vw,vd,vi,vo,.slice none 0 0] 117
 have HFL:=Lib.hid (fun W (hW:Below w.heap.size w W)=>h.below hW)
 clear h hsz
 go_enter Tryz.func39,Tryz.ntmps39
 go_upto_region 2 with (fail)
 generalize (w.alloc (.cells #[vw,vd,vi,vo] 33)).alloc (.cells #[vw,vd,vi,vo,.slice none 0 0] 117)=w2 at*
 have hs2:=b2.size
 have hFl:=rF.lt
 have hKl:=rK.lt
 have HK:Hid (FkAt w2 w.heap.size (w.heap.size+1) f vw vd vi vo (.slice none 0 0)):=⟨rK,HFL.out _ b2,by omega⟩
 have HRF:=Lib.hid (fun W (hW:Upd (fun k=>k=w.heap.size+1) w2 W)=>hW.row rF (by omega))
 have HBW:=Lib.hid (fun W (hW:Upd (fun k=>k=w.heap.size+1) w2 W)=>b2.trans (hW.below (B:=w.heap.size) (fun k hk=>by omega) (by omega)))
 clear rK
 have HW1:=Lib.hid (fwires_any HK.out)
 by_cases h1:wiresOkL f
 rotate_left 1
 ·have HF:=Lib.hid (cB_false (p:=flatOk f) (fun g=>h1 g.1))
  rw[cB_false h1] at HW1
  clear h1
  go_wp2_with fail
  (with_reducible refine HW1.out.mono ?_)
  rintro e w3 ⟨rfl,hb3⟩
  go_wp2_with fail
  go_ret
  exact ⟨ret_bool HF.out.symm,b2.trans (hb3.mono hs2)⟩
 rw[cB_true h1] at HW1
 have HO1:=Lib.hid h1
 clear h1
 have HP:Hid (∀W,Below w2.heap.size w2 W→∀l v,SlV W w.heap.size 1 isInt v l→∀V,cB (portsOk f.fm l)=V→Calls Tryz.prog 76 #[.pointer (some ⟨w.heap.size+1,0,none⟩),v] W fun e w'=>e= .returned (.bool V)∧W=w'):=fun W hW l v hv V hV=>by
  have:=fports_any (HK.out.below hW) l v hv
  rw[hV] at this
  exact this
 have HR3:Hid (∀W,Below w2.heap.size w2 W→W.cell? ⟨w.heap.size,0,none⟩=some vw∧W.cell? ⟨w.heap.size,1,none⟩=some vd∧W.cell? ⟨w.heap.size,2,none⟩=some vi∧W.cell? ⟨w.heap.size,3,none⟩=some vo):=fun W hW=>(rF.below hW rF.lt).four'
 by_cases h2:portsOk f.fm f.ins
 rotate_left 1
 ·have HF:=Lib.hid (cB_false (p:=flatOk f) (fun g=>h2 g.2.1))
  have HV:=Lib.hid (cB_false h2)
  clear h2
  refine' zq269
  have HC:=Lib.hid (HP.out _ hb3 _ _ (HFL.out _ (b2.trans (hb3.mono hs2))).ins _ HV.out)
  refine' zq59
  rintro e w4 ⟨rfl,rfl⟩
  go_wp2_with fail
  go_ret
  exact ⟨ret_bool HF.out.symm,b2.trans (hb3.mono hs2)⟩
 have HV2:=Lib.hid (cB_true h2)
 have HO2:=Lib.hid h2
 clear h2
 by_cases h3:portsOk f.fm f.outs
 rotate_left 1
 ·have HF:=Lib.hid (cB_false (p:=flatOk f) (fun g=>h3 g.2.2.1))
  have HV:=Lib.hid (cB_false h3)
  clear h3
  refine' zq269
  have HC:=Lib.hid (HP.out _ hb3 _ _ (HFL.out _ (b2.trans (hb3.mono hs2))).ins _ HV2.out)
  have HC2:=Lib.hid (HP.out _ hb3 _ _ (HFL.out _ (b2.trans (hb3.mono hs2))).outs _ HV.out)
  refine' zq59
  rintro e w4 ⟨rfl,rfl⟩
  go_wp2_with fail
  (with_reducible refine HC2.out.mono ?_)
  rintro e w4 ⟨rfl,rfl⟩
  go_wp2_with fail
  go_ret
  exact ⟨ret_bool HF.out.symm,b2.trans (hb3.mono hs2)⟩
 have HV3:=Lib.hid (cB_true h3)
 have HO3:=Lib.hid h3
 clear h3
 refine' zq269
 have HC:=Lib.hid (HP.out _ hb3 _ _ (HFL.out _ (b2.trans (hb3.mono hs2))).ins _ HV2.out)
 have HC2:=Lib.hid (HP.out _ hb3 _ _ (HFL.out _ (b2.trans (hb3.mono hs2))).outs _ HV3.out)
 have HD:=Lib.hid (fdefined_any (HK.out.below hb3) (by have:=HO1.out.2.2;omega) (fun n hn=>(HO2.out.1 n hn).1))
 refine' zq59
 rintro e w4 ⟨rfl,rfl⟩
 go_wp2_with fail
 (with_reducible refine HC2.out.mono ?_)
 rintro e w4 ⟨rfl,rfl⟩
 go_wp2_with fail
 (with_reducible refine HD.out.mono ?_)
 rintro e w4 ⟨r,vb,rfl,hr,hk4,u4,hyes⟩
 have hu4:=(Upd.of_below hb3).trans_new u4 (fun i hi e=>by omega)
 have HU4:=Lib.hid (Upd.trans (X:=fun k=>k=w.heap.size+1) (Upd.of_below hb3) u4)
 have HB4:=Lib.hid (HBW.out _ HU4.out)
 have HK4:=Lib.hid hk4
 have HR:=Lib.hid hr
 have HY:=Lib.hid hyes
 have hr4:=HRF.out _ HU4.out
 have hs4:=HB4.out.size
 obtain ⟨y0,y1,y2,y3⟩:=hr4.four'
 clear hr hyes hk4 u4 x0 x1 x2 x3 hu4 hr4
 cases r
 ·have HF:=Lib.hid (cB_false (p:=flatOk f) (fun g=>by have:=HR.out.2 g.2.2.2.1;cases this))
  go_wp2_with fail
  go_ret
  exact ⟨ret_bool HF.out.symm,HB4.out⟩
 obtain ⟨K,bs,rfl,hK,hbl,rK,hby,hb1⟩:=HY.out rfl
 have HDO:=Lib.hid (HR.out.1 rfl)
 have HKK:=Lib.hid (⟨hbl,rK,hby,hb1⟩:bs.length=f.wires.length∧Row w4 K (ints bs).toArray 3∧ByS f bs∧(-1:Int)∉bs)
 clear HY HR hbl rK hby hb1
 obtain ⟨Ad,cd,rfl,ld,md,sd⟩:=(HFL.out _ HB4.out).defs
 refine' zq186
 have HSD:Hid (∀W,Below w4.heap.size w4 W→Sl W w.heap.size 7 (isDf W w.heap.size) Ad f.defs):=(fun W (hW:Below w4.heap.size w4 W)=>by
  obtain ⟨A',c',he,_,_,s'⟩:=(HFL.out _ (HB4.out.trans (hW.mono hs4))).defs
  injection he with he1
  subst he1
  exact s')
 clear sd
 go_wp2_with fail
 clear y0 y1 y2 y3
 go_loopw[34] (fun i wr=>∃k:Nat,k≤f.defs.length∧i= .int .i64 k∧Hid (∀j,j<k→∀d,f.defs[j]? =some d→defOkL f d)∧Below w4.heap.size w4 wr) (fun i _=>f.defs.length-(intOf i).toNat)
 case atStart=>exact ⟨0,Nat.zero_le _,rfl,(fun j h=>absurd h (by omega)),Below.refl _ _⟩
 case round=>
  obtain ⟨k,hk,rfl,HN,hb⟩:=hrel
  have hsb:=hb.size
  have HKr:=Lib.hid (HK4.out.below hb)
  by_cases hlt:k<f.defs.length
  rotate_left 1
  ·obtain rfl:k=f.defs.length:=by omega
   have HND:Hid (∀d∈f.defs,defOkL f d):=fun d hd=>by
    obtain ⟨j,hj⟩:=List.getElem?_of_mem hd
    exact HN.out j (List.getElem?_eq_some_iff.1 hj).1 d hj
   have HC:=Lib.hid (frow_any HKr.out (HKK.out.2.1.below hb HKK.out.2.1.lt) HKK.out.1 HKK.out.2.2.1 HKK.out.2.2.2 (by have:=HO1.out.2.2;omega) (fun d hd=>(HND.out d hd).1) (flat_wants HO1.out (fl_hd HDO.out) (fun d hd=>(HND.out d hd).1)) HDO.out (fun n hn=>(HO2.out.1 n hn).1) HO1.out)
   have HF:Hid (cB (∀n:Nat,n<f.wires.length→DoneL f n)=cB (flatOk f)):=cB_congr ⟨fun g=>⟨HO1.out,HO2.out,HO3.out,HDO.out,HND.out,g⟩,fun g=>g.2.2.2.2.2⟩
   generalize cB (∀n:Nat,n<f.wires.length→DoneL f n)=V at*
   refine' zq59
   rintro e w5 ⟨rfl,hb5⟩
   go_wp2_with fail
   go_ret
   exact ⟨ret_bool HF.out,HB4.out.trans ((hb.trans (hb5.mono hsb)).mono hs4)⟩
  obtain ⟨b,off,d,Ag,cg,hAd,hbB,hx,wxd,hok,lg,mg,hxs,d0,d1,d2,d3,d4,d5,d6⟩:=(HSD.out _ hb).df hlt
  subst hAd
  have HX:=Lib.hid hx
  have ba:Below wr.heap.size wr (wr.alloc (.cells (dfA d Ag cg) 77)):=bE
  have rd:=Row.new wr (dfA d Ag cg) 77
  have HC:=Lib.hid (fdef_any (HKr.out.below ba) HO1.out d Ag cg (fl_hd HDO.out d (List.mem_of_getElem? hx)) hok lg mg ((hxs.below (ba.mono (by omega))).more (by have:=ba.size;omega)) (HSZ.out d (List.mem_of_getElem? hx)))
  have HXD:=Lib.hid (rd.below (Below.refl _ _) rd.lt)
  have hbn:=hb.trans (ba.mono hsb)
  clear hx hxs hok wxd
  go_upto_region 7 with (fail)
  generalize wr.alloc (.cells (dfA d Ag cg) 77)=w5 at*
  clear d0 d1 d2 d3 d4 d5 d6
  obtain ⟨d0,d1,d2,d3,d4,d5,d6⟩:=rd.seven.1
  have hs5:=hbn.size
  by_cases hd:defOkL f d
  ·have HN':=Lib.hid (upto_succ HN.out (fun y hy=>by rw[HX.out] at hy;injection hy with hy;rw[←hy];exact hd))
   rw[cB_true hd] at HC
   clear hd
   refine' zq59
   rintro e w6 ⟨rfl,hb6⟩
   go_wp2_with fail
   go_roundw
   case rel=>exact ⟨k+1,by omega,by go_num,HN',hbn.trans (hb6.mono hs5)⟩
   case measure=>simp[intOf];omega
  ·have HF:=Lib.hid (cB_false (p:=flatOk f) (fun g=>hd (g.2.2.2.2.1 d (List.mem_of_getElem? HX.out))))
   rw[cB_false hd] at HC
   clear hd
   refine' zq59
   rintro e w6 ⟨rfl,hb6⟩
   go_wp2_with fail
   go_ret
   exact ⟨ret_bool HF.out.symm,HB4.out.trans ((hbn.trans (hb6.mono hs5)).mono hs4)⟩
def wantsAll (f:Fm) (x:Ac):List Int:=wants x++(clockOf f x.dst).map (·.wire)
theorem cells_new (w:World) (t:TypeId) (l:List Value):∀j u,l[j]? =some u→(w.alloc (.cells l.toArray t)).cell? ((⟨w.heap.size,0,none⟩:Addr).add j)=some u:=by
 intro j u h
 rw[Addr.add_lit]
 have:=(Row.new w l.toArray t).cell (0+j)
 rw[this]
 simpa using h
theorem ints_flat (l:List Int):ints l=(l.map fun x=> [Value.int .i64 x]).flatten:=by
 induction l with
 |nil=>rfl
 |cons x l ih=>simp only[ints,List.map_cons,List.flatten_cons,List.singleton_append] at ih⊢;rw[ih]
theorem ownI {w:World} {base:Nat} {e:TypeId} {v:Value} {n:Nat} {l:List Int} (h:w.ownsRow base e 1 v n (ints l)) (hi:∀x∈l,Wf x):SlV w w.heap.size 1 isInt v l:=by
 rw[ints_flat] at h
 refine (own_sl (rel:=isInt) (l:=l) h ⟨by simp,fun i x cs hx hc=>?_⟩ (fun cs hcs=>?_) (by decide)).1
 ·simp only[List.getElem?_map,hx,Option.map_some,Option.some.injEq] at hc
  exact ⟨hc.symm,hi x (List.mem_of_getElem? hx)⟩
 ·obtain ⟨x,_,rfl⟩:=List.mem_map.1 hcs
  rfl
theorem fm_wire {w:World} {B:Nat} {f:Fm} {vw va vc vk vi vo:Value} (h:FmAt w B f vw va vc vk vi vo) {n:Int} (hn:isW f n):
  ∃(m:Nat) (b off cw:Nat) (Ag:Option Addr) (cg:Nat),n=m∧m<f.wires.length∧vw= .slice (some ⟨b,off,none⟩) f.wires.length cw∧f.wires.length≤cw∧cw≤9223372036854775807∧b<B∧Wf (tyOf f n)∧
   w.cell? ⟨b,off+m*2,none⟩=some (.int .i64 (tyOf f n))∧w.cell? ⟨b,off+m*2+1,none⟩=some (.slice Ag (clockOf f n).length cg)∧(clockOf f n).length≤cg∧cg≤maxLen∧Sl w B 2 isGd Ag (clockOf f n):=by
 refine' zq134
 obtain ⟨A,cw,rfl,lw,mw,sw⟩:=h.wires
 obtain ⟨b,off,x,Ag,cg,rfl,hb,hx,wx,d0,d1,lg,mg,sg⟩:=sw.wr hm
 have e:wAt f m=x:=wAt_some hx
 unfold maxLen at mw
 refine ⟨m,b,off,cw,Ag,cg,rfl,hm,rfl,lw,by omega,hb,?_,?_,?_,?_,mg,?_⟩
 ·unfold tyOf;rw[e];exact wx
 ·unfold tyOf;rw[e];exact d0
 ·unfold clockOf;rw[e];exact d1
 ·unfold clockOf;rw[e];exact lg
 ·unfold clockOf;rw[e];exact sg
theorem ac_six {op dst a b c k:Int} {w:World} {g:Nat} {t:TypeId} (h:Row w g #[.int .i64 op,.int .i64 dst,.int .i64 a,.int .i64 b,.int .i64 c,.int .i64 k] t):
  w.cell? ⟨g,0,none⟩=some (.int .i64 op)∧w.cell? ⟨g,1,none⟩=some (.int .i64 dst)∧w.cell? ⟨g,2,none⟩=some (.int .i64 a)∧w.cell? ⟨g,3,none⟩=some (.int .i64 b)∧w.cell? ⟨g,4,none⟩=some (.int .i64 c)∧w.cell? ⟨g,5,none⟩=some (.int .i64 k):=
 ⟨h.cell 0,h.cell 1,h.cell 2,h.cell 3,h.cell 4,h.cell 5⟩
theorem cB_and {p q:Prop}:cB (p∧q)=(cB p && cB q):=by
 rw[Bool.eq_iff_iff,Bool.and_eq_true,cB_iff,cB_iff,cB_iff]
theorem alike_two {f:Fm} {x y:Int}:alikeP f [x,y]↔clockOf f x=clockOf f y:=by
 simp[alikeP]
 exact ⟨fun h=>h.symm,fun h=>h.symm⟩
theorem alike_three {f:Fm} {x y z:Int}:alikeP f [x,y,z]↔clockOf f x=clockOf f y∧clockOf f x=clockOf f z:=by
 simp[alikeP]
 exact ⟨fun h=>⟨h.1.symm,h.2.symm⟩,fun h=>⟨h.1.symm,h.2.symm⟩⟩
theorem alike_four {f:Fm} {x y z u:Int}:alikeP f [x,y,z,u]↔clockOf f x=clockOf f y∧clockOf f x=clockOf f z∧clockOf f x=clockOf f u:=by
 simp[alikeP]
 exact ⟨fun h=>⟨h.1.symm,h.2.1.symm,h.2.2.symm⟩,fun h=>⟨h.1.symm,h.2.1.symm,h.2.2.symm⟩⟩
section
variable {w:World} {B L:Nat} {f:Fm} {vw va vc vk vi vo vb ve:Value}
theorem alike2_b {a b:Int} {V:Bool} (h:NkAt w B L f vw va vc vk vi vo vb ve) (hB:B≤w.heap.size) (ha:isW f a) (hb:isW f b) (wa:Wf a) (wb:Wf b) (hV:cB (clockOf f a=clockOf f b)=V) {W:World} (hW:Below w.heap.size w W):
  Calls Tryz.prog 65 #[.pointer (some ⟨L,0,none⟩),.slice (some ⟨W.heap.size,0,none⟩) 2 2] (W.alloc (.cells #[.int .i64 a,.int .i64 b] 3)) fun e w'=>e= .returned (.bool V)∧Below W.heap.size W w':=by
 have hK:NkAt (W.alloc (.cells #[.int .i64 a,.int .i64 b] 3)) B L f vw va vc vk vi vo vb ve:=h.below hB (hW.alloc hW.size _)
 have:=nalike_any hK [a,b] _ _ (two_slv wa wb) (by simp) (by simp[ha,hb])
 rw[cB_congr alike_two,hV] at this
 refine' zq270
theorem alike3_b {a b c:Int} {V:Bool} (h:NkAt w B L f vw va vc vk vi vo vb ve) (hB:B≤w.heap.size) (ha:isW f a) (hb:isW f b) (hc:isW f c) (wa:Wf a) (wb:Wf b) (wc:Wf c) (hV:cB (clockOf f a=clockOf f b∧clockOf f a=clockOf f c)=V) {W:World} (hW:Below w.heap.size w W):
  Calls Tryz.prog 65 #[.pointer (some ⟨L,0,none⟩),.slice (some ⟨W.heap.size,0,none⟩) 3 3] (W.alloc (.cells #[.int .i64 a,.int .i64 b,.int .i64 c] 3)) fun e w'=>e= .returned (.bool V)∧Below W.heap.size W w':=by
 have hK:NkAt (W.alloc (.cells #[.int .i64 a,.int .i64 b,.int .i64 c] 3)) B L f vw va vc vk vi vo vb ve:=h.below hB (hW.alloc hW.size _)
 have:=nalike_any hK [a,b,c] _ _ (three_slv wa wb wc) (by simp) (by simp[ha,hb,hc])
 rw[cB_congr alike_three,hV] at this
 refine' zq270
theorem alike4_b {a b c d:Int} {V:Bool} (h:NkAt w B L f vw va vc vk vi vo vb ve) (hB:B≤w.heap.size) (ha:isW f a) (hb:isW f b) (hc:isW f c) (hd:isW f d) (wa:Wf a) (wb:Wf b) (wc:Wf c) (wd:Wf d) (hV:cB (clockOf f a=clockOf f b∧clockOf f a=clockOf f c∧clockOf f a=clockOf f d)=V) {W:World} (hW:Below w.heap.size w W):
  Calls Tryz.prog 65 #[.pointer (some ⟨L,0,none⟩),.slice (some ⟨W.heap.size,0,none⟩) 4 4] (W.alloc (.cells #[.int .i64 a,.int .i64 b,.int .i64 c,.int .i64 d] 3)) fun e w'=>e= .returned (.bool V)∧Below W.heap.size W w':=by
 have hK:NkAt (W.alloc (.cells #[.int .i64 a,.int .i64 b,.int .i64 c,.int .i64 d] 3)) B L f vw va vc vk vi vo vb ve:=h.below hB (hW.alloc hW.size _)
 have:=nalike_any hK [a,b,c,d] _ _ (four_slv wa wb wc wd) (by simp) (by simp[ha,hb,hc,hd])
 rw[cB_congr alike_four,hV] at this
 refine' zq270
theorem kind_b {n T:Int} (h:NkAt w B L f vw va vc vk vi vo vb ve) (hB:B≤w.heap.size) (hn:isW f n) (hT:tyOf f n=T) {W:World} (hW:Below w.heap.size w W):
  Calls Tryz.prog 64 #[.pointer (some ⟨L,0,none⟩),.int .i64 n] W fun e w'=>e= .returned (.int .i64 T)∧W=w':=by
 have:=nkind_any (h.below hB hW) n hn
 rw[hT] at this
 exact this
theorem nreck_one (h:NkAt w B L f vw va vc vk vi vo vb ve) (hB:B≤w.heap.size) (op dst a b c k i o:Int) (hop:op=5∨op=6) (wd:Wf dst) (wa:Wf a) (hd:isW f dst) (ha:isW f a):
  Calls Tryz.prog 63 #[.pointer (some ⟨L,0,none⟩),.agg #[.int .i64 op,.int .i64 dst,.int .i64 a,.int .i64 b,.int .i64 c,.int .i64 k],.int .i64 i,.int .i64 o] w
   fun e w'=>e= .returned (.bool (cB (b=0∧c=0∧k=0∧clockOf f dst=clockOf f a∧tyOf f a=i∧tyOf f dst=o)))∧Below w.heap.size w w':=by
 have HH:=Lib.hid h
 have hBw:=hB
 clear h
 have o56:(op !=5)=false∨((op !=5)=true∧(op !=6)=false):=by rcases hop with rfl|rfl<;>simp
 clear hop
 rcases o56 with o5|⟨o5,o6⟩
 all_goals
  by_cases h0:b=0∧c=0∧k=0
  rotate_left 1
  ·have HF:=Lib.hid (cB_false (fun g:b=0∧c=0∧k=0∧clockOf f dst=clockOf f a∧tyOf f a=i∧tyOf f dst=o=>h0 ⟨g.1,g.2.1,g.2.2.1⟩))
   generalize cB (b=0∧c=0∧k=0∧clockOf f dst=clockOf f a∧tyOf f a=i∧tyOf f dst=o)=R at*
   refine' zq235
   go_wp2_with fail
   all_goals
    go_ret
    exact ⟨ret_bool HF.out.symm,bE⟩
  obtain ⟨rfl,rfl,rfl⟩:=h0
  refine' zq245
  have hg1:=bX.lt
  have HQ:Hid (cB ((0:Int)=0∧(0:Int)=0∧(0:Int)=0∧clockOf f dst=clockOf f a∧tyOf f a=i∧tyOf f dst=o)=(cB (clockOf f dst=clockOf f a) && (cB (tyOf f a=i) && cB (tyOf f dst=o)))):=by
   show _=_
   rw[←cB_and,←cB_and]
   exact cB_congr (by simp)
  generalize cB ((0:Int)=0∧(0:Int)=0∧(0:Int)=0∧clockOf f dst=clockOf f a∧tyOf f a=i∧tyOf f dst=o)=R at*
  generalize hV:cB (clockOf f dst=clockOf f a)=V at*
  generalize hTa:tyOf f a=Ta at*
  refine' zq248
  have HTd:=Lib.hid hTd
  clear hV hTa hTd
  refine' zq235
  go_upto_region 1 with (fail)
  generalize hW1:w.alloc (.cells #[.int .i64 op,.int .i64 dst,.int .i64 a,.int .i64 0,.int .i64 0,.int .i64 0] 58)=w1 at*
  clear hW1
  obtain ⟨c0,c1,c2,c3,c4,c5⟩:=bX.six'
  go_wp2_with fail
  (with_reducible refine (alike2_b HH.out hBw hd ha wd wa HV.out b1).mono ?_)
  refine' zq240
  (with_reducible refine (kind_b HH.out hBw ha HTa.out hb15).mono ?_)
  rintro e w6 ⟨rfl,rfl⟩
  by_cases e2:Ta=i
  rotate_left 1
  ·have e2':(Ta==i)=false:=by simp[e2]
   have HF:=Lib.hid (cB_false e2)
   clear e2
   go_wp2_with fail
   go_ret
   exact ⟨ret_bool (by rw[HQ.out,HF.out];rfl),hb15⟩
  have HE2:=Lib.hid (cB_true e2)
  have e2':(Ta==i)=true:=by simp[e2]
  clear e2
  go_wp2_with fail
  (with_reducible refine (kind_b HH.out hBw hd HTd.out hb15).mono ?_)
  rintro e w6 ⟨rfl,rfl⟩
  by_cases e3:Td=o
  ·have e3':(Td==o)=true:=by simp[e3]
   have HF:=Lib.hid (cB_true e3)
   clear e3
   go_wp2_with fail
   go_ret
   exact ⟨ret_bool (by rw[HQ.out,HF.out,HE2.out];rfl),hb15⟩
  ·have e3':(Td==o)=false:=by simp[e3]
   have HF:=Lib.hid (cB_false e3)
   clear e3
   go_wp2_with fail
   go_ret
   exact ⟨ret_bool (by rw[HQ.out,HF.out,HE2.out];rfl),hb15⟩
theorem nreck_two (h:NkAt w B L f vw va vc vk vi vo vb ve) (hB:B≤w.heap.size) (op dst a b c k i o:Int) (hop:op≠5∧op≠6) (wd:Wf dst) (wa:Wf a) (wb:Wf b) (hd:isW f dst) (ha:isW f a) (hb:isW f b):
  Calls Tryz.prog 63 #[.pointer (some ⟨L,0,none⟩),.agg #[.int .i64 op,.int .i64 dst,.int .i64 a,.int .i64 b,.int .i64 c,.int .i64 k],.int .i64 i,.int .i64 o] w
   fun e w'=>e= .returned (.bool (cB (c=0∧k=0∧(clockOf f dst=clockOf f a∧clockOf f dst=clockOf f b)∧tyOf f dst=o∧tyOf f a=tyOf f b∧(i=0∨tyOf f a=i))))∧Below w.heap.size w w':=by
 have o1:(op !=5)=true:=by simp[hop.1]
 have o2:(op !=6)=true:=by simp[hop.2]
 have HH:=Lib.hid h
 have hBw:=hB
 clear h hop
 by_cases h0:c=0∧k=0
 rotate_left 1
 ·have HF:=Lib.hid (cB_false (fun g:c=0∧k=0∧(clockOf f dst=clockOf f a∧clockOf f dst=clockOf f b)∧tyOf f dst=o∧tyOf f a=tyOf f b∧(i=0∨tyOf f a=i)=>h0 ⟨g.1,g.2.1⟩))
  generalize cB (c=0∧k=0∧(clockOf f dst=clockOf f a∧clockOf f dst=clockOf f b)∧tyOf f dst=o∧tyOf f a=tyOf f b∧(i=0∨tyOf f a=i))=R at*
  refine' zq235
  go_wp2_with fail
  all_goals
   go_ret
   exact ⟨ret_bool HF.out.symm,bE⟩
 obtain ⟨rfl,rfl⟩:=h0
 have bX:=Row.new w #[.int .i64 op,.int .i64 dst,.int .i64 a,.int .i64 b,.int .i64 0,.int .i64 0] 58
 have b1:Below w.heap.size w (w.alloc (.cells #[.int .i64 op,.int .i64 dst,.int .i64 a,.int .i64 b,.int .i64 0,.int .i64 0] 58)):=bE
 have hg1:=bX.lt
 have HQ:Hid (cB ((0:Int)=0∧(0:Int)=0∧(clockOf f dst=clockOf f a∧clockOf f dst=clockOf f b)∧tyOf f dst=o∧tyOf f a=tyOf f b∧(i=0∨tyOf f a=i))=(cB (clockOf f dst=clockOf f a∧clockOf f dst=clockOf f b) && (cB (tyOf f dst=o) && (cB (tyOf f a=tyOf f b) && cB (i=0∨tyOf f a=i))))):=by
  show _=_
  rw[←cB_and,←cB_and,←cB_and]
  exact cB_congr (by simp)
 generalize cB ((0:Int)=0∧(0:Int)=0∧(clockOf f dst=clockOf f a∧clockOf f dst=clockOf f b)∧tyOf f dst=o∧tyOf f a=tyOf f b∧(i=0∨tyOf f a=i))=R at*
 generalize hV:cB (clockOf f dst=clockOf f a∧clockOf f dst=clockOf f b)=V at*
 generalize hTa:tyOf f a=Ta at*
 generalize hTb:tyOf f b=Tb at*
 refine' zq248
 have HTb:=Lib.hid hTb
 have HTd:=Lib.hid hTd
 clear hV hTa hTb hTd
 refine' zq235
 go_upto_region 1 with (fail)
 generalize hW1:w.alloc (.cells #[.int .i64 op,.int .i64 dst,.int .i64 a,.int .i64 b,.int .i64 0,.int .i64 0] 58)=w1 at*
 clear hW1
 obtain ⟨c0,c1,c2,c3,c4,c5⟩:=bX.six'
 go_wp2_with fail
 (with_reducible refine (alike3_b HH.out hBw hd ha hb wd wa wb HV.out b1).mono ?_)
 refine' zq240
 (with_reducible refine (kind_b HH.out hBw hd HTd.out hb15).mono ?_)
 rintro e w6 ⟨rfl,rfl⟩
 by_cases e2:Td=o
 rotate_left 1
 ·have e2':(Td !=o)=true:=by simp[e2]
  have HF:=Lib.hid (cB_false e2)
  clear e2
  go_wp2_with fail
  go_ret
  exact ⟨ret_bool (by rw[HQ.out,HF.out];rfl),hb15⟩
 have HE2:=Lib.hid (cB_true e2)
 have e2':(Td !=o)=false:=by simp[e2]
 clear e2
 go_wp2_with fail
 have HKa:=Lib.hid (fun n=>(kind_b HH.out hBw ha HTa.out (below_drewN' hb15 n)).mono fun e w' ⟨h1,h2⟩=>(⟨h1,h2.symm⟩:e=Ending.returned (.int .i64 Ta)∧w'=w5.drewN n))
 have HKb:=Lib.hid (fun n=>(kind_b HH.out hBw hb HTb.out (below_drewN' hb15 n)).mono fun e w' ⟨h1,h2⟩=>(⟨h1,h2.symm⟩:e=Ending.returned (.int .i64 Tb)∧w'=w5.drewN n))
 by_cases e3:Ta=Tb
 rotate_left 1
 ·have e3':(Ta==Tb)=false:=by simp[e3]
  have HF:=Lib.hid (cB_false e3)
  clear e3
  refine' zq302
  exact ⟨ret_bool (by rw[HQ.out,HF.out,HE2.out];rfl),by first|exact hb15|exact below_drewN' hb15 _⟩
 have HE3:=Lib.hid (cB_true e3)
 have e3':(Ta==Tb)=true:=by simp[e3]
 clear e3
 by_cases e4:i=0
 ·have e4':(i==0)=true:=by simp[e4]
  have HF:=Lib.hid (cB_true (show i=0∨Ta=i from .inl e4))
  clear e4
  refine' zq113
 have e4':(i==0)=false:=by simp[e4]
 by_cases e5:Ta=i
 ·have e5':(Ta==i)=true:=by simp[e5]
  have HF:=Lib.hid (cB_true (show i=0∨Ta=i from .inr e5))
  clear e4 e5
  refine' zq113
 ·have e5':(Ta==i)=false:=by simp[e5]
  have HF:=Lib.hid (cB_false (fun g:i=0∨Ta=i=>g.elim e4 e5))
  clear e4 e5
  refine' zq113
end
section
variable {w:World} {B L:Nat} {f:Fm} {vw va vc vk vi vo vb ve:Value}
theorem allW_three {a b c:Int}:allW f [a,b,c]↔isW f a∧isW f b∧isW f c:=by simp[allW]
theorem is3_b {a b c:Int} {V:Bool} (h:NkAt w B L f vw va vc vk vi vo vb ve) (hB:B≤w.heap.size) (wa:Wf a) (wb:Wf b) (wc:Wf c) (hV:cB (isW f a∧isW f b∧isW f c)=V) {W:World} (hW:Below w.heap.size w W):
  Calls Tryz.prog 58 #[.pointer (some ⟨L,0,none⟩),.slice (some ⟨W.heap.size,0,none⟩) 3 3] (W.alloc (.cells #[.int .i64 a,.int .i64 b,.int .i64 c] 3)) fun e w'=>e= .returned (.bool V)∧Below W.heap.size W w':=by
 have hK:NkAt (W.alloc (.cells #[.int .i64 a,.int .i64 b,.int .i64 c] 3)) B L f vw va vc vk vi vo vb ve:=h.below hB (hW.alloc hW.size _)
 have:=nis_any hK [a,b,c] _ _ (three_slv wa wb wc)
 rw[cB_congr allW_three,hV] at this
 exact this.mono fun e w' ⟨he,hk⟩=>⟨he,by rw[←hk];exact (Below.refl _ _).alloc (Nat.le_refl _) _⟩
theorem nact_no (h:NkAt w B L f vw va vc vk vi vo vb ve) (hB:B≤w.heap.size) (op dst a b c k:Int) (wx:AcIn ⟨op,dst,a,b,c,k⟩) (hall:¬allW3 f a b c):
  Calls Tryz.prog 28 #[.pointer (some ⟨L,0,none⟩),.agg #[.int .i64 op,.int .i64 dst,.int .i64 a,.int .i64 b,.int .i64 c,.int .i64 k]] w fun e w'=>e= .returned (.bool (cB (actOk f ⟨op,dst,a,b,c,k⟩)))∧Below w.heap.size w w':=by
 refine' zq78
 have HF:=Lib.hid (cB_false (act_no3 (op:=op) (dst:=dst) (k:=k) hall))
 have HV3:Hid (cB (isW f a∧isW f b∧isW f c)=false):=cB_false hall
 refine' zq198
 refine' zq6
 refine' zq69
 go_ret
 exact ⟨ret_bool HF.out.symm,hb15⟩
theorem nact_one (h:NkAt w B L f vw va vc vk vi vo vb ve) (hB:B≤w.heap.size) (op dst a b c k:Int) (wx:AcIn ⟨op,dst,a,b,c,k⟩) (hd:isW f dst) (hop:op=5∨op=6) (hall:allW3 f a b c):
  Calls Tryz.prog 28 #[.pointer (some ⟨L,0,none⟩),.agg #[.int .i64 op,.int .i64 dst,.int .i64 a,.int .i64 b,.int .i64 c,.int .i64 k]] w fun e w'=>e= .returned (.bool (cB (actOk f ⟨op,dst,a,b,c,k⟩)))∧Below w.heap.size w w':=by
 refine' zq78
 have HIFF:Hid (cB (actOk f ⟨op,dst,a,b,c,k⟩)=cB (b=0∧c=0∧k=0∧clockOf f dst=clockOf f a∧tyOf f a=Ar.signIn op∧tyOf f dst=Ar.signOut op)):=cB_congr (act_iffOne hop hall)
 have sg:Ar.signB op=true:=by simp[Ar.signB];omega
 have HOP:=Lib.hid (hop)
 refine' zq299
 have HC:=Lib.hid (nreck_one (HH.out.below hBw hb15) (Nat.le_trans hBw hb15.size) op dst a b c k (Ar.signIn op) (Ar.signOut op) HOP.out wd wa hd hall.1)
 refine' zq279
theorem nact_two (h:NkAt w B L f vw va vc vk vi vo vb ve) (hB:B≤w.heap.size) (op dst a b c k:Int) (wx:AcIn ⟨op,dst,a,b,c,k⟩) (hd:isW f dst) (hop:7≤op∧op≤20) (hall:allW3 f a b c):
  Calls Tryz.prog 28 #[.pointer (some ⟨L,0,none⟩),.agg #[.int .i64 op,.int .i64 dst,.int .i64 a,.int .i64 b,.int .i64 c,.int .i64 k]] w fun e w'=>e= .returned (.bool (cB (actOk f ⟨op,dst,a,b,c,k⟩)))∧Below w.heap.size w w':=by
 refine' zq78
 have HIFF:Hid (cB (actOk f ⟨op,dst,a,b,c,k⟩)=cB (c=0∧k=0∧(clockOf f dst=clockOf f a∧clockOf f dst=clockOf f b)∧tyOf f dst=Ar.signOut op∧tyOf f a=tyOf f b∧(Ar.signIn op=0∨tyOf f a=Ar.signIn op))):=cB_congr (act_iffTwo hop hall)
 have sg:Ar.signB op=true:=by simp[Ar.signB];omega
 have HOP:=Lib.hid ((by omega:op≠5∧op≠6))
 refine' zq299
 have HC:=Lib.hid (nreck_two (HH.out.below hBw hb15) (Nat.le_trans hBw hb15.size) op dst a b c k (Ar.signIn op) (Ar.signOut op) HOP.out wd wa wb hd hall.1 hall.2.1)
 refine' zq279
end
end Go.Proofs.YtckognjamlckcaaGreatDoor
