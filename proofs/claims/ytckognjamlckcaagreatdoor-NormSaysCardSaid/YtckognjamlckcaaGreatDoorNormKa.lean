/-
  flat.Right: whether any flat is right. order: what an act wants, with its clock. norm's looker: reckons. norm's looker: act, wires that are none; ops that are reckoned. norm's looker: act, numbers, and what is no op.
-/
import Derived.Test.YtckognjamlckcaaGreatDoorFltR
set_option maxHeartbeats 16000000
set_option maxRecDepth 100000
namespace Go.Proofs.YtckognjamlckcaaGreatDoor.Fo
open Vf
theorem BR {f:Fl} (e:Ex):aO f e->∀n∈aU e,ak f.fm n:=by
 induction e using Ex.ind with
 |h e ih=>
  intro hp n hn
  obtain ⟨hp1,hp2⟩:=bq.1 hp
  rw[ie,jG,List.mem_append] at hn
  rcases hn with h|h
  ·split at h
   ·simp only[List.mem_singleton] at h
    subst h
    exact cC hp1 ‹_›
   ·cases h
  ·have key:∀l∈e.args.map aU,n∈l->ak f.fm n:=fun l hl hn=>by
    obtain ⟨x,hx,rfl⟩:=List.mem_map.1 hl
    exact ih x hx (hp2 x hx) n hn
   split at h
   ·cases h
   ·split at h
    ·cases ha:e.args.map aU with
     |nil=>rw[ha] at h;cases h
     |cons y l=>rw[ha] at h;exact key y (by rw[ha];simp) h
    ·obtain ⟨l,hl,hn⟩:=List.mem_flatten.1 h
     exact key l hl hn
theorem nM {f:Fl} (hw:de f) (hd:∀d∈f.defs,ak f.fm d.1) (hp:∀d∈f.defs,aO f d.2):nU f:=fun d h=>⟨BR d.2 (hp d h),fun g hg=>by
 have hx:=hd d h
 obtain ⟨m,hm⟩:=Int.eq_ofNat_of_zero_le hx.1
 have hl:m<f.wires.length:=by have h9:d.1<f.wires.length:=hx.2;omega
 have hc:aa f.fm d.1=f.wires[m].clock:=by
  unfold aa
  rw[hm,bW (f:=f.fm) (List.getElem?_eq_getElem hl)]
 rw[hc] at hg
 obtain ⟨i,hi⟩:=List.getElem?_of_mem hg
 exact ((hw.1 _ (List.getElem_mem hl)).2 i g hi).1⟩
end Go.Proofs.YtckognjamlckcaaGreatDoor.Fo
namespace Go.Proofs.YtckognjamlckcaaGreatDoor
open Go.RowKit Vf Fo
attribute [local go_sem ↓] Go.wp_at_zero Go.wp_at_succ
theorem ai.four' {W:World} {b:Nat} {x0 x1 x2 x3:Value} {t:TypeId} (h:ai W b #[x0,x1,x2,x3] t):W.cell? ⟨b,0,none⟩=some x0/\W.cell? ⟨b,1,none⟩=some x1/\W.cell? ⟨b,2,none⟩=some x2/\W.cell? ⟨b,3,none⟩=some x3:=
 ⟨(h.cell 0).trans rfl,(h.cell 1).trans rfl,(h.cell 2).trans rfl,(h.cell 3).trans rfl⟩
theorem uh {w:World} {f:Fl} {vw vd vi vo:Value} (h:cS w w.heap.size f vw vd vi vo) (hsz:∀d∈f.defs,ay d.2<=1000000):
  Calls Tryz.prog 39 #[eZ vw vd vi vo] w fun e w'=>e= .returned (.bool (cB (bn f)))/\Below w.heap.size w w':=by
 have HSZ:=zH hsz
 have b2:Below w.heap.size w ((w.alloc (.cells #[vw,vd,vi,vo] 33)).alloc (.cells #[vw,vd,vi,vo,.slice none 0 0] 117)):=bE
 have rF:=(ai.new w #[vw,vd,vi,vo] 33).alloc (.cells #[vw,vd,vi,vo,.slice none 0 0] 117)
 have rK:=dw w (.cells #[vw,vd,vi,vo] 33) #[vw,vd,vi,vo,.slice none 0 0] 117
 have HFL:=zH (fun W (hW:Below w.heap.size w W)=>h.below hW)
 clear h hsz
 go_enter Tryz.func39,Tryz.ntmps39
 go_upto_region 2 with (fail)
 generalize (w.alloc (.cells #[vw,vd,vi,vo] 33)).alloc (.cells #[vw,vd,vi,vo,.slice none 0 0] 117)=w2 at*
 have hs2:=b2.size
 have hFl:=rF.lt
 have hKl:=rK.lt
 have HK:Hid (dU w2 w.heap.size (w.heap.size+1) f vw vd vi vo (.slice none 0 0)):=⟨rK,HFL.o _ b2,by omega⟩
 have HRF:=zH (fun W (hW:ae (fun k=>k=w.heap.size+1) w2 W)=>hW.row rF (by omega))
 have HBW:=zH (fun W (hW:ae (fun k=>k=w.heap.size+1) w2 W)=>b2.trans (hW.below (B:=w.heap.size) (fun k hk=>by omega) (by omega)))
 clear rK
 have HW1:=zH (tT HK.o)
 by_cases h1:de f
 rotate_left 1
 ·have HF:=zH (ab (p:=bn f) (fun g=>h1 g.1))
  rw[ab h1] at HW1
  clear h1
  go_wp2_with fail
  (with_reducible refine HW1.o.mono ?_)
  rintro e w3 ⟨rfl,hb3⟩
  go_wp2_with fail
  go_ret
  exact ⟨aj HF.o.symm,b2.trans (hb3.mono hs2)⟩
 rw[aq h1] at HW1
 have HO1:=zH h1
 clear h1
 have HP:Hid (∀W,Below w2.heap.size w2 W->∀l v,aI W w.heap.size 1 aP v l->∀V,cB (bG f.fm l)=V->Calls Tryz.prog 76 #[.pointer (some ⟨w.heap.size+1,0,none⟩),v] W fun e w'=>e= .returned (.bool V)/\W=w'):=fun W hW l v hv V hV=>by
  have:=tW (HK.o.below hW) l v hv
  rw[hV] at this
  exact this
 have HR3:Hid (∀W,Below w2.heap.size w2 W->W.cell? ⟨w.heap.size,0,none⟩=some vw/\W.cell? ⟨w.heap.size,1,none⟩=some vd/\W.cell? ⟨w.heap.size,2,none⟩=some vi/\W.cell? ⟨w.heap.size,3,none⟩=some vo):=fun W hW=>(rF.below hW rF.lt).four'
 by_cases h2:bG f.fm f.ins
 rotate_left 1
 ·have HF:=zH (ab (p:=bn f) (fun g=>h2 g.2.1))
  have HV:=zH (ab h2)
  clear h2
  refine' zq243
  have HC:=zH (HP.o _ hb3 _ _ (HFL.o _ (b2.trans (hb3.mono hs2))).ins _ HV.o)
  refine' zq56
  rintro e w4 ⟨rfl,rfl⟩
  go_wp2_with fail
  go_ret
  exact ⟨aj HF.o.symm,b2.trans (hb3.mono hs2)⟩
 have HV2:=zH (aq h2)
 have HO2:=zH h2
 clear h2
 by_cases h3:bG f.fm f.outs
 rotate_left 1
 ·have HF:=zH (ab (p:=bn f) (fun g=>h3 g.2.2.1))
  have HV:=zH (ab h3)
  clear h3
  refine' zq243
  have HC:=zH (HP.o _ hb3 _ _ (HFL.o _ (b2.trans (hb3.mono hs2))).ins _ HV2.o)
  have HC2:=zH (HP.o _ hb3 _ _ (HFL.o _ (b2.trans (hb3.mono hs2))).outs _ HV.o)
  refine' zq56
  rintro e w4 ⟨rfl,rfl⟩
  go_wp2_with fail
  (with_reducible refine HC2.o.mono ?_)
  rintro e w4 ⟨rfl,rfl⟩
  go_wp2_with fail
  go_ret
  exact ⟨aj HF.o.symm,b2.trans (hb3.mono hs2)⟩
 have HV3:=zH (aq h3)
 have HO3:=zH h3
 clear h3
 refine' zq243
 have HC:=zH (HP.o _ hb3 _ _ (HFL.o _ (b2.trans (hb3.mono hs2))).ins _ HV2.o)
 have HC2:=zH (HP.o _ hb3 _ _ (HFL.o _ (b2.trans (hb3.mono hs2))).outs _ HV3.o)
 have HD:=zH (qq (HK.o.below hb3) (by have:=HO1.o.2.2;omega) (fun n hn=>(HO2.o.1 n hn).1))
 refine' zq56
 rintro e w4 ⟨rfl,rfl⟩
 go_wp2_with fail
 (with_reducible refine HC2.o.mono ?_)
 rintro e w4 ⟨rfl,rfl⟩
 go_wp2_with fail
 (with_reducible refine HD.o.mono ?_)
 rintro e w4 ⟨r,vb,rfl,hr,hk4,u4,hyes⟩
 have hu4:=(ae.of_below hb3).trans_new u4 (fun i hi e=>by omega)
 have HU4:=zH (ae.trans (X:=fun k=>k=w.heap.size+1) (ae.of_below hb3) u4)
 have HB4:=zH (HBW.o _ HU4.o)
 have HK4:=zH hk4
 have HR:=zH hr
 have HY:=zH hyes
 have hr4:=HRF.o _ HU4.o
 have hs4:=HB4.o.size
 obtain ⟨y0,y1,y2,y3⟩:=hr4.four'
 clear hr hyes hk4 u4 x0 x1 x2 x3 hu4 hr4
 cases r
 ·have HF:=zH (ab (p:=bn f) (fun g=>by have:=HR.o.2 g.2.2.2.1;cases this))
  go_wp2_with fail
  go_ret
  exact ⟨aj HF.o.symm,HB4.o⟩
 obtain ⟨K,bs,rfl,hK,hbl,rK,hby,hb1⟩:=HY.o rfl
 have HDO:=zH (HR.o.1 rfl)
 have HKK:=zH (⟨hbl,rK,hby,hb1⟩:bs.length=f.wires.length/\ai w4 K (al bs).toArray 3/\mB f bs/\(-1:Int)∉bs)
 clear HY HR hbl rK hby hb1
 obtain ⟨Ad,cd,rfl,ld,md,sd⟩:=(HFL.o _ HB4.o).defs
 refine' zq184
 have HSD:Hid (∀W,Below w4.heap.size w4 W->Sl W w.heap.size 7 (gU W w.heap.size) Ad f.defs):=(fun W (hW:Below w4.heap.size w4 W)=>by
  obtain ⟨A',c',he,_,_,s'⟩:=(HFL.o _ (HB4.o.trans (hW.mono hs4))).defs
  injection he with he1
  subst he1
  exact s')
 clear sd
 go_wp2_with fail
 clear y0 y1 y2 y3
 go_loopw[34] (fun i wr=>∃k:Nat,k<=f.defs.length/\i= .int .i64 k/\Hid (∀j,j<k->∀d,f.defs[j]? =some d->gO f d)/\Below w4.heap.size w4 wr) (fun i _=>f.defs.length-(intOf i).toNat)
 case atStart=>exact ⟨0,Nat.zero_le _,rfl,(fun j h=>absurd h (by omega)),Below.refl _ _⟩
 case round=>
  obtain ⟨k,hk,rfl,HN,hb⟩:=hrel
  have hsb:=hb.size
  have HKr:=zH (HK4.o.below hb)
  by_cases hlt:k<f.defs.length
  rotate_left 1
  ·obtain rfl:k=f.defs.length:=by omega
   have HND:Hid (∀d∈f.defs,gO f d):=fun d hd=>by
    obtain ⟨j,hj⟩:=List.getElem?_of_mem hd
    exact HN.o j (List.getElem?_eq_some_iff.1 hj).1 d hj
   have HC:=zH (yZ HKr.o (HKK.o.2.1.below hb HKK.o.2.1.lt) HKK.o.1 HKK.o.2.2.1 HKK.o.2.2.2 (by have:=HO1.o.2.2;omega) (fun d hd=>(HND.o d hd).1) (nM HO1.o (pM HDO.o) (fun d hd=>(HND.o d hd).1)) HDO.o (fun n hn=>(HO2.o.1 n hn).1) HO1.o)
   have HF:Hid (cB (∀n:Nat,n<f.wires.length->dt f n)=cB (bn f)):=bu ⟨fun g=>⟨HO1.o,HO2.o,HO3.o,HDO.o,HND.o,g⟩,fun g=>g.2.2.2.2.2⟩
   generalize cB (∀n:Nat,n<f.wires.length->dt f n)=V at*
   refine' zq56
   rintro e w5 ⟨rfl,hb5⟩
   go_wp2_with fail
   go_ret
   exact ⟨aj HF.o,HB4.o.trans ((hb.trans (hb5.mono hsb)).mono hs4)⟩
  obtain ⟨b,off,d,Ag,cg,hAd,hbB,hx,wxd,hok,lg,mg,hxs,d0,d1,d2,d3,d4,d5,d6⟩:=(HSD.o _ hb).df hlt
  subst hAd
  have HX:=zH hx
  have ba:Below wr.heap.size wr (wr.alloc (.cells (gh d Ag cg) 77)):=bE
  have rd:=ai.new wr (gh d Ag cg) 77
  have HC:=zH (zO (HKr.o.below ba) HO1.o d Ag cg (pM HDO.o d (List.mem_of_getElem? hx)) hok lg mg ((hxs.below (ba.mono (by omega))).more (by have:=ba.size;omega)) (HSZ.o d (List.mem_of_getElem? hx)))
  have HXD:=zH (rd.below (Below.refl _ _) rd.lt)
  have hbn:=hb.trans (ba.mono hsb)
  clear hx hxs hok wxd
  go_upto_region 7 with (fail)
  generalize wr.alloc (.cells (gh d Ag cg) 77)=w5 at*
  clear d0 d1 d2 d3 d4 d5 d6
  obtain ⟨d0,d1,d2,d3,d4,d5,d6⟩:=rd.seven.1
  have hs5:=hbn.size
  by_cases hd:gO f d
  ·have HN':=zH (aC HN.o (fun y hy=>by rw[HX.o] at hy;injection hy with hy;rw[<-hy];exact hd))
   rw[aq hd] at HC
   clear hd
   refine' zq56
   rintro e w6 ⟨rfl,hb6⟩
   go_wp2_with fail
   go_roundw
   case rel=>exact ⟨k+1,by omega,by go_num,HN',hbn.trans (hb6.mono hs5)⟩
   case measure=>simp[intOf];omega
  ·have HF:=zH (ab (p:=bn f) (fun g=>hd (g.2.2.2.2.1 d (List.mem_of_getElem? HX.o))))
   rw[ab hd] at HC
   clear hd
   refine' zq56
   rintro e w6 ⟨rfl,hb6⟩
   go_wp2_with fail
   go_ret
   exact ⟨aj HF.o.symm,HB4.o.trans ((hbn.trans (hb6.mono hs5)).mono hs4)⟩
def cZ (f:Fm) (x:Ac):List Int:=wants x++(aa f x.dst).map (·.wire)
theorem cA (w:World) (t:TypeId) (l:List Value):∀j u,l[j]? =some u->(w.alloc (.cells l.toArray t)).cell? ((⟨w.heap.size,0,none⟩:Addr).add j)=some u:=by
 intro j u h
 rw[Addr.add_lit]
 have:=(ai.new w l.toArray t).cell (0+j)
 rw[this]
 simpa using h
theorem wi (l:List Int):al l=(l.map fun x=> [Value.int .i64 x]).flatten:=by
 induction l with
 |nil=>rfl
 |cons x l ih=>simp only[al,List.map_cons,List.flatten_cons,List.singleton_append] at ih⊢;rw[ih]
theorem Au {w:World} {base:Nat} {e:TypeId} {v:Value} {n:Nat} {l:List Int} (h:w.ownsRow base e 1 v n (al l)) (hi:∀x∈l,Wf x):aI w w.heap.size 1 aP v l:=by
 rw[wi] at h
 refine (fV (rel:=aP) (l:=l) h ⟨by simp,fun i x cs hx hc=>?_⟩ (fun cs hcs=>?_) (by decide)).1
 ·simp only[List.getElem?_map,hx,Option.map_some,Option.some.injEq] at hc
  exact ⟨hc.symm,hi x (List.mem_of_getElem? hx)⟩
 ·obtain ⟨x,_,rfl⟩:=List.mem_map.1 hcs
  rfl
theorem fW {w:World} {B:Nat} {f:Fm} {vw va vc vk vi vo:Value} (h:bQ w B f vw va vc vk vi vo) {n:Int} (hn:ak f n):
  ∃(m:Nat) (b off cw:Nat) (Ag:Option Addr) (cg:Nat),n=m/\m<f.wires.length/\vw= .slice (some ⟨b,off,none⟩) f.wires.length cw/\f.wires.length<=cw/\cw<=9223372036854775807/\b<B/\Wf (ag f n)/\
   w.cell? ⟨b,off+m*2,none⟩=some (.int .i64 (ag f n))/\w.cell? ⟨b,off+m*2+1,none⟩=some (.slice Ag (aa f n).length cg)/\(aa f n).length<=cg/\cg<=maxLen/\Sl w B 2 aW Ag (aa f n):=by
 refine' zq113
 obtain ⟨A,cw,rfl,lw,mw,sw⟩:=h.wires
 obtain ⟨b,off,x,Ag,cg,rfl,hb,hx,wx,d0,d1,lg,mg,sg⟩:=sw.wr hm
 have e:jZ f m=x:=bW hx
 unfold maxLen at mw
 refine ⟨m,b,off,cw,Ag,cg,rfl,hm,rfl,lw,by omega,hb,?_,?_,?_,?_,mg,?_⟩
 ·unfold ag;rw[e];exact wx
 ·unfold ag;rw[e];exact d0
 ·unfold aa;rw[e];exact d1
 ·unfold aa;rw[e];exact lg
 ·unfold aa;rw[e];exact sg
theorem De {op dst a b c k:Int} {w:World} {g:Nat} {t:TypeId} (h:ai w g #[.int .i64 op,.int .i64 dst,.int .i64 a,.int .i64 b,.int .i64 c,.int .i64 k] t):
  w.cell? ⟨g,0,none⟩=some (.int .i64 op)/\w.cell? ⟨g,1,none⟩=some (.int .i64 dst)/\w.cell? ⟨g,2,none⟩=some (.int .i64 a)/\w.cell? ⟨g,3,none⟩=some (.int .i64 b)/\w.cell? ⟨g,4,none⟩=some (.int .i64 c)/\w.cell? ⟨g,5,none⟩=some (.int .i64 k):=
 ⟨h.cell 0,h.cell 1,h.cell 2,h.cell 3,h.cell 4,h.cell 5⟩
theorem jY {p q:Prop}:cB (p/\q)=(cB p && cB q):=by
 rw[Bool.eq_iff_iff,Bool.and_eq_true,cb,cb,cb]
theorem vY {f:Fm} {x y:Int}:jj f [x,y]↔aa f x=aa f y:=by
 simp[jj]
 exact ⟨fun h=>h.symm,fun h=>h.symm⟩
theorem uW {f:Fm} {x y z u:Int}:jj f [x,y,z,u]↔aa f x=aa f y/\aa f x=aa f z/\aa f x=aa f u:=by
 simp[jj]
 exact ⟨fun h=>⟨h.1.symm,h.2.1.symm,h.2.2.symm⟩,fun h=>⟨h.1.symm,h.2.1.symm,h.2.2.symm⟩⟩
section
variable {w:World} {B L:Nat} {f:Fm} {vw va vc vk vi vo vb ve:Value}
theorem yC {a b:Int} {V:Bool} (h:bI w B L f vw va vc vk vi vo vb ve) (hB:B<=w.heap.size) (ha:ak f a) (hb:ak f b) (wa:Wf a) (wb:Wf b) (hV:cB (aa f a=aa f b)=V) {W:World} (hW:Below w.heap.size w W):
  Calls Tryz.prog 65 #[.pointer (some ⟨L,0,none⟩),.slice (some ⟨W.heap.size,0,none⟩) 2 2] (W.alloc (.cells #[.int .i64 a,.int .i64 b] 3)) fun e w'=>e= .returned (.bool V)/\Below W.heap.size W w':=by
 have hK:bI (W.alloc (.cells #[.int .i64 a,.int .i64 b] 3)) B L f vw va vc vk vi vo vb ve:=h.below hB (hW.alloc hW.size _)
 have:=nS hK [a,b] _ _ (CC wa wb) (by simp) (by simp[ha,hb])
 rw[bu vY,hV] at this
 exact this.mono fun e w' ⟨he,k,hk⟩=>⟨he,by rw[hk];exact ap ((Below.refl _ _).alloc (Nat.le_refl _) _) k⟩
theorem Ab {a b c d:Int} {V:Bool} (h:bI w B L f vw va vc vk vi vo vb ve) (hB:B<=w.heap.size) (ha:ak f a) (hb:ak f b) (hc:ak f c) (hd:ak f d) (wa:Wf a) (wb:Wf b) (wc:Wf c) (wd:Wf d) (hV:cB (aa f a=aa f b/\aa f a=aa f c/\aa f a=aa f d)=V) {W:World} (hW:Below w.heap.size w W):
  Calls Tryz.prog 65 #[.pointer (some ⟨L,0,none⟩),.slice (some ⟨W.heap.size,0,none⟩) 4 4] (W.alloc (.cells #[.int .i64 a,.int .i64 b,.int .i64 c,.int .i64 d] 3)) fun e w'=>e= .returned (.bool V)/\Below W.heap.size W w':=by
 have hK:bI (W.alloc (.cells #[.int .i64 a,.int .i64 b,.int .i64 c,.int .i64 d] 3)) B L f vw va vc vk vi vo vb ve:=h.below hB (hW.alloc hW.size _)
 have:=nS hK [a,b,c,d] _ _ (yD wa wb wc wd) (by simp) (by simp[ha,hb,hc,hd])
 rw[bu uW,hV] at this
 exact this.mono fun e w' ⟨he,k,hk⟩=>⟨he,by rw[hk];exact ap ((Below.refl _ _).alloc (Nat.le_refl _) _) k⟩
theorem iL {n T:Int} (h:bI w B L f vw va vc vk vi vo vb ve) (hB:B<=w.heap.size) (hn:ak f n) (hT:ag f n=T) {W:World} (hW:Below w.heap.size w W):
  Calls Tryz.prog 64 #[.pointer (some ⟨L,0,none⟩),.int .i64 n] W fun e w'=>e= .returned (.int .i64 T)/\W=w':=by
 have:=wV (h.below hB hW) n hn
 rw[hT] at this
 exact this
end
section
variable {w:World} {B L:Nat} {f:Fm} {vw va vc vk vi vo vb ve:Value}
theorem uY {a b c:Int}:oF f [a,b,c]↔ak f a/\ak f b/\ak f c:=by simp[oF]
theorem DH {a b c:Int} {V:Bool} (h:bI w B L f vw va vc vk vi vo vb ve) (hB:B<=w.heap.size) (wa:Wf a) (wb:Wf b) (wc:Wf c) (hV:cB (ak f a/\ak f b/\ak f c)=V) {W:World} (hW:Below w.heap.size w W):
  Calls Tryz.prog 58 #[.pointer (some ⟨L,0,none⟩),.slice (some ⟨W.heap.size,0,none⟩) 3 3] (W.alloc (.cells #[.int .i64 a,.int .i64 b,.int .i64 c] 3)) fun e w'=>e= .returned (.bool V)/\Below W.heap.size W w':=by
 have hK:bI (W.alloc (.cells #[.int .i64 a,.int .i64 b,.int .i64 c] 3)) B L f vw va vc vk vi vo vb ve:=h.below hB (hW.alloc hW.size _)
 have:=oq hK [a,b,c] _ _ (pr wa wb wc)
 rw[bu uY,hV] at this
 exact this.mono fun e w' ⟨he,hk⟩=>⟨he,by rw[<-hk];exact (Below.refl _ _).alloc (Nat.le_refl _) _⟩
end
section
variable {w:World} {B L:Nat} {f:Fm} {vw va vc vk vi vo vb ve:Value}
theorem CP (h:bI w B L f vw va vc vk vi vo vb ve) (hB:B<=w.heap.size) (op dst a b c k:Int) (wx:eP ⟨op,dst,a,b,c,k⟩) (hd:ak f dst) (hop:op=1) (hall:cm f a b c):
  Calls Tryz.prog 28 #[.pointer (some ⟨L,0,none⟩),.agg #[.int .i64 op,.int .i64 dst,.int .i64 a,.int .i64 b,.int .i64 c,.int .i64 k]] w fun e w'=>e= .returned (.bool (cB (au f ⟨op,dst,a,b,c,k⟩)))/\Below w.heap.size w w':=by
 refine' zq143
 have HIFF:=zH (jo (dst:=dst) (k:=k) hop hall)
 have HV3:Hid (cB (ak f a/\ak f b/\ak f c)=true):=aq hall
 have sg:Ar.signB op=false:=by simp[Ar.signB];omega
 have o1:(op==1)=true:=by rw[beq_iff_eq];omega
 have o2:(op==2)=false:=by rw[beq_eq_false_iff_ne];omega
 refine' zq70
 by_cases e1:Td=1
 ·have HR:=zH (aq (HIFF.o.2 ⟨⟨rfl,rfl,rfl⟩,e1⟩))
  have e1':(Td==1)=true:=by simp[e1]
  refine' zq251
 ·have HR:=zH (ab (fun g=>e1 (HIFF.o.1 g).2))
  have e1':(Td==1)=false:=by simp[e1]
  refine' zq251
theorem CZ (h:bI w B L f vw va vc vk vi vo vb ve) (hB:B<=w.heap.size) (op dst a b c k:Int) (wx:eP ⟨op,dst,a,b,c,k⟩) (hd:ak f dst) (hop:op=2) (hall:cm f a b c):
  Calls Tryz.prog 28 #[.pointer (some ⟨L,0,none⟩),.agg #[.int .i64 op,.int .i64 dst,.int .i64 a,.int .i64 b,.int .i64 c,.int .i64 k]] w fun e w'=>e= .returned (.bool (cB (au f ⟨op,dst,a,b,c,k⟩)))/\Below w.heap.size w w':=by
 refine' zq143
 have HIFF:=zH (ic (dst:=dst) (k:=k) hop hall)
 refine' zq110
 have o2:(op==2)=true:=by rw[beq_iff_eq];omega
 refine' zq70
 by_cases e1:Td=2
 ·have HR:Hid (cB (au f ⟨op,dst,0,0,0,k⟩)=cB (bN 2 k)):=bu (HIFF.o.trans ⟨fun g=>g.2.2,fun g=>⟨⟨rfl,rfl,rfl⟩,e1,g⟩⟩)
  have HVT:=zH (fun W=>gP 2 k W)
  have e1':(Td==2)=true:=by simp[e1]
  clear e1
  generalize cB (au f ⟨op,dst,0,0,0,k⟩)=R at*
  generalize cB (bN 2 k)=V at*
  refine' zq29
  (with_reducible refine (HVT.o _).mono ?_)
  rintro e w6 ⟨rfl,rfl⟩
  go_wp2_with fail
  go_ret
  exact ⟨aj HR.o.symm,hb16 _⟩
 ·have HR:=zH (ab (fun g=>e1 (HIFF.o.1 g).2.1))
  have e1':(Td==2)=false:=by simp[e1]
  refine' zq251
end
end Go.Proofs.YtckognjamlckcaaGreatDoor
