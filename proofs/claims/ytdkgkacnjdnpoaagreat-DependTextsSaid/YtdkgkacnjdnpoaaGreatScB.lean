/-
  flat.Right: whether any flat is right. On which wires one hangs, step by step. Plain. slices.Concat of lists of variables; scope.all. A node's variables: the contracts of scope.all, Var and of tompionref15.Vars, Var, Node.
-/
import Derived.Test.YtdkgkacnjdnpoaaGreatZz
import Derived.Test.YtdkgkacnjdnpoaaGreatFltR
import Derived.Test.YtdkgkacnjdnpoaaGreatExMem
import Derived.Test.YtdkgkacnjdnpoaaGreatMem
import Derived.Test.YtdkgkacnjdnpoaaGreatFltQ
import Derived.Test.YtdkgkacnjdnpoaaGreatTreePlain
import Derived.Outline
import Derived.Test.YtdkgkacnjdnpoaaGreatTreeRight
import Derived.Deep.DeepCutAuto
set_option maxHeartbeats 16000000
set_option maxRecDepth 100000
namespace Go.Proofs.YtdkgkacnjdnpoaaGreat.Q.Fo
open Vf
theorem wantE_w {f:Fl} (e:Ex):plainE f e→∀n∈wantE e,isW f.fm n:=by
 induction e using Ex.ind with
 |h e ih=>
  intro hp n hn
  obtain ⟨hp1,hp2⟩:=plainE_iff.1 hp
  rw[wantE_eq,want1,List.mem_append] at hn
  rcases hn with h|h
  ·split at h
   ·simp only[List.mem_singleton] at h
    subst h
    exact plain1_w hp1 ‹_›
   ·cases h
  ·have key:∀l∈e.args.map wantE,n∈l→isW f.fm n:=fun l hl hn=>by
    obtain ⟨x,hx,rfl⟩:=List.mem_map.1 hl
    exact ih x hx (hp2 x hx) n hn
   split at h
   ·cases h
   ·split at h
    ·cases ha:e.args.map wantE with
     |nil=>rw[ha] at h;cases h
     |cons y l=>rw[ha] at h;exact key y (by rw[ha];simp) h
    ·obtain ⟨l,hl,hn⟩:=List.mem_flatten.1 h
     exact key l hl hn
theorem flat_wants {f:Fl} (hw:wiresOkL f) (hd:∀d∈f.defs,isW f.fm d.1) (hp:∀d∈f.defs,plainE f d.2):WantW f:=fun d h=>⟨wantE_w d.2 (hp d h),fun g hg=>by
 have hx:=hd d h
 obtain ⟨m,hm⟩:=Int.eq_ofNat_of_zero_le hx.1
 have hl:m<f.wires.length:=by have h9:d.1<f.wires.length:=hx.2;omega
 have hc:clockOf f.fm d.1=f.wires[m].clock:=by
  unfold clockOf
  rw[hm,wAt_some (f:=f.fm) (List.getElem?_eq_getElem hl)]
 rw[hc] at hg
 obtain ⟨i,hi⟩:=List.getElem?_of_mem hg
 exact ((hw.1 _ (List.getElem_mem hl)).2 i g hi).1⟩
end Go.Proofs.YtdkgkacnjdnpoaaGreat.Q.Fo
namespace Go.Proofs.YtdkgkacnjdnpoaaGreat.Q
open Go.RowKit Vf Fo
attribute [local go_sem ↓] Go.wp_at_zero Go.wp_at_succ
theorem _root_.Go.Proofs.YtdkgkacnjdnpoaaGreat.Row.four' {W:World} {b:Nat} {x0 x1 x2 x3:Value} {t:TypeId} (h:Row W b #[x0,x1,x2,x3] t):W.cell? ⟨b,0,none⟩=some x0∧W.cell? ⟨b,1,none⟩=some x1∧W.cell? ⟨b,2,none⟩=some x2∧W.cell? ⟨b,3,none⟩=some x3:=
 ⟨(h.cell 0).trans rfl,(h.cell 1).trans rfl,(h.cell 2).trans rfl,(h.cell 3).trans rfl⟩
theorem fright_any {w:World} {f:Fl} {vw vd vi vo:Value} (h:FlAt w w.heap.size f vw vd vi vo) (hsz:∀d∈f.defs,exSize d.2≤1000000):
  Calls Tryz.prog 32 #[flV vw vd vi vo] w fun e w'=>e= .returned (.bool (cB (flatOk f)))∧Below w.heap.size w w':=by
 have HSZ:=Lib.hid hsz
 have b2:Below w.heap.size w ((w.alloc (.cells #[vw,vd,vi,vo] 48)).alloc (.cells #[vw,vd,vi,vo,.slice none 0 0] 147)):=bE
 have rF:=(Row.new w #[vw,vd,vi,vo] 48).alloc (.cells #[vw,vd,vi,vo,.slice none 0 0] 147)
 have rK:=rowNew2 w (.cells #[vw,vd,vi,vo] 48) #[vw,vd,vi,vo,.slice none 0 0] 147
 have HFL:=Lib.hid (fun W (hW:Below w.heap.size w W)=>h.below hW)
 clear h hsz
 go_enter Tryz.func32,Tryz.ntmps32
 go_upto_region 2 with (fail)
 generalize (w.alloc (.cells #[vw,vd,vi,vo] 48)).alloc (.cells #[vw,vd,vi,vo,.slice none 0 0] 147)=w2 at*
 have hs2:=b2.size
 have hFl:=rF.lt
 have hKl:=rK.lt
 have HK:Hid (FkAt w2 w.heap.size (w.heap.size+1) f vw vd vi vo (.slice none 0 0)):=⟨rK,HFL.out _ b2,by omega⟩
 have HRF:=Lib.hid (fun W (hW:Upd (fun k=>k=w.heap.size+1) w2 W)=>hW.row rF (by omega))
 have HBW:=Lib.hid (fun W (hW:Upd (fun k=>k=w.heap.size+1) w2 W)=>b2.trans (hW.below (B:=w.heap.size) (fun k hk=>by omega) (by omega)))
 clear rK
 have HW1:=Lib.hid (fwires_any HK.out)
 by_cases h1:wiresOkL f
 rotate_left 1
 ·have HF:=Lib.hid (cB_false (p:=flatOk f) (fun g=>h1 g.1))
  rw[cB_false h1] at HW1
  clear h1
  go_wp2_with fail
  (with_reducible refine HW1.out.mono ?_)
  rintro e w3 ⟨rfl,hb3⟩
  go_wp2_with fail
  go_ret
  exact ⟨ret_bool HF.out.symm,b2.trans (hb3.mono hs2)⟩
 rw[cB_true h1] at HW1
 have HO1:=Lib.hid h1
 clear h1
 have HP:Hid (∀W,Below w2.heap.size w2 W→∀l v,SlV W w.heap.size 1 isInt v l→∀V,cB (portsOk f.fm l)=V→Calls Tryz.prog 66 #[.pointer (some ⟨w.heap.size+1,0,none⟩),v] W fun e w'=>e= .returned (.bool V)∧W=w'):=fun W hW l v hv V hV=>by
  have:=fports_any (HK.out.below hW) l v hv
  rw[hV] at this
  exact this
 have HR3:Hid (∀W,Below w2.heap.size w2 W→W.cell? ⟨w.heap.size,0,none⟩=some vw∧W.cell? ⟨w.heap.size,1,none⟩=some vd∧W.cell? ⟨w.heap.size,2,none⟩=some vi∧W.cell? ⟨w.heap.size,3,none⟩=some vo):=fun W hW=>(rF.below hW rF.lt).four'
 by_cases h2:portsOk f.fm f.ins
 rotate_left 1
 ·have HF:=Lib.hid (cB_false (p:=flatOk f) (fun g=>h2 g.2.1))
  have HV:=Lib.hid (cB_false h2)
  clear h2
  refine' zq126
  have HC:=Lib.hid (HP.out _ hb3 _ _ (HFL.out _ (b2.trans (hb3.mono hs2))).ins _ HV.out)
  refine' zq69
  rintro e w4 ⟨rfl,rfl⟩
  go_wp2_with fail
  go_ret
  exact ⟨ret_bool HF.out.symm,b2.trans (hb3.mono hs2)⟩
 have HV2:=Lib.hid (cB_true h2)
 have HO2:=Lib.hid h2
 clear h2
 by_cases h3:portsOk f.fm f.outs
 rotate_left 1
 ·have HF:=Lib.hid (cB_false (p:=flatOk f) (fun g=>h3 g.2.2.1))
  have HV:=Lib.hid (cB_false h3)
  clear h3
  refine' zq126
  have HC:=Lib.hid (HP.out _ hb3 _ _ (HFL.out _ (b2.trans (hb3.mono hs2))).ins _ HV2.out)
  have HC2:=Lib.hid (HP.out _ hb3 _ _ (HFL.out _ (b2.trans (hb3.mono hs2))).outs _ HV.out)
  refine' zq69
  rintro e w4 ⟨rfl,rfl⟩
  go_wp2_with fail
  (with_reducible refine HC2.out.mono ?_)
  rintro e w4 ⟨rfl,rfl⟩
  go_wp2_with fail
  go_ret
  exact ⟨ret_bool HF.out.symm,b2.trans (hb3.mono hs2)⟩
 have HV3:=Lib.hid (cB_true h3)
 have HO3:=Lib.hid h3
 clear h3
 refine' zq126
 have HC:=Lib.hid (HP.out _ hb3 _ _ (HFL.out _ (b2.trans (hb3.mono hs2))).ins _ HV2.out)
 have HC2:=Lib.hid (HP.out _ hb3 _ _ (HFL.out _ (b2.trans (hb3.mono hs2))).outs _ HV3.out)
 have HD:=Lib.hid (fdefined_any (HK.out.below hb3) (by have:=HO1.out.2.2;omega) (fun n hn=>(HO2.out.1 n hn).1))
 refine' zq69
 rintro e w4 ⟨rfl,rfl⟩
 go_wp2_with fail
 (with_reducible refine HC2.out.mono ?_)
 rintro e w4 ⟨rfl,rfl⟩
 go_wp2_with fail
 (with_reducible refine HD.out.mono ?_)
 rintro e w4 ⟨r,vb,rfl,hr,hk4,u4,hyes⟩
 have hu4:=(Upd.of_below hb3).trans_new u4 (fun i hi e=>by omega)
 have HU4:=Lib.hid (Upd.trans (X:=fun k=>k=w.heap.size+1) (Upd.of_below hb3) u4)
 have HB4:=Lib.hid (HBW.out _ HU4.out)
 have HK4:=Lib.hid hk4
 have HR:=Lib.hid hr
 have HY:=Lib.hid hyes
 have hr4:=HRF.out _ HU4.out
 have hs4:=HB4.out.size
 obtain ⟨y0,y1,y2,y3⟩:=hr4.four'
 clear hr hyes hk4 u4 x0 x1 x2 x3 hu4 hr4
 cases r
 ·have HF:=Lib.hid (cB_false (p:=flatOk f) (fun g=>by have:=HR.out.2 g.2.2.2.1;cases this))
  go_wp2_with fail
  go_ret
  exact ⟨ret_bool HF.out.symm,HB4.out⟩
 obtain ⟨K,bs,rfl,hK,hbl,rK,hby,hb1⟩:=HY.out rfl
 have HDO:=Lib.hid (HR.out.1 rfl)
 have HKK:=Lib.hid (⟨hbl,rK,hby,hb1⟩:bs.length=f.wires.length∧Row w4 K (ints bs).toArray 3∧ByS f bs∧(-1:Int)∉bs)
 clear HY HR hbl rK hby hb1
 obtain ⟨Ad,cd,rfl,ld,md,sd⟩:=(HFL.out _ HB4.out).defs
 have md':cd≤9223372036854775807:=by unfold maxLen at md;omega
 have HSD:Hid (∀W,Below w4.heap.size w4 W→Sl W w.heap.size 7 (isDf W w.heap.size) Ad f.defs):=(fun W (hW:Below w4.heap.size w4 W)=>by
  obtain ⟨A',c',he,_,_,s'⟩:=(HFL.out _ (HB4.out.trans (hW.mono hs4))).defs
  injection he with he1
  subst he1
  exact s')
 clear sd
 go_wp2_with fail
 clear y0 y1 y2 y3
 go_loopw[34] (fun i wr=>∃k:Nat,k≤f.defs.length∧i= .int .i64 k∧Hid (∀j,j<k→∀d,f.defs[j]? =some d→defOkL f d)∧Below w4.heap.size w4 wr) (fun i _=>f.defs.length-(intOf i).toNat)
 case atStart=>exact ⟨0,Nat.zero_le _,rfl,(fun j h=>absurd h (by omega)),Below.refl _ _⟩
 case round=>
  obtain ⟨k,hk,rfl,HN,hb⟩:=hrel
  have hsb:=hb.size
  have HKr:=Lib.hid (HK4.out.below hb)
  by_cases hlt:k<f.defs.length
  rotate_left 1
  ·obtain rfl:k=f.defs.length:=by omega
   have HND:Hid (∀d∈f.defs,defOkL f d):=fun d hd=>by
    obtain ⟨j,hj⟩:=List.getElem?_of_mem hd
    exact HN.out j (List.getElem?_eq_some_iff.1 hj).1 d hj
   have HC:=Lib.hid (frow_any HKr.out (HKK.out.2.1.below hb HKK.out.2.1.lt) HKK.out.1 HKK.out.2.2.1 HKK.out.2.2.2 (by have:=HO1.out.2.2;omega) (fun d hd=>(HND.out d hd).1) (flat_wants HO1.out (fl_hd HDO.out) (fun d hd=>(HND.out d hd).1)) HDO.out (fun n hn=>(HO2.out.1 n hn).1) HO1.out)
   have HF:Hid (cB (∀n:Nat,n<f.wires.length→DoneL f n)=cB (flatOk f)):=cB_congr ⟨fun g=>⟨HO1.out,HO2.out,HO3.out,HDO.out,HND.out,g⟩,fun g=>g.2.2.2.2.2⟩
   generalize cB (∀n:Nat,n<f.wires.length→DoneL f n)=V at*
   refine' zq69
   rintro e w5 ⟨rfl,hb5⟩
   go_wp2_with fail
   go_ret
   exact ⟨ret_bool HF.out,HB4.out.trans ((hb.trans (hb5.mono hsb)).mono hs4)⟩
  obtain ⟨b,off,d,Ag,cg,hAd,hbB,hx,wxd,hok,lg,mg,hxs,d0,d1,d2,d3,d4,d5,d6⟩:=(HSD.out _ hb).df hlt
  subst hAd
  have HX:=Lib.hid hx
  have ba:Below wr.heap.size wr (wr.alloc (.cells (dfA d Ag cg) 149)):=bE
  have rd:=Row.new wr (dfA d Ag cg) 149
  have HC:=Lib.hid (fdef_any (HKr.out.below ba) HO1.out d Ag cg (fl_hd HDO.out d (List.mem_of_getElem? hx)) hok lg mg ((hxs.below (ba.mono (by omega))).more (by have:=ba.size;omega)) (HSZ.out d (List.mem_of_getElem? hx)))
  have HXD:=Lib.hid (rd.below (Below.refl _ _) rd.lt)
  have hbn:=hb.trans (ba.mono hsb)
  clear hx hxs hok wxd
  go_upto_region 7 with (fail)
  generalize wr.alloc (.cells (dfA d Ag cg) 149)=w5 at*
  clear d0 d1 d2 d3 d4 d5 d6
  obtain ⟨d0,d1,d2,d3,d4,d5,d6⟩:=rd.seven.1
  have hs5:=hbn.size
  by_cases hd:defOkL f d
  ·have HN':=Lib.hid (upto_succ HN.out (fun y hy=>by rw[HX.out] at hy;injection hy with hy;rw[←hy];exact hd))
   rw[cB_true hd] at HC
   clear hd
   refine' zq69
   rintro e w6 ⟨rfl,hb6⟩
   go_wp2_with fail
   go_roundw
   case rel=>exact ⟨k+1,by omega,by go_num,HN',hbn.trans (hb6.mono hs5)⟩
   case measure=>simp[intOf];omega
  ·have HF:=Lib.hid (cB_false (p:=flatOk f) (fun g=>hd (g.2.2.2.2.1 d (List.mem_of_getElem? HX.out))))
   rw[cB_false hd] at HC
   clear hd
   refine' zq69
   rintro e w6 ⟨rfl,hb6⟩
   go_wp2_with fail
   go_ret
   exact ⟨ret_bool HF.out.symm,HB4.out.trans ((hbn.trans (hb6.mono hs5)).mono hs4)⟩
open Vf Fo
def useL (l:List Ex):List Int:=(l.filter fun x=>namedB x.op).map Ex.n
theorem useL_yes {l:List Ex} {x:Ex} (h:namedB x.op=true):useL (l++ [x])=useL l++ [x.n]:=by unfold useL;simp[h]
theorem useL_no {l:List Ex} {x:Ex} (h:namedB x.op=false):useL (l++ [x])=useL l:=by unfold useL;simp[h]
def rowI (L:List (List Int)) (b:Int):List Int:=L.getD b.toNat []
inductive Rch (L:List (List Int)) (a:Int):Int→Prop where
 |refl:Rch L a a
 |step {b c:Int} (h:Rch L a b) (hc:c∈rowI L b):Rch L a c
structure RSt (L:List (List Int)) (n:Nat) (a:Int) (on:List Bool) (wt:List Int):Prop where
 len:on.length=n
 st:bGet on a=true
 rch:∀c:Int,0≤c→bGet on c=true→Rch L a c
 cl:∀b:Int,0≤b→bGet on b=true→b∈wt∨∀c∈rowI L b,bGet on c=true
 wt:∀b∈wt,0≤b∧b<n∧bGet on b=true
structure RIn (L:List (List Int)) (n:Nat) (a b:Int) (k:Nat) (on:List Bool) (wt:List Int):Prop where
 len:on.length=n
 st:bGet on a=true
 rch:∀c:Int,0≤c→bGet on c=true→Rch L a c
 cl:∀x:Int,0≤x→bGet on x=true→x∈wt∨x=b∨∀c∈rowI L x,bGet on c=true
 done:∀c∈(rowI L b).take k,bGet on c=true
 wt:∀b∈wt,0≤b∧b<n∧bGet on b=true
 b:0≤b∧b<n∧bGet on b=true
theorem bGet_on {on:List Bool} {c x:Int} (h0:0≤c) (h1:c<on.length) (hx:0≤x):bGet (on.set c.toNat true) x=if x=c then true else bGet on x:=by
 have:=bGet_set (c:=x.toNat) h0 h1
 unfold bGet
 rw[this]
 by_cases e:x=c
 ·rw[if_pos e,if_pos (by omega)]
 ·rw[if_neg e,if_neg (by omega)]
section
variable {L:List (List Int)} {n:Nat} {a b:Int} {k:Nat} {on:List Bool} {wt:List Int}
theorem RSt.start (h0:0≤a) (h1:a<n):RSt L n a ((List.replicate n false).set a.toNat true) [a]:=by
 have hl:a<((List.replicate n false).length:Int):=by simp;omega
 have key:∀x:Int,0≤x→bGet ((List.replicate n false).set a.toNat true) x=true→x=a:=fun x hx h=>by
  rw[bGet_on h0 hl hx] at h
  split at h
  ·assumption
  ·unfold bGet at h
   simp only[List.getD_eq_getElem?_getD,List.getElem?_replicate] at h
   split at h<;>cases h
 have ha:bGet ((List.replicate n false).set a.toNat true) a=true:=by rw[bGet_on h0 hl h0,if_pos rfl]
 exact ⟨by simp,ha,fun c hc h=>by rw[key c hc h];exact .refl,fun x hx h=> .inl (by rw[key x hx h];exact List.mem_singleton.2 rfl),fun x hx=>by rw[List.mem_singleton] at hx;subst hx;exact ⟨h0,h1,ha⟩⟩
theorem RSt.pop (h:RSt L n a on (b::wt)):RIn L n a b 0 on wt:=
 ⟨h.len,h.st,h.rch,fun x hx hox=>by
  rcases h.cl x hx hox with g|g
  ·rcases List.mem_cons.1 g with g|g
   ·exact .inr (.inl g)
   ·exact .inl g
  ·exact .inr (.inr g),fun c hc=>absurd hc (by simp),fun x hx=>h.wt x (List.mem_cons_of_mem _ hx),h.wt b (List.mem_cons_self)⟩
theorem RIn.end_ (h:RIn L n a b k on wt) (hk:(rowI L b).length≤k):RSt L n a on wt:=
 ⟨h.len,h.st,h.rch,fun x hx hox=>by
  rcases h.cl x hx hox with g|g|g
  ·exact .inl g
  ·subst g
   exact .inr (by have:=h.done;rwa [List.take_of_length_le hk] at this)
  ·exact .inr g,h.wt⟩
theorem RIn.old {c:Int} (h:RIn L n a b k on wt) (hc:(rowI L b)[k]? =some c) (ho:bGet on c=true):RIn L n a b (k+1) on wt:=
 ⟨h.len,h.st,h.rch,h.cl,fun x hx=>by
  rw[List.take_add_one,hc] at hx
  rcases List.mem_append.1 hx with g|g
  ·exact h.done x g
  ·simp at g;rw[g];exact ho,h.wt,h.b⟩
theorem RIn.new {c:Int} (h:RIn L n a b k on wt) (hT:∀b:Int,∀c∈rowI L b,0≤c∧c<n) (hb:0≤a) (hc:(rowI L b)[k]? =some c):RIn L n a b (k+1) (on.set c.toNat true) (wt++ [c]):=by
 have hm:=List.mem_of_getElem? hc
 obtain ⟨c0,c1⟩:=hT b c hm
 have hl:c<on.length:=by rw[h.len];exact c1
 have up:∀x:Int,0≤x→bGet on x=true→bGet (on.set c.toNat true) x=true:=fun x hx g=>by rw[bGet_on c0 hl hx];split;rfl;exact g
 have hcc:bGet (on.set c.toNat true) c=true:=by rw[bGet_on c0 hl c0,if_pos rfl]
 refine ⟨by rw[List.length_set];exact h.len,up a hb h.st,fun x hx g=>?_,fun x hx g=>?_,fun x hx=>?_,fun x hx=>?_,⟨h.b.1,h.b.2.1,up b h.b.1 h.b.2.2⟩⟩
 ·rw[bGet_on c0 hl hx] at g
  split at g
  ·rename_i e
   subst e
   exact .step (h.rch b h.b.1 h.b.2.2) hm
  ·exact h.rch x hx g
 ·rw[bGet_on c0 hl hx] at g
  split at g
  ·rename_i e
   exact .inl (List.mem_append.2 (.inr (List.mem_singleton.2 e)))
  ·rcases h.cl x hx g with q|q|q
   ·exact .inl (List.mem_append.2 (.inl q))
   ·exact .inr (.inl q)
   ·exact .inr (.inr fun y hy=>up y (hT x y hy).1 (q y hy))
 ·rw[List.take_add_one,hc] at hx
  rcases List.mem_append.1 hx with g|g
  ·exact up x (hT b x (List.mem_of_mem_take g)).1 (h.done x g)
  ·simp at g;rw[g];exact hcc
 ·rcases List.mem_append.1 hx with g|g
  ·exact ⟨(h.wt x g).1,(h.wt x g).2.1,up x (h.wt x g).1 (h.wt x g).2.2⟩
  ·rw[List.mem_singleton] at g
   subst g
   exact ⟨c0,c1,hcc⟩
theorem RSt.done (h:RSt L n a on []) (hT:∀b:Int,∀c∈rowI L b,0≤c∧c<n) (ha:0≤a) (c:Int) (hc:0≤c):bGet on c=true↔Rch L a c:=by
 refine ⟨h.rch c hc,fun g=>?_⟩
 have key:0≤c∧bGet on c=true:=by
  clear hc
  induction g with
  |refl=>exact ⟨ha,h.st⟩
  |step h1 h2 ih=>
   rcases h.cl _ ih.1 ih.2 with q|q
   ·cases q
   ·exact ⟨(hT _ _ h2).1,q _ h2⟩
 exact key.2
end
end Go.Proofs.YtdkgkacnjdnpoaaGreat.Q
namespace Go.Proofs.YtdkgkacnjdnpoaaGreat
open Go.RowKit
theorem info_var:(Tryz.prog.info? 103).map (fun i=>(i.zero,i.size,i.bytes))=some (some (.agg #[.string ⟨#[]⟩,.int .i64 0,.slice none 0 0,.int .i64 0,.int .i64 0]),5,64):=by kernel_rfl
theorem isVr_one {w:World} {B:Nat} {x:Vr} {cs:List Value} (h:isVr w B x cs):cs.length=5∧∀u∈cs,u.oneCell'=true:=by
 obtain ⟨A,cap,rfl,_⟩:=h
 refine ⟨rfl,fun u hu=>?_⟩
 simp only[List.mem_cons,List.not_mem_nil,or_false] at hu
 rcases hu with rfl|rfl|rfl|rfl|rfl<;>rfl
theorem grow_var (n:Nat) (w:World) (hn:n≤100000):
  Calls Tryz.prog 106 #[.slice none 0 0,.int .i64 n] w fun e w'=>(∃v,e= .returned v∧w'.ownsRow w.heap.size 103 5 v 0 [])∧Below w.heap.size w w':=by
 obtain ⟨i0,hi0,hz0,hz1,hz2⟩:=info_parts info_var
 rcases Nat.eq_zero_or_pos n with h0|h0
 ·subst h0
  go_enter Tryz.func106,Tryz.ntmps106
  go_wp2_with fail
  go_ret
  exact ⟨⟨_,rfl,by simp,.inl ⟨rfl,rfl⟩⟩,Below.refl _ _⟩
 ·have hp:decide ((0:Int)<(n:Int))=true:=by simpa using h0
  have hg:=grownCap_ge w n 0 103
  have hm:=grownCap_le_maxLen w n 0 103 (by unfold maxLen;omega)
  have hr:=Lib.run_append_nil_zeros (P:=Tryz.prog) w 55 3 55 103 i0 _ .i64 .i64 Tryz.underlying55 Tryz.underlying3 hi0 hz0 n h0 (by omega) (by omega) (by rw[hz2];omega)
  have HR:=Lib.hid hr
  clear hr
  generalize grownCap w n 0 103=gc at*
  have hm':gc≤9223372036854775807:=by unfold maxLen at hm;omega
  have HS:Hid ((Builtin.zeroCells (Value.agg #[.string ⟨#[]⟩,.int .i64 0,.slice none 0 0,.int .i64 0,.int .i64 0]).cells n++Builtin.zeroCells (Value.agg #[.string ⟨#[]⟩,.int .i64 0,.slice none 0 0,.int .i64 0,.int .i64 0]).cells (gc-n)).size=gc*5):=by
   show _=_
   simp[Builtin.zeroCells,Value.cells]
   omega
  generalize Builtin.zeroCells (Value.agg #[.string ⟨#[]⟩,.int .i64 0,.slice none 0 0,.int .i64 0,.int .i64 0]).cells n++Builtin.zeroCells (Value.agg #[.string ⟨#[]⟩,.int .i64 0,.slice none 0 0,.int .i64 0,.int .i64 0]).cells (gc-n)=Z at*
  go_enter Tryz.func106,Tryz.ntmps106
  go_wp2_with (at_builtin;refine Lib.wpList_append_run w rfl _ _ 55 3 rfl _ _ rfl rfl _ _ HR.out ?_)
  go_ret
  exact ⟨⟨_,rfl,by simp,.inr ⟨w.heap.size,gc,Z,rfl,Nat.le_refl _,heap_alloc_new w.drew _,Nat.zero_le _,hm,HS.out,by simp⟩⟩,(Below.refl _ _).drew.alloc (Nat.le_refl _) _⟩
structure Vsl where
 A:Option Addr
 cap:Nat
 l:List Vr
noncomputable def catTo (ss:List Vsl) (k:Nat):List Vr:=((ss.take k).map (·.l)).flatten
theorem catTo_succ {ss:List Vsl} {k:Nat} {s:Vsl} (h:ss[k]? =some s):catTo ss (k+1)=catTo ss k++s.l:=by
 unfold catTo;rw[take_succ_map _ h];simp
theorem catTo_le (ss:List Vsl) (k:Nat):(catTo ss k).length≤(catTo ss ss.length).length:=by
 unfold catTo
 conv=>rhs;rw[List.take_length,←List.take_append_drop k ss]
 rw[List.map_append,List.flatten_append,List.length_append];omega
theorem concat_var (ss:List Vsl) (b B cap:Nat) (w:World) (hl:ss.length≤cap) (hcap:cap≤10) (hlen:(catTo ss ss.length).length≤10000) (hb:b<w.heap.size) (hB:B≤w.heap.size)
  (hrow:∀(k:Nat) (s:Vsl),ss[k]? =some s→w.cell? ⟨b,k,none⟩=some (.slice s.A s.l.length s.cap)) (hss:∀(k:Nat) (s:Vsl),ss[k]? =some s→Vrs w B s.A s.l):
  Calls Tryz.prog 60 #[.slice (some ⟨b,0,none⟩) ss.length cap] w fun e w'=>∃v css,e= .returned v∧w'.ownsRow w.heap.size 103 5 v (catTo ss ss.length).length css.flatten∧Are (isVr w' B) (catTo ss ss.length) css∧Below w.heap.size w w':=by
 obtain ⟨i0,hi0,hz0,hz1,hz2⟩:=info_parts info_var
 have HR:=Lib.hid hrow
 have HS:=Lib.hid hss
 have HC:=Lib.hid (catTo_le ss)
 have HL:=Lib.hid hlen
 have hsl:ss.length≤10:=by omega
 clear hrow hss hlen
 go_enter Tryz.func60,Tryz.ntmps60
 go_wp2_with fail
 go_loop[3,11] (fun t i=>∃k:Nat,k≤ss.length∧i= .int .i64 k∧t= .int .i64 ((catTo ss k).length:Int)) (fun _ i=>ss.length-(intOf i).toNat)
 case atStart=>exact ⟨0,Nat.zero_le _,rfl,rfl⟩
 case round=>
  obtain ⟨k,hk,rfl,rfl⟩:=hrel
  have h1:=HC.out k
  have h2:=HL.out
  have h3:(catTo ss k).length≤10000:=by omega
  clear h1 h2
  by_cases hlt:k<ss.length
  ·have hg:=List.getElem?_eq_getElem hlt
   have c0:=HR.out k _ hg
   refine' zq167
   clear hg
   generalize ss[k]=s at*
   have HT2:Hid ((catTo ss (k+1)).length=(catTo ss k).length+s.l.length):=by show _=_;rw[HT.out,List.length_append]
   clear HT
   generalize (catTo ss k).length=n at*
   have hnn:decide ((n:Int)+(s.l.length:Int)<0)=false:=by simp;omega
   go_wp2_with fail
   go_round
   case rel=>exact ⟨k+1,by omega,by go_num,by rw[HT2.out];go_num⟩
   case measure=>simp[intOf];omega
  ·obtain rfl:k=ss.length:=by omega
   go_wp2_with fail
   refine (grow_var _ _ (by omega)).mono ?_
   rintro e w1 ⟨⟨v1,rfl,ho1⟩,hb1⟩
   have hw1:=hb1.size
   go_wp2_with fail
   go_loopw[6,27] (fun v i wr=>∃(k:Nat) (css:List (List Value)),k≤ss.length∧i= .int .i64 k∧wr.ownsRow w.heap.size 103 5 v (catTo ss k).length css.flatten∧Hid (Are (isVr wr B) (catTo ss k) css)∧Below w.heap.size w wr) (fun _ i _=>ss.length-(intOf i).toNat)
   case atStart=>exact ⟨0,[],Nat.zero_le _,rfl,ho1,Are.nil,hb1⟩
   case round=>
    obtain ⟨k,css,hk,rfl,hown,HA,hbr⟩:=hrel
    have hszr:=hbr.size
    by_cases hlt:k<ss.length
    ·have hg:=List.getElem?_eq_getElem hlt
     have c0:wr.cell? ⟨b,k,none⟩=_:=(hbr.cell (p:=⟨b,k,none⟩) hb).trans (HR.out k _ hg)
     have hs:=vrs_keep (HS.out k _ hg) (keeps_of (hbr.mono hB)) (Nat.le_refl _)
     have HSS:=Lib.hid hs
     refine' zq167
     clear hg hs
     generalize ss[k]=s at*
     go_wp2_with (at_builtin;refine wpList_append_sl rfl _ _ 55 rfl w.heap.size 103 i0 _ 5 64 Tryz.underlying55 hi0 hz0 hz1 hz2 rfl (by decide) _ _ _ rfl hown s.A s.l s.cap rfl HSS.out (fun _ _ h=>isVr_one h) ?c3 ?c4 hszr ?_)
     case c3=>unfold maxLen;omega
     case c4=>omega
     intro v' w3 css' hown' hare' hb3 _
     have hown4:w3.ownsRow w.heap.size 103 5 v' (catTo ss (k+1)).length (css++css').flatten:=by
      rw[HT.out,List.length_append,List.flatten_append];exact hown'
     have hb4:=hbr.trans hb3
     have HA4:Hid (Are (isVr w3 B) (catTo ss (k+1)) (css++css')):=by
      show Are _ _ _
      rw[HT.out]
      exact (HA.out.append hare').mono (fun x _ cs h=>isVr_keep (keeps_of (hb3.mono hB)) (Nat.le_refl _) h)
     clear hown' hare' hown HA
     go_wp2_with fail
     go_roundw
     case rel=>exact ⟨k+1,_,by omega,by go_num,hown4,HA4,hb4⟩
     case measure=>simp[intOf];omega
    ·obtain rfl:k=ss.length:=by omega
     go_wp2_with fail
     go_ret
     exact ⟨_,css,rfl,hown,HA.out,hbr⟩
def idxZ (o:Option Nat):Int:=match o with
 |some k=>(k:Int)
 |none=> -1
def idxOf (l:List ByteArray) (nm:ByteArray):Int:=idxZ (l.findIdx? (fun x=>decide (x=nm)))
theorem idx_at {l:List ByteArray} {nm:ByteArray} {k:Nat} (h:∀j,j<k→∀x,l[j]? =some x→x≠nm) (hk:l[k]? =some nm):idxOf l nm=k:=by
 have:l.findIdx? (fun x=>decide (x=nm))=some k:=by
  rw[List.findIdx?_eq_some_iff_getElem]
  obtain ⟨hl,he⟩:=List.getElem?_eq_some_iff.1 hk
  refine ⟨hl,by simp[he],fun j hj=>?_⟩
  have:=h j hj _ (List.getElem?_eq_getElem (by omega))
  simpa using this
 rw[idxOf,this];rfl
theorem idx_none {l:List ByteArray} {nm:ByteArray} (h:∀j,j<l.length→∀x,l[j]? =some x→x≠nm):idxOf l nm= -1:=by
 have:l.findIdx? (fun x=>decide (x=nm))=none:=by
  rw[List.findIdx?_eq_none_iff]
  intro x hx
  obtain ⟨j,hj⟩:=List.getElem?_of_mem hx
  have:=h j (List.getElem?_eq_some_iff.1 hj).1 x hj
  simpa using this
 rw[idxOf,this];rfl
theorem idx_cases (l:List ByteArray) (nm:ByteArray):(∃k:Nat,idxOf l nm=k∧l[k]? =some nm∧∀j,j<k→∀x,l[j]? =some x→x≠nm)∨(idxOf l nm= -1∧nm∉l):=by
 cases h:l.findIdx? (fun x=>decide (x=nm)) with
 |none=>
  refine .inr ⟨by rw[idxOf,h];rfl,fun hm=>?_⟩
  rw[List.findIdx?_eq_none_iff] at h
  have:=h nm hm
  simp at this
 |some k=>
  refine .inl ⟨k,by rw[idxOf,h];rfl,?_⟩
  obtain ⟨hl,he,hj⟩:=List.findIdx?_eq_some_iff_getElem.1 h
  refine ⟨by rw[List.getElem?_eq_getElem hl];congr 1;simpa using he,fun j hj' x hx=>?_⟩
  obtain ⟨hl',rfl⟩:=List.getElem?_eq_some_iff.1 hx
  have:=hj j hj'
  simpa using this
theorem idx_mem {l:List ByteArray} {nm:ByteArray}:0≤idxOf l nm↔nm∈l:=by
 rcases idx_cases l nm with ⟨k,h1,h2,_⟩|⟨h1,h2⟩
 ·rw[h1];exact ⟨fun _=>List.mem_of_getElem? h2,fun _=>by omega⟩
 ·rw[h1];exact ⟨fun h=>absurd h (by decide),fun h=>absurd h h2⟩
def varIdx (n:Nd) (nm:ByteArray):Int:=idxOf ((vrs n).map (·.name)) nm
structure VrSm (x:Vr):Prop where
 name:x.name.size≤30
 clock:x.clock.length≤6
 names:∀c∈x.clock,c.name.size≤30
structure EqnSm (q:Eqn):Prop where
 left:q.left.length≤12
 names:∀x∈q.left,x.size≤30
 right:Small q.right
structure NdSm (n:Nd):Prop where
 name:n.name.size≤30
 ins:n.ins.length≤50
 outs:n.outs.length≤50
 vars:n.vars.length≤50
 eqs:n.eqs.length≤60
 all:∀v∈vrs n,VrSm v
 eq:∀q∈n.eqs,EqnSm q
theorem NdSm.len {n:Nd} (h:NdSm n):(vrs n).length≤150:=by
 have:=h.ins;have:=h.outs;have:=h.vars
 simp only[vrs,List.length_append];omega
section
variable {W:World} {b:Nat}
abbrev ndArr (n:Nd) (a:NdA):Array Value:= #[.string n.name,.slice a.ai n.ins.length a.ci,.slice a.ao n.outs.length a.co,.slice a.av n.vars.length a.cv,.slice a.aq n.eqs.length a.cq,.int .i64 n.line,.int .i64 n.col]
theorem Row.nd {n:Nd} {a:NdA} {t:TypeId} (h:Row W b (ndArr n a) t):W.cell? ⟨b,0,none⟩=some (.string n.name)∧W.cell? ⟨b,1,none⟩=some (.slice a.ai n.ins.length a.ci)∧W.cell? ⟨b,2,none⟩=some (.slice a.ao n.outs.length a.co)∧
  W.cell? ⟨b,3,none⟩=some (.slice a.av n.vars.length a.cv)∧W.cell? ⟨b,4,none⟩=some (.slice a.aq n.eqs.length a.cq)∧W.cell? ⟨b,5,none⟩=some (.int .i64 n.line)∧W.cell? ⟨b,6,none⟩=some (.int .i64 n.col):=
 ⟨(h.cell 0).trans rfl,(h.cell 1).trans rfl,(h.cell 2).trans rfl,(h.cell 3).trans rfl,(h.cell 4).trans rfl,(h.cell 5).trans rfl,(h.cell 6).trans rfl⟩
abbrev vrArr (x:Vr) (A:Option Addr) (cap:Nat):Array Value:= #[.string x.name,.int .i64 x.ty,.slice A x.clock.length cap,.int .i64 x.line,.int .i64 x.col]
abbrev vrV (x:Vr) (A:Option Addr) (cap:Nat):Value:= .agg #[.string x.name,.int .i64 x.ty,.slice A x.clock.length cap,.int .i64 x.line,.int .i64 x.col]
theorem Row.vr {x:Vr} {A:Option Addr} {cap:Nat} {t:TypeId} (h:Row W b (vrArr x A cap) t):W.cell? ⟨b,0,none⟩=some (.string x.name)∧W.cell? ⟨b,1,none⟩=some (.int .i64 x.ty)∧W.cell? ⟨b,2,none⟩=some (.slice A x.clock.length cap)∧
  W.cell? ⟨b,3,none⟩=some (.int .i64 x.line)∧W.cell? ⟨b,4,none⟩=some (.int .i64 x.col):=
 ⟨(h.cell 0).trans rfl,(h.cell 1).trans rfl,(h.cell 2).trans rfl,(h.cell 3).trans rfl,(h.cell 4).trans rfl⟩
theorem Row.five {x0 x1 x2 x3 x4:Value} {t:TypeId} (h:Row W b #[x0,x1,x2,x3,x4] t):(W.cell? ⟨b,0,none⟩=some x0∧W.cell? ⟨b,1,none⟩=some x1∧W.cell? ⟨b,2,none⟩=some x2∧W.cell? ⟨b,3,none⟩=some x3∧W.cell? ⟨b,4,none⟩=some x4)∧
  (W.frozen? ⟨b,0,none⟩=false∧W.frozen? ⟨b,1,none⟩=false∧W.frozen? ⟨b,2,none⟩=false∧W.frozen? ⟨b,3,none⟩=false∧W.frozen? ⟨b,4,none⟩=false):=
 ⟨⟨(h.cell 0).trans rfl,(h.cell 1).trans rfl,(h.cell 2).trans rfl,(h.cell 3).trans rfl,(h.cell 4).trans rfl⟩,h.frozen 0,h.frozen 1,h.frozen 2,h.frozen 3,h.frozen 4⟩
end
def VrsOwn (B:Nat) (w w':World) (l:List Vr) (v:Value):Prop:=∃css,w'.ownsRow w.heap.size 103 5 v l.length css.flatten∧Are (isVr w' B) l css
theorem VrsOwn.sl {B:Nat} {w w':World} {l:List Vr} {v:Value} (h:VrsOwn B w w' l v):∃A cap,v= .slice A l.length cap∧l.length≤cap∧cap≤maxLen∧Sl w' w'.heap.size 5 (isVr w' B) A l:=by
 obtain ⟨css,h1,h2⟩:=h
 obtain ⟨⟨A,cap,e1,e2,e3,e4⟩,_⟩:=own_sl h1 h2 (h2.all (fun _ _ _ h=>(isVr_one h).1)) (by decide)
 exact ⟨A,cap,e1,e2,e3,e4⟩
theorem all_any (B:Nat) (n:Nd) (a:NdA) (w:World) (hB:B≤w.heap.size) (h:NdAt w B n a) (hl:(vrs n).length≤10000):
  Calls Tryz.prog 73 #[ndV n a] w fun e w'=>(∃v,e= .returned v∧VrsOwn B w w' (vrs n) v)∧Below w.heap.size w w':=by
 have hcat:catTo [⟨a.ai,a.ci,n.ins⟩,⟨a.ao,a.co,n.outs⟩,⟨a.av,a.cv,n.vars⟩] 3=vrs n:=by simp[catTo,vrs]
 have HC:=Lib.hid hcat
 have H:=Lib.hid h
 clear h hcat
 go_enter Tryz.func73,Tryz.ntmps73
 go_wp2_with fail
 have hb1:Below w.heap.size w ((w.alloc (.cells (ndArr n a) 58)).alloc (.cells #[.slice a.ai n.ins.length a.ci,.slice a.ao n.outs.length a.co,.slice a.av n.vars.length a.cv] 55)):=((Below.refl _ _).alloc (Nat.le_refl _) _).alloc (by simp) _
 refine (concat_var [⟨a.ai,a.ci,n.ins⟩,⟨a.ao,a.co,n.outs⟩,⟨a.av,a.cv,n.vars⟩] (w.heap.size+1) B 3 _ (Nat.le_refl _) (by decide) (by rw[show [(⟨a.ai,a.ci,n.ins⟩:Vsl),⟨a.ao,a.co,n.outs⟩,⟨a.av,a.cv,n.vars⟩].length=3 from rfl,HC.out];exact hl) (by simp) (by simp;omega) ?_ ?_).mono ?_
 ·intro k s hs
  match k,hs with
  |0,hs=>simp at hs;subst hs;simp
  |1,hs=>simp at hs;subst hs;simp
  |2,hs=>simp at hs;subst hs;simp
 ·intro k s hs
  match k,hs with
  |0,hs=>simp at hs;subst hs;exact vrs_keep H.out.si (keeps_of (hb1.mono hB)) (Nat.le_refl _)
  |1,hs=>simp at hs;subst hs;exact vrs_keep H.out.so (keeps_of (hb1.mono hB)) (Nat.le_refl _)
  |2,hs=>simp at hs;subst hs;exact vrs_keep H.out.sv (keeps_of (hb1.mono hB)) (Nat.le_refl _)
 rintro e w2 ⟨v,css,rfl,ho,ha,hb2⟩
 rw[show [(⟨a.ai,a.ci,n.ins⟩:Vsl),⟨a.ao,a.co,n.outs⟩,⟨a.av,a.cv,n.vars⟩].length=3 from rfl,HC.out] at ho ha
 go_wp2_with fail
 go_ret
 exact ⟨⟨v,rfl,css,own_base ho (by simp;omega),ha⟩,hb1.trans (hb2.mono (by simp;omega))⟩
end Go.Proofs.YtdkgkacnjdnpoaaGreat
