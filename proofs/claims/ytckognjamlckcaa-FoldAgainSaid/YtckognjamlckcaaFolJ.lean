/-
  fold.Fold: a wrong form; the folder is made. fold: new numbers for what is needed.
-/
import Derived.Test.YtckognjamlckcaaFolM
import Derived.Test.YtckognjamlckcaaRgL
import Derived.Test.YtckognjamlckcaaSemP
import Derived.Test.YtckognjamlckcaaNormN
import Derived.Deep.DeepCutAuto
import Derived.Test.YtckognjamlckcaaFolD
import Derived.StillTailTactics
namespace Go.Proofs.Ytckognjamlckcaa
open Go.RowKit Vf Fo Ar
attribute [local go_sem ↓] Go.wp_at_zero Go.wp_at_succ
def zf6:Array Value:= #[.slice none 0 0,.slice none 0 0,.slice none 0 0,.slice none 0 0,.slice none 0 0,.slice none 0 0]
def fm0:Value:=fmV (.slice none 0 0) (.slice none 0 0) (.slice none 0 0) (.slice none 0 0) (.slice none 0 0) (.slice none 0 0)
theorem Row.set6 {W:World} {b:Nat} {t:TypeId} (h:Row W b zf6 t) (x0 x1 x2 x3 x4 x5:Value):Row ((((((W.setCell ⟨b,0,none⟩ x0).setCell ⟨b,1,none⟩ x1).setCell ⟨b,2,none⟩ x2).setCell ⟨b,3,none⟩ x3).setCell ⟨b,4,none⟩ x4).setCell ⟨b,5,none⟩ x5) b #[x0,x1,x2,x3,x4,x5] t:=by
 have:=(((((h.set 0 x0).set 1 x1).set 2 x2).set 3 x3).set 4 x4).set 5 x5
 simpa[zf6] using this
theorem upd_set6 {W:World} {b:Nat} (x0 x1 x2 x3 x4 x5:Value):Upd (fun k=>k=b) W ((((((W.setCell ⟨b,0,none⟩ x0).setCell ⟨b,1,none⟩ x1).setCell ⟨b,2,none⟩ x2).setCell ⟨b,3,none⟩ x3).setCell ⟨b,4,none⟩ x4).setCell ⟨b,5,none⟩ x5):=
 ((((((Upd.refl (fun k=>k=b) W).setCell (X:=fun k=>k=b) (p:=⟨b,0,none⟩) rfl x0).setCell (X:=fun k=>k=b) (p:=⟨b,1,none⟩) rfl x1).setCell (X:=fun k=>k=b) (p:=⟨b,2,none⟩) rfl x2).setCell (X:=fun k=>k=b) (p:=⟨b,3,none⟩) rfl x3).setCell (X:=fun k=>k=b) (p:=⟨b,4,none⟩) rfl x4).setCell (X:=fun k=>k=b) (p:=⟨b,5,none⟩) rfl x5
set_option maxRecDepth 100000 in
set_option maxHeartbeats 8000000 in
theorem fold_no (f:Fm) (vw va vc vk vi vo:Value) (w:World) (h:FmAt w w.heap.size f vw va vc vk vi vo) (hcl:f.cells.length≤1600) (hf:¬formOk f):
  Calls Try.prog 11 #[fmV vw va vc vk vi vo] w fun e w'=>e= .returned (.tuple #[fm0,.int .i64 2])∧Below w.heap.size w w':=by
 have b1:Below w.heap.size w ((w.alloc (.cells #[vw,va,vc,vk,vi,vo] 28)).alloc (.cells zf6 28)):=bE
 have rG1:Row ((w.alloc (.cells #[vw,va,vc,vk,vi,vo] 28)).alloc (.cells zf6 28)) w.heap.size #[vw,va,vc,vk,vi,vo] 28:=(Row.new w _ _).alloc _
 have rR1:Row ((w.alloc (.cells #[vw,va,vc,vk,vi,vo] 28)).alloc (.cells zf6 28)) (w.heap.size+1) zf6 28:=rowNew2 w _ _ _
 have HR:=Lib.hid (nright_any f vw va vc vk vi vo _ (h.next b1) hcl)
 rw[cB_false hf] at HR
 clear h hcl hf
 go_enter Try.func11,Try.ntmps11
 go_upto_region 1 with (fail)
 change Code.wp _ _ _ _ ((w.alloc (.cells #[vw,va,vc,vk,vi,vo] 28)).alloc (.cells zf6 28))
 generalize (w.alloc (.cells #[vw,va,vc,vk,vi,vo] 28)).alloc (.cells zf6 28)=w1 at*
 have hs1:=b1.size
 have hG1:=rR1.lt
 obtain ⟨f0,f1,f2,f3,f4,f5⟩:=rG1.six'
 go_wp2_with fail
 (with_reducible refine HR.out.mono ?_)
 rintro e w2 ⟨rfl,hb2⟩
 have b2:=b1.trans (hb2.mono hs1)
 have rR2:=rR1.below hb2 hG1
 clear f0 f1 f2 f3 f4 f5 HR hb2 rG1 rR1
 obtain ⟨q0,q1,q2,q3,q4,q5⟩:=Row.six' (x0:= .slice none 0 0) (x1:= .slice none 0 0) (x2:= .slice none 0 0) (x3:= .slice none 0 0) (x4:= .slice none 0 0) (x5:= .slice none 0 0) rR2
 have z0:=rR2.frozen 0
 have z1:=rR2.frozen 1
 have z2:=rR2.frozen 2
 have z3:=rR2.frozen 3
 have z4:=rR2.frozen 4
 have z5:=rR2.frozen 5
 go_wp2_with fail
 refine bodyPost_ret (res2 rfl Try.underlying28 rfl (by kernel_rfl) rfl rfl (Row.set6 rR2 _ _ _ _ _ _)) rfl ⟨rfl,?_⟩
 exact b2.trans ((upd_set6 _ _ _ _ _ _).below (fun k hk=>by omega) b2.size)
theorem sl_keepO {α:Type} {w w':World} {B size O:Nat} {A:Option Addr} {l:List α} {rel rel':α→List Value→Prop} {t:TypeId} (h:Sl w B size rel A l) (hO:Row w O zf6 t) (hu:Upd (fun k=>k=O) w w') (hB:B≤w.heap.size) (hr:∀x∈l,∀cs,rel x cs→(∃n,cs[0]? =some (.int .i64 n))∧rel' x cs):Sl w' B size rel' A l:=fun hn=>by
 obtain ⟨b,off,hA,hb,hx⟩:=h hn
 have hbO:b≠O:=fun e=>by
  obtain ⟨cs,h1,h2⟩:=hx 0 l[0] (List.getElem?_eq_getElem hn)
  obtain ⟨⟨n,h3⟩,_⟩:=hr _ (List.getElem_mem hn) _ h2
  have h4:=h1 0 _ h3
  rw[e,hO.cell] at h4
  have:=Array.mem_of_getElem? h4
  simp[zf6] at this
 refine ⟨b,off,hA,hb,fun i x hi=>?_⟩
 obtain ⟨cs,h1,h2⟩:=hx i x hi
 refine ⟨cs,fun j u hj=>?_,(hr x (List.mem_of_getElem? hi) cs h2).2⟩
 have:=h1 j u hj
 simp only[World.cell?] at this⊢
 rw[hu.block b (by omega) hbO]
 exact this
theorem slv_keepO {α:Type} {w w':World} {B size O:Nat} {v:Value} {l:List α} {rel rel':α→List Value→Prop} {t:TypeId} (h:SlV w B size rel v l) (hO:Row w O zf6 t) (hu:Upd (fun k=>k=O) w w') (hB:B≤w.heap.size) (hr:∀x∈l,∀cs,rel x cs→(∃n,cs[0]? =some (.int .i64 n))∧rel' x cs):SlV w' B size rel' v l:=by
 obtain ⟨A,c,h1,h2,h3,h4⟩:=h
 exact ⟨A,c,h1,h2,h3,sl_keepO h4 hO hu hB hr⟩
theorem fm_keepO {w w':World} {B O:Nat} {f:Fm} {vw va vc vk vi vo:Value} {t:TypeId} (h:FmAt w B f vw va vc vk vi vo) (hO:Row w O zf6 t) (hu:Upd (fun k=>k=O) w w') (hB:B≤w.heap.size):FmAt w' B f vw va vc vk vi vo:=
 ⟨slv_keepO h.wires hO hu hB (fun x _ cs g=>by
  obtain ⟨v,rfl,h1,h2⟩:=g
  exact ⟨⟨_,rfl⟩,v,rfl,h1,slv_keepO h2 hO hu hB (fun y _ cs g=>⟨by rw[g.1];exact ⟨_,rfl⟩,g⟩)⟩),
  slv_keepO h.acts hO hu hB (fun x _ cs g=>⟨by rw[g.1];exact ⟨_,rfl⟩,g⟩),slv_keepO h.cells hO hu hB (fun x _ cs g=>⟨by rw[g.1];exact ⟨_,rfl⟩,g⟩),slv_keepO h.keeps hO hu hB (fun x _ cs g=>⟨by rw[g.1];exact ⟨_,rfl⟩,g⟩),slv_keepO h.ins hO hu hB (fun x _ cs g=>⟨by rw[g.1];exact ⟨_,rfl⟩,g⟩),slv_keepO h.outs hO hu hB (fun x _ cs g=>⟨by rw[g.1];exact ⟨_,rfl⟩,g⟩)⟩
def FoE (f:Fm) (j:Nat) (x:Value) (k:List Nat) (W:World):Prop:=
 if j=2 then ∃L p K,k=[p,K]∧p≠K∧p<W.heap.size∧x= .slice (some ⟨K,0,none⟩) f.wires.length f.wires.length∧Row W K (ints L).toArray 3∧ByL f L
 else if j=4 then ∃K,k=[K]∧x= .slice (some ⟨K,0,none⟩) f.wires.length f.wires.length∧Row W K (ints (List.replicate f.wires.length 0)).toArray 3
 else if j=7 then ∃b,W.ownsRow b 50 6 x f.acts.length (acF f.acts)∧∀g,x.ownBlock=some g→g∈k
 else if j=15 then ∃K,k=[K]∧x= .slice (some ⟨K,0,none⟩) f.cells.length f.cells.length∧Row W K (bls (List.replicate f.cells.length false)).toArray 4
 else if j=19 then ∃K,k=[K]∧x= .slice (some ⟨K,0,none⟩) f.cells.length f.cells.length∧Row W K (ints (List.replicate f.cells.length 0)).toArray 3
 else ∃K,k=[K]∧x= .slice (some ⟨K,0,none⟩) f.wires.length f.wires.length∧Row W K (bls (List.replicate f.wires.length false)).toArray 4
theorem FoE.keep {f:Fm} {j:Nat} {x:Value} {k:List Nat} {W W':World} (h:FoE f j x k W) (hb:Below W.heap.size W W'):FoE f j x k W':=by
 have hs:=hb.size
 unfold FoE at h⊢
 split at h
 ·obtain ⟨L,p,K,h1,h2,h3,h4,h5,h6⟩:=h
  rw[if_pos (by assumption)]
  exact ⟨L,p,K,h1,h2,by omega,h4,h5.below hb h5.lt,h6⟩
 rw[if_neg (by assumption)]
 split at h
 ·obtain ⟨K,h1,h2,h3⟩:=h
  rw[if_pos (by assumption)]
  exact ⟨K,h1,h2,h3.below hb h3.lt⟩
 rw[if_neg (by assumption)]
 split at h
 ·obtain ⟨b,h1,h2⟩:=h
  rw[if_pos (by assumption)]
  exact ⟨b,own_below h1 hb,h2⟩
 rw[if_neg (by assumption)]
 split at h
 ·obtain ⟨K,h1,h2,h3⟩:=h
  rw[if_pos (by assumption)]
  exact ⟨K,h1,h2,h3.below hb h3.lt⟩
 rw[if_neg (by assumption)]
 split at h
 ·obtain ⟨K,h1,h2,h3⟩:=h
  rw[if_pos (by assumption)]
  exact ⟨K,h1,h2,h3.below hb h3.lt⟩
 rw[if_neg (by assumption)]
 obtain ⟨K,h1,h2,h3⟩:=h
 exact ⟨K,h1,h2,h3.below hb h3.lt⟩
theorem acs_of {w:World} {B:Nat} {f:Fm} {vw va vc vk vi vo:Value} (h:FmAt w B f vw va vc vk vi vo):∀x∈f.acts,AcIn x:=fun x hx=>by
 obtain ⟨i,hi⟩:=List.getElem?_of_mem hx
 obtain ⟨A,c,_,_,_,sa⟩:=h.acts
 obtain ⟨_,_,y,_,_,hy,wy,_⟩:=sa.ac (List.getElem?_eq_some_iff.1 hi).1
 rw[hi] at hy
 injection hy with hy
 rw[hy];exact wy
structure FoN (f:Fm) (vw va vc vk vi vo:Value) (w1 W:World) (q:FoQ) (L:List Int):Prop where
 fo:FoAt f L q W (List.replicate f.wires.length 0) f.acts (List.replicate f.wires.length false) (List.replicate f.wires.length false) (List.replicate f.cells.length false) (List.replicate f.cells.length 0)
 by_:ByL f L
 far:∀k,foX q k→w1.heap.size≤k
 bel:Below w1.heap.size w1 W
theorem fon_of {f:Fm} {vw va vc vk vi vo:Value} {w1 w5:World} {v:Nat→Value} {k:Nat→List Nat} (hf:formOk f) (hfm:FmAt w1 w1.heap.size f vw va vc vk vi vo) (hb:Below w1.heap.size w1 w5) (hF:∀j∈[2,4,7,9,11,15,19],FoE f j (v j) (k j) w5∧∀p∈k j,w1.heap.size≤p∧p<w5.heap.size)
  (hd:∀i∈[2,4,7,9,11,15,19],∀j∈[2,4,7,9,11,15,19],i≠j→∀p∈k i,p∉k j) (hal:f.acts.length≤100000):
  ∃q L,q.D=w5.heap.size∧FoN f vw va vc vk vi vo w1 (w5.alloc (.cells #[vw,va,vc,vk,vi,vo,v 2,v 4,v 7,v 9,v 11,v 15,v 19] 60)) q L:=by
 obtain ⟨⟨L,p,K2,e2,pK,_,x2,r2,hL⟩,g2⟩:=hF 2 (by simp)
 obtain ⟨⟨K4,e4,x4,r4⟩,g4⟩:=hF 4 (by simp)
 obtain ⟨⟨b,o7,m7⟩,g7⟩:=hF 7 (by simp)
 obtain ⟨⟨K9,e9,x9,r9⟩,g9⟩:=hF 9 (by simp)
 obtain ⟨⟨K11,e11,x11,r11⟩,g11⟩:=hF 11 (by simp)
 obtain ⟨⟨K15,e15,x15,r15⟩,g15⟩:=hF 15 (by simp)
 obtain ⟨⟨K19,e19,x19,r19⟩,g19⟩:=hF 19 (by simp)
 obtain ⟨xa,cap,x7,_⟩:=own_src o7
 have hcap:f.acts.length≤cap∧cap≤maxLen:=by
  obtain ⟨A,c,h1,h2,h3,_⟩:=own_rd o7
  rw[x7] at h1
  injection h1 with _ _ h1
  rw[h1]
  exact ⟨h2,h3⟩
 obtain ⟨KA,hA1,hA2,hA3,hK2A⟩:∃KA,(∀g,(v 7).ownBlock=some g→KA=g)∧(w1.heap.size≤KA∧KA<w5.heap.size)∧(∀j∈[4,9,11,15,19],KA∉k j)∧K2≠KA:=by
  cases q:(v 7).ownBlock with
  |none=>exact ⟨p,fun g h=>(by cases h),g2 p (by rw[e2];simp),fun j hj=>hd 2 (by simp) j (by simp at hj⊢;omega) (by simp at hj;omega) p (by rw[e2];simp),fun e=>pK e.symm⟩
  |some g=>exact ⟨g,fun g' h=>(by injection h),g7 g (m7 g q),fun j hj=>hd 7 (by simp) j (by simp at hj⊢;omega) (by simp at hj;omega) g (m7 g q),fun e=>hd 2 (by simp) 7 (by simp) (by decide) K2 (by rw[e2];simp) (by rw[e];exact m7 g q)⟩
 have n4:=g4 K4 (by rw[e4];simp)
 have n9:=g9 K9 (by rw[e9];simp)
 have n11:=g11 K11 (by rw[e11];simp)
 have n15:=g15 K15 (by rw[e15];simp)
 have n19:=g19 K19 (by rw[e19];simp)
 have n2:=g2 K2 (by rw[e2];simp)
 have ne:∀i j a b,k i=a→k j=b→i∈[2,4,7,9,11,15,19]→j∈[2,4,7,9,11,15,19]→i≠j→∀x∈a,∀y∈b,x≠y:=fun i j a b ha hb hi hj hij x hx y hy e=>hd i hi j hj hij x (by rw[ha];exact hx) (by rw[hb,e];exact hy)
 have a4:KA≠K4:=fun e=>hA3 4 (by simp) (by rw[e4,e];simp)
 have a9:KA≠K9:=fun e=>hA3 9 (by simp) (by rw[e9,e];simp)
 have a11:KA≠K11:=fun e=>hA3 11 (by simp) (by rw[e11,e];simp)
 have a15:KA≠K15:=fun e=>hA3 15 (by simp) (by rw[e15,e];simp)
 have a19:KA≠K19:=fun e=>hA3 19 (by simp) (by rw[e19,e];simp)
 have b24:K2≠K4:=ne 2 4 _ _ e2 e4 (by simp) (by simp) (by decide) K2 (by simp) K4 (by simp)
 have b29:K2≠K9:=ne 2 9 _ _ e2 e9 (by simp) (by simp) (by decide) K2 (by simp) K9 (by simp)
 have b211:K2≠K11:=ne 2 11 _ _ e2 e11 (by simp) (by simp) (by decide) K2 (by simp) K11 (by simp)
 have b215:K2≠K15:=ne 2 15 _ _ e2 e15 (by simp) (by simp) (by decide) K2 (by simp) K15 (by simp)
 have b219:K2≠K19:=ne 2 19 _ _ e2 e19 (by simp) (by simp) (by decide) K2 (by simp) K19 (by simp)
 have b49:K4≠K9:=ne 4 9 _ _ e4 e9 (by simp) (by simp) (by decide) K4 (by simp) K9 (by simp)
 have b411:K4≠K11:=ne 4 11 _ _ e4 e11 (by simp) (by simp) (by decide) K4 (by simp) K11 (by simp)
 have b415:K4≠K15:=ne 4 15 _ _ e4 e15 (by simp) (by simp) (by decide) K4 (by simp) K15 (by simp)
 have b419:K4≠K19:=ne 4 19 _ _ e4 e19 (by simp) (by simp) (by decide) K4 (by simp) K19 (by simp)
 have b911:K9≠K11:=ne 9 11 _ _ e9 e11 (by simp) (by simp) (by decide) K9 (by simp) K11 (by simp)
 have b915:K9≠K15:=ne 9 15 _ _ e9 e15 (by simp) (by simp) (by decide) K9 (by simp) K15 (by simp)
 have b919:K9≠K19:=ne 9 19 _ _ e9 e19 (by simp) (by simp) (by decide) K9 (by simp) K19 (by simp)
 have b1115:K11≠K15:=ne 11 15 _ _ e11 e15 (by simp) (by simp) (by decide) K11 (by simp) K15 (by simp)
 have b1119:K11≠K19:=ne 11 19 _ _ e11 e19 (by simp) (by simp) (by decide) K11 (by simp) K19 (by simp)
 have b1519:K15≠K19:=ne 15 19 _ _ e15 e19 (by simp) (by simp) (by decide) K15 (by simp) K19 (by simp)
 clear ne hd hA3 e2 e4 e9 e11 e15 e19 g2 g4 g7 g9 g11 g15 g19
 have ba:Below w5.heap.size w5 (w5.alloc (.cells #[vw,va,vc,vk,vi,vo,v 2,v 4,v 7,v 9,v 11,v 15,v 19] 60)):=bE
 have rD:=Row.new w5 #[vw,va,vc,vk,vi,vo,v 2,v 4,v 7,v 9,v 11,v 15,v 19] 60
 have hsz:(w5.alloc (.cells #[vw,va,vc,vk,vi,vo,v 2,v 4,v 7,v 9,v 11,v 15,v 19] 60)).heap.size=w5.heap.size+1:=by simp
 have hc5:foCs f ⟨w5.heap.size,K4,KA,K9,K11,K15,K19,vw,va,vc,vk,vi,vo,v 2,v 7,cap,w5.heap.size+1,w1.heap.size,xa⟩= #[vw,va,vc,vk,vi,vo,v 2,v 4,v 7,v 9,v 11,v 15,v 19]:=by
  unfold foCs
  rw[x4,x9,x11,x15,x19]
 have hX:∀z,foX ⟨w5.heap.size,K4,KA,K9,K11,K15,K19,vw,va,vc,vk,vi,vo,v 2,v 7,cap,w5.heap.size+1,w1.heap.size,xa⟩ z→w1.heap.size≤z∧z<w5.heap.size∧z≠K2:=fun z hz=>by
  unfold foX at hz
  dsimp only at hz
  rcases hz with rfl|rfl|rfl|rfl|rfl|rfl
  ·exact ⟨n4.1,n4.2,Ne.symm b24⟩
  ·exact ⟨hA2.1,hA2.2,Ne.symm hK2A⟩
  ·exact ⟨n9.1,n9.2,Ne.symm b29⟩
  ·exact ⟨n11.1,n11.2,Ne.symm b211⟩
  ·exact ⟨n15.1,n15.2,Ne.symm b215⟩
  ·exact ⟨n19.1,n19.2,Ne.symm b219⟩
 refine ⟨⟨w5.heap.size,K4,KA,K9,K11,K15,K19,vw,va,vc,vk,vi,vo,v 2,v 7,cap,w5.heap.size+1,w1.heap.size,xa⟩,L,rfl,⟨?_,hL,fun z hz=>(hX z hz).1,hb.trans (ba.mono hb.size)⟩⟩
 have hbs:=hb.size
 have hY:∀z,foY ⟨w5.heap.size,K4,KA,K9,K11,K15,K19,vw,va,vc,vk,vi,vo,v 2,v 7,cap,w5.heap.size+1,w1.heap.size,xa⟩ z→w1.heap.size≤z∧z≠K2∧z≠w5.heap.size:=fun z hz=>by
  rcases hz with hz|hz
  ·have:=hX z hz
   exact ⟨this.1,this.2.2,by omega⟩
  ·dsimp only at hz
   exact ⟨by omega,by omega,by omega⟩
 generalize hW:w5.alloc (.cells #[vw,va,vc,vk,vi,vo,v 2,v 4,v 7,v 9,v 11,v 15,v 19] 60)=W at*
 have hIL:(ints L).toArray=(L.map (fun x=> [Value.int .i64 x])).flatten.toArray:=by
  congr 1
  clear hL r2
  induction L with
  |nil=>rfl
  |cons a l ih=>
   simp only[ints,List.map_cons,List.flatten_cons,List.cons_append,List.nil_append] at ih⊢
   rw[ih]
 refine ⟨fun W' u=>⟨?_,?_,?_⟩,by dsimp only;omega,fun z hz=>?_,by dsimp only;omega,⟨x7,hcap⟩,fun z hz=>(hX z hz).1,?_,?_,r4.below ba r4.lt,fun h0=>?_,r9.below ba r9.lt,r11.below ba r11.lt,r15.below ba r15.lt,r19.below ba r19.lt,by simp,rfl,by simp,by simp,by simp,by simp,fun x hx=>?_,fun x hx=>?_,fun x hx=>?_⟩
 ·have low:Below w1.heap.size W W':=u.below (fun z hz=>(hY z hz).1) (by omega)
  exact ((hfm.below (hb.trans (ba.mono hbs))).below low).more (by dsimp only;omega)
 ·have r2':=u.row (r2.below ba r2.lt) (fun g=>(hY _ g).2.1 rfl)
  have hl1:=hL.1
  show SlV W' _ 1 isInt (v 2) L
  rw[x2,←hl1]
  rw[hIL] at r2'
  exact row_flat (C:=fun x=> [Value.int .i64 x]) r2' (fun _=>rfl) (fun x hx=>⟨rfl,hL.2.1 x hx⟩) (by dsimp only;omega) (by have:=hf.1.2.2;unfold maxLen;omega)
 ·show Row W' w5.heap.size _ _
  rw[hc5]
  exact u.row rD (fun g=>(hY _ g).2.2 rfl)
 ·have:=(hX z hz).2.1
  dsimp only
  omega
 ·exact (hfm.below (hb.trans (ba.mono hbs)))
 ·simp only[List.nodup_cons,List.mem_cons,List.not_mem_nil,or_false,not_or,not_false_eq_true,List.nodup_nil,and_true]
  exact ⟨⟨Ne.symm a4,b49,b411,b415,b419⟩,⟨a9,a11,a15,a19⟩,⟨b911,b915,b919⟩,⟨b1115,b1119⟩,b1519⟩
 ·have o7':=own_below o7 ba
  rcases o7'.2 with ⟨_,h1⟩|⟨g,c,cur,h1,h2,h3,h4,h5,h6,h7⟩
  ·omega
  ·have hg:=hA1 g (by rw[h1];rfl)
   subst hg
   have hcc:c=cap:=by rw[x7] at h1;injection h1 with _ _ h1;exact h1.symm
   subst hcc
   exact ⟨⟨h1,h4,h5⟩,cur.toList,h3,by rw[Array.length_toList,h6];exact Nat.mul_le_mul_right 6 h4,h7⟩
 ·rw[List.eq_of_mem_replicate hx];exact wf_of (by omega)
 ·exact acs_of hfm x hx
 ·rw[List.eq_of_mem_replicate hx];exact wf_of (by omega)
end Go.Proofs.Ytckognjamlckcaa
namespace Go.Proofs.Ytckognjamlckcaa.Fo
open Vf Ar
def numTo (l:List Bool) (k:Nat):List Int:=(List.range l.length).map (fun i=>if i<k∧l.getD i false=true then ((cntF l i:Nat):Int) else 0)
theorem numTo_len (l:List Bool) (k:Nat):(numTo l k).length=l.length:=by simp[numTo]
theorem numTo_zero (l:List Bool):numTo l 0=List.replicate l.length 0:=by
 apply List.ext_getElem?
 intro i
 simp[numTo,List.getElem?_replicate]
 rcases Nat.lt_or_ge i l.length with h|h
 ·simp[h]
 ·simp[h]
theorem numTo_succ (l:List Bool) {k:Nat} (hk:k<l.length):numTo l (k+1)=if l.getD k false=true then (numTo l k).set k ((cntF l k:Nat):Int) else numTo l k:=by
 apply List.ext_getElem?
 intro i
 split
 ·rename_i h
  rw[List.getElem?_set]
  by_cases e:k=i
  ·subst e
   rw[if_pos rfl,if_pos (by rw[numTo_len];exact hk)]
   simp[numTo,hk]
   intro g
   simp[List.getD_eq_getElem?_getD,List.getElem?_eq_getElem hk] at h
   exact absurd h (by simpa using g)
  ·rw[if_neg e]
   simp only[numTo,List.getElem?_map]
   rcases Nat.lt_or_ge i l.length with g|g
   ·rw[List.getElem?_range g]
    simp only[Option.map_some]
    congr 2
    exact propext ⟨fun q=>⟨by omega,q.2⟩,fun q=>⟨by omega,q.2⟩⟩
   ·rw[List.getElem?_eq_none (by simpa using g)]
    rfl
 ·rename_i h
  simp only[numTo,List.getElem?_map]
  rcases Nat.lt_or_ge i l.length with g|g
  ·rw[List.getElem?_range g]
   simp only[Option.map_some]
   congr 2
   refine propext ⟨fun q=>⟨?_,q.2⟩,fun q=>⟨by omega,q.2⟩⟩
   rcases Nat.lt_or_ge i k with r|r
   ·exact r
   ·obtain rfl:i=k:=by omega
    exact absurd q.2 h
  ·rw[List.getElem?_eq_none (by simpa using g)]
   rfl
theorem numTo_get (l:List Bool) {v:Int} (h0:0≤v):getI (numTo l l.length) v=numV l v:=by
 unfold getI
 rw[List.getD_eq_getElem?_getD]
 simp only[numTo,List.getElem?_map]
 by_cases hn:nd l v
 ·have hl:=nd_lt hn
  have hg:v.toNat<l.length:=by omega
  rw[List.getElem?_range hg,numV_nd hn]
  simp only[Option.map_some,Option.getD_some]
  rw[if_pos ⟨hg,hn.2⟩]
 ·unfold numV
  rw[if_neg hn]
  rcases Nat.lt_or_ge v.toNat l.length with g|g
  ·rw[List.getElem?_range g]
   simp only[Option.map_some,Option.getD_some]
   rw[if_neg (fun q=>hn ⟨h0,q.2⟩)]
  ·rw[List.getElem?_eq_none (by simpa using g)]
   rfl
end Go.Proofs.Ytckognjamlckcaa.Fo
namespace Go.Proofs.Ytckognjamlckcaa
open Go.RowKit Vf Fo Ar
attribute [local go_sem ↓] Go.wp_at_zero Go.wp_at_succ
def NumIs (l:List Bool) (w:World) (e:Ending) (w':World):Prop:=∃K,e= .returned (.slice (some ⟨K,0,none⟩) l.length l.length)∧w.heap.size≤K∧Row w' K (ints (numTo l l.length)).toArray 3∧Below w.heap.size w w'
set_option maxRecDepth 100000 in
set_option maxHeartbeats 4000000 in
theorem numbered_any (l:List Bool) (E:Nat) (w:World) (hr:Row w E (bls l).toArray 4) (hl:l.length≤1600):
  Calls Try.prog 61 #[.slice (some ⟨E,0,none⟩) l.length l.length] w (NumIs l w):=by
 have mk:=make_ints l.length (by omega) (by omega)
 have HR:=Lib.hid (fun W (hW:Below w.heap.size w W)=>hr.below hW hr.lt)
 have b1:Below w.heap.size w (w.alloc (.cells (Array.replicate l.length (.int .i64 0)) 3)):=bE
 have HRK:Hid (Row (w.alloc (.cells (Array.replicate l.length (.int .i64 0)) 3)) w.heap.size (ints (numTo l 0)).toArray 3):=by
  have:=Row.new w (Array.replicate l.length (.int .i64 0)) 3
  show Row _ _ _ _
  rw[numTo_zero]
  simpa[ints] using this
 have hEl:=hr.lt
 clear hr
 go_enter Try.func61,Try.ntmps61
 go_upto_region 2 with (fail)
 generalize w.alloc (.cells (Array.replicate l.length (.int .i64 0)) 3)=w1 at*
 have hs1:=b1.size
 generalize hK:w.heap.size=K at*
 clear mk
 have hK1:=HRK.out.lt
 go_wp2_with fail
 go_loopw[4,12] (fun c i wr=>∃k:Nat,k≤l.length∧i= .int .i64 k∧c= .int .i64 (cntF l k:Nat)∧Row wr K (ints (numTo l k)).toArray 3∧Upd (fun k=>k=K) w1 wr) (fun _ i _=>l.length-(intOf i).toNat)
 case atStart=>exact ⟨0,Nat.zero_le _,rfl,rfl,HRK.out,Upd.refl _ _⟩
 case round=>
  obtain ⟨k,hk,rfl,rfl,rK,uK⟩:=hrel
  have hb:Below K w wr:=b1.trans ((uK.below (B:=K) (fun k e=>by omega) (by omega)))
  by_cases hlt:k<l.length
  ·have hlt':(k:Int)<l.length:=by omega
   have cE:=ds_cell (HR.out _ hb) hlt
   have HS:=Lib.hid (numTo_succ l hlt)
   have hcl:=cnt_le l k
   have hcS:Hid (cntF l (k+1)=cntF l k+if l.getD k false=true then 1 else 0):=rfl
   have hbg:bGet l (k:Int)=l.getD k false:=by simp[bGet]
   rw[hbg] at cE
   generalize l.getD k false=B0 at*
   cases B0
   ·have HS':Hid (numTo l (k+1)=numTo l k):=HS.out
    have HC:Hid (cntF l (k+1)=cntF l k):=hcS.out
    clear HS hcS hbg
    go_wp2_with fail
    go_roundw
    case rel=>exact ⟨k+1,by omega,by go_num,by rw[HC.out],by rw[HS'.out];exact rK,uK⟩
    case measure=>simp[intOf];omega
   ·have HS':Hid (numTo l (k+1)=(numTo l k).set k ((cntF l k:Nat):Int)):=HS.out
    have HC:Hid (cntF l (k+1)=cntF l k+1):=hcS.out
    have cK:=vs_cell rK (n:=k) (by rw[numTo_len];exact hlt)
    have fK:=rK.frozen k
    have rK':=Lib.hid (vs_set rK k ((cntF l k:Nat):Int))
    have uK':=Lib.hid (Upd.setCell (X:=fun k=>k=K) (p:=⟨K,k,none⟩) uK rfl (.int .i64 ((cntF l k:Nat):Int)))
    generalize getI (numTo l k) (k:Int)=V at cK
    clear HS hcS hbg rK uK
    go_wp2_with fail
    go_roundw
    case rel=>exact ⟨k+1,by omega,by go_num,by rw[HC.out];go_num,by rw[HS'.out];exact rK'.out,uK'.out⟩
    case measure=>simp[intOf];omega
  ·obtain rfl:k=l.length:=by omega
   go_wp2_with fail
   go_ret
   exact ⟨K,rfl,by omega,rK,by rw[hK];exact hb⟩
theorem made1_any {f:Fm} {L:List Int} {q:FoQ} {W:World} {R:List Int} {A:List Ac} {ds need cl:List Bool} {fr:List Int} (h:FoAt f L q W R A ds need cl fr) {P Dp K:Nat} (hP:W.cell? ⟨P,0,none⟩=some (.slice (some ⟨K,0,none⟩) need.length need.length)) (hD:W.cell? ⟨Dp,0,none⟩=some (.pointer (some ⟨q.D,0,none⟩)))
  (hK:Row W K (ints (numTo need need.length)).toArray 3) {n:Int} (hn:isW f n) (hr:isW f (getI R n)):
  Calls Try.prog 62 #[.int .i64 n,.pointer (some ⟨P,0,none⟩),.pointer (some ⟨Dp,0,none⟩)] W fun e w'=>e= .returned (.int .i64 (numV need (getI R n)))∧∃k,w'=W.drewN k:=by
 obtain ⟨m,rfl⟩:=Int.eq_ofNat_of_zero_le hn.1
 have hm:m<f.wires.length:=by have:=hn.2;omega
 have hm':(m:Int)<f.wires.length:=by omega
 obtain ⟨mr,hmr⟩:=Int.eq_ofNat_of_zero_le hr.1
 have hml:mr<need.length:=by have:=hr.2;rw[h.el];omega
 have hml':(mr:Int)<need.length:=by omega
 obtain ⟨d0,d1,d2,d3,d4,d5,d6,d7,d8,d9,d10,d11,d12⟩:=h.cells
 have cR:=vs_cell h.r (n:=m) (by rw[h.rl];exact hm)
 have cK:=vs_cell hK (n:=mr) (by rw[numTo_len];exact hml)
 rw[hmr] at cR⊢
 have HN:=Lib.hid (numTo_get need (v:=(mr:Int)) (by omega))
 generalize getI (numTo need need.length) (mr:Int)=V at*
 clear h hn hr hmr hK
 go_enter Try.func62,Try.ntmps62
 go_wp2_with fail
 go_quiet (fail)
 go_wp2_with fail
 go_ret
 exact ⟨ret_int HN.out,_,rfl⟩
end Go.Proofs.Ytckognjamlckcaa
