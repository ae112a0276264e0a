/-
  norm.Right order: what is there; whether an act is ready. order: acts cloned; one of them struck out. order.Ordered norm's maker in memory; its small methods.
-/
import Derived.Test.YtckognjamlckcaaGreatDoorNormM
import Derived.Test.YtckognjamlckcaaGreatDoorNormKc
import Derived.Test.YtckognjamlckcaaGreatDoorNormKd
import Derived.Test.YtckognjamlckcaaGreatDoorNormKe
import Derived.Test.YtckognjamlckcaaGreatDoorNormKf
import Derived.Test.YtckognjamlckcaaGreatDoorNormK
import Derived.Test.YtckognjamlckcaaGreatDoorPlainA
import Derived.Deep.RegionLaw
import Derived.Lib.SliceRun
import Derived.Test.YtckognjamlckcaaGreatDoorFltA
import Derived.Test.YtckognjamlckcaaGreatDoorRgL
import Derived.Lib.AppendIntMem
import Derived.Maps.OwnSet
import Derived.Maps.Own
import Derived.Maps.OwnOps
import Derived.Maps.Views
namespace Go.Proofs.YtckognjamlckcaaGreatDoor
open Go.RowKit Vf Fo
attribute [local go_sem ↓] Go.wp_at_zero Go.wp_at_succ
section
variable {w:World} {B L:Nat} {f:Fm} {vw va vc vk vi vo vb ve:Value}
theorem nact_any (h:NkAt w B L f vw va vc vk vi vo vb ve) (hB:B≤w.heap.size) (x:Ac) (wx:AcIn x) (hd:isW f x.dst) (hcl:∀n,isW f n→(clockOf f n).length≤1600)
  {K:Nat} {ks:List Int} (hve:ve= .slice (some ⟨K,0,none⟩) f.cells.length f.cells.length) (hK:KsAt w L K ks) (hkl:ks.length=f.cells.length) (hkk:∀c:Nat,c<f.cells.length→getI ks c=(kept f c).getD (-1)) (hcok:cellsOk f):
  Calls Tryz.prog 28 #[.pointer (some ⟨L,0,none⟩),acV x] w fun e w'=>e= .returned (.bool (cB (actOk f x)))∧Below w.heap.size w w':=by
 obtain ⟨op,dst,a,b,c,k⟩:=x
 by_cases hall:allW3 f a b c
 rotate_left 1
 ·exact nact_no h hB op dst a b c k wx hall
 by_cases hu:0≤uses op
 rotate_left 1
 ·exact nact_none h hB op dst a b c k wx hd (by omega) hall
 rcases uses_cases hu with hop|hop|hop|hop|hop|hop|hop|hop|hop
 ·exact nact_1 h hB op dst a b c k wx hd hop hall
 ·exact nact_2 h hB op dst a b c k wx hd hop hall
 ·exact nact_21 h hB op dst a b c k wx hd hop hall hve hK hkl hkk hcok
 ·exact nact_3 h hB op dst a b c k wx hd hop hall
 ·exact nact_24 h hB op dst a b c k wx hd hop hall hcl
 ·exact nact_26 h hB op dst a b c k wx hd hop hall (hcl dst hd)
 ·exact nact_27 h hB op dst a b c k wx hd hop hall
 ·exact nact_one h hB op dst a b c k wx hd (by omega) hall
 ·exact nact_two h hB op dst a b c k wx hd hop hall
end
theorem act_facts {f:Fm} (hw:wiresOk f) {x:Ac} (hd:isW f x.dst) (ha:actOk f x):0≤uses x.op∧isW f x.dst∧(∀n∈wants x,isW f n)∧∀g∈clockOf f x.dst,isW f g.wire:=by
 obtain ⟨h1,h2,h3,h4,_⟩:=ha
 refine ⟨h4,hd,fun n hn=>?_,fun g hg=>(clock_ok hw hd g hg).1⟩
 unfold wants at hn
 split at hn
 ·simp at hn
 ·split at hn
  ·simp at hn;rw[hn];exact h1
  ·split at hn
   ·simp at hn;rcases hn with rfl|rfl<;>assumption
   ·simp at hn;rcases hn with rfl|rfl|rfl<;>assumption
set_option maxRecDepth 100000 in
set_option maxHeartbeats 4000000 in
theorem nright_any (f:Fm) (vw va vc vk vi vo:Value) (w:World) (h:FmAt w w.heap.size f vw va vc vk vi vo) (hcl:f.cells.length≤1600):
  Calls Tryz.prog 8 #[fmV vw va vc vk vi vo] w fun e w'=>e= .returned (.bool (cB (formOk f)))∧Below w.heap.size w w':=by
 have HFM:=Lib.hid h
 have HCL:=Lib.hid hcl
 clear h hcl
 go_enter Tryz.func8,Tryz.ntmps8
 go_upto_region 2 with (fail)
 have b1:Below w.heap.size w ((w.alloc (.cells #[vw,va,vc,vk,vi,vo] 28)).alloc (.cells #[vw,va,vc,vk,vi,vo,.slice none 0 0,.slice none 0 0] 55)):=bE
 have rG1:Row ((w.alloc (.cells #[vw,va,vc,vk,vi,vo] 28)).alloc (.cells #[vw,va,vc,vk,vi,vo,.slice none 0 0,.slice none 0 0] 55)) w.heap.size #[vw,va,vc,vk,vi,vo] 28:=(Row.new w _ _).alloc _
 have rL1:Row ((w.alloc (.cells #[vw,va,vc,vk,vi,vo] 28)).alloc (.cells #[vw,va,vc,vk,vi,vo,.slice none 0 0,.slice none 0 0] 55)) (w.heap.size+1) #[vw,va,vc,vk,vi,vo,.slice none 0 0,.slice none 0 0] 55:=rowNew2 w _ _ _
 generalize (w.alloc (.cells #[vw,va,vc,vk,vi,vo] 28)).alloc (.cells #[vw,va,vc,vk,vi,vo,.slice none 0 0,.slice none 0 0] 55)=w1 at*
 generalize hL:w.heap.size+1=L at*
 have hGL:w.heap.size≠L:=by omega
 have hBL:w.heap.size≤L:=by omega
 have hs1:=b1.size
 have hLlt:=rL1.lt
 have hN1:NkAt w1 w.heap.size L f vw va vc vk vi vo (.slice none 0 0) (.slice none 0 0):=⟨rL1,HFM.out.below b1⟩
 have HG:Hid (∀W,Upd (fun k=>k=L) w1 W→W.cell? ⟨w.heap.size,1,none⟩=some va∧W.cell? ⟨w.heap.size,4,none⟩=some vi∧W.cell? ⟨w.heap.size,5,none⟩=some vo):=fun W hW=>
  ⟨(hW.row rG1 hGL).cell 1,(hW.row rG1 hGL).cell 4,(hW.row rG1 hGL).cell 5⟩
 have HFIN:Hid (∀W,Upd (fun k=>k=L) w1 W→Below w.heap.size w W):=fun W hW=>(b1.trans ((hW.below (B:=w.heap.size) (fun k hk=>by omega) hs1)))
 clear b1 rG1 rL1 hL
 have HC:=Lib.hid (nwires_any hN1 hs1)
 by_cases h1:wiresOk f
 rotate_left 1
 ·have HF:Hid (cB (formOk f)=false):=cB_false (fun g=>h1 g.1)
  rw[cB_false h1] at HC
  clear h1
  go_wp2_with fail
  (with_reducible refine HC.out.mono ?_)
  rintro e w2 ⟨rfl,hb2⟩
  go_wp2_with fail
  go_ret
  exact ⟨ret_bool HF.out.symm,HFIN.out _ (Upd.of_below hb2)⟩
 rw[cB_true h1] at HC
 have H1:=Lib.hid h1
 clear h1
 go_wp2_with fail
 (with_reducible refine HC.out.mono ?_)
 rintro e w2 ⟨rfl,hb2⟩
 have u2:Upd (fun k=>k=L) w1 w2:=Upd.of_below hb2
 have hN2:=hN1.below hs1 hb2
 have hs2:w.heap.size≤w2.heap.size:=Nat.le_trans hs1 hb2.size
 clear hN1 hb2 HC
 obtain ⟨x1,x4,x5⟩:=HG.out _ u2
 have HC:=Lib.hid (nports_any hN2 hs2 f.ins vi hN2.fm.ins)
 by_cases h1:portsOk f f.ins
 rotate_left 1
 ·have HF:Hid (cB (formOk f)=false):=cB_false (fun g=>h1 g.2.1)
  rw[cB_false h1] at HC
  clear h1
  go_wp2_with fail
  (with_reducible refine HC.out.mono ?_)
  rintro e w3 ⟨rfl,hb3⟩
  go_wp2_with fail
  go_ret
  exact ⟨ret_bool HF.out.symm,HFIN.out _ (u2.trans (Upd.of_below hb3))⟩
 rw[cB_true h1] at HC
 have H2:=Lib.hid h1
 clear h1
 go_wp2_with fail
 (with_reducible refine HC.out.mono ?_)
 rintro e w3 ⟨rfl,hb3⟩
 have u3:Upd (fun k=>k=L) w1 w3:=u2.trans (Upd.of_below hb3)
 have hN3:=hN2.below hs2 hb3
 have hs3:w.heap.size≤w3.heap.size:=Nat.le_trans hs2 hb3.size
 clear hN2 hb3 HC x1 x4 x5 u2
 obtain ⟨x1,x4,x5⟩:=HG.out _ u3
 have HC:=Lib.hid (nports_any hN3 hs3 f.outs vo hN3.fm.outs)
 by_cases h1:portsOk f f.outs
 rotate_left 1
 ·have HF:Hid (cB (formOk f)=false):=cB_false (fun g=>h1 g.2.2.1)
  rw[cB_false h1] at HC
  clear h1
  go_wp2_with fail
  (with_reducible refine HC.out.mono ?_)
  rintro e w4 ⟨rfl,hb4⟩
  go_wp2_with fail
  go_ret
  exact ⟨ret_bool HF.out.symm,HFIN.out _ (u3.trans (Upd.of_below hb4))⟩
 rw[cB_true h1] at HC
 have H3:=Lib.hid h1
 clear h1
 go_wp2_with fail
 (with_reducible refine HC.out.mono ?_)
 rintro e w4 ⟨rfl,hb4⟩
 have u4:Upd (fun k=>k=L) w1 w4:=u3.trans (Upd.of_below hb4)
 have hN4:=hN3.below hs3 hb4
 have hs4:w.heap.size≤w4.heap.size:=Nat.le_trans hs3 hb4.size
 clear hN3 hb4 HC x1 x4 x5 u3
 obtain ⟨x1,x4,x5⟩:=HG.out _ u4
 have HC:=Lib.hid (ncells_any hN4 hBL HCL.out)
 clear hN4
 go_wp2_with fail
 (with_reducible refine HC.out.mono ?_)
 rintro e w5 ⟨r5,ve5,rfl,hr5,hN5,v5,hK5⟩
 have u5:=u4.trans v5
 have hs5:w.heap.size≤w5.heap.size:=Nat.le_trans hs4 v5.size
 have HR5:=Lib.hid hr5
 have HK5:=Lib.hid hK5
 clear HC x1 x4 x5 u4 v5 hr5 hK5
 obtain ⟨x1,x4,x5⟩:=HG.out _ u5
 cases r5
 ·have HF:Hid (cB (formOk f)=false):=cB_false (fun g=>by have:=HR5.out.2 g.2.2.2.1;cases this)
  go_wp2_with fail
  go_ret
  exact ⟨ret_bool HF.out.symm,HFIN.out _ u5⟩
 have H4:Hid (cellsOk f):=HR5.out.1 rfl
 obtain ⟨K,ks,rfl,hKs,hkl,hkk⟩:=HK5.out rfl
 have HKK:=Lib.hid hkk
 have HKL:=Lib.hid hkl
 have HKS:=Lib.hid hKs
 have HC:=Lib.hid (ndefined_any hN5 hBL H1.out.2.2 (fun n hn=>(H2.out.1 n hn).1))
 clear hN5 hkk hkl hKs HK5 HR5
 go_wp2_with fail
 (with_reducible refine HC.out.mono ?_)
 rintro e w6 ⟨r6,vb6,rfl,hr6,hN6,v6⟩
 have u6:=u5.trans v6
 have hs6:w.heap.size≤w6.heap.size:=Nat.le_trans hs5 v6.size
 have HR6:=Lib.hid hr6
 have HKS6:Hid (KsAt w6 L K ks):=⟨v6.row HKS.out.row HKS.out.ne,HKS.out.ne⟩
 clear HC x1 x4 x5 u5 v6 hr6
 obtain ⟨x1,x4,x5⟩:=HG.out _ u6
 cases r6
 ·have HF:Hid (cB (formOk f)=false):=cB_false (fun g=>by have:=HR6.out.2 g.2.2.2.2.1;cases this)
  go_wp2_with fail
  go_ret
  exact ⟨ret_bool HF.out.symm,HFIN.out _ u6⟩
 have H5:Hid (definedOk f):=HR6.out.1 rfl
 have HN6:=Lib.hid (fun W (hW:Below w6.heap.size w6 W)=>hN6.below hs6 hW)
 have HCL2:=Lib.hid (fun n (hn:isW f n)=>clock_len H1.out hn)
 obtain ⟨Aa,ca,rfl,la,ma,sa⟩:=hN6.fm.acts
 have ma':ca≤9223372036854775807:=by unfold maxLen at ma;omega
 clear hN6 sa HR6
 go_wp2_with fail
 go_loopw[39] (fun i wr=>∃k:Nat,k≤f.acts.length∧i= .int .i64 k∧Hid (∀j,j<k→∀x,f.acts[j]? =some x→actOk f x)∧Below w6.heap.size w6 wr) (fun i _=>f.acts.length-(intOf i).toNat)
 case atStart=>exact ⟨0,Nat.zero_le _,rfl,fun j hj=>absurd hj (by omega),Below.refl _ _⟩
 case round=>
  clear x1 x4 x5
  obtain ⟨k,hk,rfl,HA,hb⟩:=hrel
  have hsr:=hb.size
  by_cases hlt:k<f.acts.length
  rotate_left 1
  ·obtain rfl:k=f.acts.length:=by omega
   have HA2:=Lib.hid (all_upto HA.out)
   have HC:=Lib.hid (nrow_any (HN6.out _ hb) (by omega) H1.out.2.2 (fun n hn=>(H2.out.1 n hn).1) (fun x hx=>act_facts H1.out (H5.out.2.1 x hx).1 (HA2.out x hx)))
   have HF:Hid (cB (formOk f)=cB (rowOk f)):=cB_congr ⟨fun g=>g.2.2.2.2.2.2,fun g=>⟨H1.out,H2.out,H3.out,H4.out,H5.out,HA2.out,g⟩⟩
   generalize cB (rowOk f)=R at*
   go_wp2_with fail
   (with_reducible refine HC.out.mono ?_)
   rintro e w8 ⟨rfl,hb8⟩
   go_wp2_with fail
   go_ret
   exact ⟨ret_bool HF.out.symm,HFIN.out _ (u6.trans ((Upd.of_below hb).trans (Upd.of_below hb8)))⟩
  obtain ⟨A',c',he,_,_,sa⟩:=(HN6.out _ hb).fm.acts
  injection he with he1 he2 he3
  subst he1
  obtain ⟨b,off,⟨xo,xd,xa,xb,xc,xk⟩,hAa,hbb,hx,wx,d0,d1,d2,d3,d4,d5⟩:=sa.ac hlt
  subst hAa
  have HX:=Lib.hid hx
  dsimp only at d0 d1 d2 d3 d4 d5
  have ba:=(Below.refl wr.heap.size wr).alloc (Nat.le_refl _) (.cells #[.int .i64 xo,.int .i64 xd,.int .i64 xa,.int .i64 xb,.int .i64 xc,.int .i64 xk] 58)
  have r9:=Row.new wr #[.int .i64 xo,.int .i64 xd,.int .i64 xa,.int .i64 xb,.int .i64 xc,.int .i64 xk] 58
  have hb7:=hb.trans (ba.mono hsr)
  clear he2 he3 hx sa
  go_upto_region 7 with (fail)
  generalize wr.heap.size=g9 at*
  generalize wr.alloc (.cells #[.int .i64 xo,.int .i64 xd,.int .i64 xa,.int .i64 xb,.int .i64 xc,.int .i64 xk] 58)=w7 at*
  clear d0 d1 d2 d3 d4 d5 ba
  obtain ⟨c0,c1,c2,c3,c4,c5⟩:=r9.six'
  have hs7:=hb7.size
  have HC:=Lib.hid (nact_any (HN6.out _ hb7) (by omega) ⟨xo,xd,xa,xb,xc,xk⟩ wx (H5.out.2.1 _ (List.mem_of_getElem? HX.out)).1 HCL2.out rfl ⟨HKS6.out.row.below hb7 HKS6.out.row.lt,HKS6.out.ne⟩ HKL.out HKK.out H4.out)
  by_cases ha:actOk f ⟨xo,xd,xa,xb,xc,xk⟩
  ·rw[cB_true ha] at HC
   have HA':=Lib.hid (upto_succ HA.out (fun y hy=>by rw[HX.out] at hy;injection hy with hy;rw[←hy];exact ha))
   clear ha
   go_wp2_with fail
   (with_reducible refine HC.out.mono ?_)
   rintro e w8 ⟨rfl,hb8⟩
   have hb68:=hb7.trans (hb8.mono hs7)
   go_wp2_with fail
   go_roundw
   case rel=>exact ⟨k+1,by omega,by go_num,HA',hb68⟩
   case measure=>first|(simp[intOf];omega)|simp[intOf]
  ·rw[cB_false ha] at HC
   have HF:Hid (cB (formOk f)=false):=cB_false (fun g=>ha (g.2.2.2.2.2.1 _ (List.mem_of_getElem? HX.out)))
   clear ha
   go_wp2_with fail
   (with_reducible refine HC.out.mono ?_)
   rintro e w8 ⟨rfl,hb8⟩
   go_wp2_with fail
   go_ret
   exact ⟨ret_bool HF.out.symm,HFIN.out _ (u6.trans (Upd.of_below (hb7.trans (hb8.mono hs7))))⟩
end Go.Proofs.YtckognjamlckcaaGreatDoor
namespace Go.Proofs.YtckognjamlckcaaGreatDoor.Fo
open Vf
section
variable {f:Fm} {H H':List Int} {ds:List Bool}
end
end Go.Proofs.YtckognjamlckcaaGreatDoor.Fo
namespace Go.Proofs.YtckognjamlckcaaGreatDoor
open Go.RowKit Vf Fo
attribute [local go_sem ↓] Go.wp_at_zero Go.wp_at_succ
structure AcOk (f:Fm) (x:Ac):Prop where
 uses:0≤uses x.op
 dst:isW f x.dst
 wants:∀n∈wantsAll f x,isW f n
 clock:(clockOf f x.dst).length≤1600
end Go.Proofs.YtckognjamlckcaaGreatDoor
namespace Go.Proofs.YtckognjamlckcaaGreatDoor
open Go.RowKit Vf Fo
attribute [local go_sem ↓] Go.wp_at_zero Go.wp_at_succ
def acC (x:Ac):List Value:=[.int .i64 x.op,.int .i64 x.dst,.int .i64 x.a,.int .i64 x.b,.int .i64 x.c,.int .i64 x.k]
def acF (l:List Ac):List Value:=(l.map acC).flatten
end Go.Proofs.YtckognjamlckcaaGreatDoor
namespace Go.Proofs.YtckognjamlckcaaGreatDoor
open Go.RowKit Vf Fo
attribute [local go_sem ↓] Go.wp_at_zero Go.wp_at_succ
end Go.Proofs.YtckognjamlckcaaGreatDoor
namespace Go.Proofs.YtckognjamlckcaaGreatDoor
open Go.RowKit Vf Fo
attribute [local go_sem ↓] Go.wp_at_zero Go.wp_at_succ
structure MkQ where
 vw:Value
 va:Value
 vc:Value
 vk:Value
 P:Nat
def OwnQ (q:MkQ) (k:Nat):Prop:=q.vw.ownBlock=some k∨q.va.ownBlock=some k∨q.vc.ownBlock=some k∨q.vk.ownBlock=some k∨k=q.P
def CkAt (D:Nat) (q:MkQ) (W:World) (v:Value) (c:List Gd):Prop:=
 ∃A cap,v= .slice A c.length cap∧c.length≤cap∧cap≤maxLen∧Sl W W.heap.size 2 isGd A c∧(0<c.length→∀a,A=some a→a.block≠D∧¬OwnQ q a.block)
structure MFr (D:Nat) (q:MkQ) (W:World) (q':MkQ) (W':World):Prop where
 upd:Upd (fun k=>k=D∨OwnQ q k) W W'
 own:∀k,OwnQ q' k→OwnQ q k∨W.heap.size≤k
def isWk (D:Nat) (q:MkQ) (W:World) (x:Wr) (cs:List Value):Prop:=∃v,cs=[.int .i64 x.ty,v]∧Wf x.ty∧CkAt D q W v x.clock
def prC (x:Int × Int):List Value:=[.int .i64 x.1,.int .i64 x.2]
def prF (l:List (Int × Int)):List Value:=(l.map prC).flatten
section
variable {D:Nat} {q q' q2:MkQ} {W W' W2:World} {v:Value} {c:List Gd}
theorem MFr.trans (h:MFr D q W q' W') (h':MFr D q' W' q2 W2):MFr D q W q2 W2:=
 ⟨h.upd.trans_new h'.upd (fun i hi g=>g.imp id (fun g=>(h.own i g).resolve_right (by omega))),fun k hk=>by
  rcases h'.own k hk with g|g
  ·exact h.own k g
  ·exact .inr (Nat.le_trans h.upd.size g)⟩
theorem MFr.of_below (h:Below W.heap.size W W'):MFr D q W q W':=⟨Upd.of_below h,fun _ h=> .inl h⟩
theorem MFr.row {b:Nat} {cs:Array Value} {t:TypeId} (h:MFr D q W q' W') (r:Row W b cs t) (hD:b≠D) (hq:¬OwnQ q b):Row W' b cs t:=h.upd.row r (fun g=>g.elim hD hq)
theorem MFr.not {b:Nat} (h:MFr D q W q' W') (hb:b<W.heap.size) (hq:¬OwnQ q b):¬OwnQ q' b:=fun g=>(h.own b g).elim hq (fun g=>by omega)
theorem sl_block {α:Type} {B B' size b off:Nat} {rel:α→List Value→Prop} {l:List α} (h:Sl W B size rel (some ⟨b,off,none⟩) l) (hb:W'.heap[b]? =W.heap[b]?) (hB:b<B'):Sl W' B' size rel (some ⟨b,off,none⟩) l:=fun hl=>by
 obtain ⟨b1,off1,hA,_,hx⟩:=h hl
 injection hA with hA
 injection hA with h1 h2
 subst h1;subst h2
 refine ⟨b,off,rfl,hB,fun i x hi=>?_⟩
 obtain ⟨cs,hc,hr⟩:=hx i x hi
 exact ⟨cs,fun j u hu=>(World.cell?_of_block (a:=⟨b,off+i*size+j,none⟩) hb).trans (hc j u hu),hr⟩
theorem CkAt.fr (h:CkAt D q W v c) (m:MFr D q W q' W'):CkAt D q' W' v c:=by
 obtain ⟨A,cap,h1,h2,h3,h4,h5⟩:=h
 refine ⟨A,cap,h1,h2,h3,?_,fun hl a ha=>⟨(h5 hl a ha).1,?_⟩⟩
 ·rcases Nat.eq_zero_or_pos c.length with e|hl
  ·exact fun g=>absurd g (by omega)
  ·obtain ⟨b,off,rfl,hb,hx⟩:=h4 hl
   obtain ⟨g1,g2⟩:=h5 hl _ rfl
   exact sl_block h4 (m.upd.block b hb (fun g=>g.elim g1 g2)) (Nat.lt_of_lt_of_le hb m.upd.size)
 ·obtain ⟨b,off,rfl,hb,hx⟩:=h4 hl
  cases ha
  exact m.not hb (h5 hl _ rfl).2
theorem isWk.fr {x:Wr} {cs:List Value} (h:isWk D q W x cs) (m:MFr D q W q' W'):isWk D q' W' x cs:=by
 obtain ⟨v,h1,h2,h3⟩:=h
 exact ⟨v,h1,h2,h3.fr m⟩
end
structure Kw where
 key:List Gd→ByteArray
 ok:List Gd→Prop
def FirstAt (K:Kw) (W:World) (P:Nat) (l:List (List Gd × Int)):Prop:=
 ∃(n:Nat) (D:DataW Unit),W.ownsMap Tryz.prog 9 (plainElem Tryz.prog 3) P n D∧n≤l.length∧Maps.IsMap D∧∀c,K.ok c→
  Maps.has D (.string (K.key c).data.toList)=((l.find? (fun p=>cB (p.1=c))).map (·.2)).isSome∧D.atKey (.string (K.key c).data.toList) (.lit (.int .i64 0))= .lit (.int .i64 (((l.find? (fun p=>cB (p.1=c))).map (·.2)).getD 0))
theorem FirstAt.lt {K:Kw} {W:World} {P:Nat} {l:List (List Gd × Int)} (h:FirstAt K W P l):P<W.heap.size:=by
 obtain ⟨n,D,h1,_⟩:=h
 exact h1.lt
theorem FirstAt.keep {K:Kw} {W W':World} {P:Nat} {l:List (List Gd × Int)} (h:FirstAt K W P l) (hk:W'.heap[P]? =W.heap[P]?):FirstAt K W' P l:=by
 obtain ⟨n,D,⟨es,clock,h1,h2⟩,h3⟩:=h
 exact ⟨n,D,⟨es,clock,hk.trans h1,h2⟩,h3⟩
theorem FirstAt.map {K:Kw} {W:World} {P:Nat} {l:List (List Gd × Int)} (h:FirstAt K W P l):∃es clock,W.heap[P]? =some (.map es clock):=by
 obtain ⟨n,D,⟨es,clock,h1,h2⟩,h3⟩:=h
 exact ⟨es,clock,h1⟩
theorem map_ne {W:World} {P b:Nat} {es} {clock} {cs:Array Value} {t:TypeId} (h:W.heap[P]? =some (.map es clock)) (r:Row W b cs t):P≠b:=fun e=>by
 subst e
 have:W.heap[P]? =_:=r
 rw[h] at this
 cases this
theorem own_mapne {W:World} {base s n P:Nat} {e:TypeId} {v:Value} {xs:List Value} {es} {clock} (ho:W.ownsRow base e s v n xs) (h:W.heap[P]? =some (.map es clock)):v.ownBlock≠some P:=fun hk=>by
 rcases ho.2 with ⟨rfl,_⟩|⟨g,c,cur,rfl,_,hh,_⟩
 ·cases hk
 ·cases hk
  rw[hh] at h
  cases h
theorem own_apartE {w:World} {base n m s s':Nat} {e e':TypeId} {v v':Value} {xs ys:List Value} (h:w.ownsRow base e s v n xs) (h':w.ownsRow base e' s' v' m ys) (he:e'≠e):∀k,v.ownBlock=some k→v'.ownBlock≠some k:=fun k hk hq=>by
 rcases h'.2 with ⟨rfl,_⟩|⟨g,c,cur,rfl,_,hh,_⟩
 ·cases hq
 ·cases hq
  have hr:Row w g cur e':=hh
  exact own_ne h hr he hk
structure MkAt (K:Kw) (w0:World) (D:Nat) (vi vo:Value) (W:World) (q:MkQ) (s:Mk):Prop where
 lo:w0.heap.size≤D
 bel:Below w0.heap.size w0 W
 row:Row W D #[q.vw,q.va,q.vc,q.vk,vi,vo,.map (some q.P),.bool s.spent] 82
 ow:∃css,W.ownsRow w0.heap.size 52 2 q.vw s.wires.length css.flatten∧Are (isWk D q W) s.wires css
 oa:W.ownsRow w0.heap.size 58 6 q.va s.acts.length (acF s.acts)
 oc:W.ownsRow w0.heap.size 67 2 q.vc s.cells.length (prF s.cells)
 ok:W.ownsRow w0.heap.size 103 2 q.vk s.keeps.length (prF s.keeps)
 wa:∀a∈s.acts,AcIn a
 wc:∀c∈s.cells,Wf c.1∧Wf c.2
 wk:∀c∈s.keeps,Wf c.1∧Wf c.2
 mp:FirstAt K W q.P s.first
 hP:w0.heap.size≤q.P
 lw:s.wires.length≤1600
 lc:s.cells.length≤60
 lf:s.first.length≤s.acts.length
section
variable {K:Kw} {w0:World} {D:Nat} {vi vo:Value} {W W':World} {q:MkQ} {s:Mk}
theorem MkAt.ownq (h:MkAt K w0 D vi vo W q s) {k:Nat} (hk:OwnQ q k):w0.heap.size≤k∧k<W.heap.size∧k≠D:=by
 obtain ⟨css,ho,_⟩:=h.ow
 rcases hk with g|g|g|g|g
 ·exact ⟨(ho.lt k g).1,(ho.lt k g).2,fun e=>own_ne ho h.row (by decide) (e▸g)⟩
 ·exact ⟨(h.oa.lt k g).1,(h.oa.lt k g).2,fun e=>own_ne h.oa h.row (by decide) (e▸g)⟩
 ·exact ⟨(h.oc.lt k g).1,(h.oc.lt k g).2,fun e=>own_ne h.oc h.row (by decide) (e▸g)⟩
 ·exact ⟨(h.ok.lt k g).1,(h.ok.lt k g).2,fun e=>own_ne h.ok h.row (by decide) (e▸g)⟩
 ·subst g
  obtain ⟨es,clock,hm⟩:=h.mp.map
  exact ⟨h.hP,h.mp.lt,map_ne hm h.row⟩
theorem MkAt.cells (h:MkAt K w0 D vi vo W q s):W.cell? ⟨D,0,none⟩=some q.vw∧W.cell? ⟨D,1,none⟩=some q.va∧W.cell? ⟨D,2,none⟩=some q.vc∧W.cell? ⟨D,3,none⟩=some q.vk∧W.cell? ⟨D,4,none⟩=some vi∧W.cell? ⟨D,5,none⟩=some vo∧W.cell? ⟨D,6,none⟩=some (.map (some q.P))∧W.cell? ⟨D,7,none⟩=some (.bool s.spent):=
 ⟨(h.row.cell 0).trans rfl,(h.row.cell 1).trans rfl,(h.row.cell 2).trans rfl,(h.row.cell 3).trans rfl,(h.row.cell 4).trans rfl,(h.row.cell 5).trans rfl,(h.row.cell 6).trans rfl,(h.row.cell 7).trans rfl⟩
theorem MkAt.below (h:MkAt K w0 D vi vo W q s) (hb:Below W.heap.size W W'):MkAt K w0 D vi vo W' q s:=by
 have hs:=h.bel.size
 obtain ⟨css,ho,ha⟩:=h.ow
 have m:MFr D q W q W':=MFr.of_below hb
 exact ⟨h.lo,h.bel.trans (hb.mono hs),h.row.below hb h.row.lt,⟨css,own_below ho hb,ha.mono (fun _ _ _ g=>g.fr m)⟩,own_below h.oa hb,own_below h.oc hb,own_below h.ok hb,h.wa,h.wc,h.wk,h.mp.keep (hb.block _ h.mp.lt),h.hP,h.lw,h.lc,h.lf⟩
theorem MkAt.spend (h:MkAt K w0 D vi vo W q s):MkAt K w0 D vi vo (W.setCell ⟨D,7,none⟩ (.bool true)) q {s with spent:=true}∧MFr D q W q (W.setCell ⟨D,7,none⟩ (.bool true)):=by
 have u:Upd (fun k=>k=D) W (W.setCell ⟨D,7,none⟩ (.bool true)):=Upd.setCell (X:=fun k=>k=D) (p:=⟨D,7,none⟩) (Upd.refl _ _) rfl _
 have m:MFr D q W q (W.setCell ⟨D,7,none⟩ (.bool true)):=⟨u.mono (fun k e=> .inl e),fun _ g=> .inl g⟩
 have hs:=h.bel.size
 obtain ⟨css,ho,ha⟩:=h.ow
 have hne:∀k,OwnQ q k→k≠D:=fun k hk=>(h.ownq hk).2.2
 refine ⟨⟨h.lo,h.bel.trans (u.below (fun k e=>by rw[e];exact h.lo) hs),?_,⟨css,own_updE ho u (fun k hk=>hne k (.inl hk)),ha.mono (fun _ _ _ g=>g.fr m)⟩,own_updE h.oa u (fun k hk=>hne k (.inr (.inl hk))),own_updE h.oc u (fun k hk=>hne k (.inr (.inr (.inl hk)))),own_updE h.ok u (fun k hk=>hne k (.inr (.inr (.inr (.inl hk))))),h.wa,h.wc,h.wk,h.mp.keep (u.block _ h.mp.lt (hne _ (.inr (.inr (.inr (.inr rfl)))))),h.hP,h.lw,h.lc,h.lf⟩,m⟩
 have:=h.row.set 7 (.bool true)
 simpa using this
theorem grow_upd {X:Nat→Prop} {Wa W15:World} {row:Option Nat} {i:Nat} {u:Value} (hb:Below W.heap.size W Wa) (hg:Wa.grownBy W15 row) (hr:∀k,row=some k→X k) (hD:X D):Upd X W (W15.setCell ⟨D,i,none⟩ u):=
 Upd.setCell (X:=X) (p:=⟨D,i,none⟩) ((Upd.of_below hb).trans ⟨hg.os,hg.tape,hg.output,hg.size,fun k hk hX=>hg.block k hk (fun e=>hX (hr k e.symm))⟩) hD u
theorem MkAt.grown {Wa W15:World} {v v15:Value} {i:Nat} (h:MkAt K w0 D vi vo W q s) (hb:Below W.heap.size W Wa) (hg:Wa.grownBy W15 v.ownBlock) (hv:∀k,v.ownBlock=some k→OwnQ q k):
  Upd (fun k=>k=D∨v.ownBlock=some k) W (W15.setCell ⟨D,i,none⟩ v15)∧Below w0.heap.size w0 (W15.setCell ⟨D,i,none⟩ v15)∧Row W15 D #[q.vw,q.va,q.vc,q.vk,vi,vo,.map (some q.P),.bool s.spent] 82:=by
 have u:Upd (fun k=>k=D∨v.ownBlock=some k) W (W15.setCell ⟨D,i,none⟩ v15):=grow_upd hb hg (fun _ e=> .inr e) (.inl rfl)
 refine ⟨u,h.bel.trans (u.below (fun _ e=>?_) h.bel.size),?_⟩
 ·rcases e with e|e
  ·rw[e];exact h.lo
  ·exact (h.ownq (hv _ e)).1
 ·exact (h.row.below hb h.row.lt).grownE hg (fun e=>(h.ownq (hv D e)).2.2 rfl)
theorem setown {W15:World} {i base sz n:Nat} {e t:TypeId} {v15:Value} {xs:List Value} {cs:Array Value} (ho:W15.ownsRow base e sz v15 n xs) (r:Row W15 D cs t) (ht:t≠e):(W15.setCell ⟨D,i,none⟩ v15).ownsRow base e sz v15 n xs:=
 own_updE ho (Upd.setCell (X:=fun k=>k=D) (p:=⟨D,i,none⟩) (Upd.refl _ W15) rfl v15) (fun _ hk e=>own_ne ho r ht (e▸hk))
theorem ownq_new {v v15:Value} {Wa:World} (hb:Below W.heap.size W Wa) (hv:v15.ownBlock=v.ownBlock∨v15.ownBlock=some Wa.heap.size) {k:Nat} (hk:v15.ownBlock=some k):v.ownBlock=some k∨W.heap.size≤k:=by
 rcases hv with g|g
 ·exact .inl (g▸hk)
 ·rw[g] at hk
  injection hk with hk
  exact .inr (by rw[←hk];exact hb.size)
theorem MkAt.addW {Wa W15:World} {v15 vx:Value} {ty:Int} {c:List Gd} (h:MkAt K w0 D vi vo W q s) (hb:Below W.heap.size W Wa) {css:List (List Value)} (ho:W.ownsRow w0.heap.size 52 2 q.vw s.wires.length css.flatten) (ha:Are (isWk D q W) s.wires css)
  (ho15:W15.ownsRow w0.heap.size 52 2 v15 (s.wires.length+1) (css.flatten++ [.int .i64 ty,vx])) (hg:Wa.grownBy W15 q.vw.ownBlock) (hv:v15.ownBlock=q.vw.ownBlock∨v15.ownBlock=some Wa.heap.size) (hc:CkAt D q W vx c) (hty:Wf ty) (hl:s.wires.length<1600):
  MkAt K w0 D vi vo (W15.setCell ⟨D,0,none⟩ v15) {q with vw:=v15} {s with wires:=s.wires++ [⟨ty,c⟩]}∧MFr D q W {q with vw:=v15} (W15.setCell ⟨D,0,none⟩ v15):=by
 obtain ⟨u,hbel,r15⟩:=h.grown (i:=0) (v15:=v15) hb hg (fun k hk=> .inl hk)
 have hn:∀k,OwnQ {q with vw:=v15} k→OwnQ q k∨W.heap.size≤k:=fun k hk=>by
  rcases hk with g|g
  ·exact (ownq_new hb hv g).imp (fun g=> .inl g) id
  ·exact .inl (.inr g)
 have m:MFr D q W {q with vw:=v15} (W15.setCell ⟨D,0,none⟩ v15):=⟨u.mono (fun k e=>e.imp id (fun g=> .inl g)),hn⟩
 have hD:∀{sz n:Nat} {e:TypeId} {v:Value} {xs:List Value},W.ownsRow w0.heap.size e sz v n xs→82≠e→e≠52→(W15.setCell ⟨D,0,none⟩ v15).ownsRow w0.heap.size e sz v n xs:=fun hv h1 h2=>own_updE hv u (fun k hk e=>e.elim (fun e=>own_ne hv h.row h1 (e▸hk)) (fun e=>own_apartE ho hv h2 k e hk))
 refine ⟨⟨h.lo,hbel,?_,⟨css++ [[.int .i64 ty,vx]],?_,?_⟩,hD h.oa (by decide) (by decide),hD h.oc (by decide) (by decide),hD h.ok (by decide) (by decide),h.wa,h.wc,h.wk,?_,h.hP,?_,h.lc,h.lf⟩,m⟩
 ·have:=r15.set 0 v15
  simpa using this
 ·have:=setown (i:=0) ho15 r15 (by decide)
  simpa using this
 ·exact (ha.mono (fun _ _ _ g=>g.fr m)).append (Are.one ⟨vx,rfl,hty,hc.fr m⟩)
 ·obtain ⟨es,clock,hm⟩:=h.mp.map
  exact h.mp.keep (u.block _ h.mp.lt (fun e=>e.elim (fun e=>map_ne hm h.row e) (fun e=>own_mapne ho hm e)))
 ·simp;omega
theorem MkAt.addA {Wa W15:World} {v15:Value} {a:Ac} (h:MkAt K w0 D vi vo W q s) (hb:Below W.heap.size W Wa)
  (ho15:W15.ownsRow w0.heap.size 58 6 v15 (s.acts.length+1) (acF s.acts++acC a)) (hg:Wa.grownBy W15 q.va.ownBlock) (hv:v15.ownBlock=q.va.ownBlock∨v15.ownBlock=some Wa.heap.size) (hi:AcIn a):
  MkAt K w0 D vi vo (W15.setCell ⟨D,1,none⟩ v15) {q with va:=v15} (s.act a)∧MFr D q W {q with va:=v15} (W15.setCell ⟨D,1,none⟩ v15):=by
 obtain ⟨u,hbel,r15⟩:=h.grown (i:=1) (v15:=v15) hb hg (fun k hk=> .inr (.inl hk))
 obtain ⟨css,how,ha⟩:=h.ow
 have hn:∀k,OwnQ {q with va:=v15} k→OwnQ q k∨W.heap.size≤k:=fun k hk=>by
  rcases hk with g|g|g
  ·exact .inl (.inl g)
  ·exact (ownq_new hb hv g).imp (fun g=> .inr (.inl g)) id
  ·exact .inl (.inr (.inr g))
 have m:MFr D q W {q with va:=v15} (W15.setCell ⟨D,1,none⟩ v15):=⟨u.mono (fun k e=>e.imp id (fun g=> .inr (.inl g))),hn⟩
 have hD:∀{sz n:Nat} {e:TypeId} {v:Value} {xs:List Value},W.ownsRow w0.heap.size e sz v n xs→82≠e→e≠58→(W15.setCell ⟨D,1,none⟩ v15).ownsRow w0.heap.size e sz v n xs:=fun hv h1 h2=>own_updE hv u (fun k hk e=>e.elim (fun e=>own_ne hv h.row h1 (e▸hk)) (fun e=>own_apartE h.oa hv h2 k e hk))
 refine ⟨⟨h.lo,hbel,?_,⟨css,hD how (by decide) (by decide),ha.mono (fun _ _ _ g=>g.fr m)⟩,?_,hD h.oc (by decide) (by decide),hD h.ok (by decide) (by decide),?_,h.wc,h.wk,?_,h.hP,h.lw,h.lc,by have:=h.lf;simp[Mk.act];omega⟩,m⟩
 ·have:=r15.set 1 v15
  simpa[Mk.act] using this
 ·have:=setown (i:=1) ho15 r15 (by decide)
  simpa[Mk.act,acF] using this
 ·intro x hx
  rcases List.mem_append.1 hx with g|g
  ·exact h.wa x g
  ·rw[List.mem_singleton.1 g];exact hi
 ·obtain ⟨es,clock,hm⟩:=h.mp.map
  exact h.mp.keep (u.block _ h.mp.lt (fun e=>e.elim (fun e=>map_ne hm h.row e) (fun e=>own_mapne h.oa hm e)))
theorem MkAt.addC {Wa W15:World} {v15:Value} {x:Int × Int} (h:MkAt K w0 D vi vo W q s) (hb:Below W.heap.size W Wa)
  (ho15:W15.ownsRow w0.heap.size 67 2 v15 (s.cells.length+1) (prF s.cells++prC x)) (hg:Wa.grownBy W15 q.vc.ownBlock) (hv:v15.ownBlock=q.vc.ownBlock∨v15.ownBlock=some Wa.heap.size) (hi:Wf x.1∧Wf x.2) (hl:s.cells.length<60):
  MkAt K w0 D vi vo (W15.setCell ⟨D,2,none⟩ v15) {q with vc:=v15} {s with cells:=s.cells++ [x]}∧MFr D q W {q with vc:=v15} (W15.setCell ⟨D,2,none⟩ v15):=by
 obtain ⟨u,hbel,r15⟩:=h.grown (i:=2) (v15:=v15) hb hg (fun k hk=> .inr (.inr (.inl hk)))
 obtain ⟨css,how,ha⟩:=h.ow
 have hn:∀k,OwnQ {q with vc:=v15} k→OwnQ q k∨W.heap.size≤k:=fun k hk=>by
  rcases hk with g|g|g|g
  ·exact .inl (.inl g)
  ·exact .inl (.inr (.inl g))
  ·exact (ownq_new hb hv g).imp (fun g=> .inr (.inr (.inl g))) id
  ·exact .inl (.inr (.inr (.inr g)))
 have m:MFr D q W {q with vc:=v15} (W15.setCell ⟨D,2,none⟩ v15):=⟨u.mono (fun k e=>e.imp id (fun g=> .inr (.inr (.inl g)))),hn⟩
 have hD:∀{sz n:Nat} {e:TypeId} {v:Value} {xs:List Value},W.ownsRow w0.heap.size e sz v n xs→82≠e→e≠67→(W15.setCell ⟨D,2,none⟩ v15).ownsRow w0.heap.size e sz v n xs:=fun hv h1 h2=>own_updE hv u (fun k hk e=>e.elim (fun e=>own_ne hv h.row h1 (e▸hk)) (fun e=>own_apartE h.oc hv h2 k e hk))
 refine ⟨⟨h.lo,hbel,?_,⟨css,hD how (by decide) (by decide),ha.mono (fun _ _ _ g=>g.fr m)⟩,hD h.oa (by decide) (by decide),?_,hD h.ok (by decide) (by decide),h.wa,?_,h.wk,?_,h.hP,h.lw,by simp;omega,h.lf⟩,m⟩
 ·have:=r15.set 2 v15
  simpa using this
 ·have:=setown (i:=2) ho15 r15 (by decide)
  simpa[prF] using this
 ·intro y hy
  rcases List.mem_append.1 hy with g|g
  ·exact h.wc y g
  ·rw[List.mem_singleton.1 g];exact hi
 ·obtain ⟨es,clock,hm⟩:=h.mp.map
  exact h.mp.keep (u.block _ h.mp.lt (fun e=>e.elim (fun e=>map_ne hm h.row e) (fun e=>own_mapne h.oc hm e)))
theorem MkAt.addK {Wa W15:World} {v15:Value} {x:Int × Int} (h:MkAt K w0 D vi vo W q s) (hb:Below W.heap.size W Wa)
  (ho15:W15.ownsRow w0.heap.size 103 2 v15 (s.keeps.length+1) (prF s.keeps++prC x)) (hg:Wa.grownBy W15 q.vk.ownBlock) (hv:v15.ownBlock=q.vk.ownBlock∨v15.ownBlock=some Wa.heap.size) (hi:Wf x.1∧Wf x.2):
  MkAt K w0 D vi vo (W15.setCell ⟨D,3,none⟩ v15) {q with vk:=v15} {s with keeps:=s.keeps++ [x]}∧MFr D q W {q with vk:=v15} (W15.setCell ⟨D,3,none⟩ v15):=by
 obtain ⟨u,hbel,r15⟩:=h.grown (i:=3) (v15:=v15) hb hg (fun k hk=> .inr (.inr (.inr (.inl hk))))
 obtain ⟨css,how,ha⟩:=h.ow
 have hn:∀k,OwnQ {q with vk:=v15} k→OwnQ q k∨W.heap.size≤k:=fun k hk=>by
  rcases hk with g|g|g|g|g
  ·exact .inl (.inl g)
  ·exact .inl (.inr (.inl g))
  ·exact .inl (.inr (.inr (.inl g)))
  ·exact (ownq_new hb hv g).imp (fun g=> .inr (.inr (.inr (.inl g)))) id
  ·exact .inl (.inr (.inr (.inr (.inr g))))
 have m:MFr D q W {q with vk:=v15} (W15.setCell ⟨D,3,none⟩ v15):=⟨u.mono (fun k e=>e.imp id (fun g=> .inr (.inr (.inr (.inl g))))),hn⟩
 have hD:∀{sz n:Nat} {e:TypeId} {v:Value} {xs:List Value},W.ownsRow w0.heap.size e sz v n xs→82≠e→e≠103→(W15.setCell ⟨D,3,none⟩ v15).ownsRow w0.heap.size e sz v n xs:=fun hv h1 h2=>own_updE hv u (fun k hk e=>e.elim (fun e=>own_ne hv h.row h1 (e▸hk)) (fun e=>own_apartE h.ok hv h2 k e hk))
 refine ⟨⟨h.lo,hbel,?_,⟨css,hD how (by decide) (by decide),ha.mono (fun _ _ _ g=>g.fr m)⟩,hD h.oa (by decide) (by decide),hD h.oc (by decide) (by decide),?_,h.wa,h.wc,?_,?_,h.hP,h.lw,h.lc,h.lf⟩,m⟩
 ·have:=r15.set 3 v15
  simpa using this
 ·have:=setown (i:=3) ho15 r15 (by decide)
  simpa[prF] using this
 ·intro y hy
  rcases List.mem_append.1 hy with g|g
  ·exact h.wk y g
  ·rw[List.mem_singleton.1 g];exact hi
 ·obtain ⟨es,clock,hm⟩:=h.mp.map
  exact h.mp.keep (u.block _ h.mp.lt (fun e=>e.elim (fun e=>map_ne hm h.row e) (fun e=>own_mapne h.ok hm e)))
end
end Go.Proofs.YtckognjamlckcaaGreatDoor
