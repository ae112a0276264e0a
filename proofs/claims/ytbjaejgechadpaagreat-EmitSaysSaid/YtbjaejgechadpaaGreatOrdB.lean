/-
  norm.Right order: what is there; whether an act is ready. order: acts cloned; one of them struck out. order.Ordered
-/
import Derived.Test.YtbjaejgechadpaaGreatNormM
import Derived.Test.YtbjaejgechadpaaGreatNormKc
import Derived.Test.YtbjaejgechadpaaGreatNormKd
import Derived.Test.YtbjaejgechadpaaGreatNormKe
import Derived.Test.YtbjaejgechadpaaGreatNormKf
import Derived.Test.YtbjaejgechadpaaGreatOrdA
import Derived.Test.YtbjaejgechadpaaGreatPlainA
import Derived.Deep.RegionLaw
import Derived.Lib.SliceRun
namespace Go.Proofs.YtbjaejgechadpaaGreat
open Go.RowKit Vf Fo
attribute [local go_sem ↓] Go.wp_at_zero Go.wp_at_succ
section
variable {w:World} {B L:Nat} {f:Fm} {vw va vc vk vi vo vb ve:Value}
theorem nact_any (h:NkAt w B L f vw va vc vk vi vo vb ve) (hB:B≤w.heap.size) (x:Ac) (wx:AcIn x) (hd:isW f x.dst) (hcl:∀n,isW f n→(clockOf f n).length≤1600)
  {K:Nat} {ks:List Int} (hve:ve= .slice (some ⟨K,0,none⟩) f.cells.length f.cells.length) (hK:KsAt w L K ks) (hkl:ks.length=f.cells.length) (hkk:∀c:Nat,c<f.cells.length→getI ks c=(kept f c).getD (-1)) (hcok:cellsOk f):
  Calls Tryz.prog 74 #[.pointer (some ⟨L,0,none⟩),acV x] w fun e w'=>e= .returned (.bool (cB (actOk f x)))∧Below w.heap.size w w':=by
 obtain ⟨op,dst,a,b,c,k⟩:=x
 by_cases hall:allW3 f a b c
 rotate_left 1
 ·exact nact_no h hB op dst a b c k wx hall
 by_cases hu:0≤uses op
 rotate_left 1
 ·exact nact_none h hB op dst a b c k wx hd (by omega) hall
 rcases uses_cases hu with hop|hop|hop|hop|hop|hop|hop|hop|hop
 ·exact nact_1 h hB op dst a b c k wx hd hop hall
 ·exact nact_2 h hB op dst a b c k wx hd hop hall
 ·exact nact_21 h hB op dst a b c k wx hd hop hall hve hK hkl hkk hcok
 ·exact nact_3 h hB op dst a b c k wx hd hop hall
 ·exact nact_24 h hB op dst a b c k wx hd hop hall hcl
 ·exact nact_26 h hB op dst a b c k wx hd hop hall (hcl dst hd)
 ·exact nact_27 h hB op dst a b c k wx hd hop hall
 ·exact nact_one h hB op dst a b c k wx hd (by omega) hall
 ·exact nact_two h hB op dst a b c k wx hd hop hall
end
theorem act_facts {f:Fm} (hw:wiresOk f) {x:Ac} (hd:isW f x.dst) (ha:actOk f x):0≤uses x.op∧isW f x.dst∧(∀n∈wants x,isW f n)∧∀g∈clockOf f x.dst,isW f g.wire:=by
 obtain ⟨h1,h2,h3,h4,_⟩:=ha
 refine ⟨h4,hd,fun n hn=>?_,fun g hg=>(clock_ok hw hd g hg).1⟩
 unfold wants at hn
 split at hn
 ·simp at hn
 ·split at hn
  ·simp at hn;rw[hn];exact h1
  ·split at hn
   ·simp at hn;rcases hn with rfl|rfl<;>assumption
   ·simp at hn;rcases hn with rfl|rfl|rfl<;>assumption
set_option maxRecDepth 100000 in
set_option maxHeartbeats 4000000 in
theorem nright_any (f:Fm) (vw va vc vk vi vo:Value) (w:World) (h:FmAt w w.heap.size f vw va vc vk vi vo) (hcl:f.cells.length≤1600):
  Calls Tryz.prog 50 #[fmV vw va vc vk vi vo] w fun e w'=>e= .returned (.bool (cB (formOk f)))∧Below w.heap.size w w':=by
 have HFM:=Lib.hid h
 have HCL:=Lib.hid hcl
 clear h hcl
 go_enter Tryz.func50,Tryz.ntmps50
 go_upto_region 2 with (fail)
 have b1:Below w.heap.size w ((w.alloc (.cells #[vw,va,vc,vk,vi,vo] 28)).alloc (.cells #[vw,va,vc,vk,vi,vo,.slice none 0 0,.slice none 0 0] 109)):=bE
 have rG1:Row ((w.alloc (.cells #[vw,va,vc,vk,vi,vo] 28)).alloc (.cells #[vw,va,vc,vk,vi,vo,.slice none 0 0,.slice none 0 0] 109)) w.heap.size #[vw,va,vc,vk,vi,vo] 28:=(Row.new w _ _).alloc _
 have rL1:Row ((w.alloc (.cells #[vw,va,vc,vk,vi,vo] 28)).alloc (.cells #[vw,va,vc,vk,vi,vo,.slice none 0 0,.slice none 0 0] 109)) (w.heap.size+1) #[vw,va,vc,vk,vi,vo,.slice none 0 0,.slice none 0 0] 109:=rowNew2 w _ _ _
 generalize (w.alloc (.cells #[vw,va,vc,vk,vi,vo] 28)).alloc (.cells #[vw,va,vc,vk,vi,vo,.slice none 0 0,.slice none 0 0] 109)=w1 at*
 generalize hL:w.heap.size+1=L at*
 have hGL:w.heap.size≠L:=by omega
 have hBL:w.heap.size≤L:=by omega
 have hs1:=b1.size
 have hLlt:=rL1.lt
 have hN1:NkAt w1 w.heap.size L f vw va vc vk vi vo (.slice none 0 0) (.slice none 0 0):=⟨rL1,HFM.out.below b1⟩
 have HG:Hid (∀W,Upd (fun k=>k=L) w1 W→W.cell? ⟨w.heap.size,1,none⟩=some va∧W.cell? ⟨w.heap.size,4,none⟩=some vi∧W.cell? ⟨w.heap.size,5,none⟩=some vo):=fun W hW=>
  ⟨(hW.row rG1 hGL).cell 1,(hW.row rG1 hGL).cell 4,(hW.row rG1 hGL).cell 5⟩
 have HFIN:Hid (∀W,Upd (fun k=>k=L) w1 W→Below w.heap.size w W):=fun W hW=>(b1.trans ((hW.below (B:=w.heap.size) (fun k hk=>by omega) hs1)))
 clear b1 rG1 rL1 hL
 have HC:=Lib.hid (nwires_any hN1 hs1)
 by_cases h1:wiresOk f
 rotate_left 1
 ·have HF:Hid (cB (formOk f)=false):=cB_false (fun g=>h1 g.1)
  rw[cB_false h1] at HC
  clear h1
  go_wp2_with fail
  (with_reducible refine HC.out.mono ?_)
  rintro e w2 ⟨rfl,hb2⟩
  go_wp2_with fail
  go_ret
  exact ⟨ret_bool HF.out.symm,HFIN.out _ (Upd.of_below hb2)⟩
 rw[cB_true h1] at HC
 have H1:=Lib.hid h1
 clear h1
 go_wp2_with fail
 (with_reducible refine HC.out.mono ?_)
 rintro e w2 ⟨rfl,hb2⟩
 have u2:Upd (fun k=>k=L) w1 w2:=Upd.of_below hb2
 have hN2:=hN1.below hs1 hb2
 have hs2:w.heap.size≤w2.heap.size:=Nat.le_trans hs1 hb2.size
 clear hN1 hb2 HC
 obtain ⟨x1,x4,x5⟩:=HG.out _ u2
 have HC:=Lib.hid (nports_any hN2 hs2 f.ins vi hN2.fm.ins)
 by_cases h1:portsOk f f.ins
 rotate_left 1
 ·have HF:Hid (cB (formOk f)=false):=cB_false (fun g=>h1 g.2.1)
  rw[cB_false h1] at HC
  clear h1
  go_wp2_with fail
  (with_reducible refine HC.out.mono ?_)
  rintro e w3 ⟨rfl,hb3⟩
  go_wp2_with fail
  go_ret
  exact ⟨ret_bool HF.out.symm,HFIN.out _ (u2.trans (Upd.of_below hb3))⟩
 rw[cB_true h1] at HC
 have H2:=Lib.hid h1
 clear h1
 go_wp2_with fail
 (with_reducible refine HC.out.mono ?_)
 rintro e w3 ⟨rfl,hb3⟩
 have u3:Upd (fun k=>k=L) w1 w3:=u2.trans (Upd.of_below hb3)
 have hN3:=hN2.below hs2 hb3
 have hs3:w.heap.size≤w3.heap.size:=Nat.le_trans hs2 hb3.size
 clear hN2 hb3 HC x1 x4 x5 u2
 obtain ⟨x1,x4,x5⟩:=HG.out _ u3
 have HC:=Lib.hid (nports_any hN3 hs3 f.outs vo hN3.fm.outs)
 by_cases h1:portsOk f f.outs
 rotate_left 1
 ·have HF:Hid (cB (formOk f)=false):=cB_false (fun g=>h1 g.2.2.1)
  rw[cB_false h1] at HC
  clear h1
  go_wp2_with fail
  (with_reducible refine HC.out.mono ?_)
  rintro e w4 ⟨rfl,hb4⟩
  go_wp2_with fail
  go_ret
  exact ⟨ret_bool HF.out.symm,HFIN.out _ (u3.trans (Upd.of_below hb4))⟩
 rw[cB_true h1] at HC
 have H3:=Lib.hid h1
 clear h1
 go_wp2_with fail
 (with_reducible refine HC.out.mono ?_)
 rintro e w4 ⟨rfl,hb4⟩
 have u4:Upd (fun k=>k=L) w1 w4:=u3.trans (Upd.of_below hb4)
 have hN4:=hN3.below hs3 hb4
 have hs4:w.heap.size≤w4.heap.size:=Nat.le_trans hs3 hb4.size
 clear hN3 hb4 HC x1 x4 x5 u3
 obtain ⟨x1,x4,x5⟩:=HG.out _ u4
 have HC:=Lib.hid (ncells_any hN4 hBL HCL.out)
 clear hN4
 go_wp2_with fail
 (with_reducible refine HC.out.mono ?_)
 rintro e w5 ⟨r5,ve5,rfl,hr5,hN5,v5,hK5⟩
 have u5:=u4.trans v5
 have hs5:w.heap.size≤w5.heap.size:=Nat.le_trans hs4 v5.size
 have HR5:=Lib.hid hr5
 have HK5:=Lib.hid hK5
 clear HC x1 x4 x5 u4 v5 hr5 hK5
 obtain ⟨x1,x4,x5⟩:=HG.out _ u5
 cases r5
 ·have HF:Hid (cB (formOk f)=false):=cB_false (fun g=>by have:=HR5.out.2 g.2.2.2.1;cases this)
  go_wp2_with fail
  go_ret
  exact ⟨ret_bool HF.out.symm,HFIN.out _ u5⟩
 have H4:Hid (cellsOk f):=HR5.out.1 rfl
 obtain ⟨K,ks,rfl,hKs,hkl,hkk⟩:=HK5.out rfl
 have HKK:=Lib.hid hkk
 have HKL:=Lib.hid hkl
 have HKS:=Lib.hid hKs
 have HC:=Lib.hid (ndefined_any hN5 hBL H1.out.2.2 (fun n hn=>(H2.out.1 n hn).1))
 clear hN5 hkk hkl hKs HK5 HR5
 go_wp2_with fail
 (with_reducible refine HC.out.mono ?_)
 rintro e w6 ⟨r6,vb6,rfl,hr6,hN6,v6⟩
 have u6:=u5.trans v6
 have hs6:w.heap.size≤w6.heap.size:=Nat.le_trans hs5 v6.size
 have HR6:=Lib.hid hr6
 have HKS6:Hid (KsAt w6 L K ks):=⟨v6.row HKS.out.row HKS.out.ne,HKS.out.ne⟩
 clear HC x1 x4 x5 u5 v6 hr6
 obtain ⟨x1,x4,x5⟩:=HG.out _ u6
 cases r6
 ·have HF:Hid (cB (formOk f)=false):=cB_false (fun g=>by have:=HR6.out.2 g.2.2.2.2.1;cases this)
  go_wp2_with fail
  go_ret
  exact ⟨ret_bool HF.out.symm,HFIN.out _ u6⟩
 have H5:Hid (definedOk f):=HR6.out.1 rfl
 have HN6:=Lib.hid (fun W (hW:Below w6.heap.size w6 W)=>hN6.below hs6 hW)
 have HCL2:=Lib.hid (fun n (hn:isW f n)=>clock_len H1.out hn)
 obtain ⟨Aa,ca,rfl,la,ma,sa⟩:=hN6.fm.acts
 have ma':ca≤9223372036854775807:=by unfold maxLen at ma;omega
 clear hN6 sa HR6
 go_wp2_with fail
 go_loopw[39] (fun i wr=>∃k:Nat,k≤f.acts.length∧i= .int .i64 k∧Hid (∀j,j<k→∀x,f.acts[j]? =some x→actOk f x)∧Below w6.heap.size w6 wr) (fun i _=>f.acts.length-(intOf i).toNat)
 case atStart=>exact ⟨0,Nat.zero_le _,rfl,fun j hj=>absurd hj (by omega),Below.refl _ _⟩
 case round=>
  clear x1 x4 x5
  obtain ⟨k,hk,rfl,HA,hb⟩:=hrel
  have hsr:=hb.size
  by_cases hlt:k<f.acts.length
  rotate_left 1
  ·obtain rfl:k=f.acts.length:=by omega
   have HA2:=Lib.hid (all_upto HA.out)
   have HC:=Lib.hid (nrow_any (HN6.out _ hb) (by omega) H1.out.2.2 (fun n hn=>(H2.out.1 n hn).1) (fun x hx=>act_facts H1.out (H5.out.2.1 x hx).1 (HA2.out x hx)))
   have HF:Hid (cB (formOk f)=cB (rowOk f)):=cB_congr ⟨fun g=>g.2.2.2.2.2.2,fun g=>⟨H1.out,H2.out,H3.out,H4.out,H5.out,HA2.out,g⟩⟩
   generalize cB (rowOk f)=R at*
   go_wp2_with fail
   (with_reducible refine HC.out.mono ?_)
   rintro e w8 ⟨rfl,hb8⟩
   go_wp2_with fail
   go_ret
   exact ⟨ret_bool HF.out.symm,HFIN.out _ (u6.trans ((Upd.of_below hb).trans (Upd.of_below hb8)))⟩
  obtain ⟨A',c',he,_,_,sa⟩:=(HN6.out _ hb).fm.acts
  injection he with he1 he2 he3
  subst he1
  obtain ⟨b,off,⟨xo,xd,xa,xb,xc,xk⟩,hAa,hbb,hx,wx,d0,d1,d2,d3,d4,d5⟩:=sa.ac hlt
  subst hAa
  have HX:=Lib.hid hx
  dsimp only at d0 d1 d2 d3 d4 d5
  have ba:=(Below.refl wr.heap.size wr).alloc (Nat.le_refl _) (.cells #[.int .i64 xo,.int .i64 xd,.int .i64 xa,.int .i64 xb,.int .i64 xc,.int .i64 xk] 56)
  have r9:=Row.new wr #[.int .i64 xo,.int .i64 xd,.int .i64 xa,.int .i64 xb,.int .i64 xc,.int .i64 xk] 56
  have hb7:=hb.trans (ba.mono hsr)
  clear he2 he3 hx sa
  go_upto_region 7 with (fail)
  generalize wr.heap.size=g9 at*
  generalize wr.alloc (.cells #[.int .i64 xo,.int .i64 xd,.int .i64 xa,.int .i64 xb,.int .i64 xc,.int .i64 xk] 56)=w7 at*
  clear d0 d1 d2 d3 d4 d5 ba
  obtain ⟨c0,c1,c2,c3,c4,c5⟩:=r9.six'
  have hs7:=hb7.size
  have HC:=Lib.hid (nact_any (HN6.out _ hb7) (by omega) ⟨xo,xd,xa,xb,xc,xk⟩ wx (H5.out.2.1 _ (List.mem_of_getElem? HX.out)).1 HCL2.out rfl ⟨HKS6.out.row.below hb7 HKS6.out.row.lt,HKS6.out.ne⟩ HKL.out HKK.out H4.out)
  by_cases ha:actOk f ⟨xo,xd,xa,xb,xc,xk⟩
  ·rw[cB_true ha] at HC
   have HA':=Lib.hid (upto_succ HA.out (fun y hy=>by rw[HX.out] at hy;injection hy with hy;rw[←hy];exact ha))
   clear ha
   go_wp2_with fail
   (with_reducible refine HC.out.mono ?_)
   rintro e w8 ⟨rfl,hb8⟩
   have hb68:=hb7.trans (hb8.mono hs7)
   go_wp2_with fail
   go_roundw
   case rel=>exact ⟨k+1,by omega,by go_num,HA',hb68⟩
   case measure=>first|(simp[intOf];omega)|simp[intOf]
  ·rw[cB_false ha] at HC
   have HF:Hid (cB (formOk f)=false):=cB_false (fun g=>ha (g.2.2.2.2.2.1 _ (List.mem_of_getElem? HX.out)))
   clear ha
   go_wp2_with fail
   (with_reducible refine HC.out.mono ?_)
   rintro e w8 ⟨rfl,hb8⟩
   go_wp2_with fail
   go_ret
   exact ⟨ret_bool HF.out.symm,HFIN.out _ (u6.trans (Upd.of_below (hb7.trans (hb8.mono hs7))))⟩
end Go.Proofs.YtbjaejgechadpaaGreat
namespace Go.Proofs.YtbjaejgechadpaaGreat.Fo
open Vf
def HaveSt (f:Fm) (H:List Int) (ds:List Bool):Prop:=ds.length=f.wires.length∧∀m:Nat,m<f.wires.length→(ds.getD m false=true↔(m:Int)∈H)
section
variable {f:Fm} {H H':List Int} {ds:List Bool}
theorem HaveSt.congr (h:HaveSt f H ds) (e:∀n,n∈H↔n∈H'):HaveSt f H' ds:=⟨h.1,fun m hm=>(h.2 m hm).trans (e _)⟩
theorem have_start (f:Fm):HaveSt f [] (List.replicate f.wires.length false):=⟨by simp,fun m hm=>by simp[List.getD_eq_getElem?_getD,hm]⟩
theorem HaveSt.set (h:HaveSt f H ds) {n:Int} (hn:isW f n):HaveSt f (n::H) (ds.set n.toNat true):=by
 refine ⟨by simp[h.1],fun m hm=>?_⟩
 rw[bGet_set hn.1 (by rw[h.1];exact hn.2)]
 by_cases e:n=m
 ·simp[e]
 ·rw[if_neg e,h.2 m hm]
  have e':¬(m:Int)=n:=fun g=>e g.symm
  simp[e']
theorem HaveSt.get (h:HaveSt f H ds) {n:Int} (hn:isW f n):bGet ds n=true↔n∈H:=by
 obtain ⟨m,rfl⟩:=Int.eq_ofNat_of_zero_le hn.1
 have hm:m<f.wires.length:=by have:=hn.2;omega
 exact h.2 m hm
theorem ready_iff (h:HaveSt f H ds) {x:Ac} (hw:∀n∈wantsAll f x,isW f n):(∀n∈wantsAll f x,bGet ds n=true)↔readyOk f H x:=by
 constructor
 ·intro g
  refine ⟨fun n hn=>?_,fun q hq=>?_⟩
  ·have hm:n∈wantsAll f x:=List.mem_append_left _ hn
   exact (h.get (hw n hm)).1 (g n hm)
  ·have hm:q.wire∈wantsAll f x:=List.mem_append_right _ (List.mem_map.2 ⟨q,hq,rfl⟩)
   exact (h.get (hw _ hm)).1 (g _ hm)
 ·intro g n hn
  refine (h.get (hw n hn)).2 ?_
  rcases List.mem_append.1 hn with hn|hn
  ·exact g.1 n hn
  ·obtain ⟨q,hq,rfl⟩:=List.mem_map.1 hn
   exact g.2 q hq
end
end Go.Proofs.YtbjaejgechadpaaGreat.Fo
namespace Go.Proofs.YtbjaejgechadpaaGreat
open Go.RowKit Vf Fo
attribute [local go_sem ↓] Go.wp_at_zero Go.wp_at_succ
structure AcOk (f:Fm) (x:Ac):Prop where
 uses:0≤uses x.op
 dst:isW f x.dst
 wants:∀n∈wantsAll f x,isW f n
 clock:(clockOf f x.dst).length≤1600
theorem ac_ok {f:Fm} (hf:formOk f) {x:Ac} (hx:x∈f.acts):AcOk f x:=by
 obtain ⟨h1,h2,h3,h4⟩:=act_facts hf.1 (hf.2.2.2.2.1.2.1 x hx).1 (hf.2.2.2.2.2.1 x hx)
 refine ⟨h1,h2,fun n hn=>?_,clock_len hf.1 h2⟩
 rcases List.mem_append.1 hn with hn|hn
 ·exact h3 n hn
 ·obtain ⟨g,hg,rfl⟩:=List.mem_map.1 hn
  exact h4 g hg
set_option maxRecDepth 100000 in
set_option maxHeartbeats 4000000 in
theorem oready_any {w:World} {B:Nat} {f:Fm} {vw va vc vk vi vo:Value} (h:FmAt w B f vw va vc vk vi vo) (hB:B≤w.heap.size) (x:Ac) (wx:AcIn x) (ho:AcOk f x)
  (D:Nat) (ds:List Bool) (rD:Row w D (bls ds).toArray 4) (hdl:ds.length=f.wires.length):
  Calls Tryz.prog 52 #[fmV vw va vc vk vi vo,acV x,.slice (some ⟨D,0,none⟩) f.wires.length f.wires.length] w fun e w'=>e= .returned (.bool (cB (∀n∈wantsAll f x,bGet ds n=true)))∧Below w.heap.size w w':=by
 obtain ⟨op,dst,a,b,c,k⟩:=x
 have hrl:=rD.lt
 have HR:=Lib.hid (fun W (hW:Below w.heap.size w W)=>rD.below hW hrl)
 have HDL:=Lib.hid hdl
 have HWA:=Lib.hid ho.wants
 have b1:Below w.heap.size w ((w.alloc (.cells #[vw,va,vc,vk,vi,vo] 28)).alloc (.cells #[.int .i64 op,.int .i64 dst,.int .i64 a,.int .i64 b,.int .i64 c,.int .i64 k] 56)):=bE
 have HWN:=Lib.hid (owants_any (h.below (b1.mono hB)) (Nat.le_trans hB b1.size) ⟨op,dst,a,b,c,k⟩ wx ho.uses ho.dst ho.clock)
 have rF:Row ((w.alloc (.cells #[vw,va,vc,vk,vi,vo] 28)).alloc (.cells #[.int .i64 op,.int .i64 dst,.int .i64 a,.int .i64 b,.int .i64 c,.int .i64 k] 56)) w.heap.size #[vw,va,vc,vk,vi,vo] 28:=(Row.new w _ _).alloc _
 have rX:Row ((w.alloc (.cells #[vw,va,vc,vk,vi,vo] 28)).alloc (.cells #[.int .i64 op,.int .i64 dst,.int .i64 a,.int .i64 b,.int .i64 c,.int .i64 k] 56)) (w.heap.size+1) #[.int .i64 op,.int .i64 dst,.int .i64 a,.int .i64 b,.int .i64 c,.int .i64 k] 56:=rowNew2 w _ _ _
 clear h wx ho rD hdl
 go_enter Tryz.func52,Tryz.ntmps52
 go_upto_region 1 with (fail)
 generalize (w.alloc (.cells #[vw,va,vc,vk,vi,vo] 28)).alloc (.cells #[.int .i64 op,.int .i64 dst,.int .i64 a,.int .i64 b,.int .i64 c,.int .i64 k] 56)=w1 at*
 obtain ⟨f0,f1,f2,f3,f4,f5⟩:=rF.six'
 obtain ⟨c0,c1,c2,c3,c4,c5⟩:=rX.six'
 have hs1:=b1.size
 go_wp2_with fail
 (with_reducible refine HWN.out.mono ?_)
 rintro e w2 ⟨v2,rfl,hs2,hb2⟩
 have hb12:=b1.trans (hb2.mono hs1)
 obtain ⟨A2,cap2,rfl,lv2,mv2,sv2⟩:=hs2
 have mv2':cap2≤9223372036854775807:=by unfold maxLen at mv2;omega
 have HSV:=Lib.hid sv2
 generalize hwl2:wantsAll f ⟨op,dst,a,b,c,k⟩=wl at*
 have HWL:=Lib.hid hwl2
 clear c0 c1 c2 c3 c4 c5 f0 f1 f2 f3 f4 f5 hb2 b1 sv2 hwl2 HWN rF rX hs1
 go_wp2_with fail
 go_loopw[13] (fun i wr=>∃j:Nat,j≤wl.length∧i= .int .i64 j∧Hid (∀i,i<j→∀n,wl[i]? =some n→bGet ds n=true)∧w2=wr) (fun i _=>wl.length-(intOf i).toNat)
 case atStart=>exact ⟨0,Nat.zero_le _,rfl,fun j h=>absurd h (by omega),rfl⟩
 case round=>
  obtain ⟨j,hj,rfl,HP,rfl⟩:=hrel
  by_cases hlt:j<wl.length
  ·obtain ⟨b3,off3,n,rfl,hb3,hn,wn,e0⟩:=HSV.out.int hlt
   have hWn:=HWA.out n (List.mem_of_getElem? hn)
   have HNn:=Lib.hid hn
   obtain ⟨m,rfl⟩:=Int.eq_ofNat_of_zero_le hWn.1
   have hml:m<f.wires.length:=by have:=hWn.2;omega
   have hml':(m:Int)<f.wires.length:=by omega
   have y0:=ds_cell (HR.out _ hb12) (n:=m) (by rw[HDL.out];exact hml)
   generalize hV:bGet ds (m:Int)=V at y0
   have HV':=Lib.hid hV
   clear hn hWn hV
   cases V
   ·have HF:Hid (cB (∀n∈wantsAll f ⟨op,dst,a,b,c,k⟩,bGet ds n=true)=false):=cB_false (fun g=>by rw[HWL.out] at g;have:=g _ (List.mem_of_getElem? HNn.out);rw[HV'.out] at this;cases this)
    go_wp2_with fail
    go_ret
    exact ⟨ret_bool HF.out.symm,hb12⟩
   ·have HP':=Lib.hid (upto_succ HP.out (fun n' hn'=>by rw[HNn.out] at hn';injection hn' with hn';rw[←hn'];exact HV'.out))
    go_wp2_with fail
    go_roundw
    case rel=>exact ⟨j+1,by omega,by go_num,HP',trivial⟩
    case measure=>first|(simp[intOf];omega)|simp[intOf]
  obtain rfl:j=wl.length:=by omega
  have HF:Hid (cB (∀n∈wantsAll f ⟨op,dst,a,b,c,k⟩,bGet ds n=true)=true):=cB_true (by rw[HWL.out];exact all_upto HP.out)
  go_wp2_with fail
  go_ret
  exact ⟨ret_bool HF.out.symm,hb12⟩
def ThereIs (f:Fm) (w:World) (e:Ending) (w':World):Prop:=∃D ds,e= .returned (.slice (some ⟨D,0,none⟩) f.wires.length f.wires.length)∧w.heap.size≤D∧Row w' D (bls ds).toArray 4∧HaveSt f f.ins ds∧Below w.heap.size w w'
set_option maxRecDepth 100000 in
set_option maxHeartbeats 4000000 in
theorem there_any {w:World} {B:Nat} {f:Fm} {vw va vc vk vi vo:Value} (h:FmAt w B f vw va vc vk vi vo) (hB:B≤w.heap.size) (hwl:f.wires.length≤1600) (hins:∀n∈f.ins,isW f n):
  Calls Tryz.prog 51 #[fmV vw va vc vk vi vo] w (ThereIs f w):=by
 obtain ⟨Aw,cw,rfl,lw,mw,sw⟩:=h.wires
 obtain ⟨Ai,ci,rfl,li,mi,si⟩:=h.ins
 have mw':cw≤9223372036854775807:=by unfold maxLen at mw;omega
 have mi':ci≤9223372036854775807:=by unfold maxLen at mi;omega
 have mk:=make_bools f.wires.length (by omega) (by omega)
 have HSI:=Lib.hid (fun W (hW:Below w.heap.size w W)=>si.below (hW.mono hB))
 have HI:=Lib.hid hins
 clear h sw si hins
 go_enter Tryz.func51,Tryz.ntmps51
 go_upto_region 2 with (fail)
 have b1:Below w.heap.size w ((w.alloc (.cells #[.slice Aw f.wires.length cw,va,vc,vk,.slice Ai f.ins.length ci,vo] 28)).alloc (.cells (Array.replicate f.wires.length (.bool false)) 4)):=bE
 have rF1:Row ((w.alloc (.cells #[.slice Aw f.wires.length cw,va,vc,vk,.slice Ai f.ins.length ci,vo] 28)).alloc (.cells (Array.replicate f.wires.length (.bool false)) 4)) w.heap.size #[.slice Aw f.wires.length cw,va,vc,vk,.slice Ai f.ins.length ci,vo] 28:=(Row.new w _ _).alloc _
 have rD1:Row ((w.alloc (.cells #[.slice Aw f.wires.length cw,va,vc,vk,.slice Ai f.ins.length ci,vo] 28)).alloc (.cells (Array.replicate f.wires.length (.bool false)) 4)) (w.heap.size+1) (bls (List.replicate f.wires.length false)).toArray 4:=by
  have:=rowNew2 w (.cells #[.slice Aw f.wires.length cw,va,vc,vk,.slice Ai f.ins.length ci,vo] 28) (Array.replicate f.wires.length (.bool false)) 4
  simpa[bls] using this
 generalize (w.alloc (.cells #[.slice Aw f.wires.length cw,va,vc,vk,.slice Ai f.ins.length ci,vo] 28)).alloc (.cells (Array.replicate f.wires.length (.bool false)) 4)=w1 at*
 generalize hD:w.heap.size+1=D at*
 generalize hG:w.heap.size=G at*
 have hs1:=b1.size
 have hGD:G≠D:=by omega
 have hGD':G≤D:=by omega
 have hDlt:=rD1.lt
 have HFI:Hid (∀W,Upd (fun k=>k=D) w1 W→Below G w W):=fun W hW=>(b1.trans ((hW.below (B:=D) (fun k hk=>by omega) (by omega)).mono (by omega)))
 have HRD:=Lib.hid rD1
 obtain ⟨f0,f1,f2,f3,f4,f5⟩:=rF1.six'
 clear rF1 rD1 b1 hs1 mk hD
 go_wp2_with fail
 go_loopw[13] (fun i wr=>∃(k:Nat) (ds:List Bool),k≤f.ins.length∧i= .int .i64 k∧Hid (HaveSt f (f.ins.take k) ds)∧Row wr D (bls ds).toArray 4∧Upd (fun k=>k=D) w1 wr) (fun i _=>f.ins.length-(intOf i).toNat)
 case atStart=>exact ⟨0,List.replicate f.wires.length false,Nat.zero_le _,rfl,(by rw[List.take_zero];exact have_start f),HRD.out,Upd.refl _ _⟩
 case round=>
  clear f0 f1 f2 f3 f4 f5
  obtain ⟨k,ds,hk,rfl,HS,rD,uD⟩:=hrel
  have HDL:=Lib.hid HS.out.1
  by_cases hlt:k<f.ins.length
  ·obtain ⟨b,off,n,rfl,hbb,hx,wx,d0⟩:=(HSI.out _ (HFI.out _ uD)).int hlt
   have hw:=HI.out n (List.mem_of_getElem? hx)
   have HX:=Lib.hid hx
   have HW:=Lib.hid hw
   obtain ⟨m,rfl⟩:=Int.eq_ofNat_of_zero_le hw.1
   have hm:m<f.wires.length:=by have:=hw.2;omega
   have hm':(m:Int)<f.wires.length:=by omega
   have fD:=rD.frozen m
   have cD:=ds_cell rD (n:=m) (by rw[HDL.out];exact hm)
   have rD6:=Lib.hid (ds_set (m:=m) rD true)
   have uD6:=Lib.hid (Upd.setCell (X:=fun k=>k=D) (p:=⟨D,m,none⟩) uD rfl (.bool true))
   have HS':Hid (HaveSt f (f.ins.take (k+1)) (ds.set m true)):=(HS.out.set HW.out).congr (fun q=>by
    rw[take_snoc' HX.out];simp[or_comm])
   generalize bGet ds (m:Int)=V at cD
   clear hx hw rD
   go_wp2_with fail
   go_roundw
   case rel=>exact ⟨k+1,ds.set m true,by omega,by go_num,HS'.out,rD6.out,uD6.out⟩
   case measure=>simp[intOf];omega
  obtain rfl:k=f.ins.length:=by omega
  have HH:Hid (HaveSt f f.ins ds):=by have:=HS.out;rwa [List.take_length] at this
  go_wp2_with fail
  go_ret
  exact ⟨D,ds,rfl,by omega,rD,HH.out,by rw[hG];exact HFI.out _ uD⟩
end Go.Proofs.YtbjaejgechadpaaGreat
namespace Go.Proofs.YtbjaejgechadpaaGreat
open Go.RowKit Vf Fo
attribute [local go_sem ↓] Go.wp_at_zero Go.wp_at_succ
def acC (x:Ac):List Value:=[.int .i64 x.op,.int .i64 x.dst,.int .i64 x.a,.int .i64 x.b,.int .i64 x.c,.int .i64 x.k]
end Go.Proofs.YtbjaejgechadpaaGreat
namespace Go.Proofs.YtbjaejgechadpaaGreat
open Go.RowKit Vf Fo
attribute [local go_sem ↓] Go.wp_at_zero Go.wp_at_succ
theorem getI_drop {α:Type} {l:List α} {k:Nat} {x:α} (h:l[k]? =some x):l.drop k=x::l.drop (k+1):=by
 obtain ⟨hk,rfl⟩:=List.getElem?_eq_some_iff.1 h
 exact List.drop_eq_getElem_cons hk
set_option maxRecDepth 100000 in
set_option maxHeartbeats 4000000 in
theorem ordered_any (f:Fm) (vw va vc vk vi vo:Value) (w:World) (h:FmAt w w.heap.size f vw va vc vk vi vo) (hcl:f.cells.length≤1600):
  Calls Tryz.prog 23 #[fmV vw va vc vk vi vo] w fun e w'=>e= .returned (.bool (cB (orderedOk f)))∧Below w.heap.size w w':=by
 have b1:Below w.heap.size w (w.alloc (.cells #[vw,va,vc,vk,vi,vo] 28)):=bE
 have rF:=Row.new w #[vw,va,vc,vk,vi,vo] 28
 have HR:=Lib.hid (nright_any f vw va vc vk vi vo _ (h.next b1) hcl)
 have HFM:=Lib.hid (fun W (hW:Below w.heap.size w W)=>h.below hW)
 obtain ⟨Aa,ca,rfl,la,ma,sa⟩:=h.acts
 have ma':ca≤9223372036854775807:=by unfold maxLen at ma;omega
 have HSA:=Lib.hid (fun W (hW:Below w.heap.size w W)=>sa.below hW)
 clear h hcl sa
 go_enter Tryz.func23,Tryz.ntmps23
 go_upto_region 1 with (fail)
 generalize w.alloc (.cells #[vw,.slice Aa f.acts.length ca,vc,vk,vi,vo] 28)=w1 at*
 have hs1:=b1.size
 have hGl:=rF.lt
 obtain ⟨f0,f1,f2,f3,f4,f5⟩:=rF.six'
 by_cases hf:formOk f
 rotate_left 1
 ·have HF:Hid (cB (orderedOk f)=false):=cB_false (fun g=>hf g.1)
  rw[cB_false hf] at HR
  clear hf
  go_wp2_with fail
  (with_reducible refine HR.out.mono ?_)
  rintro e w2 ⟨rfl,hb2⟩
  go_wp2_with fail
  go_ret
  exact ⟨ret_bool HF.out.symm,b1.trans (hb2.mono hs1)⟩
 have HOK:=Lib.hid hf
 rw[cB_true hf] at HR
 clear hf
 go_wp2_with fail
 (with_reducible refine HR.out.mono ?_)
 rintro e w2 ⟨rfl,hb2⟩
 have b2:=b1.trans (hb2.mono hs1)
 have rF2:=rF.below hb2 hGl
 have hs2:=b2.size
 have hG2:=rF2.lt
 clear f0 f1 f2 f3 f4 f5 rF HR hb2
 obtain ⟨f0,f1,f2,f3,f4,f5⟩:=rF2.six'
 have HT:=Lib.hid (there_any (HFM.out _ b2) hs2 HOK.out.1.2.2 (fun n hn=>(HOK.out.2.1.1 n hn).1))
 go_wp2_with fail
 (with_reducible refine HT.out.mono ?_)
 rintro e w3 ⟨D,ds0,rfl,hD,rD,hH,hb3⟩
 have HH:=Lib.hid hH
 have HRD:=Lib.hid rD
 have b3:=b2.trans (hb3.mono hs2)
 have rF3:=rF2.below hb3 hG2
 have hGD:w.heap.size≠D:=by omega
 have hDlt:=rD.lt
 have hs3:=b3.size
 have HW:Hid (∀W,Upd (fun k=>k=D) w3 W→Below w.heap.size w W∧Row W w.heap.size #[vw,.slice Aa f.acts.length ca,vc,vk,vi,vo] 28):=fun W hW=>
  ⟨b3.trans ((hW.below (B:=w.heap.size) (fun k hk=>by omega) (by omega))),hW.row rF3 hGD⟩
 clear f0 f1 f2 f3 f4 f5 HT hb3 hH rD b1 b2 rF2 hs1
 obtain ⟨f0,f1,f2,f3,f4,f5⟩:=rF3.six'
 clear rF3
 go_wp2_with fail
 go_loopw[14] (fun i wr=>∃(k:Nat) (H:List Int) (ds:List Bool),k≤f.acts.length∧i= .int .i64 k∧Hid (HaveSt f H ds)∧Hid (ordFrom f f.ins f.acts↔ordFrom f H (f.acts.drop k))∧Row wr D (bls ds).toArray 4∧Upd (fun k=>k=D) w3 wr) (fun i _=>f.acts.length-(intOf i).toNat)
 case atStart=>exact ⟨0,f.ins,ds0,Nat.zero_le _,rfl,HH.out,(by rw[List.drop_zero];exact Iff.rfl),HRD.out,Upd.refl _ _⟩
 case round=>
  clear f0 f1 f2 f3 f4 f5 HH HRD
  obtain ⟨k,H,ds,hk,rfl,HS,HI,rD,uD⟩:=hrel
  obtain ⟨bw,rFr⟩:=HW.out _ uD
  have HDL:=Lib.hid HS.out.1
  by_cases hlt:k<f.acts.length
  rotate_left 1
  ·obtain rfl:k=f.acts.length:=by omega
   have HF:Hid (cB (orderedOk f)=true):=cB_true ⟨HOK.out,HI.out.2 (by rw[List.drop_length];trivial)⟩
   clear rFr
   go_wp2_with fail
   go_ret
   exact ⟨ret_bool HF.out.symm,bw⟩
  obtain ⟨b,off,⟨xo,xd,xa,xb,xc,xk⟩,hAa,hbb,hx,wx,d0,d1,d2',d3,d4,d5⟩:=(HSA.out _ bw).ac hlt
  subst hAa
  have HX:=Lib.hid hx
  have HAC:=Lib.hid (ac_ok HOK.out (List.mem_of_getElem? hx))
  have hdst:=HAC.out.dst
  obtain ⟨m,rfl⟩:=Int.eq_ofNat_of_zero_le (show 0≤xd from hdst.1)
  have hm:m<f.wires.length:=by have:=hdst.2;dsimp only at this;omega
  have hm':(m:Int)<f.wires.length:=by omega
  dsimp only at d0 d1 d2' d3 d4 d5
  have r9:=Row.new wr #[.int .i64 xo,.int .i64 (m:Int),.int .i64 xa,.int .i64 xb,.int .i64 xc,.int .i64 xk] 56
  have u4:Upd (fun k=>k=D) w3 (wr.alloc (.cells #[.int .i64 xo,.int .i64 (m:Int),.int .i64 xa,.int .i64 xb,.int .i64 xc,.int .i64 xk] 56)):=uD.alloc _
  have rD4:=rD.alloc (.cells #[.int .i64 xo,.int .i64 (m:Int),.int .i64 xa,.int .i64 xb,.int .i64 xc,.int .i64 xk] 56)
  have hDr:=rD.lt
  clear hx hdst rD rFr bw
  go_upto_region 7 with (fail)
  generalize hg9:wr.heap.size=g9 at*
  generalize wr.alloc (.cells #[.int .i64 xo,.int .i64 (m:Int),.int .i64 xa,.int .i64 xb,.int .i64 xc,.int .i64 xk] 56)=w4 at*
  clear d0 d1 d2' d3 d4 d5
  obtain ⟨b4,rF4⟩:=HW.out _ u4
  have hs4:=b4.size
  have HR:=Lib.hid (oready_any (HFM.out _ b4) hs4 ⟨xo,(m:Int),xa,xb,xc,xk⟩ wx HAC.out D ds rD4 HDL.out)
  have HQ:=Lib.hid (ready_iff HS.out HAC.out.wants)
  obtain ⟨c0,c1,c2,c3,c4,c5⟩:=r9.six'
  obtain ⟨f0,f1,f2,f3,f4,f5⟩:=rF4.six'
  have hDl4:=rD4.lt
  have hg9l:=r9.lt
  have hgD:g9≠D:=by omega
  clear wx hg9 hDr
  by_cases hr:∀n∈wantsAll f ⟨xo,(m:Int),xa,xb,xc,xk⟩,bGet ds n=true
  rotate_left 1
  ·have HF:Hid (cB (orderedOk f)=false):=cB_false (fun g=>by
    have h1:=HI.out.1 g.2
    rw[getI_drop HX.out] at h1
    exact hr (HQ.out.2 h1.1))
   rw[cB_false hr] at HR
   clear hr
   go_wp2_with fail
   (with_reducible refine HR.out.mono ?_)
   rintro e w5 ⟨rfl,hb5⟩
   have u5:=u4.trans (Upd.of_below hb5)
   clear c0 c1 c2 c3 c4 c5 f0 f1 f2 f3 f4 f5
   go_wp2_with fail
   go_ret
   exact ⟨ret_bool HF.out.symm,(HW.out _ u5).1⟩
  have HI':Hid (ordFrom f f.ins f.acts↔ordFrom f ((m:Int)::H) (f.acts.drop (k+1))):=by
   refine HI.out.trans ?_
   rw[getI_drop HX.out]
   exact ⟨fun g=>g.2,fun g=>⟨HQ.out.1 hr,g⟩⟩
  have HS':Hid (HaveSt f ((m:Int)::H) (ds.set m true)):=HS.out.set HAC.out.dst
  rw[cB_true hr] at HR
  clear hr
  go_wp2_with fail
  (with_reducible refine HR.out.mono ?_)
  rintro e w5 ⟨rfl,hb5⟩
  have u5:=u4.trans (Upd.of_below hb5)
  have rD5:=rD4.below hb5 hDl4
  clear c0 c1 c2 c3 c4 c5 f0 f1 f2 f3 f4 f5
  obtain ⟨c0,c1,c2,c3,c4,c5⟩:=(r9.below hb5 hg9l).six'
  obtain ⟨f0,f1,f2,f3,f4,f5⟩:=(HW.out _ u5).2.six'
  have fD:=rD5.frozen m
  have cD:=ds_cell rD5 (n:=m) (by rw[HDL.out];exact hm)
  have rD6:=Lib.hid (ds_set (m:=m) rD5 true)
  have uD6:=Lib.hid (Upd.setCell (X:=fun k=>k=D) (p:=⟨D,m,none⟩) u5 rfl (.bool true))
  generalize bGet ds (m:Int)=V at cD
  clear rD5 rD4 rF4 r9 b4
  go_wp2_with fail
  go_roundw
  case rel=>exact ⟨k+1,(m:Int)::H,ds.set m true,by omega,by go_num,HS'.out,HI'.out,rD6.out,uD6.out⟩
  case measure=>simp[intOf];omega
end Go.Proofs.YtbjaejgechadpaaGreat
