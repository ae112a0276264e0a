/-
  norm: whether all wires can be put in a row.
-/
import Derived.Test.YtbjaejgechadpaaGreatNormL
namespace Go.Proofs.YtbjaejgechadpaaGreat
open Go.RowKit Vf Fo
attribute [local go_sem ↓] Go.wp_at_zero Go.wp_at_succ
def bls (l:List Bool):List Value:=l.map Value.bool
theorem ds_set {W:World} {K m:Nat} {ds:List Bool} {t:TypeId} (h:Row W K (bls ds).toArray t) (v:Bool):Row (W.setCell ⟨K,m,none⟩ (.bool v)) K (bls (ds.set m v)).toArray t:=by
 have:=h.set m (.bool v)
 rw[List.setIfInBounds_toArray] at this
 rw[bls,List.map_set]
 exact this
structure RowIn (f:Fm) (ds:List Bool):Prop where
 st:RowSt f ds
 ins:∀n∈f.ins,bGet ds n=true
theorem bGet_keep {ds:List Bool} {n m:Int} (h0:0≤n) (h1:n<ds.length) (h:bGet ds m=true):bGet (ds.set n.toNat true) m=true:=by
 have:=bGet_set (ds:=ds) (n:=n) (c:=m.toNat) h0 h1
 unfold bGet at h⊢
 rw[this]
 split
 ·rfl
 ·exact h
theorem row_start (f:Fm):RowSt f (List.replicate f.wires.length false):=⟨by simp,fun m hm=>by
 rw[List.getD_eq_getElem?_getD,List.getElem?_replicate] at hm
 split at hm<;>simp at hm⟩
theorem row_in {f:Fm} {ds:List Bool} (h:RowSt f ds) {n:Int} (hn:n∈f.ins) (hw:isW f n):RowSt f (ds.set n.toNat true):=by
 refine ⟨by simp[h.len],fun m hm=>?_⟩
 rw[bGet_set hw.1 (by rw[h.len];exact hw.2)] at hm
 by_cases e:n=m
 ·rw[←e];exact .ins n hn
 ·rw[if_neg e] at hm;exact h.done m hm
set_option maxRecDepth 100000 in
set_option maxHeartbeats 4000000 in
theorem nrow_any {w:World} {B L:Nat} {f:Fm} {vw va vc vk vi vo vb ve:Value} (h:NkAt w B L f vw va vc vk vi vo vb ve) (hB:B≤w.heap.size) (hwl:f.wires.length≤1600) (hins:∀n∈f.ins,isW f n)
  (hacts:∀x∈f.acts,0≤uses x.op∧isW f x.dst∧(∀n∈wants x,isW f n)∧∀g∈clockOf f x.dst,isW f g.wire):
  Calls Tryz.prog 75 #[.pointer (some ⟨L,0,none⟩)] w fun e w'=>e= .returned (.bool (cB (rowOk f)))∧Below w.heap.size w w':=by
 have hLlt:=h.row.lt
 obtain ⟨Aw,cw,rfl,lw,mw,sw⟩:=h.fm.wires
 obtain ⟨Aa,ca,rfl,la,ma,sa⟩:=h.fm.acts
 obtain ⟨Ai,ci,rfl,li,mi,si⟩:=h.fm.ins
 have mw':cw≤9223372036854775807:=by unfold maxLen at mw;omega
 have ma':ca≤9223372036854775807:=by unfold maxLen at ma;omega
 have mi':ci≤9223372036854775807:=by unfold maxLen at mi;omega
 have mk:=make_bools f.wires.length (by omega) (by omega)
 have hB0:=hB
 have HN0:=Lib.hid (fun W (hW:Below w.heap.size w W)=>h.below hB0 hW)
 have HI:=Lib.hid hins
 have HA:=Lib.hid hacts
 have HWL:=Lib.hid hwl
 obtain ⟨q0,q1,q2,q3,q4,q5,q6,q7⟩:=h.row.eight.1
 clear h sw sa si hins hacts hB
 go_enter Tryz.func75,Tryz.ntmps75
 go_upto_region 2 with (fail)
 have b1:Below w.heap.size w (((w.alloc (.cells #[.pointer (some ⟨L,0,none⟩)] 107)).alloc (.cells (Array.replicate f.wires.length (.bool false)) 4)).alloc (.cells #[.slice (some ⟨w.heap.size+1,0,none⟩) f.wires.length f.wires.length] 48)):=bE
 have rL1:Row (((w.alloc (.cells #[.pointer (some ⟨L,0,none⟩)] 107)).alloc (.cells (Array.replicate f.wires.length (.bool false)) 4)).alloc (.cells #[.slice (some ⟨w.heap.size+1,0,none⟩) f.wires.length f.wires.length] 48)) w.heap.size #[.pointer (some ⟨L,0,none⟩)] 107:=((Row.new w _ _).alloc _).alloc _
 have rD1:Row (((w.alloc (.cells #[.pointer (some ⟨L,0,none⟩)] 107)).alloc (.cells (Array.replicate f.wires.length (.bool false)) 4)).alloc (.cells #[.slice (some ⟨w.heap.size+1,0,none⟩) f.wires.length f.wires.length] 48)) (w.heap.size+1) (bls (List.replicate f.wires.length false)).toArray 4:=by
  have:=(rowNew2 w (.cells #[.pointer (some ⟨L,0,none⟩)] 107) (Array.replicate f.wires.length (.bool false)) 4).alloc (.cells #[.slice (some ⟨w.heap.size+1,0,none⟩) f.wires.length f.wires.length] 48)
  simpa[bls] using this
 have rP1:Row (((w.alloc (.cells #[.pointer (some ⟨L,0,none⟩)] 107)).alloc (.cells (Array.replicate f.wires.length (.bool false)) 4)).alloc (.cells #[.slice (some ⟨w.heap.size+1,0,none⟩) f.wires.length f.wires.length] 48)) (w.heap.size+1+1) #[.slice (some ⟨w.heap.size+1,0,none⟩) f.wires.length f.wires.length] 48:=rowNew3 w _ _ _ _
 generalize ((w.alloc (.cells #[.pointer (some ⟨L,0,none⟩)] 107)).alloc (.cells (Array.replicate f.wires.length (.bool false)) 4)).alloc (.cells #[.slice (some ⟨w.heap.size+1,0,none⟩) f.wires.length f.wires.length] 48)=w1 at*
 generalize hD:w.heap.size+1=D at*
 generalize hP:D+1=P at*
 generalize hG:w.heap.size=G at*
 have hs1:=b1.size
 have hGD:G≠D:=by omega
 have hPD:P≠D:=by omega
 have hLD:L≠D:=by omega
 have hBD:B≤D:=by omega
 have hDlt:=rD1.lt
 have HN1:Hid (∀W,Upd (fun k=>k=D) w1 W→NkAt W B L f (.slice Aw f.wires.length cw) (.slice Aa f.acts.length ca) vc vk (.slice Ai f.ins.length ci) vo vb ve):=fun W hW=>((HN0.out w1 b1).updK hW (fun e=>hLD e.symm) hBD (by omega))
 have HP1:Hid (∀W,Upd (fun k=>k=D) w1 W→W.cell? ⟨G,0,none⟩=some (.pointer (some ⟨L,0,none⟩))∧W.cell? ⟨P,0,none⟩=some (.slice (some ⟨D,0,none⟩) f.wires.length f.wires.length)∧B≤W.heap.size):=fun W hW=>
  ⟨(hW.row rL1 hGD).cell 0,(hW.row rP1 hPD).cell 0,by have:=hW.size;omega⟩
 have HFIN:Hid (∀W,Upd (fun k=>k=D) w1 W→Below G w W):=fun W hW=>(b1.trans ((hW.below (B:=D) (fun k hk=>by omega) (by omega)).mono (by omega)))
 have HRD:=Lib.hid rD1
 clear rL1 rD1 rP1 b1 q0 q1 q2 q3 q4 q5 q6 q7 hs1 HN0 mk
 obtain ⟨x0,x1,x2⟩:=HP1.out _ (Upd.refl _ _)
 obtain ⟨q0,q1,q2,q3,q4,q5,q6,q7⟩:=(HN1.out _ (Upd.refl _ _)).row.eight.1
 go_wp2_with fail
 go_loopw[23] (fun i wr=>∃(k:Nat) (ds:List Bool),k≤f.ins.length∧i= .int .i64 k∧Hid (RowSt f ds∧∀j,j<k→∀n,f.ins[j]? =some n→bGet ds n=true)∧Row wr D (bls ds).toArray 4∧Upd (fun k=>k=D) w1 wr) (fun i _=>f.ins.length-(intOf i).toNat)
 case atStart=>exact ⟨0,List.replicate f.wires.length false,Nat.zero_le _,rfl,⟨row_start f,fun j hj=>absurd hj (by omega)⟩,HRD.out,Upd.refl _ _⟩
 case round=>
  clear x0 x1 x2 q0 q1 q2 q3 q4 q5 q6 q7
  obtain ⟨k,ds,hk,rfl,HS,rD,uD⟩:=hrel
  obtain ⟨x0,x1,x2⟩:=HP1.out _ uD
  have hN:=HN1.out _ uD
  have HDL:=Lib.hid HS.out.1.len
  by_cases hlt:k<f.ins.length
  ·obtain ⟨A',c',he,_,_,si⟩:=hN.fm.ins
   injection he with he1 he2 he3
   subst he1
   obtain ⟨b,off,n,rfl,hbb,hx,wx,d0⟩:=si.int hlt
   have hw:=HI.out n (List.mem_of_getElem? hx)
   have HX:=Lib.hid hx
   have HW:=Lib.hid hw
   obtain ⟨m,rfl⟩:=Int.eq_ofNat_of_zero_le hw.1
   have hm:m<f.wires.length:=by have:=hw.2;omega
   have hm':(m:Int)<f.wires.length:=by omega
   have fD:=rD.frozen m
   have cD:=ds_cell rD (n:=m) (by rw[HDL.out];exact hm)
   have rD6:=Lib.hid (ds_set (m:=m) rD true)
   have uD6:=Lib.hid (Upd.setCell (X:=fun k=>k=D) (p:=⟨D,m,none⟩) uD rfl (.bool true))
   have HS':Hid (RowSt f (ds.set m true)∧∀j,j<k+1→∀n,f.ins[j]? =some n→bGet (ds.set m true) n=true):=by
    have hml:(m:Int)<ds.length:=by rw[HDL.out];exact hm'
    refine ⟨row_in HS.out.1 (List.mem_of_getElem? HX.out) HW.out,upto_succ (fun j hj n hn=>bGet_keep (n:=(m:Int)) (by omega) hml (HS.out.2 j hj n hn)) (fun n hn=>?_)⟩
    rw[HX.out] at hn
    injection hn with hn
    rw[←hn]
    have:=bGet_set (ds:=ds) (n:=(m:Int)) (c:=m) (by omega) hml
    rw[if_pos rfl] at this
    exact this
   generalize bGet ds (m:Int)=V at cD
   clear he2 he3 hx hw hN si rD
   go_wp2_with fail
   go_roundw
   case rel=>exact ⟨k+1,ds.set m true,by omega,by go_num,HS'.out,rD6.out,uD6.out⟩
   case measure=>simp[intOf];omega
  obtain rfl:k=f.ins.length:=by omega
  have HIN:=Lib.hid (RowIn.mk HS.out.1 (all_upto HS.out.2))
  have HRr:=Lib.hid rD
  have HUr:=Lib.hid uD
  clear hN rD uD HS x0 x1 x2
  go_wp2_with fail
  obtain ⟨wo,rfl⟩:∃wo:World,wo=wr:=⟨_,rfl⟩
  go_loopg [7] (notYet ds+1) (fun q u wr=>∃(ds:List Bool) (bb:Bool),u= .bool bb∧notYet ds+(if bb=true then 1 else 0)≤q∧Hid (RowIn f ds)∧Hid (bb=false→∀x∈f.acts,¬readyB f ds x)∧Row wr D (bls ds).toArray 4∧Upd (fun k=>k=D) w1 wr)
  case atStart=>exact ⟨ds,true,rfl,by simp,HIN.out,(fun h=>by cases h),HRr.out,HUr.out⟩
  case round=>
   clear HIN HRr HUr HDL
   obtain ⟨ds,bb,rfl,hq,HIN,HNR,rD,uD⟩:=hrel
   clear hlt
   obtain ⟨x0,x1,x2⟩:=HP1.out _ uD
   have HDL:=Lib.hid HIN.out.st.len
   cases bb
   ·have HE:=Lib.hid (row_end HIN.out.st HIN.out.ins (HNR.out rfl))
    have HC:Hid (Calls Tryz.prog 60 #[.slice (some ⟨D,0,none⟩) f.wires.length f.wires.length,.bool false] wr fun e w'=>e= .returned (.bool (cB (¬∀b∈ds,b=true)))∧wr=w'):=by
     have:=contains_bool (l:=ds) rD (by rw[HDL.out];exact HWL.out)
     rw[HDL.out] at this
     exact this
    have HQ:Hid (cB (rowOk f)= !(cB (¬∀b∈ds,b=true))):=by
     show _=_
     rw[cB_congr HE.out]
     by_cases c:∀b∈ds,b=true
     ·rw[cB_true c,cB_false (fun g=>g c)];rfl
     ·rw[cB_false c,cB_true c];rfl
    generalize cB (¬∀b∈ds,b=true)=V at*
    clear rD hq
    go_wp2_with fail
    (with_reducible refine HC.out.mono ?_)
    rintro e w' ⟨rfl,rfl⟩
    go_wp2_with fail
    go_ret
    exact ⟨ret_bool HQ.out.symm,by rw[hG];exact HFIN.out _ uD⟩
   rw[if_pos rfl] at hq
   obtain ⟨q0,q1,q2,q3,q4,q5,q6,q7⟩:=(HN1.out _ uD).row.eight.1
   have HRr:=Lib.hid rD
   have HUr:=Lib.hid uD
   clear rD
   go_wp2_with fail
   clear x0 x1 x2 q0 q1 q2 q3 q4 q5 q6 q7
   go_loopw[7,39] (fun u i w3=>∃(j:Nat) (d2:List Bool) (b2:Bool),j≤f.acts.length∧u= .bool b2∧i= .int .i64 j∧Hid (RowIn f d2)∧Hid (b2=true→notYet d2<notYet ds)∧Hid (b2=false→d2=ds∧∀i,i<j→∀x,f.acts[i]? =some x→¬readyB f ds x)∧Row w3 D (bls d2).toArray 4∧Upd (fun k=>k=D) w1 w3) (fun _ i _=>f.acts.length-(intOf i).toNat)
   case atStart=>exact ⟨0,ds,false,Nat.zero_le _,rfl,rfl,HIN.out,(fun h=>by cases h),fun _=>⟨rfl,fun i hi=>absurd hi (by omega)⟩,HRr.out,HUr.out⟩
   case round=>
    clear HIN HRr HUr HDL uD
    obtain ⟨j,d2,b2,hj,rfl,rfl,HIN,HT,HF,rD,uD⟩:=hrel
    obtain ⟨x0,x1,x2⟩:=HP1.out _ uD
    have hN:=HN1.out _ uD
    have HDL:=Lib.hid HIN.out.st.len
    by_cases hlt:j<f.acts.length
    rotate_left 1
    ·obtain rfl:j=f.acts.length:=by omega
     have HM:Hid (notYet d2+(if b2=true then 1 else 0)<gk):=by
      show _<_
      cases b2
      ·rw[(HF.out rfl).1];simp;omega
      ·have:=HT.out rfl;simp;omega
     have HNR:Hid (b2=false→∀x∈f.acts,¬readyB f d2 x):=fun h=>by
      obtain ⟨e,g⟩:=HF.out h
      rw[e]
      exact all_upto g
     clear hq x0 x1 x2 hN
     go_wp2_with fail
     go_roundg (notYet d2+(if b2=true then 1 else 0))
     case measure=>exact HM.out
     case rel=>exact ⟨d2,b2,rfl,Nat.le_refl _,HIN.out,HNR.out,rD,uD⟩
    obtain ⟨A',c',he,_,_,sa⟩:=hN.fm.acts
    injection he with he1 he2 he3
    subst he1
    obtain ⟨b,off,⟨xo,xd,xa,xb,xc,xk⟩,hAa,hbb,hx,wx,d0,d1,d2',d3,d4,d5⟩:=sa.ac hlt
    subst hAa
    have HX:=Lib.hid hx
    have hact:=HA.out _ (List.mem_of_getElem? hx)
    have HAC:=Lib.hid hact
    obtain ⟨m,rfl⟩:=Int.eq_ofNat_of_zero_le (show 0≤xd from hact.2.1.1)
    have hm:m<f.wires.length:=by have:=hact.2.1.2;dsimp only at this;omega
    have hm':(m:Int)<f.wires.length:=by omega
    dsimp only at d0 d1 d2' d3 d4 d5
    have r9:=Row.new wr #[.int .i64 xo,.int .i64 (m:Int),.int .i64 xa,.int .i64 xb,.int .i64 xc,.int .i64 xk] 56
    have u4:Upd (fun k=>k=D) w1 (wr.alloc (.cells #[.int .i64 xo,.int .i64 (m:Int),.int .i64 xa,.int .i64 xb,.int .i64 xc,.int .i64 xk] 56)):=uD.alloc _
    have rD4:=rD.alloc (.cells #[.int .i64 xo,.int .i64 (m:Int),.int .i64 xa,.int .i64 xb,.int .i64 xc,.int .i64 xk] 56)
    clear he2 he3 hx hact hN sa rD
    go_upto_region 14 with (fail)
    generalize hg9:wr.heap.size=g9 at*
    generalize wr.alloc (.cells #[.int .i64 xo,.int .i64 (m:Int),.int .i64 xa,.int .i64 xb,.int .i64 xc,.int .i64 xk] 56)=w4 at*
    clear d0 d1 d2' d3 d4 d5 x0 x1 x2
    obtain ⟨x0,x1,x2⟩:=HP1.out _ u4
    have HR:=Lib.hid (nready_any (HN1.out _ u4) x2 ⟨xo,(m:Int),xa,xb,xc,xk⟩ wx HAC.out.1 HAC.out.2.1 HAC.out.2.2.1 HAC.out.2.2.2 P G D d2 x1 x0 rD4 HDL.out)
    obtain ⟨c0,c1,c2,c3,c4,c5⟩:=r9.six'
    have hDl4:=rD4.lt
    have hg9l:=r9.lt
    have hgD:g9≠D:=by have:=uD.size;omega
    clear wx hg9
    by_cases hr:readyB f d2 ⟨xo,(m:Int),xa,xb,xc,xk⟩
    rotate_left 1
    ·have HF':Hid (b2=false→d2=ds∧∀i,i<j+1→∀x,f.acts[i]? =some x→¬readyB f ds x):=fun h=>by
      obtain ⟨e,g⟩:=HF.out h
      refine ⟨e,upto_succ g (fun y hy=>?_)⟩
      rw[HX.out] at hy
      injection hy with hy
      rw[←hy,←e]
      exact hr
     rw[cB_false hr] at HR
     clear hr
     go_wp2_with fail
     (with_reducible refine HR.out.mono ?_)
     rintro e w5 ⟨rfl,hb5⟩
     have u5:=u4.trans (Upd.of_below hb5)
     have rD5:=rD4.below hb5 hDl4
     clear x0 x1 x2 c0 c1 c2 c3 c4 c5
     go_wp2_with fail
     go_roundw
     case rel=>exact ⟨j+1,d2,b2,by omega,rfl,by go_num,HIN.out,HT.out,HF'.out,rD5,u5⟩
     case measure=>simp[intOf];omega
    have hml:(m:Int)<d2.length:=by rw[HDL.out];exact hm'
    have HIN':Hid (RowIn f (d2.set m true)):=⟨row_step HIN.out.st (List.mem_of_getElem? HX.out) HAC.out.2.1 HAC.out.2.2.1 HAC.out.2.2.2 hr,fun n hn=>bGet_keep (n:=(m:Int)) (by omega) hml (HIN.out.ins n hn)⟩
    have HT':Hid (notYet (d2.set m true)<notYet ds):=by
     show _<_
     have h1:=notYet_set (ds:=d2) (n:=(m:Int)) (by omega) hml hr.2.2
     simp only[Int.toNat_natCast] at h1
     cases b2
     ·have:=(HF.out rfl).1
      rw[this] at h1⊢
      exact h1
     ·have:=HT.out rfl
      omega
    rw[cB_true hr] at HR
    clear hr
    go_wp2_with fail
    (with_reducible refine HR.out.mono ?_)
    rintro e w5 ⟨rfl,hb5⟩
    have u5:=u4.trans (Upd.of_below hb5)
    have rD5:=rD4.below hb5 hDl4
    clear x0 x1 x2 c0 c1 c2 c3 c4 c5
    obtain ⟨c0,c1,c2,c3,c4,c5⟩:=(r9.below hb5 hg9l).six'
    obtain ⟨x0,x1,x2⟩:=HP1.out _ u5
    have fD:=rD5.frozen m
    have cD:=ds_cell rD5 (n:=m) (by rw[HDL.out];exact hm)
    have rD6:=Lib.hid (ds_set (m:=m) rD5 true)
    have uD6:=Lib.hid (Upd.setCell (X:=fun k=>k=D) (p:=⟨D,m,none⟩) u5 rfl (.bool true))
    generalize bGet d2 (m:Int)=V at cD
    go_wp2_with fail
    go_roundw
    case rel=>exact ⟨j+1,d2.set m true,true,by omega,rfl,by go_num,HIN'.out,(fun _=>HT'.out),(fun h=>by cases h),rD6.out,uD6.out⟩
    case measure=>simp[intOf];omega
end Go.Proofs.YtbjaejgechadpaaGreat
