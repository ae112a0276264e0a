/-
  norm's looker: defined. flat's looker: defined.
-/
import Derived.Test.YtckognjamlckcaaGreatDoorZz
import Derived.Test.YtckognjamlckcaaGreatDoorNormG
import Derived.Test.YtckognjamlckcaaGreatDoorFltV
set_option maxHeartbeats 8000000
set_option maxRecDepth 100000
namespace Go.Proofs.YtckognjamlckcaaGreatDoor
open Go.RowKit Vf Fo
attribute [local go_sem ↓] Go.wp_at_zero Go.wp_at_succ
def DefIs (w:World) (B L:Nat) (f:Fm) (vw va vc vk vi vo ve:Value) (e:Ending) (w':World):Prop:=∃(r:Bool) (vb:Value),e= .returned (.bool r)∧(r=true↔definedOk f)∧NkAt w' B L f vw va vc vk vi vo vb ve∧Upd (fun k=>k=L) w w'
theorem DefIs.no {w w':World} {B L:Nat} {f:Fm} {vw va vc vk vi vo vb ve:Value} {e:Ending} (he:e= .returned (.bool false)) (hn:¬definedOk f) (h:NkAt w' B L f vw va vc vk vi vo vb ve) (u:Upd (fun k=>k=L) w w'):DefIs w B L f vw va vc vk vi vo ve e w':=
 ⟨false,vb,he,⟨fun g=>by simp at g,fun g=>absurd g hn⟩,h,u⟩
theorem split_at {α:Type} {l:List α} {k:Nat} {x:α} (h:l[k]? =some x):l=l.take k++x::l.drop (k+1):=by
 obtain ⟨hk,rfl⟩:=List.getElem?_eq_some_iff.1 h
 rw[List.getElem_cons_drop hk,List.take_append_drop]
theorem def_no_in {f:Fm} {bs:List Int} {k:Nat} {n:Int} (h:DefSt f (f.ins.take k) bs) (hk:f.ins[k]? =some n) (hn:isW f n) (hf:getI bs n≠-1):¬definedOk f:=by
 refine def_no (r:=f.ins.drop (k+1)++f.acts.map (·.dst)) h hn ?_ hf
 have:=split_at hk
 unfold dsts
 conv=>lhs;rw[this]
 simp
theorem def_no_act {f:Fm} {bs:List Int} {k:Nat} {x:Ac} (h:DefSt f (dsts f (f.acts.take k)) bs) (hk:f.acts[k]? =some x) (hn:isW f x.dst) (hf:getI bs x.dst≠-1):¬definedOk f:=by
 refine def_no (r:=(f.acts.drop (k+1)).map (·.dst)) h hn ?_ hf
 have:=split_at hk
 unfold dsts
 conv=>lhs;rw[this]
 simp
theorem def_no_w {f:Fm} {k:Nat} {x:Ac} (hk:f.acts[k]? =some x) (hn:¬isW f x.dst):¬definedOk f:=fun g=>hn (g.2.1 x (List.mem_of_getElem? hk)).1
theorem dsts_snoc {f:Fm} {k:Nat} {x:Ac} (hk:f.acts[k]? =some x):dsts f (f.acts.take (k+1))=dsts f (f.acts.take k)++ [x.dst]:=by
 unfold dsts
 rw[take_snoc' hk]
 simp
theorem dsts_zero (f:Fm):dsts f (f.acts.take 0)=f.ins:=by simp[dsts]
theorem ndefined_any {w:World} {B L:Nat} {f:Fm} {vw va vc vk vi vo vb ve:Value} (h:NkAt w B L f vw va vc vk vi vo vb ve) (hBL:B≤L) (hwl:f.wires.length≤1600) (hins:∀n∈f.ins,isW f n):
  Calls Tryz.prog 27 #[.pointer (some ⟨L,0,none⟩)] w (DefIs w B L f vw va vc vk vi vo ve):=by
 have hLlt:=h.row.lt
 obtain ⟨⟨q0,q1,q2,q3,q4,q5,q6,q7⟩,lf,_⟩:=h.row.eight
 obtain ⟨Aw,cw,rfl,lw,mw,sw⟩:=h.fm.wires
 obtain ⟨Aa,ca,rfl,la,ma,sa⟩:=h.fm.acts
 obtain ⟨Ai,ci,rfl,li,mi,si⟩:=h.fm.ins
 refine' zq157
 clear h sw sa si q1 q2 q3 q4 q5 q7 hins
 go_enter Tryz.func27,Tryz.ntmps27
 refine' zq292
 have rL:=HH.out.row.below hb hLlt
 obtain ⟨⟨p0,p1,p2,p3,p4,p5,p6,p7⟩,pf,_⟩:=rL.eight
 have hKL:K≠L:=by simp at hK;omega
 have hwK:w.heap.size≤K:=by simp at hK;omega
 have rL2:=rL.set 6 (.slice (some ⟨K,0,none⟩) f.wires.length f.wires.length)
 have rK2:=rK.far (p:=⟨L,6,none⟩) hKL (.slice (some ⟨K,0,none⟩) f.wires.length f.wires.length)
 have u2:Upd (fun k=>k=L) w (w1.setCell ⟨L,6,none⟩ (.slice (some ⟨K,0,none⟩) f.wires.length f.wires.length)):=Upd.setCell (X:=fun k=>k=L) (Upd.of_below hb) rfl _
 have hN2:NkAt (w1.setCell ⟨L,6,none⟩ (.slice (some ⟨K,0,none⟩) f.wires.length f.wires.length)) B L f (.slice Aw f.wires.length cw) (.slice Aa f.acts.length ca) vc vk (.slice Ai f.ins.length ci) vo (.slice (some ⟨K,0,none⟩) f.wires.length f.wires.length) ve:=
  ⟨by simpa using rL2,HH.out.fm.upd (fun k hk e=>by omega) (by omega) u2⟩
 clear hb1 b0 q0 q6 lf HR p1 p2 p3 p4 p5 p7
 go_upto_region 2 with (fail)
 clear p0 p6 pf rL rL2 rK hb
 generalize w1.setCell ⟨L,6,none⟩ (.slice (some ⟨K,0,none⟩) f.wires.length f.wires.length)=w2 at*
 have hB2:B≤w2.heap.size:=by have:=hN2.row.lt;omega
 obtain ⟨⟨p0,p1,p2,p3,p4,p5,p6,p7⟩,_,_⟩:=hN2.row.eight
 clear p0 p1 p2 p3 p5 p7
 have HN2:=Lib.hid hN2
 have HU2:=Lib.hid u2
 have HRK:=Lib.hid rK2
 clear hN2 u2 rK2 hK
 go_wp2_with fail
 go_loopw[24] (fun i wr=>∃(k:Nat) (bs:List Int),k≤f.ins.length∧i= .int .i64 k∧Hid (DefSt f (f.ins.take k) bs)∧Row wr K (ints bs).toArray 3∧Upd (fun k=>k=K) w2 wr) (fun i _=>f.ins.length-(intOf i).toNat)
 case atStart=>exact ⟨0,List.replicate f.wires.length (-1),Nat.zero_le _,rfl,by rw[List.take_zero];exact def_start f,by rw[ints,List.map_replicate];exact HRK.out,Upd.refl _ _⟩
 case round=>
  clear p4 p6
  obtain ⟨k,bs,hk,rfl,HD,rK,uK⟩:=hrel
  have hN:=HN2.out.updK uK hKL (by omega) hB2
  have hBr:B≤wr.heap.size:=Nat.le_trans hB2 uK.size
  have HUw:=Lib.hid (HU2.out.trans_new uK (fun i hi e=>by omega))
  have HNw:=Lib.hid hN
  obtain ⟨⟨p0,p1,p2,p3,p4,p5,p6,p7⟩,_,_⟩:=hN.row.eight
  clear p0 p2 p3 p4 p5 p7
  have HBL:=Lib.hid HD.out.len
  by_cases hlt:k<f.ins.length
  ·obtain ⟨A',c',he,_,_,si⟩:=hN.fm.ins
   refine' zq217
   refine' zq146
   have cK:=ks_cell rK (m:=m) (by rw[HBL.out];exact hm)
   have fK:=rK.frozen m
   have HVV:=Lib.hid (rfl:getI bs m=getI bs m)
   refine' zq323
   have rK6:=Lib.hid (ks_set (m:=m) rK (-2))
   have uK6:=Lib.hid (Upd.setCell (X:=fun k=>k=K) (p:=⟨K,m,none⟩) uK rfl (.int .i64 (-2)))
   clear he2 he3 hx hw hN si p1 HVV
   generalize getI bs (m:Int)=V at*
   by_cases hV:V= -1
   ·have e1:(V != -1)=false:=by simp[hV]
    have HY:=Lib.hid (HYES.out hV)
    clear hV rK
    go_wp2_with fail
    go_roundw
    case rel=>exact ⟨k+1,bs.set m (-2),by omega,by go_num,by rw[HTS.out];exact HY.out,rK6.out,uK6.out⟩
    case measure=>simp[intOf];omega
   ·have e1:(V != -1)=true:=by simp[hV]
    have HF:=Lib.hid (HNO.out hV)
    clear hV rK
    go_wp2_with fail
    go_ret
    exact DefIs.no rfl HF.out HNw.out HUw.out
  obtain rfl:k=f.ins.length:=by omega
  have HDa:Hid (DefSt f (dsts f (f.acts.take 0)) bs):=by
   have:=HD.out
   rw[List.take_length] at this
   rw[dsts_zero]
   exact this
  have HRKr:=Lib.hid rK
  clear hN p6 rK uK
  go_wp2_with fail
  refine' zq177
  go_loopw[49] (fun i w3=>∃(j:Nat) (bs:List Int),j≤f.acts.length∧i= .int .i64 j∧Hid (DefSt f (dsts f (f.acts.take j)) bs)∧Hid (∀i,i<j→∀x,f.acts[i]? =some x→isW f x.dst)∧Row w3 K (ints bs).toArray 3∧Upd (fun k=>k=K) wo w3) (fun i _=>f.acts.length-(intOf i).toNat)
  case atStart=>exact ⟨0,bs,Nat.zero_le _,rfl,HDa.out,fun i hi=>absurd hi (by omega),HRKr.out,Upd.refl _ _⟩
  case round=>
   clear p1 HDa HRKr HBL HD bs
   obtain ⟨j,bs,hj,rfl,HD,HWS,rK,uK⟩:=hrel
   have hN:=HNw.out.updK uK hKL (by omega) hBr
   have hBw:B≤wr.heap.size:=Nat.le_trans hBr uK.size
   have HUr:=Lib.hid (HUw.out.trans_new uK (fun i hi e=>by omega))
   obtain ⟨⟨p0,p1,p2,p3,p4,p5,p6,p7⟩,_,_⟩:=hN.row.eight
   clear p0 p1 p2 p3 p4 p5 p7
   have HBL:=Lib.hid HD.out.len
   by_cases hlt:j<f.acts.length
   rotate_left 1
   ·obtain rfl:j=f.acts.length:=by omega
    have HE:Hid (definedOk f↔¬(-1:Int)∈bs):=def_end (by have:=HD.out;rw[List.take_length] at this;exact this) HWS.out
    refine' zq187
    have HQ:Hid (cB ((-1:Int)∈bs)=false↔definedOk f):=by
     show _↔_
     rw[cB_not,HE.out]
    clear hN rK
    generalize cB ((-1:Int)∈bs)=bb at*
    go_wp2_with fail
    refine HC.out.mono ?_
    refine' zq185
    exact ⟨!bb,_,rfl,by rw[←HQ.out];cases bb<;>simp,HNr.out,HUr.out⟩
   obtain ⟨A',c',he,_,_,sa⟩:=hN.fm.acts
   injection he with he1 he2 he3
   subst he1
   obtain ⟨b,off,⟨xo,xd,xa,xb,xc,xk⟩,hAa,hbb,hx,wx,d0,d1,d2,d3,d4,d5⟩:=sa.ac hlt
   subst hAa
   have HX:=Lib.hid hx
   have wxd:Wf xd:=wx.dst
   refine' zq305
   have r6:=Row.new wr #[.int .i64 xo,.int .i64 xd,.int .i64 xa,.int .i64 xb,.int .i64 xc,.int .i64 xk] 58
   have hN4:=hN.below hBw ba
   have u4:=HUr.out.trans_new (Upd.of_below ba) (fun i hi e=>e)
   have rK4:=rK.below ba rK.lt
   have uK4:Upd (fun k=>k=K) wo (wr.alloc (.cells #[.int .i64 xo,.int .i64 xd,.int .i64 xa,.int .i64 xb,.int .i64 xc,.int .i64 xk] 58)):=uK.alloc _
   have hB4:B≤(wr.alloc (.cells #[.int .i64 xo,.int .i64 xd,.int .i64 xa,.int .i64 xb,.int .i64 xc,.int .i64 xk] 58)).heap.size:=Nat.le_trans hBw ba.size
   clear he2 he3 hx hN sa p6
   go_upto_region 12 with (fail)
   generalize hg6:wr.heap.size=g6 at*
   generalize wr.alloc (.cells #[.int .i64 xo,.int .i64 xd,.int .i64 xa,.int .i64 xb,.int .i64 xc,.int .i64 xk] 58)=w4 at*
   clear d0 d1 d2 d3 d4 d5 ba hg6 wx
   have HNn:Hid (∀W,Below w4.heap.size w4 W→NkAt W B L f (.slice Aw f.wires.length cw) (.slice (some ⟨b,off,none⟩) f.acts.length ca) vc vk (.slice Ai f.ins.length ci) vo (.slice (some ⟨K,0,none⟩) f.wires.length f.wires.length) ve∧Upd (fun k=>k=L) w W):=fun W hW=>⟨hN4.below hB4 hW,u4.trans (Upd.of_below hW)⟩
   have HS:Hid (∀W,Below w4.heap.size w4 W→W.cell? ⟨L,6,none⟩=some (.slice (some ⟨K,0,none⟩) f.wires.length f.wires.length)∧W.cell? ⟨g6,1,none⟩=some (.int .i64 xd)):=fun W hW=>
    ⟨(HNn.out W hW).1.row.eight.1.2.2.2.2.2.2.1,(r6.below hW r6.lt).six'.2.1⟩
   have HI4:Hid (∀W V,Below w4.heap.size w4 W→cB (isW f xd)=V→Calls Tryz.prog 58 #[.pointer (some ⟨L,0,none⟩),.slice (some ⟨W.heap.size,0,none⟩) 1 1] (W.alloc (.cells #[.int .i64 xd] 3)) fun e w'=>e= .returned (.bool V)∧W.alloc (.cells #[.int .i64 xd] 3)=w'):=fun W V hW hV=>is_one wxd (HNn.out _ (hW.alloc hW.size _)).1 hV
   have hg6l:g6<w4.heap.size:=r6.lt
   have hKl:K<w4.heap.size:=rK4.lt
   by_cases hw:isW f xd
   rotate_left 1
   ·have HF:=Lib.hid (def_no_w (f:=f) HX.out hw)
    have hV:=Lib.hid (cB_false hw)
    clear hw
    refine wp_region_held_drew (S:=fun W=>W.cell? ⟨L,6,none⟩=some (.slice (some ⟨K,0,none⟩) f.wires.length f.wires.length)∧W.cell? ⟨g6,1,none⟩=some (.int .i64 xd)) (by kernel_rfl) ?_ (fun hHeld=>?_)
    ·refine' zq15
    refine' zq171
    refine' zq239
    refine' zq331
    refine' zq11
    refine tk 5 (some 59) rfl ?_
    refine tk 6 (some 60) rfl ?_
    refine' zq262
    refine sk 15 (some 69) rfl ?_
    refine tk 16 (some 70) rfl ?_
    refine' zq25
    go_ret
    exact DefIs.no rfl HF.out (HNn.out _ bE).1 (HNn.out _ bE).2
   have hV:=Lib.hid (cB_true hw)
   refine' zq146
   refine' zq274
   have HS5:Hid (∀W,Below w4.heap.size w4 W→W.cell? ⟨L,6,none⟩=some (.slice (some ⟨K,0,none⟩) f.wires.length f.wires.length)∧W.cell? ⟨g6,1,none⟩=some (.int .i64 (m:Int))∧W.cell? ⟨K,m,none⟩=some (.int .i64 (getI bs m))):=fun W hW=>by
    obtain ⟨a1,a2⟩:=HS.out W hW
    exact ⟨a1,a2,ks_cell (rK4.below hW rK4.lt) hmb⟩
   have HWS':=Lib.hid (upto_succ HWS.out (fun y hy=>by rw[HX.out] at hy;injection hy with hy;rw[←hy];exact HW.out))
   clear hw HS
   generalize getI bs (m:Int)=V at*
   by_cases h3:V= -1
   rotate_left 1
   ·have HF:=Lib.hid (HNO.out h3)
    have e3:(V != -1)=true:=by simp[h3]
    refine' zq55
    refine' zq25
    go_ret
    exact DefIs.no rfl HF.out (HNn.out _ bE).1 (HNn.out _ bE).2
   have HY:=Lib.hid (HYES.out h3)
   have e3:(V != -1)=false:=by simp[h3]
   refine' zq55
   refine wpAnyH_done (by kernel_rfl) ?_ _
   go_upto_region 14 with (fail)
   have b5:Below w4.heap.size w4 ((w4.alloc (.cells #[.int .i64 (m:Int)] 3)).drew):=bE
   have rK5:=rK4.below b5 rK4.lt
   have uK5:=uK4.trans (Upd.of_below b5)
   obtain ⟨a1,a2,a3⟩:=HS5.out _ b5
   generalize (w4.alloc (.cells #[.int .i64 (m:Int)] 3)).drew=w5 at*
   refine' zq311
   go_roundw
   case rel=>exact ⟨j+1,bs.set m (j:Int),by omega,by go_num,by rw[HTS.out];exact HY.out,HWS'.out,rK6.out.drew,uK6.out.drew⟩
   case measure=>simp[intOf];omega
end Go.Proofs.YtckognjamlckcaaGreatDoor
namespace Go.Proofs.YtckognjamlckcaaGreatDoor.Fo
open Vf
def ByP (f:Fl) (m:Nat) (v:Int):Prop:=v= -1∨(v= -2∧(m:Int)∈f.ins)∨∃(j:Nat) (d:Int × Ex),v=j∧f.defs[j]? =some d∧d.1=m
def ByS (f:Fl) (bs:List Int):Prop:=∀m v,bs[m]? =some v→ByP f m v
section
variable {f:Fl} {bs:List Int}
theorem by_start (f:Fl):ByS f (List.replicate f.wires.length (-1)):=fun m v h=> .inl (by rw[List.getElem?_replicate] at h;split at h<;>simp at h;exact h.symm)
theorem by_set (h:ByS f bs) {m:Nat} {v:Int} (hv:ByP f m v):ByS f (bs.set m v):=fun i u hu=>by
 rw[List.getElem?_set] at hu
 split at hu
 ·rename_i e
  subst e
  split at hu
  ·injection hu with hu
   rw[←hu];exact hv
  ·cases hu
 ·exact h i u hu
theorem acts_at {j:Nat} {d:Int × Ex} (h:f.defs[j]? =some d):f.fm.acts[j]? =some ⟨0,d.1,0,0,0,0⟩:=by
 show (f.defs.map _)[j]? =_
 rw[List.getElem?_map,h]
 rfl
theorem acts_len:f.fm.acts.length=f.defs.length:=List.length_map _
end
end Go.Proofs.YtckognjamlckcaaGreatDoor.Fo
namespace Go.Proofs.YtckognjamlckcaaGreatDoor
open Go.RowKit Vf Fo
attribute [local go_sem ↓] Go.wp_at_zero Go.wp_at_succ
theorem FkAt.updK {w w':World} {B D:Nat} {f:Fl} {vw vd vi vo vb:Value} (h:FkAt w B D f vw vd vi vo vb) {K:Nat} (u:Upd (fun k=>k=K) w w') (hK:K≠D) (hBK:B≤K):FkAt w' B D f vw vd vi vo vb:=
 ⟨u.row h.row (fun e=>hK e.symm),h.fl.below (u.below (fun k hk=>by omega) (by have:=h.row.lt;have:=h.lo;omega)),h.lo⟩
theorem FkAt.five {w:World} {B D:Nat} {f:Fl} {vw vd vi vo vb:Value} (h:FkAt w B D f vw vd vi vo vb):(w.cell? ⟨D,0,none⟩=some vw∧w.cell? ⟨D,1,none⟩=some vd∧w.cell? ⟨D,2,none⟩=some vi∧w.cell? ⟨D,3,none⟩=some vo∧w.cell? ⟨D,4,none⟩=some vb):=
 ⟨h.row.cell 0,h.row.cell 1,h.row.cell 2,h.row.cell 3,h.row.cell 4⟩
def FDefIs (w:World) (B D:Nat) (f:Fl) (vw vd vi vo:Value) (e:Ending) (w':World):Prop:=∃(r:Bool) (vb:Value),e= .returned (.bool r)∧(r=true↔definedOk f.fm)∧FkAt w' B D f vw vd vi vo vb∧Upd (fun k=>k=D) w w'∧
 (r=true→∃K bs,vb= .slice (some ⟨K,0,none⟩) f.wires.length f.wires.length∧w.heap.size≤K∧bs.length=f.wires.length∧Row w' K (ints bs).toArray 3∧ByS f bs∧(-1:Int)∉bs)
theorem FDefIs.no {w w':World} {B D:Nat} {f:Fl} {vw vd vi vo vb:Value} {e:Ending} (he:e= .returned (.bool false)) (hn:¬definedOk f.fm) (h:FkAt w' B D f vw vd vi vo vb) (u:Upd (fun k=>k=D) w w'):FDefIs w B D f vw vd vi vo e w':=
 ⟨false,vb,he,⟨fun g=>by simp at g,fun g=>absurd g hn⟩,h,u,fun g=>by cases g⟩
theorem fdefined_any {w:World} {B D:Nat} {f:Fl} {vw vd vi vo vb:Value} (h:FkAt w B D f vw vd vi vo vb) (hwl:f.wires.length≤1600) (hins:∀n∈f.ins,isW f.fm n):
  Calls Tryz.prog 77 #[.pointer (some ⟨D,0,none⟩)] w (FDefIs w B D f vw vd vi vo):=by
 have hBD:=h.lo
 have hDlt:=h.row.lt
 obtain ⟨q0,q1,q2,q3,q4⟩:=h.five
 have qf:=h.row.frozen 4
 obtain ⟨Aw,cw,rfl,lw,mw,sw⟩:=h.fl.wires
 obtain ⟨Aa,ca,rfl,la,ma,sa⟩:=h.fl.defs
 obtain ⟨Ai,ci,rfl,li,mi,si⟩:=h.fl.ins
 refine' zq157
 clear h sw sa si q1 q2 q3 hins
 go_enter Tryz.func77,Tryz.ntmps77
 refine' zq292
 have rL:=HH.out.row.below hb hDlt
 have pf:=rL.frozen 4
 have p4:=rL.cell 4
 have p0:=rL.cell 0
 simp only[List.getElem?_toArray,List.getElem?_cons_zero,List.getElem?_cons_succ] at p4 p0
 have hKD:K≠D:=by simp at hK;omega
 have hwK:w.heap.size≤K:=by simp at hK;omega
 have rL2:=rL.set 4 (.slice (some ⟨K,0,none⟩) f.wires.length f.wires.length)
 have rK2:=rK.far (p:=⟨D,4,none⟩) hKD (.slice (some ⟨K,0,none⟩) f.wires.length f.wires.length)
 have u2:Upd (fun k=>k=D) w (w1.setCell ⟨D,4,none⟩ (.slice (some ⟨K,0,none⟩) f.wires.length f.wires.length)):=Upd.setCell (X:=fun k=>k=D) (Upd.of_below hb) rfl _
 have hN2:FkAt (w1.setCell ⟨D,4,none⟩ (.slice (some ⟨K,0,none⟩) f.wires.length f.wires.length)) B D f (.slice Aw f.wires.length cw) (.slice Aa f.defs.length ca) (.slice Ai f.ins.length ci) vo (.slice (some ⟨K,0,none⟩) f.wires.length f.wires.length):=
  ⟨by simpa using rL2,HH.out.fl.below (u2.below (fun k hk=>by omega) (by omega)),hBD⟩
 clear hb1 b0 q0 q4 qf HR
 go_upto_region 2 with (fail)
 clear p0 p4 pf rL rL2 rK hb
 generalize w1.setCell ⟨D,4,none⟩ (.slice (some ⟨K,0,none⟩) f.wires.length f.wires.length)=w2 at*
 have hB2:B≤w2.heap.size:=by have:=hN2.row.lt;omega
 obtain ⟨p0,p1,p2,p3,p4⟩:=hN2.five
 have HN2:=Lib.hid hN2
 have HU2:=Lib.hid u2
 have HRK:=Lib.hid rK2
 clear hN2 u2 rK2 hK p0 p1 p3
 go_wp2_with fail
 go_loopw[24] (fun i wr=>∃(k:Nat) (bs:List Int),k≤f.ins.length∧i= .int .i64 k∧Hid (DefSt f.fm (f.ins.take k) bs)∧Hid (ByS f bs)∧Row wr K (ints bs).toArray 3∧Upd (fun k=>k=K) w2 wr) (fun i _=>f.ins.length-(intOf i).toNat)
 case atStart=>exact ⟨0,List.replicate f.wires.length (-1),Nat.zero_le _,rfl,by rw[List.take_zero];exact def_start f.fm,by_start f,by rw[ints,List.map_replicate];exact HRK.out,Upd.refl _ _⟩
 case round=>
  clear p2 p4
  obtain ⟨k,bs,hk,rfl,HD,HY0,rK,uK⟩:=hrel
  have hN:=HN2.out.updK uK hKD (by omega)
  have hBr:B≤wr.heap.size:=Nat.le_trans hB2 uK.size
  have HUw:=Lib.hid (HU2.out.trans_new uK (fun i hi e=>by omega))
  have HNw:=Lib.hid hN
  obtain ⟨p0,p1,p2,p3,p4⟩:=hN.five
  clear p0 p2 p3
  have HBL:Hid (bs.length=f.wires.length):=HD.out.len
  by_cases hlt:k<f.ins.length
  ·obtain ⟨A',c',he,_,_,si⟩:=hN.fl.ins
   refine' zq217
   refine' zq316
   have cK:=ks_cell rK (m:=m) (by rw[HBL.out];exact hm)
   have fK:=rK.frozen m
   refine' zq323
   have HBY:Hid (ByS f (bs.set m (-2))):=by_set HY0.out (.inr (.inl ⟨rfl,List.mem_of_getElem? HX.out⟩))
   have rK6:=Lib.hid (ks_set (m:=m) rK (-2))
   have uK6:=Lib.hid (Upd.setCell (X:=fun k=>k=K) (p:=⟨K,m,none⟩) uK rfl (.int .i64 (-2)))
   clear he2 he3 hx hw hN si p1
   generalize getI bs (m:Int)=V at*
   by_cases hV:V= -1
   ·have e1:(V != -1)=false:=by simp[hV]
    have HY:=Lib.hid (HYES.out hV)
    clear hV rK
    go_wp2_with fail
    go_roundw
    case rel=>exact ⟨k+1,bs.set m (-2),by omega,by go_num,by rw[HTS.out];exact HY.out,HBY.out,rK6.out,uK6.out⟩
    case measure=>simp[intOf];omega
   ·have e1:(V != -1)=true:=by simp[hV]
    have HF:=Lib.hid (HNO.out hV)
    clear hV rK
    go_wp2_with fail
    go_ret
    exact FDefIs.no rfl HF.out HNw.out HUw.out
  obtain rfl:k=f.ins.length:=by omega
  have HDa:Hid (DefSt f.fm (dsts f.fm (f.fm.acts.take 0)) bs):=by
   have:=HD.out
   rw[List.take_length] at this
   rw[dsts_zero]
   exact this
  have HRKr:=Lib.hid rK
  clear hN rK uK
  go_wp2_with fail
  refine' zq177
  go_loopw[49] (fun i w3=>∃(j:Nat) (bs:List Int),j≤f.defs.length∧i= .int .i64 j∧Hid (DefSt f.fm (dsts f.fm (f.fm.acts.take j)) bs)∧Hid (ByS f bs)∧Hid (∀i,i<j→∀x,f.fm.acts[i]? =some x→isW f.fm x.dst)∧Row w3 K (ints bs).toArray 3∧Upd (fun k=>k=K) wo w3) (fun i _=>f.defs.length-(intOf i).toNat)
  case atStart=>exact ⟨0,bs,Nat.zero_le _,rfl,HDa.out,HY0.out,fun i hi=>absurd hi (by omega),HRKr.out,Upd.refl _ _⟩
  case round=>
   clear p1 p4 HDa HRKr HBL HD HY0 bs
   obtain ⟨j,bs,hj,rfl,HD,HY0,HWS,rK,uK⟩:=hrel
   have hN:=HNw.out.updK uK hKD (by omega)
   have hBw:B≤wr.heap.size:=Nat.le_trans hBr uK.size
   have HUr:=Lib.hid (HUw.out.trans_new uK (fun i hi e=>by omega))
   obtain ⟨p0,p1,p2,p3,p4⟩:=hN.five
   clear p0 p1 p2 p3
   have HBL:Hid (bs.length=f.wires.length):=HD.out.len
   by_cases hlt:j<f.defs.length
   rotate_left 1
   ·obtain rfl:j=f.defs.length:=by omega
    have HE:Hid (definedOk f.fm↔¬(-1:Int)∈bs):=def_end (by have:=HD.out;rw[←acts_len (f:=f),List.take_length] at this;exact this) (by rw[acts_len];exact HWS.out)
    refine' zq187
    have HQ:Hid (cB ((-1:Int)∈bs)=false↔definedOk f.fm):=by
     show _↔_
     rw[cB_not,HE.out]
    have HRR:=Lib.hid rK
    clear hN rK
    generalize cB ((-1:Int)∈bs)=bb at*
    go_wp2_with fail
    refine HC.out.mono ?_
    refine' zq185
    exact ⟨!bb,_,rfl,by rw[←HQ.out];cases bb<;>simp,HNr.out,HUr.out,fun g=>⟨K,bs,rfl,hwK,HBL.out,HRR.out,HY0.out,HE.out.1 (HQ.out.1 (by simpa using g))⟩⟩
   obtain ⟨A',c',he,_,_,sa⟩:=hN.fl.defs
   injection he with he1 he2 he3
   subst he1
   obtain ⟨b,off,⟨xd,xe⟩,Ag,cg,hAa,hbb,hx,wxd,hok,lg,mg,hxs,d0,d1,d2,d3,d4,d5,d6⟩:=sa.df hlt
   subst hAa
   have HX:=Lib.hid (acts_at hx)
   have HXD:=Lib.hid hx
   dsimp only at d0 d1 d2 d3 d4 d5 d6 wxd HX
   have ba:Below wr.heap.size wr (wr.alloc (.cells #[.int .i64 xd,.int .i64 xe.op,.string xe.name,.int .i64 xe.n,.slice Ag xe.args.length cg,.int .i64 xe.line,.int .i64 xe.col] 77)):=(Below.refl wr.heap.size wr).alloc (Nat.le_refl _) _
   have r6:=Row.new wr #[.int .i64 xd,.int .i64 xe.op,.string xe.name,.int .i64 xe.n,.slice Ag xe.args.length cg,.int .i64 xe.line,.int .i64 xe.col] 77
   have hN4:=hN.below ba
   have u4:=HUr.out.trans_new (Upd.of_below ba) (fun i hi e=>e)
   have rK4:=rK.below ba rK.lt
   have uK4:Upd (fun k=>k=K) wo (wr.alloc (.cells #[.int .i64 xd,.int .i64 xe.op,.string xe.name,.int .i64 xe.n,.slice Ag xe.args.length cg,.int .i64 xe.line,.int .i64 xe.col] 77)):=uK.alloc _
   clear he2 he3 hx hN sa p4 hxs hok
   go_upto_region 12 with (fail)
   generalize hg6:wr.heap.size=g6 at*
   generalize wr.alloc (.cells #[.int .i64 xd,.int .i64 xe.op,.string xe.name,.int .i64 xe.n,.slice Ag xe.args.length cg,.int .i64 xe.line,.int .i64 xe.col] 77)=w4 at*
   clear d0 d1 d2 d3 d4 d5 d6 ba hg6
   have HNn:Hid (∀W,Below w4.heap.size w4 W→FkAt W B D f (.slice Aw f.wires.length cw) (.slice (some ⟨b,off,none⟩) f.defs.length ca) (.slice Ai f.ins.length ci) vo (.slice (some ⟨K,0,none⟩) f.wires.length f.wires.length)∧Upd (fun k=>k=D) w W):=fun W hW=>⟨hN4.below hW,u4.trans (Upd.of_below hW)⟩
   have HS:Hid (∀W,Below w4.heap.size w4 W→W.cell? ⟨D,4,none⟩=some (.slice (some ⟨K,0,none⟩) f.wires.length f.wires.length)∧W.cell? ⟨g6,0,none⟩=some (.int .i64 xd)):=fun W hW=>
    ⟨(HNn.out W hW).1.five.2.2.2.2,(r6.below hW r6.lt).cell 0⟩
   have HI4:Hid (∀W V,Below w4.heap.size w4 W→cB (isW f.fm xd)=V→Calls Tryz.prog 96 #[.pointer (some ⟨D,0,none⟩),.int .i64 xd] W fun e w'=>e= .returned (.bool V)∧W=w'):=fun W V hW hV=>by
    have:=fis_any (HNn.out _ hW).1 xd
    rw[hV] at this
    exact this
   have hg6l:g6<w4.heap.size:=r6.lt
   have hKl:K<w4.heap.size:=rK4.lt
   by_cases hw:isW f.fm xd
   rotate_left 1
   ·have HF:=Lib.hid (def_no_w (f:=f.fm) HX.out hw)
    have hV:=Lib.hid (cB_false hw)
    clear hw
    refine wp_region_held_drew (S:=fun W=>W.cell? ⟨D,4,none⟩=some (.slice (some ⟨K,0,none⟩) f.wires.length f.wires.length)∧W.cell? ⟨g6,0,none⟩=some (.int .i64 xd)) (by kernel_rfl) ?_ (fun hHeld=>?_)
    ·refine' zq15
    refine' zq171
    go_at_call 96;refine Calls.mono (HI4.out _ _ bE hV.out) ?_;rintro e w5 ⟨rfl,rfl⟩
    refine' zq11
    refine tk 4 (some 58) rfl ?_
    refine tk 5 (some 59) rfl ?_
    refine sk 6 (some 60) rfl ?_
    refine' zq262
    refine tk 15 (some 69) rfl ?_
    refine' zq25
    go_ret
    exact FDefIs.no rfl HF.out (HNn.out _ bE).1 (HNn.out _ bE).2
   have hV:=Lib.hid (cB_true hw)
   refine' zq316
   refine' zq274
   have HBY:Hid (ByS f (bs.set m (j:Int))):=by_set HY0.out (.inr (.inr ⟨j,_,rfl,HXD.out,rfl⟩))
   have HS5:Hid (∀W,Below w4.heap.size w4 W→W.cell? ⟨D,4,none⟩=some (.slice (some ⟨K,0,none⟩) f.wires.length f.wires.length)∧W.cell? ⟨g6,0,none⟩=some (.int .i64 (m:Int))∧W.cell? ⟨K,m,none⟩=some (.int .i64 (getI bs m))):=fun W hW=>by
    obtain ⟨a1,a2⟩:=HS.out W hW
    exact ⟨a1,a2,ks_cell (rK4.below hW rK4.lt) hmb⟩
   have HWS':=Lib.hid (upto_succ HWS.out (fun y hy=>by rw[HX.out] at hy;injection hy with hy;rw[←hy];exact HW.out))
   clear hw HS
   generalize getI bs (m:Int)=V at*
   by_cases h3:V= -1
   rotate_left 1
   ·have HF:=Lib.hid (HNO.out h3)
    have e3:(V != -1)=true:=by simp[h3]
    refine' zq66
    refine' zq25
    go_ret
    exact FDefIs.no rfl HF.out (HNn.out _ bE).1 (HNn.out _ bE).2
   have HY:=Lib.hid (HYES.out h3)
   have e3:(V != -1)=false:=by simp[h3]
   refine' zq66
   refine wpAnyH_done (by kernel_rfl) ?_ _
   go_upto_region 14 with (fail)
   have b5:Below w4.heap.size w4 w4.drew:=bE
   have rK5:=rK4.below b5 rK4.lt
   have uK5:=uK4.trans (Upd.of_below b5)
   obtain ⟨a1,a2,a3⟩:=HS5.out _ b5
   generalize w4.drew=w5 at*
   refine' zq311
   go_roundw
   case rel=>exact ⟨j+1,bs.set m (j:Int),by omega,by go_num,by rw[HTS.out];exact HY.out,HBY.out,HWS'.out,rK6.out.drew,uK6.out.drew⟩
   case measure=>simp[intOf];omega
end Go.Proofs.YtckognjamlckcaaGreatDoor
