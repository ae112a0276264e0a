/-
  norm's looker: defined. flat's looker: defined.
-/
import Derived.Test.YtckognjamlckcaaGreatDoorNormG
import Derived.Test.YtckognjamlckcaaGreatDoorFltV
set_option maxHeartbeats 8000000
set_option maxRecDepth 100000
namespace Go.Proofs.YtckognjamlckcaaGreatDoor
open Go.RowKit Vf Fo
attribute [local go_sem ↓] Go.wp_at_zero Go.wp_at_succ
def lT (w:World) (B L:Nat) (f:Fm) (vw va vc vk vi vo ve:Value) (e:Ending) (w':World):Prop:=∃(r:Bool) (vb:Value),e= .returned (.bool r)/\(r=true↔aR f)/\bI w' B L f vw va vc vk vi vo vb ve/\ae (fun k=>k=L) w w'
theorem lT.no {w w':World} {B L:Nat} {f:Fm} {vw va vc vk vi vo vb ve:Value} {e:Ending} (he:e= .returned (.bool false)) (hn:¬aR f) (h:bI w' B L f vw va vc vk vi vo vb ve) (u:ae (fun k=>k=L) w w'):lT w B L f vw va vc vk vi vo ve e w':=
 ⟨false,vb,he,⟨fun g=>by simp at g,fun g=>absurd g hn⟩,h,u⟩
theorem pR {α:Type} {l:List α} {k:Nat} {x:α} (h:l[k]? =some x):l=l.take k++x::l.drop (k+1):=by
 obtain ⟨hk,rfl⟩:=List.getElem?_eq_some_iff.1 h
 rw[List.getElem_cons_drop hk,List.take_append_drop]
theorem wG {f:Fm} {bs:List Int} {k:Nat} {n:Int} (h:fZ f (f.ins.take k) bs) (hk:f.ins[k]? =some n) (hn:ak f n) (hf:ao bs n≠-1):¬aR f:=by
 refine vX (r:=f.ins.drop (k+1)++f.acts.map (·.dst)) h hn ?_ hf
 have:=pR hk
 unfold dO
 conv=>lhs;rw[this]
 simp
theorem tU {f:Fm} {bs:List Int} {k:Nat} {x:Ac} (h:fZ f (dO f (f.acts.take k)) bs) (hk:f.acts[k]? =some x) (hn:ak f x.dst) (hf:ao bs x.dst≠-1):¬aR f:=by
 refine vX (r:=(f.acts.drop (k+1)).map (·.dst)) h hn ?_ hf
 have:=pR hk
 unfold dO
 conv=>lhs;rw[this]
 simp
theorem ro {f:Fm} {k:Nat} {x:Ac} (hk:f.acts[k]? =some x) (hn:¬ak f x.dst):¬aR f:=fun g=>hn (g.2.1 x (List.mem_of_getElem? hk)).1
theorem xh {f:Fm} {k:Nat} {x:Ac} (hk:f.acts[k]? =some x):dO f (f.acts.take (k+1))=dO f (f.acts.take k)++ [x.dst]:=by
 unfold dO
 rw[bj hk]
 simp
theorem oU (f:Fm):dO f (f.acts.take 0)=f.ins:=by simp[dO]
theorem pS {w:World} {B L:Nat} {f:Fm} {vw va vc vk vi vo vb ve:Value} (h:bI w B L f vw va vc vk vi vo vb ve) (hBL:B<=L) (hwl:f.wires.length<=1600) (hins:∀n∈f.ins,ak f n):
  Calls Tryz.prog 27 #[.pointer (some ⟨L,0,none⟩)] w (lT w B L f vw va vc vk vi vo ve):=by
 have hLlt:=h.row.lt
 obtain ⟨⟨q0,q1,q2,q3,q4,q5,q6,q7⟩,lf,_⟩:=h.row.eight
 obtain ⟨Aw,cw,rfl,lw,mw,sw⟩:=h.fm.wires
 obtain ⟨Aa,ca,rfl,la,ma,sa⟩:=h.fm.acts
 obtain ⟨Ai,ci,rfl,li,mi,si⟩:=h.fm.ins
 refine' zq135
 clear h sw sa si q1 q2 q3 q4 q5 q7 hins
 go_enter Tryz.func27,Tryz.ntmps27
 refine' zq267
 have rL:=HH.o.row.below hb hLlt
 obtain ⟨⟨p0,p1,p2,p3,p4,p5,p6,p7⟩,pf,_⟩:=rL.eight
 have hKL:K≠L:=by simp at hK;omega
 have hwK:w.heap.size<=K:=by simp at hK;omega
 have rL2:=rL.set 6 (.slice (some ⟨K,0,none⟩) f.wires.length f.wires.length)
 have rK2:=rK.far (p:=⟨L,6,none⟩) hKL (.slice (some ⟨K,0,none⟩) f.wires.length f.wires.length)
 have u2:ae (fun k=>k=L) w (w1.setCell ⟨L,6,none⟩ (.slice (some ⟨K,0,none⟩) f.wires.length f.wires.length)):=ae.setCell (X:=fun k=>k=L) (ae.of_below hb) rfl _
 have hN2:bI (w1.setCell ⟨L,6,none⟩ (.slice (some ⟨K,0,none⟩) f.wires.length f.wires.length)) B L f (.slice Aw f.wires.length cw) (.slice Aa f.acts.length ca) vc vk (.slice Ai f.ins.length ci) vo (.slice (some ⟨K,0,none⟩) f.wires.length f.wires.length) ve:=
  ⟨by simpa using rL2,HH.o.fm.upd (fun k hk e=>by omega) (by omega) u2⟩
 clear hb1 b0 q0 q6 lf HR p1 p2 p3 p4 p5 p7
 go_upto_region 2 with (fail)
 clear p0 p6 pf rL rL2 rK hb
 generalize w1.setCell ⟨L,6,none⟩ (.slice (some ⟨K,0,none⟩) f.wires.length f.wires.length)=w2 at*
 have hB2:B<=w2.heap.size:=by have:=hN2.row.lt;omega
 obtain ⟨⟨p0,p1,p2,p3,p4,p5,p6,p7⟩,_,_⟩:=hN2.row.eight
 clear p0 p1 p2 p3 p5 p7
 have HN2:=zH hN2
 have HU2:=zH u2
 have HRK:=zH rK2
 clear hN2 u2 rK2 hK
 go_wp2_with fail
 go_loopw[24] (fun i wr=>∃(k:Nat) (bs:List Int),k<=f.ins.length/\i= .int .i64 k/\Hid (fZ f (f.ins.take k) bs)/\ai wr K (al bs).toArray 3/\ae (fun k=>k=K) w2 wr) (fun i _=>f.ins.length-(intOf i).toNat)
 case atStart=>exact ⟨0,List.replicate f.wires.length (-1),Nat.zero_le _,rfl,by rw[List.take_zero];exact px f,by rw[al,List.map_replicate];exact HRK.o,ae.refl _ _⟩
 case round=>
  clear p4 p6
  obtain ⟨k,bs,hk,rfl,HD,rK,uK⟩:=hrel
  have hN:=HN2.o.updK uK hKL (by omega) hB2
  have hBr:B<=wr.heap.size:=Nat.le_trans hB2 uK.size
  have HUw:=zH (HU2.o.trans_new uK (fun i hi e=>by omega))
  have HNw:=zH hN
  obtain ⟨⟨p0,p1,p2,p3,p4,p5,p6,p7⟩,_,_⟩:=hN.row.eight
  clear p0 p2 p3 p4 p5 p7
  have HBL:=zH HD.o.len
  by_cases hlt:k<f.ins.length
  ·obtain ⟨A',c',he,_,_,si⟩:=hN.fm.ins
   refine' zq193
   refine' zq125
   have cK:=ik rK (m:=m) (by rw[HBL.o];exact hm)
   have fK:=rK.frozen m
   have HVV:=zH (rfl:ao bs m=ao bs m)
   refine' zq299
   have rK6:=zH (nu (m:=m) rK (-2))
   have uK6:=zH (ae.setCell (X:=fun k=>k=K) (p:=⟨K,m,none⟩) uK rfl (.int .i64 (-2)))
   clear he2 he3 hx hw hN si p1 HVV
   generalize ao bs (m:Int)=V at*
   by_cases hV:V= -1
   ·have e1:(V != -1)=false:=by simp[hV]
    have HY:=zH (HYES.o hV)
    clear hV rK
    go_wp2_with fail
    go_roundw
    case rel=>exact ⟨k+1,bs.set m (-2),by omega,by go_num,by rw[HTS.o];exact HY.o,rK6.out,uK6.out⟩
    case measure=>simp[intOf];omega
   ·have e1:(V != -1)=true:=by simp[hV]
    have HF:=zH (HNO.o hV)
    clear hV rK
    go_wp2_with fail
    go_ret
    exact lT.no rfl HF.o HNw.o HUw.o
  obtain rfl:k=f.ins.length:=by omega
  have HDa:Hid (fZ f (dO f (f.acts.take 0)) bs):=by
   have:=HD.o
   rw[List.take_length] at this
   rw[oU]
   exact this
  have HRKr:=zH rK
  clear hN p6 rK uK
  go_wp2_with fail
  refine' zq148
  go_loopw[49] (fun i w3=>∃(j:Nat) (bs:List Int),j<=f.acts.length/\i= .int .i64 j/\Hid (fZ f (dO f (f.acts.take j)) bs)/\Hid (∀i,i<j->∀x,f.acts[i]? =some x->ak f x.dst)/\ai w3 K (al bs).toArray 3/\ae (fun k=>k=K) wo w3) (fun i _=>f.acts.length-(intOf i).toNat)
  case atStart=>exact ⟨0,bs,Nat.zero_le _,rfl,HDa.o,fun i hi=>absurd hi (by omega),HRKr.o,ae.refl _ _⟩
  case round=>
   clear p1 HDa HRKr HBL HD bs
   obtain ⟨j,bs,hj,rfl,HD,HWS,rK,uK⟩:=hrel
   have hN:=HNw.o.updK uK hKL (by omega) hBr
   have hBw:B<=wr.heap.size:=Nat.le_trans hBr uK.size
   have HUr:=zH (HUw.o.trans_new uK (fun i hi e=>by omega))
   obtain ⟨⟨p0,p1,p2,p3,p4,p5,p6,p7⟩,_,_⟩:=hN.row.eight
   clear p0 p1 p2 p3 p4 p5 p7
   have HBL:=zH HD.o.len
   by_cases hlt:j<f.acts.length
   rotate_left 1
   ·obtain rfl:j=f.acts.length:=by omega
    have HE:Hid (aR f↔¬(-1:Int)∈bs):=tJ (by have:=HD.o;rw[List.take_length] at this;exact this) HWS.o
    refine' zq164
    have HQ:Hid (cB ((-1:Int)∈bs)=false↔aR f):=by
     show _↔_
     rw[fO,HE.o]
    clear hN rK
    generalize cB ((-1:Int)∈bs)=bb at*
    go_wp2_with fail
    refine HC.o.mono ?_
    refine' zq163
    exact ⟨!bb,_,rfl,by rw[<-HQ.o];cases bb<;>simp,HNr.o,HUr.o⟩
   obtain ⟨A',c',he,_,_,sa⟩:=hN.fm.acts
   injection he with he1 he2 he3
   subst he1
   obtain ⟨b,off,⟨xo,xd,xa,xb,xc,xk⟩,hAa,hbb,hx,wx,d0,d1,d2,d3,d4,d5⟩:=sa.ac hlt
   subst hAa
   have HX:=zH hx
   have wxd:Wf xd:=wx.dst
   refine' zq277
   have r6:=ai.new wr #[.int .i64 xo,.int .i64 xd,.int .i64 xa,.int .i64 xb,.int .i64 xc,.int .i64 xk] 58
   have hN4:=hN.below hBw ba
   have u4:=HUr.o.trans_new (ae.of_below ba) (fun i hi e=>e)
   have rK4:=rK.below ba rK.lt
   have uK4:ae (fun k=>k=K) wo (wr.alloc (.cells #[.int .i64 xo,.int .i64 xd,.int .i64 xa,.int .i64 xb,.int .i64 xc,.int .i64 xk] 58)):=uK.alloc _
   have hB4:B<=(wr.alloc (.cells #[.int .i64 xo,.int .i64 xd,.int .i64 xa,.int .i64 xb,.int .i64 xc,.int .i64 xk] 58)).heap.size:=Nat.le_trans hBw ba.size
   clear he2 he3 hx hN sa p6
   go_upto_region 12 with (fail)
   generalize hg6:wr.heap.size=g6 at*
   generalize wr.alloc (.cells #[.int .i64 xo,.int .i64 xd,.int .i64 xa,.int .i64 xb,.int .i64 xc,.int .i64 xk] 58)=w4 at*
   clear d0 d1 d2 d3 d4 d5 ba hg6 wx
   have HNn:Hid (∀W,Below w4.heap.size w4 W->bI W B L f (.slice Aw f.wires.length cw) (.slice (some ⟨b,off,none⟩) f.acts.length ca) vc vk (.slice Ai f.ins.length ci) vo (.slice (some ⟨K,0,none⟩) f.wires.length f.wires.length) ve/\ae (fun k=>k=L) w W):=fun W hW=>⟨hN4.below hB4 hW,u4.trans (ae.of_below hW)⟩
   have HS:Hid (∀W,Below w4.heap.size w4 W->W.cell? ⟨L,6,none⟩=some (.slice (some ⟨K,0,none⟩) f.wires.length f.wires.length)/\W.cell? ⟨g6,1,none⟩=some (.int .i64 xd)):=fun W hW=>
    ⟨(HNn.o W hW).1.row.eight.1.2.2.2.2.2.2.1,(r6.below hW r6.lt).six'.2.1⟩
   have HI4:Hid (∀W V,Below w4.heap.size w4 W->cB (ak f xd)=V->Calls Tryz.prog 58 #[.pointer (some ⟨L,0,none⟩),.slice (some ⟨W.heap.size,0,none⟩) 1 1] (W.alloc (.cells #[.int .i64 xd] 3)) fun e w'=>e= .returned (.bool V)/\W.alloc (.cells #[.int .i64 xd] 3)=w'):=fun W V hW hV=>ql wxd (HNn.o _ (hW.alloc hW.size _)).1 hV
   have hg6l:g6<w4.heap.size:=r6.lt
   have hKl:K<w4.heap.size:=rK4.lt
   by_cases hw:ak f xd
   rotate_left 1
   ·have HF:=zH (ro (f:=f) HX.o hw)
    have hV:=zH (ab hw)
    clear hw
    refine wp_region_held_drew (S:=fun W=>W.cell? ⟨L,6,none⟩=some (.slice (some ⟨K,0,none⟩) f.wires.length f.wires.length)/\W.cell? ⟨g6,1,none⟩=some (.int .i64 xd)) (by kernel_rfl) ?_ (fun hHeld=>?_)
    ·refine' zq21
    refine' zq150
    refine hKK.out _ _ ?_ (fun hHeld=>?_)
    ·refine' zq21
    refine' zq4
    refine' zq307
    refine' zq13
    refine tk 5 (some 59) rfl ?_
    refine tk 6 (some 60) rfl ?_
    refine' zq236
    refine sk 15 (some 69) rfl ?_
    refine tk 16 (some 70) rfl ?_
    refine' zq26
    go_ret
    exact lT.no rfl HF.o (HNn.o _ bE).1 (HNn.o _ bE).2
   have hV:=zH (aq hw)
   refine' zq125
   refine' zq247
   have HS5:Hid (∀W,Below w4.heap.size w4 W->W.cell? ⟨L,6,none⟩=some (.slice (some ⟨K,0,none⟩) f.wires.length f.wires.length)/\W.cell? ⟨g6,1,none⟩=some (.int .i64 (m:Int))/\W.cell? ⟨K,m,none⟩=some (.int .i64 (ao bs m))):=fun W hW=>by
    obtain ⟨a1,a2⟩:=HS.o W hW
    exact ⟨a1,a2,ik (rK4.below hW rK4.lt) hmb⟩
   have HWS':=zH (aC HWS.o (fun y hy=>by rw[HX.o] at hy;injection hy with hy;rw[<-hy];exact HW.o))
   clear hw HS
   generalize ao bs (m:Int)=V at*
   by_cases h3:V= -1
   rotate_left 1
   ·have HF:=zH (HNO.o h3)
    have e3:(V != -1)=true:=by simp[h3]
    refine' zq46
    refine' zq26
    go_ret
    exact lT.no rfl HF.o (HNn.o _ bE).1 (HNn.o _ bE).2
   have HY:=zH (HYES.o h3)
   have e3:(V != -1)=false:=by simp[h3]
   refine' zq46
   refine wpAnyH_done (by kernel_rfl) ?_ _
   go_upto_region 14 with (fail)
   have b5:Below w4.heap.size w4 ((w4.alloc (.cells #[.int .i64 (m:Int)] 3)).drew):=bE
   have rK5:=rK4.below b5 rK4.lt
   have uK5:=uK4.trans (ae.of_below b5)
   obtain ⟨a1,a2,a3⟩:=HS5.o _ b5
   generalize (w4.alloc (.cells #[.int .i64 (m:Int)] 3)).drew=w5 at*
   refine' zq284
   go_roundw
   case rel=>exact ⟨j+1,bs.set m (j:Int),by omega,by go_num,by rw[HTS.o];exact HY.o,HWS'.o,rK6.out.drew,uK6.out.drew⟩
   case measure=>simp[intOf];omega
end Go.Proofs.YtckognjamlckcaaGreatDoor
namespace Go.Proofs.YtckognjamlckcaaGreatDoor.Fo
open Vf
def DV (f:Fl) (m:Nat) (v:Int):Prop:=v= -1\/(v= -2/\(m:Int)∈f.ins)\/∃(j:Nat) (d:Int × Ex),v=j/\f.defs[j]? =some d/\d.1=m
def mB (f:Fl) (bs:List Int):Prop:=∀m v,bs[m]? =some v->DV f m v
section
variable {f:Fl} {bs:List Int}
theorem yF (f:Fl):mB f (List.replicate f.wires.length (-1)):=fun m v h=> .inl (by rw[List.getElem?_replicate] at h;split at h<;>simp at h;exact h.symm)
theorem xx (h:mB f bs) {m:Nat} {v:Int} (hv:DV f m v):mB f (bs.set m v):=fun i u hu=>by
 rw[List.getElem?_set] at hu
 split at hu
 ·rename_i e
  subst e
  split at hu
  ·injection hu with hu
   rw[<-hu];exact hv
  ·cases hu
 ·exact h i u hu
theorem jO {j:Nat} {d:Int × Ex} (h:f.defs[j]? =some d):f.fm.acts[j]? =some ⟨0,d.1,0,0,0,0⟩:=by
 show (f.defs.map _)[j]? =_
 rw[List.getElem?_map,h]
 rfl
theorem sh:f.fm.acts.length=f.defs.length:=List.length_map _
end
end Go.Proofs.YtckognjamlckcaaGreatDoor.Fo
namespace Go.Proofs.YtckognjamlckcaaGreatDoor
open Go.RowKit Vf Fo
attribute [local go_sem ↓] Go.wp_at_zero Go.wp_at_succ
theorem dU.updK {w w':World} {B D:Nat} {f:Fl} {vw vd vi vo vb:Value} (h:dU w B D f vw vd vi vo vb) {K:Nat} (u:ae (fun k=>k=K) w w') (hK:K≠D) (hBK:B<=K):dU w' B D f vw vd vi vo vb:=
 ⟨u.row h.row (fun e=>hK e.symm),h.fl.below (u.below (fun k hk=>by omega) (by have:=h.row.lt;have:=h.lo;omega)),h.lo⟩
theorem dU.five {w:World} {B D:Nat} {f:Fl} {vw vd vi vo vb:Value} (h:dU w B D f vw vd vi vo vb):(w.cell? ⟨D,0,none⟩=some vw/\w.cell? ⟨D,1,none⟩=some vd/\w.cell? ⟨D,2,none⟩=some vi/\w.cell? ⟨D,3,none⟩=some vo/\w.cell? ⟨D,4,none⟩=some vb):=
 ⟨h.row.cell 0,h.row.cell 1,h.row.cell 2,h.row.cell 3,h.row.cell 4⟩
def jU (w:World) (B D:Nat) (f:Fl) (vw vd vi vo:Value) (e:Ending) (w':World):Prop:=∃(r:Bool) (vb:Value),e= .returned (.bool r)/\(r=true↔aR f.fm)/\dU w' B D f vw vd vi vo vb/\ae (fun k=>k=D) w w'/\
 (r=true->∃K bs,vb= .slice (some ⟨K,0,none⟩) f.wires.length f.wires.length/\w.heap.size<=K/\bs.length=f.wires.length/\ai w' K (al bs).toArray 3/\mB f bs/\(-1:Int)∉bs)
theorem jU.no {w w':World} {B D:Nat} {f:Fl} {vw vd vi vo vb:Value} {e:Ending} (he:e= .returned (.bool false)) (hn:¬aR f.fm) (h:dU w' B D f vw vd vi vo vb) (u:ae (fun k=>k=D) w w'):jU w B D f vw vd vi vo e w':=
 ⟨false,vb,he,⟨fun g=>by simp at g,fun g=>absurd g hn⟩,h,u,fun g=>by cases g⟩
theorem qq {w:World} {B D:Nat} {f:Fl} {vw vd vi vo vb:Value} (h:dU w B D f vw vd vi vo vb) (hwl:f.wires.length<=1600) (hins:∀n∈f.ins,ak f.fm n):
  Calls Tryz.prog 77 #[.pointer (some ⟨D,0,none⟩)] w (jU w B D f vw vd vi vo):=by
 have hBD:=h.lo
 have hDlt:=h.row.lt
 obtain ⟨q0,q1,q2,q3,q4⟩:=h.five
 have qf:=h.row.frozen 4
 obtain ⟨Aw,cw,rfl,lw,mw,sw⟩:=h.fl.wires
 obtain ⟨Aa,ca,rfl,la,ma,sa⟩:=h.fl.defs
 obtain ⟨Ai,ci,rfl,li,mi,si⟩:=h.fl.ins
 refine' zq135
 clear h sw sa si q1 q2 q3 hins
 go_enter Tryz.func77,Tryz.ntmps77
 refine' zq267
 have rL:=HH.o.row.below hb hDlt
 have pf:=rL.frozen 4
 have p4:=rL.cell 4
 have p0:=rL.cell 0
 simp only[List.getElem?_toArray,List.getElem?_cons_zero,List.getElem?_cons_succ] at p4 p0
 have hKD:K≠D:=by simp at hK;omega
 have hwK:w.heap.size<=K:=by simp at hK;omega
 have rL2:=rL.set 4 (.slice (some ⟨K,0,none⟩) f.wires.length f.wires.length)
 have rK2:=rK.far (p:=⟨D,4,none⟩) hKD (.slice (some ⟨K,0,none⟩) f.wires.length f.wires.length)
 have u2:ae (fun k=>k=D) w (w1.setCell ⟨D,4,none⟩ (.slice (some ⟨K,0,none⟩) f.wires.length f.wires.length)):=ae.setCell (X:=fun k=>k=D) (ae.of_below hb) rfl _
 have hN2:dU (w1.setCell ⟨D,4,none⟩ (.slice (some ⟨K,0,none⟩) f.wires.length f.wires.length)) B D f (.slice Aw f.wires.length cw) (.slice Aa f.defs.length ca) (.slice Ai f.ins.length ci) vo (.slice (some ⟨K,0,none⟩) f.wires.length f.wires.length):=
  ⟨by simpa using rL2,HH.o.fl.below (u2.below (fun k hk=>by omega) (by omega)),hBD⟩
 clear hb1 b0 q0 q4 qf HR
 go_upto_region 2 with (fail)
 clear p0 p4 pf rL rL2 rK hb
 generalize w1.setCell ⟨D,4,none⟩ (.slice (some ⟨K,0,none⟩) f.wires.length f.wires.length)=w2 at*
 have hB2:B<=w2.heap.size:=by have:=hN2.row.lt;omega
 obtain ⟨p0,p1,p2,p3,p4⟩:=hN2.five
 have HN2:=zH hN2
 have HU2:=zH u2
 have HRK:=zH rK2
 clear hN2 u2 rK2 hK p0 p1 p3
 go_wp2_with fail
 go_loopw[24] (fun i wr=>∃(k:Nat) (bs:List Int),k<=f.ins.length/\i= .int .i64 k/\Hid (fZ f.fm (f.ins.take k) bs)/\Hid (mB f bs)/\ai wr K (al bs).toArray 3/\ae (fun k=>k=K) w2 wr) (fun i _=>f.ins.length-(intOf i).toNat)
 case atStart=>exact ⟨0,List.replicate f.wires.length (-1),Nat.zero_le _,rfl,by rw[List.take_zero];exact px f.fm,yF f,by rw[al,List.map_replicate];exact HRK.o,ae.refl _ _⟩
 case round=>
  clear p2 p4
  obtain ⟨k,bs,hk,rfl,HD,HY0,rK,uK⟩:=hrel
  have hN:=HN2.o.updK uK hKD (by omega)
  have hBr:B<=wr.heap.size:=Nat.le_trans hB2 uK.size
  have HUw:=zH (HU2.o.trans_new uK (fun i hi e=>by omega))
  have HNw:=zH hN
  obtain ⟨p0,p1,p2,p3,p4⟩:=hN.five
  clear p0 p2 p3
  have HBL:Hid (bs.length=f.wires.length):=HD.o.len
  by_cases hlt:k<f.ins.length
  ·obtain ⟨A',c',he,_,_,si⟩:=hN.fl.ins
   refine' zq193
   refine' zq291
   have cK:=ik rK (m:=m) (by rw[HBL.o];exact hm)
   have fK:=rK.frozen m
   refine' zq299
   have HBY:Hid (mB f (bs.set m (-2))):=xx HY0.o (.inr (.inl ⟨rfl,List.mem_of_getElem? HX.o⟩))
   have rK6:=zH (nu (m:=m) rK (-2))
   have uK6:=zH (ae.setCell (X:=fun k=>k=K) (p:=⟨K,m,none⟩) uK rfl (.int .i64 (-2)))
   clear he2 he3 hx hw hN si p1
   generalize ao bs (m:Int)=V at*
   by_cases hV:V= -1
   ·have e1:(V != -1)=false:=by simp[hV]
    have HY:=zH (HYES.o hV)
    clear hV rK
    go_wp2_with fail
    go_roundw
    case rel=>exact ⟨k+1,bs.set m (-2),by omega,by go_num,by rw[HTS.o];exact HY.o,HBY.o,rK6.out,uK6.out⟩
    case measure=>simp[intOf];omega
   ·have e1:(V != -1)=true:=by simp[hV]
    have HF:=zH (HNO.o hV)
    clear hV rK
    go_wp2_with fail
    go_ret
    exact jU.no rfl HF.o HNw.o HUw.o
  obtain rfl:k=f.ins.length:=by omega
  have HDa:Hid (fZ f.fm (dO f.fm (f.fm.acts.take 0)) bs):=by
   have:=HD.o
   rw[List.take_length] at this
   rw[oU]
   exact this
  have HRKr:=zH rK
  clear hN rK uK
  go_wp2_with fail
  refine' zq148
  go_loopw[49] (fun i w3=>∃(j:Nat) (bs:List Int),j<=f.defs.length/\i= .int .i64 j/\Hid (fZ f.fm (dO f.fm (f.fm.acts.take j)) bs)/\Hid (mB f bs)/\Hid (∀i,i<j->∀x,f.fm.acts[i]? =some x->ak f.fm x.dst)/\ai w3 K (al bs).toArray 3/\ae (fun k=>k=K) wo w3) (fun i _=>f.defs.length-(intOf i).toNat)
  case atStart=>exact ⟨0,bs,Nat.zero_le _,rfl,HDa.o,HY0.o,fun i hi=>absurd hi (by omega),HRKr.o,ae.refl _ _⟩
  case round=>
   clear p1 p4 HDa HRKr HBL HD HY0 bs
   obtain ⟨j,bs,hj,rfl,HD,HY0,HWS,rK,uK⟩:=hrel
   have hN:=HNw.o.updK uK hKD (by omega)
   have hBw:B<=wr.heap.size:=Nat.le_trans hBr uK.size
   have HUr:=zH (HUw.o.trans_new uK (fun i hi e=>by omega))
   obtain ⟨p0,p1,p2,p3,p4⟩:=hN.five
   clear p0 p1 p2 p3
   have HBL:Hid (bs.length=f.wires.length):=HD.o.len
   by_cases hlt:j<f.defs.length
   rotate_left 1
   ·obtain rfl:j=f.defs.length:=by omega
    have HE:Hid (aR f.fm↔¬(-1:Int)∈bs):=tJ (by have:=HD.o;rw[<-sh (f:=f),List.take_length] at this;exact this) (by rw[sh];exact HWS.o)
    refine' zq164
    have HQ:Hid (cB ((-1:Int)∈bs)=false↔aR f.fm):=by
     show _↔_
     rw[fO,HE.o]
    have HRR:=zH rK
    clear hN rK
    generalize cB ((-1:Int)∈bs)=bb at*
    go_wp2_with fail
    refine HC.o.mono ?_
    refine' zq163
    exact ⟨!bb,_,rfl,by rw[<-HQ.o];cases bb<;>simp,HNr.o,HUr.o,fun g=>⟨K,bs,rfl,hwK,HBL.o,HRR.o,HY0.o,HE.o.1 (HQ.o.1 (by simpa using g))⟩⟩
   obtain ⟨A',c',he,_,_,sa⟩:=hN.fl.defs
   injection he with he1 he2 he3
   subst he1
   obtain ⟨b,off,⟨xd,xe⟩,Ag,cg,hAa,hbb,hx,wxd,hok,lg,mg,hxs,d0,d1,d2,d3,d4,d5,d6⟩:=sa.df hlt
   subst hAa
   have HX:=zH (jO hx)
   have HXD:=zH hx
   dsimp only at d0 d1 d2 d3 d4 d5 d6 wxd HX
   have ba:Below wr.heap.size wr (wr.alloc (.cells #[.int .i64 xd,.int .i64 xe.op,.string xe.name,.int .i64 xe.n,.slice Ag xe.args.length cg,.int .i64 xe.line,.int .i64 xe.col] 77)):=(Below.refl wr.heap.size wr).alloc (Nat.le_refl _) _
   have r6:=ai.new wr #[.int .i64 xd,.int .i64 xe.op,.string xe.name,.int .i64 xe.n,.slice Ag xe.args.length cg,.int .i64 xe.line,.int .i64 xe.col] 77
   have hN4:=hN.below ba
   have u4:=HUr.o.trans_new (ae.of_below ba) (fun i hi e=>e)
   have rK4:=rK.below ba rK.lt
   have uK4:ae (fun k=>k=K) wo (wr.alloc (.cells #[.int .i64 xd,.int .i64 xe.op,.string xe.name,.int .i64 xe.n,.slice Ag xe.args.length cg,.int .i64 xe.line,.int .i64 xe.col] 77)):=uK.alloc _
   clear he2 he3 hx hN sa p4 hxs hok
   go_upto_region 12 with (fail)
   generalize hg6:wr.heap.size=g6 at*
   generalize wr.alloc (.cells #[.int .i64 xd,.int .i64 xe.op,.string xe.name,.int .i64 xe.n,.slice Ag xe.args.length cg,.int .i64 xe.line,.int .i64 xe.col] 77)=w4 at*
   clear d0 d1 d2 d3 d4 d5 d6 ba hg6
   have HNn:Hid (∀W,Below w4.heap.size w4 W->dU W B D f (.slice Aw f.wires.length cw) (.slice (some ⟨b,off,none⟩) f.defs.length ca) (.slice Ai f.ins.length ci) vo (.slice (some ⟨K,0,none⟩) f.wires.length f.wires.length)/\ae (fun k=>k=D) w W):=fun W hW=>⟨hN4.below hW,u4.trans (ae.of_below hW)⟩
   have HS:Hid (∀W,Below w4.heap.size w4 W->W.cell? ⟨D,4,none⟩=some (.slice (some ⟨K,0,none⟩) f.wires.length f.wires.length)/\W.cell? ⟨g6,0,none⟩=some (.int .i64 xd)):=fun W hW=>
    ⟨(HNn.o W hW).1.five.2.2.2.2,(r6.below hW r6.lt).cell 0⟩
   have HI4:Hid (∀W V,Below w4.heap.size w4 W->cB (ak f.fm xd)=V->Calls Tryz.prog 96 #[.pointer (some ⟨D,0,none⟩),.int .i64 xd] W fun e w'=>e= .returned (.bool V)/\W=w'):=fun W V hW hV=>by
    have:=lK (HNn.o _ hW).1 xd
    rw[hV] at this
    exact this
   have hg6l:g6<w4.heap.size:=r6.lt
   have hKl:K<w4.heap.size:=rK4.lt
   by_cases hw:ak f.fm xd
   rotate_left 1
   ·have HF:=zH (ro (f:=f.fm) HX.o hw)
    have hV:=zH (ab hw)
    clear hw
    refine wp_region_held_drew (S:=fun W=>W.cell? ⟨D,4,none⟩=some (.slice (some ⟨K,0,none⟩) f.wires.length f.wires.length)/\W.cell? ⟨g6,0,none⟩=some (.int .i64 xd)) (by kernel_rfl) ?_ (fun hHeld=>?_)
    ·refine' zq21
    refine' zq150
    go_at_call 96;refine Calls.mono (HI4.o _ _ bE hV.out) ?_;rintro e w5 ⟨rfl,rfl⟩
    refine' zq13
    refine tk 4 (some 58) rfl ?_
    refine tk 5 (some 59) rfl ?_
    refine sk 6 (some 60) rfl ?_
    refine' zq236
    refine tk 15 (some 69) rfl ?_
    refine' zq26
    go_ret
    exact jU.no rfl HF.o (HNn.o _ bE).1 (HNn.o _ bE).2
   have hV:=zH (aq hw)
   refine' zq291
   refine' zq247
   have HBY:Hid (mB f (bs.set m (j:Int))):=xx HY0.o (.inr (.inr ⟨j,_,rfl,HXD.o,rfl⟩))
   have HS5:Hid (∀W,Below w4.heap.size w4 W->W.cell? ⟨D,4,none⟩=some (.slice (some ⟨K,0,none⟩) f.wires.length f.wires.length)/\W.cell? ⟨g6,0,none⟩=some (.int .i64 (m:Int))/\W.cell? ⟨K,m,none⟩=some (.int .i64 (ao bs m))):=fun W hW=>by
    obtain ⟨a1,a2⟩:=HS.o W hW
    exact ⟨a1,a2,ik (rK4.below hW rK4.lt) hmb⟩
   have HWS':=zH (aC HWS.o (fun y hy=>by rw[HX.o] at hy;injection hy with hy;rw[<-hy];exact HW.o))
   clear hw HS
   generalize ao bs (m:Int)=V at*
   by_cases h3:V= -1
   rotate_left 1
   ·have HF:=zH (HNO.o h3)
    have e3:(V != -1)=true:=by simp[h3]
    refine' zq53
    refine' zq26
    go_ret
    exact jU.no rfl HF.o (HNn.o _ bE).1 (HNn.o _ bE).2
   have HY:=zH (HYES.o h3)
   have e3:(V != -1)=false:=by simp[h3]
   refine' zq53
   refine wpAnyH_done (by kernel_rfl) ?_ _
   go_upto_region 14 with (fail)
   have b5:Below w4.heap.size w4 w4.drew:=bE
   have rK5:=rK4.below b5 rK4.lt
   have uK5:=uK4.trans (ae.of_below b5)
   obtain ⟨a1,a2,a3⟩:=HS5.o _ b5
   generalize w4.drew=w5 at*
   refine' zq284
   go_roundw
   case rel=>exact ⟨j+1,bs.set m (j:Int),by omega,by go_num,by rw[HTS.o];exact HY.o,HBY.o,HWS'.o,rK6.out.drew,uK6.out.drew⟩
   case measure=>simp[intOf];omega
end Go.Proofs.YtckognjamlckcaaGreatDoor
