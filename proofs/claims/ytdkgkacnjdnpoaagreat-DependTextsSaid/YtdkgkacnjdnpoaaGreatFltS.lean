/-
  flat's looker: defined. norm: what an act wants at once; whether it is ready. norm: whether all wires can be put in a row. flat.wants. Flats, as plain data: all wires in a row.
-/
import Derived.Test.YtdkgkacnjdnpoaaGreatZz
import Derived.Test.YtdkgkacnjdnpoaaGreatNormH
import Derived.Test.YtdkgkacnjdnpoaaGreatLookZ
import Derived.Test.YtdkgkacnjdnpoaaGreatExMem
import Derived.Deep.CutBlock
set_option maxHeartbeats 8000000
set_option maxRecDepth 100000
namespace Go.Proofs.YtdkgkacnjdnpoaaGreat.Q.Fo
open Vf
def ByP (f:Fl) (m:Nat) (v:Int):Prop:=v= -1∨(v= -2∧(m:Int)∈f.ins)∨∃(j:Nat) (d:Int × Ex),v=j∧f.defs[j]? =some d∧d.1=m
def ByS (f:Fl) (bs:List Int):Prop:=∀m v,bs[m]? =some v→ByP f m v
section
variable {f:Fl} {bs:List Int}
theorem by_start (f:Fl):ByS f (List.replicate f.wires.length (-1)):=fun m v h=> .inl (by rw[List.getElem?_replicate] at h;split at h<;>simp at h;exact h.symm)
theorem by_set (h:ByS f bs) {m:Nat} {v:Int} (hv:ByP f m v):ByS f (bs.set m v):=fun i u hu=>by
 rw[List.getElem?_set] at hu
 split at hu
 ·rename_i e
  subst e
  split at hu
  ·injection hu with hu
   rw[←hu];exact hv
  ·cases hu
 ·exact h i u hu
theorem acts_at {j:Nat} {d:Int × Ex} (h:f.defs[j]? =some d):f.fm.acts[j]? =some ⟨0,d.1,0,0,0,0⟩:=by
 show (f.defs.map _)[j]? =_
 rw[List.getElem?_map,h]
 rfl
theorem acts_len:f.fm.acts.length=f.defs.length:=List.length_map _
end
end Go.Proofs.YtdkgkacnjdnpoaaGreat.Q.Fo
namespace Go.Proofs.YtdkgkacnjdnpoaaGreat.Q
open Go.RowKit Vf Fo
attribute [local go_sem ↓] Go.wp_at_zero Go.wp_at_succ
theorem FkAt.updK {w w':World} {B D:Nat} {f:Fl} {vw vd vi vo vb:Value} (h:FkAt w B D f vw vd vi vo vb) {K:Nat} (u:Upd (fun k=>k=K) w w') (hK:K≠D) (hBK:B≤K):FkAt w' B D f vw vd vi vo vb:=
 ⟨u.row h.row (fun e=>hK e.symm),h.fl.below (u.below (fun k hk=>by omega) (by have:=h.row.lt;have:=h.lo;omega)),h.lo⟩
theorem FkAt.five {w:World} {B D:Nat} {f:Fl} {vw vd vi vo vb:Value} (h:FkAt w B D f vw vd vi vo vb):(w.cell? ⟨D,0,none⟩=some vw∧w.cell? ⟨D,1,none⟩=some vd∧w.cell? ⟨D,2,none⟩=some vi∧w.cell? ⟨D,3,none⟩=some vo∧w.cell? ⟨D,4,none⟩=some vb):=
 ⟨h.row.cell 0,h.row.cell 1,h.row.cell 2,h.row.cell 3,h.row.cell 4⟩
def FDefIs (w:World) (B D:Nat) (f:Fl) (vw vd vi vo:Value) (e:Ending) (w':World):Prop:=∃(r:Bool) (vb:Value),e= .returned (.bool r)∧(r=true↔definedOk f.fm)∧FkAt w' B D f vw vd vi vo vb∧Upd (fun k=>k=D) w w'∧
 (r=true→∃K bs,vb= .slice (some ⟨K,0,none⟩) f.wires.length f.wires.length∧w.heap.size≤K∧bs.length=f.wires.length∧Row w' K (ints bs).toArray 3∧ByS f bs∧(-1:Int)∉bs)
theorem FDefIs.no {w w':World} {B D:Nat} {f:Fl} {vw vd vi vo vb:Value} {e:Ending} (he:e= .returned (.bool false)) (hn:¬definedOk f.fm) (h:FkAt w' B D f vw vd vi vo vb) (u:Upd (fun k=>k=D) w w'):FDefIs w B D f vw vd vi vo e w':=
 ⟨false,vb,he,⟨fun g=>by simp at g,fun g=>absurd g hn⟩,h,u,fun g=>by cases g⟩
theorem fdefined_any {w:World} {B D:Nat} {f:Fl} {vw vd vi vo vb:Value} (h:FkAt w B D f vw vd vi vo vb) (hwl:f.wires.length≤1600) (hins:∀n∈f.ins,isW f.fm n):
  Calls Tryz.prog 67 #[.pointer (some ⟨D,0,none⟩)] w (FDefIs w B D f vw vd vi vo):=by
 have hBD:=h.lo
 have hDlt:=h.row.lt
 obtain ⟨q0,q1,q2,q3,q4⟩:=h.five
 have qf:=h.row.frozen 4
 obtain ⟨Aw,cw,rfl,lw,mw,sw⟩:=h.fl.wires
 obtain ⟨Aa,ca,rfl,la,ma,sa⟩:=h.fl.defs
 obtain ⟨Ai,ci,rfl,li,mi,si⟩:=h.fl.ins
 have mw':cw≤9223372036854775807:=by unfold maxLen at mw;omega
 have ma':ca≤9223372036854775807:=by unfold maxLen at ma;omega
 have mi':ci≤9223372036854775807:=by unfold maxLen at mi;omega
 have HH:=Lib.hid h
 have HI:=Lib.hid hins
 have b0:=(Below.refl w.heap.size w).alloc (Nat.le_refl _) (.cells #[.int .i64 (-1)] 3)
 have HR:=Lib.hid (repeat_any (-1) f.wires.length w.heap.size 0 1 hwl (w.alloc (.cells #[.int .i64 (-1)] 3)) (by simp) (by simp))
 clear h sw sa si q1 q2 q3 hins
 go_enter Tryz.func67,Tryz.ntmps67
 go_wp2_with fail
 refine HR.out.mono ?_
 rintro e w1 ⟨K,rfl,hK,rK,hb1⟩
 have hb:=b0.trans (hb1.mono b0.size)
 have rL:=HH.out.row.below hb hDlt
 have pf:=rL.frozen 4
 have p4:=rL.cell 4
 have p0:=rL.cell 0
 simp only[List.getElem?_toArray,List.getElem?_cons_zero,List.getElem?_cons_succ] at p4 p0
 have hKD:K≠D:=by simp at hK;omega
 have hwK:w.heap.size≤K:=by simp at hK;omega
 have rL2:=rL.set 4 (.slice (some ⟨K,0,none⟩) f.wires.length f.wires.length)
 have rK2:=rK.far (p:=⟨D,4,none⟩) hKD (.slice (some ⟨K,0,none⟩) f.wires.length f.wires.length)
 have u2:Upd (fun k=>k=D) w (w1.setCell ⟨D,4,none⟩ (.slice (some ⟨K,0,none⟩) f.wires.length f.wires.length)):=Upd.setCell (X:=fun k=>k=D) (Upd.of_below hb) rfl _
 have hN2:FkAt (w1.setCell ⟨D,4,none⟩ (.slice (some ⟨K,0,none⟩) f.wires.length f.wires.length)) B D f (.slice Aw f.wires.length cw) (.slice Aa f.defs.length ca) (.slice Ai f.ins.length ci) vo (.slice (some ⟨K,0,none⟩) f.wires.length f.wires.length):=
  ⟨by simpa using rL2,HH.out.fl.below (u2.below (fun k hk=>by omega) (by omega)),hBD⟩
 clear hb1 b0 q0 q4 qf HR
 go_upto_region 2 with (fail)
 clear p0 p4 pf rL rL2 rK hb
 generalize w1.setCell ⟨D,4,none⟩ (.slice (some ⟨K,0,none⟩) f.wires.length f.wires.length)=w2 at*
 have hB2:B≤w2.heap.size:=by have:=hN2.row.lt;omega
 obtain ⟨p0,p1,p2,p3,p4⟩:=hN2.five
 have HN2:=Lib.hid hN2
 have HU2:=Lib.hid u2
 have HRK:=Lib.hid rK2
 clear hN2 u2 rK2 hK p0 p1 p3
 go_wp2_with fail
 go_loopw[24] (fun i wr=>∃(k:Nat) (bs:List Int),k≤f.ins.length∧i= .int .i64 k∧Hid (DefSt f.fm (f.ins.take k) bs)∧Hid (ByS f bs)∧Row wr K (ints bs).toArray 3∧Upd (fun k=>k=K) w2 wr) (fun i _=>f.ins.length-(intOf i).toNat)
 case atStart=>exact ⟨0,List.replicate f.wires.length (-1),Nat.zero_le _,rfl,by rw[List.take_zero];exact def_start f.fm,by_start f,by rw[ints,List.map_replicate];exact HRK.out,Upd.refl _ _⟩
 case round=>
  clear p2 p4
  obtain ⟨k,bs,hk,rfl,HD,HY0,rK,uK⟩:=hrel
  have hN:=HN2.out.updK uK hKD (by omega)
  have hBr:B≤wr.heap.size:=Nat.le_trans hB2 uK.size
  have HUw:=Lib.hid (HU2.out.trans_new uK (fun i hi e=>by omega))
  have HNw:=Lib.hid hN
  obtain ⟨p0,p1,p2,p3,p4⟩:=hN.five
  clear p0 p2 p3
  have HBL:Hid (bs.length=f.wires.length):=HD.out.len
  by_cases hlt:k<f.ins.length
  ·obtain ⟨A',c',he,_,_,si⟩:=hN.fl.ins
   injection he with he1 he2 he3
   subst he1
   obtain ⟨b,off,n,rfl,hbb,hx,wx,d0⟩:=si.int hlt
   have hw:=HI.out n (List.mem_of_getElem? hx)
   have HX:=Lib.hid hx
   refine' zq161
   have cK:=ks_cell rK (m:=m) (by rw[HBL.out];exact hm)
   have fK:=rK.frozen m
   have HNO:=Lib.hid (fun hf=>def_no_in HD.out HX.out HW.out hf)
   have HYES:=Lib.hid (fun hf=>def_step (v:= -2) HD.out HW.out hf (by decide))
   have HTS:=Lib.hid (take_snoc' HX.out)
   have HBY:Hid (ByS f (bs.set m (-2))):=by_set HY0.out (.inr (.inl ⟨rfl,List.mem_of_getElem? HX.out⟩))
   have rK6:=Lib.hid (ks_set (m:=m) rK (-2))
   have uK6:=Lib.hid (Upd.setCell (X:=fun k=>k=K) (p:=⟨K,m,none⟩) uK rfl (.int .i64 (-2)))
   clear he2 he3 hx hw hN si p1
   generalize getI bs (m:Int)=V at*
   by_cases hV:V= -1
   ·have e1:(V != -1)=false:=by simp[hV]
    have HY:=Lib.hid (HYES.out hV)
    clear hV rK
    go_wp2_with fail
    go_roundw
    case rel=>exact ⟨k+1,bs.set m (-2),by omega,by go_num,by rw[HTS.out];exact HY.out,HBY.out,rK6.out,uK6.out⟩
    case measure=>simp[intOf];omega
   ·have e1:(V != -1)=true:=by simp[hV]
    have HF:=Lib.hid (HNO.out hV)
    clear hV rK
    go_wp2_with fail
    go_ret
    exact FDefIs.no rfl HF.out HNw.out HUw.out
  obtain rfl:k=f.ins.length:=by omega
  have HDa:Hid (DefSt f.fm (dsts f.fm (f.fm.acts.take 0)) bs):=by
   have:=HD.out
   rw[List.take_length] at this
   rw[dsts_zero]
   exact this
  have HRKr:=Lib.hid rK
  clear hN rK uK
  go_wp2_with fail
  refine' zq97
  go_loopw[49] (fun i w3=>∃(j:Nat) (bs:List Int),j≤f.defs.length∧i= .int .i64 j∧Hid (DefSt f.fm (dsts f.fm (f.fm.acts.take j)) bs)∧Hid (ByS f bs)∧Hid (∀i,i<j→∀x,f.fm.acts[i]? =some x→isW f.fm x.dst)∧Row w3 K (ints bs).toArray 3∧Upd (fun k=>k=K) wo w3) (fun i _=>f.defs.length-(intOf i).toNat)
  case atStart=>exact ⟨0,bs,Nat.zero_le _,rfl,HDa.out,HY0.out,fun i hi=>absurd hi (by omega),HRKr.out,Upd.refl _ _⟩
  case round=>
   clear p1 p4 HDa HRKr HBL HD HY0 bs
   obtain ⟨j,bs,hj,rfl,HD,HY0,HWS,rK,uK⟩:=hrel
   have hN:=HNw.out.updK uK hKD (by omega)
   have hBw:B≤wr.heap.size:=Nat.le_trans hBr uK.size
   have HUr:=Lib.hid (HUw.out.trans_new uK (fun i hi e=>by omega))
   obtain ⟨p0,p1,p2,p3,p4⟩:=hN.five
   clear p0 p1 p2 p3
   have HBL:Hid (bs.length=f.wires.length):=HD.out.len
   by_cases hlt:j<f.defs.length
   rotate_left 1
   ·obtain rfl:j=f.defs.length:=by omega
    have HE:Hid (definedOk f.fm↔¬(-1:Int)∈bs):=def_end (by have:=HD.out;rw[←acts_len (f:=f),List.take_length] at this;exact this) (by rw[acts_len];exact HWS.out)
    have HNr:=Lib.hid hN
    have HC:Hid (Calls Tryz.prog 111 #[.slice (some ⟨K,0,none⟩) f.wires.length f.wires.length,.int .i64 (-1)] wr fun e w'=>e= .returned (.bool (cB ((-1:Int)∈bs)))∧wr=w'):=by
     have:=contains_int (l:=bs) (by simpa[ints] using rK) (by rw[HBL.out];omega) (-1)
     rw[HBL.out] at this
     exact this
    have HQ:Hid (cB ((-1:Int)∈bs)=false↔definedOk f.fm):=by
     show _↔_
     rw[cB_not,HE.out]
    have HRR:=Lib.hid rK
    clear hN rK
    generalize cB ((-1:Int)∈bs)=bb at*
    go_wp2_with fail
    refine HC.out.mono ?_
    rintro e w' ⟨rfl,rfl⟩
    go_wp2_with fail
    go_ret
    exact ⟨!bb,_,rfl,by rw[←HQ.out];cases bb<;>simp,HNr.out,HUr.out,fun g=>⟨K,bs,rfl,hwK,HBL.out,HRR.out,HY0.out,HE.out.1 (HQ.out.1 (by simpa using g))⟩⟩
   obtain ⟨A',c',he,_,_,sa⟩:=hN.fl.defs
   injection he with he1 he2 he3
   subst he1
   obtain ⟨b,off,⟨xd,xe⟩,Ag,cg,hAa,hbb,hx,wxd,hok,lg,mg,hxs,d0,d1,d2,d3,d4,d5,d6⟩:=sa.df hlt
   subst hAa
   have HX:=Lib.hid (acts_at hx)
   have HXD:=Lib.hid hx
   dsimp only at d0 d1 d2 d3 d4 d5 d6 wxd HX
   have ba:Below wr.heap.size wr (wr.alloc (.cells #[.int .i64 xd,.int .i64 xe.op,.string xe.name,.int .i64 xe.n,.slice Ag xe.args.length cg,.int .i64 xe.line,.int .i64 xe.col] 149)):=(Below.refl wr.heap.size wr).alloc (Nat.le_refl _) _
   have r6:=Row.new wr #[.int .i64 xd,.int .i64 xe.op,.string xe.name,.int .i64 xe.n,.slice Ag xe.args.length cg,.int .i64 xe.line,.int .i64 xe.col] 149
   have hN4:=hN.below ba
   have u4:=HUr.out.trans_new (Upd.of_below ba) (fun i hi e=>e)
   have rK4:=rK.below ba rK.lt
   have uK4:Upd (fun k=>k=K) wo (wr.alloc (.cells #[.int .i64 xd,.int .i64 xe.op,.string xe.name,.int .i64 xe.n,.slice Ag xe.args.length cg,.int .i64 xe.line,.int .i64 xe.col] 149)):=uK.alloc _
   clear he2 he3 hx hN sa p4 hxs hok
   go_upto_region 12 with (fail)
   generalize hg6:wr.heap.size=g6 at*
   generalize wr.alloc (.cells #[.int .i64 xd,.int .i64 xe.op,.string xe.name,.int .i64 xe.n,.slice Ag xe.args.length cg,.int .i64 xe.line,.int .i64 xe.col] 149)=w4 at*
   clear d0 d1 d2 d3 d4 d5 d6 ba hg6
   have HNn:Hid (∀W,Below w4.heap.size w4 W→FkAt W B D f (.slice Aw f.wires.length cw) (.slice (some ⟨b,off,none⟩) f.defs.length ca) (.slice Ai f.ins.length ci) vo (.slice (some ⟨K,0,none⟩) f.wires.length f.wires.length)∧Upd (fun k=>k=D) w W):=fun W hW=>⟨hN4.below hW,u4.trans (Upd.of_below hW)⟩
   have HS:Hid (∀W,Below w4.heap.size w4 W→W.cell? ⟨D,4,none⟩=some (.slice (some ⟨K,0,none⟩) f.wires.length f.wires.length)∧W.cell? ⟨g6,0,none⟩=some (.int .i64 xd)):=fun W hW=>
    ⟨(HNn.out W hW).1.five.2.2.2.2,(r6.below hW r6.lt).cell 0⟩
   have HI4:Hid (∀W V,Below w4.heap.size w4 W→cB (isW f.fm xd)=V→Calls Tryz.prog 108 #[.pointer (some ⟨D,0,none⟩),.int .i64 xd] W fun e w'=>e= .returned (.bool V)∧W=w'):=fun W V hW hV=>by
    have:=fis_any (HNn.out _ hW).1 xd
    rw[hV] at this
    exact this
   have hg6l:g6<w4.heap.size:=r6.lt
   have hKl:K<w4.heap.size:=rK4.lt
   by_cases hw:isW f.fm xd
   rotate_left 1
   ·have HF:=Lib.hid (def_no_w (f:=f.fm) HX.out hw)
    have hV:=Lib.hid (cB_false hw)
    clear hw
    refine wp_region_held_drew (S:=fun W=>W.cell? ⟨D,4,none⟩=some (.slice (some ⟨K,0,none⟩) f.wires.length f.wires.length)∧W.cell? ⟨g6,0,none⟩=some (.int .i64 xd)) (by kernel_rfl) ?_ (fun hHeld=>?_)
    ·(try dsimp only);(first|(with_reducible exact HS.out _ bE)|go_keep)
    refine' zq104
    refine hKK.out _ _ ?_ (fun hHeld=>?_)
    ·(try dsimp only);(first|(with_reducible exact HS.out _ bE)|go_keep)
    clear hKK KK
    refine' zq1
    refine tk 4 (some 58) rfl ?_
    refine tk 5 (some 59) rfl ?_
    refine sk 6 (some 60) rfl ?_
    refine sk 7 (some 61) rfl ?_
    refine sk 8 (some 62) rfl ?_
    refine sk 9 (some 63) rfl ?_
    refine sk 10 (some 64) rfl ?_
    refine sk 11 (some 65) rfl ?_
    refine sk 12 (some 66) rfl ?_
    refine sk 13 (some 67) rfl ?_
    refine sk 14 (some 68) rfl ?_
    refine tk 15 (some 69) rfl ?_
    refine' zq67
    go_ret
    exact FDefIs.no rfl HF.out (HNn.out _ bE).1 (HNn.out _ bE).2
   have hV:=Lib.hid (cB_true hw)
   refine' zq161
   have hmb:m<bs.length:=by rw[HBL.out];exact hm
   have HNO:=Lib.hid (fun hf=>def_no_act HD.out HX.out HW.out hf)
   have HYES:=Lib.hid (fun hf=>def_step (v:=(j:Int)) HD.out HW.out hf (by omega))
   have HTS:=Lib.hid (dsts_snoc HX.out)
   have HBY:Hid (ByS f (bs.set m (j:Int))):=by_set HY0.out (.inr (.inr ⟨j,_,rfl,HXD.out,rfl⟩))
   have HS5:Hid (∀W,Below w4.heap.size w4 W→W.cell? ⟨D,4,none⟩=some (.slice (some ⟨K,0,none⟩) f.wires.length f.wires.length)∧W.cell? ⟨g6,0,none⟩=some (.int .i64 (m:Int))∧W.cell? ⟨K,m,none⟩=some (.int .i64 (getI bs m))):=fun W hW=>by
    obtain ⟨a1,a2⟩:=HS.out W hW
    exact ⟨a1,a2,ks_cell (rK4.below hW rK4.lt) hmb⟩
   have HWS':=Lib.hid (upto_succ HWS.out (fun y hy=>by rw[HX.out] at hy;injection hy with hy;rw[←hy];exact HW.out))
   clear hw HS
   generalize getI bs (m:Int)=V at*
   by_cases h3:V= -1
   rotate_left 1
   ·have HF:=Lib.hid (HNO.out h3)
    have e3:(V != -1)=true:=by simp[h3]
    refine' zq21
    go_wp2_with fail
    go_ret
    exact FDefIs.no rfl HF.out (HNn.out _ bE).1 (HNn.out _ bE).2
   have HY:=Lib.hid (HYES.out h3)
   have e3:(V != -1)=false:=by simp[h3]
   refine' zq21
   go_upto_region 14 with (fail)
   have b5:Below w4.heap.size w4 w4.drew:=bE
   have rK5:=rK4.below b5 rK4.lt
   have uK5:=uK4.trans (Upd.of_below b5)
   obtain ⟨a1,a2,a3⟩:=HS5.out _ b5
   generalize w4.drew=w5 at*
   have fK:=rK5.frozen m
   have rK6:=Lib.hid (ks_set (m:=m) rK5 (j:Int))
   have uK6:=Lib.hid (Upd.setCell (X:=fun k=>k=K) (p:=⟨K,m,none⟩) uK5 rfl (.int .i64 (j:Int)))
   go_region
   go_wp2_with fail
   go_roundw
   case rel=>exact ⟨j+1,bs.set m (j:Int),by omega,by go_num,by rw[HTS.out];exact HY.out,HBY.out,HWS'.out,rK6.out.drew,uK6.out.drew⟩
   case measure=>simp[intOf];omega
theorem ds_cell {w:World} {O:Nat} {l:List Bool} {t:TypeId} (h:Row w O (l.map Value.bool).toArray t) {n:Nat} (hn:n<l.length):w.cell? ⟨O,n,none⟩=some (.bool (bGet l n)):=out_cell h hn
section
variable {w:World} {B L:Nat} {f:Fm} {vw va vc vk vi vo vb ve:Value}
end
def bls (l:List Bool):List Value:=l.map Value.bool
theorem ds_set {W:World} {K m:Nat} {ds:List Bool} {t:TypeId} (h:Row W K (bls ds).toArray t) (v:Bool):Row (W.setCell ⟨K,m,none⟩ (.bool v)) K (bls (ds.set m v)).toArray t:=by
 have:=h.set m (.bool v)
 rw[List.setIfInBounds_toArray] at this
 rw[bls,List.map_set]
 exact this
end Go.Proofs.YtdkgkacnjdnpoaaGreat.Q
namespace Go.Proofs.YtdkgkacnjdnpoaaGreat.Q.Fo
open Vf
def Mt (ms0:List Bool) (S:List Int) (ms:List Bool):Prop:=ms.length=ms0.length∧∀c:Nat,bGet ms c=true↔bGet ms0 c=true∨(c:Int)∈S
theorem mt_refl (ms:List Bool):Mt ms [] ms:=⟨rfl,fun c=>by simp⟩
theorem mt_trans {m0 m1 m2:List Bool} {S T:List Int} (h:Mt m0 S m1) (k:Mt m1 T m2):Mt m0 (S++T) m2:=⟨k.1.trans h.1,fun c=>by rw[k.2,h.2,List.mem_append,or_assoc]⟩
theorem mt_one {ms:List Bool} {n:Int} (h0:0≤n) (h1:n<ms.length):Mt ms [n] (ms.set n.toNat true):=⟨by simp,fun c=>by
 have:=bGet_set (ds:=ms) (n:=n) (c:=c) h0 h1
 unfold bGet
 rw[Int.toNat_natCast,this,List.mem_singleton]
 by_cases g:n=c
 ·rw[if_pos g];simp[g]
 ·rw[if_neg g]
  exact ⟨fun q=> .inl q,fun q=>q.elim id (fun q=>absurd q.symm g)⟩⟩
noncomputable def wantTo (e:Ex) (k:Nat):List Int:=(if namedB e.op=true then [e.n] else [])++(if e.op=21 then [] else if e.op=22 then ((e.args.take k).map wantE).headD [] else ((e.args.take k).map wantE).flatten)
section
variable {e x:Ex} {k:Nat}
theorem want_zero:wantTo e 0=if namedB e.op=true then [e.n] else []:=by
 unfold wantTo
 rw[List.take_zero]
 simp
theorem want_fin:wantTo e e.args.length=wantE e:=by
 rw[wantE_eq]
 unfold wantTo want1
 rw[List.take_length]
theorem want_yes (h:e.args[k]? =some x) (h1:e.op≠21) (h2:e.op≠22∨k=0):wantTo e (k+1)=wantTo e k++wantE x:=by
 unfold wantTo
 rw[if_neg h1,if_neg h1,take_succ_map wantE h,List.append_assoc]
 congr 1
 split
 ·obtain rfl:k=0:=h2.elim (fun g=>absurd ‹e.op=22› g) id
  simp
 ·simp
theorem want_no (h:e.args[k]? =some x) (h1:e.op=21∨(e.op=22∧k≠0)):wantTo e (k+1)=wantTo e k:=by
 unfold wantTo
 rcases h1 with g|⟨g,g0⟩
 ·rw[if_pos g,if_pos g]
 ·have h21:¬e.op=21:=by omega
  rw[if_neg h21,if_neg h21,if_pos g,if_pos g,take_succ_map wantE h]
  congr 1
  have hl:0<e.args.length:=by have:=(List.getElem?_eq_some_iff.1 h).1;omega
  cases ha:e.args with
  |nil=>rw[ha] at hl;simp at hl
  |cons y l=>
   obtain ⟨j,rfl⟩:∃j,k=j+1:=⟨k-1,by omega⟩
   simp
end
end Go.Proofs.YtdkgkacnjdnpoaaGreat.Q.Fo
namespace Go.Proofs.YtdkgkacnjdnpoaaGreat.Q
open Go.RowKit Vf Fo
attribute [local go_sem ↓] Go.wp_at_zero Go.wp_at_succ
def WantP (M:Nat) (ms:List Bool) (S:List Int) (w:World) (r:Ending) (w':World):Prop:=r= .returned (.tuple #[])∧∃ms',Row w' M (bls ms').toArray 4∧Mt ms S ms'∧Upd (fun k=>k=M) w w'
theorem fwants_any {f:Fl} {B M:Nat} (hBM:B≤M) (e:Ex):∀(A:Option Addr) (cap:Nat) (ms:List Bool) (w:World),B≤w.heap.size→ExOk e→e.args.length≤cap→cap≤maxLen→IsExs w B A e.args→plainE f e→ms.length=f.wires.length→f.wires.length≤1600→Row w M (bls ms).toArray 4→
  Calls Tryz.prog 117 #[exV e A cap,.slice (some ⟨M,0,none⟩) f.wires.length f.wires.length] w (WantP M ms (wantE e) w):=by
 induction e using Ex.ind with
 |h e ih=>
  intro A cap ms w hBw hok hcap hmax hx hp hml hwl hr
  obtain ⟨hp1,hp2⟩:=plainE_iff.1 hp
  have hMl:=hr.lt
  have HI:Hid (∀x∈e.args,∀(A:Option Addr) (cap:Nat) (ms:List Bool) (W:World),B≤W.heap.size→ExOk x→x.args.length≤cap→cap≤maxLen→IsExs W B A x.args→ms.length=f.wires.length→Row W M (bls ms).toArray 4→Calls Tryz.prog 117 #[exV x A cap,.slice (some ⟨M,0,none⟩) f.wires.length f.wires.length] W (WantP M ms (wantE x) W)):=fun x hx A cap ms W h1 h2 h3 h4 h5 h6 h7=>ih x hx A cap ms W h1 h2 h3 h4 h5 (hp2 x hx) h6 hwl h7
  have HW:Hid (namedB e.op=true→isW f.fm e.n):=fun hn=>plain1_w hp1 hn
  have b1:Below w.heap.size w (w.alloc (.cells (exRw e A cap) 63)):=bE
  have rX:=Row.new w (exRw e A cap) 63
  have rM:=hr.below b1 hMl
  have HXS:=Lib.hid (fun W (hW:Below B w W)=>hx.below hW)
  have HNM:=Lib.hid (fnamed_any e.op)
  have HML:=Lib.hid hml
  have hcm:e.args.length≤9223372036854775807:=by unfold maxLen at hmax;omega
  unfold maxLen at hmax
  have hMw:M≠w.heap.size:=by omega
  clear ih hx hok hp hp1 hp2 hr hml
  go_enter Tryz.func117,Tryz.ntmps117
  go_upto_region 1 with (fail)
  generalize w.alloc (.cells (exRw e A cap) 63)=w1 at*
  have hXl:=rX.lt
  have hs1:=b1.size
  have HRE:Hid (∀W,Upd (fun k=>k=M) w1 W→W.cell? ⟨w.heap.size,0,none⟩=some (.int .i64 e.op)∧W.cell? ⟨w.heap.size,1,none⟩=some (.string e.name)∧W.cell? ⟨w.heap.size,2,none⟩=some (.int .i64 e.n)∧W.cell? ⟨w.heap.size,3,none⟩=some (.slice A e.args.length cap)∧W.cell? ⟨w.heap.size,4,none⟩=some (.int .i64 e.line)∧W.cell? ⟨w.heap.size,5,none⟩=some (.int .i64 e.col)):=fun W hW=>(hW.row rX (fun g=>hMw g.symm)).six'
  obtain ⟨c0,c1,c2,c3,c4,c5⟩:=rX.six'
  have HZ:=Lib.hid (want_zero (e:=e))
  obtain ⟨NB,hnb⟩:∃NB,namedB e.op=NB:=⟨_,rfl⟩
  rw[hnb] at HNM HW HZ
  have HNB:=Lib.hid hnb
  clear hnb rX
  go_wp2_with fail
  (with_reducible refine (HNM.out _).mono ?_)
  rintro r _ ⟨rfl,rfl⟩
  go_upto_if 8 with (fail)
  go_cut[] (fun W=>∃ms1,Row W M (bls ms1).toArray 4∧Mt ms (wantTo e 0) ms1∧Upd (fun k=>k=M) w1 W)
  case first=>
   cases NB
   ·rw[if_neg (by decide)] at HZ
    go_wp2_with fail
    go_meet
    exact ⟨ms,rM,by rw[HZ.out];exact mt_refl ms,Upd.refl _ _⟩
   ·rw[if_pos rfl] at HZ
    have hw:=HW.out rfl
    obtain ⟨m,hm0⟩:=Int.eq_ofNat_of_zero_le hw.1
    have hm:m<f.wires.length:=by have h9:e.n<f.wires.length:=hw.2;omega
    have hm':(m:Int)<f.wires.length:=by omega
    have HMT:Hid (Mt ms (wantTo e 0) (ms.set m true)):=by
     have:=mt_one (ms:=ms) (n:=e.n) hw.1 (by rw[HML.out];exact hw.2)
     show Mt _ _ _
     rw[HZ.out]
     rwa [hm0,Int.toNat_natCast,←hm0] at this
    have qM:w1.cell? ⟨M,m,none⟩=some (.bool (bGet ms m)):=ds_cell rM (by rw[HML.out];exact hm)
    have fM:=rM.frozen m
    have rM6:=Lib.hid (ds_set (m:=m) rM true)
    have uM6:=Lib.hid (Upd.setCell (X:=fun k=>k=M) (p:=⟨M,m,none⟩) (Upd.refl _ w1) rfl (.bool true))
    rw[hm0] at c2
    clear hm0 hw rM
    go_wp2_with fail
    go_meet
    exact ⟨_,rM6.out,HMT.out,uM6.out⟩
  case rest=>
   obtain ⟨ms1,rM1,hMT1,u1⟩:=hcut
   have HR1:=Lib.hid rM1
   have HM1:=Lib.hid hMT1
   have HU1:=Lib.hid u1
   clear c0 c1 c2 c3 c4 c5 rM rM1 hMT1
   obtain ⟨c0,c1,c2,c3,c4,c5⟩:=HRE.out _ u1
   go_wp2_with fail
   clear c0 c1 c2 c3 c4 c5 u1
   go_loopw[16] (fun i wr=>∃(k:Nat) (ms2:List Bool),k≤e.args.length∧i= .int .i64 k∧Hid (Row wr M (bls ms2).toArray 4)∧Hid (Mt ms (wantTo e k) ms2)∧Hid (Upd (fun k=>k=M) w1 wr)) (fun i _=>e.args.length-(intOf i).toNat)
   case atStart=>exact ⟨0,ms1,Nat.zero_le _,rfl,HR1,HM1,HU1⟩
   case round=>
    clear HR1 HM1 HU1
    obtain ⟨k,ms2,hk,rfl,HR,HMT,HU⟩:=hrel
    have hu:=HU.out
    have hus:=hu.size
    by_cases hlt:k<e.args.length
    rotate_left 1
    ·obtain rfl:k=e.args.length:=by omega
     have HF:Hid (Mt ms (wantE e) ms2):=by have:=HMT.out;rwa [want_fin] at this
     go_wp2_with fail
     (try simp only[Exit.inBlock,Exit.then])
     refine bodyPost_ret (results_none rfl _ _ _) rfl ?_
     exact ⟨rfl,ms2,HR.out,HF.out,(Upd.of_below b1).trans hu⟩
    have hbB:Below B w wr:=(b1.mono hBw).trans (hu.below (fun k hk=>by omega) (by omega))
    obtain ⟨b,off,x,A',cap',rfl,hbb,hxk,hxm,hok',hcap',hmax',hx',d0,d1,d2,d3,d4,d5⟩:=(HXS.out _ hbB).at_ hlt
    have hk':(k:Int)<e.args.length:=by omega
    have bx:Below wr.heap.size wr (wr.alloc (.cells (exRw x A' cap') 63)):=bE
    have hBx:B≤wr.heap.size:=by omega
    have HC:=Lib.hid (HI.out x hxm A' cap' ms2 (wr.alloc (.cells (exRw x A' cap') 63)) (by have:=bx.size;omega) hok' hcap' hmax' (hx'.below (bx.mono hBx)) (by rw[HMT.out.1];exact HML.out) (HR.out.below bx HR.out.lt))
    have HY:=Lib.hid (fun h1 h2=>want_yes hxk h1 h2)
    have HN:=Lib.hid (fun h1=>want_no hxk h1)
    have HUX:=Lib.hid (hu.trans (Upd.of_below bx))
    have HRX:=Lib.hid (HR.out.below bx HR.out.lt)
    obtain ⟨c0,c1,c2,c3,c4,c5⟩:=HRE.out _ HUX.out
    clear hxk hxm hok' hcap' hmax' hx' hbB
    have rx:=Row.new wr (exRw x A' cap') 63
    go_upto_region 6 with (fail)
    generalize wr.alloc (.cells (exRw x A' cap') 63)=w4 at*
    obtain ⟨x0,x1,x2,x3,x4,x5⟩:=rx.six'
    clear rx
    by_cases hq:e.op=21∨(e.op=22∧k≠0)
    ·have HT:=Lib.hid (HN.out hq)
     have HMT':Hid (Mt ms (wantTo e (k+1)) ms2):=by have:=HMT.out;rwa [←HT.out] at this
     have hqs:(e.op !=21)=false∨((e.op !=21)=true∧(e.op !=22)=false∧((k:Int)==0)=false):=by
      rcases hq with g|⟨g,g0⟩
      ·exact .inl (by rw[g];rfl)
      ·exact .inr ⟨by rw[g];rfl,by rw[g];rfl,by rw[beq_eq_false_iff_ne];omega⟩
     clear hq
     rcases hqs with g|⟨g,g1,g2⟩
     all_goals
      go_wp2_with fail
      go_roundw
      case rel=>exact ⟨k+1,ms2,by omega,by go_num,HRX,HMT',HUX⟩
      case measure=>simp[intOf];omega
    have HT:=Lib.hid (HY.out (by omega) (by omega))
    have hqs:(e.op !=21)=true∧((e.op !=22)=true∨((e.op !=22)=false∧((k:Int)==0)=true)):=by
     refine ⟨by rw[bne_iff_ne];omega,?_⟩
     by_cases g:e.op=22
     ·exact .inr ⟨by rw[g];rfl,by rw[beq_iff_eq];omega⟩
     ·exact .inl (by rw[bne_iff_ne];exact g)
    clear hq
    obtain ⟨g,g1|⟨g1,g2⟩⟩:=hqs
    all_goals
     go_wp2_with fail
     (with_reducible refine HC.out.mono ?_)
     rintro r w6 ⟨rfl,ms3,hR3,hT3,hU3⟩
     have HMT':Hid (Mt ms (wantTo e (k+1)) ms3):=by
      show Mt _ _ _
      rw[HT.out]
      exact mt_trans HMT.out hT3
     have HU':=Lib.hid (HUX.out.trans hU3)
     have HR':=Lib.hid hR3
     clear hR3 hT3 hU3 x0 x1 x2 x3 x4 x5 c0 c1 c2 c3 c4 c5 d0 d1 d2 d3 d4 d5
     go_wp2_with fail
     go_roundw
     case rel=>exact ⟨k+1,ms3,by omega,by go_num,HR',HMT',HU'⟩
     case measure=>simp[intOf];omega
end Go.Proofs.YtdkgkacnjdnpoaaGreat.Q
namespace Go.Proofs.YtdkgkacnjdnpoaaGreat.Q.Fo
open Vf
def Hang (f:Fl) (i c:Int):Prop:=∃d∈f.defs,d.1=i∧(c∈wantE d.2∨∃g∈clockOf f.fm i,g.wire=c)
structure RowS (f:Fl) (ds:List Bool):Prop where
 len:ds.length=f.wires.length
 done:∀m:Nat,bGet ds m=true→DoneL f m
def readyS (f:Fl) (ds:List Bool) (i:Int):Prop:=bGet ds i=false∧∀c:Nat,Hang f i c→bGet ds c=true
section
variable {f:Fl} {ds:List Bool}
theorem rows_start (f:Fl):RowS f (List.replicate f.wires.length false):=⟨by simp,fun m hm=>by
 simp only[bGet,List.getD_eq_getElem?_getD,List.getElem?_replicate] at hm
 split at hm<;>simp at hm⟩
def Cov (f:Fl):Prop:=∀i:Nat,i<f.wires.length→(i:Int)∈f.ins∨∃d∈f.defs,d.1=i
def WantW (f:Fl):Prop:=∀d∈f.defs,(∀n∈wantE d.2,isW f.fm n)∧∀g∈clockOf f.fm d.1,isW f.fm g.wire
theorem rows_step (hc:Cov f) (hw:WantW f) (h:RowS f ds) {i:Nat} (hi:i<f.wires.length) (hr:readyS f ds i):RowS f (ds.set i true):=by
 refine ⟨by simp[h.len],fun m hm=>?_⟩
 have:=bGet_set (ds:=ds) (n:=(i:Int)) (c:=m) (by omega) (by rw[h.len];omega)
 unfold bGet at hm
 rw[Int.toNat_natCast] at this hm
 rw[this] at hm
 by_cases e:(i:Int)=m
 ·rw[←e]
  rcases hc i hi with g|⟨d,hd,g⟩
  ·exact DoneL.ins _ g
  ·rw[←g]
   have key:∀n:Int,0≤n→Hang f i n→DoneL f n:=fun n h0 hn=>by
    obtain ⟨c,rfl⟩:=Int.eq_ofNat_of_zero_le h0
    exact h.done c (hr.2 c hn)
   exact DoneL.def_ d hd (fun n hn=>key n ((hw d hd).1 n hn).1 ⟨d,hd,g,.inl hn⟩) (fun q hq=>key q.wire ((hw d hd).2 q hq).1 ⟨d,hd,g,.inr ⟨q,by rw[←g];exact hq,rfl⟩⟩)
 ·rw[if_neg e] at hm
  exact h.done m hm
theorem rows_closed (hi:∀n∈f.ins,isW f.fm n) (hd:∀d∈f.defs,isW f.fm d.1) (hni:∀n∈f.ins,∀d∈f.defs,d.1≠n) (hu:∀d∈f.defs,∀d'∈f.defs,d.1=d'.1→d=d') (hn:∀i:Nat,i<f.wires.length→¬readyS f ds i) {n:Int} (h:DoneL f n):bGet ds n=true:=by
 induction h with
 |ins n h=>
  obtain ⟨m,rfl⟩:=Int.eq_ofNat_of_zero_le (hi n h).1
  cases hb:bGet ds m with
  |true=>rfl
  |false=>
   refine absurd ⟨hb,fun c hc=>?_⟩ (hn m (by have h9:(m:Int)<f.wires.length:=(hi _ h).2;omega))
   obtain ⟨d,hdd,g,_⟩:=hc
   exact absurd g (hni _ h d hdd)
 |def_ d hdd _ _ ih1 ih2=>
  obtain ⟨m,hm⟩:=Int.eq_ofNat_of_zero_le (hd d hdd).1
  rw[hm] at ih2⊢
  cases hb:bGet ds m with
  |true=>rfl
  |false=>
   refine absurd ⟨hb,fun c hc=>?_⟩ (hn m (by have h9:d.1<f.wires.length:=(hd d hdd).2;omega))
   obtain ⟨d',hd',g,q⟩:=hc
   have e:=hu d hdd d' hd' (hm.trans g.symm)
   subst e
   rcases q with q|⟨g',q,q2⟩
   ·exact ih1 _ q
   ·rw[←q2];exact ih2 g' q
theorem rows_end (hi:∀n∈f.ins,isW f.fm n) (hd:∀d∈f.defs,isW f.fm d.1) (hni:∀n∈f.ins,∀d∈f.defs,d.1≠n) (hu:∀d∈f.defs,∀d'∈f.defs,d.1=d'.1→d=d') (h:RowS f ds) (hn:∀i:Nat,i<f.wires.length→¬readyS f ds i):(∀n:Nat,n<f.wires.length→DoneL f n)↔∀b∈ds,b=true:=by
 constructor
 ·intro hr b hb
  obtain ⟨i,hi',e⟩:=List.getElem_of_mem hb
  have:=rows_closed hi hd hni hu hn (hr i (by rw[←h.len];exact hi'))
  simp only[bGet,List.getD_eq_getElem?_getD,Int.toNat_natCast,List.getElem?_eq_getElem hi',Option.getD_some] at this
  rw[←e];exact this
 ·intro ha n hn'
  refine h.done n ?_
  have hl:n<ds.length:=by rw[h.len];exact hn'
  simp only[bGet,List.getD_eq_getElem?_getD,Int.toNat_natCast]
  rw[List.getElem?_eq_getElem hl]
  exact ha _ (List.getElem_mem hl)
end
end Go.Proofs.YtdkgkacnjdnpoaaGreat.Q.Fo
