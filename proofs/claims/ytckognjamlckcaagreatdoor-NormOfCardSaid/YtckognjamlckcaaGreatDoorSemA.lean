/-
  The document's run of a form: what lies in memory; a wire's value.
-/
import Derived.Test.YtckognjamlckcaaGreatDoorZz
import Derived.Test.YtckognjamlckcaaGreatDoorR24A
import Derived.Test.YtckognjamlckcaaGreatDoorNoV
import Derived.Test.YtckognjamlckcaaGreatDoorNmD
set_option maxHeartbeats 8000000
set_option maxRecDepth 100000
namespace Go.Proofs.YtckognjamlckcaaGreatDoor.Fo
open Vf Ar
theorem byR_at:∀(l:List Ac) (i k:Nat) (x:Ac),l[k]? =some x→(∀j,j<k→∀y,l[j]? =some y→y.dst≠x.dst)→byR x.dst i l=((i+k:Nat):Int)
 | [],i,k,x,h,_=>by simp at h
 |y::l,i,0,x,h,_=>by
  simp at h;subst h
  simp[byR]
 |y::l,i,k+1,x,h,g=>by
  simp only[List.getElem?_cons_succ] at h
  have h0:=g 0 (by omega) y (by simp)
  rw[byR,if_neg h0,byR_at l (i+1) k x h (fun j hj z hz=>g (j+1) (by omega) z (by simpa using hz))]
  congr 1
  omega
theorem byR_none:∀(l:List Ac) (i:Nat) (n:Int),(∀y∈l,y.dst≠n)→byR n i l= -1
 | [],_,_,_=>rfl
 |y::l,i,n,h=>by
  rw[byR,if_neg (h y (by simp)),byR_none l (i+1) n (fun z hz=>h z (by simp[hz]))]
def plF (f:Fm):List Int:=(List.range f.wires.length).map (fun (n:Nat)=>byR (n:Int) 0 f.acts)
theorem plF_len (f:Fm):(plF f).length=f.wires.length:=by simp[plF]
theorem plF_get {f:Fm} {m:Nat} (h:m<f.wires.length):(plF f)[m]? =some (byR (m:Int) 0 f.acts):=by simp[plF,h]
theorem place_act {f:Fm} (hf:formOk f) {k:Nat} {x:Ac} (h:f.acts[k]? =some x):byR x.dst 0 f.acts=(k:Int):=by
 rw[byR_at f.acts 0 k x h (fun j hj y hy=>hf.2.2.2.2.1.2.2.1 j k y x hj hy h),Nat.zero_add]
theorem place_in {f:Fm} (hf:formOk f) {n:Int} (h:n∈f.ins):byR n 0 f.acts= -1:=
 byR_none _ _ _ fun y hy e=>(hf.2.2.2.2.1.2.1 y hy).2 (e▸h)
end Go.Proofs.YtckognjamlckcaaGreatDoor.Fo
namespace Go.Proofs.YtckognjamlckcaaGreatDoor
open Go.RowKit Vf Fo Ar
attribute [local go_sem ↓] Go.wp_at_zero Go.wp_at_succ
def RunF (f:Fm) (cs row:List Int) (R K V:Nat) (vw va vc vk vi vo vC vR vP:Value) (B:Nat) (W:World):Prop:=
 FmAt W B f vw va vc vk vi vo∧SlV W B 1 isInt vC cs∧SlV W B 1 isInt vR row∧SlV W B 1 isInt vP (plF f)∧
  Row W R #[vw,va,vc,vk,vi,vo,vC,vR,.slice (some ⟨K,0,none⟩) f.wires.length f.wires.length,.slice (some ⟨V,0,none⟩) f.wires.length f.wires.length,vP] 129
structure RunAt (f:Fm) (cs row:List Int) (R K V:Nat) (vw va vc vk vi vo vC vR vP:Value) (W:World) (ds:List Bool) (vs:List Int):Prop where
 keep:∀W',Upd (fun k=>k=K∨k=V) W W'→RunF f cs row R K V vw va vc vk vi vo vC vR vP W.heap.size W'
 k:Row W K (bls ds).toArray 4
 v:Row W V (ints vs).toArray 3
 kv:K≠V
 dl:ds.length=f.wires.length
 vl:vs.length=f.wires.length
 wf:∀x∈vs,Wf x
 inv:∀n,isW f n→bGet ds n=true→getI vs n=valF f cs row n
section
variable {f:Fm} {cs row:List Int} {R K V:Nat} {vw va vc vk vi vo vC vR vP:Value} {W W':World} {ds ds':List Bool} {vs vs':List Int}
theorem RunF.more {B B':Nat} (h:RunF f cs row R K V vw va vc vk vi vo vC vR vP B W) (hB:B≤B'):RunF f cs row R K V vw va vc vk vi vo vC vR vP B' W:=
 ⟨h.1.keep (fun _ _ _ hc=>hc) hB,h.2.1.more hB,h.2.2.1.more hB,h.2.2.2.1.more hB,h.2.2.2.2⟩
theorem RunAt.upd (h:RunAt f cs row R K V vw va vc vk vi vo vC vR vP W ds vs) (u:Upd (fun k=>k=K∨k=V) W W') (hk:Row W' K (bls ds').toArray 4) (hv:Row W' V (ints vs').toArray 3)
  (hd:ds'.length=f.wires.length) (hl:vs'.length=f.wires.length) (hw:∀x∈vs',Wf x) (hi:∀n,isW f n→bGet ds' n=true→getI vs' n=valF f cs row n):RunAt f cs row R K V vw va vc vk vi vo vC vR vP W' ds' vs':=
 ⟨fun W2 u2=>(h.keep W2 (u.trans u2)).more u.size,hk,hv,h.kv,hd,hl,hw,hi⟩
theorem RunAt.below (h:RunAt f cs row R K V vw va vc vk vi vo vC vR vP W ds vs) (hb:Below W.heap.size W W'):RunAt f cs row R K V vw va vc vk vi vo vC vR vP W' ds vs:=
 h.upd (Upd.of_below hb) (h.k.below hb h.k.lt) (h.v.below hb h.v.lt) h.dl h.vl h.wf h.inv
theorem run11 {a0 a1 a2 a3 a4 a5 a6 a7 a8 a9 a10:Value} {t:TypeId} (h:Row W R #[a0,a1,a2,a3,a4,a5,a6,a7,a8,a9,a10] t):
  W.cell? ⟨R,0,none⟩=some a0∧W.cell? ⟨R,1,none⟩=some a1∧W.cell? ⟨R,2,none⟩=some a2∧W.cell? ⟨R,3,none⟩=some a3∧W.cell? ⟨R,4,none⟩=some a4∧W.cell? ⟨R,5,none⟩=some a5∧W.cell? ⟨R,6,none⟩=some a6∧W.cell? ⟨R,7,none⟩=some a7∧W.cell? ⟨R,8,none⟩=some a8∧W.cell? ⟨R,9,none⟩=some a9∧W.cell? ⟨R,10,none⟩=some a10:=
 ⟨h.cell 0,h.cell 1,h.cell 2,h.cell 3,h.cell 4,h.cell 5,h.cell 6,h.cell 7,h.cell 8,h.cell 9,h.cell 10⟩
theorem vs_cell (r:Row W V (ints vs).toArray 3) {n:Nat} (hn:n<vs.length):W.cell? ⟨V,n,none⟩=some (.int .i64 (getI vs n)):=by
 refine (r.cell n).trans ?_
 rw[List.getElem?_toArray]
 simp[ints,getI,List.getD_eq_getElem?_getD,hn]
theorem vs_set (r:Row W V (ints vs).toArray 3) (n:Nat) (x:Int):Row (W.setCell ⟨V,n,none⟩ (.int .i64 x)) V (ints (vs.set n x)).toArray 3:=by
 have:=r.set n (.int .i64 x)
 simpa[ints,List.map_set] using this
theorem getI_set' {vs:List Int} {m j:Nat} {x:Int} (hm:m<vs.length):getI (vs.set m x) (j:Int)=if j=m then x else getI vs (j:Int):=by
 simp only[getI,Int.toNat_natCast,List.getD_eq_getElem?_getD,List.getElem?_set]
 by_cases e:m=j
 ·subst e;simp[hm]
 ·rw[if_neg e,if_neg (fun g=>e g.symm)]
theorem RunAt.setV (h:RunAt f cs row R K V vw va vc vk vi vo vC vR vP W ds vs) (m:Nat) (hm:m<f.wires.length) (hw:Wf (valF f cs row (m:Int))):
  RunAt f cs row R K V vw va vc vk vi vo vC vR vP (W.setCell ⟨V,m,none⟩ (.int .i64 (valF f cs row (m:Int)))) ds (vs.set m (valF f cs row (m:Int)))∧Upd (fun k=>k=K∨k=V) W (W.setCell ⟨V,m,none⟩ (.int .i64 (valF f cs row (m:Int)))):=by
 have u:=Upd.setCell (X:=fun k=>k=K∨k=V) (p:=⟨V,m,none⟩) (Upd.refl _ W) (.inr rfl) (.int .i64 (valF f cs row (m:Int)))
 have u1:=Upd.setCell (X:=fun k=>k=V) (p:=⟨V,m,none⟩) (Upd.refl _ W) rfl (.int .i64 (valF f cs row (m:Int)))
 refine ⟨h.upd u (u1.row h.k h.kv) (vs_set h.v m _) h.dl (by simp[h.vl]) (fun x hx=>?_) (fun n hn hd=>?_),u⟩
 ·rcases List.mem_or_eq_of_mem_set hx with hx|hx
  ·exact h.wf x hx
  ·rw[hx];exact hw
 ·obtain ⟨j,rfl⟩:=Int.eq_ofNat_of_zero_le hn.1
  rw[getI_set' (by rw[h.vl];exact hm)]
  split
  ·rename_i e;rw[e]
  ·exact h.inv _ hn hd
theorem RunAt.setK (h:RunAt f cs row R K V vw va vc vk vi vo vC vR vP W ds vs) (m:Nat) (hv:getI vs (m:Int)=valF f cs row (m:Int)):
  RunAt f cs row R K V vw va vc vk vi vo vC vR vP (W.setCell ⟨K,m,none⟩ (.bool true)) (ds.set m true) vs∧Upd (fun k=>k=K∨k=V) W (W.setCell ⟨K,m,none⟩ (.bool true)):=by
 have u:=Upd.setCell (X:=fun k=>k=K∨k=V) (p:=⟨K,m,none⟩) (Upd.refl _ W) (.inl rfl) (.bool true)
 have u1:=Upd.setCell (X:=fun k=>k=K) (p:=⟨K,m,none⟩) (Upd.refl _ W) rfl (.bool true)
 refine ⟨h.upd u (ds_set (m:=m) h.k true) (u1.row h.v (fun e=>h.kv e.symm)) (by simp[h.dl]) h.vl h.wf (fun n hn hd=>?_),u⟩
 obtain ⟨j,rfl⟩:=Int.eq_ofNat_of_zero_le hn.1
 by_cases e:j=m
 ·rw[e];exact hv
 ·refine h.inv _ hn ?_
  simp only[bGet,Int.toNat_natCast,List.getD_eq_getElem?_getD,List.getElem?_set] at hd⊢
  rw[if_neg (fun g=>e g.symm)] at hd
  exact hd
end
def WireC (f:Fm) (cs row:List Int) (R K V:Nat) (vw va vc vk vi vo vC vR vP:Value) (F:FuncId) (n:Int):Prop:=
 ∀W ds vs,RunAt f cs row R K V vw va vc vk vi vo vC vR vP W ds vs→Calls Tryz.prog F #[.pointer (some ⟨R,0,none⟩),.int .i64 n] W fun e W'=>
  e= .returned (.int .i64 (valF f cs row n))∧Wf (valF f cs row n)∧(∃ds' vs',RunAt f cs row R K V vw va vc vk vi vo vC vR vP W' ds' vs')∧Upd (fun k=>k=K∨k=V) W W'
theorem wire_of_find {f:Fm} {cs row:List Int} {R K V:Nat} {vw va vc vk vi vo vC vR vP:Value} (n:Int) (hn:isW f n) (hC:WireC f cs row R K V vw va vc vk vi vo vC vR vP 107 n):
  WireC f cs row R K V vw va vc vk vi vo vC vR vP 90 n:=by
 intro W ds vs h
 refine' zq134
 have hm':(m:Int)<f.wires.length:=by omega
 have HH:=Lib.hid h
 have HC:=Lib.hid hC
 have HN:=Lib.hid hn
 have ck:=ds_cell h.k (n:=m) (by rw[h.dl];exact hm)
 have cv:=vs_cell h.v (n:=m) (by rw[h.vl];exact hm)
 obtain ⟨r0,r1,r2,r3,r4,r5,r6,r7,r8,r9,r10⟩:=run11 (h.keep W (Upd.refl _ _)).2.2.2.2
 have HWF:Hid (Wf (getI vs (m:Int))):=by
  have:m<vs.length:=by rw[h.vl];exact hm
  show Wf _
  unfold getI
  rw[Int.toNat_natCast,List.getD_eq_getElem?_getD,List.getElem?_eq_getElem this]
  exact h.wf _ (List.getElem_mem this)
 clear h hC hn
 generalize hB:bGet ds (m:Int)=B0 at*
 have HB:=Lib.hid hB
 clear hB
 cases B0
 ·clear cv HWF
  go_enter Tryz.func90,Tryz.ntmps90
  go_upto_region 2 with (fail)
  clear r0 r1 r2 r3 r4 r5 r6 r7 r8 r9 r10 ck
  have HQ:=Lib.hid (fun W1 (hb:Below W.heap.size W W1)=>(run11 (HH.out.below hb|>.keep W1 (Upd.refl _ _)).2.2.2.2).2.2.2.2.2.2.2.2.2.1)
  refine wp_region_held_drew (S:=fun W=>W.cell? ⟨R,9,none⟩=some (.slice (some ⟨V,0,none⟩) f.wires.length f.wires.length)) (by kernel_rfl) ?_ (fun hHeld=>?_)
  ·(try dsimp only);(first|exact HS9.out _|exact HS8.out|(with_reducible exact HQ.out _ bE))
  refine' zq293
  refine rd1 7 (some 20) rfl (fun KK hKK=>?_)
  go_simp
  (go_at_call 107;refine Calls.mono (HC.out _ _ _ (HH.out.below bE)) ?_;rintro e w8 ⟨rfl,hw8,⟨ds',vs',h8⟩,hu8⟩;(have HS8:=Lib.hid ((run11 (h8.keep w8 (Upd.refl _ _)).2.2.2.2).2.2.2.2.2.2.2.2.2.1));(have HS9:=Lib.hid (fun u=>(run11 (h8.keep (w8.setCell ⟨V,m,none⟩ u) (Upd.setCell (X:=fun k=>k=K∨k=V) (p:=⟨V,m,none⟩) (Upd.refl _ w8) (.inr rfl) u)).2.2.2.2).2.2.2.2.2.2.2.2.2.1));(have cv8:=vs_cell h8.v (n:=m) (by rw[h8.vl];exact hm));(have fz8:=h8.v.frozen m))
  (try go_wp2_with fail)
  refine hKK.out _ _ ?_ (fun hHeld=>?_)
  ·(try dsimp only);(first|exact HS9.out _|exact HS8.out|(with_reducible exact HQ.out _ bE))
  refine' zq4
  refine tk 8 (some 21) rfl ?_
  refine rd1 9 none rfl (fun KK hKK=>?_)
  go_simp
  refine hKK.out _ _ ?_ (fun hHeld=>?_)
  ·(try dsimp only);(first|exact HS9.out _|exact HS8.out|(with_reducible exact HQ.out _ bE))
  refine' zq4
  refine wpAnyH_done (by kernel_rfl) ?_ _
  have HU8:=Lib.hid hu8
  have HW8:=Lib.hid hw8
  obtain ⟨h9,u9⟩:=h8.setV m hm hw8
  have hv9:getI (vs'.set m (valF f cs row (m:Int))) (m:Int)=valF f cs row (m:Int):=by rw[getI_set' (by rw[h8.vl];exact hm),if_pos rfl]
  generalize vs'.set m (valF f cs row (m:Int))=vs9 at*
  clear cv8 fz8 HS8 HS9 hHeld h8
  have HU9:=Lib.hid (HU8.out.trans u9)
  have HHH9:=Lib.hid h9
  have HV9:=Lib.hid hv9
  have hcv:=vs_cell h9.v (n:=m) (by rw[h9.vl];exact hm)
  rw[hv9] at hcv
  have hck:=ds_cell h9.k (n:=m) (by rw[h9.dl];exact hm)
  have fzk:=h9.k.frozen m
  obtain ⟨r0,r1,r2,r3,r4,r5,r6,r7,r8,r9,r10⟩:=run11 (h9.keep _ (Upd.refl _ _)).2.2.2.2
  obtain ⟨h10,u10⟩:=h9.setK m hv9
  have HU10:=Lib.hid (HU9.out.trans u10)
  have HH10:=Lib.hid h10
  have HRT:=Lib.hid (run11 (h10.keep _ (Upd.refl _ _)).2.2.2.2)
  have HCV:=Lib.hid (vs_cell h10.v (n:=m) (by rw[h10.vl];exact hm))
  rw[hv9] at HCV
  clear h9 h10 u9 u10 hv9 hu8 hw8
  generalize hvv:valF f cs row (m:Int)=vv at*
  have HVV:=Lib.hid hvv
  clear hvv
  generalize w8.setCell ⟨V,m,none⟩ (.int .i64 vv)=w9 at*
  generalize bGet ds' (m:Int)=BB at hck
  go_upto_region 4 with (fail)
  clear r0 r1 r2 r3 r4 r5 r6 r7 r8 r9 r10 hck fzk hcv
  obtain ⟨r0,r1,r2,r3,r4,r5,r6,r7,r8,r9,r10⟩:=HRT.out
  have hcv:=HCV.out
  generalize w9.setCell ⟨K,m,none⟩ (.bool true)=w10 at*
  go_wp2_with fail
  go_ret
  exact ⟨ret_int HVV.out.symm,by rw[HVV.out];exact HW8.out,⟨_,_,HH10.out⟩,(Upd.of_below ((Below.refl W.heap.size W).drew)).trans HU10.out⟩
 ·have HV:=Lib.hid (HH.out.inv _ HN.out HB.out)
  go_enter Tryz.func90,Tryz.ntmps90
  go_wp2_with fail
  go_ret
  exact ⟨ret_int HV.out,by rw[←HV.out];exact HWF.out,⟨ds,vs,HH.out⟩,Upd.refl _ _⟩
end Go.Proofs.YtckognjamlckcaaGreatDoor
