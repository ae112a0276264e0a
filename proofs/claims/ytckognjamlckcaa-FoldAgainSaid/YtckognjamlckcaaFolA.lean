/-
  The document's run of a form: what lies in memory; a wire's value. fold: the parts of an act; plain acts; which act each wire is the To of.
-/
import Derived.Test.YtckognjamlckcaaR24A
import Derived.Test.YtckognjamlckcaaSemP
import Derived.Test.YtckognjamlckcaaNmD
import Derived.Test.YtckognjamlckcaaFldU
namespace Go.Proofs.Ytckognjamlckcaa.Fo
open Vf Ar
theorem byR_at:∀(l:List Ac) (i k:Nat) (x:Ac),l[k]? =some x→(∀j,j<k→∀y,l[j]? =some y→y.dst≠x.dst)→byR x.dst i l=((i+k:Nat):Int)
 | [],i,k,x,h,_=>by simp at h
 |y::l,i,0,x,h,_=>by
  simp at h;subst h
  simp[byR]
 |y::l,i,k+1,x,h,g=>by
  simp only[List.getElem?_cons_succ] at h
  have h0:=g 0 (by omega) y (by simp)
  rw[byR,if_neg h0,byR_at l (i+1) k x h (fun j hj z hz=>g (j+1) (by omega) z (by simpa using hz))]
  congr 1
  omega
theorem byR_none:∀(l:List Ac) (i:Nat) (n:Int),(∀y∈l,y.dst≠n)→byR n i l= -1
 | [],_,_,_=>rfl
 |y::l,i,n,h=>by
  rw[byR,if_neg (h y (by simp)),byR_none l (i+1) n (fun z hz=>h z (by simp[hz]))]
def plF (f:Fm):List Int:=(List.range f.wires.length).map (fun (n:Nat)=>byR (n:Int) 0 f.acts)
theorem plF_len (f:Fm):(plF f).length=f.wires.length:=by simp[plF]
theorem plF_get {f:Fm} {m:Nat} (h:m<f.wires.length):(plF f)[m]? =some (byR (m:Int) 0 f.acts):=by simp[plF,h]
theorem place_act {f:Fm} (hf:formOk f) {k:Nat} {x:Ac} (h:f.acts[k]? =some x):byR x.dst 0 f.acts=(k:Int):=by
 rw[byR_at f.acts 0 k x h (fun j hj y hy=>hf.2.2.2.2.1.2.2.1 j k y x hj hy h),Nat.zero_add]
theorem place_in {f:Fm} (hf:formOk f) {n:Int} (h:n∈f.ins):byR n 0 f.acts= -1:=
 byR_none _ _ _ fun y hy e=>(hf.2.2.2.2.1.2.1 y hy).2 (e▸h)
end Go.Proofs.Ytckognjamlckcaa.Fo
namespace Go.Proofs.Ytckognjamlckcaa
open Go.RowKit Vf Fo Ar
attribute [local go_sem ↓] Go.wp_at_zero Go.wp_at_succ
def RunF (f:Fm) (cs row:List Int) (R K V:Nat) (vw va vc vk vi vo vC vR vP:Value) (B:Nat) (W:World):Prop:=
 FmAt W B f vw va vc vk vi vo∧SlV W B 1 isInt vC cs∧SlV W B 1 isInt vR row∧SlV W B 1 isInt vP (plF f)∧
  Row W R #[vw,va,vc,vk,vi,vo,vC,vR,.slice (some ⟨K,0,none⟩) f.wires.length f.wires.length,.slice (some ⟨V,0,none⟩) f.wires.length f.wires.length,vP] 94
structure RunAt (f:Fm) (cs row:List Int) (R K V:Nat) (vw va vc vk vi vo vC vR vP:Value) (W:World) (ds:List Bool) (vs:List Int):Prop where
 keep:∀W',Upd (fun k=>k=K∨k=V) W W'→RunF f cs row R K V vw va vc vk vi vo vC vR vP W.heap.size W'
 k:Row W K (bls ds).toArray 4
 v:Row W V (ints vs).toArray 3
 kv:K≠V
 dl:ds.length=f.wires.length
 vl:vs.length=f.wires.length
 wf:∀x∈vs,Wf x
 inv:∀n,isW f n→bGet ds n=true→getI vs n=valF f cs row n
section
variable {f:Fm} {cs row:List Int} {R K V:Nat} {vw va vc vk vi vo vC vR vP:Value} {W W':World} {ds ds':List Bool} {vs vs':List Int}
theorem RunF.more {B B':Nat} (h:RunF f cs row R K V vw va vc vk vi vo vC vR vP B W) (hB:B≤B'):RunF f cs row R K V vw va vc vk vi vo vC vR vP B' W:=
 ⟨h.1.keep (fun _ _ _ hc=>hc) hB,h.2.1.more hB,h.2.2.1.more hB,h.2.2.2.1.more hB,h.2.2.2.2⟩
theorem RunAt.upd (h:RunAt f cs row R K V vw va vc vk vi vo vC vR vP W ds vs) (u:Upd (fun k=>k=K∨k=V) W W') (hk:Row W' K (bls ds').toArray 4) (hv:Row W' V (ints vs').toArray 3)
  (hd:ds'.length=f.wires.length) (hl:vs'.length=f.wires.length) (hw:∀x∈vs',Wf x) (hi:∀n,isW f n→bGet ds' n=true→getI vs' n=valF f cs row n):RunAt f cs row R K V vw va vc vk vi vo vC vR vP W' ds' vs':=
 ⟨fun W2 u2=>(h.keep W2 (u.trans u2)).more u.size,hk,hv,h.kv,hd,hl,hw,hi⟩
theorem RunAt.below (h:RunAt f cs row R K V vw va vc vk vi vo vC vR vP W ds vs) (hb:Below W.heap.size W W'):RunAt f cs row R K V vw va vc vk vi vo vC vR vP W' ds vs:=
 h.upd (Upd.of_below hb) (h.k.below hb h.k.lt) (h.v.below hb h.v.lt) h.dl h.vl h.wf h.inv
theorem run11 {a0 a1 a2 a3 a4 a5 a6 a7 a8 a9 a10:Value} {t:TypeId} (h:Row W R #[a0,a1,a2,a3,a4,a5,a6,a7,a8,a9,a10] t):
  W.cell? ⟨R,0,none⟩=some a0∧W.cell? ⟨R,1,none⟩=some a1∧W.cell? ⟨R,2,none⟩=some a2∧W.cell? ⟨R,3,none⟩=some a3∧W.cell? ⟨R,4,none⟩=some a4∧W.cell? ⟨R,5,none⟩=some a5∧W.cell? ⟨R,6,none⟩=some a6∧W.cell? ⟨R,7,none⟩=some a7∧W.cell? ⟨R,8,none⟩=some a8∧W.cell? ⟨R,9,none⟩=some a9∧W.cell? ⟨R,10,none⟩=some a10:=
 ⟨h.cell 0,h.cell 1,h.cell 2,h.cell 3,h.cell 4,h.cell 5,h.cell 6,h.cell 7,h.cell 8,h.cell 9,h.cell 10⟩
theorem vs_cell (r:Row W V (ints vs).toArray 3) {n:Nat} (hn:n<vs.length):W.cell? ⟨V,n,none⟩=some (.int .i64 (getI vs n)):=by
 refine (r.cell n).trans ?_
 rw[List.getElem?_toArray]
 simp[ints,getI,List.getD_eq_getElem?_getD,hn]
theorem vs_set (r:Row W V (ints vs).toArray 3) (n:Nat) (x:Int):Row (W.setCell ⟨V,n,none⟩ (.int .i64 x)) V (ints (vs.set n x)).toArray 3:=by
 have:=r.set n (.int .i64 x)
 simpa[ints,List.map_set] using this
theorem getI_set' {vs:List Int} {m j:Nat} {x:Int} (hm:m<vs.length):getI (vs.set m x) (j:Int)=if j=m then x else getI vs (j:Int):=by
 simp only[getI,Int.toNat_natCast,List.getD_eq_getElem?_getD,List.getElem?_set]
 by_cases e:m=j
 ·subst e;simp[hm]
 ·rw[if_neg e,if_neg (fun g=>e g.symm)]
theorem RunAt.setV (h:RunAt f cs row R K V vw va vc vk vi vo vC vR vP W ds vs) (m:Nat) (hm:m<f.wires.length) (hw:Wf (valF f cs row (m:Int))):
  RunAt f cs row R K V vw va vc vk vi vo vC vR vP (W.setCell ⟨V,m,none⟩ (.int .i64 (valF f cs row (m:Int)))) ds (vs.set m (valF f cs row (m:Int)))∧Upd (fun k=>k=K∨k=V) W (W.setCell ⟨V,m,none⟩ (.int .i64 (valF f cs row (m:Int)))):=by
 have u:=Upd.setCell (X:=fun k=>k=K∨k=V) (p:=⟨V,m,none⟩) (Upd.refl _ W) (.inr rfl) (.int .i64 (valF f cs row (m:Int)))
 have u1:=Upd.setCell (X:=fun k=>k=V) (p:=⟨V,m,none⟩) (Upd.refl _ W) rfl (.int .i64 (valF f cs row (m:Int)))
 refine ⟨h.upd u (u1.row h.k h.kv) (vs_set h.v m _) h.dl (by simp[h.vl]) (fun x hx=>?_) (fun n hn hd=>?_),u⟩
 ·rcases List.mem_or_eq_of_mem_set hx with hx|hx
  ·exact h.wf x hx
  ·rw[hx];exact hw
 ·obtain ⟨j,rfl⟩:=Int.eq_ofNat_of_zero_le hn.1
  rw[getI_set' (by rw[h.vl];exact hm)]
  split
  ·rename_i e;rw[e]
  ·exact h.inv _ hn hd
theorem RunAt.setK (h:RunAt f cs row R K V vw va vc vk vi vo vC vR vP W ds vs) (m:Nat) (hv:getI vs (m:Int)=valF f cs row (m:Int)):
  RunAt f cs row R K V vw va vc vk vi vo vC vR vP (W.setCell ⟨K,m,none⟩ (.bool true)) (ds.set m true) vs∧Upd (fun k=>k=K∨k=V) W (W.setCell ⟨K,m,none⟩ (.bool true)):=by
 have u:=Upd.setCell (X:=fun k=>k=K∨k=V) (p:=⟨K,m,none⟩) (Upd.refl _ W) (.inl rfl) (.bool true)
 have u1:=Upd.setCell (X:=fun k=>k=K) (p:=⟨K,m,none⟩) (Upd.refl _ W) rfl (.bool true)
 refine ⟨h.upd u (ds_set (m:=m) h.k true) (u1.row h.v (fun e=>h.kv e.symm)) (by simp[h.dl]) h.vl h.wf (fun n hn hd=>?_),u⟩
 obtain ⟨j,rfl⟩:=Int.eq_ofNat_of_zero_le hn.1
 by_cases e:j=m
 ·rw[e];exact hv
 ·refine h.inv _ hn ?_
  simp only[bGet,Int.toNat_natCast,List.getD_eq_getElem?_getD,List.getElem?_set] at hd⊢
  rw[if_neg (fun g=>e g.symm)] at hd
  exact hd
end
def WireC (f:Fm) (cs row:List Int) (R K V:Nat) (vw va vc vk vi vo vC vR vP:Value) (F:FuncId) (n:Int):Prop:=
 ∀W ds vs,RunAt f cs row R K V vw va vc vk vi vo vC vR vP W ds vs→Calls Try.prog F #[.pointer (some ⟨R,0,none⟩),.int .i64 n] W fun e W'=>
  e= .returned (.int .i64 (valF f cs row n))∧Wf (valF f cs row n)∧(∃ds' vs',RunAt f cs row R K V vw va vc vk vi vo vC vR vP W' ds' vs')∧Upd (fun k=>k=K∨k=V) W W'
set_option maxRecDepth 100000 in
set_option maxHeartbeats 8000000 in
theorem wire_of_find {f:Fm} {cs row:List Int} {R K V:Nat} {vw va vc vk vi vo vC vR vP:Value} (n:Int) (hn:isW f n) (hC:WireC f cs row R K V vw va vc vk vi vo vC vR vP 81 n):
  WireC f cs row R K V vw va vc vk vi vo vC vR vP 66 n:=by
 intro W ds vs h
 obtain ⟨m,rfl⟩:=Int.eq_ofNat_of_zero_le hn.1
 have hm:m<f.wires.length:=by have:=hn.2;omega
 have hm':(m:Int)<f.wires.length:=by omega
 have HH:=Lib.hid h
 have HC:=Lib.hid hC
 have HN:=Lib.hid hn
 have ck:=ds_cell h.k (n:=m) (by rw[h.dl];exact hm)
 have cv:=vs_cell h.v (n:=m) (by rw[h.vl];exact hm)
 obtain ⟨r0,r1,r2,r3,r4,r5,r6,r7,r8,r9,r10⟩:=run11 (h.keep W (Upd.refl _ _)).2.2.2.2
 have HWF:Hid (Wf (getI vs (m:Int))):=by
  have:m<vs.length:=by rw[h.vl];exact hm
  show Wf _
  unfold getI
  rw[Int.toNat_natCast,List.getD_eq_getElem?_getD,List.getElem?_eq_getElem this]
  exact h.wf _ (List.getElem_mem this)
 clear h hC hn
 generalize hB:bGet ds (m:Int)=B0 at*
 have HB:=Lib.hid hB
 clear hB
 cases B0
 ·clear cv HWF
  go_enter Try.func66,Try.ntmps66
  go_upto_region 2 with (fail)
  clear r0 r1 r2 r3 r4 r5 r6 r7 r8 r9 r10 ck
  have HQ:=Lib.hid (fun W1 (hb:Below W.heap.size W W1)=>(run11 (HH.out.below hb|>.keep W1 (Upd.refl _ _)).2.2.2.2).2.2.2.2.2.2.2.2.2.1)
  refine wp_region_held_drew (S:=fun W=>W.cell? ⟨R,9,none⟩=some (.slice (some ⟨V,0,none⟩) f.wires.length f.wires.length)) (by kernel_rfl) ?_ (fun hHeld=>?_)
  ·(try dsimp only);(first|exact HS9.out _|exact HS8.out|(with_reducible exact HQ.out _ bE))
  refine tk 0 (some 13) rfl ?_
  refine tk 1 (some 14) rfl ?_
  refine tk 2 (some 15) rfl ?_
  refine tk 3 (some 16) rfl ?_
  refine tk 4 (some 17) rfl ?_
  refine tk 5 (some 18) rfl ?_
  refine tk 6 (some 19) rfl ?_
  refine rd1 7 (some 20) rfl (fun KK hKK=>?_)
  go_simp
  (go_at_call 81;refine Calls.mono (HC.out _ _ _ (HH.out.below bE)) ?_;rintro e w8 ⟨rfl,hw8,⟨ds',vs',h8⟩,hu8⟩;(have HS8:=Lib.hid ((run11 (h8.keep w8 (Upd.refl _ _)).2.2.2.2).2.2.2.2.2.2.2.2.2.1));(have HS9:=Lib.hid (fun u=>(run11 (h8.keep (w8.setCell ⟨V,m,none⟩ u) (Upd.setCell (X:=fun k=>k=K∨k=V) (p:=⟨V,m,none⟩) (Upd.refl _ w8) (.inr rfl) u)).2.2.2.2).2.2.2.2.2.2.2.2.2.1));(have cv8:=vs_cell h8.v (n:=m) (by rw[h8.vl];exact hm));(have fz8:=h8.v.frozen m))
  (try go_wp2_with fail)
  refine hKK.out _ _ ?_ (fun hHeld=>?_)
  ·(try dsimp only);(first|exact HS9.out _|exact HS8.out|(with_reducible exact HQ.out _ bE))
  clear hKK KK
  try simp only[Act.put,List.setIfInBounds_toArray,List.set_cons_zero,List.set_cons_succ]
  refine tk 8 (some 21) rfl ?_
  refine rd1 9 none rfl (fun KK hKK=>?_)
  go_simp
  refine hKK.out _ _ ?_ (fun hHeld=>?_)
  ·(try dsimp only);(first|exact HS9.out _|exact HS8.out|(with_reducible exact HQ.out _ bE))
  clear hKK KK
  try simp only[Act.put,List.setIfInBounds_toArray,List.set_cons_zero,List.set_cons_succ]
  refine wpAnyH_done (by kernel_rfl) ?_ _
  have HU8:=Lib.hid hu8
  have HW8:=Lib.hid hw8
  obtain ⟨h9,u9⟩:=h8.setV m hm hw8
  have hv9:getI (vs'.set m (valF f cs row (m:Int))) (m:Int)=valF f cs row (m:Int):=by rw[getI_set' (by rw[h8.vl];exact hm),if_pos rfl]
  generalize vs'.set m (valF f cs row (m:Int))=vs9 at*
  clear cv8 fz8 HS8 HS9 hHeld h8
  have HU9:=Lib.hid (HU8.out.trans u9)
  have HHH9:=Lib.hid h9
  have HV9:=Lib.hid hv9
  have hcv:=vs_cell h9.v (n:=m) (by rw[h9.vl];exact hm)
  rw[hv9] at hcv
  have hck:=ds_cell h9.k (n:=m) (by rw[h9.dl];exact hm)
  have fzk:=h9.k.frozen m
  obtain ⟨r0,r1,r2,r3,r4,r5,r6,r7,r8,r9,r10⟩:=run11 (h9.keep _ (Upd.refl _ _)).2.2.2.2
  obtain ⟨h10,u10⟩:=h9.setK m hv9
  have HU10:=Lib.hid (HU9.out.trans u10)
  have HH10:=Lib.hid h10
  have HRT:=Lib.hid (run11 (h10.keep _ (Upd.refl _ _)).2.2.2.2)
  have HCV:=Lib.hid (vs_cell h10.v (n:=m) (by rw[h10.vl];exact hm))
  rw[hv9] at HCV
  clear h9 h10 u9 u10 hv9 hu8 hw8
  generalize hvv:valF f cs row (m:Int)=vv at*
  have HVV:=Lib.hid hvv
  clear hvv
  generalize w8.setCell ⟨V,m,none⟩ (.int .i64 vv)=w9 at*
  generalize bGet ds' (m:Int)=BB at hck
  go_upto_region 4 with (fail)
  clear r0 r1 r2 r3 r4 r5 r6 r7 r8 r9 r10 hck fzk hcv
  obtain ⟨r0,r1,r2,r3,r4,r5,r6,r7,r8,r9,r10⟩:=HRT.out
  have hcv:=HCV.out
  generalize w9.setCell ⟨K,m,none⟩ (.bool true)=w10 at*
  go_wp2_with fail
  go_ret
  exact ⟨ret_int HVV.out.symm,by rw[HVV.out];exact HW8.out,⟨_,_,HH10.out⟩,(Upd.of_below ((Below.refl W.heap.size W).drew)).trans HU10.out⟩
 ·have HV:=Lib.hid (HH.out.inv _ HN.out HB.out)
  go_enter Try.func66,Try.ntmps66
  go_wp2_with fail
  go_ret
  exact ⟨ret_int HV.out,by rw[←HV.out];exact HWF.out,⟨ds,vs,HH.out⟩,Upd.refl _ _⟩
end Go.Proofs.Ytckognjamlckcaa
namespace Go.Proofs.Ytckognjamlckcaa
open Go.RowKit Vf Fo
attribute [local go_sem ↓] Go.wp_at_zero Go.wp_at_succ
def PartsIs (x:Ac) (w:World) (e:Ending) (w':World):Prop:=∃v,e= .returned v∧SlV w' w'.heap.size 1 isInt v (wants x)∧(∀k,v.ownBlock=some k→w.heap.size≤k)∧Below w.heap.size w w'
theorem sl_updX {X:Nat→Prop} {W W':World} {B:Nat} {v:Value} {l:List Int} (h:SlV W B 1 isInt v l) (u:Upd X W W') (hB:B≤W.heap.size) (hv:∀k,v.ownBlock=some k→¬X k):SlV W' B 1 isInt v l:=by
 obtain ⟨A,c,rfl,h1,h2,h3⟩:=h
 refine ⟨A,c,rfl,h1,h2,fun hn=>?_⟩
 obtain ⟨b,off,rfl,hb,hx⟩:=h3 hn
 refine ⟨b,off,rfl,hb,fun i x hi=>?_⟩
 obtain ⟨cs,q1,q2⟩:=hx i x hi
 refine ⟨cs,fun j y hy=>?_,q2⟩
 have:=u.block b (by omega) (hv b rfl)
 have g:=q1 j y hy
 simp only[World.cell?] at g⊢
 rw[this]
 exact g
set_option maxRecDepth 100000 in
set_option maxHeartbeats 2000000 in
theorem parts_any (x:Ac) (wx:AcIn x) (hu:0≤uses x.op) (w:World):
  Calls Try.prog 25 #[acV x] w (PartsIs x w):=by
 obtain ⟨op,dst,a,b,c,k⟩:=x
 obtain ⟨_,_,wa,wb,wc,_⟩:=wx
 dsimp only at hu wa wb wc
 have H0:Hid (∀W,Below w.heap.size w W→wants ⟨op,dst,a,b,c,k⟩=[]→SlV W W.heap.size 1 isInt (.slice none 0 0) (wants ⟨op,dst,a,b,c,k⟩)):=fun W _ e=>by rw[e];exact SlV.nil
 have H1:Hid (∀W:World,wants ⟨op,dst,a,b,c,k⟩=[a]→SlV (W.alloc (.cells #[.int .i64 a] 3)) (W.alloc (.cells #[.int .i64 a] 3)).heap.size 1 isInt (.slice (some ⟨W.heap.size,0,none⟩) 1 1) (wants ⟨op,dst,a,b,c,k⟩)):=fun W e=>by rw[e];exact (one_slv wa).more (by simp)
 have H2:Hid (∀W:World,wants ⟨op,dst,a,b,c,k⟩=[a,b]→SlV (W.alloc (.cells #[.int .i64 a,.int .i64 b] 3)) (W.alloc (.cells #[.int .i64 a,.int .i64 b] 3)).heap.size 1 isInt (.slice (some ⟨W.heap.size,0,none⟩) 2 2) (wants ⟨op,dst,a,b,c,k⟩)):=fun W e=>by rw[e];exact (two_slv wa wb).more (by simp)
 have H3:Hid (∀W:World,wants ⟨op,dst,a,b,c,k⟩=[a,b,c]→SlV (W.alloc (.cells #[.int .i64 a,.int .i64 b,.int .i64 c] 3)) (W.alloc (.cells #[.int .i64 a,.int .i64 b,.int .i64 c] 3)).heap.size 1 isInt (.slice (some ⟨W.heap.size,0,none⟩) 3 3) (wants ⟨op,dst,a,b,c,k⟩)):=fun W e=>by rw[e];exact (three_slv wa wb wc).more (by simp)
 have b1:Below w.heap.size w (w.alloc (.cells #[.int .i64 op,.int .i64 dst,.int .i64 a,.int .i64 b,.int .i64 c,.int .i64 k] 50)):=bE
 have hs1:w.heap.size<(w.alloc (.cells #[.int .i64 op,.int .i64 dst,.int .i64 a,.int .i64 b,.int .i64 c,.int .i64 k] 50)).heap.size:=by simp
 obtain ⟨c0,c1,c2,c3,c4,c5⟩:=(Row.new w #[.int .i64 op,.int .i64 dst,.int .i64 a,.int .i64 b,.int .i64 c,.int .i64 k] 50).six'
 rcases uses_cases hu with hop|hop|hop|hop|hop|hop|hop|hop|hop
 ·have HW:Hid (wants ⟨op,dst,a,b,c,k⟩=[]):=by subst hop;rfl
  subst hop
  clear hu
  go_enter Try.func25,Try.ntmps25
  go_upto_region 1 with (fail)
  generalize w.alloc (.cells #[.int .i64 1,.int .i64 dst,.int .i64 a,.int .i64 b,.int .i64 c,.int .i64 k] 50)=w1 at*
  go_wp2_with fail
  go_ret
  exact ⟨_,rfl,H0.out _ b1 HW.out,(fun k h=>by cases h),b1⟩
 ·have HW:Hid (wants ⟨op,dst,a,b,c,k⟩=[]):=by subst hop;rfl
  subst hop
  clear hu
  go_enter Try.func25,Try.ntmps25
  go_upto_region 1 with (fail)
  generalize w.alloc (.cells #[.int .i64 2,.int .i64 dst,.int .i64 a,.int .i64 b,.int .i64 c,.int .i64 k] 50)=w1 at*
  go_wp2_with fail
  go_ret
  exact ⟨_,rfl,H0.out _ b1 HW.out,(fun k h=>by cases h),b1⟩
 ·have HW:Hid (wants ⟨op,dst,a,b,c,k⟩=[]):=by subst hop;rfl
  subst hop
  clear hu
  go_enter Try.func25,Try.ntmps25
  go_upto_region 1 with (fail)
  generalize w.alloc (.cells #[.int .i64 21,.int .i64 dst,.int .i64 a,.int .i64 b,.int .i64 c,.int .i64 k] 50)=w1 at*
  go_wp2_with fail
  go_ret
  exact ⟨_,rfl,H0.out _ b1 HW.out,(fun k h=>by cases h),b1⟩
 ·have HW:Hid (wants ⟨op,dst,a,b,c,k⟩=[a]):=by subst hop;rfl
  subst hop
  clear hu
  go_enter Try.func25,Try.ntmps25
  go_upto_region 1 with (fail)
  generalize w.alloc (.cells #[.int .i64 3,.int .i64 dst,.int .i64 a,.int .i64 b,.int .i64 c,.int .i64 k] 50)=w1 at*
  go_wp2_with fail
  go_ret
  exact ⟨_,rfl,H1.out _ HW.out,(fun k h=>by cases h;exact b1.size),bE⟩
 ·have HW:Hid (wants ⟨op,dst,a,b,c,k⟩=[a]):=by subst hop;rfl
  subst hop
  clear hu
  go_enter Try.func25,Try.ntmps25
  go_upto_region 1 with (fail)
  generalize w.alloc (.cells #[.int .i64 24,.int .i64 dst,.int .i64 a,.int .i64 b,.int .i64 c,.int .i64 k] 50)=w1 at*
  go_wp2_with fail
  go_ret
  exact ⟨_,rfl,H1.out _ HW.out,(fun k h=>by cases h;exact b1.size),bE⟩
 ·have HW:Hid (wants ⟨op,dst,a,b,c,k⟩=[a,b,c]):=by subst hop;rfl
  subst hop
  clear hu
  go_enter Try.func25,Try.ntmps25
  go_upto_region 1 with (fail)
  generalize w.alloc (.cells #[.int .i64 26,.int .i64 dst,.int .i64 a,.int .i64 b,.int .i64 c,.int .i64 k] 50)=w1 at*
  go_wp2_with fail
  go_ret
  exact ⟨_,rfl,H3.out _ HW.out,(fun k h=>by cases h;exact b1.size),bE⟩
 ·have HW:Hid (wants ⟨op,dst,a,b,c,k⟩=[a,b,c]):=by subst hop;rfl
  subst hop
  clear hu
  go_enter Try.func25,Try.ntmps25
  go_upto_region 1 with (fail)
  generalize w.alloc (.cells #[.int .i64 27,.int .i64 dst,.int .i64 a,.int .i64 b,.int .i64 c,.int .i64 k] 50)=w1 at*
  go_wp2_with fail
  go_ret
  exact ⟨_,rfl,H3.out _ HW.out,(fun k h=>by cases h;exact b1.size),bE⟩
 ·have HW:Hid (wants ⟨op,dst,a,b,c,k⟩=[a]):=by have h1:uses op=1:=(by unfold uses;rw[if_neg (by omega),if_pos (by omega)]);show _=_;simp[wants,h1]
  have o5:(op==5)=true∨((op==5)=false∧(op==6)=true):=by rcases (by omega:op=5∨op=6) with rfl|rfl<;>simp
  have o1:(op==1)=false:=by rw[beq_eq_false_iff_ne];omega
  have o2:(op==2)=false:=by rw[beq_eq_false_iff_ne];omega
  have o3:(op==3)=false:=by rw[beq_eq_false_iff_ne];omega
  have o21:(op==21)=false:=by rw[beq_eq_false_iff_ne];omega
  clear hu hop
  rcases o5 with o5|⟨o5,o6⟩
  all_goals
   go_enter Try.func25,Try.ntmps25
   go_upto_region 1 with (fail)
   generalize w.alloc (.cells #[.int .i64 op,.int .i64 dst,.int .i64 a,.int .i64 b,.int .i64 c,.int .i64 k] 50)=w1 at*
   go_wp2_with fail
   go_ret
   exact ⟨_,rfl,H1.out _ HW.out,(fun k h=>by cases h;exact b1.size),bE⟩
 ·have HW:Hid (wants ⟨op,dst,a,b,c,k⟩=[a,b]):=by have h1:uses op=2:=(by unfold uses;rw[if_neg (by omega),if_neg (by omega),if_pos (by omega)]);show _=_;simp[wants,h1]
  have o1:(op==1)=false:=by rw[beq_eq_false_iff_ne];omega
  have o2:(op==2)=false:=by rw[beq_eq_false_iff_ne];omega
  have o3:(op==3)=false:=by rw[beq_eq_false_iff_ne];omega
  have o5:(op==5)=false:=by rw[beq_eq_false_iff_ne];omega
  have o6:(op==6)=false:=by rw[beq_eq_false_iff_ne];omega
  have o21:(op==21)=false:=by rw[beq_eq_false_iff_ne];omega
  have o24:(op==24)=false:=by rw[beq_eq_false_iff_ne];omega
  have o26:(op==26)=false:=by rw[beq_eq_false_iff_ne];omega
  have o27:(op==27)=false:=by rw[beq_eq_false_iff_ne];omega
  clear hu hop
  go_enter Try.func25,Try.ntmps25
  go_upto_region 1 with (fail)
  generalize w.alloc (.cells #[.int .i64 op,.int .i64 dst,.int .i64 a,.int .i64 b,.int .i64 c,.int .i64 k] 50)=w1 at*
  go_wp2_with fail
  go_ret
  exact ⟨_,rfl,H2.out _ HW.out,(fun k h=>by cases h;exact b1.size),bE⟩
set_option maxRecDepth 100000 in
set_option maxHeartbeats 2000000 in
theorem plain_any (x:Ac) (w:World):Calls Try.prog 53 #[acV x] w fun e w'=>e= .returned (.bool (decide (x.op=1∨x.op=2)))∧Below w.heap.size w w':=by
 obtain ⟨op,dst,a,b,c,k⟩:=x
 have b1:Below w.heap.size w (w.alloc (.cells #[.int .i64 op,.int .i64 dst,.int .i64 a,.int .i64 b,.int .i64 c,.int .i64 k] 50)):=bE
 obtain ⟨c0,c1,c2,c3,c4,c5⟩:=(Row.new w #[.int .i64 op,.int .i64 dst,.int .i64 a,.int .i64 b,.int .i64 c,.int .i64 k] 50).six'
 by_cases h1:op=1
 ·subst h1
  go_enter Try.func53,Try.ntmps53
  go_wp2_with fail
  go_ret
  exact ⟨rfl,b1⟩
 ·have o1:(op==1)=false:=by simp[h1]
  have HR:Hid ((op==2)=decide (op=1∨op=2)):=by show _=_;simp[h1];rfl
  clear h1
  go_enter Try.func53,Try.ntmps53
  go_wp2_with fail
  go_ret
  exact ⟨ret_bool HR.out,b1⟩
def ByTo (f:Fm) (k:Nat) (L:List Int):Prop:=L.length=f.wires.length∧∀m:Nat,m<f.wires.length→(getI L m= -1∧∀i x,i<k→f.acts[i]? =some x→x.dst≠m)∨∃i x,i<k∧f.acts[i]? =some x∧x.dst=m∧getI L m=i
theorem by_start (f:Fm):ByTo f 0 (List.replicate f.wires.length (-1)):=⟨by simp,fun m hm=> .inl ⟨by simp[getI,List.getD_eq_getElem?_getD,hm],fun i x hi=>absurd hi (by omega)⟩⟩
theorem by_step {f:Fm} {k m:Nat} {L:List Int} {x:Ac} (h:ByTo f k L) (hx:f.acts[k]? =some x) (hm:x.dst=m) (hl:m<f.wires.length):ByTo f (k+1) (L.set m (k:Int)):=by
 refine ⟨by simp[h.1],fun j hj=>?_⟩
 rw[getI_set' (by rw[h.1];exact hl)]
 by_cases e:j=m
 ·rw[if_pos e]
  exact .inr ⟨k,x,by omega,hx,by rw[hm,e],rfl⟩
 ·rw[if_neg e]
  rcases h.2 j hj with ⟨h1,h2⟩|⟨i,y,h1,h2,h3,h4⟩
  ·refine .inl ⟨h1,fun i y hi hy=>?_⟩
   rcases Nat.lt_or_ge i k with q|q
   ·exact h2 i y q hy
   ·obtain rfl:i=k:=by omega
    rw[hx] at hy
    injection hy with hy
    rw[←hy,hm]
    omega
  ·exact .inr ⟨i,y,by omega,h2,h3,h4⟩
def ByL (f:Fm) (L:List Int):Prop:=L.length=f.wires.length∧(∀x∈L,Wf x)∧∀n,isW f n→(n∈f.ins∧getI L n= -1)∨∃i x,f.acts[i]? =some x∧x.dst=n∧getI L n=(i:Nat)
theorem by_end {f:Fm} {L:List Int} (hf:formOk f) (h:ByTo f f.acts.length L) (hw:∀x∈L,Wf x):ByL f L:=by
 refine ⟨h.1,hw,fun n hn=>?_⟩
 obtain ⟨m,rfl⟩:=Int.eq_ofNat_of_zero_le hn.1
 rcases h.2 m (by have:=hn.2;omega) with ⟨h1,h2⟩|⟨i,x,_,h2,h3,h4⟩
 ·rcases hf.2.2.2.2.1.2.2.2 m (by have:=hn.2;omega) with hi|⟨x,hx,e⟩
  ·exact .inl ⟨hi,h1⟩
  ·obtain ⟨i,hi⟩:=List.getElem?_of_mem hx
   exact absurd e (h2 i x (List.getElem?_eq_some_iff.1 hi).1 hi)
 ·exact .inr ⟨i,x,h2,h3,h4⟩
def ByIs (f:Fm) (w:World) (e:Ending) (w':World):Prop:=∃K L,e= .returned (.slice (some ⟨K,0,none⟩) f.wires.length f.wires.length)∧w.heap.size<K∧Row w' K (ints L).toArray 3∧ByL f L∧Below w.heap.size w w'
theorem wf_set {l:List Int} {m:Nat} {v:Int} (h:∀x∈l,Wf x) (hv:Wf v):∀x∈l.set m v,Wf x:=fun x hx=>by
 rcases List.mem_or_eq_of_mem_set hx with hx|hx
 ·exact h x hx
 ·rw[hx];exact hv
set_option maxRecDepth 100000 in
set_option maxHeartbeats 4000000 in
theorem by_any {w:World} {B:Nat} {f:Fm} {vw va vc vk vi vo:Value} (h:FmAt w B f vw va vc vk vi vo) (hB:B≤w.heap.size) (hf:formOk f) (hal:f.acts.length≤100000):
  Calls Try.prog 21 #[fmV vw va vc vk vi vo] w (ByIs f w):=by
 obtain ⟨Aw,cw,rfl,lw,mw,sw⟩:=h.wires
 obtain ⟨Aa,ca,rfl,la,ma,sa⟩:=h.acts
 have mw':cw≤9223372036854775807:=by unfold maxLen at mw;omega
 have ma':ca≤9223372036854775807:=by unfold maxLen at ma;omega
 have hwl:=hf.1.2.2
 have b0:Below w.heap.size w ((w.alloc (.cells #[.slice Aw f.wires.length cw,.slice Aa f.acts.length ca,vc,vk,vi,vo] 28)).alloc (.cells #[.int .i64 (-1)] 3)):=bE
 have rF:=(Row.new w #[.slice Aw f.wires.length cw,.slice Aa f.acts.length ca,vc,vk,vi,vo] 28).alloc (.cells #[.int .i64 (-1)] 3)
 have HR:=Lib.hid (repeat_any (-1) f.wires.length (w.heap.size+1) 0 1 hwl ((w.alloc (.cells #[.slice Aw f.wires.length cw,.slice Aa f.acts.length ca,vc,vk,vi,vo] 28)).alloc (.cells #[.int .i64 (-1)] 3)) (by simp) (by
  have:=(rowNew2 w (.cells #[.slice Aw f.wires.length cw,.slice Aa f.acts.length ca,vc,vk,vi,vo] 28) #[.int .i64 (-1)] 3).cell 0
  exact this))
 have HSA:=Lib.hid (fun W (hW:Below w.heap.size w W)=>sa.below (hW.mono hB))
 have HDW:=Lib.hid (fun (x:Ac) (hx:x∈f.acts)=>(hf.2.2.2.2.1.2.1 x hx).1)
 have HOK:=Lib.hid hf
 clear h sw sa hf hwl
 go_enter Try.func21,Try.ntmps21
 go_wp2_with fail
 (with_reducible refine HR.out.mono ?_)
 rintro e w1 ⟨K,rfl,hK,rK,hb1⟩
 have hK':w.heap.size<K:=by simp at hK;omega
 have hGK:w.heap.size≠K:=by simp at hK;omega
 have b1:=b0.trans (hb1.mono b0.size)
 have rF1:=rF.below hb1 rF.lt
 have hs1:=b1.size
 have HRK:Hid (Row w1 K (ints (List.replicate f.wires.length (-1))).toArray 3):=by
  show Row _ _ _ _
  rw[ints,List.map_replicate];exact rK
 obtain ⟨f0,f1,f2,f3,f4,f5⟩:=rF1.six'
 clear b0 rF HR rK hK
 go_wp2_with fail
 go_loopw[14] (fun i wr=>∃(k:Nat) (L:List Int),k≤f.acts.length∧i= .int .i64 k∧Hid (ByTo f k L)∧Hid (∀x∈L,Wf x)∧Row wr K (ints L).toArray 3∧Upd (fun k=>k=K) w1 wr) (fun i _=>f.acts.length-(intOf i).toNat)
 case atStart=>exact ⟨0,_,Nat.zero_le _,rfl,by_start f,(fun x hx=>by rw[List.eq_of_mem_replicate hx];exact wf_of (by omega)),HRK.out,Upd.refl _ _⟩
 case round=>
  clear f0 f1 f2 f3 f4 f5 HRK
  obtain ⟨k,L,hk,rfl,HD,HWL,rK,uK⟩:=hrel
  have hbw:Below w.heap.size w wr:=b1.trans (uK.below (B:=w.heap.size) (fun k hk=>by omega) hs1)
  have HLL:=Lib.hid HD.out.1
  by_cases hlt:k<f.acts.length
  ·obtain ⟨b,off,⟨xo,xd,xa,xb,xc,xk⟩,rfl,hbb,hx,wx,d0,d1,d2,d3,d4,d5⟩:=(HSA.out _ hbw).ac hlt
   have hw:=HDW.out _ (List.mem_of_getElem? hx)
   dsimp only at d0 d1 d2 d3 d4 d5 hw
   obtain ⟨m,rfl⟩:=Int.eq_ofNat_of_zero_le hw.1
   have hm:m<f.wires.length:=by have:=hw.2;omega
   have hm':(m:Int)<f.wires.length:=by omega
   have hk':(k:Int)<f.acts.length:=by omega
   have HD':=Lib.hid (by_step HD.out hx rfl hm)
   have HWL':=Lib.hid (wf_set (m:=m) HWL.out (v:=(k:Int)) (wf_of (by omega)))
   have hKl:=rK.lt
   have r6:=Row.new wr #[.int .i64 xo,.int .i64 (m:Int),.int .i64 xa,.int .i64 xb,.int .i64 xc,.int .i64 xk] 50
   have b4:Below wr.heap.size wr (wr.alloc (.cells #[.int .i64 xo,.int .i64 (m:Int),.int .i64 xa,.int .i64 xb,.int .i64 xc,.int .i64 xk] 50)):=bE
   have rK4:=rK.below b4 hKl
   have uK4:=uK.trans (Upd.of_below b4)
   clear hx hw wx
   go_upto_region 5 with (fail)
   generalize wr.alloc (.cells #[.int .i64 xo,.int .i64 (m:Int),.int .i64 xa,.int .i64 xb,.int .i64 xc,.int .i64 xk] 50)=w4 at*
   obtain ⟨e0,e1,e2,e3,e4,e5⟩:=r6.six'
   have cK:=vs_cell rK4 (n:=m) (by rw[HLL.out];exact hm)
   have fK:=rK4.frozen m
   have rK6:=Lib.hid (vs_set rK4 m (k:Int))
   have uK6:=Lib.hid (Upd.setCell (X:=fun k=>k=K) (p:=⟨K,m,none⟩) uK4 rfl (.int .i64 (k:Int)))
   generalize getI L (m:Int)=V at cK
   clear d0 d1 d2 d3 d4 d5 rK rK4 uK uK4 b4
   go_wp2_with fail
   go_roundw
   case rel=>exact ⟨k+1,_,by omega,by go_num,HD'.out,HWL'.out,rK6.out,uK6.out⟩
   case measure=>simp[intOf];omega
  ·obtain rfl:k=f.acts.length:=by omega
   have HE:=Lib.hid (by_end HOK.out HD.out HWL.out)
   go_wp2_with fail
   go_ret
   exact ⟨K,L,rfl,hK',rK,HE.out,hbw⟩
end Go.Proofs.Ytckognjamlckcaa
