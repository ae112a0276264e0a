/-
  The document's run of a form: what lies in memory; a wire's value.
-/
import Derived.Test.YtckognjamlckcaaGreatDoorR24A
import Derived.Test.YtckognjamlckcaaGreatDoorNoV
set_option maxHeartbeats 8000000
set_option maxRecDepth 100000
namespace Go.Proofs.YtckognjamlckcaaGreatDoor.Fo
open Vf Ar
theorem qv:∀(l:List Ac) (i k:Nat) (x:Ac),l[k]? =some x->(∀j,j<k->∀y,l[j]? =some y->y.dst≠x.dst)->bO x.dst i l=((i+k:Nat):Int)
 | [],i,k,x,h,_=>by simp at h
 |y::l,i,0,x,h,_=>by
  simp at h;subst h
  simp[bO]
 |y::l,i,k+1,x,h,g=>by
  simp only[List.getElem?_cons_succ] at h
  have h0:=g 0 (by omega) y (by simp)
  rw[bO,if_neg h0,qv l (i+1) k x h (fun j hj z hz=>g (j+1) (by omega) z (by simpa using hz))]
  congr 1
  omega
theorem mT:∀(l:List Ac) (i:Nat) (n:Int),(∀y∈l,y.dst≠n)->bO n i l= -1
 | [],_,_,_=>rfl
 |y::l,i,n,h=>by
  rw[bO,if_neg (h y (by simp)),mT l (i+1) n (fun z hz=>h z (by simp[hz]))]
def iE (f:Fm):List Int:=(List.range f.wires.length).map (fun (n:Nat)=>bO (n:Int) 0 f.acts)
theorem jS (f:Fm):(iE f).length=f.wires.length:=by simp[iE]
theorem oA {f:Fm} {m:Nat} (h:m<f.wires.length):(iE f)[m]? =some (bO (m:Int) 0 f.acts):=by simp[iE,h]
theorem xI {f:Fm} (hf:bm f) {k:Nat} {x:Ac} (h:f.acts[k]? =some x):bO x.dst 0 f.acts=(k:Int):=by
 rw[qv f.acts 0 k x h (fun j hj y hy=>hf.2.2.2.2.1.2.2.1 j k y x hj hy h),Nat.zero_add]
theorem AG {f:Fm} (hf:bm f) {n:Int} (h:n∈f.ins):bO n 0 f.acts= -1:=
 mT _ _ _ fun y hy e=>(hf.2.2.2.2.1.2.1 y hy).2 (e▸h)
end Go.Proofs.YtckognjamlckcaaGreatDoor.Fo
namespace Go.Proofs.YtckognjamlckcaaGreatDoor
open Go.RowKit Vf Fo Ar
attribute [local go_sem ↓] Go.wp_at_zero Go.wp_at_succ
def qp (f:Fm) (cs row:List Int) (R K V:Nat) (vw va vc vk vi vo vC vR vP:Value) (B:Nat) (W:World):Prop:=
 bQ W B f vw va vc vk vi vo/\aI W B 1 aP vC cs/\aI W B 1 aP vR row/\aI W B 1 aP vP (iE f)/\
  ai W R #[vw,va,vc,vk,vi,vo,vC,vR,.slice (some ⟨K,0,none⟩) f.wires.length f.wires.length,.slice (some ⟨V,0,none⟩) f.wires.length f.wires.length,vP] 129
structure cz (f:Fm) (cs row:List Int) (R K V:Nat) (vw va vc vk vi vo vC vR vP:Value) (W:World) (ds:List Bool) (vs:List Int):Prop where
 keep:∀W',ae (fun k=>k=K\/k=V) W W'->qp f cs row R K V vw va vc vk vi vo vC vR vP W.heap.size W'
 k:ai W K (dI ds).toArray 4
 v:ai W V (al vs).toArray 3
 kv:K≠V
 dl:ds.length=f.wires.length
 vl:vs.length=f.wires.length
 wf:∀x∈vs,Wf x
 inv:∀n,ak f n->aL ds n=true->ao vs n=aK f cs row n
section
variable {f:Fm} {cs row:List Int} {R K V:Nat} {vw va vc vk vi vo vC vR vP:Value} {W W':World} {ds ds':List Bool} {vs vs':List Int}
theorem qp.more {B B':Nat} (h:qp f cs row R K V vw va vc vk vi vo vC vR vP B W) (hB:B<=B'):qp f cs row R K V vw va vc vk vi vo vC vR vP B' W:=
 ⟨h.1.keep (fun _ _ _ hc=>hc) hB,h.2.1.more hB,h.2.2.1.more hB,h.2.2.2.1.more hB,h.2.2.2.2⟩
theorem cz.upd (h:cz f cs row R K V vw va vc vk vi vo vC vR vP W ds vs) (u:ae (fun k=>k=K\/k=V) W W') (hk:ai W' K (dI ds').toArray 4) (hv:ai W' V (al vs').toArray 3)
  (hd:ds'.length=f.wires.length) (hl:vs'.length=f.wires.length) (hw:∀x∈vs',Wf x) (hi:∀n,ak f n->aL ds' n=true->ao vs' n=aK f cs row n):cz f cs row R K V vw va vc vk vi vo vC vR vP W' ds' vs':=
 ⟨fun W2 u2=>(h.keep W2 (u.trans u2)).more u.size,hk,hv,h.kv,hd,hl,hw,hi⟩
theorem cz.below (h:cz f cs row R K V vw va vc vk vi vo vC vR vP W ds vs) (hb:Below W.heap.size W W'):cz f cs row R K V vw va vc vk vi vo vC vR vP W' ds vs:=
 h.upd (ae.of_below hb) (h.k.below hb h.k.lt) (h.v.below hb h.v.lt) h.dl h.vl h.wf h.inv
theorem ff {a0 a1 a2 a3 a4 a5 a6 a7 a8 a9 a10:Value} {t:TypeId} (h:ai W R #[a0,a1,a2,a3,a4,a5,a6,a7,a8,a9,a10] t):
  W.cell? ⟨R,0,none⟩=some a0/\W.cell? ⟨R,1,none⟩=some a1/\W.cell? ⟨R,2,none⟩=some a2/\W.cell? ⟨R,3,none⟩=some a3/\W.cell? ⟨R,4,none⟩=some a4/\W.cell? ⟨R,5,none⟩=some a5/\W.cell? ⟨R,6,none⟩=some a6/\W.cell? ⟨R,7,none⟩=some a7/\W.cell? ⟨R,8,none⟩=some a8/\W.cell? ⟨R,9,none⟩=some a9/\W.cell? ⟨R,10,none⟩=some a10:=
 ⟨h.cell 0,h.cell 1,h.cell 2,h.cell 3,h.cell 4,h.cell 5,h.cell 6,h.cell 7,h.cell 8,h.cell 9,h.cell 10⟩
theorem iR (r:ai W V (al vs).toArray 3) {n:Nat} (hn:n<vs.length):W.cell? ⟨V,n,none⟩=some (.int .i64 (ao vs n)):=by
 refine (r.cell n).trans ?_
 rw[List.getElem?_toArray]
 simp[al,ao,List.getD_eq_getElem?_getD,hn]
theorem qy (r:ai W V (al vs).toArray 3) (n:Nat) (x:Int):ai (W.setCell ⟨V,n,none⟩ (.int .i64 x)) V (al (vs.set n x)).toArray 3:=by
 have:=r.set n (.int .i64 x)
 simpa[al,List.map_set] using this
theorem iM {vs:List Int} {m j:Nat} {x:Int} (hm:m<vs.length):ao (vs.set m x) (j:Int)=if j=m then x else ao vs (j:Int):=by
 simp only[ao,Int.toNat_natCast,List.getD_eq_getElem?_getD,List.getElem?_set]
 by_cases e:m=j
 ·subst e;simp[hm]
 ·rw[if_neg e,if_neg (fun g=>e g.symm)]
theorem cz.setV (h:cz f cs row R K V vw va vc vk vi vo vC vR vP W ds vs) (m:Nat) (hm:m<f.wires.length) (hw:Wf (aK f cs row (m:Int))):
  cz f cs row R K V vw va vc vk vi vo vC vR vP (W.setCell ⟨V,m,none⟩ (.int .i64 (aK f cs row (m:Int)))) ds (vs.set m (aK f cs row (m:Int)))/\ae (fun k=>k=K\/k=V) W (W.setCell ⟨V,m,none⟩ (.int .i64 (aK f cs row (m:Int)))):=by
 have u:=ae.setCell (X:=fun k=>k=K\/k=V) (p:=⟨V,m,none⟩) (ae.refl _ W) (.inr rfl) (.int .i64 (aK f cs row (m:Int)))
 have u1:=ae.setCell (X:=fun k=>k=V) (p:=⟨V,m,none⟩) (ae.refl _ W) rfl (.int .i64 (aK f cs row (m:Int)))
 refine ⟨h.upd u (u1.row h.k h.kv) (qy h.v m _) h.dl (by simp[h.vl]) (fun x hx=>?_) (fun n hn hd=>?_),u⟩
 ·rcases List.mem_or_eq_of_mem_set hx with hx|hx
  ·exact h.wf x hx
  ·rw[hx];exact hw
 ·obtain ⟨j,rfl⟩:=Int.eq_ofNat_of_zero_le hn.1
  rw[iM (by rw[h.vl];exact hm)]
  split
  ·rename_i e;rw[e]
  ·exact h.inv _ hn hd
theorem cz.setK (h:cz f cs row R K V vw va vc vk vi vo vC vR vP W ds vs) (m:Nat) (hv:ao vs (m:Int)=aK f cs row (m:Int)):
  cz f cs row R K V vw va vc vk vi vo vC vR vP (W.setCell ⟨K,m,none⟩ (.bool true)) (ds.set m true) vs/\ae (fun k=>k=K\/k=V) W (W.setCell ⟨K,m,none⟩ (.bool true)):=by
 have u:=ae.setCell (X:=fun k=>k=K\/k=V) (p:=⟨K,m,none⟩) (ae.refl _ W) (.inl rfl) (.bool true)
 have u1:=ae.setCell (X:=fun k=>k=K) (p:=⟨K,m,none⟩) (ae.refl _ W) rfl (.bool true)
 refine ⟨h.upd u (iH (m:=m) h.k true) (u1.row h.v (fun e=>h.kv e.symm)) (by simp[h.dl]) h.vl h.wf (fun n hn hd=>?_),u⟩
 obtain ⟨j,rfl⟩:=Int.eq_ofNat_of_zero_le hn.1
 by_cases e:j=m
 ·rw[e];exact hv
 ·refine h.inv _ hn ?_
  simp only[aL,Int.toNat_natCast,List.getD_eq_getElem?_getD,List.getElem?_set] at hd⊢
  rw[if_neg (fun g=>e g.symm)] at hd
  exact hd
end
def kC (f:Fm) (cs row:List Int) (R K V:Nat) (vw va vc vk vi vo vC vR vP:Value) (F:FuncId) (n:Int):Prop:=
 ∀W ds vs,cz f cs row R K V vw va vc vk vi vo vC vR vP W ds vs->Calls Tryz.prog F #[.pointer (some ⟨R,0,none⟩),.int .i64 n] W fun e W'=>
  e= .returned (.int .i64 (aK f cs row n))/\Wf (aK f cs row n)/\(∃ds' vs',cz f cs row R K V vw va vc vk vi vo vC vR vP W' ds' vs')/\ae (fun k=>k=K\/k=V) W W'
theorem lF {f:Fm} {cs row:List Int} {R K V:Nat} {vw va vc vk vi vo vC vR vP:Value} (n:Int) (hn:ak f n) (hC:kC f cs row R K V vw va vc vk vi vo vC vR vP 107 n):
  kC f cs row R K V vw va vc vk vi vo vC vR vP 90 n:=by
 intro W ds vs h
 refine' zq113
 have hm':(m:Int)<f.wires.length:=by omega
 have HH:=zH h
 have HC:=zH hC
 have HN:=zH hn
 have ck:=cU h.k (n:=m) (by rw[h.dl];exact hm)
 have cv:=iR h.v (n:=m) (by rw[h.vl];exact hm)
 obtain ⟨r0,r1,r2,r3,r4,r5,r6,r7,r8,r9,r10⟩:=ff (h.keep W (ae.refl _ _)).2.2.2.2
 have HWF:Hid (Wf (ao vs (m:Int))):=by
  have:m<vs.length:=by rw[h.vl];exact hm
  show Wf _
  unfold ao
  rw[Int.toNat_natCast,List.getD_eq_getElem?_getD,List.getElem?_eq_getElem this]
  exact h.wf _ (List.getElem_mem this)
 clear h hC hn
 generalize hB:aL ds (m:Int)=B0 at*
 have HB:=zH hB
 clear hB
 cases B0
 ·clear cv HWF
  go_enter Tryz.func90,Tryz.ntmps90
  go_upto_region 2 with (fail)
  clear r0 r1 r2 r3 r4 r5 r6 r7 r8 r9 r10 ck
  have HQ:=zH (fun W1 (hb:Below W.heap.size W W1)=>(ff (HH.o.below hb|>.keep W1 (ae.refl _ _)).2.2.2.2).2.2.2.2.2.2.2.2.2.1)
  refine wp_region_held_drew (S:=fun W=>W.cell? ⟨R,9,none⟩=some (.slice (some ⟨V,0,none⟩) f.wires.length f.wires.length)) (by kernel_rfl) ?_ (fun hHeld=>?_)
  ·(try dsimp only);(first|exact HS9.o _|exact HS8.o|(with_reducible exact HQ.o _ bE))
  refine' zq268
  refine aH 7 (some 20) rfl (fun KK hKK=>?_)
  go_simp
  (go_at_call 107;refine Calls.mono (HC.o _ _ _ (HH.o.below bE)) ?_;rintro e w8 ⟨rfl,hw8,⟨ds',vs',h8⟩,hu8⟩;(have HS8:=zH ((ff (h8.keep w8 (ae.refl _ _)).2.2.2.2).2.2.2.2.2.2.2.2.2.1));(have HS9:=zH (fun u=>(ff (h8.keep (w8.setCell ⟨V,m,none⟩ u) (ae.setCell (X:=fun k=>k=K\/k=V) (p:=⟨V,m,none⟩) (ae.refl _ w8) (.inr rfl) u)).2.2.2.2).2.2.2.2.2.2.2.2.2.1));(have cv8:=iR h8.v (n:=m) (by rw[h8.vl];exact hm));(have fz8:=h8.v.frozen m))
  (try go_wp2_with fail)
  refine hKK.out _ _ ?_ (fun hHeld=>?_)
  ·(try dsimp only);(first|exact HS9.o _|exact HS8.o|(with_reducible exact HQ.o _ bE))
  refine' zq4
  refine tk 8 (some 21) rfl ?_
  refine aH 9 none rfl (fun KK hKK=>?_)
  go_simp
  refine hKK.out _ _ ?_ (fun hHeld=>?_)
  ·(try dsimp only);(first|exact HS9.o _|exact HS8.o|(with_reducible exact HQ.o _ bE))
  refine' zq4
  refine wpAnyH_done (by kernel_rfl) ?_ _
  have HU8:=zH hu8
  have HW8:=zH hw8
  obtain ⟨h9,u9⟩:=h8.setV m hm hw8
  have hv9:ao (vs'.set m (aK f cs row (m:Int))) (m:Int)=aK f cs row (m:Int):=by rw[iM (by rw[h8.vl];exact hm),if_pos rfl]
  generalize vs'.set m (aK f cs row (m:Int))=vs9 at*
  clear cv8 fz8 HS8 HS9 hHeld h8
  have HU9:=zH (HU8.o.trans u9)
  have HHH9:=zH h9
  have HV9:=zH hv9
  have hcv:=iR h9.v (n:=m) (by rw[h9.vl];exact hm)
  rw[hv9] at hcv
  have hck:=cU h9.k (n:=m) (by rw[h9.dl];exact hm)
  have fzk:=h9.k.frozen m
  obtain ⟨r0,r1,r2,r3,r4,r5,r6,r7,r8,r9,r10⟩:=ff (h9.keep _ (ae.refl _ _)).2.2.2.2
  obtain ⟨h10,u10⟩:=h9.setK m hv9
  have HU10:=zH (HU9.o.trans u10)
  have HH10:=zH h10
  have HRT:=zH (ff (h10.keep _ (ae.refl _ _)).2.2.2.2)
  have HCV:=zH (iR h10.v (n:=m) (by rw[h10.vl];exact hm))
  rw[hv9] at HCV
  clear h9 h10 u9 u10 hv9 hu8 hw8
  generalize hvv:aK f cs row (m:Int)=vv at*
  have HVV:=zH hvv
  clear hvv
  generalize w8.setCell ⟨V,m,none⟩ (.int .i64 vv)=w9 at*
  generalize aL ds' (m:Int)=BB at hck
  go_upto_region 4 with (fail)
  clear r0 r1 r2 r3 r4 r5 r6 r7 r8 r9 r10 hck fzk hcv
  obtain ⟨r0,r1,r2,r3,r4,r5,r6,r7,r8,r9,r10⟩:=HRT.o
  have hcv:=HCV.o
  generalize w9.setCell ⟨K,m,none⟩ (.bool true)=w10 at*
  go_wp2_with fail
  go_ret
  exact ⟨az HVV.o.symm,by rw[HVV.o];exact HW8.o,⟨_,_,HH10.o⟩,(ae.of_below ((Below.refl W.heap.size W).drew)).trans HU10.o⟩
 ·have HV:=zH (HH.o.inv _ HN.o HB.o)
  go_enter Tryz.func90,Tryz.ntmps90
  go_wp2_with fail
  go_ret
  exact ⟨az HV.o,by rw[<-HV.o];exact HWF.o,⟨ds,vs,HH.o⟩,ae.refl _ _⟩
end Go.Proofs.YtckognjamlckcaaGreatDoor
