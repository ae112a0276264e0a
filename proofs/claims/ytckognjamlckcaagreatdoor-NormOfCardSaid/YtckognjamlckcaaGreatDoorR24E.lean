/-
  What the document asks of a form, in its own order, is what makes it right. The document's row: how many acts can be done.
-/
import Derived.Test.YtckognjamlckcaaGreatDoorZz
import Derived.Test.YtckognjamlckcaaGreatDoorR24D
import Derived.Test.YtckognjamlckcaaGreatDoorPlainA
set_option maxHeartbeats 8000000
set_option maxRecDepth 100000
namespace Go.Proofs.YtckognjamlckcaaGreatDoor.Fo
open Vf
def D1 (f:Fm):Prop:=(1≤f.wires.length∧f.wires.length≤1600)∧f.cells.length≤60∧f.keeps.length=f.cells.length∧f.acts.length+f.ins.length=f.wires.length
def D4 (f:Fm):Prop:=∀(j:Nat) y,f.ins[j]? =some y→y∉f.ins.take j
def D5 (f:Fm):Prop:=∀(i:Nat) c,f.cells[i]? =some c→valueOk c.1 c.2∧isW f (rk i (-1) f.keeps)∧tyOf f (rk i (-1) f.keeps)=c.1
def D6 (f:Fm):Prop:=∀(i:Nat) x,f.acts[i]? =some x→isW f x.dst∧x.dst∉f.ins∧byR x.dst 0 f.acts=i∧actOk f x
def rangeI (n:Nat):List Int:=(List.range n).map (fun (i:Nat)=>(i:Int))
theorem rangeI_len (n:Nat):(rangeI n).length=n:=by simp[rangeI]
theorem rangeI_mem {n:Nat} {x:Int}:x∈rangeI n↔0≤x∧x<n:=by
 simp only[rangeI,List.mem_map,List.mem_range]
 constructor
 ·rintro ⟨a,h,rfl⟩;omega
 ·rintro ⟨h1,h2⟩;exact ⟨x.toNat,by omega,by omega⟩
theorem rangeI_nodup (n:Nat):(rangeI n).Nodup:=by
 unfold rangeI
 rw[List.nodup_iff_pairwise_ne,List.pairwise_map]
 exact (List.nodup_range (n:=n)).imp (fun h=>by omega)
theorem nodup_cover:∀(D H:List Int),H.Nodup→(∀n∈H,n∈D)→D.length≤H.length→D.Nodup
 | [],_,_,_,_=>List.nodup_nil
 |a::D,H,hd,hs,hl=>by
  have ha:a∉D:=fun ha=>by
   have:=nodup_len H D hd (fun n hn=>by rcases List.mem_cons.1 (hs n hn) with rfl|h;exact ha;exact h)
   simp at hl;omega
  refine List.nodup_cons.2 ⟨ha,?_⟩
  by_cases hm:a∈H
  ·refine nodup_cover D (H.erase a) (hd.erase a) (fun n hn=>?_) (by rw[List.length_erase_of_mem hm];simp at hl;omega)
   have hna:n≠a:=fun e=>by rw[e] at hn;exact (List.Nodup.not_mem_erase hd) hn
   rcases List.mem_cons.1 (hs n (List.mem_of_mem_erase hn)) with rfl|h
   ·exact absurd rfl hna
   ·exact h
  ·exact nodup_cover D H hd (fun n hn=>by
    rcases List.mem_cons.1 (hs n hn) with rfl|h
    ·exact absurd hn hm
    ·exact h) (by simp at hl;omega)
theorem by_first {l:List Ac} (hp:l.Pairwise (fun x y=>x.dst≠y.dst)):∀{i k:Nat} {x:Ac},l[k]? =some x→byR x.dst i l=(i+k:Nat):=by
 induction l with
 |nil=>intro i k x h;simp at h
 |cons y l ih=>
  intro i k x h
  rw[List.pairwise_cons] at hp
  rw[byR]
  cases k with
  |zero=>
   simp at h
   rw[if_pos (by rw[h])]
   simp
  |succ k=>
   simp at h
   rw[if_neg (hp.1 x (List.mem_of_getElem? h)),ih hp.2 h]
   congr 1
   omega
theorem by_same {n:Int}:∀{l:List Ac} {i k:Nat} {x:Ac},l[k]? =some x→x.dst=n→byR n i l≤(i+k:Nat)
 | [],i,k,x,h,_=>by simp at h
 |y::l,i,k,x,h,e=>by
  rw[byR]
  by_cases ey:y.dst=n
  ·rw[if_pos ey];omega
  ·rw[if_neg ey]
   cases k with
   |zero=>simp at h;rw[h] at ey;exact absurd e ey
   |succ k=>
    simp at h
    have:=by_same (i:=i+1) h e
    omega
theorem d4_pair {f:Fm}:D4 f↔∀(i j:Nat) x y,i<j→f.ins[i]? =some x→f.ins[j]? =some y→x≠y:=by
 constructor
 ·intro h i j x y hij hx hy e
  refine h j y hy (List.mem_iff_getElem?.2 ⟨i,?_⟩)
  rw[List.getElem?_take_of_lt hij,hx,e]
 ·intro h j y hy hm
  obtain ⟨i,hi⟩:=List.getElem?_of_mem hm
  rw[List.getElem?_take] at hi
  split at hi
  ·rename_i hij
   exact h i j y y hij hi hy rfl
  ·cases hi
theorem d6_defined {f:Fm} (h1:D1 f) (hi:∀n∈f.ins,isW f n) (h4:D4 f) (h6:D6 f):definedOk f:=by
 have hp:(f.acts.map (·.dst)).Nodup:=nodup_of (fun i j x y hij hx hy e=>by
  have a1:=(h6 j y hy).2.2.1
  have a2:=by_same (i:=0) (n:=y.dst) hx e
  rw[a1] at a2
  omega)
 refine' zq238
 refine defined_iff.2 ⟨hnd,fun a ha=>?_,fun n hn=>?_⟩
 ·obtain ⟨i,hi'⟩:=List.getElem?_of_mem ha
  exact (h6 i a hi').1
 ·refine sub_full (dsts f f.acts) (rangeI f.wires.length) hnd (fun m hm=>?_) ?_ n (rangeI_mem.2 ⟨by omega,by omega⟩)
  ·refine' zq310
  ·rw[rangeI_len]
   simp[dsts]
   have:=h1.2.2.2
   omega
theorem d5_cells {f:Fm} (h1:D1 f) (h5:D5 f):cellsOk f:=by
 have hc:∀i:Nat,i<f.cells.length→∃k∈f.keeps,k.1=i:=fun i hi=>by
  apply Classical.byContradiction
  intro hn
  have h0:=(h5 i _ (List.getElem?_eq_getElem hi)).2.1
  rw[rk_none (fun k hk e=>hn ⟨k,hk,e⟩)] at h0
  have:=h0.1
  omega
 have hsub:∀n∈rangeI f.cells.length,n∈f.keeps.map (·.1):=fun n hn=>by
  obtain ⟨a,b⟩:=rangeI_mem.1 hn
  obtain ⟨k,hk,e⟩:=hc n.toNat (by omega)
  exact List.mem_map.2 ⟨k,hk,by omega⟩
 have hlen:(f.keeps.map (·.1)).length≤(rangeI f.cells.length).length:=by rw[rangeI_len,List.length_map,h1.2.2.1];exact Nat.le_refl _
 have hnd:=nodup_cover _ _ (rangeI_nodup _) hsub hlen
 have hback:=sub_full _ _ (rangeI_nodup f.cells.length) hsub hlen
 have hpw:f.keeps.Pairwise (fun x y=>x.1≠y.1):=List.pairwise_map.1 hnd
 refine ⟨fun c hc'=>?_,h1.2.1,fun k hk=>?_,of_pair hpw,hc⟩
 ·obtain ⟨i,hi⟩:=List.getElem?_of_mem hc'
  exact (h5 i c hi).1
 ·obtain ⟨a,b⟩:=rangeI_mem.1 (hback k.1 (List.mem_map.2 ⟨k,hk,rfl⟩))
  obtain ⟨m,hm⟩:=Int.eq_ofNat_of_zero_le a
  have hml:m<f.cells.length:=by omega
  have hx:=List.getElem?_eq_getElem hml
  obtain ⟨_,q1,q2⟩:=h5 m _ hx
  have hkept:(f.keeps.find? (fun x=>x.1==(m:Int))).map (·.2)=some k.2:=by
   have:f.keeps.find? (fun x=>x.1==(m:Int))=some k:=by
    cases hf:f.keeps.find? (fun x=>x.1==(m:Int)) with
    |none=>
     have:=List.find?_eq_none.1 hf k hk
     simp[hm] at this
    |some y=>
     have hy:=List.mem_of_find?_eq_some hf
     have hy1:=List.find?_some hf
     simp at hy1
     have hky:y.1=k.1:=by rw[hy1,hm]
     obtain ⟨i,hi⟩:=List.getElem?_of_mem hy
     obtain ⟨j,hj⟩:=List.getElem?_of_mem hk
     rcases Nat.lt_trichotomy i j with h|h|h
     ·exact absurd hky (of_pair hpw i j y k h hi hj)
     ·rw[h,hj] at hi;injection hi with hi;rw[hi]
     ·exact absurd hky.symm (of_pair hpw j i k y h hj hi)
   rw[this];rfl
  rw[rk_first hpw hkept] at q1 q2
  refine ⟨a,b,q1,?_⟩
  rw[q2,hm]
  have:(types f.cells)[m]? =some (f.cells[m]).1:=by simp[types,hml]
  simp[getI,List.getD_eq_getElem?_getD,this]
theorem ok_d {f:Fm} (h:formOk f):D1 f∧D4 f∧D5 f∧D6 f:=by
 obtain ⟨hw,hi,ho,hc,hd,ha,hr⟩:=h
 have hd':=defined_iff.1 hd
 have hpw:f.keeps.Pairwise (fun x y=>x.1≠y.1):=pair_of hc.2.2.2.1
 have hkn:(f.keeps.map (·.1)).Nodup:=List.pairwise_map.2 hpw
 refine ⟨⟨⟨hw.2.1,hw.2.2⟩,hc.2.1,?_,?_⟩,d4_pair.2 hd.1,fun i c hic=>?_,fun i x hx=>?_⟩
 ·have l1:=nodup_len _ (rangeI f.cells.length) hkn (fun n hn=>by
   obtain ⟨k,hk,rfl⟩:=List.mem_map.1 hn
   exact rangeI_mem.2 ⟨(hc.2.2.1 k hk).1,(hc.2.2.1 k hk).2.1⟩)
  have l2:=nodup_len _ (f.keeps.map (·.1)) (rangeI_nodup f.cells.length) (fun n hn=>by
   obtain ⟨a,b⟩:=rangeI_mem.1 hn
   obtain ⟨k,hk,e⟩:=hc.2.2.2.2 n.toNat (by omega)
   exact List.mem_map.2 ⟨k,hk,by omega⟩)
  rw[rangeI_len,List.length_map] at l1 l2
  omega
 ·have l1:=nodup_len _ (rangeI f.wires.length) hd'.1 (fun n hn=>by
   rcases List.mem_append.1 hn with h|h
   ·exact rangeI_mem.2 (hi.1 n h).1
   ·obtain ⟨x,hx,rfl⟩:=List.mem_map.1 h
    exact rangeI_mem.2 (hd'.2.1 x hx))
  refine' zq241
 ·have hil:=(List.getElem?_eq_some_iff.1 hic).1
  obtain ⟨n,hk,hnw,hnt⟩:=kept_isW hc hil
  have hrk:=rk_kept hc hil hk
  rw[hrk]
  refine ⟨hc.1 c (List.mem_of_getElem? hic),hnw,hnt.trans ?_⟩
  have:(types f.cells)[i]? =some c.1:=by simp[types,hic]
  simp[getI,List.getD_eq_getElem?_getD,this]
 ·have hxm:=List.mem_of_getElem? hx
  refine ⟨(hd.2.1 x hxm).1,(hd.2.1 x hxm).2,?_,ha x hxm⟩
  have:=by_first (pair_of hd.2.2.1) (i:=0) hx
  rw[this];simp
theorem d_ok {f:Fm} (h1:D1 f) (h2:∀w∈f.wires,wireOk f w) (h3:portsOk f f.ins) (h3':portsOk f f.outs) (h4:D4 f) (h5:D5 f) (h6:D6 f) (h7:rowOk f):formOk f:=
 ⟨⟨h2,h1.1.1,h1.1.2⟩,h3,h3',d5_cells h1 h5,d6_defined h1 (fun n hn=>(h3.1 n hn).1) h4 h6,fun x hx=>by
  obtain ⟨i,hi⟩:=List.getElem?_of_mem hx
  exact (h6 i x hi).2.2.2,h7⟩
theorem notYet_one {ds:List Bool} {n:Int} (h0:0≤n) (h1:n<ds.length) (hf:bGet ds n=false):notYet (ds.set n.toNat true)+1=notYet ds:=by
 refine' zq189
theorem notYet_zero {ds:List Bool}:notYet ds=0↔∀b∈ds,b=true:=by
 unfold notYet
 rw[List.countP_eq_zero]
 simp
end Go.Proofs.YtckognjamlckcaaGreatDoor.Fo
namespace Go.Proofs.YtckognjamlckcaaGreatDoor
open Go.RowKit Vf Fo
attribute [local go_sem ↓] Go.wp_at_zero Go.wp_at_succ
theorem readyB_iff {f:Fm} {ds:List Bool} {x:Ac}:readyB f ds x↔bGet ds x.dst=false∧∀n∈wantsAll f x,bGet ds n=true:=by
 constructor
 ·rintro ⟨h1,h2,h3⟩
  refine ⟨h3,fun n hn=>?_⟩
  rcases List.mem_append.1 hn with hn|hn
  ·exact h1 n hn
  ·obtain ⟨g,hg,rfl⟩:=List.mem_map.1 hn
   exact h2 g hg
 ·rintro ⟨h1,h2⟩
  exact ⟨fun n hn=>h2 n (List.mem_append_left _ hn),fun g hg=>h2 _ (List.mem_append_right _ (List.mem_map.2 ⟨g,hg,rfl⟩)),h1⟩
structure RowN (f:Fm) (n:Nat) (ds:List Bool):Prop where
 inn:RowIn f ds
 cnt:n+f.ins.length+notYet ds=f.wires.length
def RRowIs (f:Fm) (w:World) (e:Ending) (w':World):Prop:=∃n:Nat,e= .returned (.int .i64 n)∧n≤f.wires.length∧(n=f.acts.length↔rowOk f)∧Below w.heap.size w w'
theorem notYet_rep (n:Nat):notYet (List.replicate n false)=n:=by simp[notYet,List.countP_replicate]
theorem rrow_any {w:World} {f:Fm} {vw va vc vk vi vo:Value} (h:FmAt w w.heap.size f vw va vc vk vi vo) (h1:D1 f) (hins:∀n∈f.ins,isW f n) (h4:D4 f) (hac:∀x∈f.acts,AcOk f x):
  Calls Tryz.prog 37 #[fmV vw va vc vk vi vo] w (RRowIs f w):=by
 obtain ⟨Aw,cw,rfl,lw,mw,_⟩:=h.wires
 obtain ⟨Aa,ca,rfl,la,ma,sa⟩:=h.acts
 obtain ⟨Ai,ci,rfl,li,mi,si⟩:=h.ins
 refine' zq229
 have hwl:f.wires.length≤1600:=h1.1.2
 have mk:=make_bools f.wires.length (by omega) (by omega)
 have HFM:=Lib.hid (fun W (hW:Below w.heap.size w W)=>h.below hW)
 have HSA:=Lib.hid (fun W (hW:Below w.heap.size w W)=>sa.below hW)
 have HSI:=Lib.hid (fun W (hW:Below w.heap.size w W)=>si.below hW)
 have HI:=Lib.hid hins
 have HA:=Lib.hid hac
 have HD1:=Lib.hid h1
 have HD4:=Lib.hid h4
 clear h sa si hins hac h1 h4
 go_enter Tryz.func37,Tryz.ntmps37
 go_upto_region 2 with (fail)
 have b1:Below w.heap.size w ((w.alloc (.cells #[.slice Aw f.wires.length cw,.slice Aa f.acts.length ca,vc,vk,.slice Ai f.ins.length ci,vo] 28)).alloc (.cells (Array.replicate f.wires.length (.bool false)) 4)):=bE
 have rF1:Row ((w.alloc (.cells #[.slice Aw f.wires.length cw,.slice Aa f.acts.length ca,vc,vk,.slice Ai f.ins.length ci,vo] 28)).alloc (.cells (Array.replicate f.wires.length (.bool false)) 4)) w.heap.size #[.slice Aw f.wires.length cw,.slice Aa f.acts.length ca,vc,vk,.slice Ai f.ins.length ci,vo] 28:=(Row.new w _ _).alloc _
 have rD1:Row ((w.alloc (.cells #[.slice Aw f.wires.length cw,.slice Aa f.acts.length ca,vc,vk,.slice Ai f.ins.length ci,vo] 28)).alloc (.cells (Array.replicate f.wires.length (.bool false)) 4)) (w.heap.size+1) (bls (List.replicate f.wires.length false)).toArray 4:=by
  have:=rowNew2 w (.cells #[.slice Aw f.wires.length cw,.slice Aa f.acts.length ca,vc,vk,.slice Ai f.ins.length ci,vo] 28) (Array.replicate f.wires.length (.bool false)) 4
  simpa[bls] using this
 generalize (w.alloc (.cells #[.slice Aw f.wires.length cw,.slice Aa f.acts.length ca,vc,vk,.slice Ai f.ins.length ci,vo] 28)).alloc (.cells (Array.replicate f.wires.length (.bool false)) 4)=w1 at*
 refine' zq211
 have HF6:Hid (∀W,Upd (fun k=>k=D) w1 W→W.cell? ⟨G,0,none⟩=some (.slice Aw f.wires.length cw)∧W.cell? ⟨G,1,none⟩=some (.slice Aa f.acts.length ca)∧W.cell? ⟨G,2,none⟩=some vc∧W.cell? ⟨G,3,none⟩=some vk∧W.cell? ⟨G,4,none⟩=some (.slice Ai f.ins.length ci)∧W.cell? ⟨G,5,none⟩=some vo):=fun W hW=>(hW.row rF1 hGD).six'
 have HRD:=Lib.hid rD1
 clear rF1 rD1 b1 mk hD
 obtain ⟨f0,f1,f2,f3,f4,f5⟩:=HF6.out _ (Upd.refl _ _)
 go_wp2_with fail
 go_loopw[4] (fun i wr=>∃(k:Nat) (ds:List Bool),k≤f.ins.length∧i= .int .i64 k∧Hid (RowSt f ds∧(∀j,j<k→∀n,f.ins[j]? =some n→bGet ds n=true)∧(∀m:Nat,bGet ds m=true→(m:Int)∈f.ins.take k)∧k+notYet ds=f.wires.length)∧Row wr D (bls ds).toArray 4∧Upd (fun k=>k=D) w1 wr) (fun i _=>f.ins.length-(intOf i).toNat)
 case atStart=>exact ⟨0,List.replicate f.wires.length false,Nat.zero_le _,rfl,⟨row_start f,fun j hj=>absurd hj (by omega),fun m hm=>(by exfalso;simp only[bGet,Int.toNat_natCast,List.getD_eq_getElem?_getD,List.getElem?_replicate] at hm;split at hm<;>simp at hm),by rw[notYet_rep];omega⟩,HRD.out,Upd.refl _ _⟩
 case round=>
  clear f0 f1 f2 f3 f4 f5
  obtain ⟨k,ds,hk,rfl,HS,rD,uD⟩:=hrel
  obtain ⟨f0,f1,f2,f3,f4,f5⟩:=HF6.out _ uD
  have HDL:=Lib.hid HS.out.1.len
  by_cases hlt:k<f.ins.length
  ·obtain ⟨b,off,n,rfl,hbb,hx,wx,d0⟩:=(HSI.out _ (HFI.out _ uD)).int hlt
   have hw:=HI.out n (List.mem_of_getElem? hx)
   have HX:=Lib.hid hx
   refine' zq282
   have HS':Hid (RowSt f (ds.set m true)∧(∀j,j<k+1→∀n,f.ins[j]? =some n→bGet (ds.set m true) n=true)∧(∀q:Nat,bGet (ds.set m true) q=true→(q:Int)∈f.ins.take (k+1))∧k+1+notYet (ds.set m true)=f.wires.length):=by
    have hml:(m:Int)<ds.length:=by rw[HDL.out];exact hm'
    have hnot:bGet ds (m:Int)=false:=by
     cases hb:bGet ds (m:Int) with
     |false=>rfl
     |true=>exact absurd (HS.out.2.2.1 m hb) (HD4.out k _ HX.out)
    refine ⟨row_in HS.out.1 (List.mem_of_getElem? HX.out) HW.out,upto_succ (fun j hj n hn=>bGet_keep (n:=(m:Int)) (by omega) hml (HS.out.2.1 j hj n hn)) (fun n hn=>?_),fun q hq=>?_,?_⟩
    ·rw[HX.out] at hn
     injection hn with hn
     rw[←hn]
     have:=bGet_set (ds:=ds) (n:=(m:Int)) (c:=m) (by omega) hml
     rw[if_pos rfl] at this
     exact this
    ·rw[take_snoc' HX.out]
     have:=bGet_set (ds:=ds) (n:=(m:Int)) (c:=q) (by omega) hml
     simp only[Int.toNat_natCast] at this
     unfold bGet at hq
     simp only[Int.toNat_natCast] at hq
     rw[this] at hq
     by_cases e:(m:Int)=q
     ·simp[e]
     ·rw[if_neg e] at hq
      exact List.mem_append_left _ (HS.out.2.2.1 q (by unfold bGet;simpa using hq))
    ·have h1:=notYet_one (ds:=ds) (n:=(m:Int)) (by omega) hml hnot
     simp only[Int.toNat_natCast] at h1
     have:=HS.out.2.2.2
     omega
   generalize bGet ds (m:Int)=V at cD
   clear hx hw rD
   go_wp2_with fail
   go_roundw
   case rel=>exact ⟨k+1,ds.set m true,by omega,by go_num,HS'.out,rD6.out,uD6.out⟩
   case measure=>simp[intOf];omega
  obtain rfl:k=f.ins.length:=by omega
  have HIN:Hid (RowN f 0 ds):=⟨RowIn.mk HS.out.1 (all_upto HS.out.2.1),by have:=HS.out.2.2.2;omega⟩
  have HRr:=Lib.hid rD
  have HUr:=Lib.hid uD
  clear rD uD HS
  go_wp2_with fail
  clear f0 f1 f2 f3 f4 f5
  refine' zq177
  go_loopg [5,6] (notYet ds+1) (fun q v5 v6 wr=>∃(ds:List Bool) (n:Nat) (bb:Bool),v5= .int .i64 n∧v6= .bool bb∧notYet ds+(if bb=true then 1 else 0)≤q∧Hid (RowN f n ds)∧Hid (bb=false→∀x∈f.acts,¬readyB f ds x)∧Row wr D (bls ds).toArray 4∧Upd (fun k=>k=D) w1 wr)
  case atStart=>exact ⟨ds,0,true,rfl,rfl,by simp,HIN.out,(fun h=>by cases h),HRr.out,HUr.out⟩
  case round=>
   clear HIN HRr HUr HDL
   obtain ⟨ds,n,bb,rfl,rfl,hq,HIN,HNR,rD,uD⟩:=hrel
   clear hlt
   obtain ⟨f0,f1,f2,f3,f4,f5⟩:=HF6.out _ uD
   have HDL:=Lib.hid HIN.out.inn.st.len
   have hnw:n≤f.wires.length:=by have:=HIN.out.cnt;omega
   cases bb
   ·have HE:Hid (n=f.acts.length↔rowOk f):=by
     show _↔_
     rw[row_end HIN.out.inn.st HIN.out.inn.ins (HNR.out rfl),←notYet_zero]
     have h1:=HIN.out.cnt
     have h2:=HD1.out.2.2.2
     omega
    clear hq rD
    go_wp2_with fail
    go_ret
    exact ⟨n,rfl,hnw,HE.out,by rw[hG];exact HFI.out _ uD⟩
   rw[if_pos rfl] at hq
   have HRr:=Lib.hid rD
   have HUr:=Lib.hid uD
   clear rD
   go_wp2_with fail
   clear f0 f1 f2 f3 f4 f5
   go_loopw[5,6,7] (fun v5 v6 i w3=>∃(j:Nat) (d2:List Bool) (n2:Nat) (b2:Bool),j≤f.acts.length∧v5= .int .i64 n2∧v6= .bool b2∧i= .int .i64 j∧Hid (RowN f n2 d2)∧Hid (b2=true→notYet d2<notYet ds)∧Hid (b2=false→d2=ds∧∀i,i<j→∀x,f.acts[i]? =some x→¬readyB f ds x)∧Row w3 D (bls d2).toArray 4∧Upd (fun k=>k=D) w1 w3) (fun _ _ i _=>f.acts.length-(intOf i).toNat)
   case atStart=>exact ⟨0,ds,n,false,Nat.zero_le _,rfl,rfl,rfl,HIN.out,(fun h=>by cases h),fun _=>⟨rfl,fun i hi=>absurd hi (by omega)⟩,HRr.out,HUr.out⟩
   case round=>
    clear HIN HRr HUr HDL uD hnw
    obtain ⟨j,d2,n2,b2,hj,rfl,rfl,rfl,HIN,HT,HF,rD,uD⟩:=hrel
    obtain ⟨f0,f1,f2,f3,f4,f5⟩:=HF6.out _ uD
    have HDL:=Lib.hid HIN.out.inn.st.len
    have hn2:n2≤1600:=by have:=HIN.out.cnt;omega
    by_cases hlt:j<f.acts.length
    rotate_left 1
    ·refine' zq325
     clear hq
     go_wp2_with fail
     go_roundg (notYet d2+(if b2=true then 1 else 0))
     case measure=>exact HM.out
     case rel=>exact ⟨d2,n2,b2,rfl,rfl,Nat.le_refl _,HIN.out,HNR.out,rD,uD⟩
    obtain ⟨b,off,⟨xo,xd,xa,xb,xc,xk⟩,hAa,hbb,hx,wx,d0,d1,d2',d3,d4,d5⟩:=(HSA.out _ (HFI.out _ uD)).ac hlt
    subst hAa
    have HX:=Lib.hid hx
    have hact:=HA.out _ (List.mem_of_getElem? hx)
    have HAC:=Lib.hid hact
    obtain ⟨m,rfl⟩:=Int.eq_ofNat_of_zero_le (show 0≤xd from hact.dst.1)
    have hm:m<f.wires.length:=by have:=hact.dst.2;dsimp only at this;omega
    refine' zq136
    have hDr:=rD.lt
    clear hx hact rD
    refine' zq298
    clear d0 d1 d2' d3 d4 d5 f0 f1 f2 f3 f4 f5
    obtain ⟨f0,f1,f2,f3,f4,f5⟩:=HF6.out _ u4
    have b4:=HFI.out _ u4
    have HWN:=Lib.hid (rwants_any ((hG▸HFM).out _ (hG▸b4)) b4.size ⟨xo,(m:Int),xa,xb,xc,xk⟩ wx HAC.out)
    obtain ⟨c0,c1,c2,c3,c4,c5⟩:=r9.six'
    have cD0:=ds_cell rD4 (n:=m) (by rw[HDL.out];exact hm)
    have hDl4:=rD4.lt
    have hg9l:=r9.lt
    have hgD:g9≠D:=by omega
    have HRB:=Lib.hid (readyB_iff (f:=f) (ds:=d2) (x:=⟨xo,(m:Int),xa,xb,xc,xk⟩))
    have HB0:Hid (bGet d2 (m:Int)=bGet d2 (m:Int)):=rfl
    generalize hV0:bGet d2 (m:Int)=V0 at cD0
    have HV0:=Lib.hid hV0
    clear wx hg9 hDr hV0 HB0
    go_wp2_with fail
    (with_reducible refine HWN.out.mono ?_)
    rintro e w5 ⟨v5,rfl,hs5,hb5⟩
    have u5:=u4.trans (Upd.of_below hb5)
    have rD5:=rD4.below hb5 hDl4
    obtain ⟨A5,cap5,rfl,lv5,mv5,sv5⟩:=hs5
    have mv5':cap5≤9223372036854775807:=by unfold maxLen at mv5;omega
    have HSV:=Lib.hid sv5
    have HWI:=Lib.hid HAC.out.wants
    generalize hwl5:wantsAll f ⟨xo,(m:Int),xa,xb,xc,xk⟩=wl at*
    have hgl5:=(r9.below hb5 hg9l).lt
    have r95:=r9.below hb5 hg9l
    clear f0 f1 f2 f3 f4 f5 c0 c1 c2 c3 c4 c5 sv5 hwl5 HWN cD0 r9 rD4 hb5 b4
    go_wp2_with fail
    obtain ⟨wo2,rfl⟩:∃wo2:World,wo2=w5:=⟨_,rfl⟩
    go_loopw[9,11] (fun v9 i wr=>∃(q:Nat) (r:Bool),q≤wl.length∧v9= .bool r∧i= .int .i64 q∧Hid (r=true↔V0=false∧∀i,i<q→∀n,wl[i]? =some n→bGet d2 n=true)∧wo2=wr) (fun _ i _=>wl.length-(intOf i).toNat)
    case atStart=>exact ⟨0,!V0,Nat.zero_le _,rfl,rfl,(by show _↔_;cases V0<;>simp),rfl⟩
    case round=>
     obtain ⟨q,r,hq',rfl,rfl,HRR,rfl⟩:=hrel
     by_cases hlt2:q<wl.length
     ·obtain ⟨b3,off3,n,rfl,hb3,hn,wn,e0⟩:=HSV.out.int hlt2
      have hWn:=HWI.out n (List.mem_of_getElem? hn)
      have HNn:=Lib.hid hn
      obtain ⟨p,rfl⟩:=Int.eq_ofNat_of_zero_le hWn.1
      have hpl:p<f.wires.length:=by have:=hWn.2;omega
      have hpl':(p:Int)<f.wires.length:=by omega
      have y0:=ds_cell rD5 (n:=p) (by rw[HDL.out];exact hpl)
      generalize hV:bGet d2 (p:Int)=V at y0
      have HV':=Lib.hid hV
      clear hn hWn hV
      have HRR':Hid ((r && V)=true↔V0=false∧∀i,i<q+1→∀n,wl[i]? =some n→bGet d2 n=true):=by
       show _↔_
       rw[Bool.and_eq_true,HRR.out]
       constructor
       ·rintro ⟨⟨g1,g2⟩,g3⟩
        exact ⟨g1,upto_succ g2 (fun n' hn'=>by rw[HNn.out] at hn';injection hn' with hn';rw[←hn',HV'.out];exact g3)⟩
       ·rintro ⟨g1,g2⟩
        exact ⟨⟨g1,fun i hi=>g2 i (by omega)⟩,by rw[←HV'.out];exact g2 q (by omega) _ HNn.out⟩
      cases r
      ·go_wp2_with fail
       go_roundw
       case rel=>exact ⟨q+1,false,by omega,rfl,by go_num,by have:=HRR'.out;(first|rw[Bool.false_and] at this|rw[Bool.true_and] at this);exact this,trivial⟩
       case measure=>simp[intOf];omega
      ·go_wp2_with fail
       go_roundw
       case rel=>exact ⟨q+1,V,by omega,rfl,by go_num,by have:=HRR'.out;(first|rw[Bool.false_and] at this|rw[Bool.true_and] at this);exact this,trivial⟩
       case measure=>simp[intOf];omega
     obtain rfl:q=wl.length:=by omega
     clear hlt2
     have HRQ:Hid (r=true↔readyB f d2 ⟨xo,(m:Int),xa,xb,xc,xk⟩):=by
      show _↔_
      rw[HRB.out,HRR.out,HV0.out]
      exact and_congr Iff.rfl ⟨fun g=>all_upto g,fun g i _ n hn=>g n (List.mem_of_getElem? hn)⟩
     cases r
     ·have hnr:¬readyB f d2 ⟨xo,(m:Int),xa,xb,xc,xk⟩:=fun g=>by have:=HRQ.out.2 g;cases this
      have HF':Hid (b2=false→d2=ds∧∀i,i<j+1→∀x,f.acts[i]? =some x→¬readyB f ds x):=fun h=>by
       obtain ⟨e,g⟩:=HF.out h
       refine ⟨e,upto_succ g (fun y hy=>?_)⟩
       rw[HX.out] at hy
       injection hy with hy
       rw[←hy,←e]
       exact hnr
      clear hnr
      go_wp2_with fail
      go_roundw
      case rel=>exact ⟨j+1,d2,n2,b2,by omega,rfl,rfl,by go_num,HIN.out,HT.out,HF'.out,rD5,u5⟩
      case measure=>simp[intOf];omega
     have hr:=HRQ.out.1 rfl
     have hml:(m:Int)<d2.length:=by rw[HDL.out];exact hm'
     have hone:=notYet_one (ds:=d2) (n:=(m:Int)) (by omega) hml hr.2.2
     simp only[Int.toNat_natCast] at hone
     have HIN':Hid (RowN f (n2+1) (d2.set m true)):=⟨⟨row_step HIN.out.inn.st (List.mem_of_getElem? HX.out) HAC.out.dst (fun n hn=>HAC.out.wants n (List.mem_append_left _ hn)) (fun g hg=>HAC.out.wants _ (List.mem_append_right _ (List.mem_map.2 ⟨g,hg,rfl⟩))) hr,fun n hn=>bGet_keep (n:=(m:Int)) (by omega) hml (HIN.out.inn.ins n hn)⟩,by have:=HIN.out.cnt;omega⟩
     have HT':Hid (notYet (d2.set m true)<notYet ds):=by
      show _<_
      cases b2
      ·have:=(HF.out rfl).1
       rw[this] at hone⊢
       omega
      ·have:=HT.out rfl
       omega
     obtain ⟨c0,c1,c2,c3,c4,c5⟩:=r95.six'
     refine' zq257
     clear hr hone rD5
     go_wp2_with fail
     go_roundw
     case rel=>exact ⟨j+1,d2.set m true,n2+1,true,by omega,by go_num,rfl,by go_num,HIN'.out,(fun _=>HT'.out),(fun h=>by cases h),rD6.out,uD6.out⟩
     case measure=>simp[intOf];omega
end Go.Proofs.YtckognjamlckcaaGreatDoor
