/-
  What the document asks of a form, in its own order, is what makes it right. The document's row: how many acts can be done.
-/
import Derived.Test.YtckognjamlckcaaGreatDoorR24D
set_option maxHeartbeats 8000000
set_option maxRecDepth 100000
namespace Go.Proofs.YtckognjamlckcaaGreatDoor.Fo
open Vf
def D1 (f:Fm):Prop:=(1<=f.wires.length/\f.wires.length<=1600)/\f.cells.length<=60/\f.keeps.length=f.cells.length/\f.acts.length+f.ins.length=f.wires.length
def D4 (f:Fm):Prop:=∀(j:Nat) y,f.ins[j]? =some y->y∉f.ins.take j
def D5 (f:Fm):Prop:=∀(i:Nat) c,f.cells[i]? =some c->bN c.1 c.2/\ak f (rk i (-1) f.keeps)/\ag f (rk i (-1) f.keeps)=c.1
def D6 (f:Fm):Prop:=∀(i:Nat) x,f.acts[i]? =some x->ak f x.dst/\x.dst∉f.ins/\bO x.dst 0 f.acts=i/\au f x
def eG (n:Nat):List Int:=(List.range n).map (fun (i:Nat)=>(i:Int))
theorem f' (n:Nat):(eG n).length=n:=by simp[eG]
theorem cJ {n:Nat} {x:Int}:x∈eG n↔0<=x/\x<n:=by
 simp only[eG,List.mem_map,List.mem_range]
 constructor
 ·rintro ⟨a,h,rfl⟩;omega
 ·rintro ⟨h1,h2⟩;exact ⟨x.toNat,by omega,by omega⟩
theorem gR (n:Nat):(eG n).Nodup:=by
 unfold eG
 rw[List.nodup_iff_pairwise_ne,List.pairwise_map]
 exact (List.nodup_range (n:=n)).imp (fun h=>by omega)
theorem jJ:∀(D H:List Int),H.Nodup->(∀n∈H,n∈D)->D.length<=H.length->D.Nodup
 | [],_,_,_,_=>List.nodup_nil
 |a::D,H,hd,hs,hl=>by
  have ha:a∉D:=fun ha=>by
   have:=eI H D hd (fun n hn=>by rcases List.mem_cons.1 (hs n hn) with rfl|h;exact ha;exact h)
   simp at hl;omega
  refine List.nodup_cons.2 ⟨ha,?_⟩
  by_cases hm:a∈H
  ·refine jJ D (H.erase a) (hd.erase a) (fun n hn=>?_) (by rw[List.length_erase_of_mem hm];simp at hl;omega)
   have hna:n≠a:=fun e=>by rw[e] at hn;exact (List.Nodup.not_mem_erase hd) hn
   rcases List.mem_cons.1 (hs n (List.mem_of_mem_erase hn)) with rfl|h
   ·exact absurd rfl hna
   ·exact h
  ·exact jJ D H hd (fun n hn=>by
    rcases List.mem_cons.1 (hs n hn) with rfl|h
    ·exact absurd hn hm
    ·exact h) (by simp at hl;omega)
theorem pU {l:List Ac} (hp:l.Pairwise (fun x y=>x.dst≠y.dst)):∀{i k:Nat} {x:Ac},l[k]? =some x->bO x.dst i l=(i+k:Nat):=by
 induction l with
 |nil=>intro i k x h;simp at h
 |cons y l ih=>
  intro i k x h
  rw[List.pairwise_cons] at hp
  rw[bO]
  cases k with
  |zero=>
   simp at h
   rw[if_pos (by rw[h])]
   simp
  |succ k=>
   simp at h
   rw[if_neg (hp.1 x (List.mem_of_getElem? h)),ih hp.2 h]
   congr 1
   omega
theorem ou {n:Int}:∀{l:List Ac} {i k:Nat} {x:Ac},l[k]? =some x->x.dst=n->bO n i l<=(i+k:Nat)
 | [],i,k,x,h,_=>by simp at h
 |y::l,i,k,x,h,e=>by
  rw[bO]
  by_cases ey:y.dst=n
  ·rw[if_pos ey];omega
  ·rw[if_neg ey]
   cases k with
   |zero=>simp at h;rw[h] at ey;exact absurd e ey
   |succ k=>
    simp at h
    have:=ou (i:=i+1) h e
    omega
theorem om {f:Fm}:D4 f↔∀(i j:Nat) x y,i<j->f.ins[i]? =some x->f.ins[j]? =some y->x≠y:=by
 constructor
 ·intro h i j x y hij hx hy e
  refine h j y hy (List.mem_iff_getElem?.2 ⟨i,?_⟩)
  rw[List.getElem?_take_of_lt hij,hx,e]
 ·intro h j y hy hm
  obtain ⟨i,hi⟩:=List.getElem?_of_mem hm
  rw[List.getElem?_take] at hi
  split at hi
  ·rename_i hij
   exact h i j y y hij hi hy rfl
  ·cases hi
theorem uf {f:Fm} (h1:D1 f) (hi:∀n∈f.ins,ak f n) (h4:D4 f) (h6:D6 f):aR f:=by
 have hp:(f.acts.map (·.dst)).Nodup:=mN (fun i j x y hij hx hy e=>by
  have a1:=(h6 j y hy).2.2.1
  have a2:=ou (i:=0) (n:=y.dst) hx e
  rw[a1] at a2
  omega)
 refine' zq216
 refine dm.2 ⟨hnd,fun a ha=>?_,fun n hn=>?_⟩
 ·obtain ⟨i,hi'⟩:=List.getElem?_of_mem ha
  exact (h6 i a hi').1
 ·refine ky (dO f f.acts) (eG f.wires.length) hnd (fun m hm=>?_) ?_ n (cJ.2 ⟨by omega,by omega⟩)
  ·refine' zq285
  ·rw[f']
   simp[dO]
   have:=h1.2.2.2
   omega
theorem rO {f:Fm} (h1:D1 f) (h5:D5 f):du f:=by
 have hc:∀i:Nat,i<f.cells.length->∃k∈f.keeps,k.1=i:=fun i hi=>by
  apply Classical.byContradiction
  intro hn
  have h0:=(h5 i _ (List.getElem?_eq_getElem hi)).2.1
  rw[nY (fun k hk e=>hn ⟨k,hk,e⟩)] at h0
  have:=h0.1
  omega
 have hsub:∀n∈eG f.cells.length,n∈f.keeps.map (·.1):=fun n hn=>by
  obtain ⟨a,b⟩:=cJ.1 hn
  obtain ⟨k,hk,e⟩:=hc n.toNat (by omega)
  exact List.mem_map.2 ⟨k,hk,by omega⟩
 have hlen:(f.keeps.map (·.1)).length<=(eG f.cells.length).length:=by rw[f',List.length_map,h1.2.2.1];exact Nat.le_refl _
 have hnd:=jJ _ _ (gR _) hsub hlen
 have hback:=ky _ _ (gR f.cells.length) hsub hlen
 have hpw:f.keeps.Pairwise (fun x y=>x.1≠y.1):=List.pairwise_map.1 hnd
 refine ⟨fun c hc'=>?_,h1.2.1,fun k hk=>?_,iV hpw,hc⟩
 ·obtain ⟨i,hi⟩:=List.getElem?_of_mem hc'
  exact (h5 i c hi).1
 ·obtain ⟨a,b⟩:=cJ.1 (hback k.1 (List.mem_map.2 ⟨k,hk,rfl⟩))
  obtain ⟨m,hm⟩:=Int.eq_ofNat_of_zero_le a
  have hml:m<f.cells.length:=by omega
  have hx:=List.getElem?_eq_getElem hml
  obtain ⟨_,q1,q2⟩:=h5 m _ hx
  have hkept:(f.keeps.find? (fun x=>x.1==(m:Int))).map (·.2)=some k.2:=by
   have:f.keeps.find? (fun x=>x.1==(m:Int))=some k:=by
    cases hf:f.keeps.find? (fun x=>x.1==(m:Int)) with
    |none=>
     have:=List.find?_eq_none.1 hf k hk
     simp[hm] at this
    |some y=>
     have hy:=List.mem_of_find?_eq_some hf
     have hy1:=List.find?_some hf
     simp at hy1
     have hky:y.1=k.1:=by rw[hy1,hm]
     obtain ⟨i,hi⟩:=List.getElem?_of_mem hy
     obtain ⟨j,hj⟩:=List.getElem?_of_mem hk
     rcases Nat.lt_trichotomy i j with h|h|h
     ·exact absurd hky (iV hpw i j y k h hi hj)
     ·rw[h,hj] at hi;injection hi with hi;rw[hi]
     ·exact absurd hky.symm (iV hpw j i k y h hj hi)
   rw[this];rfl
  rw[mX hpw hkept] at q1 q2
  refine ⟨a,b,q1,?_⟩
  rw[q2,hm]
  have:(dQ f.cells)[m]? =some (f.cells[m]).1:=by simp[dQ,hml]
  simp[ao,List.getD_eq_getElem?_getD,this]
theorem Ec {f:Fm} (h:bm f):D1 f/\D4 f/\D5 f/\D6 f:=by
 obtain ⟨hw,hi,ho,hc,hd,ha,hr⟩:=h
 have hd':=dm.1 hd
 have hpw:f.keeps.Pairwise (fun x y=>x.1≠y.1):=gG hc.2.2.2.1
 have hkn:(f.keeps.map (·.1)).Nodup:=List.pairwise_map.2 hpw
 refine ⟨⟨⟨hw.2.1,hw.2.2⟩,hc.2.1,?_,?_⟩,om.2 hd.1,fun i c hic=>?_,fun i x hx=>?_⟩
 ·have l1:=eI _ (eG f.cells.length) hkn (fun n hn=>by
   obtain ⟨k,hk,rfl⟩:=List.mem_map.1 hn
   exact cJ.2 ⟨(hc.2.2.1 k hk).1,(hc.2.2.1 k hk).2.1⟩)
  have l2:=eI _ (f.keeps.map (·.1)) (gR f.cells.length) (fun n hn=>by
   obtain ⟨a,b⟩:=cJ.1 hn
   obtain ⟨k,hk,e⟩:=hc.2.2.2.2 n.toNat (by omega)
   exact List.mem_map.2 ⟨k,hk,by omega⟩)
  rw[f',List.length_map] at l1 l2
  omega
 ·have l1:=eI _ (eG f.wires.length) hd'.1 (fun n hn=>by
   rcases List.mem_append.1 hn with h|h
   ·exact cJ.2 (hi.1 n h).1
   ·obtain ⟨x,hx,rfl⟩:=List.mem_map.1 h
    exact cJ.2 (hd'.2.1 x hx))
  refine' zq219
 ·have hil:=(List.getElem?_eq_some_iff.1 hic).1
  obtain ⟨n,hk,hnw,hnt⟩:=mF hc hil
  have hrk:=tz hc hil hk
  rw[hrk]
  refine ⟨hc.1 c (List.mem_of_getElem? hic),hnw,hnt.trans ?_⟩
  have:(dQ f.cells)[i]? =some c.1:=by simp[dQ,hic]
  simp[ao,List.getD_eq_getElem?_getD,this]
 ·have hxm:=List.mem_of_getElem? hx
  refine ⟨(hd.2.1 x hxm).1,(hd.2.1 x hxm).2,?_,ha x hxm⟩
  have:=pU (gG hd.2.2.1) (i:=0) hx
  rw[this];simp
theorem Eg {f:Fm} (h1:D1 f) (h2:∀w∈f.wires,eL f w) (h3:bG f f.ins) (h3':bG f f.outs) (h4:D4 f) (h5:D5 f) (h6:D6 f) (h7:gY f):bm f:=
 ⟨⟨h2,h1.1.1,h1.1.2⟩,h3,h3',rO h1 h5,uf h1 (fun n hn=>(h3.1 n hn).1) h4 h6,fun x hx=>by
  obtain ⟨i,hi⟩:=List.getElem?_of_mem hx
  exact (h6 i x hi).2.2.2,h7⟩
theorem kL {ds:List Bool} {n:Int} (h0:0<=n) (h1:n<ds.length) (hf:aL ds n=false):aZ (ds.set n.toNat true)+1=aZ ds:=by
 refine' zq166
theorem Fo.mt {ds:List Bool}:aZ ds=0↔∀b∈ds,b=true:=by
 unfold aZ
 rw[List.countP_eq_zero]
 simp
end Go.Proofs.YtckognjamlckcaaGreatDoor.Fo
namespace Go.Proofs.YtckognjamlckcaaGreatDoor
open Go.RowKit Vf Fo
attribute [local go_sem ↓] Go.wp_at_zero Go.wp_at_succ
theorem uO {f:Fm} {ds:List Bool} {x:Ac}:di f ds x↔aL ds x.dst=false/\∀n∈cZ f x,aL ds n=true:=by
 constructor
 ·rintro ⟨h1,h2,h3⟩
  refine ⟨h3,fun n hn=>?_⟩
  rcases List.mem_append.1 hn with hn|hn
  ·exact h1 n hn
  ·obtain ⟨g,hg,rfl⟩:=List.mem_map.1 hn
   exact h2 g hg
 ·rintro ⟨h1,h2⟩
  exact ⟨fun n hn=>h2 n (List.mem_append_left _ hn),fun g hg=>h2 _ (List.mem_append_right _ (List.mem_map.2 ⟨g,hg,rfl⟩)),h1⟩
structure uF (f:Fm) (n:Nat) (ds:List Bool):Prop where
 inn:lM f ds
 cnt:n+f.ins.length+aZ ds=f.wires.length
def Du (f:Fm) (w:World) (e:Ending) (w':World):Prop:=∃n:Nat,e= .returned (.int .i64 n)/\n<=f.wires.length/\(n=f.acts.length↔gY f)/\Below w.heap.size w w'
theorem nD (n:Nat):aZ (List.replicate n false)=n:=by simp[aZ,List.countP_replicate]
theorem zU {w:World} {f:Fm} {vw va vc vk vi vo:Value} (h:bQ w w.heap.size f vw va vc vk vi vo) (h1:D1 f) (hins:∀n∈f.ins,ak f n) (h4:D4 f) (hac:∀x∈f.acts,yy f x):
  Calls Tryz.prog 37 #[dp vw va vc vk vi vo] w (Du f w):=by
 obtain ⟨Aw,cw,rfl,lw,mw,_⟩:=h.wires
 obtain ⟨Aa,ca,rfl,la,ma,sa⟩:=h.acts
 obtain ⟨Ai,ci,rfl,li,mi,si⟩:=h.ins
 refine' zq209
 have hwl:f.wires.length<=1600:=h1.1.2
 have mk:=gQ f.wires.length (by omega) (by omega)
 have HFM:=zH (fun W (hW:Below w.heap.size w W)=>h.below hW)
 have HSA:=zH (fun W (hW:Below w.heap.size w W)=>sa.below hW)
 have HSI:=zH (fun W (hW:Below w.heap.size w W)=>si.below hW)
 have HI:=zH hins
 have HA:=zH hac
 have HD1:=zH h1
 have HD4:=zH h4
 clear h sa si hins hac h1 h4
 go_enter Tryz.func37,Tryz.ntmps37
 go_upto_region 2 with (fail)
 have b1:Below w.heap.size w ((w.alloc (.cells #[.slice Aw f.wires.length cw,.slice Aa f.acts.length ca,vc,vk,.slice Ai f.ins.length ci,vo] 28)).alloc (.cells (Array.replicate f.wires.length (.bool false)) 4)):=bE
 have rF1:ai ((w.alloc (.cells #[.slice Aw f.wires.length cw,.slice Aa f.acts.length ca,vc,vk,.slice Ai f.ins.length ci,vo] 28)).alloc (.cells (Array.replicate f.wires.length (.bool false)) 4)) w.heap.size #[.slice Aw f.wires.length cw,.slice Aa f.acts.length ca,vc,vk,.slice Ai f.ins.length ci,vo] 28:=(ai.new w _ _).alloc _
 have rD1:ai ((w.alloc (.cells #[.slice Aw f.wires.length cw,.slice Aa f.acts.length ca,vc,vk,.slice Ai f.ins.length ci,vo] 28)).alloc (.cells (Array.replicate f.wires.length (.bool false)) 4)) (w.heap.size+1) (dI (List.replicate f.wires.length false)).toArray 4:=by
  have:=dw w (.cells #[.slice Aw f.wires.length cw,.slice Aa f.acts.length ca,vc,vk,.slice Ai f.ins.length ci,vo] 28) (Array.replicate f.wires.length (.bool false)) 4
  simpa[dI] using this
 generalize (w.alloc (.cells #[.slice Aw f.wires.length cw,.slice Aa f.acts.length ca,vc,vk,.slice Ai f.ins.length ci,vo] 28)).alloc (.cells (Array.replicate f.wires.length (.bool false)) 4)=w1 at*
 refine' zq185
 have HF6:Hid (∀W,ae (fun k=>k=D) w1 W->W.cell? ⟨G,0,none⟩=some (.slice Aw f.wires.length cw)/\W.cell? ⟨G,1,none⟩=some (.slice Aa f.acts.length ca)/\W.cell? ⟨G,2,none⟩=some vc/\W.cell? ⟨G,3,none⟩=some vk/\W.cell? ⟨G,4,none⟩=some (.slice Ai f.ins.length ci)/\W.cell? ⟨G,5,none⟩=some vo):=fun W hW=>(hW.row rF1 hGD).six'
 have HRD:=zH rD1
 clear rF1 rD1 b1 mk hD
 obtain ⟨f0,f1,f2,f3,f4,f5⟩:=HF6.o _ (ae.refl _ _)
 go_wp2_with fail
 go_loopw[4] (fun i wr=>∃(k:Nat) (ds:List Bool),k<=f.ins.length/\i= .int .i64 k/\Hid (gS f ds/\(∀j,j<k->∀n,f.ins[j]? =some n->aL ds n=true)/\(∀m:Nat,aL ds m=true->(m:Int)∈f.ins.take k)/\k+aZ ds=f.wires.length)/\ai wr D (dI ds).toArray 4/\ae (fun k=>k=D) w1 wr) (fun i _=>f.ins.length-(intOf i).toNat)
 case atStart=>exact ⟨0,List.replicate f.wires.length false,Nat.zero_le _,rfl,⟨pj f,fun j hj=>absurd hj (by omega),fun m hm=>(by exfalso;simp only[aL,Int.toNat_natCast,List.getD_eq_getElem?_getD,List.getElem?_replicate] at hm;split at hm<;>simp at hm),by rw[nD];omega⟩,HRD.o,ae.refl _ _⟩
 case round=>
  clear f0 f1 f2 f3 f4 f5
  obtain ⟨k,ds,hk,rfl,HS,rD,uD⟩:=hrel
  obtain ⟨f0,f1,f2,f3,f4,f5⟩:=HF6.o _ uD
  have HDL:=zH HS.o.1.len
  by_cases hlt:k<f.ins.length
  ·obtain ⟨b,off,n,rfl,hbb,hx,wx,d0⟩:=(HSI.o _ (HFI.o _ uD)).int hlt
   have hw:=HI.o n (List.mem_of_getElem? hx)
   have HX:=zH hx
   refine' zq253
   have HS':Hid (gS f (ds.set m true)/\(∀j,j<k+1->∀n,f.ins[j]? =some n->aL (ds.set m true) n=true)/\(∀q:Nat,aL (ds.set m true) q=true->(q:Int)∈f.ins.take (k+1))/\k+1+aZ (ds.set m true)=f.wires.length):=by
    have hml:(m:Int)<ds.length:=by rw[HDL.o];exact hm'
    have hnot:aL ds (m:Int)=false:=by
     cases hb:aL ds (m:Int) with
     |false=>rfl
     |true=>exact absurd (HS.o.2.2.1 m hb) (HD4.o k _ HX.o)
    refine ⟨xL HS.o.1 (List.mem_of_getElem? HX.o) HW.o,aC (fun j hj n hn=>jE (n:=(m:Int)) (by omega) hml (HS.o.2.1 j hj n hn)) (fun n hn=>?_),fun q hq=>?_,?_⟩
    ·rw[HX.o] at hn
     injection hn with hn
     rw[<-hn]
     have:=fS (ds:=ds) (n:=(m:Int)) (c:=m) (by omega) hml
     rw[if_pos rfl] at this
     exact this
    ·rw[bj HX.o]
     have:=fS (ds:=ds) (n:=(m:Int)) (c:=q) (by omega) hml
     simp only[Int.toNat_natCast] at this
     unfold aL at hq
     simp only[Int.toNat_natCast] at hq
     rw[this] at hq
     by_cases e:(m:Int)=q
     ·simp[e]
     ·rw[if_neg e] at hq
      exact List.mem_append_left _ (HS.o.2.2.1 q (by unfold aL;simpa using hq))
    ·have h1:=kL (ds:=ds) (n:=(m:Int)) (by omega) hml hnot
     simp only[Int.toNat_natCast] at h1
     have:=HS.o.2.2.2
     omega
   generalize aL ds (m:Int)=V at cD
   clear hx hw rD
   go_wp2_with fail
   go_roundw
   case rel=>exact ⟨k+1,ds.set m true,by omega,by go_num,HS'.o,rD6.out,uD6.out⟩
   case measure=>simp[intOf];omega
  obtain rfl:k=f.ins.length:=by omega
  have HIN:Hid (uF f 0 ds):=⟨lM.mk HS.o.1 (dY HS.o.2.1),by have:=HS.o.2.2.2;omega⟩
  have HRr:=zH rD
  have HUr:=zH uD
  clear rD uD HS
  go_wp2_with fail
  clear f0 f1 f2 f3 f4 f5
  refine' zq148
  go_loopg [5,6] (aZ ds+1) (fun q v5 v6 wr=>∃(ds:List Bool) (n:Nat) (bb:Bool),v5= .int .i64 n/\v6= .bool bb/\aZ ds+(if bb=true then 1 else 0)<=q/\Hid (uF f n ds)/\Hid (bb=false->∀x∈f.acts,¬di f ds x)/\ai wr D (dI ds).toArray 4/\ae (fun k=>k=D) w1 wr)
  case atStart=>exact ⟨ds,0,true,rfl,rfl,by simp,HIN.o,(fun h=>by cases h),HRr.o,HUr.o⟩
  case round=>
   clear HIN HRr HUr HDL
   obtain ⟨ds,n,bb,rfl,rfl,hq,HIN,HNR,rD,uD⟩:=hrel
   clear hlt
   obtain ⟨f0,f1,f2,f3,f4,f5⟩:=HF6.o _ uD
   have HDL:=zH HIN.o.inn.st.len
   have hnw:n<=f.wires.length:=by have:=HIN.o.cnt;omega
   cases bb
   ·have HE:Hid (n=f.acts.length↔gY f):=by
     show _↔_
     rw[tI HIN.o.inn.st HIN.o.inn.ins (HNR.o rfl),<-Fo.mt]
     have h1:=HIN.o.cnt
     have h2:=HD1.o.2.2.2
     omega
    clear hq rD
    go_wp2_with fail
    go_ret
    exact ⟨n,rfl,hnw,HE.o,by rw[hG];exact HFI.o _ uD⟩
   rw[if_pos rfl] at hq
   have HRr:=zH rD
   have HUr:=zH uD
   clear rD
   go_wp2_with fail
   clear f0 f1 f2 f3 f4 f5
   go_loopw[5,6,7] (fun v5 v6 i w3=>∃(j:Nat) (d2:List Bool) (n2:Nat) (b2:Bool),j<=f.acts.length/\v5= .int .i64 n2/\v6= .bool b2/\i= .int .i64 j/\Hid (uF f n2 d2)/\Hid (b2=true->aZ d2<aZ ds)/\Hid (b2=false->d2=ds/\∀i,i<j->∀x,f.acts[i]? =some x->¬di f ds x)/\ai w3 D (dI d2).toArray 4/\ae (fun k=>k=D) w1 w3) (fun _ _ i _=>f.acts.length-(intOf i).toNat)
   case atStart=>exact ⟨0,ds,n,false,Nat.zero_le _,rfl,rfl,rfl,HIN.o,(fun h=>by cases h),fun _=>⟨rfl,fun i hi=>absurd hi (by omega)⟩,HRr.o,HUr.o⟩
   case round=>
    clear HIN HRr HUr HDL uD hnw
    obtain ⟨j,d2,n2,b2,hj,rfl,rfl,rfl,HIN,HT,HF,rD,uD⟩:=hrel
    obtain ⟨f0,f1,f2,f3,f4,f5⟩:=HF6.o _ uD
    have HDL:=zH HIN.o.inn.st.len
    have hn2:n2<=1600:=by have:=HIN.o.cnt;omega
    by_cases hlt:j<f.acts.length
    rotate_left 1
    ·refine' zq301
     clear hq
     go_wp2_with fail
     go_roundg (aZ d2+(if b2=true then 1 else 0))
     case measure=>exact HM.o
     case rel=>exact ⟨d2,n2,b2,rfl,rfl,Nat.le_refl _,HIN.o,HNR.o,rD,uD⟩
    obtain ⟨b,off,⟨xo,xd,xa,xb,xc,xk⟩,hAa,hbb,hx,wx,d0,d1,d2',d3,d4,d5⟩:=(HSA.o _ (HFI.o _ uD)).ac hlt
    subst hAa
    have HX:=zH hx
    have hact:=HA.o _ (List.mem_of_getElem? hx)
    have HAC:=zH hact
    obtain ⟨m,rfl⟩:=Int.eq_ofNat_of_zero_le (show 0<=xd from hact.dst.1)
    have hm:m<f.wires.length:=by have:=hact.dst.2;dsimp only at this;omega
    refine' zq114
    have hDr:=rD.lt
    clear hx hact rD
    refine' zq272
    clear d0 d1 d2' d3 d4 d5 f0 f1 f2 f3 f4 f5
    obtain ⟨f0,f1,f2,f3,f4,f5⟩:=HF6.o _ u4
    have b4:=HFI.o _ u4
    have HWN:=zH (uj ((hG▸HFM).out _ (hG▸b4)) b4.size ⟨xo,(m:Int),xa,xb,xc,xk⟩ wx HAC.o)
    obtain ⟨c0,c1,c2,c3,c4,c5⟩:=r9.six'
    have cD0:=cU rD4 (n:=m) (by rw[HDL.o];exact hm)
    have hDl4:=rD4.lt
    have hg9l:=r9.lt
    have hgD:g9≠D:=by omega
    have HRB:=zH (uO (f:=f) (ds:=d2) (x:=⟨xo,(m:Int),xa,xb,xc,xk⟩))
    have HB0:Hid (aL d2 (m:Int)=aL d2 (m:Int)):=rfl
    generalize hV0:aL d2 (m:Int)=V0 at cD0
    have HV0:=zH hV0
    clear wx hg9 hDr hV0 HB0
    go_wp2_with fail
    (with_reducible refine HWN.o.mono ?_)
    rintro e w5 ⟨v5,rfl,hs5,hb5⟩
    have u5:=u4.trans (ae.of_below hb5)
    have rD5:=rD4.below hb5 hDl4
    obtain ⟨A5,cap5,rfl,lv5,mv5,sv5⟩:=hs5
    have mv5':cap5<=9223372036854775807:=by unfold maxLen at mv5;omega
    have HSV:=zH sv5
    have HWI:=zH HAC.o.wants
    generalize hwl5:cZ f ⟨xo,(m:Int),xa,xb,xc,xk⟩=wl at*
    have hgl5:=(r9.below hb5 hg9l).lt
    have r95:=r9.below hb5 hg9l
    clear f0 f1 f2 f3 f4 f5 c0 c1 c2 c3 c4 c5 sv5 hwl5 HWN cD0 r9 rD4 hb5 b4
    go_wp2_with fail
    obtain ⟨wo2,rfl⟩:∃wo2:World,wo2=w5:=⟨_,rfl⟩
    go_loopw[9,11] (fun v9 i wr=>∃(q:Nat) (r:Bool),q<=wl.length/\v9= .bool r/\i= .int .i64 q/\Hid (r=true↔V0=false/\∀i,i<q->∀n,wl[i]? =some n->aL d2 n=true)/\wo2=wr) (fun _ i _=>wl.length-(intOf i).toNat)
    case atStart=>exact ⟨0,!V0,Nat.zero_le _,rfl,rfl,(by show _↔_;cases V0<;>simp),rfl⟩
    case round=>
     obtain ⟨q,r,hq',rfl,rfl,HRR,rfl⟩:=hrel
     by_cases hlt2:q<wl.length
     ·obtain ⟨b3,off3,n,rfl,hb3,hn,wn,e0⟩:=HSV.o.int hlt2
      have hWn:=HWI.o n (List.mem_of_getElem? hn)
      have HNn:=zH hn
      obtain ⟨p,rfl⟩:=Int.eq_ofNat_of_zero_le hWn.1
      have hpl:p<f.wires.length:=by have:=hWn.2;omega
      have hpl':(p:Int)<f.wires.length:=by omega
      have y0:=cU rD5 (n:=p) (by rw[HDL.o];exact hpl)
      generalize hV:aL d2 (p:Int)=V at y0
      have HV':=zH hV
      clear hn hWn hV
      have HRR':Hid ((r && V)=true↔V0=false/\∀i,i<q+1->∀n,wl[i]? =some n->aL d2 n=true):=by
       show _↔_
       rw[Bool.and_eq_true,HRR.o]
       constructor
       ·rintro ⟨⟨g1,g2⟩,g3⟩
        exact ⟨g1,aC g2 (fun n' hn'=>by rw[HNn.o] at hn';injection hn' with hn';rw[<-hn',HV'.o];exact g3)⟩
       ·rintro ⟨g1,g2⟩
        exact ⟨⟨g1,fun i hi=>g2 i (by omega)⟩,by rw[<-HV'.o];exact g2 q (by omega) _ HNn.o⟩
      cases r
      ·go_wp2_with fail
       go_roundw
       case rel=>exact ⟨q+1,false,by omega,rfl,by go_num,by have:=HRR'.o;(first|rw[Bool.false_and] at this|rw[Bool.true_and] at this);exact this,trivial⟩
       case measure=>simp[intOf];omega
      ·go_wp2_with fail
       go_roundw
       case rel=>exact ⟨q+1,V,by omega,rfl,by go_num,by have:=HRR'.o;(first|rw[Bool.false_and] at this|rw[Bool.true_and] at this);exact this,trivial⟩
       case measure=>simp[intOf];omega
     obtain rfl:q=wl.length:=by omega
     clear hlt2
     have HRQ:Hid (r=true↔di f d2 ⟨xo,(m:Int),xa,xb,xc,xk⟩):=by
      show _↔_
      rw[HRB.o,HRR.o,HV0.o]
      exact and_congr Iff.rfl ⟨fun g=>dY g,fun g i _ n hn=>g n (List.mem_of_getElem? hn)⟩
     cases r
     ·have hnr:¬di f d2 ⟨xo,(m:Int),xa,xb,xc,xk⟩:=fun g=>by have:=HRQ.o.2 g;cases this
      have HF':Hid (b2=false->d2=ds/\∀i,i<j+1->∀x,f.acts[i]? =some x->¬di f ds x):=fun h=>by
       obtain ⟨e,g⟩:=HF.o h
       refine ⟨e,aC g (fun y hy=>?_)⟩
       rw[HX.o] at hy
       injection hy with hy
       rw[<-hy,<-e]
       exact hnr
      clear hnr
      go_wp2_with fail
      go_roundw
      case rel=>exact ⟨j+1,d2,n2,b2,by omega,rfl,rfl,by go_num,HIN.o,HT.o,HF'.o,rD5,u5⟩
      case measure=>simp[intOf];omega
     have hr:=HRQ.o.1 rfl
     have hml:(m:Int)<d2.length:=by rw[HDL.o];exact hm'
     have hone:=kL (ds:=d2) (n:=(m:Int)) (by omega) hml hr.2.2
     simp only[Int.toNat_natCast] at hone
     have HIN':Hid (uF f (n2+1) (d2.set m true)):=⟨⟨pT HIN.o.inn.st (List.mem_of_getElem? HX.o) HAC.o.dst (fun n hn=>HAC.o.wants n (List.mem_append_left _ hn)) (fun g hg=>HAC.o.wants _ (List.mem_append_right _ (List.mem_map.2 ⟨g,hg,rfl⟩))) hr,fun n hn=>jE (n:=(m:Int)) (by omega) hml (HIN.o.inn.ins n hn)⟩,by have:=HIN.o.cnt;omega⟩
     have HT':Hid (aZ (d2.set m true)<aZ ds):=by
      show _<_
      cases b2
      ·have:=(HF.o rfl).1
       rw[this] at hone⊢
       omega
      ·have:=HT.o rfl
       omega
     obtain ⟨c0,c1,c2,c3,c4,c5⟩:=r95.six'
     refine' zq231
     clear hr hone rD5
     go_wp2_with fail
     go_roundw
     case rel=>exact ⟨j+1,d2.set m true,n2+1,true,by omega,by go_num,rfl,by go_num,HIN'.o,(fun _=>HT'.o),(fun h=>by cases h),rD6.out,uD6.out⟩
     case measure=>simp[intOf];omega
end Go.Proofs.YtckognjamlckcaaGreatDoor
