/-
  What a form is folded to, as plain data: how deep wires lie; what each wire comes to (settled).
-/
import Derived.Test.YtckognjamlckcaaSemP
namespace Go.Proofs.Ytckognjamlckcaa.Fo
open Vf Ar
inductive DoneN (f:Fm):Nat→Int→Prop where
 |ins (k:Nat) (n:Int) (h:n∈f.ins):DoneN f k n
 |act (k:Nat) (x:Ac) (hx:x∈f.acts) (hw:∀n∈wants x,DoneN f k n) (hg:∀g∈clockOf f x.dst,DoneN f k g.wire):DoneN f (k+1) x.dst
theorem DoneN.more {f:Fm} {k:Nat} {n:Int} (h:DoneN f k n):∀{m:Nat},k≤m→DoneN f m n:=by
 induction h with
 |ins k n h=>intro m _;exact .ins m n h
 |act k x hx _ _ ih1 ih2=>
  intro m hm
  obtain ⟨m',rfl⟩:∃m',m=m'+1:=⟨m-1,by omega⟩
  exact .act m' x hx (fun n hn=>ih1 n hn (by omega)) (fun g hg=>ih2 g hg (by omega))
theorem bound_all {α:Type} {P:Nat→α→Prop} (hm:∀k m a,k≤m→P k a→P m a):∀(l:List α),(∀a∈l,∃k,P k a)→∃K,∀a∈l,P K a
 | [],_=>⟨0,fun _ h=>by cases h⟩
 |a::l,h=>by
  obtain ⟨k,hk⟩:=h a (by simp)
  obtain ⟨K,hK⟩:=bound_all hm l (fun b hb=>h b (by simp[hb]))
  refine ⟨k+K,fun b hb=>?_⟩
  rcases List.mem_cons.1 hb with rfl|hb
  ·exact hm _ _ _ (by omega) hk
  ·exact hm _ _ _ (by omega) (hK b hb)
theorem doneN_of {f:Fm} {n:Int} (h:Done f n):∃k,DoneN f k n:=by
 induction h with
 |ins n h=>exact ⟨0,.ins 0 n h⟩
 |act x hx _ _ ih1 ih2=>
  obtain ⟨K,hK⟩:=bound_all (P:=fun k n=>DoneN f k n) (fun _ _ _ h g=>g.more h) _ ih1
  obtain ⟨L,hL⟩:=bound_all (P:=fun k (g:Gd)=>DoneN f k g.wire) (fun _ _ _ h g=>g.more h) _ ih2
  exact ⟨_,.act (K+L) x hx (fun n hn=>(hK n hn).more (by omega)) (fun g hg=>(hL g hg).more (by omega))⟩
theorem least {P:Nat→Prop} (h:∃k,P k):∃k,P k∧∀j,P j→k≤j:=by
 obtain ⟨k,hk⟩:=h
 induction k using Nat.strongRecOn with
 |ind k ih=>
  by_cases hj:∃j,j<k∧P j
  ·obtain ⟨j,h1,h2⟩:=hj
   exact ih j h1 h2
  ·exact ⟨k,hk,fun j hj'=>by
    rcases Nat.lt_or_ge j k with h|h
    ·exact absurd ⟨j,h,hj'⟩ hj
    ·exact h⟩
open Classical in
noncomputable def rkF (f:Fm) (n:Int):Nat:=if h:∃k,DoneN f k n then (least h).choose else 0
theorem rkF_is {f:Fm} {n:Int} (h:∃k,DoneN f k n):DoneN f (rkF f n) n∧∀j,DoneN f j n→rkF f n≤j:=by
 unfold rkF
 rw[dif_pos h]
 exact (least h).choose_spec
theorem rk_part {f:Fm} (hf:formOk f) {x:Ac} (hx:x∈f.acts):(∀n∈wants x,rkF f n<rkF f x.dst)∧∀g∈clockOf f x.dst,rkF f g.wire<rkF f x.dst:=by
 have hw:=(hf.2.2.2.2.1.2.1 x hx).1
 have hd:Done f x.dst:=by
  have:=hf.2.2.2.2.2.2 x.dst.toNat (by have:=hw.1;have:=hw.2;omega)
  rwa [show ((x.dst.toNat:Nat):Int)=x.dst by have:=hw.1;omega] at this
 have h:=(rkF_is (doneN_of hd)).1
 generalize hK:rkF f x.dst=K at h
 generalize hn:x.dst=n at h
 cases h with
 |ins k n hi=>exact absurd (by rw[hn];exact hi) (hf.2.2.2.2.1.2.1 x hx).2
 |act k y hy h1 h2=>
  obtain rfl:=dst_uniq hf.2.2.2.2.1 hx hy hn
  exact ⟨fun n hn=>by have:=(rkF_is ⟨_,h1 n hn⟩).2 _ (h1 n hn);omega,fun g hg=>by have:=(rkF_is ⟨_,h2 g hg⟩).2 _ (h2 g hg);omega⟩
def actAt (A:List Ac) (u:Int):Option Ac:=A.find? (fun y=>y.dst==u)
def isNum (A:List Ac) (u:Int):Prop:=∃y,actAt A u=some y∧(y.op=1∨y.op=2)
def dstsOf (A:List Ac):List Int:=A.map (·.dst)
theorem actAt_dst {A:List Ac} {u:Int} {y:Ac} (h:actAt A u=some y):y∈A∧y.dst=u:=by
 have h1:=List.find?_some h
 exact ⟨List.mem_of_find?_eq_some h,by simpa using h1⟩
theorem actAt_mem:∀{A:List Ac},(dstsOf A).Nodup→∀{y:Ac},y∈A→actAt A y.dst=some y
 | [],_,_,h=>by cases h
 |z::A,hn,y,h=>by
  unfold actAt
  simp only[dstsOf,List.map_cons,List.nodup_cons] at hn
  rcases List.mem_cons.1 h with rfl|h
  ·simp
  ·have hne:z.dst≠y.dst:=fun e=>hn.1 (by rw[e];exact List.mem_map.2 ⟨y,h,rfl⟩)
   rw[List.find?_cons_of_neg (by simpa using hne)]
   exact actAt_mem hn.2 h
theorem actAt_none {A:List Ac} {u:Int} (h:u∉dstsOf A):actAt A u=none:=by
 unfold actAt
 rw[List.find?_eq_none]
 intro y hy e
 exact h (List.mem_map.2 ⟨y,hy,by simpa using e⟩)
theorem dsts_set {A:List Ac} {i:Nat} {y:Ac} (h:∀z,A[i]? =some z→z.dst=y.dst):dstsOf (A.set i y)=dstsOf A:=by
 unfold dstsOf
 rw[List.map_set]
 apply List.ext_getElem?
 intro j
 rw[List.getElem?_set]
 split
 ·rename_i e
  subst e
  split
  ·rename_i hi
   rw[List.length_map] at hi
   rw[List.getElem?_map,List.getElem?_eq_getElem hi,Option.map_some,h _ (List.getElem?_eq_getElem hi)]
  ·rename_i hi
   rw[List.getElem?_eq_none (by omega)]
 ·rfl
theorem actAt_set {A:List Ac} (hn:(dstsOf A).Nodup) {i:Nat} {y z:Ac} (hz:A[i]? =some z) (he:z.dst=y.dst) (u:Int):actAt (A.set i y) u=if u=y.dst then some y else actAt A u:=by
 have hd:dstsOf (A.set i y)=dstsOf A:=dsts_set (fun z' h=>by rw[hz] at h;injection h with h;rw[←h];exact he)
 have hi:i<A.length:=(List.getElem?_eq_some_iff.1 hz).1
 split
 ·rename_i e
  subst e
  exact actAt_mem (by rw[hd];exact hn) (List.mem_set hi ..)
 ·rename_i hu
  by_cases hm:u∈dstsOf A
  ·obtain ⟨q,hq,rfl⟩:=List.mem_map.1 hm
   rw[actAt_mem hn hq]
   obtain ⟨j,hj⟩:=List.getElem?_of_mem hq
   have hji:i≠j:=fun e=>by
    subst e
    rw[hz] at hj
    injection hj with hj
    exact hu (by rw[←hj];exact he)
   have:(A.set i y)[j]? =some q:=by rw[List.getElem?_set_ne hji];exact hj
   exact actAt_mem (by rw[hd];exact hn) (List.mem_of_getElem? this)
  ·rw[actAt_none hm,actAt_none (by rw[hd];exact hm)]
def rootAc (R:List Int) (x:Ac):Ac:=if uses x.op≤0 then x else ⟨x.op,x.dst,getI R x.a,if 2≤uses x.op then getI R x.b else 0,if 3≤uses x.op then getI R x.c else 0,x.k⟩
structure ActSt (f:Fm) (R:List Int) (A:List Ac) (S:Int→Prop) (x:Ac):Prop where
 ps:∀n∈wants x,S n
 mv:getI R x.dst=x.dst∨∃n∈wants x,getI R x.dst=getI R n
 ty:tyOf f (getI R x.dst)=tyOf f x.dst
 ck:clockOf f (getI R x.dst)=clockOf f x.dst
 vl:∀cs row,valF f cs row (getI R x.dst)=valF f cs row x.dst
 gone:getI R x.dst≠x.dst→x.op=3∨(x.op=27∧(isNum A (getI R x.a)∨getI R x.b=getI R x.c))
 stays:getI R x.dst=x.dst→x.op≠3∧(x.op=27→¬isNum A (getI R x.a)∧getI R x.b≠getI R x.c)
 now:(∃k,actAt A x.dst=some ⟨tyOf f x.dst,x.dst,0,0,0,k⟩∧(tyOf f x.dst=1∨(tyOf f x.dst=2∧(k=0∨k=1)))∧(∀cs row,valF f cs row x.dst=k)∧
   (((x.op=1∨x.op=2)∧x.k=k)∨(x.op=24∧isNum A (getI R x.a))∨((x.op=5∨x.op=6)∧isNum A (getI R x.a))∨((7≤x.op∧x.op≤20)∧isNum A (getI R x.a)∧isNum A (getI R x.b))))∨
  (2<x.op∧actAt A x.dst=some (rootAc R x)∧(x.op=24→¬isNum A (getI R x.a))∧(x.op=5∨x.op=6→¬isNum A (getI R x.a))∧(7≤x.op∧x.op≤20→¬(isNum A (getI R x.a)∧isNum A (getI R x.b))))
structure FInv (f:Fm) (R:List Int) (A:List Ac) (S:Int→Prop):Prop where
 rl:R.length=f.wires.length
 ad:dstsOf A=dstsOf f.acts
 sw:∀v,S v→isW f v
 old:∀x∈f.acts,¬S x.dst→actAt A x.dst=some x
 inp:∀v∈f.ins,S v→getI R v=v
 act:∀x∈f.acts,S x.dst→ActSt f R A S x
theorem wire_by {f:Fm} (hd:definedOk f) {v:Int} (hv:isW f v):v∈f.ins∨∃x∈f.acts,x.dst=v:=by
 have:=hd.2.2.2 v.toNat (by have:=hv.1;have:=hv.2;omega)
 rwa [show ((v.toNat:Nat):Int)=v by have:=hv.1;omega] at this
theorem dsts_nodup {f:Fm} (hd:definedOk f):(dstsOf f.acts).Nodup:=nodup_of (g:=fun (x:Ac)=>x.dst) hd.2.2.1
theorem uses_le3 (op:Int):uses op≤3:=by
 unfold uses
 repeat' split
 all_goals omega
section
variable {f:Fm} {R:List Int} {A:List Ac} {S:Int→Prop}
theorem wants_uses {x:Ac} (hu:0≤uses x.op) {n:Int} (h:n∈wants x):1≤uses x.op∧(n=x.a∨(2≤uses x.op∧n=x.b)∨(3≤uses x.op∧n=x.c)):=by
 unfold wants at h
 split at h
 ·cases h
 split at h
 ·simp at h;exact ⟨by omega,.inl h⟩
 split at h
 ·simp at h
  rcases h with h|h
  ·exact ⟨by omega,.inl h⟩
  ·exact ⟨by omega,.inr (.inl ⟨by omega,h⟩)⟩
 ·simp at h
  have:uses x.op=3:=by have:=uses_cases hu;unfold uses at*;split<;>(first|omega|(split<;>(first|omega|(split<;>(first|omega|(split<;>omega))))))
  rcases h with h|h|h
  ·exact ⟨by omega,.inl h⟩
  ·exact ⟨by omega,.inr (.inl ⟨by omega,h⟩)⟩
  ·exact ⟨by omega,.inr (.inr ⟨by omega,h⟩)⟩
theorem FInv.nodup (h:FInv f R A S) (hd:definedOk f):(dstsOf A).Nodup:=by rw[h.ad];exact dsts_nodup hd
theorem FInv.root (h:FInv f R A S) (hf:formOk f):∀(k:Nat) {v:Int},rkF f v≤k→S v→S (getI R v)∧getI R (getI R v)=getI R v∧tyOf f (getI R v)=tyOf f v∧clockOf f (getI R v)=clockOf f v∧∀cs row,valF f cs row (getI R v)=valF f cs row v:=by
 intro k
 induction k with
 |zero=>
  intro v hk hs
  rcases wire_by hf.2.2.2.2.1 (h.sw v hs) with hi|⟨x,hx,rfl⟩
  ·have:=h.inp v hi hs
   rw[this]
   exact ⟨hs,this,rfl,rfl,fun _ _=>rfl⟩
  ·have ha:=h.act x hx hs
   rcases ha.mv with e|⟨n,hn,e⟩
   ·rw[e];exact ⟨hs,e,rfl,rfl,fun _ _=>rfl⟩
   ·have:=(rk_part hf hx).1 n hn
    omega
 |succ k ih=>
  intro v hk hs
  rcases wire_by hf.2.2.2.2.1 (h.sw v hs) with hi|⟨x,hx,rfl⟩
  ·have:=h.inp v hi hs
   rw[this]
   exact ⟨hs,this,rfl,rfl,fun _ _=>rfl⟩
  ·have ha:=h.act x hx hs
   rcases ha.mv with e|⟨n,hn,e⟩
   ·rw[e];exact ⟨hs,e,rfl,rfl,fun _ _=>rfl⟩
   ·have hr:=(rk_part hf hx).1 n hn
    have:=ih (v:=n) (by omega) (ha.ps n hn)
    refine ⟨by rw[e];exact this.1,by rw[e];exact this.2.1,ha.ty,ha.ck,ha.vl⟩
theorem FInv.rt (h:FInv f R A S) (hf:formOk f) {v:Int} (hs:S v):S (getI R v)∧getI R (getI R v)=getI R v∧tyOf f (getI R v)=tyOf f v∧clockOf f (getI R v)=clockOf f v∧∀cs row,valF f cs row (getI R v)=valF f cs row v:=h.root hf _ (Nat.le_refl _) hs
theorem FInv.num (h:FInv f R A S) (hf:formOk f) {u:Int} (hs:S u) (hn:isNum A u):∃k,actAt A u=some ⟨tyOf f u,u,0,0,0,k⟩∧(tyOf f u=1∨(tyOf f u=2∧(k=0∨k=1)))∧∀cs row,valF f cs row u=k:=by
 obtain ⟨y,hy,ho⟩:=hn
 rcases wire_by hf.2.2.2.2.1 (h.sw u hs) with hi|⟨x,hx,rfl⟩
 ·obtain ⟨hm,hd⟩:=actAt_dst hy
  have:u∈dstsOf f.acts:=by rw[←h.ad,←hd];exact List.mem_map.2 ⟨y,hm,rfl⟩
  obtain ⟨z,hz,hzd⟩:=List.mem_map.1 this
  exact absurd (by rw[hzd];exact hi) (hf.2.2.2.2.1.2.1 z hz).2
 ·rcases (h.act x hx hs).now with ⟨k,h1,h2,h3,_⟩|⟨h1,h2,_⟩
  ·exact ⟨k,h1,h2,h3⟩
  ·rw[hy] at h2
   injection h2 with h2
   subst h2
   unfold rootAc at ho
   split at ho<;>(first|omega|(simp at ho;omega))
theorem act_two {f:Fm} (hw:wiresOk f) {v:Int} (hv:isW f v):tyOf f v=1∨tyOf f v=2:=ty_two hw v hv
theorem start_inv (hf:formOk f) (R:List Int) (hr:R.length=f.wires.length):FInv f R f.acts (fun _=>False):=
 ⟨hr,rfl,fun _ h=>h.elim,fun _ hx _=>actAt_mem (dsts_nodup hf.2.2.2.2.1) hx,fun _ _ h=>h.elim,fun _ _ h=>h.elim⟩
end
section
variable {f:Fm} {R R':List Int} {A A':List Ac} {S:Int→Prop} {w:Int}
theorem isNum_congr {u:Int} (h:actAt A' u=actAt A u):isNum A' u↔isNum A u:=by unfold isNum;rw[h]
theorem getI_set_ne {l:List Int} {i:Int} {v c:Int} (hi:0≤i) (hc:0≤c) (h:i≠c):getI (l.set i.toNat v) c=getI l c:=by
 unfold getI
 rw[List.getD_eq_getElem?_getD,List.getD_eq_getElem?_getD,List.getElem?_set_ne (by omega)]
theorem getI_set_eq {l:List Int} {i:Int} {v:Int} (hi:0≤i) (hl:i<l.length):getI (l.set i.toNat v) i=v:=by
 unfold getI
 rw[List.getD_eq_getElem?_getD,List.getElem?_set_self (by omega)]
 rfl
theorem ActSt.keep {x:Ac} (hf:formOk f) (hI:FInv f R A S) (h:ActSt f R A S x) (hx:S x.dst) (hr:∀v,S v→getI R' v=getI R v) (ha:∀v,S v→actAt A' v=actAt A v) {S':Int→Prop} (hS:∀v,S v→S' v):ActSt f R' A' S' x:=by
 have e0:=hr _ hx
 have hnum:∀n∈wants x,(isNum A' (getI R' n)↔isNum A (getI R n)):=fun n hn=>by
  rw[hr n (h.ps n hn)]
  exact isNum_congr (ha _ (hI.rt hf (h.ps n hn)).1)
 have e1:∀n∈wants x,getI R' n=getI R n:=fun n hn=>hr n (h.ps n hn)
 have wa:x.op=27∨x.op=24∨x.op=5∨x.op=6∨(7≤x.op∧x.op≤20)→x.a∈wants x:=fun g=>by
  rcases g with g|g|g|g|g
  ·exact wants_a (by rw[uses3 (.inr g)];omega)
  ·exact wants_a (by rw[uses1 (.inr (.inl g))];omega)
  ·exact wants_a (by rw[uses1 (.inr (.inr (.inl g)))];omega)
  ·exact wants_a (by rw[uses1 (.inr (.inr (.inr g)))];omega)
  ·exact wants_a (by rw[uses2 g];omega)
 have wb:x.op=27∨(7≤x.op∧x.op≤20)→x.b∈wants x:=fun g=>by
  rcases g with g|g
  ·exact wants_b (by rw[uses3 (.inr g)];omega)
  ·exact wants_b (by rw[uses2 g];omega)
 have wc:x.op=27→x.c∈wants x:=fun g=>wants_c (uses3 (.inr g))
 refine ⟨fun n hn=>hS n (h.ps n hn),?_,by rw[e0];exact h.ty,by rw[e0];exact h.ck,fun cs row=>by rw[e0];exact h.vl cs row,?_,?_,?_⟩
 ·rw[e0]
  rcases h.mv with g|⟨n,hn,g⟩
  ·exact .inl g
  ·exact .inr ⟨n,hn,by rw[e1 n hn];exact g⟩
 ·rw[e0]
  intro g
  rcases h.gone g with g|⟨g,q⟩
  ·exact .inl g
  ·refine .inr ⟨g,?_⟩
   rw[hnum _ (wa (.inl g)),e1 _ (wb (.inl g)),e1 _ (wc g)]
   exact q
 ·rw[e0]
  intro g
  refine ⟨(h.stays g).1,fun q=>?_⟩
  rw[hnum _ (wa (.inl q)),e1 _ (wb (.inl q)),e1 _ (wc q)]
  exact (h.stays g).2 q
 ·rcases h.now with ⟨k,h1,h2,h3,h4⟩|⟨h1,h2,h3,h4,h5⟩
  ·refine .inl ⟨k,by rw[ha _ hx];exact h1,h2,h3,?_⟩
   rcases h4 with g|⟨g,q⟩|⟨g,q⟩|⟨g,q1,q2⟩
   ·exact .inl g
   ·exact .inr (.inl ⟨g,by rw[hnum _ (wa (.inr (.inl g)))];exact q⟩)
   ·exact .inr (.inr (.inl ⟨g,by rw[hnum _ (wa (by omega))];exact q⟩))
   ·exact .inr (.inr (.inr ⟨g,by rw[hnum _ (wa (by omega))];exact q1,by rw[hnum _ (wb (.inr g))];exact q2⟩))
  ·refine .inr ⟨h1,?_,fun g=>by rw[hnum _ (wa (.inr (.inl g)))];exact h3 g,fun g=>by rw[hnum _ (wa (by omega))];exact h4 g,fun g=>by rw[hnum _ (wa (by omega)),hnum _ (wb (.inr g))];exact h5 g⟩
   rw[ha _ hx,h2]
   unfold rootAc
   split
   ·rfl
   ·rename_i hu
    rw[e1 _ (wants_a (by omega))]
    congr 2
    ·split
     ·rw[e1 _ (wants_b (by omega))]
     ·rfl
    ·split
     ·rw[e1 _ (wants_c (by unfold uses at*;split<;>(first|omega|(split<;>(first|omega|(split<;>(first|omega|(split<;>omega))))))))]
     ·rfl
theorem FInv.more (hf:formOk f) (hI:FInv f R A S) (hw:isW f w) (hn:¬S w) (hrl:R'.length=R.length) (had:dstsOf A'=dstsOf A) (hr:∀v,0≤v→v≠w→getI R' v=getI R v) (ha:∀v,v≠w→actAt A' v=actAt A v)
  (hi:w∈f.ins→getI R' w=w) (hact:∀x∈f.acts,x.dst=w→ActSt f R' A' (fun v=>S v∨v=w) x):FInv f R' A' (fun v=>S v∨v=w):=by
 have hr':∀v,S v→getI R' v=getI R v:=fun v hv=>hr v (hI.sw v hv).1 (fun e=>hn (e▸hv))
 have ha':∀v,S v→actAt A' v=actAt A v:=fun v hv=>ha v (fun e=>hn (e▸hv))
 refine ⟨hrl.trans hI.rl,had.trans hI.ad,fun v hv=>?_,fun x hx hs=>?_,fun v hv hs=>?_,fun x hx hs=>?_⟩
 ·rcases hv with hv|rfl
  ·exact hI.sw v hv
  ·exact hw
 ·rw[ha _ (fun e=>hs (.inr e))]
  exact hI.old x hx (fun g=>hs (.inl g))
 ·rcases hs with hs|rfl
  ·rw[hr' v hs];exact hI.inp v hv hs
  ·exact hi hv
 ·rcases hs with hs|hs
  ·exact (hI.act x hx hs).keep hf hI hs hr' ha' (fun v hv=> .inl hv)
  ·exact hact x hx hs
end
theorem done_w {f:Fm} (hf:formOk f) {v:Int} (hv:isW f v):Done f v:=by
 have:=hf.2.2.2.2.2.2 v.toNat (by have:=hv.1;have:=hv.2;omega)
 rwa [show ((v.toNat:Nat):Int)=v by have:=hv.1;omega] at this
def numAt (A:List Ac) (u:Int):Option Int:=match actAt A u with
 |some y=>if y.op=1∨y.op=2 then some y.k else none
 |none=>none
theorem numAt_some {A:List Ac} {u k:Int} (h:numAt A u=some k):∃y,actAt A u=some y∧(y.op=1∨y.op=2)∧y.k=k:=by
 unfold numAt at h
 split at h
 ·rename_i y hy
  split at h
  ·injection h with h
   exact ⟨y,hy,‹_›,h⟩
  ·cases h
 ·cases h
theorem numAt_none {A:List Ac} {u:Int} (h:numAt A u=none):¬isNum A u:=by
 rintro ⟨y,hy,ho⟩
 unfold numAt at h
 rw[hy] at h
 simp only[ho,if_true] at h
 cases h
theorem numAt_num {A:List Ac} {u k:Int} (h:numAt A u=some k):isNum A u:=by
 obtain ⟨y,hy,ho,_⟩:=numAt_some h
 exact ⟨y,hy,ho⟩
def turnAc (f:Fm) (w k:Int):Ac:=⟨tyOf f w,w,0,0,0,k⟩
def finF (f:Fm) (R:List Int) (A:List Ac) (i:Nat) (x:Ac):List Int × List Ac:=
 if uses x.op≤0 then (R,A)
 else if x.op=3 then (R.set x.dst.toNat (getI R x.a),A.set i (rootAc R x))
 else if x.op=27 then
  (match numAt (A.set i (rootAc R x)) (getI R x.a) with
   |some k=>if k≠0∨getI R x.b=getI R x.c then R.set x.dst.toNat (getI R x.b) else R.set x.dst.toNat (getI R x.c)
   |none=>if getI R x.b=getI R x.c then R.set x.dst.toNat (getI R x.b) else R,A.set i (rootAc R x))
 else if x.op=24 then
  (R,match numAt (A.set i (rootAc R x)) (getI R x.a) with
   |some k=>(A.set i (rootAc R x)).set i (turnAc f x.dst k)
   |none=>A.set i (rootAc R x))
 else if 5≤x.op∧x.op≤20 then
  (R,match numAt (A.set i (rootAc R x)) (getI R x.a) with
   |none=>A.set i (rootAc R x)
   |some p=>if x.op=5∨x.op=6 then (A.set i (rootAc R x)).set i (turnAc f x.dst (oneV x.op p)) else
    match numAt (A.set i (rootAc R x)) (getI R x.b) with
    |none=>A.set i (rootAc R x)
    |some q=>(A.set i (rootAc R x)).set i (turnAc f x.dst (doV x.op p q)))
 else (R,A.set i (rootAc R x))
theorem rootAc_dst (R:List Int) (x:Ac):(rootAc R x).dst=x.dst:=by unfold rootAc;split<;>rfl
theorem bool_val {op a b:Int} (h:5≤op∧op≤20) (hs:Vf.signOut op=2):(doV op a b=0∨doV op a b=1)∧(oneV op a=0∨oneV op a=1):=by
 have hf:∀b:Bool,flagZ b=0∨flagZ b=1:=fun b=>by cases b<;>simp[flagZ]
 have ho:¬(op=7∨op=8∨op=9∨op=10∨op=11∨op=5):=fun g=>by
  unfold Vf.signOut at hs
  rw[if_neg (by omega),if_pos (by omega)] at hs
  omega
 constructor
 ·unfold doV
  repeat' split
  all_goals first|omega|exact hf _|exact .inl rfl
 ·unfold oneV
  rw[if_neg (by omega)]
  split
  ·exact hf _
  ·exact .inl rfl
section
variable {f:Fm} {R:List Int} {A:List Ac} {S:Int→Prop} {x:Ac} {i:Nat}
theorem fin_inv (hf:formOk f) (hI:FInv f R A S) (hi:f.acts[i]? =some x) (hn:¬S x.dst) (hp:∀n∈wants x,S n) (hw:getI R x.dst=x.dst):
  FInv f (finF f R A i x).1 (finF f R A i x).2 (fun v=>S v∨v=x.dst):=by
 have hx:x∈f.acts:=List.mem_of_getElem? hi
 have hd:=hf.2.2.2.2.1
 have hxw:isW f x.dst:=(hd.2.1 x hx).1
 have hxi:x.dst∉f.ins:=(hd.2.1 x hx).2
 have hok:=hf.2.2.2.2.2.1 x hx
 have hu:=hok.2.2.2.1
 have hwl:x.dst<R.length:=by rw[hI.rl];exact hxw.2
 have hAn:=hI.nodup hd
 have hAi:∃z,A[i]? =some z∧z.dst=x.dst:=by
  have h1:(dstsOf A)[i]? =some x.dst:=by rw[hI.ad];simp[dstsOf,hi]
  simp only[dstsOf,List.getElem?_map,Option.map_eq_some_iff] at h1
  exact h1
 obtain ⟨z,hz,hzd⟩:=hAi
 have hset:∀(y:Ac),y.dst=x.dst→dstsOf (A.set i y)=dstsOf A∧∀u,actAt (A.set i y) u=if u=x.dst then some y else actAt A u:=fun y hy=>
  ⟨dsts_set (fun z' h=>by rw[hz] at h;injection h with h;rw[←h,hzd,hy]),fun u=>by rw[actAt_set hAn hz (hzd.trans hy.symm),hy]⟩
 have hset2:∀(y:Ac),y.dst=x.dst→(A.set i (rootAc R x)).set i y=A.set i y:=fun y _=>by rw[List.set_set]
 have hne:∀n,S n→n≠x.dst:=fun n h e=>hn (e▸h)
 have hpn:∀n∈wants x,getI R n≠x.dst:=fun n h=>hne _ (hI.rt hf (hp n h)).1
 have hnumA:∀y,y.dst=x.dst→∀u,u≠x.dst→actAt (A.set i y) u=actAt A u:=fun y hy u h=>by rw[(hset y hy).2,if_neg h]
 have hnA:∀u,u≠x.dst→numAt (A.set i (rootAc R x)) u=numAt A u:=fun u h=>by unfold numAt;rw[hnumA _ (rootAc_dst R x) u h]
 have hval:∀n∈wants x,∀k,numAt A (getI R n)=some k→∀cs row,valF f cs row n=k:=fun n h k hk cs row=>by
  obtain ⟨y,hy,ho,e⟩:=numAt_some hk
  obtain ⟨k',h1,_,h3⟩:=hI.num hf (hI.rt hf (hp n h)).1 ⟨y,hy,ho⟩
  rw[hy] at h1
  injection h1 with h1
  rw[←(hI.rt hf (hp n h)).2.2.2.2,h3,←e,h1]
 have hkind:∀n∈wants x,∀k,numAt A (getI R n)=some k→tyOf f n=2→k=0∨k=1:=fun n h k hk ht=>by
  obtain ⟨y,hy,ho,e⟩:=numAt_some hk
  obtain ⟨k',h1,h2,_⟩:=hI.num hf (hI.rt hf (hp n h)).1 ⟨y,hy,ho⟩
  rw[hy] at h1
  injection h1 with h1
  rw[(hI.rt hf (hp n h)).2.2.1] at h2
  have:y.k=k':=by rw[h1]
  omega
 have wa:1≤uses x.op→x.a∈wants x:=wants_a
 have wb:2≤uses x.op→x.b∈wants x:=wants_b
 have wc:uses x.op=3→x.c∈wants x:=wants_c
 have dn:∀n∈wants x,Done f n:=fun n h=>done_w hf (hI.sw n (hp n h))
 have hrest:=hok.2.2.2.2.2.2.2.2
 have ht2:tyOf f x.dst=1∨tyOf f x.dst=2:=act_two hf.1 hxw
 have keepR:∀(A':List Ac),dstsOf A'=dstsOf A→(∀u,u≠x.dst→actAt A' u=actAt A u)→x.op≠3→(x.op=27→¬isNum A (getI R x.a)∧getI R x.b≠getI R x.c)→
   ((∃k,actAt A' x.dst=some ⟨tyOf f x.dst,x.dst,0,0,0,k⟩∧(tyOf f x.dst=1∨(tyOf f x.dst=2∧(k=0∨k=1)))∧(∀cs row,valF f cs row x.dst=k)∧
    (((x.op=1∨x.op=2)∧x.k=k)∨(x.op=24∧isNum A (getI R x.a))∨((x.op=5∨x.op=6)∧isNum A (getI R x.a))∨((7≤x.op∧x.op≤20)∧isNum A (getI R x.a)∧isNum A (getI R x.b))))∨
   (2<x.op∧actAt A' x.dst=some (rootAc R x)∧(x.op=24→¬isNum A (getI R x.a))∧(x.op=5∨x.op=6→¬isNum A (getI R x.a))∧(7≤x.op∧x.op≤20→¬(isNum A (getI R x.a)∧isNum A (getI R x.b)))))→
   FInv f R A' (fun v=>S v∨v=x.dst):=fun A' h1 h2 h3 h4 h5=>by
  have nn:∀n∈wants x,(isNum A' (getI R n)↔isNum A (getI R n)):=fun n h=>isNum_congr (h2 _ (hpn n h))
  refine hI.more hf hxw hn rfl h1 (fun _ _ _=>rfl) h2 (fun h=>absurd h hxi) (fun x' hx' e=>?_)
  obtain rfl:=dst_uniq hd hx' hx e
  refine ⟨fun n hn=> .inl (hp n hn),.inl hw,by rw[hw],by rw[hw],fun cs row=>by rw[hw],fun g=>absurd hw g,fun _=>⟨h3,fun g=>?_⟩,?_⟩
  ·rw[nn _ (wa (by rw[uses3 (.inr g)];omega))];exact h4 g
  ·rcases h5 with ⟨k,g1,g2,g3,g4⟩|⟨g1,g2,g3,g4,g5⟩
   ·refine .inl ⟨k,g1,g2,g3,?_⟩
    rcases g4 with q|⟨q,r⟩|⟨q,r⟩|⟨q,r1,r2⟩
    ·exact .inl q
    ·exact .inr (.inl ⟨q,(nn _ (wa (by rw[uses1 (.inr (.inl q))];omega))).2 r⟩)
    ·exact .inr (.inr (.inl ⟨q,(nn _ (wa (by rw[uses1 (by omega)];omega))).2 r⟩))
    ·exact .inr (.inr (.inr ⟨q,(nn _ (wa (by rw[uses2 q];omega))).2 r1,(nn _ (wb (by rw[uses2 q];omega))).2 r2⟩))
   ·refine .inr ⟨g1,g2,fun q=>?_,fun q=>?_,fun q=>?_⟩
    ·rw[nn _ (wa (by rw[uses1 (.inr (.inl q))];omega))];exact g3 q
    ·rw[nn _ (wa (by rw[uses1 (by omega)];omega))];exact g4 q
    ·rw[nn _ (wa (by rw[uses2 q];omega)),nn _ (wb (by rw[uses2 q];omega))];exact g5 q
 have moveR:∀n∈wants x,tyOf f x.dst=tyOf f n→clockOf f x.dst=clockOf f n→(∀cs row,valF f cs row x.dst=valF f cs row n)→2<x.op→¬(x.op=24∨x.op=5∨x.op=6∨(7≤x.op∧x.op≤20))→
   (x.op=3∨(x.op=27∧(isNum A (getI R x.a)∨getI R x.b=getI R x.c)))→FInv f (R.set x.dst.toNat (getI R n)) (A.set i (rootAc R x)) (fun v=>S v∨v=x.dst):=fun n hn' ht hc hv h2 h3 h4=>by
  have hro:∀v,0≤v→v≠x.dst→getI (R.set x.dst.toNat (getI R n)) v=getI R v:=fun v h0 h=>getI_set_ne hxw.1 h0 (Ne.symm h)
  have hre:getI (R.set x.dst.toNat (getI R n)) x.dst=getI R n:=getI_set_eq hxw.1 hwl
  have hrn:=hI.rt hf (hp n hn')
  have e1:∀m∈wants x,getI (R.set x.dst.toNat (getI R n)) m=getI R m:=fun m hm=>hro m (hI.sw m (hp m hm)).1 (hne m (hp m hm))
  have nn:∀m∈wants x,(isNum (A.set i (rootAc R x)) (getI R m)↔isNum A (getI R m)):=fun m h=>isNum_congr (hnumA _ (rootAc_dst R x) _ (hpn m h))
  refine hI.more hf hxw hn (by simp) (hset _ (rootAc_dst R x)).1 hro (fun u h=>hnumA _ (rootAc_dst R x) u h) (fun h=>absurd h hxi) (fun x' hx' e=>?_)
  obtain rfl:=dst_uniq hd hx' hx e
  refine ⟨fun n hn=> .inl (hp n hn),.inr ⟨n,hn',by rw[hre,e1 n hn']⟩,by rw[hre,hrn.2.2.1,ht],by rw[hre,hrn.2.2.2.1,hc],fun cs row=>by rw[hre,hrn.2.2.2.2,hv],fun _=>?_,fun g=>absurd (hre.symm.trans g) (hpn n hn'),?_⟩
  ·rcases h4 with g|⟨g,q⟩
   ·exact .inl g
   ·refine .inr ⟨g,?_⟩
    have u3:=uses3 (.inr g)
    rw[e1 _ (wa (by omega)),e1 _ (wb (by omega)),e1 _ (wc u3),nn _ (wa (by omega))]
    exact q
  ·refine .inr ⟨h2,?_,fun q=>absurd (.inl q) h3,fun q=>absurd (by omega) h3,fun q=>absurd (.inr (.inr (.inr q))) h3⟩
   rw[(hset _ (rootAc_dst R x')).2,if_pos rfl]
   congr 1
   unfold rootAc
   split
   ·rfl
   ·rename_i hu1
    rw[e1 _ (wa (by omega))]
    congr 1
    ·split
     ·rw[e1 _ (wb (by omega))]
     ·rfl
    ·split
     ·rw[e1 _ (wc (by rcases uses_cases hu with h|h|h|h|h|h|h|h|h<;>first|(rw[uses3 (by omega)])|(rw[uses1 (by omega)] at*;omega)|(rw[uses2 h] at*;omega)|omega))]
     ·rfl
 have hA1:=hset _ (rootAc_dst R x)
 have rootIt:actAt (A.set i (rootAc R x)) x.dst=some (rootAc R x):=by rw[hA1.2,if_pos rfl]
 have turnIt:∀k,dstsOf ((A.set i (rootAc R x)).set i (turnAc f x.dst k))=dstsOf A∧(∀u,u≠x.dst→actAt ((A.set i (rootAc R x)).set i (turnAc f x.dst k)) u=actAt A u)∧actAt ((A.set i (rootAc R x)).set i (turnAc f x.dst k)) x.dst=some (turnAc f x.dst k):=fun k=>by
  rw[List.set_set]
  have:=hset (turnAc f x.dst k) rfl
  exact ⟨this.1,fun u h=>by rw[this.2,if_neg h],by rw[this.2,if_pos rfl]⟩
 unfold finF
 rcases uses_cases hu with h|h|h|h|h|h|h|h|h
 ·
  have u0:uses x.op=0:=by unfold uses;rw[if_pos (by omega)]
  rw[if_pos (by omega)]
  rw[if_pos h] at hrest
  refine keepR A rfl (fun _ _=>rfl) (by omega) (by omega) (.inl ⟨x.k,?_,.inl hrest,fun cs row=>val_const hf cs row hx (by omega),.inl ⟨.inl h,rfl⟩⟩)
  rw[hI.old x hx hn,hrest,←h]
  have e1:=hok.2.2.2.2.1 (by omega);have e2:=hok.2.2.2.2.2.1 (by omega);have e3:=hok.2.2.2.2.2.2.1 (by omega)
  cases x;simp_all
 ·have u0:uses x.op=0:=by unfold uses;rw[if_pos (by omega)]
  rw[if_pos (by omega)]
  rw[if_neg (by omega),if_pos h] at hrest
  refine keepR A rfl (fun _ _=>rfl) (by omega) (by omega) (.inl ⟨x.k,?_,.inr hrest,fun cs row=>val_const hf cs row hx (by omega),.inl ⟨.inr h,rfl⟩⟩)
  rw[hI.old x hx hn,hrest.1,←h]
  have e1:=hok.2.2.2.2.1 (by omega);have e2:=hok.2.2.2.2.2.1 (by omega);have e3:=hok.2.2.2.2.2.2.1 (by omega)
  cases x;simp_all
 ·have u0:uses x.op=0:=by unfold uses;rw[if_pos (by omega)]
  rw[if_pos (by omega)]
  refine keepR A rfl (fun _ _=>rfl) (by omega) (by omega) (.inr ⟨by omega,?_,by omega,by omega,by omega⟩)
  rw[hI.old x hx hn]
  unfold rootAc
  rw[if_pos (by omega)]
 ·
  have u1:=uses1 (.inl h)
  rw[if_neg (by omega),if_pos h]
  rw[if_neg (by omega),if_neg (by omega),if_neg (by omega),if_neg (by omega),if_neg (by omega),if_pos h] at hrest
  exact moveR x.a (wa (by omega)) hrest.2 hrest.1 (fun cs row=>val_copy hf cs row hx (.inl h) (dn _ (wa (by omega)))) (by omega) (by omega) (.inl h)
 ·
  have u1:=uses1 (.inr (.inl h))
  rw[if_neg (by omega),if_neg (by omega),if_neg (by omega),if_pos h]
  rw[if_neg (by omega),if_neg (by omega),if_neg (by omega),if_pos h] at hrest
  obtain ⟨_,_,hty⟩:=hrest
  have ha:=wa (by omega)
  dsimp only
  rw[hnA _ (hpn _ ha)]
  cases hk:numAt A (getI R x.a) with
  |none=>exact keepR _ hA1.1 (fun u h=>by rw[hA1.2,if_neg h]) (by omega) (by omega) (.inr ⟨by omega,rootIt,fun _=>numAt_none hk,by omega,by omega⟩)
  |some k=>
   refine keepR _ (turnIt k).1 (turnIt k).2.1 (by omega) (by omega) (.inl ⟨k,(turnIt k).2.2,?_,fun cs row=>?_,.inr (.inl ⟨h,numAt_num hk⟩)⟩)
   ·rcases ht2 with g|g
    ·exact .inl g
    ·exact .inr ⟨g,hkind _ ha k hk (by rw[←hty];exact g)⟩
   ·rw[val_copy hf cs row hx (.inr h) (dn _ ha)];exact hval _ ha k hk cs row
 ·
  have u3:=uses3 (.inl h)
  rw[if_neg (by omega),if_neg (by omega),if_neg (by omega),if_neg (by omega),if_neg (by omega)]
  exact keepR _ hA1.1 (fun u h=>by rw[hA1.2,if_neg h]) (by omega) (by omega) (.inr ⟨by omega,rootIt,by omega,by omega,by omega⟩)
 ·
  have u3:=uses3 (.inr h)
  rw[if_neg (by omega),if_neg (by omega),if_pos h]
  rw[if_neg (by omega),if_neg (by omega),if_neg (by omega),if_neg (by omega),if_neg (by omega),if_neg (by omega),if_pos h] at hrest
  obtain ⟨_,hcb,hcc,_,htbc,htb⟩:=hrest
  have ha:=wa (by omega)
  have hb:=wb (by omega)
  have hc:=wc u3
  dsimp only
  rw[hnA _ (hpn _ ha)]
  have vB:∀cs row,valF f cs row x.a≠0→valF f cs row x.dst=valF f cs row x.b:=fun cs row g=>val_yes hf cs row hx (by omega) (dn _ ha) g (dn _ hb)
  have vC:∀cs row,valF f cs row x.a=0→valF f cs row x.dst=valF f cs row x.c:=fun cs row g=>val_no hf cs row hx (by omega) (dn _ ha) g (dn _ hc)
  have vBC:getI R x.b=getI R x.c→∀cs row,valF f cs row x.b=valF f cs row x.c:=fun g cs row=>by
   rw[←(hI.rt hf (hp _ hb)).2.2.2.2,←(hI.rt hf (hp _ hc)).2.2.2.2,g]
  have toB:getI R x.b=getI R x.c→∀cs row,valF f cs row x.dst=valF f cs row x.b:=fun g cs row=>by
   by_cases h0:valF f cs row x.a=0
   ·rw[vC cs row h0,vBC g]
   ·exact vB cs row h0
  cases hk:numAt A (getI R x.a) with
  |none=>
   dsimp only
   by_cases hbc:getI R x.b=getI R x.c
   ·rw[if_pos hbc]
    exact moveR x.b hb htb hcb (toB hbc) (by omega) (by omega) (.inr ⟨h,.inr hbc⟩)
   ·rw[if_neg hbc]
    exact keepR _ hA1.1 (fun u h=>by rw[hA1.2,if_neg h]) (by omega) (fun _=>⟨numAt_none hk,hbc⟩) (.inr ⟨by omega,rootIt,by omega,by omega,by omega⟩)
  |some k=>
   dsimp only
   have hv:=hval _ ha k hk
   by_cases hg:k≠0∨getI R x.b=getI R x.c
   ·rw[if_pos hg]
    refine moveR x.b hb htb hcb (fun cs row=>?_) (by omega) (by omega) (.inr ⟨h,.inl (numAt_num hk)⟩)
    rcases hg with g|g
    ·exact vB cs row (by rw[hv];exact g)
    ·exact toB g cs row
   ·rw[if_neg hg]
    refine moveR x.c hc (htb.trans htbc) hcc (fun cs row=>vC cs row ?_) (by omega) (by omega) (.inr ⟨h,.inl (numAt_num hk)⟩)
    rw[hv]
    exact Classical.byContradiction (fun g=>hg (.inl g))
 ·
  have u1:=uses1 (op:=x.op) (by omega)
  rw[if_neg (by omega),if_neg (by omega),if_neg (by omega),if_neg (by omega),if_pos (by omega)]
  rw[if_neg (by omega),if_neg (by omega),if_neg (by omega),if_neg (by omega),if_neg (by omega),if_neg (by omega),if_neg (by omega)] at hrest
  have ha:=wa (by omega)
  dsimp only
  rw[hnA _ (hpn _ ha)]
  cases hk:numAt A (getI R x.a) with
  |none=>exact keepR _ hA1.1 (fun u h=>by rw[hA1.2,if_neg h]) (by omega) (by omega) (.inr ⟨by omega,rootIt,by omega,fun _=>numAt_none hk,by omega⟩)
  |some p=>
   dsimp only
   rw[if_pos (by omega)]
   refine keepR _ (turnIt _).1 (turnIt _).2.1 (by omega) (by omega) (.inl ⟨_,(turnIt _).2.2,?_,fun cs row=>?_,.inr (.inr (.inl ⟨by omega,numAt_num hk⟩))⟩)
   ·rcases ht2 with g|g
    ·exact .inl g
    ·exact .inr ⟨g,(bool_val (b:=0) (by omega) (by rw[←hrest.2.2.1];exact g)).2⟩
   ·rw[val_one hf cs row hx (by omega) (dn _ ha),hval _ ha p hk]
 ·
  have u2:=uses2 h
  rw[if_neg (by omega),if_neg (by omega),if_neg (by omega),if_neg (by omega),if_pos (by omega)]
  rw[if_neg (by omega),if_neg (by omega),if_neg (by omega),if_neg (by omega),if_neg (by omega),if_neg (by omega),if_neg (by omega)] at hrest
  have ha:=wa (by omega)
  have hb:=wb (by omega)
  dsimp only
  rw[hnA _ (hpn _ ha),hnA _ (hpn _ hb)]
  cases hk:numAt A (getI R x.a) with
  |none=>exact keepR _ hA1.1 (fun u h=>by rw[hA1.2,if_neg h]) (by omega) (by omega) (.inr ⟨by omega,rootIt,by omega,by omega,fun _ g=>numAt_none hk g.1⟩)
  |some p=>
   dsimp only
   rw[if_neg (by omega)]
   cases hq:numAt A (getI R x.b) with
   |none=>exact keepR _ hA1.1 (fun u h=>by rw[hA1.2,if_neg h]) (by omega) (by omega) (.inr ⟨by omega,rootIt,by omega,by omega,fun _ g=>numAt_none hq g.2⟩)
   |some q=>
    refine keepR _ (turnIt _).1 (turnIt _).2.1 (by omega) (by omega) (.inl ⟨_,(turnIt _).2.2,?_,fun cs row=>?_,.inr (.inr (.inr ⟨h,numAt_num hk,numAt_num hq⟩))⟩)
    ·rcases ht2 with g|g
     ·exact .inl g
     ·exact .inr ⟨g,(bool_val (by omega) (by rw[←hrest.2.2.1];exact g)).1⟩
    ·rw[val_two hf cs row hx h (dn _ ha) (dn _ hb),hval _ ha p hk,hval _ hb q hq]
end
end Go.Proofs.Ytckognjamlckcaa.Fo
