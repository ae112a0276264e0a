/-
  What a form is folded to, as plain data: the form that is made of what is needed is right, and says the same. What a form is folded to, as plain data: right, bare, no larger; it says the same; folded again it is no smaller.
-/
import Derived.Test.YtckognjamlckcaaFldP
namespace Go.Proofs.Ytckognjamlckcaa.Fo
open Vf Ar
def cntF (l:List Bool):Nat→Nat
 |0=>0
 |n+1=>cntF l n+if l.getD n false=true then 1 else 0
def pickN {α:Type} (l:List Bool) (g:Nat→α):Nat→List α
 |0=> []
 |n+1=>pickN l g n++if l.getD n false=true then [g n] else []
section
variable {α:Type} {l:List Bool} {g:Nat→α}
theorem cnt_mono (l:List Bool) {i n:Nat} (h:i≤n):cntF l i≤cntF l n:=by
 induction n with
 |zero=>
  obtain rfl:i=0:=by omega
  exact Nat.le_refl _
 |succ n ih=>
  rcases Nat.lt_or_ge n i with h'|h'
  ·obtain rfl:i=n+1:=by omega
   exact Nat.le_refl _
  ·have:=ih h'
   simp only[cntF]
   omega
theorem cnt_lt {i n:Nat} (h:i<n) (hi:l.getD i false=true):cntF l i<cntF l n:=by
 have:=cnt_mono l (show i+1≤n by omega)
 simp only[cntF,hi,if_true] at this
 omega
theorem cnt_le (l:List Bool) (n:Nat):cntF l n≤n:=by
 induction n with
 |zero=>exact Nat.le_refl _
 |succ n ih=>simp only[cntF];split<;>omega
theorem cnt_full {n:Nat} (h:∀i,i<n→l.getD i false=true):cntF l n=n:=by
 induction n with
 |zero=>rfl
 |succ n ih=>simp only[cntF];rw[ih (fun i hi=>h i (by omega)),if_pos (h n (by omega))]
theorem cnt_inj {i j:Nat} (hi:l.getD i false=true) (hj:l.getD j false=true) (h:cntF l i=cntF l j):i=j:=by
 rcases Nat.lt_trichotomy i j with q|q|q
 ·have:=cnt_lt q hi;omega
 ·exact q
 ·have:=cnt_lt q hj;omega
theorem pick_len (n:Nat):(pickN l g n).length=cntF l n:=by
 induction n with
 |zero=>rfl
 |succ n ih=>simp only[pickN,cntF,List.length_append,ih];split<;>rfl
theorem pick_get {n i:Nat} (h:i<n) (hi:l.getD i false=true):(pickN l g n)[cntF l i]? =some (g i):=by
 induction n with
 |zero=>omega
 |succ n ih=>
  simp only[pickN]
  rcases Nat.lt_or_ge i n with h'|h'
  ·rw[List.getElem?_append_left (by rw[pick_len];exact cnt_lt h' hi)]
   exact ih h'
  ·obtain rfl:i=n:=by omega
   rw[List.getElem?_append_right (by rw[pick_len];omega),pick_len,Nat.sub_self,if_pos hi]
   rfl
theorem pick_of {n j:Nat} {x:α} (h:(pickN l g n)[j]? =some x):∃i,i<n∧l.getD i false=true∧j=cntF l i∧x=g i:=by
 induction n with
 |zero=>simp[pickN] at h
 |succ n ih=>
  simp only[pickN] at h
  rcases Nat.lt_or_ge j (pickN l g n).length with h'|h'
  ·rw[List.getElem?_append_left h'] at h
   obtain ⟨i,h1,h2⟩:=ih h
   exact ⟨i,by omega,h2⟩
  ·rw[List.getElem?_append_right h'] at h
   split at h
   ·rename_i hn
    have hj:j-(pickN l g n).length=0:=by
     have:=(List.getElem?_eq_some_iff.1 h).1
     simp at this
     omega
    rw[hj] at h
    injection h with h
    exact ⟨n,by omega,hn,by rw[pick_len] at*;omega,h.symm⟩
   ·simp at h
theorem pick_mem {n:Nat} {x:α} (h:x∈pickN l g n):∃i,i<n∧l.getD i false=true∧x=g i:=by
 obtain ⟨j,hj⟩:=List.getElem?_of_mem h
 obtain ⟨i,h1,h2,_,h3⟩:=pick_of hj
 exact ⟨i,h1,h2,h3⟩
end
def nd (l:List Bool) (v:Int):Prop:=0≤v∧bGet l v=true
open Classical in
noncomputable def numV (l:List Bool) (v:Int):Int:=if nd l v then (cntF l v.toNat:Nat) else 0
theorem numV_nd {l:List Bool} {v:Int} (h:nd l v):numV l v=(cntF l v.toNat:Nat):=by unfold numV;rw[if_pos h]
theorem nd_lt {l:List Bool} {v:Int} (h:nd l v):v<l.length:=by
 have h2:=h.2
 unfold bGet at h2
 rw[List.getD_eq_getElem?_getD] at h2
 rcases Nat.lt_or_ge v.toNat l.length with q|q
 ·have:=h.1;omega
 ·rw[List.getElem?_eq_none q] at h2;cases h2
theorem nd_nat {l:List Bool} {i:Nat} (h:l.getD i false=true):nd l (i:Int):=⟨by omega,by unfold bGet;simpa using h⟩
theorem num_inj {l:List Bool} {u v:Int} (hu:nd l u) (hv:nd l v) (h:numV l u=numV l v):u=v:=by
 rw[numV_nd hu,numV_nd hv] at h
 have:=cnt_inj hu.2 hv.2 (by omega)
 have:=hu.1;have:=hv.1
 omega
section
variable (f:Fm) (R:List Int) (A:List Ac) (fr:List Int) (need cl:List Bool)
noncomputable def gdM (g:Gd):Gd:=⟨numV need (getI R g.wire),g.no⟩
noncomputable def wireM (v:Int):Wr:=⟨tyOf f v,(clockOf f v).map (gdM R need)⟩
noncomputable def actM (y:Ac):Ac:=⟨y.op,numV need y.dst,if 1≤uses y.op then numV need (getI R y.a) else y.a,if 2≤uses y.op then numV need (getI R y.b) else y.b,if 3≤uses y.op then numV need (getI R y.c) else y.c,if y.op=21 then numV cl y.k else y.k⟩
noncomputable def actsM (l:List Ac):List Ac:=l.filterMap (fun y=>if bGet need y.dst=true then some (actM R need cl y) else none)
noncomputable def madeF:Fm where
 wires:=pickN need (fun i=>wireM f R need (i:Nat)) f.wires.length
 acts:=actsM R need cl A
 cells:=pickN cl (fun i=>f.cells.getD i (0,0)) f.cells.length
 keeps:=pickN cl (fun i=>(numV cl (i:Nat),numV need (getI R (getI fr (i:Nat))))) f.cells.length
 ins:=f.ins.map (numV need)
 outs:=f.outs.map (fun n=>numV need (getI R n))
structure Clo:Prop where
 inv:FInv f R A (isW f)
 nl:need.length=f.wires.length
 kl:cl.length=f.cells.length
 rt:∀v,nd need v→getI R v=v
 gd:∀v,nd need v→∀g∈clockOf f v,nd need (getI R g.wire)
 pt:∀v,nd need v→∀y,actAt A v=some y→(∀n∈wants y,nd need n)∧(y.op=21→nd cl y.k)
 ce:∀c,nd cl c→nd need (getI R (getI fr c))
 fk:∀k∈f.keeps,getI fr k.1=k.2
 ins:∀n∈f.ins,nd need n
 outs:∀n∈f.outs,nd need (getI R n)
end
section
variable {f:Fm} {R:List Int} {A:List Ac} {fr:List Int} {need cl:List Bool}
theorem Clo.isW (h:Clo f R A fr need cl) {v:Int} (hv:nd need v):isW f v:=⟨hv.1,by have:=nd_lt hv;rw[h.nl] at this;exact this⟩
theorem Clo.isC (h:Clo f R A fr need cl) {v:Int} (hv:nd cl v):v<f.cells.length:=by have:=nd_lt hv;rw[h.kl] at this;exact this
theorem Clo.num (h:Clo f R A fr need cl) {v:Int} (hv:nd need v):Fo.isW (madeF f R A fr need cl) (numV need v)∧tyOf (madeF f R A fr need cl) (numV need v)=tyOf f v∧clockOf (madeF f R A fr need cl) (numV need v)=(clockOf f v).map (gdM R need):=by
 have hl:v.toNat<f.wires.length:=by have:=(h.isW hv).1;have:=(h.isW hv).2;omega
 have hg:=pick_get (g:=fun (i:Nat)=>wireM f R need (i:Nat)) hl hv.2
 have hw:wAt (madeF f R A fr need cl) (numV need v)=wireM f R need v:=by
  unfold wAt
  rw[numV_nd hv,List.getD_eq_getElem?_getD,Int.toNat_natCast]
  show ((pickN need (fun i=>wireM f R need (i:Nat)) f.wires.length)[cntF need v.toNat]?).getD _=_
  rw[hg]
  have:((v.toNat:Nat):Int)=v:=by have:=hv.1;omega
  simp only[this,Option.getD_some]
 refine ⟨⟨by rw[numV_nd hv];omega,?_⟩,by unfold tyOf;rw[hw];rfl,by unfold clockOf;rw[hw];rfl⟩
 rw[numV_nd hv]
 show ((cntF need v.toNat:Nat):Int)<((pickN need (fun i=>wireM f R need (i:Nat)) f.wires.length).length:Nat)
 rw[pick_len]
 have:=cnt_lt (l:=need) hl hv.2
 omega
theorem Clo.surj (_h:Clo f R A fr need cl) {n:Nat} (hn:n<(madeF f R A fr need cl).wires.length):∃v,nd need v∧numV need v=n:=by
 obtain ⟨i,h1,h2,h3,_⟩:=pick_of (List.getElem?_eq_getElem hn)
 exact ⟨(i:Int),nd_nat h2,by rw[numV_nd (nd_nat h2),Int.toNat_natCast,h3]⟩
theorem Clo.csurj (_h:Clo f R A fr need cl) {n:Nat} (hn:n<(madeF f R A fr need cl).cells.length):∃c,nd cl c∧numV cl c=n:=by
 obtain ⟨i,h1,h2,h3,_⟩:=pick_of (List.getElem?_eq_getElem hn)
 exact ⟨(i:Int),nd_nat h2,by rw[numV_nd (nd_nat h2),Int.toNat_natCast,h3]⟩
theorem Clo.cell (h:Clo f R A fr need cl) {c:Int} (hc:nd cl c):0≤numV cl c∧numV cl c<(madeF f R A fr need cl).cells.length∧(madeF f R A fr need cl).cells.getD (numV cl c).toNat (0,0)=f.cells.getD c.toNat (0,0):=by
 have hl:c.toNat<f.cells.length:=by have:=h.isC hc;have:=hc.1;omega
 have hg:=pick_get (g:=fun (i:Nat)=>f.cells.getD i (0,0)) hl hc.2
 refine ⟨by rw[numV_nd hc];omega,?_,?_⟩
 ·rw[numV_nd hc]
  show ((cntF cl c.toNat:Nat):Int)<((pickN cl (fun i=>f.cells.getD i (0,0)) f.cells.length).length:Nat)
  rw[pick_len]
  have:=cnt_lt (l:=cl) hl hc.2
  omega
 ·rw[numV_nd hc,Int.toNat_natCast,List.getD_eq_getElem?_getD]
  show ((pickN cl (fun i=>f.cells.getD i (0,0)) f.cells.length)[cntF cl c.toNat]?).getD _=_
  rw[hg]
  rfl
theorem types_getD {l:List (Int × Int)} {c:Int} (_h0:0≤c) (h1:c<l.length):getI (types l) c=(l.getD c.toNat (0,0)).1:=by
 unfold getI types
 rw[List.getD_eq_getElem?_getD,List.getD_eq_getElem?_getD,List.getElem?_map,List.getElem?_eq_getElem (by omega)]
 rfl
theorem kept_of {f:Fm} (hd:∀(i j:Nat) x y,i<j→f.keeps[i]? =some x→f.keeps[j]? =some y→x.1≠y.1) {k:Int × Int} (hk:k∈f.keeps):kept f k.1=some k.2:=by
 unfold kept
 obtain ⟨i,hi⟩:=List.getElem?_of_mem hk
 cases hq:f.keeps.find? (fun z=>z.1==k.1) with
 |none=>
  rw[List.find?_eq_none] at hq
  exact absurd (by simp) (hq k hk)
 |some z=>
  have h1:z.1=k.1:=by simpa using List.find?_some hq
  obtain ⟨j,hj⟩:=List.getElem?_of_mem (List.mem_of_find?_eq_some hq)
  rcases Nat.lt_trichotomy i j with q|q|q
  ·exact absurd h1.symm (hd i j _ _ q hi hj)
  ·subst q
   rw[hi] at hj
   injection hj with hj
   rw[←hj]
   rfl
  ·exact absurd h1 (hd j i _ _ q hj hi)
theorem kept_mem {f:Fm} {c n:Int} (h:kept f c=some n):(c,n)∈f.keeps:=by
 unfold kept at h
 rw[Option.map_eq_some_iff] at h
 obtain ⟨z,hz,e⟩:=h
 have h1:z.1=c:=by simpa using List.find?_some hz
 have:=List.mem_of_find?_eq_some hz
 rw[←h1,←e]
 exact this
theorem Clo.made_cells (h:Clo f R A fr need cl) (hf:formOk f):cellsOk (madeF f R A fr need cl)∧∀c,nd cl c→kept (madeF f R A fr need cl) (numV cl c)=some (numV need (getI R (getI fr c))):=by
 have hc:=hf.2.2.2.1
 have hkeep:∀k∈(madeF f R A fr need cl).keeps,∃c,nd cl c∧k=(numV cl c,numV need (getI R (getI fr c))):=fun k hk=>by
  obtain ⟨i,_,h2,h3⟩:=pick_mem hk
  exact ⟨(i:Int),nd_nat h2,h3⟩
 have hdis:∀(i j:Nat) x y,i<j→(madeF f R A fr need cl).keeps[i]? =some x→(madeF f R A fr need cl).keeps[j]? =some y→x.1≠y.1:=fun i j x y hij hx hy e=>by
  obtain ⟨p,p1,p2,p3,p4⟩:=pick_of hx
  obtain ⟨q,q1,q2,q3,q4⟩:=pick_of hy
  rw[p4,q4] at e
  have:=num_inj (nd_nat p2) (nd_nat q2) e
  obtain rfl:p=q:=by omega
  omega
 have hmk:∀c,nd cl c→(numV cl c,numV need (getI R (getI fr c)))∈(madeF f R A fr need cl).keeps:=fun c hn=>by
  have hl:c.toNat<f.cells.length:=by have:=h.isC hn;have:=hn.1;omega
  have:=pick_get (g:=fun (i:Nat)=>(numV cl (i:Nat),numV need (getI R (getI fr (i:Nat))))) hl hn.2
  rw[show ((c.toNat:Nat):Int)=c by have:=hn.1;omega] at this
  exact List.mem_of_getElem? this
 refine ⟨⟨fun c hcm=>?_,?_,fun k hk=>?_,hdis,fun c hcl=>?_⟩,fun c hn=>kept_of hdis (hmk c hn)⟩
 ·obtain ⟨i,h1,_,h3⟩:=pick_mem hcm
  rw[h3,List.getD_eq_getElem?_getD,List.getElem?_eq_getElem h1]
  exact hc.1 _ (List.getElem_mem h1)
 ·show (pickN cl (fun i=>f.cells.getD i (0,0)) f.cells.length).length≤60
  rw[pick_len]
  have:=cnt_le cl f.cells.length
  have:=hc.2.1
  omega
 ·obtain ⟨c,hn,rfl⟩:=hkeep k hk
  have h1:=h.cell hn
  have h2:=h.num (h.ce c hn)
  refine ⟨h1.1,h1.2.1,h2.1,?_⟩
  rw[h2.2.1,types_getD h1.1 h1.2.1,h1.2.2]
  obtain ⟨k,hk1,hk2⟩:=hc.2.2.2.2 c.toNat (by have:=h.isC hn;have:=hn.1;omega)
  have e:k.1=c:=by rw[hk2];have:=hn.1;omega
  have hkk:=hc.2.2.1 k hk1
  have hfr:=h.fk k hk1
  rw[e] at hfr
  rw[hfr,(h.inv.rt hf hkk.2.2.1).2.2.1,hkk.2.2.2,e,types_getD hn.1 (h.isC hn)]
 ·obtain ⟨c',hn,e⟩:=h.csurj hcl
  exact ⟨_,hmk c' hn,e⟩
theorem Clo.acts (h:Clo f R A fr need cl) (hf:formOk f) {y':Ac} (hy:y'∈(madeF f R A fr need cl).acts):∃x y,x∈f.acts∧nd need x.dst∧actAt A x.dst=some y∧y.dst=x.dst∧ActSt f R A (Fo.isW f) x∧y'=actM R need cl y:=by
 simp only[madeF,actsM,List.mem_filterMap] at hy
 obtain ⟨y,hy,e⟩:=hy
 split at e
 ·rename_i hb
  injection e with e
  have hm:y.dst∈dstsOf f.acts:=by rw[←h.inv.ad];exact List.mem_map.2 ⟨y,hy,rfl⟩
  obtain ⟨x,hx,hxd⟩:=List.mem_map.1 hm
  have hxw:=(hf.2.2.2.2.1.2.1 x hx).1
  refine ⟨x,y,hx,⟨hxw.1,by rw[hxd];exact hb⟩,by rw[hxd];exact actAt_mem (h.inv.nodup hf.2.2.2.2.1) hy,hxd.symm,h.inv.act x hx hxw,e.symm⟩
 ·cases e
theorem Clo.act_in (h:Clo f R A fr need cl) (hf:formOk f) {x:Ac} (hx:x∈f.acts) (hn:nd need x.dst):∃y,actAt A x.dst=some y∧y.dst=x.dst∧actM R need cl y∈(madeF f R A fr need cl).acts:=by
 have hm:x.dst∈dstsOf A:=by rw[h.inv.ad];exact List.mem_map.2 ⟨x,hx,rfl⟩
 obtain ⟨y,hy,hyd⟩:=List.mem_map.1 hm
 refine ⟨y,by rw[←hyd];exact actAt_mem (h.inv.nodup hf.2.2.2.2.1) hy,hyd,?_⟩
 simp only[madeF,actsM,List.mem_filterMap]
 exact ⟨y,hy,by rw[if_pos (by rw[hyd];exact hn.2)]⟩
theorem Clo.made_defined (h:Clo f R A fr need cl) (hf:formOk f):definedOk (madeF f R A fr need cl):=by
 have hd:=hf.2.2.2.2.1
 refine ⟨fun i j x y hij hx hy e=>?_,fun a ha=>?_,?_,fun n hn=>?_⟩
 ·simp only[madeF,List.getElem?_map,Option.map_eq_some_iff] at hx hy
  obtain ⟨x0,hx0,rfl⟩:=hx
  obtain ⟨y0,hy0,rfl⟩:=hy
  exact hd.1 i j _ _ hij hx0 hy0 (num_inj (h.ins _ (List.mem_of_getElem? hx0)) (h.ins _ (List.mem_of_getElem? hy0)) e)
 ·obtain ⟨x,y,hx,hn,hy,hyd,_,rfl⟩:=h.acts hf ha
  refine ⟨by show Fo.isW _ (numV need y.dst);rw[hyd];exact (h.num hn).1,fun hm=>?_⟩
  simp only[madeF,List.mem_map] at hm
  obtain ⟨n,hn',e⟩:=hm
  have:n=x.dst:=num_inj (h.ins n hn') hn (by rw[e];show numV need y.dst=_;rw[hyd])
  exact (hd.2.1 x hx).2 (by rw[←this];exact hn')
 ·refine of_pair (R:=fun (x y:Ac)=>x.dst≠y.dst) ?_
  show (actsM R need cl A).Pairwise _
  unfold actsM
  rw[List.pairwise_filterMap]
  have hp:A.Pairwise (fun a b=>a.dst≠b.dst):=by
   have:=h.inv.nodup hd
   unfold dstsOf at this
   rwa [List.Nodup,List.pairwise_map] at this
  refine hp.imp_of_mem (fun {a b} ha hb hab a' ha' b' hb' e=>hab ?_)
  split at ha'
  ·split at hb'
   ·injection ha' with ha'
    injection hb' with hb'
    subst ha';subst hb'
    have hw:∀z∈A,Fo.isW f z.dst:=fun z hz=>by
     have hm:z.dst∈dstsOf f.acts:=by rw[←h.inv.ad];exact List.mem_map.2 ⟨z,hz,rfl⟩
     obtain ⟨x,hx,hxd⟩:=List.mem_map.1 hm
     rw[←hxd]
     exact (hd.2.1 x hx).1
    exact num_inj ⟨(hw a ha).1,‹_›⟩ ⟨(hw b hb).1,‹_›⟩ e
   ·cases hb'
  ·cases ha'
 ·obtain ⟨v,hv,e⟩:=h.surj hn
  rcases wire_by hd (h.isW hv) with hi|⟨x,hx,rfl⟩
  ·exact .inl (by rw[←e];exact List.mem_map.2 ⟨v,hi,rfl⟩)
  ·obtain ⟨y,_,hyd,hy⟩:=h.act_in hf hx hv
   exact .inr ⟨_,hy,by rw[←e];show numV need y.dst=_;rw[hyd]⟩
theorem wants_M {y:Ac} {n:Int} (h:n∈wants (actM R need cl y)) (hu:0≤uses y.op):∃m∈wants y,n=numV need (getI R m):=by
 obtain ⟨h1,h2⟩:=wants_uses (x:=actM R need cl y) hu h
 have h1':1≤uses y.op:=h1
 rcases h2 with rfl|⟨h2,rfl⟩|⟨h2,rfl⟩
 ·exact ⟨y.a,wants_a h1',by simp only[actM];rw[if_pos h1']⟩
 ·have h2':2≤uses y.op:=h2
  exact ⟨y.b,wants_b h2',by simp only[actM];rw[if_pos h2']⟩
 ·have h2':3≤uses y.op:=h2
  exact ⟨y.c,wants_c (by have:=uses_le3 y.op;omega),by simp only[actM];rw[if_pos h2']⟩
theorem root_wants {x:Ac} (hu:0≤uses x.op) {n:Int} (h:n∈wants (rootAc R x)):∃m∈wants x,n=getI R m:=by
 by_cases h0:uses x.op≤0
 ·unfold rootAc at h
  rw[if_pos h0] at h
  have:=(wants_uses hu h).1
  omega
 ·have hu':uses (rootAc R x).op=uses x.op:=by unfold rootAc;rw[if_neg h0]
  obtain ⟨_,h2⟩:=wants_uses (x:=rootAc R x) (by rw[hu'];exact hu) h
  rw[hu'] at h2
  unfold rootAc at h2
  rw[if_neg h0] at h2
  rcases h2 with rfl|⟨h2,rfl⟩|⟨h2,rfl⟩
  ·exact ⟨x.a,wants_a (by omega),rfl⟩
  ·exact ⟨x.b,wants_b h2,by dsimp only;rw[if_pos h2]⟩
  ·exact ⟨x.c,wants_c (by have:=uses_le3 x.op;omega),by dsimp only;rw[if_pos h2]⟩
theorem root_op {x:Ac}:(rootAc R x).op=x.op:=by unfold rootAc;split<;>rfl
theorem Clo.made_row (h:Clo f R A fr need cl) (hf:formOk f) {v:Int} (hv:Done f v):nd need (getI R v)→Done (madeF f R A fr need cl) (numV need (getI R v)):=by
 induction hv with
 |ins n hn=>
  intro _
  have hw:Fo.isW f n:=(hf.2.1.1 n hn).1
  rw[h.inv.inp n hn hw]
  exact .ins _ (List.mem_map.2 ⟨n,hn,rfl⟩)
 |act x hx _ _ ih1 ih2=>
  intro hnd
  have hw:=(hf.2.2.2.2.1.2.1 x hx).1
  have ha:=h.inv.act x hx hw
  rcases ha.mv with e|⟨n,hn,e⟩
  ·rw[e] at hnd⊢
   obtain ⟨y,hy,hyd,hm⟩:=h.act_in hf hx hnd
   have e':numV need x.dst=(actM R need cl y).dst:=by show _=numV need y.dst;rw[hyd]
   rw[e']
   have hp:=h.pt _ hnd y hy
   have hux:=(hf.2.2.2.2.2.1 x hx).2.2.2.1
   refine .act _ hm (fun n hn=>?_) (fun g hg=>?_)
   ·rcases ha.now with ⟨k,h1,h2,_⟩|⟨_,h2,_⟩
    ·rw[hy] at h1
     injection h1 with h1
     have hu:uses y.op=0:=by
      rw[h1]
      unfold uses
      exact if_pos (by rcases h2 with g|⟨g,_⟩<;>simp[g])
     obtain ⟨m,hm',_⟩:=wants_M hn (by omega)
     have:=(wants_uses (by omega) hm').1
     omega
    ·rw[hy] at h2
     injection h2 with h2
     have hu:0≤uses y.op:=by rw[h2,root_op];exact hux
     obtain ⟨m,hm',rfl⟩:=wants_M hn hu
     have hmn:=hp.1 m hm'
     have hmr:=h.rt m hmn
     obtain ⟨p,hp',hpe⟩:=root_wants hux (by rw[←h2];exact hm')
     rw[hmr,hpe]
     exact ih1 p hp' (by rw[←hpe];exact hmn)
   ·rw[←e',(h.num hnd).2.2] at hg
    obtain ⟨g0,hg0,rfl⟩:=List.mem_map.1 hg
    exact ih2 g0 hg0 (h.gd _ hnd g0 hg0)
  ·rw[e] at hnd⊢
   exact ih1 n hn hnd
theorem Clo.made_wires (h:Clo f R A fr need cl) (hf:formOk f):wiresOk (madeF f R A fr need cl):=by
 refine ⟨fun w hw=>?_,?_,?_⟩
 ·obtain ⟨i,h1,h2,rfl⟩:=pick_mem hw
  have hn:=nd_nat h2
  have hi:=h.isW hn
  refine ⟨act_two hf.1 hi,fun j g hg=>?_⟩
  simp only[wireM,List.getElem?_map,Option.map_eq_some_iff] at hg
  obtain ⟨g0,hg0,rfl⟩:=hg
  have hmem:=List.mem_of_getElem? hg0
  have hwi:∀(j:Nat) g,(clockOf f (i:Int))[j]? =some g→Fo.isW f g.wire∧tyOf f g.wire=2∧clockOf f g.wire=(clockOf f (i:Int)).take j:=by
   have hm:wAt f (i:Int)∈f.wires:=by
    unfold wAt
    rw[List.getD_eq_getElem?_getD,Int.toNat_natCast,List.getElem?_eq_getElem h1]
    exact List.getElem_mem h1
   exact (hf.1.1 _ hm).2
  obtain ⟨q1,q2,q3⟩:=hwi j g0 hg0
  have hr:=h.inv.rt hf q1
  have hm:=h.num (h.gd _ hn g0 hmem)
  refine ⟨hm.1,by show tyOf _ (numV need (getI R g0.wire))=2;rw[hm.2.1,hr.2.2.1,q2],?_⟩
  show clockOf _ (numV need (getI R g0.wire))=_
  rw[hm.2.2,hr.2.2.2.1,q3,List.map_take]
  rfl
 ·obtain ⟨n,hn⟩:∃n,n∈f.ins:=by
   have:=hf.2.1.2.1
   cases hl:f.ins with
   |nil=>rw[hl] at this;simp at this
   |cons n l=>exact ⟨n,by simp⟩
  have:=(h.num (h.ins n hn)).1
  have h1:=this.1;have h2:=this.2
  omega
 ·show (pickN need (fun i=>wireM f R need (i:Nat)) f.wires.length).length≤1600
  rw[pick_len]
  have:=cnt_le need f.wires.length
  have:=hf.1.2.2
  omega
end
end Go.Proofs.Ytckognjamlckcaa.Fo
namespace Go.Proofs.Ytckognjamlckcaa.Fo
open Vf Ar
section
variable {f:Fm} {R:List Int} {A:List Ac} {fr:List Int} {need cl:List Bool}
theorem uses0 {op:Int} (h:op=1∨op=2∨op=21):uses op=0:=by unfold uses;rw[if_pos h]
theorem Clo.part (h:Clo f R A fr need cl) (hf:formOk f) {n:Int} (hn:nd need (getI R n)) (hw:Fo.isW f n):Fo.isW (madeF f R A fr need cl) (numV need (getI R n))∧tyOf (madeF f R A fr need cl) (numV need (getI R n))=tyOf f n∧clockOf (madeF f R A fr need cl) (numV need (getI R n))=(clockOf f n).map (gdM R need):=by
 have h1:=h.num hn
 have h2:=h.inv.rt hf hw
 exact ⟨h1.1,h1.2.1.trans h2.2.2.1,by rw[h1.2.2,h2.2.2.2.1]⟩
theorem Clo.made_act (h:Clo f R A fr need cl) (hf:formOk f) {y':Ac} (hy':y'∈(madeF f R A fr need cl).acts):actOk (madeF f R A fr need cl) y':=by
 obtain ⟨x,y,hx,hn,hy,hyd,ha,rfl⟩:=h.acts hf hy'
 have hok:=hf.2.2.2.2.2.1 x hx
 have hu:=hok.2.2.2.1
 have hrest:=hok.2.2.2.2.2.2.2.2
 have w0:Fo.isW (madeF f R A fr need cl) 0:=⟨by omega,by have:=(h.made_wires hf).2.1;omega⟩
 have hd:=h.num hn
 have hpt:=h.pt _ hn y hy
 have hst:=ha.stays (h.rt _ hn)
 have ed:(actM R need cl y).dst=numV need x.dst:=by show numV need y.dst=_;rw[hyd]
 rcases ha.now with ⟨k,h1,h2,_⟩|⟨hgt,h2,_⟩
 ·rw[hy] at h1
  injection h1 with h1
  have hop:y.op=tyOf f x.dst:=by rw[h1]
  have u0:uses y.op=0:=uses0 (by omega)
  have e:actM R need cl y=⟨y.op,numV need x.dst,0,0,0,k⟩:=by
   unfold actM
   rw[if_neg (by omega),if_neg (by omega),if_neg (by omega),if_neg (by omega),hyd,h1]
  rw[e]
  refine ⟨w0,w0,w0,by show 0≤uses y.op;omega,fun _=>rfl,fun _=>rfl,fun _=>rfl,fun g=>by have:0<uses y.op:=g;omega,?_⟩
  dsimp only
  rw[hd.2.1]
  by_cases g:y.op=1
  ·rw[if_pos g,←hop,g]
  ·rw[if_neg g,if_pos (by omega)]
   exact ⟨by omega,by omega⟩
 ·rw[hy] at h2
  injection h2 with h2
  have hop:y.op=x.op:=by rw[h2,root_op]
  have hM:(actM R need cl y).op=x.op:=hop
  have pa:1≤uses x.op→(actM R need cl y).a=numV need (getI R x.a)∧nd need (getI R x.a)∧Fo.isW f x.a:=fun g=>by
   have e:y.a=getI R x.a:=by rw[h2];unfold rootAc;rw[if_neg (by omega)]
   have hm:nd need y.a:=hpt.1 _ (wants_a (by rw[hop];exact g))
   refine ⟨?_,by rw[←e];exact hm,hok.1⟩
   show (if 1≤uses y.op then numV need (getI R y.a) else y.a)=_
   rw[if_pos (by rw[hop];exact g),h.rt _ hm,e]
  have pb:2≤uses x.op→(actM R need cl y).b=numV need (getI R x.b)∧nd need (getI R x.b)∧Fo.isW f x.b:=fun g=>by
   have e:y.b=getI R x.b:=by rw[h2];unfold rootAc;rw[if_neg (by omega)];exact if_pos g
   have hm:nd need y.b:=hpt.1 _ (wants_b (by rw[hop];exact g))
   refine ⟨?_,by rw[←e];exact hm,hok.2.1⟩
   show (if 2≤uses y.op then numV need (getI R y.b) else y.b)=_
   rw[if_pos (by rw[hop];exact g),h.rt _ hm,e]
  have pc:3≤uses x.op→(actM R need cl y).c=numV need (getI R x.c)∧nd need (getI R x.c)∧Fo.isW f x.c:=fun g=>by
   have e:y.c=getI R x.c:=by rw[h2];unfold rootAc;rw[if_neg (by omega)];exact if_pos g
   have hm:nd need y.c:=hpt.1 _ (wants_c (by rw[hop];have:=uses_le3 x.op;omega))
   refine ⟨?_,by rw[←e];exact hm,hok.2.2.1⟩
   show (if 3≤uses y.op then numV need (getI R y.c) else y.c)=_
   rw[if_pos (by rw[hop];exact g),h.rt _ hm,e]
  have qa:uses x.op<1→(actM R need cl y).a=0:=fun g=>by
   show (if 1≤uses y.op then _ else y.a)=_
   rw[if_neg (by rw[hop];omega),h2]
   unfold rootAc
   rw[if_pos (by omega)]
   exact hok.2.2.2.2.1 g
  have qb:uses x.op<2→(actM R need cl y).b=0:=fun g=>by
   show (if 2≤uses y.op then _ else y.b)=_
   rw[if_neg (by rw[hop];omega),h2]
   unfold rootAc
   split
   ·exact hok.2.2.2.2.2.1 g
   ·exact if_neg (by omega)
  have qc:uses x.op<3→(actM R need cl y).c=0:=fun g=>by
   show (if 3≤uses y.op then _ else y.c)=_
   rw[if_neg (by rw[hop];omega),h2]
   unfold rootAc
   split
   ·exact hok.2.2.2.2.2.2.1 g
   ·exact if_neg (by omega)
  have yk:y.k=x.k:=by rw[h2];unfold rootAc;split<;>rfl
  have qk:0<uses x.op→(actM R need cl y).k=0:=fun g=>by
   show (if y.op=21 then _ else y.k)=_
   rw[if_neg (fun e=>by rw[hop] at e;rw[uses0 (.inr (.inr e))] at g;omega),yk]
   exact hok.2.2.2.2.2.2.2.1 g
  have wa:Fo.isW (madeF f R A fr need cl) (actM R need cl y).a:=by
   rcases Int.lt_or_le (uses x.op) 1 with g|g
   ·rw[qa g];exact w0
   ·rw[(pa g).1];exact (h.num (pa g).2.1).1
  have wb:Fo.isW (madeF f R A fr need cl) (actM R need cl y).b:=by
   rcases Int.lt_or_le (uses x.op) 2 with g|g
   ·rw[qb g];exact w0
   ·rw[(pb g).1];exact (h.num (pb g).2.1).1
  have wc:Fo.isW (madeF f R A fr need cl) (actM R need cl y).c:=by
   rcases Int.lt_or_le (uses x.op) 3 with g|g
   ·rw[qc g];exact w0
   ·rw[(pc g).1];exact (h.num (pc g).2.1).1
  refine ⟨wa,wb,wc,by rw[hM];exact hu,by rw[hM];exact qa,by rw[hM];exact qb,by rw[hM];exact qc,by rw[hM];exact qk,?_⟩
  rw[hM,ed]
  have ta:1≤uses x.op→tyOf (madeF f R A fr need cl) (actM R need cl y).a=tyOf f x.a∧clockOf (madeF f R A fr need cl) (actM R need cl y).a=(clockOf f x.a).map (gdM R need):=fun g=>by rw[(pa g).1];exact (h.part hf (pa g).2.1 (pa g).2.2).2
  have tb:2≤uses x.op→tyOf (madeF f R A fr need cl) (actM R need cl y).b=tyOf f x.b∧clockOf (madeF f R A fr need cl) (actM R need cl y).b=(clockOf f x.b).map (gdM R need):=fun g=>by rw[(pb g).1];exact (h.part hf (pb g).2.1 (pb g).2.2).2
  have tc:3≤uses x.op→tyOf (madeF f R A fr need cl) (actM R need cl y).c=tyOf f x.c∧clockOf (madeF f R A fr need cl) (actM R need cl y).c=(clockOf f x.c).map (gdM R need):=fun g=>by rw[(pc g).1];exact (h.part hf (pc g).2.1 (pc g).2.2).2
  rw[hd.2.1,hd.2.2]
  rcases uses_cases hu with g|g|g|g|g|g|g|g|g
  ·omega
  ·omega
  ·rw[if_neg (by omega),if_neg (by omega),if_pos g]
   rw[if_neg (by omega),if_neg (by omega),if_pos g] at hrest
   have hc:=hpt.2 (by omega)
   have ek:(actM R need cl y).k=numV cl y.k:=by show (if y.op=21 then _ else y.k)=_;rw[if_pos (by omega)]
   have hce:=h.cell hc
   obtain ⟨r1,r2,r3,n,r4,r5⟩:=hrest
   have hfr:getI fr y.k=n:=by rw[yk];exact h.fk _ (kept_mem r4)
   refine ⟨by rw[ek];exact hce.1,by rw[ek];exact hce.2.1,?_,_,by rw[ek];exact (h.made_cells hf).2 _ hc,?_⟩
   ·rw[r3,ek,types_getD hce.1 hce.2.1,hce.2.2,yk,types_getD r1 r2]
   ·have hnw:Fo.isW f n:=(hf.2.2.2.1.2.2.1 _ (kept_mem r4)).2.2.1
    rw[(h.part hf (h.ce _ hc) (by rw[hfr];exact hnw)).2.2,hfr,r5]
  ·exact absurd g hst.1
  ·have u1:=uses1 (op:=x.op) (by omega)
   rw[if_neg (by omega),if_neg (by omega),if_neg (by omega),if_pos g]
   rw[if_neg (by omega),if_neg (by omega),if_neg (by omega),if_pos g] at hrest
   obtain ⟨gd,r1,r2⟩:=hrest
   exact ⟨gdM R need gd,by rw[(ta (by omega)).2,r1,List.map_append];rfl,by rw[(ta (by omega)).1];exact r2⟩
  ·have u3:=uses3 (op:=x.op) (by omega)
   rw[if_neg (by omega),if_neg (by omega),if_neg (by omega),if_neg (by omega),if_pos g]
   rw[if_neg (by omega),if_neg (by omega),if_neg (by omega),if_neg (by omega),if_pos g] at hrest
   obtain ⟨r1,r2,r3,r4,r5,r6⟩:=hrest
   refine ⟨by rw[(ta (by omega)).2,r1],by rw[(ta (by omega)).1];exact r2,by rw[(tb (by omega)).1];exact r3,by rw[(tc (by omega)).1];exact r4,?_,?_⟩
   ·rw[(tb (by omega)).2,r5,List.map_append,(pa (by omega)).1];rfl
   ·rw[(tc (by omega)).2,r6,List.map_append,(pa (by omega)).1];rfl
  ·have u3:=uses3 (op:=x.op) (by omega)
   rw[if_neg (by omega),if_neg (by omega),if_neg (by omega),if_neg (by omega),if_neg (by omega),if_neg (by omega),if_pos g]
   rw[if_neg (by omega),if_neg (by omega),if_neg (by omega),if_neg (by omega),if_neg (by omega),if_neg (by omega),if_pos g] at hrest
   obtain ⟨r1,r2,r3,r4,r5,r6⟩:=hrest
   exact ⟨by rw[(ta (by omega)).2,r1],by rw[(tb (by omega)).2,r2],by rw[(tc (by omega)).2,r3],by rw[(ta (by omega)).1];exact r4,by rw[(tb (by omega)).1,(tc (by omega)).1];exact r5,by rw[(tb (by omega)).1];exact r6⟩
  ·have u1:=uses1 (op:=x.op) (by omega)
   rw[if_neg (by omega),if_neg (by omega),if_neg (by omega),if_neg (by omega),if_neg (by omega),if_neg (by omega),if_neg (by omega)]
   rw[if_neg (by omega),if_neg (by omega),if_neg (by omega),if_neg (by omega),if_neg (by omega),if_neg (by omega),if_neg (by omega)] at hrest
   obtain ⟨r1,_,r3,r4⟩:=hrest
   exact ⟨by rw[(ta (by omega)).2,r1],fun q=>by omega,r3,by rw[(ta (by omega)).1];exact r4⟩
  ·have u2:=uses2 g
   rw[if_neg (by omega),if_neg (by omega),if_neg (by omega),if_neg (by omega),if_neg (by omega),if_neg (by omega),if_neg (by omega)]
   rw[if_neg (by omega),if_neg (by omega),if_neg (by omega),if_neg (by omega),if_neg (by omega),if_neg (by omega),if_neg (by omega)] at hrest
   obtain ⟨r1,r2,r3,r4⟩:=hrest
   obtain ⟨r5,r6⟩:=r2 (by omega)
   exact ⟨by rw[(ta (by omega)).2,r1],fun _=>⟨by rw[(tb (by omega)).2,r5],by rw[(ta (by omega)).1,(tb (by omega)).1];exact r6⟩,r3,by rw[(ta (by omega)).1];exact r4⟩
theorem Clo.made_ok (h:Clo f R A fr need cl) (hf:formOk f):formOk (madeF f R A fr need cl):=by
 have hpi:∀n∈f.ins,Fo.isW f n∧clockOf f n=[]:=hf.2.1.1
 refine ⟨h.made_wires hf,⟨fun n hn=>?_,?_⟩,⟨fun n hn=>?_,?_⟩,(h.made_cells hf).1,h.made_defined hf,fun y hy=>h.made_act hf hy,fun n hn=>?_⟩
 ·obtain ⟨m,hm,rfl⟩:=List.mem_map.1 hn
  have:=h.num (h.ins m hm)
  exact ⟨this.1,by rw[this.2.2,(hpi m hm).2];rfl⟩
 ·show 1≤(f.ins.map _).length∧_
  rw[show (madeF f R A fr need cl).ins.length=f.ins.length from List.length_map ..,List.length_map]
  exact hf.2.1.2
 ·obtain ⟨m,hm,rfl⟩:=List.mem_map.1 hn
  have:=h.part hf (h.outs m hm) (hf.2.2.1.1 m hm).1
  exact ⟨this.1,by rw[this.2.2,(hf.2.2.1.1 m hm).2];rfl⟩
 ·rw[show (madeF f R A fr need cl).outs.length=f.outs.length from List.length_map ..]
  exact hf.2.2.1.2
 ·obtain ⟨v,hv,e⟩:=h.surj hn
  have hr:=h.rt v hv
  have:=h.made_row hf (done_w hf (h.isW hv)) (by rw[hr];exact hv)
  rwa [hr,e] at this
theorem Clo.sizes (h:Clo f R A fr need cl):(madeF f R A fr need cl).wires.length≤f.wires.length∧(madeF f R A fr need cl).cells.length≤f.cells.length∧(madeF f R A fr need cl).acts.length≤f.acts.length:=by
 refine ⟨?_,?_,?_⟩
 ·show (pickN need _ f.wires.length).length≤_
  rw[pick_len];exact cnt_le _ _
 ·show (pickN cl _ f.cells.length).length≤_
  rw[pick_len];exact cnt_le _ _
 ·have:A.length=f.acts.length:=by have:=congrArg List.length h.inv.ad;simpa[dstsOf] using this
  rw[←this]
  exact List.length_filterMap_le ..
theorem Clo.tys (h:Clo f R A fr need cl) (hf:formOk f):(madeF f R A fr need cl).ins.map (tyOf (madeF f R A fr need cl))=f.ins.map (tyOf f)∧(madeF f R A fr need cl).outs.map (tyOf (madeF f R A fr need cl))=f.outs.map (tyOf f):=by
 constructor
 ·show (f.ins.map (numV need)).map _=_
  rw[List.map_map]
  exact List.map_congr_left (fun n hn=>(h.num (h.ins n hn)).2.1)
 ·show (f.outs.map (fun n=>numV need (getI R n))).map _=_
  rw[List.map_map]
  exact List.map_congr_left (fun n hn=>(h.part hf (h.outs n hn) (hf.2.2.1.1 n hn).1).2.1)
def CellSame (f:Fm) (cl:List Bool) (cs' cs:List Int):Prop:=cs'.length=cntF cl f.cells.length∧cs.length=f.cells.length∧∀c,nd cl c→getI cs' (numV cl c)=getI cs c
theorem Clo.val (h:Clo f R A fr need cl) (hf:formOk f) {cs' cs:List Int} (hc:CellSame f cl cs' cs) (row:List Int) {v:Int} (hv:Done f v):nd need (getI R v)→valF (madeF f R A fr need cl) cs' row (numV need (getI R v))=valF f cs row v:=by
 have hm:=h.made_ok hf
 have hdn:∀{n},nd need n→Done (madeF f R A fr need cl) (numV need n):=fun g=>done_w hm (h.num g).1
 induction hv with
 |ins n hn=>
  intro _
  rw[h.inv.inp n hn (hf.2.1.1 n hn).1]
  obtain ⟨i,hi⟩:=List.getElem?_of_mem hn
  rw[val_inp hf cs row hi]
  exact val_inp hm cs' row (i:=i) (by show (f.ins.map _)[i]? =_;rw[List.getElem?_map,hi];rfl)
 |act x hx _ _ ih1 ih2=>
  intro hnd
  have hw:=(hf.2.2.2.2.1.2.1 x hx).1
  have ha:=h.inv.act x hx hw
  rcases ha.mv with e|⟨n,hn,e⟩
  ·rw[e] at hnd⊢
   obtain ⟨y,hy,hyd,hma⟩:=h.act_in hf hx hnd
   have e':numV need x.dst=(actM R need cl y).dst:=by show _=numV need y.dst;rw[hyd]
   rw[e']
   have hok:=hf.2.2.2.2.2.1 x hx
   have hu:=hok.2.2.2.1
   have hpt:=h.pt _ hnd y hy
   have hst:=ha.stays (h.rt _ hnd)
   rcases ha.now with ⟨k,h1,h2,h3,_⟩|⟨hgt,h2,_⟩
   ·rw[hy] at h1
    injection h1 with h1
    have hop:y.op=tyOf f x.dst:=by rw[h1]
    rw[val_const hm cs' row hma (by show y.op≤2;omega),h3]
    show (if y.op=21 then _ else y.k)=k
    rw[if_neg (by omega),h1]
   ·rw[hy] at h2
    injection h2 with h2
    have hop:y.op=x.op:=by rw[h2,root_op]
    have hM:(actM R need cl y).op=x.op:=hop
    have yk:y.k=x.k:=by rw[h2];unfold rootAc;split<;>rfl
    have pa:1≤uses x.op→(actM R need cl y).a=numV need (getI R x.a)∧nd need (getI R x.a):=fun g=>by
     have e:y.a=getI R x.a:=by rw[h2];unfold rootAc;rw[if_neg (by omega)]
     have hm:nd need y.a:=hpt.1 _ (wants_a (by rw[hop];exact g))
     refine ⟨?_,by rw[←e];exact hm⟩
     show (if 1≤uses y.op then numV need (getI R y.a) else y.a)=_
     rw[if_pos (by rw[hop];exact g),h.rt _ hm,e]
    have pb:2≤uses x.op→(actM R need cl y).b=numV need (getI R x.b)∧nd need (getI R x.b):=fun g=>by
     have e:y.b=getI R x.b:=by rw[h2];unfold rootAc;rw[if_neg (by omega)];exact if_pos g
     have hm:nd need y.b:=hpt.1 _ (wants_b (by rw[hop];exact g))
     refine ⟨?_,by rw[←e];exact hm⟩
     show (if 2≤uses y.op then numV need (getI R y.b) else y.b)=_
     rw[if_pos (by rw[hop];exact g),h.rt _ hm,e]
    have pc:3≤uses x.op→(actM R need cl y).c=numV need (getI R x.c)∧nd need (getI R x.c):=fun g=>by
     have e:y.c=getI R x.c:=by rw[h2];unfold rootAc;rw[if_neg (by omega)];exact if_pos g
     have hm:nd need y.c:=hpt.1 _ (wants_c (by rw[hop];have:=uses_le3 x.op;omega))
     refine ⟨?_,by rw[←e];exact hm⟩
     show (if 3≤uses y.op then numV need (getI R y.c) else y.c)=_
     rw[if_pos (by rw[hop];exact g),h.rt _ hm,e]
    have va:1≤uses x.op→valF (madeF f R A fr need cl) cs' row (actM R need cl y).a=valF f cs row x.a∧Done (madeF f R A fr need cl) (actM R need cl y).a∧Done f x.a:=fun g=>by
     rw[(pa g).1]
     exact ⟨ih1 _ (wants_a g) (pa g).2,hdn (pa g).2,done_w hf hok.1⟩
    have vb:2≤uses x.op→valF (madeF f R A fr need cl) cs' row (actM R need cl y).b=valF f cs row x.b∧Done (madeF f R A fr need cl) (actM R need cl y).b∧Done f x.b:=fun g=>by
     rw[(pb g).1]
     exact ⟨ih1 _ (wants_b g) (pb g).2,hdn (pb g).2,done_w hf hok.2.1⟩
    have vc:3≤uses x.op→valF (madeF f R A fr need cl) cs' row (actM R need cl y).c=valF f cs row x.c∧Done (madeF f R A fr need cl) (actM R need cl y).c∧Done f x.c:=fun g=>by
     rw[(pc g).1]
     exact ⟨ih1 _ (wants_c (by have:=uses_le3 x.op;omega)) (pc g).2,hdn (pc g).2,done_w hf hok.2.2.1⟩
    rcases uses_cases hu with g|g|g|g|g|g|g|g|g
    ·omega
    ·omega
    ·rw[val_pre hm cs' row hma (by rw[hM];exact g),val_pre hf cs row hx g]
     show getI cs' (if y.op=21 then numV cl y.k else y.k)=_
     rw[if_pos (by omega),yk]
     exact hc.2.2 _ (by rw[←yk];exact hpt.2 (by omega))
    ·exact absurd g hst.1
    ·have u1:=uses1 (op:=x.op) (by omega)
     rw[val_copy hm cs' row hma (by rw[hM];exact .inr g) (va (by omega)).2.1,val_copy hf cs row hx (.inr g) (va (by omega)).2.2]
     exact (va (by omega)).1
    ·have u3:=uses3 (op:=x.op) (by omega)
     by_cases h0:valF f cs row x.a=0
     ·rw[val_no hm cs' row hma (by rw[hM];omega) (va (by omega)).2.1 (by rw[(va (by omega)).1];exact h0) (vc (by omega)).2.1,val_no hf cs row hx (by omega) (va (by omega)).2.2 h0 (vc (by omega)).2.2]
      exact (vc (by omega)).1
     ·rw[val_yes hm cs' row hma (by rw[hM];omega) (va (by omega)).2.1 (by rw[(va (by omega)).1];exact h0) (vb (by omega)).2.1,val_yes hf cs row hx (by omega) (va (by omega)).2.2 h0 (vb (by omega)).2.2]
      exact (vb (by omega)).1
    ·have u3:=uses3 (op:=x.op) (by omega)
     by_cases h0:valF f cs row x.a=0
     ·rw[val_no hm cs' row hma (by rw[hM];omega) (va (by omega)).2.1 (by rw[(va (by omega)).1];exact h0) (vc (by omega)).2.1,val_no hf cs row hx (by omega) (va (by omega)).2.2 h0 (vc (by omega)).2.2]
      exact (vc (by omega)).1
     ·rw[val_yes hm cs' row hma (by rw[hM];omega) (va (by omega)).2.1 (by rw[(va (by omega)).1];exact h0) (vb (by omega)).2.1,val_yes hf cs row hx (by omega) (va (by omega)).2.2 h0 (vb (by omega)).2.2]
      exact (vb (by omega)).1
    ·have u1:=uses1 (op:=x.op) (by omega)
     rw[val_one hm cs' row hma (by rw[hM];omega) (va (by omega)).2.1,val_one hf cs row hx (by omega) (va (by omega)).2.2,(va (by omega)).1,hM]
    ·have u2:=uses2 g
     rw[val_two hm cs' row hma (by rw[hM];exact g) (va (by omega)).2.1 (vb (by omega)).2.1,val_two hf cs row hx g (va (by omega)).2.2 (vb (by omega)).2.2,(va (by omega)).1,(vb (by omega)).1,hM]
  ·have hd':valF f cs row x.dst=valF f cs row n:=by
    rw[←ha.vl cs row,e]
    exact (h.inv.rt hf (ha.ps n hn)).2.2.2.2 cs row
   rw[e] at hnd⊢
   rw[ih1 n hn hnd,hd']
theorem Clo.th (h:Clo f R A fr need cl) (hf:formOk f) {cs' cs:List Int} (hc:CellSame f cl cs' cs) (row:List Int):∀(c:List Gd),(∀g∈c,Fo.isW f g.wire∧nd need (getI R g.wire))→thF (madeF f R A fr need cl) cs' row (c.map (gdM R need))=thF f cs row c
 | [],_=>rfl
 |g::c,hg=>by
  obtain ⟨h1,h2⟩:=hg g (by simp)
  simp only[List.map_cons,thF]
  rw[show (gdM R need g).wire=numV need (getI R g.wire) from rfl,show (gdM R need g).no=g.no from rfl,h.val hf hc row (done_w hf h1) h2,Clo.th h hf hc row c (fun g hg'=>hg g (by simp[hg']))]
theorem next_get {f:Fm} {cs row:List Int}:∀(l:List (Int × Int)) (ns:List Int),(∀k∈l,0≤k.1∧k.1<ns.length)→(l.map (·.1)).Nodup→(nextF f cs row l ns).length=ns.length∧
  (∀k∈l,getI (nextF f cs row l ns) k.1=if thF f cs row (clockOf f k.2)=true then valF f cs row k.2 else getI ns k.1)∧∀c,0≤c→c∉l.map (·.1)→getI (nextF f cs row l ns) c=getI ns c
 | [],ns,_,_=>⟨rfl,fun _ h=>(by cases h),fun _ _ _=>rfl⟩
 |k::l,ns,hb,hn=>by
  have hk:=hb k (by simp)
  rw[List.map_cons,List.nodup_cons] at hn
  have e:nextF f cs row (k::l) ns=nextF f cs row l (if thF f cs row (clockOf f k.2)=true then ns.set k.1.toNat (valF f cs row k.2) else ns):=rfl
  have hl:(if thF f cs row (clockOf f k.2)=true then ns.set k.1.toNat (valF f cs row k.2) else ns).length=ns.length:=by split<;>simp
  obtain ⟨i1,i2,i3⟩:=next_get (f:=f) (cs:=cs) (row:=row) l _ (fun q hq=>by rw[hl];exact hb q (by simp[hq])) hn.2
  rw[e]
  refine ⟨i1.trans hl,fun q hq=>?_,fun c h0 hc=>?_⟩
  ·rcases List.mem_cons.1 hq with rfl|hq
   ·rw[i3 _ hk.1 hn.1]
    split
    ·exact getI_set_eq hk.1 hk.2
    ·rfl
   ·rw[i2 q hq]
    have hne:k.1≠q.1:=fun e=>hn.1 (by rw[e];exact List.mem_map.2 ⟨q,hq,rfl⟩)
    by_cases ht:thF f cs row (clockOf f q.2)=true
    ·rw[if_pos ht,if_pos ht]
    ·rw[if_neg ht,if_neg ht]
     split
     ·exact getI_set_ne hk.1 (hb q (by simp[hq])).1 hne
     ·rfl
  ·rw[List.map_cons,List.mem_cons] at hc
   rw[i3 c h0 (fun g=>hc (.inr g))]
   split
   ·exact getI_set_ne hk.1 h0 (fun e=>hc (.inl e.symm))
   ·rfl
theorem next_cell {f:Fm} (hc:cellsOk f) {cs row:List Int} (hl:cs.length=f.cells.length) {c n:Int} (hk:kept f c=some n):getI (nextF f cs row f.keeps cs) c=if thF f cs row (clockOf f n)=true then valF f cs row n else getI cs c:=by
 have hn:(f.keeps.map (·.1)).Nodup:=nodup_of hc.2.2.2.1
 exact (next_get (f:=f) (cs:=cs) (row:=row) f.keeps cs (fun k hk=>by have:=hc.2.2.1 k hk;omega) hn).2.1 _ (kept_mem hk)
theorem next_len {f:Fm} {cs row:List Int}:∀(l:List (Int × Int)) (ns:List Int),(nextF f cs row l ns).length=ns.length
 | [],_=>rfl
 |k::l,ns=>by
  have e:nextF f cs row (k::l) ns=nextF f cs row l (if thF f cs row (clockOf f k.2)=true then ns.set k.1.toNat (valF f cs row k.2) else ns):=rfl
  rw[e,next_len l]
  split<;>simp
theorem Clo.next (h:Clo f R A fr need cl) (hf:formOk f) {cs' cs:List Int} (hc:CellSame f cl cs' cs) (row:List Int):CellSame f cl (nextF (madeF f R A fr need cl) cs' row (madeF f R A fr need cl).keeps cs') (nextF f cs row f.keeps cs):=by
 have hm:=h.made_cells hf
 refine ⟨(next_len _ _).trans hc.1,(next_len _ _).trans hc.2.1,fun c hn=>?_⟩
 have hcl:cs'.length=(madeF f R A fr need cl).cells.length:=by
  rw[hc.1]
  show _=(pickN cl _ f.cells.length).length
  rw[pick_len]
 obtain ⟨k,hk1,hk2⟩:=hf.2.2.2.1.2.2.2.2 c.toNat (by have:=h.isC hn;have:=hn.1;omega)
 have e:k.1=c:=by rw[hk2];have:=hn.1;omega
 have hkk:=kept_of hf.2.2.2.1.2.2.2.1 hk1
 rw[e] at hkk
 have hfr:=h.fk k hk1
 rw[e] at hfr
 have hw:Fo.isW f k.2:=(hf.2.2.2.1.2.2.1 k hk1).2.2.1
 have hnd:=h.ce c hn
 rw[next_cell hm.1 hcl (hm.2 c hn),next_cell hf.2.2.2.1 hc.2.1 hkk]
 rw[hfr] at hnd⊢
 rw[h.val hf hc row (done_w hf hw) hnd,(h.part hf hnd hw).2.2,hc.2.2 c hn,h.th hf hc row _ (fun g hg=>⟨(clock_ok hf.1 hw g hg).1,?_⟩)]
 have:=h.gd _ hnd g (by rw[(h.inv.rt hf hw).2.2.2.1];exact hg)
 exact this
theorem Clo.rows (h:Clo f R A fr need cl) (hf:formOk f):∀(rows:List (List Int)) (cs' cs:List Int),CellSame f cl cs' cs→rowsF (madeF f R A fr need cl) cs' rows=rowsF f cs rows
 | [],_,_,_=>rfl
 |row::rows,cs',cs,hc=>by
  have e:outF (madeF f R A fr need cl) cs' row=outF f cs row:=by
   show (f.outs.map (fun n=>numV need (getI R n))).map _=f.outs.map _
   rw[List.map_map]
   exact List.map_congr_left (fun n hn=>h.val hf hc row (done_w hf (hf.2.2.1.1 n hn).1) (h.outs n hn))
  simp only[rowsF]
  rw[e,Clo.rows h hf rows _ _ (h.next hf hc row)]
theorem Clo.start (h:Clo f R A fr need cl):CellSame f cl ((madeF f R A fr need cl).cells.map (·.2)) (f.cells.map (·.2)):=by
 refine ⟨by rw[List.length_map];exact pick_len _,by rw[List.length_map],fun c hn=>?_⟩
 have hc:=h.cell hn
 have e:∀(l:List (Int × Int)) (i:Int),getI (l.map (·.2)) i=(l.getD i.toNat (0,0)).2:=fun l i=>by
  unfold getI
  rw[List.getD_eq_getElem?_getD,List.getD_eq_getElem?_getD,List.getElem?_map]
  cases l[i.toNat]? <;>rfl
 rw[e,e,hc.2.2]
theorem fold_says (h:Clo f R A fr need cl) (hf:formOk f) (rows:List (List Int)):rowsF (madeF f R A fr need cl) ((madeF f R A fr need cl).cells.map (·.2)) rows=rowsF f (f.cells.map (·.2)) rows:=h.rows hf rows _ _ h.start
end
end Go.Proofs.Ytckognjamlckcaa.Fo
