/-
  norm, as plain data: all that is made can be put in a row. norm, as plain data: the form that is made of a right flat is right. norm, as plain data: what the law says of the form that is made. What a flat says, as plain data: equations; the values of the form that is made solve them.
-/
import Derived.Test.YtckognjamlckcaaGreatDoorNpQ
namespace Go.Proofs.YtckognjamlckcaaGreatDoor.Fo
open Vf
section
variable {f:Fl} {D:List Int} {S:Mk} {ty n x k:Int} {c:List Gd} {a:Ac} {e:Ex}
theorem aw (h:bY S n ty c):ak (aD f S) n/\ag (aD f S) n=ty/\aa (aD f S) n=c:=by
 obtain ⟨m,rfl,hm⟩:=h
 have:=(List.getElem?_eq_some_iff.1 hm).1
 refine ⟨⟨by omega,by show (m:Int)<S.wires.length;omega⟩,?_,?_⟩
 ·unfold ag;rw[bW (f:=aD f S) hm]
 ·unfold aa;rw[bW (f:=aD f S) hm]
theorem iG (hp:f.wires<+:S.wires) (h:ak f.fm n):ak (aD f S) n/\ag (aD f S) n=ag f.fm n/\aa (aD f S) n=aa f.fm n:=aw (io hp h)
theorem eB (ha:a∈S.acts) (hw:bY S a.dst ty c) (hc:∀g∈c,bB (aD f S) g.wire) (hn:∀m∈wants a,bB (aD f S) m):bB (aD f S) a.dst:=
 bB.act a ha hn (by rw[(aw hw).2.2];exact hc)
theorem kK (h:aJ e.op=true):e.n∈aU e:=by
 rw[ie,jG,if_pos h];simp
theorem cP {y:Ex} (hy:y∈e.args) (h1:e.op≠21) (h2:e.op≠22):∀m∈aU y,m∈aU e:=by
 intro m hm
 rw[ie,jG,if_neg h1,if_neg h2]
 exact List.mem_append_right _ (List.mem_flatten.2 ⟨_,List.mem_map_of_mem hy,hm⟩)
theorem pt {y z:Ex} (hx:e.args=[y,z]) (h2:e.op=22):∀m∈aU y,m∈aU e:=by
 intro m hm
 rw[ie,jG,if_neg (show ¬e.op=21 by omega),if_pos h2,hx]
 exact List.mem_append_right _ hm
theorem zV (e:Ex):aO f e->∀(n:Int) (c:List Gd),aE f e c->cY f e S n c->(∀m∈aU e,bB (aD f S) m)->(∀g∈c,bB (aD f S) g.wire)->bB (aD f S) n:=by
 induction e using Ex.ind with
 |h e ih=>
  intro hp n c hg h hm hc
  obtain ⟨hp1,hp2⟩:=bq.1 hp
  rw[kX] at h
  unfold tu at h
  dsimp only at h
  obtain ⟨h0,h⟩:=h
  by_cases h3:e.op=3
  ·rw[if_pos h3] at h
   rw[h]
   exact hm _ (kK (dK.2 (.inl h3)))
  rw[if_neg h3] at h
  have ih':∀(i:Nat) y,e.args[i]? =some y->∀n,cY f y S n (aA e c i)->(∀m∈aU y,m∈aU e)->(∀g∈aA e c i,bB (aD f S) g.wire)->bB (aD f S) n:=fun i y hi n hy hs hc'=>
   ih y (List.mem_of_getElem? hi) (hp2 y (List.mem_of_getElem? hi)) n _ (((bL h3).1 hg).2.2 i y hi) hy (fun m hm'=>hm m (hs m hm')) hc'
  by_cases h1:e.op=1\/e.op=2
  ·rw[if_pos h1] at h
   exact eB h h0 hc (fun m hm'=>by
    rcases h1 with g|g<;>rw[g] at hm'<;>simp[wants,bl] at hm')
  rw[if_neg h1] at h
  have hbeg:∀{g:Int},iy S g c->bB (aD f S) g:=fun {g} ⟨k,t,q1,_,_,q4,_⟩=>eB q4 q1 hc (fun m hm'=>by simp[wants,bl] at hm')
  have hwas:∀{y b:Int},iQ S y b c->bB (aD f S) y:=fun {y b} ⟨k,t,q1,_,_,q4⟩=>eB q4 q1 hc (fun m hm'=>by simp[wants,bl] at hm')
  by_cases h21:e.op=21
  ·rw[if_pos h21] at h
   obtain ⟨a,q1,q2⟩:=h
   exact hwas q2
  rw[if_neg h21] at h
  by_cases h22:e.op=22
  ·rw[if_pos h22] at h
   obtain ⟨y,z,hx⟩:=aQ hp1 (by omega)
   have hi0:e.args[0]? =some y:=by rw[hx];rfl
   rw[aS hi0] at h
   have hpc:∀i,aA e c i=c:=fun i=>by unfold aA;rw[if_neg (by omega),if_neg (by omega)]
   obtain ⟨a,b,g,y',q1,q2,q3,q4,q5⟩:=h
   have d1:=ih' 0 y hi0 a (by rw[hpc];exact q1) (pt hx h22) (by rw[hpc];exact hc)
   have d2:=hbeg q3
   have d3:=hwas q4
   exact eB q5 h0 hc (fun m hm'=>by
    simp[wants,bl] at hm'
    rcases hm' with rfl|rfl|rfl<;>assumption)
  rw[if_neg h22] at h
  have hall:∀(i:Nat) y,e.args[i]? =some y->aA e c i=c->∀n,cY f y S n c->bB (aD f S) n:=fun i y hi hpc n hy=>ih' i y hi n (by rw[hpc];exact hy) (cP (List.mem_of_getElem? hi) h21 h22) (by rw[hpc];exact hc)
  by_cases h23:e.op=23
  ·rw[if_pos h23] at h
   obtain ⟨y,z,hx⟩:=aQ hp1 (by omega)
   have hi0:e.args[0]? =some y:=by rw[hx];rfl
   have hi1:e.args[1]? =some z:=by rw[hx];rfl
   rw[aS hi0,aS hi1] at h
   have hpc:∀i,aA e c i=c:=fun i=>by unfold aA;rw[if_neg (by omega),if_neg (by omega)]
   obtain ⟨a,b,g,q1,q2,q3,q5⟩:=h
   have d1:=hall 0 y hi0 (hpc _) a q1
   have d2:=hbeg q3
   have d3:=hall 1 z hi1 (hpc _) b q2
   exact eB q5 h0 hc (fun m hm'=>by
    simp[wants,bl] at hm'
    rcases hm' with rfl|rfl|rfl<;>assumption)
  rw[if_neg h23] at h
  by_cases h27:e.op=27
  ·rw[if_pos h27] at h
   obtain ⟨y,z,u,hx⟩:=eo hp1 h27
   have hi0:e.args[0]? =some y:=by rw[hx];rfl
   have hi1:e.args[1]? =some z:=by rw[hx];rfl
   have hi2:e.args[2]? =some u:=by rw[hx];rfl
   rw[aS hi0,aS hi1,aS hi2] at h
   have hpc:∀i,aA e c i=c:=fun i=>by unfold aA;rw[if_neg (by omega),if_neg (by omega)]
   obtain ⟨a,b,g,q1,q2,q3,q5⟩:=h
   have d1:=hall 0 y hi0 (hpc _) a q1
   have d2:=hall 1 z hi1 (hpc _) b q2
   have d3:=hall 2 u hi2 (hpc _) g q3
   exact eB q5 h0 hc (fun m hm'=>by
    simp[wants,bl] at hm'
    rcases hm' with rfl|rfl|rfl<;>assumption)
  rw[if_neg h27] at h
  by_cases h24:e.op=24\/e.op=25
  ·rw[if_pos h24] at h
   obtain ⟨y,hx⟩:=br hp1 (by omega)
   have hi0:e.args[0]? =some y:=by rw[hx];rfl
   rw[aS hi0] at h
   have hpc:aA e c 0=c.dropLast:=by unfold aA;rw[if_pos h24]
   obtain ⟨a,q1,q2⟩:=h
   have d1:=ih' 0 y hi0 a (by rw[hpc];exact q1) (cP (List.mem_of_getElem? hi0) h21 h22) (by rw[hpc];exact fun g hg'=>hc g (List.dropLast_subset _ hg'))
   exact eB q2 h0 hc (fun m hm'=>by
    simp[wants,bl] at hm'
    subst hm'
    exact d1)
  rw[if_neg h24] at h
  by_cases h26:e.op=26
  ·rw[if_pos h26] at h
   obtain ⟨y,z,hx⟩:=aQ hp1 (by omega)
   have hi0:e.args[0]? =some y:=by rw[hx];rfl
   have hi1:e.args[1]? =some z:=by rw[hx];rfl
   rw[aS hi0,aS hi1] at h
   have hpc0:aA e c 0=c++ [⟨e.n,false⟩]:=by unfold aA;rw[if_neg (by omega),if_pos h26];rfl
   have hpc1:aA e c 1=c++ [⟨e.n,true⟩]:=by unfold aA;rw[if_neg (by omega),if_pos h26];rfl
   have hn:bB (aD f S) e.n:=hm _ (kK (dK.2 (by omega)))
   have hcc:∀b,∀g∈c++ [⟨e.n,b⟩],bB (aD f S) g.wire:=fun b g hg'=>by
    rcases List.mem_append.1 hg' with hg'|hg'
    ·exact hc g hg'
    ·rw[List.mem_singleton.1 hg'];exact hn
   obtain ⟨a,b,q1,q2,q5⟩:=h
   have d1:=ih' 0 y hi0 a (by rw[hpc0];exact q1) (cP (List.mem_of_getElem? hi0) h21 h22) (by rw[hpc0];exact hcc _)
   have d2:=ih' 1 z hi1 b (by rw[hpc1];exact q2) (cP (List.mem_of_getElem? hi1) h21 h22) (by rw[hpc1];exact hcc _)
   exact eB q5 h0 hc (fun m hm'=>by
    simp[wants,bl] at hm'
    rcases hm' with rfl|rfl|rfl<;>assumption)
  rw[if_neg h26] at h
  have hpc:∀i,aA e c i=c:=fun i=>by unfold aA;rw[if_neg (by omega),if_neg (by omega)]
  by_cases h2:e.args.length=2
  ·rw[if_pos h2] at h
   obtain ⟨y,z,hx⟩:=gH h2
   have hi0:e.args[0]? =some y:=by rw[hx];rfl
   have hi1:e.args[1]? =some z:=by rw[hx];rfl
   rw[aS hi0,aS hi1] at h
   obtain ⟨a,b,q1,q2,q5⟩:=h
   have d1:=hall 0 y hi0 (hpc _) a q1
   have d2:=hall 1 z hi1 (hpc _) b q2
   exact eB q5 h0 hc (fun m hm'=>by
    have:m=a\/m=b\/m=0/\2<bl e.op:=by
     unfold wants at hm'
     dsimp only at hm'
     repeat' split at hm'
     all_goals simp at hm'
     ·exact .inl hm'
     ·rcases hm' with r|r
      ·exact .inl r
      ·exact .inr (.inl r)
     ·rcases hm' with r|r|r
      ·exact .inl r
      ·exact .inr (.inl r)
      ·exact .inr (.inr ⟨r,by omega⟩)
    rcases this with rfl|rfl|⟨_,r⟩
    ·exact d1
    ·exact d2
    ·unfold bl at r
     repeat' split at r
     all_goals omega)
  ·rw[if_neg h2] at h
   obtain ⟨y,hx⟩:∃x,e.args=[x]:=by
    have hops:=dq hp1
    by_cases h5:e.op=5\/e.op=6
    ·exact br hp1 (by omega)
    ·obtain ⟨x,y,hx⟩:=aQ hp1 (by omega)
     rw[hx] at h2
     exact absurd rfl h2
   have ho:e.op=5\/e.op=6:=by
    have hops:=dq hp1
    by_cases h5:e.op=5\/e.op=6
    ·exact h5
    ·obtain ⟨x',y',hx'⟩:=aQ hp1 (by omega)
     rw[hx'] at hx;simp at hx
   have hi0:e.args[0]? =some y:=by rw[hx];rfl
   rw[aS hi0] at h
   obtain ⟨a,q1,q2⟩:=h
   have d1:=hall 0 y hi0 (hpc _) a q1
   exact eB q2 h0 hc (fun m hm'=>by
    rcases ho with r|r<;>rw[r] at hm'<;>simp[wants,bl] at hm'<;>subst hm'<;>exact d1)
end
section
variable {f:Fl} {D:List Int} {S:Mk} {ty n x k v:Int} {c:List Gd} {a:Ac} {e:Ex}
theorem BK (h:NV f D S) {m:Nat} (hk:S.keeps[m]? =some ((m:Int),n)):kept (aD f S) m=some n:=by
 unfold kept
 have hx:((aD f S).keeps.find? (fun k=>k.1==(m:Int))).isSome=true:=by
  rw[List.find?_isSome]
  exact ⟨_,List.mem_of_getElem? hk,by simp⟩
 obtain ⟨p,hp⟩:=Option.isSome_iff_exists.1 hx
 have h1:=List.find?_some hp
 obtain ⟨i,hi⟩:=List.getElem?_of_mem (List.mem_of_find?_eq_some hp)
 obtain ⟨k',n'⟩:=p
 have h2:=(h.ki i k' n' hi).1
 simp at h1
 obtain rfl:i=m:=by omega
 have hi':S.keeps[i]? =some (k',n'):=hi
 rw[hi'] at hk
 injection hk with hk
 injection hk with _ hk
 rw[hp,hk]
 rfl
theorem ii {m:Nat} (h:S.cells[m]? =some (ty,v)):ao (dQ (aD f S).cells) m=ty:=by
 unfold ao dQ
 rw[Int.toNat_natCast,List.getD_eq_getElem?_getD,List.getElem?_map]
 show ((S.cells[m]?).map _).getD 0=ty
 rw[h];rfl
theorem Dc (h:NV f D S) (ha:gC S a):au (aD f S) a:=by
 have z:ak (aD f S) 0:=by
  have:=h.pre.length_le
  have:=h.one
  exact ⟨Int.le_refl _,by show (0:Int)<S.wires.length;omega⟩
 cases ha with
 |int n k c h1=>exact (jo rfl ⟨z,z,z⟩).2 ⟨⟨rfl,rfl,rfl⟩,(aw h1).2.1⟩
 |bool n k c h1 hk=>exact (ic rfl ⟨z,z,z⟩).2 ⟨⟨rfl,rfl,rfl⟩,(aw h1).2.1,.inr ⟨rfl,hk⟩⟩
 |cell n k ty v m c h1 hm hk=>
  obtain ⟨i,rfl,q1,q2⟩:=hk
  have:=(List.getElem?_eq_some_iff.1 q1).1
  refine (iB rfl ⟨z,z,z⟩).2 ⟨⟨rfl,rfl,rfl⟩,⟨by omega,by show (i:Int)<S.cells.length;omega⟩,?_,m,BK h q2,?_⟩
  ·rw[(aw h1).2.1,ii q1]
  ·rw[(aw h1).2.2,(aw hm).2.2]
 |down n a ty c g h1 ha=>
  exact (oQ rfl ⟨(aw ha).1,z,z⟩).2 ⟨⟨rfl,rfl,rfl⟩,⟨g,by rw[(aw h1).2.2,(aw ha).2.2]⟩,by rw[(aw h1).2.1,(aw ha).2.1]⟩
 |join n a b d ty c h1 ha hb hd=>
  exact (pk rfl ⟨(aw ha).1,(aw hb).1,(aw hd).1⟩).2 ⟨rfl,(aw ha).2.1,by rw[(aw h1).2.2,(aw ha).2.2],by rw[(aw h1).2.1,(aw hb).2.1],by rw[(aw h1).2.1,(aw hd).2.1],by rw[(aw hb).2.2,(aw h1).2.2],by rw[(aw hd).2.2,(aw h1).2.2]⟩
 |same n a ty c h1 ha=>
  exact (ig rfl ⟨(aw ha).1,z,z⟩).2 ⟨⟨rfl,rfl,rfl⟩,by rw[(aw h1).2.2,(aw ha).2.2],by rw[(aw h1).2.1,(aw ha).2.1]⟩
 |cho n a b d ty c h1 ha hb hd=>
  exact (er rfl ⟨(aw ha).1,(aw hb).1,(aw hd).1⟩).2 ⟨rfl,⟨by rw[(aw h1).2.2,(aw ha).2.2],by rw[(aw h1).2.2,(aw hb).2.2],by rw[(aw h1).2.2,(aw hd).2.2]⟩,(aw ha).2.1,by rw[(aw hb).2.1,(aw hd).2.1],by rw[(aw h1).2.1,(aw hb).2.1]⟩
 |un op n a c ho h1 ha=>
  refine (gN ho ⟨(aw ha).1,z,z⟩).2 ⟨rfl,rfl,rfl,by rw[(aw h1).2.2,(aw ha).2.2],(aw ha).2.1,?_⟩
  rw[(aw h1).2.1,(lL (op:=op) (by omega)).2.2.1]
 |bin op n a b ty c ho h1 ha hb hs=>
  refine (fi ho ⟨(aw ha).1,(aw hb).1,z⟩).2 ⟨rfl,rfl,⟨by rw[(aw h1).2.2,(aw ha).2.2],by rw[(aw h1).2.2,(aw hb).2.2]⟩,?_,by rw[(aw ha).2.1,(aw hb).2.1],?_⟩
  ·rw[(aw h1).2.1,(lL (op:=op) (by omega)).2.2.1]
  ·rw[(aw ha).2.1];exact hs
theorem yJ (h:NV f D S):du (aD f S):=by
 refine ⟨h.vo,h.cl,fun p hp=>?_,fun i j x y hij hx hy=>?_,fun m hm=>?_⟩
 ·obtain ⟨i,hi⟩:=List.getElem?_of_mem hp
  obtain ⟨k',n'⟩:=p
  obtain ⟨rfl,ty',v',c',q1,q2⟩:=h.ki i k' n' hi
  have:=(List.getElem?_eq_some_iff.1 q1).1
  exact ⟨by dsimp only;omega,by show (i:Int)<S.cells.length;omega,(aw q2).1,by dsimp only;rw[(aw q2).2.1,ii q1]⟩
 ·obtain ⟨k1,n1⟩:=x
  obtain ⟨k2,n2⟩:=y
  have h1:=(h.ki i k1 n1 hx).1
  have h2:=(h.ki j k2 n2 hy).1
  dsimp only
  omega
 ·have hm':m<S.keeps.length:=by rw[h.kc];exact hm
  have hx:=List.getElem?_eq_getElem hm'
  exact ⟨_,List.getElem_mem hm',(h.ki m _ _ hx).1⟩
theorem pZ (h:bn f) (hs:(dr f).spent=false):bm (aD f (dr f)):=by
 obtain ⟨v,g⟩:=lp h f.defs.length (Nat.le_refl _) (by rw[ei];exact hs)
 rw[ei,List.take_length] at v
 rw[ei] at g
 obtain ⟨⟨hw1,hw2,hw3⟩,hi,ho,hd,hdf,hr⟩:=h
 have hd2:=dm.1 hd
 generalize dr f=S at*
 have hdst:∀m:Int,m∈f.fm.acts.map (·.dst)↔m∈f.defs.map (·.1):=fun m=>by
  show m∈(f.defs.map _).map _↔_
  rw[List.map_map];rfl
 have hp1:∀m:Int,dt f m->bB (aD f S) m:=fun m hD=>by
  induction hD with
  |ins n h=>exact .ins n h
  |def_ d hd' hw hg ih1 ih2=>
   obtain ⟨j,hj⟩:=List.getElem?_of_mem hd'
   obtain ⟨n,q1,q2⟩:=g.defs j d (List.getElem?_eq_some_iff.1 hj).1 hj
   obtain ⟨r1,r2,r3,r4,r5⟩:=hdf d hd'
   have hdw:ak f.fm d.1:=hd2.2.1 ⟨0,d.1,0,0,0,0⟩ (List.mem_map_of_mem (f:=fun d:Int × Ex=>(⟨0,d.1,0,0,0,0⟩:Ac)) hd')
   have hn:=zV d.2 r1 n _ r4 q1 ih1 ih2
   exact eB q2 (io v.pre hdw) ih2 (fun m hm'=>by
    simp[wants,bl] at hm'
    subst hm'
    exact hn)
 have hp:∀m:Int,ak f.fm m->bB (aD f S) m:=fun m hm=>by
  obtain ⟨k,rfl⟩:=Int.eq_ofNat_of_zero_le hm.1
  have hk:(k:Int)<f.wires.length:=hm.2
  exact hp1 k (hr k (by omega))
 have hports:∀l,bG f.fm l->bG (aD f S) l:=fun l hl=>⟨fun n hn=>by
  obtain ⟨q1,q2⟩:=hl.1 n hn
  obtain ⟨r1,_,r3⟩:=iG v.pre q1
  exact ⟨r1,by rw[r3];exact q2⟩,hl.2⟩
 have hact:∀x∈S.acts,au (aD f S) x:=fun x hx=>Dc v (v.act x hx)
 have hdw:∀a∈S.acts,ak (aD f S) a.dst:=fun a ha=>by
  rcases (v.mem _).1 (List.mem_map_of_mem ha) with q|q
  ·exact ⟨by omega,by show a.dst<(S.wires.length:Int);omega⟩
  ·obtain ⟨b,hb,hb2⟩:=List.mem_map.1 ((hdst _).2 q)
   have:=iG v.pre (hd2.2.1 b hb)
   rw[hb2] at this
   exact this.1
 refine ⟨⟨fun w hw=>?_,?_,v.le⟩,hports _ hi,hports _ ho,yJ v,dm.2 ⟨?_,hdw,fun n hn=>?_⟩,hact,?_⟩
 ·obtain ⟨q1,q2⟩:=v.wo w hw
  refine ⟨q1,fun i gd hgd=>?_⟩
  obtain ⟨r1,r2,r3⟩:=q2 i gd hgd
  obtain ⟨u1,u2,u3⟩:=iG v.pre r1
  exact ⟨u1,by rw[u2];exact r2,by rw[u3];exact r3⟩
 ·have:=v.pre.length_le
  show 1<=S.wires.length
  omega
 ·have h1:=hd2.1
  unfold dO at h1⊢
  rw[List.nodup_append] at h1⊢
  refine ⟨h1.1,v.nd,fun a ha b hb hab=>?_⟩
  subst hab
  have hai:=(hi.1 a ha).1
  have hal:a<f.wires.length:=hai.2
  rcases (v.mem a).1 hb with q|q
  ·omega
  ·exact h1.2.2 a ha a ((hdst a).2 q) rfl
 ·have hn':n<S.wires.length:=hn
  by_cases hl:n<f.wires.length
  ·rcases List.mem_append.1 (hd2.2.2 n hl) with q|q
   ·exact List.mem_append_left _ q
   ·exact List.mem_append_right _ ((v.mem n).2 (.inr ((hdst n).1 q)))
  ·exact List.mem_append_right _ ((v.mem n).2 (.inl ⟨by omega,by omega⟩))
 ·intro n
  induction n using Nat.strongRecOn with
  |ind n ih=>
   intro hn
   have hn':n<S.wires.length:=hn
   by_cases hl:n<f.wires.length
   ·exact hp n ⟨by omega,by show (n:Int)<f.wires.length;omega⟩
   ·obtain ⟨a,ha,hd'⟩:=List.mem_map.1 ((v.mem n).2 (.inl ⟨by omega,by omega⟩))
    have hdst':a.dst=(n:Int):=hd'
    have hw:=aw (f:=f) (S:=S) (n:=(n:Int)) ⟨n,rfl,List.getElem?_eq_getElem hn'⟩
    have hck:=(v.wo _ (List.getElem_mem hn')).2
    rw[<-hdst']
    refine bB.act a ha (fun m hm=>?_) (fun gd hg=>?_)
    ·have hlt:=v.lt a ha (by omega) m hm
     have h0:ak (aD f S) m:=by
      obtain ⟨w1,w2,w3,_⟩:=hact a ha
      unfold wants at hm
      repeat' split at hm
      all_goals simp at hm
      ·subst hm;exact w1
      ·rcases hm with rfl|rfl
       ·exact w1
       ·exact w2
      ·rcases hm with rfl|rfl|rfl
       ·exact w1
       ·exact w2
       ·exact w3
     obtain ⟨i,rfl⟩:=Int.eq_ofNat_of_zero_le h0.1
     exact ih i (by omega) (by have h9:(i:Int)<S.wires.length:=h0.2;show i<S.wires.length;omega)
    ·rw[hdst',hw.2.2] at hg
     obtain ⟨i,hi'⟩:=List.getElem?_of_mem hg
     exact hp _ (hck i gd hi').1
end
theorem nQ {α:Type} {g:α->Nat} {B:Nat}:∀(l:List α),(∀x∈l,g x<=B)->(l.map g).sum<=B*l.length
 | [],_=>by simp
 |x::l,h=>by
  simp only[List.map_cons,List.sum_cons,List.length_cons]
  have h1:=h x (by simp)
  have h2:=nQ l (fun y hy=>h y (by simp[hy]))
  rw[Nat.mul_succ]
  omega
structure Da (f:Fl) (X:Fm):Prop where
 ok:bm X
 acts:X.acts.length<=1600
 wires:X.wires.length<=iZ f f.defs.length
 cells:X.cells.length<=mI f f.defs.length
 ins:X.ins.map (ag X)=f.ins.map (ag f.fm)
 outs:X.outs.map (ag X)=f.outs.map (ag f.fm)
theorem Cg {f:Fl} (h:bn f) (hs:(dr f).spent=false):Da f (aD f (dr f)):=by
 have hok:=pZ h hs
 obtain ⟨v,_⟩:=lp h f.defs.length (Nat.le_refl _) (by rw[ei];exact hs)
 rw[ei] at v
 obtain ⟨h1,h2,_⟩:=ui (f:=f) (fun d hd=>(h.2.2.2.2.1 d hd).1)
 have hc:=(nI (fun n hn=>(hok.2.1.1 n hn).1) hok.2.2.2.2.1).1
 have hw:=hok.1.2.2
 refine ⟨hok,by omega,h1,h2,?_,?_⟩
 ·exact List.map_congr_left (fun n hn=>(iG v.pre (h.2.1.1 n hn).1).2.1)
 ·exact List.map_congr_left (fun n hn=>(iG v.pre (h.2.2.1.1 n hn).1).2.1)
theorem zr {f:Fl} (h:bn f) {n:Int} (hn:ak f.fm n):1<=ag f.fm n/\ag f.fm n<=2:=by
 refine' zq77
 have:=(h.1.1 _ (List.getElem_mem hm)).1
 unfold ag
 rw[bW (f:=f.fm) hx]
 omega
open Vf Ar
noncomputable def fb (W:Nat->Int->Int) (t:Nat):List Gd->Bool
 | []=>true
 |g::l=>if (decide (W t g.wire≠0))=g.no then false else fb W t l
def kh (th:Nat->Bool):Nat->Option Nat
 |0=>none
 |t+1=>if th t=true then some t else kh th t
noncomputable def fv (W:Nat->Int->Int) (c:List Gd) (t:Nat):Option Nat:=kh (fun s=>fb W s c) t
noncomputable def ia (W:Nat->Int->Int) (e:Ex) (ps:List (List Gd->Nat->Int)) (c:List Gd) (t:Nat):Int:=
 let P:=fun (i:Nat)=>ps.getD i (fun _ _=>0)
 if e.op<=2 then e.n
 else if e.op=3 then W t e.n
 else if e.op=24\/e.op=25 then P 0 c.dropLast t
 else if e.op=26 then (if W t e.n≠0 then P 0 (c++ [⟨e.n,false⟩]) t else P 1 (c++ [⟨e.n,true⟩]) t)
 else if e.op=27 then (if P 0 c t≠0 then P 1 c t else P 2 c t)
 else if e.op=21 then (match fv W c t with|none=>0|some s=>P 0 c s)
 else if e.op=22 then (match fv W c t with|none=>P 0 c t|some s=>P 1 c s)
 else if e.op=23 then (match fv W c t with|none=>P 0 c t|some _=>P 1 c t)
 else if e.args.length=1 then im e.op (P 0 c t) else gF e.op (P 0 c t) (P 1 c t)
noncomputable def bZ (W:Nat->Int->Int):Ex->List Gd->Nat->Int:=Ex.para (ia W)
theorem xi (W:Nat->Int->Int) (e:Ex) (c:List Gd) (t:Nat):bZ W e c t=ia W e (e.args.map (bZ W)) c t:=by unfold bZ;rw[Ex.para_eq]
theorem dZ {W:Nat->Int->Int} {e x:Ex} {i:Nat} (h:e.args[i]? =some x):(e.args.map (bZ W)).getD i (fun _ _=>0)=bZ W x:=by
 rw[List.getD_eq_getElem?_getD,List.getElem?_map,h];rfl
structure AW (f:Fl) (rows:List (List Int)) (W:Nat->Int->Int):Prop where
 ins:∀(t i:Nat) n,f.ins[i]? =some n->W t n=(rows.getD t []).getD i 0
 defs:∀t,∀d∈f.defs,W t d.1=bZ W d.2 (aa f.fm d.1) t
section
variable {F:Fm} {cs row:List Int}
theorem pi {k:Int}:∀(ks:List (Int × Int)) (ns:List Int),(∀p∈ks,0<=p.1/\p.1≠k)->0<=k->ao (cu F cs row ks ns) k=ao ns k
 | [],_,_,_=>rfl
 |p::ks,ns,h,h0=>by
  have h1:=h p (by simp)
  have hs:=fun ns=>pi ks ns (fun q hq=>h q (by simp[hq])) h0
  unfold cu at hs⊢
  rw[List.foldl_cons,hs]
  split
  ·unfold ao
   rw[List.getD_eq_getElem?_getD,List.getD_eq_getElem?_getD,List.getElem?_set_ne (by omega)]
  ·rfl
theorem rP {k m:Int}:∀(ks:List (Int × Int)) (ns:List Int),(ks.map (·.1)).Nodup->(∀p∈ks,0<=p.1)->(k,m)∈ks->k.toNat<ns.length->
  ao (cu F cs row ks ns) k=if fC F cs row (aa F m)=true then aK F cs row m else ao ns k
 | [],_,_,_,h,_=>by cases h
 |p::ks,ns,hn,h0,h,hl=>by
  rw[List.map_cons,List.nodup_cons] at hn
  rcases List.mem_cons.1 h with rfl|h
  ·have hs:=fun ns=>pi (F:=F) (cs:=cs) (row:=row) (k:=k) ks ns (fun q hq=>⟨h0 q (by simp[hq]),fun e=>hn.1 (by
    have h9:q.1∈ks.map (·.1):=List.mem_map_of_mem hq
    rw[e] at h9
    exact h9)⟩) (h0 (k,m) (by simp))
   unfold cu at hs⊢
   rw[List.foldl_cons,hs]
   split
   ·unfold ao
    rw[List.getD_eq_getElem?_getD,List.getElem?_set_self hl];rfl
   ·rfl
  ·have hk:k∈ks.map (·.1):=List.mem_map_of_mem (f:=fun p:Int × Int=>p.1) h
   have hne:p.1≠k:=fun e=>hn.1 (e▸hk)
   have hk0:0<=k:=h0 _ (List.mem_cons_of_mem _ h)
   have hp0:=h0 p (by simp)
   have hs:=fun ns hl=>rP (k:=k) (m:=m) ks ns hn.2 (fun q hq=>h0 q (by simp[hq])) h hl
   unfold cu at hs⊢
   rw[List.foldl_cons,hs _ (by split<;>simp[hl])]
   split
   ·rfl
   ·split
    ·unfold ao
     rw[List.getD_eq_getElem?_getD,List.getD_eq_getElem?_getD,List.getElem?_set_ne (by omega)]
    ·rfl
end
noncomputable def fP (F:Fm) (rows:List (List Int)):Nat->List Int
 |0=>F.cells.map (·.2)
 |t+1=>cu F (fP F rows t) (rows.getD t []) F.keeps (fP F rows t)
noncomputable def wF (F:Fm) (rows:List (List Int)) (t:Nat) (n:Int):Int:=aK F (fP F rows t) (rows.getD t []) n
theorem kV (F:Fm) (cs row:List Int):∀(ks:List (Int × Int)) (ns:List Int),(cu F cs row ks ns).length=ns.length
 | [],_=>rfl
 |k::ks,ns=>by
  have h:=kV F cs row ks
  unfold cu at h⊢
  rw[List.foldl_cons,h]
  split<;>simp
theorem rG (F:Fm) (rows:List (List Int)):∀t,(fP F rows t).length=F.cells.length
 |0=>by simp[fP]
 |t+1=>by rw[fP,kV,rG F rows t]
theorem xV (F:Fm) (rows:List (List Int)) (t:Nat):∀c,fC F (fP F rows t) (rows.getD t []) c=fb (wF F rows) t c
 | []=>rfl
 |g::c=>by simp only[fC,fb];rw[xV F rows t c];rfl
section
variable {f:Fl} {D:List Int} {S:Mk} {rows:List (List Int)} {ty n x k v m:Int} {c:List Gd}
theorem se (h:NV f D S) (hk:nH S k ty v m) (hm:bY S m ty c):∀t,ao (fP (aD f S) rows t) k=match fv (wF (aD f S) rows) c t with|none=>v|some s=>wF (aD f S) rows s m:=by
 obtain ⟨i,rfl,q1,q2⟩:=hk
 have hil:=(List.getElem?_eq_some_iff.1 q1).1
 have hnd:((aD f S).keeps.map (·.1)).Nodup:=mN (fun a b x y hab hx hy=>by
  obtain ⟨x1,x2⟩:=x
  obtain ⟨y1,y2⟩:=y
  have h1:=(h.ki a x1 x2 hx).1
  have h2:=(h.ki b y1 y2 hy).1
  dsimp only
  omega)
 have h0:∀p∈(aD f S).keeps,0<=p.1:=fun p hp=>by
  obtain ⟨a,ha⟩:=List.getElem?_of_mem hp
  obtain ⟨p1,p2⟩:=p
  have:=(h.ki a p1 p2 ha).1
  dsimp only
  omega
 have hmem:(((i:Nat):Int),m)∈(aD f S).keeps:=List.mem_of_getElem? q2
 intro t
 induction t with
 |zero=>
  show ao (S.cells.map (·.2)) i=v
  unfold ao
  rw[Int.toNat_natCast,List.getD_eq_getElem?_getD,List.getElem?_map,q1];rfl
 |succ t ih=>
  rw[fP,rP _ _ hnd h0 hmem (by rw[rG];show ((i:Nat):Int).toNat<S.cells.length;rw[Int.toNat_natCast];exact hil),(aw hm).2.2,xV,ih]
  unfold fv
  simp only[kh]
  by_cases ht:fb (wF (aD f S) rows) t c=true
  ·rw[if_pos ht,if_pos ht];rfl
  ·rw[if_neg ht,if_neg ht]
theorem Cc (hv:NV f D S) (hok:bm (aD f S)) (e:Ex):aO f e->∀(n:Int) (c:List Gd),cY f e S n c->∀t,wF (aD f S) rows t n=bZ (wF (aD f S) rows) e c t:=by
 have dn:∀{n ty:Int} {c:List Gd},bY S n ty c->bB (aD f S) n:=fun {n ty c} h=>by
  obtain ⟨i,rfl,hi⟩:=h
  exact hok.2.2.2.2.2.2 i (List.getElem?_eq_some_iff.1 hi).1
 have hbeg:∀{g:Int} {c:List Gd},iy S g c->∀t,wF (aD f S) rows t g=match fv (wF (aD f S) rows) c t with|none=>1|some _=>0:=fun {g c} ⟨k,u,q1,q2,q3,q4,q5⟩ t=>by
  have h1:=nX hok (fP (aD f S) rows t) (rows.getD t []) (x:=⟨21,g,0,0,0,k⟩) q4 rfl
  have h2:wF (aD f S) rows t g=ao (fP (aD f S) rows t) k:=h1
  rw[h2,se hv q3 q2 t]
  cases fv (wF (aD f S) rows) c t with
  |none=>rfl
  |some s=>exact lm hok (fP (aD f S) rows s) (rows.getD s []) (x:=⟨2,u,0,0,0,0⟩) q5 (Int.le_refl 2)
 have hwas:∀{y b:Int} {c:List Gd},iQ S y b c->∀t,wF (aD f S) rows t y=match fv (wF (aD f S) rows) c t with|none=>0|some s=>wF (aD f S) rows s b:=fun {y b c} ⟨k,u,q1,q2,q3,q4⟩ t=>by
  have h1:=nX hok (fP (aD f S) rows t) (rows.getD t []) (x:=⟨21,y,0,0,0,k⟩) q4 rfl
  have h2:wF (aD f S) rows t y=ao (fP (aD f S) rows t) k:=h1
  rw[h2,se hv q3 q2 t]
 have hcho:∀{a:Ac},a∈S.acts->26<=a.op->bB (aD f S) a.a->bB (aD f S) a.b->bB (aD f S) a.c->∀t,wF (aD f S) rows t a.dst=if wF (aD f S) rows t a.a≠0 then wF (aD f S) rows t a.b else wF (aD f S) rows t a.c:=fun {a} ha ho h1 h2 h3 t=>by
  by_cases h0:wF (aD f S) rows t a.a=0
  ·rw[if_neg (by rw[h0];simp)]
   exact xR hok _ _ ha ho h1 h0 h3
  ·rw[if_pos h0]
   exact tP hok _ _ ha ho h1 h0 h2
 induction e using Ex.ind with
 |h e ih=>
  intro hp n c h t
  obtain ⟨hp1,hp2⟩:=bq.1 hp
  have hops:=dq hp1
  rw[kX] at h
  unfold tu at h
  dsimp only at h
  obtain ⟨h0,h⟩:=h
  rw[xi,ia]
  dsimp only
  by_cases h1:e.op=1\/e.op=2
  ·rw[if_neg (by omega),if_pos h1] at h
   rw[if_pos (by omega)]
   exact lm hok _ _ h (by dsimp only;omega)
  rw[if_neg (show ¬e.op<=2 by omega)]
  by_cases h3:e.op=3
  ·rw[if_pos h3] at h
   rw[if_pos h3,h]
  rw[if_neg h3] at h
  rw[if_neg h3]
  rw[if_neg h1] at h
  have ih':∀(i:Nat) y,e.args[i]? =some y->∀n c,cY f y S n c->∀t,wF (aD f S) rows t n=bZ (wF (aD f S) rows) y c t:=fun i y hi n c hy t=>ih y (List.mem_of_getElem? hi) (hp2 y (List.mem_of_getElem? hi)) n c hy t
  by_cases h21:e.op=21
  ·rw[if_pos h21] at h
   obtain ⟨y,hx⟩:=br hp1 (by omega)
   have hi0:e.args[0]? =some y:=by rw[hx];rfl
   rw[aS hi0] at h
   rw[if_neg (by omega),if_neg (by omega),if_neg (by omega),if_pos h21,dZ hi0]
   obtain ⟨a,q1,q2⟩:=h
   rw[hwas q2 t]
   cases fv (wF (aD f S) rows) c t with
   |none=>rfl
   |some s=>exact ih' 0 y hi0 a c q1 s
  rw[if_neg h21] at h
  by_cases h22:e.op=22
  ·rw[if_pos h22] at h
   obtain ⟨y,z,hx⟩:=aQ hp1 (by omega)
   have hi0:e.args[0]? =some y:=by rw[hx];rfl
   have hi1:e.args[1]? =some z:=by rw[hx];rfl
   rw[aS hi0,aS hi1] at h
   rw[if_neg (by omega),if_neg (by omega),if_neg (by omega),if_neg h21,if_pos h22,dZ hi0,dZ hi1]
   obtain ⟨a,b,g,y',q1,q2,q3,q4,q5⟩:=h
   obtain ⟨_,_,g1,_⟩:=id q3
   obtain ⟨_,_,w1,_⟩:=id q4
   rw[hcho q5 (show (26:Int)<=27 by decide) (dn g1) (dn q1.wat) (dn w1) t]
   dsimp only
   rw[hbeg q3 t,hwas q4 t]
   cases fv (wF (aD f S) rows) c t with
   |none=>exact ih' 0 y hi0 a c q1 t
   |some s=>exact ih' 1 z hi1 b c q2 s
  rw[if_neg h22] at h
  by_cases h23:e.op=23
  ·rw[if_pos h23] at h
   obtain ⟨y,z,hx⟩:=aQ hp1 (by omega)
   have hi0:e.args[0]? =some y:=by rw[hx];rfl
   have hi1:e.args[1]? =some z:=by rw[hx];rfl
   rw[aS hi0,aS hi1] at h
   rw[if_neg (by omega),if_neg (by omega),if_neg (by omega),if_neg h21,if_neg h22,if_pos h23,dZ hi0,dZ hi1]
   obtain ⟨a,b,g,q1,q2,q3,q5⟩:=h
   obtain ⟨_,_,g1,_⟩:=id q3
   rw[hcho q5 (show (26:Int)<=27 by decide) (dn g1) (dn q1.wat) (dn q2.wat) t]
   dsimp only
   rw[hbeg q3 t]
   cases fv (wF (aD f S) rows) c t with
   |none=>exact ih' 0 y hi0 a c q1 t
   |some s=>exact ih' 1 z hi1 b c q2 t
  rw[if_neg h23] at h
  by_cases h27:e.op=27
  ·rw[if_pos h27] at h
   obtain ⟨y,z,u,hx⟩:=eo hp1 h27
   have hi0:e.args[0]? =some y:=by rw[hx];rfl
   have hi1:e.args[1]? =some z:=by rw[hx];rfl
   have hi2:e.args[2]? =some u:=by rw[hx];rfl
   rw[aS hi0,aS hi1,aS hi2] at h
   rw[if_neg (by omega),if_neg (by omega),if_pos h27]
   simp only[dZ hi0,dZ hi1,dZ hi2]
   obtain ⟨a,b,g,q1,q2,q3,q5⟩:=h
   rw[hcho q5 (show (26:Int)<=27 by decide) (dn q1.wat) (dn q2.wat) (dn q3.wat) t]
   dsimp only
   simp only[ih' 0 y hi0 a c q1 t,ih' 1 z hi1 b c q2 t,ih' 2 u hi2 g c q3 t]
  rw[if_neg h27] at h
  by_cases h24:e.op=24\/e.op=25
  ·rw[if_pos h24] at h
   obtain ⟨y,hx⟩:=br hp1 (by omega)
   have hi0:e.args[0]? =some y:=by rw[hx];rfl
   rw[aS hi0] at h
   rw[if_pos h24,dZ hi0]
   obtain ⟨a,q1,q2⟩:=h
   rw[<-ih' 0 y hi0 a _ q1 t]
   exact kI hok _ _ q2 (.inr rfl) (dn q1.wat)
  rw[if_neg h24] at h
  by_cases h26:e.op=26
  ·rw[if_pos h26] at h
   obtain ⟨y,z,hx⟩:=aQ hp1 (by omega)
   have hi0:e.args[0]? =some y:=by rw[hx];rfl
   have hi1:e.args[1]? =some z:=by rw[hx];rfl
   rw[aS hi0,aS hi1] at h
   rw[if_neg h24,if_pos h26,dZ hi0,dZ hi1]
   obtain ⟨a,b,q1,q2,q5⟩:=h
   have wn:=io hv.pre (cC hp1 (dK.2 (by omega)))
   rw[hcho q5 (show (26:Int)<=26 by decide) (dn wn) (dn q1.wat) (dn q2.wat) t]
   dsimp only
   rw[ih' 0 y hi0 a _ q1 t,ih' 1 z hi1 b _ q2 t]
  rw[if_neg h26] at h
  rw[if_neg h24,if_neg h26,if_neg h27,if_neg h21,if_neg h22,if_neg h23]
  by_cases h2:e.args.length=2
  ·rw[if_pos h2] at h
   obtain ⟨y,z,hx⟩:=gH h2
   have hi0:e.args[0]? =some y:=by rw[hx];rfl
   have hi1:e.args[1]? =some z:=by rw[hx];rfl
   rw[aS hi0,aS hi1] at h
   rw[if_neg (by omega),dZ hi0,dZ hi1]
   obtain ⟨a,b,q1,q2,q5⟩:=h
   have ho:7<=e.op/\e.op<=20:=by
    by_cases h5:e.op=5\/e.op=6
    ·obtain ⟨x',hx'⟩:=br hp1 (by omega)
     rw[hx'] at h2;simp at h2
    ·omega
   rw[<-ih' 0 y hi0 a _ q1 t,<-ih' 1 z hi1 b _ q2 t]
   exact tF hok _ _ q5 ho (dn q1.wat) (dn q2.wat)
  ·rw[if_neg h2] at h
   obtain ⟨y,hx⟩:∃x,e.args=[x]:=by
    by_cases h5:e.op=5\/e.op=6
    ·exact br hp1 (by omega)
    ·obtain ⟨x,y,hx⟩:=aQ hp1 (by omega)
     rw[hx] at h2
     exact absurd rfl h2
   have ho:e.op=5\/e.op=6:=by
    by_cases h5:e.op=5\/e.op=6
    ·exact h5
    ·obtain ⟨x',y',hx'⟩:=aQ hp1 (by omega)
     rw[hx'] at hx;simp at hx
   have hi0:e.args[0]? =some y:=by rw[hx];rfl
   rw[aS hi0] at h
   rw[if_pos (by rw[hx];rfl),dZ hi0]
   obtain ⟨a,q1,q2⟩:=h
   rw[<-ih' 0 y hi0 a _ q1 t]
   exact tj hok _ _ q2 ho (dn q1.wat)
end
theorem yq {f:Fl} (h:bn f) (hs:(dr f).spent=false) (rows:List (List Int)):AW f rows (wF (aD f (dr f)) rows):=by
 have hok:=pZ h hs
 obtain ⟨v,g⟩:=lp h f.defs.length (Nat.le_refl _) (by rw[ei];exact hs)
 rw[ei] at v g
 refine ⟨fun t i n hi=>tH hok _ _ hi,fun t d hd=>?_⟩
 obtain ⟨j,hj⟩:=List.getElem?_of_mem hd
 obtain ⟨n,q1,q2⟩:=g.defs j d (List.getElem?_eq_some_iff.1 hj).1 hj
 obtain ⟨i,hi,hil⟩:=q1.wat
 rw[<-Cc v hok d.2 (h.2.2.2.2.1 d hd).1 n _ q1 t]
 exact kI hok _ _ q2 (.inl rfl) (hi▸hok.2.2.2.2.2.2 i (List.getElem?_eq_some_iff.1 hil).1)
theorem yB (F:Fm) (rows:List (List Int)):fA F (F.cells.map (·.2)) rows=(List.range rows.length).map (fun t=>F.outs.map (wF F rows t)):=by
 have key:∀(l:List (List Int)) (t:Nat),rows.drop t=l->fA F (fP F rows t) l=(List.range l.length).map (fun i=>F.outs.map (wF F rows (t+i))):=by
  intro l
  induction l with
  |nil=>exact fun t _=>rfl
  |cons r l ih=>
   intro t ht
   have hr:rows.getD t []=r:=by
    rw[List.getD_eq_getElem?_getD]
    have:(rows.drop t)[0]? =some r:=by rw[ht];rfl
    rw[List.getElem?_drop] at this
    rw[show t+0=t from rfl] at this
    rw[this];rfl
   have hd:rows.drop (t+1)=l:=by
    rw[<-List.drop_drop (i:=1) (j:=t),ht];rfl
   rw[fA,List.length_cons,List.range_succ_eq_map,List.map_cons,List.map_map]
   have h2:=ih (t+1) hd
   rw[fP,hr] at h2
   rw[h2]
   congr 1
   ·unfold eO wF
    rw[Nat.add_zero,hr]
   ·exact List.map_congr_left (fun i _=>by simp only[Function.comp_apply];rw[show t+1+i=t+(i+1) by omega])
 have:=key rows 0 (by simp)
 simpa[fP] using this
end Go.Proofs.YtckognjamlckcaaGreatDoor.Fo
