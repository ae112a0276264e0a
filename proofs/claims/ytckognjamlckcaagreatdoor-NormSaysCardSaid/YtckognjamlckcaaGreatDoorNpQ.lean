/-
  norm, as plain data: the wires that an expression has become. Kinds of expressions, op by op. norm, as plain data: nothing falls away. norm, as plain data: the wire of an expression has what the expression says. norm, as plain data: each definition of the flat stands in what is made. norm, as plain data: clocks. norm, as plain data: acts that are right, and what holds of all that is made. norm, as plain data: what is made of any expression keeps all that holds.
-/
import Derived.Test.YtckognjamlckcaaGreatDoorNpI
namespace Go.Proofs.YtckognjamlckcaaGreatDoor.Fo
open Vf
abbrev DX:=Mk->Int->List Gd->Prop
def tu (f:Fl) (e:Ex) (ps:List DX) (S:Mk) (n:Int) (c:List Gd):Prop:=
 let P:=fun (i:Nat)=>ps.getD i (fun _ _ _=>False)
 bY S n (am f e) c/\
 if e.op=3 then n=e.n
 else if e.op=1\/e.op=2 then (⟨e.op,n,0,0,0,e.n⟩:Ac)∈S.acts
 else if e.op=21 then ∃a,P 0 S a c/\iQ S n a c
 else if e.op=22 then ∃a b g y,P 0 S a c/\P 1 S b c/\iy S g c/\iQ S y b c/\(⟨27,n,g,a,y,0⟩:Ac)∈S.acts
 else if e.op=23 then ∃a b g,P 0 S a c/\P 1 S b c/\iy S g c/\(⟨27,n,g,a,b,0⟩:Ac)∈S.acts
 else if e.op=27 then ∃a b d,P 0 S a c/\P 1 S b c/\P 2 S d c/\(⟨27,n,a,b,d,0⟩:Ac)∈S.acts
 else if e.op=24\/e.op=25 then ∃a,P 0 S a c.dropLast/\(⟨24,n,a,0,0,0⟩:Ac)∈S.acts
 else if e.op=26 then ∃a b,P 0 S a (c++ [⟨e.n,false⟩])/\P 1 S b (c++ [⟨e.n,true⟩])/\(⟨26,n,e.n,a,b,0⟩:Ac)∈S.acts
 else if e.args.length=2 then ∃a b,P 0 S a c/\P 1 S b c/\(⟨e.op,n,a,b,0,0⟩:Ac)∈S.acts
 else ∃a,P 0 S a c/\(⟨e.op,n,a,0,0,0⟩:Ac)∈S.acts
noncomputable def cY (f:Fl):Ex->DX:=Ex.para (tu f)
theorem kX (f:Fl) (e:Ex) (S:Mk) (n:Int) (c:List Gd):cY f e S n c↔tu f e (e.args.map (cY f)) S n c:=by unfold cY;rw[Ex.para_eq]
theorem aS {f:Fl} {e x:Ex} {i:Nat} (h:e.args[i]? =some x):(e.args.map (cY f)).getD i (fun _ _ _=>False)=cY f x:=by
 rw[List.getD_eq_getElem?_getD,List.getElem?_map,h];rfl
theorem yS {f:Fl} {e:Ex} {S R:Mk} (ih:∀x∈e.args,∀n c,cY f x S n c->cY f x R n c) (i:Nat) {n:Int} {c:List Gd} (h:(e.args.map (cY f)).getD i (fun _ _ _=>False) S n c):(e.args.map (cY f)).getD i (fun _ _ _=>False) R n c:=by
 cases hx:e.args[i]? with
 |none=>
  rw[List.getD_eq_getElem?_getD,List.getElem?_map,hx] at h
  exact h.elim
 |some x=>
  rw[aS hx] at h⊢
  exact ih x (List.mem_of_getElem? hx) n c h
theorem cY.ext {f:Fl} {S R:Mk} (hE:cO S R) (e:Ex):∀n c,cY f e S n c->cY f e R n c:=by
 induction e using Ex.ind with
 |h e ih=>
  intro n c h
  have hm:=fun (i:Nat) {n:Int} {c:List Gd}=>yS (f:=f) (e:=e) (S:=S) (R:=R) ih i (n:=n) (c:=c)
  rw[kX] at h⊢
  unfold tu at h⊢
  dsimp only at h⊢
  obtain ⟨h0,h⟩:=h
  refine ⟨h0.ext hE,?_⟩
  by_cases h3:e.op=3
  ·rw[if_pos h3] at h⊢;exact h
  rw[if_neg h3] at h⊢
  by_cases h1:e.op=1\/e.op=2
  ·rw[if_pos h1] at h⊢;exact hE.mem h
  rw[if_neg h1] at h⊢
  by_cases h21:e.op=21
  ·rw[if_pos h21] at h⊢
   obtain ⟨a,q1,q2⟩:=h
   exact ⟨a,hm 0 q1,q2.ext hE⟩
  rw[if_neg h21] at h⊢
  by_cases h22:e.op=22
  ·rw[if_pos h22] at h⊢
   obtain ⟨a,b,g,y,q1,q2,q3,q4,q5⟩:=h
   exact ⟨a,b,g,y,hm 0 q1,hm 1 q2,q3.ext hE,q4.ext hE,hE.mem q5⟩
  rw[if_neg h22] at h⊢
  by_cases h23:e.op=23
  ·rw[if_pos h23] at h⊢
   obtain ⟨a,b,g,q1,q2,q3,q5⟩:=h
   exact ⟨a,b,g,hm 0 q1,hm 1 q2,q3.ext hE,hE.mem q5⟩
  rw[if_neg h23] at h⊢
  by_cases h27:e.op=27
  ·rw[if_pos h27] at h⊢
   obtain ⟨a,b,g,q1,q2,q3,q5⟩:=h
   exact ⟨a,b,g,hm 0 q1,hm 1 q2,hm 2 q3,hE.mem q5⟩
  rw[if_neg h27] at h⊢
  by_cases h24:e.op=24\/e.op=25
  ·rw[if_pos h24] at h⊢
   obtain ⟨a,q1,q2⟩:=h
   exact ⟨a,hm 0 q1,hE.mem q2⟩
  rw[if_neg h24] at h⊢
  by_cases h26:e.op=26
  ·rw[if_pos h26] at h⊢
   obtain ⟨a,b,q1,q2,q3⟩:=h
   exact ⟨a,b,hm 0 q1,hm 1 q2,hE.mem q3⟩
  rw[if_neg h26] at h⊢
  by_cases h2:e.args.length=2
  ·rw[if_pos h2] at h⊢
   obtain ⟨a,b,q1,q2,q3⟩:=h
   exact ⟨a,b,hm 0 q1,hm 1 q2,hE.mem q3⟩
  ·rw[if_neg h2] at h⊢
   obtain ⟨a,q1,q2⟩:=h
   exact ⟨a,hm 0 q1,hE.mem q2⟩
section
variable {f:Fl} {e x y z:Ex}
theorem ny (h:am f e≠0):∀x∈e.args,am f x≠0:=fun x hx h0=>by
 refine h ?_
 rw[dW,eV,if_pos]
 rw[<-h0]
 exact List.mem_map_of_mem hx
theorem jg (h:am f e≠0):0∉e.args.map (am f):=fun hm=>by
 obtain ⟨x,hx,h0⟩:=List.mem_map.1 hm
 exact ny h x hx h0
theorem xO (h:am f e≠0) (ho:e.op=21\/e.op=24\/e.op=25) (hx:e.args=[x]):am f e=am f x/\(e.op≠21->ag f.fm e.n=2):=by
 have h0:=jg h
 have hk:=dW f e
 rw[eV,if_neg h0,hx] at hk
 rcases ho with g|g|g<;>rw[g] at hk⊢<;>simp[aJ,dJ,Ar.signB,ao] at hk⊢
 ·exact hk
 ·refine' zq273
 ·refine' zq273
theorem iY (h:am f e≠0) (ho:e.op=22\/e.op=23\/e.op=26) (hx:e.args=[x,y]):am f e=am f x/\am f y=am f x/\(e.op=26->ag f.fm e.n=2):=by
 have h0:=jg h
 have hk:=dW f e
 rw[eV,if_neg h0,hx] at hk
 by_cases hy:am f y=am f x
 rotate_left 1
 ·refine absurd ?_ h
  rw[hk]
  rcases ho with g|g|g<;>rw[g]<;>simp[aJ,dJ,Ar.signB,ao,hy]
 rcases ho with g|g|g<;>rw[g] at hk⊢<;>simp[aJ,dJ,Ar.signB,ao,hy] at hk⊢
 ·exact hk
 ·exact hk
 ·refine' zq273
theorem AT (h:am f e≠0) (ho:e.op=27) (hx:e.args=[x,y,z]):am f x=2/\am f e=am f y/\am f z=am f y:=by
 have h0:=jg h
 have hk:=dW f e
 rw[eV,if_neg h0,hx,ho] at hk
 simp[aJ,dJ,Ar.signB,ao] at hk
 by_cases h2:am f x=2
 ·rw[if_pos h2] at hk
  by_cases hz:am f z=am f y
  ·rw[if_pos hz] at hk;exact ⟨h2,hk,hz⟩
  ·rw[if_neg hz] at hk;exact absurd hk h
 ·rw[if_neg h2] at hk;exact absurd hk h
theorem lL {op:Int} (h:5<=op/\op<=20):Ar.signB op=true/\Ar.signOut op=cj op/\signOut op=cj op/\Ar.signIn op=signIn op:=by
 refine ⟨by simp[Ar.signB,h],?_,?_,rfl⟩
 ·unfold Ar.signOut cj
  repeat' split
  all_goals first|rfl|omega
 ·unfold signOut cj
  repeat' split
  all_goals first|rfl|omega
theorem Bb (h:am f e≠0) (ho:e.op=5\/e.op=6) (hx:e.args=[x]):am f e=cj e.op/\(signIn e.op=0\/am f x=signIn e.op):=by
 have h0:=jg h
 have hk:=dW f e
 obtain ⟨q1,q2,q3,q4⟩:=lL (op:=e.op) (by omega)
 have hn:aJ e.op=false:=by unfold aJ;rcases ho with g|g<;>rw[g]<;>rfl
 refine' zq275
 by_cases hs:signIn e.op=0\/am f x=signIn e.op
 ·rw[if_pos (by rcases hs with hs|hs<;>simp[ao,hs])] at hk
  exact ⟨by simpa using hk,hs⟩
 ·rw[if_neg (by simp only[not_or] at hs;simp[ao,hs])] at hk
  exact absurd hk h
theorem vU (h:am f e≠0) (ho:7<=e.op/\e.op<=20) (hx:e.args=[x,y]):am f e=cj e.op/\am f y=am f x/\(signIn e.op=0\/am f x=signIn e.op):=by
 have h0:=jg h
 have hk:=dW f e
 obtain ⟨q1,q2,q3,q4⟩:=lL (op:=e.op) (by omega)
 have hn:aJ e.op=false:=by
  unfold aJ
  simp
  omega
 refine' zq275
 by_cases hy:am f y=am f x
 rotate_left 1
 ·rw[if_neg (by simp[ao,hy])] at hk
  exact absurd hk h
 by_cases hs:signIn e.op=0\/am f x=signIn e.op
 ·rw[if_pos (by rcases hs with hs|hs<;>simp[ao,hs,hy])] at hk
  exact ⟨by simpa using hk,hy,hs⟩
 ·rw[if_neg (by simp only[not_or] at hs;simp[ao,hs])] at hk
  exact absurd hk h
end
theorem iF {f:Fl} (e:Ex):aO f e->∀(c:List Gd) (s:Mk),cO s (ah e c s).2:=by
 induction e using Ex.ind with
 |h e ih=>
  intro hp c s
  obtain ⟨hp1,hp2⟩:=bq.1 hp
  have ih':∀x∈e.args,∀(c:List Gd) (s:Mk),cO s (ah x c s).2:=fun x hx=>ih x hx (hp2 x hx)
  rw[cQ,eh]
  dsimp only
  by_cases hs:s.spent=true
  ·rw[if_pos hs]
   exact (cO.refl s)
  rw[if_neg hs]
  by_cases h3:e.op=3
  ·rw[if_pos h3]
   exact (cO.refl s)
  rw[if_neg h3]
  by_cases h12:e.op=1\/e.op=2
  ·rw[if_pos h12]
   exact av
  rw[if_neg h12]
  have hops:=dq hp1
  by_cases h21:e.op=21
  ·rw[if_pos h21]
   obtain ⟨x,hx⟩:=br hp1 (by omega)
   rw[ar (x:=x) (i:=0) (by rw[hx];rfl)]
   exact ((ih' x (by rw[hx];simp) c s).trans dD)
  rw[if_neg h21]
  by_cases h22:e.op=22
  ·rw[if_pos h22]
   obtain ⟨x,y,hx⟩:=aQ hp1 (by omega)
   rw[ar (x:=x) (i:=0) (by rw[hx];rfl),ar (x:=y) (i:=1) (by rw[hx];rfl)]
   exact (((((ih' x (by rw[hx];simp) c s).trans (ih' y (by rw[hx];simp) c _)).trans bT).trans dD).trans av)
  rw[if_neg h22]
  by_cases h23:e.op=23
  ·rw[if_pos h23]
   obtain ⟨x,y,hx⟩:=aQ hp1 (by omega)
   rw[ar (x:=x) (i:=0) (by rw[hx];rfl),ar (x:=y) (i:=1) (by rw[hx];rfl)]
   exact ((((ih' x (by rw[hx];simp) c s).trans (ih' y (by rw[hx];simp) c _)).trans bT).trans av)
  rw[if_neg h23]
  by_cases h27:e.op=27
  ·rw[if_pos h27]
   obtain ⟨x,y,z,hx⟩:=eo hp1 h27
   rw[ar (x:=x) (i:=0) (by rw[hx];rfl),ar (x:=y) (i:=1) (by rw[hx];rfl),ar (x:=z) (i:=2) (by rw[hx];rfl)]
   exact ((((ih' x (by rw[hx];simp) c s).trans (ih' y (by rw[hx];simp) c _)).trans (ih' z (by rw[hx];simp) c _)).trans av)
  rw[if_neg h27]
  by_cases h24:e.op=24\/e.op=25
  ·rw[if_pos h24]
   obtain ⟨x,hx⟩:=br hp1 (by omega)
   rw[ar (x:=x) (i:=0) (by rw[hx];rfl)]
   exact ((ih' x (by rw[hx];simp) c.dropLast s).trans av)
  rw[if_neg h24]
  by_cases h26:e.op=26
  ·rw[if_pos h26]
   obtain ⟨x,y,hx⟩:=aQ hp1 (by omega)
   rw[ar (x:=x) (i:=0) (by rw[hx];rfl),ar (x:=y) (i:=1) (by rw[hx];rfl)]
   have h1:=ih' x (by rw[hx];simp) (c++ [⟨e.n,false⟩]) s
   have h2:=ih' y (by rw[hx];simp) (c++ [⟨e.n,true⟩]) (ah x (c++ [⟨e.n,false⟩]) s).2
   exact (h1.trans h2).trans av
  rw[if_neg h26]
  by_cases h2:e.args.length=2
  ·rw[if_pos h2]
   obtain ⟨x,y,hx⟩:=gH h2
   rw[ar (x:=x) (i:=0) (by rw[hx];rfl),ar (x:=y) (i:=1) (by rw[hx];rfl)]
   exact (((ih' x (by rw[hx];simp) c s).trans (ih' y (by rw[hx];simp) c _)).trans av)
  ·rw[if_neg h2]
   obtain ⟨x,hx⟩:∃x,e.args=[x]:=by
    by_cases h5:e.op=5\/e.op=6
    ·exact br hp1 (by omega)
    ·obtain ⟨x,y,hx⟩:=aQ hp1 (by omega)
     rw[hx] at h2
     exact absurd rfl h2
   rw[ar (x:=x) (i:=0) (by rw[hx];rfl)]
   exact ((ih' x (by rw[hx];simp) c s).trans av)
theorem io {f:Fl} {s:Mk} (h:f.wires<+:s.wires) {n:Int} (hn:ak f.fm n):bY s n (ag f.fm n) (aa f.fm n):=by
 refine' zq77
 refine ⟨m,rfl,lH h ?_⟩
 unfold ag aa
 rw[bW (f:=f.fm) hx]
 exact hx
theorem cY.wat {f:Fl} {e:Ex} {s:Mk} {n:Int} {c:List Gd} (h:cY f e s n c):bY s n (am f e) c:=((kX f e s n c).1 h).1
theorem xz {S:Mk} {n x t:Int} {c:List Gd} (h:iQ S n x c) (g:bY S x t c):bY S n t c:=by
 obtain ⟨k,ty,h1,h2,_⟩:=h
 obtain ⟨m,e1,q1⟩:=h2
 obtain ⟨m',e2,q2⟩:=g
 obtain rfl:m=m':=by omega
 rw[q1] at q2
 injection q2 with q2
 injection q2 with q2
 rw[<-q2];exact h1
theorem mW {f:Fl} (e:Ex):aO f e->∀(c:List Gd) (s:Mk),aE f e c->am f e≠0->f.wires<+:s.wires->NK s->(ah e c s).2.spent=false->cY f e (ah e c s).2 (ah e c s).1 c/\NK (ah e c s).2:=by
 induction e using Ex.ind with
 |h e ih=>
  intro hp c s hg hk hw hn hsp
  obtain ⟨hp1,hp2⟩:=bq.1 hp
  have hs:s.spent=false:=(iF e hp c s).sp hsp
  have hns:¬s.spent=true:=by rw[hs];decide
  have ih':∀(i:Nat) x,e.args[i]? =some x->∀s',cO s s'->NK s'->(ah x (aA e c i) s').2.spent=false->e.op≠3->cY f x (ah x (aA e c i) s').2 (ah x (aA e c i) s').1 (aA e c i)/\NK (ah x (aA e c i) s').2:=fun i x hi s' hE hk' hs' h3=>
   ih x (List.mem_of_getElem? hi) (hp2 x (List.mem_of_getElem? hi)) _ s' (((bL h3).1 hg).2.2 i x hi) (ny hk x (List.mem_of_getElem? hi)) (hw.trans hE.w) hk' hs'
  have ex:∀x∈e.args,∀c s',cO s' (ah x c s').2:=fun x hx c s'=>iF x (hp2 x hx) c s'
  rw[kX]
  unfold tu
  dsimp only
  rw[cQ,eh] at hsp⊢
  dsimp only at hsp⊢
  rw[if_neg hns] at hsp⊢
  by_cases h3:e.op=3
  ·simp only[if_pos h3] at hsp⊢
   have hww:=cC hp1 (show aJ e.op=true by rw[h3];rfl)
   have hwt:=io hw hww
   rw[(jc h3).1 hg] at hwt
   have hke:am f e=ag f.fm e.n:=by
    rw[dW,eV,if_neg (jg hk),if_neg (by rw[h3];simp),if_neg (by omega),if_neg (by omega),if_pos h3]
   rw[hke]
   exact ⟨⟨hwt,trivial⟩,hn⟩
  simp only[if_neg h3] at hsp⊢
  by_cases h12:e.op=1\/e.op=2
  ·simp only[if_pos h12] at hsp⊢
   have hke:am f e=e.op:=by
    have hnb:aJ e.op=false:=by unfold aJ;rcases h12 with g|g<;>rw[g]<;>rfl
    rw[dW,eV,if_neg (jg hk),if_neg (by rw[hnb];simp)]
    rcases h12 with g|g
    ·rw[if_pos g,g]
    ·rw[if_neg (by omega),if_pos g,g]
   obtain ⟨q1,q2⟩:=cX hsp
   rw[hke]
   exact ⟨⟨q1,q2⟩,hn.put⟩
  simp only[if_neg h12] at hsp⊢
  by_cases h21:e.op=21
  ·simp only[if_pos h21] at hsp⊢
   obtain ⟨x,hx⟩:=br hp1 (by omega)
   have hi0:e.args[0]? =some x:=by rw[hx];rfl
   rw[ar hi0] at hsp⊢
   rw[aS hi0]
   have hpc:∀i,aA e c i=c:=fun i=>by unfold aA;rw[if_neg (by omega),if_neg (by omega)]
   have z1:=(dD).sp hsp
   obtain ⟨p0,k0⟩:=ih' 0 x hi0 s (cO.refl s) hn (by rw[hpc];exact z1) h3
   rw[hpc] at p0 k0
   obtain ⟨w1,w2⟩:=sD k0 p0.wat hsp
   have hke:=(xO hk (.inl h21) hx).1
   have p0':=cY.ext (dD (x:=(ah x c s).1) (k:=0) (c:=c)) x _ _ p0
   rw[hke]
   exact ⟨⟨xz w1 p0'.wat,_,p0',w1⟩,w2⟩
  simp only[if_neg h21] at hsp⊢
  by_cases h22:e.op=22
  ·simp only[if_pos h22] at hsp⊢
   obtain ⟨x,y,hx⟩:=aQ hp1 (by omega)
   have hi0:e.args[0]? =some x:=by rw[hx];rfl
   have hi1:e.args[1]? =some y:=by rw[hx];rfl
   rw[ar hi0,ar hi1] at hsp⊢
   rw[aS hi0,aS hi1]
   have hpc:∀i,aA e c i=c:=fun i=>by unfold aA;rw[if_neg (by omega),if_neg (by omega)]
   have z2:=((bT.trans dD).trans av).sp hsp
   have z1:=(ex y (by rw[hx];simp) c (ah x c s).2).sp z2
   obtain ⟨p0,k0⟩:=ih' 0 x hi0 s (cO.refl s) hn (by rw[hpc];exact z1) h3
   rw[hpc] at p0 k0
   obtain ⟨p1,k1⟩:=ih' 1 y hi1 (ah x c s).2 ((cO.refl s).trans (ex x (by rw[hx];simp) c s)) k0 (by rw[hpc];exact z2) h3
   rw[hpc] at p1 k1
   have zb:=(dD.trans av).sp hsp
   have zw:=av.sp hsp
   obtain ⟨g1,g2⟩:=ju k1 zb
   have p1b:=cY.ext (bT (c:=c)) y _ _ p1
   obtain ⟨w1,w2⟩:=sD g2 p1b.wat zw
   obtain ⟨e1,e2,_⟩:=iY hk (.inl h22) hx
   have p0w:=cY.ext (((ex y (by rw[hx];simp) c (ah x c s).2).trans (bT (c:=c))).trans (dD (x:=(ah y c (ah x c s).2).1) (k:=0) (c:=c))) x _ _ p0
   have hty:=gt p0w.wat
   have q:=cX hsp
   unfold Mk.choose at q⊢
   rw[hty,<-e1] at q
   obtain ⟨q1,q2⟩:=q
   rw[hty,<-e1]
   exact ⟨⟨q1,_,_,_,_,cY.ext av x _ _ p0w,cY.ext (dD.trans av) y _ _ p1b,g1.ext (dD.trans av),w1.ext av,q2⟩,w2.put⟩
  simp only[if_neg h22] at hsp⊢
  by_cases h23:e.op=23
  ·simp only[if_pos h23] at hsp⊢
   obtain ⟨x,y,hx⟩:=aQ hp1 (by omega)
   have hi0:e.args[0]? =some x:=by rw[hx];rfl
   have hi1:e.args[1]? =some y:=by rw[hx];rfl
   rw[ar hi0,ar hi1] at hsp⊢
   rw[aS hi0,aS hi1]
   have hpc:∀i,aA e c i=c:=fun i=>by unfold aA;rw[if_neg (by omega),if_neg (by omega)]
   have z2:=(bT.trans av).sp hsp
   have z1:=(ex y (by rw[hx];simp) c (ah x c s).2).sp z2
   obtain ⟨p0,k0⟩:=ih' 0 x hi0 s (cO.refl s) hn (by rw[hpc];exact z1) h3
   rw[hpc] at p0 k0
   obtain ⟨p1,k1⟩:=ih' 1 y hi1 (ah x c s).2 ((cO.refl s).trans (ex x (by rw[hx];simp) c s)) k0 (by rw[hpc];exact z2) h3
   rw[hpc] at p1 k1
   have zb:=av.sp hsp
   obtain ⟨g1,g2⟩:=ju k1 zb
   have p1b:=cY.ext (bT (c:=c)) y _ _ p1
   obtain ⟨e1,e2,_⟩:=iY hk (.inr (.inl h23)) hx
   have p0w:=cY.ext ((ex y (by rw[hx];simp) c (ah x c s).2).trans (bT (c:=c))) x _ _ p0
   have hty:=gt p0w.wat
   have q:=cX hsp
   unfold Mk.choose at q⊢
   rw[hty,<-e1] at q
   obtain ⟨q1,q2⟩:=q
   rw[hty,<-e1]
   exact ⟨⟨q1,_,_,_,cY.ext av x _ _ p0w,cY.ext av y _ _ p1b,g1.ext av,q2⟩,g2.put⟩
  simp only[if_neg h23] at hsp⊢
  by_cases h27:e.op=27
  ·simp only[if_pos h27] at hsp⊢
   obtain ⟨x,y,z,hx⟩:=eo hp1 h27
   have hi0:e.args[0]? =some x:=by rw[hx];rfl
   have hi1:e.args[1]? =some y:=by rw[hx];rfl
   have hi2:e.args[2]? =some z:=by rw[hx];rfl
   rw[ar hi0,ar hi1,ar hi2] at hsp⊢
   rw[aS hi0,aS hi1,aS hi2]
   have hpc:∀i,aA e c i=c:=fun i=>by unfold aA;rw[if_neg (by omega),if_neg (by omega)]
   have z3:=(av).sp hsp
   have z2:=(ex z (by rw[hx];simp) c (ah y c (ah x c s).2).2).sp z3
   have z1:=(ex y (by rw[hx];simp) c (ah x c s).2).sp z2
   obtain ⟨p0,k0⟩:=ih' 0 x hi0 s (cO.refl s) hn (by rw[hpc];exact z1) h3
   rw[hpc] at p0 k0
   obtain ⟨p1,k1⟩:=ih' 1 y hi1 (ah x c s).2 ((cO.refl s).trans (ex x (by rw[hx];simp) c s)) k0 (by rw[hpc];exact z2) h3
   rw[hpc] at p1 k1
   obtain ⟨p2,k2⟩:=ih' 2 z hi2 (ah y c (ah x c s).2).2 (((cO.refl s).trans (ex x (by rw[hx];simp) c s)).trans (ex y (by rw[hx];simp) c (ah x c s).2)) k1 (by rw[hpc];exact z3) h3
   rw[hpc] at p2 k2
   obtain ⟨e0,e1,e2⟩:=AT hk h27 hx
   have p0z:=cY.ext ((ex y (by rw[hx];simp) c (ah x c s).2).trans (ex z (by rw[hx];simp) c (ah y c (ah x c s).2).2)) x _ _ p0
   have p1b:=cY.ext (ex z (by rw[hx];simp) c (ah y c (ah x c s).2).2) y _ _ p1
   have hty:=gt p1b.wat
   have q:=cX hsp
   unfold Mk.choose at q⊢
   rw[hty,<-e1] at q
   obtain ⟨q1,q2⟩:=q
   rw[hty,<-e1]
   exact ⟨⟨q1,_,_,_,cY.ext av x _ _ p0z,cY.ext av y _ _ p1b,cY.ext av z _ _ p2,q2⟩,k2.put⟩
  simp only[if_neg h27] at hsp⊢
  by_cases h24:e.op=24\/e.op=25
  ·simp only[if_pos h24] at hsp⊢
   obtain ⟨x,hx⟩:=br hp1 (by omega)
   have hi0:e.args[0]? =some x:=by rw[hx];rfl
   rw[ar hi0] at hsp⊢
   rw[aS hi0]
   have hpc:aA e c 0=c.dropLast:=by unfold aA;rw[if_pos h24]
   have z1:=av.sp hsp
   obtain ⟨p0,k0⟩:=ih' 0 x hi0 s (cO.refl s) hn (by rw[hpc];exact z1) h3
   rw[hpc] at p0 k0
   have e1:=(xO hk (.inr h24) hx).1
   have hty:=gt p0.wat
   have q:=cX hsp
   rw[hty,<-e1] at q
   obtain ⟨q1,q2⟩:=q
   rw[hty,<-e1]
   exact ⟨⟨q1,_,cY.ext av x _ _ p0,q2⟩,k0.put⟩
  simp only[if_neg h24] at hsp⊢
  by_cases h26:e.op=26
  ·simp only[if_pos h26] at hsp⊢
   obtain ⟨x,y,hx⟩:=aQ hp1 (by omega)
   have hi0:e.args[0]? =some x:=by rw[hx];rfl
   have hi1:e.args[1]? =some y:=by rw[hx];rfl
   rw[ar hi0,ar hi1] at hsp⊢
   rw[aS hi0,aS hi1]
   have hpc0:aA e c 0=c++ [⟨e.n,false⟩]:=by unfold aA;rw[if_neg (by omega),if_pos h26];rfl
   have hpc1:aA e c 1=c++ [⟨e.n,true⟩]:=by unfold aA;rw[if_neg (by omega),if_pos h26];rfl
   have z2:=av.sp hsp
   have z1:=(ex y (by rw[hx];simp) (c++ [⟨e.n,true⟩]) (ah x (c++ [⟨e.n,false⟩]) s).2).sp z2
   obtain ⟨p0,k0⟩:=ih' 0 x hi0 s (cO.refl s) hn (by rw[hpc0];exact z1) h3
   rw[hpc0] at p0 k0
   obtain ⟨p1,k1⟩:=ih' 1 y hi1 (ah x (c++ [⟨e.n,false⟩]) s).2 (ex x (by rw[hx];simp) _ s) k0 (by rw[hpc1];exact z2) h3
   rw[hpc1] at p1 k1
   obtain ⟨e1,e2,_⟩:=iY hk (.inr (.inr h26)) hx
   have p0w:=cY.ext (ex y (by rw[hx];simp) (c++ [⟨e.n,true⟩]) (ah x (c++ [⟨e.n,false⟩]) s).2) x _ _ p0
   have hty:=gt p0w.wat
   have q:=cX hsp
   rw[hty,<-e1] at q
   obtain ⟨q1,q2⟩:=q
   rw[hty,<-e1]
   exact ⟨⟨q1,_,_,cY.ext av x _ _ p0w,cY.ext av y _ _ p1,q2⟩,k1.put⟩
  simp only[if_neg h26] at hsp⊢
  have hops:=dq hp1
  have hpc:∀i,aA e c i=c:=fun i=>by unfold aA;rw[if_neg (by omega),if_neg (by omega)]
  by_cases h2:e.args.length=2
  ·simp only[if_pos h2] at hsp⊢
   obtain ⟨x,y,hx⟩:=gH h2
   have hi0:e.args[0]? =some x:=by rw[hx];rfl
   have hi1:e.args[1]? =some y:=by rw[hx];rfl
   rw[ar hi0,ar hi1] at hsp⊢
   rw[aS hi0,aS hi1]
   have z2:=av.sp hsp
   have z1:=(ex y (by rw[hx];simp) c (ah x c s).2).sp z2
   obtain ⟨p0,k0⟩:=ih' 0 x hi0 s (cO.refl s) hn (by rw[hpc];exact z1) h3
   rw[hpc] at p0 k0
   obtain ⟨p1,k1⟩:=ih' 1 y hi1 (ah x c s).2 (ex x (by rw[hx];simp) _ s) k0 (by rw[hpc];exact z2) h3
   rw[hpc] at p1 k1
   have ho:7<=e.op/\e.op<=20:=by
    by_cases h5:e.op=5\/e.op=6
    ·obtain ⟨x',hx'⟩:=br hp1 (by omega)
     rw[hx'] at h2;simp at h2
    ·omega
   have e1:=(vU hk ho hx).1
   obtain ⟨q1,q2⟩:=cX hsp
   rw[e1]
   exact ⟨⟨q1,_,_,cY.ext ((ex y (by rw[hx];simp) c (ah x c s).2).trans av) x _ _ p0,cY.ext av y _ _ p1,q2⟩,k1.put⟩
  ·simp only[if_neg h2] at hsp⊢
   obtain ⟨x,hx⟩:∃x,e.args=[x]:=by
    by_cases h5:e.op=5\/e.op=6
    ·exact br hp1 (by omega)
    ·obtain ⟨x,y,hx⟩:=aQ hp1 (by omega)
     rw[hx] at h2
     exact absurd rfl h2
   have hi0:e.args[0]? =some x:=by rw[hx];rfl
   rw[ar hi0] at hsp⊢
   rw[aS hi0]
   have z1:=av.sp hsp
   obtain ⟨p0,k0⟩:=ih' 0 x hi0 s (cO.refl s) hn (by rw[hpc];exact z1) h3
   rw[hpc] at p0 k0
   have ho:e.op=5\/e.op=6:=by
    by_cases h5:e.op=5\/e.op=6
    ·exact h5
    ·obtain ⟨x',y',hx'⟩:=aQ hp1 (by omega)
     rw[hx'] at hx;simp at hx
   have e1:=(Bb hk ho hx).1
   obtain ⟨q1,q2⟩:=cX hsp
   rw[e1]
   exact ⟨⟨q1,_,cY.ext av x _ _ p0,q2⟩,k0.put⟩
structure CN (f:Fl) (s:Mk) (k:Nat):Prop where
 pre:f.wires<+:s.wires
 nk:NK s
 defs:∀(j:Nat) d,j<k->f.defs[j]? =some d->∃n,cY f d.2 s n (aa f.fm d.1)/\(⟨3,d.1,n,0,0,0⟩:Ac)∈s.acts
theorem oO {f:Fl} (s:Mk) (d:Int × Ex) (hp:aO f d.2):cO s (js f s d):=(iF d.2 hp _ s).trans gK
theorem oL {f:Fl} (h:∀d∈f.defs,aO f d.2/\aE f d.2 (aa f.fm d.1)/\am f d.2≠0):∀k,k<=f.defs.length->(bv f k).spent=false->CN f (bv f k) k:=by
 intro k
 induction k with
 |zero=>exact fun _ _=>⟨List.prefix_refl _,⟨rfl,fun p hp=>by cases hp⟩,fun j d hj=>absurd hj (by omega)⟩
 |succ k ih=>
  intro hk hs
  have hd:=List.getElem?_eq_getElem (show k<f.defs.length by omega)
  rw[gm hd] at hs⊢
  obtain ⟨q1,q2,q3⟩:=h _ (List.getElem_mem (show k<f.defs.length by omega))
  have hE:=oO (bv f k) f.defs[k] q1
  have g:=ih (by omega) (hE.sp hs)
  obtain ⟨a1,a2⟩:=mW f.defs[k].2 q1 _ (bv f k) q2 q3 g.pre g.nk hs
  refine ⟨g.pre.trans hE.w,⟨a2.kc,fun p hp=>(a2.fst p hp).ext gK⟩,fun j d hj hdj=>?_⟩
  rcases Nat.lt_succ_iff_lt_or_eq.1 hj with hj|rfl
  ·obtain ⟨n,b1,b2⟩:=g.defs j d hj hdj
   exact ⟨n,cY.ext hE d.2 _ _ b1,hE.mem b2⟩
  ·rw[hd] at hdj
   injection hdj with hdj
   subst hdj
   exact ⟨_,cY.ext gK _ _ _ a1,by simp[js,Mk.act]⟩
def eJ (f:Fl) (c:List Gd):Prop:=∀(i:Nat) g,c[i]? =some g->ak f.fm g.wire/\ag f.fm g.wire=2/\aa f.fm g.wire=c.take i
def WO (f:Fl) (s:Mk):Prop:=∀w∈s.wires,(w.ty=1\/w.ty=2)/\eJ f w.clock
section
variable {f:Fl} {c:List Gd} {s:Mk} {ty n x:Int}
theorem eJ.drop (h:eJ f c):eJ f c.dropLast:=fun i g hg=>by
 have hi:=(List.getElem?_eq_some_iff.1 hg).1
 rw[List.length_dropLast] at hi
 rw[List.dropLast_eq_take,List.getElem?_take_of_lt (by omega)] at hg
 obtain ⟨q1,q2,q3⟩:=h i g hg
 refine ⟨q1,q2,?_⟩
 rw[q3,List.dropLast_eq_take,List.take_take,Nat.min_eq_left (by omega)]
theorem eJ.snoc (h:eJ f c) {n:Int} {b:Bool} (hw:ak f.fm n) (ht:ag f.fm n=2) (hc:aa f.fm n=c):eJ f (c++ [⟨n,b⟩]):=fun i g hg=>by
 by_cases hi:i<c.length
 ·rw[List.getElem?_append_left hi] at hg
  obtain ⟨q1,q2,q3⟩:=h i g hg
  exact ⟨q1,q2,by rw[q3,List.take_append_of_le_length (by omega)]⟩
 ·have hi2:=(List.getElem?_eq_some_iff.1 hg).1
  simp at hi2
  obtain rfl:i=c.length:=by omega
  simp at hg
  subst hg
  exact ⟨hw,ht,by rw[hc];simp⟩
theorem WO.wire (h:WO f s) (ht:ty=1\/ty=2) (hc:eJ f c):WO f (s.wire ty c).2:=by
 unfold Mk.wire
 split
 ·exact h
 ·intro w hw
  rcases List.mem_append.1 hw with hw|hw
  ·exact h w hw
  ·rw[List.mem_singleton.1 hw];exact ⟨ht,hc⟩
theorem WO.put {a:Ac} (h:WO f s) (ht:ty=1\/ty=2) (hc:eJ f c):WO f (s.put ty c a).2:=h.wire ht hc
end
inductive gC (S:Mk):Ac->Prop where
 |int (n k:Int) (c:List Gd) (h:bY S n 1 c):gC S ⟨1,n,0,0,0,k⟩
 |bool (n k:Int) (c:List Gd) (h:bY S n 2 c) (hk:k=0\/k=1):gC S ⟨2,n,0,0,0,k⟩
 |cell (n k ty v m:Int) (c:List Gd) (h:bY S n ty c) (hm:bY S m ty c) (hk:nH S k ty v m):gC S ⟨21,n,0,0,0,k⟩
 |down (n a ty:Int) (c:List Gd) (g:Gd) (h:bY S n ty (c++ [g])) (ha:bY S a ty c):gC S ⟨24,n,a,0,0,0⟩
 |join (n a b d ty:Int) (c:List Gd) (h:bY S n ty c) (ha:bY S a 2 c) (hb:bY S b ty (c++ [⟨a,false⟩])) (hd:bY S d ty (c++ [⟨a,true⟩])):gC S ⟨26,n,a,b,d,0⟩
 |same (n a ty:Int) (c:List Gd) (h:bY S n ty c) (ha:bY S a ty c):gC S ⟨3,n,a,0,0,0⟩
 |cho (n a b d ty:Int) (c:List Gd) (h:bY S n ty c) (ha:bY S a 2 c) (hb:bY S b ty c) (hd:bY S d ty c):gC S ⟨27,n,a,b,d,0⟩
 |un (op n a:Int) (c:List Gd) (ho:op=5\/op=6) (h:bY S n (cj op) c) (ha:bY S a (signIn op) c):gC S ⟨op,n,a,0,0,0⟩
 |bin (op n a b ty:Int) (c:List Gd) (ho:7<=op/\op<=20) (h:bY S n (cj op) c) (ha:bY S a ty c) (hb:bY S b ty c) (hs:signIn op=0\/ty=signIn op):gC S ⟨op,n,a,b,0,0⟩
structure NV0 (f:Fl) (D:List Int) (s:Mk):Prop where
 pre:f.wires<+:s.wires
 one:1<=f.wires.length
 le:s.wires.length<=1600
 wo:WO f s
 dl:∀d∈D,d<f.wires.length
 nd:(s.acts.map (·.dst)).Nodup
 mem:∀n:Int,n∈s.acts.map (·.dst)↔((f.wires.length:Int)<=n/\n<s.wires.length)\/n∈D
 lt:∀a∈s.acts,(f.wires.length:Int)<=a.dst->∀m∈wants a,m<a.dst
structure NV (f:Fl) (D:List Int) (s:Mk):Prop extends NV0 f D s where
 cl:s.cells.length<=60
 kc:s.keeps.length=s.cells.length
 ki:∀(i:Nat) k n,s.keeps[i]? =some (k,n)->k=i/\∃ty v c,s.cells[i]? =some (ty,v)/\bY s n ty c
 vo:∀c∈s.cells,bN c.1 c.2
 act:∀a∈s.acts,gC s a
section
variable {f:Fl} {D:List Int} {S R s:Mk} {ty n x v k:Int} {c:List Gd} {a:Ac}
theorem gC.ext (hE:cO S R) (h:gC S a):gC R a:=by
 cases h with
 |int n k c h=>exact .int n k c (h.ext hE)
 |bool n k c h hk=>exact .bool n k c (h.ext hE) hk
 |cell n k ty v m c h hm hk=>exact .cell n k ty v m c (h.ext hE) (hm.ext hE) (hk.ext hE)
 |down n a ty c g h ha=>exact .down n a ty c g (h.ext hE) (ha.ext hE)
 |join n a b d ty c h ha hb hd=>exact .join n a b d ty c (h.ext hE) (ha.ext hE) (hb.ext hE) (hd.ext hE)
 |same n a ty c h ha=>exact .same n a ty c (h.ext hE) (ha.ext hE)
 |cho n a b d ty c h ha hb hd=>exact .cho n a b d ty c (h.ext hE) (ha.ext hE) (hb.ext hE) (hd.ext hE)
 |un op n a c ho h ha=>exact .un op n a c ho (h.ext hE) (ha.ext hE)
 |bin op n a b ty c ho h ha hb hs=>exact .bin op n a b ty c ho (h.ext hE) (ha.ext hE) (hb.ext hE) hs
theorem bY.lt (h:bY s n ty c):n<s.wires.length:=by
 obtain ⟨m,rfl,hm⟩:=h
 have:=(List.getElem?_eq_some_iff.1 hm).1
 omega
theorem bY.wo (h:bY s n ty c) (g:WO f s):(ty=1\/ty=2)/\eJ f c:=by
 obtain ⟨m,rfl,hm⟩:=h
 exact g _ (List.mem_of_getElem? hm)
theorem yQ {B:Int} (ha:a.a<B) (hb:a.b<B) (hc:a.c<B):∀m∈wants a,m<B:=by
 intro m hm
 unfold wants at hm
 repeat' split at hm
 all_goals simp at hm
 all_goals omega
theorem BM (h:(s.put ty c a).2.spent=false):s.put ty c a=((s.wires.length:Int),{s with wires:=s.wires++ [⟨ty,c⟩],acts:=s.acts++ [{a with dst:=(s.wires.length:Int)}]})/\s.wires.length<1600:=by
 have h':(s.wire ty c).2.spent=false:=h
 unfold Mk.wire at h'
 split at h'
 ·cases h'
 ·rename_i hn
  refine ⟨?_,by omega⟩
  unfold Mk.put Mk.wire Mk.act
  rw[if_neg hn]
theorem na:(s.put ty c a).2.acts=s.acts++ [{a with dst:=(s.put ty c a).1}]:=by
 unfold Mk.put Mk.wire Mk.act
 dsimp only
 split<;>rfl
theorem rz (h:(s.cell ty v).2.spent=false):s.cell ty v=((s.cells.length:Int),{s with cells:=s.cells++ [(ty,v)]})/\s.cells.length<60:=by
 unfold Mk.cell at h⊢
 split at h
 ·cases h
 ·rename_i hn
  rw[if_neg hn]
  exact ⟨rfl,by omega⟩
theorem NV0.frame (h:NV0 f D s) (hw:R.wires=s.wires) (ha:R.acts=s.acts):NV0 f D R:=
 ⟨by rw[hw];exact h.pre,h.one,by rw[hw];exact h.le,by unfold WO;rw[hw];exact h.wo,h.dl,by rw[ha];exact h.nd,by rw[ha,hw];exact h.mem,by rw[ha];exact h.lt⟩
theorem NV0.put (h:NV0 f D s) (ht:ty=1\/ty=2) (hc:eJ f c) (hw:a.a<s.wires.length/\a.b<s.wires.length/\a.c<s.wires.length) (hsp:(s.put ty c a).2.spent=false):NV0 f D (s.put ty c a).2:=by
 obtain ⟨e,hl⟩:=BM hsp
 have hx:=(av:cO s (s.put ty c a).2)
 have hwo:=h.wo.put (a:=a) ht hc
 have hpl:=h.pre.length_le
 have hwl:=yQ (B:=s.wires.length) hw.1 hw.2.1 hw.2.2
 rw[e] at hx hwo⊢
 refine ⟨h.pre.trans hx.w,h.one,by simp;omega,hwo,h.dl,?_,fun n=>?_,?_⟩
 ·dsimp only
  rw[List.map_append,List.nodup_append]
  refine ⟨h.nd,by simp,fun x hx y hy=>?_⟩
  simp at hy
  subst hy
  intro e
  rcases (h.mem x).1 hx with q|q
  ·omega
  ·have:=h.dl x q
   omega
 ·dsimp only
  rw[List.map_append,List.mem_append,h.mem]
  simp only[List.map_cons,List.map_nil,List.mem_singleton,List.length_append,List.length_singleton]
  constructor
  ·rintro ((q|q)|q)
   ·exact .inl (by omega)
   ·exact .inr q
   ·exact .inl (by omega)
  ·rintro (q|q)
   ·by_cases hn:n=s.wires.length
    ·exact .inr hn
    ·exact .inl (.inl (by omega))
   ·exact .inl (.inr q)
 ·intro x hx
  rcases List.mem_append.1 hx with hx|hx
  ·exact h.lt x hx
  ·rw[List.mem_singleton.1 hx]
   exact fun _ m hm=>hwl m hm
theorem NV.put (h:NV f D s) (ht:ty=1\/ty=2) (hc:eJ f c) (hw:a.a<s.wires.length/\a.b<s.wires.length/\a.c<s.wires.length) (hsp:(s.put ty c a).2.spent=false)
  (hA:gC (s.put ty c a).2 {a with dst:=(s.put ty c a).1}):NV f D (s.put ty c a).2:=by
 have h0:=h.toNV0.put (a:=a) ht hc hw hsp
 have hx:=(av:cO s (s.put ty c a).2)
 obtain ⟨q1,q2,q3⟩:=jL (s:=s) (ty:=ty) (c:=c) (a:=a)
 refine ⟨h0,by rw[q1];exact h.cl,by rw[q1,q2];exact h.kc,fun i k n hk=>?_,by rw[q1];exact h.vo,fun x hx'=>?_⟩
 ·rw[q2] at hk
  obtain ⟨r1,ty',v',c',r2,r3⟩:=h.ki i k n hk
  exact ⟨r1,ty',v',c',by rw[q1];exact r2,r3.ext hx⟩
 ·rw[na] at hx'
  rcases List.mem_append.1 hx' with hx'|hx'
  ·exact (h.act x hx').ext hx
  ·rw[List.mem_singleton.1 hx']
   exact hA
theorem NV.was (h:NV f D s) (hx:bY s x ty c) (hsp:(s.was x 0 c).2.spent=false):NV f D (s.was x 0 c).2:=by
 obtain ⟨ht,hc⟩:=hx.wo h.wo
 have hty:=gt hx
 unfold Mk.was at hsp⊢
 rw[hty] at hsp⊢
 have h1:(s.cell ty 0).2.spent=false:=(ji.trans (av (s:=(s.cell ty 0).2.keep (s.cell ty 0).1 x))).sp hsp
 obtain ⟨e,hl⟩:=rz h1
 have hE1:cO s ((s.cell ty 0).2.keep (s.cell ty 0).1 x):=kd.trans ji
 have hA:=cX hsp
 have hE2:=(av (s:=(s.cell ty 0).2.keep (s.cell ty 0).1 x) (ty:=ty) (c:=c) (a:=⟨21,0,0,0,0,(s.cell ty 0).1⟩))
 have hx':=hx.ext hE1
 have hk:nH ((s.cell ty 0).2.keep (s.cell ty 0).1 x) (s.cell ty 0).1 ty 0 x:=by
  rw[e]
  exact ⟨s.cells.length,rfl,by simp[Mk.keep],by simp[Mk.keep,<-h.kc]⟩
 have hN:NV f D ((s.cell ty 0).2.keep (s.cell ty 0).1 x):=by
  have hE3:=hE1
  rw[e] at hE3⊢
  refine ⟨h.toNV0.frame rfl rfl,by simp[Mk.keep];omega,by simp[Mk.keep,h.kc],fun i k n hk=>?_,fun y hy=>?_,fun y hy=>(h.act y hy).ext hE3⟩
  ·by_cases hi:i<s.keeps.length
   ·simp only[Mk.keep] at hk
    rw[List.getElem?_append_left hi] at hk
    obtain ⟨r1,ty',v',c',r2,r3⟩:=h.ki i k n hk
    exact ⟨r1,ty',v',c',by simp only[Mk.keep];rw[List.getElem?_append_left (by rw[<-h.kc];exact hi)];exact r2,r3.ext hE3⟩
   ·have hi2:=(List.getElem?_eq_some_iff.1 hk).1
    simp[Mk.keep] at hi2
    obtain rfl:i=s.keeps.length:=by omega
    simp[Mk.keep] at hk
    obtain ⟨rfl,rfl⟩:=hk
    exact ⟨by rw[h.kc],ty,0,c,by simp[Mk.keep,h.kc],hx.ext hE3⟩
  ·rcases List.mem_append.1 hy with hy|hy
   ·exact h.vo y hy
   ·rw[List.mem_singleton.1 hy]
    rcases ht with ht|ht
    ·exact .inl ht
    ·exact .inr ⟨ht,.inl rfl⟩
 have hone:(0:Int)<((s.cell ty 0).2.keep (s.cell ty 0).1 x).wires.length:=by
  have:=hN.pre.length_le
  have:=hN.one
  omega
 exact hN.put ht hc ⟨hone,hone,hone⟩ hsp (.cell _ _ ty 0 x c hA.1 (hx'.ext hE2) (hk.ext hE2))
theorem NV.begins (h:NV f D s) (hc:eJ f c) (hsp:(s.begins c).2.spent=false):NV f D (s.begins c).2:=by
 have hE:=bT (s:=s) (c:=c)
 unfold Mk.begins at hsp hE⊢
 split
 ·exact h
 rename_i hw
 rw[hw] at hsp hE
 dsimp only at hsp hE⊢
 have ht:(((s.cell 2 1).2.put 2 c ⟨21,0,0,0,0,(s.cell 2 1).1⟩).2.put 2 c ⟨2,0,0,0,0,0⟩).2.spent=false:=hsp
 have hw1:=av.sp ht
 have hc1:=av.sp hw1
 obtain ⟨e,hl⟩:=rz hc1
 have h0:NV0 f D (s.cell 2 1).2:=by rw[e];exact h.toNV0.frame rfl rfl
 have hone:(0:Int)<(s.cell 2 1).2.wires.length:=by
  have:=h0.pre.length_le
  have:=h0.one
  omega
 have h1:=h0.put (a:=⟨21,0,0,0,0,(s.cell 2 1).1⟩) (.inr rfl) hc ⟨hone,hone,hone⟩ hw1
 have hone1:(0:Int)<((s.cell 2 1).2.put 2 c ⟨21,0,0,0,0,(s.cell 2 1).1⟩).2.wires.length:=by
  have:=h1.pre.length_le
  have:=h1.one
  omega
 have h2:=h1.put (a:=⟨2,0,0,0,0,0⟩) (.inr rfl) hc ⟨hone1,hone1,hone1⟩ ht
 obtain ⟨p1,_⟩:=cX hw1
 obtain ⟨u1,_⟩:=cX ht
 refine' zq156
 have ha1:((s.cell 2 1).2.put 2 c ⟨21,0,0,0,0,(s.cell 2 1).1⟩).2.acts=s.acts++ [⟨21,((s.cell 2 1).2.put 2 c ⟨21,0,0,0,0,(s.cell 2 1).1⟩).1,0,0,0,(s.cell 2 1).1⟩]:=by
  rw[show s.acts=(s.cell 2 1).2.acts by rw[e]];exact na
 have ha2:(((s.cell 2 1).2.put 2 c ⟨21,0,0,0,0,(s.cell 2 1).1⟩).2.put 2 c ⟨2,0,0,0,0,0⟩).2.acts=((s.cell 2 1).2.put 2 c ⟨21,0,0,0,0,(s.cell 2 1).1⟩).2.acts++ [⟨2,(((s.cell 2 1).2.put 2 c ⟨21,0,0,0,0,(s.cell 2 1).1⟩).2.put 2 c ⟨2,0,0,0,0,0⟩).1,0,0,0,0⟩]:=na
 have hcell:(s.cell 2 1).2.cells=s.cells++ [(2,1)]:=by rw[e]
 have hkeep:(s.cell 2 1).2.keeps=s.keeps:=by rw[e]
 have hn1:(s.cell 2 1).1=(s.cells.length:Int):=by rw[e]
 clear hw1 ht hsp e hc1 hone hone1 h0 h1
 generalize (s.cell 2 1).2.put 2 c ⟨21,0,0,0,0,(s.cell 2 1).1⟩=W at*
 generalize W.2.put 2 c ⟨2,0,0,0,0,0⟩=T at*
 have hx2:cO W.2 {T.2.keep (s.cell 2 1).1 T.1 with first:=(c,W.1)::T.2.first}:=⟨hx.w,hx.a,hx.c,hx.k.trans (List.prefix_append _ _),hx.sp⟩
 have hct:T.2.cells=s.cells++ [(2,1)]:=by rw[v1,q1,hcell]
 have hkt:T.2.keeps=s.keeps:=by rw[v2,q2,hkeep]
 have hk:nH {T.2.keep (s.cell 2 1).1 T.1 with first:=(c,W.1)::T.2.first} (s.cell 2 1).1 2 1 T.1:=by
  refine ⟨s.cells.length,hn1,?_,?_⟩
  ·show T.2.cells[_]? =_
   rw[hct];simp
  ·show (T.2.keeps++ [((s.cell 2 1).1,T.1)])[_]? =_
   rw[hkt,hn1,<-h.kc];simp
 refine ⟨h2.frame rfl rfl,?_,?_,fun i k n hk'=>?_,fun y hy=>?_,fun y hy=>?_⟩
 ·show T.2.cells.length<=60
  rw[hct];simp;omega
 ·show (T.2.keeps++ [((s.cell 2 1).1,T.1)]).length=T.2.cells.length
  rw[hct,hkt];simp[h.kc]
 ·have hk2:(T.2.keeps++ [((s.cell 2 1).1,T.1)])[i]? =some (k,n):=hk'
  rw[hkt] at hk2
  by_cases hi:i<s.keeps.length
  ·rw[List.getElem?_append_left hi] at hk2
   obtain ⟨r1,ty',v',c',r2,r3⟩:=h.ki i k n hk2
   exact ⟨r1,ty',v',c',by show T.2.cells[i]? =_;rw[hct,List.getElem?_append_left (by rw[<-h.kc];exact hi)];exact r2,r3.ext hE⟩
  ·have hi2:=(List.getElem?_eq_some_iff.1 hk2).1
   simp at hi2
   obtain rfl:i=s.keeps.length:=by omega
   simp at hk2
   obtain ⟨rfl,rfl⟩:=hk2
   exact ⟨by rw[h.kc];exact hn1,2,1,c,by show T.2.cells[_]? =_;rw[hct,h.kc];simp,u1⟩
 ·have hy2:y∈T.2.cells:=hy
  rw[hct] at hy2
  rcases List.mem_append.1 hy2 with hy2|hy2
  ·exact h.vo y hy2
  ·rw[List.mem_singleton.1 hy2]
   exact .inr ⟨rfl,.inr rfl⟩
 ·have hy2:y∈T.2.acts:=hy
  rw[ha2,ha1] at hy2
  simp only[List.mem_append,List.mem_singleton] at hy2
  rcases hy2 with (hy2|hy2)|hy2
  ·exact (h.act y hy2).ext hE
  ·rw[hy2]
   exact .cell _ _ 2 1 T.1 c (p1.ext hx2) u1 hk
  ·rw[hy2]
   exact .bool _ _ c u1 (.inl rfl)
end
theorem Dt {f:Fl} {e:Ex} {c:List Gd} (hp:bJ f e) (hg:aE f e c) (hk:am f e≠0) (h3:e.op≠3) (hc:eJ f c) (i:Nat):eJ f (aA e c i):=by
 unfold aA
 split
 ·exact hc.drop
 split
 ·rename_i h26
  obtain ⟨x,y,hx⟩:=aQ hp (by omega)
  obtain ⟨_,_,ht⟩:=iY hk (.inr (.inr h26)) hx
  exact hc.snoc (cC hp (dK.2 (by omega))) (ht h26) (((bL h3).1 hg).2.1 h26)
 ·exact hc
theorem za {f:Fl} {D:List Int} (e:Ex):aO f e->∀(c:List Gd) (s:Mk),aE f e c->am f e≠0->eJ f c->NV f D s->NK s->(ah e c s).2.spent=false->NV f D (ah e c s).2:=by
 induction e using Ex.ind with
 |h e ih=>
  intro hp c s hg hk hc hv hn hsp
  obtain ⟨hp1,hp2⟩:=bq.1 hp
  have hs:s.spent=false:=(iF e hp c s).sp hsp
  have hns:¬s.spent=true:=by rw[hs];decide
  have ih':∀(i:Nat) x,e.args[i]? =some x->∀s',NV f D s'->NK s'->(ah x (aA e c i) s').2.spent=false->e.op≠3->NV f D (ah x (aA e c i) s').2/\bY (ah x (aA e c i) s').2 (ah x (aA e c i) s').1 (am f x) (aA e c i)/\NK (ah x (aA e c i) s').2:=fun i x hi s' hv' hk' hs' h3=>by
   have hm:=List.mem_of_getElem? hi
   have hgx:=((bL h3).1 hg).2.2 i x hi
   obtain ⟨r1,r2⟩:=mW x (hp2 x hm) _ s' hgx (ny hk x hm) hv'.pre hk' hs'
   exact ⟨ih x hm (hp2 x hm) _ s' hgx (ny hk x hm) (Dt hp1 hg hk h3 hc i) hv' hk' hs',r1.wat,r2⟩
  have ex:∀x∈e.args,∀c s',cO s' (ah x c s').2:=fun x hx c s'=>iF x (hp2 x hx) c s'
  rw[cQ,eh] at hsp⊢
  dsimp only at hsp⊢
  rw[if_neg hns] at hsp⊢
  by_cases h3:e.op=3
  ·rw[if_pos h3];exact hv
  rw[if_neg h3] at hsp⊢
  have one:∀{S:Mk},NV f D S->(0:Int)<S.wires.length:=fun {S} h=>by
   have:=h.pre.length_le
   have:=h.one
   omega
  by_cases h12:e.op=1\/e.op=2
  ·rw[if_pos h12] at hsp⊢
   have ho:=one hv
   refine hv.put h12 hc ⟨ho,ho,ho⟩ hsp ?_
   obtain ⟨q1,_⟩:=cX hsp
   have h4:=hp1.2.2.2
   rw[if_neg (by rw[dK];omega)] at h4
   rcases h12 with g|g
   ·rw[g] at q1⊢
    exact .int _ _ c q1
   ·rw[if_neg (by omega),if_pos g] at h4
    rw[g] at q1⊢
    exact .bool _ _ c q1 h4
  rw[if_neg h12] at hsp⊢
  by_cases h21:e.op=21
  ·rw[if_pos h21] at hsp⊢
   obtain ⟨x,hx⟩:=br hp1 (by omega)
   have hi0:e.args[0]? =some x:=by rw[hx];rfl
   rw[ar hi0] at hsp⊢
   have hpc:∀i,aA e c i=c:=fun i=>by unfold aA;rw[if_neg (by omega),if_neg (by omega)]
   have z1:=(dD).sp hsp
   obtain ⟨v0,p0,k0⟩:=ih' 0 x hi0 s hv hn (by rw[hpc];exact z1) h3
   rw[hpc] at v0 p0 k0
   exact v0.was p0 hsp
  rw[if_neg h21] at hsp⊢
  by_cases h22:e.op=22
  ·rw[if_pos h22] at hsp⊢
   obtain ⟨x,y,hx⟩:=aQ hp1 (by omega)
   have hi0:e.args[0]? =some x:=by rw[hx];rfl
   have hi1:e.args[1]? =some y:=by rw[hx];rfl
   rw[ar hi0,ar hi1] at hsp⊢
   have hpc:∀i,aA e c i=c:=fun i=>by unfold aA;rw[if_neg (by omega),if_neg (by omega)]
   have z2:=((bT.trans dD).trans av).sp hsp
   have z1:=(ex y (by rw[hx];simp) c (ah x c s).2).sp z2
   obtain ⟨v0,p0,k0⟩:=ih' 0 x hi0 s hv hn (by rw[hpc];exact z1) h3
   rw[hpc] at v0 p0 k0
   obtain ⟨v1,p1,k1⟩:=ih' 1 y hi1 (ah x c s).2 v0 k0 (by rw[hpc];exact z2) h3
   rw[hpc] at v1 p1 k1
   have zb:=(dD.trans av).sp hsp
   have zw:=av.sp hsp
   obtain ⟨g1,g2⟩:=ju k1 zb
   have p1b:=bY.ext (bT (c:=c)) p1
   obtain ⟨w1,w2⟩:=sD g2 p1b zw
   have w3:=(v1.begins hc zb).was p1b zw
   obtain ⟨e1,e2,_⟩:=iY hk (.inl h22) hx
   have p0w:=bY.ext (((ex y (by rw[hx];simp) c (ah x c s).2).trans (bT (c:=c))).trans (dD (x:=(ah y c (ah x c s).2).1) (k:=0) (c:=c))) p0
   have hty:=gt p0w
   have w4:=xz w1 (p1b.ext dD)
   rw[e2] at w4
   obtain ⟨_,_,g3,_⟩:=g1.ext (dD (x:=(ah y c (ah x c s).2).1) (k:=0) (c:=c))
   unfold Mk.choose at hsp⊢
   rw[hty] at hsp⊢
   refine w3.put (p0w.wo w3.wo).1 hc ⟨g3.lt,p0w.lt,w4.lt⟩ hsp ?_
   exact .cho _ _ _ _ (am f x) c (cX hsp).1 (g3.ext av) (p0w.ext av) (w4.ext av)
  rw[if_neg h22] at hsp⊢
  by_cases h23:e.op=23
  ·rw[if_pos h23] at hsp⊢
   obtain ⟨x,y,hx⟩:=aQ hp1 (by omega)
   have hi0:e.args[0]? =some x:=by rw[hx];rfl
   have hi1:e.args[1]? =some y:=by rw[hx];rfl
   rw[ar hi0,ar hi1] at hsp⊢
   have hpc:∀i,aA e c i=c:=fun i=>by unfold aA;rw[if_neg (by omega),if_neg (by omega)]
   have z2:=(bT.trans av).sp hsp
   have z1:=(ex y (by rw[hx];simp) c (ah x c s).2).sp z2
   obtain ⟨v0,p0,k0⟩:=ih' 0 x hi0 s hv hn (by rw[hpc];exact z1) h3
   rw[hpc] at v0 p0 k0
   obtain ⟨v1,p1,k1⟩:=ih' 1 y hi1 (ah x c s).2 v0 k0 (by rw[hpc];exact z2) h3
   rw[hpc] at v1 p1 k1
   have zb:=av.sp hsp
   obtain ⟨g1,g2⟩:=ju k1 zb
   have p1b:=bY.ext (bT (c:=c)) p1
   have w3:=v1.begins hc zb
   obtain ⟨e1,e2,_⟩:=iY hk (.inr (.inl h23)) hx
   rw[e2] at p1b
   have p0w:=bY.ext ((ex y (by rw[hx];simp) c (ah x c s).2).trans (bT (c:=c))) p0
   have hty:=gt p0w
   obtain ⟨_,_,g3,_⟩:=g1
   unfold Mk.choose at hsp⊢
   rw[hty] at hsp⊢
   refine w3.put (p0w.wo w3.wo).1 hc ⟨g3.lt,p0w.lt,p1b.lt⟩ hsp ?_
   exact .cho _ _ _ _ (am f x) c (cX hsp).1 (g3.ext av) (p0w.ext av) (p1b.ext av)
  rw[if_neg h23] at hsp⊢
  by_cases h27:e.op=27
  ·rw[if_pos h27] at hsp⊢
   obtain ⟨x,y,z,hx⟩:=eo hp1 h27
   have hi0:e.args[0]? =some x:=by rw[hx];rfl
   have hi1:e.args[1]? =some y:=by rw[hx];rfl
   have hi2:e.args[2]? =some z:=by rw[hx];rfl
   rw[ar hi0,ar hi1,ar hi2] at hsp⊢
   have hpc:∀i,aA e c i=c:=fun i=>by unfold aA;rw[if_neg (by omega),if_neg (by omega)]
   have z3:=(av).sp hsp
   have z2:=(ex z (by rw[hx];simp) c (ah y c (ah x c s).2).2).sp z3
   have z1:=(ex y (by rw[hx];simp) c (ah x c s).2).sp z2
   obtain ⟨v0,p0,k0⟩:=ih' 0 x hi0 s hv hn (by rw[hpc];exact z1) h3
   rw[hpc] at v0 p0 k0
   obtain ⟨v1,p1,k1⟩:=ih' 1 y hi1 (ah x c s).2 v0 k0 (by rw[hpc];exact z2) h3
   rw[hpc] at v1 p1 k1
   obtain ⟨v2,p2,k2⟩:=ih' 2 z hi2 (ah y c (ah x c s).2).2 v1 k1 (by rw[hpc];exact z3) h3
   rw[hpc] at v2 p2 k2
   obtain ⟨e0,e1,e2⟩:=AT hk h27 hx
   have p0z:=bY.ext ((ex y (by rw[hx];simp) c (ah x c s).2).trans (ex z (by rw[hx];simp) c (ah y c (ah x c s).2).2)) p0
   have p1b:=bY.ext (ex z (by rw[hx];simp) c (ah y c (ah x c s).2).2) p1
   rw[e0] at p0z
   rw[e2] at p2
   have hty:=gt p1b
   unfold Mk.choose at hsp⊢
   rw[hty] at hsp⊢
   refine v2.put (p1b.wo v2.wo).1 hc ⟨p0z.lt,p1b.lt,p2.lt⟩ hsp ?_
   exact .cho _ _ _ _ (am f y) c (cX hsp).1 (p0z.ext av) (p1b.ext av) (p2.ext av)
  rw[if_neg h27] at hsp⊢
  by_cases h24:e.op=24\/e.op=25
  ·rw[if_pos h24] at hsp⊢
   obtain ⟨x,hx⟩:=br hp1 (by omega)
   have hi0:e.args[0]? =some x:=by rw[hx];rfl
   rw[ar hi0] at hsp⊢
   have hpc:aA e c 0=c.dropLast:=by unfold aA;rw[if_pos h24]
   have z1:=av.sp hsp
   obtain ⟨v0,p0,k0⟩:=ih' 0 x hi0 s hv hn (by rw[hpc];exact z1) h3
   rw[hpc] at v0 p0 k0
   have hty:=gt p0
   have ho:=one v0
   obtain ⟨g,hgc⟩:∃g,c=c.dropLast++ [g]:=by
    have h9:=((bL h3).1 hg).1 h24
    have h8:=List.getLast?_eq_some_iff.1 h9
    obtain ⟨ys,h8⟩:=h8
    refine ⟨⟨e.n,e.op==25⟩,?_⟩
    rw[h8]
    simp
   rw[hty] at hsp⊢
   refine v0.put (p0.wo v0.wo).1 hc ⟨p0.lt,ho,ho⟩ hsp ?_
   have q:=(cX hsp).1
   exact .down _ _ (am f x) c.dropLast g (by rw[<-hgc];exact q) (p0.ext av)
  rw[if_neg h24] at hsp⊢
  by_cases h26:e.op=26
  ·rw[if_pos h26] at hsp⊢
   obtain ⟨x,y,hx⟩:=aQ hp1 (by omega)
   have hi0:e.args[0]? =some x:=by rw[hx];rfl
   have hi1:e.args[1]? =some y:=by rw[hx];rfl
   rw[ar hi0,ar hi1] at hsp⊢
   have hpc0:aA e c 0=c++ [⟨e.n,false⟩]:=by unfold aA;rw[if_neg (by omega),if_pos h26];rfl
   have hpc1:aA e c 1=c++ [⟨e.n,true⟩]:=by unfold aA;rw[if_neg (by omega),if_pos h26];rfl
   have z2:=av.sp hsp
   have z1:=(ex y (by rw[hx];simp) (c++ [⟨e.n,true⟩]) (ah x (c++ [⟨e.n,false⟩]) s).2).sp z2
   obtain ⟨v0,p0,k0⟩:=ih' 0 x hi0 s hv hn (by rw[hpc0];exact z1) h3
   rw[hpc0] at v0 p0 k0
   obtain ⟨v1,p1,k1⟩:=ih' 1 y hi1 (ah x (c++ [⟨e.n,false⟩]) s).2 v0 k0 (by rw[hpc1];exact z2) h3
   rw[hpc1] at v1 p1 k1
   obtain ⟨e1,e2,ht⟩:=iY hk (.inr (.inr h26)) hx
   have p0w:=bY.ext (ex y (by rw[hx];simp) (c++ [⟨e.n,true⟩]) (ah x (c++ [⟨e.n,false⟩]) s).2) p0
   rw[e2] at p1
   have hty:=gt p0w
   have pn:=io v1.pre (cC hp1 (dK.2 (by omega)))
   rw[ht h26,((bL h3).1 hg).2.1 h26] at pn
   rw[hty] at hsp⊢
   refine v1.put (p0w.wo v1.wo).1 hc ⟨pn.lt,p0w.lt,p1.lt⟩ hsp ?_
   exact .join _ _ _ _ (am f x) c (cX hsp).1 (pn.ext av) (p0w.ext av) (p1.ext av)
  rw[if_neg h26] at hsp⊢
  have hops:=dq hp1
  have hpc:∀i,aA e c i=c:=fun i=>by unfold aA;rw[if_neg (by omega),if_neg (by omega)]
  have hkd:cj e.op=1\/cj e.op=2:=by unfold cj;split<;>simp
  by_cases h2:e.args.length=2
  ·rw[if_pos h2] at hsp⊢
   obtain ⟨x,y,hx⟩:=gH h2
   have hi0:e.args[0]? =some x:=by rw[hx];rfl
   have hi1:e.args[1]? =some y:=by rw[hx];rfl
   rw[ar hi0,ar hi1] at hsp⊢
   have z2:=av.sp hsp
   have z1:=(ex y (by rw[hx];simp) c (ah x c s).2).sp z2
   obtain ⟨v0,p0,k0⟩:=ih' 0 x hi0 s hv hn (by rw[hpc];exact z1) h3
   rw[hpc] at v0 p0 k0
   obtain ⟨v1,p1,k1⟩:=ih' 1 y hi1 (ah x c s).2 v0 k0 (by rw[hpc];exact z2) h3
   rw[hpc] at v1 p1 k1
   have ho:7<=e.op/\e.op<=20:=by
    by_cases h5:e.op=5\/e.op=6
    ·obtain ⟨x',hx'⟩:=br hp1 (by omega)
     rw[hx'] at h2;simp at h2
    ·omega
   obtain ⟨_,e2,e3⟩:=vU hk ho hx
   have p0w:=bY.ext (ex y (by rw[hx];simp) c (ah x c s).2) p0
   rw[e2] at p1
   have ho1:=one v1
   refine v1.put hkd hc ⟨p0w.lt,p1.lt,ho1⟩ hsp ?_
   exact .bin _ _ _ _ (am f x) c ho (cX hsp).1 (p0w.ext av) (p1.ext av) e3
  ·rw[if_neg h2] at hsp⊢
   obtain ⟨x,hx⟩:∃x,e.args=[x]:=by
    by_cases h5:e.op=5\/e.op=6
    ·exact br hp1 (by omega)
    ·obtain ⟨x,y,hx⟩:=aQ hp1 (by omega)
     rw[hx] at h2
     exact absurd rfl h2
   have hi0:e.args[0]? =some x:=by rw[hx];rfl
   rw[ar hi0] at hsp⊢
   have z1:=av.sp hsp
   obtain ⟨v0,p0,k0⟩:=ih' 0 x hi0 s hv hn (by rw[hpc];exact z1) h3
   rw[hpc] at v0 p0 k0
   have ho:e.op=5\/e.op=6:=by
    by_cases h5:e.op=5\/e.op=6
    ·exact h5
    ·obtain ⟨x',y',hx'⟩:=aQ hp1 (by omega)
     rw[hx'] at hx;simp at hx
   obtain ⟨_,e3⟩:=Bb hk ho hx
   have e4:am f x=signIn e.op:=by
    rcases e3 with e3|e3
    ·rcases ho with g|g<;>rw[g] at e3<;>exact absurd e3 (by decide)
    ·exact e3
   rw[e4] at p0
   have ho1:=one v0
   refine v0.put hkd hc ⟨p0.lt,ho1,ho1⟩ hsp ?_
   exact .un _ _ _ c ho (cX hsp).1 (p0.ext av)
theorem lp {f:Fl} (h:bn f):∀k,k<=f.defs.length->(bv f k).spent=false->NV f ((f.defs.take k).map (·.1)) (bv f k)/\CN f (bv f k) k:=by
 obtain ⟨⟨hw1,hw2,hw3⟩,hi,ho,hd,hdf,hr⟩:=h
 have hty:∀n,ak f.fm n->(ag f.fm n=1\/ag f.fm n=2)/\eJ f (aa f.fm n):=fun n hn=>by
  refine' zq77
  unfold ag aa
  rw[bW (f:=f.fm) hx]
  exact hw1 _ (List.getElem_mem hm)
 have hdi:∀d∈f.defs,ak f.fm d.1:=fun d hd'=>(hd.2.1 ⟨0,d.1,0,0,0,0⟩ (List.mem_map_of_mem (f:=fun d:Int × Ex=>(⟨0,d.1,0,0,0,0⟩:Ac)) hd')).1
 have hk:∀d∈f.defs,aO f d.2/\aE f d.2 (aa f.fm d.1)/\am f d.2≠0:=fun d hd'=>by
  obtain ⟨q1,q2,q3,q4,q5⟩:=hdf d hd'
  refine ⟨q1,q4,?_⟩
  rw[q3]
  rcases (hty _ (hdi d hd')).1 with g|g<;>rw[g]<;>decide
 intro k
 induction k with
 |zero=>
  refine fun _ hs=>⟨⟨⟨List.prefix_refl _,hw2,by show f.wires.length<=1600;omega,hw1,by simp,by simp[eQ,dL],fun n=>?_,by simp[eQ,dL]⟩,by simp[eQ,dL],rfl,by simp[eQ,dL],by simp[eQ,dL],by simp[eQ,dL]⟩,oL hk 0 (by omega) hs⟩
  simp[eQ,dL]
 |succ k ih=>
  intro hkl hs
  refine ⟨?_,oL hk (k+1) hkl hs⟩
  have hkk:k<f.defs.length:=by omega
  have hd':=List.getElem?_eq_getElem hkk
  have hm:=List.getElem_mem hkk
  obtain ⟨q1,q2,q3⟩:=hk _ hm
  have hdd:=hdi _ hm
  have hnd:f.defs[k].1∉(f.defs.take k).map (·.1):=fun hm'=>by
   obtain ⟨d,hd1,hd2⟩:=List.mem_map.1 hm'
   obtain ⟨i,hi1,hi2⟩:=List.mem_take_iff_getElem.1 hd1
   have hdist:=hd.2.2.1 i k ⟨0,d.1,0,0,0,0⟩ ⟨0,f.defs[k].1,0,0,0,0⟩ (by omega) (by
    show (f.defs.map _)[i]? =_
    rw[List.getElem?_map,List.getElem?_eq_getElem (by omega),hi2];rfl) (by
    show (f.defs.map _)[k]? =_
    rw[List.getElem?_map,hd'];rfl)
   exact hdist hd2
  rw[gm hd'] at hs⊢
  obtain ⟨g,g2⟩:=ih (by omega) ((oO (bv f k) f.defs[k] q1).sp hs)
  have hs2:(ah f.defs[k].2 (aa f.fm f.defs[k].1) (bv f k)).2.spent=false:=hs
  have v:=za f.defs[k].2 q1 _ _ q2 q3 (hty _ hdd).2 g g2.nk hs2
  have w:=(mW f.defs[k].2 q1 _ _ q2 q3 g.pre g2.nk hs2).1.wat
  rw[(hdf _ hm).2.2.1] at w
  have wd:=io v.pre hdd
  have hlt:f.defs[k].1<f.wires.length:=hdd.2
  rw[List.take_add_one,hd',Option.toList_some,List.map_append,List.map_cons,List.map_nil]
  unfold js
  generalize hS:ah f.defs[k].2 (aa f.fm f.defs[k].1) (bv f k)=S at*
  refine ⟨⟨v.pre,v.one,v.le,v.wo,fun d hd2=>?_,?_,fun n=>?_,fun a ha hal=>?_⟩,v.cl,v.kc,fun i kk n hk2=>?_,v.vo,fun a ha=>?_⟩
  ·rcases List.mem_append.1 hd2 with hd2|hd2
   ·exact v.dl d hd2
   ·rw[List.mem_singleton.1 hd2];exact hlt
  ·show ((S.2.acts++ [_]).map _).Nodup
   rw[List.map_append,List.nodup_append]
   refine ⟨v.nd,by simp,fun x hx y hy e=>?_⟩
   simp at hy
   subst hy
   subst e
   rcases (v.mem _).1 hx with r|r
   ·omega
   ·exact hnd r
  ·show n∈(S.2.acts++ [_]).map _↔((f.wires.length:Int)<=n/\n<S.2.wires.length)\/_
   rw[List.map_append,List.mem_append,v.mem,List.mem_append,or_assoc]
   rfl
  ·rcases List.mem_append.1 ha with ha|ha
   ·exact v.lt a ha hal
   ·rw[List.mem_singleton.1 ha] at hal
    exact absurd hal (by show ¬(f.wires.length:Int)<=f.defs[k].1;omega)
  ·obtain ⟨r1,ty',v',c',r2,r3⟩:=v.ki i kk n hk2
   exact ⟨r1,ty',v',c',r2,r3.ext gK⟩
  ·rcases List.mem_append.1 ha with ha|ha
   ·exact (v.act a ha).ext gK
   ·rw[List.mem_singleton.1 ha]
    exact .same _ _ _ _ (wd.ext gK) (w.ext gK)
end Go.Proofs.YtckognjamlckcaaGreatDoor.Fo
