/-
  norm, as plain data: the wires that an expression has become. Kinds of expressions, op by op. norm, as plain data: nothing falls away. norm, as plain data: the wire of an expression has what the expression says. norm, as plain data: each definition of the flat stands in what is made. norm, as plain data: clocks.
-/
import Derived.Test.YtckognjamlckcaaGreatDoorZz
import Derived.Test.YtckognjamlckcaaGreatDoorNpI
import Derived.Test.YtckognjamlckcaaGreatDoorFrD
import Derived.Test.YtckognjamlckcaaGreatDoorFltG
namespace Go.Proofs.YtckognjamlckcaaGreatDoor.Fo
open Vf
abbrev IsP:=Mk→Int→List Gd→Prop
def is1 (f:Fl) (e:Ex) (ps:List IsP) (S:Mk) (n:Int) (c:List Gd):Prop:=
 let P:=fun (i:Nat)=>ps.getD i (fun _ _ _=>False)
 WAt S n (kindE f e) c∧
 if e.op=3 then n=e.n
 else if e.op=1∨e.op=2 then (⟨e.op,n,0,0,0,e.n⟩:Ac)∈S.acts
 else if e.op=21 then ∃a,P 0 S a c∧WasAt S n a c
 else if e.op=22 then ∃a b g y,P 0 S a c∧P 1 S b c∧BegAt S g c∧WasAt S y b c∧(⟨27,n,g,a,y,0⟩:Ac)∈S.acts
 else if e.op=23 then ∃a b g,P 0 S a c∧P 1 S b c∧BegAt S g c∧(⟨27,n,g,a,b,0⟩:Ac)∈S.acts
 else if e.op=27 then ∃a b d,P 0 S a c∧P 1 S b c∧P 2 S d c∧(⟨27,n,a,b,d,0⟩:Ac)∈S.acts
 else if e.op=24∨e.op=25 then ∃a,P 0 S a c.dropLast∧(⟨24,n,a,0,0,0⟩:Ac)∈S.acts
 else if e.op=26 then ∃a b,P 0 S a (c++ [⟨e.n,false⟩])∧P 1 S b (c++ [⟨e.n,true⟩])∧(⟨26,n,e.n,a,b,0⟩:Ac)∈S.acts
 else if e.args.length=2 then ∃a b,P 0 S a c∧P 1 S b c∧(⟨e.op,n,a,b,0,0⟩:Ac)∈S.acts
 else ∃a,P 0 S a c∧(⟨e.op,n,a,0,0,0⟩:Ac)∈S.acts
noncomputable def IsW (f:Fl):Ex→IsP:=Ex.para (is1 f)
theorem IsW_eq (f:Fl) (e:Ex) (S:Mk) (n:Int) (c:List Gd):IsW f e S n c↔is1 f e (e.args.map (IsW f)) S n c:=by unfold IsW;rw[Ex.para_eq]
theorem isP_get {f:Fl} {e x:Ex} {i:Nat} (h:e.args[i]? =some x):(e.args.map (IsW f)).getD i (fun _ _ _=>False)=IsW f x:=by
 rw[List.getD_eq_getElem?_getD,List.getElem?_map,h];rfl
theorem isP_mono {f:Fl} {e:Ex} {S R:Mk} (ih:∀x∈e.args,∀n c,IsW f x S n c→IsW f x R n c) (i:Nat) {n:Int} {c:List Gd} (h:(e.args.map (IsW f)).getD i (fun _ _ _=>False) S n c):(e.args.map (IsW f)).getD i (fun _ _ _=>False) R n c:=by
 cases hx:e.args[i]? with
 |none=>
  rw[List.getD_eq_getElem?_getD,List.getElem?_map,hx] at h
  exact h.elim
 |some x=>
  rw[isP_get hx] at h⊢
  exact ih x (List.mem_of_getElem? hx) n c h
theorem IsW.ext {f:Fl} {S R:Mk} (hE:Ext S R) (e:Ex):∀n c,IsW f e S n c→IsW f e R n c:=by
 induction e using Ex.ind with
 |h e ih=>
  intro n c h
  have hm:=fun (i:Nat) {n:Int} {c:List Gd}=>isP_mono (f:=f) (e:=e) (S:=S) (R:=R) ih i (n:=n) (c:=c)
  rw[IsW_eq] at h⊢
  unfold is1 at h⊢
  dsimp only at h⊢
  obtain ⟨h0,h⟩:=h
  refine ⟨h0.ext hE,?_⟩
  by_cases h3:e.op=3
  ·rw[if_pos h3] at h⊢;exact h
  rw[if_neg h3] at h⊢
  by_cases h1:e.op=1∨e.op=2
  ·rw[if_pos h1] at h⊢;exact hE.mem h
  rw[if_neg h1] at h⊢
  by_cases h21:e.op=21
  ·rw[if_pos h21] at h⊢
   obtain ⟨a,q1,q2⟩:=h
   exact ⟨a,hm 0 q1,q2.ext hE⟩
  rw[if_neg h21] at h⊢
  by_cases h22:e.op=22
  ·rw[if_pos h22] at h⊢
   obtain ⟨a,b,g,y,q1,q2,q3,q4,q5⟩:=h
   exact ⟨a,b,g,y,hm 0 q1,hm 1 q2,q3.ext hE,q4.ext hE,hE.mem q5⟩
  rw[if_neg h22] at h⊢
  by_cases h23:e.op=23
  ·rw[if_pos h23] at h⊢
   obtain ⟨a,b,g,q1,q2,q3,q5⟩:=h
   exact ⟨a,b,g,hm 0 q1,hm 1 q2,q3.ext hE,hE.mem q5⟩
  rw[if_neg h23] at h⊢
  by_cases h27:e.op=27
  ·rw[if_pos h27] at h⊢
   obtain ⟨a,b,g,q1,q2,q3,q5⟩:=h
   exact ⟨a,b,g,hm 0 q1,hm 1 q2,hm 2 q3,hE.mem q5⟩
  rw[if_neg h27] at h⊢
  by_cases h24:e.op=24∨e.op=25
  ·rw[if_pos h24] at h⊢
   obtain ⟨a,q1,q2⟩:=h
   exact ⟨a,hm 0 q1,hE.mem q2⟩
  rw[if_neg h24] at h⊢
  by_cases h26:e.op=26
  ·rw[if_pos h26] at h⊢
   obtain ⟨a,b,q1,q2,q3⟩:=h
   exact ⟨a,b,hm 0 q1,hm 1 q2,hE.mem q3⟩
  rw[if_neg h26] at h⊢
  by_cases h2:e.args.length=2
  ·rw[if_pos h2] at h⊢
   obtain ⟨a,b,q1,q2,q3⟩:=h
   exact ⟨a,b,hm 0 q1,hm 1 q2,hE.mem q3⟩
  ·rw[if_neg h2] at h⊢
   obtain ⟨a,q1,q2⟩:=h
   exact ⟨a,hm 0 q1,hE.mem q2⟩
section
variable {f:Fl} {e x y z:Ex}
theorem kd_sub (h:kindE f e≠0):∀x∈e.args,kindE f x≠0:=fun x hx h0=>by
 refine h ?_
 rw[kindE_eq,kind1,if_pos]
 rw[←h0]
 exact List.mem_map_of_mem hx
theorem kd_all (h:kindE f e≠0):0∉e.args.map (kindE f):=fun hm=>by
 obtain ⟨x,hx,h0⟩:=List.mem_map.1 hm
 exact kd_sub h x hx h0
theorem kd_one (h:kindE f e≠0) (ho:e.op=21∨e.op=24∨e.op=25) (hx:e.args=[x]):kindE f e=kindE f x∧(e.op≠21→tyOf f.fm e.n=2):=by
 have h0:=kd_all h
 have hk:=kindE_eq f e
 rw[kind1,if_neg h0,hx] at hk
 rcases ho with g|g|g<;>rw[g] at hk⊢<;>simp[namedB,kindR,Ar.signB,getI] at hk⊢
 ·exact hk
 ·refine' zq300
 ·refine' zq300
theorem kd_two (h:kindE f e≠0) (ho:e.op=22∨e.op=23∨e.op=26) (hx:e.args=[x,y]):kindE f e=kindE f x∧kindE f y=kindE f x∧(e.op=26→tyOf f.fm e.n=2):=by
 have h0:=kd_all h
 have hk:=kindE_eq f e
 rw[kind1,if_neg h0,hx] at hk
 by_cases hy:kindE f y=kindE f x
 rotate_left 1
 ·refine absurd ?_ h
  rw[hk]
  rcases ho with g|g|g<;>rw[g]<;>simp[namedB,kindR,Ar.signB,getI,hy]
 rcases ho with g|g|g<;>rw[g] at hk⊢<;>simp[namedB,kindR,Ar.signB,getI,hy] at hk⊢
 ·exact hk
 ·exact hk
 ·refine' zq300
theorem kd_if (h:kindE f e≠0) (ho:e.op=27) (hx:e.args=[x,y,z]):kindE f x=2∧kindE f e=kindE f y∧kindE f z=kindE f y:=by
 have h0:=kd_all h
 have hk:=kindE_eq f e
 rw[kind1,if_neg h0,hx,ho] at hk
 simp[namedB,kindR,Ar.signB,getI] at hk
 by_cases h2:kindE f x=2
 ·rw[if_pos h2] at hk
  by_cases hz:kindE f z=kindE f y
  ·rw[if_pos hz] at hk;exact ⟨h2,hk,hz⟩
  ·rw[if_neg hz] at hk;exact absurd hk h
 ·rw[if_neg h2] at hk;exact absurd hk h
theorem sg_kind {op:Int} (h:5≤op∧op≤20):Ar.signB op=true∧Ar.signOut op=kindOp op∧signOut op=kindOp op∧Ar.signIn op=signIn op:=by
 refine ⟨by simp[Ar.signB,h],?_,?_,rfl⟩
 ·unfold Ar.signOut kindOp
  repeat' split
  all_goals first|rfl|omega
 ·unfold signOut kindOp
  repeat' split
  all_goals first|rfl|omega
theorem kd_un (h:kindE f e≠0) (ho:e.op=5∨e.op=6) (hx:e.args=[x]):kindE f e=kindOp e.op∧(signIn e.op=0∨kindE f x=signIn e.op):=by
 have h0:=kd_all h
 have hk:=kindE_eq f e
 obtain ⟨q1,q2,q3,q4⟩:=sg_kind (op:=e.op) (by omega)
 have hn:namedB e.op=false:=by unfold namedB;rcases ho with g|g<;>rw[g]<;>rfl
 refine' zq303
 by_cases hs:signIn e.op=0∨kindE f x=signIn e.op
 ·rw[if_pos (by rcases hs with hs|hs<;>simp[getI,hs])] at hk
  exact ⟨by simpa using hk,hs⟩
 ·rw[if_neg (by simp only[not_or] at hs;simp[getI,hs])] at hk
  exact absurd hk h
theorem kd_bin (h:kindE f e≠0) (ho:7≤e.op∧e.op≤20) (hx:e.args=[x,y]):kindE f e=kindOp e.op∧kindE f y=kindE f x∧(signIn e.op=0∨kindE f x=signIn e.op):=by
 have h0:=kd_all h
 have hk:=kindE_eq f e
 obtain ⟨q1,q2,q3,q4⟩:=sg_kind (op:=e.op) (by omega)
 have hn:namedB e.op=false:=by
  unfold namedB
  simp
  omega
 refine' zq303
 by_cases hy:kindE f y=kindE f x
 rotate_left 1
 ·rw[if_neg (by simp[getI,hy])] at hk
  exact absurd hk h
 by_cases hs:signIn e.op=0∨kindE f x=signIn e.op
 ·rw[if_pos (by rcases hs with hs|hs<;>simp[getI,hs,hy])] at hk
  exact ⟨by simpa using hk,hy,hs⟩
 ·rw[if_neg (by simp only[not_or] at hs;simp[getI,hs])] at hk
  exact absurd hk h
end
theorem normE_ext {f:Fl} (e:Ex):plainE f e→∀(c:List Gd) (s:Mk),Ext s (normE e c s).2:=by
 induction e using Ex.ind with
 |h e ih=>
  intro hp c s
  obtain ⟨hp1,hp2⟩:=plainE_iff.1 hp
  have ih':∀x∈e.args,∀(c:List Gd) (s:Mk),Ext s (normE x c s).2:=fun x hx=>ih x hx (hp2 x hx)
  rw[normE_eq,norm1]
  dsimp only
  by_cases hs:s.spent=true
  ·rw[if_pos hs]
   exact (Ext.refl s)
  rw[if_neg hs]
  by_cases h3:e.op=3
  ·rw[if_pos h3]
   exact (Ext.refl s)
  rw[if_neg h3]
  by_cases h12:e.op=1∨e.op=2
  ·rw[if_pos h12]
   exact put_ext
  rw[if_neg h12]
  have hops:=plain1_ops hp1
  by_cases h21:e.op=21
  ·rw[if_pos h21]
   obtain ⟨x,hx⟩:=args_one hp1 (by omega)
   rw[part_is (x:=x) (i:=0) (by rw[hx];rfl)]
   exact ((ih' x (by rw[hx];simp) c s).trans was_ext)
  rw[if_neg h21]
  by_cases h22:e.op=22
  ·rw[if_pos h22]
   obtain ⟨x,y,hx⟩:=args_two hp1 (by omega)
   rw[part_is (x:=x) (i:=0) (by rw[hx];rfl),part_is (x:=y) (i:=1) (by rw[hx];rfl)]
   exact (((((ih' x (by rw[hx];simp) c s).trans (ih' y (by rw[hx];simp) c _)).trans begins_ext).trans was_ext).trans put_ext)
  rw[if_neg h22]
  by_cases h23:e.op=23
  ·rw[if_pos h23]
   obtain ⟨x,y,hx⟩:=args_two hp1 (by omega)
   rw[part_is (x:=x) (i:=0) (by rw[hx];rfl),part_is (x:=y) (i:=1) (by rw[hx];rfl)]
   exact ((((ih' x (by rw[hx];simp) c s).trans (ih' y (by rw[hx];simp) c _)).trans begins_ext).trans put_ext)
  rw[if_neg h23]
  by_cases h27:e.op=27
  ·rw[if_pos h27]
   obtain ⟨x,y,z,hx⟩:=args_three hp1 h27
   rw[part_is (x:=x) (i:=0) (by rw[hx];rfl),part_is (x:=y) (i:=1) (by rw[hx];rfl),part_is (x:=z) (i:=2) (by rw[hx];rfl)]
   exact ((((ih' x (by rw[hx];simp) c s).trans (ih' y (by rw[hx];simp) c _)).trans (ih' z (by rw[hx];simp) c _)).trans put_ext)
  rw[if_neg h27]
  by_cases h24:e.op=24∨e.op=25
  ·rw[if_pos h24]
   obtain ⟨x,hx⟩:=args_one hp1 (by omega)
   rw[part_is (x:=x) (i:=0) (by rw[hx];rfl)]
   exact ((ih' x (by rw[hx];simp) c.dropLast s).trans put_ext)
  rw[if_neg h24]
  by_cases h26:e.op=26
  ·rw[if_pos h26]
   obtain ⟨x,y,hx⟩:=args_two hp1 (by omega)
   rw[part_is (x:=x) (i:=0) (by rw[hx];rfl),part_is (x:=y) (i:=1) (by rw[hx];rfl)]
   have h1:=ih' x (by rw[hx];simp) (c++ [⟨e.n,false⟩]) s
   have h2:=ih' y (by rw[hx];simp) (c++ [⟨e.n,true⟩]) (normE x (c++ [⟨e.n,false⟩]) s).2
   exact (h1.trans h2).trans put_ext
  rw[if_neg h26]
  by_cases h2:e.args.length=2
  ·rw[if_pos h2]
   obtain ⟨x,y,hx⟩:=len_two h2
   rw[part_is (x:=x) (i:=0) (by rw[hx];rfl),part_is (x:=y) (i:=1) (by rw[hx];rfl)]
   exact (((ih' x (by rw[hx];simp) c s).trans (ih' y (by rw[hx];simp) c _)).trans put_ext)
  ·rw[if_neg h2]
   obtain ⟨x,hx⟩:∃x,e.args=[x]:=by
    by_cases h5:e.op=5∨e.op=6
    ·exact args_one hp1 (by omega)
    ·obtain ⟨x,y,hx⟩:=args_two hp1 (by omega)
     rw[hx] at h2
     exact absurd rfl h2
   rw[part_is (x:=x) (i:=0) (by rw[hx];rfl)]
   exact ((ih' x (by rw[hx];simp) c s).trans put_ext)
theorem wat_flat {f:Fl} {s:Mk} (h:f.wires<+:s.wires) {n:Int} (hn:isW f.fm n):WAt s n (tyOf f.fm n) (clockOf f.fm n):=by
 refine' zq93
 refine ⟨m,rfl,pre_get h ?_⟩
 unfold tyOf clockOf
 rw[wAt_some (f:=f.fm) hx]
 exact hx
theorem IsW.wat {f:Fl} {e:Ex} {s:Mk} {n:Int} {c:List Gd} (h:IsW f e s n c):WAt s n (kindE f e) c:=((IsW_eq f e s n c).1 h).1
theorem was_ty {S:Mk} {n x t:Int} {c:List Gd} (h:WasAt S n x c) (g:WAt S x t c):WAt S n t c:=by
 obtain ⟨k,ty,h1,h2,_⟩:=h
 obtain ⟨m,e1,q1⟩:=h2
 obtain ⟨m',e2,q2⟩:=g
 obtain rfl:m=m':=by omega
 rw[q1] at q2
 injection q2 with q2
 injection q2 with q2
 rw[←q2];exact h1
theorem normE_is {f:Fl} (e:Ex):plainE f e→∀(c:List Gd) (s:Mk),goesE f e c→kindE f e≠0→f.wires<+:s.wires→NK s→(normE e c s).2.spent=false→IsW f e (normE e c s).2 (normE e c s).1 c∧NK (normE e c s).2:=by
 induction e using Ex.ind with
 |h e ih=>
  intro hp c s hg hk hw hn hsp
  obtain ⟨hp1,hp2⟩:=plainE_iff.1 hp
  have hs:s.spent=false:=(normE_ext e hp c s).sp hsp
  have hns:¬s.spent=true:=by rw[hs];decide
  have ih':∀(i:Nat) x,e.args[i]? =some x→∀s',Ext s s'→NK s'→(normE x (pcl e c i) s').2.spent=false→e.op≠3→IsW f x (normE x (pcl e c i) s').2 (normE x (pcl e c i) s').1 (pcl e c i)∧NK (normE x (pcl e c i) s').2:=fun i x hi s' hE hk' hs' h3=>
   ih x (List.mem_of_getElem? hi) (hp2 x (List.mem_of_getElem? hi)) _ s' (((goes_other h3).1 hg).2.2 i x hi) (kd_sub hk x (List.mem_of_getElem? hi)) (hw.trans hE.w) hk' hs'
  have ex:∀x∈e.args,∀c s',Ext s' (normE x c s').2:=fun x hx c s'=>normE_ext x (hp2 x hx) c s'
  rw[IsW_eq]
  unfold is1
  dsimp only
  rw[normE_eq,norm1] at hsp⊢
  dsimp only at hsp⊢
  rw[if_neg hns] at hsp⊢
  by_cases h3:e.op=3
  ·simp only[if_pos h3] at hsp⊢
   have hww:=plain1_w hp1 (show namedB e.op=true by rw[h3];rfl)
   have hwt:=wat_flat hw hww
   rw[(goes_var h3).1 hg] at hwt
   have hke:kindE f e=tyOf f.fm e.n:=by
    rw[kindE_eq,kind1,if_neg (kd_all hk),if_neg (by rw[h3];simp),if_neg (by omega),if_neg (by omega),if_pos h3]
   rw[hke]
   exact ⟨⟨hwt,trivial⟩,hn⟩
  simp only[if_neg h3] at hsp⊢
  by_cases h12:e.op=1∨e.op=2
  ·simp only[if_pos h12] at hsp⊢
   have hke:kindE f e=e.op:=by
    have hnb:namedB e.op=false:=by unfold namedB;rcases h12 with g|g<;>rw[g]<;>rfl
    rw[kindE_eq,kind1,if_neg (kd_all hk),if_neg (by rw[hnb];simp)]
    rcases h12 with g|g
    ·rw[if_pos g,g]
    ·rw[if_neg (by omega),if_pos g,g]
   obtain ⟨q1,q2⟩:=put_at hsp
   rw[hke]
   exact ⟨⟨q1,q2⟩,hn.put⟩
  simp only[if_neg h12] at hsp⊢
  by_cases h21:e.op=21
  ·simp only[if_pos h21] at hsp⊢
   obtain ⟨x,hx⟩:=args_one hp1 (by omega)
   have hi0:e.args[0]? =some x:=by rw[hx];rfl
   rw[part_is hi0] at hsp⊢
   rw[isP_get hi0]
   have hpc:∀i,pcl e c i=c:=fun i=>by unfold pcl;rw[if_neg (by omega),if_neg (by omega)]
   have z1:=(was_ext).sp hsp
   obtain ⟨p0,k0⟩:=ih' 0 x hi0 s (Ext.refl s) hn (by rw[hpc];exact z1) h3
   rw[hpc] at p0 k0
   obtain ⟨w1,w2⟩:=was_at k0 p0.wat hsp
   have hke:=(kd_one hk (.inl h21) hx).1
   have p0':=IsW.ext (was_ext (x:=(normE x c s).1) (k:=0) (c:=c)) x _ _ p0
   rw[hke]
   exact ⟨⟨was_ty w1 p0'.wat,_,p0',w1⟩,w2⟩
  simp only[if_neg h21] at hsp⊢
  by_cases h22:e.op=22
  ·simp only[if_pos h22] at hsp⊢
   obtain ⟨x,y,hx⟩:=args_two hp1 (by omega)
   have hi0:e.args[0]? =some x:=by rw[hx];rfl
   have hi1:e.args[1]? =some y:=by rw[hx];rfl
   rw[part_is hi0,part_is hi1] at hsp⊢
   rw[isP_get hi0,isP_get hi1]
   have hpc:∀i,pcl e c i=c:=fun i=>by unfold pcl;rw[if_neg (by omega),if_neg (by omega)]
   have z2:=((begins_ext.trans was_ext).trans put_ext).sp hsp
   have z1:=(ex y (by rw[hx];simp) c (normE x c s).2).sp z2
   obtain ⟨p0,k0⟩:=ih' 0 x hi0 s (Ext.refl s) hn (by rw[hpc];exact z1) h3
   rw[hpc] at p0 k0
   obtain ⟨p1,k1⟩:=ih' 1 y hi1 (normE x c s).2 ((Ext.refl s).trans (ex x (by rw[hx];simp) c s)) k0 (by rw[hpc];exact z2) h3
   rw[hpc] at p1 k1
   have zb:=(was_ext.trans put_ext).sp hsp
   have zw:=put_ext.sp hsp
   obtain ⟨g1,g2⟩:=begins_at k1 zb
   have p1b:=IsW.ext (begins_ext (c:=c)) y _ _ p1
   obtain ⟨w1,w2⟩:=was_at g2 p1b.wat zw
   obtain ⟨e1,e2,_⟩:=kd_two hk (.inl h22) hx
   have p0w:=IsW.ext (((ex y (by rw[hx];simp) c (normE x c s).2).trans (begins_ext (c:=c))).trans (was_ext (x:=(normE y c (normE x c s).2).1) (k:=0) (c:=c))) x _ _ p0
   have hty:=ty_of p0w.wat
   have q:=put_at hsp
   unfold Mk.choose at q⊢
   rw[hty,←e1] at q
   obtain ⟨q1,q2⟩:=q
   rw[hty,←e1]
   exact ⟨⟨q1,_,_,_,_,IsW.ext put_ext x _ _ p0w,IsW.ext (was_ext.trans put_ext) y _ _ p1b,g1.ext (was_ext.trans put_ext),w1.ext put_ext,q2⟩,w2.put⟩
  simp only[if_neg h22] at hsp⊢
  by_cases h23:e.op=23
  ·simp only[if_pos h23] at hsp⊢
   obtain ⟨x,y,hx⟩:=args_two hp1 (by omega)
   have hi0:e.args[0]? =some x:=by rw[hx];rfl
   have hi1:e.args[1]? =some y:=by rw[hx];rfl
   rw[part_is hi0,part_is hi1] at hsp⊢
   rw[isP_get hi0,isP_get hi1]
   have hpc:∀i,pcl e c i=c:=fun i=>by unfold pcl;rw[if_neg (by omega),if_neg (by omega)]
   have z2:=(begins_ext.trans put_ext).sp hsp
   have z1:=(ex y (by rw[hx];simp) c (normE x c s).2).sp z2
   obtain ⟨p0,k0⟩:=ih' 0 x hi0 s (Ext.refl s) hn (by rw[hpc];exact z1) h3
   rw[hpc] at p0 k0
   obtain ⟨p1,k1⟩:=ih' 1 y hi1 (normE x c s).2 ((Ext.refl s).trans (ex x (by rw[hx];simp) c s)) k0 (by rw[hpc];exact z2) h3
   rw[hpc] at p1 k1
   have zb:=put_ext.sp hsp
   obtain ⟨g1,g2⟩:=begins_at k1 zb
   have p1b:=IsW.ext (begins_ext (c:=c)) y _ _ p1
   obtain ⟨e1,e2,_⟩:=kd_two hk (.inr (.inl h23)) hx
   have p0w:=IsW.ext ((ex y (by rw[hx];simp) c (normE x c s).2).trans (begins_ext (c:=c))) x _ _ p0
   have hty:=ty_of p0w.wat
   have q:=put_at hsp
   unfold Mk.choose at q⊢
   rw[hty,←e1] at q
   obtain ⟨q1,q2⟩:=q
   rw[hty,←e1]
   exact ⟨⟨q1,_,_,_,IsW.ext put_ext x _ _ p0w,IsW.ext put_ext y _ _ p1b,g1.ext put_ext,q2⟩,g2.put⟩
  simp only[if_neg h23] at hsp⊢
  by_cases h27:e.op=27
  ·simp only[if_pos h27] at hsp⊢
   obtain ⟨x,y,z,hx⟩:=args_three hp1 h27
   have hi0:e.args[0]? =some x:=by rw[hx];rfl
   have hi1:e.args[1]? =some y:=by rw[hx];rfl
   have hi2:e.args[2]? =some z:=by rw[hx];rfl
   rw[part_is hi0,part_is hi1,part_is hi2] at hsp⊢
   rw[isP_get hi0,isP_get hi1,isP_get hi2]
   have hpc:∀i,pcl e c i=c:=fun i=>by unfold pcl;rw[if_neg (by omega),if_neg (by omega)]
   have z3:=(put_ext).sp hsp
   have z2:=(ex z (by rw[hx];simp) c (normE y c (normE x c s).2).2).sp z3
   have z1:=(ex y (by rw[hx];simp) c (normE x c s).2).sp z2
   obtain ⟨p0,k0⟩:=ih' 0 x hi0 s (Ext.refl s) hn (by rw[hpc];exact z1) h3
   rw[hpc] at p0 k0
   obtain ⟨p1,k1⟩:=ih' 1 y hi1 (normE x c s).2 ((Ext.refl s).trans (ex x (by rw[hx];simp) c s)) k0 (by rw[hpc];exact z2) h3
   rw[hpc] at p1 k1
   obtain ⟨p2,k2⟩:=ih' 2 z hi2 (normE y c (normE x c s).2).2 (((Ext.refl s).trans (ex x (by rw[hx];simp) c s)).trans (ex y (by rw[hx];simp) c (normE x c s).2)) k1 (by rw[hpc];exact z3) h3
   rw[hpc] at p2 k2
   obtain ⟨e0,e1,e2⟩:=kd_if hk h27 hx
   have p0z:=IsW.ext ((ex y (by rw[hx];simp) c (normE x c s).2).trans (ex z (by rw[hx];simp) c (normE y c (normE x c s).2).2)) x _ _ p0
   have p1b:=IsW.ext (ex z (by rw[hx];simp) c (normE y c (normE x c s).2).2) y _ _ p1
   have hty:=ty_of p1b.wat
   have q:=put_at hsp
   unfold Mk.choose at q⊢
   rw[hty,←e1] at q
   obtain ⟨q1,q2⟩:=q
   rw[hty,←e1]
   exact ⟨⟨q1,_,_,_,IsW.ext put_ext x _ _ p0z,IsW.ext put_ext y _ _ p1b,IsW.ext put_ext z _ _ p2,q2⟩,k2.put⟩
  simp only[if_neg h27] at hsp⊢
  by_cases h24:e.op=24∨e.op=25
  ·simp only[if_pos h24] at hsp⊢
   obtain ⟨x,hx⟩:=args_one hp1 (by omega)
   have hi0:e.args[0]? =some x:=by rw[hx];rfl
   rw[part_is hi0] at hsp⊢
   rw[isP_get hi0]
   have hpc:pcl e c 0=c.dropLast:=by unfold pcl;rw[if_pos h24]
   have z1:=put_ext.sp hsp
   obtain ⟨p0,k0⟩:=ih' 0 x hi0 s (Ext.refl s) hn (by rw[hpc];exact z1) h3
   rw[hpc] at p0 k0
   have e1:=(kd_one hk (.inr h24) hx).1
   have hty:=ty_of p0.wat
   have q:=put_at hsp
   rw[hty,←e1] at q
   obtain ⟨q1,q2⟩:=q
   rw[hty,←e1]
   exact ⟨⟨q1,_,IsW.ext put_ext x _ _ p0,q2⟩,k0.put⟩
  simp only[if_neg h24] at hsp⊢
  by_cases h26:e.op=26
  ·simp only[if_pos h26] at hsp⊢
   obtain ⟨x,y,hx⟩:=args_two hp1 (by omega)
   have hi0:e.args[0]? =some x:=by rw[hx];rfl
   have hi1:e.args[1]? =some y:=by rw[hx];rfl
   rw[part_is hi0,part_is hi1] at hsp⊢
   rw[isP_get hi0,isP_get hi1]
   have hpc0:pcl e c 0=c++ [⟨e.n,false⟩]:=by unfold pcl;rw[if_neg (by omega),if_pos h26];rfl
   have hpc1:pcl e c 1=c++ [⟨e.n,true⟩]:=by unfold pcl;rw[if_neg (by omega),if_pos h26];rfl
   have z2:=put_ext.sp hsp
   have z1:=(ex y (by rw[hx];simp) (c++ [⟨e.n,true⟩]) (normE x (c++ [⟨e.n,false⟩]) s).2).sp z2
   obtain ⟨p0,k0⟩:=ih' 0 x hi0 s (Ext.refl s) hn (by rw[hpc0];exact z1) h3
   rw[hpc0] at p0 k0
   obtain ⟨p1,k1⟩:=ih' 1 y hi1 (normE x (c++ [⟨e.n,false⟩]) s).2 (ex x (by rw[hx];simp) _ s) k0 (by rw[hpc1];exact z2) h3
   rw[hpc1] at p1 k1
   obtain ⟨e1,e2,_⟩:=kd_two hk (.inr (.inr h26)) hx
   have p0w:=IsW.ext (ex y (by rw[hx];simp) (c++ [⟨e.n,true⟩]) (normE x (c++ [⟨e.n,false⟩]) s).2) x _ _ p0
   have hty:=ty_of p0w.wat
   have q:=put_at hsp
   rw[hty,←e1] at q
   obtain ⟨q1,q2⟩:=q
   rw[hty,←e1]
   exact ⟨⟨q1,_,_,IsW.ext put_ext x _ _ p0w,IsW.ext put_ext y _ _ p1,q2⟩,k1.put⟩
  simp only[if_neg h26] at hsp⊢
  have hops:=plain1_ops hp1
  have hpc:∀i,pcl e c i=c:=fun i=>by unfold pcl;rw[if_neg (by omega),if_neg (by omega)]
  by_cases h2:e.args.length=2
  ·simp only[if_pos h2] at hsp⊢
   obtain ⟨x,y,hx⟩:=len_two h2
   have hi0:e.args[0]? =some x:=by rw[hx];rfl
   have hi1:e.args[1]? =some y:=by rw[hx];rfl
   rw[part_is hi0,part_is hi1] at hsp⊢
   rw[isP_get hi0,isP_get hi1]
   have z2:=put_ext.sp hsp
   have z1:=(ex y (by rw[hx];simp) c (normE x c s).2).sp z2
   obtain ⟨p0,k0⟩:=ih' 0 x hi0 s (Ext.refl s) hn (by rw[hpc];exact z1) h3
   rw[hpc] at p0 k0
   obtain ⟨p1,k1⟩:=ih' 1 y hi1 (normE x c s).2 (ex x (by rw[hx];simp) _ s) k0 (by rw[hpc];exact z2) h3
   rw[hpc] at p1 k1
   have ho:7≤e.op∧e.op≤20:=by
    by_cases h5:e.op=5∨e.op=6
    ·obtain ⟨x',hx'⟩:=args_one hp1 (by omega)
     rw[hx'] at h2;simp at h2
    ·omega
   have e1:=(kd_bin hk ho hx).1
   obtain ⟨q1,q2⟩:=put_at hsp
   rw[e1]
   exact ⟨⟨q1,_,_,IsW.ext ((ex y (by rw[hx];simp) c (normE x c s).2).trans put_ext) x _ _ p0,IsW.ext put_ext y _ _ p1,q2⟩,k1.put⟩
  ·simp only[if_neg h2] at hsp⊢
   obtain ⟨x,hx⟩:∃x,e.args=[x]:=by
    by_cases h5:e.op=5∨e.op=6
    ·exact args_one hp1 (by omega)
    ·obtain ⟨x,y,hx⟩:=args_two hp1 (by omega)
     rw[hx] at h2
     exact absurd rfl h2
   have hi0:e.args[0]? =some x:=by rw[hx];rfl
   rw[part_is hi0] at hsp⊢
   rw[isP_get hi0]
   have z1:=put_ext.sp hsp
   obtain ⟨p0,k0⟩:=ih' 0 x hi0 s (Ext.refl s) hn (by rw[hpc];exact z1) h3
   rw[hpc] at p0 k0
   have ho:e.op=5∨e.op=6:=by
    by_cases h5:e.op=5∨e.op=6
    ·exact h5
    ·obtain ⟨x',y',hx'⟩:=args_two hp1 (by omega)
     rw[hx'] at hx;simp at hx
   have e1:=(kd_un hk ho hx).1
   obtain ⟨q1,q2⟩:=put_at hsp
   rw[e1]
   exact ⟨⟨q1,_,IsW.ext put_ext x _ _ p0,q2⟩,k0.put⟩
structure NDef (f:Fl) (s:Mk) (k:Nat):Prop where
 pre:f.wires<+:s.wires
 nk:NK s
 defs:∀(j:Nat) d,j<k→f.defs[j]? =some d→∃n,IsW f d.2 s n (clockOf f.fm d.1)∧(⟨3,d.1,n,0,0,0⟩:Ac)∈s.acts
theorem normD_ext {f:Fl} (s:Mk) (d:Int × Ex) (hp:plainE f d.2):Ext s (normD f s d):=(normE_ext d.2 hp _ s).trans act_ext
theorem normTo_is {f:Fl} (h:∀d∈f.defs,plainE f d.2∧goesE f d.2 (clockOf f.fm d.1)∧kindE f d.2≠0):∀k,k≤f.defs.length→(normTo f k).spent=false→NDef f (normTo f k) k:=by
 intro k
 induction k with
 |zero=>exact fun _ _=>⟨List.prefix_refl _,⟨rfl,fun p hp=>by cases hp⟩,fun j d hj=>absurd hj (by omega)⟩
 |succ k ih=>
  intro hk hs
  have hd:=List.getElem?_eq_getElem (show k<f.defs.length by omega)
  rw[normTo_succ hd] at hs⊢
  obtain ⟨q1,q2,q3⟩:=h _ (List.getElem_mem (show k<f.defs.length by omega))
  have hE:=normD_ext (normTo f k) f.defs[k] q1
  have g:=ih (by omega) (hE.sp hs)
  obtain ⟨a1,a2⟩:=normE_is f.defs[k].2 q1 _ (normTo f k) q2 q3 g.pre g.nk hs
  refine ⟨g.pre.trans hE.w,⟨a2.kc,fun p hp=>(a2.fst p hp).ext act_ext⟩,fun j d hj hdj=>?_⟩
  rcases Nat.lt_succ_iff_lt_or_eq.1 hj with hj|rfl
  ·obtain ⟨n,b1,b2⟩:=g.defs j d hj hdj
   exact ⟨n,IsW.ext hE d.2 _ _ b1,hE.mem b2⟩
  ·rw[hd] at hdj
   injection hdj with hdj
   subst hdj
   exact ⟨_,IsW.ext act_ext _ _ _ a1,by simp[normD,Mk.act]⟩
def ClkOk (f:Fl) (c:List Gd):Prop:=∀(i:Nat) g,c[i]? =some g→isW f.fm g.wire∧tyOf f.fm g.wire=2∧clockOf f.fm g.wire=c.take i
def WO (f:Fl) (s:Mk):Prop:=∀w∈s.wires,(w.ty=1∨w.ty=2)∧ClkOk f w.clock
section
variable {f:Fl} {c:List Gd} {s:Mk} {ty n x:Int}
theorem ClkOk.drop (h:ClkOk f c):ClkOk f c.dropLast:=fun i g hg=>by
 have hi:=(List.getElem?_eq_some_iff.1 hg).1
 rw[List.length_dropLast] at hi
 rw[List.dropLast_eq_take,List.getElem?_take_of_lt (by omega)] at hg
 obtain ⟨q1,q2,q3⟩:=h i g hg
 refine ⟨q1,q2,?_⟩
 rw[q3,List.dropLast_eq_take,List.take_take,Nat.min_eq_left (by omega)]
theorem ClkOk.snoc (h:ClkOk f c) {n:Int} {b:Bool} (hw:isW f.fm n) (ht:tyOf f.fm n=2) (hc:clockOf f.fm n=c):ClkOk f (c++ [⟨n,b⟩]):=fun i g hg=>by
 by_cases hi:i<c.length
 ·rw[List.getElem?_append_left hi] at hg
  obtain ⟨q1,q2,q3⟩:=h i g hg
  exact ⟨q1,q2,by rw[q3,List.take_append_of_le_length (by omega)]⟩
 ·have hi2:=(List.getElem?_eq_some_iff.1 hg).1
  simp at hi2
  obtain rfl:i=c.length:=by omega
  simp at hg
  subst hg
  exact ⟨hw,ht,by rw[hc];simp⟩
theorem WO.wire (h:WO f s) (ht:ty=1∨ty=2) (hc:ClkOk f c):WO f (s.wire ty c).2:=by
 unfold Mk.wire
 split
 ·exact h
 ·intro w hw
  rcases List.mem_append.1 hw with hw|hw
  ·exact h w hw
  ·rw[List.mem_singleton.1 hw];exact ⟨ht,hc⟩
theorem WO.put {a:Ac} (h:WO f s) (ht:ty=1∨ty=2) (hc:ClkOk f c):WO f (s.put ty c a).2:=h.wire ht hc
end
end Go.Proofs.YtckognjamlckcaaGreatDoor.Fo
