/-
  norm, as plain data: acts that are right, and what holds of all that is made. norm, as plain data: what is made of any expression keeps all that holds. norm, as plain data: all that is made can be put in a row. norm, as plain data: the form that is made of a right flat is right. norm, as plain data: what the law says of the form that is made.
-/
import Derived.Test.YtckognjamlckcaaGreatDoorZz
import Derived.Test.YtckognjamlckcaaGreatDoorNpO
import Derived.Test.YtckognjamlckcaaGreatDoorFew
namespace Go.Proofs.YtckognjamlckcaaGreatDoor.Fo
open Vf
inductive ActR (S:Mk):Ac→Prop where
 |int (n k:Int) (c:List Gd) (h:WAt S n 1 c):ActR S ⟨1,n,0,0,0,k⟩
 |bool (n k:Int) (c:List Gd) (h:WAt S n 2 c) (hk:k=0∨k=1):ActR S ⟨2,n,0,0,0,k⟩
 |cell (n k ty v m:Int) (c:List Gd) (h:WAt S n ty c) (hm:WAt S m ty c) (hk:CAt S k ty v m):ActR S ⟨21,n,0,0,0,k⟩
 |down (n a ty:Int) (c:List Gd) (g:Gd) (h:WAt S n ty (c++ [g])) (ha:WAt S a ty c):ActR S ⟨24,n,a,0,0,0⟩
 |join (n a b d ty:Int) (c:List Gd) (h:WAt S n ty c) (ha:WAt S a 2 c) (hb:WAt S b ty (c++ [⟨a,false⟩])) (hd:WAt S d ty (c++ [⟨a,true⟩])):ActR S ⟨26,n,a,b,d,0⟩
 |same (n a ty:Int) (c:List Gd) (h:WAt S n ty c) (ha:WAt S a ty c):ActR S ⟨3,n,a,0,0,0⟩
 |cho (n a b d ty:Int) (c:List Gd) (h:WAt S n ty c) (ha:WAt S a 2 c) (hb:WAt S b ty c) (hd:WAt S d ty c):ActR S ⟨27,n,a,b,d,0⟩
 |un (op n a:Int) (c:List Gd) (ho:op=5∨op=6) (h:WAt S n (kindOp op) c) (ha:WAt S a (signIn op) c):ActR S ⟨op,n,a,0,0,0⟩
 |bin (op n a b ty:Int) (c:List Gd) (ho:7≤op∧op≤20) (h:WAt S n (kindOp op) c) (ha:WAt S a ty c) (hb:WAt S b ty c) (hs:signIn op=0∨ty=signIn op):ActR S ⟨op,n,a,b,0,0⟩
structure NV0 (f:Fl) (D:List Int) (s:Mk):Prop where
 pre:f.wires<+:s.wires
 one:1≤f.wires.length
 le:s.wires.length≤1600
 wo:WO f s
 dl:∀d∈D,d<f.wires.length
 nd:(s.acts.map (·.dst)).Nodup
 mem:∀n:Int,n∈s.acts.map (·.dst)↔((f.wires.length:Int)≤n∧n<s.wires.length)∨n∈D
 lt:∀a∈s.acts,(f.wires.length:Int)≤a.dst→∀m∈wants a,m<a.dst
structure NV (f:Fl) (D:List Int) (s:Mk):Prop extends NV0 f D s where
 cl:s.cells.length≤60
 kc:s.keeps.length=s.cells.length
 ki:∀(i:Nat) k n,s.keeps[i]? =some (k,n)→k=i∧∃ty v c,s.cells[i]? =some (ty,v)∧WAt s n ty c
 vo:∀c∈s.cells,valueOk c.1 c.2
 act:∀a∈s.acts,ActR s a
section
variable {f:Fl} {D:List Int} {S R s:Mk} {ty n x v k:Int} {c:List Gd} {a:Ac}
theorem ActR.ext (hE:Ext S R) (h:ActR S a):ActR R a:=by
 cases h with
 |int n k c h=>exact .int n k c (h.ext hE)
 |bool n k c h hk=>exact .bool n k c (h.ext hE) hk
 |cell n k ty v m c h hm hk=>exact .cell n k ty v m c (h.ext hE) (hm.ext hE) (hk.ext hE)
 |down n a ty c g h ha=>exact .down n a ty c g (h.ext hE) (ha.ext hE)
 |join n a b d ty c h ha hb hd=>exact .join n a b d ty c (h.ext hE) (ha.ext hE) (hb.ext hE) (hd.ext hE)
 |same n a ty c h ha=>exact .same n a ty c (h.ext hE) (ha.ext hE)
 |cho n a b d ty c h ha hb hd=>exact .cho n a b d ty c (h.ext hE) (ha.ext hE) (hb.ext hE) (hd.ext hE)
 |un op n a c ho h ha=>exact .un op n a c ho (h.ext hE) (ha.ext hE)
 |bin op n a b ty c ho h ha hb hs=>exact .bin op n a b ty c ho (h.ext hE) (ha.ext hE) (hb.ext hE) hs
theorem WAt.lt (h:WAt s n ty c):n<s.wires.length:=by
 obtain ⟨m,rfl,hm⟩:=h
 have:=(List.getElem?_eq_some_iff.1 hm).1
 omega
theorem WAt.wo (h:WAt s n ty c) (g:WO f s):(ty=1∨ty=2)∧ClkOk f c:=by
 obtain ⟨m,rfl,hm⟩:=h
 exact g _ (List.mem_of_getElem? hm)
theorem wants_lt {B:Int} (ha:a.a<B) (hb:a.b<B) (hc:a.c<B):∀m∈wants a,m<B:=by
 intro m hm
 unfold wants at hm
 repeat' split at hm
 all_goals simp at hm
 all_goals omega
theorem put_new (h:(s.put ty c a).2.spent=false):s.put ty c a=((s.wires.length:Int),{s with wires:=s.wires++ [⟨ty,c⟩],acts:=s.acts++ [{a with dst:=(s.wires.length:Int)}]})∧s.wires.length<1600:=by
 have h':(s.wire ty c).2.spent=false:=h
 unfold Mk.wire at h'
 split at h'
 ·cases h'
 ·rename_i hn
  refine ⟨?_,by omega⟩
  unfold Mk.put Mk.wire Mk.act
  rw[if_neg hn]
theorem put_acts:(s.put ty c a).2.acts=s.acts++ [{a with dst:=(s.put ty c a).1}]:=by
 unfold Mk.put Mk.wire Mk.act
 dsimp only
 split<;>rfl
theorem cell_new (h:(s.cell ty v).2.spent=false):s.cell ty v=((s.cells.length:Int),{s with cells:=s.cells++ [(ty,v)]})∧s.cells.length<60:=by
 unfold Mk.cell at h⊢
 split at h
 ·cases h
 ·rename_i hn
  rw[if_neg hn]
  exact ⟨rfl,by omega⟩
theorem NV0.frame (h:NV0 f D s) (hw:R.wires=s.wires) (ha:R.acts=s.acts):NV0 f D R:=
 ⟨by rw[hw];exact h.pre,h.one,by rw[hw];exact h.le,by unfold WO;rw[hw];exact h.wo,h.dl,by rw[ha];exact h.nd,by rw[ha,hw];exact h.mem,by rw[ha];exact h.lt⟩
theorem NV0.put (h:NV0 f D s) (ht:ty=1∨ty=2) (hc:ClkOk f c) (hw:a.a<s.wires.length∧a.b<s.wires.length∧a.c<s.wires.length) (hsp:(s.put ty c a).2.spent=false):NV0 f D (s.put ty c a).2:=by
 obtain ⟨e,hl⟩:=put_new hsp
 have hx:=(put_ext:Ext s (s.put ty c a).2)
 have hwo:=h.wo.put (a:=a) ht hc
 have hpl:=h.pre.length_le
 have hwl:=wants_lt (B:=s.wires.length) hw.1 hw.2.1 hw.2.2
 rw[e] at hx hwo⊢
 refine ⟨h.pre.trans hx.w,h.one,by simp;omega,hwo,h.dl,?_,fun n=>?_,?_⟩
 ·dsimp only
  rw[List.map_append,List.nodup_append]
  refine ⟨h.nd,by simp,fun x hx y hy=>?_⟩
  simp at hy
  subst hy
  intro e
  rcases (h.mem x).1 hx with q|q
  ·omega
  ·have:=h.dl x q
   omega
 ·dsimp only
  rw[List.map_append,List.mem_append,h.mem]
  simp only[List.map_cons,List.map_nil,List.mem_singleton,List.length_append,List.length_singleton]
  constructor
  ·rintro ((q|q)|q)
   ·exact .inl (by omega)
   ·exact .inr q
   ·exact .inl (by omega)
  ·rintro (q|q)
   ·by_cases hn:n=s.wires.length
    ·exact .inr hn
    ·exact .inl (.inl (by omega))
   ·exact .inl (.inr q)
 ·intro x hx
  rcases List.mem_append.1 hx with hx|hx
  ·exact h.lt x hx
  ·rw[List.mem_singleton.1 hx]
   exact fun _ m hm=>hwl m hm
theorem NV.put (h:NV f D s) (ht:ty=1∨ty=2) (hc:ClkOk f c) (hw:a.a<s.wires.length∧a.b<s.wires.length∧a.c<s.wires.length) (hsp:(s.put ty c a).2.spent=false)
  (hA:ActR (s.put ty c a).2 {a with dst:=(s.put ty c a).1}):NV f D (s.put ty c a).2:=by
 have h0:=h.toNV0.put (a:=a) ht hc hw hsp
 have hx:=(put_ext:Ext s (s.put ty c a).2)
 obtain ⟨q1,q2,q3⟩:=put_fix (s:=s) (ty:=ty) (c:=c) (a:=a)
 refine ⟨h0,by rw[q1];exact h.cl,by rw[q1,q2];exact h.kc,fun i k n hk=>?_,by rw[q1];exact h.vo,fun x hx'=>?_⟩
 ·rw[q2] at hk
  obtain ⟨r1,ty',v',c',r2,r3⟩:=h.ki i k n hk
  exact ⟨r1,ty',v',c',by rw[q1];exact r2,r3.ext hx⟩
 ·rw[put_acts] at hx'
  rcases List.mem_append.1 hx' with hx'|hx'
  ·exact (h.act x hx').ext hx
  ·rw[List.mem_singleton.1 hx']
   exact hA
theorem NV.was (h:NV f D s) (hx:WAt s x ty c) (hsp:(s.was x 0 c).2.spent=false):NV f D (s.was x 0 c).2:=by
 obtain ⟨ht,hc⟩:=hx.wo h.wo
 have hty:=ty_of hx
 unfold Mk.was at hsp⊢
 rw[hty] at hsp⊢
 have h1:(s.cell ty 0).2.spent=false:=(keep_ext.trans (put_ext (s:=(s.cell ty 0).2.keep (s.cell ty 0).1 x))).sp hsp
 obtain ⟨e,hl⟩:=cell_new h1
 have hE1:Ext s ((s.cell ty 0).2.keep (s.cell ty 0).1 x):=cell_ext.trans keep_ext
 have hA:=put_at hsp
 have hE2:=(put_ext (s:=(s.cell ty 0).2.keep (s.cell ty 0).1 x) (ty:=ty) (c:=c) (a:=⟨21,0,0,0,0,(s.cell ty 0).1⟩))
 have hx':=hx.ext hE1
 have hk:CAt ((s.cell ty 0).2.keep (s.cell ty 0).1 x) (s.cell ty 0).1 ty 0 x:=by
  rw[e]
  exact ⟨s.cells.length,rfl,by simp[Mk.keep],by simp[Mk.keep,←h.kc]⟩
 have hN:NV f D ((s.cell ty 0).2.keep (s.cell ty 0).1 x):=by
  have hE3:=hE1
  rw[e] at hE3⊢
  refine ⟨h.toNV0.frame rfl rfl,by simp[Mk.keep];omega,by simp[Mk.keep,h.kc],fun i k n hk=>?_,fun y hy=>?_,fun y hy=>(h.act y hy).ext hE3⟩
  ·by_cases hi:i<s.keeps.length
   ·simp only[Mk.keep] at hk
    rw[List.getElem?_append_left hi] at hk
    obtain ⟨r1,ty',v',c',r2,r3⟩:=h.ki i k n hk
    exact ⟨r1,ty',v',c',by simp only[Mk.keep];rw[List.getElem?_append_left (by rw[←h.kc];exact hi)];exact r2,r3.ext hE3⟩
   ·have hi2:=(List.getElem?_eq_some_iff.1 hk).1
    simp[Mk.keep] at hi2
    obtain rfl:i=s.keeps.length:=by omega
    simp[Mk.keep] at hk
    obtain ⟨rfl,rfl⟩:=hk
    exact ⟨by rw[h.kc],ty,0,c,by simp[Mk.keep,h.kc],hx.ext hE3⟩
  ·rcases List.mem_append.1 hy with hy|hy
   ·exact h.vo y hy
   ·rw[List.mem_singleton.1 hy]
    rcases ht with ht|ht
    ·exact .inl ht
    ·exact .inr ⟨ht,.inl rfl⟩
 have hone:(0:Int)<((s.cell ty 0).2.keep (s.cell ty 0).1 x).wires.length:=by
  have:=hN.pre.length_le
  have:=hN.one
  omega
 exact hN.put ht hc ⟨hone,hone,hone⟩ hsp (.cell _ _ ty 0 x c hA.1 (hx'.ext hE2) (hk.ext hE2))
theorem NV.begins (h:NV f D s) (hc:ClkOk f c) (hsp:(s.begins c).2.spent=false):NV f D (s.begins c).2:=by
 have hE:=begins_ext (s:=s) (c:=c)
 unfold Mk.begins at hsp hE⊢
 split
 ·exact h
 rename_i hw
 rw[hw] at hsp hE
 dsimp only at hsp hE⊢
 have ht:(((s.cell 2 1).2.put 2 c ⟨21,0,0,0,0,(s.cell 2 1).1⟩).2.put 2 c ⟨2,0,0,0,0,0⟩).2.spent=false:=hsp
 have hw1:=put_ext.sp ht
 have hc1:=put_ext.sp hw1
 obtain ⟨e,hl⟩:=cell_new hc1
 have h0:NV0 f D (s.cell 2 1).2:=by rw[e];exact h.toNV0.frame rfl rfl
 have hone:(0:Int)<(s.cell 2 1).2.wires.length:=by
  have:=h0.pre.length_le
  have:=h0.one
  omega
 have h1:=h0.put (a:=⟨21,0,0,0,0,(s.cell 2 1).1⟩) (.inr rfl) hc ⟨hone,hone,hone⟩ hw1
 have hone1:(0:Int)<((s.cell 2 1).2.put 2 c ⟨21,0,0,0,0,(s.cell 2 1).1⟩).2.wires.length:=by
  have:=h1.pre.length_le
  have:=h1.one
  omega
 have h2:=h1.put (a:=⟨2,0,0,0,0,0⟩) (.inr rfl) hc ⟨hone1,hone1,hone1⟩ ht
 obtain ⟨p1,_⟩:=put_at hw1
 obtain ⟨u1,_⟩:=put_at ht
 refine' zq179
 have ha1:((s.cell 2 1).2.put 2 c ⟨21,0,0,0,0,(s.cell 2 1).1⟩).2.acts=s.acts++ [⟨21,((s.cell 2 1).2.put 2 c ⟨21,0,0,0,0,(s.cell 2 1).1⟩).1,0,0,0,(s.cell 2 1).1⟩]:=by
  rw[show s.acts=(s.cell 2 1).2.acts by rw[e]];exact put_acts
 have ha2:(((s.cell 2 1).2.put 2 c ⟨21,0,0,0,0,(s.cell 2 1).1⟩).2.put 2 c ⟨2,0,0,0,0,0⟩).2.acts=((s.cell 2 1).2.put 2 c ⟨21,0,0,0,0,(s.cell 2 1).1⟩).2.acts++ [⟨2,(((s.cell 2 1).2.put 2 c ⟨21,0,0,0,0,(s.cell 2 1).1⟩).2.put 2 c ⟨2,0,0,0,0,0⟩).1,0,0,0,0⟩]:=put_acts
 have hcell:(s.cell 2 1).2.cells=s.cells++ [(2,1)]:=by rw[e]
 have hkeep:(s.cell 2 1).2.keeps=s.keeps:=by rw[e]
 have hn1:(s.cell 2 1).1=(s.cells.length:Int):=by rw[e]
 clear hw1 ht hsp e hc1 hone hone1 h0 h1
 generalize (s.cell 2 1).2.put 2 c ⟨21,0,0,0,0,(s.cell 2 1).1⟩=W at*
 generalize W.2.put 2 c ⟨2,0,0,0,0,0⟩=T at*
 have hx2:Ext W.2 {T.2.keep (s.cell 2 1).1 T.1 with first:=(c,W.1)::T.2.first}:=⟨hx.w,hx.a,hx.c,hx.k.trans (List.prefix_append _ _),hx.sp⟩
 have hct:T.2.cells=s.cells++ [(2,1)]:=by rw[v1,q1,hcell]
 have hkt:T.2.keeps=s.keeps:=by rw[v2,q2,hkeep]
 have hk:CAt {T.2.keep (s.cell 2 1).1 T.1 with first:=(c,W.1)::T.2.first} (s.cell 2 1).1 2 1 T.1:=by
  refine ⟨s.cells.length,hn1,?_,?_⟩
  ·show T.2.cells[_]? =_
   rw[hct];simp
  ·show (T.2.keeps++ [((s.cell 2 1).1,T.1)])[_]? =_
   rw[hkt,hn1,←h.kc];simp
 refine ⟨h2.frame rfl rfl,?_,?_,fun i k n hk'=>?_,fun y hy=>?_,fun y hy=>?_⟩
 ·show T.2.cells.length≤60
  rw[hct];simp;omega
 ·show (T.2.keeps++ [((s.cell 2 1).1,T.1)]).length=T.2.cells.length
  rw[hct,hkt];simp[h.kc]
 ·have hk2:(T.2.keeps++ [((s.cell 2 1).1,T.1)])[i]? =some (k,n):=hk'
  rw[hkt] at hk2
  by_cases hi:i<s.keeps.length
  ·rw[List.getElem?_append_left hi] at hk2
   obtain ⟨r1,ty',v',c',r2,r3⟩:=h.ki i k n hk2
   exact ⟨r1,ty',v',c',by show T.2.cells[i]? =_;rw[hct,List.getElem?_append_left (by rw[←h.kc];exact hi)];exact r2,r3.ext hE⟩
  ·have hi2:=(List.getElem?_eq_some_iff.1 hk2).1
   simp at hi2
   obtain rfl:i=s.keeps.length:=by omega
   simp at hk2
   obtain ⟨rfl,rfl⟩:=hk2
   exact ⟨by rw[h.kc];exact hn1,2,1,c,by show T.2.cells[_]? =_;rw[hct,h.kc];simp,u1⟩
 ·have hy2:y∈T.2.cells:=hy
  rw[hct] at hy2
  rcases List.mem_append.1 hy2 with hy2|hy2
  ·exact h.vo y hy2
  ·rw[List.mem_singleton.1 hy2]
   exact .inr ⟨rfl,.inr rfl⟩
 ·have hy2:y∈T.2.acts:=hy
  rw[ha2,ha1] at hy2
  simp only[List.mem_append,List.mem_singleton] at hy2
  rcases hy2 with (hy2|hy2)|hy2
  ·exact (h.act y hy2).ext hE
  ·rw[hy2]
   exact .cell _ _ 2 1 T.1 c (p1.ext hx2) u1 hk
  ·rw[hy2]
   exact .bool _ _ c u1 (.inl rfl)
end
theorem pcl_ok {f:Fl} {e:Ex} {c:List Gd} (hp:plain1 f e) (hg:goesE f e c) (hk:kindE f e≠0) (h3:e.op≠3) (hc:ClkOk f c) (i:Nat):ClkOk f (pcl e c i):=by
 unfold pcl
 split
 ·exact hc.drop
 split
 ·rename_i h26
  obtain ⟨x,y,hx⟩:=args_two hp (by omega)
  obtain ⟨_,_,ht⟩:=kd_two hk (.inr (.inr h26)) hx
  exact hc.snoc (plain1_w hp (named_iff.2 (by omega))) (ht h26) (((goes_other h3).1 hg).2.1 h26)
 ·exact hc
theorem normE_nv {f:Fl} {D:List Int} (e:Ex):plainE f e→∀(c:List Gd) (s:Mk),goesE f e c→kindE f e≠0→ClkOk f c→NV f D s→NK s→(normE e c s).2.spent=false→NV f D (normE e c s).2:=by
 induction e using Ex.ind with
 |h e ih=>
  intro hp c s hg hk hc hv hn hsp
  obtain ⟨hp1,hp2⟩:=plainE_iff.1 hp
  have hs:s.spent=false:=(normE_ext e hp c s).sp hsp
  have hns:¬s.spent=true:=by rw[hs];decide
  have ih':∀(i:Nat) x,e.args[i]? =some x→∀s',NV f D s'→NK s'→(normE x (pcl e c i) s').2.spent=false→e.op≠3→NV f D (normE x (pcl e c i) s').2∧WAt (normE x (pcl e c i) s').2 (normE x (pcl e c i) s').1 (kindE f x) (pcl e c i)∧NK (normE x (pcl e c i) s').2:=fun i x hi s' hv' hk' hs' h3=>by
   have hm:=List.mem_of_getElem? hi
   have hgx:=((goes_other h3).1 hg).2.2 i x hi
   obtain ⟨r1,r2⟩:=normE_is x (hp2 x hm) _ s' hgx (kd_sub hk x hm) hv'.pre hk' hs'
   exact ⟨ih x hm (hp2 x hm) _ s' hgx (kd_sub hk x hm) (pcl_ok hp1 hg hk h3 hc i) hv' hk' hs',r1.wat,r2⟩
  have ex:∀x∈e.args,∀c s',Ext s' (normE x c s').2:=fun x hx c s'=>normE_ext x (hp2 x hx) c s'
  rw[normE_eq,norm1] at hsp⊢
  dsimp only at hsp⊢
  rw[if_neg hns] at hsp⊢
  by_cases h3:e.op=3
  ·rw[if_pos h3];exact hv
  rw[if_neg h3] at hsp⊢
  have one:∀{S:Mk},NV f D S→(0:Int)<S.wires.length:=fun {S} h=>by
   have:=h.pre.length_le
   have:=h.one
   omega
  by_cases h12:e.op=1∨e.op=2
  ·rw[if_pos h12] at hsp⊢
   have ho:=one hv
   refine hv.put h12 hc ⟨ho,ho,ho⟩ hsp ?_
   obtain ⟨q1,_⟩:=put_at hsp
   have h4:=hp1.2.2.2
   rw[if_neg (by rw[named_iff];omega)] at h4
   rcases h12 with g|g
   ·rw[g] at q1⊢
    exact .int _ _ c q1
   ·rw[if_neg (by omega),if_pos g] at h4
    rw[g] at q1⊢
    exact .bool _ _ c q1 h4
  rw[if_neg h12] at hsp⊢
  by_cases h21:e.op=21
  ·rw[if_pos h21] at hsp⊢
   obtain ⟨x,hx⟩:=args_one hp1 (by omega)
   have hi0:e.args[0]? =some x:=by rw[hx];rfl
   rw[part_is hi0] at hsp⊢
   have hpc:∀i,pcl e c i=c:=fun i=>by unfold pcl;rw[if_neg (by omega),if_neg (by omega)]
   have z1:=(was_ext).sp hsp
   obtain ⟨v0,p0,k0⟩:=ih' 0 x hi0 s hv hn (by rw[hpc];exact z1) h3
   rw[hpc] at v0 p0 k0
   exact v0.was p0 hsp
  rw[if_neg h21] at hsp⊢
  by_cases h22:e.op=22
  ·rw[if_pos h22] at hsp⊢
   obtain ⟨x,y,hx⟩:=args_two hp1 (by omega)
   have hi0:e.args[0]? =some x:=by rw[hx];rfl
   have hi1:e.args[1]? =some y:=by rw[hx];rfl
   rw[part_is hi0,part_is hi1] at hsp⊢
   have hpc:∀i,pcl e c i=c:=fun i=>by unfold pcl;rw[if_neg (by omega),if_neg (by omega)]
   have z2:=((begins_ext.trans was_ext).trans put_ext).sp hsp
   have z1:=(ex y (by rw[hx];simp) c (normE x c s).2).sp z2
   obtain ⟨v0,p0,k0⟩:=ih' 0 x hi0 s hv hn (by rw[hpc];exact z1) h3
   rw[hpc] at v0 p0 k0
   obtain ⟨v1,p1,k1⟩:=ih' 1 y hi1 (normE x c s).2 v0 k0 (by rw[hpc];exact z2) h3
   rw[hpc] at v1 p1 k1
   have zb:=(was_ext.trans put_ext).sp hsp
   have zw:=put_ext.sp hsp
   obtain ⟨g1,g2⟩:=begins_at k1 zb
   have p1b:=WAt.ext (begins_ext (c:=c)) p1
   obtain ⟨w1,w2⟩:=was_at g2 p1b zw
   have w3:=(v1.begins hc zb).was p1b zw
   obtain ⟨e1,e2,_⟩:=kd_two hk (.inl h22) hx
   have p0w:=WAt.ext (((ex y (by rw[hx];simp) c (normE x c s).2).trans (begins_ext (c:=c))).trans (was_ext (x:=(normE y c (normE x c s).2).1) (k:=0) (c:=c))) p0
   have hty:=ty_of p0w
   have w4:=was_ty w1 (p1b.ext was_ext)
   rw[e2] at w4
   obtain ⟨_,_,g3,_⟩:=g1.ext (was_ext (x:=(normE y c (normE x c s).2).1) (k:=0) (c:=c))
   unfold Mk.choose at hsp⊢
   rw[hty] at hsp⊢
   refine w3.put (p0w.wo w3.wo).1 hc ⟨g3.lt,p0w.lt,w4.lt⟩ hsp ?_
   exact .cho _ _ _ _ (kindE f x) c (put_at hsp).1 (g3.ext put_ext) (p0w.ext put_ext) (w4.ext put_ext)
  rw[if_neg h22] at hsp⊢
  by_cases h23:e.op=23
  ·rw[if_pos h23] at hsp⊢
   obtain ⟨x,y,hx⟩:=args_two hp1 (by omega)
   have hi0:e.args[0]? =some x:=by rw[hx];rfl
   have hi1:e.args[1]? =some y:=by rw[hx];rfl
   rw[part_is hi0,part_is hi1] at hsp⊢
   have hpc:∀i,pcl e c i=c:=fun i=>by unfold pcl;rw[if_neg (by omega),if_neg (by omega)]
   have z2:=(begins_ext.trans put_ext).sp hsp
   have z1:=(ex y (by rw[hx];simp) c (normE x c s).2).sp z2
   obtain ⟨v0,p0,k0⟩:=ih' 0 x hi0 s hv hn (by rw[hpc];exact z1) h3
   rw[hpc] at v0 p0 k0
   obtain ⟨v1,p1,k1⟩:=ih' 1 y hi1 (normE x c s).2 v0 k0 (by rw[hpc];exact z2) h3
   rw[hpc] at v1 p1 k1
   have zb:=put_ext.sp hsp
   obtain ⟨g1,g2⟩:=begins_at k1 zb
   have p1b:=WAt.ext (begins_ext (c:=c)) p1
   have w3:=v1.begins hc zb
   obtain ⟨e1,e2,_⟩:=kd_two hk (.inr (.inl h23)) hx
   rw[e2] at p1b
   have p0w:=WAt.ext ((ex y (by rw[hx];simp) c (normE x c s).2).trans (begins_ext (c:=c))) p0
   have hty:=ty_of p0w
   obtain ⟨_,_,g3,_⟩:=g1
   unfold Mk.choose at hsp⊢
   rw[hty] at hsp⊢
   refine w3.put (p0w.wo w3.wo).1 hc ⟨g3.lt,p0w.lt,p1b.lt⟩ hsp ?_
   exact .cho _ _ _ _ (kindE f x) c (put_at hsp).1 (g3.ext put_ext) (p0w.ext put_ext) (p1b.ext put_ext)
  rw[if_neg h23] at hsp⊢
  by_cases h27:e.op=27
  ·rw[if_pos h27] at hsp⊢
   obtain ⟨x,y,z,hx⟩:=args_three hp1 h27
   have hi0:e.args[0]? =some x:=by rw[hx];rfl
   have hi1:e.args[1]? =some y:=by rw[hx];rfl
   have hi2:e.args[2]? =some z:=by rw[hx];rfl
   rw[part_is hi0,part_is hi1,part_is hi2] at hsp⊢
   have hpc:∀i,pcl e c i=c:=fun i=>by unfold pcl;rw[if_neg (by omega),if_neg (by omega)]
   have z3:=(put_ext).sp hsp
   have z2:=(ex z (by rw[hx];simp) c (normE y c (normE x c s).2).2).sp z3
   have z1:=(ex y (by rw[hx];simp) c (normE x c s).2).sp z2
   obtain ⟨v0,p0,k0⟩:=ih' 0 x hi0 s hv hn (by rw[hpc];exact z1) h3
   rw[hpc] at v0 p0 k0
   obtain ⟨v1,p1,k1⟩:=ih' 1 y hi1 (normE x c s).2 v0 k0 (by rw[hpc];exact z2) h3
   rw[hpc] at v1 p1 k1
   obtain ⟨v2,p2,k2⟩:=ih' 2 z hi2 (normE y c (normE x c s).2).2 v1 k1 (by rw[hpc];exact z3) h3
   rw[hpc] at v2 p2 k2
   obtain ⟨e0,e1,e2⟩:=kd_if hk h27 hx
   have p0z:=WAt.ext ((ex y (by rw[hx];simp) c (normE x c s).2).trans (ex z (by rw[hx];simp) c (normE y c (normE x c s).2).2)) p0
   have p1b:=WAt.ext (ex z (by rw[hx];simp) c (normE y c (normE x c s).2).2) p1
   rw[e0] at p0z
   rw[e2] at p2
   have hty:=ty_of p1b
   unfold Mk.choose at hsp⊢
   rw[hty] at hsp⊢
   refine v2.put (p1b.wo v2.wo).1 hc ⟨p0z.lt,p1b.lt,p2.lt⟩ hsp ?_
   exact .cho _ _ _ _ (kindE f y) c (put_at hsp).1 (p0z.ext put_ext) (p1b.ext put_ext) (p2.ext put_ext)
  rw[if_neg h27] at hsp⊢
  by_cases h24:e.op=24∨e.op=25
  ·rw[if_pos h24] at hsp⊢
   obtain ⟨x,hx⟩:=args_one hp1 (by omega)
   have hi0:e.args[0]? =some x:=by rw[hx];rfl
   rw[part_is hi0] at hsp⊢
   have hpc:pcl e c 0=c.dropLast:=by unfold pcl;rw[if_pos h24]
   have z1:=put_ext.sp hsp
   obtain ⟨v0,p0,k0⟩:=ih' 0 x hi0 s hv hn (by rw[hpc];exact z1) h3
   rw[hpc] at v0 p0 k0
   have hty:=ty_of p0
   have ho:=one v0
   obtain ⟨g,hgc⟩:∃g,c=c.dropLast++ [g]:=by
    have h9:=((goes_other h3).1 hg).1 h24
    have h8:=List.getLast?_eq_some_iff.1 h9
    obtain ⟨ys,h8⟩:=h8
    refine ⟨⟨e.n,e.op==25⟩,?_⟩
    rw[h8]
    simp
   rw[hty] at hsp⊢
   refine v0.put (p0.wo v0.wo).1 hc ⟨p0.lt,ho,ho⟩ hsp ?_
   have q:=(put_at hsp).1
   exact .down _ _ (kindE f x) c.dropLast g (by rw[←hgc];exact q) (p0.ext put_ext)
  rw[if_neg h24] at hsp⊢
  by_cases h26:e.op=26
  ·rw[if_pos h26] at hsp⊢
   obtain ⟨x,y,hx⟩:=args_two hp1 (by omega)
   have hi0:e.args[0]? =some x:=by rw[hx];rfl
   have hi1:e.args[1]? =some y:=by rw[hx];rfl
   rw[part_is hi0,part_is hi1] at hsp⊢
   have hpc0:pcl e c 0=c++ [⟨e.n,false⟩]:=by unfold pcl;rw[if_neg (by omega),if_pos h26];rfl
   have hpc1:pcl e c 1=c++ [⟨e.n,true⟩]:=by unfold pcl;rw[if_neg (by omega),if_pos h26];rfl
   have z2:=put_ext.sp hsp
   have z1:=(ex y (by rw[hx];simp) (c++ [⟨e.n,true⟩]) (normE x (c++ [⟨e.n,false⟩]) s).2).sp z2
   obtain ⟨v0,p0,k0⟩:=ih' 0 x hi0 s hv hn (by rw[hpc0];exact z1) h3
   rw[hpc0] at v0 p0 k0
   obtain ⟨v1,p1,k1⟩:=ih' 1 y hi1 (normE x (c++ [⟨e.n,false⟩]) s).2 v0 k0 (by rw[hpc1];exact z2) h3
   rw[hpc1] at v1 p1 k1
   obtain ⟨e1,e2,ht⟩:=kd_two hk (.inr (.inr h26)) hx
   have p0w:=WAt.ext (ex y (by rw[hx];simp) (c++ [⟨e.n,true⟩]) (normE x (c++ [⟨e.n,false⟩]) s).2) p0
   rw[e2] at p1
   have hty:=ty_of p0w
   have pn:=wat_flat v1.pre (plain1_w hp1 (named_iff.2 (by omega)))
   rw[ht h26,((goes_other h3).1 hg).2.1 h26] at pn
   rw[hty] at hsp⊢
   refine v1.put (p0w.wo v1.wo).1 hc ⟨pn.lt,p0w.lt,p1.lt⟩ hsp ?_
   exact .join _ _ _ _ (kindE f x) c (put_at hsp).1 (pn.ext put_ext) (p0w.ext put_ext) (p1.ext put_ext)
  rw[if_neg h26] at hsp⊢
  have hops:=plain1_ops hp1
  have hpc:∀i,pcl e c i=c:=fun i=>by unfold pcl;rw[if_neg (by omega),if_neg (by omega)]
  have hkd:kindOp e.op=1∨kindOp e.op=2:=by unfold kindOp;split<;>simp
  by_cases h2:e.args.length=2
  ·rw[if_pos h2] at hsp⊢
   obtain ⟨x,y,hx⟩:=len_two h2
   have hi0:e.args[0]? =some x:=by rw[hx];rfl
   have hi1:e.args[1]? =some y:=by rw[hx];rfl
   rw[part_is hi0,part_is hi1] at hsp⊢
   have z2:=put_ext.sp hsp
   have z1:=(ex y (by rw[hx];simp) c (normE x c s).2).sp z2
   obtain ⟨v0,p0,k0⟩:=ih' 0 x hi0 s hv hn (by rw[hpc];exact z1) h3
   rw[hpc] at v0 p0 k0
   obtain ⟨v1,p1,k1⟩:=ih' 1 y hi1 (normE x c s).2 v0 k0 (by rw[hpc];exact z2) h3
   rw[hpc] at v1 p1 k1
   have ho:7≤e.op∧e.op≤20:=by
    by_cases h5:e.op=5∨e.op=6
    ·obtain ⟨x',hx'⟩:=args_one hp1 (by omega)
     rw[hx'] at h2;simp at h2
    ·omega
   obtain ⟨_,e2,e3⟩:=kd_bin hk ho hx
   have p0w:=WAt.ext (ex y (by rw[hx];simp) c (normE x c s).2) p0
   rw[e2] at p1
   have ho1:=one v1
   refine v1.put hkd hc ⟨p0w.lt,p1.lt,ho1⟩ hsp ?_
   exact .bin _ _ _ _ (kindE f x) c ho (put_at hsp).1 (p0w.ext put_ext) (p1.ext put_ext) e3
  ·rw[if_neg h2] at hsp⊢
   obtain ⟨x,hx⟩:∃x,e.args=[x]:=by
    by_cases h5:e.op=5∨e.op=6
    ·exact args_one hp1 (by omega)
    ·obtain ⟨x,y,hx⟩:=args_two hp1 (by omega)
     rw[hx] at h2
     exact absurd rfl h2
   have hi0:e.args[0]? =some x:=by rw[hx];rfl
   rw[part_is hi0] at hsp⊢
   have z1:=put_ext.sp hsp
   obtain ⟨v0,p0,k0⟩:=ih' 0 x hi0 s hv hn (by rw[hpc];exact z1) h3
   rw[hpc] at v0 p0 k0
   have ho:e.op=5∨e.op=6:=by
    by_cases h5:e.op=5∨e.op=6
    ·exact h5
    ·obtain ⟨x',y',hx'⟩:=args_two hp1 (by omega)
     rw[hx'] at hx;simp at hx
   obtain ⟨_,e3⟩:=kd_un hk ho hx
   have e4:kindE f x=signIn e.op:=by
    rcases e3 with e3|e3
    ·rcases ho with g|g<;>rw[g] at e3<;>exact absurd e3 (by decide)
    ·exact e3
   rw[e4] at p0
   have ho1:=one v0
   refine v0.put hkd hc ⟨p0.lt,ho1,ho1⟩ hsp ?_
   exact .un _ _ _ c ho (put_at hsp).1 (p0.ext put_ext)
theorem normTo_zero (f:Fl):normTo f 0=startN f:=rfl
theorem normTo_nv {f:Fl} (h:flatOk f):∀k,k≤f.defs.length→(normTo f k).spent=false→NV f ((f.defs.take k).map (·.1)) (normTo f k)∧NDef f (normTo f k) k:=by
 obtain ⟨⟨hw1,hw2,hw3⟩,hi,ho,hd,hdf,hr⟩:=h
 have hty:∀n,isW f.fm n→(tyOf f.fm n=1∨tyOf f.fm n=2)∧ClkOk f (clockOf f.fm n):=fun n hn=>by
  refine' zq93
  unfold tyOf clockOf
  rw[wAt_some (f:=f.fm) hx]
  exact hw1 _ (List.getElem_mem hm)
 have hdi:∀d∈f.defs,isW f.fm d.1:=fun d hd'=>(hd.2.1 ⟨0,d.1,0,0,0,0⟩ (List.mem_map_of_mem (f:=fun d:Int × Ex=>(⟨0,d.1,0,0,0,0⟩:Ac)) hd')).1
 have hk:∀d∈f.defs,plainE f d.2∧goesE f d.2 (clockOf f.fm d.1)∧kindE f d.2≠0:=fun d hd'=>by
  obtain ⟨q1,q2,q3,q4,q5⟩:=hdf d hd'
  refine ⟨q1,q4,?_⟩
  rw[q3]
  rcases (hty _ (hdi d hd')).1 with g|g<;>rw[g]<;>decide
 intro k
 induction k with
 |zero=>
  refine fun _ hs=>⟨⟨⟨List.prefix_refl _,hw2,by show f.wires.length≤1600;omega,hw1,by simp,by simp[normTo_zero,startN],fun n=>?_,by simp[normTo_zero,startN]⟩,by simp[normTo_zero,startN],rfl,by simp[normTo_zero,startN],by simp[normTo_zero,startN],by simp[normTo_zero,startN]⟩,normTo_is hk 0 (by omega) hs⟩
  simp[normTo_zero,startN]
 |succ k ih=>
  intro hkl hs
  refine ⟨?_,normTo_is hk (k+1) hkl hs⟩
  have hkk:k<f.defs.length:=by omega
  have hd':=List.getElem?_eq_getElem hkk
  have hm:=List.getElem_mem hkk
  obtain ⟨q1,q2,q3⟩:=hk _ hm
  have hdd:=hdi _ hm
  have hnd:f.defs[k].1∉(f.defs.take k).map (·.1):=fun hm'=>by
   obtain ⟨d,hd1,hd2⟩:=List.mem_map.1 hm'
   obtain ⟨i,hi1,hi2⟩:=List.mem_take_iff_getElem.1 hd1
   have hdist:=hd.2.2.1 i k ⟨0,d.1,0,0,0,0⟩ ⟨0,f.defs[k].1,0,0,0,0⟩ (by omega) (by
    show (f.defs.map _)[i]? =_
    rw[List.getElem?_map,List.getElem?_eq_getElem (by omega),hi2];rfl) (by
    show (f.defs.map _)[k]? =_
    rw[List.getElem?_map,hd'];rfl)
   exact hdist hd2
  rw[normTo_succ hd'] at hs⊢
  obtain ⟨g,g2⟩:=ih (by omega) ((normD_ext (normTo f k) f.defs[k] q1).sp hs)
  have hs2:(normE f.defs[k].2 (clockOf f.fm f.defs[k].1) (normTo f k)).2.spent=false:=hs
  have v:=normE_nv f.defs[k].2 q1 _ _ q2 q3 (hty _ hdd).2 g g2.nk hs2
  have w:=(normE_is f.defs[k].2 q1 _ _ q2 q3 g.pre g2.nk hs2).1.wat
  rw[(hdf _ hm).2.2.1] at w
  have wd:=wat_flat v.pre hdd
  have hlt:f.defs[k].1<f.wires.length:=hdd.2
  rw[List.take_add_one,hd',Option.toList_some,List.map_append,List.map_cons,List.map_nil]
  unfold normD
  generalize hS:normE f.defs[k].2 (clockOf f.fm f.defs[k].1) (normTo f k)=S at*
  refine ⟨⟨v.pre,v.one,v.le,v.wo,fun d hd2=>?_,?_,fun n=>?_,fun a ha hal=>?_⟩,v.cl,v.kc,fun i kk n hk2=>?_,v.vo,fun a ha=>?_⟩
  ·rcases List.mem_append.1 hd2 with hd2|hd2
   ·exact v.dl d hd2
   ·rw[List.mem_singleton.1 hd2];exact hlt
  ·show ((S.2.acts++ [_]).map _).Nodup
   rw[List.map_append,List.nodup_append]
   refine ⟨v.nd,by simp,fun x hx y hy e=>?_⟩
   simp at hy
   subst hy
   subst e
   rcases (v.mem _).1 hx with r|r
   ·omega
   ·exact hnd r
  ·show n∈(S.2.acts++ [_]).map _↔((f.wires.length:Int)≤n∧n<S.2.wires.length)∨_
   rw[List.map_append,List.mem_append,v.mem,List.mem_append,or_assoc]
   rfl
  ·rcases List.mem_append.1 ha with ha|ha
   ·exact v.lt a ha hal
   ·rw[List.mem_singleton.1 ha] at hal
    exact absurd hal (by show ¬(f.wires.length:Int)≤f.defs[k].1;omega)
  ·obtain ⟨r1,ty',v',c',r2,r3⟩:=v.ki i kk n hk2
   exact ⟨r1,ty',v',c',r2,r3.ext act_ext⟩
  ·rcases List.mem_append.1 ha with ha|ha
   ·exact (v.act a ha).ext act_ext
   ·rw[List.mem_singleton.1 ha]
    exact .same _ _ _ _ (wd.ext act_ext) (w.ext act_ext)
section
variable {f:Fl} {D:List Int} {S:Mk} {ty n x k:Int} {c:List Gd} {a:Ac} {e:Ex}
theorem wat_form (h:WAt S n ty c):isW (formN f S) n∧tyOf (formN f S) n=ty∧clockOf (formN f S) n=c:=by
 obtain ⟨m,rfl,hm⟩:=h
 have:=(List.getElem?_eq_some_iff.1 hm).1
 refine ⟨⟨by omega,by show (m:Int)<S.wires.length;omega⟩,?_,?_⟩
 ·unfold tyOf;rw[wAt_some (f:=formN f S) hm]
 ·unfold clockOf;rw[wAt_some (f:=formN f S) hm]
theorem flat_form (hp:f.wires<+:S.wires) (h:isW f.fm n):isW (formN f S) n∧tyOf (formN f S) n=tyOf f.fm n∧clockOf (formN f S) n=clockOf f.fm n:=wat_form (wat_flat hp h)
theorem done_act (ha:a∈S.acts) (hw:WAt S a.dst ty c) (hc:∀g∈c,Done (formN f S) g.wire) (hn:∀m∈wants a,Done (formN f S) m):Done (formN f S) a.dst:=
 Done.act a ha hn (by rw[(wat_form hw).2.2];exact hc)
theorem want_named (h:namedB e.op=true):e.n∈wantE e:=by
 rw[wantE_eq,want1,if_pos h];simp
theorem want_part {y:Ex} (hy:y∈e.args) (h1:e.op≠21) (h2:e.op≠22):∀m∈wantE y,m∈wantE e:=by
 intro m hm
 rw[wantE_eq,want1,if_neg h1,if_neg h2]
 exact List.mem_append_right _ (List.mem_flatten.2 ⟨_,List.mem_map_of_mem hy,hm⟩)
theorem want_head {y z:Ex} (hx:e.args=[y,z]) (h2:e.op=22):∀m∈wantE y,m∈wantE e:=by
 intro m hm
 rw[wantE_eq,want1,if_neg (show ¬e.op=21 by omega),if_pos h2,hx]
 exact List.mem_append_right _ hm
theorem isW_done (e:Ex):plainE f e→∀(n:Int) (c:List Gd),goesE f e c→IsW f e S n c→(∀m∈wantE e,Done (formN f S) m)→(∀g∈c,Done (formN f S) g.wire)→Done (formN f S) n:=by
 induction e using Ex.ind with
 |h e ih=>
  intro hp n c hg h hm hc
  obtain ⟨hp1,hp2⟩:=plainE_iff.1 hp
  rw[IsW_eq] at h
  unfold is1 at h
  dsimp only at h
  obtain ⟨h0,h⟩:=h
  by_cases h3:e.op=3
  ·rw[if_pos h3] at h
   rw[h]
   exact hm _ (want_named (named_iff.2 (.inl h3)))
  rw[if_neg h3] at h
  have ih':∀(i:Nat) y,e.args[i]? =some y→∀n,IsW f y S n (pcl e c i)→(∀m∈wantE y,m∈wantE e)→(∀g∈pcl e c i,Done (formN f S) g.wire)→Done (formN f S) n:=fun i y hi n hy hs hc'=>
   ih y (List.mem_of_getElem? hi) (hp2 y (List.mem_of_getElem? hi)) n _ (((goes_other h3).1 hg).2.2 i y hi) hy (fun m hm'=>hm m (hs m hm')) hc'
  by_cases h1:e.op=1∨e.op=2
  ·rw[if_pos h1] at h
   exact done_act h h0 hc (fun m hm'=>by
    rcases h1 with g|g<;>rw[g] at hm'<;>simp[wants,uses] at hm')
  rw[if_neg h1] at h
  have hbeg:∀{g:Int},BegAt S g c→Done (formN f S) g:=fun {g} ⟨k,t,q1,_,_,q4,_⟩=>done_act q4 q1 hc (fun m hm'=>by simp[wants,uses] at hm')
  have hwas:∀{y b:Int},WasAt S y b c→Done (formN f S) y:=fun {y b} ⟨k,t,q1,_,_,q4⟩=>done_act q4 q1 hc (fun m hm'=>by simp[wants,uses] at hm')
  by_cases h21:e.op=21
  ·rw[if_pos h21] at h
   obtain ⟨a,q1,q2⟩:=h
   exact hwas q2
  rw[if_neg h21] at h
  by_cases h22:e.op=22
  ·rw[if_pos h22] at h
   obtain ⟨y,z,hx⟩:=args_two hp1 (by omega)
   have hi0:e.args[0]? =some y:=by rw[hx];rfl
   rw[isP_get hi0] at h
   have hpc:∀i,pcl e c i=c:=fun i=>by unfold pcl;rw[if_neg (by omega),if_neg (by omega)]
   obtain ⟨a,b,g,y',q1,q2,q3,q4,q5⟩:=h
   have d1:=ih' 0 y hi0 a (by rw[hpc];exact q1) (want_head hx h22) (by rw[hpc];exact hc)
   have d2:=hbeg q3
   have d3:=hwas q4
   exact done_act q5 h0 hc (fun m hm'=>by
    simp[wants,uses] at hm'
    rcases hm' with rfl|rfl|rfl<;>assumption)
  rw[if_neg h22] at h
  have hall:∀(i:Nat) y,e.args[i]? =some y→pcl e c i=c→∀n,IsW f y S n c→Done (formN f S) n:=fun i y hi hpc n hy=>ih' i y hi n (by rw[hpc];exact hy) (want_part (List.mem_of_getElem? hi) h21 h22) (by rw[hpc];exact hc)
  by_cases h23:e.op=23
  ·rw[if_pos h23] at h
   obtain ⟨y,z,hx⟩:=args_two hp1 (by omega)
   have hi0:e.args[0]? =some y:=by rw[hx];rfl
   have hi1:e.args[1]? =some z:=by rw[hx];rfl
   rw[isP_get hi0,isP_get hi1] at h
   have hpc:∀i,pcl e c i=c:=fun i=>by unfold pcl;rw[if_neg (by omega),if_neg (by omega)]
   obtain ⟨a,b,g,q1,q2,q3,q5⟩:=h
   have d1:=hall 0 y hi0 (hpc _) a q1
   have d2:=hbeg q3
   have d3:=hall 1 z hi1 (hpc _) b q2
   exact done_act q5 h0 hc (fun m hm'=>by
    simp[wants,uses] at hm'
    rcases hm' with rfl|rfl|rfl<;>assumption)
  rw[if_neg h23] at h
  by_cases h27:e.op=27
  ·rw[if_pos h27] at h
   obtain ⟨y,z,u,hx⟩:=args_three hp1 h27
   have hi0:e.args[0]? =some y:=by rw[hx];rfl
   have hi1:e.args[1]? =some z:=by rw[hx];rfl
   have hi2:e.args[2]? =some u:=by rw[hx];rfl
   rw[isP_get hi0,isP_get hi1,isP_get hi2] at h
   have hpc:∀i,pcl e c i=c:=fun i=>by unfold pcl;rw[if_neg (by omega),if_neg (by omega)]
   obtain ⟨a,b,g,q1,q2,q3,q5⟩:=h
   have d1:=hall 0 y hi0 (hpc _) a q1
   have d2:=hall 1 z hi1 (hpc _) b q2
   have d3:=hall 2 u hi2 (hpc _) g q3
   exact done_act q5 h0 hc (fun m hm'=>by
    simp[wants,uses] at hm'
    rcases hm' with rfl|rfl|rfl<;>assumption)
  rw[if_neg h27] at h
  by_cases h24:e.op=24∨e.op=25
  ·rw[if_pos h24] at h
   obtain ⟨y,hx⟩:=args_one hp1 (by omega)
   have hi0:e.args[0]? =some y:=by rw[hx];rfl
   rw[isP_get hi0] at h
   have hpc:pcl e c 0=c.dropLast:=by unfold pcl;rw[if_pos h24]
   obtain ⟨a,q1,q2⟩:=h
   have d1:=ih' 0 y hi0 a (by rw[hpc];exact q1) (want_part (List.mem_of_getElem? hi0) h21 h22) (by rw[hpc];exact fun g hg'=>hc g (List.dropLast_subset _ hg'))
   exact done_act q2 h0 hc (fun m hm'=>by
    simp[wants,uses] at hm'
    subst hm'
    exact d1)
  rw[if_neg h24] at h
  by_cases h26:e.op=26
  ·rw[if_pos h26] at h
   obtain ⟨y,z,hx⟩:=args_two hp1 (by omega)
   have hi0:e.args[0]? =some y:=by rw[hx];rfl
   have hi1:e.args[1]? =some z:=by rw[hx];rfl
   rw[isP_get hi0,isP_get hi1] at h
   have hpc0:pcl e c 0=c++ [⟨e.n,false⟩]:=by unfold pcl;rw[if_neg (by omega),if_pos h26];rfl
   have hpc1:pcl e c 1=c++ [⟨e.n,true⟩]:=by unfold pcl;rw[if_neg (by omega),if_pos h26];rfl
   have hn:Done (formN f S) e.n:=hm _ (want_named (named_iff.2 (by omega)))
   have hcc:∀b,∀g∈c++ [⟨e.n,b⟩],Done (formN f S) g.wire:=fun b g hg'=>by
    rcases List.mem_append.1 hg' with hg'|hg'
    ·exact hc g hg'
    ·rw[List.mem_singleton.1 hg'];exact hn
   obtain ⟨a,b,q1,q2,q5⟩:=h
   have d1:=ih' 0 y hi0 a (by rw[hpc0];exact q1) (want_part (List.mem_of_getElem? hi0) h21 h22) (by rw[hpc0];exact hcc _)
   have d2:=ih' 1 z hi1 b (by rw[hpc1];exact q2) (want_part (List.mem_of_getElem? hi1) h21 h22) (by rw[hpc1];exact hcc _)
   exact done_act q5 h0 hc (fun m hm'=>by
    simp[wants,uses] at hm'
    rcases hm' with rfl|rfl|rfl<;>assumption)
  rw[if_neg h26] at h
  have hpc:∀i,pcl e c i=c:=fun i=>by unfold pcl;rw[if_neg (by omega),if_neg (by omega)]
  by_cases h2:e.args.length=2
  ·rw[if_pos h2] at h
   obtain ⟨y,z,hx⟩:=len_two h2
   have hi0:e.args[0]? =some y:=by rw[hx];rfl
   have hi1:e.args[1]? =some z:=by rw[hx];rfl
   rw[isP_get hi0,isP_get hi1] at h
   obtain ⟨a,b,q1,q2,q5⟩:=h
   have d1:=hall 0 y hi0 (hpc _) a q1
   have d2:=hall 1 z hi1 (hpc _) b q2
   exact done_act q5 h0 hc (fun m hm'=>by
    have:m=a∨m=b∨m=0∧2<uses e.op:=by
     unfold wants at hm'
     dsimp only at hm'
     repeat' split at hm'
     all_goals simp at hm'
     ·exact .inl hm'
     ·rcases hm' with r|r
      ·exact .inl r
      ·exact .inr (.inl r)
     ·rcases hm' with r|r|r
      ·exact .inl r
      ·exact .inr (.inl r)
      ·exact .inr (.inr ⟨r,by omega⟩)
    rcases this with rfl|rfl|⟨_,r⟩
    ·exact d1
    ·exact d2
    ·unfold uses at r
     repeat' split at r
     all_goals omega)
  ·rw[if_neg h2] at h
   obtain ⟨y,hx⟩:∃x,e.args=[x]:=by
    have hops:=plain1_ops hp1
    by_cases h5:e.op=5∨e.op=6
    ·exact args_one hp1 (by omega)
    ·obtain ⟨x,y,hx⟩:=args_two hp1 (by omega)
     rw[hx] at h2
     exact absurd rfl h2
   have ho:e.op=5∨e.op=6:=by
    have hops:=plain1_ops hp1
    by_cases h5:e.op=5∨e.op=6
    ·exact h5
    ·obtain ⟨x',y',hx'⟩:=args_two hp1 (by omega)
     rw[hx'] at hx;simp at hx
   have hi0:e.args[0]? =some y:=by rw[hx];rfl
   rw[isP_get hi0] at h
   obtain ⟨a,q1,q2⟩:=h
   have d1:=hall 0 y hi0 (hpc _) a q1
   exact done_act q2 h0 hc (fun m hm'=>by
    rcases ho with r|r<;>rw[r] at hm'<;>simp[wants,uses] at hm'<;>subst hm'<;>exact d1)
end
section
variable {f:Fl} {D:List Int} {S:Mk} {ty n x k v:Int} {c:List Gd} {a:Ac} {e:Ex}
theorem kept_at (h:NV f D S) {m:Nat} (hk:S.keeps[m]? =some ((m:Int),n)):kept (formN f S) m=some n:=by
 unfold kept
 have hx:((formN f S).keeps.find? (fun k=>k.1==(m:Int))).isSome=true:=by
  rw[List.find?_isSome]
  exact ⟨_,List.mem_of_getElem? hk,by simp⟩
 obtain ⟨p,hp⟩:=Option.isSome_iff_exists.1 hx
 have h1:=List.find?_some hp
 obtain ⟨i,hi⟩:=List.getElem?_of_mem (List.mem_of_find?_eq_some hp)
 obtain ⟨k',n'⟩:=p
 have h2:=(h.ki i k' n' hi).1
 simp at h1
 obtain rfl:i=m:=by omega
 have hi':S.keeps[i]? =some (k',n'):=hi
 rw[hi'] at hk
 injection hk with hk
 injection hk with _ hk
 rw[hp,hk]
 rfl
theorem types_at {m:Nat} (h:S.cells[m]? =some (ty,v)):getI (types (formN f S).cells) m=ty:=by
 unfold getI types
 rw[Int.toNat_natCast,List.getD_eq_getElem?_getD,List.getElem?_map]
 show ((S.cells[m]?).map _).getD 0=ty
 rw[h];rfl
theorem act_ok (h:NV f D S) (ha:ActR S a):actOk (formN f S) a:=by
 have z:isW (formN f S) 0:=by
  have:=h.pre.length_le
  have:=h.one
  exact ⟨Int.le_refl _,by show (0:Int)<S.wires.length;omega⟩
 cases ha with
 |int n k c h1=>exact (act_iff1 rfl ⟨z,z,z⟩).2 ⟨⟨rfl,rfl,rfl⟩,(wat_form h1).2.1⟩
 |bool n k c h1 hk=>exact (act_iff2 rfl ⟨z,z,z⟩).2 ⟨⟨rfl,rfl,rfl⟩,(wat_form h1).2.1,.inr ⟨rfl,hk⟩⟩
 |cell n k ty v m c h1 hm hk=>
  obtain ⟨i,rfl,q1,q2⟩:=hk
  have:=(List.getElem?_eq_some_iff.1 q1).1
  refine (act_iff21 rfl ⟨z,z,z⟩).2 ⟨⟨rfl,rfl,rfl⟩,⟨by omega,by show (i:Int)<S.cells.length;omega⟩,?_,m,kept_at h q2,?_⟩
  ·rw[(wat_form h1).2.1,types_at q1]
  ·rw[(wat_form h1).2.2,(wat_form hm).2.2]
 |down n a ty c g h1 ha=>
  exact (act_iff24 rfl ⟨(wat_form ha).1,z,z⟩).2 ⟨⟨rfl,rfl,rfl⟩,⟨g,by rw[(wat_form h1).2.2,(wat_form ha).2.2]⟩,by rw[(wat_form h1).2.1,(wat_form ha).2.1]⟩
 |join n a b d ty c h1 ha hb hd=>
  exact (act_iff26 rfl ⟨(wat_form ha).1,(wat_form hb).1,(wat_form hd).1⟩).2 ⟨rfl,(wat_form ha).2.1,by rw[(wat_form h1).2.2,(wat_form ha).2.2],by rw[(wat_form h1).2.1,(wat_form hb).2.1],by rw[(wat_form h1).2.1,(wat_form hd).2.1],by rw[(wat_form hb).2.2,(wat_form h1).2.2],by rw[(wat_form hd).2.2,(wat_form h1).2.2]⟩
 |same n a ty c h1 ha=>
  exact (act_iff3 rfl ⟨(wat_form ha).1,z,z⟩).2 ⟨⟨rfl,rfl,rfl⟩,by rw[(wat_form h1).2.2,(wat_form ha).2.2],by rw[(wat_form h1).2.1,(wat_form ha).2.1]⟩
 |cho n a b d ty c h1 ha hb hd=>
  exact (act_iff27 rfl ⟨(wat_form ha).1,(wat_form hb).1,(wat_form hd).1⟩).2 ⟨rfl,⟨by rw[(wat_form h1).2.2,(wat_form ha).2.2],by rw[(wat_form h1).2.2,(wat_form hb).2.2],by rw[(wat_form h1).2.2,(wat_form hd).2.2]⟩,(wat_form ha).2.1,by rw[(wat_form hb).2.1,(wat_form hd).2.1],by rw[(wat_form h1).2.1,(wat_form hb).2.1]⟩
 |un op n a c ho h1 ha=>
  refine (act_iffOne ho ⟨(wat_form ha).1,z,z⟩).2 ⟨rfl,rfl,rfl,by rw[(wat_form h1).2.2,(wat_form ha).2.2],(wat_form ha).2.1,?_⟩
  rw[(wat_form h1).2.1,(sg_kind (op:=op) (by omega)).2.2.1]
 |bin op n a b ty c ho h1 ha hb hs=>
  refine (act_iffTwo ho ⟨(wat_form ha).1,(wat_form hb).1,z⟩).2 ⟨rfl,rfl,⟨by rw[(wat_form h1).2.2,(wat_form ha).2.2],by rw[(wat_form h1).2.2,(wat_form hb).2.2]⟩,?_,by rw[(wat_form ha).2.1,(wat_form hb).2.1],?_⟩
  ·rw[(wat_form h1).2.1,(sg_kind (op:=op) (by omega)).2.2.1]
  ·rw[(wat_form ha).2.1];exact hs
theorem cells_ok (h:NV f D S):cellsOk (formN f S):=by
 refine ⟨h.vo,h.cl,fun p hp=>?_,fun i j x y hij hx hy=>?_,fun m hm=>?_⟩
 ·obtain ⟨i,hi⟩:=List.getElem?_of_mem hp
  obtain ⟨k',n'⟩:=p
  obtain ⟨rfl,ty',v',c',q1,q2⟩:=h.ki i k' n' hi
  have:=(List.getElem?_eq_some_iff.1 q1).1
  exact ⟨by dsimp only;omega,by show (i:Int)<S.cells.length;omega,(wat_form q2).1,by dsimp only;rw[(wat_form q2).2.1,types_at q1]⟩
 ·obtain ⟨k1,n1⟩:=x
  obtain ⟨k2,n2⟩:=y
  have h1:=(h.ki i k1 n1 hx).1
  have h2:=(h.ki j k2 n2 hy).1
  dsimp only
  omega
 ·have hm':m<S.keeps.length:=by rw[h.kc];exact hm
  have hx:=List.getElem?_eq_getElem hm'
  exact ⟨_,List.getElem_mem hm',(h.ki m _ _ hx).1⟩
theorem formN_ok (h:flatOk f) (hs:(normS f).spent=false):formOk (formN f (normS f)):=by
 obtain ⟨v,g⟩:=normTo_nv h f.defs.length (Nat.le_refl _) (by rw[normTo_all];exact hs)
 rw[normTo_all,List.take_length] at v
 rw[normTo_all] at g
 obtain ⟨⟨hw1,hw2,hw3⟩,hi,ho,hd,hdf,hr⟩:=h
 have hd2:=defined_iff.1 hd
 generalize normS f=S at*
 have hdst:∀m:Int,m∈f.fm.acts.map (·.dst)↔m∈f.defs.map (·.1):=fun m=>by
  show m∈(f.defs.map _).map _↔_
  rw[List.map_map];rfl
 have hp1:∀m:Int,DoneL f m→Done (formN f S) m:=fun m hD=>by
  induction hD with
  |ins n h=>exact .ins n h
  |def_ d hd' hw hg ih1 ih2=>
   obtain ⟨j,hj⟩:=List.getElem?_of_mem hd'
   obtain ⟨n,q1,q2⟩:=g.defs j d (List.getElem?_eq_some_iff.1 hj).1 hj
   obtain ⟨r1,r2,r3,r4,r5⟩:=hdf d hd'
   have hdw:isW f.fm d.1:=hd2.2.1 ⟨0,d.1,0,0,0,0⟩ (List.mem_map_of_mem (f:=fun d:Int × Ex=>(⟨0,d.1,0,0,0,0⟩:Ac)) hd')
   have hn:=isW_done d.2 r1 n _ r4 q1 ih1 ih2
   exact done_act q2 (wat_flat v.pre hdw) ih2 (fun m hm'=>by
    simp[wants,uses] at hm'
    subst hm'
    exact hn)
 have hp:∀m:Int,isW f.fm m→Done (formN f S) m:=fun m hm=>by
  obtain ⟨k,rfl⟩:=Int.eq_ofNat_of_zero_le hm.1
  have hk:(k:Int)<f.wires.length:=hm.2
  exact hp1 k (hr k (by omega))
 have hports:∀l,portsOk f.fm l→portsOk (formN f S) l:=fun l hl=>⟨fun n hn=>by
  obtain ⟨q1,q2⟩:=hl.1 n hn
  obtain ⟨r1,_,r3⟩:=flat_form v.pre q1
  exact ⟨r1,by rw[r3];exact q2⟩,hl.2⟩
 have hact:∀x∈S.acts,actOk (formN f S) x:=fun x hx=>act_ok v (v.act x hx)
 have hdw:∀a∈S.acts,isW (formN f S) a.dst:=fun a ha=>by
  rcases (v.mem _).1 (List.mem_map_of_mem ha) with q|q
  ·exact ⟨by omega,by show a.dst<(S.wires.length:Int);omega⟩
  ·obtain ⟨b,hb,hb2⟩:=List.mem_map.1 ((hdst _).2 q)
   have:=flat_form v.pre (hd2.2.1 b hb)
   rw[hb2] at this
   exact this.1
 refine ⟨⟨fun w hw=>?_,?_,v.le⟩,hports _ hi,hports _ ho,cells_ok v,defined_iff.2 ⟨?_,hdw,fun n hn=>?_⟩,hact,?_⟩
 ·obtain ⟨q1,q2⟩:=v.wo w hw
  refine ⟨q1,fun i gd hgd=>?_⟩
  obtain ⟨r1,r2,r3⟩:=q2 i gd hgd
  obtain ⟨u1,u2,u3⟩:=flat_form v.pre r1
  exact ⟨u1,by rw[u2];exact r2,by rw[u3];exact r3⟩
 ·have:=v.pre.length_le
  show 1≤S.wires.length
  omega
 ·have h1:=hd2.1
  unfold dsts at h1⊢
  rw[List.nodup_append] at h1⊢
  refine ⟨h1.1,v.nd,fun a ha b hb hab=>?_⟩
  subst hab
  have hai:=(hi.1 a ha).1
  have hal:a<f.wires.length:=hai.2
  rcases (v.mem a).1 hb with q|q
  ·omega
  ·exact h1.2.2 a ha a ((hdst a).2 q) rfl
 ·have hn':n<S.wires.length:=hn
  by_cases hl:n<f.wires.length
  ·rcases List.mem_append.1 (hd2.2.2 n hl) with q|q
   ·exact List.mem_append_left _ q
   ·exact List.mem_append_right _ ((v.mem n).2 (.inr ((hdst n).1 q)))
  ·exact List.mem_append_right _ ((v.mem n).2 (.inl ⟨by omega,by omega⟩))
 ·intro n
  induction n using Nat.strongRecOn with
  |ind n ih=>
   intro hn
   have hn':n<S.wires.length:=hn
   by_cases hl:n<f.wires.length
   ·exact hp n ⟨by omega,by show (n:Int)<f.wires.length;omega⟩
   ·obtain ⟨a,ha,hd'⟩:=List.mem_map.1 ((v.mem n).2 (.inl ⟨by omega,by omega⟩))
    have hdst':a.dst=(n:Int):=hd'
    have hw:=wat_form (f:=f) (S:=S) (n:=(n:Int)) ⟨n,rfl,List.getElem?_eq_getElem hn'⟩
    have hck:=(v.wo _ (List.getElem_mem hn')).2
    rw[←hdst']
    refine Done.act a ha (fun m hm=>?_) (fun gd hg=>?_)
    ·have hlt:=v.lt a ha (by omega) m hm
     have h0:isW (formN f S) m:=by
      obtain ⟨w1,w2,w3,_⟩:=hact a ha
      unfold wants at hm
      repeat' split at hm
      all_goals simp at hm
      ·subst hm;exact w1
      ·rcases hm with rfl|rfl
       ·exact w1
       ·exact w2
      ·rcases hm with rfl|rfl|rfl
       ·exact w1
       ·exact w2
       ·exact w3
     obtain ⟨i,rfl⟩:=Int.eq_ofNat_of_zero_le h0.1
     exact ih i (by omega) (by have h9:(i:Int)<S.wires.length:=h0.2;show i<S.wires.length;omega)
    ·rw[hdst',hw.2.2] at hg
     obtain ⟨i,hi'⟩:=List.getElem?_of_mem hg
     exact hp _ (hck i gd hi').1
end
theorem sum_le_mul {α:Type} {g:α→Nat} {B:Nat}:∀(l:List α),(∀x∈l,g x≤B)→(l.map g).sum≤B*l.length
 | [],_=>by simp
 |x::l,h=>by
  simp only[List.map_cons,List.sum_cons,List.length_cons]
  have h1:=h x (by simp)
  have h2:=sum_le_mul l (fun y hy=>h y (by simp[hy]))
  rw[Nat.mul_succ]
  omega
structure MadeOk (f:Fl) (X:Fm):Prop where
 ok:formOk X
 acts:X.acts.length≤1600
 wires:X.wires.length≤mwTo f f.defs.length
 cells:X.cells.length≤mcTo f f.defs.length
 ins:X.ins.map (tyOf X)=f.ins.map (tyOf f.fm)
 outs:X.outs.map (tyOf X)=f.outs.map (tyOf f.fm)
theorem made_ok {f:Fl} (h:flatOk f) (hs:(normS f).spent=false):MadeOk f (formN f (normS f)):=by
 have hok:=formN_ok h hs
 obtain ⟨v,_⟩:=normTo_nv h f.defs.length (Nat.le_refl _) (by rw[normTo_all];exact hs)
 rw[normTo_all] at v
 obtain ⟨h1,h2,_⟩:=normS_size (f:=f) (fun d hd=>(h.2.2.2.2.1 d hd).1)
 have hc:=(defined_by (fun n hn=>(hok.2.1.1 n hn).1) hok.2.2.2.2.1).1
 have hw:=hok.1.2.2
 refine ⟨hok,by omega,h1,h2,?_,?_⟩
 ·exact List.map_congr_left (fun n hn=>(flat_form v.pre (h.2.1.1 n hn).1).2.1)
 ·exact List.map_congr_left (fun n hn=>(flat_form v.pre (h.2.2.1.1 n hn).1).2.1)
theorem spent_more {f:Fl} (h:flatOk f) (hs:(normS f).spent=true):1600<mwTo f f.defs.length∨60<mcTo f f.defs.length:=
 (normS_size (f:=f) (fun d hd=>(h.2.2.2.2.1 d hd).1)).2.2 hs
theorem flat_tys {f:Fl} (h:flatOk f) {n:Int} (hn:isW f.fm n):1≤tyOf f.fm n∧tyOf f.fm n≤2:=by
 refine' zq93
 have:=(h.1.1 _ (List.getElem_mem hm)).1
 unfold tyOf
 rw[wAt_some (f:=f.fm) hx]
 omega
end Go.Proofs.YtckognjamlckcaaGreatDoor.Fo
