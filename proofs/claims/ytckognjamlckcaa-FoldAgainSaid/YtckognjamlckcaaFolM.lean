/-
  fold: a wire is settled. fold: what is needed, as plain data. fold: all is settled, all that is needed is met: plain data.
-/
import Derived.Test.YtckognjamlckcaaFolD
import Derived.BigRegion
import Derived.Test.YtckognjamlckcaaFldU
namespace Go.Proofs.Ytckognjamlckcaa.Fo
open Vf Ar
section
variable {f:Fm} {R R1 R2 R3:List Int} {A A2 A3:List Ac} {ds ds1 ds2 ds3:List Bool} {S S2 S3:Int→Prop} {w:Int} {x:Ac} {i:Nat}
theorem FInv.set_root (hf:formOk f) (hI:FInv f R A S) (hw:isW f w) (hn:¬S w) (v:Int):FInv f (R.set w.toNat v) A S:=
 ⟨by simp[hI.rl],hI.ad,hI.sw,hI.old,fun u hu hs=>by rw[getI_set_ne hw.1 (hI.sw u hs).1 (fun e=>hn (e▸hs))];exact hI.inp u hu hs,
  fun x hx hs=>(hI.act x hx hs).keep hf hI hs (fun u hu=>getI_set_ne hw.1 (hI.sw u hu).1 (fun e=>hn (e▸hu))) (fun _ _=>rfl) (fun _ h=>h)⟩
theorem wants_len (hu:0≤uses x.op):((wants x).length:Int)=uses x.op:=by
 have h3:=uses_le3 x.op
 unfold wants
 split
 ·simp;omega
 split
 ·simp;omega
 split
 ·simp;omega
 ·simp;omega
def rawAc (R:List Int) (x:Ac):Ac:=⟨x.op,x.dst,getI R x.a,getI R x.b,getI R x.c,x.k⟩
theorem root_raw (hu:1≤uses x.op):rootAc R x=⟨x.op,x.dst,getI R x.a,if (wants (rawAc R x)).length<2 then 0 else getI R x.b,if (wants (rawAc R x)).length<3 then 0 else getI R x.c,x.k⟩:=by
 have hl:((wants (rawAc R x)).length:Int)=uses x.op:=wants_len (x:=rawAc R x) (by show 0≤uses x.op;omega)
 unfold rootAc
 rw[if_neg (by omega)]
 congr 1
 ·by_cases h:2≤uses x.op
  ·rw[if_pos h,if_neg (by omega)]
  ·rw[if_neg h,if_pos (by omega)]
 ·by_cases h:3≤uses x.op
  ·rw[if_pos h,if_neg (by omega)]
  ·rw[if_neg h,if_pos (by omega)]
theorem root_a (hu:1≤uses x.op):(rootAc R x).a=getI R x.a:=by unfold rootAc;rw[if_neg (by omega)]
theorem root_b (hu:2≤uses x.op):(rootAc R x).b=getI R x.b:=by unfold rootAc;rw[if_neg (by omega)];exact if_pos hu
theorem fin_const (h:uses x.op≤0):finF f R A i x=(R,A):=by unfold finF;rw[if_pos h]
theorem fin_var (h:x.op=3):finF f R A i x=(R.set x.dst.toNat (getI R x.a),A.set i (rootAc R x)):=by
 unfold finF;rw[if_neg (by rw[uses1 (.inl h)];omega),if_pos h]
theorem fin_if (h:x.op=27):finF f R A i x=(chF R (A.set i (rootAc R x)) x.dst (rawAc R x),A.set i (rootAc R x)):=by
 unfold finF;rw[if_neg (by rw[uses3 (.inr h)];omega),if_neg (by omega),if_pos h];rfl
theorem fin_when (h:x.op=24):finF f R A i x=(R,match numAt (A.set i (rootAc R x)) (getI R x.a) with|some k=>(A.set i (rootAc R x)).set i (turnAc f x.dst k)|none=>A.set i (rootAc R x)):=by
 unfold finF;rw[if_neg (by rw[uses1 (.inr (.inl h))];omega),if_neg (by omega),if_neg (by omega),if_pos h]
 cases numAt (A.set i (rootAc R x)) (getI R x.a)<;>rfl
theorem fin_merge (h:x.op=26):finF f R A i x=(R,A.set i (rootAc R x)):=by
 unfold finF;rw[if_neg (by rw[uses3 (.inl h)];omega),if_neg (by omega),if_neg (by omega),if_neg (by omega),if_neg (by omega)]
theorem fin_rec (h:5≤x.op∧x.op≤20):finF f R A i x=(R,recF f (A.set i (rootAc R x)) i (rootAc R x)):=by
 have hu:1≤uses x.op:=by
  rcases Int.lt_or_le x.op 7 with g|g
  ·rw[uses1 (by omega)];omega
  ·rw[uses2 ⟨g,h.2⟩];omega
 have e1:(rootAc R x).op=x.op:=root_op
 have e2:(rootAc R x).dst=x.dst:=rootAc_dst R x
 unfold finF recF
 rw[if_neg (by omega),if_neg (by omega),if_neg (by omega),if_neg (by omega),if_pos h,root_a hu,e1,e2]
 congr 1
 cases numAt (A.set i (rootAc R x)) (getI R x.a) with
 |none=>rfl
 |some p=>
  dsimp only
  by_cases g:x.op=5∨x.op=6
  ·rw[if_pos g,if_pos g]
  ·rw[if_neg g,if_neg g,root_b (by rw[uses2 (by omega)];omega)]
   cases numAt (A.set i (rootAc R x)) (getI R x.b)<;>rfl
theorem fin_R (hw:0≤x.dst) {v:Int} (h0:0≤v) (h:v≠x.dst):getI (finF f R A i x).1 v=getI R v:=by
 have e:∀y,getI (R.set x.dst.toNat y) v=getI R v:=fun y=>getI_set_ne hw h0 (Ne.symm h)
 unfold finF
 repeat' split
 all_goals first|rfl|exact e _
structure PSt (f:Fm) (R1:List Int) (ds1:List Bool) (S:Int→Prop) (w:Int) (R2:List Int) (A2:List Ac) (ds2:List Bool) (S2:Int→Prop):Prop where
 inv:FInv f R2 A2 S2
 sub:∀v,S v→S2 v
 old:∀v,S2 v→S v∨rkF f v<rkF f w
 dn:∀v,isW f v→bGet ds2 v=true→bGet ds1 v=true∨S2 v
 sd:∀v,S2 v→bGet ds2 v=true
 up:∀v,isW f v→bGet ds1 v=true→bGet ds2 v=true
 rt:∀v,isW f v→¬S2 v→getI R2 v=getI R1 v
structure SSt (f:Fm) (R:List Int) (ds:List Bool) (S:Int→Prop) (w:Int) (R2:List Int) (A2:List Ac) (ds2:List Bool) (S2:Int→Prop):Prop where
 inv:FInv f R2 A2 S2
 me:S2 w
 sub:∀v,S v→S2 v
 old:∀v,S2 v→S v∨rkF f v≤rkF f w
 dn:∀v,isW f v→bGet ds2 v=true→bGet ds v=true∨S2 v
 sd:∀v,S2 v→bGet ds2 v=true
 up:∀v,isW f v→bGet ds v=true→bGet ds2 v=true
 rt:∀v,isW f v→¬S2 v→getI R2 v=getI R v
theorem PSt.step (h:PSt f R1 ds1 S w R2 A2 ds2 S2) {p:Int} (hp:rkF f p<rkF f w) (g:SSt f R2 ds2 S2 p R3 A3 ds3 S3):PSt f R1 ds1 S w R3 A3 ds3 S3:=
 ⟨g.inv,fun v hv=>g.sub v (h.sub v hv),fun v hv=>by
  rcases g.old v hv with q|q
  ·exact h.old v q
  ·exact .inr (by omega),fun v hw hv=>by
  rcases g.dn v hw hv with q|q
  ·rcases h.dn v hw q with r|r
   ·exact .inl r
   ·exact .inr (g.sub v r)
  ·exact .inr q,g.sd,fun v hw hv=>g.up v hw (h.up v hw hv),fun v hw hv=>by
  rw[g.rt v hw hv]
  exact h.rt v hw (fun q=>hv (g.sub v q))⟩
theorem bGet_set_self {ds:List Bool} {m:Nat} (hm:m<ds.length):bGet (ds.set m true) (m:Int)=true:=by
 simp[bGet,List.getD_eq_getElem?_getD,hm]
theorem bGet_set_ne {ds:List Bool} {m:Nat} {v:Int} (h0:0≤v) (h:v≠m):bGet (ds.set m true) v=bGet ds v:=by
 have:m≠v.toNat:=by omega
 simp[bGet,List.getD_eq_getElem?_getD,this]
theorem PSt.start {m:Nat} (hf:formOk f) (hI:FInv f R A S) (hw:isW f (m:Int)) (hn:¬S (m:Int)) (hsd:∀v,S v→bGet ds v=true):PSt f (R.set m (m:Int)) (ds.set m true) S (m:Int) (R.set m (m:Int)) A (ds.set m true) S:=
 ⟨by have:=hI.set_root hf hw hn (m:Int);simpa using this,fun _ h=>h,fun _ h=> .inl h,fun _ _ h=> .inl h,fun v hv=>by
  by_cases e:v=m
  ·exact absurd (e▸hv) hn
  ·rw[bGet_set_ne (hI.sw v hv).1 e];exact hsd v hv,fun _ _ h=>h,fun _ _ _=>rfl⟩
theorem PSt.pre {m:Nat} (h:PSt f R1 (ds.set m true) S (m:Int) R2 A2 ds2 S2) (hS:∀v,isW f v→bGet ds v=true→rkF f v≤rkF f (m:Int)→S v) {p:Int} (hp:rkF f p<rkF f (m:Int)):∀v,isW f v→bGet ds2 v=true→rkF f v≤rkF f p→S2 v:=fun v hw hv hr=>by
 rcases h.dn v hw hv with q|q
 ·have hne:v≠m:=fun e=>by rw[e] at hr;omega
  rw[bGet_set_ne hw.1 hne] at q
  exact h.sub v (hS v hw q (by omega))
 ·exact q
theorem PSt.done {m:Nat} (hf:formOk f) (h:PSt f (R.set m (m:Int)) (ds.set m true) S (m:Int) R2 A2 ds2 S2) (hl:m<ds.length) (hrl:m<R.length) (hn:¬S (m:Int)) (hi:f.acts[i]? =some x) (hx:x.dst=m) (hp:∀n∈wants x,S2 n):SSt f R ds S (m:Int) (finF f R2 A2 i x).1 (finF f R2 A2 i x).2 ds2 (fun v=>S2 v∨v=m):=by
 have hxm:=List.mem_of_getElem? hi
 have hw:isW f (m:Int):=hx▸(hf.2.2.2.2.1.2.1 x hxm).1
 have hn2:¬S2 (m:Int):=fun g=>by
  rcases h.old _ g with q|q
  ·exact hn q
  ·omega
 have hr:getI R2 x.dst=x.dst:=by
  rw[hx,h.rt _ hw hn2]
  simp[getI,List.getD_eq_getElem?_getD,hrl]
 have hfin:=fin_inv hf h.inv hi (by rw[hx];exact hn2) hp hr
 rw[hx] at hfin
 refine ⟨hfin,.inr rfl,fun v hv=> .inl (h.sub v hv),fun v hv=>?_,fun v hv hd=>?_,fun v hv=>?_,fun v hv hd=>h.up v hv ?_,fun v hv hs=>?_⟩
 ·rcases hv with hv|rfl
  ·rcases h.old v hv with q|q
   ·exact .inl q
   ·exact .inr (by omega)
  ·exact .inr (Nat.le_refl _)
 ·rcases h.dn v hv hd with q|q
  ·by_cases e:v=m
   ·exact .inr (.inr e)
   ·rw[bGet_set_ne hv.1 e] at q;exact .inl q
  ·exact .inr (.inl q)
 ·rcases hv with hv|rfl
  ·exact h.sd v hv
  ·exact h.up _ hw (bGet_set_self hl)
 ·by_cases e:v=m
  ·rw[e];exact bGet_set_self hl
  ·rw[bGet_set_ne hv.1 e];exact hd
 ·have e:v≠m:=fun e=>hs (.inr e)
  rw[fin_R (by rw[hx];omega) hv.1 (by rw[hx];exact e),h.rt v hv (fun g=>hs (.inl g))]
  have:=getI_set_ne (l:=R) (v:=(m:Int)) hw.1 hv.1 (Ne.symm e)
  simpa using this
theorem PSt.orig {m:Nat} (hf:formOk f) (h:PSt f R1 ds1 S (m:Int) R2 A2 ds2 S2) (hn:¬S (m:Int)) (hi:f.acts[i]? =some x) (hx:x.dst=m):A2[i]? =some x:=by
 have hn2:¬S2 x.dst:=fun g=>by
  rw[hx] at g
  rcases h.old _ g with q|q
  ·exact hn q
  ·omega
 obtain ⟨y,hy,_,hya⟩:=act_of_idx hf.2.2.2.2.1 h.inv.ad hi
 have:=h.inv.old x (List.mem_of_getElem? hi) hn2
 rw[hya] at this
 rw[hy,this]
theorem SSt.input {m:Nat} (hf:formOk f) (hI:FInv f R A S) (hi:(m:Int)∈f.ins) (hn:¬S (m:Int)) (hsd:∀v,S v→bGet ds v=true) (hl:m<ds.length) (hrl:m<R.length):SSt f R ds S (m:Int) (R.set m (m:Int)) A (ds.set m true) (fun v=>S v∨v=m):=by
 have hw:=(hf.2.1.1 _ hi).1
 have hr:∀v,0≤v→v≠(m:Int)→getI (R.set m (m:Int)) v=getI R v:=fun v h0 e=>by
  have:=getI_set_ne (l:=R) (v:=(m:Int)) hw.1 h0 (Ne.symm e)
  simpa using this
 have hrm:getI (R.set m (m:Int)) (m:Int)=m:=by simp[getI,List.getD_eq_getElem?_getD,hrl]
 refine ⟨hI.more hf hw hn (by simp) rfl hr (fun _ _=>rfl) (fun _=>hrm) (fun x hx e=>absurd (by rw[e];exact hi) (hf.2.2.2.2.1.2.1 x hx).2),.inr rfl,fun v hv=> .inl hv,fun v hv=>?_,fun v hv hd=>?_,fun v hv=>?_,fun v hv hd=>?_,fun v hv hs=>hr v hv.1 (fun e=>hs (.inr e))⟩
 ·rcases hv with hv|rfl
  ·exact .inl hv
  ·exact .inr (Nat.le_refl _)
 ·by_cases e:v=m
  ·exact .inr (.inr e)
  ·rw[bGet_set_ne hv.1 e] at hd;exact .inl hd
 ·rcases hv with hv|rfl
  ·by_cases e:v=m
   ·rw[e];exact bGet_set_self hl
   ·rw[bGet_set_ne (hI.sw v hv).1 e];exact hsd v hv
  ·exact bGet_set_self hl
 ·by_cases e:v=m
  ·rw[e];exact bGet_set_self hl
  ·rw[bGet_set_ne hv.1 e];exact hd
theorem SSt.same (hI:FInv f R A S) (hw:S w) (hsd:∀v,S v→bGet ds v=true):SSt f R ds S w R A ds S:=⟨hI,hw,fun _ h=>h,fun _ h=> .inl h,fun _ _ h=> .inl h,hsd,fun _ _ h=>h,fun _ _ _=>rfl⟩
end
end Go.Proofs.Ytckognjamlckcaa.Fo
namespace Go.Proofs.Ytckognjamlckcaa.Fo
open Vf Ar
section
variable {f:Fm} {R:List Int} {A:List Ac} {fr:List Int} {need need' need'' cl cl' cl'':List Bool}
def wSucc (f:Fm) (R:List Int) (A:List Ac) (v u:Int):Prop:=(∃g∈clockOf f v,u=getI R g.wire)∨∃y,actAt A v=some y∧u∈wants y
def wClosed (f:Fm) (R:List Int) (A:List Ac) (fr:List Int) (P:Int→Prop):Prop:=∀v,P v→(∀u,wSucc f R A v u→P u)∧∀y,actAt A v=some y→y.op=21→P (getI R (getI fr y.k))
structure WAcc (f:Fm) (R:List Int) (A:List Ac) (fr:List Int) (need cl:List Bool) (n:Int) (need' cl':List Bool):Prop where
 me:nd need' n
 up:∀v,nd need v→nd need' v
 uc:∀c,nd cl c→nd cl' c
 c1:∀v,nd need' v→v=n∨nd need v∨((∀u,wSucc f R A v u→nd need' u)∧∀y,actAt A v=some y→y.op=21→nd cl' y.k)
 c2:∀c,nd cl' c→nd cl c∨nd need' (getI R (getI fr c))
 re:∀P,wClosed f R A fr P→P n→∀v,nd need' v→nd need v∨P v
 rc:∀c,nd cl' c→nd cl c∨∃v y,nd need' v∧actAt A v=some y∧y.op=21∧y.k=c
structure WSt (f:Fm) (R:List Int) (A:List Ac) (fr:List Int) (need cl:List Bool) (n:Int) (need' cl':List Bool):Prop where
 me:nd need' n
 up:∀v,nd need v→nd need' v
 uc:∀c,nd cl c→nd cl' c
 c1:∀v,nd need' v→nd need v∨((∀u,wSucc f R A v u→nd need' u)∧∀y,actAt A v=some y→y.op=21→nd cl' y.k)
 c2:∀c,nd cl' c→nd cl c∨nd need' (getI R (getI fr c))
 re:∀P,wClosed f R A fr P→P n→∀v,nd need' v→nd need v∨P v
 rc:∀c,nd cl' c→nd cl c∨∃v y,nd need' v∧actAt A v=some y∧y.op=21∧y.k=c
theorem nd_set {l:List Bool} {m:Nat} (hm:m<l.length) {v:Int}:nd (l.set m true) v↔nd l v∨v=m:=by
 constructor
 ·rintro ⟨h0,h1⟩
  by_cases e:v=m
  ·exact .inr e
  ·rw[bGet_set_ne h0 e] at h1
   exact .inl ⟨h0,h1⟩
 ·rintro (⟨h0,h1⟩|rfl)
  ·by_cases e:v=m
   ·rw[e];exact ⟨by omega,bGet_set_self hm⟩
   ·exact ⟨h0,by rw[bGet_set_ne h0 e];exact h1⟩
  ·exact ⟨by omega,bGet_set_self hm⟩
theorem WSt.same {n:Int} (h:nd need n):WSt f R A fr need cl n need cl:=⟨h,fun _ h=>h,fun _ h=>h,fun _ h=> .inl h,fun _ h=> .inl h,fun _ _ _ _ h=> .inl h,fun _ h=> .inl h⟩
theorem WAcc.start {m:Nat} (hm:m<need.length):WAcc f R A fr need cl (m:Int) (need.set m true) cl:=
 ⟨(nd_set hm).2 (.inr rfl),fun v h=>(nd_set hm).2 (.inl h),fun _ h=>h,fun v h=>by
  rcases (nd_set hm).1 h with g|g
  ·exact .inr (.inl g)
  ·exact .inl g,fun _ h=> .inl h,fun P _ hn v h=>by
  rcases (nd_set hm).1 h with g|g
  ·exact .inl g
  ·exact .inr (g▸hn),fun _ h=> .inl h⟩
theorem WAcc.step {n u:Int} (h:WAcc f R A fr need cl n need' cl') (hu:∀P,wClosed f R A fr P→P n→P u) (g:WSt f R A fr need' cl' u need'' cl''):WAcc f R A fr need cl n need'' cl''∧nd need'' u:=
 ⟨⟨g.up _ h.me,fun v hv=>g.up v (h.up v hv),fun c hc=>g.uc c (h.uc c hc),fun v hv=>by
  rcases g.c1 v hv with q|q
  ·rcases h.c1 v q with r|r|⟨r1,r2⟩
   ·exact .inl r
   ·exact .inr (.inl r)
   ·exact .inr (.inr ⟨fun w hw=>g.up w (r1 w hw),fun y hy ho=>g.uc _ (r2 y hy ho)⟩)
  ·exact .inr (.inr q),fun c hc=>by
  rcases g.c2 c hc with q|q
  ·rcases h.c2 c q with r|r
   ·exact .inl r
   ·exact .inr (g.up _ r)
  ·exact .inr q,fun P hP hn v hv=>by
  rcases g.re P hP (hu P hP hn) v hv with q|q
  ·exact h.re P hP hn v q
  ·exact .inr q,fun c hc=>by
  rcases g.rc c hc with q|q
  ·rcases h.rc c q with r|⟨v,y,r1,r2⟩
   ·exact .inl r
   ·exact .inr ⟨v,y,g.up v r1,r2⟩
  ·exact .inr q⟩,g.me⟩
theorem WAcc.cell {n:Int} {m:Nat} {y:Ac} (h:WAcc f R A fr need cl n need' cl') (hm:m<cl'.length) (hy:actAt A n=some y) (ho:y.op=21) (hk:y.k=m) (g:WSt f R A fr need' (cl'.set m true) (getI R (getI fr (m:Int))) need'' cl''):WAcc f R A fr need cl n need'' cl''∧nd cl'' (m:Int):=by
 have hu:∀P,wClosed f R A fr P→P n→P (getI R (getI fr (m:Int))):=fun P hP hn=>by rw[←hk];exact (hP n hn).2 y hy ho
 have hc:nd cl'' (m:Int):=g.uc _ ((nd_set hm).2 (.inr rfl))
 refine ⟨⟨g.up _ h.me,fun v hv=>g.up v (h.up v hv),fun c hc=>g.uc c ((nd_set hm).2 (.inl (h.uc c hc))),fun v hv=>?_,fun c hc=>?_,fun P hP hn v hv=>?_,fun c hc=>?_⟩,hc⟩
 ·rcases g.c1 v hv with q|q
  ·rcases h.c1 v q with r|r|⟨r1,r2⟩
   ·exact .inl r
   ·exact .inr (.inl r)
   ·exact .inr (.inr ⟨fun w hw=>g.up w (r1 w hw),fun y hy ho=>g.uc _ ((nd_set hm).2 (.inl (r2 y hy ho)))⟩)
  ·exact .inr (.inr q)
 ·rcases g.c2 c hc with q|q
  ·rcases (nd_set hm).1 q with q|rfl
   ·rcases h.c2 c q with r|r
    ·exact .inl r
    ·exact .inr (g.up _ r)
   ·exact .inr g.me
  ·exact .inr q
 ·rcases g.re P hP (hu P hP hn) v hv with q|q
  ·exact h.re P hP hn v q
  ·exact .inr q
 ·rcases g.rc c hc with q|q
  ·rcases (nd_set hm).1 q with q|rfl
   ·rcases h.rc c q with r|⟨v,y,r1,r2⟩
    ·exact .inl r
    ·exact .inr ⟨v,y,g.up v r1,r2⟩
   ·exact .inr ⟨n,y,g.up _ h.me,hy,ho,hk⟩
  ·exact .inr q
theorem WAcc.done {n:Int} (h:WAcc f R A fr need cl n need' cl') (h1:∀u,wSucc f R A n u→nd need' u) (h2:∀y,actAt A n=some y→y.op=21→nd cl' y.k):WSt f R A fr need cl n need' cl':=
 ⟨h.me,h.up,h.uc,fun v hv=>by
  rcases h.c1 v hv with rfl|q|q
  ·exact .inr ⟨h1,h2⟩
  ·exact .inl q
  ·exact .inr q,h.c2,h.re,h.rc⟩
theorem FInv.roots (hf:formOk f) (hI:FInv f R A (isW f)) (hfr:∀c:Int,0≤c→c<f.cells.length→isW f (getI fr c)):wClosed f R A fr (fun v=>isW f v∧getI R v=v):=by
 rintro v ⟨hv,hr⟩
 have key:∀y,actAt A v=some y→∃x∈f.acts,x.dst=v∧ActSt f R A (isW f) x:=fun y hy=>by
  obtain ⟨h1,h2⟩:=actAt_dst hy
  have hm:v∈dstsOf f.acts:=by rw[←hI.ad,←h2];exact List.mem_map.2 ⟨y,h1,rfl⟩
  obtain ⟨x,hx,e⟩:=List.mem_map.1 hm
  exact ⟨x,hx,e,hI.act x hx (by rw[e];exact hv)⟩
 refine ⟨fun u hu=>?_,fun y hy ho=>?_⟩
 ·rcases hu with ⟨g,hg,rfl⟩|⟨y,hy,hu⟩
  ·have:=hI.rt hf (clock_ok hf.1 hv g hg).1
   exact ⟨hI.sw _ this.1,this.2.1⟩
  ·obtain ⟨x,hx,rfl,ha⟩:=key y hy
   rcases ha.now with ⟨k,h1,h2,_⟩|⟨_,h2,_⟩
   ·rw[hy] at h1
    injection h1 with h1
    have h0:uses y.op=0:=by
     rw[h1]
     unfold uses
     exact if_pos (by rcases h2 with g|⟨g,_⟩<;>simp[g])
    have:=(wants_uses (by omega) hu).1
    omega
   ·rw[hy] at h2
    injection h2 with h2
    rw[h2] at hu
    obtain ⟨p,hp,rfl⟩:=root_wants (hf.2.2.2.2.2.1 x hx).2.2.2.1 hu
    have:=hI.rt hf (ha.ps p hp)
    exact ⟨hI.sw _ this.1,this.2.1⟩
 ·obtain ⟨x,hx,rfl,ha⟩:=key y hy
  have hkk:0≤y.k∧y.k<f.cells.length:=by
   rcases ha.now with ⟨k,h1,h2,_⟩|⟨_,h2,_⟩
   ·rw[hy] at h1
    injection h1 with h1
    have:y.op=tyOf f x.dst:=by rw[h1]
    omega
   ·rw[hy] at h2
    injection h2 with h2
    have h3:x.op=21:=by rw[←ho,h2,root_op]
    have:=(hf.2.2.2.2.2.1 x hx).2.2.2.2.2.2.2.2
    rw[if_neg (by omega),if_neg (by omega),if_pos h3] at this
    have e:y.k=x.k:=by rw[h2];unfold rootAc;split<;>rfl
    rw[e]
    exact ⟨this.1,this.2.1⟩
  have:=hI.rt hf (hfr _ hkk.1 hkk.2)
  exact ⟨hI.sw _ this.1,this.2.1⟩
theorem FInv.ac_facts (hf:formOk f) (hI:FInv f R A (isW f)) {v:Int} (_hv:isW f v) {y:Ac} (hy:actAt A v=some y):0≤uses y.op∧(y.op=21→0≤y.k∧y.k<f.cells.length):=by
 obtain ⟨h1,h2⟩:=actAt_dst hy
 have hm:v∈dstsOf f.acts:=by rw[←hI.ad,←h2];exact List.mem_map.2 ⟨y,h1,rfl⟩
 obtain ⟨x,hx,rfl⟩:=List.mem_map.1 hm
 have ha:=hI.act x hx (hf.2.2.2.2.1.2.1 x hx).1
 rcases ha.now with ⟨k,h1,h2,_⟩|⟨_,h2,_⟩
 ·rw[hy] at h1
  injection h1 with h1
  have e:y.op=tyOf f x.dst:=by rw[h1]
  have h0:uses y.op=0:=by
   rw[e]
   unfold uses
   exact if_pos (by rcases h2 with g|⟨g,_⟩<;>simp[g])
  exact ⟨by omega,fun g=>by omega⟩
 ·rw[hy] at h2
  injection h2 with h2
  refine ⟨by rw[h2,root_op];exact (hf.2.2.2.2.2.1 x hx).2.2.2.1,fun ho=>?_⟩
  have h3:x.op=21:=by rw[←ho,h2,root_op]
  have:=(hf.2.2.2.2.2.1 x hx).2.2.2.2.2.2.2.2
  rw[if_neg (by omega),if_neg (by omega),if_pos h3] at this
  have e:y.k=x.k:=by rw[h2];unfold rootAc;split<;>rfl
  rw[e]
  exact ⟨this.1,this.2.1⟩
end
end Go.Proofs.Ytckognjamlckcaa.Fo
namespace Go.Proofs.Ytckognjamlckcaa.Fo
open Vf Ar
section
variable {f:Fm} {R R2:List Int} {A A2:List Ac} {fr:List Int} {need need' cl cl':List Bool} {ds ds2:List Bool} {S S2:Int→Prop}
structure SetTo (f:Fm) (k:Nat) (R:List Int) (A:List Ac) (ds:List Bool) (S:Int→Prop):Prop where
 inv:FInv f R A S
 sd:∀v,S v→bGet ds v=true
 dn:∀v,isW f v→bGet ds v=true→S v
 all:∀j:Nat,j<k→S (j:Int)
theorem bGet_no (n:Nat) (v:Int):bGet (List.replicate n false) v=false:=by
 unfold bGet
 rw[List.getD_eq_getElem?_getD,List.getElem?_replicate]
 split<;>rfl
theorem SetTo.start (hf:formOk f):SetTo f 0 (List.replicate f.wires.length 0) f.acts (List.replicate f.wires.length false) (fun _=>False):=
 ⟨start_inv hf _ (by simp),fun _ h=>h.elim,fun v _ h=>(by rw[bGet_no] at h;cases h),fun j h=>absurd h (by omega)⟩
theorem SetTo.step {k:Nat} (h:SetTo f k R A ds S) (g:SSt f R ds S (k:Int) R2 A2 ds2 S2):SetTo f (k+1) R2 A2 ds2 S2:=
 ⟨g.inv,g.sd,fun v hw hb=>(g.dn v hw hb).elim (fun q=>g.sub v (h.dn v hw q)) id,fun j hj=>by
  rcases Nat.lt_or_ge j k with q|q
  ·exact g.sub _ (h.all j q)
  ·obtain rfl:j=k:=by omega
   exact g.me⟩
theorem SetTo.done (h:SetTo f f.wires.length R A ds S):FInv f R A (isW f):=by
 have e:S=isW f:=funext fun v=>propext ⟨h.inv.sw v,fun hv=>by
  have:=h.all v.toNat (by have:=hv.1;have:=hv.2;omega)
  rwa [show ((v.toNat:Nat):Int)=v by have:=hv.1;omega] at this⟩
 rw[←e];exact h.inv
structure FrTo (f:Fm) (k:Nat) (fr:List Int):Prop where
 len:fr.length=f.cells.length
 wf:∀x∈fr,Wf x
 kp:∀i x,i<k→f.keeps[i]? =some x→getI fr x.1=x.2
theorem FrTo.start (f:Fm):FrTo f 0 (List.replicate f.cells.length 0):=⟨by simp,fun x hx=>by rw[List.eq_of_mem_replicate hx];exact wf_of (by omega),fun i x h=>absurd h (by omega)⟩
theorem FrTo.step {k m:Nat} {x:Int × Int} (hf:formOk f) (h:FrTo f k fr) (hx:f.keeps[k]? =some x) (hm:x.1=m) (hl:m<f.cells.length) (hw:Wf x.2):FrTo f (k+1) (fr.set m x.2):=by
 have hc:cellsOk f:=hf.2.2.2.1
 refine ⟨by simp[h.len],wf_set h.wf hw,fun i y hi hy=>?_⟩
 rcases Nat.lt_or_ge i k with q|q
 ·have h1:=hc.2.2.2.1 i k y x q hy hx
  have h0:=(hc.2.2.1 y (List.mem_of_getElem? hy))
  rw[show m=(m:Int).toNat by omega,getI_set_ne (by omega) (by omega) (fun e=>h1 (by omega))]
  exact h.kp i y q hy
 ·obtain rfl:i=k:=by omega
  rw[hx] at hy
  injection hy with hy
  subst hy
  rw[show m=(m:Int).toNat by omega,hm]
  exact getI_set_eq (by omega) (by rw[h.len];omega)
theorem FrTo.all (h:FrTo f f.keeps.length fr):∀k∈f.keeps,getI fr k.1=k.2:=fun k hk=>by
 obtain ⟨i,hi⟩:=List.getElem?_of_mem hk
 exact h.kp i k (List.getElem?_eq_some_iff.1 hi).1 hi
theorem FrTo.from_ (h:FrTo f f.keeps.length fr) (hf:formOk f):∀c:Int,0≤c→c<f.cells.length→isW f (getI fr c):=fun c h0 h1=>by
 have hc:cellsOk f:=hf.2.2.2.1
 obtain ⟨kk,g1,g2⟩:=hc.2.2.2.2 c.toNat (by omega)
 have g3:=(hc.2.2.1 kk g1).2.2.1
 have g4:=h.all kk g1
 rw[g2,show ((c.toNat:Nat):Int)=c by omega] at g4
 rw[g4]
 exact g3
structure NC (f:Fm) (R:List Int) (A:List Ac) (fr:List Int) (need cl:List Bool):Prop where
 c1:∀v,nd need v→(∀u,wSucc f R A v u→nd need u)∧∀y,actAt A v=some y→y.op=21→nd cl y.k
 c2:∀c,nd cl c→nd need (getI R (getI fr c))
 rt:∀v,nd need v→isW f v∧getI R v=v
 nn:∀v,nd need v→Nd f R A fr v
 cc:∀c,nd cl c→∃v y,nd need v∧actAt A v=some y∧y.op=21∧y.k=c
theorem nd_no {n:Nat} {v:Int} (h:nd (List.replicate n false) v):False:=by have:=h.2;rw[bGet_no] at this;cases this
theorem NC.start (f:Fm) (R:List Int) (A:List Ac) (fr:List Int) (n m:Nat):NC f R A fr (List.replicate n false) (List.replicate m false):=
 ⟨fun _ h=>(nd_no h).elim,fun _ h=>(nd_no h).elim,fun _ h=>(nd_no h).elim,fun _ h=>(nd_no h).elim,fun _ h=>(nd_no h).elim⟩
theorem nd_closed:wClosed f R A fr (Nd f R A fr):=fun v hv=>⟨fun u hu=>by
 rcases hu with ⟨g,hg,rfl⟩|⟨y,hy,hu⟩
 ·exact .gd v g hv hg
 ·exact .pt v y u hv hy hu,fun y hy ho=> .pre v y hv hy ho⟩
theorem NC.step {n:Int} (hf:formOk f) (hI:FInv f R A (isW f)) (hfr:∀c:Int,0≤c→c<f.cells.length→isW f (getI fr c)) (h:NC f R A fr need cl) (g:WSt f R A fr need cl n need' cl') (hn:isW f n∧getI R n=n) (hN:Nd f R A fr n):NC f R A fr need' cl':=
 ⟨fun v hv=>by
  rcases g.c1 v hv with q|q
  ·exact ⟨fun u hu=>g.up u ((h.c1 v q).1 u hu),fun y hy ho=>g.uc _ ((h.c1 v q).2 y hy ho)⟩
  ·exact q,fun c hc=>(g.c2 c hc).elim (fun q=>g.up _ (h.c2 c q)) id,fun v hv=>(g.re _ (FInv.roots hf hI hfr) hn v hv).elim (h.rt v) id,fun v hv=>(g.re _ nd_closed hN v hv).elim (h.nn v) id,fun c hc=>by
  rcases g.rc c hc with q|q
  ·obtain ⟨v,y,q1,q2⟩:=h.cc c q
   exact ⟨v,y,g.up v q1,q2⟩
  ·exact q⟩
def InTo (f:Fm) (k:Nat) (need:List Bool):Prop:=∀j,j<k→∀n,f.ins[j]? =some n→nd need n
def OutTo (f:Fm) (R:List Int) (k:Nat) (need:List Bool):Prop:=∀j,j<k→∀n,f.outs[j]? =some n→nd need (getI R n)
theorem InTo.up {k:Nat} (h:InTo f k need) (g:∀v,nd need v→nd need' v):InTo f k need':=fun j hj n hn=>g _ (h j hj n hn)
theorem InTo.step {k:Nat} {n:Int} (h:InTo f k need) (hn:f.ins[k]? =some n) (g:∀v,nd need v→nd need' v) (hm:nd need' n):InTo f (k+1) need':=fun j hj x hx=>by
 rcases Nat.lt_or_ge j k with q|q
 ·exact g _ (h j q x hx)
 ·obtain rfl:j=k:=by omega
  rw[hn] at hx
  injection hx with hx
  rw[←hx];exact hm
theorem OutTo.step {k:Nat} {n:Int} (h:OutTo f R k need) (hn:f.outs[k]? =some n) (g:∀v,nd need v→nd need' v) (hm:nd need' (getI R n)):OutTo f R (k+1) need':=fun j hj x hx=>by
 rcases Nat.lt_or_ge j k with q|q
 ·exact g _ (h j q x hx)
 ·obtain rfl:j=k:=by omega
  rw[hn] at hx
  injection hx with hx
  rw[←hx];exact hm
theorem NC.clo (h:NC f R A fr need cl) (hI:FInv f R A (isW f)) (hk:∀k∈f.keeps,getI fr k.1=k.2) (h1:need.length=f.wires.length) (h2:cl.length=f.cells.length) (hi:InTo f f.ins.length need) (ho:OutTo f R f.outs.length need):Clo f R A fr need cl∧Rea f R A fr need cl:=
 ⟨⟨hI,h1,h2,fun v hv=>(h.rt v hv).2,fun v hv g hg=>(h.c1 v hv).1 _ (.inl ⟨g,hg,rfl⟩),fun v hv y hy=>⟨fun n hn=>(h.c1 v hv).1 n (.inr ⟨y,hy,hn⟩),(h.c1 v hv).2 y hy⟩,h.c2,hk,fun n hn=>by
  obtain ⟨i,hi'⟩:=List.getElem?_of_mem hn
  exact hi i (List.getElem?_eq_some_iff.1 hi').1 n hi',fun n hn=>by
  obtain ⟨i,hi'⟩:=List.getElem?_of_mem hn
  exact ho i (List.getElem?_eq_some_iff.1 hi').1 n hi'⟩,h.nn,h.cc⟩
end
end Go.Proofs.Ytckognjamlckcaa.Fo
