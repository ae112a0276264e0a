/-
  A region that draws its order, in which several operations, apart from one another, make memory: one proof for each of them serves all orders. A region that draws its order and ends in a store: what is held of the world need not be held behind that store.
-/
import Derived.Test.YtckognjamlckcaaMem
import Derived.Test.YtckognjamlckcaaLookA
namespace Go.Proofs.Ytckognjamlckcaa
open Go.RowKit
section
variable {P:Program} {ops:Array Oper} {Q:Exit→Act→World→Prop} {md:Region.Mode} {S:World→Prop}
def lsF (base:Array Bool) (evs:List Nat) (b:Nat→Bool):Array Bool:=evs.foldl (fun l i=>l.setIfInBounds i (b i)) base
def frF (a:Act) (sl:Nat→Option Tmp) (evs:List Nat) (v:Nat→Value):Act:=evs.foldl (fun a i=>a.put (sl i) (v i)) a
theorem lsF_size (evs:List Nat) (b:Nat→Bool):∀(base:Array Bool),(lsF base evs b).size=base.size:=by
 induction evs with
 |nil=>intro base;rfl
 |cons i l ih=>intro base;show (lsF (base.setIfInBounds i (b i)) l b).size=_;rw[ih];simp
theorem lsF_get (evs:List Nat) (b:Nat→Bool):∀(base:Array Bool) (j:Nat) (d:Bool),j<base.size→(lsF base evs b).getD j d=if j∈evs then b j else base.getD j d:=by
 induction evs with
 |nil=>intro base j d _;simp[lsF]
 |cons i l ih=>
  intro base j d hj
  show (lsF (base.setIfInBounds i (b i)) l b).getD j d=_
  rw[ih _ _ _ (by simpa using hj)]
  by_cases hl:j∈l
  ·rw[if_pos hl,if_pos (List.mem_cons_of_mem _ hl)]
  ·rw[if_neg hl]
   by_cases he:i=j
   ·subst he
    rw[if_pos (by simp)]
    simp[Array.getD_eq_getD_getElem?,hj]
   ·rw[if_neg (by simp;exact ⟨fun e=>he e.symm,hl⟩)]
    simp[Array.getD_eq_getD_getElem?,Array.getElem?_setIfInBounds_ne he]
theorem ls_ext {x y:Array Bool} (hs:x.size=y.size) (h:∀j,j<x.size→x.getD j true=y.getD j true):x=y:=by
 apply Array.ext hs
 intro i h1 h2
 have:=h i h1
 simpa[Array.getD_eq_getD_getElem?,h1,h2] using this
theorem lsF_set {base:Array Bool} {evs:List Nat} {b:Nat→Bool} {i:Nat} (hi:i∈evs) (hl:i<base.size):(lsF base evs b).setIfInBounds i true=lsF base evs (fun j=>if j=i then true else b j):=by
 refine ls_ext (by simp[lsF_size]) (fun j hj=>?_)
 have hj':j<base.size:=by simpa[lsF_size] using hj
 rw[lsF_get _ _ _ _ _ hj']
 by_cases he:i=j
 ·subst he
  rw[if_pos hi,if_pos rfl]
  simp[Array.getD_eq_getD_getElem?,lsF_size,hl]
 ·rw[getD_set_ne true he,lsF_get _ _ _ _ _ hj']
  by_cases hm:j∈evs
  ·rw[if_pos hm,if_pos hm,if_neg (fun e=>he e.symm)]
  ·rw[if_neg hm,if_neg hm]
theorem lsF_ext {base:Array Bool} {evs:List Nat} {b b':Nat→Bool} (h:∀i∈evs,b i=b' i):lsF base evs b=lsF base evs b':=by
 refine ls_ext (by simp[lsF_size]) (fun j hj=>?_)
 have hj':j<base.size:=by simpa[lsF_size] using hj
 rw[lsF_get _ _ _ _ _ hj',lsF_get _ _ _ _ _ hj']
 by_cases hm:j∈evs
 ·rw[if_pos hm,if_pos hm,h j hm]
 ·rw[if_neg hm,if_neg hm]
def mkOk (md:Region.Mode) (ops:Array Oper) (base:Array Bool) (evs:List Nat):Bool:=
 base.size==ops.size && (evs.all fun j=>decide (j<base.size) && (match ops[j]? with
  |none=>false
  |some o=>o.after.all fun e=>!Region.binds md e||(decide (e.on<base.size) && ((base.getD e.on false && !evs.contains e.on)||(evs.contains e.on && decide (e.on<j)))))) &&
 (List.range ops.size).all fun i=>evs.contains i||base.getD i true||(match ops[i]? with
  |none=>true
  |some o=>(o.after.any fun e=>Region.binds md e && (decide (e.on<base.size) && (!evs.contains e.on && !base.getD e.on false)))||evs.all fun j=>o.after.any fun e=>Region.binds md e && e.on==j)
section
variable {base:Array Bool} {evs:List Nat} {b:Nat→Bool} {i:Nat}
theorem mk_lt (h:mkOk md ops base evs=true) (hi:i∈evs):i<base.size:=by
 unfold mkOk at h
 simp only[Bool.and_eq_true,List.all_eq_true,decide_eq_true_eq] at h
 exact (h.1.2 i hi).1
theorem mk_ready (h:mkOk md ops base evs=true) (hn:∃j∈evs,b j=false) (hr:i∈Region.ready md ops (lsF base evs b)):i∈evs∧b i=false:=by
 obtain ⟨h0,o,ho,hall⟩:=mem_ready.1 hr
 unfold mkOk at h
 simp only[Bool.and_eq_true,List.all_eq_true,beq_iff_eq] at h
 obtain ⟨⟨hsz,hev⟩,htl⟩:=h
 have hil:i<ops.size:=(Array.getElem?_eq_some_iff.1 ho).1
 have hil':i<base.size:=by omega
 rw[lsF_get _ _ _ _ _ hil'] at h0
 by_cases hm:i∈evs
 ·rw[if_pos hm] at h0;exact ⟨hm,h0⟩
 ·rw[if_neg hm] at h0
  have:=htl i (List.mem_range.2 hil)
  rw[h0,ho] at this
  simp only[Bool.or_false,Bool.or_eq_true,List.contains_iff_mem,hm,false_or] at this
  rcases this with g|g
  ·rw[Array.any_eq_true'] at g
   obtain ⟨e,he,g⟩:=g
   simp only[Bool.and_eq_true,decide_eq_true_eq,Bool.not_eq_true'] at g
   obtain ⟨g1,g2,g3,g4⟩:=g
   have:=hall e he g1
   rw[lsF_get _ _ _ _ _ g2,if_neg (fun q=>by rw[List.contains_iff_mem.2 q] at g3;cases g3),g4] at this
   cases this
  ·obtain ⟨j,hj,hb⟩:=hn
   have:=List.all_eq_true.1 g j hj
   rw[Array.any_eq_true'] at this
   obtain ⟨e,he,g⟩:=this
   simp only[Bool.and_eq_true,beq_iff_eq] at g
   have hjl:j<base.size:=by have:=(hev j hj).1;simpa using this
   have:=hall e he g.1
   rw[g.2,lsF_get _ _ _ _ _ hjl,if_pos hj,hb] at this
   cases this
theorem least_of:∀(n:Nat) {P:Nat→Prop} {j:Nat},j≤n→P j→∃k,P k∧∀m,P m→k≤m:=by
 intro n
 induction n with
 |zero=>
  intro P j hj h
  obtain rfl:j=0:=by omega
  exact ⟨0,h,fun m _=>by omega⟩
 |succ n ih=>
  intro P j hj h
  by_cases q:∃i,i≤n∧P i
  ·obtain ⟨i,h1,h2⟩:=q
   exact ih h1 h2
  ·refine ⟨j,h,fun m hm=>?_⟩
   rcases Nat.lt_or_ge m j with g|g
   ·exact absurd ⟨m,by omega,hm⟩ q
   ·exact g
theorem mk_some (h:mkOk md ops base evs=true) (hn:∃j∈evs,b j=false):Region.ready md ops (lsF base evs b)≠[]:=by
 obtain ⟨j0,hj0,hb0⟩:=hn
 obtain ⟨j,⟨hj,hb⟩,hmin⟩:=least_of (P:=fun j=>j∈evs∧b j=false) j0 (Nat.le_refl _) ⟨hj0,hb0⟩
 have hjl:=mk_lt h hj
 unfold mkOk at h
 simp only[Bool.and_eq_true,List.all_eq_true,beq_iff_eq] at h
 obtain ⟨⟨hsz,hev⟩,htl⟩:=h
 have h2:=(hev j hj).2
 intro he
 have hmem:j∈Region.ready md ops (lsF base evs b):=by
  rw[mem_ready]
  refine ⟨by rw[lsF_get _ _ _ _ _ hjl,if_pos hj];exact hb,?_⟩
  cases ho:ops[j]? with
  |none=>rw[ho] at h2;cases h2
  |some o=>
   rw[ho] at h2
   refine ⟨o,rfl,fun e he hb'=>?_⟩
   have:=Array.all_eq_true_iff_forall_mem.1 h2 e he
   rw[hb'] at this
   simp only[Bool.not_true,Bool.false_or,Bool.and_eq_true,Bool.or_eq_true,decide_eq_true_eq,List.contains_iff_mem,Bool.not_eq_true'] at this
   obtain ⟨g1,g⟩:=this
   rw[lsF_get _ _ _ _ _ g1]
   rcases g with ⟨g2,g3⟩|⟨g2,g3⟩
   ·rw[if_neg (fun q=>by rw[List.contains_iff_mem.2 q] at g3;cases g3)];exact g2
   ·rw[if_pos g2]
    cases q:b e.on
    ·have:=hmin e.on ⟨g2,q⟩;omega
    ·rfl
 rw[he] at hmem
 cases hmem
end
theorem cnt_set {evs:List Nat} (hn:evs.Nodup) {b:Nat→Bool} {i:Nat} (hi:i∈evs) (hb:b i=false):(evs.filter (fun j=>!(if j=i then true else b j))).length+1=(evs.filter (fun j=>!b j)).length:=by
 induction evs with
 |nil=>cases hi
 |cons x l ih=>
  rw[List.nodup_cons] at hn
  rcases List.mem_cons.1 hi with rfl|hi
  ·have e:l.filter (fun j=>!(if j=i then true else b j))=l.filter (fun j=>!b j):=List.filter_congr (fun j hj=>by
    have h:j≠i:=fun e=>hn.1 (by rw[←e];exact hj)
    rw[if_neg h])
   rw[List.filter_cons_of_neg (by simp),List.filter_cons_of_pos (by simp[hb]),e]
   rfl
  ·have hx:x≠i:=fun e=>hn.1 (e▸hi)
   have:=ih hn.2 hi
   by_cases q:b x=true
   ·rw[List.filter_cons_of_neg (by simp[q]),List.filter_cons_of_neg (by simp[q])]
    exact this
   ·have q:b x=false:=by simpa using q
    rw[List.filter_cons_of_pos (by simp[q,hx]),List.filter_cons_of_pos (by simp[q]),List.length_cons,List.length_cons,this]
theorem makes_go {m:Nat} {evs:List Nat} {base:Array Bool} {fr:(Nat→Value)→Act} {Fact:Nat→Value→List Nat→World→Prop} {w0:World} (hS:∀w,Below w0.heap.size w0 w→S w) (hnd:evs.Nodup) (hok:mkOk md ops base evs=true) (hkeep:∀j v k w w',Fact j v k w→Below w.heap.size w w'→Fact j v k w')
  (hop:∀i∈evs,∀v w,Below w0.heap.size w0 w→S w→∀K:Act→World→Prop,(∀x (k:List Nat) w',Below w.heap.size w w'→(∀p∈k,w.heap.size≤p∧p<w'.heap.size)→Fact i x k w'→K (fr (fun j=>if j=i then x else v j)) w')→wpOp P ops Q i K (fr v) w)
  (hend:∀(v:Nat→Value) (k:Nat→List Nat) (w:World),Below w0.heap.size w0 w→S w→(∀j∈evs,Fact j (v j) (k j) w∧∀p∈k j,w0.heap.size≤p∧p<w.heap.size)→(∀i∈evs,∀j∈evs,i≠j→∀p∈k i,p∉k j)→wpAnyH P md ops Q S m (lsF base evs (fun _=>true)) (fr v) w):
  ∀(n:Nat) (b:Nat→Bool) (v:Nat→Value) (k:Nat→List Nat) (w:World),(evs.filter (fun j=>!b j)).length=n→Below w0.heap.size w0 w→(∀j∈evs,b j=true→Fact j (v j) (k j) w∧∀p∈k j,w0.heap.size≤p∧p<w.heap.size)→(∀i∈evs,∀j∈evs,b i=true→b j=true→i≠j→∀p∈k i,p∉k j)→wpAnyH P md ops Q S (m+n) (lsF base evs b) (fr v) w:=by
 intro n
 induction n with
 |zero=>
  intro b v k w hc hb hf hd
  have hall:∀i∈evs,b i=true:=fun i hi=>by
   cases q:b i
   ·have:i∈evs.filter (fun j=>!b j):=List.mem_filter.2 ⟨hi,by simp[q]⟩
    rw[List.eq_nil_of_length_eq_zero hc] at this
    cases this
   ·rfl
  rw[lsF_ext (b':=fun _=>true) hall]
  exact hend v k w hb (hS w hb) (fun j hj=>hf j hj (hall j hj)) (fun i hi j hj=>hd i hi j hj (hall i hi) (hall j hj))
 |succ n ih=>
  intro b v k w hc hb hf hd
  have hn:∃j∈evs,b j=false:=by
   cases q:evs.filter (fun j=>!b j) with
   |nil=>rw[q] at hc;cases hc
   |cons x l=>
    have:x∈evs.filter (fun j=>!b j):=by rw[q];simp
    obtain ⟨h1,h2⟩:=List.mem_filter.1 this
    exact ⟨x,h1,by simpa using h2⟩
  refine ⟨fun h=>absurd h (mk_some hok hn),fun i hi=>?_⟩
  obtain ⟨hi1,hi2⟩:=mk_ready hok hn hi
  refine hop i hi1 v w hb (hS w hb) _ (fun x k' w' hb' hk1 hF=>?_)
  have hb0:Below w0.heap.size w0 w':=hb.trans (hb'.mono hb.size)
  refine ⟨hS w' hb0,?_⟩
  rw[lsF_set hi1 (mk_lt hok hi1)]
  have hcn:=cnt_set hnd hi1 hi2
  refine ih (fun j=>if j=i then true else b j) _ (fun j=>if j=i then k' else k j) w' (by omega) hb0 (fun j hj q=>?_) (fun p hp j hj q1 q2 hne z hz=>?_)
  ·by_cases e:j=i
   ·subst e
    rw[if_pos rfl,if_pos rfl]
    exact ⟨hF,fun p hp=>⟨by have:=hb.size;have:=(hk1 p hp).1;omega,(hk1 p hp).2⟩⟩
   ·rw[if_neg e] at q
    rw[if_neg e,if_neg e]
    obtain ⟨h1,h2⟩:=hf j hj q
    exact ⟨hkeep _ _ _ _ _ h1 hb',fun p hp=>⟨(h2 p hp).1,by have:=hb'.size;have:=(h2 p hp).2;omega⟩⟩
  ·by_cases e1:p=i
   ·have e2:j≠i:=fun e=>hne (e1.trans e.symm)
    rw[if_pos e1] at hz
    rw[if_neg e2]
    rw[if_neg e2] at q2
    intro g
    have:=((hf j hj q2).2 z g).2
    have:=(hk1 z hz).1
    omega
   ·rw[if_neg e1] at q1
    rw[if_neg e1] at hz
    by_cases e2:j=i
    ·rw[if_pos e2]
     intro g
     have:=((hf p hp q1).2 z hz).2
     have:=(hk1 z g).1
     omega
    ·rw[if_neg e2] at q2
     rw[if_neg e2]
     exact hd p hp j hj q1 q2 hne z hz
theorem wpAnyH_makes {n:Nat} (m:Nat) (evs:List Nat) (sl:Nat→Option Tmp) (base:Array Bool) (Fact:Nat→Value→List Nat→World→Prop) {listed:Array Bool} {a:Act} {w0:World} (hS:∀w,Below w0.heap.size w0 w→S w) (hkeep:∀j v k w w',Fact j v k w→Below w.heap.size w w'→Fact j v k w')
  (hop:∀i∈evs,∀v w,Below w0.heap.size w0 w→S w→∀K:Act→World→Prop,(∀x (k:List Nat) w',Below w.heap.size w w'→(∀p∈k,w.heap.size≤p∧p<w'.heap.size)→Fact i x k w'→K (frF a sl evs (fun j=>if j=i then x else v j)) w')→wpOp P ops Q i K (frF a sl evs v) w)
  (hend:∀(v:Nat→Value) (k:Nat→List Nat) (w:World),Below w0.heap.size w0 w→S w→(∀j∈evs,Fact j (v j) (k j) w∧∀p∈k j,w0.heap.size≤p∧p<w.heap.size)→(∀i∈evs,∀j∈evs,i≠j→∀p∈k i,p∉k j)→wpAnyH P md ops Q S m (lsF base evs (fun _=>true)) (frF a sl evs v) w)
  (hnd:evs.Nodup:=by decide) (hok:mkOk md ops base evs=true:=by kernel_rfl) (hl:lsF base evs (fun _=>false)=listed:=by kernel_rfl) (ha:frF a sl evs (fun _=>undef)=a:=by kernel_rfl) (hn:n=m+evs.length:=by kernel_rfl):wpAnyH P md ops Q S n listed a w0:=by
 subst hn
 rw[←hl,←ha]
 refine makes_go (fr:=frF a sl evs) hS hnd hok hkeep hop hend evs.length (fun _=>false) (fun _=>undef) (fun _=> []) w0 (by simp) (Below.refl _ _) (fun j _ h=>by cases h) (fun i _ j _ h=>by cases h)
end
end Go.Proofs.Ytckognjamlckcaa
namespace Go.Proofs.Ytckognjamlckcaa
open Go.RowKit
section
variable {P:Program} {ops:Array Oper} {Q:Exit→Act→World→Prop} {md:Region.Mode} {S:World→Prop} {s:Nat}
def wpAnyL (P:Program) (md:Region.Mode) (ops:Array Oper) (Q:Exit→Act→World→Prop) (S:World→Prop) (s:Nat):Nat→Array Bool→Act→World→Prop
 |0,listed,a,w=>Region.ready md ops listed=[]∧Q .normal a w
 |fuel+1,listed,a,w=>
  (Region.ready md ops listed=[]→Q .normal a w)∧
  ∀i∈Region.ready md ops listed,wpOp P ops Q i (fun a' w'=>(i≠s→S w')∧wpAnyL P md ops Q S s fuel (listed.setIfInBounds i true) a' w') a w
theorem wpAny_of_L:∀(fuel:Nat) (listed:Array Bool) (a:Act) (w:World),wpAnyL P md ops Q S s fuel listed a w→wpAny P md ops Q fuel listed a w
 |0,_,_,_,h=>h
 |fuel+1,_,_,_,h=>⟨h.1,fun i hi=>wpOp_mono (fun a' w' h'=>wpAny_of_L fuel _ a' w' h'.2) (h.2 i hi)⟩
def lastOp (md:Region.Mode) (ops:Array Oper) (s i:Nat):Bool:=
 match ops[s]? with
 |none=>false
 |some o=>o.after.any fun e=>Region.binds md e && e.on==i
theorem last_not {i:Nat} (hl:lastOp md ops s i=true) {listed:Array Bool} (hi:i∈Region.ready md ops listed):s∉Region.ready md ops listed:=fun hs=>by
 obtain ⟨hi0,oi,hoi,_⟩:=mem_ready.1 hi
 obtain ⟨_,o,ho,hall⟩:=mem_ready.1 hs
 unfold lastOp at hl
 rw[ho] at hl
 dsimp only at hl
 rw[Array.any_eq_true'] at hl
 obtain ⟨ed,hed,hb⟩:=hl
 rw[Bool.and_eq_true] at hb
 have h2:=hall ed hed hb.1
 have hon:ed.on=i:=by simpa using hb.2
 rw[hon] at h2
 rcases Nat.lt_or_ge i listed.size with h'|h'
 ·simp[h'] at hi0 h2;rw[hi0] at h2;cases h2
 ·simp[Array.getElem?_eq_none h'] at h2
theorem wpAnyL_first {i:Nat} {oi:Oper} {v:Value} (hl:lastOp md ops s i=true) (hi:ops[i]? =some oi) (hsel:∀(j:Nat) (o:Oper) cs b,ops[j]? =some o→o.op≠ .select cs b)
  (hQ:∀c a w,Q (.panic c) (a.put oi.dst v) w→Q (.panic c) a w):
  ∀(fuel:Nat) (listed:Array Bool) (a:Act) (w:World),
   (∀j oj,ops[j]? =some oj→j≠i→listed.getD j true=false→(∀e∈oj.after,Region.binds md e=true→e.on≠i)→oi.apart ops oj=true)→
   i∈Region.ready md ops listed→YieldsIf P ops S oi v a→S w→
   wpAnyL P md ops Q S s fuel (listed.setIfInBounds i true) (a.put oi.dst v) w→wpAnyL P md ops Q S s (fuel+1) listed a w:=by
 intro fuel
 induction fuel with
 |zero=>
  intro listed a w _ hr hy hS H
  refine ⟨fun h=>(by rw[h] at hr;cases hr),fun j hj=>?_⟩
  by_cases hji:j=i
  ·subst hji;exact hy.wpOp hi hS ⟨fun _=>hS,H⟩
  ·have:=ready_mono hj hji
   rw[H.1] at this
   cases this
 |succ fuel ih=>
  intro listed a w hfree hr hy hS H
  refine ⟨fun h=>(by rw[h] at hr;cases hr),fun j hj=>?_⟩
  by_cases hji:j=i
  ·subst hji;exact hy.wpOp hi hS ⟨fun _=>hS,H⟩
  ·have hjs:j≠s:=fun e=>last_not hl hr (e▸hj)
   have h1:=H.2 j (ready_mono hj hji)
   obtain ⟨hjun,oj,hoj,hall⟩:=mem_ready.1 hj
   have hnot:∀e∈oj.after,Region.binds md e=true→e.on≠i:=fun e he hb heq=>by
    have h1:=hall e he hb
    have h0:=(mem_ready.1 hr).1
    rw[heq] at h1
    rcases Nat.lt_or_ge i listed.size with h'|h'
    ·simp[h'] at h0 h1;rw[h0] at h1;cases h1
    ·simp[Array.getElem?_eq_none h'] at h1
   have h2:=wpOp_putIf hoj (hfree j oj hoj hji hjun hnot) (fun cs b=>hsel i oi cs b hi) (fun cs b=>hsel j oj cs b hoj) hQ hy h1
   have hfree':∀k ok,ops[k]? =some ok→k≠i→(listed.setIfInBounds j true).getD k true=false→
     (∀e∈ok.after,Region.binds md e=true→e.on≠i)→oi.apart ops ok=true:=fun k ok hk hki hun hno=>by
    refine hfree k ok hk hki ?_ hno
    by_cases hjk:j=k
    ·subst hjk;exact hjun
    ·rw[getD_set_ne true hjk] at hun;exact hun
   refine wpOp_mono (fun a' w' h3=>⟨h3.2.1,ih (listed.setIfInBounds j true) a' w' hfree' (ready_mono hr (Ne.symm hji)) h3.1 (h3.2.1 hjs) ?_⟩) h2
   rw[Array.setIfInBounds_comm _ _ hji]
   exact h3.2.2
theorem wpAnyL_done {listed:Array Bool} {a:Act} {w:World} (hr:Region.ready md ops listed=[]) (h:Q .normal a w):∀fuel,wpAnyL P md ops Q S s fuel listed a w
 |0=>⟨hr,h⟩
 |_+1=>⟨fun _=>h,by rw[hr];simp⟩
theorem wp_region_L (s:Nat) {id:Nat} {a:Act} {w:World} (hm:P.follows .mixedOrders=true) (hS:S w.drew) (h:S w.drew→wpAnyL P .any ops Q S s ops.size (Array.replicate ops.size false) a w.drew):(Code.region id ops true).wp P Q a w:=
 wp_region_any hm (wpAny_of_L _ _ _ _ (h hS))
variable {fuel:Nat} {listed:Array Bool} {a a':Act} {w:World} {v:Value} {o:Op} {ty:TypeId} {pos:String} {af:Array Edge} {g:Option (Nat × Bool)}
theorem tkL (i:Nat) (d:Option Tmp) (hi:ops[i]? =some {dst:=d,op:=o,type:=ty,pos:=pos,after:=af,guard:=g}) (h:wpAnyL P md ops Q S s fuel (listed.setIfInBounds i true) a' w)
  (hl:lastOp md ops s i=true:=by kernel_rfl)
  (hs:Region.noSelect ops=true:=by kernel_rfl) (hf:Region.free md ops listed i=true:=by kernel_rfl) (hr:(Region.ready md ops listed).contains i=true:=by kernel_rfl)
  (hw:Region.wanted {dst:=d,op:=o,type:=ty,pos:=pos,after:=af,guard:=g} (yielded ops a.tmps)=true:=by kernel_rfl)
  (hy:∀w,S w→(execOp a.eval {dst:=d,op:=o,type:=ty,pos:=pos,after:=af,guard:=g}).run P w= .ok (.value v) w:=by intro w hSw;(try dsimp only at hSw);go_simp;(try with_reducible rfl))
  (hQ:∀c a w,Q (.panic c) (a.put d v) w→Q (.panic c) a w:=by exact fun _ _ _ h=>h)
  (hS:S w:=by first|assumption|trivial)
  (ha:a.put d v=a':=by (try simp only[Act.put,List.setIfInBounds_toArray,List.set_cons_zero,List.set_cons_succ]);(try exact rfl)):wpAnyL P md ops Q S s (fuel+1) listed a w:=by
 subst ha
 exact wpAnyL_first hl hi (Region.noSelect_spec hs) hQ fuel listed a w (Region.free_spec hi hf) (by simpa using hr) (.inl ⟨hw,hy⟩) hS h
theorem rdL (i:Nat) (d:Option Tmp) (hi:ops[i]? =some {dst:=d,op:=o,type:=ty,pos:=pos,after:=af,guard:=g})
  (h:∀K':Act→World→Prop,Shut (∀a w,S w→(S w→wpAnyL P md ops Q S s fuel (listed.setIfInBounds i true) a w)→K' a w)→if Region.wanted {dst:=d,op:=o,type:=ty,pos:=pos,after:=af,guard:=g} (yielded ops a.tmps)=true then Oper.wp P {dst:=d,op:=o,type:=ty,pos:=pos,after:=af,guard:=g} a w K' Q else K' (a.put d undef) w)
  (hr:Region.ready md ops listed=[i]:=by kernel_rfl):wpAnyL P md ops Q S s (fuel+1) listed a w:=
 ⟨fun h0=>(by rw[hr] at h0;cases h0),fun j hj=>by
  rw[hr] at hj
  obtain rfl:=List.mem_singleton.1 hj
  exact wpOp_step hi (fun K' hK=>h K' (fun a w hS hW=>hK a w ⟨fun _=>hS,hW hS⟩))⟩
theorem rdE (d:Option Tmp) (hi:ops[s]? =some {dst:=d,op:=o,type:=ty,pos:=pos,after:=af,guard:=g})
  (h:∀K':Act→World→Prop,Shut (∀a w,wpAnyL P md ops Q S s fuel (listed.setIfInBounds s true) a w→K' a w)→if Region.wanted {dst:=d,op:=o,type:=ty,pos:=pos,after:=af,guard:=g} (yielded ops a.tmps)=true then Oper.wp P {dst:=d,op:=o,type:=ty,pos:=pos,after:=af,guard:=g} a w K' Q else K' (a.put d undef) w)
  (hr:Region.ready md ops listed=[s]:=by kernel_rfl):wpAnyL P md ops Q S s (fuel+1) listed a w:=
 ⟨fun h0=>(by rw[hr] at h0;cases h0),fun j hj=>by
  rw[hr] at hj
  obtain rfl:=List.mem_singleton.1 hj
  exact wpOp_step hi (fun K' hK=>h K' (fun a w hW=>hK a w ⟨fun g=>absurd rfl g,hW⟩))⟩
end
end Go.Proofs.Ytckognjamlckcaa
namespace Go.Proofs.Ytckognjamlckcaa
open Go.RowKit
theorem own_updE {W W':World} {X:Nat→Prop} {base size n:Nat} {e:TypeId} {v:Value} {xs:List Value} (h:W.ownsRow base e size v n xs) (hu:Upd X W W') (hX:∀k,v.ownBlock=some k→¬X k):W'.ownsRow base e size v n xs:=by
 refine ⟨h.1,?_⟩
 rcases h.2 with h0|⟨g,c,cur,h1,h2,h3,h4⟩
 ·exact .inl h0
 ·exact .inr ⟨g,c,cur,h1,h2,(hu.block g (Array.getElem?_eq_some_iff.1 h3).1 (hX g (by rw[h1];rfl))).trans h3,h4⟩
theorem Row.grownE {w w':World} {b:Nat} {cs:Array Value} {t:TypeId} {row:Option Nat} (h:Row w b cs t) (hg:w.grownBy w' row) (hne:row≠some b):Row w' b cs t:=
 (hg.block b h.lt (fun e=>hne e.symm)).trans h
theorem own_ne {w:World} {base b size n:Nat} {e t:TypeId} {v:Value} {xs:List Value} {cs:Array Value} (h:w.ownsRow base e size v n xs) (r:Row w b cs t) (ht:t≠e):v.ownBlock≠some b:=by
 rcases h.2 with ⟨h0,_⟩|⟨g,c,cur,h1,h2,h3,_⟩
 ·subst h0;intro q;cases q
 ·subst h1
  intro q
  have e':g=b:=by injection q
  subst e'
  unfold Row at r
  rw[h3] at r
  injection r with r
  injection r with _ r _
  exact ht r.symm
theorem own_src {w:World} {base:Nat} {e:TypeId} {size:Nat} {v:Value} {n:Nat} {xs:List Value} (h:w.ownsRow base e size v n xs):∃A c,v= .slice A n c∧NilOk (.slice A n c)∧∀ad,A=some ad→∀j u,xs[j]? =some u→w.cell? (ad.add j)=some u:=by
 rcases h.2 with ⟨rfl,rfl⟩|⟨g,c,cur,rfl,_⟩
 ·exact ⟨none,0,rfl,NilOk.nil,fun _ h=>by cases h⟩
 ·exact ⟨some ⟨g,0,none⟩,c,rfl,NilOk.some,fun ad he=>by injection he with he;subst he;exact h.cells rfl⟩
theorem step_own {P:Program} {o:Oper} {a:Act} {w:World} {K:Act→World→Prop} {Q:Exit→Act→World→Prop} (s x:Operand) (t:TypeId) (ho:o.op= .call {callee:= .builtin .append,args:= #[s,x],argTypes:= #[t,t]})
  (base:Nat) (e:TypeId) (i:TypeInfo) (z:Value) (size bytes:Nat) (ht:P.underlying t=some (.slice e)) (hi:P.info? e=some i) (hz:i.zero=some z)
  (hsize:i.size=size) (hby:i.bytes=bytes) (hzs:z.cells.size=size) (hsz:0<size)
  (v:Value) (n:Nat) (xs:List Value) (hs:a.eval s=v) (hown:w.ownsRow base e size v n xs)
  (A:Option Addr) (m c:Nat) (news:List Value) (hx:a.eval x= .slice A m c) (hnil:NilOk (.slice A m c)) (hl:news.length=m*size) (hnews:∀ad,A=some ad→∀j u,news[j]? =some u→w.cell? (ad.add j)=some u) (h1:∀u∈news,u.oneCell'=true)
  (h63:n+m≤maxLen) (hbytes:(n+m)*bytes≤140737488355328) (hbase:base≤w.heap.size)
  (h:∀v' w',w'.ownsRow base e size v' (n+m) (xs++news)→w.grownBy w' v.ownBlock→K (a.put o.dst v') w'):Oper.wp P o a w K Q:=by
 cases A with
 |none=>
  obtain ⟨rfl,rfl⟩:=hnil m c rfl
  have hn:news=[]:=List.eq_nil_of_length_eq_zero (by omega)
  subst hn
  have hrun:=run_append_owned_none (P:=P) (w:=w) base t o.type e i size ht hi v n xs hown
  unfold Oper.wp
  simp[execOp,ho,resolve,invoke,builtin,hs,hx,hrun,Result.andThen]
  exact h v w (by rw[List.append_nil,Nat.add_zero];exact hown) ⟨rfl,rfl,rfl,Nat.le_refl _,fun _ _ _=>rfl⟩
 |some ad=>
  obtain ⟨v',w',hr,h2,h3,_,_⟩:=run_append_own_at (P:=P) (w:=w) base t o.type e i z size bytes ht hi hz hsize hby hzs hsz v n xs hown ad m c news hl (hnews ad rfl) h1 h63 hbytes hbase
  unfold Oper.wp execOp
  simp only[ho,resolve,invoke,builtin,Sem.run_bind,Sem.run_pure,Result.andThen_ok,List.map_toArray,List.map_cons,List.map_nil,hs,hx,hr]
  exact h v' w' h2 h3
end Go.Proofs.Ytckognjamlckcaa
