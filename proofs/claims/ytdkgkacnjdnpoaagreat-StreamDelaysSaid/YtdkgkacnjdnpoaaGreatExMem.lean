/-
  Expressions as plain data: trees, what is reckoned part by part, induction. Expressions in memory. Sources as plain data: conditions, variables, equations, nodes; how they lie in memory.
-/
import Derived.Below
import Derived.Test.YtdkgkacnjdnpoaaGreatMem
namespace Go.Proofs.YtdkgkacnjdnpoaaGreat
inductive Ex where
 |mk (op:Int) (name:ByteArray) (n:Int) (args:List Ex) (line col:Int)
namespace Ex
def op:Ex→Int
 | .mk op _ _ _ _ _=>op
def name:Ex→ByteArray
 | .mk _ name _ _ _ _=>name
def n:Ex→Int
 | .mk _ _ n _ _ _=>n
def args:Ex→List Ex
 | .mk _ _ _ args _ _=>args
def line:Ex→Int
 | .mk _ _ _ _ line _=>line
def col:Ex→Int
 | .mk _ _ _ _ _ col=>col
noncomputable def para {α:Type} (f:Ex→List α→α) (e:Ex):α:=
 Ex.rec (motive_1:=fun _=>α) (motive_2:=fun _=>List α) (fun op nm n args l c ih=>f (.mk op nm n args l c) ih) [] (fun _ _ h t=>h::t) e
theorem para_list {α:Type} (f:Ex→List α→α) (l:List Ex):
  Ex.rec_1 (motive_1:=fun _=>α) (motive_2:=fun _=>List α) (fun op nm n args l c ih=>f (.mk op nm n args l c) ih) [] (fun _ _ h t=>h::t) l=l.map (para f):=by
 induction l with
 |nil=>rfl
 |cons x l ih=>rw[List.map_cons,←ih];rfl
theorem para_eq {α:Type} (f:Ex→List α→α) (e:Ex):para f e=f e (e.args.map (para f)):=by
 obtain ⟨op,nm,n,args,l,c⟩:=e
 show f _ (Ex.rec_1 (motive_1:=fun _=>α) (motive_2:=fun _=>List α) _ _ _ args)=_
 rw[para_list];rfl
theorem ind {P:Ex→Prop} (h:∀e:Ex,(∀x∈e.args,P x)→P e) (e:Ex):P e:=
 Ex.rec (motive_1:=P) (motive_2:=fun l=>∀x∈l,P x) (fun op nm n args l c ih=>h (.mk op nm n args l c) ih) (fun _ hx=>absurd hx List.not_mem_nil)
  (fun _ _ h t x hx=>(List.mem_cons.1 hx).elim (fun e=>e▸h) (t x)) e
end Ex
noncomputable def exList:Ex→List Ex:=Ex.para fun e ps=>e::ps.flatten
theorem exList_eq (e:Ex):exList e=e::(e.args.map exList).flatten:=Ex.para_eq _ e
def maxL:List Nat→Nat
 | []=>0
 |x::l=>max x (maxL l)
noncomputable def exHeight:Ex→Nat:=Ex.para fun _ ps=>maxL ps+1
theorem exHeight_eq (e:Ex):exHeight e=maxL (e.args.map exHeight)+1:=Ex.para_eq _ e
theorem maxL_snoc (l:List Nat) (x:Nat):maxL (l++ [x])=max (maxL l) x:=by
 induction l with
 |nil=>simp[maxL]
 |cons y l ih=>simp only[List.cons_append,maxL,ih];omega
theorem maxL_le {l:List Nat} {b:Nat} (h:∀x∈l,x≤b):maxL l≤b:=by
 induction l with
 |nil=>exact Nat.zero_le _
 |cons y l ih=>simp only[maxL];have:=h y (by simp);have:=ih (fun x hx=>h x (by simp[hx]));omega
noncomputable def exSize (e:Ex):Nat:=(exList e).length
def sumL:List Nat→Nat
 | []=>0
 |x::l=>x+sumL l
theorem exSize_eq (e:Ex):exSize e=sumL (e.args.map exSize)+1:=by
 unfold exSize
 rw[exList_eq,List.length_cons]
 congr 1
 have:∀l:List Ex,(l.map exList).flatten.length=sumL (l.map fun e=>(exList e).length):=by
  intro l
  induction l with
  |nil=>rfl
  |cons x l ih=>simp only[List.map_cons,List.flatten_cons,List.length_append,sumL,ih]
 exact this _
theorem sumL_mem {l:List Nat} {x:Nat} (h:x∈l):x≤sumL l:=by
 induction l with
 |nil=>cases h
 |cons y l ih=>
  simp only[sumL]
  rcases List.mem_cons.1 h with rfl|h
  ·omega
  ·have:=ih h;omega
theorem exSize_pos (e:Ex):1≤exSize e:=by rw[exSize_eq];omega
theorem exSize_arg {e x:Ex} (h:x∈e.args):exSize x<exSize e:=by
 have:=sumL_mem (List.mem_map_of_mem (f:=exSize) h)
 rw[exSize_eq e];omega
theorem sumL_len {l:List Ex}:l.length≤sumL (l.map exSize):=by
 induction l with
 |nil=>simp[sumL]
 |cons y l ih=>simp only[List.map_cons,sumL,List.length_cons];have:=exSize_pos y;omega
theorem exSize_args (e:Ex):e.args.length<exSize e:=by
 rw[exSize_eq];have:= @sumL_len e.args;omega
theorem exHeight_le (e:Ex):exHeight e≤exSize e:=by
 induction e using Ex.ind with
 |h e ih=>
  rw[exHeight_eq,exSize_eq]
  have:maxL (e.args.map exHeight)≤sumL (e.args.map exSize):=maxL_le fun x hx=>by
   obtain ⟨y,hy,rfl⟩:=List.mem_map.1 hx
   exact Nat.le_trans (ih y hy) (sumL_mem (List.mem_map_of_mem hy))
  omega
open Go.RowKit
def exCells (e:Ex) (A:Option Addr) (cap:Nat):List Value:=
 [.int .i64 e.op,.string e.name,.int .i64 e.n,.slice A e.args.length cap,.int .i64 e.line,.int .i64 e.col]
structure ExOk (e:Ex):Prop where
 op:Wf e.op
 name:e.name.size≤maxLen
 n:Wf e.n
 line:Wf e.line
 col:Wf e.col
def PartsAt (w:World) (B:Nat) (b off:Nat) (ps:List (List Value→Prop)):Prop:=
 b<B∧∀i p,ps[i]? =some p→∃cs:List Value,(∀j u,cs[j]? =some u→w.cell? ⟨b,off+i*6+j,none⟩=some u)∧p cs
noncomputable def IsEx (w:World) (B:Nat):Ex→List Value→Prop:=Ex.para fun e ps cs=>
 ∃A cap,cs=exCells e A cap∧ExOk e∧ps.length≤cap∧cap≤maxLen∧(0<ps.length→∃b off,A=some ⟨b,off,none⟩∧PartsAt w B b off ps)
theorem isEx_iff {w:World} {B:Nat} {e:Ex} {cs:List Value}:IsEx w B e cs↔∃A cap,cs=exCells e A cap∧ExOk e∧e.args.length≤cap∧cap≤maxLen∧
  (0<e.args.length→∃b off,A=some ⟨b,off,none⟩∧b<B∧∀i x,e.args[i]? =some x→∃cs:List Value,(∀j u,cs[j]? =some u→w.cell? ⟨b,off+i*6+j,none⟩=some u)∧IsEx w B x cs):=by
 unfold IsEx
 rw[Ex.para_eq]
 simp only[List.length_map,PartsAt,List.getElem?_map,Option.map_eq_some_iff,forall_exists_index,and_imp,forall_apply_eq_imp_iff₂]
theorem IsEx.keep {w w':World} {B:Nat} (hk:∀p:Addr,p.block<B→w'.cell? p=w.cell? p) {e:Ex}:∀{cs:List Value},IsEx w B e cs→IsEx w' B e cs:=by
 induction e using Ex.ind with
 |h e ih=>
  intro cs h
  obtain ⟨A,cap,h1,h2,h3,h4,h5⟩:=isEx_iff.1 h
  refine isEx_iff.2 ⟨A,cap,h1,h2,h3,h4,fun hn=>?_⟩
  obtain ⟨b,off,hA,hb,hx⟩:=h5 hn
  refine ⟨b,off,hA,hb,fun i x hi=>?_⟩
  obtain ⟨cs',hc,hx'⟩:=hx i x hi
  exact ⟨cs',fun j u hu=>(hk ⟨b,off+i*6+j,none⟩ hb).trans (hc j u hu),ih x (List.mem_of_getElem? hi) hx'⟩
theorem IsEx.more {w:World} {B B':Nat} (hB:B≤B') {e:Ex}:∀{cs:List Value},IsEx w B e cs→IsEx w B' e cs:=by
 induction e using Ex.ind with
 |h e ih=>
  intro cs h
  obtain ⟨A,cap,h1,h2,h3,h4,h5⟩:=isEx_iff.1 h
  refine isEx_iff.2 ⟨A,cap,h1,h2,h3,h4,fun hn=>?_⟩
  obtain ⟨b,off,hA,hb,hx⟩:=h5 hn
  refine ⟨b,off,hA,by omega,fun i x hi=>?_⟩
  obtain ⟨cs',hc,hx'⟩:=hx i x hi
  exact ⟨cs',hc,ih x (List.mem_of_getElem? hi) hx'⟩
theorem IsEx.below {w w':World} {B:Nat} {e:Ex} {cs:List Value} (h:IsEx w B e cs) (hb:Below B w w'):IsEx w' B e cs:=h.keep fun _ hp=>hb.cell hp
def IsExs (w:World) (B:Nat) (A:Option Addr) (l:List Ex):Prop:=
 0<l.length→∃b off,A=some ⟨b,off,none⟩∧b<B∧∀i x,l[i]? =some x→∃cs:List Value,(∀j u,cs[j]? =some u→w.cell? ⟨b,off+i*6+j,none⟩=some u)∧IsEx w B x cs
theorem IsExs.below {w w':World} {B:Nat} {A:Option Addr} {l:List Ex} (h:IsExs w B A l) (hb:Below B w w'):IsExs w' B A l:=fun hn=>by
 obtain ⟨b,off,hA,hbb,hx⟩:=h hn
 refine ⟨b,off,hA,hbb,fun i x hi=>?_⟩
 obtain ⟨cs',hc,hx'⟩:=hx i x hi
 exact ⟨cs',fun j u hu=>(hb.cell (p:=⟨b,off+i*6+j,none⟩) hbb).trans (hc j u hu),hx'.below hb⟩
theorem IsExs.more {w:World} {B B':Nat} {A:Option Addr} {l:List Ex} (h:IsExs w B A l) (hB:B≤B'):IsExs w B' A l:=fun hn=>by
 obtain ⟨b,off,hA,hbb,hx⟩:=h hn
 refine ⟨b,off,hA,by omega,fun i x hi=>?_⟩
 obtain ⟨cs',hc,hx'⟩:=hx i x hi
 exact ⟨cs',hc,hx'.more hB⟩
theorem IsEx.open {w:World} {B:Nat} {e:Ex} {cs:List Value} (h:IsEx w B e cs):∃A cap,cs=exCells e A cap∧ExOk e∧e.args.length≤cap∧cap≤maxLen∧IsExs w B A e.args:=isEx_iff.1 h
theorem IsEx.mk' {w:World} {B:Nat} {e:Ex} {A:Option Addr} {cap:Nat} (h1:ExOk e) (h2:e.args.length≤cap) (h3:cap≤maxLen) (h4:IsExs w B A e.args):IsEx w B e (exCells e A cap):=isEx_iff.2 ⟨A,cap,rfl,h1,h2,h3,h4⟩
theorem IsExs.at_ {w:World} {B:Nat} {A:Option Addr} {l:List Ex} {k:Nat} (h:IsExs w B A l) (hk:k<l.length):
  ∃b off x A' cap',A=some ⟨b,off,none⟩∧b<B∧l[k]? =some x∧x∈l∧ExOk x∧x.args.length≤cap'∧cap'≤maxLen∧IsExs w B A' x.args∧
   w.cell? ⟨b,off+k*6,none⟩=some (.int .i64 x.op)∧w.cell? ⟨b,off+k*6+1,none⟩=some (.string x.name)∧w.cell? ⟨b,off+k*6+2,none⟩=some (.int .i64 x.n)∧
   w.cell? ⟨b,off+k*6+3,none⟩=some (.slice A' x.args.length cap')∧w.cell? ⟨b,off+k*6+4,none⟩=some (.int .i64 x.line)∧w.cell? ⟨b,off+k*6+5,none⟩=some (.int .i64 x.col):=by
 obtain ⟨b,off,hA,hb,hx⟩:=h (by omega)
 have hl:l[k]? =some l[k]:=List.getElem?_eq_getElem hk
 obtain ⟨cs,hc,hx⟩:=hx k _ hl
 obtain ⟨A',cap',rfl,h1,h2,h3,h4⟩:=hx.open
 exact ⟨b,off,l[k],A',cap',hA,hb,hl,List.getElem_mem hk,h1,h2,h3,h4,hc 0 _ rfl,hc 1 _ rfl,hc 2 _ rfl,hc 3 _ rfl,hc 4 _ rfl,hc 5 _ rfl⟩
abbrev exV (e:Ex) (A:Option Addr) (cap:Nat):Value:= .agg #[.int .i64 e.op,.string e.name,.int .i64 e.n,.slice A e.args.length cap,.int .i64 e.line,.int .i64 e.col]
def ExsAre (w:World) (B:Nat) (l:List Ex) (css:List (List Value)):Prop:=css.length=l.length∧∀(i:Nat) x cs,l[i]? =some x→css[i]? =some cs→IsEx w B x cs
theorem IsEx.len {w:World} {B:Nat} {e:Ex} {cs:List Value} (h:IsEx w B e cs):cs.length=6:=by
 obtain ⟨A,cap,rfl,_⟩:=h.open;rfl
theorem ExsAre.six {w:World} {B:Nat} {l:List Ex} {css:List (List Value)} (h:ExsAre w B l css):∀cs∈css,cs.length=6:=by
 intro cs hcs
 obtain ⟨i,hi⟩:=List.getElem?_of_mem hcs
 have hl:i<l.length:=by rw[←h.1];exact (List.getElem?_eq_some_iff.1 hi).1
 exact (h.2 i _ cs (List.getElem?_eq_getElem hl) hi).len
theorem ExsAre.append {w:World} {B:Nat} {l l':List Ex} {css css':List (List Value)} (h:ExsAre w B l css) (h':ExsAre w B l' css'):ExsAre w B (l++l') (css++css'):=by
 refine ⟨by simp[h.1,h'.1],fun i x cs hx hc=>?_⟩
 rcases Nat.lt_or_ge i l.length with hi|hi
 ·rw[List.getElem?_append_left hi] at hx
  rw[List.getElem?_append_left (by rw[h.1];exact hi)] at hc
  exact h.2 i x cs hx hc
 ·rw[List.getElem?_append_right hi] at hx
  rw[List.getElem?_append_right (by rw[h.1];exact hi),h.1] at hc
  exact h'.2 _ x cs hx hc
theorem ExsAre.one {w:World} {B:Nat} {e:Ex} {cs:List Value} (h:IsEx w B e cs):ExsAre w B [e] [cs]:=by
 refine ⟨rfl,fun i x cs' hx hc=>?_⟩
 match i,hx,hc with
 |0,hx,hc=>simp at hx hc;subst hx;subst hc;exact h
theorem own_exs {w:World} {base B:Nat} {e:TypeId} {v:Value} {n:Nat} {l:List Ex} {css:List (List Value)} (h:w.ownsRow base e 6 v n css.flatten) (hx:ExsAre w B l css) (hB:B≤w.heap.size):
  ∃A c,v= .slice A l.length c∧n=l.length∧l.length≤c∧c≤maxLen∧IsExs w w.heap.size A l:=by
 have hn:n=l.length:=by
  have:=h.1;rw[flatten_len hx.six,hx.1] at this;omega
 subst hn
 obtain ⟨A,c,hv,h1,h2,hr⟩:=own_rd h
 refine ⟨A,c,hv,rfl,h1,h2,fun hn=>?_⟩
 rcases h.2 with ⟨_,h0⟩|⟨g,cap,cur,hv',hb,hh,hc,hm,hcs,ht⟩
 ·omega
 ·rw[hv] at hv'
  injection hv' with hA _ _
  refine ⟨g,0,hA,(h.lt g (by rw[hv,hA];rfl)).2,fun i x hi=>?_⟩
  have hil:i<css.length:=by rw[hx.1];exact (List.getElem?_eq_some_iff.1 hi).1
  refine ⟨css[i],fun j u hu=>?_,((hx.2 i x _ hi (List.getElem?_eq_getElem hil)).more hB)⟩
  have hj:j<6:=by rw[←hx.six css[i] (List.getElem_mem hil)];exact (List.getElem?_eq_some_iff.1 hu).1
  have:=h.cells (g:=g) (by rw[hv,hA];rfl) (i*6+j) u (by rw[flatten_get hx.six (List.getElem?_eq_getElem hil) hj];exact hu)
  rwa [Addr.add_lit,←Nat.add_assoc] at this
theorem IsEx.keepS {w w':World} {B:Nat} (hk:∀(p:Addr) (u:Value),p.block<B→w.cell? p=some u→w'.cell? p=some u) {e:Ex}:∀{cs:List Value},IsEx w B e cs→IsEx w' B e cs:=by
 induction e using Ex.ind with
 |h e ih=>
  intro cs h
  obtain ⟨A,cap,h1,h2,h3,h4,h5⟩:=isEx_iff.1 h
  refine isEx_iff.2 ⟨A,cap,h1,h2,h3,h4,fun hn=>?_⟩
  obtain ⟨b,off,hA,hb,hx⟩:=h5 hn
  refine ⟨b,off,hA,hb,fun i x hi=>?_⟩
  obtain ⟨cs',hc,hx'⟩:=hx i x hi
  exact ⟨cs',fun j u hu=>hk ⟨b,off+i*6+j,none⟩ u hb (hc j u hu),ih x (List.mem_of_getElem? hi) hx'⟩
theorem IsExs.keepS {w w':World} {B:Nat} {A:Option Addr} {l:List Ex} (h:IsExs w B A l) (hk:∀(p:Addr) (u:Value),p.block<B→w.cell? p=some u→w'.cell? p=some u):IsExs w' B A l:=fun hn=>by
 obtain ⟨b,off,hA,hbb,hx⟩:=h hn
 refine ⟨b,off,hA,hbb,fun i x hi=>?_⟩
 obtain ⟨cs',hc,hx'⟩:=hx i x hi
 exact ⟨cs',fun j u hu=>hk ⟨b,off+i*6+j,none⟩ u hbb (hc j u hu),hx'.keepS hk⟩
structure KeepC (X:Nat→Prop) (W W':World):Prop where
 size:W.heap.size≤W'.heap.size
 same:∀b cs t f,¬X b→W.heap[b]? =some (.cells cs t f)→W'.heap[b]? =some (.cells cs t f)
theorem KeepC.trans {X:Nat→Prop} {A B C:World} (h:KeepC X A B) (k:KeepC X B C):KeepC X A C:=⟨Nat.le_trans h.size k.size,fun b cs t f hb hc=>k.same b cs t f hb (h.same b cs t f hb hc)⟩
theorem KeepC.below {X:Nat→Prop} {W W':World} (h:Below W.heap.size W W'):KeepC X W W':=⟨h.size,fun b _ _ _ _ hc=>(h.block b (Array.getElem?_eq_some_iff.1 hc).1).trans hc⟩
theorem KeepC.alloc (X:Nat→Prop) (W:World) (o:Obj):KeepC X W (W.alloc o):=KeepC.below ((Below.refl _ _).alloc (Nat.le_refl _) _)
theorem KeepC.cell {X:Nat→Prop} {W W':World} (h:KeepC X W W') {p:Addr} {u:Value} (hp:¬X p.block) (hc:W.cell? p=some u):W'.cell? p=some u:=by
 simp only[World.cell?] at hc⊢
 cases hb:W.heap[p.block]? with
 |none=>rw[hb] at hc;cases hc
 |some o=>
  rw[hb] at hc
  cases o with
  |cells cs t f=>rw[h.same p.block cs t f hp hb];exact hc
  |_=>cases hc
theorem exBoxC {X:Nat→Prop} {w wr:World} {e:Ex} {A:Option Addr} {cap:Nat} (hb:KeepC X (w.alloc (.cells #[.int .i64 e.op,.string e.name,.int .i64 e.n,.slice A e.args.length cap,.int .i64 e.line,.int .i64 e.col] 63)) wr) (hX:¬X w.heap.size):
  wr.cell? ⟨w.heap.size,0,none⟩=some (.int .i64 e.op)∧wr.cell? ⟨w.heap.size,1,none⟩=some (.string e.name)∧wr.cell? ⟨w.heap.size,2,none⟩=some (.int .i64 e.n)∧
   wr.cell? ⟨w.heap.size,3,none⟩=some (.slice A e.args.length cap)∧wr.cell? ⟨w.heap.size,4,none⟩=some (.int .i64 e.line)∧wr.cell? ⟨w.heap.size,5,none⟩=some (.int .i64 e.col):=by
 refine ⟨?_,?_,?_,?_,?_,?_⟩<;>exact hb.cell hX (by simp)
noncomputable def cB (p:Prop):Bool:= @decide p (Classical.propDecidable p)
theorem cB_true {p:Prop} (h:p):cB p=true:=by unfold cB;exact @decide_eq_true p (Classical.propDecidable p) h
theorem cB_false {p:Prop} (h:¬p):cB p=false:=by unfold cB;exact @decide_eq_false p (Classical.propDecidable p) h
theorem cB_iff {p:Prop}:cB p=true↔p:=⟨fun h=>Classical.byContradiction fun hn=>(by rw[cB_false hn] at h;cases h),cB_true⟩
theorem cB_not {p:Prop}:cB p=false↔¬p:=⟨fun h hp=>(by rw[cB_true hp] at h;cases h),cB_false⟩
theorem cB_congr {p q:Prop} (h:p↔q):cB p=cB q:=by rw[Bool.eq_iff_iff,cB_iff,cB_iff];exact h
structure Lt where
 name:ByteArray
 no:Bool
structure Vr where
 name:ByteArray
 ty:Int
 clock:List Lt
 line:Int
 col:Int
structure Eqn where
 left:List ByteArray
 right:Ex
 line:Int
 col:Int
structure Nd where
 name:ByteArray
 ins:List Vr
 outs:List Vr
 vars:List Vr
 eqs:List Eqn
 line:Int
 col:Int
structure Ft where
 err:Int
 line:Int
 col:Int
theorem lt_ext {x y:Lt} (h1:x.name=y.name) (h2:x.no=y.no):x=y:=by cases x;cases y;simp_all
abbrev ftV (f:Ft):Value:= .agg #[.int .i64 f.err,.int .i64 f.line,.int .i64 f.col]
abbrev ft0:Ft:=⟨0,0,0⟩
def vrs (n:Nd):List Vr:=n.ins++n.outs++n.vars
abbrev Keeps (B:Nat) (w w':World):Prop:=∀(p:Addr) (u:Value),p.block<B→w.cell? p=some u→w'.cell? p=some u
theorem keeps_of {B:Nat} {w w':World} (h:Below B w w'):Keeps B w w':=fun _ _ hp hc=>(h.cell hp).trans hc
def isLit (x:Lt) (cs:List Value):Prop:=cs=[.string x.name,.bool x.no]∧x.name.size≤maxLen
structure VrOk (x:Vr):Prop where
 name:x.name.size≤maxLen
 ty:Wf x.ty
 line:Wf x.line
 col:Wf x.col
def isVr (w:World) (B:Nat) (x:Vr) (cs:List Value):Prop:=
 ∃A cap,cs=[.string x.name,.int .i64 x.ty,.slice A x.clock.length cap,.int .i64 x.line,.int .i64 x.col]∧VrOk x∧x.clock.length≤cap∧cap≤maxLen∧Sl w B 2 isLit A x.clock
structure EqnOk (x:Eqn):Prop where
 right:ExOk x.right
 line:Wf x.line
 col:Wf x.col
def isEqn (w:World) (B:Nat) (x:Eqn) (cs:List Value):Prop:=
 ∃A cap A' cap',cs=[.slice A x.left.length cap,.int .i64 x.right.op,.string x.right.name,.int .i64 x.right.n,.slice A' x.right.args.length cap',.int .i64 x.right.line,.int .i64 x.right.col,.int .i64 x.line,.int .i64 x.col]∧
  EqnOk x∧x.left.length≤cap∧cap≤maxLen∧Sl w B 1 isStr A x.left∧x.right.args.length≤cap'∧cap'≤maxLen∧IsExs w B A' x.right.args
structure NdA where
 ai:Option Addr
 ci:Nat
 ao:Option Addr
 co:Nat
 av:Option Addr
 cv:Nat
 aq:Option Addr
 cq:Nat
structure NdAt (w:World) (B:Nat) (n:Nd) (a:NdA):Prop where
 name:n.name.size≤maxLen
 line:Wf n.line
 col:Wf n.col
 li:n.ins.length≤a.ci
 mi:a.ci≤maxLen
 si:Sl w B 5 (isVr w B) a.ai n.ins
 lo:n.outs.length≤a.co
 mo:a.co≤maxLen
 so:Sl w B 5 (isVr w B) a.ao n.outs
 lv:n.vars.length≤a.cv
 mv:a.cv≤maxLen
 sv:Sl w B 5 (isVr w B) a.av n.vars
 lq:n.eqs.length≤a.cq
 mq:a.cq≤maxLen
 sq:Sl w B 9 (isEqn w B) a.aq n.eqs
abbrev ndCs (n:Nd) (a:NdA):List Value:=[.string n.name,.slice a.ai n.ins.length a.ci,.slice a.ao n.outs.length a.co,.slice a.av n.vars.length a.cv,.slice a.aq n.eqs.length a.cq,.int .i64 n.line,.int .i64 n.col]
abbrev ndV (n:Nd) (a:NdA):Value:= .agg #[.string n.name,.slice a.ai n.ins.length a.ci,.slice a.ao n.outs.length a.co,.slice a.av n.vars.length a.cv,.slice a.aq n.eqs.length a.cq,.int .i64 n.line,.int .i64 n.col]
def isNd (w:World) (B:Nat) (n:Nd) (cs:List Value):Prop:=∃a,cs=ndCs n a∧NdAt w B n a
section
variable {w w':World} {B B':Nat}
theorem isVr_keep (hk:Keeps B w w') (hB:B≤B') {x:Vr} {cs:List Value} (h:isVr w B x cs):isVr w' B' x cs:=by
 obtain ⟨A,cap,h1,h2,h3,h4,h5⟩:=h
 exact ⟨A,cap,h1,h2,h3,h4,h5.keep hk hB (fun _ _ _ h=>h)⟩
theorem isEqn_keep (hk:Keeps B w w') (hB:B≤B') {x:Eqn} {cs:List Value} (h:isEqn w B x cs):isEqn w' B' x cs:=by
 obtain ⟨A,cap,A',cap',h1,h2,h3,h4,h5,h6,h7,h8⟩:=h
 exact ⟨A,cap,A',cap',h1,h2,h3,h4,h5.keep hk hB (fun _ _ _ h=>h),h6,h7,(h8.keepS hk).more hB⟩
theorem NdAt.keep (hk:Keeps B w w') (hB:B≤B') {n:Nd} {a:NdA} (h:NdAt w B n a):NdAt w' B' n a:=
 ⟨h.name,h.line,h.col,h.li,h.mi,h.si.keep hk hB (fun _ _ _ h=>isVr_keep hk hB h),h.lo,h.mo,h.so.keep hk hB (fun _ _ _ h=>isVr_keep hk hB h),h.lv,h.mv,h.sv.keep hk hB (fun _ _ _ h=>isVr_keep hk hB h),
  h.lq,h.mq,h.sq.keep hk hB (fun _ _ _ h=>isEqn_keep hk hB h)⟩
theorem NdAt.below {n:Nd} {a:NdA} (h:NdAt w B n a) (hb:Below B w w'):NdAt w' B n a:=h.keep (keeps_of hb) (Nat.le_refl _)
theorem NdAt.more {n:Nd} {a:NdA} (h:NdAt w B n a) (hB:B≤B'):NdAt w B' n a:=h.keep (fun _ _ _ h=>h) hB
theorem NdAt.next {n:Nd} {a:NdA} (h:NdAt w w.heap.size n a) (hb:Below w.heap.size w w'):NdAt w' w'.heap.size n a:=(h.below hb).more hb.size
theorem isNd_keep (hk:Keeps B w w') (hB:B≤B') {x:Nd} {cs:List Value} (h:isNd w B x cs):isNd w' B' x cs:=by
 obtain ⟨a,h1,h2⟩:=h
 exact ⟨a,h1,h2.keep hk hB⟩
abbrev Vrs (w:World) (B:Nat) (A:Option Addr) (l:List Vr):Prop:=Sl w B 5 (isVr w B) A l
abbrev Nds (w:World) (B:Nat) (A:Option Addr) (l:List Nd):Prop:=Sl w B 7 (isNd w B) A l
abbrev Eqs (w:World) (B:Nat) (A:Option Addr) (l:List Eqn):Prop:=Sl w B 9 (isEqn w B) A l
theorem vrs_keep {A:Option Addr} {l:List Vr} (h:Vrs w B A l) (hk:Keeps B w w') (hB:B≤B'):Vrs w' B' A l:=h.keep hk hB (fun _ _ _ h=>isVr_keep hk hB h)
theorem vrs_keep2 {C:Nat} {A:Option Addr} {l:List Vr} (h:Sl w C 5 (isVr w B) A l) (hb:Below C w w') (hB:B≤C):Sl w' C 5 (isVr w' B) A l:=h.keep (keeps_of hb) (Nat.le_refl _) (fun _ _ _ h=>isVr_keep (keeps_of (hb.mono hB)) (Nat.le_refl _) h)
theorem eqs_keep {A:Option Addr} {l:List Eqn} (h:Eqs w B A l) (hk:Keeps B w w') (hB:B≤B'):Eqs w' B' A l:=h.keep hk hB (fun _ _ _ h=>isEqn_keep hk hB h)
theorem nds_keep {A:Option Addr} {l:List Nd} (h:Nds w B A l) (hk:Keeps B w w') (hB:B≤B'):Nds w' B' A l:=h.keep hk hB (fun _ _ _ h=>isNd_keep hk hB h)
theorem exs_keep {A:Option Addr} {l:List Ex} (h:IsExs w B A l) (hk:Keeps B w w') (hB:B≤B'):IsExs w' B' A l:=(h.keepS hk).more hB
theorem lits_keep {A:Option Addr} {l:List Lt} (h:Sl w B 2 isLit A l) (hk:Keeps B w w') (hB:B≤B'):Sl w' B' 2 isLit A l:=h.keep hk hB (fun _ _ _ h=>h)
theorem strs_keep {A:Option Addr} {l:List ByteArray} (h:Sl w B 1 isStr A l) (hk:Keeps B w w') (hB:B≤B'):Sl w' B' 1 isStr A l:=h.keep hk hB (fun _ _ _ h=>h)
theorem Sl.lit {A:Option Addr} {l:List Lt} {k:Nat} (h:Sl w B 2 isLit A l) (hk:k<l.length):∃b off x,A=some ⟨b,off,none⟩∧b<B∧l[k]? =some x∧x.name.size≤maxLen∧
  w.cell? ⟨b,off+k*2,none⟩=some (.string x.name)∧w.cell? ⟨b,off+k*2+1,none⟩=some (.bool x.no):=by
 obtain ⟨b,off,x,cs,h1,h2,h3,⟨rfl,h4⟩,h5⟩:=h.at_ hk
 exact ⟨b,off,x,h1,h2,h3,h4,h5 0 _ rfl,h5 1 _ rfl⟩
theorem Sl.vr {C:Nat} {A:Option Addr} {l:List Vr} {k:Nat} (h:Sl w C 5 (isVr w B) A l) (hk:k<l.length):∃b off x A' cap',A=some ⟨b,off,none⟩∧b<C∧l[k]? =some x∧VrOk x∧x.clock.length≤cap'∧cap'≤maxLen∧Sl w B 2 isLit A' x.clock∧
  w.cell? ⟨b,off+k*5,none⟩=some (.string x.name)∧w.cell? ⟨b,off+k*5+1,none⟩=some (.int .i64 x.ty)∧w.cell? ⟨b,off+k*5+2,none⟩=some (.slice A' x.clock.length cap')∧
  w.cell? ⟨b,off+k*5+3,none⟩=some (.int .i64 x.line)∧w.cell? ⟨b,off+k*5+4,none⟩=some (.int .i64 x.col):=by
 obtain ⟨b,off,x,cs,h1,h2,h3,⟨A',cap',rfl,h4,h5,h6,h7⟩,h8⟩:=h.at_ hk
 exact ⟨b,off,x,A',cap',h1,h2,h3,h4,h5,h6,h7,h8 0 _ rfl,h8 1 _ rfl,h8 2 _ rfl,h8 3 _ rfl,h8 4 _ rfl⟩
theorem Sl.eqn {A:Option Addr} {l:List Eqn} {k:Nat} (h:Eqs w B A l) (hk:k<l.length):∃b off x A1 c1 A2 c2,A=some ⟨b,off,none⟩∧b<B∧l[k]? =some x∧EqnOk x∧x.left.length≤c1∧c1≤maxLen∧Sl w B 1 isStr A1 x.left∧
  x.right.args.length≤c2∧c2≤maxLen∧IsExs w B A2 x.right.args∧
  w.cell? ⟨b,off+k*9,none⟩=some (.slice A1 x.left.length c1)∧w.cell? ⟨b,off+k*9+1,none⟩=some (.int .i64 x.right.op)∧w.cell? ⟨b,off+k*9+2,none⟩=some (.string x.right.name)∧
  w.cell? ⟨b,off+k*9+3,none⟩=some (.int .i64 x.right.n)∧w.cell? ⟨b,off+k*9+4,none⟩=some (.slice A2 x.right.args.length c2)∧w.cell? ⟨b,off+k*9+5,none⟩=some (.int .i64 x.right.line)∧
  w.cell? ⟨b,off+k*9+6,none⟩=some (.int .i64 x.right.col)∧w.cell? ⟨b,off+k*9+7,none⟩=some (.int .i64 x.line)∧w.cell? ⟨b,off+k*9+8,none⟩=some (.int .i64 x.col):=by
 obtain ⟨b,off,x,cs,h1,h2,h3,⟨A1,c1,A2,c2,rfl,h4,h5,h6,h7,h8,h9,h10⟩,h11⟩:=h.at_ hk
 exact ⟨b,off,x,A1,c1,A2,c2,h1,h2,h3,h4,h5,h6,h7,h8,h9,h10,h11 0 _ rfl,h11 1 _ rfl,h11 2 _ rfl,h11 3 _ rfl,h11 4 _ rfl,h11 5 _ rfl,h11 6 _ rfl,h11 7 _ rfl,h11 8 _ rfl⟩
theorem Sl.nd {A:Option Addr} {l:List Nd} {k:Nat} (h:Nds w B A l) (hk:k<l.length):∃b off x a,A=some ⟨b,off,none⟩∧b<B∧l[k]? =some x∧NdAt w B x a∧
  w.cell? ⟨b,off+k*7,none⟩=some (.string x.name)∧w.cell? ⟨b,off+k*7+1,none⟩=some (.slice a.ai x.ins.length a.ci)∧w.cell? ⟨b,off+k*7+2,none⟩=some (.slice a.ao x.outs.length a.co)∧
  w.cell? ⟨b,off+k*7+3,none⟩=some (.slice a.av x.vars.length a.cv)∧w.cell? ⟨b,off+k*7+4,none⟩=some (.slice a.aq x.eqs.length a.cq)∧
  w.cell? ⟨b,off+k*7+5,none⟩=some (.int .i64 x.line)∧w.cell? ⟨b,off+k*7+6,none⟩=some (.int .i64 x.col):=by
 obtain ⟨b,off,x,cs,h1,h2,h3,⟨a,rfl,h4⟩,h5⟩:=h.at_ hk
 exact ⟨b,off,x,a,h1,h2,h3,h4,h5 0 _ rfl,h5 1 _ rfl,h5 2 _ rfl,h5 3 _ rfl,h5 4 _ rfl,h5 5 _ rfl,h5 6 _ rfl⟩
end
end Go.Proofs.YtdkgkacnjdnpoaaGreat
