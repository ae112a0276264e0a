/-
  Expressions as plain data: trees, what is reckoned part by part, induction. Expressions in memory. Sources as plain data: conditions, variables, equations, nodes; how they lie in memory. Names and words, as plain lists of bytes: the program's and the document's are one. The contracts of package token: letter, digit, named, words, Word, Name. The contracts of package tompionref11: Digit, Part, Word, Name. The contracts of tree.Parts, names and of tompionref12.Parts. What is plain of an expression: the contract of tree.plain. The contracts of package arith: each call returns the number that its text says, wrapped to 64 bits, and leaves the world as it was. Plain facts on numbers of 64 bits that go round: sums, products, quotients, remainders. No program in sight. The contracts of arith.Flag, One, Do, Sign. The contract of tompionref03.Sign. Flats, as plain data: when one is right. Machines' programs in memory; the contracts of package code's May and of row.Right. Which programs may be: the contract of code.May. Arguments that read as data, opened: machines' programs. Appends of whatever slice, nil let in; arguments that are rows of numbers. The contracts of tompionref04.Right and of tompionref27's Value, Has, May. The looker in memory: the contracts of its small methods. More methods of the looker: one, cell, reckons. The looker looks at an instruction, op by op (those of one way). The looker looks at an instruction, op by op (those that draw their order). The looker looks at an instruction, op by op (more that draw their order). The looker looks at an instruction, op by op (what comes out).
-/
import Derived.Test.YtckognjamlckcaaGreatDoorMem
import Derived.Test.YtckognjamlckcaaGreatDoorPlainA
set_option maxHeartbeats 4000000
namespace Go.Proofs.YtckognjamlckcaaGreatDoor
inductive Ex where
 |mk (op:Int) (name:ByteArray) (n:Int) (args:List Ex) (line col:Int)
namespace Ex
def op:Ex->Int
 | .mk op _ _ _ _ _=>op
def name:Ex->ByteArray
 | .mk _ name _ _ _ _=>name
def n:Ex->Int
 | .mk _ _ n _ _ _=>n
def args:Ex->List Ex
 | .mk _ _ _ args _ _=>args
def line:Ex->Int
 | .mk _ _ _ _ line _=>line
def col:Ex->Int
 | .mk _ _ _ _ _ col=>col
noncomputable def para {α:Type} (f:Ex->List α->α) (e:Ex):α:=
 Ex.rec (motive_1:=fun _=>α) (motive_2:=fun _=>List α) (fun op nm n args l c ih=>f (.mk op nm n args l c) ih) [] (fun _ _ h t=>h::t) e
theorem wY {α:Type} (f:Ex->List α->α) (l:List Ex):
  Ex.rec_1 (motive_1:=fun _=>α) (motive_2:=fun _=>List α) (fun op nm n args l c ih=>f (.mk op nm n args l c) ih) [] (fun _ _ h t=>h::t) l=l.map (para f):=by
 induction l with
 |nil=>rfl
 |cons x l ih=>rw[List.map_cons,<-ih];rfl
theorem para_eq {α:Type} (f:Ex->List α->α) (e:Ex):para f e=f e (e.args.map (para f)):=by
 obtain ⟨op,nm,n,args,l,c⟩:=e
 show f _ (Ex.rec_1 (motive_1:=fun _=>α) (motive_2:=fun _=>List α) _ _ _ args)=_
 rw[wY];rfl
theorem ind {P:Ex->Prop} (h:∀e:Ex,(∀x∈e.args,P x)->P e) (e:Ex):P e:=
 Ex.rec (motive_1:=P) (motive_2:=fun l=>∀x∈l,P x) (fun op nm n args l c ih=>h (.mk op nm n args l c) ih) (fun _ hx=>absurd hx List.not_mem_nil)
  (fun _ _ h t x hx=>(List.mem_cons.1 hx).elim (fun e=>e▸h) (t x)) e
end Ex
noncomputable def bC:Ex->List Ex:=Ex.para fun e ps=>e::ps.flatten
theorem eM (e:Ex):bC e=e::(e.args.map bC).flatten:=Ex.para_eq _ e
def dz:List Nat->Nat
 | []=>0
 |x::l=>max x (dz l)
noncomputable def ax:Ex->Nat:=Ex.para fun _ ps=>dz ps+1
theorem iA (e:Ex):ax e=dz (e.args.map ax)+1:=Ex.para_eq _ e
theorem pu (l:List Nat) (x:Nat):dz (l++ [x])=max (dz l) x:=by
 induction l with
 |nil=>simp[dz]
 |cons y l ih=>simp only[List.cons_append,dz,ih];omega
theorem iW {l:List Nat} {b:Nat} (h:∀x∈l,x<=b):dz l<=b:=by
 induction l with
 |nil=>exact Nat.zero_le _
 |cons y l ih=>simp only[dz];have:=h y (by simp);have:=ih (fun x hx=>h x (by simp[hx]));omega
noncomputable def ay (e:Ex):Nat:=(bC e).length
def eE:List Nat->Nat
 | []=>0
 |x::l=>x+eE l
theorem iI (e:Ex):ay e=eE (e.args.map ay)+1:=by
 unfold ay
 rw[eM,List.length_cons]
 congr 1
 have:∀l:List Ex,(l.map bC).flatten.length=eE (l.map fun e=>(bC e).length):=by
  intro l
  induction l with
  |nil=>rfl
  |cons x l ih=>simp only[List.map_cons,List.flatten_cons,List.length_append,eE,ih]
 exact this _
theorem pX {l:List Nat} {x:Nat} (h:x∈l):x<=eE l:=by
 induction l with
 |nil=>cases h
 |cons y l ih=>
  simp only[eE]
  rcases List.mem_cons.1 h with rfl|h
  ·omega
  ·have:=ih h;omega
theorem kp (e:Ex):1<=ay e:=by rw[iI];omega
theorem iP {e x:Ex} (h:x∈e.args):ay x<ay e:=by
 have:=pX (List.mem_map_of_mem (f:=ay) h)
 rw[iI e];omega
theorem ta (e:Ex):ax e<=ay e:=by
 induction e using Ex.ind with
 |h e ih=>
  rw[iA,iI]
  have:dz (e.args.map ax)<=eE (e.args.map ay):=iW fun x hx=>by
   obtain ⟨y,hy,rfl⟩:=List.mem_map.1 hx
   exact Nat.le_trans (ih y hy) (pX (List.mem_map_of_mem hy))
  omega
open Go.RowKit
def dR (e:Ex) (A:Option Addr) (cap:Nat):List Value:=
 [.int .i64 e.op,.string e.name,.int .i64 e.n,.slice A e.args.length cap,.int .i64 e.line,.int .i64 e.col]
structure cW (e:Ex):Prop where
 op:Wf e.op
 name:e.name.size<=maxLen
 n:Wf e.n
 line:Wf e.line
 col:Wf e.col
def tn (w:World) (B:Nat) (b off:Nat) (ps:List (List Value->Prop)):Prop:=
 b<B/\∀i p,ps[i]? =some p->∃cs:List Value,(∀j u,cs[j]? =some u->w.cell? ⟨b,off+i*6+j,none⟩=some u)/\p cs
noncomputable def cL (w:World) (B:Nat):Ex->List Value->Prop:=Ex.para fun e ps cs=>
 ∃A cap,cs=dR e A cap/\cW e/\ps.length<=cap/\cap<=maxLen/\(0<ps.length->∃b off,A=some ⟨b,off,none⟩/\tn w B b off ps)
theorem fQ {w:World} {B:Nat} {e:Ex} {cs:List Value}:cL w B e cs↔∃A cap,cs=dR e A cap/\cW e/\e.args.length<=cap/\cap<=maxLen/\
  (0<e.args.length->∃b off,A=some ⟨b,off,none⟩/\b<B/\∀i x,e.args[i]? =some x->∃cs:List Value,(∀j u,cs[j]? =some u->w.cell? ⟨b,off+i*6+j,none⟩=some u)/\cL w B x cs):=by
 unfold cL
 rw[Ex.para_eq]
 simp only[List.length_map,tn,List.getElem?_map,Option.map_eq_some_iff,forall_exists_index,and_imp,forall_apply_eq_imp_iff₂]
theorem cL.keep {w w':World} {B:Nat} (hk:∀p:Addr,p.block<B->w'.cell? p=w.cell? p) {e:Ex}:∀{cs:List Value},cL w B e cs->cL w' B e cs:=by
 induction e using Ex.ind with
 |h e ih=>
  intro cs h
  obtain ⟨A,cap,h1,h2,h3,h4,h5⟩:=fQ.1 h
  refine fQ.2 ⟨A,cap,h1,h2,h3,h4,fun hn=>?_⟩
  obtain ⟨b,off,hA,hb,hx⟩:=h5 hn
  refine ⟨b,off,hA,hb,fun i x hi=>?_⟩
  obtain ⟨cs',hc,hx'⟩:=hx i x hi
  exact ⟨cs',fun j u hu=>(hk ⟨b,off+i*6+j,none⟩ hb).trans (hc j u hu),ih x (List.mem_of_getElem? hi) hx'⟩
theorem cL.more {w:World} {B B':Nat} (hB:B<=B') {e:Ex}:∀{cs:List Value},cL w B e cs->cL w B' e cs:=by
 induction e using Ex.ind with
 |h e ih=>
  intro cs h
  obtain ⟨A,cap,h1,h2,h3,h4,h5⟩:=fQ.1 h
  refine fQ.2 ⟨A,cap,h1,h2,h3,h4,fun hn=>?_⟩
  obtain ⟨b,off,hA,hb,hx⟩:=h5 hn
  refine ⟨b,off,hA,by omega,fun i x hi=>?_⟩
  obtain ⟨cs',hc,hx'⟩:=hx i x hi
  exact ⟨cs',hc,ih x (List.mem_of_getElem? hi) hx'⟩
theorem cL.below {w w':World} {B:Nat} {e:Ex} {cs:List Value} (h:cL w B e cs) (hb:Below B w w'):cL w' B e cs:=h.keep fun _ hp=>hb.cell hp
def aM (w:World) (B:Nat) (A:Option Addr) (l:List Ex):Prop:=
 0<l.length->∃b off,A=some ⟨b,off,none⟩/\b<B/\∀i x,l[i]? =some x->∃cs:List Value,(∀j u,cs[j]? =some u->w.cell? ⟨b,off+i*6+j,none⟩=some u)/\cL w B x cs
theorem aM.below {w w':World} {B:Nat} {A:Option Addr} {l:List Ex} (h:aM w B A l) (hb:Below B w w'):aM w' B A l:=fun hn=>by
 obtain ⟨b,off,hA,hbb,hx⟩:=h hn
 refine ⟨b,off,hA,hbb,fun i x hi=>?_⟩
 obtain ⟨cs',hc,hx'⟩:=hx i x hi
 exact ⟨cs',fun j u hu=>(hb.cell (p:=⟨b,off+i*6+j,none⟩) hbb).trans (hc j u hu),hx'.below hb⟩
theorem aM.more {w:World} {B B':Nat} {A:Option Addr} {l:List Ex} (h:aM w B A l) (hB:B<=B'):aM w B' A l:=fun hn=>by
 obtain ⟨b,off,hA,hbb,hx⟩:=h hn
 refine ⟨b,off,hA,by omega,fun i x hi=>?_⟩
 obtain ⟨cs',hc,hx'⟩:=hx i x hi
 exact ⟨cs',hc,hx'.more hB⟩
theorem cL.open {w:World} {B:Nat} {e:Ex} {cs:List Value} (h:cL w B e cs):∃A cap,cs=dR e A cap/\cW e/\e.args.length<=cap/\cap<=maxLen/\aM w B A e.args:=fQ.1 h
theorem cL.mk' {w:World} {B:Nat} {e:Ex} {A:Option Addr} {cap:Nat} (h1:cW e) (h2:e.args.length<=cap) (h3:cap<=maxLen) (h4:aM w B A e.args):cL w B e (dR e A cap):=fQ.2 ⟨A,cap,rfl,h1,h2,h3,h4⟩
theorem aM.at_ {w:World} {B:Nat} {A:Option Addr} {l:List Ex} {k:Nat} (h:aM w B A l) (hk:k<l.length):
  ∃b off x A' cap',A=some ⟨b,off,none⟩/\b<B/\l[k]? =some x/\x∈l/\cW x/\x.args.length<=cap'/\cap'<=maxLen/\aM w B A' x.args/\
   w.cell? ⟨b,off+k*6,none⟩=some (.int .i64 x.op)/\w.cell? ⟨b,off+k*6+1,none⟩=some (.string x.name)/\w.cell? ⟨b,off+k*6+2,none⟩=some (.int .i64 x.n)/\
   w.cell? ⟨b,off+k*6+3,none⟩=some (.slice A' x.args.length cap')/\w.cell? ⟨b,off+k*6+4,none⟩=some (.int .i64 x.line)/\w.cell? ⟨b,off+k*6+5,none⟩=some (.int .i64 x.col):=by
 obtain ⟨b,off,hA,hb,hx⟩:=h (by omega)
 have hl:l[k]? =some l[k]:=List.getElem?_eq_getElem hk
 obtain ⟨cs,hc,hx⟩:=hx k _ hl
 obtain ⟨A',cap',rfl,h1,h2,h3,h4⟩:=hx.open
 exact ⟨b,off,l[k],A',cap',hA,hb,hl,List.getElem_mem hk,h1,h2,h3,h4,hc 0 _ rfl,hc 1 _ rfl,hc 2 _ rfl,hc 3 _ rfl,hc 4 _ rfl,hc 5 _ rfl⟩
abbrev bz (e:Ex) (A:Option Addr) (cap:Nat):Value:= .agg #[.int .i64 e.op,.string e.name,.int .i64 e.n,.slice A e.args.length cap,.int .i64 e.line,.int .i64 e.col]
theorem uR {w wr:World} {e:Ex} {A:Option Addr} {cap:Nat} (hb:Below (w.heap.size+1) (w.alloc (.cells #[.int .i64 e.op,.string e.name,.int .i64 e.n,.slice A e.args.length cap,.int .i64 e.line,.int .i64 e.col] 75)) wr):
  (wr.cell? ⟨w.heap.size,0,none⟩=some (.int .i64 e.op)/\wr.cell? ⟨w.heap.size,1,none⟩=some (.string e.name)/\wr.cell? ⟨w.heap.size,2,none⟩=some (.int .i64 e.n)/\
   wr.cell? ⟨w.heap.size,3,none⟩=some (.slice A e.args.length cap)/\wr.cell? ⟨w.heap.size,4,none⟩=some (.int .i64 e.line)/\wr.cell? ⟨w.heap.size,5,none⟩=some (.int .i64 e.col))/\Below w.heap.size w wr/\w.heap.size+1<=wr.heap.size:=by
 have hc:∀j,wr.cell? ⟨w.heap.size,j,none⟩=(w.alloc (.cells #[.int .i64 e.op,.string e.name,.int .i64 e.n,.slice A e.args.length cap,.int .i64 e.line,.int .i64 e.col] 75)).cell? ⟨w.heap.size,j,none⟩:=fun j=>hb.cell (p:=⟨w.heap.size,j,none⟩) (Nat.lt_succ_self _)
 refine ⟨⟨?_,?_,?_,?_,?_,?_⟩,((Below.refl _ _).alloc (Nat.le_refl _) _).trans (hb.mono (Nat.le_succ _)),by have:=hb.size;simpa using this⟩
 all_goals (rw[hc];simp)
def dC (w:World) (B:Nat) (l:List Ex) (css:List (List Value)):Prop:=css.length=l.length/\∀(i:Nat) x cs,l[i]? =some x->css[i]? =some cs->cL w B x cs
theorem cL.len {w:World} {B:Nat} {e:Ex} {cs:List Value} (h:cL w B e cs):cs.length=6:=by
 obtain ⟨A,cap,rfl,_⟩:=h.open;rfl
theorem dC.six {w:World} {B:Nat} {l:List Ex} {css:List (List Value)} (h:dC w B l css):∀cs∈css,cs.length=6:=by
 intro cs hcs
 refine' zq252
 exact (h.2 i _ cs (List.getElem?_eq_getElem hl) hi).len
theorem dC.append {w:World} {B:Nat} {l l':List Ex} {css css':List (List Value)} (h:dC w B l css) (h':dC w B l' css'):dC w B (l++l') (css++css'):=by
 refine' zq158
theorem dC.keep {w w':World} {B B':Nat} {l:List Ex} {css:List (List Value)} (h:dC w B l css) (hb:Below B w w') (hB:B<=B'):dC w' B' l css:=
 ⟨h.1,fun i x cs hx hc=>((h.2 i x cs hx hc).below hb).more hB⟩
theorem dC.one {w:World} {B:Nat} {e:Ex} {cs:List Value} (h:cL w B e cs):dC w B [e] [cs]:=by
 refine ⟨rfl,fun i x cs' hx hc=>?_⟩
 match i,hx,hc with
 |0,hx,hc=>simp at hx hc;subst hx;subst hc;exact h
theorem dC.oneCell {w:World} {B:Nat} {l:List Ex} {css:List (List Value)} (h:dC w B l css):∀u∈css.flatten,u.oneCell'=true:=by
 intro u hu
 obtain ⟨cs,hcs,hu⟩:=List.mem_flatten.1 hu
 refine' zq252
 obtain ⟨A,cap,rfl,_⟩:=(h.2 i _ cs (List.getElem?_eq_getElem hl) hi).open
 simp only[dR,List.mem_cons,List.not_mem_nil,or_false] at hu
 rcases hu with rfl|rfl|rfl|rfl|rfl|rfl<;>rfl
theorem Bh {w:World} {base B:Nat} {e:TypeId} {v:Value} {n:Nat} {l:List Ex} {css:List (List Value)} (h:w.ownsRow base e 6 v n css.flatten) (hx:dC w B l css) (hB:B<=w.heap.size):
  ∃A c,v= .slice A l.length c/\n=l.length/\l.length<=c/\c<=maxLen/\aM w w.heap.size A l:=by
 have hn:n=l.length:=by
  have:=h.1;rw[eR hx.six,hx.1] at this;omega
 subst hn
 obtain ⟨A,c,hv,h1,h2,hr⟩:=fJ h
 refine ⟨A,c,hv,rfl,h1,h2,fun hn=>?_⟩
 rcases h.2 with ⟨_,h0⟩|⟨g,cap,cur,hv',hb,hh,hc,hm,hcs,ht⟩
 ·omega
 ·refine' zq293
  refine ⟨css[i],fun j u hu=>?_,((hx.2 i x _ hi (List.getElem?_eq_getElem hil)).more hB)⟩
  have hj:j<6:=by rw[<-hx.six css[i] (List.getElem_mem hil)];exact (List.getElem?_eq_some_iff.1 hu).1
  have:=h.cells (g:=g) (by rw[hv,hA];rfl) (i*6+j) u (by rw[gl hx.six (List.getElem?_eq_getElem hil) hj];exact hu)
  rwa [Addr.add_lit,<-Nat.add_assoc] at this
theorem cL.keepS {w w':World} {B:Nat} (hk:∀(p:Addr) (u:Value),p.block<B->w.cell? p=some u->w'.cell? p=some u) {e:Ex}:∀{cs:List Value},cL w B e cs->cL w' B e cs:=by
 induction e using Ex.ind with
 |h e ih=>
  intro cs h
  obtain ⟨A,cap,h1,h2,h3,h4,h5⟩:=fQ.1 h
  refine fQ.2 ⟨A,cap,h1,h2,h3,h4,fun hn=>?_⟩
  obtain ⟨b,off,hA,hb,hx⟩:=h5 hn
  refine ⟨b,off,hA,hb,fun i x hi=>?_⟩
  obtain ⟨cs',hc,hx'⟩:=hx i x hi
  exact ⟨cs',fun j u hu=>hk ⟨b,off+i*6+j,none⟩ u hb (hc j u hu),ih x (List.mem_of_getElem? hi) hx'⟩
theorem aM.keepS {w w':World} {B:Nat} {A:Option Addr} {l:List Ex} (h:aM w B A l) (hk:∀(p:Addr) (u:Value),p.block<B->w.cell? p=some u->w'.cell? p=some u):aM w' B A l:=fun hn=>by
 obtain ⟨b,off,hA,hbb,hx⟩:=h hn
 refine ⟨b,off,hA,hbb,fun i x hi=>?_⟩
 obtain ⟨cs',hc,hx'⟩:=hx i x hi
 exact ⟨cs',fun j u hu=>hk ⟨b,off+i*6+j,none⟩ u hbb (hc j u hu),hx'.keepS hk⟩
structure dc (X:Nat->Prop) (W W':World):Prop where
 size:W.heap.size<=W'.heap.size
 same:∀b cs t f,¬X b->W.heap[b]? =some (.cells cs t f)->W'.heap[b]? =some (.cells cs t f)
theorem dc.trans {X:Nat->Prop} {A B C:World} (h:dc X A B) (k:dc X B C):dc X A C:=⟨Nat.le_trans h.size k.size,fun b cs t f hb hc=>k.same b cs t f hb (h.same b cs t f hb hc)⟩
theorem dc.below {X:Nat->Prop} {W W':World} (h:Below W.heap.size W W'):dc X W W':=⟨h.size,fun b _ _ _ _ hc=>(h.block b (Array.getElem?_eq_some_iff.1 hc).1).trans hc⟩
theorem dc.alloc (X:Nat->Prop) (W:World) (o:Obj):dc X W (W.alloc o):=dc.below ((Below.refl _ _).alloc (Nat.le_refl _) _)
theorem dc.cell {X:Nat->Prop} {W W':World} (h:dc X W W') {p:Addr} {u:Value} (hp:¬X p.block) (hc:W.cell? p=some u):W'.cell? p=some u:=by
 simp only[World.cell?] at hc⊢
 cases hb:W.heap[p.block]? with
 |none=>rw[hb] at hc;cases hc
 |some o=>
  rw[hb] at hc
  cases o with
  |cells cs t f=>rw[h.same p.block cs t f hp hb];exact hc
  |_=>cases hc
theorem CQ {X:Nat->Prop} {w wr:World} {e:Ex} {A:Option Addr} {cap:Nat} (hb:dc X (w.alloc (.cells #[.int .i64 e.op,.string e.name,.int .i64 e.n,.slice A e.args.length cap,.int .i64 e.line,.int .i64 e.col] 75)) wr) (hX:¬X w.heap.size):
  wr.cell? ⟨w.heap.size,0,none⟩=some (.int .i64 e.op)/\wr.cell? ⟨w.heap.size,1,none⟩=some (.string e.name)/\wr.cell? ⟨w.heap.size,2,none⟩=some (.int .i64 e.n)/\
   wr.cell? ⟨w.heap.size,3,none⟩=some (.slice A e.args.length cap)/\wr.cell? ⟨w.heap.size,4,none⟩=some (.int .i64 e.line)/\wr.cell? ⟨w.heap.size,5,none⟩=some (.int .i64 e.col):=by
 refine ⟨?_,?_,?_,?_,?_,?_⟩<;>exact hb.cell hX (by simp)
noncomputable def cB (p:Prop):Bool:= @decide p (Classical.propDecidable p)
theorem aq {p:Prop} (h:p):cB p=true:=by unfold cB;exact @decide_eq_true p (Classical.propDecidable p) h
theorem ab {p:Prop} (h:¬p):cB p=false:=by unfold cB;exact @decide_eq_false p (Classical.propDecidable p) h
theorem cb {p:Prop}:cB p=true↔p:=⟨fun h=>Classical.byContradiction fun hn=>(by rw[ab hn] at h;cases h),aq⟩
theorem fO {p:Prop}:cB p=false↔¬p:=⟨fun h hp=>(by rw[aq hp] at h;cases h),ab⟩
theorem bu {p q:Prop} (h:p↔q):cB p=cB q:=by rw[Bool.eq_iff_iff,cb,cb];exact h
section
variable {w w':World} {B B':Nat}
end
end Go.Proofs.YtckognjamlckcaaGreatDoor
namespace Go.Proofs.YtckognjamlckcaaGreatDoor.Nm
end Go.Proofs.YtckognjamlckcaaGreatDoor.Nm
namespace Go.Proofs.YtckognjamlckcaaGreatDoor
open Go.RowKit _root_.Go.Proofs.YtckognjamlckcaaGreatDoor.Nm
theorem aC {k:Nat} {P:Nat->Prop} (h:∀j,j<k->P j) (hk:P k):∀j,j<k+1->P j:=fun j hj=>by
 rcases Nat.lt_or_ge j k with h1|h1
 ·exact h j h1
 ·obtain rfl:j=k:=by omega
  exact hk
def aX (op:Int):Int:=
 if op=1\/op=2\/op=3 then 0 else if op=4 then-1 else if op=5\/op=6\/op=21\/op=24\/op=25 then 1
 else if 7<=op/\op<=20\/op=22\/op=23\/op=26 then 2 else if op=27 then 3 else-2
theorem tv {a b:Int} (h:a=b):Ending.returned (.int .i64 a)= .returned (.int .i64 b):=by rw[h]
theorem vO (op:Int) (w:World):
  Calls Tryz.prog 115 #[.int .i64 op] w fun e w'=>e= .returned (.int .i64 (aX op))/\w=w':=by
 go_enter Tryz.func115,Tryz.ntmps115
 go_wp2
 all_goals
  go_ret
  refine ⟨tv ?_,rfl⟩
  (try simp only[beq_iff_eq,beq_eq_false_iff_ne] at*)
  unfold aX
  repeat' split
  all_goals omega
def vW:List Int:=[0,0,0,-1,1,1,2,2,2,2,2,2,2,2,2,2,2,2,2,2,1,2,2,1,1,2,3]
theorem xT (op:Int) (h1:1<=op) (h2:op<=27):vW[(op-1).toNat]? =some (aX op):=by
 rcases (by omega:op=1\/op=2\/op=3\/op=4\/op=5\/op=6\/op=7\/op=8\/op=9\/op=10\/op=11\/op=12\/op=13\/op=14\/op=15\/op=16\/op=17\/op=18\/op=19\/op=20\/op=21\/op=22\/op=23\/op=24\/op=25\/op=26\/op=27) with rfl|rfl|rfl|rfl|rfl|rfl|rfl|rfl|rfl|rfl|rfl|rfl|rfl|rfl|rfl|rfl|rfl|rfl|rfl|rfl|rfl|rfl|rfl|rfl|rfl|rfl|rfl
 all_goals decide+kernel
theorem uS (op:Int) (h1:1<=op) (h2:op<=27):(vW.map (Value.int .i64))[op.toNat-1]? =some (.int .i64 (aX op)):=by
 rw[List.getElem?_map,show op.toNat-1=(op-1).toNat by omega,xT op h1 h2]
 rfl
theorem uL (op:Int) (w:World):
  Calls Tryz.prog 87 #[.int .i64 op] w fun e w'=>e= .returned (.int .i64 (aX op))/\Below w.heap.size w w':=by
 by_cases h1:1<=op/\op<=27
 ·obtain ⟨h1,h2⟩:=h1
  have hc: [Value.int .i64 0,Value.int .i64 0,Value.int .i64 0,Value.int .i64 (-1),Value.int .i64 1,Value.int .i64 1,Value.int .i64 2,Value.int .i64 2,Value.int .i64 2,Value.int .i64 2,Value.int .i64 2,Value.int .i64 2,Value.int .i64 2,Value.int .i64 2,Value.int .i64 2,Value.int .i64 2,Value.int .i64 2,Value.int .i64 2,Value.int .i64 2,Value.int .i64 2,Value.int .i64 1,Value.int .i64 2,Value.int .i64 2,Value.int .i64 1,Value.int .i64 1,Value.int .i64 2,Value.int .i64 3][op.toNat-1]? =some (.int .i64 (aX op)):=uS op h1 h2
  go_enter Tryz.func87,Tryz.ntmps87
  go_wp2
  go_ret
  exact ⟨rfl,(Below.refl _ _).alloc (Nat.le_refl _) _⟩
 ·have HE:=zH (show aX op= -2 from by unfold aX;repeat' split;all_goals omega)
  go_enter Tryz.func87,Tryz.ntmps87
  go_wp2
  all_goals
   first|(exfalso;omega)|(go_ret;exact ⟨tv HE.o.symm,Below.refl _ _⟩)
end Go.Proofs.YtckognjamlckcaaGreatDoor
namespace Go.Proofs.YtckognjamlckcaaGreatDoor.Ar
open Go.RowKit
def gj (a b:Int):Int:=wrap64 (a+b)
def rj (a b:Int):Int:=wrap64 (a-b)
def kF (a b:Int):Int:=wrap64 (a*b)
def ev (a:Int):Int:=wrap64 (-a)
def gy (a b:Int):Int:=if b=0 then 0 else if b= -1 then wrap64 (-a) else wrap64 (a.tdiv b)
def qN (a b:Int):Int:=rj a (kF (gy a b) b)
def cI (b:Bool):Int:=if b then 1 else 0
end Go.Proofs.YtckognjamlckcaaGreatDoor.Ar
namespace Go.Proofs.YtckognjamlckcaaGreatDoor.Z
open Go.RowKit Ar
theorem pm (n:Int):wrap64 n=Int.bmod n 18446744073709551616:=by
 unfold wrap64
 rw[Int.bmod_def]
 split<;>omega
theorem dS (n:Int): -9223372036854775808<=wrap64 n/\wrap64 n<=9223372036854775807:=by
 unfold wrap64;omega
theorem lV {n:Int} (h: -9223372036854775808<=n/\n<=9223372036854775807):wrap64 n=n:=by
 unfold wrap64;omega
def In (n:Int):Prop:= -9223372036854775808<=n/\n<=9223372036854775807
theorem Dn (a b:Int):In (gj a b):=dS _
theorem nv (a:Int):In (ev a):=dS _
theorem Dq (a b:Int):In (rj a b):=dS _
theorem xf (a b:Int):In (kF a b):=dS _
theorem CS (a b:Int):In (qN a b):=dS _
theorem xj (a b:Int):In (gy a b):=by
 unfold gy
 split
 ·unfold In;omega
 ·split
  ·exact dS _
  ·exact dS _
theorem wD (a b:Int):rj a b=gj a (ev b):=by
 simp only[rj,gj,ev,pm,Int.add_bmod_bmod,Int.sub_eq_add_neg]
theorem Az (a:Int):gy a 0=0:=by simp[gy]
end Go.Proofs.YtckognjamlckcaaGreatDoor.Z
namespace Go.Proofs.YtckognjamlckcaaGreatDoor.Ar
open Go.RowKit
def Eb (op a b:Int):Bool:=
 if op=12 then a==b else if op=13 then a !=b else if op=14 then decide (a<b) else if op=15 then decide (a<=b) else if op=16 then decide (b<a) else decide (b<=a)
def mH (op:Int) (a b:Bool):Bool:=if op=18 then a && b else if op=19 then a||b else a !=b
def im (op a:Int):Int:=if op=5 then ev a else if op=6 then cI (a==0) else 0
def ya (op:Int):Bool:=op==5||op==6
def gF (op a b:Int):Int:=
 if op=7 then gj a b else if op=8 then rj a b else if op=9 then kF a b else if op=10 then gy a b else if op=11 then qN a b
 else if 12<=op/\op<=17 then cI (Eb op a b) else if 18<=op/\op<=20 then cI (mH op (a !=0) (b !=0)) else 0
def rl (op:Int):Bool:=decide (7<=op) && decide (op<=20)
def signIn (op:Int):Int:=if op=12\/op=13 then 0 else if op=6\/op=18\/op=19\/op=20 then 2 else if 5<=op/\op<=17 then 1 else 0
def signOut (op:Int):Int:=if op=6\/(12<=op/\op<=20) then 2 else if 5<=op/\op<=11 then 1 else 0
def signB (op:Int):Bool:=decide (5<=op) && decide (op<=20)
theorem sign_any (op:Int) (w:World):
  Calls Tryz.prog 62 #[.int .i64 op] w fun e w'=>e= .returned (.tuple #[.int .i64 (signIn op),.int .i64 (signOut op),.bool (signB op)])/\w=w':=by
 by_cases h:5<=op/\op<=20
 ·rcases (by omega:op=5\/op=6\/op=7\/op=8\/op=9\/op=10\/op=11\/op=12\/op=13\/op=14\/op=15\/op=16\/op=17\/op=18\/op=19\/op=20) with rfl|rfl|rfl|rfl|rfl|rfl|rfl|rfl|rfl|rfl|rfl|rfl|rfl|rfl|rfl|rfl
  all_goals
   clear h
   go_enter Tryz.func62,Tryz.ntmps62
   go_wp2
   go_ret3
   exact ⟨rfl,rfl⟩
 ·have H1:=zH (show signIn op=0 from by unfold signIn;rw[if_neg (by omega),if_neg (by omega),if_neg (by omega)])
  have H2:=zH (show signOut op=0 from by unfold signOut;rw[if_neg (by omega),if_neg (by omega)])
  have H3:=zH (show signB op=false from by simp[signB];omega)
  by_cases hlt:op<5
  ·clear h
   go_enter Tryz.func62,Tryz.ntmps62
   go_wp2
   go_ret3
   exact ⟨by rw[H1.o,H2.o,H3.o];rfl,rfl⟩
  ·have hgt:20<op:=by omega
   clear h hlt
   go_enter Tryz.func62,Tryz.ntmps62
   go_wp2
   go_ret3
   exact ⟨by rw[H1.o,H2.o,H3.o];rfl,rfl⟩
end Go.Proofs.YtckognjamlckcaaGreatDoor.Ar
namespace Go.Proofs.YtckognjamlckcaaGreatDoor
open Go.RowKit Ar Z
theorem ze (op:Int) (w:World) (h:op<5\/20<op):
  Calls Tryz.prog 72 #[.int .i64 op] w fun e w'=>e= .returned (.tuple #[.int .i64 0,.int .i64 0,.bool false])/\Below w.heap.size w w':=by
 rcases h with h|h
 ·refine' zq305
  go_ret3
  exact ⟨rfl,Below.refl _ _⟩
 ·have h':¬op<5:=by omega
  refine' zq305
  go_ret3
  exact ⟨rfl,Below.refl _ _⟩
theorem pd (op:Int) (w:World) (h:5<=op/\op<=20):
  Calls Tryz.prog 72 #[.int .i64 op] w fun e w'=>e= .returned (.tuple #[.int .i64 (signIn op),.int .i64 (signOut op),.bool true])/\Below w.heap.size w w':=by
 rcases (by omega:op=5\/op=6\/op=7\/op=8\/op=9\/op=10\/op=11\/op=12\/op=13\/op=14\/op=15\/op=16\/op=17\/op=18\/op=19\/op=20) with rfl|rfl|rfl|rfl|rfl|rfl|rfl|rfl|rfl|rfl|rfl|rfl|rfl|rfl|rfl|rfl
 all_goals
  clear h
  refine' zq305
  go_quiet (fail)
  go_wp2
  go_ret3
  exact ⟨rfl,ap (((Below.refl _ _).alloc (Nat.le_refl _) _).alloc (by simp) _) _⟩
end Go.Proofs.YtckognjamlckcaaGreatDoor
namespace Go.Proofs.YtckognjamlckcaaGreatDoor.Fo
open Vf
structure Fl where
 wires:List Wr
 defs:List (Int × Ex)
 ins:List Int
 outs:List Int
def Fl.fm (f:Fl):Fm:=⟨f.wires,f.defs.map (fun d=>⟨0,d.1,0,0,0,0⟩),[],[],f.ins,f.outs⟩
def aJ (op:Int):Bool:=op==3||op==24||op==25||op==26
def bJ (f:Fl) (x:Ex):Prop:=x.name.toList.isEmpty=true/\x.op≠4/\aX x.op=x.args.length/\
 (if aJ x.op=true then ak f.fm x.n else if x.op=1 then 0<=x.n else if x.op=2 then x.n=0\/x.n=1 else x.n=0)
def aO (f:Fl) (e:Ex):Prop:=∀x∈bC e,bJ f x
def dJ (op:Int) (l:List Int):Int:=
 if (l.all fun k=>k==ao l 0 && (!(Ar.signB op)||Ar.signIn op==0||k==Ar.signIn op))=true then (if Ar.signB op=true then Ar.signOut op else ao l 0) else 0
def eV (f:Fl) (e:Ex) (ks:List Int):Int:=
 if 0∈ks then 0 else if aJ e.op=true/\e.op≠3/\ag f.fm e.n≠2 then 0
 else if e.op=1 then 1 else if e.op=2 then 2 else if e.op=3 then ag f.fm e.n
 else if e.op=27 then (if ao ks 0≠2 then 0 else dJ e.op ks.tail) else dJ e.op ks
noncomputable def am (f:Fl):Ex->Int:=Ex.para (eV f)
theorem dW (f:Fl) (e:Ex):am f e=eV f e (e.args.map (am f)):=Ex.para_eq _ e
def pO (f:Fl) (e:Ex) (ps:List (List Gd->Prop)) (c:List Gd):Prop:=
 if e.op=3 then aa f.fm e.n=c
 else if e.op=24\/e.op=25 then (∃c',c=c'++ [⟨e.n,e.op==25⟩]/\∀p∈ps,p c')
 else if e.op=26 then aa f.fm e.n=c/\∀(i:Nat) p,ps[i]? =some p->p (c++ [⟨e.n,i==1⟩])
 else ∀p∈ps,p c
noncomputable def aE (f:Fl):Ex->List Gd->Prop:=Ex.para (pO f)
theorem qd (f:Fl) (e:Ex) (c:List Gd):aE f e c↔pO f e (e.args.map (aE f)) c:=by unfold aE;rw[Ex.para_eq]
def jA (e:Ex) (ls:List Nat):Nat:=
 if 2∈ls then 2 else if e.op=21 then 1+dz ls else if e.op=22\/e.op=26 then 2*dz ls else if e.op=23 then 2*ls.headD 0 else dz ls
noncomputable def bf:Ex->Nat:=Ex.para jA
theorem jb (e:Ex):bf e=jA e (e.args.map bf):=Ex.para_eq _ e
def jG (e:Ex) (ps:List (List Int)):List Int:=(if aJ e.op=true then [e.n] else [])++(if e.op=21 then [] else if e.op=22 then ps.headD [] else ps.flatten)
noncomputable def aU:Ex->List Int:=Ex.para jG
theorem ie (e:Ex):aU e=jG e (e.args.map aU):=Ex.para_eq _ e
def de (f:Fl):Prop:=(∀w∈f.wires,eL f.fm w)/\1<=f.wires.length/\f.wires.length<=400
def gO (f:Fl) (d:Int × Ex):Prop:=aO f d.2/\ax d.2<=30/\am f d.2=ag f.fm d.1/\aE f d.2 (aa f.fm d.1)/\bf d.2=0
inductive dt (f:Fl):Int->Prop where
 |ins (n:Int) (h:n∈f.ins):dt f n
 |def_ (d:Int × Ex) (hd:d∈f.defs) (hw:∀n∈aU d.2,dt f n) (hg:∀g∈aa f.fm d.1,dt f g.wire):dt f d.1
def bn (f:Fl):Prop:=de f/\bG f.fm f.ins/\bG f.fm f.outs/\aR f.fm/\(∀d∈f.defs,gO f d)/\∀n:Nat,n<f.wires.length->dt f n
end Go.Proofs.YtckognjamlckcaaGreatDoor.Fo
namespace Go.Proofs.YtckognjamlckcaaGreatDoor
open Go.RowKit Vf
def lu (c:Int × Int) (cs:List Value):Prop:=cs=[.int .i64 c.1,.int .i64 c.2]/\Wf c.1/\Wf c.2
theorem Sl.cell {w:World} {B:Nat} {A:Option Addr} {l:List (Int × Int)} {k:Nat} (h:Sl w B 2 lu A l) (hk:k<l.length):∃b off x,A=some ⟨b,off,none⟩/\b<B/\l[k]? =some x/\Wf x.1/\Wf x.2/\
  w.cell? ⟨b,off+k*2,none⟩=some (.int .i64 x.1)/\w.cell? ⟨b,off+k*2+1,none⟩=some (.int .i64 x.2):=by
 obtain ⟨b,off,x,cs,h1,h2,h3,⟨rfl,h4⟩,h5⟩:=h.at_ hk
 exact ⟨b,off,x,h1,h2,h3,h4.1,h4.2,h5 0 _ rfl,h5 1 _ rfl⟩
theorem ue {α:Type} {l:List α} (h:l.length=2):∃a b,l=[a,b]:=by
 match l,h with
 | [a,b],_=>exact ⟨a,b,rfl⟩
section
variable {H:Type} {enc:TypeId × Value->H} {w:World} {spare:Nat->Bool} {held:Bool}
theorem gJ:Tryz.prog.cellsOf 3=1:=by kernel_rfl
theorem kx:Tryz.prog.cellsOf 26=1:=by kernel_rfl
theorem wP (y:Int) (cs:List Value) (h:aP y cs):cs.length=1:=by rw[h.1];rfl
theorem lC {fuel:Nat} {c:Value} {x:DataW H × List MemPlace} (h:DataW.trod enc Tryz.prog w 0 spare held fuel 26 [c]=some x):∃l,aI w w.heap.size 1 aP c l:=
 jT Tryz.underlying26 gJ (by decide) fuel (fun n _ cs x h=>uq Tryz.underlying3 n cs x h) wP 0 h
end
def eK (v:Value):Prop:=∀n c,v= .slice none n c->n=0/\c=0
theorem eK.some {ad:Addr} {n c:Nat}:eK (.slice (some ad) n c):=fun _ _ h=>by injection h with h;cases h
theorem eK.nil:eK (.slice none 0 0):=fun _ _ h=>by injection h with _ h1 h2;exact ⟨h1.symm,h2.symm⟩
section
variable {H:Type} {enc:TypeId × Value->H} {w:World} {spare:Nat->Bool} {held:Bool}
end
section
variable {P:Program} (w:World)
theorem gi {ops:Array Oper} {rest:List Oper} {o:Oper} {a:Act} {Q:Exit->Act->World->Prop} (hgd:o.guard=none) (s x:Operand) (t:TypeId)
  (ho:o.op= .call {callee:= .builtin .append,args:= #[s,x],argTypes:= #[t,t]})
  (base:Nat) (e:TypeId) (i:TypeInfo) (z:Value) (size bytes:Nat) (ht:P.underlying t=some (.slice e)) (hi:P.info? e=some i) (hz:i.zero=some z)
  (hsize:i.size=size) (hby:i.bytes=bytes) (hzs:z.cells.size=size) (hsz:0<size)
  (v:Value) (n:Nat) (xs:List Value) (hs:a.eval s=v) (hown:w.ownsRow base e size v n xs)
  (A:Option Addr) (m c:Nat) (news:List Value) (hx:a.eval x= .slice A m c) (hnil:eK (.slice A m c)) (hl:news.length=m*size) (hnews:∀ad,A=some ad->∀j u,news[j]? =some u->w.cell? (ad.add j)=some u) (h1:∀u∈news,u.oneCell'=true)
  (h63:n+m<=maxLen) (hbytes:(n+m)*bytes<=140737488355328) (hbase:base<=w.heap.size)
  (h:∀v' w',w'.ownsRow base e size v' (n+m) (xs++news)->Below base w w'->wpList P ops Q rest (a.put o.dst v') w'):wpList P ops Q (o::rest) a w:=by
 cases A with
 |none=>
  obtain ⟨rfl,rfl⟩:=hnil m c rfl
  have hn:news=[]:=List.eq_nil_of_length_eq_zero (by omega)
  subst hn
  refine wpList_append_own_none hgd s x t ho base e i size ht hi v n xs hs hown hx ?_
  refine h v w ?_ (Below.refl _ _)
  rw[List.append_nil,Nat.add_zero]
  exact hown
 |some ad=>
  refine eU w hgd s x t ho base e i z size bytes ht hi hz hsize hby hzs hsz v n xs hs hown ad m c news hx hl (hnews ad rfl) h1 h63 hbytes hbase ?_
  intro v' w' h2 h3 _
  exact h v' w' h2 (aY (Below.refl _ _) hown h3 hbase)
end
section
variable {w w':World} {B L K O:Nat} {vi vo vc vd:Value}
end
theorem vT {w:World} {K:Nat} {l:List Int} {t:TypeId} (h:ai w K (l.map (Value.int .i64)).toArray t) {n:Nat} (hn:n<l.length):w.cell? ⟨K,n,none⟩=some (.int .i64 (ao l n)):=by
 rw[h.cell,List.getElem?_toArray,List.getElem?_map,List.getElem?_eq_getElem hn]
 unfold ao
 rw[List.getD_eq_getElem?_getD,Int.toNat_natCast,List.getElem?_eq_getElem hn]
 rfl
theorem ot {l:List Int} {n:Nat} {x:Int} (h:l[n]? =some x):ao l n=x:=by
 unfold ao
 rw[List.getD_eq_getElem?_getD,Int.toNat_natCast,h];rfl
theorem ii {l:List (Int × Int)} {n:Nat} {x:Int × Int} (h:l[n]? =some x):(dQ l)[n]? =some x.1:=by
 unfold dQ;rw[List.getElem?_map,h];rfl
theorem qC {w:World} {O:Nat} {l:List Bool} {t:TypeId} (h:ai w O (l.map Value.bool).toArray t) {n:Nat} (hn:n<l.length):w.cell? ⟨O,n,none⟩=some (.bool (l.getD n false)):=by
 rw[h.cell,List.getElem?_toArray,List.getElem?_map,List.getElem?_eq_getElem hn,List.getD_eq_getElem?_getD,List.getElem?_eq_getElem hn]
 rfl
end Go.Proofs.YtckognjamlckcaaGreatDoor
