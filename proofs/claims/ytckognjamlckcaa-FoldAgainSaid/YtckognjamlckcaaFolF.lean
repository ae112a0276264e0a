/-
  fold: the form of what is needed: what lies in memory. fold: the form of what is needed: its rows make a form. fold: a wire is settled: the walk.
-/
import Derived.Test.YtckognjamlckcaaFolJ
import Derived.Test.YtckognjamlckcaaFolM
import Derived.Test.YtckognjamlckcaaRgL
import Derived.Deep.DeepCutAuto
import Derived.Test.YtckognjamlckcaaSemP
namespace Go.Proofs.Ytckognjamlckcaa
open Go.RowKit Vf Fo Ar
attribute [local go_sem ↓] Go.wp_at_zero Go.wp_at_succ
structure MdX (f:Fm) (L:List Int) (q:FoQ) (R:List Int) (A:List Ac) (ds need cl:List Bool) (fr:List Int) (Dp P K1 K2 O:Nat) (w:World):Prop where
 fo:FoAt f L q w R A ds need cl fr
 d:Row w Dp #[.pointer (some ⟨q.D,0,none⟩)] 57
 p:Row w P #[.slice (some ⟨K1,0,none⟩) f.wires.length f.wires.length] 26
 k1:Row w K1 (ints (numTo need need.length)).toArray 3
 k2:Row w K2 (ints (numTo cl cl.length)).toArray 3
 nd:Dp≠O
 np:P≠O
 n1:K1≠O
 n2:K2≠O
 bO:q.B≤O
section
variable {f:Fm} {L:List Int} {q:FoQ} {w w':World} {R:List Int} {A:List Ac} {ds need cl:List Bool} {fr:List Int} {Dp P K1 K2 O:Nat}
theorem MdX.upd (h:MdX f L q R A ds need cl fr Dp P K1 K2 O w) (u:Upd (fun k=>k=O) w w'):MdX f L q R A ds need cl fr Dp P K1 K2 O w':=
 ⟨h.fo.box (u.mono (fun k e=>by rw[e];exact h.bO)),u.row h.d h.nd,u.row h.p h.np,u.row h.k1 h.n1,u.row h.k2 h.n2,h.nd,h.np,h.n1,h.n2,h.bO⟩
theorem MdX.below (h:MdX f L q R A ds need cl fr Dp P K1 K2 O w) (hb:Below w.heap.size w w'):MdX f L q R A ds need cl fr Dp P K1 K2 O w':=h.upd (Upd.of_below hb)
theorem MdX.at_ (h:MdX f L q R A ds need cl fr Dp P K1 K2 O w) {n:Int} (hn:isW f n) (hr:isW f (getI R n)):
  Calls Try.prog 62 #[.int .i64 n,.pointer (some ⟨P,0,none⟩),.pointer (some ⟨Dp,0,none⟩)] w fun e w'=>e= .returned (.int .i64 (numV need (getI R n)))∧∃k,w'=w.drewN k:=
 made1_any h.fo (by rw[(h.p.cell 0)];simp[h.fo.el]) ((h.d.cell 0).trans rfl) h.k1 hn hr
theorem num_wf (l:List Bool) (v:Int) (hl:l.length≤100000):Wf (numV l v):=by
 unfold numV
 split
 ·rename_i hn
  have h1:=nd_lt hn
  have:=cnt_le l v.toNat
  exact wf_of (by omega)
 ·exact wf_of (by omega)
end
def MdS (f:Fm) (need cl:List Bool) (w0:World) (v4 v5:Value) (W:World):Prop:=∃P K1 K2,v4= .pointer (some ⟨P,0,none⟩)∧v5= .slice (some ⟨K2,0,none⟩) f.cells.length f.cells.length∧Row W P #[.slice (some ⟨K1,0,none⟩) f.wires.length f.wires.length] 26∧Row W K1 (ints (numTo need need.length)).toArray 3∧Row W K2 (ints (numTo cl cl.length)).toArray 3∧w0.heap.size≤P∧w0.heap.size≤K1∧w0.heap.size≤K2∧Below w0.heap.size w0 W
def isWrO (w:World) (base:Nat) (x:Wr) (cs:List Value):Prop:=∃v,cs=[.int .i64 x.ty,v]∧Wf x.ty∧w.ownsRow base 65 2 v x.clock.length (x.clock.map gdC).flatten∧∀g∈x.clock,Wf g.wire
def prC (x:Int × Int):List Value:=[.int .i64 x.1,.int .i64 x.2]
def prF (l:List (Int × Int)):List Value:=(l.map prC).flatten
theorem prF_snoc (l:List (Int × Int)) (x:Int × Int):prF (l++ [x])=prF l++ [.int .i64 x.1,.int .i64 x.2]:=by simp[prF,prC]
section
variable {f:Fm} {L:List Int} {q:FoQ} {W:World} {R:List Int} {A:List Ac} {ds need cl:List Bool} {fr:List Int}
theorem own_grownE {w w':World} {base size n:Nat} {e:TypeId} {v:Value} {xs:List Value} {row:Option Nat} (h:w.ownsRow base e size v n xs) (hg:w.grownBy w' row) (hne:∀k,v.ownBlock=some k→row≠some k):w'.ownsRow base e size v n xs:=by
 refine ⟨h.1,?_⟩
 rcases h.2 with h0|⟨g,c,cur,h1,h2,h3,h4⟩
 ·exact .inl h0
 ·have hgl:g<w.heap.size:=(Array.getElem?_eq_some_iff.1 h3).1
  exact .inr ⟨g,c,cur,h1,h2,(hg.block g hgl (fun e=>hne g (by rw[h1];rfl) e.symm)).trans h3,h4⟩
theorem isWrO.upd {w w':World} {X:Nat→Prop} {base:Nat} {x:Wr} {cs:List Value} (h:isWrO w base x cs) (u:Upd X w w') (hX:∀k c t z,X k→w.heap[k]? =some (.cells c t z)→t≠65):isWrO w' base x cs:=by
 obtain ⟨v,h1,h2,h3,h4⟩:=h
 refine ⟨v,h1,h2,own_updE h3 u (fun k hk hx=>?_),h4⟩
 rcases h3.2 with ⟨rfl,_⟩|⟨g,c,cur,rfl,_,hh,_⟩
 ·cases hk
 ·cases hk
  exact hX _ _ _ _ hx hh rfl
theorem isWrO.below {w w':World} {base:Nat} {x:Wr} {cs:List Value} (h:isWrO w base x cs) (hb:Below w.heap.size w w'):isWrO w' base x cs:=by
 obtain ⟨v,h1,h2,h3,h4⟩:=h
 exact ⟨v,h1,h2,own_below h3 hb,h4⟩
theorem isWrO.grown {w w':World} {base b n size:Nat} {e:TypeId} {v0:Value} {xs:List Value} {x:Wr} {cs:List Value} (h:isWrO w base x cs) (ho:w.ownsRow b e size v0 n xs) (he:e≠65) (hg:w.grownBy w' v0.ownBlock):isWrO w' base x cs:=by
 obtain ⟨v,h1,h2,h3,h4⟩:=h
 refine ⟨v,h1,h2,own_grownE h3 hg (fun k hk hq=>?_),h4⟩
 rcases ho.2 with ⟨rfl,_⟩|⟨g,c,cur,rfl,_,hh,_⟩
 ·cases hq
 ·cases hq
  have hr:Row w g cur e:=hh
  exact own_ne h3 hr he hk
theorem isWrO.set {w:World} {base O i:Nat} {t:TypeId} {os:Array Value} {x:Wr} {cs:List Value} (h:isWrO w base x cs) (r:Row w O os t) (ht:t≠65) (u:Value):isWrO (w.setCell ⟨O,i,none⟩ u) base x cs:=by
 obtain ⟨v,h1,h2,h3,h4⟩:=h
 have uu:=Upd.setCell (X:=fun k=>k=O) (p:=⟨O,i,none⟩) (Upd.refl _ w) rfl u
 exact ⟨v,h1,h2,own_updE h3 uu (fun k hk e=>own_ne h3 r ht (by rw[←e];exact hk)),h4⟩
theorem Upd.grow {X:Nat→Prop} {a w w':World} {row:Option Nat} (u:Upd X a w) (hg:w.grownBy w' row) (hr:∀g,row=some g→a.heap.size≤g):Upd X a w':=
 ⟨hg.os.trans u.os,hg.tape.trans u.tape,hg.output.trans u.output,Nat.le_trans u.size hg.size,fun k hk hX=>(hg.block k (Nat.lt_of_lt_of_le hk u.size) (fun e=>by have:=hr k e.symm;omega)).trans (u.block k hk hX)⟩
structure Lp1 (f:Fm) (R:List Int) (need:List Bool) (O:Nat) (w0:World) (k:Nat) (v0:Value) (w:World):Prop where
 row:Row w O #[v0,.slice none 0 0,.slice none 0 0,.slice none 0 0,.slice none 0 0,.slice none 0 0] 28
 own:∃css:List (List Value),w.ownsRow w0.heap.size 44 2 v0 (cntF need k) css.flatten∧Are (isWrO w w0.heap.size) (pickN need (fun i=>wireM f R need (i:Nat)) k) css
 upd:Upd (fun x=>x=O) w0 w
theorem Lp1.skip {f:Fm} {R:List Int} {need:List Bool} {O:Nat} {w0 w:World} {k:Nat} {v0:Value} (h:Lp1 f R need O w0 k v0 w) (hb:need.getD k false=false):Lp1 f R need O w0 (k+1) v0 w:=by
 have e1:cntF need (k+1)=cntF need k:=by simp only[cntF,hb,Bool.false_eq_true,if_false,Nat.add_zero]
 have e2:pickN need (fun i=>wireM f R need (i:Nat)) (k+1)=pickN need (fun i=>wireM f R need (i:Nat)) k:=by simp only[pickN,hb,Bool.false_eq_true,if_false,List.append_nil]
 exact ⟨h.row,by rw[e1,e2];exact h.own,h.upd⟩
theorem Lp1.next {f:Fm} {R:List Int} {need:List Bool} {O:Nat} {w0 wr wi w15:World} {k:Nat} {v0 v15 vx:Value} (h:Lp1 f R need O w0 k v0 wr) {css:List (List Value)} (h1:wr.ownsRow w0.heap.size 44 2 v0 (cntF need k) css.flatten) (h2:Are (isWrO wr w0.heap.size) (pickN need (fun i=>wireM f R need (i:Nat)) k) css) (hb:need.getD k false=true) (b:Below wr.heap.size wr wi)
  (hx:isWrO wi w0.heap.size (wireM f R need (k:Nat)) [.int .i64 (tyOf f (k:Nat)),vx]) (ho15:w15.ownsRow w0.heap.size 44 2 v15 (cntF need k+1) (css.flatten++ [.int .i64 (tyOf f (k:Nat)),vx])) (hg:wi.grownBy w15 v0.ownBlock):
  Lp1 f R need O w0 (k+1) v15 (w15.setCell ⟨O,0,none⟩ v15):=by
 have hri:=h.row.below b h.row.lt
 have h1i:=own_below h1 b
 have hr15:=hri.grownE hg (own_ne h1i hri (by decide))
 have e1:cntF need (k+1)=cntF need k+1:=by simp only[cntF,hb,if_true]
 have e2:pickN need (fun i=>wireM f R need (i:Nat)) (k+1)=pickN need (fun i=>wireM f R need (i:Nat)) k++ [wireM f R need (k:Nat)]:=by simp only[pickN,hb,if_true]
 have u:=Upd.setCell (X:=fun x=>x=O) (p:=⟨O,0,none⟩) (Upd.refl _ w15) rfl v15
 have step:∀x cs,isWrO wi w0.heap.size x cs→isWrO (w15.setCell ⟨O,0,none⟩ v15) w0.heap.size x cs:=fun x cs g=>(g.grown h1i (by decide) hg).set hr15 (by decide) v15
 refine ⟨?_,⟨css++ [[.int .i64 (tyOf f (k:Nat)),vx]],?_,?_⟩,?_⟩
 ·have:=hr15.set 0 v15
  simpa using this
 ·rw[e1,List.flatten_append]
  have:=own_updE ho15 u (fun q hq e=>own_ne ho15 hr15 (by decide) (by rw[←e];exact hq))
  simpa using this
 ·rw[e2]
  exact (h2.mono (fun x _ cs g=>step x cs (g.below b))).append (Are.one (step _ _ hx))
 ·exact Upd.setCell (X:=fun x=>x=O) (((h.upd.trans (Upd.of_below b))).grow hg (fun g hg'=>(h1i.lt g hg').1)) rfl _
end
structure Lp2 (R:List Int) (A:List Ac) (need cl:List Bool) (O:Nat) (v0:Value) (w0:World) (k:Nat) (v1:Value) (w:World):Prop where
 row:Row w O #[v0,v1,.slice none 0 0,.slice none 0 0,.slice none 0 0,.slice none 0 0] 28
 own:w.ownsRow w0.heap.size 50 6 v1 (actsM R need cl (A.take k)).length (acF (actsM R need cl (A.take k)))
 upd:Upd (fun x=>x=O) w0 w
theorem actsM_snoc {R:List Int} {need cl:List Bool} {l:List Ac} {y:Ac}:actsM R need cl (l++ [y])=actsM R need cl l++if bGet need y.dst=true then [actM R need cl y] else []:=by
 unfold actsM
 rw[List.filterMap_append]
 congr 1
 by_cases h:bGet need y.dst=true<;>simp[h]
theorem Lp2.skip {R:List Int} {A:List Ac} {need cl:List Bool} {O:Nat} {v0:Value} {w0 w:World} {k:Nat} {v1:Value} {y:Ac} (h:Lp2 R A need cl O v0 w0 k v1 w) (hy:A[k]? =some y) (hb:bGet need y.dst=false):Lp2 R A need cl O v0 w0 (k+1) v1 w:=by
 have e:actsM R need cl (A.take (k+1))=actsM R need cl (A.take k):=by rw[take_snoc' hy,actsM_snoc,hb];simp
 exact ⟨h.row,by rw[e];exact h.own,h.upd⟩
theorem Lp2.below {R:List Int} {A:List Ac} {need cl:List Bool} {O:Nat} {v0:Value} {w0 w w':World} {k:Nat} {v1:Value} (h:Lp2 R A need cl O v0 w0 k v1 w) (b:Below w.heap.size w w'):Lp2 R A need cl O v0 w0 k v1 w':=
 ⟨h.row.below b h.row.lt,own_below h.own b,h.upd.trans (Upd.of_below b)⟩
theorem Lp2.next {R:List Int} {A:List Ac} {need cl:List Bool} {O:Nat} {v0:Value} {w0 wi w15:World} {k:Nat} {v1 v15:Value} {y:Ac} (h:Lp2 R A need cl O v0 w0 k v1 wi) (hy:A[k]? =some y) (hb:bGet need y.dst=true)
  (ho15:w15.ownsRow w0.heap.size 50 6 v15 ((actsM R need cl (A.take k)).length+1) (acF (actsM R need cl (A.take k))++acC (actM R need cl y))) (hg:wi.grownBy w15 v1.ownBlock):
  Lp2 R A need cl O v0 w0 (k+1) v15 (w15.setCell ⟨O,1,none⟩ v15):=by
 have hr15:=h.row.grownE hg (own_ne h.own h.row (by decide))
 have e:actsM R need cl (A.take (k+1))=actsM R need cl (A.take k)++ [actM R need cl y]:=by rw[take_snoc' hy,actsM_snoc,hb];simp
 have u:=Upd.setCell (X:=fun x=>x=O) (p:=⟨O,1,none⟩) (Upd.refl _ w15) rfl v15
 refine ⟨?_,?_,?_⟩
 ·have:=hr15.set 1 v15
  simpa using this
 ·rw[e,acF_append,List.length_append]
  exact own_updE ho15 u (fun q hq e=>own_ne ho15 hr15 (by decide) (by rw[←e];exact hq))
 ·exact Upd.setCell (X:=fun x=>x=O) (h.upd.grow hg (fun g hg'=>(h.own.lt g hg').1)) rfl _
theorem Lp2.app {R:List Int} {A:List Ac} {need cl:List Bool} {O:Nat} {v0:Value} {w0 wr wi w15:World} {k:Nat} {v1 v15:Value} {y:Ac} {zs:List Value} (h:Lp2 R A need cl O v0 w0 k v1 wr) (hg:wi.grownBy w15 v1.ownBlock) (b:Below wr.heap.size wr wi) (hy:A[k]? =some y) (hb:bGet need y.dst=true) (hz:acC (actM R need cl y)=zs)
  (ho15:w15.ownsRow w0.heap.size 50 6 v15 ((actsM R need cl (A.take k)).length+1) (acF (actsM R need cl (A.take k))++zs)):
  Lp2 R A need cl O v0 w0 (k+1) v15 (w15.setCell ⟨O,1,none⟩ v15)∧w15.cell? ⟨O,1,none⟩=some v1∧w15.frozen? ⟨O,1,none⟩=false:=by
 have h':=h.below b
 have hr15:=h'.row.grownE hg (own_ne h'.own h'.row (by decide))
 exact ⟨h'.next hy hb (by rw[hz];exact ho15) hg,(hr15.cell 1).trans rfl,hr15.frozen 1⟩
structure LpI (O i:Nat) (cs:Value→Array Value) (w0:World) (l:List Int) (v:Value) (w:World):Prop where
 row:Row w O (cs v) 28
 own:w.ownsRow w0.heap.size 3 1 v l.length (ints l)
 upd:Upd (fun x=>x=O) w0 w
theorem own_apart {w:World} {base b n m s s':Nat} {e e':TypeId} {v v':Value} {xs ys:List Value} (h:w.ownsRow base e s v n xs) (h':w.ownsRow b e' s' v' m ys) (he:e'≠e):∀k,v.ownBlock=some k→v'.ownBlock≠some k:=fun k hk hq=>by
 rcases h'.2 with ⟨rfl,_⟩|⟨g,c,cur,rfl,_,hh,_⟩
 ·cases hq
 ·cases hq
  have hr:Row w g cur e':=hh
  exact own_ne h hr he hk
theorem LpI.below {O i:Nat} {cs:Value→Array Value} {w0 wr wi:World} {l:List Int} {v:Value} (h:LpI O i cs w0 l v wr) (b:Below wr.heap.size wr wi):LpI O i cs w0 l v wi:=
 ⟨h.row.below b h.row.lt,own_below h.own b,h.upd.trans (Upd.of_below b)⟩
theorem LpI.app {O i:Nat} {cs:Value→Array Value} {w0 wr wi w15:World} {l:List Int} {v v15:Value} {x:Int} (h:LpI O i cs w0 l v wr) (hc:∀u,(cs v).setIfInBounds i u=cs u) (hi:(cs v)[i]? =some v) (hg:wi.grownBy w15 v.ownBlock) (b:Below wr.heap.size wr wi)
  (ho:w15.ownsRow w0.heap.size 3 1 v15 (l.length+1) (ints l++ [.int .i64 x])):LpI O i cs w0 (l++ [x]) v15 (w15.setCell ⟨O,i,none⟩ v15)∧w15.cell? ⟨O,i,none⟩=some v∧w15.frozen? ⟨O,i,none⟩=false∧Upd (fun x=>x=O) w0 w15:=by
 have h':=h.below b
 have hu15:=h'.upd.grow hg (fun g hg'=>(h'.own.lt g hg').1)
 have hr15:=h'.row.grownE hg (own_ne h'.own h'.row (by decide))
 have u:=Upd.setCell (X:=fun x=>x=O) (p:=⟨O,i,none⟩) (Upd.refl _ w15) rfl v15
 refine ⟨⟨?_,?_,?_⟩,(hr15.cell i).trans hi,hr15.frozen i,hu15⟩
 ·have:=hr15.set i v15
  rw[←hc v15]
  exact this
 ·have:=own_updE ho u (fun q hq e=>own_ne ho hr15 (by decide) (by rw[←e];exact hq))
  rw[List.length_append]
  simpa[ints] using this
 ·exact Upd.setCell (X:=fun x=>x=O) (h'.upd.grow hg (fun g hg'=>(h'.own.lt g hg').1)) rfl _
structure LpP (O:Nat) (v0 v1:Value) (w0:World) (l2 l3:List (Int × Int)) (v2 v3:Value) (w:World):Prop where
 row:Row w O #[v0,v1,v2,v3,.slice none 0 0,.slice none 0 0] 28
 own2:w.ownsRow w0.heap.size 70 2 v2 l2.length (prF l2)
 own3:w.ownsRow w0.heap.size 63 2 v3 l3.length (prF l3)
 upd:Upd (fun x=>x=O) w0 w
section
variable {O:Nat} {v0 v1 v2 v3 v15:Value} {w0 wr wi w15:World} {l2 l3:List (Int × Int)} {x:Int × Int}
theorem LpP.below (h:LpP O v0 v1 w0 l2 l3 v2 v3 wr) (b:Below wr.heap.size wr wi):LpP O v0 v1 w0 l2 l3 v2 v3 wi:=
 ⟨h.row.below b h.row.lt,own_below h.own2 b,own_below h.own3 b,h.upd.trans (Upd.of_below b)⟩
theorem LpP.app2 (h:LpP O v0 v1 w0 l2 l3 v2 v3 wr) (hg:wi.grownBy w15 v2.ownBlock) (b:Below wr.heap.size wr wi)
  (ho:w15.ownsRow w0.heap.size 70 2 v15 (l2.length+1) (prF l2++ [.int .i64 x.1,.int .i64 x.2])):LpP O v0 v1 w0 (l2++ [x]) l3 v15 v3 (w15.setCell ⟨O,2,none⟩ v15)∧w15.cell? ⟨O,2,none⟩=some v2∧w15.frozen? ⟨O,2,none⟩=false∧Upd (fun x=>x=O) w0 w15:=by
 have h':=h.below b
 have hu15:=h'.upd.grow hg (fun g hg'=>(h'.own2.lt g hg').1)
 have hr15:=h'.row.grownE hg (own_ne h'.own2 h'.row (by decide))
 have ho3:=own_grownE h'.own3 hg (own_apart h'.own3 h'.own2 (by decide))
 have u:=Upd.setCell (X:=fun x=>x=O) (p:=⟨O,2,none⟩) (Upd.refl _ w15) rfl v15
 refine ⟨⟨?_,?_,?_,?_⟩,(hr15.cell 2).trans rfl,hr15.frozen 2,hu15⟩
 ·have:=hr15.set 2 v15
  simpa using this
 ·rw[prF_snoc,List.length_append]
  exact own_updE ho u (fun q hq e=>own_ne ho hr15 (by decide) (by rw[←e];exact hq))
 ·exact own_updE ho3 u (fun q hq e=>own_ne ho3 hr15 (by decide) (by rw[←e];exact hq))
 ·exact Upd.setCell (X:=fun x=>x=O) (h'.upd.grow hg (fun g hg'=>(h'.own2.lt g hg').1)) rfl _
theorem LpP.app3 (h:LpP O v0 v1 w0 l2 l3 v2 v3 wr) (hg:wi.grownBy w15 v3.ownBlock) (b:Below wr.heap.size wr wi)
  (ho:w15.ownsRow w0.heap.size 63 2 v15 (l3.length+1) (prF l3++ [.int .i64 x.1,.int .i64 x.2])):LpP O v0 v1 w0 l2 (l3++ [x]) v2 v15 (w15.setCell ⟨O,3,none⟩ v15)∧w15.cell? ⟨O,3,none⟩=some v3∧w15.frozen? ⟨O,3,none⟩=false∧Upd (fun x=>x=O) w0 w15:=by
 have h':=h.below b
 have hu15:=h'.upd.grow hg (fun g hg'=>(h'.own3.lt g hg').1)
 have hr15:=h'.row.grownE hg (own_ne h'.own3 h'.row (by decide))
 have ho2:=own_grownE h'.own2 hg (own_apart h'.own2 h'.own3 (by decide))
 have u:=Upd.setCell (X:=fun x=>x=O) (p:=⟨O,3,none⟩) (Upd.refl _ w15) rfl v15
 refine ⟨⟨?_,?_,?_,?_⟩,(hr15.cell 3).trans rfl,hr15.frozen 3,hu15⟩
 ·have:=hr15.set 3 v15
  simpa using this
 ·exact own_updE ho2 u (fun q hq e=>own_ne ho2 hr15 (by decide) (by rw[←e];exact hq))
 ·rw[prF_snoc,List.length_append]
  exact own_updE ho u (fun q hq e=>own_ne ho hr15 (by decide) (by rw[←e];exact hq))
 ·exact Upd.setCell (X:=fun x=>x=O) (h'.upd.grow hg (fun g hg'=>(h'.own3.lt g hg').1)) rfl _
end
theorem pick_skip {α:Type} {l:List Bool} {g:Nat→α} {k:Nat} (hb:l.getD k false=false):pickN l g (k+1)=pickN l g k:=by simp only[pickN,hb,Bool.false_eq_true,if_false,List.append_nil]
theorem pick_next {α:Type} {l:List Bool} {g:Nat→α} {k:Nat} (hb:l.getD k false=true):pickN l g (k+1)=pickN l g k++ [g k]:=by simp only[pickN,hb,if_true]
theorem cell_at {W:World} {B n c:Nat} {v:Value} {A:Option Addr} {l:List (Int × Int)} (h:SlV W B 2 isCell v l) (hv:v= .slice A n c) {k:Nat} {x:Int × Int} (hx:l[k]? =some x):∃b off,A=some ⟨b,off,none⟩∧W.cell? ⟨b,off+k*2,none⟩=some (.int .i64 x.1)∧W.cell? ⟨b,off+k*2+1,none⟩=some (.int .i64 x.2):=by
 obtain ⟨A',c',e,_,_,s⟩:=h
 rw[hv] at e
 injection e with e1 e2 e3
 subst e1
 obtain ⟨b,off,hA,_,hxs⟩:=s (by first|(intro h0;subst h0;simp at hx)|exact List.length_pos_of_mem (List.mem_of_getElem? hx))
 obtain ⟨cs,hc,he,_⟩:=hxs k x hx
 subst he
 exact ⟨b,off,hA,hc 0 _ rfl,hc 1 _ rfl⟩
theorem info_wr:(Try.prog.info? 44).map (fun i=>(i.zero,i.size,i.bytes))=some (some (.agg #[.int .i64 0,.slice none 0 0]),2,32):=by kernel_rfl
theorem info_cellT:(Try.prog.info? 70).map (fun i=>(i.zero,i.size,i.bytes))=some (some (.agg #[.int .i64 0,.int .i64 0]),2,16):=by kernel_rfl
theorem info_keepT:(Try.prog.info? 63).map (fun i=>(i.zero,i.size,i.bytes))=some (some (.agg #[.int .i64 0,.int .i64 0]),2,16):=by kernel_rfl
end Go.Proofs.Ytckognjamlckcaa
namespace Go.Proofs.Ytckognjamlckcaa
open Go.RowKit Vf Fo Ar
section
variable {f:Fm} {R:List Int} {A:List Ac} {need cl:List Bool} {fr:List Int} {w:World}
theorem own_prF {base n:Nat} {e:TypeId} {v:Value} {l:List (Int × Int)} (h:w.ownsRow base e 2 v n (prF l)) (hi:∀x∈l,Wf x.1∧Wf x.2):SlV w w.heap.size 2 isCell v l:=
 (own_sl (rel:=isCell) (l:=l) (css:=l.map prC) h (Are.map fun x hx=>⟨rfl,(hi x hx).1,(hi x hx).2⟩) (fun cs hcs=>by obtain ⟨x,_,rfl⟩:=List.mem_map.1 hcs;rfl) (by decide)).1
theorem own_intK {base n:Nat} {e:TypeId} {v:Value} {l:List Int} (h:w.ownsRow base e 1 v n (ints l)) (hi:∀x∈l,Wf x):SlV w w.heap.size 1 isInt v l:=by
 have he:ints l=(l.map (fun x=> [Value.int .i64 x])).flatten:=by
  clear h hi
  induction l with
  |nil=>rfl
  |cons a l ih=>
   simp only[ints,List.map_cons,List.flatten_cons,List.cons_append,List.nil_append] at ih⊢
   rw[ih]
 rw[he] at h
 exact (own_sl (rel:=isInt) (l:=l) h (Are.map fun x hx=>⟨rfl,hi x hx⟩) (fun cs hcs=>by obtain ⟨x,_,rfl⟩:=List.mem_map.1 hcs;rfl) (by decide)).1
theorem own_acK {base n:Nat} {e:TypeId} {v:Value} {l:List Ac} (h:w.ownsRow base e 6 v n (acF l)) (hi:∀x∈l,AcIn x):SlV w w.heap.size 6 isAc v l:=
 (own_sl (rel:=isAc) (l:=l) (css:=l.map acC) (by unfold acF at h;first|exact h|simpa[List.flatMap] using h) (Are.map fun x hx=>⟨rfl,hi x hx⟩) (fun cs hcs=>by obtain ⟨x,_,rfl⟩:=List.mem_map.1 hcs;rfl) (by decide)).1
theorem isWrO.isWr {base:Nat} {x:Wr} {cs:List Value} (h:isWrO w base x cs):isWr w w.heap.size x cs:=by
 obtain ⟨v,h1,h2,h3,h4⟩:=h
 exact ⟨v,h1,h2,(own_sl (rel:=isGd) (l:=x.clock) (css:=x.clock.map gdC) h3 (Are.map fun g hg=>⟨rfl,h4 g hg⟩) (fun cs hcs=>by obtain ⟨x,_,rfl⟩:=List.mem_map.1 hcs;rfl) (by decide)).1⟩
theorem made_at (hnl:need.length≤100000) (hcl:cl.length≤100000) (hA:∀x∈A,AcIn x) (hC:∀x∈f.cells,Wf x.1∧Wf x.2) {b0 b1 b2 b3 b4 b5 n0 n1 n2 n3 n4 n5:Nat} {e0 e1 e2 e3 e4 e5:TypeId} {v0 v1 v2 v3 v4 v5:Value}
  (h0:∃css:List (List Value),w.ownsRow b0 e0 2 v0 n0 css.flatten∧Are (isWrO w b0) (pickN need (fun i=>wireM f R need (i:Nat)) f.wires.length) css)
  (h1:w.ownsRow b1 e1 6 v1 n1 (acF (actsM R need cl A))) (h2:w.ownsRow b2 e2 2 v2 n2 (prF (madeF f R A fr need cl).cells)) (h3:w.ownsRow b3 e3 2 v3 n3 (prF (madeF f R A fr need cl).keeps)) (h4:w.ownsRow b4 e4 1 v4 n4 (ints (madeF f R A fr need cl).ins)) (h5:w.ownsRow b5 e5 1 v5 n5 (ints (madeF f R A fr need cl).outs)):
  FmAt w w.heap.size (madeF f R A fr need cl) v0 v1 v2 v3 v4 v5:=by
 refine ⟨?_,own_acK h1 (fun x hx=>?_),own_prF h2 (fun x hx=>?_),own_prF h3 (fun x hx=>?_),own_intK h4 (fun x hx=>?_),own_intK h5 (fun x hx=>?_)⟩
 ·obtain ⟨css,g1,g2⟩:=h0
  exact (own_sl g1 (g2.mono (fun x _ cs g=>g.isWr)) (g2.all (fun x _ cs g=>by obtain ⟨v,rfl,_⟩:=g;rfl)) (by decide)).1
 ·obtain ⟨y,hy,he⟩:=List.mem_filterMap.1 hx
  by_cases hb:bGet need y.dst=true
  ·rw[if_pos hb] at he
   injection he with he
   subst he
   have hy':=hA y hy
   refine ⟨hy'.op,num_wf need _ hnl,?_,?_,?_,?_⟩
   ·show Wf (if 1≤uses y.op then numV need (getI R y.a) else y.a)
    split
    ·exact num_wf need _ hnl
    ·exact hy'.a
   ·show Wf (if 2≤uses y.op then numV need (getI R y.b) else y.b)
    split
    ·exact num_wf need _ hnl
    ·exact hy'.b
   ·show Wf (if 3≤uses y.op then numV need (getI R y.c) else y.c)
    split
    ·exact num_wf need _ hnl
    ·exact hy'.c
   ·show Wf (if y.op=21 then numV cl y.k else y.k)
    split
    ·exact num_wf cl _ hcl
    ·exact hy'.k
  ·rw[if_neg hb] at he
   cases he
 ·obtain ⟨i,hi,_,rfl⟩:=pick_mem hx
  rw[List.getD_eq_getElem?_getD,List.getElem?_eq_getElem hi]
  exact hC _ (List.getElem_mem hi)
 ·obtain ⟨i,hi,_,rfl⟩:=pick_mem hx
  exact ⟨num_wf cl _ hcl,num_wf need _ hnl⟩
 ·obtain ⟨n,_,rfl⟩:=List.mem_map.1 hx
  exact num_wf need _ hnl
 ·obtain ⟨n,_,rfl⟩:=List.mem_map.1 hx
  exact num_wf need _ hnl
end
end Go.Proofs.Ytckognjamlckcaa
namespace Go.Proofs.Ytckognjamlckcaa
open Go.RowKit Vf Fo Ar
attribute [local go_sem ↓] Go.wp_at_zero Go.wp_at_succ
section
variable {f:Fm} {L:List Int} {q:FoQ} {W:World} {R:List Int} {A:List Ac} {ds need cl:List Bool} {fr:List Int}
def SetlC (f:Fm) (L:List Int) (q:FoQ) (n:Int):Prop:=∀W R A ds need cl fr S,FoAt f L q W R A ds need cl fr→FInv f R A S→(∀v,S v→bGet ds v=true)→(∀v,isW f v→bGet ds v=true→rkF f v≤rkF f n→S v)→
 Calls Try.prog 31 #[.pointer (some ⟨q.D,0,none⟩),.int .i64 n] W fun e w'=>e= .returned (.tuple #[])∧(∃R' A' ds' S',FoAt f L q w' R' A' ds' need cl fr∧SSt f R ds S n R' A' ds' S')∧Upd (foX q) W w'
set_option maxRecDepth 100000 in
set_option maxHeartbeats 16000000 in
theorem settle_in (hf:formOk f) (hL:ByL f L) (n:Int) (hn:n∈f.ins):SetlC f L q n:=by
 intro W R A ds need cl fr S h hI hsd hS
 have hw:=(hf.2.1.1 n hn).1
 obtain ⟨m,rfl⟩:=Int.eq_ofNat_of_zero_le hw.1
 have hm:m<f.wires.length:=by have:=hw.2;omega
 have hm':(m:Int)<f.wires.length:=by omega
 obtain ⟨b,off,cb,hvb,mb,lb,hc⟩:=h.at_ hL hm
 obtain ⟨d0,d1,d2,d3,d4,d5,d6,d7,d8,d9,d10,d11,d12⟩:=h.cells
 have cN:=ds_cell h.n (n:=m) (by rw[h.nl];exact hm)
 have hneg:getI L (m:Int)= -1:=by
  rcases hL.2.2 _ hw with ⟨_,e⟩|⟨i,x,hx,hxd,_⟩
  ·exact e
  ·exact absurd (by rw[hxd];exact hn) (hf.2.2.2.2.1.2.1 x (List.mem_of_getElem? hx)).2
 rw[hneg] at hc
 rw[hvb] at d6
 have HH:=Lib.hid h
 generalize hB:bGet ds (m:Int)=B0 at cN
 cases B0
 ·have hns:¬S (m:Int):=fun g=>by rw[hsd _ g] at hB;cases hB
  have HST:=Lib.hid (SSt.input hf hI hn hns hsd (by rw[h.nl];exact hm) (by rw[h.rl];exact hm))
  have fN:=h.n.frozen m
  have fR:=h.r.frozen m
  have cR:=vs_cell h.r (n:=m) (by rw[h.rl];exact hm)
  obtain ⟨h1,u1⟩:=h.setN m
  obtain ⟨h2,u2⟩:=h1.setR m (x:=(m:Int)) (wf_of (by have:=hf.1.2.2;omega))
  have H2:=Lib.hid h2
  have U2:=Lib.hid ((u1.mono (Y:=foX q) (fun k e=> .inr (.inr (.inl e)))).trans (u2.mono (fun k e=> .inl e)))
  obtain ⟨⟨_,nRN,_⟩,_⟩:=h.nes
  have nRN':=Ne.symm nRN
  have HK:Hid (∀W',W'=(W.setCell ⟨q.N,m,none⟩ (.bool true)).setCell ⟨q.R,m,none⟩ (.int .i64 (m:Int))→W'.cell? ⟨q.D,6,none⟩=some (.slice (some ⟨b,off,none⟩) f.wires.length cb)∧W'.cell? ⟨b,off+m,none⟩=some (.int .i64 (-1))):=fun W' e=>by
   obtain ⟨b',off',cb',hvb',_,_,hc'⟩:=h2.at_ hL hm
   rw[hvb] at hvb'
   injection hvb' with q1 _ q3
   injection q1 with q1
   injection q1 with q4 q5
   subst q3;subst q4;subst q5
   obtain ⟨_,_,_,_,_,_,d6',_⟩:=h2.cells
   rw[hvb] at d6'
   rw[hneg] at hc'
   rw[e]
   exact ⟨d6',hc'⟩
  clear h hI hsd hS hf hL hn hw hneg hvb hB hns h1 h2 u1 u2
  go_enter Try.func31,Try.ntmps31
  go_wp2_with fail
  go_region
  have H3:=Lib.hid (H2.out.below ((Below.refl _ _).drew))
  have U3:=Lib.hid (U2.out.drew)
  obtain ⟨k6,k7⟩:=HK.out _ rfl
  clear d0 d1 d2 d3 d4 d5 d6 d7 d8 d9 d10 d11 d12 cN hc fN fR cR HK
  generalize (W.setCell ⟨q.N,m,none⟩ (.bool true)).setCell ⟨q.R,m,none⟩ (.int .i64 (m:Int))=w2 at*
  go_wp2_with fail
  (try simp only[Exit.inBlock,Exit.then]);refine bodyPost_ret (results_none rfl _ _ _) rfl ?_
  exact ⟨rfl,⟨_,_,_,_,H3.out,HST.out⟩,U3.out⟩
 ·have HST:=Lib.hid (SSt.same (w:=(m:Int)) hI (hS _ hw hB (Nat.le_refl _)) hsd)
  clear h hI hsd hS hf hL hn hw hneg hvb hB
  go_enter Try.func31,Try.ntmps31
  go_wp2_with fail
  (try simp only[Exit.inBlock,Exit.then]);refine bodyPost_ret (results_none rfl _ _ _) rfl ?_
  exact ⟨rfl,⟨_,_,_,_,HH.out,HST.out⟩,Upd.refl _ _⟩
end
end Go.Proofs.Ytckognjamlckcaa
