/-
  emit.Of: what lies in memory while a program is made.
-/
import Derived.Test.YtbjaejgechadpaaGreatEmC
namespace Go.Proofs.YtbjaejgechadpaaGreat.Fo
open Vf
theorem portsC_snoc {op:Int}:∀(l:List Int) (j:Nat) (n:Int),portsC op j (l++ [n])=portsC op j l++ [⟨op,n,0,0,((j+l.length:Nat):Int)⟩]
 | [],j,n=>by simp[portsC]
 |x::l,j,n=>by
  simp only[List.cons_append,portsC]
  rw[portsC_snoc l (j+1) n,show j+1+l.length=j+(x::l).length by rw[List.length_cons];omega]
theorem facts_len {f:Fm} (hf:formOk f):f.acts.length≤1600:=by
 obtain ⟨h1,h2,_⟩:=defined_iff.1 hf.2.2.2.2.1
 have:=nodup_len _ ((List.range f.wires.length).map (fun (i:Nat)=>(i:Int))) h1 (fun n hn=>by
  have hw:isW f n:=by
   rcases List.mem_append.1 hn with h|h
   ·exact (hf.2.1.1 n h).1
   ·obtain ⟨a,ha,rfl⟩:=List.mem_map.1 h
    exact h2 a ha
  exact List.mem_map.2 ⟨n.toNat,List.mem_range.2 (by have:=hw.1;have:=hw.2;omega),by have:=hw.1;omega⟩)
 simp[dsts] at this
 have:=hf.1.2.2
 omega
theorem keeps_len {f:Fm} (hf:formOk f):f.keeps.length≤60:=by
 obtain ⟨_,h2,h3,h4,_⟩:=hf.2.2.2.1
 have h:=nodup_len (f.keeps.map (·.1)) ((List.range f.cells.length).map (fun (i:Nat)=>(i:Int))) (nodup_of (g:=Prod.fst) h4) (fun n hn=>by
  obtain ⟨k,hk,rfl⟩:=List.mem_map.1 hn
  have:=h3 k hk
  exact List.mem_map.2 ⟨k.1.toNat,List.mem_range.2 (by omega),by omega⟩)
 simp at h
 omega
end Go.Proofs.YtbjaejgechadpaaGreat.Fo
namespace Go.Proofs.YtbjaejgechadpaaGreat
open Go.RowKit Vf Fo
theorem skips_ok:∀(c:List Gd) (n:Int),0≤n→n≤1000000→c.length≤1600→(∀g∈c,Wf g.wire)→∀x∈skipsOf c n,In5Ok x
 | [],_,_,_,_,_,x,hx=>by simp[skipsOf] at hx
 |g::c,n,h0,h1,hc,hg,x,hx=>by
  simp only[skipsOf,List.mem_cons] at hx
  simp only[List.length_cons] at hc
  rcases hx with rfl|hx
  ·exact ⟨wf_of (by dsimp only;split<;>omega),hg g (by simp),wf_of (by dsimp only;omega),wf_of (by dsimp only;omega),wf_of (by dsimp only;omega)⟩
  ·exact skips_ok c n h0 h1 (by omega) (fun g h=>hg g (by simp[h])) x hx
theorem runs_ok {l:List Stp} {body:List In5} (h:Runs l body) (hl:l.length≤1000000) (ho:∀s∈l,In5Ok s.1∧s.2.length≤1600∧∀g∈s.2,Wf g.wire):∀x∈body,In5Ok x:=by
 induction h with
 |nil=>intro x hx;simp at hx
 |cons h t c code hne hcl _ ih=>
  intro x hx
  simp only[List.length_append] at hl
  simp only[List.mem_append,List.mem_map] at hx
  rcases hx with (hx|⟨s,hs,rfl⟩)|hx
  ·cases h with
   |nil=>exact absurd rfl hne
   |cons s0 h=>
    have:=ho s0 (by simp)
    rw[hcl s0 (by simp)] at this
    exact skips_ok c _ (by omega) (by omega) this.2.1 this.2.2 x hx
  ·exact (ho s (by simp[hs])).1
  ·exact ih (by omega) (fun s hs=>ho s (by simp[hs])) x hx
theorem ports_ok {op:Int} (h: -1000≤op∧op≤1000):∀(l:List Int) (j:Nat),j+l.length≤1000000→(∀n∈l,Wf n)→∀x∈portsC op j l,In5Ok x
 | [],_,_,_,x,hx=>by simp[portsC] at hx
 |n::l,j,hj,hn,x,hx=>by
  simp only[List.length_cons] at hj
  simp only[portsC,List.mem_cons] at hx
  rcases hx with rfl|hx
  ·exact ⟨wf_of (by dsimp only;omega),hn n (by simp),wf_of (by dsimp only;omega),wf_of (by dsimp only;omega),wf_of (by dsimp only;omega)⟩
  ·exact ports_ok h l (j+1) (by omega) (fun n h=>hn n (by simp[h])) x hx
theorem instrOf_ok {x:Ac} (h:AcIn x):In5Ok (instrOf x):=by
 have h0:Wf 0:=wf_of (by omega)
 unfold instrOf
 split
 ·exact ⟨wf_of (by dsimp only;omega),h.dst,h.a,h0,h0⟩
 split
 ·exact ⟨wf_of (by dsimp only;omega),h.dst,h.a,h.b,h.c⟩
 split
 ·exact ⟨h.op,h.dst,h0,h0,h.k⟩
 ·exact ⟨h.op,h.dst,h.a,h.b,h0⟩
structure FrX (e:TypeId) (base:Nat) (w w':World):Prop where
 os:w'.os=w.os
 tape:w'.tape=w.tape
 output:w'.output=w.output
 size:w.heap.size≤w'.heap.size
 block:∀k,k<w.heap.size→(k<base∨∀cur fz,w.heap[k]?≠some (.cells cur e fz))→w'.heap[k]? =w.heap[k]?
section
variable {e:TypeId} {base:Nat} {a w w':World}
theorem FrX.trans (h:FrX e base a w) (g:FrX e base w w'):FrX e base a w':=
 ⟨g.os.trans h.os,g.tape.trans h.tape,g.output.trans h.output,Nat.le_trans h.size g.size,fun k hk hh=>by
  have e1:=h.block k hk hh
  exact (g.block k (Nat.lt_of_lt_of_le hk h.size) (hh.imp id fun q cur fz=>by rw[e1];exact q cur fz)).trans e1⟩
theorem FrX.of_below (h:Below w.heap.size w w'):FrX e base w w':=⟨h.os,h.tape,h.output,h.size,fun k hk _=>h.block k hk⟩
theorem FrX.below (h:FrX e base w w') (hw:base≤w.heap.size):Below base w w':=⟨h.os,h.tape,h.output,h.size,fun k hk=>h.block k (by omega) (.inl hk)⟩
theorem FrX.grown {v:Value} {n size:Nat} {xs:List Value} (ho:w.ownsRow base e size v n xs) (hg:w.grownBy w' v.ownBlock):FrX e base w w':=by
 refine ⟨hg.os,hg.tape,hg.output,hg.size,fun k hk hh=>hg.block k hk fun e=>?_⟩
 rcases ho.2 with ⟨h0,_⟩|⟨g,c,cur,h1,h2,h3,_⟩
 ·subst h0;cases e
 ·subst h1
  have e':k=g:=by injection e
  subst e'
  rcases hh with hh|hh
  ·omega
  ·exact hh cur (0,0) h3
theorem FrX.row {b:Nat} {cs:Array Value} {t:TypeId} (h:FrX e base w w') (r:Row w b cs t) (ht:t≠e):Row w' b cs t:=
 (h.block b r.lt (.inr fun cur fz q=>by
  have e2:=r
  unfold Row at e2
  rw[q] at e2
  injection e2 with e2
  injection e2 with _ e2 _
  exact ht e2.symm)).trans r
theorem FrX.own {b size n:Nat} {t:TypeId} {v:Value} {xs:List Value} (h:FrX e base w w') (ho:w.ownsRow b t size v n xs) (he:t≠e):w'.ownsRow b t size v n xs:=by
 refine ⟨ho.1,?_⟩
 rcases ho.2 with h0|⟨g,c,cur,h1,h2,h3,h4⟩
 ·exact .inl h0
 ·exact .inr ⟨g,c,cur,h1,h2,(h.block g (Array.getElem?_eq_some_iff.1 h3).1 (.inr fun cur' fz q=>by
   rw[q] at h3
   injection h3 with h3
   injection h3 with _ h3 _
   exact he h3.symm)).trans h3,h4⟩
end
def zp5:Array Value:= #[.slice none 0 0,.slice none 0 0,.int .i64 0,.slice none 0 0,.slice none 0 0]
structure EmSt (f:Fm) (w W:World) (base P:Nat) (fc:Array Value) (vi vo vc v4:Value) (code:List In5):Prop where
 bel:Below w.heap.size w W
 g:Row W w.heap.size fc 28
 r:Row W (w.heap.size+1) zp5 37
 p:PrA W base P vi vo (.int .i64 f.wires.length) vc v4 code
 oi:W.ownsRow base 3 1 vi f.ins.length (ints (f.ins.map (tyOf f)))
 oo:W.ownsRow base 3 1 vo f.outs.length (ints (f.outs.map (tyOf f)))
 oc:W.ownsRow base 64 2 vc f.cells.length (f.cells.map cellC).flatten
 hP:w.heap.size+1<P
 hb:w.heap.size+1<base
 hbP:base≤P
 hs:base≤W.heap.size
section
variable {f:Fm} {w W W':World} {base P:Nat} {fc:Array Value} {vi vo vc v4 v5:Value} {code code':List In5}
theorem EmSt.fri (h:EmSt f w W base P fc vi vo vc v4 code) (hf:FrI base P W W') (hp:PrA W' base P vi vo (.int .i64 f.wires.length) vc v5 code'):EmSt f w W' base P fc vi vo vc v5 code':=
 ⟨h.bel.trans ((hf.below h.hbP h.hs).mono (by have:=h.hb;omega)),hf.row h.g (by have:=h.hP;omega) (by decide),hf.row h.r (by have:=h.hP;omega) (by decide),hp,
  hf.own h.oi (by decide) (fun k hk e=>own_ne h.oi h.p.row (by decide) (by rw[←e];exact hk)),hf.own h.oo (by decide) (fun k hk e=>own_ne h.oo h.p.row (by decide) (by rw[←e];exact hk)),
  hf.own h.oc (by decide) (fun k hk e=>own_ne h.oc h.p.row (by decide) (by rw[←e];exact hk)),h.hP,h.hb,h.hbP,Nat.le_trans h.hs hf.size⟩
theorem EmSt.below (h:EmSt f w W base P fc vi vo vc v4 code) (hb:Below W.heap.size W W'):EmSt f w W' base P fc vi vo vc v4 code:=h.fri (FrI.of_below hb) (h.p.below hb)
theorem EmSt.frx (h:EmSt f w W base P fc vi vo vc v4 code) (hf:FrX 68 base W W'):EmSt f w W' base P fc vi vo vc v4 code:=
 ⟨h.bel.trans ((hf.below h.hs).mono (by have:=h.hb;omega)),hf.row h.g (by decide),hf.row h.r (by decide),⟨hf.row h.p.row (by decide),hf.own h.p.own (by decide)⟩,hf.own h.oi (by decide),hf.own h.oo (by decide),hf.own h.oc (by decide),h.hP,h.hb,h.hbP,Nat.le_trans h.hs hf.size⟩
end
def stvC (s:Stv):List Value:=[.int .i64 s.1.1.op,.int .i64 s.1.1.a,.int .i64 s.1.1.b,.int .i64 s.1.1.c,.int .i64 s.1.1.k,s.2]
def stF (l:List Stv):List Value:=(l.map stvC).flatten
theorem stF_snoc (l:List Stv) (s:Stv):stF (l++ [s])=stF l++stvC s:=by simp[stF]
structure StO (w W:World) (base:Nat) (v7:Value) (lv:List Stv):Prop where
 own:W.ownsRow base 68 6 v7 lv.length (stF lv)
 ok:∀s∈lv,In5Ok s.1.1∧SlV w w.heap.size 2 isGd s.2 s.1.2
section
variable {w W W':World} {base P:Nat} {v7:Value} {lv:List Stv}
theorem StO.below (h:StO w W base v7 lv) (hb:Below W.heap.size W W'):StO w W' base v7 lv:=⟨own_below h.own hb,h.ok⟩
theorem StO.fri (h:StO w W base v7 lv) (hf:FrI base P W W') {cs:Array Value} (r:Row W P cs 37):StO w W' base v7 lv:=
 ⟨hf.own h.own (by decide) (fun k hk e=>own_ne h.own r (by decide) (by rw[←e];exact hk)),h.ok⟩
theorem StO.slv (h:StO w W base v7 lv) (hW:Below w.heap.size w W):SlV W W.heap.size 6 (isStp W w.heap.size) v7 lv:=by
 refine (own_sl (rel:=isStp W w.heap.size) (l:=lv) h.own ⟨by simp,fun i x cs hx hc=>?_⟩ (fun cs hcs=>?_) (by decide)).1
 ·simp only[List.getElem?_map,hx,Option.map_some,Option.some.injEq] at hc
  obtain ⟨h1,h2⟩:=h.ok x (List.mem_of_getElem? hx)
  exact ⟨hc.symm,h1,h2.below hW⟩
 ·obtain ⟨x,_,rfl⟩:=List.mem_map.1 hcs
  rfl
theorem SlV.cutB {α:Type} {W:World} {B B' size:Nat} {rel:α→List Value→Prop} {v:Value} {l:List α} (h:SlV W B size rel v l) (hB:∀k,v.ownBlock=some k→k<B'):SlV W B' size rel v l:=by
 obtain ⟨A,c,rfl,h1,h2,h3⟩:=h
 refine ⟨A,c,rfl,h1,h2,fun hl=>?_⟩
 obtain ⟨b,off,rfl,_,h5⟩:=h3 hl
 exact ⟨b,off,rfl,hB b rfl,h5⟩
end
theorem info_stp:(Tryz.prog.info? 68).map (fun i=>(i.zero,i.size,i.bytes))=some (some (.agg #[.int .i64 0,.int .i64 0,.int .i64 0,.int .i64 0,.int .i64 0,.slice none 0 0]),6,64):=by kernel_rfl
end Go.Proofs.YtbjaejgechadpaaGreat
