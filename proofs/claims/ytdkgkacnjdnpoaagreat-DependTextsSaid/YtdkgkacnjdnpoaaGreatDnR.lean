/-
  A row of cells that end with an expression's (expressions; definitions), each expression's parts in memory of its own, away from the row. A table of rows of ints, each row of the call's own: what depend.names makes. A region that draws its order, within a fence, whose operations call nothing: it goes as it goes without the fence. The contract of depend.reach: all wires on which one hangs.
-/
import Derived.Test.YtdkgkacnjdnpoaaGreatZz
import Derived.Test.YtdkgkacnjdnpoaaGreatFoN
import Derived.Test.YtdkgkacnjdnpoaaGreatSrt
import Derived.Test.YtdkgkacnjdnpoaaGreatStzP
import Derived.Test.YtdkgkacnjdnpoaaGreatScB
import Derived.Test.YtdkgkacnjdnpoaaGreatCkB
import Derived.Test.YtdkgkacnjdnpoaaGreatStzM
import Derived.Test.YtdkgkacnjdnpoaaGreatTyC
import Derived.Test.YtdkgkacnjdnpoaaGreatFoL
import Derived.Test.YtdkgkacnjdnpoaaGreatCalB
import Derived.ScopeJumps
set_option maxHeartbeats 4000000
set_option maxRecDepth 100000
namespace Go.Proofs.YtdkgkacnjdnpoaaGreat
open Go.RowKit
structure FT where
 pre:List Value
 e:Ex
 A:Option Addr
 c:Nat
def FT.cells (t:FT):List Value:=t.pre++exCells t.e t.A t.c
structure FxI (W:World) (base:Nat) (ty:TypeId) (p:Nat) (v:Value) (T:List FT):Prop where
 own:W.ownsRow base ty (p+6) v T.length (T.map FT.cells).flatten
 pre:∀t∈T,t.pre.length=p
 tm:∀t∈T,∃lo hi,base≤lo∧hi≤W.heap.size∧ExH W lo hi t.e t.A t.c∧∀g,v.ownBlock=some g→g<lo∨hi≤g
section
variable {W w7 w9:World} {base p lo hi:Nat} {ty:TypeId} {v v':Value} {T:List FT} {X:Nat→Prop}
theorem FxI.nil:FxI W base ty p (.slice none 0 0) []:=⟨World.ownsRow_nil _ _ _ _,fun _ ht=>absurd ht List.not_mem_nil,fun _ ht=>absurd ht List.not_mem_nil⟩
theorem FxI.upd (h:FxI W base ty p v T) (hu:Upd X W w7) (hX:∀j,X j→j<base∨W.heap.size≤j):FxI w7 base ty p v T:=by
 have hs:=hu.size
 refine ⟨own_updM h.own hu (fun g hg e=>?_),h.pre,fun t ht=>?_⟩
 ·have:=h.own.lt g hg
  have:=hX g e
  omega
 ·obtain ⟨lo,hi,h1,h2,h3,h4⟩:=h.tm t ht
  exact ⟨lo,hi,h1,by omega,ExH.upd h3 hu (fun j e=>by have:=hX j e;omega) h2,h4⟩
theorem FxI.below (h:FxI W base ty p v T) (hb:Below W.heap.size W w7):FxI w7 base ty p v T:=h.upd (X:=fun _=>False) (Upd.of_below hb) (fun _ e=>e.elim)
theorem FxI.snoc {t:FT} (h:FxI w7 base ty p v T) (ht:ExH w7 lo hi t.e t.A t.c) (hlo:base≤lo) (hhi:hi≤w7.heap.size) (hv:∀g,v.ownBlock=some g→g<lo∨hi≤g) (hp:t.pre.length=p)
  (hown:w9.ownsRow base ty (p+6) v' (T.length+1) ((T.map FT.cells).flatten++t.cells)) (ug:Upd (fun j=>v.ownBlock=some j∨w7.heap.size≤j) w7 w9) (hb:v'.ownBlock=v.ownBlock∨∃g,v'.ownBlock=some g∧w7.heap.size≤g):FxI w9 base ty p v' (T++ [t]):=by
 have hs:=ug.size
 have hall:∀s∈T++ [t],∃lo hi,base≤lo∧hi≤w7.heap.size∧ExH w7 lo hi s.e s.A s.c∧∀g,v.ownBlock=some g→g<lo∨hi≤g:=fun s hs'=>by
  rcases List.mem_append.1 hs' with g|g
  ·exact h.tm s g
  ·rw[List.mem_singleton] at g
   subst g
   exact ⟨lo,hi,hlo,hhi,ht,hv⟩
 refine ⟨?_,fun s hs'=>?_,fun s hs'=>?_⟩
 ·rw[List.length_append,List.map_append,List.flatten_append]
  simpa using hown
 ·rcases List.mem_append.1 hs' with g|g
  ·exact h.pre s g
  ·rw[List.mem_singleton] at g
   subst g
   exact hp
 ·obtain ⟨l,r,h1,h2,h3,h4⟩:=hall s hs'
  refine ⟨l,r,h1,by omega,ExH.upd h3 ug (fun j e=>?_) h2,fun g hg=>?_⟩
  ·rcases e with e|e
   ·exact h4 j e
   ·omega
  ·rcases hb with e|⟨g2,e,h5⟩
   ·exact h4 g (by rw[←e];exact hg)
   ·rw[e] at hg;injection hg;omega
theorem FxI.sl {α:Type} {rel:α→List Value→Prop} {l:List α} {F:FT→α} {B:Nat} (h:FxI W base ty p v T) (hB:B≤base) (hl:l=T.map F) (hr:∀t∈T,IsEx (hide B W) W.heap.size t.e (exCells t.e t.A t.c)→rel (F t) t.cells):SlV (hide B W) W.heap.size (p+6) rel v l:=by
 subst hl
 refine own_slx h.own hB (by simp) (fun i x hx=>?_)
 rw[List.getElem?_map] at hx
 obtain ⟨t,ht,rfl⟩:=Option.map_eq_some_iff.1 hx
 have hm:=List.mem_of_getElem? ht
 have h6:∀cs∈T.map FT.cells,cs.length=p+6:=fun cs hcs=>by
  obtain ⟨s,hs,rfl⟩:=List.mem_map.1 hcs
  show (s.pre++exCells s.e s.A s.c).length=_
  rw[List.length_append,h.pre s hs];rfl
 obtain ⟨lo,hi,h1,h2,h3,_⟩:=h.tm t hm
 exact ⟨t.cells,h6 _ (List.mem_map_of_mem hm),fun j hj=>(flatten_get h6 (by rw[List.getElem?_map,ht];rfl) hj).symm,hr t hm (ExH.wide h3 (by omega) h2)⟩
theorem FxI.exs (h:FxI W base ty 0 v T) {B:Nat} (hB:B≤base):∃A c,v= .slice A T.length c∧T.length≤c∧c≤maxLen∧IsExs (hide B W) W.heap.size A (T.map FT.e):=by
 obtain ⟨A,c,h1,h2,h3,h4⟩:=h.sl (F:=FT.e) (rel:=IsEx (hide B W) W.heap.size) hB rfl (fun t ht hx=>by
  have:=h.pre t ht
  have e:t.pre=[]:=List.eq_nil_of_length_eq_zero this
  show IsEx _ _ _ (t.pre++exCells t.e t.A t.c)
  rw[e];exact hx)
 rw[List.length_map] at h1 h2
 exact ⟨A,c,h1,h2,h3,h4⟩
end
def TbI (W:World) (base O:Nat) (L:List (List Int)):Prop:=
 ∃vs:List Value,Row W O vs.toArray 34∧O<base∧vs.length=L.length∧(∀(i:Nat) (v:Value) (l:List Int),vs[i]? =some v→L[i]? =some l→W.ownsRow base 3 1 v l.length (intsV l))∧∀(i j:Nat) (v v':Value) (g:Nat),vs[i]? =some v→vs[j]? =some v'→v.ownBlock=some g→v'.ownBlock=some g→i=j
section
variable {W W' W1:World} {base O:Nat} {L:List (List Int)}
theorem TbI.new {n:Nat} (h:Row W O (Array.replicate n (.slice none 0 0)) 34) (hO:O<base):TbI W base O (List.replicate n []):=by
 refine ⟨List.replicate n (.slice none 0 0),by simpa using h,hO,by simp,fun i v l hv hl=>?_,fun i j v v' g hv _ hg _=>?_⟩
 ·rw[List.getElem?_replicate] at hv hl
  split at hv
  ·rename_i h9
   rw[if_pos h9] at hl
   cases hv
   cases hl
   exact World.ownsRow_nil _ _ _ _
  ·cases hv
 ·rw[List.getElem?_replicate] at hv
  split at hv
  ·cases hv
   cases hg
  ·cases hv
theorem TbI.upd {X:Nat→Prop} (h:TbI W base O L) (hu:Upd X W W') (hX:∀j,X j→j<O∨(O<j∧j<base)∨W.heap.size≤j):TbI W' base O L:=by
 obtain ⟨vs,h1,h2,h3,h4,h5⟩:=h
 refine ⟨vs,hu.row h1 (fun e=>by have:=hX O e;have:=h1.lt;omega),h2,h3,fun i v l hv hl=>own_updM (h4 i v l hv hl) hu (fun g hg e=>?_),h5⟩
 have:=(h4 i v l hv hl).lt g hg
 have:=hX g e
 omega
theorem TbI.below (h:TbI W base O L) (hb:Below W.heap.size W W'):TbI W' base O L:=h.upd (X:=fun _=>False) (Upd.of_below hb) (fun _ e=>e.elim)
theorem TbI.own {row:Option Nat} (h:TbI W base O L) (hg:W.grownBy W' row) (hr:∀r,row=some r→∃o:Obj,W.heap[r]? =some o∧o.isCells=false):TbI W' base O L:=by
 obtain ⟨vs,h1,h2,h3,h4,h5⟩:=h
 refine ⟨vs,Row.own h1 hg hr,h2,h3,fun i v l hv hl=>⟨(h4 i v l hv hl).1,?_⟩,h5⟩
 rcases (h4 i v l hv hl).2 with h0|⟨g,cap,cur,e1,e2,e3,e4⟩
 ·exact .inl h0
 ·exact .inr ⟨g,cap,cur,e1,e2,Row.own (cs:=cur) e3 hg hr,e4⟩
theorem TbI.at_ {i:Nat} {l:List Int} (h:TbI W base O L) (hi:L[i]? =some l):∃(v:Value) (cs:Array Value),Row W O cs 34∧cs[i]? =some v∧W.ownsRow base 3 1 v l.length (intsV l)∧
  ∀(W1:World) (v':Value) (l':List Int),Upd (fun j=>v.ownBlock=some j∨W.heap.size≤j) W W1→W1.ownsRow base 3 1 v' l'.length (intsV l')→(v'.ownBlock=v.ownBlock∨∃g,v'.ownBlock=some g∧W.heap.size≤g)→TbI (W1.setCell ⟨O,i,none⟩ v') base O (L.set i l'):=by
 obtain ⟨vs,h1,h2,h3,h4,h5⟩:=h
 have hil':i<L.length:=(List.getElem?_eq_some_iff.1 hi).1
 have hil:i<vs.length:=by omega
 have hlt:=h1.lt
 have hvi:vs[i]? =some vs[i]:=List.getElem?_eq_getElem hil
 refine ⟨vs[i],_,h1,by simp[hil],h4 i _ l hvi hi,fun W1 v' l' hu hown hb=>?_⟩
 have r1:=hu.row h1 (fun e=>by
  rcases e with e|e
  ·have:=((h4 i _ l hvi hi).lt O e).1;omega
  ·omega)
 have r2:Row (W1.setCell ⟨O,i,none⟩ v') O (vs.set i v').toArray 34:=by
  have:=r1.set i v'
  simpa using this
 have us:=(Upd.refl (fun j=>j=O) W1).setCell (p:=⟨O,i,none⟩) rfl v'
 have hlb:∀(k:Nat) (u:Value) (g:Nat),vs[k]? =some u→u.ownBlock=some g→g<W.heap.size:=fun k u g hk hg=>by
  have hkl:k<L.length:=by rw[←h3];exact (List.getElem?_eq_some_iff.1 hk).1
  exact ((h4 k u _ hk (List.getElem?_eq_getElem hkl)).lt g hg).2
 refine ⟨vs.set i v',r2,h2,by simp[h3],fun j u m hj hm=>?_,fun j k u u' g hj hk hg hg'=>?_⟩
 ·rw[List.getElem?_set] at hj hm
  by_cases e:i=j
  ·subst e
   rw[if_pos rfl,if_pos hil] at hj
   rw[if_pos rfl,if_pos hil'] at hm
   cases hj
   cases hm
   exact own_updX hown us (fun k e=>by omega)
  ·rw[if_neg e] at hj hm
   refine own_updX (own_updM (h4 j u m hj hm) hu (fun g hg e'=>?_)) us (fun k e=>by omega)
   rcases e' with e'|e'
   ·exact e (h5 i j _ _ g hvi hj e' hg)
   ·have:=hlb j u g hj hg;omega
 ·rw[List.getElem?_set] at hj hk
  by_cases e1:i=j
  ·by_cases e2:i=k
   ·omega
   ·rw[if_pos e1,if_pos hil] at hj
    rw[if_neg e2] at hk
    cases hj
    rcases hb with hb|⟨g2,hb,hg2⟩
    ·have:=h5 i k _ _ g hvi hk (by rw[←hb];exact hg) hg'
     omega
    ·rw[hb] at hg
     cases hg
     have:=hlb k u' g hk hg'
     omega
  ·rw[if_neg e1] at hj
   by_cases e2:i=k
   ·rw[if_pos e2,if_pos hil] at hk
    cases hk
    rcases hb with hb|⟨g2,hb,hg2⟩
    ·have:=h5 i j _ _ g hvi hj (by rw[←hb];exact hg') hg
     omega
    ·rw[hb] at hg'
     cases hg'
     have:=hlb j u g hj hg
     omega
   ·rw[if_neg e2] at hk
    exact h5 j k u u' g hj hk hg hg'
end
def tbX (O base b:Nat) (t:TypeId):Prop:=b=O∨(base≤b∧t=3)
theorem keepT_tbset {O base:Nat} {W:World} {p:Addr} (hp:p.block=O) (u:Value):KeepT (tbX O base) W (W.setCell p u):=
 ⟨by simp[World.setCell],fun b _ _ _ hX hb=>(Below.heap_setCell W p u b (fun e=>hX (.inl (by rw[e,hp])))).trans hb⟩
theorem keepT_tb {O base n:Nat} {W W':World} {v:Value} {xs:List Value} (ho:W.ownsRow base 3 1 v n xs) (hg:W.grownBy W' v.ownBlock):KeepT (tbX O base) W W':=by
 refine ⟨hg.size,fun b cs t f hX hb=>(hg.block b (Array.getElem?_eq_some_iff.1 hb).1 (fun e=>?_)).trans hb⟩
 rcases ho.2 with ⟨rfl,_⟩|⟨g,cap,cur,rfl,e2,e3,_⟩
 ·cases e
 ·injection e with e
  have e':b=g:=e
  subst e'
  rw[e3] at hb
  injection hb with hb
  injection hb with _ hb _
  exact hX (.inr ⟨e2,hb.symm⟩)
theorem ko_own' {B n size:Nat} {e0:TypeId} {W W':World} {v:Value} {xs:List Value} (ho:W.ownsRow B e0 size v n xs) (hg:W.grownBy W' v.ownBlock):KeepsOthers W W':=by
 refine ⟨hg.size,fun k o hk hc=>(hg.block k (Array.getElem?_eq_some_iff.1 hk).1 (fun e=>?_)).trans hk⟩
 rcases ho.2 with ⟨rfl,_⟩|⟨g,cap,cur,rfl,e2,e3,_⟩
 ·cases e
 ·injection e with e
  have e':k=g:=e
  subst e'
  rw[e3] at hk
  injection hk with hk
  subst hk
  cases hc
section
variable {F:Fence} {n:Nat} {P:Program} {ops:Array Oper} {Q:Exit→Act→World→Prop} {md:Region.Mode} {S:World→Prop}
def calm1:Op→Bool
 | .move _| .assign _| .load _ _| .store _ _ _| .fieldAddr _ _ _| .indexAddr _ _ _| .buildSlice _ _ _=>true
 | .call c=>(match c.callee with
  | .builtin .append=>true
  |_=>false)
 |_=>false
def onlyN (Q:Exit→Act→World→Prop):Exit→Act→World→Prop
 | .normal,a,w=>Q .normal a w
 |_,_,_=>False
theorem wp_only {c:Code} {a:Act} {w:World} (h:c.wp P (onlyN Q) a w):c.wp P Q a w:=wp_mono h fun e a w hq=>by cases e<;>first|exact hq|exact hq.elim
theorem run_v {s:Sem Value} {w w':World} {x:Next} (h:Sem.run P (do pure (Next.value (←s)):Sem Next) w= .ok x w'):∃v,x= .value v:=by
 rw[Sem.run_bind] at h
 cases hs:Sem.run P s w with
 |ok v w1=>rw[hs] at h;simp[Result.andThen,Sem.run_pure] at h;exact ⟨v,h.1.symm⟩
 |halt e w1=>rw[hs] at h;simp[Result.andThen] at h
theorem run_u {s:Sem Unit} {w w':World} {x:Next} (h:Sem.run P (do s;pure Next.skip:Sem Next) w= .ok x w'):x= .skip:=by
 rw[Sem.run_bind] at h
 cases hs:Sem.run P s w with
 |ok v w1=>rw[hs] at h;simp[Result.andThen,Sem.run_pure] at h;exact h.1.symm
 |halt e w1=>rw[hs] at h;simp[Result.andThen] at h
theorem calm_run {o:Oper} (h:calm1 o.op=true) {ρ:Operand→Value} {w w':World} {x:Next} (hx:Sem.run P (execOp ρ o) w= .ok x w'):(∃v,x= .value v)∨x= .skip:=by
 unfold execOp at hx
 cases ho:o.op<;>rw[ho] at h hx<;>simp only[calm1] at h<;>try cases h
 case store=>exact .inr (run_u hx)
 case call c=>
  cases hc:c.callee with
  |builtin b=>
   rw[hc] at h
   cases b<;>simp at h
   simp only[resolve,hc,invoke,builtin,pure_bind] at hx
   exact .inl (run_v hx)
  |_=>rw[hc] at h;simp at h
 all_goals first|exact .inl (run_v hx)|(simp[Sem.run_pure] at hx;exact .inl ⟨_,hx.1.symm⟩)
theorem calm_about {o:Oper} (h:calm1 o.op=true) {ρ:Operand→Value} {w:World} {f:FuncId} (hf:o.about P w ρ=some f):False:=by
 unfold Oper.about at hf
 cases ho:o.op<;>rw[ho] at h hf<;>simp only[calm1] at h<;>try cases hf
 rename_i c
 cases hc:c.callee with
 |builtin b=>simp[resolve,hc,Sem.run_pure,Target.leads] at hf
 |_=>rw[hc] at h;simp at h
theorem calm_op {o:Oper} (h:calm1 o.op=true) {a:Act} {w:World} {K:Act→World→Prop} (hw:o.wp P a w K (onlyN Q)):o.wpIn F n P a w K Q:=by
 refine ⟨fun f hf=>(calm_about h hf).elim,?_⟩
 ·rw[Oper.semAt_eq _ _ _ (fun c hc=>by rw[hc] at h;cases h)]
  unfold Oper.wp at hw
  cases hr:Sem.run P (execOp a.eval o) w with
  |ok x w1=>
   rw[hr] at hw
   rcases calm_run h hr with ⟨v,rfl⟩|rfl<;>exact hw
  |halt x w1=>
   rw[hr] at hw
   cases x<;>simp only[Oper.upon,onlyN] at hw
theorem calm_any:∀(fuel:Nat) (listed:Array Bool) (a:Act) (w:World),(ops.toList.all fun o=>calm1 o.op)=true→wpAny P md ops (onlyN Q) fuel listed a w→wpAnyIn F n P md ops Q fuel listed a w
 |0,_,_,_,_,h=>h
 |fuel+1,listed,a,w,hc,h=>⟨h.1,fun i hi=>by
  have h1:=h.2 i hi
  unfold wpOp at h1
  unfold wpOpIn
  cases ho:ops[i]? with
  |none=>rw[ho] at h1;exact calm_any fuel _ _ _ hc h1
  |some o=>
   rw[ho] at h1
   dsimp only at h1⊢
   have hco:calm1 o.op=true:=List.all_eq_true.1 hc o (by
    have:=Array.mem_of_getElem? ho
    simpa using this)
   by_cases hw:Region.wanted o (yielded ops a.tmps)=true
   ·rw[if_pos hw] at h1⊢
    rcases h1 with h1|⟨_,a1,w1,h1⟩
    ·exact Oper.wpIn_mono (fun a w h=>calm_any fuel _ a w hc h) (calm_op hco h1)
    ·exact h1.elim
   ·rw[if_neg hw] at h1⊢
    exact ⟨fun f hf=>(calm_about hco hf).elim,calm_any fuel _ _ _ hc h1⟩⟩
end
end Go.Proofs.YtdkgkacnjdnpoaaGreat
namespace Go.Proofs.YtdkgkacnjdnpoaaGreat.Q
open Go.RowKit Vf Fo
attribute [local go_sem ↓] Go.wp_at_zero Go.wp_at_succ
def WinI (w:World) (base:Nat) (v:Value) (l:List Int):Prop:=∃g off cap,v= .slice (some ⟨g,off,none⟩) l.length cap∧Win w base 3 g off l.length cap (intsV l)
section
variable {w w':World} {base:Nat} {v:Value} {l:List Int}
theorem WinI.lt (h:WinI w base v l):∀k,v.ownBlock=some k→base≤k∧k<w.heap.size:=fun k hk=>by
 obtain ⟨g,off,cap,rfl,h⟩:=h
 simp only[Value.ownBlock,Option.some.injEq] at hk
 subst hk
 exact ⟨h.2.1,h.lt⟩
theorem WinI.upd {X:Nat→Prop} (h:WinI w base v l) (hu:Upd X w w') (hX:∀k,v.ownBlock=some k→¬X k):WinI w' base v l:=by
 obtain ⟨g,off,cap,rfl,h⟩:=h
 exact ⟨g,off,cap,rfl,h.block (hu.block g h.lt (hX g rfl))⟩
theorem WinI.head {x:Int} (h:WinI w base v (x::l)):∃g off cap,v= .slice (some ⟨g,off,none⟩) (l.length+1) cap∧l.length+1≤cap∧cap≤maxLen∧w.cell? ⟨g,off,none⟩=some (.int .i64 x)∧
  ((cap≠1∧WinI w base (.slice (some ⟨g,off+1,none⟩) l.length (cap-1)) l)∨(cap=1∧l=[]∧WinI w base (.slice (some ⟨g,off,none⟩) 0 0) [])):=by
 obtain ⟨g,off,cap,rfl,h⟩:=h
 refine ⟨g,off,cap,rfl,h.2.2.1,h.2.2.2.1,by simpa using h.cells 0 (.int .i64 x) rfl,?_⟩
 by_cases hc:cap=1
 ·have:=h.2.2.1
  simp only[List.length_cons] at this
  obtain rfl:l=[]:=List.eq_nil_of_length_eq_zero (by omega)
  obtain ⟨k1,k2,k3,k4,cur,hh,k5,k6⟩:=h
  exact .inr ⟨hc,rfl,g,off,0,rfl,rfl,k2,Nat.le_refl _,Nat.zero_le _,cur,hh,by omega,by simp[intsV]⟩
 ·exact .inl ⟨hc,g,off+1,cap-1,rfl,h.tail⟩
theorem wpList_append_wini {ops:Array Oper} {rest:List Oper} {o:Oper} {a:Act} {Q:Exit→Act→World→Prop} (hgd:o.guard=none) (s x:Operand)
  (ho:o.op= .call {callee:= .builtin .append,args:= #[s,x],argTypes:= #[34,34]})
  (base:Nat) (l:List Int) (n:Int) (v:Value) (hs:a.eval s=v) (h:WinI w base v l) (b:Nat) (hx:a.eval x= .slice (some ⟨b,0,none⟩) 1 1) (hc:w.cell? ⟨b,0,none⟩=some (.int .i64 n))
  (hl:l.length<1000000) (hbase:base≤w.heap.size)
  (hK:∀v' w',WinI w' base v' (l++ [n])→w.grownBy w' v.ownBlock→wpList Tryz.prog ops Q rest (a.put o.dst v') w'):wpList Tryz.prog ops Q (o::rest) a w:=by
 refine' zq125
 obtain ⟨g,off,cap,rfl,h⟩:=h
 refine wpList_plain hgd fun K' hK'=>?_
 unfold Oper.wp
 obtain ⟨g',off',cap',w',hrun,hw,hg⟩:=run_append_wins (P:=Tryz.prog) 34 o.type i0 (.int .i64 0) 8 Tryz.underlying34 hi0 hz0 hz1 hz2 rfl h ⟨b,0,none⟩ 1 1 [.int .i64 n] rfl (fun j u hu=>by
  have hj:j<1:=(List.getElem?_eq_some_iff.1 hu).1
  obtain rfl:j=0:=by omega
  simp at hu
  subst hu
  simpa[Addr.add] using hc) (by intro u hu;simp at hu;subst hu;rfl) (by unfold maxLen;omega) (by omega) hbase
 simp[execOp,ho,resolve,invoke,builtin,hs,hx,hrun,Result.andThen]
 refine hK' _ _ (hK _ w' ⟨g',off',cap',by simp,?_⟩ hg)
 rw[intsV_snoc,List.length_append]
 exact hw
end
theorem rowI_at {L:List (List Int)} {b:Nat} {l:List Int} (h:L[b]? =some l):rowI L b=l:=by
 unfold rowI
 rw[List.getD_eq_getElem?_getD,Int.toNat_natCast,h];rfl
structure RcAt (w0 W:World) (L:List (List Int)) (a:Int) (E:Nat) (vw:Value) (on:List Bool) (wt:List Int):Prop where
 st:RSt L L.length a on wt
 row:Row W E (bls on).toArray 4
 win:WinI W (E+1) vw wt
 hE:E=w0.heap.size
 bel:Below w0.heap.size w0 W
 len:wt.length+notYet on≤L.length
def lenV:Value→Nat
 | .slice _ n _=>n
 |_=>0
def offs (W:World):Value→Nat
 | .slice (some p) _ _=>(match W.heap[p.block]? with
  |some (.cells cs _ _)=>cs.toList.countP (fun u=>match u with| .bool b=>!b|_=>false)
  |_=>0)
 |_=>0
theorem offs_row {W:World} {E n c:Nat} {on:List Bool} {t:TypeId} (h:Row W E (bls on).toArray t):offs W (.slice (some ⟨E,0,none⟩) n c)=notYet on:=by
 have h':W.heap[E]? =some (.cells (bls on).toArray t (0,0)):=h
 simp only[offs,h',bls,List.countP_map,notYet]
 rfl
theorem wp_scope_first {P:Program} {a:Act} {w:World} {Q:Exit→Act→World→Prop} {c rest:Code} (l:Nat) (J:Act→World→Prop) (μ:Act→World→Nat) (hf:findLabel c l=some (.seq .skip rest))
  (first:(∀a w,J a w→rest.wp P (Exit.jump l J Q) a w)→c.wp P (Exit.jump l J Q) a w)
  (pass:∀a w,J a w→rest.wp P (Exit.jump l (fun a' w'=>J a' w'∧μ a' w'<μ a w) Q) a w):(Code.scope c).wp P Q a w:=
 wp_scope_jumps l J μ hf (first fun a w h=>wp_mono (pass a w h) fun e a w hq=>by
  cases e with
  |goto l'=>exact ⟨hq.1,hq.2.1⟩
  |_=>exact hq) fun a w h=>wp_seq (wp_skip (pass a w h))
structure RcIn (w0 W:World) (L:List (List Int)) (a b:Int) (E M:Nat) (k:Nat) (vw:Value) (on:List Bool) (wt:List Int):Prop where
 st:RIn L L.length a b k on wt
 row:Row W E (bls on).toArray 4
 win:WinI W (E+1) vw wt
 bel:Below w0.heap.size w0 W
 len:wt.length+notYet on≤L.length
 mu:2*notYet on+wt.length<M
theorem own_up {w w':World} {g:Option Nat} (hg:w.grownBy w' g):Upd (fun k=>g=some k) w w':=⟨hg.os,hg.tape,hg.output,hg.size,fun k hk hX=>hg.block k hk (fun e=>hX e.symm)⟩
theorem reach_any {w:World} {L:List (List Int)} {v:Value} (h:SlV w w.heap.size 1 (isRw w w.heap.size) v L) (a:Int) (h0:0≤a) (h1:a<L.length) (hn:L.length≤1600) (hT:∀b:Int,∀c∈rowI L b,0≤c∧c<L.length):
  Calls Tryz.prog 34 #[v,.int .i64 a] w fun r w'=>(∃E on,r= .returned (.slice (some ⟨E,0,none⟩) L.length L.length)∧w.heap.size≤E∧Row w' E (bls on).toArray 4∧on.length=L.length∧∀c:Int,0≤c→(bGet on c=true↔Rch L a c))∧Below w.heap.size w w':=by
 obtain ⟨A,cap,rfl,l1,m1,s1⟩:=h
 have HS:Hid (∀W,Below w.heap.size w W→Sl W w.heap.size 1 (isRw W w.heap.size) A L):=fun W hW=>s1.keep (fun p u hp hc=>(hW.cell hp).trans hc) (Nat.le_refl _) (fun x _ cs hx=>by obtain ⟨u,rfl,hu⟩:=hx;exact ⟨u,rfl,hu.below hW⟩)
 have HT:=Lib.hid hT
 have mk:=make_bools L.length (by omega) (by omega)
 have m1':cap≤9223372036854775807:=by unfold maxLen at m1;omega
 clear hT s1 m1
 go_enter Tryz.func34,Tryz.ntmps34
 go_wp2_with fail
 refine wp_scope_first 0 (fun a' W=>∃(E:Nat) (on:List Bool) (wt:List Int) (vw x7 x8 x9 x10 x11 x12 x13 x14 x15 x16 x17 x18 x19 x20 x21 x22 x23 x24 x25 x26 x27 x28 x29 x30 x31 x32 x33 x34 x35 x36 x37 x38 x39 x40 x41 x42 x43 x44 x45 x46 x47 x48:Value),a'={tmps:= #[.slice A L.length cap,.int .i64 a,undef,undef,.slice none 0 0,.slice (some ⟨E,0,none⟩) L.length L.length,vw,x7,x8,x9,x10,x11,x12,x13,x14,x15,x16,x17,x18,x19,x20,x21,x22,x23,x24,x25,x26,x27,x28,x29,x30,x31,x32,x33,x34,x35,x36,x37,x38,x39,x40,x41,x42,x43,x44,x45,x46,x47,x48],defers:=[]}∧Hid (RcAt w W L a E vw on wt)) (fun a' W=>2*offs W (a'.tmps.getD 5 undef)+lenV (a'.tmps.getD 6 undef)) rfl ?_ ?_
 ·intro PASS
  have HP:=Lib.hid PASS
  clear PASS
  obtain ⟨m,rfl⟩:=Int.eq_ofNat_of_zero_le h0
  have hm:m<L.length:=by omega
  have b1:Below w.heap.size w (w.alloc (.cells (Array.replicate L.length (.bool false)) 4)):=bE
  have r1:Row (w.alloc (.cells (Array.replicate L.length (.bool false)) 4)) w.heap.size (bls (List.replicate L.length false)).toArray 4:=by simpa[bls] using Row.new w (Array.replicate L.length (.bool false)) 4
  go_upto_region 2 with (fail)
  generalize w.alloc (.cells (Array.replicate L.length (.bool false)) 4)=w1 at*
  have hs1:=b1.size
  have hE1:=r1.lt
  have b2:Below w1.heap.size w1 (w1.alloc (.cells #[.int .i64 (m:Int)] 3)):=bE
  have r2:=r1.below b2 hE1
  have hw2:=Row.new w1 #[.int .i64 (m:Int)] 3
  have hB2:=b1.trans (b2.mono hs1)
  go_upto_region 3 with (fail)
  generalize (w1.alloc (.cells #[.int .i64 (m:Int)] 3))=w2 at*
  have cD:=ds_cell r2 (n:=m) (by simpa using hm)
  have u2:Upd (fun j=>j=w.heap.size) w2 (w2.setCell ⟨w.heap.size,m,none⟩ (.bool true)):=(Upd.refl (fun j=>j=w.heap.size) _).setCell (p:=⟨w.heap.size,m,none⟩) rfl _
  have r3:=ds_set (m:=m) r2 true
  have fD:=r2.frozen m
  have hb3:Below w.heap.size w (w2.setCell ⟨w.heap.size,m,none⟩ (.bool true)):=hB2.setCell (p:=⟨w.heap.size,m,none⟩) (Nat.le_refl _) _
  have hw3:WinI (w2.setCell ⟨w.heap.size,m,none⟩ (.bool true)) (w.heap.size+1) (.slice (some ⟨w1.heap.size,0,none⟩) 1 1) [(m:Int)]:=⟨w1.heap.size,0,1,rfl,rfl,by omega,Nat.le_refl _,by decide,_,u2.row hw2 (by omega),by simp,by simp[intsV]⟩
  have st0:RSt L L.length (m:Int) ((List.replicate L.length false).set m true) [(m:Int)]:=RSt.start (Int.natCast_nonneg _) (by omega)
  have hny:notYet ((List.replicate L.length false).set m true)<L.length:=by
   have h1:=notYet_set (ds:=List.replicate L.length false) (n:=(m:Int)) (by omega) (by simp;omega) (by simp[bGet,List.getD_eq_getElem?_getD,hm])
   have h2:notYet (List.replicate L.length false)≤L.length:=by
    unfold notYet
    have:=List.countP_le_length (p:=fun b:Bool=>!b) (l:=List.replicate L.length false)
    simpa using this
   have h3:(m:Int).toNat=m:=by simp
   rw[h3] at h1
   omega
  have HR0:Hid (RcAt w (w2.setCell ⟨w.heap.size,m,none⟩ (.bool true)) L (m:Int) w.heap.size (.slice (some ⟨w1.heap.size,0,none⟩) 1 1) ((List.replicate L.length false).set m true) [(m:Int)]):=⟨st0,r3,hw3,rfl,hb3,by simp;omega⟩
  have i0:(0:Int)≤(m:Int):=by omega
  have i1:(m:Int)<(L.length:Int):=by omega
  clear r1 r2 hw2 u2 r3 hb3 hw3 st0 hny b1 b2 hB2 mk
  go_wp2_with fail
  go_step3
  simp only[Exit.then]
  rename_i a9
  refine a9 _ _ ?_
  exact HP.out _ _ ⟨w.heap.size,_,_,_,_,_,_,_,_,_,_,_,_,_,_,_,_,_,_,_,_,_,_,_,_,_,_,_,_,_,_,_,_,_,_,_,_,_,_,_,_,_,_,_,_,_,rfl,HR0⟩
 ·rintro a' W ⟨E,on,wt,vw,x7,x8,x9,x10,x11,x12,x13,x14,x15,x16,x17,x18,x19,x20,x21,x22,x23,x24,x25,x26,x27,x28,x29,x30,x31,x32,x33,x34,x35,x36,x37,x38,x39,x40,x41,x42,x43,x44,x45,x46,x47,x48,rfl,hR⟩
  obtain ⟨st,rE,hW,hE,hbl,hlen⟩:=hR.out
  have hoff:=offs_row (n:=L.length) (c:=L.length) rE
  have hMU:Hid (2*offs W (.slice (some ⟨E,0,none⟩) L.length L.length)+lenV vw=2*notYet on+wt.length):=by
   obtain ⟨g,off,c,hv,_⟩:=hW
   show _=_
   rw[hoff,hv];rfl
  clear hR mk hoff
  have hs1:=hbl.size
  have hEl:=rE.lt
  have hol:=st.len
  have HE:=Lib.hid hE
  have hEle:w.heap.size≤E:=by omega
  clear hE
  cases wt with
  |nil=>
   obtain ⟨g,off,c,rfl,hwin⟩:=hW
   have HFIN:Hid (∀c:Int,0≤c→(bGet on c=true↔Rch L a c)):=fun c hc=>st.done HT.out h0 c hc
   clear st hwin
   go_wp2_with fail
   simp only[Exit.jump]
   go_ret
   exact ⟨⟨E,on,rfl,by omega,rE,hol,HFIN.out⟩,hbl⟩
  |cons b wt=>
   have hin:=st.pop
   obtain ⟨m,rfl⟩:=Int.eq_ofNat_of_zero_le hin.b.1
   have hm:m<L.length:=by have:=hin.b.2.1;omega
   obtain ⟨g,off,c,rfl,q1,q2,c0,hW'⟩:=hW.head
   obtain ⟨bO,offO,l,Ax,cx,hA,hbO,hl,cO,lx,mx,sx⟩:=sl_rw (HS.out W hbl) (k:=m) hm
   have hrl:Hid (rowI L (m:Int)=l):=rowI_at hl
   have HIN:=Lib.hid hin
   have HRE:=Lib.hid rE
   have HBL:=Lib.hid hbl
   have HLE:Hid (wt.length+notYet on≤L.length):=by show _≤_;simp only[List.length_cons] at hlen;omega
   have i0:(0:Int)≤(m:Int):=by omega
   have i1:(m:Int)<(L.length:Int):=by omega
   have j0:(0:Int)<(wt.length:Int)+1:=by omega
   have j1:(1:Int)≤(wt.length:Int)+1:=by omega
   have q2':c≤9223372036854775807:=by unfold maxLen at q2;omega
   have mx':cx≤9223372036854775807:=by unfold maxLen at mx;omega
   have sx0:Hid (∀W',Below w.heap.size w W'→Sl W' w.heap.size 1 isInt Ax l):=fun W' hW'=>sx.keep (fun p u hp hc=>(hW'.cell hp).trans ((hbl.cell hp).symm.trans hc)) (Nat.le_refl _) (fun _ _ _ h=>h)
   subst hA
   clear st hin rE hbl hlen sx hl
   go_upto_region 7 with (fail)
   go_cut[6] (fun v6 W'=>W'=W∧WinI W (E+1) v6 wt)
   case first=>
    rcases hW' with ⟨hc1,hW'⟩|⟨rfl,rfl,hW'⟩
    all_goals
     go_wp2_with fail
     go_meet
     exact ⟨rfl,by simpa using hW'⟩
   case rest=>
    obtain ⟨hwc,hW2⟩:=hcut
    subst hwc
    obtain ⟨g6,off6,cap6,rfl,hw6⟩:=hW2
    have HW6:Hid (WinI wc (E+1) (.slice (some ⟨g6,off6,none⟩) wt.length cap6) wt):=⟨g6,off6,cap6,rfl,hw6⟩
    clear hW' hw6
    have HST:Hid (RcIn w wc L a (m:Int) E (2*notYet on+(wt.length+1)) 0 (.slice (some ⟨g6,off6,none⟩) wt.length cap6) on wt):=⟨HIN.out,HRE.out,HW6.out,HBL.out,HLE.out,by omega⟩
    go_wp2_with fail
    go_loopw[6,32] (fun v6 i wr=>∃(k:Nat) (on':List Bool) (wt':List Int),k≤l.length∧i= .int .i64 k∧Hid (RcIn w wr L a (m:Int) E (2*notYet on+(wt.length+1)) k v6 on' wt')) (fun _ i _=>l.length-(intOf i).toNat)
    case atStart=>exact ⟨0,on,wt,Nat.zero_le _,rfl,HST⟩
    case round=>
     clear HST HRE HLE HBL HIN HW6
     obtain ⟨k,on',wt',hk,rfl,HR⟩:=hrel
     by_cases hlt:k<l.length
     rotate_left 1
     ·obtain rfl:k=l.length:=by omega
      have HFIN:Hid (RcAt w wr L a E _ on' wt'):=⟨HR.out.st.end_ (by rw[hrl.out];exact Nat.le_refl _),HR.out.row,HR.out.win,HE.out,HR.out.bel,HR.out.len⟩
      have HMF:Hid (2*offs wr (.slice (some ⟨E,0,none⟩) L.length L.length)+lenV u6<2*offs wc (.slice (some ⟨E,0,none⟩) L.length L.length)+lenV (.slice (some ⟨g,off,none⟩) (wt.length+1) c)):=by
       have h1:=hMU.out
       have h2:=HR.out.mu
       have h3:=offs_row (n:=L.length) (c:=L.length) HR.out.row
       obtain ⟨g',off',c',hv,_⟩:=HR.out.win
       have h4:lenV u6=wt'.length:=by rw[hv];rfl
       simp only[List.length_cons] at h1
       show _<_
       omega
      clear HR
      go_wp2_with fail
      go_step3
      exact ⟨rfl,⟨E,on',wt',u6,_,_,_,_,_,_,_,_,_,_,_,_,_,_,_,_,_,_,_,_,_,_,_,_,_,_,_,_,_,_,_,_,_,_,_,_,_,_,_,_,_,_,rfl,HFIN⟩,HMF.out⟩
     have hol':=HR.out.st.len
     obtain ⟨bx,ox,x,hAx,hbx,hx,wx,cx0⟩:=(sx0.out wr HR.out.bel).int hlt
     cases hAx
     have hxr:(rowI L (m:Int))[k]? =some x:=by rw[hrl.out];exact hx
     obtain ⟨p0,p1⟩:=HT.out _ x (List.mem_of_getElem? hxr)
     obtain ⟨p,rfl⟩:=Int.eq_ofNat_of_zero_le p0
     have hp:p<L.length:=by omega
     have cD:=ds_cell HR.out.row (n:=p) (by omega)
     have fD:=HR.out.row.frozen p
     have q0:(0:Int)≤(p:Int):=by omega
     have q1':(p:Int)<(L.length:Int):=by omega
     have k0:(0:Int)≤(k:Int):=by omega
     have k1:(k:Int)<(l.length:Int):=by omega
     have HXR:=Lib.hid hxr
     clear hx wx hxr p0 p1
     cases hbb:bGet on' (p:Int)
     ·rw[hbb] at cD
      have us:Upd (fun j=>j=E) wr (wr.setCell ⟨E,p,none⟩ (.bool true)):=(Upd.refl (fun j=>j=E) _).setCell (p:=⟨E,p,none⟩) rfl _
      have hW5:=HR.out.win.upd us (fun j hj e=>by have:=(HR.out.win.lt j hj).1;omega)
      have r5:=ds_set (m:=p) HR.out.row true
      have b5:Below w.heap.size w (wr.setCell ⟨E,p,none⟩ (.bool true)):=HR.out.bel.setCell (p:=⟨E,p,none⟩) hEle _
      have HN5:Hid (RIn L L.length a (m:Int) (k+1) (on'.set p true) (wt'++ [(p:Int)])):=by
       have:=HR.out.st.new HT.out h0 HXR.out
       rwa [Int.toNat_natCast] at this
      have HNY:Hid (notYet (on'.set p true)<notYet on'):=by
       have:=notYet_set (ds:=on') (n:=(p:Int)) (by omega) (by omega) hbb
       rwa [Int.toNat_natCast] at this
      have hbs:=HR.out.bel.size
      have hEs:=HR.out.row.lt
      clear hbb
      go_upto_region 13 with (fail)
      clear cD fD
      generalize wr.setCell ⟨E,p,none⟩ (.bool true)=w5 at*
      have hb13:Below w5.heap.size w5 (w5.alloc (.cells #[.int .i64 (p:Int)] 3)):=bE
      have hl13:wt'.length<1000000:=by have:=HR.out.len;omega
      have h5s:=b5.size
      have hE5:=r5.lt
      have hW5a:=hW5.upd (X:=fun _=>False) (Upd.of_below hb13) (fun _ _ e=>e.elim)
      have r5a:=r5.below hb13 hE5
      have HW5:=Lib.hid hW5a
      have HR5:=Lib.hid r5a
      have HB5:=Lib.hid (b5.trans (hb13.mono h5s))
      have HLT:=Lib.hid (fun j hj=>(hW5a.lt j hj).1)
      clear hW5 r5 b5 us hb13 hW5a r5a
      go_wp2_with (at_builtin;refine wpList_append_wini rfl _ _ rfl (E+1) wt' (p:Int) _ rfl HW5.out w5.heap.size rfl (by simp) hl13 (by first|omega|(simp;omega)) ?_;intro v13 w13 hW13 hg13)
      have hu13:=own_up hg13
      have HN6:Hid (RcIn w w13 L a (m:Int) E (2*notYet on+(wt.length+1)) (k+1) v13 (on'.set p true) (wt'++ [(p:Int)])):=by
       have h1:=HNY.out
       have h2:=HR.out.len
       have h3:=HR.out.mu
       exact ⟨HN5.out,hu13.row HR5.out (fun e=>by have:=HLT.out _ e;omega),hW13,HB5.out.trans (hu13.below (fun j e=>by have:=HLT.out _ e;omega) (by first|omega|(simp;omega))),by rw[List.length_append];simp only[List.length_cons,List.length_nil];omega,by rw[List.length_append];simp only[List.length_cons,List.length_nil];omega⟩
      clear HW5 HR5 HB5 HLT hW13 hg13 hu13 HR
      go_wp2_with fail
      go_roundw
      case rel=>exact ⟨k+1,_,_,by omega,by go_num,HN6⟩
      case measure=>simp[intOf];omega
     ·rw[hbb] at cD
      have HN5:Hid (RcIn w wr L a (m:Int) E (2*notYet on+(wt.length+1)) (k+1) u6 on' wt'):=⟨HR.out.st.old HXR.out hbb,HR.out.row,HR.out.win,HR.out.bel,HR.out.len,HR.out.mu⟩
      clear hbb HR
      go_wp2_with fail
      go_roundw
      case rel=>exact ⟨k+1,on',wt',by omega,by go_num,HN5⟩
      case measure=>simp[intOf];omega
end Go.Proofs.YtdkgkacnjdnpoaaGreat.Q
