/-
  norm's maker in memory; its small methods. norm's maker: wire, act, cell, keep.
-/
import Derived.Lib.AppendIntMem
import Derived.Test.YtckognjamlckcaaGreatDoorOrdB
set_option maxHeartbeats 4000000
set_option maxRecDepth 100000
namespace Go.Proofs.YtckognjamlckcaaGreatDoor
open Go.RowKit Vf Fo
attribute [local go_sem ↓] Go.wp_at_zero Go.wp_at_succ
structure dH where
 vw:Value
 va:Value
 vc:Value
 vk:Value
 P:Nat
def dP (q:dH) (k:Nat):Prop:=q.vw.ownBlock=some k\/q.va.ownBlock=some k\/q.vc.ownBlock=some k\/q.vk.ownBlock=some k\/k=q.P
def cF (D:Nat) (q:dH) (W:World) (v:Value) (c:List Gd):Prop:=
 ∃A cap,v= .slice A c.length cap/\c.length<=cap/\cap<=maxLen/\Sl W W.heap.size 2 aW A c/\(0<c.length->∀a,A=some a->a.block≠D/\¬dP q a.block)
structure aB (D:Nat) (q:dH) (W:World) (q':dH) (W':World):Prop where
 upd:ae (fun k=>k=D\/dP q k) W W'
 own:∀k,dP q' k->dP q k\/W.heap.size<=k
def mZ (D:Nat) (q:dH) (W:World) (x:Wr) (cs:List Value):Prop:=∃v,cs=[.int .i64 x.ty,v]/\Wf x.ty/\cF D q W v x.clock
def wU (x:Int × Int):List Value:=[.int .i64 x.1,.int .i64 x.2]
def tq (l:List (Int × Int)):List Value:=(l.map wU).flatten
section
variable {D:Nat} {q q' q2:dH} {W W' W2:World} {v:Value} {c:List Gd}
theorem aB.refl (D:Nat) (q:dH) (W:World):aB D q W q W:=⟨ae.refl _ _,fun _ h=> .inl h⟩
theorem aB.trans (h:aB D q W q' W') (h':aB D q' W' q2 W2):aB D q W q2 W2:=
 ⟨h.upd.trans_new h'.upd (fun i hi g=>g.imp id (fun g=>(h.own i g).resolve_right (by omega))),fun k hk=>by
  rcases h'.own k hk with g|g
  ·exact h.own k g
  ·exact .inr (Nat.le_trans h.upd.size g)⟩
theorem aB.of_below (h:Below W.heap.size W W'):aB D q W q W':=⟨ae.of_below h,fun _ h=> .inl h⟩
theorem aB.row {b:Nat} {cs:Array Value} {t:TypeId} (h:aB D q W q' W') (r:ai W b cs t) (hD:b≠D) (hq:¬dP q b):ai W' b cs t:=h.upd.row r (fun g=>g.elim hD hq)
theorem aB.not {b:Nat} (h:aB D q W q' W') (hb:b<W.heap.size) (hq:¬dP q b):¬dP q' b:=fun g=>(h.own b g).elim hq (fun g=>by omega)
theorem mK {α:Type} {B B' size b off:Nat} {rel:α->List Value->Prop} {l:List α} (h:Sl W B size rel (some ⟨b,off,none⟩) l) (hb:W'.heap[b]? =W.heap[b]?) (hB:b<B'):Sl W' B' size rel (some ⟨b,off,none⟩) l:=fun hl=>by
 obtain ⟨b1,off1,hA,_,hx⟩:=h hl
 injection hA with hA
 injection hA with h1 h2
 subst h1;subst h2
 refine ⟨b,off,rfl,hB,fun i x hi=>?_⟩
 obtain ⟨cs,hc,hr⟩:=hx i x hi
 exact ⟨cs,fun j u hu=>(World.cell?_of_block (a:=⟨b,off+i*size+j,none⟩) hb).trans (hc j u hu),hr⟩
theorem cF.fr (h:cF D q W v c) (m:aB D q W q' W'):cF D q' W' v c:=by
 obtain ⟨A,cap,h1,h2,h3,h4,h5⟩:=h
 refine ⟨A,cap,h1,h2,h3,?_,fun hl a ha=>⟨(h5 hl a ha).1,?_⟩⟩
 ·rcases Nat.eq_zero_or_pos c.length with e|hl
  ·exact fun g=>absurd g (by omega)
  ·obtain ⟨b,off,rfl,hb,hx⟩:=h4 hl
   obtain ⟨g1,g2⟩:=h5 hl _ rfl
   exact mK h4 (m.upd.block b hb (fun g=>g.elim g1 g2)) (Nat.lt_of_lt_of_le hb m.upd.size)
 ·obtain ⟨b,off,rfl,hb,hx⟩:=h4 hl
  cases ha
  exact m.not hb (h5 hl _ rfl).2
theorem mZ.fr {x:Wr} {cs:List Value} (h:mZ D q W x cs) (m:aB D q W q' W'):mZ D q' W' x cs:=by
 obtain ⟨v,h1,h2,h3⟩:=h
 exact ⟨v,h1,h2,h3.fr m⟩
end
structure Kw where
 key:List Gd->ByteArray
 ok:List Gd->Prop
def dh (K:Kw) (W:World) (P:Nat) (l:List (List Gd × Int)):Prop:=
 ∃(n:Nat) (D:DataW Unit),W.ownsMap Tryz.prog 9 (plainElem Tryz.prog 3) P n D/\n<=l.length/\Maps.IsMap D/\∀c,K.ok c->
  Maps.has D (.string (K.key c).data.toList)=((l.find? (fun p=>cB (p.1=c))).map (·.2)).isSome/\D.atKey (.string (K.key c).data.toList) (.lit (.int .i64 0))= .lit (.int .i64 (((l.find? (fun p=>cB (p.1=c))).map (·.2)).getD 0))
theorem dh.lt {K:Kw} {W:World} {P:Nat} {l:List (List Gd × Int)} (h:dh K W P l):P<W.heap.size:=by
 obtain ⟨n,D,h1,_⟩:=h
 exact h1.lt
theorem dh.keep {K:Kw} {W W':World} {P:Nat} {l:List (List Gd × Int)} (h:dh K W P l) (hk:W'.heap[P]? =W.heap[P]?):dh K W' P l:=by
 obtain ⟨n,D,⟨es,clock,h1,h2⟩,h3⟩:=h
 exact ⟨n,D,⟨es,clock,hk.trans h1,h2⟩,h3⟩
theorem dh.map {K:Kw} {W:World} {P:Nat} {l:List (List Gd × Int)} (h:dh K W P l):∃es clock,W.heap[P]? =some (.map es clock):=by
 obtain ⟨n,D,⟨es,clock,h1,h2⟩,h3⟩:=h
 exact ⟨es,clock,h1⟩
theorem jM {W:World} {P b:Nat} {es} {clock} {cs:Array Value} {t:TypeId} (h:W.heap[P]? =some (.map es clock)) (r:ai W b cs t):P≠b:=fun e=>by
 subst e
 have:W.heap[P]? =_:=r
 rw[h] at this
 cases this
theorem gM {W:World} {base s n P:Nat} {e:TypeId} {v:Value} {xs:List Value} {es} {clock} (ho:W.ownsRow base e s v n xs) (h:W.heap[P]? =some (.map es clock)):v.ownBlock≠some P:=fun hk=>by
 rcases ho.2 with ⟨rfl,_⟩|⟨g,c,cur,rfl,_,hh,_⟩
 ·cases hk
 ·cases hk
  rw[hh] at h
  cases h
theorem eH {w:World} {base n m s s':Nat} {e e':TypeId} {v v':Value} {xs ys:List Value} (h:w.ownsRow base e s v n xs) (h':w.ownsRow base e' s' v' m ys) (he:e'≠e):∀k,v.ownBlock=some k->v'.ownBlock≠some k:=fun k hk hq=>by
 rcases h'.2 with ⟨rfl,_⟩|⟨g,c,cur,rfl,_,hh,_⟩
 ·cases hq
 ·cases hq
  have hr:ai w g cur e':=hh
  exact bh h hr he hk
structure aF (K:Kw) (w0:World) (D:Nat) (vi vo:Value) (W:World) (q:dH) (s:Mk):Prop where
 lo:w0.heap.size<=D
 bel:Below w0.heap.size w0 W
 row:ai W D #[q.vw,q.va,q.vc,q.vk,vi,vo,.map (some q.P),.bool s.spent] 82
 ow:∃css,W.ownsRow w0.heap.size 52 2 q.vw s.wires.length css.flatten/\ep (mZ D q W) s.wires css
 oa:W.ownsRow w0.heap.size 58 6 q.va s.acts.length (AU s.acts)
 oc:W.ownsRow w0.heap.size 67 2 q.vc s.cells.length (tq s.cells)
 ok:W.ownsRow w0.heap.size 103 2 q.vk s.keeps.length (tq s.keeps)
 wa:∀a∈s.acts,eP a
 wc:∀c∈s.cells,Wf c.1/\Wf c.2
 wk:∀c∈s.keeps,Wf c.1/\Wf c.2
 mp:dh K W q.P s.first
 hP:w0.heap.size<=q.P
 lw:s.wires.length<=1600
 lc:s.cells.length<=60
 lf:s.first.length<=s.acts.length
section
variable {K:Kw} {w0:World} {D:Nat} {vi vo:Value} {W W':World} {q:dH} {s:Mk}
theorem aF.ownq (h:aF K w0 D vi vo W q s) {k:Nat} (hk:dP q k):w0.heap.size<=k/\k<W.heap.size/\k≠D:=by
 obtain ⟨css,ho,_⟩:=h.ow
 rcases hk with g|g|g|g|g
 ·exact ⟨(ho.lt k g).1,(ho.lt k g).2,fun e=>bh ho h.row (by decide) (e▸g)⟩
 ·exact ⟨(h.oa.lt k g).1,(h.oa.lt k g).2,fun e=>bh h.oa h.row (by decide) (e▸g)⟩
 ·exact ⟨(h.oc.lt k g).1,(h.oc.lt k g).2,fun e=>bh h.oc h.row (by decide) (e▸g)⟩
 ·exact ⟨(h.ok.lt k g).1,(h.ok.lt k g).2,fun e=>bh h.ok h.row (by decide) (e▸g)⟩
 ·subst g
  obtain ⟨es,clock,hm⟩:=h.mp.map
  exact ⟨h.hP,h.mp.lt,jM hm h.row⟩
theorem aF.cells (h:aF K w0 D vi vo W q s):W.cell? ⟨D,0,none⟩=some q.vw/\W.cell? ⟨D,1,none⟩=some q.va/\W.cell? ⟨D,2,none⟩=some q.vc/\W.cell? ⟨D,3,none⟩=some q.vk/\W.cell? ⟨D,4,none⟩=some vi/\W.cell? ⟨D,5,none⟩=some vo/\W.cell? ⟨D,6,none⟩=some (.map (some q.P))/\W.cell? ⟨D,7,none⟩=some (.bool s.spent):=
 ⟨(h.row.cell 0).trans rfl,(h.row.cell 1).trans rfl,(h.row.cell 2).trans rfl,(h.row.cell 3).trans rfl,(h.row.cell 4).trans rfl,(h.row.cell 5).trans rfl,(h.row.cell 6).trans rfl,(h.row.cell 7).trans rfl⟩
theorem aF.below (h:aF K w0 D vi vo W q s) (hb:Below W.heap.size W W'):aF K w0 D vi vo W' q s:=by
 have hs:=h.bel.size
 obtain ⟨css,ho,ha⟩:=h.ow
 have m:aB D q W q W':=aB.of_below hb
 exact ⟨h.lo,h.bel.trans (hb.mono hs),h.row.below hb h.row.lt,⟨css,aG ho hb,ha.mono (fun _ _ _ g=>g.fr m)⟩,aG h.oa hb,aG h.oc hb,aG h.ok hb,h.wa,h.wc,h.wk,h.mp.keep (hb.block _ h.mp.lt),h.hP,h.lw,h.lc,h.lf⟩
theorem aF.fresh (h:aF K w0 D vi vo W q s) {v:Value} {c:List Gd} (ho:W'.ownsRow W.heap.size 61 2 v c.length (c.map fk).flatten) (hw:∀g∈c,Wf g.wire):cF D q W' v c:=by
 obtain ⟨⟨A,cap,hv,h1,h2,h3⟩,_⟩:=fV (rel:=aW) (l:=c) ho (ep.map (f:=fk) (fun g hg=>⟨rfl,hw g hg⟩)) (fun cs hcs=>by obtain ⟨x,_,rfl⟩:=List.mem_map.1 hcs;rfl) (by omega)
 refine ⟨A,cap,hv,h1,h2,h3,fun hl a ha=>?_⟩
 rcases ho.2 with ⟨h0,_⟩|⟨g,cap',cur,h0,_,_⟩
 ·rw[h0] at hv
  injection hv with hv
  rw[<-hv] at ha
  cases ha
 ·rw[h0] at hv
  injection hv with hv
  rw[<-hv] at ha
  cases ha
  exact ⟨fun e=>by have:=h.row.lt;dsimp only at e;omega,fun k=>by have:=(h.ownq k).2.1;dsimp only at this;omega⟩
theorem aF.spend (h:aF K w0 D vi vo W q s):aF K w0 D vi vo (W.setCell ⟨D,7,none⟩ (.bool true)) q {s with spent:=true}/\aB D q W q (W.setCell ⟨D,7,none⟩ (.bool true)):=by
 have u:ae (fun k=>k=D) W (W.setCell ⟨D,7,none⟩ (.bool true)):=ae.setCell (X:=fun k=>k=D) (p:=⟨D,7,none⟩) (ae.refl _ _) rfl _
 have m:aB D q W q (W.setCell ⟨D,7,none⟩ (.bool true)):=⟨u.mono (fun k e=> .inl e),fun _ g=> .inl g⟩
 have hs:=h.bel.size
 obtain ⟨css,ho,ha⟩:=h.ow
 have hne:∀k,dP q k->k≠D:=fun k hk=>(h.ownq hk).2.2
 refine ⟨⟨h.lo,h.bel.trans (u.below (fun k e=>by rw[e];exact h.lo) hs),?_,⟨css,aN ho u (fun k hk=>hne k (.inl hk)),ha.mono (fun _ _ _ g=>g.fr m)⟩,aN h.oa u (fun k hk=>hne k (.inr (.inl hk))),aN h.oc u (fun k hk=>hne k (.inr (.inr (.inl hk)))),aN h.ok u (fun k hk=>hne k (.inr (.inr (.inr (.inl hk))))),h.wa,h.wc,h.wk,h.mp.keep (u.block _ h.mp.lt (hne _ (.inr (.inr (.inr (.inr rfl)))))),h.hP,h.lw,h.lc,h.lf⟩,m⟩
 have:=h.row.set 7 (.bool true)
 simpa using this
theorem zm {X:Nat->Prop} {Wa W15:World} {row:Option Nat} {i:Nat} {u:Value} (hb:Below W.heap.size W Wa) (hg:Wa.grownBy W15 row) (hr:∀k,row=some k->X k) (hD:X D):ae X W (W15.setCell ⟨D,i,none⟩ u):=
 ae.setCell (X:=X) (p:=⟨D,i,none⟩) ((ae.of_below hb).trans ⟨hg.os,hg.tape,hg.output,hg.size,fun k hk hX=>hg.block k hk (fun e=>hX (hr k e.symm))⟩) hD u
theorem aF.grown {Wa W15:World} {v v15:Value} {i:Nat} (h:aF K w0 D vi vo W q s) (hb:Below W.heap.size W Wa) (hg:Wa.grownBy W15 v.ownBlock) (hv:∀k,v.ownBlock=some k->dP q k):
  ae (fun k=>k=D\/v.ownBlock=some k) W (W15.setCell ⟨D,i,none⟩ v15)/\Below w0.heap.size w0 (W15.setCell ⟨D,i,none⟩ v15)/\ai W15 D #[q.vw,q.va,q.vc,q.vk,vi,vo,.map (some q.P),.bool s.spent] 82:=by
 have u:ae (fun k=>k=D\/v.ownBlock=some k) W (W15.setCell ⟨D,i,none⟩ v15):=zm hb hg (fun _ e=> .inr e) (.inl rfl)
 refine ⟨u,h.bel.trans (u.below (fun _ e=>?_) h.bel.size),?_⟩
 ·rcases e with e|e
  ·rw[e];exact h.lo
  ·exact (h.ownq (hv _ e)).1
 ·exact (h.row.below hb h.row.lt).grownE hg (fun e=>(h.ownq (hv D e)).2.2 rfl)
theorem kQ {W15:World} {i base sz n:Nat} {e t:TypeId} {v15:Value} {xs:List Value} {cs:Array Value} (ho:W15.ownsRow base e sz v15 n xs) (r:ai W15 D cs t) (ht:t≠e):(W15.setCell ⟨D,i,none⟩ v15).ownsRow base e sz v15 n xs:=
 aN ho (ae.setCell (X:=fun k=>k=D) (p:=⟨D,i,none⟩) (ae.refl _ W15) rfl v15) (fun _ hk e=>bh ho r ht (e▸hk))
theorem kj {v v15:Value} {Wa:World} (hb:Below W.heap.size W Wa) (hv:v15.ownBlock=v.ownBlock\/v15.ownBlock=some Wa.heap.size) {k:Nat} (hk:v15.ownBlock=some k):v.ownBlock=some k\/W.heap.size<=k:=by
 rcases hv with g|g
 ·exact .inl (g▸hk)
 ·rw[g] at hk
  injection hk with hk
  exact .inr (by rw[<-hk];exact hb.size)
theorem aF.addW {Wa W15:World} {v15 vx:Value} {ty:Int} {c:List Gd} (h:aF K w0 D vi vo W q s) (hb:Below W.heap.size W Wa) {css:List (List Value)} (ho:W.ownsRow w0.heap.size 52 2 q.vw s.wires.length css.flatten) (ha:ep (mZ D q W) s.wires css)
  (ho15:W15.ownsRow w0.heap.size 52 2 v15 (s.wires.length+1) (css.flatten++ [.int .i64 ty,vx])) (hg:Wa.grownBy W15 q.vw.ownBlock) (hv:v15.ownBlock=q.vw.ownBlock\/v15.ownBlock=some Wa.heap.size) (hc:cF D q W vx c) (hty:Wf ty) (hl:s.wires.length<1600):
  aF K w0 D vi vo (W15.setCell ⟨D,0,none⟩ v15) {q with vw:=v15} {s with wires:=s.wires++ [⟨ty,c⟩]}/\aB D q W {q with vw:=v15} (W15.setCell ⟨D,0,none⟩ v15):=by
 obtain ⟨u,hbel,r15⟩:=h.grown (i:=0) (v15:=v15) hb hg (fun k hk=> .inl hk)
 have hn:∀k,dP {q with vw:=v15} k->dP q k\/W.heap.size<=k:=fun k hk=>by
  rcases hk with g|g
  ·exact (kj hb hv g).imp (fun g=> .inl g) id
  ·exact .inl (.inr g)
 have m:aB D q W {q with vw:=v15} (W15.setCell ⟨D,0,none⟩ v15):=⟨u.mono (fun k e=>e.imp id (fun g=> .inl g)),hn⟩
 have hD:∀{sz n:Nat} {e:TypeId} {v:Value} {xs:List Value},W.ownsRow w0.heap.size e sz v n xs->82≠e->e≠52->(W15.setCell ⟨D,0,none⟩ v15).ownsRow w0.heap.size e sz v n xs:=fun hv h1 h2=>aN hv u (fun k hk e=>e.elim (fun e=>bh hv h.row h1 (e▸hk)) (fun e=>eH ho hv h2 k e hk))
 refine ⟨⟨h.lo,hbel,?_,⟨css++ [[.int .i64 ty,vx]],?_,?_⟩,hD h.oa (by decide) (by decide),hD h.oc (by decide) (by decide),hD h.ok (by decide) (by decide),h.wa,h.wc,h.wk,?_,h.hP,?_,h.lc,h.lf⟩,m⟩
 ·have:=r15.set 0 v15
  simpa using this
 ·have:=kQ (i:=0) ho15 r15 (by decide)
  simpa using this
 ·exact (ha.mono (fun _ _ _ g=>g.fr m)).append (ep.one ⟨vx,rfl,hty,hc.fr m⟩)
 ·obtain ⟨es,clock,hm⟩:=h.mp.map
  exact h.mp.keep (u.block _ h.mp.lt (fun e=>e.elim (fun e=>jM hm h.row e) (fun e=>gM ho hm e)))
 ·simp;omega
theorem aF.addA {Wa W15:World} {v15:Value} {a:Ac} (h:aF K w0 D vi vo W q s) (hb:Below W.heap.size W Wa)
  (ho15:W15.ownsRow w0.heap.size 58 6 v15 (s.acts.length+1) (AU s.acts++Dl a)) (hg:Wa.grownBy W15 q.va.ownBlock) (hv:v15.ownBlock=q.va.ownBlock\/v15.ownBlock=some Wa.heap.size) (hi:eP a):
  aF K w0 D vi vo (W15.setCell ⟨D,1,none⟩ v15) {q with va:=v15} (s.act a)/\aB D q W {q with va:=v15} (W15.setCell ⟨D,1,none⟩ v15):=by
 obtain ⟨u,hbel,r15⟩:=h.grown (i:=1) (v15:=v15) hb hg (fun k hk=> .inr (.inl hk))
 obtain ⟨css,how,ha⟩:=h.ow
 have hn:∀k,dP {q with va:=v15} k->dP q k\/W.heap.size<=k:=fun k hk=>by
  rcases hk with g|g|g
  ·exact .inl (.inl g)
  ·exact (kj hb hv g).imp (fun g=> .inr (.inl g)) id
  ·exact .inl (.inr (.inr g))
 have m:aB D q W {q with va:=v15} (W15.setCell ⟨D,1,none⟩ v15):=⟨u.mono (fun k e=>e.imp id (fun g=> .inr (.inl g))),hn⟩
 have hD:∀{sz n:Nat} {e:TypeId} {v:Value} {xs:List Value},W.ownsRow w0.heap.size e sz v n xs->82≠e->e≠58->(W15.setCell ⟨D,1,none⟩ v15).ownsRow w0.heap.size e sz v n xs:=fun hv h1 h2=>aN hv u (fun k hk e=>e.elim (fun e=>bh hv h.row h1 (e▸hk)) (fun e=>eH h.oa hv h2 k e hk))
 refine ⟨⟨h.lo,hbel,?_,⟨css,hD how (by decide) (by decide),ha.mono (fun _ _ _ g=>g.fr m)⟩,?_,hD h.oc (by decide) (by decide),hD h.ok (by decide) (by decide),?_,h.wc,h.wk,?_,h.hP,h.lw,h.lc,by have:=h.lf;simp[Mk.act];omega⟩,m⟩
 ·have:=r15.set 1 v15
  simpa[Mk.act] using this
 ·have:=kQ (i:=1) ho15 r15 (by decide)
  simpa[Mk.act,AU] using this
 ·intro x hx
  rcases List.mem_append.1 hx with g|g
  ·exact h.wa x g
  ·rw[List.mem_singleton.1 g];exact hi
 ·obtain ⟨es,clock,hm⟩:=h.mp.map
  exact h.mp.keep (u.block _ h.mp.lt (fun e=>e.elim (fun e=>jM hm h.row e) (fun e=>gM h.oa hm e)))
theorem aF.addC {Wa W15:World} {v15:Value} {x:Int × Int} (h:aF K w0 D vi vo W q s) (hb:Below W.heap.size W Wa)
  (ho15:W15.ownsRow w0.heap.size 67 2 v15 (s.cells.length+1) (tq s.cells++wU x)) (hg:Wa.grownBy W15 q.vc.ownBlock) (hv:v15.ownBlock=q.vc.ownBlock\/v15.ownBlock=some Wa.heap.size) (hi:Wf x.1/\Wf x.2) (hl:s.cells.length<60):
  aF K w0 D vi vo (W15.setCell ⟨D,2,none⟩ v15) {q with vc:=v15} {s with cells:=s.cells++ [x]}/\aB D q W {q with vc:=v15} (W15.setCell ⟨D,2,none⟩ v15):=by
 obtain ⟨u,hbel,r15⟩:=h.grown (i:=2) (v15:=v15) hb hg (fun k hk=> .inr (.inr (.inl hk)))
 obtain ⟨css,how,ha⟩:=h.ow
 have hn:∀k,dP {q with vc:=v15} k->dP q k\/W.heap.size<=k:=fun k hk=>by
  rcases hk with g|g|g|g
  ·exact .inl (.inl g)
  ·exact .inl (.inr (.inl g))
  ·exact (kj hb hv g).imp (fun g=> .inr (.inr (.inl g))) id
  ·exact .inl (.inr (.inr (.inr g)))
 have m:aB D q W {q with vc:=v15} (W15.setCell ⟨D,2,none⟩ v15):=⟨u.mono (fun k e=>e.imp id (fun g=> .inr (.inr (.inl g)))),hn⟩
 have hD:∀{sz n:Nat} {e:TypeId} {v:Value} {xs:List Value},W.ownsRow w0.heap.size e sz v n xs->82≠e->e≠67->(W15.setCell ⟨D,2,none⟩ v15).ownsRow w0.heap.size e sz v n xs:=fun hv h1 h2=>aN hv u (fun k hk e=>e.elim (fun e=>bh hv h.row h1 (e▸hk)) (fun e=>eH h.oc hv h2 k e hk))
 refine ⟨⟨h.lo,hbel,?_,⟨css,hD how (by decide) (by decide),ha.mono (fun _ _ _ g=>g.fr m)⟩,hD h.oa (by decide) (by decide),?_,hD h.ok (by decide) (by decide),h.wa,?_,h.wk,?_,h.hP,h.lw,by simp;omega,h.lf⟩,m⟩
 ·have:=r15.set 2 v15
  simpa using this
 ·have:=kQ (i:=2) ho15 r15 (by decide)
  simpa[tq] using this
 ·intro y hy
  rcases List.mem_append.1 hy with g|g
  ·exact h.wc y g
  ·rw[List.mem_singleton.1 g];exact hi
 ·obtain ⟨es,clock,hm⟩:=h.mp.map
  exact h.mp.keep (u.block _ h.mp.lt (fun e=>e.elim (fun e=>jM hm h.row e) (fun e=>gM h.oc hm e)))
theorem aF.addK {Wa W15:World} {v15:Value} {x:Int × Int} (h:aF K w0 D vi vo W q s) (hb:Below W.heap.size W Wa)
  (ho15:W15.ownsRow w0.heap.size 103 2 v15 (s.keeps.length+1) (tq s.keeps++wU x)) (hg:Wa.grownBy W15 q.vk.ownBlock) (hv:v15.ownBlock=q.vk.ownBlock\/v15.ownBlock=some Wa.heap.size) (hi:Wf x.1/\Wf x.2):
  aF K w0 D vi vo (W15.setCell ⟨D,3,none⟩ v15) {q with vk:=v15} {s with keeps:=s.keeps++ [x]}/\aB D q W {q with vk:=v15} (W15.setCell ⟨D,3,none⟩ v15):=by
 obtain ⟨u,hbel,r15⟩:=h.grown (i:=3) (v15:=v15) hb hg (fun k hk=> .inr (.inr (.inr (.inl hk))))
 obtain ⟨css,how,ha⟩:=h.ow
 have hn:∀k,dP {q with vk:=v15} k->dP q k\/W.heap.size<=k:=fun k hk=>by
  rcases hk with g|g|g|g|g
  ·exact .inl (.inl g)
  ·exact .inl (.inr (.inl g))
  ·exact .inl (.inr (.inr (.inl g)))
  ·exact (kj hb hv g).imp (fun g=> .inr (.inr (.inr (.inl g)))) id
  ·exact .inl (.inr (.inr (.inr (.inr g))))
 have m:aB D q W {q with vk:=v15} (W15.setCell ⟨D,3,none⟩ v15):=⟨u.mono (fun k e=>e.imp id (fun g=> .inr (.inr (.inr (.inl g))))),hn⟩
 have hD:∀{sz n:Nat} {e:TypeId} {v:Value} {xs:List Value},W.ownsRow w0.heap.size e sz v n xs->82≠e->e≠103->(W15.setCell ⟨D,3,none⟩ v15).ownsRow w0.heap.size e sz v n xs:=fun hv h1 h2=>aN hv u (fun k hk e=>e.elim (fun e=>bh hv h.row h1 (e▸hk)) (fun e=>eH h.ok hv h2 k e hk))
 refine ⟨⟨h.lo,hbel,?_,⟨css,hD how (by decide) (by decide),ha.mono (fun _ _ _ g=>g.fr m)⟩,hD h.oa (by decide) (by decide),hD h.oc (by decide) (by decide),?_,h.wa,h.wc,?_,?_,h.hP,h.lw,h.lc,h.lf⟩,m⟩
 ·have:=r15.set 3 v15
  simpa using this
 ·have:=kQ (i:=3) ho15 r15 (by decide)
  simpa[tq] using this
 ·intro y hy
  rcases List.mem_append.1 hy with g|g
  ·exact h.wk y g
  ·rw[List.mem_singleton.1 g];exact hi
 ·obtain ⟨es,clock,hm⟩:=h.mp.map
  exact h.mp.keep (u.block _ h.mp.lt (fun e=>e.elim (fun e=>jM hm h.row e) (fun e=>gM h.ok hm e)))
end
theorem wQ {P:Program} {o:Oper} {a:Act} {w:World} {K:Act->World->Prop} {Q:Exit->Act->World->Prop} (s x:Operand) (t:TypeId) (ho:o.op= .call {callee:= .builtin .append,args:= #[s,x],argTypes:= #[t,t]})
  (base:Nat) (e:TypeId) (i:TypeInfo) (z:Value) (size bytes:Nat) (ht:P.underlying t=some (.slice e)) (hi:P.info? e=some i) (hz:i.zero=some z)
  (hsize:i.size=size) (hby:i.bytes=bytes) (hzs:z.cells.size=size) (hsz:0<size)
  (v:Value) (n:Nat) (xs:List Value) (hs:a.eval s=v) (hown:w.ownsRow base e size v n xs)
  (ad:Addr) (m c:Nat) (news:List Value) (hx:a.eval x= .slice (some ad) m c) (hl:news.length=m*size) (hnews:∀j u,news[j]? =some u->w.cell? (ad.add j)=some u) (h1:∀u∈news,u.oneCell'=true)
  (h63:n+m<=maxLen) (hbytes:(n+m)*bytes<=140737488355328) (hbase:base<=w.heap.size)
  (h:∀v' w',w'.ownsRow base e size v' (n+m) (xs++news)->w.grownBy w' v.ownBlock->(v'.ownBlock=v.ownBlock\/v'.ownBlock=some w.heap.size)->K (a.put o.dst v') w'):Oper.wp P o a w K Q:=by
 obtain ⟨v',w',hr,h2,h3,_,h5⟩:=run_append_own_at (P:=P) (w:=w) base t o.type e i z size bytes ht hi hz hsize hby hzs hsz v n xs hown ad m c news hl hnews h1 h63 hbytes hbase
 refine' zq296
theorem zo:(Tryz.prog.info? 58).map (fun i=>(i.zero,i.size,i.bytes))=some (some (.agg #[.int .i64 0,.int .i64 0,.int .i64 0,.int .i64 0,.int .i64 0,.int .i64 0]),6,48):=by kernel_rfl
theorem qK:(Tryz.prog.info? 52).map (fun i=>(i.zero,i.size,i.bytes))=some (some (.agg #[.int .i64 0,.slice none 0 0]),2,32):=by kernel_rfl
theorem zY:(Tryz.prog.info? 67).map (fun i=>(i.zero,i.size,i.bytes))=some (some (.agg #[.int .i64 0,.int .i64 0]),2,16):=by kernel_rfl
theorem yh:(Tryz.prog.info? 103).map (fun i=>(i.zero,i.size,i.bytes))=some (some (.agg #[.int .i64 0,.int .i64 0]),2,16):=by kernel_rfl
section
variable {K:Kw} {w0:World} {D:Nat} {vi vo:Value} {W:World} {q:dH} {s:Mk}
def cN (K:Kw) (w0:World) (D:Nat) (vi vo:Value) (q:dH) (W:World) (s:Mk) (w':World):Prop:=∃q',aF K w0 D vi vo w' q' s/\aB D q W q' w'
theorem eY (h:aF K w0 D vi vo W q s) (x:Ac) (hi:eP x) (hl:s.acts.length<=1000000000):
  Calls Tryz.prog 41 #[.pointer (some ⟨D,0,none⟩),fT x] W fun r w'=>r= .returned (.int .i64 x.dst)/\cN K w0 D vi vo q W (s.act x) w':=by
 obtain ⟨i0,hi0,hz0,hz1,hz2⟩:=info_parts zo
 obtain ⟨vw,va,vc,vk,P⟩:=q
 obtain ⟨A,c,hva,hnil,_⟩:=bH h.oa
 dsimp only at hva
 subst hva
 have hB:=h.bel.size
 have hlo:=h.lo
 have hDl:=h.row.lt
 obtain ⟨d0,d1,d2,d3,d4,d5,d6,d7⟩:=h.cells
 dsimp only at d0 d1 d2 d3 d6
 obtain ⟨op,dst,a,b,c',k⟩:=x
 have b1:Below W.heap.size W (W.alloc (.cells #[.int .i64 op,.int .i64 dst,.int .i64 a,.int .i64 b,.int .i64 c',.int .i64 k] 58)):=bE
 have r1:=ai.new W #[.int .i64 op,.int .i64 dst,.int .i64 a,.int .i64 b,.int .i64 c',.int .i64 k] 58
 have HH:=zH h
 have HI:=zH hi
 have HNW:Hid (¬dP ⟨vw,.slice A s.acts.length c,vc,vk,P⟩ W.heap.size):=fun g=>by have:=(h.ownq g).2.1;omega
 clear h hi
 have HOA:=zH (fun W' (hW:Below W.heap.size W W')=>aG HH.o.oa hW)
 have HBX:=zH (fun k (hk:(Value.slice A s.acts.length c).ownBlock=some k)=>(HH.o.oa.lt k hk).2)
 have HAD:=zH (fun Wa W15 v15 (hb:Below W.heap.size W Wa) h1 h2 h3=>HH.o.addA (a:=⟨op,dst,a,b,c',k⟩) (Wa:=Wa) (W15:=W15) (v15:=v15) hb h1 h2 h3 HI.o)
 have HRD:=zH (fun Wa W15 (hb:Below W.heap.size W Wa) (hg:Wa.grownBy W15 (Value.slice A s.acts.length c).ownBlock)=>(HH.o.grown (i:=1) (v15:=undef) hb hg (fun k hk=> .inr (.inl hk))).2.2)
 go_enter Tryz.func41,Tryz.ntmps41
 go_upto_region 1 with (fail)
 generalize W.alloc (.cells #[.int .i64 op,.int .i64 dst,.int .i64 a,.int .i64 b,.int .i64 c',.int .i64 k] 58)=w1 at*
 have hs1:=b1.size
 have h1l:=r1.lt
 generalize hbx:W.heap.size=bx at*
 have HK:Hid (∀W',Below w1.heap.size w1 W'->W'.cell? ⟨D,1,none⟩=some (.slice A s.acts.length c)/\(W'.cell? ⟨bx,0,none⟩=some (.int .i64 op)/\W'.cell? ⟨bx,1,none⟩=some (.int .i64 dst)/\W'.cell? ⟨bx,2,none⟩=some (.int .i64 a)/\W'.cell? ⟨bx,3,none⟩=some (.int .i64 b)/\W'.cell? ⟨bx,4,none⟩=some (.int .i64 c')/\W'.cell? ⟨bx,5,none⟩=some (.int .i64 k))):=fun W' hW=>
  ⟨((b1.trans (hW.mono hs1)).cell (p:=⟨D,1,none⟩) (by dsimp only;omega)).trans d1,(r1.below hW r1.lt).six'⟩
 clear d0 d1 d2 d3 d4 d5 d6 d7
 refine eN 12 (S:=fun W=>W.cell? ⟨D,1,none⟩=some (.slice A s.acts.length c)/\(W.cell? ⟨bx,0,none⟩=some (.int .i64 op)/\W.cell? ⟨bx,1,none⟩=some (.int .i64 dst)/\W.cell? ⟨bx,2,none⟩=some (.int .i64 a)/\W.cell? ⟨bx,3,none⟩=some (.int .i64 b)/\W.cell? ⟨bx,4,none⟩=some (.int .i64 c')/\W.cell? ⟨bx,5,none⟩=some (.int .i64 k))) (by kernel_rfl) ?_ (fun hHeld=>?_)
 ·refine' zq63
 refine cf 0 (some 5) rfl ?_
 refine cf 1 (some 6) rfl ?_
 refine cf 2 (some 7) rfl ?_
 refine cf 3 (some 8) rfl ?_
 refine cf 4 (some 9) rfl ?_
 refine cf 5 (some 10) rfl ?_
 refine cf 6 (some 11) rfl ?_
 refine eD 7 (some 12) rfl (fun KK hKK=>?_)
 go_simp
 refine' zq41
 refine eD 8 (some 13) rfl (fun KK hKK=>?_)
 (rw[if_pos (by kernel_rfl)];refine wQ (.tmp 10) (.tmp 12) 23 rfl w0.heap.size 58 i0 (.agg #[.int .i64 0,.int .i64 0,.int .i64 0,.int .i64 0,.int .i64 0,.int .i64 0]) 6 48 Tryz.underlying23 hi0 hz0 hz1 hz2 rfl (by decide) _ s.acts.length (AU s.acts) rfl (HOA.o _ (b1.trans (Below.mono (bE:Below w1.heap.size w1 _) hs1))) ⟨_,0,none⟩ 1 1 [.int .i64 op,.int .i64 dst,.int .i64 a,.int .i64 b,.int .i64 c',.int .i64 k] rfl rfl (cA _ _ _) (by intro u hu;simp at hu;rcases hu with rfl|rfl|rfl|rfl|rfl|rfl<;>rfl) (by unfold maxLen;omega) (by omega) (by first|omega|(simp;omega)) ?_;intro v13 w13 hown13 hg13 hv13;(have HA13:=zH (HAD.o _ w13 v13 (b1.trans (Below.mono (bE:Below w1.heap.size w1 _) hs1)) hown13 hg13 hv13));(have rD13:=HRD.o _ w13 (b1.trans (Below.mono (bE:Below w1.heap.size w1 _) hs1)) hg13);(have rX13:=(r1.below (bE:Below w1.heap.size w1 _) r1.lt).grownE hg13 (fun e=>by have:=HBX.o _ e;omega));(have q13:=rD13.cell 1);(have z13:=rD13.frozen 1);(have l13:=rD13.lt);(simp only[List.getElem?_toArray,List.getElem?_cons_zero,List.getElem?_cons_succ] at q13);(have HS13:=zH (And.intro q13 rX13.six'));(obtain ⟨A13,c13,hv13',_⟩:=bH hown13);subst hv13')
 refine' zq41
 refine eD 9 (some 14) rfl (fun KK hKK=>?_)
 go_simp
 refine' zq41
 refine eD 10 (some 15) rfl (fun KK hKK=>?_)
 go_simp
 refine' zq41
 refine eD 11 (some 16) rfl (fun KK hKK=>?_)
 go_simp
 refine' zq41
 refine' zq89
 obtain ⟨e0,e1,e2,e3,e4,e5⟩:=(rX13.far (p:=⟨D,1,none⟩) (by dsimp only;omega) (.slice A13 (s.acts.length+1) c13)).six'
 clear hown13 hg13 hv13 HS13 rX13 rD13 q13 z13 hHeld HAD HRD HOA HBX HK
 go_wp2_with fail
 go_ret
 exact ⟨rfl,_,HA13.o.1,HA13.o.2⟩
theorem fh (h:aF K w0 D vi vo W q s) (ty:Int) (v:Value) (c:List Gd) (hty:Wf ty) (hc:cF D q W v c):
  Calls Tryz.prog 80 #[.pointer (some ⟨D,0,none⟩),.int .i64 ty,v] W fun r w'=>r= .returned (.int .i64 (s.wire ty c).1)/\cN K w0 D vi vo q W (s.wire ty c).2 w':=by
 obtain ⟨i0,hi0,hz0,hz1,hz2⟩:=info_parts qK
 obtain ⟨vw,va,vc,vk,P⟩:=q
 obtain ⟨css,how,hae⟩:=h.ow
 refine' zq210
 have hlw:=h.lw
 obtain ⟨d0,d1,d2,d3,d4,d5,d6,d7⟩:=h.cells
 have f0:=h.row.frozen 0
 have f7:=h.row.frozen 7
 dsimp only at d0 d1 d2 d3 d6
 obtain ⟨Ac,cc,rfl,lc,mc,sc,nc⟩:=hc
 refine' zq220
 have HC:Hid (cF D ⟨.slice A s.wires.length cw,va,vc,vk,P⟩ W (.slice Ac c.length cc) c):=⟨Ac,cc,rfl,lc,mc,sc,nc⟩
 clear sc nc
 by_cases hfull:1600<=s.wires.length
 ·have HS:=zH h.spend
  have HE:Hid (s.wire ty c=(0,{s with spent:=true})):=if_pos hfull
  have g1:decide ((1600:Int)<=(s.wires.length:Int))=true:=by simp;omega
  have rD:=h.row.set 7 (.bool true)
  clear h how hae hfull
  go_enter Tryz.func80,Tryz.ntmps80
  go_wp2_with fail
  go_ret
  rw[HE.o]
  exact ⟨rfl,_,HS.o⟩
 ·have g1:decide ((1600:Int)<=(s.wires.length:Int))=false:=by simp;omega
  have HE:Hid (s.wire ty c=((s.wires.length:Int),{s with wires:=s.wires++ [⟨ty,c⟩]})):=if_neg hfull
  have hfl:s.wires.length<1600:=by omega
  have b1:Below W.heap.size W (W.alloc (.cells #[.int .i64 ty,.slice Ac c.length cc] 52)):=bE
  have HOW:=zH (aG how b1)
  have HN:=zH (cA W 52 [.int .i64 ty,.slice Ac c.length cc])
  have HAD:=zH (fun W15 v15 h1 h2 h3=>h.addW (Wa:=W.alloc (.cells #[.int .i64 ty,.slice Ac c.length cc] 52)) (W15:=W15) (v15:=v15) (vx:= .slice Ac c.length cc) (ty:=ty) (c:=c) b1 how hae h1 h2 h3 HC.o hty hfl)
  have HRD:=zH (fun W15 (hg:(W.alloc (.cells #[.int .i64 ty,.slice Ac c.length cc] 52)).grownBy W15 (Value.slice A s.wires.length cw).ownBlock)=>(h.grown (i:=0) (v15:=undef) b1 hg (fun k hk=> .inl hk)).2.2)
  clear h how hae hfull
  go_enter Tryz.func80,Tryz.ntmps80
  go_wp2_with (at_builtin;refine wpList_append_own_at _ rfl _ _ 22 rfl w0.heap.size 52 i0 (.agg #[.int .i64 0,.slice none 0 0]) 2 32 Tryz.underlying22 hi0 hz0 hz1 hz2 rfl (by decide) _ _ _ rfl HOW.o ⟨W.heap.size,0,none⟩ 1 1 [.int .i64 ty,.slice Ac c.length cc] rfl ?c0 ?c1 ?c2 ?c3 ?c4 ?c5 ?_)
  all_goals try first|rfl|exact ⟨rfl,rfl⟩|exact HN.o|(intro u hu;simp at hu;rcases hu with rfl|rfl<;>rfl)|(unfold maxLen;omega)|omega|(simp;omega)
  refine' zq225
  have q0:=rD13.cell 0
  have z0:=rD13.frozen 0
  have l13:=rD13.lt
  simp only[List.getElem?_toArray,List.getElem?_cons_zero] at q0
  obtain ⟨A13,c13,hv13',_⟩:=bH hown13
  subst hv13'
  have q9:=(rD13.set 0 (.slice A13 (s.wires.length+1) c13)).cell 0
  simp at q9
  clear hown13 hg13 hv13 rD13 HAD HRD HOW HN
  go_wp2_with fail
  go_ret
  rw[HE.o]
  exact ⟨by simp,_,HA13.o.1,HA13.o.2⟩
theorem nC (h:aF K w0 D vi vo W q s) (ty k:Int) (hty:Wf ty) (hk:Wf k):
  Calls Tryz.prog 104 #[.pointer (some ⟨D,0,none⟩),.int .i64 ty,.int .i64 k] W fun r w'=>r= .returned (.int .i64 (s.cell ty k).1)/\cN K w0 D vi vo q W (s.cell ty k).2 w':=by
 obtain ⟨i0,hi0,hz0,hz1,hz2⟩:=info_parts zY
 obtain ⟨vw,va,vc,vk,P⟩:=q
 have how:=h.oc
 refine' zq210
 have hlc:=h.lc
 obtain ⟨d0,d1,d2,d3,d4,d5,d6,d7⟩:=h.cells
 have f2:=h.row.frozen 2
 have f7:=h.row.frozen 7
 dsimp only at d0 d1 d2 d3 d6
 by_cases hfull:60<=s.cells.length
 ·have HS:=zH h.spend
  have HE:Hid (s.cell ty k=(0,{s with spent:=true})):=if_pos hfull
  have g1:decide ((60:Int)<=(s.cells.length:Int))=true:=by simp;omega
  clear h how hfull
  go_enter Tryz.func104,Tryz.ntmps104
  go_wp2_with fail
  go_ret
  rw[HE.o]
  exact ⟨rfl,_,HS.o⟩
 ·have g1:decide ((60:Int)<=(s.cells.length:Int))=false:=by simp;omega
  have HE:Hid (s.cell ty k=((s.cells.length:Int),{s with cells:=s.cells++ [(ty,k)]})):=if_neg hfull
  have hfl:s.cells.length<60:=by omega
  have b1:Below W.heap.size W (W.alloc (.cells #[.int .i64 ty,.int .i64 k] 67)):=bE
  have HOW:=zH (aG how b1)
  have HN:=zH (cA W 67 [.int .i64 ty,.int .i64 k])
  have HAD:=zH (fun W15 v15 h1 h2 h3=>h.addC (Wa:=W.alloc (.cells #[.int .i64 ty,.int .i64 k] 67)) (W15:=W15) (v15:=v15) (x:=(ty,k)) b1 h1 h2 h3 ⟨hty,hk⟩ hfl)
  have HRD:=zH (fun W15 (hg:(W.alloc (.cells #[.int .i64 ty,.int .i64 k] 67)).grownBy W15 (Value.slice A s.cells.length cw).ownBlock)=>(h.grown (i:=2) (v15:=undef) b1 hg (fun k hk=> .inr (.inr (.inl hk)))).2.2)
  clear h how hfull
  go_enter Tryz.func104,Tryz.ntmps104
  go_wp2_with (at_builtin;refine wpList_append_own_at _ rfl _ _ 24 rfl w0.heap.size 67 i0 (.agg #[.int .i64 0,.int .i64 0]) 2 16 Tryz.underlying24 hi0 hz0 hz1 hz2 rfl (by decide) _ _ _ rfl HOW.o ⟨W.heap.size,0,none⟩ 1 1 [.int .i64 ty,.int .i64 k] rfl ?c0 ?c1 ?c2 ?c3 ?c4 ?c5 ?_)
  all_goals try first|rfl|exact ⟨rfl,rfl⟩|exact HN.o|(intro u hu;simp at hu;rcases hu with rfl|rfl<;>rfl)|(unfold maxLen;omega)|omega|(simp;omega)
  refine' zq225
  have q0:=rD13.cell 2
  have z0:=rD13.frozen 2
  have l13:=rD13.lt
  simp only[List.getElem?_toArray,List.getElem?_cons_zero,List.getElem?_cons_succ] at q0
  obtain ⟨A13,c13,hv13',_⟩:=bH hown13
  subst hv13'
  have q9:=(rD13.set 2 (.slice A13 (s.cells.length+1) c13)).cell 2
  simp at q9
  clear hown13 hg13 hv13 rD13 HAD HRD HOW HN
  go_wp2_with fail
  go_ret
  rw[HE.o]
  exact ⟨by simp,_,HA13.o.1,HA13.o.2⟩
theorem nO (h:aF K w0 D vi vo W q s) (ty k:Int) (hty:Wf ty) (hk:Wf k) (hl:s.keeps.length<=1000000000):
  Calls Tryz.prog 105 #[.pointer (some ⟨D,0,none⟩),.int .i64 ty,.int .i64 k] W fun r w'=>r= .returned (.tuple #[])/\cN K w0 D vi vo q W (s.keep ty k) w':=by
 obtain ⟨i0,hi0,hz0,hz1,hz2⟩:=info_parts yh
 obtain ⟨vw,va,vc,vk,P⟩:=q
 have how:=h.ok
 obtain ⟨A,cw,hva,hnil,_⟩:=bH how
 dsimp only at hva
 subst hva
 have hB:=h.bel.size
 have hlo:=h.lo
 have hDl:=h.row.lt
 obtain ⟨d0,d1,d2,d3,d4,d5,d6,d7⟩:=h.cells
 dsimp only at d0 d1 d2 d3 d6
 have b1:Below W.heap.size W (W.alloc (.cells #[.int .i64 ty,.int .i64 k] 103)):=bE
 have HOW:=zH (aG how b1)
 have HN:=zH (cA W 103 [.int .i64 ty,.int .i64 k])
 have HAD:=zH (fun W15 v15 h1 h2 h3=>h.addK (Wa:=W.alloc (.cells #[.int .i64 ty,.int .i64 k] 103)) (W15:=W15) (v15:=v15) (x:=(ty,k)) b1 h1 h2 h3 ⟨hty,hk⟩)
 have HRD:=zH (fun W15 (hg:(W.alloc (.cells #[.int .i64 ty,.int .i64 k] 103)).grownBy W15 (Value.slice A s.keeps.length cw).ownBlock)=>(h.grown (i:=3) (v15:=undef) b1 hg (fun k hk=> .inr (.inr (.inr (.inl hk))))).2.2)
 clear h how
 go_enter Tryz.func105,Tryz.ntmps105
 go_wp2_with (at_builtin;refine wpList_append_own_at _ rfl _ _ 25 rfl w0.heap.size 103 i0 (.agg #[.int .i64 0,.int .i64 0]) 2 16 Tryz.underlying25 hi0 hz0 hz1 hz2 rfl (by decide) _ _ _ rfl HOW.o ⟨W.heap.size,0,none⟩ 1 1 [.int .i64 ty,.int .i64 k] rfl ?c0 ?c1 ?c2 ?c3 ?c4 ?c5 ?_)
 all_goals try first|rfl|exact ⟨rfl,rfl⟩|exact HN.o|(intro u hu;simp at hu;rcases hu with rfl|rfl<;>rfl)|(unfold maxLen;omega)|omega|(simp;omega)
 refine' zq225
 have q0:=rD13.cell 3
 have z0:=rD13.frozen 3
 have l13:=rD13.lt
 simp only[List.getElem?_toArray,List.getElem?_cons_zero,List.getElem?_cons_succ] at q0
 obtain ⟨A13,c13,hv13',_⟩:=bH hown13
 subst hv13'
 clear hown13 hg13 hv13 rD13 HAD HRD HOW HN
 go_wp2_with fail
 go_end0
 exact ⟨rfl,_,HA13.o.1,HA13.o.2⟩
end
end Go.Proofs.YtckognjamlckcaaGreatDoor
