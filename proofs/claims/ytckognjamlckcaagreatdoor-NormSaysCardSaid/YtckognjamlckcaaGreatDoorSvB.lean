/-
  Arguments that read as data, opened: flats. The document's run of a flat: what lies in memory. The document's run of a flat: is a clock there; when was it before?
-/
import Derived.Test.YtckognjamlckcaaGreatDoorNpW
set_option maxHeartbeats 8000000
set_option maxRecDepth 100000
namespace Go.Proofs.YtckognjamlckcaaGreatDoor
open Go.RowKit Vf Fo
section
variable {H:Type} {enc:TypeId × Value->H} {w:World} {spare:Nat->Bool} {held:Bool}
theorem mO:Tryz.prog.cellsOf 75=6:=by kernel_rfl
theorem oM:Tryz.prog.cellsOf 73=2:=by kernel_rfl
theorem qA:Tryz.prog.cellsOf 9=1:=by kernel_rfl
theorem vm:Tryz.prog.cellsOf 71=1:=by kernel_rfl
theorem AK {fuel:Nat} {cs:List Value} {x:DataW H × List MemPlace} (h:DataW.trod enc Tryz.prog w 0 spare held fuel 73 cs=some x):∃l c:Int,cs=[.int .i64 l,.int .i64 c]/\Wf l/\Wf c:=by
 obtain ⟨xs,n,_,_,hlen,hxl,hf⟩:=DataW.trod_struct Tryz.underlying73 h
 rw[oM] at hlen
 obtain ⟨c0,c1,rfl⟩:=ue hlen
 ·have hx:xs.length=2:=hxl
  have e0:xs[0]? =some (xs[0]'(by omega)):=List.getElem?_eq_getElem (by omega)
  have e1:xs[1]? =some (xs[1]'(by omega)):=List.getElem?_eq_getElem (by omega)
  refine' zq204
  have h1:DataW.trod enc Tryz.prog w 0 spare held n 3 (([c0,c1].drop 1).take (Tryz.prog.cellsOf 3))=some xs[1]:=(hf 1 _ rfl).trans e1
  obtain ⟨l,hl,_,wl⟩:=DataW.trod_int Tryz.underlying3 h0
  obtain ⟨c,hc,_,wc⟩:=DataW.trod_int Tryz.underlying3 h1
  rw[gJ] at hl hc
  simp at hl hc
  subst hl;subst hc
  exact ⟨l,c,rfl,wl,wc⟩
theorem BZ:∀(fuel:Nat) (cs:List Value) (x:DataW H × List MemPlace),DataW.trod enc Tryz.prog w 0 spare held fuel 75 cs=some x->∃e,cL w w.heap.size e cs:=by
 intro fuel
 induction fuel using Nat.strongRecOn with
 |ind fuel ih=>
  intro cs x h
  obtain ⟨xs,n,hn,_,hlen,hxl,hf⟩:=DataW.trod_struct Tryz.underlying75 h
  rw[mO] at hlen
  obtain ⟨c0,c1,c2,c3,c4,c5,rfl⟩:=DB hlen
  ·have hx:xs.length=5:=hxl
   have e0:xs[0]? =some (xs[0]'(by omega)):=List.getElem?_eq_getElem (by omega)
   have e1:xs[1]? =some (xs[1]'(by omega)):=List.getElem?_eq_getElem (by omega)
   have e2:xs[2]? =some (xs[2]'(by omega)):=List.getElem?_eq_getElem (by omega)
   have e3:xs[3]? =some (xs[3]'(by omega)):=List.getElem?_eq_getElem (by omega)
   have e4:xs[4]? =some (xs[4]'(by omega)):=List.getElem?_eq_getElem (by omega)
   have h0:DataW.trod enc Tryz.prog w 0 spare held n 3 (([c0,c1,c2,c3,c4,c5].drop 0).take (Tryz.prog.cellsOf 3))=some xs[0]:=(hf 0 _ rfl).trans e0
   have h1:DataW.trod enc Tryz.prog w 0 spare held n 9 (([c0,c1,c2,c3,c4,c5].drop 1).take (Tryz.prog.cellsOf 9))=some xs[1]:=(hf 1 _ rfl).trans e1
   have h2:DataW.trod enc Tryz.prog w 0 spare held n 3 (([c0,c1,c2,c3,c4,c5].drop 2).take (Tryz.prog.cellsOf 3))=some xs[2]:=(hf 2 _ rfl).trans e2
   have h3:DataW.trod enc Tryz.prog w 0 spare held n 71 (([c0,c1,c2,c3,c4,c5].drop 3).take (Tryz.prog.cellsOf 71))=some xs[3]:=(hf 3 _ rfl).trans e3
   have h4:DataW.trod enc Tryz.prog w 0 spare held n 73 (([c0,c1,c2,c3,c4,c5].drop 4).take (Tryz.prog.cellsOf 73))=some xs[4]:=(hf 4 _ rfl).trans e4
   clear e0 e1 e2 e3 e4 hf
   obtain ⟨op,g0,_,w0⟩:=DataW.trod_int Tryz.underlying3 h0
   obtain ⟨nm,g1,_,w1⟩:=DataW.trod_string Tryz.underlying9 h1
   obtain ⟨m,g2,_,w2⟩:=DataW.trod_int Tryz.underlying3 h2
   obtain ⟨l,c,g4,wl,wc⟩:=AK h4
   rw[gJ] at g0 g2
   rw[qA] at g1
   rw[oM] at g4
   simp at g0 g1 g2 g4
   obtain ⟨rfl,rfl⟩:=g4
   subst g0;subst g1;subst g2
   rw[vm] at h3
   have h3':DataW.trod enc Tryz.prog w 0 spare held n 71 [c3]=some xs[3]:=h3
   clear h0 h1 h2 h3 h4
   rcases DataW.trod_slice Tryz.underlying71 h3' with ⟨hc,_⟩|⟨a,len,cap,elems,rest,k,hk,hc,_,_,hlc,hcm,hel,hr,_⟩
   ·simp at hc;subst hc
    exact ⟨.mk op nm m [] l c,cL.mk' (e:= .mk op nm m [] l c) ⟨w0,w1,w2,wl,wc⟩ (Nat.le_refl _) (Nat.zero_le _) (fun h=>absurd h (by simp[Ex.args]))⟩
   ·simp at hc;subst hc
    have key:∀i,i<len->∃e cs',(w.cells? 0 (a.add (i*6)) 6=some cs')/\cL w w.heap.size e cs':=by
     intro i hi
     have h:=hr i hi
     rw[mO,List.getElem?_eq_getElem (by omega),Option.bind_eq_some_iff] at h
     obtain ⟨cs',h1,h2⟩:=h
     obtain ⟨e,he⟩:=ih k (by omega) cs' _ h2
     exact ⟨e,cs',h1,he⟩
    obtain ⟨f,hfn⟩:∃f:Nat->Ex,∀i,i<len->∃cs',(w.cells? 0 (a.add (i*6)) 6=some cs')/\cL w w.heap.size (f i) cs':=
     ⟨fun i=>if h:i<len then Classical.choose (key i h) else .mk 0 nm 0 [] 0 0,fun i hi=>by simp only[dif_pos hi];exact Classical.choose_spec (key i hi)⟩
    have hlen':((List.range len).map f).length=len:=by simp
    refine ⟨.mk op nm m ((List.range len).map f) l c,?_⟩
    have hA:aM w w.heap.size (some a) ((List.range len).map f):=fun hp=>by
     rw[hlen'] at hp
     obtain ⟨cs0,hc0,hx0⟩:=hfn 0 hp
     have hcell:=(World.cells?_some hc0).2.2 0 (by omega)
     have hl0:cs0.length=6:=hx0.len
     rw[List.getElem?_eq_getElem (by omega)] at hcell
     have hspot:=oT hcell
     have hblk:a.block<w.heap.size:=by
      have:((a.add (0*6)).add 0).block<w.heap.size:=by
       simp only[World.cell?] at hcell
       rcases Nat.lt_or_ge ((a.add (0*6)).add 0).block w.heap.size with h|h
       ·exact h
       ·rw[Array.getElem?_eq_none h] at hcell;cases hcell
      rwa [fa,fa] at this
     obtain ⟨b,off,spot⟩:=a
     have:spot=none:=by simpa[Addr.add] using hspot
     subst this
     refine ⟨b,off,rfl,hblk,fun i x hi=>?_⟩
     have hil:i<len:=by have:=(List.getElem?_eq_some_iff.1 hi).1;rwa [hlen'] at this
     obtain ⟨cs',hc',hx'⟩:=hfn i hil
     have hxe:x=f i:=by rw[List.getElem?_map,List.getElem?_range hil] at hi;simpa using hi.symm
     subst hxe
     refine ⟨cs',fun j u hu=>?_,hx'⟩
     have hj:j<6:=by rw[<-hx'.len];exact (List.getElem?_eq_some_iff.1 hu).1
     have:=(World.cells?_some hc').2.2 j hj
     rw[hu,Addr.add_lit,Addr.add_lit] at this
     exact this
    have:=cL.mk' (w:=w) (B:=w.heap.size) (e:= .mk op nm m ((List.range len).map f) l c) (A:=some a) (cap:=cap) ⟨w0,w1,w2,wl,wc⟩ (by show ((List.range len).map f).length<=cap;rw[hlen'];exact hlc) hcm hA
    rw[show dR (.mk op nm m ((List.range len).map f) l c) (some a) cap=[.int .i64 op,.string nm,.int .i64 m,.slice (some a) len cap,.int .i64 l,.int .i64 c] from by simp[dR,Ex.op,Ex.name,Ex.n,Ex.args,Ex.line,Ex.col]] at this
    exact this
end
theorem DM {α:Type} {l:List α} (h:l.length=4):∃a b c d,l=[a,b,c,d]:=by
 match l,h with
 | [a,b,c,d],_=>exact ⟨a,b,c,d,rfl⟩
theorem Dk {α:Type} {l:List α} (h:l.length=7):∃a b c d e f g,l=[a,b,c,d,e,f,g]:=by
 match l,h with
 | [a,b,c,d,e,f,g],_=>exact ⟨a,b,c,d,e,f,g,rfl⟩
section
variable {H:Type} {enc:TypeId × Value->H} {w:World} {spare:Nat->Bool} {held:Bool}
theorem rW:Tryz.prog.cellsOf 77=7:=by kernel_rfl
theorem wT:Tryz.prog.cellsOf 31=1:=by kernel_rfl
theorem yH:Tryz.prog.cellsOf 33=4:=by kernel_rfl
theorem yv (y:Int × Ex) (cs:List Value) (h:gU w w.heap.size y cs):cs.length=7:=by
 obtain ⟨_,cs',rfl,h⟩:=h
 simp[h.len]
theorem Cz (fuel:Nat) (cs:List Value) (x:DataW H × List MemPlace) (h:DataW.trod enc Tryz.prog w 0 spare held fuel 77 cs=some x):∃d,gU w w.heap.size d cs:=by
 obtain ⟨xs,n,_,_,hlen,hxl,hf⟩:=DataW.trod_struct Tryz.underlying77 h
 rw[rW] at hlen
 obtain ⟨c0,c1,c2,c3,c4,c5,c6,rfl⟩:=Dk hlen
 have hx:xs.length=2:=hxl
 have e0:xs[0]? =some (xs[0]'(by omega)):=List.getElem?_eq_getElem (by omega)
 have e1:xs[1]? =some (xs[1]'(by omega)):=List.getElem?_eq_getElem (by omega)
 have h0:DataW.trod enc Tryz.prog w 0 spare held n 3 (([c0,c1,c2,c3,c4,c5,c6].drop 0).take (Tryz.prog.cellsOf 3))=some xs[0]:=(hf 0 _ rfl).trans e0
 have h1:DataW.trod enc Tryz.prog w 0 spare held n 75 (([c0,c1,c2,c3,c4,c5,c6].drop 1).take (Tryz.prog.cellsOf 75))=some xs[1]:=(hf 1 _ rfl).trans e1
 rw[gJ] at h0
 rw[mO] at h1
 refine' zq190
 obtain ⟨e,he⟩:=BZ n _ _ h1
 simp at ha
 subst ha
 exact ⟨(a,e),wa,_,rfl,he⟩
theorem Bs (fuel:Nat) (cs:List Value) (x:DataW H × List MemPlace) (h:DataW.trod enc Tryz.prog w 0 spare held fuel 33 cs=some x):∃f vw vd vi vo,cs=[vw,vd,vi,vo]/\cS w w.heap.size f vw vd vi vo:=by
 obtain ⟨xs,n,_,_,hlen,hxl,hf⟩:=DataW.trod_struct Tryz.underlying33 h
 rw[yH] at hlen
 obtain ⟨c0,c1,c2,c3,rfl⟩:=DM hlen
 have hx:xs.length=4:=hxl
 have e0:xs[0]? =some (xs[0]'(by omega)):=List.getElem?_eq_getElem (by omega)
 have e1:xs[1]? =some (xs[1]'(by omega)):=List.getElem?_eq_getElem (by omega)
 have e2:xs[2]? =some (xs[2]'(by omega)):=List.getElem?_eq_getElem (by omega)
 have e3:xs[3]? =some (xs[3]'(by omega)):=List.getElem?_eq_getElem (by omega)
 have h0:DataW.trod enc Tryz.prog w 0 spare held n 22 (([c0,c1,c2,c3].drop 0).take (Tryz.prog.cellsOf 22))=some xs[0]:=(hf 0 _ rfl).trans e0
 have h1:DataW.trod enc Tryz.prog w 0 spare held n 31 (([c0,c1,c2,c3].drop 1).take (Tryz.prog.cellsOf 31))=some xs[1]:=(hf 1 _ rfl).trans e1
 have h2:DataW.trod enc Tryz.prog w 0 spare held n 26 (([c0,c1,c2,c3].drop 2).take (Tryz.prog.cellsOf 26))=some xs[2]:=(hf 2 _ rfl).trans e2
 have h3:DataW.trod enc Tryz.prog w 0 spare held n 26 (([c0,c1,c2,c3].drop 3).take (Tryz.prog.cellsOf 26))=some xs[3]:=(hf 3 _ rfl).trans e3
 rw[vZ] at h0
 rw[wT] at h1
 rw[kx] at h2
 rw[kx] at h3
 simp only[List.drop_zero,List.drop_succ_cons,List.take_succ_cons,List.take_zero] at h0 h1 h2 h3
 obtain ⟨l0,k0⟩:=jT Tryz.underlying22 qr (by decide) n (fun k _ cs x h=>Cs k cs x h) zG ⟨0,[]⟩ h0
 obtain ⟨l1,k1⟩:=jT Tryz.underlying31 rW (by decide) n (fun k _ cs x h=>Cz k cs x h) yv (0,.mk 0 ⟨#[]⟩ 0 [] 0 0) h1
 obtain ⟨l2,k2⟩:=lC h2
 obtain ⟨l3,k3⟩:=lC h3
 exact ⟨⟨l0,l1,l2,l3⟩,c0,c1,c2,c3,rfl,k0,k1,k2,k3⟩
def CI (w:World) (f:Fl) (v:Value):Prop:=∃vw vd vi vo,v=eZ vw vd vi vo/\cS w w.heap.size f vw vd vi vo
theorem uA {base:Nat} {v:Value} {d:DataW H} {p:List MemPlace} {r:Reach} (hv:Value.okWide Tryz.prog w r base 33 v) (h:DataW.Trod enc Tryz.prog w 0 spare held 33 v d p):∃q,CI w q v:=by
 obtain ⟨cs,rfl,hsz⟩:=WideShapes.okWide_struct Tryz.underlying33 hv
 obtain ⟨fuel,hf⟩:=h
 obtain ⟨f,vw,vd,vi,vo,hc,ha⟩:=Bs fuel _ _ hf
 refine ⟨f,vw,vd,vi,vo,?_,ha⟩
 obtain ⟨l⟩:=cs
 have:l=[vw,vd,vi,vo]:=hc
 rw[this]
end
open Go.RowKit Vf Fo Ar
structure Rn where
 f:Fl
 rows:List (List Int)
 wv:Nat->Int->Int
 R:Nat
 bK:Nat
 bV:Nat
 cK:Nat
 cV:Nat
 vw:Value
 vd:Value
 vi:Value
 vo:Value
 vR:Value
 kb:Nat->Nat
 vb:Nat->Nat
 B:Nat
def Rn.X (q:Rn) (b:Nat):Prop:=∃n,n<q.f.wires.length/\(b=q.kb n\/b=q.vb n)
structure Rn.Fix (q:Rn) (W:World):Prop where
 fl:cS W q.B q.f q.vw q.vd q.vi q.vo
 rw:aI W q.B 1 (eF W q.B) q.vR q.rows
 row:ai W q.R #[q.vw,q.vd,q.vi,q.vo,q.vR,.slice (some ⟨q.bK,0,none⟩) q.f.wires.length q.cK,.slice (some ⟨q.bV,0,none⟩) q.f.wires.length q.cV] 132
 k:∀n,n<q.f.wires.length->W.cell? ⟨q.bK,n,none⟩=some (.slice (some ⟨q.kb n,0,none⟩) q.rows.length q.rows.length)
 v:∀n,n<q.f.wires.length->W.cell? ⟨q.bV,n,none⟩=some (.slice (some ⟨q.vb n,0,none⟩) q.rows.length q.rows.length)
structure Rn.At (q:Rn) (W:World) (K V:Nat->List Int):Prop where
 keep:∀W',ae q.X W W'->q.Fix W'
 lo:∀b,q.X b->q.B<=b
 hB:q.B<=W.heap.size
 k:∀n,n<q.f.wires.length->ai W (q.kb n) (al (K n)).toArray 3
 v:∀n,n<q.f.wires.length->ai W (q.vb n) (al (V n)).toArray 3
 kl:∀n,n<q.f.wires.length->(K n).length=q.rows.length
 vl:∀n,n<q.f.wires.length->(V n).length=q.rows.length
 kk:∀n m,n<q.f.wires.length->m<q.f.wires.length->n≠m->q.kb n≠q.kb m
 vv:∀n m,n<q.f.wires.length->m<q.f.wires.length->n≠m->q.vb n≠q.vb m
 kv:∀n m,n<q.f.wires.length->m<q.f.wires.length->q.kb n≠q.vb m
 wf:∀n,n<q.f.wires.length->∀x∈V n,Wf x
 inv:∀n t,n<q.f.wires.length->t<q.rows.length->ao (K n) (t:Int)≠0->ao (V n) (t:Int)=q.wv t n
section
variable {q:Rn} {W W':World} {K V K' V':Nat->List Int} {n t:Nat}
theorem Rn.At.upd (h:q.At W K V) (u:ae q.X W W') (hk:∀n,n<q.f.wires.length->ai W' (q.kb n) (al (K' n)).toArray 3) (hv:∀n,n<q.f.wires.length->ai W' (q.vb n) (al (V' n)).toArray 3)
  (hkl:∀n,n<q.f.wires.length->(K' n).length=q.rows.length) (hvl:∀n,n<q.f.wires.length->(V' n).length=q.rows.length) (hw:∀n,n<q.f.wires.length->∀x∈V' n,Wf x)
  (hi:∀n t,n<q.f.wires.length->t<q.rows.length->ao (K' n) (t:Int)≠0->ao (V' n) (t:Int)=q.wv t n):q.At W' K' V':=
 ⟨fun W2 u2=>h.keep W2 (u.trans u2),h.lo,Nat.le_trans h.hB u.size,hk,hv,hkl,hvl,h.kk,h.vv,h.kv,hw,hi⟩
theorem Rn.At.below (h:q.At W K V) (hb:Below W.heap.size W W'):q.At W' K V:=
 h.upd (ae.of_below hb) (fun n hn=>(h.k n hn).below hb (h.k n hn).lt) (fun n hn=>(h.v n hn).below hb (h.v n hn).lt) h.kl h.vl h.wf h.inv
theorem Rn.At.fix (h:q.At W K V):q.Fix W:=h.keep W (ae.refl _ _)
theorem Rn.At.low (h:q.At W K V) (u:ae q.X W W'):Below q.B W W':=u.below h.lo h.hB
theorem Rn.At.kc (h:q.At W K V) (hn:n<q.f.wires.length) (ht:t<q.rows.length):W.cell? ⟨q.kb n,t,none⟩=some (.int .i64 (ao (K n) (t:Int))):=iR (h.k n hn) (by rw[h.kl n hn];exact ht)
theorem Rn.At.vc (h:q.At W K V) (hn:n<q.f.wires.length) (ht:t<q.rows.length):W.cell? ⟨q.vb n,t,none⟩=some (.int .i64 (ao (V n) (t:Int))):=iR (h.v n hn) (by rw[h.vl n hn];exact ht)
theorem Rn.At.vwf (h:q.At W K V) (hn:n<q.f.wires.length) (ht:t<q.rows.length):Wf (ao (V n) (t:Int)):=by
 have hl:t<(V n).length:=by rw[h.vl n hn];exact ht
 unfold ao
 rw[Int.toNat_natCast,List.getD_eq_getElem?_getD,List.getElem?_eq_getElem hl]
 exact h.wf n hn _ (List.getElem_mem hl)
theorem Rn.At.setV (h:q.At W K V) (hn:n<q.f.wires.length) (ht:t<q.rows.length) (hw:Wf (q.wv t n)):
  (∃V',q.At (W.setCell ⟨q.vb n,t,none⟩ (.int .i64 (q.wv t n))) K V'/\ao (V' n) (t:Int)=q.wv t n)/\ae q.X W (W.setCell ⟨q.vb n,t,none⟩ (.int .i64 (q.wv t n))):=by
 have u:=ae.setCell (X:=q.X) (p:=⟨q.vb n,t,none⟩) (ae.refl _ W) ⟨n,hn,.inr rfl⟩ (.int .i64 (q.wv t n))
 have u1:=ae.setCell (X:=fun k=>k=q.vb n) (p:=⟨q.vb n,t,none⟩) (ae.refl _ W) rfl (.int .i64 (q.wv t n))
 have hl:t<(V n).length:=by rw[h.vl n hn];exact ht
 refine ⟨⟨fun m=>if m=n then (V n).set t (q.wv t n) else V m,h.upd u (fun m hm=>u1.row (h.k m hm) (h.kv m n hm hn)) (fun m hm=>?_) h.kl (fun m hm=>?_) (fun m hm x hx=>?_) (fun m s hm hs hk=>?_),?_⟩,u⟩
 ·by_cases e:m=n
  ·subst e
   try dsimp only
   rw[if_pos rfl]
   exact qy (h.v m hm) t _
  ·try dsimp only
   rw[if_neg e]
   exact u1.row (h.v m hm) (h.vv m n hm hn e)
 ·try dsimp only
  split
  ·rw[List.length_set];exact h.vl n hn
  ·exact h.vl m hm
 ·try dsimp only at hx
  split at hx
  ·rcases List.mem_or_eq_of_mem_set hx with hx|hx
   ·exact h.wf n hn x hx
   ·rw[hx];exact hw
  ·exact h.wf m hm x hx
 ·try dsimp only
  by_cases e:m=n
  ·subst e
   rw[if_pos rfl,iM hl]
   split
   ·rename_i e;rw[e]
   ·exact h.inv m s hm hs hk
  ·rw[if_neg e]
   exact h.inv m s hm hs hk
 ·try dsimp only
  rw[if_pos rfl,iM hl,if_pos rfl]
theorem Rn.At.setK (h:q.At W K V) (hn:n<q.f.wires.length) (ht:t<q.rows.length) (hv:ao (V n) (t:Int)=q.wv t n):
  (∃K',q.At (W.setCell ⟨q.kb n,t,none⟩ (.int .i64 1)) K' V)/\ae q.X W (W.setCell ⟨q.kb n,t,none⟩ (.int .i64 1)):=by
 have u:=ae.setCell (X:=q.X) (p:=⟨q.kb n,t,none⟩) (ae.refl _ W) ⟨n,hn,.inl rfl⟩ (.int .i64 1)
 have u1:=ae.setCell (X:=fun k=>k=q.kb n) (p:=⟨q.kb n,t,none⟩) (ae.refl _ W) rfl (.int .i64 1)
 have hl:t<(K n).length:=by rw[h.kl n hn];exact ht
 refine ⟨⟨fun m=>if m=n then (K n).set t 1 else K m,h.upd u (fun m hm=>?_) (fun m hm=>u1.row (h.v m hm) (fun e=>h.kv n m hn hm e.symm)) (fun m hm=>?_) h.vl h.wf (fun m s hm hs hk=>?_)⟩,u⟩
 ·by_cases e:m=n
  ·subst e
   try dsimp only
   rw[if_pos rfl]
   exact qy (h.k m hm) t _
  ·try dsimp only
   rw[if_neg e]
   exact u1.row (h.k m hm) (h.kk m n hm hn e)
 ·try dsimp only
  split
  ·rw[List.length_set];exact h.kl n hn
  ·exact h.kl m hm
 ·try dsimp only at hk
  by_cases e:m=n
  ·subst e
   rw[if_pos rfl,iM hl] at hk
   by_cases e:s=t
   ·rw[e];exact hv
   ·rw[if_neg e] at hk
    exact h.inv m s hm hs hk
  ·rw[if_neg e] at hk
   exact h.inv m s hm hs hk
end
def Rn.Post (q:Rn) (W:World) (x:Int) (e:Ending) (W':World):Prop:=e= .returned (.int .i64 x)/\Wf x/\(∃K' V',q.At W' K' V')/\ae q.X W W'
def nj (q:Rn) (t:Nat) (n:Int):Prop:=∀W K V,q.At W K V->Calls Tryz.prog 56 #[.pointer (some ⟨q.R,0,none⟩),.int .i64 n,.int .i64 t] W (q.Post W (q.wv t n))
def fc (q:Rn) (W:World) (v:Value) (c:List Gd):Prop:=∀W',ae q.X W W'->aI W' W'.heap.size 2 aW v c
theorem fc.next {q:Rn} {W W':World} {v:Value} {c:List Gd} (h:fc q W v c) (u:ae q.X W W'):fc q W' v c:=fun W2 u2=>h W2 (u.trans u2)
def ri (q:Rn) (t:Nat) (e:Ex):Prop:=∀(c:List Gd) W K V A cap v,q.At W K V->cW e->e.args.length<=cap->cap<=maxLen->aM W q.B A e.args->fc q W v c->(∀g∈c,ak q.f.fm g.wire)->aE q.f e c->c.length+ax e<=1600->
 Calls Tryz.prog 92 #[.pointer (some ⟨q.R,0,none⟩),bz e A cap,v,.int .i64 t] W (q.Post W (bZ q.wv e c t))
attribute [local go_sem ↓] Go.wp_at_zero Go.wp_at_succ
theorem AL {wv:Nat->Int->Int} {t:Nat} {c:List Gd} {k:Nat} {g:Gd} (h:c[k]? =some g):fb wv t (c.drop k)=if (decide (wv t g.wire≠0))=g.no then false else fb wv t (c.drop (k+1)):=by
 have hk:=(List.getElem?_eq_some_iff.1 h)
 rw[List.drop_eq_getElem_cons hk.1,hk.2,fb]
def Rn.Then (q:Rn) (W:World) (b:Value) (e:Ending) (W':World):Prop:=e= .returned b/\(∃K' V',q.At W' K' V')/\ae q.X W W'
def DR (q:Rn) (t:Nat) (c:List Gd):Prop:=∀W K V v,q.At W K V->fc q W v c->Calls Tryz.prog 120 #[.pointer (some ⟨q.R,0,none⟩),v,.int .i64 t] W (q.Then W (.bool (fb q.wv t c)))
theorem Cb {q:Rn} {t:Nat} (hW:∀n,ak q.f.fm n->nj q t n) (c:List Gd) (hc:∀g∈c,ak q.f.fm g.wire):DR q t c:=by
 intro W K V v h hv
 refine' zq188
 have HC:=zH hc
 have HWI:Hid (∀n,ak q.f.fm n->∀W K V,q.At W K V->Calls Tryz.prog 56 #[.pointer (some ⟨q.R,0,none⟩),.int .i64 n,.int .i64 t] W (q.Post W (q.wv t n))):=hW
 clear hv h hc hW
 go_enter Tryz.func120,Tryz.ntmps120
 go_wp2_with fail
 go_loopw[7] (fun i wr=>∃(k:Nat) (K V:Nat->List Int),k<=c.length/\i= .int .i64 k/\Hid (fb q.wv t c=fb q.wv t (c.drop k))/\Hid (q.At wr K V)/\Hid (ae q.X W wr)) (fun i _=>c.length-(intOf i).toNat)
 case atStart=>exact ⟨0,K,V,Nat.zero_le _,rfl,rfl,HH.o,ae.refl _ _⟩
 case round=>
  clear HH
  obtain ⟨k,K,V,hk,rfl,HT,HR,HU⟩:=hrel
  by_cases hlt:k<c.length
  ·refine' zq214
   have HTD:Hid (fb q.wv t (c.drop k)=if (decide (q.wv t gw≠0))=gn then false else fb q.wv t (c.drop (k+1))):=AL hx
   have HX:=zH hx
   have HK:Hid (∀W1,ae q.X wr W1->W1.cell? ⟨b,off+k*2,none⟩=some (.int .i64 gw)/\W1.cell? ⟨b,off+k*2+1,none⟩=some (.bool gn)):=fun W1 u=>by
    refine' zq200
   refine' zq175
   refine tk 0 (some 14) rfl ?_
   refine tk 1 (some 15) rfl ?_
   refine tk 2 (some 16) rfl ?_
   refine tk 3 (some 17) rfl ?_
   refine tk 4 (some 18) rfl ?_
   refine tk 5 (some 19) rfl ?_
   refine tk 6 (some 20) rfl ?_
   refine tk 9 (some 23) rfl ?_
   refine tk 10 (some 24) rfl ?_
   refine tk 11 (some 25) rfl ?_
   refine tk 12 (some 26) rfl ?_
   refine tk 13 (some 27) rfl ?_
   refine aH 7 (some 21) rfl (fun KK hKK=>?_)
   go_simp
   (go_at_call 56;refine Calls.mono (HWI.o gw HGW.o _ _ _ (HR.o.below ((Below.refl _ _).drew))) ?_;rintro e w8 ⟨rfl,_,⟨K8,V8,hr8⟩,hu8⟩;(have hu8':ae q.X wr w8:=(ae.of_below ((Below.refl _ _).drew)).trans hu8))
   refine' zq302
   refine tk 8 (some 22) rfl ?_
   refine tk 14 (some 28) rfl ?_
   refine wpAnyH_done (by kernel_rfl) ?_ _
   have HR8:=zH hr8
   have HU8:=zH (HU.o.trans hu8')
   clear hHeld hr8 hu8 hu8' HK
   obtain ⟨BB,hbb⟩:∃BB:Bool,((q.wv t gw !=0)==gn)=BB:=⟨_,rfl⟩
   have HTB:Hid (fb q.wv t (c.drop k)=if BB=true then false else fb q.wv t (c.drop (k+1))):=by
    show _=_
    rw[HTD.o,<-hbb]
    by_cases hz:q.wv t gw=0<;>cases gn<;>simp[hz]
   rw[hbb]
   clear hbb
   cases BB
   ·have HT':Hid (fb q.wv t c=fb q.wv t (c.drop (k+1))):=by
     show _=_
     rw[HT.o,HTB.o,if_neg (by decide)]
    go_wp2_with fail
    go_roundw
    case rel=>exact ⟨k+1,_,_,by omega,by go_num,HT',HR8,HU8⟩
    case measure=>simp[intOf];omega
   ·have HF:Hid (fb q.wv t c=false):=by
     show _=_
     rw[HT.o,HTB.o,if_pos rfl]
    go_wp2_with fail
    go_ret
    exact ⟨aj HF.o.symm,⟨_,_,HR8.o⟩,HU8.o⟩
  ·obtain rfl:k=c.length:=by omega
   have HF:Hid (fb q.wv t c=true):=by
    show _=_
    rw[HT.o,List.drop_length,fb]
   go_wp2_with fail
   go_ret
   exact ⟨aj HF.o.symm,⟨_,_,HR.o⟩,HU.o⟩
def zF:Option Nat->Int
 |none=> -1
 |some s=>s
theorem lU {th:Nat->Bool}:∀{t s:Nat},kh th t=some s->s<t
 |0,s,h=>by cases h
 |t+1,s,h=>by
  rw[kh] at h
  split at h
  ·injection h with h;omega
  ·have:=lU h;omega
theorem zc {q:Rn} {t:Nat} (ht:t<=1000000) (c:List Gd) (hT:∀s,s<t->DR q s c):∀W K V v,q.At W K V->fc q W v c->
  Calls Tryz.prog 108 #[.pointer (some ⟨q.R,0,none⟩),v,.int .i64 t] W (q.Then W (.int .i64 (zF (fv q.wv c t)))):=by
 intro W K V v h hv
 refine' zq188
 have HTI:Hid (∀s,s<t->∀W K V v,q.At W K V->fc q W v c->Calls Tryz.prog 120 #[.pointer (some ⟨q.R,0,none⟩),v,.int .i64 s] W (q.Then W (.bool (fb q.wv s c)))):=hT
 clear hv h hT
 go_enter Tryz.func108,Tryz.ntmps108
 go_wp2_with fail
 go_loopw[7] (fun i wr=>∃(z:Int) (k:Nat) (K V:Nat->List Int),k<=t/\z+1=k/\i= .int .i64 z/\Hid (fv q.wv c t=kh (fun s=>fb q.wv s c) k)/\Hid (q.At wr K V)/\Hid (ae q.X W wr)) (fun i _=>(intOf i+1).toNat)
 case atStart=>exact ⟨(t:Int)-1,t,K,V,Nat.le_refl _,by omega,rfl,rfl,HH.o,ae.refl _ _⟩
 case round=>
  clear HH
  obtain ⟨z,k,K,V,hk,hz,rfl,HT,HR,HU⟩:=hrel
  by_cases h0:0<=z
  ·obtain ⟨s,rfl⟩:=Int.eq_ofNat_of_zero_le h0
   obtain rfl:k=s+1:=by omega
   have hst:s<t:=by omega
   have HC:=zH (HTI.o s hst wr K V _ HR.o (HV.o.next HU.o))
   clear hz h0
   refine' zq56
   rintro e w2 ⟨rfl,⟨K2,V2,hr2⟩,hu2⟩
   have HR2:=zH hr2
   have HU2:=zH (HU.o.trans hu2)
   clear hr2 hu2 HC
   have HTD:Hid (fv q.wv c t=if fb q.wv s c=true then some s else kh (fun s=>fb q.wv s c) s):=by
    show _=_
    rw[HT.o,kh]
   generalize fb q.wv s c=BB at*
   cases BB
   ·have HT':Hid (fv q.wv c t=kh (fun s=>fb q.wv s c) s):=by
     show _=_
     rw[HTD.o,if_neg (by decide)]
    go_wp2_with fail
    go_roundw
    case rel=>exact ⟨(s:Int)-1,s,_,_,by omega,by omega,by go_num,HT',HR2,HU2⟩
    case measure=>simp[intOf]
   ·have HF:Hid (zF (fv q.wv c t)=s):=by
     show _=_
     rw[HTD.o,if_pos rfl];rfl
    go_wp2_with fail
    go_ret
    exact ⟨az HF.o.symm,⟨_,_,HR2.o⟩,HU2.o⟩
  ·obtain rfl:k=0:=by omega
   have HF:Hid (zF (fv q.wv c t)= -1):=by
    show _=_
    rw[HT.o];rfl
   go_wp2_with fail
   go_ret
   exact ⟨az HF.o.symm,⟨_,_,HR.o⟩,HU.o⟩
end Go.Proofs.YtckognjamlckcaaGreatDoor
