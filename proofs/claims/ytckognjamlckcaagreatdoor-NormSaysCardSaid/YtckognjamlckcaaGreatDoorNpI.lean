/-
  What the document asks of a flat, in its own order, is what makes it right. norm.Of, for any flat. tompionref23.Types: the dQ of some wires of a flat. Few parts: the contract of tompionlaw12.Few. Few parts of a flat: tompionlaw23.Few. Has a form nothing: tompionlaw24.none. How many wires and cells a flat may need. norm, as plain data: how much is made of an expression, and that there is room. norm, as plain data: what stands in what is made. norm, as plain data: what was, and where a clock begins.
-/
import Derived.Test.YtckognjamlckcaaGreatDoorFrH
import Derived.Test.YtckognjamlckcaaGreatDoorNpC
set_option maxHeartbeats 8000000
set_option maxRecDepth 100000
namespace Go.Proofs.YtckognjamlckcaaGreatDoor.Fo
open Vf
theorem ul {f:Fm} (hc:f.acts.length+f.ins.length=f.wires.length) (hi:∀n∈f.ins,ak f n) (h4:D4 f) (h6:∀(i:Nat) x,f.acts[i]? =some x->ak f x.dst/\x.dst∉f.ins/\bO x.dst 0 f.acts=i):aR f:=by
 have hp:(f.acts.map (·.dst)).Nodup:=mN (fun i j x y hij hx hy e=>by
  have a1:=(h6 j y hy).2.2
  have a2:=ou (i:=0) (n:=y.dst) hx e
  rw[a1] at a2
  omega)
 refine' zq216
 refine dm.2 ⟨hnd,fun a ha=>?_,fun n hn=>?_⟩
 ·obtain ⟨i,hi'⟩:=List.getElem?_of_mem ha
  exact (h6 i a hi').1
 ·refine ky (dO f f.acts) (eG f.wires.length) hnd (fun m hm=>?_) ?_ n (cJ.2 ⟨by omega,by omega⟩)
  ·refine' zq285
  ·rw[f']
   simp[dO]
   omega
theorem nI {f:Fm} (hi:∀n∈f.ins,ak f n) (hd:aR f):f.acts.length+f.ins.length=f.wires.length/\D4 f/\∀(i:Nat) x,f.acts[i]? =some x->ak f x.dst/\x.dst∉f.ins/\bO x.dst 0 f.acts=i:=by
 have hd':=dm.1 hd
 refine ⟨?_,om.2 hd.1,fun i x hx=>?_⟩
 ·have l1:=eI _ (eG f.wires.length) hd'.1 (fun n hn=>by
   rcases List.mem_append.1 hn with h|h
   ·exact cJ.2 (hi n h)
   ·obtain ⟨x,hx,rfl⟩:=List.mem_map.1 h
    exact cJ.2 (hd'.2.1 x hx))
  refine' zq219
 ·have hxm:=List.mem_of_getElem? hx
  refine ⟨(hd.2.1 x hxm).1,(hd.2.1 x hxm).2,?_⟩
  have:=pU (gG hd.2.2.1) (i:=0) hx
  rw[this];simp
def F5 (f:Fl) (i:Nat) (d:Int × Ex):Prop:=(ak f.fm d.1/\d.1∉f.ins/\bO d.1 0 f.fm.acts=i)/\aO f d.2/\ax d.2<=30/\am f d.2=ag f.fm d.1/\aE f d.2 (aa f.fm d.1)/\bf d.2=0
structure wA (f:Fl):Prop where
 wires:de f
 ins:bG f.fm f.ins
 outs:bG f.fm f.outs
 cnt:f.defs.length+f.ins.length=f.wires.length
 d4:D4 f.fm
section
variable {f:Fl}
theorem Dd (h:bn f):wA f/\∀(i:Nat) d,f.defs[i]? =some d->F5 f i d:=by
 obtain ⟨h1,h2,h3,h4,h5,_⟩:=h
 obtain ⟨c1,c2,c3⟩:=nI (fun n hn=>(h2.1 n hn).1) h4
 refine ⟨⟨h1,h2,h3,by rw[<-gq];exact c1,c2⟩,fun i d hd=>⟨?_,h5 d (List.mem_of_getElem? hd)⟩⟩
 exact c3 i _ (iu hd)
theorem nE (h:wA f) (h5:∀(i:Nat) d,f.defs[i]? =some d->F5 f i d):aR f.fm:=
 ul (by rw[gq];exact h.cnt) (fun n hn=>(h.ins.1 n hn).1) h.d4 (fun i x hx=>by
  have hl:i<f.defs.length:=by rw[<-gq];exact (List.getElem?_eq_some_iff.1 hx).1
  have hd:=List.getElem?_eq_getElem hl
  have q:=iu hd
  rw[hx] at q
  injection q with q
  rw[q]
  exact (h5 i _ hd).1)
theorem iO (hw:de f) {n:Int} (hn:ak f.fm n):(aa f.fm n).length<=400:=by
 refine' zq77
 have hok:=hw.1 _ (List.mem_of_getElem? hx)
 unfold aa
 rw[bW (f:=f.fm) hx]
 refine' zq111
 have:=eI _ (eG f.wires.length) hnd (fun n hn=>by
  obtain ⟨g,hg,rfl⟩:=List.mem_map.1 hn
  obtain ⟨i,hi⟩:=List.getElem?_of_mem hg
  exact cJ.2 (hok.2 i g hi).1)
 rw[List.length_map,f'] at this
 have:=hw.2.2
 omega
theorem Cv (h:wA f) (h5:∀(i:Nat) d,f.defs[i]? =some d->F5 f i d) (hs:∀d∈f.defs,ay d.2<=1000000):rC f:=by
 have hd:=nE h h5
 have h5':∀d∈f.defs,ak f.fm d.1/\aO f d.2:=fun d hm=>by
  obtain ⟨i,hi⟩:=List.getElem?_of_mem hm
  exact ⟨(h5 i d hi).1.1,(h5 i d hi).2.1⟩
 refine ⟨h.wires.2.2,fun n hn=>(h.ins.1 n hn).1,fun d hm=>(h5' d hm).1,qR hd,uI hd,xM hd,nM h.wires (fun d hm=>(h5' d hm).1) (fun d hm=>(h5' d hm).2),hs,fun i hi=>?_⟩
 have hw:ak f.fm (i:Int):=⟨by omega,by show (i:Int)<f.wires.length;omega⟩
 refine ⟨iO h.wires hw,fun g hg=>?_⟩
 have hx:f.wires[i]? =some f.wires[i]:=List.getElem?_eq_getElem hi
 have hc:aa f.fm (i:Int)=f.wires[i].clock:=by unfold aa;rw[bW (f:=f.fm) hx]
 rw[hc] at hg
 obtain ⟨k,hk⟩:=List.getElem?_of_mem hg
 exact ((h.wires.1 _ (List.getElem_mem hi)).2 k g hk).1
theorem Cy (h:wA f) (h5:∀(i:Nat) d,f.defs[i]? =some d->F5 f i d) (h6:∀n:Nat,n<f.wires.length->dt f n):bn f:=
 ⟨h.wires,h.ins,h.outs,nE h h5,fun d hm=>by
  obtain ⟨i,hi⟩:=List.getElem?_of_mem hm
  exact (h5 i d hi).2,h6⟩
end
end Go.Proofs.YtckognjamlckcaaGreatDoor.Fo
namespace Go.Proofs.YtckognjamlckcaaGreatDoor
open Go.RowKit Vf Fo
def DU (c:List Gd):Prop:=∀g∈c,Wf g.wire/\0<=g.wire
theorem Dj {f:Fl} (hw:f.wires.length<=400) (e:Ex):aO f e->∀c,DU c->c.length+ax e<=100000->nG qz e c:=by
 induction e using Ex.ind with
 |h e ih=>
  intro hp c hc hl
  obtain ⟨hp1,hp2⟩:=bq.1 hp
  refine lj.2 ⟨⟨by omega,hc⟩,fun i x hx=>?_⟩
  have hm:=List.mem_of_getElem? hx
  have h1:=eX hm
  have h2:=j' (e:=e) (c:=c) i
  refine ih x hm (hp2 x hm) _ ?_ (by omega)
  unfold aA
  split
  ·exact fun g hg=>hc g (by rw[List.dropLast_eq_take] at hg;exact List.mem_of_mem_take hg)
  ·split
   ·intro g hg
    rcases List.mem_append.1 hg with hg|hg
    ·exact hc g hg
    ·simp at hg
     subst hg
     have:=cC hp1 (show aJ e.op=true by rw[‹e.op=26›];rfl)
     have h3:e.n<f.wires.length:=this.2
     show Wf e.n/\0<=e.n
     exact ⟨aT (by have:=this.1;omega),this.1⟩
   ·exact hc
theorem yu {f:Fl} (hw:de f) {n:Int} (hn:ak f.fm n):DU (aa f.fm n)/\(aa f.fm n).length<=400:=by
 have hwl:=hw.2.2
 refine' zq77
 have hok:=hw.1 _ (List.mem_of_getElem? hx)
 refine ⟨fun g hg=>?_,iO hw hn⟩
 have hc:aa f.fm (m:Int)=f.wires[m].clock:=by unfold aa;rw[bW (f:=f.fm) hx]
 rw[hc] at hg
 obtain ⟨k,hk⟩:=List.getElem?_of_mem hg
 have h1:=(hok.2 k g hk).1
 have h2:g.wire<f.wires.length:=h1.2
 exact ⟨aT (by have:=h1.1;omega),h1.1⟩
theorem Bl {w:World} {f:Fl} {vw vd vi vo:Value} (h:cS w w.heap.size f vw vd vi vo) (ht:mu w) (hsz:∀d∈f.defs,ay d.2<=1000000) (hsum:(f.defs.map (fun d=>8*ay d.2+1)).sum<=800000000):
  Calls Tryz.prog 11 #[eZ vw vd vi vo] w (Ba f w):=
 tM (K:=qz) h hsz hsum (fun w0 hb=>Ck (ht.keep hb)) (fun hok w0 D vi vo law d hd=>Bv law d.2 (hok.2.2.2.2.1 d hd).1) (fun hok d hd=>by
  have hdo:=hok.2.2.2.2.1 d hd
  have hdw:ak f.fm d.1:=by
   have:=(hok.2.2.2.1.2.1 ⟨0,d.1,0,0,0,0⟩ (List.mem_map.2 ⟨d,hd,rfl⟩)).1
   exact this
  obtain ⟨q1,q2⟩:=yu hok.1 hdw
  exact Dj hok.1.2.2 d.2 hdo.1 _ q1 (by have:=hdo.2.1;omega))
attribute [local go_sem ↓] Go.wp_at_zero Go.wp_at_succ
theorem rV {w:World} {B:Nat} {f:Fl} {vw vd vi vo:Value} (h:cS w B f vw vd vi vo) (hB:B<=w.heap.size) (l:List Int) (v:Value) (hv:aI w B 1 aP v l) (hl:l.length<=1600) (hw:∀n∈l,ak f.fm n) (hty:∀n∈l,Wf (ag f.fm n)):
  Calls Tryz.prog 17 #[eZ vw vd vi vo,v] w fun e w'=>∃v',e= .returned v'/\aI w' w'.heap.size 1 aP v' (l.map (ag f.fm))/\Below w.heap.size w w':=by
 refine' zq106
 obtain ⟨Al,cl,rfl,ll,ml,sl⟩:=hv
 have ml':cl<=9223372036854775807:=by unfold maxLen at ml;omega
 have b1:Below w.heap.size w (w.alloc (.cells #[vw,vd,vi,vo] 33)):=bE
 have rF1:=ai.new w #[vw,vd,vi,vo] 33
 have HSL:=zH (fun W (hW:Below w.heap.size w W)=>sl.below (hW.mono hB))
 have HFM:=zH (fun W (hW:Below w.heap.size w W)=>h.below (hW.mono hB))
 have HW:=zH hw
 have HTY:=zH hty
 obtain ⟨Aw,cw,rfl,lw,mw,_⟩:=h.wires
 refine' zq62
 clear sl h hw
 go_enter Tryz.func17,Tryz.ntmps17
 go_upto_region 1 with (fail)
 generalize w.alloc (.cells #[.slice Aw f.wires.length cw,vd,vi,vo] 33)=w1 at*
 have hs1:=b1.size
 have hGl:=rF1.lt
 have HF6:Hid (∀W,Below w1.heap.size w1 W->W.cell? ⟨w.heap.size,0,none⟩=some (.slice Aw f.wires.length cw)):=fun W hW=>(rF1.below hW hGl).cell 0
 have f0:=HF6.o _ (Below.refl _ _)
 go_wp2_with fail
 clear f0
 go_loopw[5,6] (fun v5 i wr=>∃k:Nat,k<=l.length/\i= .int .i64 k/\Hid (wr.ownsRow w1.heap.size 3 1 v5 k (al ((l.take k).map (ag f.fm))))/\Hid (Below w1.heap.size w1 wr)) (fun _ i _=>l.length-(intOf i).toNat)
 case atStart=>exact ⟨0,Nat.zero_le _,rfl,World.ownsRow_nil _ _ _ _,Below.refl _ _⟩
 case round=>
  obtain ⟨k,hk,rfl,HO,HBR⟩:=hrel
  have hszr:=HBR.o.size
  have hb:=b1.trans (HBR.o.mono hs1)
  by_cases hlt:k<l.length
  ·obtain ⟨b,off,n,rfl,hb',hx,wx,d0⟩:=(HSL.o _ hb).int hlt
   obtain ⟨m,b6,off6,cw6,Ag6,cg6,rfl,hm,hvw,_,_,hb6B,y0,_,_,_,_⟩:=dT (HFM.o _ hb) (HW.o n (List.mem_of_getElem? hx))
   injection hvw with h1 h2 h3
   subst h1;subst h3
   have hm':(m:Int)<f.wires.length:=by omega
   have hk':(k:Int)<l.length:=by omega
   have HTK:Hid (al ((l.take (k+1)).map (ag f.fm))=al ((l.take k).map (ag f.fm))++ [.int .i64 (ag f.fm m)]):=by
    show _=_
    rw[bj hx,List.map_append,List.map_singleton,bS]
   have f0:=HF6.o _ HBR.o
   have HK:Hid (∀W,Below wr.heap.size wr W->W.cell? ⟨w.heap.size,0,none⟩=some (.slice (some ⟨b6,off6,none⟩) f.wires.length cw)/\W.cell? ⟨b,off+k,none⟩=some (.int .i64 (m:Int))/\W.cell? ⟨b6,off6+m*2,none⟩=some (.int .i64 (ag f.fm (m:Int)))):=fun W hW=>⟨cell_kept f0 hW,cell_kept d0 hW,cell_kept y0 hW⟩
   have hbw:b<w1.heap.size:=by omega
   have hb6w:b6<w1.heap.size:=by omega
   have HKL:Hid ((∀W,Below w1.heap.size wr W->W.cell? ⟨b,off+k,none⟩=some (.int .i64 (m:Int)))/\(∀W,Below w1.heap.size wr W->W.cell? ⟨b6,off6+m*2,none⟩=some (.int .i64 (ag f.fm (m:Int))))):=⟨fun W hW=>(hW.cell hbw).trans d0,fun W hW=>(hW.cell hb6w).trans y0⟩
   generalize ag f.fm (m:Int)=T at*
   generalize al ((l.take k).map (ag f.fm))=LL at*
   clear hx wx h2 d0 y0 f0
   go_upto_region 5 with (fail)
   refine wp_region_held_drew (S:=fun W=>W.cell? ⟨w.heap.size,0,none⟩=some (.slice (some ⟨b6,off6,none⟩) f.wires.length cw)/\W.cell? ⟨b,off+k,none⟩=some (.int .i64 (m:Int))/\W.cell? ⟨b6,off6+m*2,none⟩=some (.int .i64 T)) (by kernel_rfl) ?_ (fun hHeld=>?_)
   ·(try dsimp only);(first|exact HK9.o|(with_reducible exact HK.o _ bE))
   refine' zq268
   refine tk 7 (some 20) rfl ?_
   refine tk 8 (some 21) rfl ?_
   refine tk 9 (some 22) rfl ?_
   refine aH 10 (some 23) rfl (fun KK hKK=>?_)
   go_simp
   refine hKK.out _ _ ?_ (fun hHeld=>?_)
   ·(try dsimp only);(first|exact HK9.o|(with_reducible exact HK.o _ bE))
   refine' zq4
   refine aH 11 (some 24) rfl (fun KK hKK=>?_)
   (rw[if_pos (by kernel_rfl)];refine i' (.tmp 13) (.tmp 23) 26 rfl w1.heap.size 3 i0 (.int .i64 0) 1 8 Tryz.underlying26 hi0 hz0 hz1 hz2 rfl (by decide) _ k LL rfl ((aG HO.o (bE:Below wr.heap.size wr _))) (some ⟨_,0,none⟩) 1 1 [.int .i64 T] rfl eK.some rfl (fun ad he=>by injection he with he;subst he;exact cA _ _ _) (by intro u hu;simp at hu;subst hu;rfl) (by unfold maxLen;omega) (by omega) (by first|omega|(simp;omega)|simp) ?_;intro v13 w13 hown13 hg13;(have hf13:Below w1.heap.size wr w13:=aY (Below.mono (bE:Below wr.heap.size wr _) hszr) (aG HO.o (bE:Below wr.heap.size wr _)) hg13 (by first|omega|(simp;omega)|simp));(have HK9:Hid (w13.cell? ⟨w.heap.size,0,none⟩=some (.slice (some ⟨b6,off6,none⟩) f.wires.length cw)/\w13.cell? ⟨b,off+k,none⟩=some (.int .i64 (m:Int))/\w13.cell? ⟨b6,off6+m*2,none⟩=some (.int .i64 T)):=⟨(HF6.o _ (HBR.o.trans hf13)),HKL.o.1 w13 hf13,HKL.o.2 w13 hf13⟩))
   refine hKK.out _ _ ?_ (fun hHeld=>?_)
   ·(try dsimp only);(first|exact HK9.o|(with_reducible exact HK.o _ bE))
   refine' zq4
   refine tk 12 (some 5) rfl ?_
   refine wpAnyH_done (by kernel_rfl) ?_ _
   have HB:=zH (HBR.o.trans hf13)
   clear hf13
   have HO':Hid (w13.ownsRow w1.heap.size 3 1 v13 (k+1) (al ((l.take (k+1)).map (ag f.fm)))):=by
    show World.ownsRow _ _ _ _ _ _ _
    rw[HTK.o];exact hown13
   clear hown13
   go_wp2_with fail
   go_roundw
   case rel=>exact ⟨k+1,by omega,by go_num,HO',HB⟩
   case measure=>simp[intOf];omega
  ·obtain rfl:k=l.length:=by omega
   have HWF:Hid (∀x∈l.map (ag f.fm),Wf x):=fun x hx=>by
    obtain ⟨n,hn,rfl⟩:=List.mem_map.1 hx
    exact HTY.o n hn
   go_wp2_with fail
   go_ret
   refine ⟨_,rfl,?_,hb⟩
   have:=HO.o
   rw[List.take_length] at this
   exact Au this HWF.o
open Go.RowKit _root_.Go.Proofs.YtckognjamlckcaaGreatDoor.Nm
theorem wS {l:List Ex} (ih:∀x∈l,∀a d,0<=ch x a d->ch x a d=a-ay x/\∀y∈bC x,y.name.size<=30):
  ∀a d,0<=fj (l.map ch) a d->fj (l.map ch) a d=a-eE (l.map ay)/\∀x∈l,∀y∈bC x,y.name.size<=30:=by
 induction l with
 |nil=>intro a d _;exact ⟨by simp[fj,eE],fun x hx=>absurd hx List.not_mem_nil⟩
 |cons x l ihl=>
  intro a d h
  simp only[List.map_cons,fj] at h⊢
  by_cases ha:a<0
  ·rw[if_pos ha] at h;omega
  ·rw[if_neg ha] at h⊢
   have h2:=ihl (fun y hy=>ih y (by simp[hy])) _ _ h
   have hx0:0<=ch x a d:=by rw[h2.1] at h;omega
   have h1:=ih x (by simp) a d hx0
   refine ⟨by rw[h2.1,h1.1];simp only[eE];omega,fun y hy=>?_⟩
   rcases List.mem_cons.1 hy with rfl|hy
   ·exact h1.2
   ·exact h2.2 y hy
theorem uX (e:Ex):∀a d,0<=ch e a d->ch e a d=a-ay e/\∀y∈bC e,y.name.size<=30:=by
 induction e using Ex.ind with
 |h e ih=>
  intro a d h
  rw[jk] at h⊢
  by_cases hc:d=0\/30<e.name.size
  ·rw[if_pos hc] at h;omega
  ·rw[if_neg hc] at h⊢
   have:=wS ih _ _ h
   refine ⟨by rw[this.1,iI];omega,fun y hy=>?_⟩
   rw[eM] at hy
   rcases List.mem_cons.1 hy with rfl|hy
   ·omega
   ·obtain ⟨l,hl,hy⟩:=List.mem_flatten.1 hy
    obtain ⟨x,hx,rfl⟩:=List.mem_map.1 hl
    exact this.2 x hx y hy
noncomputable def tX (e:Ex):Bool:=decide (0<=ch e 200 50)
theorem vD {e:Ex} (h:tX e=true):Small e/\ay e<=200:=by
 have h0:0<=ch e 200 50:=by simpa[tX] using h
 have:=uX e 200 50 h0
 exact ⟨⟨by omega,this.2⟩,by omega⟩
theorem Cm (e:Ex) (A:Option Addr) (cap:Nat) (w:World) (hok:cW e) (hcap:e.args.length<=cap) (hmax:cap<=maxLen) (hx:aM w w.heap.size A e.args):
  Calls Tryz.prog 38 #[bz e A cap] w fun r w'=>r= .returned (.bool (tX e))/\Below w.heap.size w w':=by
 have hB0:Below w.heap.size w (w.alloc (.cells #[.int .i64 e.op,.string e.name,.int .i64 e.n,.slice A e.args.length cap,.int .i64 e.line,.int .i64 e.col] 75)):=(Below.refl _ _).alloc (Nat.le_refl _) _
 go_enter Tryz.func38,Tryz.ntmps38
 go_wp2_with fail
 refine (ym e A cap 200 50 _ hok hcap hmax ((hx.below hB0).more (by simp)) (by omega) (by omega) (by omega) (by omega)).mono ?_
 rintro r w1 ⟨rfl,hb1⟩
 go_wp2_with fail
 go_ret
 exact ⟨rfl,hB0.trans (hb1.mono (by simp))⟩
def CE (f:Fl):Prop:=(∀x∈f.defs,ay x.2<=200)/\f.wires.length<=450/\f.defs.length<=450/\f.ins.length<=20/\f.outs.length<=20
theorem vS {w:World} {f:Fl} {vw vd vi vo:Value} (h:cS w w.heap.size f vw vd vi vo):
  Calls Tryz.prog 10 #[eZ vw vd vi vo] w (jt (CE f) w):=by
 have HSW:Hid (∀W,Below w.heap.size w W->∀A c,vw= .slice A f.wires.length c->Sl W W.heap.size 2 (fu W W.heap.size) A f.wires):=fun W hW A c e=>by
  obtain ⟨A',c',hv,_,_,s⟩:=(h.next hW).wires
  rw[e] at hv
  injection hv with h1 _ _
  rw[h1];exact s
 have HSD:Hid (∀W,Below w.heap.size w W->∀A c,vd= .slice A f.defs.length c->Sl W W.heap.size 7 (gU W W.heap.size) A f.defs):=fun W hW A c e=>by
  obtain ⟨A',c',hv,_,_,s⟩:=(h.next hW).defs
  rw[e] at hv
  injection hv with h1 _ _
  rw[h1];exact s
 obtain ⟨Aw,cw,rfl,lw,mw,_⟩:=h.wires
 obtain ⟨Ad,cd,rfl,ld,md,_⟩:=h.defs
 obtain ⟨Ai,ci,rfl,_,_,_⟩:=h.ins
 obtain ⟨Ao,co,rfl,_,_,_⟩:=h.outs
 refine' zq62
 refine' zq184
 refine' zq93
 clear h
 go_enter Tryz.func10,Tryz.ntmps10
 refine' zq129
 refine' zq75
 obtain ⟨f0,f1,f2,f3⟩:=HF4.o _ (Below.refl _ _)
 go_wp2_with fail
 clear f0 f1 f2 f3
 go_loopw[10] (fun i wr=>∃k:Nat,k<=f.wires.length/\i= .int .i64 k/\Hid (Below w1.heap.size w1 wr)) (fun i _=>f.wires.length-(intOf i).toNat)
 case atStart=>exact ⟨0,Nat.zero_le _,rfl,Below.refl _ _⟩
 case round=>
  obtain ⟨k,hk,rfl,HB⟩:=hrel
  have hszr:=HB.o.size
  have hb:=b1.trans (HB.o.mono hs1)
  by_cases hlt:k<f.wires.length
  ·obtain ⟨b,off,x,Ag,cg,rfl,hb',hx,wx,d0,d1,lg,mg,_⟩:=(HSW.o _ hb _ _ rfl).wr hlt
   clear hx
   have hbr:=HB.o
   have hb2:Below w.heap.size w (wr.alloc (.cells #[.int .i64 x.ty,.slice Ag x.clock.length cg] 52)):=bE
   have hb3:Below w1.heap.size w1 (wr.alloc (.cells #[.int .i64 x.ty,.slice Ag x.clock.length cg] 52)):=bE
   have rX:=ai.new wr #[.int .i64 x.ty,.slice Ag x.clock.length cg] 52
   go_upto_region 4 with (fail)
   generalize wr.alloc (.cells #[.int .i64 x.ty,.slice Ag x.clock.length cg] 52)=w3 at*
   have q0:=rX.cell 0
   have q1:=rX.cell 1
   simp only[List.getElem?_toArray,List.getElem?_cons_zero,List.getElem?_cons_succ] at q0 q1
   have HB3:=zH hb3
   by_cases e1:40<x.clock.length
   ·have e1':decide (40<(x.clock.length:Int))=true:=by simp;omega
    go_wp2_with fail
    go_ret
    exact jt.no hb2
   have e1':decide (40<(x.clock.length:Int))=false:=by simp;omega
   clear hb3
   go_wp2_with fail
   go_roundw
   case rel=>exact ⟨k+1,by omega,by go_num,HB3⟩
   case measure=>simp[intOf];omega
  obtain rfl:k=f.wires.length:=by omega
  obtain ⟨f0,f1,f2,f3⟩:=HF4.o _ HB.o
  go_wp2_with fail
  clear f0 f1 f2 f3
  have HBW:=zH HB.o
  refine' zq148
  go_loopw[22] (fun i wr=>∃k:Nat,k<=f.defs.length/\i= .int .i64 k/\Hid (∀j,j<k->∀x,f.defs[j]? =some x->ay x.2<=200)/\Hid (Below w1.heap.size w1 wr)) (fun i _=>f.defs.length-(intOf i).toNat)
  case atStart=>exact ⟨0,Nat.zero_le _,rfl,fun j h=>absurd h (by omega),HBW.o⟩
  case round=>
   clear HB hb hszr hk
   obtain ⟨k,hk,rfl,HN,HB⟩:=hrel
   have hszr:=HB.o.size
   have hb:=b1.trans (HB.o.mono hs1)
   by_cases hlt:k<f.defs.length
   ·obtain ⟨b,off,d,Ag,cg,rfl,hbb,hx,wd,hok,hcap,hmax,hxs,d0,d1,d2,d3,d4,d5,d6⟩:=(HSD.o _ hb _ _ rfl).df hlt
    have hbr:=HB.o
    have HX:=zH hx
    have hb2:Below w.heap.size w (wr.alloc (.cells #[.int .i64 d.1,.int .i64 d.2.op,.string d.2.name,.int .i64 d.2.n,.slice Ag d.2.args.length cg,.int .i64 d.2.line,.int .i64 d.2.col] 77)):=bE
    have hb3:Below w1.heap.size w1 (wr.alloc (.cells #[.int .i64 d.1,.int .i64 d.2.op,.string d.2.name,.int .i64 d.2.n,.slice Ag d.2.args.length cg,.int .i64 d.2.line,.int .i64 d.2.col] 77)):=bE
    have hb4:Below wr.heap.size wr (wr.alloc (.cells #[.int .i64 d.1,.int .i64 d.2.op,.string d.2.name,.int .i64 d.2.n,.slice Ag d.2.args.length cg,.int .i64 d.2.line,.int .i64 d.2.col] 77)):=bE
    have rX:=ai.new wr #[.int .i64 d.1,.int .i64 d.2.op,.string d.2.name,.int .i64 d.2.n,.slice Ag d.2.args.length cg,.int .i64 d.2.line,.int .i64 d.2.col] 77
    have HC:=zH (Cm d.2 Ag cg _ hok hcap hmax ((hxs.below hb4).more hb4.size))
    clear hx hxs hok hcap hmax wd
    go_upto_region 10 with (fail)
    generalize wr.alloc (.cells #[.int .i64 d.1,.int .i64 d.2.op,.string d.2.name,.int .i64 d.2.n,.slice Ag d.2.args.length cg,.int .i64 d.2.line,.int .i64 d.2.col] 77)=w3 at*
    have q1:=rX.cell 1
    have q2:=rX.cell 2
    have q3:=rX.cell 3
    have q4:=rX.cell 4
    have q5:=rX.cell 5
    have q6:=rX.cell 6
    simp only[List.getElem?_toArray,List.getElem?_cons_zero,List.getElem?_cons_succ] at q1 q2 q3 q4 q5 q6
    have hs3:=hb3.size
    have hs2:=hb2.size
    clear rX hb4 d0 d1 d2 d3 d4 d5 d6
    refine' zq56
    rintro e w4 ⟨rfl,hb5⟩
    have HB4:=zH (hb3.trans (hb5.mono hs3))
    have hb6:=hb2.trans (hb5.mono hs2)
    clear q1 q2 q3 q4 q5 q6 HC hb3 hb2
    cases hf:tX d.2
    ·clear hf
     go_wp2_with fail
     go_ret
     exact jt.no hb6
    have HN':=zH (aC HN.o (fun x' hx'=>by rw[HX.o] at hx';injection hx' with hx';rw[<-hx'];exact (vD hf).2))
    clear hf
    go_wp2_with fail
    go_roundw
    case rel=>exact ⟨k+1,by omega,by go_num,HN',HB4⟩
    case measure=>simp[intOf];omega
   obtain rfl:k=f.defs.length:=by omega
   have HM:=zH (dY HN.o)
   obtain ⟨f0,f1,f2,f3⟩:=HF4.o _ HB.o
   clear HN
   by_cases e0:f.wires.length<=450
   rotate_left 1
   ·have e0':decide ((f.wires.length:Int)<=450)=false:=by simp;omega
    go_wp2_with fail
    go_ret
    exact jt.no hb
   have e0':decide ((f.wires.length:Int)<=450)=true:=by simp;omega
   by_cases e1:f.defs.length<=450
   rotate_left 1
   ·have e1':decide ((f.defs.length:Int)<=450)=false:=by simp;omega
    go_wp2_with fail
    go_ret
    exact jt.no hb
   have e1':decide ((f.defs.length:Int)<=450)=true:=by simp;omega
   by_cases e2:f.ins.length<=20
   rotate_left 1
   ·have e2':decide ((f.ins.length:Int)<=20)=false:=by simp;omega
    go_wp2_with fail
    go_ret
    exact jt.no hb
   have e2':decide ((f.ins.length:Int)<=20)=true:=by simp;omega
   have HP:Hid (f.outs.length<=20->CE f):=fun h5=>⟨HM.o,e0,e1,e2,h5⟩
   go_wp2_with fail
   go_ret
   exact ⟨⟨_,rfl,fun g=>HP.o (by simp at g;omega)⟩,hb⟩
def kr (x:Ex):Nat:=if x.op=21\/x.op=23 then 1 else if x.op=22 then 2 else 0
noncomputable def AS (e:Ex) (k:Nat):Nat:=(((bC e).take k).map kr).sum
noncomputable def iZ (f:Fl) (k:Nat):Nat:=f.wires.length+3*((f.defs.take k).map (fun d=>ay d.2)).sum
noncomputable def mI (f:Fl) (k:Nat):Nat:=((f.defs.take k).map (fun d=>AS d.2 (ay d.2))).sum
theorem BD {f:Fl} {k:Nat} {d:Int × Ex} (h:f.defs[k]? =some d):iZ f (k+1)=iZ f k+3*ay d.2:=by
 unfold iZ
 rw[bj h,List.map_append,List.sum_append];simp;omega
theorem Cu {f:Fl} {k:Nat} {d:Int × Ex} (h:f.defs[k]? =some d):mI f (k+1)=mI f k+AS d.2 (ay d.2):=by
 unfold mI
 rw[bj h,List.map_append,List.sum_append];simp
open Vf Fo
structure Gr (a b:Nat) (s r:Mk):Prop where
 w:r.wires.length<=s.wires.length+a
 c:r.cells.length<=s.cells.length+b
 ok:s.spent=false->s.wires.length+a<=1600->s.cells.length+b<=60->r.spent=false
section
variable {s r r':Mk} {a b a' b':Nat} {ty k n x:Int} {c:List Gd} {t:Ac}
theorem Gr.refl (s:Mk):Gr 0 0 s s:=⟨Nat.le_refl _,Nat.le_refl _,fun h _ _=>h⟩
theorem Gr.more (h:Gr a b s r) (ha:a<=a') (hb:b<=b'):Gr a' b' s r:=⟨by have:=h.w;omega,by have:=h.c;omega,fun h1 h2 h3=>h.ok h1 (by omega) (by omega)⟩
theorem Gr.trans (h:Gr a b s r) (h':Gr a' b' r r'):Gr (a+a') (b+b') s r':=
 ⟨by have:=h.w;have:=h'.w;omega,by have:=h.c;have:=h'.c;omega,fun h1 h2 h3=>h'.ok (h.ok h1 (by omega) (by omega)) (by have:=h.w;omega) (by have:=h.c;omega)⟩
theorem BH:Gr 1 0 s (s.wire ty c).2:=by
 unfold Mk.wire
 split
 ·exact ⟨by simp,Nat.le_refl _,fun _ h _=>by omega⟩
 ·exact ⟨by simp,Nat.le_refl _,fun h _ _=>h⟩
theorem fL:Gr 1 0 s (s.put ty c t).2:=by
 have:=BH (s:=s) (ty:=ty) (c:=c)
 exact ⟨this.w,this.c,this.ok⟩
theorem tE:Gr 0 1 s (s.cell ty k).2:=by
 unfold Mk.cell
 split
 ·exact ⟨Nat.le_refl _,by simp,fun _ _ h=>by omega⟩
 ·exact ⟨Nat.le_refl _,by simp,fun h _ _=>h⟩
theorem wJ:Gr 1 1 s (s.was x n c).2:=by
 have h1:=tE (s:=s) (ty:=s.ty x) (k:=n)
 have h2:Gr 0 1 s ((s.cell (s.ty x) n).2.keep (s.cell (s.ty x) n).1 x):=⟨h1.w,h1.c,h1.ok⟩
 exact (h2.trans fL).more (by omega) (by omega)
theorem pA:Gr 2 1 s (s.begins c).2:=by
 unfold Mk.begins
 split
 ·exact (Gr.refl s).more (by omega) (by omega)
 ·have h1:=((tE (s:=s) (ty:=2) (k:=1)).trans (fL (ty:=2) (c:=c) (t:=⟨21,0,0,0,0,(s.cell 2 1).1⟩))).trans (fL (ty:=2) (c:=c) (t:=⟨2,0,0,0,0,0⟩))
  exact ⟨h1.w,h1.c,h1.ok⟩
end
noncomputable def oJ (e:Ex):Nat:=((bC e).map kr).sum
theorem Di (e:Ex):oJ e=kr e+(e.args.map oJ).sum:=by
 unfold oJ
 rw[eM]
 simp only[List.map_cons,List.sum_cons]
 congr 1
 induction e.args with
 |nil=>rfl
 |cons x l ih=>simp only[List.map_cons,List.flatten_cons,List.map_append,List.sum_append,List.sum_cons,ih]
theorem AP {f:Fl} (e:Ex):aO f e->∀(c:List Gd) (s:Mk),Gr (3*ay e-1) (oJ e) s (ah e c s).2:=by
 induction e using Ex.ind with
 |h e ih=>
  intro hp c s
  obtain ⟨hp1,hp2⟩:=bq.1 hp
  have hz:=ku e
  have hc:=Di e
  have hpos:=kp
  have ih':∀x∈e.args,∀(c:List Gd) (s:Mk),Gr (3*ay x-1) (oJ x) s (ah x c s).2:=fun x hx=>ih x hx (hp2 x hx)
  rw[cQ,eh]
  dsimp only
  by_cases hs:s.spent=true
  ·rw[if_pos hs]
   exact (Gr.refl s).more (by omega) (by omega)
  rw[if_neg hs]
  by_cases h3:e.op=3
  ·rw[if_pos h3]
   exact (Gr.refl s).more (by omega) (by omega)
  rw[if_neg h3]
  by_cases h12:e.op=1\/e.op=2
  ·rw[if_pos h12]
   exact fL.more (by omega) (by omega)
  rw[if_neg h12]
  have hops:=dq hp1
  by_cases h21:e.op=21
  ·rw[if_pos h21]
   obtain ⟨x,hx⟩:=br hp1 (by omega)
   rw[ar (x:=x) (i:=0) (by rw[hx];rfl)]
   rw[hx] at hz ih' hc
   have hcx:kr e=1:=if_pos (.inl h21)
   simp at hz hc
   have:=hpos x
   exact ((ih' x (by simp) c s).trans wJ).more (by omega) (by omega)
  rw[if_neg h21]
  by_cases h22:e.op=22
  ·rw[if_pos h22]
   obtain ⟨x,y,hx⟩:=aQ hp1 (by omega)
   rw[ar (x:=x) (i:=0) (by rw[hx];rfl),ar (x:=y) (i:=1) (by rw[hx];rfl)]
   rw[hx] at hz ih' hc
   have hcx:kr e=2:=by unfold kr;rw[if_neg (by omega),if_pos h22]
   simp at hz hc
   have:=hpos x
   have:=hpos y
   exact (((((ih' x (by simp) c s).trans (ih' y (by simp) c _)).trans pA).trans wJ).trans fL).more (by omega) (by omega)
  rw[if_neg h22]
  by_cases h23:e.op=23
  ·rw[if_pos h23]
   obtain ⟨x,y,hx⟩:=aQ hp1 (by omega)
   rw[ar (x:=x) (i:=0) (by rw[hx];rfl),ar (x:=y) (i:=1) (by rw[hx];rfl)]
   rw[hx] at hz ih' hc
   have hcx:kr e=1:=if_pos (.inr h23)
   simp at hz hc
   have:=hpos x
   have:=hpos y
   exact ((((ih' x (by simp) c s).trans (ih' y (by simp) c _)).trans pA).trans fL).more (by omega) (by omega)
  rw[if_neg h23]
  by_cases h27:e.op=27
  ·rw[if_pos h27]
   obtain ⟨x,y,z,hx⟩:=eo hp1 h27
   rw[ar (x:=x) (i:=0) (by rw[hx];rfl),ar (x:=y) (i:=1) (by rw[hx];rfl),ar (x:=z) (i:=2) (by rw[hx];rfl)]
   rw[hx] at hz ih' hc
   simp at hz hc
   have:=hpos x
   have:=hpos y
   have:=hpos z
   exact ((((ih' x (by simp) c s).trans (ih' y (by simp) c _)).trans (ih' z (by simp) c _)).trans fL).more (by omega) (by omega)
  rw[if_neg h27]
  by_cases h24:e.op=24\/e.op=25
  ·rw[if_pos h24]
   obtain ⟨x,hx⟩:=br hp1 (by omega)
   rw[ar (x:=x) (i:=0) (by rw[hx];rfl)]
   rw[hx] at hz ih' hc
   simp at hz hc
   have:=hpos x
   exact ((ih' x (by simp) c.dropLast s).trans fL).more (by omega) (by omega)
  rw[if_neg h24]
  by_cases h26:e.op=26
  ·rw[if_pos h26]
   obtain ⟨x,y,hx⟩:=aQ hp1 (by omega)
   rw[ar (x:=x) (i:=0) (by rw[hx];rfl),ar (x:=y) (i:=1) (by rw[hx];rfl)]
   rw[hx] at hz ih' hc
   simp at hz hc
   have:=hpos x
   have:=hpos y
   have h1:=ih' x (by simp) (c++ [⟨e.n,false⟩]) s
   have h2:=ih' y (by simp) (c++ [⟨e.n,true⟩]) (ah x (c++ [⟨e.n,false⟩]) s).2
   exact Gr.more ((h1.trans h2).trans fL) (by omega) (by omega)
  rw[if_neg h26]
  by_cases h2:e.args.length=2
  ·rw[if_pos h2]
   obtain ⟨x,y,hx⟩:=gH h2
   rw[ar (x:=x) (i:=0) (by rw[hx];rfl),ar (x:=y) (i:=1) (by rw[hx];rfl)]
   rw[hx] at hz ih' hc
   simp at hz hc
   have:=hpos x
   have:=hpos y
   exact (((ih' x (by simp) c s).trans (ih' y (by simp) c _)).trans fL).more (by omega) (by omega)
  ·rw[if_neg h2]
   obtain ⟨x,hx⟩:∃x,e.args=[x]:=by
    by_cases h5:e.op=5\/e.op=6
    ·exact br hp1 (by omega)
    ·obtain ⟨x,y,hx⟩:=aQ hp1 (by omega)
     rw[hx] at h2
     exact absurd rfl h2
   rw[ar (x:=x) (i:=0) (by rw[hx];rfl)]
   rw[hx] at hz ih' hc
   simp at hz hc
   have:=hpos x
   exact ((ih' x (by simp) c s).trans fL).more (by omega) (by omega)
theorem Cl (e:Ex):AS e (ay e)=oJ e:=by unfold AS oJ ay;rw[List.take_length]
theorem wM {f:Fl} (hp:∀d∈f.defs,aO f d.2):∀k,k<=f.defs.length->Gr (iZ f k-f.wires.length) (mI f k) (dL f) (bv f k):=by
 intro k
 induction k with
 |zero=>exact fun _=>(Gr.refl _).more (by omega) (by omega)
 |succ k ih=>
  intro hk
  have g:=ih (by omega)
  have hd:=List.getElem?_eq_getElem (show k<f.defs.length by omega)
  rw[gm hd,BD hd,Cu hd,Cl]
  have h:=AP (f:=f) (f.defs[k]).2 (hp _ (List.getElem_mem _)) (aa f.fm (f.defs[k]).1) (bv f k)
  have h2:Gr (3*ay (f.defs[k]).2-1) (oJ (f.defs[k]).2) (bv f k) (js f (bv f k) f.defs[k]):=⟨h.w,h.c,h.ok⟩
  have h3:f.wires.length<=iZ f k:=by unfold iZ;omega
  exact (g.trans h2).more (by omega) (by omega)
theorem ui {f:Fl} (hp:∀d∈f.defs,aO f d.2):(dr f).wires.length<=iZ f f.defs.length/\(dr f).cells.length<=mI f f.defs.length/\((dr f).spent=true->1600<iZ f f.defs.length\/60<mI f f.defs.length):=by
 have g:=wM hp f.defs.length (Nat.le_refl _)
 rw[ei] at g
 have h3:f.wires.length<=iZ f f.defs.length:=by unfold iZ;omega
 refine ⟨by have h1:=g.w;have h2:(dL f).wires.length=f.wires.length:=rfl;omega,by have h1:=g.c;have h2:(dL f).cells.length=0:=rfl;omega,fun hs=>?_⟩
 apply Classical.byContradiction
 intro hn
 have h1:=g.ok rfl (by have h2:(dL f).wires.length=f.wires.length:=rfl;omega) (by have h2:(dL f).cells.length=0:=rfl;omega)
 rw[hs] at h1;cases h1
end Go.Proofs.YtckognjamlckcaaGreatDoor
namespace Go.Proofs.YtckognjamlckcaaGreatDoor.Fo
open Vf
structure cO (s r:Mk):Prop where
 w:s.wires<+:r.wires
 a:s.acts<+:r.acts
 c:s.cells<+:r.cells
 k:s.keeps<+:r.keeps
 sp:r.spent=false->s.spent=false
def bY (s:Mk) (n ty:Int) (c:List Gd):Prop:=∃m:Nat,n=m/\s.wires[m]? =some ⟨ty,c⟩
def nH (s:Mk) (k:Int) (ty v n:Int):Prop:=∃m:Nat,k=m/\s.cells[m]? =some (ty,v)/\s.keeps[m]? =some ((m:Int),n)
def iy (s:Mk) (n:Int) (c:List Gd):Prop:=∃k t,bY s n 2 c/\bY s t 2 c/\nH s k 2 1 t/\(⟨21,n,0,0,0,k⟩:Ac)∈s.acts/\(⟨2,t,0,0,0,0⟩:Ac)∈s.acts
def iQ (s:Mk) (n x:Int) (c:List Gd):Prop:=∃k ty,bY s n ty c/\bY s x ty c/\nH s k ty 0 x/\(⟨21,n,0,0,0,k⟩:Ac)∈s.acts
section
variable {s r t:Mk} {n ty x k v:Int} {c:List Gd}
theorem cO.refl (s:Mk):cO s s:=⟨List.prefix_refl _,List.prefix_refl _,List.prefix_refl _,List.prefix_refl _,id⟩
theorem cO.trans (h:cO s r) (g:cO r t):cO s t:=⟨h.w.trans g.w,h.a.trans g.a,h.c.trans g.c,h.k.trans g.k,fun q=>h.sp (g.sp q)⟩
theorem lH {α:Type} {l m:List α} {i:Nat} {x:α} (h:l<+:m) (hx:l[i]? =some x):m[i]? =some x:=by
 obtain ⟨t,rfl⟩:=h
 rw[List.getElem?_append_left (List.getElem?_eq_some_iff.1 hx).1];exact hx
theorem cO.mem (h:cO s r) {a:Ac} (ha:a∈s.acts):a∈r.acts:=h.a.subset ha
theorem bY.ext (h:cO s r) (g:bY s n ty c):bY r n ty c:=by
 obtain ⟨m,e,q⟩:=g
 exact ⟨m,e,lH h.w q⟩
theorem nH.ext (h:cO s r) (g:nH s k ty v n):nH r k ty v n:=by
 obtain ⟨m,e,q1,q2⟩:=g
 exact ⟨m,e,lH h.c q1,lH h.k q2⟩
theorem iy.ext (h:cO s r) (g:iy s n c):iy r n c:=by
 obtain ⟨k,t,g1,g2,g3,g4,g5⟩:=g
 exact ⟨k,t,g1.ext h,g2.ext h,g3.ext h,h.mem g4,h.mem g5⟩
theorem iQ.ext (h:cO s r) (g:iQ s n x c):iQ r n x c:=by
 obtain ⟨k,t,g1,g2,g3,g4⟩:=g
 exact ⟨k,t,g1.ext h,g2.ext h,g3.ext h,h.mem g4⟩
theorem zu:cO s (s.wire ty c).2:=by
 unfold Mk.wire
 split
 ·exact ⟨List.prefix_refl _,List.prefix_refl _,List.prefix_refl _,List.prefix_refl _,fun h=>by cases h⟩
 ·exact ⟨List.prefix_append _ _,List.prefix_refl _,List.prefix_refl _,List.prefix_refl _,id⟩
theorem gK {a:Ac}:cO s (s.act a):=⟨List.prefix_refl _,List.prefix_append _ _,List.prefix_refl _,List.prefix_refl _,id⟩
theorem av {a:Ac}:cO s (s.put ty c a).2:=zu.trans gK
theorem kd:cO s (s.cell ty k).2:=by
 unfold Mk.cell
 split
 ·exact ⟨List.prefix_refl _,List.prefix_refl _,List.prefix_refl _,List.prefix_refl _,fun h=>by cases h⟩
 ·exact ⟨List.prefix_refl _,List.prefix_refl _,List.prefix_append _ _,List.prefix_refl _,id⟩
theorem ji:cO s (s.keep k n):=⟨List.prefix_refl _,List.prefix_refl _,List.prefix_refl _,List.prefix_append _ _,id⟩
theorem dD:cO s (s.was x k c).2:=(kd.trans ji).trans av
theorem bT:cO s (s.begins c).2:=by
 unfold Mk.begins
 split
 ·exact cO.refl s
 ·have h:=(((kd (s:=s) (ty:=2) (k:=1)).trans (av (ty:=2) (c:=c) (a:=⟨21,0,0,0,0,(s.cell 2 1).1⟩))).trans (av (ty:=2) (c:=c) (a:=⟨2,0,0,0,0,0⟩)))
  exact ⟨h.w,h.a,h.c,h.k.trans (List.prefix_append _ _),h.sp⟩
theorem cX {a:Ac} (h:(s.put ty c a).2.spent=false):bY (s.put ty c a).2 (s.put ty c a).1 ty c/\{a with dst:=(s.put ty c a).1}∈(s.put ty c a).2.acts:=by
 refine ⟨?_,by simp[Mk.put,Mk.act]⟩
 have h':(s.wire ty c).2.spent=false:=h
 show ∃m:Nat,(s.wire ty c).1=m/\(s.wire ty c).2.wires[m]? =some ⟨ty,c⟩
 unfold Mk.wire at h'⊢
 split at h'
 ·cases h'
 ·rename_i hn
  rw[if_neg hn]
  exact ⟨s.wires.length,rfl,by simp⟩
end
structure NK (s:Mk):Prop where
 kc:s.keeps.length=s.cells.length
 fst:∀p∈s.first,iy s p.2 p.1
section
variable {s r t:Mk} {n ty x k v:Int} {c:List Gd}
theorem gt (h:bY s x ty c):s.ty x=ty:=by
 obtain ⟨m,rfl,hm⟩:=h
 unfold Mk.ty
 rw[Int.toNat_natCast,List.getD_eq_getElem?_getD,hm];rfl
theorem tL (h:(s.cell ty k).2.spent=false):(s.cell ty k).1=(s.cells.length:Int)/\(s.cell ty k).2.cells=s.cells++ [(ty,k)]:=by
 unfold Mk.cell at h⊢
 split at h
 ·cases h
 ·rename_i hn
  rw[if_neg hn]
  exact ⟨rfl,rfl⟩
theorem sn:(s.cell ty k).2.wires=s.wires/\(s.cell ty k).2.acts=s.acts/\(s.cell ty k).2.keeps=s.keeps/\(s.cell ty k).2.first=s.first:=by
 unfold Mk.cell;split<;>exact ⟨rfl,rfl,rfl,rfl⟩
theorem jL {a:Ac}:(s.put ty c a).2.cells=s.cells/\(s.put ty c a).2.keeps=s.keeps/\(s.put ty c a).2.first=s.first:=by
 unfold Mk.put Mk.wire Mk.act;dsimp only;split<;>exact ⟨rfl,rfl,rfl⟩
theorem NK.put {a:Ac} (h:NK s):NK (s.put ty c a).2:=by
 obtain ⟨q1,q2,q3⟩:=jL (s:=s) (ty:=ty) (c:=c) (a:=a)
 exact ⟨by rw[q1,q2];exact h.kc,by rw[q3];exact fun p hp=>(h.fst p hp).ext av⟩
theorem sD (hk:NK s) (hx:bY s x ty c) (h:(s.was x 0 c).2.spent=false):iQ (s.was x 0 c).2 (s.was x 0 c).1 x c/\NK (s.was x 0 c).2:=by
 have hty:=gt hx
 unfold Mk.was at h⊢
 rw[hty] at h⊢
 have h1:(s.cell ty 0).2.spent=false:=(ji.trans (av (s:=(s.cell ty 0).2.keep (s.cell ty 0).1 x))).sp h
 obtain ⟨e1,e2⟩:=tL h1
 obtain ⟨f1,f2,f3,f4⟩:=sn (s:=s) (ty:=ty) (k:=0)
 obtain ⟨p1,p2⟩:=cX h
 obtain ⟨q1,q2,q3⟩:=jL (s:=(s.cell ty 0).2.keep (s.cell ty 0).1 x) (ty:=ty) (c:=c) (a:=⟨21,0,0,0,0,(s.cell ty 0).1⟩)
 have hE:cO s (((s.cell ty 0).2.keep (s.cell ty 0).1 x).put ty c ⟨21,0,0,0,0,(s.cell ty 0).1⟩).2:=(kd.trans ji).trans av
 refine ⟨⟨(s.cell ty 0).1,ty,p1,hx.ext hE,⟨s.cells.length,e1,?_,?_⟩,p2⟩,?_,?_⟩
 ·rw[q1]
  show (s.cell ty 0).2.cells[_]? =_
  rw[e2];simp
 ·rw[q2]
  show ((s.cell ty 0).2.keeps++ [((s.cell ty 0).1,x)])[_]? =_
  rw[f3,e1,<-hk.kc];simp
 ·rw[q1,q2]
  show ((s.cell ty 0).2.keeps++ [((s.cell ty 0).1,x)]).length=(s.cell ty 0).2.cells.length
  rw[f3,e2];simp[hk.kc]
 ·rw[q3]
  show ∀p∈(s.cell ty 0).2.first,_
  rw[f4]
  exact fun p hp=>(hk.fst p hp).ext hE
theorem ju (hk:NK s) (h:(s.begins c).2.spent=false):iy (s.begins c).2 (s.begins c).1 c/\NK (s.begins c).2:=by
 have hE:=bT (s:=s) (c:=c)
 unfold Mk.begins at h hE⊢
 split at h
 ·rename_i w hw
  obtain ⟨p,hp,rfl⟩:=Option.map_eq_some_iff.1 hw
  have h1:=hk.fst p (List.mem_of_find?_eq_some hp)
  have h2:=List.find?_some hp
  rw[cb.1 h2] at h1
  exact ⟨h1,hk⟩
 ·rename_i hw
  rw[hw] at hE
  dsimp only at h hE⊢
  have ht:(((s.cell 2 1).2.put 2 c ⟨21,0,0,0,0,(s.cell 2 1).1⟩).2.put 2 c ⟨2,0,0,0,0,0⟩).2.spent=false:=h
  have hw1:=av.sp ht
  have hc1:=av.sp hw1
  obtain ⟨e1,e2⟩:=tL hc1
  obtain ⟨f1,f2,f3,f4⟩:=sn (s:=s) (ty:=2) (k:=1)
  obtain ⟨p1,p2⟩:=cX hw1
  obtain ⟨u1,u2⟩:=cX ht
  refine' zq156
  generalize hw2:(s.cell 2 1).2.put 2 c ⟨21,0,0,0,0,(s.cell 2 1).1⟩=W at*
  generalize ht2:W.2.put 2 c ⟨2,0,0,0,0,0⟩=T at*
  have hx2:cO W.2 {T.2.keep (s.cell 2 1).1 T.1 with first:=(c,W.1)::T.2.first}:=⟨hx.w,hx.a,hx.c,hx.k.trans (List.prefix_append _ _),hx.sp⟩
  have hb:iy {T.2.keep (s.cell 2 1).1 T.1 with first:=(c,W.1)::T.2.first} W.1 c:=by
   refine ⟨(s.cell 2 1).1,T.1,p1.ext hx2,u1,⟨s.cells.length,e1,?_,?_⟩,hx2.mem p2,u2⟩
   ·show T.2.cells[_]? =_
    rw[v1,q1,e2];simp
   ·show (T.2.keeps++ [((s.cell 2 1).1,T.1)])[_]? =_
    rw[v2,q2,f3,e1,<-hk.kc];simp
  refine ⟨hb,?_,fun p hp=>?_⟩
  ·show (T.2.keeps++ [((s.cell 2 1).1,T.1)]).length=T.2.cells.length
   rw[v1,q1,e2,v2,q2,f3];simp[hk.kc]
  ·rcases List.mem_cons.1 hp with rfl|hp
   ·exact hb
   ·rw[v3,q3,f4] at hp
    exact (hk.fst p hp).ext hE
end
end Go.Proofs.YtckognjamlckcaaGreatDoor.Fo
