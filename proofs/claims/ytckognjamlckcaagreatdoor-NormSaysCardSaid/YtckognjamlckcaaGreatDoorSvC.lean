/-
  The document's run of a flat: an expression's value (printed by gen_svc.py).
-/
import Derived.Test.YtckognjamlckcaaGreatDoorSvB
set_option maxHeartbeats 16000000
set_option maxRecDepth 100000
namespace Go.Proofs.YtckognjamlckcaaGreatDoor
open Go.RowKit Vf Fo Ar
attribute [local go_sem ↓] Go.wp_at_zero Go.wp_at_succ
theorem Rn.Post.ret {q:Rn} {W W':World} {x y:Int} {K V:Nat->List Int} (hw:Wf x) (h:q.At W' K V) (u:ae q.X W W') (hxy:x=y):q.Post W y (.returned (.int .i64 x)) W':=by
 subst hxy
 exact ⟨rfl,hw,⟨_,_,h⟩,u⟩
theorem fc.slice {q:Rn} {W:World} {A:Option Addr} {cc m:Nat} {c:List Gd} (h:fc q W (.slice A c.length cc) c) (hm:m<=c.length):fc q W (.slice A m cc) (c.take m):=fun W' u=>by
 obtain ⟨A',c',hA,l1,m1,s⟩:=h W' u
 injection hA with h1 _ h3
 subst h1;subst h3
 have hl:(c.take m).length=m:=by rw[List.length_take,Nat.min_eq_left hm]
 exact ⟨A,cc,by rw[hl],by omega,m1,s.take _⟩
theorem CX {q:Rn} {t:Nat} (ht:t<=1000000) (hth:∀s,s<t->∀n,ak q.f.fm n->nj q s n) (hof:∀s,s<t->∀e,aO q.f e->ri q s e) (hww:∀n,ak q.f.fm n->Wf n) (e:Ex):aO q.f e->(∀m∈aU e,nj q t m)->ri q t e:=by
 induction e using Ex.ind with
 |h e ih=>
  intro hp hwr c W K V A cap v h hok hcap hmax hx hv hc hg hsz
  obtain ⟨hp1,hp2⟩:=bq.1 hp
  have hops:=dq hp1
  have b1:Below W.heap.size W (W.alloc (.cells (bi e A cap) 75)):=bE
  have rX:=ai.new W (bi e A cap) 75
  have HXL:Hid (∀k,q.X k->k<W.heap.size):=fun k ⟨n,hn,g⟩=>by
   rcases g with g|g
   ·have:=(h.k n hn).lt;omega
   ·have:=(h.v n hn).lt;omega
  have hXN:¬q.X W.heap.size:=fun g=>by have:=HXL.o _ g;omega
  obtain ⟨Ac,cc,hvc,hlc,hmc,_⟩:=hv W (ae.refl _ _)
  subst hvc
  have U1:Hid (ae q.X W (W.alloc (.cells (bi e A cap) 75))):=ae.of_below b1
  have h1:=h.below b1
  have hv1:=hv.next U1.o
  have hx1:=hx.below (h.low U1.o)
  have hokn:=hok.n
  have HP1:=zH hp1
  have HG:=zH hg
  have HC:=zH hc
  have HIH:Hid (∀(i:Nat) y,e.args[i]? =some y->(∀m∈aU y,m∈aU e)->ri q t y):=fun i y hi hs=>ih y (List.mem_of_getElem? hi) (hp2 y (List.mem_of_getElem? hi)) (fun m hm=>hwr m (hs m hm))
  have HOF:Hid (∀s,s<t->∀(i:Nat) y,e.args[i]? =some y->ri q s y):=fun s hs i y hi=>hof s hs y (hp2 y (List.mem_of_getElem? hi))
  have HTH:Hid (∀s,s<t->∀n,ak q.f.fm n->nj q s n):=hth
  have HWR:Hid (aJ e.op=true->∀W K V,q.At W K V->Calls Tryz.prog 56 #[.pointer (some ⟨q.R,0,none⟩),.int .i64 e.n,.int .i64 t] W (q.Post W (q.wv t e.n))):=fun hn=>hwr e.n (kK hn)
  have HPC:Hid (∀i y,e.args[i]? =some y->e.op≠3->aE q.f y (aA e c i)/\(aA e c i).length+ax y<=1600):=fun i y hi h3=>⟨((bL h3).1 hg).2.2 i y hi,by
   have:=eX (List.mem_of_getElem? hi)
   have:=j' (e:=e) (c:=c) i
   omega⟩
  have hcap':cap<=9223372036854775807:=by unfold maxLen at hmax;omega
  have hmc':cc<=9223372036854775807:=by unfold maxLen at hmc;omega
  have HSZ:=zH hsz
  clear ih hp hwr h hok hx hv hg hc hsz hp1 hp2 hof hth hmax hmc b1
  go_enter Tryz.func92,Tryz.ntmps92
  go_upto_region 1 with (fail)
  generalize W.alloc (.cells (bi e A cap) 75)=w1 at*
  have HE6:Hid (∀W',ae q.X w1 W'->W'.cell? ⟨W.heap.size,0,none⟩=some (.int .i64 e.op)/\W'.cell? ⟨W.heap.size,1,none⟩=some (.string e.name)/\W'.cell? ⟨W.heap.size,2,none⟩=some (.int .i64 e.n)/\W'.cell? ⟨W.heap.size,3,none⟩=some (.slice A e.args.length cap)/\W'.cell? ⟨W.heap.size,4,none⟩=some (.int .i64 e.line)/\W'.cell? ⟨W.heap.size,5,none⟩=some (.int .i64 e.col)):=fun W' u=>(u.row rX hXN).six'
  have H1:=zH h1
  have HX:=zH hx1
  have HCL:=zH hv1
  have V1:Hid (ae q.X w1 w1):=ae.refl _ _
  have hsW:=U1.o.size
  clear h1 hx1 hv1 rX
  obtain ⟨e0,e1,e2,e3,e4,e5⟩:=HE6.o _ (ae.refl _ _)
  have HOE:=zH (xi q.wv e c t)
  by_cases o12:e.op<=2
  ·have z1:decide (e.op<=2)=true:=decide_eq_true o12
   have HF:Hid (e.n=bZ q.wv e c t):=by
    have g:=HOE.o
    rw[ia] at g
    dsimp only at g
    rw[if_pos o12] at g
    exact g.symm
   clear o12
   go_wp2_with fail
   go_ret
   exact Rn.Post.ret hokn H1.o U1.o HF.o
  have z1:decide (e.op<=2)=false:=decide_eq_false o12
  by_cases o3:e.op=3
  ·have z2:(e.op==3)=true:=by rw[beq_iff_eq];exact o3
   have HF:Hid (q.wv t e.n=bZ q.wv e c t):=by
    have g:=HOE.o
    rw[ia] at g
    dsimp only at g
    rw[if_neg o12,if_pos o3] at g
    exact g.symm
   have HW:=zH (HWR.o (dK.2 (.inl o3)) _ _ _ H1.o)
   clear o12 o3
   go_wp2_with fail
   (with_reducible refine HW.o.mono ?_)
   rintro r w2 ⟨rfl,hw2,⟨K2,V2,h2⟩,hu2⟩
   have H2:=zH h2
   have U2:=zH (U1.o.trans hu2)
   clear h2 hu2
   go_wp2_with fail
   go_ret
   exact Rn.Post.ret hw2 H2.o U2.o HF.o
  have z2:(e.op==3)=false:=by rw[beq_eq_false_iff_ne];exact o3
  have hpos:0<e.args.length:=by
   have:=bU HP1.o
   unfold aX at this
   repeat' split at this
   all_goals omega
  obtain ⟨b,off,hA⟩:∃b off,A=some ⟨b,off,none⟩:=by
   obtain ⟨b,off,_,_,_,hA,_⟩:=HX.o.at_ hpos
   exact ⟨b,off,hA⟩
  subst hA
  have HCH:Hid (∀(i:Nat) y,e.args[i]? =some y->∃A' cap',cW y/\y.args.length<=cap'/\cap'<=maxLen/\(∀W',ae q.X w1 W'->aM W' q.B A' y.args)/\∀W',ae q.X w1 W'->W'.cell? ⟨b,off+i*6,none⟩=some (.int .i64 y.op)/\W'.cell? ⟨b,off+i*6+1,none⟩=some (.string y.name)/\W'.cell? ⟨b,off+i*6+2,none⟩=some (.int .i64 y.n)/\W'.cell? ⟨b,off+i*6+3,none⟩=some (.slice A' y.args.length cap')/\W'.cell? ⟨b,off+i*6+4,none⟩=some (.int .i64 y.line)/\W'.cell? ⟨b,off+i*6+5,none⟩=some (.int .i64 y.col)):=fun i y hi=>by
   obtain ⟨b',off',y',A',cap',hA,hbb',hxk,_,hok',hcap',hmax',hx',d0,d1,d2,d3,d4,d5⟩:=HX.o.at_ (List.getElem?_eq_some_iff.1 hi).1
   injection hA with hA
   injection hA with g1 g2
   subst g1;subst g2
   obtain rfl:y'=y:=by rw[hi] at hxk;injection hxk with g;exact g.symm
   refine ⟨A',cap',hok',hcap',hmax',fun W' u=>hx'.below (H1.o.low u),fun W' u=>?_⟩
   have hb:=H1.o.low u
   exact ⟨(hb.cell (p:=⟨b,off+i*6,none⟩) hbb').trans d0,(hb.cell (p:=⟨b,off+i*6+1,none⟩) hbb').trans d1,(hb.cell (p:=⟨b,off+i*6+2,none⟩) hbb').trans d2,(hb.cell (p:=⟨b,off+i*6+3,none⟩) hbb').trans d3,(hb.cell (p:=⟨b,off+i*6+4,none⟩) hbb').trans d4,(hb.cell (p:=⟨b,off+i*6+5,none⟩) hbb').trans d5⟩
  by_cases o27:e.op=27
  ·obtain ⟨x0,x1,x2,hxs⟩:=eo HP1.o o27
   have hi0:e.args[0]? =some x0:=by rw[hxs];rfl
   have hi1:e.args[1]? =some x1:=by rw[hxs];rfl
   have hi2:e.args[2]? =some x2:=by rw[hxs];rfl
   have hl:e.args.length=3:=by rw[hxs];rfl
   obtain ⟨A0,p0,ok0,cp0,mx0,hx0,hd0⟩:=HCH.o 0 x0 hi0
   have HX0:=zH hx0
   have HD0:Hid (∀W',ae q.X w1 W'->W'.cell? ⟨b,off,none⟩=some (.int .i64 x0.op)/\W'.cell? ⟨b,off+1,none⟩=some (.string x0.name)/\W'.cell? ⟨b,off+2,none⟩=some (.int .i64 x0.n)/\W'.cell? ⟨b,off+3,none⟩=some (.slice A0 x0.args.length p0)/\W'.cell? ⟨b,off+4,none⟩=some (.int .i64 x0.line)/\W'.cell? ⟨b,off+5,none⟩=some (.int .i64 x0.col)):=fun W' u=>by
    have g:=hd0 W' u
    simp only[Nat.zero_mul,Nat.add_zero] at g
    exact g
   obtain ⟨A1,p1,ok1,cp1,mx1,hx1,hd1⟩:=HCH.o 1 x1 hi1
   have HX1:=zH hx1
   have HD1:Hid (∀W',ae q.X w1 W'->W'.cell? ⟨b,off+6,none⟩=some (.int .i64 x1.op)/\W'.cell? ⟨b,off+6+1,none⟩=some (.string x1.name)/\W'.cell? ⟨b,off+6+2,none⟩=some (.int .i64 x1.n)/\W'.cell? ⟨b,off+6+3,none⟩=some (.slice A1 x1.args.length p1)/\W'.cell? ⟨b,off+6+4,none⟩=some (.int .i64 x1.line)/\W'.cell? ⟨b,off+6+5,none⟩=some (.int .i64 x1.col)):=fun W' u=>by
    have g:=hd1 W' u
    simp only[Nat.one_mul] at g
    exact g
   obtain ⟨A2,p2,ok2,cp2,mx2,hx2,hd2⟩:=HCH.o 2 x2 hi2
   have HX2:=zH hx2
   have HD2:Hid (∀W',ae q.X w1 W'->W'.cell? ⟨b,off+2*6,none⟩=some (.int .i64 x2.op)/\W'.cell? ⟨b,off+2*6+1,none⟩=some (.string x2.name)/\W'.cell? ⟨b,off+2*6+2,none⟩=some (.int .i64 x2.n)/\W'.cell? ⟨b,off+2*6+3,none⟩=some (.slice A2 x2.args.length p2)/\W'.cell? ⟨b,off+2*6+4,none⟩=some (.int .i64 x2.line)/\W'.cell? ⟨b,off+2*6+5,none⟩=some (.int .i64 x2.col)):=fun W' u=>by
    have g:=hd2 W' u
    exact g
   rw[hl] at e3
   clear hxs hx0 hd0 hx1 hd1 hx2 hd2
   have z3:(e.op==24)=false:=by rw[beq_eq_false_iff_ne];omega
   have z4:(e.op==25)=false:=by rw[beq_eq_false_iff_ne];omega
   have z5:(e.op==26)=false:=by rw[beq_eq_false_iff_ne];omega
   have z6:(e.op==27)=true:=by rw[beq_iff_eq];omega
   have hgHK0:∀g∈c,ak q.f.fm g.wire:=HC.o
   have hgoHK0:aE q.f x0 c/\c.length+ax x0<=1600:=by
    have g:=HPC.o 0 x0 hi0 o3
    rwa [show aA e c 0=c by unfold aA;rw[if_neg (by omega),if_neg (by omega)]] at g
   have HK0:Hid (∀W1 K V v1,q.At W1 K V->aM W1 q.B A0 x0.args->fc q W1 v1 (c)->Calls Tryz.prog 92 #[.pointer (some ⟨q.R,0,none⟩),bz x0 A0 p0,v1,.int .i64 (t:Int)] W1 (q.Post W1 (bZ q.wv x0 (c) t))):=fun W1 K V v1 g1 g2 g3=>HIH.o 0 x0 hi0 (cP (List.mem_of_getElem? hi0) (by omega) (by omega)) _ W1 K V A0 p0 v1 g1 ok0 cp0 mx0 g2 g3 hgHK0 hgoHK0.1 hgoHK0.2
   have hgHK1:∀g∈c,ak q.f.fm g.wire:=HC.o
   have hgoHK1:aE q.f x1 c/\c.length+ax x1<=1600:=by
    have g:=HPC.o 1 x1 hi1 o3
    rwa [show aA e c 1=c by unfold aA;rw[if_neg (by omega),if_neg (by omega)]] at g
   have HK1:Hid (∀W1 K V v1,q.At W1 K V->aM W1 q.B A1 x1.args->fc q W1 v1 (c)->Calls Tryz.prog 92 #[.pointer (some ⟨q.R,0,none⟩),bz x1 A1 p1,v1,.int .i64 (t:Int)] W1 (q.Post W1 (bZ q.wv x1 (c) t))):=fun W1 K V v1 g1 g2 g3=>HIH.o 1 x1 hi1 (cP (List.mem_of_getElem? hi1) (by omega) (by omega)) _ W1 K V A1 p1 v1 g1 ok1 cp1 mx1 g2 g3 hgHK1 hgoHK1.1 hgoHK1.2
   have hgHK2:∀g∈c,ak q.f.fm g.wire:=HC.o
   have hgoHK2:aE q.f x2 c/\c.length+ax x2<=1600:=by
    have g:=HPC.o 2 x2 hi2 o3
    rwa [show aA e c 2=c by unfold aA;rw[if_neg (by omega),if_neg (by omega)]] at g
   have HK2:Hid (∀W1 K V v1,q.At W1 K V->aM W1 q.B A2 x2.args->fc q W1 v1 (c)->Calls Tryz.prog 92 #[.pointer (some ⟨q.R,0,none⟩),bz x2 A2 p2,v1,.int .i64 (t:Int)] W1 (q.Post W1 (bZ q.wv x2 (c) t))):=fun W1 K V v1 g1 g2 g3=>HIH.o 2 x2 hi2 (cP (List.mem_of_getElem? hi2) (by omega) (by omega)) _ W1 K V A2 p2 v1 g1 ok2 cp2 mx2 g2 g3 hgHK2 hgoHK2.1 hgoHK2.2
   by_cases h0:bZ q.wv x0 c t=0
   ·have zz:(bZ q.wv x0 c t !=0)=false:=by simp[h0]
    have HF:Hid (bZ q.wv x2 c t=bZ q.wv e c t):=by
     have g:=HOE.o
     rw[ia] at g
     dsimp only at g
     rw[if_neg (show ¬e.op<=2 by omega),if_neg (show ¬e.op=3 by omega),if_neg (by omega),if_neg (by omega),if_pos o27] at g
     simp only[dZ hi0,dZ hi1,dZ hi2] at g
     rw[if_neg (by simp[h0])] at g
     exact g.symm
    clear h0 o27 o12 o3
    obtain ⟨d0,d1,d2,d3,d4,d5⟩:=HD0.o _ V1.o
    have hcall:=zH (HK0.o _ _ _ _ H1.o (HX0.o _ V1.o) (HCL.o.next V1.o))
    go_wp2_with fail
    (with_reducible refine hcall.out.mono ?_)
    rintro r w2 ⟨rfl,hw2,⟨K2,V2',h2⟩,hu2⟩
    have H2:=zH h2
    have V2:=zH (V1.o.trans hu2)
    have U2:=zH (U1.o.trans hu2)
    clear h2 hu2 hcall d0 d1 d2 d3 d4 d5
    clear e0 e1 e2 e3 e4 e5
    obtain ⟨e0,e1,e2,e3,e4,e5⟩:=HE6.o _ V2.o
    rw[hl] at e3
    obtain ⟨d0,d1,d2,d3,d4,d5⟩:=HD2.o _ V2.o
    have hcall:=zH (HK2.o _ _ _ _ H2.o (HX2.o _ V2.o) (HCL.o.next V2.o))
    go_wp2_with fail
    (with_reducible refine hcall.out.mono ?_)
    rintro r w3 ⟨rfl,hw3,⟨K3,V3',h3⟩,hu3⟩
    have H3:=zH h3
    have V3:=zH (V2.o.trans hu3)
    have U3:=zH (U2.o.trans hu3)
    clear h3 hu3 hcall d0 d1 d2 d3 d4 d5
    go_wp2_with fail
    go_ret
    exact Rn.Post.ret hw3 H3.o U3.o HF.o
   ·have zz:(bZ q.wv x0 c t !=0)=true:=by simp[h0]
    have HF:Hid (bZ q.wv x1 c t=bZ q.wv e c t):=by
     have g:=HOE.o
     rw[ia] at g
     dsimp only at g
     rw[if_neg (show ¬e.op<=2 by omega),if_neg (show ¬e.op=3 by omega),if_neg (by omega),if_neg (by omega),if_pos o27] at g
     simp only[dZ hi0,dZ hi1,dZ hi2] at g
     rw[if_pos h0] at g
     exact g.symm
    clear h0 o27 o12 o3
    obtain ⟨d0,d1,d2,d3,d4,d5⟩:=HD0.o _ V1.o
    have hcall:=zH (HK0.o _ _ _ _ H1.o (HX0.o _ V1.o) (HCL.o.next V1.o))
    go_wp2_with fail
    (with_reducible refine hcall.out.mono ?_)
    rintro r w2 ⟨rfl,hw2,⟨K2,V2',h2⟩,hu2⟩
    have H2:=zH h2
    have V2:=zH (V1.o.trans hu2)
    have U2:=zH (U1.o.trans hu2)
    clear h2 hu2 hcall d0 d1 d2 d3 d4 d5
    clear e0 e1 e2 e3 e4 e5
    obtain ⟨e0,e1,e2,e3,e4,e5⟩:=HE6.o _ V2.o
    rw[hl] at e3
    obtain ⟨d0,d1,d2,d3,d4,d5⟩:=HD1.o _ V2.o
    have hcall:=zH (HK1.o _ _ _ _ H2.o (HX1.o _ V2.o) (HCL.o.next V2.o))
    go_wp2_with fail
    (with_reducible refine hcall.out.mono ?_)
    rintro r w3 ⟨rfl,hw3,⟨K3,V3',h3⟩,hu3⟩
    have H3:=zH h3
    have V3:=zH (V2.o.trans hu3)
    have U3:=zH (U2.o.trans hu3)
    clear h3 hu3 hcall d0 d1 d2 d3 d4 d5
    go_wp2_with fail
    go_ret
    exact Rn.Post.ret hw3 H3.o U3.o HF.o
  by_cases o26:e.op=26
  ·obtain ⟨x0,x1,hxs⟩:=aQ HP1.o (by omega)
   have hi0:e.args[0]? =some x0:=by rw[hxs];rfl
   have hi1:e.args[1]? =some x1:=by rw[hxs];rfl
   have hl:e.args.length=2:=by rw[hxs];rfl
   obtain ⟨A0,p0,ok0,cp0,mx0,hx0,hd0⟩:=HCH.o 0 x0 hi0
   have HX0:=zH hx0
   have HD0:Hid (∀W',ae q.X w1 W'->W'.cell? ⟨b,off,none⟩=some (.int .i64 x0.op)/\W'.cell? ⟨b,off+1,none⟩=some (.string x0.name)/\W'.cell? ⟨b,off+2,none⟩=some (.int .i64 x0.n)/\W'.cell? ⟨b,off+3,none⟩=some (.slice A0 x0.args.length p0)/\W'.cell? ⟨b,off+4,none⟩=some (.int .i64 x0.line)/\W'.cell? ⟨b,off+5,none⟩=some (.int .i64 x0.col)):=fun W' u=>by
    have g:=hd0 W' u
    simp only[Nat.zero_mul,Nat.add_zero] at g
    exact g
   obtain ⟨A1,p1,ok1,cp1,mx1,hx1,hd1⟩:=HCH.o 1 x1 hi1
   have HX1:=zH hx1
   have HD1:Hid (∀W',ae q.X w1 W'->W'.cell? ⟨b,off+6,none⟩=some (.int .i64 x1.op)/\W'.cell? ⟨b,off+6+1,none⟩=some (.string x1.name)/\W'.cell? ⟨b,off+6+2,none⟩=some (.int .i64 x1.n)/\W'.cell? ⟨b,off+6+3,none⟩=some (.slice A1 x1.args.length p1)/\W'.cell? ⟨b,off+6+4,none⟩=some (.int .i64 x1.line)/\W'.cell? ⟨b,off+6+5,none⟩=some (.int .i64 x1.col)):=fun W' u=>by
    have g:=hd1 W' u
    simp only[Nat.one_mul] at g
    exact g
   rw[hl] at e3
   clear hxs hx0 hd0 hx1 hd1
   have z3:(e.op==24)=false:=by rw[beq_eq_false_iff_ne];omega
   have z4:(e.op==25)=false:=by rw[beq_eq_false_iff_ne];omega
   have z5:(e.op==26)=true:=by rw[beq_iff_eq];omega
   have z6:(e.op==27)=false:=by rw[beq_eq_false_iff_ne];omega
   have hen:=cC HP1.o (dK.2 (by omega))
   have hwen:=hww _ hen
   have hgHK0:∀g∈c++ [(⟨e.n,false⟩:Gd)],ak q.f.fm g.wire:=fun g hg=>by
    rcases List.mem_append.1 hg with hg|hg
    ·exact HC.o g hg
    ·rw[List.mem_singleton.1 hg];exact hen
   have hgoHK0:aE q.f x0 (c++ [(⟨e.n,false⟩:Gd)])/\(c++ [(⟨e.n,false⟩:Gd)]).length+ax x0<=1600:=by
    have g:=HPC.o 0 x0 hi0 o3
    rwa [show aA e c 0=c++ [(⟨e.n,false⟩:Gd)] by unfold aA;rw[if_neg (by omega),if_pos o26];rfl] at g
   have HK0:Hid (∀W1 K V v1,q.At W1 K V->aM W1 q.B A0 x0.args->fc q W1 v1 (c++ [(⟨e.n,false⟩:Gd)])->Calls Tryz.prog 92 #[.pointer (some ⟨q.R,0,none⟩),bz x0 A0 p0,v1,.int .i64 (t:Int)] W1 (q.Post W1 (bZ q.wv x0 (c++ [(⟨e.n,false⟩:Gd)]) t))):=fun W1 K V v1 g1 g2 g3=>HIH.o 0 x0 hi0 (cP (List.mem_of_getElem? hi0) (by omega) (by omega)) _ W1 K V A0 p0 v1 g1 ok0 cp0 mx0 g2 g3 hgHK0 hgoHK0.1 hgoHK0.2
   have hgHK1:∀g∈c++ [(⟨e.n,true⟩:Gd)],ak q.f.fm g.wire:=fun g hg=>by
    rcases List.mem_append.1 hg with hg|hg
    ·exact HC.o g hg
    ·rw[List.mem_singleton.1 hg];exact hen
   have hgoHK1:aE q.f x1 (c++ [(⟨e.n,true⟩:Gd)])/\(c++ [(⟨e.n,true⟩:Gd)]).length+ax x1<=1600:=by
    have g:=HPC.o 1 x1 hi1 o3
    rwa [show aA e c 1=c++ [(⟨e.n,true⟩:Gd)] by unfold aA;rw[if_neg (by omega),if_pos o26];rfl] at g
   have HK1:Hid (∀W1 K V v1,q.At W1 K V->aM W1 q.B A1 x1.args->fc q W1 v1 (c++ [(⟨e.n,true⟩:Gd)])->Calls Tryz.prog 92 #[.pointer (some ⟨q.R,0,none⟩),bz x1 A1 p1,v1,.int .i64 (t:Int)] W1 (q.Post W1 (bZ q.wv x1 (c++ [(⟨e.n,true⟩:Gd)]) t))):=fun W1 K V v1 g1 g2 g3=>HIH.o 1 x1 hi1 (cP (List.mem_of_getElem? hi1) (by omega) (by omega)) _ W1 K V A1 p1 v1 g1 ok1 cp1 mx1 g2 g3 hgHK1 hgoHK1.1 hgoHK1.2
   have hcll:c.length<=1600:=by have:=HSZ.o;omega
   have HW:=zH (HWR.o (dK.2 (by omega)) _ _ _ H1.o)
   by_cases h0:q.wv t e.n=0
   ·have zz:(q.wv t e.n !=0)=false:=by simp[h0]
    have HF:Hid (bZ q.wv x1 (c++ [⟨e.n,true⟩]) t=bZ q.wv e c t):=by
     have g:=HOE.o
     rw[ia] at g
     dsimp only at g
     rw[if_neg (show ¬e.op<=2 by omega),if_neg (show ¬e.op=3 by omega),if_neg (by omega),if_pos o26] at g
     simp only[dZ hi0,dZ hi1] at g
     rw[if_neg (by simp[h0])] at g
     exact g.symm
    clear h0 hgHK0 hgHK1 hgoHK0 hgoHK1 hen o26 o27 o12 o3
    go_wp2_with fail
    (with_reducible refine HW.o.mono ?_)
    rintro r w2 ⟨rfl,hw2,⟨K2,V2',h2⟩,hu2⟩
    have H2:=zH h2
    have V2:=zH (V1.o.trans hu2)
    have U2:=zH (U1.o.trans hu2)
    have hs2:=hu2.size
    clear h2 hu2 HW
    clear e0 e1 e2 e3 e4 e5
    obtain ⟨e0,e1,e2,e3,e4,e5⟩:=HE6.o _ V2.o
    rw[hl] at e3
    have HWT:Hid (∀bb W',Below w2.heap.size w2 W'->Calls Tryz.prog 71 #[.slice Ac c.length cc,.int .i64 e.n,.bool bb] W' (qe c ⟨e.n,bb⟩ W')):=fun bb W' hW=>mY c _ W' (HCL.o W' (V2.o.trans (ae.of_below hW))) hcll ⟨e.n,bb⟩ hwen
    have HS:Hid (∀W',ae q.X w2 W'->W'.cell? ⟨W.heap.size,2,none⟩=some (.int .i64 e.n)/\W'.cell? ⟨b,off+6,none⟩=some (.int .i64 x1.op)/\W'.cell? ⟨b,off+6+1,none⟩=some (.string x1.name)/\W'.cell? ⟨b,off+6+2,none⟩=some (.int .i64 x1.n)/\W'.cell? ⟨b,off+6+3,none⟩=some (.slice A1 x1.args.length p1)/\W'.cell? ⟨b,off+6+4,none⟩=some (.int .i64 x1.line)/\W'.cell? ⟨b,off+6+5,none⟩=some (.int .i64 x1.col)):=fun W' u=>⟨(HE6.o _ (V2.o.trans u)).2.2.1,HD1.o _ (V2.o.trans u)⟩
    have HXK:Hid (∀k,q.X k->k<w2.heap.size):=fun k hk=>by have:=HXL.o k hk;omega
    generalize hEE:W.heap.size=E at*
    go_upto_region 11 with (fail)
    refine wp_region_held_drew (S:=fun W=>W.cell? ⟨E,2,none⟩=some (.int .i64 e.n)/\W.cell? ⟨b,off+6,none⟩=some (.int .i64 x1.op)/\W.cell? ⟨b,off+6+1,none⟩=some (.string x1.name)/\W.cell? ⟨b,off+6+2,none⟩=some (.int .i64 x1.n)/\W.cell? ⟨b,off+6+3,none⟩=some (.slice A1 x1.args.length p1)/\W.cell? ⟨b,off+6+4,none⟩=some (.int .i64 x1.line)/\W.cell? ⟨b,off+6+5,none⟩=some (.int .i64 x1.col)) (by kernel_rfl) ?_ (fun hHeld=>?_)
    ·(try dsimp only);(first|exact HS.o _ hu9'|exact HS.o _ (ae.of_below hb8')|exact HS.o _ (ae.of_below ((Below.refl _ _).drew)))
    refine tk 0 (some 69) rfl ?_
    refine tk 1 (some 70) rfl ?_
    refine tk 2 (some 71) rfl ?_
    refine tk 3 (some 72) rfl ?_
    refine tk 4 (some 73) rfl ?_
    refine tk 5 (some 74) rfl ?_
    refine tk 6 (some 75) rfl ?_
    refine tk 8 (some 77) rfl ?_
    refine aH 7 (some 76) rfl (fun KK hKK=>?_)
    go_simp
    (go_at_call 71;refine Calls.mono (HWT.o _ _ ((Below.refl _ _).drew)) ?_;rintro e w8 ⟨v8,rfl,⟨n8,cs8,own8,hs8⟩,hb8⟩;(have hb8':Below w2.heap.size w2 w8:=Below.trans ((Below.refl w2.heap.size w2).drew) hb8);(have hcl8:fc q w8 v8 (c++ [⟨e.n,true⟩]):=fun W' u=>hs8 W' (aN own8 u (fun k hk hX=>by have h1:=(own8.lt k hk).1;have h2:=HXK.o k hX;simp at h1;omega))))
    (try go_wp2_with fail)
    refine hKK.out _ _ ?_ (fun hHeld=>?_)
    ·(try dsimp only);(first|exact HS.o _ hu9'|exact HS.o _ (ae.of_below hb8')|exact HS.o _ (ae.of_below ((Below.refl _ _).drew)))
    clear hKK KK
    try simp only[Act.put,List.setIfInBounds_toArray,List.set_cons_zero,List.set_cons_succ]
    refine aH 9 (some 78) rfl (fun KK hKK=>?_)
    go_simp
    (go_at_call 92;refine Calls.mono (HK1.o _ _ _ _ (H2.o.below hb8') (HX1.o _ (V2.o.trans (ae.of_below hb8'))) hcl8) ?_;rintro e w9 ⟨rfl,hw9,⟨K9,V9,h9⟩,hu9⟩;(have hu9':ae q.X w2 w9:=(ae.of_below hb8').trans hu9))
    (try go_wp2_with fail)
    refine hKK.out _ _ ?_ (fun hHeld=>?_)
    ·(try dsimp only);(first|exact HS.o _ hu9'|exact HS.o _ (ae.of_below hb8')|exact HS.o _ (ae.of_below ((Below.refl _ _).drew)))
    clear hKK KK
    try simp only[Act.put,List.setIfInBounds_toArray,List.set_cons_zero,List.set_cons_succ]
    refine tk 10 (some 8) rfl ?_
    refine wpAnyH_done (by kernel_rfl) ?_ _
    have H9:=zH h9
    have U9:=zH (U2.o.trans hu9')
    clear h9 hu9 hu9' hHeld
    go_wp2_with fail
    go_ret
    exact Rn.Post.ret hw9 H9.o U9.o HF.o
   ·have zz:(q.wv t e.n !=0)=true:=by simp[h0]
    have HF:Hid (bZ q.wv x0 (c++ [⟨e.n,false⟩]) t=bZ q.wv e c t):=by
     have g:=HOE.o
     rw[ia] at g
     dsimp only at g
     rw[if_neg (show ¬e.op<=2 by omega),if_neg (show ¬e.op=3 by omega),if_neg (by omega),if_pos o26] at g
     simp only[dZ hi0,dZ hi1] at g
     rw[if_pos h0] at g
     exact g.symm
    clear h0 hgHK0 hgHK1 hgoHK0 hgoHK1 hen o26 o27 o12 o3
    go_wp2_with fail
    (with_reducible refine HW.o.mono ?_)
    rintro r w2 ⟨rfl,hw2,⟨K2,V2',h2⟩,hu2⟩
    have H2:=zH h2
    have V2:=zH (V1.o.trans hu2)
    have U2:=zH (U1.o.trans hu2)
    have hs2:=hu2.size
    clear h2 hu2 HW
    clear e0 e1 e2 e3 e4 e5
    obtain ⟨e0,e1,e2,e3,e4,e5⟩:=HE6.o _ V2.o
    rw[hl] at e3
    have HWT:Hid (∀bb W',Below w2.heap.size w2 W'->Calls Tryz.prog 71 #[.slice Ac c.length cc,.int .i64 e.n,.bool bb] W' (qe c ⟨e.n,bb⟩ W')):=fun bb W' hW=>mY c _ W' (HCL.o W' (V2.o.trans (ae.of_below hW))) hcll ⟨e.n,bb⟩ hwen
    have HS:Hid (∀W',ae q.X w2 W'->W'.cell? ⟨W.heap.size,2,none⟩=some (.int .i64 e.n)/\W'.cell? ⟨b,off,none⟩=some (.int .i64 x0.op)/\W'.cell? ⟨b,off+1,none⟩=some (.string x0.name)/\W'.cell? ⟨b,off+2,none⟩=some (.int .i64 x0.n)/\W'.cell? ⟨b,off+3,none⟩=some (.slice A0 x0.args.length p0)/\W'.cell? ⟨b,off+4,none⟩=some (.int .i64 x0.line)/\W'.cell? ⟨b,off+5,none⟩=some (.int .i64 x0.col)):=fun W' u=>⟨(HE6.o _ (V2.o.trans u)).2.2.1,HD0.o _ (V2.o.trans u)⟩
    have HXK:Hid (∀k,q.X k->k<w2.heap.size):=fun k hk=>by have:=HXL.o k hk;omega
    generalize hEE:W.heap.size=E at*
    go_upto_region 10 with (fail)
    refine wp_region_held_drew (S:=fun W=>W.cell? ⟨E,2,none⟩=some (.int .i64 e.n)/\W.cell? ⟨b,off,none⟩=some (.int .i64 x0.op)/\W.cell? ⟨b,off+1,none⟩=some (.string x0.name)/\W.cell? ⟨b,off+2,none⟩=some (.int .i64 x0.n)/\W.cell? ⟨b,off+3,none⟩=some (.slice A0 x0.args.length p0)/\W.cell? ⟨b,off+4,none⟩=some (.int .i64 x0.line)/\W.cell? ⟨b,off+5,none⟩=some (.int .i64 x0.col)) (by kernel_rfl) ?_ (fun hHeld=>?_)
    ·(try dsimp only);(first|exact HS.o _ hu9'|exact HS.o _ (ae.of_below hb8')|exact HS.o _ (ae.of_below ((Below.refl _ _).drew)))
    refine tk 0 (some 59) rfl ?_
    refine tk 1 (some 60) rfl ?_
    refine tk 2 (some 61) rfl ?_
    refine tk 3 (some 62) rfl ?_
    refine tk 4 (some 63) rfl ?_
    refine tk 5 (some 64) rfl ?_
    refine tk 6 (some 65) rfl ?_
    refine tk 8 (some 67) rfl ?_
    refine aH 7 (some 66) rfl (fun KK hKK=>?_)
    go_simp
    (go_at_call 71;refine Calls.mono (HWT.o _ _ ((Below.refl _ _).drew)) ?_;rintro e w8 ⟨v8,rfl,⟨n8,cs8,own8,hs8⟩,hb8⟩;(have hb8':Below w2.heap.size w2 w8:=Below.trans ((Below.refl w2.heap.size w2).drew) hb8);(have hcl8:fc q w8 v8 (c++ [⟨e.n,false⟩]):=fun W' u=>hs8 W' (aN own8 u (fun k hk hX=>by have h1:=(own8.lt k hk).1;have h2:=HXK.o k hX;simp at h1;omega))))
    (try go_wp2_with fail)
    refine hKK.out _ _ ?_ (fun hHeld=>?_)
    ·(try dsimp only);(first|exact HS.o _ hu9'|exact HS.o _ (ae.of_below hb8')|exact HS.o _ (ae.of_below ((Below.refl _ _).drew)))
    clear hKK KK
    try simp only[Act.put,List.setIfInBounds_toArray,List.set_cons_zero,List.set_cons_succ]
    refine aH 9 (some 68) rfl (fun KK hKK=>?_)
    go_simp
    (go_at_call 92;refine Calls.mono (HK0.o _ _ _ _ (H2.o.below hb8') (HX0.o _ (V2.o.trans (ae.of_below hb8'))) hcl8) ?_;rintro e w9 ⟨rfl,hw9,⟨K9,V9,h9⟩,hu9⟩;(have hu9':ae q.X w2 w9:=(ae.of_below hb8').trans hu9))
    (try go_wp2_with fail)
    refine hKK.out _ _ ?_ (fun hHeld=>?_)
    ·(try dsimp only);(first|exact HS.o _ hu9'|exact HS.o _ (ae.of_below hb8')|exact HS.o _ (ae.of_below ((Below.refl _ _).drew)))
    clear hKK KK
    try simp only[Act.put,List.setIfInBounds_toArray,List.set_cons_zero,List.set_cons_succ]
    refine tk 10 (some 8) rfl ?_
    refine wpAnyH_done (by kernel_rfl) ?_ _
    have H9:=zH h9
    have U9:=zH (U2.o.trans hu9')
    clear h9 hu9 hu9' hHeld
    go_wp2_with fail
    go_ret
    exact Rn.Post.ret hw9 H9.o U9.o HF.o
  by_cases o24:e.op=24\/e.op=25
  ·obtain ⟨x0,hxs⟩:=br HP1.o (by omega)
   have hi0:e.args[0]? =some x0:=by rw[hxs];rfl
   have hl:e.args.length=1:=by rw[hxs];rfl
   obtain ⟨A0,p0,ok0,cp0,mx0,hx0,hd0⟩:=HCH.o 0 x0 hi0
   have HX0:=zH hx0
   have HD0:Hid (∀W',ae q.X w1 W'->W'.cell? ⟨b,off,none⟩=some (.int .i64 x0.op)/\W'.cell? ⟨b,off+1,none⟩=some (.string x0.name)/\W'.cell? ⟨b,off+2,none⟩=some (.int .i64 x0.n)/\W'.cell? ⟨b,off+3,none⟩=some (.slice A0 x0.args.length p0)/\W'.cell? ⟨b,off+4,none⟩=some (.int .i64 x0.line)/\W'.cell? ⟨b,off+5,none⟩=some (.int .i64 x0.col)):=fun W' u=>by
    have g:=hd0 W' u
    simp only[Nat.zero_mul,Nat.add_zero] at g
    exact g
   rw[hl] at e3
   clear hxs hx0 hd0
   have z5:(e.op==24)=true\/((e.op==24)=false/\(e.op==25)=true):=by
    rcases o24 with g|g
    ·exact .inl (by rw[g];rfl)
    ·exact .inr ⟨by rw[g];rfl,by rw[g];rfl⟩
   have hgl:=((bL o3).1 HG.o).1 o24
   have hcl:c.length≠0:=fun g=>by rw[List.eq_nil_of_length_eq_zero g] at hgl;cases hgl
   obtain ⟨m,hm⟩:∃m,c.length=m+1:=⟨c.length-1,by omega⟩
   have hdl:c.dropLast=c.take m:=by rw[List.dropLast_eq_take,hm];rfl
   have hgHK0:∀g∈c.take m,ak q.f.fm g.wire:=fun g hg=>HC.o g (List.mem_of_mem_take hg)
   have hgoHK0:aE q.f x0 (c.take m)/\(c.take m).length+ax x0<=1600:=by
    have g:=HPC.o 0 x0 hi0 o3
    rwa [show aA e c 0=c.take m by unfold aA;rw[if_pos o24,hdl]] at g
   have HK0:Hid (∀W1 K V v1,q.At W1 K V->aM W1 q.B A0 x0.args->fc q W1 v1 (c.take m)->Calls Tryz.prog 92 #[.pointer (some ⟨q.R,0,none⟩),bz x0 A0 p0,v1,.int .i64 (t:Int)] W1 (q.Post W1 (bZ q.wv x0 (c.take m) t))):=fun W1 K V v1 g1 g2 g3=>HIH.o 0 x0 hi0 (cP (List.mem_of_getElem? hi0) (by omega) (by omega)) _ W1 K V A0 p0 v1 g1 ok0 cp0 mx0 g2 g3 hgHK0 hgoHK0.1 hgoHK0.2
   have HF:Hid (bZ q.wv x0 (c.take m) t=bZ q.wv e c t):=by
    have g:=HOE.o
    rw[ia] at g
    dsimp only at g
    rw[if_neg (show ¬e.op<=2 by omega),if_neg (show ¬e.op=3 by omega),if_pos o24,dZ hi0,hdl] at g
    exact g.symm
   obtain ⟨b2,o2,hAc⟩:∃b2 o2,Ac=some ⟨b2,o2,none⟩:=by
    obtain ⟨A',c',hA,_,_,s⟩:=HCL.o w1 (ae.refl _ _)
    injection hA with g1 _ _
    obtain ⟨b2,o2,_,h2,_⟩:=s.gd (show m<c.length by omega)
    exact ⟨b2,o2,g1.trans h2⟩
   subst hAc
   have HC2:=zH (HCL.o.slice (m:=m) (by omega))
   have k1:(c.length:Int)-1=(m:Int):=by omega
   have k3:m<=cc:=by omega
   have k4:(m:Int)<=(cc:Int):=by omega
   have k5:(m:Int)<=(c.length:Int):=by omega
   have k6:(0:Int)<=(m:Int):=by omega
   have kw:IntKind.i64.wrap (m:Int)=(m:Int):=IntWalk.i64_in _ (by omega)
   have k7:decide ((m:Int)<0)=false:=by simp
   clear o24 hgl hcl hm hdl hgHK0 hgoHK0 o12 o3 o26 o27
   generalize c.length=CL at*
   rcases z5 with z5|⟨z5,z5'⟩
   all_goals
    go_upto_region 7 with (fail)
    refine wp_region_held_drew (S:=fun W=>W.cell? ⟨b,off,none⟩=some (.int .i64 x0.op)/\W.cell? ⟨b,off+1,none⟩=some (.string x0.name)/\W.cell? ⟨b,off+2,none⟩=some (.int .i64 x0.n)/\W.cell? ⟨b,off+3,none⟩=some (.slice A0 x0.args.length p0)/\W.cell? ⟨b,off+4,none⟩=some (.int .i64 x0.line)/\W.cell? ⟨b,off+5,none⟩=some (.int .i64 x0.col)) (by kernel_rfl) ?_ (fun hHeld=>?_)
    ·(try dsimp only);(first|exact HD0.o _ hu9'|exact HD0.o _ (ae.of_below ((Below.refl _ _).drew)))
    refine tk 0 (some 39) rfl ?_
    refine tk 1 (some 40) rfl ?_
    refine tk 2 (some 41) rfl ?_
    refine tk 3 (some 42) rfl ?_
    refine tk 4 (some 43) rfl ?_
    refine tk 5 (some 44) rfl ?_
    refine tk 6 (some 45) rfl ?_
    refine tk 7 (some 46) rfl ?_
    refine tk 8 (some 47) rfl ?_
    refine tk 9 (some 48) rfl ?_
    refine aH 10 (some 49) rfl (fun KK hKK=>?_)
    go_simp
    (go_at_call 92;refine Calls.mono (HK0.o _ _ _ _ (H1.o.below ((Below.refl _ _).drew)) (HX0.o _ (ae.of_below ((Below.refl _ _).drew))) (HC2.o.next (ae.of_below ((Below.refl _ _).drew)))) ?_;rintro e w9 ⟨rfl,hw9,⟨K9,V9,h9⟩,hu9⟩;(have hu9':ae q.X w1 w9:=(ae.of_below ((Below.refl _ _).drew)).trans hu9))
    (try go_wp2_with fail)
    refine hKK.out _ _ ?_ (fun hHeld=>?_)
    ·(try dsimp only);(first|exact HD0.o _ hu9'|exact HD0.o _ (ae.of_below ((Below.refl _ _).drew)))
    clear hKK KK
    try simp only[Act.put,List.setIfInBounds_toArray,List.set_cons_zero,List.set_cons_succ]
    refine tk 11 (some 8) rfl ?_
    refine wpAnyH_done (by kernel_rfl) ?_ _
    have H9:=zH h9
    have U9:=zH (U1.o.trans hu9')
    clear h9 hu9 hu9' hHeld
    go_wp2_with fail
    go_ret
    exact Rn.Post.ret hw9 H9.o U9.o HF.o
  have z3:(e.op==24)=false:=by rw[beq_eq_false_iff_ne];omega
  have z4:(e.op==25)=false:=by rw[beq_eq_false_iff_ne];omega
  have z5:(e.op==26)=false:=by rw[beq_eq_false_iff_ne];omega
  have z6:(e.op==27)=false:=by rw[beq_eq_false_iff_ne];omega
  by_cases o21:21<=e.op
  ·have z7:decide ((21:Int)<=e.op)=true:=decide_eq_true o21
   have HBF:=zH (zc ht c (fun s hs=>Cb (HTH.o s hs) c HC.o) _ _ _ _ H1.o HCL.o)
   obtain ⟨bo,hbo⟩:∃bo,fv q.wv c t=bo:=⟨_,rfl⟩
   rw[hbo] at HBF
   by_cases o21x:e.op=21
   ·obtain ⟨x0,hxs⟩:=br HP1.o (by omega)
    have hi0:e.args[0]? =some x0:=by rw[hxs];rfl
    have hl:e.args.length=1:=by rw[hxs];rfl
    obtain ⟨A0,p0,ok0,cp0,mx0,hx0,hd0⟩:=HCH.o 0 x0 hi0
    have HX0:=zH hx0
    have HD0:Hid (∀W',ae q.X w1 W'->W'.cell? ⟨b,off,none⟩=some (.int .i64 x0.op)/\W'.cell? ⟨b,off+1,none⟩=some (.string x0.name)/\W'.cell? ⟨b,off+2,none⟩=some (.int .i64 x0.n)/\W'.cell? ⟨b,off+3,none⟩=some (.slice A0 x0.args.length p0)/\W'.cell? ⟨b,off+4,none⟩=some (.int .i64 x0.line)/\W'.cell? ⟨b,off+5,none⟩=some (.int .i64 x0.col)):=fun W' u=>by
     have g:=hd0 W' u
     simp only[Nat.zero_mul,Nat.add_zero] at g
     exact g
    rw[hl] at e3
    clear hxs hx0 hd0
    have z8:(e.op==21)=true:=by rw[beq_iff_eq];omega
    cases bo with
    |none=>
     have HF:Hid (0=bZ q.wv e c t):=by
      have g:=HOE.o
      rw[ia] at g
      dsimp only at g
      rw[if_neg (show ¬e.op<=2 by omega),if_neg (show ¬e.op=3 by omega),if_neg (by omega),if_neg (by omega),if_neg (by omega),if_pos o21x,hbo] at g
      exact g.symm
     clear hbo o12 o3 o24 o26 o27 o21
     clear o21x
     have HB2:Hid (Calls Tryz.prog 108 #[.pointer (some ⟨q.R,0,none⟩),.slice Ac c.length cc,.int .i64 t] w1 (q.Then w1 (.int .i64 (-1)))):=HBF.o
     clear HBF
     go_wp2_with fail
     (with_reducible refine HB2.o.mono ?_)
     rintro r w2 ⟨rfl,⟨K2,V2',h2⟩,hu2⟩
     have H2:=zH h2
     have V2:=zH (V1.o.trans hu2)
     have U2:=zH (U1.o.trans hu2)
     clear h2 hu2 HB2
     clear e0 e1 e2 e3 e4 e5
     obtain ⟨e0,e1,e2,e3,e4,e5⟩:=HE6.o _ V2.o
     rw[hl] at e3
     go_wp2_with fail
     go_ret
     exact Rn.Post.ret (aT (by omega)) H2.o U2.o HF.o
    |some s=>
     have hst:s<t:=lU hbo
     have zs:decide ((s:Int)<0)=false:=decide_eq_false (by omega)
     have hgHK0:∀g∈c,ak q.f.fm g.wire:=HC.o
     have hgoHK0:aE q.f x0 c/\c.length+ax x0<=1600:=by
      have g:=HPC.o 0 x0 hi0 o3
      rwa [show aA e c 0=c by unfold aA;rw[if_neg (by omega),if_neg (by omega)]] at g
     have HK0:Hid (∀W1 K V v1,q.At W1 K V->aM W1 q.B A0 x0.args->fc q W1 v1 (c)->Calls Tryz.prog 92 #[.pointer (some ⟨q.R,0,none⟩),bz x0 A0 p0,v1,.int .i64 (s:Int)] W1 (q.Post W1 (bZ q.wv x0 (c) s))):=fun W1 K V v1 g1 g2 g3=>HOF.o s hst 0 x0 hi0 _ W1 K V A0 p0 v1 g1 ok0 cp0 mx0 g2 g3 hgHK0 hgoHK0.1 hgoHK0.2
     have HF:Hid (bZ q.wv x0 c s=bZ q.wv e c t):=by
      have g:=HOE.o
      rw[ia] at g
      dsimp only at g
      rw[if_neg (show ¬e.op<=2 by omega),if_neg (show ¬e.op=3 by omega),if_neg (by omega),if_neg (by omega),if_neg (by omega),if_pos o21x,hbo,dZ hi0] at g
      exact g.symm
     clear hbo o12 o3 o24 o26 o27 o21
     clear o21x
     have HB2:Hid (Calls Tryz.prog 108 #[.pointer (some ⟨q.R,0,none⟩),.slice Ac c.length cc,.int .i64 t] w1 (q.Then w1 (.int .i64 (s:Int)))):=HBF.o
     clear HBF
     go_wp2_with fail
     (with_reducible refine HB2.o.mono ?_)
     rintro r w2 ⟨rfl,⟨K2,V2',h2⟩,hu2⟩
     have H2:=zH h2
     have V2:=zH (V1.o.trans hu2)
     have U2:=zH (U1.o.trans hu2)
     clear h2 hu2 HB2
     clear e0 e1 e2 e3 e4 e5
     obtain ⟨e0,e1,e2,e3,e4,e5⟩:=HE6.o _ V2.o
     rw[hl] at e3
     obtain ⟨d0,d1,d2,d3,d4,d5⟩:=HD0.o _ V2.o
     have hcall:=zH (HK0.o _ _ _ _ H2.o (HX0.o _ V2.o) (HCL.o.next V2.o))
     go_wp2_with fail
     (with_reducible refine hcall.out.mono ?_)
     rintro r w3 ⟨rfl,hw3,⟨K3,V3',h3⟩,hu3⟩
     have H3:=zH h3
     have V3:=zH (V2.o.trans hu3)
     have U3:=zH (U2.o.trans hu3)
     clear h3 hu3 hcall d0 d1 d2 d3 d4 d5
     go_wp2_with fail
     go_ret
     exact Rn.Post.ret hw3 H3.o U3.o HF.o
   have z8:(e.op==21)=false:=by rw[beq_eq_false_iff_ne];omega
   by_cases o22x:e.op=22
   ·obtain ⟨x0,x1,hxs⟩:=aQ HP1.o (by omega)
    have hxs':=hxs
    have hi0:e.args[0]? =some x0:=by rw[hxs];rfl
    have hi1:e.args[1]? =some x1:=by rw[hxs];rfl
    have hl:e.args.length=2:=by rw[hxs];rfl
    obtain ⟨A0,p0,ok0,cp0,mx0,hx0,hd0⟩:=HCH.o 0 x0 hi0
    have HX0:=zH hx0
    have HD0:Hid (∀W',ae q.X w1 W'->W'.cell? ⟨b,off,none⟩=some (.int .i64 x0.op)/\W'.cell? ⟨b,off+1,none⟩=some (.string x0.name)/\W'.cell? ⟨b,off+2,none⟩=some (.int .i64 x0.n)/\W'.cell? ⟨b,off+3,none⟩=some (.slice A0 x0.args.length p0)/\W'.cell? ⟨b,off+4,none⟩=some (.int .i64 x0.line)/\W'.cell? ⟨b,off+5,none⟩=some (.int .i64 x0.col)):=fun W' u=>by
     have g:=hd0 W' u
     simp only[Nat.zero_mul,Nat.add_zero] at g
     exact g
    obtain ⟨A1,p1,ok1,cp1,mx1,hx1,hd1⟩:=HCH.o 1 x1 hi1
    have HX1:=zH hx1
    have HD1:Hid (∀W',ae q.X w1 W'->W'.cell? ⟨b,off+6,none⟩=some (.int .i64 x1.op)/\W'.cell? ⟨b,off+6+1,none⟩=some (.string x1.name)/\W'.cell? ⟨b,off+6+2,none⟩=some (.int .i64 x1.n)/\W'.cell? ⟨b,off+6+3,none⟩=some (.slice A1 x1.args.length p1)/\W'.cell? ⟨b,off+6+4,none⟩=some (.int .i64 x1.line)/\W'.cell? ⟨b,off+6+5,none⟩=some (.int .i64 x1.col)):=fun W' u=>by
     have g:=hd1 W' u
     simp only[Nat.one_mul] at g
     exact g
    rw[hl] at e3
    clear hxs hx0 hd0 hx1 hd1
    have z9:(e.op==22)=true:=by first|(rw[beq_iff_eq];omega)|(rw[beq_eq_false_iff_ne];omega)
    cases bo with
    |none=>
     have hgHK0:∀g∈c,ak q.f.fm g.wire:=HC.o
     have hgoHK0:aE q.f x0 c/\c.length+ax x0<=1600:=by
      have g:=HPC.o 0 x0 hi0 o3
      rwa [show aA e c 0=c by unfold aA;rw[if_neg (by omega),if_neg (by omega)]] at g
     have HK0:Hid (∀W1 K V v1,q.At W1 K V->aM W1 q.B A0 x0.args->fc q W1 v1 (c)->Calls Tryz.prog 92 #[.pointer (some ⟨q.R,0,none⟩),bz x0 A0 p0,v1,.int .i64 (t:Int)] W1 (q.Post W1 (bZ q.wv x0 (c) t))):=fun W1 K V v1 g1 g2 g3=>HIH.o 0 x0 hi0 (pt hxs' o22x) _ W1 K V A0 p0 v1 g1 ok0 cp0 mx0 g2 g3 hgHK0 hgoHK0.1 hgoHK0.2
     have HF:Hid (bZ q.wv x0 c t=bZ q.wv e c t):=by
      have g:=HOE.o
      rw[ia] at g
      dsimp only at g
      rw[if_neg (show ¬e.op<=2 by omega),if_neg (show ¬e.op=3 by omega),if_neg (by omega),if_neg (by omega),if_neg (by omega),if_neg (by omega),if_pos o22x,hbo] at g
      simp only[dZ hi0] at g
      exact g.symm
     clear hbo o12 o3 o24 o26 o27 o21
     clear o21x o22x
     have HB2:Hid (Calls Tryz.prog 108 #[.pointer (some ⟨q.R,0,none⟩),.slice Ac c.length cc,.int .i64 t] w1 (q.Then w1 (.int .i64 (-1)))):=HBF.o
     clear HBF
     go_wp2_with fail
     (with_reducible refine HB2.o.mono ?_)
     rintro r w2 ⟨rfl,⟨K2,V2',h2⟩,hu2⟩
     have H2:=zH h2
     have V2:=zH (V1.o.trans hu2)
     have U2:=zH (U1.o.trans hu2)
     clear h2 hu2 HB2
     clear e0 e1 e2 e3 e4 e5
     obtain ⟨e0,e1,e2,e3,e4,e5⟩:=HE6.o _ V2.o
     rw[hl] at e3
     obtain ⟨d0,d1,d2,d3,d4,d5⟩:=HD0.o _ V2.o
     have hcall:=zH (HK0.o _ _ _ _ H2.o (HX0.o _ V2.o) (HCL.o.next V2.o))
     go_wp2_with fail
     (with_reducible refine hcall.out.mono ?_)
     rintro r w3 ⟨rfl,hw3,⟨K3,V3',h3⟩,hu3⟩
     have H3:=zH h3
     have V3:=zH (V2.o.trans hu3)
     have U3:=zH (U2.o.trans hu3)
     clear h3 hu3 hcall d0 d1 d2 d3 d4 d5
     go_wp2_with fail
     go_ret
     exact Rn.Post.ret hw3 H3.o U3.o HF.o
    |some s=>
     have hst:s<t:=lU hbo
     have zs:decide ((s:Int)<0)=false:=decide_eq_false (by omega)
     have hgHK1:∀g∈c,ak q.f.fm g.wire:=HC.o
     have hgoHK1:aE q.f x1 c/\c.length+ax x1<=1600:=by
      have g:=HPC.o 1 x1 hi1 o3
      rwa [show aA e c 1=c by unfold aA;rw[if_neg (by omega),if_neg (by omega)]] at g
     have HK1:Hid (∀W1 K V v1,q.At W1 K V->aM W1 q.B A1 x1.args->fc q W1 v1 (c)->Calls Tryz.prog 92 #[.pointer (some ⟨q.R,0,none⟩),bz x1 A1 p1,v1,.int .i64 (s:Int)] W1 (q.Post W1 (bZ q.wv x1 (c) s))):=fun W1 K V v1 g1 g2 g3=>HOF.o s hst 1 x1 hi1 _ W1 K V A1 p1 v1 g1 ok1 cp1 mx1 g2 g3 hgHK1 hgoHK1.1 hgoHK1.2
     have HF:Hid (bZ q.wv x1 c s=bZ q.wv e c t):=by
      have g:=HOE.o
      rw[ia] at g
      dsimp only at g
      rw[if_neg (show ¬e.op<=2 by omega),if_neg (show ¬e.op=3 by omega),if_neg (by omega),if_neg (by omega),if_neg (by omega),if_neg (by omega),if_pos o22x,hbo] at g
      simp only[dZ hi1] at g
      exact g.symm
     clear hbo o12 o3 o24 o26 o27 o21
     clear o21x o22x
     have HB2:Hid (Calls Tryz.prog 108 #[.pointer (some ⟨q.R,0,none⟩),.slice Ac c.length cc,.int .i64 t] w1 (q.Then w1 (.int .i64 (s:Int)))):=HBF.o
     clear HBF
     go_wp2_with fail
     (with_reducible refine HB2.o.mono ?_)
     rintro r w2 ⟨rfl,⟨K2,V2',h2⟩,hu2⟩
     have H2:=zH h2
     have V2:=zH (V1.o.trans hu2)
     have U2:=zH (U1.o.trans hu2)
     clear h2 hu2 HB2
     clear e0 e1 e2 e3 e4 e5
     obtain ⟨e0,e1,e2,e3,e4,e5⟩:=HE6.o _ V2.o
     rw[hl] at e3
     obtain ⟨d0,d1,d2,d3,d4,d5⟩:=HD1.o _ V2.o
     have hcall:=zH (HK1.o _ _ _ _ H2.o (HX1.o _ V2.o) (HCL.o.next V2.o))
     go_wp2_with fail
     (with_reducible refine hcall.out.mono ?_)
     rintro r w3 ⟨rfl,hw3,⟨K3,V3',h3⟩,hu3⟩
     have H3:=zH h3
     have V3:=zH (V2.o.trans hu3)
     have U3:=zH (U2.o.trans hu3)
     clear h3 hu3 hcall d0 d1 d2 d3 d4 d5
     go_wp2_with fail
     go_ret
     exact Rn.Post.ret hw3 H3.o U3.o HF.o
   have o23x:e.op=23:=by omega
   obtain ⟨x0,x1,hxs⟩:=aQ HP1.o (by omega)
   have hi0:e.args[0]? =some x0:=by rw[hxs];rfl
   have hi1:e.args[1]? =some x1:=by rw[hxs];rfl
   have hl:e.args.length=2:=by rw[hxs];rfl
   obtain ⟨A0,p0,ok0,cp0,mx0,hx0,hd0⟩:=HCH.o 0 x0 hi0
   have HX0:=zH hx0
   have HD0:Hid (∀W',ae q.X w1 W'->W'.cell? ⟨b,off,none⟩=some (.int .i64 x0.op)/\W'.cell? ⟨b,off+1,none⟩=some (.string x0.name)/\W'.cell? ⟨b,off+2,none⟩=some (.int .i64 x0.n)/\W'.cell? ⟨b,off+3,none⟩=some (.slice A0 x0.args.length p0)/\W'.cell? ⟨b,off+4,none⟩=some (.int .i64 x0.line)/\W'.cell? ⟨b,off+5,none⟩=some (.int .i64 x0.col)):=fun W' u=>by
    have g:=hd0 W' u
    simp only[Nat.zero_mul,Nat.add_zero] at g
    exact g
   obtain ⟨A1,p1,ok1,cp1,mx1,hx1,hd1⟩:=HCH.o 1 x1 hi1
   have HX1:=zH hx1
   have HD1:Hid (∀W',ae q.X w1 W'->W'.cell? ⟨b,off+6,none⟩=some (.int .i64 x1.op)/\W'.cell? ⟨b,off+6+1,none⟩=some (.string x1.name)/\W'.cell? ⟨b,off+6+2,none⟩=some (.int .i64 x1.n)/\W'.cell? ⟨b,off+6+3,none⟩=some (.slice A1 x1.args.length p1)/\W'.cell? ⟨b,off+6+4,none⟩=some (.int .i64 x1.line)/\W'.cell? ⟨b,off+6+5,none⟩=some (.int .i64 x1.col)):=fun W' u=>by
    have g:=hd1 W' u
    simp only[Nat.one_mul] at g
    exact g
   rw[hl] at e3
   clear hxs hx0 hd0 hx1 hd1
   have z9:(e.op==22)=false:=by first|(rw[beq_iff_eq];omega)|(rw[beq_eq_false_iff_ne];omega)
   cases bo with
   |none=>
    have hgHK0:∀g∈c,ak q.f.fm g.wire:=HC.o
    have hgoHK0:aE q.f x0 c/\c.length+ax x0<=1600:=by
     have g:=HPC.o 0 x0 hi0 o3
     rwa [show aA e c 0=c by unfold aA;rw[if_neg (by omega),if_neg (by omega)]] at g
    have HK0:Hid (∀W1 K V v1,q.At W1 K V->aM W1 q.B A0 x0.args->fc q W1 v1 (c)->Calls Tryz.prog 92 #[.pointer (some ⟨q.R,0,none⟩),bz x0 A0 p0,v1,.int .i64 (t:Int)] W1 (q.Post W1 (bZ q.wv x0 (c) t))):=fun W1 K V v1 g1 g2 g3=>HIH.o 0 x0 hi0 (cP (List.mem_of_getElem? hi0) (by omega) (by omega)) _ W1 K V A0 p0 v1 g1 ok0 cp0 mx0 g2 g3 hgHK0 hgoHK0.1 hgoHK0.2
    have HF:Hid (bZ q.wv x0 c t=bZ q.wv e c t):=by
     have g:=HOE.o
     rw[ia] at g
     dsimp only at g
     rw[if_neg (show ¬e.op<=2 by omega),if_neg (show ¬e.op=3 by omega),if_neg (by omega),if_neg (by omega),if_neg (by omega),if_neg (by omega),if_neg o22x,if_pos o23x,hbo] at g
     simp only[dZ hi0] at g
     exact g.symm
    clear hbo o12 o3 o24 o26 o27 o21
    clear o21x o22x o23x
    have HB2:Hid (Calls Tryz.prog 108 #[.pointer (some ⟨q.R,0,none⟩),.slice Ac c.length cc,.int .i64 t] w1 (q.Then w1 (.int .i64 (-1)))):=HBF.o
    clear HBF
    go_wp2_with fail
    (with_reducible refine HB2.o.mono ?_)
    rintro r w2 ⟨rfl,⟨K2,V2',h2⟩,hu2⟩
    have H2:=zH h2
    have V2:=zH (V1.o.trans hu2)
    have U2:=zH (U1.o.trans hu2)
    clear h2 hu2 HB2
    clear e0 e1 e2 e3 e4 e5
    obtain ⟨e0,e1,e2,e3,e4,e5⟩:=HE6.o _ V2.o
    rw[hl] at e3
    obtain ⟨d0,d1,d2,d3,d4,d5⟩:=HD0.o _ V2.o
    have hcall:=zH (HK0.o _ _ _ _ H2.o (HX0.o _ V2.o) (HCL.o.next V2.o))
    go_wp2_with fail
    (with_reducible refine hcall.out.mono ?_)
    rintro r w3 ⟨rfl,hw3,⟨K3,V3',h3⟩,hu3⟩
    have H3:=zH h3
    have V3:=zH (V2.o.trans hu3)
    have U3:=zH (U2.o.trans hu3)
    clear h3 hu3 hcall d0 d1 d2 d3 d4 d5
    go_wp2_with fail
    go_ret
    exact Rn.Post.ret hw3 H3.o U3.o HF.o
   |some s=>
    have hst:s<t:=lU hbo
    have zs:decide ((s:Int)<0)=false:=decide_eq_false (by omega)
    have hgHK1:∀g∈c,ak q.f.fm g.wire:=HC.o
    have hgoHK1:aE q.f x1 c/\c.length+ax x1<=1600:=by
     have g:=HPC.o 1 x1 hi1 o3
     rwa [show aA e c 1=c by unfold aA;rw[if_neg (by omega),if_neg (by omega)]] at g
    have HK1:Hid (∀W1 K V v1,q.At W1 K V->aM W1 q.B A1 x1.args->fc q W1 v1 (c)->Calls Tryz.prog 92 #[.pointer (some ⟨q.R,0,none⟩),bz x1 A1 p1,v1,.int .i64 (t:Int)] W1 (q.Post W1 (bZ q.wv x1 (c) t))):=fun W1 K V v1 g1 g2 g3=>HIH.o 1 x1 hi1 (cP (List.mem_of_getElem? hi1) (by omega) (by omega)) _ W1 K V A1 p1 v1 g1 ok1 cp1 mx1 g2 g3 hgHK1 hgoHK1.1 hgoHK1.2
    have HF:Hid (bZ q.wv x1 c t=bZ q.wv e c t):=by
     have g:=HOE.o
     rw[ia] at g
     dsimp only at g
     rw[if_neg (show ¬e.op<=2 by omega),if_neg (show ¬e.op=3 by omega),if_neg (by omega),if_neg (by omega),if_neg (by omega),if_neg (by omega),if_neg o22x,if_pos o23x,hbo] at g
     simp only[dZ hi1] at g
     exact g.symm
    clear hbo o12 o3 o24 o26 o27 o21
    clear o21x o22x o23x
    have HB2:Hid (Calls Tryz.prog 108 #[.pointer (some ⟨q.R,0,none⟩),.slice Ac c.length cc,.int .i64 t] w1 (q.Then w1 (.int .i64 (s:Int)))):=HBF.o
    clear HBF
    go_wp2_with fail
    (with_reducible refine HB2.o.mono ?_)
    rintro r w2 ⟨rfl,⟨K2,V2',h2⟩,hu2⟩
    have H2:=zH h2
    have V2:=zH (V1.o.trans hu2)
    have U2:=zH (U1.o.trans hu2)
    clear h2 hu2 HB2
    clear e0 e1 e2 e3 e4 e5
    obtain ⟨e0,e1,e2,e3,e4,e5⟩:=HE6.o _ V2.o
    rw[hl] at e3
    obtain ⟨d0,d1,d2,d3,d4,d5⟩:=HD1.o _ V2.o
    have hcall:=zH (HK1.o _ _ _ _ H2.o (HX1.o _ V2.o) (HCL.o.next V2.o))
    go_wp2_with fail
    (with_reducible refine hcall.out.mono ?_)
    rintro r w3 ⟨rfl,hw3,⟨K3,V3',h3⟩,hu3⟩
    have H3:=zH h3
    have V3:=zH (V2.o.trans hu3)
    have U3:=zH (U2.o.trans hu3)
    clear h3 hu3 hcall d0 d1 d2 d3 d4 d5
    go_wp2_with fail
    go_ret
    exact Rn.Post.ret hw3 H3.o U3.o HF.o
  have z7:decide ((21:Int)<=e.op)=false:=decide_eq_false o21
  by_cases o5:e.op=5\/e.op=6
  ·obtain ⟨x0,hxs⟩:=br HP1.o (by omega)
   have hi0:e.args[0]? =some x0:=by rw[hxs];rfl
   have hl:e.args.length=1:=by rw[hxs];rfl
   obtain ⟨A0,p0,ok0,cp0,mx0,hx0,hd0⟩:=HCH.o 0 x0 hi0
   have HX0:=zH hx0
   have HD0:Hid (∀W',ae q.X w1 W'->W'.cell? ⟨b,off,none⟩=some (.int .i64 x0.op)/\W'.cell? ⟨b,off+1,none⟩=some (.string x0.name)/\W'.cell? ⟨b,off+2,none⟩=some (.int .i64 x0.n)/\W'.cell? ⟨b,off+3,none⟩=some (.slice A0 x0.args.length p0)/\W'.cell? ⟨b,off+4,none⟩=some (.int .i64 x0.line)/\W'.cell? ⟨b,off+5,none⟩=some (.int .i64 x0.col)):=fun W' u=>by
    have g:=hd0 W' u
    simp only[Nat.zero_mul,Nat.add_zero] at g
    exact g
   rw[hl] at e3
   clear hxs hx0 hd0
   have hgHK0:∀g∈c,ak q.f.fm g.wire:=HC.o
   have hgoHK0:aE q.f x0 c/\c.length+ax x0<=1600:=by
    have g:=HPC.o 0 x0 hi0 o3
    rwa [show aA e c 0=c by unfold aA;rw[if_neg (by omega),if_neg (by omega)]] at g
   have HK0:Hid (∀W1 K V v1,q.At W1 K V->aM W1 q.B A0 x0.args->fc q W1 v1 (c)->Calls Tryz.prog 92 #[.pointer (some ⟨q.R,0,none⟩),bz x0 A0 p0,v1,.int .i64 (t:Int)] W1 (q.Post W1 (bZ q.wv x0 (c) t))):=fun W1 K V v1 g1 g2 g3=>HIH.o 0 x0 hi0 (cP (List.mem_of_getElem? hi0) (by omega) (by omega)) _ W1 K V A0 p0 v1 g1 ok0 cp0 mx0 g2 g3 hgHK0 hgoHK0.1 hgoHK0.2
   have HF:Hid (im e.op (bZ q.wv x0 c t)=bZ q.wv e c t):=by
    have g:=HOE.o
    rw[ia] at g
    dsimp only at g
    rw[if_neg (show ¬e.op<=2 by omega),if_neg (show ¬e.op=3 by omega),if_neg (by omega),if_neg (by omega),if_neg (by omega),if_neg (by omega),if_neg (by omega),if_neg (by omega),if_pos hl,dZ hi0] at g
    exact g.symm
   clear o12 o3 o24 o26 o27 o21 o5
   obtain ⟨d0,d1,d2,d3,d4,d5⟩:=HD0.o _ V1.o
   have hcall:=zH (HK0.o _ _ _ _ H1.o (HX0.o _ V1.o) (HCL.o.next V1.o))
   go_wp2_with fail
   (with_reducible refine hcall.out.mono ?_)
   rintro r w2 ⟨rfl,hw2,⟨K2,V2',h2⟩,hu2⟩
   have H2:=zH h2
   have V2:=zH (V1.o.trans hu2)
   have U2:=zH (U1.o.trans hu2)
   clear h2 hu2 hcall d0 d1 d2 d3 d4 d5
   clear e0 e1 e2 e3 e4 e5
   obtain ⟨e0,e1,e2,e3,e4,e5⟩:=HE6.o _ V2.o
   rw[hl] at e3
   go_wp2_with fail
   (with_reducible refine (qO _ _ _ (lQ hw2)).mono ?_)
   rintro r w3 ⟨rfl,hb3⟩
   have H3:=zH (H2.o.below hb3)
   have U3:=zH (U2.o.trans (ae.of_below hb3))
   clear hb3
   go_wp2_with fail
   go_ret
   exact Rn.Post.ret (ws _ _) H3.o U3.o HF.o
  obtain ⟨x0,x1,hxs⟩:=aQ HP1.o (by omega)
  have hi0:e.args[0]? =some x0:=by rw[hxs];rfl
  have hi1:e.args[1]? =some x1:=by rw[hxs];rfl
  have hl:e.args.length=2:=by rw[hxs];rfl
  obtain ⟨A0,p0,ok0,cp0,mx0,hx0,hd0⟩:=HCH.o 0 x0 hi0
  have HX0:=zH hx0
  have HD0:Hid (∀W',ae q.X w1 W'->W'.cell? ⟨b,off,none⟩=some (.int .i64 x0.op)/\W'.cell? ⟨b,off+1,none⟩=some (.string x0.name)/\W'.cell? ⟨b,off+2,none⟩=some (.int .i64 x0.n)/\W'.cell? ⟨b,off+3,none⟩=some (.slice A0 x0.args.length p0)/\W'.cell? ⟨b,off+4,none⟩=some (.int .i64 x0.line)/\W'.cell? ⟨b,off+5,none⟩=some (.int .i64 x0.col)):=fun W' u=>by
   have g:=hd0 W' u
   simp only[Nat.zero_mul,Nat.add_zero] at g
   exact g
  obtain ⟨A1,p1,ok1,cp1,mx1,hx1,hd1⟩:=HCH.o 1 x1 hi1
  have HX1:=zH hx1
  have HD1:Hid (∀W',ae q.X w1 W'->W'.cell? ⟨b,off+6,none⟩=some (.int .i64 x1.op)/\W'.cell? ⟨b,off+6+1,none⟩=some (.string x1.name)/\W'.cell? ⟨b,off+6+2,none⟩=some (.int .i64 x1.n)/\W'.cell? ⟨b,off+6+3,none⟩=some (.slice A1 x1.args.length p1)/\W'.cell? ⟨b,off+6+4,none⟩=some (.int .i64 x1.line)/\W'.cell? ⟨b,off+6+5,none⟩=some (.int .i64 x1.col)):=fun W' u=>by
   have g:=hd1 W' u
   simp only[Nat.one_mul] at g
   exact g
  rw[hl] at e3
  clear hxs hx0 hd0 hx1 hd1
  have hgHK0:∀g∈c,ak q.f.fm g.wire:=HC.o
  have hgoHK0:aE q.f x0 c/\c.length+ax x0<=1600:=by
   have g:=HPC.o 0 x0 hi0 o3
   rwa [show aA e c 0=c by unfold aA;rw[if_neg (by omega),if_neg (by omega)]] at g
  have HK0:Hid (∀W1 K V v1,q.At W1 K V->aM W1 q.B A0 x0.args->fc q W1 v1 (c)->Calls Tryz.prog 92 #[.pointer (some ⟨q.R,0,none⟩),bz x0 A0 p0,v1,.int .i64 (t:Int)] W1 (q.Post W1 (bZ q.wv x0 (c) t))):=fun W1 K V v1 g1 g2 g3=>HIH.o 0 x0 hi0 (cP (List.mem_of_getElem? hi0) (by omega) (by omega)) _ W1 K V A0 p0 v1 g1 ok0 cp0 mx0 g2 g3 hgHK0 hgoHK0.1 hgoHK0.2
  have hgHK1:∀g∈c,ak q.f.fm g.wire:=HC.o
  have hgoHK1:aE q.f x1 c/\c.length+ax x1<=1600:=by
   have g:=HPC.o 1 x1 hi1 o3
   rwa [show aA e c 1=c by unfold aA;rw[if_neg (by omega),if_neg (by omega)]] at g
  have HK1:Hid (∀W1 K V v1,q.At W1 K V->aM W1 q.B A1 x1.args->fc q W1 v1 (c)->Calls Tryz.prog 92 #[.pointer (some ⟨q.R,0,none⟩),bz x1 A1 p1,v1,.int .i64 (t:Int)] W1 (q.Post W1 (bZ q.wv x1 (c) t))):=fun W1 K V v1 g1 g2 g3=>HIH.o 1 x1 hi1 (cP (List.mem_of_getElem? hi1) (by omega) (by omega)) _ W1 K V A1 p1 v1 g1 ok1 cp1 mx1 g2 g3 hgHK1 hgoHK1.1 hgoHK1.2
  have HF:Hid (gF e.op (bZ q.wv x0 c t) (bZ q.wv x1 c t)=bZ q.wv e c t):=by
   have g:=HOE.o
   rw[ia] at g
   dsimp only at g
   rw[if_neg (show ¬e.op<=2 by omega),if_neg (show ¬e.op=3 by omega),if_neg (by omega),if_neg (by omega),if_neg (by omega),if_neg (by omega),if_neg (by omega),if_neg (by omega),if_neg (by omega),dZ hi0,dZ hi1] at g
   exact g.symm
  clear o12 o3 o24 o26 o27 o21 o5
  obtain ⟨d0,d1,d2,d3,d4,d5⟩:=HD0.o _ V1.o
  have hcall:=zH (HK0.o _ _ _ _ H1.o (HX0.o _ V1.o) (HCL.o.next V1.o))
  go_wp2_with fail
  (with_reducible refine hcall.out.mono ?_)
  rintro r w2 ⟨rfl,hw2,⟨K2,V2',h2⟩,hu2⟩
  have H2:=zH h2
  have V2:=zH (V1.o.trans hu2)
  have U2:=zH (U1.o.trans hu2)
  clear h2 hu2 hcall d0 d1 d2 d3 d4 d5
  clear e0 e1 e2 e3 e4 e5
  obtain ⟨e0,e1,e2,e3,e4,e5⟩:=HE6.o _ V2.o
  rw[hl] at e3
  have HS:Hid (∀W',ae q.X w2 W'->W'.cell? ⟨W.heap.size,0,none⟩=some (.int .i64 e.op)/\W'.cell? ⟨b,off+6,none⟩=some (.int .i64 x1.op)/\W'.cell? ⟨b,off+6+1,none⟩=some (.string x1.name)/\W'.cell? ⟨b,off+6+2,none⟩=some (.int .i64 x1.n)/\W'.cell? ⟨b,off+6+3,none⟩=some (.slice A1 x1.args.length p1)/\W'.cell? ⟨b,off+6+4,none⟩=some (.int .i64 x1.line)/\W'.cell? ⟨b,off+6+5,none⟩=some (.int .i64 x1.col)):=fun W' u=>⟨(HE6.o _ (V2.o.trans u)).1,HD1.o _ (V2.o.trans u)⟩
  have HC2:=zH (HCL.o.next V2.o)
  generalize hEE:W.heap.size=E at*
  go_upto_region 31 with (fail)
  refine wp_region_held_drew (S:=fun W=>W.cell? ⟨E,0,none⟩=some (.int .i64 e.op)/\W.cell? ⟨b,off+6,none⟩=some (.int .i64 x1.op)/\W.cell? ⟨b,off+6+1,none⟩=some (.string x1.name)/\W.cell? ⟨b,off+6+2,none⟩=some (.int .i64 x1.n)/\W.cell? ⟨b,off+6+3,none⟩=some (.slice A1 x1.args.length p1)/\W.cell? ⟨b,off+6+4,none⟩=some (.int .i64 x1.line)/\W.cell? ⟨b,off+6+5,none⟩=some (.int .i64 x1.col)) (by kernel_rfl) ?_ (fun hHeld=>?_)
  ·(try dsimp only);(first|exact HS.o _ hu10'|exact HS.o _ hu9'|exact HS.o _ (ae.of_below ((Below.refl _ _).drew)))
  refine tk 0 (some 168) rfl ?_
  refine tk 1 (some 169) rfl ?_
  refine tk 2 (some 170) rfl ?_
  refine tk 3 (some 171) rfl ?_
  refine tk 4 (some 172) rfl ?_
  refine tk 5 (some 173) rfl ?_
  refine tk 6 (some 174) rfl ?_
  refine tk 7 (some 175) rfl ?_
  refine tk 8 (some 176) rfl ?_
  refine aH 9 (some 177) rfl (fun KK hKK=>?_)
  go_simp
  (go_at_call 92;refine Calls.mono (HK1.o _ _ _ _ (H2.o.below ((Below.refl _ _).drew)) (HX1.o _ (V2.o.trans (ae.of_below ((Below.refl _ _).drew)))) (HC2.o.next (ae.of_below ((Below.refl _ _).drew)))) ?_;rintro e w9 ⟨rfl,hw9,⟨K9,V9,h9⟩,hu9⟩;(have hu9':ae q.X w2 w9:=(ae.of_below ((Below.refl _ _).drew)).trans hu9))
  (try go_wp2_with fail)
  refine hKK.out _ _ ?_ (fun hHeld=>?_)
  ·(try dsimp only);(first|exact HS.o _ hu10'|exact HS.o _ hu9'|exact HS.o _ (ae.of_below ((Below.refl _ _).drew)))
  clear hKK KK
  try simp only[Act.put,List.setIfInBounds_toArray,List.set_cons_zero,List.set_cons_succ]
  refine aH 10 (some 178) rfl (fun KK hKK=>?_)
  go_simp
  (go_at_call 110;refine Calls.mono (ti _ _ _ _ (lQ hw2) (lQ hw9)) ?_;rintro e w10 ⟨rfl,hb10⟩;(have hu10':ae q.X w2 w10:=hu9'.trans (ae.of_below hb10)))
  (try go_wp2_with fail)
  refine hKK.out _ _ ?_ (fun hHeld=>?_)
  ·(try dsimp only);(first|exact HS.o _ hu10'|exact HS.o _ hu9'|exact HS.o _ (ae.of_below ((Below.refl _ _).drew)))
  clear hKK KK
  try simp only[Act.put,List.setIfInBounds_toArray,List.set_cons_zero,List.set_cons_succ]
  refine tk 11 (some 167) rfl ?_
  refine tk 12 (some 179) rfl ?_
  refine tk 14 (some 14) rfl ?_
  refine tk 13 (some 180) rfl ?_
  refine tk 15 (some 15) rfl ?_
  refine wpAnyH_done (by kernel_rfl) ?_ _
  have H10:=zH (h9.below hb10)
  have U10:=zH (U2.o.trans hu10')
  clear h9 hu9 hu9' hu10' hb10 hHeld
  go_wp2_with fail
  go_ret
  exact Rn.Post.ret (AZ _ _ _) H10.o U10.o HF.o
end Go.Proofs.YtckognjamlckcaaGreatDoor
