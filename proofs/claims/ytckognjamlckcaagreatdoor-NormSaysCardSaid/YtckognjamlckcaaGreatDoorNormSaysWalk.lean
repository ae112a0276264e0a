/-
  The document's run of a flat: Rows. The walk of the law NormSays.
-/
import Derived.Test.YtckognjamlckcaaGreatDoorSvG
import Derived.Test.YtckognjamlckcaaGreatDoorFrJ
set_option maxHeartbeats 16000000
set_option maxRecDepth 100000
namespace Go.Proofs.YtckognjamlckcaaGreatDoor
open Go.RowKit Vf Fo Ar
attribute [local go_sem ↓] Go.wp_at_zero Go.wp_at_succ
section
variable {q:Rn} {X Y:Nat->Prop} {a W W0 W':World} {K V K0 V0:Nat->List Int}
theorem ae.side (u:ae X a W) (u':ae Y W W') (hY:∀k,Y k->a.heap.size<=k):ae X a W':=
 ⟨u'.os.trans u.os,u'.tape.trans u.tape,u'.output.trans u.output,Nat.le_trans u.size u'.size,fun i hi hX=>(u'.block i (Nat.lt_of_lt_of_le hi u.size) (fun hy=>by have:=hY i hy;omega)).trans (u.block i hi hX)⟩
theorem Rn.At.side (h0:q.At W0 K0 V0) (h:q.At W K V) (u:ae q.X W0 W') (u':ae Y W W') (hY:∀b,q.X b->¬Y b):q.At W' K V:=
 h0.upd u (fun n hn=>u'.row (h.k n hn) (hY _ ⟨n,hn,.inl rfl⟩)) (fun n hn=>u'.row (h.v n hn) (hY _ ⟨n,hn,.inr rfl⟩)) h.kl h.vl h.wf h.inv
end
theorem AM {f:Fl} {rows:List (List Int)} (wv:Nat->Int->Int) {vw vd vi vo vR vK vV:Value} {w w2:World} {base R:Nat} {kb vb:Nat->Nat} (h:cS w w.heap.size f vw vd vi vo) (hr:aI w w.heap.size 1 (eF w w.heap.size) vR rows) (hb:Below w.heap.size w w2) (hbase:w.heap.size<=base)
  (hR:ai w2 R #[vw,vd,vi,vo,vR,vK,vV] 132) (hK:em base rows.length w2 vK f.wires.length kb) (hV:em base rows.length w2 vV f.wires.length vb) (hD:∀i j,i<f.wires.length->j<f.wires.length->kb i≠vb j) (h1:1<=f.wires.length):
  ∃q:Rn,q.f=f/\q.rows=rows/\q.wv=wv/\q.R=R/\(∀b,q.X b->base<=b/\b<w2.heap.size)/\∃K V,q.At w2 K V:=by
 have hk:=hK.own
 have hv:=hV.own
 obtain ⟨bK,cK,hvK⟩:∃g c,vK= .slice (some ⟨g,0,none⟩) f.wires.length c:=by
  rcases hk.2 with ⟨_,g⟩|⟨g,c,_,e,_⟩
  ·omega
  ·exact ⟨g,c,e⟩
 obtain ⟨bV,cV,hvV⟩:∃g c,vV= .slice (some ⟨g,0,none⟩) f.wires.length c:=by
  rcases hv.2 with ⟨_,g⟩|⟨g,c,_,e,_⟩
  ·omega
  ·exact ⟨g,c,e⟩
 subst hvK;subst hvV
 let q:Rn:=⟨f,rows,wv,R,bK,bV,cK,cV,vw,vd,vi,vo,vR,kb,vb,w.heap.size⟩
 have hX1:∀b,q.X b->base<=b/\b<w2.heap.size:=fun b ⟨n,hn,g⟩=>by
  rcases g with g|g
  ·rw[g];exact ⟨hK.lo n hn,(hK.row n hn).lt⟩
  ·rw[g];exact ⟨hV.lo n hn,(hV.row n hn).lt⟩
 have hXR:∀(b:Nat) (cs:Array Value) (t:TypeId),ai w2 b cs t->t≠3->¬q.X b:=fun b cs t hr ht ⟨n,hn,g⟩=>by
  have key:∀c,ai w2 b c 3->False:=fun c hc=>by
   have:=Option.some.inj (hr.symm.trans hc)
   injection this with _ h3 _
   exact ht h3
  rcases g with g|g
  ·exact key _ (by rw[show b=kb n from g];exact hK.row n hn)
  ·exact key _ (by rw[show b=vb n from g];exact hV.row n hn)
 have hown:∀{v:Value} {k:Nat} {xs:List Value},w2.ownsRow base 26 1 v k xs->∀g,v.ownBlock=some g->¬q.X g:=fun ho g hg ⟨n,hn,e⟩=>by
  rcases e with e|e
  ·exact bh ho (hK.row n hn) (by decide) (by rw[hg,e])
  ·exact bh ho (hV.row n hn) (by decide) (by rw[hg,e])
 have hlow:∀W',ae q.X w2 W'->Below w.heap.size w W':=fun W' u=>hb.trans (u.below (B:=w.heap.size) (fun k hk=>by have:=(hX1 k hk).1;omega) hb.size)
 have hzero:∀t,ao (List.replicate rows.length (0:Int)) t=0:=fun t=>zd _ _
 refine ⟨q,rfl,rfl,rfl,rfl,hX1,fun _=>List.replicate rows.length 0,fun _=>List.replicate rows.length 0,fun W' u=>⟨h.below (hlow W' u),?_,u.row hR (hXR _ _ _ hR (by decide)),fun n hn=>?_,fun n hn=>?_⟩,fun b hb=>by have:=(hX1 b hb).1;show w.heap.size<=b;omega,hb.size,fun n hn=>hK.row n hn,fun n hn=>hV.row n hn,fun _ _=>List.length_replicate,fun _ _=>List.length_replicate,fun n m hn hm e=>hK.dj n m hn hm e,fun n m hn hm e=>hV.dj n m hn hm e,hD,fun n hn x hx=>?_,fun n t hn ht hk=>absurd (hzero _) hk⟩
 ·exact iw hr (hlow W' u)
 ·have:=(aN hk u (hown hk)).cells (g:=bK) rfl n (.slice (some ⟨kb n,0,none⟩) rows.length rows.length) (by simp[show n<f.wires.length from hn])
  rw[Addr.add_lit,Nat.zero_add] at this
  exact this
 ·have:=(aN hv u (hown hv)).cells (g:=bV) rfl n (.slice (some ⟨vb n,0,none⟩) rows.length rows.length) (by simp[show n<f.wires.length from hn])
  rw[Addr.add_lit,Nat.zero_add] at this
  exact this
 ·rw[List.eq_of_mem_replicate hx]
  exact aT (by omega)
theorem ke {w W:World} {v:Value} {l:List (List Int)} (h:aI w w.heap.size 1 (eF w w.heap.size) v l) (hb:Below w.heap.size w W):aI W W.heap.size 1 (eF W W.heap.size) v l:=
 (iw h hb).keep (fun _ _ _ hc=>hc) hb.size (fun _ _ _ ⟨v,h1,h2⟩=>⟨v,h1,h2.more hb.size⟩)
def nt (base:Nat) (w:World) (l:List (List Int)) (vs:List Value):Prop:=vs.length=l.length/\∀(i:Nat) x,l[i]? =some x->(∀y∈x,Wf y)/\∃v,vs[i]? =some v/\∃n,w.ownsRow base 3 1 v n (al x)
section
variable {base n:Nat} {w w':World} {X:Nat->Prop} {l:List (List Int)} {vs:List Value} {v:Value} {x:List Int}
theorem nt.upd (h:nt base w l vs) (u:ae X w w') (hX:∀v n xs,w.ownsRow base 3 1 v n xs->∀k,v.ownBlock=some k->¬X k):nt base w' l vs:=
 ⟨h.1,fun i x hi=>by
  obtain ⟨hw,v,hv,n,ho⟩:=h.2 i x hi
  exact ⟨hw,v,hv,n,aN ho u (hX _ _ _ ho)⟩⟩
theorem nt.snoc (h:nt base w l vs) (hw:∀y∈x,Wf y) (ho:w.ownsRow base 3 1 v n (al x)):nt base w (l++ [x]) (vs++ [v]):=by
 refine' zq115
theorem nt.own (h:nt base w l vs):fs w l vs:=⟨h.1,fun i x hi=>by
 obtain ⟨h1,v,h2,n,h3⟩:=h.2 i x hi
 exact ⟨h1,v,h2,n,dg h3 (Nat.zero_le _)⟩⟩
end
noncomputable def kB (f:Fl) (wv:Nat->Int->Int) (k:Nat):List (List Int):=(List.range k).map (fun t=>f.outs.map (wv t))
theorem wE (f:Fl) (wv:Nat->Int->Int) (k:Nat):kB f wv (k+1)=kB f wv k++ [f.outs.map (wv k)]:=by
 unfold kB
 rw[List.range_succ,List.map_append,List.map_singleton]
theorem sH {f:Fl} {rows:List (List Int)} {wv:Nat->Int->Int} {vw vd vi vo vR:Value} {w:World} (h:cS w w.heap.size f vw vd vi vo) (hr:aI w w.heap.size 1 (eF w w.heap.size) vR rows) (hfl:bn f) (hsol:AW f rows wv) (hT:rows.length<=1600) (hrl:∀r∈rows,r.length=f.ins.length):
  Calls Tryz.prog 22 #[eZ vw vd vi vo,vR] w fun e w'=>∃v,e= .returned v/\aI w' w'.heap.size 1 (eF w' w'.heap.size) v (kB f wv rows.length)/\Below w.heap.size w w':=by
 obtain ⟨i0,hi0,hz0,hz1,hz2⟩:=info_parts oe
 obtain ⟨j0,hj0,hy0,hy1,hy2⟩:=info_parts mJ
 have hw400:=hfl.1.2.2
 have hw1:=hfl.1.2.1
 have ho8:=hfl.2.2.1.2.2
 have HN:=zH (fun W (hW:Below w.heap.size w W)=>Dx (h.next hW) (ke hr hW) hT (by omega))
 have HST:=zH (fun w1 (hW:Below w.heap.size w w1) w2 (hb:Below w1.heap.size w1 w2) R vK vV kb vb (hR:ai w2 R #[vw,vd,vi,vo,vR,vK,vV] 132) (hK:em w1.heap.size rows.length w2 vK f.wires.length kb) (hV:em w1.heap.size rows.length w2 vV f.wires.length vb) (hD:∀i j,i<f.wires.length->j<f.wires.length->kb i≠vb j)=>AM wv h hr (hW.trans (hb.mono hW.size)) hW.size hR hK hV hD hw1)
 have HOW:Hid (∀n∈f.outs,ak f.fm n):=fun n hn=>(hfl.2.2.1.1 n hn).1
 have HALL:Hid (∀q:Rn,q.f=f->q.rows=rows->q.wv=wv->∀t,t<rows.length->∀n,ak f.fm n->∀W K V,q.At W K V->Calls Tryz.prog 56 #[.pointer (some ⟨q.R,0,none⟩),.int .i64 n,.int .i64 t] W (q.Post W (wv t n))):=fun q e1 e2 e3=>by
  subst e1;subst e2;subst e3
  exact fun t ht n hn=>(DL hfl hsol (by omega) hrl t ht).1 n hn
 have HOU:=zH (fun W (hW:Below w.heap.size w W)=>h.outs.below hW)
 obtain ⟨Ao,co,rfl,lo,mo,_⟩:=id h.outs
 obtain ⟨AR,cR,rfl,lR,mR,_⟩:=id hr
 have mo':co<=9223372036854775807:=by unfold maxLen at mo;omega
 have mR':cR<=9223372036854775807:=by unfold maxLen at mR;omega
 have b1:Below w.heap.size w (w.alloc (.cells #[vw,vd,vi,.slice Ao f.outs.length co] 33)):=bE
 have rF:=ai.new w #[vw,vd,vi,.slice Ao f.outs.length co] 33
 clear h hr hfl hsol hrl
 go_enter Tryz.func22,Tryz.ntmps22
 go_upto_region 1 with (fail)
 generalize w.alloc (.cells #[vw,vd,vi,.slice Ao f.outs.length co] 33)=w1 at*
 have hFl:=rF.lt
 have hs1:=b1.size
 obtain ⟨f0,f1,f2,f3⟩:=rF.four'
 go_wp2_with fail
 refine (HN.o _ b1).mono ?_
 rintro e w2 ⟨R,vK,vV,kb,vb,rfl,hR,hK,hV,hD,hb2,hs2⟩
 obtain ⟨q,hq1,hq2,hq3,hq4,hXl,K,V,hAt⟩:=HST.o w1 b1 w2 hb2 R vK vV kb vb hR hK hV hD
 have HW:=zH (HALL.o q hq1 hq2 hq3)
 rw[hq4] at HW
 have HXL:=zH hXl
 have HA0:=zH hAt
 have HB2:=zH (b1.trans (hb2.mono hs1))
 have HF3:Hid (∀W',ae q.X w2 W'->W'.cell? ⟨w.heap.size,3,none⟩=some (.slice Ao f.outs.length co)):=fun W' u=>(u.row (rF.below hb2 hFl) (fun g=>by have:=(hXl _ g).1;omega)).four'.2.2.2
 have HBW:Hid (∀W',ae q.X w2 W'->Below w.heap.size w W'):=fun W' u=>HB2.o.trans (u.below (B:=w.heap.size) (fun b hb=>by have:=(hXl b hb).1;omega) HB2.o.size)
 clear f0 f1 f2 f3 HN HST HALL hR hK hV hD hb2 hs2 hXl hAt rF hq1 hq2 hq3 hq4
 go_wp2_with fail
 go_loopw[6,7] (fun v6 i wr=>∃(k:Nat) (o:Value) (vs:List Value) (K V:Nat->List Int),k<=rows.length/\i= .int .i64 k/\o=v6/\Hid (q.At wr K V)/\Hid (ae q.X w2 wr)/\Hid (wr.ownsRow w2.heap.size 26 1 o k vs)/\Hid (nt w2.heap.size wr (kB f wv k) vs)) (fun _ i _=>rows.length-(intOf i).toNat)
 case atStart=>exact ⟨0,_,[],K,V,Nat.zero_le _,rfl,rfl,HA0.o,ae.refl _ _,World.ownsRow_nil _ _ _ _,⟨rfl,fun i x hi=>by simp[kB] at hi⟩⟩
 case round=>
  obtain ⟨k,o,vs,K1,V1,hk,rfl,rfl,HA,HU,HO,HRW⟩:=hrel
  by_cases hlt:k<rows.length
  ·have hk':(k:Int)<rows.length:=by omega
   have hs2:=HU.o.size
   refine' zq148
   go_wp2_with fail
   go_loopw[8,9] (fun v8 i wr=>∃(j:Nat) (l:Value) (K V:Nat->List Int),j<=f.outs.length/\i= .int .i64 j/\l=v8/\Hid (q.At wr K V)/\Hid (ae q.X w2 wr)/\Hid (ae q.X wo wr)/\Hid (wr.ownsRow wo.heap.size 3 1 l j (al ((f.outs.take j).map (wv k))))/\Hid (∀y∈(f.outs.take j).map (wv k),Wf y)) (fun _ i _=>f.outs.length-(intOf i).toNat)
   case atStart=>exact ⟨0,_,K1,V1,Nat.zero_le _,rfl,rfl,HA.o,HU.o,ae.refl _ _,World.ownsRow_nil _ _ _ _,fun y hy=>by simp at hy⟩
   case round=>
    clear HA hs2
    obtain ⟨j,l,K2,V2,hj,rfl,rfl,HA,HU2,HUO,HL,HWF⟩:=hrel
    have hso:=HUO.o.size
    have hs2:=HU.o.size
    have f3:=HF3.o wr HU2.o
    by_cases hjl:j<f.outs.length
    ·have hj':(j:Int)<f.outs.length:=by omega
     obtain ⟨A',c',hA',_,_,sl⟩:=HOU.o wr (HBW.o wr HU2.o)
     refine' zq169
     obtain ⟨b,off,n,rfl,hbb,hn,wn,d0⟩:=sl.int hjl
     have HC:=zH (HW.o k hlt n (HOW.o n (List.mem_of_getElem? hn)) wr K2 V2 HA.o)
     have HTK:Hid ((f.outs.take (j+1)).map (wv k)=(f.outs.take j).map (wv k)++ [wv k n]):=by
      show _=_
      rw[bj hn,List.map_append,List.map_singleton]
     clear sl hn
     go_wp2_with fail
     (with_reducible refine Calls.mono HC.o ?_)
     rintro e w8 ⟨rfl,hwf,⟨K8,V8,h8⟩,hu8⟩
     have hX8:∀g,l.ownBlock=some g->wo.heap.size<=g:=fun g hg=>(HL.o.lt g hg).1
     have HL8:=zH (aN HL.o hu8 (fun g hg hX=>by have:=hX8 g hg;have:=(HXL.o g hX).2;omega))
     have HA8:=zH h8
     have HU8:=zH (HU2.o.trans hu8)
     have HUO8:=zH (HUO.o.trans hu8)
     have HWN:=zH hwf
     have hs8:=hu8.size
     clear h8 hu8 hwf HC HA HL f3 d0
     generalize wv k n=T at*
     generalize hLL:(f.outs.take j).map (wv k)=LL at*
     go_wp2_with (at_builtin;refine eU _ rfl _ _ 26 rfl wo.heap.size 3 j0 (.int .i64 0) 1 8 Tryz.underlying26 hj0 hy0 hy1 hy2 rfl (by decide) _ _ _ rfl (HL8.o.alloc _) ⟨_,0,none⟩ 1 1 [.int .i64 T] rfl rfl (cA _ _ _) (by intro u hu;simp at hu;subst hu;rfl) (by unfold maxLen;omega) (by omega) (by first|omega|(simp;omega)|simp) ?_)
     intro v13 w13 hown13 hg13 _
     have u13:ae (fun g=>l.ownBlock=some g) w8 w13:=((ae.refl _ w8).alloc _).trans (ae.grown hg13)
     have HU13:=zH (ae.side HU8.o u13 (fun g hg=>by have:=hX8 g hg;omega))
     have HUO13:=zH (ae.side HUO8.o u13 hX8)
     have HA13:=zH (HA0.o.side HA8.o HU13.o u13 (fun b hb g=>by have:=hX8 b g;have:=(HXL.o b hb).2;omega))
     have HL13:Hid (w13.ownsRow wo.heap.size 3 1 v13 (j+1) (al ((f.outs.take (j+1)).map (wv k)))):=by
      show World.ownsRow _ _ _ _ _ _ _
      rw[HTK.o,bS]
      exact hown13
     have HWF13:Hid (∀y∈(f.outs.take (j+1)).map (wv k),Wf y):=by
      show ∀y∈_,_
      rw[HTK.o]
      intro y hy
      rcases List.mem_append.1 hy with hy|hy
      ·exact HWF.o y hy
      ·rw[List.mem_singleton.1 hy];exact HWN.o
     clear hown13 hg13 u13 hX8 hLL
     go_wp2_with fail
     go_roundw
     case rel=>exact ⟨j+1,_,_,_,by omega,by go_num,rfl,HA13,HU13,HUO13,HL13,HWF13⟩
     case measure=>simp[intOf];omega
    ·obtain rfl:j=f.outs.length:=by omega
     have hXo:∀g,o.ownBlock=some g->w2.heap.size<=g:=fun g hg=>(HO.o.lt g hg).1
     have HO8:=zH (aN HO.o HUO.o (fun g hg hX=>by have:=hXo g hg;have:=(HXL.o g hX).2;omega))
     have HRW8:=zH (HRW.o.upd HUO.o (fun v n xs ho g hg hX=>by have:=(ho.lt g hg).1;have:=(HXL.o g hX).2;omega))
     have hl:=HL.o
     have hwf:=HWF.o
     rw[List.take_length] at hl hwf
     have HRS:=zH (HRW8.o.snoc hwf (dg hl (show w2.heap.size<=wo.heap.size by omega)))
     obtain ⟨Al,cl,hv,_,_⟩:=bH hl
     subst hv
     rw[<-wE] at HRS
     clear hl hwf HRW8 HL HWF HRW HO
     go_wp2_with (at_builtin;refine eU _ rfl _ _ 43 rfl w2.heap.size 26 i0 (.slice none 0 0) 1 24 Tryz.underlying43 hi0 hz0 hz1 hz2 rfl (by decide) _ _ _ rfl (HO8.o.alloc _) ⟨_,0,none⟩ 1 1 [.slice Al f.outs.length cl] rfl rfl (cA _ _ _) (by intro u hu;simp at hu;subst hu;rfl) (by unfold maxLen;omega) (by omega) (by first|omega|(simp;omega)|simp) ?_)
     intro v13 w13 hown13 hg13 _
     have u13:ae (fun g=>o.ownBlock=some g) wr w13:=((ae.refl _ wr).alloc _).trans (ae.grown hg13)
     have HU13:=zH (ae.side HU2.o u13 hXo)
     have HA13:=zH (HA0.o.side HA.o HU13.o u13 (fun b hb g=>by have:=hXo b g;have:=(HXL.o b hb).2;omega))
     have HRW13:=zH (HRS.o.upd u13 (fun v n xs h g hg e=>lI h HO8.o (by decide) hg e))
     have HO13:=zH hown13
     clear hown13 hg13 u13 hXo
     go_wp2_with fail
     go_roundw
     case rel=>exact ⟨k+1,_,_,_,_,by omega,by go_num,rfl,HA13,HU13,HO13,HRW13⟩
     case measure=>simp[intOf];omega
  ·obtain rfl:k=rows.length:=by omega
   have HRF:=zH (HRW.o.own.sl HO.o)
   have HBF:=zH (HBW.o wr HU.o)
   clear HRW HO
   go_wp2_with fail
   go_ret
   exact ⟨_,rfl,HRF.o,HBF.o⟩
end Go.Proofs.YtckognjamlckcaaGreatDoor
namespace Go.Proofs.YtckognjamlckcaaGreatDoor.normSays
open Go.RowKit Vf Fo
attribute [local go_sem ↓] Go.wp_at_zero Go.wp_at_succ
theorem DQ (f:Fl) (rows:List (List Int)) (vw vd vi vo v1:Value) (w:World) (h:cS w w.heap.size f vw vd vi vo) (h1:rY w rows v1) (ht:mu w):
  Calls Tryz.prog 5 #[eZ vw vd vi vo,v1] w fun e w'=>e= .returned (.bool true)/\Below w.heap.size w w':=by
 have HTB:=zH ht
 obtain ⟨Aw,cw,rfl,_,_,_⟩:=id h.wires
 obtain ⟨Ad,cd,rfl,_,_,_⟩:=id h.defs
 obtain ⟨Ai,ci,rfl,_,_,_⟩:=id h.ins
 obtain ⟨Ao,co,rfl,_,_,_⟩:=id h.outs
 have HRW:=zH (fun W (hW:Below w.heap.size w W)=>ke h1 hW)
 obtain ⟨Ar,cr,rfl,lr,mr,_⟩:=id h1
 have mr':cr<=9223372036854775807:=by unfold maxLen at mr;omega
 refine' zq93
 have HFM:=zH (fun W (hW:Below w.heap.size w W)=>h.next hW)
 clear h h1 ht
 go_enter Tryz.func5,Tryz.ntmps5
 refine' zq129
 refine' zq75
 go_wp2_with fail
 refine (sN _).mono ?_
 rintro e w2 ⟨rfl,hb2⟩
 have b2:=b1.trans (hb2.mono hs1)
 obtain ⟨f0,f1,f2,f3⟩:=HF4.o _ hb2
 have HFW:=zH (vS (HFM.o _ b2))
 go_wp2_with fail
 (with_reducible refine HFW.o.mono ?_)
 rintro e w3 ⟨⟨b,rfl,HB⟩,hb3⟩
 have b3:=b2.trans (hb3.mono b2.size)
 have hq3:=hb2.trans (hb3.mono hb2.size)
 clear f0 f1 f2 f3 HFW hb2 hb3 b1 b2
 cases b
 ·go_wp2_with fail
  go_ret
  exact ⟨rfl,b3⟩
 obtain ⟨hfx,hfw,hfd,hfi,hfo⟩:=HB.o rfl
 obtain ⟨f0,f1,f2,f3⟩:=HF4.o _ hq3
 have hs3:=b3.size
 have hs3':=hq3.size
 have hsz:∀d∈f.defs,ay d.2<=1000000:=fun d hd=>by have:=hfx d hd;omega
 have HSZ:=zH hsz
 have HSUM:Hid ((f.defs.map (fun d=>8*ay d.2+1)).sum<=800000000):=by
  show _<=_
  have:=nQ (g:=fun d:Int × Ex=>8*ay d.2+1) (B:=1601) f.defs (fun d hd=>by have:=hfx d hd;omega)
  omega
 have HF2:=zH (xy rows _ _ w3 (HRW.o _ b3))
 have HRT:=zH (sI (HFM.o _ b3) hsz (by omega) (by omega))
 clear HB hfx hsz
 go_wp2_with fail
 (with_reducible refine HF2.o.mono ?_)
 rintro e _ ⟨⟨b,rfl,HB⟩,rfl⟩
 cases b
 ·go_wp2_with fail
  go_ret
  exact ⟨rfl,b3⟩
 obtain ⟨hr12,_⟩:=HB.o rfl
 clear HF2 HB
 by_cases hf:bn f
 rotate_left 1
 ·rw[ab hf] at HRT
  go_wp2_with fail
  (with_reducible refine HRT.o.mono ?_)
  rintro e w4 ⟨rfl,hb4⟩
  have b4:=b3.trans (hb4.mono hs3)
  go_wp2_with fail
  go_ret
  exact ⟨rfl,b4⟩
 rw[aq hf] at HRT
 have HOK:=zH hf
 have HIW:=zH (fun n hn=>(hf.2.1.1 n hn).1)
 have HTW:Hid (∀n∈f.ins,Wf (ag f.fm n)):=fun n hn=>aT (by have:=zr hf (hf.2.1.1 n hn).1;omega)
 clear hf
 go_wp2_with fail
 (with_reducible refine HRT.o.mono ?_)
 rintro e w4 ⟨rfl,hb4⟩
 have b4:=zH (b3.trans (hb4.mono hs3))
 have hq4:=zH (hq3.trans (hb4.mono hs3'))
 clear f0 f1 f2 f3 HRT b3 hq3 hs3 hs3' hb4
 go_wp2_with fail
 go_loopw[26] (fun i wr=>∃k:Nat,k<=rows.length/\i= .int .i64 k/\Hid (∀j,j<k->∀x,rows[j]? =some x->x.length=f.ins.length)/\Hid (Below w4.heap.size w4 wr)) (fun i _=>rows.length-(intOf i).toNat)
 case atStart=>exact ⟨0,Nat.zero_le _,rfl,fun j hj=>absurd hj (by omega),Below.refl _ _⟩
 case round=>
  obtain ⟨k,hk,rfl,HN,HBR⟩:=hrel
  have hbr:=b4.out.trans (HBR.o.mono b4.out.size)
  have hqr:=hq4.out.trans (HBR.o.mono hq4.out.size)
  by_cases hlt:k<rows.length
  ·obtain ⟨A',c',hA',_,_,sl⟩:=HRW.o _ hbr
   refine' zq169
   obtain ⟨b,off,x,Ax,cx,rfl,hbb,hx,d0,lx,mx,sx⟩:=lS sl hlt
   have hk':(k:Int)<rows.length:=by omega
   have HX:=zH hx
   have HSX:=zH (fun W (hW:Below wr.heap.size wr W)=>(sx.below hW).more hW.size)
   have HTY:=zH (rV (HFM.o _ hbr) (Nat.le_refl _) f.ins _ (HFM.o _ hbr).ins (by omega) HIW.o HTW.o)
   have HLX:=zH (And.intro lx mx)
   obtain ⟨f0,f1,f2,f3⟩:=HF4.o _ hqr
   have hsr:=hbr.size
   have hsr':=HBR.o.size
   clear hx sl sx lx mx
   go_wp2_with fail
   (with_reducible refine HTY.o.mono ?_)
   rintro e w5 ⟨vt,rfl,hst,hb5⟩
   have HFT:=zH (us (f.ins.map (ag f.fm)) x vt _ _ w5 hst ⟨_,_,rfl,HLX.o.1,HLX.o.2,HSX.o _ hb5⟩)
   have hbn:=hbr.trans (hb5.mono hsr)
   have HBN:=zH (HBR.o.trans (hb5.mono hsr'))
   clear f0 f1 f2 f3 HTY hst
   go_wp2_with fail
   (with_reducible refine HFT.o.mono ?_)
   rintro e _ ⟨⟨b,rfl,HBB⟩,rfl⟩
   cases b
   ·go_wp2_with fail
    go_ret
    exact ⟨rfl,hbn⟩
   have HN':=zH (aC HN.o (fun x' hx'=>by rw[HX.o] at hx';injection hx' with hx';rw[<-hx',(HBB.o rfl).1,List.length_map]))
   clear HFT HBB
   go_wp2_with fail
   go_roundw
   case rel=>exact ⟨k+1,by omega,by go_num,HN',HBN⟩
   case measure=>simp[intOf];omega
  ·obtain rfl:k=rows.length:=by omega
   have HRL:Hid (∀x∈rows,x.length=f.ins.length):=fun x hx=>by
    obtain ⟨j,hj⟩:=List.getElem?_of_mem hx
    exact HN.o j (List.getElem?_eq_some_iff.1 hj).1 x hj
   have HO:=zH (Bl (HFM.o _ hbr) (HTB.o.keep hbr) HSZ.o HSUM.o)
   obtain ⟨f0,f1,f2,f3⟩:=HF4.o _ hqr
   have hsr:=hbr.size
   have hsr':=hqr.size
   clear HN
   go_wp2_with fail
   (with_reducible refine HO.o.mono ?_)
   rintro e w5 ⟨hb5,⟨hno,rfl⟩|⟨hok,hsp,rfl⟩|⟨hok,hsp,v0,v1,v2,v3,v4,v5,rfl,hx⟩⟩
   ·exact absurd HOK.o hno
   ·have b5:=hbr.trans (hb5.mono hsr)
    have HB5:=zH (b5.trans (Below.mono (bE:Below w5.heap.size w5 (w5.alloc (.cells #[.slice none 0 0,.slice none 0 0,.slice none 0 0,.slice none 0 0,.slice none 0 0,.slice none 0 0] 28))) b5.size))
    clear f0 f1 f2 f3 HO hok hsp
    go_wp2_with fail
    go_ret
    exact ⟨rfl,HB5.o⟩
   have HMD:=zH (Cg hok hsp)
   have HSOL:=zH (yq hok hsp rows)
   have hou:(aD f (dr f)).outs=f.outs:=rfl
   have HOUT:Hid (fA (aD f (dr f)) ((aD f (dr f)).cells.map (·.2)) rows=kB f (wF (aD f (dr f)) rows) rows.length):=by
    show _=_
    rw[yB,hou]
    rfl
   clear hok hsp hou
   generalize aD f (dr f)=X at*
   have HCW:Hid (∀x∈X.cells,Wf x.2):=fun x hx'=>by
    obtain ⟨A,c,_,_,_,s⟩:=hx.cells
    exact (s.all (P:=fun (x:Int × Int)=>Wf x.1/\Wf x.2) (fun x cs g=>g.2) x hx').2
   have HLI:Hid (X.ins.length=f.ins.length):=by
    show _=_
    have:=congrArg List.length HMD.o.ins
    simpa using this
   obtain ⟨B0,d0,rfl,_⟩:=id hx.wires
   obtain ⟨B1,d1,rfl,_⟩:=id hx.acts
   obtain ⟨B2,d2,rfl,_⟩:=id hx.cells
   obtain ⟨B3,d3,rfl,_⟩:=id hx.keeps
   obtain ⟨B4,d4,rfl,_⟩:=id hx.ins
   obtain ⟨B5,d5,rfl,_⟩:=id hx.outs
   have b5:=hbr.trans (hb5.mono hsr)
   have hq5:=hqr.trans (hb5.mono hsr')
   have b6:Below w5.heap.size w5 (w5.alloc (.cells #[(.slice B0 X.wires.length d0),(.slice B1 X.acts.length d1),(.slice B2 X.cells.length d2),(.slice B3 X.keeps.length d3),(.slice B4 X.ins.length d4),(.slice B5 X.outs.length d5)] 28)):=bE
   have rX:=ai.new w5 #[(.slice B0 X.wires.length d0),(.slice B1 X.acts.length d1),(.slice B2 X.cells.length d2),(.slice B3 X.keeps.length d3),(.slice B4 X.ins.length d4),(.slice B5 X.outs.length d5)] 28
   have HXM:=zH (fun W (hW:Below w5.heap.size w5 W)=>hx.next hW)
   clear f0 f1 f2 f3 HO hx hb5
   have hs5:=b5.size
   have hs5':=hq5.size
   obtain ⟨f0,f1,f2,f3⟩:=HF4.o _ (hq5.trans (b6.mono hs5'))
   go_upto_region 12 with (fail)
   generalize w5.alloc (.cells #[(.slice B0 X.wires.length d0),(.slice B1 X.acts.length d1),(.slice B2 X.cells.length d2),(.slice B3 X.keeps.length d3),(.slice B4 X.ins.length d4),(.slice B5 X.outs.length d5)] 28)=w6 at*
   have b7:=b5.trans (b6.mono hs5)
   have hq7:=hq5.trans (b6.mono hs5')
   have hs6:=b6.size
   have HX6:Hid (∀W,Below w6.heap.size w6 W->(W.cell? ⟨w.heap.size,0,none⟩=some (.slice Aw f.wires.length cw)/\W.cell? ⟨w.heap.size,1,none⟩=some (.slice Ad f.defs.length cd)/\W.cell? ⟨w.heap.size,2,none⟩=some (.slice Ai f.ins.length ci)/\W.cell? ⟨w.heap.size,3,none⟩=some (.slice Ao f.outs.length co))/\W.cell? ⟨w5.heap.size,0,none⟩=some (.slice B0 X.wires.length d0)/\W.cell? ⟨w5.heap.size,1,none⟩=some (.slice B1 X.acts.length d1)/\W.cell? ⟨w5.heap.size,2,none⟩=some (.slice B2 X.cells.length d2)/\W.cell? ⟨w5.heap.size,3,none⟩=some (.slice B3 X.keeps.length d3)/\W.cell? ⟨w5.heap.size,4,none⟩=some (.slice B4 X.ins.length d4)/\W.cell? ⟨w5.heap.size,5,none⟩=some (.slice B5 X.outs.length d5)):=fun W hW=>⟨HF4.o W (hq7.trans (hW.mono hq7.size)),(rX.below hW rX.lt).six'⟩
   have HBW:=zH (fun W (hW:Below w6.heap.size w6 W)=>b7.trans (hW.mono b7.size))
   have HXB:=zH (fun W (hW:Below w6.heap.size w6 W)=>HXM.o W (b6.trans (hW.mono hs6)))
   have HR1:Hid (∀W,Below w6.heap.size w6 W->Calls Tryz.prog 9 #[dp (.slice B0 X.wires.length d0) (.slice B1 X.acts.length d1) (.slice B2 X.cells.length d2) (.slice B3 X.keeps.length d3) (.slice B4 X.ins.length d4) (.slice B5 X.outs.length d5)] W fun e w'=>e= .returned (.bool true)/\Below W.heap.size W w'):=fun W hW=>by
    have:=nF X _ _ _ _ _ _ W (HXB.o W hW) (by have:=HMD.o.acts;omega) (by have:=HMD.o.ok.2.1.2.2;omega)
    rwa [aq HMD.o.ok] at this
   have HRX:Hid (∀W,Below w6.heap.size w6 W->Calls Tryz.prog 21 #[dp (.slice B0 X.wires.length d0) (.slice B1 X.acts.length d1) (.slice B2 X.cells.length d2) (.slice B3 X.keeps.length d3) (.slice B4 X.ins.length d4) (.slice B5 X.outs.length d5),.slice Ar rows.length cr] W fun e w'=>∃v,e= .returned v/\aI w' w'.heap.size 1 (eF w' w'.heap.size) v (kB f (wF X rows) rows.length)/\Below W.heap.size W w'):=fun W hW=>by
    have:=rB X rows _ _ _ _ _ _ _ W (HXB.o W hW) (HRW.o W (HBW.o W hW)) HMD.o.ok (by have:=HMD.o.acts;omega) HCW.o (fun x hx=>by rw[HRL.o x hx,HLI.o]) hr12
    rw[HOUT.o] at this
    exact this
   have HRF:Hid (∀W,Below w6.heap.size w6 W->Calls Tryz.prog 22 #[eZ (.slice Aw f.wires.length cw) (.slice Ad f.defs.length cd) (.slice Ai f.ins.length ci) (.slice Ao f.outs.length co),.slice Ar rows.length cr] W fun e w'=>∃v,e= .returned v/\aI w' w'.heap.size 1 (eF w' w'.heap.size) v (kB f (wF X rows) rows.length)/\Below W.heap.size W w'):=fun W hW=>
    sH (HFM.o W (HBW.o W hW)) (HRW.o W (HBW.o W hW)) HOK.o HSOL.o (by omega) HRL.o
   clear f0 f1 f2 f3 b5 hq5 hs5 hs5' b6 b7 hq7 rX hbr hqr HXM HRW HFM HXB HF4 HMD HSOL HOUT
   go_wp2_with fail
   refine wp_region_held_drew (S:=fun W=>(W.cell? ⟨w.heap.size,0,none⟩=some (.slice Aw f.wires.length cw)/\W.cell? ⟨w.heap.size,1,none⟩=some (.slice Ad f.defs.length cd)/\W.cell? ⟨w.heap.size,2,none⟩=some (.slice Ai f.ins.length ci)/\W.cell? ⟨w.heap.size,3,none⟩=some (.slice Ao f.outs.length co))/\W.cell? ⟨w5.heap.size,0,none⟩=some (.slice B0 X.wires.length d0)/\W.cell? ⟨w5.heap.size,1,none⟩=some (.slice B1 X.acts.length d1)/\W.cell? ⟨w5.heap.size,2,none⟩=some (.slice B2 X.cells.length d2)/\W.cell? ⟨w5.heap.size,3,none⟩=some (.slice B3 X.keeps.length d3)/\W.cell? ⟨w5.heap.size,4,none⟩=some (.slice B4 X.ins.length d4)/\W.cell? ⟨w5.heap.size,5,none⟩=some (.slice B5 X.outs.length d5)) (by kernel_rfl) ?_ (fun hHeld=>?_)
   ·(try dsimp only);(first|(with_reducible exact HX6.o _ bE))
   refine' zq258
   refine aH 4 (some 49) rfl (fun KK hKK=>?_)
   go_simp
   (go_at_call 9;refine Calls.mono (HR1.o _ ?hbb) ?_;(case hbb=>exact bE);rintro e w8 ⟨rfl,hb8⟩;(have hb9:Below w6.heap.size w6 w8:=Below.trans bE (hb8.mono lE));(have hs9:=hb9.size))
   refine' zq152
   refine tk 5 (some 50) rfl ?_
   refine tk 6 (some 51) rfl ?_
   refine tk 7 (some 52) rfl ?_
   refine tk 8 (some 53) rfl ?_
   refine tk 10 (some 55) rfl ?_
   refine tk 11 (some 56) rfl ?_
   refine aH 9 (some 54) rfl (fun KK hKK=>?_)
   go_simp
   (go_at_call 21;(with_reducible refine Calls.mono (HRX.o _ ?hbb) ?_);(case hbb=>exact bE);rintro e w10 ⟨vx,rfl,hsx,hb10⟩;(have hb11:Below w6.heap.size w6 w10:=Below.trans bE (hb10.mono lE));(have hs11:=hb11.size))
   refine' zq152
   refine aH 12 (some 57) rfl (fun KK hKK=>?_)
   go_simp
   (go_at_call 22;(with_reducible refine Calls.mono (HRF.o _ ?hbb) ?_);(case hbb=>exact bE);rintro e w12 ⟨vf,rfl,hsf,hb12⟩;(have hb13:Below w6.heap.size w6 w12:=Below.trans bE (hb12.mono lE));(have hs13:=hb13.size))
   refine' zq152
   refine aH 13 (some 58) rfl (fun KK hKK=>?_)
   go_simp
   (go_at_call 20;(refine Calls.mono (pa _ vx vf _ _ (ke hsx hb12) hsf) ?_);rintro e w14 ⟨rfl,n14,rfl⟩)
   refine' zq152
   refine tk 14 (some 59) rfl ?_
   refine tk 15 (some 4) rfl ?_
   refine' zq26
   go_ret
   exact ⟨rfl,HBW.o _ bE⟩
theorem walk (f:Fl) (v:Value) (rows:List (List Int)) (v1:Value) (w:World) (h:CI w f v) (h1:rY w rows v1) (ht:mu w):Calls Tryz.prog 5 #[v,v1] w fun e w'=>e= .returned (.bool true)/\Below w.heap.size w w':=by
 obtain ⟨vw,vd,vi,vo,rfl,ha⟩:=h
 exact DQ f rows vw vd vi vo v1 w ha h1 ht
end Go.Proofs.YtckognjamlckcaaGreatDoor.normSays
