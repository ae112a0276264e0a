/-
  What a form is folded to, as plain data: it is bare; folded again it is no smaller. The example of layer 25, as plain data.
-/
import Derived.Test.YtckognjamlckcaaFldR
import Derived.Test.YtckognjamlckcaaSemP
namespace Go.Proofs.Ytckognjamlckcaa.Fo
open Vf Ar
def wantedW (f:Fm) (n:Int):Prop:=n∈f.outs∨(∃w∈f.wires,∃g∈w.clock,g.wire=n)∨(∃k∈f.keeps,k.2=n)∨∃x∈f.acts,n∈wants x
def bareAc (f:Fm) (x:Ac):Prop:=x.op≠3∧wantedW f x.dst∧¬(x.op=27∧isNum f.acts x.a)∧¬((5≤x.op∧x.op≤20)∧∀n∈wants x,isNum f.acts n)
def bareOk (f:Fm):Prop:=formOk f∧(∀x∈f.acts,bareAc f x)∧∀c:Nat,c<f.cells.length→∃x∈f.acts,x.op=21∧x.k=c
inductive Nd (f:Fm) (R:List Int) (A:List Ac) (fr:List Int):Int→Prop where
 |ins (n:Int) (h:n∈f.ins):Nd f R A fr n
 |out (n:Int) (h:n∈f.outs):Nd f R A fr (getI R n)
 |gd (v:Int) (g:Gd) (hv:Nd f R A fr v) (hg:g∈clockOf f v):Nd f R A fr (getI R g.wire)
 |pt (v:Int) (y:Ac) (n:Int) (hv:Nd f R A fr v) (hy:actAt A v=some y) (hn:n∈wants y):Nd f R A fr n
 |pre (v:Int) (y:Ac) (hv:Nd f R A fr v) (hy:actAt A v=some y) (ho:y.op=21):Nd f R A fr (getI R (getI fr y.k))
structure Rea (f:Fm) (R:List Int) (A:List Ac) (fr:List Int) (need cl:List Bool):Prop where
 nn:∀v,nd need v→Nd f R A fr v
 cc:∀c,nd cl c→∃v y,nd need v∧actAt A v=some y∧y.op=21∧y.k=c
section
variable {f:Fm} {R:List Int} {A:List Ac} {fr:List Int} {need cl:List Bool}
theorem Clo.nd_of (h:Clo f R A fr need cl) {v:Int} (hv:Nd f R A fr v):nd need v:=by
 induction hv with
 |ins n hn=>exact h.ins n hn
 |out n hn=>exact h.outs n hn
 |gd v g _ hg ih=>exact h.gd v ih g hg
 |pt v y n _ hy hn ih=>exact (h.pt v ih y hy).1 n hn
 |pre v y _ hy ho ih=>exact h.ce _ ((h.pt v ih y hy).2 ho)
theorem M_wants {y:Ac} {n:Int} (h:n∈wants y) (hu:0≤uses y.op):numV need (getI R n)∈wants (actM R need cl y):=by
 obtain ⟨h1,h2⟩:=wants_uses hu h
 have hM:uses (actM R need cl y).op=uses y.op:=rfl
 rcases h2 with rfl|⟨h2,rfl⟩|⟨h2,rfl⟩
 ·rw[←show (actM R need cl y).a=numV need (getI R y.a) from if_pos h1]
  exact wants_a (by rw[hM];exact h1)
 ·rw[←show (actM R need cl y).b=numV need (getI R y.b) from if_pos h2]
  exact wants_b (by rw[hM];exact h2)
 ·rw[←show (actM R need cl y).c=numV need (getI R y.c) from if_pos h2]
  exact wants_c (by rw[hM];have:=uses_le3 y.op;omega)
theorem acts_len {l:List Ac} (hw:∀z∈l,bGet need z.dst=true):(actsM R need cl l).length=l.length:=by
 induction l with
 |nil=>rfl
 |cons z l ih=>
  have:=ih (fun q hq=>hw q (by simp[hq]))
  unfold actsM at this⊢
  rw[List.filterMap_cons_some (by rw[if_pos (hw z (by simp))])]
  simp only[List.length_cons,this]
theorem Clo.act_at (h:Clo f R A fr need cl) (hf:formOk f) {u:Int} (hu:nd need u):actAt (madeF f R A fr need cl).acts (numV need u)=(actAt A u).map (actM R need cl):=by
 have hmd:=dsts_nodup (h.made_ok hf).2.2.2.2.1
 rcases wire_by hf.2.2.2.2.1 (h.isW hu) with hi|⟨x,hx,rfl⟩
 ·have h1:u∉dstsOf A:=by
   rw[h.inv.ad]
   intro hm
   obtain ⟨x,hx,e⟩:=List.mem_map.1 hm
   exact (hf.2.2.2.2.1.2.1 x hx).2 (by rw[e];exact hi)
  rw[actAt_none h1]
  refine actAt_none (fun hm=>?_)
  obtain ⟨y',hy',e⟩:=List.mem_map.1 hm
  exact ((h.made_ok hf).2.2.2.2.1.2.1 y' hy').2 (by rw[e];exact List.mem_map.2 ⟨u,hi,rfl⟩)
 ·obtain ⟨y,hy,hyd,hm⟩:=h.act_in hf hx hu
  rw[hy,show numV need x.dst=(actM R need cl y).dst by show _=numV need y.dst;rw[hyd]]
  exact actAt_mem hmd hm
theorem Clo.num_iff (h:Clo f R A fr need cl) (hf:formOk f) {u:Int} (hu:nd need u):isNum (madeF f R A fr need cl).acts (numV need u)↔isNum A u:=by
 unfold isNum
 rw[h.act_at hf hu]
 constructor
 ·rintro ⟨y',hy',ho⟩
  rw[Option.map_eq_some_iff] at hy'
  obtain ⟨y,hy,rfl⟩:=hy'
  exact ⟨y,hy,ho⟩
 ·rintro ⟨y,hy,ho⟩
  exact ⟨actM R need cl y,by rw[hy];rfl,ho⟩
def tidyAc (f:Fm) (y:Ac):Prop:=y.op≠3∧(y.op=27→¬isNum f.acts y.a∧y.b≠y.c)∧(y.op=24→¬isNum f.acts y.a)∧(y.op=5∨y.op=6→¬isNum f.acts y.a)∧(7≤y.op∧y.op≤20→¬(isNum f.acts y.a∧isNum f.acts y.b))
theorem Clo.tidy (h:Clo f R A fr need cl) (hf:formOk f):∀y'∈(madeF f R A fr need cl).acts,tidyAc (madeF f R A fr need cl) y':=by
 intro y' hy'
 obtain ⟨x,y,hx,hn,hy,hyd,ha,rfl⟩:=h.acts hf hy'
 have hok:=hf.2.2.2.2.2.1 x hx
 have hpt:=h.pt _ hn y hy
 have hst:=ha.stays (h.rt _ hn)
 rcases ha.now with ⟨k,h1,h2,_⟩|⟨hgt,h2,g3,g4,g5⟩
 ·rw[hy] at h1
  injection h1 with h1
  have hop:(actM R need cl y).op=tyOf f x.dst:=by show y.op=_;rw[h1]
  unfold tidyAc
  refine ⟨by omega,by omega,by omega,by omega,by omega⟩
 ·rw[hy] at h2
  injection h2 with h2
  have hop:y.op=x.op:=by rw[h2,root_op]
  have hM:(actM R need cl y).op=x.op:=hop
  have pa:1≤uses x.op→(actM R need cl y).a=numV need (getI R x.a)∧nd need (getI R x.a):=fun g=>by
   have e:y.a=getI R x.a:=by rw[h2];unfold rootAc;rw[if_neg (by omega)]
   have hm:nd need y.a:=hpt.1 _ (wants_a (by rw[hop];exact g))
   refine ⟨?_,by rw[←e];exact hm⟩
   show (if 1≤uses y.op then numV need (getI R y.a) else y.a)=_
   rw[if_pos (by rw[hop];exact g),h.rt _ hm,e]
  have pb:2≤uses x.op→(actM R need cl y).b=numV need (getI R x.b)∧nd need (getI R x.b):=fun g=>by
   have e:y.b=getI R x.b:=by rw[h2];unfold rootAc;rw[if_neg (by omega)];exact if_pos g
   have hm:nd need y.b:=hpt.1 _ (wants_b (by rw[hop];exact g))
   refine ⟨?_,by rw[←e];exact hm⟩
   show (if 2≤uses y.op then numV need (getI R y.b) else y.b)=_
   rw[if_pos (by rw[hop];exact g),h.rt _ hm,e]
  have pc:3≤uses x.op→(actM R need cl y).c=numV need (getI R x.c)∧nd need (getI R x.c):=fun g=>by
   have e:y.c=getI R x.c:=by rw[h2];unfold rootAc;rw[if_neg (by omega)];exact if_pos g
   have hm:nd need y.c:=hpt.1 _ (wants_c (by rw[hop];have:=uses_le3 x.op;omega))
   refine ⟨?_,by rw[←e];exact hm⟩
   show (if 3≤uses y.op then numV need (getI R y.c) else y.c)=_
   rw[if_pos (by rw[hop];exact g),h.rt _ hm,e]
  have na:1≤uses x.op→(isNum (madeF f R A fr need cl).acts (actM R need cl y).a↔isNum A (getI R x.a)):=fun g=>by rw[(pa g).1];exact h.num_iff hf (pa g).2
  have nb:2≤uses x.op→(isNum (madeF f R A fr need cl).acts (actM R need cl y).b↔isNum A (getI R x.b)):=fun g=>by rw[(pb g).1];exact h.num_iff hf (pb g).2
  unfold tidyAc
  rw[hM]
  refine ⟨hst.1,fun g=>?_,fun g=>?_,fun g=>?_,fun g=>?_⟩
  ·have u3:=uses3 (op:=x.op) (.inr g)
   rw[na (by omega),(pb (by omega)).1,(pc (by omega)).1]
   exact ⟨(hst.2 g).1,fun e=>(hst.2 g).2 (num_inj (pb (by omega)).2 (pc (by omega)).2 e)⟩
  ·rw[na (by rw[uses1 (.inr (.inl g))];omega)];exact g3 g
  ·rw[na (by rw[uses1 (by omega)];omega)];exact g4 g
  ·rw[na (by rw[uses2 g];omega),nb (by rw[uses2 g];omega)];exact g5 g
theorem Clo.bare (h:Clo f R A fr need cl) (hf:formOk f) (hr:Rea f R A fr need cl):bareOk (madeF f R A fr need cl):=by
 refine ⟨h.made_ok hf,fun y' hy'=>?_,fun c hc=>?_⟩
 ·have ht:=h.tidy hf y' hy'
  refine ⟨ht.1,?_,fun g=>(ht.2.1 g.1).1 g.2,fun g=>?_⟩
  ·obtain ⟨x,y,hx,hn,_,hyd,_,rfl⟩:=h.acts hf hy'
   have ed:(actM R need cl y).dst=numV need x.dst:=by show numV need y.dst=_;rw[hyd]
   rw[ed]
   have hni:=(hf.2.2.2.2.1.2.1 x hx).2
   have hN:=hr.nn _ hn
   generalize x.dst=v at*
   cases hN with
   |ins n hi=>exact absurd hi hni
   |out n ho=>exact .inl (List.mem_map.2 ⟨n,ho,rfl⟩)
   |gd u g hu hg=>
    have hnu:=h.nd_of hu
    refine .inr (.inl ⟨wireM f R need u,?_,gdM R need g,List.mem_map.2 ⟨g,hg,rfl⟩,rfl⟩)
    have hl:u.toNat<f.wires.length:=by have:=(h.isW hnu).1;have:=(h.isW hnu).2;omega
    have:=List.mem_of_getElem? (pick_get (g:=fun (i:Nat)=>wireM f R need (i:Nat)) hl hnu.2)
    rwa [show ((u.toNat:Nat):Int)=u by have:=hnu.1;omega] at this
   |pt u y2 n hu hy2 hn2=>
    have hnu:=h.nd_of hu
    rcases wire_by hf.2.2.2.2.1 (h.isW hnu) with hi|⟨x2,hx2,rfl⟩
    ·have:=actAt_dst hy2
     have hm:u∈dstsOf f.acts:=by rw[←h.inv.ad,←this.2];exact List.mem_map.2 ⟨y2,this.1,rfl⟩
     obtain ⟨z,hz,e⟩:=List.mem_map.1 hm
     exact absurd (by rw[e];exact hi) (hf.2.2.2.2.1.2.1 z hz).2
    ·obtain ⟨y3,hy3,_,hm⟩:=h.act_in hf hx2 hnu
     rw[hy2] at hy3
     injection hy3 with hy3
     subst hy3
     refine .inr (.inr (.inr ⟨_,hm,?_⟩))
     have hu2:0≤uses y2.op:=((h.made_ok hf).2.2.2.2.2.1 _ hm).2.2.2.1
     have:=M_wants (R:=R) (need:=need) (cl:=cl) hn2 hu2
     rwa [h.rt _ hn] at this
   |pre u y2 hu hy2 ho=>
    have hnu:=h.nd_of hu
    have hc:=(h.pt u hnu y2 hy2).2 ho
    have hk:=kept_mem ((h.made_cells hf).2 _ hc)
    exact .inr (.inr (.inl ⟨_,hk,rfl⟩))
  ·obtain ⟨g1,g2⟩:=g
   rcases Int.lt_or_le y'.op 7 with q|q
   ·exact ht.2.2.2.1 (by omega) (g2 _ (wants_a (by rw[uses1 (by omega)];omega)))
   ·exact ht.2.2.2.2 ⟨q,g1.2⟩ ⟨g2 _ (wants_a (by rw[uses2 (by omega)];omega)),g2 _ (wants_b (by rw[uses2 (by omega)];omega))⟩
 ·obtain ⟨c0,hc0,e⟩:=h.csurj hc
  obtain ⟨v,y,hv,hy,ho,rfl⟩:=hr.cc c0 hc0
  rcases wire_by hf.2.2.2.2.1 (h.isW hv) with hi|⟨x2,hx2,rfl⟩
  ·have:=actAt_dst hy
   have hm:v∈dstsOf f.acts:=by rw[←h.inv.ad,←this.2];exact List.mem_map.2 ⟨y,this.1,rfl⟩
   obtain ⟨z,hz,e⟩:=List.mem_map.1 hm
   exact absurd (by rw[e];exact hi) (hf.2.2.2.2.1.2.1 z hz).2
  ·obtain ⟨y3,hy3,_,hm⟩:=h.act_in hf hx2 hv
   rw[hy] at hy3
   injection hy3 with hy3
   subst hy3
   exact ⟨_,hm,ho,by show (if y.op=21 then numV cl y.k else y.k)=_;rw[if_pos ho];exact e⟩
theorem tidy_same {x:Fm} (hx:formOk x) (ht:∀y∈x.acts,tidyAc x y) {R2:List Int} {A2:List Ac} (hI:FInv x R2 A2 (Fo.isW x)):∀(k:Nat) {v:Int},rkF x v≤k→Fo.isW x v→getI R2 v=v∧actAt A2 v=actAt x.acts v:=by
 intro k
 induction k using Nat.strongRecOn with
 |ind k ih=>
  intro v hk hv
  rcases wire_by hx.2.2.2.2.1 hv with hi|⟨y,hy,rfl⟩
  ·refine ⟨hI.inp v hi hv,?_⟩
   have h1:v∉dstsOf x.acts:=fun hm=>by
    obtain ⟨z,hz,e⟩:=List.mem_map.1 hm
    exact (hx.2.2.2.2.1.2.1 z hz).2 (by rw[e];exact hi)
   rw[actAt_none h1,actAt_none (by rw[hI.ad];exact h1)]
  ·have ha:=hI.act y hy hv
   have hok:=hx.2.2.2.2.2.1 y hy
   have hu:=hok.2.2.2.1
   have htd:=ht y hy
   have hp:∀n∈wants y,getI R2 n=n∧(isNum A2 n↔isNum x.acts n):=fun n hn=>by
    have h1:=(rk_part hx hy).1 n hn
    have:=ih (rkF x n) (by omega) (Nat.le_refl _) (ha.ps n hn)
    exact ⟨this.1,isNum_congr this.2⟩
   have wa:1≤uses y.op→y.a∈wants y:=wants_a
   have wb:2≤uses y.op→y.b∈wants y:=wants_b
   have wc:uses y.op=3→y.c∈wants y:=wants_c
   have na:1≤uses y.op→(isNum A2 (getI R2 y.a)↔isNum x.acts y.a):=fun g=>by rw[(hp _ (wa g)).1];exact (hp _ (wa g)).2
   have nb:2≤uses y.op→(isNum A2 (getI R2 y.b)↔isNum x.acts y.b):=fun g=>by rw[(hp _ (wb g)).1];exact (hp _ (wb g)).2
   refine ⟨Classical.byContradiction (fun g=>?_),?_⟩
   ·rcases ha.gone g with q|⟨q,r⟩
    ·exact htd.1 q
    ·have u3:=uses3 (op:=y.op) (.inr q)
     rw[na (by omega),(hp _ (wb (by omega))).1,(hp _ (wc u3)).1] at r
     rcases r with r|r
     ·exact (htd.2.1 q).1 r
     ·exact (htd.2.1 q).2 r
   ·rw[actAt_mem (dsts_nodup hx.2.2.2.2.1) hy]
    rcases ha.now with ⟨k,h1,h2,_,h4⟩|⟨hgt,h2,_⟩
    ·rcases h4 with ⟨q,r⟩|⟨q,r⟩|⟨q,r⟩|⟨q,r1,r2⟩
     ·rw[h1]
      have u0:uses y.op=0:=uses0 (by omega)
      have e1:=hok.2.2.2.2.1 (by omega);have e2:=hok.2.2.2.2.2.1 (by omega);have e3:=hok.2.2.2.2.2.2.1 (by omega)
      have et:tyOf x y.dst=y.op:=by
       have hrest:=hok.2.2.2.2.2.2.2.2
       rcases q with q|q
       ·rw[if_pos q] at hrest;rw[hrest,q]
       ·rw[if_neg (by omega),if_pos q] at hrest;rw[hrest.1,q]
      rw[et,←r]
      cases y;simp_all
     ·rw[na (by rw[uses1 (.inr (.inl q))];omega)] at r
      exact absurd r (htd.2.2.1 q)
     ·rw[na (by rw[uses1 (by omega)];omega)] at r
      exact absurd r (htd.2.2.2.1 q)
     ·rw[na (by rw[uses2 q];omega)] at r1
      rw[nb (by rw[uses2 q];omega)] at r2
      exact absurd ⟨r1,r2⟩ (htd.2.2.2.2 q)
    ·rw[h2]
     congr 1
     unfold rootAc
     split
     ·rfl
     ·rename_i h0
      have e1:=(hp _ (wa (by omega))).1
      have e2:(if 2≤uses y.op then getI R2 y.b else 0)=y.b:=by
       split
       ·exact (hp _ (wb (by omega))).1
       ·exact (hok.2.2.2.2.2.1 (by omega)).symm
      have e3:(if 3≤uses y.op then getI R2 y.c else 0)=y.c:=by
       split
       ·exact (hp _ (wc (by have:=uses_le3 y.op;omega))).1
       ·exact (hok.2.2.2.2.2.2.1 (by omega)).symm
      rw[e1,e2,e3]
theorem Clo.again (h:Clo f R A fr need cl) (hf:formOk f) (hr:Rea f R A fr need cl) {R2:List Int} {A2:List Ac} {fr2:List Int} {need2 cl2:List Bool} (h2:Clo (madeF f R A fr need cl) R2 A2 fr2 need2 cl2):
  (madeF (madeF f R A fr need cl) R2 A2 fr2 need2 cl2).wires.length=(madeF f R A fr need cl).wires.length∧(madeF (madeF f R A fr need cl) R2 A2 fr2 need2 cl2).cells.length=(madeF f R A fr need cl).cells.length∧(madeF (madeF f R A fr need cl) R2 A2 fr2 need2 cl2).acts.length=(madeF f R A fr need cl).acts.length:=by
 have hm:=h.made_ok hf
 have hs:∀{v},Fo.isW (madeF f R A fr need cl) v→getI R2 v=v∧actAt A2 v=actAt (madeF f R A fr need cl).acts v:=fun hv=>tidy_same hm (h.tidy hf) h2.inv _ (Nat.le_refl _) hv
 have hact:∀{v y},nd need v→actAt A v=some y→actAt A2 (numV need v)=some (actM R need cl y):=fun hv hy=>by
  rw[(hs (h.num hv).1).2,h.act_at hf hv,hy];rfl
 have hue:∀{v y},nd need v→actAt A v=some y→0≤uses y.op:=fun {v y} hv hy=>by
  have:=h.act_at hf hv
  rw[hy] at this
  exact (hm.2.2.2.2.2.1 _ (actAt_dst this).1).2.2.2.1
 have key:∀{u},Nd f R A fr u→nd need2 (numV need u):=fun {u} hu=>by
  induction hu with
  |ins n hn=>exact h2.ins _ (List.mem_map.2 ⟨n,hn,rfl⟩)
  |out n hn=>
   have:=h2.outs _ (List.mem_map.2 ⟨n,hn,rfl⟩)
   rwa [(hs (h.num (h.outs n hn)).1).1] at this
  |gd u g hu hg ih=>
   have hnu:=h.nd_of hu
   have hng:=h.gd u hnu g hg
   have:=h2.gd _ ih (gdM R need g) (by rw[(h.num hnu).2.2];exact List.mem_map.2 ⟨g,hg,rfl⟩)
   rwa [show (gdM R need g).wire=numV need (getI R g.wire) from rfl,(hs (h.num hng).1).1] at this
  |pt u y n hu hy hn ih=>
   have hnu:=h.nd_of hu
   have hnn:=(h.pt u hnu y hy).1 n hn
   have:=(h2.pt _ ih _ (hact hnu hy)).1 _ (M_wants hn (hue hnu hy))
   rwa [h.rt _ hnn] at this
  |pre u y hu hy ho ih=>
   have hnu:=h.nd_of hu
   have hc:=(h.pt u hnu y hy).2 ho
   have h3:=(h2.pt _ ih _ (hact hnu hy)).2 ho
   rw[show (actM R need cl y).k=numV cl y.k by show (if y.op=21 then _ else y.k)=_;rw[if_pos ho]] at h3
   have h4:=h2.ce _ h3
   rw[show getI fr2 (numV cl y.k)=numV need (getI R (getI fr y.k)) from h2.fk _ (kept_mem ((h.made_cells hf).2 _ hc)),(hs (h.num (h.ce _ hc)).1).1] at h4
   exact h4
 have hc2:∀c,nd cl c→nd cl2 (numV cl c):=fun c hc=>by
  obtain ⟨v,y,hv,hy,ho,rfl⟩:=hr.cc c hc
  have:=(h2.pt _ (key (hr.nn v hv)) _ (hact hv hy)).2 ho
  rwa [show (actM R need cl y).k=numV cl y.k by show (if y.op=21 then _ else y.k)=_;rw[if_pos ho]] at this
 have hall:∀{n},Fo.isW (madeF f R A fr need cl) n→nd need2 n:=fun {n} hn=>by
  obtain ⟨v,hv,e⟩:=h.surj (n:=n.toNat) (by have:=hn.1;have:=hn.2;omega)
  have:=key (hr.nn v hv)
  rwa [e,show ((n.toNat:Nat):Int)=n by have:=hn.1;omega] at this
 refine ⟨?_,?_,?_⟩
 ·show (pickN need2 _ (madeF f R A fr need cl).wires.length).length=_
  rw[pick_len]
  exact cnt_full (fun i hi=>(hall ⟨by omega,by omega⟩:nd need2 (i:Int)).2)
 ·show (pickN cl2 _ (madeF f R A fr need cl).cells.length).length=_
  rw[pick_len]
  refine cnt_full (fun i hi=>?_)
  obtain ⟨c,hc,e⟩:=h.csurj hi
  have:=hc2 c hc
  rw[e] at this
  exact this.2
 ·show (actsM R2 need2 cl2 A2).length=_
  have hl:A2.length=(madeF f R A fr need cl).acts.length:=by have:=congrArg List.length h2.inv.ad;simpa[dstsOf] using this
  rw[←hl]
  have hw:∀z∈A2,bGet need2 z.dst=true:=fun z hz=>by
   have hmm:z.dst∈dstsOf (madeF f R A fr need cl).acts:=by rw[←h2.inv.ad];exact List.mem_map.2 ⟨z,hz,rfl⟩
   obtain ⟨y,hy,e⟩:=List.mem_map.1 hmm
   rw[←e]
   exact (hall (hm.2.2.2.2.1.2.1 y hy).1).2
  exact acts_len hw
end
end Go.Proofs.Ytckognjamlckcaa.Fo
namespace Go.Proofs.Ytckognjamlckcaa.Fo
open Vf Ar
def s1:Ac:=⟨1,1,0,0,0,2⟩
def s2:Ac:=⟨1,2,0,0,0,3⟩
def s3:Ac:=⟨9,3,1,2,0,0⟩
def s4:Ac:=⟨7,4,0,3,0,0⟩
def fS:Fm:=⟨[⟨1,[]⟩,⟨1,[]⟩,⟨1,[]⟩,⟨1,[]⟩,⟨1,[]⟩],[s1,s2,s3,s4],[],[],[0],[4]⟩
theorem fS_w {n:Int}:isW fS n↔n=0∨n=1∨n=2∨n=3∨n=4:=by unfold isW;simp[fS];omega
theorem fS_c {n:Int} (h:isW fS n):clockOf fS n=[]∧tyOf fS n=1:=by rcases fS_w.1 h with rfl|rfl|rfl|rfl|rfl<;>exact ⟨rfl,rfl⟩
theorem w_two (o d a b:Int) (h:7≤o∧o≤20):wants ⟨o,d,a,b,0,0⟩=[a,b]:=by unfold wants;rw[uses2 h];rfl
theorem w_int (d k:Int):wants ⟨1,d,0,0,0,k⟩=[]:=rfl
theorem fS_ok:formOk fS:=by
 have w0:isW fS 0:=fS_w.2 (by omega)
 have w1:isW fS 1:=fS_w.2 (by omega)
 have w2:isW fS 2:=fS_w.2 (by omega)
 have w3:isW fS 3:=fS_w.2 (by omega)
 have w4:isW fS 4:=fS_w.2 (by omega)
 have d0:Done fS 0:= .ins 0 (by simp[fS])
 have d1:Done fS 1:= .act (f:=fS) s1 (by simp[fS]) (fun n hn=>by rw[s1,w_int] at hn;simp at hn) (fun g hg=>by rw[show clockOf fS s1.dst=[] from rfl] at hg;simp at hg)
 have d2:Done fS 2:= .act (f:=fS) s2 (by simp[fS]) (fun n hn=>by rw[s2,w_int] at hn;simp at hn) (fun g hg=>by rw[show clockOf fS s2.dst=[] from rfl] at hg;simp at hg)
 have d3:Done fS 3:= .act (f:=fS) s3 (by simp[fS]) (fun n hn=>by rw[s3,w_two _ _ _ _ (by omega)] at hn;simp at hn;rcases hn with rfl|rfl;exact d1;exact d2) (fun g hg=>by rw[show clockOf fS s3.dst=[] from rfl] at hg;simp at hg)
 have d4:Done fS 4:= .act (f:=fS) s4 (by simp[fS]) (fun n hn=>by rw[s4,w_two _ _ _ _ (by omega)] at hn;simp at hn;rcases hn with rfl|rfl;exact d0;exact d3) (fun g hg=>by rw[show clockOf fS s4.dst=[] from rfl] at hg;simp at hg)
 refine ⟨⟨fun w hw=>?_,by decide,by decide⟩,⟨fun n hn=>?_,by decide,by decide⟩,⟨fun n hn=>?_,by decide,by decide⟩,⟨by simp[fS],by decide,by simp[fS],by simp[fS],by simp[fS]⟩,defined_iff.2 ⟨by decide,fun a ha=>?_,fun n hn=>?_⟩,fun x hx=>?_,fun n hn=>?_⟩
 ·simp[fS] at hw;subst hw;exact ⟨.inl rfl,by simp⟩
 ·simp[fS] at hn;subst hn;exact ⟨w0,rfl⟩
 ·simp[fS] at hn;subst hn;exact ⟨w4,rfl⟩
 ·simp[fS] at ha;rcases ha with rfl|rfl|rfl|rfl
  ·exact w1
  ·exact w2
  ·exact w3
  ·exact w4
 ·have hn':n<5:=hn
  rcases (by omega:n=0∨n=1∨n=2∨n=3∨n=4) with rfl|rfl|rfl|rfl|rfl<;>decide
 ·simp[fS] at hx;rcases hx with rfl|rfl|rfl|rfl
  ·exact (act_iff1 rfl ⟨w0,w0,w0⟩).2 ⟨⟨rfl,rfl,rfl⟩,rfl⟩
  ·exact (act_iff1 rfl ⟨w0,w0,w0⟩).2 ⟨⟨rfl,rfl,rfl⟩,rfl⟩
  ·exact (act_iffTwo (by omega) ⟨w1,w2,w0⟩).2 ⟨rfl,rfl,⟨rfl,rfl⟩,rfl,rfl,.inr rfl⟩
  ·exact (act_iffTwo (by omega) ⟨w0,w3,w0⟩).2 ⟨rfl,rfl,⟨rfl,rfl⟩,rfl,rfl,.inr rfl⟩
 ·have hn':n<5:=hn
  rcases (by omega:n=0∨n=1∨n=2∨n=3∨n=4) with rfl|rfl|rfl|rfl|rfl
  ·exact d0
  ·exact d1
  ·exact d2
  ·exact d3
  ·exact d4
theorem fS_rows:rowsF fS [] [[1]]=[[7]]:=by
 have hd:=fS_ok.2.2.2.2.1
 have v0:Vl fS [] [1] 0 1:= .inp 0 0 1 rfl rfl
 have v1:Vl fS [] [1] 1 2:= .const s1 (by simp[fS]) (by decide)
 have v2:Vl fS [] [1] 2 3:= .const s2 (by simp[fS]) (by decide)
 have v3:Vl fS [] [1] 3 (doV 9 2 3):= .two s3 (by simp[fS]) (by decide) 2 3 v1 v2
 have v4:Vl fS [] [1] 4 (doV 7 1 (doV 9 2 3)):= .two s4 (by simp[fS]) (by decide) 1 _ v0 v3
 show [[valF fS [] [1] 4]]=_
 rw[valF_of hd v4]
 simp[doV,addZ,mulZ,RowKit.wrap64]
theorem fS_bare:¬bareOk fS:=fun h=>by
 have:=(h.2.1 s3 (by simp[fS])).2.2.2
 refine this ⟨by decide,fun n hn=>?_⟩
 rw[s3,w_two _ _ _ _ (by omega)] at hn
 simp at hn
 rcases hn with rfl|rfl
 ·exact ⟨s1,rfl,.inl rfl⟩
 ·exact ⟨s2,rfl,.inl rfl⟩
section
variable {R:List Int} {A:List Ac} {fr:List Int} {need cl:List Bool}
theorem acts_cnt {R:List Int} {need cl:List Bool}:∀(A:List Ac),(actsM R need cl A).length=((dstsOf A).filter (bGet need)).length
 | []=>rfl
 |y::A=>by
  have ih:=acts_cnt (R:=R) (need:=need) (cl:=cl) A
  unfold actsM dstsOf at ih⊢
  by_cases h:bGet need y.dst=true
  ·rw[List.filterMap_cons_some (by rw[if_pos h]),List.map_cons,List.filter_cons_of_pos h,List.length_cons,List.length_cons,ih]
  ·rw[List.filterMap_cons_none (by rw[if_neg h]),List.map_cons,List.filter_cons_of_neg h,ih]
theorem fS_roots (h:Clo fS R A fr need cl):getI R 0=0∧getI R 1=1∧getI R 2=2∧getI R 4=4∧isNum A 1∧isNum A 2∧¬isNum A 0:=by
 have w:=fun {n} g=>(fS_w (n:=n)).2 g
 have a1:=h.inv.act s1 (by simp[fS]) (w (n:=1) (by omega))
 have a2:=h.inv.act s2 (by simp[fS]) (w (n:=2) (by omega))
 have a4:=h.inv.act s4 (by simp[fS]) (w (n:=4) (by omega))
 have r1:getI R 1=1:=Classical.byContradiction fun g=>by
  rcases a1.gone g with q|⟨q,_⟩
  ·exact absurd q (by decide)
  ·exact absurd q (by decide)
 have r2:getI R 2=2:=Classical.byContradiction fun g=>by
  rcases a2.gone g with q|⟨q,_⟩
  ·exact absurd q (by decide)
  ·exact absurd q (by decide)
 have r4:getI R 4=4:=Classical.byContradiction fun g=>by
  rcases a4.gone g with q|⟨q,_⟩
  ·exact absurd q (by decide)
  ·exact absurd q (by decide)
 refine ⟨h.inv.inp 0 (by simp[fS]) (w (n:=0) (by omega)),r1,r2,r4,?_,?_,fun ⟨y,hy,_⟩=>?_⟩
 ·rcases a1.now with ⟨k,q,_⟩|⟨q,_⟩
  ·exact ⟨_,q,.inl rfl⟩
  ·exact absurd q (by decide)
 ·rcases a2.now with ⟨k,q,_⟩|⟨q,_⟩
  ·exact ⟨_,q,.inl rfl⟩
  ·exact absurd q (by decide)
 ·have:=actAt_dst hy
  have hm:(0:Int)∈dstsOf fS.acts:=by rw[←h.inv.ad,←this.2];exact List.mem_map.2 ⟨y,this.1,rfl⟩
  exact absurd hm (by decide)
theorem fS_acts (h:Clo fS R A fr need cl) (hr:Rea fS R A fr need cl):(madeF fS R A fr need cl).acts.length=2:=by
 obtain ⟨r0,r1,r2,r4,n1,n2,n0⟩:=fS_roots h
 have w:=fun {n} g=>(fS_w (n:=n)).2 g
 have a3:=h.inv.act s3 (by simp[fS]) (w (n:=3) (by omega))
 have a4:=h.inv.act s4 (by simp[fS]) (w (n:=4) (by omega))
 have y3:∃k,actAt A 3=some ⟨1,3,0,0,0,k⟩:=by
  rcases a3.now with ⟨k,q,_⟩|⟨_,_,_,_,q⟩
  ·exact ⟨k,q⟩
  ·exact absurd ⟨by show isNum A (getI R 1);rw[r1];exact n1,by show isNum A (getI R 2);rw[r2];exact n2⟩ (q (by decide))
 have y4:actAt A 4=some ⟨7,4,0,getI R 3,0,0⟩:=by
  rcases a4.now with ⟨k,q,_,_,g⟩|⟨_,q,_⟩
  ·rcases g with ⟨g,_⟩|⟨g,_⟩|⟨g,_⟩|⟨_,g,_⟩
   ·exact absurd g (by decide)
   ·exact absurd g (by decide)
   ·exact absurd g (by decide)
   ·exact absurd (show isNum A 0 by rw[←r0];exact g) n0
  ·rw[show (4:Int)=s4.dst from rfl,q]
   unfold rootAc
   rw[if_neg (by decide)]
   show some (Ac.mk 7 4 (getI R 0) _ _ 0)=_
   rw[r0]
   rfl
 have r3:getI R 3=3:=Classical.byContradiction fun g=>by
  rcases a3.gone g with q|⟨q,_⟩
  ·exact absurd q (by decide)
  ·exact absurd q (by decide)
 have m4:nd need 4:=by have:=h.outs 4 (by simp[fS]);rwa [r4] at this
 have m3:nd need 3:=by
  have:=(h.pt 4 m4 _ y4).1 (getI R 3) (wants_b (by show 2≤uses 7;decide))
  rwa [r3] at this
 have key:∀v,Nd fS R A fr v→v=0∨v=3∨v=4:=fun v hv=>by
  induction hv with
  |ins n hn=>simp[fS] at hn;exact .inl hn
  |out n hn=>simp[fS] at hn;subst hn;exact .inr (.inr r4)
  |gd v g hv hg ih=>
   rw[(fS_c (h.isW (h.nd_of hv))).1] at hg
   simp at hg
  |pt v y n hv hy hn ih=>
   rcases ih with rfl|rfl|rfl
   ·have:=actAt_dst hy
    have hm:(0:Int)∈dstsOf fS.acts:=by rw[←h.inv.ad,←this.2];exact List.mem_map.2 ⟨y,this.1,rfl⟩
    exact absurd hm (by decide)
   ·obtain ⟨k,y3⟩:=y3
    rw[y3] at hy
    injection hy with hy
    subst hy
    rw[w_int] at hn
    simp at hn
   ·rw[y4] at hy
    injection hy with hy
    subst hy
    rw[w_two _ _ _ _ (by omega),r3] at hn
    simp at hn
    omega
  |pre v y hv hy ho ih=>
   rcases ih with rfl|rfl|rfl
   ·have:=actAt_dst hy
    have hm:(0:Int)∈dstsOf fS.acts:=by rw[←h.inv.ad,←this.2];exact List.mem_map.2 ⟨y,this.1,rfl⟩
    exact absurd hm (by decide)
   ·obtain ⟨k,y3⟩:=y3
    rw[y3] at hy
    injection hy with hy
    subst hy
    simp at ho
   ·rw[y4] at hy
    injection hy with hy
    subst hy
    simp at ho
 have b1:bGet need 1=false:=by
  cases q:bGet need 1
  ·rfl
  ·have:=key 1 (hr.nn 1 ⟨by omega,q⟩);omega
 have b2:bGet need 2=false:=by
  cases q:bGet need 2
  ·rfl
  ·have:=key 2 (hr.nn 2 ⟨by omega,q⟩);omega
 show (actsM R need cl A).length=2
 rw[acts_cnt,h.inv.ad]
 show (List.filter (bGet need) [1,2,3,4]).length=2
 simp[List.filter,b1,b2,m3.2,m4.2]
end
end Go.Proofs.Ytckognjamlckcaa.Fo
