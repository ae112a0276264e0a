/-
  norm's maker: reckoned ops, and when (printed by gen_noy.py). norm's maker: merge (printed by gen_noz.py).
-/
import Derived.Test.YtckognjamlckcaaGreatDoorNoX
set_option maxHeartbeats 8000000
set_option maxRecDepth 100000
namespace Go.Proofs.YtckognjamlckcaaGreatDoor
open Go.RowKit Vf Fo
attribute [local go_sem ↓] Go.wp_at_zero Go.wp_at_succ
theorem DA:Wf 24:=aT (by omega)
theorem DI:Wf 26:=aT (by omega)
section
variable {f:Fl} {K:Kw} {w0:World} {D:Nat} {vi vo:Value} {W:World} {q:dH} {s:Mk} {e:Ex} {A:Option Addr} {cap:Nat}
theorem t' (hs:s.spent=false) (h:aF K w0 D vi vo W q s) (hpl:aO f e) (hop:5<=e.op/\e.op<=20) (v:Value) (c:List Gd) (hc:cF D q W v c) (hp:fy f K e c s) (hok:Wf e.op) (hP:fp f K w0 D vi vo e A cap):Calls Tryz.prog 40 #[.pointer (some ⟨D,0,none⟩),bz e A cap,v] W fun r w'=>r= .returned (.int .i64 (ah e c s).1)/\cN K w0 D vi vo q W (ah e c s).2 w':=by
 refine' zq83
 have hc1:=hc.fr (aB.of_below (q:=q) (D:=D) b1)
 have HM1:Hid (aB D q W q (W.alloc (.cells (bi e A cap) 75))):=aB.of_below b1
 have HC:Hid (Calls Tryz.prog 86 #[.pointer (some ⟨D,0,none⟩),bz e A cap,v] (W.alloc (.cells (bi e A cap) 75)) fun r w'=>r= .returned (.int .i64 (ah e c s).1)/\cN K w0 D vi vo q (W.alloc (.cells (bi e A cap) 75)) (ah e c s).2 w'):=by
  rcases (show e.op=5\/e.op=6\/7<=e.op/\e.op<=20 by omega) with g|g|g
  ·exact tC hs h1 hpl (.inl g) v c hc1 hp hok hP
  ·exact tC hs h1 hpl (.inr g) v c hc1 hp hok hP
  ·exact Ch hs h1 hpl g v c hc1 hp hok hP
 refine' zq122
 have o3:(e.op==3)=false:=by rw[beq_eq_false_iff_ne];omega
 have o1:(e.op==1)=false:=by rw[beq_eq_false_iff_ne];omega
 have o2:(e.op==2)=false:=by rw[beq_eq_false_iff_ne];omega
 have o21:(e.op==21)=false:=by rw[beq_eq_false_iff_ne];omega
 have o22:(e.op==22)=false:=by rw[beq_eq_false_iff_ne];omega
 have o23:(e.op==23)=false:=by rw[beq_eq_false_iff_ne];omega
 have o27:(e.op==27)=false:=by rw[beq_eq_false_iff_ne];omega
 have o24:(e.op==24)=false:=by rw[beq_eq_false_iff_ne];omega
 have o25:(e.op==25)=false:=by rw[beq_eq_false_iff_ne];omega
 have o26:(e.op==26)=false:=by rw[beq_eq_false_iff_ne];omega
 clear h h1 hs hop hc hp hP hpl hc1 hok
 refine' zq59
 generalize (W.alloc (.cells (bi e A cap) 75))=w1 at*
 obtain ⟨c0,c1,c2,c3,c4,c5⟩:=rX.six'
 refine' zq56
 rintro r w5 ⟨rfl,h5⟩
 have HN:=zH (cN.trans HM1.o h5)
 clear h5
 go_wp2_with fail
 go_ret
 exact ⟨rfl,HN.o⟩
theorem rA (_law:fx K w0) (hs:s.spent=false) (h:aF K w0 D vi vo W q s) (hpl:aO f e) (hop:e.op=24) (v:Value) (c:List Gd) (hc:cF D q W v c) (hp:fy f K e c s) (hP:fp f K w0 D vi vo e A cap):Calls Tryz.prog 40 #[.pointer (some ⟨D,0,none⟩),bz e A cap,v] W fun r w'=>r= .returned (.int .i64 (ah e c s).1)/\cN K w0 D vi vo q W (ah e c s).2 w':=by
 refine' zq15
 have o24:(e.op==24)=true:=by rw[hop];rfl
 refine' zq6
theorem qg (_law:fx K w0) (hs:s.spent=false) (h:aF K w0 D vi vo W q s) (hpl:aO f e) (hop:e.op=25) (v:Value) (c:List Gd) (hc:cF D q W v c) (hp:fy f K e c s) (hP:fp f K w0 D vi vo e A cap):Calls Tryz.prog 40 #[.pointer (some ⟨D,0,none⟩),bz e A cap,v] W fun r w'=>r= .returned (.int .i64 (ah e c s).1)/\cN K w0 D vi vo q W (ah e c s).2 w':=by
 refine' zq15
 have o24:(e.op==24)=false:=by rw[hop];rfl
 have o25:(e.op==25)=true:=by rw[hop];rfl
 refine' zq6
end
theorem ut (a b:Int):∀(i:Nat) (x:Bool),(#[Value.int .i64 a,.int .i64 b]:Array Value)[i]?≠some (Value.bool x):=fun i x=>by
 rcases i with _|_|i<;>simp
structure DY (K:Kw) (w0:World) (D:Nat) (vi vo:Value) (q:dH) (w1:World) (B:Nat) (mS:Nat->Mk) (mP:Nat->Int) (v:Value) (W:World) (j:Nat) (q':dH) (a0 a1:Int):Prop where
 le:j<=2
 eq:v= .int .i64 j
 mkat:aF K w0 D vi vo W q' (mS j)
 fr:aB D q w1 q' W
 row:ai W B #[.int .i64 a0,.int .i64 a1] 124
 no:¬dP q' B
 h0:0<j->a0=mP 0
 h1:1<j->a1=mP 1
def DT (K:Kw) (w0:World) (D:Nat) (vi vo:Value) (q:dH) (w1:World) (B:Nat) (mS:Nat->Mk) (mP:Nat->Int) (v:Value) (W:World):Prop:=∃j q' a0 a1,DY K w0 D vi vo q w1 B mS mP v W j q' a0 a1
theorem pQ {K:Kw} {w0:World} {D:Nat} {vi vo:Value} {q:dH} {w1:World} {B:Nat} {mS:Nat->Mk} {mP:Nat->Int} {v:Value} {W W8:World} {j:Nat} {q' q8:dH} {a0 a1:Int} {n:Int} (h:DY K w0 D vi vo q w1 B mS mP v W j q' a0 a1) (hlt:j<2) (hB:w1.heap.size<=B) (hD:B≠D) (h0:w0.heap.size<=B) (h8:aF K w0 D vi vo W8 q8 (mS (j+1))) (m8:aB D q' W q8 W8) (hn:n=((j+1:Nat):Int)):DT K w0 D vi vo q w1 B mS mP (.int .i64 n) (W8.setCell ⟨B,j,none⟩ (.int .i64 (mP j))):=by
 have r8:=m8.row h.row hD h.no
 have no8:=m8.not h.row.lt h.no
 have hk:=h8.set r8 (ut _ _) hD no8 h0 (jX j (.int .i64 (mP j)))
 have hf:=(h.fr.trans m8).setNew hB (jX j (.int .i64 (mP j)))
 have hr:=r8.set j (.int .i64 (mP j))
 rcases (show j=0\/j=1 by omega) with rfl|rfl
 ·exact ⟨1,q8,mP 0,a1,⟨by omega,by rw[hn],hk,hf,by simpa using hr,no8,fun _=>rfl,fun g=>absurd g (by omega)⟩⟩
 ·exact ⟨2,q8,a0,mP 1,⟨by omega,by rw[hn],hk,hf,by simpa using hr,no8,fun _=>h.h0 (by omega),fun _=>rfl⟩⟩
section
variable {f:Fl} {K:Kw} {w0:World} {D:Nat} {vi vo:Value} {W:World} {q:dH} {s:Mk} {e:Ex} {A:Option Addr} {cap:Nat}
theorem sK (_law:fx K w0) (hs:s.spent=false) (h:aF K w0 D vi vo W q s) (hpl:aO f e) (hop:e.op=26) (v:Value) (c:List Gd) (hc:cF D q W v c) (hp:fy f K e c s) (hokn:Wf e.n) (hP:fp f K w0 D vi vo e A cap):Calls Tryz.prog 40 #[.pointer (some ⟨D,0,none⟩),bz e A cap,v] W fun r w'=>r= .returned (.int .i64 (ah e c s).1)/\cN K w0 D vi vo q W (ah e c s).2 w':=by
 refine' zq233
 refine' zq64
 obtain ⟨i0,hi0',hz0,hz1,hz2⟩:=info_parts lN
 have Sa:=fB (f:=f) x (hp2 x hm0) (c++ [⟨e.n,false⟩]) s hp.gs hp.wl
 have sa1:=Sa.few
 have sa2:=Sa.up
 have Sb:=fB (f:=f) y (hp2 y hm1) (c++ [⟨e.n,true⟩]) _ Sa.gs (Nat.le_trans hp.wl Sa.up)
 have sb1:=Sb.few
 have sb2:=Sb.up
 have P0:fy f K x (c++ [⟨e.n,false⟩]) s:=by have:=gu hp (by omega) hi0 hp.gs (Nat.le_refl _) (by omega);rwa [show aA e c 0=(c++ [⟨e.n,false⟩]) by unfold aA;rw[if_neg (by omega),if_pos hop];rfl] at this
 have P1:fy f K y (c++ [⟨e.n,true⟩]) (ah x (c++ [⟨e.n,false⟩]) s).2:=by have:=gu hp (by omega) hi1 Sa.gs Sa.up (by omega);rwa [show aA e c 1=(c++ [⟨e.n,true⟩]) by unfold aA;rw[if_neg (by omega),if_pos hop];rfl] at this
 have HE0:ah e c s=(ah y (c++ [⟨e.n,true⟩]) (ah x (c++ [⟨e.n,false⟩]) s).2).2.put ((ah y (c++ [⟨e.n,true⟩]) (ah x (c++ [⟨e.n,false⟩]) s).2).2.ty (ah x (c++ [⟨e.n,false⟩]) s).1) c ⟨26,0,e.n,(ah x (c++ [⟨e.n,false⟩]) s).1,(ah y (c++ [⟨e.n,true⟩]) (ah x (c++ [⟨e.n,false⟩]) s).2).1,0⟩:=by
  rw[cQ,eh]
  dsimp only
  rw[if_neg (by rw[hs];decide),if_neg (by omega),if_neg (by omega),if_neg (by omega),if_neg (by omega),if_neg (by omega),if_neg (by omega),if_neg (by omega),if_pos hop,ar hi0,ar hi1]
 have HE:Hid (ah e c s=(ah y (c++ [⟨e.n,true⟩]) (ah x (c++ [⟨e.n,false⟩]) s).2).2.put ((ah y (c++ [⟨e.n,true⟩]) (ah x (c++ [⟨e.n,false⟩]) s).2).2.ty (ah x (c++ [⟨e.n,false⟩]) s).1) c ⟨e.op,0,e.n,(ah x (c++ [⟨e.n,false⟩]) s).1,(ah y (c++ [⟨e.n,true⟩]) (ah x (c++ [⟨e.n,false⟩]) s).2).1,0⟩):=by
  show _=_
  rw[HE0,hop]
 clear HE0
 have hcl5:c.length<=100000:=by have:=hp.len;omega
 have HND:=zH (fun hn=>cC hp1 hn)
 refine' zq23
 refine' zq122
 have HC0:=zH (fun W' q' v1 (hk:aF K w0 D vi vo W' q' s) (hk2:cF D q' W' v1 (c++ [⟨e.n,false⟩]))=>hP 0 0 x rfl hi0 W' q' s v1 _ hk hk2 P0)
 have HC1:=zH (fun W' q' v1 (hk:aF K w0 D vi vo W' q' (ah x (c++ [⟨e.n,false⟩]) s).2) (hk2:cF D q' W' v1 (c++ [⟨e.n,true⟩]))=>hP 1 1 y rfl hi1 W' q' _ v1 _ hk hk2 P1)
 refine' zq211
 have o27:(e.op==27)=false:=by rw[hop];rfl
 have o24:(e.op==24)=false:=by rw[hop];rfl
 have o25:(e.op==25)=false:=by rw[hop];rfl
 have o26:(e.op==26)=true:=by rw[hop];rfl
 clear hi0 hm0 hi1 hm1 P0 P1
 generalize ah x (c++ [⟨e.n,false⟩]) s=p at*
 obtain ⟨p1,sa⟩:=p
 dsimp only at*
 generalize ah y (c++ [⟨e.n,true⟩]) sa=p at*
 obtain ⟨p2,sb⟩:=p
 dsimp only at*
 obtain ⟨mS,hS0,hS1,hS2⟩:∃mS:Nat->Mk,mS 0=s/\mS 1=sa/\mS 2=sb:=⟨fun j=>if j=0 then s else if j=1 then sa else sb,rfl,rfl,rfl⟩
 obtain ⟨mP,hP0,hP1⟩:∃mP:Nat->Int,mP 0=p1/\mP 1=p2:=⟨fun j=>if j=0 then p1 else p2,rfl,rfl⟩
 have HCJ:Hid (∀(j:Nat),j<2->∀W' q' v1,aF K w0 D vi vo W' q' (mS j)->cF D q' W' v1 (c++ [⟨e.n,j==1⟩])->Calls Tryz.prog 82 #[.pointer (some ⟨D,0,none⟩),bz e A cap,.int .i64 (j:Int),v1] W' fun r w'=>r= .returned (.int .i64 (mP j))/\cN K w0 D vi vo q' W' (mS (j+1)) w'):=fun j hj W' q' v1 h1 h2=>by
  rcases (show j=0\/j=1 by omega) with rfl|rfl
  ·rw[hS0] at h1
   rw[hP0,hS1]
   exact HC0.o W' q' v1 h1 h2
  ·rw[hS1] at h1
   rw[hP1,hS2]
   exact HC1.o W' q' v1 h1 h2
 have HALL:Hid (∀{q:Bool},∀x∈c++ [⟨e.n,q⟩],Wf x.wire):=fun x hx=>by
  obtain ⟨A2,c2,_,_,_,s2,_⟩:=hc1
  rcases List.mem_append.1 hx with hx|hx
  ·exact s2.all (P:=fun x=>Wf x.wire) (fun x cs h=>h.2) x hx
  ·simp at hx;subst hx;exact hokn
 have hk0:aF K w0 D vi vo (W.alloc (.cells (bi e A cap) 75)) q (mS 0):=by rw[hS0];exact h1
 have HOKN:=zH hokn
 have HOP:Hid (Wf e.op):=by show Wf _;rw[hop];exact DI
 have HFE:Hid (sb.acts.length<=1000000000):=by show _<=_;omega
 have HSB:=zH Sb
 have HSA:=zH Sa
 have HH:Hid (D<(W.alloc (.cells (bi e A cap) 75)).heap.size):=h1.row.lt
 have HB0:Hid (¬dP q (W.alloc (.cells (bi e A cap) 75)).heap.size/\(W.alloc (.cells (bi e A cap) 75)).heap.size≠D/\w0.heap.size<=(W.alloc (.cells (bi e A cap) 75)).heap.size):=⟨fun g=>by have:=(h1.ownq g).2.1;omega,fun g=>by have:=h1.row.lt;omega,h1.bel.size⟩
 have HK0:=zH hk0
 clear h h1 hs hop hc hp hP hpl hp1 hp2 hc1 hlen Sa Sb hk0 hokn HC0 HC1
 refine' zq59
 refine' zq94
 have b2:Below w1.heap.size w1 (w1.alloc (.cells #[.int .i64 0,.int .i64 0] 124)):=bE
 have r2:=ai.new w1 #[.int .i64 0,.int .i64 0] 124
 go_upto_region 27 with (fail)
 generalize w1.alloc (.cells #[.int .i64 0,.int .i64 0] 124)=w2 at*
 have HB2:=zH b2
 have HR2:=zH r2
 clear d0 d1 d2 d3 d4 d5 d6 d7 c0 c1 c2 c3 c4 c5 b2 r2
 generalize hB:w1.heap.size=B at*
 go_wp2_with fail
 go_loopw[148] (fun i wr=>DT K w0 D vi vo q w1 B mS mP i wr) (fun i _=>2-(intOf i).toNat)
 case atStart=>exact ⟨0,q,0,0,⟨by omega,rfl,HK0.o.below (hB▸HB2.o),aB.of_below (hB▸HB2.o),HR2.o,HB0.o.1,fun g=>absurd g (by omega),fun g=>absurd g (by omega)⟩⟩
 case round=>
  obtain ⟨j,q',a0,a1,hj⟩:=hrel
  have HJ:=zH hj
  obtain ⟨hj1,rfl,hj3,hj4,hj5,hj6,hj7,hj8⟩:=hj
  by_cases hlt:j<2
  ·have HMr:=zH hj4
   have HKr:=zH hj3
   have HRr:=zH hj5
   have hlt':(j:Int)<2:=by omega
   have hBlo:w1.heap.size<=B:=by omega
   have hBr:=hj5.lt
   obtain ⟨vj,hvj⟩:∃vj,(#[Value.int .i64 a0,.int .i64 a1]:Array Value)[j]? =some vj:=by
    rcases (show j=0\/j=1 by omega) with rfl|rfl
    ·exact ⟨_,rfl⟩
    ·exact ⟨_,rfl⟩
   obtain ⟨qb,hqb⟩:∃qb,((j:Int)==1)=qb:=⟨_,rfl⟩
   have HQ:Hid (qb=(j==1)):=by
    show _=_
    rw[<-hqb,Bool.eq_iff_iff,beq_iff_eq,beq_iff_eq]
    omega
   have HCW:Hid (∀W',Below wr.heap.size wr W'->aI W' W'.heap.size 2 aW v c):=fun W' hW=>by
    obtain ⟨A2,c2,hv,l2,m2,s2,_⟩:=HCK.o _ _ hj4
    exact ⟨A2,c2,hv,l2,m2,(s2.below hW).more hW.size⟩
   have HFR:Hid (∀W' v',W'.ownsRow wr.heap.size 61 2 v' (c.length+1) ((c.map fk).flatten++ [.int .i64 e.n,.bool qb])->cF D q' W' v' (c++ [⟨e.n,j==1⟩])):=fun W' v' ho=>HKr.o.fresh (by rw[HQ.o] at ho;simpa[fk] using ho) HALL.o
   have HCX:Hid (∀W' v1,Below wr.heap.size wr W'->cF D q' W' v1 (c++ [⟨e.n,j==1⟩])->Calls Tryz.prog 82 #[.pointer (some ⟨D,0,none⟩),bz e A cap,.int .i64 (j:Int),v1] W' fun r w'=>r= .returned (.int .i64 (mP j))/\cN K w0 D vi vo q' W' (mS (j+1)) w'):=fun W' v1 hW h=>HCJ.o j hlt W' q' v1 (HKr.o.below hW) h
   have HON:Hid (∀u∈[Value.int .i64 e.n,.bool qb],u.oneCell'=true):=mM oE [(⟨e.n,qb⟩:Gd)]
   have HLN:=zH (mU (size:=2) (l:=c) lJ)
   obtain ⟨c0,c1,c2',c3,c4,c5⟩:=HK.o _ _ hj4
   clear hj3 hj4 hj5 hj7 hj8 hj1
   go_upto_region 30 with (fail)
   go_region_held3 (fun W=>W.cell? ⟨bx,0,none⟩=some (.int .i64 e.op)/\W.cell? ⟨bx,1,none⟩=some (.string e.name)/\W.cell? ⟨bx,2,none⟩=some (.int .i64 e.n)/\W.cell? ⟨bx,3,none⟩=some (.slice A e.args.length cap)/\W.cell? ⟨bx,4,none⟩=some (.int .i64 e.line)/\W.cell? ⟨bx,5,none⟩=some (.int .i64 e.col))
    (first|((fail_if_success (simp only[World.setCell]));(first|(with_reducible exact HK.o _ _ ((HMr.o.trans HM8.o).trans (aB.of_below bE)))|(with_reducible exact HK.o _ _ (HMr.o.trans (aB.of_below bE)))))|(with_reducible exact HK.o _ _ (HMS.o _))|go_keep)
    (first|((go_at_call 85);(refine (qG c _ _ (HCW.o _ bE) hcl5).mono ?_);rintro e w5 ⟨v5,rfl,ho5,hb5⟩;(have hb6:Below wr.heap.size wr w5:=Below.trans bE (hb5.mono lE));(have hs6:=hb6.size);(have ho6:w5.ownsRow wr.heap.size 61 2 v5 c.length (c.map fk).flatten:=dg ho5 lE))|(go_at_call 82;(with_reducible refine Calls.mono (HCX.o _ _ bE (HC7.o _ bE)) ?_);rintro r w8 ⟨rfl,q8,h8,m8⟩;(have HM8:=zH ((aB.of_below (bE:Below wr.heap.size wr _)).trans m8));(have H8:=zH h8);(have HR8:=zH (HM8.o.row HRr.o HB0.o.2.1 hj6));(have y8:w8.cell? ⟨B,j,none⟩=some vj:=(HR8.o.cell j).trans hvj);(have z8:=HR8.o.frozen j);(have HMS:=zH (fun x=>((HMr.o.trans HM8.o).setNew hBlo (jX j x))));clear h8 m8)|((refine fw _ (by rfl) (.tmp 156) (.tmp 162) 50 (by rfl) wr.heap.size 61 i0 _ 2 16 Tryz.underlying50 hi0' hz0 hz1 hz2 (by rfl) (by decide) v5 c.length (c.map fk).flatten (by rfl) ho6 ⟨wr.heap.size,0,none⟩ 1 1 [.int .i64 e.n,.bool qb] (by rfl) (by rfl) (fun j u hu=>Eq.trans (Below.cell hb5 (by rw[fa];simp)) (iq _ _ _ _ j u hu)) HON.o (by unfold maxLen;omega) (by omega) hs6 ?_);(intro v7 w7 ho7 hg7 _hat7);(have hb7:Below wr.heap.size wr w7:=aY hb6 ho6 hg7 hs6);(have hs7:=hb7.size);(obtain ⟨A7,c7,hv7,_⟩:=bH ho7);(subst hv7);(have HC7:=zH (fun W' (hW:Below w7.heap.size w7 W')=>(HFR.o w7 _ ho7).fr (aB.of_below (q:=q') (D:=D) hW))))|((refine fw _ (by rfl) (.tmp 156) (.tmp 162) 50 (by rfl) wr.heap.size 61 i0 _ 2 16 Tryz.underlying50 hi0' hz0 hz1 hz2 (by rfl) (by decide) v5 c.length (c.map fk).flatten (by rfl) (ho6.alloc _) ⟨w5.heap.size,0,none⟩ 1 1 [.int .i64 e.n,.bool qb] (by rfl) (by rfl) (fun j u hu=>iq _ _ _ _ j u hu) HON.o (by unfold maxLen;omega) (by omega) (by simp;omega) ?_);(intro v7 w7 ho7 hg7 _hat7);(have hb7:Below wr.heap.size wr w7:=aY (hb6.alloc hs6 _) (ho6.alloc _) hg7 (by simp;omega));(have hs7:=hb7.size);(obtain ⟨A7,c7,hv7,_⟩:=bH ho7);(subst hv7);(have HC7:=zH (fun W' (hW:Below w7.heap.size w7 W')=>(HFR.o w7 _ ho7).fr (aB.of_below (q:=q') (D:=D) hW)))))
   all_goals
    go_wp2_with fail
    go_roundw
    case rel=>first|exact pQ HJ.o hlt hBlo HB0.o.2.1 HB0.o.2.2 H8.o HM8.o (by go_num)|((repeat apply Exists.intro);(first|(refine And.intro ?_ rfl));exact pQ HJ.o hlt hBlo HB0.o.2.1 HB0.o.2.2 H8.o HM8.o (by go_num))
    case measure=>simp[intOf];omega
  ·obtain rfl:j=2:=by omega
   obtain rfl:a0=p1:=by rw[hj7 (by omega),hP0]
   obtain rfl:a1=p2:=by rw[hj8 (by omega),hP1]
   rw[hS2] at hj3
   have HMr:=zH hj4
   have HKr:=zH hj3
   have hlo:=HSA.o.lo
   have hhi:=HSA.o.hi
   have hup:=HSB.o.up
   have hlo2:=HSB.o.lo
   have hhi2:=HSB.o.hi
   have hlw:=hj3.lw
   dsimp only at hlo hhi hup hlo2 hhi2
   obtain ⟨n1,rfl⟩:=Int.eq_ofNat_of_zero_le hlo
   obtain ⟨n2,rfl⟩:=Int.eq_ofNat_of_zero_le hlo2
   have hn1:n1<sb.wires.length:=by omega
   have hn1':(n1:Int)<sb.wires.length:=by omega
   obtain ⟨b1',off1,cw1,hv1,l1,m1,t0,wt⟩:=hj3.wire hn1
   obtain ⟨d0,d1,d2,d3,d4,d5,d6,d7⟩:=hj3.cells
   rw[hv1] at d0
   have HS32:Hid (∀q2 W',aB D q' wr q2 W'->(W'.cell? ⟨bx,0,none⟩=some (.int .i64 e.op)/\W'.cell? ⟨bx,1,none⟩=some (.string e.name)/\W'.cell? ⟨bx,2,none⟩=some (.int .i64 e.n)/\W'.cell? ⟨bx,3,none⟩=some (.slice A e.args.length cap)/\W'.cell? ⟨bx,4,none⟩=some (.int .i64 e.line)/\W'.cell? ⟨bx,5,none⟩=some (.int .i64 e.col))/\W'.cell? ⟨B,0,none⟩=some (.int .i64 (n1:Int))/\W'.cell? ⟨B,1,none⟩=some (.int .i64 (n2:Int))):=fun q2 W' m=>⟨HK.o _ _ (hj4.trans m),(m.row hj5 HB0.o.2.1 hj6).two'⟩
   have HWI:=zH (fun W' (hW:Below wr.heap.size wr W')=>fh (hj3.below hW) (sb.ty (n1:Int)) v c wt ((HCK.o _ _ hj4).fr (aB.of_below hW)))
   have HAC:Hid (∀w2 q1,aF K w0 D vi vo w2 q1 (sb.wire (sb.ty (n1:Int)) c).2->Calls Tryz.prog 41 #[.pointer (some ⟨D,0,none⟩),fT ⟨e.op,(sb.wire (sb.ty (n1:Int)) c).1,e.n,n1,n2,0⟩] w2 fun r w'=>r= .returned (.int .i64 (sb.put (sb.ty (n1:Int)) c ⟨e.op,0,e.n,n1,n2,0⟩).1)/\cN K w0 D vi vo q1 w2 (sb.put (sb.ty (n1:Int)) c ⟨e.op,0,e.n,n1,n2,0⟩).2 w'):=fun w2 q1 h2=>
    eY h2 ⟨e.op,(sb.wire (sb.ty (n1:Int)) c).1,e.n,n1,n2,0⟩ ⟨HOP.o,fq,HOKN.o,aT (n:=(n1:Int)) (by omega),aT (n:=(n2:Int)) (by omega),aV⟩ (by rw[(dG sb _ c).1];exact HFE.o)
   have HMf:=zH (HM1.o.trans hj4)
   obtain ⟨c0,c1,c2',c3,c4,c5⟩:=HK.o _ _ hj4
   obtain ⟨y0,y1⟩:=hj5.two'
   have hBr:=hj5.lt
   generalize sb.put (sb.ty (n1:Int)) c ⟨e.op,0,e.n,n1,n2,0⟩=pp at*
   generalize (sb.wire (sb.ty (n1:Int)) c).2=s1 at*
   generalize (sb.wire (sb.ty (n1:Int)) c).1=r1 at*
   clear hj3 hj4 hj5 hj7 hj8 hj1 wt HJ
   go_upto_region 32 with (fail)
   refine wp_region_held_drew (S:=fun W=>(W.cell? ⟨bx,0,none⟩=some (.int .i64 e.op)/\W.cell? ⟨bx,1,none⟩=some (.string e.name)/\W.cell? ⟨bx,2,none⟩=some (.int .i64 e.n)/\W.cell? ⟨bx,3,none⟩=some (.slice A e.args.length cap)/\W.cell? ⟨bx,4,none⟩=some (.int .i64 e.line)/\W.cell? ⟨bx,5,none⟩=some (.int .i64 e.col))/\W.cell? ⟨B,0,none⟩=some (.int .i64 (n1:Int))/\W.cell? ⟨B,1,none⟩=some (.int .i64 (n2:Int))) (by kernel_rfl) ?_ (fun hHeld=>?_)
   ·refine' zq104
   refine' zq234
   refine tk 9 (some 176) rfl ?_
   refine tk 10 (some 177) rfl ?_
   refine tk 14 (some 181) rfl ?_
   refine tk 16 (some 183) rfl ?_
   refine tk 17 (some 184) rfl ?_
   refine tk 18 (some 185) rfl ?_
   refine tk 19 (some 186) rfl ?_
   refine tk 20 (some 187) rfl ?_
   refine tk 21 (some 188) rfl ?_
   refine aH 8 (some 175) rfl (fun KK hKK=>?_)
   go_simp
   refine' zq102
   refine tk 11 (some 178) rfl ?_
   refine tk 12 (some 179) rfl ?_
   refine aH 13 (some 180) rfl (fun KK hKK=>?_)
   go_simp
   refine' zq102
   refine aH 15 (some 182) rfl (fun KK hKK=>?_)
   go_simp
   (go_at_call 80;(with_reducible refine Calls.mono (HWI.o _ bE) ?_);rintro r w6 ⟨rfl,q6,h6,m6⟩;(have HM6:=zH ((aB.of_below (bE:Below wr.heap.size wr _)).trans m6));(have HMx:=zH HM6.o);(have H6:=zH (fun W' (hW:Below w6.heap.size w6 W')=>h6.below hW));clear h6 m6)
   (try go_wp2_with fail)
   refine' zq102
   refine tk 22 (some 189) rfl ?_
   refine aH 23 (some 190) rfl (fun KK hKK=>?_)
   go_simp
   (go_at_call 41;(with_reducible refine Calls.mono (HAC.o _ _ (H6.o _ bE)) ?_);rintro r w7 ⟨rfl,q7,h7,m7⟩;(have HN7:Hid (cN K w0 D vi vo q W pp.2 w7):=⟨q7,h7,((HMf.o.trans HMx.o).trans (aB.of_below (bE:Below w6.heap.size w6 _))).trans m7⟩);(have HM6:=zH ((HM6.o.trans (aB.of_below (bE:Below w6.heap.size w6 _))).trans m7));clear h7 m7)
   (try go_wp2_with fail)
   refine' zq102
   refine tk 24 (some 6) rfl ?_
   refine' zq26
   go_ret
   rw[HE.o]
   exact ⟨rfl,HN7.o⟩
end
end Go.Proofs.YtckognjamlckcaaGreatDoor
