/-
  norm's maker: ops that are reckoned (printed by gen_nox.py).
-/
import Derived.Test.YtckognjamlckcaaGreatDoorNoT
set_option maxHeartbeats 8000000
set_option maxRecDepth 100000
namespace Go.Proofs.YtckognjamlckcaaGreatDoor
open Go.RowKit Vf Fo
attribute [local go_sem ↓] Go.wp_at_zero Go.wp_at_succ
abbrev kY (a:Ac):Array Value:= #[.int .i64 a.op,.int .i64 a.dst,.int .i64 a.a,.int .i64 a.b,.int .i64 a.c,.int .i64 a.k]
section
variable {K:Kw} {w0:World} {D:Nat} {vi vo:Value} {W W':World} {q:dH} {s:Mk}
theorem CG {Z:Nat} {cs:Array Value} {t:TypeId} {v:Value} {c:List Gd} (h:cF D q W v c) (r:ai W Z cs t) (hcs:∀(i:Nat) (b:Bool),cs[i]?≠some (Value.bool b)) (u:ae (fun k=>k=Z) W W'):cF D q W' v c:=by
 obtain ⟨A,cap,rfl,h2,h3,h4,h5⟩:=h
 refine ⟨A,cap,rfl,h2,h3,fun hl=>?_,h5⟩
 obtain ⟨b,off,rfl,hb,hx⟩:=h4 hl
 have hne:b≠Z:=fun e=>by
  subst e
  obtain ⟨cs',hc,rfl,_⟩:=hx 0 _ (List.getElem?_eq_getElem hl)
  have:=hc 1 _ rfl
  rw[r.cell] at this
  exact hcs _ _ this
 exact mK h4 (u.block b hb hne) (Nat.lt_of_lt_of_le hb u.size) hl
theorem aF.set (h:aF K w0 D vi vo W q s) {Z:Nat} {cs:Array Value} {t:TypeId} (r:ai W Z cs t) (hcs:∀(i:Nat) (b:Bool),cs[i]?≠some (Value.bool b)) (hD:Z≠D) (hq:¬dP q Z) (hZ:w0.heap.size<=Z) (u:ae (fun k=>k=Z) W W'):aF K w0 D vi vo W' q s:=by
 have hs:=h.bel.size
 obtain ⟨css,ho,ha⟩:=h.ow
 have hne:∀k,dP q k->k≠Z:=fun k hk e=>hq (e▸hk)
 exact ⟨h.lo,h.bel.trans (u.below (fun k e=>by rw[e];exact hZ) hs),u.row h.row (fun e=>hD e.symm),⟨css,aN ho u (fun k hk=>hne k (.inl hk)),ha.mono (fun x cs _ g=>by
  obtain ⟨v,e1,e2,e3⟩:=g
  exact ⟨v,e1,e2,CG e3 r hcs u⟩)⟩,aN h.oa u (fun k hk=>hne k (.inr (.inl hk))),aN h.oc u (fun k hk=>hne k (.inr (.inr (.inl hk)))),aN h.ok u (fun k hk=>hne k (.inr (.inr (.inr (.inl hk))))),h.wa,h.wc,h.wk,h.mp.keep (u.block _ h.mp.lt (hne _ (.inr (.inr (.inr (.inr rfl)))))),h.hP,h.lw,h.lc,h.lf⟩
theorem aB.setNew {w1:World} {q':dH} (h:aB D q w1 q' W) {Z:Nat} (hZ:w1.heap.size<=Z) (u:ae (fun k=>k=Z) W W'):aB D q w1 q' W':=
 ⟨⟨u.os.trans h.upd.os,u.tape.trans h.upd.tape,u.output.trans h.upd.output,Nat.le_trans h.upd.size u.size,fun k hk hX=>(u.block k (Nat.lt_of_lt_of_le hk h.upd.size) (fun (e:k=Z)=>by omega)).trans (h.upd.block k hk hX)⟩,h.own⟩
structure cG (K:Kw) (w0:World) (D:Nat) (vi vo:Value) (q:dH) (w1:World) (s:Mk) (Z:Nat) (q':dH) (W:World) (a:Ac):Prop where
 mkat:aF K w0 D vi vo W q' s
 fr:aB D q w1 q' W
 row:ai W Z (kY a) 58
 lo:w1.heap.size<=Z
 no:¬dP q' Z
 ne:Z≠D
 w0l:w0.heap.size<=Z
theorem sQ (a:Ac):∀(i:Nat) (b:Bool),(kY a)[i]?≠some (Value.bool b):=fun i b=>by
 rcases i with _|_|_|_|_|_|i<;>simp[kY]
variable {w1:World} {Z:Nat} {q':dH} {a:Ac}
theorem cG.turn (h:cG K w0 D vi vo q w1 s Z q' W a) (a':Ac) (u:ae (fun k=>k=Z) W W') (r:ai W' Z (kY a') 58):cG K w0 D vi vo q w1 s Z q' W' a':=
 ⟨h.mkat.set h.row (sQ a) h.ne h.no h.w0l u,h.fr.setNew h.lo u,r,h.lo,h.no,h.ne,h.w0l⟩
theorem jX {W:World} {Z:Nat} (i:Nat) (x:Value):ae (fun k=>k=Z) W (W.setCell ⟨Z,i,none⟩ x):=ae.setCell (X:=fun k=>k=Z) (p:=⟨Z,i,none⟩) (ae.refl _ _) rfl _
theorem cG.dst (h:cG K w0 D vi vo q w1 s Z q' W a) (n:Int):cG K w0 D vi vo q w1 s Z q' (W.setCell ⟨Z,1,none⟩ (.int .i64 n)) {a with dst:=n}:=
 h.turn _ (jX _ _) (by have:=h.row.set 1 (.int .i64 n);simpa[kY] using this)
theorem cG.setb (h:cG K w0 D vi vo q w1 s Z q' W a) (n:Int):cG K w0 D vi vo q w1 s Z q' (W.setCell ⟨Z,3,none⟩ (.int .i64 n)) {a with b:=n}:=
 h.turn _ (jX _ _) (by have:=h.row.set 3 (.int .i64 n);simpa[kY] using this)
theorem cG.fill (h:cG K w0 D vi vo q w1 s Z q' W a) (x0 x1 x2 x3 x4 x5:Int):cG K w0 D vi vo q w1 s Z q' ((((((W.setCell ⟨Z,0,none⟩ (.int .i64 x0)).setCell ⟨Z,1,none⟩ (.int .i64 x1)).setCell ⟨Z,2,none⟩ (.int .i64 x2)).setCell ⟨Z,3,none⟩ (.int .i64 x3)).setCell ⟨Z,4,none⟩ (.int .i64 x4)).setCell ⟨Z,5,none⟩ (.int .i64 x5)) ⟨x0,x1,x2,x3,x4,x5⟩:=
 h.turn _ (((((((ae.refl (fun k=>k=Z) _).setCell (p:=⟨Z,0,none⟩) rfl _).setCell (p:=⟨Z,1,none⟩) rfl _).setCell (p:=⟨Z,2,none⟩) rfl _).setCell (p:=⟨Z,3,none⟩) rfl _).setCell (p:=⟨Z,4,none⟩) rfl _).setCell (p:=⟨Z,5,none⟩) rfl _) (ai.set6N h.row _ _ _ _ _ _)
theorem cG.next {s2:Mk} {q2:dH} {W2:World} (h:cG K w0 D vi vo q w1 s Z q' W a) (h2:aF K w0 D vi vo W2 q2 s2) (m:aB D q' W q2 W2):cG K w0 D vi vo q w1 s2 Z q2 W2 a:=
 ⟨h2,h.fr.trans m,m.row h.row h.ne h.no,h.lo,m.not h.row.lt h.no,h.ne,h.w0l⟩
theorem jm (h:aF K w0 D vi vo W q' s) (m:aB D q w1 q' W) {Wa:World} (hb:Below W.heap.size W Wa) {Z:Nat} (r:ai Wa Z (kY a) 58) (hZ:W.heap.size<=Z):cG K w0 D vi vo q w1 s Z q' Wa a:=
 ⟨h.below hb,m.trans (aB.of_below hb),r,Nat.le_trans m.upd.size hZ,fun g=>by have:=(h.ownq g).2.1;omega,fun e=>by have:=h.row.lt;omega,by have:=h.bel.size;omega⟩
theorem kJ {Wa:World} {s2:Mk} {q2:dH} {W2:World} (h:aF K w0 D vi vo W q s) (hb:Below W.heap.size W Wa) {Z:Nat} (r:ai Wa Z (kY a) 58) (hZ:W.heap.size<=Z) (h2:aF K w0 D vi vo W2 q2 s2) (m:aB D q Wa q2 W2):cG K w0 D vi vo q W s2 Z q2 W2 a:=
 (jm h (aB.refl D q W) hb r hZ).next h2 m
end
section
variable {f:Fl} {K:Kw} {w0:World} {D:Nat} {vi vo:Value} {W:World} {q:dH} {s:Mk} {e:Ex} {A:Option Addr} {cap:Nat}
theorem tC (hs:s.spent=false) (h:aF K w0 D vi vo W q s) (hpl:aO f e) (hop:e.op=5\/e.op=6) (v:Value) (c:List Gd) (hc:cF D q W v c) (hp:fy f K e c s) (hok:Wf e.op) (hP:fp f K w0 D vi vo e A cap):Calls Tryz.prog 86 #[.pointer (some ⟨D,0,none⟩),bz e A cap,v] W fun r w'=>r= .returned (.int .i64 (ah e c s).1)/\cN K w0 D vi vo q W (ah e c s).2 w':=by
 refine' zq95
 refine' zq198
 refine' zq103
 have HE:Hid (ah e c s=(ah x c s).2.put (cj e.op) c ⟨e.op,0,(ah x c s).1,0,0,0⟩):=by
  show _=_
  rw[cQ,eh]
  dsimp only
  rw[if_neg (by rw[hs];decide),if_neg (by omega),if_neg (by omega),if_neg (by omega),if_neg (by omega),if_neg (by omega),if_neg (by omega),if_neg (by omega),if_neg (by omega),if_neg (by omega),ar hi0]
 refine' zq23
 refine' zq131
 refine' zq278
 have HH1:=zH h1
 have HSA:=zH Sa
 refine' zq119
 have hxl:e.args.length=1:=hlen
 have el:((e.args.length:Int)==2)=false:=by rw[hlen];rfl
 have el':(e.args.length==2)=false:=by rw[hlen];rfl
 clear hi0 hm0 P0
 generalize hpa:ah x c s=p at*
 obtain ⟨p1,sa⟩:=p
 dsimp only at*
 have hacts:sa.acts.length<=900000000:=by omega
 have HAL:=zH hacts
 clear h h1 hs hop hc hp hP hpl hp1 hp2 hc1 hlen hxl hsz hfew hwl sa1 sa2 hpa hacts hok Sa
 go_enter Tryz.func86,Tryz.ntmps86
 go_upto_region 1 with (fail)
 refine' zq94
 go_cut[7] (fun v7 W=>∃Z q5,v7= .pointer (some ⟨Z,0,none⟩)/\cG K w0 D vi vo q w1 sa Z q5 W ⟨e.op,0,p1,0,0,0⟩)
 case first=>as_aux_lemma=>
  refine wp_region_held_drew (S:=fun W=>W.cell? ⟨bx,0,none⟩=some (.int .i64 e.op)/\W.cell? ⟨bx,1,none⟩=some (.string e.name)/\W.cell? ⟨bx,2,none⟩=some (.int .i64 e.n)/\W.cell? ⟨bx,3,none⟩=some (.slice A e.args.length cap)/\W.cell? ⟨bx,4,none⟩=some (.int .i64 e.line)/\W.cell? ⟨bx,5,none⟩=some (.int .i64 e.col)) (by kernel_rfl) ?_ (fun hHeld=>?_)
  ·(try dsimp only);(first|((fail_if_success (simp only[World.setCell]));with_reducible exact HK5.o _ bE)|(have hz5:=HZ5.o;with_reducible exact HK.o _ _ (cG.fill hz5 _ _ _ _ _ _).fr)|(with_reducible exact HK5.o _ bE)|(with_reducible exact HK.o _ _ (aB.of_below bE)))
  refine tk 0 (some 9) rfl ?_
  refine tk 1 (some 10) rfl ?_
  refine tk 2 (some 11) rfl ?_
  refine tk 3 (some 12) rfl ?_
  refine tk 4 (some 13) rfl ?_
  refine wpAnyH_ready (rs:=[5,7]) (by kernel_rfl) (by simp) ?_
  refine AllReadyH.cons (o:={dst:=some 14,op:=_,type:=_,pos:=_,after:=_,guard:=_}) rfl (fun KK hKK=>?_) (AllReadyH.cons (o:={dst:=some 7,op:=_,type:=_,pos:=_,after:=_,guard:=_}) rfl (fun KK hKK=>?_) AllReadyH.nil)
  ·go_simp
   (go_at_call 82;(with_reducible refine Calls.mono (HC0.o _ bE) ?_);rintro r w5 ⟨rfl,q5,h5,m5⟩;(have HM5:=zH ((aB.of_below (bE:Below w1.heap.size w1 _)).trans m5));(have HK5:=zH (fun W' (hW:Below w5.heap.size w5 W')=>HK.o _ _ (HM5.o.trans (aB.of_below hW))));(have H5:=zH h5);(have HR5:=zH m5);(try (have HZ5:=zH (kJ (a:=⟨0,0,0,0,0,0⟩) (Z:=w1.heap.size) HH1.o bE (by first|(with_reducible exact ai.new _ _ _)|(with_reducible exact (ai.new _ _ _).drew)) (Nat.le_refl _) h5 m5));(obtain ⟨x0,x1,x2,x3,x4,x5⟩:=HZ5.o.row.six');(have y0:=HZ5.o.row.frozen 0);(have y1:=HZ5.o.row.frozen 1);(have y2:=HZ5.o.row.frozen 2);(have y3:=HZ5.o.row.frozen 3);(have y4:=HZ5.o.row.frozen 4);(have y5:=HZ5.o.row.frozen 5));clear h5 m5)
   (try go_wp2_with fail)
   refine hKK.out _ _ ?_ (fun hHeld=>?_)
   ·(try dsimp only);(first|((fail_if_success (simp only[World.setCell]));with_reducible exact HK5.o _ bE)|(have hz5:=HZ5.o;with_reducible exact HK.o _ _ (cG.fill hz5 _ _ _ _ _ _).fr)|(with_reducible exact HK5.o _ bE)|(with_reducible exact HK.o _ _ (aB.of_below bE)))
   clear hKK KK
   try simp only[Act.put,List.setIfInBounds_toArray,List.set_cons_zero,List.set_cons_succ]
   refine tk 6 (some 15) rfl ?_
   refine aH 7 (some 7) rfl (fun KK hKK=>?_)
   go_simp
   refine hKK.out _ _ ?_ (fun hHeld=>?_)
   ·(try dsimp only);(first|((fail_if_success (simp only[World.setCell]));with_reducible exact HK5.o _ bE)|(have hz5:=HZ5.o;with_reducible exact HK.o _ _ (cG.fill hz5 _ _ _ _ _ _).fr)|(with_reducible exact HK5.o _ bE)|(with_reducible exact HK.o _ _ (aB.of_below bE)))
   clear hKK KK
   try simp only[Act.put,List.setIfInBounds_toArray,List.set_cons_zero,List.set_cons_succ]
   refine aH 8 none rfl (fun KK hKK=>?_)
   go_simp
   refine hKK.out _ _ ?_ (fun hHeld=>?_)
   ·(try dsimp only);(first|((fail_if_success (simp only[World.setCell]));with_reducible exact HK5.o _ bE)|(have hz5:=HZ5.o;with_reducible exact HK.o _ _ (cG.fill hz5 _ _ _ _ _ _).fr)|(with_reducible exact HK5.o _ bE)|(with_reducible exact HK.o _ _ (aB.of_below bE)))
   clear hKK KK
   try simp only[Act.put,List.setIfInBounds_toArray,List.set_cons_zero,List.set_cons_succ]
   refine wpAnyH_done (by kernel_rfl) ?_ _
   go_wp2_with fail
   go_meet
   first|(have hz5:=HZ5.o;with_reducible exact ⟨_,_,rfl,cG.fill hz5 _ _ _ _ _ _⟩)|(with_reducible exact ⟨_,_,rfl,jm H5.o HM5.o bE (ai.new _ _ _) (Nat.le_refl _)⟩)
  ·go_simp
   refine hKK.out _ _ ?_ (fun hHeld=>?_)
   ·(try dsimp only);(first|((fail_if_success (simp only[World.setCell]));with_reducible exact HK5.o _ bE)|(have hz5:=HZ5.o;with_reducible exact HK.o _ _ (cG.fill hz5 _ _ _ _ _ _).fr)|(with_reducible exact HK5.o _ bE)|(with_reducible exact HK.o _ _ (aB.of_below bE)))
   clear hKK KK
   try simp only[Act.put,List.setIfInBounds_toArray,List.set_cons_zero,List.set_cons_succ]
   refine aH 5 (some 14) rfl (fun KK hKK=>?_)
   go_simp
   (go_at_call 82;(with_reducible refine Calls.mono (HC0.o _ bE) ?_);rintro r w5 ⟨rfl,q5,h5,m5⟩;(have HM5:=zH ((aB.of_below (bE:Below w1.heap.size w1 _)).trans m5));(have HK5:=zH (fun W' (hW:Below w5.heap.size w5 W')=>HK.o _ _ (HM5.o.trans (aB.of_below hW))));(have H5:=zH h5);(have HR5:=zH m5);(try (have HZ5:=zH (kJ (a:=⟨0,0,0,0,0,0⟩) (Z:=w1.heap.size) HH1.o bE (by first|(with_reducible exact ai.new _ _ _)|(with_reducible exact (ai.new _ _ _).drew)) (Nat.le_refl _) h5 m5));(obtain ⟨x0,x1,x2,x3,x4,x5⟩:=HZ5.o.row.six');(have y0:=HZ5.o.row.frozen 0);(have y1:=HZ5.o.row.frozen 1);(have y2:=HZ5.o.row.frozen 2);(have y3:=HZ5.o.row.frozen 3);(have y4:=HZ5.o.row.frozen 4);(have y5:=HZ5.o.row.frozen 5));clear h5 m5)
   (try go_wp2_with fail)
   refine hKK.out _ _ ?_ (fun hHeld=>?_)
   ·(try dsimp only);(first|((fail_if_success (simp only[World.setCell]));with_reducible exact HK5.o _ bE)|(have hz5:=HZ5.o;with_reducible exact HK.o _ _ (cG.fill hz5 _ _ _ _ _ _).fr)|(with_reducible exact HK5.o _ bE)|(with_reducible exact HK.o _ _ (aB.of_below bE)))
   clear hKK KK
   try simp only[Act.put,List.setIfInBounds_toArray,List.set_cons_zero,List.set_cons_succ]
   refine tk 6 (some 15) rfl ?_
   refine aH 8 none rfl (fun KK hKK=>?_)
   go_simp
   refine hKK.out _ _ ?_ (fun hHeld=>?_)
   ·(try dsimp only);(first|((fail_if_success (simp only[World.setCell]));with_reducible exact HK5.o _ bE)|(have hz5:=HZ5.o;with_reducible exact HK.o _ _ (cG.fill hz5 _ _ _ _ _ _).fr)|(with_reducible exact HK5.o _ bE)|(with_reducible exact HK.o _ _ (aB.of_below bE)))
   clear hKK KK
   try simp only[Act.put,List.setIfInBounds_toArray,List.set_cons_zero,List.set_cons_succ]
   refine wpAnyH_done (by kernel_rfl) ?_ _
   go_wp2_with fail
   go_meet
   first|(have hz5:=HZ5.o;with_reducible exact ⟨_,_,rfl,cG.fill hz5 _ _ _ _ _ _⟩)|(with_reducible exact ⟨_,_,rfl,jm H5.o HM5.o bE (ai.new _ _ _) (Nat.le_refl _)⟩)
 case rest=>
  refine' zq177
  go_upto_region 5 with (fail)
  clear z0 z1 z2 z3 z4 z5 g1 g3
  have hwt:Wf (cj e.op):=aT (by unfold cj;split<;>omega)
  generalize cj e.op=T at*
  have HW8:=zH (fh HA5.o.mkat T v c hwt (HCK.o _ _ HA5.o.fr))
  have HN9:=zH (fun (q8:dH) (W8:World) (h8:aF K w0 D vi vo W8 q8 (sa.wire T c).2) (m8:aB D q5 w5 q8 W8)=>(HA5.o.next h8 m8).dst (sa.wire T c).1)
  have HAC:=zH (fun (q8:dH) (W8:World) (h9:aF K w0 D vi vo W8 q8 (sa.wire T c).2)=>eY h9 (⟨e.op,(sa.wire T c).1,p1,0,0,0⟩:Ac) (show eP (⟨e.op,(sa.wire T c).1,p1,0,0,0⟩:Ac) from ⟨HOK.o,fq,(aT (n:=p1) (by have h1:=HSA.o.lo;have h2:=HSA.o.hi;have h3:=HA5.o.mkat.lw;have h4:=HSA.o.up;dsimp only at h1 h2 h3 h4;omega)),aV,aV,aV⟩) (by rw[(dG sa T c).1];have:=HAL.o;omega))
  have HEE:Hid (ah e c s=((sa.wire T c).1,(sa.wire T c).2.act (⟨e.op,(sa.wire T c).1,p1,0,0,0⟩:Ac))):=HE.o
  clear hwt HE
  obtain ⟨z0,z1,z2,z3,z4,z5⟩:=HA5.o.row.six'
  rcases hk with ⟨k6,rfl⟩|⟨k6,k12,rfl⟩|⟨k6,k12,rfl⟩
  all_goals
   go_wp2_with fail
   (with_reducible refine HW8.o.mono ?_)
   rintro r w8 ⟨rfl,q8,h8,m8⟩
   have HA8:=zH (HA5.o.next h8 m8)
   refine' zq100
theorem Ch (hs:s.spent=false) (h:aF K w0 D vi vo W q s) (hpl:aO f e) (hop:7<=e.op/\e.op<=20) (v:Value) (c:List Gd) (hc:cF D q W v c) (hp:fy f K e c s) (hok:Wf e.op) (hP:fp f K w0 D vi vo e A cap):Calls Tryz.prog 86 #[.pointer (some ⟨D,0,none⟩),bz e A cap,v] W fun r w'=>r= .returned (.int .i64 (ah e c s).1)/\cN K w0 D vi vo q W (ah e c s).2 w':=by
 refine' zq233
 refine' zq64
 refine' zq198
 refine' zq103
 refine' zq271
 refine' zq230
 have HE:Hid (ah e c s=(ah y c (ah x c s).2).2.put (cj e.op) c ⟨e.op,0,(ah x c s).1,(ah y c (ah x c s).2).1,0,0⟩):=by
  show _=_
  rw[cQ,eh]
  dsimp only
  rw[if_neg (by rw[hs];decide),if_neg (by omega),if_neg (by omega),if_neg (by omega),if_neg (by omega),if_neg (by omega),if_neg (by omega),if_neg (by omega),if_neg (by omega),if_pos (by omega),ar hi0,ar hi1]
 refine' zq23
 refine' zq49
 refine' zq278
 have HH1:=zH h1
 have HSA:=zH Sa
 have HSB:=zH Sb
 refine' zq119
 have hxl:e.args.length=2:=hlen
 have el:((e.args.length:Int)==2)=true:=by rw[hlen];rfl
 have el':(e.args.length==2)=true:=by rw[hlen];rfl
 clear hi0 hm0 P0 hi1 hm1 P1
 generalize hpa:ah x c s=p at*
 obtain ⟨p1,sa⟩:=p
 dsimp only at*
 generalize hpb:ah y c sa=p at*
 obtain ⟨p2,sb⟩:=p
 dsimp only at*
 have hacts:sb.acts.length<=900000000:=by omega
 have HAL:=zH hacts
 clear h h1 hs hop hc hp hP hpl hp1 hp2 hc1 hlen hxl hsz hfew hwl sa1 sa2 sb1 sb2 hpb hpa hacts hok Sa Sb
 go_enter Tryz.func86,Tryz.ntmps86
 go_upto_region 1 with (fail)
 refine' zq94
 go_cut[7] (fun v7 W=>∃Z q5,v7= .pointer (some ⟨Z,0,none⟩)/\cG K w0 D vi vo q w1 sa Z q5 W ⟨e.op,0,p1,0,0,0⟩)
 case first=>as_aux_lemma=>
  refine wp_region_held_drew (S:=fun W=>W.cell? ⟨bx,0,none⟩=some (.int .i64 e.op)/\W.cell? ⟨bx,1,none⟩=some (.string e.name)/\W.cell? ⟨bx,2,none⟩=some (.int .i64 e.n)/\W.cell? ⟨bx,3,none⟩=some (.slice A e.args.length cap)/\W.cell? ⟨bx,4,none⟩=some (.int .i64 e.line)/\W.cell? ⟨bx,5,none⟩=some (.int .i64 e.col)) (by kernel_rfl) ?_ (fun hHeld=>?_)
  ·(try dsimp only);(first|((fail_if_success (simp only[World.setCell]));with_reducible exact HK5.o _ bE)|(have hz5:=HZ5.o;with_reducible exact HK.o _ _ (cG.fill hz5 _ _ _ _ _ _).fr)|(with_reducible exact HK5.o _ bE)|(with_reducible exact HK.o _ _ (aB.of_below bE)))
  refine tk 0 (some 9) rfl ?_
  refine tk 1 (some 10) rfl ?_
  refine tk 2 (some 11) rfl ?_
  refine tk 3 (some 12) rfl ?_
  refine tk 4 (some 13) rfl ?_
  refine wpAnyH_ready (rs:=[5,7]) (by kernel_rfl) (by simp) ?_
  refine AllReadyH.cons (o:={dst:=some 14,op:=_,type:=_,pos:=_,after:=_,guard:=_}) rfl (fun KK hKK=>?_) (AllReadyH.cons (o:={dst:=some 7,op:=_,type:=_,pos:=_,after:=_,guard:=_}) rfl (fun KK hKK=>?_) AllReadyH.nil)
  ·go_simp
   (go_at_call 82;(with_reducible refine Calls.mono (HC0.o _ bE) ?_);rintro r w5 ⟨rfl,q5,h5,m5⟩;(have HM5:=zH ((aB.of_below (bE:Below w1.heap.size w1 _)).trans m5));(have HK5:=zH (fun W' (hW:Below w5.heap.size w5 W')=>HK.o _ _ (HM5.o.trans (aB.of_below hW))));(have H5:=zH h5);(have HR5:=zH m5);(try (have HZ5:=zH (kJ (a:=⟨0,0,0,0,0,0⟩) (Z:=w1.heap.size) HH1.o bE (by first|(with_reducible exact ai.new _ _ _)|(with_reducible exact (ai.new _ _ _).drew)) (Nat.le_refl _) h5 m5));(obtain ⟨x0,x1,x2,x3,x4,x5⟩:=HZ5.o.row.six');(have y0:=HZ5.o.row.frozen 0);(have y1:=HZ5.o.row.frozen 1);(have y2:=HZ5.o.row.frozen 2);(have y3:=HZ5.o.row.frozen 3);(have y4:=HZ5.o.row.frozen 4);(have y5:=HZ5.o.row.frozen 5));clear h5 m5)
   (try go_wp2_with fail)
   refine hKK.out _ _ ?_ (fun hHeld=>?_)
   ·(try dsimp only);(first|((fail_if_success (simp only[World.setCell]));with_reducible exact HK5.o _ bE)|(have hz5:=HZ5.o;with_reducible exact HK.o _ _ (cG.fill hz5 _ _ _ _ _ _).fr)|(with_reducible exact HK5.o _ bE)|(with_reducible exact HK.o _ _ (aB.of_below bE)))
   clear hKK KK
   try simp only[Act.put,List.setIfInBounds_toArray,List.set_cons_zero,List.set_cons_succ]
   refine tk 6 (some 15) rfl ?_
   refine aH 7 (some 7) rfl (fun KK hKK=>?_)
   go_simp
   refine hKK.out _ _ ?_ (fun hHeld=>?_)
   ·(try dsimp only);(first|((fail_if_success (simp only[World.setCell]));with_reducible exact HK5.o _ bE)|(have hz5:=HZ5.o;with_reducible exact HK.o _ _ (cG.fill hz5 _ _ _ _ _ _).fr)|(with_reducible exact HK5.o _ bE)|(with_reducible exact HK.o _ _ (aB.of_below bE)))
   clear hKK KK
   try simp only[Act.put,List.setIfInBounds_toArray,List.set_cons_zero,List.set_cons_succ]
   refine aH 8 none rfl (fun KK hKK=>?_)
   go_simp
   refine hKK.out _ _ ?_ (fun hHeld=>?_)
   ·(try dsimp only);(first|((fail_if_success (simp only[World.setCell]));with_reducible exact HK5.o _ bE)|(have hz5:=HZ5.o;with_reducible exact HK.o _ _ (cG.fill hz5 _ _ _ _ _ _).fr)|(with_reducible exact HK5.o _ bE)|(with_reducible exact HK.o _ _ (aB.of_below bE)))
   clear hKK KK
   try simp only[Act.put,List.setIfInBounds_toArray,List.set_cons_zero,List.set_cons_succ]
   refine wpAnyH_done (by kernel_rfl) ?_ _
   go_wp2_with fail
   go_meet
   first|(have hz5:=HZ5.o;with_reducible exact ⟨_,_,rfl,cG.fill hz5 _ _ _ _ _ _⟩)|(with_reducible exact ⟨_,_,rfl,jm H5.o HM5.o bE (ai.new _ _ _) (Nat.le_refl _)⟩)
  ·go_simp
   refine hKK.out _ _ ?_ (fun hHeld=>?_)
   ·(try dsimp only);(first|((fail_if_success (simp only[World.setCell]));with_reducible exact HK5.o _ bE)|(have hz5:=HZ5.o;with_reducible exact HK.o _ _ (cG.fill hz5 _ _ _ _ _ _).fr)|(with_reducible exact HK5.o _ bE)|(with_reducible exact HK.o _ _ (aB.of_below bE)))
   clear hKK KK
   try simp only[Act.put,List.setIfInBounds_toArray,List.set_cons_zero,List.set_cons_succ]
   refine aH 5 (some 14) rfl (fun KK hKK=>?_)
   go_simp
   (go_at_call 82;(with_reducible refine Calls.mono (HC0.o _ bE) ?_);rintro r w5 ⟨rfl,q5,h5,m5⟩;(have HM5:=zH ((aB.of_below (bE:Below w1.heap.size w1 _)).trans m5));(have HK5:=zH (fun W' (hW:Below w5.heap.size w5 W')=>HK.o _ _ (HM5.o.trans (aB.of_below hW))));(have H5:=zH h5);(have HR5:=zH m5);(try (have HZ5:=zH (kJ (a:=⟨0,0,0,0,0,0⟩) (Z:=w1.heap.size) HH1.o bE (by first|(with_reducible exact ai.new _ _ _)|(with_reducible exact (ai.new _ _ _).drew)) (Nat.le_refl _) h5 m5));(obtain ⟨x0,x1,x2,x3,x4,x5⟩:=HZ5.o.row.six');(have y0:=HZ5.o.row.frozen 0);(have y1:=HZ5.o.row.frozen 1);(have y2:=HZ5.o.row.frozen 2);(have y3:=HZ5.o.row.frozen 3);(have y4:=HZ5.o.row.frozen 4);(have y5:=HZ5.o.row.frozen 5));clear h5 m5)
   (try go_wp2_with fail)
   refine hKK.out _ _ ?_ (fun hHeld=>?_)
   ·(try dsimp only);(first|((fail_if_success (simp only[World.setCell]));with_reducible exact HK5.o _ bE)|(have hz5:=HZ5.o;with_reducible exact HK.o _ _ (cG.fill hz5 _ _ _ _ _ _).fr)|(with_reducible exact HK5.o _ bE)|(with_reducible exact HK.o _ _ (aB.of_below bE)))
   clear hKK KK
   try simp only[Act.put,List.setIfInBounds_toArray,List.set_cons_zero,List.set_cons_succ]
   refine tk 6 (some 15) rfl ?_
   refine aH 8 none rfl (fun KK hKK=>?_)
   go_simp
   refine hKK.out _ _ ?_ (fun hHeld=>?_)
   ·(try dsimp only);(first|((fail_if_success (simp only[World.setCell]));with_reducible exact HK5.o _ bE)|(have hz5:=HZ5.o;with_reducible exact HK.o _ _ (cG.fill hz5 _ _ _ _ _ _).fr)|(with_reducible exact HK5.o _ bE)|(with_reducible exact HK.o _ _ (aB.of_below bE)))
   clear hKK KK
   try simp only[Act.put,List.setIfInBounds_toArray,List.set_cons_zero,List.set_cons_succ]
   refine wpAnyH_done (by kernel_rfl) ?_ _
   go_wp2_with fail
   go_meet
   first|(have hz5:=HZ5.o;with_reducible exact ⟨_,_,rfl,cG.fill hz5 _ _ _ _ _ _⟩)|(with_reducible exact ⟨_,_,rfl,jm H5.o HM5.o bE (ai.new _ _ _) (Nat.le_refl _)⟩)
 case rest=>
  refine' zq177
  have HX6:=zH (HC1.o w5 q5 HF5.o HA5.o.mkat)
  go_wp2_with fail
  (with_reducible refine HX6.o.mono ?_)
  rintro r w6 ⟨rfl,q6,h6,m6⟩
  have HA6:=zH (HA5.o.next h6 m6)
  clear h6 m6 z0 z1 z2 z3 z4 z5 g1 g3 c0 c1 c2 c3 c4 c5
  obtain ⟨z0,z1,z2,z3,z4,z5⟩:=HA6.o.row.six'
  have g1:=HA6.o.row.frozen 1
  have g3:=HA6.o.row.frozen 3
  have HA7:=zH (HA6.o.setb p2)
  have HF7:=zH HA7.o.fr
  have c0:=(HK.o _ _ HF7.o).1
  have hZ6:=HA6.o.row.lt
  go_upto_region 5 with (fail)
  generalize w6.setCell ⟨Z,3,none⟩ (.int .i64 p2)=w7 at*
  clear z0 z1 z2 z3 z4 z5 g1 g3
  have hwt:Wf (cj e.op):=aT (by unfold cj;split<;>omega)
  generalize cj e.op=T at*
  have HW8:=zH (fh HA7.o.mkat T v c hwt (HCK.o _ _ HA7.o.fr))
  have HN9:=zH (fun (q8:dH) (W8:World) (h8:aF K w0 D vi vo W8 q8 (sb.wire T c).2) (m8:aB D q6 w7 q8 W8)=>(HA7.o.next h8 m8).dst (sb.wire T c).1)
  have HAC:=zH (fun (q8:dH) (W8:World) (h9:aF K w0 D vi vo W8 q8 (sb.wire T c).2)=>eY h9 (⟨e.op,(sb.wire T c).1,p1,p2,0,0⟩:Ac) (show eP (⟨e.op,(sb.wire T c).1,p1,p2,0,0⟩:Ac) from ⟨HOK.o,fq,(aT (n:=p1) (by have h1:=HSA.o.lo;have h2:=HSA.o.hi;have h3:=HA7.o.mkat.lw;have h4:=HSB.o.up;dsimp only at h1 h2 h3 h4;omega)),(aT (n:=p2) (by have h1:=HSB.o.lo;have h2:=HSB.o.hi;have h3:=HA7.o.mkat.lw;have h4:=HSB.o.up;dsimp only at h1 h2 h3 h4;omega)),aV,aV⟩) (by rw[(dG sb T c).1];have:=HAL.o;omega))
  have HEE:Hid (ah e c s=((sb.wire T c).1,(sb.wire T c).2.act (⟨e.op,(sb.wire T c).1,p1,p2,0,0⟩:Ac))):=HE.o
  clear hwt HE
  obtain ⟨z0,z1,z2,z3,z4,z5⟩:=HA7.o.row.six'
  rcases hk with ⟨k6,rfl⟩|⟨k6,k12,rfl⟩|⟨k6,k12,rfl⟩
  all_goals
   go_wp2_with fail
   (with_reducible refine HW8.o.mono ?_)
   rintro r w8 ⟨rfl,q8,h8,m8⟩
   have HA8:=zH (HA7.o.next h8 m8)
   refine' zq100
end
end Go.Proofs.YtckognjamlckcaaGreatDoor
