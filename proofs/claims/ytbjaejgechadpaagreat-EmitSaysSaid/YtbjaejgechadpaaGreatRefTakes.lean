/-
  The contract of tompionref28.Takes. The contract of tompionref28.Takes. The contract of tompionref28.Takes.
-/
import Derived.Test.YtbjaejgechadpaaGreatRefKind
import Derived.Deep.RegionHeld3
import Derived.Deep.DrawnRows
namespace Go.Proofs.YtbjaejgechadpaaGreat
open Go.RowKit Vf
attribute [local go_sem ↓] Go.wp_at_zero Go.wp_at_succ
def TakesC (p:Pg) (vi vo vc vd:Value) (i:Nat) (c:In5→Prop):Prop:=∀(x:In5) (w:World),p.code[i]? =some x→PgAt w w.heap.size p vi vo vc vd→c x→
 Calls Tryz.prog 38 #[pgV p vi vo vc vd,.int .i64 i] w fun e w'=>e= .returned (.bool (cB (takesOk p (pairs p i) i x)))∧Below w.heap.size w w'
section
variable {p:Pg} {vi vo vc vd:Value}
set_option maxRecDepth 100000 in
set_option maxHeartbeats 8000000 in
theorem takes_sign {i:Nat} (hi:i≤p.code.length):TakesC p vi vo vc vd i (fun x=>5≤x.op∧x.op≤20):=by
 intro x w hx h hc
 have HT:=Lib.hid (taken_all (vi:=vi) (vo:=vo) (vc:=vc) (vd:=vd) hi)
 have b0:Below w.heap.size w (w.alloc (.cells #[vi,vo,.int .i64 p.regs,vc,vd] 37)):=(Below.refl _ _).alloc (Nat.le_refl _) _
 have bP:=(Row.new w #[vi,vo,.int .i64 p.regs,vc,vd] 37).alloc (.cells #[.int .i64 x.op,.int .i64 x.a,.int .i64 x.b,.int .i64 x.c,.int .i64 x.k] 58)
 have bX:=rowNew2 w (.cells #[vi,vo,.int .i64 p.regs,vc,vd] 37) #[.int .i64 x.op,.int .i64 x.a,.int .i64 x.b,.int .i64 x.c,.int .i64 x.k] 58
 have b1:Below w.heap.size w ((w.alloc (.cells #[vi,vo,.int .i64 p.regs,vc,vd] 37)).alloc (.cells #[.int .i64 x.op,.int .i64 x.a,.int .i64 x.b,.int .i64 x.c,.int .i64 x.k] 58)):=b0.alloc (by simp) _
 have h1:=h.next b1
 have hi:i<p.code.length:=(List.getElem?_eq_some_iff.1 hx).1
 obtain ⟨⟨Ai,ci,rfl,li,mi,si⟩,⟨Ao,co,rfl,lo,mo,so⟩,hreg,⟨Ac,cc,rfl,lc,mc,sc⟩,⟨Ad,cd,rfl,ld,md,sd⟩⟩:=h
 have mc':cc≤9223372036854775807:=by unfold maxLen at mc;omega
 have md':cd≤9223372036854775807:=by unfold maxLen at md;omega
 obtain ⟨b,off,x',rfl,hb,hxk,hok,c0,c1,c2,c3,c4⟩:=(sd.below b0).in5 hi
 obtain rfl:x'=x:=by rw[hx] at hxk;injection hxk with h;exact h.symm
 clear hxk hx
 have hil:(i:Int)<p.code.length:=by omega
 have HR:=Lib.hid (show takesOk p (pairs p i) i x'↔taken p (pairs p i) x'.b≠0∧(Ar.signIn x'.op=0∨taken p (pairs p i) x'.b=Ar.signIn x'.op)∧(x'.op≤6∨taken p (pairs p i) x'.c=taken p (pairs p i) x'.b) by unfold takesOk;rw[if_pos hc];exact Iff.rfl)
 go_enter Tryz.func38,Tryz.ntmps38
 go_wp2_with fail
 refine (rsign_yes x'.op _ hc).mono ?_
 rintro e w2 ⟨rfl,hb2⟩
 have b2:=b1.trans (hb2.mono b1.size)
 have h2:=h1.next hb2
 have bP2:=bP.below hb2 bP.lt
 have bX2:=bX.below hb2 bX.lt
 have so2:=so.below b2
 have sc2:=sc.below b2
 have hz2:w.heap.size≤w2.heap.size:=b2.size
 clear hb2 bP bX h1 b1 b0 c0 c1 c2 c3 c4 si so sc sd
 have q0:=bP2.cell 0
 have q1:=bP2.cell 1
 have q2:=bP2.cell 2
 have q3:=bP2.cell 3
 have q4:=bP2.cell 4
 have x0:=bX2.cell 0
 have x1:=bX2.cell 1
 have x2:=bX2.cell 2
 have x3:=bX2.cell 3
 have x4:=bX2.cell 4
 simp only[List.getElem?_toArray,List.getElem?_cons_zero,List.getElem?_cons_succ] at q0 q1 q2 q3 q4 x0 x1 x2 x3 x4
 generalize Ar.signIn x'.op=I at*
 generalize Ar.signOut x'.op=Ou at*
 go_wp2_with fail
 refine (HT.out x'.b _ h2).mono ?_
 rintro e w3 ⟨rfl,hb3⟩
 have b3:=b2.trans (hb3.mono b2.size)
 have h3:=h2.next hb3
 have bP3:=bP2.below hb3 bP2.lt
 have bX3:=bX2.below hb3 bX2.lt
 clear q0 q1 q2 q3 q4 x0 x1 x2 x3 x4 hb3 b2 h2 bP2 bX2
 have q0:=bP3.cell 0
 have q1:=bP3.cell 1
 have q2:=bP3.cell 2
 have q3:=bP3.cell 3
 have q4:=bP3.cell 4
 have x0:=bX3.cell 0
 have x1:=bX3.cell 1
 have x2:=bX3.cell 2
 have x3:=bX3.cell 3
 have x4:=bX3.cell 4
 simp only[List.getElem?_toArray,List.getElem?_cons_zero,List.getElem?_cons_succ] at q0 q1 q2 q3 q4 x0 x1 x2 x3 x4
 generalize taken p (pairs p i) x'.b=T1 at*
 by_cases t0:T1=0
 ·have t0':(T1 !=0)=false:=by simp[t0]
  have HT0:=Lib.hid t0
  clear t0
  go_wp2_with fail
  go_ret
  exact ⟨ret_bool (cB_false (fun g=>(HR.out.1 g).1 HT0.out)).symm,b3⟩
 have t0':(T1 !=0)=true:=by simp[t0]
 have HT0:=Lib.hid t0
 clear t0
 by_cases o6:x'.op≤6
 ·have HR6:=Lib.hid (show takesOk p (pairs p i) i x'↔(I=0∨T1=I) by rw[HR.out];exact ⟨fun g=>g.2.1,fun g=>⟨HT0.out,g,.inl o6⟩⟩)
  clear HR
  go_wp2_with fail
  all_goals
   go_ret
   exact ⟨ret_bool (by rw[Bool.eq_iff_iff,cB_iff,HR6.out];simp at*;try omega),b3⟩
 by_cases hI:I=0∨T1=I
 ·have HR7:=Lib.hid (show takesOk p (pairs p i) i x'↔taken p (pairs p i) x'.c=T1 by rw[HR.out];exact ⟨fun g=>g.2.2.resolve_left o6,fun g=>⟨HT0.out,hI,.inr g⟩⟩)
  clear HR
  by_cases i0:I=0
  ·have i0':(I==0)=true:=by simp[i0]
   clear hI i0
   go_wp2_with fail
   refine (HT.out x'.c _ h3).mono ?_
   rintro e w4 ⟨rfl,hb4⟩
   have HB:=Lib.hid (b3.trans (hb4.mono b3.size))
   clear hb4
   generalize taken p (pairs p i) x'.c=T2 at*
   go_wp2_with fail
   go_ret
   exact ⟨ret_bool (by rw[Bool.eq_iff_iff,cB_iff,HR7.out];simp;try omega),HB.out⟩
  ·have i0':(I==0)=false:=by simp[i0]
   have i1':(T1==I)=true:=by have:=hI.resolve_left i0;simp[this]
   clear hI i0
   go_wp2_with fail
   refine (HT.out x'.c _ h3).mono ?_
   rintro e w4 ⟨rfl,hb4⟩
   have HB:=Lib.hid (b3.trans (hb4.mono b3.size))
   clear hb4
   generalize taken p (pairs p i) x'.c=T2 at*
   go_wp2_with fail
   go_ret
   exact ⟨ret_bool (by rw[Bool.eq_iff_iff,cB_iff,HR7.out];simp;try omega),HB.out⟩
 ·have HF:=Lib.hid (cB_false (fun g=>hI (HR.out.1 g).2.1))
  have i0':(I==0)=false:=by simp;omega
  have i1':(T1==I)=false:=by simp;omega
  clear hI
  go_wp2_with fail
  go_ret
  exact ⟨ret_bool HF.out.symm,b3⟩
set_option maxRecDepth 100000 in
set_option maxHeartbeats 8000000 in
theorem takes_small {i:Nat} (hi:i≤p.code.length):TakesC p vi vo vc vd i (fun x=>x.op=1∨x.op=2∨x.op=3∨x.op=21∨x.op=28):=by
 intro x w hx h hc
 have HT:=Lib.hid (taken_all (vi:=vi) (vo:=vo) (vc:=vc) (vd:=vd) hi)
 have b0:Below w.heap.size w (w.alloc (.cells #[vi,vo,.int .i64 p.regs,vc,vd] 37)):=(Below.refl _ _).alloc (Nat.le_refl _) _
 have bP:=(Row.new w #[vi,vo,.int .i64 p.regs,vc,vd] 37).alloc (.cells #[.int .i64 x.op,.int .i64 x.a,.int .i64 x.b,.int .i64 x.c,.int .i64 x.k] 58)
 have bX:=rowNew2 w (.cells #[vi,vo,.int .i64 p.regs,vc,vd] 37) #[.int .i64 x.op,.int .i64 x.a,.int .i64 x.b,.int .i64 x.c,.int .i64 x.k] 58
 have b1:Below w.heap.size w ((w.alloc (.cells #[vi,vo,.int .i64 p.regs,vc,vd] 37)).alloc (.cells #[.int .i64 x.op,.int .i64 x.a,.int .i64 x.b,.int .i64 x.c,.int .i64 x.k] 58)):=b0.alloc (by simp) _
 have h1:=h.next b1
 have hi:i<p.code.length:=(List.getElem?_eq_some_iff.1 hx).1
 obtain ⟨⟨Ai,ci,rfl,li,mi,si⟩,⟨Ao,co,rfl,lo,mo,so⟩,hreg,⟨Ac,cc,rfl,lc,mc,sc⟩,⟨Ad,cd,rfl,ld,md,sd⟩⟩:=h
 have mc':cc≤9223372036854775807:=by unfold maxLen at mc;omega
 have md':cd≤9223372036854775807:=by unfold maxLen at md;omega
 obtain ⟨b,off,x',rfl,hb,hxk,hok,c0,c1,c2,c3,c4⟩:=(sd.below b0).in5 hi
 obtain rfl:x'=x:=by rw[hx] at hxk;injection hxk with h;exact h.symm
 clear hxk hx
 have hil:(i:Int)<p.code.length:=by omega
 have ns:¬(5≤x'.op∧x'.op≤20):=by omega
 go_enter Tryz.func38,Tryz.ntmps38
 go_wp2_with fail
 refine (rsign_no x'.op _ (by omega)).mono ?_
 rintro e w2 ⟨rfl,hb2⟩
 have b2:=b1.trans (hb2.mono b1.size)
 have h2:=h1.next hb2
 have bP2:=bP.below hb2 bP.lt
 have bX2:=bX.below hb2 bX.lt
 have so2:=so.below b2
 have sc2:=sc.below b2
 have hz2:w.heap.size≤w2.heap.size:=b2.size
 clear hb2 bP bX h1 b1 b0 c0 c1 c2 c3 c4 si so sc sd
 have q0:=bP2.cell 0
 have q1:=bP2.cell 1
 have q2:=bP2.cell 2
 have q3:=bP2.cell 3
 have q4:=bP2.cell 4
 have x0:=bX2.cell 0
 have x1:=bX2.cell 1
 have x2:=bX2.cell 2
 have x3:=bX2.cell 3
 have x4:=bX2.cell 4
 simp only[List.getElem?_toArray,List.getElem?_cons_zero,List.getElem?_cons_succ] at q0 q1 q2 q3 q4 x0 x1 x2 x3 x4
 by_cases e2:x'.op=2
 ·have HR:=Lib.hid (show takesOk p (pairs p i) i x'↔x'.k=0∨x'.k=1 by unfold takesOk;rw[if_neg ns,if_pos e2])
  have o2:(x'.op==2)=true:=by simp[e2]
  clear e2 ns hc
  go_wp2_with fail
  all_goals
   go_ret
   exact ⟨ret_bool (by rw[Bool.eq_iff_iff,cB_iff,HR.out];simp at*;try omega),b2⟩
 have o2:(x'.op==2)=false:=by simp[e2]
 by_cases e3:x'.op=3
 ·have HR:=Lib.hid (show takesOk p (pairs p i) i x'↔taken p (pairs p i) x'.b≠0 by unfold takesOk;rw[if_neg ns,if_neg e2,if_pos e3])
  have o3:(x'.op==3)=true:=by simp[e3]
  clear e2 e3 ns hc
  go_wp2_with fail
  refine (HT.out x'.b _ h2).mono ?_
  rintro e w3 ⟨rfl,hb3⟩
  have HB:=Lib.hid (b2.trans (hb3.mono b2.size))
  clear hb3
  generalize taken p (pairs p i) x'.b=T2 at*
  go_wp2_with fail
  go_ret
  exact ⟨ret_bool (by rw[Bool.eq_iff_iff,cB_iff,HR.out];simp),HB.out⟩
 have o3:(x'.op==3)=false:=by simp[e3]
 have HR:=Lib.hid (show takesOk p (pairs p i) i x' by unfold takesOk;rw[if_neg ns,if_neg e2,if_neg e3,if_neg (by omega),if_neg (by omega),if_neg (by omega),if_neg (by omega)];trivial)
 have o27:(x'.op==27)=false:=by simp;omega
 have o29:(x'.op==29)=false:=by simp;omega
 have o30:(x'.op==30)=false:=by simp;omega
 have o31:(x'.op==31)=false:=by simp;omega
 have o32:(x'.op==32)=false:=by simp;omega
 clear e2 e3 ns hc
 go_wp2_with fail
 go_ret
 exact ⟨ret_bool (cB_true HR.out).symm,b2⟩
set_option maxRecDepth 100000 in
set_option maxHeartbeats 8000000 in
theorem takes_27 {i:Nat} (hi:i≤p.code.length):TakesC p vi vo vc vd i (fun x=>x.op=27):=by
 intro x w hx h hc
 have HT:=Lib.hid (taken_all (vi:=vi) (vo:=vo) (vc:=vc) (vd:=vd) hi)
 have b0:Below w.heap.size w (w.alloc (.cells #[vi,vo,.int .i64 p.regs,vc,vd] 37)):=(Below.refl _ _).alloc (Nat.le_refl _) _
 have bP:=(Row.new w #[vi,vo,.int .i64 p.regs,vc,vd] 37).alloc (.cells #[.int .i64 x.op,.int .i64 x.a,.int .i64 x.b,.int .i64 x.c,.int .i64 x.k] 58)
 have bX:=rowNew2 w (.cells #[vi,vo,.int .i64 p.regs,vc,vd] 37) #[.int .i64 x.op,.int .i64 x.a,.int .i64 x.b,.int .i64 x.c,.int .i64 x.k] 58
 have b1:Below w.heap.size w ((w.alloc (.cells #[vi,vo,.int .i64 p.regs,vc,vd] 37)).alloc (.cells #[.int .i64 x.op,.int .i64 x.a,.int .i64 x.b,.int .i64 x.c,.int .i64 x.k] 58)):=b0.alloc (by simp) _
 have h1:=h.next b1
 have hi:i<p.code.length:=(List.getElem?_eq_some_iff.1 hx).1
 obtain ⟨⟨Ai,ci,rfl,li,mi,si⟩,⟨Ao,co,rfl,lo,mo,so⟩,hreg,⟨Ac,cc,rfl,lc,mc,sc⟩,⟨Ad,cd,rfl,ld,md,sd⟩⟩:=h
 have mc':cc≤9223372036854775807:=by unfold maxLen at mc;omega
 have md':cd≤9223372036854775807:=by unfold maxLen at md;omega
 obtain ⟨b,off,x',rfl,hb,hxk,hok,c0,c1,c2,c3,c4⟩:=(sd.below b0).in5 hi
 obtain rfl:x'=x:=by rw[hx] at hxk;injection hxk with h;exact h.symm
 clear hxk hx
 have hil:(i:Int)<p.code.length:=by omega
 have ns:¬(5≤x'.op∧x'.op≤20):=by omega
 have HC:=Lib.hid hc
 have hns:x'.op<5∨20<x'.op:=by omega
 clear hc ns
 go_enter Tryz.func38,Tryz.ntmps38
 go_wp2_with fail
 refine (rsign_no x'.op _ hns).mono ?_
 rintro e w2 ⟨rfl,hb2⟩
 have b2:=b1.trans (hb2.mono b1.size)
 have h2:=h1.next hb2
 have bP2:=bP.below hb2 bP.lt
 have bX2:=bX.below hb2 bX.lt
 have so2:=so.below b2
 have sc2:=sc.below b2
 have hz2:w.heap.size≤w2.heap.size:=b2.size
 clear hb2 bP bX h1 b1 b0 c0 c1 c2 c3 c4 si so sc sd
 have q0:=bP2.cell 0
 have q1:=bP2.cell 1
 have q2:=bP2.cell 2
 have q3:=bP2.cell 3
 have q4:=bP2.cell 4
 have x0:=bX2.cell 0
 have x1:=bX2.cell 1
 have x2:=bX2.cell 2
 have x3:=bX2.cell 3
 have x4:=bX2.cell 4
 simp only[List.getElem?_toArray,List.getElem?_cons_zero,List.getElem?_cons_succ] at q0 q1 q2 q3 q4 x0 x1 x2 x3 x4
 have hc:=HC.out
 have ns:¬(5≤x'.op∧x'.op≤20):=by omega
 have HR:=Lib.hid (show takesOk p (pairs p i) i x'↔taken p (pairs p i) x'.b=2∧taken p (pairs p i) x'.c≠0∧taken p (pairs p i) x'.k=taken p (pairs p i) x'.c by unfold takesOk;rw[if_neg ns,if_neg (by omega),if_neg (by omega),if_pos hc])
 have o2:(x'.op==2)=false:=by simp;omega
 have o3:(x'.op==3)=false:=by simp;omega
 have o27:(x'.op==27)=true:=by simp;omega
 clear hc ns
 go_wp2_with fail
 refine (HT.out x'.c _ h2).mono ?_
 rintro e w3 ⟨rfl,hb3⟩
 have b3:=b2.trans (hb3.mono b2.size)
 have h3:=h2.next hb3
 have bP3:=bP2.below hb3 bP2.lt
 have bX3:=bX2.below hb3 bX2.lt
 clear q0 q1 q2 q3 q4 x0 x1 x2 x3 x4 hb3 b2 h2 bP2 bX2
 have q0:=bP3.cell 0
 have q1:=bP3.cell 1
 have q2:=bP3.cell 2
 have q3:=bP3.cell 3
 have q4:=bP3.cell 4
 have x0:=bX3.cell 0
 have x1:=bX3.cell 1
 have x2:=bX3.cell 2
 have x3:=bX3.cell 3
 have x4:=bX3.cell 4
 simp only[List.getElem?_toArray,List.getElem?_cons_zero,List.getElem?_cons_succ] at q0 q1 q2 q3 q4 x0 x1 x2 x3 x4
 generalize taken p (pairs p i) x'.c=T2 at*
 go_wp2_with fail
 refine (HT.out x'.b _ h3).mono ?_
 rintro e w4 ⟨rfl,hb4⟩
 have b4:=b3.trans (hb4.mono b3.size)
 have h4:=h3.next hb4
 have bP4:=bP3.below hb4 bP3.lt
 have bX4:=bX3.below hb4 bX3.lt
 clear q0 q1 q2 q3 q4 x0 x1 x2 x3 x4 hb4 b3 h3 bP3 bX3
 have q0:=bP4.cell 0
 have q1:=bP4.cell 1
 have q2:=bP4.cell 2
 have q3:=bP4.cell 3
 have q4:=bP4.cell 4
 have x0:=bX4.cell 0
 have x1:=bX4.cell 1
 have x2:=bX4.cell 2
 have x3:=bX4.cell 3
 have x4:=bX4.cell 4
 simp only[List.getElem?_toArray,List.getElem?_cons_zero,List.getElem?_cons_succ] at q0 q1 q2 q3 q4 x0 x1 x2 x3 x4
 generalize taken p (pairs p i) x'.b=T1 at*
 by_cases t1:T1=2
 ·have t1':(T1==2)=true:=by simp[t1]
  by_cases t2:T2=0
  ·have t2':(T2 !=0)=false:=by simp[t2]
   have HF:=Lib.hid (cB_false (fun g=>(HR.out.1 g).2.1 t2))
   clear t1 t2
   go_wp2_with fail
   go_ret
   exact ⟨ret_bool HF.out.symm,b4⟩
  ·have t2':(T2 !=0)=true:=by simp[t2]
   have HR7:=Lib.hid (show takesOk p (pairs p i) i x'↔taken p (pairs p i) x'.k=T2 by rw[HR.out];exact ⟨fun g=>g.2.2,fun g=>⟨t1,t2,g⟩⟩)
   clear t1 t2 HR
   go_wp2_with fail
   refine (HT.out x'.k _ h4).mono ?_
   rintro e w5 ⟨rfl,hb5⟩
   have HB:=Lib.hid (b4.trans (hb5.mono b4.size))
   clear hb5
   generalize taken p (pairs p i) x'.k=T3 at*
   go_wp2_with fail
   go_ret
   exact ⟨ret_bool (by rw[Bool.eq_iff_iff,cB_iff,HR7.out];simp;try omega),HB.out⟩
 ·have t1':(T1==2)=false:=by simp[t1]
  have HF:=Lib.hid (cB_false (fun g=>t1 (HR.out.1 g).1))
  clear t1
  go_wp2_with fail
  all_goals
   go_ret
   exact ⟨ret_bool HF.out.symm,b4⟩
end
end Go.Proofs.YtbjaejgechadpaaGreat
namespace Go.Proofs.YtbjaejgechadpaaGreat
open Go.RowKit Vf
attribute [local go_sem ↓] Go.wp_at_zero Go.wp_at_succ
section
variable {p:Pg} {vi vo vc vd:Value}
set_option maxRecDepth 100000 in
set_option maxHeartbeats 8000000 in
theorem takes_30 {i:Nat} (hi:i≤p.code.length):TakesC p vi vo vc vd i (fun x=>x.op=30∨x.op=31):=by
 intro x w hx h hc
 have HT:=Lib.hid (taken_all (vi:=vi) (vo:=vo) (vc:=vc) (vd:=vd) hi)
 have b0:Below w.heap.size w (w.alloc (.cells #[vi,vo,.int .i64 p.regs,vc,vd] 37)):=(Below.refl _ _).alloc (Nat.le_refl _) _
 have bP:=(Row.new w #[vi,vo,.int .i64 p.regs,vc,vd] 37).alloc (.cells #[.int .i64 x.op,.int .i64 x.a,.int .i64 x.b,.int .i64 x.c,.int .i64 x.k] 58)
 have bX:=rowNew2 w (.cells #[vi,vo,.int .i64 p.regs,vc,vd] 37) #[.int .i64 x.op,.int .i64 x.a,.int .i64 x.b,.int .i64 x.c,.int .i64 x.k] 58
 have b1:Below w.heap.size w ((w.alloc (.cells #[vi,vo,.int .i64 p.regs,vc,vd] 37)).alloc (.cells #[.int .i64 x.op,.int .i64 x.a,.int .i64 x.b,.int .i64 x.c,.int .i64 x.k] 58)):=b0.alloc (by simp) _
 have h1:=h.next b1
 have hi:i<p.code.length:=(List.getElem?_eq_some_iff.1 hx).1
 obtain ⟨⟨Ai,ci,rfl,li,mi,si⟩,⟨Ao,co,rfl,lo,mo,so⟩,hreg,⟨Ac,cc,rfl,lc,mc,sc⟩,⟨Ad,cd,rfl,ld,md,sd⟩⟩:=h
 have mc':cc≤9223372036854775807:=by unfold maxLen at mc;omega
 have md':cd≤9223372036854775807:=by unfold maxLen at md;omega
 obtain ⟨b,off,x',rfl,hb,hxk,hok,c0,c1,c2,c3,c4⟩:=(sd.below b0).in5 hi
 obtain rfl:x'=x:=by rw[hx] at hxk;injection hxk with h;exact h.symm
 clear hxk hx
 have hil:(i:Int)<p.code.length:=by omega
 have ns:¬(5≤x'.op∧x'.op≤20):=by omega
 go_enter Tryz.func38,Tryz.ntmps38
 go_wp2_with fail
 refine (rsign_no x'.op _ (by omega)).mono ?_
 rintro e w2 ⟨rfl,hb2⟩
 have b2:=b1.trans (hb2.mono b1.size)
 have h2:=h1.next hb2
 have bP2:=bP.below hb2 bP.lt
 have bX2:=bX.below hb2 bX.lt
 have so2:=so.below b2
 have sc2:=sc.below b2
 have hz2:w.heap.size≤w2.heap.size:=b2.size
 clear hb2 bP bX h1 b1 b0 c0 c1 c2 c3 c4 si so sc sd
 have q0:=bP2.cell 0
 have q1:=bP2.cell 1
 have q2:=bP2.cell 2
 have q3:=bP2.cell 3
 have q4:=bP2.cell 4
 have x0:=bX2.cell 0
 have x1:=bX2.cell 1
 have x2:=bX2.cell 2
 have x3:=bX2.cell 3
 have x4:=bX2.cell 4
 simp only[List.getElem?_toArray,List.getElem?_cons_zero,List.getElem?_cons_succ] at q0 q1 q2 q3 q4 x0 x1 x2 x3 x4
 have HR:=Lib.hid (show takesOk p (pairs p i) i x'↔0≤x'.k∧x'.k≤(p.code.length:Int)-1-i∧taken p (pairs p i) x'.a=2 by unfold takesOk;rw[if_neg ns,if_neg (by omega),if_neg (by omega),if_neg (by omega),if_neg (by omega),if_neg (by omega),if_pos hc])
 have o2:(x'.op==2)=false:=by simp;omega
 have o3:(x'.op==3)=false:=by simp;omega
 have o27:(x'.op==27)=false:=by simp;omega
 have o29:(x'.op==29)=false:=by simp;omega
 have o32:(x'.op==32)=false:=by simp;omega
 clear ns
 by_cases hk:0≤x'.k∧x'.k≤(p.code.length:Int)-1-i
 ·have HR7:=Lib.hid (show takesOk p (pairs p i) i x'↔taken p (pairs p i) x'.a=2 by rw[HR.out];exact ⟨fun g=>g.2.2,fun g=>⟨hk.1,hk.2,g⟩⟩)
  obtain ⟨hk0,hk1⟩:=hk
  clear HR
  rcases hc with hc|hc
  ·have o30:(x'.op==30)=true:=by simp[hc]
   clear hc
   go_wp2_with fail
   refine (HT.out x'.a _ h2).mono ?_
   rintro e w3 ⟨rfl,hb3⟩
   have HB:=Lib.hid (b2.trans (hb3.mono b2.size))
   clear hb3
   generalize taken p (pairs p i) x'.a=T2 at*
   go_wp2_with fail
   go_ret
   exact ⟨ret_bool (by rw[Bool.eq_iff_iff,cB_iff,HR7.out];simp;try omega),HB.out⟩
  ·have o30:(x'.op==30)=false:=by simp[hc]
   have o31:(x'.op==31)=true:=by simp[hc]
   clear hc
   go_wp2_with fail
   refine (HT.out x'.a _ h2).mono ?_
   rintro e w3 ⟨rfl,hb3⟩
   have HB:=Lib.hid (b2.trans (hb3.mono b2.size))
   clear hb3
   generalize taken p (pairs p i) x'.a=T2 at*
   go_wp2_with fail
   go_ret
   exact ⟨ret_bool (by rw[Bool.eq_iff_iff,cB_iff,HR7.out];simp;try omega),HB.out⟩
 ·have HF:=Lib.hid (cB_false (fun g=>hk ⟨(HR.out.1 g).1,(HR.out.1 g).2.1⟩))
  have hk2:x'.k<0∨(0≤x'.k∧(p.code.length:Int)-1-i<x'.k):=by omega
  clear hk HR
  rcases hk2 with hk2|⟨hk2,hk3⟩<;>rcases hc with hc|hc
  all_goals
   (first
    |(have o30:(x'.op==30)=true:=by simp[hc])
    |((have o30:(x'.op==30)=false:=by simp[hc]);(have o31:(x'.op==31)=true:=by simp[hc])))
   clear hc
   go_wp2_with fail
   go_ret
   exact ⟨ret_bool HF.out.symm,b2⟩
set_option maxRecDepth 100000 in
set_option maxHeartbeats 8000000 in
theorem takes_29 {i:Nat} (hi:i≤p.code.length):TakesC p vi vo vc vd i (fun x=>x.op=29):=by
 intro x w hx h hc
 have HT:=Lib.hid (taken_all (vi:=vi) (vo:=vo) (vc:=vc) (vd:=vd) hi)
 have b0:Below w.heap.size w (w.alloc (.cells #[vi,vo,.int .i64 p.regs,vc,vd] 37)):=(Below.refl _ _).alloc (Nat.le_refl _) _
 have bP:=(Row.new w #[vi,vo,.int .i64 p.regs,vc,vd] 37).alloc (.cells #[.int .i64 x.op,.int .i64 x.a,.int .i64 x.b,.int .i64 x.c,.int .i64 x.k] 58)
 have bX:=rowNew2 w (.cells #[vi,vo,.int .i64 p.regs,vc,vd] 37) #[.int .i64 x.op,.int .i64 x.a,.int .i64 x.b,.int .i64 x.c,.int .i64 x.k] 58
 have b1:Below w.heap.size w ((w.alloc (.cells #[vi,vo,.int .i64 p.regs,vc,vd] 37)).alloc (.cells #[.int .i64 x.op,.int .i64 x.a,.int .i64 x.b,.int .i64 x.c,.int .i64 x.k] 58)):=b0.alloc (by simp) _
 have h1:=h.next b1
 have hi:i<p.code.length:=(List.getElem?_eq_some_iff.1 hx).1
 obtain ⟨⟨Ai,ci,rfl,li,mi,si⟩,⟨Ao,co,rfl,lo,mo,so⟩,hreg,⟨Ac,cc,rfl,lc,mc,sc⟩,⟨Ad,cd,rfl,ld,md,sd⟩⟩:=h
 have mc':cc≤9223372036854775807:=by unfold maxLen at mc;omega
 have md':cd≤9223372036854775807:=by unfold maxLen at md;omega
 obtain ⟨b,off,x',rfl,hb,hxk,hok,c0,c1,c2,c3,c4⟩:=(sd.below b0).in5 hi
 obtain rfl:x'=x:=by rw[hx] at hxk;injection hxk with h;exact h.symm
 clear hxk hx
 have hil:(i:Int)<p.code.length:=by omega
 have ns:¬(5≤x'.op∧x'.op≤20):=by omega
 have HC:=Lib.hid hc
 have hns:x'.op<5∨20<x'.op:=by omega
 clear hc ns
 go_enter Tryz.func38,Tryz.ntmps38
 go_wp2_with fail
 refine (rsign_no x'.op _ hns).mono ?_
 rintro e w2 ⟨rfl,hb2⟩
 have b2:=b1.trans (hb2.mono b1.size)
 have h2:=h1.next hb2
 have bP2:=bP.below hb2 bP.lt
 have bX2:=bX.below hb2 bX.lt
 have so2:=so.below b2
 have sc2:=sc.below b2
 have hz2:w.heap.size≤w2.heap.size:=b2.size
 clear hb2 bP bX h1 b1 b0 c0 c1 c2 c3 c4 si so sc sd
 have q0:=bP2.cell 0
 have q1:=bP2.cell 1
 have q2:=bP2.cell 2
 have q3:=bP2.cell 3
 have q4:=bP2.cell 4
 have x0:=bX2.cell 0
 have x1:=bX2.cell 1
 have x2:=bX2.cell 2
 have x3:=bX2.cell 3
 have x4:=bX2.cell 4
 simp only[List.getElem?_toArray,List.getElem?_cons_zero,List.getElem?_cons_succ] at q0 q1 q2 q3 q4 x0 x1 x2 x3 x4
 have hc:=HC.out
 have ns:¬(5≤x'.op∧x'.op≤20):=by omega
 have HR:=Lib.hid (show takesOk p (pairs p i) i x'↔has p.outs x'.k∧taken p (pairs p i) x'.a=getI p.outs x'.k by unfold takesOk;rw[if_neg ns,if_neg (by omega),if_neg (by omega),if_neg (by omega),if_pos hc])
 have o2:(x'.op==2)=false:=by simp;omega
 have o3:(x'.op==3)=false:=by simp;omega
 have o27:(x'.op==27)=false:=by simp;omega
 have o29:(x'.op==29)=true:=by simp;omega
 have o32:(x'.op==32)=false:=by simp;omega
 clear ns hc
 have hty:p.outs.length=p.outs.length:=rfl
 by_cases hh:has p.outs x'.k
 ·obtain ⟨n,hn⟩:=Int.eq_ofNat_of_zero_le hh.1
  have hnl:n<p.outs.length:=by have:=hh.2;rw[hn] at this;omega
  obtain ⟨b',off',c,rfl,hb',hck,wc1,d0⟩:=so2.int hnl
  have HR7:=Lib.hid (show takesOk p (pairs p i) i x'↔taken p (pairs p i) x'.a=c by
   rw[HR.out]
   have:getI p.outs x'.k=c:=by rw[hn];simp[getI,List.getD_eq_getElem?_getD,hck]
   rw[this]
   exact ⟨fun g=>g.2,fun g=>⟨hh,g⟩⟩)
  rw[hn] at x4 bX2
  clear hck hh HR hn hty
  have hnl':(n:Int)<p.outs.length:=by omega
  have hn0:(0:Int)≤(n:Int):=by omega
  go_wp2_with fail
  go_region_held3 (fun w'=>w'.cell? ⟨w.heap.size+1,1,none⟩=some (.int .i64 x'.a)∧w'.cell? ⟨w.heap.size+1,4,none⟩=some (.int .i64 (n:Int))∧w'.cell? ⟨w.heap.size,0,none⟩=some (.slice Ai p.ins.length ci)∧w'.cell? ⟨w.heap.size,1,none⟩=some (.slice (some ⟨b',off',none⟩) p.outs.length co)∧w'.cell? ⟨w.heap.size,2,none⟩=some (.int .i64 p.regs)∧w'.cell? ⟨w.heap.size,3,none⟩=some (.slice Ac p.cells.length cc)∧w'.cell? ⟨w.heap.size,4,none⟩=some (.slice (some ⟨b,off,none⟩) p.code.length cd)∧w'.cell? ⟨b',off'+n,none⟩=some (.int .i64 c))
   (first|exact ⟨bX3.cell 1,bX3.cell 4,bP3.cell 0,bP3.cell 1,bP3.cell 2,bP3.cell 3,bP3.cell 4,hd3⟩|go_keep)
   (first|(go_at_call 67;refine (HT.out x'.a _ (h2.next (Below.refl _ _).drew)).mono ?_;rintro e w3 ⟨rfl,hb3⟩;have b3:=b2.drew.trans (hb3.mono b2.size);have bP3:=bP2.drew.below hb3 bP2.lt;have bX3:=bX2.drew.below hb3 bX2.lt;have hd3:w3.cell? ⟨b',off'+n,none⟩=some (.int .i64 c):=(hb3.cell (p:=⟨b',off'+n,none⟩) (Nat.lt_of_lt_of_le hb' hz2)).trans d0))
  all_goals
   generalize taken p (pairs p i) x'.a=T2 at*
   go_wp2_with fail
   go_ret
   exact ⟨ret_bool (by rw[Bool.eq_iff_iff,cB_iff,HR7.out];simp),b3⟩
 ·have HF:=Lib.hid (cB_false (fun g=>hh (HR.out.1 g).1))
  have hk2:x'.k<0∨(0≤x'.k∧(p.outs.length:Int)≤x'.k):=by unfold has at hh;omega
  clear hh HR
  rcases hk2 with hk2|⟨hk2,hk3⟩
  ·have hd:decide (0≤x'.k)=false:=by simp;omega
   go_wp2_with fail
   go_quiet (fail)
   go_wp2_with fail
   go_ret
   exact ⟨ret_bool HF.out.symm,below_drewN' b2 _⟩
  ·have hd:decide (0≤x'.k)=true:=by simp;omega
   have hd2:decide (x'.k<(p.outs.length:Int))=false:=by simp;omega
   go_wp2_with fail
   go_quiet (fail)
   go_wp2_with fail
   go_ret
   exact ⟨ret_bool HF.out.symm,below_drewN' b2 _⟩
set_option maxRecDepth 100000 in
set_option maxHeartbeats 8000000 in
theorem takes_32 {i:Nat} (hi:i≤p.code.length):TakesC p vi vo vc vd i (fun x=>x.op=32):=by
 intro x w hx h hc
 have HT:=Lib.hid (taken_all (vi:=vi) (vo:=vo) (vc:=vc) (vd:=vd) hi)
 have b0:Below w.heap.size w (w.alloc (.cells #[vi,vo,.int .i64 p.regs,vc,vd] 37)):=(Below.refl _ _).alloc (Nat.le_refl _) _
 have bP:=(Row.new w #[vi,vo,.int .i64 p.regs,vc,vd] 37).alloc (.cells #[.int .i64 x.op,.int .i64 x.a,.int .i64 x.b,.int .i64 x.c,.int .i64 x.k] 58)
 have bX:=rowNew2 w (.cells #[vi,vo,.int .i64 p.regs,vc,vd] 37) #[.int .i64 x.op,.int .i64 x.a,.int .i64 x.b,.int .i64 x.c,.int .i64 x.k] 58
 have b1:Below w.heap.size w ((w.alloc (.cells #[vi,vo,.int .i64 p.regs,vc,vd] 37)).alloc (.cells #[.int .i64 x.op,.int .i64 x.a,.int .i64 x.b,.int .i64 x.c,.int .i64 x.k] 58)):=b0.alloc (by simp) _
 have h1:=h.next b1
 have hi:i<p.code.length:=(List.getElem?_eq_some_iff.1 hx).1
 obtain ⟨⟨Ai,ci,rfl,li,mi,si⟩,⟨Ao,co,rfl,lo,mo,so⟩,hreg,⟨Ac,cc,rfl,lc,mc,sc⟩,⟨Ad,cd,rfl,ld,md,sd⟩⟩:=h
 have mc':cc≤9223372036854775807:=by unfold maxLen at mc;omega
 have md':cd≤9223372036854775807:=by unfold maxLen at md;omega
 obtain ⟨b,off,x',rfl,hb,hxk,hok,c0,c1,c2,c3,c4⟩:=(sd.below b0).in5 hi
 obtain rfl:x'=x:=by rw[hx] at hxk;injection hxk with h;exact h.symm
 clear hxk hx
 have hil:(i:Int)<p.code.length:=by omega
 have ns:¬(5≤x'.op∧x'.op≤20):=by omega
 have HC:=Lib.hid hc
 have hns:x'.op<5∨20<x'.op:=by omega
 clear hc ns
 go_enter Tryz.func38,Tryz.ntmps38
 go_wp2_with fail
 refine (rsign_no x'.op _ hns).mono ?_
 rintro e w2 ⟨rfl,hb2⟩
 have b2:=b1.trans (hb2.mono b1.size)
 have h2:=h1.next hb2
 have bP2:=bP.below hb2 bP.lt
 have bX2:=bX.below hb2 bX.lt
 have so2:=so.below b2
 have sc2:=sc.below b2
 have hz2:w.heap.size≤w2.heap.size:=b2.size
 clear hb2 bP bX h1 b1 b0 c0 c1 c2 c3 c4 si so sc sd
 have q0:=bP2.cell 0
 have q1:=bP2.cell 1
 have q2:=bP2.cell 2
 have q3:=bP2.cell 3
 have q4:=bP2.cell 4
 have x0:=bX2.cell 0
 have x1:=bX2.cell 1
 have x2:=bX2.cell 2
 have x3:=bX2.cell 3
 have x4:=bX2.cell 4
 simp only[List.getElem?_toArray,List.getElem?_cons_zero,List.getElem?_cons_succ] at q0 q1 q2 q3 q4 x0 x1 x2 x3 x4
 have hc:=HC.out
 have ns:¬(5≤x'.op∧x'.op≤20):=by omega
 have HR:=Lib.hid (show takesOk p (pairs p i) i x'↔has (types p.cells) x'.k∧taken p (pairs p i) x'.a=getI (types p.cells) x'.k by unfold takesOk;rw[if_neg ns,if_neg (by omega),if_neg (by omega),if_neg (by omega),if_neg (by omega),if_pos hc])
 have o2:(x'.op==2)=false:=by simp;omega
 have o3:(x'.op==3)=false:=by simp;omega
 have o27:(x'.op==27)=false:=by simp;omega
 have o29:(x'.op==29)=false:=by simp;omega
 have o32:(x'.op==32)=true:=by simp;omega
 clear ns hc
 have hty:(types p.cells).length=p.cells.length:=by simp[types]
 by_cases hh:has (types p.cells) x'.k
 ·obtain ⟨n,hn⟩:=Int.eq_ofNat_of_zero_le hh.1
  have hnl:n<p.cells.length:=by have:=hh.2;rw[hn,hty] at this;omega
  obtain ⟨b',off',c,rfl,hb',hck,wc1,wc2,d0,d1⟩:=sc2.cell hnl
  have HR7:=Lib.hid (show takesOk p (pairs p i) i x'↔taken p (pairs p i) x'.a=c.1 by
   rw[HR.out]
   have:getI (types p.cells) x'.k=c.1:=by rw[hn];simp[getI,types,List.getD_eq_getElem?_getD,hck]
   rw[this]
   exact ⟨fun g=>g.2,fun g=>⟨hh,g⟩⟩)
  rw[hn] at x4 bX2
  clear hck hh HR hn hty
  have hnl':(n:Int)<p.cells.length:=by omega
  have hn0:(0:Int)≤(n:Int):=by omega
  go_wp2_with fail
  go_region_held3 (fun w'=>w'.cell? ⟨w.heap.size+1,1,none⟩=some (.int .i64 x'.a)∧w'.cell? ⟨w.heap.size+1,4,none⟩=some (.int .i64 (n:Int))∧w'.cell? ⟨w.heap.size,0,none⟩=some (.slice Ai p.ins.length ci)∧w'.cell? ⟨w.heap.size,1,none⟩=some (.slice Ao p.outs.length co)∧w'.cell? ⟨w.heap.size,2,none⟩=some (.int .i64 p.regs)∧w'.cell? ⟨w.heap.size,3,none⟩=some (.slice (some ⟨b',off',none⟩) p.cells.length cc)∧w'.cell? ⟨w.heap.size,4,none⟩=some (.slice (some ⟨b,off,none⟩) p.code.length cd)∧w'.cell? ⟨b',off'+n*2,none⟩=some (.int .i64 c.1))
   (first|exact ⟨bX3.cell 1,bX3.cell 4,bP3.cell 0,bP3.cell 1,bP3.cell 2,bP3.cell 3,bP3.cell 4,hd3⟩|go_keep)
   (first|(go_at_call 67;refine (HT.out x'.a _ (h2.next (Below.refl _ _).drew)).mono ?_;rintro e w3 ⟨rfl,hb3⟩;have b3:=b2.drew.trans (hb3.mono b2.size);have bP3:=bP2.drew.below hb3 bP2.lt;have bX3:=bX2.drew.below hb3 bX2.lt;have hd3:w3.cell? ⟨b',off'+n*2,none⟩=some (.int .i64 c.1):=(hb3.cell (p:=⟨b',off'+n*2,none⟩) (Nat.lt_of_lt_of_le hb' hz2)).trans d0))
  all_goals
   generalize taken p (pairs p i) x'.a=T2 at*
   go_wp2_with fail
   go_ret
   exact ⟨ret_bool (by rw[Bool.eq_iff_iff,cB_iff,HR7.out];simp),b3⟩
 ·have HF:=Lib.hid (cB_false (fun g=>hh (HR.out.1 g).1))
  have hk2:x'.k<0∨(0≤x'.k∧(p.cells.length:Int)≤x'.k):=by unfold has at hh;rw[hty] at hh;omega
  clear hh HR
  rcases hk2 with hk2|⟨hk2,hk3⟩
  ·have hd:decide (0≤x'.k)=false:=by simp;omega
   go_wp2_with fail
   go_quiet (fail)
   go_wp2_with fail
   go_ret
   exact ⟨ret_bool HF.out.symm,below_drewN' b2 _⟩
  ·have hd:decide (0≤x'.k)=true:=by simp;omega
   have hd2:decide (x'.k<(p.cells.length:Int))=false:=by simp;omega
   go_wp2_with fail
   go_quiet (fail)
   go_wp2_with fail
   go_ret
   exact ⟨ret_bool HF.out.symm,below_drewN' b2 _⟩
end
end Go.Proofs.YtbjaejgechadpaaGreat
namespace Go.Proofs.YtbjaejgechadpaaGreat
open Go.RowKit Vf
section
variable {p:Pg} {vi vo vc vd:Value}
theorem rtakes_any {i:Nat} {x:In5} (w:World) (hx:p.code[i]? =some x) (h:PgAt w w.heap.size p vi vo vc vd) (ho:instrOk x):
  Calls Tryz.prog 38 #[pgV p vi vo vc vd,.int .i64 i] w fun e w'=>e= .returned (.bool (cB (takesOk p (pairs p i) i x)))∧Below w.heap.size w w':=by
 have hi:i≤p.code.length:=Nat.le_of_lt (List.getElem?_eq_some_iff.1 hx).1
 by_cases h1:5≤x.op∧x.op≤20
 ·exact takes_sign hi x w hx h h1
 by_cases h2:x.op=1∨x.op=2∨x.op=3∨x.op=21∨x.op=28
 ·exact takes_small hi x w hx h h2
 by_cases h3:x.op=27
 ·exact takes_27 hi x w hx h h3
 by_cases h4:x.op=30∨x.op=31
 ·exact takes_30 hi x w hx h h4
 by_cases h5:x.op=29
 ·exact takes_29 hi x w hx h h5
 have h6:x.op=32:=by unfold instrOk hasA hasAB hasABC at ho;omega
 exact takes_32 hi x w hx h h6
end
end Go.Proofs.YtbjaejgechadpaaGreat
