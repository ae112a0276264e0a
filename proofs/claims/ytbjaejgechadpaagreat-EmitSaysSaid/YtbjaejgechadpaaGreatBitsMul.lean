/-
  The looker looks at an instruction, op by op (what is skipped). bits.Mul of one and a small number.
-/
import Derived.Test.YtbjaejgechadpaaGreatLookA
import Derived.Test.YtbjaejgechadpaaGreatArZ
import Derived.Deep.RegionHeld3
import Derived.IntWalk
import Derived.Test.YtbjaejgechadpaaGreatMem
import Derived.Laws.Bits64b
namespace Go.Proofs.YtbjaejgechadpaaGreat
open Go.RowKit Vf
set_option linter.unusedSimpArgs false in
set_option maxRecDepth 100000 in
set_option maxHeartbeats 40000000 in
theorem instr_30 {w:World} {B L K O:Nat} {p:Pg} {vi vo vc vd:Value} {s:LS} (i:Int) (x:In5) (h:Lk w B L K O p vi vo vc vd s) (hop:x.op=30∨x.op=31) (hi0:0≤i) (hi1:i<p.code.length) (hcl:p.code.length≤2048) (hk:Wf x.k) (h3T:(s.takes x.a).1=0∨(s.takes x.a).1=1∨(s.takes x.a).1=2):
  Calls Tryz.prog 59 #[.pointer (some ⟨L,0,none⟩),.int .i64 i,in5V x] w fun e w'=>e= .returned (.tuple #[])∧Left w B L K O p vi vo vc vd (s.instr p i x) w':=by
 have hL:w.heap.size≠L:=by have:=h.row.lt;omega
 have hK:w.heap.size≠K:=by have:=h.kinds.lt;omega
 have hO:w.heap.size≠O:=by have:=h.outs.lt;omega
 have bX:=Row.new w #[.int .i64 x.op,.int .i64 x.a,.int .i64 x.b,.int .i64 x.c,.int .i64 x.k] 58
 have h0:=h.alloc (.cells #[.int .i64 x.op,.int .i64 x.a,.int .i64 x.b,.int .i64 x.c,.int .i64 x.k] 58)
 have u0:Upd (lkX L K O) w (w.alloc (.cells #[.int .i64 x.op,.int .i64 x.a,.int .i64 x.b,.int .i64 x.c,.int .i64 x.k] 58)):=(Upd.refl _ _).alloc _
 have sg:Ar.signB x.op=false:=by simp[Ar.signB];omega
 have o1:(x.op==1)=false:=by rw[beq_eq_false_iff_ne];omega
 have o2:(x.op==2)=false:=by rw[beq_eq_false_iff_ne];omega
 have o3:(x.op==3)=false:=by rw[beq_eq_false_iff_ne];omega
 have o27:(x.op==27)=false:=by rw[beq_eq_false_iff_ne];omega
 have o21:(x.op==21)=false:=by rw[beq_eq_false_iff_ne];omega
 have o28:(x.op==28)=false:=by rw[beq_eq_false_iff_ne];omega
 have o29:(x.op==29)=false:=by rw[beq_eq_false_iff_ne];omega
 have o32:(x.op==32)=false:=by rw[beq_eq_false_iff_ne];omega
 have HR:=Lib.hid (show s.instr p i x=(
   let s1:=(s.takes x.a).2.need ((s.takes x.a).1==2 && (decide (0≤x.k) && decide (x.k≤(p.code.length:Int)-1-i)))
   {s1 with past:=max s1.past (i+1+min x.k p.code.length)}) by unfold LS.instr;rw[if_neg (by omega:¬(5≤x.op∧x.op≤20)),if_neg (by omega:¬x.op=1),if_neg (by omega:¬x.op=2),if_neg (by omega:¬x.op=3),if_neg (by omega:¬x.op=27),if_neg (by omega:¬x.op=21),if_neg (by omega:¬x.op=28),if_neg (by omega:¬x.op=29),if_neg (by omega:¬x.op=32)])
 have hkw:=hk.le
 obtain ⟨Ad,cd,rfl,ld,md,sd⟩:=h.pg.code
 clear hk sd md
 clear h hop
 go_enter Tryz.func59,Tryz.ntmps59
 go_wp2_with fail
 refine (Ar.sign_any x.op _).mono ?_
 rintro e w' ⟨rfl,rfl⟩
 rw[sg]
 generalize Ar.signIn x.op=si at*
 generalize Ar.signOut x.op=so at*
 clear sg
 generalize w.alloc (.cells #[.int .i64 x.op,.int .i64 x.a,.int .i64 x.b,.int .i64 x.c,.int .i64 x.k] 58)=W at*
 generalize w.heap.size=gx at*
 obtain ⟨x0,x1,x2,x3,x4⟩:=in5_cells bX
 have l4:=h0.row.cell 4
 have l7:=h0.row.cell 7
 simp only[List.getElem?_toArray,List.getElem?_cons_zero,List.getElem?_cons_succ] at l4 l7
 go_upto_region 5 with (fail)
 go_cut[] (fun W2=>∃s2,Hid (s2=(s.takes x.a).2.need ((s.takes x.a).1==2 && (decide (0≤x.k) && decide (x.k≤(p.code.length:Int)-1-i))))∧Lk W2 B L K O p vi vo vc (.slice Ad p.code.length cd) s2∧Row W2 gx #[.int .i64 x.op,.int .i64 x.a,.int .i64 x.b,.int .i64 x.c,.int .i64 x.k] 58∧Upd (lkX L K O) w W2)
 case first=>
  have HP:=Lib.hid (takes_any x.a h0.drew)
  generalize (s.takes x.a).1=T at*
  generalize (s.takes x.a).2=s1 at*
  have e1:=Lib.hid (show IntKind.i64.wrap ((p.code.length:Int)-1)=(p.code.length:Int)-1 from IntWalk.i64_in _ (by omega))
  have e2:=Lib.hid (show IntKind.i64.wrap ((p.code.length:Int)-1-i)=(p.code.length:Int)-1-i from IntWalk.i64_in _ (by omega))
  rcases h3T with rfl|rfl|rfl
  rotate_left 2
  ·by_cases hk0:0≤x.k
   ·have hk0':decide (0≤x.k)=true:=by simp[hk0]
    (first|(go_region_held3 (fun w'=>w'.cell? ⟨gx,0,none⟩=some (.int .i64 x.op)∧w'.cell? ⟨gx,1,none⟩=some (.int .i64 x.a)∧w'.cell? ⟨gx,2,none⟩=some (.int .i64 x.b)∧w'.cell? ⟨gx,3,none⟩=some (.int .i64 x.c)∧w'.cell? ⟨gx,4,none⟩=some (.int .i64 x.k)∧w'.cell? ⟨L,4,none⟩=some (.slice Ad p.code.length cd))
     (first|exact ⟨(in5_cells bX2).1,(in5_cells bX2).2.1,(in5_cells bX2).2.2.1,(in5_cells bX2).2.2.2.1,(in5_cells bX2).2.2.2.2,h2.row.cell 4⟩|exact ⟨(in5_cells bX1).1,(in5_cells bX1).2.1,(in5_cells bX1).2.2.1,(in5_cells bX1).2.2.2.1,(in5_cells bX1).2.2.2.2,h1.row.cell 4⟩|go_keep)
     (first|(go_at_call 82;refine HP.out.mono ?_;rintro e w1 ⟨rfl,hl1⟩;have bX1:=hl1.row bX.drew hL hK hO;have u1:=u0.drew.trans hl1.2;have h1:=hl1.1)|(go_at_call 81;refine (need_any _ h1).mono ?_;rintro e w2 ⟨rfl,hl2⟩;have bX2:=hl2.row bX1 hL hK hO;have h2:=hl2.1)))|fail)
    all_goals
     go_wp2_with fail
     go_meet
     exact ⟨_,rfl,by rw[e1.out,e2.out] at h2;rw[hk0'];exact h2,bX2,u1.trans hl2.2⟩
   ·have hk0':decide (0≤x.k)=false:=by simp[hk0]
    have hk0'':(0≤x.k)=False:=by simp[hk0]
    clear hk0
    refine wp_region_held_drew (S:=(fun w'=>w'.cell? ⟨gx,0,none⟩=some (.int .i64 x.op)∧w'.cell? ⟨gx,1,none⟩=some (.int .i64 x.a)∧w'.cell? ⟨gx,2,none⟩=some (.int .i64 x.b)∧w'.cell? ⟨gx,3,none⟩=some (.int .i64 x.c)∧w'.cell? ⟨gx,4,none⟩=some (.int .i64 x.k)∧w'.cell? ⟨L,4,none⟩=some (.slice Ad p.code.length cd))) (by kernel_rfl) ?_ (fun hHeld=>?_)
    ·go_keep
    refine wpAnyH_take (i:=0) (v:= ?_) rfl (by kernel_rfl) (by kernel_rfl) (by kernel_rfl) (fun _ _ _ h=>h) (Or.inl ⟨by kernel_rfl,?_⟩) (by assumption) ?_
    rotate_left 1
    ·intro w hSw;(try dsimp only at hSw);go_simp;(try with_reducible rfl)
    try simp only[Act.put,List.setIfInBounds_toArray,List.set_cons_zero,List.set_cons_succ]
    refine wpAnyH_take (i:=1) (v:= ?_) rfl (by kernel_rfl) (by kernel_rfl) (by kernel_rfl) (fun _ _ _ h=>h) (Or.inl ⟨by kernel_rfl,?_⟩) (by assumption) ?_
    rotate_left 1
    ·intro w hSw;(try dsimp only at hSw);go_simp;(try with_reducible rfl)
    try simp only[Act.put,List.setIfInBounds_toArray,List.set_cons_zero,List.set_cons_succ]
    refine wpAnyH_take (i:=2) (v:= ?_) rfl (by kernel_rfl) (by kernel_rfl) (by kernel_rfl) (fun _ _ _ h=>h) (Or.inl ⟨by kernel_rfl,?_⟩) (by assumption) ?_
    rotate_left 1
    ·intro w hSw;(try dsimp only at hSw);go_simp;(try with_reducible rfl)
    try simp only[Act.put,List.setIfInBounds_toArray,List.set_cons_zero,List.set_cons_succ]
    refine wpAnyH_take (i:=3) (v:= ?_) rfl (by kernel_rfl) (by kernel_rfl) (by kernel_rfl) (fun _ _ _ h=>h) (Or.inl ⟨by kernel_rfl,?_⟩) (by assumption) ?_
    rotate_left 1
    ·intro w hSw;(try dsimp only at hSw);go_simp;(try with_reducible rfl)
    try simp only[Act.put,List.setIfInBounds_toArray,List.set_cons_zero,List.set_cons_succ]
    refine wpAnyH_ready (rs:=[4]) (by kernel_rfl) (by simp) ?_
    refine AllReadyH.cons rfl (fun KK hKK=>?_) AllReadyH.nil
    go_simp
    go_at_call 82
    refine HP.out.mono ?_
    rintro e w1 ⟨rfl,hl1⟩
    have bX1:=hl1.row bX.drew hL hK hO
    have u1:=u0.drew.trans hl1.2
    have h1:=hl1.1
    (try go_wp2_with fail)
    refine hKK.out _ _ ?_ (fun hHeld=>?_)
    ·exact ⟨(in5_cells bX1).1,(in5_cells bX1).2.1,(in5_cells bX1).2.2.1,(in5_cells bX1).2.2.2.1,(in5_cells bX1).2.2.2.2,h1.row.cell 4⟩
    clear hKK KK
    try simp only[Act.put,List.setIfInBounds_toArray,List.set_cons_zero,List.set_cons_succ]
    refine wpAnyH_take (i:=5) (v:= ?_) rfl (by kernel_rfl) (by kernel_rfl) (by kernel_rfl) (fun _ _ _ h=>h) (Or.inl ⟨by kernel_rfl,?_⟩) (by assumption) ?_
    rotate_left 1
    ·intro w hSw;(try dsimp only at hSw);go_simp;(try with_reducible rfl)
    try simp only[Act.put,List.setIfInBounds_toArray,List.set_cons_zero,List.set_cons_succ]
    refine wpAnyH_take (i:=6) (v:= ?_) rfl (by kernel_rfl) (by kernel_rfl) (by kernel_rfl) (fun _ _ _ h=>h) (Or.inl ⟨by kernel_rfl,?_⟩) (by assumption) ?_
    rotate_left 1
    ·intro w hSw;(try dsimp only at hSw);go_simp;(try with_reducible rfl)
    try simp only[Act.put,List.setIfInBounds_toArray,List.set_cons_zero,List.set_cons_succ]
    refine wpAnyH_take (i:=7) (v:= ?_) rfl (by kernel_rfl) (by kernel_rfl) (by kernel_rfl) (fun _ _ _ h=>h) (Or.inl ⟨by kernel_rfl,?_⟩) (by assumption) ?_
    rotate_left 1
    ·intro w hSw;(try dsimp only at hSw);go_simp;(try with_reducible rfl)
    try simp only[Act.put,List.setIfInBounds_toArray,List.set_cons_zero,List.set_cons_succ]
    refine wpAnyH_take (i:=8) (v:= ?_) rfl (by kernel_rfl) (by kernel_rfl) (by kernel_rfl) (fun _ _ _ h=>h) (Or.inl ⟨by kernel_rfl,?_⟩) (by assumption) ?_
    rotate_left 1
    ·intro w hSw;(try dsimp only at hSw);go_simp;(try with_reducible rfl)
    try simp only[Act.put,List.setIfInBounds_toArray,List.set_cons_zero,List.set_cons_succ]
    refine wpAnyH_take (i:=9) (v:= ?_) rfl (by kernel_rfl) (by kernel_rfl) (by kernel_rfl) (fun _ _ _ h=>h) (Or.inl ⟨by kernel_rfl,?_⟩) (by assumption) ?_
    rotate_left 1
    ·intro w hSw;(try dsimp only at hSw);go_simp;(try with_reducible rfl)
    try simp only[Act.put,List.setIfInBounds_toArray,List.set_cons_zero,List.set_cons_succ]
    refine wpAnyH_take (i:=10) (v:= ?_) rfl (by kernel_rfl) (by kernel_rfl) (by kernel_rfl) (fun _ _ _ h=>h) (Or.inl ⟨by kernel_rfl,?_⟩) (by assumption) ?_
    rotate_left 1
    ·intro w hSw;(try dsimp only at hSw);go_simp;(try with_reducible rfl)
    try simp only[Act.put,List.setIfInBounds_toArray,List.set_cons_zero,List.set_cons_succ]
    refine wpAnyH_take (i:=11) (v:= ?_) rfl (by kernel_rfl) (by kernel_rfl) (by kernel_rfl) (fun _ _ _ h=>h) (Or.inl ⟨by kernel_rfl,?_⟩) (by assumption) ?_
    rotate_left 1
    ·intro w hSw;(try dsimp only at hSw);go_simp;(try with_reducible rfl)
    try simp only[Act.put,List.setIfInBounds_toArray,List.set_cons_zero,List.set_cons_succ]
    refine wpAnyH_take (i:=12) (v:=undef) rfl (by kernel_rfl) (by kernel_rfl) (by kernel_rfl) (fun _ _ _ h=>h) (Or.inr ⟨by kernel_rfl,rfl⟩) (by assumption) ?_
    try simp only[Act.put,List.setIfInBounds_toArray,List.set_cons_zero,List.set_cons_succ]
    refine wpAnyH_take (i:=13) (v:=undef) rfl (by kernel_rfl) (by kernel_rfl) (by kernel_rfl) (fun _ _ _ h=>h) (Or.inr ⟨by kernel_rfl,rfl⟩) (by assumption) ?_
    try simp only[Act.put,List.setIfInBounds_toArray,List.set_cons_zero,List.set_cons_succ]
    refine wpAnyH_take (i:=14) (v:=undef) rfl (by kernel_rfl) (by kernel_rfl) (by kernel_rfl) (fun _ _ _ h=>h) (Or.inr ⟨by kernel_rfl,rfl⟩) (by assumption) ?_
    try simp only[Act.put,List.setIfInBounds_toArray,List.set_cons_zero,List.set_cons_succ]
    refine wpAnyH_take (i:=15) (v:=undef) rfl (by kernel_rfl) (by kernel_rfl) (by kernel_rfl) (fun _ _ _ h=>h) (Or.inr ⟨by kernel_rfl,rfl⟩) (by assumption) ?_
    try simp only[Act.put,List.setIfInBounds_toArray,List.set_cons_zero,List.set_cons_succ]
    refine wpAnyH_take (i:=16) (v:=undef) rfl (by kernel_rfl) (by kernel_rfl) (by kernel_rfl) (fun _ _ _ h=>h) (Or.inr ⟨by kernel_rfl,rfl⟩) (by assumption) ?_
    try simp only[Act.put,List.setIfInBounds_toArray,List.set_cons_zero,List.set_cons_succ]
    refine wpAnyH_take (i:=17) (v:=undef) rfl (by kernel_rfl) (by kernel_rfl) (by kernel_rfl) (fun _ _ _ h=>h) (Or.inr ⟨by kernel_rfl,rfl⟩) (by assumption) ?_
    try simp only[Act.put,List.setIfInBounds_toArray,List.set_cons_zero,List.set_cons_succ]
    refine wpAnyH_take (i:=18) (v:=undef) rfl (by kernel_rfl) (by kernel_rfl) (by kernel_rfl) (fun _ _ _ h=>h) (Or.inr ⟨by kernel_rfl,rfl⟩) (by assumption) ?_
    try simp only[Act.put,List.setIfInBounds_toArray,List.set_cons_zero,List.set_cons_succ]
    refine wpAnyH_take (i:=19) (v:=undef) rfl (by kernel_rfl) (by kernel_rfl) (by kernel_rfl) (fun _ _ _ h=>h) (Or.inr ⟨by kernel_rfl,rfl⟩) (by assumption) ?_
    try simp only[Act.put,List.setIfInBounds_toArray,List.set_cons_zero,List.set_cons_succ]
    refine wpAnyH_take (i:=20) (v:=undef) rfl (by kernel_rfl) (by kernel_rfl) (by kernel_rfl) (fun _ _ _ h=>h) (Or.inr ⟨by kernel_rfl,rfl⟩) (by assumption) ?_
    try simp only[Act.put,List.setIfInBounds_toArray,List.set_cons_zero,List.set_cons_succ]
    refine wpAnyH_take (i:=21) (v:=undef) rfl (by kernel_rfl) (by kernel_rfl) (by kernel_rfl) (fun _ _ _ h=>h) (Or.inr ⟨by kernel_rfl,rfl⟩) (by assumption) ?_
    try simp only[Act.put,List.setIfInBounds_toArray,List.set_cons_zero,List.set_cons_succ]
    refine wpAnyH_take (i:=22) (v:=undef) rfl (by kernel_rfl) (by kernel_rfl) (by kernel_rfl) (fun _ _ _ h=>h) (Or.inr ⟨by kernel_rfl,rfl⟩) (by assumption) ?_
    try simp only[Act.put,List.setIfInBounds_toArray,List.set_cons_zero,List.set_cons_succ]
    refine wpAnyH_take (i:=23) (v:=undef) rfl (by kernel_rfl) (by kernel_rfl) (by kernel_rfl) (fun _ _ _ h=>h) (Or.inr ⟨by kernel_rfl,rfl⟩) (by assumption) ?_
    try simp only[Act.put,List.setIfInBounds_toArray,List.set_cons_zero,List.set_cons_succ]
    refine wpAnyH_take (i:=24) (v:= ?_) rfl (by kernel_rfl) (by kernel_rfl) (by kernel_rfl) (fun _ _ _ h=>h) (Or.inl ⟨by kernel_rfl,?_⟩) (by assumption) ?_
    rotate_left 1
    ·intro w hSw;(try dsimp only at hSw);go_simp;(try with_reducible rfl)
    try simp only[Act.put,List.setIfInBounds_toArray,List.set_cons_zero,List.set_cons_succ]
    refine wpAnyH_ready (rs:=[25]) (by kernel_rfl) (by simp) ?_
    refine AllReadyH.cons rfl (fun KK hKK=>?_) AllReadyH.nil
    go_simp
    go_at_call 81
    refine (need_any _ h1).mono ?_
    rintro e w2 ⟨rfl,hl2⟩
    have bX2:=hl2.row bX1 hL hK hO
    have h2:=hl2.1
    (try go_wp2_with fail)
    refine hKK.out _ _ ?_ (fun hHeld=>?_)
    ·exact ⟨(in5_cells bX2).1,(in5_cells bX2).2.1,(in5_cells bX2).2.2.1,(in5_cells bX2).2.2.2.1,(in5_cells bX2).2.2.2.2,h2.row.cell 4⟩
    clear hKK KK
    try simp only[Act.put,List.setIfInBounds_toArray,List.set_cons_zero,List.set_cons_succ]
    refine wpAnyH_done (by kernel_rfl) ?_ _
    all_goals
     go_wp2_with fail
     go_meet
     exact ⟨_,rfl,by rw[hk0'];exact h2,bX2,u1.trans hl2.2⟩
  all_goals
   refine wp_region_held_drew (S:=(fun w'=>w'.cell? ⟨gx,0,none⟩=some (.int .i64 x.op)∧w'.cell? ⟨gx,1,none⟩=some (.int .i64 x.a)∧w'.cell? ⟨gx,2,none⟩=some (.int .i64 x.b)∧w'.cell? ⟨gx,3,none⟩=some (.int .i64 x.c)∧w'.cell? ⟨gx,4,none⟩=some (.int .i64 x.k)∧w'.cell? ⟨L,4,none⟩=some (.slice Ad p.code.length cd))) (by kernel_rfl) ?_ (fun hHeld=>?_)
   ·go_keep
   refine wpAnyH_take (i:=0) (v:= ?_) rfl (by kernel_rfl) (by kernel_rfl) (by kernel_rfl) (fun _ _ _ h=>h) (Or.inl ⟨by kernel_rfl,?_⟩) (by assumption) ?_
   rotate_left 1
   ·intro w hSw;(try dsimp only at hSw);go_simp;(try with_reducible rfl)
   try simp only[Act.put,List.setIfInBounds_toArray,List.set_cons_zero,List.set_cons_succ]
   refine wpAnyH_take (i:=1) (v:= ?_) rfl (by kernel_rfl) (by kernel_rfl) (by kernel_rfl) (fun _ _ _ h=>h) (Or.inl ⟨by kernel_rfl,?_⟩) (by assumption) ?_
   rotate_left 1
   ·intro w hSw;(try dsimp only at hSw);go_simp;(try with_reducible rfl)
   try simp only[Act.put,List.setIfInBounds_toArray,List.set_cons_zero,List.set_cons_succ]
   refine wpAnyH_take (i:=2) (v:= ?_) rfl (by kernel_rfl) (by kernel_rfl) (by kernel_rfl) (fun _ _ _ h=>h) (Or.inl ⟨by kernel_rfl,?_⟩) (by assumption) ?_
   rotate_left 1
   ·intro w hSw;(try dsimp only at hSw);go_simp;(try with_reducible rfl)
   try simp only[Act.put,List.setIfInBounds_toArray,List.set_cons_zero,List.set_cons_succ]
   refine wpAnyH_take (i:=3) (v:= ?_) rfl (by kernel_rfl) (by kernel_rfl) (by kernel_rfl) (fun _ _ _ h=>h) (Or.inl ⟨by kernel_rfl,?_⟩) (by assumption) ?_
   rotate_left 1
   ·intro w hSw;(try dsimp only at hSw);go_simp;(try with_reducible rfl)
   try simp only[Act.put,List.setIfInBounds_toArray,List.set_cons_zero,List.set_cons_succ]
   refine wpAnyH_ready (rs:=[4]) (by kernel_rfl) (by simp) ?_
   refine AllReadyH.cons rfl (fun KK hKK=>?_) AllReadyH.nil
   go_simp
   go_at_call 82
   refine HP.out.mono ?_
   rintro e w1 ⟨rfl,hl1⟩
   have bX1:=hl1.row bX.drew hL hK hO
   have u1:=u0.drew.trans hl1.2
   have h1:=hl1.1
   (try go_wp2_with fail)
   refine hKK.out _ _ ?_ (fun hHeld=>?_)
   ·exact ⟨(in5_cells bX1).1,(in5_cells bX1).2.1,(in5_cells bX1).2.2.1,(in5_cells bX1).2.2.2.1,(in5_cells bX1).2.2.2.2,h1.row.cell 4⟩
   clear hKK KK
   try simp only[Act.put,List.setIfInBounds_toArray,List.set_cons_zero,List.set_cons_succ]
   refine wpAnyH_take (i:=5) (v:= ?_) rfl (by kernel_rfl) (by kernel_rfl) (by kernel_rfl) (fun _ _ _ h=>h) (Or.inl ⟨by kernel_rfl,?_⟩) (by assumption) ?_
   rotate_left 1
   ·intro w hSw;(try dsimp only at hSw);go_simp;(try with_reducible rfl)
   try simp only[Act.put,List.setIfInBounds_toArray,List.set_cons_zero,List.set_cons_succ]
   refine wpAnyH_take (i:=6) (v:= ?_) rfl (by kernel_rfl) (by kernel_rfl) (by kernel_rfl) (fun _ _ _ h=>h) (Or.inl ⟨by kernel_rfl,?_⟩) (by assumption) ?_
   rotate_left 1
   ·intro w hSw;(try dsimp only at hSw);go_simp;(try with_reducible rfl)
   try simp only[Act.put,List.setIfInBounds_toArray,List.set_cons_zero,List.set_cons_succ]
   refine wpAnyH_take (i:=7) (v:=undef) rfl (by kernel_rfl) (by kernel_rfl) (by kernel_rfl) (fun _ _ _ h=>h) (Or.inr ⟨by kernel_rfl,rfl⟩) (by assumption) ?_
   try simp only[Act.put,List.setIfInBounds_toArray,List.set_cons_zero,List.set_cons_succ]
   refine wpAnyH_take (i:=8) (v:=undef) rfl (by kernel_rfl) (by kernel_rfl) (by kernel_rfl) (fun _ _ _ h=>h) (Or.inr ⟨by kernel_rfl,rfl⟩) (by assumption) ?_
   try simp only[Act.put,List.setIfInBounds_toArray,List.set_cons_zero,List.set_cons_succ]
   refine wpAnyH_take (i:=9) (v:=undef) rfl (by kernel_rfl) (by kernel_rfl) (by kernel_rfl) (fun _ _ _ h=>h) (Or.inr ⟨by kernel_rfl,rfl⟩) (by assumption) ?_
   try simp only[Act.put,List.setIfInBounds_toArray,List.set_cons_zero,List.set_cons_succ]
   refine wpAnyH_take (i:=10) (v:= ?_) rfl (by kernel_rfl) (by kernel_rfl) (by kernel_rfl) (fun _ _ _ h=>h) (Or.inl ⟨by kernel_rfl,?_⟩) (by assumption) ?_
   rotate_left 1
   ·intro w hSw;(try dsimp only at hSw);go_simp;(try with_reducible rfl)
   try simp only[Act.put,List.setIfInBounds_toArray,List.set_cons_zero,List.set_cons_succ]
   refine wpAnyH_take (i:=11) (v:= ?_) rfl (by kernel_rfl) (by kernel_rfl) (by kernel_rfl) (fun _ _ _ h=>h) (Or.inl ⟨by kernel_rfl,?_⟩) (by assumption) ?_
   rotate_left 1
   ·intro w hSw;(try dsimp only at hSw);go_simp;(try with_reducible rfl)
   try simp only[Act.put,List.setIfInBounds_toArray,List.set_cons_zero,List.set_cons_succ]
   refine wpAnyH_take (i:=12) (v:=undef) rfl (by kernel_rfl) (by kernel_rfl) (by kernel_rfl) (fun _ _ _ h=>h) (Or.inr ⟨by kernel_rfl,rfl⟩) (by assumption) ?_
   try simp only[Act.put,List.setIfInBounds_toArray,List.set_cons_zero,List.set_cons_succ]
   refine wpAnyH_take (i:=13) (v:=undef) rfl (by kernel_rfl) (by kernel_rfl) (by kernel_rfl) (fun _ _ _ h=>h) (Or.inr ⟨by kernel_rfl,rfl⟩) (by assumption) ?_
   try simp only[Act.put,List.setIfInBounds_toArray,List.set_cons_zero,List.set_cons_succ]
   refine wpAnyH_take (i:=14) (v:=undef) rfl (by kernel_rfl) (by kernel_rfl) (by kernel_rfl) (fun _ _ _ h=>h) (Or.inr ⟨by kernel_rfl,rfl⟩) (by assumption) ?_
   try simp only[Act.put,List.setIfInBounds_toArray,List.set_cons_zero,List.set_cons_succ]
   refine wpAnyH_take (i:=15) (v:=undef) rfl (by kernel_rfl) (by kernel_rfl) (by kernel_rfl) (fun _ _ _ h=>h) (Or.inr ⟨by kernel_rfl,rfl⟩) (by assumption) ?_
   try simp only[Act.put,List.setIfInBounds_toArray,List.set_cons_zero,List.set_cons_succ]
   refine wpAnyH_take (i:=16) (v:=undef) rfl (by kernel_rfl) (by kernel_rfl) (by kernel_rfl) (fun _ _ _ h=>h) (Or.inr ⟨by kernel_rfl,rfl⟩) (by assumption) ?_
   try simp only[Act.put,List.setIfInBounds_toArray,List.set_cons_zero,List.set_cons_succ]
   refine wpAnyH_take (i:=17) (v:=undef) rfl (by kernel_rfl) (by kernel_rfl) (by kernel_rfl) (fun _ _ _ h=>h) (Or.inr ⟨by kernel_rfl,rfl⟩) (by assumption) ?_
   try simp only[Act.put,List.setIfInBounds_toArray,List.set_cons_zero,List.set_cons_succ]
   refine wpAnyH_take (i:=18) (v:=undef) rfl (by kernel_rfl) (by kernel_rfl) (by kernel_rfl) (fun _ _ _ h=>h) (Or.inr ⟨by kernel_rfl,rfl⟩) (by assumption) ?_
   try simp only[Act.put,List.setIfInBounds_toArray,List.set_cons_zero,List.set_cons_succ]
   refine wpAnyH_take (i:=19) (v:=undef) rfl (by kernel_rfl) (by kernel_rfl) (by kernel_rfl) (fun _ _ _ h=>h) (Or.inr ⟨by kernel_rfl,rfl⟩) (by assumption) ?_
   try simp only[Act.put,List.setIfInBounds_toArray,List.set_cons_zero,List.set_cons_succ]
   refine wpAnyH_take (i:=20) (v:=undef) rfl (by kernel_rfl) (by kernel_rfl) (by kernel_rfl) (fun _ _ _ h=>h) (Or.inr ⟨by kernel_rfl,rfl⟩) (by assumption) ?_
   try simp only[Act.put,List.setIfInBounds_toArray,List.set_cons_zero,List.set_cons_succ]
   refine wpAnyH_take (i:=21) (v:=undef) rfl (by kernel_rfl) (by kernel_rfl) (by kernel_rfl) (fun _ _ _ h=>h) (Or.inr ⟨by kernel_rfl,rfl⟩) (by assumption) ?_
   try simp only[Act.put,List.setIfInBounds_toArray,List.set_cons_zero,List.set_cons_succ]
   refine wpAnyH_take (i:=22) (v:=undef) rfl (by kernel_rfl) (by kernel_rfl) (by kernel_rfl) (fun _ _ _ h=>h) (Or.inr ⟨by kernel_rfl,rfl⟩) (by assumption) ?_
   try simp only[Act.put,List.setIfInBounds_toArray,List.set_cons_zero,List.set_cons_succ]
   refine wpAnyH_take (i:=23) (v:=undef) rfl (by kernel_rfl) (by kernel_rfl) (by kernel_rfl) (fun _ _ _ h=>h) (Or.inr ⟨by kernel_rfl,rfl⟩) (by assumption) ?_
   try simp only[Act.put,List.setIfInBounds_toArray,List.set_cons_zero,List.set_cons_succ]
   refine wpAnyH_take (i:=24) (v:= ?_) rfl (by kernel_rfl) (by kernel_rfl) (by kernel_rfl) (fun _ _ _ h=>h) (Or.inl ⟨by kernel_rfl,?_⟩) (by assumption) ?_
   rotate_left 1
   ·intro w hSw;(try dsimp only at hSw);go_simp;(try with_reducible rfl)
   try simp only[Act.put,List.setIfInBounds_toArray,List.set_cons_zero,List.set_cons_succ]
   refine wpAnyH_ready (rs:=[25]) (by kernel_rfl) (by simp) ?_
   refine AllReadyH.cons rfl (fun KK hKK=>?_) AllReadyH.nil
   go_simp
   go_at_call 81
   refine (need_any _ h1).mono ?_
   rintro e w2 ⟨rfl,hl2⟩
   have bX2:=hl2.row bX1 hL hK hO
   have h2:=hl2.1
   (try go_wp2_with fail)
   refine hKK.out _ _ ?_ (fun hHeld=>?_)
   ·exact ⟨(in5_cells bX2).1,(in5_cells bX2).2.1,(in5_cells bX2).2.2.1,(in5_cells bX2).2.2.2.1,(in5_cells bX2).2.2.2.2,h2.row.cell 4⟩
   clear hKK KK
   try simp only[Act.put,List.setIfInBounds_toArray,List.set_cons_zero,List.set_cons_succ]
   refine wpAnyH_done (by kernel_rfl) ?_ _
   all_goals
    go_wp2_with fail
    go_meet
    exact ⟨_,rfl,h2,bX2,u1.trans hl2.2⟩
 case rest=>
  obtain ⟨s2,HS2,h2,bX2,u2⟩:=hcut
  rw[←HS2.out] at HR
  have HR2:Hid (s.instr p i x={s2 with past:=max s2.past (i+1+min x.k p.code.length)}):=HR.out
  clear HR HS2 l4 l7 x0 x1 x2 x3 x4 bX u0 h0
  obtain ⟨x0,x1,x2,x3,x4⟩:=in5_cells bX2
  have l4:=h2.row.cell 4
  have l7:=h2.row.cell 7
  have lf:=h2.row.frozen 7
  simp only[List.getElem?_toArray,List.getElem?_cons_zero,List.getElem?_cons_succ] at l4 l7
  have hp0:=h2.past0
  have hp1:=h2.past1
  go_wp2_with fail
  have HS:Hid (∀V:Int,V=max s2.past (i+1+min x.k p.code.length)→Left w B L K O p vi vo vc (.slice Ad p.code.length cd) (s.instr p i x) (wc.setCell ⟨L,7,none⟩ (.int .i64 V)).drew):=fun V hV=>by
   subst hV
   rw[HR2.out]
   exact ⟨(h2.setPast _ (by omega) (by omega)).drew,(u2.setCell (.inl rfl) _).drew⟩
  go_region
  all_goals go_wp2_with fail
  all_goals
   go_end0
   exact ⟨rfl,HS.out _ (by omega)⟩
end Go.Proofs.YtbjaejgechadpaaGreat
namespace Go.Proofs.YtbjaejgechadpaaGreat
open Go.RowKit
theorem mask_small (a:Nat) (ha:a≤100000):bits .and .u64 (a:Int) 4294967295=(a:Int):=by
 have h:=bits_and_u64_nat a 4294967295 (by omega) (by omega)
 have e:a &&& 4294967295=a:=by rw[show (4294967295:Nat)=2 ^ 32-1 by rfl,Nat.and_two_pow_sub_one_eq_mod];exact Nat.mod_eq_of_lt (by omega)
 rw[e] at h
 exact h
theorem mask_one:bits .and .u64 1 4294967295=1:=by decide
theorem mask_zero:bits .and .u64 0 4294967295=0:=by decide
set_option maxHeartbeats 1000000 in
theorem mul64_one (y:Nat) (hy:y≤100000) (w:World):
  Calls Tryz.prog 112 #[.int .u64 1,.int .u64 y] w fun e w'=>e= .returned (.tuple #[.int .u64 0,.int .u64 y])∧w=w':=by
 have k1:=mask_small y hy
 have k2:=mask_one
 have k3:=mask_zero
 have hd:(y:Int)/4294967296=0:=by omega
 go_enter Tryz.func112,Tryz.ntmps112
 go_wp2
 go_ret2
 exact ⟨rfl,rfl⟩
set_option maxHeartbeats 1000000 in
theorem mul_one (y:Nat) (hy:y≤100000) (w:World):
  Calls Tryz.prog 107 #[.int .u64 1,.int .u64 y] w fun e w'=>e= .returned (.tuple #[.int .u64 0,.int .u64 y])∧w=w':=by
 go_enter Tryz.func107,Tryz.ntmps107
 go_wp2_with (go_at_call 112;refine (mul64_one _ hy _).mono ?_;rintro e w' ⟨rfl,rfl⟩)
 go_ret2
 exact ⟨rfl,rfl⟩
end Go.Proofs.YtbjaejgechadpaaGreat
