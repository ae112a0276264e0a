/-
  The looker in memory: the contracts of its small methods. More methods of the looker: one, cell, reckons. The looker looks at an instruction, op by op (those of one way). The looker looks at an instruction, op by op (those that draw their order). The looker looks at an instruction, op by op (more that draw their order). The looker looks at an instruction, op by op (what comes out).
-/
import Derived.Test.YtbjaejgechadpaaGreatPgA
import Derived.Test.YtbjaejgechadpaaGreatArZ
import Derived.Deep.RegionHeld3
namespace Go.Proofs.YtbjaejgechadpaaGreat
open Go.RowKit Vf
structure Lk (w:World) (B L K O:Nat) (p:Pg) (vi vo vc vd:Value) (s:LS):Prop where
 pg:PgAt w B p vi vo vc vd
 row:Row w L #[vi,vo,.int .i64 p.regs,vc,vd,.slice (some ⟨K,0,none⟩) s.kinds.length s.kinds.length,.slice (some ⟨O,0,none⟩) s.outs.length s.outs.length,.int .i64 s.past,.bool s.bad] 76
 kinds:Row w K (s.kinds.map (Value.int .i64)).toArray 3
 outs:Row w O (s.outs.map Value.bool).toArray 4
 bL:B≤L
 bK:B≤K
 bO:B≤O
 LK:L≠K
 LO:L≠O
 KO:K≠O
 klen:s.kinds.length≤1600
 olen:s.outs.length≤1600
 past0:0≤s.past
 past1:s.past≤1000000
abbrev lkX (L K O:Nat) (k:Nat):Prop:=k=L∨k=K∨k=O
section
variable {w w':World} {B L K O:Nat} {p:Pg} {vi vo vc vd:Value} {s:LS}
theorem Lk.below' (h:Lk w B L K O p vi vo vc vd s) (hb:Below w.heap.size w w') (hB:B≤w.heap.size):Lk w' B L K O p vi vo vc vd s:=
 ⟨h.pg.below (hb.mono hB),h.row.below hb h.row.lt,h.kinds.below hb h.kinds.lt,h.outs.below hb h.outs.lt,h.bL,h.bK,h.bO,h.LK,h.LO,h.KO,h.klen,h.olen,h.past0,h.past1⟩
theorem Lk.size (h:Lk w B L K O p vi vo vc vd s):B≤w.heap.size:=Nat.le_trans h.bL (Nat.le_of_lt h.row.lt)
theorem Lk.below (h:Lk w B L K O p vi vo vc vd s) (hb:Below w.heap.size w w'):Lk w' B L K O p vi vo vc vd s:=h.below' hb h.size
theorem Lk.alloc (h:Lk w B L K O p vi vo vc vd s) (o:Obj):Lk (w.alloc o) B L K O p vi vo vc vd s:=h.below ((Below.refl _ _).alloc (Nat.le_refl _) _)
theorem Lk.drew (h:Lk w B L K O p vi vo vc vd s):Lk w.drew B L K O p vi vo vc vd s:=h.below ((Below.refl _ _).drew)
theorem Lk.setBad (h:Lk w B L K O p vi vo vc vd s) (c:Bool):Lk (w.setCell ⟨L,8,none⟩ (.bool c)) B L K O p vi vo vc vd {s with bad:=c}:=
 ⟨h.pg.below ((Below.refl _ _).setCell h.bL _),h.row.set 8 _,h.kinds.far (Ne.symm h.LK) _,h.outs.far (Ne.symm h.LO) _,h.bL,h.bK,h.bO,h.LK,h.LO,h.KO,h.klen,h.olen,h.past0,h.past1⟩
theorem Lk.setPast (h:Lk w B L K O p vi vo vc vd s) (n:Int) (h0:0≤n) (h1:n≤1000000):Lk (w.setCell ⟨L,7,none⟩ (.int .i64 n)) B L K O p vi vo vc vd {s with past:=n}:=
 ⟨h.pg.below ((Below.refl _ _).setCell h.bL _),h.row.set 7 _,h.kinds.far (Ne.symm h.LK) _,h.outs.far (Ne.symm h.LO) _,h.bL,h.bK,h.bO,h.LK,h.LO,h.KO,h.klen,h.olen,h0,h1⟩
theorem map_set {α β:Type} (f:α→β) (l:List α) (i:Nat) (x:α):(l.map f).toArray.setIfInBounds i (f x)=((l.set i x).map f).toArray:=by simp[List.map_set]
theorem Lk.setKind (h:Lk w B L K O p vi vo vc vd s) (n:Nat) (kind:Int):Lk (w.setCell ⟨K,n,none⟩ (.int .i64 kind)) B L K O p vi vo vc vd {s with kinds:=s.kinds.set n kind}:=by
 refine ⟨h.pg.below ((Below.refl _ _).setCell h.bK _),?_,?_,h.outs.far (Ne.symm h.KO) _,h.bL,h.bK,h.bO,h.LK,h.LO,h.KO,by simpa using h.klen,h.olen,h.past0,h.past1⟩
 ·have:=h.row.far (p:=⟨K,n,none⟩) h.LK (.int .i64 kind)
  simpa using this
 ·have:=h.kinds.set n (.int .i64 kind)
  rw[map_set] at this
  exact this
theorem Lk.setOut (h:Lk w B L K O p vi vo vc vd s) (n:Nat) (b:Bool):Lk (w.setCell ⟨O,n,none⟩ (.bool b)) B L K O p vi vo vc vd {s with outs:=s.outs.set n b}:=by
 refine ⟨h.pg.below ((Below.refl _ _).setCell h.bO _),?_,h.kinds.far h.KO _,?_,h.bL,h.bK,h.bO,h.LK,h.LO,h.KO,h.klen,by simpa using h.olen,h.past0,h.past1⟩
 ·have:=h.row.far (p:=⟨O,n,none⟩) h.LO (.bool b)
  simpa using this
 ·have:=h.outs.set n (.bool b)
  rw[map_set] at this
  exact this
end
def Left (w:World) (B L K O:Nat) (p:Pg) (vi vo vc vd:Value) (s:LS) (w':World):Prop:=Lk w' B L K O p vi vo vc vd s∧Upd (lkX L K O) w w'
theorem need_any {w:World} {B L K O:Nat} {p:Pg} {vi vo vc vd:Value} {s:LS} (b:Bool) (h:Lk w B L K O p vi vo vc vd s):
  Calls Tryz.prog 81 #[.pointer (some ⟨L,0,none⟩),.bool b] w fun e w'=>e= .returned (.tuple #[])∧Left w B L K O p vi vo vc vd (s.need b) w':=by
 have l0:=h.row.cell 0
 have l1:=h.row.cell 1
 have l2:=h.row.cell 2
 have l3:=h.row.cell 3
 have l4:=h.row.cell 4
 have l5:=h.row.cell 5
 have l6:=h.row.cell 6
 have l7:=h.row.cell 7
 have l8:=h.row.cell 8
 have lf:=h.row.frozen 8
 simp only[List.getElem?_toArray,List.getElem?_cons_zero,List.getElem?_cons_succ] at l0 l1 l2 l3 l4 l5 l6 l7 l8
 have hS:=h.setBad (s.bad|| !b)
 have hU:Upd (lkX L K O) w (w.setCell ⟨L,8,none⟩ (.bool (s.bad|| !b))):=(Upd.refl _ _).setCell (.inl rfl) _
 have HS:Hid (Left w B L K O p vi vo vc vd (s.need b) (w.setCell ⟨L,8,none⟩ (.bool (s.bad|| !b)))):=⟨hS,hU⟩
 clear hS hU h
 generalize s.bad=c at*
 cases c
 all_goals
  go_enter Tryz.func81,Tryz.ntmps81
  go_wp2_with fail
  go_end0
  exact ⟨rfl,HS.out⟩
theorem kind_cell {w:World} {K:Nat} {l:List Int} {t:TypeId} (h:Row w K (l.map (Value.int .i64)).toArray t) {n:Nat} (hn:n<l.length):w.cell? ⟨K,n,none⟩=some (.int .i64 (getI l n)):=by
 rw[h.cell,List.getElem?_toArray,List.getElem?_map,List.getElem?_eq_getElem hn]
 unfold getI
 rw[List.getD_eq_getElem?_getD,Int.toNat_natCast,List.getElem?_eq_getElem hn]
 rfl
set_option maxHeartbeats 1000000 in
theorem takes_any {w:World} {B L K O:Nat} {p:Pg} {vi vo vc vd:Value} {s:LS} (n:Int) (h:Lk w B L K O p vi vo vc vd s):
  Calls Tryz.prog 82 #[.pointer (some ⟨L,0,none⟩),.int .i64 n] w fun e w'=>e= .returned (.int .i64 (s.takes n).1)∧Left w B L K O p vi vo vc vd (s.takes n).2 w':=by
 have l0:=h.row.cell 0
 have l1:=h.row.cell 1
 have l2:=h.row.cell 2
 have l3:=h.row.cell 3
 have l4:=h.row.cell 4
 have l5:=h.row.cell 5
 have l6:=h.row.cell 6
 have l7:=h.row.cell 7
 have l8:=h.row.cell 8
 have lf:=h.row.frozen 8
 simp only[List.getElem?_toArray,List.getElem?_cons_zero,List.getElem?_cons_succ] at l0 l1 l2 l3 l4 l5 l6 l7 l8
 have hkl:=h.klen
 have HNo:Hid (Left w B L K O p vi vo vc vd s.no (w.setCell ⟨L,8,none⟩ (.bool true))):=⟨h.setBad true,(Upd.refl _ _).setCell (.inl rfl) _⟩
 have HYes:Hid (Left w B L K O p vi vo vc vd s w):=⟨h,Upd.refl _ _⟩
 by_cases hn:n<0
 ·have HT:=Lib.hid (show s.takes n=(0,s.no) by unfold LS.takes;rw[if_neg (fun h=>by have:=h.1.1;omega)])
  clear h
  go_enter Tryz.func82,Tryz.ntmps82
  go_wp2_with fail
  go_ret
  exact ⟨ret_i64 (by rw[HT.out]),by rw[HT.out];exact HNo.out⟩
 ·obtain ⟨n,rfl⟩:=Int.eq_ofNat_of_zero_le (by omega:0≤n)
  by_cases hl:n<s.kinds.length
  ·have hc:=kind_cell h.kinds hl
   have hh:has s.kinds (n:Int):=⟨by omega,by omega⟩
   generalize hG:getI s.kinds (n:Int)=G at*
   by_cases h0:G=0
   ·have h0':(G==0)=true:=by simp[h0]
    have HT:=Lib.hid (show s.takes n=(0,s.no) by unfold LS.takes;rw[if_neg (fun h=>h.2 (hG.trans h0))])
    clear h h0 hh hG
    go_enter Tryz.func82,Tryz.ntmps82
    go_wp2_with fail
    go_ret
    exact ⟨ret_i64 (by rw[HT.out]),by rw[HT.out];exact HNo.out⟩
   ·have h0':(G==0)=false:=by simp[h0]
    have HT:=Lib.hid (show s.takes n=(G,s) by unfold LS.takes;rw[hG,if_pos ⟨hh,h0⟩])
    clear h h0 hh hG
    go_enter Tryz.func82,Tryz.ntmps82
    go_wp2_with fail
    go_ret
    exact ⟨ret_i64 (by rw[HT.out]),by rw[HT.out];exact HYes.out⟩
  ·have HT:=Lib.hid (show s.takes n=(0,s.no) by unfold LS.takes;rw[if_neg (fun h=>by have:=h.1.2;omega)])
   clear h
   go_enter Tryz.func82,Tryz.ntmps82
   go_wp2_with fail
   go_ret
   exact ⟨ret_i64 (by rw[HT.out]),by rw[HT.out];exact HNo.out⟩
set_option maxHeartbeats 1000000 in
theorem gives_any {w:World} {B L K O:Nat} {p:Pg} {vi vo vc vd:Value} {s:LS} (n kind:Int) (h:Lk w B L K O p vi vo vc vd s):
  Calls Tryz.prog 80 #[.pointer (some ⟨L,0,none⟩),.int .i64 n,.int .i64 kind] w fun e w'=>e= .returned (.tuple #[])∧Left w B L K O p vi vo vc vd (s.gives n kind) w':=by
 have l0:=h.row.cell 0
 have l1:=h.row.cell 1
 have l2:=h.row.cell 2
 have l3:=h.row.cell 3
 have l4:=h.row.cell 4
 have l5:=h.row.cell 5
 have l6:=h.row.cell 6
 have l7:=h.row.cell 7
 have l8:=h.row.cell 8
 have lf:=h.row.frozen 8
 simp only[List.getElem?_toArray,List.getElem?_cons_zero,List.getElem?_cons_succ] at l0 l1 l2 l3 l4 l5 l6 l7 l8
 have hkl:=h.klen
 have HNo:Hid (Left w B L K O p vi vo vc vd s.no (w.setCell ⟨L,8,none⟩ (.bool true))):=⟨h.setBad true,(Upd.refl _ _).setCell (.inl rfl) _⟩
 by_cases hn:n<0
 ·have HT:=Lib.hid (show s.gives n kind=s.no by unfold LS.gives;rw[if_neg (fun h=>by have:=h.1.1;omega)])
  clear h
  go_enter Tryz.func80,Tryz.ntmps80
  go_wp2_with fail
  refine bodyPost_ret (results_none rfl _ _ _) rfl ?_
  exact ⟨rfl,by rw[HT.out];exact HNo.out⟩
 ·obtain ⟨n,rfl⟩:=Int.eq_ofNat_of_zero_le (by omega:0≤n)
  by_cases hl:n<s.kinds.length
  ·have hc:=kind_cell h.kinds hl
   have hf:=h.kinds.frozen n
   have hh:has s.kinds (n:Int):=⟨by omega,by omega⟩
   have HSet:Hid (Left w B L K O p vi vo vc vd {s with kinds:=s.kinds.set n kind} (w.setCell ⟨K,n,none⟩ (.int .i64 kind))):=⟨h.setKind n kind,(Upd.refl _ _).setCell (.inr (.inl rfl)) _⟩
   generalize hG:getI s.kinds (n:Int)=G at*
   by_cases h0:G=0
   ·have h0':(G !=0)=false:=by simp[h0]
    have HT:=Lib.hid (show s.gives n kind={s with kinds:=s.kinds.set n kind} by unfold LS.gives;rw[if_pos ⟨hh,hG.trans h0⟩,Int.toNat_natCast])
    clear h h0 hh hG
    go_enter Tryz.func80,Tryz.ntmps80
    go_wp2_with fail
    go_end0
    exact ⟨rfl,by rw[HT.out];exact HSet.out⟩
   ·have h0':(G !=0)=true:=by simp[h0]
    have HT:=Lib.hid (show s.gives n kind=s.no by unfold LS.gives;rw[if_neg (fun h=>h0 (hG.symm.trans h.2))])
    clear h h0 hh hG
    go_enter Tryz.func80,Tryz.ntmps80
    go_wp2_with fail
    refine bodyPost_ret (results_none rfl _ _ _) rfl ?_
    exact ⟨rfl,by rw[HT.out];exact HNo.out⟩
  ·have HT:=Lib.hid (show s.gives n kind=s.no by unfold LS.gives;rw[if_neg (fun h=>by have:=h.1.2;omega)])
   clear h
   go_enter Tryz.func80,Tryz.ntmps80
   go_wp2_with fail
   refine bodyPost_ret (results_none rfl _ _ _) rfl ?_
   exact ⟨rfl,by rw[HT.out];exact HNo.out⟩
end Go.Proofs.YtbjaejgechadpaaGreat
namespace Go.Proofs.YtbjaejgechadpaaGreat
open Go.RowKit Vf
theorem getI_at {l:List Int} {n:Nat} {x:Int} (h:l[n]? =some x):getI l n=x:=by
 unfold getI
 rw[List.getD_eq_getElem?_getD,Int.toNat_natCast,h];rfl
theorem types_at {l:List (Int × Int)} {n:Nat} {x:Int × Int} (h:l[n]? =some x):(types l)[n]? =some x.1:=by
 unfold types;rw[List.getElem?_map,h];rfl
set_option maxHeartbeats 1000000 in
theorem one_any {w:World} {B L K O:Nat} {p:Pg} {vi vo vc vd:Value} {s:LS} (l:List Int) (v:Value) (n:Int) (h:Lk w B L K O p vi vo vc vd s) (hl:SlV w B 1 isInt v l):
  Calls Tryz.prog 84 #[.pointer (some ⟨L,0,none⟩),v,.int .i64 n] w fun e w'=>e= .returned (.int .i64 (s.one l n).1)∧Left w B L K O p vi vo vc vd (s.one l n).2 w':=by
 obtain ⟨A,cap,rfl,hcap,hmax,hs⟩:=hl
 have l0:=h.row.cell 0
 have l1:=h.row.cell 1
 have l2:=h.row.cell 2
 have l3:=h.row.cell 3
 have l4:=h.row.cell 4
 have l5:=h.row.cell 5
 have l6:=h.row.cell 6
 have l7:=h.row.cell 7
 have l8:=h.row.cell 8
 have lf:=h.row.frozen 8
 simp only[List.getElem?_toArray,List.getElem?_cons_zero,List.getElem?_cons_succ] at l0 l1 l2 l3 l4 l5 l6 l7 l8
 unfold maxLen at hmax
 have HNo:Hid (Left w B L K O p vi vo vc vd s.no (w.setCell ⟨L,8,none⟩ (.bool true))):=⟨h.setBad true,(Upd.refl _ _).setCell (.inl rfl) _⟩
 have HYes:Hid (Left w B L K O p vi vo vc vd s w):=⟨h,Upd.refl _ _⟩
 by_cases hn:n<0
 ·have HT:=Lib.hid (show s.one l n=(0,s.no) by unfold LS.one;rw[if_neg (fun h=>by have:=h.1;omega)])
  clear h
  go_enter Tryz.func84,Tryz.ntmps84
  go_wp2_with fail
  go_ret
  exact ⟨ret_i64 (by rw[HT.out]),by rw[HT.out];exact HNo.out⟩
 ·obtain ⟨n,rfl⟩:=Int.eq_ofNat_of_zero_le (by omega:0≤n)
  by_cases hl:n<l.length
  ·obtain ⟨b,off,x,rfl,hb,hx,hwf,hc⟩:=hs.int hl
   have HT:=Lib.hid (show s.one l n=(x,s) by unfold LS.one;rw[if_pos ⟨by omega,by omega⟩,getI_at hx])
   clear h hx
   go_enter Tryz.func84,Tryz.ntmps84
   go_wp2_with fail
   go_ret
   exact ⟨ret_i64 (by rw[HT.out]),by rw[HT.out];exact HYes.out⟩
  ·have HT:=Lib.hid (show s.one l n=(0,s.no) by unfold LS.one;rw[if_neg (fun h=>by have:=h.2;omega)])
   clear h
   go_enter Tryz.func84,Tryz.ntmps84
   go_wp2_with fail
   go_ret
   exact ⟨ret_i64 (by rw[HT.out]),by rw[HT.out];exact HNo.out⟩
set_option maxHeartbeats 1000000 in
theorem cell_any {w:World} {B L K O:Nat} {p:Pg} {vi vo vc vd:Value} {s:LS} (n:Int) (h:Lk w B L K O p vi vo vc vd s):
  Calls Tryz.prog 83 #[.pointer (some ⟨L,0,none⟩),.int .i64 n] w fun e w'=>e= .returned (.int .i64 (s.one (types p.cells) n).1)∧Left w B L K O p vi vo vc vd (s.one (types p.cells) n).2 w':=by
 obtain ⟨A,cap,rfl,hcap,hmax,hs⟩:=h.pg.cells
 have l0:=h.row.cell 0
 have l1:=h.row.cell 1
 have l2:=h.row.cell 2
 have l3:=h.row.cell 3
 have l4:=h.row.cell 4
 have l5:=h.row.cell 5
 have l6:=h.row.cell 6
 have l7:=h.row.cell 7
 have l8:=h.row.cell 8
 have lf:=h.row.frozen 8
 simp only[List.getElem?_toArray,List.getElem?_cons_zero,List.getElem?_cons_succ] at l0 l1 l2 l3 l4 l5 l6 l7 l8
 unfold maxLen at hmax
 have hlen:(types p.cells).length=p.cells.length:=by simp[types]
 have HNo:Hid (Left w B L K O p vi vo (.slice A p.cells.length cap) vd s.no (w.setCell ⟨L,8,none⟩ (.bool true))):=⟨h.setBad true,(Upd.refl _ _).setCell (.inl rfl) _⟩
 have HYes:Hid (Left w B L K O p vi vo (.slice A p.cells.length cap) vd s w):=⟨h,Upd.refl _ _⟩
 by_cases hn:n<0
 ·have HT:=Lib.hid (show s.one (types p.cells) n=(0,s.no) by unfold LS.one;rw[if_neg (fun h=>by have:=h.1;omega)])
  clear h hlen
  go_enter Tryz.func83,Tryz.ntmps83
  go_wp2_with fail
  go_ret
  exact ⟨ret_i64 (by rw[HT.out]),by rw[HT.out];exact HNo.out⟩
 ·obtain ⟨n,rfl⟩:=Int.eq_ofNat_of_zero_le (by omega:0≤n)
  by_cases hl:n<p.cells.length
  ·obtain ⟨b,off,x,rfl,hb,hx,hwf,hwf2,hc,hc2⟩:=hs.cell hl
   have HT:=Lib.hid (show s.one (types p.cells) n=(x.1,s) by unfold LS.one;rw[if_pos ⟨by omega,by omega⟩,getI_at (types_at hx)])
   clear h hx hlen
   go_enter Tryz.func83,Tryz.ntmps83
   go_wp2_with fail
   go_ret
   exact ⟨ret_i64 (by rw[HT.out]),by rw[HT.out];exact HYes.out⟩
  ·have HT:=Lib.hid (show s.one (types p.cells) n=(0,s.no) by unfold LS.one;rw[if_neg (fun h=>by have:=h.2;omega)])
   clear h hlen
   go_enter Tryz.func83,Tryz.ntmps83
   go_wp2_with fail
   go_ret
   exact ⟨ret_i64 (by rw[HT.out]),by rw[HT.out];exact HNo.out⟩
theorem Left.row {w w':World} {B L K O:Nat} {p:Pg} {vi vo vc vd:Value} {s:LS} (h:Left w B L K O p vi vo vc vd s w') {b:Nat} {cs:Array Value} {t:TypeId} (hr:Row w b cs t) (hL:b≠L) (hK:b≠K) (hO:b≠O):Row w' b cs t:=
 h.2.row hr (by rintro (h|h|h)<;>contradiction)
theorem in5_cells {W:World} {b:Nat} {x:In5} {t:TypeId} (h:Row W b #[.int .i64 x.op,.int .i64 x.a,.int .i64 x.b,.int .i64 x.c,.int .i64 x.k] t):W.cell? ⟨b,0,none⟩=some (.int .i64 x.op)∧W.cell? ⟨b,1,none⟩=some (.int .i64 x.a)∧W.cell? ⟨b,2,none⟩=some (.int .i64 x.b)∧W.cell? ⟨b,3,none⟩=some (.int .i64 x.c)∧W.cell? ⟨b,4,none⟩=some (.int .i64 x.k):=
 ⟨h.cell 0,h.cell 1,h.cell 2,h.cell 3,h.cell 4⟩
set_option maxHeartbeats 2000000 in
theorem reckons_any {w:World} {B L K O:Nat} {p:Pg} {vi vo vc vd:Value} {s:LS} (x:In5) (i o:Int) (h:Lk w B L K O p vi vo vc vd s):
  Calls Tryz.prog 79 #[.pointer (some ⟨L,0,none⟩),in5V x,.int .i64 i,.int .i64 o] w fun e w'=>e= .returned (.tuple #[])∧Left w B L K O p vi vo vc vd (s.reckons x i o) w':=by
 have hL:w.heap.size≠L:=by have:=h.row.lt;omega
 have hK:w.heap.size≠K:=by have:=h.kinds.lt;omega
 have hO:w.heap.size≠O:=by have:=h.outs.lt;omega
 have bX:=Row.new w #[.int .i64 x.op,.int .i64 x.a,.int .i64 x.b,.int .i64 x.c,.int .i64 x.k] 58
 have h0:=h.alloc (.cells #[.int .i64 x.op,.int .i64 x.a,.int .i64 x.b,.int .i64 x.c,.int .i64 x.k] 58)
 have u0:Upd (lkX L K O) w (w.alloc (.cells #[.int .i64 x.op,.int .i64 x.a,.int .i64 x.b,.int .i64 x.c,.int .i64 x.k] 58)):=(Upd.refl _ _).alloc _
 go_enter Tryz.func79,Tryz.ntmps79
 go_wp2_with fail
 refine (takes_any x.b h0).mono ?_
 rintro e w1 ⟨rfl,hl1⟩
 have bX1:=hl1.row bX hL hK hO
 have u1:=u0.trans hl1.2
 have h1:=hl1.1
 clear hl1 bX u0 h0 h
 obtain ⟨x0,x1,x2,x3,x4⟩:=in5_cells bX1
 have HR:=Lib.hid (show s.reckons x i o=((if x.op≠5∧x.op≠6 then (((s.takes x.b).2.need (i==0||(s.takes x.b).1==i)).takes x.c).2.need ((((s.takes x.b).2.need (i==0||(s.takes x.b).1==i)).takes x.c).1==(s.takes x.b).1) else (s.takes x.b).2.need (i==0||(s.takes x.b).1==i))).gives x.a o from rfl)
 generalize (s.takes x.b).2=s1 at*
 generalize (s.takes x.b).1=kind at*
 have HP:Hid (∀b:Bool,Calls Tryz.prog 81 #[.pointer (some ⟨L,0,none⟩),.bool b] w1 fun e w'=>e= .returned (.tuple #[])∧Left w1 B L K O p vi vo vc vd (s1.need b) w'):=fun b=>need_any b h1
 cases hi:(i==0)
 all_goals
  go_wp2_with fail
  refine (HP.out _).mono ?_
  rintro e w2 ⟨rfl,hl2⟩
  have bX2:=hl2.row bX1 hL hK hO
  have u2:=u1.trans hl2.2
  have h2:=hl2.1
  rw[hi] at HR
  clear hl2 bX1 u1 h1 x0 x1 x2 x3 x4 HP
  obtain ⟨x0,x1,x2,x3,x4⟩:=in5_cells bX2
  simp only[Bool.false_or,Bool.true_or] at HR h2
  (first|generalize hs2:s1.need (kind==i)=s2 at* |generalize hs2:s1.need true=s2 at*)
  clear hs2
  by_cases h56:x.op≠5∧x.op≠6
  ·have k5:(x.op !=5)=true:=by simp[h56.1]
   have k6:(x.op !=6)=true:=by simp[h56.2]
   rw[if_pos h56] at HR
   clear h56
   go_wp2_with fail
   refine (takes_any x.c h2).mono ?_
   rintro e w3 ⟨rfl,hl3⟩
   have bX3:=hl3.row bX2 hL hK hO
   have u3:=u2.trans hl3.2
   have h3:=hl3.1
   clear hl3 bX2 u2 h2 x0 x1 x2 x3 x4
   generalize (s2.takes x.c).2=s3 at*
   generalize (s2.takes x.c).1=kc at*
   go_wp2_with fail
   refine (need_any _ h3).mono ?_
   rintro e w4 ⟨rfl,hl4⟩
   have bX4:=hl4.row bX3 hL hK hO
   have u4:=u3.trans hl4.2
   have h4:=hl4.1
   clear hl4 bX3 u3 h3
   obtain ⟨x0,x1,x2,x3,x4⟩:=in5_cells bX4
   go_wp2_with fail
   refine (gives_any x.a o h4).mono ?_
   rintro e w5 ⟨rfl,hl5⟩
   go_wp2_with fail
   go_end0
   exact ⟨rfl,by rw[HR.out];exact hl5.1,u4.trans hl5.2⟩
  ·rw[if_neg h56] at HR
   have k56:(x.op !=5)=false∨((x.op !=5)=true∧(x.op !=6)=false):=by simp only[bne_iff_ne,bne_eq_false_iff_eq,ne_eq];omega
   clear h56
   rcases k56 with k5|⟨k5,k6⟩
   all_goals
    go_wp2_with fail
    refine (gives_any x.a o h2).mono ?_
    rintro e w5 ⟨rfl,hl5⟩
    go_wp2_with fail
    go_end0
    exact ⟨rfl,by rw[HR.out];exact hl5.1,u2.trans hl5.2⟩
end Go.Proofs.YtbjaejgechadpaaGreat
namespace Go.Proofs.YtbjaejgechadpaaGreat
open Go.RowKit Vf
set_option maxRecDepth 100000 in
set_option maxHeartbeats 4000000 in
theorem instr_1 {w:World} {B L K O:Nat} {p:Pg} {vi vo vc vd:Value} {s:LS} (i:Int) (x:In5) (h:Lk w B L K O p vi vo vc vd s) (hop:x.op=1):
  Calls Tryz.prog 59 #[.pointer (some ⟨L,0,none⟩),.int .i64 i,in5V x] w fun e w'=>e= .returned (.tuple #[])∧Left w B L K O p vi vo vc vd (s.instr p i x) w':=by
 have hL:w.heap.size≠L:=by have:=h.row.lt;omega
 have hK:w.heap.size≠K:=by have:=h.kinds.lt;omega
 have hO:w.heap.size≠O:=by have:=h.outs.lt;omega
 have bX:=Row.new w #[.int .i64 x.op,.int .i64 x.a,.int .i64 x.b,.int .i64 x.c,.int .i64 x.k] 58
 have h0:=h.alloc (.cells #[.int .i64 x.op,.int .i64 x.a,.int .i64 x.b,.int .i64 x.c,.int .i64 x.k] 58)
 have u0:Upd (lkX L K O) w (w.alloc (.cells #[.int .i64 x.op,.int .i64 x.a,.int .i64 x.b,.int .i64 x.c,.int .i64 x.k] 58)):=(Upd.refl _ _).alloc _
 have hX:w.heap.size<(w.alloc (.cells #[.int .i64 x.op,.int .i64 x.a,.int .i64 x.b,.int .i64 x.c,.int .i64 x.k] 58)).heap.size:=by simp
 have sg:Ar.signB x.op=false:=by simp[Ar.signB];omega
 have o1:(x.op==1)=true:=by rw[beq_iff_eq];omega
 have HR:=Lib.hid (show s.instr p i x=s.gives x.a 1 by unfold LS.instr;rw[if_neg (by omega:¬(5≤x.op∧x.op≤20)),if_pos hop])
 clear h hop
 go_enter Tryz.func59,Tryz.ntmps59
 go_wp2_with fail
 refine (Ar.sign_any x.op _).mono ?_
 rintro e w' ⟨rfl,rfl⟩
 rw[sg]
 generalize Ar.signIn x.op=si at*
 generalize Ar.signOut x.op=so at*
 clear sg
 go_wp2_with fail
 refine (gives_any x.a 1 h0).mono ?_
 rintro e w1 ⟨rfl,hl1⟩
 go_wp2_with fail
 go_end0
 exact ⟨rfl,by rw[HR.out];exact hl1.1,u0.trans hl1.2⟩
set_option maxRecDepth 100000 in
set_option maxHeartbeats 4000000 in
theorem instr_2 {w:World} {B L K O:Nat} {p:Pg} {vi vo vc vd:Value} {s:LS} (i:Int) (x:In5) (h:Lk w B L K O p vi vo vc vd s) (hop:x.op=2):
  Calls Tryz.prog 59 #[.pointer (some ⟨L,0,none⟩),.int .i64 i,in5V x] w fun e w'=>e= .returned (.tuple #[])∧Left w B L K O p vi vo vc vd (s.instr p i x) w':=by
 have hL:w.heap.size≠L:=by have:=h.row.lt;omega
 have hK:w.heap.size≠K:=by have:=h.kinds.lt;omega
 have hO:w.heap.size≠O:=by have:=h.outs.lt;omega
 have bX:=Row.new w #[.int .i64 x.op,.int .i64 x.a,.int .i64 x.b,.int .i64 x.c,.int .i64 x.k] 58
 have h0:=h.alloc (.cells #[.int .i64 x.op,.int .i64 x.a,.int .i64 x.b,.int .i64 x.c,.int .i64 x.k] 58)
 have u0:Upd (lkX L K O) w (w.alloc (.cells #[.int .i64 x.op,.int .i64 x.a,.int .i64 x.b,.int .i64 x.c,.int .i64 x.k] 58)):=(Upd.refl _ _).alloc _
 have hX:w.heap.size<(w.alloc (.cells #[.int .i64 x.op,.int .i64 x.a,.int .i64 x.b,.int .i64 x.c,.int .i64 x.k] 58)).heap.size:=by simp
 have sg:Ar.signB x.op=false:=by simp[Ar.signB];omega
 have o1:(x.op==1)=false:=by rw[beq_eq_false_iff_ne];omega
 have o2:(x.op==2)=true:=by rw[beq_iff_eq];omega
 have HR:=Lib.hid (show s.instr p i x=(s.need (x.k==0||x.k==1)).gives x.a 2 by unfold LS.instr;rw[if_neg (by omega:¬(5≤x.op∧x.op≤20)),if_neg (by omega:¬x.op=1),if_pos hop])
 clear h hop
 go_enter Tryz.func59,Tryz.ntmps59
 go_wp2_with fail
 refine (Ar.sign_any x.op _).mono ?_
 rintro e w' ⟨rfl,rfl⟩
 rw[sg]
 generalize Ar.signIn x.op=si at*
 generalize Ar.signOut x.op=so at*
 clear sg
 have HP:Hid (∀b:Bool,Calls Tryz.prog 81 #[.pointer (some ⟨L,0,none⟩),.bool b] (w.alloc (.cells #[.int .i64 x.op,.int .i64 x.a,.int .i64 x.b,.int .i64 x.c,.int .i64 x.k] 58)) fun e w'=>e= .returned (.tuple #[])∧Left (w.alloc (.cells #[.int .i64 x.op,.int .i64 x.a,.int .i64 x.b,.int .i64 x.c,.int .i64 x.k] 58)) B L K O p vi vo vc vd (s.need b) w'):=fun b=>need_any b h0
 cases hk:(x.k==0)
 all_goals
  go_wp2_with fail
  refine (HP.out _).mono ?_
  rintro e w1 ⟨rfl,hl1⟩
  have bX1:=hl1.row bX hL hK hO
  have u1:=u0.trans hl1.2
  have h1:=hl1.1
  rw[hk] at HR
  simp only[Bool.false_or,Bool.true_or] at HR h1
  clear hl1
  obtain ⟨x0,x1,x2,x3,x4⟩:=in5_cells bX1
  go_wp2_with fail
  refine (gives_any x.a 2 h1).mono ?_
  rintro e w2 ⟨rfl,hl2⟩
  go_wp2_with fail
  go_end0
  exact ⟨rfl,by rw[HR.out];exact hl2.1,u1.trans hl2.2⟩
set_option maxRecDepth 100000 in
set_option maxHeartbeats 4000000 in
theorem instr_27 {w:World} {B L K O:Nat} {p:Pg} {vi vo vc vd:Value} {s:LS} (i:Int) (x:In5) (h:Lk w B L K O p vi vo vc vd s) (hop:x.op=27):
  Calls Tryz.prog 59 #[.pointer (some ⟨L,0,none⟩),.int .i64 i,in5V x] w fun e w'=>e= .returned (.tuple #[])∧Left w B L K O p vi vo vc vd (s.instr p i x) w':=by
 have hL:w.heap.size≠L:=by have:=h.row.lt;omega
 have hK:w.heap.size≠K:=by have:=h.kinds.lt;omega
 have hO:w.heap.size≠O:=by have:=h.outs.lt;omega
 have bX:=Row.new w #[.int .i64 x.op,.int .i64 x.a,.int .i64 x.b,.int .i64 x.c,.int .i64 x.k] 58
 have h0:=h.alloc (.cells #[.int .i64 x.op,.int .i64 x.a,.int .i64 x.b,.int .i64 x.c,.int .i64 x.k] 58)
 have u0:Upd (lkX L K O) w (w.alloc (.cells #[.int .i64 x.op,.int .i64 x.a,.int .i64 x.b,.int .i64 x.c,.int .i64 x.k] 58)):=(Upd.refl _ _).alloc _
 have hX:w.heap.size<(w.alloc (.cells #[.int .i64 x.op,.int .i64 x.a,.int .i64 x.b,.int .i64 x.c,.int .i64 x.k] 58)).heap.size:=by simp
 have sg:Ar.signB x.op=false:=by simp[Ar.signB];omega
 have o1:(x.op==1)=false:=by rw[beq_eq_false_iff_ne];omega
 have o2:(x.op==2)=false:=by rw[beq_eq_false_iff_ne];omega
 have o3:(x.op==3)=false:=by rw[beq_eq_false_iff_ne];omega
 have o27:(x.op==27)=true:=by rw[beq_iff_eq];omega
 have HR:=Lib.hid (show s.instr p i x=(((((s.takes x.b).2.need ((s.takes x.b).1==2)).takes x.c).2.takes x.k).2.need (((((s.takes x.b).2.need ((s.takes x.b).1==2)).takes x.c).2.takes x.k).1==(((s.takes x.b).2.need ((s.takes x.b).1==2)).takes x.c).1)).gives x.a (((s.takes x.b).2.need ((s.takes x.b).1==2)).takes x.c).1 by unfold LS.instr;rw[if_neg (by omega:¬(5≤x.op∧x.op≤20)),if_neg (by omega:¬x.op=1),if_neg (by omega:¬x.op=2),if_neg (by omega:¬x.op=3),if_pos hop])
 clear h hop
 go_enter Tryz.func59,Tryz.ntmps59
 go_wp2_with fail
 refine (Ar.sign_any x.op _).mono ?_
 rintro e w' ⟨rfl,rfl⟩
 rw[sg]
 generalize Ar.signIn x.op=si at*
 generalize Ar.signOut x.op=so at*
 clear sg
 go_wp2_with fail
 refine (takes_any x.b h0).mono ?_
 rintro e w1 ⟨rfl,hl1⟩
 have bX1:=hl1.row bX hL hK hO
 have u1:=u0.trans hl1.2
 have h1:=hl1.1
 clear hl1 h0 u0
 obtain ⟨x0,x1,x2,x3,x4⟩:=in5_cells bX1
 generalize (s.takes x.b).2=s1 at*
 generalize (s.takes x.b).1=k1 at*
 go_wp2_with fail
 refine (need_any _ h1).mono ?_
 rintro e w2 ⟨rfl,hl2⟩
 have bX2:=hl2.row bX1 hL hK hO
 have u2:=u1.trans hl2.2
 have h2:=hl2.1
 clear hl2 h1 u1
 clear x0 x1 x2 x3 x4
 obtain ⟨x0,x1,x2,x3,x4⟩:=in5_cells bX2
 generalize s1.need (k1==2)=s2 at*
 go_wp2_with fail
 refine (takes_any x.c h2).mono ?_
 rintro e w3 ⟨rfl,hl3⟩
 have bX3:=hl3.row bX2 hL hK hO
 have u3:=u2.trans hl3.2
 have h3:=hl3.1
 clear hl3 h2 u2
 clear x0 x1 x2 x3 x4
 obtain ⟨x0,x1,x2,x3,x4⟩:=in5_cells bX3
 generalize (s2.takes x.c).2=s3 at*
 generalize (s2.takes x.c).1=k3 at*
 go_wp2_with fail
 refine (takes_any x.k h3).mono ?_
 rintro e w4 ⟨rfl,hl4⟩
 have bX4:=hl4.row bX3 hL hK hO
 have u4:=u3.trans hl4.2
 have h4:=hl4.1
 clear hl4 h3 u3
 clear x0 x1 x2 x3 x4
 obtain ⟨x0,x1,x2,x3,x4⟩:=in5_cells bX4
 generalize (s3.takes x.k).2=s4 at*
 generalize (s3.takes x.k).1=k4 at*
 go_wp2_with fail
 refine (need_any _ h4).mono ?_
 rintro e w5 ⟨rfl,hl5⟩
 have bX5:=hl5.row bX4 hL hK hO
 have u5:=u4.trans hl5.2
 have h5:=hl5.1
 clear hl5 h4 u4
 clear x0 x1 x2 x3 x4
 obtain ⟨x0,x1,x2,x3,x4⟩:=in5_cells bX5
 generalize s4.need (k4==k3)=s5 at*
 go_wp2_with fail
 refine (gives_any x.a k3 h5).mono ?_
 rintro e w6 ⟨rfl,hl6⟩
 go_wp2_with fail
 go_end0
 exact ⟨rfl,by rw[HR.out];exact hl6.1,u5.trans hl6.2⟩
end Go.Proofs.YtbjaejgechadpaaGreat
namespace Go.Proofs.YtbjaejgechadpaaGreat
open Go.RowKit Vf
set_option maxRecDepth 100000 in
set_option maxHeartbeats 4000000 in
theorem instr_3 {w:World} {B L K O:Nat} {p:Pg} {vi vo vc vd:Value} {s:LS} (i:Int) (x:In5) (h:Lk w B L K O p vi vo vc vd s) (hop:x.op=3):
  Calls Tryz.prog 59 #[.pointer (some ⟨L,0,none⟩),.int .i64 i,in5V x] w fun e w'=>e= .returned (.tuple #[])∧Left w B L K O p vi vo vc vd (s.instr p i x) w':=by
 have hL:w.heap.size≠L:=by have:=h.row.lt;omega
 have hK:w.heap.size≠K:=by have:=h.kinds.lt;omega
 have hO:w.heap.size≠O:=by have:=h.outs.lt;omega
 have bX:=Row.new w #[.int .i64 x.op,.int .i64 x.a,.int .i64 x.b,.int .i64 x.c,.int .i64 x.k] 58
 have h0:=h.alloc (.cells #[.int .i64 x.op,.int .i64 x.a,.int .i64 x.b,.int .i64 x.c,.int .i64 x.k] 58)
 have u0:Upd (lkX L K O) w (w.alloc (.cells #[.int .i64 x.op,.int .i64 x.a,.int .i64 x.b,.int .i64 x.c,.int .i64 x.k] 58)):=(Upd.refl _ _).alloc _
 have hX:w.heap.size<(w.alloc (.cells #[.int .i64 x.op,.int .i64 x.a,.int .i64 x.b,.int .i64 x.c,.int .i64 x.k] 58)).heap.size:=by simp
 have sg:Ar.signB x.op=false:=by simp[Ar.signB];omega
 have o1:(x.op==1)=false:=by rw[beq_eq_false_iff_ne];omega
 have o2:(x.op==2)=false:=by rw[beq_eq_false_iff_ne];omega
 have o3:(x.op==3)=true:=by rw[beq_iff_eq];omega
 have HR:=Lib.hid (show s.instr p i x=(s.takes x.b).2.gives x.a (s.takes x.b).1 by unfold LS.instr;rw[if_neg (by omega:¬(5≤x.op∧x.op≤20)),if_neg (by omega:¬x.op=1),if_neg (by omega:¬x.op=2),if_pos hop])
 clear h hop
 go_enter Tryz.func59,Tryz.ntmps59
 go_wp2_with fail
 refine (Ar.sign_any x.op _).mono ?_
 rintro e w' ⟨rfl,rfl⟩
 rw[sg]
 generalize Ar.signIn x.op=si at*
 generalize Ar.signOut x.op=so at*
 clear sg
 generalize w.alloc (.cells #[.int .i64 x.op,.int .i64 x.a,.int .i64 x.b,.int .i64 x.c,.int .i64 x.k] 58)=W at*
 obtain ⟨x0,x1,x2,x3,x4⟩:=in5_cells bX
 go_wp2_with fail
 go_region_held3 (fun w'=>w'.cell? ⟨w.heap.size,0,none⟩=some (.int .i64 x.op)∧w'.cell? ⟨w.heap.size,1,none⟩=some (.int .i64 x.a)∧w'.cell? ⟨w.heap.size,2,none⟩=some (.int .i64 x.b)∧w'.cell? ⟨w.heap.size,3,none⟩=some (.int .i64 x.c)∧w'.cell? ⟨w.heap.size,4,none⟩=some (.int .i64 x.k))
  (first|go_keep|exact in5_cells bX1|exact in5_cells bX2)
  (first|(go_at_call 82;refine (takes_any x.b (by first|exact h0|exact h0.drew)).mono ?_;rintro e w1 ⟨rfl,hl1⟩;have bX1:=hl1.row (by first|exact bX|exact bX.drew) hL hK hO;have u1:=u0.drew.trans hl1.2;have h1:=hl1.1)|(go_at_call 80;refine (gives_any x.a _ (by first|exact h1|exact h1.drew)).mono ?_;rintro e w2 ⟨rfl,hl2⟩;have bX2:=hl2.row bX1 hL hK hO))
 go_goals
 all_goals
  go_wp2_with fail
  go_end0
  exact ⟨rfl,by rw[HR.out];exact hl2.1,u1.trans hl2.2⟩
end Go.Proofs.YtbjaejgechadpaaGreat
namespace Go.Proofs.YtbjaejgechadpaaGreat
open Go.RowKit Vf
set_option maxRecDepth 100000 in
set_option maxHeartbeats 4000000 in
theorem instr_21 {w:World} {B L K O:Nat} {p:Pg} {vi vo vc vd:Value} {s:LS} (i:Int) (x:In5) (h:Lk w B L K O p vi vo vc vd s) (hop:x.op=21):
  Calls Tryz.prog 59 #[.pointer (some ⟨L,0,none⟩),.int .i64 i,in5V x] w fun e w'=>e= .returned (.tuple #[])∧Left w B L K O p vi vo vc vd (s.instr p i x) w':=by
 have hL:w.heap.size≠L:=by have:=h.row.lt;omega
 have hK:w.heap.size≠K:=by have:=h.kinds.lt;omega
 have hO:w.heap.size≠O:=by have:=h.outs.lt;omega
 have bX:=Row.new w #[.int .i64 x.op,.int .i64 x.a,.int .i64 x.b,.int .i64 x.c,.int .i64 x.k] 58
 have h0:=h.alloc (.cells #[.int .i64 x.op,.int .i64 x.a,.int .i64 x.b,.int .i64 x.c,.int .i64 x.k] 58)
 have u0:Upd (lkX L K O) w (w.alloc (.cells #[.int .i64 x.op,.int .i64 x.a,.int .i64 x.b,.int .i64 x.c,.int .i64 x.k] 58)):=(Upd.refl _ _).alloc _
 have sg:Ar.signB x.op=false:=by simp[Ar.signB];omega
 have o1:(x.op==1)=false:=by rw[beq_eq_false_iff_ne];omega
 have o2:(x.op==2)=false:=by rw[beq_eq_false_iff_ne];omega
 have o3:(x.op==3)=false:=by rw[beq_eq_false_iff_ne];omega
 have o27:(x.op==27)=false:=by rw[beq_eq_false_iff_ne];omega
 have o21:(x.op==21)=true:=by rw[beq_iff_eq];omega
 have HR:=Lib.hid (show s.instr p i x=(s.one (types p.cells) x.k).2.gives x.a (s.one (types p.cells) x.k).1 by unfold LS.instr;rw[if_neg (by omega:¬(5≤x.op∧x.op≤20)),if_neg (by omega:¬x.op=1),if_neg (by omega:¬x.op=2),if_neg (by omega:¬x.op=3),if_neg (by omega:¬x.op=27),if_pos hop])
 clear h hop
 go_enter Tryz.func59,Tryz.ntmps59
 go_wp2_with fail
 refine (Ar.sign_any x.op _).mono ?_
 rintro e w' ⟨rfl,rfl⟩
 rw[sg]
 generalize Ar.signIn x.op=si at*
 generalize Ar.signOut x.op=so at*
 clear sg
 generalize w.alloc (.cells #[.int .i64 x.op,.int .i64 x.a,.int .i64 x.b,.int .i64 x.c,.int .i64 x.k] 58)=W at*
 generalize w.heap.size=gx at*
 obtain ⟨x0,x1,x2,x3,x4⟩:=in5_cells bX
 go_wp2_with fail
 go_region_held3 (fun w'=>w'.cell? ⟨gx,0,none⟩=some (.int .i64 x.op)∧w'.cell? ⟨gx,1,none⟩=some (.int .i64 x.a)∧w'.cell? ⟨gx,2,none⟩=some (.int .i64 x.b)∧w'.cell? ⟨gx,3,none⟩=some (.int .i64 x.c)∧w'.cell? ⟨gx,4,none⟩=some (.int .i64 x.k))
  (first|go_keep|exact in5_cells bX1|exact in5_cells bX2)
  (first|(go_at_call 83;refine (cell_any x.k (by first|exact h0|exact h0.drew)).mono ?_;rintro e w1 ⟨rfl,hl1⟩;have bX1:=hl1.row (by first|exact bX|exact bX.drew) hL hK hO;have u1:=u0.drew.trans hl1.2;have h1:=hl1.1)|(go_at_call 80;refine (gives_any x.a _ h1).mono ?_;rintro e w2 ⟨rfl,hl2⟩;have bX2:=hl2.row bX1 hL hK hO;have u2:=u1.trans hl2.2;have h2:=hl2.1))
 all_goals
  go_wp2_with fail
  go_end0
  exact ⟨rfl,by rw[HR.out];exact h2,u2⟩
set_option maxRecDepth 100000 in
set_option maxHeartbeats 4000000 in
theorem instr_28 {w:World} {B L K O:Nat} {p:Pg} {vi vo vc vd:Value} {s:LS} (i:Int) (x:In5) (h:Lk w B L K O p vi vo vc vd s) (hop:x.op=28):
  Calls Tryz.prog 59 #[.pointer (some ⟨L,0,none⟩),.int .i64 i,in5V x] w fun e w'=>e= .returned (.tuple #[])∧Left w B L K O p vi vo vc vd (s.instr p i x) w':=by
 have hL:w.heap.size≠L:=by have:=h.row.lt;omega
 have hK:w.heap.size≠K:=by have:=h.kinds.lt;omega
 have hO:w.heap.size≠O:=by have:=h.outs.lt;omega
 have bX:=Row.new w #[.int .i64 x.op,.int .i64 x.a,.int .i64 x.b,.int .i64 x.c,.int .i64 x.k] 58
 have h0:=h.alloc (.cells #[.int .i64 x.op,.int .i64 x.a,.int .i64 x.b,.int .i64 x.c,.int .i64 x.k] 58)
 have u0:Upd (lkX L K O) w (w.alloc (.cells #[.int .i64 x.op,.int .i64 x.a,.int .i64 x.b,.int .i64 x.c,.int .i64 x.k] 58)):=(Upd.refl _ _).alloc _
 have sg:Ar.signB x.op=false:=by simp[Ar.signB];omega
 have o1:(x.op==1)=false:=by rw[beq_eq_false_iff_ne];omega
 have o2:(x.op==2)=false:=by rw[beq_eq_false_iff_ne];omega
 have o3:(x.op==3)=false:=by rw[beq_eq_false_iff_ne];omega
 have o27:(x.op==27)=false:=by rw[beq_eq_false_iff_ne];omega
 have o21:(x.op==21)=false:=by rw[beq_eq_false_iff_ne];omega
 have o28:(x.op==28)=true:=by rw[beq_iff_eq];omega
 have HR:=Lib.hid (show s.instr p i x=(s.one p.ins x.k).2.gives x.a (s.one p.ins x.k).1 by unfold LS.instr;rw[if_neg (by omega:¬(5≤x.op∧x.op≤20)),if_neg (by omega:¬x.op=1),if_neg (by omega:¬x.op=2),if_neg (by omega:¬x.op=3),if_neg (by omega:¬x.op=27),if_neg (by omega:¬x.op=21),if_pos hop])
 clear h hop
 go_enter Tryz.func59,Tryz.ntmps59
 go_wp2_with fail
 refine (Ar.sign_any x.op _).mono ?_
 rintro e w' ⟨rfl,rfl⟩
 rw[sg]
 generalize Ar.signIn x.op=si at*
 generalize Ar.signOut x.op=so at*
 clear sg
 generalize w.alloc (.cells #[.int .i64 x.op,.int .i64 x.a,.int .i64 x.b,.int .i64 x.c,.int .i64 x.k] 58)=W at*
 generalize w.heap.size=gx at*
 obtain ⟨x0,x1,x2,x3,x4⟩:=in5_cells bX
 have l0:=h0.row.cell 0
 simp only[List.getElem?_toArray,List.getElem?_cons_zero] at l0
 go_wp2_with fail
 go_region_held3 (fun w'=>w'.cell? ⟨gx,0,none⟩=some (.int .i64 x.op)∧w'.cell? ⟨gx,1,none⟩=some (.int .i64 x.a)∧w'.cell? ⟨gx,2,none⟩=some (.int .i64 x.b)∧w'.cell? ⟨gx,3,none⟩=some (.int .i64 x.c)∧w'.cell? ⟨gx,4,none⟩=some (.int .i64 x.k)∧w'.cell? ⟨L,0,none⟩=some vi)
  (first|go_keep|exact ⟨(in5_cells bX1).1,(in5_cells bX1).2.1,(in5_cells bX1).2.2.1,(in5_cells bX1).2.2.2.1,(in5_cells bX1).2.2.2.2,h1.row.cell 0⟩|exact ⟨(in5_cells bX2).1,(in5_cells bX2).2.1,(in5_cells bX2).2.2.1,(in5_cells bX2).2.2.2.1,(in5_cells bX2).2.2.2.2,h2.row.cell 0⟩)
  (first|(go_at_call 84;refine (one_any p.ins vi x.k (by first|exact h0|exact h0.drew) (by first|exact h0.pg.ins|exact h0.drew.pg.ins)).mono ?_;rintro e w1 ⟨rfl,hl1⟩;have bX1:=hl1.row (by first|exact bX|exact bX.drew) hL hK hO;have u1:=u0.drew.trans hl1.2;have h1:=hl1.1)|(go_at_call 80;refine (gives_any x.a _ h1).mono ?_;rintro e w2 ⟨rfl,hl2⟩;have bX2:=hl2.row bX1 hL hK hO;have u2:=u1.trans hl2.2;have h2:=hl2.1))
 all_goals
  go_wp2_with fail
  go_end0
  exact ⟨rfl,by rw[HR.out];exact h2,u2⟩
set_option maxRecDepth 100000 in
set_option maxHeartbeats 4000000 in
theorem instr_32 {w:World} {B L K O:Nat} {p:Pg} {vi vo vc vd:Value} {s:LS} (i:Int) (x:In5) (h:Lk w B L K O p vi vo vc vd s) (hop:x.op=32):
  Calls Tryz.prog 59 #[.pointer (some ⟨L,0,none⟩),.int .i64 i,in5V x] w fun e w'=>e= .returned (.tuple #[])∧Left w B L K O p vi vo vc vd (s.instr p i x) w':=by
 have hL:w.heap.size≠L:=by have:=h.row.lt;omega
 have hK:w.heap.size≠K:=by have:=h.kinds.lt;omega
 have hO:w.heap.size≠O:=by have:=h.outs.lt;omega
 have bX:=Row.new w #[.int .i64 x.op,.int .i64 x.a,.int .i64 x.b,.int .i64 x.c,.int .i64 x.k] 58
 have h0:=h.alloc (.cells #[.int .i64 x.op,.int .i64 x.a,.int .i64 x.b,.int .i64 x.c,.int .i64 x.k] 58)
 have u0:Upd (lkX L K O) w (w.alloc (.cells #[.int .i64 x.op,.int .i64 x.a,.int .i64 x.b,.int .i64 x.c,.int .i64 x.k] 58)):=(Upd.refl _ _).alloc _
 have sg:Ar.signB x.op=false:=by simp[Ar.signB];omega
 have o1:(x.op==1)=false:=by rw[beq_eq_false_iff_ne];omega
 have o2:(x.op==2)=false:=by rw[beq_eq_false_iff_ne];omega
 have o3:(x.op==3)=false:=by rw[beq_eq_false_iff_ne];omega
 have o27:(x.op==27)=false:=by rw[beq_eq_false_iff_ne];omega
 have o21:(x.op==21)=false:=by rw[beq_eq_false_iff_ne];omega
 have o28:(x.op==28)=false:=by rw[beq_eq_false_iff_ne];omega
 have o29:(x.op==29)=false:=by rw[beq_eq_false_iff_ne];omega
 have o32:(x.op==32)=true:=by rw[beq_iff_eq];omega
 have HR:=Lib.hid (show s.instr p i x=((s.takes x.a).2.one (types p.cells) x.k).2.need ((s.takes x.a).1==((s.takes x.a).2.one (types p.cells) x.k).1) by unfold LS.instr;rw[if_neg (by omega:¬(5≤x.op∧x.op≤20)),if_neg (by omega:¬x.op=1),if_neg (by omega:¬x.op=2),if_neg (by omega:¬x.op=3),if_neg (by omega:¬x.op=27),if_neg (by omega:¬x.op=21),if_neg (by omega:¬x.op=28),if_neg (by omega:¬x.op=29),if_pos hop])
 clear h hop
 go_enter Tryz.func59,Tryz.ntmps59
 go_wp2_with fail
 refine (Ar.sign_any x.op _).mono ?_
 rintro e w' ⟨rfl,rfl⟩
 rw[sg]
 generalize Ar.signIn x.op=si at*
 generalize Ar.signOut x.op=so at*
 clear sg
 generalize w.alloc (.cells #[.int .i64 x.op,.int .i64 x.a,.int .i64 x.b,.int .i64 x.c,.int .i64 x.k] 58)=W at*
 generalize w.heap.size=gx at*
 obtain ⟨x0,x1,x2,x3,x4⟩:=in5_cells bX
 go_wp2_with fail
 go_region_held3 (fun w'=>w'.cell? ⟨gx,0,none⟩=some (.int .i64 x.op)∧w'.cell? ⟨gx,1,none⟩=some (.int .i64 x.a)∧w'.cell? ⟨gx,2,none⟩=some (.int .i64 x.b)∧w'.cell? ⟨gx,3,none⟩=some (.int .i64 x.c)∧w'.cell? ⟨gx,4,none⟩=some (.int .i64 x.k))
  (first|go_keep|exact in5_cells bX1|exact in5_cells bX2|exact in5_cells bX3)
  (first|(go_at_call 82;refine (takes_any x.a (by first|exact h0|exact h0.drew)).mono ?_;rintro e w1 ⟨rfl,hl1⟩;have bX1:=hl1.row (by first|exact bX|exact bX.drew) hL hK hO;have u1:=u0.drew.trans hl1.2;have h1:=hl1.1)|(go_at_call 83;refine (cell_any x.k h1).mono ?_;rintro e w2 ⟨rfl,hl2⟩;have bX2:=hl2.row bX1 hL hK hO;have u2:=u1.trans hl2.2;have h2:=hl2.1)|(go_at_call 81;refine (need_any _ h2).mono ?_;rintro e w3 ⟨rfl,hl3⟩;have bX3:=hl3.row bX2 hL hK hO;have u3:=u2.trans hl3.2;have h3:=hl3.1))
 all_goals
  go_wp2_with fail
  go_end0
  exact ⟨rfl,by rw[HR.out];exact h3,u3⟩
end Go.Proofs.YtbjaejgechadpaaGreat
namespace Go.Proofs.YtbjaejgechadpaaGreat
open Go.RowKit Vf
theorem out_cell {w:World} {O:Nat} {l:List Bool} {t:TypeId} (h:Row w O (l.map Value.bool).toArray t) {n:Nat} (hn:n<l.length):w.cell? ⟨O,n,none⟩=some (.bool (l.getD n false)):=by
 rw[h.cell,List.getElem?_toArray,List.getElem?_map,List.getElem?_eq_getElem hn,List.getD_eq_getElem?_getD,List.getElem?_eq_getElem hn]
 rfl
set_option maxRecDepth 100000 in
set_option maxHeartbeats 4000000 in
theorem instr_29 {w:World} {B L K O:Nat} {p:Pg} {vi vo vc vd:Value} {s:LS} (i:Int) (x:In5) (h:Lk w B L K O p vi vo vc vd s) (hop:x.op=29) (hol:s.outs.length=p.outs.length):
  Calls Tryz.prog 59 #[.pointer (some ⟨L,0,none⟩),.int .i64 i,in5V x] w fun e w'=>e= .returned (.tuple #[])∧Left w B L K O p vi vo vc vd (s.instr p i x) w':=by
 have hL:w.heap.size≠L:=by have:=h.row.lt;omega
 have hK:w.heap.size≠K:=by have:=h.kinds.lt;omega
 have hO:w.heap.size≠O:=by have:=h.outs.lt;omega
 have bX:=Row.new w #[.int .i64 x.op,.int .i64 x.a,.int .i64 x.b,.int .i64 x.c,.int .i64 x.k] 58
 have h0:=h.alloc (.cells #[.int .i64 x.op,.int .i64 x.a,.int .i64 x.b,.int .i64 x.c,.int .i64 x.k] 58)
 have u0:Upd (lkX L K O) w (w.alloc (.cells #[.int .i64 x.op,.int .i64 x.a,.int .i64 x.b,.int .i64 x.c,.int .i64 x.k] 58)):=(Upd.refl _ _).alloc _
 have sg:Ar.signB x.op=false:=by simp[Ar.signB];omega
 have o1:(x.op==1)=false:=by rw[beq_eq_false_iff_ne];omega
 have o2:(x.op==2)=false:=by rw[beq_eq_false_iff_ne];omega
 have o3:(x.op==3)=false:=by rw[beq_eq_false_iff_ne];omega
 have o27:(x.op==27)=false:=by rw[beq_eq_false_iff_ne];omega
 have o21:(x.op==21)=false:=by rw[beq_eq_false_iff_ne];omega
 have o28:(x.op==28)=false:=by rw[beq_eq_false_iff_ne];omega
 have o29:(x.op==29)=true:=by rw[beq_iff_eq];omega
 have HR:=Lib.hid (show s.instr p i x=(
   let s2:=((s.takes x.a).2.one p.outs x.k).2.need ((s.takes x.a).1==((s.takes x.a).2.one p.outs x.k).1)
   let s3:=s2.need (decide (s2.past≤i))
   if s3.bad=true then s3 else {s3.need (!(s3.outs.getD x.k.toNat false)) with outs:=s3.outs.set x.k.toNat true}) by unfold LS.instr;rw[if_neg (by omega:¬(5≤x.op∧x.op≤20)),if_neg (by omega:¬x.op=1),if_neg (by omega:¬x.op=2),if_neg (by omega:¬x.op=3),if_neg (by omega:¬x.op=27),if_neg (by omega:¬x.op=21),if_neg (by omega:¬x.op=28),if_pos hop])
 have HB:Hid ((((s.takes x.a).2.one p.outs x.k).2.need ((s.takes x.a).1==((s.takes x.a).2.one p.outs x.k).1)).bad=false→has p.outs x.k):=by
  intro hb
  rw[one_eq] at hb
  simp only[LS.need,LS.wb,Bool.or_eq_false_iff,Bool.not_eq_false',decide_eq_true_eq] at hb
  exact hb.1.2
 have HO2:Hid ((((s.takes x.a).2.one p.outs x.k).2.need ((s.takes x.a).1==((s.takes x.a).2.one p.outs x.k).1)).outs=s.outs):=by
  rw[one_eq]
  show (s.takes x.a).2.outs=s.outs
  unfold LS.takes;split<;>rfl
 have HOL:=Lib.hid hol
 clear hol
 clear h hop
 go_enter Tryz.func59,Tryz.ntmps59
 go_wp2_with fail
 refine (Ar.sign_any x.op _).mono ?_
 rintro e w' ⟨rfl,rfl⟩
 rw[sg]
 generalize Ar.signIn x.op=si at*
 generalize Ar.signOut x.op=so at*
 clear sg
 generalize w.alloc (.cells #[.int .i64 x.op,.int .i64 x.a,.int .i64 x.b,.int .i64 x.c,.int .i64 x.k] 58)=W at*
 generalize w.heap.size=gx at*
 obtain ⟨x0,x1,x2,x3,x4⟩:=in5_cells bX
 have l0:=h0.row.cell 0
 have l1:=h0.row.cell 1
 have l2:=h0.row.cell 2
 have l3:=h0.row.cell 3
 have l4:=h0.row.cell 4
 have l5:=h0.row.cell 5
 have l6:=h0.row.cell 6
 have l7:=h0.row.cell 7
 have l8:=h0.row.cell 8
 simp only[List.getElem?_toArray,List.getElem?_cons_zero,List.getElem?_cons_succ] at l0 l1 l2 l3 l4 l5 l6 l7 l8
 go_upto_region 24 with (fail)
 go_cut[] (fun W2=>∃s2,Hid (s2=((s.takes x.a).2.one p.outs x.k).2.need ((s.takes x.a).1==((s.takes x.a).2.one p.outs x.k).1))∧Lk W2 B L K O p vi vo vc vd s2∧Row W2 gx #[.int .i64 x.op,.int .i64 x.a,.int .i64 x.b,.int .i64 x.c,.int .i64 x.k] 58∧Upd (lkX L K O) w W2)
 case first=>
  go_region_held3 (fun w'=>w'.cell? ⟨gx,0,none⟩=some (.int .i64 x.op)∧w'.cell? ⟨gx,1,none⟩=some (.int .i64 x.a)∧w'.cell? ⟨gx,2,none⟩=some (.int .i64 x.b)∧w'.cell? ⟨gx,3,none⟩=some (.int .i64 x.c)∧w'.cell? ⟨gx,4,none⟩=some (.int .i64 x.k)∧w'.cell? ⟨L,1,none⟩=some vo)
   (first|go_keep|exact ⟨(in5_cells bX1).1,(in5_cells bX1).2.1,(in5_cells bX1).2.2.1,(in5_cells bX1).2.2.2.1,(in5_cells bX1).2.2.2.2,h1.row.cell 1⟩|exact ⟨(in5_cells bX2).1,(in5_cells bX2).2.1,(in5_cells bX2).2.2.1,(in5_cells bX2).2.2.2.1,(in5_cells bX2).2.2.2.2,h2.row.cell 1⟩|exact ⟨(in5_cells bX3).1,(in5_cells bX3).2.1,(in5_cells bX3).2.2.1,(in5_cells bX3).2.2.2.1,(in5_cells bX3).2.2.2.2,h3.row.cell 1⟩)
   (first|(go_at_call 82;refine (takes_any x.a (by first|exact h0|exact h0.drew)).mono ?_;rintro e w1 ⟨rfl,hl1⟩;have bX1:=hl1.row (by first|exact bX|exact bX.drew) hL hK hO;have u1:=u0.drew.trans hl1.2;have h1:=hl1.1)|(go_at_call 84;refine (one_any p.outs vo x.k h1 h1.pg.outs).mono ?_;rintro e w2 ⟨rfl,hl2⟩;have bX2:=hl2.row bX1 hL hK hO;have u2:=u1.trans hl2.2;have h2:=hl2.1)|(go_at_call 81;refine (need_any _ h2).mono ?_;rintro e w3 ⟨rfl,hl3⟩;have bX3:=hl3.row bX2 hL hK hO;have u3:=u2.trans hl3.2;have h3:=hl3.1))
  all_goals
   go_wp2_with fail
   go_meet
   exact ⟨_,rfl,h3,bX3,u3⟩
 case rest=>
  obtain ⟨s2,HS2,h2,bX2,u2⟩:=hcut
  rw[←HS2.out] at HR HB HO2
  clear l0 l1 l2 l3 l4 l5 l6 l7 l8 x0 x1 x2 x3 x4 bX u0 h0 HS2
  obtain ⟨x0,x1,x2,x3,x4⟩:=in5_cells bX2
  have l0:=h2.row.cell 0
  have l1:=h2.row.cell 1
  have l2:=h2.row.cell 2
  have l3:=h2.row.cell 3
  have l4:=h2.row.cell 4
  have l5:=h2.row.cell 5
  have l6:=h2.row.cell 6
  have l7:=h2.row.cell 7
  have l8:=h2.row.cell 8
  simp only[List.getElem?_toArray,List.getElem?_cons_zero,List.getElem?_cons_succ] at l0 l1 l2 l3 l4 l5 l6 l7 l8
  go_wp2_with fail
  refine (need_any _ h2).mono ?_
  rintro e w3 ⟨rfl,hl3⟩
  have bX3:=hl3.row bX2 hL hK hO
  have u3:=u2.trans hl3.2
  have h3:=hl3.1
  clear hl3 l0 l1 l2 l3 l4 l5 l6 l7 l8 x0 x1 x2 x3 x4 bX2 u2 h2
  obtain ⟨x0,x1,x2,x3,x4⟩:=in5_cells bX3
  have HR3:=Lib.hid (show s.instr p i x=(if (s2.need (decide (s2.past≤i))).bad=true then (s2.need (decide (s2.past≤i))) else {(s2.need (decide (s2.past≤i))).need (!((s2.need (decide (s2.past≤i))).outs.getD x.k.toNat false)) with outs:=(s2.need (decide (s2.past≤i))).outs.set x.k.toNat true}) from HR.out)
  have HB3:Hid ((s2.need (decide (s2.past≤i))).bad=false→has p.outs x.k):=fun hb=>HB.out (by simp only[LS.need,Bool.or_eq_false_iff] at hb;exact hb.1)
  have HO3:Hid ((s2.need (decide (s2.past≤i))).outs=s.outs):=HO2.out
  clear HR HB HO2
  generalize s2.need (decide (s2.past≤i))=s3 at*
  have l0:=h3.row.cell 0
  have l1:=h3.row.cell 1
  have l2:=h3.row.cell 2
  have l3:=h3.row.cell 3
  have l4:=h3.row.cell 4
  have l5:=h3.row.cell 5
  have l6:=h3.row.cell 6
  have l7:=h3.row.cell 7
  have l8:=h3.row.cell 8
  simp only[List.getElem?_toArray,List.getElem?_cons_zero,List.getElem?_cons_succ] at l0 l1 l2 l3 l4 l5 l6 l7 l8
  cases hbd:s3.bad
  ·have hh:=HB3.out hbd
   have hk0:0≤x.k:=hh.1
   have hk1:x.k<(s3.outs.length:Int):=by rw[HO3.out,HOL.out];exact hh.2
   have hkn:x.k.toNat<s3.outs.length:=by omega
   have hol8:=h3.olen
   have hc:=out_cell h3.outs hkn
   have HR4:=Lib.hid (show s.instr p i x={s3.need (!(s3.outs.getD x.k.toNat false)) with outs:=s3.outs.set x.k.toNat true} by rw[HR3.out,if_neg (by simp[hbd])])
   generalize hG:s3.outs.getD x.k.toNat false=G at*
   have HG:=Lib.hid hG
   clear HR3 HB3 hh hG
   rw[hbd] at l8
   go_upto_region 27 with (fail)
   go_cut[] (fun W4=>Lk W4 B L K O p vi vo vc vd (s3.need (!G))∧Row W4 gx #[.int .i64 x.op,.int .i64 x.a,.int .i64 x.b,.int .i64 x.c,.int .i64 x.k] 58∧Upd (lkX L K O) w W4)
   case first=>
    go_region_held3 (fun w'=>w'.cell? ⟨gx,0,none⟩=some (.int .i64 x.op)∧w'.cell? ⟨gx,1,none⟩=some (.int .i64 x.a)∧w'.cell? ⟨gx,2,none⟩=some (.int .i64 x.b)∧w'.cell? ⟨gx,3,none⟩=some (.int .i64 x.c)∧w'.cell? ⟨gx,4,none⟩=some (.int .i64 x.k)∧w'.cell? ⟨L,6,none⟩=some (.slice (some ⟨O,0,none⟩) s3.outs.length s3.outs.length)∧w'.cell? ⟨O,x.k.toNat,none⟩=some (.bool G))
     (first|exact ⟨(in5_cells bX4).1,(in5_cells bX4).2.1,(in5_cells bX4).2.2.1,(in5_cells bX4).2.2.2.1,(in5_cells bX4).2.2.2.2,h4.row.cell 6,hc4⟩|go_keep)
     (first|(go_at_call 81;refine (need_any _ (by first|exact h3|exact h3.drew)).mono ?_;rintro e w4 ⟨rfl,hl4⟩;have bX4:=hl4.row (by first|exact bX3|exact bX3.drew) hL hK hO;have u4:=u3.drew.trans hl4.2;have h4:=hl4.1;have hc4:w4.cell? ⟨O,x.k.toNat,none⟩=some (.bool G):=by have hx:=out_cell h4.outs (n:=x.k.toNat) hkn;rw[show (s3.need (!G)).outs.getD x.k.toNat false=G from HG.out] at hx;exact hx))
    all_goals
     go_wp2_with fail
     go_meet
     exact ⟨h4,bX4,u4⟩
   case rest=>
    obtain ⟨h4,bX4,u4⟩:=hcut
    have hf4:=h4.outs.frozen x.k.toNat
    have hc4:=out_cell h4.outs (n:=x.k.toNat) hkn
    have l46:=h4.row.cell 6
    simp only[List.getElem?_toArray,List.getElem?_cons_zero,List.getElem?_cons_succ] at l46
    have HS:Hid (Lk (wc.setCell ⟨O,x.k.toNat,none⟩ (.bool true)) B L K O p vi vo vc vd {s3.need (!G) with outs:=s3.outs.set x.k.toNat true}):=h4.setOut x.k.toNat true
    have HU:Hid (Upd (lkX L K O) w (wc.setCell ⟨O,x.k.toNat,none⟩ (.bool true))):=u4.setCell (.inr (.inr rfl)) _
    have e6:(s3.need (!G)).outs.length=s3.outs.length:=rfl
    rw[e6] at l46
    clear e6 l0 l1 l2 l3 l4 l5 l6 l7 l8 x0 x1 x2 x3 x4 h3 bX3 u3 hc h4 u4
    obtain ⟨x0,x1,x2,x3,x4⟩:=in5_cells bX4
    generalize (s3.need (!G)).outs.getD x.k.toNat false=G4 at*
    go_wp2_with fail
    go_region
    go_wp2_with fail
    go_end0
    exact ⟨rfl,by rw[HR4.out];exact HS.out.drew,HU.out.drew⟩
  ·have HR4:=Lib.hid (show s.instr p i x=s3 by rw[HR3.out,if_pos hbd])
   clear HR3 HB3
   rw[hbd] at l8
   go_wp2_with fail
   go_end0
   exact ⟨rfl,by rw[HR4.out];exact h3,u3⟩
end Go.Proofs.YtbjaejgechadpaaGreat
