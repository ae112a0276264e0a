/-
  The looker looks at an instruction that reckons; and at whatever instruction. slices.Contains of a row of bools. clear, of a row that holds zeros: it stays as it was. verify's look. verify.Right slices.Repeat of one number.
-/
import Derived.Test.YtbjaejgechadpaaGreatLookA
import Derived.Test.YtbjaejgechadpaaGreatBitsMul
import Derived.Lib.SliceRun
import Derived.Test.YtbjaejgechadpaaGreatPgA
import Derived.Laws.CopyOwn
import Derived.Deep.RegionHeld3
import Derived.IntWalk
namespace Go.Proofs.YtbjaejgechadpaaGreat
open Go.RowKit Vf
set_option maxRecDepth 100000 in
set_option maxHeartbeats 4000000 in
theorem instr_5 {w:World} {B L K O:Nat} {p:Pg} {vi vo vc vd:Value} {s:LS} (i:Int) (x:In5) (h:Lk w B L K O p vi vo vc vd s) (hop:5≤x.op∧x.op≤20):
  Calls Tryz.prog 59 #[.pointer (some ⟨L,0,none⟩),.int .i64 i,in5V x] w fun e w'=>e= .returned (.tuple #[])∧Left w B L K O p vi vo vc vd (s.instr p i x) w':=by
 have hL:w.heap.size≠L:=by have:=h.row.lt;omega
 have hK:w.heap.size≠K:=by have:=h.kinds.lt;omega
 have hO:w.heap.size≠O:=by have:=h.outs.lt;omega
 have bX:=Row.new w #[.int .i64 x.op,.int .i64 x.a,.int .i64 x.b,.int .i64 x.c,.int .i64 x.k] 58
 have h0:=h.alloc (.cells #[.int .i64 x.op,.int .i64 x.a,.int .i64 x.b,.int .i64 x.c,.int .i64 x.k] 58)
 have u0:Upd (lkX L K O) w (w.alloc (.cells #[.int .i64 x.op,.int .i64 x.a,.int .i64 x.b,.int .i64 x.c,.int .i64 x.k] 58)):=(Upd.refl _ _).alloc _
 have sg:Ar.signB x.op=true:=by simp[Ar.signB];omega
 have HR:=Lib.hid (show s.instr p i x=s.reckons x (Ar.signIn x.op) (Ar.signOut x.op) by unfold LS.instr;rw[if_pos hop];rfl)
 clear h hop
 go_enter Tryz.func59,Tryz.ntmps59
 go_wp2_with fail
 refine (Ar.sign_any x.op _).mono ?_
 rintro e w' ⟨rfl,rfl⟩
 rw[sg]
 generalize Ar.signIn x.op=si at*
 generalize Ar.signOut x.op=so at*
 clear sg
 go_wp2_with fail
 refine (reckons_any x si so h0).mono ?_
 rintro e w1 ⟨rfl,hl1⟩
 go_wp2_with fail
 exact bodyPost_ret (results_none rfl _ _ _) rfl ⟨rfl,by rw[HR.out];exact hl1.1,u0.trans hl1.2⟩
def opOk (o:Int):Prop:=(1≤o∧o≤3)∨(5≤o∧o≤21)∨(27≤o∧o≤32)
theorem instr_any {w:World} {B L K O:Nat} {p:Pg} {vi vo vc vd:Value} {s:LS} (i:Int) (x:In5) (h:Lk w B L K O p vi vo vc vd s) (hop:opOk x.op) (hol:s.outs.length=p.outs.length) (hi0:0≤i) (hi1:i<p.code.length) (hcl:p.code.length≤2048) (hk:Wf x.k) (h3T:(s.takes x.a).1=0∨(s.takes x.a).1=1∨(s.takes x.a).1=2):
  Calls Tryz.prog 59 #[.pointer (some ⟨L,0,none⟩),.int .i64 i,in5V x] w fun e w'=>e= .returned (.tuple #[])∧Left w B L K O p vi vo vc vd (s.instr p i x) w':=by
 by_cases c5:5≤x.op∧x.op≤20
 ·exact instr_5 i x h c5
 by_cases c1:x.op=1
 ·exact instr_1 i x h c1
 by_cases c2:x.op=2
 ·exact instr_2 i x h c2
 by_cases c3:x.op=3
 ·exact instr_3 i x h c3
 by_cases c21:x.op=21
 ·exact instr_21 i x h c21
 by_cases c27:x.op=27
 ·exact instr_27 i x h c27
 by_cases c28:x.op=28
 ·exact instr_28 i x h c28
 by_cases c29:x.op=29
 ·exact instr_29 i x h c29 hol
 by_cases c32:x.op=32
 ·exact instr_32 i x h c32
 have c30:x.op=30∨x.op=31:=by unfold opOk at hop;omega
 exact instr_30 i x h c30 hi0 hi1 hcl hk h3T
end Go.Proofs.YtbjaejgechadpaaGreat
namespace Go.Proofs.YtbjaejgechadpaaGreat
open Go.RowKit Vf
set_option maxRecDepth 100000 in
set_option maxHeartbeats 4000000 in
theorem index_bool {w:World} {O:Nat} {l:List Bool} {t:TypeId} (h:Row w O (l.map Value.bool).toArray t) (hl:l.length≤1600):
  Calls Tryz.prog 85 #[.slice (some ⟨O,0,none⟩) l.length l.length,.bool false] w fun e w'=>(∃r:Int,e= .returned (.int .i64 r)∧(0≤r↔¬∀b∈l,b=true))∧w=w':=by
 go_enter Tryz.func85,Tryz.ntmps85
 go_wp2_with fail
 go_loopw[8] (fun i wr=>∃k:Nat,k≤l.length∧i= .int .i64 k∧Hid (∀j,j<k→l.getD j false=true)∧w=wr) (fun i _=>l.length-(intOf i).toNat)
 case atStart=>exact ⟨0,Nat.zero_le _,rfl,fun j h=>absurd h (by omega),rfl⟩
 case round=>
  obtain ⟨k,hk,rfl,HN,rfl⟩:=hrel
  by_cases hlt:k<l.length
  ·have c0:=out_cell h hlt
   generalize hV:l.getD k false=V at*
   have HV:=Lib.hid hV
   have HM:=Lib.hid (List.getElem_mem hlt)
   have HG:=Lib.hid (show l.getD k false=l[k] by rw[List.getD_eq_getElem?_getD,List.getElem?_eq_getElem hlt];rfl)
   clear hV
   cases V
   ·go_wp2_with fail
    go_ret
    refine ⟨⟨_,rfl,?_⟩,rfl⟩
    refine ⟨fun _ ha=>?_,fun _=>by omega⟩
    have:=ha _ HM.out
    rw[←HG.out,HV.out] at this
    exact absurd this (by decide)
   ·have HN':=Lib.hid (show ∀j,j<k+1→l.getD j false=true from fun j hj=>by
     by_cases e:j=k
     ·rw[e];exact HV.out
     ·exact HN.out j (by omega))
    go_wp2_with fail
    go_roundw
    case rel=>exact ⟨k+1,by omega,by go_num,HN',trivial⟩
    case measure=>simp[intOf];omega
  ·obtain rfl:k=l.length:=by omega
   go_wp2_with fail
   go_ret
   refine ⟨⟨_,rfl,?_⟩,rfl⟩
   refine ⟨fun h0=>absurd h0 (by decide),fun hn=>absurd (fun b hb=>?_) hn⟩
   obtain ⟨j,hj,rfl⟩:=List.getElem_of_mem hb
   have:=HN.out j hj
   rwa [List.getD_eq_getElem?_getD,List.getElem?_eq_getElem hj] at this
set_option maxRecDepth 100000 in
theorem contains_bool {w:World} {O:Nat} {l:List Bool} {t:TypeId} (h:Row w O (l.map Value.bool).toArray t) (hl:l.length≤1600):
  Calls Tryz.prog 60 #[.slice (some ⟨O,0,none⟩) l.length l.length,.bool false] w fun e w'=>e= .returned (.bool (cB (¬∀b∈l,b=true)))∧w=w':=by
 have HI:=Lib.hid (index_bool h hl)
 clear h
 go_enter Tryz.func60,Tryz.ntmps60
 go_wp2_with fail
 refine HI.out.mono ?_
 rintro e w' ⟨⟨r,rfl,hr⟩,rfl⟩
 have HR:=Lib.hid hr
 clear hr
 go_wp2_with fail
 go_ret
 exact ⟨ret_bool (by rw[←cB_congr HR.out];by_cases c:0≤r<;>simp[cB,c]),rfl⟩
end Go.Proofs.YtbjaejgechadpaaGreat
namespace Go.Proofs.YtbjaejgechadpaaGreat
open Go.RowKit Vf
theorem row_zeros {K n:Nat} {z:Value} {t:TypeId}:∀(m o:Nat) (w:World),o+m≤n→Row w K (List.replicate n z).toArray t→Row (w.setCells K o (List.replicate m z)) K (List.replicate n z).toArray t∧Upd (·=K) w (w.setCells K o (List.replicate m z))
 |0,o,w,_,h=>⟨h,Upd.refl _ _⟩
 |m+1,o,w,hle,h=>by
  have h1:Row (w.setCell ⟨K,o,none⟩ z) K (List.replicate n z).toArray t:=by
   have:=h.set o z
   rwa [show (List.replicate n z).toArray.setIfInBounds o z=(List.replicate n z).toArray by simp] at this
  obtain ⟨a,b⟩:=row_zeros m (o+1) _ (by omega) h1
  rw[List.replicate_succ,World.setCells]
  exact ⟨a,((Upd.refl (·=K) w).setCell (p:=⟨K,o,none⟩) rfl z).trans b⟩
theorem clear_row {w:World} {K n:Nat} {z:Value} {t s e:TypeId} (hs:Tryz.prog.underlying s=some (.slice e)) (hv:∀w,(zeroValue e).run Tryz.prog w= .ok z w) (hz:z.cells= #[z]) (h1:z.oneCell'=true) (h:Row w K (List.replicate n z).toArray t):
  ∃w',(∀ty,(Builtin.clear_ #[s] ty #[.slice (some ⟨K,0,none⟩) n n]).run Tryz.prog w= .ok (.tuple #[]) w')∧Row w' K (List.replicate n z).toArray t∧Upd (·=K) w w':=by
 by_cases hn:n=0
 ·subst hn
  exact ⟨w,fun ty=>by simp[Builtin.clear_,run_underlying hs],h,Upd.refl _ _⟩
 ·refine ⟨_,fun ty=>Lib.run_clear_slice w s e ty z hs hv hz h1 K 0 n n (by omega) (fun j hj=>?_) (fun j hj=>h.frozen _),row_zeros n 0 w (by omega) h⟩
  rw[h.cell];simp[hj]
end Go.Proofs.YtbjaejgechadpaaGreat
namespace Go.Proofs.YtbjaejgechadpaaGreat
open Go.RowKit Vf
theorem opOk_of {x:In5} (h:instrOk x):opOk x.op:=by
 unfold instrOk hasA hasAB hasABC at h
 unfold opOk
 omega
section
variable {w w':World} {B L K O:Nat} {p:Pg} {vi vo vc vd:Value} {s:LS}
theorem Lk.reK (h:Lk w B L K O p vi vo vc vd s) (u:Upd (·=K) w w') (r:Row w' K (s.kinds.map (Value.int .i64)).toArray 3):Lk w' B L K O p vi vo vc vd s:=
 ⟨h.pg.below (u.below (fun _ e=>e▸h.bK) h.size),u.row h.row h.LK,r,u.row h.outs (Ne.symm h.KO),h.bL,h.bK,h.bO,h.LK,h.LO,h.KO,h.klen,h.olen,h.past0,h.past1⟩
theorem Lk.reO (h:Lk w B L K O p vi vo vc vd s) (u:Upd (·=O) w w') (r:Row w' O (s.outs.map Value.bool).toArray 4):Lk w' B L K O p vi vo vc vd s:=
 ⟨h.pg.below (u.below (fun _ e=>e▸h.bO) h.size),u.row h.row h.LO,u.row h.kinds h.KO,r,h.bL,h.bK,h.bO,h.LK,h.LO,h.KO,h.klen,h.olen,h.past0,h.past1⟩
end
theorem look_no {p:Pg} {k:Nat} (hk:k≤p.code.length) (hb:(stTo p k).bad=true):¬lookOk p:=fun h=>by
 have:=h.1 k hk
 rw[hb] at this
 exact absurd this (by decide)
theorem look_end {p:Pg} (h:∀j,j≤p.code.length→(stTo p j).bad=false):lookOk p↔∀b∈(stTo p p.code.length).outs,b=true:=⟨fun g=>g.2,fun g=>⟨h,g⟩⟩
theorem init_bad (p:Pg):∀j,j≤0→(stTo p j).bad=false:=fun j hj=>by
 obtain rfl:j=0:=by omega
 rfl
theorem stTo_succ {p:Pg} {k:Nat} {x:In5} (h:p.code[k]? =some x):(stTo p k).instr p k x=stTo p (k+1):=by
 rw[stTo,h]
theorem upto_le {f:Nat→Prop} {k:Nat} (h:∀j,j≤k→f j) (h1:f (k+1)):∀j,j≤k+1→f j:=fun j hj=>by
 by_cases e:j=k+1
 ·rw[e];exact h1
 ·exact h j (by omega)
theorem cB_no (q:Prop):cB (¬q)= !cB q:=by by_cases h:q<;>simp[cB,h]
set_option maxRecDepth 100000 in
set_option maxHeartbeats 4000000 in
theorem look_any {w:World} {B L K O:Nat} {p:Pg} {vi vo vc vd:Value} (hm:mayOk p) (h:Lk w B L K O p vi vo vc vd (init p)):
  Calls Tryz.prog 31 #[.pointer (some ⟨L,0,none⟩)] w fun e w'=>e= .returned (.bool (cB (lookOk p)))∧Upd (lkX L K O) w w':=by
 have e1:(init p).kinds.map (Value.int .i64)=List.replicate p.regs.toNat (.int .i64 0):=by simp[init]
 have e2:(init p).outs.map Value.bool=List.replicate p.outs.length (.bool false):=by simp[init]
 have e3:(init p).kinds.length=p.regs.toNat:=by simp[init]
 have e4:(init p).outs.length=p.outs.length:=by simp[init]
 have rk:=h.kinds
 rw[e1] at rk
 obtain ⟨w1,q1,r1,u1⟩:=clear_row (s:=26) (e:=3) rfl (fun w=>by simp[go_sem]) rfl rfl rk
 rw[←e1] at r1
 have h1:=h.reK u1 r1
 have ro:=h1.outs
 rw[e2] at ro
 obtain ⟨w2,q2,r2,u2⟩:=clear_row (s:=48) (e:=4) rfl (fun w=>by simp[go_sem]) rfl rfl ro
 rw[←e2] at r2
 have h2:=h1.reO u2 r2
 have u:Upd (lkX L K O) w w2:=(u1.mono (fun _ e=> .inr (.inl e))).trans (u2.mono (fun _ e=> .inr (.inr e)))
 have l5:=h.row.cell 5
 have l6:=h1.row.cell 6
 have l4:=h2.row.cell 4
 rw[e3,e4] at l5 l6
 simp only[List.getElem?_toArray,List.getElem?_cons_zero,List.getElem?_cons_succ] at l4 l5 l6
 obtain ⟨Ad,cd,rfl,ld,md,sd⟩:=h2.pg.code
 clear rk ro r1 r2 u1 u2 h1 h e1 e2 e3 e4
 have md':cd≤9223372036854775807:=by unfold maxLen at md;omega
 have hcl:=hm.2.2.2.2.2.2.2
 go_enter Tryz.func31,Tryz.ntmps31
 go_wp2_with fail
 go_loopw[19] (fun i wr=>∃k:Nat,k≤p.code.length∧i= .int .i64 k∧Hid (∀j,j≤k→(stTo p j).bad=false)∧Lk wr B L K O p vi vo vc (.slice Ad p.code.length cd) (stTo p k)∧Upd (lkX L K O) w wr) (fun i _=>p.code.length-(intOf i).toNat)
 case atStart=>exact ⟨0,Nat.zero_le _,rfl,⟨init_bad p,h2,u⟩⟩
 case round=>
  clear l4 l5 l6 q1 q2 h2 u sd
  obtain ⟨k,hk,rfl,HN,hL,hu⟩:=hrel
  by_cases hlt:k<p.code.length
  ·have sdr:Sl wr B 5 isIn5 Ad p.code:=by
    obtain ⟨_,_,he,_,_,s⟩:=hL.pg.code
    injection he with e1 e2 e3
    subst e1
    exact s
   obtain ⟨b,off,x,rfl,hb,hxk,hok,c0,c1,c2,c3,c4⟩:=sdr.in5 hlt
   have HI:=Lib.hid (look_inv hm k hk HN.out)
   have HK:=Lib.hid hxk
   have HS:=Lib.hid (stTo_succ hxk)
   have HO:=Lib.hid (opOk_of (hm.2.1 x (List.mem_of_getElem? hxk)))
   have H3:=Lib.hid (show ((stTo p k).takes x.a).1=0∨((stTo p k).takes x.a).1=1∨((stTo p k).takes x.a).1=2 by rw[takes_eq HI.out hm.2.2.2.2.1];exact taken_three HI.out _)
   have hL1:=hL.alloc (.cells #[.int .i64 x.op,.int .i64 x.a,.int .i64 x.b,.int .i64 x.c,.int .i64 x.k] 58)
   clear hxk
   go_wp2_with fail
   refine (instr_any k x hL1 HO.out HI.out.olen (by omega) (by omega) hcl hok.k H3.out).mono ?_
   rintro e w3 ⟨rfl,hl3⟩
   rw[HS.out] at hl3
   have HL:=Lib.hid hl3.1
   have HU:=Lib.hid ((hu.alloc _).trans hl3.2)
   have l8:=hl3.1.row.cell 8
   clear hl3 hL1 hL hu c0 c1 c2 c3 c4
   simp only[List.getElem?_toArray,List.getElem?_cons_zero,List.getElem?_cons_succ] at l8
   generalize hV:(stTo p (k+1)).bad=V at l8
   have HV:=Lib.hid hV
   clear hV
   cases V
   ·have HN':=Lib.hid (upto_le HN.out HV.out)
    go_wp2_with fail
    go_roundw
    case rel=>exact ⟨k+1,by omega,by go_num,HN',HL.out,HU.out⟩
    case measure=>simp[intOf];omega
   ·have HF:=Lib.hid (cB_false (look_no (by omega) HV.out))
    go_wp2_with fail
    go_ret
    exact ⟨ret_bool HF.out.symm,HU.out⟩
  ·obtain rfl:k=p.code.length:=by omega
   have HE:=Lib.hid (look_end HN.out)
   have HC:=Lib.hid (contains_bool hL.outs hL.olen)
   rw[show cB (¬∀b∈(stTo p p.code.length).outs,b=true)= !cB (lookOk p) by rw[cB_congr HE.out];exact cB_no _] at HC
   generalize hV:cB (lookOk p)=V at HC
   have HV:=Lib.hid hV
   clear hV
   have l6:=hL.row.cell 6
   simp only[List.getElem?_toArray,List.getElem?_cons_zero,List.getElem?_cons_succ] at l6
   clear hL
   go_wp2_with fail
   refine HC.out.mono ?_
   rintro e w' ⟨rfl,rfl⟩
   go_wp2_with fail
   go_ret
   exact ⟨by simp[HV.out],hu⟩
end Go.Proofs.YtbjaejgechadpaaGreat
namespace Go.Proofs.YtbjaejgechadpaaGreat
open Go.RowKit Vf
theorem made_one (z:Value) (n:Nat):madeCells #[z] n=(List.replicate n z).toArray:=by
 apply Array.ext
 ·simp[madeCells]
 ·intro i h1 h2
  simp[madeCells,Nat.mod_one]
theorem info_bool:(Tryz.prog.info? 4).map (fun i=>(i.zero,i.size,i.bytes))=some (some (.bool false),1,1):=by kernel_rfl
set_option maxRecDepth 100000 in
theorem make_ints (n:Int) (h0:0≤n) (h1:n≤1600) (W:World):(Instr.makeSlice 26 (.int .i64 n) (.int .i64 n)).run Tryz.prog W= .ok (.slice (some ⟨W.heap.size,0,none⟩) n.toNat n.toNat) (W.alloc (.cells (List.replicate n.toNat (.int .i64 0)).toArray 3)):=by
 obtain ⟨i0,hi0,hz0,hz1,hz2⟩:=info_parts info_int
 rw[run_make (P:=Tryz.prog) W 26 3 i0 (.int .i64 0) rfl hi0 hz0 .i64 .i64 n n h0 (Int.le_refl _) (by rw[hz2];omega) (by omega),hz1,Nat.mul_one,←made_one]
 rfl
set_option maxRecDepth 100000 in
theorem make_bools (n:Int) (h0:0≤n) (h1:n≤1600) (W:World):(Instr.makeSlice 48 (.int .i64 n) (.int .i64 n)).run Tryz.prog W= .ok (.slice (some ⟨W.heap.size,0,none⟩) n.toNat n.toNat) (W.alloc (.cells (List.replicate n.toNat (.bool false)).toArray 4)):=by
 obtain ⟨i0,hi0,hz0,hz1,hz2⟩:=info_parts info_bool
 rw[run_make (P:=Tryz.prog) W 48 4 i0 (.bool false) rfl hi0 hz0 .i64 .i64 n n h0 (Int.le_refl _) (by rw[hz2];omega) (by omega),hz1,Nat.mul_one,←made_one]
 rfl
theorem map_rep {α:Type} (f:α→Value) (n:Nat) (x:α):(Array.replicate n (f x))=((List.replicate n x).map f).toArray:=by simp
theorem lk_new {w1 W:World} {L K O:Nat} {p:Pg} {vi vo vc vd:Value} (hm:mayOk p) (h1:PgAt w1 w1.heap.size p vi vo vc vd) (hb:Below w1.heap.size w1 W)
  (rL:Row W L #[vi,vo,.int .i64 p.regs,vc,vd,.slice (some ⟨K,0,none⟩) p.regs.toNat p.regs.toNat,.slice (some ⟨O,0,none⟩) p.outs.length p.outs.length,.int .i64 0,.bool false] 76)
  (rK:Row W K (Array.replicate p.regs.toNat (.int .i64 0)) 3) (rO:Row W O (Array.replicate p.outs.length (.bool false)) 4)
  (bL:w1.heap.size≤L) (bK:w1.heap.size≤K) (bO:w1.heap.size≤O) (LK:L≠K) (LO:L≠O) (KO:K≠O):Lk W w1.heap.size L K O p vi vo vc vd (init p):=by
 have hr1:=hm.2.2.2.2.2.1
 have ho1:=hm.2.2.2.1.2.2
 refine ⟨h1.below hb,?_,?_,?_,bL,bK,bO,LK,LO,KO,?_,?_,?_,?_⟩
 ·simpa[init] using rL
 ·rw[map_rep] at rK;exact rK
 ·rw[map_rep] at rO;exact rO
 ·simp[init];omega
 ·simp[init];omega
 ·simp[init]
 ·simp[init]
theorem look_below {w w1 W w':World} {L K O:Nat} (hb:Below w.heap.size w w1) (hW:Below w1.heap.size w1 W) (hu:Upd (lkX L K O) W w') (bL:w1.heap.size≤L) (bK:w1.heap.size≤K) (bO:w1.heap.size≤O):Below w.heap.size w w':=by
 have h2:Below w1.heap.size W w':=hu.below (fun k hk=>by rcases hk with rfl|rfl|rfl<;>assumption) hW.size
 exact hb.trans ((hW.trans h2).mono hb.size)
set_option maxRecDepth 100000 in
set_option maxHeartbeats 4000000 in
theorem vright_any (p:Pg) (vi vo vc vd:Value) (w:World) (h:PgAt w w.heap.size p vi vo vc vd):
  Calls Tryz.prog 11 #[pgV p vi vo vc vd] w fun e w'=>e= .returned (.bool (cB (rightOk p)))∧Below w.heap.size w w':=by
 have HV:=Lib.hid (verify_is p)
 have b0:Below w.heap.size w (w.alloc (.cells #[vi,vo,.int .i64 p.regs,vc,vd] 37)):=(Below.refl _ _).alloc (Nat.le_refl _) _
 have h0:=h.next b0
 have bX:=Row.new w #[vi,vo,.int .i64 p.regs,vc,vd] 37
 have HB:=Lib.hid (show ∀W,Below w.heap.size w W→Below w.heap.size w W from fun _ g=>g)
 have hM:=Lib.hid (may_any p vi vo vc vd _ h0)
 obtain ⟨⟨Ai,ci,rfl,li,mi,si⟩,⟨Ao,co,rfl,lo,mo,so⟩,hreg,⟨Ac,cc,rfl,lc,mc,sc⟩,⟨Ad,cd,rfl,ld,md,sd⟩⟩:=h
 go_enter Tryz.func11,Tryz.ntmps11
 go_wp2_with fail
 refine hM.out.mono ?_
 rintro e w1 ⟨rfl,hb1⟩
 have bX1:=bX.below hb1 bX.lt
 have b1:=b0.trans (hb1.mono b0.size)
 have hgx:w.heap.size<w1.heap.size:=bX1.lt
 generalize hV:cB (mayOk p)=V at*
 have HW:=Lib.hid hV
 clear hV
 cases V
 ·go_wp2_with fail
  go_ret
  exact ⟨ret_bool (cB_false (fun g=>cB_not.1 HW.out (HV.out.2 g).1)).symm,b1⟩
 ·have hm:=cB_iff.1 HW.out
  have hr0:=hm.2.2.2.2.1
  have hr1:=hm.2.2.2.2.2.1
  have ho1:=hm.2.2.2.1.2.2
  have h1:=h0.next hb1
  clear h0 bX b0 hb1 si so sc sd hM
  have q0:=bX1.cell 0
  have q1:=bX1.cell 1
  have q2:=bX1.cell 2
  have q3:=bX1.cell 3
  have q4:=bX1.cell 4
  simp only[List.getElem?_toArray,List.getElem?_cons_zero,List.getElem?_cons_succ] at q0 q1 q2 q3 q4
  go_wp2_with fail
  have mk1:=make_ints p.regs hr0 hr1
  have mk2:=make_bools p.outs.length (by omega) (by omega)
  go_region
  ·go_wp2_with fail
   refine (look_any (B:=w1.heap.size) (K:=w1.heap.size) (O:=w1.heap.size+1) hm (lk_new hm h1 ((((Below.refl _ _).alloc (Nat.le_refl _) _).alloc (by simp) _).alloc (by simp;omega) _).drew (rowNew3 _ _ _ _ _).drew (((Row.new _ _ _).alloc _).alloc _).drew ((rowNew2 _ _ _ _).alloc _).drew (by omega) (by omega) (by omega) (by omega) (by omega) (by omega))).mono ?_
   rintro e w' ⟨rfl,hu⟩
   have HF:=Lib.hid (look_below b1 ((((Below.refl _ _).alloc (Nat.le_refl _) _).alloc (by simp) _).alloc (by simp;omega) _).drew hu (by omega) (by omega) (by omega))
   clear hu
   go_wp2_with fail
   go_ret
   exact ⟨ret_bool (cB_congr (by rw[←HV.out];exact ⟨fun g=>⟨hm,g⟩,fun g=>g.2⟩)),HF.out⟩
  ·go_wp2_with fail
   refine (look_any (B:=w1.heap.size) (K:=w1.heap.size+1) (O:=w1.heap.size) hm (lk_new hm h1 ((((Below.refl _ _).alloc (Nat.le_refl _) _).alloc (by simp) _).alloc (by simp;omega) _).drew (rowNew3 _ _ _ _ _).drew ((rowNew2 _ _ _ _).alloc _).drew (((Row.new _ _ _).alloc _).alloc _).drew (by omega) (by omega) (by omega) (by omega) (by omega) (by omega))).mono ?_
   rintro e w' ⟨rfl,hu⟩
   have HF:=Lib.hid (look_below b1 ((((Below.refl _ _).alloc (Nat.le_refl _) _).alloc (by simp) _).alloc (by simp;omega) _).drew hu (by omega) (by omega) (by omega))
   clear hu
   go_wp2_with fail
   go_ret
   exact ⟨ret_bool (cB_congr (by rw[←HV.out];exact ⟨fun g=>⟨hm,g⟩,fun g=>g.2⟩)),HF.out⟩
end Go.Proofs.YtbjaejgechadpaaGreat
namespace Go.Proofs.YtbjaejgechadpaaGreat
open Go.RowKit
def repN (x:Int) (n c:Nat):List Value:=List.replicate n (.int .i64 x)++List.replicate (c-n) (.int .i64 0)
theorem repN_len {x:Int} {n c:Nat} (h:n≤c):(repN x n c).length=c:=by simp[repN];omega
theorem repN_splice {x:Int} {n m c:Nat}:splice (repN x n c) n (List.replicate m (.int .i64 x))=repN x (n+m) c:=by
 unfold splice repN
 rw[List.take_left' (by simp),List.length_replicate,show n+m=(List.replicate n (Value.int .i64 x)).length+m by simp,List.drop_length_add_append,List.drop_replicate,List.length_replicate,←List.append_assoc,List.replicate_append_replicate,show c-n-m=c-(n+m) by omega]
theorem repN_get {x:Int} {n c j:Nat} (h:j<n):(repN x n c)[j]? =some (.int .i64 x):=by
 unfold repN
 rw[List.getElem?_append_left (by simpa using h),List.getElem?_replicate,if_pos h]
theorem repN_zero (x:Int) (c:Nat):repN x 0 c=List.replicate c (.int .i64 0):=by simp[repN]
theorem repN_full (x:Int) (c:Nat):repN x c c=List.replicate c (.int .i64 x):=by simp[repN]
def RepIs (x:Int) (c:Nat) (w:World) (e:Ending) (w':World):Prop:=∃R,e= .returned (.slice (some ⟨R,0,none⟩) c c)∧w.heap.size≤R∧Row w' R (List.replicate c (.int .i64 x)).toArray 3∧Below w.heap.size w w'
set_option maxRecDepth 100000 in
set_option maxHeartbeats 2000000 in
theorem repeat_one (x:Int) (c b off cap:Nat) (hc:c≤1600) (hc1:1≤c) (w:World) (hb:b<w.heap.size) (hx:w.cell? ⟨b,off,none⟩=some (.int .i64 x)):
  Calls Tryz.prog 94 #[.slice (some ⟨b,off,none⟩) 1 cap,.int .i64 c] w (RepIs x c w):=by
 have mk:=make_ints c (by omega) (by omega)
 have e1:IntKind.u64.wrap (c:Int)=(c:Int):=by rw[IntKind.wrap_u64];omega
 have hsz1:(Tryz.prog.info? 3).map (·.size)=some 1:=by kernel_rfl
 have b1:=(Below.refl w.heap.size w).alloc (Nat.le_refl _) (.cells (Array.replicate c (.int .i64 0)) 3)
 have r1:=Row.new w (Array.replicate c (.int .i64 0)) 3
 have hx1:(w.alloc (.cells (Array.replicate c (.int .i64 0)) 3)).cell? ⟨b,off,none⟩=some (.int .i64 x):=(World.cell?_alloc_lt w _ _ hb).trans hx
 have R1:Hid ((w.alloc (.cells (Array.replicate c (.int .i64 0)) 3)).heap[w.heap.size]? =some (.cells (repN x 0 c).toArray 3 (0,0))):=by show _=_;rw[repN_zero];simpa[Row] using r1
 clear r1
 go_enter Tryz.func94,Tryz.ntmps94
 go_wp2_with fail
 refine (mul_one c (by omega) _).mono ?_
 rintro e w' ⟨rfl,rfl⟩
 go_upto_region 7 with (fail)
 go_wp2_with (refine wpList_copy_splice rfl (.tmp 31) (.tmp 32) 26 26 rfl 3 Tryz.underlying26 hsz1 _ _ _ _ _ _ rfl rfl w.heap.size 0 (repN x 0 c) 3 R1.out [.int .i64 x] ?c1 ?c2 ?c3 ?c4 w.heap.size w b1 (Nat.le_refl _) ?_)
 case c1=>exact (Nat.min_eq_left hc1).symm
 case c2=>
  intro j v hv
  match j,hv with
  |0,hv=>simp at hv;subst hv;simpa using hx
 case c3=>rw[repN_len (Nat.zero_le _)];simpa using hc1
 case c4=>intro v hv;simp at hv;subst hv;rfl
 intro w2 hR2 hb2
 have R2:Hid (Row w2 w.heap.size (repN x 1 c).toArray 3):=by
  have:=hR2.out
  rw[show [Value.int .i64 x]=List.replicate 1 (.int .i64 x) from rfl,repN_splice] at this
  exact this
 clear hR2 R1 b1 hx1 mk
 go_wp2_with fail
 go_loopw[8] (fun i wr=>∃n:Nat,1≤n∧n≤c∧i= .int .i64 n∧Hid (Row wr w.heap.size (repN x n c).toArray 3)∧Below w.heap.size w wr) (fun i _=>c-(intOf i).toNat)
 case atStart=>exact ⟨1,by omega,hc1,rfl,R2,hb2⟩
 case round=>
  clear R2 hb2
  obtain ⟨n,hn1,hnc,rfl,HR,hbr⟩:=hrel
  by_cases hlt:n<c
  ·have hi0:(0:Int)≤(n:Int):=by omega
   have hi1:(n:Int)≤(c:Int):=by omega
   have hne:¬(c=n):=by omega
   have hm:min n (c-n)≤c:=by omega
   have HM:Hid (∀v∈List.replicate (min n (c-n)) (Value.int .i64 x),v.oneCell'=true):=fun v hv=>by rw[(List.mem_replicate.1 hv).2];rfl
   have HC:Hid (∀j v,(List.replicate (min n (c-n)) (Value.int .i64 x))[j]? =some v→wr.drew.cell? ((⟨w.heap.size,0,none⟩:Addr).add j)=some v):=by
    intro j v hv
    rw[List.getElem?_replicate] at hv
    split at hv
    ·rename_i hj
     injection hv with hv
     subst hv
     rw[Addr.add_lit,Nat.zero_add]
     refine (Row.cell HR.out.drew j).trans ?_
     rw[List.getElem?_toArray]
     exact repN_get (by omega)
    ·cases hv
   have HL:Hid ((repN x n c).length=c):=repN_len hnc
   go_wp2_with fail
   go_region_held3 (fun _=>True) (first|trivial) (first|((refine step_copy_splice (by rfl) (.tmp 41) (.tmp 44) 26 26 (by rfl) 3 Tryz.underlying26 hsz1 (some ⟨w.heap.size,n,none⟩) (some ⟨w.heap.size,0,none⟩) (c-n) (c-n) n c (by rfl) (by rfl) w.heap.size n (repN x n c) 3 HR.out.drew (List.replicate (min n (c-n)) (.int .i64 x)) (by simp) (fun _=>⟨rfl,_,rfl,HC.out⟩) (by rw[HL.out];simp;omega) HM.out w.heap.size w hbr.drew (Nat.le_refl _) ?_);intro w3 hR3 hb3))
   have R3:Hid (Row w3 w.heap.size (repN x (n+min n (c-n)) c).toArray 3):=by
    have:=hR3.out
    rw[repN_splice] at this
    exact this
   have hlen:(List.replicate (min n (c-n)) (Value.int .i64 x)).length=min n (c-n):=by simp
   have e2:IntKind.i64.wrap ((n:Int)+((min n (c-n):Nat):Int))=(n:Int)+((min n (c-n):Nat):Int):=IntWalk.i64_in _ (by omega)
   generalize hM:min n (c-n)=mm at*
   have hmm:1≤mm:=by omega
   have hmc:n+mm≤c:=by omega
   have HMM:=Lib.hid hM
   clear hM
   go_wp2_with fail
   go_roundw
   case rel=>exact ⟨n+mm,by omega,hmc,by go_num,R3,hb3⟩
   case measure=>simp[intOf];omega
  ·obtain rfl:n=c:=by omega
   go_wp2_with fail
   go_ret
   exact ⟨w.heap.size,rfl,Nat.le_refl _,by rw[←repN_full];exact HR.out,hbr⟩
set_option maxRecDepth 100000 in
set_option maxHeartbeats 2000000 in
theorem repeat_zero (x:Int) (b off cap:Nat) (w:World):
  Calls Tryz.prog 94 #[.slice (some ⟨b,off,none⟩) 1 cap,.int .i64 0] w (RepIs x 0 w):=by
 have mk:=make_ints 0 (by omega) (by omega)
 have e1:IntKind.u64.wrap 0=0:=by decide
 have hsz1:(Tryz.prog.info? 3).map (·.size)=some 1:=by kernel_rfl
 have b1:=Lib.hid ((Below.refl w.heap.size w).alloc (Nat.le_refl _) (.cells (Array.replicate (0:Int).toNat (.int .i64 0)) 3))
 have r1:=Lib.hid (Row.new w (Array.replicate (0:Int).toNat (.int .i64 0)) 3)
 go_enter Tryz.func94,Tryz.ntmps94
 go_wp2_with fail
 refine (mul_one 0 (by omega) _).mono ?_
 rintro e w' ⟨rfl,rfl⟩
 go_upto_region 7 with (fail)
 go_wp2_with (refine wpList_copy_nothing rfl (.tmp 31) (.tmp 32) 26 26 rfl 3 Tryz.underlying26 hsz1 _ _ _ _ _ _ rfl rfl rfl ?_)
 go_wp2_with fail
 go_loopw[8] (fun i wr=>i= .int .i64 0∧Hid (Row wr w.heap.size (Array.replicate (0:Int).toNat (.int .i64 0)) 3∧Below w.heap.size w wr)) (fun i _=>0)
 case atStart=>exact ⟨rfl,r1.out,b1.out⟩
 case round=>
  obtain ⟨rfl,HR⟩:=hrel
  go_wp2_with fail
  go_ret
  exact ⟨w.heap.size,rfl,Nat.le_refl _,HR.out.1,HR.out.2⟩
theorem repeat_any (x:Int) (c b off cap:Nat) (hc:c≤1600) (w:World) (hb:b<w.heap.size) (hx:w.cell? ⟨b,off,none⟩=some (.int .i64 x)):
  Calls Tryz.prog 94 #[.slice (some ⟨b,off,none⟩) 1 cap,.int .i64 c] w (RepIs x c w):=by
 rcases Nat.eq_zero_or_pos c with rfl|h0
 ·exact repeat_zero x b off cap w
 ·exact repeat_one x c b off cap hc h0 w hb hx
end Go.Proofs.YtbjaejgechadpaaGreat
