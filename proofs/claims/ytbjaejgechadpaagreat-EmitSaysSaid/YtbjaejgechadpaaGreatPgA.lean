/-
  Machines' programs in memory; the contracts of package code's May and of row.Right. Which programs may be: the contract of code.May. Arguments that read as data, opened: machines' programs. Appends of whatever slice, nil let in; arguments that are rows of numbers. The contracts of tompionref04.Right and of tompionref27's Value, Has, May.
-/
import Derived.Test.YtbjaejgechadpaaGreatMem
import Derived.Test.YtbjaejgechadpaaGreatPlainA
import Derived.Outline
import Derived.WalkLawsBesides
import Derived.Deep.DeepCutAuto
import Derived.Laws.AppendOwnNone
namespace Go.Proofs.YtbjaejgechadpaaGreat
open Go.RowKit Vf
noncomputable def cB (p:Prop):Bool:= @decide p (Classical.propDecidable p)
theorem cB_true {p:Prop} (h:p):cB p=true:=by unfold cB;exact @decide_eq_true p (Classical.propDecidable p) h
theorem cB_false {p:Prop} (h:¬p):cB p=false:=by unfold cB;exact @decide_eq_false p (Classical.propDecidable p) h
theorem cB_iff {p:Prop}:cB p=true↔p:=⟨fun h=>Classical.byContradiction fun hn=>(by rw[cB_false hn] at h;cases h),cB_true⟩
theorem cB_not {p:Prop}:cB p=false↔¬p:=⟨fun h hp=>(by rw[cB_true hp] at h;cases h),cB_false⟩
theorem cB_congr {p q:Prop} (h:p↔q):cB p=cB q:=by rw[Bool.eq_iff_iff,cB_iff,cB_iff];exact h
theorem ret_i64 {a b:Int} (h:a=b):Ending.returned (.int .i64 a)= .returned (.int .i64 b):=by rw[h]
theorem upto_succ {k:Nat} {P:Nat→Prop} (h:∀j,j<k→P j) (hk:P k):∀j,j<k+1→P j:=fun j hj=>by
 rcases Nat.lt_or_ge j k with h1|h1
 ·exact h j h1
 ·obtain rfl:j=k:=by omega
  exact hk
def isCell (c:Int × Int) (cs:List Value):Prop:=cs=[.int .i64 c.1,.int .i64 c.2]∧Wf c.1∧Wf c.2
structure In5Ok (x:In5):Prop where
 op:Wf x.op
 a:Wf x.a
 b:Wf x.b
 c:Wf x.c
 k:Wf x.k
def isIn5 (x:In5) (cs:List Value):Prop:=cs=[.int .i64 x.op,.int .i64 x.a,.int .i64 x.b,.int .i64 x.c,.int .i64 x.k]∧In5Ok x
theorem Sl.cell {w:World} {B:Nat} {A:Option Addr} {l:List (Int × Int)} {k:Nat} (h:Sl w B 2 isCell A l) (hk:k<l.length):∃b off x,A=some ⟨b,off,none⟩∧b<B∧l[k]? =some x∧Wf x.1∧Wf x.2∧
  w.cell? ⟨b,off+k*2,none⟩=some (.int .i64 x.1)∧w.cell? ⟨b,off+k*2+1,none⟩=some (.int .i64 x.2):=by
 obtain ⟨b,off,x,cs,h1,h2,h3,⟨rfl,h4⟩,h5⟩:=h.at_ hk
 exact ⟨b,off,x,h1,h2,h3,h4.1,h4.2,h5 0 _ rfl,h5 1 _ rfl⟩
theorem Sl.in5 {w:World} {B:Nat} {A:Option Addr} {l:List In5} {k:Nat} (h:Sl w B 5 isIn5 A l) (hk:k<l.length):∃b off x,A=some ⟨b,off,none⟩∧b<B∧l[k]? =some x∧In5Ok x∧
  w.cell? ⟨b,off+k*5,none⟩=some (.int .i64 x.op)∧w.cell? ⟨b,off+k*5+1,none⟩=some (.int .i64 x.a)∧w.cell? ⟨b,off+k*5+2,none⟩=some (.int .i64 x.b)∧
  w.cell? ⟨b,off+k*5+3,none⟩=some (.int .i64 x.c)∧w.cell? ⟨b,off+k*5+4,none⟩=some (.int .i64 x.k):=by
 obtain ⟨b,off,x,cs,h1,h2,h3,⟨rfl,h4⟩,h5⟩:=h.at_ hk
 exact ⟨b,off,x,h1,h2,h3,h4,h5 0 _ rfl,h5 1 _ rfl,h5 2 _ rfl,h5 3 _ rfl,h5 4 _ rfl⟩
abbrev in5V (x:In5):Value:= .agg #[.int .i64 x.op,.int .i64 x.a,.int .i64 x.b,.int .i64 x.c,.int .i64 x.k]
structure PgAt (w:World) (B:Nat) (p:Pg) (vi vo vc vd:Value):Prop where
 ins:SlV w B 1 isInt vi p.ins
 outs:SlV w B 1 isInt vo p.outs
 regs:Wf p.regs
 cells:SlV w B 2 isCell vc p.cells
 code:SlV w B 5 isIn5 vd p.code
abbrev pgV (p:Pg) (vi vo vc vd:Value):Value:= .agg #[vi,vo,.int .i64 p.regs,vc,vd]
theorem PgAt.below {w w':World} {B:Nat} {p:Pg} {vi vo vc vd:Value} (h:PgAt w B p vi vo vc vd) (hb:Below B w w'):PgAt w' B p vi vo vc vd:=
 ⟨h.ins.below hb,h.outs.below hb,h.regs,h.cells.below hb,h.code.below hb⟩
theorem PgAt.more {w:World} {B B':Nat} {p:Pg} {vi vo vc vd:Value} (h:PgAt w B p vi vo vc vd) (hB:B≤B'):PgAt w B' p vi vo vc vd:=
 ⟨h.ins.more hB,h.outs.more hB,h.regs,h.cells.more hB,h.code.more hB⟩
theorem PgAt.next {w w':World} {p:Pg} {vi vo vc vd:Value} (h:PgAt w w.heap.size p vi vo vc vd) (hb:Below w.heap.size w w'):PgAt w' w'.heap.size p vi vo vc vd:=(h.below hb).more hb.size
def fieldsZ (op:Int):Int:=if op=1∨op=2∨op=21∨(28≤op∧op≤32) then 9 else if op=3∨op=5∨op=6 then 3 else if 7≤op∧op≤20 then 7 else if op=27 then 15 else 0
set_option maxHeartbeats 2000000 in
theorem fields_any (op:Int) (w:World):
  Calls Tryz.prog 77 #[.int .i64 op] w fun e w'=>e= .returned (.int .i64 (fieldsZ op))∧w=w':=by
 go_enter Tryz.func77,Tryz.ntmps77
 go_wp2
 all_goals
  go_ret
  refine ⟨ret_i64 ?_,rfl⟩
  (try simp only[beq_iff_eq,beq_eq_false_iff_ne] at*)
  unfold fieldsZ
  repeat' split
  all_goals omega
theorem value_any (kind n:Int) (w:World):
  Calls Tryz.prog 56 #[.int .i64 kind,.int .i64 n] w fun e w'=>e= .returned (.bool (cB (valueOk kind n)))∧w=w':=by
 go_enter Tryz.func56,Tryz.ntmps56
 go_wp2
 all_goals
  go_ret
  refine ⟨ret_bool ?_,rfl⟩
  rw[Bool.eq_iff_iff,cB_iff]
  simp[valueOk]
  omega
theorem bits9_2:bits .and .i64 9 2=0:=by decide
theorem bits9_4:bits .and .i64 9 4=0:=by decide
theorem bits9_8:bits .and .i64 9 8=8:=by decide
theorem bits3_2:bits .and .i64 3 2=2:=by decide
theorem bits3_4:bits .and .i64 3 4=0:=by decide
theorem bits3_8:bits .and .i64 3 8=0:=by decide
theorem bits7_2:bits .and .i64 7 2=2:=by decide
theorem bits7_4:bits .and .i64 7 4=4:=by decide
theorem bits7_8:bits .and .i64 7 8=0:=by decide
theorem bits15_2:bits .and .i64 15 2=2:=by decide
theorem bits15_4:bits .and .i64 15 4=4:=by decide
theorem bits15_8:bits .and .i64 15 8=8:=by decide
theorem instrOk_iff (x:In5):instrOk x↔fieldsZ x.op≠0∧0≤x.a∧0≤x.b∧0≤x.c∧(fieldsZ x.op=9→x.b=0∧x.c=0)∧(fieldsZ x.op=3→x.c=0∧x.k=0)∧(fieldsZ x.op=7→x.k=0):=by
 unfold instrOk hasA hasAB hasABC fieldsZ
 by_cases h1:x.op=1∨x.op=2∨x.op=21∨(28≤x.op∧x.op≤32)
 ·rw[if_pos h1];omega
 ·rw[if_neg h1]
  by_cases h2:x.op=3∨x.op=5∨x.op=6
  ·rw[if_pos h2];omega
  ·rw[if_neg h2]
   by_cases h3:7≤x.op∧x.op≤20
   ·rw[if_pos h3];omega
   ·rw[if_neg h3]
    by_cases h4:x.op=27
    ·rw[if_pos h4];omega
    ·rw[if_neg h4];omega
theorem fields_cases (op:Int):fieldsZ op=0∨fieldsZ op=9∨fieldsZ op=3∨fieldsZ op=7∨fieldsZ op=15:=by unfold fieldsZ;repeat' split;all_goals omega
set_option maxHeartbeats 4000000 in
theorem codeInstr_any (x:In5) (w:World):
  Calls Tryz.prog 57 #[in5V x] w fun e w'=>e= .returned (.bool (cB (instrOk x)))∧Below w.heap.size w w':=by
 have HE:=Lib.hid (instrOk_iff x)
 have hF:=fields_cases x.op
 go_enter Tryz.func57,Tryz.ntmps57
 go_wp2_with fail
 refine (fields_any x.op _).mono ?_
 rintro e w' ⟨rfl,rfl⟩
 generalize fieldsZ x.op=F at*
 have k1:=bits9_2
 have k2:=bits9_4
 have k3:=bits9_8
 have k4:=bits3_2
 have k5:=bits3_4
 have k6:=bits3_8
 have k7:=bits7_2
 have k8:=bits7_4
 have k9:=bits7_8
 have k10:=bits15_2
 have k11:=bits15_4
 have k12:=bits15_8
 rcases hF with rfl|rfl|rfl|rfl|rfl
 all_goals
  go_wp2_with fail
  all_goals
   go_ret
   refine ⟨ret_bool ?_,(Below.refl _ _).alloc (Nat.le_refl _) _⟩
   rw[Bool.eq_iff_iff,cB_iff,HE.out]
   simp
   try omega
theorem types_no {l:List Int} {k:Nat} {t:Int} (h:l[k]? =some t) (h1:t≠1) (h2:t≠2):¬typesOk l:=fun ht=>by
 rcases ht.1 t (List.mem_of_getElem? h) with h|h
 ·exact h1 h
 ·exact h2 h
theorem types_yes {l:List Int} (h:∀j,j<l.length→∀t,l[j]? =some t→t=1∨t=2):typesOk l↔1≤l.length∧l.length≤8:=by
 unfold typesOk
 refine ⟨fun h'=>h'.2,fun h'=>⟨fun t ht=>?_,h'⟩⟩
 obtain ⟨j,hj⟩:=List.getElem?_of_mem ht
 exact h j (List.getElem?_eq_some_iff.1 hj).1 t hj
set_option maxHeartbeats 1000000 in
theorem rowRight_any (l:List Int) (A:Option Addr) (cap B:Nat) (w:World) (hcap:l.length≤cap) (hmax:cap≤maxLen) (hl:Sl w B 1 isInt A l):
  Calls Tryz.prog 58 #[.slice A l.length cap] w fun e w'=>e= .returned (.bool (cB (typesOk l)))∧w=w':=by
 unfold maxLen at hmax
 go_enter Tryz.func58,Tryz.ntmps58
 go_wp2_with fail
 go_loop[7] (fun i=>∃k:Nat,k≤l.length∧i= .int .i64 k∧Hid (∀j,j<k→∀t,l[j]? =some t→t=1∨t=2)) (fun i=>l.length-(intOf i).toNat)
 case atStart=>exact ⟨0,Nat.zero_le _,rfl,fun j h=>absurd h (by omega)⟩
 case round=>
  obtain ⟨k,hk,rfl,HN⟩:=hrel
  by_cases hlt:k<l.length
  ·obtain ⟨b,off,t,rfl,hb,hxk,hwf,hc⟩:=hl.int hlt
   have HK:=Lib.hid hxk
   clear hxk
   by_cases h1:t=1
   ·have h1':(t !=1)=false:=by simp[h1]
    have HN':=Lib.hid (upto_succ HN.out (fun y hy=>by rw[HK.out] at hy;injection hy with hy;rw[←hy];exact .inl h1))
    clear h1
    go_wp2_with fail
    go_round
    case rel=>exact ⟨k+1,by omega,by go_num,HN'⟩
    case measure=>simp[intOf];omega
   ·have h1':(t !=1)=true:=by simp[h1]
    by_cases h2:t=2
    ·have h2':(t !=2)=false:=by simp[h2]
     have HN':=Lib.hid (upto_succ HN.out (fun y hy=>by rw[HK.out] at hy;injection hy with hy;rw[←hy];exact .inr h2))
     clear h1 h2
     go_wp2_with fail
     go_round
     case rel=>exact ⟨k+1,by omega,by go_num,HN'⟩
     case measure=>simp[intOf];omega
    ·have h2':(t !=2)=true:=by simp[h2]
     have HF:=Lib.hid (cB_false (types_no HK.out h1 h2))
     clear h1 h2
     go_wp2_with fail
     go_ret
     exact ⟨ret_bool HF.out.symm,rfl⟩
  ·obtain rfl:k=l.length:=by omega
   have HF:=Lib.hid (cB_congr (types_yes HN.out))
   go_wp2_with fail
   all_goals
    go_ret
    refine ⟨ret_bool ?_,rfl⟩
    rw[HF.out,Bool.eq_iff_iff,cB_iff]
    simp
    try omega
end Go.Proofs.YtbjaejgechadpaaGreat
namespace Go.Proofs.YtbjaejgechadpaaGreat
open Go.RowKit Vf
theorem pgBox {w wr:World} {p:Pg} {vi vo vc vd:Value} (hb:Below (w.heap.size+1) (w.alloc (.cells #[vi,vo,.int .i64 p.regs,vc,vd] 37)) wr):
  (wr.cell? ⟨w.heap.size,0,none⟩=some vi∧wr.cell? ⟨w.heap.size,1,none⟩=some vo∧wr.cell? ⟨w.heap.size,2,none⟩=some (.int .i64 p.regs)∧wr.cell? ⟨w.heap.size,3,none⟩=some vc∧wr.cell? ⟨w.heap.size,4,none⟩=some vd)∧
  Below w.heap.size w wr∧w.heap.size+1≤wr.heap.size:=by
 have hR:=(Row.new w #[vi,vo,.int .i64 p.regs,vc,vd] 37).below hb (Nat.lt_succ_self _)
 exact ⟨⟨hR.cell 0,hR.cell 1,hR.cell 2,hR.cell 3,hR.cell 4⟩,((Below.refl _ _).alloc (Nat.le_refl _) _).trans (hb.mono (Nat.le_succ _)),by have:=hb.size;simpa using this⟩
theorem may_cells {p:Pg} {k:Nat} {c:Int × Int} (h:p.cells[k]? =some c) (hc:¬valueOk c.1 c.2):¬mayOk p:=fun hm=>hc (hm.1 c (List.mem_of_getElem? h))
theorem may_code {p:Pg} {k:Nat} {x:In5} (h:p.code[k]? =some x) (hc:¬instrOk x):¬mayOk p:=fun hm=>hc (hm.2.1 x (List.mem_of_getElem? h))
theorem may_rest {p:Pg} (h1:∀j,j<p.cells.length→∀c,p.cells[j]? =some c→valueOk c.1 c.2) (h2:∀j,j<p.code.length→∀x,p.code[j]? =some x→instrOk x):
  mayOk p↔typesOk p.ins∧typesOk p.outs∧0≤p.regs∧p.regs≤1600∧p.cells.length≤60∧p.code.length≤2048:=by
 unfold mayOk
 refine ⟨fun h=>h.2.2,fun h=>⟨fun c hc=>?_,fun x hx=>?_,h⟩⟩
 ·obtain ⟨j,hj⟩:=List.getElem?_of_mem hc
  exact h1 j (List.getElem?_eq_some_iff.1 hj).1 c hj
 ·obtain ⟨j,hj⟩:=List.getElem?_of_mem hx
  exact h2 j (List.getElem?_eq_some_iff.1 hj).1 x hj
set_option maxRecDepth 100000 in
set_option maxHeartbeats 4000000 in
theorem may_any (p:Pg) (vi vo vc vd:Value) (w:World) (h:PgAt w w.heap.size p vi vo vc vd):
  Calls Tryz.prog 30 #[pgV p vi vo vc vd] w fun e w'=>e= .returned (.bool (cB (mayOk p)))∧Below w.heap.size w w':=by
 obtain ⟨⟨Ai,ci,rfl,li,mi,si⟩,⟨Ao,co,rfl,lo,mo,so⟩,hreg,⟨Ac,cc,rfl,lc,mc,sc⟩,⟨Ad,cd,rfl,ld,md,sd⟩⟩:=h
 have mc':cc≤9223372036854775807:=by unfold maxLen at mc;omega
 have md':cd≤9223372036854775807:=by unfold maxLen at md;omega
 go_enter Tryz.func30,Tryz.ntmps30
 go_wp2_with fail
 go_loopw[10] (fun i wr=>∃k:Nat,k≤p.cells.length∧i= .int .i64 k∧Hid (∀j,j<k→∀c,p.cells[j]? =some c→valueOk c.1 c.2)∧Below (w.heap.size+1) (w.alloc (.cells #[.slice Ai p.ins.length ci,.slice Ao p.outs.length co,.int .i64 p.regs,.slice Ac p.cells.length cc,.slice Ad p.code.length cd] 37)) wr) (fun i _=>p.cells.length-(intOf i).toNat)
 case atStart=>exact ⟨0,Nat.zero_le _,rfl,fun j h=>absurd h (by omega),by simpa using Below.refl _ _⟩
 case round=>
  obtain ⟨k,hk,rfl,HN,hbox⟩:=hrel
  obtain ⟨⟨q0,q1,q2,q3,q4⟩,hbel,hsz⟩:=pgBox hbox
  by_cases hlt:k<p.cells.length
  ·obtain ⟨b,off,c,rfl,hb,hxk,hw1,hw2,c0,c1⟩:=(sc.below hbel).cell hlt
   have HK:=Lib.hid hxk
   clear hxk
   go_wp2_with fail
   refine (value_any c.1 c.2 _).mono ?_
   rintro e w' ⟨rfl,rfl⟩
   generalize hV:cB (valueOk c.1 c.2)=V at*
   have HV:=Lib.hid hV
   clear hV
   cases V
   ·have HF:=Lib.hid (cB_false (may_cells HK.out (cB_not.1 HV.out)))
    go_wp2_with fail
    go_ret
    exact ⟨ret_bool HF.out.symm,hbel.alloc (by omega) _⟩
   ·have HN':=Lib.hid (upto_succ HN.out (fun y hy=>by rw[HK.out] at hy;injection hy with hy;rw[←hy];exact cB_iff.1 HV.out))
    go_wp2_with fail
    go_roundw
    case rel=>exact ⟨k+1,by omega,by go_num,HN',hbox.alloc (by omega) _⟩
    case measure=>simp[intOf];omega
  ·obtain rfl:k=p.cells.length:=by omega
   have HC:=Lib.hid HN.out
   clear HN hk hlt
   go_wp2_with fail
   go_loopw[24] (fun i wr=>∃k:Nat,k≤p.code.length∧i= .int .i64 k∧Hid (∀j,j<k→∀x,p.code[j]? =some x→instrOk x)∧Below (w.heap.size+1) (w.alloc (.cells #[.slice Ai p.ins.length ci,.slice Ao p.outs.length co,.int .i64 p.regs,.slice Ac p.cells.length cc,.slice Ad p.code.length cd] 37)) wr) (fun i _=>p.code.length-(intOf i).toNat)
   case atStart=>exact ⟨0,Nat.zero_le _,rfl,fun j h=>absurd h (by omega),hbox⟩
   case round=>
    clear hbox hbel hsz q0 q1 q2 q3 q4
    obtain ⟨k,hk,rfl,HN,hbox⟩:=hrel
    obtain ⟨⟨q0,q1,q2,q3,q4⟩,hbel,hsz⟩:=pgBox hbox
    by_cases hlt:k<p.code.length
    ·obtain ⟨b,off,x,rfl,hb,hxk,hok,c0,c1,c2,c3,c4⟩:=(sd.below hbel).in5 hlt
     have HK:=Lib.hid hxk
     clear hxk
     go_wp2_with fail
     refine (codeInstr_any x _).mono ?_
     rintro e w2 ⟨rfl,hb2⟩
     have hbox2:=(hbox.alloc (by omega) (.cells #[.int .i64 x.op,.int .i64 x.a,.int .i64 x.b,.int .i64 x.c,.int .i64 x.k] 58)).trans (hb2.mono (by simp;omega))
     generalize hV:cB (instrOk x)=V at*
     have HV:=Lib.hid hV
     clear hV hbox
     cases V
     ·have HF:=Lib.hid (cB_false (may_code HK.out (cB_not.1 HV.out)))
      go_wp2_with fail
      go_ret
      exact ⟨ret_bool HF.out.symm,(pgBox hbox2).2.1⟩
     ·have HN':=Lib.hid (upto_succ HN.out (fun y hy=>by rw[HK.out] at hy;injection hy with hy;rw[←hy];exact cB_iff.1 HV.out))
      go_wp2_with fail
      go_roundw
      case rel=>exact ⟨k+1,by omega,by go_num,HN',hbox2⟩
      case measure=>simp[intOf];omega
    ·obtain rfl:k=p.code.length:=by omega
     have HM:=Lib.hid (may_rest HC.out HN.out)
     clear HC HN
     go_wp2_with fail
     refine (rowRight_any p.ins Ai ci _ _ li mi (si.below hbel)).mono ?_
     rintro e w' ⟨rfl,rfl⟩
     generalize hV:cB (typesOk p.ins)=V at*
     have HV:=Lib.hid hV
     clear hV
     cases V
     ·have HF:=Lib.hid (cB_false (fun h=>cB_not.1 HV.out (HM.out.1 h).1))
      go_wp2_with fail
      go_ret
      exact ⟨ret_bool HF.out.symm,hbel⟩
     go_wp2_with fail
     refine (rowRight_any p.outs Ao co _ _ lo mo (so.below hbel)).mono ?_
     rintro e w' ⟨rfl,rfl⟩
     generalize hV2:cB (typesOk p.outs)=V2 at*
     have HV2:=Lib.hid hV2
     clear hV2
     cases V2
     ·have HF:=Lib.hid (cB_false (fun h=>cB_not.1 HV2.out (HM.out.1 h).2.1))
      go_wp2_with fail
      go_ret
      exact ⟨ret_bool HF.out.symm,hbel⟩
     have HM2:=Lib.hid (cB_congr (show mayOk p↔0≤p.regs∧p.regs≤1600∧p.cells.length≤60∧p.code.length≤2048 from ⟨fun h=>(HM.out.1 h).2.2,fun h=>HM.out.2 ⟨cB_iff.1 HV.out,cB_iff.1 HV2.out,h⟩⟩))
     clear HM HV HV2
     go_wp2_with fail
     all_goals
      go_ret
      refine ⟨ret_bool ?_,hbel⟩
      rw[HM2.out,Bool.eq_iff_iff,cB_iff]
      simp
      try omega
end Go.Proofs.YtbjaejgechadpaaGreat
namespace Go.Proofs.YtbjaejgechadpaaGreat
open Go.RowKit Vf
theorem list2 {α:Type} {l:List α} (h:l.length=2):∃a b,l=[a,b]:=by
 match l,h with
 | [a,b],_=>exact ⟨a,b,rfl⟩
section
variable {H:Type} {enc:TypeId × Value→H} {w:World} {spare:Nat→Bool} {held:Bool}
theorem cells_int:Tryz.prog.cellsOf 3=1:=by kernel_rfl
theorem cells_ints:Tryz.prog.cellsOf 26=1:=by kernel_rfl
theorem cells_cell:Tryz.prog.cellsOf 64=2:=by kernel_rfl
theorem cells_cells:Tryz.prog.cellsOf 24=1:=by kernel_rfl
set_option maxRecDepth 100000 in
theorem open_cell (fuel:Nat) (cs:List Value) (x:DataW H × List MemPlace) (h:DataW.trod enc Tryz.prog w 0 spare held fuel 64 cs=some x):∃c,isCell c cs:=by
 obtain ⟨xs,n,_,_,hlen,hxl,hf⟩:=DataW.trod_struct Tryz.underlying64 h
 rw[cells_cell] at hlen
 obtain ⟨c0,c1,rfl⟩:=list2 hlen
 have hx:xs.length=2:=hxl
 have e0:xs[0]? =some (xs[0]'(by omega)):=List.getElem?_eq_getElem (by omega)
 have e1:xs[1]? =some (xs[1]'(by omega)):=List.getElem?_eq_getElem (by omega)
 have h0:DataW.trod enc Tryz.prog w 0 spare held n 3 (([c0,c1].drop 0).take (Tryz.prog.cellsOf 3))=some xs[0]:=(hf 0 _ rfl).trans e0
 have h1:DataW.trod enc Tryz.prog w 0 spare held n 3 (([c0,c1].drop 1).take (Tryz.prog.cellsOf 3))=some xs[1]:=(hf 1 _ rfl).trans e1
 obtain ⟨a,ha,_,wa⟩:=DataW.trod_int Tryz.underlying3 h0
 obtain ⟨b,hb,_,wb⟩:=DataW.trod_int Tryz.underlying3 h1
 rw[cells_int] at ha hb
 simp at ha hb
 subst ha;subst hb
 exact ⟨(a,b),rfl,wa,wb⟩
theorem isInt_len (y:Int) (cs:List Value) (h:isInt y cs):cs.length=1:=by rw[h.1];rfl
theorem isCell_len (y:Int × Int) (cs:List Value) (h:isCell y cs):cs.length=2:=by rw[h.1];rfl
theorem open_ints {fuel:Nat} {c:Value} {x:DataW H × List MemPlace} (h:DataW.trod enc Tryz.prog w 0 spare held fuel 26 [c]=some x):∃l,SlV w w.heap.size 1 isInt c l:=
 open_sl Tryz.underlying26 cells_int (by decide) fuel (fun n _ cs x h=>open_isInt Tryz.underlying3 n cs x h) isInt_len 0 h
end
end Go.Proofs.YtbjaejgechadpaaGreat
namespace Go.Proofs.YtbjaejgechadpaaGreat
open Go.RowKit Vf
def NilOk (v:Value):Prop:=∀n c,v= .slice none n c→n=0∧c=0
theorem NilOk.some {ad:Addr} {n c:Nat}:NilOk (.slice (some ad) n c):=fun _ _ h=>by injection h with h;cases h
theorem NilOk.nil:NilOk (.slice none 0 0):=fun _ _ h=>by injection h with _ h1 h2;exact ⟨h1.symm,h2.symm⟩
theorem own_nilOk {w:World} {base:Nat} {e:TypeId} {size:Nat} {v:Value} {n:Nat} {xs:List Value} (h:w.ownsRow base e size v n xs):NilOk v:=by
 rcases h.2 with ⟨rfl,_⟩|⟨g,cap,cur,rfl,_⟩
 ·exact NilOk.nil
 ·exact NilOk.some
def IntsIs (w:World) (l:List Int) (v:Value):Prop:=SlV w w.heap.size 1 isInt v l∧NilOk v
section
variable {H:Type} {enc:TypeId × Value→H} {w:World} {spare:Nat→Bool} {held:Bool}
end
section
variable {P:Program} (w:World)
theorem wpList_append_opt {ops:Array Oper} {rest:List Oper} {o:Oper} {a:Act} {Q:Exit→Act→World→Prop} (hgd:o.guard=none) (s x:Operand) (t:TypeId)
  (ho:o.op= .call {callee:= .builtin .append,args:= #[s,x],argTypes:= #[t,t]})
  (base:Nat) (e:TypeId) (i:TypeInfo) (z:Value) (size bytes:Nat) (ht:P.underlying t=some (.slice e)) (hi:P.info? e=some i) (hz:i.zero=some z)
  (hsize:i.size=size) (hby:i.bytes=bytes) (hzs:z.cells.size=size) (hsz:0<size)
  (v:Value) (n:Nat) (xs:List Value) (hs:a.eval s=v) (hown:w.ownsRow base e size v n xs)
  (A:Option Addr) (m c:Nat) (news:List Value) (hx:a.eval x= .slice A m c) (hnil:NilOk (.slice A m c)) (hl:news.length=m*size) (hnews:∀ad,A=some ad→∀j u,news[j]? =some u→w.cell? (ad.add j)=some u) (h1:∀u∈news,u.oneCell'=true)
  (h63:n+m≤maxLen) (hbytes:(n+m)*bytes≤140737488355328) (hbase:base≤w.heap.size)
  (h:∀v' w',w'.ownsRow base e size v' (n+m) (xs++news)→Below base w w'→wpList P ops Q rest (a.put o.dst v') w'):wpList P ops Q (o::rest) a w:=by
 cases A with
 |none=>
  obtain ⟨rfl,rfl⟩:=hnil m c rfl
  have hn:news=[]:=List.eq_nil_of_length_eq_zero (by omega)
  subst hn
  refine wpList_append_own_none hgd s x t ho base e i size ht hi v n xs hs hown hx ?_
  refine h v w ?_ (Below.refl _ _)
  rw[List.append_nil,Nat.add_zero]
  exact hown
 |some ad=>
  refine wpList_append_any w hgd s x t ho base e i z size bytes ht hi hz hsize hby hzs hsz v n xs hs hown ad m c news hx hl (hnews ad rfl) h1 h63 hbytes hbase ?_
  intro v' w' h2 h3 _
  exact h v' w' h2 (below_own (Below.refl _ _) hown h3 hbase)
end
end Go.Proofs.YtbjaejgechadpaaGreat
namespace Go.Proofs.YtbjaejgechadpaaGreat
open Go.RowKit Vf
set_option maxHeartbeats 1000000 in
theorem rref04_any (l:List Int) (A:Option Addr) (cap B:Nat) (w:World) (hcap:l.length≤cap) (hmax:cap≤maxLen) (hl:Sl w B 1 isInt A l):
  Calls Tryz.prog 22 #[.slice A l.length cap] w fun e w'=>e= .returned (.bool (cB (typesOk l)))∧w=w':=by
 unfold maxLen at hmax
 go_enter Tryz.func22,Tryz.ntmps22
 go_wp2_with fail
 go_loop[3] (fun i=>∃k:Nat,k≤l.length∧i= .int .i64 k∧Hid (∀j,j<k→∀t,l[j]? =some t→t=1∨t=2)) (fun i=>l.length-(intOf i).toNat)
 case atStart=>exact ⟨0,Nat.zero_le _,rfl,fun j h=>absurd h (by omega)⟩
 case round=>
  obtain ⟨k,hk,rfl,HN⟩:=hrel
  by_cases hlt:k<l.length
  ·obtain ⟨b,off,t,rfl,hb,hxk,hwf,hc⟩:=hl.int hlt
   have HK:=Lib.hid hxk
   clear hxk
   by_cases h1:t=1
   ·have h1':(t !=1)=false:=by simp[h1]
    have HN':=Lib.hid (upto_succ HN.out (fun y hy=>by rw[HK.out] at hy;injection hy with hy;rw[←hy];exact .inl h1))
    clear h1
    go_wp2_with fail
    go_round
    case rel=>exact ⟨k+1,by omega,by go_num,HN'⟩
    case measure=>simp[intOf];omega
   ·have h1':(t !=1)=true:=by simp[h1]
    by_cases h2:t=2
    ·have h2':(t !=2)=false:=by simp[h2]
     have HN':=Lib.hid (upto_succ HN.out (fun y hy=>by rw[HK.out] at hy;injection hy with hy;rw[←hy];exact .inr h2))
     clear h1 h2
     go_wp2_with fail
     go_round
     case rel=>exact ⟨k+1,by omega,by go_num,HN'⟩
     case measure=>simp[intOf];omega
    ·have h2':(t !=2)=true:=by simp[h2]
     have HF:=Lib.hid (cB_false (types_no HK.out h1 h2))
     clear h1 h2
     go_wp2_with fail
     go_ret
     exact ⟨ret_bool HF.out.symm,rfl⟩
  ·obtain rfl:k=l.length:=by omega
   have HF:=Lib.hid (cB_congr (types_yes HN.out))
   go_wp2_with fail
   all_goals
    go_ret
    refine ⟨ret_bool ?_,rfl⟩
    rw[HF.out,Bool.eq_iff_iff,cB_iff]
    simp
    try omega
theorem rvalue_any (kind n:Int) (w:World):
  Calls Tryz.prog 62 #[.int .i64 kind,.int .i64 n] w fun e w'=>e= .returned (.bool (cB (valueOk kind n)))∧w'=w:=by
 go_enter Tryz.func62,Tryz.ntmps62
 go_wp2
 all_goals
  go_ret
  refine ⟨ret_bool ?_,rfl⟩
  rw[Bool.eq_iff_iff,cB_iff]
  simp[valueOk]
  omega
def hasN (op:Int):Int:=if op=1∨op=2∨op=21∨(28≤op∧op≤32) then 1 else if op=3∨op=5∨op=6 then 2 else if 7≤op∧op≤20 then 3 else if op=27 then 3 else 0
def hasKB (op:Int):Bool:=decide ((op=1∨op=2∨op=21∨(28≤op∧op≤32))∨op=27)
theorem ret_ib {a b:Int} {c d:Bool} (h:a=b) (h':c=d):Ending.returned (.tuple #[.int .i64 a,.bool c])= .returned (.tuple #[.int .i64 b,.bool d]):=by rw[h,h']
set_option maxHeartbeats 2000000 in
theorem rhas_any (op:Int) (w:World):
  Calls Tryz.prog 65 #[.int .i64 op] w fun e w'=>e= .returned (.tuple #[.int .i64 (hasN op),.bool (hasKB op)])∧w=w':=by
 go_enter Tryz.func65,Tryz.ntmps65
 go_wp2
 all_goals
  go_ret2
  refine ⟨ret_ib ?_ ?_,rfl⟩
  ·(try simp only[beq_iff_eq,beq_eq_false_iff_ne] at*)
   unfold hasN
   repeat' split
   all_goals omega
  ·(try simp only[beq_iff_eq,beq_eq_false_iff_ne] at*)
   unfold hasKB
   simp
   try omega
theorem has_cases (op:Int):(hasN op=0∧hasKB op=false)∨(hasN op=1∧hasKB op=true)∨(hasN op=2∧hasKB op=false)∨(hasN op=3∧hasKB op=false)∨(hasN op=3∧hasKB op=true):=by
 unfold hasN hasKB
 simp only[decide_eq_true_eq,decide_eq_false_iff_not]
 repeat' split
 all_goals omega
theorem instrOk_has (x:In5):instrOk x↔hasN x.op≠0∧0≤x.a∧0≤x.b∧0≤x.c∧(hasN x.op<2→x.b=0)∧(hasN x.op<3→x.c=0)∧(hasKB x.op=false→x.k=0):=by
 unfold instrOk hasA hasAB hasABC hasN hasKB
 simp only[decide_eq_false_iff_not]
 by_cases h1:x.op=1∨x.op=2∨x.op=21∨(28≤x.op∧x.op≤32)
 ·rw[if_pos h1];omega
 ·rw[if_neg h1]
  by_cases h2:x.op=3∨x.op=5∨x.op=6
  ·rw[if_pos h2];omega
  ·rw[if_neg h2]
   by_cases h3:7≤x.op∧x.op≤20
   ·rw[if_pos h3];omega
   ·rw[if_neg h3]
    by_cases h4:x.op=27
    ·rw[if_pos h4];omega
    ·rw[if_neg h4];omega
set_option maxRecDepth 100000 in
set_option maxHeartbeats 8000000 in
theorem rmay_any (p:Pg) (vi vo vc vd:Value) (w:World) (h:PgAt w w.heap.size p vi vo vc vd):
  Calls Tryz.prog 37 #[pgV p vi vo vc vd] w fun e w'=>e= .returned (.bool (cB (mayOk p)))∧Below w.heap.size w w':=by
 obtain ⟨⟨Ai,ci,rfl,li,mi,si⟩,⟨Ao,co,rfl,lo,mo,so⟩,hreg,⟨Ac,cc,rfl,lc,mc,sc⟩,⟨Ad,cd,rfl,ld,md,sd⟩⟩:=h
 have mc':cc≤9223372036854775807:=by unfold maxLen at mc;omega
 have md':cd≤9223372036854775807:=by unfold maxLen at md;omega
 have b0:Below w.heap.size w (w.alloc (.cells #[.slice Ai p.ins.length ci,.slice Ao p.outs.length co,.int .i64 p.regs,.slice Ac p.cells.length cc,.slice Ad p.code.length cd] 37)):=(Below.refl _ _).alloc (Nat.le_refl _) _
 go_enter Tryz.func37,Tryz.ntmps37
 go_wp2_with fail
 refine (rref04_any p.ins Ai ci _ _ li mi (si.below b0)).mono ?_
 rintro e w' ⟨rfl,rfl⟩
 generalize hV:cB (typesOk p.ins)=V at*
 have HV:=Lib.hid hV
 clear hV
 cases V
 ·have HF:=Lib.hid (cB_false (fun h:mayOk p=>cB_not.1 HV.out h.2.2.1))
  go_wp2_with fail
  go_ret
  exact ⟨ret_bool HF.out.symm,b0⟩
 go_wp2_with fail
 refine (rref04_any p.outs Ao co _ _ lo mo (so.below b0)).mono ?_
 rintro e w' ⟨rfl,rfl⟩
 generalize hV2:cB (typesOk p.outs)=V2 at*
 have HV2:=Lib.hid hV2
 clear hV2
 cases V2
 ·have HF:=Lib.hid (cB_false (fun h:mayOk p=>cB_not.1 HV2.out h.2.2.2.1))
  go_wp2_with fail
  go_ret
  exact ⟨ret_bool HF.out.symm,b0⟩
 by_cases hR:0≤p.regs∧p.regs≤1600∧p.cells.length≤60∧p.code.length≤2048
 rotate_left 1
 ·have HF:=Lib.hid (cB_false (fun h:mayOk p=>hR h.2.2.2.2))
  have HR:=Lib.hid hR
  clear hR
  go_wp2_with fail
  all_goals first|(go_ret;exact ⟨ret_bool HF.out.symm,b0⟩)|exact absurd HR.out (by have:=HR.out;omega)
 obtain ⟨hr0,hr1,hcl,hdl⟩:=hR
 go_wp2_with fail
 go_loopw[3] (fun i wr=>∃k:Nat,k≤p.cells.length∧i= .int .i64 k∧Hid (∀j,j<k→∀c,p.cells[j]? =some c→valueOk c.1 c.2)∧Below (w.heap.size+1) (w.alloc (.cells #[.slice Ai p.ins.length ci,.slice Ao p.outs.length co,.int .i64 p.regs,.slice Ac p.cells.length cc,.slice Ad p.code.length cd] 37)) wr) (fun i _=>p.cells.length-(intOf i).toNat)
 case atStart=>exact ⟨0,Nat.zero_le _,rfl,fun j h=>absurd h (by omega),by simpa using Below.refl _ _⟩
 case round=>
  obtain ⟨k,hk,rfl,HN,hbox⟩:=hrel
  obtain ⟨⟨q0,q1,q2,q3,q4⟩,hbel,hsz⟩:=pgBox hbox
  by_cases hlt:k<p.cells.length
  ·obtain ⟨b,off,c,rfl,hb,hxk,hw1,hw2,c0,c1⟩:=(sc.below hbel).cell hlt
   have HK:=Lib.hid hxk
   clear hxk
   have hki:(0:Int)≤(k:Int):=by omega
   have hkl:(k:Int)<(p.cells.length:Int):=by omega
   go_wp2_with fail
   go_quiet ((go_at_call 62;exact Calls.quiet_of_same (rvalue_any _ _ _)))
   generalize hV3:cB (valueOk c.1 c.2)=V at*
   have HV3:=Lib.hid hV3
   clear hV3
   cases V
   ·have HF:=Lib.hid (cB_false (may_cells HK.out (cB_not.1 HV3.out)))
    go_wp2_with fail
    go_ret
    exact ⟨ret_bool HF.out.symm,below_drewN' hbel _⟩
   ·have HN':=Lib.hid (upto_succ HN.out (fun y hy=>by rw[HK.out] at hy;injection hy with hy;rw[←hy];exact cB_iff.1 HV3.out))
    go_wp2_with fail
    go_roundw
    case rel=>exact ⟨k+1,by omega,by go_num,HN',below_drewN' hbox _⟩
    case measure=>simp[intOf];omega
  ·obtain rfl:k=p.cells.length:=by omega
   have HC:=Lib.hid HN.out
   clear HN hk hlt
   go_wp2_with fail
   go_loopw[4] (fun i wr=>∃k:Nat,k≤p.code.length∧i= .int .i64 k∧Hid (∀j,j<k→∀x,p.code[j]? =some x→instrOk x)∧Below (w.heap.size+1) (w.alloc (.cells #[.slice Ai p.ins.length ci,.slice Ao p.outs.length co,.int .i64 p.regs,.slice Ac p.cells.length cc,.slice Ad p.code.length cd] 37)) wr) (fun i _=>p.code.length-(intOf i).toNat)
   case atStart=>exact ⟨0,Nat.zero_le _,rfl,fun j h=>absurd h (by omega),hbox⟩
   case round=>
    clear hbox hbel hsz q0 q1 q2 q3 q4
    obtain ⟨k,hk,rfl,HN,hbox⟩:=hrel
    obtain ⟨⟨q0,q1,q2,q3,q4⟩,hbel,hsz⟩:=pgBox hbox
    by_cases hlt:k<p.code.length
    ·obtain ⟨b,off,x,rfl,hb,hxk,hok,c0,c1,c2,c3,c4⟩:=(sd.below hbel).in5 hlt
     have HK:=Lib.hid hxk
     clear hxk
     have hA:=hbel.alloc (by omega) (.cells #[.int .i64 x.op,.int .i64 x.a,.int .i64 x.b,.int .i64 x.c,.int .i64 x.k] 58)
     have hA':=hbox.alloc (by omega) (.cells #[.int .i64 x.op,.int .i64 x.a,.int .i64 x.b,.int .i64 x.c,.int .i64 x.k] 58)
     go_wp2_with fail
     refine (rhas_any x.op _).mono ?_
     rintro e w' ⟨rfl,rfl⟩
     have bX:=Row.new wr #[.int .i64 x.op,.int .i64 x.a,.int .i64 x.b,.int .i64 x.c,.int .i64 x.k] 58
     generalize wr.alloc (.cells #[.int .i64 x.op,.int .i64 x.a,.int .i64 x.b,.int .i64 x.c,.int .i64 x.k] 58)=W at*
     have x0:=bX.cell 0
     have x1:=bX.cell 1
     have x2:=bX.cell 2
     have x3:=bX.cell 3
     have x4:=bX.cell 4
     simp only[List.getElem?_toArray,List.getElem?_cons_zero,List.getElem?_cons_succ] at x0 x1 x2 x3 x4
     clear bX c0 c1 c2 c3 c4 q0 q1 q2 q3 q4
     have HE:=Lib.hid (instrOk_has x)
     have hcs:=has_cases x.op
     generalize hasN x.op=N at*
     generalize hasKB x.op=Kb at*
     by_cases hI:instrOk x
     ·obtain ⟨n0,a0,b0',c0',e1,e2,e3⟩:=HE.out.1 hI
      have HN':=Lib.hid (upto_succ HN.out (fun y hy=>by rw[HK.out] at hy;injection hy with hy;rw[←hy];exact hI))
      clear hI HE
      rcases hcs with ⟨rfl,rfl⟩|⟨rfl,rfl⟩|⟨rfl,rfl⟩|⟨rfl,rfl⟩|⟨rfl,rfl⟩
      ·exact absurd rfl n0
      ·have hb0:(x.b !=0)=false:=by simp[e1 (by omega)]
       have hc0:(x.c !=0)=false:=by simp[e2 (by omega)]
       clear e1 e2 e3 n0
       go_wp2_with fail
       go_roundw
       case rel=>exact ⟨k+1,by omega,by go_num,HN',hA'⟩
       case measure=>simp[intOf];omega
      ·have hc0:(x.c !=0)=false:=by simp[e2 (by omega)]
       have hk0:(x.k !=0)=false:=by simp[e3 rfl]
       clear e1 e2 e3 n0
       go_wp2_with fail
       go_roundw
       case rel=>exact ⟨k+1,by omega,by go_num,HN',hA'⟩
       case measure=>simp[intOf];omega
      ·have hk0:(x.k !=0)=false:=by simp[e3 rfl]
       clear e1 e2 e3 n0
       go_wp2_with fail
       go_roundw
       case rel=>exact ⟨k+1,by omega,by go_num,HN',hA'⟩
       case measure=>simp[intOf];omega
      ·clear e1 e2 e3 n0
       go_wp2_with fail
       go_roundw
       case rel=>exact ⟨k+1,by omega,by go_num,HN',hA'⟩
       case measure=>simp[intOf];omega
     ·have HF:=Lib.hid (cB_false (may_code HK.out hI))
      have HI:=Lib.hid hI
      clear hI
      have hneg:N=0∨x.a<0∨x.b<0∨x.c<0∨(N<2∧x.b≠0)∨(N<3∧x.c≠0)∨(Kb=false∧x.k≠0):=by
       refine Classical.byContradiction fun hc=>HI.out (HE.out.2 ?_)
       simp only[not_or,not_and,Decidable.not_not] at hc
       obtain ⟨d1,d2,d3,d4,d5,d6,d7⟩:=hc
       exact ⟨d1,by omega,by omega,by omega,d5,d6,d7⟩
      clear hcs HE HI
      rcases hneg with rfl|hx|hx|hx|⟨hn,hx⟩|⟨hn,hx⟩|⟨rfl,hx⟩
      ·go_wp2_with fail
       all_goals (go_ret;exact ⟨ret_bool HF.out.symm,hA⟩)
      ·go_wp2_with fail
       all_goals (go_ret;exact ⟨ret_bool HF.out.symm,hA⟩)
      ·go_wp2_with fail
       all_goals (go_ret;exact ⟨ret_bool HF.out.symm,hA⟩)
      ·go_wp2_with fail
       all_goals (go_ret;exact ⟨ret_bool HF.out.symm,hA⟩)
      ·have hx':(x.b !=0)=true:=by simp[hx]
       clear hx
       go_wp2_with fail
       all_goals (go_ret;exact ⟨ret_bool HF.out.symm,hA⟩)
      ·have hx':(x.c !=0)=true:=by simp[hx]
       clear hx
       go_wp2_with fail
       all_goals (go_ret;exact ⟨ret_bool HF.out.symm,hA⟩)
      ·have hx':(x.k !=0)=true:=by simp[hx]
       clear hx
       go_wp2_with fail
       all_goals (go_ret;exact ⟨ret_bool HF.out.symm,hA⟩)
    ·obtain rfl:k=p.code.length:=by omega
     have HM:=Lib.hid (may_rest HC.out HN.out)
     clear HC HN
     go_wp2_with fail
     go_ret
     exact ⟨ret_bool (cB_true (HM.out.2 ⟨cB_iff.1 HV.out,cB_iff.1 HV2.out,hr0,hr1,hcl,hdl⟩)).symm,hbel⟩
end Go.Proofs.YtbjaejgechadpaaGreat
