/-
  Which expressions are late: the contracts of onset.late, Late. The contracts of onset.Late and of tompionref19.Late, Wrong. The contract of tompionref19.Wrong.
-/
import Derived.Test.YtgjfkidbfmbjoaaGreatZz
import Derived.Test.YtgjfkidbfmbjoaaGreatTreeRight
import Derived.Deep.DeepCutAuto
set_option maxHeartbeats 4000000
namespace Go.Proofs.YtgjfkidbfmbjoaaGreat
open Go.RowKit
structure Fl where
 err:Int
 line:Int
 col:Int
abbrev Fl.v (f:Fl):Value:= .agg #[.int .i64 f.err,.int .i64 f.line,.int .i64 f.col]
abbrev flOk:Fl:=⟨0,0,0⟩
def lateEnd (op l c:Int) (some first:Bool):Bool × Fl:=
 if op=21∨op=22∨op=26∨op=4 then (if some=true then (false,⟨31,l,c⟩) else (op==21,flOk))
 else if op=23 then (if first=true then (false,⟨31,l,c⟩) else (false,flOk)) else (some,flOk)
def headB:List Bool→Bool
 | []=>false
 |b::_=>b
def lateC (op l c:Int) (rs:List (Bool × Fl)):Bool × Fl:=
 match rs.find? (fun r=>r.2.err !=0) with
 |some r=>(false,r.2)
 |none=>lateEnd op l c (rs.any (·.1)) (headB (rs.map (·.1)))
noncomputable def lateR:Ex→Bool × Fl:=Ex.para fun e rs=>lateC e.op e.line e.col rs
theorem lateR_eq (e:Ex):lateR e=lateC e.op e.line e.col (e.args.map lateR):=Ex.para_eq _ e
noncomputable def someTo (e:Ex) (k:Nat):Bool:=((e.args.take k).map lateR).any (·.1)
noncomputable def firstTo (e:Ex) (k:Nat):Bool:=headB (((e.args.take k).map lateR).map (·.1))
theorem someTo_succ {e x:Ex} {k:Nat} (h:e.args[k]? =some x):someTo e (k+1)=(someTo e k||(lateR x).1):=by
 unfold someTo;rw[take_succ_map lateR h];simp
theorem firstTo_succ {e x:Ex} {k:Nat} (h:e.args[k]? =some x):firstTo e (k+1)=(firstTo e k||((lateR x).1 && ((k:Int)==0))):=by
 unfold firstTo
 rw[take_succ_map lateR h]
 cases k with
 |zero=>simp[headB]
 |succ k=>
  have hl:0<e.args.length:=by have:=(List.getElem?_eq_some_iff.1 h).1;omega
  cases ha:e.args with
  |nil=>rw[ha] at hl;simp at hl
  |cons y l=>
   have:(((k+1:Nat):Int)==0)=false:=by rw[beq_eq_false_iff_ne];omega
   rw[this]
   simp[headB]
theorem find_none {rs:List (Bool × Fl)} (h:∀j,j<rs.length→∀r,rs[j]? =some r→r.2.err=0):rs.find? (fun r=>r.2.err !=0)=none:=by
 rw[List.find?_eq_none]
 intro r hr
 obtain ⟨j,hj⟩:=List.getElem?_of_mem hr
 simp[h j (List.getElem?_eq_some_iff.1 hj).1 r hj]
theorem late_end {e:Ex} (h:∀j,j<e.args.length→∀x,e.args[j]? =some x→(lateR x).2.err=0):lateR e=lateEnd e.op e.line e.col (someTo e e.args.length) (firstTo e e.args.length):=by
 rw[lateR_eq]
 unfold lateC
 rw[find_none fun j hj r hr=>?_]
 ·unfold someTo firstTo;rw[List.take_length]
 ·rw[List.getElem?_map,Option.map_eq_some_iff] at hr
  obtain ⟨x,hx,rfl⟩:=hr
  exact h j (by simpa using hj) x hx
theorem late_stop {e x:Ex} {k:Nat} (h:∀j,j<k→∀x,e.args[j]? =some x→(lateR x).2.err=0) (hx:e.args[k]? =some x) (hne:(lateR x).2.err≠0):lateR e=(false,(lateR x).2):=by
 rw[lateR_eq]
 unfold lateC
 have:(e.args.map lateR).find? (fun r=>r.2.err !=0)=some (lateR x):=by
  have hk:=(List.getElem?_eq_some_iff.1 hx).1
  rw[←List.take_append_drop k (e.args.map lateR),List.find?_append,List.find?_eq_none.2 ?_,Option.none_or,←List.map_drop,drop_succ_map lateR hx]
  ·rw[List.find?_cons_of_pos];simpa using hne
  ·refine' zq177
 rw[this]
theorem two_box {w wr:World} {e:Ex} {A:Option Addr} {cap:Nat} (hb:Below (w.heap.size+2) ((w.alloc (.cells #[.int .i64 e.op,.string e.name,.int .i64 e.n,.slice A e.args.length cap,.int .i64 e.line,.int .i64 e.col] 79)).alloc (.cells #[.int .i64 0,.int .i64 0,.int .i64 0] 31)) wr):
  (wr.cell? ⟨w.heap.size,0,none⟩=some (.int .i64 e.op)∧wr.cell? ⟨w.heap.size,3,none⟩=some (.slice A e.args.length cap)∧wr.cell? ⟨w.heap.size,4,none⟩=some (.int .i64 e.line)∧wr.cell? ⟨w.heap.size,5,none⟩=some (.int .i64 e.col))∧
  Row wr (w.heap.size+1) #[.int .i64 0,.int .i64 0,.int .i64 0] 31∧Below w.heap.size w wr∧w.heap.size+2≤wr.heap.size:=by
 have hR:Row ((w.alloc (.cells #[.int .i64 e.op,.string e.name,.int .i64 e.n,.slice A e.args.length cap,.int .i64 e.line,.int .i64 e.col] 79)).alloc (.cells #[.int .i64 0,.int .i64 0,.int .i64 0] 31)) (w.heap.size+1) #[.int .i64 0,.int .i64 0,.int .i64 0] 31:=by
  have:=Row.new (w.alloc (.cells #[.int .i64 e.op,.string e.name,.int .i64 e.n,.slice A e.args.length cap,.int .i64 e.line,.int .i64 e.col] 79)) #[.int .i64 0,.int .i64 0,.int .i64 0] 31
  rwa [World.size_alloc] at this
 have hE:Row ((w.alloc (.cells #[.int .i64 e.op,.string e.name,.int .i64 e.n,.slice A e.args.length cap,.int .i64 e.line,.int .i64 e.col] 79)).alloc (.cells #[.int .i64 0,.int .i64 0,.int .i64 0] 31)) w.heap.size #[.int .i64 e.op,.string e.name,.int .i64 e.n,.slice A e.args.length cap,.int .i64 e.line,.int .i64 e.col] 79:=(Row.new w _ _).alloc _
 have hE':=hE.below hb (by omega)
 refine ⟨⟨?_,?_,?_,?_⟩,hR.below hb (by omega),(((Below.refl _ _).alloc (Nat.le_refl _) _).alloc (by simp) _).trans (hb.mono (by omega)),by have:=hb.size;simpa using this⟩
 all_goals (rw[hE'.cell];rfl)
theorem late_any (e:Ex):∀(A:Option Addr) (cap:Nat) (w:World),e.args.length≤cap→cap≤maxLen→IsExs w w.heap.size A e.args→
  Calls Tryz.prog 133 #[exV e A cap] w fun r w'=>r= .returned (.tuple #[.bool (lateR e).1,(lateR e).2.v])∧Below w.heap.size w w':=by
 induction e using Ex.ind with
 |h e ih=>
  intro A cap w hcap hmax hx
  have HI:=Lib.hid ih
  clear ih
  unfold maxLen at hmax
  go_enter Tryz.func133,Tryz.ntmps133
  go_wp2_with fail
  go_loopw[4,5,14] (fun s f i wr=>∃k:Nat,k≤e.args.length∧i= .int .i64 k∧s= .bool (someTo e k)∧f= .bool (firstTo e k)∧Hid (∀j,j<k→∀x,e.args[j]? =some x→(lateR x).2.err=0)∧Below (w.heap.size+2) ((w.alloc (.cells #[.int .i64 e.op,.string e.name,.int .i64 e.n,.slice A e.args.length cap,.int .i64 e.line,.int .i64 e.col] 79)).alloc (.cells #[.int .i64 0,.int .i64 0,.int .i64 0] 31)) wr) (fun _ _ i _=>e.args.length-(intOf i).toNat)
  case atStart=>exact ⟨0,Nat.zero_le _,rfl,rfl,rfl,fun j h=>absurd h (by omega),by simpa using Below.refl _ _⟩
  case round=>
   obtain ⟨k,hk,rfl,rfl,rfl,HN,hbox⟩:=hrel
   obtain ⟨⟨b0,b3,b4,b5⟩,bR,hbel,hsz⟩:=two_box hbox
   have fR0:=bR.frozen 0
   have fR1:=bR.frozen 1
   have fR2:=bR.frozen 2
   have cR0:=bR.cell 0
   have cR1:=bR.cell 1
   have cR2:=bR.cell 2
   simp only[List.getElem?_toArray,List.getElem?_cons_zero,List.getElem?_cons_succ] at cR0 cR1 cR2
   by_cases hlt:k<e.args.length
   ·obtain ⟨b,off,x,A',cap',rfl,hb,hxk,hxm,hok',hcap',hmax',hx',c0,c1,c2,c3,c4,c5⟩:=(hx.below hbel).at_ hlt
    have HS:=Lib.hid (someTo_succ hxk)
    have HF:=Lib.hid (firstTo_succ hxk)
    have HK:=Lib.hid hxk
    have HM:=Lib.hid hxm
    clear hxk hxm
    go_wp2_with fail
    refine (HI.out x HM.out A' cap' _ hcap' hmax' ((hx'.below ((Below.refl _ _).alloc (by omega) _)).more (by simp;omega))).mono ?_
    rintro r w2 ⟨rfl,hb2⟩
    have hb2':Below wr.heap.size wr w2:=((Below.refl _ _).alloc (Nat.le_refl _) _).trans (hb2.mono (by simp))
    have hsz2:=hb2'.size
    have bR2:=bR.below hb2' (by omega)
    have hb3:Below (w.heap.size+2) ((w.alloc (.cells #[.int .i64 e.op,.string e.name,.int .i64 e.n,.slice (some ⟨b,off,none⟩) e.args.length cap,.int .i64 e.line,.int .i64 e.col] 79)).alloc (.cells #[.int .i64 0,.int .i64 0,.int .i64 0] 31)) w2:=hbox.trans (hb2'.mono hsz)
    clear hbox hb2 bR fR0 fR1 fR2 cR0 cR1 cR2
    have fR0:=bR2.frozen 0
    have fR1:=bR2.frozen 1
    have fR2:=bR2.frozen 2
    have cR0:=bR2.cell 0
    have cR1:=bR2.cell 1
    have cR2:=bR2.cell 2
    simp only[List.getElem?_toArray,List.getElem?_cons_zero,List.getElem?_cons_succ] at cR0 cR1 cR2
    by_cases hE:(lateR x).2.err=0
    ·have HN':=Lib.hid (upto_succ HN.out (fun y hy=>by rw[HK.out] at hy;injection hy with hy;rw[←hy];exact hE))
     have hE':((lateR x).2.err !=0)=false:=by simp[hE]
     clear hE
     generalize hR:lateR x=R at*
     obtain ⟨is,f⟩:=R
     have hk0:((k:Int)==0)=true∨((k:Int)==0)=false:=by cases ((k:Int)==0)<;>simp
     clear hR
     generalize hS:someTo e k=S at*
     generalize hF:firstTo e k=Fi at*
     clear hS hF
     simp only at HS HF hE'
     cases is<;>cases S<;>cases Fi
     all_goals
      rcases hk0 with hk0|hk0
      all_goals
       go_wp2_with fail
       go_roundw
       case rel=>exact ⟨k+1,by omega,by go_num,by rw[HS.out];rfl,by rw[HF.out,hk0];rfl,HN',hb3.alloc (by omega) _⟩
       case measure=>simp[intOf];omega
    ·have HL:=Lib.hid (late_stop HN.out HK.out hE)
     have hE':((lateR x).2.err !=0)=true:=by simp[hE]
     clear hE
     generalize lateR x=R at*
     obtain ⟨is,f⟩:=R
     simp only at hE' HL
     go_wp2_with fail
     have bR3:=bR2.alloc (.cells #[.int .i64 f.err,.int .i64 f.line,.int .i64 f.col] 31)
     have bF3:=Row.new w2 #[.int .i64 f.err,.int .i64 f.line,.int .i64 f.col] 31
     have hb4:=hb3.alloc (by omega) (.cells #[.int .i64 f.err,.int .i64 f.line,.int .i64 f.col] 31)
     clear fR0 fR1 fR2 cR0 cR1 cR2
     generalize w2.alloc (.cells #[.int .i64 f.err,.int .i64 f.line,.int .i64 f.col] 31)=W3 at*
     have fR0:=bR3.frozen 0
     have fR1:=bR3.frozen 1
     have fR2:=bR3.frozen 2
     have cR0:=bR3.cell 0
     have cR1:=bR3.cell 1
     have cR2:=bR3.cell 2
     have cF0:=bF3.cell 0
     have cF1:=bF3.cell 1
     have cF2:=bF3.cell 2
     simp only[List.getElem?_toArray,List.getElem?_cons_zero,List.getElem?_cons_succ] at cR0 cR1 cR2 cF0 cF1 cF2
     go_region
     go_wp2_with fail
     have hB:Below w.heap.size w W3:=(((Below.refl _ _).alloc (Nat.le_refl _) _).alloc (by simp) _).trans (hb4.mono (by omega))
     refine bodyPost_ret (v:= .tuple #[.bool false,.agg #[.int .i64 f.err,.int .i64 f.line,.int .i64 f.col]]) (by simp[results,Tryz.results133,go_sem,cR0,cR1,cR2]) rfl ⟨by rw[HL.out],?_⟩
     repeat (first|exact hB|refine Below.drew ?_|refine Below.setCell ?_ (by simp) _)
   ·obtain rfl:k=e.args.length:=by omega
    have HL:=Lib.hid (late_end HN.out)
    have hB:Below w.heap.size w wr:=hbel
    generalize someTo e e.args.length=S at*
    generalize firstTo e e.args.length=Fi at*
    by_cases ho:e.op=21∨e.op=22∨e.op=26∨e.op=4
    ·have ho':((e.op==21)=true)∨((e.op==21)=false∧((e.op==22)=true∨(e.op==22)=false∧((e.op==26)=true∨(e.op==26)=false∧(e.op==4)=true))):=by
      simp only[beq_iff_eq,beq_eq_false_iff_ne];omega
     cases S
     ·have HR:=Lib.hid (HL.out.trans (show lateEnd e.op e.line e.col false Fi=(e.op==21,flOk) by unfold lateEnd;rw[if_pos ho];rfl))
      clear HL ho
      rcases ho' with o1|⟨o1,o2|⟨o2,o3|⟨o3,o4⟩⟩⟩
      all_goals
       go_wp2_with fail
       refine bodyPost_ret (v:= .tuple #[.bool (e.op==21),.agg #[.int .i64 0,.int .i64 0,.int .i64 0]]) (by simp[results,Tryz.results133,go_sem,cR0,cR1,cR2,o1]) rfl ⟨by rw[HR.out],?_⟩
       repeat (first|exact hB|refine Below.drew ?_|refine Below.setCell ?_ (by simp) _)
     ·have HR:=Lib.hid (HL.out.trans (show lateEnd e.op e.line e.col true Fi=(false,⟨31,e.line,e.col⟩) by unfold lateEnd;rw[if_pos ho];rfl))
      clear HL ho
      rcases ho' with o1|⟨o1,o2|⟨o2,o3|⟨o3,o4⟩⟩⟩
      all_goals
       go_wp2_with fail
       go_region
       go_wp2_with fail
       refine bodyPost_ret (v:= .tuple #[.bool false,.agg #[.int .i64 31,.int .i64 e.line,.int .i64 e.col]]) (by simp[results,Tryz.results133,go_sem,cR0,cR1,cR2]) rfl ⟨by rw[HR.out],?_⟩
       repeat (first|exact hB|refine Below.drew ?_|refine Below.setCell ?_ (by simp) _)
    ·have o1:(e.op==21)=false:=by rw[beq_eq_false_iff_ne];omega
     have o2:(e.op==22)=false:=by rw[beq_eq_false_iff_ne];omega
     have o3:(e.op==26)=false:=by rw[beq_eq_false_iff_ne];omega
     have o4:(e.op==4)=false:=by rw[beq_eq_false_iff_ne];omega
     by_cases h23:e.op=23
     ·have o5:(e.op==23)=true:=by simp[h23]
      cases Fi
      ·have HR:=Lib.hid (HL.out.trans (show lateEnd e.op e.line e.col S false=(false,flOk) by unfold lateEnd;rw[if_neg ho,if_pos h23];rfl))
       clear HL ho h23
       go_wp2_with fail
       refine bodyPost_ret (v:= .tuple #[.bool false,.agg #[.int .i64 0,.int .i64 0,.int .i64 0]]) (by simp[results,Tryz.results133,go_sem,cR0,cR1,cR2]) rfl ⟨by rw[HR.out],?_⟩
       repeat (first|exact hB|refine Below.drew ?_|refine Below.setCell ?_ (by simp) _)
      ·have HR:=Lib.hid (HL.out.trans (show lateEnd e.op e.line e.col S true=(false,⟨31,e.line,e.col⟩) by unfold lateEnd;rw[if_neg ho,if_pos h23];rfl))
       clear HL ho h23
       go_wp2_with fail
       go_region
       go_wp2_with fail
       refine bodyPost_ret (v:= .tuple #[.bool false,.agg #[.int .i64 31,.int .i64 e.line,.int .i64 e.col]]) (by simp[results,Tryz.results133,go_sem,cR0,cR1,cR2]) rfl ⟨by rw[HR.out],?_⟩
       repeat (first|exact hB|refine Below.drew ?_|refine Below.setCell ?_ (by simp) _)
     ·have o5:(e.op==23)=false:=by simp[h23]
      have HR:=Lib.hid (HL.out.trans (show lateEnd e.op e.line e.col S Fi=(S,flOk) by unfold lateEnd;rw[if_neg ho,if_neg h23]))
      clear HL ho h23
      go_wp2_with fail
      refine bodyPost_ret (v:= .tuple #[.bool S,.agg #[.int .i64 0,.int .i64 0,.int .i64 0]]) (by simp[results,Tryz.results133,go_sem,cR0,cR1,cR2]) rfl ⟨by rw[HR.out],?_⟩
      repeat (first|exact hB|refine Below.drew ?_|refine Below.setCell ?_ (by simp) _)
def rlateC (op:Int) (ls:List Bool):Bool:=if op=21 then true else if op=23∨op=22∨op=26∨op=4 then false else ls.any id
noncomputable def rlate:Ex→Bool:=Ex.para fun e ls=>rlateC e.op ls
theorem rlate_eq (e:Ex):rlate e=rlateC e.op (e.args.map rlate):=Ex.para_eq _ e
theorem any_no {α:Type} {p:α→Bool} {l:List α} (h:∀j,j<l.length→∀x,l[j]? =some x→p x=false):l.any p=false:=by
 refine List.any_eq_false.2 fun x hx=>?_
 obtain ⟨j,hj⟩:=List.getElem?_of_mem hx
 simp[h j (List.getElem?_eq_some_iff.1 hj).1 x hj]
theorem any_yes {α:Type} {p:α→Bool} {l:List α} {k:Nat} {x:α} (h:l[k]? =some x) (hx:p x=true):l.any p=true:=List.any_eq_true.2 ⟨x,List.mem_of_getElem? h,hx⟩
theorem rlate_any (e:Ex):∀(A:Option Addr) (cap:Nat) (w:World),e.args.length≤cap→cap≤maxLen→IsExs w w.heap.size A e.args→
  Calls Tryz.prog 117 #[exV e A cap] w fun r w'=>r= .returned (.bool (rlate e))∧Below w.heap.size w w':=by
 induction e using Ex.ind with
 |h e ih=>
  intro A cap w hcap hmax hx
  have HI:=Lib.hid ih
  have HE:=Lib.hid (rlate_eq e)
  clear ih
  unfold maxLen at hmax
  have hB0:Below w.heap.size w (w.alloc (.cells #[.int .i64 e.op,.string e.name,.int .i64 e.n,.slice A e.args.length cap,.int .i64 e.line,.int .i64 e.col] 79)):=(Below.refl _ _).alloc (Nat.le_refl _) _
  by_cases h21:e.op=21
  ·have o1:(e.op==21)=true:=by simp[h21]
   have HR:=Lib.hid (HE.out.trans (show rlateC e.op (e.args.map rlate)=true by unfold rlateC;rw[if_pos h21]))
   clear h21 HE
   go_enter Tryz.func117,Tryz.ntmps117
   go_wp2_with fail
   go_ret
   exact ⟨ret_bool HR.out.symm,hB0⟩
  ·have o1:(e.op==21)=false:=by simp[h21]
   by_cases h4:e.op=23∨e.op=22∨e.op=26∨e.op=4
   ·have ho':((e.op==23)=true)∨((e.op==23)=false∧((e.op==22)=true∨(e.op==22)=false∧((e.op==26)=true∨(e.op==26)=false∧(e.op==4)=true))):=by
     simp only[beq_iff_eq,beq_eq_false_iff_ne];omega
    have HR:=Lib.hid (HE.out.trans (show rlateC e.op (e.args.map rlate)=false by unfold rlateC;rw[if_neg h21,if_pos h4]))
    clear h21 HE h4
    rcases ho' with o2|⟨o2,o3|⟨o3,o4|⟨o4,o5⟩⟩⟩
    all_goals
     go_enter Tryz.func117,Tryz.ntmps117
     go_wp2_with fail
     go_ret
     exact ⟨ret_bool HR.out.symm,hB0⟩
   ·have o2:(e.op==23)=false:=by rw[beq_eq_false_iff_ne];omega
    have o3:(e.op==22)=false:=by rw[beq_eq_false_iff_ne];omega
    have o4:(e.op==26)=false:=by rw[beq_eq_false_iff_ne];omega
    have o5:(e.op==4)=false:=by rw[beq_eq_false_iff_ne];omega
    have HR:=Lib.hid (HE.out.trans (show rlateC e.op (e.args.map rlate)=e.args.any rlate by unfold rlateC;rw[if_neg h21,if_neg h4,List.any_map];rfl))
    clear h21 HE h4
    go_enter Tryz.func117,Tryz.ntmps117
    go_wp2_with fail
    go_loopw[3] (fun i wr=>∃k:Nat,k≤e.args.length∧i= .int .i64 k∧Hid (∀j,j<k→∀x,e.args[j]? =some x→rlate x=false)∧Below (w.heap.size+1) (w.alloc (.cells #[.int .i64 e.op,.string e.name,.int .i64 e.n,.slice A e.args.length cap,.int .i64 e.line,.int .i64 e.col] 79)) wr) (fun i _=>e.args.length-(intOf i).toNat)
    case atStart=>exact ⟨0,Nat.zero_le _,rfl,fun j h=>absurd h (by omega),by simpa using Below.refl _ _⟩
    case round=>
     obtain ⟨k,hk,rfl,HN,hbox⟩:=hrel
     obtain ⟨⟨_,_,_,hc3,_,_⟩,hbel,hsz⟩:=exBox hbox
     by_cases hlt:k<e.args.length
     ·obtain ⟨b,off,x,A',cap',rfl,hb,hxk,hxm,hok',hcap',hmax',hx',c0,c1,c2,c3,c4,c5⟩:=(hx.below hbel).at_ hlt
      have HK:=Lib.hid hxk
      have HM:=Lib.hid hxm
      clear hxk hxm
      go_wp2_with fail
      refine (HI.out x HM.out A' cap' _ hcap' hmax' (hx'.more (by omega))).mono ?_
      rintro r w2 ⟨rfl,hb2⟩
      have hb3:=hbox.trans (hb2.mono hsz)
      clear hbox
      generalize hL:rlate x=L at*
      have HL:=Lib.hid hL
      clear hL
      cases L
      ·go_wp2_with fail
       go_roundw
       case rel=>exact ⟨k+1,by omega,by go_num,upto_succ HN.out (fun y hy=>by rw[HK.out] at hy;injection hy with hy;rw[←hy];exact HL.out),hb3⟩
       case measure=>simp[intOf];omega
      ·have HF:=Lib.hid (HR.out.trans (any_yes HK.out HL.out))
       obtain ⟨_,hbel3,_⟩:=exBox hb3
       go_wp2_with fail
       go_ret
       exact ⟨ret_bool HF.out.symm,hbel3⟩
     ·obtain rfl:k=e.args.length:=by omega
      have HF:=Lib.hid (HR.out.trans (any_no HN.out))
      go_wp2_with fail
      go_ret
      exact ⟨ret_bool HF.out.symm,hbel⟩
abbrev allOps (op:Int):Prop:=op=21∨op=22∨op=26∨op=4
noncomputable def badTo (e:Ex) (k:Nat):Bool:=if allOps e.op then (e.args.take k).any rlate else if e.op=23 then headB ((e.args.take k).map rlate) else false
noncomputable def rwrong:Ex→Fl:=Ex.para fun e ps=>match ps.find? (fun f=>f.err !=0) with
 |some f=>f
 |none=>if badTo e e.args.length=true then ⟨31,e.line,e.col⟩ else flOk
theorem rwrong_eq (e:Ex):rwrong e=match (e.args.map rwrong).find? (fun f=>f.err !=0) with
 |some f=>f
 |none=>if badTo e e.args.length=true then ⟨31,e.line,e.col⟩ else flOk:=Ex.para_eq _ e
theorem findF_none {rs:List Fl} (h:∀j,j<rs.length→∀r,rs[j]? =some r→r.err=0):rs.find? (fun r=>r.err !=0)=none:=by
 rw[List.find?_eq_none]
 intro r hr
 obtain ⟨j,hj⟩:=List.getElem?_of_mem hr
 simp[h j (List.getElem?_eq_some_iff.1 hj).1 r hj]
theorem findF_some {e x:Ex} {g:Ex→Fl} {k:Nat} (h:∀j,j<k→∀x,e.args[j]? =some x→(g x).err=0) (hx:e.args[k]? =some x) (hne:(g x).err≠0):(e.args.map g).find? (fun r=>r.err !=0)=some (g x):=by
 have hk:=(List.getElem?_eq_some_iff.1 hx).1
 rw[←List.take_append_drop k (e.args.map g),List.find?_append,List.find?_eq_none.2 ?_,Option.none_or,←List.map_drop,drop_succ_map g hx]
 ·rw[List.find?_cons_of_pos];simpa using hne
 ·refine' zq177
theorem wrong_stop {e x:Ex} {k:Nat} (h:∀j,j<k→∀x,e.args[j]? =some x→(rwrong x).err=0) (hx:e.args[k]? =some x) (hne:(rwrong x).err≠0):rwrong e=rwrong x:=by
 rw[rwrong_eq,findF_some h hx hne]
theorem wrong_end {e:Ex} (h:∀j,j<e.args.length→∀x,e.args[j]? =some x→(rwrong x).err=0):rwrong e=if badTo e e.args.length=true then ⟨31,e.line,e.col⟩ else flOk:=by
 rw[rwrong_eq,findF_none fun j hj r hr=>?_]
 rw[List.getElem?_map,Option.map_eq_some_iff] at hr
 obtain ⟨x,hx,rfl⟩:=hr
 exact h j (by simpa using hj) x hx
def watch (op:Int) (k:Nat):Prop:=allOps op∨(op=23∧k=0)
theorem badTo_zero (e:Ex):badTo e 0=false:=by
 unfold badTo
 split
 ·rfl
 ·split<;>rfl
theorem badTo_yes {e x:Ex} {k:Nat} (h:e.args[k]? =some x) (hw:watch e.op k):badTo e (k+1)=(badTo e k||rlate x):=by
 unfold badTo
 rcases hw with hw|⟨hw,rfl⟩
 ·rw[if_pos hw,if_pos hw,List.take_add_one,h];simp
 ·have:¬allOps e.op:=by unfold allOps;omega
  rw[if_neg this,if_neg this,if_pos hw,if_pos hw,take_succ_map rlate h];simp[headB]
theorem badTo_no {e x:Ex} {k:Nat} (h:e.args[k]? =some x) (hw:¬watch e.op k):badTo e (k+1)=badTo e k:=by
 unfold watch at hw
 unfold badTo
 rw[if_neg (fun h=>hw (.inl h)),if_neg (fun h=>hw (.inl h))]
 split
 ·cases k with
  |zero=>exact absurd (.inr ⟨by assumption,rfl⟩) hw
  |succ k=>
   rw[take_succ_map rlate h]
   cases ha:e.args with
   |nil=>rw[ha] at h;simp at h
   |cons y l=>simp[headB]
 ·rfl
theorem rwrong_any (e:Ex):∀(A:Option Addr) (cap:Nat) (w:World),e.args.length≤cap→cap≤maxLen→IsExs w w.heap.size A e.args→
  Calls Tryz.prog 116 #[exV e A cap] w fun r w'=>r= .returned (rwrong e).v∧Below w.heap.size w w':=by
 induction e using Ex.ind with
 |h e ih=>
  intro A cap w hcap hmax hx
  have HI:=Lib.hid ih
  clear ih
  unfold maxLen at hmax
  go_enter Tryz.func116,Tryz.ntmps116
  go_wp2_with fail
  go_loopw[3] (fun i wr=>∃k:Nat,k≤e.args.length∧i= .int .i64 k∧Hid (∀j,j<k→∀x,e.args[j]? =some x→(rwrong x).err=0)∧Below (w.heap.size+2) ((w.alloc (.cells #[.int .i64 e.op,.string e.name,.int .i64 e.n,.slice A e.args.length cap,.int .i64 e.line,.int .i64 e.col] 79)).alloc (.cells #[.int .i64 0,.int .i64 0,.int .i64 0] 31)) wr) (fun i _=>e.args.length-(intOf i).toNat)
  case atStart=>exact ⟨0,Nat.zero_le _,rfl,fun j h=>absurd h (by omega),by simpa using Below.refl _ _⟩
  case round=>
   obtain ⟨k,hk,rfl,HN,hbox⟩:=hrel
   obtain ⟨⟨b0,b3,b4,b5⟩,bR,hbel,hsz⟩:=two_box hbox
   by_cases hlt:k<e.args.length
   ·obtain ⟨b,off,x,A',cap',rfl,hb,hxk,hxm,hok',hcap',hmax',hx',c0,c1,c2,c3,c4,c5⟩:=(hx.below hbel).at_ hlt
    have HK:=Lib.hid hxk
    have HM:=Lib.hid hxm
    clear hxk hxm
    go_wp2_with fail
    refine (HI.out x HM.out A' cap' _ hcap' hmax' (hx'.more (by omega))).mono ?_
    rintro r w2 ⟨rfl,hb2⟩
    have hsz2:=hb2.size
    have bR2:=bR.below hb2 (by omega)
    have hb3:Below (w.heap.size+2) ((w.alloc (.cells #[.int .i64 e.op,.string e.name,.int .i64 e.n,.slice (some ⟨b,off,none⟩) e.args.length cap,.int .i64 e.line,.int .i64 e.col] 79)).alloc (.cells #[.int .i64 0,.int .i64 0,.int .i64 0] 31)) w2:=hbox.trans (hb2.mono hsz)
    have fR0:=bR2.frozen 0
    have fR1:=bR2.frozen 1
    have fR2:=bR2.frozen 2
    have cR0:=bR2.cell 0
    have cR1:=bR2.cell 1
    have cR2:=bR2.cell 2
    simp only[List.getElem?_toArray,List.getElem?_cons_zero,List.getElem?_cons_succ] at cR0 cR1 cR2
    clear hbox bR
    by_cases hE:(rwrong x).err=0
    ·have HN':=Lib.hid (upto_succ HN.out (fun y hy=>by rw[HK.out] at hy;injection hy with hy;rw[←hy];exact hE))
     have hE':((rwrong x).err !=0)=false:=by simp[hE]
     clear hE
     generalize rwrong x=f at*
     go_wp2_with fail
     go_roundw
     case rel=>exact ⟨k+1,by omega,by go_num,HN',hb3.alloc (by omega) _⟩
     case measure=>simp[intOf];omega
    ·have HL:=Lib.hid (wrong_stop HN.out HK.out hE)
     have hE':((rwrong x).err !=0)=true:=by simp[hE]
     clear hE
     generalize rwrong x=f at*
     go_upto_region 6 with (fail)
     have hB:Below w.heap.size w (w2.alloc (.cells #[.int .i64 f.err,.int .i64 f.line,.int .i64 f.col] 31)):=(hbel.trans (hb2.mono (by omega))).alloc (by omega) _
     have bR3:=bR2.alloc (.cells #[.int .i64 f.err,.int .i64 f.line,.int .i64 f.col] 31)
     have bF3:=Row.new w2 #[.int .i64 f.err,.int .i64 f.line,.int .i64 f.col] 31
     clear fR0 fR1 fR2 cR0 cR1 cR2
     generalize w2.alloc (.cells #[.int .i64 f.err,.int .i64 f.line,.int .i64 f.col] 31)=W3 at*
     have fR0:=bR3.frozen 0
     have fR1:=bR3.frozen 1
     have fR2:=bR3.frozen 2
     have cR0:=bR3.cell 0
     have cR1:=bR3.cell 1
     have cR2:=bR3.cell 2
     have cF0:=bF3.cell 0
     have cF1:=bF3.cell 1
     have cF2:=bF3.cell 2
     simp only[List.getElem?_toArray,List.getElem?_cons_zero,List.getElem?_cons_succ] at cR0 cR1 cR2 cF0 cF1 cF2
     go_wp2_with fail
     refine bodyPost_ret (v:= .agg #[.int .i64 f.err,.int .i64 f.line,.int .i64 f.col]) (by simp[results,Tryz.results116,go_sem,cR0,cR1,cR2]) rfl ⟨by rw[HL.out],?_⟩
     repeat (first|exact hB|refine Below.drew ?_|refine Below.setCell ?_ (by simp) _)
   ·obtain rfl:k=e.args.length:=by omega
    have HL:=Lib.hid (wrong_end HN.out)
    clear HN hk hlt
    go_wp2_with fail
    go_loopw[5,6] (fun v i wr=>∃k:Nat,k≤e.args.length∧i= .int .i64 k∧v= .bool (badTo e k)∧Below (w.heap.size+2) ((w.alloc (.cells #[.int .i64 e.op,.string e.name,.int .i64 e.n,.slice A e.args.length cap,.int .i64 e.line,.int .i64 e.col] 79)).alloc (.cells #[.int .i64 0,.int .i64 0,.int .i64 0] 31)) wr) (fun _ i _=>e.args.length-(intOf i).toNat)
    case atStart=>exact ⟨0,Nat.zero_le _,rfl,by rw[badTo_zero],hbox⟩
    case round=>
     clear hbox b0 b3 b4 b5 bR hbel hsz
     obtain ⟨k,hk,rfl,rfl,hbox⟩:=hrel
     obtain ⟨⟨b0,b3,b4,b5⟩,bR,hbel,hsz⟩:=two_box hbox
     by_cases hlt:k<e.args.length
     ·obtain ⟨b,off,x,A',cap',rfl,hb,hxk,hxm,hok',hcap',hmax',hx',c0,c1,c2,c3,c4,c5⟩:=(hx.below hbel).at_ hlt
      by_cases hw:watch e.op k
      ·have HB:=Lib.hid (badTo_yes hxk hw)
       have hw':((e.op==21)=true)∨((e.op==21)=false∧((e.op==22)=true∨(e.op==22)=false∧((e.op==26)=true∨(e.op==26)=false∧((e.op==4)=true∨((e.op==4)=false∧(e.op==23)=true∧((k:Int)==0)=true))))):=by
        unfold watch allOps at hw
        simp only[beq_iff_eq,beq_eq_false_iff_ne];omega
       clear hw hxk hxm HL
       generalize badTo e k=Bd at*
       rcases hw' with o1|⟨o1,o2|⟨o2,o3|⟨o3,o4|⟨o4,o5,o6⟩⟩⟩⟩
       all_goals
        cases Bd
        ·go_wp2_with fail
         refine (rlate_any x A' cap' _ hcap' hmax' (hx'.more (by omega))).mono ?_
         rintro r w2 ⟨rfl,hb2⟩
         have hb3:=hbox.trans (hb2.mono hsz)
         go_wp2_with fail
         go_roundw
         case rel=>exact ⟨k+1,by omega,by go_num,by rw[HB.out];rfl,hb3⟩
         case measure=>simp[intOf];omega
        ·go_wp2_with fail
         go_roundw
         case rel=>exact ⟨k+1,by omega,by go_num,by rw[HB.out];rfl,hbox⟩
         case measure=>simp[intOf];omega
      ·have HB:=Lib.hid (badTo_no hxk hw)
       have hw':(e.op==21)=false∧(e.op==22)=false∧(e.op==26)=false∧(e.op==4)=false∧((e.op==23)=false∨(e.op==23)=true∧((k:Int)==0)=false):=by
        unfold watch allOps at hw
        simp only[beq_iff_eq,beq_eq_false_iff_ne];omega
       clear hw hxk hxm HL
       obtain ⟨o1,o2,o3,o4,o5|⟨o5,o6⟩⟩:=hw'
       all_goals
        go_wp2_with fail
        go_roundw
        case rel=>exact ⟨k+1,by omega,by go_num,by rw[HB.out],hbox⟩
        case measure=>simp[intOf];omega
     ·obtain rfl:k=e.args.length:=by omega
      have fR0:=bR.frozen 0
      have fR1:=bR.frozen 1
      have fR2:=bR.frozen 2
      have cR0:=bR.cell 0
      have cR1:=bR.cell 1
      have cR2:=bR.cell 2
      simp only[List.getElem?_toArray,List.getElem?_cons_zero,List.getElem?_cons_succ] at cR0 cR1 cR2
      generalize badTo e e.args.length=Bd at*
      cases Bd
      ·go_wp2_with fail
       refine bodyPost_ret (v:= .agg #[.int .i64 0,.int .i64 0,.int .i64 0]) (by simp[results,Tryz.results116,go_sem,cR0,cR1,cR2]) rfl ⟨by rw[HL.out];rfl,?_⟩
       repeat (first|exact hbel|refine Below.drew ?_|refine Below.setCell ?_ (by simp) _)
      ·go_wp2_with fail
       refine bodyPost_ret (v:= .agg #[.int .i64 31,.int .i64 e.line,.int .i64 e.col]) (by simp[results,Tryz.results116,go_sem,cR0,cR1,cR2]) rfl ⟨by rw[HL.out];rfl,?_⟩
       repeat (first|exact hbel|refine Below.drew ?_|refine Below.setCell ?_ (by simp) _)
theorem late_is (e:Ex):lateR e=(((rwrong e).err==0) && rlate e,rwrong e):=by
 induction e using Ex.ind with
 |h e ih=>
  by_cases hall:∀j,j<e.args.length→∀x,e.args[j]? =some x→(rwrong x).err=0
  ·have h1:∀j,j<e.args.length→∀x,e.args[j]? =some x→(lateR x).2.err=0:=fun j hj x hx=>by rw[ih x (List.mem_of_getElem? hx)];exact hall j hj x hx
   have hmap:e.args.map (fun x=>(lateR x).1)=e.args.map rlate:=List.map_congr_left fun x hx=>by
    obtain ⟨j,hj⟩:=List.getElem?_of_mem hx
    rw[ih x hx,hall j (List.getElem?_eq_some_iff.1 hj).1 x hj];rfl
   have hs:someTo e e.args.length=e.args.any rlate:=by
    unfold someTo
    rw[List.take_length,List.any_map]
    have:(e.args.map (fun x=>(lateR x).1)).any id=(e.args.map rlate).any id:=by rw[hmap]
    rw[List.any_map,List.any_map] at this
    exact this
   have hf:firstTo e e.args.length=headB (e.args.map rlate):=by
    unfold firstTo
    rw[List.take_length,List.map_map]
    exact congrArg headB hmap
   rw[late_end h1,wrong_end hall,rlate_eq,hs,hf]
   unfold lateEnd badTo rlateC allOps
   rw[List.take_length,List.any_map]
   by_cases ho:e.op=21∨e.op=22∨e.op=26∨e.op=4
   ·rw[if_pos ho,if_pos ho]
    by_cases h21:e.op=21
    ·rw[show (e.op==21)=true by simp[h21],if_pos h21]
     cases e.args.any rlate<;>rfl
    ·have h4:e.op=23∨e.op=22∨e.op=26∨e.op=4:=by omega
     rw[show (e.op==21)=false by simp[h21],if_neg h21,if_pos h4]
     cases e.args.any rlate<;>rfl
   ·have h21:¬e.op=21:=by omega
    rw[if_neg ho,if_neg ho,if_neg h21]
    by_cases h23:e.op=23
    ·have h4:e.op=23∨e.op=22∨e.op=26∨e.op=4:= .inl h23
     rw[if_pos h23,if_pos h23,if_pos h4]
     cases headB (e.args.map rlate)<;>rfl
    ·have h4:¬(e.op=23∨e.op=22∨e.op=26∨e.op=4):=by omega
     rw[if_neg h23,if_neg h23,if_neg h4]
     rfl
  ·have:∃k,k<e.args.length∧(∀j,j<k→∀x,e.args[j]? =some x→(rwrong x).err=0)∧∃x,e.args[k]? =some x∧(rwrong x).err≠0:=by
    rcases Classical.em (∃k,k<e.args.length∧(∀j,j<k→∀x,e.args[j]? =some x→(rwrong x).err=0)∧∃x,e.args[k]? =some x∧(rwrong x).err≠0) with h|h
    ·exact h
    ·exfalso
     apply hall
     intro j
     induction j using Nat.strongRecOn with
     |ind j ihj=>
      intro hj x hx
      rcases Classical.em ((rwrong x).err=0) with h0|h0
      ·exact h0
      ·exact absurd ⟨j,hj,fun i hi y hy=>ihj i hi (by omega) y hy,x,hx,h0⟩ h
   obtain ⟨k,hk,h1,x,hx,hne⟩:=this
   have hxm:=List.mem_of_getElem? hx
   have e1:(lateR x).2=rwrong x:=by rw[ih x hxm]
   rw[wrong_stop h1 hx hne,late_stop (fun j hj y hy=>by rw[ih y (List.mem_of_getElem? hy)];exact h1 j hj y hy) hx (by rw[e1];exact hne),e1]
   have:((rwrong x).err==0)=false:=by simp[hne]
   rw[this];rfl
end Go.Proofs.YtgjfkidbfmbjoaaGreat
