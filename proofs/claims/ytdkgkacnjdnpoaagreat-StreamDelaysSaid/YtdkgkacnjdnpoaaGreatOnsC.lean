/-
  Which expressions are late: the contracts of onset.late, Late. What is wrong first with first ticks: the contracts of onset.Check and tompionref19.Check.
-/
import Derived.Test.YtdkgkacnjdnpoaaGreatTreeRight
import Derived.Test.YtdkgkacnjdnpoaaGreatRepL
import Derived.Deep.DeepCutAuto
set_option maxHeartbeats 4000000
set_option maxRecDepth 100000
namespace Go.Proofs.YtdkgkacnjdnpoaaGreat
open Go.RowKit
structure Fl where
 err:Int
 line:Int
 col:Int
abbrev Fl.v (f:Fl):Value:= .agg #[.int .i64 f.err,.int .i64 f.line,.int .i64 f.col]
abbrev flOk:Fl:=⟨0,0,0⟩
def lateEnd (op l c:Int) (some first:Bool):Bool × Fl:=
 if op=21∨op=22∨op=26∨op=4 then (if some=true then (false,⟨31,l,c⟩) else (op==21,flOk))
 else if op=23 then (if first=true then (false,⟨31,l,c⟩) else (false,flOk)) else (some,flOk)
def headB:List Bool→Bool
 | []=>false
 |b::_=>b
def lateC (op l c:Int) (rs:List (Bool × Fl)):Bool × Fl:=
 match rs.find? (fun r=>r.2.err !=0) with
 |some r=>(false,r.2)
 |none=>lateEnd op l c (rs.any (·.1)) (headB (rs.map (·.1)))
noncomputable def lateR:Ex→Bool × Fl:=Ex.para fun e rs=>lateC e.op e.line e.col rs
theorem lateR_eq (e:Ex):lateR e=lateC e.op e.line e.col (e.args.map lateR):=Ex.para_eq _ e
noncomputable def someTo (e:Ex) (k:Nat):Bool:=((e.args.take k).map lateR).any (·.1)
noncomputable def firstTo (e:Ex) (k:Nat):Bool:=headB (((e.args.take k).map lateR).map (·.1))
theorem someTo_succ {e x:Ex} {k:Nat} (h:e.args[k]? =some x):someTo e (k+1)=(someTo e k||(lateR x).1):=by
 unfold someTo;rw[take_succ_map lateR h];simp
theorem firstTo_succ {e x:Ex} {k:Nat} (h:e.args[k]? =some x):firstTo e (k+1)=(firstTo e k||((lateR x).1 && ((k:Int)==0))):=by
 unfold firstTo
 rw[take_succ_map lateR h]
 cases k with
 |zero=>simp[headB]
 |succ k=>
  have hl:0<e.args.length:=by have:=(List.getElem?_eq_some_iff.1 h).1;omega
  cases ha:e.args with
  |nil=>rw[ha] at hl;simp at hl
  |cons y l=>
   have:(((k+1:Nat):Int)==0)=false:=by rw[beq_eq_false_iff_ne];omega
   rw[this]
   simp[headB]
theorem find_none {rs:List (Bool × Fl)} (h:∀j,j<rs.length→∀r,rs[j]? =some r→r.2.err=0):rs.find? (fun r=>r.2.err !=0)=none:=by
 rw[List.find?_eq_none]
 intro r hr
 obtain ⟨j,hj⟩:=List.getElem?_of_mem hr
 simp[h j (List.getElem?_eq_some_iff.1 hj).1 r hj]
theorem late_end {e:Ex} (h:∀j,j<e.args.length→∀x,e.args[j]? =some x→(lateR x).2.err=0):lateR e=lateEnd e.op e.line e.col (someTo e e.args.length) (firstTo e e.args.length):=by
 rw[lateR_eq]
 unfold lateC
 rw[find_none fun j hj r hr=>?_]
 ·unfold someTo firstTo;rw[List.take_length]
 ·rw[List.getElem?_map,Option.map_eq_some_iff] at hr
  obtain ⟨x,hx,rfl⟩:=hr
  exact h j (by simpa using hj) x hx
theorem late_stop {e x:Ex} {k:Nat} (h:∀j,j<k→∀x,e.args[j]? =some x→(lateR x).2.err=0) (hx:e.args[k]? =some x) (hne:(lateR x).2.err≠0):lateR e=(false,(lateR x).2):=by
 rw[lateR_eq]
 unfold lateC
 have:(e.args.map lateR).find? (fun r=>r.2.err !=0)=some (lateR x):=by
  have hk:=(List.getElem?_eq_some_iff.1 hx).1
  rw[←List.take_append_drop k (e.args.map lateR),List.find?_append,List.find?_eq_none.2 ?_,Option.none_or,←List.map_drop,drop_succ_map lateR hx]
  ·rw[List.find?_cons_of_pos];simpa using hne
  ·intro r hr
   rw[←List.map_take] at hr
   obtain ⟨y,hy,rfl⟩:=List.mem_map.1 hr
   obtain ⟨j,hj⟩:=List.getElem?_of_mem hy
   have hjk:j<k:=by have:=(List.getElem?_eq_some_iff.1 hj).1;simp at this;omega
   rw[List.getElem?_take_of_lt hjk] at hj
   simp[h j hjk y hj]
 rw[this]
theorem two_box {w wr:World} {e:Ex} {A:Option Addr} {cap:Nat} (hb:Below (w.heap.size+2) ((w.alloc (.cells #[.int .i64 e.op,.string e.name,.int .i64 e.n,.slice A e.args.length cap,.int .i64 e.line,.int .i64 e.col] 63)).alloc (.cells #[.int .i64 0,.int .i64 0,.int .i64 0] 38)) wr):
  (wr.cell? ⟨w.heap.size,0,none⟩=some (.int .i64 e.op)∧wr.cell? ⟨w.heap.size,3,none⟩=some (.slice A e.args.length cap)∧wr.cell? ⟨w.heap.size,4,none⟩=some (.int .i64 e.line)∧wr.cell? ⟨w.heap.size,5,none⟩=some (.int .i64 e.col))∧
  Row wr (w.heap.size+1) #[.int .i64 0,.int .i64 0,.int .i64 0] 38∧Below w.heap.size w wr∧w.heap.size+2≤wr.heap.size:=by
 have hR:Row ((w.alloc (.cells #[.int .i64 e.op,.string e.name,.int .i64 e.n,.slice A e.args.length cap,.int .i64 e.line,.int .i64 e.col] 63)).alloc (.cells #[.int .i64 0,.int .i64 0,.int .i64 0] 38)) (w.heap.size+1) #[.int .i64 0,.int .i64 0,.int .i64 0] 38:=by
  have:=Row.new (w.alloc (.cells #[.int .i64 e.op,.string e.name,.int .i64 e.n,.slice A e.args.length cap,.int .i64 e.line,.int .i64 e.col] 63)) #[.int .i64 0,.int .i64 0,.int .i64 0] 38
  rwa [World.size_alloc] at this
 have hE:Row ((w.alloc (.cells #[.int .i64 e.op,.string e.name,.int .i64 e.n,.slice A e.args.length cap,.int .i64 e.line,.int .i64 e.col] 63)).alloc (.cells #[.int .i64 0,.int .i64 0,.int .i64 0] 38)) w.heap.size #[.int .i64 e.op,.string e.name,.int .i64 e.n,.slice A e.args.length cap,.int .i64 e.line,.int .i64 e.col] 63:=(Row.new w _ _).alloc _
 have hE':=hE.below hb (by omega)
 refine ⟨⟨?_,?_,?_,?_⟩,hR.below hb (by omega),(((Below.refl _ _).alloc (Nat.le_refl _) _).alloc (by simp) _).trans (hb.mono (by omega)),by have:=hb.size;simpa using this⟩
 all_goals (rw[hE'.cell];rfl)
theorem late_any (e:Ex):∀(A:Option Addr) (cap:Nat) (w:World),e.args.length≤cap→cap≤maxLen→IsExs w w.heap.size A e.args→
  Calls Tryz.prog 104 #[exV e A cap] w fun r w'=>r= .returned (.tuple #[.bool (lateR e).1,(lateR e).2.v])∧Below w.heap.size w w':=by
 induction e using Ex.ind with
 |h e ih=>
  intro A cap w hcap hmax hx
  have HI:=Lib.hid ih
  clear ih
  unfold maxLen at hmax
  go_enter Tryz.func104,Tryz.ntmps104
  go_wp2_with fail
  go_loopw[4,5,14] (fun s f i wr=>∃k:Nat,k≤e.args.length∧i= .int .i64 k∧s= .bool (someTo e k)∧f= .bool (firstTo e k)∧Hid (∀j,j<k→∀x,e.args[j]? =some x→(lateR x).2.err=0)∧Below (w.heap.size+2) ((w.alloc (.cells #[.int .i64 e.op,.string e.name,.int .i64 e.n,.slice A e.args.length cap,.int .i64 e.line,.int .i64 e.col] 63)).alloc (.cells #[.int .i64 0,.int .i64 0,.int .i64 0] 38)) wr) (fun _ _ i _=>e.args.length-(intOf i).toNat)
  case atStart=>exact ⟨0,Nat.zero_le _,rfl,rfl,rfl,fun j h=>absurd h (by omega),by simpa using Below.refl _ _⟩
  case round=>
   obtain ⟨k,hk,rfl,rfl,rfl,HN,hbox⟩:=hrel
   obtain ⟨⟨b0,b3,b4,b5⟩,bR,hbel,hsz⟩:=two_box hbox
   have fR0:=bR.frozen 0
   have fR1:=bR.frozen 1
   have fR2:=bR.frozen 2
   have cR0:=bR.cell 0
   have cR1:=bR.cell 1
   have cR2:=bR.cell 2
   simp only[List.getElem?_toArray,List.getElem?_cons_zero,List.getElem?_cons_succ] at cR0 cR1 cR2
   by_cases hlt:k<e.args.length
   ·obtain ⟨b,off,x,A',cap',rfl,hb,hxk,hxm,hok',hcap',hmax',hx',c0,c1,c2,c3,c4,c5⟩:=(hx.below hbel).at_ hlt
    have HS:=Lib.hid (someTo_succ hxk)
    have HF:=Lib.hid (firstTo_succ hxk)
    have HK:=Lib.hid hxk
    have HM:=Lib.hid hxm
    clear hxk hxm
    go_wp2_with fail
    refine (HI.out x HM.out A' cap' _ hcap' hmax' ((hx'.below ((Below.refl _ _).alloc (by omega) _)).more (by simp;omega))).mono ?_
    rintro r w2 ⟨rfl,hb2⟩
    have hb2':Below wr.heap.size wr w2:=((Below.refl _ _).alloc (Nat.le_refl _) _).trans (hb2.mono (by simp))
    have hsz2:=hb2'.size
    have bR2:=bR.below hb2' (by omega)
    have hb3:Below (w.heap.size+2) ((w.alloc (.cells #[.int .i64 e.op,.string e.name,.int .i64 e.n,.slice (some ⟨b,off,none⟩) e.args.length cap,.int .i64 e.line,.int .i64 e.col] 63)).alloc (.cells #[.int .i64 0,.int .i64 0,.int .i64 0] 38)) w2:=hbox.trans (hb2'.mono hsz)
    clear hbox hb2 bR fR0 fR1 fR2 cR0 cR1 cR2
    have fR0:=bR2.frozen 0
    have fR1:=bR2.frozen 1
    have fR2:=bR2.frozen 2
    have cR0:=bR2.cell 0
    have cR1:=bR2.cell 1
    have cR2:=bR2.cell 2
    simp only[List.getElem?_toArray,List.getElem?_cons_zero,List.getElem?_cons_succ] at cR0 cR1 cR2
    by_cases hE:(lateR x).2.err=0
    ·have HN':=Lib.hid (upto_succ HN.out (fun y hy=>by rw[HK.out] at hy;injection hy with hy;rw[←hy];exact hE))
     have hE':((lateR x).2.err !=0)=false:=by simp[hE]
     clear hE
     generalize hR:lateR x=R at*
     obtain ⟨is,f⟩:=R
     have hk0:((k:Int)==0)=true∨((k:Int)==0)=false:=by cases ((k:Int)==0)<;>simp
     clear hR
     generalize hS:someTo e k=S at*
     generalize hF:firstTo e k=Fi at*
     clear hS hF
     simp only at HS HF hE'
     cases is<;>cases S<;>cases Fi
     all_goals
      rcases hk0 with hk0|hk0
      all_goals
       go_wp2_with fail
       go_roundw
       case rel=>exact ⟨k+1,by omega,by go_num,by rw[HS.out];rfl,by rw[HF.out,hk0];rfl,HN',hb3.alloc (by omega) _⟩
       case measure=>simp[intOf];omega
    ·have HL:=Lib.hid (late_stop HN.out HK.out hE)
     have hE':((lateR x).2.err !=0)=true:=by simp[hE]
     clear hE
     generalize lateR x=R at*
     obtain ⟨is,f⟩:=R
     simp only at hE' HL
     go_wp2_with fail
     have bR3:=bR2.alloc (.cells #[.int .i64 f.err,.int .i64 f.line,.int .i64 f.col] 38)
     have bF3:=Row.new w2 #[.int .i64 f.err,.int .i64 f.line,.int .i64 f.col] 38
     have hb4:=hb3.alloc (by omega) (.cells #[.int .i64 f.err,.int .i64 f.line,.int .i64 f.col] 38)
     clear fR0 fR1 fR2 cR0 cR1 cR2
     generalize w2.alloc (.cells #[.int .i64 f.err,.int .i64 f.line,.int .i64 f.col] 38)=W3 at*
     have fR0:=bR3.frozen 0
     have fR1:=bR3.frozen 1
     have fR2:=bR3.frozen 2
     have cR0:=bR3.cell 0
     have cR1:=bR3.cell 1
     have cR2:=bR3.cell 2
     have cF0:=bF3.cell 0
     have cF1:=bF3.cell 1
     have cF2:=bF3.cell 2
     simp only[List.getElem?_toArray,List.getElem?_cons_zero,List.getElem?_cons_succ] at cR0 cR1 cR2 cF0 cF1 cF2
     go_region
     go_wp2_with fail
     have hB:Below w.heap.size w W3:=(((Below.refl _ _).alloc (Nat.le_refl _) _).alloc (by simp) _).trans (hb4.mono (by omega))
     refine bodyPost_ret (v:= .tuple #[.bool false,.agg #[.int .i64 f.err,.int .i64 f.line,.int .i64 f.col]]) (by simp[results,Tryz.results104,go_sem,cR0,cR1,cR2]) rfl ⟨by rw[HL.out],?_⟩
     repeat (first|exact hB|refine Below.drew ?_|refine Below.setCell ?_ (by simp) _)
   ·obtain rfl:k=e.args.length:=by omega
    have HL:=Lib.hid (late_end HN.out)
    have hB:Below w.heap.size w wr:=hbel
    generalize someTo e e.args.length=S at*
    generalize firstTo e e.args.length=Fi at*
    by_cases ho:e.op=21∨e.op=22∨e.op=26∨e.op=4
    ·have ho':((e.op==21)=true)∨((e.op==21)=false∧((e.op==22)=true∨(e.op==22)=false∧((e.op==26)=true∨(e.op==26)=false∧(e.op==4)=true))):=by
      simp only[beq_iff_eq,beq_eq_false_iff_ne];omega
     cases S
     ·have HR:=Lib.hid (HL.out.trans (show lateEnd e.op e.line e.col false Fi=(e.op==21,flOk) by unfold lateEnd;rw[if_pos ho];rfl))
      clear HL ho
      rcases ho' with o1|⟨o1,o2|⟨o2,o3|⟨o3,o4⟩⟩⟩
      all_goals
       go_wp2_with fail
       refine bodyPost_ret (v:= .tuple #[.bool (e.op==21),.agg #[.int .i64 0,.int .i64 0,.int .i64 0]]) (by simp[results,Tryz.results104,go_sem,cR0,cR1,cR2,o1]) rfl ⟨by rw[HR.out],?_⟩
       repeat (first|exact hB|refine Below.drew ?_|refine Below.setCell ?_ (by simp) _)
     ·have HR:=Lib.hid (HL.out.trans (show lateEnd e.op e.line e.col true Fi=(false,⟨31,e.line,e.col⟩) by unfold lateEnd;rw[if_pos ho];rfl))
      clear HL ho
      rcases ho' with o1|⟨o1,o2|⟨o2,o3|⟨o3,o4⟩⟩⟩
      all_goals
       go_wp2_with fail
       go_region
       go_wp2_with fail
       refine bodyPost_ret (v:= .tuple #[.bool false,.agg #[.int .i64 31,.int .i64 e.line,.int .i64 e.col]]) (by simp[results,Tryz.results104,go_sem,cR0,cR1,cR2]) rfl ⟨by rw[HR.out],?_⟩
       repeat (first|exact hB|refine Below.drew ?_|refine Below.setCell ?_ (by simp) _)
    ·have o1:(e.op==21)=false:=by rw[beq_eq_false_iff_ne];omega
     have o2:(e.op==22)=false:=by rw[beq_eq_false_iff_ne];omega
     have o3:(e.op==26)=false:=by rw[beq_eq_false_iff_ne];omega
     have o4:(e.op==4)=false:=by rw[beq_eq_false_iff_ne];omega
     by_cases h23:e.op=23
     ·have o5:(e.op==23)=true:=by simp[h23]
      cases Fi
      ·have HR:=Lib.hid (HL.out.trans (show lateEnd e.op e.line e.col S false=(false,flOk) by unfold lateEnd;rw[if_neg ho,if_pos h23];rfl))
       clear HL ho h23
       go_wp2_with fail
       refine bodyPost_ret (v:= .tuple #[.bool false,.agg #[.int .i64 0,.int .i64 0,.int .i64 0]]) (by simp[results,Tryz.results104,go_sem,cR0,cR1,cR2]) rfl ⟨by rw[HR.out],?_⟩
       repeat (first|exact hB|refine Below.drew ?_|refine Below.setCell ?_ (by simp) _)
      ·have HR:=Lib.hid (HL.out.trans (show lateEnd e.op e.line e.col S true=(false,⟨31,e.line,e.col⟩) by unfold lateEnd;rw[if_neg ho,if_pos h23];rfl))
       clear HL ho h23
       go_wp2_with fail
       go_region
       go_wp2_with fail
       refine bodyPost_ret (v:= .tuple #[.bool false,.agg #[.int .i64 31,.int .i64 e.line,.int .i64 e.col]]) (by simp[results,Tryz.results104,go_sem,cR0,cR1,cR2]) rfl ⟨by rw[HR.out],?_⟩
       repeat (first|exact hB|refine Below.drew ?_|refine Below.setCell ?_ (by simp) _)
     ·have o5:(e.op==23)=false:=by simp[h23]
      have HR:=Lib.hid (HL.out.trans (show lateEnd e.op e.line e.col S Fi=(S,flOk) by unfold lateEnd;rw[if_neg ho,if_neg h23]))
      clear HL ho h23
      go_wp2_with fail
      refine bodyPost_ret (v:= .tuple #[.bool S,.agg #[.int .i64 0,.int .i64 0,.int .i64 0]]) (by simp[results,Tryz.results104,go_sem,cR0,cR1,cR2]) rfl ⟨by rw[HR.out],?_⟩
      repeat (first|exact hB|refine Below.drew ?_|refine Below.setCell ?_ (by simp) _)
abbrev ftOf (f:Fl):Ft:=⟨f.err,f.line,f.col⟩
noncomputable def onsQ (q:Eqn):Ft:=if (lateR q.right).2.err≠0 then ftOf (lateR q.right).2 else if (lateR q.right).1=true then ⟨31,q.line,q.col⟩ else ft0
noncomputable def onsN (_:Nat) (n:Nd):Ft:=fstL (fun _ q=>onsQ q) n.eqs
noncomputable def onsF (s:List Nd):Ft:=ft2 (scopeF s) (fstL onsN s)
theorem onsQ_1 {q:Eqn} {b:Bool} {f:Fl} (h:lateR q.right=(b,f)) (hf:f.err≠0):onsQ q=ftOf f:=by unfold onsQ;rw[h];exact if_pos hf
theorem onsQ_2 {q:Eqn} {b:Bool} {f:Fl} (h:lateR q.right=(b,f)) (hf:f.err=0) (hb:b=true):onsQ q=⟨31,q.line,q.col⟩:=by
 unfold onsQ;rw[h,if_neg (fun g=>g hf),if_pos hb]
theorem onsQ_3 {q:Eqn} {b:Bool} {f:Fl} (h:lateR q.right=(b,f)) (hf:f.err=0) (hb:b=false):onsQ q=ft0:=by
 unfold onsQ;rw[h];simp[hf,hb]
theorem ocheck_any (s:List Nd) (A:Option Addr) (cap:Nat) (w:World) (sm:SrcSm s) (h1:s.length≤cap) (h2:cap≤maxLen) (h:Nds w w.heap.size A s):
  Calls Tryz.prog 58 #[srcV s A cap] w fun r w'=>r= .returned (ftV (onsF s))∧Below w.heap.size w w':=by
 have rf1:=rowNew2 w (.cells #[.slice A s.length cap] 24) ftC0 38
 have rs1:=(Row.new w #[.slice A s.length cap] 24).alloc (.cells ftC0 38)
 have b1:Below w.heap.size w ((w.alloc (.cells #[.slice A s.length cap] 24)).alloc (.cells ftC0 38)):=(by repeat (first|(with_reducible assumption)|(with_reducible exact Below.refl _ _)|(with_reducible refine Below.drew ?_)|(with_reducible refine below_drewN' ?_ _)|(with_reducible refine Below.alloc ?_ (by first|assumption|omega|(simp;omega)|simp|(simp[World.setCell];omega)|simp[World.setCell]) _)|(with_reducible refine Below.setCell ?_ (by first|assumption|omega|(simp;omega)|simp|(simp[World.setCell];omega)|simp[World.setCell]) _)))
 have HS:Hid (∀W,Below w.heap.size w W→Nds W w.heap.size A s):=fun W hW=>nds_keep h (keeps_of hW) (Nat.le_refl _)
 have HSM:=Lib.hid sm
 have h2':cap≤9223372036854775807:=by unfold maxLen at h2;omega
 clear h sm
 go_enter Tryz.func58,Tryz.ntmps58
 go_upto_region 1 with (fail)
 generalize (w.alloc (.cells #[.slice A s.length cap] 24)).alloc (.cells ftC0 38)=W1 at*
 have hs1:=b1.size
 have c0:=rs1.src
 go_wp2_with fail
 refine (check15_any s A cap W1 HSM.out h1 h2 (nds_keep (HS.out W1 b1) (fun _ _ _ h=>h) hs1)).mono ?_
 rintro r w2 ⟨rfl,hb2⟩
 have rs2:=rs1.below hb2 rs1.lt
 have rf2:=rf1.below hb2 rf1.lt
 have hB2:=b1.trans (hb2.mono hs1)
 have hs2:=hB2.size
 have hl2:=rf2.lt
 clear c0 rs1 rf1 b1 hb2 hs1
 obtain ⟨f,HFN⟩:∃f,Hid (scopeF s=f):=⟨_,rfl⟩
 have HF0:Hid (onsF s=ft2 f (fstL onsN s)):=by show _=_;rw[←HFN.out];rfl
 rw[HFN.out]
 by_cases hf:f.err=0
 rotate_left 1
 ·have hf1:(f.err !=0)=true:=neq_yes hf
  have HF:Hid (onsF s=f):=by show _=_;rw[HF0.out,ft2_1 hf]
  clear hf
  obtain ⟨⟨k0,k1,k2⟩,g0,g1,g2⟩:=rf2.three
  go_wp2_with fail
  exact bodyPost_ret (res1 rfl Tryz.underlying38 rfl (by kernel_rfl) rfl ((rf2.set3 _ _ _).alloc _)) rfl ⟨(congrArg (fun f=>Ending.returned (ftV f)) HF.out).symm,(below_set3 hB2 (by first|omega|(simp;omega)|simp) _ _ _).alloc (by first|(simp[World.setCell];omega)|simp[World.setCell]) _⟩
 have hf1:(f.err !=0)=false:=neq_no hf
 have HF1:Hid (onsF s=fstL onsN s):=by show _=_;rw[HF0.out,ft2_0 hf]
 clear hf
 have ba:Below w2.heap.size w2 (w2.alloc (.cells (ftC f) 38)):=(by repeat (first|(with_reducible assumption)|(with_reducible exact Below.refl _ _)|(with_reducible refine Below.drew ?_)|(with_reducible refine below_drewN' ?_ _)|(with_reducible refine Below.alloc ?_ (by first|assumption|omega|(simp;omega)|simp|(simp[World.setCell];omega)|simp[World.setCell]) _)|(with_reducible refine Below.setCell ?_ (by first|assumption|omega|(simp;omega)|simp|(simp[World.setCell];omega)|simp[World.setCell]) _)))
 go_upto_region 4 with (fail)
 generalize hW4:w2.alloc (.cells (ftC f) 38)=w4 at*
 clear hW4
 have rs4:=rs2.below ba rs2.lt
 have rf4:=rf2.below ba rf2.lt
 have hB4:=hB2.trans (ba.mono hs2)
 have hs4:=hB4.size
 clear rs2 rf2 hB2 hs2 ba hl2 HF0
 have c0:=rs4.src
 go_wp2_with fail
 clear c0
 go_loopw[19] (fun i wr=>∃k:Nat,k≤s.length∧i= .int .i64 k∧Hid (∀j,j<k→∀x,s[j]? =some x→(onsN j x).err=0)∧Below w4.heap.size w4 wr) (fun i _=>s.length-(intOf i).toNat)
 case atStart=>exact ⟨0,Nat.zero_le _,rfl,fun j h=>absurd h (by omega),Below.refl _ _⟩
 case round=>
  obtain ⟨k,hk,rfl,HN,hbr⟩:=hrel
  have hszr:=hbr.size
  have rf:=rf4.below hbr rf4.lt
  have hB:=hB4.trans (hbr.mono hs4)
  have hsB:=hB.size
  by_cases hlt:k<s.length
  ·obtain ⟨b,off,n,a,hA,hb,hn,hat,d0,d1,d2,d3,d4,d5,d6⟩:=(HS.out wr hB).nd hlt
   rw[hA]
   have HA:=Lib.hid hA
   have HX:=Lib.hid hn
   have gq:=hat.mq
   have lq:=hat.lq
   have gq':a.cq≤9223372036854775807:=by unfold maxLen at gq;omega
   have HQ:Hid (∀W,Below wr.heap.size wr W→Eqs W w.heap.size a.aq n.eqs):=fun W hW=>eqs_keep hat.sq (keeps_of (hW.mono hsB)) (Nat.le_refl _)
   have rn:=Row.new wr (ndArr n a) 58
   have ba:Below wr.heap.size wr (wr.alloc (.cells (ndArr n a) 58)):=(by repeat (first|(with_reducible assumption)|(with_reducible exact Below.refl _ _)|(with_reducible refine Below.drew ?_)|(with_reducible refine below_drewN' ?_ _)|(with_reducible refine Below.alloc ?_ (by first|assumption|omega|(simp;omega)|simp|(simp[World.setCell];omega)|simp[World.setCell]) _)|(with_reducible refine Below.setCell ?_ (by first|assumption|omega|(simp;omega)|simp|(simp[World.setCell];omega)|simp[World.setCell]) _)))
   clear hA hn hat
   go_upto_region 7 with (fail)
   clear d0 d1 d2 d3 d4 d5 d6
   generalize hW6:wr.alloc (.cells (ndArr n a) 58)=w6 at*
   clear hW6
   have hsa:=ba.size
   have rf6:=rf.below ba rf.lt
   have hB6:=hB.trans (ba.mono hsB)
   have hs6:=hB6.size
   obtain ⟨d0,d1,d2,d3,d4,d5,d6⟩:=rn.nd
   obtain ⟨wo,rfl⟩:∃wo:World,wo=wr:=⟨_,rfl⟩
   go_wp2_with fail
   clear d0 d1 d2 d3 d4 d5 d6
   go_loopw[26] (fun i wr=>∃p:Nat,p≤n.eqs.length∧i= .int .i64 p∧Hid (∀j,j<p→∀x,n.eqs[j]? =some x→(onsQ x).err=0)∧Below w6.heap.size w6 wr) (fun i _=>n.eqs.length-(intOf i).toNat)
   case atStart=>exact ⟨0,Nat.zero_le _,rfl,fun j h=>absurd h (by omega),Below.refl _ _⟩
   case round=>
    obtain ⟨p,hp,rfl,HP,hbq⟩:=hrel
    have hszq:=hbq.size
    have rf7:=rf6.below hbq rf6.lt
    have hB7:=hB6.trans (hbq.mono hs6)
    have hsB7:=hB7.size
    by_cases hlp:p<n.eqs.length
    ·obtain ⟨b',off',q,A1,k1,A2,k2,hAq,hbb,hq,ok,lq1,mq1,sl1,lq2,mq2,sl2,d0,d1,d2,d3,d4,d5,d6,d7,d8⟩:=(HQ.out wr (ba.trans (hbq.mono hsa))).eqn hlp
     rw[hAq]
     have HAq:=Lib.hid hAq
     have HXQ:=Lib.hid hq
     have re:=Row.new wr (eqArr q A1 k1 A2 k2) 65
     have be:Below wr.heap.size wr (wr.alloc (.cells (eqArr q A1 k1 A2 k2) 65)):=(by repeat (first|(with_reducible assumption)|(with_reducible exact Below.refl _ _)|(with_reducible refine Below.drew ?_)|(with_reducible refine below_drewN' ?_ _)|(with_reducible refine Below.alloc ?_ (by first|assumption|omega|(simp;omega)|simp|(simp[World.setCell];omega)|simp[World.setCell]) _)|(with_reducible refine Below.setCell ?_ (by first|assumption|omega|(simp;omega)|simp|(simp[World.setCell];omega)|simp[World.setCell]) _)))
     have HR:=Lib.hid (late_any q.right A2 k2 (wr.alloc (.cells (eqArr q A1 k1 A2 k2) 65)) lq2 mq2 (exs_keep sl2 (keeps_of (be.mono hsB7)) (by have:=be.size;omega)))
     have HFn:Hid ((onsQ q).err≠0→onsF s=onsQ q):=fun g=>by
      have e1:onsN k n=onsQ q:=fstL_stop (f:=fun _ q=>onsQ q) HP.out HXQ.out g
      rw[HF1.out,fstL_stop (f:=onsN) HN.out HX.out (by rw[e1];exact g),e1]
     obtain ⟨L,HLT⟩:∃L,Hid (lateR q.right=L):=⟨_,rfl⟩
     rw[HLT.out] at HR
     obtain ⟨bl,fl⟩:=L
     clear hAq hq ok sl1 sl2
     go_upto_region 10 with (fail)
     clear d0 d1 d2 d3 d4 d5 d6 d7 d8
     generalize hW8:wr.alloc (.cells (eqArr q A1 k1 A2 k2) 65)=w8 at*
     clear hW8
     have hse:=be.size
     have rf8:=rf7.below be rf7.lt
     have hB8:=hB7.trans (be.mono hsB7)
     obtain ⟨d0,d1,d2,d3,d4,d5,d6,d7,d8⟩:=re.eqn
     go_wp2_with fail
     refine HR.out.mono ?_
     rintro r w9 ⟨rfl,hb9⟩
     have rf9:=rf8.below hb9 rf8.lt
     have re9:=re.below hb9 re.lt
     have hB9:=hB8.trans (hb9.mono hB8.size)
     have hs9:=hb9.size
     have hsB9:=hB9.size
     have hl9:=rf9.lt
     have hl9e:=re9.lt
     clear d0 d1 d2 d3 d4 d5 d6 d7 d8
     obtain ⟨d0,d1,d2,d3,d4,d5,d6,d7,d8⟩:=re9.eqn
     obtain ⟨⟨k0,k1',k2'⟩,g0,g1,g2⟩:=rf9.three
     by_cases hfl:fl.err=0
     ·have hfl1:(fl.err !=0)=false:=neq_no hfl
      cases bl
      ·have HP':=Lib.hid (step_uptoI (P:=fun _ x=>(onsQ x).err=0) HP.out HXQ.out (by rw[onsQ_3 HLT.out hfl rfl]))
       clear hfl
       have b9:Below w6.heap.size w6 (w9.alloc (.cells #[.int .i64 fl.err,.int .i64 fl.line,.int .i64 fl.col] 38)):=((hbq.trans (be.mono hszq)).trans (hb9.mono (by omega))).alloc (by omega) _
       go_wp2_with fail
       go_roundw
       case rel=>exact ⟨p+1,by omega,by go_num,HP',b9⟩
       case measure=>first|(simp[intOf];omega)|simp[intOf]
      ·have HF:Hid (onsF s=⟨31,q.line,q.col⟩):=by
        have e:=onsQ_2 HLT.out hfl rfl
        exact (HFn.out (by rw[e];show (31:Int)≠0;decide)).trans e
       clear hfl
       go_wp2_with fail
       exact bodyPost_ret (res1 rfl Tryz.underlying38 rfl (by kernel_rfl) rfl ((rf9.set3 _ _ _).alloc _)) rfl ⟨(congrArg (fun f=>Ending.returned (ftV f)) HF.out).symm,(below_set3 hB9 (by first|omega|(simp;omega)|simp) _ _ _).alloc (by first|(simp[World.setCell];omega)|simp[World.setCell]) _⟩
     ·have hfl1:(fl.err !=0)=true:=neq_yes hfl
      have HF:Hid (onsF s=ftOf fl):=by
       have e:=onsQ_1 HLT.out hfl
       exact (HFn.out (by rw[e];exact hfl)).trans e
      clear hfl
      go_wp2_with fail
      exact bodyPost_ret (res1 rfl Tryz.underlying38 rfl (by kernel_rfl) rfl ((rf9.set3 _ _ _).alloc _)) rfl ⟨(congrArg (fun f=>Ending.returned (ftV f)) HF.out).symm,(below_set3 hB9 (by first|omega|(simp;omega)|simp) _ _ _).alloc (by first|(simp[World.setCell];omega)|simp[World.setCell]) _⟩
    ·obtain rfl:p=n.eqs.length:=by omega
     have HN':=Lib.hid (step_uptoI (P:=fun j x=>(onsN j x).err=0) HN.out HX.out (by unfold onsN;rw[fstL_end HP.out]))
     go_wp2_with fail
     go_roundw
     case rel=>exact ⟨k+1,by omega,by go_num,HN',hbr.trans ((ba.trans (hbq.mono hsa)).mono hszr)⟩
     case measure=>first|(simp[intOf];omega)|simp[intOf]
  ·obtain rfl:k=s.length:=by omega
   have HF:Hid (onsF s=ft0):=HF1.out.trans (fstL_end HN.out)
   obtain ⟨⟨k0,k1,k2⟩,g0,g1,g2⟩:=rf.three
   go_wp2_with fail
   exact bodyPost_ret (res1 rfl Tryz.underlying38 rfl (by kernel_rfl) rfl (rf.set3 _ _ _)) rfl ⟨(congrArg (fun f=>Ending.returned (ftV f)) HF.out).symm,below_set3 hB (by first|omega|(simp;omega)|simp) _ _ _⟩
end Go.Proofs.YtdkgkacnjdnpoaaGreat
