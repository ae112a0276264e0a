/-
  Which expressions are late: the contracts of onset.late, Late. What is wrong first with first ticks: the contracts of onset.Check and tompionref19.Check. What an expression wants at once, on what a name hangs, which name hangs on itself, and a row of all: plain. What an expression wants at once: the contracts of cause.wants and Wants.
-/
import Derived.Test.YtdkgkacnjdnpoaaGreatZz
import Derived.Test.YtdkgkacnjdnpoaaGreatTreeRight
import Derived.Test.YtdkgkacnjdnpoaaGreatRepL
import Derived.Deep.DeepCutAuto
import Derived.Test.YtdkgkacnjdnpoaaGreatSrt
import Derived.Test.YtdkgkacnjdnpoaaGreatScH
import Derived.Test.YtdkgkacnjdnpoaaGreatStzP
import Derived.Test.YtdkgkacnjdnpoaaGreatScG
set_option maxHeartbeats 4000000
set_option maxRecDepth 100000
namespace Go.Proofs.YtdkgkacnjdnpoaaGreat
open Go.RowKit
structure Fl where
 err:Int
 line:Int
 col:Int
abbrev Fl.v (f:Fl):Value:= .agg #[.int .i64 f.err,.int .i64 f.line,.int .i64 f.col]
abbrev flOk:Fl:=⟨0,0,0⟩
def lateEnd (op l c:Int) (some first:Bool):Bool × Fl:=
 if op=21∨op=22∨op=26∨op=4 then (if some=true then (false,⟨31,l,c⟩) else (op==21,flOk))
 else if op=23 then (if first=true then (false,⟨31,l,c⟩) else (false,flOk)) else (some,flOk)
def headB:List Bool→Bool
 | []=>false
 |b::_=>b
def lateC (op l c:Int) (rs:List (Bool × Fl)):Bool × Fl:=
 match rs.find? (fun r=>r.2.err !=0) with
 |some r=>(false,r.2)
 |none=>lateEnd op l c (rs.any (·.1)) (headB (rs.map (·.1)))
noncomputable def lateR:Ex→Bool × Fl:=Ex.para fun e rs=>lateC e.op e.line e.col rs
theorem lateR_eq (e:Ex):lateR e=lateC e.op e.line e.col (e.args.map lateR):=Ex.para_eq _ e
noncomputable def someTo (e:Ex) (k:Nat):Bool:=((e.args.take k).map lateR).any (·.1)
noncomputable def firstTo (e:Ex) (k:Nat):Bool:=headB (((e.args.take k).map lateR).map (·.1))
theorem someTo_succ {e x:Ex} {k:Nat} (h:e.args[k]? =some x):someTo e (k+1)=(someTo e k||(lateR x).1):=by
 unfold someTo;rw[take_succ_map lateR h];simp
theorem firstTo_succ {e x:Ex} {k:Nat} (h:e.args[k]? =some x):firstTo e (k+1)=(firstTo e k||((lateR x).1 && ((k:Int)==0))):=by
 unfold firstTo
 rw[take_succ_map lateR h]
 cases k with
 |zero=>simp[headB]
 |succ k=>
  have hl:0<e.args.length:=by have:=(List.getElem?_eq_some_iff.1 h).1;omega
  cases ha:e.args with
  |nil=>rw[ha] at hl;simp at hl
  |cons y l=>
   have:(((k+1:Nat):Int)==0)=false:=by rw[beq_eq_false_iff_ne];omega
   rw[this]
   simp[headB]
theorem find_none {rs:List (Bool × Fl)} (h:∀j,j<rs.length→∀r,rs[j]? =some r→r.2.err=0):rs.find? (fun r=>r.2.err !=0)=none:=by
 rw[List.find?_eq_none]
 intro r hr
 obtain ⟨j,hj⟩:=List.getElem?_of_mem hr
 simp[h j (List.getElem?_eq_some_iff.1 hj).1 r hj]
theorem late_end {e:Ex} (h:∀j,j<e.args.length→∀x,e.args[j]? =some x→(lateR x).2.err=0):lateR e=lateEnd e.op e.line e.col (someTo e e.args.length) (firstTo e e.args.length):=by
 rw[lateR_eq]
 unfold lateC
 rw[find_none fun j hj r hr=>?_]
 ·unfold someTo firstTo;rw[List.take_length]
 ·rw[List.getElem?_map,Option.map_eq_some_iff] at hr
  obtain ⟨x,hx,rfl⟩:=hr
  exact h j (by simpa using hj) x hx
theorem late_stop {e x:Ex} {k:Nat} (h:∀j,j<k→∀x,e.args[j]? =some x→(lateR x).2.err=0) (hx:e.args[k]? =some x) (hne:(lateR x).2.err≠0):lateR e=(false,(lateR x).2):=by
 rw[lateR_eq]
 unfold lateC
 have:(e.args.map lateR).find? (fun r=>r.2.err !=0)=some (lateR x):=by
  have hk:=(List.getElem?_eq_some_iff.1 hx).1
  rw[←List.take_append_drop k (e.args.map lateR),List.find?_append,List.find?_eq_none.2 ?_,Option.none_or,←List.map_drop,drop_succ_map lateR hx]
  ·rw[List.find?_cons_of_pos];simpa using hne
  ·intro r hr
   rw[←List.map_take] at hr
   obtain ⟨y,hy,rfl⟩:=List.mem_map.1 hr
   obtain ⟨j,hj⟩:=List.getElem?_of_mem hy
   have hjk:j<k:=by have:=(List.getElem?_eq_some_iff.1 hj).1;simp at this;omega
   rw[List.getElem?_take_of_lt hjk] at hj
   simp[h j hjk y hj]
 rw[this]
theorem two_box {w wr:World} {e:Ex} {A:Option Addr} {cap:Nat} (hb:Below (w.heap.size+2) ((w.alloc (.cells #[.int .i64 e.op,.string e.name,.int .i64 e.n,.slice A e.args.length cap,.int .i64 e.line,.int .i64 e.col] 63)).alloc (.cells #[.int .i64 0,.int .i64 0,.int .i64 0] 38)) wr):
  (wr.cell? ⟨w.heap.size,0,none⟩=some (.int .i64 e.op)∧wr.cell? ⟨w.heap.size,3,none⟩=some (.slice A e.args.length cap)∧wr.cell? ⟨w.heap.size,4,none⟩=some (.int .i64 e.line)∧wr.cell? ⟨w.heap.size,5,none⟩=some (.int .i64 e.col))∧
  Row wr (w.heap.size+1) #[.int .i64 0,.int .i64 0,.int .i64 0] 38∧Below w.heap.size w wr∧w.heap.size+2≤wr.heap.size:=by
 have hR:Row ((w.alloc (.cells #[.int .i64 e.op,.string e.name,.int .i64 e.n,.slice A e.args.length cap,.int .i64 e.line,.int .i64 e.col] 63)).alloc (.cells #[.int .i64 0,.int .i64 0,.int .i64 0] 38)) (w.heap.size+1) #[.int .i64 0,.int .i64 0,.int .i64 0] 38:=by
  have:=Row.new (w.alloc (.cells #[.int .i64 e.op,.string e.name,.int .i64 e.n,.slice A e.args.length cap,.int .i64 e.line,.int .i64 e.col] 63)) #[.int .i64 0,.int .i64 0,.int .i64 0] 38
  rwa [World.size_alloc] at this
 have hE:Row ((w.alloc (.cells #[.int .i64 e.op,.string e.name,.int .i64 e.n,.slice A e.args.length cap,.int .i64 e.line,.int .i64 e.col] 63)).alloc (.cells #[.int .i64 0,.int .i64 0,.int .i64 0] 38)) w.heap.size #[.int .i64 e.op,.string e.name,.int .i64 e.n,.slice A e.args.length cap,.int .i64 e.line,.int .i64 e.col] 63:=(Row.new w _ _).alloc _
 have hE':=hE.below hb (by omega)
 refine ⟨⟨?_,?_,?_,?_⟩,hR.below hb (by omega),(((Below.refl _ _).alloc (Nat.le_refl _) _).alloc (by simp) _).trans (hb.mono (by omega)),by have:=hb.size;simpa using this⟩
 all_goals (rw[hE'.cell];rfl)
theorem late_any (e:Ex):∀(A:Option Addr) (cap:Nat) (w:World),e.args.length≤cap→cap≤maxLen→IsExs w w.heap.size A e.args→
  Calls Tryz.prog 104 #[exV e A cap] w fun r w'=>r= .returned (.tuple #[.bool (lateR e).1,(lateR e).2.v])∧Below w.heap.size w w':=by
 induction e using Ex.ind with
 |h e ih=>
  intro A cap w hcap hmax hx
  have HI:=Lib.hid ih
  clear ih
  unfold maxLen at hmax
  go_enter Tryz.func104,Tryz.ntmps104
  go_wp2_with fail
  go_loopw[4,5,14] (fun s f i wr=>∃k:Nat,k≤e.args.length∧i= .int .i64 k∧s= .bool (someTo e k)∧f= .bool (firstTo e k)∧Hid (∀j,j<k→∀x,e.args[j]? =some x→(lateR x).2.err=0)∧Below (w.heap.size+2) ((w.alloc (.cells #[.int .i64 e.op,.string e.name,.int .i64 e.n,.slice A e.args.length cap,.int .i64 e.line,.int .i64 e.col] 63)).alloc (.cells #[.int .i64 0,.int .i64 0,.int .i64 0] 38)) wr) (fun _ _ i _=>e.args.length-(intOf i).toNat)
  case atStart=>exact ⟨0,Nat.zero_le _,rfl,rfl,rfl,fun j h=>absurd h (by omega),by simpa using Below.refl _ _⟩
  case round=>
   obtain ⟨k,hk,rfl,rfl,rfl,HN,hbox⟩:=hrel
   obtain ⟨⟨b0,b3,b4,b5⟩,bR,hbel,hsz⟩:=two_box hbox
   have fR0:=bR.frozen 0
   have fR1:=bR.frozen 1
   have fR2:=bR.frozen 2
   have cR0:=bR.cell 0
   have cR1:=bR.cell 1
   have cR2:=bR.cell 2
   simp only[List.getElem?_toArray,List.getElem?_cons_zero,List.getElem?_cons_succ] at cR0 cR1 cR2
   by_cases hlt:k<e.args.length
   ·obtain ⟨b,off,x,A',cap',rfl,hb,hxk,hxm,hok',hcap',hmax',hx',c0,c1,c2,c3,c4,c5⟩:=(hx.below hbel).at_ hlt
    have HS:=Lib.hid (someTo_succ hxk)
    have HF:=Lib.hid (firstTo_succ hxk)
    have HK:=Lib.hid hxk
    have HM:=Lib.hid hxm
    clear hxk hxm
    go_wp2_with fail
    refine (HI.out x HM.out A' cap' _ hcap' hmax' ((hx'.below ((Below.refl _ _).alloc (by omega) _)).more (by simp;omega))).mono ?_
    rintro r w2 ⟨rfl,hb2⟩
    have hb2':Below wr.heap.size wr w2:=((Below.refl _ _).alloc (Nat.le_refl _) _).trans (hb2.mono (by simp))
    have hsz2:=hb2'.size
    have bR2:=bR.below hb2' (by omega)
    have hb3:Below (w.heap.size+2) ((w.alloc (.cells #[.int .i64 e.op,.string e.name,.int .i64 e.n,.slice (some ⟨b,off,none⟩) e.args.length cap,.int .i64 e.line,.int .i64 e.col] 63)).alloc (.cells #[.int .i64 0,.int .i64 0,.int .i64 0] 38)) w2:=hbox.trans (hb2'.mono hsz)
    clear hbox hb2 bR fR0 fR1 fR2 cR0 cR1 cR2
    have fR0:=bR2.frozen 0
    have fR1:=bR2.frozen 1
    have fR2:=bR2.frozen 2
    have cR0:=bR2.cell 0
    have cR1:=bR2.cell 1
    have cR2:=bR2.cell 2
    simp only[List.getElem?_toArray,List.getElem?_cons_zero,List.getElem?_cons_succ] at cR0 cR1 cR2
    by_cases hE:(lateR x).2.err=0
    ·have HN':=Lib.hid (upto_succ HN.out (fun y hy=>by rw[HK.out] at hy;injection hy with hy;rw[←hy];exact hE))
     have hE':((lateR x).2.err !=0)=false:=by simp[hE]
     clear hE
     generalize hR:lateR x=R at*
     obtain ⟨is,f⟩:=R
     have hk0:((k:Int)==0)=true∨((k:Int)==0)=false:=by cases ((k:Int)==0)<;>simp
     clear hR
     generalize hS:someTo e k=S at*
     generalize hF:firstTo e k=Fi at*
     clear hS hF
     simp only at HS HF hE'
     cases is<;>cases S<;>cases Fi
     all_goals
      rcases hk0 with hk0|hk0
      all_goals
       go_wp2_with fail
       go_roundw
       case rel=>exact ⟨k+1,by omega,by go_num,by rw[HS.out];rfl,by rw[HF.out,hk0];rfl,HN',hb3.alloc (by omega) _⟩
       case measure=>simp[intOf];omega
    ·have HL:=Lib.hid (late_stop HN.out HK.out hE)
     have hE':((lateR x).2.err !=0)=true:=by simp[hE]
     clear hE
     generalize lateR x=R at*
     obtain ⟨is,f⟩:=R
     simp only at hE' HL
     go_wp2_with fail
     have bR3:=bR2.alloc (.cells #[.int .i64 f.err,.int .i64 f.line,.int .i64 f.col] 38)
     have bF3:=Row.new w2 #[.int .i64 f.err,.int .i64 f.line,.int .i64 f.col] 38
     have hb4:=hb3.alloc (by omega) (.cells #[.int .i64 f.err,.int .i64 f.line,.int .i64 f.col] 38)
     clear fR0 fR1 fR2 cR0 cR1 cR2
     generalize w2.alloc (.cells #[.int .i64 f.err,.int .i64 f.line,.int .i64 f.col] 38)=W3 at*
     have fR0:=bR3.frozen 0
     have fR1:=bR3.frozen 1
     have fR2:=bR3.frozen 2
     have cR0:=bR3.cell 0
     have cR1:=bR3.cell 1
     have cR2:=bR3.cell 2
     have cF0:=bF3.cell 0
     have cF1:=bF3.cell 1
     have cF2:=bF3.cell 2
     simp only[List.getElem?_toArray,List.getElem?_cons_zero,List.getElem?_cons_succ] at cR0 cR1 cR2 cF0 cF1 cF2
     go_region
     go_wp2_with fail
     have hB:Below w.heap.size w W3:=(((Below.refl _ _).alloc (Nat.le_refl _) _).alloc (by simp) _).trans (hb4.mono (by omega))
     refine bodyPost_ret (v:= .tuple #[.bool false,.agg #[.int .i64 f.err,.int .i64 f.line,.int .i64 f.col]]) (by simp[results,Tryz.results104,go_sem,cR0,cR1,cR2]) rfl ⟨by rw[HL.out],?_⟩
     repeat (first|exact hB|refine Below.drew ?_|refine Below.setCell ?_ (by simp) _)
   ·obtain rfl:k=e.args.length:=by omega
    have HL:=Lib.hid (late_end HN.out)
    have hB:Below w.heap.size w wr:=hbel
    generalize someTo e e.args.length=S at*
    generalize firstTo e e.args.length=Fi at*
    by_cases ho:e.op=21∨e.op=22∨e.op=26∨e.op=4
    ·have ho':((e.op==21)=true)∨((e.op==21)=false∧((e.op==22)=true∨(e.op==22)=false∧((e.op==26)=true∨(e.op==26)=false∧(e.op==4)=true))):=by
      simp only[beq_iff_eq,beq_eq_false_iff_ne];omega
     cases S
     ·have HR:=Lib.hid (HL.out.trans (show lateEnd e.op e.line e.col false Fi=(e.op==21,flOk) by unfold lateEnd;rw[if_pos ho];rfl))
      clear HL ho
      rcases ho' with o1|⟨o1,o2|⟨o2,o3|⟨o3,o4⟩⟩⟩
      all_goals
       go_wp2_with fail
       refine bodyPost_ret (v:= .tuple #[.bool (e.op==21),.agg #[.int .i64 0,.int .i64 0,.int .i64 0]]) (by simp[results,Tryz.results104,go_sem,cR0,cR1,cR2,o1]) rfl ⟨by rw[HR.out],?_⟩
       repeat (first|exact hB|refine Below.drew ?_|refine Below.setCell ?_ (by simp) _)
     ·have HR:=Lib.hid (HL.out.trans (show lateEnd e.op e.line e.col true Fi=(false,⟨31,e.line,e.col⟩) by unfold lateEnd;rw[if_pos ho];rfl))
      clear HL ho
      rcases ho' with o1|⟨o1,o2|⟨o2,o3|⟨o3,o4⟩⟩⟩
      all_goals
       go_wp2_with fail
       go_region
       go_wp2_with fail
       refine bodyPost_ret (v:= .tuple #[.bool false,.agg #[.int .i64 31,.int .i64 e.line,.int .i64 e.col]]) (by simp[results,Tryz.results104,go_sem,cR0,cR1,cR2]) rfl ⟨by rw[HR.out],?_⟩
       repeat (first|exact hB|refine Below.drew ?_|refine Below.setCell ?_ (by simp) _)
    ·have o1:(e.op==21)=false:=by rw[beq_eq_false_iff_ne];omega
     have o2:(e.op==22)=false:=by rw[beq_eq_false_iff_ne];omega
     have o3:(e.op==26)=false:=by rw[beq_eq_false_iff_ne];omega
     have o4:(e.op==4)=false:=by rw[beq_eq_false_iff_ne];omega
     by_cases h23:e.op=23
     ·have o5:(e.op==23)=true:=by simp[h23]
      cases Fi
      ·have HR:=Lib.hid (HL.out.trans (show lateEnd e.op e.line e.col S false=(false,flOk) by unfold lateEnd;rw[if_neg ho,if_pos h23];rfl))
       clear HL ho h23
       go_wp2_with fail
       refine bodyPost_ret (v:= .tuple #[.bool false,.agg #[.int .i64 0,.int .i64 0,.int .i64 0]]) (by simp[results,Tryz.results104,go_sem,cR0,cR1,cR2]) rfl ⟨by rw[HR.out],?_⟩
       repeat (first|exact hB|refine Below.drew ?_|refine Below.setCell ?_ (by simp) _)
      ·have HR:=Lib.hid (HL.out.trans (show lateEnd e.op e.line e.col S true=(false,⟨31,e.line,e.col⟩) by unfold lateEnd;rw[if_neg ho,if_pos h23];rfl))
       clear HL ho h23
       go_wp2_with fail
       go_region
       go_wp2_with fail
       refine bodyPost_ret (v:= .tuple #[.bool false,.agg #[.int .i64 31,.int .i64 e.line,.int .i64 e.col]]) (by simp[results,Tryz.results104,go_sem,cR0,cR1,cR2]) rfl ⟨by rw[HR.out],?_⟩
       repeat (first|exact hB|refine Below.drew ?_|refine Below.setCell ?_ (by simp) _)
     ·have o5:(e.op==23)=false:=by simp[h23]
      have HR:=Lib.hid (HL.out.trans (show lateEnd e.op e.line e.col S Fi=(S,flOk) by unfold lateEnd;rw[if_neg ho,if_neg h23]))
      clear HL ho h23
      go_wp2_with fail
      refine bodyPost_ret (v:= .tuple #[.bool S,.agg #[.int .i64 0,.int .i64 0,.int .i64 0]]) (by simp[results,Tryz.results104,go_sem,cR0,cR1,cR2]) rfl ⟨by rw[HR.out],?_⟩
      repeat (first|exact hB|refine Below.drew ?_|refine Below.setCell ?_ (by simp) _)
abbrev ftOf (f:Fl):Ft:=⟨f.err,f.line,f.col⟩
noncomputable def onsQ (q:Eqn):Ft:=if (lateR q.right).2.err≠0 then ftOf (lateR q.right).2 else if (lateR q.right).1=true then ⟨31,q.line,q.col⟩ else ft0
noncomputable def onsN (_:Nat) (n:Nd):Ft:=fstL (fun _ q=>onsQ q) n.eqs
noncomputable def onsF (s:List Nd):Ft:=ft2 (scopeF s) (fstL onsN s)
theorem onsQ_1 {q:Eqn} {b:Bool} {f:Fl} (h:lateR q.right=(b,f)) (hf:f.err≠0):onsQ q=ftOf f:=by unfold onsQ;rw[h];exact if_pos hf
theorem onsQ_2 {q:Eqn} {b:Bool} {f:Fl} (h:lateR q.right=(b,f)) (hf:f.err=0) (hb:b=true):onsQ q=⟨31,q.line,q.col⟩:=by
 unfold onsQ;rw[h,if_neg (fun g=>g hf),if_pos hb]
theorem onsQ_3 {q:Eqn} {b:Bool} {f:Fl} (h:lateR q.right=(b,f)) (hf:f.err=0) (hb:b=false):onsQ q=ft0:=by
 unfold onsQ;rw[h];simp[hf,hb]
theorem ocheck_any (s:List Nd) (A:Option Addr) (cap:Nat) (w:World) (sm:SrcSm s) (h1:s.length≤cap) (h2:cap≤maxLen) (h:Nds w w.heap.size A s):
  Calls Tryz.prog 58 #[srcV s A cap] w fun r w'=>r= .returned (ftV (onsF s))∧Below w.heap.size w w':=by
 refine' zq5
 refine' zq50
 clear h sm
 go_enter Tryz.func58,Tryz.ntmps58
 refine' zq93
 have HF0:Hid (onsF s=ft2 f (fstL onsN s)):=by show _=_;rw[←HFN.out];rfl
 rw[HFN.out]
 by_cases hf:f.err=0
 rotate_left 1
 ·have hf1:(f.err !=0)=true:=neq_yes hf
  have HF:Hid (onsF s=f):=by show _=_;rw[HF0.out,ft2_1 hf]
  clear hf
  refine' zq147
  refine' zq9
 have hf1:(f.err !=0)=false:=neq_no hf
 have HF1:Hid (onsF s=fstL onsN s):=by show _=_;rw[HF0.out,ft2_0 hf]
 clear hf
 refine' zq30
 refine' zq46
 clear rs2 rf2 hB2 hs2 ba hl2 HF0
 have c0:=rs4.src
 go_wp2_with fail
 clear c0
 go_loopw[19] (fun i wr=>∃k:Nat,k≤s.length∧i= .int .i64 k∧Hid (∀j,j<k→∀x,s[j]? =some x→(onsN j x).err=0)∧Below w4.heap.size w4 wr) (fun i _=>s.length-(intOf i).toNat)
 case atStart=>exact ⟨0,Nat.zero_le _,rfl,fun j h=>absurd h (by omega),Below.refl _ _⟩
 case round=>
  refine' zq62
  have rf:=rf4.below hbr rf4.lt
  have hB:=hB4.trans (hbr.mono hs4)
  have hsB:=hB.size
  by_cases hlt:k<s.length
  ·refine' zq73
   rw[hA]
   have HA:=Lib.hid hA
   have HX:=Lib.hid hn
   have gq:=hat.mq
   have lq:=hat.lq
   have gq':a.cq≤9223372036854775807:=by unfold maxLen at gq;omega
   have HQ:Hid (∀W,Below wr.heap.size wr W→Eqs W w.heap.size a.aq n.eqs):=fun W hW=>eqs_keep hat.sq (keeps_of (hW.mono hsB)) (Nat.le_refl _)
   have rn:=Row.new wr (ndArr n a) 58
   refine' zq61
   clear hA hn hat
   go_upto_region 7 with (fail)
   refine' zq76
   obtain ⟨d0,d1,d2,d3,d4,d5,d6⟩:=rn.nd
   refine' zq97
   go_wp2_with fail
   clear d0 d1 d2 d3 d4 d5 d6
   go_loopw[26] (fun i wr=>∃p:Nat,p≤n.eqs.length∧i= .int .i64 p∧Hid (∀j,j<p→∀x,n.eqs[j]? =some x→(onsQ x).err=0)∧Below w6.heap.size w6 wr) (fun i _=>n.eqs.length-(intOf i).toNat)
   case atStart=>exact ⟨0,Nat.zero_le _,rfl,fun j h=>absurd h (by omega),Below.refl _ _⟩
   case round=>
    obtain ⟨p,hp,rfl,HP,hbq⟩:=hrel
    have hszq:=hbq.size
    have rf7:=rf6.below hbq rf6.lt
    have hB7:=hB6.trans (hbq.mono hs6)
    have hsB7:=hB7.size
    by_cases hlp:p<n.eqs.length
    ·obtain ⟨b',off',q,A1,k1,A2,k2,hAq,hbb,hq,ok,lq1,mq1,sl1,lq2,mq2,sl2,d0,d1,d2,d3,d4,d5,d6,d7,d8⟩:=(HQ.out wr (ba.trans (hbq.mono hsa))).eqn hlp
     rw[hAq]
     have HAq:=Lib.hid hAq
     have HXQ:=Lib.hid hq
     refine' zq157
     have be:Below wr.heap.size wr (wr.alloc (.cells (eqArr q A1 k1 A2 k2) 65)):=(by repeat (first|(with_reducible assumption)|(with_reducible exact Below.refl _ _)|(with_reducible refine Below.drew ?_)|(with_reducible refine below_drewN' ?_ _)|(with_reducible refine Below.alloc ?_ (by first|assumption|omega|(simp;omega)|simp|(simp[World.setCell];omega)|simp[World.setCell]) _)|(with_reducible refine Below.setCell ?_ (by first|assumption|omega|(simp;omega)|simp|(simp[World.setCell];omega)|simp[World.setCell]) _)))
     have HR:=Lib.hid (late_any q.right A2 k2 (wr.alloc (.cells (eqArr q A1 k1 A2 k2) 65)) lq2 mq2 (exs_keep sl2 (keeps_of (be.mono hsB7)) (by have:=be.size;omega)))
     have HFn:Hid ((onsQ q).err≠0→onsF s=onsQ q):=fun g=>by
      have e1:onsN k n=onsQ q:=fstL_stop (f:=fun _ q=>onsQ q) HP.out HXQ.out g
      rw[HF1.out,fstL_stop (f:=onsN) HN.out HX.out (by rw[e1];exact g),e1]
     obtain ⟨L,HLT⟩:∃L,Hid (lateR q.right=L):=⟨_,rfl⟩
     rw[HLT.out] at HR
     obtain ⟨bl,fl⟩:=L
     clear hAq hq ok sl1 sl2
     go_upto_region 10 with (fail)
     clear d0 d1 d2 d3 d4 d5 d6 d7 d8
     generalize hW8:wr.alloc (.cells (eqArr q A1 k1 A2 k2) 65)=w8 at*
     clear hW8
     have hse:=be.size
     have rf8:=rf7.below be rf7.lt
     have hB8:=hB7.trans (be.mono hsB7)
     obtain ⟨d0,d1,d2,d3,d4,d5,d6,d7,d8⟩:=re.eqn
     go_wp2_with fail
     refine HR.out.mono ?_
     rintro r w9 ⟨rfl,hb9⟩
     have rf9:=rf8.below hb9 rf8.lt
     have re9:=re.below hb9 re.lt
     have hB9:=hB8.trans (hb9.mono hB8.size)
     have hs9:=hb9.size
     have hsB9:=hB9.size
     have hl9:=rf9.lt
     have hl9e:=re9.lt
     clear d0 d1 d2 d3 d4 d5 d6 d7 d8
     obtain ⟨d0,d1,d2,d3,d4,d5,d6,d7,d8⟩:=re9.eqn
     obtain ⟨⟨k0,k1',k2'⟩,g0,g1,g2⟩:=rf9.three
     by_cases hfl:fl.err=0
     ·have hfl1:(fl.err !=0)=false:=neq_no hfl
      cases bl
      ·have HP':=Lib.hid (step_uptoI (P:=fun _ x=>(onsQ x).err=0) HP.out HXQ.out (by rw[onsQ_3 HLT.out hfl rfl]))
       clear hfl
       have b9:Below w6.heap.size w6 (w9.alloc (.cells #[.int .i64 fl.err,.int .i64 fl.line,.int .i64 fl.col] 38)):=((hbq.trans (be.mono hszq)).trans (hb9.mono (by omega))).alloc (by omega) _
       go_wp2_with fail
       go_roundw
       case rel=>exact ⟨p+1,by omega,by go_num,HP',b9⟩
       case measure=>first|(simp[intOf];omega)|simp[intOf]
      ·have HF:Hid (onsF s=⟨31,q.line,q.col⟩):=by
        have e:=onsQ_2 HLT.out hfl rfl
        exact (HFn.out (by rw[e];show (31:Int)≠0;decide)).trans e
       clear hfl
       refine' zq45
     ·have hfl1:(fl.err !=0)=true:=neq_yes hfl
      have HF:Hid (onsF s=ftOf fl):=by
       have e:=onsQ_1 HLT.out hfl
       exact (HFn.out (by rw[e];exact hfl)).trans e
      clear hfl
      refine' zq45
    ·obtain rfl:p=n.eqs.length:=by omega
     have HN':=Lib.hid (step_uptoI (P:=fun j x=>(onsN j x).err=0) HN.out HX.out (by unfold onsN;rw[fstL_end HP.out]))
     go_wp2_with fail
     go_roundw
     case rel=>exact ⟨k+1,by omega,by go_num,HN',hbr.trans ((ba.trans (hbq.mono hsa)).mono hszr)⟩
     case measure=>first|(simp[intOf];omega)|simp[intOf]
  ·obtain rfl:k=s.length:=by omega
   have HF:Hid (onsF s=ft0):=HF1.out.trans (fstL_end HN.out)
   refine' zq129
   refine' zq17
def Early (op:Int) (i:Nat):Prop:=op≠21∧(op≠22∨i=0)
def keepP {α:Type} (op:Int) (l:List α):List α:=if op=21 then [] else if op=22 then l.take 1 else l
def ownW (e:Ex):List ByteArray:=if namesB e.op=true then [e.name] else []
noncomputable def wantsL:Ex→List ByteArray:=Ex.para fun e ps=>ownW e++(keepP e.op ps).flatten
noncomputable def wantTo (e:Ex) (k:Nat):List ByteArray:=ownW e++(keepP e.op ((e.args.take k).map wantsL)).flatten
theorem wantTo_end (e:Ex):wantsL e=wantTo e e.args.length:=by
 unfold wantTo
 rw[List.take_length]
 exact Ex.para_eq _ e
theorem wantTo_zero (e:Ex):wantTo e 0=ownW e:=by
 unfold wantTo keepP
 simp
theorem wantTo_yes {e x:Ex} {k:Nat} (h:e.args[k]? =some x) (he:Early e.op k):wantTo e (k+1)=wantTo e k++wantsL x:=by
 obtain ⟨h1,h2⟩:=List.getElem?_eq_some_iff.1 h
 unfold wantTo
 rw[List.take_succ_eq_append_getElem h1,h2,List.map_append,List.append_assoc]
 congr 1
 unfold keepP
 rw[if_neg he.1,if_neg he.1]
 by_cases g:e.op=22
 ·obtain rfl:=he.2.resolve_left (fun f=>f g)
  rw[if_pos g,if_pos g]
  simp
 ·rw[if_neg g,if_neg g]
  simp
theorem wantTo_no {e x:Ex} {k:Nat} (h:e.args[k]? =some x) (he:¬Early e.op k):wantTo e (k+1)=wantTo e k:=by
 obtain ⟨h1,h2⟩:=List.getElem?_eq_some_iff.1 h
 unfold wantTo
 congr 1
 unfold keepP
 by_cases g:e.op=21
 ·rw[if_pos g,if_pos g]
 ·rw[if_neg g,if_neg g]
  unfold Early at he
  have g2:e.op=22∧k≠0:=Classical.byContradiction fun f=>he ⟨g,by
   by_cases g3:e.op=22
   ·exact .inr (Classical.byContradiction fun g4=>f ⟨g3,g4⟩)
   ·exact .inl g3⟩
  rw[if_pos g2.1,if_pos g2.1,←List.map_take,←List.map_take,List.take_take,List.take_take]
  rw[show min 1 (k+1)=min 1 k by omega]
theorem keepP_mem {α:Type} {op:Int} {l:List α} {x:α} (h:x∈keepP op l):x∈l:=by
 unfold keepP at h
 split at h
 ·cases h
 ·split at h
  ·exact List.mem_of_mem_take h
  ·exact h
theorem wants_mem (e:Ex):∀y∈wantsL e,∃x∈exList e,namesB x.op=true∧x.name=y:=by
 induction e using Ex.ind with
 |h e ih=>
  intro y hy
  rw[show wantsL e=ownW e++(keepP e.op (e.args.map wantsL)).flatten from Ex.para_eq _ e] at hy
  rcases List.mem_append.1 hy with hy|hy
  ·unfold ownW at hy
   split at hy
   ·rename_i g
    exact ⟨e,by rw[exList_eq];simp,g,(List.mem_singleton.1 hy).symm⟩
   ·cases hy
  ·obtain ⟨l,hl,hy⟩:=List.mem_flatten.1 hy
   obtain ⟨a,ha,rfl⟩:=List.mem_map.1 (keepP_mem hl)
   obtain ⟨x,hx,h⟩:=ih a ha y hy
   exact ⟨x,by rw[exList_eq];exact List.mem_cons_of_mem _ (List.mem_flatten.2 ⟨_,List.mem_map.2 ⟨a,ha,rfl⟩,hx⟩),h⟩
noncomputable def hangsL (n:Nd) (nm:ByteArray):List ByteArray:=match n.eqs.find? (fun q=>cB (nm∈q.left)) with
 |some q=>wantsL q.right++(clockOf n nm).map Lt.name
 |none=> []
noncomputable def hangsF (n:Nd) (nm:ByteArray):List ByteArray:=insAll [] (hangsL n nm)
theorem hangsF_mem {n:Nd} {nm y:ByteArray}:y∈hangsF n nm↔y∈hangsL n nm:=by unfold hangsF;rw[insAll_mem];simp
theorem hangsF_rising (n:Nd) (x:ByteArray):Rising (hangsF n x):=insAll_rising List.Pairwise.nil
theorem find_at {α:Type} {p:α→Bool}:∀{l:List α} {i:Nat} {x:α},l[i]? =some x→p x=true→(∀j,j<i→∀y,l[j]? =some y→p y=false)→l.find? p=some x
 | [],i,x,h,_,_=>by cases h
 |a::l,0,x,h,hp,_=>by
  obtain rfl:a=x:=by simpa using h
  rw[List.find?_cons_of_pos hp]
 |a::l,i+1,x,h,hp,hn=>by
  rw[List.find?_cons_of_neg (by rw[hn 0 (by omega) a rfl];decide)]
  exact find_at (by simpa using h) hp fun j hj y hy=>hn (j+1) (by omega) y (by simpa using hy)
theorem hangsL_def {n:Nd} {nm:ByteArray} {i k:Nat} {q:Eqn} (h:DefAt n nm i k) (hq:n.eqs[i]? =some q):hangsL n nm=wantsL q.right++(clockOf n nm).map Lt.name:=by
 obtain ⟨q',h1,h2,h3,_⟩:=h
 rw[hq] at h1
 injection h1 with h1
 subst h1
 unfold hangsL
 rw[find_at hq (cB_true (List.mem_of_getElem? h2)) fun j hj y hy=>cB_false (h3 j hj y hy)]
theorem hangsL_no {n:Nd} {nm:ByteArray} (h:NoDef n nm):hangsL n nm=[]:=by
 unfold hangsL
 rw[List.find?_eq_none.2 fun q hq=>by rw[cB_iff];exact h q hq]
open Classical in
noncomputable def cauF (n:Nd) (q:Eqn) (_:Nat) (nm:ByteArray):Ft:=if Hg (hangsF n) nm nm then ⟨32,q.line,q.col⟩ else ft0
noncomputable def cauQF (n:Nd) (_:Nat) (q:Eqn):Ft:=fstL (cauF n q) q.left
noncomputable def cauNF (_:Nat) (n:Nd):Ft:=fstL (cauQF n) n.eqs
noncomputable def causeF (s:List Nd):Ft:=ft2 (scopeF s) (fstL cauNF s)
section
variable {s:List Nd} {n:Nd}
theorem hangs_V (h:(scopeF s).err=0) (hn:n∈s):∀x,∀y∈hangsF n x,y∈nms (vrs n):=fun x y hy=>by
 rw[hangsF_mem] at hy
 unfold hangsL at hy
 split at hy
 ·rename_i q hq
  have hqm:=List.mem_of_find?_eq_some hq
  rcases List.mem_append.1 hy with hy|hy
  ·obtain ⟨e,he,hb,rfl⟩:=wants_mem _ y hy
   obtain ⟨i,hi⟩:=List.getElem?_of_mem hqm
   obtain ⟨j,hj⟩:=List.getElem?_of_mem he
   exact one_name (expr_ok (eqn_ok (scope_nodes h n hn).2 i q hi).2 j e hj) hb
  ·obtain ⟨c,hc,rfl⟩:=List.mem_map.1 hy
   rcases var_cases n x with ⟨k,v,h1,h2,_⟩|h1
   ·rw[clock_at h1 h2] at hc
    exact conds_all h hn h2 c hc
   ·rw[clock_no h1] at hc
    cases hc
 ·cases hy
end
attribute [local go_sem ↓] Go.wp_at_zero Go.wp_at_succ
section
variable {w w' a:World} {bm B b:Nat} {l:List ByteArray}
theorem mupd_cell (h:UpdM bm w w') (hm:MetS w bm l) {p:Addr} {u:Value} (hc:w.cell? p=some u):w'.cell? p=some u:=by
 have hb:=block_lt_of_cell hc
 by_cases e:p.block=bm
 ·obtain ⟨es,clock,h0⟩:=hm.isMap
  rw[←e] at h0
  simp[World.cell?,h0] at hc
 ·have:=h.block p.block hb e
  simp only[World.cell?,this]
  exact hc
theorem mupd_keeps (h:UpdM bm w w') (hm:MetS w bm l):Keeps B w w':=fun _ _ _ hc=>mupd_cell h hm hc
theorem mupd_row (h:UpdM bm w w') (hm:MetS w bm l) {cs:Array Value} {t:TypeId} (hr:Row w b cs t):Row w' b cs t:=by
 refine (h.block b hr.lt fun e=>?_).trans hr
 obtain ⟨es,clock,h0⟩:=hm.isMap
 have h1:w.heap[b]? =some (.cells cs t (0,0)):=hr
 rw[e,h0] at h1
 cases h1
end
theorem early_no (op:Int) (k:Nat):(op=21∧¬Early op k)∨(op≠21∧op=22∧0<k∧¬Early op k)∨(op≠21∧op≠22∧Early op k)∨(op≠21∧op=22∧k=0∧Early op k):=by
 by_cases h:op=21
 ·exact .inl ⟨h,fun g=>g.1 h⟩
 ·by_cases h2:op=22
  ·by_cases h3:k=0
   ·exact .inr (.inr (.inr ⟨h,h2,h3,h,.inr h3⟩))
   ·exact .inr (.inl ⟨h,h2,by omega,fun g=>g.2.elim (fun f=>f h2) h3⟩)
  ·exact .inr (.inr (.inl ⟨h,h2,h,.inl h2⟩))
def WantRes (e:Ex) (bm:Nat) (L:List ByteArray) (w:World) (r:Ending) (w':World):Prop:=
 r= .returned (.tuple #[])∧(∃L',MetS w' bm L'∧L'.length≤L.length+exSize e∧Hid (∀x,x∈L'↔x∈L∨x∈wantsL e))∧UpdM bm w w'
theorem wants_any (e:Ex):∀(A2:Option Addr) (cap2 bm:Nat) (L:List ByteArray) (w:World),ExOk e→e.args.length≤cap2→cap2≤maxLen→IsExs w w.heap.size A2 e.args→MetS w bm L→L.length+exSize e≤900000→
  Calls Tryz.prog 186 #[exV e A2 cap2,.map (some bm)] w (WantRes e bm L w):=by
 induction e using Ex.ind with
 |h e ih=>
  intro A2 cap2 bm L w ok h1 h2 hx hM hlen
  have HI:=Lib.hid ih
  have rx1:=Row.new w (exA e A2 cap2) 63
  have b1:Below w.heap.size w (w.alloc (.cells (exA e A2 cap2) 63)):=bE
  have HX:=Lib.hid hx
  have hnm:=ok.name
  have hbm:=hM.lt
  have hM1:=hM.alloc (.cells (exA e A2 cap2) 63)
  have u1:UpdM bm w (w.alloc (.cells (exA e A2 cap2) 63)):=Upd.of_below b1
  have hsp:=exSize_pos e
  have h2':cap2≤9223372036854775807:=by unfold maxLen at h2;omega
  clear ih hx ok
  go_enter Tryz.func186,Tryz.ntmps186
  go_upto_region 1 with (fail)
  generalize w.alloc (.cells (exA e A2 cap2) 63)=W1 at*
  have hs1:=b1.size
  have hl1:=rx1.lt
  obtain ⟨x0,x1,x2,x3,x4,x5⟩:=rx1.ex6
  go_cut[7] (fun v7 W=>v7= .int .i64 e.op∧W=W1)
  case first=>
   go_wp2_with fail
   go_meet
   exact ⟨rfl,rfl⟩
  obtain ⟨rfl,rfl⟩:=hcut
  rename_i hKK
  refine hKK _ _ ?_
  go_cut[] (fun W=>∃L1,MetS W bm L1∧L1.length≤L.length+1∧Hid (∀x,x∈L1↔x∈L∨x∈ownW e)∧Row W w.heap.size (exA e A2 cap2) 63∧UpdM bm w W)
  case first=>
   by_cases hnb:namesB e.op=true
   ·have hcs:(e.op==3)=true∨((e.op==3)=false∧(e.op==24)=true)∨((e.op==3)=false∧(e.op==24)=false∧(e.op==25)=true)∨((e.op==3)=false∧(e.op==24)=false∧(e.op==25)=false∧(e.op==26)=true):=by
     rcases names_four hnb with g|g|g|g
     ·exact .inl (eq_yes g)
     ·exact .inr (.inl ⟨eq_no (by omega),eq_yes g⟩)
     ·exact .inr (.inr (.inl ⟨eq_no (by omega),eq_no (by omega),eq_yes g⟩))
     ·exact .inr (.inr (.inr ⟨eq_no (by omega),eq_no (by omega),eq_no (by omega),eq_yes g⟩))
    have HO:Hid (ownW e=[e.name]):=if_pos hnb
    clear hnb
    rcases hcs with o3|⟨o3,o24⟩|⟨o3,o24,o25⟩|⟨o3,o24,o25,o26⟩
    all_goals
     go_wp2_with (at_mapUpdate;refine wpList_mets rfl _ _ _ rfl bm L rfl hM1 (by omega) e.name rfl hnm rfl ?_;intro w2 m2 hg2)
     go_meet
     exact ⟨_,m2,putN_len,(by show ∀_,_;intro x;rw[putN_mem,HO.out,List.mem_singleton]),row_map rx1 hM1 hg2,UpdM.grown u1 hg2⟩
   ·have HO:Hid (ownW e=[]):=if_neg hnb
    obtain ⟨n3,n24,n25,n26⟩:=names_not (bool_no hnb)
    have o3:=eq_no n3
    have o24:=eq_no n24
    have o25:=eq_no n25
    have o26:=eq_no n26
    clear n3 n24 n25 n26 hnb
    go_wp2_with fail
    go_meet
    exact ⟨L,hM1,by omega,(by show ∀_,_;intro x;rw[HO.out];simp),rx1,u1⟩
  case rest=>
   obtain ⟨L1,m2,hL1,HL1,rx2,u2⟩:=hcut
   obtain ⟨w2,rfl⟩:∃w2:World,w2=wc:=⟨_,rfl⟩
   clear x0 x1 x2 x3 x4 x5
   obtain ⟨x0,x1,x2,x3,x4,x5⟩:=rx2.ex6
   go_wp2_with fail
   clear x0 x1 x2 x3 x4 x5
   go_loopw[19] (fun i wr=>∃(k:Nat) (Lk:List ByteArray),k≤e.args.length∧i= .int .i64 k∧MetS wr bm Lk∧Lk.length≤L.length+(lTo e k).length∧Hid (∀x,x∈Lk↔x∈L∨x∈wantTo e k)∧Row wr w.heap.size (exA e A2 cap2) 63∧UpdM bm w wr∧w.heap.size<wr.heap.size) (fun i _=>e.args.length-(intOf i).toNat)
   case atStart=>exact ⟨0,L1,Nat.zero_le _,rfl,m2,by rw[lTo_zero];exact hL1,(by rw[wantTo_zero];exact HL1.out),rx2,u2,rx2.lt⟩
   case round=>
    obtain ⟨k,Lk,hk,rfl,m3,hLk,HLk,rx3,u3,hl3⟩:=hrel
    have hs3:=u3.size
    obtain ⟨x0,x1,x2,x3,x4,x5⟩:=rx3.ex6
    by_cases hlt:k<e.args.length
    rotate_left 1
    ·obtain rfl:k=e.args.length:=by omega
     go_wp2_with fail
     go_end0
     exact ⟨rfl,⟨Lk,m3,by rw[←lTo_end] at hLk;exact hLk,(by rw[wantTo_end];exact HLk.out)⟩,u3⟩
    obtain ⟨b,off,y,A',cap',hA,hb,hyk,hym,hok',hcap',hmax',hy',d0,d1,d2,d3,d4,d5⟩:=(exs_keep HX.out (mupd_keeps u3 hM) (Nat.le_refl _)).at_ hlt
    subst hA
    have HYK:=Lib.hid hyk
    have HLT:Hid ((lTo e (k+1)).length=(lTo e k).length+exSize y):=by show _=_;rw[lTo_succ hyk,List.length_append];rfl
    have hle:=lTo_le e (k+1)
    have i0:(0:Int)≤(k:Int):=by omega
    have i1:(k:Int)<(e.args.length:Int):=by omega
    have ry:=Row.new wr (exA y A' cap') 63
    have ba:Below wr.heap.size wr (wr.alloc (.cells (exA y A' cap') 63)):=bE
    have m4:=m3.alloc (.cells (exA y A' cap') 63)
    have rx4:=rx3.alloc (.cells (exA y A' cap') 63)
    have u4:=u3.trans (UpdM.of ba)
    have HY4:Hid (IsExs (wr.alloc (.cells (exA y A' cap') 63)) (wr.alloc (.cells (exA y A' cap') 63)).heap.size A' y.args):=exs_keep hy' (fun p u _ hc=>old_cell ba hc) (by have:=ba.size;omega)
    clear hyk hy' x0 x1 x2 x3 x4 x5
    go_upto_region 10 with (fail)
    clear d0 d1 d2 d3 d4 d5
    generalize hW4:wr.alloc (.cells (exA y A' cap') 63)=w4 at*
    clear hW4
    have hl4:=rx4.lt
    obtain ⟨x0,x1,x2,x3,x4,x5⟩:=rx4.ex6
    obtain ⟨d0,d1,d2,d3,d4,d5⟩:=ry.ex6
    rw[HLT.out] at hle
    have HW:=Lib.hid (HI.out y hym A' cap' bm Lk w4 hok' hcap' hmax' HY4.out m4 (by omega))
    rcases early_no e.op k with ⟨q1,HE⟩|⟨q1,q2,q3,HE⟩|⟨q1,q2,HE⟩|⟨q1,q2,q3,HE⟩
    ·have o1:=eq_yes q1
     have HWT:=Lib.hid (wantTo_no HYK.out HE)
     clear q1 HE
     go_wp2_with fail
     go_roundw
     case rel=>exact ⟨k+1,Lk,by omega,by go_num,m4,by rw[HLT.out];omega,(by rw[HWT.out];exact HLk.out),rx4,u4,hl4⟩
     case measure=>first|(simp[intOf];omega)|simp[intOf]
    ·have o1:=eq_no q1
     have o2:=eq_yes q2
     have HWT:=Lib.hid (wantTo_no HYK.out HE)
     have i2:(0:Int)<(k:Int):=by omega
     clear q1 q2 HE
     go_wp2_with fail
     go_roundw
     case rel=>exact ⟨k+1,Lk,by omega,by go_num,m4,by rw[HLT.out];omega,(by rw[HWT.out];exact HLk.out),rx4,u4,hl4⟩
     case measure=>first|(simp[intOf];omega)|simp[intOf]
    ·have o1:=eq_no q1
     have o2:=eq_no q2
     have HWT:=Lib.hid (wantTo_yes HYK.out HE)
     clear q1 q2 HE
     go_wp2_with fail
     refine HW.out.mono ?_
     rintro r w5 ⟨rfl,⟨L5,m5,hL5,HL5⟩,u5⟩
     have rx5:=mupd_row u5 m4 rx4
     have u05:=u4.trans u5
     go_wp2_with fail
     go_roundw
     case rel=>exact ⟨k+1,L5,by omega,by go_num,m5,(by rw[HLT.out];omega),(by rw[HWT.out];intro x;rw[HL5.out,HLk.out,List.mem_append,or_assoc]),rx5,u05,rx5.lt⟩
     case measure=>first|(simp[intOf];omega)|simp[intOf]
    ·have o1:=eq_no q1
     have o2:=eq_yes q2
     have HWT:=Lib.hid (wantTo_yes HYK.out HE)
     subst q3
     clear q1 q2 HE
     go_wp2_with fail
     refine HW.out.mono ?_
     rintro r w5 ⟨rfl,⟨L5,m5,hL5,HL5⟩,u5⟩
     have rx5:=mupd_row u5 m4 rx4
     have u05:=u4.trans u5
     go_wp2_with fail
     go_roundw
     case rel=>exact ⟨0+1,L5,by omega,by go_num,m5,(by rw[HLT.out];omega),(by rw[HWT.out];intro x;rw[HL5.out,HLk.out,List.mem_append,or_assoc]),rx5,u05,rx5.lt⟩
     case measure=>first|(simp[intOf];omega)|simp[intOf]
end Go.Proofs.YtdkgkacnjdnpoaaGreat
