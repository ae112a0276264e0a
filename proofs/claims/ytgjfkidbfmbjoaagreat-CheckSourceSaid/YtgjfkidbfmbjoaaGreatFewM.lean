/-
  Rows of texts and of conditions: where one is, whether two are one. Few parts: the contract of tompionlaw12.Few. Few nodes: the contracts of tompionlaw12.fewVars and FewNodes. Few nodes: the contract of tompionlaw12.FewNodes.
-/
import Derived.Test.YtgjfkidbfmbjoaaGreatZz
import Derived.Test.YtgjfkidbfmbjoaaGreatScP
import Derived.Laws.StructEq
import Derived.Deep.DrawnRows
import Derived.Test.YtgjfkidbfmbjoaaGreatTreeList
import Derived.Test.YtgjfkidbfmbjoaaGreatRefRight
set_option maxHeartbeats 8000000
set_option maxRecDepth 100000
namespace Go.Proofs.YtgjfkidbfmbjoaaGreat
open Go.RowKit
attribute [local go_sem ↓] Go.wp_at_zero Go.wp_at_succ
theorem index_str (l:List ByteArray) (nm:ByteArray) (A:Option Addr) (cap B:Nat) (w:World) (h1:l.length≤cap) (h2:cap≤maxLen) (h:Sl w B 1 isStr A l):
  Calls Tryz.prog 304 #[.slice A l.length cap,.string nm] w fun e w'=>e= .returned (.int .i64 (idxOf l nm))∧w=w':=by
 refine' zq203
 clear h
 go_enter Tryz.func304,Tryz.ntmps304
 go_wp2_with fail
 go_loop[8] (fun i=>∃k:Nat,k≤l.length∧i= .int .i64 k∧Hid (∀j,j<k→∀x,l[j]? =some x→x≠nm)) (fun i=>l.length-(intOf i).toNat)
 case atStart=>exact ⟨0,Nat.zero_le _,rfl,fun j h=>absurd h (by omega)⟩
 case round=>
  obtain ⟨k,hk,rfl,HN⟩:=hrel
  by_cases hlt:k<l.length
  ·obtain ⟨b,off,x,rfl,hb,hx,hsx,c0⟩:=HS.out.str hlt
   have HX:=Lib.hid hx
   clear hx
   by_cases e:x=nm
   ·have e1:=beq_yes e
    have e2:=beq_yes e.symm
    have HF:=Lib.hid (idx_at HN.out (e▸HX.out))
    clear e
    go_wp2_with fail
    go_ret
    exact ⟨ret_int HF.out.symm,rfl⟩
   ·have HN':=Lib.hid (step_upto (P:=fun x=>x≠nm) HN.out HX.out e)
    have e1:=beq_no e
    have e2:=beq_no (fun g=>e (Eq.symm g))
    refine' zq149
  ·obtain rfl:k=l.length:=by omega
   have HF:=Lib.hid (idx_none HN.out)
   go_wp2_with fail
   go_ret
   exact ⟨ret_int HF.out.symm,rfl⟩
theorem in_str (l:List ByteArray) (nm:ByteArray) (A:Option Addr) (cap B:Nat) (w:World) (h1:l.length≤cap) (h2:cap≤maxLen) (h:Sl w B 1 isStr A l):
  Calls Tryz.prog 110 #[.slice A l.length cap,.string nm] w fun e w'=>e= .returned (.bool (cB (nm∈l)))∧w=w':=by
 refine' zq203
 clear h
 go_enter Tryz.func110,Tryz.ntmps110
 go_wp2_with fail
 go_loop[5] (fun i=>∃k:Nat,k≤l.length∧i= .int .i64 k∧Hid (∀j,j<k→∀x,l[j]? =some x→x≠nm)) (fun i=>l.length-(intOf i).toNat)
 case atStart=>exact ⟨0,Nat.zero_le _,rfl,fun j h=>absurd h (by omega)⟩
 case round=>
  obtain ⟨k,hk,rfl,HN⟩:=hrel
  by_cases hlt:k<l.length
  ·obtain ⟨b,off,x,rfl,hb,hx,hsx,c0⟩:=HS.out.str hlt
   have HX:=Lib.hid hx
   clear hx
   by_cases e:x=nm
   ·have e1:=beq_yes e
    have e2:=beq_yes e.symm
    have HF:=Lib.hid (cB_true (List.mem_of_getElem? (e▸HX.out)))
    clear e
    refine' zq139
   ·have HN':=Lib.hid (step_upto (P:=fun x=>x≠nm) HN.out HX.out e)
    have e1:=beq_no e
    have e2:=beq_no (fun g=>e (Eq.symm g))
    refine' zq149
  ·obtain rfl:k=l.length:=by omega
   have HF:=Lib.hid (cB_false (p:=nm∈l) (fun hm=>by obtain ⟨j,hj⟩:=List.getElem?_of_mem hm;exact HN.out j (List.getElem?_eq_some_iff.1 hj).1 nm hj rfl))
   refine' zq139
theorem lits_eq {l m:List Lt} (hl:l.length=m.length) (h:∀j,j<l.length→∀x y,l[j]? =some x→m[j]? =some y→x=y):l=m:=by
 apply List.ext_getElem hl
 intro i h1 h2
 exact h i h1 _ _ (List.getElem?_eq_getElem h1) (List.getElem?_eq_getElem h2)
theorem eqLits_any (l m:List Lt) (A1 A2:Option Addr) (c1 c2 B:Nat) (w:World) (_l1:l.length≤c1) (m1:c1≤maxLen) (s1:Sl w B 2 isLit A1 l) (l2:m.length≤c2) (m2:c2≤maxLen) (s2:Sl w B 2 isLit A2 m):
  Calls Tryz.prog 206 #[.slice A1 l.length c1,.slice A2 m.length c2] w fun e w'=>e= .returned (.bool (cB (l=m)))∧∃n,w'=w.drewN n:=by
 refine' zq189
 by_cases hl:l.length=m.length
 rotate_left 1
 ·refine' zq176
  go_enter Tryz.func206,Tryz.ntmps206
  go_wp2_with fail
  go_ret
  exact ⟨ret_bool HF.out.symm,0,rfl⟩
 refine' zq160
 go_enter Tryz.func206,Tryz.ntmps206
 go_wp2_with fail
 go_loopw[13] (fun i wr=>∃k:Nat,k≤l.length∧i= .int .i64 k∧Hid (∀j,j<k→∀x y,l[j]? =some x→m[j]? =some y→x=y)∧∃n,wr=w.drewN n) (fun i _=>l.length-(intOf i).toNat)
 case atStart=>exact ⟨0,Nat.zero_le _,rfl,fun j h=>absurd h (by omega),0,rfl⟩
 case round=>
  refine' zq19
theorem rlits_any (l m:List Lt) (A1 A2:Option Addr) (c1 c2 B:Nat) (w:World) (_l1:l.length≤c1) (m1:c1≤maxLen) (s1:Sl w B 2 isLit A1 l) (l2:m.length≤c2) (m2:c2≤maxLen) (s2:Sl w B 2 isLit A2 m):
  Calls Tryz.prog 114 #[.slice A1 l.length c1,.slice A2 m.length c2] w fun e w'=>e= .returned (.bool (cB (l=m)))∧∃n,w'=w.drewN n:=by
 refine' zq189
 by_cases hl:l.length=m.length
 rotate_left 1
 ·refine' zq176
  go_enter Tryz.func114,Tryz.ntmps114
  go_wp2_with fail
  go_ret
  exact ⟨ret_bool HF.out.symm,0,rfl⟩
 refine' zq160
 go_enter Tryz.func114,Tryz.ntmps114
 go_wp2_with fail
 go_loopw[5] (fun i wr=>∃k:Nat,k≤l.length∧i= .int .i64 k∧Hid (∀j,j<k→∀x y,l[j]? =some x→m[j]? =some y→x=y)∧∃n,wr=w.drewN n) (fun i _=>l.length-(intOf i).toNat)
 case atStart=>exact ⟨0,Nat.zero_le _,rfl,fun j h=>absurd h (by omega),0,rfl⟩
 case round=>
  refine' zq19
open Go.RowKit Nm
theorem room_list {l:List Ex} (ih:∀x∈l,∀a d,0≤roomZ x a d→roomZ x a d=a-exSize x∧∀y∈exList x,y.name.size≤30):
  ∀a d,0≤roomL (l.map roomZ) a d→roomL (l.map roomZ) a d=a-sumL (l.map exSize)∧∀x∈l,∀y∈exList x,y.name.size≤30:=by
 induction l with
 |nil=>intro a d _;exact ⟨by simp[roomL,sumL],fun x hx=>absurd hx List.not_mem_nil⟩
 |cons x l ihl=>
  intro a d h
  simp only[List.map_cons,roomL] at h⊢
  by_cases ha:a<0
  ·rw[if_pos ha] at h;omega
  ·rw[if_neg ha] at h⊢
   have h2:=ihl (fun y hy=>ih y (by simp[hy])) _ _ h
   have hx0:0≤roomZ x a d:=by rw[h2.1] at h;omega
   have h1:=ih x (by simp) a d hx0
   refine ⟨by rw[h2.1,h1.1];simp only[sumL];omega,fun y hy=>?_⟩
   rcases List.mem_cons.1 hy with rfl|hy
   ·exact h1.2
   ·exact h2.2 y hy
theorem room_small (e:Ex):∀a d,0≤roomZ e a d→roomZ e a d=a-exSize e∧∀y∈exList e,y.name.size≤30:=by
 induction e using Ex.ind with
 |h e ih=>
  intro a d h
  rw[roomZ_eq] at h⊢
  by_cases hc:d=0∨30<e.name.size
  ·rw[if_pos hc] at h;omega
  ·rw[if_neg hc] at h⊢
   have:=room_list ih _ _ h
   refine ⟨by rw[this.1,exSize_eq];omega,fun y hy=>?_⟩
   rw[exList_eq] at hy
   rcases List.mem_cons.1 hy with rfl|hy
   ·omega
   ·obtain ⟨l,hl,hy⟩:=List.mem_flatten.1 hy
    obtain ⟨x,hx,rfl⟩:=List.mem_map.1 hl
    exact this.2 x hx y hy
def FvRes (l:List Vr) (w:World) (e:Ending) (w':World):Prop:=(∃b,e= .returned (.bool b)∧Hid (b=true→l.length≤50∧∀v∈l,VrSm v))∧Below w.heap.size w w'
theorem FvRes.no {l:List Vr} {w w':World} (h:Below w.heap.size w w'):FvRes l w (.returned (.bool false)) w':=⟨⟨false,rfl,fun g=>by cases g⟩,h⟩
theorem mem_upto {α:Type} {l:List α} {P:α→Prop} (h:∀j,j<l.length→∀x,l[j]? =some x→P x):∀x∈l,P x:=fun x hx=>by
 obtain ⟨j,hj⟩:=List.getElem?_of_mem hx
 exact h j (List.getElem?_eq_some_iff.1 hj).1 x hj
theorem fewVars_any (l:List Vr) (A:Option Addr) (cap:Nat) (w:World) (h1:l.length≤cap) (h2:cap≤maxLen) (h:Vrs w w.heap.size A l):
  Calls Tryz.prog 45 #[.slice A l.length cap] w (FvRes l w):=by
 refine' zq203
 clear h
 go_enter Tryz.func45,Tryz.ntmps45
 go_wp2_with fail
 go_loopw[9] (fun i wr=>∃k:Nat,k≤l.length∧i= .int .i64 k∧Hid (∀j,j<k→∀x,l[j]? =some x→VrSm x)∧Below w.heap.size w wr) (fun i _=>l.length-(intOf i).toNat)
 case atStart=>exact ⟨0,Nat.zero_le _,rfl,fun j h=>absurd h (by omega),Below.refl _ _⟩
 case round=>
  refine' zq56
  by_cases hlt:k<l.length
  ·refine' zq147
   have g3:cap'≤9223372036854775807:=by unfold maxLen at g2;omega
   clear hx hsl
   by_cases e1:30<x.name.size
   ·have e1':decide (30<(x.name.size:Int))=true:=by simp;omega
    go_wp2_with fail
    go_ret
    exact FvRes.no (hbr.alloc hszr _)
   have e1':decide (30<(x.name.size:Int))=false:=by simp;omega
   by_cases e2:6<x.clock.length
   ·have e2':decide (6<(x.clock.length:Int))=true:=by simp;omega
    go_wp2_with fail
    go_ret
    exact FvRes.no (hbr.alloc hszr _)
   have e2':decide (6<(x.clock.length:Int))=false:=by simp;omega
   go_wp2_with fail
   refine' zq118
   go_loopw[26] (fun i wr=>∃k:Nat,k≤x.clock.length∧i= .int .i64 k∧Hid (∀j,j<k→∀c,x.clock[j]? =some c→c.name.size≤30)∧Below wo.heap.size wo wr) (fun i _=>x.clock.length-(intOf i).toNat)
   case atStart=>exact ⟨0,Nat.zero_le _,rfl,fun j h=>absurd h (by omega),(Below.refl _ _).alloc (Nat.le_refl _) _⟩
   case round=>
    obtain ⟨q,hq,rfl,HQ,hbq⟩:=hrel
    have hszq:=hbq.size
    have hBq:=hbr.trans (hbq.mono hszr)
    by_cases hlq:q<x.clock.length
    ·obtain ⟨b',off',y,rfl,hb',hy,ys,d0,d1⟩:=(lits_keep HSL.out (keeps_of (hbq.mono hszr)) (Nat.le_refl _)).lit hlq
     have HY:=Lib.hid hy
     clear hy
     by_cases e3:30<y.name.size
     ·have e3':decide (30<(y.name.size:Int))=true:=by simp;omega
      go_wp2_with fail
      go_ret
      exact FvRes.no (hBq.alloc (by omega) _)
     have e3':decide (30<(y.name.size:Int))=false:=by simp;omega
     have HQ':=Lib.hid (step_upto (P:=fun c:Lt=>c.name.size≤30) HQ.out HY.out (by omega))
     go_wp2_with fail
     go_roundw
     case rel=>exact ⟨q+1,by omega,by go_num,HQ',hbq.alloc hszq _⟩
     case measure=>simp[intOf];omega
    ·obtain rfl:q=x.clock.length:=by omega
     have HN':=Lib.hid (step_upto (P:=VrSm) HN.out HX.out ⟨by omega,by omega,mem_upto HQ.out⟩)
     go_wp2_with fail
     go_roundw
     case rel=>exact ⟨k+1,by omega,by go_num,HN',hBq⟩
     case measure=>simp[intOf];omega
  ·obtain rfl:k=l.length:=by omega
   go_wp2_with fail
   go_ret
   exact ⟨⟨_,rfl,fun g=>⟨by simp at g;omega,mem_upto HN.out⟩⟩,hbr⟩
structure SrcSm (s:List Nd):Prop where
 len:s.length≤20
 all:∀n∈s,NdSm n
def FnRes (s:List Nd) (w:World) (e:Ending) (w':World):Prop:=(∃b,e= .returned (.bool b)∧Hid (b=true→SrcSm s))∧Below w.heap.size w w'
theorem FnRes.no {s:List Nd} {w w':World} (h:Below w.heap.size w w'):FnRes s w (.returned (.bool false)) w':=⟨⟨false,rfl,fun g=>by cases g⟩,h⟩
theorem small_of_room {e:Ex} {L:Int} (h:0≤roomZ e L 50) (hL:L≤600):Small e∧roomZ e L 50≤600:=by
 have:=room_small e L 50 h
 exact ⟨⟨by omega,this.2⟩,by omega⟩
theorem vrs_all {n:Nd} {P:Vr→Prop} (h1:∀v∈n.ins,P v) (h2:∀v∈n.outs,P v) (h3:∀v∈n.vars,P v):∀v∈vrs n,P v:=fun v hv=>by
 simp only[vrs,List.mem_append] at hv
 rcases hv with (hv|hv)|hv
 ·exact h1 v hv
 ·exact h2 v hv
 ·exact h3 v hv
abbrev eqArr (q:Eqn) (A1:Option Addr) (c1:Nat) (A2:Option Addr) (c2:Nat):Array Value:= #[.slice A1 q.left.length c1,.int .i64 q.right.op,.string q.right.name,.int .i64 q.right.n,.slice A2 q.right.args.length c2,.int .i64 q.right.line,.int .i64 q.right.col,.int .i64 q.line,.int .i64 q.col]
theorem Row.eqn {W:World} {b:Nat} {q:Eqn} {A1 A2:Option Addr} {c1 c2:Nat} {t:TypeId} (h:Row W b (eqArr q A1 c1 A2 c2) t):W.cell? ⟨b,0,none⟩=some (.slice A1 q.left.length c1)∧W.cell? ⟨b,1,none⟩=some (.int .i64 q.right.op)∧W.cell? ⟨b,2,none⟩=some (.string q.right.name)∧
  W.cell? ⟨b,3,none⟩=some (.int .i64 q.right.n)∧W.cell? ⟨b,4,none⟩=some (.slice A2 q.right.args.length c2)∧W.cell? ⟨b,5,none⟩=some (.int .i64 q.right.line)∧W.cell? ⟨b,6,none⟩=some (.int .i64 q.right.col)∧W.cell? ⟨b,7,none⟩=some (.int .i64 q.line)∧W.cell? ⟨b,8,none⟩=some (.int .i64 q.col):=
 ⟨(h.cell 0).trans rfl,(h.cell 1).trans rfl,(h.cell 2).trans rfl,(h.cell 3).trans rfl,(h.cell 4).trans rfl,(h.cell 5).trans rfl,(h.cell 6).trans rfl,(h.cell 7).trans rfl,(h.cell 8).trans rfl⟩
theorem fewNodes_any (s:List Nd) (A:Option Addr) (cap:Nat) (w:World) (h1:s.length≤cap) (h2:cap≤maxLen) (h:Nds w w.heap.size A s):
  Calls Tryz.prog 16 #[srcV s A cap] w (FnRes s w):=by
 refine' zq203
 refine' zq128
 clear h
 go_enter Tryz.func16,Tryz.ntmps16
 go_wp2_with fail
 go_loopw[3,13] (fun v i wr=>∃(k:Nat) (L:Int),k≤s.length∧i= .int .i64 k∧v= .int .i64 L∧-1≤L∧L≤600∧Hid (0≤L→∀j,j<k→∀x,s[j]? =some x→NdSm x)∧Row wr w.heap.size #[.slice A s.length cap] 24∧Below w.heap.size w wr) (fun _ i _=>s.length-(intOf i).toNat)
 case atStart=>exact ⟨0,600,Nat.zero_le _,rfl,rfl,by omega,by omega,fun _ j h=>absurd h (by omega),r1,b1⟩
 case round=>
  obtain ⟨k,L,hk,rfl,rfl,hL0,hL1,HN,rr,hbr⟩:=hrel
  have hszr:=hbr.size
  have hlr:=rr.lt
  by_cases hlt:k<s.length
  ·obtain ⟨b,off,x,a,rfl,hb,hx,hat,c0,c1,c2,c3,c4,c5,c6⟩:=(nds_keep HS.out (keeps_of hbr) (Nat.le_refl _)).nd hlt
   have HX:=Lib.hid hx
   have HA:=Lib.hid hat
   have gi:=hat.mi
   have go:=hat.mo
   have gv:=hat.mv
   have gq:=hat.mq
   have hq3:a.cq≤9223372036854775807:=by unfold maxLen at gq;omega
   clear hx hat
   by_cases e1:30<x.name.size
   ·have e1':decide (30<(x.name.size:Int))=true:=by simp;omega
    go_wp2_with fail
    go_ret
    exact FnRes.no (hbr.alloc hszr _)
   have e1':decide (30<(x.name.size:Int))=false:=by simp;omega
   have rn:=Row.new wr (ndArr x a) 39
   have rs:=rr.alloc (.cells (ndArr x a) 39)
   have hB2:=hbr.alloc hszr (.cells (ndArr x a) 39)
   have hsz2:wr.heap.size+1≤(wr.alloc (.cells (ndArr x a) 39)).heap.size:=by simp
   go_upto_region 5 with (fail)
   have HA2:=Lib.hid (HA.out.keep (keeps_of ((Below.refl _ wr).alloc hszr (.cells (ndArr x a) 39))) (Nat.le_refl w.heap.size))
   clear c0 c1 c2 c3 c4 c5 c6 HA
   generalize wr.alloc (.cells (ndArr x a) 39)=W2 at*
   obtain ⟨c0,c1,c2,c3,c4,c5,c6⟩:=rn.nd
   go_wp2_with fail
   refine (fewVars_any x.ins a.ai a.ci W2 HA2.out.li gi (vrs_keep HA2.out.si (fun _ _ _ h=>h) (by omega))).mono ?_
   rintro e W3 ⟨⟨b3,rfl,H3⟩,hb3⟩
   cases b3
   ·go_wp2_with fail
    go_ret
    exact FnRes.no (hB2.trans (hb3.mono (by omega)))
   have rn3:=rn.below hb3 rn.lt
   have rs3:=rs.below hb3 rs.lt
   have hB3:=hB2.trans (hb3.mono (by omega))
   have hsz3:=hb3.size
   clear c0 c1 c2 c3 c4 c5 c6
   obtain ⟨c0,c1,c2,c3,c4,c5,c6⟩:=rn3.nd
   go_wp2_with fail
   refine (fewVars_any x.outs a.ao a.co W3 HA2.out.lo go (vrs_keep HA2.out.so (keeps_of (hb3.mono (by omega))) (by omega))).mono ?_
   rintro e W4 ⟨⟨b4,rfl,H4⟩,hb4⟩
   cases b4
   ·go_wp2_with fail
    go_ret
    exact FnRes.no (hB3.trans (hb4.mono (by omega)))
   have rn4:=rn3.below hb4 rn3.lt
   have rs4:=rs3.below hb4 rs3.lt
   have hB4:=hB3.trans (hb4.mono (by omega))
   have hsz4:=hb4.size
   clear c0 c1 c2 c3 c4 c5 c6
   obtain ⟨c0,c1,c2,c3,c4,c5,c6⟩:=rn4.nd
   go_wp2_with fail
   refine (fewVars_any x.vars a.av a.cv W4 HA2.out.lv gv (vrs_keep HA2.out.sv (keeps_of ((hb3.mono (by omega)).trans (hb4.mono (by omega)))) (by omega))).mono ?_
   rintro e W5 ⟨⟨b5,rfl,H5⟩,hb5⟩
   cases b5
   ·go_wp2_with fail
    go_ret
    exact FnRes.no (hB4.trans (hb5.mono (by omega)))
   have rn5:=rn4.below hb5 rn4.lt
   have rs5:=rs4.below hb5 rs4.lt
   have hB5:=hB4.trans (hb5.mono (by omega))
   have hsz5:=hb5.size
   clear c0 c1 c2 c3 c4 c5 c6
   obtain ⟨c0,c1,c2,c3,c4,c5,c6⟩:=rn5.nd
   by_cases e2:60<x.eqs.length
   ·have e2':decide (60<(x.eqs.length:Int))=true:=by simp;omega
    go_wp2_with fail
    go_ret
    exact FnRes.no hB5
   have e2':decide (60<(x.eqs.length:Int))=false:=by simp;omega
   have HQ:=Lib.hid (eqs_keep HA2.out.sq (keeps_of ((hb3.mono (by omega)).trans ((hb4.mono (by omega)).trans (hb5.mono (by omega))))) (Nat.le_refl w.heap.size))
   have hlq5:=rs5.lt
   clear rn rn3 rn4 rs rs3 rs4 hb3 hb4 hb5 HA2 rr
   go_wp2_with fail
   go_loopw[3,48] (fun v i wr=>∃(k:Nat) (M:Int),k≤x.eqs.length∧i= .int .i64 k∧v= .int .i64 M∧-1≤M∧M≤600∧Hid (0≤M→0≤L∧∀j,j<k→∀q,x.eqs[j]? =some q→EqnSm q)∧Below W5.heap.size W5 wr) (fun _ i _=>x.eqs.length-(intOf i).toNat)
   case atStart=>exact ⟨0,L,Nat.zero_le _,rfl,rfl,hL0,hL1,fun h=>⟨h,fun j h=>absurd h (by omega)⟩,Below.refl _ _⟩
   case round=>
    obtain ⟨kq,M,hkq,rfl,rfl,hM0,hM1,HM,hbq⟩:=hrel
    have hszq:=hbq.size
    have hBq:=hB5.trans (hbq.mono (by omega))
    by_cases hltq:kq<x.eqs.length
    ·obtain ⟨bq,offq,q,A1,q1,A2,q2,haq,hbbq,hxq,okq,lq1,mq1,sl1,lq2,mq2,sl2,d0,d1,d2,d3,d4,d5,d6,d7,d8⟩:=(eqs_keep HQ.out (keeps_of (hbq.mono (by omega))) (Nat.le_refl _)).eqn hltq
     have hq13:q1≤9223372036854775807:=by unfold maxLen at mq1;omega
     have HXQ:=Lib.hid hxq
     have HAQ:=Lib.hid haq
     have HO:=Lib.hid okq
     have HS1:=Lib.hid sl1
     have HS2:=Lib.hid sl2
     rw[haq] at c4⊢
     clear hxq sl1 sl2 okq haq
     by_cases e3:M<0
     ·have e3':decide (M<0)=true:=by simpa using e3
      go_wp2_with fail
      go_ret
      exact FnRes.no (hBq.alloc (by omega) _)
     have e3':decide (M<0)=false:=by simpa using e3
     by_cases e4:12<q.left.length
     ·have e4':decide (12<(q.left.length:Int))=true:=by simp;omega
      go_wp2_with fail
      go_ret
      exact FnRes.no (hBq.alloc (by omega) _)
     have e4':decide (12<(q.left.length:Int))=false:=by simp;omega
     have re:=Row.new wr (eqArr q A1 q1 A2 q2) 81
     have be:Below wr.heap.size wr (wr.alloc (.cells (eqArr q A1 q1 A2 q2) 81)):=(Below.refl _ wr).alloc (Nat.le_refl _) _
     go_upto_region 12 with (fail)
     clear d0 d1 d2 d3 d4 d5 d6 d7 d8
     generalize hW6:wr.alloc (.cells (eqArr q A1 q1 A2 q2) 81)=W6 at*
     clear hW6
     obtain ⟨d0,d1,d2,d3,d4,d5,d6,d7,d8⟩:=re.eqn
     go_wp2_with fail
     refine' zq118
     go_loop[63] (fun i=>∃k:Nat,k≤q.left.length∧i= .int .i64 k∧Hid (∀j,j<k→∀y,q.left[j]? =some y→y.size≤30)) (fun i=>q.left.length-(intOf i).toNat)
     case atStart=>exact ⟨0,Nat.zero_le _,rfl,fun j h=>absurd h (by omega)⟩
     case round=>
      obtain ⟨kl,hkl,rfl,HL⟩:=hrel
      by_cases hltl:kl<q.left.length
      ·obtain ⟨bl,offl,y,rfl,hbl,hy,hsy,f0⟩:=(strs_keep HS1.out (keeps_of (be.mono (by omega))) (Nat.le_refl _)).str hltl
       have HY:=Lib.hid hy
       clear hy
       by_cases e5:30<y.size
       ·have e5':decide (30<(y.size:Int))=true:=by simp;omega
        go_wp2_with fail
        go_ret
        exact FnRes.no (hBq.trans (be.mono (by omega)))
       have e5':decide (30<(y.size:Int))=false:=by simp;omega
       have HL':=Lib.hid (step_upto (P:=fun y:ByteArray=>y.size≤30) HL.out HY.out (by omega))
       go_wp2_with fail
       go_round
       case rel=>exact ⟨kl+1,by omega,by go_num,HL'⟩
       case measure=>simp[intOf];omega
      ·obtain rfl:kl=q.left.length:=by omega
       go_wp2_with fail
       have hbes:=be.size
       refine (room_any q.right A2 q2 M 50 _ HO.out.right lq2 mq2 (exs_keep HS2.out (keeps_of (be.mono (by omega))) (by omega)) (by omega) (by omega) (by omega) (by omega)).mono ?_
       rintro e W7 ⟨rfl,hb7⟩
       have HR:Hid (-1≤roomZ q.right M 50∧roomZ q.right M 50≤600):=by
        have h1:=roomZ_lo q.right M 50 (by omega) (by omega)
        rcases h1 with h1|h1
        ·refine ⟨h1.1,?_⟩
         rcases Int.lt_or_le (roomZ q.right M 50) 0 with h|h
         ·omega
         ·exact (small_of_room h hM1).2
        ·omega
       have HM':Hid (0≤roomZ q.right M 50→0≤L∧∀j,j<kq+1→∀q,x.eqs[j]? =some q→EqnSm q):=fun h=>by
        have:=HM.out (by omega)
        exact ⟨this.1,step_upto (P:=EqnSm) this.2 HXQ.out ⟨by omega,mem_upto HL.out,(small_of_room h hM1).1⟩⟩
       generalize roomZ q.right M 50=R at*
       go_wp2_with fail
       go_roundw
       case rel=>exact ⟨kq+1,R,by omega,by go_num,rfl,HR.out.1,HR.out.2,HM',hbq.trans ((be.mono (by omega)).trans (hb7.mono (by omega)))⟩
       case measure=>simp[intOf];omega
    ·obtain rfl:kq=x.eqs.length:=by omega
     have HN':Hid (0≤M→∀j,j<k+1→∀x,s[j]? =some x→NdSm x):=fun h=>by
      have h1:=HM.out h
      have h3:=H3.out (by first|rfl|trivial)
      have h4:=H4.out (by first|rfl|trivial)
      have h5:=H5.out (by first|rfl|trivial)
      exact step_upto (P:=NdSm) (HN.out h1.1) HX.out ⟨by omega,h3.1,h4.1,h5.1,by omega,vrs_all h3.2 h4.2 h5.2,mem_upto h1.2⟩
     go_wp2_with fail
     go_roundw
     case rel=>exact ⟨k+1,M,by omega,by go_num,rfl,hM0,hM1,HN',rs5.below hbq (by omega),hBq⟩
     case measure=>simp[intOf];omega
  ·obtain rfl:k=s.length:=by omega
   have c0:=(rr.cell 0).trans rfl
   by_cases e6:0≤L
   ·have e6':decide (0≤L)=true:=by simpa using e6
    go_wp2_with fail
    go_ret
    exact ⟨⟨_,rfl,fun g=>⟨by simp at g;omega,mem_upto (HN.out e6)⟩⟩,hbr⟩
   ·have e6':decide (0≤L)=false:=by simpa using e6
    go_wp2_with fail
    go_ret
    exact FnRes.no hbr
end Go.Proofs.YtgjfkidbfmbjoaaGreat
