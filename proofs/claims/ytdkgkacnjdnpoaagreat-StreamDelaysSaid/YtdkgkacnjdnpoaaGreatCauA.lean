/-
  What an expression wants at once, on what a name hangs, which name hangs on itself, and a row of all: plain. What an expression wants at once: the contracts of cause.wants and Wants.
-/
import Derived.Test.YtdkgkacnjdnpoaaGreatHgP
import Derived.Test.YtdkgkacnjdnpoaaGreatScH
import Derived.Test.YtdkgkacnjdnpoaaGreatSrt
import Derived.Test.YtdkgkacnjdnpoaaGreatStrP
import Derived.Test.YtdkgkacnjdnpoaaGreatScG
set_option maxHeartbeats 1000000
set_option maxRecDepth 100000
namespace Go.Proofs.YtdkgkacnjdnpoaaGreat
def Early (op:Int) (i:Nat):Prop:=op≠21∧(op≠22∨i=0)
def keepP {α:Type} (op:Int) (l:List α):List α:=if op=21 then [] else if op=22 then l.take 1 else l
def ownW (e:Ex):List ByteArray:=if namesB e.op=true then [e.name] else []
noncomputable def wantsL:Ex→List ByteArray:=Ex.para fun e ps=>ownW e++(keepP e.op ps).flatten
noncomputable def wantTo (e:Ex) (k:Nat):List ByteArray:=ownW e++(keepP e.op ((e.args.take k).map wantsL)).flatten
theorem wantTo_end (e:Ex):wantsL e=wantTo e e.args.length:=by
 unfold wantTo
 rw[List.take_length]
 exact Ex.para_eq _ e
theorem wantTo_zero (e:Ex):wantTo e 0=ownW e:=by
 unfold wantTo keepP
 simp
theorem wantTo_yes {e x:Ex} {k:Nat} (h:e.args[k]? =some x) (he:Early e.op k):wantTo e (k+1)=wantTo e k++wantsL x:=by
 obtain ⟨h1,h2⟩:=List.getElem?_eq_some_iff.1 h
 unfold wantTo
 rw[List.take_succ_eq_append_getElem h1,h2,List.map_append,List.append_assoc]
 congr 1
 unfold keepP
 rw[if_neg he.1,if_neg he.1]
 by_cases g:e.op=22
 ·obtain rfl:=he.2.resolve_left (fun f=>f g)
  rw[if_pos g,if_pos g]
  simp
 ·rw[if_neg g,if_neg g]
  simp
theorem wantTo_no {e x:Ex} {k:Nat} (h:e.args[k]? =some x) (he:¬Early e.op k):wantTo e (k+1)=wantTo e k:=by
 obtain ⟨h1,h2⟩:=List.getElem?_eq_some_iff.1 h
 unfold wantTo
 congr 1
 unfold keepP
 by_cases g:e.op=21
 ·rw[if_pos g,if_pos g]
 ·rw[if_neg g,if_neg g]
  unfold Early at he
  have g2:e.op=22∧k≠0:=Classical.byContradiction fun f=>he ⟨g,by
   by_cases g3:e.op=22
   ·exact .inr (Classical.byContradiction fun g4=>f ⟨g3,g4⟩)
   ·exact .inl g3⟩
  rw[if_pos g2.1,if_pos g2.1,←List.map_take,←List.map_take,List.take_take,List.take_take]
  rw[show min 1 (k+1)=min 1 k by omega]
theorem keepP_mem {α:Type} {op:Int} {l:List α} {x:α} (h:x∈keepP op l):x∈l:=by
 unfold keepP at h
 split at h
 ·cases h
 ·split at h
  ·exact List.mem_of_mem_take h
  ·exact h
theorem wants_mem (e:Ex):∀y∈wantsL e,∃x∈exList e,namesB x.op=true∧x.name=y:=by
 induction e using Ex.ind with
 |h e ih=>
  intro y hy
  rw[show wantsL e=ownW e++(keepP e.op (e.args.map wantsL)).flatten from Ex.para_eq _ e] at hy
  rcases List.mem_append.1 hy with hy|hy
  ·unfold ownW at hy
   split at hy
   ·rename_i g
    exact ⟨e,by rw[exList_eq];simp,g,(List.mem_singleton.1 hy).symm⟩
   ·cases hy
  ·obtain ⟨l,hl,hy⟩:=List.mem_flatten.1 hy
   obtain ⟨a,ha,rfl⟩:=List.mem_map.1 (keepP_mem hl)
   obtain ⟨x,hx,h⟩:=ih a ha y hy
   exact ⟨x,by rw[exList_eq];exact List.mem_cons_of_mem _ (List.mem_flatten.2 ⟨_,List.mem_map.2 ⟨a,ha,rfl⟩,hx⟩),h⟩
noncomputable def hangsL (n:Nd) (nm:ByteArray):List ByteArray:=match n.eqs.find? (fun q=>cB (nm∈q.left)) with
 |some q=>wantsL q.right++(clockOf n nm).map Lt.name
 |none=> []
noncomputable def hangsF (n:Nd) (nm:ByteArray):List ByteArray:=insAll [] (hangsL n nm)
theorem hangsF_mem {n:Nd} {nm y:ByteArray}:y∈hangsF n nm↔y∈hangsL n nm:=by unfold hangsF;rw[insAll_mem];simp
theorem hangsF_rising (n:Nd) (x:ByteArray):Rising (hangsF n x):=insAll_rising List.Pairwise.nil
theorem find_at {α:Type} {p:α→Bool}:∀{l:List α} {i:Nat} {x:α},l[i]? =some x→p x=true→(∀j,j<i→∀y,l[j]? =some y→p y=false)→l.find? p=some x
 | [],i,x,h,_,_=>by cases h
 |a::l,0,x,h,hp,_=>by
  obtain rfl:a=x:=by simpa using h
  rw[List.find?_cons_of_pos hp]
 |a::l,i+1,x,h,hp,hn=>by
  rw[List.find?_cons_of_neg (by rw[hn 0 (by omega) a rfl];decide)]
  exact find_at (by simpa using h) hp fun j hj y hy=>hn (j+1) (by omega) y (by simpa using hy)
theorem hangsL_def {n:Nd} {nm:ByteArray} {i k:Nat} {q:Eqn} (h:DefAt n nm i k) (hq:n.eqs[i]? =some q):hangsL n nm=wantsL q.right++(clockOf n nm).map Lt.name:=by
 obtain ⟨q',h1,h2,h3,_⟩:=h
 rw[hq] at h1
 injection h1 with h1
 subst h1
 unfold hangsL
 rw[find_at hq (cB_true (List.mem_of_getElem? h2)) fun j hj y hy=>cB_false (h3 j hj y hy)]
theorem hangsL_no {n:Nd} {nm:ByteArray} (h:NoDef n nm):hangsL n nm=[]:=by
 unfold hangsL
 rw[List.find?_eq_none.2 fun q hq=>by rw[cB_iff];exact h q hq]
open Classical in
noncomputable def cauF (n:Nd) (q:Eqn) (_:Nat) (nm:ByteArray):Ft:=if Hg (hangsF n) nm nm then ⟨32,q.line,q.col⟩ else ft0
noncomputable def cauQF (n:Nd) (_:Nat) (q:Eqn):Ft:=fstL (cauF n q) q.left
noncomputable def cauNF (_:Nat) (n:Nd):Ft:=fstL (cauQF n) n.eqs
noncomputable def causeF (s:List Nd):Ft:=ft2 (scopeF s) (fstL cauNF s)
section
variable {s:List Nd} {n:Nd}
theorem hangs_V (h:(scopeF s).err=0) (hn:n∈s):∀x,∀y∈hangsF n x,y∈nms (vrs n):=fun x y hy=>by
 rw[hangsF_mem] at hy
 unfold hangsL at hy
 split at hy
 ·rename_i q hq
  have hqm:=List.mem_of_find?_eq_some hq
  rcases List.mem_append.1 hy with hy|hy
  ·obtain ⟨e,he,hb,rfl⟩:=wants_mem _ y hy
   obtain ⟨i,hi⟩:=List.getElem?_of_mem hqm
   obtain ⟨j,hj⟩:=List.getElem?_of_mem he
   exact one_name (expr_ok (eqn_ok (scope_nodes h n hn).2 i q hi).2 j e hj) hb
  ·obtain ⟨c,hc,rfl⟩:=List.mem_map.1 hy
   rcases var_cases n x with ⟨k,v,h1,h2,_⟩|h1
   ·rw[clock_at h1 h2] at hc
    exact conds_all h hn h2 c hc
   ·rw[clock_no h1] at hc
    cases hc
 ·cases hy
end
open Go.RowKit
attribute [local go_sem ↓] Go.wp_at_zero Go.wp_at_succ
section
variable {w w' a:World} {bm B b:Nat} {l:List ByteArray}
theorem mupd_cell (h:UpdM bm w w') (hm:MetS w bm l) {p:Addr} {u:Value} (hc:w.cell? p=some u):w'.cell? p=some u:=by
 have hb:=block_lt_of_cell hc
 by_cases e:p.block=bm
 ·obtain ⟨es,clock,h0⟩:=hm.isMap
  rw[←e] at h0
  simp[World.cell?,h0] at hc
 ·have:=h.block p.block hb e
  simp only[World.cell?,this]
  exact hc
theorem mupd_keeps (h:UpdM bm w w') (hm:MetS w bm l):Keeps B w w':=fun _ _ _ hc=>mupd_cell h hm hc
theorem mupd_row (h:UpdM bm w w') (hm:MetS w bm l) {cs:Array Value} {t:TypeId} (hr:Row w b cs t):Row w' b cs t:=by
 refine (h.block b hr.lt fun e=>?_).trans hr
 obtain ⟨es,clock,h0⟩:=hm.isMap
 have h1:w.heap[b]? =some (.cells cs t (0,0)):=hr
 rw[e,h0] at h1
 cases h1
end
theorem early_no (op:Int) (k:Nat):(op=21∧¬Early op k)∨(op≠21∧op=22∧0<k∧¬Early op k)∨(op≠21∧op≠22∧Early op k)∨(op≠21∧op=22∧k=0∧Early op k):=by
 by_cases h:op=21
 ·exact .inl ⟨h,fun g=>g.1 h⟩
 ·by_cases h2:op=22
  ·by_cases h3:k=0
   ·exact .inr (.inr (.inr ⟨h,h2,h3,h,.inr h3⟩))
   ·exact .inr (.inl ⟨h,h2,by omega,fun g=>g.2.elim (fun f=>f h2) h3⟩)
  ·exact .inr (.inr (.inl ⟨h,h2,h,.inl h2⟩))
def WantRes (e:Ex) (bm:Nat) (L:List ByteArray) (w:World) (r:Ending) (w':World):Prop:=
 r= .returned (.tuple #[])∧(∃L',MetS w' bm L'∧L'.length≤L.length+exSize e∧Hid (∀x,x∈L'↔x∈L∨x∈wantsL e))∧UpdM bm w w'
theorem wants_any (e:Ex):∀(A2:Option Addr) (cap2 bm:Nat) (L:List ByteArray) (w:World),ExOk e→e.args.length≤cap2→cap2≤maxLen→IsExs w w.heap.size A2 e.args→MetS w bm L→L.length+exSize e≤900000→
  Calls Tryz.prog 186 #[exV e A2 cap2,.map (some bm)] w (WantRes e bm L w):=by
 induction e using Ex.ind with
 |h e ih=>
  intro A2 cap2 bm L w ok h1 h2 hx hM hlen
  have HI:=Lib.hid ih
  have rx1:=Row.new w (exA e A2 cap2) 63
  have b1:Below w.heap.size w (w.alloc (.cells (exA e A2 cap2) 63)):=bE
  have HX:=Lib.hid hx
  have hnm:=ok.name
  have hbm:=hM.lt
  have hM1:=hM.alloc (.cells (exA e A2 cap2) 63)
  have u1:UpdM bm w (w.alloc (.cells (exA e A2 cap2) 63)):=Upd.of_below b1
  have hsp:=exSize_pos e
  have h2':cap2≤9223372036854775807:=by unfold maxLen at h2;omega
  clear ih hx ok
  go_enter Tryz.func186,Tryz.ntmps186
  go_upto_region 1 with (fail)
  generalize w.alloc (.cells (exA e A2 cap2) 63)=W1 at*
  have hs1:=b1.size
  have hl1:=rx1.lt
  obtain ⟨x0,x1,x2,x3,x4,x5⟩:=rx1.ex6
  go_cut[7] (fun v7 W=>v7= .int .i64 e.op∧W=W1)
  case first=>
   go_wp2_with fail
   go_meet
   exact ⟨rfl,rfl⟩
  obtain ⟨rfl,rfl⟩:=hcut
  rename_i hKK
  refine hKK _ _ ?_
  go_cut[] (fun W=>∃L1,MetS W bm L1∧L1.length≤L.length+1∧Hid (∀x,x∈L1↔x∈L∨x∈ownW e)∧Row W w.heap.size (exA e A2 cap2) 63∧UpdM bm w W)
  case first=>
   by_cases hnb:namesB e.op=true
   ·have hcs:(e.op==3)=true∨((e.op==3)=false∧(e.op==24)=true)∨((e.op==3)=false∧(e.op==24)=false∧(e.op==25)=true)∨((e.op==3)=false∧(e.op==24)=false∧(e.op==25)=false∧(e.op==26)=true):=by
     rcases names_four hnb with g|g|g|g
     ·exact .inl (eq_yes g)
     ·exact .inr (.inl ⟨eq_no (by omega),eq_yes g⟩)
     ·exact .inr (.inr (.inl ⟨eq_no (by omega),eq_no (by omega),eq_yes g⟩))
     ·exact .inr (.inr (.inr ⟨eq_no (by omega),eq_no (by omega),eq_no (by omega),eq_yes g⟩))
    have HO:Hid (ownW e=[e.name]):=if_pos hnb
    clear hnb
    rcases hcs with o3|⟨o3,o24⟩|⟨o3,o24,o25⟩|⟨o3,o24,o25,o26⟩
    all_goals
     go_wp2_with (at_mapUpdate;refine wpList_mets rfl _ _ _ rfl bm L rfl hM1 (by omega) e.name rfl hnm rfl ?_;intro w2 m2 hg2)
     go_meet
     exact ⟨_,m2,putN_len,(by show ∀_,_;intro x;rw[putN_mem,HO.out,List.mem_singleton]),row_map rx1 hM1 hg2,UpdM.grown u1 hg2⟩
   ·have HO:Hid (ownW e=[]):=if_neg hnb
    obtain ⟨n3,n24,n25,n26⟩:=names_not (bool_no hnb)
    have o3:=eq_no n3
    have o24:=eq_no n24
    have o25:=eq_no n25
    have o26:=eq_no n26
    clear n3 n24 n25 n26 hnb
    go_wp2_with fail
    go_meet
    exact ⟨L,hM1,by omega,(by show ∀_,_;intro x;rw[HO.out];simp),rx1,u1⟩
  case rest=>
   obtain ⟨L1,m2,hL1,HL1,rx2,u2⟩:=hcut
   obtain ⟨w2,rfl⟩:∃w2:World,w2=wc:=⟨_,rfl⟩
   clear x0 x1 x2 x3 x4 x5
   obtain ⟨x0,x1,x2,x3,x4,x5⟩:=rx2.ex6
   go_wp2_with fail
   clear x0 x1 x2 x3 x4 x5
   go_loopw[19] (fun i wr=>∃(k:Nat) (Lk:List ByteArray),k≤e.args.length∧i= .int .i64 k∧MetS wr bm Lk∧Lk.length≤L.length+(lTo e k).length∧Hid (∀x,x∈Lk↔x∈L∨x∈wantTo e k)∧Row wr w.heap.size (exA e A2 cap2) 63∧UpdM bm w wr∧w.heap.size<wr.heap.size) (fun i _=>e.args.length-(intOf i).toNat)
   case atStart=>exact ⟨0,L1,Nat.zero_le _,rfl,m2,by rw[lTo_zero];exact hL1,(by rw[wantTo_zero];exact HL1.out),rx2,u2,rx2.lt⟩
   case round=>
    obtain ⟨k,Lk,hk,rfl,m3,hLk,HLk,rx3,u3,hl3⟩:=hrel
    have hs3:=u3.size
    obtain ⟨x0,x1,x2,x3,x4,x5⟩:=rx3.ex6
    by_cases hlt:k<e.args.length
    rotate_left 1
    ·obtain rfl:k=e.args.length:=by omega
     go_wp2_with fail
     go_end0
     exact ⟨rfl,⟨Lk,m3,by rw[←lTo_end] at hLk;exact hLk,(by rw[wantTo_end];exact HLk.out)⟩,u3⟩
    obtain ⟨b,off,y,A',cap',hA,hb,hyk,hym,hok',hcap',hmax',hy',d0,d1,d2,d3,d4,d5⟩:=(exs_keep HX.out (mupd_keeps u3 hM) (Nat.le_refl _)).at_ hlt
    subst hA
    have HYK:=Lib.hid hyk
    have HLT:Hid ((lTo e (k+1)).length=(lTo e k).length+exSize y):=by show _=_;rw[lTo_succ hyk,List.length_append];rfl
    have hle:=lTo_le e (k+1)
    have i0:(0:Int)≤(k:Int):=by omega
    have i1:(k:Int)<(e.args.length:Int):=by omega
    have ry:=Row.new wr (exA y A' cap') 63
    have ba:Below wr.heap.size wr (wr.alloc (.cells (exA y A' cap') 63)):=bE
    have m4:=m3.alloc (.cells (exA y A' cap') 63)
    have rx4:=rx3.alloc (.cells (exA y A' cap') 63)
    have u4:=u3.trans (UpdM.of ba)
    have HY4:Hid (IsExs (wr.alloc (.cells (exA y A' cap') 63)) (wr.alloc (.cells (exA y A' cap') 63)).heap.size A' y.args):=exs_keep hy' (fun p u _ hc=>old_cell ba hc) (by have:=ba.size;omega)
    clear hyk hy' x0 x1 x2 x3 x4 x5
    go_upto_region 10 with (fail)
    clear d0 d1 d2 d3 d4 d5
    generalize hW4:wr.alloc (.cells (exA y A' cap') 63)=w4 at*
    clear hW4
    have hl4:=rx4.lt
    obtain ⟨x0,x1,x2,x3,x4,x5⟩:=rx4.ex6
    obtain ⟨d0,d1,d2,d3,d4,d5⟩:=ry.ex6
    rw[HLT.out] at hle
    have HW:=Lib.hid (HI.out y hym A' cap' bm Lk w4 hok' hcap' hmax' HY4.out m4 (by omega))
    rcases early_no e.op k with ⟨q1,HE⟩|⟨q1,q2,q3,HE⟩|⟨q1,q2,HE⟩|⟨q1,q2,q3,HE⟩
    ·have o1:=eq_yes q1
     have HWT:=Lib.hid (wantTo_no HYK.out HE)
     clear q1 HE
     go_wp2_with fail
     go_roundw
     case rel=>exact ⟨k+1,Lk,by omega,by go_num,m4,by rw[HLT.out];omega,(by rw[HWT.out];exact HLk.out),rx4,u4,hl4⟩
     case measure=>first|(simp[intOf];omega)|simp[intOf]
    ·have o1:=eq_no q1
     have o2:=eq_yes q2
     have HWT:=Lib.hid (wantTo_no HYK.out HE)
     have i2:(0:Int)<(k:Int):=by omega
     clear q1 q2 HE
     go_wp2_with fail
     go_roundw
     case rel=>exact ⟨k+1,Lk,by omega,by go_num,m4,by rw[HLT.out];omega,(by rw[HWT.out];exact HLk.out),rx4,u4,hl4⟩
     case measure=>first|(simp[intOf];omega)|simp[intOf]
    ·have o1:=eq_no q1
     have o2:=eq_no q2
     have HWT:=Lib.hid (wantTo_yes HYK.out HE)
     clear q1 q2 HE
     go_wp2_with fail
     refine HW.out.mono ?_
     rintro r w5 ⟨rfl,⟨L5,m5,hL5,HL5⟩,u5⟩
     have rx5:=mupd_row u5 m4 rx4
     have u05:=u4.trans u5
     go_wp2_with fail
     go_roundw
     case rel=>exact ⟨k+1,L5,by omega,by go_num,m5,(by rw[HLT.out];omega),(by rw[HWT.out];intro x;rw[HL5.out,HLk.out,List.mem_append,or_assoc]),rx5,u05,rx5.lt⟩
     case measure=>first|(simp[intOf];omega)|simp[intOf]
    ·have o1:=eq_no q1
     have o2:=eq_yes q2
     have HWT:=Lib.hid (wantTo_yes HYK.out HE)
     subst q3
     clear q1 q2 HE
     go_wp2_with fail
     refine HW.out.mono ?_
     rintro r w5 ⟨rfl,⟨L5,m5,hL5,HL5⟩,u5⟩
     have rx5:=mupd_row u5 m4 rx4
     have u05:=u4.trans u5
     go_wp2_with fail
     go_roundw
     case rel=>exact ⟨0+1,L5,by omega,by go_num,m5,(by rw[HLT.out];omega),(by rw[HWT.out];intro x;rw[HL5.out,HLk.out,List.mem_append,or_assoc]),rx5,u05,rx5.lt⟩
     case measure=>first|(simp[intOf];omega)|simp[intOf]
end Go.Proofs.YtdkgkacnjdnpoaaGreat
