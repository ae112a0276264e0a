/-
  What an expression wants at once, on what a name hangs, which name hangs on itself, and a row of all: plain. What an expression wants at once: the contracts of cause.wants and Wants. On what a name hangs at once: the contracts of cause.Hangs and Wants. Does a name hang on itself: the contract of cause.round.
-/
import Derived.Test.YtgjfkidbfmbjoaaGreatZz
import Derived.Test.YtgjfkidbfmbjoaaGreatHgP
import Derived.Test.YtgjfkidbfmbjoaaGreatScH
import Derived.Test.YtgjfkidbfmbjoaaGreatSrt
import Derived.Test.YtgjfkidbfmbjoaaGreatWnS
import Derived.Test.YtgjfkidbfmbjoaaGreatScG
set_option maxHeartbeats 1000000
set_option maxRecDepth 100000
namespace Go.Proofs.YtgjfkidbfmbjoaaGreat
def Early (op:Int) (i:Nat):Prop:=op≠21∧(op≠22∨i=0)
def keepP {α:Type} (op:Int) (l:List α):List α:=if op=21 then [] else if op=22 then l.take 1 else l
def ownW (e:Ex):List ByteArray:=if namesB e.op=true then [e.name] else []
noncomputable def wantsL:Ex→List ByteArray:=Ex.para fun e ps=>ownW e++(keepP e.op ps).flatten
noncomputable def wantTo (e:Ex) (k:Nat):List ByteArray:=ownW e++(keepP e.op ((e.args.take k).map wantsL)).flatten
theorem wantTo_end (e:Ex):wantsL e=wantTo e e.args.length:=by
 unfold wantTo
 rw[List.take_length]
 exact Ex.para_eq _ e
theorem wantTo_zero (e:Ex):wantTo e 0=ownW e:=by
 unfold wantTo keepP
 simp
theorem wantTo_yes {e x:Ex} {k:Nat} (h:e.args[k]? =some x) (he:Early e.op k):wantTo e (k+1)=wantTo e k++wantsL x:=by
 refine' zq180
 unfold wantTo
 rw[List.take_succ_eq_append_getElem h1,h2,List.map_append,List.append_assoc]
 congr 1
 unfold keepP
 rw[if_neg he.1,if_neg he.1]
 by_cases g:e.op=22
 ·obtain rfl:=he.2.resolve_left (fun f=>f g)
  rw[if_pos g,if_pos g]
  simp
 ·rw[if_neg g,if_neg g]
  simp
theorem wantTo_no {e x:Ex} {k:Nat} (h:e.args[k]? =some x) (he:¬Early e.op k):wantTo e (k+1)=wantTo e k:=by
 refine' zq180
 unfold wantTo
 congr 1
 unfold keepP
 by_cases g:e.op=21
 ·rw[if_pos g,if_pos g]
 ·rw[if_neg g,if_neg g]
  unfold Early at he
  have g2:e.op=22∧k≠0:=Classical.byContradiction fun f=>he ⟨g,by
   by_cases g3:e.op=22
   ·exact .inr (Classical.byContradiction fun g4=>f ⟨g3,g4⟩)
   ·exact .inl g3⟩
  rw[if_pos g2.1,if_pos g2.1,←List.map_take,←List.map_take,List.take_take,List.take_take]
  rw[show min 1 (k+1)=min 1 k by omega]
theorem keepP_mem {α:Type} {op:Int} {l:List α} {x:α} (h:x∈keepP op l):x∈l:=by
 unfold keepP at h
 split at h
 ·cases h
 ·split at h
  ·exact List.mem_of_mem_take h
  ·exact h
theorem wants_mem (e:Ex):∀y∈wantsL e,∃x∈exList e,namesB x.op=true∧x.name=y:=by
 induction e using Ex.ind with
 |h e ih=>
  intro y hy
  rw[show wantsL e=ownW e++(keepP e.op (e.args.map wantsL)).flatten from Ex.para_eq _ e] at hy
  rcases List.mem_append.1 hy with hy|hy
  ·unfold ownW at hy
   split at hy
   ·rename_i g
    exact ⟨e,by rw[exList_eq];simp,g,(List.mem_singleton.1 hy).symm⟩
   ·cases hy
  ·obtain ⟨l,hl,hy⟩:=List.mem_flatten.1 hy
   obtain ⟨a,ha,rfl⟩:=List.mem_map.1 (keepP_mem hl)
   obtain ⟨x,hx,h⟩:=ih a ha y hy
   exact ⟨x,by rw[exList_eq];exact List.mem_cons_of_mem _ (List.mem_flatten.2 ⟨_,List.mem_map.2 ⟨a,ha,rfl⟩,hx⟩),h⟩
noncomputable def hangsL (n:Nd) (nm:ByteArray):List ByteArray:=match n.eqs.find? (fun q=>cB (nm∈q.left)) with
 |some q=>wantsL q.right++(clockOf n nm).map Lt.name
 |none=> []
noncomputable def hangsF (n:Nd) (nm:ByteArray):List ByteArray:=insAll [] (hangsL n nm)
theorem hangsF_mem {n:Nd} {nm y:ByteArray}:y∈hangsF n nm↔y∈hangsL n nm:=by unfold hangsF;rw[insAll_mem];simp
theorem hangsF_rising (n:Nd) (x:ByteArray):Rising (hangsF n x):=insAll_rising List.Pairwise.nil
theorem find_at {α:Type} {p:α→Bool}:∀{l:List α} {i:Nat} {x:α},l[i]? =some x→p x=true→(∀j,j<i→∀y,l[j]? =some y→p y=false)→l.find? p=some x
 | [],i,x,h,_,_=>by cases h
 |a::l,0,x,h,hp,_=>by
  obtain rfl:a=x:=by simpa using h
  rw[List.find?_cons_of_pos hp]
 |a::l,i+1,x,h,hp,hn=>by
  rw[List.find?_cons_of_neg (by rw[hn 0 (by omega) a rfl];decide)]
  exact find_at (by simpa using h) hp fun j hj y hy=>hn (j+1) (by omega) y (by simpa using hy)
theorem hangsL_def {n:Nd} {nm:ByteArray} {i k:Nat} {q:Eqn} (h:DefAt n nm i k) (hq:n.eqs[i]? =some q):hangsL n nm=wantsL q.right++(clockOf n nm).map Lt.name:=by
 obtain ⟨q',h1,h2,h3,_⟩:=h
 rw[hq] at h1
 injection h1 with h1
 subst h1
 unfold hangsL
 rw[find_at hq (cB_true (List.mem_of_getElem? h2)) fun j hj y hy=>cB_false (h3 j hj y hy)]
theorem hangsL_no {n:Nd} {nm:ByteArray} (h:NoDef n nm):hangsL n nm=[]:=by
 unfold hangsL
 rw[List.find?_eq_none.2 fun q hq=>by rw[cB_iff];exact h q hq]
open Classical in
noncomputable def cauF (n:Nd) (q:Eqn) (_:Nat) (nm:ByteArray):Ft:=if Hg (hangsF n) nm nm then ⟨32,q.line,q.col⟩ else ft0
noncomputable def cauQF (n:Nd) (_:Nat) (q:Eqn):Ft:=fstL (cauF n q) q.left
noncomputable def cauNF (_:Nat) (n:Nd):Ft:=fstL (cauQF n) n.eqs
noncomputable def causeF (s:List Nd):Ft:=ft2 (scopeF s) (fstL cauNF s)
section
variable {s:List Nd} {n:Nd}
theorem hangs_V (h:(scopeF s).err=0) (hn:n∈s):∀x,∀y∈hangsF n x,y∈nms (vrs n):=fun x y hy=>by
 rw[hangsF_mem] at hy
 unfold hangsL at hy
 split at hy
 ·rename_i q hq
  have hqm:=List.mem_of_find?_eq_some hq
  rcases List.mem_append.1 hy with hy|hy
  ·obtain ⟨e,he,hb,rfl⟩:=wants_mem _ y hy
   obtain ⟨i,hi⟩:=List.getElem?_of_mem hqm
   obtain ⟨j,hj⟩:=List.getElem?_of_mem he
   exact one_name (expr_ok (eqn_ok (scope_nodes h n hn).2 i q hi).2 j e hj) hb
  ·obtain ⟨c,hc,rfl⟩:=List.mem_map.1 hy
   rcases var_cases n x with ⟨k,v,h1,h2,_⟩|h1
   ·rw[clock_at h1 h2] at hc
    exact conds_all h hn h2 c hc
   ·rw[clock_no h1] at hc
    cases hc
 ·cases hy
theorem causeF_zero (h:(causeF s).err=0):causeF s=ft0:=by
 have:=ft2_ok h
 unfold causeF
 rw[ft2_0 this.1,fstL_zero this.2]
end
open Go.RowKit
attribute [local go_sem ↓] Go.wp_at_zero Go.wp_at_succ
section
variable {w w' a:World} {bm B b:Nat} {l:List ByteArray}
theorem mupd_cell (h:UpdM bm w w') (hm:MetS w bm l) {p:Addr} {u:Value} (hc:w.cell? p=some u):w'.cell? p=some u:=by
 have hb:=block_lt_of_cell hc
 by_cases e:p.block=bm
 ·obtain ⟨es,clock,h0⟩:=hm.isMap
  rw[←e] at h0
  simp[World.cell?,h0] at hc
 ·have:=h.block p.block hb e
  simp only[World.cell?,this]
  exact hc
theorem mupd_keeps (h:UpdM bm w w') (hm:MetS w bm l):Keeps B w w':=fun _ _ _ hc=>mupd_cell h hm hc
theorem mupd_row (h:UpdM bm w w') (hm:MetS w bm l) {cs:Array Value} {t:TypeId} (hr:Row w b cs t):Row w' b cs t:=by
 refine (h.block b hr.lt fun e=>?_).trans hr
 obtain ⟨es,clock,h0⟩:=hm.isMap
 have h1:w.heap[b]? =some (.cells cs t (0,0)):=hr
 rw[e,h0] at h1
 cases h1
end
theorem early_no (op:Int) (k:Nat):(op=21∧¬Early op k)∨(op≠21∧op=22∧0<k∧¬Early op k)∨(op≠21∧op≠22∧Early op k)∨(op≠21∧op=22∧k=0∧Early op k):=by
 by_cases h:op=21
 ·exact .inl ⟨h,fun g=>g.1 h⟩
 ·by_cases h2:op=22
  ·by_cases h3:k=0
   ·exact .inr (.inr (.inr ⟨h,h2,h3,h,.inr h3⟩))
   ·exact .inr (.inl ⟨h,h2,by omega,fun g=>g.2.elim (fun f=>f h2) h3⟩)
  ·exact .inr (.inr (.inl ⟨h,h2,h,.inl h2⟩))
def WantRes (e:Ex) (bm:Nat) (L:List ByteArray) (w:World) (r:Ending) (w':World):Prop:=
 r= .returned (.tuple #[])∧(∃L',MetS w' bm L'∧L'.length≤L.length+exSize e∧Hid (∀x,x∈L'↔x∈L∨x∈wantsL e))∧UpdM bm w w'
theorem wants_any (e:Ex):∀(A2:Option Addr) (cap2 bm:Nat) (L:List ByteArray) (w:World),ExOk e→e.args.length≤cap2→cap2≤maxLen→IsExs w w.heap.size A2 e.args→MetS w bm L→L.length+exSize e≤900000→
  Calls Tryz.prog 266 #[exV e A2 cap2,.map (some bm)] w (WantRes e bm L w):=by
 induction e using Ex.ind with
 |h e ih=>
  intro A2 cap2 bm L w ok h1 h2 hx hM hlen
  have HI:=Lib.hid ih
  have rx1:=Row.new w (exA e A2 cap2) 79
  have b1:Below w.heap.size w (w.alloc (.cells (exA e A2 cap2) 79)):=bE
  have HX:=Lib.hid hx
  have hnm:=ok.name
  have hbm:=hM.lt
  have hM1:=hM.alloc (.cells (exA e A2 cap2) 79)
  have u1:UpdM bm w (w.alloc (.cells (exA e A2 cap2) 79)):=Upd.of_below b1
  have hsp:=exSize_pos e
  have h2':cap2≤9223372036854775807:=by unfold maxLen at h2;omega
  clear ih hx ok
  go_enter Tryz.func266,Tryz.ntmps266
  go_upto_region 1 with (fail)
  generalize w.alloc (.cells (exA e A2 cap2) 79)=W1 at*
  have hs1:=b1.size
  have hl1:=rx1.lt
  obtain ⟨x0,x1,x2,x3,x4,x5⟩:=rx1.ex6
  go_cut[7] (fun v7 W=>v7= .int .i64 e.op∧W=W1)
  case first=>
   go_wp2_with fail
   go_meet
   exact ⟨rfl,rfl⟩
  obtain ⟨rfl,rfl⟩:=hcut
  rename_i hKK
  refine hKK _ _ ?_
  go_cut[] (fun W=>∃L1,MetS W bm L1∧L1.length≤L.length+1∧Hid (∀x,x∈L1↔x∈L∨x∈ownW e)∧Row W w.heap.size (exA e A2 cap2) 79∧UpdM bm w W)
  case first=>
   by_cases hnb:namesB e.op=true
   ·have hcs:(e.op==3)=true∨((e.op==3)=false∧(e.op==24)=true)∨((e.op==3)=false∧(e.op==24)=false∧(e.op==25)=true)∨((e.op==3)=false∧(e.op==24)=false∧(e.op==25)=false∧(e.op==26)=true):=by
     rcases names_four hnb with g|g|g|g
     ·exact .inl (eq_yes g)
     ·exact .inr (.inl ⟨eq_no (by omega),eq_yes g⟩)
     ·exact .inr (.inr (.inl ⟨eq_no (by omega),eq_no (by omega),eq_yes g⟩))
     ·exact .inr (.inr (.inr ⟨eq_no (by omega),eq_no (by omega),eq_no (by omega),eq_yes g⟩))
    have HO:Hid (ownW e=[e.name]):=if_pos hnb
    clear hnb
    rcases hcs with o3|⟨o3,o24⟩|⟨o3,o24,o25⟩|⟨o3,o24,o25,o26⟩
    all_goals
     go_wp2_with (at_mapUpdate;refine wpList_mets rfl _ _ _ rfl bm L rfl hM1 (by omega) e.name rfl hnm rfl ?_;intro w2 m2 hg2)
     go_meet
     exact ⟨_,m2,putN_len,(by show ∀_,_;intro x;rw[putN_mem,HO.out,List.mem_singleton]),row_map rx1 hM1 hg2,UpdM.grown u1 hg2⟩
   ·have HO:Hid (ownW e=[]):=if_neg hnb
    obtain ⟨n3,n24,n25,n26⟩:=names_not (bool_no hnb)
    have o3:=eq_no n3
    have o24:=eq_no n24
    have o25:=eq_no n25
    have o26:=eq_no n26
    clear n3 n24 n25 n26 hnb
    go_wp2_with fail
    go_meet
    exact ⟨L,hM1,by omega,(by show ∀_,_;intro x;rw[HO.out];simp),rx1,u1⟩
  case rest=>
   obtain ⟨L1,m2,hL1,HL1,rx2,u2⟩:=hcut
   obtain ⟨w2,rfl⟩:∃w2:World,w2=wc:=⟨_,rfl⟩
   clear x0 x1 x2 x3 x4 x5
   obtain ⟨x0,x1,x2,x3,x4,x5⟩:=rx2.ex6
   go_wp2_with fail
   clear x0 x1 x2 x3 x4 x5
   go_loopw[19] (fun i wr=>∃(k:Nat) (Lk:List ByteArray),k≤e.args.length∧i= .int .i64 k∧MetS wr bm Lk∧Lk.length≤L.length+(lTo e k).length∧Hid (∀x,x∈Lk↔x∈L∨x∈wantTo e k)∧Row wr w.heap.size (exA e A2 cap2) 79∧UpdM bm w wr∧w.heap.size<wr.heap.size) (fun i _=>e.args.length-(intOf i).toNat)
   case atStart=>exact ⟨0,L1,Nat.zero_le _,rfl,m2,by rw[lTo_zero];exact hL1,(by rw[wantTo_zero];exact HL1.out),rx2,u2,rx2.lt⟩
   case round=>
    obtain ⟨k,Lk,hk,rfl,m3,hLk,HLk,rx3,u3,hl3⟩:=hrel
    have hs3:=u3.size
    obtain ⟨x0,x1,x2,x3,x4,x5⟩:=rx3.ex6
    by_cases hlt:k<e.args.length
    rotate_left 1
    ·obtain rfl:k=e.args.length:=by omega
     go_wp2_with fail
     go_end0
     exact ⟨rfl,⟨Lk,m3,by rw[←lTo_end] at hLk;exact hLk,(by rw[wantTo_end];exact HLk.out)⟩,u3⟩
    obtain ⟨b,off,y,A',cap',hA,hb,hyk,hym,hok',hcap',hmax',hy',d0,d1,d2,d3,d4,d5⟩:=(exs_keep HX.out (mupd_keeps u3 hM) (Nat.le_refl _)).at_ hlt
    subst hA
    have HYK:=Lib.hid hyk
    have HLT:Hid ((lTo e (k+1)).length=(lTo e k).length+exSize y):=by show _=_;rw[lTo_succ hyk,List.length_append];rfl
    have hle:=lTo_le e (k+1)
    have i0:(0:Int)≤(k:Int):=by omega
    have i1:(k:Int)<(e.args.length:Int):=by omega
    have ry:=Row.new wr (exA y A' cap') 79
    have ba:Below wr.heap.size wr (wr.alloc (.cells (exA y A' cap') 79)):=bE
    have m4:=m3.alloc (.cells (exA y A' cap') 79)
    have rx4:=rx3.alloc (.cells (exA y A' cap') 79)
    have u4:=u3.trans (UpdM.of ba)
    have HY4:Hid (IsExs (wr.alloc (.cells (exA y A' cap') 79)) (wr.alloc (.cells (exA y A' cap') 79)).heap.size A' y.args):=exs_keep hy' (fun p u _ hc=>old_cell ba hc) (by have:=ba.size;omega)
    clear hyk hy' x0 x1 x2 x3 x4 x5
    go_upto_region 10 with (fail)
    clear d0 d1 d2 d3 d4 d5
    generalize hW4:wr.alloc (.cells (exA y A' cap') 79)=w4 at*
    clear hW4
    have hl4:=rx4.lt
    obtain ⟨x0,x1,x2,x3,x4,x5⟩:=rx4.ex6
    obtain ⟨d0,d1,d2,d3,d4,d5⟩:=ry.ex6
    rw[HLT.out] at hle
    have HW:=Lib.hid (HI.out y hym A' cap' bm Lk w4 hok' hcap' hmax' HY4.out m4 (by omega))
    rcases early_no e.op k with ⟨q1,HE⟩|⟨q1,q2,q3,HE⟩|⟨q1,q2,HE⟩|⟨q1,q2,q3,HE⟩
    ·have o1:=eq_yes q1
     have HWT:=Lib.hid (wantTo_no HYK.out HE)
     clear q1 HE
     go_wp2_with fail
     go_roundw
     case rel=>exact ⟨k+1,Lk,by omega,by go_num,m4,by rw[HLT.out];omega,(by rw[HWT.out];exact HLk.out),rx4,u4,hl4⟩
     case measure=>first|(simp[intOf];omega)|simp[intOf]
    ·have o1:=eq_no q1
     have o2:=eq_yes q2
     have HWT:=Lib.hid (wantTo_no HYK.out HE)
     have i2:(0:Int)<(k:Int):=by omega
     clear q1 q2 HE
     go_wp2_with fail
     go_roundw
     case rel=>exact ⟨k+1,Lk,by omega,by go_num,m4,by rw[HLT.out];omega,(by rw[HWT.out];exact HLk.out),rx4,u4,hl4⟩
     case measure=>first|(simp[intOf];omega)|simp[intOf]
    ·have o1:=eq_no q1
     have o2:=eq_no q2
     have HWT:=Lib.hid (wantTo_yes HYK.out HE)
     clear q1 q2 HE
     go_wp2_with fail
     refine HW.out.mono ?_
     rintro r w5 ⟨rfl,⟨L5,m5,hL5,HL5⟩,u5⟩
     have rx5:=mupd_row u5 m4 rx4
     have u05:=u4.trans u5
     go_wp2_with fail
     go_roundw
     case rel=>exact ⟨k+1,L5,by omega,by go_num,m5,(by rw[HLT.out];omega),(by rw[HWT.out];intro x;rw[HL5.out,HLk.out,List.mem_append,or_assoc]),rx5,u05,rx5.lt⟩
     case measure=>first|(simp[intOf];omega)|simp[intOf]
    ·have o1:=eq_no q1
     have o2:=eq_yes q2
     have HWT:=Lib.hid (wantTo_yes HYK.out HE)
     subst q3
     clear q1 q2 HE
     go_wp2_with fail
     refine HW.out.mono ?_
     rintro r w5 ⟨rfl,⟨L5,m5,hL5,HL5⟩,u5⟩
     have rx5:=mupd_row u5 m4 rx4
     have u05:=u4.trans u5
     go_wp2_with fail
     go_roundw
     case rel=>exact ⟨0+1,L5,by omega,by go_num,m5,(by rw[HLT.out];omega),(by rw[HWT.out];intro x;rw[HL5.out,HLk.out,List.mem_append,or_assoc]),rx5,u05,rx5.lt⟩
     case measure=>first|(simp[intOf];omega)|simp[intOf]
theorem svarC_any (n:Nd) (a:NdA) (nm:ByteArray) (w:World) (h:NdAt w w.heap.size n a) (sm:NdSm n):
  Calls Tryz.prog 151 #[ndV n a,.string nm] w fun e w'=>(∃(x:Vr) (A:Option Addr) (cap:Nat) (b:Bool),e= .returned (.tuple #[vrV x A cap,.bool b])∧Hid (x.clock=clockOf n nm)∧x.clock.length≤6∧x.clock.length≤cap∧cap≤maxLen∧Sl w' w.heap.size 2 isLit A x.clock)∧Below w.heap.size w w':=by
 refine (svar_any n a nm w h (by have:=sm.len;omega)).mono fun e w' hr=>?_
 obtain ⟨⟨k,x,A,cap,h1,h2,rfl,h3,h4,h5,h6⟩|⟨h1,rfl⟩,hb⟩:=hr
 ·exact ⟨⟨x,A,cap,true,rfl,(clock_at h1 h2).symm,(sm.all x (List.mem_of_getElem? h2)).clock,h4,h5,h6⟩,hb⟩
 ·exact ⟨⟨vr0,none,0,false,rfl,(clock_no h1).symm,Nat.zero_le _,Nat.le_refl _,Nat.zero_le _,Sl.nil⟩,hb⟩
theorem names_snoc {l:List Lt} {k:Nat} {c:Lt} (h:l[k]? =some c):(l.take (k+1)).map Lt.name=(l.take k).map Lt.name++ [c.name]:=by
 refine' zq180
 rw[List.take_succ_eq_append_getElem h1,h2]
 simp
theorem hangs_any (n:Nd) (a:NdA) (nm:ByteArray) (w:World) (sm:NdSm n) (hn:NdAt w w.heap.size n a):
  Calls Tryz.prog 209 #[ndV n a,.string nm] w fun r w'=>(∃v,r= .returned v∧SlV w' w'.heap.size 1 isStr v (hangsF n nm))∧Below w.heap.size w w':=by
 refine' zq152
 have HSM:=Lib.hid sm
 have hmm:= @run_makeMap Tryz.prog
 have hmq:=hn.mq
 have hnq:=sm.eqs
 have hlq:=hn.lq
 refine' zq263
 have rn1:=(Row.new w (ndArr n a) 39).alloc (.map #[] 0)
 have b1:Below w.heap.size w ((w.alloc (.cells (ndArr n a) 39)).alloc (.map #[] 0)):=bE
 have m1:MetS ((w.alloc (.cells (ndArr n a) 39)).alloc (.map #[] 0)) (w.heap.size+1) []:=by
  have h:=mets_made (w.alloc (.cells (ndArr n a) 39))
  rwa [World.size_alloc] at h
 clear hn sm
 go_enter Tryz.func209,Tryz.ntmps209
 go_upto_region 2 with (fail)
 generalize (w.alloc (.cells (ndArr n a) 39)).alloc (.map #[] 0)=W1 at*
 have hs1:=b1.size
 have hl1:=m1.lt
 obtain ⟨c0,c1,cc2,c3,c4,c5,c6⟩:=rn1.nd
 go_upto_region 3 with (go_at_call 151;refine Calls.mono (svarC_any n a nm W1 ((HN.out W1 b1).more hs1) HSM.out) ?_;rintro r w2 ⟨⟨x,A',cap',bv,rfl,HCK,hc6,g1,g2,hx⟩,hb2⟩)
 have hs2:=hb2.size
 have rv3:=Row.new w2 (vrArr x A' cap') 89
 have ba:Below w2.heap.size w2 (w2.alloc (.cells (vrArr x A' cap') 89)):=bE
 generalize hW3:w2.alloc (.cells (vrArr x A' cap') 89)=w3 at*
 clear hW3
 have hb3:=hb2.trans (ba.mono hs2)
 have hB3:=b1.trans (hb3.mono hs1)
 have hs3:=hB3.size
 have rn3:=rn1.below hb3 rn1.lt
 have m3:=m1.below hb3 m1.lt
 have HX3:Hid (Sl w3 W1.heap.size 2 isLit A' x.clock):=lits_keep hx (fun p u _ hc=>old_cell ba hc) (Nat.le_refl _)
 clear c0 c1 cc2 c3 c4 c5 c6 hx rn1 m1
 obtain ⟨c0,c1,cc2,c3,c4,c5,c6⟩:=rn3.nd
 go_wp2_with fail
 refine (sdefine_any n a nm w3 ((HN.out w3 hB3).more hs3)).mono ?_
 rintro r w4 ⟨hr,hb4⟩
 have hB4:=hB3.trans (hb4.mono hs3)
 have hs4:=hB4.size
 have rn4:=rn3.below hb4 rn3.lt
 have rv4:=rv3.below hb4 rv3.lt
 have m4:=m3.below hb4 m3.lt
 have HX4:Hid (Sl w4 W1.heap.size 2 isLit A' x.clock):=lits_keep HX3.out (fun p u _ hc=>old_cell hb4 hc) (Nat.le_refl _)
 clear c0 c1 cc2 c3 c4 c5 c6 rn3 rv3 m3 HX3
 rcases hr with ⟨i,j,rfl,HD⟩|⟨rfl,HD⟩
 rotate_left 1
 ·have HS:=Lib.hid (sorted_all m4 (by simp))
  have HU:Hid (insAll [] []=hangsF n nm):=by show _=_;unfold hangsF;rw[hangsL_no HD.out]
  refine' zq173
  exact ⟨⟨v,rfl,hS⟩,hB4.trans (hb9.mono hs4)⟩
 have hi:i<n.eqs.length:=by obtain ⟨q',hq',_⟩:=HD.out;exact (List.getElem?_eq_some_iff.1 hq').1
 obtain ⟨c0,c1,cc2,c3,c4,c5,c6⟩:=rn4.nd
 obtain ⟨b,off,q,A1,k1,A2,k2,hA,hb,hq,ok,lq1,mq1,sl1,lq2,mq2,sl2,d0,d1,d2,d3,d4,d5,d6,d7,d8⟩:=(HN.out w4 hB4).sq.eqn hi
 have HQ:=Lib.hid hq
 have HL:=Lib.hid (hangsL_def HD.out hq)
 refine' zq237
 have HW:=Lib.hid (wants_any q.right A2 k2 (w.heap.size+1) [] w4 ok.right lq2 mq2 (exs_keep sl2 (fun _ _ _ h=>h) hs4) m4 (by simp;omega))
 clear hA hq ok sl1 sl2
 go_wp2_with fail
 refine HW.out.mono ?_
 rintro r w5 ⟨rfl,⟨L5,m5,hL5,HL5⟩,u5⟩
 simp only[List.length_nil,Nat.zero_add] at hL5
 have rv5:=mupd_row u5 m4 rv4
 have HX5:Hid (Sl w5 W1.heap.size 2 isLit A' x.clock):=lits_keep HX4.out (mupd_keeps u5 m4) (Nat.le_refl _)
 have hB5:Below w.heap.size w w5:=hB4.trans (u5.below (fun k e=>by omega) hs4)
 have hs5:=hB5.size
 refine' zq205
 clear HW c0 c1 cc2 c3 c4 c5 c6 d0 d1 d2 d3 d4 d5 d6 d7 d8 rn4 rv4 m4 u5 HX4
 obtain ⟨v0,v1,v2,v3,v4⟩:=rv5.vr
 go_wp2_with fail
 clear v0 v1 v2 v3 v4
 go_loopw[39] (fun t wr=>∃(p:Nat) (L:List ByteArray),p≤x.clock.length∧t= .int .i64 p∧MetS wr (w.heap.size+1) L∧L.length≤900+p∧Hid (∀y,y∈L↔y∈wantsL q.right∨y∈(x.clock.take p).map Lt.name)∧UpdM (w.heap.size+1) w5 wr∧Below w.heap.size w wr) (fun t _=>x.clock.length-(intOf t).toNat)
 case atStart=>exact ⟨0,L5,Nat.zero_le _,rfl,m5,by omega,(fun y=>by rw[HL5.out];simp),Upd.refl _ _,hB5⟩
 case round=>
  obtain ⟨p,L,hp,rfl,m6,hL6,HL6,u6,hB6⟩:=hrel
  have hs6:=hB6.size
  by_cases hlt:p<x.clock.length
  rotate_left 1
  ·obtain rfl:p=x.clock.length:=by omega
   have HS:=Lib.hid (sorted_all m6 (by omega))
   have HU:Hid (insAll [] L=hangsF n nm):=rising_eq (insAll_rising List.Pairwise.nil) (hangsF_rising n nm) fun y=>by
    rw[insAll_mem,hangsF_mem,HL.out,HL6.out,List.take_length,HCK.out,List.mem_append]
    simp
   refine' zq173
   exact ⟨⟨v,rfl,hS⟩,hB6.trans (hb9.mono hs6)⟩
  obtain ⟨b',off',c,hA',hb',hc,hsc,e0,e1⟩:=(lits_keep HX5.out (mupd_keeps u6 m5) (Nat.le_refl _)).lit hlt
  subst hA'
  have HC:=Lib.hid hc
  have i2:(0:Int)≤(p:Int):=by omega
  have i3:(p:Int)<(x.clock.length:Int):=by omega
  have ba6:Below wr.heap.size wr (wr.alloc (.cells #[.string c.name,.bool c.no] 158)):=bE
  have m7:=m6.alloc (.cells #[.string c.name,.bool c.no] 158)
  have u7:=u6.trans (UpdM.of ba6)
  have hB7:=hB6.trans (ba6.mono hs6)
  have r7:=Row.new wr #[.string c.name,.bool c.no] 158
  clear hc
  go_upto_region 9 with (fail)
  clear e0 e1
  generalize hW7:wr.alloc (.cells #[.string c.name,.bool c.no] 158)=w7 at*
  clear hW7
  have e0:w7.cell? ⟨wr.heap.size,0,none⟩=some (.string c.name):=(r7.cell 0).trans rfl
  have e1:w7.cell? ⟨wr.heap.size,1,none⟩=some (.bool c.no):=(r7.cell 1).trans rfl
  go_wp2_with (at_mapUpdate;refine wpList_mets rfl _ _ _ rfl (w.heap.size+1) L rfl m7 (by omega) c.name rfl hsc rfl ?_;intro w8 m8 hg8)
  have u8:=UpdM.grown u7 hg8
  have hB8:=hB7.grown hg8 hB7.size (fun k e=>by cases e;omega)
  have HL8:Hid (∀y,y∈putN L c.name↔y∈wantsL q.right∨y∈(x.clock.take (p+1)).map Lt.name):=fun y=>by
   rw[putN_mem,HL6.out,names_snoc HC.out,List.mem_append,List.mem_singleton,or_assoc]
  go_wp2_with fail
  go_roundw
  case rel=>exact ⟨p+1,_,by omega,by go_num,m8,(by have:=putN_len (l:=L) (nm:=c.name);omega),HL8,u8,hB8⟩
  case measure=>first|(simp[intOf];omega)|simp[intOf]
structure Dfs (U:ByteArray→List ByteArray) (L:List ByteArray) (a:ByteArray) (pre L':List ByteArray):Prop where
 old:∀x∈L,x∈L'
 hg:∀x∈L',x∈L∨Hg U a x
 pre:∀y∈pre,y∈L'
 more:∀y∈L',y∉L→∀z∈U y,z∈L'
section
variable {U:ByteArray→List ByteArray} {V L L' L2 pre:List ByteArray} {a x:ByteArray}
theorem Dfs.start (U:ByteArray→List ByteArray) (L:List ByteArray) (a:ByteArray):Dfs U L a [] L:=⟨fun _ h=>h,fun _ h=> .inl h,(fun _ h=>by cases h),fun y h g=>absurd h g⟩
theorem Dfs.skip (h:Dfs U L a pre L') (hx:x∈L'):Dfs U L a (pre++ [x]) L':=by
 refine ⟨h.old,h.hg,fun y hy=>?_,h.more⟩
 rcases List.mem_append.1 hy with hy|hy
 ·exact h.pre y hy
 ·rw[List.mem_singleton.1 hy];exact hx
theorem Dfs.step (h:Dfs U L a pre L') (hx:x∈U a) (k:Dfs U (L'++ [x]) x (U x) L2):Dfs U L a (pre++ [x]) L2:=by
 have hsub:∀y∈L',y∈L2:=fun y hy=>k.old y (by simp[hy])
 have hx2:x∈L2:=k.old x (by simp)
 refine ⟨fun y hy=>hsub y (h.old y hy),fun y hy=>?_,fun y hy=>?_,fun y hy hn z hz=>?_⟩
 ·rcases k.hg y hy with g|g
  ·rcases List.mem_append.1 g with g|g
   ·exact h.hg y g
   ·rw[List.mem_singleton.1 g];exact .inr (.one hx)
  ·exact .inr (hg_trans (.one hx) g)
 ·rcases List.mem_append.1 hy with hy|hy
  ·exact hsub y (h.pre y hy)
  ·rw[List.mem_singleton.1 hy];exact hx2
 ·by_cases g:y∈L'++ [x]
  ·rcases List.mem_append.1 g with g|g
   ·exact hsub z (h.more y g hn z hz)
   ·rw[List.mem_singleton.1 g] at hz;exact k.pre z hz
  ·exact k.more y hy g z hz
theorem Dfs.all (h:Dfs U [] a (U a) L') (x:ByteArray):x∈L'↔Hg U a x:=by
 constructor
 ·intro g;exact (h.hg x g).resolve_left (by simp)
 ·intro g
  induction g with
  |one g=>exact h.pre _ g
  |more _ g ih=>exact h.more _ ih (by simp) _ g
theorem Dfs.sub (h:Dfs U L a pre L') (hV:∀x,∀y∈U x,y∈V) (hL:∀y∈L,y∈V):∀y∈L',y∈V:=fun y hy=>by
 rcases h.hg y hy with g|g
 ·exact hL y g
 ·exact hg_sub hV g
end
abbrev rF (bn pm pf:Nat):Value:= .func (.func 208) #[] #[.pointer (some ⟨bn,0,none⟩),.pointer (some ⟨pm,0,none⟩),.pointer (some ⟨pf,0,none⟩)]
theorem round1_any (n:Nd) (a:NdA) (bn pm pf bm:Nat) (t:TypeId) (sm:NdSm n) (hV:∀x,∀y∈hangsF n x,y∈nms (vrs n)) (m:Nat):∀(nm:ByteArray) (L:List ByteArray) (w:World),(nms (vrs n)).length-L.length≤m→(∀y∈L,y∈nms (vrs n))→NdAt w w.heap.size n a→Row w bn (ndArr n a) 39→Row w pm #[.map (some bm)] 107→Row w pf #[rF bn pm pf] t→MetS w bm L→
  Calls Tryz.prog 208 #[.string nm,.pointer (some ⟨bn,0,none⟩),.pointer (some ⟨pm,0,none⟩),.pointer (some ⟨pf,0,none⟩)] w fun r w'=>r= .returned (.tuple #[])∧(∃L',MetS w' bm L'∧Hid (Dfs (hangsF n) L nm (hangsF n nm) L'))∧UpdM bm w w':=by
 induction m using Nat.strongRecOn with
 |ind m ih=>
  intro nm L w hm hL hn rn rp rf hM
  have HI:=Lib.hid ih
  have HV:=Lib.hid hV
  have HL:=Lib.hid hL
  have HSM:=Lib.hid sm
  have HN:Hid (∀W,UpdM bm w W→NdAt W W.heap.size n a):=fun W hW=>hn.keep (mupd_keeps hW hM) hW.size
  have hF:∀args w,(callFunc 208 args).run Tryz.prog w= .ok (.enter 208 args) w:=enters_of Tryz.func208 (by kernel_rfl) rfl
  have hvl:=sm.len
  clear ih hV hL sm hn
  obtain ⟨c0,c1,cc2,c3,c4,c5,c6⟩:=rn.nd
  go_enter Tryz.func208,Tryz.ntmps208
  go_wp2_with fail
  refine (hangs_any n a nm w HSM.out (HN.out w (Upd.refl _ _))).mono ?_
  rintro r w2 ⟨⟨v2,rfl,hv2⟩,hb2⟩
  obtain ⟨A2,c2,rfl,g1,g2,g3⟩:=hv2
  have rn2:=rn.below hb2 rn.lt
  have rp2:=rp.below hb2 rp.lt
  have rf2:=rf.below hb2 rf.lt
  have m2:=hM.below hb2 hM.lt
  have u2:UpdM bm w w2:=UpdM.of hb2
  have HS2:Hid (∀W,UpdM bm w2 W→Sl W w2.heap.size 1 isStr A2 (hangsF n nm)):=fun W hW=>strs_keep g3 (mupd_keeps hW m2) (Nat.le_refl _)
  have g2':c2≤9223372036854775807:=by unfold maxLen at g2;omega
  clear c0 c1 cc2 c3 c4 c5 c6 g3
  go_wp2_with fail
  go_loopw[11] (fun i wr=>∃(k:Nat) (Lk:List ByteArray),k≤(hangsF n nm).length∧i= .int .i64 k∧MetS wr bm Lk∧Hid (Dfs (hangsF n) L nm ((hangsF n nm).take k) Lk)∧UpdM bm w2 wr) (fun i _=>(hangsF n nm).length-(intOf i).toNat)
  case atStart=>exact ⟨0,L,Nat.zero_le _,rfl,m2,Dfs.start _ _ _,Upd.refl _ _⟩
  case round=>
   obtain ⟨k,Lk,hk,rfl,m3,HD,u3⟩:=hrel
   have u03:=u2.trans u3
   by_cases hlt:k<(hangsF n nm).length
   rotate_left 1
   ·obtain rfl:k=(hangsF n nm).length:=by omega
    rw[List.take_length] at HD
    go_wp2_with fail
    go_end0
    exact ⟨rfl,⟨Lk,m3,HD⟩,u03⟩
   obtain ⟨b,off,x,rfl,hb,hx,hsx,e0⟩:=(HS2.out wr u3).str hlt
   have HX:=Lib.hid hx
   have HT:Hid ((hangsF n nm).take (k+1)=(hangsF n nm).take k++ [x]):=by
    show _=_
    obtain ⟨q1,q2⟩:=List.getElem?_eq_some_iff.1 hx
    rw[List.take_succ_eq_append_getElem q1,q2]
   have i0:(0:Int)≤(k:Int):=by omega
   have i1:(k:Int)<((hangsF n nm).length:Int):=by omega
   have rp3:=mupd_row u3 m2 rp2
   have rf3:=mupd_row u3 m2 rf2
   have rn3:=mupd_row u3 m2 rn2
   have p3:wr.cell? ⟨pm,0,none⟩=some (.map (some bm)):=(rp3.cell 0).trans rfl
   have f3:wr.cell? ⟨pf,0,none⟩=some (rF bn pm pf):=(rf3.cell 0).trans rfl
   clear hx
   by_cases hP:x∈Lk
   ·have hlk:=(m3.look hsx).1 hP
    have HD':=Lib.hid (HD.out.skip hP)
    clear hP
    go_wp2_with fail
    go_roundw
    case rel=>exact ⟨k+1,Lk,by omega,by go_num,m3,(by rw[HT.out];exact HD'.out),u3⟩
    case measure=>first|(simp[intOf];omega)|simp[intOf]
   ·have hlk:=(m3.look hsx).2 hP
    have HPN:Hid (putN Lk x=Lk++ [x]):=by show _=_;unfold putN;rw[if_neg hP]
    have HLV:Hid (∀y∈Lk++ [x],y∈nms (vrs n)):=fun y hy=>by
     rcases List.mem_append.1 hy with hy|hy
     ·exact HD.out.sub HV.out HL.out y hy
     ·rw[List.mem_singleton.1 hy];exact HV.out nm x (List.mem_of_getElem? HX.out)
    have hnd:(Lk++ [x]).Nodup:=by rw[←HPN.out];exact putN_nodup m3.1
    have hl1:=nodup_len hnd HLV.out
    have hl2:=nodup_len (m:=Lk) hM.1 HD.out.old
    rw[List.length_append,List.length_singleton] at hl1
    rw[List.length_map] at hl1 hm
    clear hP hnd
    go_wp2_with (at_mapUpdate;refine wpList_mets rfl _ _ _ rfl bm Lk rfl m3 (by omega) x rfl hsx rfl ?_;intro w4 m4 hg4;rw[HPN.out] at m4;have rf4:=row_map rf3 m3 hg4;have rp4:=row_map rp3 m3 hg4;have rn4:=row_map rn3 m3 hg4;have u4:=UpdM.grown u3 hg4;have f4:w4.cell? ⟨pf,0,none⟩=some (rF bn pm pf):=(rf4.cell 0).trans rfl)
    refine (HI.out ((vrs n).length-(Lk.length+1)) (by omega) x (Lk++ [x]) w4 (by rw[List.length_map,List.length_append,List.length_singleton];omega) HLV.out (HN.out w4 (u2.trans u4)) rn4 rp4 rf4 m4).mono ?_
    rintro r w5 ⟨rfl,⟨L5,m5,HD5⟩,u5⟩
    have HD':=Lib.hid (HD.out.step (List.mem_of_getElem? HX.out) HD5.out)
    have u35:=u4.trans u5
    go_wp2_with fail
    go_roundw
    case rel=>exact ⟨k+1,L5,by omega,by go_num,m5,(by rw[HT.out];exact HD'.out),u35⟩
    case measure=>first|(simp[intOf];omega)|simp[intOf]
end Go.Proofs.YtgjfkidbfmbjoaaGreat
