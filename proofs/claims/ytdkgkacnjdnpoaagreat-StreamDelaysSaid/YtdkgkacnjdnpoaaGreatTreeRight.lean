/-
  Rows of texts and of conditions: where one is, whether two are one. Few nodes: the contracts of tompionlaw12.fewVars and FewNodes. Few nodes: the contract of tompionlaw12.FewNodes. The iterator over an expression and all within it: the contracts of tree.walk, All. The iterator over an expression, once more: rows of cells may turn by their types. Which expressions are right: the contract of tree.Right.
-/
import Derived.Test.YtdkgkacnjdnpoaaGreatScP
import Derived.Laws.StructEq
import Derived.Deep.DrawnRows
import Derived.Test.YtdkgkacnjdnpoaaGreatRefRight
import Derived.RangeFuncNested
import Derived.RangeFuncBound
import Derived.RangeFuncCalls
import Derived.RangeFuncLeaves
import Derived.Shelf.Abstract
import Derived.Shelf.RegionOpen
import Derived.OwnWalkIn
import Derived.TacticsInMore
import Derived.LoopNIn
import Derived.LoopIn
set_option maxHeartbeats 4000000
set_option maxRecDepth 100000
namespace Go.Proofs.YtdkgkacnjdnpoaaGreat
open Go.RowKit
attribute [local go_sem ↓] Go.wp_at_zero Go.wp_at_succ
theorem index_str (l:List ByteArray) (nm:ByteArray) (A:Option Addr) (cap B:Nat) (w:World) (h1:l.length≤cap) (h2:cap≤maxLen) (h:Sl w B 1 isStr A l):
  Calls Tryz.prog 159 #[.slice A l.length cap,.string nm] w fun e w'=>e= .returned (.int .i64 (idxOf l nm))∧w=w':=by
 have HS:=Lib.hid h
 have hl3:cap≤9223372036854775807:=by unfold maxLen at h2;omega
 clear h
 go_enter Tryz.func159,Tryz.ntmps159
 go_wp2_with fail
 go_loop[8] (fun i=>∃k:Nat,k≤l.length∧i= .int .i64 k∧Hid (∀j,j<k→∀x,l[j]? =some x→x≠nm)) (fun i=>l.length-(intOf i).toNat)
 case atStart=>exact ⟨0,Nat.zero_le _,rfl,fun j h=>absurd h (by omega)⟩
 case round=>
  obtain ⟨k,hk,rfl,HN⟩:=hrel
  by_cases hlt:k<l.length
  ·obtain ⟨b,off,x,rfl,hb,hx,hsx,c0⟩:=HS.out.str hlt
   have HX:=Lib.hid hx
   clear hx
   by_cases e:x=nm
   ·have e1:=beq_yes e
    have e2:=beq_yes e.symm
    have HF:=Lib.hid (idx_at HN.out (e▸HX.out))
    clear e
    go_wp2_with fail
    go_ret
    exact ⟨ret_int HF.out.symm,rfl⟩
   ·have HN':=Lib.hid (step_upto (P:=fun x=>x≠nm) HN.out HX.out e)
    have e1:=beq_no e
    have e2:=beq_no (fun g=>e (Eq.symm g))
    clear e
    go_wp2_with fail
    go_round
    case rel=>exact ⟨k+1,by omega,by go_num,HN'⟩
    case measure=>simp[intOf];omega
  ·obtain rfl:k=l.length:=by omega
   have HF:=Lib.hid (idx_none HN.out)
   go_wp2_with fail
   go_ret
   exact ⟨ret_int HF.out.symm,rfl⟩
theorem lits_eq {l m:List Lt} (hl:l.length=m.length) (h:∀j,j<l.length→∀x y,l[j]? =some x→m[j]? =some y→x=y):l=m:=by
 apply List.ext_getElem hl
 intro i h1 h2
 exact h i h1 _ _ (List.getElem?_eq_getElem h1) (List.getElem?_eq_getElem h2)
theorem eqLits_any (l m:List Lt) (A1 A2:Option Addr) (c1 c2 B:Nat) (w:World) (_l1:l.length≤c1) (m1:c1≤maxLen) (s1:Sl w B 2 isLit A1 l) (l2:m.length≤c2) (m2:c2≤maxLen) (s2:Sl w B 2 isLit A2 m):
  Calls Tryz.prog 148 #[.slice A1 l.length c1,.slice A2 m.length c2] w fun e w'=>e= .returned (.bool (cB (l=m)))∧∃n,w'=w.drewN n:=by
 have m1':c1≤9223372036854775807:=by unfold maxLen at m1;omega
 have m2':c2≤9223372036854775807:=by unfold maxLen at m2;omega
 by_cases hl:l.length=m.length
 rotate_left 1
 ·have HF:=Lib.hid (cB_false (fun g:l=m=>hl (by rw[g])))
  have hl':((l.length:Int) !=(m.length:Int))=true:=by rw[bne_iff_ne];omega
  clear hl
  go_enter Tryz.func148,Tryz.ntmps148
  go_wp2_with fail
  go_ret
  exact ⟨ret_bool HF.out.symm,0,rfl⟩
 have hl':((l.length:Int) !=(m.length:Int))=false:=by rw[bne_eq_false_iff_eq];omega
 have HL:=Lib.hid hl
 have hle1:l.length≤m.length:=by omega
 clear hl
 go_enter Tryz.func148,Tryz.ntmps148
 go_wp2_with fail
 go_loopw[13] (fun i wr=>∃k:Nat,k≤l.length∧i= .int .i64 k∧Hid (∀j,j<k→∀x y,l[j]? =some x→m[j]? =some y→x=y)∧∃n,wr=w.drewN n) (fun i _=>l.length-(intOf i).toNat)
 case atStart=>exact ⟨0,Nat.zero_le _,rfl,fun j h=>absurd h (by omega),0,rfl⟩
 case round=>
  obtain ⟨k,hk,rfl,HN,n,rfl⟩:=hrel
  by_cases hlt:k<l.length
  ·obtain ⟨b1,o1,x,rfl,hb1,hx,wx,d1,d1'⟩:=s1.lit hlt
   obtain ⟨b2,o2,y,rfl,hb2,hy,wy,d2,d2'⟩:=s2.lit (show k<m.length by omega)
   have HX:=Lib.hid hx
   have HY:=Lib.hid hy
   clear hx hy
   have hk1:(k:Int)<l.length:=by omega
   have hk2:(k:Int)<m.length:=by omega
   have hk0:(0:Int)≤(k:Int):=by omega
   by_cases e1:x.name=y.name
   ·have e1':=beq_yes e1
    by_cases e2:x.no=y.no
    ·have e2':(x.no==y.no)=true:=by simp[e2]
     have HN':=Lib.hid (upto_succ HN.out (fun x' y' hx' hy'=>by rw[HX.out] at hx';rw[HY.out] at hy';injection hx' with hx';injection hy' with hy';rw[←hx',←hy'];exact lt_ext e1 e2))
     clear e1 e2
     go_wp2_with fail
     go_quiet (fail)
     go_wp2_with fail
     go_roundw
     case rel=>exact ⟨k+1,by omega,by go_num,HN',by first|exact ⟨_,rfl⟩|(rw[World.drewN_drewN];exact ⟨_,rfl⟩)⟩
     case measure=>simp[intOf];omega
    ·have e2':(x.no==y.no)=false:=by simp[e2]
     have HF:=Lib.hid (cB_false (fun g:l=m=>e2 (by have:=HX.out;rw[g,HY.out] at this;injection this with this;rw[this])))
     clear e1 e2
     go_wp2_with fail
     go_quiet (fail)
     go_wp2_with fail
     go_ret
     exact ⟨ret_bool HF.out.symm,by first|exact ⟨_,rfl⟩|(rw[World.drewN_drewN];exact ⟨_,rfl⟩)⟩
   ·have e1':=beq_no e1
    have HF:=Lib.hid (cB_false (fun g:l=m=>e1 (by have:=HX.out;rw[g,HY.out] at this;injection this with this;rw[this])))
    clear e1
    go_wp2_with fail
    go_quiet (fail)
    go_wp2_with fail
    go_ret
    exact ⟨ret_bool HF.out.symm,by first|exact ⟨_,rfl⟩|(rw[World.drewN_drewN];exact ⟨_,rfl⟩)⟩
  ·obtain rfl:k=l.length:=by omega
   have HF:=Lib.hid (cB_true (lits_eq HL.out HN.out))
   go_wp2_with fail
   go_ret
   exact ⟨ret_bool HF.out.symm,by first|exact ⟨_,rfl⟩|(rw[World.drewN_drewN];exact ⟨_,rfl⟩)⟩
theorem mem_upto {α:Type} {l:List α} {P:α→Prop} (h:∀j,j<l.length→∀x,l[j]? =some x→P x):∀x∈l,P x:=fun x hx=>by
 obtain ⟨j,hj⟩:=List.getElem?_of_mem hx
 exact h j (List.getElem?_eq_some_iff.1 hj).1 x hj
structure SrcSm (s:List Nd):Prop where
 len:s.length≤20
 all:∀n∈s,NdSm n
abbrev eqArr (q:Eqn) (A1:Option Addr) (c1:Nat) (A2:Option Addr) (c2:Nat):Array Value:= #[.slice A1 q.left.length c1,.int .i64 q.right.op,.string q.right.name,.int .i64 q.right.n,.slice A2 q.right.args.length c2,.int .i64 q.right.line,.int .i64 q.right.col,.int .i64 q.line,.int .i64 q.col]
theorem Row.eqn {W:World} {b:Nat} {q:Eqn} {A1 A2:Option Addr} {c1 c2:Nat} {t:TypeId} (h:Row W b (eqArr q A1 c1 A2 c2) t):W.cell? ⟨b,0,none⟩=some (.slice A1 q.left.length c1)∧W.cell? ⟨b,1,none⟩=some (.int .i64 q.right.op)∧W.cell? ⟨b,2,none⟩=some (.string q.right.name)∧
  W.cell? ⟨b,3,none⟩=some (.int .i64 q.right.n)∧W.cell? ⟨b,4,none⟩=some (.slice A2 q.right.args.length c2)∧W.cell? ⟨b,5,none⟩=some (.int .i64 q.right.line)∧W.cell? ⟨b,6,none⟩=some (.int .i64 q.right.col)∧W.cell? ⟨b,7,none⟩=some (.int .i64 q.line)∧W.cell? ⟨b,8,none⟩=some (.int .i64 q.col):=
 ⟨(h.cell 0).trans rfl,(h.cell 1).trans rfl,(h.cell 2).trans rfl,(h.cell 3).trans rfl,(h.cell 4).trans rfl,(h.cell 5).trans rfl,(h.cell 6).trans rfl,(h.cell 7).trans rfl,(h.cell 8).trans rfl⟩
open Go.RowKit Go.Shelf
attribute [local go_sem] Oper.semAt_some
theorem room_of_none {F:Fence} (hd:F.depth=none) (k:Nat):F.room k:=fun d h=>by rw[hd] at h;cases h
theorem roundIn_any {F:Fence} (hd:F.depth=none) {m m':Nat} {P:Program} {l:Nat} {f:FuncId} {tmps:Array Value} {assign body:Code} {w:World} {R:Ending→World→Prop}
  (h:RoundIn F m P l f tmps assign body w R):RoundIn F m' P l f tmps assign body w R:=⟨h.1,fun c cs _=>h.2 c cs (room_of_none hd _)⟩
theorem yieldAt_any {F:Fence} (hd:F.depth=none) {m:Nat} (m':Nat) {P:Program} {l:Nat} {args:Array Value} {W:World} {R:Ending→World→Prop} (h:YieldAt F m P l args W R):YieldAt F m' P l args W R:=by
 obtain ⟨fn,tmps,assign,body,hy,hR⟩:=h
 exact ⟨fn,tmps,assign,body,hy,roundIn_any hd hR⟩
structure ExN where
 ex:Ex
 A:Option Addr
 cap:Nat
 ok:ExOk ex
 len:ex.args.length≤cap
 max:cap≤maxLen
abbrev ExN.v (x:ExN):Value:=exV x.ex x.A x.cap
theorem abide_alloc {β:Type} {B:Nat} {J:β→World→Prop} (h:AbidesFrom B J) {s:β} {W:World} (hs:J s W) (o:Obj):J s (W.alloc o):=
 h s W _ none hs (World.grownBy_alloc W o none) (fun _ e=>by cases e)
theorem lTo_pre (e:Ex) (k:Nat):lTo e k<+:exList e:=by
 rw[exList_eq];unfold lTo
 refine ⟨((e.args.drop k).map exList).flatten,?_⟩
 rw[List.cons_append,←List.flatten_append,←List.map_append,List.take_append_drop]
theorem wlkIn (F:Fence) (hd:F.depth=none) (hf:F.fn 72) (hro:F.round=none) (l N n₀ B0:Nat) (X:Nat→Prop) (hX:∀b,X b→n₀≤b∧b<B0) (J Jx:List ExN→World→Prop) (hJ:AbidesFrom B0 J)
  (hY:∀m pre x W,J pre W→pre.length<N→YieldAt F m Tryz.prog l #[x.v] W fun e W'=>(e= .returned (.bool true)∧J (pre++ [x]) W'∧KeepC X W W')∨(e= .returned (.bool false)∧Jx (pre++ [x]) W')) (e:Ex):
  ∀(n:Nat) (A:Option Addr) (cap:Nat) (pre:List ExN) (W:World),ExOk e→e.args.length≤cap→cap≤maxLen→n₀≤B0→B0≤W.heap.size→IsExs W n₀ A e.args→J pre W→pre.length+exSize e≤N→
   CallsIn F n Tryz.prog 72 #[exV e A cap,.func (.yield l) #[] #[]] W fun r W'=>
    (r= .returned (.bool true)∧∃q,q.map ExN.ex=exList e∧J (pre++q) W'∧KeepC X W W')∨(r= .returned (.bool false)∧∃q,q.map ExN.ex<+:exList e∧Jx (pre++q) W'):=by
 induction e using Ex.ind with
 |h e ih=>
  intro n A cap pre W hok hcap hmax hn0 hB0 hx hj hN
  have hdd:∀k:Nat,(F.depth.isSome=true→1≤k):=fun k h=>by rw[hd] at h;cases h
  have HI:=Lib.hid ih
  have HX:=Lib.hid hX
  have hXW:¬X W.heap.size:=fun h=>by have:=(hX _ h).2;omega
  have HE:=Lib.hid (lTo_end e)
  have hpos:=exSize_pos e
  have HN:=Lib.hid hN
  clear ih hX
  obtain ⟨fn,tmps,assign,body,hy,hR⟩:=hY (n-1) pre ⟨e,A,cap,hok,hcap,hmax⟩ (W.alloc (.cells #[.int .i64 e.op,.string e.name,.int .i64 e.n,.slice A e.args.length cap,.int .i64 e.line,.int .i64 e.col] 63)) (abide_alloc hJ hj _) (by omega)
  replace hR:=hR.mono (R':=fun r W2=>(r= .returned (.bool true)∧J (pre++ [⟨e,A,cap,hok,hcap,hmax⟩]) W2∧KeepC X (W.alloc (.cells #[.int .i64 e.op,.string e.name,.int .i64 e.n,.slice A e.args.length cap,.int .i64 e.line,.int .i64 e.col] 63)) W2∧W2.cell? ⟨W.heap.size,3,none⟩=some (.slice A e.args.length cap))∨(r= .returned (.bool false)∧Jx (pre++ [⟨e,A,cap,hok,hcap,hmax⟩]) W2))
   (fun r W2 h=>h.elim (fun ⟨h1,h2,h3⟩=> .inl ⟨h1,h2,h3,(exBoxC h3 hXW).2.2.2.1⟩) .inr)
  unfold maxLen at hmax
  refine callsIn_of_wp Tryz.func72 rfl hf ?_ hro
  simp only[Tryz.ntmps72,List.size_toArray,List.length_cons,List.length_nil,Nat.reduceAdd,Nat.reduceSub,Array.replicate_succ,Array.replicate_zero,List.push_toArray,List.append_toArray,List.nil_append,List.cons_append]
  gi_wp2_with ((try refine ⟨hdd _,?_⟩);refine hR.mono ?_;clear hR;rintro r W2 (⟨rfl,hJ2,hK2,c3⟩|⟨rfl,hx2⟩))
  ·gi_loopw [14] (fun i wr=>∃(k:Nat) (q:List ExN),k≤e.args.length∧i= .int .i64 k∧Hid (q.map ExN.ex=lTo e k)∧J (pre++q) wr∧KeepC X (W.alloc (.cells #[.int .i64 e.op,.string e.name,.int .i64 e.n,.slice A e.args.length cap,.int .i64 e.line,.int .i64 e.col] 63)) wr) (fun i _=>e.args.length-(intOf i).toNat)
   case atStart=>exact ⟨0,[⟨e,A,cap,hok,hcap,by unfold maxLen;omega⟩],Nat.zero_le _,rfl,rfl,hJ2,hK2⟩
   case round=>
    obtain ⟨k,q,hk,rfl,HQ,hJr,hKr⟩:=hrel
    have hK0:KeepC X W wr:=(KeepC.alloc X W _).trans hKr
    have hszr:=hKr.size
    rw[World.size_alloc] at hszr
    by_cases hlt:k<e.args.length
    ·obtain ⟨b,off,x,A',cap',rfl,hb,hxk,hxm,hok',hcap',hmax',hx',d0,d1,d2,d3,d4,d5⟩:=(hx.keepS (fun p u hp hc=>hK0.cell (fun h=>by have:=(HX.out _ h).1;omega) hc)).at_ hlt
     have HT:=Lib.hid (lTo_succ hxk)
     have hlq:Hid ((pre++q).length+exSize x≤N):=by
      have h1:=lTo_le e (k+1)
      rw[HT.out,List.length_append,←HQ.out,List.length_map] at h1
      have h2:=HN.out
      show _≤_
      rw[List.length_append]
      unfold exSize at h1 h2⊢
      omega
     have HC:=HI.out x hxm (n-1) A' cap' (pre++q) (wr.alloc (.cells #[.int .i64 x.op,.string x.name,.int .i64 x.n,.slice A' x.args.length cap',.int .i64 x.line,.int .i64 x.col] 63)) hok' hcap' hmax' hn0 (by simp;omega) (hx'.keepS (fun p u hp hc=>(KeepC.alloc (fun _=>False) wr _).cell (fun h=>h) hc)) (abide_alloc hJ hJr _) hlq.out
     have HC':=Lib.hid HC
     clear hxk hxm HC
     gi_wp2_with ((try refine ⟨hdd _,?_⟩);gi_at_call 72;refine HC'.out.mono ?_;clear HC';rintro r W3 (⟨rfl,q3,hq3,hJ3,hK3⟩|⟨rfl,q3,hq3,hx3⟩))
     ·go_roundw
      case rel=>exact ⟨k+1,q++q3,by omega,by go_num,by show _=_;rw[List.map_append,HQ.out,hq3,HT.out],by rw[←List.append_assoc];exact hJ3,hKr.trans ((KeepC.alloc X wr _).trans hK3)⟩
      case measure=>simp[intOf];omega
     ·go_ret
      refine .inr ⟨rfl,q++q3,?_,by rw[←List.append_assoc];exact hx3⟩
      rw[List.map_append,HQ.out]
      exact ((List.prefix_append_right_inj _).2 hq3).trans (HT.out▸lTo_pre e (k+1))
    ·obtain rfl:k=e.args.length:=by omega
     gi_wp2
     go_ret
     exact .inl ⟨rfl,q,by rw[HQ.out,←HE.out],hJr,hK0⟩
  ·go_ret
   exact .inr ⟨rfl,_,by rw[exList_eq];exact ⟨_,rfl⟩,hx2⟩
theorem all1_in (F:Fence) (hd:F.depth=none) (n:Nat) (hf:F.fn 72) (hf1:F.fn 71) (hro:F.round=none) (l Bt n₀ B0:Nat) (X:Nat→Prop) (hX:∀b,X b→n₀≤b∧b<B0) (J Jx:List ExN→World→Prop) (hJ:AbidesFrom B0 J)
  (e:Ex) (A:Option Addr) (cap:Nat) (hok:ExOk e) (hcap:e.args.length≤cap) (hmax:cap≤maxLen) (hn0:n₀≤B0)
  (hY:∀pre x W,J pre W→pre.length<exSize e→YieldAt F (n-1) Tryz.prog l #[x.v] W fun e W'=>(e= .returned (.bool true)∧J (pre++ [x]) W'∧KeepC X W W')∨(e= .returned (.bool false)∧Jx (pre++ [x]) W'))
  (W:World) (hB0:B0≤W.heap.size) (hc:∀j u,(exCells e A cap)[j]? =some u→W.cell? ⟨Bt,j,none⟩=some u) (hx:IsExs W n₀ A e.args) (h0:J [] W):
  CallsIn F n Tryz.prog 71 #[.func (.yield l) #[] #[],.pointer (some ⟨Bt,0,none⟩)] W fun r W'=>(∃v,r= .returned v)∧
   ((∃ys,ys.map ExN.ex=exList e∧J ys W')∨(∃pre,pre.map ExN.ex<+:exList e∧Jx pre W')):=by
 have hdd:∀k:Nat,(F.depth.isSome=true→1≤k):=fun k h=>by rw[hd] at h;cases h
 have hp:=wlkIn F hd hf hro l (exSize e) n₀ B0 X hX J Jx hJ (fun m pre x W hj hl=>yieldAt_any hd m (hY pre x W hj hl)) e (n-1) A cap [] W hok hcap hmax hn0 hB0 hx h0 (by simp)
 have HP:=Lib.hid hp
 have c0:=hc 0 _ rfl
 have c1:=hc 1 _ rfl
 have c2:=hc 2 _ rfl
 have c3:=hc 3 _ rfl
 have c4:=hc 4 _ rfl
 have c5:=hc 5 _ rfl
 clear hp hc
 refine callsIn_of_wp Tryz.func71 rfl hf1 ?_ hro
 simp only[Tryz.ntmps71,List.size_toArray,List.length_cons,List.length_nil,Nat.reduceAdd,Nat.reduceSub,Array.replicate_succ,Array.replicate_zero,List.push_toArray,List.append_toArray,List.nil_append,List.cons_append]
 gi_wp2_with ((try refine ⟨hdd _,?_⟩);gi_at_call 72;refine HP.out.mono ?_;clear HP;rintro e W1 (⟨rfl,q,hq,hJ1,_⟩|⟨rfl,q,hq,hx⟩))
 ·go_end0
  exact ⟨⟨_,rfl⟩,.inl ⟨q,hq,by simpa using hJ1⟩⟩
 ·go_end0
  exact ⟨⟨_,rfl⟩,.inr ⟨q,hq,by simpa using hx⟩⟩
theorem all_in (F:Fence) (n:Nat) (hf:F.fn 40) (hro:F.round=none) (e:Ex) (A:Option Addr) (cap:Nat) (W:World):
  CallsIn F n Tryz.prog 40 #[exV e A cap] W fun r w'=>r= .returned (.func (.func 71) #[] #[.pointer (some ⟨W.heap.size,0,none⟩)])∧w'=W.alloc (.cells #[.int .i64 e.op,.string e.name,.int .i64 e.n,.slice A e.args.length cap,.int .i64 e.line,.int .i64 e.col] 63):=by
 refine callsIn_of_wp Tryz.func40 rfl hf ?_ hro
 simp only[Tryz.ntmps40,List.size_toArray,List.length_cons,List.length_nil,Nat.reduceAdd,Nat.reduceSub,Array.replicate_succ,Array.replicate_zero,List.push_toArray,List.append_toArray,List.nil_append,List.cons_append]
 gi_wp2
 go_ret
 exact ⟨rfl,rfl⟩
theorem all_stops (F:Fence) (hd:F.depth=none) (n:Nat) (hf:F.fn 72) (hf1:F.fn 71) (hro:F.round=none) (Bt n₀:Nat) (X:Nat→Prop) (e:Ex) (A:Option Addr) (cap:Nat) (w:World) (hX:∀b,X b→n₀≤b∧b<w.heap.size)
  (hok:ExOk e) (hcap:e.args.length≤cap) (hmax:cap≤maxLen) (hBt:Bt<w.heap.size) (hn₀:n₀≤w.heap.size) (hc:∀j u,(exCells e A cap)[j]? =some u→w.cell? ⟨Bt,j,none⟩=some u) (hx:IsExs w n₀ A e.args):
  SeqStopsK F n Tryz.prog 71 #[.pointer (some ⟨Bt,0,none⟩)] (fun x:ExN=> #[x.v]) (KeepC X) (fun ys=>ys.map ExN.ex=exList e) (fun pre=>pre.map ExN.ex<+:exList e) (exSize e) w:=fun l J Jx W hW hJ _ hY h0=>
 all1_in F hd n hf hf1 hro l Bt n₀ W.heap.size X (fun b hb=>⟨(hX b hb).1,Nat.lt_of_lt_of_le (hX b hb).2 hW.size⟩) J Jx hJ e A cap hok hcap hmax (Nat.le_trans hn₀ hW.size) hY W (Nat.le_refl _)
  (fun j u hu=>(hW.cell (p:=⟨Bt,j,none⟩) hBt).trans (hc j u hu)) (hx.below (hW.mono hn₀)) h0
open Go.RowKit Go.Shelf Nm
theorem keepC_putObj {X:Nat→Prop} (W:World) (l:Nat) (o o':Obj) (h:W.heap[l]? =some o) (ho:o.isCells=false):KeepC X W (W.putObj l o'):=by
 refine ⟨(grownBy_putObj' W l o').size,fun b cs t f _ hb=>((grownBy_putObj' W l o').block b (Array.getElem?_eq_some_iff.1 hb).1 (fun e=>?_)).trans hb⟩
 injection e with e
 subst e
 rw[hb] at h
 injection h with h
 subst h
 cases ho
theorem Row.own {W W':World} {b:Nat} {cs:Array Value} {t:TypeId} {row:Option Nat} (h:Row W b cs t) (hg:W.grownBy W' row) (hr:∀r,row=some r→∃o:Obj,W.heap[r]? =some o∧o.isCells=false):Row W' b cs t:=by
 refine (hg.block b h.lt fun e=>?_).trans h
 obtain ⟨o,ho,hc⟩:=hr b e.symm
 rw[show W.heap[b]? =_ from h] at ho
 cases ho
 cases hc
theorem keeps_below {W W':World} (h:Below W.heap.size W W'):KeepsOthers W W':=⟨h.size,fun k _ hk _=>(h.block k (Array.getElem?_eq_some_iff.1 hk).1).trans hk⟩
theorem right_any (e:Ex) (A:Option Addr) (cap:Nat) (w:World) (hok:ExOk e) (hcap:e.args.length≤cap) (hmax:cap≤maxLen) (hx:IsExs w w.heap.size A e.args) (hs:exSize e≤1000000):
  Calls Tryz.prog 191 #[exV e A cap] w fun r w'=>r= .returned (.bool (exRight e))∧Below w.heap.size w w':=by
 refine (callsIn_wide (n:=9)).1 ?_
 have HE:=Lib.hid (show exRight e=((exList e).all plainB && decide (exHeight e≤30)) from rfl)
 refine callsIn_of_wp_marks Tryz.func191 rfl trivial ?_ rfl
 simp only[Tryz.ntmps191,List.size_toArray,List.length_cons,List.length_nil,Nat.reduceAdd,Nat.reduceSub,Array.replicate_succ,Array.replicate_zero,List.push_toArray,List.append_toArray,List.nil_append,List.cons_append]
 gi_wp2_with (refine ⟨trivial,?_⟩;gi_at_call 40;refine (all_in _ _ trivial rfl _ _ _ _).mono ?_;rintro r w' ⟨rfl,rfl⟩)
 have bE:Row (((w.alloc (.cells #[.int .i64 e.op,.string e.name,.int .i64 e.n,.slice A e.args.length cap,.int .i64 e.line,.int .i64 e.col] 63)).alloc (.cells #[.bool false] 4)).alloc (.cells #[.int .i64 e.op,.string e.name,.int .i64 e.n,.slice A e.args.length cap,.int .i64 e.line,.int .i64 e.col] 63)) w.heap.size #[.int .i64 e.op,.string e.name,.int .i64 e.n,.slice A e.args.length cap,.int .i64 e.line,.int .i64 e.col] 63:=((Row.new w _ _).alloc _).alloc _
 have bR:Row (((w.alloc (.cells #[.int .i64 e.op,.string e.name,.int .i64 e.n,.slice A e.args.length cap,.int .i64 e.line,.int .i64 e.col] 63)).alloc (.cells #[.bool false] 4)).alloc (.cells #[.int .i64 e.op,.string e.name,.int .i64 e.n,.slice A e.args.length cap,.int .i64 e.line,.int .i64 e.col] 63)) (w.heap.size+1) #[.bool false] 4:=by
  have:=(Row.new (w.alloc (.cells #[.int .i64 e.op,.string e.name,.int .i64 e.n,.slice A e.args.length cap,.int .i64 e.line,.int .i64 e.col] 63)) #[.bool false] 4).alloc (.cells #[.int .i64 e.op,.string e.name,.int .i64 e.n,.slice A e.args.length cap,.int .i64 e.line,.int .i64 e.col] 63)
  rwa [World.size_alloc] at this
 have bA:Row (((w.alloc (.cells #[.int .i64 e.op,.string e.name,.int .i64 e.n,.slice A e.args.length cap,.int .i64 e.line,.int .i64 e.col] 63)).alloc (.cells #[.bool false] 4)).alloc (.cells #[.int .i64 e.op,.string e.name,.int .i64 e.n,.slice A e.args.length cap,.int .i64 e.line,.int .i64 e.col] 63)) (w.heap.size+2) #[.int .i64 e.op,.string e.name,.int .i64 e.n,.slice A e.args.length cap,.int .i64 e.line,.int .i64 e.col] 63:=by
  have:=Row.new ((w.alloc (.cells #[.int .i64 e.op,.string e.name,.int .i64 e.n,.slice A e.args.length cap,.int .i64 e.line,.int .i64 e.col] 63)).alloc (.cells #[.bool false] 4)) #[.int .i64 e.op,.string e.name,.int .i64 e.n,.slice A e.args.length cap,.int .i64 e.line,.int .i64 e.col] 63
  rwa [World.size_alloc,World.size_alloc] at this
 have hB0:Below w.heap.size w (((w.alloc (.cells #[.int .i64 e.op,.string e.name,.int .i64 e.n,.slice A e.args.length cap,.int .i64 e.line,.int .i64 e.col] 63)).alloc (.cells #[.bool false] 4)).alloc (.cells #[.int .i64 e.op,.string e.name,.int .i64 e.n,.slice A e.args.length cap,.int .i64 e.line,.int .i64 e.col] 63)):=(((Below.refl _ w).alloc (Nat.le_refl _) _).alloc (by simp) _).alloc (by simp;omega) _
 have hsz:(((w.alloc (.cells #[.int .i64 e.op,.string e.name,.int .i64 e.n,.slice A e.args.length cap,.int .i64 e.line,.int .i64 e.col] 63)).alloc (.cells #[.bool false] 4)).alloc (.cells #[.int .i64 e.op,.string e.name,.int .i64 e.n,.slice A e.args.length cap,.int .i64 e.line,.int .i64 e.col] 63)).heap.size=w.heap.size+3:=by simp
 obtain ⟨W0,hW0⟩:∃W0,((w.alloc (.cells #[.int .i64 e.op,.string e.name,.int .i64 e.n,.slice A e.args.length cap,.int .i64 e.line,.int .i64 e.col] 63)).alloc (.cells #[.bool false] 4)).alloc (.cells #[.int .i64 e.op,.string e.name,.int .i64 e.n,.slice A e.args.length cap,.int .i64 e.line,.int .i64 e.col] 63)=W0:=⟨_,rfl⟩
 rw[hW0] at bE bR bA hB0 hsz⊢
 clear hW0
 refine wpIn_rangeFunc_ownH rfl (by decide) (gf:=71) (lb:= #[.pointer (some ⟨w.heap.size+2,0,none⟩)]) rfl trivial (enters_of Tryz.func71 (by kernel_rfl) rfl)
  (all_stops _ rfl _ trivial trivial rfl (w.heap.size+2) w.heap.size (fun _=>False) e A cap W0 (fun _ h=>h.elim) hok hcap hmax (by omega) (by omega) (fun j u hu=>by rw[bA.cell];simpa[exCells] using hu) (hx.below hB0))
  (fun h k=>h.trans k) (fun W l o o' _ h ho _=>keepC_putObj W l o o' h ho) (Below.refl _ _) (fun _=>rfl)
  (fun pre W=>((Row W w.heap.size #[.int .i64 e.op,.string e.name,.int .i64 e.n,.slice A e.args.length cap,.int .i64 e.line,.int .i64 e.col] 63∧Row W (w.heap.size+1) #[.bool false] 4)∧Hid (∀x∈pre,plainB x.ex=true))∧Below w.heap.size w W)
  (fun c pre W=>((Row W w.heap.size #[.int .i64 e.op,.string e.name,.int .i64 e.n,.slice A e.args.length cap,.int .i64 e.line,.int .i64 e.col] 63∧Row W (w.heap.size+1) #[.bool false] 4)∧Hid (c= .ret∧∃x∈pre,plainB x.ex=false))∧Below w.heap.size w W)
  (OwnFrom.and (OwnFrom.and (OwnFrom.and (fun s X Y row hs hg hr=>hs.own hg (fun r e=>(hr r e).2)) (fun s X Y row hs hg hr=>hs.own hg (fun r e=>(hr r e).2))) (ownFrom_pure _ _)) (ownFrom_below (Nat.le_refl _) (by omega)))
  (fun c=>OwnFrom.and (OwnFrom.and (OwnFrom.and (fun s X Y row hs hg hr=>hs.own hg (fun r e=>(hr r e).2)) (fun s X Y row hs hg hr=>hs.own hg (fun r e=>(hr r e).2))) (ownFrom_pure _ _)) (ownFrom_below (Nat.le_refl _) (by omega)))
  ⟨⟨⟨bE,bR⟩,fun x h=>absurd h (by simp)⟩,hB0⟩
  (fun x a' W=>∃Bx,w.heap.size+1<Bx∧Row W Bx #[.int .i64 x.ex.op,.string x.ex.name,.int .i64 x.ex.n,.slice x.A x.ex.args.length x.cap,.int .i64 x.ex.line,.int .i64 x.ex.col] 63∧a'={tmps:= #[exV e A cap,.pointer (some ⟨w.heap.size,0,none⟩),.pointer (some ⟨w.heap.size+1,0,none⟩),.pointer (some ⟨Bx,0,none⟩),exV e A cap,.func (.func 71) #[] #[.pointer (some ⟨w.heap.size+2,0,none⟩)],x.v,undef,undef,undef,undef,undef,undef],defers:=[]})
  (fun x a' _ X Y row hs hg hr=>by obtain ⟨Bx,h1,h2,h3⟩:=hs;exact ⟨Bx,h1,h2.own hg (fun r e=>(hr r e).2),h3⟩)
  ?assign ?body ?done ?stop
 case assign=>
  rintro l pre x W K ⟨⟨⟨bE1,bR1⟩,HP⟩,hB1⟩ hK
  gi_wp2
  exact hK _ _ ((KeepsOthers.alloc _ _).from _) (KeepC.alloc _ _ _) ⟨⟨⟨bE1.alloc _,bR1.alloc _⟩,HP⟩,hB1.alloc hB1.size _⟩ ⟨W.heap.size,bR1.lt,Row.new W _ _,rfl⟩
 case body=>
  rintro l pre x a' W hl _ ⟨⟨⟨bE1,bR1⟩,HP⟩,hB1⟩ ⟨Bx,hBx,bX,rfl⟩ hlt
  have c0:=bX.cell 0
  have c1:=bX.cell 1
  have c2:=bX.cell 2
  have c3:=bX.cell 3
  have c4:=bX.cell 4
  have c5:=bX.cell 5
  have fR:=bR1.frozen 0
  have cR:=bR1.cell 0
  simp only[List.getElem?_toArray,List.getElem?_cons_zero,List.getElem?_cons_succ] at c0 c1 c2 c3 c4 c5 cR
  gi_wp2_with (refine ⟨trivial,?_⟩;gi_at_call 199;refine (CallsIn.inRound l (callsIn_wide.2 (plain_any x.ex x.A x.cap _ x.ok (by have:=x.len;have:=x.max;omega)))).mono ?_;rintro r W2 ⟨rfl,hb2⟩;have bR2:=bR1.below hb2 bR1.lt;have fR2:=bR2.frozen 0;have cR2:=bR2.cell 0;simp only[List.getElem?_toArray,List.getElem?_cons_zero] at cR2;generalize hP:plainB x.ex=P at*;have HX:=Lib.hid hP;clear hP;cases P)
  ·refine ⟨((keeps_below hb2).trans (KeepsOthers.setCell _ _ _)).from _,⟨⟨⟨(bE1.below hb2 bE1.lt).far (by simp) _,bR2.set 0 _⟩,⟨rfl,x,by simp,HX.out⟩⟩,?_⟩⟩
   exact (hB1.trans (hb2.mono hB1.size)).setCell (p:=⟨w.heap.size+1,0,none⟩) (by simp) _
  ·exact ⟨(keeps_below hb2).from _,KeepC.below hb2,⟨⟨⟨bE1.below hb2 bE1.lt,bR2⟩,fun y hy=>(List.mem_append.1 hy).elim (HP.out y) (fun h=>by simp at h;rw[h];exact HX.out)⟩,hB1.trans (hb2.mono hB1.size)⟩⟩
 case done=>
  rintro D ys W hD hys ⟨⟨⟨bE1,bR1⟩,HP⟩,hB1⟩ hK
  have HF:=Lib.hid (show exRight e=decide (exHeight e≤30) from by
   rw[HE.out,show (exList e).all plainB=true from List.all_eq_true.2 fun y hy=>by
    rw[←hys] at hy
    obtain ⟨x,hx,rfl⟩:=List.mem_map.1 hy
    exact HP.out x hx,Bool.true_and])
  have c0:=bE1.cell 0
  have c1:=bE1.cell 1
  have c2:=bE1.cell 2
  have c3:=bE1.cell 3
  have c4:=bE1.cell 4
  have c5:=bE1.cell 5
  simp only[List.getElem?_toArray,List.getElem?_cons_zero,List.getElem?_cons_succ] at c0 c1 c2 c3 c4 c5
  gi_wp2_with (refine ⟨trivial,?_⟩;gi_at_call 113;refine (callsIn_wide.2 (height_any e A cap _ hcap hmax ((hx.below hB1).more hB1.size) hs)).mono ?_;rintro r W2 ⟨rfl,hb2⟩;have bR2:=bR1.below hb2 bR1.lt;have fR2:=bR2.frozen 0;have cR2:=bR2.cell 0;simp only[List.getElem?_toArray,List.getElem?_cons_zero] at cR2;have hK2:=(keeps_below hb2).same D _ hK rfl)
  have hK3:(W2.setCell ⟨w.heap.size+1,0,none⟩ (.bool (decide ((exHeight e:Int)≤30)))).heap[D]? =some (.deferred (some [])):=(KeepsOthers.setCell W2 _ _).same D _ hK2 rfl
  refine ⟨by simp,.inl ⟨_,_,rfl,run_takeDeferred hK3,?_⟩⟩
  have hc5:=cell_kept ((bR2.set 0 (.bool (decide ((exHeight e:Int)≤30)))).cell 0) (grownBy_putObj' _ D (.deferred none)) (fun r e=>by cases e;exact ⟨_,hK3,rfl⟩)
  refine ⟨.bool (decide ((exHeight e:Int)≤30)),?_,by rw[HF.out];congr 2;rw[Bool.eq_iff_iff];simp;omega,((hB1.trans (hb2.mono hB1.size)).setCell (p:=⟨w.heap.size+1,0,none⟩) (by simp) _).trans (belowK_b (w:=w) (Nat.le_refl _) _ D _ _ (by omega) hK3 rfl rfl)⟩
  simp[results,Tryz.f191,go_sem,hc5]
 case stop=>
  rintro D c pre W hD hpre ⟨⟨⟨bE1,bR1⟩,HP⟩,hB1⟩ hK
  obtain ⟨rfl,x,hxp,hxf⟩:=HP.out
  have HF:=Lib.hid (show exRight e=false from by
   rw[HE.out,show (exList e).all plainB=false from List.all_eq_false.2 ⟨x.ex,hpre.subset (List.mem_map_of_mem hxp),by simp[hxf]⟩,Bool.false_and])
  clear HP hxf hxp
  gi_wp2
  refine ⟨by simp,.inl ⟨_,_,rfl,run_takeDeferred hK,?_⟩⟩
  have hc5:=cell_kept (bR1.cell 0) (grownBy_putObj' _ D (.deferred none)) (fun r e=>by cases e;exact ⟨_,hK,rfl⟩)
  refine ⟨.bool false,?_,by rw[HF.out],hB1.trans (belowK_b (w:=w) (Nat.le_refl _) W D _ _ (by omega) hK rfl rfl)⟩
  simp[results,Tryz.f191,go_sem,hc5]
end Go.Proofs.YtdkgkacnjdnpoaaGreat
