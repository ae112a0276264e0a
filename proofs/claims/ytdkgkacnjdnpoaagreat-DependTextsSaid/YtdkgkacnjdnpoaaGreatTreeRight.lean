/-
  The iterator over an expression and all within it: the contracts of tree.walk, All. The iterator over an expression, once more: rows of cells may turn by their types. What is plain of an expression, by the document: the contract of tompionref12.plain. Which expressions are right, by the document: the contract of tompionref12.Right. Which expressions are right: the contract of tree.Right.
-/
import Derived.Test.YtdkgkacnjdnpoaaGreatZz
import Derived.RangeFuncNested
import Derived.RangeFuncBound
import Derived.RangeFuncCalls
import Derived.RangeFuncLeaves
import Derived.Shelf.Abstract
import Derived.Shelf.RegionOpen
import Derived.OwnWalkIn
import Derived.TacticsInMore
import Derived.LoopNIn
import Derived.LoopIn
import Derived.Test.YtdkgkacnjdnpoaaGreatFltQ
import Derived.Test.YtdkgkacnjdnpoaaGreatTreePlain
set_option maxHeartbeats 4000000
set_option maxRecDepth 100000
namespace Go.Proofs.YtdkgkacnjdnpoaaGreat
open Go.RowKit Go.Shelf
attribute [local go_sem] Oper.semAt_some
theorem room_of_none {F:Fence} (hd:F.depth=none) (k:Nat):F.room k:=fun d h=>by rw[hd] at h;cases h
theorem roundIn_any {F:Fence} (hd:F.depth=none) {m m':Nat} {P:Program} {l:Nat} {f:FuncId} {tmps:Array Value} {assign body:Code} {w:World} {R:Ending→World→Prop}
  (h:RoundIn F m P l f tmps assign body w R):RoundIn F m' P l f tmps assign body w R:=⟨h.1,fun c cs _=>h.2 c cs (room_of_none hd _)⟩
theorem yieldAt_any {F:Fence} (hd:F.depth=none) {m:Nat} (m':Nat) {P:Program} {l:Nat} {args:Array Value} {W:World} {R:Ending→World→Prop} (h:YieldAt F m P l args W R):YieldAt F m' P l args W R:=by
 obtain ⟨fn,tmps,assign,body,hy,hR⟩:=h
 exact ⟨fn,tmps,assign,body,hy,roundIn_any hd hR⟩
structure ExN where
 ex:Ex
 A:Option Addr
 cap:Nat
 ok:ExOk ex
 len:ex.args.length≤cap
 max:cap≤maxLen
abbrev ExN.v (x:ExN):Value:=exV x.ex x.A x.cap
theorem abide_alloc {β:Type} {B:Nat} {J:β→World→Prop} (h:AbidesFrom B J) {s:β} {W:World} (hs:J s W) (o:Obj):J s (W.alloc o):=
 h s W _ none hs (World.grownBy_alloc W o none) (fun _ e=>by cases e)
theorem lTo_pre (e:Ex) (k:Nat):lTo e k<+:exList e:=by
 rw[exList_eq];unfold lTo
 refine ⟨((e.args.drop k).map exList).flatten,?_⟩
 rw[List.cons_append,←List.flatten_append,←List.map_append,List.take_append_drop]
theorem wlkIn (F:Fence) (hd:F.depth=none) (hf:F.fn 72) (hro:F.round=none) (l N n₀ B0:Nat) (X:Nat→Prop) (hX:∀b,X b→n₀≤b∧b<B0) (J Jx:List ExN→World→Prop) (hJ:AbidesFrom B0 J)
  (hY:∀m pre x W,J pre W→pre.length<N→YieldAt F m Tryz.prog l #[x.v] W fun e W'=>(e= .returned (.bool true)∧J (pre++ [x]) W'∧KeepC X W W')∨(e= .returned (.bool false)∧Jx (pre++ [x]) W')) (e:Ex):
  ∀(n:Nat) (A:Option Addr) (cap:Nat) (pre:List ExN) (W:World),ExOk e→e.args.length≤cap→cap≤maxLen→n₀≤B0→B0≤W.heap.size→IsExs W n₀ A e.args→J pre W→pre.length+exSize e≤N→
   CallsIn F n Tryz.prog 72 #[exV e A cap,.func (.yield l) #[] #[]] W fun r W'=>
    (r= .returned (.bool true)∧∃q,q.map ExN.ex=exList e∧J (pre++q) W'∧KeepC X W W')∨(r= .returned (.bool false)∧∃q,q.map ExN.ex<+:exList e∧Jx (pre++q) W'):=by
 induction e using Ex.ind with
 |h e ih=>
  intro n A cap pre W hok hcap hmax hn0 hB0 hx hj hN
  have hdd:∀k:Nat,(F.depth.isSome=true→1≤k):=fun k h=>by rw[hd] at h;cases h
  have HI:=Lib.hid ih
  have HX:=Lib.hid hX
  have hXW:¬X W.heap.size:=fun h=>by have:=(hX _ h).2;omega
  have HE:=Lib.hid (lTo_end e)
  have hpos:=exSize_pos e
  have HN:=Lib.hid hN
  clear ih hX
  obtain ⟨fn,tmps,assign,body,hy,hR⟩:=hY (n-1) pre ⟨e,A,cap,hok,hcap,hmax⟩ (W.alloc (.cells #[.int .i64 e.op,.string e.name,.int .i64 e.n,.slice A e.args.length cap,.int .i64 e.line,.int .i64 e.col] 63)) (abide_alloc hJ hj _) (by omega)
  replace hR:=hR.mono (R':=fun r W2=>(r= .returned (.bool true)∧J (pre++ [⟨e,A,cap,hok,hcap,hmax⟩]) W2∧KeepC X (W.alloc (.cells #[.int .i64 e.op,.string e.name,.int .i64 e.n,.slice A e.args.length cap,.int .i64 e.line,.int .i64 e.col] 63)) W2∧W2.cell? ⟨W.heap.size,3,none⟩=some (.slice A e.args.length cap))∨(r= .returned (.bool false)∧Jx (pre++ [⟨e,A,cap,hok,hcap,hmax⟩]) W2))
   (fun r W2 h=>h.elim (fun ⟨h1,h2,h3⟩=> .inl ⟨h1,h2,h3,(exBoxC h3 hXW).2.2.2.1⟩) .inr)
  unfold maxLen at hmax
  refine callsIn_of_wp Tryz.func72 rfl hf ?_ hro
  simp only[Tryz.ntmps72,List.size_toArray,List.length_cons,List.length_nil,Nat.reduceAdd,Nat.reduceSub,Array.replicate_succ,Array.replicate_zero,List.push_toArray,List.append_toArray,List.nil_append,List.cons_append]
  gi_wp2_with ((try refine ⟨hdd _,?_⟩);refine hR.mono ?_;clear hR;rintro r W2 (⟨rfl,hJ2,hK2,c3⟩|⟨rfl,hx2⟩))
  ·gi_loopw [14] (fun i wr=>∃(k:Nat) (q:List ExN),k≤e.args.length∧i= .int .i64 k∧Hid (q.map ExN.ex=lTo e k)∧J (pre++q) wr∧KeepC X (W.alloc (.cells #[.int .i64 e.op,.string e.name,.int .i64 e.n,.slice A e.args.length cap,.int .i64 e.line,.int .i64 e.col] 63)) wr) (fun i _=>e.args.length-(intOf i).toNat)
   case atStart=>exact ⟨0,[⟨e,A,cap,hok,hcap,by unfold maxLen;omega⟩],Nat.zero_le _,rfl,rfl,hJ2,hK2⟩
   case round=>
    obtain ⟨k,q,hk,rfl,HQ,hJr,hKr⟩:=hrel
    have hK0:KeepC X W wr:=(KeepC.alloc X W _).trans hKr
    have hszr:=hKr.size
    rw[World.size_alloc] at hszr
    by_cases hlt:k<e.args.length
    ·obtain ⟨b,off,x,A',cap',rfl,hb,hxk,hxm,hok',hcap',hmax',hx',d0,d1,d2,d3,d4,d5⟩:=(hx.keepS (fun p u hp hc=>hK0.cell (fun h=>by have:=(HX.out _ h).1;omega) hc)).at_ hlt
     have HT:=Lib.hid (lTo_succ hxk)
     have hlq:Hid ((pre++q).length+exSize x≤N):=by
      have h1:=lTo_le e (k+1)
      rw[HT.out,List.length_append,←HQ.out,List.length_map] at h1
      have h2:=HN.out
      show _≤_
      rw[List.length_append]
      unfold exSize at h1 h2⊢
      omega
     have HC:=HI.out x hxm (n-1) A' cap' (pre++q) (wr.alloc (.cells #[.int .i64 x.op,.string x.name,.int .i64 x.n,.slice A' x.args.length cap',.int .i64 x.line,.int .i64 x.col] 63)) hok' hcap' hmax' hn0 (by simp;omega) (hx'.keepS (fun p u hp hc=>(KeepC.alloc (fun _=>False) wr _).cell (fun h=>h) hc)) (abide_alloc hJ hJr _) hlq.out
     have HC':=Lib.hid HC
     clear hxk hxm HC
     gi_wp2_with ((try refine ⟨hdd _,?_⟩);gi_at_call 72;refine HC'.out.mono ?_;clear HC';rintro r W3 (⟨rfl,q3,hq3,hJ3,hK3⟩|⟨rfl,q3,hq3,hx3⟩))
     ·go_roundw
      case rel=>exact ⟨k+1,q++q3,by omega,by go_num,by show _=_;rw[List.map_append,HQ.out,hq3,HT.out],by rw[←List.append_assoc];exact hJ3,hKr.trans ((KeepC.alloc X wr _).trans hK3)⟩
      case measure=>simp[intOf];omega
     ·go_ret
      refine .inr ⟨rfl,q++q3,?_,by rw[←List.append_assoc];exact hx3⟩
      rw[List.map_append,HQ.out]
      exact ((List.prefix_append_right_inj _).2 hq3).trans (HT.out▸lTo_pre e (k+1))
    ·obtain rfl:k=e.args.length:=by omega
     gi_wp2
     go_ret
     exact .inl ⟨rfl,q,by rw[HQ.out,←HE.out],hJr,hK0⟩
  ·go_ret
   exact .inr ⟨rfl,_,by rw[exList_eq];exact ⟨_,rfl⟩,hx2⟩
theorem all1_in (F:Fence) (hd:F.depth=none) (n:Nat) (hf:F.fn 72) (hf1:F.fn 71) (hro:F.round=none) (l Bt n₀ B0:Nat) (X:Nat→Prop) (hX:∀b,X b→n₀≤b∧b<B0) (J Jx:List ExN→World→Prop) (hJ:AbidesFrom B0 J)
  (e:Ex) (A:Option Addr) (cap:Nat) (hok:ExOk e) (hcap:e.args.length≤cap) (hmax:cap≤maxLen) (hn0:n₀≤B0)
  (hY:∀pre x W,J pre W→pre.length<exSize e→YieldAt F (n-1) Tryz.prog l #[x.v] W fun e W'=>(e= .returned (.bool true)∧J (pre++ [x]) W'∧KeepC X W W')∨(e= .returned (.bool false)∧Jx (pre++ [x]) W'))
  (W:World) (hB0:B0≤W.heap.size) (hc:∀j u,(exCells e A cap)[j]? =some u→W.cell? ⟨Bt,j,none⟩=some u) (hx:IsExs W n₀ A e.args) (h0:J [] W):
  CallsIn F n Tryz.prog 71 #[.func (.yield l) #[] #[],.pointer (some ⟨Bt,0,none⟩)] W fun r W'=>(∃v,r= .returned v)∧
   ((∃ys,ys.map ExN.ex=exList e∧J ys W')∨(∃pre,pre.map ExN.ex<+:exList e∧Jx pre W')):=by
 have hdd:∀k:Nat,(F.depth.isSome=true→1≤k):=fun k h=>by rw[hd] at h;cases h
 have hp:=wlkIn F hd hf hro l (exSize e) n₀ B0 X hX J Jx hJ (fun m pre x W hj hl=>yieldAt_any hd m (hY pre x W hj hl)) e (n-1) A cap [] W hok hcap hmax hn0 hB0 hx h0 (by simp)
 refine' zq11
theorem all_in (F:Fence) (n:Nat) (hf:F.fn 40) (hro:F.round=none) (e:Ex) (A:Option Addr) (cap:Nat) (W:World):
  CallsIn F n Tryz.prog 40 #[exV e A cap] W fun r w'=>r= .returned (.func (.func 71) #[] #[.pointer (some ⟨W.heap.size,0,none⟩)])∧w'=W.alloc (.cells #[.int .i64 e.op,.string e.name,.int .i64 e.n,.slice A e.args.length cap,.int .i64 e.line,.int .i64 e.col] 63):=by
 refine callsIn_of_wp Tryz.func40 rfl hf ?_ hro
 simp only[Tryz.ntmps40,List.size_toArray,List.length_cons,List.length_nil,Nat.reduceAdd,Nat.reduceSub,Array.replicate_succ,Array.replicate_zero,List.push_toArray,List.append_toArray,List.nil_append,List.cons_append]
 gi_wp2
 go_ret
 exact ⟨rfl,rfl⟩
theorem all_stops (F:Fence) (hd:F.depth=none) (n:Nat) (hf:F.fn 72) (hf1:F.fn 71) (hro:F.round=none) (Bt n₀:Nat) (X:Nat→Prop) (e:Ex) (A:Option Addr) (cap:Nat) (w:World) (hX:∀b,X b→n₀≤b∧b<w.heap.size)
  (hok:ExOk e) (hcap:e.args.length≤cap) (hmax:cap≤maxLen) (hBt:Bt<w.heap.size) (hn₀:n₀≤w.heap.size) (hc:∀j u,(exCells e A cap)[j]? =some u→w.cell? ⟨Bt,j,none⟩=some u) (hx:IsExs w n₀ A e.args):
  SeqStopsK F n Tryz.prog 71 #[.pointer (some ⟨Bt,0,none⟩)] (fun x:ExN=> #[x.v]) (KeepC X) (fun ys=>ys.map ExN.ex=exList e) (fun pre=>pre.map ExN.ex<+:exList e) (exSize e) w:=fun l J Jx W hW hJ _ hY h0=>
 all1_in F hd n hf hf1 hro l Bt n₀ W.heap.size X (fun b hb=>⟨(hX b hb).1,Nat.lt_of_lt_of_le (hX b hb).2 hW.size⟩) J Jx hJ e A cap hok hcap hmax (Nat.le_trans hn₀ hW.size) hY W (Nat.le_refl _)
  (fun j u hu=>(hW.cell (p:=⟨Bt,j,none⟩) hBt).trans (hc j u hu)) (hx.below (hW.mono hn₀)) h0
structure KeepT (X:Nat→TypeId→Prop) (W W':World):Prop where
 size:W.heap.size≤W'.heap.size
 same:∀b cs t f,¬X b t→W.heap[b]? =some (.cells cs t f)→W'.heap[b]? =some (.cells cs t f)
theorem KeepT.refl (X:Nat→TypeId→Prop) (W:World):KeepT X W W:=⟨Nat.le_refl _,fun _ _ _ _ _ h=>h⟩
theorem KeepT.trans {X:Nat→TypeId→Prop} {A B C:World} (h:KeepT X A B) (k:KeepT X B C):KeepT X A C:=⟨Nat.le_trans h.size k.size,fun b cs t f hb hc=>k.same b cs t f hb (h.same b cs t f hb hc)⟩
theorem KeepT.below {X:Nat→TypeId→Prop} {W W':World} (h:Below W.heap.size W W'):KeepT X W W':=⟨h.size,fun b _ _ _ _ hc=>(h.block b (Array.getElem?_eq_some_iff.1 hc).1).trans hc⟩
theorem KeepT.alloc (X:Nat→TypeId→Prop) (W:World) (o:Obj):KeepT X W (W.alloc o):=KeepT.below ((Below.refl _ _).alloc (Nat.le_refl _) _)
theorem KeepT.cell {X:Nat→TypeId→Prop} {W W':World} (h:KeepT X W W') {p:Addr} {u:Value} (hp:∀t,¬X p.block t) (hc:W.cell? p=some u):W'.cell? p=some u:=by
 simp only[World.cell?] at hc⊢
 cases hb:W.heap[p.block]? with
 |none=>rw[hb] at hc;cases hc
 |some o=>
  rw[hb] at hc
  cases o with
  |cells cs t f=>rw[h.same p.block cs t f (hp t) hb];exact hc
  |_=>cases hc
theorem exBoxT {X:Nat→TypeId→Prop} {w wr:World} {e:Ex} {A:Option Addr} {cap:Nat} (hb:KeepT X (w.alloc (.cells #[.int .i64 e.op,.string e.name,.int .i64 e.n,.slice A e.args.length cap,.int .i64 e.line,.int .i64 e.col] 63)) wr) (hX:¬X w.heap.size 63):
  wr.cell? ⟨w.heap.size,0,none⟩=some (.int .i64 e.op)∧wr.cell? ⟨w.heap.size,1,none⟩=some (.string e.name)∧wr.cell? ⟨w.heap.size,2,none⟩=some (.int .i64 e.n)∧
   wr.cell? ⟨w.heap.size,3,none⟩=some (.slice A e.args.length cap)∧wr.cell? ⟨w.heap.size,4,none⟩=some (.int .i64 e.line)∧wr.cell? ⟨w.heap.size,5,none⟩=some (.int .i64 e.col):=by
 have h:=hb.same w.heap.size _ _ _ hX (heap_alloc_new w _)
 refine ⟨?_,?_,?_,?_,?_,?_⟩<;>(rw[cell_of_row _ _ _ _ _ _ h];rfl)
theorem walk_inT (F:Fence) (hd:F.depth=none) (hf:F.fn 72) (hro:F.round=none) (l N n₀ B0:Nat) (X:Nat→TypeId→Prop) (hX:∀b t,X b t→n₀≤b∧(b<B0∨t≠63)) (J Jx:List ExN→World→Prop) (hJ:AbidesFrom B0 J)
  (hY:∀m pre x W,J pre W→pre.length<N→YieldAt F m Tryz.prog l #[x.v] W fun e W'=>(e= .returned (.bool true)∧J (pre++ [x]) W'∧KeepT X W W')∨(e= .returned (.bool false)∧Jx (pre++ [x]) W')) (e:Ex):
  ∀(n:Nat) (A:Option Addr) (cap:Nat) (pre:List ExN) (W:World),ExOk e→e.args.length≤cap→cap≤maxLen→n₀≤B0→B0≤W.heap.size→IsExs W n₀ A e.args→J pre W→pre.length+exSize e≤N→
   CallsIn F n Tryz.prog 72 #[exV e A cap,.func (.yield l) #[] #[]] W fun r W'=>
    (r= .returned (.bool true)∧∃q,q.map ExN.ex=exList e∧J (pre++q) W'∧KeepT X W W')∨(r= .returned (.bool false)∧∃q,q.map ExN.ex<+:exList e∧Jx (pre++q) W'):=by
 induction e using Ex.ind with
 |h e ih=>
  intro n A cap pre W hok hcap hmax hn0 hB0 hx hj hN
  have hdd:∀k:Nat,(F.depth.isSome=true→1≤k):=fun k h=>by rw[hd] at h;cases h
  have HI:=Lib.hid ih
  have HX:=Lib.hid hX
  have hXW:¬X W.heap.size 63:=fun h=>by rcases (hX _ _ h).2 with h|h;omega;exact h rfl
  have HE:=Lib.hid (lTo_end e)
  have hpos:=exSize_pos e
  have HN:=Lib.hid hN
  clear ih hX
  obtain ⟨fn,tmps,assign,body,hy,hR⟩:=hY (n-1) pre ⟨e,A,cap,hok,hcap,hmax⟩ (W.alloc (.cells #[.int .i64 e.op,.string e.name,.int .i64 e.n,.slice A e.args.length cap,.int .i64 e.line,.int .i64 e.col] 63)) (abide_alloc hJ hj _) (by omega)
  replace hR:=hR.mono (R':=fun r W2=>(r= .returned (.bool true)∧J (pre++ [⟨e,A,cap,hok,hcap,hmax⟩]) W2∧KeepT X (W.alloc (.cells #[.int .i64 e.op,.string e.name,.int .i64 e.n,.slice A e.args.length cap,.int .i64 e.line,.int .i64 e.col] 63)) W2∧W2.cell? ⟨W.heap.size,3,none⟩=some (.slice A e.args.length cap))∨(r= .returned (.bool false)∧Jx (pre++ [⟨e,A,cap,hok,hcap,hmax⟩]) W2))
   (fun r W2 h=>h.elim (fun ⟨h1,h2,h3⟩=> .inl ⟨h1,h2,h3,(exBoxT h3 hXW).2.2.2.1⟩) .inr)
  unfold maxLen at hmax
  refine callsIn_of_wp Tryz.func72 rfl hf ?_ hro
  simp only[Tryz.ntmps72,List.size_toArray,List.length_cons,List.length_nil,Nat.reduceAdd,Nat.reduceSub,Array.replicate_succ,Array.replicate_zero,List.push_toArray,List.append_toArray,List.nil_append,List.cons_append]
  gi_wp2_with ((try refine ⟨hdd _,?_⟩);refine hR.mono ?_;clear hR;rintro r W2 (⟨rfl,hJ2,hK2,c3⟩|⟨rfl,hx2⟩))
  ·gi_loopw [14] (fun i wr=>∃(k:Nat) (q:List ExN),k≤e.args.length∧i= .int .i64 k∧Hid (q.map ExN.ex=lTo e k)∧J (pre++q) wr∧KeepT X (W.alloc (.cells #[.int .i64 e.op,.string e.name,.int .i64 e.n,.slice A e.args.length cap,.int .i64 e.line,.int .i64 e.col] 63)) wr) (fun i _=>e.args.length-(intOf i).toNat)
   case atStart=>exact ⟨0,[⟨e,A,cap,hok,hcap,by unfold maxLen;omega⟩],Nat.zero_le _,rfl,rfl,hJ2,hK2⟩
   case round=>
    obtain ⟨k,q,hk,rfl,HQ,hJr,hKr⟩:=hrel
    have hK0:KeepT X W wr:=(KeepT.alloc X W _).trans hKr
    have hszr:=hKr.size
    rw[World.size_alloc] at hszr
    by_cases hlt:k<e.args.length
    ·obtain ⟨b,off,x,A',cap',rfl,hb,hxk,hxm,hok',hcap',hmax',hx',d0,d1,d2,d3,d4,d5⟩:=(hx.keepS (fun p u hp hc=>hK0.cell (fun t h=>by have:=(HX.out _ _ h).1;omega) hc)).at_ hlt
     have HT:=Lib.hid (lTo_succ hxk)
     have hlq:Hid ((pre++q).length+exSize x≤N):=by
      have h1:=lTo_le e (k+1)
      rw[HT.out,List.length_append,←HQ.out,List.length_map] at h1
      have h2:=HN.out
      show _≤_
      rw[List.length_append]
      unfold exSize at h1 h2⊢
      omega
     have HC:=HI.out x hxm (n-1) A' cap' (pre++q) (wr.alloc (.cells #[.int .i64 x.op,.string x.name,.int .i64 x.n,.slice A' x.args.length cap',.int .i64 x.line,.int .i64 x.col] 63)) hok' hcap' hmax' hn0 (by simp;omega) (hx'.keepS (fun p u hp hc=>(KeepT.alloc (fun _ _=>False) wr _).cell (fun _ h=>h) hc)) (abide_alloc hJ hJr _) hlq.out
     have HC':=Lib.hid HC
     clear hxk hxm HC
     gi_wp2_with ((try refine ⟨hdd _,?_⟩);gi_at_call 72;refine HC'.out.mono ?_;clear HC';rintro r W3 (⟨rfl,q3,hq3,hJ3,hK3⟩|⟨rfl,q3,hq3,hx3⟩))
     ·go_roundw
      case rel=>exact ⟨k+1,q++q3,by omega,by go_num,by show _=_;rw[List.map_append,HQ.out,hq3,HT.out],by rw[←List.append_assoc];exact hJ3,hKr.trans ((KeepT.alloc X wr _).trans hK3)⟩
      case measure=>simp[intOf];omega
     ·go_ret
      refine .inr ⟨rfl,q++q3,?_,by rw[←List.append_assoc];exact hx3⟩
      rw[List.map_append,HQ.out]
      exact ((List.prefix_append_right_inj _).2 hq3).trans (HT.out▸lTo_pre e (k+1))
    ·obtain rfl:k=e.args.length:=by omega
     gi_wp2
     go_ret
     exact .inl ⟨rfl,q,by rw[HQ.out,←HE.out],hJr,hK0⟩
  ·go_ret
   exact .inr ⟨rfl,_,by rw[exList_eq];exact ⟨_,rfl⟩,hx2⟩
theorem all1_inT (F:Fence) (hd:F.depth=none) (n:Nat) (hf:F.fn 72) (hf1:F.fn 71) (hro:F.round=none) (l Bt n₀ B0:Nat) (X:Nat→TypeId→Prop) (hX:∀b t,X b t→n₀≤b∧(b<B0∨t≠63)) (J Jx:List ExN→World→Prop) (hJ:AbidesFrom B0 J)
  (e:Ex) (A:Option Addr) (cap:Nat) (hok:ExOk e) (hcap:e.args.length≤cap) (hmax:cap≤maxLen) (hn0:n₀≤B0)
  (hY:∀pre x W,J pre W→pre.length<exSize e→YieldAt F (n-1) Tryz.prog l #[x.v] W fun e W'=>(e= .returned (.bool true)∧J (pre++ [x]) W'∧KeepT X W W')∨(e= .returned (.bool false)∧Jx (pre++ [x]) W'))
  (W:World) (hB0:B0≤W.heap.size) (hc:∀j u,(exCells e A cap)[j]? =some u→W.cell? ⟨Bt,j,none⟩=some u) (hx:IsExs W n₀ A e.args) (h0:J [] W):
  CallsIn F n Tryz.prog 71 #[.func (.yield l) #[] #[],.pointer (some ⟨Bt,0,none⟩)] W fun r W'=>(∃v,r= .returned v)∧
   ((∃ys,ys.map ExN.ex=exList e∧J ys W')∨(∃pre,pre.map ExN.ex<+:exList e∧Jx pre W')):=by
 have hdd:∀k:Nat,(F.depth.isSome=true→1≤k):=fun k h=>by rw[hd] at h;cases h
 have hp:=walk_inT F hd hf hro l (exSize e) n₀ B0 X hX J Jx hJ (fun m pre x W hj hl=>yieldAt_any hd m (hY pre x W hj hl)) e (n-1) A cap [] W hok hcap hmax hn0 hB0 hx h0 (by simp)
 refine' zq11
theorem all_stopsT (F:Fence) (hd:F.depth=none) (n:Nat) (hf:F.fn 72) (hf1:F.fn 71) (hro:F.round=none) (Bt n₀:Nat) (X:Nat→TypeId→Prop) (e:Ex) (A:Option Addr) (cap:Nat) (w:World) (hX:∀b t,X b t→n₀≤b∧(b<w.heap.size∨t≠63))
  (hok:ExOk e) (hcap:e.args.length≤cap) (hmax:cap≤maxLen) (hBt:Bt<w.heap.size) (hn₀:n₀≤w.heap.size) (hc:∀j u,(exCells e A cap)[j]? =some u→w.cell? ⟨Bt,j,none⟩=some u) (hx:IsExs w n₀ A e.args):
  SeqStopsK F n Tryz.prog 71 #[.pointer (some ⟨Bt,0,none⟩)] (fun x:ExN=> #[x.v]) (KeepT X) (fun ys=>ys.map ExN.ex=exList e) (fun pre=>pre.map ExN.ex<+:exList e) (exSize e) w:=fun l J Jx W hW hJ _ hY h0=>
 all1_inT F hd n hf hf1 hro l Bt n₀ W.heap.size X (fun b t hb=>⟨(hX b t hb).1,(hX b t hb).2.elim (fun h=> .inl (Nat.lt_of_lt_of_le h hW.size)) .inr⟩) J Jx hJ e A cap hok hcap hmax (Nat.le_trans hn₀ hW.size) hY W (Nat.le_refl _)
  (fun j u hu=>(hW.cell (p:=⟨Bt,j,none⟩) hBt).trans (hc j u hu)) (hx.below (hW.mono hn₀)) h0
open Go.RowKit _root_.Go.Proofs.YtdkgkacnjdnpoaaGreat.Nm
noncomputable def exRight (e:Ex):Bool:=(exList e).all plainB && decide (exHeight e≤30)
structure Small (e:Ex):Prop where
 size:exSize e≤900
 names:∀x∈exList e,x.name.size≤30
theorem exList_self (e:Ex):e∈exList e:=by rw[exList_eq];simp
theorem exList_sub {e x:Ex} (h:x∈e.args) {y:Ex} (hy:y∈exList x):y∈exList e:=by
 rw[exList_eq]
 exact List.mem_cons_of_mem _ (List.mem_flatten.2 ⟨_,List.mem_map_of_mem h,hy⟩)
open Go.RowKit Go.Shelf _root_.Go.Proofs.YtdkgkacnjdnpoaaGreat.Nm
theorem keepC_putObj {X:Nat→Prop} (W:World) (l:Nat) (o o':Obj) (h:W.heap[l]? =some o) (ho:o.isCells=false):KeepC X W (W.putObj l o'):=by
 refine' zq127
theorem Row.own {W W':World} {b:Nat} {cs:Array Value} {t:TypeId} {row:Option Nat} (h:Row W b cs t) (hg:W.grownBy W' row) (hr:∀r,row=some r→∃o:Obj,W.heap[r]? =some o∧o.isCells=false):Row W' b cs t:=by
 refine (hg.block b h.lt fun e=>?_).trans h
 obtain ⟨o,ho,hc⟩:=hr b e.symm
 rw[show W.heap[b]? =_ from h] at ho
 cases ho
 cases hc
theorem keeps_below {W W':World} (h:Below W.heap.size W W'):KeepsOthers W W':=⟨h.size,fun k _ hk _=>(h.block k (Array.getElem?_eq_some_iff.1 hk).1).trans hk⟩
theorem right_any (e:Ex) (A:Option Addr) (cap:Nat) (w:World) (hok:ExOk e) (hcap:e.args.length≤cap) (hmax:cap≤maxLen) (hx:IsExs w w.heap.size A e.args) (hs:exSize e≤1000000):
  Calls Tryz.prog 191 #[exV e A cap] w fun r w'=>r= .returned (.bool (exRight e))∧Below w.heap.size w w':=by
 refine (callsIn_wide (n:=9)).1 ?_
 have HE:=Lib.hid (show exRight e=((exList e).all plainB && decide (exHeight e≤30)) from rfl)
 refine callsIn_of_wp_marks Tryz.func191 rfl trivial ?_ rfl
 simp only[Tryz.ntmps191,List.size_toArray,List.length_cons,List.length_nil,Nat.reduceAdd,Nat.reduceSub,Array.replicate_succ,Array.replicate_zero,List.push_toArray,List.append_toArray,List.nil_append,List.cons_append]
 refine' zq58
 have bE:Row (((w.alloc (.cells #[.int .i64 e.op,.string e.name,.int .i64 e.n,.slice A e.args.length cap,.int .i64 e.line,.int .i64 e.col] 63)).alloc (.cells #[.bool false] 4)).alloc (.cells #[.int .i64 e.op,.string e.name,.int .i64 e.n,.slice A e.args.length cap,.int .i64 e.line,.int .i64 e.col] 63)) w.heap.size #[.int .i64 e.op,.string e.name,.int .i64 e.n,.slice A e.args.length cap,.int .i64 e.line,.int .i64 e.col] 63:=((Row.new w _ _).alloc _).alloc _
 have bR:Row (((w.alloc (.cells #[.int .i64 e.op,.string e.name,.int .i64 e.n,.slice A e.args.length cap,.int .i64 e.line,.int .i64 e.col] 63)).alloc (.cells #[.bool false] 4)).alloc (.cells #[.int .i64 e.op,.string e.name,.int .i64 e.n,.slice A e.args.length cap,.int .i64 e.line,.int .i64 e.col] 63)) (w.heap.size+1) #[.bool false] 4:=by
  have:=(Row.new (w.alloc (.cells #[.int .i64 e.op,.string e.name,.int .i64 e.n,.slice A e.args.length cap,.int .i64 e.line,.int .i64 e.col] 63)) #[.bool false] 4).alloc (.cells #[.int .i64 e.op,.string e.name,.int .i64 e.n,.slice A e.args.length cap,.int .i64 e.line,.int .i64 e.col] 63)
  rwa [World.size_alloc] at this
 have bA:Row (((w.alloc (.cells #[.int .i64 e.op,.string e.name,.int .i64 e.n,.slice A e.args.length cap,.int .i64 e.line,.int .i64 e.col] 63)).alloc (.cells #[.bool false] 4)).alloc (.cells #[.int .i64 e.op,.string e.name,.int .i64 e.n,.slice A e.args.length cap,.int .i64 e.line,.int .i64 e.col] 63)) (w.heap.size+2) #[.int .i64 e.op,.string e.name,.int .i64 e.n,.slice A e.args.length cap,.int .i64 e.line,.int .i64 e.col] 63:=by
  have:=Row.new ((w.alloc (.cells #[.int .i64 e.op,.string e.name,.int .i64 e.n,.slice A e.args.length cap,.int .i64 e.line,.int .i64 e.col] 63)).alloc (.cells #[.bool false] 4)) #[.int .i64 e.op,.string e.name,.int .i64 e.n,.slice A e.args.length cap,.int .i64 e.line,.int .i64 e.col] 63
  rwa [World.size_alloc,World.size_alloc] at this
 have hB0:Below w.heap.size w (((w.alloc (.cells #[.int .i64 e.op,.string e.name,.int .i64 e.n,.slice A e.args.length cap,.int .i64 e.line,.int .i64 e.col] 63)).alloc (.cells #[.bool false] 4)).alloc (.cells #[.int .i64 e.op,.string e.name,.int .i64 e.n,.slice A e.args.length cap,.int .i64 e.line,.int .i64 e.col] 63)):=(((Below.refl _ w).alloc (Nat.le_refl _) _).alloc (by simp) _).alloc (by simp;omega) _
 have hsz:(((w.alloc (.cells #[.int .i64 e.op,.string e.name,.int .i64 e.n,.slice A e.args.length cap,.int .i64 e.line,.int .i64 e.col] 63)).alloc (.cells #[.bool false] 4)).alloc (.cells #[.int .i64 e.op,.string e.name,.int .i64 e.n,.slice A e.args.length cap,.int .i64 e.line,.int .i64 e.col] 63)).heap.size=w.heap.size+3:=by simp
 obtain ⟨W0,hW0⟩:∃W0,((w.alloc (.cells #[.int .i64 e.op,.string e.name,.int .i64 e.n,.slice A e.args.length cap,.int .i64 e.line,.int .i64 e.col] 63)).alloc (.cells #[.bool false] 4)).alloc (.cells #[.int .i64 e.op,.string e.name,.int .i64 e.n,.slice A e.args.length cap,.int .i64 e.line,.int .i64 e.col] 63)=W0:=⟨_,rfl⟩
 rw[hW0] at bE bR bA hB0 hsz⊢
 clear hW0
 refine wpIn_rangeFunc_ownH rfl (by decide) (gf:=71) (lb:= #[.pointer (some ⟨w.heap.size+2,0,none⟩)]) rfl trivial (enters_of Tryz.func71 (by kernel_rfl) rfl)
  (all_stops _ rfl _ trivial trivial rfl (w.heap.size+2) w.heap.size (fun _=>False) e A cap W0 (fun _ h=>h.elim) hok hcap hmax (by omega) (by omega) (fun j u hu=>by rw[bA.cell];simpa[exCells] using hu) (hx.below hB0))
  (fun h k=>h.trans k) (fun W l o o' _ h ho _=>keepC_putObj W l o o' h ho) (Below.refl _ _) (fun _=>rfl)
  (fun pre W=>((Row W w.heap.size #[.int .i64 e.op,.string e.name,.int .i64 e.n,.slice A e.args.length cap,.int .i64 e.line,.int .i64 e.col] 63∧Row W (w.heap.size+1) #[.bool false] 4)∧Hid (∀x∈pre,plainB x.ex=true))∧Below w.heap.size w W)
  (fun c pre W=>((Row W w.heap.size #[.int .i64 e.op,.string e.name,.int .i64 e.n,.slice A e.args.length cap,.int .i64 e.line,.int .i64 e.col] 63∧Row W (w.heap.size+1) #[.bool false] 4)∧Hid (c= .ret∧∃x∈pre,plainB x.ex=false))∧Below w.heap.size w W)
  (OwnFrom.and (OwnFrom.and (OwnFrom.and (fun s X Y row hs hg hr=>hs.own hg (fun r e=>(hr r e).2)) (fun s X Y row hs hg hr=>hs.own hg (fun r e=>(hr r e).2))) (ownFrom_pure _ _)) (ownFrom_below (Nat.le_refl _) (by omega)))
  (fun c=>OwnFrom.and (OwnFrom.and (OwnFrom.and (fun s X Y row hs hg hr=>hs.own hg (fun r e=>(hr r e).2)) (fun s X Y row hs hg hr=>hs.own hg (fun r e=>(hr r e).2))) (ownFrom_pure _ _)) (ownFrom_below (Nat.le_refl _) (by omega)))
  ⟨⟨⟨bE,bR⟩,fun x h=>absurd h (by simp)⟩,hB0⟩
  (fun x a' W=>∃Bx,w.heap.size+1<Bx∧Row W Bx #[.int .i64 x.ex.op,.string x.ex.name,.int .i64 x.ex.n,.slice x.A x.ex.args.length x.cap,.int .i64 x.ex.line,.int .i64 x.ex.col] 63∧a'={tmps:= #[exV e A cap,.pointer (some ⟨w.heap.size,0,none⟩),.pointer (some ⟨w.heap.size+1,0,none⟩),.pointer (some ⟨Bx,0,none⟩),exV e A cap,.func (.func 71) #[] #[.pointer (some ⟨w.heap.size+2,0,none⟩)],x.v,undef,undef,undef,undef,undef,undef],defers:=[]})
  (fun x a' _ X Y row hs hg hr=>by obtain ⟨Bx,h1,h2,h3⟩:=hs;exact ⟨Bx,h1,h2.own hg (fun r e=>(hr r e).2),h3⟩)
  ?assign ?body ?done ?stop
 case assign=>
  rintro l pre x W K ⟨⟨⟨bE1,bR1⟩,HP⟩,hB1⟩ hK
  gi_wp2
  exact hK _ _ ((KeepsOthers.alloc _ _).from _) (KeepC.alloc _ _ _) ⟨⟨⟨bE1.alloc _,bR1.alloc _⟩,HP⟩,hB1.alloc hB1.size _⟩ ⟨W.heap.size,bR1.lt,Row.new W _ _,rfl⟩
 case body=>
  rintro l pre x a' W hl _ ⟨⟨⟨bE1,bR1⟩,HP⟩,hB1⟩ ⟨Bx,hBx,bX,rfl⟩ hlt
  have c0:=bX.cell 0
  have c1:=bX.cell 1
  have c2:=bX.cell 2
  have c3:=bX.cell 3
  have c4:=bX.cell 4
  have c5:=bX.cell 5
  have fR:=bR1.frozen 0
  have cR:=bR1.cell 0
  simp only[List.getElem?_toArray,List.getElem?_cons_zero,List.getElem?_cons_succ] at c0 c1 c2 c3 c4 c5 cR
  gi_wp2_with (refine ⟨trivial,?_⟩;gi_at_call 199;refine (CallsIn.inRound l (callsIn_wide.2 (plain_any x.ex x.A x.cap _ x.ok (by have:=x.len;have:=x.max;omega)))).mono ?_;rintro r W2 ⟨rfl,hb2⟩;have bR2:=bR1.below hb2 bR1.lt;have fR2:=bR2.frozen 0;have cR2:=bR2.cell 0;simp only[List.getElem?_toArray,List.getElem?_cons_zero] at cR2;generalize hP:plainB x.ex=P at*;have HX:=Lib.hid hP;clear hP;cases P)
  ·refine ⟨((keeps_below hb2).trans (KeepsOthers.setCell _ _ _)).from _,⟨⟨⟨(bE1.below hb2 bE1.lt).far (by simp) _,bR2.set 0 _⟩,⟨rfl,x,by simp,HX.out⟩⟩,?_⟩⟩
   exact (hB1.trans (hb2.mono hB1.size)).setCell (p:=⟨w.heap.size+1,0,none⟩) (by simp) _
  ·exact ⟨(keeps_below hb2).from _,KeepC.below hb2,⟨⟨⟨bE1.below hb2 bE1.lt,bR2⟩,fun y hy=>(List.mem_append.1 hy).elim (HP.out y) (fun h=>by simp at h;rw[h];exact HX.out)⟩,hB1.trans (hb2.mono hB1.size)⟩⟩
 case done=>
  rintro D ys W hD hys ⟨⟨⟨bE1,bR1⟩,HP⟩,hB1⟩ hK
  have HF:=Lib.hid (show exRight e=decide (exHeight e≤30) from by
   rw[HE.out,show (exList e).all plainB=true from List.all_eq_true.2 fun y hy=>by
    rw[←hys] at hy
    obtain ⟨x,hx,rfl⟩:=List.mem_map.1 hy
    exact HP.out x hx,Bool.true_and])
  have c0:=bE1.cell 0
  have c1:=bE1.cell 1
  have c2:=bE1.cell 2
  have c3:=bE1.cell 3
  have c4:=bE1.cell 4
  have c5:=bE1.cell 5
  simp only[List.getElem?_toArray,List.getElem?_cons_zero,List.getElem?_cons_succ] at c0 c1 c2 c3 c4 c5
  gi_wp2_with (refine ⟨trivial,?_⟩;gi_at_call 113;refine (callsIn_wide.2 (height_any e A cap _ hcap hmax ((hx.below hB1).more hB1.size) hs)).mono ?_;rintro r W2 ⟨rfl,hb2⟩;have bR2:=bR1.below hb2 bR1.lt;have fR2:=bR2.frozen 0;have cR2:=bR2.cell 0;simp only[List.getElem?_toArray,List.getElem?_cons_zero] at cR2;have hK2:=(keeps_below hb2).same D _ hK rfl)
  have hK3:(W2.setCell ⟨w.heap.size+1,0,none⟩ (.bool (decide ((exHeight e:Int)≤30)))).heap[D]? =some (.deferred (some [])):=(KeepsOthers.setCell W2 _ _).same D _ hK2 rfl
  refine ⟨by simp,.inl ⟨_,_,rfl,run_takeDeferred hK3,?_⟩⟩
  have hc5:=cell_kept ((bR2.set 0 (.bool (decide ((exHeight e:Int)≤30)))).cell 0) (grownBy_putObj' _ D (.deferred none)) (fun r e=>by cases e;exact ⟨_,hK3,rfl⟩)
  refine ⟨.bool (decide ((exHeight e:Int)≤30)),?_,by rw[HF.out];congr 2;rw[Bool.eq_iff_iff];simp;omega,((hB1.trans (hb2.mono hB1.size)).setCell (p:=⟨w.heap.size+1,0,none⟩) (by simp) _).trans (belowK_b (w:=w) (Nat.le_refl _) _ D _ _ (by omega) hK3 rfl rfl)⟩
  simp[results,Tryz.f191,go_sem,hc5]
 case stop=>
  rintro D c pre W hD hpre ⟨⟨⟨bE1,bR1⟩,HP⟩,hB1⟩ hK
  obtain ⟨rfl,x,hxp,hxf⟩:=HP.out
  have HF:=Lib.hid (show exRight e=false from by
   rw[HE.out,show (exList e).all plainB=false from List.all_eq_false.2 ⟨x.ex,hpre.subset (List.mem_map_of_mem hxp),by simp[hxf]⟩,Bool.false_and])
  clear HP hxf hxp
  gi_wp2
  refine ⟨by simp,.inl ⟨_,_,rfl,run_takeDeferred hK,?_⟩⟩
  have hc5:=cell_kept (bR1.cell 0) (grownBy_putObj' _ D (.deferred none)) (fun r e=>by cases e;exact ⟨_,hK,rfl⟩)
  refine ⟨.bool false,?_,by rw[HF.out],hB1.trans (belowK_b (w:=w) (Nat.le_refl _) W D _ _ (by omega) hK rfl rfl)⟩
  simp[results,Tryz.f191,go_sem,hc5]
end Go.Proofs.YtdkgkacnjdnpoaaGreat
