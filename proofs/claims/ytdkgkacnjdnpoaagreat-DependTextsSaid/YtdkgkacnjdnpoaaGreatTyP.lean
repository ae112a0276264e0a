/-
  tree.All, told of a predicate that holds of all parts of the expression: as in TreeAll, but the round is told that it holds of what is handed to it. The contracts of arith.Sign and tompionref03.Sign. The types of expressions, and what is wrong with them, plain.
-/
import Derived.Test.YtdkgkacnjdnpoaaGreatZz
import Derived.Test.YtdkgkacnjdnpoaaGreatTreeRight
import Derived.RowKit3
import Derived.Test.YtdkgkacnjdnpoaaGreatMem
import Derived.Test.YtdkgkacnjdnpoaaGreatSrt
set_option maxHeartbeats 4000000
set_option maxRecDepth 100000
namespace Go.Proofs.YtdkgkacnjdnpoaaGreat
open Go.RowKit Go.Shelf
attribute [local go_sem] Oper.semAt_some
structure ExM (T:Ex→Prop) where
 toN:ExN
 mem:T toN.ex
abbrev ExM.ex {T:Ex→Prop} (x:ExM T):Ex:=x.toN.ex
abbrev ExM.v {T:Ex→Prop} (x:ExM T):Value:=x.toN.v
theorem walk_inM (F:Fence) (T:Ex→Prop) (hd:F.depth=none) (hf:F.fn 72) (hro:F.round=none) (l N n₀ B0:Nat) (X:Nat→Prop) (hX:∀b,X b→n₀≤b∧b<B0) (J Jx:List (ExM T)→World→Prop) (hJ:AbidesFrom B0 J)
  (hY:∀m pre x W,J pre W→pre.length<N→YieldAt F m Tryz.prog l #[x.v] W fun e W'=>(e= .returned (.bool true)∧J (pre++ [x]) W'∧KeepC X W W')∨(e= .returned (.bool false)∧Jx (pre++ [x]) W')) (e:Ex):
  ∀(n:Nat) (A:Option Addr) (cap:Nat) (pre:List (ExM T)) (W:World),(∀y∈exList e,T y)→ExOk e→e.args.length≤cap→cap≤maxLen→n₀≤B0→B0≤W.heap.size→IsExs W n₀ A e.args→J pre W→pre.length+exSize e≤N→
   CallsIn F n Tryz.prog 72 #[exV e A cap,.func (.yield l) #[] #[]] W fun r W'=>
    (r= .returned (.bool true)∧∃q,q.map ExM.ex=exList e∧J (pre++q) W'∧KeepC X W W')∨(r= .returned (.bool false)∧∃q,q.map ExM.ex<+:exList e∧Jx (pre++q) W'):=by
 induction e using Ex.ind with
 |h e ih=>
  intro n A cap pre W hT hok hcap hmax hn0 hB0 hx hj hN
  have hdd:∀k:Nat,(F.depth.isSome=true→1≤k):=fun k h=>by rw[hd] at h;cases h
  have HI:=Lib.hid ih
  have HX:=Lib.hid hX
  have hXW:¬X W.heap.size:=fun h=>by have:=(hX _ h).2;omega
  have HE:=Lib.hid (lTo_end e)
  have hpos:=exSize_pos e
  have HN:=Lib.hid hN
  clear ih hX
  obtain ⟨fn,tmps,assign,body,hy,hR⟩:=hY (n-1) pre ⟨⟨e,A,cap,hok,hcap,hmax⟩,hT e (exList_self e)⟩ (W.alloc (.cells #[.int .i64 e.op,.string e.name,.int .i64 e.n,.slice A e.args.length cap,.int .i64 e.line,.int .i64 e.col] 63)) (abide_alloc hJ hj _) (by omega)
  replace hR:=hR.mono (R':=fun r W2=>(r= .returned (.bool true)∧J (pre++ [⟨⟨e,A,cap,hok,hcap,hmax⟩,hT e (exList_self e)⟩]) W2∧KeepC X (W.alloc (.cells #[.int .i64 e.op,.string e.name,.int .i64 e.n,.slice A e.args.length cap,.int .i64 e.line,.int .i64 e.col] 63)) W2∧W2.cell? ⟨W.heap.size,3,none⟩=some (.slice A e.args.length cap))∨(r= .returned (.bool false)∧Jx (pre++ [⟨⟨e,A,cap,hok,hcap,hmax⟩,hT e (exList_self e)⟩]) W2))
   (fun r W2 h=>h.elim (fun ⟨h1,h2,h3⟩=> .inl ⟨h1,h2,h3,(exBoxC h3 hXW).2.2.2.1⟩) .inr)
  unfold maxLen at hmax
  refine callsIn_of_wp Tryz.func72 rfl hf ?_ hro
  simp only[Tryz.ntmps72,List.size_toArray,List.length_cons,List.length_nil,Nat.reduceAdd,Nat.reduceSub,Array.replicate_succ,Array.replicate_zero,List.push_toArray,List.append_toArray,List.nil_append,List.cons_append]
  gi_wp2_with ((try refine ⟨hdd _,?_⟩);refine hR.mono ?_;clear hR;rintro r W2 (⟨rfl,hJ2,hK2,c3⟩|⟨rfl,hx2⟩))
  ·gi_loopw [14] (fun i wr=>∃(k:Nat) (q:List (ExM T)),k≤e.args.length∧i= .int .i64 k∧Hid (q.map ExM.ex=lTo e k)∧J (pre++q) wr∧KeepC X (W.alloc (.cells #[.int .i64 e.op,.string e.name,.int .i64 e.n,.slice A e.args.length cap,.int .i64 e.line,.int .i64 e.col] 63)) wr) (fun i _=>e.args.length-(intOf i).toNat)
   case atStart=>exact ⟨0,[⟨⟨e,A,cap,hok,hcap,by unfold maxLen;omega⟩,hT e (exList_self e)⟩],Nat.zero_le _,rfl,rfl,hJ2,hK2⟩
   case round=>
    obtain ⟨k,q,hk,rfl,HQ,hJr,hKr⟩:=hrel
    have hK0:KeepC X W wr:=(KeepC.alloc X W _).trans hKr
    have hszr:=hKr.size
    rw[World.size_alloc] at hszr
    by_cases hlt:k<e.args.length
    ·obtain ⟨b,off,x,A',cap',rfl,hb,hxk,hxm,hok',hcap',hmax',hx',d0,d1,d2,d3,d4,d5⟩:=(hx.keepS (fun p u hp hc=>hK0.cell (fun h=>by have:=(HX.out _ h).1;omega) hc)).at_ hlt
     have HT:=Lib.hid (lTo_succ hxk)
     have hlq:Hid ((pre++q).length+exSize x≤N):=by
      have h1:=lTo_le e (k+1)
      rw[HT.out,List.length_append,←HQ.out,List.length_map] at h1
      have h2:=HN.out
      show _≤_
      rw[List.length_append]
      unfold exSize at h1 h2⊢
      omega
     have HC:=HI.out x hxm (n-1) A' cap' (pre++q) (wr.alloc (.cells #[.int .i64 x.op,.string x.name,.int .i64 x.n,.slice A' x.args.length cap',.int .i64 x.line,.int .i64 x.col] 63)) (fun y hy=>hT y (exList_sub hxm hy)) hok' hcap' hmax' hn0 (by simp;omega) (hx'.keepS (fun p u hp hc=>(KeepC.alloc (fun _=>False) wr _).cell (fun h=>h) hc)) (abide_alloc hJ hJr _) hlq.out
     have HC':=Lib.hid HC
     clear hxk hxm HC
     gi_wp2_with ((try refine ⟨hdd _,?_⟩);gi_at_call 72;refine HC'.out.mono ?_;clear HC';rintro r W3 (⟨rfl,q3,hq3,hJ3,hK3⟩|⟨rfl,q3,hq3,hx3⟩))
     ·go_roundw
      case rel=>exact ⟨k+1,q++q3,by omega,by go_num,by show _=_;rw[List.map_append,HQ.out,hq3,HT.out],by rw[←List.append_assoc];exact hJ3,hKr.trans ((KeepC.alloc X wr _).trans hK3)⟩
      case measure=>simp[intOf];omega
     ·go_ret
      refine .inr ⟨rfl,q++q3,?_,by rw[←List.append_assoc];exact hx3⟩
      rw[List.map_append,HQ.out]
      exact ((List.prefix_append_right_inj _).2 hq3).trans (HT.out▸lTo_pre e (k+1))
    ·obtain rfl:k=e.args.length:=by omega
     gi_wp2
     go_ret
     exact .inl ⟨rfl,q,by rw[HQ.out,←HE.out],hJr,hK0⟩
  ·go_ret
   exact .inr ⟨rfl,_,by rw[exList_eq];exact ⟨_,rfl⟩,hx2⟩
theorem all1_inM (F:Fence) (T:Ex→Prop) (hd:F.depth=none) (n:Nat) (hf:F.fn 72) (hf1:F.fn 71) (hro:F.round=none) (l Bt n₀ B0:Nat) (X:Nat→Prop) (hX:∀b,X b→n₀≤b∧b<B0) (J Jx:List (ExM T)→World→Prop) (hJ:AbidesFrom B0 J)
  (e:Ex) (A:Option Addr) (cap:Nat) (hT:∀y∈exList e,T y) (hok:ExOk e) (hcap:e.args.length≤cap) (hmax:cap≤maxLen) (hn0:n₀≤B0)
  (hY:∀pre x W,J pre W→pre.length<exSize e→YieldAt F (n-1) Tryz.prog l #[x.v] W fun e W'=>(e= .returned (.bool true)∧J (pre++ [x]) W'∧KeepC X W W')∨(e= .returned (.bool false)∧Jx (pre++ [x]) W'))
  (W:World) (hB0:B0≤W.heap.size) (hc:∀j u,(exCells e A cap)[j]? =some u→W.cell? ⟨Bt,j,none⟩=some u) (hx:IsExs W n₀ A e.args) (h0:J [] W):
  CallsIn F n Tryz.prog 71 #[.func (.yield l) #[] #[],.pointer (some ⟨Bt,0,none⟩)] W fun r W'=>(∃v,r= .returned v)∧
   ((∃ys,ys.map ExM.ex=exList e∧J ys W')∨(∃pre,pre.map ExM.ex<+:exList e∧Jx pre W')):=by
 have hdd:∀k:Nat,(F.depth.isSome=true→1≤k):=fun k h=>by rw[hd] at h;cases h
 have hp:=walk_inM F T hd hf hro l (exSize e) n₀ B0 X hX J Jx hJ (fun m pre x W hj hl=>yieldAt_any hd m (hY pre x W hj hl)) e (n-1) A cap [] W hT hok hcap hmax hn0 hB0 hx h0 (by simp)
 refine' zq11
theorem all_stopsM (F:Fence) (T:Ex→Prop) (hd:F.depth=none) (n:Nat) (hf:F.fn 72) (hf1:F.fn 71) (hro:F.round=none) (Bt n₀:Nat) (X:Nat→Prop) (e:Ex) (A:Option Addr) (cap:Nat) (w:World) (hX:∀b,X b→n₀≤b∧b<w.heap.size)
  (hT:∀y∈exList e,T y) (hok:ExOk e) (hcap:e.args.length≤cap) (hmax:cap≤maxLen) (hBt:Bt<w.heap.size) (hn₀:n₀≤w.heap.size) (hc:∀j u,(exCells e A cap)[j]? =some u→w.cell? ⟨Bt,j,none⟩=some u) (hx:IsExs w n₀ A e.args):
  SeqStopsK F n Tryz.prog 71 #[.pointer (some ⟨Bt,0,none⟩)] (fun x:ExM T=> #[x.v]) (KeepC X) (fun ys=>ys.map ExM.ex=exList e) (fun pre=>pre.map ExM.ex<+:exList e) (exSize e) w:=fun l J Jx W hW hJ _ hY h0=>
 all1_inM F T hd n hf hf1 hro l Bt n₀ W.heap.size X (fun b hb=>⟨(hX b hb).1,Nat.lt_of_lt_of_le (hX b hb).2 hW.size⟩) J Jx hJ e A cap hT hok hcap hmax (Nat.le_trans hn₀ hW.size) hY W (Nat.le_refl _)
  (fun j u hu=>(hW.cell (p:=⟨Bt,j,none⟩) hBt).trans (hc j u hu)) (hx.below (hW.mono hn₀)) h0
open Go.RowKit
def signIn (op:Int):Int:=if op=12∨op=13 then 0 else if op=6∨op=18∨op=19∨op=20 then 2 else if 5≤op∧op≤17 then 1 else 0
def signOut (op:Int):Int:=if op=6∨(12≤op∧op≤20) then 2 else if 5≤op∧op≤11 then 1 else 0
def signB (op:Int):Bool:=decide (5≤op) && decide (op≤20)
theorem sign_any (op:Int) (w:World):
  Calls Tryz.prog 156 #[.int .i64 op] w fun e w'=>e= .returned (.tuple #[.int .i64 (signIn op),.int .i64 (signOut op),.bool (signB op)])∧w=w':=by
 refine' zq27
def Fz (f:Ft):Prop:=f.err=0→f=ft0
theorem fz0:Fz ft0:=fun _=>rfl
theorem fz_ft2 {a b:Ft} (hb:Fz b):Fz (ft2 a b):=fun h=>by
 by_cases g:a.err=0
 ·rw[ft2_0 g] at h⊢;exact hb h
 ·rw[ft2_1 g] at h;exact absurd h g
theorem ft2_assoc (a b c:Ft):ft2 (ft2 a b) c=ft2 a (ft2 b c):=by
 by_cases h:a.err=0
 ·rw[ft2_0 h,ft2_0 h]
 ·rw[ft2_1 h,ft2_1 h,ft2_1 h]
theorem ft2_zero {a:Ft} (h:Fz a):ft2 a ft0=a:=by
 by_cases g:a.err=0
 ·rw[ft2_0 g,h g]
 ·exact ft2_1 g
theorem fz_fstl {l:List Ft}:Fz (fstl l):=fun h=>fstl_zero h
theorem fstl_snoc {l:List Ft} {x:Ft} (hx:Fz x):fstl (l++ [x])=ft2 (fstl l) x:=by
 rw[fstl_append]
 by_cases h:(fstl l).err=0
 ·rw[if_pos h,ft2_0 h]
  by_cases g:x.err=0
  ·rw[hx g];rfl
  ·exact fstl_cons1 g
 ·rw[if_neg h,ft2_1 h]
def accF (f:Ft) (l:List Ft) (k:Nat):Ft:=ft2 f (fstl (l.take k))
theorem acc_0 {f:Ft} {l:List Ft} (hf:Fz f):accF f l 0=f:=by unfold accF;rw[List.take_zero];exact ft2_zero hf
theorem acc_succ {f x:Ft} {l:List Ft} {k:Nat} (hx:l[k]? =some x) (hz:Fz x):accF f l (k+1)=ft2 (accF f l k) x:=by
 unfold accF
 rw[List.take_add_one,hx,Option.toList_some,fstl_snoc hz,ft2_assoc]
theorem acc_all {f:Ft} {l:List Ft}:accF f l l.length=ft2 f (fstl l):=by unfold accF;rw[List.take_length]
def needF (b:Bool) (l c:Int):Ft:=if b=true then ft0 else ⟨28,l,c⟩
theorem need_fz (b:Bool) (l c:Int):Fz (needF b l c):=fun h=>by
 cases b
 ·exact absurd h (by show ¬(28:Int)=0;decide)
 ·rfl
theorem need_no (l c:Int):needF false l c=⟨28,l,c⟩:=rfl
def tyOf (n:Nd) (nm:ByteArray):Int:=if 0≤varIdx n nm then (((vrs n)[(varIdx n nm).toNat]?).map Vr.ty).getD 0 else 0
theorem ty_at {n:Nd} {nm:ByteArray} {k:Nat} {x:Vr} (h:varIdx n nm=k) (hx:(vrs n)[k]? =some x):tyOf n nm=x.ty:=by
 unfold tyOf
 rw[h,if_pos (by omega)]
 simp[hx]
theorem ty_no {n:Nd} {nm:ByteArray} (h:nm∉nms (vrs n)):tyOf n nm=0:=by unfold tyOf;rw[if_neg (fun g=>h (var_mem.1 g))]
def outTy (m:Nd):Int:=(m.outs.head?.map Vr.ty).getD 0
def argL (e:Ex) (i:Nat):Int:=((e.args[i]?).map Ex.line).getD 0
def argC (e:Ex) (i:Nat):Int:=((e.args[i]?).map Ex.col).getD 0
theorem arg_at {e x:Ex} {i:Nat} (h:e.args[i]? =some x):argL e i=x.line∧argC e i=x.col:=by unfold argL argC;rw[h];exact ⟨rfl,rfl⟩
def callFs (m:Nd) (e:Ex) (l:List Int):List Ft:=m.ins.mapIdx fun i v=>needF (l.getD i 0==v.ty) (argL e i) (argC e i)
def sameArgs (op:Int) (e:Ex) (l:List Int):List Ft:=e.args.mapIdx fun i x=>needF (signIn op==0||l.getD i 0==signIn op) x.line x.col
def opF (s:List Nd) (n:Nd) (e:Ex) (l:List Int):Ft:=
 if e.op=4 then (match nodeAt s e.name with
  |none=>ft0
  |some m=>fstl (callFs m e l))
 else if signB e.op=true then ft2 (fstl (sameArgs e.op e l)) (needF (signIn e.op !=0||l.getD 0 0==l.getD (l.length-1) 0) e.line e.col)
 else if e.op=24∨e.op=25 then needF (tyOf n e.name==2) e.line e.col
 else if e.op=26 then ft2 (needF (tyOf n e.name==2) e.line e.col) (needF (l.getD 0 0==l.getD 1 0) e.line e.col)
 else if e.op=22∨e.op=23 then needF (l.getD 0 0==l.getD 1 0) e.line e.col
 else if e.op=27 then ft2 (needF (l.getD 0 0==2) (argL e 0) (argC e 0)) (needF (l.getD 1 0==l.getD 2 0) e.line e.col)
 else ft0
def opTy (s:List Nd) (n:Nd) (e:Ex) (l:List Int):Int:=
 if e.op=1∨e.op=2 then e.op
 else if e.op=3 then tyOf n e.name
 else if e.op=4 then (match nodeAt s e.name with
  |none=>0
  |some m=>outTy m)
 else if signB e.op=true then signOut e.op
 else if e.op=27 then l.getD 1 0
 else l.getD 0 0
def tyStep (s:List Nd) (n:Nd) (e:Ex) (rs:List (Ft × Int)):Ft × Int:=
 (ft2 (fstl (rs.map Prod.fst)) (opF s n e (rs.map Prod.snd)),opTy s n e (rs.map Prod.snd))
noncomputable def tyR (s:List Nd) (n:Nd):Ex→Ft × Int:=Ex.para (tyStep s n)
theorem tyR_eq (s:List Nd) (n:Nd) (e:Ex):tyR s n e=tyStep s n e (e.args.map (tyR s n)):=Ex.para_eq _ e
noncomputable def tyF (s:List Nd) (n:Nd) (e:Ex):Ft:=(tyR s n e).1
noncomputable def tyK (s:List Nd) (n:Nd) (e:Ex):Int:=(tyR s n e).2
noncomputable def argFs (s:List Nd) (n:Nd) (e:Ex):List Ft:=e.args.map (tyF s n)
noncomputable def argKs (s:List Nd) (n:Nd) (e:Ex):List Int:=e.args.map (tyK s n)
theorem tyF_eq (s:List Nd) (n:Nd) (e:Ex):tyF s n e=ft2 (fstl (argFs s n e)) (opF s n e (argKs s n e)):=by
 unfold tyF
 rw[tyR_eq]
 unfold tyStep argFs argKs
 rw[List.map_map,List.map_map]
 rfl
theorem tyK_eq (s:List Nd) (n:Nd) (e:Ex):tyK s n e=opTy s n e (argKs s n e):=by
 unfold tyK
 rw[tyR_eq]
 show opTy s n e ((e.args.map (tyR s n)).map Prod.snd)=_
 rw[List.map_map]
 rfl
theorem opF_fz {s:List Nd} {n:Nd} {e:Ex} {l:List Int}:Fz (opF s n e l):=by
 unfold opF
 split
 ·split
  ·exact fz0
  ·exact fz_fstl
 ·split
  ·exact fz_ft2 (need_fz _ _ _)
  ·split
   ·exact need_fz _ _ _
   ·split
    ·exact fz_ft2 (need_fz _ _ _)
    ·split
     ·exact need_fz _ _ _
     ·split
      ·exact fz_ft2 (need_fz _ _ _)
      ·exact fz0
theorem tyF_fz {s:List Nd} {n:Nd} {e:Ex}:Fz (tyF s n e):=by rw[tyF_eq];exact fz_ft2 opF_fz
structure TyX (s:List Nd) (n:Nd) (x:Ex):Prop where
 plain:plainB x=true
 name:namesB x.op=true→x.name∈nms (vrs n)
 call:x.op=4→∃m,nodeAt s x.name=some m∧m.ins.length=x.args.length∧1≤m.outs.length
def TyKn (s:List Nd) (n:Nd) (e:Ex):Prop:=∀x∈exList e,TyX s n x
theorem TyKn.sub {s:List Nd} {n:Nd} {e x:Ex} (h:TyKn s n e) (hx:x∈e.args):TyKn s n x:=fun y hy=>h y (exList_sub hx hy)
theorem TyKn.own {s:List Nd} {n:Nd} {e:Ex} (h:TyKn s n e):TyX s n e:=h e (exList_self e)
theorem parts_of {e:Ex} (h:plainB e=true):(1≤e.op∧e.op≤27)∧(e.op≤3→e.args.length=0)∧(e.op=4→1≤e.args.length∧e.args.length≤8)∧(e.op=5∨e.op=6∨e.op=21∨e.op=24∨e.op=25→e.args.length=1)∧
  ((7≤e.op∧e.op≤20)∨e.op=22∨e.op=23∨e.op=26→e.args.length=2)∧(e.op=27→e.args.length=3):=by
 have k2:partsZ e.op≠-2:=fun g=>by
  unfold plainB plainK at h
  rw[if_pos g] at h
  cases h
 have k1:partsZ e.op= -1→1≤e.args.length∧e.args.length≤8:=fun h0=>Classical.byContradiction fun hne=>by
  unfold plainB at h
  rw[plainK_no1 ⟨h0,by omega⟩] at h
  cases h
 refine' zq177
 clear h
 unfold partsZ at k2 k1 key
 refine ⟨?_,?_,?_,?_,?_,?_⟩
 ·constructor
  ·refine Classical.byContradiction fun g=>k2 ?_
   rw[if_neg (by omega),if_neg (by omega),if_neg (by omega),if_neg (by omega),if_neg (by omega)]
  ·refine Classical.byContradiction fun g=>k2 ?_
   rw[if_neg (by omega),if_neg (by omega),if_neg (by omega),if_neg (by omega),if_neg (by omega)]
 ·intro g
  by_cases g1:e.op=1∨e.op=2∨e.op=3
  ·rw[if_pos g1] at key
   have:=key (by omega)
   omega
  ·exact absurd (by rw[if_neg g1,if_neg (by omega),if_neg (by omega),if_neg (by omega),if_neg (by omega)]) k2
 ·intro g
  exact k1 (by rw[if_neg (by omega),if_pos g])
 ·intro g
  rw[if_neg (by omega),if_neg (by omega),if_pos (by omega)] at key
  have:=key (by omega)
  omega
 ·intro g
  rw[if_neg (by omega),if_neg (by omega),if_neg (by omega),if_pos (by omega)] at key
  have:=key (by omega)
  omega
 ·intro g
  rw[if_neg (by omega),if_neg (by omega),if_neg (by omega),if_neg (by omega),if_pos g] at key
  have:=key (by omega)
  omega
theorem node_outs {s:List Nd} (h:SrcRt s) {nm:ByteArray} {m:Nd} (hm:nodeAt s nm=some m):1≤m.outs.length:=by
 have:m∈s:=List.mem_of_find?_eq_some hm
 have h2:=(h.1 m this).2.2.2.2.2.1.2.1
 omega
theorem tykn_of {s:List Nd} (h:(scopeF s).err=0) {n:Nd} (hn:n∈s) {q:Eqn} (hq:q∈n.eqs):TyKn s n q.right:=by
 have hk:=scope_kn h n hn
 have hr:=(hk.rt.1 q hq).2.2.2
 simp only[exRight,Bool.and_eq_true,List.all_eq_true] at hr
 refine fun x hx=>⟨hr.1 x hx,hk.exprs q hq x hx,fun h4=>?_⟩
 obtain ⟨i,hi⟩:=List.getElem?_of_mem hq
 obtain ⟨j,hj⟩:=List.getElem?_of_mem hx
 obtain ⟨m,hm,hl⟩:=call_ok (expr_ok (eqn_ok (scope_nodes h n hn).2 i q hi).2 j x hj) h4
 exact ⟨m,hm,hl,node_outs (scope_rt h) hm⟩
def clkTs (n:Nd) (v:Vr):List Ft:=v.clock.map fun c=>needF (tyOf n c.name==2) v.line v.col
def clkTF (n:Nd) (v:Vr):Ft:=fstl (clkTs n v)
noncomputable def comeOf (s:List Nd) (n:Nd) (q:Eqn):List Int:=
 if q.right.op=4 then (match nodeAt s q.right.name with
  |none=> []
  |some m=>m.outs.map Vr.ty)
 else [tyK s n q.right]
noncomputable def leftTs (s:List Nd) (n:Nd) (q:Eqn):List Ft:=q.left.mapIdx fun i nm=>needF (tyOf n nm==(comeOf s n q).getD i 0) q.line q.col
noncomputable def eqnTF (s:List Nd) (n:Nd) (q:Eqn):Ft:=ft2 (tyF s n q.right) (fstl (leftTs s n q))
noncomputable def nodeTF (s:List Nd) (n:Nd):Ft:=ft2 (fstl (n.vars.map (clkTF n))) (fstl (n.eqs.map (eqnTF s n)))
noncomputable def typesF (s:List Nd):Ft:=ft2 (scopeF s) (fstL (fun _ n=>nodeTF s n) s)
theorem clkTF_fz {n:Nd} {v:Vr}:Fz (clkTF n v):=fz_fstl
theorem eqnTF_fz {s:List Nd} {n:Nd} {q:Eqn}:Fz (eqnTF s n q):=fz_ft2 fz_fstl
theorem come_len {s:List Nd} (h:(scopeF s).err=0) {n:Nd} (hn:n∈s) {q:Eqn} (hq:q∈n.eqs):(comeOf s n q).length=q.left.length∧1≤q.left.length:=by
 have hk:=scope_kn h n hn
 have hl:=(hk.rt.1 q hq).2.1
 obtain ⟨i,hi⟩:=List.getElem?_of_mem hq
 obtain ⟨h1,h2⟩:=eqn_ok (scope_nodes h n hn).2 i q hi
 have h3:=expr_ok h2 0 q.right (by rw[exList_eq];rfl)
 rw[if_pos rfl] at h3
 have h1':1≤q.left.length:=by omega
 refine ⟨?_,h1'⟩
 unfold comeOf
 by_cases h4:q.right.op=4
 ·rw[if_pos h4]
  unfold oneF at h3
  rw[if_neg (by rw[h4];decide),if_pos h4] at h3
  cases hm:nodeAt s q.right.name with
  |none=>rw[hm] at h3;exact absurd h3 (by show ¬(24:Int)=0;decide)
  |some m=>
   rw[hm] at h3
   dsimp only at h3⊢
   rw[List.length_map]
   by_cases hh:m.ins.length≠q.right.args.length∨(m.outs.length:Int)≠(q.left.length:Int)
   ·rw[if_pos hh] at h3;exact absurd h3 (by show ¬(25:Int)=0;decide)
   ·omega
 ·rw[if_neg h4]
  have h5:=(ft2_ok h1).2
  unfold countF at h5
  by_cases hc:1<q.left.length∧q.right.op≠4
  ·rw[if_pos hc] at h5;exact absurd h5 (by show ¬(25:Int)=0;decide)
  ·have:¬1<q.left.length:=fun g=>hc ⟨g,h4⟩
   show 1=q.left.length
   omega
end Go.Proofs.YtdkgkacnjdnpoaaGreat
