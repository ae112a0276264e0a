/-
  The names of variables in an expression, plain; the contract of tompionref12.Names. Which expressions go by which clocks: the contract of clock.Fits. What is wrong first with clocks, plain; what holds in a source whose names are right. In a source with nothing wrong each name is somebody's: plain. The contracts of arith.Sign and tompionref03.Sign. The types of expressions, and what is wrong with them, plain.
-/
import Derived.Test.YtgjfkidbfmbjoaaGreatZz
import Derived.Test.YtgjfkidbfmbjoaaGreatScH
import Derived.Test.YtgjfkidbfmbjoaaGreatTreeList
import Derived.Test.YtgjfkidbfmbjoaaGreatRefRight
import Derived.Test.YtgjfkidbfmbjoaaGreatClkE
import Derived.Test.YtgjfkidbfmbjoaaGreatTreeRight
import Derived.Test.YtgjfkidbfmbjoaaGreatRepL
import Derived.RowKit3
import Derived.Test.YtgjfkidbfmbjoaaGreatMem
set_option maxHeartbeats 4000000
namespace Go.Proofs.YtgjfkidbfmbjoaaGreat
open Go.RowKit
theorem info_str:(Tryz.prog.info? 9).map (fun i=>(i.zero,i.size,i.bytes))=some (some (.string ⟨#[]⟩),1,16):=by kernel_rfl
theorem isStr_one {x:ByteArray} {cs:List Value} (h:isStr x cs):cs.length=1∧∀u∈cs,u.oneCell'=true:=by
 obtain ⟨rfl,_⟩:=h
 refine ⟨rfl,fun u hu=>?_⟩
 simp at hu;subst hu;rfl
theorem args_of_plain {e:Ex} (h:plainB e=true):ArgsOk e:=by
 refine' zq257
 constructor
 ·intro ho
  have hp:partsZ e.op=1:=by unfold partsZ;repeat' split;all_goals omega
  have:=key (by omega)
  omega
 ·intro ho
  have hp:partsZ e.op=2:=by unfold partsZ;repeat' split;all_goals omega
  have:=key (by omega)
  omega
structure NdKn (n:Nd):Prop where
 rt:NdRt n
 conds:∀v∈n.vars,∀c∈v.clock,c.name∈nms (vrs n)
 lefts:∀q∈n.eqs,∀nm∈q.left,nm∈nms (vrs n)
 exprs:∀q∈n.eqs,∀x∈exList q.right,namesB x.op=true→x.name∈nms (vrs n)
theorem scope_rt {s:List Nd} (h:(scopeF s).err=0):SrcRt s:=Classical.byContradiction fun g=>by
 rw[scopeF_2 g] at h
 exact absurd h (by show ¬(2:Int)=0;decide)
theorem scope_nodes {s:List Nd} (h:(scopeF s).err=0):∀n∈s,(variablesF n).err=0∧(equationsF s n).err=0:=by
 have hr:=scope_rt h
 rw[scopeF_rt hr] at h
 intro n hn
 obtain ⟨i,hi⟩:=List.getElem?_of_mem hn
 exact ft2_ok (fstL_ok (ft2_ok (ft2_ok h).2).1 i n hi)
theorem eqn_ok {s:List Nd} {n:Nd} (h:(equationsF s n).err=0):∀(i:Nat) q,n.eqs[i]? =some q→(leftF n (metTo n i) q).err=0∧(exprF s n q.left.length q.right).err=0:=fun i q hq=>
 ft2_ok (fstL_ok (ft2_ok h).1 i q hq)
theorem expr_ok {s:List Nd} {n:Nd} {outs:Int} {e:Ex} (h:(exprF s n outs e).err=0):∀(i:Nat) x,(exList e)[i]? =some x→(oneF s n (if i=0 then outs else 1) x).err=0:=by
 rw[←exprF_list] at h
 exact fstL_ok h
theorem one_name {s:List Nd} {n:Nd} {outs:Int} {x:Ex} (h:(oneF s n outs x).err=0) (hb:namesB x.op=true):x.name∈nms (vrs n):=Classical.byContradiction fun g=>by
 unfold oneF at h
 rw[if_pos hb,if_pos g] at h
 exact absurd h (by show ¬(24:Int)=0;decide)
theorem scope_kn {s:List Nd} (h:(scopeF s).err=0):∀n∈s,NdKn n:=by
 intro n hn
 obtain ⟨hv,he⟩:=scope_nodes h n hn
 refine ⟨(scope_rt h).1 n hn,fun v hvm c hc=>?_,fun q hq nm hnm=>?_,fun q hq x hx hb=>?_⟩
 ·obtain ⟨i,hi⟩:=List.getElem?_of_mem hvm
  obtain ⟨j,hj⟩:=List.getElem?_of_mem hc
  have h1:(condF n v j c).err=0:=fstL_ok (f:=condF n v) (fstL_ok (f:=clkF n) (ft2_ok hv).2 i v hi) j c hj
  refine Classical.byContradiction fun g=>?_
  unfold condF at h1
  rw[if_pos g] at h1
  exact absurd h1 (by show ¬(24:Int)=0;decide)
 ·obtain ⟨i,hi⟩:=List.getElem?_of_mem hq
  obtain ⟨j,hj⟩:=List.getElem?_of_mem hnm
  have h1:=fstL_ok (ft2_ok (eqn_ok he i q hi).1).1 j nm hj
  refine Classical.byContradiction fun g=>?_
  unfold leftNF at h1
  rw[if_pos g] at h1
  exact absurd h1 (by show ¬(24:Int)=0;decide)
 ·obtain ⟨i,hi⟩:=List.getElem?_of_mem hq
  obtain ⟨j,hj⟩:=List.getElem?_of_mem hx
  exact one_name (expr_ok (eqn_ok he i q hi).2 j x hj) hb
theorem kn_args {n:Nd} (h:NdKn n) {q:Eqn} (hq:q∈n.eqs):∀x∈exList q.right,ArgsOk x:=by
 have hr:=(h.rt.1 q hq).2.2.2
 simp only[exRight,Bool.and_eq_true,List.all_eq_true] at hr
 exact fun x hx=>args_of_plain (hr.1 x hx)
theorem kn_known {n:Nd} (h:NdKn n) {q:Eqn} (hq:q∈n.eqs):∀x∈exList q.right,Known n x:=fun x hx=>
 ⟨kn_args h hq x hx,fun ho=>var_mem.2 (h.exprs q hq x hx (by simp only[namesB,decide_eq_true_eq];omega))⟩
def RightClk (n:Nd) (clock:List Lt):Prop:=∀(i:Nat) l,clock[i]? =some l→clockOf n l.name=clock.take i
open Classical in
noncomputable def clkVF (n:Nd) (_:Nat) (v:Vr):Ft:=if ¬RightClk n v.clock then ⟨30,v.line,v.col⟩ else ft0
noncomputable def eqClk (n:Nd) (q:Eqn):List Lt:=clockOf n (q.left.headD ⟨#[]⟩)
open Classical in
noncomputable def clkQF (n:Nd) (_:Nat) (q:Eqn):Ft:=if ∃nm∈q.left,clockOf n nm≠eqClk n q then ⟨30,q.line,q.col⟩ else fitsP n q.right (eqClk n q)
noncomputable def clkNF (_:Nat) (n:Nd):Ft:=ft2 (fstL (clkVF n) n.vars) (fstL (clkQF n) n.eqs)
noncomputable def clockF (s:List Nd):Ft:=ft2 (scopeF s) (fstL clkNF s)
theorem clkVF_yes {n:Nd} {i:Nat} {v:Vr} (h:RightClk n v.clock):clkVF n i v=ft0:=if_neg (fun g=>g h)
theorem clkVF_no {n:Nd} {i:Nat} {v:Vr} (h:¬RightClk n v.clock):clkVF n i v=⟨30,v.line,v.col⟩:=if_pos h
theorem clkQF_bad {n:Nd} {i:Nat} {q:Eqn} {nm:ByteArray} (h:nm∈q.left) (h':clockOf n nm≠eqClk n q):clkQF n i q=⟨30,q.line,q.col⟩:=if_pos ⟨nm,h,h'⟩
theorem clkQF_ok {n:Nd} {i:Nat} {q:Eqn} (h:∀nm∈q.left,clockOf n nm=eqClk n q):clkQF n i q=fitsP n q.right (eqClk n q):=if_neg (fun ⟨nm,hm,g⟩=>g (h nm hm))
theorem eqClk_head {n:Nd} {q:Eqn} {nm:ByteArray} (h:q.left[0]? =some nm):eqClk n q=clockOf n nm:=by
 unfold eqClk
 cases hq:q.left with
 |nil=>rw[hq] at h;simp at h
 |cons a l=>rw[hq] at h;simp at h;subst h;rfl
theorem clkNF_zero {n:Nd} {i:Nat} (h:(clkNF i n).err=0):clkNF i n=ft0:=by
 unfold clkNF at h⊢
 obtain ⟨h1,h2⟩:=ft2_ok h
 rw[ft2_0 h1]
 exact fstL_zero h2
theorem nodup_le {α:Type}:∀{l m:List α},(∀(i j:Nat) (x:α),l[i]? =some x→l[j]? =some x→i=j)→(∀x∈l,x∈m)→l.length≤m.length
 | [],_,_,_=>Nat.zero_le _
 |a::l,m,hd,hs=>by
  obtain ⟨m1,m2,rfl⟩:=List.append_of_mem (hs a (by simp))
  have h:=nodup_le (l:=l) (m:=m1++m2) (fun i j x hi hj=>by
   have:=hd (i+1) (j+1) x (by simpa using hi) (by simpa using hj)
   omega) (fun x hx=>by
   have hne:x≠a:=fun e=>by
    subst e
    obtain ⟨i,hi⟩:=List.getElem?_of_mem hx
    have:=hd 0 (i+1) x rfl (by simpa using hi)
    omega
   have:=hs x (by simp[hx])
   simp only[List.mem_append,List.mem_cons] at this⊢
   rcases this with h|h|h
   ·exact .inl h
   ·exact absurd h hne
   ·exact .inr h)
  simp only[List.length_cons,List.length_append] at h⊢
  omega
def Once (l:List ByteArray):Prop:=∀(i j:Nat) x,l[i]? =some x→l[j]? =some x→i=j
theorem once_of {l:List ByteArray} (h:∀(i:Nat) x,l[i]? =some x→x∉l.take i):Once l:=fun i j x hi hj=>by
 rcases Nat.lt_trichotomy i j with g|g|g
 ·exact absurd (mem_take.2 ⟨i,g,hi⟩) (h j x hj)
 ·exact g
 ·exact absurd (mem_take.2 ⟨j,g,hj⟩) (h i x hi)
section
variable {s:List Nd} {n:Nd}
theorem ports_bare (hv:(variablesF n).err=0) {i:Nat} {v:Vr} (hi:(vrs n)[i]? =some v) (hp:i<n.ins.length+n.outs.length):v.clock=[]:=by
 have h:=fstL_ok (f:=varF n) (ft2_ok hv).1 i v hi
 unfold varF at h
 split at h
 ·exact absurd h (by show ¬(23:Int)=0;decide)
 ·split at h
  ·exact absurd h (by show ¬(30:Int)=0;decide)
  ·rename_i g
   exact List.eq_nil_of_length_eq_zero (by
    rcases Nat.eq_zero_or_pos v.clock.length with g0|g0
    ·exact g0
    ·exact absurd ⟨hp,g0⟩ g)
theorem call_ok {outs:Int} {x:Ex} (h:(oneF s n outs x).err=0) (h4:x.op=4):∃m,nodeAt s x.name=some m∧m.ins.length=x.args.length:=by
 unfold oneF at h
 rw[if_neg (by rw[h4];decide),if_pos h4] at h
 cases hm:nodeAt s x.name with
 |none=>rw[hm] at h;exact absurd h (by show ¬(24:Int)=0;decide)
 |some m=>
  rw[hm] at h
  simp only at h
  refine ⟨m,rfl,Classical.byContradiction fun g=>?_⟩
  rw[if_pos (.inl g)] at h
  exact absurd h (by show ¬(25:Int)=0;decide)
end
theorem conds_all {s:List Nd} (h:(scopeF s).err=0) {n:Nd} (hn:n∈s) {i:Nat} {v:Vr} (hi:(vrs n)[i]? =some v):∀c∈v.clock,c.name∈nms (vrs n):=by
 have hv:=(scope_nodes h n hn).1
 by_cases hp:i<n.ins.length+n.outs.length
 ·rw[ports_bare hv hi hp];intro c hc;cases hc
 ·have hm:v∈n.vars:=by
   rw[vrs,List.getElem?_append_right (by simp;omega)] at hi
   exact List.mem_of_getElem? hi
  exact (scope_kn h n hn).conds v hm
def signIn (op:Int):Int:=if op=12∨op=13 then 0 else if op=6∨op=18∨op=19∨op=20 then 2 else if 5≤op∧op≤17 then 1 else 0
def signOut (op:Int):Int:=if op=6∨(12≤op∧op≤20) then 2 else if 5≤op∧op≤11 then 1 else 0
def signB (op:Int):Bool:=decide (5≤op) && decide (op≤20)
theorem sign_any (op:Int) (w:World):
  Calls Tryz.prog 242 #[.int .i64 op] w fun e w'=>e= .returned (.tuple #[.int .i64 (signIn op),.int .i64 (signOut op),.bool (signB op)])∧w=w':=by
 by_cases h:5≤op∧op≤20
 ·rcases (by omega:op=5∨op=6∨op=7∨op=8∨op=9∨op=10∨op=11∨op=12∨op=13∨op=14∨op=15∨op=16∨op=17∨op=18∨op=19∨op=20) with rfl|rfl|rfl|rfl|rfl|rfl|rfl|rfl|rfl|rfl|rfl|rfl|rfl|rfl|rfl|rfl
  all_goals
   clear h
   go_enter Tryz.func242,Tryz.ntmps242
   go_wp2
   go_ret3
   exact ⟨rfl,rfl⟩
 ·have H1:=Lib.hid (show signIn op=0 from by unfold signIn;rw[if_neg (by omega),if_neg (by omega),if_neg (by omega)])
  have H2:=Lib.hid (show signOut op=0 from by unfold signOut;rw[if_neg (by omega),if_neg (by omega)])
  have H3:=Lib.hid (show signB op=false from by simp[signB];omega)
  by_cases hlt:op<5
  ·clear h
   go_enter Tryz.func242,Tryz.ntmps242
   go_wp2
   go_ret3
   exact ⟨by rw[H1.out,H2.out,H3.out];rfl,rfl⟩
  ·have hgt:20<op:=by omega
   clear h hlt
   go_enter Tryz.func242,Tryz.ntmps242
   go_wp2
   go_ret3
   exact ⟨by rw[H1.out,H2.out,H3.out];rfl,rfl⟩
theorem rsign_no (op:Int) (w:World) (h:op<5∨20<op):
  Calls Tryz.prog 174 #[.int .i64 op] w fun e w'=>e= .returned (.tuple #[.int .i64 0,.int .i64 0,.bool false])∧Below w.heap.size w w':=by
 rcases h with h|h
 ·refine' zq252
  go_ret3
  exact ⟨rfl,Below.refl _ _⟩
 ·have h':¬op<5:=by omega
  refine' zq252
  go_ret3
  exact ⟨rfl,Below.refl _ _⟩
theorem rsign_yes (op:Int) (w:World) (h:5≤op∧op≤20):
  Calls Tryz.prog 174 #[.int .i64 op] w fun e w'=>e= .returned (.tuple #[.int .i64 (signIn op),.int .i64 (signOut op),.bool true])∧Below w.heap.size w w':=by
 rcases (by omega:op=5∨op=6∨op=7∨op=8∨op=9∨op=10∨op=11∨op=12∨op=13∨op=14∨op=15∨op=16∨op=17∨op=18∨op=19∨op=20) with rfl|rfl|rfl|rfl|rfl|rfl|rfl|rfl|rfl|rfl|rfl|rfl|rfl|rfl|rfl|rfl
 all_goals
  clear h
  refine' zq252
  go_quiet (fail)
  go_wp2
  go_ret3
  exact ⟨rfl,below_drewN' (((Below.refl _ _).alloc (Nat.le_refl _) _).alloc (by simp) _) _⟩
def Fz (f:Ft):Prop:=f.err=0→f=ft0
theorem fz0:Fz ft0:=fun _=>rfl
theorem fz_ft2 {a b:Ft} (hb:Fz b):Fz (ft2 a b):=fun h=>by
 by_cases g:a.err=0
 ·rw[ft2_0 g] at h⊢;exact hb h
 ·rw[ft2_1 g] at h;exact absurd h g
theorem ft2_assoc (a b c:Ft):ft2 (ft2 a b) c=ft2 a (ft2 b c):=by
 by_cases h:a.err=0
 ·rw[ft2_0 h,ft2_0 h]
 ·rw[ft2_1 h,ft2_1 h,ft2_1 h]
theorem ft2_zero {a:Ft} (h:Fz a):ft2 a ft0=a:=by
 by_cases g:a.err=0
 ·rw[ft2_0 g,h g]
 ·exact ft2_1 g
theorem fz_fstl {l:List Ft}:Fz (fstl l):=fun h=>fstl_zero h
theorem fstl_snoc {l:List Ft} {x:Ft} (hx:Fz x):fstl (l++ [x])=ft2 (fstl l) x:=by
 rw[fstl_append]
 by_cases h:(fstl l).err=0
 ·rw[if_pos h,ft2_0 h]
  by_cases g:x.err=0
  ·rw[hx g];rfl
  ·exact fstl_cons1 g
 ·rw[if_neg h,ft2_1 h]
def accF (f:Ft) (l:List Ft) (k:Nat):Ft:=ft2 f (fstl (l.take k))
theorem acc_0 {f:Ft} {l:List Ft} (hf:Fz f):accF f l 0=f:=by unfold accF;rw[List.take_zero];exact ft2_zero hf
theorem acc_succ {f x:Ft} {l:List Ft} {k:Nat} (hx:l[k]? =some x) (hz:Fz x):accF f l (k+1)=ft2 (accF f l k) x:=by
 unfold accF
 rw[List.take_add_one,hx,Option.toList_some,fstl_snoc hz,ft2_assoc]
theorem acc_all {f:Ft} {l:List Ft}:accF f l l.length=ft2 f (fstl l):=by unfold accF;rw[List.take_length]
def needF (b:Bool) (l c:Int):Ft:=if b=true then ft0 else ⟨28,l,c⟩
theorem need_fz (b:Bool) (l c:Int):Fz (needF b l c):=fun h=>by
 cases b
 ·exact absurd h (by show ¬(28:Int)=0;decide)
 ·rfl
theorem need_no (l c:Int):needF false l c=⟨28,l,c⟩:=rfl
def tyOf (n:Nd) (nm:ByteArray):Int:=if 0≤varIdx n nm then (((vrs n)[(varIdx n nm).toNat]?).map Vr.ty).getD 0 else 0
theorem ty_at {n:Nd} {nm:ByteArray} {k:Nat} {x:Vr} (h:varIdx n nm=k) (hx:(vrs n)[k]? =some x):tyOf n nm=x.ty:=by
 unfold tyOf
 rw[h,if_pos (by omega)]
 simp[hx]
theorem ty_no {n:Nd} {nm:ByteArray} (h:nm∉nms (vrs n)):tyOf n nm=0:=by unfold tyOf;rw[if_neg (fun g=>h (var_mem.1 g))]
def outTy (m:Nd):Int:=(m.outs.head?.map Vr.ty).getD 0
def argL (e:Ex) (i:Nat):Int:=((e.args[i]?).map Ex.line).getD 0
def argC (e:Ex) (i:Nat):Int:=((e.args[i]?).map Ex.col).getD 0
theorem arg_at {e x:Ex} {i:Nat} (h:e.args[i]? =some x):argL e i=x.line∧argC e i=x.col:=by unfold argL argC;rw[h];exact ⟨rfl,rfl⟩
def callFs (m:Nd) (e:Ex) (l:List Int):List Ft:=m.ins.mapIdx fun i v=>needF (l.getD i 0==v.ty) (argL e i) (argC e i)
def sameArgs (op:Int) (e:Ex) (l:List Int):List Ft:=e.args.mapIdx fun i x=>needF (signIn op==0||l.getD i 0==signIn op) x.line x.col
def opF (s:List Nd) (n:Nd) (e:Ex) (l:List Int):Ft:=
 if e.op=4 then (match nodeAt s e.name with
  |none=>ft0
  |some m=>fstl (callFs m e l))
 else if signB e.op=true then ft2 (fstl (sameArgs e.op e l)) (needF (signIn e.op !=0||l.getD 0 0==l.getD (l.length-1) 0) e.line e.col)
 else if e.op=24∨e.op=25 then needF (tyOf n e.name==2) e.line e.col
 else if e.op=26 then ft2 (needF (tyOf n e.name==2) e.line e.col) (needF (l.getD 0 0==l.getD 1 0) e.line e.col)
 else if e.op=22∨e.op=23 then needF (l.getD 0 0==l.getD 1 0) e.line e.col
 else if e.op=27 then ft2 (needF (l.getD 0 0==2) (argL e 0) (argC e 0)) (needF (l.getD 1 0==l.getD 2 0) e.line e.col)
 else ft0
def opTy (s:List Nd) (n:Nd) (e:Ex) (l:List Int):Int:=
 if e.op=1∨e.op=2 then e.op
 else if e.op=3 then tyOf n e.name
 else if e.op=4 then (match nodeAt s e.name with
  |none=>0
  |some m=>outTy m)
 else if signB e.op=true then signOut e.op
 else if e.op=27 then l.getD 1 0
 else l.getD 0 0
def tyStep (s:List Nd) (n:Nd) (e:Ex) (rs:List (Ft × Int)):Ft × Int:=
 (ft2 (fstl (rs.map Prod.fst)) (opF s n e (rs.map Prod.snd)),opTy s n e (rs.map Prod.snd))
noncomputable def tyR (s:List Nd) (n:Nd):Ex→Ft × Int:=Ex.para (tyStep s n)
theorem tyR_eq (s:List Nd) (n:Nd) (e:Ex):tyR s n e=tyStep s n e (e.args.map (tyR s n)):=Ex.para_eq _ e
noncomputable def tyF (s:List Nd) (n:Nd) (e:Ex):Ft:=(tyR s n e).1
noncomputable def tyK (s:List Nd) (n:Nd) (e:Ex):Int:=(tyR s n e).2
noncomputable def argFs (s:List Nd) (n:Nd) (e:Ex):List Ft:=e.args.map (tyF s n)
noncomputable def argKs (s:List Nd) (n:Nd) (e:Ex):List Int:=e.args.map (tyK s n)
theorem tyF_eq (s:List Nd) (n:Nd) (e:Ex):tyF s n e=ft2 (fstl (argFs s n e)) (opF s n e (argKs s n e)):=by
 unfold tyF
 rw[tyR_eq]
 unfold tyStep argFs argKs
 rw[List.map_map,List.map_map]
 rfl
theorem tyK_eq (s:List Nd) (n:Nd) (e:Ex):tyK s n e=opTy s n e (argKs s n e):=by
 unfold tyK
 rw[tyR_eq]
 show opTy s n e ((e.args.map (tyR s n)).map Prod.snd)=_
 rw[List.map_map]
 rfl
theorem opF_fz {s:List Nd} {n:Nd} {e:Ex} {l:List Int}:Fz (opF s n e l):=by
 unfold opF
 split
 ·split
  ·exact fz0
  ·exact fz_fstl
 ·split
  ·exact fz_ft2 (need_fz _ _ _)
  ·split
   ·exact need_fz _ _ _
   ·split
    ·exact fz_ft2 (need_fz _ _ _)
    ·split
     ·exact need_fz _ _ _
     ·split
      ·exact fz_ft2 (need_fz _ _ _)
      ·exact fz0
theorem tyF_fz {s:List Nd} {n:Nd} {e:Ex}:Fz (tyF s n e):=by rw[tyF_eq];exact fz_ft2 opF_fz
structure TyX (s:List Nd) (n:Nd) (x:Ex):Prop where
 plain:plainB x=true
 name:namesB x.op=true→x.name∈nms (vrs n)
 call:x.op=4→∃m,nodeAt s x.name=some m∧m.ins.length=x.args.length∧1≤m.outs.length
def TyKn (s:List Nd) (n:Nd) (e:Ex):Prop:=∀x∈exList e,TyX s n x
theorem TyKn.sub {s:List Nd} {n:Nd} {e x:Ex} (h:TyKn s n e) (hx:x∈e.args):TyKn s n x:=fun y hy=>h y (exList_sub hx hy)
theorem TyKn.own {s:List Nd} {n:Nd} {e:Ex} (h:TyKn s n e):TyX s n e:=h e (exList_self e)
theorem parts_of {e:Ex} (h:plainB e=true):(1≤e.op∧e.op≤27)∧(e.op≤3→e.args.length=0)∧(e.op=4→1≤e.args.length∧e.args.length≤8)∧(e.op=5∨e.op=6∨e.op=21∨e.op=24∨e.op=25→e.args.length=1)∧
  ((7≤e.op∧e.op≤20)∨e.op=22∨e.op=23∨e.op=26→e.args.length=2)∧(e.op=27→e.args.length=3):=by
 have k2:partsZ e.op≠-2:=fun g=>by
  unfold plainB plainK at h
  rw[if_pos g] at h
  cases h
 have k1:partsZ e.op= -1→1≤e.args.length∧e.args.length≤8:=fun h0=>Classical.byContradiction fun hne=>by
  unfold plainB at h
  rw[plainK_no1 ⟨h0,by omega⟩] at h
  cases h
 refine' zq257
 clear h
 unfold partsZ at k2 k1 key
 refine ⟨?_,?_,?_,?_,?_,?_⟩
 ·constructor
  ·refine Classical.byContradiction fun g=>k2 ?_
   rw[if_neg (by omega),if_neg (by omega),if_neg (by omega),if_neg (by omega),if_neg (by omega)]
  ·refine Classical.byContradiction fun g=>k2 ?_
   rw[if_neg (by omega),if_neg (by omega),if_neg (by omega),if_neg (by omega),if_neg (by omega)]
 ·intro g
  by_cases g1:e.op=1∨e.op=2∨e.op=3
  ·rw[if_pos g1] at key
   have:=key (by omega)
   omega
  ·exact absurd (by rw[if_neg g1,if_neg (by omega),if_neg (by omega),if_neg (by omega),if_neg (by omega)]) k2
 ·intro g
  exact k1 (by rw[if_neg (by omega),if_pos g])
 ·intro g
  rw[if_neg (by omega),if_neg (by omega),if_pos (by omega)] at key
  have:=key (by omega)
  omega
 ·intro g
  rw[if_neg (by omega),if_neg (by omega),if_neg (by omega),if_pos (by omega)] at key
  have:=key (by omega)
  omega
 ·intro g
  rw[if_neg (by omega),if_neg (by omega),if_neg (by omega),if_neg (by omega),if_pos g] at key
  have:=key (by omega)
  omega
theorem node_outs {s:List Nd} (h:SrcRt s) {nm:ByteArray} {m:Nd} (hm:nodeAt s nm=some m):1≤m.outs.length:=by
 have:m∈s:=List.mem_of_find?_eq_some hm
 have h2:=(h.1 m this).2.2.2.2.2.1.2.1
 omega
theorem tykn_of {s:List Nd} (h:(scopeF s).err=0) {n:Nd} (hn:n∈s) {q:Eqn} (hq:q∈n.eqs):TyKn s n q.right:=by
 have hk:=scope_kn h n hn
 have hr:=(hk.rt.1 q hq).2.2.2
 simp only[exRight,Bool.and_eq_true,List.all_eq_true] at hr
 refine fun x hx=>⟨hr.1 x hx,hk.exprs q hq x hx,fun h4=>?_⟩
 obtain ⟨i,hi⟩:=List.getElem?_of_mem hq
 obtain ⟨j,hj⟩:=List.getElem?_of_mem hx
 obtain ⟨m,hm,hl⟩:=call_ok (expr_ok (eqn_ok (scope_nodes h n hn).2 i q hi).2 j x hj) h4
 exact ⟨m,hm,hl,node_outs (scope_rt h) hm⟩
def clkTs (n:Nd) (v:Vr):List Ft:=v.clock.map fun c=>needF (tyOf n c.name==2) v.line v.col
def clkTF (n:Nd) (v:Vr):Ft:=fstl (clkTs n v)
noncomputable def comeOf (s:List Nd) (n:Nd) (q:Eqn):List Int:=
 if q.right.op=4 then (match nodeAt s q.right.name with
  |none=> []
  |some m=>m.outs.map Vr.ty)
 else [tyK s n q.right]
noncomputable def leftTs (s:List Nd) (n:Nd) (q:Eqn):List Ft:=q.left.mapIdx fun i nm=>needF (tyOf n nm==(comeOf s n q).getD i 0) q.line q.col
noncomputable def eqnTF (s:List Nd) (n:Nd) (q:Eqn):Ft:=ft2 (tyF s n q.right) (fstl (leftTs s n q))
noncomputable def nodeTF (s:List Nd) (n:Nd):Ft:=ft2 (fstl (n.vars.map (clkTF n))) (fstl (n.eqs.map (eqnTF s n)))
noncomputable def typesF (s:List Nd):Ft:=ft2 (scopeF s) (fstL (fun _ n=>nodeTF s n) s)
theorem fstL_map {α:Type} (F:α→Ft) (l:List α):fstL (fun _ x=>F x) l=fstl (l.map F):=by unfold fstL;rw[mapIdx_const]
theorem clkTF_fz {n:Nd} {v:Vr}:Fz (clkTF n v):=fz_fstl
theorem eqnTF_fz {s:List Nd} {n:Nd} {q:Eqn}:Fz (eqnTF s n q):=fz_ft2 fz_fstl
theorem nodeTF_fz {s:List Nd} {n:Nd}:Fz (nodeTF s n):=fz_ft2 fz_fstl
theorem come_len {s:List Nd} (h:(scopeF s).err=0) {n:Nd} (hn:n∈s) {q:Eqn} (hq:q∈n.eqs):(comeOf s n q).length=q.left.length∧1≤q.left.length:=by
 have hk:=scope_kn h n hn
 have hl:=(hk.rt.1 q hq).2.1
 obtain ⟨i,hi⟩:=List.getElem?_of_mem hq
 obtain ⟨h1,h2⟩:=eqn_ok (scope_nodes h n hn).2 i q hi
 have h3:=expr_ok h2 0 q.right (by rw[exList_eq];rfl)
 rw[if_pos rfl] at h3
 have h1':1≤q.left.length:=by omega
 refine ⟨?_,h1'⟩
 unfold comeOf
 by_cases h4:q.right.op=4
 ·rw[if_pos h4]
  unfold oneF at h3
  rw[if_neg (by rw[h4];decide),if_pos h4] at h3
  cases hm:nodeAt s q.right.name with
  |none=>rw[hm] at h3;exact absurd h3 (by show ¬(24:Int)=0;decide)
  |some m=>
   rw[hm] at h3
   dsimp only at h3⊢
   rw[List.length_map]
   by_cases hh:m.ins.length≠q.right.args.length∨(m.outs.length:Int)≠(q.left.length:Int)
   ·rw[if_pos hh] at h3;exact absurd h3 (by show ¬(25:Int)=0;decide)
   ·omega
 ·rw[if_neg h4]
  have h5:=(ft2_ok h1).2
  unfold countF at h5
  by_cases hc:1<q.left.length∧q.right.op≠4
  ·rw[if_pos hc] at h5;exact absurd h5 (by show ¬(25:Int)=0;decide)
  ·have:¬1<q.left.length:=fun g=>hc ⟨g,h4⟩
   show 1=q.left.length
   omega
end Go.Proofs.YtgjfkidbfmbjoaaGreat
