/-
  A node's variable of a name, a source's node of a name: the contracts of tompionref15.Var, Node and scope.Var, Find. What is right of sources, and what is wrong first with their names: plain. Rows of texts and of conditions: where one is, whether two are one. Few nodes: the contracts of tompionlaw12.fewVars and FewNodes. Few nodes: the contract of tompionlaw12.FewNodes.
-/
import Derived.Test.YtdkgkacnjdnpoaaGreatZz
import Derived.Test.YtdkgkacnjdnpoaaGreatScB
import Derived.Test.YtdkgkacnjdnpoaaGreatMem
import Derived.Laws.StructEq
import Derived.Deep.DrawnRows
import Derived.Test.YtdkgkacnjdnpoaaGreatFltQ
import Derived.Test.YtdkgkacnjdnpoaaGreatTreeRight
set_option maxHeartbeats 2000000
set_option maxRecDepth 100000
namespace Go.Proofs.YtdkgkacnjdnpoaaGreat
open Go.RowKit
theorem ba_inj {a b:ByteArray} (h:a.toList=b.toList):a=b:=WideShapes.bytes_inj (by rw[←ByteArray.toList_eq,←ByteArray.toList_eq];exact h)
theorem beq_yes {a b:ByteArray} (h:a=b):(a.toList==b.toList)=true:=by rw[h];simp
theorem beq_no {a b:ByteArray} (h:a≠b):(a.toList==b.toList)=false:=by rw[beq_eq_false_iff_ne];exact fun g=>h (ba_inj g)
theorem map_get {α β:Type} {l:List α} {k:Nat} {x:α} (f:α→β) (h:l[k]? =some x):(l.map f)[k]? =some (f x):=by rw[List.getElem?_map,h];rfl
theorem map_upto {α β:Type} {l:List α} {k:Nat} {f:α→β} {P:β→Prop} (h:∀j,j<k→∀x,l[j]? =some x→P (f x)):∀j,j<k→∀y,(l.map f)[j]? =some y→P y:=fun j hj y hy=>by
 rw[List.getElem?_map,Option.map_eq_some_iff] at hy
 obtain ⟨x,h1,rfl⟩:=hy
 exact h j hj x h1
theorem step_upto {α:Type} {l:List α} {k:Nat} {x:α} {P:α→Prop} (h:∀j,j<k→∀y,l[j]? =some y→P y) (hk:l[k]? =some x) (hx:P x):∀j,j<k+1→∀y,l[j]? =some y→P y:=
 upto_succ h (fun y hy=>by rw[hk] at hy;injection hy with hy;rw[←hy];exact hx)
abbrev vr0:Vr:=⟨⟨#[]⟩,0,[],0,0⟩
abbrev srcV (s:List Nd) (A:Option Addr) (cap:Nat):Value:= .agg #[.slice A s.length cap]
def VarRes (n:Nd) (nm:ByteArray) (w:World) (e:Ending) (w':World):Prop:=
 ((∃(k:Nat) (x:Vr) (A:Option Addr) (cap:Nat),varIdx n nm=k∧(vrs n)[k]? =some x∧e= .returned (.tuple #[vrV x A cap,.bool true])∧VrOk x∧x.clock.length≤cap∧cap≤maxLen∧Sl w' w.heap.size 2 isLit A x.clock)∨
  (varIdx n nm= -1∧e= .returned (.tuple #[vrV vr0 none 0,.bool false])))∧Below w.heap.size w w'
theorem svar_any (n:Nd) (a:NdA) (nm:ByteArray) (w:World) (h:NdAt w w.heap.size n a) (hl:(vrs n).length≤10000):
  Calls Tryz.prog 43 #[ndV n a,.string nm] w (VarRes n nm w):=by
 have b1:Below w.heap.size w ((w.alloc (.cells (ndArr n a) 58)).alloc (.cells (vrArr vr0 none 0) 103)):=((Below.refl _ _).alloc (Nat.le_refl _) _).alloc (by simp) _
 have r1:=rowNew2 w (.cells (ndArr n a) 58) (vrArr vr0 none 0) 103
 have H:=Lib.hid (h.below b1)
 have HL:=Lib.hid hl
 clear h hl
 go_enter Tryz.func43,Tryz.ntmps43
 go_wp2_with fail
 refine (all_any w.heap.size n a _ (by simp;omega) H.out HL.out).mono ?_
 rintro e w2 ⟨⟨v,rfl,ho⟩,hb2⟩
 obtain ⟨A,cap,rfl,hl1,hl2,hs⟩:=ho.sl
 have hB:Below w.heap.size w w2:=b1.trans (hb2.mono (by simp;omega))
 have r2:=r1.below hb2 (by simp)
 have hl3:cap≤9223372036854775807:=by unfold maxLen at hl2;omega
 have HS:=Lib.hid hs
 have hl4:=HL.out
 have hsz2:=hB.size
 clear ho hs hb2 r1 b1 H
 have HV:Hid (varIdx n nm=idxOf ((vrs n).map (·.name)) nm):=rfl
 have HW:∃L,L=vrs n∧Hid (∀(k:Nat) x,L[k]? =some x→(vrs n)[k]? =some x):=⟨_,rfl,fun _ _ h=>h⟩
 have HV:Hid (varIdx n nm=idxOf ((vrs n).map (·.name)) nm):=rfl
 obtain ⟨l,hll,HW⟩:=HW
 rw[←hll] at hl1 hl4 HV HS⊢
 clear hll
 go_wp2_with fail
 go_loopw[11] (fun i wr=>∃k:Nat,k≤l.length∧i= .int .i64 k∧Hid (∀j,j<k→∀x,l[j]? =some x→x.name≠nm)∧Below w2.heap.size w2 wr) (fun i _=>l.length-(intOf i).toNat)
 case atStart=>exact ⟨0,Nat.zero_le _,rfl,fun j h=>absurd h (by omega),Below.refl _ _⟩
 case round=>
  obtain ⟨k,hk,rfl,HN,hbr⟩:=hrel
  have rr:=r2.below hbr r2.lt
  have hszr:=hbr.size
  have hlr:=rr.lt
  obtain ⟨⟨z0,z1,z2,z3,z4⟩,f0,f1,f2,f3,f4⟩:=rr.five
  have hB3:=hB.trans (hbr.mono hsz2)
  by_cases hlt:k<l.length
  ·obtain ⟨b,off,x,A',cap',rfl,hb,hx,ok,h1,h2,h3,c0,c1,c2,c3,c4⟩:=(vrs_keep2 HS.out hbr hsz2).vr hlt
   have HX:=Lib.hid hx
   have H3:=Lib.hid h3
   clear hx h3
   by_cases e:x.name=nm
   ·have e1:=beq_yes e
    have HF:=Lib.hid (show varIdx n nm=k by rw[HV.out];exact idx_at (map_upto (P:=(·≠nm)) HN.out) (by rw[map_get _ HX.out,e]))
    clear e
    go_wp2_with fail
    have bb:Below w.heap.size wr ((((((wr.setCell ⟨w.heap.size+1,0,none⟩ (.string x.name)).setCell ⟨w.heap.size+1,1,none⟩ (.int .i64 x.ty)).setCell ⟨w.heap.size+1,2,none⟩ (.slice A' x.clock.length cap')).setCell ⟨w.heap.size+1,3,none⟩ (.int .i64 x.line)).setCell ⟨w.heap.size+1,4,none⟩ (.int .i64 x.col)).alloc (.cells (vrArr x A' cap') 103)):=by
     refine Below.alloc ?_ (by simp[World.setCell];omega) _
     repeat (first|exact Below.refl _ _|refine Below.setCell ?_ (by simp) _)
    exact bodyPost_ret (v:= .tuple #[vrV x A' cap',.bool true]) (res2 rfl Tryz.underlying103 rfl (by kernel_rfl) rfl rfl ((rr.set5 _ _ _ _ _).alloc _)) rfl ⟨.inl ⟨k,x,A',cap',HF.out,HW.out k x HX.out,rfl,ok,h1,h2,H3.out.below bb⟩,hB3.trans bb⟩
   ·have HN':=Lib.hid (step_upto (P:=fun x=>x.name≠nm) HN.out HX.out e)
    have e1:=beq_no e
    clear e
    go_wp2_with fail
    go_roundw
    case rel=>exact ⟨k+1,by omega,by go_num,HN',hbr.alloc hszr _⟩
    case measure=>simp[intOf];omega
  ·obtain rfl:k=l.length:=by omega
   have HF:=Lib.hid (show varIdx n nm= -1 by rw[HV.out];exact idx_none (by rw[List.length_map];exact map_upto (P:=(·≠nm)) HN.out))
   go_wp2_with fail
   refine bodyPost_ret (v:= .tuple #[vrV vr0 none 0,.bool false]) (res2 rfl Tryz.underlying103 rfl (by kernel_rfl) rfl rfl (rr.set5 _ _ _ _ _)) rfl ⟨.inr ⟨HF.out,rfl⟩,?_⟩
   repeat (first|exact hB3|refine Below.setCell ?_ (by simp) _)
open _root_.Go.Proofs.YtdkgkacnjdnpoaaGreat.Nm
def fstl:List Ft→Ft
 | []=>ft0
 |f::l=>if f.err=0 then fstl l else f
theorem fstl_cons0 {f:Ft} {l:List Ft} (h:f.err=0):fstl (f::l)=fstl l:=if_pos h
theorem fstl_cons1 {f:Ft} {l:List Ft} (h:f.err≠0):fstl (f::l)=f:=if_neg h
theorem fstl_none {l:List Ft} (h:∀f∈l,f.err=0):fstl l=ft0:=by
 induction l with
 |nil=>rfl
 |cons f l ih=>rw[fstl_cons0 (h f (by simp))];exact ih fun g hg=>h g (by simp[hg])
theorem fstl_append (l m:List Ft):fstl (l++m)=if (fstl l).err=0 then fstl m else fstl l:=by
 induction l with
 |nil=>rfl
 |cons f l ih=>
  by_cases h:f.err=0
  ·rw[List.cons_append,fstl_cons0 h,fstl_cons0 h,ih]
  ·rw[List.cons_append,fstl_cons1 h,fstl_cons1 h,if_neg h]
theorem fstl_ok {l:List Ft} (h:(fstl l).err=0):∀f∈l,f.err=0:=by
 induction l with
 |nil=>intro f hf;cases hf
 |cons g l ih=>
  by_cases hg:g.err=0
  ·rw[fstl_cons0 hg] at h
   intro f hf
   rcases List.mem_cons.1 hf with rfl|hf
   ·exact hg
   ·exact ih h f hf
  ·rw[fstl_cons1 hg] at h;exact absurd h hg
theorem fstl_zero {l:List Ft} (h:(fstl l).err=0):fstl l=ft0:=fstl_none (fstl_ok h)
theorem fstl_stop {l:List Ft} {k:Nat} {f:Ft} (h:∀j,j<k→∀g,l[j]? =some g→g.err=0) (hf:l[k]? =some f) (hne:f.err≠0):fstl l=f:=by
 induction l generalizing k with
 |nil=>simp at hf
 |cons g l ih=>
  cases k with
  |zero=>simp at hf;subst hf;exact fstl_cons1 hne
  |succ k=>
   rw[fstl_cons0 (h 0 (by omega) g rfl)]
   exact ih (k:=k) (fun j hj g' hg'=>h (j+1) (by omega) g' (by simpa using hg')) (by simpa using hf)
theorem fstl_flatten (L:List (List Ft)):fstl L.flatten=fstl (L.map fstl):=by
 induction L with
 |nil=>rfl
 |cons l L ih=>
  rw[List.flatten_cons,List.map_cons,fstl_append]
  by_cases h:(fstl l).err=0
  ·rw[if_pos h,fstl_cons0 h,ih]
  ·rw[if_neg h,fstl_cons1 h]
def fstL {α:Type} (f:Nat→α→Ft) (l:List α):Ft:=fstl (l.mapIdx f)
section
variable {α:Type} {f g:Nat→α→Ft} {l:List α} {k:Nat} {x:α}
theorem fstL_stop (h:∀j,j<k→∀y,l[j]? =some y→(f j y).err=0) (hx:l[k]? =some x) (hne:(f k x).err≠0):fstL f l=f k x:=by
 refine fstl_stop (k:=k) ?_ (by rw[List.getElem?_mapIdx,hx];rfl) hne
 intro j hj g hg
 rw[List.getElem?_mapIdx,Option.map_eq_some_iff] at hg
 obtain ⟨y,hy,rfl⟩:=hg
 exact h j hj y hy
theorem fstL_end (h:∀j,j<l.length→∀y,l[j]? =some y→(f j y).err=0):fstL f l=ft0:=by
 refine fstl_none fun g hg=>?_
 obtain ⟨j,hj⟩:=List.getElem?_of_mem hg
 rw[List.getElem?_mapIdx,Option.map_eq_some_iff] at hj
 obtain ⟨y,hy,rfl⟩:=hj
 exact h j (List.getElem?_eq_some_iff.1 hy).1 y hy
theorem fstL_ok (h:(fstL f l).err=0):∀(j:Nat) y,l[j]? =some y→(f j y).err=0:=fun j y hy=>
 fstl_ok h _ (List.mem_of_getElem? (i:=j) (by rw[List.getElem?_mapIdx,hy];rfl))
theorem fstL_zero (h:(fstL f l).err=0):fstL f l=ft0:=fstl_zero h
theorem step_uptoI {P:Nat→α→Prop} (h:∀j,j<k→∀y,l[j]? =some y→P j y) (hk:l[k]? =some x) (hx:P k x):∀j,j<k+1→∀y,l[j]? =some y→P j y:=
 upto_succ h (fun y hy=>by rw[hk] at hy;injection hy with hy;rw[←hy];exact hx)
end
def ft2 (a b:Ft):Ft:=if a.err=0 then b else a
theorem ft2_0 {a b:Ft} (h:a.err=0):ft2 a b=b:=if_pos h
theorem ft2_1 {a b:Ft} (h:a.err≠0):ft2 a b=a:=if_neg h
theorem ft2_ok {a b:Ft} (h:(ft2 a b).err=0):a.err=0∧b.err=0:=by
 by_cases ha:a.err=0
 ·rw[ft2_0 ha] at h;exact ⟨ha,h⟩
 ·rw[ft2_1 ha] at h;exact absurd h ha
def VrRt (x:Vr):Prop:=(∀c∈x.clock,nameB c.name.toList=true)∧nameB x.name.toList=true∧(x.ty=1∨x.ty=2)∧x.clock.length≤4
def VrsRt (l:List Vr) (lo hi:Int):Prop:=(∀v∈l,VrRt v)∧lo≤l.length∧l.length≤hi
def EqnRt (q:Eqn):Prop:=(∀s∈q.left,nameB s.toList=true)∧1≤q.left.length∧q.left.length≤8∧exRight q.right=true
def NdRt (n:Nd):Prop:=(∀q∈n.eqs,EqnRt q)∧nameB n.name.toList=true∧1≤n.eqs.length∧n.eqs.length≤48∧VrsRt n.ins 1 8∧VrsRt n.outs 1 8∧VrsRt n.vars 0 40
def SrcRt (s:List Nd):Prop:=(∀n∈s,NdRt n)∧1≤s.length∧s.length≤16
abbrev nms (l:List Vr):List ByteArray:=l.map Vr.name
def lefts (l:List Eqn):List ByteArray:=(l.map Eqn.left).flatten
open Classical in
noncomputable def nameF (s:List Nd) (i:Nat) (n:Nd):Ft:=if n.name∈(s.map Nd.name).take i then ⟨23,n.line,n.col⟩ else ft0
open Classical in
noncomputable def varF (n:Nd) (i:Nat) (v:Vr):Ft:=
 if v.name∈(nms (vrs n)).take i then ⟨23,v.line,v.col⟩ else if i<n.ins.length+n.outs.length∧0<v.clock.length then ⟨30,v.line,v.col⟩ else ft0
open Classical in
noncomputable def condF (n:Nd) (v:Vr) (_:Nat) (c:Lt):Ft:=if c.name∉nms (vrs n) then ⟨24,v.line,v.col⟩ else ft0
noncomputable def clkF (n:Nd) (_:Nat) (v:Vr):Ft:=fstL (condF n v) v.clock
noncomputable def variablesF (n:Nd):Ft:=ft2 (fstL (varF n) (vrs n)) (fstL (clkF n) n.vars)
open Classical in
noncomputable def leftNF (n:Nd) (met:List ByteArray) (q:Eqn) (k:Nat) (nm:ByteArray):Ft:=
 if nm∉nms (vrs n) then ⟨24,q.line,q.col⟩ else if nm∈met++q.left.take k then ⟨23,q.line,q.col⟩ else ft0
open Classical in
noncomputable def countF (q:Eqn):Ft:=if 1<q.left.length∧q.right.op≠4 then ⟨25,q.line,q.col⟩ else ft0
noncomputable def leftF (n:Nd) (met:List ByteArray) (q:Eqn):Ft:=ft2 (fstL (leftNF n met q) q.left) (countF q)
def nodeAt (s:List Nd) (nm:ByteArray):Option Nd:=s.find? (fun m=>decide (m.name=nm))
open Classical in
noncomputable def oneF (s:List Nd) (n:Nd) (outs:Int) (e:Ex):Ft:=
 if namesB e.op=true then (if e.name∉nms (vrs n) then ⟨24,e.line,e.col⟩ else ft0)
 else if e.op=4 then (match nodeAt s e.name with
  |none=>⟨24,e.line,e.col⟩
  |some m=>if m.ins.length≠e.args.length∨(m.outs.length:Int)≠outs then ⟨25,e.line,e.col⟩ else ft0)
 else ft0
noncomputable def subF (s:List Nd) (n:Nd):Ex→Ft:=Ex.para fun e fs=>ft2 (oneF s n 1 e) (fstl fs)
noncomputable def exprF (s:List Nd) (n:Nd) (outs:Int) (e:Ex):Ft:=ft2 (oneF s n outs e) (fstL (fun _ x=>subF s n x) e.args)
theorem mapIdx_const {α β:Type} (f:α→β) (l:List α):l.mapIdx (fun _ x=>f x)=l.map f:=by
 refine List.ext_getElem? fun j=>?_
 rw[List.getElem?_mapIdx,List.getElem?_map]
theorem subF_eq (s:List Nd) (n:Nd) (e:Ex):subF s n e=exprF s n 1 e:=by
 unfold exprF fstL
 rw[mapIdx_const]
 exact Ex.para_eq _ e
noncomputable def stepF (s:List Nd) (n:Nd) (outs:Int) (i:Nat) (e:Ex):Ft:=oneF s n (if i=0 then outs else 1) e
theorem subF_list (s:List Nd) (n:Nd) (e:Ex):fstl ((exList e).map (oneF s n 1))=subF s n e:=by
 induction e using Ex.ind with
 |h e ih=>
  rw[exList_eq,List.map_cons,subF_eq]
  unfold exprF fstL
  rw[mapIdx_const,List.map_flatten,List.map_map]
  have:fstl ((e.args.map (List.map (oneF s n 1) ∘ exList)).flatten)=fstl (e.args.map (subF s n)):=by
   rw[fstl_flatten,List.map_map]
   congr 1
   exact List.map_congr_left fun x hx=>ih x hx
  show (if _ then _ else _)=ft2 _ _
  rw[this]
  rfl
theorem exprF_list (s:List Nd) (n:Nd) (outs:Int) (e:Ex):fstL (stepF s n outs) (exList e)=exprF s n outs e:=by
 unfold fstL
 rw[exList_eq,List.mapIdx_cons]
 have h1:(e.args.map exList).flatten.mapIdx (fun i=>stepF s n outs (i+1))=(e.args.map exList).flatten.map (oneF s n 1):=by
  have:(fun i=>stepF s n outs (i+1))=fun _ x=>oneF s n 1 x:=by funext i x;simp[stepF]
  rw[this,mapIdx_const]
 have h2:fstl ((e.args.map exList).flatten.map (oneF s n 1))=fstl (e.args.map (subF s n)):=by
  rw[List.map_flatten,List.map_map,fstl_flatten,List.map_map]
  congr 1
  exact List.map_congr_left fun x _=>subF_list s n x
 rw[h1]
 unfold exprF fstL
 rw[mapIdx_const]
 show (if _ then _ else _)=ft2 _ _
 rw[h2]
 rfl
def metTo (n:Nd) (i:Nat):List ByteArray:=nms n.ins++lefts (n.eqs.take i)
noncomputable def eqnF (s:List Nd) (n:Nd) (i:Nat) (q:Eqn):Ft:=ft2 (leftF n (metTo n i) q) (exprF s n q.left.length q.right)
open Classical in
noncomputable def defF (n:Nd) (_:Nat) (v:Vr):Ft:=if v.name∉metTo n n.eqs.length then ⟨26,v.line,v.col⟩ else ft0
noncomputable def equationsF (s:List Nd) (n:Nd):Ft:=ft2 (fstL (eqnF s n) n.eqs) (fstL (defF n) (n.outs++n.vars))
noncomputable def nodeF (s:List Nd) (_:Nat) (n:Nd):Ft:=ft2 (variablesF n) (equationsF s n)
abbrev mainNm:ByteArray:=⟨#[109,97,105,110]⟩
open Classical in
noncomputable def mainF (s:List Nd):Ft:=if mainNm∉s.map Nd.name then ⟨27,0,0⟩ else ft0
open Classical in
noncomputable def scopeF (s:List Nd):Ft:=if ¬SrcRt s then ⟨2,0,0⟩ else ft2 (fstL (nameF s) s) (ft2 (fstL (nodeF s) s) (mainF s))
theorem var_mem {n:Nd} {nm:ByteArray}:0≤varIdx n nm↔nm∈nms (vrs n):=idx_mem
theorem var_neg {n:Nd} {nm:ByteArray}:varIdx n nm<0↔nm∉nms (vrs n):=by rw[←var_mem];omega
def DefAt (n:Nd) (nm:ByteArray) (i k:Nat):Prop:=∃q,n.eqs[i]? =some q∧q.left[k]? =some nm∧(∀j,j<i→∀q',n.eqs[j]? =some q'→nm∉q'.left)∧∀j,j<k→∀x,q.left[j]? =some x→x≠nm
def NoDef (n:Nd) (nm:ByteArray):Prop:=∀q∈n.eqs,nm∉q.left
theorem mem_take {α:Type} {l:List α} {i:Nat} {x:α}:x∈l.take i↔∃j,j<i∧l[j]? =some x:=by
 constructor
 ·intro h
  obtain ⟨j,hj⟩:=List.getElem?_of_mem h
  rw[List.getElem?_take] at hj
  split at hj
  ·exact ⟨j,‹_›,hj⟩
  ·cases hj
 ·rintro ⟨j,hj,h⟩
  exact List.mem_of_getElem? (i:=j) (by rw[List.getElem?_take,if_pos hj];exact h)
attribute [local go_sem ↓] Go.wp_at_zero Go.wp_at_succ
theorem index_str (l:List ByteArray) (nm:ByteArray) (A:Option Addr) (cap B:Nat) (w:World) (h1:l.length≤cap) (h2:cap≤maxLen) (h:Sl w B 1 isStr A l):
  Calls Tryz.prog 159 #[.slice A l.length cap,.string nm] w fun e w'=>e= .returned (.int .i64 (idxOf l nm))∧w=w':=by
 have HS:=Lib.hid h
 have hl3:cap≤9223372036854775807:=by unfold maxLen at h2;omega
 clear h
 go_enter Tryz.func159,Tryz.ntmps159
 go_wp2_with fail
 go_loop[8] (fun i=>∃k:Nat,k≤l.length∧i= .int .i64 k∧Hid (∀j,j<k→∀x,l[j]? =some x→x≠nm)) (fun i=>l.length-(intOf i).toNat)
 case atStart=>exact ⟨0,Nat.zero_le _,rfl,fun j h=>absurd h (by omega)⟩
 case round=>
  obtain ⟨k,hk,rfl,HN⟩:=hrel
  by_cases hlt:k<l.length
  ·obtain ⟨b,off,x,rfl,hb,hx,hsx,c0⟩:=HS.out.str hlt
   have HX:=Lib.hid hx
   clear hx
   by_cases e:x=nm
   ·have e1:=beq_yes e
    have e2:=beq_yes e.symm
    have HF:=Lib.hid (idx_at HN.out (e▸HX.out))
    clear e
    go_wp2_with fail
    go_ret
    exact ⟨ret_int HF.out.symm,rfl⟩
   ·have HN':=Lib.hid (step_upto (P:=fun x=>x≠nm) HN.out HX.out e)
    have e1:=beq_no e
    have e2:=beq_no (fun g=>e (Eq.symm g))
    clear e
    go_wp2_with fail
    go_round
    case rel=>exact ⟨k+1,by omega,by go_num,HN'⟩
    case measure=>simp[intOf];omega
  ·obtain rfl:k=l.length:=by omega
   have HF:=Lib.hid (idx_none HN.out)
   go_wp2_with fail
   go_ret
   exact ⟨ret_int HF.out.symm,rfl⟩
theorem lits_eq {l m:List Lt} (hl:l.length=m.length) (h:∀j,j<l.length→∀x y,l[j]? =some x→m[j]? =some y→x=y):l=m:=by
 apply List.ext_getElem hl
 intro i h1 h2
 exact h i h1 _ _ (List.getElem?_eq_getElem h1) (List.getElem?_eq_getElem h2)
theorem eqLits_any (l m:List Lt) (A1 A2:Option Addr) (c1 c2 B:Nat) (w:World) (_l1:l.length≤c1) (m1:c1≤maxLen) (s1:Sl w B 2 isLit A1 l) (l2:m.length≤c2) (m2:c2≤maxLen) (s2:Sl w B 2 isLit A2 m):
  Calls Tryz.prog 148 #[.slice A1 l.length c1,.slice A2 m.length c2] w fun e w'=>e= .returned (.bool (cB (l=m)))∧∃n,w'=w.drewN n:=by
 have m1':c1≤9223372036854775807:=by unfold maxLen at m1;omega
 have m2':c2≤9223372036854775807:=by unfold maxLen at m2;omega
 by_cases hl:l.length=m.length
 rotate_left 1
 ·have HF:=Lib.hid (cB_false (fun g:l=m=>hl (by rw[g])))
  have hl':((l.length:Int) !=(m.length:Int))=true:=by rw[bne_iff_ne];omega
  clear hl
  go_enter Tryz.func148,Tryz.ntmps148
  go_wp2_with fail
  go_ret
  exact ⟨ret_bool HF.out.symm,0,rfl⟩
 have hl':((l.length:Int) !=(m.length:Int))=false:=by rw[bne_eq_false_iff_eq];omega
 have HL:=Lib.hid hl
 have hle1:l.length≤m.length:=by omega
 clear hl
 go_enter Tryz.func148,Tryz.ntmps148
 go_wp2_with fail
 go_loopw[13] (fun i wr=>∃k:Nat,k≤l.length∧i= .int .i64 k∧Hid (∀j,j<k→∀x y,l[j]? =some x→m[j]? =some y→x=y)∧∃n,wr=w.drewN n) (fun i _=>l.length-(intOf i).toNat)
 case atStart=>exact ⟨0,Nat.zero_le _,rfl,fun j h=>absurd h (by omega),0,rfl⟩
 case round=>
  obtain ⟨k,hk,rfl,HN,n,rfl⟩:=hrel
  by_cases hlt:k<l.length
  ·obtain ⟨b1,o1,x,rfl,hb1,hx,wx,d1,d1'⟩:=s1.lit hlt
   obtain ⟨b2,o2,y,rfl,hb2,hy,wy,d2,d2'⟩:=s2.lit (show k<m.length by omega)
   have HX:=Lib.hid hx
   have HY:=Lib.hid hy
   clear hx hy
   have hk1:(k:Int)<l.length:=by omega
   have hk2:(k:Int)<m.length:=by omega
   have hk0:(0:Int)≤(k:Int):=by omega
   by_cases e1:x.name=y.name
   ·have e1':=beq_yes e1
    by_cases e2:x.no=y.no
    ·have e2':(x.no==y.no)=true:=by simp[e2]
     have HN':=Lib.hid (upto_succ HN.out (fun x' y' hx' hy'=>by rw[HX.out] at hx';rw[HY.out] at hy';injection hx' with hx';injection hy' with hy';rw[←hx',←hy'];exact lt_ext e1 e2))
     refine' zq133
    ·refine' zq135
   ·have e1':=beq_no e1
    refine' zq174
  ·obtain rfl:k=l.length:=by omega
   have HF:=Lib.hid (cB_true (lits_eq HL.out HN.out))
   refine' zq55
theorem mem_upto {α:Type} {l:List α} {P:α→Prop} (h:∀j,j<l.length→∀x,l[j]? =some x→P x):∀x∈l,P x:=fun x hx=>by
 obtain ⟨j,hj⟩:=List.getElem?_of_mem hx
 exact h j (List.getElem?_eq_some_iff.1 hj).1 x hj
structure SrcSm (s:List Nd):Prop where
 len:s.length≤20
 all:∀n∈s,NdSm n
abbrev eqArr (q:Eqn) (A1:Option Addr) (c1:Nat) (A2:Option Addr) (c2:Nat):Array Value:= #[.slice A1 q.left.length c1,.int .i64 q.right.op,.string q.right.name,.int .i64 q.right.n,.slice A2 q.right.args.length c2,.int .i64 q.right.line,.int .i64 q.right.col,.int .i64 q.line,.int .i64 q.col]
theorem Row.eqn {W:World} {b:Nat} {q:Eqn} {A1 A2:Option Addr} {c1 c2:Nat} {t:TypeId} (h:Row W b (eqArr q A1 c1 A2 c2) t):W.cell? ⟨b,0,none⟩=some (.slice A1 q.left.length c1)∧W.cell? ⟨b,1,none⟩=some (.int .i64 q.right.op)∧W.cell? ⟨b,2,none⟩=some (.string q.right.name)∧
  W.cell? ⟨b,3,none⟩=some (.int .i64 q.right.n)∧W.cell? ⟨b,4,none⟩=some (.slice A2 q.right.args.length c2)∧W.cell? ⟨b,5,none⟩=some (.int .i64 q.right.line)∧W.cell? ⟨b,6,none⟩=some (.int .i64 q.right.col)∧W.cell? ⟨b,7,none⟩=some (.int .i64 q.line)∧W.cell? ⟨b,8,none⟩=some (.int .i64 q.col):=
 ⟨(h.cell 0).trans rfl,(h.cell 1).trans rfl,(h.cell 2).trans rfl,(h.cell 3).trans rfl,(h.cell 4).trans rfl,(h.cell 5).trans rfl,(h.cell 6).trans rfl,(h.cell 7).trans rfl,(h.cell 8).trans rfl⟩
end Go.Proofs.YtdkgkacnjdnpoaaGreat
