/-
  The names of variables in an expression, plain; the contract of tompionref12.Names. The names of variables in an expression: the contract of tree.Names. Which expressions go by which clocks: the contract of clock.Fits. What is wrong first with clocks, plain; what holds in a source whose names are right. In a source with nothing wrong each name is somebody's: plain. Rising lists of names, and what hangs on what by steps: plain. Maps from names to 1, told to the entry, and maps from names to whatever value. The names met, sorted: the contract of slices.Sorted of maps.Keys at a map of names.
-/
import Derived.Test.YtdkgkacnjdnpoaaGreatZz
import Derived.Test.YtdkgkacnjdnpoaaGreatScH
import Derived.Test.YtdkgkacnjdnpoaaGreatFltQ
import Derived.Test.YtdkgkacnjdnpoaaGreatTreePlain
import Derived.Test.YtdkgkacnjdnpoaaGreatTreeRight
import Derived.Test.YtdkgkacnjdnpoaaGreatClkD
import Derived.Test.YtdkgkacnjdnpoaaGreatRepL
import Derived.Sort.KeysCollected
import Derived.Sort.Walk0
import Derived.Test.YtdkgkacnjdnpoaaGreatMet
import Derived.Maps.OwnSet
import Derived.Maps.OwnIn
import Derived.Shelf.SlIter.Nil
import Derived.Shelf.SortM.Plain
import Derived.Shelf.SortM.SortNone
import Derived.Ground.GgzProg
import Derived.Ground.SlgmProg
set_option maxHeartbeats 1000000
set_option maxRecDepth 100000
namespace Go.Proofs.YtdkgkacnjdnpoaaGreat
open Go.RowKit
theorem info_str:(Tryz.prog.info? 9).map (fun i=>(i.zero,i.size,i.bytes))=some (some (.string ⟨#[]⟩),1,16):=by kernel_rfl
theorem isStr_one {x:ByteArray} {cs:List Value} (h:isStr x cs):cs.length=1∧∀u∈cs,u.oneCell'=true:=by
 obtain ⟨rfl,_⟩:=h
 refine ⟨rfl,fun u hu=>?_⟩
 simp at hu;subst hu;rfl
open Go.RowKit Go.Shelf
attribute [local go_sem] Oper.semAt_some
theorem keepT_putObj {X:Nat→TypeId→Prop} (W:World) (l:Nat) (o o':Obj) (h:W.heap[l]? =some o) (ho:o.isCells=false):KeepT X W (W.putObj l o'):=by
 refine' zq127
theorem args_of_plain {e:Ex} (h:plainB e=true):ArgsOk e:=by
 refine' zq177
 constructor
 ·intro ho
  have hp:partsZ e.op=1:=by unfold partsZ;repeat' split;all_goals omega
  have:=key (by omega)
  omega
 ·intro ho
  have hp:partsZ e.op=2:=by unfold partsZ;repeat' split;all_goals omega
  have:=key (by omega)
  omega
structure NdKn (n:Nd):Prop where
 rt:NdRt n
 conds:∀v∈n.vars,∀c∈v.clock,c.name∈nms (vrs n)
 lefts:∀q∈n.eqs,∀nm∈q.left,nm∈nms (vrs n)
 exprs:∀q∈n.eqs,∀x∈exList q.right,namesB x.op=true→x.name∈nms (vrs n)
theorem scope_rt {s:List Nd} (h:(scopeF s).err=0):SrcRt s:=Classical.byContradiction fun g=>by
 rw[scopeF_2 g] at h
 exact absurd h (by show ¬(2:Int)=0;decide)
theorem scope_nodes {s:List Nd} (h:(scopeF s).err=0):∀n∈s,(variablesF n).err=0∧(equationsF s n).err=0:=by
 have hr:=scope_rt h
 rw[scopeF_rt hr] at h
 intro n hn
 obtain ⟨i,hi⟩:=List.getElem?_of_mem hn
 exact ft2_ok (fstL_ok (ft2_ok (ft2_ok h).2).1 i n hi)
theorem eqn_ok {s:List Nd} {n:Nd} (h:(equationsF s n).err=0):∀(i:Nat) q,n.eqs[i]? =some q→(leftF n (metTo n i) q).err=0∧(exprF s n q.left.length q.right).err=0:=fun i q hq=>
 ft2_ok (fstL_ok (ft2_ok h).1 i q hq)
theorem expr_ok {s:List Nd} {n:Nd} {outs:Int} {e:Ex} (h:(exprF s n outs e).err=0):∀(i:Nat) x,(exList e)[i]? =some x→(oneF s n (if i=0 then outs else 1) x).err=0:=by
 rw[←exprF_list] at h
 exact fstL_ok h
theorem one_name {s:List Nd} {n:Nd} {outs:Int} {x:Ex} (h:(oneF s n outs x).err=0) (hb:namesB x.op=true):x.name∈nms (vrs n):=Classical.byContradiction fun g=>by
 unfold oneF at h
 rw[if_pos hb,if_pos g] at h
 exact absurd h (by show ¬(24:Int)=0;decide)
theorem scope_kn {s:List Nd} (h:(scopeF s).err=0):∀n∈s,NdKn n:=by
 intro n hn
 obtain ⟨hv,he⟩:=scope_nodes h n hn
 refine ⟨(scope_rt h).1 n hn,fun v hvm c hc=>?_,fun q hq nm hnm=>?_,fun q hq x hx hb=>?_⟩
 ·obtain ⟨i,hi⟩:=List.getElem?_of_mem hvm
  obtain ⟨j,hj⟩:=List.getElem?_of_mem hc
  have h1:(condF n v j c).err=0:=fstL_ok (f:=condF n v) (fstL_ok (f:=clkF n) (ft2_ok hv).2 i v hi) j c hj
  refine Classical.byContradiction fun g=>?_
  unfold condF at h1
  rw[if_pos g] at h1
  exact absurd h1 (by show ¬(24:Int)=0;decide)
 ·obtain ⟨i,hi⟩:=List.getElem?_of_mem hq
  obtain ⟨j,hj⟩:=List.getElem?_of_mem hnm
  have h1:=fstL_ok (ft2_ok (eqn_ok he i q hi).1).1 j nm hj
  refine Classical.byContradiction fun g=>?_
  unfold leftNF at h1
  rw[if_pos g] at h1
  exact absurd h1 (by show ¬(24:Int)=0;decide)
 ·obtain ⟨i,hi⟩:=List.getElem?_of_mem hq
  obtain ⟨j,hj⟩:=List.getElem?_of_mem hx
  exact one_name (expr_ok (eqn_ok he i q hi).2 j x hj) hb
theorem kn_args {n:Nd} (h:NdKn n) {q:Eqn} (hq:q∈n.eqs):∀x∈exList q.right,ArgsOk x:=by
 have hr:=(h.rt.1 q hq).2.2.2
 simp only[exRight,Bool.and_eq_true,List.all_eq_true] at hr
 exact fun x hx=>args_of_plain (hr.1 x hx)
def RightClk (n:Nd) (clock:List Lt):Prop:=∀(i:Nat) l,clock[i]? =some l→clockOf n l.name=clock.take i
open Classical in
noncomputable def clkVF (n:Nd) (_:Nat) (v:Vr):Ft:=if ¬RightClk n v.clock then ⟨30,v.line,v.col⟩ else ft0
noncomputable def eqClk (n:Nd) (q:Eqn):List Lt:=clockOf n (q.left.headD ⟨#[]⟩)
open Classical in
noncomputable def clkQF (n:Nd) (_:Nat) (q:Eqn):Ft:=if ∃nm∈q.left,clockOf n nm≠eqClk n q then ⟨30,q.line,q.col⟩ else fitsP n q.right (eqClk n q)
noncomputable def clkNF (_:Nat) (n:Nd):Ft:=ft2 (fstL (clkVF n) n.vars) (fstL (clkQF n) n.eqs)
noncomputable def clockF (s:List Nd):Ft:=ft2 (scopeF s) (fstL clkNF s)
theorem clkVF_yes {n:Nd} {i:Nat} {v:Vr} (h:RightClk n v.clock):clkVF n i v=ft0:=if_neg (fun g=>g h)
theorem clkVF_no {n:Nd} {i:Nat} {v:Vr} (h:¬RightClk n v.clock):clkVF n i v=⟨30,v.line,v.col⟩:=if_pos h
theorem clkQF_bad {n:Nd} {i:Nat} {q:Eqn} {nm:ByteArray} (h:nm∈q.left) (h':clockOf n nm≠eqClk n q):clkQF n i q=⟨30,q.line,q.col⟩:=if_pos ⟨nm,h,h'⟩
theorem clkQF_ok {n:Nd} {i:Nat} {q:Eqn} (h:∀nm∈q.left,clockOf n nm=eqClk n q):clkQF n i q=fitsP n q.right (eqClk n q):=if_neg (fun ⟨nm,hm,g⟩=>g (h nm hm))
theorem eqClk_head {n:Nd} {q:Eqn} {nm:ByteArray} (h:q.left[0]? =some nm):eqClk n q=clockOf n nm:=by
 unfold eqClk
 cases hq:q.left with
 |nil=>rw[hq] at h;simp at h
 |cons a l=>rw[hq] at h;simp at h;subst h;rfl
theorem clkNF_zero {n:Nd} {i:Nat} (h:(clkNF i n).err=0):clkNF i n=ft0:=by
 unfold clkNF at h⊢
 obtain ⟨h1,h2⟩:=ft2_ok h
 rw[ft2_0 h1]
 exact fstL_zero h2
theorem nodup_le {α:Type}:∀{l m:List α},(∀(i j:Nat) (x:α),l[i]? =some x→l[j]? =some x→i=j)→(∀x∈l,x∈m)→l.length≤m.length
 | [],_,_,_=>Nat.zero_le _
 |a::l,m,hd,hs=>by
  obtain ⟨m1,m2,rfl⟩:=List.append_of_mem (hs a (by simp))
  have h:=nodup_le (l:=l) (m:=m1++m2) (fun i j x hi hj=>by
   have:=hd (i+1) (j+1) x (by simpa using hi) (by simpa using hj)
   omega) (fun x hx=>by
   have hne:x≠a:=fun e=>by
    subst e
    obtain ⟨i,hi⟩:=List.getElem?_of_mem hx
    have:=hd 0 (i+1) x rfl (by simpa using hi)
    omega
   have:=hs x (by simp[hx])
   simp only[List.mem_append,List.mem_cons] at this⊢
   rcases this with h|h|h
   ·exact .inl h
   ·exact absurd h hne
   ·exact .inr h)
  simp only[List.length_cons,List.length_append] at h⊢
  omega
def Once (l:List ByteArray):Prop:=∀(i j:Nat) x,l[i]? =some x→l[j]? =some x→i=j
theorem once_of {l:List ByteArray} (h:∀(i:Nat) x,l[i]? =some x→x∉l.take i):Once l:=fun i j x hi hj=>by
 rcases Nat.lt_trichotomy i j with g|g|g
 ·exact absurd (mem_take.2 ⟨i,g,hi⟩) (h j x hj)
 ·exact g
 ·exact absurd (mem_take.2 ⟨j,g,hj⟩) (h i x hi)
section
variable {s:List Nd} {n:Nd}
theorem ports_bare (hv:(variablesF n).err=0) {i:Nat} {v:Vr} (hi:(vrs n)[i]? =some v) (hp:i<n.ins.length+n.outs.length):v.clock=[]:=by
 have h:=fstL_ok (f:=varF n) (ft2_ok hv).1 i v hi
 unfold varF at h
 split at h
 ·exact absurd h (by show ¬(23:Int)=0;decide)
 ·split at h
  ·exact absurd h (by show ¬(30:Int)=0;decide)
  ·rename_i g
   exact List.eq_nil_of_length_eq_zero (by
    rcases Nat.eq_zero_or_pos v.clock.length with g0|g0
    ·exact g0
    ·exact absurd ⟨hp,g0⟩ g)
theorem call_ok {outs:Int} {x:Ex} (h:(oneF s n outs x).err=0) (h4:x.op=4):∃m,nodeAt s x.name=some m∧m.ins.length=x.args.length:=by
 unfold oneF at h
 rw[if_neg (by rw[h4];decide),if_pos h4] at h
 cases hm:nodeAt s x.name with
 |none=>rw[hm] at h;exact absurd h (by show ¬(24:Int)=0;decide)
 |some m=>
  rw[hm] at h
  simp only at h
  refine ⟨m,rfl,Classical.byContradiction fun g=>?_⟩
  rw[if_pos (.inl g)] at h
  exact absurd h (by show ¬(25:Int)=0;decide)
end
theorem conds_all {s:List Nd} (h:(scopeF s).err=0) {n:Nd} (hn:n∈s) {i:Nat} {v:Vr} (hi:(vrs n)[i]? =some v):∀c∈v.clock,c.name∈nms (vrs n):=by
 have hv:=(scope_nodes h n hn).1
 by_cases hp:i<n.ins.length+n.outs.length
 ·rw[ports_bare hv hi hp];intro c hc;cases hc
 ·have hm:v∈n.vars:=by
   rw[vrs,List.getElem?_append_right (by simp;omega)] at hi
   exact List.mem_of_getElem? hi
  exact (scope_kn h n hn).conds v hm
def ltN (a b:ByteArray):Prop:=a.data.toList<b.data.toList
theorem ltN_irrefl (a:ByteArray):¬ltN a a:=List.lt_irrefl a.data.toList
theorem ltN_trans {a b c:ByteArray} (h:ltN a b) (k:ltN b c):ltN a c:=(List.lt_trans h k:a.data.toList<c.data.toList)
theorem nmb_inj {a b:ByteArray} (h:a.data.toList=b.data.toList):a=b:=WideShapes.bytes_inj h
theorem ltN_of {a b:ByteArray} (h:¬ltN a b) (hne:a≠b):ltN b a:=by
 unfold ltN at*
 have h1:b.data.toList≤a.data.toList:=List.not_lt.1 h
 rcases List.le_iff_lt_or_eq.1 h1 with g|g
 ·exact g
 ·exact absurd (nmb_inj g).symm hne
abbrev Rising (l:List ByteArray):Prop:=l.Pairwise ltN
theorem Rising.nodup {l:List ByteArray} (h:Rising l):l.Nodup:=by
 rw[List.nodup_iff_pairwise_ne]
 exact h.imp fun {a b} (g:ltN a b) (e:a=b)=>ltN_irrefl a (by rw[←e] at g;exact g)
theorem nodup_once {l:List ByteArray} (h:l.Nodup):Once l:=fun i j x hi hj=>by
 obtain ⟨h1,h2⟩:=List.getElem?_eq_some_iff.1 hi
 obtain ⟨h3,h4⟩:=List.getElem?_eq_some_iff.1 hj
 exact (List.getElem_inj h).1 (h2.trans h4.symm)
theorem once_nodup {l:List ByteArray} (h:Once l):l.Nodup:=by
 rw[List.nodup_iff_pairwise_ne,List.pairwise_iff_getElem]
 intro i j hi hj hij e
 have:=h i j l[i] (List.getElem?_eq_getElem hi) (by rw[e];exact List.getElem?_eq_getElem hj)
 omega
theorem nodup_len {l m:List ByteArray} (h:l.Nodup) (hs:∀x∈l,x∈m):l.length≤m.length:=nodup_le (nodup_once h) hs
theorem rising_eq {l m:List ByteArray} (hl:Rising l) (hm:Rising m) (h:∀x,x∈l↔x∈m):l=m:=
 List.Perm.eq_of_pairwise (le:=ltN) (fun a _ _ _ h1 h2=>absurd (ltN_trans h1 h2) (ltN_irrefl a)) hl hm ((List.perm_ext_iff_of_nodup hl.nodup hm.nodup).2 h)
open Classical in
noncomputable def insR:List ByteArray→ByteArray→List ByteArray
 | [],s=> [s]
 |x::l,s=>if ltN s x then s::x::l else x::insR l s
theorem insR_mem {l:List ByteArray} {s x:ByteArray}:x∈insR l s↔x=s∨x∈l:=by
 induction l with
 |nil=>simp[insR]
 |cons y l ih=>
  unfold insR
  split
  ·simp
  ·rw[List.mem_cons,ih,List.mem_cons]
   constructor
   ·rintro (h|h|h)
    ·exact .inr (.inl h)
    ·exact .inl h
    ·exact .inr (.inr h)
   ·rintro (h|h|h)
    ·exact .inr (.inl h)
    ·exact .inl h
    ·exact .inr (.inr h)
theorem insR_rising {l:List ByteArray} {s:ByteArray} (h:Rising l) (hs:s∉l):Rising (insR l s):=by
 induction l with
 |nil=>simp[insR]
 |cons y l ih=>
  have h:=List.pairwise_cons.1 h
  unfold insR
  split
  ·rename_i g
   show List.Pairwise ltN _
   rw[List.pairwise_cons,List.pairwise_cons]
   refine ⟨fun z hz=>?_,h⟩
   rcases List.mem_cons.1 hz with rfl|hz
   ·exact g
   ·exact ltN_trans g (h.1 z hz)
  ·rename_i g
   show List.Pairwise ltN _
   rw[List.pairwise_cons]
   refine ⟨fun z hz=>?_,ih h.2 (fun g'=>hs (by simp[g']))⟩
   rcases insR_mem.1 hz with rfl|hz
   ·exact ltN_of g (fun e=>hs (by simp[e]))
   ·exact h.1 z hz
open Classical in
noncomputable def ins (l:List ByteArray) (s:ByteArray):List ByteArray:=if s∈l then l else insR l s
theorem ins_mem {l:List ByteArray} {s x:ByteArray}:x∈ins l s↔x=s∨x∈l:=by
 unfold ins
 split
 ·rename_i h
  exact ⟨.inr,fun g=>g.elim (fun e=>e▸h) id⟩
 ·exact insR_mem
theorem ins_rising {l:List ByteArray} {s:ByteArray} (h:Rising l):Rising (ins l s):=by
 unfold ins
 split
 ·exact h
 ·exact insR_rising h ‹_›
noncomputable def insAll (l m:List ByteArray):List ByteArray:=m.foldl ins l
theorem insAll_mem {l m:List ByteArray} {x:ByteArray}:x∈insAll l m↔x∈l∨x∈m:=by
 induction m generalizing l with
 |nil=>simp[insAll]
 |cons y m ih=>
  show x∈insAll (ins l y) m↔_
  rw[ih,ins_mem,List.mem_cons]
  constructor
  ·rintro ((h|h)|h)
   ·exact .inr (.inl h)
   ·exact .inl h
   ·exact .inr (.inr h)
  ·rintro (h|h|h)
   ·exact .inl (.inr h)
   ·exact .inl (.inl h)
   ·exact .inr h
theorem insAll_rising {l m:List ByteArray} (h:Rising l):Rising (insAll l m):=by
 induction m generalizing l with
 |nil=>exact h
 |cons y m ih=>exact ih (ins_rising h)
theorem sort_rising {L:List (List UInt8)} (h:L.Nodup):((L.mergeSort leB).map fun x=>(⟨⟨x⟩⟩:ByteArray)).Pairwise ltN:=by
 have tr:∀a b c:List UInt8,leB a b=true→leB b c=true→leB a c=true:=fun a b c h1 h2=>by simp only[leB,decide_eq_true_eq] at*;exact List.le_trans h1 h2
 have tot:∀a b:List UInt8,(leB a b||leB b a)=true:=fun a b=>by simp only[leB,Bool.or_eq_true,decide_eq_true_eq];exact List.le_total a b
 have h1:=List.pairwise_mergeSort tr tot L
 have h2:(L.mergeSort leB).Nodup:=(List.mergeSort_perm L leB).nodup_iff.2 h
 rw[List.pairwise_map]
 refine (h1.and h2).imp fun {a b} g=>?_
 obtain ⟨g1,g2⟩:=g
 have g1':a≤b:=by simpa[leB] using g1
 show a<b
 rcases List.le_iff_lt_or_eq.1 g1' with g|g
 ·exact g
 ·exact absurd g g2
section
variable (U:ByteArray→List ByteArray)
inductive Hg (a:ByteArray):ByteArray→Prop
 |one {b:ByteArray}:b∈U a→Hg a b
 |more {b c:ByteArray}:Hg a b→c∈U b→Hg a c
noncomputable def rnd (l:List ByteArray):List ByteArray:=l.foldl (fun o x=>insAll o (U x)) l
noncomputable def rndTo (l:List ByteArray) (k:Nat) (m:List ByteArray):List ByteArray:=(l.take k).foldl (fun o x=>insAll o (U x)) m
noncomputable def stp (a:ByteArray):Nat→List ByteArray
 |0=>U a
 |n+1=>rnd U (stp a n)
end
section
variable {U:ByteArray→List ByteArray} {V:List ByteArray}
theorem rndTo_end (l:List ByteArray):rndTo U l l.length l=rnd U l:=by unfold rndTo rnd;rw[List.take_length]
theorem rndTo_mem {l m:List ByteArray} {k:Nat} {y:ByteArray}:y∈rndTo U l k m↔y∈m∨∃x∈l.take k,y∈U x:=by
 unfold rndTo
 induction l.take k generalizing m with
 |nil=>simp
 |cons x l ih=>
  rw[List.foldl_cons,ih,insAll_mem]
  constructor
  ·rintro ((h|h)|⟨z,hz,h⟩)
   ·exact .inl h
   ·exact .inr ⟨x,by simp,h⟩
   ·exact .inr ⟨z,by simp[hz],h⟩
  ·rintro (h|⟨z,hz,h⟩)
   ·exact .inl (.inl h)
   ·rcases List.mem_cons.1 hz with rfl|hz
    ·exact .inl (.inr h)
    ·exact .inr ⟨z,hz,h⟩
theorem rnd_mem {l:List ByteArray} {y:ByteArray}:y∈rnd U l↔y∈l∨∃x∈l,y∈U x:=by
 rw[←rndTo_end,rndTo_mem,List.take_length]
theorem rndTo_rising {l m:List ByteArray} {k:Nat} (h:Rising m):Rising (rndTo U l k m):=by
 unfold rndTo
 induction l.take k generalizing m with
 |nil=>exact h
 |cons x l ih=>exact ih (insAll_rising h)
theorem rnd_rising {l:List ByteArray} (h:Rising l):Rising (rnd U l):=by rw[←rndTo_end];exact rndTo_rising h
theorem stp_rising {a:ByteArray} (h:Rising (U a)):∀n,Rising (stp U a n)
 |0=>h
 |n+1=>rnd_rising (stp_rising h n)
theorem stp_hg {a:ByteArray}:∀n x,x∈stp U a n→Hg U a x
 |0,_,h=> .one h
 |n+1,x,h=>by
  rcases rnd_mem.1 h with g|⟨y,hy,g⟩
  ·exact stp_hg n x g
  ·exact .more (stp_hg n y hy) g
theorem hg_sub (hV:∀x,∀y∈U x,y∈V) {a x:ByteArray} (h:Hg U a x):x∈V:=by
 cases h with
 |one h=>exact hV _ _ h
 |more _ h=>exact hV _ _ h
theorem hg_trans {a b c:ByteArray} (h:Hg U a b) (k:Hg U b c):Hg U a c:=by
 induction k with
 |one k=>exact .more h k
 |more _ k ih=>exact .more ih k
theorem stp_base {a:ByteArray}:∀n x,x∈U a→x∈stp U a n
 |0,_,h=>h
 |n+1,x,h=>rnd_mem.2 (.inl (stp_base n x h))
def Closed (U:ByteArray→List ByteArray) (l:List ByteArray):Prop:=∀x∈l,∀y∈U x,y∈l
theorem closed_rnd {l:List ByteArray} (h:Closed U l):Closed U (rnd U l):=by
 have e:∀y,y∈rnd U l↔y∈l:=fun y=>by
  rw[rnd_mem]
  exact ⟨fun g=>g.elim id fun ⟨x,hx,g⟩=>h x hx y g,.inl⟩
 intro x hx y hy
 exact (e y).2 (h x ((e x).1 hx) y hy)
theorem stp_closed (hV:∀x,∀y∈U x,y∈V) {a:ByteArray} (hr:Rising (U a)):∀n,Closed U (stp U a n)∨n≤(stp U a n).length
 |0=> .inr (Nat.zero_le _)
 |n+1=>by
  rcases stp_closed hV hr n with h|h
  ·exact .inl (closed_rnd h)
  ·by_cases hc:Closed U (stp U a n)
   ·exact .inl (closed_rnd hc)
   ·right
    unfold Closed at hc
    simp only[Classical.not_forall] at hc
    obtain ⟨x,hx,y,hy,hn⟩:=hc
    have h1:=(stp_rising hr n).nodup
    have h2:(y::stp U a n).Nodup:=List.nodup_cons.2 ⟨hn,h1⟩
    have h3:=nodup_len (m:=stp U a (n+1)) h2 fun z hz=>by
     rcases List.mem_cons.1 hz with rfl|hz
     ·exact rnd_mem.2 (.inr ⟨x,hx,hy⟩)
     ·exact rnd_mem.2 (.inl hz)
    simp only[List.length_cons] at h3
    omega
theorem stp_all (hV:∀x,∀y∈U x,y∈V) {a:ByteArray} (hr:Rising (U a)) {n:Nat} (hn:V.length≤n):Closed U (stp U a n):=by
 rcases stp_closed hV hr n with h|h
 ·exact h
 ·have h1:=(stp_rising hr n).nodup
  have hsub:∀x∈stp U a n,x∈V:=fun x hx=>hg_sub hV (stp_hg n x hx)
  intro x hx y hy
  refine Classical.byContradiction fun g=>?_
  have h2:=nodup_len (m:=V) (List.nodup_cons.2 ⟨g,h1⟩) fun z hz=>by
   rcases List.mem_cons.1 hz with rfl|hz
   ·exact hV _ _ hy
   ·exact hsub z hz
  simp only[List.length_cons] at h2
  omega
theorem stp_iff (hV:∀x,∀y∈U x,y∈V) {a:ByteArray} (hr:Rising (U a)) {n:Nat} (hn:V.length≤n) {x:ByteArray}:x∈stp U a n↔Hg U a x:=by
 constructor
 ·exact stp_hg n x
 ·intro h
  have hc:=stp_all hV hr hn
  induction h with
  |one h=>exact stp_base n _ h
  |more _ h ih=>exact hc _ ih _ h
theorem least (hV:∀x,∀y∈U x,y∈V) (hr:∀x,Rising (U x)) {P:ByteArray→Prop} (hac:∀x,P x→¬Hg U x x) {a:ByteArray} (ha:P a):
  ∃x,P x∧∀y∈U x,¬P y:=by
 generalize hk:(stp U a V.length).length=k
 induction k using Nat.strongRecOn generalizing a with
 |ind k ih=>
  by_cases h:∀y∈U a,¬P y
  ·exact ⟨a,ha,h⟩
  ·simp only[Classical.not_forall,Classical.not_not] at h
   obtain ⟨y,hy,hp⟩:=h
   refine ih _ ?_ hp rfl
   have hn:y∉stp U y V.length:=fun g=>hac y hp (stp_hg _ _ g)
   have h2:=nodup_len (m:=stp U a V.length) (List.nodup_cons.2 ⟨hn,(stp_rising (hr y) _).nodup⟩) fun z hz=>by
    rw[stp_iff hV (hr a) (Nat.le_refl _)]
    rcases List.mem_cons.1 hz with rfl|hz
    ·exact .one hy
    ·exact hg_trans (.one hy) (stp_hg _ _ hz)
   simp only[List.length_cons] at h2
   omega
structure Fnd (U:ByteArray→List ByteArray) (a:ByteArray) (l wt:List ByteArray):Prop where
 nd:l.Nodup
 hg:∀x,x∈l∨x∈wt→Hg U a x
 one:∀x∈U a,x∈l∨x∈wt
 more:∀x∈l,∀y∈U x,y∈l∨y∈wt
theorem Fnd.start (a:ByteArray):Fnd U a [] (U a):=⟨List.nodup_nil,fun x h=> .one (h.resolve_left (by simp)),fun x h=> .inr h,fun x h=>absurd h (by simp)⟩
theorem Fnd.old {a x:ByteArray} {l wt:List ByteArray} (h:Fnd U a l (x::wt)) (hx:x∈l):Fnd U a l wt:=
 ⟨h.nd,fun y g=>h.hg y (g.imp id (fun g=>by simp[g])),fun y g=>by
  rcases h.one y g with g|g
  ·exact .inl g
  ·rcases List.mem_cons.1 g with rfl|g
   ·exact .inl hx
   ·exact .inr g,fun z hz y g=>by
  rcases h.more z hz y g with g|g
  ·exact .inl g
  ·rcases List.mem_cons.1 g with rfl|g
   ·exact .inl hx
   ·exact .inr g⟩
theorem Fnd.new {a x:ByteArray} {l wt:List ByteArray} (h:Fnd U a l (x::wt)) (hx:x∉l):Fnd U a (l++ [x]) (wt++U x):=by
 have hmv:∀y,y∈l∨y∈x::wt→y∈l++ [x]∨y∈wt++U x:=fun y g=>by
  rcases g with g|g
  ·exact .inl (by simp[g])
  ·rcases List.mem_cons.1 g with rfl|g
   ·exact .inl (by simp)
   ·exact .inr (by simp[g])
 refine ⟨?_,fun y g=>?_,fun y g=>hmv y (h.one y g),fun z hz y g=>?_⟩
 ·rw[List.nodup_append]
  exact ⟨h.nd,by simp,fun y hy z hz e=>by simp at hz;subst hz;subst e;exact hx hy⟩
 ·simp only[List.mem_append,List.mem_cons,List.not_mem_nil,or_false] at g
  rcases g with (g|rfl)|g|g
  ·exact h.hg y (.inl g)
  ·exact h.hg y (.inr (by simp))
  ·exact h.hg y (.inr (by simp[g]))
  ·exact .more (h.hg x (.inr (by simp))) g
 ·simp only[List.mem_append,List.mem_cons,List.not_mem_nil,or_false] at hz
  rcases hz with hz|rfl
  ·exact hmv y (h.more z hz y g)
  ·exact .inr (by simp[g])
theorem Fnd.end_ {a:ByteArray} {l:List ByteArray} (h:Fnd U a l []) (x:ByteArray):x∈l↔Hg U a x:=by
 constructor
 ·intro g;exact h.hg x (.inl g)
 ·intro g
  induction g with
  |one g=>exact (h.one _ g).resolve_right (by simp)
  |more _ g ih=>exact (h.more _ ih _ g).resolve_right (by simp)
end
theorem owns_exact {H:Type} {w:World} {P:Program} {k:TypeId} {R:Value→Option (DataW H × List MemPlace)} {b n:Nat} {D:DataW H} (h:w.ownsMap P k R b n D):w.ownsMap P k R b (Maps.size D) D:=by
 obtain ⟨es,clock,h0,h1,h2,rfl⟩:=h
 refine ⟨es,clock,h0,h1,?_,rfl⟩
 simp[Maps.size,length_sorted]
abbrev keyN (nm:ByteArray):Lit:= .string nm.data.toList
theorem keyN_ne {a b:ByteArray} (h:a≠b):keyN a≠keyN b:=fun g=>h (str_key g)
theorem keyN_of {nm:ByteArray} (hs:nm.size≤maxLen):keyOf Tryz.prog 9 (.string nm)=some (keyN nm):=_root_.Go.WideMaps.keyOf_string_mk Tryz.underlying9 hs
def MetS (w:World) (b:Nat) (l:List ByteArray):Prop:=
 l.Nodup∧∃D:DataW Unit,w.ownsMap Tryz.prog 9 (plainElem Tryz.prog 3) b l.length D∧Maps.size D=l.length∧∀nm:ByteArray,Maps.has D (keyN nm)=cB (nm∈l)∧(nm∈l→D.atKey (keyN nm) (.lit (.int .i64 0))= .lit (.int .i64 1))
section
variable {w w':World} {b:Nat} {l:List ByteArray}
theorem MetS.lt (h:MetS w b l):b<w.heap.size:=by
 obtain ⟨_,D,h1,_⟩:=h
 exact h1.lt
theorem MetS.keep (h:MetS w b l) (hk:w'.heap[b]? =w.heap[b]?):MetS w' b l:=by
 refine' zq173
theorem MetS.below {B:Nat} (h:MetS w b l) (hb:Below B w w') (hB:b<B):MetS w' b l:=h.keep (hb.block b hB)
theorem MetS.alloc (h:MetS w b l) (o:Obj):MetS (w.alloc o) b l:=h.below ((Below.refl _ _).alloc (Nat.le_refl _) _) h.lt
theorem MetS.grown {row:Option Nat} (h:MetS w b l) (hg:w.grownBy w' row) (hr:some b≠row):MetS w' b l:=h.keep (hg.block b h.lt hr)
theorem MetS.isMap (h:MetS w b l):∃es clock,w.heap[b]? =some (.map es clock):=by
 obtain ⟨_,D,⟨es,clock,h1,_⟩,_⟩:=h
 exact ⟨es,clock,h1⟩
theorem mets_made (w:World):MetS (w.alloc (.map #[] 0)) w.heap.size []:=
 ⟨List.nodup_nil,.map [],World.ownsMap_made w _ _ _,rfl,fun nm=>⟨(cB_false (by simp)).symm,fun h=>absurd h (by simp)⟩⟩
theorem MetS.look (h:MetS w b l) {nm:ByteArray} (hs:nm.size≤maxLen):(nm∈l→(Instr.lookup 85 (.map (some b)) (.string nm) false).run Tryz.prog w= .ok (.int .i64 1) w)∧(nm∉l→(Instr.lookup 85 (.map (some b)) (.string nm) false).run Tryz.prog w= .ok (.int .i64 0) w):=by
 refine' zq79
 constructor
 ·intro g
  rw[(h3 nm).2 g] at ha
  refine' zq103
 ·intro g
  rw[Maps.atKey_of_not_has ((h3 nm).1.trans (cB_false g))] at ha
  refine' zq103
open Classical in
noncomputable def putN (l:List ByteArray) (nm:ByteArray):List ByteArray:=if nm∈l then l else l++ [nm]
theorem putN_mem {nm x:ByteArray}:x∈putN l nm↔x∈l∨x=nm:=by
 unfold putN
 split
 ·rename_i h
  exact ⟨.inl,fun g=>g.elim id (fun e=>e▸h)⟩
 ·simp
theorem putN_nodup {nm:ByteArray} (h:l.Nodup):(putN l nm).Nodup:=by
 unfold putN
 split
 ·exact h
 ·rename_i g
  rw[List.nodup_append]
  exact ⟨h,by simp,fun y hy z hz e=>by simp at hz;subst hz;subst e;exact g hy⟩
theorem putN_len {nm:ByteArray}:(putN l nm).length≤l.length+1:=by
 unfold putN
 split
 ·omega
 ·simp
theorem mets_tidy {D:DataW Unit} {n:Nat} (h:w.ownsMap Tryz.prog 9 (plainElem Tryz.prog 3) b n D):Maps.Tidy D:=h.tidy (Maps.string_keyed Tryz.underlying9)
theorem mets_after {nm:ByteArray} {D:DataW Unit} {n:Nat} (h0:l.Nodup) (ht:Maps.Tidy D) (h2:Maps.size D=l.length) (h3:∀nm:ByteArray,Maps.has D (keyN nm)=cB (nm∈l)∧(nm∈l→D.atKey (keyN nm) (.lit (.int .i64 0))= .lit (.int .i64 1)))
  (ho:w'.ownsMap Tryz.prog 9 (plainElem Tryz.prog 3) b n (D.put (keyN nm) (.lit (.int .i64 1)))):MetS w' b (putN l nm):=by
 have hsz:Maps.size (D.put (keyN nm) (.lit (.int .i64 1)))=(putN l nm).length:=by
  refine' zq141
 refine' zq33
theorem MetS.put (h:MetS w b l) {nm:ByteArray} (hs:nm.size≤maxLen) (hn:l.length<1000000):∃w',(Instr.mapUpdate 85 (.map (some b)) (.string nm) (.int .i64 1)).run Tryz.prog w= .ok () w'∧MetS w' b (putN l nm)∧w.grownBy w' (some b):=by
 obtain ⟨h0,D,h1,h2,h3⟩:=h
 have ht:=mets_tidy h1
 obtain ⟨w',hr,ho,hg⟩:=h1.update (Maps.string_keyed Tryz.underlying9) Tryz.underlying85 (by unfold maxLen;omega) (keyN_of hs) (plainElem_int (a:=1) Tryz.underlying3 (by decide))
 exact ⟨w',hr,mets_after h0 ht h2 h3 ho,hg⟩
theorem MetS.len (h:MetS w b l) (ty:TypeId):(Builtin.len_ #[85] ty #[.map (some b)]).run Tryz.prog w= .ok (.int .i64 l.length) w:=by
 obtain ⟨h0,D,h1,h2,h3⟩:=h
 have:=h1.len Tryz.underlying85 ty
 rwa [h2] at this
theorem MetS.keys (h:MetS w b l):∃D:DataW Unit,w.ownsMap Tryz.prog 9 (plainElem Tryz.prog 3) b l.length D∧Maps.size D=l.length∧(l.map fun a=>a.data.toList).Perm (strKeys D):=by
 obtain ⟨h0,D,h1,h2,h3⟩:=h
 refine ⟨D,h1,h2,?_⟩
 obtain ⟨es,rfl,hp⟩:=mets_tidy h1
 obtain ⟨es',hD',hko⟩:=h1.keysOf
 obtain rfl:es=es':=by simpa using hD'
 refine perm_strKeys hp (fun p hp=>by obtain ⟨v,hv⟩:=hko p hp;obtain ⟨x,_,hx,_⟩:=Maps.keyOf_str Tryz.underlying9 hv;exact ⟨x,hx⟩) ?_ (fun x=>?_)
 ·rw[List.nodup_iff_pairwise_ne,List.pairwise_map]
  exact (List.nodup_iff_pairwise_ne.1 h0).imp fun {a c} g e=>g (nmb_inj e)
 ·have:=(h3 ⟨⟨x⟩⟩).1
  rw[show keyN ⟨⟨x⟩⟩= .string x from rfl] at this
  rw[this,cB_iff,List.mem_map]
  constructor
  ·rintro ⟨a,ha,rfl⟩;exact ha
  ·intro g;exact ⟨_,g,rfl⟩
end
theorem wpList_mets {w:World} {ops:Array Oper} {rest:List Oper} {o:Oper} {a:Act} {Q:Exit→Act→World→Prop} (hg:o.guard=none) (m x v:Operand) (hop:o.op=Op.mapUpdate 85 m x v)
  (b:Nat) (l:List ByteArray) (hm:a.eval m= .map (some b)) (h:MetS w b l) (hn:l.length<1000000) (nm:ByteArray) (hx:a.eval x= .string nm) (hs:nm.size≤maxLen) (hv:a.eval v= .int .i64 1)
  (hK:∀w',MetS w' b (putN l nm)→w.grownBy w' (some b)→wpList Tryz.prog ops Q rest (a.put o.dst undef) w'):wpList Tryz.prog ops Q (o::rest) a w:=by
 refine wpList_plain hg fun K' hK'=>?_
 obtain ⟨w',hrun,r1,r2⟩:=h.put hs hn
 unfold Oper.wp
 refine' zq158
def MapV (w:World) (b n:Nat) (f:ByteArray→Value):Prop:=
 ∃D:DataW Value,w.ownsMap Tryz.prog 9 (fun v=>some (.held v,[])) b n D∧Maps.IsMap D∧∀nm:ByteArray,D.atKey (keyN nm) (.held (.slice none 0 0))= .held (f nm)
section
variable {w w':World} {b n:Nat} {f:ByteArray→Value}
theorem MapV.lt (h:MapV w b n f):b<w.heap.size:=by
 obtain ⟨D,h1,_⟩:=h
 exact h1.lt
theorem MapV.keep (h:MapV w b n f) (hk:w'.heap[b]? =w.heap[b]?):MapV w' b n f:=by
 obtain ⟨D,⟨es,clock,h1,h2⟩,h3⟩:=h
 exact ⟨D,⟨es,clock,hk.trans h1,h2⟩,h3⟩
theorem MapV.below {B:Nat} (h:MapV w b n f) (hb:Below B w w') (hB:b<B):MapV w' b n f:=h.keep (hb.block b hB)
theorem MapV.grown {row:Option Nat} (h:MapV w b n f) (hg:w.grownBy w' row) (hr:some b≠row):MapV w' b n f:=h.keep (hg.block b h.lt hr)
theorem mapv_made (w:World):MapV (w.alloc (.map #[] 0)) w.heap.size 0 (fun _=> .slice none 0 0):=
 ⟨.map [],World.ownsMap_made w _ _ _,⟨[],rfl⟩,fun _=>rfl⟩
theorem zero_texts (w:World):(zeroValue 60).run Tryz.prog w= .ok (.slice none 0 0) w:=by kernel_rfl
theorem MapV.look (h:MapV w b n f) {nm:ByteArray} (hs:nm.size≤maxLen):(Instr.lookup 183 (.map (some b)) (.string nm) false).run Tryz.prog w= .ok (f nm) w:=by
 obtain ⟨D,h1,h2,h3⟩:=h
 obtain ⟨v,ps,hr,ha⟩:=h1.lookup (Maps.string_keyed Tryz.underlying9) Tryz.underlying183 (zero_texts w) (zd:= .held (.slice none 0 0)) (zp:=[]) rfl (keyN_of hs)
 rw[h3 nm] at ha
 injection ha with ha
 injection ha with ha _
 injection ha with ha
 rw[←ha]
 exact hr
open Classical in
theorem MapV.put (h:MapV w b n f) {nm:ByteArray} (hs:nm.size≤maxLen) (hn:n<1000000) (v:Value):∃w',(Instr.mapUpdate 183 (.map (some b)) (.string nm) v).run Tryz.prog w= .ok () w'∧MapV w' b (n+1) (fun x=>if x=nm then v else f x)∧w.grownBy w' (some b):=by
 obtain ⟨D,h1,h2,h3⟩:=h
 obtain ⟨w',hr,ho,hg⟩:=h1.update (Maps.string_keyed Tryz.underlying9) Tryz.underlying183 (by unfold maxLen;omega) (keyN_of hs) (val:=v) rfl
 refine ⟨w',hr,⟨_,ho,h2.put _ _,fun x=>?_⟩,hg⟩
 by_cases e:x=nm
 ·subst e
  show _=DataW.held (if _ then _ else _)
  rw[Maps.atKey_put_same h2 (by trivial),if_pos rfl]
 ·show _=DataW.held (if _ then _ else _)
  rw[Maps.atKey_put_other (keyN_ne e),h3,if_neg e]
end
open Go.Shelf
def srtKeys_ren:Go.Shelf.Ren:=⟨fun|7=>183|10=>196|n=>n,fun|23=>85|26=>9|3=>3|28=>258|0=>0|27=>257|33=>131|4=>4|n=>n,fun|n=>n⟩
theorem srtKeys:Go.Proofs.SlLaysZ.n7 Tryz.prog srtKeys_ren:={
 mixed:=by kernel_rfl
 f7:=⟨Tryz.f183.name,by decide,Tryz.func183.trans (congrArg some (by kernel_rfl))⟩
 f10:=⟨Tryz.f196.name,by decide,Tryz.func196.trans (congrArg some (by kernel_rfl))⟩
 t0:=Tryz.underlying0
 a0:=Tryz.isAgg0
 z0:=Tryz.sizeOf0
 v0:=Tryz.zeroValue0
 t4:=Tryz.underlying4
 a4:=Tryz.isAgg4
 z4:=Tryz.sizeOf4
 v4:=Tryz.zeroValue4
 t23:=Tryz.underlying85
 a23:=Tryz.isAgg85
 z23:=Tryz.sizeOf85
 v23:=Tryz.zeroValue85
 t26:=Tryz.underlying9
 a26:=Tryz.isAgg9
 z26:=Tryz.sizeOf9
 v26:=Tryz.zeroValue9
 t27:=Tryz.underlying257
 a27:=Tryz.isAgg257
 z27:=Tryz.sizeOf257
 v27:=Tryz.zeroValue257
 t28:=Tryz.underlying258
 a28:=Tryz.isAgg258
 z28:=Tryz.sizeOf258
 v28:=Tryz.zeroValue258
 t33:=Tryz.underlying131
 a33:=Tryz.isAgg131
 z33:=Tryz.sizeOf131
 v33:=Tryz.zeroValue131}
def srtSorted_ren:Go.Shelf.Ren:=⟨fun|6=>182|8=>194|9=>195|11=>200|13=>202|12=>201|23=>213|24=>214|14=>204|15=>205|16=>206|17=>207|18=>208|19=>209|20=>210|21=>211|22=>212|25=>215|26=>216|27=>217|28=>218|29=>219|30=>220|31=>221|n=>n,fun|26=>9|28=>258|24=>60|0=>0|3=>3|37=>230|48=>264|50=>267|4=>4|40=>277|39=>276|45=>109|5=>5|9=>9|51=>285|55=>289|57=>291|58=>248|33=>131|n=>n,fun|n=>n⟩
theorem srtSorted:Go.Proofs.SlLaysZ.n6 Tryz.prog srtSorted_ren:={
 mixed:=by kernel_rfl
 f6:=⟨Tryz.f182.name,by decide,Tryz.func182.trans (congrArg some (by kernel_rfl))⟩
 f8:=⟨Tryz.f194.name,by decide,Tryz.func194.trans (congrArg some (by kernel_rfl))⟩
 f11:=⟨Tryz.f200.name,by decide,Tryz.func200.trans (congrArg some (by kernel_rfl))⟩
 t0:=Tryz.underlying0
 a0:=Tryz.isAgg0
 z0:=Tryz.sizeOf0
 v0:=Tryz.zeroValue0
 t24:=Tryz.underlying60
 a24:=Tryz.isAgg60
 z24:=Tryz.sizeOf60
 v24:=Tryz.zeroValue60
 t26:=Tryz.underlying9
 a26:=Tryz.isAgg9
 z26:=Tryz.sizeOf9
 v26:=Tryz.zeroValue9
 t28:=Tryz.underlying258
 a28:=Tryz.isAgg258
 z28:=Tryz.sizeOf258
 v28:=Tryz.zeroValue258
 i26:=by kernel_rfl}
def srtSort_ren:Go.Shelf.Ren:=⟨fun|6=>195|8=>202|9=>201|19=>213|20=>214|21=>204|22=>205|23=>206|24=>207|25=>208|26=>209|27=>210|28=>211|29=>212|36=>215|31=>216|32=>217|37=>218|38=>219|39=>220|41=>221|n=>n,fun|27=>60|29=>9|3=>3|32=>230|26=>60|0=>0|44=>264|46=>267|4=>4|36=>277|35=>276|41=>109|5=>5|9=>9|53=>285|57=>289|63=>291|64=>248|n=>n,fun|n=>n⟩
theorem srtSort:Go.Proofs.SlLaysM.n6 Tryz.prog srtSort_ren:={
 mixed:=by kernel_rfl
 f6:=⟨Tryz.f195.name,by decide,Tryz.func195.trans (congrArg some (by kernel_rfl))⟩
 f8:=Tryz.func202.trans (congrArg some (by kernel_rfl))
 f9:=⟨Tryz.f201.name,by decide,Tryz.func201.trans (congrArg some (by kernel_rfl))⟩
 f19:=Tryz.func213.trans (congrArg some (by kernel_rfl))
 f20:=Tryz.func214.trans (congrArg some (by kernel_rfl))
 f21:=⟨Tryz.f204.name,by decide,Tryz.func204.trans (congrArg some (by kernel_rfl))⟩
 f22:=⟨Tryz.f205.name,by decide,Tryz.func205.trans (congrArg some (by kernel_rfl))⟩
 f23:=⟨Tryz.f206.name,by decide,Tryz.func206.trans (congrArg some (by kernel_rfl))⟩
 f24:=⟨Tryz.f207.name,by decide,Tryz.func207.trans (congrArg some (by kernel_rfl))⟩
 f25:=⟨Tryz.f208.name,by decide,Tryz.func208.trans (congrArg some (by kernel_rfl))⟩
 f26:=⟨Tryz.f209.name,by decide,Tryz.func209.trans (congrArg some (by kernel_rfl))⟩
 f27:=⟨Tryz.f210.name,by decide,Tryz.func210.trans (congrArg some (by kernel_rfl))⟩
 f28:=⟨Tryz.f211.name,by decide,Tryz.func211.trans (congrArg some (by kernel_rfl))⟩
 f29:=⟨Tryz.f212.name,by decide,Tryz.func212.trans (congrArg some (by kernel_rfl))⟩
 f31:=Tryz.func216.trans (congrArg some (by kernel_rfl))
 f32:=Tryz.func217.trans (congrArg some (by kernel_rfl))
 f36:=⟨Tryz.f215.name,by decide,Tryz.func215.trans (congrArg some (by kernel_rfl))⟩
 f37:=⟨Tryz.f218.name,by decide,Tryz.func218.trans (congrArg some (by kernel_rfl))⟩
 f38:=⟨Tryz.f219.name,by decide,Tryz.func219.trans (congrArg some (by kernel_rfl))⟩
 f39:=⟨Tryz.f220.name,by decide,Tryz.func220.trans (congrArg some (by kernel_rfl))⟩
 f41:=⟨Tryz.f221.name,by decide,Tryz.func221.trans (congrArg some (by kernel_rfl))⟩
 t0:=Tryz.underlying0
 a0:=Tryz.isAgg0
 z0:=Tryz.sizeOf0
 v0:=Tryz.zeroValue0
 t3:=Tryz.underlying3
 a3:=Tryz.isAgg3
 z3:=Tryz.sizeOf3
 v3:=Tryz.zeroValue3
 t4:=Tryz.underlying4
 a4:=Tryz.isAgg4
 z4:=Tryz.sizeOf4
 v4:=Tryz.zeroValue4
 t5:=Tryz.underlying5
 a5:=Tryz.isAgg5
 z5:=Tryz.sizeOf5
 v5:=Tryz.zeroValue5
 t9:=Tryz.underlying9
 a9:=Tryz.isAgg9
 z9:=Tryz.sizeOf9
 v9:=Tryz.zeroValue9
 t26:=Tryz.underlying60
 a26:=Tryz.isAgg60
 z26:=Tryz.sizeOf60
 v26:=Tryz.zeroValue60
 t27:=Tryz.underlying60
 a27:=Tryz.isAgg60
 z27:=Tryz.sizeOf60
 v27:=Tryz.zeroValue60
 t29:=Tryz.underlying9
 a29:=Tryz.isAgg9
 z29:=Tryz.sizeOf9
 v29:=Tryz.zeroValue9
 t32:=Tryz.underlying230
 a32:=Tryz.isAgg230
 z32:=Tryz.sizeOf230
 v32:=Tryz.zeroValue230
 t35:=Tryz.underlying276
 a35:=Tryz.isAgg276
 z35:=Tryz.sizeOf276
 v35:=Tryz.zeroValue276
 t36:=Tryz.underlying277
 a36:=Tryz.isAgg277
 z36:=Tryz.sizeOf277
 v36:=Tryz.zeroValue277
 t41:=Tryz.underlying109
 a41:=Tryz.isAgg109
 z41:=Tryz.sizeOf109
 v41:=Tryz.zeroValue109
 t44:=Tryz.underlying264
 a44:=Tryz.isAgg264
 z44:=Tryz.sizeOf264
 v44:=Tryz.zeroValue264
 t46:=Tryz.underlying267
 a46:=Tryz.isAgg267
 z46:=Tryz.sizeOf267
 v46:=Tryz.zeroValue267
 t53:=Tryz.underlying285
 a53:=Tryz.isAgg285
 z53:=Tryz.sizeOf285
 v53:=Tryz.zeroValue285
 t57:=Tryz.underlying289
 a57:=Tryz.isAgg289
 z57:=Tryz.sizeOf289
 v57:=Tryz.zeroValue289
 t63:=Tryz.underlying291
 a63:=Tryz.isAgg291
 z63:=Tryz.sizeOf291
 v63:=Tryz.zeroValue291
 t64:=Tryz.underlying248
 a64:=Tryz.isAgg248
 z64:=Tryz.sizeOf248
 v64:=Tryz.zeroValue248}
section
open Go.RowKit Go.Maps Go.Sort Go.Shelf
theorem srtSorts (m:Nat):AnyZ.SortsIn Tryz.prog srtSorted_ren Fence.wide m:=
 ⟨fun blk off cap ss W hH hblk hsz=>callsIn_wide.2 (AnyM.slices_Sort_string srtSort blk off cap ss W hH hblk hsz),
  fun p cap W=>callsIn_wide.2 (AnyM.slices_Sort_string_none srtSort p cap W)⟩
theorem keys_any (mb:Option Nat) (W:World):CallsIn Fence.wide 5 Tryz.prog 183 #[.map mb] W fun e w'=>e= .returned (.func (.func 196) #[] #[.pointer (some ⟨W.heap.size,0,none⟩)])∧w'=W.alloc (.cells #[.map mb] 85):=
 AnyZ.keys_in srtKeys Fence.wide 5 trivial rfl mb W
theorem sorted_keys {H:Type} (b nn:Nat) (D0:DataW H) (R:Value→Option (DataW H × List MemPlace)) (w:World) (hown:w.ownsMap Tryz.prog 9 R b nn D0) (hmax:Maps.size D0≤maxLen) (hbytes:Maps.size D0*16≤140737488355328):
  CallsIn Fence.wide 5 Tryz.prog 182 #[.func (.func 196) #[] #[.pointer (some ⟨w.heap.size,0,none⟩)]] (w.alloc (.cells #[.map (some b)] 85)) fun e w'=>∃(v:Value) (ss:List (List UInt8)),e= .returned v∧ss.Perm (strKeys D0)∧
   w'.ownsRow (w.alloc (.cells #[.map (some b)] 85)).heap.size 9 1 v ss.length ((ss.mergeSort (fun x y=>decide (x≤y))).map encStr)∧(v= .slice none 0 0↔ss=[])∧Below (w.alloc (.cells #[.map (some b)] 85)).heap.size (w.alloc (.cells #[.map (some b)] 85)) w':=by
 have hbl:=hown.lt
 have hseq:SeqGives Fence.wide 2 Tryz.prog 196 #[.pointer (some ⟨w.heap.size,0,none⟩)] encStr (fun ss=>ss.Perm (strKeys D0)) (Maps.size D0) (w.alloc (.cells #[.map (some b)] 85)):=
  AnyZ.keys_gives (ρ:=srtKeys_ren) {srtKeys with} Fence.wide _ trivial rfl (by omega) w.heap.size b nn D0 _ (by simp) (by simp) (by
   obtain ⟨es,clock,hb,Ft,hs,hD⟩:=hown
   exact ⟨es,clock,(Below.heap_alloc _ _ b hbl).trans hb,Ft,hs,hD⟩)
 exact AnyZ.sorted_in srtSorted Fence.wide 5 trivial trivial trivial trivial rfl (by omega) (srtSorts _) (enters_of Tryz.func195 (by kernel_rfl) rfl) 196 #[.pointer (some ⟨w.heap.size,0,none⟩)] trivial (enters_of Tryz.func196 (by kernel_rfl) rfl) _ _ hmax hbytes _ hseq
theorem flat_str (l:List (List UInt8)):(l.map fun x=> [Value.string ⟨⟨x⟩⟩]).flatten=l.map encStr:=by
 induction l with
 |nil=>rfl
 |cons x l ih=>rw[List.map_cons,List.flatten_cons,ih];rfl
theorem sorted_met {w:World} {b:Nat} {l:List ByteArray} (h:MetS w b l) (hl:l.length≤1000000):
  CallsIn Fence.wide 5 Tryz.prog 182 #[.func (.func 196) #[] #[.pointer (some ⟨w.heap.size,0,none⟩)]] (w.alloc (.cells #[.map (some b)] 85)) fun e w'=>∃v:Value,e= .returned v∧SlV w' w'.heap.size 1 isStr v (insAll [] l)∧Below w.heap.size w w':=by
 obtain ⟨D,hown,hsz,hp⟩:=h.keys
 refine (sorted_keys b l.length D _ w hown (by unfold maxLen;omega) (by omega)).mono ?_
 rintro e w' ⟨v,ss,rfl,hS,hrow,_,hb⟩
 have hp2:ss.Perm (l.map fun a=>a.data.toList):=hS.trans hp.symm
 have hnd:ss.Nodup:=hp2.nodup_iff.2 (by
  rw[List.nodup_iff_pairwise_ne,List.pairwise_map]
  exact (List.nodup_iff_pairwise_ne.1 h.1).imp fun {a c} g e=>g (nmb_inj e))
 have hM:(ss.mergeSort leB).map (fun x=>(⟨⟨x⟩⟩:ByteArray))=insAll [] l:=by
  refine rising_eq (sort_rising hnd) (insAll_rising List.Pairwise.nil) fun x=>?_
  rw[insAll_mem,List.mem_map]
  constructor
  ·rintro ⟨y,hy,rfl⟩
   have h1:=hp2.mem_iff.1 ((List.mergeSort_perm ss leB).mem_iff.1 hy)
   obtain ⟨a,ha,rfl⟩:=List.mem_map.1 h1
   exact .inr ha
  ·rintro (g|g)
   ·cases g
   ·exact ⟨_,(List.mergeSort_perm ss leB).mem_iff.2 (hp2.mem_iff.2 (List.mem_map_of_mem g)),rfl⟩
 refine ⟨v,rfl,?_,Below.trans ((Below.refl _ w).alloc (Nat.le_refl _) _) (hb.mono (by simp))⟩
 have hrow':w'.ownsRow (w.alloc (.cells #[.map (some b)] 85)).heap.size 9 1 v ss.length (((ss.mergeSort leB).map fun x=> [Value.string ⟨⟨x⟩⟩]).flatten):=by
  rw[flat_str];exact hrow
 rw[←hM]
 refine (own_sl (rel:=isStr) (l:=(ss.mergeSort leB).map (fun x=>(⟨⟨x⟩⟩:ByteArray))) hrow' ⟨by simp,fun i x cs hx hc=>?_⟩ (fun cs hc=>?_) (by decide)).1
 ·rw[List.getElem?_map,Option.map_eq_some_iff] at hx hc
  obtain ⟨y,hy,rfl⟩:=hx
  obtain ⟨z,hz,rfl⟩:=hc
  rw[hy] at hz
  injection hz with hz
  subst hz
  refine ⟨rfl,?_⟩
  have hm:y∈strKeys D:=hS.mem_iff.1 ((List.mergeSort_perm ss leB).mem_iff.1 (List.mem_of_getElem? hy))
  have:=strKeys_le hown Tryz.underlying9 y hm
  simpa[ByteArray.size] using this
 ·obtain ⟨y,_,rfl⟩:=List.mem_map.1 hc
  rfl
end
end Go.Proofs.YtdkgkacnjdnpoaaGreat
