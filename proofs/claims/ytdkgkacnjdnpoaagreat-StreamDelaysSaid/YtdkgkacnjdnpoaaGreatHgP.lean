/-
  The names of variables in an expression, plain; the contract of tompionref12.Names. Which expressions go by which clocks: the contract of clock.Fits. What is wrong first with clocks, plain; what holds in a source whose names are right. In a source with nothing wrong each name is somebody's: plain. Rising lists of names, and what hangs on what by steps: plain.
-/
import Derived.Test.YtdkgkacnjdnpoaaGreatScH
import Derived.Test.YtdkgkacnjdnpoaaGreatRefRight
import Derived.Test.YtdkgkacnjdnpoaaGreatClkD
import Derived.Test.YtdkgkacnjdnpoaaGreatTreeRight
import Derived.Test.YtdkgkacnjdnpoaaGreatRepL
import Derived.Sort.KeysCollected
import Derived.Sort.Walk0
namespace Go.Proofs.YtdkgkacnjdnpoaaGreat
open Go.RowKit
theorem info_str:(Tryz.prog.info? 9).map (fun i=>(i.zero,i.size,i.bytes))=some (some (.string ⟨#[]⟩),1,16):=by kernel_rfl
theorem isStr_one {x:ByteArray} {cs:List Value} (h:isStr x cs):cs.length=1∧∀u∈cs,u.oneCell'=true:=by
 obtain ⟨rfl,_⟩:=h
 refine ⟨rfl,fun u hu=>?_⟩
 simp at hu;subst hu;rfl
theorem args_of_plain {e:Ex} (h:plainB e=true):ArgsOk e:=by
 have key:0≤partsZ e.op→(e.args.length:Int)=partsZ e.op:=fun h0=>Classical.byContradiction fun hne=>by
  unfold plainB at h
  rw[plainK_no2 ⟨h0,hne⟩] at h
  cases h
 constructor
 ·intro ho
  have hp:partsZ e.op=1:=by unfold partsZ;repeat' split;all_goals omega
  have:=key (by omega)
  omega
 ·intro ho
  have hp:partsZ e.op=2:=by unfold partsZ;repeat' split;all_goals omega
  have:=key (by omega)
  omega
structure NdKn (n:Nd):Prop where
 rt:NdRt n
 conds:∀v∈n.vars,∀c∈v.clock,c.name∈nms (vrs n)
 lefts:∀q∈n.eqs,∀nm∈q.left,nm∈nms (vrs n)
 exprs:∀q∈n.eqs,∀x∈exList q.right,namesB x.op=true→x.name∈nms (vrs n)
theorem scope_rt {s:List Nd} (h:(scopeF s).err=0):SrcRt s:=Classical.byContradiction fun g=>by
 rw[scopeF_2 g] at h
 exact absurd h (by show ¬(2:Int)=0;decide)
theorem scope_nodes {s:List Nd} (h:(scopeF s).err=0):∀n∈s,(variablesF n).err=0∧(equationsF s n).err=0:=by
 have hr:=scope_rt h
 rw[scopeF_rt hr] at h
 intro n hn
 obtain ⟨i,hi⟩:=List.getElem?_of_mem hn
 exact ft2_ok (fstL_ok (ft2_ok (ft2_ok h).2).1 i n hi)
theorem eqn_ok {s:List Nd} {n:Nd} (h:(equationsF s n).err=0):∀(i:Nat) q,n.eqs[i]? =some q→(leftF n (metTo n i) q).err=0∧(exprF s n q.left.length q.right).err=0:=fun i q hq=>
 ft2_ok (fstL_ok (ft2_ok h).1 i q hq)
theorem expr_ok {s:List Nd} {n:Nd} {outs:Int} {e:Ex} (h:(exprF s n outs e).err=0):∀(i:Nat) x,(exList e)[i]? =some x→(oneF s n (if i=0 then outs else 1) x).err=0:=by
 rw[←exprF_list] at h
 exact fstL_ok h
theorem one_name {s:List Nd} {n:Nd} {outs:Int} {x:Ex} (h:(oneF s n outs x).err=0) (hb:namesB x.op=true):x.name∈nms (vrs n):=Classical.byContradiction fun g=>by
 unfold oneF at h
 rw[if_pos hb,if_pos g] at h
 exact absurd h (by show ¬(24:Int)=0;decide)
theorem scope_kn {s:List Nd} (h:(scopeF s).err=0):∀n∈s,NdKn n:=by
 intro n hn
 obtain ⟨hv,he⟩:=scope_nodes h n hn
 refine ⟨(scope_rt h).1 n hn,fun v hvm c hc=>?_,fun q hq nm hnm=>?_,fun q hq x hx hb=>?_⟩
 ·obtain ⟨i,hi⟩:=List.getElem?_of_mem hvm
  obtain ⟨j,hj⟩:=List.getElem?_of_mem hc
  have h1:(condF n v j c).err=0:=fstL_ok (f:=condF n v) (fstL_ok (f:=clkF n) (ft2_ok hv).2 i v hi) j c hj
  refine Classical.byContradiction fun g=>?_
  unfold condF at h1
  rw[if_pos g] at h1
  exact absurd h1 (by show ¬(24:Int)=0;decide)
 ·obtain ⟨i,hi⟩:=List.getElem?_of_mem hq
  obtain ⟨j,hj⟩:=List.getElem?_of_mem hnm
  have h1:=fstL_ok (ft2_ok (eqn_ok he i q hi).1).1 j nm hj
  refine Classical.byContradiction fun g=>?_
  unfold leftNF at h1
  rw[if_pos g] at h1
  exact absurd h1 (by show ¬(24:Int)=0;decide)
 ·obtain ⟨i,hi⟩:=List.getElem?_of_mem hq
  obtain ⟨j,hj⟩:=List.getElem?_of_mem hx
  exact one_name (expr_ok (eqn_ok he i q hi).2 j x hj) hb
theorem kn_args {n:Nd} (h:NdKn n) {q:Eqn} (hq:q∈n.eqs):∀x∈exList q.right,ArgsOk x:=by
 have hr:=(h.rt.1 q hq).2.2.2
 simp only[exRight,Bool.and_eq_true,List.all_eq_true] at hr
 exact fun x hx=>args_of_plain (hr.1 x hx)
def RightClk (n:Nd) (clock:List Lt):Prop:=∀(i:Nat) l,clock[i]? =some l→clockOf n l.name=clock.take i
open Classical in
noncomputable def clkVF (n:Nd) (_:Nat) (v:Vr):Ft:=if ¬RightClk n v.clock then ⟨30,v.line,v.col⟩ else ft0
noncomputable def eqClk (n:Nd) (q:Eqn):List Lt:=clockOf n (q.left.headD ⟨#[]⟩)
open Classical in
noncomputable def clkQF (n:Nd) (_:Nat) (q:Eqn):Ft:=if ∃nm∈q.left,clockOf n nm≠eqClk n q then ⟨30,q.line,q.col⟩ else fitsP n q.right (eqClk n q)
noncomputable def clkNF (_:Nat) (n:Nd):Ft:=ft2 (fstL (clkVF n) n.vars) (fstL (clkQF n) n.eqs)
noncomputable def clockF (s:List Nd):Ft:=ft2 (scopeF s) (fstL clkNF s)
theorem clkVF_yes {n:Nd} {i:Nat} {v:Vr} (h:RightClk n v.clock):clkVF n i v=ft0:=if_neg (fun g=>g h)
theorem clkVF_no {n:Nd} {i:Nat} {v:Vr} (h:¬RightClk n v.clock):clkVF n i v=⟨30,v.line,v.col⟩:=if_pos h
theorem clkQF_bad {n:Nd} {i:Nat} {q:Eqn} {nm:ByteArray} (h:nm∈q.left) (h':clockOf n nm≠eqClk n q):clkQF n i q=⟨30,q.line,q.col⟩:=if_pos ⟨nm,h,h'⟩
theorem clkQF_ok {n:Nd} {i:Nat} {q:Eqn} (h:∀nm∈q.left,clockOf n nm=eqClk n q):clkQF n i q=fitsP n q.right (eqClk n q):=if_neg (fun ⟨nm,hm,g⟩=>g (h nm hm))
theorem eqClk_head {n:Nd} {q:Eqn} {nm:ByteArray} (h:q.left[0]? =some nm):eqClk n q=clockOf n nm:=by
 unfold eqClk
 cases hq:q.left with
 |nil=>rw[hq] at h;simp at h
 |cons a l=>rw[hq] at h;simp at h;subst h;rfl
theorem clkNF_zero {n:Nd} {i:Nat} (h:(clkNF i n).err=0):clkNF i n=ft0:=by
 unfold clkNF at h⊢
 obtain ⟨h1,h2⟩:=ft2_ok h
 rw[ft2_0 h1]
 exact fstL_zero h2
theorem nodup_le {α:Type}:∀{l m:List α},(∀(i j:Nat) (x:α),l[i]? =some x→l[j]? =some x→i=j)→(∀x∈l,x∈m)→l.length≤m.length
 | [],_,_,_=>Nat.zero_le _
 |a::l,m,hd,hs=>by
  obtain ⟨m1,m2,rfl⟩:=List.append_of_mem (hs a (by simp))
  have h:=nodup_le (l:=l) (m:=m1++m2) (fun i j x hi hj=>by
   have:=hd (i+1) (j+1) x (by simpa using hi) (by simpa using hj)
   omega) (fun x hx=>by
   have hne:x≠a:=fun e=>by
    subst e
    obtain ⟨i,hi⟩:=List.getElem?_of_mem hx
    have:=hd 0 (i+1) x rfl (by simpa using hi)
    omega
   have:=hs x (by simp[hx])
   simp only[List.mem_append,List.mem_cons] at this⊢
   rcases this with h|h|h
   ·exact .inl h
   ·exact absurd h hne
   ·exact .inr h)
  simp only[List.length_cons,List.length_append] at h⊢
  omega
def Once (l:List ByteArray):Prop:=∀(i j:Nat) x,l[i]? =some x→l[j]? =some x→i=j
theorem once_of {l:List ByteArray} (h:∀(i:Nat) x,l[i]? =some x→x∉l.take i):Once l:=fun i j x hi hj=>by
 rcases Nat.lt_trichotomy i j with g|g|g
 ·exact absurd (mem_take.2 ⟨i,g,hi⟩) (h j x hj)
 ·exact g
 ·exact absurd (mem_take.2 ⟨j,g,hj⟩) (h i x hi)
section
variable {s:List Nd} {n:Nd}
theorem ports_bare (hv:(variablesF n).err=0) {i:Nat} {v:Vr} (hi:(vrs n)[i]? =some v) (hp:i<n.ins.length+n.outs.length):v.clock=[]:=by
 have h:=fstL_ok (f:=varF n) (ft2_ok hv).1 i v hi
 unfold varF at h
 split at h
 ·exact absurd h (by show ¬(23:Int)=0;decide)
 ·split at h
  ·exact absurd h (by show ¬(30:Int)=0;decide)
  ·rename_i g
   exact List.eq_nil_of_length_eq_zero (by
    rcases Nat.eq_zero_or_pos v.clock.length with g0|g0
    ·exact g0
    ·exact absurd ⟨hp,g0⟩ g)
theorem call_ok {outs:Int} {x:Ex} (h:(oneF s n outs x).err=0) (h4:x.op=4):∃m,nodeAt s x.name=some m∧m.ins.length=x.args.length:=by
 unfold oneF at h
 rw[if_neg (by rw[h4];decide),if_pos h4] at h
 cases hm:nodeAt s x.name with
 |none=>rw[hm] at h;exact absurd h (by show ¬(24:Int)=0;decide)
 |some m=>
  rw[hm] at h
  simp only at h
  refine ⟨m,rfl,Classical.byContradiction fun g=>?_⟩
  rw[if_pos (.inl g)] at h
  exact absurd h (by show ¬(25:Int)=0;decide)
end
theorem conds_all {s:List Nd} (h:(scopeF s).err=0) {n:Nd} (hn:n∈s) {i:Nat} {v:Vr} (hi:(vrs n)[i]? =some v):∀c∈v.clock,c.name∈nms (vrs n):=by
 have hv:=(scope_nodes h n hn).1
 by_cases hp:i<n.ins.length+n.outs.length
 ·rw[ports_bare hv hi hp];intro c hc;cases hc
 ·have hm:v∈n.vars:=by
   rw[vrs,List.getElem?_append_right (by simp;omega)] at hi
   exact List.mem_of_getElem? hi
  exact (scope_kn h n hn).conds v hm
def ltN (a b:ByteArray):Prop:=a.data.toList<b.data.toList
theorem ltN_irrefl (a:ByteArray):¬ltN a a:=List.lt_irrefl a.data.toList
theorem ltN_trans {a b c:ByteArray} (h:ltN a b) (k:ltN b c):ltN a c:=(List.lt_trans h k:a.data.toList<c.data.toList)
theorem nmb_inj {a b:ByteArray} (h:a.data.toList=b.data.toList):a=b:=WideShapes.bytes_inj h
theorem ltN_of {a b:ByteArray} (h:¬ltN a b) (hne:a≠b):ltN b a:=by
 unfold ltN at*
 have h1:b.data.toList≤a.data.toList:=List.not_lt.1 h
 rcases List.le_iff_lt_or_eq.1 h1 with g|g
 ·exact g
 ·exact absurd (nmb_inj g).symm hne
abbrev Rising (l:List ByteArray):Prop:=l.Pairwise ltN
theorem Rising.nodup {l:List ByteArray} (h:Rising l):l.Nodup:=by
 rw[List.nodup_iff_pairwise_ne]
 exact h.imp fun {a b} (g:ltN a b) (e:a=b)=>ltN_irrefl a (by rw[←e] at g;exact g)
theorem nodup_once {l:List ByteArray} (h:l.Nodup):Once l:=fun i j x hi hj=>by
 obtain ⟨h1,h2⟩:=List.getElem?_eq_some_iff.1 hi
 obtain ⟨h3,h4⟩:=List.getElem?_eq_some_iff.1 hj
 exact (List.getElem_inj h).1 (h2.trans h4.symm)
theorem once_nodup {l:List ByteArray} (h:Once l):l.Nodup:=by
 rw[List.nodup_iff_pairwise_ne,List.pairwise_iff_getElem]
 intro i j hi hj hij e
 have:=h i j l[i] (List.getElem?_eq_getElem hi) (by rw[e];exact List.getElem?_eq_getElem hj)
 omega
theorem nodup_len {l m:List ByteArray} (h:l.Nodup) (hs:∀x∈l,x∈m):l.length≤m.length:=nodup_le (nodup_once h) hs
theorem rising_eq {l m:List ByteArray} (hl:Rising l) (hm:Rising m) (h:∀x,x∈l↔x∈m):l=m:=
 List.Perm.eq_of_pairwise (le:=ltN) (fun a _ _ _ h1 h2=>absurd (ltN_trans h1 h2) (ltN_irrefl a)) hl hm ((List.perm_ext_iff_of_nodup hl.nodup hm.nodup).2 h)
open Classical in
noncomputable def insR:List ByteArray→ByteArray→List ByteArray
 | [],s=> [s]
 |x::l,s=>if ltN s x then s::x::l else x::insR l s
theorem insR_mem {l:List ByteArray} {s x:ByteArray}:x∈insR l s↔x=s∨x∈l:=by
 induction l with
 |nil=>simp[insR]
 |cons y l ih=>
  unfold insR
  split
  ·simp
  ·rw[List.mem_cons,ih,List.mem_cons]
   constructor
   ·rintro (h|h|h)
    ·exact .inr (.inl h)
    ·exact .inl h
    ·exact .inr (.inr h)
   ·rintro (h|h|h)
    ·exact .inr (.inl h)
    ·exact .inl h
    ·exact .inr (.inr h)
theorem insR_rising {l:List ByteArray} {s:ByteArray} (h:Rising l) (hs:s∉l):Rising (insR l s):=by
 induction l with
 |nil=>simp[insR]
 |cons y l ih=>
  have h:=List.pairwise_cons.1 h
  unfold insR
  split
  ·rename_i g
   show List.Pairwise ltN _
   rw[List.pairwise_cons,List.pairwise_cons]
   refine ⟨fun z hz=>?_,h⟩
   rcases List.mem_cons.1 hz with rfl|hz
   ·exact g
   ·exact ltN_trans g (h.1 z hz)
  ·rename_i g
   show List.Pairwise ltN _
   rw[List.pairwise_cons]
   refine ⟨fun z hz=>?_,ih h.2 (fun g'=>hs (by simp[g']))⟩
   rcases insR_mem.1 hz with rfl|hz
   ·exact ltN_of g (fun e=>hs (by simp[e]))
   ·exact h.1 z hz
open Classical in
noncomputable def ins (l:List ByteArray) (s:ByteArray):List ByteArray:=if s∈l then l else insR l s
theorem ins_mem {l:List ByteArray} {s x:ByteArray}:x∈ins l s↔x=s∨x∈l:=by
 unfold ins
 split
 ·rename_i h
  exact ⟨.inr,fun g=>g.elim (fun e=>e▸h) id⟩
 ·exact insR_mem
theorem ins_rising {l:List ByteArray} {s:ByteArray} (h:Rising l):Rising (ins l s):=by
 unfold ins
 split
 ·exact h
 ·exact insR_rising h ‹_›
noncomputable def insAll (l m:List ByteArray):List ByteArray:=m.foldl ins l
theorem insAll_mem {l m:List ByteArray} {x:ByteArray}:x∈insAll l m↔x∈l∨x∈m:=by
 induction m generalizing l with
 |nil=>simp[insAll]
 |cons y m ih=>
  show x∈insAll (ins l y) m↔_
  rw[ih,ins_mem,List.mem_cons]
  constructor
  ·rintro ((h|h)|h)
   ·exact .inr (.inl h)
   ·exact .inl h
   ·exact .inr (.inr h)
  ·rintro (h|h|h)
   ·exact .inl (.inr h)
   ·exact .inl (.inl h)
   ·exact .inr h
theorem insAll_rising {l m:List ByteArray} (h:Rising l):Rising (insAll l m):=by
 induction m generalizing l with
 |nil=>exact h
 |cons y m ih=>exact ih (ins_rising h)
theorem sort_rising {L:List (List UInt8)} (h:L.Nodup):((L.mergeSort leB).map fun x=>(⟨⟨x⟩⟩:ByteArray)).Pairwise ltN:=by
 have tr:∀a b c:List UInt8,leB a b=true→leB b c=true→leB a c=true:=fun a b c h1 h2=>by simp only[leB,decide_eq_true_eq] at*;exact List.le_trans h1 h2
 have tot:∀a b:List UInt8,(leB a b||leB b a)=true:=fun a b=>by simp only[leB,Bool.or_eq_true,decide_eq_true_eq];exact List.le_total a b
 have h1:=List.pairwise_mergeSort tr tot L
 have h2:(L.mergeSort leB).Nodup:=(List.mergeSort_perm L leB).nodup_iff.2 h
 rw[List.pairwise_map]
 refine (h1.and h2).imp fun {a b} g=>?_
 obtain ⟨g1,g2⟩:=g
 have g1':a≤b:=by simpa[leB] using g1
 show a<b
 rcases List.le_iff_lt_or_eq.1 g1' with g|g
 ·exact g
 ·exact absurd g g2
section
variable (U:ByteArray→List ByteArray)
inductive Hg (a:ByteArray):ByteArray→Prop
 |one {b:ByteArray}:b∈U a→Hg a b
 |more {b c:ByteArray}:Hg a b→c∈U b→Hg a c
noncomputable def rnd (l:List ByteArray):List ByteArray:=l.foldl (fun o x=>insAll o (U x)) l
noncomputable def rndTo (l:List ByteArray) (k:Nat) (m:List ByteArray):List ByteArray:=(l.take k).foldl (fun o x=>insAll o (U x)) m
noncomputable def stp (a:ByteArray):Nat→List ByteArray
 |0=>U a
 |n+1=>rnd U (stp a n)
end
section
variable {U:ByteArray→List ByteArray} {V:List ByteArray}
theorem rndTo_end (l:List ByteArray):rndTo U l l.length l=rnd U l:=by unfold rndTo rnd;rw[List.take_length]
theorem rndTo_mem {l m:List ByteArray} {k:Nat} {y:ByteArray}:y∈rndTo U l k m↔y∈m∨∃x∈l.take k,y∈U x:=by
 unfold rndTo
 induction l.take k generalizing m with
 |nil=>simp
 |cons x l ih=>
  rw[List.foldl_cons,ih,insAll_mem]
  constructor
  ·rintro ((h|h)|⟨z,hz,h⟩)
   ·exact .inl h
   ·exact .inr ⟨x,by simp,h⟩
   ·exact .inr ⟨z,by simp[hz],h⟩
  ·rintro (h|⟨z,hz,h⟩)
   ·exact .inl (.inl h)
   ·rcases List.mem_cons.1 hz with rfl|hz
    ·exact .inl (.inr h)
    ·exact .inr ⟨z,hz,h⟩
theorem rnd_mem {l:List ByteArray} {y:ByteArray}:y∈rnd U l↔y∈l∨∃x∈l,y∈U x:=by
 rw[←rndTo_end,rndTo_mem,List.take_length]
theorem rndTo_rising {l m:List ByteArray} {k:Nat} (h:Rising m):Rising (rndTo U l k m):=by
 unfold rndTo
 induction l.take k generalizing m with
 |nil=>exact h
 |cons x l ih=>exact ih (insAll_rising h)
theorem rnd_rising {l:List ByteArray} (h:Rising l):Rising (rnd U l):=by rw[←rndTo_end];exact rndTo_rising h
theorem stp_rising {a:ByteArray} (h:Rising (U a)):∀n,Rising (stp U a n)
 |0=>h
 |n+1=>rnd_rising (stp_rising h n)
theorem stp_hg {a:ByteArray}:∀n x,x∈stp U a n→Hg U a x
 |0,_,h=> .one h
 |n+1,x,h=>by
  rcases rnd_mem.1 h with g|⟨y,hy,g⟩
  ·exact stp_hg n x g
  ·exact .more (stp_hg n y hy) g
theorem hg_sub (hV:∀x,∀y∈U x,y∈V) {a x:ByteArray} (h:Hg U a x):x∈V:=by
 cases h with
 |one h=>exact hV _ _ h
 |more _ h=>exact hV _ _ h
theorem hg_trans {a b c:ByteArray} (h:Hg U a b) (k:Hg U b c):Hg U a c:=by
 induction k with
 |one k=>exact .more h k
 |more _ k ih=>exact .more ih k
theorem stp_base {a:ByteArray}:∀n x,x∈U a→x∈stp U a n
 |0,_,h=>h
 |n+1,x,h=>rnd_mem.2 (.inl (stp_base n x h))
def Closed (U:ByteArray→List ByteArray) (l:List ByteArray):Prop:=∀x∈l,∀y∈U x,y∈l
theorem closed_rnd {l:List ByteArray} (h:Closed U l):Closed U (rnd U l):=by
 have e:∀y,y∈rnd U l↔y∈l:=fun y=>by
  rw[rnd_mem]
  exact ⟨fun g=>g.elim id fun ⟨x,hx,g⟩=>h x hx y g,.inl⟩
 intro x hx y hy
 exact (e y).2 (h x ((e x).1 hx) y hy)
theorem stp_closed (hV:∀x,∀y∈U x,y∈V) {a:ByteArray} (hr:Rising (U a)):∀n,Closed U (stp U a n)∨n≤(stp U a n).length
 |0=> .inr (Nat.zero_le _)
 |n+1=>by
  rcases stp_closed hV hr n with h|h
  ·exact .inl (closed_rnd h)
  ·by_cases hc:Closed U (stp U a n)
   ·exact .inl (closed_rnd hc)
   ·right
    unfold Closed at hc
    simp only[Classical.not_forall] at hc
    obtain ⟨x,hx,y,hy,hn⟩:=hc
    have h1:=(stp_rising hr n).nodup
    have h2:(y::stp U a n).Nodup:=List.nodup_cons.2 ⟨hn,h1⟩
    have h3:=nodup_len (m:=stp U a (n+1)) h2 fun z hz=>by
     rcases List.mem_cons.1 hz with rfl|hz
     ·exact rnd_mem.2 (.inr ⟨x,hx,hy⟩)
     ·exact rnd_mem.2 (.inl hz)
    simp only[List.length_cons] at h3
    omega
theorem stp_all (hV:∀x,∀y∈U x,y∈V) {a:ByteArray} (hr:Rising (U a)) {n:Nat} (hn:V.length≤n):Closed U (stp U a n):=by
 rcases stp_closed hV hr n with h|h
 ·exact h
 ·have h1:=(stp_rising hr n).nodup
  have hsub:∀x∈stp U a n,x∈V:=fun x hx=>hg_sub hV (stp_hg n x hx)
  intro x hx y hy
  refine Classical.byContradiction fun g=>?_
  have h2:=nodup_len (m:=V) (List.nodup_cons.2 ⟨g,h1⟩) fun z hz=>by
   rcases List.mem_cons.1 hz with rfl|hz
   ·exact hV _ _ hy
   ·exact hsub z hz
  simp only[List.length_cons] at h2
  omega
theorem stp_iff (hV:∀x,∀y∈U x,y∈V) {a:ByteArray} (hr:Rising (U a)) {n:Nat} (hn:V.length≤n) {x:ByteArray}:x∈stp U a n↔Hg U a x:=by
 constructor
 ·exact stp_hg n x
 ·intro h
  have hc:=stp_all hV hr hn
  induction h with
  |one h=>exact stp_base n _ h
  |more _ h ih=>exact hc _ ih _ h
theorem least (hV:∀x,∀y∈U x,y∈V) (hr:∀x,Rising (U x)) {P:ByteArray→Prop} (hac:∀x,P x→¬Hg U x x) {a:ByteArray} (ha:P a):
  ∃x,P x∧∀y∈U x,¬P y:=by
 generalize hk:(stp U a V.length).length=k
 induction k using Nat.strongRecOn generalizing a with
 |ind k ih=>
  by_cases h:∀y∈U a,¬P y
  ·exact ⟨a,ha,h⟩
  ·simp only[Classical.not_forall,Classical.not_not] at h
   obtain ⟨y,hy,hp⟩:=h
   refine ih _ ?_ hp rfl
   have hn:y∉stp U y V.length:=fun g=>hac y hp (stp_hg _ _ g)
   have h2:=nodup_len (m:=stp U a V.length) (List.nodup_cons.2 ⟨hn,(stp_rising (hr y) _).nodup⟩) fun z hz=>by
    rw[stp_iff hV (hr a) (Nat.le_refl _)]
    rcases List.mem_cons.1 hz with rfl|hz
    ·exact .one hy
    ·exact hg_trans (.one hy) (stp_hg _ _ hz)
   simp only[List.length_cons] at h2
   omega
structure Fnd (U:ByteArray→List ByteArray) (a:ByteArray) (l wt:List ByteArray):Prop where
 nd:l.Nodup
 hg:∀x,x∈l∨x∈wt→Hg U a x
 one:∀x∈U a,x∈l∨x∈wt
 more:∀x∈l,∀y∈U x,y∈l∨y∈wt
theorem Fnd.start (a:ByteArray):Fnd U a [] (U a):=⟨List.nodup_nil,fun x h=> .one (h.resolve_left (by simp)),fun x h=> .inr h,fun x h=>absurd h (by simp)⟩
theorem Fnd.old {a x:ByteArray} {l wt:List ByteArray} (h:Fnd U a l (x::wt)) (hx:x∈l):Fnd U a l wt:=
 ⟨h.nd,fun y g=>h.hg y (g.imp id (fun g=>by simp[g])),fun y g=>by
  rcases h.one y g with g|g
  ·exact .inl g
  ·rcases List.mem_cons.1 g with rfl|g
   ·exact .inl hx
   ·exact .inr g,fun z hz y g=>by
  rcases h.more z hz y g with g|g
  ·exact .inl g
  ·rcases List.mem_cons.1 g with rfl|g
   ·exact .inl hx
   ·exact .inr g⟩
theorem Fnd.new {a x:ByteArray} {l wt:List ByteArray} (h:Fnd U a l (x::wt)) (hx:x∉l):Fnd U a (l++ [x]) (wt++U x):=by
 have hmv:∀y,y∈l∨y∈x::wt→y∈l++ [x]∨y∈wt++U x:=fun y g=>by
  rcases g with g|g
  ·exact .inl (by simp[g])
  ·rcases List.mem_cons.1 g with rfl|g
   ·exact .inl (by simp)
   ·exact .inr (by simp[g])
 refine ⟨?_,fun y g=>?_,fun y g=>hmv y (h.one y g),fun z hz y g=>?_⟩
 ·rw[List.nodup_append]
  exact ⟨h.nd,by simp,fun y hy z hz e=>by simp at hz;subst hz;subst e;exact hx hy⟩
 ·simp only[List.mem_append,List.mem_cons,List.not_mem_nil,or_false] at g
  rcases g with (g|rfl)|g|g
  ·exact h.hg y (.inl g)
  ·exact h.hg y (.inr (by simp))
  ·exact h.hg y (.inr (by simp[g]))
  ·exact .more (h.hg x (.inr (by simp))) g
 ·simp only[List.mem_append,List.mem_cons,List.not_mem_nil,or_false] at hz
  rcases hz with hz|rfl
  ·exact hmv y (h.more z hz y g)
  ·exact .inr (by simp[g])
theorem Fnd.end_ {a:ByteArray} {l:List ByteArray} (h:Fnd U a l []) (x:ByteArray):x∈l↔Hg U a x:=by
 constructor
 ·intro g;exact h.hg x (.inl g)
 ·intro g
  induction g with
  |one g=>exact (h.one _ g).resolve_right (by simp)
  |more _ g ih=>exact (h.more _ ih _ g).resolve_right (by simp)
end
end Go.Proofs.YtdkgkacnjdnpoaaGreat
