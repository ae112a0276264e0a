/-
  Machines that can't go wrong, as plain data: the looker's and the document's answers are one. A right machine's program without an instruction whose register is taken is not right (plain). Forms, as plain data. What emit makes of a form in order, as plain data; it is a right machine. What emit makes of a form in order is a right machine: the law. Forms, plain laws: cells and keeps; what defines wires; what can be put in a row. Forms, plain laws: when an act is right, op by op. The order of acts, as plain data. The order of acts, as the document has it: the same.
-/
import Derived.Test.YtckognjamlckcaaGreatDoorZz
import Derived.Below
namespace Go.Proofs.YtckognjamlckcaaGreatDoor.Vf
def signIn (op:Int):Int:=if op=12∨op=13 then 0 else if op=6∨op=18∨op=19∨op=20 then 2 else if 5≤op∧op≤17 then 1 else 0
def signOut (op:Int):Int:=if op=6∨(12≤op∧op≤20) then 2 else if 5≤op∧op≤11 then 1 else 0
def valueOk (kind n:Int):Prop:=kind=1∨(kind=2∧(n=0∨n=1))
def getI (l:List Int) (n:Int):Int:=l.getD n.toNat 0
def types (l:List (Int × Int)):List Int:=l.map (·.1)
end Go.Proofs.YtckognjamlckcaaGreatDoor.Vf
namespace Go.Proofs.YtckognjamlckcaaGreatDoor.Fo
open Vf
structure Gd where
 wire:Int
 no:Bool
structure Wr where
 ty:Int
 clock:List Gd
structure Ac where
 op:Int
 dst:Int
 a:Int
 b:Int
 c:Int
 k:Int
structure Fm where
 wires:List Wr
 acts:List Ac
 cells:List (Int × Int)
 keeps:List (Int × Int)
 ins:List Int
 outs:List Int
def isW (f:Fm) (n:Int):Prop:=0≤n∧n<f.wires.length
def wAt (f:Fm) (n:Int):Wr:=f.wires.getD n.toNat ⟨0,[]⟩
def tyOf (f:Fm) (n:Int):Int:=(wAt f n).ty
def clockOf (f:Fm) (n:Int):List Gd:=(wAt f n).clock
def wireOk (f:Fm) (w:Wr):Prop:=(w.ty=1∨w.ty=2)∧∀(i:Nat) g,w.clock[i]? =some g→isW f g.wire∧tyOf f g.wire=2∧clockOf f g.wire=w.clock.take i
def wiresOk (f:Fm):Prop:=(∀w∈f.wires,wireOk f w)∧1≤f.wires.length∧f.wires.length≤1600
def portsOk (f:Fm) (l:List Int):Prop:=(∀n∈l,isW f n∧clockOf f n=[])∧1≤l.length∧l.length≤8
def kept (f:Fm) (c:Int):Option Int:=(f.keeps.find? (fun k=>k.1==c)).map (·.2)
def cellsOk (f:Fm):Prop:=
 (∀c∈f.cells,valueOk c.1 c.2)∧f.cells.length≤60∧
 (∀k∈f.keeps,0≤k.1∧k.1<f.cells.length∧isW f k.2∧tyOf f k.2=getI (types f.cells) k.1)∧
 (∀(i j:Nat) x y,i<j→f.keeps[i]? =some x→f.keeps[j]? =some y→x.1≠y.1)∧
 ∀c:Nat,c<f.cells.length→∃k∈f.keeps,k.1=c
def definedOk (f:Fm):Prop:=
 (∀(i j:Nat) x y,i<j→f.ins[i]? =some x→f.ins[j]? =some y→x≠y)∧
 (∀a∈f.acts,isW f a.dst∧a.dst∉f.ins)∧
 (∀(i j:Nat) x y,i<j→f.acts[i]? =some x→f.acts[j]? =some y→x.dst≠y.dst)∧
 ∀n:Nat,n<f.wires.length→(n:Int)∈f.ins∨∃a∈f.acts,a.dst=n
def uses (op:Int):Int:=if op=1∨op=2∨op=21 then 0 else if op=3∨op=5∨op=6∨op=24 then 1 else if 7≤op∧op≤20 then 2 else if op=26∨op=27 then 3 else-1
def actOk (f:Fm) (x:Ac):Prop:=
 isW f x.a∧isW f x.b∧isW f x.c∧0≤uses x.op∧(uses x.op<1→x.a=0)∧(uses x.op<2→x.b=0)∧(uses x.op<3→x.c=0)∧(0<uses x.op→x.k=0)∧
 (if x.op=1 then tyOf f x.dst=1
  else if x.op=2 then tyOf f x.dst=2∧(x.k=0∨x.k=1)
  else if x.op=21 then 0≤x.k∧x.k<f.cells.length∧tyOf f x.dst=getI (types f.cells) x.k∧∃n,kept f x.k=some n∧clockOf f x.dst=clockOf f n
  else if x.op=24 then ∃g,clockOf f x.dst=clockOf f x.a++ [g]∧tyOf f x.dst=tyOf f x.a
  else if x.op=26 then clockOf f x.dst=clockOf f x.a∧tyOf f x.a=2∧tyOf f x.dst=tyOf f x.b∧tyOf f x.dst=tyOf f x.c∧clockOf f x.b=clockOf f x.dst++ [⟨x.a,false⟩]∧clockOf f x.c=clockOf f x.dst++ [⟨x.a,true⟩]
  else if x.op=3 then clockOf f x.dst=clockOf f x.a∧tyOf f x.dst=tyOf f x.a
  else if x.op=27 then clockOf f x.dst=clockOf f x.a∧clockOf f x.dst=clockOf f x.b∧clockOf f x.dst=clockOf f x.c∧tyOf f x.a=2∧tyOf f x.b=tyOf f x.c∧tyOf f x.dst=tyOf f x.b
  else clockOf f x.dst=clockOf f x.a∧(1<uses x.op→clockOf f x.dst=clockOf f x.b∧tyOf f x.a=tyOf f x.b)∧tyOf f x.dst=signOut x.op∧(signIn x.op=0∨tyOf f x.a=signIn x.op))
def wants (x:Ac):List Int:=if uses x.op≤0 then [] else if uses x.op=1 then [x.a] else if uses x.op=2 then [x.a,x.b] else [x.a,x.b,x.c]
inductive Done (f:Fm):Int→Prop where
 |ins (n:Int) (h:n∈f.ins):Done f n
 |act (x:Ac) (hx:x∈f.acts) (hw:∀n∈wants x,Done f n) (hg:∀g∈clockOf f x.dst,Done f g.wire):Done f x.dst
def rowOk (f:Fm):Prop:=∀n:Nat,n<f.wires.length→Done f n
def formOk (f:Fm):Prop:=wiresOk f∧portsOk f f.ins∧portsOk f f.outs∧cellsOk f∧definedOk f∧(∀x∈f.acts,actOk f x)∧rowOk f
section
variable {f:Fm} {H:List Int}
theorem uses_cases {op:Int} (h:0≤uses op):op=1∨op=2∨op=21∨op=3∨op=24∨op=26∨op=27∨(5≤op∧op≤6)∨(7≤op∧op≤20):=by
 unfold uses at h
 by_cases h1:op=1∨op=2∨op=21
 ·omega
 ·rw[if_neg h1] at h
  by_cases h2:op=3∨op=5∨op=6∨op=24
  ·omega
  ·rw[if_neg h2] at h
   by_cases h3:7≤op∧op≤20
   ·omega
   ·rw[if_neg h3] at h
    by_cases h4:op=26∨op=27
    ·omega
    ·rw[if_neg h4] at h
     omega
end
section
variable {f:Fm} {H:List Int}
end
theorem clock_ok {f:Fm} (h:wiresOk f) {n:Int} (hn:isW f n):∀g∈clockOf f n,isW f g.wire∧tyOf f g.wire=2:=fun g hg=>by
 have hl:n.toNat<f.wires.length:=by have:=hn.1;have:=hn.2;omega
 have e:wAt f n=f.wires[n.toNat]:=by simp[wAt,List.getD_eq_getElem?_getD,hl]
 unfold clockOf at hg
 rw[e] at hg
 obtain ⟨i,hi⟩:=List.getElem?_of_mem hg
 obtain ⟨h1,h2,_⟩:=(h.1 _ (List.getElem_mem hl)).2 i g hi
 exact ⟨h1,h2⟩
theorem nodup_of {α β:Type} {l:List α} {g:α→β} (h:∀(i j:Nat) x y,i<j→l[i]? =some x→l[j]? =some y→g x≠g y):(l.map g).Nodup:=by
 rw[List.nodup_iff_pairwise_ne,List.pairwise_map,List.pairwise_iff_getElem]
 intro i j hi hj hij
 exact h i j _ _ hij (List.getElem?_eq_getElem hi) (List.getElem?_eq_getElem hj)
def keepOk (f:Fm) (k:Int × Int):Prop:=0≤k.1∧k.1<f.cells.length∧isW f k.2∧tyOf f k.2=getI (types f.cells) k.1
def keptIn (l:List (Int × Int)) (c:Int):Option Int:=(l.find? (fun k=>k.1==c)).map (·.2)
structure KeepSt (f:Fm) (j:Nat) (ks:List Int):Prop where
 len:ks.length=f.cells.length
 ok:∀k∈f.keeps.take j,keepOk f k
 val:∀c:Nat,c<f.cells.length→getI ks c=(keptIn (f.keeps.take j) c).getD (-1)
 dist:(f.keeps.take j).Pairwise (fun x y=>x.1≠y.1)
theorem keptIn_none {l:List (Int × Int)} {c:Int}:keptIn l c=none↔∀k∈l,k.1≠c:=by
 simp[keptIn]
theorem keptIn_some {l:List (Int × Int)} {c n:Int} (h:keptIn l c=some n):(c,n)∈l:=by
 simp only[keptIn,Option.map_eq_some_iff] at h
 obtain ⟨k,h1,h2⟩:=h
 have h3:=List.mem_of_find?_eq_some h1
 have h4:=List.find?_some h1
 simp at h4
 rw[←h4,←h2]
 exact h3
theorem keptIn_snoc {l:List (Int × Int)} {x:Int × Int} {c:Int}:keptIn (l++ [x]) c=(keptIn l c).or (if x.1=c then some x.2 else none):=by
 unfold keptIn
 rw[List.find?_append]
 cases l.find? (fun k=>k.1==c) with
 |some y=>simp
 |none=>
  by_cases h:x.1=c
  ·simp[h]
  ·simp[h]
theorem take_snoc' {α:Type} {l:List α} {j:Nat} {x:α} (h:l[j]? =some x):l.take (j+1)=l.take j++ [x]:=by
 rw[List.take_add_one,h];rfl
theorem getI_set {ks:List Int} {i:Int} {v:Int} {c:Nat} (h0:0≤i) (h1:i<ks.length):getI (ks.set i.toNat v) c=if i=c then v else getI ks c:=by
 simp only[getI,List.getD_eq_getElem?_getD,Int.toNat_natCast,List.getElem?_set]
 by_cases h:i=c
 ·subst h
  simp
  rw[if_pos (by omega)]
  rfl
 ·rw[if_neg (by omega),if_neg h]
theorem keep_start (f:Fm):KeepSt f 0 (List.replicate f.cells.length (-1)):=
 ⟨by simp,by simp,fun c hc=>by simp[getI,List.getD_eq_getElem?_getD,hc,keptIn],by simp⟩
theorem keep_free {f:Fm} {j:Nat} {ks:List Int} (h:KeepSt f j ks) {c:Nat} (hc:c<f.cells.length):getI ks c= -1↔∀k∈f.keeps.take j,k.1≠c:=by
 rw[h.val c hc]
 constructor
 ·intro hn
  cases hk:keptIn (f.keeps.take j) c with
  |none=>exact keptIn_none.1 hk
  |some n=>
   rw[hk] at hn
   have:=(h.ok _ (keptIn_some hk)).2.2.1.1
   simp at hn
   dsimp only at this
   omega
 ·intro hn
  rw[keptIn_none.2 hn]
  rfl
theorem keep_step' {f:Fm} {j:Nat} {ks:List Int} (h:KeepSt f j ks) {x:Int × Int} (hx:f.keeps[j]? =some x) (hk:keepOk f x) (hf:getI ks x.1= -1):KeepSt f (j+1) (ks.set x.1.toNat x.2):=by
 obtain ⟨m,hm⟩:=Int.eq_ofNat_of_zero_le hk.1
 have hml:m<f.cells.length:=by have:=hk.2.1;omega
 have hfree:=(keep_free h hml).1 (by rw[←hm];exact hf)
 refine ⟨by simp[h.len],?_,fun c hc=>?_,?_⟩
 ·rw[take_snoc' hx]
  intro k hk'
  rcases List.mem_append.1 hk' with h'|h'
  ·exact h.ok k h'
  ·simp at h';rw[h'];exact hk
 ·rw[getI_set hk.1 (by rw[h.len];exact hk.2.1),take_snoc' hx,keptIn_snoc]
  by_cases hc':x.1=c
  ·rw[if_pos hc',if_pos hc']
   have:keptIn (f.keeps.take j) c=none:=keptIn_none.2 (fun k hk'=>by rw[←hc',hm];exact hfree k hk')
   rw[this]
   rfl
  ·rw[if_neg hc',if_neg hc',h.val c hc]
   simp
 ·rw[take_snoc' hx,List.pairwise_append]
  refine ⟨h.dist,by simp,fun a ha b hb=>?_⟩
  simp at hb
  rw[hb,hm]
  exact hfree a ha
theorem pair_of {α:Type} {R:α→α→Prop} {l:List α} (h:∀(i j:Nat) x y,i<j→l[i]? =some x→l[j]? =some y→R x y):l.Pairwise R:=by
 rw[List.pairwise_iff_getElem]
 intro i j hi hj hij
 exact h i j _ _ hij (List.getElem?_eq_getElem hi) (List.getElem?_eq_getElem hj)
theorem of_pair {α:Type} {R:α→α→Prop} {l:List α} (h:l.Pairwise R):∀(i j:Nat) x y,i<j→l[i]? =some x→l[j]? =some y→R x y:=by
 intro i j x y hij hx hy
 rw[List.pairwise_iff_getElem] at h
 obtain ⟨hi,rfl⟩:=List.getElem?_eq_some_iff.1 hx
 obtain ⟨hj,rfl⟩:=List.getElem?_eq_some_iff.1 hy
 exact h i j hi hj hij
theorem cells_no_keep {f:Fm} {j:Nat} {ks:List Int} (h:KeepSt f j ks) {x:Int × Int} (hx:f.keeps[j]? =some x) (hn:¬(keepOk f x∧getI ks x.1= -1)):¬cellsOk f:=by
 rintro ⟨_,_,h3,h4,_⟩
 have hk:keepOk f x:=h3 x (List.mem_of_getElem? hx)
 refine hn ⟨hk,?_⟩
 obtain ⟨m,hm⟩:=Int.eq_ofNat_of_zero_le hk.1
 have hml:m<f.cells.length:=by have:=hk.2.1;omega
 rw[hm,keep_free h hml]
 intro k hk' e
 obtain ⟨i,hi⟩:=List.getElem?_of_mem hk'
 rw[List.getElem?_take] at hi
 split at hi
 ·rename_i hij
  exact h4 i j k x hij hi hx (by rw[e,hm])
 ·cases hi
theorem cells_no_cell {f:Fm} {x:Int × Int} {k:Nat} (hx:f.cells[k]? =some x) (hn:¬valueOk x.1 x.2):¬cellsOk f:=fun h=>hn (h.1 x (List.mem_of_getElem? hx))
theorem cells_end {f:Fm} {ks:List Int} (hv:∀j,j<f.cells.length→∀x,f.cells[j]? =some x→valueOk x.1 x.2) (h:KeepSt f f.keeps.length ks):cellsOk f↔f.cells.length≤60∧¬(-1:Int)∈ks:=by
 have hok:=h.ok
 have hd:=h.dist
 rw[List.take_length] at hok hd
 have hfree:(-1:Int)∈ks↔∃c:Nat,c<f.cells.length∧getI ks c= -1:=by
  constructor
  ·intro hm
   obtain ⟨i,hi,e⟩:=List.getElem_of_mem hm
   refine ⟨i,by rw[←h.len];exact hi,?_⟩
   simp[getI,List.getD_eq_getElem?_getD,List.getElem?_eq_getElem hi,e]
  ·rintro ⟨c,hc,e⟩
   have hc':c<ks.length:=by rw[h.len];exact hc
   simp only[getI,List.getD_eq_getElem?_getD,Int.toNat_natCast,List.getElem?_eq_getElem hc',Option.getD_some] at e
   rw[←e]
   exact List.getElem_mem _
 constructor
 ·rintro ⟨_,h2,_,_,h5⟩
  refine ⟨h2,fun hm=>?_⟩
  obtain ⟨c,hc,e⟩:=hfree.1 hm
  obtain ⟨k,hk,e'⟩:=h5 c hc
  have:=(keep_free h hc).1 e
  rw[List.take_length] at this
  exact this k hk e'
 ·rintro ⟨h2,hn⟩
  refine ⟨fun c hc=>?_,h2,fun k hk=>hok k hk,of_pair hd,fun c hc=>?_⟩
  ·obtain ⟨i,hi⟩:=List.getElem?_of_mem hc
   exact hv i (List.getElem?_eq_some_iff.1 hi).1 c hi
  ·apply Classical.byContradiction
   intro hno
   refine hn (hfree.2 ⟨c,hc,(keep_free h hc).2 ?_⟩)
   rw[List.take_length]
   exact fun k hk e=>hno ⟨k,hk,e⟩
theorem kept_end {f:Fm} {ks:List Int} (h:KeepSt f f.keeps.length ks) {c:Nat} (hc:c<f.cells.length):getI ks c=(kept f c).getD (-1):=by
 have:=h.val c hc
 rw[List.take_length] at this
 exact this
theorem kept_isW {f:Fm} (h:cellsOk f) {c:Nat} (hc:c<f.cells.length):∃n,kept f c=some n∧isW f n∧tyOf f n=getI (types f.cells) c:=by
 obtain ⟨k,hk,e⟩:=h.2.2.2.2 c hc
 cases hkc:kept f c with
 |none=>exact absurd e (keptIn_none.1 hkc k hk)
 |some n=>
  have hm:=keptIn_some (l:=f.keeps) hkc
  obtain ⟨_,_,h3,h4⟩:=h.2.2.1 _ hm
  exact ⟨n,rfl,h3,h4⟩
structure DefSt (f:Fm) (S:List Int) (bs:List Int):Prop where
 len:bs.length=f.wires.length
 val:∀m:Nat,m<f.wires.length→(getI bs m= -1↔(m:Int)∉S)
 nodup:S.Nodup
theorem def_start (f:Fm):DefSt f [] (List.replicate f.wires.length (-1)):=⟨by simp,fun m hm=>by simp[getI,List.getD_eq_getElem?_getD,hm],List.nodup_nil⟩
theorem def_step {f:Fm} {S bs:List Int} (h:DefSt f S bs) {n v:Int} (hn:isW f n) (hf:getI bs n= -1) (hv:v≠-1):DefSt f (S++ [n]) (bs.set n.toNat v):=by
 refine' zq134
 refine ⟨by simp[h.len],fun c hc=>?_,?_⟩
 ·rw[getI_set hn.1 (by rw[h.len];exact hn.2)]
  by_cases e:(m:Int)=c
  ·rw[if_pos e];simp[hv,e]
  ·rw[if_neg e,h.val c hc]
   simp only[List.mem_append,List.mem_singleton,not_or]
   exact ⟨fun g=>⟨g,fun q=>e q.symm⟩,fun g=>g.1⟩
 ·rw[List.nodup_append]
  refine ⟨h.nodup,by simp,fun a ha b hb=>?_⟩
  simp at hb
  rw[hb]
  intro e
  exact (h.val m hm).1 hf (e▸ha)
def dsts (f:Fm) (l:List Ac):List Int:=f.ins++l.map (·.dst)
theorem defined_iff {f:Fm}:definedOk f↔(dsts f f.acts).Nodup∧(∀a∈f.acts,isW f a.dst)∧∀n:Nat,n<f.wires.length→(n:Int)∈dsts f f.acts:=by
 unfold definedOk dsts
 rw[List.nodup_append]
 constructor
 ·rintro ⟨h1,h2,h3,h4⟩
  refine ⟨⟨pair_of h1,?_,?_⟩,fun a ha=>(h2 a ha).1,fun n hn=>?_⟩
  ·exact List.pairwise_map.2 (pair_of h3)
  ·intro a ha b hb e
   obtain ⟨x,hx,rfl⟩:=List.mem_map.1 hb
   exact (h2 x hx).2 (e▸ha)
  ·rcases h4 n hn with h|⟨a,ha,e⟩
   ·simp[h]
   ·exact List.mem_append_right _ (List.mem_map.2 ⟨a,ha,e⟩)
 ·rintro ⟨⟨h1,h2,h3⟩,h4,h5⟩
  refine ⟨of_pair h1,fun a ha=>⟨h4 a ha,fun hi=>h3 _ hi _ (List.mem_map.2 ⟨a,ha,rfl⟩) rfl⟩,of_pair (List.pairwise_map.1 h2),fun n hn=>?_⟩
  rcases List.mem_append.1 (h5 n hn) with h|h
  ·exact .inl h
  ·obtain ⟨a,ha,e⟩:=List.mem_map.1 h
   exact .inr ⟨a,ha,e⟩
theorem def_no {f:Fm} {S bs:List Int} (h:DefSt f S bs) {n:Int} (hn:isW f n) {r:List Int} (hS:dsts f f.acts=S++n::r) (hf:getI bs n≠-1):¬definedOk f:=fun hd=>by
 obtain ⟨m,rfl⟩:=Int.eq_ofNat_of_zero_le hn.1
 have hm:m<f.wires.length:=by have:=hn.2;omega
 have hmem:(m:Int)∈S:=Classical.byContradiction fun g=>hf ((h.val m hm).2 g)
 have hnd:=(defined_iff.1 hd).1
 rw[hS,List.nodup_append] at hnd
 exact hnd.2.2 _ hmem _ (by simp) rfl
theorem def_end {f:Fm} {bs:List Int} (h:DefSt f (dsts f f.acts) bs) (ha:∀j,j<f.acts.length→∀x,f.acts[j]? =some x→isW f x.dst):definedOk f↔¬(-1:Int)∈bs:=by
 rw[defined_iff]
 have hfree:(-1:Int)∈bs↔∃c:Nat,c<f.wires.length∧getI bs c= -1:=by
  constructor
  ·intro hm
   obtain ⟨i,hi,e⟩:=List.getElem_of_mem hm
   refine ⟨i,by rw[←h.len];exact hi,?_⟩
   simp[getI,List.getD_eq_getElem?_getD,List.getElem?_eq_getElem hi,e]
  ·rintro ⟨c,hc,e⟩
   have hc':c<bs.length:=by rw[h.len];exact hc
   simp only[getI,List.getD_eq_getElem?_getD,Int.toNat_natCast,List.getElem?_eq_getElem hc',Option.getD_some] at e
   rw[←e]
   exact List.getElem_mem _
 constructor
 ·rintro ⟨_,_,h3⟩ hm
  obtain ⟨c,hc,e⟩:=hfree.1 hm
  exact (h.val c hc).1 e (h3 c hc)
 ·intro hn
  refine ⟨h.nodup,fun a ha'=>?_,fun c hc=>Classical.byContradiction fun g=>hn (hfree.2 ⟨c,hc,(h.val c hc).2 g⟩)⟩
  obtain ⟨i,hi⟩:=List.getElem?_of_mem ha'
  exact ha i (List.getElem?_eq_some_iff.1 hi).1 a hi
structure RowSt (f:Fm) (ds:List Bool):Prop where
 len:ds.length=f.wires.length
 done:∀m:Nat,ds.getD m false=true→Done f m
def bGet (ds:List Bool) (n:Int):Bool:=ds.getD n.toNat false
def readyB (f:Fm) (ds:List Bool) (x:Ac):Prop:=(∀n∈wants x,bGet ds n=true)∧(∀g∈clockOf f x.dst,bGet ds g.wire=true)∧bGet ds x.dst=false
theorem bGet_set {ds:List Bool} {n:Int} {c:Nat} (h0:0≤n) (h1:n<ds.length):(ds.set n.toNat true).getD c false=if n=c then true else ds.getD c false:=by
 simp only[List.getD_eq_getElem?_getD,List.getElem?_set]
 by_cases h:n=c
 ·subst h
  rw[if_pos (by simp),if_pos (by simp;omega),if_pos rfl]
  rfl
 ·rw[if_neg (by omega),if_neg h]
theorem row_step {f:Fm} {ds:List Bool} (h:RowSt f ds) {x:Ac} (hx:x∈f.acts) (hd:isW f x.dst) (hw:∀n∈wants x,isW f n) (hg:∀g∈clockOf f x.dst,isW f g.wire) (hr:readyB f ds x):RowSt f (ds.set x.dst.toNat true):=by
 refine ⟨by simp[h.len],fun m hm=>?_⟩
 rw[bGet_set hd.1 (by rw[h.len];exact hd.2)] at hm
 by_cases e:x.dst=m
 ·rw[←e]
  refine Done.act x hx (fun n hn=>?_) (fun g hg'=>?_)
  ·have h1:=hr.1 n hn
   have h0:=(hw n hn).1
   have:=h.done n.toNat h1
   rwa [show ((n.toNat:Nat):Int)=n by omega] at this
  ·have h1:=hr.2.1 g hg'
   have h0:=(hg g hg').1
   have:=h.done g.wire.toNat h1
   rwa [show ((g.wire.toNat:Nat):Int)=g.wire by omega] at this
 ·rw[if_neg e] at hm
  exact h.done m hm
theorem row_closed {f:Fm} {ds:List Bool} (hi:∀n∈f.ins,bGet ds n=true) (hn:∀x∈f.acts,¬readyB f ds x) {n:Int} (h:Done f n):bGet ds n=true:=by
 induction h with
 |ins n h=>exact hi n h
 |act x hx _ _ ih1 ih2=>
  cases hb:bGet ds x.dst with
  |true=>rfl
  |false=>exact absurd ⟨ih1,ih2,hb⟩ (hn x hx)
theorem row_end {f:Fm} {ds:List Bool} (h:RowSt f ds) (hi:∀n∈f.ins,bGet ds n=true) (hn:∀x∈f.acts,¬readyB f ds x):rowOk f↔∀b∈ds,b=true:=by
 constructor
 ·intro hr b hb
  obtain ⟨i,hi',e⟩:=List.getElem_of_mem hb
  have:=row_closed hi hn (hr i (by rw[←h.len];exact hi'))
  simp only[bGet,List.getD_eq_getElem?_getD,Int.toNat_natCast,List.getElem?_eq_getElem hi',Option.getD_some] at this
  rw[←e];exact this
 ·intro ha n hn'
  refine h.done n ?_
  have hl:n<ds.length:=by rw[h.len];exact hn'
  rw[List.getD_eq_getElem?_getD,List.getElem?_eq_getElem hl]
  exact ha _ (List.getElem_mem hl)
def notYet (ds:List Bool):Nat:=ds.countP (fun b=>!b)
theorem notYet_set {ds:List Bool} {n:Int} (h0:0≤n) (h1:n<ds.length) (hf:bGet ds n=false):notYet (ds.set n.toNat true)<notYet ds:=by
 refine' zq189
section
variable {f:Fm} {op dst a b c k:Int}
def allW3 (f:Fm) (a b c:Int):Prop:=isW f a∧isW f b∧isW f c
theorem act_no3 (h:¬allW3 f a b c):¬actOk f ⟨op,dst,a,b,c,k⟩:=fun g=>h ⟨g.1,g.2.1,g.2.2.1⟩
theorem act_iff1 (hop:op=1) (h:allW3 f a b c):actOk f ⟨op,dst,a,b,c,k⟩↔(a=0∧b=0∧c=0)∧tyOf f dst=1:=by
 refine' zq265
theorem act_iff2 (hop:op=2) (h:allW3 f a b c):actOk f ⟨op,dst,a,b,c,k⟩↔(a=0∧b=0∧c=0)∧tyOf f dst=2∧valueOk 2 k:=by
 subst hop
 obtain ⟨h1,h2,h3⟩:=h
 simp[actOk,uses,h1,h2,h3,and_assoc,valueOk]
theorem act_iff3 (hop:op=3) (h:allW3 f a b c):actOk f ⟨op,dst,a,b,c,k⟩↔(b=0∧c=0∧k=0)∧clockOf f dst=clockOf f a∧tyOf f dst=tyOf f a:=by
 refine' zq265
theorem act_iff27 (hop:op=27) (h:allW3 f a b c):actOk f ⟨op,dst,a,b,c,k⟩↔k=0∧(clockOf f dst=clockOf f a∧clockOf f dst=clockOf f b∧clockOf f dst=clockOf f c)∧tyOf f a=2∧tyOf f b=tyOf f c∧tyOf f dst=tyOf f b:=by
 refine' zq265
theorem act_iff24 (hop:op=24) (h:allW3 f a b c):actOk f ⟨op,dst,a,b,c,k⟩↔(b=0∧c=0∧k=0)∧(∃g,clockOf f dst=clockOf f a++ [g])∧tyOf f dst=tyOf f a:=by
 refine' zq265
theorem act_iff26 (hop:op=26) (h:allW3 f a b c):actOk f ⟨op,dst,a,b,c,k⟩↔k=0∧tyOf f a=2∧clockOf f dst=clockOf f a∧tyOf f dst=tyOf f b∧tyOf f dst=tyOf f c∧clockOf f b=clockOf f dst++ [⟨a,false⟩]∧clockOf f c=clockOf f dst++ [⟨a,true⟩]:=by
 subst hop
 obtain ⟨h1,h2,h3⟩:=h
 simp only[actOk,uses,h1,h2,h3]
 simp
 intro _
 exact ⟨fun ⟨x1,x2,x3⟩=>⟨x2,x1,x3⟩,fun ⟨x1,x2,x3⟩=>⟨x2,x1,x3⟩⟩
theorem act_iff21 (hop:op=21) (h:allW3 f a b c):actOk f ⟨op,dst,a,b,c,k⟩↔(a=0∧b=0∧c=0)∧(0≤k∧k<f.cells.length)∧tyOf f dst=getI (types f.cells) k∧∃n,kept f k=some n∧clockOf f dst=clockOf f n:=by
 refine' zq265
theorem act_iffOne (hop:op=5∨op=6) (h:allW3 f a b c):actOk f ⟨op,dst,a,b,c,k⟩↔b=0∧c=0∧k=0∧clockOf f dst=clockOf f a∧tyOf f a=signIn op∧tyOf f dst=signOut op:=by
 obtain ⟨h1,h2,h3⟩:=h
 have hi:¬signIn op=0:=by rcases hop with rfl|rfl<;>decide
 rcases hop with rfl|rfl
 all_goals
  simp[actOk,uses,h1,h2,h3,hi]
  intro _ _ _ _
  exact ⟨fun ⟨x,y⟩=>⟨y,x⟩,fun ⟨x,y⟩=>⟨y,x⟩⟩
theorem act_iffTwo (hop:7≤op∧op≤20) (h:allW3 f a b c):actOk f ⟨op,dst,a,b,c,k⟩↔c=0∧k=0∧(clockOf f dst=clockOf f a∧clockOf f dst=clockOf f b)∧tyOf f dst=signOut op∧tyOf f a=tyOf f b∧(signIn op=0∨tyOf f a=signIn op):=by
 obtain ⟨h1,h2,h3⟩:=h
 have hu:uses op=2:=by unfold uses;rw[if_neg (by omega),if_neg (by omega),if_pos (by omega)]
 simp only[actOk,hu,h1,h2,h3]
 rw[if_neg (by omega),if_neg (by omega),if_neg (by omega),if_neg (by omega),if_neg (by omega),if_neg (by omega),if_neg (by omega)]
 constructor
 ·rintro ⟨_,_,_,_,_,_,x3,x4,x5,x6,x7,x8⟩
  exact ⟨x3 (by omega),x4 (by omega),⟨x5,(x6 (by omega)).1⟩,x7,(x6 (by omega)).2,x8⟩
 ·rintro ⟨x3,x4,⟨x5,x6⟩,x7,x9,x8⟩
  exact ⟨trivial,trivial,trivial,by omega,by omega,by omega,fun _=>x3,fun _=>x4,x5,fun _=>⟨x6,x9⟩,x7,x8⟩
theorem act_none (hop:uses op<0):¬actOk f ⟨op,dst,a,b,c,k⟩:=fun g=>by have:=g.2.2.2.1;dsimp only at this;omega
theorem nodup_len:∀(H D:List Int),H.Nodup→(∀n∈H,n∈D)→H.length≤D.length
 | [],D,_,_=>Nat.zero_le _
 |x::H,D,hd,hs=>by
  rw[List.nodup_cons] at hd
  have hx:x∈D:=hs x (by simp)
  have hle:(D.erase x).length=D.length-1:=List.length_erase_of_mem hx
  have:=nodup_len H (D.erase x) hd.2 (fun m hm=>(List.mem_erase_of_ne (fun (g:m=x)=>hd.1 (g▸hm))).2 (hs m (by simp[hm])))
  have h1:0<D.length:=List.length_pos_of_mem hx
  simp
  omega
theorem clock_len (hw:wiresOk f) {n:Int} (hn:isW f n):(clockOf f n).length≤1600:=by
 refine' zq134
 have hx:f.wires[m]? =some f.wires[m]:=List.getElem?_eq_getElem hm
 have e:wAt f m=f.wires[m]:=by simp[wAt,List.getD_eq_getElem?_getD,hx]
 have hok:=hw.1 _ (List.mem_of_getElem? hx)
 unfold clockOf
 rw[e]
 refine' zq132
 have:=nodup_len _ ((List.range f.wires.length).map (fun (i:Nat)=>(i:Int))) hnd (fun n hn=>by
  obtain ⟨g,hg,rfl⟩:=List.mem_map.1 hn
  obtain ⟨i,hi⟩:=List.getElem?_of_mem hg
  have hwg:=(hok.2 i g hi).1
  have h0:=hwg.1
  have h1:=hwg.2
  exact List.mem_map.2 ⟨g.wire.toNat,List.mem_range.2 (by omega),by omega⟩)
 simp at this
 have:=hw.2.2
 omega
end
section
variable {f:Fm} {H:List Int}
end
theorem sub_full:∀(H D:List Int),H.Nodup→(∀n∈H,n∈D)→D.length≤H.length→∀n∈D,n∈H
 | [],D,_,_,hl,n,hn=>by
  have:D=[]:=List.eq_nil_of_length_eq_zero (by simpa using hl)
  rw[this] at hn;exact hn
 |a::H,D,hd,hs,hl,n,hn=>by
  rw[List.nodup_cons] at hd
  have ha:a∈D:=hs a (by simp)
  have hle:(D.erase a).length=D.length-1:=List.length_erase_of_mem ha
  by_cases e:n=a
  ·simp[e]
  ·refine List.mem_cons_of_mem _ (sub_full H (D.erase a) hd.2 (fun m hm=>?_) (by simp at hl;omega) n ((List.mem_erase_of_ne e).2 hn))
   have hma:m≠a:=fun g=>hd.1 (g▸hm)
   exact (List.mem_erase_of_ne hma).2 (hs m (by simp[hm]))
end Go.Proofs.YtckognjamlckcaaGreatDoor.Fo
