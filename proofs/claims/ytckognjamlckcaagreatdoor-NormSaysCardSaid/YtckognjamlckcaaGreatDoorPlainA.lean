/-
  Machines that can't go wrong, as plain data: the looker's and the document's answers are one. A right machine's program without an instruction whose register is taken is not right (plain). Forms, as plain data. What emit makes of a form in order, as plain data; it is a right machine. What emit makes of a form in order is a right machine: the law. Forms, plain laws: cells and keeps; what defines wires; what can be put in a row. Forms, plain laws: when an act is right, op by op. The order of acts, as plain data. The order of acts, as the document has it: the same.
-/
import Derived.Test.YtckognjamlckcaaGreatDoorZz
namespace Go.Proofs.YtckognjamlckcaaGreatDoor.Vf
def signIn (op:Int):Int:=if op=12\/op=13 then 0 else if op=6\/op=18\/op=19\/op=20 then 2 else if 5<=op/\op<=17 then 1 else 0
def signOut (op:Int):Int:=if op=6\/(12<=op/\op<=20) then 2 else if 5<=op/\op<=11 then 1 else 0
def bN (kind n:Int):Prop:=kind=1\/(kind=2/\(n=0\/n=1))
def ao (l:List Int) (n:Int):Int:=l.getD n.toNat 0
def dQ (l:List (Int × Int)):List Int:=l.map (·.1)
theorem zd (n:Nat) (r:Int):ao (List.replicate n 0) r=0:=by
 unfold ao
 rw[List.getD_eq_getElem?_getD]
 by_cases h:r.toNat<n
 ·rw[List.getElem?_replicate_of_lt h];rfl
 ·rw[List.getElem?_eq_none (by simpa using h)];rfl
end Go.Proofs.YtckognjamlckcaaGreatDoor.Vf
namespace Go.Proofs.YtckognjamlckcaaGreatDoor.Fo
open Vf
structure Gd where
 wire:Int
 no:Bool
structure Wr where
 ty:Int
 clock:List Gd
structure Ac where
 op:Int
 dst:Int
 a:Int
 b:Int
 c:Int
 k:Int
structure Fm where
 wires:List Wr
 acts:List Ac
 cells:List (Int × Int)
 keeps:List (Int × Int)
 ins:List Int
 outs:List Int
def ak (f:Fm) (n:Int):Prop:=0<=n/\n<f.wires.length
def jZ (f:Fm) (n:Int):Wr:=f.wires.getD n.toNat ⟨0,[]⟩
def ag (f:Fm) (n:Int):Int:=(jZ f n).ty
def aa (f:Fm) (n:Int):List Gd:=(jZ f n).clock
def eL (f:Fm) (w:Wr):Prop:=(w.ty=1\/w.ty=2)/\∀(i:Nat) g,w.clock[i]? =some g->ak f g.wire/\ag f g.wire=2/\aa f g.wire=w.clock.take i
def ge (f:Fm):Prop:=(∀w∈f.wires,eL f w)/\1<=f.wires.length/\f.wires.length<=1600
def bG (f:Fm) (l:List Int):Prop:=(∀n∈l,ak f n/\aa f n=[])/\1<=l.length/\l.length<=8
def kept (f:Fm) (c:Int):Option Int:=(f.keeps.find? (fun k=>k.1==c)).map (·.2)
def du (f:Fm):Prop:=
 (∀c∈f.cells,bN c.1 c.2)/\f.cells.length<=60/\
 (∀k∈f.keeps,0<=k.1/\k.1<f.cells.length/\ak f k.2/\ag f k.2=ao (dQ f.cells) k.1)/\
 (∀(i j:Nat) x y,i<j->f.keeps[i]? =some x->f.keeps[j]? =some y->x.1≠y.1)/\
 ∀c:Nat,c<f.cells.length->∃k∈f.keeps,k.1=c
def aR (f:Fm):Prop:=
 (∀(i j:Nat) x y,i<j->f.ins[i]? =some x->f.ins[j]? =some y->x≠y)/\
 (∀a∈f.acts,ak f a.dst/\a.dst∉f.ins)/\
 (∀(i j:Nat) x y,i<j->f.acts[i]? =some x->f.acts[j]? =some y->x.dst≠y.dst)/\
 ∀n:Nat,n<f.wires.length->(n:Int)∈f.ins\/∃a∈f.acts,a.dst=n
def bl (op:Int):Int:=if op=1\/op=2\/op=21 then 0 else if op=3\/op=5\/op=6\/op=24 then 1 else if 7<=op/\op<=20 then 2 else if op=26\/op=27 then 3 else-1
def au (f:Fm) (x:Ac):Prop:=
 ak f x.a/\ak f x.b/\ak f x.c/\0<=bl x.op/\(bl x.op<1->x.a=0)/\(bl x.op<2->x.b=0)/\(bl x.op<3->x.c=0)/\(0<bl x.op->x.k=0)/\
 (if x.op=1 then ag f x.dst=1
  else if x.op=2 then ag f x.dst=2/\(x.k=0\/x.k=1)
  else if x.op=21 then 0<=x.k/\x.k<f.cells.length/\ag f x.dst=ao (dQ f.cells) x.k/\∃n,kept f x.k=some n/\aa f x.dst=aa f n
  else if x.op=24 then ∃g,aa f x.dst=aa f x.a++ [g]/\ag f x.dst=ag f x.a
  else if x.op=26 then aa f x.dst=aa f x.a/\ag f x.a=2/\ag f x.dst=ag f x.b/\ag f x.dst=ag f x.c/\aa f x.b=aa f x.dst++ [⟨x.a,false⟩]/\aa f x.c=aa f x.dst++ [⟨x.a,true⟩]
  else if x.op=3 then aa f x.dst=aa f x.a/\ag f x.dst=ag f x.a
  else if x.op=27 then aa f x.dst=aa f x.a/\aa f x.dst=aa f x.b/\aa f x.dst=aa f x.c/\ag f x.a=2/\ag f x.b=ag f x.c/\ag f x.dst=ag f x.b
  else aa f x.dst=aa f x.a/\(1<bl x.op->aa f x.dst=aa f x.b/\ag f x.a=ag f x.b)/\ag f x.dst=signOut x.op/\(signIn x.op=0\/ag f x.a=signIn x.op))
def wants (x:Ac):List Int:=if bl x.op<=0 then [] else if bl x.op=1 then [x.a] else if bl x.op=2 then [x.a,x.b] else [x.a,x.b,x.c]
inductive bB (f:Fm):Int->Prop where
 |ins (n:Int) (h:n∈f.ins):bB f n
 |act (x:Ac) (hx:x∈f.acts) (hw:∀n∈wants x,bB f n) (hg:∀g∈aa f x.dst,bB f g.wire):bB f x.dst
def gY (f:Fm):Prop:=∀n:Nat,n<f.wires.length->bB f n
def bm (f:Fm):Prop:=ge f/\bG f f.ins/\bG f f.outs/\du f/\aR f/\(∀x∈f.acts,au f x)/\gY f
section
variable {f:Fm} {H:List Int}
theorem kE {op:Int} (h:0<=bl op):op=1\/op=2\/op=21\/op=3\/op=24\/op=26\/op=27\/(5<=op/\op<=6)\/(7<=op/\op<=20):=by
 unfold bl at h
 by_cases h1:op=1\/op=2\/op=21
 ·omega
 ·rw[if_neg h1] at h
  by_cases h2:op=3\/op=5\/op=6\/op=24
  ·omega
  ·rw[if_neg h2] at h
   by_cases h3:7<=op/\op<=20
   ·omega
   ·rw[if_neg h3] at h
    by_cases h4:op=26\/op=27
    ·omega
    ·rw[if_neg h4] at h
     omega
end
section
variable {f:Fm} {H:List Int}
end
theorem yr {f:Fm} (h:ge f) {n:Int} (hn:ak f n):∀g∈aa f n,ak f g.wire/\ag f g.wire=2:=fun g hg=>by
 have hl:n.toNat<f.wires.length:=by have:=hn.1;have:=hn.2;omega
 have e:jZ f n=f.wires[n.toNat]:=by simp[jZ,List.getD_eq_getElem?_getD,hl]
 unfold aa at hg
 rw[e] at hg
 obtain ⟨i,hi⟩:=List.getElem?_of_mem hg
 obtain ⟨h1,h2,_⟩:=(h.1 _ (List.getElem_mem hl)).2 i g hi
 exact ⟨h1,h2⟩
theorem mN {α β:Type} {l:List α} {g:α->β} (h:∀(i j:Nat) x y,i<j->l[i]? =some x->l[j]? =some y->g x≠g y):(l.map g).Nodup:=by
 rw[List.nodup_iff_pairwise_ne,List.pairwise_map,List.pairwise_iff_getElem]
 intro i j hi hj hij
 exact h i j _ _ hij (List.getElem?_eq_getElem hi) (List.getElem?_eq_getElem hj)
def jV (f:Fm) (k:Int × Int):Prop:=0<=k.1/\k.1<f.cells.length/\ak f k.2/\ag f k.2=ao (dQ f.cells) k.1
def fI (l:List (Int × Int)) (c:Int):Option Int:=(l.find? (fun k=>k.1==c)).map (·.2)
structure iD (f:Fm) (j:Nat) (ks:List Int):Prop where
 len:ks.length=f.cells.length
 ok:∀k∈f.keeps.take j,jV f k
 val:∀c:Nat,c<f.cells.length->ao ks c=(fI (f.keeps.take j) c).getD (-1)
 dist:(f.keeps.take j).Pairwise (fun x y=>x.1≠y.1)
theorem iz {l:List (Int × Int)} {c:Int}:fI l c=none↔∀k∈l,k.1≠c:=by
 simp[fI]
theorem lW {l:List (Int × Int)} {c n:Int} (h:fI l c=some n):(c,n)∈l:=by
 simp only[fI,Option.map_eq_some_iff] at h
 obtain ⟨k,h1,h2⟩:=h
 have h3:=List.mem_of_find?_eq_some h1
 have h4:=List.find?_some h1
 simp at h4
 rw[<-h4,<-h2]
 exact h3
theorem sS {l:List (Int × Int)} {x:Int × Int} {c:Int}:fI (l++ [x]) c=(fI l c).or (if x.1=c then some x.2 else none):=by
 unfold fI
 rw[List.find?_append]
 cases l.find? (fun k=>k.1==c) with
 |some y=>simp
 |none=>
  by_cases h:x.1=c
  ·simp[h]
  ·simp[h]
theorem bj {α:Type} {l:List α} {j:Nat} {x:α} (h:l[j]? =some x):l.take (j+1)=l.take j++ [x]:=by
 rw[List.take_add_one,h];rfl
theorem rS {ks:List Int} {i:Int} {v:Int} {c:Nat} (h0:0<=i) (h1:i<ks.length):ao (ks.set i.toNat v) c=if i=c then v else ao ks c:=by
 simp only[ao,List.getD_eq_getElem?_getD,Int.toNat_natCast,List.getElem?_set]
 by_cases h:i=c
 ·subst h
  simp
  rw[if_pos (by omega)]
  rfl
 ·rw[if_neg (by omega),if_neg h]
theorem tV (f:Fm):iD f 0 (List.replicate f.cells.length (-1)):=
 ⟨by simp,by simp,fun c hc=>by simp[ao,List.getD_eq_getElem?_getD,hc,fI],by simp⟩
theorem jp {f:Fm} {j:Nat} {ks:List Int} (h:iD f j ks) {c:Nat} (hc:c<f.cells.length):ao ks c= -1↔∀k∈f.keeps.take j,k.1≠c:=by
 rw[h.val c hc]
 constructor
 ·intro hn
  cases hk:fI (f.keeps.take j) c with
  |none=>exact iz.1 hk
  |some n=>
   rw[hk] at hn
   have:=(h.ok _ (lW hk)).2.2.1.1
   simp at hn
   dsimp only at this
   omega
 ·intro hn
  rw[iz.2 hn]
  rfl
theorem uk {f:Fm} {j:Nat} {ks:List Int} (h:iD f j ks) {x:Int × Int} (hx:f.keeps[j]? =some x) (hk:jV f x) (hf:ao ks x.1= -1):iD f (j+1) (ks.set x.1.toNat x.2):=by
 obtain ⟨m,hm⟩:=Int.eq_ofNat_of_zero_le hk.1
 have hml:m<f.cells.length:=by have:=hk.2.1;omega
 have hfree:=(jp h hml).1 (by rw[<-hm];exact hf)
 refine ⟨by simp[h.len],?_,fun c hc=>?_,?_⟩
 ·rw[bj hx]
  intro k hk'
  rcases List.mem_append.1 hk' with h'|h'
  ·exact h.ok k h'
  ·simp at h';rw[h'];exact hk
 ·rw[rS hk.1 (by rw[h.len];exact hk.2.1),bj hx,sS]
  by_cases hc':x.1=c
  ·rw[if_pos hc',if_pos hc']
   have:fI (f.keeps.take j) c=none:=iz.2 (fun k hk'=>by rw[<-hc',hm];exact hfree k hk')
   rw[this]
   rfl
  ·rw[if_neg hc',if_neg hc',h.val c hc]
   simp
 ·rw[bj hx,List.pairwise_append]
  refine ⟨h.dist,by simp,fun a ha b hb=>?_⟩
  simp at hb
  rw[hb,hm]
  exact hfree a ha
theorem gG {α:Type} {R:α->α->Prop} {l:List α} (h:∀(i j:Nat) x y,i<j->l[i]? =some x->l[j]? =some y->R x y):l.Pairwise R:=by
 rw[List.pairwise_iff_getElem]
 intro i j hi hj hij
 exact h i j _ _ hij (List.getElem?_eq_getElem hi) (List.getElem?_eq_getElem hj)
theorem iV {α:Type} {R:α->α->Prop} {l:List α} (h:l.Pairwise R):∀(i j:Nat) x y,i<j->l[i]? =some x->l[j]? =some y->R x y:=by
 intro i j x y hij hx hy
 rw[List.pairwise_iff_getElem] at h
 obtain ⟨hi,rfl⟩:=List.getElem?_eq_some_iff.1 hx
 obtain ⟨hj,rfl⟩:=List.getElem?_eq_some_iff.1 hy
 exact h i j hi hj hij
theorem pK {f:Fm} {j:Nat} {ks:List Int} (h:iD f j ks) {x:Int × Int} (hx:f.keeps[j]? =some x) (hn:¬(jV f x/\ao ks x.1= -1)):¬du f:=by
 rintro ⟨_,_,h3,h4,_⟩
 have hk:jV f x:=h3 x (List.mem_of_getElem? hx)
 refine hn ⟨hk,?_⟩
 obtain ⟨m,hm⟩:=Int.eq_ofNat_of_zero_le hk.1
 have hml:m<f.cells.length:=by have:=hk.2.1;omega
 rw[hm,jp h hml]
 intro k hk' e
 obtain ⟨i,hi⟩:=List.getElem?_of_mem hk'
 rw[List.getElem?_take] at hi
 split at hi
 ·rename_i hij
  exact h4 i j k x hij hi hx (by rw[e,hm])
 ·cases hi
theorem pG {f:Fm} {x:Int × Int} {k:Nat} (hx:f.cells[k]? =some x) (hn:¬bN x.1 x.2):¬du f:=fun h=>hn (h.1 x (List.mem_of_getElem? hx))
theorem xZ {f:Fm} {ks:List Int} (hv:∀j,j<f.cells.length->∀x,f.cells[j]? =some x->bN x.1 x.2) (h:iD f f.keeps.length ks):du f↔f.cells.length<=60/\¬(-1:Int)∈ks:=by
 have hok:=h.ok
 have hd:=h.dist
 rw[List.take_length] at hok hd
 have hfree:(-1:Int)∈ks↔∃c:Nat,c<f.cells.length/\ao ks c= -1:=by
  constructor
  ·intro hm
   obtain ⟨i,hi,e⟩:=List.getElem_of_mem hm
   refine ⟨i,by rw[<-h.len];exact hi,?_⟩
   simp[ao,List.getD_eq_getElem?_getD,List.getElem?_eq_getElem hi,e]
  ·rintro ⟨c,hc,e⟩
   have hc':c<ks.length:=by rw[h.len];exact hc
   simp only[ao,List.getD_eq_getElem?_getD,Int.toNat_natCast,List.getElem?_eq_getElem hc',Option.getD_some] at e
   rw[<-e]
   exact List.getElem_mem _
 constructor
 ·rintro ⟨_,h2,_,_,h5⟩
  refine ⟨h2,fun hm=>?_⟩
  obtain ⟨c,hc,e⟩:=hfree.1 hm
  obtain ⟨k,hk,e'⟩:=h5 c hc
  have:=(jp h hc).1 e
  rw[List.take_length] at this
  exact this k hk e'
 ·rintro ⟨h2,hn⟩
  refine ⟨fun c hc=>?_,h2,fun k hk=>hok k hk,iV hd,fun c hc=>?_⟩
  ·obtain ⟨i,hi⟩:=List.getElem?_of_mem hc
   exact hv i (List.getElem?_eq_some_iff.1 hi).1 c hi
  ·apply Classical.byContradiction
   intro hno
   refine hn (hfree.2 ⟨c,hc,(jp h hc).2 ?_⟩)
   rw[List.take_length]
   exact fun k hk e=>hno ⟨k,hk,e⟩
theorem yI {f:Fm} {ks:List Int} (h:iD f f.keeps.length ks) {c:Nat} (hc:c<f.cells.length):ao ks c=(kept f c).getD (-1):=by
 have:=h.val c hc
 rw[List.take_length] at this
 exact this
theorem mF {f:Fm} (h:du f) {c:Nat} (hc:c<f.cells.length):∃n,kept f c=some n/\ak f n/\ag f n=ao (dQ f.cells) c:=by
 obtain ⟨k,hk,e⟩:=h.2.2.2.2 c hc
 cases hkc:kept f c with
 |none=>exact absurd e (iz.1 hkc k hk)
 |some n=>
  have hm:=lW (l:=f.keeps) hkc
  obtain ⟨_,_,h3,h4⟩:=h.2.2.1 _ hm
  exact ⟨n,rfl,h3,h4⟩
structure fZ (f:Fm) (S:List Int) (bs:List Int):Prop where
 len:bs.length=f.wires.length
 val:∀m:Nat,m<f.wires.length->(ao bs m= -1↔(m:Int)∉S)
 nodup:S.Nodup
theorem px (f:Fm):fZ f [] (List.replicate f.wires.length (-1)):=⟨by simp,fun m hm=>by simp[ao,List.getD_eq_getElem?_getD,hm],List.nodup_nil⟩
theorem su {f:Fm} {S bs:List Int} (h:fZ f S bs) {n v:Int} (hn:ak f n) (hf:ao bs n= -1) (hv:v≠-1):fZ f (S++ [n]) (bs.set n.toNat v):=by
 refine' zq113
 refine ⟨by simp[h.len],fun c hc=>?_,?_⟩
 ·rw[rS hn.1 (by rw[h.len];exact hn.2)]
  by_cases e:(m:Int)=c
  ·rw[if_pos e];simp[hv,e]
  ·rw[if_neg e,h.val c hc]
   simp only[List.mem_append,List.mem_singleton,not_or]
   exact ⟨fun g=>⟨g,fun q=>e q.symm⟩,fun g=>g.1⟩
 ·rw[List.nodup_append]
  refine ⟨h.nodup,by simp,fun a ha b hb=>?_⟩
  simp at hb
  rw[hb]
  intro e
  exact (h.val m hm).1 hf (e▸ha)
def dO (f:Fm) (l:List Ac):List Int:=f.ins++l.map (·.dst)
theorem dm {f:Fm}:aR f↔(dO f f.acts).Nodup/\(∀a∈f.acts,ak f a.dst)/\∀n:Nat,n<f.wires.length->(n:Int)∈dO f f.acts:=by
 unfold aR dO
 rw[List.nodup_append]
 constructor
 ·rintro ⟨h1,h2,h3,h4⟩
  refine ⟨⟨gG h1,?_,?_⟩,fun a ha=>(h2 a ha).1,fun n hn=>?_⟩
  ·exact List.pairwise_map.2 (gG h3)
  ·intro a ha b hb e
   obtain ⟨x,hx,rfl⟩:=List.mem_map.1 hb
   exact (h2 x hx).2 (e▸ha)
  ·rcases h4 n hn with h|⟨a,ha,e⟩
   ·simp[h]
   ·exact List.mem_append_right _ (List.mem_map.2 ⟨a,ha,e⟩)
 ·rintro ⟨⟨h1,h2,h3⟩,h4,h5⟩
  refine ⟨iV h1,fun a ha=>⟨h4 a ha,fun hi=>h3 _ hi _ (List.mem_map.2 ⟨a,ha,rfl⟩) rfl⟩,iV (List.pairwise_map.1 h2),fun n hn=>?_⟩
  rcases List.mem_append.1 (h5 n hn) with h|h
  ·exact .inl h
  ·obtain ⟨a,ha,e⟩:=List.mem_map.1 h
   exact .inr ⟨a,ha,e⟩
theorem vX {f:Fm} {S bs:List Int} (h:fZ f S bs) {n:Int} (hn:ak f n) {r:List Int} (hS:dO f f.acts=S++n::r) (hf:ao bs n≠-1):¬aR f:=fun hd=>by
 obtain ⟨m,rfl⟩:=Int.eq_ofNat_of_zero_le hn.1
 have hm:m<f.wires.length:=by have:=hn.2;omega
 have hmem:(m:Int)∈S:=Classical.byContradiction fun g=>hf ((h.val m hm).2 g)
 have hnd:=(dm.1 hd).1
 rw[hS,List.nodup_append] at hnd
 exact hnd.2.2 _ hmem _ (by simp) rfl
theorem tJ {f:Fm} {bs:List Int} (h:fZ f (dO f f.acts) bs) (ha:∀j,j<f.acts.length->∀x,f.acts[j]? =some x->ak f x.dst):aR f↔¬(-1:Int)∈bs:=by
 rw[dm]
 have hfree:(-1:Int)∈bs↔∃c:Nat,c<f.wires.length/\ao bs c= -1:=by
  constructor
  ·intro hm
   obtain ⟨i,hi,e⟩:=List.getElem_of_mem hm
   refine ⟨i,by rw[<-h.len];exact hi,?_⟩
   simp[ao,List.getD_eq_getElem?_getD,List.getElem?_eq_getElem hi,e]
  ·rintro ⟨c,hc,e⟩
   have hc':c<bs.length:=by rw[h.len];exact hc
   simp only[ao,List.getD_eq_getElem?_getD,Int.toNat_natCast,List.getElem?_eq_getElem hc',Option.getD_some] at e
   rw[<-e]
   exact List.getElem_mem _
 constructor
 ·rintro ⟨_,_,h3⟩ hm
  obtain ⟨c,hc,e⟩:=hfree.1 hm
  exact (h.val c hc).1 e (h3 c hc)
 ·intro hn
  refine ⟨h.nodup,fun a ha'=>?_,fun c hc=>Classical.byContradiction fun g=>hn (hfree.2 ⟨c,hc,(h.val c hc).2 g⟩)⟩
  obtain ⟨i,hi⟩:=List.getElem?_of_mem ha'
  exact ha i (List.getElem?_eq_some_iff.1 hi).1 a hi
structure gS (f:Fm) (ds:List Bool):Prop where
 len:ds.length=f.wires.length
 done:∀m:Nat,ds.getD m false=true->bB f m
def aL (ds:List Bool) (n:Int):Bool:=ds.getD n.toNat false
def di (f:Fm) (ds:List Bool) (x:Ac):Prop:=(∀n∈wants x,aL ds n=true)/\(∀g∈aa f x.dst,aL ds g.wire=true)/\aL ds x.dst=false
theorem fS {ds:List Bool} {n:Int} {c:Nat} (h0:0<=n) (h1:n<ds.length):(ds.set n.toNat true).getD c false=if n=c then true else ds.getD c false:=by
 simp only[List.getD_eq_getElem?_getD,List.getElem?_set]
 by_cases h:n=c
 ·subst h
  rw[if_pos (by simp),if_pos (by simp;omega),if_pos rfl]
  rfl
 ·rw[if_neg (by omega),if_neg h]
theorem pT {f:Fm} {ds:List Bool} (h:gS f ds) {x:Ac} (hx:x∈f.acts) (hd:ak f x.dst) (hw:∀n∈wants x,ak f n) (hg:∀g∈aa f x.dst,ak f g.wire) (hr:di f ds x):gS f (ds.set x.dst.toNat true):=by
 refine ⟨by simp[h.len],fun m hm=>?_⟩
 rw[fS hd.1 (by rw[h.len];exact hd.2)] at hm
 by_cases e:x.dst=m
 ·rw[<-e]
  refine bB.act x hx (fun n hn=>?_) (fun g hg'=>?_)
  ·have h1:=hr.1 n hn
   have h0:=(hw n hn).1
   have:=h.done n.toNat h1
   rwa [show ((n.toNat:Nat):Int)=n by omega] at this
  ·have h1:=hr.2.1 g hg'
   have h0:=(hg g hg').1
   have:=h.done g.wire.toNat h1
   rwa [show ((g.wire.toNat:Nat):Int)=g.wire by omega] at this
 ·rw[if_neg e] at hm
  exact h.done m hm
theorem uC {f:Fm} {ds:List Bool} (hi:∀n∈f.ins,aL ds n=true) (hn:∀x∈f.acts,¬di f ds x) {n:Int} (h:bB f n):aL ds n=true:=by
 induction h with
 |ins n h=>exact hi n h
 |act x hx _ _ ih1 ih2=>
  cases hb:aL ds x.dst with
  |true=>rfl
  |false=>exact absurd ⟨ih1,ih2,hb⟩ (hn x hx)
theorem tI {f:Fm} {ds:List Bool} (h:gS f ds) (hi:∀n∈f.ins,aL ds n=true) (hn:∀x∈f.acts,¬di f ds x):gY f↔∀b∈ds,b=true:=by
 constructor
 ·intro hr b hb
  obtain ⟨i,hi',e⟩:=List.getElem_of_mem hb
  have:=uC hi hn (hr i (by rw[<-h.len];exact hi'))
  simp only[aL,List.getD_eq_getElem?_getD,Int.toNat_natCast,List.getElem?_eq_getElem hi',Option.getD_some] at this
  rw[<-e];exact this
 ·intro ha n hn'
  refine h.done n ?_
  have hl:n<ds.length:=by rw[h.len];exact hn'
  rw[List.getD_eq_getElem?_getD,List.getElem?_eq_getElem hl]
  exact ha _ (List.getElem_mem hl)
def aZ (ds:List Bool):Nat:=ds.countP (fun b=>!b)
theorem nl {ds:List Bool} {n:Int} (h0:0<=n) (h1:n<ds.length) (hf:aL ds n=false):aZ (ds.set n.toNat true)<aZ ds:=by
 refine' zq166
section
variable {f:Fm} {op dst a b c k:Int}
def cm (f:Fm) (a b c:Int):Prop:=ak f a/\ak f b/\ak f c
theorem jo (hop:op=1) (h:cm f a b c):au f ⟨op,dst,a,b,c,k⟩↔(a=0/\b=0/\c=0)/\ag f dst=1:=by
 refine' zq239
theorem ic (hop:op=2) (h:cm f a b c):au f ⟨op,dst,a,b,c,k⟩↔(a=0/\b=0/\c=0)/\ag f dst=2/\bN 2 k:=by
 subst hop
 obtain ⟨h1,h2,h3⟩:=h
 simp[au,bl,h1,h2,h3,and_assoc,bN]
theorem ig (hop:op=3) (h:cm f a b c):au f ⟨op,dst,a,b,c,k⟩↔(b=0/\c=0/\k=0)/\aa f dst=aa f a/\ag f dst=ag f a:=by
 refine' zq239
theorem er (hop:op=27) (h:cm f a b c):au f ⟨op,dst,a,b,c,k⟩↔k=0/\(aa f dst=aa f a/\aa f dst=aa f b/\aa f dst=aa f c)/\ag f a=2/\ag f b=ag f c/\ag f dst=ag f b:=by
 refine' zq239
theorem oQ (hop:op=24) (h:cm f a b c):au f ⟨op,dst,a,b,c,k⟩↔(b=0/\c=0/\k=0)/\(∃g,aa f dst=aa f a++ [g])/\ag f dst=ag f a:=by
 refine' zq239
theorem pk (hop:op=26) (h:cm f a b c):au f ⟨op,dst,a,b,c,k⟩↔k=0/\ag f a=2/\aa f dst=aa f a/\ag f dst=ag f b/\ag f dst=ag f c/\aa f b=aa f dst++ [⟨a,false⟩]/\aa f c=aa f dst++ [⟨a,true⟩]:=by
 subst hop
 obtain ⟨h1,h2,h3⟩:=h
 simp only[au,bl,h1,h2,h3]
 simp
 intro _
 exact ⟨fun ⟨x1,x2,x3⟩=>⟨x2,x1,x3⟩,fun ⟨x1,x2,x3⟩=>⟨x2,x1,x3⟩⟩
theorem iB (hop:op=21) (h:cm f a b c):au f ⟨op,dst,a,b,c,k⟩↔(a=0/\b=0/\c=0)/\(0<=k/\k<f.cells.length)/\ag f dst=ao (dQ f.cells) k/\∃n,kept f k=some n/\aa f dst=aa f n:=by
 refine' zq239
theorem gN (hop:op=5\/op=6) (h:cm f a b c):au f ⟨op,dst,a,b,c,k⟩↔b=0/\c=0/\k=0/\aa f dst=aa f a/\ag f a=signIn op/\ag f dst=signOut op:=by
 obtain ⟨h1,h2,h3⟩:=h
 have hi:¬signIn op=0:=by rcases hop with rfl|rfl<;>decide
 rcases hop with rfl|rfl
 all_goals
  simp[au,bl,h1,h2,h3,hi]
  intro _ _ _ _
  exact ⟨fun ⟨x,y⟩=>⟨y,x⟩,fun ⟨x,y⟩=>⟨y,x⟩⟩
theorem fi (hop:7<=op/\op<=20) (h:cm f a b c):au f ⟨op,dst,a,b,c,k⟩↔c=0/\k=0/\(aa f dst=aa f a/\aa f dst=aa f b)/\ag f dst=signOut op/\ag f a=ag f b/\(signIn op=0\/ag f a=signIn op):=by
 obtain ⟨h1,h2,h3⟩:=h
 have hu:bl op=2:=by unfold bl;rw[if_neg (by omega),if_neg (by omega),if_pos (by omega)]
 simp only[au,hu,h1,h2,h3]
 rw[if_neg (by omega),if_neg (by omega),if_neg (by omega),if_neg (by omega),if_neg (by omega),if_neg (by omega),if_neg (by omega)]
 constructor
 ·rintro ⟨_,_,_,_,_,_,x3,x4,x5,x6,x7,x8⟩
  exact ⟨x3 (by omega),x4 (by omega),⟨x5,(x6 (by omega)).1⟩,x7,(x6 (by omega)).2,x8⟩
 ·rintro ⟨x3,x4,⟨x5,x6⟩,x7,x9,x8⟩
  exact ⟨trivial,trivial,trivial,by omega,by omega,by omega,fun _=>x3,fun _=>x4,x5,fun _=>⟨x6,x9⟩,x7,x8⟩
theorem eI:∀(H D:List Int),H.Nodup->(∀n∈H,n∈D)->H.length<=D.length
 | [],D,_,_=>Nat.zero_le _
 |x::H,D,hd,hs=>by
  rw[List.nodup_cons] at hd
  have hx:x∈D:=hs x (by simp)
  have hle:(D.erase x).length=D.length-1:=List.length_erase_of_mem hx
  have:=eI H (D.erase x) hd.2 (fun m hm=>(List.mem_erase_of_ne (fun (g:m=x)=>hd.1 (g▸hm))).2 (hs m (by simp[hm])))
  have h1:0<D.length:=List.length_pos_of_mem hx
  simp
  omega
theorem jr (hw:ge f) {n:Int} (hn:ak f n):(aa f n).length<=1600:=by
 refine' zq113
 have hx:f.wires[m]? =some f.wires[m]:=List.getElem?_eq_getElem hm
 have e:jZ f m=f.wires[m]:=by simp[jZ,List.getD_eq_getElem?_getD,hx]
 have hok:=hw.1 _ (List.mem_of_getElem? hx)
 unfold aa
 rw[e]
 refine' zq111
 have:=eI _ ((List.range f.wires.length).map (fun (i:Nat)=>(i:Int))) hnd (fun n hn=>by
  obtain ⟨g,hg,rfl⟩:=List.mem_map.1 hn
  obtain ⟨i,hi⟩:=List.getElem?_of_mem hg
  have hwg:=(hok.2 i g hi).1
  have h0:=hwg.1
  have h1:=hwg.2
  exact List.mem_map.2 ⟨g.wire.toNat,List.mem_range.2 (by omega),by omega⟩)
 simp at this
 have:=hw.2.2
 omega
end
section
variable {f:Fm} {H:List Int}
end
theorem ky:∀(H D:List Int),H.Nodup->(∀n∈H,n∈D)->D.length<=H.length->∀n∈D,n∈H
 | [],D,_,_,hl,n,hn=>by
  have:D=[]:=List.eq_nil_of_length_eq_zero (by simpa using hl)
  rw[this] at hn;exact hn
 |a::H,D,hd,hs,hl,n,hn=>by
  rw[List.nodup_cons] at hd
  have ha:a∈D:=hs a (by simp)
  have hle:(D.erase a).length=D.length-1:=List.length_erase_of_mem ha
  by_cases e:n=a
  ·simp[e]
  ·refine List.mem_cons_of_mem _ (ky H (D.erase a) hd.2 (fun m hm=>?_) (by simp at hl;omega) n ((List.mem_erase_of_ne e).2 hn))
   have hma:m≠a:=fun g=>hd.1 (g▸hm)
   exact (List.mem_erase_of_ne hma).2 (hs m (by simp[hm]))
end Go.Proofs.YtckognjamlckcaaGreatDoor.Fo
