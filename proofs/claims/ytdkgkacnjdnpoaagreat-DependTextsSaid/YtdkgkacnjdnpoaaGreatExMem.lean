/-
  bits.Mul of one and a small number. Machines that can't go wrong, as plain data: the looker's and the document's answers are one. A right machine's program without an instruction whose register is taken is not right (plain). Forms, as plain data. What emit makes of a form in order, as plain data; it is a right machine. What emit makes of a form in order is a right machine: the law. Forms, plain laws: cells and keeps; what defines wires; what can be put in a row. Forms, plain laws: when an act is right, op by op. The order of acts, as plain data. The order of acts, as the document has it: the same. Expressions as plain data: trees, what is reckoned part by part, induction. Expressions in memory. Sources as plain data: conditions, variables, equations, nodes; how they lie in memory.
-/
import Derived.Test.YtdkgkacnjdnpoaaGreatZz
import Derived.Test.YtdkgkacnjdnpoaaGreatMem
import Derived.Laws.Bits64b
import Derived.Below
set_option maxHeartbeats 1000000
namespace Go.Proofs.YtdkgkacnjdnpoaaGreat
open Go.RowKit
theorem mask_small (a:Nat) (ha:a≤100000):bits .and .u64 (a:Int) 4294967295=(a:Int):=by
 have h:=bits_and_u64_nat a 4294967295 (by omega) (by omega)
 have e:a &&& 4294967295=a:=by rw[show (4294967295:Nat)=2 ^ 32-1 by rfl,Nat.and_two_pow_sub_one_eq_mod];exact Nat.mod_eq_of_lt (by omega)
 rw[e] at h
 exact h
theorem mask_one:bits .and .u64 1 4294967295=1:=by decide
theorem mask_zero:bits .and .u64 0 4294967295=0:=by decide
theorem mul64_one (y:Nat) (hy:y≤100000) (w:World):
  Calls Tryz.prog 188 #[.int .u64 1,.int .u64 y] w fun e w'=>e= .returned (.tuple #[.int .u64 0,.int .u64 y])∧w=w':=by
 have k1:=mask_small y hy
 have k2:=mask_one
 have k3:=mask_zero
 have hd:(y:Int)/4294967296=0:=by omega
 go_enter Tryz.func188,Tryz.ntmps188
 go_wp2
 go_ret2
 exact ⟨rfl,rfl⟩
theorem mul_one (y:Nat) (hy:y≤100000) (w:World):
  Calls Tryz.prog 152 #[.int .u64 1,.int .u64 y] w fun e w'=>e= .returned (.tuple #[.int .u64 0,.int .u64 y])∧w=w':=by
 go_enter Tryz.func152,Tryz.ntmps152
 go_wp2_with (go_at_call 188;refine (mul64_one _ hy _).mono ?_;rintro e w' ⟨rfl,rfl⟩)
 go_ret2
 exact ⟨rfl,rfl⟩
end Go.Proofs.YtdkgkacnjdnpoaaGreat
namespace Go.Proofs.YtdkgkacnjdnpoaaGreat.Q.Vf
def getI (l:List Int) (n:Int):Int:=l.getD n.toNat 0
end Go.Proofs.YtdkgkacnjdnpoaaGreat.Q.Vf
namespace Go.Proofs.YtdkgkacnjdnpoaaGreat.Q.Fo
open Vf
structure Gd where
 wire:Int
 no:Bool
structure Wr where
 ty:Int
 clock:List Gd
structure Ac where
 op:Int
 dst:Int
 a:Int
 b:Int
 c:Int
 k:Int
structure Fm where
 wires:List Wr
 acts:List Ac
 cells:List (Int × Int)
 keeps:List (Int × Int)
 ins:List Int
 outs:List Int
def isW (f:Fm) (n:Int):Prop:=0≤n∧n<f.wires.length
def wAt (f:Fm) (n:Int):Wr:=f.wires.getD n.toNat ⟨0,[]⟩
def tyOf (f:Fm) (n:Int):Int:=(wAt f n).ty
def clockOf (f:Fm) (n:Int):List Gd:=(wAt f n).clock
def wireOk (f:Fm) (w:Wr):Prop:=(w.ty=1∨w.ty=2)∧∀(i:Nat) g,w.clock[i]? =some g→isW f g.wire∧tyOf f g.wire=2∧clockOf f g.wire=w.clock.take i
def wiresOk (f:Fm):Prop:=(∀w∈f.wires,wireOk f w)∧1≤f.wires.length∧f.wires.length≤1600
def portsOk (f:Fm) (l:List Int):Prop:=(∀n∈l,isW f n∧clockOf f n=[])∧1≤l.length∧l.length≤8
def definedOk (f:Fm):Prop:=
 (∀(i j:Nat) x y,i<j→f.ins[i]? =some x→f.ins[j]? =some y→x≠y)∧
 (∀a∈f.acts,isW f a.dst∧a.dst∉f.ins)∧
 (∀(i j:Nat) x y,i<j→f.acts[i]? =some x→f.acts[j]? =some y→x.dst≠y.dst)∧
 ∀n:Nat,n<f.wires.length→(n:Int)∈f.ins∨∃a∈f.acts,a.dst=n
section
variable {f:Fm} {H:List Int}
end
section
variable {f:Fm} {H:List Int}
end
theorem take_snoc' {α:Type} {l:List α} {j:Nat} {x:α} (h:l[j]? =some x):l.take (j+1)=l.take j++ [x]:=by
 rw[List.take_add_one,h];rfl
theorem getI_set {ks:List Int} {i:Int} {v:Int} {c:Nat} (h0:0≤i) (h1:i<ks.length):getI (ks.set i.toNat v) c=if i=c then v else getI ks c:=by
 simp only[getI,List.getD_eq_getElem?_getD,Int.toNat_natCast,List.getElem?_set]
 by_cases h:i=c
 ·subst h
  simp
  rw[if_pos (by omega)]
  rfl
 ·rw[if_neg (by omega),if_neg h]
theorem pair_of {α:Type} {R:α→α→Prop} {l:List α} (h:∀(i j:Nat) x y,i<j→l[i]? =some x→l[j]? =some y→R x y):l.Pairwise R:=by
 rw[List.pairwise_iff_getElem]
 intro i j hi hj hij
 exact h i j _ _ hij (List.getElem?_eq_getElem hi) (List.getElem?_eq_getElem hj)
theorem of_pair {α:Type} {R:α→α→Prop} {l:List α} (h:l.Pairwise R):∀(i j:Nat) x y,i<j→l[i]? =some x→l[j]? =some y→R x y:=by
 intro i j x y hij hx hy
 rw[List.pairwise_iff_getElem] at h
 obtain ⟨hi,rfl⟩:=List.getElem?_eq_some_iff.1 hx
 obtain ⟨hj,rfl⟩:=List.getElem?_eq_some_iff.1 hy
 exact h i j hi hj hij
structure DefSt (f:Fm) (S:List Int) (bs:List Int):Prop where
 len:bs.length=f.wires.length
 val:∀m:Nat,m<f.wires.length→(getI bs m= -1↔(m:Int)∉S)
 nodup:S.Nodup
theorem def_start (f:Fm):DefSt f [] (List.replicate f.wires.length (-1)):=⟨by simp,fun m hm=>by simp[getI,List.getD_eq_getElem?_getD,hm],List.nodup_nil⟩
theorem def_step {f:Fm} {S bs:List Int} (h:DefSt f S bs) {n v:Int} (hn:isW f n) (hf:getI bs n= -1) (hv:v≠-1):DefSt f (S++ [n]) (bs.set n.toNat v):=by
 obtain ⟨m,rfl⟩:=Int.eq_ofNat_of_zero_le hn.1
 have hm:m<f.wires.length:=by have:=hn.2;omega
 refine ⟨by simp[h.len],fun c hc=>?_,?_⟩
 ·rw[getI_set hn.1 (by rw[h.len];exact hn.2)]
  by_cases e:(m:Int)=c
  ·rw[if_pos e];simp[hv,e]
  ·rw[if_neg e,h.val c hc]
   simp only[List.mem_append,List.mem_singleton,not_or]
   exact ⟨fun g=>⟨g,fun q=>e q.symm⟩,fun g=>g.1⟩
 ·rw[List.nodup_append]
  refine ⟨h.nodup,by simp,fun a ha b hb=>?_⟩
  simp at hb
  rw[hb]
  intro e
  exact (h.val m hm).1 hf (e▸ha)
def dsts (f:Fm) (l:List Ac):List Int:=f.ins++l.map (·.dst)
theorem defined_iff {f:Fm}:definedOk f↔(dsts f f.acts).Nodup∧(∀a∈f.acts,isW f a.dst)∧∀n:Nat,n<f.wires.length→(n:Int)∈dsts f f.acts:=by
 unfold definedOk dsts
 rw[List.nodup_append]
 constructor
 ·rintro ⟨h1,h2,h3,h4⟩
  refine ⟨⟨pair_of h1,?_,?_⟩,fun a ha=>(h2 a ha).1,fun n hn=>?_⟩
  ·exact List.pairwise_map.2 (pair_of h3)
  ·intro a ha b hb e
   obtain ⟨x,hx,rfl⟩:=List.mem_map.1 hb
   exact (h2 x hx).2 (e▸ha)
  ·rcases h4 n hn with h|⟨a,ha,e⟩
   ·simp[h]
   ·exact List.mem_append_right _ (List.mem_map.2 ⟨a,ha,e⟩)
 ·rintro ⟨⟨h1,h2,h3⟩,h4,h5⟩
  refine ⟨of_pair h1,fun a ha=>⟨h4 a ha,fun hi=>h3 _ hi _ (List.mem_map.2 ⟨a,ha,rfl⟩) rfl⟩,of_pair (List.pairwise_map.1 h2),fun n hn=>?_⟩
  rcases List.mem_append.1 (h5 n hn) with h|h
  ·exact .inl h
  ·obtain ⟨a,ha,e⟩:=List.mem_map.1 h
   exact .inr ⟨a,ha,e⟩
theorem def_no {f:Fm} {S bs:List Int} (h:DefSt f S bs) {n:Int} (hn:isW f n) {r:List Int} (hS:dsts f f.acts=S++n::r) (hf:getI bs n≠-1):¬definedOk f:=fun hd=>by
 obtain ⟨m,rfl⟩:=Int.eq_ofNat_of_zero_le hn.1
 have hm:m<f.wires.length:=by have:=hn.2;omega
 have hmem:(m:Int)∈S:=Classical.byContradiction fun g=>hf ((h.val m hm).2 g)
 have hnd:=(defined_iff.1 hd).1
 rw[hS,List.nodup_append] at hnd
 exact hnd.2.2 _ hmem _ (by simp) rfl
theorem def_end {f:Fm} {bs:List Int} (h:DefSt f (dsts f f.acts) bs) (ha:∀j,j<f.acts.length→∀x,f.acts[j]? =some x→isW f x.dst):definedOk f↔¬(-1:Int)∈bs:=by
 rw[defined_iff]
 have hfree:(-1:Int)∈bs↔∃c:Nat,c<f.wires.length∧getI bs c= -1:=by
  constructor
  ·intro hm
   obtain ⟨i,hi,e⟩:=List.getElem_of_mem hm
   refine ⟨i,by rw[←h.len];exact hi,?_⟩
   simp[getI,List.getD_eq_getElem?_getD,List.getElem?_eq_getElem hi,e]
  ·rintro ⟨c,hc,e⟩
   have hc':c<bs.length:=by rw[h.len];exact hc
   simp only[getI,List.getD_eq_getElem?_getD,Int.toNat_natCast,List.getElem?_eq_getElem hc',Option.getD_some] at e
   rw[←e]
   exact List.getElem_mem _
 constructor
 ·rintro ⟨_,_,h3⟩ hm
  obtain ⟨c,hc,e⟩:=hfree.1 hm
  exact (h.val c hc).1 e (h3 c hc)
 ·intro hn
  refine ⟨h.nodup,fun a ha'=>?_,fun c hc=>Classical.byContradiction fun g=>hn (hfree.2 ⟨c,hc,(h.val c hc).2 g⟩)⟩
  obtain ⟨i,hi⟩:=List.getElem?_of_mem ha'
  exact ha i (List.getElem?_eq_some_iff.1 hi).1 a hi
def bGet (ds:List Bool) (n:Int):Bool:=ds.getD n.toNat false
theorem bGet_set {ds:List Bool} {n:Int} {c:Nat} (h0:0≤n) (h1:n<ds.length):(ds.set n.toNat true).getD c false=if n=c then true else ds.getD c false:=by
 simp only[List.getD_eq_getElem?_getD,List.getElem?_set]
 by_cases h:n=c
 ·subst h
  rw[if_pos (by simp),if_pos (by simp;omega),if_pos rfl]
  rfl
 ·rw[if_neg (by omega),if_neg h]
def notYet (ds:List Bool):Nat:=ds.countP (fun b=>!b)
theorem notYet_set {ds:List Bool} {n:Int} (h0:0≤n) (h1:n<ds.length) (hf:bGet ds n=false):notYet (ds.set n.toNat true)<notYet ds:=by
 unfold notYet
 have hl:n.toNat<ds.length:=by omega
 simp only[bGet,List.getD_eq_getElem?_getD,List.getElem?_eq_getElem hl,Option.getD_some] at hf
 have hp:0<ds.countP (fun b=>!b):=List.countP_pos_iff.2 ⟨ds[n.toNat],List.getElem_mem hl,by simp[hf]⟩
 rw[List.countP_set hl,hf,Bool.not_false,if_pos rfl,Bool.not_true,if_neg (by decide)]
 omega
section
variable {f:Fm} {op dst a b c k:Int}
theorem nodup_len:∀(H D:List Int),H.Nodup→(∀n∈H,n∈D)→H.length≤D.length
 | [],D,_,_=>Nat.zero_le _
 |x::H,D,hd,hs=>by
  rw[List.nodup_cons] at hd
  have hx:x∈D:=hs x (by simp)
  have hle:(D.erase x).length=D.length-1:=List.length_erase_of_mem hx
  have:=nodup_len H (D.erase x) hd.2 (fun m hm=>(List.mem_erase_of_ne (fun (g:m=x)=>hd.1 (g▸hm))).2 (hs m (by simp[hm])))
  have h1:0<D.length:=List.length_pos_of_mem hx
  simp
  omega
theorem clock_len (hw:wiresOk f) {n:Int} (hn:isW f n):(clockOf f n).length≤1600:=by
 obtain ⟨m,rfl⟩:=Int.eq_ofNat_of_zero_le hn.1
 have hm:m<f.wires.length:=by have:=hn.2;omega
 have hx:f.wires[m]? =some f.wires[m]:=List.getElem?_eq_getElem hm
 have e:wAt f m=f.wires[m]:=by simp[wAt,List.getD_eq_getElem?_getD,hx]
 have hok:=hw.1 _ (List.mem_of_getElem? hx)
 unfold clockOf
 rw[e]
 generalize f.wires[m]=x at*
 have hnd:(x.clock.map (·.wire)).Nodup:=by
  have hp:(x.clock.map (·.wire)).Pairwise (fun a b=>a≠b):=by
   rw[List.pairwise_map]
   refine pair_of fun i j p q hij hp hq heq=>?_
   have h1:=(hok.2 i p hp).2.2
   have h2:=(hok.2 j q hq).2.2
   rw[heq,h2] at h1
   have hl:=congrArg List.length h1
   have hi:=(List.getElem?_eq_some_iff.1 hp).1
   have hj:=(List.getElem?_eq_some_iff.1 hq).1
   rw[List.length_take,List.length_take] at hl
   omega
  exact hp
 have:=nodup_len _ ((List.range f.wires.length).map (fun (i:Nat)=>(i:Int))) hnd (fun n hn=>by
  obtain ⟨g,hg,rfl⟩:=List.mem_map.1 hn
  obtain ⟨i,hi⟩:=List.getElem?_of_mem hg
  have hwg:=(hok.2 i g hi).1
  have h0:=hwg.1
  have h1:=hwg.2
  exact List.mem_map.2 ⟨g.wire.toNat,List.mem_range.2 (by omega),by omega⟩)
 simp at this
 have:=hw.2.2
 omega
end
section
variable {f:Fm} {H:List Int}
end
end Go.Proofs.YtdkgkacnjdnpoaaGreat.Q.Fo
namespace Go.Proofs.YtdkgkacnjdnpoaaGreat
inductive Ex where
 |mk (op:Int) (name:ByteArray) (n:Int) (args:List Ex) (line col:Int)
namespace Ex
def op:Ex→Int
 | .mk op _ _ _ _ _=>op
def name:Ex→ByteArray
 | .mk _ name _ _ _ _=>name
def n:Ex→Int
 | .mk _ _ n _ _ _=>n
def args:Ex→List Ex
 | .mk _ _ _ args _ _=>args
def line:Ex→Int
 | .mk _ _ _ _ line _=>line
def col:Ex→Int
 | .mk _ _ _ _ _ col=>col
noncomputable def para {α:Type} (f:Ex→List α→α) (e:Ex):α:=
 Ex.rec (motive_1:=fun _=>α) (motive_2:=fun _=>List α) (fun op nm n args l c ih=>f (.mk op nm n args l c) ih) [] (fun _ _ h t=>h::t) e
theorem para_list {α:Type} (f:Ex→List α→α) (l:List Ex):
  Ex.rec_1 (motive_1:=fun _=>α) (motive_2:=fun _=>List α) (fun op nm n args l c ih=>f (.mk op nm n args l c) ih) [] (fun _ _ h t=>h::t) l=l.map (para f):=by
 induction l with
 |nil=>rfl
 |cons x l ih=>rw[List.map_cons,←ih];rfl
theorem para_eq {α:Type} (f:Ex→List α→α) (e:Ex):para f e=f e (e.args.map (para f)):=by
 obtain ⟨op,nm,n,args,l,c⟩:=e
 show f _ (Ex.rec_1 (motive_1:=fun _=>α) (motive_2:=fun _=>List α) _ _ _ args)=_
 rw[para_list];rfl
theorem ind {P:Ex→Prop} (h:∀e:Ex,(∀x∈e.args,P x)→P e) (e:Ex):P e:=
 Ex.rec (motive_1:=P) (motive_2:=fun l=>∀x∈l,P x) (fun op nm n args l c ih=>h (.mk op nm n args l c) ih) (fun _ hx=>absurd hx List.not_mem_nil)
  (fun _ _ h t x hx=>(List.mem_cons.1 hx).elim (fun e=>e▸h) (t x)) e
end Ex
noncomputable def exList:Ex→List Ex:=Ex.para fun e ps=>e::ps.flatten
theorem exList_eq (e:Ex):exList e=e::(e.args.map exList).flatten:=Ex.para_eq _ e
def maxL:List Nat→Nat
 | []=>0
 |x::l=>max x (maxL l)
noncomputable def exHeight:Ex→Nat:=Ex.para fun _ ps=>maxL ps+1
theorem exHeight_eq (e:Ex):exHeight e=maxL (e.args.map exHeight)+1:=Ex.para_eq _ e
theorem maxL_snoc (l:List Nat) (x:Nat):maxL (l++ [x])=max (maxL l) x:=by
 induction l with
 |nil=>simp[maxL]
 |cons y l ih=>simp only[List.cons_append,maxL,ih];omega
theorem maxL_le {l:List Nat} {b:Nat} (h:∀x∈l,x≤b):maxL l≤b:=by
 induction l with
 |nil=>exact Nat.zero_le _
 |cons y l ih=>simp only[maxL];have:=h y (by simp);have:=ih (fun x hx=>h x (by simp[hx]));omega
noncomputable def exSize (e:Ex):Nat:=(exList e).length
def sumL:List Nat→Nat
 | []=>0
 |x::l=>x+sumL l
theorem exSize_eq (e:Ex):exSize e=sumL (e.args.map exSize)+1:=by
 unfold exSize
 rw[exList_eq,List.length_cons]
 congr 1
 have:∀l:List Ex,(l.map exList).flatten.length=sumL (l.map fun e=>(exList e).length):=by
  intro l
  induction l with
  |nil=>rfl
  |cons x l ih=>simp only[List.map_cons,List.flatten_cons,List.length_append,sumL,ih]
 exact this _
theorem sumL_mem {l:List Nat} {x:Nat} (h:x∈l):x≤sumL l:=by
 induction l with
 |nil=>cases h
 |cons y l ih=>
  simp only[sumL]
  rcases List.mem_cons.1 h with rfl|h
  ·omega
  ·have:=ih h;omega
theorem exSize_pos (e:Ex):1≤exSize e:=by rw[exSize_eq];omega
theorem exSize_arg {e x:Ex} (h:x∈e.args):exSize x<exSize e:=by
 have:=sumL_mem (List.mem_map_of_mem (f:=exSize) h)
 rw[exSize_eq e];omega
theorem sumL_len {l:List Ex}:l.length≤sumL (l.map exSize):=by
 induction l with
 |nil=>simp[sumL]
 |cons y l ih=>simp only[List.map_cons,sumL,List.length_cons];have:=exSize_pos y;omega
theorem exSize_args (e:Ex):e.args.length<exSize e:=by
 rw[exSize_eq];have:= @sumL_len e.args;omega
theorem exHeight_le (e:Ex):exHeight e≤exSize e:=by
 induction e using Ex.ind with
 |h e ih=>
  rw[exHeight_eq,exSize_eq]
  have:maxL (e.args.map exHeight)≤sumL (e.args.map exSize):=maxL_le fun x hx=>by
   obtain ⟨y,hy,rfl⟩:=List.mem_map.1 hx
   exact Nat.le_trans (ih y hy) (sumL_mem (List.mem_map_of_mem hy))
  omega
open Go.RowKit
def exCells (e:Ex) (A:Option Addr) (cap:Nat):List Value:=
 [.int .i64 e.op,.string e.name,.int .i64 e.n,.slice A e.args.length cap,.int .i64 e.line,.int .i64 e.col]
structure ExOk (e:Ex):Prop where
 op:Wf e.op
 name:e.name.size≤maxLen
 n:Wf e.n
 line:Wf e.line
 col:Wf e.col
def PartsAt (w:World) (B:Nat) (b off:Nat) (ps:List (List Value→Prop)):Prop:=
 b<B∧∀i p,ps[i]? =some p→∃cs:List Value,(∀j u,cs[j]? =some u→w.cell? ⟨b,off+i*6+j,none⟩=some u)∧p cs
noncomputable def IsEx (w:World) (B:Nat):Ex→List Value→Prop:=Ex.para fun e ps cs=>
 ∃A cap,cs=exCells e A cap∧ExOk e∧ps.length≤cap∧cap≤maxLen∧(0<ps.length→∃b off,A=some ⟨b,off,none⟩∧PartsAt w B b off ps)
theorem isEx_iff {w:World} {B:Nat} {e:Ex} {cs:List Value}:IsEx w B e cs↔∃A cap,cs=exCells e A cap∧ExOk e∧e.args.length≤cap∧cap≤maxLen∧
  (0<e.args.length→∃b off,A=some ⟨b,off,none⟩∧b<B∧∀i x,e.args[i]? =some x→∃cs:List Value,(∀j u,cs[j]? =some u→w.cell? ⟨b,off+i*6+j,none⟩=some u)∧IsEx w B x cs):=by
 unfold IsEx
 rw[Ex.para_eq]
 simp only[List.length_map,PartsAt,List.getElem?_map,Option.map_eq_some_iff,forall_exists_index,and_imp,forall_apply_eq_imp_iff₂]
theorem IsEx.keep {w w':World} {B:Nat} (hk:∀p:Addr,p.block<B→w'.cell? p=w.cell? p) {e:Ex}:∀{cs:List Value},IsEx w B e cs→IsEx w' B e cs:=by
 induction e using Ex.ind with
 |h e ih=>
  intro cs h
  obtain ⟨A,cap,h1,h2,h3,h4,h5⟩:=isEx_iff.1 h
  refine isEx_iff.2 ⟨A,cap,h1,h2,h3,h4,fun hn=>?_⟩
  obtain ⟨b,off,hA,hb,hx⟩:=h5 hn
  refine ⟨b,off,hA,hb,fun i x hi=>?_⟩
  obtain ⟨cs',hc,hx'⟩:=hx i x hi
  exact ⟨cs',fun j u hu=>(hk ⟨b,off+i*6+j,none⟩ hb).trans (hc j u hu),ih x (List.mem_of_getElem? hi) hx'⟩
theorem IsEx.more {w:World} {B B':Nat} (hB:B≤B') {e:Ex}:∀{cs:List Value},IsEx w B e cs→IsEx w B' e cs:=by
 induction e using Ex.ind with
 |h e ih=>
  intro cs h
  obtain ⟨A,cap,h1,h2,h3,h4,h5⟩:=isEx_iff.1 h
  refine isEx_iff.2 ⟨A,cap,h1,h2,h3,h4,fun hn=>?_⟩
  obtain ⟨b,off,hA,hb,hx⟩:=h5 hn
  refine ⟨b,off,hA,by omega,fun i x hi=>?_⟩
  obtain ⟨cs',hc,hx'⟩:=hx i x hi
  exact ⟨cs',hc,ih x (List.mem_of_getElem? hi) hx'⟩
theorem IsEx.below {w w':World} {B:Nat} {e:Ex} {cs:List Value} (h:IsEx w B e cs) (hb:Below B w w'):IsEx w' B e cs:=h.keep fun _ hp=>hb.cell hp
def IsExs (w:World) (B:Nat) (A:Option Addr) (l:List Ex):Prop:=
 0<l.length→∃b off,A=some ⟨b,off,none⟩∧b<B∧∀i x,l[i]? =some x→∃cs:List Value,(∀j u,cs[j]? =some u→w.cell? ⟨b,off+i*6+j,none⟩=some u)∧IsEx w B x cs
theorem IsExs.below {w w':World} {B:Nat} {A:Option Addr} {l:List Ex} (h:IsExs w B A l) (hb:Below B w w'):IsExs w' B A l:=fun hn=>by
 obtain ⟨b,off,hA,hbb,hx⟩:=h hn
 refine ⟨b,off,hA,hbb,fun i x hi=>?_⟩
 obtain ⟨cs',hc,hx'⟩:=hx i x hi
 exact ⟨cs',fun j u hu=>(hb.cell (p:=⟨b,off+i*6+j,none⟩) hbb).trans (hc j u hu),hx'.below hb⟩
theorem IsExs.more {w:World} {B B':Nat} {A:Option Addr} {l:List Ex} (h:IsExs w B A l) (hB:B≤B'):IsExs w B' A l:=fun hn=>by
 obtain ⟨b,off,hA,hbb,hx⟩:=h hn
 refine ⟨b,off,hA,by omega,fun i x hi=>?_⟩
 obtain ⟨cs',hc,hx'⟩:=hx i x hi
 exact ⟨cs',hc,hx'.more hB⟩
theorem IsEx.open {w:World} {B:Nat} {e:Ex} {cs:List Value} (h:IsEx w B e cs):∃A cap,cs=exCells e A cap∧ExOk e∧e.args.length≤cap∧cap≤maxLen∧IsExs w B A e.args:=isEx_iff.1 h
theorem IsEx.mk' {w:World} {B:Nat} {e:Ex} {A:Option Addr} {cap:Nat} (h1:ExOk e) (h2:e.args.length≤cap) (h3:cap≤maxLen) (h4:IsExs w B A e.args):IsEx w B e (exCells e A cap):=isEx_iff.2 ⟨A,cap,rfl,h1,h2,h3,h4⟩
theorem IsExs.at_ {w:World} {B:Nat} {A:Option Addr} {l:List Ex} {k:Nat} (h:IsExs w B A l) (hk:k<l.length):
  ∃b off x A' cap',A=some ⟨b,off,none⟩∧b<B∧l[k]? =some x∧x∈l∧ExOk x∧x.args.length≤cap'∧cap'≤maxLen∧IsExs w B A' x.args∧
   w.cell? ⟨b,off+k*6,none⟩=some (.int .i64 x.op)∧w.cell? ⟨b,off+k*6+1,none⟩=some (.string x.name)∧w.cell? ⟨b,off+k*6+2,none⟩=some (.int .i64 x.n)∧
   w.cell? ⟨b,off+k*6+3,none⟩=some (.slice A' x.args.length cap')∧w.cell? ⟨b,off+k*6+4,none⟩=some (.int .i64 x.line)∧w.cell? ⟨b,off+k*6+5,none⟩=some (.int .i64 x.col):=by
 obtain ⟨b,off,hA,hb,hx⟩:=h (by omega)
 have hl:l[k]? =some l[k]:=List.getElem?_eq_getElem hk
 obtain ⟨cs,hc,hx⟩:=hx k _ hl
 obtain ⟨A',cap',rfl,h1,h2,h3,h4⟩:=hx.open
 exact ⟨b,off,l[k],A',cap',hA,hb,hl,List.getElem_mem hk,h1,h2,h3,h4,hc 0 _ rfl,hc 1 _ rfl,hc 2 _ rfl,hc 3 _ rfl,hc 4 _ rfl,hc 5 _ rfl⟩
abbrev exV (e:Ex) (A:Option Addr) (cap:Nat):Value:= .agg #[.int .i64 e.op,.string e.name,.int .i64 e.n,.slice A e.args.length cap,.int .i64 e.line,.int .i64 e.col]
def ExsAre (w:World) (B:Nat) (l:List Ex) (css:List (List Value)):Prop:=css.length=l.length∧∀(i:Nat) x cs,l[i]? =some x→css[i]? =some cs→IsEx w B x cs
theorem IsEx.len {w:World} {B:Nat} {e:Ex} {cs:List Value} (h:IsEx w B e cs):cs.length=6:=by
 obtain ⟨A,cap,rfl,_⟩:=h.open;rfl
theorem ExsAre.six {w:World} {B:Nat} {l:List Ex} {css:List (List Value)} (h:ExsAre w B l css):∀cs∈css,cs.length=6:=by
 intro cs hcs
 obtain ⟨i,hi⟩:=List.getElem?_of_mem hcs
 have hl:i<l.length:=by rw[←h.1];exact (List.getElem?_eq_some_iff.1 hi).1
 exact (h.2 i _ cs (List.getElem?_eq_getElem hl) hi).len
theorem ExsAre.append {w:World} {B:Nat} {l l':List Ex} {css css':List (List Value)} (h:ExsAre w B l css) (h':ExsAre w B l' css'):ExsAre w B (l++l') (css++css'):=by
 refine' zq83
theorem ExsAre.one {w:World} {B:Nat} {e:Ex} {cs:List Value} (h:IsEx w B e cs):ExsAre w B [e] [cs]:=by
 refine ⟨rfl,fun i x cs' hx hc=>?_⟩
 match i,hx,hc with
 |0,hx,hc=>simp at hx hc;subst hx;subst hc;exact h
theorem own_exs {w:World} {base B:Nat} {e:TypeId} {v:Value} {n:Nat} {l:List Ex} {css:List (List Value)} (h:w.ownsRow base e 6 v n css.flatten) (hx:ExsAre w B l css) (hB:B≤w.heap.size):
  ∃A c,v= .slice A l.length c∧n=l.length∧l.length≤c∧c≤maxLen∧IsExs w w.heap.size A l:=by
 have hn:n=l.length:=by
  have:=h.1;rw[flatten_len hx.six,hx.1] at this;omega
 subst hn
 obtain ⟨A,c,hv,h1,h2,hr⟩:=own_rd h
 refine ⟨A,c,hv,rfl,h1,h2,fun hn=>?_⟩
 rcases h.2 with ⟨_,h0⟩|⟨g,cap,cur,hv',hb,hh,hc,hm,hcs,ht⟩
 ·omega
 ·refine' zq162
  refine ⟨css[i],fun j u hu=>?_,((hx.2 i x _ hi (List.getElem?_eq_getElem hil)).more hB)⟩
  have hj:j<6:=by rw[←hx.six css[i] (List.getElem_mem hil)];exact (List.getElem?_eq_some_iff.1 hu).1
  have:=h.cells (g:=g) (by rw[hv,hA];rfl) (i*6+j) u (by rw[flatten_get hx.six (List.getElem?_eq_getElem hil) hj];exact hu)
  rwa [Addr.add_lit,←Nat.add_assoc] at this
theorem IsEx.keepS {w w':World} {B:Nat} (hk:∀(p:Addr) (u:Value),p.block<B→w.cell? p=some u→w'.cell? p=some u) {e:Ex}:∀{cs:List Value},IsEx w B e cs→IsEx w' B e cs:=by
 induction e using Ex.ind with
 |h e ih=>
  intro cs h
  obtain ⟨A,cap,h1,h2,h3,h4,h5⟩:=isEx_iff.1 h
  refine isEx_iff.2 ⟨A,cap,h1,h2,h3,h4,fun hn=>?_⟩
  obtain ⟨b,off,hA,hb,hx⟩:=h5 hn
  refine ⟨b,off,hA,hb,fun i x hi=>?_⟩
  obtain ⟨cs',hc,hx'⟩:=hx i x hi
  exact ⟨cs',fun j u hu=>hk ⟨b,off+i*6+j,none⟩ u hb (hc j u hu),ih x (List.mem_of_getElem? hi) hx'⟩
theorem IsExs.keepS {w w':World} {B:Nat} {A:Option Addr} {l:List Ex} (h:IsExs w B A l) (hk:∀(p:Addr) (u:Value),p.block<B→w.cell? p=some u→w'.cell? p=some u):IsExs w' B A l:=fun hn=>by
 obtain ⟨b,off,hA,hbb,hx⟩:=h hn
 refine ⟨b,off,hA,hbb,fun i x hi=>?_⟩
 obtain ⟨cs',hc,hx'⟩:=hx i x hi
 exact ⟨cs',fun j u hu=>hk ⟨b,off+i*6+j,none⟩ u hbb (hc j u hu),hx'.keepS hk⟩
structure KeepC (X:Nat→Prop) (W W':World):Prop where
 size:W.heap.size≤W'.heap.size
 same:∀b cs t f,¬X b→W.heap[b]? =some (.cells cs t f)→W'.heap[b]? =some (.cells cs t f)
theorem KeepC.trans {X:Nat→Prop} {A B C:World} (h:KeepC X A B) (k:KeepC X B C):KeepC X A C:=⟨Nat.le_trans h.size k.size,fun b cs t f hb hc=>k.same b cs t f hb (h.same b cs t f hb hc)⟩
theorem KeepC.below {X:Nat→Prop} {W W':World} (h:Below W.heap.size W W'):KeepC X W W':=⟨h.size,fun b _ _ _ _ hc=>(h.block b (Array.getElem?_eq_some_iff.1 hc).1).trans hc⟩
theorem KeepC.alloc (X:Nat→Prop) (W:World) (o:Obj):KeepC X W (W.alloc o):=KeepC.below ((Below.refl _ _).alloc (Nat.le_refl _) _)
theorem KeepC.cell {X:Nat→Prop} {W W':World} (h:KeepC X W W') {p:Addr} {u:Value} (hp:¬X p.block) (hc:W.cell? p=some u):W'.cell? p=some u:=by
 simp only[World.cell?] at hc⊢
 cases hb:W.heap[p.block]? with
 |none=>rw[hb] at hc;cases hc
 |some o=>
  rw[hb] at hc
  cases o with
  |cells cs t f=>rw[h.same p.block cs t f hp hb];exact hc
  |_=>cases hc
theorem exBoxC {X:Nat→Prop} {w wr:World} {e:Ex} {A:Option Addr} {cap:Nat} (hb:KeepC X (w.alloc (.cells #[.int .i64 e.op,.string e.name,.int .i64 e.n,.slice A e.args.length cap,.int .i64 e.line,.int .i64 e.col] 63)) wr) (hX:¬X w.heap.size):
  wr.cell? ⟨w.heap.size,0,none⟩=some (.int .i64 e.op)∧wr.cell? ⟨w.heap.size,1,none⟩=some (.string e.name)∧wr.cell? ⟨w.heap.size,2,none⟩=some (.int .i64 e.n)∧
   wr.cell? ⟨w.heap.size,3,none⟩=some (.slice A e.args.length cap)∧wr.cell? ⟨w.heap.size,4,none⟩=some (.int .i64 e.line)∧wr.cell? ⟨w.heap.size,5,none⟩=some (.int .i64 e.col):=by
 refine ⟨?_,?_,?_,?_,?_,?_⟩<;>exact hb.cell hX (by simp)
noncomputable def cB (p:Prop):Bool:= @decide p (Classical.propDecidable p)
theorem cB_true {p:Prop} (h:p):cB p=true:=by unfold cB;exact @decide_eq_true p (Classical.propDecidable p) h
theorem cB_false {p:Prop} (h:¬p):cB p=false:=by unfold cB;exact @decide_eq_false p (Classical.propDecidable p) h
theorem cB_iff {p:Prop}:cB p=true↔p:=⟨fun h=>Classical.byContradiction fun hn=>(by rw[cB_false hn] at h;cases h),cB_true⟩
theorem cB_not {p:Prop}:cB p=false↔¬p:=⟨fun h hp=>(by rw[cB_true hp] at h;cases h),cB_false⟩
theorem cB_congr {p q:Prop} (h:p↔q):cB p=cB q:=by rw[Bool.eq_iff_iff,cB_iff,cB_iff];exact h
structure Lt where
 name:ByteArray
 no:Bool
structure Vr where
 name:ByteArray
 ty:Int
 clock:List Lt
 line:Int
 col:Int
structure Eqn where
 left:List ByteArray
 right:Ex
 line:Int
 col:Int
structure Nd where
 name:ByteArray
 ins:List Vr
 outs:List Vr
 vars:List Vr
 eqs:List Eqn
 line:Int
 col:Int
structure Ft where
 err:Int
 line:Int
 col:Int
theorem lt_ext {x y:Lt} (h1:x.name=y.name) (h2:x.no=y.no):x=y:=by cases x;cases y;simp_all
abbrev ftV (f:Ft):Value:= .agg #[.int .i64 f.err,.int .i64 f.line,.int .i64 f.col]
abbrev ft0:Ft:=⟨0,0,0⟩
def vrs (n:Nd):List Vr:=n.ins++n.outs++n.vars
abbrev Keeps (B:Nat) (w w':World):Prop:=∀(p:Addr) (u:Value),p.block<B→w.cell? p=some u→w'.cell? p=some u
theorem keeps_of {B:Nat} {w w':World} (h:Below B w w'):Keeps B w w':=fun _ _ hp hc=>(h.cell hp).trans hc
def isLit (x:Lt) (cs:List Value):Prop:=cs=[.string x.name,.bool x.no]∧x.name.size≤maxLen
structure VrOk (x:Vr):Prop where
 name:x.name.size≤maxLen
 ty:Wf x.ty
 line:Wf x.line
 col:Wf x.col
def isVr (w:World) (B:Nat) (x:Vr) (cs:List Value):Prop:=
 ∃A cap,cs=[.string x.name,.int .i64 x.ty,.slice A x.clock.length cap,.int .i64 x.line,.int .i64 x.col]∧VrOk x∧x.clock.length≤cap∧cap≤maxLen∧Sl w B 2 isLit A x.clock
structure EqnOk (x:Eqn):Prop where
 right:ExOk x.right
 line:Wf x.line
 col:Wf x.col
def isEqn (w:World) (B:Nat) (x:Eqn) (cs:List Value):Prop:=
 ∃A cap A' cap',cs=[.slice A x.left.length cap,.int .i64 x.right.op,.string x.right.name,.int .i64 x.right.n,.slice A' x.right.args.length cap',.int .i64 x.right.line,.int .i64 x.right.col,.int .i64 x.line,.int .i64 x.col]∧
  EqnOk x∧x.left.length≤cap∧cap≤maxLen∧Sl w B 1 isStr A x.left∧x.right.args.length≤cap'∧cap'≤maxLen∧IsExs w B A' x.right.args
structure NdA where
 ai:Option Addr
 ci:Nat
 ao:Option Addr
 co:Nat
 av:Option Addr
 cv:Nat
 aq:Option Addr
 cq:Nat
structure NdAt (w:World) (B:Nat) (n:Nd) (a:NdA):Prop where
 name:n.name.size≤maxLen
 line:Wf n.line
 col:Wf n.col
 li:n.ins.length≤a.ci
 mi:a.ci≤maxLen
 si:Sl w B 5 (isVr w B) a.ai n.ins
 lo:n.outs.length≤a.co
 mo:a.co≤maxLen
 so:Sl w B 5 (isVr w B) a.ao n.outs
 lv:n.vars.length≤a.cv
 mv:a.cv≤maxLen
 sv:Sl w B 5 (isVr w B) a.av n.vars
 lq:n.eqs.length≤a.cq
 mq:a.cq≤maxLen
 sq:Sl w B 9 (isEqn w B) a.aq n.eqs
abbrev ndCs (n:Nd) (a:NdA):List Value:=[.string n.name,.slice a.ai n.ins.length a.ci,.slice a.ao n.outs.length a.co,.slice a.av n.vars.length a.cv,.slice a.aq n.eqs.length a.cq,.int .i64 n.line,.int .i64 n.col]
abbrev ndV (n:Nd) (a:NdA):Value:= .agg #[.string n.name,.slice a.ai n.ins.length a.ci,.slice a.ao n.outs.length a.co,.slice a.av n.vars.length a.cv,.slice a.aq n.eqs.length a.cq,.int .i64 n.line,.int .i64 n.col]
def isNd (w:World) (B:Nat) (n:Nd) (cs:List Value):Prop:=∃a,cs=ndCs n a∧NdAt w B n a
section
variable {w w':World} {B B':Nat}
theorem isVr_keep (hk:Keeps B w w') (hB:B≤B') {x:Vr} {cs:List Value} (h:isVr w B x cs):isVr w' B' x cs:=by
 obtain ⟨A,cap,h1,h2,h3,h4,h5⟩:=h
 exact ⟨A,cap,h1,h2,h3,h4,h5.keep hk hB (fun _ _ _ h=>h)⟩
theorem isEqn_keep (hk:Keeps B w w') (hB:B≤B') {x:Eqn} {cs:List Value} (h:isEqn w B x cs):isEqn w' B' x cs:=by
 obtain ⟨A,cap,A',cap',h1,h2,h3,h4,h5,h6,h7,h8⟩:=h
 exact ⟨A,cap,A',cap',h1,h2,h3,h4,h5.keep hk hB (fun _ _ _ h=>h),h6,h7,(h8.keepS hk).more hB⟩
theorem NdAt.keep (hk:Keeps B w w') (hB:B≤B') {n:Nd} {a:NdA} (h:NdAt w B n a):NdAt w' B' n a:=
 ⟨h.name,h.line,h.col,h.li,h.mi,h.si.keep hk hB (fun _ _ _ h=>isVr_keep hk hB h),h.lo,h.mo,h.so.keep hk hB (fun _ _ _ h=>isVr_keep hk hB h),h.lv,h.mv,h.sv.keep hk hB (fun _ _ _ h=>isVr_keep hk hB h),
  h.lq,h.mq,h.sq.keep hk hB (fun _ _ _ h=>isEqn_keep hk hB h)⟩
theorem NdAt.below {n:Nd} {a:NdA} (h:NdAt w B n a) (hb:Below B w w'):NdAt w' B n a:=h.keep (keeps_of hb) (Nat.le_refl _)
theorem NdAt.more {n:Nd} {a:NdA} (h:NdAt w B n a) (hB:B≤B'):NdAt w B' n a:=h.keep (fun _ _ _ h=>h) hB
theorem NdAt.next {n:Nd} {a:NdA} (h:NdAt w w.heap.size n a) (hb:Below w.heap.size w w'):NdAt w' w'.heap.size n a:=(h.below hb).more hb.size
theorem isNd_keep (hk:Keeps B w w') (hB:B≤B') {x:Nd} {cs:List Value} (h:isNd w B x cs):isNd w' B' x cs:=by
 obtain ⟨a,h1,h2⟩:=h
 exact ⟨a,h1,h2.keep hk hB⟩
abbrev Vrs (w:World) (B:Nat) (A:Option Addr) (l:List Vr):Prop:=Sl w B 5 (isVr w B) A l
abbrev Nds (w:World) (B:Nat) (A:Option Addr) (l:List Nd):Prop:=Sl w B 7 (isNd w B) A l
abbrev Eqs (w:World) (B:Nat) (A:Option Addr) (l:List Eqn):Prop:=Sl w B 9 (isEqn w B) A l
theorem vrs_keep {A:Option Addr} {l:List Vr} (h:Vrs w B A l) (hk:Keeps B w w') (hB:B≤B'):Vrs w' B' A l:=h.keep hk hB (fun _ _ _ h=>isVr_keep hk hB h)
theorem vrs_keep2 {C:Nat} {A:Option Addr} {l:List Vr} (h:Sl w C 5 (isVr w B) A l) (hb:Below C w w') (hB:B≤C):Sl w' C 5 (isVr w' B) A l:=h.keep (keeps_of hb) (Nat.le_refl _) (fun _ _ _ h=>isVr_keep (keeps_of (hb.mono hB)) (Nat.le_refl _) h)
theorem eqs_keep {A:Option Addr} {l:List Eqn} (h:Eqs w B A l) (hk:Keeps B w w') (hB:B≤B'):Eqs w' B' A l:=h.keep hk hB (fun _ _ _ h=>isEqn_keep hk hB h)
theorem nds_keep {A:Option Addr} {l:List Nd} (h:Nds w B A l) (hk:Keeps B w w') (hB:B≤B'):Nds w' B' A l:=h.keep hk hB (fun _ _ _ h=>isNd_keep hk hB h)
theorem exs_keep {A:Option Addr} {l:List Ex} (h:IsExs w B A l) (hk:Keeps B w w') (hB:B≤B'):IsExs w' B' A l:=(h.keepS hk).more hB
theorem lits_keep {A:Option Addr} {l:List Lt} (h:Sl w B 2 isLit A l) (hk:Keeps B w w') (hB:B≤B'):Sl w' B' 2 isLit A l:=h.keep hk hB (fun _ _ _ h=>h)
theorem strs_keep {A:Option Addr} {l:List ByteArray} (h:Sl w B 1 isStr A l) (hk:Keeps B w w') (hB:B≤B'):Sl w' B' 1 isStr A l:=h.keep hk hB (fun _ _ _ h=>h)
theorem Sl.lit {A:Option Addr} {l:List Lt} {k:Nat} (h:Sl w B 2 isLit A l) (hk:k<l.length):∃b off x,A=some ⟨b,off,none⟩∧b<B∧l[k]? =some x∧x.name.size≤maxLen∧
  w.cell? ⟨b,off+k*2,none⟩=some (.string x.name)∧w.cell? ⟨b,off+k*2+1,none⟩=some (.bool x.no):=by
 obtain ⟨b,off,x,cs,h1,h2,h3,⟨rfl,h4⟩,h5⟩:=h.at_ hk
 exact ⟨b,off,x,h1,h2,h3,h4,h5 0 _ rfl,h5 1 _ rfl⟩
theorem Sl.vr {C:Nat} {A:Option Addr} {l:List Vr} {k:Nat} (h:Sl w C 5 (isVr w B) A l) (hk:k<l.length):∃b off x A' cap',A=some ⟨b,off,none⟩∧b<C∧l[k]? =some x∧VrOk x∧x.clock.length≤cap'∧cap'≤maxLen∧Sl w B 2 isLit A' x.clock∧
  w.cell? ⟨b,off+k*5,none⟩=some (.string x.name)∧w.cell? ⟨b,off+k*5+1,none⟩=some (.int .i64 x.ty)∧w.cell? ⟨b,off+k*5+2,none⟩=some (.slice A' x.clock.length cap')∧
  w.cell? ⟨b,off+k*5+3,none⟩=some (.int .i64 x.line)∧w.cell? ⟨b,off+k*5+4,none⟩=some (.int .i64 x.col):=by
 obtain ⟨b,off,x,cs,h1,h2,h3,⟨A',cap',rfl,h4,h5,h6,h7⟩,h8⟩:=h.at_ hk
 exact ⟨b,off,x,A',cap',h1,h2,h3,h4,h5,h6,h7,h8 0 _ rfl,h8 1 _ rfl,h8 2 _ rfl,h8 3 _ rfl,h8 4 _ rfl⟩
theorem Sl.eqn {A:Option Addr} {l:List Eqn} {k:Nat} (h:Eqs w B A l) (hk:k<l.length):∃b off x A1 c1 A2 c2,A=some ⟨b,off,none⟩∧b<B∧l[k]? =some x∧EqnOk x∧x.left.length≤c1∧c1≤maxLen∧Sl w B 1 isStr A1 x.left∧
  x.right.args.length≤c2∧c2≤maxLen∧IsExs w B A2 x.right.args∧
  w.cell? ⟨b,off+k*9,none⟩=some (.slice A1 x.left.length c1)∧w.cell? ⟨b,off+k*9+1,none⟩=some (.int .i64 x.right.op)∧w.cell? ⟨b,off+k*9+2,none⟩=some (.string x.right.name)∧
  w.cell? ⟨b,off+k*9+3,none⟩=some (.int .i64 x.right.n)∧w.cell? ⟨b,off+k*9+4,none⟩=some (.slice A2 x.right.args.length c2)∧w.cell? ⟨b,off+k*9+5,none⟩=some (.int .i64 x.right.line)∧
  w.cell? ⟨b,off+k*9+6,none⟩=some (.int .i64 x.right.col)∧w.cell? ⟨b,off+k*9+7,none⟩=some (.int .i64 x.line)∧w.cell? ⟨b,off+k*9+8,none⟩=some (.int .i64 x.col):=by
 obtain ⟨b,off,x,cs,h1,h2,h3,⟨A1,c1,A2,c2,rfl,h4,h5,h6,h7,h8,h9,h10⟩,h11⟩:=h.at_ hk
 exact ⟨b,off,x,A1,c1,A2,c2,h1,h2,h3,h4,h5,h6,h7,h8,h9,h10,h11 0 _ rfl,h11 1 _ rfl,h11 2 _ rfl,h11 3 _ rfl,h11 4 _ rfl,h11 5 _ rfl,h11 6 _ rfl,h11 7 _ rfl,h11 8 _ rfl⟩
theorem Sl.nd {A:Option Addr} {l:List Nd} {k:Nat} (h:Nds w B A l) (hk:k<l.length):∃b off x a,A=some ⟨b,off,none⟩∧b<B∧l[k]? =some x∧NdAt w B x a∧
  w.cell? ⟨b,off+k*7,none⟩=some (.string x.name)∧w.cell? ⟨b,off+k*7+1,none⟩=some (.slice a.ai x.ins.length a.ci)∧w.cell? ⟨b,off+k*7+2,none⟩=some (.slice a.ao x.outs.length a.co)∧
  w.cell? ⟨b,off+k*7+3,none⟩=some (.slice a.av x.vars.length a.cv)∧w.cell? ⟨b,off+k*7+4,none⟩=some (.slice a.aq x.eqs.length a.cq)∧
  w.cell? ⟨b,off+k*7+5,none⟩=some (.int .i64 x.line)∧w.cell? ⟨b,off+k*7+6,none⟩=some (.int .i64 x.col):=by
 obtain ⟨b,off,x,cs,h1,h2,h3,⟨a,rfl,h4⟩,h5⟩:=h.at_ hk
 exact ⟨b,off,x,a,h1,h2,h3,h4,h5 0 _ rfl,h5 1 _ rfl,h5 2 _ rfl,h5 3 _ rfl,h5 4 _ rfl,h5 5 _ rfl,h5 6 _ rfl⟩
end
end Go.Proofs.YtdkgkacnjdnpoaaGreat
