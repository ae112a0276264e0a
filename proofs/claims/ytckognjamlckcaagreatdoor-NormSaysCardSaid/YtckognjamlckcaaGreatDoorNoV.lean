/-
  The examples of layers 26 and 30, as plain data; rows in memory that read as lists. The example of layer 26. Forms of few parts; the example of layer 26. What a form says, as plain data: a wire's value, a tick. The example of layer 24, as plain data. The example of layer 24 in memory.
-/
import Derived.Test.YtckognjamlckcaaGreatDoorNoT
set_option maxHeartbeats 4000000
set_option maxRecDepth 100000
namespace Go.Proofs.YtckognjamlckcaaGreatDoor.Fo
open Vf
theorem DZ (d a:Int):wants ⟨5,d,a,0,0,0⟩=[a]:=rfl
end Go.Proofs.YtckognjamlckcaaGreatDoor.Fo
namespace Go.Proofs.YtckognjamlckcaaGreatDoor
open Go.RowKit Vf Fo
theorem jz {n:Int} (h: -1000<=n/\n<=1000):Wf n:=aT (by omega)
attribute [local go_sem ↓] Go.wp_at_zero Go.wp_at_succ
theorem AV (W:World) (o o' o2:Obj) (cs:Array Value) (t:TypeId):ai ((((W.alloc o).alloc o').alloc o2).alloc (.cells cs t)) (W.heap.size+1+1+1) cs t:=by
 have:=ai.new (((W.alloc o).alloc o').alloc o2) cs t
 rwa [World.size_alloc,World.size_alloc,World.size_alloc] at this
def jt (P:Prop) (w:World) (e:Ending) (w':World):Prop:=(∃b,e= .returned (.bool b)/\Hid (b=true->P))/\Below w.heap.size w w'
theorem jt.no {P:Prop} {w w':World} (h:Below w.heap.size w w'):jt P w (.returned (.bool false)) w':=⟨⟨false,rfl,fun g=>by cases g⟩,h⟩
end Go.Proofs.YtckognjamlckcaaGreatDoor
namespace Go.Proofs.YtckognjamlckcaaGreatDoor.Fo
open Vf Ar
inductive Vl (f:Fm) (cs row:List Int):Int->Int->Prop where
 |inp (i:Nat) (n v:Int) (h:f.ins[i]? =some n) (hv:row.getD i 0=v):Vl f cs row n v
 |const (x:Ac) (hx:x∈f.acts) (ho:x.op<=2):Vl f cs row x.dst x.k
 |pre (x:Ac) (hx:x∈f.acts) (ho:x.op=21):Vl f cs row x.dst (ao cs x.k)
 |copy (x:Ac) (hx:x∈f.acts) (ho:x.op=3\/x.op=24) (v:Int) (h:Vl f cs row x.a v):Vl f cs row x.dst v
 |yes (x:Ac) (hx:x∈f.acts) (ho:26<=x.op) (c v:Int) (hc:Vl f cs row x.a c) (h0:c≠0) (h:Vl f cs row x.b v):Vl f cs row x.dst v
 |no (x:Ac) (hx:x∈f.acts) (ho:26<=x.op) (c v:Int) (hc:Vl f cs row x.a c) (h0:c=0) (h:Vl f cs row x.c v):Vl f cs row x.dst v
 |one (x:Ac) (hx:x∈f.acts) (ho:x.op=5\/x.op=6) (a:Int) (h:Vl f cs row x.a a):Vl f cs row x.dst (im x.op a)
 |two (x:Ac) (hx:x∈f.acts) (ho:7<=x.op/\x.op<=20) (a b:Int) (h1:Vl f cs row x.a a) (h2:Vl f cs row x.b b):Vl f cs row x.dst (gF x.op a b)
theorem gA {f:Fm} (hd:aR f) {x y:Ac} (hx:x∈f.acts) (hy:y∈f.acts) (e:x.dst=y.dst):x=y:=by
 obtain ⟨i,hi⟩:=List.getElem?_of_mem hx
 obtain ⟨j,hj⟩:=List.getElem?_of_mem hy
 rcases Nat.lt_trichotomy i j with h|h|h
 ·exact absurd e (hd.2.2.1 i j x y h hi hj)
 ·subst h;rw[hi] at hj;injection hj
 ·exact absurd e.symm (hd.2.2.1 j i y x h hj hi)
theorem jl {f:Fm} {cs row:List Int} (hd:aR f) {x:Ac} (hx:x∈f.acts) {v:Int} (h:Vl f cs row x.dst v):
  (x.op<=2/\v=x.k)\/(x.op=21/\v=ao cs x.k)\/((x.op=3\/x.op=24)/\Vl f cs row x.a v)\/(26<=x.op/\∃c,Vl f cs row x.a c/\((c≠0/\Vl f cs row x.b v)\/(c=0/\Vl f cs row x.c v)))\/
  ((x.op=5\/x.op=6)/\∃a,Vl f cs row x.a a/\v=im x.op a)\/((7<=x.op/\x.op<=20)/\∃a b,Vl f cs row x.a a/\Vl f cs row x.b b/\v=gF x.op a b):=by
 generalize hn:x.dst=n at h
 cases h with
 |inp i n v h hv=>exact absurd (by rw[hn];exact List.mem_of_getElem? h) (hd.2.1 x hx).2
 |const y hy ho=>obtain rfl:=gA hd hx hy hn;exact .inl ⟨ho,rfl⟩
 |pre y hy ho=>obtain rfl:=gA hd hx hy hn;exact .inr (.inl ⟨ho,rfl⟩)
 |copy y hy ho v h=>obtain rfl:=gA hd hx hy hn;exact .inr (.inr (.inl ⟨ho,h⟩))
 |yes y hy ho c v hc h0 h=>obtain rfl:=gA hd hx hy hn;exact .inr (.inr (.inr (.inl ⟨ho,c,hc,.inl ⟨h0,h⟩⟩)))
 |no y hy ho c v hc h0 h=>obtain rfl:=gA hd hx hy hn;exact .inr (.inr (.inr (.inl ⟨ho,c,hc,.inr ⟨h0,h⟩⟩)))
 |one y hy ho a h=>obtain rfl:=gA hd hx hy hn;exact .inr (.inr (.inr (.inr (.inl ⟨ho,a,h,rfl⟩))))
 |two y hy ho a b h1 h2=>obtain rfl:=gA hd hx hy hn;exact .inr (.inr (.inr (.inr (.inr ⟨ho,a,b,h1,h2,rfl⟩))))
theorem Vl.uniq {f:Fm} {cs row:List Int} (hd:aR f) {n v:Int} (h:Vl f cs row n v):∀{v':Int},Vl f cs row n v'->v=v':=by
 induction h with
 |inp i n v h hv=>
  intro v' h'
  generalize hn:n=m at h'
  cases h' with
  |inp j m v' g gv=>
   subst hn
   rcases Nat.lt_trichotomy i j with q|q|q
   ·exact absurd rfl (hd.1 i j n n q h g)
   ·subst q;rw[<-hv,<-gv]
   ·exact absurd rfl (hd.1 j i n n q g h)
  |const y hy _|pre y hy _|copy y hy _ _ _|yes y hy _ _ _ _ _ _|no y hy _ _ _ _ _ _|one y hy _ _ _|two y hy _ _ _ _ _=>exact absurd (by rw[<-hn];exact List.mem_of_getElem? h) (hd.2.1 y hy).2
 |const x hx ho=>
  intro v' h'
  rcases jl hd hx h' with ⟨_,g⟩|⟨g,_⟩|⟨g,_⟩|⟨g,_⟩|⟨g,_⟩|⟨g,_⟩
  ·exact g.symm
  all_goals omega
 |pre x hx ho=>
  intro v' h'
  rcases jl hd hx h' with ⟨g,_⟩|⟨_,g⟩|⟨g,_⟩|⟨g,_⟩|⟨g,_⟩|⟨g,_⟩
  ·omega
  ·exact g.symm
  all_goals omega
 |copy x hx ho v h ih=>
  intro v' h'
  rcases jl hd hx h' with ⟨g,_⟩|⟨g,_⟩|⟨_,g⟩|⟨g,_⟩|⟨g,_⟩|⟨g,_⟩
  ·omega
  ·omega
  ·exact ih g
  all_goals omega
 |yes x hx ho c v hc h0 h ihc ih=>
  intro v' h'
  rcases jl hd hx h' with ⟨g,_⟩|⟨g,_⟩|⟨g,_⟩|⟨_,c',gc,⟨_,g⟩|⟨g0,_⟩⟩|⟨g,_⟩|⟨g,_⟩
  ·omega
  ·omega
  ·omega
  ·exact ih g
  ·exact absurd ((ihc gc).trans g0) h0
  all_goals omega
 |no x hx ho c v hc h0 h ihc ih=>
  intro v' h'
  rcases jl hd hx h' with ⟨g,_⟩|⟨g,_⟩|⟨g,_⟩|⟨_,c',gc,⟨g0,_⟩|⟨_,g⟩⟩|⟨g,_⟩|⟨g,_⟩
  ·omega
  ·omega
  ·omega
  ·exact absurd ((ihc gc).symm.trans h0) g0
  ·exact ih g
  all_goals omega
 |one x hx ho a h ih=>
  intro v' h'
  rcases jl hd hx h' with ⟨g,_⟩|⟨g,_⟩|⟨g,_⟩|⟨g,_⟩|⟨_,a',ga,g⟩|⟨g,_⟩
  ·omega
  ·omega
  ·omega
  ·omega
  ·rw[g,ih ga]
  ·omega
 |two x hx ho a b h1 h2 ih1 ih2=>
  intro v' h'
  rcases jl hd hx h' with ⟨g,_⟩|⟨g,_⟩|⟨g,_⟩|⟨g,_⟩|⟨g,_⟩|⟨_,a',b',ga,gb,g⟩
  ·omega
  ·omega
  ·omega
  ·omega
  ·omega
  ·rw[g,ih1 ga,ih2 gb]
open Classical in
noncomputable def aK (f:Fm) (cs row:List Int) (n:Int):Int:=if h:∃v,Vl f cs row n v then h.choose else 0
theorem eu {f:Fm} {cs row:List Int} (hd:aR f) {n v:Int} (h:Vl f cs row n v):aK f cs row n=v:=by
 have hx:∃v,Vl f cs row n v:=⟨v,h⟩
 unfold aK
 rw[dif_pos hx]
 exact hx.choose_spec.uniq hd h
noncomputable def fC (f:Fm) (cs row:List Int):List Gd->Bool
 | []=>true
 |g::l=>if (decide (aK f cs row g.wire≠0))=g.no then false else fC f cs row l
noncomputable def cu (f:Fm) (cs row:List Int) (l:List (Int × Int)) (ns:List Int):List Int:=
 l.foldl (fun ns k=>if fC f cs row (aa f k.2)=true then ns.set k.1.toNat (aK f cs row k.2) else ns) ns
noncomputable def eO (f:Fm) (cs row:List Int):List Int:=f.outs.map (aK f cs row)
noncomputable def fA (f:Fm):List Int->List (List Int)->List (List Int)
 |_,[]=> []
 |cs,row::l=>eO f cs row::fA f (cu f cs row f.keeps cs) l
theorem eW {x:Ac} (h:1<=bl x.op):x.a∈wants x:=by
 unfold wants
 rw[if_neg (by omega)]
 split
 ·simp
 split
 ·simp
 ·simp
theorem jK {x:Ac} (h:2<=bl x.op):x.b∈wants x:=by
 unfold wants
 rw[if_neg (by omega),if_neg (by omega)]
 split
 ·simp
 ·simp
theorem nV {x:Ac} (h:bl x.op=3):x.c∈wants x:=by
 unfold wants
 rw[if_neg (by omega),if_neg (by omega),if_neg (by omega)]
 simp
theorem pL {op:Int} (h:op=3\/op=24\/op=5\/op=6):bl op=1:=by unfold bl;rw[if_neg (by omega),if_pos (by omega)]
theorem uc {op:Int} (h:7<=op/\op<=20):bl op=2:=by unfold bl;rw[if_neg (by omega),if_neg (by omega),if_pos h]
theorem lP {op:Int} (h:op=26\/op=27):bl op=3:=by unfold bl;rw[if_neg (by omega),if_neg (by omega),if_neg (by omega),if_pos h]
theorem Af {f:Fm} (hf:bm f) (cs row:List Int) {n:Int} (h:bB f n):∃v,Vl f cs row n v:=by
 induction h with
 |ins n h=>
  obtain ⟨i,hi⟩:=List.getElem?_of_mem h
  exact ⟨_,.inp i n _ hi rfl⟩
 |act x hx _ _ ih _=>
  have hu:=(hf.2.2.2.2.2.1 x hx).2.2.2.1
  rcases kE hu with h|h|h|h|h|h|h|h|h
  ·exact ⟨_,.const x hx (by omega)⟩
  ·exact ⟨_,.const x hx (by omega)⟩
  ·exact ⟨_,.pre x hx h⟩
  ·obtain ⟨v,hv⟩:=ih x.a (eW (by rw[pL (by omega)];omega))
   exact ⟨_,.copy x hx (.inl h) v hv⟩
  ·obtain ⟨v,hv⟩:=ih x.a (eW (by rw[pL (by omega)];omega))
   exact ⟨_,.copy x hx (.inr h) v hv⟩
  ·obtain ⟨a,ha⟩:=ih x.a (eW (by rw[lP (by omega)];omega))
   obtain ⟨b,hb⟩:=ih x.b (jK (by rw[lP (by omega)];omega))
   obtain ⟨c,hc⟩:=ih x.c (nV (lP (by omega)))
   by_cases h0:a=0
   ·exact ⟨_,.no x hx (by omega) a c ha h0 hc⟩
   ·exact ⟨_,.yes x hx (by omega) a b ha h0 hb⟩
  ·obtain ⟨a,ha⟩:=ih x.a (eW (by rw[lP (by omega)];omega))
   obtain ⟨b,hb⟩:=ih x.b (jK (by rw[lP (by omega)];omega))
   obtain ⟨c,hc⟩:=ih x.c (nV (lP (by omega)))
   by_cases h0:a=0
   ·exact ⟨_,.no x hx (by omega) a c ha h0 hc⟩
   ·exact ⟨_,.yes x hx (by omega) a b ha h0 hb⟩
  ·obtain ⟨a,ha⟩:=ih x.a (eW (by rw[pL (by omega)];omega))
   exact ⟨_,.one x hx (by omega) a ha⟩
  ·obtain ⟨a,ha⟩:=ih x.a (eW (by rw[uc h];omega))
   obtain ⟨b,hb⟩:=ih x.b (jK (by rw[uc h];omega))
   exact ⟨_,.two x hx h a b ha hb⟩
theorem gI {f:Fm} (hf:bm f) (cs row:List Int) {n:Int} (h:bB f n):Vl f cs row n (aK f cs row n):=by
 obtain ⟨v,hv⟩:=Af hf cs row h
 rw[eu hf.2.2.2.2.1 hv]
 exact hv
section
variable {f:Fm} (hf:bm f) (cs row:List Int)
include hf
theorem tH {i:Nat} {n:Int} (h:f.ins[i]? =some n):aK f cs row n=row.getD i 0:=eu hf.2.2.2.2.1 (.inp i n _ h rfl)
theorem lm {x:Ac} (hx:x∈f.acts) (ho:x.op<=2):aK f cs row x.dst=x.k:=eu hf.2.2.2.2.1 (.const x hx ho)
theorem nX {x:Ac} (hx:x∈f.acts) (ho:x.op=21):aK f cs row x.dst=ao cs x.k:=eu hf.2.2.2.2.1 (.pre x hx ho)
theorem kI {x:Ac} (hx:x∈f.acts) (ho:x.op=3\/x.op=24) (h:bB f x.a):aK f cs row x.dst=aK f cs row x.a:=eu hf.2.2.2.2.1 (.copy x hx ho _ (gI hf cs row h))
theorem tP {x:Ac} (hx:x∈f.acts) (ho:26<=x.op) (ha:bB f x.a) (h0:aK f cs row x.a≠0) (h:bB f x.b):aK f cs row x.dst=aK f cs row x.b:=eu hf.2.2.2.2.1 (.yes x hx ho _ _ (gI hf cs row ha) h0 (gI hf cs row h))
theorem xR {x:Ac} (hx:x∈f.acts) (ho:26<=x.op) (ha:bB f x.a) (h0:aK f cs row x.a=0) (h:bB f x.c):aK f cs row x.dst=aK f cs row x.c:=eu hf.2.2.2.2.1 (.no x hx ho _ _ (gI hf cs row ha) h0 (gI hf cs row h))
theorem tj {x:Ac} (hx:x∈f.acts) (ho:x.op=5\/x.op=6) (ha:bB f x.a):aK f cs row x.dst=im x.op (aK f cs row x.a):=eu hf.2.2.2.2.1 (.one x hx ho _ (gI hf cs row ha))
theorem tF {x:Ac} (hx:x∈f.acts) (ho:7<=x.op/\x.op<=20) (ha:bB f x.a) (hb:bB f x.b):aK f cs row x.dst=gF x.op (aK f cs row x.a) (aK f cs row x.b):=eu hf.2.2.2.2.1 (.two x hx ho _ _ (gI hf cs row ha) (gI hf cs row hb))
end
def tN:Ex:= .mk 1 ⟨#[]⟩ 0 [] 0 0
def vN:Ex:= .mk 3 ⟨#[]⟩ 0 [] 0 0
def dE:Ex:= .mk 22 ⟨#[]⟩ 0 [tN,vN] 0 0
theorem oh:(⟨#[]⟩:ByteArray).toList.isEmpty=true:=by unfold ByteArray.toList ByteArray.toList.loop;rfl
def dF:Fl:=⟨[⟨1,[]⟩,⟨1,[]⟩],[(1,dE)],[0],[1]⟩
def tm:Ac:=⟨1,2,0,0,0,0⟩
def rq:Ac:=⟨21,3,0,0,0,0⟩
def tx:Ac:=⟨2,4,0,0,0,0⟩
def tp:Ac:=⟨21,5,0,0,0,1⟩
def sj:Ac:=⟨27,6,3,2,5,0⟩
def rp:Ac:=⟨3,1,6,0,0,0⟩
def dM:Fm:=⟨[⟨1,[]⟩,⟨1,[]⟩,⟨1,[]⟩,⟨2,[]⟩,⟨2,[]⟩,⟨1,[]⟩,⟨1,[]⟩],[tm,rq,tx,tp,sj,rp],[(2,1),(1,0)],[(0,4),(1,0)],[0],[1]⟩
theorem tQ:aD dF (dr dF)=dM/\(dr dF).spent=false:=by
 constructor<;>kernel_rfl
theorem Be:bn dF:=by
 have hw:∀n:Int,ak dF.fm n↔n=0\/n=1:=fun n=>by unfold ak;simp[dF,Fl.fm];omega
 have w0:=(hw 0).2 (by omega)
 have w1:=(hw 1).2 (by omega)
 have k0:dt dF 0:= .ins 0 (by simp[dF])
 have hE:bC dE=[dE,tN,vN]:=by rfl
 refine ⟨⟨fun w h=>?_,by decide,by decide⟩,⟨fun n hn=>?_,by decide,by decide⟩,⟨fun n hn=>?_,by decide,by decide⟩,dm.2 ⟨by decide,fun a ha=>?_,fun n hn=>?_⟩,fun d hd=>?_,fun n hn=>?_⟩
 ·simp[dF] at h;subst h;exact ⟨.inl rfl,by simp⟩
 ·simp[dF] at hn;subst hn;exact ⟨w0,rfl⟩
 ·simp[dF] at hn;subst hn;exact ⟨w1,rfl⟩
 ·simp[dF,Fl.fm] at ha;subst ha;exact w1
 ·have hn':n<2:=hn
  rcases (by omega:n=0\/n=1) with rfl|rfl<;>decide
 ·simp[dF] at hd
  subst hd
  refine ⟨fun x hx=>?_,by show ax dE<=30;decide,by rfl,?_,by rfl⟩
  ·dsimp only at hx
   rw[hE] at hx
   simp at hx
   rcases hx with rfl|rfl|rfl
   ·exact ⟨oh,by decide,rfl,rfl⟩
   ·exact ⟨oh,by decide,rfl,show (0:Int)<=0 by omega⟩
   ·exact ⟨oh,by decide,rfl,w0⟩
  ·show aE dF dE []
   refine (bL (by decide)).2 ⟨fun g=>absurd g (by decide),fun g=>absurd g (by decide),fun i x hx=>?_⟩
   rcases i with _|_|i
   ·cases hx
    exact (bL (by decide)).2 ⟨fun g=>absurd g (by decide),fun g=>absurd g (by decide),fun i x hx=>by simp[tN,Ex.args] at hx⟩
   ·cases hx
    exact (jc rfl).2 rfl
   ·simp[dE,Ex.args] at hx
 ·have hn':n<2:=hn
  rcases (by omega:n=0\/n=1) with rfl|rfl
  ·exact k0
  ·exact dt.def_ (f:=dF) (1,dE) (by simp[dF]) (fun n hn=>by rw[show aU (1,dE).2=[] from rfl] at hn;cases hn) (fun g hg=>by rw[show aa dF.fm (1,dE).1=[] from rfl] at hg;cases hg)
theorem ln {n:Int}:ak dM n↔0<=n/\n<7:=by unfold ak;simp[dM]
theorem Ea {n:Int} (h:ak dM n):aa dM n=[]:=by
 have:=ln.1 h
 rcases (by omega:n=0\/n=1\/n=2\/n=3\/n=4\/n=5\/n=6) with rfl|rfl|rfl|rfl|rfl|rfl|rfl<;>rfl
theorem ng:bm dM:=by
 have w0:ak dM 0:=ln.2 (by omega)
 have w1:ak dM 1:=ln.2 (by omega)
 have w2:ak dM 2:=ln.2 (by omega)
 have w3:ak dM 3:=ln.2 (by omega)
 have w4:ak dM 4:=ln.2 (by omega)
 have w5:ak dM 5:=ln.2 (by omega)
 have w6:ak dM 6:=ln.2 (by omega)
 have nc:∀x∈dM.acts,ak dM x.dst->∀g∈aa dM x.dst,bB dM g.wire:=fun x _ hw g hg=>by rw[Ea hw] at hg;cases hg
 have d0:bB dM 0:= .ins 0 (by simp[dM])
 have d2:bB dM 2:= .act (f:=dM) tm (by simp[dM]) (fun n hn=>by rw[show wants tm=[] from rfl] at hn;cases hn) (nc tm (by simp[dM]) (by exact w2))
 have d3:bB dM 3:= .act (f:=dM) rq (by simp[dM]) (fun n hn=>by rw[show wants rq=[] from rfl] at hn;cases hn) (nc rq (by simp[dM]) (by exact w3))
 have d4:bB dM 4:= .act (f:=dM) tx (by simp[dM]) (fun n hn=>by rw[show wants tx=[] from rfl] at hn;cases hn) (nc tx (by simp[dM]) (by exact w4))
 have d5:bB dM 5:= .act (f:=dM) tp (by simp[dM]) (fun n hn=>by rw[show wants tp=[] from rfl] at hn;cases hn) (nc tp (by simp[dM]) (by exact w5))
 have d6:bB dM 6:= .act (f:=dM) sj (by simp[dM]) (fun n hn=>by rw[show wants sj=[3,2,5] from rfl] at hn;simp at hn;rcases hn with rfl|rfl|rfl;exact d3;exact d2;exact d5) (nc sj (by simp[dM]) (by exact w6))
 have d1:bB dM 1:= .act (f:=dM) rp (by simp[dM]) (fun n hn=>by rw[show wants rp=[6] from rfl] at hn;simp at hn;subst hn;exact d6) (nc rp (by simp[dM]) (by exact w1))
 refine ⟨⟨fun w hw=>?_,by decide,by decide⟩,⟨fun n hn=>?_,by decide,by decide⟩,⟨fun n hn=>?_,by decide,by decide⟩,⟨fun c hc=>?_,by decide,fun k hk=>?_,fun i j x y hij hx hy=>?_,fun c hc=>?_⟩,dm.2 ⟨by decide,fun a ha=>?_,fun n hn=>?_⟩,fun x hx=>?_,fun n hn=>?_⟩
 ·simp[dM] at hw;rcases hw with rfl|rfl|rfl
  ·exact ⟨.inl rfl,by simp⟩
  ·exact ⟨.inr rfl,by simp⟩
  ·exact ⟨.inl rfl,by simp⟩
 ·simp[dM] at hn;subst hn;exact ⟨w0,rfl⟩
 ·simp[dM] at hn;subst hn;exact ⟨w1,rfl⟩
 ·simp[dM] at hc;rcases hc with rfl|rfl
  ·exact .inr ⟨rfl,.inr rfl⟩
  ·exact .inl rfl
 ·simp[dM] at hk;rcases hk with rfl|rfl
  ·exact ⟨by decide,by decide,w4,rfl⟩
  ·exact ⟨by decide,by decide,w0,rfl⟩
 ·have hj:j<2:=(List.getElem?_eq_some_iff.1 hy).1
  obtain ⟨rfl,rfl⟩:i=0/\j=1:=by omega
  cases hx
  cases hy
  decide
 ·have hc':c<2:=hc
  rcases (by omega:c=0\/c=1) with rfl|rfl
  ·exact ⟨(0,4),by simp[dM],rfl⟩
  ·exact ⟨(1,0),by simp[dM],rfl⟩
 ·simp[dM] at ha;rcases ha with rfl|rfl|rfl|rfl|rfl|rfl
  ·exact w2
  ·exact w3
  ·exact w4
  ·exact w5
  ·exact w6
  ·exact w1
 ·have hn':n<7:=hn
  rcases (by omega:n=0\/n=1\/n=2\/n=3\/n=4\/n=5\/n=6) with rfl|rfl|rfl|rfl|rfl|rfl|rfl<;>decide
 ·simp[dM] at hx;rcases hx with rfl|rfl|rfl|rfl|rfl|rfl
  ·exact (jo rfl ⟨w0,w0,w0⟩).2 ⟨⟨rfl,rfl,rfl⟩,rfl⟩
  ·exact (iB rfl ⟨w0,w0,w0⟩).2 ⟨⟨rfl,rfl,rfl⟩,⟨by decide,by decide⟩,rfl,4,rfl,rfl⟩
  ·exact (ic rfl ⟨w0,w0,w0⟩).2 ⟨⟨rfl,rfl,rfl⟩,rfl,.inr ⟨rfl,.inl rfl⟩⟩
  ·exact (iB rfl ⟨w0,w0,w0⟩).2 ⟨⟨rfl,rfl,rfl⟩,⟨by decide,by decide⟩,rfl,0,rfl,rfl⟩
  ·exact (er rfl ⟨w3,w2,w5⟩).2 ⟨rfl,⟨rfl,rfl,rfl⟩,rfl,rfl,rfl⟩
  ·exact (ig rfl ⟨w6,w0,w0⟩).2 ⟨⟨rfl,rfl,rfl⟩,rfl,rfl⟩
 ·have hn':n<7:=hn
  rcases (by omega:n=0\/n=1\/n=2\/n=3\/n=4\/n=5\/n=6) with rfl|rfl|rfl|rfl|rfl|rfl|rfl
  ·exact d0
  ·exact d1
  ·exact d2
  ·exact d3
  ·exact d4
  ·exact d5
  ·exact d6
theorem Br:fA dM [1,0] [[3],[4]]=[[0],[3]]:=by
 have hd:=ng.2.2.2.2.1
 have u0:Vl dM [1,0] [3] 0 3:= .inp 0 0 3 rfl rfl
 have u2:Vl dM [1,0] [3] 2 0:= .const tm (by simp[dM]) (by decide)
 have u3:Vl dM [1,0] [3] 3 1:= .pre rq (by simp[dM]) (by decide)
 have u4:Vl dM [1,0] [3] 4 0:= .const tx (by simp[dM]) (by decide)
 have u6:Vl dM [1,0] [3] 6 0:= .yes sj (by simp[dM]) (by decide) 1 0 u3 (by decide) u2
 have u1:Vl dM [1,0] [3] 1 0:= .copy rp (by simp[dM]) (.inl rfl) 0 u6
 have v3:Vl dM [0,3] [4] 3 0:= .pre rq (by simp[dM]) (by decide)
 have v5:Vl dM [0,3] [4] 5 3:= .pre tp (by simp[dM]) (by decide)
 have v6:Vl dM [0,3] [4] 6 3:= .no sj (by simp[dM]) (by decide) 0 3 v3 rfl v5
 have v1:Vl dM [0,3] [4] 1 3:= .copy rp (by simp[dM]) (.inl rfl) 3 v6
 have hn:cu dM [1,0] [3] dM.keeps [1,0]=[0,3]:=by
  show List.foldl _ _ [((0:Int),(4:Int)),(1,0)]=_
  simp only[List.foldl_cons,List.foldl_nil]
  rw[show aa dM 4=[] from rfl,show aa dM 0=[] from rfl]
  rw[eu hd u4,eu hd u0]
  rfl
 show [aK dM [1,0] [3] 1]::fA dM (cu dM [1,0] [3] dM.keeps [1,0]) [[4]]=_
 rw[hn,eu hd u1]
 show [0]:: [aK dM [0,3] [4] 1]:: []=_
 rw[eu hd v1]
end Go.Proofs.YtckognjamlckcaaGreatDoor.Fo
namespace Go.Proofs.YtckognjamlckcaaGreatDoor
open Go.RowKit Vf Fo
attribute [local go_sem ↓] Go.wp_at_zero Go.wp_at_succ
theorem iS {α:Type} {W:World} {B b k:Nat} {t:TypeId} {rel:α->List Value->Prop} {l:List α} (f:α->List Value) (h:ai W b ((l.map f).flatten).toArray t) (hl:∀x,(f x).length=k) (hr:∀x∈l,rel x (f x)) (hb:b<B):Sl W B k rel (some ⟨b,0,none⟩) l:=fun _=>by
 refine ⟨b,0,rfl,hb,fun i x hi=>⟨f x,fun j u hu=>?_,hr x (List.mem_of_getElem? hi)⟩⟩
 have hj:j<k:=by rw[<-hl x];exact (List.getElem?_eq_some_iff.1 hu).1
 have hf:=gl (css:=l.map f) (k:=k) (fun cs hcs=>by obtain ⟨y,_,rfl⟩:=List.mem_map.1 hcs;exact hl y) (i:=i) (j:=j) (cs:=f x) (by rw[List.getElem?_map,hi];rfl) hj
 rw[hu] at hf
 rw[show (0:Nat)+i*k+j=i*k+j by omega]
 exact (h.cell (i*k+j)).trans (by rw[List.getElem?_toArray];exact hf)
theorem uM {n:Int} (h:Wf n) (l:List Ex):cW (.mk n ⟨#[]⟩ 0 l 0 0):=⟨h,by show (0:Nat)<=_;omega,aV,aV,aV⟩
theorem DN {W:World} {p a b c d:Nat} (h0:ai W p #[.int .i64 1,.string ⟨#[]⟩,.int .i64 0,.slice none 0 0,.int .i64 0,.int .i64 0,.int .i64 3,.string ⟨#[]⟩,.int .i64 0,.slice none 0 0,.int .i64 0,.int .i64 0] 75)
  (h1:ai W a #[.int .i64 1,.slice none 0 0,.int .i64 1,.slice none 0 0] 52) (h2:ai W b #[.int .i64 1,.int .i64 22,.string ⟨#[]⟩,.int .i64 0,.slice (some ⟨p,0,none⟩) 2 2,.int .i64 0,.int .i64 0] 77)
  (h3:ai W c #[.int .i64 0] 3) (h4:ai W d #[.int .i64 1] 3):
  cS W W.heap.size dF (.slice (some ⟨a,0,none⟩) 2 2) (.slice (some ⟨b,0,none⟩) 1 1) (.slice (some ⟨c,0,none⟩) 1 1) (.slice (some ⟨d,0,none⟩) 1 1):=by
 have hx:aM W W.heap.size (some ⟨p,0,none⟩) dE.args:=by
  refine iS (k:=6) (rel:=cL W W.heap.size) (l:=[tN,vN]) (fun e=>dR e none 0) h0 (fun x=>rfl) (fun x hx=>?_) h0.lt
  simp only[List.mem_cons,List.not_mem_nil,or_false] at hx
  rcases hx with rfl|rfl
  ·exact cL.mk' (uM oC []) (Nat.le_refl _) (Nat.zero_le _) (fun g=>absurd g (by decide))
  ·exact cL.mk' (uM (aT (by omega)) []) (Nat.le_refl _) (Nat.zero_le _) (fun g=>absurd g (by decide))
 refine ⟨⟨_,2,rfl,Nat.le_refl _,by unfold maxLen;omega,?_⟩,⟨_,1,rfl,Nat.le_refl _,by unfold maxLen;omega,?_⟩,⟨_,1,rfl,Nat.le_refl _,by unfold maxLen;omega,?_⟩,⟨_,1,rfl,Nat.le_refl _,by unfold maxLen;omega,?_⟩⟩
 ·exact iS (k:=2) (rel:=fu W W.heap.size) (l:=[⟨1,[]⟩,⟨1,[]⟩]) (fun (x:Wr)=> [.int .i64 x.ty,.slice none 0 0]) h1 (fun x=>rfl) (fun x hx=>by
   simp only[List.mem_cons,List.not_mem_nil,or_false] at hx
   have hx':x=⟨1,[]⟩:=hx.elim id id
   subst hx'
   exact ⟨.slice none 0 0,rfl,oC,aI.nil⟩) h1.lt
 ·refine iS (k:=7) (l:=[((1:Int),dE)]) (fun (d:Int × Ex)=> .int .i64 d.1::dR d.2 (some ⟨p,0,none⟩) 2) h2 (fun x=>rfl) (fun x hx'=>?_) h2.lt
  simp only[List.mem_cons,List.not_mem_nil,or_false] at hx'
  subst hx'
  exact ⟨oC,_,rfl,cL.mk' (uM (aT (by omega)) [tN,vN]) (Nat.le_refl _) (by unfold maxLen;omega) hx⟩
 ·exact iS (k:=1) (l:=[(0:Int)]) (fun (n:Int)=> [.int .i64 n]) h3 (fun x=>rfl) (fun x hx=>by simp at hx;subst hx;exact ⟨rfl,aV⟩) h3.lt
 ·exact iS (k:=1) (l:=[(1:Int)]) (fun (n:Int)=> [.int .i64 n]) h4 (fun x=>rfl) (fun x hx=>by simp at hx;subst hx;exact ⟨rfl,oC⟩) h4.lt
theorem dV {W:World} {b:Nat} {cs:Array Value} {t:TypeId} (hb:b=W.heap.size):ai (W.alloc (.cells cs t)) b cs t:=by
 subst hb
 exact ai.new W cs t
theorem xU (w:World):Calls Tryz.prog 23 #[] w fun r w'=>∃v0 v1 v2 v3,r= .returned (eZ v0 v1 v2 v3)/\cS w' w'.heap.size dF v0 v1 v2 v3/\Below w.heap.size w w':=by
 go_enter Tryz.func23,Tryz.ntmps23
 go_wp2_with fail
 refine bodyPost_ret (Ee (p:=0) (g:=w.heap.size) rfl Tryz.underlying33 rfl (by kernel_rfl) rfl (by exact ((((((dV rfl).alloc _).alloc _).alloc _).alloc _).alloc _).alloc _)) rfl ⟨_,_,_,_,rfl,DN (p:=w.heap.size+1) (by exact (((((dV (by simp)).alloc _).alloc _).alloc _).alloc _).alloc _) (by exact (((dV (by simp)).alloc _).alloc _).alloc _) (by exact ((dV (by simp)).alloc _).alloc _) (by exact (dV (by simp)).alloc _) (by exact dV (by simp)),bE⟩
end Go.Proofs.YtckognjamlckcaaGreatDoor
