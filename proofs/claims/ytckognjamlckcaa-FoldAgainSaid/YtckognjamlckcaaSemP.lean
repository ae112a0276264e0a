/-
  order: what is there; whether an act is ready. order: acts cloned; one of them struck out. order.Ordered The examples of layers 26 and 30, as plain data; rows in memory that read as lists. The example of layer 26. Forms of few parts; the example of layer 26. What a form says, as plain data: a wire's value, a tick.
-/
import Derived.Test.YtckognjamlckcaaNormG
import Derived.Test.YtckognjamlckcaaPlainA
import Derived.Test.YtckognjamlckcaaNormN
import Derived.Deep.RegionLaw
import Derived.Lib.SliceRun
import Derived.Test.YtckognjamlckcaaNmD
import Derived.Test.YtckognjamlckcaaLookA
namespace Go.Proofs.Ytckognjamlckcaa.Fo
open Vf
section
variable {f:Fm} {H H':List Int} {ds:List Bool}
end
end Go.Proofs.Ytckognjamlckcaa.Fo
namespace Go.Proofs.Ytckognjamlckcaa
open Go.RowKit Vf Fo
attribute [local go_sem ↓] Go.wp_at_zero Go.wp_at_succ
structure AcOk (f:Fm) (x:Ac):Prop where
 uses:0≤uses x.op
 dst:isW f x.dst
 wants:∀n∈wantsAll f x,isW f n
 clock:(clockOf f x.dst).length≤1600
end Go.Proofs.Ytckognjamlckcaa
namespace Go.Proofs.Ytckognjamlckcaa
open Go.RowKit Vf Fo
attribute [local go_sem ↓] Go.wp_at_zero Go.wp_at_succ
def acC (x:Ac):List Value:=[.int .i64 x.op,.int .i64 x.dst,.int .i64 x.a,.int .i64 x.b,.int .i64 x.c,.int .i64 x.k]
theorem acC_of (x:Ac) (cs:List Value) (h:isAc x cs):cs=acC x:=h.1
theorem acC_len (x:Ac):(acC x).length=6:=rfl
theorem acC_one (x:Ac):∀u∈acC x,u.oneCell'=true:=by
 intro u hu
 simp only[acC,List.mem_cons,List.not_mem_nil,or_false] at hu
 rcases hu with rfl|rfl|rfl|rfl|rfl|rfl<;>rfl
theorem info_ac:(Try.prog.info? 50).map (fun i=>(i.zero,i.size,i.bytes))=some (some (.agg #[.int .i64 0,.int .i64 0,.int .i64 0,.int .i64 0,.int .i64 0,.int .i64 0]),6,48):=by kernel_rfl
set_option maxRecDepth 100000 in
set_option maxHeartbeats 1000000 in
theorem clone_ac (l:List Ac) (v:Value) (w:World) (h:SlV w w.heap.size 6 isAc v l) (hl:l.length≤100000):
  Calls Try.prog 30 #[v] w (CloneIs 50 6 acC l w):=by
 obtain ⟨A,cap,rfl,h1,h2,h3⟩:=h
 have hq:=fun (w:World) (a:Option Addr) (n c:Nat)=>Lib.run_eql_slice_nil (P:=Try.prog) w 23 50 a n c 0 0 Try.underlying23
 rcases A with _|ad
 ·have h0:=h3.none
  subst h0
  go_enter Try.func30,Try.ntmps30
  go_wp2_with fail
  go_ret
  exact ⟨_,rfl,⟨by simp,.inl ⟨rfl,rfl⟩⟩,Below.refl _ _⟩
 ·have hN:=(h3.below ((Below.refl _ _).alloc (Nat.le_refl _) (.cells #[] 50))).flatA acC_of acC_len
  have HL:=Lib.hid (flat_len (size:=6) (l:=l) acC_len)
  have HO:=Lib.hid (flat_one acC_one l)
  obtain ⟨i0,hi0,hz0,hz1,hz2⟩:=info_parts info_ac
  go_enter Try.func30,Try.ntmps30
  go_wp2_with (at_builtin;refine wpList_append_own _ rfl _ _ 23 rfl w.heap.size 50 i0 (.agg #[.int .i64 0,.int .i64 0,.int .i64 0,.int .i64 0,.int .i64 0,.int .i64 0]) 6 48 Try.underlying23 hi0 hz0 hz1 hz2 rfl (by decide) _ _ _ rfl (own_empty w 50 6) ad l.length cap (l.map acC).flatten rfl ?c0 ?c1 ?c2 ?c3 ?c4 ?c5 ?_)
  case c0=>exact HL.out
  case c1=>exact hN
  case c2=>exact HO.out
  case c3=>unfold maxLen;omega
  case c4=>omega
  case c5=>simp
  intro v' w1 hown hgrow _
  have bb:=below_own ((Below.refl w.heap.size w).alloc (Nat.le_refl _) (.cells #[] 50)) (own_empty w 50 6) hgrow (by simp)
  (try simp only[Nat.zero_add,List.nil_append] at hown)
  go_wp2_with fail
  go_ret
  exact ⟨_,rfl,hown,bb⟩
theorem row_setCells {g:Nat} {t:TypeId}:∀(vs:List Value) (o:Nat) (w:World) (cur:List Value),o+vs.length≤cur.length→Row w g cur.toArray t→Row (w.setCells g o vs) g (cur.take o++vs++cur.drop (o+vs.length)).toArray t
 | [],o,_,cur,_,h=>by simpa[World.setCells] using h
 |v::r,o,w,cur,hl,h=>by
  simp only[List.length_cons] at hl
  have h1:=h.set o v
  rw[List.setIfInBounds_toArray] at h1
  have h2:=row_setCells r (o+1) _ (cur.set o v) (by simp;omega) h1
  have e:cur.take o++(v::r)++cur.drop (o+(v::r).length)=(cur.set o v).take (o+1)++r++(cur.set o v).drop (o+1+r.length):=by
   have ho:o<cur.length:=by omega
   rw[List.take_set,List.drop_set_of_lt (by omega),List.take_add_one,List.getElem?_eq_getElem ho,Option.toList_some,List.set_append_right _ _ (by simp;omega)]
   simp[Nat.min_eq_left (show o≤cur.length by omega),show o+(r.length+1)=o+1+r.length by omega]
  rw[e]
  exact h2
theorem upd_setCells {g:Nat} {a:World}:∀(vs:List Value) (o:Nat) (w:World),Upd (fun k=>k=g) a w→Upd (fun k=>k=g) a (w.setCells g o vs)
 | [],_,_,h=>h
 |v::r,o,_,h=>upd_setCells r (o+1) _ (Upd.setCell h (p:=⟨g,o,none⟩) rfl v)
def acF (l:List Ac):List Value:=(l.map acC).flatten
theorem acF_len (l:List Ac):(acF l).length=l.length*6:=by
 unfold acF
 rw[flatten_len (k:=6) (by intro cs h;obtain ⟨x,_,rfl⟩:=List.mem_map.1 h;rfl),List.length_map]
theorem acF_append (l m:List Ac):acF (l++m)=acF l++acF m:=by simp[acF]
end Go.Proofs.Ytckognjamlckcaa
namespace Go.Proofs.Ytckognjamlckcaa
open Go.RowKit Vf Fo
attribute [local go_sem ↓] Go.wp_at_zero Go.wp_at_succ
end Go.Proofs.Ytckognjamlckcaa
namespace Go.Proofs.Ytckognjamlckcaa.Fo
open Vf
end Go.Proofs.Ytckognjamlckcaa.Fo
namespace Go.Proofs.Ytckognjamlckcaa
open Go.RowKit Vf Fo
theorem flat_at {α:Type} {C:α→List Value} {size:Nat} (hC:∀x,(C x).length=size):∀(l:List α) (i j:Nat) (x:α) (u:Value),l[i]? =some x→(C x)[j]? =some u→(l.map C).flatten[i*size+j]? =some u
 | [],i,j,x,u,h,_=>by simp at h
 |y::l,0,j,x,u,h,g=>by
  simp at h;subst h
  have:=(List.getElem?_eq_some_iff.1 g).1
  rw[List.map_cons,List.flatten_cons,Nat.zero_mul,Nat.zero_add,List.getElem?_append_left this]
  exact g
 |y::l,i+1,j,x,u,h,g=>by
  simp only[List.getElem?_cons_succ] at h
  rw[List.map_cons,List.flatten_cons,List.getElem?_append_right (by rw[hC,Nat.add_mul];omega),hC,show (i+1)*size+j-size=i*size+j by rw[Nat.add_mul];omega]
  exact flat_at hC l i j x u h g
theorem row_flat {α:Type} {w:World} {B b size:Nat} {rel:α→List Value→Prop} {C:α→List Value} {l:List α} {t:TypeId} (r:Row w b (l.map C).flatten.toArray t) (hC:∀x,(C x).length=size) (hr:∀x∈l,rel x (C x)) (hb:b<B) (hl:l.length≤maxLen):SlV w B size rel (.slice (some ⟨b,0,none⟩) l.length l.length) l:=
 ⟨_,_,rfl,Nat.le_refl _,hl,fun _=>⟨b,0,rfl,hb,fun i x hi=>⟨C x,fun j u hu=>by
  refine (r.cell _).trans ?_
  rw[List.getElem?_toArray,Nat.zero_add]
  exact flat_at hC l i j x u hi hu,hr x (List.mem_of_getElem? hi)⟩⟩⟩
def wr0 (x:Wr):List Value:=[.int .i64 x.ty,.slice none 0 0]
theorem isWr0 {w:World} {B:Nat} {x:Wr} (h:x.clock=[]) (hx:Wf x.ty):isWr w B x (wr0 x):=⟨_,rfl,hx,by rw[h];exact SlV.nil⟩
theorem wf_little {n:Int} (h: -1000≤n∧n≤1000):Wf n:=wf_of (by omega)
end Go.Proofs.Ytckognjamlckcaa
namespace Go.Proofs.Ytckognjamlckcaa
open Go.RowKit Vf Fo
attribute [local go_sem ↓] Go.wp_at_zero Go.wp_at_succ
theorem FmAt.more {w:World} {B B':Nat} {f:Fm} {vw va vc vk vi vo:Value} (h:FmAt w B f vw va vc vk vi vo) (hB:B≤B'):FmAt w B' f vw va vc vk vi vo:=h.keep (fun _ _ _ hc=>hc) hB
theorem ones_row {W:World} {b B:Nat} {t:TypeId} {n:Int} (r:Row W b #[.int .i64 n] t) (hn:Wf n) (hb:b<B):SlV W B 1 isInt (.slice (some ⟨b,0,none⟩) 1 1) [n]:=
 row_flat (C:=fun x=> [Value.int .i64 x]) (l:=[n]) r (fun _=>rfl) (fun x hx=>by simp at hx;subst hx;exact ⟨rfl,hn⟩) hb (by simp[maxLen])
theorem acIn_small {x:Ac} (h:(-1000≤x.op∧x.op≤1000)∧(-1000≤x.dst∧x.dst≤1000)∧(-1000≤x.a∧x.a≤1000)∧(-1000≤x.b∧x.b≤1000)∧(-1000≤x.c∧x.c≤1000)∧(-1000≤x.k∧x.k≤1000)):AcIn x:=
 ⟨wf_little h.1,wf_little h.2.1,wf_little h.2.2.1,wf_little h.2.2.2.1,wf_little h.2.2.2.2.1,wf_little h.2.2.2.2.2⟩
theorem rowN3 (W:World) (o o':Obj) (cs:Array Value) (t:TypeId):Row (((W.alloc o).alloc o').alloc (.cells cs t)) (W.heap.size+1+1) cs t:=by
 have:=Row.new ((W.alloc o).alloc o') cs t
 rwa [World.size_alloc,World.size_alloc] at this
theorem rowN4 (W:World) (o o' o2:Obj) (cs:Array Value) (t:TypeId):Row ((((W.alloc o).alloc o').alloc o2).alloc (.cells cs t)) (W.heap.size+1+1+1) cs t:=by
 have:=Row.new (((W.alloc o).alloc o').alloc o2) cs t
 rwa [World.size_alloc,World.size_alloc,World.size_alloc] at this
end Go.Proofs.Ytckognjamlckcaa
namespace Go.Proofs.Ytckognjamlckcaa
open Go.RowKit Vf Fo
attribute [local go_sem ↓] Go.wp_at_zero Go.wp_at_succ
def fewF (f:Fm):Prop:=(∀x∈f.wires,x.clock.length≤40)∧f.wires.length≤1700∧f.acts.length≤1700∧f.cells.length≤80∧f.keeps.length≤80∧f.ins.length≤20∧f.outs.length≤20
def FewIs (P:Prop) (w:World) (e:Ending) (w':World):Prop:=(∃b,e= .returned (.bool b)∧Hid (b=true→P))∧Below w.heap.size w w'
theorem FewIs.no {P:Prop} {w w':World} (h:Below w.heap.size w w'):FewIs P w (.returned (.bool false)) w':=⟨⟨false,rfl,fun g=>by cases g⟩,h⟩
set_option maxRecDepth 100000 in
set_option maxHeartbeats 4000000 in
theorem few24_any {w:World} {B:Nat} {f:Fm} {vw va vc vk vi vo:Value} (h:FmAt w B f vw va vc vk vi vo) (hB:B≤w.heap.size):
  Calls Try.prog 8 #[fmV vw va vc vk vi vo] w (FewIs (fewF f) w):=by
 obtain ⟨Aw,cw,rfl,lw,mw,sw⟩:=h.wires
 obtain ⟨Aa,ca,rfl,_,_,_⟩:=h.acts
 obtain ⟨Acl,cc,rfl,_,_,_⟩:=h.cells
 obtain ⟨Ak,ck,rfl,_,_,_⟩:=h.keeps
 obtain ⟨Ai,ci,rfl,_,_,_⟩:=h.ins
 obtain ⟨Ao,co,rfl,_,_,_⟩:=h.outs
 have mw':cw≤9223372036854775807:=by unfold maxLen at mw;omega
 have b1:Below w.heap.size w (w.alloc (.cells #[.slice Aw f.wires.length cw,.slice Aa f.acts.length ca,.slice Acl f.cells.length cc,.slice Ak f.keeps.length ck,.slice Ai f.ins.length ci,.slice Ao f.outs.length co] 28)):=bE
 have rF1:=Row.new w #[.slice Aw f.wires.length cw,.slice Aa f.acts.length ca,.slice Acl f.cells.length cc,.slice Ak f.keeps.length ck,.slice Ai f.ins.length ci,.slice Ao f.outs.length co] 28
 have HSW:=Lib.hid (fun W (hW:Below w.heap.size w W)=>(sw.keep (w':=W) (B':=B) (fun p u hp hc=>(hW.cell (by omega)).trans hc) (Nat.le_refl _) (fun _ _ _ g=>g.keep (fun p u hp hc=>(hW.cell (by omega)).trans hc) (Nat.le_refl _))))
 clear h sw
 go_enter Try.func8,Try.ntmps8
 go_upto_region 1 with (fail)
 generalize w.alloc (.cells #[.slice Aw f.wires.length cw,.slice Aa f.acts.length ca,.slice Acl f.cells.length cc,.slice Ak f.keeps.length ck,.slice Ai f.ins.length ci,.slice Ao f.outs.length co] 28)=w1 at*
 have hs1:=b1.size
 have hGl:=rF1.lt
 have HF6:Hid (∀W,Below w1.heap.size w1 W→W.cell? ⟨w.heap.size,0,none⟩=some (.slice Aw f.wires.length cw)∧W.cell? ⟨w.heap.size,1,none⟩=some (.slice Aa f.acts.length ca)∧W.cell? ⟨w.heap.size,2,none⟩=some (.slice Acl f.cells.length cc)∧W.cell? ⟨w.heap.size,3,none⟩=some (.slice Ak f.keeps.length ck)∧W.cell? ⟨w.heap.size,4,none⟩=some (.slice Ai f.ins.length ci)∧W.cell? ⟨w.heap.size,5,none⟩=some (.slice Ao f.outs.length co)):=fun W hW=>(rF1.below hW hGl).six'
 obtain ⟨f0,f1,f2,f3,f4,f5⟩:=rF1.six'
 go_wp2_with fail
 clear f0 f1 f2 f3 f4 f5
 go_loopw[8] (fun i wr=>∃k:Nat,k≤f.wires.length∧i= .int .i64 k∧Hid (∀j,j<k→∀x,f.wires[j]? =some x→x.clock.length≤40)∧Below w1.heap.size w1 wr) (fun i _=>f.wires.length-(intOf i).toNat)
 case atStart=>exact ⟨0,Nat.zero_le _,rfl,fun j h=>absurd h (by omega),Below.refl _ _⟩
 case round=>
  obtain ⟨k,hk,rfl,HN,hbr⟩:=hrel
  have hszr:=hbr.size
  have hb:=b1.trans (hbr.mono hs1)
  by_cases hlt:k<f.wires.length
  ·obtain ⟨b,off,x,Ag,cg,rfl,hb',hx,wx,d0,d1,lg,mg,_⟩:=(HSW.out _ hb).wr hlt
   have HX:=Lib.hid hx
   clear hx
   have hb2:Below w.heap.size w (wr.alloc (.cells #[.int .i64 x.ty,.slice Ag x.clock.length cg] 44)):=bE
   have hb3:Below w1.heap.size w1 (wr.alloc (.cells #[.int .i64 x.ty,.slice Ag x.clock.length cg] 44)):=bE
   have rX:=Row.new wr #[.int .i64 x.ty,.slice Ag x.clock.length cg] 44
   go_upto_region 4 with (fail)
   generalize wr.alloc (.cells #[.int .i64 x.ty,.slice Ag x.clock.length cg] 44)=w3 at*
   have q0:=rX.cell 0
   have q1:=rX.cell 1
   simp only[List.getElem?_toArray,List.getElem?_cons_zero,List.getElem?_cons_succ] at q0 q1
   by_cases e1:40<x.clock.length
   ·have e1':decide (40<(x.clock.length:Int))=true:=by simp;omega
    go_wp2_with fail
    go_ret
    exact FewIs.no hb2
   have e1':decide (40<(x.clock.length:Int))=false:=by simp;omega
   have HN':=Lib.hid (upto_succ HN.out (fun x' hx'=>by rw[HX.out] at hx';injection hx' with hx';rw[←hx'];omega))
   go_wp2_with fail
   go_roundw
   case rel=>exact ⟨k+1,by omega,by go_num,HN',hb3⟩
   case measure=>simp[intOf];omega
  ·obtain rfl:k=f.wires.length:=by omega
   have HM:=Lib.hid (all_upto HN.out)
   obtain ⟨f0,f1,f2,f3,f4,f5⟩:=HF6.out _ hbr
   clear HN
   by_cases e0:f.wires.length≤1700
   rotate_left 1
   ·have e0':decide ((f.wires.length:Int)≤1700)=false:=by simp;omega
    go_wp2_with fail
    go_ret
    exact FewIs.no hb
   have e0':decide ((f.wires.length:Int)≤1700)=true:=by simp;omega
   by_cases e1:f.acts.length≤1700
   rotate_left 1
   ·have e1':decide ((f.acts.length:Int)≤1700)=false:=by simp;omega
    go_wp2_with fail
    go_ret
    exact FewIs.no hb
   have e1':decide ((f.acts.length:Int)≤1700)=true:=by simp;omega
   by_cases e2:f.cells.length≤80
   rotate_left 1
   ·have e2':decide ((f.cells.length:Int)≤80)=false:=by simp;omega
    go_wp2_with fail
    go_ret
    exact FewIs.no hb
   have e2':decide ((f.cells.length:Int)≤80)=true:=by simp;omega
   by_cases e3:f.keeps.length≤80
   rotate_left 1
   ·have e3':decide ((f.keeps.length:Int)≤80)=false:=by simp;omega
    go_wp2_with fail
    go_ret
    exact FewIs.no hb
   have e3':decide ((f.keeps.length:Int)≤80)=true:=by simp;omega
   by_cases e4:f.ins.length≤20
   rotate_left 1
   ·have e4':decide ((f.ins.length:Int)≤20)=false:=by simp;omega
    go_wp2_with fail
    go_ret
    exact FewIs.no hb
   have e4':decide ((f.ins.length:Int)≤20)=true:=by simp;omega
   have HP:Hid (f.outs.length≤20→fewF f):=fun h5=>⟨HM.out,e0,e1,e2,e3,e4,h5⟩
   go_wp2_with fail
   go_ret
   exact ⟨⟨_,rfl,fun g=>HP.out (by simp at g;omega)⟩,hb⟩
end Go.Proofs.Ytckognjamlckcaa
namespace Go.Proofs.Ytckognjamlckcaa.Fo
open Vf Ar
inductive Vl (f:Fm) (cs row:List Int):Int→Int→Prop where
 |inp (i:Nat) (n v:Int) (h:f.ins[i]? =some n) (hv:row.getD i 0=v):Vl f cs row n v
 |const (x:Ac) (hx:x∈f.acts) (ho:x.op≤2):Vl f cs row x.dst x.k
 |pre (x:Ac) (hx:x∈f.acts) (ho:x.op=21):Vl f cs row x.dst (getI cs x.k)
 |copy (x:Ac) (hx:x∈f.acts) (ho:x.op=3∨x.op=24) (v:Int) (h:Vl f cs row x.a v):Vl f cs row x.dst v
 |yes (x:Ac) (hx:x∈f.acts) (ho:26≤x.op) (c v:Int) (hc:Vl f cs row x.a c) (h0:c≠0) (h:Vl f cs row x.b v):Vl f cs row x.dst v
 |no (x:Ac) (hx:x∈f.acts) (ho:26≤x.op) (c v:Int) (hc:Vl f cs row x.a c) (h0:c=0) (h:Vl f cs row x.c v):Vl f cs row x.dst v
 |one (x:Ac) (hx:x∈f.acts) (ho:x.op=5∨x.op=6) (a:Int) (h:Vl f cs row x.a a):Vl f cs row x.dst (oneV x.op a)
 |two (x:Ac) (hx:x∈f.acts) (ho:7≤x.op∧x.op≤20) (a b:Int) (h1:Vl f cs row x.a a) (h2:Vl f cs row x.b b):Vl f cs row x.dst (doV x.op a b)
theorem dst_uniq {f:Fm} (hd:definedOk f) {x y:Ac} (hx:x∈f.acts) (hy:y∈f.acts) (e:x.dst=y.dst):x=y:=by
 obtain ⟨i,hi⟩:=List.getElem?_of_mem hx
 obtain ⟨j,hj⟩:=List.getElem?_of_mem hy
 rcases Nat.lt_trichotomy i j with h|h|h
 ·exact absurd e (hd.2.2.1 i j x y h hi hj)
 ·subst h;rw[hi] at hj;injection hj
 ·exact absurd e.symm (hd.2.2.1 j i y x h hj hi)
theorem vl_act {f:Fm} {cs row:List Int} (hd:definedOk f) {x:Ac} (hx:x∈f.acts) {v:Int} (h:Vl f cs row x.dst v):
  (x.op≤2∧v=x.k)∨(x.op=21∧v=getI cs x.k)∨((x.op=3∨x.op=24)∧Vl f cs row x.a v)∨(26≤x.op∧∃c,Vl f cs row x.a c∧((c≠0∧Vl f cs row x.b v)∨(c=0∧Vl f cs row x.c v)))∨
  ((x.op=5∨x.op=6)∧∃a,Vl f cs row x.a a∧v=oneV x.op a)∨((7≤x.op∧x.op≤20)∧∃a b,Vl f cs row x.a a∧Vl f cs row x.b b∧v=doV x.op a b):=by
 generalize hn:x.dst=n at h
 cases h with
 |inp i n v h hv=>exact absurd (by rw[hn];exact List.mem_of_getElem? h) (hd.2.1 x hx).2
 |const y hy ho=>obtain rfl:=dst_uniq hd hx hy hn;exact .inl ⟨ho,rfl⟩
 |pre y hy ho=>obtain rfl:=dst_uniq hd hx hy hn;exact .inr (.inl ⟨ho,rfl⟩)
 |copy y hy ho v h=>obtain rfl:=dst_uniq hd hx hy hn;exact .inr (.inr (.inl ⟨ho,h⟩))
 |yes y hy ho c v hc h0 h=>obtain rfl:=dst_uniq hd hx hy hn;exact .inr (.inr (.inr (.inl ⟨ho,c,hc,.inl ⟨h0,h⟩⟩)))
 |no y hy ho c v hc h0 h=>obtain rfl:=dst_uniq hd hx hy hn;exact .inr (.inr (.inr (.inl ⟨ho,c,hc,.inr ⟨h0,h⟩⟩)))
 |one y hy ho a h=>obtain rfl:=dst_uniq hd hx hy hn;exact .inr (.inr (.inr (.inr (.inl ⟨ho,a,h,rfl⟩))))
 |two y hy ho a b h1 h2=>obtain rfl:=dst_uniq hd hx hy hn;exact .inr (.inr (.inr (.inr (.inr ⟨ho,a,b,h1,h2,rfl⟩))))
theorem Vl.uniq {f:Fm} {cs row:List Int} (hd:definedOk f) {n v:Int} (h:Vl f cs row n v):∀{v':Int},Vl f cs row n v'→v=v':=by
 induction h with
 |inp i n v h hv=>
  intro v' h'
  generalize hn:n=m at h'
  cases h' with
  |inp j m v' g gv=>
   subst hn
   rcases Nat.lt_trichotomy i j with q|q|q
   ·exact absurd rfl (hd.1 i j n n q h g)
   ·subst q;rw[←hv,←gv]
   ·exact absurd rfl (hd.1 j i n n q g h)
  |const y hy _|pre y hy _|copy y hy _ _ _|yes y hy _ _ _ _ _ _|no y hy _ _ _ _ _ _|one y hy _ _ _|two y hy _ _ _ _ _=>exact absurd (by rw[←hn];exact List.mem_of_getElem? h) (hd.2.1 y hy).2
 |const x hx ho=>
  intro v' h'
  rcases vl_act hd hx h' with ⟨_,g⟩|⟨g,_⟩|⟨g,_⟩|⟨g,_⟩|⟨g,_⟩|⟨g,_⟩
  ·exact g.symm
  all_goals omega
 |pre x hx ho=>
  intro v' h'
  rcases vl_act hd hx h' with ⟨g,_⟩|⟨_,g⟩|⟨g,_⟩|⟨g,_⟩|⟨g,_⟩|⟨g,_⟩
  ·omega
  ·exact g.symm
  all_goals omega
 |copy x hx ho v h ih=>
  intro v' h'
  rcases vl_act hd hx h' with ⟨g,_⟩|⟨g,_⟩|⟨_,g⟩|⟨g,_⟩|⟨g,_⟩|⟨g,_⟩
  ·omega
  ·omega
  ·exact ih g
  all_goals omega
 |yes x hx ho c v hc h0 h ihc ih=>
  intro v' h'
  rcases vl_act hd hx h' with ⟨g,_⟩|⟨g,_⟩|⟨g,_⟩|⟨_,c',gc,⟨_,g⟩|⟨g0,_⟩⟩|⟨g,_⟩|⟨g,_⟩
  ·omega
  ·omega
  ·omega
  ·exact ih g
  ·exact absurd ((ihc gc).trans g0) h0
  all_goals omega
 |no x hx ho c v hc h0 h ihc ih=>
  intro v' h'
  rcases vl_act hd hx h' with ⟨g,_⟩|⟨g,_⟩|⟨g,_⟩|⟨_,c',gc,⟨g0,_⟩|⟨_,g⟩⟩|⟨g,_⟩|⟨g,_⟩
  ·omega
  ·omega
  ·omega
  ·exact absurd ((ihc gc).symm.trans h0) g0
  ·exact ih g
  all_goals omega
 |one x hx ho a h ih=>
  intro v' h'
  rcases vl_act hd hx h' with ⟨g,_⟩|⟨g,_⟩|⟨g,_⟩|⟨g,_⟩|⟨_,a',ga,g⟩|⟨g,_⟩
  ·omega
  ·omega
  ·omega
  ·omega
  ·rw[g,ih ga]
  ·omega
 |two x hx ho a b h1 h2 ih1 ih2=>
  intro v' h'
  rcases vl_act hd hx h' with ⟨g,_⟩|⟨g,_⟩|⟨g,_⟩|⟨g,_⟩|⟨g,_⟩|⟨_,a',b',ga,gb,g⟩
  ·omega
  ·omega
  ·omega
  ·omega
  ·omega
  ·rw[g,ih1 ga,ih2 gb]
open Classical in
noncomputable def valF (f:Fm) (cs row:List Int) (n:Int):Int:=if h:∃v,Vl f cs row n v then h.choose else 0
theorem valF_of {f:Fm} {cs row:List Int} (hd:definedOk f) {n v:Int} (h:Vl f cs row n v):valF f cs row n=v:=by
 have hx:∃v,Vl f cs row n v:=⟨v,h⟩
 unfold valF
 rw[dif_pos hx]
 exact hx.choose_spec.uniq hd h
noncomputable def thF (f:Fm) (cs row:List Int):List Gd→Bool
 | []=>true
 |g::l=>if (decide (valF f cs row g.wire≠0))=g.no then false else thF f cs row l
noncomputable def nextF (f:Fm) (cs row:List Int) (l:List (Int × Int)) (ns:List Int):List Int:=
 l.foldl (fun ns k=>if thF f cs row (clockOf f k.2)=true then ns.set k.1.toNat (valF f cs row k.2) else ns) ns
noncomputable def outF (f:Fm) (cs row:List Int):List Int:=f.outs.map (valF f cs row)
noncomputable def rowsF (f:Fm):List Int→List (List Int)→List (List Int)
 |_,[]=> []
 |cs,row::l=>outF f cs row::rowsF f (nextF f cs row f.keeps cs) l
theorem wants_a {x:Ac} (h:1≤uses x.op):x.a∈wants x:=by
 unfold wants
 rw[if_neg (by omega)]
 split
 ·simp
 split
 ·simp
 ·simp
theorem wants_b {x:Ac} (h:2≤uses x.op):x.b∈wants x:=by
 unfold wants
 rw[if_neg (by omega),if_neg (by omega)]
 split
 ·simp
 ·simp
theorem wants_c {x:Ac} (h:uses x.op=3):x.c∈wants x:=by
 unfold wants
 rw[if_neg (by omega),if_neg (by omega),if_neg (by omega)]
 simp
theorem uses1 {op:Int} (h:op=3∨op=24∨op=5∨op=6):uses op=1:=by unfold uses;rw[if_neg (by omega),if_pos (by omega)]
theorem uses2 {op:Int} (h:7≤op∧op≤20):uses op=2:=by unfold uses;rw[if_neg (by omega),if_neg (by omega),if_pos h]
theorem uses3 {op:Int} (h:op=26∨op=27):uses op=3:=by unfold uses;rw[if_neg (by omega),if_neg (by omega),if_neg (by omega),if_pos h]
theorem vl_total {f:Fm} (hf:formOk f) (cs row:List Int) {n:Int} (h:Done f n):∃v,Vl f cs row n v:=by
 induction h with
 |ins n h=>
  obtain ⟨i,hi⟩:=List.getElem?_of_mem h
  exact ⟨_,.inp i n _ hi rfl⟩
 |act x hx _ _ ih _=>
  have hu:=(hf.2.2.2.2.2.1 x hx).2.2.2.1
  rcases uses_cases hu with h|h|h|h|h|h|h|h|h
  ·exact ⟨_,.const x hx (by omega)⟩
  ·exact ⟨_,.const x hx (by omega)⟩
  ·exact ⟨_,.pre x hx h⟩
  ·obtain ⟨v,hv⟩:=ih x.a (wants_a (by rw[uses1 (by omega)];omega))
   exact ⟨_,.copy x hx (.inl h) v hv⟩
  ·obtain ⟨v,hv⟩:=ih x.a (wants_a (by rw[uses1 (by omega)];omega))
   exact ⟨_,.copy x hx (.inr h) v hv⟩
  ·obtain ⟨a,ha⟩:=ih x.a (wants_a (by rw[uses3 (by omega)];omega))
   obtain ⟨b,hb⟩:=ih x.b (wants_b (by rw[uses3 (by omega)];omega))
   obtain ⟨c,hc⟩:=ih x.c (wants_c (uses3 (by omega)))
   by_cases h0:a=0
   ·exact ⟨_,.no x hx (by omega) a c ha h0 hc⟩
   ·exact ⟨_,.yes x hx (by omega) a b ha h0 hb⟩
  ·obtain ⟨a,ha⟩:=ih x.a (wants_a (by rw[uses3 (by omega)];omega))
   obtain ⟨b,hb⟩:=ih x.b (wants_b (by rw[uses3 (by omega)];omega))
   obtain ⟨c,hc⟩:=ih x.c (wants_c (uses3 (by omega)))
   by_cases h0:a=0
   ·exact ⟨_,.no x hx (by omega) a c ha h0 hc⟩
   ·exact ⟨_,.yes x hx (by omega) a b ha h0 hb⟩
  ·obtain ⟨a,ha⟩:=ih x.a (wants_a (by rw[uses1 (by omega)];omega))
   exact ⟨_,.one x hx (by omega) a ha⟩
  ·obtain ⟨a,ha⟩:=ih x.a (wants_a (by rw[uses2 h];omega))
   obtain ⟨b,hb⟩:=ih x.b (wants_b (by rw[uses2 h];omega))
   exact ⟨_,.two x hx h a b ha hb⟩
theorem valF_is {f:Fm} (hf:formOk f) (cs row:List Int) {n:Int} (h:Done f n):Vl f cs row n (valF f cs row n):=by
 obtain ⟨v,hv⟩:=vl_total hf cs row h
 rw[valF_of hf.2.2.2.2.1 hv]
 exact hv
section
variable {f:Fm} (hf:formOk f) (cs row:List Int)
include hf
theorem val_inp {i:Nat} {n:Int} (h:f.ins[i]? =some n):valF f cs row n=row.getD i 0:=valF_of hf.2.2.2.2.1 (.inp i n _ h rfl)
theorem val_const {x:Ac} (hx:x∈f.acts) (ho:x.op≤2):valF f cs row x.dst=x.k:=valF_of hf.2.2.2.2.1 (.const x hx ho)
theorem val_pre {x:Ac} (hx:x∈f.acts) (ho:x.op=21):valF f cs row x.dst=getI cs x.k:=valF_of hf.2.2.2.2.1 (.pre x hx ho)
theorem val_copy {x:Ac} (hx:x∈f.acts) (ho:x.op=3∨x.op=24) (h:Done f x.a):valF f cs row x.dst=valF f cs row x.a:=valF_of hf.2.2.2.2.1 (.copy x hx ho _ (valF_is hf cs row h))
theorem val_yes {x:Ac} (hx:x∈f.acts) (ho:26≤x.op) (ha:Done f x.a) (h0:valF f cs row x.a≠0) (h:Done f x.b):valF f cs row x.dst=valF f cs row x.b:=valF_of hf.2.2.2.2.1 (.yes x hx ho _ _ (valF_is hf cs row ha) h0 (valF_is hf cs row h))
theorem val_no {x:Ac} (hx:x∈f.acts) (ho:26≤x.op) (ha:Done f x.a) (h0:valF f cs row x.a=0) (h:Done f x.c):valF f cs row x.dst=valF f cs row x.c:=valF_of hf.2.2.2.2.1 (.no x hx ho _ _ (valF_is hf cs row ha) h0 (valF_is hf cs row h))
theorem val_one {x:Ac} (hx:x∈f.acts) (ho:x.op=5∨x.op=6) (ha:Done f x.a):valF f cs row x.dst=oneV x.op (valF f cs row x.a):=valF_of hf.2.2.2.2.1 (.one x hx ho _ (valF_is hf cs row ha))
theorem val_two {x:Ac} (hx:x∈f.acts) (ho:7≤x.op∧x.op≤20) (ha:Done f x.a) (hb:Done f x.b):valF f cs row x.dst=doV x.op (valF f cs row x.a) (valF f cs row x.b):=valF_of hf.2.2.2.2.1 (.two x hx ho _ _ (valF_is hf cs row ha) (valF_is hf cs row hb))
end
end Go.Proofs.Ytckognjamlckcaa.Fo
