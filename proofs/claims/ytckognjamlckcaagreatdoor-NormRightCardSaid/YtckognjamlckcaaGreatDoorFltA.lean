/-
  norm, as plain data: what is made of an expression, step by step. flat's looker: what is plain of an expression.
-/
import Derived.Test.YtckognjamlckcaaGreatDoorFltQ
import Derived.Test.YtckognjamlckcaaGreatDoorLookA
import Derived.StillTailTactics
namespace Go.Proofs.YtckognjamlckcaaGreatDoor.Fo
open Vf
structure Mk where
 wires:List Wr
 acts:List Ac
 cells:List (Int × Int)
 keeps:List (Int × Int)
 first:List (List Gd × Int)
 spent:Bool
namespace Mk
def wire (s:Mk) (ty:Int) (c:List Gd):Int × Mk:=if 1600≤s.wires.length then (0,{s with spent:=true}) else (s.wires.length,{s with wires:=s.wires++ [⟨ty,c⟩]})
def act (s:Mk) (a:Ac):Mk:={s with acts:=s.acts++ [a]}
def cell (s:Mk) (ty k:Int):Int × Mk:=if 60≤s.cells.length then (0,{s with spent:=true}) else (s.cells.length,{s with cells:=s.cells++ [(ty,k)]})
def keep (s:Mk) (c n:Int):Mk:={s with keeps:=s.keeps++ [(c,n)]}
def put (s:Mk) (ty:Int) (c:List Gd) (a:Ac):Int × Mk:=((s.wire ty c).1,(s.wire ty c).2.act {a with dst:=(s.wire ty c).1})
def ty (s:Mk) (n:Int):Int:=(s.wires.getD n.toNat ⟨0,[]⟩).ty
noncomputable def look (s:Mk) (c:List Gd):Option Int:=(s.first.find? (fun p=>cB (p.1=c))).map (·.2)
noncomputable def begins (s:Mk) (c:List Gd):Int × Mk:=
 match s.look c with
 |some w=>(w,s)
 |none=>
  let k:=s.cell 2 1
  let w:=k.2.put 2 c ⟨21,0,0,0,0,k.1⟩
  let t:=w.2.put 2 c ⟨2,0,0,0,0,0⟩
  (w.1,{t.2.keep k.1 t.1 with first:=(c,w.1)::t.2.first})
def was (s:Mk) (x k:Int) (c:List Gd):Int × Mk:=((s.cell (s.ty x) k).2.keep (s.cell (s.ty x) k).1 x).put (s.ty x) c ⟨21,0,0,0,0,(s.cell (s.ty x) k).1⟩
def choose (s:Mk) (a b d:Int) (c:List Gd):Int × Mk:=s.put (s.ty b) c ⟨27,0,a,b,d,0⟩
end Mk
def kindOp (op:Int):Int:=if op=6∨12≤op then 2 else 1
noncomputable def norm1 (e:Ex) (ps:List (List Gd→Mk→Int × Mk)) (c:List Gd) (s:Mk):Int × Mk:=
 let P:=fun (i:Nat)=>ps.getD i (fun _ s=>(0,s))
 if s.spent=true then (0,s)
 else if e.op=3 then (e.n,s)
 else if e.op=1∨e.op=2 then s.put e.op c ⟨e.op,0,0,0,0,e.n⟩
 else if e.op=21 then (P 0 c s).2.was (P 0 c s).1 0 c
 else if e.op=22 then
  let a:=P 0 c s
  let b:=P 1 c a.2
  let f:=b.2.begins c
  let y:=f.2.was b.1 0 c
  y.2.choose f.1 a.1 y.1 c
 else if e.op=23 then
  let a:=P 0 c s
  let b:=P 1 c a.2
  let f:=b.2.begins c
  f.2.choose f.1 a.1 b.1 c
 else if e.op=27 then
  let a:=P 0 c s
  let b:=P 1 c a.2
  let d:=P 2 c b.2
  d.2.choose a.1 b.1 d.1 c
 else if e.op=24∨e.op=25 then
  let a:=P 0 c.dropLast s
  a.2.put (a.2.ty a.1) c ⟨24,0,a.1,0,0,0⟩
 else if e.op=26 then
  let a:=P 0 (c++ [⟨e.n,false⟩]) s
  let b:=P 1 (c++ [⟨e.n,true⟩]) a.2
  b.2.put (b.2.ty a.1) c ⟨26,0,e.n,a.1,b.1,0⟩
 else if e.args.length=2 then
  let a:=P 0 c s
  let b:=P 1 c a.2
  b.2.put (kindOp e.op) c ⟨e.op,0,a.1,b.1,0,0⟩
 else (P 0 c s).2.put (kindOp e.op) c ⟨e.op,0,(P 0 c s).1,0,0,0⟩
noncomputable def normE:Ex→List Gd→Mk→Int × Mk:=Ex.para norm1
theorem normE_eq (e:Ex) (c:List Gd) (s:Mk):normE e c s=norm1 e (e.args.map normE) c s:=by unfold normE;rw[Ex.para_eq]
noncomputable def normD (f:Fl) (s:Mk) (d:Int × Ex):Mk:=(normE d.2 (clockOf f.fm d.1) s).2.act ⟨3,d.1,(normE d.2 (clockOf f.fm d.1) s).1,0,0,0⟩
def startN (f:Fl):Mk:=⟨f.wires,[],[],[],[],false⟩
noncomputable def normTo (f:Fl) (k:Nat):Mk:=(f.defs.take k).foldl (normD f) (startN f)
noncomputable def normS (f:Fl):Mk:=f.defs.foldl (normD f) (startN f)
def formN (f:Fl) (s:Mk):Fm:=⟨s.wires,s.acts,s.cells,s.keeps,f.ins,f.outs⟩
theorem normTo_succ {f:Fl} {k:Nat} {d:Int × Ex} (h:f.defs[k]? =some d):normTo f (k+1)=normD f (normTo f k) d:=by
 unfold normTo
 rw[take_snoc' h,List.foldl_append];rfl
theorem normTo_all (f:Fl):normTo f f.defs.length=normS f:=by
 unfold normTo normS
 rw[List.take_length]
structure Gs (s:Mk):Prop where
 one:1≤s.wires.length
 fst:∀p∈s.first,0≤p.2∧p.2<s.wires.length
structure Sp (k:Nat) (s:Mk) (r:Int × Mk):Prop where
 lo:0≤r.1
 hi:r.1<r.2.wires.length
 up:s.wires.length≤r.2.wires.length
 few:r.2.acts.length+r.2.keeps.length≤s.acts.length+s.keeps.length+k
 fst:∀p∈r.2.first,0≤p.2∧p.2<r.2.wires.length
section
variable {s:Mk} {r r':Int × Mk} {j k:Nat} {ty:Int} {c:List Gd} {a:Ac}
theorem Sp.gs (h:Sp k s r):Gs r.2:=⟨by have:=h.lo;have:=h.hi;omega,h.fst⟩
theorem Sp.more (h:Sp k s r) (hj:k≤j):Sp j s r:=⟨h.lo,h.hi,h.up,Nat.le_trans h.few (by omega),h.fst⟩
theorem Sp.trans (h:Sp k s r) (h':Sp j r.2 r'):Sp (k+j) s r':=⟨h'.lo,h'.hi,Nat.le_trans h.up h'.up,by have:=h.few;have:=h'.few;omega,h'.fst⟩
theorem wire_sp (g:Gs s):Sp 0 s (s.wire ty c):=by
 have:=g.one
 unfold Mk.wire
 split
 ·exact ⟨Int.le_refl _,by dsimp only;omega,Nat.le_refl _,Nat.le_refl _,g.fst⟩
 ·refine ⟨by dsimp only;omega,by simp;omega,by simp,Nat.le_refl _,fun p hp=>?_⟩
  have:=g.fst p hp
  simp
  omega
theorem put_sp (g:Gs s):Sp 1 s (s.put ty c a):=by
 have h:=wire_sp (ty:=ty) (c:=c) g
 exact ⟨h.lo,h.hi,h.up,by have:=h.few;simp[Mk.put,Mk.act];omega,h.fst⟩
theorem cell_eqs (s:Mk) (t k:Int):(s.cell t k).2.wires=s.wires∧(s.cell t k).2.acts=s.acts∧(s.cell t k).2.keeps=s.keeps∧(s.cell t k).2.first=s.first∧0≤(s.cell t k).1∧(s.cell t k).1≤60:=by
 unfold Mk.cell
 split
 ·simp
 ·refine ⟨rfl,rfl,rfl,rfl,?_,?_⟩<;>dsimp only<;>omega
theorem was_sp (g:Gs s) {x n:Int}:Sp 2 s (s.was x n c):=by
 obtain ⟨h1,h2,h3,h4,_⟩:=cell_eqs s (s.ty x) n
 have g':Gs ((s.cell (s.ty x) n).2.keep (s.cell (s.ty x) n).1 x):=⟨by simp only[Mk.keep,h1];exact g.one,by simp only[Mk.keep,h1,h4];exact g.fst⟩
 have h:=put_sp (ty:=s.ty x) (c:=c) (a:=⟨21,0,0,0,0,(s.cell (s.ty x) n).1⟩) g'
 have e1:((s.cell (s.ty x) n).2.keep (s.cell (s.ty x) n).1 x).wires=s.wires:=h1
 have e2:((s.cell (s.ty x) n).2.keep (s.cell (s.ty x) n).1 x).acts.length+((s.cell (s.ty x) n).2.keep (s.cell (s.ty x) n).1 x).keeps.length=s.acts.length+s.keeps.length+1:=by
  simp only[Mk.keep,h2,h3,List.length_append,List.length_singleton];omega
 have hu:=h.up
 have hf:=h.few
 rw[e1] at hu
 rw[e2] at hf
 exact ⟨h.lo,h.hi,hu,by unfold Mk.was;omega,h.fst⟩
theorem choose_sp (g:Gs s) {x y z:Int}:Sp 1 s (s.choose x y z c):=put_sp g
theorem begins_sp (g:Gs s):Sp 3 s (s.begins c):=by
 unfold Mk.begins
 split
 ·rename_i w hw
  obtain ⟨p,hp,rfl⟩:=Option.map_eq_some_iff.1 hw
  have:=g.fst p (List.mem_of_find?_eq_some hp)
  exact ⟨this.1,this.2,Nat.le_refl _,by dsimp only;omega,g.fst⟩
 ·obtain ⟨h1,h2,h3,h4,_⟩:=cell_eqs s 2 1
  have g':Gs (s.cell 2 1).2:=⟨by rw[h1];exact g.one,by rw[h1,h4];exact g.fst⟩
  have w:=put_sp (ty:=2) (c:=c) (a:=⟨21,0,0,0,0,(s.cell 2 1).1⟩) g'
  have t:=put_sp (ty:=2) (c:=c) (a:=⟨2,0,0,0,0,0⟩) w.gs
  have hf:=w.few
  have hf2:=t.few
  have hu:=w.up
  rw[h1] at hu
  rw[h2,h3] at hf
  refine ⟨w.lo,?_,?_,?_,?_⟩
  ·have:=t.up;have:=w.hi;simp only[Mk.keep];omega
  ·have:=t.up;simp only[Mk.keep];omega
  ·simp only[Mk.keep,List.length_append,List.length_singleton];omega
  ·intro p hp
   simp only[Mk.keep] at hp⊢
   rcases List.mem_cons.1 hp with rfl|hp
   ·have:=t.up;have:=w.hi;exact ⟨w.lo,by dsimp only;omega⟩
   ·exact t.fst p hp
end
section
variable {e x:Ex} {c:List Gd} {s:Mk}
theorem part_is {i:Nat} (h:e.args[i]? =some x):(e.args.map normE).getD i (fun _ s=>(0,s))=normE x:=by
 rw[List.getD_eq_getElem?_getD,List.getElem?_map,h];rfl
theorem exSize_sum (e:Ex):exSize e=1+(e.args.map exSize).sum:=by
 unfold exSize
 rw[exList_eq,List.length_cons,List.length_flatten,List.map_map]
 simp only[Function.comp_def]
 omega
theorem len_two {α:Type}:∀{l:List α},l.length=2→∃x y,l=[x,y]
 | [x,y],_=>⟨x,y,rfl⟩
theorem len_three {α:Type}:∀{l:List α},l.length=3→∃x y z,l=[x,y,z]
 | [x,y,z],_=>⟨x,y,z,rfl⟩
theorem args_one {f:Fl} (h:plain1 f e) (ho:e.op=5∨e.op=6∨e.op=21∨e.op=24∨e.op=25):∃x,e.args=[x]:=by
 have hl:=plain1_parts h
 unfold partsZ at hl
 rw[if_neg (by omega),if_neg (by omega),if_pos ho] at hl
 exact List.length_eq_one_iff.1 (by omega)
theorem args_two {f:Fl} (h:plain1 f e) (ho:7≤e.op∧e.op≤20∨e.op=22∨e.op=23∨e.op=26):∃x y,e.args=[x,y]:=by
 have hl:=plain1_parts h
 unfold partsZ at hl
 rw[if_neg (by omega),if_neg (by omega),if_neg (by omega),if_pos ho] at hl
 exact len_two (by omega)
theorem args_three {f:Fl} (h:plain1 f e) (ho:e.op=27):∃x y z,e.args=[x,y,z]:=by
 have hl:=plain1_parts h
 unfold partsZ at hl
 rw[if_neg (by omega),if_neg (by omega),if_neg (by omega),if_neg (by omega),if_pos ho] at hl
 exact len_three (by omega)
theorem normE_sp {f:Fl} (e:Ex):plainE f e→∀(c:List Gd) (s:Mk),Gs s→f.wires.length≤s.wires.length→Sp (8*exSize e) s (normE e c s):=by
 induction e using Ex.ind with
 |h e ih=>
  intro hp c s g hw
  obtain ⟨hp1,hp2⟩:=plainE_iff.1 hp
  have hz:=exSize_sum e
  have ih':∀x∈e.args,∀(c:List Gd) (s:Mk),Gs s→f.wires.length≤s.wires.length→Sp (8*exSize x) s (normE x c s):=fun x hx=>ih x hx (hp2 x hx)
  have g1:=g.one
  rw[normE_eq,norm1]
  dsimp only
  by_cases hs:s.spent=true
  ·rw[if_pos hs]
   exact ⟨Int.le_refl _,by dsimp only;omega,Nat.le_refl _,by dsimp only;omega,g.fst⟩
  rw[if_neg hs]
  by_cases h3:e.op=3
  ·rw[if_pos h3]
   have:=plain1_w hp1 (by unfold namedB;rw[h3];rfl)
   exact ⟨this.1,by have h9:e.n<f.wires.length:=this.2;dsimp only;omega,Nat.le_refl _,by dsimp only;omega,g.fst⟩
  rw[if_neg h3]
  by_cases h12:e.op=1∨e.op=2
  ·rw[if_pos h12]
   exact (put_sp g).more (by omega)
  rw[if_neg h12]
  have hops:=plain1_ops hp1
  by_cases h21:e.op=21
  ·rw[if_pos h21]
   obtain ⟨x,hx⟩:=args_one hp1 (by omega)
   rw[part_is (x:=x) (i:=0) (by rw[hx];rfl)]
   rw[hx] at hz ih'
   simp at hz
   have h:=ih' x (by simp) c s g hw
   exact (h.trans (was_sp h.gs)).more (by omega)
  rw[if_neg h21]
  by_cases h22:e.op=22
  ·rw[if_pos h22]
   obtain ⟨x,y,hx⟩:=args_two hp1 (by omega)
   rw[part_is (x:=x) (i:=0) (by rw[hx];rfl),part_is (x:=y) (i:=1) (by rw[hx];rfl)]
   rw[hx] at hz ih'
   simp at hz
   have h:=ih' x (by simp) c s g hw
   have h':=ih' y (by simp) c _ h.gs (Nat.le_trans hw h.up)
   have hb:=begins_sp (c:=c) h'.gs
   have hy:=was_sp (c:=c) (x:=(normE y c (normE x c s).2).1) (n:=0) hb.gs
   exact ((((h.trans h').trans hb).trans hy).trans (choose_sp hy.gs)).more (by omega)
  rw[if_neg h22]
  by_cases h23:e.op=23
  ·rw[if_pos h23]
   obtain ⟨x,y,hx⟩:=args_two hp1 (by omega)
   rw[part_is (x:=x) (i:=0) (by rw[hx];rfl),part_is (x:=y) (i:=1) (by rw[hx];rfl)]
   rw[hx] at hz ih'
   simp at hz
   have h:=ih' x (by simp) c s g hw
   have h':=ih' y (by simp) c _ h.gs (Nat.le_trans hw h.up)
   have hb:=begins_sp (c:=c) h'.gs
   exact (((h.trans h').trans hb).trans (choose_sp hb.gs)).more (by omega)
  rw[if_neg h23]
  by_cases h27:e.op=27
  ·rw[if_pos h27]
   obtain ⟨x,y,z,hx⟩:=args_three hp1 h27
   rw[part_is (x:=x) (i:=0) (by rw[hx];rfl),part_is (x:=y) (i:=1) (by rw[hx];rfl),part_is (x:=z) (i:=2) (by rw[hx];rfl)]
   rw[hx] at hz ih'
   simp at hz
   have h:=ih' x (by simp) c s g hw
   have h':=ih' y (by simp) c _ h.gs (Nat.le_trans hw h.up)
   have h2:=ih' z (by simp) c _ h'.gs (Nat.le_trans (Nat.le_trans hw h.up) h'.up)
   exact (((h.trans h').trans h2).trans (choose_sp h2.gs)).more (by omega)
  rw[if_neg h27]
  by_cases h24:e.op=24∨e.op=25
  ·rw[if_pos h24]
   obtain ⟨x,hx⟩:=args_one hp1 (by omega)
   rw[part_is (x:=x) (i:=0) (by rw[hx];rfl)]
   rw[hx] at hz ih'
   simp at hz
   have h:=ih' x (by simp) c.dropLast s g hw
   exact (h.trans (put_sp h.gs)).more (by omega)
  rw[if_neg h24]
  by_cases h26:e.op=26
  ·rw[if_pos h26]
   obtain ⟨x,y,hx⟩:=args_two hp1 (by omega)
   rw[part_is (x:=x) (i:=0) (by rw[hx];rfl),part_is (x:=y) (i:=1) (by rw[hx];rfl)]
   rw[hx] at hz ih'
   simp at hz
   have h:=ih' x (by simp) (c++ [⟨e.n,false⟩]) s g hw
   have h':=ih' y (by simp) (c++ [⟨e.n,true⟩]) _ h.gs (Nat.le_trans hw h.up)
   exact ((h.trans h').trans (put_sp h'.gs)).more (by omega)
  rw[if_neg h26]
  by_cases h2:e.args.length=2
  ·rw[if_pos h2]
   obtain ⟨x,y,hx⟩:=len_two h2
   rw[part_is (x:=x) (i:=0) (by rw[hx];rfl),part_is (x:=y) (i:=1) (by rw[hx];rfl)]
   rw[hx] at hz ih'
   simp at hz
   have h:=ih' x (by simp) c s g hw
   have h':=ih' y (by simp) c _ h.gs (Nat.le_trans hw h.up)
   exact ((h.trans h').trans (put_sp h'.gs)).more (by omega)
  ·rw[if_neg h2]
   obtain ⟨x,hx⟩:∃x,e.args=[x]:=by
    by_cases h5:e.op=5∨e.op=6
    ·exact args_one hp1 (by omega)
    ·obtain ⟨x,y,hx⟩:=args_two hp1 (by omega)
     rw[hx] at h2
     exact absurd rfl h2
   rw[part_is (x:=x) (i:=0) (by rw[hx];rfl)]
   rw[hx] at hz ih'
   simp at hz
   have h:=ih' x (by simp) c s g hw
   exact (h.trans (put_sp h.gs)).more (by omega)
end
theorem normTo_gs {f:Fl} (hp:∀d∈f.defs,plainE f d.2) (h1:1≤f.wires.length):∀k,k≤f.defs.length→Gs (normTo f k)∧f.wires.length≤(normTo f k).wires.length∧(normTo f k).acts.length+(normTo f k).keeps.length≤((f.defs.take k).map (fun d=>8*exSize d.2+1)).sum:=by
 intro k
 induction k with
 |zero=>exact fun _=>⟨⟨h1,fun p hp=>by cases hp⟩,Nat.le_refl _,by simp[normTo,startN]⟩
 |succ k ih=>
  intro hk
  obtain ⟨g,hw,hf⟩:=ih (by omega)
  obtain ⟨d,hd⟩:∃d,f.defs[k]? =some d:=⟨_,List.getElem?_eq_getElem (by omega)⟩
  rw[normTo_succ hd,take_snoc' hd,List.map_append,List.sum_append]
  have h:=normE_sp (f:=f) d.2 (hp d (List.mem_of_getElem? hd)) (clockOf f.fm d.1) _ g hw
  have hs:=h.few
  refine ⟨⟨h.gs.one,h.fst⟩,Nat.le_trans hw h.up,?_⟩
  simp only[normD,Mk.act,List.length_append,List.length_singleton,List.map_cons,List.map_nil,List.sum_singleton]
  omega
theorem sum_take {α:Type} (g:α→Nat):∀(l:List α) (k:Nat) x,l[k]? =some x→((l.take k).map g).sum+g x≤(l.map g).sum
 | [],k,x,h=>by simp at h
 |y::l,0,x,h=>by simp at h;subst h;simp
 |y::l,k+1,x,h=>by
  have:=sum_take g l k x (by simpa using h)
  simp only[List.take_succ_cons,List.map_cons,List.sum_cons]
  omega
end Go.Proofs.YtckognjamlckcaaGreatDoor.Fo
namespace Go.Proofs.YtckognjamlckcaaGreatDoor
open Go.RowKit Vf Fo
attribute [local go_sem ↓] Go.wp_at_zero Go.wp_at_succ
set_option maxRecDepth 100000 in
set_option maxHeartbeats 4000000 in
theorem fplain_any {w:World} {B D:Nat} {f:Fl} {vw vd vi vo vb:Value} (h:FkAt w B D f vw vd vi vo vb) (e:Ex) (A:Option Addr) (cap:Nat):
  Calls Tryz.prog 98 #[.pointer (some ⟨D,0,none⟩),exV e A cap] w fun r w'=>r= .returned (.bool (cB (plain1 f e)))∧Below w.heap.size w w':=by
 have b1:Below w.heap.size w (w.alloc (.cells #[.int .i64 e.op,.string e.name,.int .i64 e.n,.slice A e.args.length cap,.int .i64 e.line,.int .i64 e.col] 75)):=bE
 have rX:=Row.new w #[.int .i64 e.op,.string e.name,.int .i64 e.n,.slice A e.args.length cap,.int .i64 e.line,.int .i64 e.col] 75
 have HIS:=Lib.hid (fun W (hW:Below w.heap.size w W)=>fis_any (h.below hW) e.n)
 have HNM:=Lib.hid (fnamed_any e.op)
 have HPT:=Lib.hid (parts_any e.op)
 have HD:Hid (plain1 f e↔e.name.toList.isEmpty=true∧e.op≠4∧partsZ e.op=e.args.length∧(if namedB e.op=true then isW f.fm e.n else if e.op=1 then 0≤e.n else if e.op=2 then e.n=0∨e.n=1 else e.n=0)):=Iff.rfl
 clear h
 go_enter Tryz.func98,Tryz.ntmps98
 go_upto_region 1 with (fail)
 generalize w.alloc (.cells #[.int .i64 e.op,.string e.name,.int .i64 e.n,.slice A e.args.length cap,.int .i64 e.line,.int .i64 e.col] 75)=w1 at*
 have hXl:=rX.lt
 have hs1:=b1.size
 have HX:Hid (∀W,Below w1.heap.size w1 W→W.cell? ⟨w.heap.size,0,none⟩=some (.int .i64 e.op)∧W.cell? ⟨w.heap.size,1,none⟩=some (.string e.name)∧W.cell? ⟨w.heap.size,2,none⟩=some (.int .i64 e.n)∧W.cell? ⟨w.heap.size,3,none⟩=some (.slice A e.args.length cap)∧W.cell? ⟨w.heap.size,4,none⟩=some (.int .i64 e.line)∧W.cell? ⟨w.heap.size,5,none⟩=some (.int .i64 e.col)):=fun W hW=>(rX.below hW hXl).six'
 have HX3:Hid (∀W,Below w1.heap.size w1 W→W.cell? ⟨w.heap.size,0,none⟩=some (.int .i64 e.op)∧W.cell? ⟨w.heap.size,1,none⟩=some (.string e.name)∧W.cell? ⟨w.heap.size,3,none⟩=some (.slice A e.args.length cap)):=fun W hW=>⟨(HX.out W hW).1,(HX.out W hW).2.1,(HX.out W hW).2.2.2.1⟩
 obtain ⟨c0,c1,c2,c3,c4,c5⟩:=rX.six'
 generalize hn:e.name.toList.isEmpty=E0 at*
 have HE0:=Lib.hid hn
 cases E0
 ·have HF:Hid (cB (plain1 f e)=false):=cB_false (fun g=>by have:=(HD.out.1 g).1;cases this)
  go_quiet (fail)
  go_wp2_with fail
  go_ret
  exact ⟨ret_bool HF.out.symm,below_drewN' b1 _⟩
 by_cases h4:e.op=4
 ·have h4':(e.op==4)=true:=by simp[h4]
  have HF:Hid (cB (plain1 f e)=false):=cB_false (fun g=>(HD.out.1 g).2.1 h4)
  clear h4
  go_quiet (fail)
  go_wp2_with fail
  go_ret
  exact ⟨ret_bool HF.out.symm,below_drewN' b1 _⟩
 have h4':(e.op==4)=false:=by simp[h4]
 have H4:=Lib.hid h4
 clear h4
 by_cases hp:partsZ e.op=e.args.length
 rotate_left 1
 ·have hp':((partsZ e.op) !=(e.args.length:Int))=true:=by simp[hp]
  have HF:Hid (cB (plain1 f e)=false):=cB_false (fun g=>hp (HD.out.1 g).2.2.1)
  generalize partsZ e.op=PZ at*
  clear hp
  go_cut[5] (fun v W=>v= .bool true∧Below w1.heap.size w1 W)
  case first=>
   refine wp_region_held_drew (S:=fun W=>W.cell? ⟨w.heap.size,0,none⟩=some (.int .i64 e.op)∧W.cell? ⟨w.heap.size,1,none⟩=some (.string e.name)∧W.cell? ⟨w.heap.size,3,none⟩=some (.slice A e.args.length cap)) (by kernel_rfl) ?_ (fun hHeld=>?_)
   ·(try dsimp only);(first|(with_reducible exact HX3.out _ bE))
   refine tk 0 (some 6) rfl ?_
   refine tk 1 (some 7) rfl ?_
   refine tk 2 (some 8) rfl ?_
   refine tk 3 (some 9) rfl ?_
   refine tk 4 (some 10) rfl ?_
   refine tk 5 (some 11) rfl ?_
   refine tk 6 (some 12) rfl ?_
   refine tk 7 (some 13) rfl ?_
   refine tk 8 (some 14) rfl ?_
   refine tk 9 (some 15) rfl ?_
   refine tk 10 (some 16) rfl ?_
   refine tk 12 (some 18) rfl ?_
   refine tk 13 (some 19) rfl ?_
   refine tk 14 (some 20) rfl ?_
   refine rd1 11 (some 17) rfl (fun KK hKK=>?_)
   go_simp
   go_at_call 115;refine Calls.mono (HPT.out _) ?_;rintro e w8 ⟨rfl,rfl⟩
   (try go_wp2_with fail)
   refine hKK.out _ _ ?_ (fun hHeld=>?_)
   ·(try dsimp only);(first|(with_reducible exact HX3.out _ bE))
   clear hKK KK
   try simp only[Act.put,List.setIfInBounds_toArray,List.set_cons_zero,List.set_cons_succ]
   refine tk 15 (some 21) rfl ?_
   refine tk 16 (some 22) rfl ?_
   refine tk 17 (some 5) rfl ?_
   refine wpAnyH_done (by kernel_rfl) ?_ _
   go_wp2_with fail
   go_meet
   exact ⟨rfl,bE⟩
  case rest=>
   obtain ⟨rfl,hbc⟩:=hcut
   have HBC:=Lib.hid (b1.trans (hbc.mono hs1))
   clear c0 c1 c2 c3 c4 c5
   go_wp2_with fail
   go_ret
   exact ⟨ret_bool HF.out.symm,HBC.out⟩
 have hp':((partsZ e.op) !=(e.args.length:Int))=false:=by simp[hp]
 have HP:=Lib.hid hp
 clear hp
 generalize partsZ e.op=PZ at*
 go_cut[5] (fun v W=>v= .bool false∧Below w1.heap.size w1 W)
 case first=>
  refine wp_region_held_drew (S:=fun W=>W.cell? ⟨w.heap.size,0,none⟩=some (.int .i64 e.op)∧W.cell? ⟨w.heap.size,1,none⟩=some (.string e.name)∧W.cell? ⟨w.heap.size,3,none⟩=some (.slice A e.args.length cap)) (by kernel_rfl) ?_ (fun hHeld=>?_)
  ·(try dsimp only);(first|(with_reducible exact HX3.out _ bE))
  refine tk 0 (some 6) rfl ?_
  refine tk 1 (some 7) rfl ?_
  refine tk 2 (some 8) rfl ?_
  refine tk 3 (some 9) rfl ?_
  refine tk 4 (some 10) rfl ?_
  refine tk 5 (some 11) rfl ?_
  refine tk 6 (some 12) rfl ?_
  refine tk 7 (some 13) rfl ?_
  refine tk 8 (some 14) rfl ?_
  refine tk 9 (some 15) rfl ?_
  refine tk 10 (some 16) rfl ?_
  refine tk 12 (some 18) rfl ?_
  refine tk 13 (some 19) rfl ?_
  refine tk 14 (some 20) rfl ?_
  refine rd1 11 (some 17) rfl (fun KK hKK=>?_)
  go_simp
  go_at_call 115;refine Calls.mono (HPT.out _) ?_;rintro e w8 ⟨rfl,rfl⟩
  (try go_wp2_with fail)
  refine hKK.out _ _ ?_ (fun hHeld=>?_)
  ·(try dsimp only);(first|(with_reducible exact HX3.out _ bE))
  clear hKK KK
  try simp only[Act.put,List.setIfInBounds_toArray,List.set_cons_zero,List.set_cons_succ]
  refine tk 15 (some 21) rfl ?_
  refine tk 16 (some 22) rfl ?_
  refine tk 17 (some 5) rfl ?_
  refine wpAnyH_done (by kernel_rfl) ?_ _
  go_wp2_with fail
  go_meet
  exact ⟨rfl,bE⟩
 case rest=>
  obtain ⟨rfl,hbc⟩:=hcut
  have hbw:=b1.trans (hbc.mono hs1)
  have HBC:=Lib.hid hbw
  clear c0 c1 c2 c3 c4 c5
  obtain ⟨c0,c1,c2,c3,c4,c5⟩:=HX.out _ hbc
  have HDD:Hid (plain1 f e↔if namedB e.op=true then isW f.fm e.n else if e.op=1 then 0≤e.n else if e.op=2 then e.n=0∨e.n=1 else e.n=0):=HD.out.trans ⟨fun g=>g.2.2.2,fun g=>⟨rfl,H4.out,HP.out,g⟩⟩
  clear HD
  generalize hnb:namedB e.op=NB at*
  have HNB:=Lib.hid hnb
  clear hnb
  go_wp2_with fail
  (with_reducible refine (HNM.out _).mono ?_)
  rintro r _ ⟨rfl,rfl⟩
  cases NB
  rotate_left 1
  ·have HF:Hid (cB (plain1 f e)=cB (isW f.fm e.n)):=cB_congr (HDD.out.trans (by rw[if_pos rfl]))
   generalize cB (isW f.fm e.n)=BI at*
   go_wp2_with fail
   (with_reducible refine (HIS.out _ hbw).mono ?_)
   rintro r _ ⟨rfl,rfl⟩
   go_wp2_with fail
   go_ret
   exact ⟨ret_bool HF.out.symm,HBC.out⟩
  by_cases o1:e.op=1
  ·have o1':(e.op==1)=true:=by simp[o1]
   have HF:Hid (cB (plain1 f e)=decide (0≤e.n)):=by
    show _=_
    rw[Bool.eq_iff_iff,cB_iff,decide_eq_true_eq,HDD.out,if_neg (by decide),if_pos o1]
   clear o1
   go_wp2_with fail
   go_ret
   exact ⟨ret_bool HF.out.symm,HBC.out⟩
  have o1':(e.op==1)=false:=by simp[o1]
  by_cases o2:e.op=2
  ·have o2':(e.op==2)=true:=by simp[o2]
   have HF:Hid (cB (plain1 f e)=(e.n==0||e.n==1)):=by
    show _=_
    rw[Bool.eq_iff_iff,cB_iff,Bool.or_eq_true,beq_iff_eq,beq_iff_eq,HDD.out,if_neg (by decide),if_neg o1,if_pos o2]
   clear o1 o2
   generalize hq0:(e.n==0)=Q0 at*
   cases Q0
   all_goals
    go_wp2_with fail
    go_ret
    exact ⟨ret_bool HF.out.symm,HBC.out⟩
  have o2':(e.op==2)=false:=by simp[o2]
  have HF:Hid (cB (plain1 f e)=(e.n==0)):=by
   show _=_
   rw[Bool.eq_iff_iff,cB_iff,beq_iff_eq,HDD.out,if_neg (by decide),if_neg o1,if_neg o2]
  clear o1 o2
  go_wp2_with fail
  go_ret
  exact ⟨ret_bool HF.out.symm,HBC.out⟩
end Go.Proofs.YtckognjamlckcaaGreatDoor
