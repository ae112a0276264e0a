/-
  The examples of layers 26 and 30, as plain data; rows in memory that read as lists. The example of layer 26. Forms of few parts; the example of layer 26. The contracts of tompionref28's Kind, taken, Gives (they call one another).
-/
import Derived.Test.YtbjaejgechadpaaGreatPlainA
import Derived.Test.YtbjaejgechadpaaGreatNmD
import Derived.Test.YtbjaejgechadpaaGreatOrdB
import Derived.Test.YtbjaejgechadpaaGreatPgA
import Derived.Test.YtbjaejgechadpaaGreatArZ
namespace Go.Proofs.YtbjaejgechadpaaGreat.Fo
open Vf
def b1:Ac:=⟨5,1,0,0,0,0⟩
def fB:Fm:=⟨[⟨1,[]⟩,⟨1,[]⟩],[b1],[],[],[0],[1]⟩
theorem neg_ok {f:Fm} {d a:Int} (h0:isW f 0) (ha:isW f a) (hc:clockOf f d=clockOf f a) (h1:tyOf f a=1) (h2:tyOf f d=1):actOk f ⟨5,d,a,0,0,0⟩:=
 (act_iffOne (.inl rfl) ⟨ha,h0,h0⟩).2 ⟨rfl,rfl,rfl,hc,by rw[h1];rfl,by rw[h2];rfl⟩
theorem wants_neg (d a:Int):wants ⟨5,d,a,0,0,0⟩=[a]:=rfl
theorem rdy {f:Fm} {H:List Int} {d a:Int} (hc:clockOf f d=[]):readyOk f H ⟨5,d,a,0,0,0⟩↔a∈H:=by
 unfold readyOk
 dsimp only
 rw[wants_neg,hc]
 simp
theorem fB_w {n:Int}:isW fB n↔n=0∨n=1:=by unfold isW;simp[fB];omega
theorem fB_ok:formOk fB:=by
 have w0:isW fB 0:=fB_w.2 (.inl rfl)
 have w1:isW fB 1:=fB_w.2 (.inr rfl)
 have d0:Done fB 0:= .ins 0 (by simp[fB])
 have d1:Done fB 1:= .act (f:=fB) b1 (by simp[fB]) (fun n hn=>by rw[b1,wants_neg] at hn;simp at hn;rw[hn];exact d0) (fun g hg=>by rw[show clockOf fB b1.dst=[] from rfl] at hg;simp at hg)
 refine ⟨⟨fun w hw=>?_,by decide,by decide⟩,⟨fun n hn=>?_,by decide,by decide⟩,⟨fun n hn=>?_,by decide,by decide⟩,⟨by simp[fB],by decide,by simp[fB],by simp[fB],by simp[fB]⟩,defined_iff.2 ⟨by decide,fun a ha=>?_,fun n hn=>?_⟩,fun x hx=>?_,fun n hn=>?_⟩
 ·simp[fB] at hw;subst hw;exact ⟨.inl rfl,by simp⟩
 ·simp[fB] at hn;subst hn;exact ⟨w0,rfl⟩
 ·simp[fB] at hn;subst hn;exact ⟨w1,rfl⟩
 ·simp[fB] at ha;subst ha;exact w1
 ·have hn':n<2:=hn
  rcases (by omega:n=0∨n=1) with rfl|rfl<;>decide
 ·simp[fB] at hx;subst hx
  exact neg_ok w0 w0 rfl rfl rfl
 ·have hn':n<2:=hn
  rcases (by omega:n=0∨n=1) with rfl|rfl
  ·exact d0
  ·exact d1
theorem fB_ordered:orderedOk fB:=⟨fB_ok,⟨(rdy rfl).2 (by decide),trivial⟩⟩
end Go.Proofs.YtbjaejgechadpaaGreat.Fo
namespace Go.Proofs.YtbjaejgechadpaaGreat
open Go.RowKit Vf Fo
theorem flat_at {α:Type} {C:α→List Value} {size:Nat} (hC:∀x,(C x).length=size):∀(l:List α) (i j:Nat) (x:α) (u:Value),l[i]? =some x→(C x)[j]? =some u→(l.map C).flatten[i*size+j]? =some u
 | [],i,j,x,u,h,_=>by simp at h
 |y::l,0,j,x,u,h,g=>by
  simp at h;subst h
  have:=(List.getElem?_eq_some_iff.1 g).1
  rw[List.map_cons,List.flatten_cons,Nat.zero_mul,Nat.zero_add,List.getElem?_append_left this]
  exact g
 |y::l,i+1,j,x,u,h,g=>by
  simp only[List.getElem?_cons_succ] at h
  rw[List.map_cons,List.flatten_cons,List.getElem?_append_right (by rw[hC,Nat.add_mul];omega),hC,show (i+1)*size+j-size=i*size+j by rw[Nat.add_mul];omega]
  exact flat_at hC l i j x u h g
theorem row_flat {α:Type} {w:World} {B b size:Nat} {rel:α→List Value→Prop} {C:α→List Value} {l:List α} {t:TypeId} (r:Row w b (l.map C).flatten.toArray t) (hC:∀x,(C x).length=size) (hr:∀x∈l,rel x (C x)) (hb:b<B) (hl:l.length≤maxLen):SlV w B size rel (.slice (some ⟨b,0,none⟩) l.length l.length) l:=
 ⟨_,_,rfl,Nat.le_refl _,hl,fun _=>⟨b,0,rfl,hb,fun i x hi=>⟨C x,fun j u hu=>by
  refine (r.cell _).trans ?_
  rw[List.getElem?_toArray,Nat.zero_add]
  exact flat_at hC l i j x u hi hu,hr x (List.mem_of_getElem? hi)⟩⟩⟩
def wr0 (x:Wr):List Value:=[.int .i64 x.ty,.slice none 0 0]
theorem isWr0 {w:World} {B:Nat} {x:Wr} (h:x.clock=[]) (hx:Wf x.ty):isWr w B x (wr0 x):=⟨_,rfl,hx,by rw[h];exact SlV.nil⟩
theorem wf_little {n:Int} (h: -1000≤n∧n≤1000):Wf n:=wf_of (by omega)
end Go.Proofs.YtbjaejgechadpaaGreat
namespace Go.Proofs.YtbjaejgechadpaaGreat
open Go.RowKit Vf Fo
attribute [local go_sem ↓] Go.wp_at_zero Go.wp_at_succ
theorem FmAt.more {w:World} {B B':Nat} {f:Fm} {vw va vc vk vi vo:Value} (h:FmAt w B f vw va vc vk vi vo) (hB:B≤B'):FmAt w B' f vw va vc vk vi vo:=h.keep (fun _ _ _ hc=>hc) hB
theorem ones_row {W:World} {b B:Nat} {t:TypeId} {n:Int} (r:Row W b #[.int .i64 n] t) (hn:Wf n) (hb:b<B):SlV W B 1 isInt (.slice (some ⟨b,0,none⟩) 1 1) [n]:=
 row_flat (C:=fun x=> [Value.int .i64 x]) (l:=[n]) r (fun _=>rfl) (fun x hx=>by simp at hx;subst hx;exact ⟨rfl,hn⟩) hb (by simp[maxLen])
theorem acIn_small {x:Ac} (h:(-1000≤x.op∧x.op≤1000)∧(-1000≤x.dst∧x.dst≤1000)∧(-1000≤x.a∧x.a≤1000)∧(-1000≤x.b∧x.b≤1000)∧(-1000≤x.c∧x.c≤1000)∧(-1000≤x.k∧x.k≤1000)):AcIn x:=
 ⟨wf_little h.1,wf_little h.2.1,wf_little h.2.2.1,wf_little h.2.2.2.1,wf_little h.2.2.2.2.1,wf_little h.2.2.2.2.2⟩
theorem rowN3 (W:World) (o o':Obj) (cs:Array Value) (t:TypeId):Row (((W.alloc o).alloc o').alloc (.cells cs t)) (W.heap.size+1+1) cs t:=by
 have:=Row.new ((W.alloc o).alloc o') cs t
 rwa [World.size_alloc,World.size_alloc] at this
theorem rowN4 (W:World) (o o' o2:Obj) (cs:Array Value) (t:TypeId):Row ((((W.alloc o).alloc o').alloc o2).alloc (.cells cs t)) (W.heap.size+1+1+1) cs t:=by
 have:=Row.new (((W.alloc o).alloc o').alloc o2) cs t
 rwa [World.size_alloc,World.size_alloc,World.size_alloc] at this
theorem rowN5 (W:World) (o o' o2 o3:Obj) (cs:Array Value) (t:TypeId):Row (((((W.alloc o).alloc o').alloc o2).alloc o3).alloc (.cells cs t)) (W.heap.size+1+1+1+1) cs t:=by
 have:=Row.new ((((W.alloc o).alloc o').alloc o2).alloc o3) cs t
 rwa [World.size_alloc,World.size_alloc,World.size_alloc,World.size_alloc] at this
end Go.Proofs.YtbjaejgechadpaaGreat
namespace Go.Proofs.YtbjaejgechadpaaGreat
open Go.RowKit Vf Fo
attribute [local go_sem ↓] Go.wp_at_zero Go.wp_at_succ
def fewF (f:Fm):Prop:=(∀x∈f.wires,x.clock.length≤40)∧f.wires.length≤1700∧f.acts.length≤1700∧f.cells.length≤80∧f.keeps.length≤80∧f.ins.length≤20∧f.outs.length≤20
def FewIs (P:Prop) (w:World) (e:Ending) (w':World):Prop:=(∃b,e= .returned (.bool b)∧Hid (b=true→P))∧Below w.heap.size w w'
theorem FewIs.no {P:Prop} {w w':World} (h:Below w.heap.size w w'):FewIs P w (.returned (.bool false)) w':=⟨⟨false,rfl,fun g=>by cases g⟩,h⟩
set_option maxRecDepth 100000 in
set_option maxHeartbeats 4000000 in
theorem few24_any {w:World} {B:Nat} {f:Fm} {vw va vc vk vi vo:Value} (h:FmAt w B f vw va vc vk vi vo) (hB:B≤w.heap.size):
  Calls Tryz.prog 18 #[fmV vw va vc vk vi vo] w (FewIs (fewF f) w):=by
 obtain ⟨Aw,cw,rfl,lw,mw,sw⟩:=h.wires
 obtain ⟨Aa,ca,rfl,_,_,_⟩:=h.acts
 obtain ⟨Acl,cc,rfl,_,_,_⟩:=h.cells
 obtain ⟨Ak,ck,rfl,_,_,_⟩:=h.keeps
 obtain ⟨Ai,ci,rfl,_,_,_⟩:=h.ins
 obtain ⟨Ao,co,rfl,_,_,_⟩:=h.outs
 have mw':cw≤9223372036854775807:=by unfold maxLen at mw;omega
 have b1:Below w.heap.size w (w.alloc (.cells #[.slice Aw f.wires.length cw,.slice Aa f.acts.length ca,.slice Acl f.cells.length cc,.slice Ak f.keeps.length ck,.slice Ai f.ins.length ci,.slice Ao f.outs.length co] 28)):=bE
 have rF1:=Row.new w #[.slice Aw f.wires.length cw,.slice Aa f.acts.length ca,.slice Acl f.cells.length cc,.slice Ak f.keeps.length ck,.slice Ai f.ins.length ci,.slice Ao f.outs.length co] 28
 have HSW:=Lib.hid (fun W (hW:Below w.heap.size w W)=>(sw.keep (w':=W) (B':=B) (fun p u hp hc=>(hW.cell (by omega)).trans hc) (Nat.le_refl _) (fun _ _ _ g=>g.keep (fun p u hp hc=>(hW.cell (by omega)).trans hc) (Nat.le_refl _))))
 clear h sw
 go_enter Tryz.func18,Tryz.ntmps18
 go_upto_region 1 with (fail)
 generalize w.alloc (.cells #[.slice Aw f.wires.length cw,.slice Aa f.acts.length ca,.slice Acl f.cells.length cc,.slice Ak f.keeps.length ck,.slice Ai f.ins.length ci,.slice Ao f.outs.length co] 28)=w1 at*
 have hs1:=b1.size
 have hGl:=rF1.lt
 have HF6:Hid (∀W,Below w1.heap.size w1 W→W.cell? ⟨w.heap.size,0,none⟩=some (.slice Aw f.wires.length cw)∧W.cell? ⟨w.heap.size,1,none⟩=some (.slice Aa f.acts.length ca)∧W.cell? ⟨w.heap.size,2,none⟩=some (.slice Acl f.cells.length cc)∧W.cell? ⟨w.heap.size,3,none⟩=some (.slice Ak f.keeps.length ck)∧W.cell? ⟨w.heap.size,4,none⟩=some (.slice Ai f.ins.length ci)∧W.cell? ⟨w.heap.size,5,none⟩=some (.slice Ao f.outs.length co)):=fun W hW=>(rF1.below hW hGl).six'
 obtain ⟨f0,f1,f2,f3,f4,f5⟩:=rF1.six'
 go_wp2_with fail
 clear f0 f1 f2 f3 f4 f5
 go_loopw[8] (fun i wr=>∃k:Nat,k≤f.wires.length∧i= .int .i64 k∧Hid (∀j,j<k→∀x,f.wires[j]? =some x→x.clock.length≤40)∧Below w1.heap.size w1 wr) (fun i _=>f.wires.length-(intOf i).toNat)
 case atStart=>exact ⟨0,Nat.zero_le _,rfl,fun j h=>absurd h (by omega),Below.refl _ _⟩
 case round=>
  obtain ⟨k,hk,rfl,HN,hbr⟩:=hrel
  have hszr:=hbr.size
  have hb:=b1.trans (hbr.mono hs1)
  by_cases hlt:k<f.wires.length
  ·obtain ⟨b,off,x,Ag,cg,rfl,hb',hx,wx,d0,d1,lg,mg,_⟩:=(HSW.out _ hb).wr hlt
   have HX:=Lib.hid hx
   clear hx
   have hb2:Below w.heap.size w (wr.alloc (.cells #[.int .i64 x.ty,.slice Ag x.clock.length cg] 54)):=bE
   have hb3:Below w1.heap.size w1 (wr.alloc (.cells #[.int .i64 x.ty,.slice Ag x.clock.length cg] 54)):=bE
   have rX:=Row.new wr #[.int .i64 x.ty,.slice Ag x.clock.length cg] 54
   go_upto_region 4 with (fail)
   generalize wr.alloc (.cells #[.int .i64 x.ty,.slice Ag x.clock.length cg] 54)=w3 at*
   have q0:=rX.cell 0
   have q1:=rX.cell 1
   simp only[List.getElem?_toArray,List.getElem?_cons_zero,List.getElem?_cons_succ] at q0 q1
   by_cases e1:40<x.clock.length
   ·have e1':decide (40<(x.clock.length:Int))=true:=by simp;omega
    go_wp2_with fail
    go_ret
    exact FewIs.no hb2
   have e1':decide (40<(x.clock.length:Int))=false:=by simp;omega
   have HN':=Lib.hid (upto_succ HN.out (fun x' hx'=>by rw[HX.out] at hx';injection hx' with hx';rw[←hx'];omega))
   go_wp2_with fail
   go_roundw
   case rel=>exact ⟨k+1,by omega,by go_num,HN',hb3⟩
   case measure=>simp[intOf];omega
  ·obtain rfl:k=f.wires.length:=by omega
   have HM:=Lib.hid (all_upto HN.out)
   obtain ⟨f0,f1,f2,f3,f4,f5⟩:=HF6.out _ hbr
   clear HN
   by_cases e0:f.wires.length≤1700
   rotate_left 1
   ·have e0':decide ((f.wires.length:Int)≤1700)=false:=by simp;omega
    go_wp2_with fail
    go_ret
    exact FewIs.no hb
   have e0':decide ((f.wires.length:Int)≤1700)=true:=by simp;omega
   by_cases e1:f.acts.length≤1700
   rotate_left 1
   ·have e1':decide ((f.acts.length:Int)≤1700)=false:=by simp;omega
    go_wp2_with fail
    go_ret
    exact FewIs.no hb
   have e1':decide ((f.acts.length:Int)≤1700)=true:=by simp;omega
   by_cases e2:f.cells.length≤80
   rotate_left 1
   ·have e2':decide ((f.cells.length:Int)≤80)=false:=by simp;omega
    go_wp2_with fail
    go_ret
    exact FewIs.no hb
   have e2':decide ((f.cells.length:Int)≤80)=true:=by simp;omega
   by_cases e3:f.keeps.length≤80
   rotate_left 1
   ·have e3':decide ((f.keeps.length:Int)≤80)=false:=by simp;omega
    go_wp2_with fail
    go_ret
    exact FewIs.no hb
   have e3':decide ((f.keeps.length:Int)≤80)=true:=by simp;omega
   by_cases e4:f.ins.length≤20
   rotate_left 1
   ·have e4':decide ((f.ins.length:Int)≤20)=false:=by simp;omega
    go_wp2_with fail
    go_ret
    exact FewIs.no hb
   have e4':decide ((f.ins.length:Int)≤20)=true:=by simp;omega
   have HP:Hid (f.outs.length≤20→fewF f):=fun h5=>⟨HM.out,e0,e1,e2,e3,e4,h5⟩
   go_wp2_with fail
   go_ret
   exact ⟨⟨_,rfl,fun g=>HP.out (by simp at g;omega)⟩,hb⟩
def FewOk (f:Fm) (n:Nat):Prop:=fewF f∧f.wires.length≤n
end Go.Proofs.YtbjaejgechadpaaGreat
namespace Go.Proofs.YtbjaejgechadpaaGreat
open Go.RowKit Vf
theorem pairs_len {p:Pg}:∀{n:Nat},n≤p.code.length→(pairs p n).length=n
 |0,_=>rfl
 |n+1,h=>by
  rw[pairs,List.getElem?_eq_getElem (by omega)]
  simp only[List.length_append,List.length_singleton]
  rw[pairs_len (by omega)]
theorem pairs_get {p:Pg} {k:Nat} {x:In5} (hx:p.code[k]? =some x):∀{n:Nat},k<n→n≤p.code.length→(pairs p n)[k]? =some (x,givesOf p (pairs p k) x)
 |0,h,_=>absurd h (by omega)
 |n+1,h,hn=>by
  have hl:=pairs_len (p:=p) (n:=n) (by omega)
  rw[pairs]
  by_cases e:k=n
  ·subst e
   rw[hx]
   simp only
   rw[List.getElem?_append_right (by omega),hl,Nat.sub_self]
   rfl
  ·rw[List.getElem?_eq_getElem (show n<p.code.length by omega)]
   simp only
   rw[List.getElem?_append_left (by omega)]
   exact pairs_get hx (by omega) (by omega)
theorem pairs_drop {p:Pg} {k n:Nat} {x:In5} (hx:p.code[k]? =some x) (hk:k<n) (hn:n≤p.code.length):(pairs p n).drop k=(x,givesOf p (pairs p k) x)::(pairs p n).drop (k+1):=by
 have hl:=pairs_len hn
 have hg:=pairs_get hx hk hn
 rw[List.drop_eq_getElem_cons (by omega)]
 congr 1
 rw[List.getElem?_eq_getElem (by omega)] at hg
 injection hg
def kindIs (p:Pg) (n:Nat) (reg:Int) (k:Nat) (out:Int):Prop:=kindAcc ((pairs p n).drop k) reg out=kindAcc (pairs p n) reg 0
theorem kindIs_start {p:Pg} {n:Nat} {reg:Int}:kindIs p n reg 0 0:=by unfold kindIs;rw[List.drop_zero]
theorem kindIs_skip {p:Pg} {n k:Nat} {reg out:Int} {x:In5} (h:kindIs p n reg k out) (hx:p.code[k]? =some x) (hk:k<n) (hn:n≤p.code.length) (hs:29≤x.op∨x.a≠reg):kindIs p n reg (k+1) out:=by
 unfold kindIs at h⊢
 rw[pairs_drop hx hk hn,kindAcc,if_pos hs] at h
 exact h
theorem kindIs_nine {p:Pg} {n k:Nat} {reg out:Int} {x:In5} (h:kindIs p n reg k out) (hx:p.code[k]? =some x) (hk:k<n) (hn:n≤p.code.length) (h1:¬29≤x.op) (h2:x.a=reg) (ho:out≠0):kindAcc (pairs p n) reg 0=9:=by
 unfold kindIs at h
 rw[pairs_drop hx hk hn,kindAcc,if_neg (fun hc=>hc.elim h1 (fun g=>g h2)),if_pos ho] at h
 exact h.symm
theorem kindIs_new {p:Pg} {n k:Nat} {reg out:Int} {x:In5} (h:kindIs p n reg k out) (hx:p.code[k]? =some x) (hk:k<n) (hn:n≤p.code.length) (h1:¬29≤x.op) (h2:x.a=reg) (ho:out=0):kindIs p n reg (k+1) (givesOf p (pairs p k) x):=by
 unfold kindIs at h⊢
 rw[pairs_drop hx hk hn,kindAcc,if_neg (fun hc=>hc.elim h1 (fun g=>g h2)),if_neg (fun hc=>hc ho)] at h
 exact h
theorem kindIs_end {p:Pg} {n:Nat} {reg out:Int} (hn:n≤p.code.length) (h:kindIs p n reg n out):kindAcc (pairs p n) reg 0=out:=by
 unfold kindIs at h
 rw[List.drop_eq_nil_of_le (by rw[pairs_len hn];omega),kindAcc] at h
 exact h.symm
def KindC (p:Pg) (vi vo vc vd:Value) (n:Nat):Prop:=∀(reg:Int) (w:World),PgAt w w.heap.size p vi vo vc vd→
 Calls Tryz.prog 40 #[pgV p vi vo vc vd,.int .i64 n,.int .i64 reg] w fun e w'=>e= .returned (.int .i64 (kindAcc (pairs p n) reg 0))∧Below w.heap.size w w'
def TakenC (p:Pg) (vi vo vc vd:Value) (n:Nat):Prop:=∀(reg:Int) (w:World),PgAt w w.heap.size p vi vo vc vd→
 Calls Tryz.prog 67 #[pgV p vi vo vc vd,.int .i64 n,.int .i64 reg] w fun e w'=>e= .returned (.int .i64 (taken p (pairs p n) reg))∧Below w.heap.size w w'
def GivesC (p:Pg) (vi vo vc vd:Value) (i:Nat):Prop:=∀(x:In5) (w:World),p.code[i]? =some x→PgAt w w.heap.size p vi vo vc vd→
 Calls Tryz.prog 39 #[pgV p vi vo vc vd,.int .i64 i] w fun e w'=>e= .returned (.int .i64 (givesOf p (pairs p i) x))∧Below w.heap.size w w'
section
variable {p:Pg} {vi vo vc vd:Value}
set_option maxRecDepth 100000 in
set_option maxHeartbeats 2000000 in
theorem taken_of {n:Nat} (hK:KindC p vi vo vc vd n):TakenC p vi vo vc vd n:=by
 intro reg w h
 have HK:=Lib.hid hK
 clear hK
 have b0:Below w.heap.size w (w.alloc (.cells #[vi,vo,.int .i64 p.regs,vc,vd] 37)):=(Below.refl _ _).alloc (Nat.le_refl _) _
 have h0:=Lib.hid (h.next b0)
 clear h
 by_cases h1:reg<0
 ·have HT:=Lib.hid (show taken p (pairs p n) reg=0 by unfold taken;rw[if_pos (.inl h1)])
  go_enter Tryz.func67,Tryz.ntmps67
  go_wp2_with fail
  go_ret
  exact ⟨ret_i64 HT.out.symm,b0⟩
 ·by_cases h2:p.regs≤reg
  ·have HT:=Lib.hid (show taken p (pairs p n) reg=0 by unfold taken;rw[if_pos (.inr h2)])
   go_enter Tryz.func67,Tryz.ntmps67
   go_wp2_with fail
   go_ret
   exact ⟨ret_i64 HT.out.symm,b0⟩
  ·have HT:=Lib.hid (show taken p (pairs p n) reg=kindAcc (pairs p n) reg 0 by unfold taken;rw[if_neg (by omega)])
   go_enter Tryz.func67,Tryz.ntmps67
   go_wp2_with fail
   refine (HK.out reg _ h0.out).mono ?_
   rintro e w1 ⟨rfl,hb1⟩
   have HB:=Lib.hid (b0.trans (hb1.mono b0.size))
   clear hb1
   go_wp2_with fail
   go_ret
   exact ⟨ret_i64 HT.out.symm,HB.out⟩
set_option maxRecDepth 100000 in
set_option maxHeartbeats 8000000 in
theorem gives_of {i:Nat} (hT:TakenC p vi vo vc vd i):GivesC p vi vo vc vd i:=by
 intro x w hx h
 have HT:=Lib.hid hT
 clear hT
 have b0:Below w.heap.size w (w.alloc (.cells #[vi,vo,.int .i64 p.regs,vc,vd] 37)):=(Below.refl _ _).alloc (Nat.le_refl _) _
 have h0:=h.next b0
 have bP:=(Row.new w #[vi,vo,.int .i64 p.regs,vc,vd] 37).alloc (.cells #[.int .i64 x.op,.int .i64 x.a,.int .i64 x.b,.int .i64 x.c,.int .i64 x.k] 58)
 have bX:=rowNew2 w (.cells #[vi,vo,.int .i64 p.regs,vc,vd] 37) #[.int .i64 x.op,.int .i64 x.a,.int .i64 x.b,.int .i64 x.c,.int .i64 x.k] 58
 have b1:Below w.heap.size w ((w.alloc (.cells #[vi,vo,.int .i64 p.regs,vc,vd] 37)).alloc (.cells #[.int .i64 x.op,.int .i64 x.a,.int .i64 x.b,.int .i64 x.c,.int .i64 x.k] 58)):=b0.alloc (by simp) _
 have h1:=h.next b1
 have hi:i<p.code.length:=(List.getElem?_eq_some_iff.1 hx).1
 obtain ⟨⟨Ai,ci,rfl,li,mi,si⟩,⟨Ao,co,rfl,lo,mo,so⟩,hreg,⟨Ac,cc,rfl,lc,mc,sc⟩,⟨Ad,cd,rfl,ld,md,sd⟩⟩:=h
 have mc':cc≤9223372036854775807:=by unfold maxLen at mc;omega
 have md':cd≤9223372036854775807:=by unfold maxLen at md;omega
 obtain ⟨b,off,x',rfl,hb,hxk,hok,c0,c1,c2,c3,c4⟩:=(sd.below b0).in5 hi
 obtain rfl:x'=x:=by rw[hx] at hxk;injection hxk with h;exact h.symm
 have HX:=Lib.hid hx
 clear hxk hx h0
 have hil:(i:Int)<p.code.length:=by omega
 go_enter Tryz.func39,Tryz.ntmps39
 go_wp2_with fail
 by_cases hs:5≤x'.op∧x'.op≤20
 ·have HG:=Lib.hid (show givesOf p (pairs p i) x'=Ar.signOut x'.op by unfold givesOf;rw[if_pos hs];rfl)
  refine (rsign_yes x'.op _ hs).mono ?_
  rintro e w2 ⟨rfl,hb2⟩
  have HB:=Lib.hid (b1.trans (hb2.mono b1.size))
  clear hb2
  go_wp2_with fail
  go_ret
  exact ⟨ret_i64 HG.out.symm,HB.out⟩
 refine (rsign_no x'.op _ (by omega)).mono ?_
 rintro e w2 ⟨rfl,hb2⟩
 have b2:=b1.trans (hb2.mono b1.size)
 have h2:=h1.next hb2
 have bP2:=bP.below hb2 bP.lt
 have bX2:=bX.below hb2 bX.lt
 have si2:=si.below b2
 have sc2:=sc.below b2
 clear hb2 bP bX h1 b1 b0 c0 c1 c2 c3 c4 si so sc sd
 have q0:=bP2.cell 0
 have q1:=bP2.cell 1
 have q2:=bP2.cell 2
 have q3:=bP2.cell 3
 have q4:=bP2.cell 4
 have x0:=bX2.cell 0
 have x1:=bX2.cell 1
 have x2:=bX2.cell 2
 have x3:=bX2.cell 3
 have x4:=bX2.cell 4
 simp only[List.getElem?_toArray,List.getElem?_cons_zero,List.getElem?_cons_succ] at q0 q1 q2 q3 q4 x0 x1 x2 x3 x4
 clear bP2 bX2
 by_cases o2:x'.op≤2
 ·have HG:=Lib.hid (show givesOf p (pairs p i) x'=x'.op by unfold givesOf;rw[if_neg hs,if_pos o2])
  go_wp2_with fail
  go_ret
  exact ⟨ret_i64 HG.out.symm,b2⟩
 by_cases o3:x'.op=3
 ·have HG:=Lib.hid (show givesOf p (pairs p i) x'=taken p (pairs p i) x'.b by unfold givesOf;rw[if_neg hs,if_neg o2,if_pos o3])
  have o3':(x'.op==3)=true:=by simp[o3]
  clear o3
  go_wp2_with fail
  refine (HT.out x'.b _ h2).mono ?_
  rintro e w3 ⟨rfl,hb3⟩
  have HB:=Lib.hid (b2.trans (hb3.mono b2.size))
  clear hb3
  go_wp2_with fail
  go_ret
  exact ⟨ret_i64 HG.out.symm,HB.out⟩
 have o3':(x'.op==3)=false:=by simp[o3]
 by_cases o27:x'.op=27
 ·have HG:=Lib.hid (show givesOf p (pairs p i) x'=taken p (pairs p i) x'.c by unfold givesOf;rw[if_neg hs,if_neg o2,if_neg o3,if_pos o27])
  have o27':(x'.op==27)=true:=by simp[o27]
  clear o27 o3
  go_wp2_with fail
  refine (HT.out x'.c _ h2).mono ?_
  rintro e w3 ⟨rfl,hb3⟩
  have HB:=Lib.hid (b2.trans (hb3.mono b2.size))
  clear hb3
  go_wp2_with fail
  go_ret
  exact ⟨ret_i64 HG.out.symm,HB.out⟩
 have o27':(x'.op==27)=false:=by simp[o27]
 have hty:(types p.cells).length=p.cells.length:=by simp[types]
 by_cases o21:x'.op=21
 ·have o21':(x'.op==21)=true:=by simp[o21]
  have o28':(x'.op==28)=false:=by simp[o21]
  by_cases hh:has (types p.cells) x'.k
  ·obtain ⟨n,hn⟩:=Int.eq_ofNat_of_zero_le hh.1
   have hnl:n<p.cells.length:=by have:=hh.2;rw[hty,hn] at this;omega
   obtain ⟨b',off',c,rfl,hb',hck,wc1,wc2,d0,d1⟩:=sc2.cell hnl
   have HG:=Lib.hid (show givesOf p (pairs p i) x'=c.1 by
    unfold givesOf;rw[if_neg hs,if_neg o2,if_neg o3,if_neg o27,if_pos ⟨o21,hh⟩,hn]
    simp[getI,types,List.getD_eq_getElem?_getD,hck])
   rw[hn] at x4
   clear hck hh o3 o27 o21 hn
   have hnl':(n:Int)<p.cells.length:=by omega
   go_wp2_with fail
   go_ret
   exact ⟨ret_i64 HG.out.symm,b2⟩
  ·have HG:=Lib.hid (show givesOf p (pairs p i) x'=0 by unfold givesOf;rw[if_neg hs,if_neg o2,if_neg o3,if_neg o27,if_neg (fun g=>hh g.2),if_neg (by omega)])
   have hk2:x'.k<0∨(0≤x'.k∧(p.cells.length:Int)≤x'.k):=by unfold has at hh;rw[hty] at hh;omega
   clear hh o3 o27 o21
   rcases hk2 with hk2|⟨hk2,hk3⟩
   all_goals
    go_wp2_with fail
    go_ret
    exact ⟨ret_i64 HG.out.symm,b2⟩
 have o21':(x'.op==21)=false:=by simp[o21]
 by_cases o28:x'.op=28
 ·have o28':(x'.op==28)=true:=by simp[o28]
  by_cases hh:has p.ins x'.k
  ·obtain ⟨n,hn⟩:=Int.eq_ofNat_of_zero_le hh.1
   have hnl:n<p.ins.length:=by have:=hh.2;rw[hn] at this;omega
   obtain ⟨b',off',c,rfl,hb',hck,wc1,d0⟩:=si2.int hnl
   have HG:=Lib.hid (show givesOf p (pairs p i) x'=c by
    unfold givesOf;rw[if_neg hs,if_neg o2,if_neg o3,if_neg o27,if_neg (fun g=>o21 g.1),if_pos ⟨o28,hh⟩,hn]
    simp[getI,List.getD_eq_getElem?_getD,hck])
   rw[hn] at x4
   clear hck hh o3 o27 o21 o28 hn
   have hnl':(n:Int)<p.ins.length:=by omega
   go_wp2_with fail
   go_ret
   exact ⟨ret_i64 HG.out.symm,b2⟩
  ·have HG:=Lib.hid (show givesOf p (pairs p i) x'=0 by unfold givesOf;rw[if_neg hs,if_neg o2,if_neg o3,if_neg o27,if_neg (fun g=>o21 g.1),if_neg (fun g=>hh g.2)])
   have hk2:x'.k<0∨(0≤x'.k∧(p.ins.length:Int)≤x'.k):=by unfold has at hh;omega
   clear hh o3 o27 o21 o28
   rcases hk2 with hk2|⟨hk2,hk3⟩
   all_goals
    go_wp2_with fail
    go_ret
    exact ⟨ret_i64 HG.out.symm,b2⟩
 have o28':(x'.op==28)=false:=by simp[o28]
 have HG:=Lib.hid (show givesOf p (pairs p i) x'=0 by unfold givesOf;rw[if_neg hs,if_neg o2,if_neg o3,if_neg o27,if_neg (fun g=>o21 g.1),if_neg (fun g=>o28 g.1)])
 clear o3 o27 o21 o28
 go_wp2_with fail
 go_ret
 exact ⟨ret_i64 HG.out.symm,b2⟩
set_option maxRecDepth 100000 in
set_option maxHeartbeats 4000000 in
theorem kind_of {n:Nat} (hn:n≤p.code.length) (hG:∀i,i<n→GivesC p vi vo vc vd i):KindC p vi vo vc vd n:=by
 intro reg w h
 have HG:=Lib.hid hG
 have HP:=Lib.hid h
 clear hG
 obtain ⟨⟨Ai,ci,rfl,li,mi,si⟩,⟨Ao,co,rfl,lo,mo,so⟩,hreg,⟨Ac,cc,rfl,lc,mc,sc⟩,⟨Ad,cd,rfl,ld,md,sd⟩⟩:=h
 have md':cd≤9223372036854775807:=by unfold maxLen at md;omega
 go_enter Tryz.func40,Tryz.ntmps40
 go_wp2_with fail
 go_loopw[7,8] (fun o i wr=>∃(k:Nat) (out:Int),k≤n∧i= .int .i64 k∧o= .int .i64 out∧Hid (kindIs p n reg k out)∧Below (w.heap.size+1) (w.alloc (.cells #[.slice Ai p.ins.length ci,.slice Ao p.outs.length co,.int .i64 p.regs,.slice Ac p.cells.length cc,.slice Ad p.code.length cd] 37)) wr) (fun _ i _=>n-(intOf i).toNat)
 case atStart=>exact ⟨0,0,Nat.zero_le _,rfl,rfl,kindIs_start,by simpa using Below.refl _ _⟩
 case round=>
  obtain ⟨k,out,hk,rfl,rfl,HN,hbox⟩:=hrel
  obtain ⟨⟨q0,q1,q2,q3,q4⟩,hbel,hsz⟩:=pgBox hbox
  by_cases hlt:k<n
  ·obtain ⟨b,off,x,rfl,hb,hxk,hok,c0,c1,c2,c3,c4⟩:=(sd.below hbel).in5 (show k<p.code.length by omega)
   have HK:=Lib.hid hxk
   clear hxk
   have hkl:(k:Int)<p.code.length:=by omega
   by_cases h1:29≤x.op
   ·have HN':=Lib.hid (kindIs_skip HN.out HK.out hlt hn (.inl h1))
    go_wp2_with fail
    go_roundw
    case rel=>exact ⟨k+1,out,by omega,by go_num,rfl,HN',hbox⟩
    case measure=>simp[intOf];omega
   ·by_cases h2:x.a=reg
    ·have h2':(x.a !=reg)=false:=by simp[h2]
     by_cases ho:out=0
     ·have ho':(out !=0)=false:=by simp[ho]
      have HN':=Lib.hid (kindIs_new HN.out HK.out hlt hn h1 h2 ho)
      clear h2 ho
      go_wp2_with fail
      refine (HG.out k hlt x _ HK.out (HP.out.next hbel)).mono ?_
      rintro e w1 ⟨rfl,hb1⟩
      have HB:=Lib.hid (hbox.trans (hb1.mono hsz))
      clear hb1
      go_wp2_with fail
      go_roundw
      case rel=>exact ⟨k+1,_,by omega,by go_num,rfl,HN',HB.out⟩
      case measure=>simp[intOf];omega
     ·have ho':(out !=0)=true:=by simp[ho]
      have HF:=Lib.hid (kindIs_nine HN.out HK.out hlt hn h1 h2 ho)
      clear h2 ho
      go_wp2_with fail
      go_ret
      exact ⟨ret_i64 HF.out.symm,hbel⟩
    ·have h2':(x.a !=reg)=true:=by simp[h2]
     have HN':=Lib.hid (kindIs_skip HN.out HK.out hlt hn (.inr h2))
     clear h2
     go_wp2_with fail
     go_roundw
     case rel=>exact ⟨k+1,out,by omega,by go_num,rfl,HN',hbox⟩
     case measure=>simp[intOf];omega
  ·obtain rfl:k=n:=by omega
   have HF:=Lib.hid (kindIs_end hn HN.out)
   go_wp2_with fail
   go_ret
   exact ⟨ret_i64 HF.out.symm,hbel⟩
theorem kind_all:∀n,n≤p.code.length→KindC p vi vo vc vd n:=by
 intro n
 induction n using Nat.strongRecOn with
 |_ n ih=>
  intro hn
  exact kind_of hn (fun i hi=>gives_of (taken_of (ih i hi (by omega))))
theorem taken_all {n:Nat} (hn:n≤p.code.length):TakenC p vi vo vc vd n:=taken_of (kind_all n hn)
theorem gives_all {n:Nat} (hn:n≤p.code.length):GivesC p vi vo vc vd n:=gives_of (taken_all hn)
end
end Go.Proofs.YtbjaejgechadpaaGreat
