/-
  A tick of a machine, as plain data. A tick's state in memory. slices.Clone at three types; small readers of rows of numbers.
-/
import Derived.Test.YtbjaejgechadpaaGreatPlainA
import Derived.Test.YtbjaejgechadpaaGreatArZ
import Derived.Test.YtbjaejgechadpaaGreatLookA
import Derived.Test.YtbjaejgechadpaaGreatMem
import Derived.Test.YtbjaejgechadpaaGreatLookZ
import Derived.Test.YtbjaejgechadpaaGreatPgA
import Derived.Deep.DrawnRows
namespace Go.Proofs.YtbjaejgechadpaaGreat.Vf
def vgive (cells inn regs:List Int) (x:In5):Int:=
 if x.op=1∨x.op=2 then x.k
 else if x.op=3 then getI regs x.b
 else if x.op=5∨x.op=6 then Ar.oneV x.op (getI regs x.b)
 else if x.op=27 then (if getI regs x.b≠0 then getI regs x.c else getI regs x.k)
 else if x.op=21 then getI cells x.k
 else if x.op=28 then getI inn x.k
 else Ar.doV x.op (getI regs x.b) (getI regs x.c)
structure Tk where
 regs:List Int
 next:List Int
 out:List Int
def setI (l:List Int) (n v:Int):List Int:=l.set n.toNat v
def texec (cells inn:List Int) (s:Tk) (x:In5):Tk:=
 if x.op=29 then {s with out:=setI s.out x.k (getI s.regs x.a)}
 else if x.op=32 then {s with next:=setI s.next x.k (getI s.regs x.a)}
 else if x.op=30∨x.op=31 then s
 else {s with regs:=setI s.regs x.a (vgive cells inn s.regs x)}
def tskip (s:Tk) (x:In5):Int:=if (x.op=30∧getI s.regs x.a=0)∨(x.op=31∧getI s.regs x.a≠0) then x.k else 0
def trun (cells inn:List Int):List In5→Nat→Tk→Tk × Nat
 | [],_,s=>(s,0)
 |_::l,over+1,s=>trun cells inn l over s
 |x::l,0,s=>((trun cells inn l (tskip s x).toNat (texec cells inn s x)).1,(trun cells inn l (tskip s x).toNat (texec cells inn s x)).2+1)
theorem trun_over {cells inn:List Int} {s:Tk}:∀(l:List In5) (k:Nat),trun cells inn l k s=trun cells inn (l.drop k) 0 s
 | [],k=>by rw[List.drop_nil];cases k<;>rfl
 |x::l,0=>rfl
 |x::l,k+1=>by rw[trun,List.drop_succ_cons];exact trun_over l k
structure Safe (p:Pg) (i:Nat) (x:In5):Prop where
 a:0≤x.a∧x.a<p.regs
 b:(x.op=3∨(5≤x.op∧x.op≤20)∨x.op=27)→0≤x.b∧x.b<p.regs
 c:((7≤x.op∧x.op≤20)∨x.op=27)→0≤x.c∧x.c<p.regs
 k27:x.op=27→0≤x.k∧x.k<p.regs
 k21:x.op=21∨x.op=32→0≤x.k∧x.k<p.cells.length
 k28:x.op=28→0≤x.k∧x.k<p.ins.length
 k29:x.op=29→0≤x.k∧x.k<p.outs.length
 k30:x.op=30∨x.op=31→0≤x.k∧x.k≤(p.code.length:Int)-1-i
 ab:(x.op=3∨(5≤x.op∧x.op≤20)∨x.op=27)→x.a≠x.b
 ac:((7≤x.op∧x.op≤20)∨x.op=27)→x.a≠x.c
 op:(x.op=1∨x.op=2∨x.op=3∨x.op=21∨x.op=27)∨(28≤x.op∧x.op≤32)∨(5≤x.op∧x.op≤20)
theorem taken_in {p:Pg} {l:List (In5 × Int)} {reg:Int} (h:taken p l reg≠0):0≤reg∧reg<p.regs:=by
 unfold taken at h
 split at h
 ·exact absurd rfl h
 ·omega
theorem right_safe {p:Pg} (hr:rightOk p) {i:Nat} {x:In5} (hx:p.code[i]? =some x):Safe p i x:=by
 obtain ⟨ht,hg,_⟩:=hr.2.1 i x hx
 have hm:=hr.1
 have ho:=hm.2.1 x (List.mem_of_getElem? hx)
 have hop:(x.op=1∨x.op=2∨x.op=3∨x.op=21∨x.op=27)∨(28≤x.op∧x.op≤32)∨(5≤x.op∧x.op≤20):=by
  unfold instrOk hasA hasAB hasABC at ho;omega
 have ha0:0≤x.a:=ho.2.1
 have hty:(types p.cells).length=p.cells.length:=by simp[types]
 have t29:x.op=29→has p.outs x.k∧taken p (pairs p i) x.a=getI p.outs x.k:=fun e=>by
  unfold takesOk at ht;rw[if_neg (by omega),if_neg (by omega),if_neg (by omega),if_neg (by omega),if_pos e] at ht;exact ht
 have t32:x.op=32→has (types p.cells) x.k∧taken p (pairs p i) x.a=getI (types p.cells) x.k:=fun e=>by
  unfold takesOk at ht;rw[if_neg (by omega),if_neg (by omega),if_neg (by omega),if_neg (by omega),if_neg (by omega),if_pos e] at ht;exact ht
 have t30:x.op=30∨x.op=31→0≤x.k∧x.k≤(p.code.length:Int)-1-i∧taken p (pairs p i) x.a=2:=fun e=>by
  unfold takesOk at ht;rw[if_neg (by omega),if_neg (by omega),if_neg (by omega),if_neg (by omega),if_neg (by omega),if_neg (by omega),if_pos e] at ht;exact ht
 have t27:x.op=27→taken p (pairs p i) x.b=2∧taken p (pairs p i) x.c≠0∧taken p (pairs p i) x.k=taken p (pairs p i) x.c:=fun e=>by
  unfold takesOk at ht;rw[if_neg (by omega),if_neg (by omega),if_neg (by omega),if_pos e] at ht;exact ht
 have tS:5≤x.op∧x.op≤20→taken p (pairs p i) x.b≠0∧(x.op≤6∨taken p (pairs p i) x.c=taken p (pairs p i) x.b):=fun e=>by
  unfold takesOk at ht;rw[if_pos e] at ht;exact ⟨ht.1,ht.2.2⟩
 have t3:x.op=3→taken p (pairs p i) x.b≠0:=fun e=>by
  unfold takesOk at ht;rw[if_neg (by omega),if_neg (by omega),if_pos e] at ht;exact ht
 have hne:x.op<29→∀r,taken p (pairs p i) r≠0→x.a≠r:=fun h29 r hr0 g=>by
  rw[←g] at hr0
  exact taken_acc hr0 (hg h29).2.1
 refine ⟨?_,?_,?_,?_,?_,?_,?_,?_,?_,?_,hop⟩
 ·by_cases h29:x.op<29
  ·exact ⟨ha0,(hg h29).1⟩
  ·rcases (by omega:x.op=29∨x.op=32∨(x.op=30∨x.op=31)) with e|e|e
   ·exact taken_in (l:=pairs p i) (by rw[(t29 e).2];have:=in_two hm.2.2.2.1.1 (t29 e).1;omega)
   ·exact taken_in (l:=pairs p i) (by rw[(t32 e).2];have:=in_two (types_two hm) (t32 e).1;omega)
   ·exact taken_in (l:=pairs p i) (by rw[(t30 e).2.2];decide)
 ·rintro (e|e|e)
  ·exact taken_in (t3 e)
  ·exact taken_in (tS e).1
  ·exact taken_in (l:=pairs p i) (by rw[(t27 e).1];decide)
 ·rintro (e|e)
  ·exact taken_in (l:=pairs p i) (by rw[((tS (by omega)).2).resolve_left (by omega)];exact (tS (by omega)).1)
  ·exact taken_in (t27 e).2.1
 ·intro e
  exact taken_in (l:=pairs p i) (by rw[(t27 e).2.2];exact (t27 e).2.1)
 ·rintro (e|e)
  ·have h2:=(hg (by omega)).2.2
   by_cases hh:has (types p.cells) x.k
   ·have:=hh.2;rw[hty] at this;exact ⟨hh.1,this⟩
   ·unfold givesOf at h2;rw[if_neg (by omega),if_neg (by omega),if_neg (by omega),if_neg (by omega),if_neg (fun g=>hh g.2),if_neg (by omega)] at h2;omega
  ·have hh:=(t32 e).1
   have:=hh.2;rw[hty] at this;exact ⟨hh.1,this⟩
 ·intro e
  have h2:=(hg (by omega)).2.2
  by_cases hh:has p.ins x.k
  ·exact hh
  ·unfold givesOf at h2;rw[if_neg (by omega),if_neg (by omega),if_neg (by omega),if_neg (by omega),if_neg (by omega),if_neg (fun g=>hh g.2)] at h2;omega
 ·intro e
  exact (t29 e).1
 ·intro e
  exact ⟨(t30 e).1,(t30 e).2.1⟩
 ·rintro (e|e|e)
  ·exact hne (by omega) _ (t3 e)
  ·exact hne (by omega) _ (tS e).1
  ·exact hne (by omega) _ (by rw[(t27 e).1];decide)
 ·rintro (e|e)
  ·exact hne (by omega) _ (by rw[((tS (by omega)).2).resolve_left (by omega)];exact (tS (by omega)).1)
  ·exact hne (by omega) _ (t27 e).2.1
end Go.Proofs.YtbjaejgechadpaaGreat.Vf
namespace Go.Proofs.YtbjaejgechadpaaGreat
open Go.RowKit Vf
theorem own_far {w:World} {base:Nat} {e:TypeId} {size:Nat} {v:Value} {n:Nat} {xs:List Value} (h:w.ownsRow base e size v n xs) {p:Addr} (hp:∀k,v.ownBlock=some k→k≠p.block) (u:Value):(w.setCell p u).ownsRow base e size v n xs:=by
 refine ⟨h.1,?_⟩
 rcases h.2 with h0|⟨g,c,cur,h1,h2,h3,h4⟩
 ·exact .inl h0
 ·exact .inr ⟨g,c,cur,h1,h2,(Below.heap_setCell w p u g (hp g (by rw[h1];rfl))).trans h3,h4⟩
theorem ints_set (l:List Int) (n:Nat) (v:Int):(ints l).set n (.int .i64 v)=ints (l.set n v):=by simp[ints,List.map_set]
section
variable {w w':World} {C T R O:Nat} {vc vn vi:Value} {cells inn:List Int} {s:Tk}
end
theorem sl_int {w:World} {B:Nat} {l:List Int} {v:Value} {n:Nat} (h:SlV w B 1 isInt v l) (hn:n<l.length):∃b off cap,v= .slice (some ⟨b,off,none⟩) l.length cap∧l.length≤cap∧cap≤9223372036854775807∧b<B∧w.cell? ⟨b,off+n,none⟩=some (.int .i64 (getI l n)):=by
 obtain ⟨A,cap,rfl,h1,h2,h3⟩:=h
 obtain ⟨b,off,x,rfl,hb,hx,_,hc⟩:=h3.int hn
 refine ⟨b,off,cap,rfl,h1,by unfold maxLen at h2;omega,hb,?_⟩
 rw[hc]
 simp[getI,List.getD_eq_getElem?_getD,hx]
theorem in5x {W:World} {b:Nat} {x:In5} {t:TypeId} (h:Row W b #[.int .i64 x.op,.int .i64 x.a,.int .i64 x.b,.int .i64 x.c,.int .i64 x.k] t):W.cell? ⟨b,0,none⟩=some (.int .i64 x.op)∧W.cell? ⟨b,1,none⟩=some (.int .i64 x.a)∧W.cell? ⟨b,2,none⟩=some (.int .i64 x.b)∧W.cell? ⟨b,3,none⟩=some (.int .i64 x.c)∧W.cell? ⟨b,4,none⟩=some (.int .i64 x.k):=
 ⟨h.cell 0,h.cell 1,h.cell 2,h.cell 3,h.cell 4⟩
end Go.Proofs.YtbjaejgechadpaaGreat
namespace Go.Proofs.YtbjaejgechadpaaGreat
open Go.RowKit Vf
attribute [local go_sem ↓] Go.wp_at_zero Go.wp_at_succ
theorem Sl.flatA {α:Type} {w:World} {B size:Nat} {rel:α→List Value→Prop} {ad:Addr} {l:List α} {f:α→List Value} (h:Sl w B size rel (some ad) l) (hf:∀x cs,rel x cs→cs=f x) (hl:∀x,(f x).length=size):
  ∀j u,((l.map f).flatten)[j]? =some u→w.cell? (ad.add j)=some u:=by
 rcases Nat.eq_zero_or_pos l.length with h0|h0
 ·have:l=[]:=List.eq_nil_of_length_eq_zero h0
  subst this
  intro j u hu
  simp at hu
 ·obtain ⟨b,off,hA,_⟩:=h h0
  injection hA with hA
  subst hA
  exact h.flat hf hl
theorem Sl.none {α:Type} {w:World} {B size:Nat} {rel:α→List Value→Prop} {l:List α} (h:Sl w B size rel none l):l=[]:=by
 rcases Nat.eq_zero_or_pos l.length with h0|h0
 ·exact List.eq_nil_of_length_eq_zero h0
 ·obtain ⟨b,off,hA,_⟩:=h h0
  cases hA
def CloneIs {α:Type} (E:TypeId) (size:Nat) (f:α→List Value) (l:List α) (w:World) (e:Ending) (w':World):Prop:=∃v',e= .returned v'∧w'.ownsRow w.heap.size E size v' l.length (l.map f).flatten∧Below w.heap.size w w'
def in5C (x:In5):List Value:=[.int .i64 x.op,.int .i64 x.a,.int .i64 x.b,.int .i64 x.c,.int .i64 x.k]
def cellC (x:Int × Int):List Value:=[.int .i64 x.1,.int .i64 x.2]
theorem cellC_of (x:Int × Int) (cs:List Value) (h:isCell x cs):cs=cellC x:=h.1
theorem cellC_len (x:Int × Int):(cellC x).length=2:=rfl
def intC (x:Int):List Value:=[.int .i64 x]
theorem intC_of (x:Int) (cs:List Value) (h:isInt x cs):cs=intC x:=h.1
theorem intC_len (x:Int):(intC x).length=1:=rfl
theorem intC_flat (l:List Int):(l.map intC).flatten=ints l:=by
 induction l with
 |nil=>rfl
 |cons x l ih=>rw[List.map_cons,List.flatten_cons,ih];rfl
theorem flat_one {α:Type} {f:α→List Value} (hf:∀x,∀u∈f x,u.oneCell'=true) (l:List α):∀u∈(l.map f).flatten,u.oneCell'=true:=by
 intro u hu
 obtain ⟨cs,hcs,hu⟩:=List.mem_flatten.1 hu
 obtain ⟨x,_,rfl⟩:=List.mem_map.1 hcs
 exact hf x u hu
theorem in5C_one (x:In5):∀u∈in5C x,u.oneCell'=true:=by
 intro u hu
 simp only[in5C,List.mem_cons,List.not_mem_nil,or_false] at hu
 rcases hu with rfl|rfl|rfl|rfl|rfl<;>rfl
theorem cellC_one (x:Int × Int):∀u∈cellC x,u.oneCell'=true:=by
 intro u hu
 simp only[cellC,List.mem_cons,List.not_mem_nil,or_false] at hu
 rcases hu with rfl|rfl<;>rfl
theorem info_cell:(Tryz.prog.info? 64).map (fun i=>(i.zero,i.size,i.bytes))=some (some (.agg #[.int .i64 0,.int .i64 0]),2,16):=by kernel_rfl
set_option maxRecDepth 100000 in
set_option maxHeartbeats 1000000 in
theorem clone_cell (l:List (Int × Int)) (v:Value) (w:World) (h:SlV w w.heap.size 2 isCell v l) (hl:l.length≤100000):
  Calls Tryz.prog 25 #[v] w (CloneIs 64 2 cellC l w):=by
 obtain ⟨A,cap,rfl,h1,h2,h3⟩:=h
 have hq:=fun (w:World) (a:Option Addr) (n c:Nat)=>Lib.run_eql_slice_nil (P:=Tryz.prog) w 24 64 a n c 0 0 Tryz.underlying24
 rcases A with _|ad
 ·have h0:=h3.none
  subst h0
  go_enter Tryz.func25,Tryz.ntmps25
  go_wp2_with fail
  go_ret
  exact ⟨_,rfl,⟨by simp,.inl ⟨rfl,rfl⟩⟩,Below.refl _ _⟩
 ·have hN:=(h3.below ((Below.refl _ _).alloc (Nat.le_refl _) (.cells #[] 64))).flatA cellC_of cellC_len
  have HL:=Lib.hid (flat_len (size:=2) (l:=l) cellC_len)
  have HO:=Lib.hid (flat_one cellC_one l)
  obtain ⟨i0,hi0,hz0,hz1,hz2⟩:=info_parts info_cell
  go_enter Tryz.func25,Tryz.ntmps25
  go_wp2_with (at_builtin;refine wpList_append_own _ rfl _ _ 24 rfl w.heap.size 64 i0 (.agg #[.int .i64 0,.int .i64 0]) 2 16 Tryz.underlying24 hi0 hz0 hz1 hz2 rfl (by decide) _ _ _ rfl (own_empty w 64 2) ad l.length cap (l.map cellC).flatten rfl ?c0 ?c1 ?c2 ?c3 ?c4 ?c5 ?_)
  case c0=>exact HL.out
  case c1=>exact hN
  case c2=>exact HO.out
  case c3=>unfold maxLen;omega
  case c4=>omega
  case c5=>simp
  intro v' w1 hown hgrow _
  have bb:=below_own ((Below.refl w.heap.size w).alloc (Nat.le_refl _) (.cells #[] 64)) (own_empty w 64 2) hgrow (by simp)
  (try simp only[Nat.zero_add,List.nil_append] at hown)
  go_wp2_with fail
  go_ret
  exact ⟨_,rfl,hown,bb⟩
def fitsOk (ts vs:List Int):Prop:=typesOk ts∧vs.length=ts.length∧∀(i:Nat) (t v:Int),ts[i]? =some t→vs[i]? =some v→t=2→v=0∨v=1
def fitsAt (ts vs:List Int) (j:Nat):Prop:=∀(t v:Int),ts[j]? =some t→vs[j]? =some v→t=2→v=0∨v=1
theorem fitsAt_mk {ts vs:List Int} {j:Nat} {t v:Int} (ht:ts[j]? =some t) (hv:vs[j]? =some v) (h:t=2→v=0∨v=1):fitsAt ts vs j:=fun t' v' ht' hv'=>by
 rw[ht] at ht'
 rw[hv] at hv'
 injection ht' with ht'
 injection hv' with hv'
 rw[←ht',←hv']
 exact h
theorem fits_no {ts vs:List Int} {j:Nat} {t v:Int} (ht:ts[j]? =some t) (hv:vs[j]? =some v) (h2:t=2) (h:¬(v=0∨v=1)):¬fitsOk ts vs:=fun g=>h (g.2.2 j t v ht hv h2)
theorem fits_yes {ts vs:List Int} (h1:typesOk ts) (h2:vs.length=ts.length) (h:∀j,j<vs.length→fitsAt ts vs j):fitsOk ts vs:=⟨h1,h2,fun i t v ht hv=>h i (List.getElem?_eq_some_iff.1 hv).1 t v ht hv⟩
end Go.Proofs.YtbjaejgechadpaaGreat
