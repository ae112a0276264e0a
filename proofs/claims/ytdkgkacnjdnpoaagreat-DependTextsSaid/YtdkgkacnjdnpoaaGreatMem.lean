/-
  Words for memory: a slice that reads as a list of cells, nil let in; what is kept of it. Slices whose elements read as something: the words for all data of the laws. Results that lie in memory: rows of cells, stored and read whole. Slices of slices; what is appended: words for all data. Slices that read, appended to rows of the call's own: words for all data.
-/
import Derived.Test.YtdkgkacnjdnpoaaGreatZz
import Derived.Test.YtdkgkacnjdnpoaaGreatChecked
import Derived.WalkKit
import Derived.Lib.Hide
import Derived.RowKit3
import Derived.LoopTactic
import Derived.RegionTactic
import Derived.Deep.QuietTactic
import Derived.BigQuiet
import Derived.Deep.AppendLies
import Derived.Deep.Draws
import Derived.Laws.OwnMore
import Derived.WalkSpells
import Derived.OpenShut
import Derived.DataReads
import Derived.Maps.AppendAt
import Derived.Laws.AppendOwnNone
import Derived.Lib.AppendZeros
import Derived.Deep.RegionHeld
namespace Go.Proofs.YtdkgkacnjdnpoaaGreat
open Go.RowKit
theorem add_block (a:Addr) (n:Nat):(a.add n).block=a.block:=by unfold Addr.add;split<;>rfl
def Rd (w:World) (B size:Nat) (A:Option Addr) (n:Nat) (xs:List Value):Prop:=
 xs.length=n*size∧(0<n→∃ad,A=some ad∧ad.block<B∧∀j u,xs[j]? =some u→w.cell? (ad.add j)=some u)
section
variable {w w':World} {B B' size n:Nat} {A:Option Addr} {xs:List Value}
theorem own_base {base base':Nat} {e:TypeId} {v:Value} (h:w.ownsRow base e size v n xs) (hb:base'≤base):w.ownsRow base' e size v n xs:=by
 refine ⟨h.1,?_⟩
 rcases h.2 with h0|⟨g,cap,cur,h1,h2,h3⟩
 ·exact .inl h0
 ·exact .inr ⟨g,cap,cur,h1,by omega,h3⟩
theorem own_rd {base:Nat} {e:TypeId} {v:Value} (h:w.ownsRow base e size v n xs):∃A c,v= .slice A n c∧n≤c∧c≤maxLen∧Rd w w.heap.size size A n xs:=by
 rcases h.2 with ⟨rfl,rfl⟩|⟨g,cap,cur,rfl,_,hh,hc,hm,_⟩
 ·exact ⟨none,0,rfl,Nat.le_refl _,Nat.zero_le _,h.1,fun hn=>absurd hn (by omega)⟩
 ·refine ⟨some ⟨g,0,none⟩,cap,rfl,hc,hm,h.1,fun _=>⟨_,rfl,(h.lt g rfl).2,h.cells rfl⟩⟩
end
def ints (l:List Int):List Value:=l.map (Value.int .i64)
theorem ints_snoc (l:List Int) (x:Int):ints (l++ [x])=ints l++ [.int .i64 x]:=by simp[ints]
theorem cell_one (w:World) (t:TypeId) (x:Value):∀j u,[x][j]? =some u→(w.alloc (.cells #[x] t)).cell? ((⟨w.heap.size,0,none⟩:Addr).add j)=some u:=by
 intro j u h
 match j,h with
 |0,h=>simp at h;subst h;simp[Addr.add]
theorem below_own {B:Nat} {a w w':World} {e:TypeId} {size n:Nat} {v:Value} {xs:List Value} (h:Below B a w) (ho:w.ownsRow B e size v n xs) (hg:w.grownBy w' v.ownBlock) (hB:B≤w.heap.size):Below B a w':=
 h.grown hg hB (fun k hk=>(ho.lt k hk).1)
theorem below_drewN' {B:Nat} {a w:World} (h:Below B a w) (n:Nat):Below B a (w.drewN n):=⟨h.os,h.tape,h.output,h.size,h.block⟩
theorem ret_int {k:IntKind} {a b:Int} (h:a=b):Ending.returned (.int k a)= .returned (.int k b):=by rw[h]
theorem ret_bool {a b:Bool} (h:a=b):Ending.returned (.bool a)= .returned (.bool b):=by rw[h]
theorem info_int:(Tryz.prog.info? 3).map (fun i=>(i.zero,i.size,i.bytes))=some (some (.int .i64 0),1,8):=by kernel_rfl
def Wf (n:Int):Prop:=(Lit.int .i64 n).wf=true
theorem wf_of {n:Int} (h: -9223372036854775808≤n∧n≤9223372036854775807):Wf n:=by
 simpa[Wf,Lit.wf,IntKind.min,IntKind.max,IntKind.signed,IntKind.bits] using h
def Sl {α:Type} (w:World) (B size:Nat) (rel:α→List Value→Prop) (A:Option Addr) (l:List α):Prop:=
 0<l.length→∃b off,A=some ⟨b,off,none⟩∧b<B∧∀i x,l[i]? =some x→∃cs:List Value,(∀j u,cs[j]? =some u→w.cell? ⟨b,off+i*size+j,none⟩=some u)∧rel x cs
def SlV {α:Type} (w:World) (B size:Nat) (rel:α→List Value→Prop) (v:Value) (l:List α):Prop:=
 ∃A cap,v= .slice A l.length cap∧l.length≤cap∧cap≤maxLen∧Sl w B size rel A l
section
variable {α:Type} {w w':World} {B B' size:Nat} {rel rel':α→List Value→Prop} {A:Option Addr} {v:Value} {l:List α}
theorem Sl.keep (h:Sl w B size rel A l) (hk:∀(p:Addr) (u:Value),p.block<B→w.cell? p=some u→w'.cell? p=some u) (hB:B≤B') (hr:∀x∈l,∀cs,rel x cs→rel' x cs):Sl w' B' size rel' A l:=fun hn=>by
 obtain ⟨b,off,hA,hb,hx⟩:=h hn
 refine ⟨b,off,hA,by omega,fun i x hi=>?_⟩
 obtain ⟨cs,hc,hx'⟩:=hx i x hi
 exact ⟨cs,fun j u hu=>hk ⟨b,off+i*size+j,none⟩ u hb (hc j u hu),hr x (List.mem_of_getElem? hi) cs hx'⟩
theorem Sl.below (h:Sl w B size rel A l) (hb:Below B w w'):Sl w' B size rel A l:=h.keep (fun _ _ hp hc=>(hb.cell hp).trans hc) (Nat.le_refl _) (fun _ _ _ h=>h)
theorem Sl.more (h:Sl w B size rel A l) (hB:B≤B'):Sl w B' size rel A l:=h.keep (fun _ _ _ hc=>hc) hB (fun _ _ _ h=>h)
theorem SlV.keep (h:SlV w B size rel v l) (hk:∀(p:Addr) (u:Value),p.block<B→w.cell? p=some u→w'.cell? p=some u) (hB:B≤B') (hr:∀x∈l,∀cs,rel x cs→rel' x cs):SlV w' B' size rel' v l:=by
 obtain ⟨A,cap,h1,h2,h3,h4⟩:=h
 exact ⟨A,cap,h1,h2,h3,h4.keep hk hB hr⟩
theorem SlV.below (h:SlV w B size rel v l) (hb:Below B w w'):SlV w' B size rel v l:=h.keep (fun _ _ hp hc=>(hb.cell hp).trans hc) (Nat.le_refl _) (fun _ _ _ h=>h)
theorem SlV.more (h:SlV w B size rel v l) (hB:B≤B'):SlV w B' size rel v l:=h.keep (fun _ _ _ hc=>hc) hB (fun _ _ _ h=>h)
theorem Sl.at_ {k:Nat} (h:Sl w B size rel A l) (hk:k<l.length):∃b off x cs,A=some ⟨b,off,none⟩∧b<B∧l[k]? =some x∧rel x cs∧∀j u,cs[j]? =some u→w.cell? ⟨b,off+k*size+j,none⟩=some u:=by
 obtain ⟨b,off,hA,hb,hx⟩:=h (by omega)
 have hl:l[k]? =some l[k]:=List.getElem?_eq_getElem hk
 obtain ⟨cs,hc,hr⟩:=hx k _ hl
 exact ⟨b,off,l[k],cs,hA,hb,hl,hr,hc⟩
theorem Sl.nil:Sl w B size rel A []:=fun h=>absurd h (by simp)
theorem SlV.nil:SlV w B size rel (.slice none 0 0) []:=⟨none,0,rfl,Nat.le_refl _,Nat.zero_le _,Sl.nil⟩
end
def isInt (x:Int) (cs:List Value):Prop:=cs=[.int .i64 x]∧Wf x
theorem Sl.int {w:World} {B:Nat} {A:Option Addr} {l:List Int} {k:Nat} (h:Sl w B 1 isInt A l) (hk:k<l.length):∃b off x,A=some ⟨b,off,none⟩∧b<B∧l[k]? =some x∧Wf x∧w.cell? ⟨b,off+k,none⟩=some (.int .i64 x):=by
 obtain ⟨b,off,x,cs,h1,h2,h3,⟨rfl,h4⟩,h5⟩:=h.at_ hk
 exact ⟨b,off,x,h1,h2,h3,h4,by have:=h5 0 _ rfl;simpa using this⟩
def isStr (x:ByteArray) (cs:List Value):Prop:=cs=[.string x]∧x.size≤maxLen
theorem Sl.str {w:World} {B:Nat} {A:Option Addr} {l:List ByteArray} {k:Nat} (h:Sl w B 1 isStr A l) (hk:k<l.length):∃b off x,A=some ⟨b,off,none⟩∧b<B∧l[k]? =some x∧x.size≤maxLen∧w.cell? ⟨b,off+k,none⟩=some (.string x):=by
 obtain ⟨b,off,x,cs,h1,h2,h3,⟨rfl,h4⟩,h5⟩:=h.at_ hk
 exact ⟨b,off,x,h1,h2,h3,h4,by have:=h5 0 _ rfl;simpa using this⟩
theorem flatten_len {α:Type} {k:Nat} {css:List (List α)} (h:∀cs∈css,cs.length=k):css.flatten.length=css.length*k:=by
 induction css with
 |nil=>simp
 |cons c css ih=>
  rw[List.flatten_cons,List.length_append,h c (by simp),ih (fun cs hcs=>h cs (by simp[hcs])),List.length_cons,Nat.add_mul];omega
theorem flatten_get {α:Type} {k:Nat} {css:List (List α)} (h:∀cs∈css,cs.length=k) {i j:Nat} {cs:List α} (hi:css[i]? =some cs) (hj:j<k):css.flatten[i*k+j]? =cs[j]? :=by
 induction css generalizing i with
 |nil=>simp at hi
 |cons c css ih=>
  rw[List.flatten_cons]
  cases i with
  |zero=>
   simp at hi;subst hi
   rw[List.getElem?_append_left (by rw[h c (by simp)];omega),Nat.zero_mul,Nat.zero_add]
  |succ i=>
   have hc:=h c (by simp)
   rw[List.getElem?_append_right (by rw[hc,Nat.add_mul];omega),hc,show (i+1)*k+j-k=i*k+j by rw[Nat.add_mul];omega]
   exact ih (fun cs hcs=>h cs (by simp[hcs])) (by simpa using hi)
def Are {α:Type} (rel:α→List Value→Prop) (l:List α) (css:List (List Value)):Prop:=css.length=l.length∧∀(i:Nat) x cs,l[i]? =some x→css[i]? =some cs→rel x cs
section
variable {α:Type} {w:World} {B size base:Nat} {rel rel':α→List Value→Prop} {v:Value} {l l':List α} {css css':List (List Value)} {e:TypeId} {n:Nat}
theorem Are.nil:Are rel [] []:=⟨rfl,fun i x cs hx _=>by simp at hx⟩
theorem Are.one {x:α} {cs:List Value} (h:rel x cs):Are rel [x] [cs]:=by
 refine ⟨rfl,fun i y cs' hx hc=>?_⟩
 match i,hx,hc with
 |0,hx,hc=>simp at hx hc;subst hx;subst hc;exact h
theorem Are.append (h:Are rel l css) (h':Are rel l' css'):Are rel (l++l') (css++css'):=by
 refine' zq83
theorem Are.mono (h:Are rel l css) (hr:∀x∈l,∀cs,rel x cs→rel' x cs):Are rel' l css:=⟨h.1,fun i x cs hx hc=>hr x (List.mem_of_getElem? hx) cs (h.2 i x cs hx hc)⟩
theorem Are.all (h:Are rel l css) {p:List Value→Prop} (hp:∀x∈l,∀cs,rel x cs→p cs):∀cs∈css,p cs:=by
 intro cs hcs
 obtain ⟨i,hi⟩:=List.getElem?_of_mem hcs
 have hl:i<l.length:=by rw[←h.1];exact (List.getElem?_eq_some_iff.1 hi).1
 exact hp _ (List.getElem_mem hl) cs (h.2 i _ cs (List.getElem?_eq_getElem hl) hi)
theorem own_sl (h:w.ownsRow base e size v n css.flatten) (hx:Are rel l css) (hs:∀cs∈css,cs.length=size) (hsz:0<size):SlV w w.heap.size size rel v l∧n=l.length:=by
 have hn:n=l.length:=by
  have:=h.1
  rw[flatten_len hs,hx.1] at this
  exact (Nat.eq_of_mul_eq_mul_right hsz this).symm
 subst hn
 refine ⟨?_,rfl⟩
 obtain ⟨A,c,hv,h1,h2,hr⟩:=own_rd h
 refine ⟨A,c,hv,h1,h2,fun hn=>?_⟩
 rcases h.2 with ⟨_,h0⟩|⟨g,cap,cur,hv',hb,hh,hc,hm,hcs,ht⟩
 ·omega
 ·refine' zq162
  refine ⟨css[i],fun j u hu=>?_,hx.2 i x _ hi (List.getElem?_eq_getElem hil)⟩
  have hj:j<size:=by rw[←hs css[i] (List.getElem_mem hil)];exact (List.getElem?_eq_some_iff.1 hu).1
  have:=h.cells (g:=g) (by rw[hv,hA];rfl) (i*size+j) u (by rw[flatten_get hs (List.getElem?_eq_getElem hil) hj];exact hu)
  rwa [Addr.add_lit,←Nat.add_assoc] at this
end
theorem own_some {w:World} {base:Nat} {e:TypeId} {size:Nat} {v:Value} {n:Nat} {xs:List Value} (h:w.ownsRow base e size v n xs) (hn:0<n):∃g c,v= .slice (some ⟨g,0,none⟩) n c:=by
 rcases h.2 with ⟨_,h0⟩|⟨g,c,_,h,_⟩
 ·omega
 ·exact ⟨g,c,h⟩
theorem own_below {w w':World} {base:Nat} {e:TypeId} {size:Nat} {v:Value} {n:Nat} {xs:List Value} (h:w.ownsRow base e size v n xs) (hb:Below w.heap.size w w'):w'.ownsRow base e size v n xs:=by
 refine ⟨h.1,?_⟩
 rcases h.2 with h0|⟨g,c,cur,h1,h2,h3,h4⟩
 ·exact .inl h0
 ·have hg:g<w.heap.size:=by
   rcases Nat.lt_or_ge g w.heap.size with hlt|hge
   ·exact hlt
   ·rw[Array.getElem?_eq_none hge] at h3;cases h3
  exact .inr ⟨g,c,cur,h1,h2,(hb.block g hg).trans h3,h4⟩
def Row (W:World) (b:Nat) (cs:Array Value) (t:TypeId):Prop:=W.heap[b]? =some (.cells cs t (0,0))
section
variable {W W':World} {b B:Nat} {cs:Array Value} {t:TypeId}
theorem Row.cell (h:Row W b cs t) (i:Nat):W.cell? ⟨b,i,none⟩=cs[i]? :=cell_of_row W b i cs t (0,0) h
theorem Row.frozen (h:Row W b cs t) (i:Nat):W.frozen? ⟨b,i,none⟩=false:=by
 unfold Row at h
 simp[World.frozen?,h]
theorem Row.new (W:World) (cs:Array Value) (t:TypeId):Row (W.alloc (.cells cs t)) W.heap.size cs t:=heap_alloc_new W _
theorem rowNew2 (W:World) (o:Obj) (cs:Array Value) (t:TypeId):Row ((W.alloc o).alloc (.cells cs t)) (W.heap.size+1) cs t:=by
 have:=Row.new (W.alloc o) cs t
 rwa [World.size_alloc] at this
theorem rowNew3 (W:World) (o o':Obj) (cs:Array Value) (t:TypeId):Row (((W.alloc o).alloc o').alloc (.cells cs t)) (W.heap.size+2) cs t:=by
 have:=Row.new ((W.alloc o).alloc o') cs t
 rwa [World.size_alloc,World.size_alloc] at this
theorem Row.lt (h:Row W b cs t):b<W.heap.size:=(Array.getElem?_eq_some_iff.1 h).1
theorem Row.drew (h:Row W b cs t):Row W.drew b cs t:=h
theorem Row.drewN (h:Row W b cs t) (n:Nat):Row (W.drewN n) b cs t:=h
theorem Row.alloc (h:Row W b cs t) (o:Obj):Row (W.alloc o) b cs t:=(Below.heap_alloc W o b h.lt).trans h
theorem Row.below (h:Row W b cs t) (hb:Below B W W') (hB:b<B):Row W' b cs t:=(hb.block b hB).trans h
theorem Row.set (h:Row W b cs t) (i:Nat) (u:Value):Row (W.setCell ⟨b,i,none⟩ u) b (cs.setIfInBounds i u) t:=by
 unfold Row at h⊢
 simp[World.setCell,Array.getElem?_modify,h]
theorem Row.far (h:Row W b cs t) {p:Addr} (hp:b≠p.block) (u:Value):Row (W.setCell p u) b cs t:=(Below.heap_setCell W p u b hp).trans h
end
structure Upd (X:Nat→Prop) (w w':World):Prop where
 os:w'.os=w.os
 tape:w'.tape=w.tape
 output:w'.output=w.output
 size:w.heap.size≤w'.heap.size
 block:∀k,k<w.heap.size→¬X k→w'.heap[k]? =w.heap[k]?
section
variable {X:Nat→Prop} {a w w':World}
theorem Upd.refl (X:Nat→Prop) (w:World):Upd X w w:=⟨rfl,rfl,rfl,Nat.le_refl _,fun _ _ _=>rfl⟩
theorem Upd.trans (h:Upd X a w) (k:Upd X w w'):Upd X a w':=⟨k.os.trans h.os,k.tape.trans h.tape,k.output.trans h.output,Nat.le_trans h.size k.size,fun i hi hX=>(k.block i (Nat.lt_of_lt_of_le hi h.size) hX).trans (h.block i hi hX)⟩
theorem Upd.alloc (h:Upd X a w) (o:Obj):Upd X a (w.alloc o):=⟨h.os,h.tape,h.output,Nat.le_trans h.size (by simp),fun i hi hX=>(Below.heap_alloc w o i (Nat.lt_of_lt_of_le hi h.size)).trans (h.block i hi hX)⟩
theorem Upd.drew (h:Upd X a w):Upd X a w.drew:=⟨h.os,h.tape,h.output,h.size,h.block⟩
theorem Upd.setCell (h:Upd X a w) {p:Addr} (hp:X p.block) (u:Value):Upd X a (w.setCell p u):=
 ⟨h.os,h.tape,h.output,by simpa[World.setCell] using h.size,fun i hi hX=>(Below.heap_setCell w p u i (fun e=>hX (e▸hp))).trans (h.block i hi hX)⟩
theorem Upd.below {B:Nat} (h:Upd X a w) (hX:∀k,X k→B≤k) (hB:B≤a.heap.size):Below B a w:=⟨h.os,h.tape,h.output,h.size,fun k hk=>h.block k (by omega) (fun hx=>by have:=hX k hx;omega)⟩
theorem Upd.of_below (h:Below a.heap.size a w):Upd X a w:=⟨h.os,h.tape,h.output,h.size,fun k hk _=>h.block k hk⟩
theorem Upd.row (h:Upd X w w') {b:Nat} {cs:Array Value} {t:TypeId} (hr:Row w b cs t) (hX:¬X b):Row w' b cs t:=(h.block b hr.lt hX).trans hr
theorem Upd.mono {Y:Nat→Prop} (h:Upd X a w) (hXY:∀k,X k→Y k):Upd Y a w:=⟨h.os,h.tape,h.output,h.size,fun k hk hY=>h.block k hk (fun hx=>hY (hXY k hx))⟩
end
section
variable {H:Type} {enc:TypeId × Value→H} {P:Program} {w:World} {spare:Nat→Bool} {held:Bool}
theorem spot_none {p:Addr} {v:Value} (h:w.cell? p=some v):p.spot=none:=World.cell?_spot h
theorem open_sl {α:Type} {t e:TypeId} {size:Nat} {rel:α→List Value→Prop} (ht:P.underlying t=some (.slice e)) (hC:P.cellsOf e=size) (hsz:0<size) (fuel:Nat)
  (hop:∀n,n<fuel→∀cs x,DataW.trod enc P w 0 spare held n e cs=some x→∃y,rel y cs) (hlen:∀y cs,rel y cs→cs.length=size) (dflt:α)
  {c:Value} {x:DataW H × List MemPlace} (h:DataW.trod enc P w 0 spare held fuel t [c]=some x):∃l,SlV w w.heap.size size rel c l:=by
 rcases DataW.trod_slice ht h with ⟨hc,_⟩|⟨a,len,cap,elems,rest,k,hk,hc,_,_,hlc,hcm,hel,hr,_⟩
 ·simp at hc;subst hc
  exact ⟨[],SlV.nil⟩
 ·simp at hc;subst hc
  have key:∀i,i<len→∃y cs',(w.cells? 0 (a.add (i*size)) size=some cs')∧rel y cs':=by
   intro i hi
   have h:=hr i hi
   rw[hC,List.getElem?_eq_getElem (by omega),Option.bind_eq_some_iff] at h
   obtain ⟨cs',h1,h2⟩:=h
   obtain ⟨y,hy⟩:=hop k (by omega) cs' _ h2
   exact ⟨y,cs',h1,hy⟩
  obtain ⟨f,hfn⟩:∃f:Nat→α,∀i,i<len→∃cs',(w.cells? 0 (a.add (i*size)) size=some cs')∧rel (f i) cs':=
   ⟨fun i=>if h:i<len then Classical.choose (key i h) else dflt,fun i hi=>by simp only[dif_pos hi];exact Classical.choose_spec (key i hi)⟩
  have hlen':((List.range len).map f).length=len:=by simp
  refine ⟨(List.range len).map f,some a,cap,by rw[hlen'],by rw[hlen'];exact hlc,hcm,fun hp=>?_⟩
  rw[hlen'] at hp
  obtain ⟨cs0,hc0,hx0⟩:=hfn 0 hp
  have hcell:=(World.cells?_some hc0).2.2 0 hsz
  have hl0:cs0.length=size:=hlen _ _ hx0
  rw[List.getElem?_eq_getElem (by omega)] at hcell
  have hspot:=spot_none hcell
  have hblk:a.block<w.heap.size:=by
   have:((a.add (0*size)).add 0).block<w.heap.size:=by
    simp only[World.cell?] at hcell
    rcases Nat.lt_or_ge ((a.add (0*size)).add 0).block w.heap.size with h|h
    ·exact h
    ·rw[Array.getElem?_eq_none h] at hcell;cases hcell
   rwa [add_block,add_block] at this
  obtain ⟨b,off,spot⟩:=a
  have:spot=none:=by simpa[Addr.add] using hspot
  subst this
  refine ⟨b,off,rfl,hblk,fun i x hi=>?_⟩
  have hil:i<len:=by have:=(List.getElem?_eq_some_iff.1 hi).1;rwa [hlen'] at this
  obtain ⟨cs',hc',hx'⟩:=hfn i hil
  have hxe:x=f i:=by rw[List.getElem?_map,List.getElem?_range hil] at hi;simpa using hi.symm
  subst hxe
  refine ⟨cs',fun j u hu=>?_,hx'⟩
  have hj:j<size:=by rw[←hlen _ _ hx'];exact (List.getElem?_eq_some_iff.1 hu).1
  have:=(World.cells?_some hc').2.2 j hj
  rw[hu,Addr.add_lit,Addr.add_lit] at this
  exact this
end
section
variable {W:World} {b:Nat} {t:TypeId}
theorem Row.set3 {x0 x1 x2:Value} (h:Row W b #[x0,x1,x2] t) (y0 y1 y2:Value):Row (((W.setCell ⟨b,0,none⟩ y0).setCell ⟨b,1,none⟩ y1).setCell ⟨b,2,none⟩ y2) b #[y0,y1,y2] t:=by
 have:=((h.set 0 y0).set 1 y1).set 2 y2
 simpa using this
theorem Row.set5 {x0 x1 x2 x3 x4:Value} (h:Row W b #[x0,x1,x2,x3,x4] t) (y0 y1 y2 y3 y4:Value):
  Row (((((W.setCell ⟨b,0,none⟩ y0).setCell ⟨b,1,none⟩ y1).setCell ⟨b,2,none⟩ y2).setCell ⟨b,3,none⟩ y3).setCell ⟨b,4,none⟩ y4) b #[y0,y1,y2,y3,y4] t:=by
 have:=((((h.set 0 y0).set 1 y1).set 2 y2).set 3 y3).set 4 y4
 simpa using this
theorem Row.set7 {x0 x1 x2 x3 x4 x5 x6:Value} (h:Row W b #[x0,x1,x2,x3,x4,x5,x6] t) (y0 y1 y2 y3 y4 y5 y6:Value):
  Row (((((((W.setCell ⟨b,0,none⟩ y0).setCell ⟨b,1,none⟩ y1).setCell ⟨b,2,none⟩ y2).setCell ⟨b,3,none⟩ y3).setCell ⟨b,4,none⟩ y4).setCell ⟨b,5,none⟩ y5).setCell ⟨b,6,none⟩ y6) b #[y0,y1,y2,y3,y4,y5,y6] t:=by
 have:=((((((h.set 0 y0).set 1 y1).set 2 y2).set 3 y3).set 4 y4).set 5 y5).set 6 y6
 simpa using this
theorem Row.three {x0 x1 x2:Value} (h:Row W b #[x0,x1,x2] t):(W.cell? ⟨b,0,none⟩=some x0∧W.cell? ⟨b,1,none⟩=some x1∧W.cell? ⟨b,2,none⟩=some x2)∧(W.frozen? ⟨b,0,none⟩=false∧W.frozen? ⟨b,1,none⟩=false∧W.frozen? ⟨b,2,none⟩=false):=
 ⟨⟨(h.cell 0).trans rfl,(h.cell 1).trans rfl,(h.cell 2).trans rfl⟩,h.frozen 0,h.frozen 1,h.frozen 2⟩
theorem Row.seven {x0 x1 x2 x3 x4 x5 x6:Value} (h:Row W b #[x0,x1,x2,x3,x4,x5,x6] t):(W.cell? ⟨b,0,none⟩=some x0∧W.cell? ⟨b,1,none⟩=some x1∧W.cell? ⟨b,2,none⟩=some x2∧W.cell? ⟨b,3,none⟩=some x3∧W.cell? ⟨b,4,none⟩=some x4∧W.cell? ⟨b,5,none⟩=some x5∧W.cell? ⟨b,6,none⟩=some x6)∧
  (W.frozen? ⟨b,0,none⟩=false∧W.frozen? ⟨b,1,none⟩=false∧W.frozen? ⟨b,2,none⟩=false∧W.frozen? ⟨b,3,none⟩=false∧W.frozen? ⟨b,4,none⟩=false∧W.frozen? ⟨b,5,none⟩=false∧W.frozen? ⟨b,6,none⟩=false):=
 ⟨⟨(h.cell 0).trans rfl,(h.cell 1).trans rfl,(h.cell 2).trans rfl,(h.cell 3).trans rfl,(h.cell 4).trans rfl,(h.cell 5).trans rfl,(h.cell 6).trans rfl⟩,h.frozen 0,h.frozen 1,h.frozen 2,h.frozen 3,h.frozen 4,h.frozen 5,h.frozen 6⟩
end
theorem res1 {P:Program} {fn:Func} {p:Tmp} {ty:TypeId} {d:TypeDesc} {cs:Array Value} (h:fn.results= #[.cell p ty]) (hu:P.underlying ty=some d) (hd:(match d with| .struct _| .array _ _=>true|_=>false)=true) (hi:(P.info? ty).map (·.size)=some cs.size)
  {tmps:Array Value} {w:World} {g:Nat} {t:TypeId} (hp:tmps.getD p undef= .pointer (some ⟨g,0,none⟩)) (hg:Row w g cs t):(results fn tmps).run P w= .ok (.agg cs) w:=
 results_cell_row h tmps w g t cs (0,0) d hp hg hu hd hi
theorem res2 {P:Program} {fn:Func} {p q:Tmp} {ty:TypeId} {d:TypeDesc} {cs:Array Value} (h:fn.results= #[.cell p ty,.tmp q]) (hu:P.underlying ty=some d) (hd:(match d with| .struct _| .array _ _=>true|_=>false)=true) (hi:(P.info? ty).map (·.size)=some cs.size)
  {tmps:Array Value} {w:World} {g:Nat} {t:TypeId} {u:Value} (hp:tmps.getD p undef= .pointer (some ⟨g,0,none⟩)) (hq:tmps.getD q undef=u) (hg:Row w g cs t):(results fn tmps).run P w= .ok (.tuple #[.agg cs,u]) w:=by
 refine' zq120
 simp[results,h,hp',hq',asAddr,run_loadVar_row w g t ty cs (0,0) d hg hu hd hi]
section
variable {α:Type} {w w':World} {B size b off:Nat} {rel:α→List Value→Prop} {A:Option Addr} {l:List α}
theorem Sl.get (h:Sl w B size rel (some ⟨b,off,none⟩) l) {i:Nat} {x:α} (hi:l[i]? =some x):∃cs:List Value,(∀j u,cs[j]? =some u→w.cell? ⟨b,off+i*size+j,none⟩=some u)∧rel x cs:=by
 obtain ⟨b',off',hA,hb,hx⟩:=h (by have:=(List.getElem?_eq_some_iff.1 hi).1;omega)
 injection hA with hA
 injection hA with h1 h2
 subst h1;subst h2
 exact hx i x hi
theorem Sl.take (h:Sl w B size rel A l) (k:Nat):Sl w B size rel A (l.take k):=fun hl=>by
 have hl':0<l.length:=by rw[List.length_take] at hl;omega
 obtain ⟨b',off',hA,hb,hx⟩:=h hl'
 refine ⟨b',off',hA,hb,fun i x hi=>hx i x ?_⟩
 rw[List.getElem?_take] at hi
 split at hi
 ·exact hi
 ·cases hi
theorem Sl.flat {f:α→List Value} (h:Sl w B size rel (some ⟨b,off,none⟩) l) (hf:∀x cs,rel x cs→cs=f x) (hl:∀x,(f x).length=size):
  ∀j u,((l.map f).flatten)[j]? =some u→w.cell? ((⟨b,off,none⟩:Addr).add j)=some u:=by
 intro j u hu
 have hc:∀cs∈l.map f,cs.length=size:=fun cs hcs=>by
  obtain ⟨x,_,rfl⟩:=List.mem_map.1 hcs
  exact hl x
 have hj:j<l.length*size:=by
  have:=(List.getElem?_eq_some_iff.1 hu).1
  rwa [flatten_len hc,List.length_map] at this
 have hs:0<size:=by
  rcases Nat.eq_zero_or_pos size with h0|h0
  ·rw[h0] at hj;omega
  ·exact h0
 have hi:j/size<l.length:=Nat.div_lt_of_lt_mul (by rwa [Nat.mul_comm] at hj)
 have hr:j % size<size:=Nat.mod_lt _ hs
 have he:j=j/size*size+j % size:=by rw[Nat.mul_comm];exact (Nat.div_add_mod j size).symm
 obtain ⟨cs,h1,h2⟩:=h.get (List.getElem?_eq_getElem hi)
 have hcs:=hf _ _ h2
 have hg:(l.map f)[j/size]? =some cs:=by rw[List.getElem?_map,List.getElem?_eq_getElem hi,hcs];rfl
 have:=flatten_get hc hg hr
 rw[←he,hu] at this
 have:=h1 (j % size) u this.symm
 rw[Addr.add_lit]
 rw[he]
 rwa [Nat.add_assoc] at this
theorem flat_len {f:α→List Value} (hl:∀x,(f x).length=size):((l.map f).flatten).length=l.length*size:=by
 have hc:∀cs∈l.map f,cs.length=size:=fun cs hcs=>by
  obtain ⟨x,_,rfl⟩:=List.mem_map.1 hcs
  exact hl x
 rw[flatten_len hc,List.length_map]
theorem Are.map {f:α→List Value} (h:∀x∈l,rel x (f x)):Are rel l (l.map f):=⟨by simp,fun i x cs hx hc=>by
 rw[List.getElem?_map,hx] at hc
 simp at hc
 rw[←hc]
 exact h x (List.mem_of_getElem? hx)⟩
theorem Sl.all {P:α→Prop} (h:Sl w B size rel A l) (hp:∀x cs,rel x cs→P x):∀x∈l,P x:=fun x hx=>by
 obtain ⟨i,hi⟩:=List.getElem?_of_mem hx
 obtain ⟨b,off,y,cs,_,_,hy,hr,_⟩:=h.at_ (List.getElem?_eq_some_iff.1 hi).1
 rw[hi] at hy
 injection hy with hy
 rw[hy]
 exact hp _ _ hr
end
section
variable {P:Program} (w:World)
theorem wp_append_any {o:Oper} {a:Act} {K:Act→World→Prop} {Q:Exit→Act→World→Prop} (s x:Operand) (t:TypeId)
  (ho:o.op= .call {callee:= .builtin .append,args:= #[s,x],argTypes:= #[t,t]})
  (base:Nat) (e:TypeId) (i:TypeInfo) (z:Value) (size bytes:Nat) (ht:P.underlying t=some (.slice e)) (hi:P.info? e=some i) (hz:i.zero=some z)
  (hsize:i.size=size) (hby:i.bytes=bytes) (hzs:z.cells.size=size) (hsz:0<size)
  (v:Value) (n:Nat) (xs:List Value) (hs:a.eval s=v) (hown:w.ownsRow base e size v n xs)
  (ad:Addr) (m c:Nat) (news:List Value) (hx:a.eval x= .slice (some ad) m c) (hl:news.length=m*size) (hnews:∀j u,news[j]? =some u→w.cell? (ad.add j)=some u) (h1:∀u∈news,u.oneCell'=true)
  (h63:n+m≤maxLen) (hbytes:(n+m)*bytes≤140737488355328) (hbase:base≤w.heap.size)
  (h:∀v' w',w'.ownsRow base e size v' (n+m) (xs++news)→w.grownBy w' v.ownBlock→(v'.ownBlock=v.ownBlock∨v'.ownBlock=some w.heap.size)→K (a.put o.dst v') w'):o.wp P a w K Q:=by
 obtain ⟨v',w',hr,h2,h3,_,h5⟩:=run_append_own_at (P:=P) w base t o.type e i z size bytes ht hi hz hsize hby hzs hsz v n xs hown ad m c news hl hnews h1 h63 hbytes hbase
 unfold Oper.wp execOp
 simp only[ho,resolve,invoke,builtin,Sem.run_bind,Sem.run_pure,Result.andThen_ok,List.map_toArray,List.map_cons,List.map_nil,hs,hx,hr]
 exact h v' w' h2 h3 h5
theorem step_append_any {ops:Array Oper} {o:Oper} {a:Act} {K:Act→World→Prop} {Q:Exit→Act→World→Prop} {E:Prop} (hgd:o.guard=none) (s x:Operand) (t:TypeId)
  (ho:o.op= .call {callee:= .builtin .append,args:= #[s,x],argTypes:= #[t,t]})
  (base:Nat) (e:TypeId) (i:TypeInfo) (z:Value) (size bytes:Nat) (ht:P.underlying t=some (.slice e)) (hi:P.info? e=some i) (hz:i.zero=some z)
  (hsize:i.size=size) (hby:i.bytes=bytes) (hzs:z.cells.size=size) (hsz:0<size)
  (v:Value) (n:Nat) (xs:List Value) (hs:a.eval s=v) (hown:w.ownsRow base e size v n xs)
  (ad:Addr) (m c:Nat) (news:List Value) (hx:a.eval x= .slice (some ad) m c) (hl:news.length=m*size) (hnews:∀j u,news[j]? =some u→w.cell? (ad.add j)=some u) (h1:∀u∈news,u.oneCell'=true)
  (h63:n+m≤maxLen) (hbytes:(n+m)*bytes≤140737488355328) (hbase:base≤w.heap.size)
  (h:∀v' w',w'.ownsRow base e size v' (n+m) (xs++news)→w.grownBy w' v.ownBlock→(v'.ownBlock=v.ownBlock∨v'.ownBlock=some w.heap.size)→K (a.put o.dst v') w'):
  if Region.wanted o (yielded ops a.tmps)=true then Oper.wp P o a w K Q else E:=by
 refine' zq121
 exact wp_append_any w s x t ho base e i z size bytes ht hi hz hsize hby hzs hsz v n xs hs hown ad m c news hx hl hnews h1 h63 hbytes hbase h
theorem wpList_append_any {ops:Array Oper} {rest:List Oper} {o:Oper} {a:Act} {Q:Exit→Act→World→Prop} (hgd:o.guard=none) (s x:Operand) (t:TypeId)
  (ho:o.op= .call {callee:= .builtin .append,args:= #[s,x],argTypes:= #[t,t]})
  (base:Nat) (e:TypeId) (i:TypeInfo) (z:Value) (size bytes:Nat) (ht:P.underlying t=some (.slice e)) (hi:P.info? e=some i) (hz:i.zero=some z)
  (hsize:i.size=size) (hby:i.bytes=bytes) (hzs:z.cells.size=size) (hsz:0<size)
  (v:Value) (n:Nat) (xs:List Value) (hs:a.eval s=v) (hown:w.ownsRow base e size v n xs)
  (ad:Addr) (m c:Nat) (news:List Value) (hx:a.eval x= .slice (some ad) m c) (hl:news.length=m*size) (hnews:∀j u,news[j]? =some u→w.cell? (ad.add j)=some u) (h1:∀u∈news,u.oneCell'=true)
  (h63:n+m≤maxLen) (hbytes:(n+m)*bytes≤140737488355328) (hbase:base≤w.heap.size)
  (h:∀v' w',w'.ownsRow base e size v' (n+m) (xs++news)→w.grownBy w' v.ownBlock→(v'.ownBlock=v.ownBlock∨v'.ownBlock=some w.heap.size)→wpList P ops Q rest (a.put o.dst v') w'):wpList P ops Q (o::rest) a w:=
 wpList_plain hgd fun _ hK=>wp_append_any w s x t ho base e i z size bytes ht hi hz hsize hby hzs hsz v n xs hs hown ad m c news hx hl hnews h1 h63 hbytes hbase fun v' w' h2 h3 h4=>hK _ _ (h v' w' h2 h3 h4)
end
theorem own_empty (w:World) (e:TypeId) (size:Nat):(w.alloc (.cells #[] e)).ownsRow w.heap.size e size (.slice (some ⟨w.heap.size,0,none⟩) 0 0) 0 []:=
 ⟨by simp,.inr ⟨w.heap.size,0,#[],rfl,Nat.le_refl _,heap_alloc_new w _,Nat.le_refl _,Nat.zero_le _,by simp,by simp⟩⟩
section
variable {α:Type} {w w':World} {B size:Nat} {rel:α→List Value→Prop} {A:Option Addr} {l:List α}
theorem Sl.css (h:Sl w B size rel A l) (hs:∀x cs,rel x cs→cs.length=size):∃css:List (List Value),Are rel l css∧∀ad,A=some ad→∀j u,css.flatten[j]? =some u→w.cell? (ad.add j)=some u:=by
 rcases Nat.eq_zero_or_pos l.length with h0|h0
 ·obtain rfl:=List.eq_nil_of_length_eq_zero h0
  exact ⟨[],Are.nil,fun _ _ j u hu=>by simp at hu⟩
 obtain ⟨b,off,rfl,hb,hx⟩:=h h0
 have key:∀i,∃cs:List Value,∀x,l[i]? =some x→(∀j u,cs[j]? =some u→w.cell? ⟨b,off+i*size+j,none⟩=some u)∧rel x cs:=fun i=>by
  cases hi:l[i]? with
  |none=>exact ⟨[],fun x h=>by cases h⟩
  |some y=>
   obtain ⟨cs,h1,h2⟩:=hx i y hi
   exact ⟨cs,fun x h=>by injection h with h;subst h;exact ⟨h1,h2⟩⟩
 obtain ⟨f,hf⟩:∃f:Nat→List Value,∀i x,l[i]? =some x→(∀j u,(f i)[j]? =some u→w.cell? ⟨b,off+i*size+j,none⟩=some u)∧rel x (f i):=
  ⟨fun i=>Classical.choose (key i),fun i=>Classical.choose_spec (key i)⟩
 have hgs:∀i cs,((List.range l.length).map f)[i]? =some cs→i<l.length∧cs=f i:=fun i cs h=>by
  rw[List.getElem?_map] at h
  rcases Nat.lt_or_ge i l.length with hi|hi
  ·rw[List.getElem?_range hi] at h
   exact ⟨hi,by simpa using h.symm⟩
  ·rw[List.getElem?_eq_none (by simpa using hi)] at h
   cases h
 have hlen:∀cs∈(List.range l.length).map f,cs.length=size:=fun cs hcs=>by
  obtain ⟨i,hi⟩:=List.getElem?_of_mem hcs
  obtain ⟨h1,rfl⟩:=hgs i cs hi
  exact hs _ _ (hf i _ (List.getElem?_eq_getElem h1)).2
 refine ⟨(List.range l.length).map f,⟨by simp,fun i x cs hx hc=>?_⟩,fun ad had j u hu=>?_⟩
 ·obtain ⟨_,rfl⟩:=hgs i cs hc
  exact (hf i x hx).2
 ·injection had with had
  subst had
  have hj:j<l.length*size:=by
   have:=(List.getElem?_eq_some_iff.1 hu).1
   rwa [flatten_len hlen,List.length_map,List.length_range] at this
  have hs0:0<size:=by
   rcases Nat.eq_zero_or_pos size with h0|h0
   ·rw[h0] at hj;omega
   ·exact h0
  have hi:j/size<l.length:=Nat.div_lt_of_lt_mul (by rwa [Nat.mul_comm] at hj)
  have hr:j % size<size:=Nat.mod_lt _ hs0
  have he:j=j/size*size+j % size:=by rw[Nat.mul_comm];exact (Nat.div_add_mod j size).symm
  have hg:((List.range l.length).map f)[j/size]? =some (f (j/size)):=by rw[List.getElem?_map,List.getElem?_range hi];rfl
  have:=flatten_get hlen hg hr
  rw[←he,hu] at this
  have:=(hf (j/size) _ (List.getElem?_eq_getElem hi)).1 (j % size) u this.symm
  rw[Addr.add_lit]
  rw[he]
  rwa [Nat.add_assoc] at this
theorem Are.len {css:List (List Value)} (h:Are rel l css) (hs:∀x cs,rel x cs→cs.length=size):css.flatten.length=l.length*size:=by
 rw[flatten_len (h.all (fun x _ cs hr=>hs x cs hr)),h.1]
end
theorem run_append_own_nil {P:Program} {w:World} (base:Nat) (t ty e:TypeId) (i:TypeInfo) (size:Nat) (ht:P.underlying t=some (.slice e)) (hi:P.info? e=some i)
  (v:Value) (n c:Nat) (xs:List Value) (hown:w.ownsRow base e size v n xs):
  (Builtin.append_ #[t,t] ty #[v,.slice none 0 c]).run P w= .ok v w:=by
 rcases hown.2 with ⟨rfl,rfl⟩|⟨g,cap,cur,rfl,_,_,hnc,_⟩
 ·simp[Builtin.append_,run_underlying ht,sizeOf,typeInfo,hi,Builtin.lenOf,Builtin.firstCells]
 ·simp[Builtin.append_,run_underlying ht,sizeOf,typeInfo,hi,Builtin.lenOf,Builtin.firstCells,hnc,storeCells]
section
variable {P:Program} {w:World}
theorem wp_append_sl {α:Type} {B:Nat} {rel:α→List Value→Prop} {o:Oper} {a:Act} {K:Act→World→Prop} {Q:Exit→Act→World→Prop} (s x:Operand) (t:TypeId)
  (ho:o.op= .call {callee:= .builtin .append,args:= #[s,x],argTypes:= #[t,t]})
  (base:Nat) (e:TypeId) (i:TypeInfo) (z:Value) (size bytes:Nat) (ht:P.underlying t=some (.slice e)) (hi:P.info? e=some i) (hz:i.zero=some z)
  (hsize:i.size=size) (hby:i.bytes=bytes) (hzs:z.cells.size=size) (hsz:0<size)
  (v:Value) (n:Nat) (xs:List Value) (hs:a.eval s=v) (hown:w.ownsRow base e size v n xs)
  (A:Option Addr) (l:List α) (c:Nat) (hx:a.eval x= .slice A l.length c) (hsl:Sl w B size rel A l) (hr:∀x cs,rel x cs→cs.length=size∧∀u∈cs,u.oneCell'=true)
  (h63:n+l.length≤maxLen) (hbytes:(n+l.length)*bytes≤140737488355328) (hbase:base≤w.heap.size)
  (h:∀v' w' css,w'.ownsRow base e size v' (n+l.length) (xs++css.flatten)→Are rel l css→Below base w w'→w.grownBy w' v.ownBlock→K (a.put o.dst v') w'):o.wp P a w K Q:=by
 obtain ⟨css,hare,hc⟩:=hsl.css (fun x cs h=>(hr x cs h).1)
 have hl:=hare.len (fun x cs h=>(hr x cs h).1)
 have hone:∀u∈css.flatten,u.oneCell'=true:=fun u hu=>by
  obtain ⟨cs,hcs,hu⟩:=List.mem_flatten.1 hu
  exact hare.all (p:=fun cs=>∀u∈cs,u.oneCell'=true) (fun x _ cs h=>(hr x cs h).2) cs hcs u hu
 cases A with
 |none=>
  have hl0:l.length=0:=by
   rcases Nat.eq_zero_or_pos l.length with h0|h0
   ·exact h0
   ·obtain ⟨_,_,h,_⟩:=hsl h0
    cases h
  have hc0:css.flatten=[]:=List.eq_nil_of_length_eq_zero (by rw[hl,hl0,Nat.zero_mul])
  rw[hl0] at hx
  have hrun:=run_append_own_nil (P:=P) base t o.type e i size ht hi v n c xs hown
  unfold Oper.wp
  simp[execOp,ho,resolve,invoke,builtin,hs,hx,hrun,Result.andThen]
  refine h v w css ?_ hare (Below.refl _ _) ⟨rfl,rfl,rfl,Nat.le_refl _,fun _ _ _=>rfl⟩
  rw[hc0,List.append_nil,hl0,Nat.add_zero]
  exact hown
 |some ad=>
  refine wp_append_any w s x t ho base e i z size bytes ht hi hz hsize hby hzs hsz v n xs hs hown ad l.length c css.flatten hx hl (hc ad rfl) hone h63 hbytes hbase ?_
  intro v' w' h2 h3 _
  exact h v' w' css h2 hare (below_own (Below.refl _ _) hown h3 hbase) h3
theorem wpList_append_sl {α:Type} {B:Nat} {rel:α→List Value→Prop} {ops:Array Oper} {rest:List Oper} {o:Oper} {a:Act} {Q:Exit→Act→World→Prop} (hgd:o.guard=none) (s x:Operand) (t:TypeId)
  (ho:o.op= .call {callee:= .builtin .append,args:= #[s,x],argTypes:= #[t,t]})
  (base:Nat) (e:TypeId) (i:TypeInfo) (z:Value) (size bytes:Nat) (ht:P.underlying t=some (.slice e)) (hi:P.info? e=some i) (hz:i.zero=some z)
  (hsize:i.size=size) (hby:i.bytes=bytes) (hzs:z.cells.size=size) (hsz:0<size)
  (v:Value) (n:Nat) (xs:List Value) (hs:a.eval s=v) (hown:w.ownsRow base e size v n xs)
  (A:Option Addr) (l:List α) (c:Nat) (hx:a.eval x= .slice A l.length c) (hsl:Sl w B size rel A l) (hr:∀x cs,rel x cs→cs.length=size∧∀u∈cs,u.oneCell'=true)
  (h63:n+l.length≤maxLen) (hbytes:(n+l.length)*bytes≤140737488355328) (hbase:base≤w.heap.size)
  (h:∀v' w' css,w'.ownsRow base e size v' (n+l.length) (xs++css.flatten)→Are rel l css→Below base w w'→w.grownBy w' v.ownBlock→wpList P ops Q rest (a.put o.dst v') w'):wpList P ops Q (o::rest) a w:=
 wpList_plain hgd fun _ hK=>wp_append_sl s x t ho base e i z size bytes ht hi hz hsize hby hzs hsz v n xs hs hown A l c hx hsl hr h63 hbytes hbase fun v' w' css h2 h3 h4 h5=>hK _ _ (h v' w' css h2 h3 h4 h5)
end
theorem bE {B:Nat} {w w':World} (h:Below B w w':=by repeat (first|(with_reducible assumption)|(with_reducible exact Below.refl _ _)|(with_reducible refine Below.drew ?_)|(with_reducible refine below_drewN' ?_ _)|(with_reducible refine Below.alloc ?_ (by first|assumption|omega|(simp;omega)|simp|(simp[World.setCell];omega)|simp[World.setCell]) _)|(with_reducible refine Below.setCell ?_ (by first|assumption|omega|(simp;omega)|simp|(simp[World.setCell];omega)|simp[World.setCell]) _))):Below B w w':=h
theorem lE {a b:Nat} (h:a≤b:=by first|exact Nat.le_refl _|omega|(simp;omega)|simp):a≤b:=h
section
variable {P:Program} {ops:Array Oper} {Q:Exit→Act→World→Prop} {md:Region.Mode} {S:World→Prop} {fuel:Nat} {listed:Array Bool} {a a':Act} {w:World} {v:Value} {o:Op} {ty:TypeId} {pos:String} {af:Array Edge} {g:Option (Nat × Bool)}
theorem tk (i:Nat) (d:Option Tmp) (hi:ops[i]? =some {dst:=d,op:=o,type:=ty,pos:=pos,after:=af,guard:=g}) (h:wpAnyH P md ops Q S fuel (listed.setIfInBounds i true) a' w)
  (hs:Region.noSelect ops=true:=by kernel_rfl) (hf:Region.free md ops listed i=true:=by kernel_rfl) (hr:(Region.ready md ops listed).contains i=true:=by kernel_rfl)
  (hw:Region.wanted {dst:=d,op:=o,type:=ty,pos:=pos,after:=af,guard:=g} (yielded ops a.tmps)=true:=by kernel_rfl)
  (hy:∀w,S w→(execOp a.eval {dst:=d,op:=o,type:=ty,pos:=pos,after:=af,guard:=g}).run P w= .ok (.value v) w:=by intro w hSw;(try dsimp only at hSw);go_simp;(try with_reducible rfl))
  (hQ:∀c a w,Q (.panic c) (a.put d v) w→Q (.panic c) a w:=by exact fun _ _ _ h=>h)
  (hS:S w:=by first|assumption|trivial)
  (ha:a.put d v=a':=by (try simp only[Act.put,List.setIfInBounds_toArray,List.set_cons_zero,List.set_cons_succ]);(try exact rfl)):wpAnyH P md ops Q S (fuel+1) listed a w:=by
 subst ha
 exact wpAnyH_take hi hs hf hr hQ (.inl ⟨hw,hy⟩) hS h
theorem sk (i:Nat) (d:Option Tmp) (hi:ops[i]? =some {dst:=d,op:=o,type:=ty,pos:=pos,after:=af,guard:=g}) (h:wpAnyH P md ops Q S fuel (listed.setIfInBounds i true) a' w)
  (hs:Region.noSelect ops=true:=by kernel_rfl) (hf:Region.free md ops listed i=true:=by kernel_rfl) (hr:(Region.ready md ops listed).contains i=true:=by kernel_rfl)
  (hQ:∀c a w,Q (.panic c) (a.put d undef) w→Q (.panic c) a w:=by exact fun _ _ _ h=>h)
  (hw:Region.wanted {dst:=d,op:=o,type:=ty,pos:=pos,after:=af,guard:=g} (yielded ops a.tmps)=false:=by kernel_rfl)
  (hS:S w:=by first|assumption|trivial)
  (ha:a.put d undef=a':=by (try simp only[Act.put,List.setIfInBounds_toArray,List.set_cons_zero,List.set_cons_succ]);(try exact rfl)):wpAnyH P md ops Q S (fuel+1) listed a w:=by
 subst ha
 exact wpAnyH_take hi hs hf hr hQ (.inr ⟨hw,rfl⟩) hS h
theorem rd1 (i:Nat) (d:Option Tmp) (hi:ops[i]? =some {dst:=d,op:=o,type:=ty,pos:=pos,after:=af,guard:=g})
  (h:∀K':Act→World→Prop,Shut (∀a w,S w→(S w→wpAnyH P md ops Q S fuel (listed.setIfInBounds i true) a w)→K' a w)→if Region.wanted {dst:=d,op:=o,type:=ty,pos:=pos,after:=af,guard:=g} (yielded ops a.tmps)=true then Oper.wp P {dst:=d,op:=o,type:=ty,pos:=pos,after:=af,guard:=g} a w K' Q else K' (a.put d undef) w)
  (hr:Region.ready md ops listed=[i]:=by kernel_rfl):wpAnyH P md ops Q S (fuel+1) listed a w:=wpAnyH_ready hr (by simp) (AllReadyH.cons hi h AllReadyH.nil)
end
end Go.Proofs.YtdkgkacnjdnpoaaGreat
