/-
  A tick of a machine, as plain data. A tick's state in memory. slices.Clone at three types; small readers of rows of numbers. norm's looker: wires. norm's looker: kind, alike, behind; slices.Clone of guards. norm's looker: behind; small rows of numbers as arguments. The contract of tompionlaw12.room and Few. The contracts of tree.Height, tompionref12.Height, List. The contract of tompionref12.List. Flats in memory; flat's looker: its small methods. flat's looker: what is plain of an expression. Flats, as plain data: parts of expressions.
-/
import Derived.Test.YtdkgkacnjdnpoaaGreatZz
import Derived.Test.YtdkgkacnjdnpoaaGreatExMem
import Derived.Test.YtdkgkacnjdnpoaaGreatLookZ
import Derived.Test.YtdkgkacnjdnpoaaGreatMem
import Derived.Deep.DrawnRows
import Derived.Deep.RegionHeld3
import Derived.Outline
import Derived.Deep.DeepCutAuto
import Derived.Test.YtdkgkacnjdnpoaaGreatTreePlain
import Derived.StillTailTactics
set_option maxHeartbeats 4000000
set_option maxRecDepth 100000
namespace Go.Proofs.YtdkgkacnjdnpoaaGreat.Q.Vf
end Go.Proofs.YtdkgkacnjdnpoaaGreat.Q.Vf
namespace Go.Proofs.YtdkgkacnjdnpoaaGreat.Q
open Go.RowKit Vf
section
variable {w w':World} {C T R O:Nat} {vc vn vi:Value} {cells inn:List Int}
end
attribute [local go_sem ↓] Go.wp_at_zero Go.wp_at_succ
theorem _root_.Go.Proofs.YtdkgkacnjdnpoaaGreat.Sl.flatA {α:Type} {w:World} {B size:Nat} {rel:α→List Value→Prop} {ad:Addr} {l:List α} {f:α→List Value} (h:Sl w B size rel (some ad) l) (hf:∀x cs,rel x cs→cs=f x) (hl:∀x,(f x).length=size):
  ∀j u,((l.map f).flatten)[j]? =some u→w.cell? (ad.add j)=some u:=by
 rcases Nat.eq_zero_or_pos l.length with h0|h0
 ·have:l=[]:=List.eq_nil_of_length_eq_zero h0
  subst this
  intro j u hu
  simp at hu
 ·obtain ⟨b,off,hA,_⟩:=h h0
  injection hA with hA
  subst hA
  exact h.flat hf hl
theorem _root_.Go.Proofs.YtdkgkacnjdnpoaaGreat.Sl.none {α:Type} {w:World} {B size:Nat} {rel:α→List Value→Prop} {l:List α} (h:Sl w B size rel none l):l=[]:=by
 rcases Nat.eq_zero_or_pos l.length with h0|h0
 ·exact List.eq_nil_of_length_eq_zero h0
 ·obtain ⟨b,off,hA,_⟩:=h h0
  cases hA
def CloneIs {α:Type} (E:TypeId) (size:Nat) (f:α→List Value) (l:List α) (w:World) (e:Ending) (w':World):Prop:=∃v',e= .returned v'∧w'.ownsRow w.heap.size E size v' l.length (l.map f).flatten∧Below w.heap.size w w'
theorem flat_one {α:Type} {f:α→List Value} (hf:∀x,∀u∈f x,u.oneCell'=true) (l:List α):∀u∈(l.map f).flatten,u.oneCell'=true:=by
 intro u hu
 obtain ⟨cs,hcs,hu⟩:=List.mem_flatten.1 hu
 obtain ⟨x,_,rfl⟩:=List.mem_map.1 hcs
 exact hf x u hu
open Go.RowKit Vf Fo
theorem _root_.Go.Proofs.YtdkgkacnjdnpoaaGreat.Row.two' {W:World} {b:Nat} {x0 x1:Value} {t:TypeId} (h:Row W b #[x0,x1] t):W.cell? ⟨b,0,none⟩=some x0∧W.cell? ⟨b,1,none⟩=some x1:=⟨(h.cell 0).trans rfl,(h.cell 1).trans rfl⟩
theorem cell_kept {w W:World} {b i:Nat} {u:Value} (h:w.cell? ⟨b,i,none⟩=some u) (hb:Below w.heap.size w W):W.cell? ⟨b,i,none⟩=some u:=(hb.cell (World.block_lt_of_cell? w _ h)).trans h
def gdOk (f:Fm) (x:Wr) (i:Nat) (g:Gd):Prop:=isW f g.wire∧tyOf f g.wire=2∧clockOf f g.wire=x.clock.take i
theorem wire_no {f:Fm} {x:Wr} {m:Nat} {g:Gd} (h:x.clock[m]? =some g) (hn:¬gdOk f x m g):¬wireOk f x:=fun q=>hn (q.2 m g h)
theorem slv_take {α:Type} {w:World} {B size b off cap:Nat} {rel:α→List Value→Prop} {l:List α} {k:Nat} (h:Sl w B size rel (some ⟨b,off,none⟩) l) (hc:l.length≤cap) (hm:cap≤maxLen) (hk:k≤l.length):SlV w B size rel (.slice (some ⟨b,off,none⟩) k cap) (l.take k):=by
 refine ⟨_,_,by rw[List.length_take,Nat.min_eq_left hk],by simp;omega,hm,fun h0=>?_⟩
 obtain ⟨b',off',hA,hb,hx⟩:=h (by simp at h0;omega)
 refine ⟨b',off',hA,hb,fun i x hi=>hx i x ?_⟩
 rw[List.getElem?_take] at hi
 split at hi
 ·exact hi
 ·cases hi
section
variable {w:World} {B L:Nat} {f:Fm} {vw va vc vk vi vo vb ve:Value}
end
def gdC (x:Gd):List Value:=[.int .i64 x.wire,.bool x.no]
theorem gdC_of (x:Gd) (cs:List Value) (h:isGd x cs):cs=gdC x:=h.1
theorem gdC_len (x:Gd):(gdC x).length=2:=rfl
theorem gdC_one (x:Gd):∀u∈gdC x,u.oneCell'=true:=by
 intro u hu
 simp only[gdC,List.mem_cons,List.not_mem_nil,or_false] at hu
 rcases hu with rfl|rfl<;>rfl
theorem info_gd:(Tryz.prog.info? 152).map (fun i=>(i.zero,i.size,i.bytes))=some (some (.agg #[.int .i64 0,.bool false]),2,16):=by kernel_rfl
theorem clone_gd (l:List Gd) (v:Value) (w:World) (h:SlV w w.heap.size 2 isGd v l) (hl:l.length≤100000):
  Calls Tryz.prog 107 #[v] w (CloneIs 152 2 gdC l w):=by
 obtain ⟨A,cap,rfl,h1,h2,h3⟩:=h
 have hq:=fun (w:World) (a:Option Addr) (n c:Nat)=>Lib.run_eql_slice_nil (P:=Tryz.prog) w 86 152 a n c 0 0 Tryz.underlying86
 rcases A with _|ad
 ·have h0:=h3.none
  subst h0
  refine' zq108
  go_wp2_with fail
  go_ret
  exact ⟨_,rfl,⟨by simp,.inl ⟨rfl,rfl⟩⟩,Below.refl _ _⟩
 ·have hN:=(h3.below ((Below.refl _ _).alloc (Nat.le_refl _) (.cells #[] 152))).flatA gdC_of gdC_len
  have HL:=Lib.hid (flat_len (size:=2) (l:=l) gdC_len)
  have HO:=Lib.hid (flat_one gdC_one l)
  obtain ⟨i0,hi0,hz0,hz1,hz2⟩:=info_parts info_gd
  refine' zq108
  go_wp2_with (at_builtin;refine wpList_append_own _ rfl _ _ 86 rfl w.heap.size 152 i0 (.agg #[.int .i64 0,.bool false]) 2 16 Tryz.underlying86 hi0 hz0 hz1 hz2 rfl (by decide) _ _ _ rfl (own_empty w 152 2) ad l.length cap (l.map gdC).flatten rfl ?c0 ?c1 ?c2 ?c3 ?c4 ?c5 ?_)
  case c0=>exact HL.out
  case c1=>exact hN
  case c2=>exact HO.out
  case c3=>unfold maxLen;omega
  case c4=>omega
  case c5=>simp
  intro v' w1 hown hgrow _
  have bb:=below_own ((Below.refl w.heap.size w).alloc (Nat.le_refl _) (.cells #[] 152)) (own_empty w 152 2) hgrow (by simp)
  (try simp only[Nat.zero_add,List.nil_append] at hown)
  go_wp2_with fail
  go_ret
  exact ⟨_,rfl,hown,bb⟩
section
variable {w:World} {B L:Nat} {f:Fm} {vw va vc vk vi vo vb ve:Value}
end
theorem cell_two (w:World) (t:TypeId) (x y:Value):∀j u,[x,y][j]? =some u→(w.alloc (.cells #[x,y] t)).cell? ((⟨w.heap.size,0,none⟩:Addr).add j)=some u:=by
 intro j u h
 rw[Addr.add_lit,Nat.zero_add]
 refine ((Row.new w #[x,y] t).cell j).trans ?_
 rw[List.getElem?_toArray]
 exact h
section
variable {w:World} {B L:Nat} {f:Fm} {vw va vc vk vi vo vb ve:Value}
theorem snoc_sl {W:World} {base:Nat} {v:Value} {l:List Gd} {g:Gd} (h:W.ownsRow base 152 2 v (l.length+1) ((l.map gdC).flatten++ [.int .i64 g.wire,.bool g.no])) (ha:∀x∈l++ [g],isGd x (gdC x)):SlV W W.heap.size 2 isGd v (l++ [g]):=by
 refine (own_sl (css:=(l++ [g]).map gdC) (n:=l.length+1) (base:=base) (e:=152) ?_ (Are.map ha) (fun cs hcs=>by obtain ⟨y,_,rfl⟩:=List.mem_map.1 hcs;rfl) (by decide)).1
 rw[List.map_append,List.flatten_append]
 exact h
end
end Go.Proofs.YtdkgkacnjdnpoaaGreat.Q
namespace Go.Proofs.YtdkgkacnjdnpoaaGreat
open Go.RowKit
theorem drop_succ_map {α β:Type} {l:List α} {k:Nat} {x:α} (f:α→β) (h:l[k]? =some x):(l.drop k).map f=f x::(l.drop (k+1)).map f:=by
 obtain ⟨hk,rfl⟩:=List.getElem?_eq_some_iff.1 h
 rw[List.drop_eq_getElem_cons hk,List.map_cons]
theorem take_succ_map {α β:Type} {l:List α} {k:Nat} {x:α} (f:α→β) (h:l[k]? =some x):(l.take (k+1)).map f=(l.take k).map f++ [f x]:=by
 rw[List.take_add_one,h];simp
theorem maxL_take {l:List Ex} {b:Nat} (k:Nat) (h:maxL (l.map exHeight)≤b):maxL ((l.take k).map exHeight)≤b:=by
 refine maxL_le fun x hx=>?_
 obtain ⟨y,hy,rfl⟩:=List.mem_map.1 hx
 have:∀l:List Nat,∀x∈l,x≤maxL l:=by
  refine' zq171
 exact Nat.le_trans (this _ _ (List.mem_map_of_mem (List.mem_of_mem_take hy))) h
noncomputable def hTo (e:Ex) (k:Nat):Nat:=maxL ((e.args.take k).map exHeight)
theorem hTo_succ {e x:Ex} {k:Nat} (h:e.args[k]? =some x):hTo e (k+1)=max (hTo e k) (exHeight x):=by
 unfold hTo;rw[take_succ_map exHeight h,maxL_snoc]
theorem hTo_end (e:Ex):exHeight e=hTo e e.args.length+1:=by unfold hTo;rw[exHeight_eq,List.take_length]
theorem hTo_le {e:Ex} (k:Nat) (h:exSize e≤1000000):hTo e k≤1000000:=by
 have:=exHeight_le e
 have:=exHeight_eq e
 exact maxL_take k (by omega)
theorem height_any (e:Ex):∀(A:Option Addr) (cap:Nat) (w:World),e.args.length≤cap→cap≤maxLen→IsExs w w.heap.size A e.args→exSize e≤1000000→
  Calls Tryz.prog 113 #[exV e A cap] w fun r w'=>r= .returned (.int .i64 (exHeight e))∧Below w.heap.size w w':=by
 induction e using Ex.ind with
 |h e ih=>
  intro A cap w hcap hmax hx hs
  have HI:=Lib.hid ih
  clear ih
  have HE:=Lib.hid (hTo_end e)
  have HS:=Lib.hid hs
  unfold maxLen at hmax
  clear hs
  go_enter Tryz.func113,Tryz.ntmps113
  go_wp2_with fail
  go_loopw[3,9] (fun v i wr=>∃k:Nat,k≤e.args.length∧i= .int .i64 k∧v= .int .i64 (hTo e k)∧Below w.heap.size w wr) (fun _ i _=>e.args.length-(intOf i).toNat)
  case atStart=>exact ⟨0,Nat.zero_le _,rfl,rfl,(Below.refl _ _).alloc (Nat.le_refl _) _⟩
  case round=>
   obtain ⟨k,hk,rfl,rfl,hbel⟩:=hrel
   have hm:=hTo_le k HS.out
   by_cases hlt:k<e.args.length
   ·obtain ⟨b,off,x,A',cap',rfl,hb,hxk,hxm,hok',hcap',hmax',hx',c0,c1,c2,c3,c4,c5⟩:=(hx.below hbel).at_ hlt
    have HT:=Lib.hid (hTo_succ hxk)
    have HSx:=Lib.hid (exSize_arg hxm)
    have HM:=Lib.hid hxm
    have hsz:=hbel.size
    clear hxk hxm
    go_wp2_with fail
    refine (HI.out x HM.out A' cap' _ hcap' hmax' ((hx'.below ((Below.refl _ _).alloc hsz _)).more (by simp;omega)) (by have:=HSx.out;have:=HS.out;omega)).mono ?_
    rintro r w2 ⟨rfl,hb2⟩
    go_wp2_with fail
    go_roundw
    case rel=>exact ⟨k+1,by omega,by go_num,by rw[HT.out];go_num,(hbel.alloc hsz _).trans (hb2.mono (by simp;omega))⟩
    case measure=>simp[intOf];omega
   ·obtain rfl:k=e.args.length:=by omega
    go_wp2_with fail
    go_ret
    exact ⟨ret_int (by rw[HE.out];rfl),hbel⟩
theorem info_expr:(Tryz.prog.info? 63).map (fun i=>(i.zero,i.size,i.bytes))=some (some (.agg #[.int .i64 0,.string ⟨#[]⟩,.int .i64 0,.slice none 0 0,.int .i64 0,.int .i64 0]),6,72):=by kernel_rfl
noncomputable def lTo (e:Ex) (k:Nat):List Ex:=e::((e.args.take k).map exList).flatten
theorem lTo_zero (e:Ex):lTo e 0=[e]:=rfl
theorem lTo_succ {e x:Ex} {k:Nat} (h:e.args[k]? =some x):lTo e (k+1)=lTo e k++exList x:=by
 unfold lTo;rw[take_succ_map exList h];simp
theorem lTo_end (e:Ex):exList e=lTo e e.args.length:=by unfold lTo;rw[exList_eq,List.take_length]
theorem sub_flatten {α:Type} (l:List (List α)) (k:Nat):(l.take k).flatten.length≤l.flatten.length:=by
 conv=>rhs;rw[←List.take_append_drop k l]
 rw[List.flatten_append,List.length_append];omega
theorem lTo_le (e:Ex) (k:Nat):(lTo e k).length≤exSize e:=by
 unfold exSize;rw[exList_eq];unfold lTo
 rw[List.length_cons,List.length_cons,List.map_take]
 have:=sub_flatten (e.args.map exList) k
 omega
end Go.Proofs.YtdkgkacnjdnpoaaGreat
namespace Go.Proofs.YtdkgkacnjdnpoaaGreat.Q
open Go.RowKit Vf Fo
attribute [local go_sem ↓] Go.wp_at_zero Go.wp_at_succ
theorem _root_.Go.Proofs.YtdkgkacnjdnpoaaGreat.Row.six' {W:World} {b:Nat} {x0 x1 x2 x3 x4 x5:Value} {t:TypeId} (h:Row W b #[x0,x1,x2,x3,x4,x5] t):W.cell? ⟨b,0,none⟩=some x0∧W.cell? ⟨b,1,none⟩=some x1∧W.cell? ⟨b,2,none⟩=some x2∧W.cell? ⟨b,3,none⟩=some x3∧W.cell? ⟨b,4,none⟩=some x4∧W.cell? ⟨b,5,none⟩=some x5:=
 ⟨(h.cell 0).trans rfl,(h.cell 1).trans rfl,(h.cell 2).trans rfl,(h.cell 3).trans rfl,(h.cell 4).trans rfl,(h.cell 5).trans rfl⟩
def isDf (w:World) (B:Nat) (d:Int × Ex) (cs:List Value):Prop:=Wf d.1∧∃cs',cs= .int .i64 d.1::cs'∧IsEx w B d.2 cs'
structure FlAt (w:World) (B:Nat) (f:Fl) (vw vd vi vo:Value):Prop where
 wires:SlV w B 2 (isWr w B) vw f.wires
 defs:SlV w B 7 (isDf w B) vd f.defs
 ins:SlV w B 1 isInt vi f.ins
 outs:SlV w B 1 isInt vo f.outs
abbrev flV (vw vd vi vo:Value):Value:= .agg #[vw,vd,vi,vo]
section
variable {w w':World} {B B':Nat} {f:Fl} {vw vd vi vo:Value}
theorem isDf.below {d:Int × Ex} {cs:List Value} (h:isDf w B d cs) (hb:Below B w w'):isDf w' B d cs:=by
 obtain ⟨h1,cs',h2,h3⟩:=h
 exact ⟨h1,cs',h2,h3.below hb⟩
theorem isDf.more {d:Int × Ex} {cs:List Value} (h:isDf w B d cs) (hB:B≤B'):isDf w B' d cs:=by
 obtain ⟨h1,cs',h2,h3⟩:=h
 exact ⟨h1,cs',h2,h3.more hB⟩
theorem FlAt.below (h:FlAt w B f vw vd vi vo) (hb:Below B w w'):FlAt w' B f vw vd vi vo:=
 ⟨h.wires.keep (fun _ _ hp hc=>(hb.cell hp).trans hc) (Nat.le_refl _) (fun _ _ _ g=>g.keep (fun _ _ hp hc=>(hb.cell hp).trans hc) (Nat.le_refl _)),h.defs.keep (fun _ _ hp hc=>(hb.cell hp).trans hc) (Nat.le_refl _) (fun _ _ _ g=>g.below hb),h.ins.below hb,h.outs.below hb⟩
theorem FlAt.more (h:FlAt w B f vw vd vi vo) (hB:B≤B'):FlAt w B' f vw vd vi vo:=
 ⟨h.wires.keep (fun _ _ _ hc=>hc) hB (fun _ _ _ g=>g.keep (fun _ _ _ hc=>hc) hB),h.defs.keep (fun _ _ _ hc=>hc) hB (fun _ _ _ g=>g.more hB),h.ins.more hB,h.outs.more hB⟩
theorem FlAt.next (h:FlAt w w.heap.size f vw vd vi vo) (hb:Below w.heap.size w w'):FlAt w' w'.heap.size f vw vd vi vo:=(h.below hb).more hb.size
end
theorem _root_.Go.Proofs.YtdkgkacnjdnpoaaGreat.Sl.df {w:World} {B:Nat} {A:Option Addr} {l:List (Int × Ex)} {k:Nat} (h:Sl w B 7 (isDf w B) A l) (hk:k<l.length):∃b off d Ag cg,A=some ⟨b,off,Option.none⟩∧b<B∧l[k]? =some d∧Wf d.1∧ExOk d.2∧d.2.args.length≤cg∧cg≤maxLen∧IsExs w B Ag d.2.args∧
  w.cell? ⟨b,off+k*7,Option.none⟩=some (.int .i64 d.1)∧w.cell? ⟨b,off+k*7+1,Option.none⟩=some (.int .i64 d.2.op)∧w.cell? ⟨b,off+k*7+2,Option.none⟩=some (.string d.2.name)∧w.cell? ⟨b,off+k*7+3,Option.none⟩=some (.int .i64 d.2.n)∧
  w.cell? ⟨b,off+k*7+4,Option.none⟩=some (.slice Ag d.2.args.length cg)∧w.cell? ⟨b,off+k*7+5,Option.none⟩=some (.int .i64 d.2.line)∧w.cell? ⟨b,off+k*7+6,Option.none⟩=some (.int .i64 d.2.col):=by
 obtain ⟨b,off,d,cs,h1,h2,h3,⟨h4,cs',rfl,h5⟩,h6⟩:=h.at_ hk
 obtain ⟨Ag,cg,rfl,g1,g2,g3,g4⟩:=h5.open
 exact ⟨b,off,d,Ag,cg,h1,h2,h3,h4,g1,g2,g3,g4,h6 0 _ rfl,h6 1 _ rfl,h6 2 _ rfl,h6 3 _ rfl,h6 4 _ rfl,h6 5 _ rfl,h6 6 _ rfl⟩
structure FkAt (w:World) (B D:Nat) (f:Fl) (vw vd vi vo vb:Value):Prop where
 row:Row w D #[vw,vd,vi,vo,vb] 147
 fl:FlAt w B f vw vd vi vo
 lo:B≤D
section
variable {w w':World} {B D:Nat} {f:Fl} {vw vd vi vo vb:Value}
theorem FkAt.below (h:FkAt w B D f vw vd vi vo vb) (hb:Below w.heap.size w w'):FkAt w' B D f vw vd vi vo vb:=
 ⟨h.row.below hb h.row.lt,h.fl.below (hb.mono (by have:=h.row.lt;have:=h.lo;omega)),h.lo⟩
theorem fis_any (h:FkAt w B D f vw vd vi vo vb) (n:Int):
  Calls Tryz.prog 108 #[.pointer (some ⟨D,0,none⟩),.int .i64 n] w fun e w'=>e= .returned (.bool (cB (isW f.fm n)))∧w=w':=by
 have q0:w.cell? ⟨D,0,none⟩=some vw:=h.row.cell 0
 obtain ⟨Aw,cw,rfl,lw,mw,sw⟩:=h.fl.wires
 clear h sw
 by_cases h0:0≤n
 ·have HR:Hid (cB (isW f.fm n)=decide (n<f.wires.length)):=by
   show _=_
   rw[Bool.eq_iff_iff,cB_iff,decide_eq_true_eq]
   exact ⟨fun g=>g.2,fun g=>⟨h0,g⟩⟩
  go_enter Tryz.func108,Tryz.ntmps108
  go_wp2_with fail
  go_ret
  exact ⟨ret_bool HR.out.symm,rfl⟩
 ·have HR:Hid (cB (isW f.fm n)=false):=cB_false (fun g=>h0 g.1)
  have h0':n<0:=by omega
  clear h0
  go_enter Tryz.func108,Tryz.ntmps108
  go_wp2_with fail
  go_ret
  exact ⟨ret_bool HR.out.symm,rfl⟩
end
theorem fnamed_any (op:Int) (w:World):Calls Tryz.prog 155 #[.int .i64 op] w fun e w'=>e= .returned (.bool (namedB op))∧w=w':=by
 have HR:Hid (namedB op=(op==3||op==24||op==25||op==26)):=rfl
 generalize namedB op=N0 at*
 generalize hq1:(op==3)=Q1 at*
 generalize hq2:(op==24)=Q2 at*
 generalize hq3:(op==25)=Q3 at*
 generalize hq4:(op==26)=Q4 at*
 cases Q1<;>cases Q2<;>cases Q3
 all_goals
  go_enter Tryz.func155,Tryz.ntmps155
  go_wp2_with fail
  go_ret
  exact ⟨ret_bool HR.out.symm,rfl⟩
theorem fplain_any {w:World} {B D:Nat} {f:Fl} {vw vd vi vo vb:Value} (h:FkAt w B D f vw vd vi vo vb) (e:Ex) (A:Option Addr) (cap:Nat):
  Calls Tryz.prog 112 #[.pointer (some ⟨D,0,none⟩),exV e A cap] w fun r w'=>r= .returned (.bool (cB (plain1 f e)))∧Below w.heap.size w w':=by
 have b1:Below w.heap.size w (w.alloc (.cells #[.int .i64 e.op,.string e.name,.int .i64 e.n,.slice A e.args.length cap,.int .i64 e.line,.int .i64 e.col] 63)):=bE
 have rX:=Row.new w #[.int .i64 e.op,.string e.name,.int .i64 e.n,.slice A e.args.length cap,.int .i64 e.line,.int .i64 e.col] 63
 have HIS:=Lib.hid (fun W (hW:Below w.heap.size w W)=>fis_any (h.below hW) e.n)
 have HNM:=Lib.hid (fnamed_any e.op)
 have HPT:=Lib.hid (parts_any e.op)
 have HD:Hid (plain1 f e↔e.name.toList.isEmpty=true∧e.op≠4∧partsZ e.op=e.args.length∧(if namedB e.op=true then isW f.fm e.n else if e.op=1 then 0≤e.n else if e.op=2 then e.n=0∨e.n=1 else e.n=0)):=Iff.rfl
 clear h
 go_enter Tryz.func112,Tryz.ntmps112
 go_upto_region 1 with (fail)
 generalize w.alloc (.cells #[.int .i64 e.op,.string e.name,.int .i64 e.n,.slice A e.args.length cap,.int .i64 e.line,.int .i64 e.col] 63)=w1 at*
 have hXl:=rX.lt
 have hs1:=b1.size
 have HX:Hid (∀W,Below w1.heap.size w1 W→W.cell? ⟨w.heap.size,0,none⟩=some (.int .i64 e.op)∧W.cell? ⟨w.heap.size,1,none⟩=some (.string e.name)∧W.cell? ⟨w.heap.size,2,none⟩=some (.int .i64 e.n)∧W.cell? ⟨w.heap.size,3,none⟩=some (.slice A e.args.length cap)∧W.cell? ⟨w.heap.size,4,none⟩=some (.int .i64 e.line)∧W.cell? ⟨w.heap.size,5,none⟩=some (.int .i64 e.col)):=fun W hW=>(rX.below hW hXl).six'
 have HX3:Hid (∀W,Below w1.heap.size w1 W→W.cell? ⟨w.heap.size,0,none⟩=some (.int .i64 e.op)∧W.cell? ⟨w.heap.size,1,none⟩=some (.string e.name)∧W.cell? ⟨w.heap.size,3,none⟩=some (.slice A e.args.length cap)):=fun W hW=>⟨(HX.out W hW).1,(HX.out W hW).2.1,(HX.out W hW).2.2.2.1⟩
 obtain ⟨c0,c1,c2,c3,c4,c5⟩:=rX.six'
 generalize hn:e.name.toList.isEmpty=E0 at*
 have HE0:=Lib.hid hn
 cases E0
 ·have HF:Hid (cB (plain1 f e)=false):=cB_false (fun g=>by have:=(HD.out.1 g).1;cases this)
  go_quiet (fail)
  go_wp2_with fail
  go_ret
  exact ⟨ret_bool HF.out.symm,below_drewN' b1 _⟩
 by_cases h4:e.op=4
 ·have h4':(e.op==4)=true:=by simp[h4]
  have HF:Hid (cB (plain1 f e)=false):=cB_false (fun g=>(HD.out.1 g).2.1 h4)
  clear h4
  go_quiet (fail)
  go_wp2_with fail
  go_ret
  exact ⟨ret_bool HF.out.symm,below_drewN' b1 _⟩
 have h4':(e.op==4)=false:=by simp[h4]
 have H4:=Lib.hid h4
 clear h4
 by_cases hp:partsZ e.op=e.args.length
 rotate_left 1
 ·have hp':((partsZ e.op) !=(e.args.length:Int))=true:=by simp[hp]
  have HF:Hid (cB (plain1 f e)=false):=cB_false (fun g=>hp (HD.out.1 g).2.2.1)
  generalize partsZ e.op=PZ at*
  clear hp
  go_cut[5] (fun v W=>v= .bool true∧Below w1.heap.size w1 W)
  case first=>
   refine' zq20
  case rest=>
   obtain ⟨rfl,hbc⟩:=hcut
   have HBC:=Lib.hid (b1.trans (hbc.mono hs1))
   clear c0 c1 c2 c3 c4 c5
   refine' zq140
 have hp':((partsZ e.op) !=(e.args.length:Int))=false:=by simp[hp]
 have HP:=Lib.hid hp
 clear hp
 generalize partsZ e.op=PZ at*
 go_cut[5] (fun v W=>v= .bool false∧Below w1.heap.size w1 W)
 case first=>
  refine' zq20
 case rest=>
  obtain ⟨rfl,hbc⟩:=hcut
  have hbw:=b1.trans (hbc.mono hs1)
  have HBC:=Lib.hid hbw
  clear c0 c1 c2 c3 c4 c5
  obtain ⟨c0,c1,c2,c3,c4,c5⟩:=HX.out _ hbc
  have HDD:Hid (plain1 f e↔if namedB e.op=true then isW f.fm e.n else if e.op=1 then 0≤e.n else if e.op=2 then e.n=0∨e.n=1 else e.n=0):=HD.out.trans ⟨fun g=>g.2.2.2,fun g=>⟨rfl,H4.out,HP.out,g⟩⟩
  clear HD
  generalize hnb:namedB e.op=NB at*
  have HNB:=Lib.hid hnb
  clear hnb
  go_wp2_with fail
  (with_reducible refine (HNM.out _).mono ?_)
  rintro r _ ⟨rfl,rfl⟩
  cases NB
  rotate_left 1
  ·have HF:Hid (cB (plain1 f e)=cB (isW f.fm e.n)):=cB_congr (HDD.out.trans (by rw[if_pos rfl]))
   generalize cB (isW f.fm e.n)=BI at*
   go_wp2_with fail
   (with_reducible refine (HIS.out _ hbw).mono ?_)
   rintro r _ ⟨rfl,rfl⟩
   refine' zq140
  by_cases o1:e.op=1
  ·have o1':(e.op==1)=true:=by simp[o1]
   have HF:Hid (cB (plain1 f e)=decide (0≤e.n)):=by
    show _=_
    rw[Bool.eq_iff_iff,cB_iff,decide_eq_true_eq,HDD.out,if_neg (by decide),if_pos o1]
   clear o1
   refine' zq140
  have o1':(e.op==1)=false:=by simp[o1]
  by_cases o2:e.op=2
  ·have o2':(e.op==2)=true:=by simp[o2]
   have HF:Hid (cB (plain1 f e)=(e.n==0||e.n==1)):=by
    show _=_
    rw[Bool.eq_iff_iff,cB_iff,Bool.or_eq_true,beq_iff_eq,beq_iff_eq,HDD.out,if_neg (by decide),if_neg o1,if_pos o2]
   clear o1 o2
   generalize hq0:(e.n==0)=Q0 at*
   cases Q0
   all_goals
    refine' zq140
  have o2':(e.op==2)=false:=by simp[o2]
  have HF:Hid (cB (plain1 f e)=(e.n==0)):=by
   show _=_
   rw[Bool.eq_iff_iff,cB_iff,beq_iff_eq,HDD.out,if_neg (by decide),if_neg o1,if_neg o2]
  clear o1 o2
  refine' zq140
end Go.Proofs.YtdkgkacnjdnpoaaGreat.Q
namespace Go.Proofs.YtdkgkacnjdnpoaaGreat.Q.Fo
open Vf
section
variable {f:Fl} {e x:Ex}
theorem plainE_iff:plainE f e↔plain1 f e∧∀x∈e.args,plainE f x:=by
 unfold plainE
 rw[exList_eq]
 constructor
 ·intro h
  exact ⟨h e (by simp),fun x hx y hy=>h y (List.mem_cons_of_mem _ (List.mem_flatten.2 ⟨_,List.mem_map_of_mem hx,hy⟩))⟩
 ·rintro ⟨h1,h2⟩ y hy
  rcases List.mem_cons.1 hy with rfl|hy
  ·exact h1
  ·obtain ⟨l,hl,hy⟩:=List.mem_flatten.1 hy
   obtain ⟨z,hz,rfl⟩:=List.mem_map.1 hl
   exact h2 z hz y hy
theorem named_iff {op:Int}:namedB op=true↔op=3∨op=24∨op=25∨op=26:=by
 unfold namedB
 simp only[Bool.or_eq_true,beq_iff_eq,or_assoc]
theorem plain1_w (h:plain1 f e) (hn:namedB e.op=true):isW f.fm e.n:=by
 have:=h.2.2.2
 rwa [if_pos hn] at this
theorem plain1_ops (h:plain1 f e):e.op=1∨e.op=2∨e.op=3∨(5≤e.op∧e.op≤27):=by
 have h1:=h.2.2.1
 have h2:=h.2.1
 unfold partsZ at h1
 repeat' split at h1
 all_goals omega
theorem plain1_parts (h:plain1 f e):(e.args.length:Int)=partsZ e.op:=h.2.2.1.symm
theorem signOut_le (op:Int):0≤Ar.signOut op∧Ar.signOut op≤2:=by unfold Ar.signOut;repeat' split;all_goals omega
theorem getI_le {l:List Int} (h:∀k∈l,0≤k∧k≤2) (i:Int):0≤getI l i∧getI l i≤2:=by
 unfold getI
 rw[List.getD_eq_getElem?_getD]
 cases q:l[i.toNat]? with
 |none=>simp
 |some y=>exact h y (List.mem_of_getElem? q)
theorem kindR_le {op:Int} {l:List Int} (h:∀k∈l,0≤k∧k≤2):0≤kindR op l∧kindR op l≤2:=by
 unfold kindR
 have:=signOut_le op
 have:=getI_le h 0
 repeat' split
 all_goals omega
theorem kindE_le (hw:wiresOkL f):∀(e:Ex),plainE f e→0≤kindE f e∧kindE f e≤2:=by
 intro e
 induction e using Ex.ind with
 |h e ih=>
  intro hp
  obtain ⟨h1,h2⟩:=plainE_iff.1 hp
  rw[kindE_eq]
  have hk:∀k∈e.args.map (kindE f),0≤k∧k≤2:=fun k hk=>by
   obtain ⟨x,hx,rfl⟩:=List.mem_map.1 hk
   exact ih x hx (h2 x hx)
  have ht:namedB e.op=true→tyOf f.fm e.n=1∨tyOf f.fm e.n=2:=fun hn=>by
   have hwi:=plain1_w h1 hn
   have hl:e.n.toNat<f.wires.length:=by have:=hwi.1;have:=hwi.2;show e.n.toNat<f.wires.length;have h3:e.n<f.wires.length:=hwi.2;omega
   have hx:f.wires[e.n.toNat]? =some f.wires[e.n.toNat]:=List.getElem?_eq_getElem hl
   have:=(hw.1 _ (List.getElem_mem hl)).1
   have e1:wAt f.fm ((e.n.toNat:Nat):Int)=f.wires[e.n.toNat]:=wAt_some hx
   rw[show ((e.n.toNat:Nat):Int)=e.n by have:=hwi.1;omega] at e1
   unfold tyOf
   rw[e1]
   exact this
  unfold kind1
  split
  ·omega
  split
  ·omega
  split
  ·omega
  split
  ·omega
  split
  ·rename_i h3
   have:=ht (named_iff.2 (.inl h3))
   omega
  split
  ·split
   ·omega
   ·exact kindR_le (fun k hk'=>hk k (List.mem_of_mem_tail hk'))
  ·exact kindR_le hk
noncomputable def kindTo (f:Fl) (e:Ex) (k:Nat):List Int:=(e.args.take k).map (kindE f)
theorem kindTo_succ {k:Nat} (h:e.args[k]? =some x):kindTo f e (k+1)=kindTo f e k++ [kindE f x]:=by
 unfold kindTo
 rw[List.take_add_one,h]
 simp
theorem kindTo_end:kindTo f e e.args.length=e.args.map (kindE f):=by unfold kindTo;rw[List.take_length]
theorem kind_zero {k:Nat} (h:e.args[k]? =some x) (h0:kindE f x=0):kindE f e=0:=by
 rw[kindE_eq]
 unfold kind1
 rw[if_pos]
 rw[←h0]
 exact List.mem_map_of_mem (List.mem_of_getElem? h)
end
end Go.Proofs.YtdkgkacnjdnpoaaGreat.Q.Fo
