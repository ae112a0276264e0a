/-
  The contract of tompionlaw12.room and Few. The contracts of tree.Height, tompionref12.Height, List. The contract of tompionref12.List. Flats in memory; flat's looker: its small methods. Flats, as plain data: parts of expressions.
-/
import Derived.Test.YtckognjamlckcaaGreatDoorLookA
import Derived.Outline
import Derived.Test.YtckognjamlckcaaGreatDoorNmD
import Derived.Deep.DeepCutAuto
namespace Go.Proofs.YtckognjamlckcaaGreatDoor
open Go.RowKit
end Go.Proofs.YtckognjamlckcaaGreatDoor
namespace Go.Proofs.YtckognjamlckcaaGreatDoor
open Go.RowKit
theorem take_succ_map {α β:Type} {l:List α} {k:Nat} {x:α} (f:α→β) (h:l[k]? =some x):(l.take (k+1)).map f=(l.take k).map f++ [f x]:=by
 rw[List.take_add_one,h];simp
theorem maxL_take {l:List Ex} {b:Nat} (k:Nat) (h:maxL (l.map exHeight)≤b):maxL ((l.take k).map exHeight)≤b:=by
 refine maxL_le fun x hx=>?_
 obtain ⟨y,hy,rfl⟩:=List.mem_map.1 hx
 have:∀l:List Nat,∀x∈l,x≤maxL l:=by
  intro l
  induction l with
  |nil=>intro x hx;cases hx
  |cons z l ih=>
   intro x hx
   simp only[maxL]
   rcases List.mem_cons.1 hx with rfl|hx
   ·omega
   ·have:=ih x hx;omega
 exact Nat.le_trans (this _ _ (List.mem_map_of_mem (List.mem_of_mem_take hy))) h
noncomputable def hTo (e:Ex) (k:Nat):Nat:=maxL ((e.args.take k).map exHeight)
theorem hTo_succ {e x:Ex} {k:Nat} (h:e.args[k]? =some x):hTo e (k+1)=max (hTo e k) (exHeight x):=by
 unfold hTo;rw[take_succ_map exHeight h,maxL_snoc]
theorem hTo_end (e:Ex):exHeight e=hTo e e.args.length+1:=by unfold hTo;rw[exHeight_eq,List.take_length]
theorem hTo_le {e:Ex} (k:Nat) (h:exSize e≤1000000):hTo e k≤1000000:=by
 have:=exHeight_le e
 have:=exHeight_eq e
 exact maxL_take k (by omega)
set_option maxHeartbeats 1000000 in
theorem height_any (e:Ex):∀(A:Option Addr) (cap:Nat) (w:World),e.args.length≤cap→cap≤maxLen→IsExs w w.heap.size A e.args→exSize e≤1000000→
  Calls Tryz.prog 99 #[exV e A cap] w fun r w'=>r= .returned (.int .i64 (exHeight e))∧Below w.heap.size w w':=by
 induction e using Ex.ind with
 |h e ih=>
  intro A cap w hcap hmax hx hs
  have HI:=Lib.hid ih
  clear ih
  have HE:=Lib.hid (hTo_end e)
  have HS:=Lib.hid hs
  unfold maxLen at hmax
  clear hs
  go_enter Tryz.func99,Tryz.ntmps99
  go_wp2_with fail
  go_loopw[3,9] (fun v i wr=>∃k:Nat,k≤e.args.length∧i= .int .i64 k∧v= .int .i64 (hTo e k)∧Below w.heap.size w wr) (fun _ i _=>e.args.length-(intOf i).toNat)
  case atStart=>exact ⟨0,Nat.zero_le _,rfl,rfl,(Below.refl _ _).alloc (Nat.le_refl _) _⟩
  case round=>
   obtain ⟨k,hk,rfl,rfl,hbel⟩:=hrel
   have hm:=hTo_le k HS.out
   by_cases hlt:k<e.args.length
   ·obtain ⟨b,off,x,A',cap',rfl,hb,hxk,hxm,hok',hcap',hmax',hx',c0,c1,c2,c3,c4,c5⟩:=(hx.below hbel).at_ hlt
    have HT:=Lib.hid (hTo_succ hxk)
    have HSx:=Lib.hid (exSize_arg hxm)
    have HM:=Lib.hid hxm
    have hsz:=hbel.size
    clear hxk hxm
    go_wp2_with fail
    refine (HI.out x HM.out A' cap' _ hcap' hmax' ((hx'.below ((Below.refl _ _).alloc hsz _)).more (by simp;omega)) (by have:=HSx.out;have:=HS.out;omega)).mono ?_
    rintro r w2 ⟨rfl,hb2⟩
    go_wp2_with fail
    go_roundw
    case rel=>exact ⟨k+1,by omega,by go_num,by rw[HT.out];go_num,(hbel.alloc hsz _).trans (hb2.mono (by simp;omega))⟩
    case measure=>simp[intOf];omega
   ·obtain rfl:k=e.args.length:=by omega
    go_wp2_with fail
    go_ret
    exact ⟨ret_int (by rw[HE.out];rfl),hbel⟩
end Go.Proofs.YtckognjamlckcaaGreatDoor
namespace Go.Proofs.YtckognjamlckcaaGreatDoor
open Go.RowKit
noncomputable def lTo (e:Ex) (k:Nat):List Ex:=e::((e.args.take k).map exList).flatten
theorem lTo_succ {e x:Ex} {k:Nat} (h:e.args[k]? =some x):lTo e (k+1)=lTo e k++exList x:=by
 unfold lTo;rw[take_succ_map exList h];simp
theorem lTo_end (e:Ex):exList e=lTo e e.args.length:=by unfold lTo;rw[exList_eq,List.take_length]
theorem sub_flatten {α:Type} (l:List (List α)) (k:Nat):(l.take k).flatten.length≤l.flatten.length:=by
 conv=>rhs;rw[←List.take_append_drop k l]
 rw[List.flatten_append,List.length_append];omega
theorem lTo_le (e:Ex) (k:Nat):(lTo e k).length≤exSize e:=by
 unfold exSize;rw[exList_eq];unfold lTo
 rw[List.length_cons,List.length_cons,List.map_take]
 have:=sub_flatten (e.args.map exList) k
 omega
end Go.Proofs.YtckognjamlckcaaGreatDoor
namespace Go.Proofs.YtckognjamlckcaaGreatDoor
open Go.RowKit Vf Fo
attribute [local go_sem ↓] Go.wp_at_zero Go.wp_at_succ
theorem Row.six' {W:World} {b:Nat} {x0 x1 x2 x3 x4 x5:Value} {t:TypeId} (h:Row W b #[x0,x1,x2,x3,x4,x5] t):W.cell? ⟨b,0,none⟩=some x0∧W.cell? ⟨b,1,none⟩=some x1∧W.cell? ⟨b,2,none⟩=some x2∧W.cell? ⟨b,3,none⟩=some x3∧W.cell? ⟨b,4,none⟩=some x4∧W.cell? ⟨b,5,none⟩=some x5:=
 ⟨(h.cell 0).trans rfl,(h.cell 1).trans rfl,(h.cell 2).trans rfl,(h.cell 3).trans rfl,(h.cell 4).trans rfl,(h.cell 5).trans rfl⟩
def isDf (w:World) (B:Nat) (d:Int × Ex) (cs:List Value):Prop:=Wf d.1∧∃cs',cs= .int .i64 d.1::cs'∧IsEx w B d.2 cs'
structure FlAt (w:World) (B:Nat) (f:Fl) (vw vd vi vo:Value):Prop where
 wires:SlV w B 2 (isWr w B) vw f.wires
 defs:SlV w B 7 (isDf w B) vd f.defs
 ins:SlV w B 1 isInt vi f.ins
 outs:SlV w B 1 isInt vo f.outs
abbrev flV (vw vd vi vo:Value):Value:= .agg #[vw,vd,vi,vo]
section
variable {w w':World} {B B':Nat} {f:Fl} {vw vd vi vo:Value}
theorem isDf.below {d:Int × Ex} {cs:List Value} (h:isDf w B d cs) (hb:Below B w w'):isDf w' B d cs:=by
 obtain ⟨h1,cs',h2,h3⟩:=h
 exact ⟨h1,cs',h2,h3.below hb⟩
theorem isDf.more {d:Int × Ex} {cs:List Value} (h:isDf w B d cs) (hB:B≤B'):isDf w B' d cs:=by
 obtain ⟨h1,cs',h2,h3⟩:=h
 exact ⟨h1,cs',h2,h3.more hB⟩
theorem FlAt.below (h:FlAt w B f vw vd vi vo) (hb:Below B w w'):FlAt w' B f vw vd vi vo:=
 ⟨h.wires.keep (fun _ _ hp hc=>(hb.cell hp).trans hc) (Nat.le_refl _) (fun _ _ _ g=>g.keep (fun _ _ hp hc=>(hb.cell hp).trans hc) (Nat.le_refl _)),h.defs.keep (fun _ _ hp hc=>(hb.cell hp).trans hc) (Nat.le_refl _) (fun _ _ _ g=>g.below hb),h.ins.below hb,h.outs.below hb⟩
theorem FlAt.more (h:FlAt w B f vw vd vi vo) (hB:B≤B'):FlAt w B' f vw vd vi vo:=
 ⟨h.wires.keep (fun _ _ _ hc=>hc) hB (fun _ _ _ g=>g.keep (fun _ _ _ hc=>hc) hB),h.defs.keep (fun _ _ _ hc=>hc) hB (fun _ _ _ g=>g.more hB),h.ins.more hB,h.outs.more hB⟩
theorem FlAt.next (h:FlAt w w.heap.size f vw vd vi vo) (hb:Below w.heap.size w w'):FlAt w' w'.heap.size f vw vd vi vo:=(h.below hb).more hb.size
end
theorem Sl.df {w:World} {B:Nat} {A:Option Addr} {l:List (Int × Ex)} {k:Nat} (h:Sl w B 7 (isDf w B) A l) (hk:k<l.length):∃b off d Ag cg,A=some ⟨b,off,Option.none⟩∧b<B∧l[k]? =some d∧Wf d.1∧ExOk d.2∧d.2.args.length≤cg∧cg≤maxLen∧IsExs w B Ag d.2.args∧
  w.cell? ⟨b,off+k*7,Option.none⟩=some (.int .i64 d.1)∧w.cell? ⟨b,off+k*7+1,Option.none⟩=some (.int .i64 d.2.op)∧w.cell? ⟨b,off+k*7+2,Option.none⟩=some (.string d.2.name)∧w.cell? ⟨b,off+k*7+3,Option.none⟩=some (.int .i64 d.2.n)∧
  w.cell? ⟨b,off+k*7+4,Option.none⟩=some (.slice Ag d.2.args.length cg)∧w.cell? ⟨b,off+k*7+5,Option.none⟩=some (.int .i64 d.2.line)∧w.cell? ⟨b,off+k*7+6,Option.none⟩=some (.int .i64 d.2.col):=by
 obtain ⟨b,off,d,cs,h1,h2,h3,⟨h4,cs',rfl,h5⟩,h6⟩:=h.at_ hk
 obtain ⟨Ag,cg,rfl,g1,g2,g3,g4⟩:=h5.open
 exact ⟨b,off,d,Ag,cg,h1,h2,h3,h4,g1,g2,g3,g4,h6 0 _ rfl,h6 1 _ rfl,h6 2 _ rfl,h6 3 _ rfl,h6 4 _ rfl,h6 5 _ rfl,h6 6 _ rfl⟩
structure FkAt (w:World) (B D:Nat) (f:Fl) (vw vd vi vo vb:Value):Prop where
 row:Row w D #[vw,vd,vi,vo,vb] 117
 fl:FlAt w B f vw vd vi vo
 lo:B≤D
section
variable {w w':World} {B D:Nat} {f:Fl} {vw vd vi vo vb:Value}
theorem FkAt.below (h:FkAt w B D f vw vd vi vo vb) (hb:Below w.heap.size w w'):FkAt w' B D f vw vd vi vo vb:=
 ⟨h.row.below hb h.row.lt,h.fl.below (hb.mono (by have:=h.row.lt;have:=h.lo;omega)),h.lo⟩
set_option maxRecDepth 100000 in
theorem fis_any (h:FkAt w B D f vw vd vi vo vb) (n:Int):
  Calls Tryz.prog 96 #[.pointer (some ⟨D,0,none⟩),.int .i64 n] w fun e w'=>e= .returned (.bool (cB (isW f.fm n)))∧w=w':=by
 have q0:w.cell? ⟨D,0,none⟩=some vw:=h.row.cell 0
 obtain ⟨Aw,cw,rfl,lw,mw,sw⟩:=h.fl.wires
 clear h sw
 by_cases h0:0≤n
 ·have HR:Hid (cB (isW f.fm n)=decide (n<f.wires.length)):=by
   show _=_
   rw[Bool.eq_iff_iff,cB_iff,decide_eq_true_eq]
   exact ⟨fun g=>g.2,fun g=>⟨h0,g⟩⟩
  go_enter Tryz.func96,Tryz.ntmps96
  go_wp2_with fail
  go_ret
  exact ⟨ret_bool HR.out.symm,rfl⟩
 ·have HR:Hid (cB (isW f.fm n)=false):=cB_false (fun g=>h0 g.1)
  have h0':n<0:=by omega
  clear h0
  go_enter Tryz.func96,Tryz.ntmps96
  go_wp2_with fail
  go_ret
  exact ⟨ret_bool HR.out.symm,rfl⟩
end
set_option maxRecDepth 100000 in
theorem fnamed_any (op:Int) (w:World):Calls Tryz.prog 116 #[.int .i64 op] w fun e w'=>e= .returned (.bool (namedB op))∧w=w':=by
 have HR:Hid (namedB op=(op==3||op==24||op==25||op==26)):=rfl
 generalize namedB op=N0 at*
 generalize hq1:(op==3)=Q1 at*
 generalize hq2:(op==24)=Q2 at*
 generalize hq3:(op==25)=Q3 at*
 generalize hq4:(op==26)=Q4 at*
 cases Q1<;>cases Q2<;>cases Q3
 all_goals
  go_enter Tryz.func116,Tryz.ntmps116
  go_wp2_with fail
  go_ret
  exact ⟨ret_bool HR.out.symm,rfl⟩
end Go.Proofs.YtckognjamlckcaaGreatDoor
namespace Go.Proofs.YtckognjamlckcaaGreatDoor.Fo
open Vf
section
variable {f:Fl} {e x:Ex}
theorem plainE_iff:plainE f e↔plain1 f e∧∀x∈e.args,plainE f x:=by
 unfold plainE
 rw[exList_eq]
 constructor
 ·intro h
  exact ⟨h e (by simp),fun x hx y hy=>h y (List.mem_cons_of_mem _ (List.mem_flatten.2 ⟨_,List.mem_map_of_mem hx,hy⟩))⟩
 ·rintro ⟨h1,h2⟩ y hy
  rcases List.mem_cons.1 hy with rfl|hy
  ·exact h1
  ·obtain ⟨l,hl,hy⟩:=List.mem_flatten.1 hy
   obtain ⟨z,hz,rfl⟩:=List.mem_map.1 hl
   exact h2 z hz y hy
theorem named_iff {op:Int}:namedB op=true↔op=3∨op=24∨op=25∨op=26:=by
 unfold namedB
 simp only[Bool.or_eq_true,beq_iff_eq,or_assoc]
theorem plain1_w (h:plain1 f e) (hn:namedB e.op=true):isW f.fm e.n:=by
 have:=h.2.2.2
 rwa [if_pos hn] at this
theorem plain1_ops (h:plain1 f e):e.op=1∨e.op=2∨e.op=3∨(5≤e.op∧e.op≤27):=by
 have h1:=h.2.2.1
 have h2:=h.2.1
 unfold partsZ at h1
 repeat' split at h1
 all_goals omega
theorem plain1_parts (h:plain1 f e):(e.args.length:Int)=partsZ e.op:=h.2.2.1.symm
theorem signOut_le (op:Int):0≤Ar.signOut op∧Ar.signOut op≤2:=by unfold Ar.signOut;repeat' split;all_goals omega
theorem getI_le {l:List Int} (h:∀k∈l,0≤k∧k≤2) (i:Int):0≤getI l i∧getI l i≤2:=by
 unfold getI
 rw[List.getD_eq_getElem?_getD]
 cases q:l[i.toNat]? with
 |none=>simp
 |some y=>exact h y (List.mem_of_getElem? q)
theorem kindR_le {op:Int} {l:List Int} (h:∀k∈l,0≤k∧k≤2):0≤kindR op l∧kindR op l≤2:=by
 unfold kindR
 have:=signOut_le op
 have:=getI_le h 0
 repeat' split
 all_goals omega
theorem kindE_le (hw:wiresOkL f):∀(e:Ex),plainE f e→0≤kindE f e∧kindE f e≤2:=by
 intro e
 induction e using Ex.ind with
 |h e ih=>
  intro hp
  obtain ⟨h1,h2⟩:=plainE_iff.1 hp
  rw[kindE_eq]
  have hk:∀k∈e.args.map (kindE f),0≤k∧k≤2:=fun k hk=>by
   obtain ⟨x,hx,rfl⟩:=List.mem_map.1 hk
   exact ih x hx (h2 x hx)
  have ht:namedB e.op=true→tyOf f.fm e.n=1∨tyOf f.fm e.n=2:=fun hn=>by
   have hwi:=plain1_w h1 hn
   have hl:e.n.toNat<f.wires.length:=by have:=hwi.1;have:=hwi.2;show e.n.toNat<f.wires.length;have h3:e.n<f.wires.length:=hwi.2;omega
   have hx:f.wires[e.n.toNat]? =some f.wires[e.n.toNat]:=List.getElem?_eq_getElem hl
   have:=(hw.1 _ (List.getElem_mem hl)).1
   have e1:wAt f.fm ((e.n.toNat:Nat):Int)=f.wires[e.n.toNat]:=wAt_some hx
   rw[show ((e.n.toNat:Nat):Int)=e.n by have:=hwi.1;omega] at e1
   unfold tyOf
   rw[e1]
   exact this
  unfold kind1
  split
  ·omega
  split
  ·omega
  split
  ·omega
  split
  ·omega
  split
  ·rename_i h3
   have:=ht (named_iff.2 (.inl h3))
   omega
  split
  ·split
   ·omega
   ·exact kindR_le (fun k hk'=>hk k (List.mem_of_mem_tail hk'))
  ·exact kindR_le hk
noncomputable def kindTo (f:Fl) (e:Ex) (k:Nat):List Int:=(e.args.take k).map (kindE f)
theorem kindTo_succ {k:Nat} (h:e.args[k]? =some x):kindTo f e (k+1)=kindTo f e k++ [kindE f x]:=by
 unfold kindTo
 rw[List.take_add_one,h]
 simp
theorem kindTo_end:kindTo f e e.args.length=e.args.map (kindE f):=by unfold kindTo;rw[List.take_length]
theorem kind_zero {k:Nat} (h:e.args[k]? =some x) (h0:kindE f x=0):kindE f e=0:=by
 rw[kindE_eq]
 unfold kind1
 rw[if_pos]
 rw[←h0]
 exact List.mem_map_of_mem (List.mem_of_getElem? h)
end
end Go.Proofs.YtckognjamlckcaaGreatDoor.Fo
