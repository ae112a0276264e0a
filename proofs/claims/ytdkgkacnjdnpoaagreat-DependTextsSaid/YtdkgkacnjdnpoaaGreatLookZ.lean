/-
  The contracts of package arith: each call returns the number that its text says, wrapped to 64 bits, and leaves the world as it was. Plain facts on numbers of 64 bits that go round: sums, products, quotients, remainders. No program in sight. The contracts of arith.Flag, One, Do, Sign. The contract of tompionref03.Sign. Flats, as plain data: when one is right. Machines' programs in memory; the contracts of package code's May and of row.Right. Which programs may be: the contract of code.May. Arguments that read as data, opened: machines' programs. Appends of whatever slice, nil let in; arguments that are rows of numbers. The contracts of tompionref04.Right and of tompionref27's Value, Has, May. The looker in memory: the contracts of its small methods. More methods of the looker: one, cell, reckons. The looker looks at an instruction, op by op (those of one way). The looker looks at an instruction, op by op (those that draw their order). The looker looks at an instruction, op by op (more that draw their order). The looker looks at an instruction, op by op (what comes out). Forms in memory. norm's looker in memory; its small methods. norm's looker: ports. slices.Contains of a row of numbers. tompionref01.Ints. Arguments that read as data, opened: forms. The looker looks at an instruction that reckons; and at whatever instruction. slices.Contains of a row of bools. clear, of a row that holds zeros: it stays as it was. verify's look. verify.Right slices.Repeat of one number.
-/
import Derived.Test.YtdkgkacnjdnpoaaGreatZz
import Derived.Test.YtdkgkacnjdnpoaaGreatChecked
import Derived.WalkKit
import Derived.Lib.Hide
import Derived.RowKit3
import Derived.Test.YtdkgkacnjdnpoaaGreatMem
import Derived.Test.YtdkgkacnjdnpoaaGreatExMem
import Derived.Test.YtdkgkacnjdnpoaaGreatTreePlain
import Derived.Outline
import Derived.WalkLawsBesides
import Derived.Deep.DeepCutAuto
import Derived.Laws.AppendOwnNone
import Derived.Deep.RegionHeld3
import Derived.Laws.StructEq
import Derived.Deep.DrawnRows
import Derived.IntWalk
import Derived.Lib.SliceRun
import Derived.Laws.CopyOwn
set_option maxHeartbeats 4000000
set_option maxRecDepth 100000
namespace Go.Proofs.YtdkgkacnjdnpoaaGreat.Q.Ar
open Go.RowKit
end Go.Proofs.YtdkgkacnjdnpoaaGreat.Q.Ar
namespace Go.Proofs.YtdkgkacnjdnpoaaGreat.Q.Z
open Go.RowKit Ar
end Go.Proofs.YtdkgkacnjdnpoaaGreat.Q.Z
namespace Go.Proofs.YtdkgkacnjdnpoaaGreat.Q.Ar
open Go.RowKit
def signIn (op:Int):Int:=if op=12∨op=13 then 0 else if op=6∨op=18∨op=19∨op=20 then 2 else if 5≤op∧op≤17 then 1 else 0
def signOut (op:Int):Int:=if op=6∨(12≤op∧op≤20) then 2 else if 5≤op∧op≤11 then 1 else 0
def signB (op:Int):Bool:=decide (5≤op) && decide (op≤20)
theorem sign_any (op:Int) (w:World):
  Calls Tryz.prog 156 #[.int .i64 op] w fun e w'=>e= .returned (.tuple #[.int .i64 (signIn op),.int .i64 (signOut op),.bool (signB op)])∧w=w':=by
 refine' zq27
end Go.Proofs.YtdkgkacnjdnpoaaGreat.Q.Ar
namespace Go.Proofs.YtdkgkacnjdnpoaaGreat.Q
open Go.RowKit Ar Z
end Go.Proofs.YtdkgkacnjdnpoaaGreat.Q
namespace Go.Proofs.YtdkgkacnjdnpoaaGreat.Q.Fo
open Vf
structure Fl where
 wires:List Wr
 defs:List (Int × Ex)
 ins:List Int
 outs:List Int
def Fl.fm (f:Fl):Fm:=⟨f.wires,f.defs.map (fun d=>⟨0,d.1,0,0,0,0⟩),[],[],f.ins,f.outs⟩
def namedB (op:Int):Bool:=op==3||op==24||op==25||op==26
def plain1 (f:Fl) (x:Ex):Prop:=x.name.toList.isEmpty=true∧x.op≠4∧partsZ x.op=x.args.length∧
 (if namedB x.op=true then isW f.fm x.n else if x.op=1 then 0≤x.n else if x.op=2 then x.n=0∨x.n=1 else x.n=0)
def plainE (f:Fl) (e:Ex):Prop:=∀x∈exList e,plain1 f x
def kindR (op:Int) (l:List Int):Int:=
 if (l.all fun k=>k==getI l 0 && (!(Ar.signB op)||Ar.signIn op==0||k==Ar.signIn op))=true then (if Ar.signB op=true then Ar.signOut op else getI l 0) else 0
def kind1 (f:Fl) (e:Ex) (ks:List Int):Int:=
 if 0∈ks then 0 else if namedB e.op=true∧e.op≠3∧tyOf f.fm e.n≠2 then 0
 else if e.op=1 then 1 else if e.op=2 then 2 else if e.op=3 then tyOf f.fm e.n
 else if e.op=27 then (if getI ks 0≠2 then 0 else kindR e.op ks.tail) else kindR e.op ks
noncomputable def kindE (f:Fl):Ex→Int:=Ex.para (kind1 f)
theorem kindE_eq (f:Fl) (e:Ex):kindE f e=kind1 f e (e.args.map (kindE f)):=Ex.para_eq _ e
def goes1 (f:Fl) (e:Ex) (ps:List (List Gd→Prop)) (c:List Gd):Prop:=
 if e.op=3 then clockOf f.fm e.n=c
 else if e.op=24∨e.op=25 then (∃c',c=c'++ [⟨e.n,e.op==25⟩]∧∀p∈ps,p c')
 else if e.op=26 then clockOf f.fm e.n=c∧∀(i:Nat) p,ps[i]? =some p→p (c++ [⟨e.n,i==1⟩])
 else ∀p∈ps,p c
noncomputable def goesE (f:Fl):Ex→List Gd→Prop:=Ex.para (goes1 f)
theorem goesE_eq (f:Fl) (e:Ex) (c:List Gd):goesE f e c↔goes1 f e (e.args.map (goesE f)) c:=by unfold goesE;rw[Ex.para_eq]
def late1 (e:Ex) (ls:List Nat):Nat:=
 if 2∈ls then 2 else if e.op=21 then 1+maxL ls else if e.op=22∨e.op=26 then 2*maxL ls else if e.op=23 then 2*ls.headD 0 else maxL ls
noncomputable def lateE:Ex→Nat:=Ex.para late1
theorem lateE_eq (e:Ex):lateE e=late1 e (e.args.map lateE):=Ex.para_eq _ e
def want1 (e:Ex) (ps:List (List Int)):List Int:=(if namedB e.op=true then [e.n] else [])++(if e.op=21 then [] else if e.op=22 then ps.headD [] else ps.flatten)
noncomputable def wantE:Ex→List Int:=Ex.para want1
theorem wantE_eq (e:Ex):wantE e=want1 e (e.args.map wantE):=Ex.para_eq _ e
def wiresOkL (f:Fl):Prop:=(∀w∈f.wires,wireOk f.fm w)∧1≤f.wires.length∧f.wires.length≤400
def defOkL (f:Fl) (d:Int × Ex):Prop:=plainE f d.2∧exHeight d.2≤30∧kindE f d.2=tyOf f.fm d.1∧goesE f d.2 (clockOf f.fm d.1)∧lateE d.2=0
inductive DoneL (f:Fl):Int→Prop where
 |ins (n:Int) (h:n∈f.ins):DoneL f n
 |def_ (d:Int × Ex) (hd:d∈f.defs) (hw:∀n∈wantE d.2,DoneL f n) (hg:∀g∈clockOf f.fm d.1,DoneL f g.wire):DoneL f d.1
def flatOk (f:Fl):Prop:=wiresOkL f∧portsOk f.fm f.ins∧portsOk f.fm f.outs∧definedOk f.fm∧(∀d∈f.defs,defOkL f d)∧∀n:Nat,n<f.wires.length→DoneL f n
end Go.Proofs.YtdkgkacnjdnpoaaGreat.Q.Fo
namespace Go.Proofs.YtdkgkacnjdnpoaaGreat.Q
open Go.RowKit Vf
section
variable {H:Type} {enc:TypeId × Value→H} {w:World} {spare:Nat→Bool} {held:Bool}
end
def NilOk (v:Value):Prop:=∀n c,v= .slice none n c→n=0∧c=0
theorem NilOk.some {ad:Addr} {n c:Nat}:NilOk (.slice (some ad) n c):=fun _ _ h=>by injection h with h;cases h
theorem NilOk.nil:NilOk (.slice none 0 0):=fun _ _ h=>by injection h with _ h1 h2;exact ⟨h1.symm,h2.symm⟩
section
variable {H:Type} {enc:TypeId × Value→H} {w:World} {spare:Nat→Bool} {held:Bool}
end
section
variable {P:Program} (w:World)
end
section
variable {w w':World} {B L K O:Nat} {vi vo vc vd:Value}
end
theorem kind_cell {w:World} {K:Nat} {l:List Int} {t:TypeId} (h:Row w K (l.map (Value.int .i64)).toArray t) {n:Nat} (hn:n<l.length):w.cell? ⟨K,n,none⟩=some (.int .i64 (getI l n)):=by
 rw[h.cell,List.getElem?_toArray,List.getElem?_map,List.getElem?_eq_getElem hn]
 unfold getI
 rw[List.getD_eq_getElem?_getD,Int.toNat_natCast,List.getElem?_eq_getElem hn]
 rfl
theorem out_cell {w:World} {O:Nat} {l:List Bool} {t:TypeId} (h:Row w O (l.map Value.bool).toArray t) {n:Nat} (hn:n<l.length):w.cell? ⟨O,n,none⟩=some (.bool (l.getD n false)):=by
 rw[h.cell,List.getElem?_toArray,List.getElem?_map,List.getElem?_eq_getElem hn,List.getD_eq_getElem?_getD,List.getElem?_eq_getElem hn]
 rfl
open Go.RowKit Vf Fo
def isGd (g:Gd) (cs:List Value):Prop:=cs=[.int .i64 g.wire,.bool g.no]∧Wf g.wire
def isWr (w:World) (B:Nat) (x:Wr) (cs:List Value):Prop:=∃v,cs=[.int .i64 x.ty,v]∧Wf x.ty∧SlV w B 2 isGd v x.clock
theorem isWr.keep {w w':World} {B B':Nat} {x:Wr} {cs:List Value} (h:isWr w B x cs) (hk:∀(p:Addr) (u:Value),p.block<B→w.cell? p=some u→w'.cell? p=some u) (hB:B≤B'):isWr w' B' x cs:=by
 obtain ⟨v,h1,h2,h3⟩:=h
 exact ⟨v,h1,h2,h3.keep hk hB (fun _ _ _ h=>h)⟩
section
variable {w w':World} {B B':Nat} {f:Fm} {vw va vc vk vi vo:Value}
end
theorem _root_.Go.Proofs.YtdkgkacnjdnpoaaGreat.Sl.gd {w:World} {B:Nat} {A:Option Addr} {l:List Gd} {k:Nat} (h:Sl w B 2 isGd A l) (hk:k<l.length):∃b off x,A=some ⟨b,off,none⟩∧b<B∧l[k]? =some x∧Wf x.wire∧
  w.cell? ⟨b,off+k*2,none⟩=some (.int .i64 x.wire)∧w.cell? ⟨b,off+k*2+1,none⟩=some (.bool x.no):=by
 obtain ⟨b,off,x,cs,h1,h2,h3,⟨rfl,h4⟩,h5⟩:=h.at_ hk
 exact ⟨b,off,x,h1,h2,h3,h4,h5 0 _ rfl,h5 1 _ rfl⟩
theorem _root_.Go.Proofs.YtdkgkacnjdnpoaaGreat.Sl.wr {w:World} {B:Nat} {A:Option Addr} {l:List Wr} {k:Nat} (h:Sl w B 2 (isWr w B) A l) (hk:k<l.length):∃b off x Ag cg,A=some ⟨b,off,none⟩∧b<B∧l[k]? =some x∧Wf x.ty∧
  w.cell? ⟨b,off+k*2,none⟩=some (.int .i64 x.ty)∧w.cell? ⟨b,off+k*2+1,none⟩=some (.slice Ag x.clock.length cg)∧x.clock.length≤cg∧cg≤maxLen∧Sl w B 2 isGd Ag x.clock:=by
 obtain ⟨b,off,x,cs,h1,h2,h3,⟨v,rfl,h4,Ag,cg,rfl,h6,h7,h8⟩,h5⟩:=h.at_ hk
 exact ⟨b,off,x,Ag,cg,h1,h2,h3,h4,h5 0 _ rfl,h5 1 _ rfl,h6,h7,h8⟩
attribute [local go_sem ↓] Go.wp_at_zero Go.wp_at_succ
theorem gd_ext {x y:Gd} (h1:x.wire=y.wire) (h2:x.no=y.no):x=y:=by cases x;cases y;simp_all
theorem gds_eq {l m:List Gd} (hl:l.length=m.length) (h:∀j,j<l.length→∀x y,l[j]? =some x→m[j]? =some y→x=y):l=m:=by
 apply List.ext_getElem hl
 intro i h1 h2
 exact h i h1 _ _ (List.getElem?_eq_getElem h1) (List.getElem?_eq_getElem h2)
theorem eqGuards_any (l m:List Gd) (v1 v2:Value) (B:Nat) (w:World) (h1:SlV w B 2 isGd v1 l) (h2:SlV w B 2 isGd v2 m):
  Calls Tryz.prog 109 #[v1,v2] w fun e w'=>e= .returned (.bool (cB (l=m)))∧∃n,w'=w.drewN n:=by
 obtain ⟨A1,c1,rfl,l1,m1,s1⟩:=h1
 obtain ⟨A2,c2,rfl,l2,m2,s2⟩:=h2
 have m1':c1≤9223372036854775807:=by unfold maxLen at m1;omega
 have m2':c2≤9223372036854775807:=by unfold maxLen at m2;omega
 by_cases hl:l.length=m.length
 rotate_left 1
 ·have HF:=Lib.hid (cB_false (fun g:l=m=>hl (by rw[g])))
  have hl':((l.length:Int) !=(m.length:Int))=true:=by rw[bne_iff_ne];omega
  clear hl
  go_enter Tryz.func109,Tryz.ntmps109
  go_wp2_with fail
  go_ret
  exact ⟨ret_bool HF.out.symm,0,rfl⟩
 have hl':((l.length:Int) !=(m.length:Int))=false:=by rw[bne_eq_false_iff_eq];omega
 have HL:=Lib.hid hl
 have hle1:l.length≤m.length:=by omega
 clear hl
 go_enter Tryz.func109,Tryz.ntmps109
 go_wp2_with fail
 go_loopw[13] (fun i wr=>∃k:Nat,k≤l.length∧i= .int .i64 k∧Hid (∀j,j<k→∀x y,l[j]? =some x→m[j]? =some y→x=y)∧∃n,wr=w.drewN n) (fun i _=>l.length-(intOf i).toNat)
 case atStart=>exact ⟨0,Nat.zero_le _,rfl,fun j h=>absurd h (by omega),0,rfl⟩
 case round=>
  obtain ⟨k,hk,rfl,HN,n,rfl⟩:=hrel
  by_cases hlt:k<l.length
  ·obtain ⟨b1,o1,x,rfl,hb1,hx,wx,d1,d1'⟩:=s1.gd hlt
   obtain ⟨b2,o2,y,rfl,hb2,hy,wy,d2,d2'⟩:=s2.gd (show k<m.length by omega)
   have HX:=Lib.hid hx
   have HY:=Lib.hid hy
   clear hx hy
   have hk1:(k:Int)<l.length:=by omega
   have hk2:(k:Int)<m.length:=by omega
   have hk0:(0:Int)≤(k:Int):=by omega
   by_cases e1:x.wire=y.wire
   ·have e1':(x.wire==y.wire)=true:=by simp[e1]
    by_cases e2:x.no=y.no
    ·have e2':(x.no==y.no)=true:=by simp[e2]
     have HN':=Lib.hid (upto_succ HN.out (fun x' y' hx' hy'=>by rw[HX.out] at hx';rw[HY.out] at hy';injection hx' with hx';injection hy' with hy';rw[←hx',←hy'];exact gd_ext e1 e2))
     refine' zq133
    ·refine' zq135
   ·have e1':(x.wire==y.wire)=false:=by simp[e1]
    refine' zq174
  ·obtain rfl:k=l.length:=by omega
   have HF:=Lib.hid (cB_true (gds_eq HL.out HN.out))
   refine' zq55
theorem wAt_some {f:Fm} {n:Nat} {x:Wr} (h:f.wires[n]? =some x):wAt f n=x:=by simp[wAt,List.getD_eq_getElem?_getD,h]
def portAt (f:Fm) (n:Int):Prop:=isW f n∧clockOf f n=[]
theorem ports_no {f:Fm} {l:List Int} {k:Nat} {n:Int} (h:l[k]? =some n) (hn:¬portAt f n):¬portsOk f l:=fun g=>hn (g.1 n (List.mem_of_getElem? h))
theorem ports_yes {f:Fm} {l:List Int} (h:∀j,j<l.length→∀n,l[j]? =some n→portAt f n):portsOk f l↔1≤l.length∧l.length≤8:=by
 refine ⟨fun g=>g.2,fun g=>⟨fun n hn=>?_,g⟩⟩
 obtain ⟨j,hj⟩:=List.getElem?_of_mem hn
 exact h j (List.getElem?_eq_some_iff.1 hj).1 n hj
theorem index_int {w:World} {O:Nat} {l:List Int} {t:TypeId} (h:Row w O (l.map (Value.int .i64)).toArray t) (hl:l.length≤1600) (x:Int):
  Calls Tryz.prog 153 #[.slice (some ⟨O,0,none⟩) l.length l.length,.int .i64 x] w fun e w'=>(∃r:Int,e= .returned (.int .i64 r)∧(0≤r↔x∈l))∧w=w':=by
 go_enter Tryz.func153,Tryz.ntmps153
 go_wp2_with fail
 go_loopw[8] (fun i wr=>∃k:Nat,k≤l.length∧i= .int .i64 k∧Hid (∀j,j<k→∀y,l[j]? =some y→y≠x)∧w=wr) (fun i _=>l.length-(intOf i).toNat)
 case atStart=>exact ⟨0,Nat.zero_le _,rfl,fun j h=>absurd h (by omega),rfl⟩
 case round=>
  obtain ⟨k,hk,rfl,HN,rfl⟩:=hrel
  by_cases hlt:k<l.length
  ·have c0:=kind_cell h hlt
   have HG:=Lib.hid (show l[k]? =some (getI l k) by simp[getI,List.getD_eq_getElem?_getD,List.getElem?_eq_getElem hlt])
   generalize getI l (k:Int)=V at*
   by_cases e:x=V
   ·have e':(x==V)=true:=by simp[e]
    have e'':(V==x)=true:=by simp[e]
    have HE:=Lib.hid e
    clear e
    go_wp2_with fail
    go_ret
    refine ⟨⟨_,rfl,?_⟩,rfl⟩
    exact ⟨fun _=>by rw[HE.out];exact List.mem_of_getElem? HG.out,fun _=>by omega⟩
   ·have e':(x==V)=false:=by simp[e]
    have e'':(V==x)=false:=by simp;exact fun g=>e g.symm
    have HN':=Lib.hid (upto_succ HN.out (fun y hy=>by rw[HG.out] at hy;injection hy with hy;rw[←hy];exact fun g=>e g.symm))
    clear e
    go_wp2_with fail
    go_roundw
    case rel=>exact ⟨k+1,by omega,by go_num,HN',trivial⟩
    case measure=>simp[intOf];omega
  ·obtain rfl:k=l.length:=by omega
   go_wp2_with fail
   go_ret
   refine ⟨⟨_,rfl,?_⟩,rfl⟩
   refine ⟨fun h0=>absurd h0 (by decide),fun hn=>?_⟩
   obtain ⟨j,hj⟩:=List.getElem?_of_mem hn
   exact absurd rfl (HN.out j (List.getElem?_eq_some_iff.1 hj).1 x hj)
theorem contains_int {w:World} {O:Nat} {l:List Int} {t:TypeId} (h:Row w O (l.map (Value.int .i64)).toArray t) (hl:l.length≤1600) (x:Int):
  Calls Tryz.prog 111 #[.slice (some ⟨O,0,none⟩) l.length l.length,.int .i64 x] w fun e w'=>e= .returned (.bool (cB (x∈l)))∧w=w':=by
 have HI:=Lib.hid (index_int h hl x)
 clear h
 go_enter Tryz.func111,Tryz.ntmps111
 refine' zq138
section
variable {H:Type} {enc:TypeId × Value→H} {w:World} {spare:Nat→Bool} {held:Bool}
end
theorem index_bool {w:World} {O:Nat} {l:List Bool} {t:TypeId} (h:Row w O (l.map Value.bool).toArray t) (hl:l.length≤1600):
  Calls Tryz.prog 158 #[.slice (some ⟨O,0,none⟩) l.length l.length,.bool false] w fun e w'=>(∃r:Int,e= .returned (.int .i64 r)∧(0≤r↔¬∀b∈l,b=true))∧w=w':=by
 go_enter Tryz.func158,Tryz.ntmps158
 go_wp2_with fail
 go_loopw[8] (fun i wr=>∃k:Nat,k≤l.length∧i= .int .i64 k∧Hid (∀j,j<k→l.getD j false=true)∧w=wr) (fun i _=>l.length-(intOf i).toNat)
 case atStart=>exact ⟨0,Nat.zero_le _,rfl,fun j h=>absurd h (by omega),rfl⟩
 case round=>
  obtain ⟨k,hk,rfl,HN,rfl⟩:=hrel
  by_cases hlt:k<l.length
  ·have c0:=out_cell h hlt
   generalize hV:l.getD k false=V at*
   have HV:=Lib.hid hV
   have HM:=Lib.hid (List.getElem_mem hlt)
   have HG:=Lib.hid (show l.getD k false=l[k] by rw[List.getD_eq_getElem?_getD,List.getElem?_eq_getElem hlt];rfl)
   clear hV
   cases V
   ·go_wp2_with fail
    go_ret
    refine ⟨⟨_,rfl,?_⟩,rfl⟩
    refine ⟨fun _ ha=>?_,fun _=>by omega⟩
    have:=ha _ HM.out
    rw[←HG.out,HV.out] at this
    exact absurd this (by decide)
   ·have HN':=Lib.hid (show ∀j,j<k+1→l.getD j false=true from fun j hj=>by
     by_cases e:j=k
     ·rw[e];exact HV.out
     ·exact HN.out j (by omega))
    go_wp2_with fail
    go_roundw
    case rel=>exact ⟨k+1,by omega,by go_num,HN',trivial⟩
    case measure=>simp[intOf];omega
  ·obtain rfl:k=l.length:=by omega
   go_wp2_with fail
   go_ret
   refine ⟨⟨_,rfl,?_⟩,rfl⟩
   refine ⟨fun h0=>absurd h0 (by decide),fun hn=>absurd (fun b hb=>?_) hn⟩
   obtain ⟨j,hj,rfl⟩:=List.getElem_of_mem hb
   have:=HN.out j hj
   rwa [List.getD_eq_getElem?_getD,List.getElem?_eq_getElem hj] at this
theorem contains_bool {w:World} {O:Nat} {l:List Bool} {t:TypeId} (h:Row w O (l.map Value.bool).toArray t) (hl:l.length≤1600):
  Calls Tryz.prog 118 #[.slice (some ⟨O,0,none⟩) l.length l.length,.bool false] w fun e w'=>e= .returned (.bool (cB (¬∀b∈l,b=true)))∧w=w':=by
 have HI:=Lib.hid (index_bool h hl)
 clear h
 go_enter Tryz.func118,Tryz.ntmps118
 refine' zq138
section
variable {w w':World} {B L K O:Nat} {vi vo vc vd:Value}
end
theorem made_one (z:Value) (n:Nat):madeCells #[z] n=(List.replicate n z).toArray:=by
 apply Array.ext
 ·simp[madeCells]
 ·intro i h1 h2
  simp[madeCells,Nat.mod_one]
theorem info_bool:(Tryz.prog.info? 4).map (fun i=>(i.zero,i.size,i.bytes))=some (some (.bool false),1,1):=by kernel_rfl
theorem make_ints (n:Int) (h0:0≤n) (h1:n≤1600) (W:World):(Instr.makeSlice 34 (.int .i64 n) (.int .i64 n)).run Tryz.prog W= .ok (.slice (some ⟨W.heap.size,0,none⟩) n.toNat n.toNat) (W.alloc (.cells (List.replicate n.toNat (.int .i64 0)).toArray 3)):=by
 refine' zq125
 rw[run_make (P:=Tryz.prog) W 34 3 i0 (.int .i64 0) rfl hi0 hz0 .i64 .i64 n n h0 (Int.le_refl _) (by rw[hz2];omega) (by omega),hz1,Nat.mul_one,←made_one]
 rfl
theorem make_bools (n:Int) (h0:0≤n) (h1:n≤1600) (W:World):(Instr.makeSlice 53 (.int .i64 n) (.int .i64 n)).run Tryz.prog W= .ok (.slice (some ⟨W.heap.size,0,none⟩) n.toNat n.toNat) (W.alloc (.cells (List.replicate n.toNat (.bool false)).toArray 4)):=by
 obtain ⟨i0,hi0,hz0,hz1,hz2⟩:=info_parts info_bool
 rw[run_make (P:=Tryz.prog) W 53 4 i0 (.bool false) rfl hi0 hz0 .i64 .i64 n n h0 (Int.le_refl _) (by rw[hz2];omega) (by omega),hz1,Nat.mul_one,←made_one]
 rfl
open Go.RowKit
def repN (x:Int) (n c:Nat):List Value:=List.replicate n (.int .i64 x)++List.replicate (c-n) (.int .i64 0)
theorem repN_len {x:Int} {n c:Nat} (h:n≤c):(repN x n c).length=c:=by simp[repN];omega
theorem repN_splice {x:Int} {n m c:Nat}:splice (repN x n c) n (List.replicate m (.int .i64 x))=repN x (n+m) c:=by
 unfold splice repN
 rw[List.take_left' (by simp),List.length_replicate,show n+m=(List.replicate n (Value.int .i64 x)).length+m by simp,List.drop_length_add_append,List.drop_replicate,List.length_replicate,←List.append_assoc,List.replicate_append_replicate,show c-n-m=c-(n+m) by omega]
theorem repN_get {x:Int} {n c j:Nat} (h:j<n):(repN x n c)[j]? =some (.int .i64 x):=by
 unfold repN
 rw[List.getElem?_append_left (by simpa using h),List.getElem?_replicate,if_pos h]
theorem repN_zero (x:Int) (c:Nat):repN x 0 c=List.replicate c (.int .i64 0):=by simp[repN]
theorem repN_full (x:Int) (c:Nat):repN x c c=List.replicate c (.int .i64 x):=by simp[repN]
def RepIs (x:Int) (c:Nat) (w:World) (e:Ending) (w':World):Prop:=∃R,e= .returned (.slice (some ⟨R,0,none⟩) c c)∧w.heap.size≤R∧Row w' R (List.replicate c (.int .i64 x)).toArray 3∧Below w.heap.size w w'
theorem repeat_one (x:Int) (c b off cap:Nat) (hc:c≤1600) (hc1:1≤c) (w:World) (hb:b<w.heap.size) (hx:w.cell? ⟨b,off,none⟩=some (.int .i64 x)):
  Calls Tryz.prog 110 #[.slice (some ⟨b,off,none⟩) 1 cap,.int .i64 c] w (RepIs x c w):=by
 have mk:=make_ints c (by omega) (by omega)
 have e1:IntKind.u64.wrap (c:Int)=(c:Int):=by rw[IntKind.wrap_u64];omega
 have hsz1:(Tryz.prog.info? 3).map (·.size)=some 1:=by kernel_rfl
 have b1:=(Below.refl w.heap.size w).alloc (Nat.le_refl _) (.cells (Array.replicate c (.int .i64 0)) 3)
 have r1:=Row.new w (Array.replicate c (.int .i64 0)) 3
 have hx1:(w.alloc (.cells (Array.replicate c (.int .i64 0)) 3)).cell? ⟨b,off,none⟩=some (.int .i64 x):=(World.cell?_alloc_lt w _ _ hb).trans hx
 have R1:Hid ((w.alloc (.cells (Array.replicate c (.int .i64 0)) 3)).heap[w.heap.size]? =some (.cells (repN x 0 c).toArray 3 (0,0))):=by show _=_;rw[repN_zero];simpa[Row] using r1
 clear r1
 go_enter Tryz.func110,Tryz.ntmps110
 refine' zq142
 go_wp2_with (refine wpList_copy_splice rfl (.tmp 31) (.tmp 32) 34 34 rfl 3 Tryz.underlying34 hsz1 _ _ _ _ _ _ rfl rfl w.heap.size 0 (repN x 0 c) 3 R1.out [.int .i64 x] ?c1 ?c2 ?c3 ?c4 w.heap.size w b1 (Nat.le_refl _) ?_)
 case c1=>exact (Nat.min_eq_left hc1).symm
 case c2=>
  intro j v hv
  match j,hv with
  |0,hv=>simp at hv;subst hv;simpa using hx
 case c3=>rw[repN_len (Nat.zero_le _)];simpa using hc1
 case c4=>intro v hv;simp at hv;subst hv;rfl
 intro w2 hR2 hb2
 have R2:Hid (Row w2 w.heap.size (repN x 1 c).toArray 3):=by
  have:=hR2.out
  rw[show [Value.int .i64 x]=List.replicate 1 (.int .i64 x) from rfl,repN_splice] at this
  exact this
 clear hR2 R1 b1 hx1 mk
 go_wp2_with fail
 go_loopw[8] (fun i wr=>∃n:Nat,1≤n∧n≤c∧i= .int .i64 n∧Hid (Row wr w.heap.size (repN x n c).toArray 3)∧Below w.heap.size w wr) (fun i _=>c-(intOf i).toNat)
 case atStart=>exact ⟨1,by omega,hc1,rfl,R2,hb2⟩
 case round=>
  clear R2 hb2
  obtain ⟨n,hn1,hnc,rfl,HR,hbr⟩:=hrel
  by_cases hlt:n<c
  ·have hi0:(0:Int)≤(n:Int):=by omega
   have hi1:(n:Int)≤(c:Int):=by omega
   have hne:¬(c=n):=by omega
   have hm:min n (c-n)≤c:=by omega
   have HM:Hid (∀v∈List.replicate (min n (c-n)) (Value.int .i64 x),v.oneCell'=true):=fun v hv=>by rw[(List.mem_replicate.1 hv).2];rfl
   have HC:Hid (∀j v,(List.replicate (min n (c-n)) (Value.int .i64 x))[j]? =some v→wr.drew.cell? ((⟨w.heap.size,0,none⟩:Addr).add j)=some v):=by
    refine' zq115
   have HL:Hid ((repN x n c).length=c):=repN_len hnc
   go_wp2_with fail
   go_region_held3 (fun _=>True) (first|trivial) (first|((refine step_copy_splice (by rfl) (.tmp 41) (.tmp 44) 34 34 (by rfl) 3 Tryz.underlying34 hsz1 (some ⟨w.heap.size,n,none⟩) (some ⟨w.heap.size,0,none⟩) (c-n) (c-n) n c (by rfl) (by rfl) w.heap.size n (repN x n c) 3 HR.out.drew (List.replicate (min n (c-n)) (.int .i64 x)) (by simp) (fun _=>⟨rfl,_,rfl,HC.out⟩) (by rw[HL.out];simp;omega) HM.out w.heap.size w hbr.drew (Nat.le_refl _) ?_);intro w3 hR3 hb3))
   have R3:Hid (Row w3 w.heap.size (repN x (n+min n (c-n)) c).toArray 3):=by
    have:=hR3.out
    rw[repN_splice] at this
    exact this
   have hlen:(List.replicate (min n (c-n)) (Value.int .i64 x)).length=min n (c-n):=by simp
   refine' zq39
  ·obtain rfl:n=c:=by omega
   go_wp2_with fail
   go_ret
   exact ⟨w.heap.size,rfl,Nat.le_refl _,by rw[←repN_full];exact HR.out,hbr⟩
theorem repeat_zero (x:Int) (b off cap:Nat) (w:World):
  Calls Tryz.prog 110 #[.slice (some ⟨b,off,none⟩) 1 cap,.int .i64 0] w (RepIs x 0 w):=by
 have mk:=make_ints 0 (by omega) (by omega)
 have e1:IntKind.u64.wrap 0=0:=by decide
 have hsz1:(Tryz.prog.info? 3).map (·.size)=some 1:=by kernel_rfl
 have b1:=Lib.hid ((Below.refl w.heap.size w).alloc (Nat.le_refl _) (.cells (Array.replicate (0:Int).toNat (.int .i64 0)) 3))
 have r1:=Lib.hid (Row.new w (Array.replicate (0:Int).toNat (.int .i64 0)) 3)
 go_enter Tryz.func110,Tryz.ntmps110
 refine' zq143
 go_wp2_with (refine wpList_copy_nothing rfl (.tmp 31) (.tmp 32) 34 34 rfl 3 Tryz.underlying34 hsz1 _ _ _ _ _ _ rfl rfl rfl ?_)
 go_wp2_with fail
 go_loopw[8] (fun i wr=>i= .int .i64 0∧Hid (Row wr w.heap.size (Array.replicate (0:Int).toNat (.int .i64 0)) 3∧Below w.heap.size w wr)) (fun i _=>0)
 case atStart=>exact ⟨rfl,r1.out,b1.out⟩
 case round=>
  obtain ⟨rfl,HR⟩:=hrel
  go_wp2_with fail
  go_ret
  exact ⟨w.heap.size,rfl,Nat.le_refl _,HR.out.1,HR.out.2⟩
theorem repeat_any (x:Int) (c b off cap:Nat) (hc:c≤1600) (w:World) (hb:b<w.heap.size) (hx:w.cell? ⟨b,off,none⟩=some (.int .i64 x)):
  Calls Tryz.prog 110 #[.slice (some ⟨b,off,none⟩) 1 cap,.int .i64 c] w (RepIs x c w):=by
 rcases Nat.eq_zero_or_pos c with rfl|h0
 ·exact repeat_zero x b off cap w
 ·exact repeat_one x c b off cap hc h0 w hb hx
end Go.Proofs.YtdkgkacnjdnpoaaGreat.Q
