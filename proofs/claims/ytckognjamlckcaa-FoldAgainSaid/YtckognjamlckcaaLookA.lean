/-
  Machines' programs in memory; the contracts of package code's May and of row.Right. Which programs may be: the contract of code.May. Arguments that read as data, opened: machines' programs. Appends of whatever slice, nil let in; arguments that are rows of numbers. The contracts of tompionref04.Right and of tompionref27's Value, Has, May. The contracts of package arith: each call returns the number that its text says, wrapped to 64 bits, and leaves the world as it was. Plain facts on numbers of 64 bits that go round: sums, products, quotients, remainders. No program in sight. The contracts of arith.Flag, One, Do, Sign. The contract of tompionref03.Sign. The looker in memory: the contracts of its small methods. More methods of the looker: one, cell, reckons. The looker looks at an instruction, op by op (those of one way). The looker looks at an instruction, op by op (those that draw their order). The looker looks at an instruction, op by op (more that draw their order). The looker looks at an instruction, op by op (what comes out).
-/
import Derived.Test.YtckognjamlckcaaMem
import Derived.Test.YtckognjamlckcaaPlainA
import Derived.Outline
import Derived.WalkLawsBesides
import Derived.Deep.DeepCutAuto
import Derived.Laws.AppendOwnNone
import Derived.Test.YtckognjamlckcaaChecked
import Derived.WalkKit
import Derived.Lib.Hide
import Derived.RowKit3
import Derived.Deep.RegionHeld3
namespace Go.Proofs.Ytckognjamlckcaa
open Go.RowKit Vf
noncomputable def cB (p:Prop):Bool:= @decide p (Classical.propDecidable p)
theorem cB_true {p:Prop} (h:p):cB p=true:=by unfold cB;exact @decide_eq_true p (Classical.propDecidable p) h
theorem cB_false {p:Prop} (h:¬p):cB p=false:=by unfold cB;exact @decide_eq_false p (Classical.propDecidable p) h
theorem cB_iff {p:Prop}:cB p=true↔p:=⟨fun h=>Classical.byContradiction fun hn=>(by rw[cB_false hn] at h;cases h),cB_true⟩
theorem cB_not {p:Prop}:cB p=false↔¬p:=⟨fun h hp=>(by rw[cB_true hp] at h;cases h),cB_false⟩
theorem cB_congr {p q:Prop} (h:p↔q):cB p=cB q:=by rw[Bool.eq_iff_iff,cB_iff,cB_iff];exact h
theorem upto_succ {k:Nat} {P:Nat→Prop} (h:∀j,j<k→P j) (hk:P k):∀j,j<k+1→P j:=fun j hj=>by
 rcases Nat.lt_or_ge j k with h1|h1
 ·exact h j h1
 ·obtain rfl:j=k:=by omega
  exact hk
def isCell (c:Int × Int) (cs:List Value):Prop:=cs=[.int .i64 c.1,.int .i64 c.2]∧Wf c.1∧Wf c.2
theorem Sl.cell {w:World} {B:Nat} {A:Option Addr} {l:List (Int × Int)} {k:Nat} (h:Sl w B 2 isCell A l) (hk:k<l.length):∃b off x,A=some ⟨b,off,none⟩∧b<B∧l[k]? =some x∧Wf x.1∧Wf x.2∧
  w.cell? ⟨b,off+k*2,none⟩=some (.int .i64 x.1)∧w.cell? ⟨b,off+k*2+1,none⟩=some (.int .i64 x.2):=by
 obtain ⟨b,off,x,cs,h1,h2,h3,⟨rfl,h4⟩,h5⟩:=h.at_ hk
 exact ⟨b,off,x,h1,h2,h3,h4.1,h4.2,h5 0 _ rfl,h5 1 _ rfl⟩
end Go.Proofs.Ytckognjamlckcaa
namespace Go.Proofs.Ytckognjamlckcaa
open Go.RowKit Vf
end Go.Proofs.Ytckognjamlckcaa
namespace Go.Proofs.Ytckognjamlckcaa
open Go.RowKit Vf
theorem list2 {α:Type} {l:List α} (h:l.length=2):∃a b,l=[a,b]:=by
 match l,h with
 | [a,b],_=>exact ⟨a,b,rfl⟩
section
variable {H:Type} {enc:TypeId × Value→H} {w:World} {spare:Nat→Bool} {held:Bool}
theorem cells_int:Try.prog.cellsOf 3=1:=by kernel_rfl
theorem cells_ints:Try.prog.cellsOf 26=1:=by kernel_rfl
theorem cells_cell:Try.prog.cellsOf 70=2:=by kernel_rfl
theorem cells_cells:Try.prog.cellsOf 24=1:=by kernel_rfl
set_option maxRecDepth 100000 in
theorem open_cell (fuel:Nat) (cs:List Value) (x:DataW H × List MemPlace) (h:DataW.trod enc Try.prog w 0 spare held fuel 70 cs=some x):∃c,isCell c cs:=by
 obtain ⟨xs,n,_,_,hlen,hxl,hf⟩:=DataW.trod_struct Try.underlying70 h
 rw[cells_cell] at hlen
 obtain ⟨c0,c1,rfl⟩:=list2 hlen
 have hx:xs.length=2:=hxl
 have e0:xs[0]? =some (xs[0]'(by omega)):=List.getElem?_eq_getElem (by omega)
 have e1:xs[1]? =some (xs[1]'(by omega)):=List.getElem?_eq_getElem (by omega)
 have h0:DataW.trod enc Try.prog w 0 spare held n 3 (([c0,c1].drop 0).take (Try.prog.cellsOf 3))=some xs[0]:=(hf 0 _ rfl).trans e0
 have h1:DataW.trod enc Try.prog w 0 spare held n 3 (([c0,c1].drop 1).take (Try.prog.cellsOf 3))=some xs[1]:=(hf 1 _ rfl).trans e1
 obtain ⟨a,ha,_,wa⟩:=DataW.trod_int Try.underlying3 h0
 obtain ⟨b,hb,_,wb⟩:=DataW.trod_int Try.underlying3 h1
 rw[cells_int] at ha hb
 simp at ha hb
 subst ha;subst hb
 exact ⟨(a,b),rfl,wa,wb⟩
theorem isInt_len (y:Int) (cs:List Value) (h:isInt y cs):cs.length=1:=by rw[h.1];rfl
theorem isCell_len (y:Int × Int) (cs:List Value) (h:isCell y cs):cs.length=2:=by rw[h.1];rfl
theorem open_ints {fuel:Nat} {c:Value} {x:DataW H × List MemPlace} (h:DataW.trod enc Try.prog w 0 spare held fuel 26 [c]=some x):∃l,SlV w w.heap.size 1 isInt c l:=
 open_sl Try.underlying26 cells_int (by decide) fuel (fun n _ cs x h=>open_isInt Try.underlying3 n cs x h) isInt_len 0 h
end
end Go.Proofs.Ytckognjamlckcaa
namespace Go.Proofs.Ytckognjamlckcaa
open Go.RowKit Vf
def NilOk (v:Value):Prop:=∀n c,v= .slice none n c→n=0∧c=0
theorem NilOk.some {ad:Addr} {n c:Nat}:NilOk (.slice (some ad) n c):=fun _ _ h=>by injection h with h;cases h
theorem NilOk.nil:NilOk (.slice none 0 0):=fun _ _ h=>by injection h with _ h1 h2;exact ⟨h1.symm,h2.symm⟩
section
variable {H:Type} {enc:TypeId × Value→H} {w:World} {spare:Nat→Bool} {held:Bool}
end
section
variable {P:Program} (w:World)
theorem wpList_append_opt {ops:Array Oper} {rest:List Oper} {o:Oper} {a:Act} {Q:Exit→Act→World→Prop} (hgd:o.guard=none) (s x:Operand) (t:TypeId)
  (ho:o.op= .call {callee:= .builtin .append,args:= #[s,x],argTypes:= #[t,t]})
  (base:Nat) (e:TypeId) (i:TypeInfo) (z:Value) (size bytes:Nat) (ht:P.underlying t=some (.slice e)) (hi:P.info? e=some i) (hz:i.zero=some z)
  (hsize:i.size=size) (hby:i.bytes=bytes) (hzs:z.cells.size=size) (hsz:0<size)
  (v:Value) (n:Nat) (xs:List Value) (hs:a.eval s=v) (hown:w.ownsRow base e size v n xs)
  (A:Option Addr) (m c:Nat) (news:List Value) (hx:a.eval x= .slice A m c) (hnil:NilOk (.slice A m c)) (hl:news.length=m*size) (hnews:∀ad,A=some ad→∀j u,news[j]? =some u→w.cell? (ad.add j)=some u) (h1:∀u∈news,u.oneCell'=true)
  (h63:n+m≤maxLen) (hbytes:(n+m)*bytes≤140737488355328) (hbase:base≤w.heap.size)
  (h:∀v' w',w'.ownsRow base e size v' (n+m) (xs++news)→Below base w w'→wpList P ops Q rest (a.put o.dst v') w'):wpList P ops Q (o::rest) a w:=by
 cases A with
 |none=>
  obtain ⟨rfl,rfl⟩:=hnil m c rfl
  have hn:news=[]:=List.eq_nil_of_length_eq_zero (by omega)
  subst hn
  refine wpList_append_own_none hgd s x t ho base e i size ht hi v n xs hs hown hx ?_
  refine h v w ?_ (Below.refl _ _)
  rw[List.append_nil,Nat.add_zero]
  exact hown
 |some ad=>
  refine wpList_append_any w hgd s x t ho base e i z size bytes ht hi hz hsize hby hzs hsz v n xs hs hown ad m c news hx hl (hnews ad rfl) h1 h63 hbytes hbase ?_
  intro v' w' h2 h3 _
  exact h v' w' h2 (below_own (Below.refl _ _) hown h3 hbase)
end
end Go.Proofs.Ytckognjamlckcaa
namespace Go.Proofs.Ytckognjamlckcaa
open Go.RowKit Vf
end Go.Proofs.Ytckognjamlckcaa
namespace Go.Proofs.Ytckognjamlckcaa.Ar
open Go.RowKit
def addZ (a b:Int):Int:=wrap64 (a+b)
def subZ (a b:Int):Int:=wrap64 (a-b)
def mulZ (a b:Int):Int:=wrap64 (a*b)
def negZ (a:Int):Int:=wrap64 (-a)
def divZ (a b:Int):Int:=if b=0 then 0 else if b= -1 then wrap64 (-a) else wrap64 (a.tdiv b)
def modZ (a b:Int):Int:=subZ a (mulZ (divZ a b) b)
def flagZ (b:Bool):Int:=if b then 1 else 0
theorem add_any (a b:Int) (w:World):
  Calls Try.prog 88 #[.int .i64 a,.int .i64 b] w fun e w'=>e= .returned (.int .i64 (addZ a b))∧w=w':=by
 go_enter Try.func88,Try.ntmps88
 go_wp2
 go_ret
 exact ⟨rfl,rfl⟩
theorem mul_any (a b:Int) (w:World):
  Calls Try.prog 90 #[.int .i64 a,.int .i64 b] w fun e w'=>e= .returned (.int .i64 (mulZ a b))∧w=w':=by
 go_enter Try.func90,Try.ntmps90
 go_wp2
 go_ret
 exact ⟨rfl,rfl⟩
theorem neg_any (a:Int) (w:World):
  Calls Try.prog 86 #[.int .i64 a] w fun e w'=>e= .returned (.int .i64 (negZ a))∧w=w':=by
 go_enter Try.func86,Try.ntmps86
 go_wp2
 go_ret
 exact ⟨rfl,rfl⟩
theorem sub_any (a b:Int) (w:World):
  Calls Try.prog 89 #[.int .i64 a,.int .i64 b] w fun e w'=>e= .returned (.int .i64 (subZ a b))∧w=w':=by
 go_enter Try.func89,Try.ntmps89
 go_wp2
 go_ret
 exact ⟨rfl,rfl⟩
theorem div_any (a b:Int) (w:World):
  Calls Try.prog 91 #[.int .i64 a,.int .i64 b] w fun e w'=>e= .returned (.int .i64 (divZ a b))∧w=w':=by
 by_cases h0:b=0
 ·subst h0
  go_enter Try.func91,Try.ntmps91
  go_wp2
  go_ret
  exact ⟨rfl,rfl⟩
 ·by_cases h1:b= -1
  ·subst h1
   go_enter Try.func91,Try.ntmps91
   go_wp2
   go_ret
   exact ⟨rfl,rfl⟩
  ·have e0:(b==0)=false:=by simp[h0]
   have e1:(b== -1)=false:=by simp[h1]
   have hf:divZ a b=wrap64 (a.tdiv b):=by simp[divZ,h0,h1]
   have HF:=Lib.hid hf
   clear hf
   go_enter Try.func91,Try.ntmps91
   go_wp2
   go_ret
   exact ⟨by rw[HF.out];rfl,rfl⟩
end Go.Proofs.Ytckognjamlckcaa.Ar
namespace Go.Proofs.Ytckognjamlckcaa.Z
open Go.RowKit Ar
theorem wrap_bmod (n:Int):wrap64 n=Int.bmod n 18446744073709551616:=by
 unfold wrap64
 rw[Int.bmod_def]
 split<;>omega
theorem wrap_lo (n:Int): -9223372036854775808≤wrap64 n∧wrap64 n≤9223372036854775807:=by
 unfold wrap64;omega
theorem wrap_in {n:Int} (h: -9223372036854775808≤n∧n≤9223372036854775807):wrap64 n=n:=by
 unfold wrap64;omega
def In (n:Int):Prop:= -9223372036854775808≤n∧n≤9223372036854775807
theorem in_add (a b:Int):In (addZ a b):=wrap_lo _
theorem in_neg (a:Int):In (negZ a):=wrap_lo _
theorem in_sub (a b:Int):In (subZ a b):=wrap_lo _
theorem in_mul (a b:Int):In (mulZ a b):=wrap_lo _
theorem in_mod (a b:Int):In (modZ a b):=wrap_lo _
theorem in_div (a b:Int):In (divZ a b):=by
 unfold divZ
 split
 ·unfold In;omega
 ·split
  ·exact wrap_lo _
  ·exact wrap_lo _
theorem sub_eq (a b:Int):subZ a b=addZ a (negZ b):=by
 simp only[subZ,addZ,negZ,wrap_bmod,Int.add_bmod_bmod,Int.sub_eq_add_neg]
theorem mul_one {a:Int} (h:In a):mulZ a 1=a:=by
 unfold mulZ;rw[Int.mul_one];exact wrap_in h
theorem div_zero (a:Int):divZ a 0=0:=by simp[divZ]
theorem mod_zero {a:Int} (h:In a):modZ a 0=a:=by
 simp only[modZ,subZ,mulZ,divZ,if_true,Int.mul_zero]
 rw[wrap_in (n:=0) (by omega),Int.sub_zero];exact wrap_in h
end Go.Proofs.Ytckognjamlckcaa.Z
namespace Go.Proofs.Ytckognjamlckcaa.Ar
open Go.RowKit
theorem mod_any (a b:Int) (w:World):
  Calls Try.prog 92 #[.int .i64 a,.int .i64 b] w fun e w'=>e= .returned (.int .i64 (modZ a b))∧w=w':=by
 go_enter Try.func92,Try.ntmps92
 go_wp2_with (go_at_call 91;refine (div_any _ _ _).mono ?_;rintro e w' ⟨rfl,rfl⟩)
 go_ret
 exact ⟨rfl,rfl⟩
def cmpB (op a b:Int):Bool:=
 if op=12 then a==b else if op=13 then a !=b else if op=14 then decide (a<b) else if op=15 then decide (a≤b) else if op=16 then decide (b<a) else decide (b≤a)
def logB (op:Int) (a b:Bool):Bool:=if op=18 then a && b else if op=19 then a||b else a !=b
def oneV (op a:Int):Int:=if op=5 then negZ a else if op=6 then flagZ (a==0) else 0
def oneB (op:Int):Bool:=op==5||op==6
def doV (op a b:Int):Int:=
 if op=7 then addZ a b else if op=8 then subZ a b else if op=9 then mulZ a b else if op=10 then divZ a b else if op=11 then modZ a b
 else if 12≤op∧op≤17 then flagZ (cmpB op a b) else if 18≤op∧op≤20 then flagZ (logB op (a !=0) (b !=0)) else 0
def doB (op:Int):Bool:=decide (7≤op) && decide (op≤20)
def signIn (op:Int):Int:=if op=12∨op=13 then 0 else if op=6∨op=18∨op=19∨op=20 then 2 else if 5≤op∧op≤17 then 1 else 0
def signOut (op:Int):Int:=if op=6∨(12≤op∧op≤20) then 2 else if 5≤op∧op≤11 then 1 else 0
def signB (op:Int):Bool:=decide (5≤op) && decide (op≤20)
theorem flag_any (b:Bool) (w:World):
  Calls Try.prog 87 #[.bool b] w fun e w'=>e= .returned (.int .i64 (flagZ b))∧w=w':=by
 cases b<;>
 ·go_enter Try.func87,Try.ntmps87
  go_wp2
  go_ret
  exact ⟨rfl,rfl⟩
theorem compare_any (op a b:Int) (w:World) (h:12≤op∧op≤17):
  Calls Try.prog 93 #[.int .i64 op,.int .i64 a,.int .i64 b] w fun e w'=>e= .returned (.bool (cmpB op a b))∧w=w':=by
 rcases (by omega:op=12∨op=13∨op=14∨op=15∨op=16∨op=17) with rfl|rfl|rfl|rfl|rfl|rfl
 all_goals
  clear h
  go_enter Try.func93,Try.ntmps93
  go_wp2
  go_ret
  exact ⟨rfl,rfl⟩
theorem logic_any (op:Int) (a b:Bool) (w:World) (h:18≤op∧op≤20):
  Calls Try.prog 94 #[.int .i64 op,.bool a,.bool b] w fun e w'=>e= .returned (.bool (logB op a b))∧w=w':=by
 rcases (by omega:op=18∨op=19∨op=20) with rfl|rfl|rfl
 all_goals
  clear h
  cases a<;>cases b<;>
  ·go_enter Try.func94,Try.ntmps94
   go_wp2
   go_ret
   exact ⟨rfl,rfl⟩
theorem one_any (op a:Int) (w:World):
  Calls Try.prog 79 #[.int .i64 op,.int .i64 a] w fun e w'=>e= .returned (.tuple #[.int .i64 (oneV op a),.bool (oneB op)])∧w=w':=by
 by_cases h5:op=5
 ·subst h5
  go_enter Try.func79,Try.ntmps79
  go_wp2_with (go_at_call 86;refine (neg_any _ _).mono ?_;rintro e w' ⟨rfl,rfl⟩)
  go_ret2
  exact ⟨rfl,rfl⟩
 ·by_cases h6:op=6
  ·subst h6
   clear h5
   go_enter Try.func79,Try.ntmps79
   go_wp2_with (go_at_call 87;refine (flag_any _ _).mono ?_;rintro e w' ⟨rfl,rfl⟩)
   go_ret2
   exact ⟨rfl,rfl⟩
  ·have e5:(op==5)=false:=by simp[h5]
   have e6:(op==6)=false:=by simp[h6]
   have HF:=Lib.hid (show oneV op a=0 from by simp[oneV,h5,h6])
   have HB:=Lib.hid (show oneB op=false from by simp[oneB,h5,h6])
   clear h5 h6
   go_enter Try.func79,Try.ntmps79
   go_wp2_with fail
   go_ret2
   exact ⟨by rw[HF.out,HB.out];rfl,rfl⟩
theorem do_any (op a b:Int) (w:World):
  Calls Try.prog 80 #[.int .i64 op,.int .i64 a,.int .i64 b] w fun e w'=>e= .returned (.tuple #[.int .i64 (doV op a b),.bool (doB op)])∧w=w':=by
 by_cases h:7≤op∧op≤20
 ·by_cases hc:op≤11
  ·rcases (by omega:op=7∨op=8∨op=9∨op=10∨op=11) with rfl|rfl|rfl|rfl|rfl
   all_goals
    clear h hc
    go_enter Try.func80,Try.ntmps80
    go_wp2_with (first|(go_at_call 88;refine (add_any _ _ _).mono ?_;rintro e w' ⟨rfl,rfl⟩)|(go_at_call 89;refine (sub_any _ _ _).mono ?_;rintro e w' ⟨rfl,rfl⟩)|(go_at_call 90;refine (mul_any _ _ _).mono ?_;rintro e w' ⟨rfl,rfl⟩)|(go_at_call 91;refine (div_any _ _ _).mono ?_;rintro e w' ⟨rfl,rfl⟩)|(go_at_call 92;refine (mod_any _ _ _).mono ?_;rintro e w' ⟨rfl,rfl⟩))
    go_ret2
    exact ⟨rfl,rfl⟩
  ·by_cases hl:op≤17
   ·rcases (by omega:op=12∨op=13∨op=14∨op=15∨op=16∨op=17) with rfl|rfl|rfl|rfl|rfl|rfl
    all_goals
     clear h hc hl
     go_enter Try.func80,Try.ntmps80
     go_wp2_with (first|(go_at_call 93;refine (compare_any _ _ _ _ (by omega)).mono ?_;rintro e w' ⟨rfl,rfl⟩)|(go_at_call 87;refine (flag_any _ _).mono ?_;rintro e w' ⟨rfl,rfl⟩))
     go_ret2
     exact ⟨rfl,rfl⟩
   ·rcases (by omega:op=18∨op=19∨op=20) with rfl|rfl|rfl
    all_goals
     clear h hc hl
     go_enter Try.func80,Try.ntmps80
     go_wp2_with (first|(go_at_call 94;refine (logic_any _ _ _ _ (by omega)).mono ?_;rintro e w' ⟨rfl,rfl⟩)|(go_at_call 87;refine (flag_any _ _).mono ?_;rintro e w' ⟨rfl,rfl⟩))
     go_ret2
     exact ⟨rfl,rfl⟩
 ·have HF:=Lib.hid (show doV op a b=0 from by
   unfold doV
   rw[if_neg (by omega),if_neg (by omega),if_neg (by omega),if_neg (by omega),if_neg (by omega),if_neg (by omega),if_neg (by omega)])
  have HB:=Lib.hid (show doB op=false from by simp[doB];omega)
  by_cases hlt:op<7
  ·clear h
   go_enter Try.func80,Try.ntmps80
   go_wp2_with fail
   go_ret2
   exact ⟨by rw[HF.out,HB.out];rfl,rfl⟩
  ·have hgt:20<op:=by omega
   clear h hlt
   go_enter Try.func80,Try.ntmps80
   go_wp2_with fail
   go_ret2
   exact ⟨by rw[HF.out,HB.out];rfl,rfl⟩
theorem sign_any (op:Int) (w:World):
  Calls Try.prog 23 #[.int .i64 op] w fun e w'=>e= .returned (.tuple #[.int .i64 (signIn op),.int .i64 (signOut op),.bool (signB op)])∧w=w':=by
 by_cases h:5≤op∧op≤20
 ·rcases (by omega:op=5∨op=6∨op=7∨op=8∨op=9∨op=10∨op=11∨op=12∨op=13∨op=14∨op=15∨op=16∨op=17∨op=18∨op=19∨op=20) with rfl|rfl|rfl|rfl|rfl|rfl|rfl|rfl|rfl|rfl|rfl|rfl|rfl|rfl|rfl|rfl
  all_goals
   clear h
   go_enter Try.func23,Try.ntmps23
   go_wp2
   go_ret3
   exact ⟨rfl,rfl⟩
 ·have H1:=Lib.hid (show signIn op=0 from by unfold signIn;rw[if_neg (by omega),if_neg (by omega),if_neg (by omega)])
  have H2:=Lib.hid (show signOut op=0 from by unfold signOut;rw[if_neg (by omega),if_neg (by omega)])
  have H3:=Lib.hid (show signB op=false from by simp[signB];omega)
  by_cases hlt:op<5
  ·clear h
   go_enter Try.func23,Try.ntmps23
   go_wp2
   go_ret3
   exact ⟨by rw[H1.out,H2.out,H3.out];rfl,rfl⟩
  ·have hgt:20<op:=by omega
   clear h hlt
   go_enter Try.func23,Try.ntmps23
   go_wp2
   go_ret3
   exact ⟨by rw[H1.out,H2.out,H3.out];rfl,rfl⟩
end Go.Proofs.Ytckognjamlckcaa.Ar
namespace Go.Proofs.Ytckognjamlckcaa
open Go.RowKit Ar Z
set_option maxHeartbeats 4000000 in
theorem rsign_yes (op:Int) (w:World) (h:5≤op∧op≤20):
  Calls Try.prog 64 #[.int .i64 op] w fun e w'=>e= .returned (.tuple #[.int .i64 (signIn op),.int .i64 (signOut op),.bool true])∧Below w.heap.size w w':=by
 rcases (by omega:op=5∨op=6∨op=7∨op=8∨op=9∨op=10∨op=11∨op=12∨op=13∨op=14∨op=15∨op=16∨op=17∨op=18∨op=19∨op=20) with rfl|rfl|rfl|rfl|rfl|rfl|rfl|rfl|rfl|rfl|rfl|rfl|rfl|rfl|rfl|rfl
 all_goals
  clear h
  go_enter Try.func64,Try.ntmps64
  go_wp2
  go_quiet (fail)
  go_wp2
  go_ret3
  exact ⟨rfl,below_drewN' (((Below.refl _ _).alloc (Nat.le_refl _) _).alloc (by simp) _) _⟩
end Go.Proofs.Ytckognjamlckcaa
namespace Go.Proofs.Ytckognjamlckcaa
open Go.RowKit Vf
section
variable {w w':World} {B L K O:Nat} {vi vo vc vd:Value}
end
theorem kind_cell {w:World} {K:Nat} {l:List Int} {t:TypeId} (h:Row w K (l.map (Value.int .i64)).toArray t) {n:Nat} (hn:n<l.length):w.cell? ⟨K,n,none⟩=some (.int .i64 (getI l n)):=by
 rw[h.cell,List.getElem?_toArray,List.getElem?_map,List.getElem?_eq_getElem hn]
 unfold getI
 rw[List.getD_eq_getElem?_getD,Int.toNat_natCast,List.getElem?_eq_getElem hn]
 rfl
end Go.Proofs.Ytckognjamlckcaa
namespace Go.Proofs.Ytckognjamlckcaa
open Go.RowKit Vf
theorem getI_at {l:List Int} {n:Nat} {x:Int} (h:l[n]? =some x):getI l n=x:=by
 unfold getI
 rw[List.getD_eq_getElem?_getD,Int.toNat_natCast,h];rfl
theorem types_at {l:List (Int × Int)} {n:Nat} {x:Int × Int} (h:l[n]? =some x):(types l)[n]? =some x.1:=by
 unfold types;rw[List.getElem?_map,h];rfl
end Go.Proofs.Ytckognjamlckcaa
namespace Go.Proofs.Ytckognjamlckcaa
open Go.RowKit Vf
end Go.Proofs.Ytckognjamlckcaa
namespace Go.Proofs.Ytckognjamlckcaa
open Go.RowKit Vf
end Go.Proofs.Ytckognjamlckcaa
namespace Go.Proofs.Ytckognjamlckcaa
open Go.RowKit Vf
end Go.Proofs.Ytckognjamlckcaa
namespace Go.Proofs.Ytckognjamlckcaa
open Go.RowKit Vf
theorem out_cell {w:World} {O:Nat} {l:List Bool} {t:TypeId} (h:Row w O (l.map Value.bool).toArray t) {n:Nat} (hn:n<l.length):w.cell? ⟨O,n,none⟩=some (.bool (l.getD n false)):=by
 rw[h.cell,List.getElem?_toArray,List.getElem?_map,List.getElem?_eq_getElem hn,List.getD_eq_getElem?_getD,List.getElem?_eq_getElem hn]
 rfl
end Go.Proofs.Ytckognjamlckcaa
