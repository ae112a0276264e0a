/-
  The contracts of tree.Parts, names and of tompionref12.Parts. What is plain of an expression: the contract of tree.plain. What is plain of an expression, by the document: the contract of tompionref12.plain. Which expressions are right, by the document: the contract of tompionref12.Right.
-/
import Derived.Test.YtgjfkidbfmbjoaaGreatZz
import Derived.Test.YtgjfkidbfmbjoaaGreatExMem
import Derived.Test.YtgjfkidbfmbjoaaGreatToken
import Derived.Test.YtgjfkidbfmbjoaaGreatTreeList
set_option maxHeartbeats 8000000
namespace Go.Proofs.YtgjfkidbfmbjoaaGreat
open Go.RowKit Nm
def partsZ (op:Int):Int:=
 if op=1∨op=2∨op=3 then 0 else if op=4 then-1 else if op=5∨op=6∨op=21∨op=24∨op=25 then 1
 else if 7≤op∧op≤20∨op=22∨op=23∨op=26 then 2 else if op=27 then 3 else-2
theorem ret_i64 {a b:Int} (h:a=b):Ending.returned (.int .i64 a)= .returned (.int .i64 b):=by rw[h]
theorem parts_any (op:Int) (w:World):
  Calls Tryz.prog 240 #[.int .i64 op] w fun e w'=>e= .returned (.int .i64 (partsZ op))∧w=w':=by
 go_enter Tryz.func240,Tryz.ntmps240
 go_wp2
 all_goals
  go_ret
  refine ⟨ret_i64 ?_,rfl⟩
  (try simp only[beq_iff_eq,beq_eq_false_iff_ne] at*)
  unfold partsZ
  repeat' split
  all_goals omega
def partsL:List Int:=[0,0,0,-1,1,1,2,2,2,2,2,2,2,2,2,2,2,2,2,2,1,2,2,1,1,2,3]
theorem partsL_eq (op:Int) (h1:1≤op) (h2:op≤27):partsL[(op-1).toNat]? =some (partsZ op):=by
 rcases (by omega:op=1∨op=2∨op=3∨op=4∨op=5∨op=6∨op=7∨op=8∨op=9∨op=10∨op=11∨op=12∨op=13∨op=14∨op=15∨op=16∨op=17∨op=18∨op=19∨op=20∨op=21∨op=22∨op=23∨op=24∨op=25∨op=26∨op=27) with rfl|rfl|rfl|rfl|rfl|rfl|rfl|rfl|rfl|rfl|rfl|rfl|rfl|rfl|rfl|rfl|rfl|rfl|rfl|rfl|rfl|rfl|rfl|rfl|rfl|rfl|rfl
 all_goals decide+kernel
theorem parts_cell (op:Int) (h1:1≤op) (h2:op≤27):(partsL.map (Value.int .i64))[op.toNat-1]? =some (.int .i64 (partsZ op)):=by
 rw[List.getElem?_map,show op.toNat-1=(op-1).toNat by omega,partsL_eq op h1 h2]
 rfl
theorem rparts_any (op:Int) (w:World):
  Calls Tryz.prog 172 #[.int .i64 op] w fun e w'=>e= .returned (.int .i64 (partsZ op))∧Below w.heap.size w w':=by
 by_cases h1:1≤op∧op≤27
 ·obtain ⟨h1,h2⟩:=h1
  have hc: [Value.int .i64 0,Value.int .i64 0,Value.int .i64 0,Value.int .i64 (-1),Value.int .i64 1,Value.int .i64 1,Value.int .i64 2,Value.int .i64 2,Value.int .i64 2,Value.int .i64 2,Value.int .i64 2,Value.int .i64 2,Value.int .i64 2,Value.int .i64 2,Value.int .i64 2,Value.int .i64 2,Value.int .i64 2,Value.int .i64 2,Value.int .i64 2,Value.int .i64 2,Value.int .i64 1,Value.int .i64 2,Value.int .i64 2,Value.int .i64 1,Value.int .i64 1,Value.int .i64 2,Value.int .i64 3][op.toNat-1]? =some (.int .i64 (partsZ op)):=parts_cell op h1 h2
  go_enter Tryz.func172,Tryz.ntmps172
  go_wp2
  go_ret
  exact ⟨rfl,(Below.refl _ _).alloc (Nat.le_refl _) _⟩
 ·have HE:=Lib.hid (show partsZ op= -2 from by unfold partsZ;repeat' split;all_goals omega)
  go_enter Tryz.func172,Tryz.ntmps172
  go_wp2
  all_goals
   first|(exfalso;omega)|(go_ret;exact ⟨ret_i64 HE.out.symm,Below.refl _ _⟩)
def namesB (op:Int):Bool:=decide (op=3∨op=24∨op=25∨op=26)
theorem names_any (op:Int) (w:World):
  Calls Tryz.prog 341 #[.int .i64 op] w fun e w'=>e= .returned (.bool (namesB op))∧w=w':=by
 go_enter Tryz.func341,Tryz.ntmps341
 go_wp2
 all_goals
  go_ret
  refine ⟨ret_bool ?_,rfl⟩
  rw[Bool.eq_iff_iff]
  simp[namesB]
  omega
def plainK (K:Int) (nb:Bool) (e:Ex):Bool:=
 if K= -2 then false
 else if K= -1∧(e.args.length<1∨8<e.args.length) then false
 else if 0≤K∧(e.args.length:Int)≠K then false
 else if nb=true∨e.op=4 then (nameB e.name.toList && e.n==0)
 else if e.op=1 then (e.name.toList.isEmpty && decide (0≤e.n))
 else if e.op=2 then (e.name.toList.isEmpty && (e.n==0||e.n==1))
 else (e.name.toList.isEmpty && e.n==0)
def plainB (e:Ex):Bool:=plainK (partsZ e.op) (namesB e.op) e
theorem partsZ_lo (op:Int):partsZ op= -2∨partsZ op= -1∨(0≤partsZ op∧partsZ op≤3):=by unfold partsZ;repeat' split;all_goals omega
def plainR (nb:Bool) (e:Ex):Bool:=
 if nb=true∨e.op=4 then (nameB e.name.toList && e.n==0)
 else if e.op=1 then (e.name.toList.isEmpty && decide (0≤e.n))
 else if e.op=2 then (e.name.toList.isEmpty && (e.n==0||e.n==1))
 else (e.name.toList.isEmpty && e.n==0)
theorem plainK_no1 {K:Int} {nb:Bool} {e:Ex} (h:K= -1∧(e.args.length<1∨8<e.args.length)):plainK K nb e=false:=by
 unfold plainK;rw[if_neg (by omega),if_pos h]
theorem plainK_no2 {K:Int} {nb:Bool} {e:Ex} (h:0≤K∧(e.args.length:Int)≠K):plainK K nb e=false:=by
 unfold plainK;rw[if_neg (by omega),if_neg (by omega),if_pos h]
theorem plainK_go {K:Int} {nb:Bool} {e:Ex} (h:K≠-2) (h1:¬(K= -1∧(e.args.length<1∨8<e.args.length))) (h2:¬(0≤K∧(e.args.length:Int)≠K)):plainK K nb e=plainR nb e:=by
 unfold plainK;rw[if_neg h,if_neg h1,if_neg h2];rfl
theorem plain_any (e:Ex) (A:Option Addr) (cap:Nat) (w:World) (hok:ExOk e) (hl:e.args.length≤maxLen):
  Calls Tryz.prog 332 #[exV e A cap] w fun r w'=>r= .returned (.bool (plainB e))∧Below w.heap.size w w':=by
 have hnm:=hok.name
 unfold maxLen at hl
 have HE:=Lib.hid (show plainB e=plainK (partsZ e.op) (namesB e.op) e from rfl)
 have hK:=partsZ_lo e.op
 have hB:Below w.heap.size w (w.alloc (.cells #[.int .i64 e.op,.string e.name,.int .i64 e.n,.slice A e.args.length cap,.int .i64 e.line,.int .i64 e.col] 79)):=(Below.refl _ _).alloc (Nat.le_refl _) _
 go_enter Tryz.func332,Tryz.ntmps332
 go_wp2_with fail
 refine (parts_any e.op _).mono ?_
 rintro r w' ⟨rfl,rfl⟩
 generalize partsZ e.op=K at*
 by_cases hk2:K= -2
 ·subst hk2
  go_wp2_with fail
  go_ret
  exact ⟨ret_bool (by rw[HE.out];rfl),hB⟩
 ·by_cases h1:K= -1∧(e.args.length<1∨8<e.args.length)
  ·have HF:=Lib.hid (HE.out.trans (plainK_no1 h1))
   obtain ⟨rfl,h1⟩:=h1
   clear hK HE
   rcases h1 with h1|h1
   all_goals
    refine' zq76
  ·by_cases h2:0≤K∧(e.args.length:Int)≠K
   ·have HF:=Lib.hid (HE.out.trans (plainK_no2 h2))
    obtain ⟨h2,h3⟩:=h2
    have h3':(((e.args.length:Int)) !=K)=true:=by rw[bne_iff_ne];exact h3
    have hk1:(K== -1)=false:=by rw[beq_eq_false_iff_ne];omega
    have hk2':(K== -2)=false:=by rw[beq_eq_false_iff_ne];omega
    clear hK HE h3 h1 hk2
    refine' zq76
   ·refine' zq223
    generalize hnb:namesB e.op=nb at*
    have HNB:=Lib.hid hnb
    clear hnb
    have hk:(K== -2)=false:=by rw[beq_eq_false_iff_ne];have:=HG.out;omega
    have HW:Hid (∀w1,Below (w.heap.size+1) (w.alloc (.cells #[.int .i64 e.op,.string e.name,.int .i64 e.n,.slice A e.args.length cap,.int .i64 e.line,.int .i64 e.col] 79)) w1→Below w.heap.size w w1∧w1.cell? ⟨w.heap.size,2,none⟩=some (.int .i64 e.n)):=fun w1 hb1=>
     ⟨hB.trans (hb1.mono (by omega)),by rw[hb1.cell (p:=⟨w.heap.size,2,none⟩) (Nat.lt_succ_self _)];simp⟩
    rcases HG.out with ⟨rfl,h1,h8⟩|⟨h0,h3⟩
    rotate_left
    ·have hk1:(K== -1)=false:=by rw[beq_eq_false_iff_ne];omega
     have h3':(((e.args.length:Int)) !=K)=false:=by rw[bne_eq_false_iff_eq];exact h3
     clear h3
     refine' zq15
    ·refine' zq15
theorem plainR_else {e:Ex} (hne:¬(namesB e.op=true∨e.op=4)) (hE:e.name.toList.isEmpty=true) (hn:¬e.n<0):plainR (namesB e.op) e=((e.op==1||e.n==0)||(e.op==2 && e.n==1)):=by
 unfold plainR
 rw[if_neg hne,hE,show decide (0≤e.n)=true by simp;omega]
 by_cases h1:e.op=1
 ·rw[if_pos h1,show (e.op==1)=true by simp[h1]];simp
 ·rw[if_neg h1,show (e.op==1)=false by simp[h1]]
  by_cases h2:e.op=2
  ·rw[if_pos h2,show (e.op==2)=true by simp[h2]];simp
  ·rw[if_neg h2,show (e.op==2)=false by simp[h2]];simp
theorem rplain_any (e:Ex) (A:Option Addr) (cap:Nat) (w:World) (hnm:e.name.size≤1000000) (hl:e.args.length≤maxLen):
  Calls Tryz.prog 297 #[exV e A cap] w fun r w'=>r= .returned (.bool (plainB e))∧Below w.heap.size w w':=by
 unfold maxLen at hl
 have HE:=Lib.hid (show plainB e=plainK (partsZ e.op) (namesB e.op) e from rfl)
 have hK:=partsZ_lo e.op
 go_enter Tryz.func297,Tryz.ntmps297
 go_wp2_with fail
 refine (rparts_any e.op _).mono ?_
 rintro r w1 ⟨rfl,hb1⟩
 obtain ⟨⟨c0,c1,c2,c3,_,_⟩,hbel,hsz⟩:=exBox (w:=w) (wr:=w1) (e:=e) (A:=A) (cap:=cap) (by simpa using hb1)
 generalize partsZ e.op=K at*
 clear hb1
 by_cases hk2:K= -2
 ·subst hk2
  go_wp2_with fail
  go_ret
  exact ⟨ret_bool (by rw[HE.out];rfl),hbel⟩
 ·have q2:(K== -2)=false:=by rw[beq_eq_false_iff_ne];omega
  by_cases h1:K= -1∧(e.args.length<1∨8<e.args.length)
  ·have HF:=Lib.hid (HE.out.trans (plainK_no1 h1))
   obtain ⟨rfl,h1⟩:=h1
   clear hK HE
   rcases h1 with h1|h1
   all_goals
    go_wp2_with fail
    go_ret
    exact ⟨ret_bool HF.out.symm,hbel⟩
  ·by_cases h2:0≤K∧(e.args.length:Int)≠K
   ·have HF:=Lib.hid (HE.out.trans (plainK_no2 h2))
    obtain ⟨h2,h3⟩:=h2
    have h3':(((e.args.length:Int)) !=K)=true:=by rw[bne_iff_ne];exact h3
    clear hK HE h3 h1 hk2
    go_wp2_with fail
    go_ret
    exact ⟨ret_bool HF.out.symm,hbel⟩
   ·refine' zq223
    rcases HG.out with ⟨rfl,h1,h8⟩|⟨h0,h3⟩
    rotate_left
    ·have hk1:(K== -1)=false:=by rw[beq_eq_false_iff_ne];omega
     have h3':(((e.args.length:Int)) !=K)=false:=by rw[bne_eq_false_iff_eq];exact h3
     clear h3 HG
     refine' zq12
    ·clear HG
     refine' zq12
noncomputable def exRight (e:Ex):Bool:=(exList e).all plainB && decide (exHeight e≤30)
structure Small (e:Ex):Prop where
 size:exSize e≤900
 names:∀x∈exList e,x.name.size≤30
theorem exList_self (e:Ex):e∈exList e:=by rw[exList_eq];simp
theorem exList_sub {e x:Ex} (h:x∈e.args) {y:Ex} (hy:y∈exList x):y∈exList e:=by
 rw[exList_eq]
 exact List.mem_cons_of_mem _ (List.mem_flatten.2 ⟨_,List.mem_map_of_mem h,hy⟩)
theorem all_no {α:Type} {p:α→Bool} {l:List α} {k:Nat} {x:α} (h:l[k]? =some x) (hx:p x=false):l.all p=false:=List.all_eq_false.2 ⟨x,List.mem_of_getElem? h,by simp[hx]⟩
theorem all_yes {α:Type} {p:α→Bool} {l:List α} (h:∀j,j<l.length→∀x,l[j]? =some x→p x=true):l.all p=true:=by
 refine List.all_eq_true.2 fun x hx=>?_
 obtain ⟨j,hj⟩:=List.getElem?_of_mem hx
 exact h j (List.getElem?_eq_some_iff.1 hj).1 x hj
theorem rright_any (e:Ex) (A:Option Addr) (cap:Nat) (w:World) (hok:ExOk e) (hcap:e.args.length≤cap) (hmax:cap≤maxLen) (hx:IsExs w w.heap.size A e.args) (hs:Small e):
  Calls Tryz.prog 253 #[exV e A cap] w fun r w'=>r= .returned (.bool (exRight e))∧Below w.heap.size w w':=by
 have hsz:=hs.size
 have HS:=Lib.hid hs
 have HE:=Lib.hid (show exRight e=((exList e).all plainB && decide (exHeight e≤30)) from rfl)
 clear hs
 go_enter Tryz.func253,Tryz.ntmps253
 go_wp2_with fail
 have hB0:Below w.heap.size w (w.alloc (.cells #[.int .i64 e.op,.string e.name,.int .i64 e.n,.slice A e.args.length cap,.int .i64 e.line,.int .i64 e.col] 79)):=(Below.refl _ _).alloc (Nat.le_refl _) _
 refine (list_any w.heap.size e A cap _ hok hcap hmax (by simp) (hx.below hB0) (by omega)).mono ?_
 rintro r w1 ⟨v,css,rfl,hown,hare,hb1⟩
 have hb1':Below (w.heap.size+1) (w.alloc (.cells #[.int .i64 e.op,.string e.name,.int .i64 e.n,.slice A e.args.length cap,.int .i64 e.line,.int .i64 e.col] 79)) w1:=by simpa using hb1
 obtain ⟨_,hbel1,hsz1⟩:=exBox hb1'
 obtain ⟨A1,c1,rfl,hn,hl1,hm1,hx1⟩:=own_exs hown hare (by omega)
 have HL:Hid (∀x∈exList e,x.name.size≤30):=HS.out.names
 clear hown hare hb1 hn
 generalize hLL:exList e=L at*
 have hlen:L.length≤1000:=by rw[←hLL];exact Nat.le_trans hsz (by decide)
 clear hLL
 have hm1':c1≤9223372036854775807:=by unfold maxLen at hm1;omega
 go_wp2_with fail
 go_loopw[4] (fun i wr=>∃k:Nat,k≤L.length∧i= .int .i64 k∧Hid (∀j,j<k→∀x,L[j]? =some x→plainB x=true)∧Below w1.heap.size w1 wr) (fun i _=>L.length-(intOf i).toNat)
 case atStart=>exact ⟨0,Nat.zero_le _,rfl,fun j h=>absurd h (by omega),Below.refl _ _⟩
 case round=>
  refine' zq56
  by_cases hlt:k<L.length
  ·obtain ⟨b,off,x,A',cap',rfl,hb,hxk,hxm,hok',hcap',hmax',hx',d0,d1,d2,d3,d4,d5⟩:=(hx1.below hbr).at_ hlt
   have HK:=Lib.hid hxk
   have HM:=Lib.hid hxm
   clear hxk hxm
   go_wp2_with fail
   refine (rplain_any x A' cap' _ (by have:=HL.out x HM.out;omega) (by omega)).mono ?_
   rintro r w2 ⟨rfl,hb2⟩
   have hb3:=hbr.trans (hb2.mono hszr)
   generalize hP:plainB x=P at*
   have HP:=Lib.hid hP
   clear hP
   cases P
   ·have HF:=Lib.hid (show exRight e=false from by rw[HE.out,all_no HK.out HP.out];rfl)
    go_wp2_with fail
    go_ret
    exact ⟨ret_bool HF.out.symm,hbel1.trans (hb3.mono (by omega))⟩
   ·go_wp2_with fail
    go_roundw
    case rel=>exact ⟨k+1,by omega,by go_num,upto_succ HN.out (fun y hy=>by rw[HK.out] at hy;injection hy with hy;rw[←hy];exact HP.out),hb3⟩
    case measure=>simp[intOf];omega
  ·obtain rfl:k=L.length:=by omega
   have HF:=Lib.hid (show exRight e=decide (exHeight e≤30) from by rw[HE.out,all_yes HN.out,Bool.true_and])
   have hb2:Below (w.heap.size+1) (w.alloc (.cells #[.int .i64 e.op,.string e.name,.int .i64 e.n,.slice A e.args.length cap,.int .i64 e.line,.int .i64 e.col] 79)) wr:=hb1'.trans (hbr.mono hsz1)
   obtain ⟨⟨d0,d1,d2,d3,d4,d5⟩,hbel2,hsz2⟩:=exBox hb2
   go_wp2_with fail
   refine (rheight_any e A cap _ hcap hmax ((hx.below hbel2).more (by omega)) (by omega)).mono ?_
   rintro r w2 ⟨rfl,hb3⟩
   go_wp2_with fail
   go_ret
   exact ⟨ret_bool (by rw[HF.out,Bool.eq_iff_iff];simp;omega),hbel2.trans (hb3.mono (by omega))⟩
end Go.Proofs.YtgjfkidbfmbjoaaGreat
