/-
  The contract of tompionlaw12.room and Few. The contracts of tree.Height, tompionref12.Height, List. The contract of tompionref12.List. Names and words, as plain lists of bytes: the program's and the document's are one. The contracts of package token: letter, digit, named, words, Word, Name. The contracts of package tompionref11: Digit, Part, Word, Name. The contracts of tree.Parts, names and of tompionref12.Parts. What is plain of an expression: the contract of tree.plain. What is plain of an expression, by the document: the contract of tompionref12.plain. Which expressions are right, by the document: the contract of tompionref12.Right.
-/
import Derived.Test.YtdkgkacnjdnpoaaGreatExMem
import Derived.Outline
import Derived.Below
import Derived.Test.YtdkgkacnjdnpoaaGreatMem
import Derived.WalkLawsBesides
set_option maxHeartbeats 4000000
namespace Go.Proofs.YtdkgkacnjdnpoaaGreat
open Go.RowKit
theorem drop_succ_map {α β:Type} {l:List α} {k:Nat} {x:α} (f:α→β) (h:l[k]? =some x):(l.drop k).map f=f x::(l.drop (k+1)).map f:=by
 obtain ⟨hk,rfl⟩:=List.getElem?_eq_some_iff.1 h
 rw[List.drop_eq_getElem_cons hk,List.map_cons]
theorem take_succ_map {α β:Type} {l:List α} {k:Nat} {x:α} (f:α→β) (h:l[k]? =some x):(l.take (k+1)).map f=(l.take k).map f++ [f x]:=by
 rw[List.take_add_one,h];simp
theorem maxL_take {l:List Ex} {b:Nat} (k:Nat) (h:maxL (l.map exHeight)≤b):maxL ((l.take k).map exHeight)≤b:=by
 refine maxL_le fun x hx=>?_
 obtain ⟨y,hy,rfl⟩:=List.mem_map.1 hx
 have:∀l:List Nat,∀x∈l,x≤maxL l:=by
  intro l
  induction l with
  |nil=>intro x hx;cases hx
  |cons z l ih=>
   intro x hx
   simp only[maxL]
   rcases List.mem_cons.1 hx with rfl|hx
   ·omega
   ·have:=ih x hx;omega
 exact Nat.le_trans (this _ _ (List.mem_map_of_mem (List.mem_of_mem_take hy))) h
noncomputable def hTo (e:Ex) (k:Nat):Nat:=maxL ((e.args.take k).map exHeight)
theorem hTo_succ {e x:Ex} {k:Nat} (h:e.args[k]? =some x):hTo e (k+1)=max (hTo e k) (exHeight x):=by
 unfold hTo;rw[take_succ_map exHeight h,maxL_snoc]
theorem hTo_end (e:Ex):exHeight e=hTo e e.args.length+1:=by unfold hTo;rw[exHeight_eq,List.take_length]
theorem hTo_le {e:Ex} (k:Nat) (h:exSize e≤1000000):hTo e k≤1000000:=by
 have:=exHeight_le e
 have:=exHeight_eq e
 exact maxL_take k (by omega)
theorem height_any (e:Ex):∀(A:Option Addr) (cap:Nat) (w:World),e.args.length≤cap→cap≤maxLen→IsExs w w.heap.size A e.args→exSize e≤1000000→
  Calls Tryz.prog 113 #[exV e A cap] w fun r w'=>r= .returned (.int .i64 (exHeight e))∧Below w.heap.size w w':=by
 induction e using Ex.ind with
 |h e ih=>
  intro A cap w hcap hmax hx hs
  have HI:=Lib.hid ih
  clear ih
  have HE:=Lib.hid (hTo_end e)
  have HS:=Lib.hid hs
  unfold maxLen at hmax
  clear hs
  go_enter Tryz.func113,Tryz.ntmps113
  go_wp2_with fail
  go_loopw[3,9] (fun v i wr=>∃k:Nat,k≤e.args.length∧i= .int .i64 k∧v= .int .i64 (hTo e k)∧Below w.heap.size w wr) (fun _ i _=>e.args.length-(intOf i).toNat)
  case atStart=>exact ⟨0,Nat.zero_le _,rfl,rfl,(Below.refl _ _).alloc (Nat.le_refl _) _⟩
  case round=>
   obtain ⟨k,hk,rfl,rfl,hbel⟩:=hrel
   have hm:=hTo_le k HS.out
   by_cases hlt:k<e.args.length
   ·obtain ⟨b,off,x,A',cap',rfl,hb,hxk,hxm,hok',hcap',hmax',hx',c0,c1,c2,c3,c4,c5⟩:=(hx.below hbel).at_ hlt
    have HT:=Lib.hid (hTo_succ hxk)
    have HSx:=Lib.hid (exSize_arg hxm)
    have HM:=Lib.hid hxm
    have hsz:=hbel.size
    clear hxk hxm
    go_wp2_with fail
    refine (HI.out x HM.out A' cap' _ hcap' hmax' ((hx'.below ((Below.refl _ _).alloc hsz _)).more (by simp;omega)) (by have:=HSx.out;have:=HS.out;omega)).mono ?_
    rintro r w2 ⟨rfl,hb2⟩
    go_wp2_with fail
    go_roundw
    case rel=>exact ⟨k+1,by omega,by go_num,by rw[HT.out];go_num,(hbel.alloc hsz _).trans (hb2.mono (by simp;omega))⟩
    case measure=>simp[intOf];omega
   ·obtain rfl:k=e.args.length:=by omega
    go_wp2_with fail
    go_ret
    exact ⟨ret_int (by rw[HE.out];rfl),hbel⟩
noncomputable def lTo (e:Ex) (k:Nat):List Ex:=e::((e.args.take k).map exList).flatten
theorem lTo_zero (e:Ex):lTo e 0=[e]:=rfl
theorem lTo_succ {e x:Ex} {k:Nat} (h:e.args[k]? =some x):lTo e (k+1)=lTo e k++exList x:=by
 unfold lTo;rw[take_succ_map exList h];simp
theorem lTo_end (e:Ex):exList e=lTo e e.args.length:=by unfold lTo;rw[exList_eq,List.take_length]
theorem sub_flatten {α:Type} (l:List (List α)) (k:Nat):(l.take k).flatten.length≤l.flatten.length:=by
 conv=>rhs;rw[←List.take_append_drop k l]
 rw[List.flatten_append,List.length_append];omega
theorem lTo_le (e:Ex) (k:Nat):(lTo e k).length≤exSize e:=by
 unfold exSize;rw[exList_eq];unfold lTo
 rw[List.length_cons,List.length_cons,List.map_take]
 have:=sub_flatten (e.args.map exList) k
 omega
end Go.Proofs.YtdkgkacnjdnpoaaGreat
namespace Go.Proofs.YtdkgkacnjdnpoaaGreat.Nm
def letterB (c:Nat):Bool:=(decide (97≤c) && decide (c≤122))||((decide (65≤c) && decide (c≤90))||c==95)
def digitB (c:Nat):Bool:=decide (48≤c) && decide (c≤57)
def words:List (List UInt8):=[[110,111,100,101],[114,101,116,117,114,110,115],[118,97,114],[108,101,116],[116,101,108],[105,102],[116,104,101,110],[101,108,115,101],[112,114,101],[102,98,121],[119,104,101,110],[110,111,116],[109,101,114,103,101],[97,110,100],[111,114],[120,111,114],[116,114,117,101],[102,97,108,115,101],[105,110,116],[98,111,111,108]]
def wordB (l:List UInt8):Bool:=words.contains l
def okAt (i:Nat) (c:UInt8):Bool:=letterB c.toNat||(i !=0 && digitB c.toNat)
def namedB (l:List UInt8):Bool:=((List.range l.length).all fun i=>okAt i (l.getD i 0)) && (decide (1≤l.length) && decide (l.length≤20))
def nameB (l:List UInt8):Bool:=namedB l && !wordB l
end Go.Proofs.YtdkgkacnjdnpoaaGreat.Nm
namespace Go.Proofs.YtdkgkacnjdnpoaaGreat
open Go.RowKit Nm
theorem letter_any (c:UInt8) (w:World):
  Calls Tryz.prog 127 #[.int .u8 c.toNat] w fun e w'=>e= .returned (.bool (letterB c.toNat))∧w=w':=by
 go_enter Tryz.func127,Tryz.ntmps127
 go_wp2
 all_goals (go_ret;refine ⟨ret_bool ?_,rfl⟩)
 all_goals (rw[Bool.eq_iff_iff];simp[letterB];omega)
theorem digit_any (c:UInt8) (w:World):
  Calls Tryz.prog 130 #[.int .u8 c.toNat] w fun e w'=>e= .returned (.bool (digitB c.toNat))∧w=w':=by
 go_enter Tryz.func130,Tryz.ntmps130
 go_wp2
 all_goals (go_ret;refine ⟨ret_bool ?_,rfl⟩)
 all_goals (rw[Bool.eq_iff_iff];simp[digitB];omega)
theorem words_any (w:World):
  Calls Tryz.prog 168 #[] w fun e w'=>e= .returned (.slice (some ⟨w.heap.size,0,none⟩) 20 20)∧w'=w.alloc (.cells (words.map fun l=>Value.string ⟨l.toArray⟩).toArray 9):=by
 go_enter Tryz.func168,Tryz.ntmps168
 go_wp2
 go_ret
 exact ⟨rfl,rfl⟩
theorem words_cell (w:World) (k:Nat) (hk:k<20):∃l,words[k]? =some l∧(w.alloc (.cells (words.map fun l=>Value.string ⟨l.toArray⟩).toArray 9)).cell? ⟨w.heap.size,k,none⟩=some (.string ⟨l.toArray⟩):=by
 have hl:words.length=20:=rfl
 refine ⟨words[k]'(by omega),List.getElem?_eq_getElem (by omega),?_⟩
 rw[cell_of_row _ w.heap.size k _ _ (0,0) (heap_alloc_new w _),List.getElem?_toArray,List.getElem?_map,List.getElem?_eq_getElem (by omega)]
 rfl
theorem word_none {l:List UInt8} (h:∀(j:Nat) m,words[j]? =some m→(l==m)=false):wordB l=false:=by
 simp only[wordB,List.contains_eq_any_beq,List.any_eq_false]
 intro m hl e
 obtain ⟨j,hj⟩:=List.getElem?_of_mem hl
 rw[h j m hj] at e;cases e
theorem word_some {l m:List UInt8} {j:Nat} (h:words[j]? =some m) (he:(l==m)=true):wordB l=true:=by
 simp only[wordB,List.contains_eq_any_beq,List.any_eq_true]
 exact ⟨m,List.mem_of_getElem? h,he⟩
theorem upto_succ {k:Nat} {P:Nat→Prop} (h:∀j,j<k→P j) (hk:P k):∀j,j<k+1→P j:=fun j hj=>by
 rcases Nat.lt_or_ge j k with h1|h1
 ·exact h j h1
 ·obtain rfl:j=k:=by omega
  exact hk
theorem word_any (s:ByteArray) (w:World):
  Calls Tryz.prog 131 #[.string s] w fun e w'=>e= .returned (.bool (wordB s.toList))∧Below w.heap.size w w':=by
 go_enter Tryz.func131,Tryz.ntmps131
 go_wp2_with (go_at_call 168;refine (words_any _).mono ?_;rintro e w' ⟨rfl,rfl⟩)
 go_loop[7] (fun i=>∃k:Nat,k≤20∧i= .int .i64 k∧Hid (∀j,j<k→∀m,words[j]? =some m→(s.toList==m)=false)) (fun i=>20-(intOf i).toNat)
 case atStart=>exact ⟨0,Nat.zero_le _,rfl,fun j h=>absurd h (by omega)⟩
 case round=>
  obtain ⟨k,hk,rfl,HN⟩:=hrel
  by_cases hlt:k<20
  ·obtain ⟨l,hl,hc⟩:=words_cell w k hlt
   have hB:Below w.heap.size w (w.alloc (.cells (words.map fun l=>Value.string ⟨l.toArray⟩).toArray 9)):=(Below.refl _ _).alloc (Nat.le_refl _) _
   generalize (w.alloc (.cells (words.map fun l=>Value.string ⟨l.toArray⟩).toArray 9))=W at*
   have HL:=Lib.hid hl
   clear hl
   go_wp2_with fail
   ·go_ret
    have he:(s.toList==l)=true:=by assumption
    exact ⟨ret_bool (word_some HL.out he).symm,hB⟩
   ·have he:(s.toList==l)=false:=by assumption
    go_round
    case rel=>exact ⟨k+1,by omega,by go_num,upto_succ HN.out (fun m hm=>by rw[HL.out] at hm;injection hm with hm;rw[←hm];exact he)⟩
    case measure=>simp[intOf];omega
  ·have HF:=Lib.hid (word_none (l:=s.toList) (fun j m hm=>HN.out j (by have:=(List.getElem?_eq_some_iff.1 hm).1;have:words.length=20:=rfl;omega) m hm))
   go_wp2_with fail
   go_ret
   exact ⟨ret_bool HF.out.symm,(Below.refl _ _).alloc (Nat.le_refl _) _⟩
theorem byte_at (s:ByteArray) (k:Nat) (h:k<s.size):s.toList[k]? =some s[k]:=by
 rw[ByteArray.toList_eq,List.getElem?_eq_getElem (by simpa using h)];rfl
theorem len_toList (s:ByteArray):s.toList.length=s.size:=by rw[ByteArray.toList_eq];simp
theorem named_no {s:ByteArray} {k:Nat} {c:UInt8} (h:s.toList[k]? =some c) (hc:okAt k c=false):namedB s.toList=false:=by
 have hk:=(List.getElem?_eq_some_iff.1 h).1
 simp only[namedB,Bool.and_eq_false_iff]
 refine .inl (List.all_eq_false.2 ⟨k,List.mem_range.2 hk,?_⟩)
 rw[List.getD_eq_getElem?_getD,h]
 simp[hc]
theorem named_yes {s:ByteArray} (h:∀j,j<s.size→∀c,s.toList[j]? =some c→okAt j c=true):namedB s.toList=(decide (1≤s.size) && decide (s.size≤20)):=by
 simp only[namedB]
 rw[show ((List.range s.toList.length).all fun i=>okAt i (s.toList.getD i 0))=true from List.all_eq_true.2 fun i hi=>?_,Bool.true_and,len_toList]
 have hi':=List.mem_range.1 hi
 rw[List.getD_eq_getElem?_getD,List.getElem?_eq_getElem hi']
 exact h i (by rw[←len_toList];exact hi') _ (List.getElem?_eq_getElem hi')
theorem named_any (s:ByteArray) (w:World) (hs:s.size≤maxLen):
  Calls Tryz.prog 192 #[.string s] w fun e w'=>e= .returned (.bool (namedB s.toList))∧w=w':=by
 unfold maxLen at hs
 go_enter Tryz.func192,Tryz.ntmps192
 go_wp2_with fail
 go_loop[6] (fun i=>∃k:Nat,k≤s.size∧i= .int .i64 k∧Hid (∀j,j<k→∀c,s.toList[j]? =some c→okAt j c=true)) (fun i=>s.size-(intOf i).toNat)
 case atStart=>exact ⟨0,Nat.zero_le _,rfl,fun j h=>absurd h (by omega)⟩
 case round=>
  obtain ⟨k,hk,rfl,HN⟩:=hrel
  by_cases hlt:k<s.size
  ·have HB:=Lib.hid (byte_at s k hlt)
   have HO:=Lib.hid (show okAt k s[k]=(letterB s[k].toNat||(!((k:Int)==0) && digitB s[k].toNat)) from by
    simp only[okAt];congr 2;rw[Bool.eq_iff_iff];simp)
   go_wp2_with fail
   refine (letter_any s[k] _).mono ?_
   rintro e w' ⟨rfl,rfl⟩
   generalize hL:letterB s[k].toNat=L at*
   clear hL
   cases L
   ·by_cases hk0:((k:Int)==0)=true
    ·go_wp2_with fail
     go_ret
     have:k=0:=by simpa using hk0
     subst this
     exact ⟨ret_bool (named_no HB.out (by rw[HO.out];rfl)).symm,rfl⟩
    ·have hk0':((k:Int)==0)=false:=by simpa using hk0
     clear hk0
     go_wp2_with fail
     refine (digit_any s[k] _).mono ?_
     rintro e w' ⟨rfl,rfl⟩
     generalize hD:digitB s[k].toNat=D at*
     clear hD
     cases D
     ·go_wp2_with fail
      go_ret
      exact ⟨ret_bool (named_no HB.out (by rw[HO.out,hk0'];rfl)).symm,rfl⟩
     ·go_wp2_with fail
      go_round
      case rel=>exact ⟨k+1,by omega,by go_num,upto_succ HN.out (fun c hc=>by rw[HB.out] at hc;injection hc with hc;rw[←hc,HO.out,hk0'];rfl)⟩
      case measure=>simp[intOf];omega
   ·go_wp2_with fail
    go_round
    case rel=>exact ⟨k+1,by omega,by go_num,upto_succ HN.out (fun c hc=>by rw[HB.out] at hc;injection hc with hc;rw[←hc,HO.out];rfl)⟩
    case measure=>simp[intOf];omega
  ·obtain rfl:k=s.size:=by omega
   have HF:=Lib.hid (named_yes HN.out)
   go_wp2_with fail
   all_goals
    go_ret
    refine ⟨ret_bool ?_,rfl⟩
    rw[HF.out,Bool.eq_iff_iff];simp;omega
theorem name_any (s:ByteArray) (w:World) (hs:s.size≤maxLen):
  Calls Tryz.prog 177 #[.string s] w fun e w'=>e= .returned (.bool (nameB s.toList))∧Below w.heap.size w w':=by
 have HE:=Lib.hid (show nameB s.toList=(namedB s.toList && !wordB s.toList) from rfl)
 go_enter Tryz.func177,Tryz.ntmps177
 go_wp2_with fail
 refine (named_any s _ hs).mono ?_
 rintro e w' ⟨rfl,rfl⟩
 generalize namedB s.toList=L at*
 cases L
 ·go_wp2_with fail
  go_ret
  exact ⟨ret_bool HE.out.symm,Below.refl _ _⟩
 ·go_wp2_with fail
  refine (word_any s _).mono ?_
  rintro e w1 ⟨rfl,hb⟩
  go_wp2_with fail
  go_ret
  exact ⟨ret_bool HE.out.symm,hb⟩
def partsZ (op:Int):Int:=
 if op=1∨op=2∨op=3 then 0 else if op=4 then-1 else if op=5∨op=6∨op=21∨op=24∨op=25 then 1
 else if 7≤op∧op≤20∨op=22∨op=23∨op=26 then 2 else if op=27 then 3 else-2
theorem ret_i64 {a b:Int} (h:a=b):Ending.returned (.int .i64 a)= .returned (.int .i64 b):=by rw[h]
theorem parts_any (op:Int) (w:World):
  Calls Tryz.prog 154 #[.int .i64 op] w fun e w'=>e= .returned (.int .i64 (partsZ op))∧w=w':=by
 go_enter Tryz.func154,Tryz.ntmps154
 go_wp2
 all_goals
  go_ret
  refine ⟨ret_i64 ?_,rfl⟩
  (try simp only[beq_iff_eq,beq_eq_false_iff_ne] at*)
  unfold partsZ
  repeat' split
  all_goals omega
def namesB (op:Int):Bool:=decide (op=3∨op=24∨op=25∨op=26)
theorem names_any (op:Int) (w:World):
  Calls Tryz.prog 203 #[.int .i64 op] w fun e w'=>e= .returned (.bool (namesB op))∧w=w':=by
 go_enter Tryz.func203,Tryz.ntmps203
 go_wp2
 all_goals
  go_ret
  refine ⟨ret_bool ?_,rfl⟩
  rw[Bool.eq_iff_iff]
  simp[namesB]
  omega
def plainK (K:Int) (nb:Bool) (e:Ex):Bool:=
 if K= -2 then false
 else if K= -1∧(e.args.length<1∨8<e.args.length) then false
 else if 0≤K∧(e.args.length:Int)≠K then false
 else if nb=true∨e.op=4 then (nameB e.name.toList && e.n==0)
 else if e.op=1 then (e.name.toList.isEmpty && decide (0≤e.n))
 else if e.op=2 then (e.name.toList.isEmpty && (e.n==0||e.n==1))
 else (e.name.toList.isEmpty && e.n==0)
def plainB (e:Ex):Bool:=plainK (partsZ e.op) (namesB e.op) e
theorem partsZ_lo (op:Int):partsZ op= -2∨partsZ op= -1∨(0≤partsZ op∧partsZ op≤3):=by unfold partsZ;repeat' split;all_goals omega
def plainR (nb:Bool) (e:Ex):Bool:=
 if nb=true∨e.op=4 then (nameB e.name.toList && e.n==0)
 else if e.op=1 then (e.name.toList.isEmpty && decide (0≤e.n))
 else if e.op=2 then (e.name.toList.isEmpty && (e.n==0||e.n==1))
 else (e.name.toList.isEmpty && e.n==0)
theorem plainK_no1 {K:Int} {nb:Bool} {e:Ex} (h:K= -1∧(e.args.length<1∨8<e.args.length)):plainK K nb e=false:=by
 unfold plainK;rw[if_neg (by omega),if_pos h]
theorem plainK_no2 {K:Int} {nb:Bool} {e:Ex} (h:0≤K∧(e.args.length:Int)≠K):plainK K nb e=false:=by
 unfold plainK;rw[if_neg (by omega),if_neg (by omega),if_pos h]
theorem plainK_go {K:Int} {nb:Bool} {e:Ex} (h:K≠-2) (h1:¬(K= -1∧(e.args.length<1∨8<e.args.length))) (h2:¬(0≤K∧(e.args.length:Int)≠K)):plainK K nb e=plainR nb e:=by
 unfold plainK;rw[if_neg h,if_neg h1,if_neg h2];rfl
theorem plain_any (e:Ex) (A:Option Addr) (cap:Nat) (w:World) (hok:ExOk e) (hl:e.args.length≤maxLen):
  Calls Tryz.prog 199 #[exV e A cap] w fun r w'=>r= .returned (.bool (plainB e))∧Below w.heap.size w w':=by
 have hnm:=hok.name
 unfold maxLen at hl
 have HE:=Lib.hid (show plainB e=plainK (partsZ e.op) (namesB e.op) e from rfl)
 have hK:=partsZ_lo e.op
 have hB:Below w.heap.size w (w.alloc (.cells #[.int .i64 e.op,.string e.name,.int .i64 e.n,.slice A e.args.length cap,.int .i64 e.line,.int .i64 e.col] 63)):=(Below.refl _ _).alloc (Nat.le_refl _) _
 go_enter Tryz.func199,Tryz.ntmps199
 go_wp2_with fail
 refine (parts_any e.op _).mono ?_
 rintro r w' ⟨rfl,rfl⟩
 generalize partsZ e.op=K at*
 by_cases hk2:K= -2
 ·subst hk2
  go_wp2_with fail
  go_ret
  exact ⟨ret_bool (by rw[HE.out];rfl),hB⟩
 ·by_cases h1:K= -1∧(e.args.length<1∨8<e.args.length)
  ·have HF:=Lib.hid (HE.out.trans (plainK_no1 h1))
   obtain ⟨rfl,h1⟩:=h1
   clear hK HE
   rcases h1 with h1|h1
   all_goals
    go_wp2_with fail
    go_ret
    exact ⟨ret_bool HF.out.symm,hB⟩
  ·by_cases h2:0≤K∧(e.args.length:Int)≠K
   ·have HF:=Lib.hid (HE.out.trans (plainK_no2 h2))
    obtain ⟨h2,h3⟩:=h2
    have h3':(((e.args.length:Int)) !=K)=true:=by rw[bne_iff_ne];exact h3
    have hk1:(K== -1)=false:=by rw[beq_eq_false_iff_ne];omega
    have hk2':(K== -2)=false:=by rw[beq_eq_false_iff_ne];omega
    clear hK HE h3 h1 hk2
    go_wp2_with fail
    go_ret
    exact ⟨ret_bool HF.out.symm,hB⟩
   ·have HF:=Lib.hid (HE.out.trans (plainK_go hk2 h1 h2))
    have HG:Hid ((K= -1∧1≤e.args.length∧e.args.length≤8)∨(0≤K∧(e.args.length:Int)=K)):=by
     show _∨_
     omega
    clear hK HE hk2 h1 h2
    generalize hnb:namesB e.op=nb at*
    have HNB:=Lib.hid hnb
    clear hnb
    have hk:(K== -2)=false:=by rw[beq_eq_false_iff_ne];have:=HG.out;omega
    have HW:Hid (∀w1,Below (w.heap.size+1) (w.alloc (.cells #[.int .i64 e.op,.string e.name,.int .i64 e.n,.slice A e.args.length cap,.int .i64 e.line,.int .i64 e.col] 63)) w1→Below w.heap.size w w1∧w1.cell? ⟨w.heap.size,2,none⟩=some (.int .i64 e.n)):=fun w1 hb1=>
     ⟨hB.trans (hb1.mono (by omega)),by rw[hb1.cell (p:=⟨w.heap.size,2,none⟩) (Nat.lt_succ_self _)];simp⟩
    rcases HG.out with ⟨rfl,h1,h8⟩|⟨h0,h3⟩
    rotate_left
    ·have hk1:(K== -1)=false:=by rw[beq_eq_false_iff_ne];omega
     have h3':(((e.args.length:Int)) !=K)=false:=by rw[bne_eq_false_iff_eq];exact h3
     clear h3
     go_wp2_with fail
     refine (names_any e.op _).mono ?_
     rintro r w' ⟨rfl,rfl⟩
     rw[HNB.out]
     clear HNB HG
     cases nb
     ·by_cases h4:e.op=4
      ·have HR:=Lib.hid (HF.out.trans (show plainR false e=(nameB e.name.toList && e.n==0) by unfold plainR;rw[if_pos (.inr h4)]))
       have h4':(e.op==4)=true:=by simp[h4]
       clear h4 HF
       go_wp2_with fail
       refine (name_any e.name _ hnm).mono ?_
       rintro r w1 ⟨rfl,hb1⟩
       obtain ⟨hb2,hc⟩:=HW.out w1 (by simpa using hb1)
       generalize nameB e.name.toList=N at*
       cases N
       all_goals
        go_wp2_with fail
        go_ret
        exact ⟨ret_bool HR.out.symm,hb2⟩
      ·have h4':(e.op==4)=false:=by simp[h4]
       cases hE:e.name.toList.isEmpty
       ·have HR:=Lib.hid (HF.out.trans (show plainR false e=false by unfold plainR;rw[if_neg (by simp[h4]),hE];simp))
        clear h4 HF
        go_wp2_with fail
        all_goals (go_ret;exact ⟨ret_bool HR.out.symm,hB⟩)
       ·by_cases h1:e.op=1
        ·have HR:=Lib.hid (HF.out.trans (show plainR false e=decide (0≤e.n) by unfold plainR;rw[if_neg (by simp[h4]),if_pos h1,hE];rfl))
         have h1':(e.op==1)=true:=by simp[h1]
         clear h4 HF h1
         go_wp2_with fail
         all_goals (go_ret;exact ⟨ret_bool HR.out.symm,hB⟩)
        ·have h1':(e.op==1)=false:=by simp[h1]
         by_cases h2:e.op=2
         ·have HR:=Lib.hid (HF.out.trans (show plainR false e=(e.n==0||e.n==1) by unfold plainR;rw[if_neg (by simp[h4]),if_neg h1,if_pos h2,hE];rfl))
          have h2':(e.op==2)=true:=by simp[h2]
          clear h4 HF h1 h2
          cases hn:(e.n==0)
          all_goals
           go_wp2_with fail
           go_ret
           exact ⟨ret_bool (by rw[HR.out,hn];rfl),hB⟩
         ·have HR:=Lib.hid (HF.out.trans (show plainR false e=(e.n==0) by unfold plainR;rw[if_neg (by simp[h4]),if_neg h1,if_neg h2,hE];rfl))
          have h2':(e.op==2)=false:=by simp[h2]
          clear h4 HF h1 h2
          go_wp2_with fail
          all_goals (go_ret;exact ⟨ret_bool HR.out.symm,hB⟩)
     ·have HR:=Lib.hid (HF.out.trans (show plainR true e=(nameB e.name.toList && e.n==0) by unfold plainR;rw[if_pos (.inl rfl)]))
      clear HF
      go_wp2_with fail
      refine (name_any e.name _ hnm).mono ?_
      rintro r w1 ⟨rfl,hb1⟩
      obtain ⟨hb2,hc⟩:=HW.out w1 (by simpa using hb1)
      generalize nameB e.name.toList=N at*
      cases N
      all_goals
       go_wp2_with fail
       go_ret
       exact ⟨ret_bool HR.out.symm,hb2⟩
    ·go_wp2_with fail
     refine (names_any e.op _).mono ?_
     rintro r w' ⟨rfl,rfl⟩
     rw[HNB.out]
     clear HNB HG
     cases nb
     ·by_cases h4:e.op=4
      ·have HR:=Lib.hid (HF.out.trans (show plainR false e=(nameB e.name.toList && e.n==0) by unfold plainR;rw[if_pos (.inr h4)]))
       have h4':(e.op==4)=true:=by simp[h4]
       clear h4 HF
       go_wp2_with fail
       refine (name_any e.name _ hnm).mono ?_
       rintro r w1 ⟨rfl,hb1⟩
       obtain ⟨hb2,hc⟩:=HW.out w1 (by simpa using hb1)
       generalize nameB e.name.toList=N at*
       cases N
       all_goals
        go_wp2_with fail
        go_ret
        exact ⟨ret_bool HR.out.symm,hb2⟩
      ·have h4':(e.op==4)=false:=by simp[h4]
       cases hE:e.name.toList.isEmpty
       ·have HR:=Lib.hid (HF.out.trans (show plainR false e=false by unfold plainR;rw[if_neg (by simp[h4]),hE];simp))
        clear h4 HF
        go_wp2_with fail
        all_goals (go_ret;exact ⟨ret_bool HR.out.symm,hB⟩)
       ·by_cases h1:e.op=1
        ·have HR:=Lib.hid (HF.out.trans (show plainR false e=decide (0≤e.n) by unfold plainR;rw[if_neg (by simp[h4]),if_pos h1,hE];rfl))
         have h1':(e.op==1)=true:=by simp[h1]
         clear h4 HF h1
         go_wp2_with fail
         all_goals (go_ret;exact ⟨ret_bool HR.out.symm,hB⟩)
        ·have h1':(e.op==1)=false:=by simp[h1]
         by_cases h2:e.op=2
         ·have HR:=Lib.hid (HF.out.trans (show plainR false e=(e.n==0||e.n==1) by unfold plainR;rw[if_neg (by simp[h4]),if_neg h1,if_pos h2,hE];rfl))
          have h2':(e.op==2)=true:=by simp[h2]
          clear h4 HF h1 h2
          cases hn:(e.n==0)
          all_goals
           go_wp2_with fail
           go_ret
           exact ⟨ret_bool (by rw[HR.out,hn];rfl),hB⟩
         ·have HR:=Lib.hid (HF.out.trans (show plainR false e=(e.n==0) by unfold plainR;rw[if_neg (by simp[h4]),if_neg h1,if_neg h2,hE];rfl))
          have h2':(e.op==2)=false:=by simp[h2]
          clear h4 HF h1 h2
          go_wp2_with fail
          all_goals (go_ret;exact ⟨ret_bool HR.out.symm,hB⟩)
     ·have HR:=Lib.hid (HF.out.trans (show plainR true e=(nameB e.name.toList && e.n==0) by unfold plainR;rw[if_pos (.inl rfl)]))
      clear HF
      go_wp2_with fail
      refine (name_any e.name _ hnm).mono ?_
      rintro r w1 ⟨rfl,hb1⟩
      obtain ⟨hb2,hc⟩:=HW.out w1 (by simpa using hb1)
      generalize nameB e.name.toList=N at*
      cases N
      all_goals
       go_wp2_with fail
       go_ret
       exact ⟨ret_bool HR.out.symm,hb2⟩
noncomputable def exRight (e:Ex):Bool:=(exList e).all plainB && decide (exHeight e≤30)
structure Small (e:Ex):Prop where
 size:exSize e≤900
 names:∀x∈exList e,x.name.size≤30
theorem exList_self (e:Ex):e∈exList e:=by rw[exList_eq];simp
theorem exList_sub {e x:Ex} (h:x∈e.args) {y:Ex} (hy:y∈exList x):y∈exList e:=by
 rw[exList_eq]
 exact List.mem_cons_of_mem _ (List.mem_flatten.2 ⟨_,List.mem_map_of_mem h,hy⟩)
end Go.Proofs.YtdkgkacnjdnpoaaGreat
