/-
  Names and words, as plain lists of bytes: the program's and the document's are one. The contracts of package token: letter, digit, named, words, Word, Name. The contracts of package tompionref11: Digit, Part, Word, Name. The contracts of tree.Parts, names and of tompionref12.Parts. What is plain of an expression: the contract of tree.plain.
-/
import Derived.Test.YtdkgkacnjdnpoaaGreatZz
import Derived.Below
import Derived.Test.YtdkgkacnjdnpoaaGreatMem
import Derived.Outline
import Derived.WalkLawsBesides
import Derived.Test.YtdkgkacnjdnpoaaGreatExMem
set_option maxHeartbeats 4000000
namespace Go.Proofs.YtdkgkacnjdnpoaaGreat.Nm
def letterB (c:Nat):Bool:=(decide (97≤c) && decide (c≤122))||((decide (65≤c) && decide (c≤90))||c==95)
def digitB (c:Nat):Bool:=decide (48≤c) && decide (c≤57)
def words:List (List UInt8):=[[110,111,100,101],[114,101,116,117,114,110,115],[118,97,114],[108,101,116],[116,101,108],[105,102],[116,104,101,110],[101,108,115,101],[112,114,101],[102,98,121],[119,104,101,110],[110,111,116],[109,101,114,103,101],[97,110,100],[111,114],[120,111,114],[116,114,117,101],[102,97,108,115,101],[105,110,116],[98,111,111,108]]
def wordB (l:List UInt8):Bool:=words.contains l
def okAt (i:Nat) (c:UInt8):Bool:=letterB c.toNat||(i !=0 && digitB c.toNat)
def namedB (l:List UInt8):Bool:=((List.range l.length).all fun i=>okAt i (l.getD i 0)) && (decide (1≤l.length) && decide (l.length≤20))
def nameB (l:List UInt8):Bool:=namedB l && !wordB l
end Go.Proofs.YtdkgkacnjdnpoaaGreat.Nm
namespace Go.Proofs.YtdkgkacnjdnpoaaGreat
open Go.RowKit _root_.Go.Proofs.YtdkgkacnjdnpoaaGreat.Nm
theorem letter_any (c:UInt8) (w:World):
  Calls Tryz.prog 127 #[.int .u8 c.toNat] w fun e w'=>e= .returned (.bool (letterB c.toNat))∧w=w':=by
 go_enter Tryz.func127,Tryz.ntmps127
 go_wp2
 all_goals (go_ret;refine ⟨ret_bool ?_,rfl⟩)
 all_goals (rw[Bool.eq_iff_iff];simp[letterB];omega)
theorem digit_any (c:UInt8) (w:World):
  Calls Tryz.prog 130 #[.int .u8 c.toNat] w fun e w'=>e= .returned (.bool (digitB c.toNat))∧w=w':=by
 go_enter Tryz.func130,Tryz.ntmps130
 go_wp2
 all_goals (go_ret;refine ⟨ret_bool ?_,rfl⟩)
 all_goals (rw[Bool.eq_iff_iff];simp[digitB];omega)
theorem words_any (w:World):
  Calls Tryz.prog 168 #[] w fun e w'=>e= .returned (.slice (some ⟨w.heap.size,0,none⟩) 20 20)∧w'=w.alloc (.cells (words.map fun l=>Value.string ⟨l.toArray⟩).toArray 9):=by
 go_enter Tryz.func168,Tryz.ntmps168
 go_wp2
 go_ret
 exact ⟨rfl,rfl⟩
theorem words_cell (w:World) (k:Nat) (hk:k<20):∃l,words[k]? =some l∧(w.alloc (.cells (words.map fun l=>Value.string ⟨l.toArray⟩).toArray 9)).cell? ⟨w.heap.size,k,none⟩=some (.string ⟨l.toArray⟩):=by
 have hl:words.length=20:=rfl
 refine ⟨words[k]'(by omega),List.getElem?_eq_getElem (by omega),?_⟩
 rw[cell_of_row _ w.heap.size k _ _ (0,0) (heap_alloc_new w _),List.getElem?_toArray,List.getElem?_map,List.getElem?_eq_getElem (by omega)]
 rfl
theorem word_none {l:List UInt8} (h:∀(j:Nat) m,words[j]? =some m→(l==m)=false):wordB l=false:=by
 simp only[wordB,List.contains_eq_any_beq,List.any_eq_false]
 intro m hl e
 obtain ⟨j,hj⟩:=List.getElem?_of_mem hl
 rw[h j m hj] at e;cases e
theorem word_some {l m:List UInt8} {j:Nat} (h:words[j]? =some m) (he:(l==m)=true):wordB l=true:=by
 simp only[wordB,List.contains_eq_any_beq,List.any_eq_true]
 exact ⟨m,List.mem_of_getElem? h,he⟩
theorem upto_succ {k:Nat} {P:Nat→Prop} (h:∀j,j<k→P j) (hk:P k):∀j,j<k+1→P j:=fun j hj=>by
 rcases Nat.lt_or_ge j k with h1|h1
 ·exact h j h1
 ·obtain rfl:j=k:=by omega
  exact hk
theorem word_any (s:ByteArray) (w:World):
  Calls Tryz.prog 131 #[.string s] w fun e w'=>e= .returned (.bool (wordB s.toList))∧Below w.heap.size w w':=by
 go_enter Tryz.func131,Tryz.ntmps131
 go_wp2_with (go_at_call 168;refine (words_any _).mono ?_;rintro e w' ⟨rfl,rfl⟩)
 go_loop[7] (fun i=>∃k:Nat,k≤20∧i= .int .i64 k∧Hid (∀j,j<k→∀m,words[j]? =some m→(s.toList==m)=false)) (fun i=>20-(intOf i).toNat)
 case atStart=>exact ⟨0,Nat.zero_le _,rfl,fun j h=>absurd h (by omega)⟩
 case round=>
  obtain ⟨k,hk,rfl,HN⟩:=hrel
  by_cases hlt:k<20
  ·obtain ⟨l,hl,hc⟩:=words_cell w k hlt
   have hB:Below w.heap.size w (w.alloc (.cells (words.map fun l=>Value.string ⟨l.toArray⟩).toArray 9)):=(Below.refl _ _).alloc (Nat.le_refl _) _
   generalize (w.alloc (.cells (words.map fun l=>Value.string ⟨l.toArray⟩).toArray 9))=W at*
   have HL:=Lib.hid hl
   clear hl
   go_wp2_with fail
   ·go_ret
    have he:(s.toList==l)=true:=by assumption
    exact ⟨ret_bool (word_some HL.out he).symm,hB⟩
   ·have he:(s.toList==l)=false:=by assumption
    go_round
    case rel=>exact ⟨k+1,by omega,by go_num,upto_succ HN.out (fun m hm=>by rw[HL.out] at hm;injection hm with hm;rw[←hm];exact he)⟩
    case measure=>simp[intOf];omega
  ·have HF:=Lib.hid (word_none (l:=s.toList) (fun j m hm=>HN.out j (by have:=(List.getElem?_eq_some_iff.1 hm).1;have:words.length=20:=rfl;omega) m hm))
   go_wp2_with fail
   go_ret
   exact ⟨ret_bool HF.out.symm,(Below.refl _ _).alloc (Nat.le_refl _) _⟩
theorem byte_at (s:ByteArray) (k:Nat) (h:k<s.size):s.toList[k]? =some s[k]:=by
 rw[ByteArray.toList_eq,List.getElem?_eq_getElem (by simpa using h)];rfl
theorem len_toList (s:ByteArray):s.toList.length=s.size:=by rw[ByteArray.toList_eq];simp
theorem named_no {s:ByteArray} {k:Nat} {c:UInt8} (h:s.toList[k]? =some c) (hc:okAt k c=false):namedB s.toList=false:=by
 have hk:=(List.getElem?_eq_some_iff.1 h).1
 simp only[namedB,Bool.and_eq_false_iff]
 refine .inl (List.all_eq_false.2 ⟨k,List.mem_range.2 hk,?_⟩)
 rw[List.getD_eq_getElem?_getD,h]
 simp[hc]
theorem named_yes {s:ByteArray} (h:∀j,j<s.size→∀c,s.toList[j]? =some c→okAt j c=true):namedB s.toList=(decide (1≤s.size) && decide (s.size≤20)):=by
 simp only[namedB]
 rw[show ((List.range s.toList.length).all fun i=>okAt i (s.toList.getD i 0))=true from List.all_eq_true.2 fun i hi=>?_,Bool.true_and,len_toList]
 have hi':=List.mem_range.1 hi
 rw[List.getD_eq_getElem?_getD,List.getElem?_eq_getElem hi']
 exact h i (by rw[←len_toList];exact hi') _ (List.getElem?_eq_getElem hi')
theorem named_any (s:ByteArray) (w:World) (hs:s.size≤maxLen):
  Calls Tryz.prog 192 #[.string s] w fun e w'=>e= .returned (.bool (namedB s.toList))∧w=w':=by
 unfold maxLen at hs
 go_enter Tryz.func192,Tryz.ntmps192
 go_wp2_with fail
 go_loop[6] (fun i=>∃k:Nat,k≤s.size∧i= .int .i64 k∧Hid (∀j,j<k→∀c,s.toList[j]? =some c→okAt j c=true)) (fun i=>s.size-(intOf i).toNat)
 case atStart=>exact ⟨0,Nat.zero_le _,rfl,fun j h=>absurd h (by omega)⟩
 case round=>
  obtain ⟨k,hk,rfl,HN⟩:=hrel
  by_cases hlt:k<s.size
  ·have HB:=Lib.hid (byte_at s k hlt)
   have HO:=Lib.hid (show okAt k s[k]=(letterB s[k].toNat||(!((k:Int)==0) && digitB s[k].toNat)) from by
    simp only[okAt];congr 2;rw[Bool.eq_iff_iff];simp)
   go_wp2_with fail
   refine (letter_any s[k] _).mono ?_
   rintro e w' ⟨rfl,rfl⟩
   generalize hL:letterB s[k].toNat=L at*
   clear hL
   cases L
   ·by_cases hk0:((k:Int)==0)=true
    ·go_wp2_with fail
     go_ret
     have:k=0:=by simpa using hk0
     subst this
     exact ⟨ret_bool (named_no HB.out (by rw[HO.out];rfl)).symm,rfl⟩
    ·have hk0':((k:Int)==0)=false:=by simpa using hk0
     clear hk0
     go_wp2_with fail
     refine (digit_any s[k] _).mono ?_
     rintro e w' ⟨rfl,rfl⟩
     generalize hD:digitB s[k].toNat=D at*
     clear hD
     cases D
     ·go_wp2_with fail
      go_ret
      exact ⟨ret_bool (named_no HB.out (by rw[HO.out,hk0'];rfl)).symm,rfl⟩
     ·go_wp2_with fail
      go_round
      case rel=>exact ⟨k+1,by omega,by go_num,upto_succ HN.out (fun c hc=>by rw[HB.out] at hc;injection hc with hc;rw[←hc,HO.out,hk0'];rfl)⟩
      case measure=>simp[intOf];omega
   ·go_wp2_with fail
    go_round
    case rel=>exact ⟨k+1,by omega,by go_num,upto_succ HN.out (fun c hc=>by rw[HB.out] at hc;injection hc with hc;rw[←hc,HO.out];rfl)⟩
    case measure=>simp[intOf];omega
  ·obtain rfl:k=s.size:=by omega
   have HF:=Lib.hid (named_yes HN.out)
   go_wp2_with fail
   all_goals
    go_ret
    refine ⟨ret_bool ?_,rfl⟩
    rw[HF.out,Bool.eq_iff_iff];simp;omega
theorem name_any (s:ByteArray) (w:World) (hs:s.size≤maxLen):
  Calls Tryz.prog 177 #[.string s] w fun e w'=>e= .returned (.bool (nameB s.toList))∧Below w.heap.size w w':=by
 have HE:=Lib.hid (show nameB s.toList=(namedB s.toList && !wordB s.toList) from rfl)
 go_enter Tryz.func177,Tryz.ntmps177
 go_wp2_with fail
 refine (named_any s _ hs).mono ?_
 rintro e w' ⟨rfl,rfl⟩
 generalize namedB s.toList=L at*
 cases L
 ·go_wp2_with fail
  go_ret
  exact ⟨ret_bool HE.out.symm,Below.refl _ _⟩
 ·go_wp2_with fail
  refine (word_any s _).mono ?_
  rintro e w1 ⟨rfl,hb⟩
  go_wp2_with fail
  go_ret
  exact ⟨ret_bool HE.out.symm,hb⟩
def partsZ (op:Int):Int:=
 if op=1∨op=2∨op=3 then 0 else if op=4 then-1 else if op=5∨op=6∨op=21∨op=24∨op=25 then 1
 else if 7≤op∧op≤20∨op=22∨op=23∨op=26 then 2 else if op=27 then 3 else-2
theorem ret_i64 {a b:Int} (h:a=b):Ending.returned (.int .i64 a)= .returned (.int .i64 b):=by rw[h]
theorem parts_any (op:Int) (w:World):
  Calls Tryz.prog 154 #[.int .i64 op] w fun e w'=>e= .returned (.int .i64 (partsZ op))∧w=w':=by
 go_enter Tryz.func154,Tryz.ntmps154
 go_wp2
 all_goals
  go_ret
  refine ⟨ret_i64 ?_,rfl⟩
  (try simp only[beq_iff_eq,beq_eq_false_iff_ne] at*)
  unfold partsZ
  repeat' split
  all_goals omega
def namesB (op:Int):Bool:=decide (op=3∨op=24∨op=25∨op=26)
theorem names_any (op:Int) (w:World):
  Calls Tryz.prog 203 #[.int .i64 op] w fun e w'=>e= .returned (.bool (namesB op))∧w=w':=by
 go_enter Tryz.func203,Tryz.ntmps203
 go_wp2
 all_goals
  go_ret
  refine ⟨ret_bool ?_,rfl⟩
  rw[Bool.eq_iff_iff]
  simp[namesB]
  omega
def plainK (K:Int) (nb:Bool) (e:Ex):Bool:=
 if K= -2 then false
 else if K= -1∧(e.args.length<1∨8<e.args.length) then false
 else if 0≤K∧(e.args.length:Int)≠K then false
 else if nb=true∨e.op=4 then (nameB e.name.toList && e.n==0)
 else if e.op=1 then (e.name.toList.isEmpty && decide (0≤e.n))
 else if e.op=2 then (e.name.toList.isEmpty && (e.n==0||e.n==1))
 else (e.name.toList.isEmpty && e.n==0)
def plainB (e:Ex):Bool:=plainK (partsZ e.op) (namesB e.op) e
theorem partsZ_lo (op:Int):partsZ op= -2∨partsZ op= -1∨(0≤partsZ op∧partsZ op≤3):=by unfold partsZ;repeat' split;all_goals omega
def plainR (nb:Bool) (e:Ex):Bool:=
 if nb=true∨e.op=4 then (nameB e.name.toList && e.n==0)
 else if e.op=1 then (e.name.toList.isEmpty && decide (0≤e.n))
 else if e.op=2 then (e.name.toList.isEmpty && (e.n==0||e.n==1))
 else (e.name.toList.isEmpty && e.n==0)
theorem plainK_no1 {K:Int} {nb:Bool} {e:Ex} (h:K= -1∧(e.args.length<1∨8<e.args.length)):plainK K nb e=false:=by
 unfold plainK;rw[if_neg (by omega),if_pos h]
theorem plainK_no2 {K:Int} {nb:Bool} {e:Ex} (h:0≤K∧(e.args.length:Int)≠K):plainK K nb e=false:=by
 unfold plainK;rw[if_neg (by omega),if_neg (by omega),if_pos h]
theorem plainK_go {K:Int} {nb:Bool} {e:Ex} (h:K≠-2) (h1:¬(K= -1∧(e.args.length<1∨8<e.args.length))) (h2:¬(0≤K∧(e.args.length:Int)≠K)):plainK K nb e=plainR nb e:=by
 unfold plainK;rw[if_neg h,if_neg h1,if_neg h2];rfl
theorem plain_any (e:Ex) (A:Option Addr) (cap:Nat) (w:World) (hok:ExOk e) (hl:e.args.length≤maxLen):
  Calls Tryz.prog 199 #[exV e A cap] w fun r w'=>r= .returned (.bool (plainB e))∧Below w.heap.size w w':=by
 have hnm:=hok.name
 unfold maxLen at hl
 have HE:=Lib.hid (show plainB e=plainK (partsZ e.op) (namesB e.op) e from rfl)
 have hK:=partsZ_lo e.op
 have hB:Below w.heap.size w (w.alloc (.cells #[.int .i64 e.op,.string e.name,.int .i64 e.n,.slice A e.args.length cap,.int .i64 e.line,.int .i64 e.col] 63)):=(Below.refl _ _).alloc (Nat.le_refl _) _
 go_enter Tryz.func199,Tryz.ntmps199
 go_wp2_with fail
 refine (parts_any e.op _).mono ?_
 rintro r w' ⟨rfl,rfl⟩
 generalize partsZ e.op=K at*
 by_cases hk2:K= -2
 ·subst hk2
  go_wp2_with fail
  go_ret
  exact ⟨ret_bool (by rw[HE.out];rfl),hB⟩
 ·by_cases h1:K= -1∧(e.args.length<1∨8<e.args.length)
  ·have HF:=Lib.hid (HE.out.trans (plainK_no1 h1))
   obtain ⟨rfl,h1⟩:=h1
   clear hK HE
   rcases h1 with h1|h1
   all_goals
    refine' zq86
  ·by_cases h2:0≤K∧(e.args.length:Int)≠K
   ·have HF:=Lib.hid (HE.out.trans (plainK_no2 h2))
    obtain ⟨h2,h3⟩:=h2
    have h3':(((e.args.length:Int)) !=K)=true:=by rw[bne_iff_ne];exact h3
    have hk1:(K== -1)=false:=by rw[beq_eq_false_iff_ne];omega
    have hk2':(K== -2)=false:=by rw[beq_eq_false_iff_ne];omega
    clear hK HE h3 h1 hk2
    refine' zq86
   ·have HF:=Lib.hid (HE.out.trans (plainK_go hk2 h1 h2))
    have HG:Hid ((K= -1∧1≤e.args.length∧e.args.length≤8)∨(0≤K∧(e.args.length:Int)=K)):=by
     show _∨_
     omega
    clear hK HE hk2 h1 h2
    generalize hnb:namesB e.op=nb at*
    have HNB:=Lib.hid hnb
    clear hnb
    have hk:(K== -2)=false:=by rw[beq_eq_false_iff_ne];have:=HG.out;omega
    have HW:Hid (∀w1,Below (w.heap.size+1) (w.alloc (.cells #[.int .i64 e.op,.string e.name,.int .i64 e.n,.slice A e.args.length cap,.int .i64 e.line,.int .i64 e.col] 63)) w1→Below w.heap.size w w1∧w1.cell? ⟨w.heap.size,2,none⟩=some (.int .i64 e.n)):=fun w1 hb1=>
     ⟨hB.trans (hb1.mono (by omega)),by rw[hb1.cell (p:=⟨w.heap.size,2,none⟩) (Nat.lt_succ_self _)];simp⟩
    rcases HG.out with ⟨rfl,h1,h8⟩|⟨h0,h3⟩
    rotate_left
    ·have hk1:(K== -1)=false:=by rw[beq_eq_false_iff_ne];omega
     have h3':(((e.args.length:Int)) !=K)=false:=by rw[bne_eq_false_iff_eq];exact h3
     clear h3
     refine' zq3
    ·refine' zq3
end Go.Proofs.YtdkgkacnjdnpoaaGreat
