/-
  Names and words, as plain lists of bytes: the program's and the document's are one. The contracts of package token: letter, digit, named, words, Word, Name. The contracts of package tompionref11: Digit, Part, Word, Name.
-/
import Derived.Test.YtgjfkidbfmbjoaaGreatZz
import Derived.Below
import Derived.Test.YtgjfkidbfmbjoaaGreatMem
import Derived.Outline
import Derived.WalkLawsBesides
set_option maxHeartbeats 1000000
namespace Go.Proofs.YtgjfkidbfmbjoaaGreat.Nm
def letterB (c:Nat):Bool:=(decide (97≤c) && decide (c≤122))||((decide (65≤c) && decide (c≤90))||c==95)
def digitB (c:Nat):Bool:=decide (48≤c) && decide (c≤57)
def words:List (List UInt8):=[[110,111,100,101],[114,101,116,117,114,110,115],[118,97,114],[108,101,116],[116,101,108],[105,102],[116,104,101,110],[101,108,115,101],[112,114,101],[102,98,121],[119,104,101,110],[110,111,116],[109,101,114,103,101],[97,110,100],[111,114],[120,111,114],[116,114,117,101],[102,97,108,115,101],[105,110,116],[98,111,111,108]]
def wtext:List UInt8:=[32,110,111,100,101,32,114,101,116,117,114,110,115,32,118,97,114,32,108,101,116,32,116,101,108,32,105,102,32,116,104,101,110,32,101,108,115,101,32,112,114,101,32,102,98,121,32,119,104,101,110,32,110,111,116,32,109,101,114,103,101,32,97,110,100,32,111,114,32,120,111,114,32,116,114,117,101,32,102,97,108,115,101,32,105,110,116,32,98,111,111,108,32]
def wordB (l:List UInt8):Bool:=words.contains l
def okAt (i:Nat) (c:UInt8):Bool:=letterB c.toNat||(i !=0 && digitB c.toNat)
def namedB (l:List UInt8):Bool:=((List.range l.length).all fun i=>okAt i (l.getD i 0)) && (decide (1≤l.length) && decide (l.length≤20))
def nameB (l:List UInt8):Bool:=namedB l && !wordB l
def inText (l:List UInt8):Prop:=∃i,i+(l.length+2)≤wtext.length∧(wtext.drop i).take (l.length+2)=32::(l++ [32])
theorem takeWhile_upto {l r:List UInt8} (h:∀c∈l,c≠32):(l++32::r).takeWhile (fun c=>c !=32)=l:=by
 induction l with
 |nil=>simp
 |cons c l ih=>
  have hc:=h c (by simp)
  simp only[List.cons_append]
  rw[List.takeWhile_cons,if_pos (by simpa using hc),ih (fun x hx=>h x (by simp[hx]))]
theorem all_places:((List.range wtext.length).all fun i=>(wtext.getD i 0 !=32)||(((wtext.drop (i+1)).takeWhile fun c=>c !=32)==[])||words.contains ((wtext.drop (i+1)).takeWhile fun c=>c !=32))=true:=by decide+kernel
theorem all_words:(words.all fun l=>(List.range wtext.length).any fun i=>decide (i+(l.length+2)≤wtext.length) && ((wtext.drop i).take (l.length+2)==32::(l++ [32])))=true:=by decide+kernel
theorem words_plain:(words.all fun l=>l.all (fun c=>c !=32) && (l !=[]))=true:=by decide+kernel
theorem in_of_word {l:List UInt8} (h:wordB l=true):inText l:=by
 have hm:l∈words:=by simpa[wordB] using h
 have:=List.all_eq_true.1 all_words l hm
 obtain ⟨i,_,hi⟩:=List.any_eq_true.1 this
 simp only[Bool.and_eq_true,decide_eq_true_eq,beq_iff_eq] at hi
 exact ⟨i,hi.1,hi.2⟩
theorem word_of_in {l:List UInt8} (h:inText l) (hb:∀c∈l,c≠32) (hne:l≠[]):wordB l=true:=by
 obtain ⟨i,hi,he⟩:=h
 have hil:i<wtext.length:=by omega
 have hd:wtext.drop i=wtext[i]::wtext.drop (i+1):=List.drop_eq_getElem_cons hil
 rw[hd,List.take_succ_cons] at he
 have h0:wtext[i]=32:=(List.cons.inj he).1
 have h1:(wtext.drop (i+1)).take (l.length+1)=l++ [32]:=(List.cons.inj he).2
 have h2:wtext.drop (i+1)=l++32::(wtext.drop (i+1)).drop (l.length+1):=by
  conv=>lhs;rw[←List.take_append_drop (l.length+1) (wtext.drop (i+1)),h1]
  simp
 have ht:(wtext.drop (i+1)).takeWhile (fun c=>c !=32)=l:=by rw[h2];exact takeWhile_upto hb
 have:=List.all_eq_true.1 all_places i (List.mem_range.2 hil)
 rw[ht] at this
 have hg:wtext.getD i 0=32:=by rw[List.getD_eq_getElem?_getD,List.getElem?_eq_getElem hil];simpa using h0
 rw[hg] at this
 simpa[wordB,hne] using this
theorem word_blank {l:List UInt8} (h:wordB l=true):∀c∈l,c≠32:=by
 have hm:l∈words:=by simpa[wordB] using h
 have:=List.all_eq_true.1 words_plain l hm
 simp only[Bool.and_eq_true,List.all_eq_true,bne_iff_ne] at this
 exact this.1
def partB (c:Nat):Bool:=(decide (97≤c) && decide (c≤122))||((decide (65≤c) && decide (c≤90))||(c==95||digitB c))
theorem part_eq (c:Nat):partB c=(letterB c||digitB c):=by simp only[partB,letterB,Bool.or_assoc]
theorem letter_not_digit {c:Nat} (h:letterB c=true):digitB c=false:=by
 simp only[letterB,digitB,Bool.or_eq_true,Bool.and_eq_true,decide_eq_true_eq,beq_iff_eq,Bool.and_eq_false_iff,decide_eq_false_iff_not] at h⊢
 omega
theorem named_iff (l:List UInt8):namedB l=true↔(∀(i:Nat) (c:UInt8),l[i]? =some c→partB c.toNat=true)∧l≠[]∧l.length≤20∧(∀c:UInt8,l[0]? =some c→digitB c.toNat=false):=by
 unfold namedB
 simp only[Bool.and_eq_true,List.all_eq_true,List.mem_range,decide_eq_true_eq]
 constructor
 ·rintro ⟨h1,h2,h3⟩
  have g:∀i c,l[i]? =some c→okAt i c=true:=by
   intro i c hc
   have hl:=(List.getElem?_eq_some_iff.1 hc).1
   have:=h1 i hl
   rwa [List.getD_eq_getElem?_getD,hc] at this
  refine ⟨fun i c hc=>?_,fun h=>by rw[h] at h2;simp at h2,h3,fun c hc=>?_⟩
  ·have:=g i c hc
   rw[part_eq]
   simp only[okAt,Bool.or_eq_true,Bool.and_eq_true] at this⊢
   rcases this with h|h
   ·exact .inl h
   ·exact .inr h.2
  ·have:=g 0 c hc
   simp only[okAt,bne_self_eq_false,Bool.false_and,Bool.or_false] at this
   exact letter_not_digit this
 ·rintro ⟨h1,h2,h3,h4⟩
  refine ⟨fun i hi=>?_,?_,h3⟩
  ·have hc:l[i]? =some l[i]:=List.getElem?_eq_getElem hi
   rw[List.getD_eq_getElem?_getD,hc]
   have hp:=h1 i _ hc
   rw[part_eq] at hp
   simp only[okAt,Option.getD_some,Bool.or_eq_true,Bool.and_eq_true,bne_iff_ne] at hp⊢
   rcases hp with h|h
   ·exact .inl h
   ·rcases Nat.eq_zero_or_pos i with rfl|hi0
    ·rw[h4 _ hc] at h;cases h
    ·exact .inr ⟨by omega,h⟩
  ·rcases l with _|⟨c,l⟩
   ·exact absurd rfl h2
   ·simp
end Go.Proofs.YtgjfkidbfmbjoaaGreat.Nm
namespace Go.Proofs.YtgjfkidbfmbjoaaGreat
open Go.RowKit Nm
theorem letter_any (c:UInt8) (w:World):
  Calls Tryz.prog 268 #[.int .u8 c.toNat] w fun e w'=>e= .returned (.bool (letterB c.toNat))∧w=w':=by
 go_enter Tryz.func268,Tryz.ntmps268
 go_wp2
 all_goals (go_ret;refine ⟨ret_bool ?_,rfl⟩)
 all_goals (rw[Bool.eq_iff_iff];simp[letterB];omega)
theorem digit_any (c:UInt8) (w:World):
  Calls Tryz.prog 271 #[.int .u8 c.toNat] w fun e w'=>e= .returned (.bool (digitB c.toNat))∧w=w':=by
 go_enter Tryz.func271,Tryz.ntmps271
 go_wp2
 all_goals (go_ret;refine ⟨ret_bool ?_,rfl⟩)
 all_goals (rw[Bool.eq_iff_iff];simp[digitB];omega)
theorem words_any (w:World):
  Calls Tryz.prog 305 #[] w fun e w'=>e= .returned (.slice (some ⟨w.heap.size,0,none⟩) 20 20)∧w'=w.alloc (.cells (words.map fun l=>Value.string ⟨l.toArray⟩).toArray 9):=by
 go_enter Tryz.func305,Tryz.ntmps305
 go_wp2
 go_ret
 exact ⟨rfl,rfl⟩
theorem words_cell (w:World) (k:Nat) (hk:k<20):∃l,words[k]? =some l∧(w.alloc (.cells (words.map fun l=>Value.string ⟨l.toArray⟩).toArray 9)).cell? ⟨w.heap.size,k,none⟩=some (.string ⟨l.toArray⟩):=by
 have hl:words.length=20:=rfl
 refine ⟨words[k]'(by omega),List.getElem?_eq_getElem (by omega),?_⟩
 rw[cell_of_row _ w.heap.size k _ _ (0,0) (heap_alloc_new w _),List.getElem?_toArray,List.getElem?_map,List.getElem?_eq_getElem (by omega)]
 rfl
theorem word_none {l:List UInt8} (h:∀(j:Nat) m,words[j]? =some m→(l==m)=false):wordB l=false:=by
 simp only[wordB,List.contains_eq_any_beq,List.any_eq_false]
 intro m hl e
 obtain ⟨j,hj⟩:=List.getElem?_of_mem hl
 rw[h j m hj] at e;cases e
theorem word_some {l m:List UInt8} {j:Nat} (h:words[j]? =some m) (he:(l==m)=true):wordB l=true:=by
 simp only[wordB,List.contains_eq_any_beq,List.any_eq_true]
 exact ⟨m,List.mem_of_getElem? h,he⟩
theorem upto_succ {k:Nat} {P:Nat→Prop} (h:∀j,j<k→P j) (hk:P k):∀j,j<k+1→P j:=fun j hj=>by
 rcases Nat.lt_or_ge j k with h1|h1
 ·exact h j h1
 ·obtain rfl:j=k:=by omega
  exact hk
theorem word_any (s:ByteArray) (w:World):
  Calls Tryz.prog 272 #[.string s] w fun e w'=>e= .returned (.bool (wordB s.toList))∧Below w.heap.size w w':=by
 go_enter Tryz.func272,Tryz.ntmps272
 go_wp2_with (go_at_call 305;refine (words_any _).mono ?_;rintro e w' ⟨rfl,rfl⟩)
 go_loop[7] (fun i=>∃k:Nat,k≤20∧i= .int .i64 k∧Hid (∀j,j<k→∀m,words[j]? =some m→(s.toList==m)=false)) (fun i=>20-(intOf i).toNat)
 case atStart=>exact ⟨0,Nat.zero_le _,rfl,fun j h=>absurd h (by omega)⟩
 case round=>
  obtain ⟨k,hk,rfl,HN⟩:=hrel
  by_cases hlt:k<20
  ·obtain ⟨l,hl,hc⟩:=words_cell w k hlt
   have hB:Below w.heap.size w (w.alloc (.cells (words.map fun l=>Value.string ⟨l.toArray⟩).toArray 9)):=(Below.refl _ _).alloc (Nat.le_refl _) _
   generalize (w.alloc (.cells (words.map fun l=>Value.string ⟨l.toArray⟩).toArray 9))=W at*
   have HL:=Lib.hid hl
   clear hl
   go_wp2_with fail
   ·go_ret
    have he:(s.toList==l)=true:=by assumption
    exact ⟨ret_bool (word_some HL.out he).symm,hB⟩
   ·have he:(s.toList==l)=false:=by assumption
    go_round
    case rel=>exact ⟨k+1,by omega,by go_num,upto_succ HN.out (fun m hm=>by rw[HL.out] at hm;injection hm with hm;rw[←hm];exact he)⟩
    case measure=>simp[intOf];omega
  ·have HF:=Lib.hid (word_none (l:=s.toList) (fun j m hm=>HN.out j (by have:=(List.getElem?_eq_some_iff.1 hm).1;have:words.length=20:=rfl;omega) m hm))
   go_wp2_with fail
   go_ret
   exact ⟨ret_bool HF.out.symm,(Below.refl _ _).alloc (Nat.le_refl _) _⟩
theorem byte_at (s:ByteArray) (k:Nat) (h:k<s.size):s.toList[k]? =some s[k]:=by
 rw[ByteArray.toList_eq,List.getElem?_eq_getElem (by simpa using h)];rfl
theorem len_toList (s:ByteArray):s.toList.length=s.size:=by rw[ByteArray.toList_eq];simp
theorem named_no {s:ByteArray} {k:Nat} {c:UInt8} (h:s.toList[k]? =some c) (hc:okAt k c=false):namedB s.toList=false:=by
 have hk:=(List.getElem?_eq_some_iff.1 h).1
 simp only[namedB,Bool.and_eq_false_iff]
 refine .inl (List.all_eq_false.2 ⟨k,List.mem_range.2 hk,?_⟩)
 rw[List.getD_eq_getElem?_getD,h]
 simp[hc]
theorem named_yes {s:ByteArray} (h:∀j,j<s.size→∀c,s.toList[j]? =some c→okAt j c=true):namedB s.toList=(decide (1≤s.size) && decide (s.size≤20)):=by
 simp only[namedB]
 rw[show ((List.range s.toList.length).all fun i=>okAt i (s.toList.getD i 0))=true from List.all_eq_true.2 fun i hi=>?_,Bool.true_and,len_toList]
 have hi':=List.mem_range.1 hi
 rw[List.getD_eq_getElem?_getD,List.getElem?_eq_getElem hi']
 exact h i (by rw[←len_toList];exact hi') _ (List.getElem?_eq_getElem hi')
theorem named_any (s:ByteArray) (w:World) (hs:s.size≤maxLen):
  Calls Tryz.prog 299 #[.string s] w fun e w'=>e= .returned (.bool (namedB s.toList))∧w=w':=by
 unfold maxLen at hs
 go_enter Tryz.func299,Tryz.ntmps299
 go_wp2_with fail
 go_loop[6] (fun i=>∃k:Nat,k≤s.size∧i= .int .i64 k∧Hid (∀j,j<k→∀c,s.toList[j]? =some c→okAt j c=true)) (fun i=>s.size-(intOf i).toNat)
 case atStart=>exact ⟨0,Nat.zero_le _,rfl,fun j h=>absurd h (by omega)⟩
 case round=>
  obtain ⟨k,hk,rfl,HN⟩:=hrel
  by_cases hlt:k<s.size
  ·have HB:=Lib.hid (byte_at s k hlt)
   have HO:=Lib.hid (show okAt k s[k]=(letterB s[k].toNat||(!((k:Int)==0) && digitB s[k].toNat)) from by
    simp only[okAt];congr 2;rw[Bool.eq_iff_iff];simp)
   go_wp2_with fail
   refine (letter_any s[k] _).mono ?_
   rintro e w' ⟨rfl,rfl⟩
   generalize hL:letterB s[k].toNat=L at*
   clear hL
   cases L
   ·by_cases hk0:((k:Int)==0)=true
    ·go_wp2_with fail
     go_ret
     have:k=0:=by simpa using hk0
     subst this
     exact ⟨ret_bool (named_no HB.out (by rw[HO.out];rfl)).symm,rfl⟩
    ·have hk0':((k:Int)==0)=false:=by simpa using hk0
     clear hk0
     go_wp2_with fail
     refine (digit_any s[k] _).mono ?_
     rintro e w' ⟨rfl,rfl⟩
     generalize hD:digitB s[k].toNat=D at*
     clear hD
     cases D
     ·go_wp2_with fail
      go_ret
      exact ⟨ret_bool (named_no HB.out (by rw[HO.out,hk0'];rfl)).symm,rfl⟩
     ·go_wp2_with fail
      go_round
      case rel=>exact ⟨k+1,by omega,by go_num,upto_succ HN.out (fun c hc=>by rw[HB.out] at hc;injection hc with hc;rw[←hc,HO.out,hk0'];rfl)⟩
      case measure=>simp[intOf];omega
   ·go_wp2_with fail
    go_round
    case rel=>exact ⟨k+1,by omega,by go_num,upto_succ HN.out (fun c hc=>by rw[HB.out] at hc;injection hc with hc;rw[←hc,HO.out];rfl)⟩
    case measure=>simp[intOf];omega
  ·obtain rfl:k=s.size:=by omega
   have HF:=Lib.hid (named_yes HN.out)
   go_wp2_with fail
   all_goals
    go_ret
    refine ⟨ret_bool ?_,rfl⟩
    rw[HF.out,Bool.eq_iff_iff];simp;omega
theorem name_any (s:ByteArray) (w:World) (hs:s.size≤maxLen):
  Calls Tryz.prog 256 #[.string s] w fun e w'=>e= .returned (.bool (nameB s.toList))∧Below w.heap.size w w':=by
 have HE:=Lib.hid (show nameB s.toList=(namedB s.toList && !wordB s.toList) from rfl)
 go_enter Tryz.func256,Tryz.ntmps256
 go_wp2_with fail
 refine (named_any s _ hs).mono ?_
 rintro e w' ⟨rfl,rfl⟩
 generalize namedB s.toList=L at*
 cases L
 ·go_wp2_with fail
  go_ret
  exact ⟨ret_bool HE.out.symm,Below.refl _ _⟩
 ·go_wp2_with fail
  refine (word_any s _).mono ?_
  rintro e w1 ⟨rfl,hb⟩
  go_wp2_with fail
  go_ret
  exact ⟨ret_bool HE.out.symm,hb⟩
theorem rdigit_any (c:UInt8) (w:World):
  Calls Tryz.prog 279 #[.int .u8 c.toNat] w fun e w'=>e= .returned (.bool (digitB c.toNat))∧w=w':=by
 go_enter Tryz.func279,Tryz.ntmps279
 go_wp2
 all_goals (go_ret;refine ⟨ret_bool ?_,rfl⟩)
 all_goals (rw[Bool.eq_iff_iff];simp[digitB];omega)
theorem rpart_any (c:UInt8) (w:World):
  Calls Tryz.prog 278 #[.int .u8 c.toNat] w fun e w'=>e= .returned (.bool (partB c.toNat))∧w=w':=by
 go_enter Tryz.func278,Tryz.ntmps278
 go_wp2
 all_goals (go_ret;refine ⟨ret_bool ?_,rfl⟩)
 all_goals (rw[Bool.eq_iff_iff];simp[partB,digitB];omega)
theorem rword_no {l:List UInt8} (h:wordB l=true):∃i,i+(l.length+2)≤93∧(wtext.drop i).take (l.length+2)=32::(l++ [32]):=in_of_word h
theorem extract_wtext (k n:Nat):((⟨wtext.toArray⟩:ByteArray).extract k (k+n)).toList=(wtext.drop k).take n:=by
 rw[ByteArray.toList_eq];simp[ByteArray.data_extract]
theorem in_of_eq {s t:ByteArray} (k:Nat) (h:k+t.size≤93) (hz:t.size=s.size+2) (ht:t.toList=32::(s.toList++ [32])) (he:(((⟨wtext.toArray⟩:ByteArray).extract k (k+t.size)).toList==t.toList)=true):inText s.toList:=by
 have he':=beq_iff_eq.1 he
 rw[extract_wtext,ht,hz,←len_toList] at he'
 rw[hz,←len_toList] at h
 exact ⟨k,h,he'⟩
theorem ne_of_neq {s t:ByteArray} (k:Nat) (_h:k+t.size≤93) (hz:t.size=s.size+2) (ht:t.toList=32::(s.toList++ [32])) (he:(((⟨wtext.toArray⟩:ByteArray).extract k (k+t.size)).toList==t.toList)=false):(wtext.drop k).take (s.toList.length+2)≠32::(s.toList++ [32]):=by
 have he':=beq_eq_false_iff_ne.1 he
 rw[extract_wtext,ht,hz,←len_toList] at he'
 exact he'
theorem rword_any (s:ByteArray) (w:World) (hs:s.size≤1000000):
  Calls Tryz.prog 280 #[.string s] w fun e w'=>e= .returned (.bool (wordB s.toList))∧w=w':=by
 go_enter Tryz.func280,Tryz.ntmps280
 go_wp2_with fail
 go_loop[3] (fun i=>∃k:Nat,k≤s.size∧i= .int .i64 k∧Hid (∀j,j<k→∀c,s.toList[j]? =some c→c≠32)) (fun i=>s.size-(intOf i).toNat)
 case atStart=>exact ⟨0,Nat.zero_le _,rfl,fun j h=>absurd h (by omega)⟩
 case round=>
  obtain ⟨k,hk,rfl,HN⟩:=hrel
  by_cases hlt:k<s.size
  ·have HB:=Lib.hid (byte_at s k hlt)
   generalize hc:s[k]=c at*
   have HC:=Lib.hid hc
   clear hc
   by_cases h32:c=32
   ·subst h32
    have HF:=Lib.hid (show wordB s.toList=false from by
     cases hw:wordB s.toList with
     |false=>rfl
     |true=>exact absurd rfl (word_blank hw 32 (List.mem_of_getElem? HB.out)))
    have HC':=HC.out
    refine' zq139
   ·have HC':=HC.out
    have hb:((c.toNat:Int)==32)=false:=by
     rw[beq_eq_false_iff_ne];intro e;apply h32;exact UInt8.toNat_inj.1 (by have:(32:UInt8).toNat=32:=rfl;omega)
    have H32:=Lib.hid h32
    clear h32
    go_wp2_with fail
    go_round
    case rel=>exact ⟨k+1,by omega,by go_num,upto_succ HN.out (fun c' hc'=>by rw[HB.out] at hc';injection hc' with hc';rw[←hc'];exact H32.out)⟩
    case measure=>simp[intOf];omega
  ·obtain rfl:k=s.size:=by omega
   have HBl:=Lib.hid (show ∀c∈s.toList,c≠32 from fun c hc=>by
    obtain ⟨j,hj⟩:=List.getElem?_of_mem hc
    exact HN.out j (by rw[←len_toList];exact (List.getElem?_eq_some_iff.1 hj).1) c hj)
   go_wp2_with fail
   have hz:((⟨#[32]⟩:ByteArray)++s++⟨#[32]⟩).size=s.size+2:=by simp[ByteArray.size_append];show 1+s.size+1=_;omega
   have ht:((⟨#[32]⟩:ByteArray)++s++⟨#[32]⟩).toList=32::(s.toList++ [32]):=by simp[ByteArray.toList_eq]
   generalize ((⟨#[32]⟩:ByteArray)++s++⟨#[32]⟩)=t at*
   have HZ:=Lib.hid hz
   have HT:=Lib.hid ht
   have hz':t.size≤1000002:=by omega
   have hz0:2≤t.size:=by omega
   clear hz ht HN
   go_loop[5] (fun i=>∃k:Nat,k≤93∧i= .int .i64 k∧Hid (∀j,j<k→j+(s.toList.length+2)≤93→(wtext.drop j).take (s.toList.length+2)≠32::(s.toList++ [32]))) (fun i=>93-(intOf i).toNat)
   case atStart=>exact ⟨0,Nat.zero_le _,rfl,fun j h=>absurd h (by omega)⟩
   case round=>
    obtain ⟨k,hk,rfl,HN⟩:=hrel
    by_cases hlt:k+t.size≤93
    ·have hlt':(k:Int)+(t.size:Int)≤93:=by omega
     go_wp2_with fail
     ·have he:(((⟨wtext.toArray⟩:ByteArray).extract k (k+t.size)).toList==t.toList)=true:=by assumption
      have HI:Hid (inText s.toList):=in_of_eq k hlt HZ.out HT.out he
      have HF:=Lib.hid (show wordB s.toList= !s.toList.isEmpty from by
       by_cases h0:s.toList=[]
       ·rw[h0];decide+kernel
       ·rw[word_of_in HI.out HBl.out h0];simp[h0])
      go_ret
      exact ⟨ret_bool HF.out.symm,rfl⟩
     ·have he:(((⟨wtext.toArray⟩:ByteArray).extract k (k+t.size)).toList==t.toList)=false:=by assumption
      go_round
      case rel=>exact ⟨k+1,by omega,by go_num,upto_succ HN.out (fun _=>ne_of_neq k hlt HZ.out HT.out he)⟩
      case measure=>simp[intOf];omega
    ·have HF:=Lib.hid (show wordB s.toList=false from by
      cases hw:wordB s.toList with
      |false=>rfl
      |true=>
       obtain ⟨i,hi,he⟩:=rword_no hw
       have:=len_toList s
       have:=HZ.out
       exact absurd he (HN.out i (by omega) hi))
     have hlt':¬(k:Int)+(t.size:Int)≤93:=by omega
     refine' zq139
theorem rname_no {l:List UInt8} {k:Nat} {c:UInt8} (h:l[k]? =some c) (hc:partB c.toNat=false):nameB l=false:=by
 cases hn:namedB l with
 |false=>simp[nameB,hn]
 |true=>have:=(named_iff l).1 hn;rw[this.1 k c h] at hc;cases hc
theorem rname_yes {s:ByteArray} (h:∀j,j<s.size→∀c,s.toList[j]? =some c→partB c.toNat=true):
  nameB s.toList=(!s.toList.isEmpty && (decide (s.size≤20) && (!digitB (s.toList.getD 0 0).toNat && !wordB s.toList))):=by
 unfold nameB
 cases hw:wordB s.toList
 ·simp only[Bool.not_false,Bool.and_true]
  rw[Bool.eq_iff_iff,named_iff]
  have hl:=len_toList s
  constructor
  ·rintro ⟨_,h2,h3,h4⟩
   have he:s.toList.isEmpty=false:=by simpa using h2
   rw[he]
   have h20:decide (s.size≤20)=true:=by simp;omega
   rw[h20]
   cases hs:s.toList with
   |nil=>exact absurd hs h2
   |cons c r=>rw[hs] at h4;simp[h4 c rfl]
  ·intro h'
   simp only[Bool.and_eq_true,Bool.not_eq_true',List.isEmpty_eq_false_iff,decide_eq_true_eq] at h'
   refine ⟨fun i c hc=>h i (by rw[←hl];exact (List.getElem?_eq_some_iff.1 hc).1) c hc,h'.1,by omega,fun c hc=>?_⟩
   have:=h'.2.2
   rwa [List.getD_eq_getElem?_getD,hc] at this
 ·simp
theorem rname_any (s:ByteArray) (w:World) (hs:s.size≤1000000):
  Calls Tryz.prog 251 #[.string s] w fun e w'=>e= .returned (.bool (nameB s.toList))∧w=w':=by
 go_enter Tryz.func251,Tryz.ntmps251
 go_wp2_with fail
 go_loop[3] (fun i=>∃k:Nat,k≤s.size∧i= .int .i64 k∧Hid (∀j,j<k→∀c,s.toList[j]? =some c→partB c.toNat=true)) (fun i=>s.size-(intOf i).toNat)
 case atStart=>exact ⟨0,Nat.zero_le _,rfl,fun j h=>absurd h (by omega)⟩
 case round=>
  obtain ⟨k,hk,rfl,HN⟩:=hrel
  by_cases hlt:k<s.size
  ·have HB:=Lib.hid (byte_at s k hlt)
   go_wp2_with fail
   refine (rpart_any s[k] _).mono ?_
   rintro e w' ⟨rfl,rfl⟩
   generalize hL:partB s[k].toNat=L at*
   have HL:=Lib.hid hL
   clear hL
   cases L
   ·go_wp2_with fail
    go_ret
    exact ⟨ret_bool (rname_no HB.out HL.out).symm,rfl⟩
   ·go_wp2_with fail
    go_round
    case rel=>exact ⟨k+1,by omega,by go_num,upto_succ HN.out (fun c hc=>by rw[HB.out] at hc;injection hc with hc;rw[←hc];exact HL.out)⟩
    case measure=>simp[intOf];omega
  ·obtain rfl:k=s.size:=by omega
   have HF:=Lib.hid (rname_yes HN.out)
   by_cases h0:s.size=0
   ·have hl:=len_toList s
    have he:s.toList.isEmpty=true:=by
     cases h:s.toList with
     |nil=>rfl
     |cons c r=>rw[h] at hl;simp at hl;omega
    rw[he] at HF
    clear hl
    have h0':(s.size:Int)≤20:=by omega
    clear h0
    refine' zq139
   ·have hl:=len_toList s
    have he:s.toList.isEmpty=false:=by
     cases h:s.toList with
     |nil=>rw[h] at hl;simp at hl;omega
     |cons c r=>rfl
    have h0p:0<s.size:=by omega
    have HB:=Lib.hid (show s.toList.getD 0 0=s[0] from by rw[List.getD_eq_getElem?_getD,byte_at s 0 h0p];rfl)
    rw[he] at HF
    clear hl h0 hlt
    by_cases h20:s.size≤20
    ·have h20':decide ((s.size:Int)≤20)=true:=by simp;omega
     have h20'':decide (s.size≤20)=true:=by simp;omega
     rw[h20'',HB.out] at HF
     clear h20''
     go_wp2_with fail
     refine (rdigit_any s[0] _).mono ?_
     rintro e w' ⟨rfl,rfl⟩
     generalize digitB s[0].toNat=D at*
     cases D
     ·go_wp2_with fail
      refine (rword_any s _ hs).mono ?_
      rintro e w' ⟨rfl,rfl⟩
      refine' zq139
     ·refine' zq139
    ·have h20':decide ((s.size:Int)≤20)=false:=by simp;omega
     have h20'':decide (s.size≤20)=false:=by simp;omega
     rw[h20''] at HF
     clear h20'' h20
     refine' zq139
end Go.Proofs.YtgjfkidbfmbjoaaGreat
