/-
  The scanner and the parser as plain functions, of texts that are read well and that use no more of the language than the examples of the chapters do. The world without one block: what does not lie there stays when that block turns. Lexemes and the scanner in memory. The contracts of the scanner: skip, blanks, run. The contracts of the scanner: run, of a test that is a function; number; sign. The contracts of the scanner: letters and digits, number, sign.
-/
import Derived.Test.YtdkgkacnjdnpoaaGreatZz
import Derived.Test.YtdkgkacnjdnpoaaGreatExMem
import Derived.Test.YtdkgkacnjdnpoaaGreatTreePlain
import Derived.WalkMore
import Derived.ScopeJumps
import Derived.Deep.QuietTactic
import Derived.BigQuiet
import Derived.Deep.RegionHeld3
import Derived.Deep.DeepCutAuto
set_option maxHeartbeats 1000000
set_option maxRecDepth 100000
namespace Go.Proofs.YtdkgkacnjdnpoaaGreat
open _root_.Go.Proofs.YtdkgkacnjdnpoaaGreat.Nm
structure Tok where
 kind:Int
 text:ByteArray
 n:Int
 line:Int
 col:Int
structure Sc where
 i:Nat
 line:Nat
 col:Nat
def byt (s:ByteArray) (i:Nat):UInt8:=s.data.toList.getD i 0
def stpS (s:ByteArray) (c:Sc):Sc:=bif byt s c.i==10 then ⟨c.i+1,c.line+1,1⟩ else ⟨c.i+1,c.line,c.col+1⟩
def skp (s:ByteArray) (c:Sc):Nat→Sc
 |0=>c
 |n+1=>stpS s (skp s c n)
def isBl (b:UInt8):Bool:=b==32||(b==9||(b==10||b==13))
def blk (s:ByteArray):Nat→Sc→Sc
 |0,c=>c
 |f+1,c=>bif decide (c.i<s.size) && isBl (byt s c.i) then blk s f (stpS s c) else c
def cutB (s:ByteArray) (i n:Nat):ByteArray:=⟨((s.data.toList.drop i).take n).toArray⟩
def runN (p:UInt8→Bool) (s:ByteArray) (i:Nat):Nat:=((s.data.toList.drop i).takeWhile p).length
def numG:Nat→List UInt8→Option Nat
 |n,[]=>some n
 |n,b::l=>bif decide ((9223372036854775807-(b.toNat-48))/10<n) then none else numG (10*n+(b.toNat-48)) l
def numF (l:List UInt8):Option Nat:=bif decide (1<l.length) && l.getD 0 0==48 then none else numG 0 l
def ptwo:List (List UInt8):=[[45,62],[60,62],[60,61],[62,61]]
def pones:List UInt8:=[40,41,44,59,58,61,60,62,43,45,42,47,37]
def sgnF (l:List UInt8):Nat:=bif decide (2≤l.length) && ptwo.contains (l.take 2) then 2 else bif pones.contains (l.getD 0 0) then 1 else 0
def alnum (b:UInt8):Bool:=letterB b.toNat||digitB b.toNat
def nextF (s:ByteArray) (c:Sc):Option (Tok × Sc):=
 bif letterB (byt s c.i).toNat then
  (fun n=>bif decide (n≤20) then some (⟨bif wordB (cutB s c.i n).data.toList then 4 else 1,cutB s c.i n,0,c.line,c.col⟩,skp s c n) else none) (runN alnum s c.i)
 else bif digitB (byt s c.i).toNat then
  (fun n=>(numF (cutB s c.i n).data.toList).map fun N=>(⟨2,cutB s c.i n,N,c.line,c.col⟩,skp s c n)) (runN (fun b=>digitB b.toNat) s c.i)
 else (fun n=>bif n==0 then none else some (⟨3,cutB s c.i n,0,c.line,c.col⟩,skp s c n)) (sgnF (s.data.toList.drop c.i))
def scnF (s:ByteArray):Nat→Sc→Option (List Tok)
 |0,_=>none
 |f+1,c=>(fun d=>bif d.i==s.size then some [⟨5,⟨#[]⟩,0,d.line,d.col⟩] else (nextF s d).bind fun x=>(scnF s f x.2).map (x.1::·)) (blk s s.size c)
def isS (t:Tok) (s:List UInt8):Bool:=(t.kind==3||t.kind==4) && t.text.data.toList==s
section
variable (P:List Tok)
def pwant (s:List UInt8) (i:Nat):Option Nat:=P[i]?.bind fun t=>bif isS t s then some (i+1) else none
def pname (i:Nat):Option (Tok × Nat):=P[i]?.bind fun t=>bif t.kind==1 then some (t,i+1) else none
def pnot (s:List UInt8) (i:Nat):Option Unit:=P[i]?.bind fun t=>bif isS t s then none else some ()
def pkind (i:Nat):Option (Int × Nat):=P[i]?.bind fun t=>bif isS t [105,110,116] then some (1,i+1) else bif isS t [98,111,111,108] then some (2,i+1) else none
def pnames:Nat→Nat→List Tok→Option (List Tok × Nat)
 |0,_,_=>none
 |f+1,i,l=>(pname P i).bind fun x=>bif decide (l.length<8) then P[x.2]?.bind fun u=>bif isS u [44] then pnames f (x.2+1) (l++ [x.1]) else some (l++ [x.1],x.2) else none
def varT (k:Int) (t:Tok):Vr:=⟨t.text,k,[],t.line,t.col⟩
def pgroup (i:Nat):Option (List Vr × Nat):=
 (pnames P 8 i []).bind fun x=>(pwant P [58] x.2).bind fun j=>(pkind P j).bind fun y=>(pnot P [119,104,101,110] y.2).bind fun _=>some (x.1.map (varT y.1),y.2)
def pports (i:Nat):Option (List Vr × Nat):=
 (pwant P [40] i).bind fun i1=>(pgroup P i1).bind fun x=>(pnot P [59] x.2).bind fun _=>(pwant P [41] x.2).bind fun i3=>some (x.1,i3)
def pstr (op:Int):Nat:=
 bif op==27 then 0 else bif op==23 then 1 else bif op==22 then 2 else bif op==24||op==25 then 3 else bif op==19||op==20 then 4 else bif op==18 then 5
 else bif op==12||(op==13||(op==14||(op==15||(op==16||op==17)))) then 6 else bif op==7||op==8 then 7 else bif op==9||(op==10||op==11) then 8
 else bif op==5||(op==6||op==21) then 9 else 10
def popN:List (List UInt8):=[[119,104,101,110],[111,114],[120,111,114],[97,110,100],[45],[42],[47],[37],[61],[60,62],[60],[60,61],[62],[62,61]]
def pinf (t:Tok):Option Int:=bif t.kind==3||t.kind==4 then
  (bif t.text.data.toList==[45,62] then some 23 else bif t.text.data.toList==[102,98,121] then some 22 else bif t.text.data.toList==[43] then some 7 else bif popN.contains t.text.data.toList then none else some 0)
 else some 0
def pneed (op:Int):Nat:=bif op==0 then 0 else bif op==23||op==22 then pstr op+1 else pstr op
def phgt (l:List Nat):Nat:=l.foldl (fun h n=>max h (n+1)) 1
abbrev PExR:=Option (Ex × Nat × Nat)
def pcall (rec:Nat→Nat→Nat→PExR) (level i:Nat):Option (Ex × Nat × Nat):=(pwant P [40] i).bind fun i1=>(rec 0 (level+1) i1).bind fun x=>(pnot P [44] x.2.2).bind fun _=>(pwant P [41] x.2.2).bind fun j=>some (x.1,x.2.1,j)
def pprim (rec:Nat→Nat→Nat→PExR) (level i:Nat):PExR:=P[i]?.bind fun t=>
 bif t.kind==2 then some (⟨1,⟨#[]⟩,t.n,[],t.line,t.col⟩,1,i+1)
 else bif t.kind==1 then P[i+1]?.bind fun u=>
  bif isS u [40] then (pcall P rec level (i+1)).bind fun x=>bif decide (phgt [x.2.1]≤30) then some (⟨4,t.text,0,[x.1],t.line,t.col⟩,phgt [x.2.1],x.2.2) else none
  else some (⟨3,t.text,0,[],t.line,t.col⟩,1,i+1)
 else none
def ppref (rec:Nat→Nat→Nat→PExR) (level i:Nat):Option (Ex × Nat × Nat × Nat):=P[i]?.bind fun t=>
 bif isS t [45]||isS t [110,111,116] then none
 else bif isS t [112,114,101] then (rec 9 (level+1) (i+1)).bind fun x=>bif decide (phgt [x.2.1]≤30) then some (⟨21,⟨#[]⟩,0,[x.1],t.line,t.col⟩,phgt [x.2.1],9,x.2.2) else none
 else (pprim P rec level i).bind fun x=>some (x.1,x.2.1,10,x.2.2)
def pfrom (op:Int):Nat:=bif op==23||op==22 then pstr op else pstr op+1
def ploop (rec:Nat→Nat→Nat→PExR) (least level:Nat):Nat→Ex→Nat→Nat→Nat→PExR
 |0,_,_,_,_=>none
 |f+1,left,h,strong,i=>P[i]?.bind fun t=>(pinf t).bind fun op=>
   bif op==0||(decide (pstr op<least)||decide (strong<pneed op)) then some (left,h,i)
   else (rec (pfrom op) (level+1) (i+1)).bind fun x=>bif decide (phgt [h,x.2.1]≤30) then ploop rec least level f ⟨op,⟨#[]⟩,0,[left,x.1],t.line,t.col⟩ (phgt [h,x.2.1]) (pstr op) x.2.2 else none
def pexpr:Nat→Nat→Nat→Nat→PExR
 |0,_,_,_=>none
 |f+1,least,level,i=>bif decide (level≤64) then P[i]?.bind fun t=>bif least==0 && isS t [105,102] then none else
   (ppref P (pexpr f) level i).bind fun x=>ploop P (pexpr f) least level 40 x.1 x.2.1 x.2.2.1 x.2.2.2
  else none
def peqn (n i:Nat):Option (Eqn × Nat):=(pname P i).bind fun x=>bif n==48 then none else (pwant P [61] x.2).bind fun j=>(pexpr P 40 0 1 j).bind fun y=>(pwant P [59] y.2.2).bind fun k=>
 some (⟨[x.1.text],y.1,x.1.line,x.1.col⟩,k)
def peqns:Nat→Nat→List Eqn→Option (List Eqn × Nat)
 |0,_,_=>none
 |f+1,i,l=>(peqn P l.length i).bind fun x=>P[x.2]?.bind fun u=>bif isS u [116,101,108] then some (l++ [x.1],x.2+1) else peqns f x.2 (l++ [x.1])
def pnode (i:Nat):Option (Nd × Nat):=(pwant P [110,111,100,101] i).bind fun i1=>(pname P i1).bind fun x=>(pports P x.2).bind fun a=>(pwant P [114,101,116,117,114,110,115] a.2).bind fun i2=>
 (pports P i2).bind fun b=>(pwant P [59] b.2).bind fun i3=>(pnot P [118,97,114] i3).bind fun _=>(pwant P [108,101,116] i3).bind fun i4=>(peqns P 49 i4 []).bind fun q=>
 some (⟨x.1.text,a.1,b.1,[],q.1,x.1.line,x.1.col⟩,q.2)
def pnodes:Nat→Nat→List Nd→Option (List Nd)
 |0,_,_=>none
 |f+1,i,l=>bif decide (l.length<16) then (pnode P i).bind fun x=>P[x.2]?.bind fun u=>bif u.kind==5 then some (l++ [x.1]) else pnodes f x.2 (l++ [x.1]) else none
end
def ptext (s:ByteArray):Option (List Nd):=bif decide (s.size≤4000) && !s.data.toList.contains 35 then (scnF s (s.size+1) ⟨0,1,1⟩).bind fun P=>pnodes P 17 0 [] else none
open Go.RowKit _root_.Go.Proofs.YtdkgkacnjdnpoaaGreat.Nm
def mask (o:Nat) (w:World):World:={w with heap:=w.heap.setIfInBounds o (.map #[] 0)}
section
variable {o:Nat} {w w':World}
theorem mask_size:(mask o w).heap.size=w.heap.size:=by simp[mask]
theorem mask_block {k:Nat} (h:k≠o):(mask o w).heap[k]? =w.heap[k]? :=by
 simp only[mask]
 rw[Array.getElem?_setIfInBounds_ne (fun e=>h e.symm)]
theorem mask_cell {p:Addr} {u:Value} (h:(mask o w).cell? p=some u):w.cell? p=some u:=by
 by_cases hp:p.block=o
 ·simp only[World.cell?] at h⊢
  rw[hp] at h⊢
  simp only[mask] at h
  rcases Nat.lt_or_ge o w.heap.size with hl|hl
  ·rw[Array.getElem?_setIfInBounds_self_of_lt hl] at h;cases h
  ·rw[Array.getElem?_eq_none (by simpa using hl)] at h;cases h
 ·rw[←h];exact (World.cell?_of_block (mask_block hp)).symm
theorem mask_of {p:Addr} (hp:p.block≠o):(mask o w).cell? p=w.cell? p:=World.cell?_of_block (mask_block hp)
theorem Upd.bmask (h:Upd (fun x=>x=o) w w'):Below w.heap.size (mask o w) (mask o w'):=by
 refine ⟨h.os,h.tape,h.output,by rw[mask_size,mask_size];exact h.size,fun k hk=>?_⟩
 by_cases hko:k=o
 ·subst hko
  simp only[mask]
  rw[Array.getElem?_setIfInBounds_self_of_lt (Nat.lt_of_lt_of_le hk h.size),Array.getElem?_setIfInBounds_self_of_lt hk]
 ·rw[mask_block hko,mask_block hko];exact h.block k hk hko
theorem Upd.keepm (h:Upd (fun x=>x=o) w w'):Keeps w.heap.size (mask o w) (mask o w'):=keeps_of h.bmask
end
def isTok (x:Tok) (cs:List Value):Prop:=cs=[.int .i64 x.kind,.string x.text,.int .i64 x.n,.int .i64 x.line,.int .i64 x.col]∧x.text.size≤5000∧Wf x.n∧(0≤x.kind∧x.kind≤5)∧(0≤x.line∧x.line≤5000)∧0≤x.col∧x.col≤5000
abbrev tokA (t:Tok):Array Value:= #[.int .i64 t.kind,.string t.text,.int .i64 t.n,.int .i64 t.line,.int .i64 t.col]
abbrev tokV (t:Tok):Value:= .agg (tokA t)
abbrev scA (s:ByteArray) (c:Sc):Array Value:= #[.string s,.int .i64 c.i,.int .i64 c.line,.int .i64 c.col]
structure ScOk (s:ByteArray) (c:Sc):Prop where
 i:c.i≤s.size
 line:c.line≤c.i+1
 col:c.col≤c.i+1
 size:s.size≤4000
structure ScAt (w:World) (o:Nat) (s:ByteArray) (c:Sc):Prop where
 row:Row w o (scA s c) 166
 ok:ScOk s c
def ScL (w:World) (o:Nat) (s:ByteArray) (c:Sc) (w':World):Prop:=ScAt w' o s c∧Upd (fun x=>x=o) w w'
section
variable {o:Nat} {w w':World} {s:ByteArray} {c:Sc}
theorem byt_at {i:Nat} (h:i<s.size):byt s i=s[i]:=by
 unfold byt
 rw[List.getD_eq_getElem?_getD,List.getElem?_eq_getElem (by simpa using h)]
 rfl
theorem stp_ok (h:ScOk s c) (hi:c.i<s.size):ScOk s (stpS s c):=by
 obtain ⟨h1,h2,h3,h4⟩:=h
 unfold stpS
 cases byt s c.i==10<;>exact ⟨by simp;omega,by simp;omega,by simp;try omega,h4⟩
theorem stp_i:(stpS s c).i=c.i+1:=by unfold stpS;cases byt s c.i==10<;>rfl
theorem skp_i (n:Nat):(skp s c n).i=c.i+n:=by
 induction n with
 |zero=>rfl
 |succ n ih=>show (stpS s (skp s c n)).i=_;rw[stp_i,ih];omega
theorem Row.four {t:TypeId} (h:Row w o (scA s c) t):(w.cell? ⟨o,0,none⟩=some (.string s)∧w.cell? ⟨o,1,none⟩=some (.int .i64 c.i)∧w.cell? ⟨o,2,none⟩=some (.int .i64 c.line)∧w.cell? ⟨o,3,none⟩=some (.int .i64 c.col))∧
  (w.frozen? ⟨o,0,none⟩=false∧w.frozen? ⟨o,1,none⟩=false∧w.frozen? ⟨o,2,none⟩=false∧w.frozen? ⟨o,3,none⟩=false):=
 ⟨⟨(h.cell 0).trans rfl,(h.cell 1).trans rfl,(h.cell 2).trans rfl,(h.cell 3).trans rfl⟩,h.frozen 0,h.frozen 1,h.frozen 2,h.frozen 3⟩
end
theorem b8_eq (b:UInt8) (k:UInt8):((b.toNat:Int)==(k.toNat:Int))=(b==k):=by
 rw[Bool.eq_iff_iff,beq_iff_eq,beq_iff_eq]
 constructor
 ·intro e;exact UInt8.toNat_inj.1 (by omega)
 ·rintro rfl;rfl
theorem sc_row1 {w:World} {o:Nat} {s:ByteArray} {d:Sc} {t:TypeId} (h:Row w o (scA s d) t):
  Row ((w.setCell ⟨o,3,none⟩ (.int .i64 (d.col+1))).setCell ⟨o,1,none⟩ (.int .i64 (d.i+1))).drew o (scA s ⟨d.i+1,d.line,d.col+1⟩) t:=by
 have e:((scA s d).setIfInBounds 3 (.int .i64 (d.col+1))).setIfInBounds 1 (.int .i64 (d.i+1))=scA s ⟨d.i+1,d.line,d.col+1⟩:=by simp[scA]
 rw[←e]
 exact ((h.set 3 (.int .i64 (d.col+1))).set 1 (.int .i64 (d.i+1))).drew
theorem sc_row2 {w:World} {o:Nat} {s:ByteArray} {d:Sc} {t:TypeId} (h:Row w o (scA s d) t):
  Row ((((w.setCell ⟨o,2,none⟩ (.int .i64 (d.line+1))).setCell ⟨o,3,none⟩ (.int .i64 0)).setCell ⟨o,3,none⟩ (.int .i64 1)).setCell ⟨o,1,none⟩ (.int .i64 (d.i+1))).drew o (scA s ⟨d.i+1,d.line+1,1⟩) t:=by
 have e:((((scA s d).setIfInBounds 2 (.int .i64 (d.line+1))).setIfInBounds 3 (.int .i64 0)).setIfInBounds 3 (.int .i64 1)).setIfInBounds 1 (.int .i64 (d.i+1))=scA s ⟨d.i+1,d.line+1,1⟩:=by simp[scA]
 rw[←e]
 exact ((((h.set 2 (.int .i64 (d.line+1))).set 3 (.int .i64 0)).set 3 (.int .i64 1)).set 1 (.int .i64 (d.i+1))).drew
theorem skip_any (s:ByteArray) (c:Sc) (n o:Nat) (w:World) (h:ScAt w o s c) (hn:c.i+n≤s.size):
  Calls Tryz.prog 126 #[.pointer (some ⟨o,0,none⟩),.int .i64 n] w fun r w'=>r= .returned (.tuple #[])∧ScL w o s (skp s c n) w':=by
 have H:=Lib.hid h
 have hsz:=h.ok.size
 clear h
 go_enter Tryz.func126,Tryz.ntmps126
 go_wp2_with fail
 go_loopw[5] (fun i wr=>∃k:Nat,k≤n∧i= .int .i64 k∧ScL w o s (skp s c k) wr) (fun i _=>n-(intOf i).toNat)
 case atStart=>exact ⟨0,Nat.zero_le _,rfl,H.out,Upd.refl _ _⟩
 case round=>
  obtain ⟨k,hk,rfl,ha,hu⟩:=hrel
  by_cases hlt:k<n
  ·have hi:(skp s c k).i<s.size:=by rw[skp_i];omega
   have HS:Hid (skp s c (k+1)=stpS s (skp s c k)):=rfl
   generalize skp s c k=d at*
   obtain ⟨⟨q0,q1,q2,q3⟩,z0,z1,z2,z3⟩:=ha.row.four
   obtain ⟨o1,o2,o3,-⟩:=ha.ok
   have HO:=Lib.hid (stp_ok ha.ok hi)
   have HB:Hid (byt s d.i=s[d.i]):=byt_at hi
   have h10:((s[d.i].toNat:Int)==10)=(s[d.i]==10):=b8_eq _ 10
   have HR:=Lib.hid ha.row
   have HU:=Lib.hid hu
   obtain ⟨B,hB⟩:∃B,(s[d.i]==10)=B:=⟨_,rfl⟩
   rw[hB] at h10
   have HBB:=Lib.hid hB
   clear hB ha hu
   cases B
   ·have HE:Hid (stpS s d=⟨d.i+1,d.line,d.col+1⟩):=by show _=_;unfold stpS;rw[HB.out,HBB.out];rfl
    go_wp2_with fail
    go_region
    go_wp2_with fail
    go_roundw
    case rel=>
     refine ⟨k+1,by omega,by go_num,⟨?_,?_⟩,((HU.out.setCell (p:=⟨o,3,none⟩) rfl _).setCell (p:=⟨o,1,none⟩) rfl _).drew⟩
     ·rw[HS.out,HE.out];exact sc_row1 HR.out
     ·rw[HS.out];exact HO.out
    case measure=>first|(simp[intOf];omega)|simp[intOf]
   ·have HE:Hid (stpS s d=⟨d.i+1,d.line+1,1⟩):=by show _=_;unfold stpS;rw[HB.out,HBB.out];rfl
    go_wp2_with fail
    go_region
    go_wp2_with fail
    go_roundw
    case rel=>
     refine ⟨k+1,by omega,by go_num,⟨?_,?_⟩,((((HU.out.setCell (p:=⟨o,2,none⟩) rfl _).setCell (p:=⟨o,3,none⟩) rfl _).setCell (p:=⟨o,3,none⟩) rfl _).setCell (p:=⟨o,1,none⟩) rfl _).drew⟩
     ·rw[HS.out,HE.out];exact sc_row2 HR.out
     ·rw[HS.out];exact HO.out
    case measure=>first|(simp[intOf];omega)|simp[intOf]
  ·obtain rfl:k=n:=by omega
   go_wp2_with fail
   go_end0
   exact ⟨rfl,ha,hu⟩
def noRem (s:ByteArray):Prop:=∀i,byt s i≠35
theorem blk_more {s:ByteArray} {c:Sc} {f:Nat} (h1:c.i<s.size) (h2:isBl (byt s c.i)=true):blk s (f+1) c=blk s f (stpS s c):=by
 show (bif decide (c.i<s.size) && isBl (byt s c.i) then _ else _)=_
 rw[h2,decide_eq_true h1];rfl
theorem blk_end {s:ByteArray} {c:Sc} {f:Nat} (h:c.i<s.size→isBl (byt s c.i)=false):blk s f c=c:=by
 cases f with
 |zero=>rfl
 |succ f=>
  show (bif decide (c.i<s.size) && isBl (byt s c.i) then _ else _)=_
  by_cases hc:c.i<s.size
  ·rw[h hc,Bool.and_false];rfl
  ·rw[decide_eq_false hc];rfl
theorem blanks_any (s:ByteArray) (c:Sc) (o:Nat) (w:World) (h:ScAt w o s c) (hr:noRem s):
  Calls Tryz.prog 82 #[.pointer (some ⟨o,0,none⟩)] w fun r w'=>r= .returned (.tuple #[])∧ScL w o s (blk s s.size c) w':=by
 have H:=Lib.hid h
 have HR:=Lib.hid hr
 clear h hr
 go_enter Tryz.func82,Tryz.ntmps82
 go_wp2_with fail
 go_step3
 go_wp2_with fail
 go_step3
 go_wp2_with fail
 go_loopw[] (fun wr=>∃d:Sc,∃f:Nat,Hid (blk s f d=blk s s.size c)∧Hid (s.size≤d.i+f)∧ScL w o s d wr) (fun wr=>s.size-(intOf ((wr.cell? ⟨o,1,none⟩).getD (.int .i64 0))).toNat)
 case atStart=>exact ⟨c,s.size,rfl,by show _≤_;omega,H.out,Upd.refl _ _⟩
 case round=>
  obtain ⟨d,f,HF,HM,ha,hu⟩:=hrel
  obtain ⟨⟨q0,q1,-,-⟩,-⟩:=ha.row.four
  have HQ:=Lib.hid q1
  have hsz:=ha.ok.size
  have hio:=ha.ok.i
  have HA:=Lib.hid ha
  have HU:=Lib.hid hu
  clear ha hu H
  by_cases hi:d.i<s.size
  ·obtain ⟨g,rfl⟩:∃g,f=g+1:=⟨f-1,by have:=HM.out;omega⟩
   have HB:Hid (byt s d.i=s[d.i]):=byt_at hi
   have h32:((s[d.i].toNat:Int)==32)=(s[d.i]==32):=b8_eq _ 32
   have h9:((s[d.i].toNat:Int)==9)=(s[d.i]==9):=b8_eq _ 9
   have h10:((s[d.i].toNat:Int)==10)=(s[d.i]==10):=b8_eq _ 10
   have h13:((s[d.i].toNat:Int)==13)=(s[d.i]==13):=b8_eq _ 13
   have h35:((s[d.i].toNat:Int)==35)=false:=by
    rw[show ((s[d.i].toNat:Int)==35)=(s[d.i]==35) from b8_eq _ 35,beq_eq_false_iff_ne,←HB.out]
    exact HR.out _
   have HI:Hid (isBl (byt s d.i)=(s[d.i]==32||(s[d.i]==9||(s[d.i]==10||s[d.i]==13)))):=by show _=_;rw[HB.out];rfl
   generalize (s[d.i]==32)=b1 at*
   generalize (s[d.i]==9)=b2 at*
   generalize (s[d.i]==10)=b3 at*
   generalize (s[d.i]==13)=b4 at*
   by_cases hbl:(b1||(b2||(b3||b4)))=true
   ·have HL:=Lib.hid (blk_more (f:=g) hi (HI.out.trans hbl))
    have HK:Hid (∀w1:World,w1=wr.drew∨w1=wr.drew.drew→Calls Tryz.prog 126 #[.pointer (some ⟨o,0,none⟩),.int .i64 1] w1 fun r w'=>r= .returned (.tuple #[])∧ScL w o s (stpS s d) w'):=fun w1 h1=>by
     refine (skip_any s d 1 o w1 ?_ (by omega)).mono ?_
     ·rcases h1 with rfl|rfl<;>exact ⟨HA.out.row,HA.out.ok⟩
     ·rintro r w2 ⟨rfl,ha2,hu2⟩
      refine ⟨rfl,ha2,Upd.trans ?_ hu2⟩
      rcases h1 with rfl|rfl
      ·exact HU.out.drew
      ·exact HU.out.drew.drew
    have HJ:Hid (∀w2:World,ScAt w2 o s (stpS s d)→s.size-(intOf ((w2.cell? ⟨o,1,none⟩).getD (.int .i64 0))).toNat<s.size-(intOf ((wr.cell? ⟨o,1,none⟩).getD (.int .i64 0))).toNat):=fun w2 h2=>by
     rw[HQ.out,h2.row.four.1.2.1]
     simp only[Option.getD_some,intOf,stp_i]
     omega
    have h4:b1=true∨(b1=false∧b2=true)∨(b1=false∧b2=false∧b3=true)∨(b1=false∧b2=false∧b3=false∧b4=true):=by
     revert hbl;cases b1<;>cases b2<;>cases b3<;>cases b4<;>decide
    clear hbl HQ HI
    rcases h4 with rfl|⟨rfl,rfl⟩|⟨rfl,rfl,rfl⟩|⟨rfl,rfl,rfl,rfl⟩
    all_goals
     go_wp2_with fail
     go_region
     go_wp2_with fail
     go_region
     go_wp2_with fail
     refine (HK.out _ (by first|exact Or.inl rfl|exact Or.inr rfl)).mono ?_
     rintro r w2 ⟨rfl,hl2⟩
     go_wp2_with fail
     go_roundw
     case rel=>exact ⟨_,g,HL.out.symm.trans HF.out,by show _≤_;rw[stp_i];have:=HM.out;omega,hl2⟩
     case measure=>exact HJ.out _ hl2.1
   ·have h4:b1=false∧b2=false∧b3=false∧b4=false:=by
     revert hbl;cases b1<;>cases b2<;>cases b3<;>cases b4<;>decide
    obtain ⟨rfl,rfl,rfl,rfl⟩:=h4
    have HE:Hid (d=blk s s.size c):=by
     show _=_
     rw[←HF.out,blk_end (fun _=>HI.out)]
    clear hbl HQ HI
    go_wp2_with fail
    go_region
    go_wp2_with fail
    go_region
    go_wp2_with fail
    show Exit.noGoto _ Exit.normal _ _
    simp only[Exit.noGoto]
    go_end0
    rw[←HE.out]
    exact ⟨rfl,⟨HA.out.row,HA.out.ok⟩,HU.out.drew.drew⟩
  ·have HE:Hid (d=blk s s.size c):=by
    show _=_
    rw[←HF.out,blk_end (fun h=>absurd h hi)]
   clear HQ
   go_wp2_with fail
   go_region
   go_wp2_with fail
   simp only[Exit.noGoto]
   go_end0
   rw[←HE.out]
   exact ⟨rfl,⟨HA.out.row,HA.out.ok⟩,HU.out.drew⟩
theorem run_len {p:UInt8→Bool}:∀{l:List UInt8} {n:Nat},(∀j,j<n→∃c,l[j]? =some c∧p c=true)→(∀c,l[n]? =some c→p c=false)→(l.takeWhile p).length=n
 | [],0,_,_=>rfl
 | [],n+1,h,_=>by obtain ⟨c,hc,_⟩:=h 0 (by omega);cases hc
 |b::l,0,_,h=>by rw[List.takeWhile_cons,h b rfl];rfl
 |b::l,n+1,h,h'=>by
  obtain ⟨c,hc,hp⟩:=h 0 (by omega)
  simp at hc;subst hc
  rw[List.takeWhile_cons,hp]
  simp only[if_true,List.length_cons]
  rw[run_len (n:=n) (fun j hj=>by simpa using h (j+1) (by omega)) (fun c hc=>h' c (by simpa using hc))]
theorem byt_get {s:ByteArray} {i:Nat} (h:i<s.size):s.data.toList[i]? =some (byt s i):=by
 rw[byt_at h,List.getElem?_eq_getElem (by simpa using h)];rfl
theorem runN_is {p:UInt8→Bool} {s:ByteArray} {i n:Nat} (h:∀j,j<n→i+j<s.size∧p (byt s (i+j))=true) (h':i+n<s.size→p (byt s (i+n))=false):runN p s i=n:=by
 unfold runN
 refine run_len (fun j hj=>⟨byt s (i+j),by rw[List.getElem?_drop];exact byt_get (h j hj).1,(h j hj).2⟩) (fun c hc=>?_)
 rw[List.getElem?_drop] at hc
 have hl:i+n<s.size:=by have:=(List.getElem?_eq_some_iff.1 hc).1;simpa using this
 rw[byt_get hl] at hc
 cases hc
 exact h' hl
theorem run_any (F:FuncId) (p:UInt8→Bool) (s:ByteArray) (c:Sc) (o:Nat) (w:World) (h:ScAt w o s c)
  (hF:∀args w,(callFunc F args).run Tryz.prog w= .ok (.enter F args) w)
  (hp:∀(b:UInt8) (W:World),Calls Tryz.prog F #[.int .u8 b.toNat] W fun r W'=>r= .returned (.bool (p b))∧W=W'):
  Calls Tryz.prog 128 #[.pointer (some ⟨o,0,none⟩),.func (.func F) #[] #[]] w fun r w'=>r= .returned (.int .i64 (runN p s c.i))∧Below w.heap.size w w':=by
 obtain ⟨⟨q0,q1,-,-⟩,-⟩:=h.row.four
 have hsz:=h.ok.size
 have hio:=h.ok.i
 have HP:=Lib.hid hp
 have HFF:=Lib.hid hF
 clear h hp hF
 go_enter Tryz.func128,Tryz.ntmps128
 go_wp2_with fail
 go_loopw[5] (fun v wr=>∃n:Nat,v= .int .i64 n∧c.i+n≤s.size∧Below w.heap.size w wr∧wr.cell? ⟨o,0,none⟩=some (.string s)∧wr.cell? ⟨o,1,none⟩=some (.int .i64 c.i)∧Hid (∀j,j<n→c.i+j<s.size∧p (byt s (c.i+j))=true)) (fun i _=>s.size-(intOf i).toNat)
 case atStart=>exact ⟨0,rfl,by omega,Below.refl _ _,q0,q1,fun j h=>absurd h (by omega)⟩
 case round=>
  clear q0 q1
  obtain ⟨n,rfl,hn,hb,q0,q1,HN⟩:=hrel
  by_cases hlt:c.i+n<s.size
  ·have hF':=HFF.out
   have HPB:=Lib.hid (HP.out (byt s (c.i+n)))
   obtain ⟨m,HM⟩:∃m,Hid (m=c.i+n):=⟨_,rfl⟩
   have hm:(c.i:Int)+n=(m:Int):=by rw[HM.out];omega
   rw[←HM.out] at hlt HPB
   have HB:Hid (byt s m=s[m]):=byt_at hlt
   rw[HB.out] at HPB
   have hl1:decide ((m:Int)<s.size)=true:=decide_eq_true (by omega)
   have hwm:IntKind.i64.wrap (m:Int)=(m:Int):=IntWalk.i64_in _ (by omega)
   obtain ⟨B,hB⟩:∃B,p s[m]=B:=⟨_,rfl⟩
   rw[hB] at HPB
   have HV:=Lib.hid hB
   clear hB
   go_wp2_with fail
   refine wp_region_held_drew (S:=fun W=>W.cell? ⟨o,0,none⟩=some (.string s)∧W.cell? ⟨o,1,none⟩=some (.int .i64 c.i)) (by kernel_rfl) ?_ (fun hHeld=>?_)
   ·(try dsimp only);(first|exact ⟨q0,q1⟩|exact hHeld)
   refine' zq90
   refine tk 11 (some 17) rfl ?_
   refine tk 12 (some 18) rfl ?_
   refine tk 13 (some 19) rfl ?_
   refine tk 14 (some 20) rfl ?_
   refine tk 15 (some 21) rfl ?_
   refine tk 16 (some 22) rfl ?_
   refine tk 17 (some 23) rfl ?_
   refine tk 18 (some 24) rfl ?_
   refine tk 19 (some 25) rfl ?_
   refine tk 20 (some 26) rfl ?_
   refine tk 21 (some 27) rfl ?_
   refine tk 22 (some 28) rfl ?_
   refine tk 23 (some 29) rfl ?_
   refine tk 24 (some 30) rfl ?_
   refine rd1 25 (some 31) rfl (fun KK hKK=>?_)
   go_simp
   refine (HPB.out _).mono ?_;rintro e w' ⟨rfl,rfl⟩
   (try go_wp2_with fail)
   refine hKK.out _ _ ?_ (fun hHeld=>?_)
   ·(try dsimp only);(first|exact ⟨q0,q1⟩|exact hHeld)
   clear hKK KK
   refine' zq1
   refine tk 26 (some 32) rfl ?_
   refine wpAnyH_done (by kernel_rfl) ?_ _
   cases B
   ·have HF:Hid (runN p s c.i=n):=runN_is HN.out (fun _=>by rw[←HM.out,HB.out,HV.out])
    go_wp2_with fail
    go_ret
    exact ⟨ret_int (congrArg Nat.cast HF.out.symm),bE⟩
   ·go_wp2_with fail
    go_roundw
    case rel=>exact ⟨n+1,by go_num,by have:=HM.out;omega,bE,q0,q1,upto_succ HN.out ⟨by have:=HM.out;omega,by rw[←HM.out,HB.out,HV.out]⟩⟩
    case measure=>simp[intOf];have:=HM.out;omega
  ·have hl1:decide (((c.i:Int)+n)<s.size)=false:=decide_eq_false (by omega)
   have HF:Hid (runN p s c.i=n):=runN_is HN.out (fun h=>absurd h hlt)
   go_wp2_with fail
   go_quiet (fail)
   go_wp2_with fail
   go_ret
   exact ⟨ret_int (congrArg Nat.cast HF.out.symm),below_drewN' hb _⟩
theorem alnum_any (b:UInt8) (w:World):Calls Tryz.prog 129 #[.int .u8 b.toNat] w fun r w'=>r= .returned (.bool (alnum b))∧w=w':=by
 have HE:Hid (alnum b=(letterB b.toNat||digitB b.toNat)):=rfl
 go_enter Tryz.func129,Tryz.ntmps129
 go_wp2_with fail
 refine (letter_any b _).mono ?_
 rintro e w' ⟨rfl,rfl⟩
 generalize letterB b.toNat=L at*
 cases L
 ·go_wp2_with fail
  refine (digit_any b _).mono ?_
  rintro e w' ⟨rfl,rfl⟩
  go_wp2_with fail
  go_ret
  exact ⟨ret_bool HE.out.symm,rfl⟩
 ·go_wp2_with fail
  go_ret
  exact ⟨ret_bool HE.out.symm,rfl⟩
def digs (s:ByteArray):Prop:=∀i,i<s.size→digitB (byt s i).toNat=true
theorem numG_le:∀{l:List UInt8} {n m:Nat},numG n l=some m→n≤9223372036854775807→(∀b∈l,b.toNat-48≤9)→m≤9223372036854775807
 | [],n,m,h,hn,_=>by cases h;exact hn
 |b::l,n,m,h,hn,hb=>by
  unfold numG at h
  by_cases hc:(9223372036854775807-(b.toNat-48))/10<n
  ·rw[decide_eq_true hc] at h;cases h
  ·rw[decide_eq_false hc] at h
   have hd:=hb b (by simp)
   exact numG_le h (by omega) (fun x hx=>hb x (by simp[hx]))
theorem drop_at {s:ByteArray} {k:Nat} (h:k<s.size):s.data.toList.drop k=byt s k::s.data.toList.drop (k+1):=by
 rw[List.drop_eq_getElem_cons (by simpa using h)]
 congr 1
 have:=byt_get h
 rw[List.getElem?_eq_getElem (by simpa using h)] at this
 exact Option.some.inj this
theorem dig_le {b:UInt8} (h:digitB b.toNat=true):48≤b.toNat∧b.toNat≤57:=by
 simpa[digitB] using h
theorem number_any (s:ByteArray) (N:Nat) (w:World) (hs:s.size≤4000) (hd:digs s) (hN:numF s.data.toList=some N):
  Calls Tryz.prog 132 #[.string s] w fun r w'=>r= .returned (.tuple #[.int .i64 N,.bool true])∧w=w':=by
 have HD:=Lib.hid hd
 have hz:(decide (1<s.size) && byt s 0==48)=false:=by
  cases hc:(decide (1<s.size) && byt s 0==48) with
  |false=>rfl
  |true=>
   unfold numF at hN
   rw[show (decide (1<s.data.toList.length) && s.data.toList.getD 0 0==48)=(decide (1<s.size) && byt s 0==48) from by simp[byt],hc] at hN
   cases hN
 have HG:Hid (numG 0 s.data.toList=some N):=by
  unfold numF at hN
  rw[show (decide (1<s.data.toList.length) && s.data.toList.getD 0 0==48)=(decide (1<s.size) && byt s 0==48) from by simp[byt],hz] at hN
  exact hN
 have HM:Hid (N≤9223372036854775807):=numG_le HG.out (by omega) (fun b hb=>by
  obtain ⟨i,hi⟩:=List.getElem?_of_mem hb
  have hl:i<s.size:=by have:=(List.getElem?_eq_some_iff.1 hi).1;simpa using this
  have:=dig_le (hd i hl)
  rw[byt_get hl] at hi;cases hi
  omega)
 have HZ:=Lib.hid hz
 clear hd hN hz
 have H48:Hid (∀h:1<s.size,((s[0].toNat:Int)==48)=false):=fun h=>by
  rw[show ((s[0].toNat:Int)==48)=(s[0]==48) from b8_eq _ 48]
  have:=HZ.out
  rw[decide_eq_true h,Bool.true_and,byt_at (by omega)] at this
  exact this
 go_enter Tryz.func132,Tryz.ntmps132
 rcases Nat.lt_or_ge 1 s.size with h1|h1
 case' inl=>have h48:=H48.out h1
 all_goals
  go_wp2_with fail
  go_loopw[4,17] (fun v i wr=>∃k m:Nat,k≤s.size∧v= .int .i64 m∧i= .int .i64 k∧Hid (numG m (s.data.toList.drop k)=some N)∧w=wr) (fun _ i _=>s.size-(intOf i).toNat)
  case atStart=>exact ⟨0,0,Nat.zero_le _,rfl,rfl,by show _=_;rw[List.drop_zero];exact HG.out,rfl⟩
  case round=>
   obtain ⟨k,m,hk,rfl,rfl,HN,rfl⟩:=hrel
   by_cases hlt:k<s.size
   ·have hb:=dig_le (HD.out k hlt)
    have HB:Hid (byt s k=s[k]):=byt_at hlt
    rw[HB.out] at hb
    obtain ⟨d,HDD⟩:∃d:Nat,Hid (d=s[k].toNat-48):=⟨_,Lib.hid rfl⟩
    have hd9:d≤9:=by rw[HDD.out];omega
    have hd:(s[k].toNat:Int)-48=(d:Int):=by rw[HDD.out];omega
    have HN2:=HN.out
    rw[drop_at hlt,numG,HB.out,←HDD.out] at HN2
    by_cases hc:(9223372036854775807-d)/10<m
    ·rw[decide_eq_true hc] at HN2;cases HN2
    rw[decide_eq_false hc] at HN2
    have HN3:Hid (numG (10*m+d) (s.data.toList.drop (k+1))=some N):=HN2
    have hq:decide ((9223372036854775807-(d:Int)).tdiv 10<(m:Int))=false:=decide_eq_false (by
     rw[Int.tdiv_eq_ediv_of_nonneg (by omega)];omega)
    clear HN2 HN
    go_wp2_with fail
    go_roundw
    case rel=>exact ⟨k+1,10*m+d,by omega,by go_num,by go_num,HN3,trivial⟩
    case measure=>simp[intOf];omega
   ·obtain rfl:k=s.size:=by omega
    have HF:Hid (m=N):=by
     have:=HN.out
     rw[List.drop_eq_nil_of_le (by simp)] at this
     exact Option.some.inj this
    go_wp2_with fail
    go_ret2
    exact ⟨by rw[HF.out];rfl,rfl⟩
theorem take_two {s:ByteArray}:(s.extract 0 2).toList=s.data.toList.take 2:=by rw[ByteArray.toList_eq];simp[ByteArray.data_extract]
theorem sgn_eq {s:ByteArray} (h:0<s.size):sgnF s.data.toList=bif decide ((2:Int)≤(s.size:Int)) && (((s.extract 0 2).toList==[45,62])||(((s.extract 0 2).toList==[60,62])||(((s.extract 0 2).toList==[60,61])||((s.extract 0 2).toList==[62,61])))) then 2 else bif (((s[0].toNat:Int)==40)||(((s[0].toNat:Int)==41)||(((s[0].toNat:Int)==44)||(((s[0].toNat:Int)==59)||(((s[0].toNat:Int)==58)||(((s[0].toNat:Int)==61)||(((s[0].toNat:Int)==60)||(((s[0].toNat:Int)==62)||(((s[0].toNat:Int)==43)||(((s[0].toNat:Int)==45)||(((s[0].toNat:Int)==42)||(((s[0].toNat:Int)==47)||((s[0].toNat:Int)==37))))))))))))) then 1 else 0:=by
 unfold sgnF
 rw[show s.data.toList.getD 0 0=s[0] from byt_at h,take_two,show decide ((2:Int)≤(s.size:Int))=decide (2≤s.data.toList.length) from by rw[Bool.eq_iff_iff,decide_eq_true_iff,decide_eq_true_iff];simp;omega]
 have e:∀k:UInt8,((s[0].toNat:Int)==(k.toNat:Int))=(s[0]==k):=fun k=>b8_eq _ k
 rw[show ((s[0].toNat:Int)==40)=(s[0]==40) from e 40]
 rw[show ((s[0].toNat:Int)==41)=(s[0]==41) from e 41]
 rw[show ((s[0].toNat:Int)==44)=(s[0]==44) from e 44]
 rw[show ((s[0].toNat:Int)==59)=(s[0]==59) from e 59]
 rw[show ((s[0].toNat:Int)==58)=(s[0]==58) from e 58]
 rw[show ((s[0].toNat:Int)==61)=(s[0]==61) from e 61]
 rw[show ((s[0].toNat:Int)==60)=(s[0]==60) from e 60]
 rw[show ((s[0].toNat:Int)==62)=(s[0]==62) from e 62]
 rw[show ((s[0].toNat:Int)==43)=(s[0]==43) from e 43]
 rw[show ((s[0].toNat:Int)==45)=(s[0]==45) from e 45]
 rw[show ((s[0].toNat:Int)==42)=(s[0]==42) from e 42]
 rw[show ((s[0].toNat:Int)==47)=(s[0]==47) from e 47]
 rw[show ((s[0].toNat:Int)==37)=(s[0]==37) from e 37]
 simp only[ptwo,pones,List.contains_cons,List.contains_nil,Bool.or_false]
theorem tsign_any (s:ByteArray) (w:World) (hs:s.size≤4000) (h0:0<s.size):
  Calls Tryz.prog 133 #[.string s] w fun r w'=>r= .returned (.int .i64 (sgnF s.data.toList))∧w=w':=by
 have HS:=Lib.hid (sgn_eq h0)
 by_cases h2:2≤s.size
 case' pos=>have hd:decide ((2:Int)≤(s.size:Int))=true:=decide_eq_true (by omega)
 case' neg=>have hd:decide ((2:Int)≤(s.size:Int))=false:=decide_eq_false (by omega)
 all_goals
  go_enter Tryz.func133,Tryz.ntmps133
  go_wp2
 all_goals
  go_ret
  refine ⟨ret_int ?_,rfl⟩
  rw[HS.out]
  first
   |(simp only[*,Bool.true_and,Bool.false_and,Bool.true_or,Bool.false_or,Bool.or_true,cond_true,cond_false];rfl)
   |(exfalso;simp_all;done)
end Go.Proofs.YtdkgkacnjdnpoaaGreat
