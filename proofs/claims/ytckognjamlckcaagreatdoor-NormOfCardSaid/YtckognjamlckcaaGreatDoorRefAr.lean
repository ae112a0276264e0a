/-
  Several texts in one: BitsZ, RefBits, RefArith, RefArithB, RefArithC, Win, RefDiv, RefOps.
-/
import Derived.Test.YtckognjamlckcaaGreatDoorZz
import Derived.Test.YtckognjamlckcaaGreatDoorLookA
import Derived.Test.YtckognjamlckcaaGreatDoorMem
import Derived.ArgAppend
import Derived.Deep.RegionLaw
set_option maxHeartbeats 4000000
set_option maxRecDepth 100000
namespace Go.Proofs.YtckognjamlckcaaGreatDoor.Bz
open Go.RowKit Ar Z
def half (n:Int):Nat→Int
 |0=>n
 |k+1=>half n k/2
theorem half_in {n:Int} (h:In n) (k:Nat):In (half n k):=by
 induction k with
 |zero=>exact h
 |succ k ih=>unfold In at*;simp only[half];omega
def bitZ (n:Int) (k:Nat):Int:=half n k % 2
theorem bit_01 (n:Int) (k:Nat):bitZ n k=0∨bitZ n k=1:=by unfold bitZ;omega
def bitsTo (n:Int) (k:Nat):List Int:=(List.range k).map (bitZ n)
theorem bitsTo_len (n:Int) (k:Nat):(bitsTo n k).length=k:=by simp[bitsTo]
theorem bitsTo_succ (n:Int) (k:Nat):bitsTo n (k+1)=bitsTo n k++ [bitZ n k]:=by simp[bitsTo,List.range_succ]
def Is01 (l:List Int):Prop:=∀x∈l,x=0∨x=1
theorem is01_bits (n:Int) (k:Nat):Is01 (bitsTo n k):=by
 intro x hx
 simp only[bitsTo,List.mem_map] at hx
 obtain ⟨j,_,rfl⟩:=hx
 exact bit_01 n j
theorem is01_nil:Is01 []:=fun _ h=>by cases h
theorem is01_snoc {l:List Int} {x:Int} (h:Is01 l) (hx:x=0∨x=1):Is01 (l++ [x]):=by
 intro y hy
 rcases List.mem_append.1 hy with hy|hy
 ·exact h y hy
 ·rw[List.mem_singleton.1 hy];exact hx
theorem is01_get {l:List Int} {j:Nat} {x:Int} (h:Is01 l) (hx:l[j]? =some x):x=0∨x=1:=h x (List.mem_of_getElem? hx)
def uval:List Int→Int
 | []=>0
 |x::l=>x+2*uval l
def pow2:Nat→Int
 |0=>1
 |k+1=>2*pow2 k
theorem pow2_pos (k:Nat):0<pow2 k:=by
 induction k with
 |zero=>decide
 |succ k ih=>simp only[pow2];omega
theorem uval_snoc (l:List Int) (x:Int):uval (l++ [x])=uval l+x*pow2 l.length:=by
 induction l with
 |nil=>simp[uval,pow2]
 |cons y l ih=>
  simp only[List.cons_append,uval,ih,List.length_cons,pow2]
  rw[Int.mul_add,←Int.mul_assoc,Int.mul_comm 2 x,Int.mul_assoc];omega
theorem uval_bound {l:List Int} (h:Is01 l):0≤uval l∧uval l<pow2 l.length:=by
 induction l with
 |nil=>simp[uval,pow2]
 |cons y l ih=>
  have:=ih (fun x hx=>h x (List.mem_cons_of_mem _ hx))
  have hy:=h y (by simp)
  simp only[uval,List.length_cons,pow2];omega
theorem uval_bits (n:Int) (k:Nat):n=uval (bitsTo n k)+half n k*pow2 k:=by
 induction k with
 |zero=>simp[bitsTo,uval,half,pow2]
 |succ k ih=>
  rw[bitsTo_succ,uval_snoc,bitsTo_len]
  simp only[half,bitZ,pow2]
  have e:half n k=half n k % 2+2*(half n k/2):=by omega
  have e2:half n k*pow2 k=(half n k % 2)*pow2 k+half n k/2*(2*pow2 k):=by
   rw[←Int.mul_assoc,←Int.add_mul]
   congr 1;omega
  omega
theorem wrap_add_mul (a b:Int):wrap64 (a+b*18446744073709551616)=wrap64 a:=by
 unfold wrap64;omega
theorem pow2_64:pow2 64=18446744073709551616:=by decide+kernel
end Go.Proofs.YtckognjamlckcaaGreatDoor.Bz
namespace Go.Proofs.YtckognjamlckcaaGreatDoor
open Go.RowKit Ar Z Bz
theorem half_step {n:Int}:n.tdiv 2=(if n<0 then (n+1)/2 else n/2):=by
 split
 ·rename_i h
  have e:n= -(-n):=by omega
  rw[e,Int.neg_tdiv,Int.tdiv_eq_ediv_of_nonneg (by omega)];omega
 ·rename_i h;exact Int.tdiv_eq_ediv_of_nonneg (by omega)
theorem tmod2 {n:Int}:n.tmod 2=(if n<0 then-((-n) % 2) else n % 2):=by
 split
 ·rename_i h
  have e:n= -(-n):=by omega
  rw[e,Int.neg_tmod,Int.tmod_eq_emod_of_nonneg (by omega)];omega
 ·rename_i h;exact Int.tmod_eq_emod_of_nonneg (by omega)
theorem bit_any (n k:Int) (w:World) (hn:In n) (h0:0≤k) (h1:k≤1000):
  Calls Tryz.prog 135 #[.int .i64 n,.int .i64 k] w fun e w'=>e= .returned (.int .i64 (bitZ n k.toNat))∧w=w':=by
 obtain ⟨K,rfl⟩:=Int.eq_ofNat_of_zero_le h0
 rw[Int.toNat_natCast]
 go_enter Tryz.func135,Tryz.ntmps135
 go_wp2
 go_loop[0,5] (fun t i=>∃j:Nat,j≤K∧i= .int .i64 j∧t= .int .i64 (half n j)) (fun _ i=>K-(intOf i).toNat)
 case atStart=>exact ⟨0,Nat.zero_le _,rfl,rfl⟩
 case round=>
  obtain ⟨j,hj,rfl,rfl⟩:=hrel
  have hi:=half_in hn j
  have HS:=Lib.hid (show half n (j+1)=half n j/2 from rfl)
  have HB:=Lib.hid (show bitZ n j=half n j % 2 from rfl)
  generalize half n j=m at*
  clear hn
  unfold In at hi
  by_cases hlt:j<K
  ·by_cases hm:m<0
   ·have hm':decide (m<0)=true:=by simp[hm]
    by_cases ho:m % 2=0
    ·have q:(m.tmod 2 !=0)=false:=by rw[tmod2];simp[hm];omega
     have HO:=Lib.hid ho
     clear ho
     go_wp2
     go_round
     case rel=>exact ⟨j+1,by omega,by go_num,by rw[HS.out,half_step,if_pos hm];have:=HO.out;congr 1;omega⟩
     case measure=>simp[intOf];omega
    ·have q:(m.tmod 2 !=0)=true:=by rw[tmod2];simp[hm];omega
     go_wp2
     go_round
     case rel=>exact ⟨j+1,by omega,by go_num,by rw[HS.out,half_step,if_pos (by omega)];congr 1;omega⟩
     case measure=>simp[intOf];omega
   ·have hm':decide (m<0)=false:=by simp[hm]
    go_wp2
    go_round
    case rel=>exact ⟨j+1,by omega,by go_num,by rw[HS.out]⟩
    case measure=>simp[intOf];omega
  ·obtain rfl:j=K:=by omega
   by_cases ho:m % 2=0
   ·have q:(m.tmod 2==0)=true:=by rw[tmod2];simp;omega
    have HO:=Lib.hid ho
    clear ho
    go_wp2
    go_ret
    exact ⟨ret_int (by rw[HB.out,HO.out]),rfl⟩
   ·have q:(m.tmod 2==0)=false:=by rw[tmod2];simp;omega
    go_wp2
    go_ret
    exact ⟨ret_int (by rw[HB.out];omega),rfl⟩
theorem bits_any (n:Int) (w:World) (hn:In n):
  Calls Tryz.prog 129 #[.int .i64 n] w fun e w'=>∃v,e= .returned v∧w'.ownsRow w.heap.size 3 1 v 64 (ints (bitsTo n 64))∧Below w.heap.size w w':=by
 refine' zq122
 go_enter Tryz.func129,Tryz.ntmps129
 go_wp2_with fail
 go_loopw[3,4] (fun v i wr=>∃k:Nat,k≤64∧i= .int .i64 k∧wr.ownsRow w.heap.size 3 1 v k (ints (bitsTo n k))∧Below w.heap.size w wr) (fun _ i _=>64-(intOf i).toNat)
 case atStart=>exact ⟨0,Nat.zero_le _,rfl,World.ownsRow_nil _ _ _ _,Below.refl _ _⟩
 case round=>
  obtain ⟨k,hk,rfl,hown,hbel⟩:=hrel
  by_cases hlt:k<64
  ·have HS:=Lib.hid (bitsTo_succ n k)
   have hsz:=hbel.size
   go_wp2_with (first
    |(go_at_call 135;refine (bit_any _ _ _ hn (by omega) (by omega)).mono ?_;rintro e w' ⟨rfl,rfl⟩)
    |(at_builtin;refine wpList_append_own _ rfl _ _ 26 rfl w.heap.size 3 i0 (.int .i64 0) 1 8 Tryz.underlying26 hi0 hz0 hz1 hz2 rfl (by decide) _ _ _ rfl (hown.alloc _) ⟨wr.heap.size,0,none⟩ 1 1 [.int .i64 (bitZ n k)] rfl rfl ?c1 ?c2 ?c3 ?c4 ?c5 ?_))
   case c1=>exact cell_one _ _ _
   case c2=>simp[Value.oneCell']
   case c3=>unfold maxLen;omega
   case c4=>omega
   case c5=>simp;omega
   intro v' w1 hown' hgrow _
   have hb1:Below w.heap.size w w1:=below_own (hbel.alloc hsz _) (hown.alloc _) hgrow (by simp;omega)
   have ho1:w1.ownsRow w.heap.size 3 1 v' (k+1) (ints (bitsTo n (k+1))):=by rw[HS.out,ints_snoc];exact hown'
   clear hown hbel hown' hgrow
   go_wp2_with fail
   go_roundw
   case rel=>exact ⟨k+1,by omega,by go_num,ho1,hb1⟩
   case measure=>simp[intOf];omega
  ·obtain rfl:k=64:=by omega
   go_wp2_with fail
   go_ret
   exact ⟨_,rfl,hown,hbel⟩
def hiB (l:List Int) (j:Nat):Int:=uval ((l.take 63).drop j)
theorem hi_step {l:List Int} {j:Nat} {x:Int} (hj:j<63) (h:l[j]? =some x):hiB l j=x+2*hiB l (j+1):=by
 have hl:j<l.length:=(List.getElem?_eq_some_iff.1 h).1
 have hx:l[j]=x:=(List.getElem?_eq_some_iff.1 h).2
 unfold hiB
 rw[List.drop_eq_getElem_cons (by simp;omega)]
 simp only[uval,List.getElem_take,hx]
theorem hi_bound {l:List Int} (h:Is01 l) (j:Nat):0≤hiB l j∧hiB l j<9223372036854775808:=by
 have h1:Is01 ((l.take 63).drop j):=fun x hx=>h x (List.mem_of_mem_take (List.mem_of_mem_drop hx))
 have:=uval_bound h1
 have h2:((l.take 63).drop j).length≤63:=by simp;omega
 have h3:∀k,k≤63→pow2 k≤9223372036854775808:=by decide+kernel
 have:=h3 _ h2
 unfold hiB;omega
theorem hi_end (l:List Int):hiB l 63=0:=by
 unfold hiB;rw[List.drop_of_length_le (by simp;omega)];rfl
theorem uval_63 {l:List Int} {x:Int} (hl:l.length=64) (h:l[63]? =some x):uval l=hiB l 0+x*9223372036854775808:=by
 have e:l=l.take 63++ [x]:=by
  have h1:l.take 64=l:=List.take_of_length_le (by omega)
  conv=>lhs;rw[←h1]
  rw[List.take_add_one,h];rfl
 have e2:=uval_snoc (l.take 63) x
 rw[←e] at e2
 have e3:(l.take 63).length=63:=by simp;omega
 rw[e2,e3];unfold hiB;rw[List.drop_zero]
 rfl
theorem number_any (A:Option Addr) (c B:Nat) (l:List Int) (w:World) (hr:Rd w B 1 A 64 (ints l)) (h01:Is01 l):
  Calls Tryz.prog 130 #[.slice A 64 c] w fun e w'=>e= .returned (.int .i64 (wrap64 (uval l)))∧w=w':=by
 have hlen:l.length=64:=by have:=hr.1;rw[ints_len] at this;omega
 obtain ⟨ad,u63,rfl,hadB,hx63,hc63⟩:=hr.at1 (k:=63) (by omega)
 obtain ⟨x63,hl63,rfl⟩:=ints_get hx63
 have HU:=Lib.hid (uval_63 hlen hl63)
 have h63:=is01_get h01 hl63
 have HE:=Lib.hid (hi_end l)
 have hb0:=hi_bound h01 0
 have HL:=Lib.hid hlen
 have hc63':w.cell? ⟨ad.block,ad.off+63,none⟩=some (.int .i64 x63):=by simpa[Addr.add] using hc63
 clear hlen hx63 hl63 hc63
 go_enter Tryz.func130,Tryz.ntmps130
 go_wp2_with fail
 go_loop[3,4] (fun t i=>∃j:Nat,j≤63∧i= .int .i64 ((j:Int)-1)∧t= .int .i64 (hiB l j)) (fun _ i=>(intOf i+1).toNat)
 case atStart=>exact ⟨63,by omega,by rfl,by rw[HE.out]⟩
 case round=>
  obtain ⟨j,hj,rfl,rfl⟩:=hrel
  by_cases hlt:1≤j
  ·obtain ⟨m,rfl⟩:∃m,j=m+1:=⟨j-1,by omega⟩
   obtain ⟨ad',u,e,_,hx,hc⟩:=hr.at1 (k:=m) (by omega)
   obtain rfl:ad=ad':=by injection e
   obtain ⟨x,hl,rfl⟩:=ints_get hx
   have h01x:=is01_get h01 hl
   have HS:=Lib.hid (hi_step (by omega) hl)
   have hb:=hi_bound h01 (m+1)
   have hb':=hi_bound h01 m
   have hs1:x+2*hiB l (m+1)≤hiB l m:=by rw[HS.out];omega
   clear hl hx e
   have hi1:((m+1:Nat):Int)-1=m:=by omega
   rw[hi1]
   clear hi1
   go_wp2_with fail
   go_round
   case rel=>exact ⟨m,by omega,by go_num,by rw[HS.out,Int.add_comm]⟩
   case measure=>simp[intOf]
  ·obtain rfl:j=0:=by omega
   rw[show ((0:Nat):Int)-1= -1 from rfl]
   rcases h63 with rfl|rfl
   ·go_wp2_with fail
    go_ret
    exact ⟨ret_int (by rw[HU.out,wrap_in (by omega)];omega),rfl⟩
   ·go_wp2_with fail
    go_ret
    exact ⟨ret_int (by rw[HU.out];unfold wrap64;omega),rfl⟩
def carry (x y:List Int):Nat→Int
 |0=>0
 |k+1=>(x.getD k 0+y.getD k 0+carry x y k)/2
def sumTo (x y:List Int) (k:Nat):List Int:=(List.range k).map fun j=>(x.getD j 0+y.getD j 0+carry x y j) % 2
theorem sumTo_succ (x y:List Int) (k:Nat):sumTo x y (k+1)=sumTo x y k++ [(x.getD k 0+y.getD k 0+carry x y k) % 2]:=by simp[sumTo,List.range_succ]
theorem getD_01 {l:List Int} (h:Is01 l) (k:Nat):0≤l.getD k 0∧l.getD k 0≤1:=by
 by_cases hk:k<l.length
 ·have:=h (l.getD k 0) (by simp[List.getD,hk])
  omega
 ·simp[List.getD,hk]
theorem carry_01 {x y:List Int} (hx:Is01 x) (hy:Is01 y) (k:Nat):0≤carry x y k∧carry x y k≤1:=by
 induction k with
 |zero=>simp[carry]
 |succ k ih=>
  have h1:=getD_01 hx k
  have h2:=getD_01 hy k
  simp only[carry];omega
theorem is01_sum (x y:List Int) (k:Nat):Is01 (sumTo x y k):=by
 intro z hz
 simp only[sumTo,List.mem_map] at hz
 obtain ⟨j,_,rfl⟩:=hz
 omega
theorem uval_take {l:List Int} {k:Nat} (hk:k<l.length):uval (l.take (k+1))=uval (l.take k)+l.getD k 0*pow2 k:=by
 rw[List.take_add_one,List.getElem?_eq_getElem hk]
 simp only[Option.toList]
 rw[uval_snoc,List.length_take,Nat.min_eq_left (by omega)]
 simp[List.getD,hk]
theorem sum_inv (x y:List Int) (k:Nat) (hx:k≤x.length) (hy:k≤y.length):uval (sumTo x y k)+carry x y k*pow2 k=uval (x.take k)+uval (y.take k):=by
 induction k with
 |zero=>simp[sumTo,uval,carry]
 |succ k ih=>
  have ih:=ih (by omega) (by omega)
  rw[sumTo_succ,uval_snoc,uval_take (by omega),uval_take (by omega)]
  have e:(sumTo x y k).length=k:=by simp[sumTo]
  rw[e]
  generalize hs:x.getD k 0+y.getD k 0+carry x y k=s
  have hc:carry x y (k+1)=s/2:=by simp only[carry,hs]
  rw[hc]
  simp only[pow2]
  have e2:s % 2*pow2 k+s/2*(2*pow2 k)=s*pow2 k:=by
   rw[←Int.mul_assoc,←Int.add_mul];congr 1;omega
  have e3:s*pow2 k=x.getD k 0*pow2 k+y.getD k 0*pow2 k+carry x y k*pow2 k:=by rw[←hs,Int.add_mul,Int.add_mul]
  omega
theorem add_bits (a b:Int):wrap64 (uval (sumTo (bitsTo a 64) (bitsTo b 64) 64))=addZ a b:=by
 have h:=sum_inv (bitsTo a 64) (bitsTo b 64) 64 (by rw[bitsTo_len];omega) (by rw[bitsTo_len];omega)
 rw[List.take_of_length_le (by rw[bitsTo_len];omega),List.take_of_length_le (by rw[bitsTo_len];omega),pow2_64] at h
 have ha:=uval_bits a 64
 have hb:=uval_bits b 64
 rw[pow2_64] at ha hb
 unfold addZ
 generalize uval (bitsTo a 64)=ua at*
 generalize uval (bitsTo b 64)=ub at*
 generalize half a 64=p at*
 generalize half b 64=q at*
 generalize carry (bitsTo a 64) (bitsTo b 64) 64=c at*
 generalize uval (sumTo (bitsTo a 64) (bitsTo b 64) 64)=s at*
 unfold wrap64;omega
theorem radd_any (a b:Int) (w:World) (ha:In a) (hb:In b):
  Calls Tryz.prog 123 #[.int .i64 a,.int .i64 b] w fun e w'=>e= .returned (.int .i64 (addZ a b))∧Below w.heap.size w w':=by
 refine' zq122
 have HF:=Lib.hid (add_bits a b)
 have hx01:=is01_bits a 64
 have hy01:=is01_bits b 64
 have hs01:=is01_sum (bitsTo a 64) (bitsTo b 64) 64
 go_enter Tryz.func123,Tryz.ntmps123
 go_wp2_with fail
 refine (bits_any a _ ha).mono ?_
 rintro e w1 ⟨v1,rfl,ho1,hb1⟩
 obtain ⟨A1,c1,rfl,hc1,hm1,hr1⟩:=own_rd ho1
 go_wp2_with fail
 refine (bits_any b _ hb).mono ?_
 refine' zq314
 generalize hX:bitsTo a 64=X at*
 generalize hY:bitsTo b 64=Y at*
 clear hX hY ho1 ho2 hr1 hb1 hb2 ha hb hm1 hm2
 have hsz:=hb12.size
 go_wp2_with fail
 go_loopw[7,8,9] (fun v t i wr=>∃k:Nat,k≤64∧i= .int .i64 k∧t= .int .i64 (carry X Y k)∧wr.ownsRow w2.heap.size 3 1 v k (ints (sumTo X Y k))∧Below w2.heap.size w2 wr) (fun _ _ i _=>64-(intOf i).toNat)
 case atStart=>exact ⟨0,Nat.zero_le _,rfl,rfl,World.ownsRow_nil _ _ _ _,Below.refl _ _⟩
 case round=>
  obtain ⟨k,hk,rfl,rfl,hown,hbel⟩:=hrel
  have hc01:=carry_01 hx01 hy01 k
  by_cases hlt:k<64
  ·have HS:=Lib.hid (sumTo_succ X Y k)
   have HC:=Lib.hid (show carry X Y (k+1)=(X.getD k 0+Y.getD k 0+carry X Y k)/2 from rfl)
   obtain ⟨ad1,u1,rfl,hB1,hx1,hcell1⟩:=(hr1'.below hbel).at1 hlt
   obtain ⟨x1,hl1,rfl⟩:=ints_get hx1
   obtain ⟨ad2,u2,rfl,hB2,hx2,hcell2⟩:=(hr2.below hbel).at1 hlt
   obtain ⟨x2,hl2,rfl⟩:=ints_get hx2
   have g1:=is01_get hx01 hl1
   have g2:=is01_get hy01 hl2
   have e1:X.getD k 0=x1:=by simp[List.getD,hl1]
   have e2:Y.getD k 0=x2:=by simp[List.getD,hl2]
   rw[e1,e2] at HS HC
   have hsz2:=hbel.size
   clear hx1 hx2 hl1 hl2 e1 e2
   generalize carry X Y k=cc at*
   go_wp2_with fail
   have W1:IntKind.i64.wrap (x1+x2)=x1+x2:=IntWalk.i64_in _ (by omega)
   have W2:IntKind.i64.wrap (x1+x2+cc)=x1+x2+cc:=IntWalk.i64_in _ (by omega)
   have W3:0≤(k:Int):=by omega
   go_quiet (fail)
   clear W1 W2
   have hown1:=hown.drewN nq
   go_wp2_with (at_builtin;refine wpList_append_own _ rfl _ _ 26 rfl w2.heap.size 3 i0 (.int .i64 0) 1 8 Tryz.underlying26 hi0 hz0 hz1 hz2 rfl (by decide) _ _ _ rfl (hown1.alloc _) ⟨wr.heap.size,0,none⟩ 1 1 [.int .i64 ((x1+x2+cc) % 2)] rfl rfl ?c1 ?c2 ?c3 ?c4 ?c5 ?_)
   case c1=>exact cell_one _ _ _
   case c2=>simp[Value.oneCell']
   case c3=>unfold maxLen;omega
   case c4=>omega
   case c5=>simp;omega
   intro v' w3 hown' hgrow _
   have hb3:Below w2.heap.size w2 w3:=below_own ((below_drewN' hbel nq).alloc hsz2 _) (hown1.alloc _) hgrow (by simp;omega)
   have ho3:w3.ownsRow w2.heap.size 3 1 v' (k+1) (ints (sumTo X Y (k+1))):=by rw[HS.out,ints_snoc];exact hown'
   clear hown hbel hown' hgrow hown1
   go_wp2_with fail
   go_roundw
   case rel=>exact ⟨k+1,by omega,by go_num,by rw[HC.out],ho3,hb3⟩
   case measure=>simp[intOf];omega
  ·refine' zq317
   go_ret
   exact ⟨ret_int HF.out,hb12.trans (hbel.mono hsz)⟩
def flipTo (x:List Int) (k:Nat):List Int:=(x.take k).map fun t=>1-t
theorem flip_succ {x:List Int} {k:Nat} {t:Int} (h:x[k]? =some t):flipTo x (k+1)=flipTo x k++ [1-t]:=by
 unfold flipTo;rw[List.take_add_one,h];simp
theorem is01_flip {x:List Int} (h:Is01 x) (k:Nat):Is01 (flipTo x k):=by
 intro z hz
 simp only[flipTo,List.mem_map] at hz
 obtain ⟨t,ht,rfl⟩:=hz
 have:=h t (List.mem_of_mem_take ht)
 omega
theorem uval_flip (x:List Int):uval (x.map fun t=>1-t)+uval x=pow2 x.length-1:=by
 induction x with
 |nil=>simp[uval,pow2]
 |cons y x ih=>simp only[List.map_cons,uval,List.length_cons,pow2];omega
theorem neg_bits (a:Int):addZ (wrap64 (uval (flipTo (bitsTo a 64) 64))) 1=negZ a:=by
 have h:=uval_flip (bitsTo a 64)
 have e:flipTo (bitsTo a 64) 64=(bitsTo a 64).map fun t=>1-t:=by
  unfold flipTo;rw[List.take_of_length_le (by rw[bitsTo_len];omega)]
 rw[←e,bitsTo_len,pow2_64] at h
 have ha:=uval_bits a 64
 rw[pow2_64] at ha
 unfold addZ negZ
 generalize uval (bitsTo a 64)=ua at*
 generalize half a 64=p at*
 generalize uval (flipTo (bitsTo a 64) 64)=s at*
 unfold wrap64;omega
theorem rneg_any (a:Int) (w:World) (ha:In a):
  Calls Tryz.prog 121 #[.int .i64 a] w fun e w'=>e= .returned (.int .i64 (negZ a))∧Below w.heap.size w w':=by
 refine' zq122
 have HF:=Lib.hid (neg_bits a)
 have hx01:=is01_bits a 64
 have hs01:=is01_flip hx01 64
 go_enter Tryz.func121,Tryz.ntmps121
 go_wp2_with fail
 refine (bits_any a _ ha).mono ?_
 rintro e w2 ⟨v1,rfl,ho1,hb12⟩
 obtain ⟨A1,c1,rfl,hc1,hm1,hr1⟩:=own_rd ho1
 generalize hX:bitsTo a 64=X at*
 clear hX ho1 hm1 ha
 have hsz:=hb12.size
 go_wp2_with fail
 go_loopw[4,5] (fun v i wr=>∃k:Nat,k≤64∧i= .int .i64 k∧wr.ownsRow w2.heap.size 3 1 v k (ints (flipTo X k))∧Below w2.heap.size w2 wr) (fun _ i _=>64-(intOf i).toNat)
 case atStart=>exact ⟨0,Nat.zero_le _,rfl,World.ownsRow_nil _ _ _ _,Below.refl _ _⟩
 case round=>
  obtain ⟨k,hk,rfl,hown,hbel⟩:=hrel
  by_cases hlt:k<64
  ·obtain ⟨ad1,u1,rfl,hB1,hx1,hcell1⟩:=(hr1.below hbel).at1 hlt
   obtain ⟨x1,hl1,rfl⟩:=ints_get hx1
   have g1:=is01_get hx01 hl1
   have HS:=Lib.hid (flip_succ hl1)
   have hsz2:=hbel.size
   clear hx1 hl1
   go_wp2_with (at_builtin;refine wpList_append_own _ rfl _ _ 26 rfl w2.heap.size 3 i0 (.int .i64 0) 1 8 Tryz.underlying26 hi0 hz0 hz1 hz2 rfl (by decide) _ _ _ rfl (hown.alloc _) ⟨wr.heap.size,0,none⟩ 1 1 [.int .i64 (1-x1)] rfl rfl ?c1 ?c2 ?c3 ?c4 ?c5 ?_)
   case c1=>exact cell_one _ _ _
   case c2=>simp[Value.oneCell']
   case c3=>unfold maxLen;omega
   case c4=>omega
   case c5=>simp;omega
   refine' zq261
   have ho3:w3.ownsRow w2.heap.size 3 1 v' (k+1) (ints (flipTo X (k+1))):=by rw[HS.out,ints_snoc];exact hown'
   clear hown hbel hown' hgrow
   go_wp2_with fail
   go_roundw
   case rel=>exact ⟨k+1,by omega,by go_num,ho3,hb3⟩
   case measure=>simp[intOf];omega
  ·refine' zq317
   refine (radd_any _ 1 _ (wrap_lo _) (by unfold In;omega)).mono ?_
   rintro e w3 ⟨rfl,hb3⟩
   go_wp2_with fail
   go_ret
   exact ⟨ret_int HF.out,hb12.trans ((hbel.mono hsz).trans (hb3.mono (by have:=hbel.size;omega)))⟩
theorem mul_step (a u p:Int):addZ (wrap64 (a*u)) (wrap64 (a*p))=wrap64 (a*(u+p)):=by
 simp only[addZ,wrap_bmod,Int.bmod_add_bmod,Int.add_bmod_bmod,Int.mul_add]
theorem mul_end (a b:Int):wrap64 (a*uval (bitsTo b 64))=mulZ a b:=by
 have hb:=uval_bits b 64
 rw[pow2_64] at hb
 unfold mulZ
 have e:a*b=a*uval (bitsTo b 64)+(a*half b 64)*18446744073709551616:=by
  conv=>lhs;rw[hb]
  rw[Int.mul_add,Int.mul_assoc]
 rw[e,wrap_add_mul]
theorem pow_dbl (k:Nat):pow2 (k+1)=pow2 k+pow2 k:=by simp only[pow2];omega
theorem rmul_any (a b:Int) (w:World) (ha:In a) (hb:In b):
  Calls Tryz.prog 124 #[.int .i64 a,.int .i64 b] w fun e w'=>e= .returned (.int .i64 (mulZ a b))∧Below w.heap.size w w':=by
 have HF:=Lib.hid (mul_end a b)
 have hx01:=is01_bits b 64
 have hlen:=bitsTo_len b 64
 go_enter Tryz.func124,Tryz.ntmps124
 go_wp2_with fail
 refine (bits_any b _ hb).mono ?_
 rintro e w2 ⟨v1,rfl,ho1,hb12⟩
 obtain ⟨A1,c1,rfl,hc1,hm1,hr1⟩:=own_rd ho1
 generalize hX:bitsTo b 64=X at*
 have HL:=Lib.hid hlen
 clear hX ho1 hm1 hb hlen
 have hsz:=hb12.size
 go_wp2_with fail
 go_loopw[0,6,7] (fun t s i wr=>∃k:Nat,k≤64∧i= .int .i64 k∧t= .int .i64 (wrap64 (a*pow2 k))∧s= .int .i64 (wrap64 (a*uval (X.take k)))∧Below w2.heap.size w2 wr) (fun _ _ i _=>64-(intOf i).toNat)
 case atStart=>exact ⟨0,Nat.zero_le _,rfl,by simp only[pow2,Int.mul_one];rw[wrap_in ha],by simp only[List.take_zero,uval,Int.mul_zero];rw[wrap_in (by omega)],Below.refl _ _⟩
 case round=>
  obtain ⟨k,hk,rfl,rfl,rfl,hbel⟩:=hrel
  by_cases hlt:k<64
  ·obtain ⟨ad1,u1,rfl,hB1,hx1,hcell1⟩:=(hr1.below hbel).at1 hlt
   obtain ⟨x1,hl1,rfl⟩:=ints_get hx1
   have g1:=is01_get hx01 hl1
   have hu:uval (X.take (k+1))=uval (X.take k)+x1*pow2 k:=by
    rw[uval_take (by rw[HL.out];exact hlt)];simp[List.getD,hl1]
   have HS:=Lib.hid hu
   have HD:=Lib.hid (mul_step a (pow2 k) (pow2 k))
   have HM:=Lib.hid (mul_step a (uval (X.take k)) (pow2 k))
   have HP:=Lib.hid (pow_dbl k)
   have hsz2:=hbel.size
   have hin:=wrap_lo (a*pow2 k)
   have hin2:=wrap_lo (a*uval (X.take k))
   clear hx1 hl1 hu
   generalize wrap64 (a*pow2 k)=P at*
   generalize hU:wrap64 (a*uval (X.take k))=U at*
   have HU:=Lib.hid hU
   clear hU
   rcases g1 with rfl|rfl
   ·go_wp2_with fail
    refine (radd_any P P _ hin hin).mono ?_
    rintro e w3 ⟨rfl,hb3⟩
    go_wp2_with fail
    go_roundw
    case rel=>exact ⟨k+1,by omega,by go_num,by rw[HD.out,←HP.out],by rw[HS.out,Int.zero_mul,Int.add_zero,HU.out],hbel.trans (hb3.mono hsz2)⟩
    case measure=>simp[intOf];omega
   ·go_wp2_with fail
    refine (radd_any U P _ hin2 hin).mono ?_
    rintro e w3 ⟨rfl,hb3⟩
    go_wp2_with fail
    refine (radd_any P P _ hin hin).mono ?_
    rintro e w4 ⟨rfl,hb4⟩
    go_wp2_with fail
    go_roundw
    case rel=>exact ⟨k+1,by omega,by go_num,by rw[HD.out,←HP.out],by rw[HM.out,HS.out,Int.one_mul],hbel.trans ((hb3.trans (hb4.mono hb3.size)).mono hsz2)⟩
    case measure=>simp[intOf];omega
  ·obtain rfl:k=64:=by omega
   go_wp2_with fail
   go_ret
   exact ⟨ret_int (by rw[←HF.out,List.take_of_length_le (by rw[HL.out];omega)]),hb12.trans (hbel.mono hsz)⟩
def hval:List Int→Int
 | []=>0
 |x::l=>x*pow2 l.length+hval l
theorem hval_snoc (l:List Int) (x:Int):hval (l++ [x])=2*hval l+x:=by
 induction l with
 |nil=>simp[hval,pow2]
 |cons y l ih=>
  simp only[List.cons_append,hval,ih,List.length_append,List.length_cons,List.length_nil]
  simp only[pow2]
  rw[Int.mul_add,←Int.mul_assoc,Int.mul_comm y 2,Int.mul_assoc];omega
theorem hval_bound {l:List Int} (h:Is01 l):0≤hval l∧hval l<pow2 l.length:=by
 induction l with
 |nil=>simp[hval,pow2]
 |cons y l ih=>
  have:=ih (fun x hx=>h x (List.mem_cons_of_mem _ hx))
  have hp:=pow2_pos l.length
  rcases h y (by simp) with rfl|rfl
  ·simp only[hval,List.length_cons,pow2,Int.zero_mul];omega
  ·simp only[hval,List.length_cons,pow2,Int.one_mul];omega
theorem hval_reverse (l:List Int):hval l.reverse=uval l:=by
 induction l with
 |nil=>rfl
 |cons y l ih=>simp only[List.reverse_cons,hval_snoc,ih,uval];omega
def highL (a:Int):List Int:=0::(bitsTo (if a<0 then negZ a else a) 64).reverse
theorem highL_len (a:Int):(highL a).length=65:=by simp[highL,bitsTo_len]
theorem is01_high (a:Int):Is01 (highL a):=by
 intro x hx
 rcases List.mem_cons.1 hx with rfl|hx
 ·exact .inl rfl
 ·exact is01_bits _ _ x (List.mem_reverse.1 hx)
theorem hval_high {a:Int} (h:In a):hval (highL a)=a.natAbs:=by
 unfold highL
 simp only[hval,Int.zero_mul,Int.zero_add,hval_reverse]
 have hb:=uval_bound (is01_bits (if a<0 then negZ a else a) 64)
 rw[bitsTo_len,pow2_64] at hb
 have e:=uval_bits (if a<0 then negZ a else a) 64
 rw[pow2_64] at e
 generalize uval (bitsTo (if a<0 then negZ a else a) 64)=u at*
 generalize half (if a<0 then negZ a else a) 64=q at*
 unfold In at h
 by_cases hn:a<0
 ·rw[if_pos hn] at e
  unfold negZ wrap64 at e;omega
 ·rw[if_neg hn] at e;omega
theorem rev_drop {X:List Int} {m:Nat} {x:Int} (h:X[m]? =some x):0::(X.drop m).reverse=(0::(X.drop (m+1)).reverse)++ [x]:=by
 have hl:m<X.length:=(List.getElem?_eq_some_iff.1 h).1
 have hx:X[m]=x:=(List.getElem?_eq_some_iff.1 h).2
 rw[List.drop_eq_getElem_cons hl,hx];simp
theorem high_any (a:Int) (w:World) (ha:In a):
  Calls Tryz.prog 131 #[.int .i64 a] w fun e w'=>∃v,e= .returned v∧w'.ownsRow w.heap.size 3 1 v 65 (ints (highL a))∧Below w.heap.size w w':=by
 refine' zq122
 have HF:=Lib.hid (show highL a=0::(bitsTo (if a<0 then negZ a else a) 64).reverse from rfl)
 have HW:∀(b:Int) (w1:World),In b→Below w.heap.size w w1→(if a<0 then negZ a else a)=b→Calls Tryz.prog 129 #[.int .i64 b] w1 fun e w'=>∃v,e= .returned v∧w'.ownsRow w1.heap.size 3 1 v 64 (ints (bitsTo b 64))∧Below w1.heap.size w1 w'∧Below w.heap.size w w'∧highL a=0::(bitsTo b 64).reverse:=
  fun b w1 hb h1 e=>(bits_any b w1 hb).mono fun _ _ ⟨v,h,ho,hbb⟩=>⟨v,h,ho,hbb,h1.trans (hbb.mono h1.size),by rw[HF.out,e]⟩
 have HW':=Lib.hid HW
 clear HW HF
 by_cases hn:a<0
 ·go_enter Tryz.func131,Tryz.ntmps131
  go_wp2_with fail
  refine (rneg_any a _ ha).mono ?_
  rintro e w1 ⟨rfl,hb1⟩
  go_wp2_with fail
  refine (HW'.out (negZ a) w1 (in_neg a) hb1 (if_pos hn)).mono ?_
  generalize negZ a=b
  rintro e w2 ⟨v1,rfl,ho1,hb12,hb2,hF⟩
  obtain ⟨A1,c1,rfl,hc1,hm1,hr1⟩:=own_rd ho1
  have HF:=Lib.hid hF
  have hlen:=bitsTo_len b 64
  generalize bitsTo b 64=X at*
  have HL:=Lib.hid hlen
  clear ho1 hm1 ha hF hlen hb12 hb1 hn HW'
  refine' zq34
 ·go_enter Tryz.func131,Tryz.ntmps131
  go_wp2_with fail
  refine (HW'.out a w ha (Below.refl _ _) (if_neg (by omega))).mono ?_
  generalize hab:bitsTo a 64=X0
  rintro e w2 ⟨v1,rfl,ho1,hb12,hb2,hF⟩
  obtain ⟨A1,c1,rfl,hc1,hm1,hr1⟩:=own_rd ho1
  subst hab
  have HF:=Lib.hid hF
  have hlen:=bitsTo_len a 64
  generalize bitsTo a 64=X at*
  have HL:=Lib.hid hlen
  clear ho1 hm1 ha hF hlen hb12 hn HW'
  refine' zq34
def lessB:List Int→List Int→Bool
 |x::l,y::r=>if x=y then lessB l r else decide (x<y)
 |_,_=>false
theorem less_hval {x y:List Int} (hx:Is01 x) (hy:Is01 y) (hl:x.length=y.length):lessB x y=decide (hval x<hval y):=by
 induction x generalizing y with
 |nil=>
  match y,hl with
  | [],_=>rfl
 |cons a x ih=>
  match y,hl with
  |b::y,hl=>
   have hl':x.length=y.length:=by simpa using hl
   have ih:=ih (y:=y) (fun z hz=>hx z (List.mem_cons_of_mem _ hz)) (fun z hz=>hy z (List.mem_cons_of_mem _ hz)) hl'
   have b1:=hval_bound (l:=x) (fun z hz=>hx z (List.mem_cons_of_mem _ hz))
   have b2:=hval_bound (l:=y) (fun z hz=>hy z (List.mem_cons_of_mem _ hz))
   simp only[lessB,hval,ih,hl'] at*
   rcases hx a (by simp) with rfl|rfl<;>rcases hy b (by simp) with rfl|rfl<;>simp<;>omega
theorem less_drop_eq {x y:List Int} {k:Nat} {a b:Int} (hx:x[k]? =some a) (hy:y[k]? =some b):lessB (x.drop k) (y.drop k)=if a=b then lessB (x.drop (k+1)) (y.drop (k+1)) else decide (a<b):=by
 refine' zq326
theorem less_any (A1 A2:Option Addr) (c1 c2 B:Nat) (X Y:List Int) (w:World) (h1:Rd w B 1 A1 65 (ints X)) (h2:Rd w B 1 A2 65 (ints Y)):
  Calls Tryz.prog 132 #[.slice A1 65 c1,.slice A2 65 c2] w fun e w'=>e= .returned (.bool (lessB X Y))∧Below w.heap.size w w':=by
 have hl1:X.length=65:=by have:=h1.1;rw[ints_len] at this;omega
 have HL:=Lib.hid hl1
 clear hl1
 go_enter Tryz.func132,Tryz.ntmps132
 go_wp2_with fail
 go_loopw[5] (fun i wr=>∃k q:Nat,k≤65∧i= .int .i64 k∧lessB X Y=lessB (X.drop k) (Y.drop k)∧wr=w.drewN q) (fun i _=>65-(intOf i).toNat)
 case atStart=>exact ⟨0,0,Nat.zero_le _,rfl,rfl,rfl⟩
 case round=>
  obtain ⟨k,q,hk,rfl,hE,rfl⟩:=hrel
  by_cases hlt:k<65
  ·obtain ⟨ad1,u1,rfl,hB1,hx1,hcell1⟩:=h1.at1 hlt
   obtain ⟨x1,hl1,rfl⟩:=ints_get hx1
   obtain ⟨ad2,u2,rfl,hB2,hx2,hcell2⟩:=h2.at1 hlt
   obtain ⟨x2,hl2,rfl⟩:=ints_get hx2
   have hE2:=hE.trans (less_drop_eq hl1 hl2)
   have W3:0≤(k:Int):=by omega
   clear hE hl1 hl2 hx1 hx2
   by_cases he:x1=x2
   ·subst he
    rw[if_pos rfl] at hE2
    have HE:=Lib.hid hE2
    clear hE2
    refine' zq220
    go_roundw
    case rel=>exact ⟨k+1,_,by omega,by go_num,HE.out,rfl⟩
    case measure=>simp[intOf];omega
   ·rw[if_neg he] at hE2
    have HE:=Lib.hid hE2
    have hne:(x1 !=x2)=true:=by simp[he]
    clear hE2 he
    refine' zq220
    go_quiet (fail)
    go_wp2_with fail
    go_ret
    exact ⟨ret_bool HE.out.symm,below_drewN' (below_drewN' (below_drewN' (Below.refl _ _) _) _) _⟩
  ·obtain rfl:k=65:=by omega
   have HE:=Lib.hid hE
   clear hE
   go_wp2_with fail
   go_ret
   refine ⟨ret_bool ?_,below_drewN' (Below.refl _ _) _⟩
   rw[HE.out,List.drop_of_length_le (l:=X) (by rw[HL.out];omega)]
   rfl
def subL:List Int→List Int→Int × List Int
 |x::l,y::r=>let p:=subL l r;if x-y-p.1<0 then (1,(x-y-p.1+2)::p.2) else (0,(x-y-p.1)::p.2)
 |_,_=>(0,[])
theorem subL_fst (x y:List Int):(subL x y).1=0∨(subL x y).1=1:=by
 match x,y with
 |a::x,b::y=>simp only[subL];split<;>simp
 | [],_=>exact .inl (by simp[subL])
 |_::_,[]=>exact .inl (by simp[subL])
theorem subL_spec {x y:List Int} (hx:Is01 x) (hy:Is01 y) (hl:x.length=y.length):(subL x y).2.length=x.length∧Is01 (subL x y).2∧hval (subL x y).2=hval x-hval y+(subL x y).1*pow2 x.length:=by
 induction x generalizing y with
 |nil=>
  match y,hl with
  | [],_=>exact ⟨rfl,is01_nil,rfl⟩
 |cons a x ih=>
  match y,hl with
  |b::y,hl=>
   have hl':x.length=y.length:=by simpa using hl
   obtain ⟨i1,i2,i3⟩:=ih (y:=y) (fun z hz=>hx z (List.mem_cons_of_mem _ hz)) (fun z hz=>hy z (List.mem_cons_of_mem _ hz)) hl'
   have hf:=subL_fst x y
   have ha:=hx a (by simp)
   have hb:=hy b (by simp)
   simp only[subL]
   generalize hs:(subL x y).1=s at*
   generalize ht:(subL x y).2=t at*
   have hv:∀n:Int,(n=0∨n=1)→Is01 (n::t):=fun n hn z hz=>by
    rcases List.mem_cons.1 hz with rfl|hz
    ·exact hn
    ·exact i2 z hz
   have e1:(a-b-s)*pow2 x.length=a*pow2 x.length-b*pow2 x.length-s*pow2 x.length:=by rw[Int.sub_mul,Int.sub_mul]
   rw[hl'] at e1 i1 i3
   split
   ·refine ⟨by simp[i1,hl'],hv _ (by omega),?_⟩
    simp only[hval,i1,List.length_cons,pow2,Int.one_mul,Int.add_mul,hl']
    omega
   ·refine ⟨by simp[i1,hl'],hv _ (by omega),?_⟩
    simp only[hval,i1,List.length_cons,Int.zero_mul,hl']
    omega
theorem sub_ge {x y:List Int} (hx:Is01 x) (hy:Is01 y) (hl:x.length=y.length) (hge:hval y≤hval x):hval (subL x y).2=hval x-hval y:=by
 obtain ⟨h1,h2,h3⟩:=subL_spec hx hy hl
 have hb:=hval_bound h2
 have hbx:=hval_bound hx
 rw[h1] at hb
 rcases subL_fst x y with h|h
 ·rw[h] at h3;omega
 ·rw[h] at h3;omega
theorem sub_step {X Y:List Int} {m:Nat} {a b:Int} (hx:X[m]? =some a) (hy:Y[m]? =some b):
  subL (X.drop m) (Y.drop m)=(if a-b-(subL (X.drop (m+1)) (Y.drop (m+1))).1<0 then (1,(a-b-(subL (X.drop (m+1)) (Y.drop (m+1))).1+2)::(subL (X.drop (m+1)) (Y.drop (m+1))).2) else (0,(a-b-(subL (X.drop (m+1)) (Y.drop (m+1))).1)::(subL (X.drop (m+1)) (Y.drop (m+1))).2)):=by
 refine' zq326
theorem set_mid {X t:List Int} {m:Nat} (v:Int) (h:m<X.length):(ints (X.take (m+1)++t)).set m (.int .i64 v)=ints (X.take m++v::t):=by
 have e:X.take (m+1)=X.take m++ [X[m]]:=by rw[List.take_add_one,List.getElem?_eq_getElem h];rfl
 have hl:(X.take m).length=m:=by simp;omega
 unfold ints
 rw[e,List.append_assoc]
 simp only[List.map_append,List.map_cons,List.singleton_append]
 rw[List.set_append_right _ _ (by simp;omega)]
 simp[Nat.min_eq_left (Nat.le_of_lt h)]
theorem take_any (A1 A2:Option Addr) (c1 c2:Nat) (X Y:List Int) (w:World) (hx01:Is01 X) (hy01:Is01 Y) (h1:Rd w w.heap.size 1 A1 65 (ints X)) (h2:Rd w w.heap.size 1 A2 65 (ints Y)):
  Calls Tryz.prog 133 #[.slice A1 65 c1,.slice A2 65 c2] w fun e w'=>∃v,e= .returned v∧w'.ownsRow w.heap.size 3 1 v 65 (ints (subL X Y).2)∧Below w.heap.size w w':=by
 refine' zq122
 have hl1:X.length=65:=by have:=h1.1;rw[ints_len] at this;omega
 have hl2:Y.length=65:=by have:=h2.1;rw[ints_len] at this;omega
 have HL:=Lib.hid hl1
 have HL2:=Lib.hid hl2
 obtain ⟨ad1,e1,hadB,hcs⟩:=h1.2 (by omega)
 subst e1
 clear hl1 hl2
 go_enter Tryz.func133,Tryz.ntmps133
 have HC:=Lib.hid hcs
 clear hcs
 go_wp2_with (at_builtin;refine wpList_append_own _ rfl _ _ 26 rfl w.heap.size 3 i0 (.int .i64 0) 1 8 Tryz.underlying26 hi0 hz0 hz1 hz2 rfl (by decide) _ _ _ rfl (World.ownsRow_lit w #[] 0 (Nat.le_refl _) (by unfold maxLen;omega) rfl) ad1 65 c1 (ints X) rfl ?c0 ?c1 ?c2 ?c3 ?c4 ?c5 ?_)
 case c0=>rw[ints_len,HL.out]
 case c1=>intro j u hu;rw[World.cell?_alloc_lt _ _ _ (by rw[add_block];exact hadB)];exact HC.out j u hu
 case c2=>intro u hu;simp only[ints,List.mem_map] at hu;obtain ⟨x,_,rfl⟩:=hu;rfl
 case c3=>unfold maxLen;omega
 case c4=>omega
 case c5=>simp
 intro v' w2 hown' hgrow _
 have hb2:Below w.heap.size w w2:=below_own (e:=3) (size:=1) ((Below.refl _ _).alloc (Nat.le_refl _) _) (World.ownsRow_lit w #[] 0 (Nat.le_refl _) (by unfold maxLen;omega) rfl) hgrow (by simp)
 have hown:w2.ownsRow w.heap.size 3 1 v' 65 (ints X):=hown'
 clear hown' hgrow
 obtain ⟨g,cap,rfl,hgb,hgl⟩:∃g cap,v'= .slice (some ⟨g,0,none⟩) 65 cap∧w.heap.size≤g∧65≤cap:=by
  rcases hown.2 with ⟨_,h0⟩|⟨g,cap,cur,h,hg,_,hc,_⟩
  ·omega
  ·exact ⟨g,cap,h,hg,hc⟩
 go_wp2_with fail
 go_loopw[6,7] (fun b i wr=>∃j:Nat,j≤65∧i= .int .i64 ((j:Int)-1)∧b= .int .i64 (subL (X.drop j) (Y.drop j)).1∧wr.ownsRow w.heap.size 3 1 (.slice (some ⟨g,0,none⟩) 65 cap) 65 (ints (X.take j++(subL (X.drop j) (Y.drop j)).2))∧Below w.heap.size w wr) (fun _ i _=>(intOf i+1).toNat)
 case atStart=>
  refine ⟨65,by omega,by rfl,?_,?_,hb2⟩
  ·rw[List.drop_of_length_le (l:=X) (by rw[HL.out];omega)];rfl
  ·rw[List.drop_of_length_le (l:=X) (by rw[HL.out];omega),List.take_of_length_le (by rw[HL.out];omega)]
   have e:ints (X++(subL [] (Y.drop 65)).2)=ints X:=by simp[subL]
   rw[e];exact hown
 case round=>
  obtain ⟨j,hj,rfl,rfl,hown,hbel⟩:=hrel
  by_cases hlt:1≤j
  ·obtain ⟨m,rfl⟩:∃m,j=m+1:=⟨j-1,by omega⟩
   obtain ⟨ad1',u1,e1,hB1,hx1,hcell1⟩:=(h1.below hbel).at1 (k:=m) (by omega)
   obtain rfl:ad1=ad1':=by injection e1
   obtain ⟨x1,hl1,rfl⟩:=ints_get hx1
   obtain ⟨ad2,u2,rfl,hB2,hx2,hcell2⟩:=(h2.below hbel).at1 (k:=m) (by omega)
   obtain ⟨x2,hl2,rfl⟩:=ints_get hx2
   have HS:=Lib.hid (sub_step hl1 hl2)
   have g1:=is01_get hx01 hl1
   have g2:=is01_get hy01 hl2
   have g3:=subL_fst (X.drop (m+1)) (Y.drop (m+1))
   have hsz:=hbel.size
   clear hx1 hx2 hl1 hl2 e1
   generalize hT:subL (X.drop (m+1)) (Y.drop (m+1))=T at*
   clear hT
   obtain ⟨b,t⟩:=T
   simp only at HS g3 hown
   have hold:=hown.cellAt m (by omega)
   have hfr:=hown.frozenAt m
   obtain ⟨old,hold'⟩:∃old,wr.cell? ⟨g,m,none⟩=some old:=by
    rw[hold,List.getElem?_eq_getElem (by rw[hown.1];omega)];exact ⟨_,rfl⟩
   clear hold
   have HM:=fun v=>set_mid (X:=X) (t:=t) (m:=m) v (by rw[HL.out];omega)
   have HM':=Lib.hid HM
   clear HM
   rw[show ((m+1:Nat):Int)-1=m from by omega]
   have W1:IntKind.i64.wrap (x1-x2)=x1-x2:=IntWalk.i64_in _ (by omega)
   have W2:IntKind.i64.wrap (x1-x2-b)=x1-x2-b:=IntWalk.i64_in _ (by omega)
   have W3:0≤(m:Int):=by omega
   by_cases hneg:x1-x2-b<0
   ·go_wp2_with fail
    go_quiet (fail)
    clear W1 W2
    go_wp2_with fail
    obtain ⟨hst,hsg⟩:=(hown.drewN nq).stored m (.int .i64 (x1-x2-b+2))
    go_roundw
    case rel=>
     refine ⟨m,by omega,by go_num,by rw[HS.out,if_pos hneg],?_,below_own (below_drewN' hbel nq) (hown.drewN nq) hsg (by simpa using hsz)⟩
     rw[HS.out,if_pos hneg]
     rw[HM'.out] at hst
     exact hst
    case measure=>simp[intOf]
   ·go_wp2_with fail
    go_quiet (fail)
    clear W1 W2
    go_wp2_with fail
    obtain ⟨hst,hsg⟩:=(hown.drewN nq).stored m (.int .i64 (x1-x2-b))
    go_roundw
    case rel=>
     refine ⟨m,by omega,by go_num,by rw[HS.out,if_neg (by omega)],?_,below_own (below_drewN' hbel nq) (hown.drewN nq) hsg (by simpa using hsz)⟩
     rw[HS.out,if_neg (by omega)]
     rw[HM'.out] at hst
     exact hst
    case measure=>simp[intOf]
  ·obtain rfl:j=0:=by omega
   rw[show ((0:Nat):Int)-1= -1 from rfl]
   simp only[List.take_zero,List.drop_zero,List.nil_append] at hown
   go_wp2_with fail
   go_ret
   exact ⟨_,rfl,hown,hbel⟩
open Go.RowKit
def Win (w:World) (base:Nat) (e:TypeId) (g off n cap:Nat) (xs:List Value):Prop:=
 xs.length=n∧base≤g∧n≤cap∧cap≤maxLen∧∃cur,w.heap[g]? =some (.cells cur e (0,0))∧off+cap=cur.size∧(cur.toList.drop off).take n=xs
theorem take_set_drop {α:Type} {l:List α} {off n:Nat} {x:α} (h:off+n<l.length):((l.set (off+n) x).drop off).take (n+1)=(l.drop off).take n++ [x]:=by
 have e:(l.set (off+n) x).drop off=(l.drop off).set n x:=by
  rw[List.drop_set,if_neg (by omega),Nat.add_sub_cancel_left]
 rw[List.take_add_one,e,List.getElem?_set_self (by simp;omega),List.take_set,List.set_eq_of_length_le (by simp;omega)]
 rfl
section
variable {w w':World} {base:Nat} {e:TypeId} {g off n cap:Nat} {xs:List Value}
theorem Win.lt (h:Win w base e g off n cap xs):g<w.heap.size:=by
 obtain ⟨_,_,_,_,cur,hh,_⟩:=h
 rcases Nat.lt_or_ge g w.heap.size with hlt|hge
 ·exact hlt
 ·rw[Array.getElem?_eq_none hge] at hh;cases hh
theorem Win.drew (h:Win w base e g off n cap xs):Win w.drew base e g off n cap xs:=h
theorem Win.block (h:Win w base e g off n cap xs) (hb:w'.heap[g]? =w.heap[g]?):Win w' base e g off n cap xs:=by
 obtain ⟨h1,h2,h3,h4,cur,hh,h5⟩:=h
 exact ⟨h1,h2,h3,h4,cur,hb.trans hh,h5⟩
theorem Win.alloc (h:Win w base e g off n cap xs) (o:Obj):Win (w.alloc o) base e g off n cap xs:=h.block (Below.heap_alloc w o g h.lt)
theorem Win.below {B:Nat} (h:Win w base e g off n cap xs) (hb:Below B w w') (hg:g<B):Win w' base e g off n cap xs:=h.block (hb.block g hg)
theorem Win.cell (h:Win w base e g off n cap xs) (j:Nat) (hj:j<cap):∃u,w.cell? ⟨g,off+j,none⟩=some u:=by
 obtain ⟨h1,h2,h3,h4,cur,hh,h5,h6⟩:=h
 refine ⟨cur[off+j]'(by omega),?_⟩
 rw[cell_of_row w g (off+j) cur e (0,0) hh]
 exact Array.getElem?_eq_getElem (by omega)
theorem Win.frozen (h:Win w base e g off n cap xs) (j:Nat):w.frozen? ⟨g,j,none⟩=false:=by
 obtain ⟨h1,h2,h3,h4,cur,hh,h5,h6⟩:=h
 simp[World.frozen?,hh]
theorem Win.cells (h:Win w base e g off n cap xs):∀j u,xs[j]? =some u→w.cell? ⟨g,off+j,none⟩=some u:=by
 obtain ⟨h1,h2,h3,h4,cur,hh,h5,h6⟩:=h
 intro j u hu
 have hj:j<n:=by rw[←h1];exact (List.getElem?_eq_some_iff.1 hu).1
 rw[cell_of_row w g (off+j) cur e (0,0) hh]
 rw[←h6,List.getElem?_take_of_lt hj,List.getElem?_drop] at hu
 simpa using hu
theorem Win.rd (h:Win w base e g off n cap xs):Rd w w.heap.size 1 (some ⟨g,off,none⟩) n xs:=
 ⟨by rw[h.1];omega,fun _=>⟨_,rfl,h.lt,fun j u hu=>by rw[Addr.add_lit];exact h.cells j u hu⟩⟩
theorem win_of_own {n:Nat} (h:w.ownsRow base e 1 (.slice (some ⟨g,0,none⟩) n cap) n xs):Win w base e g 0 n cap xs:=by
 obtain ⟨hl,h⟩:=h
 rcases h with ⟨h,_⟩|⟨g',cap',cur,h,hb,hh,hnc,hcm,hcs,ht⟩
 ·cases h
 ·simp only[Value.slice.injEq,Option.some.injEq,Addr.mk.injEq,and_true,true_and] at h
  obtain ⟨rfl,rfl⟩:=h
  exact ⟨by omega,hb,hnc,hcm,cur,hh,by omega,by simpa using ht⟩
theorem Win.tail {x:Value} (h:Win w base e g off (n+1) cap (x::xs)):Win w base e g (off+1) n (cap-1) xs:=by
 obtain ⟨h1,h2,h3,h4,cur,hh,h5,h6⟩:=h
 refine ⟨by simpa using h1,h2,by omega,by omega,cur,hh,by omega,?_⟩
 have hlt:off<cur.toList.length:=by simp;omega
 rw[List.drop_eq_getElem_cons hlt,List.take_succ_cons] at h6
 exact (List.cons.inj h6).2
theorem run_append_win {P:Program} (t ty:TypeId) (i:TypeInfo) (z:Value) (bytes:Nat) (ht:P.underlying t=some (.slice e)) (hi:P.info? e=some i) (hz:i.zero=some z)
  (hsize:i.size=1) (hby:i.bytes=bytes) (hzs:z.cells.size=1) (h:Win w base e g off n cap xs)
  (ad:Addr) (c:Nat) (x:Value) (hx:w.cell? ad=some x) (h1:x.oneCell'=true) (h63:n+1≤maxLen) (hbytes:(n+1)*bytes≤140737488355328) (hbase:base≤w.heap.size):
  ∃g' off' cap' w',(Builtin.append_ #[t,t] ty #[.slice (some ⟨g,off,none⟩) n cap,.slice (some ad) 1 c]).run P w= .ok (.slice (some ⟨g',off',none⟩) (n+1) cap') w'∧
   Win w' base e g' off' (n+1) cap' (xs++ [x])∧w.grownBy w' (some g):=by
 have hnews:∀j u,[x][j]? =some u→w.cell? (ad.add j)=some u:=by
  intro j u hu
  match j,hu with
  |0,hu=>simp at hu;subst hu;simpa[Addr.add] using hx
 by_cases hr:n+1≤cap
 ·have hf:=fun j=>h.frozen j
  have hc:=h.cell n (by omega)
  have hrun:=run_append_room_cells (P:=P) w t ty e i ht hi g off n cap ad 1 c [x] (by simp[hsize]) hnews (by simpa using h1) hr
   (fun j hj=>by
    have:j=0:=by simpa using hj
    subst this
    obtain ⟨u,hu⟩:=hc
    simp[hsize,hu]) (fun j _=>hf _)
  refine ⟨g,off,cap,_,hrun,?_,?_⟩
  ·obtain ⟨k1,k2,k3,k4,cur,hh,k5,k6⟩:=h
   refine ⟨by simp[k1],k2,hr,k4,cur.setIfInBounds (off+n) x,?_,by simpa using k5,?_⟩
   ·simp[hsize,World.setCells,World.setCell,Array.getElem?_modify,hh]
   ·rw[Array.toList_setIfInBounds,take_set_drop (by simp;omega),k6]
  ·simp only[hsize,World.setCells,Nat.mul_one]
   exact ⟨rfl,rfl,rfl,by simp[World.setCell],fun k hk hne=>Below.heap_setCell w _ _ k (by intro he;apply hne;simp[he])⟩
 ·obtain ⟨v',w',hrun,hown,hg⟩:=run_append_arg_grows (P:=P) w t ty e i z 1 bytes ht hi hz hsize hby hzs (by omega) ⟨g,off,none⟩ n cap xs (by rw[h.1];omega) (fun j u hu=>by rw[Addr.add_lit];exact h.cells j u hu) ad 1 c [x] (by simp) hnews (by omega) h63 hbytes
  obtain ⟨g',cap',rfl⟩:∃g' cap',v'= .slice (some ⟨g',0,none⟩) (n+1) cap':=by
   rcases hown.2 with ⟨_,h0⟩|⟨g',cap',_,h,_⟩
   ·omega
   ·exact ⟨g',cap',h⟩
  exact ⟨g',0,cap',w',hrun,win_of_own (own_base hown hbase),⟨hg.os,hg.tape,hg.output,hg.size,fun k hk _=>hg.block k hk (by simp)⟩⟩
theorem step_append_win {P:Program} {ops:Array Oper} {o:Oper} {a:Act} {K:Act→World→Prop} {Q:Exit→Act→World→Prop} {E:Prop} (hgd:o.guard=none) (s x:Operand) (t:TypeId)
  (ho:o.op= .call {callee:= .builtin .append,args:= #[s,x],argTypes:= #[t,t]})
  (i:TypeInfo) (z:Value) (bytes:Nat) (ht:P.underlying t=some (.slice e)) (hi:P.info? e=some i) (hz:i.zero=some z)
  (hsize:i.size=1) (hby:i.bytes=bytes) (hzs:z.cells.size=1) (hs:a.eval s= .slice (some ⟨g,off,none⟩) n cap)
  (ad:Addr) (c:Nat) (u:Value) (hx:a.eval x= .slice (some ad) 1 c) (h:Win w base e g off n cap xs) (hu:w.cell? ad=some u) (h1:u.oneCell'=true) (h63:n+1≤maxLen) (hbytes:(n+1)*bytes≤140737488355328) (hbase:base≤w.heap.size)
  (hK:∀g' off' cap' w',Win w' base e g' off' (n+1) cap' (xs++ [u])→w.grownBy w' (some g)→K (a.put o.dst (.slice (some ⟨g',off',none⟩) (n+1) cap')) w'):
  if Region.wanted o (yielded ops a.tmps)=true then Oper.wp P o a w K Q else E:=by
 have hw:Region.wanted o (yielded ops a.tmps)=true:=by simp[Region.wanted,hgd]
 rw[if_pos hw]
 obtain ⟨g',off',cap',w',hrun,h2,h3⟩:=run_append_win (P:=P) t o.type i z bytes ht hi hz hsize hby hzs h ad c u hu h1 h63 hbytes hbase
 unfold Oper.wp execOp
 simp only[ho,resolve,invoke,builtin,Sem.run_bind,Sem.run_pure,Result.andThen_ok,List.map_toArray,List.map_cons,List.map_nil,hs,hx,hrun]
 exact hK _ _ _ _ h2 h3
end
theorem zeros_win (k:Nat):List.replicate (k+1) (0:Int)=List.replicate k 0++ [0]:=by
 rw[←List.replicate_succ']
def DivInv (X Y R:List Int) (Q:Int) (k:Nat):Prop:=
 hval (X.take k)=Q*hval Y+hval R∧Is01 R∧R.length=65∧hval R<hval Y
theorem div_step {X Y R:List Int} {Q:Int} {k:Nat} {x r0:Int} {R1:List Int} (h:DivInv X Y R Q k) (hR:R=r0::R1) (hx:X[k]? =some x) (h01:x=0∨x=1) (hY:hval Y≤9223372036854775808):
  hval (X.take (k+1))=(2*Q)*hval Y+hval (R1++ [x])∧Is01 (R1++ [x])∧(R1++ [x]).length=65∧hval (R1++ [x])<2*hval Y:=by
 subst hR
 obtain ⟨h1,h2,h3,h4⟩:=h
 have hl:R1.length=64:=by simpa using h3
 have h2':Is01 R1:=fun z hz=>h2 z (List.mem_cons_of_mem _ hz)
 have hb:=hval_bound h2'
 have hr0:r0=0:=by
  rcases h2 r0 (by simp) with h|h
  ·exact h
  ·subst h;simp only[hval,hl,pow2_64,Int.one_mul] at h4;omega
 subst hr0
 simp only[hval,Int.zero_mul,Int.zero_add] at h1 h4
 have e:X.take (k+1)=X.take k++ [x]:=by rw[List.take_add_one,hx];rfl
 rw[e,hval_snoc,hval_snoc,h1,Int.mul_add,←Int.mul_assoc]
 exact ⟨by omega,is01_snoc h2' h01,by simp[hl],by omega⟩
theorem div_end {a b:Int} (h0:b≠0) {Q r:Int} (h:(a.natAbs:Int)=Q*(b.natAbs:Int)+r) (hr:0≤r∧r<(b.natAbs:Int)):
  (if decide (a<0) !=decide (b<0) then negZ (wrap64 Q) else wrap64 Q)=divZ a b:=by
 have hQ:Q=(a.natAbs:Int)/(b.natAbs:Int):=by
  rw[h,Int.add_comm,Int.add_mul_ediv_right _ _ (by omega),Int.ediv_eq_zero_of_lt hr.1 hr.2,Int.zero_add]
 have hdiv:divZ a b=wrap64 (a.tdiv b):=by
  unfold divZ
  rw[if_neg h0]
  split
  ·rename_i h1;subst h1;simp
  ·rfl
 rw[hdiv]
 have hneg:∀q:Int,negZ (wrap64 q)=wrap64 (-q):=fun q=>by unfold negZ wrap64;omega
 have hsgn:a.tdiv b=if decide (a<0) !=decide (b<0) then-Q else Q:=by
  rw[hQ]
  clear hQ h hr hdiv hneg
  by_cases h1:a<0<;>by_cases h2:b<0
  ·have ea:(a.natAbs:Int)= -a:=by omega
   have eb:(b.natAbs:Int)= -b:=by omega
   have:a.tdiv b=(-a).tdiv (-b):=by rw[Int.neg_tdiv,Int.tdiv_neg,Int.neg_neg]
   rw[if_neg (by simp[h1,h2]),this,Int.tdiv_eq_ediv_of_nonneg (by omega),ea,eb]
  ·have ea:(a.natAbs:Int)= -a:=by omega
   have eb:(b.natAbs:Int)=b:=by omega
   have:a.tdiv b= -((-a).tdiv b):=by rw[Int.neg_tdiv,Int.neg_neg]
   rw[if_pos (by simp[h1,h2]),this,Int.tdiv_eq_ediv_of_nonneg (by omega),ea,eb]
  ·have ea:(a.natAbs:Int)=a:=by omega
   have eb:(b.natAbs:Int)= -b:=by omega
   have:a.tdiv b= -(a.tdiv (-b)):=by rw[Int.tdiv_neg,Int.neg_neg]
   rw[if_pos (by simp[h1,h2]),this,Int.tdiv_eq_ediv_of_nonneg (by omega),ea,eb]
  ·have ea:(a.natAbs:Int)=a:=by omega
   have eb:(b.natAbs:Int)=b:=by omega
   rw[if_neg (by simp[h1,h2]),Int.tdiv_eq_ediv_of_nonneg (by omega),ea,eb]
 rw[hsgn]
 split
 ·exact hneg _
 ·rfl
theorem rdiv_core (a b:Int) (w:World) (ha:In a) (hb:In b) (h0:b≠0):
  Calls Tryz.prog 125 #[.int .i64 a,.int .i64 b] w fun e w'=>e= .returned (.int .i64 (divZ a b))∧Below w.heap.size w w':=by
 refine' zq122
 have hb0:(b==0)=false:=by simp[h0]
 have hX01:=is01_high a
 have hY01:=is01_high b
 have HX:=Lib.hid (hval_high ha)
 have HY:=Lib.hid (hval_high hb)
 have HLX:=Lib.hid (highL_len a)
 have HLY:=Lib.hid (highL_len b)
 go_enter Tryz.func125,Tryz.ntmps125
 go_wp2_with fail
 refine (high_any a _ ha).mono ?_
 rintro e w1 ⟨v1,rfl,ho1,hb1⟩
 obtain ⟨A1,c1,rfl,hc1,hm1,hr1⟩:=own_rd ho1
 go_wp2_with fail
 refine (high_any b _ hb).mono ?_
 refine' zq314
 generalize highL a=X at*
 generalize highL b=Y at*
 clear ho1 ho2 hr1 hb1 hb2 hm1 hm2
 have hsz:=hb12.size
 go_wp2_with fail
 go_loopw[7,8] (fun v i wr=>∃k:Nat,k≤65∧i= .int .i64 k∧wr.ownsRow w2.heap.size 3 1 v k (ints (List.replicate k 0))∧Below w2.heap.size w2 wr) (fun _ i _=>65-(intOf i).toNat)
 case atStart=>exact ⟨0,Nat.zero_le _,rfl,World.ownsRow_nil _ _ _ _,Below.refl _ _⟩
 case round=>
  obtain ⟨k,hk,rfl,hown,hbel⟩:=hrel
  by_cases hlt:k<65
  ·have HS:=Lib.hid (zeros_win k)
   have hsz2:=hbel.size
   go_wp2_with (at_builtin;refine wpList_append_own _ rfl _ _ 26 rfl w2.heap.size 3 i0 (.int .i64 0) 1 8 Tryz.underlying26 hi0 hz0 hz1 hz2 rfl (by decide) _ _ _ rfl (hown.alloc _) ⟨wr.heap.size,0,none⟩ 1 1 [.int .i64 0] rfl rfl ?c1 ?c2 ?c3 ?c4 ?c5 ?_)
   case c1=>exact cell_one _ _ _
   case c2=>simp[Value.oneCell']
   case c3=>unfold maxLen;omega
   case c4=>omega
   case c5=>simp;omega
   refine' zq261
   have ho3:w3.ownsRow w2.heap.size 3 1 v' (k+1) (ints (List.replicate (k+1) 0)):=by rw[HS.out,ints_snoc];exact hown'
   clear hown hbel hown' hgrow
   go_wp2_with fail
   go_roundw
   case rel=>exact ⟨k+1,by omega,by go_num,ho3,hb3⟩
   case measure=>simp[intOf];omega
  ·obtain rfl:k=65:=by omega
   generalize hZ:List.replicate 65 (0:Int)=Z at*
   rw[show ((65:Nat):Int)=65 from rfl]
   obtain ⟨g,cap,rfl,hgl⟩:∃g cap,u7= .slice (some ⟨g,0,none⟩) 65 cap∧65≤cap:=by
    rcases hown.2 with ⟨_,h0⟩|⟨g,cap,cur,h,_,_,hc,_⟩
    ·omega
    ·exact ⟨g,cap,h,hc⟩
   have hwin:=win_of_own hown
   have HZ:=Lib.hid hZ
   have hsz2:=hbel.size
   clear hZ hown
   go_wp2_with fail
   have HD0:DivInv X Y Z 0 0:=by
    have e:hval Z=0:=by rw[←HZ.out];decide+kernel
    refine ⟨by simp[hval,e],?_,by rw[←HZ.out];rfl,by rw[e,HY.out];omega⟩
    rw[←HZ.out];intro x hx;exact .inl (List.eq_of_mem_replicate hx)
   have hYb:0<hval Y∧hval Y≤9223372036854775808:=by have:=HY.out;unfold In at hb;omega
   have hbw:Below w.heap.size w wr:=hb12.trans (hbel.mono hsz)
   have hrX:=hr1'.below hbel
   have hrY:=hr2.below hbel
   clear hr1' hr2 hbel hb12
   obtain ⟨w3,rfl⟩:∃w3:World,w3=wr:=⟨_,rfl⟩
   go_loopw[7,9,10] (fun v q i wr=>∃(k g off cap:Nat) (R:List Int) (Q:Int),k≤65∧i= .int .i64 k∧v= .slice (some ⟨g,off,none⟩) 65 cap∧q= .int .i64 (wrap64 Q)∧DivInv X Y R Q k∧Win wr w2.heap.size 3 g off 65 cap (ints R)∧Below w2.heap.size w3 wr) (fun _ _ i _=>65-(intOf i).toNat)
   case atStart=>exact ⟨0,g,0,cap,Z,0,Nat.zero_le _,rfl,rfl,by rw[wrap_in (by omega)],HD0,hwin,Below.refl _ _⟩
   case round=>
    clear hwin HD0
    obtain ⟨k,g,off,cap,R,Q,hk,rfl,rfl,rfl,hD,hwin,hbel⟩:=hrel
    by_cases hlt:k<65
    ·obtain ⟨ad1,u1,rfl,hB1,hx1,hcell1⟩:=(hrX.below hbel).at1 hlt
     obtain ⟨x1,hl1,rfl⟩:=ints_get hx1
     have g1:=is01_get hX01 hl1
     obtain ⟨r0,R1,rfl⟩:∃r0 R1,R=r0::R1:=by
      obtain ⟨_,_,h3,_⟩:=hD
      match R,h3 with
      |r0::R1,_=>exact ⟨r0,R1,rfl⟩
     have HD:=Lib.hid (div_step hD rfl hl1 g1 hYb.2)
     have hwin1:=hwin.tail
     have hcap:=hwin.2.2.1
     have W3:0≤(k:Int):=by omega
     have W4:¬cap=1:=by omega
     clear hD hl1 hx1 hwin
     go_wp2_with fail
     have hs3:=hbel.size
     go_region_law (refine step_append_win (g:=g) (off:=off+1) (n:=64) (cap:=cap-1) (xs:=ints R1) rfl (.tmp 29) (.tmp 34) 26 rfl i0 (.int .i64 0) 8 Tryz.underlying26 hi0 hz0 hz1 hz2 rfl (by simp[Act.eval]) ⟨wr.heap.size,0,none⟩ 1 (.int .i64 x1) (by simp[Act.eval]) (by exact (hwin1.drew).alloc _) (by simp) rfl (by unfold maxLen;omega) (by omega) (by simp;omega) ?_;intro g' off' cap' w4 hw4 hg4)
     have hb4:Below w2.heap.size w3 w4:=((hbel.drew).alloc (by simpa using Nat.le_trans hsz2 hs3) _).grown hg4 (by simp;omega) (by rintro k' hk';injection hk' with hk';subst hk';exact hwin1.2.1)
     have hw5:Win w4 w2.heap.size 3 g' off' 65 cap' (ints (R1++ [x1])):=by rw[ints_snoc];exact hw4
     have hs4:=hb4.size
     have hg'lt:=hw5.lt
     generalize hR2:R1++ [x1]=R2 at*
     have HLess:=fun h=>less_hval (x:=R2) (y:=Y) h hY01
     have HLs:=Lib.hid HLess
     clear hR2 hw4 hg4 hwin1 hbel HLess
     go_wp2_with fail
     refine (radd_any (wrap64 Q) (wrap64 Q) _ (wrap_lo _) (wrap_lo _)).mono ?_
     rintro e w5 ⟨rfl,hb5⟩
     have hw6:=hw5.below hb5 hg'lt
     have hb35:Below w2.heap.size w3 w5:=hb4.trans (hb5.mono (by omega))
     have hs5:=hb35.size
     clear hw5 hb4 hb5 hg'lt
     go_wp2_with fail
     have hrd:=hw6.rd
     have hrY5:=(hrY.below hb35).more (B':=w5.heap.size) (by omega)
     refine (less_any _ _ cap' c2 w5.heap.size R2 Y _ hrd hrY5).mono ?_
     rintro e w6 ⟨rfl,hb6⟩
     have hdbl:addZ (wrap64 Q) (wrap64 Q)=wrap64 (2*Q):=by unfold addZ wrap64;omega
     rw[hdbl]
     obtain ⟨d1,d2,d3,d4⟩:=HD.out
     have hle:=HLs.out d2 (by rw[d3,HLY.out])
     clear hdbl HD HLs
     rw[hle]
     by_cases hcmp:hval R2<hval Y
     ·rw[show decide (hval R2<hval Y)=true from by simp[hcmp]]
      have HI:DivInv X Y R2 (2*Q) (k+1):=⟨d1,d2,d3,hcmp⟩
      have hw7:=hw6.below hb6 hw6.lt
      have hb36:Below w2.heap.size w3 w6:=hb35.trans (hb6.mono (by omega))
      clear d1 d2 d3 d4 hle hcmp hrd hrY5 hb35 hb6 hw6
      go_wp2_with fail
      go_roundw
      case rel=>exact ⟨k+1,g',off',cap',R2,2*Q,by omega,by go_num,rfl,rfl,HI,hw7,hb36⟩
      case measure=>simp[intOf];omega
     ·rw[show decide (hval R2<hval Y)=false from by simp[hcmp]]
      have hge:=sub_ge d2 hY01 (by rw[d3,HLY.out]) (by omega)
      have hsp:=subL_spec d2 hY01 (by rw[d3,HLY.out])
      have HI:DivInv X Y (subL R2 Y).2 (2*Q+1) (k+1):=⟨by rw[d1,hge,Int.add_mul,Int.one_mul];omega,hsp.2.1,by rw[hsp.1,d3],by rw[hge];omega⟩
      have hrd6:=(hrd.below hb6).more hb6.size
      have hrY6:=(hrY5.below hb6).more hb6.size
      have hb36:Below w2.heap.size w3 w6:=hb35.trans (hb6.mono (by omega))
      have hs6:=hb36.size
      have D2:=Lib.hid d2
      clear d1 d3 d4 hle hcmp hrd hrY5 hb35 hb6 hw6 hge hsp d2
      go_wp2_with fail
      refine (take_any _ _ cap' c2 R2 Y _ D2.out hY01 hrd6 hrY6).mono ?_
      rintro e w7 ⟨v7,rfl,ho7,hb7⟩
      obtain ⟨g7,cap7,rfl⟩:∃g7 cap7,v7= .slice (some ⟨g7,0,none⟩) 65 cap7:=by
       rcases ho7.2 with ⟨_,h0⟩|⟨g,cap,cur,h,_⟩
       ·omega
       ·exact ⟨g,cap,h⟩
      have hw7:=win_of_own (own_base ho7 (show w2.heap.size≤w6.heap.size from by omega))
      have hb37:Below w2.heap.size w3 w7:=hb36.trans (hb7.mono (by omega))
      have hs7:=hb37.size
      clear ho7 hb7 hb36 hrd6 hrY6
      go_wp2_with fail
      refine (radd_any (wrap64 (2*Q)) 1 _ (wrap_lo _) (by unfold In;omega)).mono ?_
      rintro e w8 ⟨rfl,hb8⟩
      have hone:addZ (wrap64 (2*Q)) 1=wrap64 (2*Q+1):=by unfold addZ wrap64;omega
      rw[hone]
      have hw8:=hw7.below hb8 hw7.lt
      have hb38:Below w2.heap.size w3 w8:=hb37.trans (hb8.mono (by omega))
      clear hone hw7 hb37 hb8
      go_wp2_with fail
      go_roundw
      case rel=>exact ⟨k+1,g7,0,cap7,(subL R2 Y).2,2*Q+1,by omega,by go_num,rfl,rfl,HI,hw8,hb38⟩
      case measure=>simp[intOf];omega
    ·obtain rfl:k=65:=by omega
     obtain ⟨d1,d2,d3,d4⟩:=hD
     have hv:=hval_bound d2
     rw[List.take_of_length_le (by rw[HLX.out];omega),HX.out,HY.out] at d1
     rw[HY.out] at d4
     have HE:=Lib.hid (div_end h0 d1 ⟨hv.1,d4⟩)
     clear d1 d2 d3 d4 hv
     have hbf:Below w.heap.size w wr:=hbw.trans (hbel.mono hsz)
     clear hbel hwin
     by_cases h1:a<0<;>by_cases h2:b<0
     ·have k1:decide (a<0)=true:=by simp[h1]
      have k2:decide (b<0)=true:=by simp[h2]
      rw[if_neg (by simp[h1,h2])] at HE
      go_wp2_with fail
      go_ret
      exact ⟨ret_int HE.out,hbf⟩
     ·have k1:decide (a<0)=true:=by simp[h1]
      have k2:decide (b<0)=false:=by simp[h2]
      refine' zq287
     ·have k1:decide (a<0)=false:=by simp[h1]
      have k2:decide (b<0)=true:=by simp[h2]
      refine' zq287
     ·have k1:decide (a<0)=false:=by simp[h1]
      have k2:decide (b<0)=false:=by simp[h2]
      rw[if_neg (by simp[h1,h2])] at HE
      go_wp2_with fail
      go_ret
      exact ⟨ret_int HE.out,hbf⟩
theorem rdiv_any (a b:Int) (w:World) (ha:In a) (hb:In b):
  Calls Tryz.prog 125 #[.int .i64 a,.int .i64 b] w fun e w'=>e= .returned (.int .i64 (divZ a b))∧Below w.heap.size w w':=by
 by_cases h0:b=0
 ·subst h0
  go_enter Tryz.func125,Tryz.ntmps125
  go_wp2_with fail
  go_ret
  exact ⟨ret_int (div_zero a).symm,Below.refl _ _⟩
 ·exact rdiv_core a b w ha hb h0
theorem rmod_eq (a b:Int):addZ a (negZ (mulZ (divZ a b) b))=modZ a b:=by
 unfold modZ;rw[sub_eq]
theorem rmod_any (a b:Int) (w:World) (ha:In a) (hb:In b):
  Calls Tryz.prog 126 #[.int .i64 a,.int .i64 b] w fun e w'=>e= .returned (.int .i64 (modZ a b))∧Below w.heap.size w w':=by
 have HE:=Lib.hid (rmod_eq a b)
 go_enter Tryz.func126,Tryz.ntmps126
 go_wp2_with fail
 refine (rdiv_any a b _ ha hb).mono ?_
 rintro e w1 ⟨rfl,hb1⟩
 have h1:=hb1.size
 go_wp2_with fail
 refine (rmul_any (divZ a b) b _ (in_div a b) hb).mono ?_
 rintro e w2 ⟨rfl,hb2⟩
 have hb02:=hb1.trans (hb2.mono h1)
 have h2:=hb02.size
 go_wp2_with fail
 refine (rneg_any (mulZ (divZ a b) b) _ (in_mul _ _)).mono ?_
 rintro e w3 ⟨rfl,hb3⟩
 have hb03:=hb02.trans (hb3.mono h2)
 have h3:=hb03.size
 go_wp2_with fail
 refine (radd_any a (negZ (mulZ (divZ a b) b)) _ ha (in_neg _)).mono ?_
 rintro e w4 ⟨rfl,hb4⟩
 have hb04:=hb03.trans (hb4.mono h3)
 go_wp2_with fail
 go_ret
 exact ⟨ret_int HE.out,hb04⟩
theorem flag_01 (b:Bool):flagZ b=0∨flagZ b=1:=by cases b<;>simp[flagZ]
theorem rflag_any (b:Bool) (w:World):
  Calls Tryz.prog 122 #[.bool b] w fun e w'=>e= .returned (.int .i64 (flagZ b))∧w=w':=by
 cases b<;>
 ·go_enter Tryz.func122,Tryz.ntmps122
  go_wp2
  go_ret
  exact ⟨rfl,rfl⟩
theorem ret_two {x y:Int} {b c:Bool} (h:x=y) (h':b=c):Ending.returned (.tuple #[.int .i64 x,.bool b])= .returned (.tuple #[.int .i64 y,.bool c]):=by rw[h,h']
theorem rone_any (op a:Int) (w:World) (ha:In a):
  Calls Tryz.prog 109 #[.int .i64 op,.int .i64 a] w fun e w'=>e= .returned (.tuple #[.int .i64 (oneV op a),.bool (oneB op)])∧Below w.heap.size w w':=by
 by_cases h5:op=5
 ·subst h5
  go_enter Tryz.func109,Tryz.ntmps109
  go_wp2_with fail
  refine (rneg_any a _ ha).mono ?_
  refine' zq266
 ·by_cases h6:op=6
  ·subst h6
   clear h5
   go_enter Tryz.func109,Tryz.ntmps109
   refine' zq275
   exact ⟨rfl,Below.refl _ _⟩
  ·have e5:(op==5)=false:=by simp[h5]
   have e6:(op==6)=false:=by simp[h6]
   have HF:=Lib.hid (show oneV op a=0 from by simp[oneV,h5,h6])
   have HB:=Lib.hid (show oneB op=false from by simp[oneB,h5,h6])
   clear h5 h6
   go_enter Tryz.func109,Tryz.ntmps109
   go_wp2_with fail
   go_ret2
   exact ⟨by rw[HF.out,HB.out];rfl,Below.refl _ _⟩
theorem rdo_cmp (op a b:Int) (w:World) (h:12≤op∧op≤17):
  Calls Tryz.prog 110 #[.int .i64 op,.int .i64 a,.int .i64 b] w fun e w'=>e= .returned (.tuple #[.int .i64 (doV op a b),.bool (doB op)])∧Below w.heap.size w w':=by
 have k15:flagZ (decide (a≤b))=flagZ (!decide (b<a)):=by rw[show decide (a≤b)= !decide (b<a) from by by_cases h:a≤b<;>simp[h]<;>omega]
 have k17:flagZ (decide (b≤a))=flagZ (!decide (a<b)):=by rw[show decide (b≤a)= !decide (a<b) from by by_cases h:b≤a<;>simp[h]<;>omega]
 have K15:=Lib.hid k15
 have K17:=Lib.hid k17
 clear k15 k17
 rcases (by omega:op=12∨op=13∨op=14∨op=15∨op=16∨op=17) with rfl|rfl|rfl|rfl|rfl|rfl
 all_goals
  clear h
  go_enter Tryz.func110,Tryz.ntmps110
  refine' zq275
  exact ⟨by first|rfl|exact (ret_two K15.out rfl).symm|exact (ret_two K17.out rfl).symm,Below.refl _ _⟩
theorem log_val (a b:Bool):flagZ (logB 18 a b)=wrap64 (flagZ a*flagZ b)∧flagZ (logB 19 a b)=flagZ (decide (0<wrap64 (flagZ a+flagZ b)))∧flagZ (logB 20 a b)=flagZ (wrap64 (flagZ a+flagZ b)==1):=by
 cases a<;>cases b<;>decide+kernel
theorem rdo_log (op a b:Int) (w:World) (h:18≤op∧op≤20):
  Calls Tryz.prog 110 #[.int .i64 op,.int .i64 a,.int .i64 b] w fun e w'=>e= .returned (.tuple #[.int .i64 (doV op a b),.bool (doB op)])∧Below w.heap.size w w':=by
 have hl:=Lib.hid (log_val (a !=0) (b !=0))
 have hfa:=flag_01 (a !=0)
 have hfb:=flag_01 (b !=0)
 have HD:(doV 18 a b=flagZ (logB 18 (a !=0) (b !=0)))∧(doV 19 a b=flagZ (logB 19 (a !=0) (b !=0)))∧(doV 20 a b=flagZ (logB 20 (a !=0) (b !=0))):=⟨rfl,rfl,rfl⟩
 have HD':=Lib.hid HD
 clear HD
 rcases (by omega:op=18∨op=19∨op=20) with rfl|rfl|rfl
 all_goals
  clear h
  refine' zq147
  refine (rflag_any _ _).mono ?_
  rintro e w' ⟨rfl,rfl⟩
  go_wp2_with fail
  refine (rflag_any _ _).mono ?_
  rintro e w' ⟨rfl,rfl⟩
  generalize hA:flagZ (a !=0)=A at*
  generalize hB:flagZ (b !=0)=B at*
  clear hA hB
  rcases hfa with rfl|rfl<;>rcases hfb with rfl|rfl
  all_goals
   refine' zq275
   refine ⟨?_,Below.refl _ _⟩
   first
    |exact ret_two (by rw[HD'.out.1,hl.out.1];decide+kernel) rfl
    |exact ret_two (by rw[HD'.out.2.1,hl.out.2.1];decide+kernel) rfl
    |exact ret_two (by rw[HD'.out.2.2,hl.out.2.2];decide+kernel) rfl
theorem rdo_num (op a b:Int) (w:World) (ha:In a) (hb:In b) (h:7≤op∧op≤11):
  Calls Tryz.prog 110 #[.int .i64 op,.int .i64 a,.int .i64 b] w fun e w'=>e= .returned (.tuple #[.int .i64 (doV op a b),.bool (doB op)])∧Below w.heap.size w w':=by
 rcases (by omega:op=7∨op=8∨op=9∨op=10∨op=11) with rfl|rfl|rfl|rfl|rfl
 ·refine' zq147
  refine (radd_any a b _ ha hb).mono ?_
  refine' zq266
 ·have HS:=Lib.hid (sub_eq a b)
  refine' zq147
  refine (rneg_any b _ hb).mono ?_
  rintro e w1 ⟨rfl,hb1⟩
  have h1:=hb1.size
  go_wp2_with fail
  refine (radd_any a (negZ b) _ ha (in_neg _)).mono ?_
  rintro e w2 ⟨rfl,hb2⟩
  have hb02:=hb1.trans (hb2.mono h1)
  go_wp2_with fail
  go_ret2
  exact ⟨ret_two HS.out.symm rfl,hb02⟩
 ·refine' zq147
  refine (rmul_any a b _ ha hb).mono ?_
  refine' zq266
 ·refine' zq147
  refine (rdiv_any a b _ ha hb).mono ?_
  refine' zq266
 ·refine' zq147
  refine (rmod_any a b _ ha hb).mono ?_
  refine' zq266
theorem rdo_no (op a b:Int) (w:World) (h:op<7∨20<op):
  Calls Tryz.prog 110 #[.int .i64 op,.int .i64 a,.int .i64 b] w fun e w'=>e= .returned (.tuple #[.int .i64 (doV op a b),.bool (doB op)])∧Below w.heap.size w w':=by
 have HF:=Lib.hid (show doV op a b=0 from by
   unfold doV
   rw[if_neg (by omega),if_neg (by omega),if_neg (by omega),if_neg (by omega),if_neg (by omega),if_neg (by omega),if_neg (by omega)])
 have HB:=Lib.hid (show doB op=false from by simp[doB];omega)
 rcases h with h|h
 all_goals
  go_enter Tryz.func110,Tryz.ntmps110
  go_wp2_with (go_at_call 122;refine (rflag_any _ _).mono ?_;rintro e w' ⟨rfl,rfl⟩)
  go_ret2
  exact ⟨by rw[HF.out,HB.out];rfl,Below.refl _ _⟩
theorem rdo_any (op a b:Int) (w:World) (ha:In a) (hb:In b):
  Calls Tryz.prog 110 #[.int .i64 op,.int .i64 a,.int .i64 b] w fun e w'=>e= .returned (.tuple #[.int .i64 (doV op a b),.bool (doB op)])∧Below w.heap.size w w':=by
 by_cases h1:7≤op∧op≤11
 ·exact rdo_num op a b w ha hb h1
 ·by_cases h2:12≤op∧op≤17
  ·exact rdo_cmp op a b w h2
  ·by_cases h3:18≤op∧op≤20
   ·exact rdo_log op a b w h3
   ·exact rdo_no op a b w (by omega)
end Go.Proofs.YtckognjamlckcaaGreatDoor
