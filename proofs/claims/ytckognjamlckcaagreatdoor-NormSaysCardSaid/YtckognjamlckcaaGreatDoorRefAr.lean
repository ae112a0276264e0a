/-
  Several texts in one: BitsZ, RefBits, RefArith, RefArithB, RefArithC, eg, RefDiv, RefOps.
-/
import Derived.Test.YtckognjamlckcaaGreatDoorLookA
set_option maxHeartbeats 4000000
set_option maxRecDepth 100000
namespace Go.Proofs.YtckognjamlckcaaGreatDoor.Bz
open Go.RowKit Ar Z
def ew (n:Int):Nat->Int
 |0=>n
 |k+1=>ew n k/2
theorem BG {n:Int} (h:In n) (k:Nat):In (ew n k):=by
 induction k with
 |zero=>exact h
 |succ k ih=>unfold In at*;simp only[ew];omega
def kD (n:Int) (k:Nat):Int:=ew n k % 2
theorem CV (n:Int) (k:Nat):kD n k=0\/kD n k=1:=by unfold kD;omega
def bc (n:Int) (k:Nat):List Int:=(List.range k).map (kD n)
theorem db (n:Int) (k:Nat):(bc n k).length=k:=by simp[bc]
theorem mf (n:Int) (k:Nat):bc n (k+1)=bc n k++ [kD n k]:=by simp[bc,List.range_succ]
def dk (l:List Int):Prop:=∀x∈l,x=0\/x=1
theorem gE (n:Int) (k:Nat):dk (bc n k):=by
 intro x hx
 simp only[bc,List.mem_map] at hx
 obtain ⟨j,_,rfl⟩:=hx
 exact CV n j
theorem zJ:dk []:=fun _ h=>by cases h
theorem xg {l:List Int} {x:Int} (h:dk l) (hx:x=0\/x=1):dk (l++ [x]):=by
 intro y hy
 rcases List.mem_append.1 hy with hy|hy
 ·exact h y hy
 ·rw[List.mem_singleton.1 hy];exact hx
theorem fd {l:List Int} {j:Nat} {x:Int} (h:dk l) (hx:l[j]? =some x):x=0\/x=1:=h x (List.mem_of_getElem? hx)
def bM:List Int->Int
 | []=>0
 |x::l=>x+2*bM l
def bt:Nat->Int
 |0=>1
 |k+1=>2*bt k
theorem zN (k:Nat):0<bt k:=by
 induction k with
 |zero=>decide
 |succ k ih=>simp only[bt];omega
theorem jw (l:List Int) (x:Int):bM (l++ [x])=bM l+x*bt l.length:=by
 induction l with
 |nil=>simp[bM,bt]
 |cons y l ih=>
  simp only[List.cons_append,bM,ih,List.length_cons,bt]
  rw[Int.mul_add,<-Int.mul_assoc,Int.mul_comm 2 x,Int.mul_assoc];omega
theorem ni {l:List Int} (h:dk l):0<=bM l/\bM l<bt l.length:=by
 induction l with
 |nil=>simp[bM,bt]
 |cons y l ih=>
  have:=ih (fun x hx=>h x (List.mem_cons_of_mem _ hx))
  have hy:=h y (by simp)
  simp only[bM,List.length_cons,bt];omega
theorem iJ (n:Int) (k:Nat):n=bM (bc n k)+ew n k*bt k:=by
 induction k with
 |zero=>simp[bc,bM,ew,bt]
 |succ k ih=>
  rw[mf,jw,db]
  simp only[ew,kD,bt]
  have e:ew n k=ew n k % 2+2*(ew n k/2):=by omega
  have e2:ew n k*bt k=(ew n k % 2)*bt k+ew n k/2*(2*bt k):=by
   rw[<-Int.mul_assoc,<-Int.add_mul]
   congr 1;omega
  omega
theorem qu (a b:Int):wrap64 (a+b*18446744073709551616)=wrap64 a:=by
 unfold wrap64;omega
theorem gL:bt 64=18446744073709551616:=by decide+kernel
end Go.Proofs.YtckognjamlckcaaGreatDoor.Bz
namespace Go.Proofs.YtckognjamlckcaaGreatDoor
open Go.RowKit Ar Z Bz
theorem pz {n:Int}:n.tdiv 2=(if n<0 then (n+1)/2 else n/2):=by
 split
 ·rename_i h
  have e:n= -(-n):=by omega
  rw[e,Int.neg_tdiv,Int.tdiv_eq_ediv_of_nonneg (by omega)];omega
 ·rename_i h;exact Int.tdiv_eq_ediv_of_nonneg (by omega)
theorem pP {n:Int}:n.tmod 2=(if n<0 then-((-n) % 2) else n % 2):=by
 split
 ·rename_i h
  have e:n= -(-n):=by omega
  rw[e,Int.neg_tmod,Int.tmod_eq_emod_of_nonneg (by omega)];omega
 ·rename_i h;exact Int.tmod_eq_emod_of_nonneg (by omega)
theorem Bi (n k:Int) (w:World) (hn:In n) (h0:0<=k) (h1:k<=1000):
  Calls Tryz.prog 135 #[.int .i64 n,.int .i64 k] w fun e w'=>e= .returned (.int .i64 (kD n k.toNat))/\w=w':=by
 obtain ⟨K,rfl⟩:=Int.eq_ofNat_of_zero_le h0
 rw[Int.toNat_natCast]
 go_enter Tryz.func135,Tryz.ntmps135
 go_wp2
 go_loop[0,5] (fun t i=>∃j:Nat,j<=K/\i= .int .i64 j/\t= .int .i64 (ew n j)) (fun _ i=>K-(intOf i).toNat)
 case atStart=>exact ⟨0,Nat.zero_le _,rfl,rfl⟩
 case round=>
  obtain ⟨j,hj,rfl,rfl⟩:=hrel
  have hi:=BG hn j
  have HS:=zH (show ew n (j+1)=ew n j/2 from rfl)
  have HB:=zH (show kD n j=ew n j % 2 from rfl)
  generalize ew n j=m at*
  clear hn
  unfold In at hi
  by_cases hlt:j<K
  ·by_cases hm:m<0
   ·have hm':decide (m<0)=true:=by simp[hm]
    by_cases ho:m % 2=0
    ·have q:(m.tmod 2 !=0)=false:=by rw[pP];simp[hm];omega
     have HO:=zH ho
     clear ho
     go_wp2
     go_round
     case rel=>exact ⟨j+1,by omega,by go_num,by rw[HS.o,pz,if_pos hm];have:=HO.o;congr 1;omega⟩
     case measure=>simp[intOf];omega
    ·have q:(m.tmod 2 !=0)=true:=by rw[pP];simp[hm];omega
     go_wp2
     go_round
     case rel=>exact ⟨j+1,by omega,by go_num,by rw[HS.o,pz,if_pos (by omega)];congr 1;omega⟩
     case measure=>simp[intOf];omega
   ·have hm':decide (m<0)=false:=by simp[hm]
    go_wp2
    go_round
    case rel=>exact ⟨j+1,by omega,by go_num,by rw[HS.o]⟩
    case measure=>simp[intOf];omega
  ·obtain rfl:j=K:=by omega
   by_cases ho:m % 2=0
   ·have q:(m.tmod 2==0)=true:=by rw[pP];simp;omega
    have HO:=zH ho
    clear ho
    go_wp2
    go_ret
    exact ⟨az (by rw[HB.o,HO.o]),rfl⟩
   ·have q:(m.tmod 2==0)=false:=by rw[pP];simp;omega
    go_wp2
    go_ret
    exact ⟨az (by rw[HB.o];omega),rfl⟩
theorem ja (n:Int) (w:World) (hn:In n):
  Calls Tryz.prog 129 #[.int .i64 n] w fun e w'=>∃v,e= .returned v/\w'.ownsRow w.heap.size 3 1 v 64 (al (bc n 64))/\Below w.heap.size w w':=by
 refine' zq106
 go_enter Tryz.func129,Tryz.ntmps129
 go_wp2_with fail
 go_loopw[3,4] (fun v i wr=>∃k:Nat,k<=64/\i= .int .i64 k/\wr.ownsRow w.heap.size 3 1 v k (al (bc n k))/\Below w.heap.size w wr) (fun _ i _=>64-(intOf i).toNat)
 case atStart=>exact ⟨0,Nat.zero_le _,rfl,World.ownsRow_nil _ _ _ _,Below.refl _ _⟩
 case round=>
  obtain ⟨k,hk,rfl,hown,hbel⟩:=hrel
  by_cases hlt:k<64
  ·have HS:=zH (mf n k)
   have hsz:=hbel.size
   go_wp2_with (first
    |(go_at_call 135;refine (Bi _ _ _ hn (by omega) (by omega)).mono ?_;rintro e w' ⟨rfl,rfl⟩)
    |(at_builtin;refine wpList_append_own _ rfl _ _ 26 rfl w.heap.size 3 i0 (.int .i64 0) 1 8 Tryz.underlying26 hi0 hz0 hz1 hz2 rfl (by decide) _ _ _ rfl (hown.alloc _) ⟨wr.heap.size,0,none⟩ 1 1 [.int .i64 (kD n k)] rfl rfl ?c1 ?c2 ?c3 ?c4 ?c5 ?_))
   case c1=>exact fe _ _ _
   case c2=>simp[Value.oneCell']
   case c3=>unfold maxLen;omega
   case c4=>omega
   case c5=>simp;omega
   intro v' w1 hown' hgrow _
   have hb1:Below w.heap.size w w1:=aY (hbel.alloc hsz _) (hown.alloc _) hgrow (by simp;omega)
   have ho1:w1.ownsRow w.heap.size 3 1 v' (k+1) (al (bc n (k+1))):=by rw[HS.o,bS];exact hown'
   clear hown hbel hown' hgrow
   go_wp2_with fail
   go_roundw
   case rel=>exact ⟨k+1,by omega,by go_num,ho1,hb1⟩
   case measure=>simp[intOf];omega
  ·obtain rfl:k=64:=by omega
   go_wp2_with fail
   go_ret
   exact ⟨_,rfl,hown,hbel⟩
def jP (l:List Int) (j:Nat):Int:=bM ((l.take 63).drop j)
theorem Cq {l:List Int} {j:Nat} {x:Int} (hj:j<63) (h:l[j]? =some x):jP l j=x+2*jP l (j+1):=by
 have hl:j<l.length:=(List.getElem?_eq_some_iff.1 h).1
 have hx:l[j]=x:=(List.getElem?_eq_some_iff.1 h).2
 unfold jP
 rw[List.drop_eq_getElem_cons (by simp;omega)]
 simp only[bM,List.getElem_take,hx]
theorem mE {l:List Int} (h:dk l) (j:Nat):0<=jP l j/\jP l j<9223372036854775808:=by
 have h1:dk ((l.take 63).drop j):=fun x hx=>h x (List.mem_of_mem_take (List.mem_of_mem_drop hx))
 have:=ni h1
 have h2:((l.take 63).drop j).length<=63:=by simp;omega
 have h3:∀k,k<=63->bt k<=9223372036854775808:=by decide+kernel
 have:=h3 _ h2
 unfold jP;omega
theorem C' (l:List Int):jP l 63=0:=by
 unfold jP;rw[List.drop_of_length_le (by simp;omega)];rfl
theorem Ci {l:List Int} {x:Int} (hl:l.length=64) (h:l[63]? =some x):bM l=jP l 0+x*9223372036854775808:=by
 have e:l=l.take 63++ [x]:=by
  have h1:l.take 64=l:=List.take_of_length_le (by omega)
  conv=>lhs;rw[<-h1]
  rw[List.take_add_one,h];rfl
 have e2:=jw (l.take 63) x
 rw[<-e] at e2
 have e3:(l.take 63).length=63:=by simp;omega
 rw[e2,e3];unfold jP;rw[List.drop_zero]
 rfl
theorem uJ (A:Option Addr) (c B:Nat) (l:List Int) (w:World) (hr:Rd w B 1 A 64 (al l)) (h01:dk l):
  Calls Tryz.prog 130 #[.slice A 64 c] w fun e w'=>e= .returned (.int .i64 (wrap64 (bM l)))/\w=w':=by
 have hlen:l.length=64:=by have:=hr.1;rw[fF] at this;omega
 obtain ⟨ad,u63,rfl,hadB,hx63,hc63⟩:=hr.at1 (k:=63) (by omega)
 obtain ⟨x63,hl63,rfl⟩:=dX hx63
 have HU:=zH (Ci hlen hl63)
 have h63:=fd h01 hl63
 have HE:=zH (C' l)
 have hb0:=mE h01 0
 have HL:=zH hlen
 have hc63':w.cell? ⟨ad.block,ad.off+63,none⟩=some (.int .i64 x63):=by simpa[Addr.add] using hc63
 clear hlen hx63 hl63 hc63
 go_enter Tryz.func130,Tryz.ntmps130
 go_wp2_with fail
 go_loop[3,4] (fun t i=>∃j:Nat,j<=63/\i= .int .i64 ((j:Int)-1)/\t= .int .i64 (jP l j)) (fun _ i=>(intOf i+1).toNat)
 case atStart=>exact ⟨63,by omega,by rfl,by rw[HE.o]⟩
 case round=>
  obtain ⟨j,hj,rfl,rfl⟩:=hrel
  by_cases hlt:1<=j
  ·obtain ⟨m,rfl⟩:∃m,j=m+1:=⟨j-1,by omega⟩
   obtain ⟨ad',u,e,_,hx,hc⟩:=hr.at1 (k:=m) (by omega)
   obtain rfl:ad=ad':=by injection e
   obtain ⟨x,hl,rfl⟩:=dX hx
   have h01x:=fd h01 hl
   have HS:=zH (Cq (by omega) hl)
   have hb:=mE h01 (m+1)
   have hb':=mE h01 m
   have hs1:x+2*jP l (m+1)<=jP l m:=by rw[HS.o];omega
   clear hl hx e
   have hi1:((m+1:Nat):Int)-1=m:=by omega
   rw[hi1]
   clear hi1
   go_wp2_with fail
   go_round
   case rel=>exact ⟨m,by omega,by go_num,by rw[HS.o,Int.add_comm]⟩
   case measure=>simp[intOf]
  ·obtain rfl:j=0:=by omega
   rw[show ((0:Nat):Int)-1= -1 from rfl]
   rcases h63 with rfl|rfl
   ·go_wp2_with fail
    go_ret
    exact ⟨az (by rw[HU.o,lV (by omega)];omega),rfl⟩
   ·go_wp2_with fail
    go_ret
    exact ⟨az (by rw[HU.o];unfold wrap64;omega),rfl⟩
def eC (x y:List Int):Nat->Int
 |0=>0
 |k+1=>(x.getD k 0+y.getD k 0+eC x y k)/2
def fX (x y:List Int) (k:Nat):List Int:=(List.range k).map fun j=>(x.getD j 0+y.getD j 0+eC x y j) % 2
theorem nr (x y:List Int) (k:Nat):fX x y (k+1)=fX x y k++ [(x.getD k 0+y.getD k 0+eC x y k) % 2]:=by simp[fX,List.range_succ]
theorem tl {l:List Int} (h:dk l) (k:Nat):0<=l.getD k 0/\l.getD k 0<=1:=by
 by_cases hk:k<l.length
 ·have:=h (l.getD k 0) (by simp[List.getD,hk])
  omega
 ·simp[List.getD,hk]
theorem yi {x y:List Int} (hx:dk x) (hy:dk y) (k:Nat):0<=eC x y k/\eC x y k<=1:=by
 induction k with
 |zero=>simp[eC]
 |succ k ih=>
  have h1:=tl hx k
  have h2:=tl hy k
  simp only[eC];omega
theorem zI (x y:List Int) (k:Nat):dk (fX x y k):=by
 intro z hz
 simp only[fX,List.mem_map] at hz
 obtain ⟨j,_,rfl⟩:=hz
 omega
theorem kT {l:List Int} {k:Nat} (hk:k<l.length):bM (l.take (k+1))=bM (l.take k)+l.getD k 0*bt k:=by
 rw[List.take_add_one,List.getElem?_eq_getElem hk]
 simp only[Option.toList]
 rw[jw,List.length_take,Nat.min_eq_left (by omega)]
 simp[List.getD,hk]
theorem Cw (x y:List Int) (k:Nat) (hx:k<=x.length) (hy:k<=y.length):bM (fX x y k)+eC x y k*bt k=bM (x.take k)+bM (y.take k):=by
 induction k with
 |zero=>simp[fX,bM,eC]
 |succ k ih=>
  have ih:=ih (by omega) (by omega)
  rw[nr,jw,kT (by omega),kT (by omega)]
  have e:(fX x y k).length=k:=by simp[fX]
  rw[e]
  generalize hs:x.getD k 0+y.getD k 0+eC x y k=s
  have hc:eC x y (k+1)=s/2:=by simp only[eC,hs]
  rw[hc]
  simp only[bt]
  have e2:s % 2*bt k+s/2*(2*bt k)=s*bt k:=by
   rw[<-Int.mul_assoc,<-Int.add_mul];congr 1;omega
  have e3:s*bt k=x.getD k 0*bt k+y.getD k 0*bt k+eC x y k*bt k:=by rw[<-hs,Int.add_mul,Int.add_mul]
  omega
theorem zZ (a b:Int):wrap64 (bM (fX (bc a 64) (bc b 64) 64))=gj a b:=by
 have h:=Cw (bc a 64) (bc b 64) 64 (by rw[db];omega) (by rw[db];omega)
 rw[List.take_of_length_le (by rw[db];omega),List.take_of_length_le (by rw[db];omega),gL] at h
 have ha:=iJ a 64
 have hb:=iJ b 64
 rw[gL] at ha hb
 unfold gj
 generalize bM (bc a 64)=ua at*
 generalize bM (bc b 64)=ub at*
 generalize ew a 64=p at*
 generalize ew b 64=q at*
 generalize eC (bc a 64) (bc b 64) 64=c at*
 generalize bM (fX (bc a 64) (bc b 64) 64)=s at*
 unfold wrap64;omega
theorem fg (a b:Int) (w:World) (ha:In a) (hb:In b):
  Calls Tryz.prog 123 #[.int .i64 a,.int .i64 b] w fun e w'=>e= .returned (.int .i64 (gj a b))/\Below w.heap.size w w':=by
 refine' zq106
 have HF:=zH (zZ a b)
 have hx01:=gE a 64
 have hy01:=gE b 64
 have hs01:=zI (bc a 64) (bc b 64) 64
 go_enter Tryz.func123,Tryz.ntmps123
 go_wp2_with fail
 refine (ja a _ ha).mono ?_
 rintro e w1 ⟨v1,rfl,ho1,hb1⟩
 obtain ⟨A1,c1,rfl,hc1,hm1,hr1⟩:=fJ ho1
 go_wp2_with fail
 refine (ja b _ hb).mono ?_
 refine' zq289
 generalize hX:bc a 64=X at*
 generalize hY:bc b 64=Y at*
 clear hX hY ho1 ho2 hr1 hb1 hb2 ha hb hm1 hm2
 have hsz:=hb12.size
 go_wp2_with fail
 go_loopw[7,8,9] (fun v t i wr=>∃k:Nat,k<=64/\i= .int .i64 k/\t= .int .i64 (eC X Y k)/\wr.ownsRow w2.heap.size 3 1 v k (al (fX X Y k))/\Below w2.heap.size w2 wr) (fun _ _ i _=>64-(intOf i).toNat)
 case atStart=>exact ⟨0,Nat.zero_le _,rfl,rfl,World.ownsRow_nil _ _ _ _,Below.refl _ _⟩
 case round=>
  obtain ⟨k,hk,rfl,rfl,hown,hbel⟩:=hrel
  have hc01:=yi hx01 hy01 k
  by_cases hlt:k<64
  ·have HS:=zH (nr X Y k)
   have HC:=zH (show eC X Y (k+1)=(X.getD k 0+Y.getD k 0+eC X Y k)/2 from rfl)
   obtain ⟨ad1,u1,rfl,hB1,hx1,hcell1⟩:=(hr1'.below hbel).at1 hlt
   obtain ⟨x1,hl1,rfl⟩:=dX hx1
   obtain ⟨ad2,u2,rfl,hB2,hx2,hcell2⟩:=(hr2.below hbel).at1 hlt
   obtain ⟨x2,hl2,rfl⟩:=dX hx2
   have g1:=fd hx01 hl1
   have g2:=fd hy01 hl2
   have e1:X.getD k 0=x1:=by simp[List.getD,hl1]
   have e2:Y.getD k 0=x2:=by simp[List.getD,hl2]
   rw[e1,e2] at HS HC
   have hsz2:=hbel.size
   clear hx1 hx2 hl1 hl2 e1 e2
   generalize eC X Y k=cc at*
   go_wp2_with fail
   have W1:IntKind.i64.wrap (x1+x2)=x1+x2:=IntWalk.i64_in _ (by omega)
   have W2:IntKind.i64.wrap (x1+x2+cc)=x1+x2+cc:=IntWalk.i64_in _ (by omega)
   have W3:0<=(k:Int):=by omega
   go_quiet (fail)
   clear W1 W2
   have hown1:=hown.drewN nq
   go_wp2_with (at_builtin;refine wpList_append_own _ rfl _ _ 26 rfl w2.heap.size 3 i0 (.int .i64 0) 1 8 Tryz.underlying26 hi0 hz0 hz1 hz2 rfl (by decide) _ _ _ rfl (hown1.alloc _) ⟨wr.heap.size,0,none⟩ 1 1 [.int .i64 ((x1+x2+cc) % 2)] rfl rfl ?c1 ?c2 ?c3 ?c4 ?c5 ?_)
   case c1=>exact fe _ _ _
   case c2=>simp[Value.oneCell']
   case c3=>unfold maxLen;omega
   case c4=>omega
   case c5=>simp;omega
   intro v' w3 hown' hgrow _
   have hb3:Below w2.heap.size w2 w3:=aY ((ap hbel nq).alloc hsz2 _) (hown1.alloc _) hgrow (by simp;omega)
   have ho3:w3.ownsRow w2.heap.size 3 1 v' (k+1) (al (fX X Y (k+1))):=by rw[HS.o,bS];exact hown'
   clear hown hbel hown' hgrow hown1
   go_wp2_with fail
   go_roundw
   case rel=>exact ⟨k+1,by omega,by go_num,by rw[HC.o],ho3,hb3⟩
   case measure=>simp[intOf];omega
  ·refine' zq292
   go_ret
   exact ⟨az HF.o,hb12.trans (hbel.mono hsz)⟩
def fN (x:List Int) (k:Nat):List Int:=(x.take k).map fun t=>1-t
theorem vz {x:List Int} {k:Nat} {t:Int} (h:x[k]? =some t):fN x (k+1)=fN x k++ [1-t]:=by
 unfold fN;rw[List.take_add_one,h];simp
theorem vH {x:List Int} (h:dk x) (k:Nat):dk (fN x k):=by
 intro z hz
 simp only[fN,List.mem_map] at hz
 obtain ⟨t,ht,rfl⟩:=hz
 have:=h t (List.mem_of_mem_take ht)
 omega
theorem xu (x:List Int):bM (x.map fun t=>1-t)+bM x=bt x.length-1:=by
 induction x with
 |nil=>simp[bM,bt]
 |cons y x ih=>simp only[List.map_cons,bM,List.length_cons,bt];omega
theorem yl (a:Int):gj (wrap64 (bM (fN (bc a 64) 64))) 1=ev a:=by
 have h:=xu (bc a 64)
 have e:fN (bc a 64) 64=(bc a 64).map fun t=>1-t:=by
  unfold fN;rw[List.take_of_length_le (by rw[db];omega)]
 rw[<-e,db,gL] at h
 have ha:=iJ a 64
 rw[gL] at ha
 unfold gj ev
 generalize bM (bc a 64)=ua at*
 generalize ew a 64=p at*
 generalize bM (fN (bc a 64) 64)=s at*
 unfold wrap64;omega
theorem je (a:Int) (w:World) (ha:In a):
  Calls Tryz.prog 121 #[.int .i64 a] w fun e w'=>e= .returned (.int .i64 (ev a))/\Below w.heap.size w w':=by
 refine' zq106
 have HF:=zH (yl a)
 have hx01:=gE a 64
 have hs01:=vH hx01 64
 go_enter Tryz.func121,Tryz.ntmps121
 go_wp2_with fail
 refine (ja a _ ha).mono ?_
 rintro e w2 ⟨v1,rfl,ho1,hb12⟩
 obtain ⟨A1,c1,rfl,hc1,hm1,hr1⟩:=fJ ho1
 generalize hX:bc a 64=X at*
 clear hX ho1 hm1 ha
 have hsz:=hb12.size
 go_wp2_with fail
 go_loopw[4,5] (fun v i wr=>∃k:Nat,k<=64/\i= .int .i64 k/\wr.ownsRow w2.heap.size 3 1 v k (al (fN X k))/\Below w2.heap.size w2 wr) (fun _ i _=>64-(intOf i).toNat)
 case atStart=>exact ⟨0,Nat.zero_le _,rfl,World.ownsRow_nil _ _ _ _,Below.refl _ _⟩
 case round=>
  obtain ⟨k,hk,rfl,hown,hbel⟩:=hrel
  by_cases hlt:k<64
  ·obtain ⟨ad1,u1,rfl,hB1,hx1,hcell1⟩:=(hr1.below hbel).at1 hlt
   obtain ⟨x1,hl1,rfl⟩:=dX hx1
   have g1:=fd hx01 hl1
   have HS:=zH (vz hl1)
   have hsz2:=hbel.size
   clear hx1 hl1
   go_wp2_with (at_builtin;refine wpList_append_own _ rfl _ _ 26 rfl w2.heap.size 3 i0 (.int .i64 0) 1 8 Tryz.underlying26 hi0 hz0 hz1 hz2 rfl (by decide) _ _ _ rfl (hown.alloc _) ⟨wr.heap.size,0,none⟩ 1 1 [.int .i64 (1-x1)] rfl rfl ?c1 ?c2 ?c3 ?c4 ?c5 ?_)
   case c1=>exact fe _ _ _
   case c2=>simp[Value.oneCell']
   case c3=>unfold maxLen;omega
   case c4=>omega
   case c5=>simp;omega
   refine' zq235
   have ho3:w3.ownsRow w2.heap.size 3 1 v' (k+1) (al (fN X (k+1))):=by rw[HS.o,bS];exact hown'
   clear hown hbel hown' hgrow
   go_wp2_with fail
   go_roundw
   case rel=>exact ⟨k+1,by omega,by go_num,ho3,hb3⟩
   case measure=>simp[intOf];omega
  ·refine' zq292
   refine (fg _ 1 _ (dS _) (by unfold In;omega)).mono ?_
   rintro e w3 ⟨rfl,hb3⟩
   go_wp2_with fail
   go_ret
   exact ⟨az HF.o,hb12.trans ((hbel.mono hsz).trans (hb3.mono (by have:=hbel.size;omega)))⟩
theorem sm (a u p:Int):gj (wrap64 (a*u)) (wrap64 (a*p))=wrap64 (a*(u+p)):=by
 simp only[gj,pm,Int.bmod_add_bmod,Int.add_bmod_bmod,Int.mul_add]
theorem BU (a b:Int):wrap64 (a*bM (bc b 64))=kF a b:=by
 have hb:=iJ b 64
 rw[gL] at hb
 unfold kF
 have e:a*b=a*bM (bc b 64)+(a*ew b 64)*18446744073709551616:=by
  conv=>lhs;rw[hb]
  rw[Int.mul_add,Int.mul_assoc]
 rw[e,qu]
theorem Co (k:Nat):bt (k+1)=bt k+bt k:=by simp only[bt];omega
theorem rQ (a b:Int) (w:World) (ha:In a) (hb:In b):
  Calls Tryz.prog 124 #[.int .i64 a,.int .i64 b] w fun e w'=>e= .returned (.int .i64 (kF a b))/\Below w.heap.size w w':=by
 have HF:=zH (BU a b)
 have hx01:=gE b 64
 have hlen:=db b 64
 go_enter Tryz.func124,Tryz.ntmps124
 go_wp2_with fail
 refine (ja b _ hb).mono ?_
 rintro e w2 ⟨v1,rfl,ho1,hb12⟩
 obtain ⟨A1,c1,rfl,hc1,hm1,hr1⟩:=fJ ho1
 generalize hX:bc b 64=X at*
 have HL:=zH hlen
 clear hX ho1 hm1 hb hlen
 have hsz:=hb12.size
 go_wp2_with fail
 go_loopw[0,6,7] (fun t s i wr=>∃k:Nat,k<=64/\i= .int .i64 k/\t= .int .i64 (wrap64 (a*bt k))/\s= .int .i64 (wrap64 (a*bM (X.take k)))/\Below w2.heap.size w2 wr) (fun _ _ i _=>64-(intOf i).toNat)
 case atStart=>exact ⟨0,Nat.zero_le _,rfl,by simp only[bt,Int.mul_one];rw[lV ha],by simp only[List.take_zero,bM,Int.mul_zero];rw[lV (by omega)],Below.refl _ _⟩
 case round=>
  obtain ⟨k,hk,rfl,rfl,rfl,hbel⟩:=hrel
  by_cases hlt:k<64
  ·obtain ⟨ad1,u1,rfl,hB1,hx1,hcell1⟩:=(hr1.below hbel).at1 hlt
   obtain ⟨x1,hl1,rfl⟩:=dX hx1
   have g1:=fd hx01 hl1
   have hu:bM (X.take (k+1))=bM (X.take k)+x1*bt k:=by
    rw[kT (by rw[HL.o];exact hlt)];simp[List.getD,hl1]
   have HS:=zH hu
   have HD:=zH (sm a (bt k) (bt k))
   have HM:=zH (sm a (bM (X.take k)) (bt k))
   have HP:=zH (Co k)
   have hsz2:=hbel.size
   have hin:=dS (a*bt k)
   have hin2:=dS (a*bM (X.take k))
   clear hx1 hl1 hu
   generalize wrap64 (a*bt k)=P at*
   generalize hU:wrap64 (a*bM (X.take k))=U at*
   have HU:=zH hU
   clear hU
   rcases g1 with rfl|rfl
   ·go_wp2_with fail
    refine (fg P P _ hin hin).mono ?_
    rintro e w3 ⟨rfl,hb3⟩
    go_wp2_with fail
    go_roundw
    case rel=>exact ⟨k+1,by omega,by go_num,by rw[HD.o,<-HP.o],by rw[HS.o,Int.zero_mul,Int.add_zero,HU.o],hbel.trans (hb3.mono hsz2)⟩
    case measure=>simp[intOf];omega
   ·go_wp2_with fail
    refine (fg U P _ hin2 hin).mono ?_
    rintro e w3 ⟨rfl,hb3⟩
    go_wp2_with fail
    refine (fg P P _ hin hin).mono ?_
    rintro e w4 ⟨rfl,hb4⟩
    go_wp2_with fail
    go_roundw
    case rel=>exact ⟨k+1,by omega,by go_num,by rw[HD.o,<-HP.o],by rw[HM.o,HS.o,Int.one_mul],hbel.trans ((hb3.trans (hb4.mono hb3.size)).mono hsz2)⟩
    case measure=>simp[intOf];omega
  ·obtain rfl:k=64:=by omega
   go_wp2_with fail
   go_ret
   exact ⟨az (by rw[<-HF.o,List.take_of_length_le (by rw[HL.o];omega)]),hb12.trans (hbel.mono hsz)⟩
def bk:List Int->Int
 | []=>0
 |x::l=>x*bt l.length+bk l
theorem kR (l:List Int) (x:Int):bk (l++ [x])=2*bk l+x:=by
 induction l with
 |nil=>simp[bk,bt]
 |cons y l ih=>
  simp only[List.cons_append,bk,ih,List.length_append,List.length_cons,List.length_nil]
  simp only[bt]
  rw[Int.mul_add,<-Int.mul_assoc,Int.mul_comm y 2,Int.mul_assoc];omega
theorem gg {l:List Int} (h:dk l):0<=bk l/\bk l<bt l.length:=by
 induction l with
 |nil=>simp[bk,bt]
 |cons y l ih=>
  have:=ih (fun x hx=>h x (List.mem_cons_of_mem _ hx))
  have hp:=zN l.length
  rcases h y (by simp) with rfl|rfl
  ·simp only[bk,List.length_cons,bt,Int.zero_mul];omega
  ·simp only[bk,List.length_cons,bt,Int.one_mul];omega
theorem rm (l:List Int):bk l.reverse=bM l:=by
 induction l with
 |nil=>rfl
 |cons y l ih=>simp only[List.reverse_cons,kR,ih,bM];omega
def gX (a:Int):List Int:=0::(bc (if a<0 then ev a else a) 64).reverse
theorem pE (a:Int):(gX a).length=65:=by simp[gX,db]
theorem pq (a:Int):dk (gX a):=by
 intro x hx
 rcases List.mem_cons.1 hx with rfl|hx
 ·exact .inl rfl
 ·exact gE _ _ x (List.mem_reverse.1 hx)
theorem oV {a:Int} (h:In a):bk (gX a)=a.natAbs:=by
 unfold gX
 simp only[bk,Int.zero_mul,Int.zero_add,rm]
 have hb:=ni (gE (if a<0 then ev a else a) 64)
 rw[db,gL] at hb
 have e:=iJ (if a<0 then ev a else a) 64
 rw[gL] at e
 generalize bM (bc (if a<0 then ev a else a) 64)=u at*
 generalize ew (if a<0 then ev a else a) 64=q at*
 unfold In at h
 by_cases hn:a<0
 ·rw[if_pos hn] at e
  unfold ev wrap64 at e;omega
 ·rw[if_neg hn] at e;omega
theorem yc {X:List Int} {m:Nat} {x:Int} (h:X[m]? =some x):0::(X.drop m).reverse=(0::(X.drop (m+1)).reverse)++ [x]:=by
 have hl:m<X.length:=(List.getElem?_eq_some_iff.1 h).1
 have hx:X[m]=x:=(List.getElem?_eq_some_iff.1 h).2
 rw[List.drop_eq_getElem_cons hl,hx];simp
theorem qL (a:Int) (w:World) (ha:In a):
  Calls Tryz.prog 131 #[.int .i64 a] w fun e w'=>∃v,e= .returned v/\w'.ownsRow w.heap.size 3 1 v 65 (al (gX a))/\Below w.heap.size w w':=by
 refine' zq106
 have HF:=zH (show gX a=0::(bc (if a<0 then ev a else a) 64).reverse from rfl)
 have HW:∀(b:Int) (w1:World),In b->Below w.heap.size w w1->(if a<0 then ev a else a)=b->Calls Tryz.prog 129 #[.int .i64 b] w1 fun e w'=>∃v,e= .returned v/\w'.ownsRow w1.heap.size 3 1 v 64 (al (bc b 64))/\Below w1.heap.size w1 w'/\Below w.heap.size w w'/\gX a=0::(bc b 64).reverse:=
  fun b w1 hb h1 e=>(ja b w1 hb).mono fun _ _ ⟨v,h,ho,hbb⟩=>⟨v,h,ho,hbb,h1.trans (hbb.mono h1.size),by rw[HF.o,e]⟩
 have HW':=zH HW
 clear HW HF
 by_cases hn:a<0
 ·go_enter Tryz.func131,Tryz.ntmps131
  go_wp2_with fail
  refine (je a _ ha).mono ?_
  rintro e w1 ⟨rfl,hb1⟩
  go_wp2_with fail
  refine (HW'.o (ev a) w1 (nv a) hb1 (if_pos hn)).mono ?_
  generalize ev a=b
  rintro e w2 ⟨v1,rfl,ho1,hb12,hb2,hF⟩
  obtain ⟨A1,c1,rfl,hc1,hm1,hr1⟩:=fJ ho1
  have HF:=zH hF
  have hlen:=db b 64
  generalize bc b 64=X at*
  have HL:=zH hlen
  clear ho1 hm1 ha hF hlen hb12 hb1 hn HW'
  refine' zq31
 ·go_enter Tryz.func131,Tryz.ntmps131
  go_wp2_with fail
  refine (HW'.o a w ha (Below.refl _ _) (if_neg (by omega))).mono ?_
  generalize hab:bc a 64=X0
  rintro e w2 ⟨v1,rfl,ho1,hb12,hb2,hF⟩
  obtain ⟨A1,c1,rfl,hc1,hm1,hr1⟩:=fJ ho1
  subst hab
  have HF:=zH hF
  have hlen:=db a 64
  generalize bc a 64=X at*
  have HL:=zH hlen
  clear ho1 hm1 ha hF hlen hb12 hn HW'
  refine' zq31
def jC:List Int->List Int->Bool
 |x::l,y::r=>if x=y then jC l r else decide (x<y)
 |_,_=>false
theorem vQ {x y:List Int} (hx:dk x) (hy:dk y) (hl:x.length=y.length):jC x y=decide (bk x<bk y):=by
 induction x generalizing y with
 |nil=>
  match y,hl with
  | [],_=>rfl
 |cons a x ih=>
  match y,hl with
  |b::y,hl=>
   have hl':x.length=y.length:=by simpa using hl
   have ih:=ih (y:=y) (fun z hz=>hx z (List.mem_cons_of_mem _ hz)) (fun z hz=>hy z (List.mem_cons_of_mem _ hz)) hl'
   have b1:=gg (l:=x) (fun z hz=>hx z (List.mem_cons_of_mem _ hz))
   have b2:=gg (l:=y) (fun z hz=>hy z (List.mem_cons_of_mem _ hz))
   simp only[jC,bk,ih,hl'] at*
   rcases hx a (by simp) with rfl|rfl<;>rcases hy b (by simp) with rfl|rfl<;>simp<;>omega
theorem qU {x y:List Int} {k:Nat} {a b:Int} (hx:x[k]? =some a) (hy:y[k]? =some b):jC (x.drop k) (y.drop k)=if a=b then jC (x.drop (k+1)) (y.drop (k+1)) else decide (a<b):=by
 refine' zq303
theorem Ah (A1 A2:Option Addr) (c1 c2 B:Nat) (X Y:List Int) (w:World) (h1:Rd w B 1 A1 65 (al X)) (h2:Rd w B 1 A2 65 (al Y)):
  Calls Tryz.prog 132 #[.slice A1 65 c1,.slice A2 65 c2] w fun e w'=>e= .returned (.bool (jC X Y))/\Below w.heap.size w w':=by
 have hl1:X.length=65:=by have:=h1.1;rw[fF] at this;omega
 have HL:=zH hl1
 clear hl1
 go_enter Tryz.func132,Tryz.ntmps132
 go_wp2_with fail
 go_loopw[5] (fun i wr=>∃k q:Nat,k<=65/\i= .int .i64 k/\jC X Y=jC (X.drop k) (Y.drop k)/\wr=w.drewN q) (fun i _=>65-(intOf i).toNat)
 case atStart=>exact ⟨0,0,Nat.zero_le _,rfl,rfl,rfl⟩
 case round=>
  obtain ⟨k,q,hk,rfl,hE,rfl⟩:=hrel
  by_cases hlt:k<65
  ·obtain ⟨ad1,u1,rfl,hB1,hx1,hcell1⟩:=h1.at1 hlt
   obtain ⟨x1,hl1,rfl⟩:=dX hx1
   obtain ⟨ad2,u2,rfl,hB2,hx2,hcell2⟩:=h2.at1 hlt
   obtain ⟨x2,hl2,rfl⟩:=dX hx2
   have hE2:=hE.trans (qU hl1 hl2)
   have W3:0<=(k:Int):=by omega
   clear hE hl1 hl2 hx1 hx2
   by_cases he:x1=x2
   ·subst he
    rw[if_pos rfl] at hE2
    have HE:=zH hE2
    clear hE2
    refine' zq199
    go_roundw
    case rel=>exact ⟨k+1,_,by omega,by go_num,HE.o,rfl⟩
    case measure=>simp[intOf];omega
   ·rw[if_neg he] at hE2
    have HE:=zH hE2
    have hne:(x1 !=x2)=true:=by simp[he]
    clear hE2 he
    refine' zq199
    go_quiet (fail)
    go_wp2_with fail
    go_ret
    exact ⟨aj HE.o.symm,ap (ap (ap (Below.refl _ _) _) _) _⟩
  ·obtain rfl:k=65:=by omega
   have HE:=zH hE
   clear hE
   go_wp2_with fail
   go_ret
   refine ⟨aj ?_,ap (Below.refl _ _) _⟩
   rw[HE.o,List.drop_of_length_le (l:=X) (by rw[HL.o];omega)]
   rfl
def dA:List Int->List Int->Int × List Int
 |x::l,y::r=>let p:=dA l r;if x-y-p.1<0 then (1,(x-y-p.1+2)::p.2) else (0,(x-y-p.1)::p.2)
 |_,_=>(0,[])
theorem mV (x y:List Int):(dA x y).1=0\/(dA x y).1=1:=by
 match x,y with
 |a::x,b::y=>simp only[dA];split<;>simp
 | [],_=>exact .inl (by simp[dA])
 |_::_,[]=>exact .inl (by simp[dA])
theorem po {x y:List Int} (hx:dk x) (hy:dk y) (hl:x.length=y.length):(dA x y).2.length=x.length/\dk (dA x y).2/\bk (dA x y).2=bk x-bk y+(dA x y).1*bt x.length:=by
 induction x generalizing y with
 |nil=>
  match y,hl with
  | [],_=>exact ⟨rfl,zJ,rfl⟩
 |cons a x ih=>
  match y,hl with
  |b::y,hl=>
   have hl':x.length=y.length:=by simpa using hl
   obtain ⟨i1,i2,i3⟩:=ih (y:=y) (fun z hz=>hx z (List.mem_cons_of_mem _ hz)) (fun z hz=>hy z (List.mem_cons_of_mem _ hz)) hl'
   have hf:=mV x y
   have ha:=hx a (by simp)
   have hb:=hy b (by simp)
   simp only[dA]
   generalize hs:(dA x y).1=s at*
   generalize ht:(dA x y).2=t at*
   have hv:∀n:Int,(n=0\/n=1)->dk (n::t):=fun n hn z hz=>by
    rcases List.mem_cons.1 hz with rfl|hz
    ·exact hn
    ·exact i2 z hz
   have e1:(a-b-s)*bt x.length=a*bt x.length-b*bt x.length-s*bt x.length:=by rw[Int.sub_mul,Int.sub_mul]
   rw[hl'] at e1 i1 i3
   split
   ·refine ⟨by simp[i1,hl'],hv _ (by omega),?_⟩
    simp only[bk,i1,List.length_cons,bt,Int.one_mul,Int.add_mul,hl']
    omega
   ·refine ⟨by simp[i1,hl'],hv _ (by omega),?_⟩
    simp only[bk,i1,List.length_cons,Int.zero_mul,hl']
    omega
theorem Dh {x y:List Int} (hx:dk x) (hy:dk y) (hl:x.length=y.length) (hge:bk y<=bk x):bk (dA x y).2=bk x-bk y:=by
 obtain ⟨h1,h2,h3⟩:=po hx hy hl
 have hb:=gg h2
 have hbx:=gg hx
 rw[h1] at hb
 rcases mV x y with h|h
 ·rw[h] at h3;omega
 ·rw[h] at h3;omega
theorem yU {X Y:List Int} {m:Nat} {a b:Int} (hx:X[m]? =some a) (hy:Y[m]? =some b):
  dA (X.drop m) (Y.drop m)=(if a-b-(dA (X.drop (m+1)) (Y.drop (m+1))).1<0 then (1,(a-b-(dA (X.drop (m+1)) (Y.drop (m+1))).1+2)::(dA (X.drop (m+1)) (Y.drop (m+1))).2) else (0,(a-b-(dA (X.drop (m+1)) (Y.drop (m+1))).1)::(dA (X.drop (m+1)) (Y.drop (m+1))).2)):=by
 refine' zq303
theorem CD {X t:List Int} {m:Nat} (v:Int) (h:m<X.length):(al (X.take (m+1)++t)).set m (.int .i64 v)=al (X.take m++v::t):=by
 have e:X.take (m+1)=X.take m++ [X[m]]:=by rw[List.take_add_one,List.getElem?_eq_getElem h];rfl
 have hl:(X.take m).length=m:=by simp;omega
 unfold al
 rw[e,List.append_assoc]
 simp only[List.map_append,List.map_cons,List.singleton_append]
 rw[List.set_append_right _ _ (by simp;omega)]
 simp[Nat.min_eq_left (Nat.le_of_lt h)]
theorem zR (A1 A2:Option Addr) (c1 c2:Nat) (X Y:List Int) (w:World) (hx01:dk X) (hy01:dk Y) (h1:Rd w w.heap.size 1 A1 65 (al X)) (h2:Rd w w.heap.size 1 A2 65 (al Y)):
  Calls Tryz.prog 133 #[.slice A1 65 c1,.slice A2 65 c2] w fun e w'=>∃v,e= .returned v/\w'.ownsRow w.heap.size 3 1 v 65 (al (dA X Y).2)/\Below w.heap.size w w':=by
 refine' zq106
 have hl1:X.length=65:=by have:=h1.1;rw[fF] at this;omega
 have hl2:Y.length=65:=by have:=h2.1;rw[fF] at this;omega
 have HL:=zH hl1
 have HL2:=zH hl2
 obtain ⟨ad1,e1,hadB,hcs⟩:=h1.2 (by omega)
 subst e1
 clear hl1 hl2
 go_enter Tryz.func133,Tryz.ntmps133
 have HC:=zH hcs
 clear hcs
 go_wp2_with (at_builtin;refine wpList_append_own _ rfl _ _ 26 rfl w.heap.size 3 i0 (.int .i64 0) 1 8 Tryz.underlying26 hi0 hz0 hz1 hz2 rfl (by decide) _ _ _ rfl (World.ownsRow_lit w #[] 0 (Nat.le_refl _) (by unfold maxLen;omega) rfl) ad1 65 c1 (al X) rfl ?c0 ?c1 ?c2 ?c3 ?c4 ?c5 ?_)
 case c0=>rw[fF,HL.o]
 case c1=>intro j u hu;rw[World.cell?_alloc_lt _ _ _ (by rw[fa];exact hadB)];exact HC.o j u hu
 case c2=>intro u hu;simp only[al,List.mem_map] at hu;obtain ⟨x,_,rfl⟩:=hu;rfl
 case c3=>unfold maxLen;omega
 case c4=>omega
 case c5=>simp
 intro v' w2 hown' hgrow _
 have hb2:Below w.heap.size w w2:=aY (e:=3) (size:=1) ((Below.refl _ _).alloc (Nat.le_refl _) _) (World.ownsRow_lit w #[] 0 (Nat.le_refl _) (by unfold maxLen;omega) rfl) hgrow (by simp)
 have hown:w2.ownsRow w.heap.size 3 1 v' 65 (al X):=hown'
 clear hown' hgrow
 obtain ⟨g,cap,rfl,hgb,hgl⟩:∃g cap,v'= .slice (some ⟨g,0,none⟩) 65 cap/\w.heap.size<=g/\65<=cap:=by
  rcases hown.2 with ⟨_,h0⟩|⟨g,cap,cur,h,hg,_,hc,_⟩
  ·omega
  ·exact ⟨g,cap,h,hg,hc⟩
 go_wp2_with fail
 go_loopw[6,7] (fun b i wr=>∃j:Nat,j<=65/\i= .int .i64 ((j:Int)-1)/\b= .int .i64 (dA (X.drop j) (Y.drop j)).1/\wr.ownsRow w.heap.size 3 1 (.slice (some ⟨g,0,none⟩) 65 cap) 65 (al (X.take j++(dA (X.drop j) (Y.drop j)).2))/\Below w.heap.size w wr) (fun _ i _=>(intOf i+1).toNat)
 case atStart=>
  refine ⟨65,by omega,by rfl,?_,?_,hb2⟩
  ·rw[List.drop_of_length_le (l:=X) (by rw[HL.o];omega)];rfl
  ·rw[List.drop_of_length_le (l:=X) (by rw[HL.o];omega),List.take_of_length_le (by rw[HL.o];omega)]
   have e:al (X++(dA [] (Y.drop 65)).2)=al X:=by simp[dA]
   rw[e];exact hown
 case round=>
  obtain ⟨j,hj,rfl,rfl,hown,hbel⟩:=hrel
  by_cases hlt:1<=j
  ·obtain ⟨m,rfl⟩:∃m,j=m+1:=⟨j-1,by omega⟩
   obtain ⟨ad1',u1,e1,hB1,hx1,hcell1⟩:=(h1.below hbel).at1 (k:=m) (by omega)
   obtain rfl:ad1=ad1':=by injection e1
   obtain ⟨x1,hl1,rfl⟩:=dX hx1
   obtain ⟨ad2,u2,rfl,hB2,hx2,hcell2⟩:=(h2.below hbel).at1 (k:=m) (by omega)
   obtain ⟨x2,hl2,rfl⟩:=dX hx2
   have HS:=zH (yU hl1 hl2)
   have g1:=fd hx01 hl1
   have g2:=fd hy01 hl2
   have g3:=mV (X.drop (m+1)) (Y.drop (m+1))
   have hsz:=hbel.size
   clear hx1 hx2 hl1 hl2 e1
   generalize hT:dA (X.drop (m+1)) (Y.drop (m+1))=T at*
   clear hT
   obtain ⟨b,t⟩:=T
   simp only at HS g3 hown
   have hold:=hown.cellAt m (by omega)
   have hfr:=hown.frozenAt m
   obtain ⟨old,hold'⟩:∃old,wr.cell? ⟨g,m,none⟩=some old:=by
    rw[hold,List.getElem?_eq_getElem (by rw[hown.1];omega)];exact ⟨_,rfl⟩
   clear hold
   have HM:=fun v=>CD (X:=X) (t:=t) (m:=m) v (by rw[HL.o];omega)
   have HM':=zH HM
   clear HM
   rw[show ((m+1:Nat):Int)-1=m from by omega]
   have W1:IntKind.i64.wrap (x1-x2)=x1-x2:=IntWalk.i64_in _ (by omega)
   have W2:IntKind.i64.wrap (x1-x2-b)=x1-x2-b:=IntWalk.i64_in _ (by omega)
   have W3:0<=(m:Int):=by omega
   by_cases hneg:x1-x2-b<0
   ·go_wp2_with fail
    go_quiet (fail)
    clear W1 W2
    go_wp2_with fail
    obtain ⟨hst,hsg⟩:=(hown.drewN nq).stored m (.int .i64 (x1-x2-b+2))
    go_roundw
    case rel=>
     refine ⟨m,by omega,by go_num,by rw[HS.o,if_pos hneg],?_,aY (ap hbel nq) (hown.drewN nq) hsg (by simpa using hsz)⟩
     rw[HS.o,if_pos hneg]
     rw[HM'.o] at hst
     exact hst
    case measure=>simp[intOf]
   ·go_wp2_with fail
    go_quiet (fail)
    clear W1 W2
    go_wp2_with fail
    obtain ⟨hst,hsg⟩:=(hown.drewN nq).stored m (.int .i64 (x1-x2-b))
    go_roundw
    case rel=>
     refine ⟨m,by omega,by go_num,by rw[HS.o,if_neg (by omega)],?_,aY (ap hbel nq) (hown.drewN nq) hsg (by simpa using hsz)⟩
     rw[HS.o,if_neg (by omega)]
     rw[HM'.o] at hst
     exact hst
    case measure=>simp[intOf]
  ·obtain rfl:j=0:=by omega
   rw[show ((0:Nat):Int)-1= -1 from rfl]
   simp only[List.take_zero,List.drop_zero,List.nil_append] at hown
   go_wp2_with fail
   go_ret
   exact ⟨_,rfl,hown,hbel⟩
open Go.RowKit
def eg (w:World) (base:Nat) (e:TypeId) (g off n cap:Nat) (xs:List Value):Prop:=
 xs.length=n/\base<=g/\n<=cap/\cap<=maxLen/\∃cur,w.heap[g]? =some (.cells cur e (0,0))/\off+cap=cur.size/\(cur.toList.drop off).take n=xs
theorem pI {α:Type} {l:List α} {off n:Nat} {x:α} (h:off+n<l.length):((l.set (off+n) x).drop off).take (n+1)=(l.drop off).take n++ [x]:=by
 have e:(l.set (off+n) x).drop off=(l.drop off).set n x:=by
  rw[List.drop_set,if_neg (by omega),Nat.add_sub_cancel_left]
 rw[List.take_add_one,e,List.getElem?_set_self (by simp;omega),List.take_set,List.set_eq_of_length_le (by simp;omega)]
 rfl
section
variable {w w':World} {base:Nat} {e:TypeId} {g off n cap:Nat} {xs:List Value}
theorem eg.lt (h:eg w base e g off n cap xs):g<w.heap.size:=by
 obtain ⟨_,_,_,_,cur,hh,_⟩:=h
 rcases Nat.lt_or_ge g w.heap.size with hlt|hge
 ·exact hlt
 ·rw[Array.getElem?_eq_none hge] at hh;cases hh
theorem eg.drew (h:eg w base e g off n cap xs):eg w.drew base e g off n cap xs:=h
theorem eg.block (h:eg w base e g off n cap xs) (hb:w'.heap[g]? =w.heap[g]?):eg w' base e g off n cap xs:=by
 obtain ⟨h1,h2,h3,h4,cur,hh,h5⟩:=h
 exact ⟨h1,h2,h3,h4,cur,hb.trans hh,h5⟩
theorem eg.alloc (h:eg w base e g off n cap xs) (o:Obj):eg (w.alloc o) base e g off n cap xs:=h.block (Below.heap_alloc w o g h.lt)
theorem eg.below {B:Nat} (h:eg w base e g off n cap xs) (hb:Below B w w') (hg:g<B):eg w' base e g off n cap xs:=h.block (hb.block g hg)
theorem eg.cell (h:eg w base e g off n cap xs) (j:Nat) (hj:j<cap):∃u,w.cell? ⟨g,off+j,none⟩=some u:=by
 obtain ⟨h1,h2,h3,h4,cur,hh,h5,h6⟩:=h
 refine ⟨cur[off+j]'(by omega),?_⟩
 rw[cell_of_row w g (off+j) cur e (0,0) hh]
 exact Array.getElem?_eq_getElem (by omega)
theorem eg.frozen (h:eg w base e g off n cap xs) (j:Nat):w.frozen? ⟨g,j,none⟩=false:=by
 obtain ⟨h1,h2,h3,h4,cur,hh,h5,h6⟩:=h
 simp[World.frozen?,hh]
theorem eg.cells (h:eg w base e g off n cap xs):∀j u,xs[j]? =some u->w.cell? ⟨g,off+j,none⟩=some u:=by
 obtain ⟨h1,h2,h3,h4,cur,hh,h5,h6⟩:=h
 intro j u hu
 have hj:j<n:=by rw[<-h1];exact (List.getElem?_eq_some_iff.1 hu).1
 rw[cell_of_row w g (off+j) cur e (0,0) hh]
 rw[<-h6,List.getElem?_take_of_lt hj,List.getElem?_drop] at hu
 simpa using hu
theorem eg.rd (h:eg w base e g off n cap xs):Rd w w.heap.size 1 (some ⟨g,off,none⟩) n xs:=
 ⟨by rw[h.1];omega,fun _=>⟨_,rfl,h.lt,fun j u hu=>by rw[Addr.add_lit];exact h.cells j u hu⟩⟩
theorem kH {n:Nat} (h:w.ownsRow base e 1 (.slice (some ⟨g,0,none⟩) n cap) n xs):eg w base e g 0 n cap xs:=by
 obtain ⟨hl,h⟩:=h
 rcases h with ⟨h,_⟩|⟨g',cap',cur,h,hb,hh,hnc,hcm,hcs,ht⟩
 ·cases h
 ·simp only[Value.slice.injEq,Option.some.injEq,Addr.mk.injEq,and_true,true_and] at h
  obtain ⟨rfl,rfl⟩:=h
  exact ⟨by omega,hb,hnc,hcm,cur,hh,by omega,by simpa using ht⟩
theorem eg.tail {x:Value} (h:eg w base e g off (n+1) cap (x::xs)):eg w base e g (off+1) n (cap-1) xs:=by
 obtain ⟨h1,h2,h3,h4,cur,hh,h5,h6⟩:=h
 refine ⟨by simpa using h1,h2,by omega,by omega,cur,hh,by omega,?_⟩
 have hlt:off<cur.toList.length:=by simp;omega
 rw[List.drop_eq_getElem_cons hlt,List.take_succ_cons] at h6
 exact (List.cons.inj h6).2
theorem oD {P:Program} (t ty:TypeId) (i:TypeInfo) (z:Value) (bytes:Nat) (ht:P.underlying t=some (.slice e)) (hi:P.info? e=some i) (hz:i.zero=some z)
  (hsize:i.size=1) (hby:i.bytes=bytes) (hzs:z.cells.size=1) (h:eg w base e g off n cap xs)
  (ad:Addr) (c:Nat) (x:Value) (hx:w.cell? ad=some x) (h1:x.oneCell'=true) (h63:n+1<=maxLen) (hbytes:(n+1)*bytes<=140737488355328) (hbase:base<=w.heap.size):
  ∃g' off' cap' w',(Builtin.append_ #[t,t] ty #[.slice (some ⟨g,off,none⟩) n cap,.slice (some ad) 1 c]).run P w= .ok (.slice (some ⟨g',off',none⟩) (n+1) cap') w'/\
   eg w' base e g' off' (n+1) cap' (xs++ [x])/\w.grownBy w' (some g):=by
 have hnews:∀j u,[x][j]? =some u->w.cell? (ad.add j)=some u:=by
  intro j u hu
  match j,hu with
  |0,hu=>simp at hu;subst hu;simpa[Addr.add] using hx
 by_cases hr:n+1<=cap
 ·have hf:=fun j=>h.frozen j
  have hc:=h.cell n (by omega)
  have hrun:=run_append_room_cells (P:=P) w t ty e i ht hi g off n cap ad 1 c [x] (by simp[hsize]) hnews (by simpa using h1) hr
   (fun j hj=>by
    have:j=0:=by simpa using hj
    subst this
    obtain ⟨u,hu⟩:=hc
    simp[hsize,hu]) (fun j _=>hf _)
  refine ⟨g,off,cap,_,hrun,?_,?_⟩
  ·obtain ⟨k1,k2,k3,k4,cur,hh,k5,k6⟩:=h
   refine ⟨by simp[k1],k2,hr,k4,cur.setIfInBounds (off+n) x,?_,by simpa using k5,?_⟩
   ·simp[hsize,World.setCells,World.setCell,Array.getElem?_modify,hh]
   ·rw[Array.toList_setIfInBounds,pI (by simp;omega),k6]
  ·simp only[hsize,World.setCells,Nat.mul_one]
   exact ⟨rfl,rfl,rfl,by simp[World.setCell],fun k hk hne=>Below.heap_setCell w _ _ k (by intro he;apply hne;simp[he])⟩
 ·obtain ⟨v',w',hrun,hown,hg⟩:=run_append_arg_grows (P:=P) w t ty e i z 1 bytes ht hi hz hsize hby hzs (by omega) ⟨g,off,none⟩ n cap xs (by rw[h.1];omega) (fun j u hu=>by rw[Addr.add_lit];exact h.cells j u hu) ad 1 c [x] (by simp) hnews (by omega) h63 hbytes
  obtain ⟨g',cap',rfl⟩:∃g' cap',v'= .slice (some ⟨g',0,none⟩) (n+1) cap':=by
   rcases hown.2 with ⟨_,h0⟩|⟨g',cap',_,h,_⟩
   ·omega
   ·exact ⟨g',cap',h⟩
  exact ⟨g',0,cap',w',hrun,kH (dg hown hbase),⟨hg.os,hg.tape,hg.output,hg.size,fun k hk _=>hg.block k hk (by simp)⟩⟩
theorem nx {P:Program} {ops:Array Oper} {o:Oper} {a:Act} {K:Act->World->Prop} {Q:Exit->Act->World->Prop} {E:Prop} (hgd:o.guard=none) (s x:Operand) (t:TypeId)
  (ho:o.op= .call {callee:= .builtin .append,args:= #[s,x],argTypes:= #[t,t]})
  (i:TypeInfo) (z:Value) (bytes:Nat) (ht:P.underlying t=some (.slice e)) (hi:P.info? e=some i) (hz:i.zero=some z)
  (hsize:i.size=1) (hby:i.bytes=bytes) (hzs:z.cells.size=1) (hs:a.eval s= .slice (some ⟨g,off,none⟩) n cap)
  (ad:Addr) (c:Nat) (u:Value) (hx:a.eval x= .slice (some ad) 1 c) (h:eg w base e g off n cap xs) (hu:w.cell? ad=some u) (h1:u.oneCell'=true) (h63:n+1<=maxLen) (hbytes:(n+1)*bytes<=140737488355328) (hbase:base<=w.heap.size)
  (hK:∀g' off' cap' w',eg w' base e g' off' (n+1) cap' (xs++ [u])->w.grownBy w' (some g)->K (a.put o.dst (.slice (some ⟨g',off',none⟩) (n+1) cap')) w'):
  if Region.wanted o (yielded ops a.tmps)=true then Oper.wp P o a w K Q else E:=by
 have hw:Region.wanted o (yielded ops a.tmps)=true:=by simp[Region.wanted,hgd]
 rw[if_pos hw]
 obtain ⟨g',off',cap',w',hrun,h2,h3⟩:=oD (P:=P) t o.type i z bytes ht hi hz hsize hby hzs h ad c u hu h1 h63 hbytes hbase
 unfold Oper.wp execOp
 simp only[ho,resolve,invoke,builtin,Sem.run_bind,Sem.run_pure,Result.andThen_ok,List.map_toArray,List.map_cons,List.map_nil,hs,hx,hrun]
 exact hK _ _ _ _ h2 h3
end
theorem xp (k:Nat):List.replicate (k+1) (0:Int)=List.replicate k 0++ [0]:=by
 rw[<-List.replicate_succ']
def lB (X Y R:List Int) (Q:Int) (k:Nat):Prop:=
 bk (X.take k)=Q*bk Y+bk R/\dk R/\R.length=65/\bk R<bk Y
theorem zn {X Y R:List Int} {Q:Int} {k:Nat} {x r0:Int} {R1:List Int} (h:lB X Y R Q k) (hR:R=r0::R1) (hx:X[k]? =some x) (h01:x=0\/x=1) (hY:bk Y<=9223372036854775808):
  bk (X.take (k+1))=(2*Q)*bk Y+bk (R1++ [x])/\dk (R1++ [x])/\(R1++ [x]).length=65/\bk (R1++ [x])<2*bk Y:=by
 subst hR
 obtain ⟨h1,h2,h3,h4⟩:=h
 have hl:R1.length=64:=by simpa using h3
 have h2':dk R1:=fun z hz=>h2 z (List.mem_cons_of_mem _ hz)
 have hb:=gg h2'
 have hr0:r0=0:=by
  rcases h2 r0 (by simp) with h|h
  ·exact h
  ·subst h;simp only[bk,hl,gL,Int.one_mul] at h4;omega
 subst hr0
 simp only[bk,Int.zero_mul,Int.zero_add] at h1 h4
 have e:X.take (k+1)=X.take k++ [x]:=by rw[List.take_add_one,hx];rfl
 rw[e,kR,kR,h1,Int.mul_add,<-Int.mul_assoc]
 exact ⟨by omega,xg h2' h01,by simp[hl],by omega⟩
theorem BC {a b:Int} (h0:b≠0) {Q r:Int} (h:(a.natAbs:Int)=Q*(b.natAbs:Int)+r) (hr:0<=r/\r<(b.natAbs:Int)):
  (if decide (a<0) !=decide (b<0) then ev (wrap64 Q) else wrap64 Q)=gy a b:=by
 have hQ:Q=(a.natAbs:Int)/(b.natAbs:Int):=by
  rw[h,Int.add_comm,Int.add_mul_ediv_right _ _ (by omega),Int.ediv_eq_zero_of_lt hr.1 hr.2,Int.zero_add]
 have hdiv:gy a b=wrap64 (a.tdiv b):=by
  unfold gy
  rw[if_neg h0]
  split
  ·rename_i h1;subst h1;simp
  ·rfl
 rw[hdiv]
 have hneg:∀q:Int,ev (wrap64 q)=wrap64 (-q):=fun q=>by unfold ev wrap64;omega
 have hsgn:a.tdiv b=if decide (a<0) !=decide (b<0) then-Q else Q:=by
  rw[hQ]
  clear hQ h hr hdiv hneg
  by_cases h1:a<0<;>by_cases h2:b<0
  ·have ea:(a.natAbs:Int)= -a:=by omega
   have eb:(b.natAbs:Int)= -b:=by omega
   have:a.tdiv b=(-a).tdiv (-b):=by rw[Int.neg_tdiv,Int.tdiv_neg,Int.neg_neg]
   rw[if_neg (by simp[h1,h2]),this,Int.tdiv_eq_ediv_of_nonneg (by omega),ea,eb]
  ·have ea:(a.natAbs:Int)= -a:=by omega
   have eb:(b.natAbs:Int)=b:=by omega
   have:a.tdiv b= -((-a).tdiv b):=by rw[Int.neg_tdiv,Int.neg_neg]
   rw[if_pos (by simp[h1,h2]),this,Int.tdiv_eq_ediv_of_nonneg (by omega),ea,eb]
  ·have ea:(a.natAbs:Int)=a:=by omega
   have eb:(b.natAbs:Int)= -b:=by omega
   have:a.tdiv b= -(a.tdiv (-b)):=by rw[Int.tdiv_neg,Int.neg_neg]
   rw[if_pos (by simp[h1,h2]),this,Int.tdiv_eq_ediv_of_nonneg (by omega),ea,eb]
  ·have ea:(a.natAbs:Int)=a:=by omega
   have eb:(b.natAbs:Int)=b:=by omega
   rw[if_neg (by simp[h1,h2]),Int.tdiv_eq_ediv_of_nonneg (by omega),ea,eb]
 rw[hsgn]
 split
 ·exact hneg _
 ·rfl
theorem vM (a b:Int) (w:World) (ha:In a) (hb:In b) (h0:b≠0):
  Calls Tryz.prog 125 #[.int .i64 a,.int .i64 b] w fun e w'=>e= .returned (.int .i64 (gy a b))/\Below w.heap.size w w':=by
 refine' zq106
 have hb0:(b==0)=false:=by simp[h0]
 have hX01:=pq a
 have hY01:=pq b
 have HX:=zH (oV ha)
 have HY:=zH (oV hb)
 have HLX:=zH (pE a)
 have HLY:=zH (pE b)
 go_enter Tryz.func125,Tryz.ntmps125
 go_wp2_with fail
 refine (qL a _ ha).mono ?_
 rintro e w1 ⟨v1,rfl,ho1,hb1⟩
 obtain ⟨A1,c1,rfl,hc1,hm1,hr1⟩:=fJ ho1
 go_wp2_with fail
 refine (qL b _ hb).mono ?_
 refine' zq289
 generalize gX a=X at*
 generalize gX b=Y at*
 clear ho1 ho2 hr1 hb1 hb2 hm1 hm2
 have hsz:=hb12.size
 go_wp2_with fail
 go_loopw[7,8] (fun v i wr=>∃k:Nat,k<=65/\i= .int .i64 k/\wr.ownsRow w2.heap.size 3 1 v k (al (List.replicate k 0))/\Below w2.heap.size w2 wr) (fun _ i _=>65-(intOf i).toNat)
 case atStart=>exact ⟨0,Nat.zero_le _,rfl,World.ownsRow_nil _ _ _ _,Below.refl _ _⟩
 case round=>
  obtain ⟨k,hk,rfl,hown,hbel⟩:=hrel
  by_cases hlt:k<65
  ·have HS:=zH (xp k)
   have hsz2:=hbel.size
   go_wp2_with (at_builtin;refine wpList_append_own _ rfl _ _ 26 rfl w2.heap.size 3 i0 (.int .i64 0) 1 8 Tryz.underlying26 hi0 hz0 hz1 hz2 rfl (by decide) _ _ _ rfl (hown.alloc _) ⟨wr.heap.size,0,none⟩ 1 1 [.int .i64 0] rfl rfl ?c1 ?c2 ?c3 ?c4 ?c5 ?_)
   case c1=>exact fe _ _ _
   case c2=>simp[Value.oneCell']
   case c3=>unfold maxLen;omega
   case c4=>omega
   case c5=>simp;omega
   refine' zq235
   have ho3:w3.ownsRow w2.heap.size 3 1 v' (k+1) (al (List.replicate (k+1) 0)):=by rw[HS.o,bS];exact hown'
   clear hown hbel hown' hgrow
   go_wp2_with fail
   go_roundw
   case rel=>exact ⟨k+1,by omega,by go_num,ho3,hb3⟩
   case measure=>simp[intOf];omega
  ·obtain rfl:k=65:=by omega
   generalize hZ:List.replicate 65 (0:Int)=Z at*
   rw[show ((65:Nat):Int)=65 from rfl]
   obtain ⟨g,cap,rfl,hgl⟩:∃g cap,u7= .slice (some ⟨g,0,none⟩) 65 cap/\65<=cap:=by
    rcases hown.2 with ⟨_,h0⟩|⟨g,cap,cur,h,_,_,hc,_⟩
    ·omega
    ·exact ⟨g,cap,h,hc⟩
   have hwin:=kH hown
   have HZ:=zH hZ
   have hsz2:=hbel.size
   clear hZ hown
   go_wp2_with fail
   have HD0:lB X Y Z 0 0:=by
    have e:bk Z=0:=by rw[<-HZ.o];decide+kernel
    refine ⟨by simp[bk,e],?_,by rw[<-HZ.o];rfl,by rw[e,HY.o];omega⟩
    rw[<-HZ.o];intro x hx;exact .inl (List.eq_of_mem_replicate hx)
   have hYb:0<bk Y/\bk Y<=9223372036854775808:=by have:=HY.o;unfold In at hb;omega
   have hbw:Below w.heap.size w wr:=hb12.trans (hbel.mono hsz)
   have hrX:=hr1'.below hbel
   have hrY:=hr2.below hbel
   clear hr1' hr2 hbel hb12
   obtain ⟨w3,rfl⟩:∃w3:World,w3=wr:=⟨_,rfl⟩
   go_loopw[7,9,10] (fun v q i wr=>∃(k g off cap:Nat) (R:List Int) (Q:Int),k<=65/\i= .int .i64 k/\v= .slice (some ⟨g,off,none⟩) 65 cap/\q= .int .i64 (wrap64 Q)/\lB X Y R Q k/\eg wr w2.heap.size 3 g off 65 cap (al R)/\Below w2.heap.size w3 wr) (fun _ _ i _=>65-(intOf i).toNat)
   case atStart=>exact ⟨0,g,0,cap,Z,0,Nat.zero_le _,rfl,rfl,by rw[lV (by omega)],HD0,hwin,Below.refl _ _⟩
   case round=>
    clear hwin HD0
    obtain ⟨k,g,off,cap,R,Q,hk,rfl,rfl,rfl,hD,hwin,hbel⟩:=hrel
    by_cases hlt:k<65
    ·obtain ⟨ad1,u1,rfl,hB1,hx1,hcell1⟩:=(hrX.below hbel).at1 hlt
     obtain ⟨x1,hl1,rfl⟩:=dX hx1
     have g1:=fd hX01 hl1
     obtain ⟨r0,R1,rfl⟩:∃r0 R1,R=r0::R1:=by
      obtain ⟨_,_,h3,_⟩:=hD
      match R,h3 with
      |r0::R1,_=>exact ⟨r0,R1,rfl⟩
     have HD:=zH (zn hD rfl hl1 g1 hYb.2)
     have hwin1:=hwin.tail
     have hcap:=hwin.2.2.1
     have W3:0<=(k:Int):=by omega
     have W4:¬cap=1:=by omega
     clear hD hl1 hx1 hwin
     go_wp2_with fail
     have hs3:=hbel.size
     go_region_law (refine nx (g:=g) (off:=off+1) (n:=64) (cap:=cap-1) (xs:=al R1) rfl (.tmp 29) (.tmp 34) 26 rfl i0 (.int .i64 0) 8 Tryz.underlying26 hi0 hz0 hz1 hz2 rfl (by simp[Act.eval]) ⟨wr.heap.size,0,none⟩ 1 (.int .i64 x1) (by simp[Act.eval]) (by exact (hwin1.drew).alloc _) (by simp) rfl (by unfold maxLen;omega) (by omega) (by simp;omega) ?_;intro g' off' cap' w4 hw4 hg4)
     have hb4:Below w2.heap.size w3 w4:=((hbel.drew).alloc (by simpa using Nat.le_trans hsz2 hs3) _).grown hg4 (by simp;omega) (by rintro k' hk';injection hk' with hk';subst hk';exact hwin1.2.1)
     have hw5:eg w4 w2.heap.size 3 g' off' 65 cap' (al (R1++ [x1])):=by rw[bS];exact hw4
     have hs4:=hb4.size
     have hg'lt:=hw5.lt
     generalize hR2:R1++ [x1]=R2 at*
     have HLess:=fun h=>vQ (x:=R2) (y:=Y) h hY01
     have HLs:=zH HLess
     clear hR2 hw4 hg4 hwin1 hbel HLess
     go_wp2_with fail
     refine (fg (wrap64 Q) (wrap64 Q) _ (dS _) (dS _)).mono ?_
     rintro e w5 ⟨rfl,hb5⟩
     have hw6:=hw5.below hb5 hg'lt
     have hb35:Below w2.heap.size w3 w5:=hb4.trans (hb5.mono (by omega))
     have hs5:=hb35.size
     clear hw5 hb4 hb5 hg'lt
     go_wp2_with fail
     have hrd:=hw6.rd
     have hrY5:=(hrY.below hb35).more (B':=w5.heap.size) (by omega)
     refine (Ah _ _ cap' c2 w5.heap.size R2 Y _ hrd hrY5).mono ?_
     rintro e w6 ⟨rfl,hb6⟩
     have hdbl:gj (wrap64 Q) (wrap64 Q)=wrap64 (2*Q):=by unfold gj wrap64;omega
     rw[hdbl]
     obtain ⟨d1,d2,d3,d4⟩:=HD.o
     have hle:=HLs.o d2 (by rw[d3,HLY.o])
     clear hdbl HD HLs
     rw[hle]
     by_cases hcmp:bk R2<bk Y
     ·rw[show decide (bk R2<bk Y)=true from by simp[hcmp]]
      have HI:lB X Y R2 (2*Q) (k+1):=⟨d1,d2,d3,hcmp⟩
      have hw7:=hw6.below hb6 hw6.lt
      have hb36:Below w2.heap.size w3 w6:=hb35.trans (hb6.mono (by omega))
      clear d1 d2 d3 d4 hle hcmp hrd hrY5 hb35 hb6 hw6
      go_wp2_with fail
      go_roundw
      case rel=>exact ⟨k+1,g',off',cap',R2,2*Q,by omega,by go_num,rfl,rfl,HI,hw7,hb36⟩
      case measure=>simp[intOf];omega
     ·rw[show decide (bk R2<bk Y)=false from by simp[hcmp]]
      have hge:=Dh d2 hY01 (by rw[d3,HLY.o]) (by omega)
      have hsp:=po d2 hY01 (by rw[d3,HLY.o])
      have HI:lB X Y (dA R2 Y).2 (2*Q+1) (k+1):=⟨by rw[d1,hge,Int.add_mul,Int.one_mul];omega,hsp.2.1,by rw[hsp.1,d3],by rw[hge];omega⟩
      have hrd6:=(hrd.below hb6).more hb6.size
      have hrY6:=(hrY5.below hb6).more hb6.size
      have hb36:Below w2.heap.size w3 w6:=hb35.trans (hb6.mono (by omega))
      have hs6:=hb36.size
      have D2:=zH d2
      clear d1 d3 d4 hle hcmp hrd hrY5 hb35 hb6 hw6 hge hsp d2
      go_wp2_with fail
      refine (zR _ _ cap' c2 R2 Y _ D2.o hY01 hrd6 hrY6).mono ?_
      rintro e w7 ⟨v7,rfl,ho7,hb7⟩
      obtain ⟨g7,cap7,rfl⟩:∃g7 cap7,v7= .slice (some ⟨g7,0,none⟩) 65 cap7:=by
       rcases ho7.2 with ⟨_,h0⟩|⟨g,cap,cur,h,_⟩
       ·omega
       ·exact ⟨g,cap,h⟩
      have hw7:=kH (dg ho7 (show w2.heap.size<=w6.heap.size from by omega))
      have hb37:Below w2.heap.size w3 w7:=hb36.trans (hb7.mono (by omega))
      have hs7:=hb37.size
      clear ho7 hb7 hb36 hrd6 hrY6
      go_wp2_with fail
      refine (fg (wrap64 (2*Q)) 1 _ (dS _) (by unfold In;omega)).mono ?_
      rintro e w8 ⟨rfl,hb8⟩
      have hone:gj (wrap64 (2*Q)) 1=wrap64 (2*Q+1):=by unfold gj wrap64;omega
      rw[hone]
      have hw8:=hw7.below hb8 hw7.lt
      have hb38:Below w2.heap.size w3 w8:=hb37.trans (hb8.mono (by omega))
      clear hone hw7 hb37 hb8
      go_wp2_with fail
      go_roundw
      case rel=>exact ⟨k+1,g7,0,cap7,(dA R2 Y).2,2*Q+1,by omega,by go_num,rfl,rfl,HI,hw8,hb38⟩
      case measure=>simp[intOf];omega
    ·obtain rfl:k=65:=by omega
     obtain ⟨d1,d2,d3,d4⟩:=hD
     have hv:=gg d2
     rw[List.take_of_length_le (by rw[HLX.o];omega),HX.o,HY.o] at d1
     rw[HY.o] at d4
     have HE:=zH (BC h0 d1 ⟨hv.1,d4⟩)
     clear d1 d2 d3 d4 hv
     have hbf:Below w.heap.size w wr:=hbw.trans (hbel.mono hsz)
     clear hbel hwin
     by_cases h1:a<0<;>by_cases h2:b<0
     ·have k1:decide (a<0)=true:=by simp[h1]
      have k2:decide (b<0)=true:=by simp[h2]
      rw[if_neg (by simp[h1,h2])] at HE
      go_wp2_with fail
      go_ret
      exact ⟨az HE.o,hbf⟩
     ·have k1:decide (a<0)=true:=by simp[h1]
      have k2:decide (b<0)=false:=by simp[h2]
      refine' zq264
     ·have k1:decide (a<0)=false:=by simp[h1]
      have k2:decide (b<0)=true:=by simp[h2]
      refine' zq264
     ·have k1:decide (a<0)=false:=by simp[h1]
      have k2:decide (b<0)=false:=by simp[h2]
      rw[if_neg (by simp[h1,h2])] at HE
      go_wp2_with fail
      go_ret
      exact ⟨az HE.o,hbf⟩
theorem qB (a b:Int) (w:World) (ha:In a) (hb:In b):
  Calls Tryz.prog 125 #[.int .i64 a,.int .i64 b] w fun e w'=>e= .returned (.int .i64 (gy a b))/\Below w.heap.size w w':=by
 by_cases h0:b=0
 ·subst h0
  go_enter Tryz.func125,Tryz.ntmps125
  go_wp2_with fail
  go_ret
  exact ⟨az (Az a).symm,Below.refl _ _⟩
 ·exact vM a b w ha hb h0
theorem Cd (a b:Int):gj a (ev (kF (gy a b) b))=qN a b:=by
 unfold qN;rw[wD]
theorem AH (a b:Int) (w:World) (ha:In a) (hb:In b):
  Calls Tryz.prog 126 #[.int .i64 a,.int .i64 b] w fun e w'=>e= .returned (.int .i64 (qN a b))/\Below w.heap.size w w':=by
 have HE:=zH (Cd a b)
 go_enter Tryz.func126,Tryz.ntmps126
 go_wp2_with fail
 refine (qB a b _ ha hb).mono ?_
 rintro e w1 ⟨rfl,hb1⟩
 have h1:=hb1.size
 go_wp2_with fail
 refine (rQ (gy a b) b _ (xj a b) hb).mono ?_
 rintro e w2 ⟨rfl,hb2⟩
 have hb02:=hb1.trans (hb2.mono h1)
 have h2:=hb02.size
 go_wp2_with fail
 refine (je (kF (gy a b) b) _ (xf _ _)).mono ?_
 rintro e w3 ⟨rfl,hb3⟩
 have hb03:=hb02.trans (hb3.mono h2)
 have h3:=hb03.size
 go_wp2_with fail
 refine (fg a (ev (kF (gy a b) b)) _ ha (nv _)).mono ?_
 rintro e w4 ⟨rfl,hb4⟩
 have hb04:=hb03.trans (hb4.mono h3)
 go_wp2_with fail
 go_ret
 exact ⟨az HE.o,hb04⟩
theorem tf (b:Bool):cI b=0\/cI b=1:=by cases b<;>simp[cI]
theorem jD (b:Bool) (w:World):
  Calls Tryz.prog 122 #[.bool b] w fun e w'=>e= .returned (.int .i64 (cI b))/\w=w':=by
 cases b<;>
 ·go_enter Tryz.func122,Tryz.ntmps122
  go_wp2
  go_ret
  exact ⟨rfl,rfl⟩
theorem iT {x y:Int} {b c:Bool} (h:x=y) (h':b=c):Ending.returned (.tuple #[.int .i64 x,.bool b])= .returned (.tuple #[.int .i64 y,.bool c]):=by rw[h,h']
theorem qO (op a:Int) (w:World) (ha:In a):
  Calls Tryz.prog 109 #[.int .i64 op,.int .i64 a] w fun e w'=>e= .returned (.tuple #[.int .i64 (im op a),.bool (ya op)])/\Below w.heap.size w w':=by
 by_cases h5:op=5
 ·subst h5
  go_enter Tryz.func109,Tryz.ntmps109
  go_wp2_with fail
  refine (je a _ ha).mono ?_
  refine' zq240
 ·by_cases h6:op=6
  ·subst h6
   clear h5
   go_enter Tryz.func109,Tryz.ntmps109
   refine' zq248
   exact ⟨rfl,Below.refl _ _⟩
  ·have e5:(op==5)=false:=by simp[h5]
   have e6:(op==6)=false:=by simp[h6]
   have HF:=zH (show im op a=0 from by simp[im,h5,h6])
   have HB:=zH (show ya op=false from by simp[ya,h5,h6])
   clear h5 h6
   go_enter Tryz.func109,Tryz.ntmps109
   go_wp2_with fail
   go_ret2
   exact ⟨by rw[HF.o,HB.o];rfl,Below.refl _ _⟩
theorem BX (op a b:Int) (w:World) (h:12<=op/\op<=17):
  Calls Tryz.prog 110 #[.int .i64 op,.int .i64 a,.int .i64 b] w fun e w'=>e= .returned (.tuple #[.int .i64 (gF op a b),.bool (rl op)])/\Below w.heap.size w w':=by
 have k15:cI (decide (a<=b))=cI (!decide (b<a)):=by rw[show decide (a<=b)= !decide (b<a) from by by_cases h:a<=b<;>simp[h]<;>omega]
 have k17:cI (decide (b<=a))=cI (!decide (a<b)):=by rw[show decide (b<=a)= !decide (a<b) from by by_cases h:b<=a<;>simp[h]<;>omega]
 have K15:=zH k15
 have K17:=zH k17
 clear k15 k17
 rcases (by omega:op=12\/op=13\/op=14\/op=15\/op=16\/op=17) with rfl|rfl|rfl|rfl|rfl|rfl
 all_goals
  clear h
  go_enter Tryz.func110,Tryz.ntmps110
  refine' zq248
  exact ⟨by first|rfl|exact (iT K15.o rfl).symm|exact (iT K17.o rfl).symm,Below.refl _ _⟩
theorem Bu (a b:Bool):cI (mH 18 a b)=wrap64 (cI a*cI b)/\cI (mH 19 a b)=cI (decide (0<wrap64 (cI a+cI b)))/\cI (mH 20 a b)=cI (wrap64 (cI a+cI b)==1):=by
 cases a<;>cases b<;>decide+kernel
theorem Bj (op a b:Int) (w:World) (h:18<=op/\op<=20):
  Calls Tryz.prog 110 #[.int .i64 op,.int .i64 a,.int .i64 b] w fun e w'=>e= .returned (.tuple #[.int .i64 (gF op a b),.bool (rl op)])/\Below w.heap.size w w':=by
 have hl:=zH (Bu (a !=0) (b !=0))
 have hfa:=tf (a !=0)
 have hfb:=tf (b !=0)
 have HD:(gF 18 a b=cI (mH 18 (a !=0) (b !=0)))/\(gF 19 a b=cI (mH 19 (a !=0) (b !=0)))/\(gF 20 a b=cI (mH 20 (a !=0) (b !=0))):=⟨rfl,rfl,rfl⟩
 have HD':=zH HD
 clear HD
 rcases (by omega:op=18\/op=19\/op=20) with rfl|rfl|rfl
 all_goals
  clear h
  refine' zq127
  refine (jD _ _).mono ?_
  rintro e w' ⟨rfl,rfl⟩
  go_wp2_with fail
  refine (jD _ _).mono ?_
  rintro e w' ⟨rfl,rfl⟩
  generalize hA:cI (a !=0)=A at*
  generalize hB:cI (b !=0)=B at*
  clear hA hB
  rcases hfa with rfl|rfl<;>rcases hfb with rfl|rfl
  all_goals
   refine' zq248
   refine ⟨?_,Below.refl _ _⟩
   first
    |exact iT (by rw[HD'.o.1,hl.out.1];decide+kernel) rfl
    |exact iT (by rw[HD'.o.2.1,hl.out.2.1];decide+kernel) rfl
    |exact iT (by rw[HD'.o.2.2,hl.out.2.2];decide+kernel) rfl
theorem BW (op a b:Int) (w:World) (ha:In a) (hb:In b) (h:7<=op/\op<=11):
  Calls Tryz.prog 110 #[.int .i64 op,.int .i64 a,.int .i64 b] w fun e w'=>e= .returned (.tuple #[.int .i64 (gF op a b),.bool (rl op)])/\Below w.heap.size w w':=by
 rcases (by omega:op=7\/op=8\/op=9\/op=10\/op=11) with rfl|rfl|rfl|rfl|rfl
 ·refine' zq127
  refine (fg a b _ ha hb).mono ?_
  refine' zq240
 ·have HS:=zH (wD a b)
  refine' zq127
  refine (je b _ hb).mono ?_
  rintro e w1 ⟨rfl,hb1⟩
  have h1:=hb1.size
  go_wp2_with fail
  refine (fg a (ev b) _ ha (nv _)).mono ?_
  rintro e w2 ⟨rfl,hb2⟩
  have hb02:=hb1.trans (hb2.mono h1)
  go_wp2_with fail
  go_ret2
  exact ⟨iT HS.o.symm rfl,hb02⟩
 ·refine' zq127
  refine (rQ a b _ ha hb).mono ?_
  refine' zq240
 ·refine' zq127
  refine (qB a b _ ha hb).mono ?_
  refine' zq240
 ·refine' zq127
  refine (AH a b _ ha hb).mono ?_
  refine' zq240
theorem CH (op a b:Int) (w:World) (h:op<7\/20<op):
  Calls Tryz.prog 110 #[.int .i64 op,.int .i64 a,.int .i64 b] w fun e w'=>e= .returned (.tuple #[.int .i64 (gF op a b),.bool (rl op)])/\Below w.heap.size w w':=by
 have HF:=zH (show gF op a b=0 from by
   unfold gF
   rw[if_neg (by omega),if_neg (by omega),if_neg (by omega),if_neg (by omega),if_neg (by omega),if_neg (by omega),if_neg (by omega)])
 have HB:=zH (show rl op=false from by simp[rl];omega)
 rcases h with h|h
 all_goals
  go_enter Tryz.func110,Tryz.ntmps110
  go_wp2_with (go_at_call 122;refine (jD _ _).mono ?_;rintro e w' ⟨rfl,rfl⟩)
  go_ret2
  exact ⟨by rw[HF.o,HB.o];rfl,Below.refl _ _⟩
theorem ti (op a b:Int) (w:World) (ha:In a) (hb:In b):
  Calls Tryz.prog 110 #[.int .i64 op,.int .i64 a,.int .i64 b] w fun e w'=>e= .returned (.tuple #[.int .i64 (gF op a b),.bool (rl op)])/\Below w.heap.size w w':=by
 by_cases h1:7<=op/\op<=11
 ·exact BW op a b w ha hb h1
 ·by_cases h2:12<=op/\op<=17
  ·exact BX op a b w h2
  ·by_cases h3:18<=op/\op<=20
   ·exact Bj op a b w h3
   ·exact CH op a b w (by omega)
end Go.Proofs.YtckognjamlckcaaGreatDoor
