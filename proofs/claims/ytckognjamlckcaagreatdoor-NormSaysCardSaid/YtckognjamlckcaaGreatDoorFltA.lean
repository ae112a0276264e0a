/-
  The contract of tompionlaw12.room and Few. The contracts of tree.Height, tompionref12.Height, List. The contract of tompionref12.List. Flats in memory; flat's looker: its small methods. Flats, as plain data: parts of expressions. norm, as plain data: what is made of an expression, step by step. flat's looker: what is plain of an expression.
-/
import Derived.Test.YtckognjamlckcaaGreatDoorNmD
set_option maxHeartbeats 4000000
set_option maxRecDepth 100000
namespace Go.Proofs.YtckognjamlckcaaGreatDoor
open Go.RowKit
def fj:List (Int->Int->Int)->Int->Int->Int
 | [],left,_=>left
 |p::ps,left,deep=>if left<0 then-1 else fj ps (p left deep) deep
noncomputable def ch:Ex->Int->Int->Int:=Ex.para fun e ps left deep=>if deep=0\/30<e.name.size then-1 else fj ps (left-1) (deep-1)
theorem jk (e:Ex) (left deep:Int):ch e left deep=if deep=0\/30<e.name.size then-1 else fj (e.args.map ch) (left-1) (deep-1):=by
 unfold ch;rw[Ex.para_eq]
theorem yO (e:Ex):∀l d,-1<=l->l<=100000->-1<=ch e l d/\ch e l d<=100000\/l= -1:=by
 induction e using Ex.ind with
 |h e ih=>
  intro l d h1 h2
  rw[jk]
  split
  ·exact .inl (by omega)
  ·by_cases hl:l= -1
   ·exact .inr hl
   ·left
    have:∀ps:List Ex,(∀x∈ps,x∈e.args)->∀l d,-1<=l->l<=100000->-1<=fj (ps.map ch) l d/\fj (ps.map ch) l d<=100000:=by
     intro ps
     induction ps with
     |nil=>intro _ l d h1 h2;exact ⟨h1,h2⟩
     |cons p ps ihp=>
      intro hm l d h1 h2
      simp only[List.map_cons,fj]
      split
      ·omega
      ·have:=ih p (hm p (by simp)) l d h1 h2
       rcases this with this|this
       ·exact ihp (fun x hx=>hm x (by simp[hx])) _ _ this.1 this.2
       ·omega
    exact this e.args (fun _ h=>h) _ _ (by omega) (by omega)
theorem pJ {α β:Type} {l:List α} {k:Nat} {x:α} (f:α->β) (h:l[k]? =some x):(l.drop k).map f=f x::(l.drop (k+1)).map f:=by
 obtain ⟨hk,rfl⟩:=List.getElem?_eq_some_iff.1 h
 rw[List.drop_eq_getElem_cons hk,List.map_cons]
theorem ym (e:Ex):∀(A:Option Addr) (cap:Nat) (left deep:Int) (w:World),cW e->e.args.length<=cap->cap<=maxLen->aM w w.heap.size A e.args->0<=left->left<=100000->0<=deep->deep<=1000->
  Calls Tryz.prog 74 #[bz e A cap,.int .i64 left,.int .i64 deep] w fun r w'=>r= .returned (.int .i64 (ch e left deep))/\Below w.heap.size w w':=by
 induction e using Ex.ind with
 |h e ih=>
  intro A cap left deep w hok hcap hmax hx hl0 hl1 hd0 hd1
  have HI:=zH ih
  clear ih
  unfold maxLen at hmax
  by_cases hd:deep=0
  ·subst hd
   have HE:=zH (show ch e left 0= -1 by rw[jk,if_pos (.inl rfl)])
   go_enter Tryz.func74,Tryz.ntmps74
   go_wp2_with fail
   go_ret
   exact ⟨az HE.o.symm,(Below.refl _ _).alloc (Nat.le_refl _) _⟩
  ·have hdb:(deep==0)=false:=by simp[hd]
   by_cases hs:30<e.name.size
   ·have hs':decide (30<(e.name.size:Int))=true:=by simp;omega
    have HE:=zH (show ch e left deep= -1 by rw[jk,if_pos (.inr hs)])
    clear hd
    go_enter Tryz.func74,Tryz.ntmps74
    go_wp2_with fail
    go_ret
    exact ⟨az HE.o.symm,(Below.refl _ _).alloc (Nat.le_refl _) _⟩
   ·have hs':decide (30<(e.name.size:Int))=false:=by simp;omega
    have HE:=zH (show ch e left deep=fj (e.args.map ch) (left-1) (deep-1) by rw[jk,if_neg (by omega)])
    clear hs
    go_enter Tryz.func74,Tryz.ntmps74
    go_wp2_with fail
    go_loopw[1,22] (fun v i wr=>∃(k:Nat) (L:Int),k<=e.args.length/\i= .int .i64 k/\v= .int .i64 L/\-1<=L/\L<=100000/\Hid (ch e left deep=fj ((e.args.drop k).map ch) L (deep-1))/\Below w.heap.size w wr) (fun _ i _=>e.args.length-(intOf i).toNat)
    case atStart=>exact ⟨0,left-1,Nat.zero_le _,rfl,rfl,by omega,by omega,HE,(Below.refl _ _).alloc (Nat.le_refl _) _⟩
    case round=>
     obtain ⟨k,L,hk,rfl,rfl,hL0,hL1,HR,hbel⟩:=hrel
     by_cases hlt:k<e.args.length
     ·obtain ⟨b,off,x,A',cap',rfl,hb,hxk,hxm,hok',hcap',hmax',hx',c0,c1,c2,c3,c4,c5⟩:=(hx.below hbel).at_ hlt
      have HD:=zH (pJ ch hxk)
      have HM:=zH hxm
      have hsz:=hbel.size
      clear hxk hxm HE
      by_cases hneg:L<0
      ·have HF:=zH (show ch e left deep= -1 by rw[HR.o,HD.o,fj,if_pos hneg])
       go_wp2_with fail
       go_ret
       exact ⟨az HF.o.symm,hbel.alloc hsz _⟩
      ·have hlo:=yO x L (deep-1) (by omega) (by omega)
       have HL:Hid (-1<=ch x L (deep-1)/\ch x L (deep-1)<=100000):=hlo.resolve_right (by omega)
       have HF:=zH (show ch e left deep=fj ((e.args.drop (k+1)).map ch) (ch x L (deep-1)) (deep-1) by rw[HR.o,HD.o,fj,if_neg hneg])
       clear hlo
       go_wp2_with fail
       refine (HI.o x HM.o A' cap' L (deep-1) _ hok' hcap' hmax' ((hx'.below ((Below.refl _ _).alloc hsz _)).more (by simp;omega)) (by omega) (by omega) (by omega) (by omega)).mono ?_
       rintro r w2 ⟨rfl,hb2⟩
       go_wp2_with fail
       go_roundw
       case rel=>exact ⟨k+1,_,by omega,by go_num,rfl,HL.o.1,HL.o.2,HF,(hbel.alloc hsz _).trans (hb2.mono (by simp;omega))⟩
       case measure=>simp[intOf];omega
     ·obtain rfl:k=e.args.length:=by omega
      have HF:=zH (show ch e left deep=L by rw[HR.o,List.drop_length];rfl)
      go_wp2_with fail
      go_ret
      exact ⟨az HF.o.symm,hbel⟩
theorem dy {α β:Type} {l:List α} {k:Nat} {x:α} (f:α->β) (h:l[k]? =some x):(l.take (k+1)).map f=(l.take k).map f++ [f x]:=by
 rw[List.take_add_one,h];simp
theorem vB {l:List Ex} {b:Nat} (k:Nat) (h:dz (l.map ax)<=b):dz ((l.take k).map ax)<=b:=by
 refine iW fun x hx=>?_
 obtain ⟨y,hy,rfl⟩:=List.mem_map.1 hx
 have:∀l:List Nat,∀x∈l,x<=dz l:=by
  refine' zq304
 exact Nat.le_trans (this _ _ (List.mem_map_of_mem (List.mem_of_mem_take hy))) h
noncomputable def lZ (e:Ex) (k:Nat):Nat:=dz ((e.args.take k).map ax)
theorem qY {e x:Ex} {k:Nat} (h:e.args[k]? =some x):lZ e (k+1)=max (lZ e k) (ax x):=by
 unfold lZ;rw[dy ax h,pu]
theorem tO (e:Ex):ax e=lZ e e.args.length+1:=by unfold lZ;rw[iA,List.take_length]
theorem vr {e:Ex} (k:Nat) (h:ay e<=1000000):lZ e k<=1000000:=by
 have:=ta e
 have:=iA e
 exact vB k (by omega)
theorem uB (e:Ex):∀(A:Option Addr) (cap:Nat) (w:World),e.args.length<=cap->cap<=maxLen->aM w w.heap.size A e.args->ay e<=1000000->
  Calls Tryz.prog 99 #[bz e A cap] w fun r w'=>r= .returned (.int .i64 (ax e))/\Below w.heap.size w w':=by
 induction e using Ex.ind with
 |h e ih=>
  intro A cap w hcap hmax hx hs
  have HI:=zH ih
  clear ih
  have HE:=zH (tO e)
  have HS:=zH hs
  unfold maxLen at hmax
  clear hs
  go_enter Tryz.func99,Tryz.ntmps99
  go_wp2_with fail
  go_loopw[3,9] (fun v i wr=>∃k:Nat,k<=e.args.length/\i= .int .i64 k/\v= .int .i64 (lZ e k)/\Below w.heap.size w wr) (fun _ i _=>e.args.length-(intOf i).toNat)
  case atStart=>exact ⟨0,Nat.zero_le _,rfl,rfl,(Below.refl _ _).alloc (Nat.le_refl _) _⟩
  case round=>
   obtain ⟨k,hk,rfl,rfl,hbel⟩:=hrel
   have hm:=vr k HS.o
   by_cases hlt:k<e.args.length
   ·obtain ⟨b,off,x,A',cap',rfl,hb,hxk,hxm,hok',hcap',hmax',hx',c0,c1,c2,c3,c4,c5⟩:=(hx.below hbel).at_ hlt
    have HT:=zH (qY hxk)
    have HSx:=zH (iP hxm)
    have HM:=zH hxm
    have hsz:=hbel.size
    clear hxk hxm
    go_wp2_with fail
    refine (HI.o x HM.o A' cap' _ hcap' hmax' ((hx'.below ((Below.refl _ _).alloc hsz _)).more (by simp;omega)) (by have:=HSx.o;have:=HS.o;omega)).mono ?_
    rintro r w2 ⟨rfl,hb2⟩
    go_wp2_with fail
    go_roundw
    case rel=>exact ⟨k+1,by omega,by go_num,by rw[HT.o];go_num,(hbel.alloc hsz _).trans (hb2.mono (by simp;omega))⟩
    case measure=>simp[intOf];omega
   ·obtain rfl:k=e.args.length:=by omega
    go_wp2_with fail
    go_ret
    exact ⟨az (by rw[HE.o];rfl),hbel⟩
theorem sU (e:Ex):∀(A:Option Addr) (cap:Nat) (w:World),e.args.length<=cap->cap<=maxLen->aM w w.heap.size A e.args->ay e<=1000000->
  Calls Tryz.prog 45 #[bz e A cap] w fun r w'=>r= .returned (.int .i64 (ax e))/\Below w.heap.size w w':=by
 induction e using Ex.ind with
 |h e ih=>
  intro A cap w hcap hmax hx hs
  have HI:=zH ih
  clear ih
  have HE:=zH (tO e)
  have HS:=zH hs
  unfold maxLen at hmax
  clear hs
  go_enter Tryz.func45,Tryz.ntmps45
  go_wp2_with fail
  go_loopw[3,4] (fun v i wr=>∃k:Nat,k<=e.args.length/\i= .int .i64 k/\v= .int .i64 (lZ e k)/\Below (w.heap.size+1) (w.alloc (.cells #[.int .i64 e.op,.string e.name,.int .i64 e.n,.slice A e.args.length cap,.int .i64 e.line,.int .i64 e.col] 75)) wr) (fun _ i _=>e.args.length-(intOf i).toNat)
  case atStart=>exact ⟨0,Nat.zero_le _,rfl,rfl,by simpa using Below.refl _ _⟩
  case round=>
   obtain ⟨k,hk,rfl,rfl,hbox⟩:=hrel
   obtain ⟨⟨_,_,_,hc3,_,_⟩,hbel,hsz⟩:=uR hbox
   have hm:=vr k HS.o
   by_cases hlt:k<e.args.length
   ·obtain ⟨b,off,x,A',cap',rfl,hb,hxk,hxm,hok',hcap',hmax',hx',c0,c1,c2,c3,c4,c5⟩:=(hx.below hbel).at_ hlt
    have HT:=zH (qY hxk)
    have HSx:=zH (iP hxm)
    have HM:=zH hxm
    clear hxk hxm
    go_wp2_with fail
    refine (HI.o x HM.o A' cap' _ hcap' hmax' (hx'.more (by omega)) (by have:=HSx.o;have:=HS.o;omega)).mono ?_
    rintro r w2 ⟨rfl,hb2⟩
    have hb3:=hbox.trans (hb2.mono hsz)
    clear hbox
    go_wp2_with fail
    ·have hgt:lZ e k<ax x:=by omega
     go_roundw
     case rel=>exact ⟨k+1,by omega,by go_num,by rw[HT.o,Nat.max_eq_right (by omega)],hb3⟩
     case measure=>simp[intOf];omega
    ·have hgt:ax x<=lZ e k:=by omega
     go_roundw
     case rel=>exact ⟨k+1,by omega,by go_num,by rw[HT.o,Nat.max_eq_left (by omega)],hb3⟩
     case measure=>simp[intOf];omega
   ·obtain rfl:k=e.args.length:=by omega
    go_wp2_with fail
    go_ret
    exact ⟨az (by rw[HE.o];rfl),hbel⟩
theorem xC:(Tryz.prog.info? 75).map (fun i=>(i.zero,i.size,i.bytes))=some (some (.agg #[.int .i64 0,.string ⟨#[]⟩,.int .i64 0,.slice none 0 0,.int .i64 0,.int .i64 0]),6,72):=by kernel_rfl
noncomputable def gZ (e:Ex) (k:Nat):List Ex:=e::((e.args.take k).map bC).flatten
theorem yg (e:Ex):gZ e 0=[e]:=rfl
theorem rT {e x:Ex} {k:Nat} (h:e.args[k]? =some x):gZ e (k+1)=gZ e k++bC x:=by
 unfold gZ;rw[dy bC h];simp
theorem td (e:Ex):bC e=gZ e e.args.length:=by unfold gZ;rw[eM,List.take_length]
theorem sJ {α:Type} (l:List (List α)) (k:Nat):(l.take k).flatten.length<=l.flatten.length:=by
 conv=>rhs;rw[<-List.take_append_drop k l]
 rw[List.flatten_append,List.length_append];omega
theorem xS (e:Ex) (k:Nat):(gZ e k).length<=ay e:=by
 unfold ay;rw[eM];unfold gZ
 rw[List.length_cons,List.length_cons,List.map_take]
 have:=sJ (e.args.map bC) k
 omega
theorem Am (B:Nat) (e:Ex):∀(A:Option Addr) (cap:Nat) (w:World),cW e->e.args.length<=cap->cap<=maxLen->B<=w.heap.size->aM w B A e.args->ay e<=1000000->
  Calls Tryz.prog 50 #[bz e A cap] w fun r w'=>∃v css,r= .returned v/\w'.ownsRow w.heap.size 75 6 v (ay e) css.flatten/\dC w' B (bC e) css/\Below w.heap.size w w':=by
 induction e using Ex.ind with
 |h e ih=>
  intro A cap w hok hcap hmax hB hx hs
  obtain ⟨i0,hi0,hz0,hz1,hz2⟩:=info_parts xC
  have HI:=zH ih
  clear ih
  have HE:=zH (td e)
  have HS:=zH hs
  have HX:Hid (cL w B e (dR e A cap)):=cL.mk' hok hcap hmax hx
  unfold maxLen at hmax
  clear hs
  go_enter Tryz.func50,Tryz.ntmps50
  go_wp2_with fail
  go_loopw[3,4] (fun v i wr=>∃(k:Nat) (css:List (List Value)),k<=e.args.length/\i= .int .i64 k/\wr.ownsRow (w.heap.size+1) 75 6 v (gZ e k).length css.flatten/\dC wr B (gZ e k) css/\Below (w.heap.size+1) (w.alloc (.cells #[.int .i64 e.op,.string e.name,.int .i64 e.n,.slice A e.args.length cap,.int .i64 e.line,.int .i64 e.col] 75)) wr) (fun _ i _=>e.args.length-(intOf i).toNat)
  case atStart=>
   refine ⟨0,[dR e A cap],Nat.zero_le _,rfl,?_,dC.one (HX.o.below (((Below.refl _ _).alloc hB _).alloc (by simp;omega) _)),?_⟩
   ·rw[yg]
    exact ⟨rfl,.inr ⟨_,_,_,rfl,by simp,by simpa only[World.size_alloc] using heap_alloc_new (w.alloc _) _,Nat.le_refl _,by unfold maxLen;simp,rfl,rfl⟩⟩
   ·exact (Below.refl _ _).alloc (by simp) _
  case round=>
   obtain ⟨k,css,hk,rfl,hown,hare,hbox⟩:=hrel
   obtain ⟨⟨_,_,_,hc3,_,_⟩,hbel,hsz⟩:=uR hbox
   by_cases hlt:k<e.args.length
   ·obtain ⟨b,off,x,A',cap',rfl,hb,hxk,hxm,hok',hcap',hmax',hx',c0,c1,c2,c3,c4,c5⟩:=(hx.below (hbel.mono hB)).at_ hlt
    have HT:=zH (rT hxk)
    have HTl:Hid ((gZ e k).length+ay x<=1000000):=by
     have h1:=xS e (k+1)
     rw[HT.o,List.length_append] at h1
     have h2:=HS.o
     unfold ay at h1 h2⊢
     show _<=_
     omega
    have HSx:=zH (iP hxm)
    have HM:=zH hxm
    clear hxk hxm
    go_wp2_with fail
    refine (HI.o x HM.o A' cap' _ hok' hcap' hmax' (by omega) hx' (by have:=HSx.o;have:=HS.o;omega)).mono ?_
    rintro r w2 ⟨v2,css2,rfl,hown2,hare2,hb2⟩
    have hsz2:=hb2.size
    have hpos:=kp x
    have HO:=zH (hare2.oneCell)
    have HN:=zH (hown2.1)
    obtain ⟨g2,d2,rfl⟩:=mQ hown2 hpos
    have hlp:0<(gZ e k).length:=by unfold gZ;simp
    obtain ⟨g1,d1,rfl⟩:=mQ hown hlp
    have hown1:=aG hown hb2
    have hare1:=hare.keep (hb2.mono (by omega:B<=wr.heap.size)) (Nat.le_refl _)
    have HC:=zH (hown2.cells (g:=g2) rfl)
    have hb3:=hbox.trans (hb2.mono hsz)
    clear hown hare
    generalize ay x=m at*
    generalize hL:(gZ e k).length=n at*
    have HL:=zH hL
    clear hL
    go_wp2_with (at_builtin;refine wpList_append_own _ rfl _ _ 71 rfl (w.heap.size+1) 75 i0 _ 6 72 Tryz.underlying71 hi0 hz0 hz1 hz2 rfl (by decide) _ _ _ rfl hown1 ⟨g2,0,none⟩ m d2 css2.flatten rfl HN.o HC.o HO.o ?c3 ?c4 ?c5 ?_)
    case c3=>unfold maxLen;have:=HTl.o;omega
    case c4=>have:=HTl.o;omega
    case c5=>omega
    intro v' w3 hown' hgrow _
    have hb4:Below (w.heap.size+1) (w.alloc (.cells #[.int .i64 e.op,.string e.name,.int .i64 e.n,.slice (some ⟨b,off,none⟩) e.args.length cap,.int .i64 e.line,.int .i64 e.col] 75)) w3:=aY hb3 hown1 hgrow (by omega)
    have hB4:Below B w2 w3:=(Below.refl _ _).grown hgrow (by omega) (fun k hk=>by have:=(hown1.lt k hk).1;omega)
    have hare4:dC w3 B (gZ e (k+1)) (css++css2):=by rw[HT.o];exact (hare1.append hare2).keep hB4 (Nat.le_refl _)
    have hown4:w3.ownsRow (w.heap.size+1) 75 6 v' (gZ e (k+1)).length (css++css2).flatten:=by
     rw[HT.o,List.length_append,HL.o,List.flatten_append,show (bC x).length=m from by rw[<-hare2.1];have:=HN.o;rw[eR hare2.six] at this;omega]
     exact hown'
    clear hown' hgrow hown1 hown2 hare1 hare2 hb3 hbox
    go_wp2_with fail
    go_roundw
    case rel=>exact ⟨k+1,_,by omega,by go_num,hown4,hare4,hb4⟩
    case measure=>simp[intOf];omega
   ·obtain rfl:k=e.args.length:=by omega
    rw[<-HE.o] at hown hare
    go_wp2_with fail
    go_ret
    exact ⟨_,css,rfl,dg hown (by omega),hare,hbel⟩
open Go.RowKit Vf Fo
attribute [local go_sem ↓] Go.wp_at_zero Go.wp_at_succ
theorem ai.six' {W:World} {b:Nat} {x0 x1 x2 x3 x4 x5:Value} {t:TypeId} (h:ai W b #[x0,x1,x2,x3,x4,x5] t):W.cell? ⟨b,0,none⟩=some x0/\W.cell? ⟨b,1,none⟩=some x1/\W.cell? ⟨b,2,none⟩=some x2/\W.cell? ⟨b,3,none⟩=some x3/\W.cell? ⟨b,4,none⟩=some x4/\W.cell? ⟨b,5,none⟩=some x5:=
 ⟨(h.cell 0).trans rfl,(h.cell 1).trans rfl,(h.cell 2).trans rfl,(h.cell 3).trans rfl,(h.cell 4).trans rfl,(h.cell 5).trans rfl⟩
def gU (w:World) (B:Nat) (d:Int × Ex) (cs:List Value):Prop:=Wf d.1/\∃cs',cs= .int .i64 d.1::cs'/\cL w B d.2 cs'
structure cS (w:World) (B:Nat) (f:Fl) (vw vd vi vo:Value):Prop where
 wires:aI w B 2 (fu w B) vw f.wires
 defs:aI w B 7 (gU w B) vd f.defs
 ins:aI w B 1 aP vi f.ins
 outs:aI w B 1 aP vo f.outs
abbrev eZ (vw vd vi vo:Value):Value:= .agg #[vw,vd,vi,vo]
section
variable {w w':World} {B B':Nat} {f:Fl} {vw vd vi vo:Value}
theorem gU.below {d:Int × Ex} {cs:List Value} (h:gU w B d cs) (hb:Below B w w'):gU w' B d cs:=by
 obtain ⟨h1,cs',h2,h3⟩:=h
 exact ⟨h1,cs',h2,h3.below hb⟩
theorem gU.more {d:Int × Ex} {cs:List Value} (h:gU w B d cs) (hB:B<=B'):gU w B' d cs:=by
 obtain ⟨h1,cs',h2,h3⟩:=h
 exact ⟨h1,cs',h2,h3.more hB⟩
theorem cS.below (h:cS w B f vw vd vi vo) (hb:Below B w w'):cS w' B f vw vd vi vo:=
 ⟨h.wires.keep (fun _ _ hp hc=>(hb.cell hp).trans hc) (Nat.le_refl _) (fun _ _ _ g=>g.keep (fun _ _ hp hc=>(hb.cell hp).trans hc) (Nat.le_refl _)),h.defs.keep (fun _ _ hp hc=>(hb.cell hp).trans hc) (Nat.le_refl _) (fun _ _ _ g=>g.below hb),h.ins.below hb,h.outs.below hb⟩
theorem cS.more (h:cS w B f vw vd vi vo) (hB:B<=B'):cS w B' f vw vd vi vo:=
 ⟨h.wires.keep (fun _ _ _ hc=>hc) hB (fun _ _ _ g=>g.keep (fun _ _ _ hc=>hc) hB),h.defs.keep (fun _ _ _ hc=>hc) hB (fun _ _ _ g=>g.more hB),h.ins.more hB,h.outs.more hB⟩
theorem cS.next (h:cS w w.heap.size f vw vd vi vo) (hb:Below w.heap.size w w'):cS w' w'.heap.size f vw vd vi vo:=(h.below hb).more hb.size
end
theorem Sl.df {w:World} {B:Nat} {A:Option Addr} {l:List (Int × Ex)} {k:Nat} (h:Sl w B 7 (gU w B) A l) (hk:k<l.length):∃b off d Ag cg,A=some ⟨b,off,Option.none⟩/\b<B/\l[k]? =some d/\Wf d.1/\cW d.2/\d.2.args.length<=cg/\cg<=maxLen/\aM w B Ag d.2.args/\
  w.cell? ⟨b,off+k*7,Option.none⟩=some (.int .i64 d.1)/\w.cell? ⟨b,off+k*7+1,Option.none⟩=some (.int .i64 d.2.op)/\w.cell? ⟨b,off+k*7+2,Option.none⟩=some (.string d.2.name)/\w.cell? ⟨b,off+k*7+3,Option.none⟩=some (.int .i64 d.2.n)/\
  w.cell? ⟨b,off+k*7+4,Option.none⟩=some (.slice Ag d.2.args.length cg)/\w.cell? ⟨b,off+k*7+5,Option.none⟩=some (.int .i64 d.2.line)/\w.cell? ⟨b,off+k*7+6,Option.none⟩=some (.int .i64 d.2.col):=by
 obtain ⟨b,off,d,cs,h1,h2,h3,⟨h4,cs',rfl,h5⟩,h6⟩:=h.at_ hk
 obtain ⟨Ag,cg,rfl,g1,g2,g3,g4⟩:=h5.open
 exact ⟨b,off,d,Ag,cg,h1,h2,h3,h4,g1,g2,g3,g4,h6 0 _ rfl,h6 1 _ rfl,h6 2 _ rfl,h6 3 _ rfl,h6 4 _ rfl,h6 5 _ rfl,h6 6 _ rfl⟩
structure dU (w:World) (B D:Nat) (f:Fl) (vw vd vi vo vb:Value):Prop where
 row:ai w D #[vw,vd,vi,vo,vb] 117
 fl:cS w B f vw vd vi vo
 lo:B<=D
section
variable {w w':World} {B D:Nat} {f:Fl} {vw vd vi vo vb:Value}
theorem dU.below (h:dU w B D f vw vd vi vo vb) (hb:Below w.heap.size w w'):dU w' B D f vw vd vi vo vb:=
 ⟨h.row.below hb h.row.lt,h.fl.below (hb.mono (by have:=h.row.lt;have:=h.lo;omega)),h.lo⟩
theorem lK (h:dU w B D f vw vd vi vo vb) (n:Int):
  Calls Tryz.prog 96 #[.pointer (some ⟨D,0,none⟩),.int .i64 n] w fun e w'=>e= .returned (.bool (cB (ak f.fm n)))/\w=w':=by
 have q0:w.cell? ⟨D,0,none⟩=some vw:=h.row.cell 0
 obtain ⟨Aw,cw,rfl,lw,mw,sw⟩:=h.fl.wires
 clear h sw
 by_cases h0:0<=n
 ·have HR:Hid (cB (ak f.fm n)=decide (n<f.wires.length)):=by
   show _=_
   rw[Bool.eq_iff_iff,cb,decide_eq_true_eq]
   exact ⟨fun g=>g.2,fun g=>⟨h0,g⟩⟩
  go_enter Tryz.func96,Tryz.ntmps96
  go_wp2_with fail
  go_ret
  exact ⟨aj HR.o.symm,rfl⟩
 ·have HR:Hid (cB (ak f.fm n)=false):=ab (fun g=>h0 g.1)
  have h0':n<0:=by omega
  clear h0
  go_enter Tryz.func96,Tryz.ntmps96
  go_wp2_with fail
  go_ret
  exact ⟨aj HR.o.symm,rfl⟩
end
theorem kz (op:Int) (w:World):Calls Tryz.prog 116 #[.int .i64 op] w fun e w'=>e= .returned (.bool (aJ op))/\w=w':=by
 have HR:Hid (aJ op=(op==3||op==24||op==25||op==26)):=rfl
 generalize aJ op=N0 at*
 generalize hq1:(op==3)=Q1 at*
 generalize hq2:(op==24)=Q2 at*
 generalize hq3:(op==25)=Q3 at*
 generalize hq4:(op==26)=Q4 at*
 cases Q1<;>cases Q2<;>cases Q3
 all_goals
  go_enter Tryz.func116,Tryz.ntmps116
  go_wp2_with fail
  go_ret
  exact ⟨aj HR.o.symm,rfl⟩
end Go.Proofs.YtckognjamlckcaaGreatDoor
namespace Go.Proofs.YtckognjamlckcaaGreatDoor.Fo
open Vf
section
variable {f:Fl} {e x:Ex}
theorem bq:aO f e↔bJ f e/\∀x∈e.args,aO f x:=by
 unfold aO
 rw[eM]
 constructor
 ·intro h
  exact ⟨h e (by simp),fun x hx y hy=>h y (List.mem_cons_of_mem _ (List.mem_flatten.2 ⟨_,List.mem_map_of_mem hx,hy⟩))⟩
 ·rintro ⟨h1,h2⟩ y hy
  rcases List.mem_cons.1 hy with rfl|hy
  ·exact h1
  ·obtain ⟨l,hl,hy⟩:=List.mem_flatten.1 hy
   obtain ⟨z,hz,rfl⟩:=List.mem_map.1 hl
   exact h2 z hz y hy
theorem dK {op:Int}:aJ op=true↔op=3\/op=24\/op=25\/op=26:=by
 unfold aJ
 simp only[Bool.or_eq_true,beq_iff_eq,or_assoc]
theorem cC (h:bJ f e) (hn:aJ e.op=true):ak f.fm e.n:=by
 have:=h.2.2.2
 rwa [if_pos hn] at this
theorem dq (h:bJ f e):e.op=1\/e.op=2\/e.op=3\/(5<=e.op/\e.op<=27):=by
 have h1:=h.2.2.1
 have h2:=h.2.1
 unfold aX at h1
 repeat' split at h1
 all_goals omega
theorem bU (h:bJ f e):(e.args.length:Int)=aX e.op:=h.2.2.1.symm
theorem uN (op:Int):0<=Ar.signOut op/\Ar.signOut op<=2:=by unfold Ar.signOut;repeat' split;all_goals omega
theorem Bq {l:List Int} (h:∀k∈l,0<=k/\k<=2) (i:Int):0<=ao l i/\ao l i<=2:=by
 unfold ao
 rw[List.getD_eq_getElem?_getD]
 cases q:l[i.toNat]? with
 |none=>simp
 |some y=>exact h y (List.mem_of_getElem? q)
theorem qD {op:Int} {l:List Int} (h:∀k∈l,0<=k/\k<=2):0<=dJ op l/\dJ op l<=2:=by
 unfold dJ
 have:=uN op
 have:=Bq h 0
 repeat' split
 all_goals omega
theorem qJ (hw:de f):∀(e:Ex),aO f e->0<=am f e/\am f e<=2:=by
 intro e
 induction e using Ex.ind with
 |h e ih=>
  intro hp
  obtain ⟨h1,h2⟩:=bq.1 hp
  rw[dW]
  have hk:∀k∈e.args.map (am f),0<=k/\k<=2:=fun k hk=>by
   obtain ⟨x,hx,rfl⟩:=List.mem_map.1 hk
   exact ih x hx (h2 x hx)
  have ht:aJ e.op=true->ag f.fm e.n=1\/ag f.fm e.n=2:=fun hn=>by
   have hwi:=cC h1 hn
   have hl:e.n.toNat<f.wires.length:=by have:=hwi.1;have:=hwi.2;show e.n.toNat<f.wires.length;have h3:e.n<f.wires.length:=hwi.2;omega
   have hx:f.wires[e.n.toNat]? =some f.wires[e.n.toNat]:=List.getElem?_eq_getElem hl
   have:=(hw.1 _ (List.getElem_mem hl)).1
   have e1:jZ f.fm ((e.n.toNat:Nat):Int)=f.wires[e.n.toNat]:=bW hx
   rw[show ((e.n.toNat:Nat):Int)=e.n by have:=hwi.1;omega] at e1
   unfold ag
   rw[e1]
   exact this
  unfold eV
  split
  ·omega
  split
  ·omega
  split
  ·omega
  split
  ·omega
  split
  ·rename_i h3
   have:=ht (dK.2 (.inl h3))
   omega
  split
  ·split
   ·omega
   ·exact qD (fun k hk'=>hk k (List.mem_of_mem_tail hk'))
  ·exact qD hk
noncomputable def cT (f:Fl) (e:Ex) (k:Nat):List Int:=(e.args.take k).map (am f)
theorem mh {k:Nat} (h:e.args[k]? =some x):cT f e (k+1)=cT f e k++ [am f x]:=by
 unfold cT
 rw[List.take_add_one,h]
 simp
theorem nK:cT f e e.args.length=e.args.map (am f):=by unfold cT;rw[List.take_length]
theorem oZ {k:Nat} (h:e.args[k]? =some x) (h0:am f x=0):am f e=0:=by
 rw[dW]
 unfold eV
 rw[if_pos]
 rw[<-h0]
 exact List.mem_map_of_mem (List.mem_of_getElem? h)
end
structure Mk where
 wires:List Wr
 acts:List Ac
 cells:List (Int × Int)
 keeps:List (Int × Int)
 first:List (List Gd × Int)
 spent:Bool
namespace Mk
def wire (s:Mk) (ty:Int) (c:List Gd):Int × Mk:=if 1600<=s.wires.length then (0,{s with spent:=true}) else (s.wires.length,{s with wires:=s.wires++ [⟨ty,c⟩]})
def act (s:Mk) (a:Ac):Mk:={s with acts:=s.acts++ [a]}
def cell (s:Mk) (ty k:Int):Int × Mk:=if 60<=s.cells.length then (0,{s with spent:=true}) else (s.cells.length,{s with cells:=s.cells++ [(ty,k)]})
def keep (s:Mk) (c n:Int):Mk:={s with keeps:=s.keeps++ [(c,n)]}
def put (s:Mk) (ty:Int) (c:List Gd) (a:Ac):Int × Mk:=((s.wire ty c).1,(s.wire ty c).2.act {a with dst:=(s.wire ty c).1})
def ty (s:Mk) (n:Int):Int:=(s.wires.getD n.toNat ⟨0,[]⟩).ty
noncomputable def look (s:Mk) (c:List Gd):Option Int:=(s.first.find? (fun p=>cB (p.1=c))).map (·.2)
noncomputable def begins (s:Mk) (c:List Gd):Int × Mk:=
 match s.look c with
 |some w=>(w,s)
 |none=>
  let k:=s.cell 2 1
  let w:=k.2.put 2 c ⟨21,0,0,0,0,k.1⟩
  let t:=w.2.put 2 c ⟨2,0,0,0,0,0⟩
  (w.1,{t.2.keep k.1 t.1 with first:=(c,w.1)::t.2.first})
def was (s:Mk) (x k:Int) (c:List Gd):Int × Mk:=((s.cell (s.ty x) k).2.keep (s.cell (s.ty x) k).1 x).put (s.ty x) c ⟨21,0,0,0,0,(s.cell (s.ty x) k).1⟩
def choose (s:Mk) (a b d:Int) (c:List Gd):Int × Mk:=s.put (s.ty b) c ⟨27,0,a,b,d,0⟩
end Mk
def cj (op:Int):Int:=if op=6\/12<=op then 2 else 1
noncomputable def eh (e:Ex) (ps:List (List Gd->Mk->Int × Mk)) (c:List Gd) (s:Mk):Int × Mk:=
 let P:=fun (i:Nat)=>ps.getD i (fun _ s=>(0,s))
 if s.spent=true then (0,s)
 else if e.op=3 then (e.n,s)
 else if e.op=1\/e.op=2 then s.put e.op c ⟨e.op,0,0,0,0,e.n⟩
 else if e.op=21 then (P 0 c s).2.was (P 0 c s).1 0 c
 else if e.op=22 then
  let a:=P 0 c s
  let b:=P 1 c a.2
  let f:=b.2.begins c
  let y:=f.2.was b.1 0 c
  y.2.choose f.1 a.1 y.1 c
 else if e.op=23 then
  let a:=P 0 c s
  let b:=P 1 c a.2
  let f:=b.2.begins c
  f.2.choose f.1 a.1 b.1 c
 else if e.op=27 then
  let a:=P 0 c s
  let b:=P 1 c a.2
  let d:=P 2 c b.2
  d.2.choose a.1 b.1 d.1 c
 else if e.op=24\/e.op=25 then
  let a:=P 0 c.dropLast s
  a.2.put (a.2.ty a.1) c ⟨24,0,a.1,0,0,0⟩
 else if e.op=26 then
  let a:=P 0 (c++ [⟨e.n,false⟩]) s
  let b:=P 1 (c++ [⟨e.n,true⟩]) a.2
  b.2.put (b.2.ty a.1) c ⟨26,0,e.n,a.1,b.1,0⟩
 else if e.args.length=2 then
  let a:=P 0 c s
  let b:=P 1 c a.2
  b.2.put (cj e.op) c ⟨e.op,0,a.1,b.1,0,0⟩
 else (P 0 c s).2.put (cj e.op) c ⟨e.op,0,(P 0 c s).1,0,0,0⟩
noncomputable def ah:Ex->List Gd->Mk->Int × Mk:=Ex.para eh
theorem cQ (e:Ex) (c:List Gd) (s:Mk):ah e c s=eh e (e.args.map ah) c s:=by unfold ah;rw[Ex.para_eq]
noncomputable def js (f:Fl) (s:Mk) (d:Int × Ex):Mk:=(ah d.2 (aa f.fm d.1) s).2.act ⟨3,d.1,(ah d.2 (aa f.fm d.1) s).1,0,0,0⟩
def dL (f:Fl):Mk:=⟨f.wires,[],[],[],[],false⟩
noncomputable def bv (f:Fl) (k:Nat):Mk:=(f.defs.take k).foldl (js f) (dL f)
noncomputable def dr (f:Fl):Mk:=f.defs.foldl (js f) (dL f)
def aD (f:Fl) (s:Mk):Fm:=⟨s.wires,s.acts,s.cells,s.keeps,f.ins,f.outs⟩
theorem eQ (f:Fl):bv f 0=dL f:=rfl
theorem gm {f:Fl} {k:Nat} {d:Int × Ex} (h:f.defs[k]? =some d):bv f (k+1)=js f (bv f k) d:=by
 unfold bv
 rw[bj h,List.foldl_append];rfl
theorem ei (f:Fl):bv f f.defs.length=dr f:=by
 unfold bv dr
 rw[List.take_length]
structure Gs (s:Mk):Prop where
 one:1<=s.wires.length
 fst:∀p∈s.first,0<=p.2/\p.2<s.wires.length
structure Sp (k:Nat) (s:Mk) (r:Int × Mk):Prop where
 lo:0<=r.1
 hi:r.1<r.2.wires.length
 up:s.wires.length<=r.2.wires.length
 few:r.2.acts.length+r.2.keeps.length<=s.acts.length+s.keeps.length+k
 fst:∀p∈r.2.first,0<=p.2/\p.2<r.2.wires.length
section
variable {s:Mk} {r r':Int × Mk} {j k:Nat} {ty:Int} {c:List Gd} {a:Ac}
theorem Sp.gs (h:Sp k s r):Gs r.2:=⟨by have:=h.lo;have:=h.hi;omega,h.fst⟩
theorem Sp.more (h:Sp k s r) (hj:k<=j):Sp j s r:=⟨h.lo,h.hi,h.up,Nat.le_trans h.few (by omega),h.fst⟩
theorem Sp.trans (h:Sp k s r) (h':Sp j r.2 r'):Sp (k+j) s r':=⟨h'.lo,h'.hi,Nat.le_trans h.up h'.up,by have:=h.few;have:=h'.few;omega,h'.fst⟩
theorem CA (g:Gs s):Sp 0 s (s.wire ty c):=by
 have:=g.one
 unfold Mk.wire
 split
 ·exact ⟨Int.le_refl _,by dsimp only;omega,Nat.le_refl _,Nat.le_refl _,g.fst⟩
 ·refine ⟨by dsimp only;omega,by simp;omega,by simp,Nat.le_refl _,fun p hp=>?_⟩
  have:=g.fst p hp
  simp
  omega
theorem gT (g:Gs s):Sp 1 s (s.put ty c a):=by
 have h:=CA (ty:=ty) (c:=c) g
 exact ⟨h.lo,h.hi,h.up,by have:=h.few;simp[Mk.put,Mk.act];omega,h.fst⟩
theorem kG (s:Mk) (t k:Int):(s.cell t k).2.wires=s.wires/\(s.cell t k).2.acts=s.acts/\(s.cell t k).2.keeps=s.keeps/\(s.cell t k).2.first=s.first/\0<=(s.cell t k).1/\(s.cell t k).1<=60:=by
 unfold Mk.cell
 split
 ·simp
 ·refine ⟨rfl,rfl,rfl,rfl,?_,?_⟩<;>dsimp only<;>omega
theorem qX (g:Gs s) {x n:Int}:Sp 2 s (s.was x n c):=by
 obtain ⟨h1,h2,h3,h4,_⟩:=kG s (s.ty x) n
 have g':Gs ((s.cell (s.ty x) n).2.keep (s.cell (s.ty x) n).1 x):=⟨by simp only[Mk.keep,h1];exact g.one,by simp only[Mk.keep,h1,h4];exact g.fst⟩
 have h:=gT (ty:=s.ty x) (c:=c) (a:=⟨21,0,0,0,0,(s.cell (s.ty x) n).1⟩) g'
 have e1:((s.cell (s.ty x) n).2.keep (s.cell (s.ty x) n).1 x).wires=s.wires:=h1
 have e2:((s.cell (s.ty x) n).2.keep (s.cell (s.ty x) n).1 x).acts.length+((s.cell (s.ty x) n).2.keep (s.cell (s.ty x) n).1 x).keeps.length=s.acts.length+s.keeps.length+1:=by
  simp only[Mk.keep,h2,h3,List.length_append,List.length_singleton];omega
 have hu:=h.up
 have hf:=h.few
 rw[e1] at hu
 rw[e2] at hf
 exact ⟨h.lo,h.hi,hu,by unfold Mk.was;omega,h.fst⟩
theorem kW (g:Gs s) {x y z:Int}:Sp 1 s (s.choose x y z c):=gT g
theorem jB (g:Gs s):Sp 3 s (s.begins c):=by
 unfold Mk.begins
 split
 ·rename_i w hw
  obtain ⟨p,hp,rfl⟩:=Option.map_eq_some_iff.1 hw
  have:=g.fst p (List.mem_of_find?_eq_some hp)
  exact ⟨this.1,this.2,Nat.le_refl _,by dsimp only;omega,g.fst⟩
 ·obtain ⟨h1,h2,h3,h4,_⟩:=kG s 2 1
  have g':Gs (s.cell 2 1).2:=⟨by rw[h1];exact g.one,by rw[h1,h4];exact g.fst⟩
  have w:=gT (ty:=2) (c:=c) (a:=⟨21,0,0,0,0,(s.cell 2 1).1⟩) g'
  have t:=gT (ty:=2) (c:=c) (a:=⟨2,0,0,0,0,0⟩) w.gs
  have hf:=w.few
  have hf2:=t.few
  have hu:=w.up
  rw[h1] at hu
  rw[h2,h3] at hf
  refine ⟨w.lo,?_,?_,?_,?_⟩
  ·have:=t.up;have:=w.hi;simp only[Mk.keep];omega
  ·have:=t.up;simp only[Mk.keep];omega
  ·simp only[Mk.keep,List.length_append,List.length_singleton];omega
  ·intro p hp
   simp only[Mk.keep] at hp⊢
   rcases List.mem_cons.1 hp with rfl|hp
   ·have:=t.up;have:=w.hi;exact ⟨w.lo,by dsimp only;omega⟩
   ·exact t.fst p hp
end
section
variable {e x:Ex} {c:List Gd} {s:Mk}
theorem ar {i:Nat} (h:e.args[i]? =some x):(e.args.map ah).getD i (fun _ s=>(0,s))=ah x:=by
 rw[List.getD_eq_getElem?_getD,List.getElem?_map,h];rfl
theorem ku (e:Ex):ay e=1+(e.args.map ay).sum:=by
 unfold ay
 rw[eM,List.length_cons,List.length_flatten,List.map_map]
 simp only[Function.comp_def]
 omega
theorem gH {α:Type}:∀{l:List α},l.length=2->∃x y,l=[x,y]
 | [x,y],_=>⟨x,y,rfl⟩
theorem xt {α:Type}:∀{l:List α},l.length=3->∃x y z,l=[x,y,z]
 | [x,y,z],_=>⟨x,y,z,rfl⟩
theorem br {f:Fl} (h:bJ f e) (ho:e.op=5\/e.op=6\/e.op=21\/e.op=24\/e.op=25):∃x,e.args=[x]:=by
 have hl:=bU h
 unfold aX at hl
 rw[if_neg (by omega),if_neg (by omega),if_pos ho] at hl
 exact List.length_eq_one_iff.1 (by omega)
theorem aQ {f:Fl} (h:bJ f e) (ho:7<=e.op/\e.op<=20\/e.op=22\/e.op=23\/e.op=26):∃x y,e.args=[x,y]:=by
 have hl:=bU h
 unfold aX at hl
 rw[if_neg (by omega),if_neg (by omega),if_neg (by omega),if_pos ho] at hl
 exact gH (by omega)
theorem eo {f:Fl} (h:bJ f e) (ho:e.op=27):∃x y z,e.args=[x,y,z]:=by
 have hl:=bU h
 unfold aX at hl
 rw[if_neg (by omega),if_neg (by omega),if_neg (by omega),if_neg (by omega),if_pos ho] at hl
 exact xt (by omega)
theorem fB {f:Fl} (e:Ex):aO f e->∀(c:List Gd) (s:Mk),Gs s->f.wires.length<=s.wires.length->Sp (8*ay e) s (ah e c s):=by
 induction e using Ex.ind with
 |h e ih=>
  intro hp c s g hw
  obtain ⟨hp1,hp2⟩:=bq.1 hp
  have hz:=ku e
  have ih':∀x∈e.args,∀(c:List Gd) (s:Mk),Gs s->f.wires.length<=s.wires.length->Sp (8*ay x) s (ah x c s):=fun x hx=>ih x hx (hp2 x hx)
  have g1:=g.one
  rw[cQ,eh]
  dsimp only
  by_cases hs:s.spent=true
  ·rw[if_pos hs]
   exact ⟨Int.le_refl _,by dsimp only;omega,Nat.le_refl _,by dsimp only;omega,g.fst⟩
  rw[if_neg hs]
  by_cases h3:e.op=3
  ·rw[if_pos h3]
   have:=cC hp1 (by unfold aJ;rw[h3];rfl)
   exact ⟨this.1,by have h9:e.n<f.wires.length:=this.2;dsimp only;omega,Nat.le_refl _,by dsimp only;omega,g.fst⟩
  rw[if_neg h3]
  by_cases h12:e.op=1\/e.op=2
  ·rw[if_pos h12]
   exact (gT g).more (by omega)
  rw[if_neg h12]
  have hops:=dq hp1
  by_cases h21:e.op=21
  ·rw[if_pos h21]
   obtain ⟨x,hx⟩:=br hp1 (by omega)
   rw[ar (x:=x) (i:=0) (by rw[hx];rfl)]
   rw[hx] at hz ih'
   simp at hz
   have h:=ih' x (by simp) c s g hw
   exact (h.trans (qX h.gs)).more (by omega)
  rw[if_neg h21]
  by_cases h22:e.op=22
  ·rw[if_pos h22]
   obtain ⟨x,y,hx⟩:=aQ hp1 (by omega)
   rw[ar (x:=x) (i:=0) (by rw[hx];rfl),ar (x:=y) (i:=1) (by rw[hx];rfl)]
   rw[hx] at hz ih'
   simp at hz
   have h:=ih' x (by simp) c s g hw
   have h':=ih' y (by simp) c _ h.gs (Nat.le_trans hw h.up)
   have hb:=jB (c:=c) h'.gs
   have hy:=qX (c:=c) (x:=(ah y c (ah x c s).2).1) (n:=0) hb.gs
   exact ((((h.trans h').trans hb).trans hy).trans (kW hy.gs)).more (by omega)
  rw[if_neg h22]
  by_cases h23:e.op=23
  ·rw[if_pos h23]
   obtain ⟨x,y,hx⟩:=aQ hp1 (by omega)
   rw[ar (x:=x) (i:=0) (by rw[hx];rfl),ar (x:=y) (i:=1) (by rw[hx];rfl)]
   rw[hx] at hz ih'
   simp at hz
   have h:=ih' x (by simp) c s g hw
   have h':=ih' y (by simp) c _ h.gs (Nat.le_trans hw h.up)
   have hb:=jB (c:=c) h'.gs
   exact (((h.trans h').trans hb).trans (kW hb.gs)).more (by omega)
  rw[if_neg h23]
  by_cases h27:e.op=27
  ·rw[if_pos h27]
   obtain ⟨x,y,z,hx⟩:=eo hp1 h27
   rw[ar (x:=x) (i:=0) (by rw[hx];rfl),ar (x:=y) (i:=1) (by rw[hx];rfl),ar (x:=z) (i:=2) (by rw[hx];rfl)]
   rw[hx] at hz ih'
   simp at hz
   have h:=ih' x (by simp) c s g hw
   have h':=ih' y (by simp) c _ h.gs (Nat.le_trans hw h.up)
   have h2:=ih' z (by simp) c _ h'.gs (Nat.le_trans (Nat.le_trans hw h.up) h'.up)
   exact (((h.trans h').trans h2).trans (kW h2.gs)).more (by omega)
  rw[if_neg h27]
  by_cases h24:e.op=24\/e.op=25
  ·rw[if_pos h24]
   obtain ⟨x,hx⟩:=br hp1 (by omega)
   rw[ar (x:=x) (i:=0) (by rw[hx];rfl)]
   rw[hx] at hz ih'
   simp at hz
   have h:=ih' x (by simp) c.dropLast s g hw
   exact (h.trans (gT h.gs)).more (by omega)
  rw[if_neg h24]
  by_cases h26:e.op=26
  ·rw[if_pos h26]
   obtain ⟨x,y,hx⟩:=aQ hp1 (by omega)
   rw[ar (x:=x) (i:=0) (by rw[hx];rfl),ar (x:=y) (i:=1) (by rw[hx];rfl)]
   rw[hx] at hz ih'
   simp at hz
   have h:=ih' x (by simp) (c++ [⟨e.n,false⟩]) s g hw
   have h':=ih' y (by simp) (c++ [⟨e.n,true⟩]) _ h.gs (Nat.le_trans hw h.up)
   exact ((h.trans h').trans (gT h'.gs)).more (by omega)
  rw[if_neg h26]
  by_cases h2:e.args.length=2
  ·rw[if_pos h2]
   obtain ⟨x,y,hx⟩:=gH h2
   rw[ar (x:=x) (i:=0) (by rw[hx];rfl),ar (x:=y) (i:=1) (by rw[hx];rfl)]
   rw[hx] at hz ih'
   simp at hz
   have h:=ih' x (by simp) c s g hw
   have h':=ih' y (by simp) c _ h.gs (Nat.le_trans hw h.up)
   exact ((h.trans h').trans (gT h'.gs)).more (by omega)
  ·rw[if_neg h2]
   obtain ⟨x,hx⟩:∃x,e.args=[x]:=by
    by_cases h5:e.op=5\/e.op=6
    ·exact br hp1 (by omega)
    ·obtain ⟨x,y,hx⟩:=aQ hp1 (by omega)
     rw[hx] at h2
     exact absurd rfl h2
   rw[ar (x:=x) (i:=0) (by rw[hx];rfl)]
   rw[hx] at hz ih'
   simp at hz
   have h:=ih' x (by simp) c s g hw
   exact (h.trans (gT h.gs)).more (by omega)
end
theorem wH {f:Fl} (hp:∀d∈f.defs,aO f d.2) (h1:1<=f.wires.length):∀k,k<=f.defs.length->Gs (bv f k)/\f.wires.length<=(bv f k).wires.length/\(bv f k).acts.length+(bv f k).keeps.length<=((f.defs.take k).map (fun d=>8*ay d.2+1)).sum:=by
 intro k
 induction k with
 |zero=>exact fun _=>⟨⟨h1,fun p hp=>by cases hp⟩,Nat.le_refl _,by simp[bv,dL]⟩
 |succ k ih=>
  intro hk
  obtain ⟨g,hw,hf⟩:=ih (by omega)
  obtain ⟨d,hd⟩:∃d,f.defs[k]? =some d:=⟨_,List.getElem?_eq_getElem (by omega)⟩
  rw[gm hd,bj hd,List.map_append,List.sum_append]
  have h:=fB (f:=f) d.2 (hp d (List.mem_of_getElem? hd)) (aa f.fm d.1) _ g hw
  have hs:=h.few
  refine ⟨⟨h.gs.one,h.fst⟩,Nat.le_trans hw h.up,?_⟩
  simp only[js,Mk.act,List.length_append,List.length_singleton,List.map_cons,List.map_nil,List.sum_singleton]
  omega
theorem qx {α:Type} (g:α->Nat):∀(l:List α) (k:Nat) x,l[k]? =some x->((l.take k).map g).sum+g x<=(l.map g).sum
 | [],k,x,h=>by simp at h
 |y::l,0,x,h=>by simp at h;subst h;simp
 |y::l,k+1,x,h=>by
  have:=qx g l k x (by simpa using h)
  simp only[List.take_succ_cons,List.map_cons,List.sum_cons]
  omega
end Go.Proofs.YtckognjamlckcaaGreatDoor.Fo
namespace Go.Proofs.YtckognjamlckcaaGreatDoor
open Go.RowKit Vf Fo
attribute [local go_sem ↓] Go.wp_at_zero Go.wp_at_succ
theorem uQ {w:World} {B D:Nat} {f:Fl} {vw vd vi vo vb:Value} (h:dU w B D f vw vd vi vo vb) (e:Ex) (A:Option Addr) (cap:Nat):
  Calls Tryz.prog 98 #[.pointer (some ⟨D,0,none⟩),bz e A cap] w fun r w'=>r= .returned (.bool (cB (bJ f e)))/\Below w.heap.size w w':=by
 have b1:Below w.heap.size w (w.alloc (.cells #[.int .i64 e.op,.string e.name,.int .i64 e.n,.slice A e.args.length cap,.int .i64 e.line,.int .i64 e.col] 75)):=bE
 have rX:=ai.new w #[.int .i64 e.op,.string e.name,.int .i64 e.n,.slice A e.args.length cap,.int .i64 e.line,.int .i64 e.col] 75
 have HIS:=zH (fun W (hW:Below w.heap.size w W)=>lK (h.below hW) e.n)
 have HNM:=zH (kz e.op)
 have HPT:=zH (vO e.op)
 have HD:Hid (bJ f e↔e.name.toList.isEmpty=true/\e.op≠4/\aX e.op=e.args.length/\(if aJ e.op=true then ak f.fm e.n else if e.op=1 then 0<=e.n else if e.op=2 then e.n=0\/e.n=1 else e.n=0)):=Iff.rfl
 clear h
 go_enter Tryz.func98,Tryz.ntmps98
 go_upto_region 1 with (fail)
 generalize w.alloc (.cells #[.int .i64 e.op,.string e.name,.int .i64 e.n,.slice A e.args.length cap,.int .i64 e.line,.int .i64 e.col] 75)=w1 at*
 have hXl:=rX.lt
 have hs1:=b1.size
 have HX:Hid (∀W,Below w1.heap.size w1 W->W.cell? ⟨w.heap.size,0,none⟩=some (.int .i64 e.op)/\W.cell? ⟨w.heap.size,1,none⟩=some (.string e.name)/\W.cell? ⟨w.heap.size,2,none⟩=some (.int .i64 e.n)/\W.cell? ⟨w.heap.size,3,none⟩=some (.slice A e.args.length cap)/\W.cell? ⟨w.heap.size,4,none⟩=some (.int .i64 e.line)/\W.cell? ⟨w.heap.size,5,none⟩=some (.int .i64 e.col)):=fun W hW=>(rX.below hW hXl).six'
 have HX3:Hid (∀W,Below w1.heap.size w1 W->W.cell? ⟨w.heap.size,0,none⟩=some (.int .i64 e.op)/\W.cell? ⟨w.heap.size,1,none⟩=some (.string e.name)/\W.cell? ⟨w.heap.size,3,none⟩=some (.slice A e.args.length cap)):=fun W hW=>⟨(HX.o W hW).1,(HX.o W hW).2.1,(HX.o W hW).2.2.2.1⟩
 obtain ⟨c0,c1,c2,c3,c4,c5⟩:=rX.six'
 generalize hn:e.name.toList.isEmpty=E0 at*
 have HE0:=zH hn
 cases E0
 ·have HF:Hid (cB (bJ f e)=false):=ab (fun g=>by have:=(HD.o.1 g).1;cases this)
  go_quiet (fail)
  go_wp2_with fail
  go_ret
  exact ⟨aj HF.o.symm,ap b1 _⟩
 by_cases h4:e.op=4
 ·have h4':(e.op==4)=true:=by simp[h4]
  have HF:Hid (cB (bJ f e)=false):=ab (fun g=>(HD.o.1 g).2.1 h4)
  clear h4
  go_quiet (fail)
  go_wp2_with fail
  go_ret
  exact ⟨aj HF.o.symm,ap b1 _⟩
 have h4':(e.op==4)=false:=by simp[h4]
 have H4:=zH h4
 clear h4
 by_cases hp:aX e.op=e.args.length
 rotate_left 1
 ·have hp':((aX e.op) !=(e.args.length:Int))=true:=by simp[hp]
  have HF:Hid (cB (bJ f e)=false):=ab (fun g=>hp (HD.o.1 g).2.2.1)
  generalize aX e.op=PZ at*
  clear hp
  go_cut[5] (fun v W=>v= .bool true/\Below w1.heap.size w1 W)
  case first=>
   refine' zq51
  case rest=>
   obtain ⟨rfl,hbc⟩:=hcut
   have HBC:=zH (b1.trans (hbc.mono hs1))
   clear c0 c1 c2 c3 c4 c5
   refine' zq157
 have hp':((aX e.op) !=(e.args.length:Int))=false:=by simp[hp]
 have HP:=zH hp
 clear hp
 generalize aX e.op=PZ at*
 go_cut[5] (fun v W=>v= .bool false/\Below w1.heap.size w1 W)
 case first=>
  refine' zq51
 case rest=>
  obtain ⟨rfl,hbc⟩:=hcut
  have hbw:=b1.trans (hbc.mono hs1)
  have HBC:=zH hbw
  clear c0 c1 c2 c3 c4 c5
  obtain ⟨c0,c1,c2,c3,c4,c5⟩:=HX.o _ hbc
  have HDD:Hid (bJ f e↔if aJ e.op=true then ak f.fm e.n else if e.op=1 then 0<=e.n else if e.op=2 then e.n=0\/e.n=1 else e.n=0):=HD.o.trans ⟨fun g=>g.2.2.2,fun g=>⟨rfl,H4.o,HP.o,g⟩⟩
  clear HD
  generalize hnb:aJ e.op=NB at*
  have HNB:=zH hnb
  clear hnb
  go_wp2_with fail
  (with_reducible refine (HNM.o _).mono ?_)
  rintro r _ ⟨rfl,rfl⟩
  cases NB
  rotate_left 1
  ·have HF:Hid (cB (bJ f e)=cB (ak f.fm e.n)):=bu (HDD.o.trans (by rw[if_pos rfl]))
   generalize cB (ak f.fm e.n)=BI at*
   go_wp2_with fail
   (with_reducible refine (HIS.o _ hbw).mono ?_)
   rintro r _ ⟨rfl,rfl⟩
   refine' zq157
  by_cases o1:e.op=1
  ·have o1':(e.op==1)=true:=by simp[o1]
   have HF:Hid (cB (bJ f e)=decide (0<=e.n)):=by
    show _=_
    rw[Bool.eq_iff_iff,cb,decide_eq_true_eq,HDD.o,if_neg (by decide),if_pos o1]
   clear o1
   refine' zq157
  have o1':(e.op==1)=false:=by simp[o1]
  by_cases o2:e.op=2
  ·have o2':(e.op==2)=true:=by simp[o2]
   have HF:Hid (cB (bJ f e)=(e.n==0||e.n==1)):=by
    show _=_
    rw[Bool.eq_iff_iff,cb,Bool.or_eq_true,beq_iff_eq,beq_iff_eq,HDD.o,if_neg (by decide),if_neg o1,if_pos o2]
   clear o1 o2
   generalize hq0:(e.n==0)=Q0 at*
   cases Q0
   all_goals
    refine' zq157
  have o2':(e.op==2)=false:=by simp[o2]
  have HF:Hid (cB (bJ f e)=(e.n==0)):=by
   show _=_
   rw[Bool.eq_iff_iff,cb,beq_iff_eq,HDD.o,if_neg (by decide),if_neg o1,if_neg o2]
  clear o1 o2
  refine' zq157
end Go.Proofs.YtckognjamlckcaaGreatDoor
