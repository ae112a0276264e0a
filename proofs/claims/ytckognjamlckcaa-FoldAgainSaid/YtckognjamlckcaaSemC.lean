/-
  Several texts in one: SemE, SemF, OpenR, RTy. The document's run of a form: every wire's value; is a clock there?
-/
import Derived.Test.YtckognjamlckcaaNmA
import Derived.Test.YtckognjamlckcaaR24A
import Derived.Test.YtckognjamlckcaaNmD
import Derived.Test.YtckognjamlckcaaRgL
import Derived.Test.YtckognjamlckcaaNormG
import Derived.Test.YtckognjamlckcaaSemB
namespace Go.Proofs.Ytckognjamlckcaa
open Go.RowKit Vf Fo
attribute [local go_sem ↓] Go.wp_at_zero Go.wp_at_succ
set_option maxRecDepth 100000 in
set_option maxHeartbeats 2000000 in
theorem nsame_any (l m:List Int) (v1 v2:Value) (B:Nat) (w:World) (h1:SlV w B 1 isInt v1 l) (h2:SlV w B 1 isInt v2 m):
  Calls Try.prog 43 #[v1,v2] w fun e w'=>e= .returned (.bool (cB (l=m)))∧∃n,w'=w.drewN n:=by
 obtain ⟨A1,c1,rfl,l1,m1,s1⟩:=h1
 obtain ⟨A2,c2,rfl,l2,m2,s2⟩:=h2
 have m1':c1≤9223372036854775807:=by unfold maxLen at m1;omega
 have m2':c2≤9223372036854775807:=by unfold maxLen at m2;omega
 by_cases hl:l.length=m.length
 rotate_left 1
 ·have HF:=Lib.hid (cB_false (fun g:l=m=>hl (by rw[g])))
  have hl':((l.length:Int) !=(m.length:Int))=true:=by rw[bne_iff_ne];omega
  clear hl
  go_enter Try.func43,Try.ntmps43
  go_wp2_with fail
  go_ret
  exact ⟨ret_bool HF.out.symm,0,rfl⟩
 have hl':((l.length:Int) !=(m.length:Int))=false:=by rw[bne_eq_false_iff_eq];omega
 have HL:=Lib.hid hl
 have hle1:l.length≤m.length:=by omega
 clear hl
 go_enter Try.func43,Try.ntmps43
 go_wp2_with fail
 go_loopw[5] (fun i wr=>∃k:Nat,k≤l.length∧i= .int .i64 k∧Hid (∀j,j<k→∀x y,l[j]? =some x→m[j]? =some y→x=y)∧∃n,wr=w.drewN n) (fun i _=>l.length-(intOf i).toNat)
 case atStart=>exact ⟨0,Nat.zero_le _,rfl,fun j h=>absurd h (by omega),0,rfl⟩
 case round=>
  obtain ⟨k,hk,rfl,HN,n,rfl⟩:=hrel
  by_cases hlt:k<l.length
  ·obtain ⟨b1,o1,x,rfl,hb1,hx,wx,d1⟩:=s1.int hlt
   obtain ⟨b2,o2,y,rfl,hb2,hy,wy,d2⟩:=s2.int (show k<m.length by omega)
   have HX:=Lib.hid hx
   have HY:=Lib.hid hy
   clear hx hy
   have hk1:(k:Int)<l.length:=by omega
   have hk2:(k:Int)<m.length:=by omega
   have hk0:(0:Int)≤(k:Int):=by omega
   go_wp2_with fail
   go_quiet (fail)
   by_cases e:x=y
   ·have e':(x !=y)=false:=by simp[e]
    have HN':=Lib.hid (upto_succ HN.out (fun x' y' hx' hy'=>by rw[HX.out] at hx';rw[HY.out] at hy';injection hx' with hx';injection hy' with hy';rw[←hx',←hy'];exact e))
    clear e
    go_wp2_with fail
    go_roundw
    case rel=>exact ⟨k+1,by omega,by go_num,HN',by first|exact ⟨_,rfl⟩|(rw[World.drewN_drewN];exact ⟨_,rfl⟩)⟩
    case measure=>simp[intOf];omega
   ·have e':(x !=y)=true:=by simp[e]
    have HF:=Lib.hid (cB_false (fun g:l=m=>e (by have:=HX.out;rw[g,HY.out] at this;injection this with this;exact this.symm)))
    clear e
    go_wp2_with fail
    go_ret
    exact ⟨ret_bool HF.out.symm,by first|exact ⟨_,rfl⟩|(rw[World.drewN_drewN];exact ⟨_,rfl⟩)⟩
  ·obtain rfl:k=l.length:=by omega
   have HF:=Lib.hid (cB_true (flist_eq HL.out HN.out))
   go_wp2_with fail
   go_ret
   exact ⟨ret_bool HF.out.symm,by first|exact ⟨_,rfl⟩|(rw[World.drewN_drewN];exact ⟨_,rfl⟩)⟩
def isRw (w:World) (B:Nat) (l:List Int) (cs:List Value):Prop:=∃v,cs=[v]∧SlV w B 1 isInt v l
theorem sl_rw {w:World} {B C:Nat} {A:Option Addr} {l:List (List Int)} {k:Nat} (h:Sl w B 1 (isRw w C) A l) (hk:k<l.length):∃b off x Ax cx,A=some ⟨b,off,none⟩∧b<B∧l[k]? =some x∧w.cell? ⟨b,off+k,none⟩=some (.slice Ax x.length cx)∧x.length≤cx∧cx≤maxLen∧Sl w C 1 isInt Ax x:=by
 obtain ⟨b,off,x,cs,h1,h2,h3,⟨v,rfl,Ax,cx,rfl,h4,h6,h7⟩,h5⟩:=h.at_ hk
 have:=h5 0 _ rfl
 rw[Nat.mul_one,Nat.add_zero] at this
 exact ⟨b,off,x,Ax,cx,h1,h2,h3,this,h4,h6,h7⟩
theorem rq_of {P:Program} {f:FuncId} {args:Array Value} {w:World} {q n:Nat} {v:Value}
  (h:Calls P f args (w.drewN (q+n)) fun e w'=>e= .returned v∧∃m,w'=(w.drewN (q+n)).drewN m):Calls P f args (w.drewN (q+n)) fun e w''=>e= .returned v∧∃m,w''=w.drewN (q+m):=
 h.mono fun _ _ ⟨he,m,hm⟩=>⟨he,n+m,by rw[hm,World.drewN_drewN,Nat.add_assoc]⟩
set_option maxRecDepth 100000 in
set_option maxHeartbeats 4000000 in
theorem rows_same (l:List (List Int)) (v1 v2:Value) (B:Nat) (w:World) (h1:SlV w B 1 (isRw w B) v1 l) (h2:SlV w B 1 (isRw w B) v2 l):
  Calls Try.prog 17 #[v1,v2] w fun e w'=>e= .returned (.bool true)∧∃n,w'=w.drewN n:=by
 obtain ⟨A1,c1,rfl,l1,m1,s1⟩:=h1
 obtain ⟨A2,c2,rfl,l2,m2,s2⟩:=h2
 have m1':c1≤9223372036854775807:=by unfold maxLen at m1;omega
 have m2':c2≤9223372036854775807:=by unfold maxLen at m2;omega
 go_enter Try.func17,Try.ntmps17
 go_wp2_with fail
 go_loopw[5] (fun i wr=>∃k:Nat,k≤l.length∧i= .int .i64 k∧∃n,wr=w.drewN n) (fun i _=>l.length-(intOf i).toNat)
 case atStart=>exact ⟨0,Nat.zero_le _,rfl,0,rfl⟩
 case round=>
  obtain ⟨k,hk,rfl,n,rfl⟩:=hrel
  by_cases hlt:k<l.length
  ·obtain ⟨b1,o1,x,Ax,cx,rfl,hb1,hx,d0,ly,my,sx⟩:=sl_rw s1 hlt
   obtain ⟨b2,o2,y,Ay,cy,rfl,hb2,hy,e0,lz,mz,sy⟩:=sl_rw s2 hlt
   obtain rfl:x=y:=Option.some.inj (hx.symm.trans hy)
   have hk1:(k:Int)<l.length:=by omega
   have hk0:(0:Int)≤(k:Int):=by omega
   have HC:Hid (∀q,Calls Try.prog 43 #[.slice Ax x.length cx,.slice Ay x.length cy] (w.drewN (n+q)) fun e w'=>e= .returned (.bool true)∧∃m,w'=(w.drewN (n+q)).drewN m):=fun q=>by
    have:=nsame_any x x (.slice Ax x.length cx) (.slice Ay x.length cy) B (w.drewN (n+q)) ⟨_,_,rfl,ly,my,sx⟩ ⟨_,_,rfl,lz,mz,sy⟩
    rwa [cB_true rfl] at this
   clear hx hy
   generalize x.length=len at*
   go_wp2_with fail
   go_quiet ((go_at_call 43;exact rq_of (HC.out _)))
   go_wp2_with fail
   go_roundw
   case rel=>exact ⟨k+1,by omega,by go_num,by first|exact ⟨_,rfl⟩|(rw[World.drewN_drewN];exact ⟨_,rfl⟩)⟩
   case measure=>simp[intOf];omega
  ·obtain rfl:k=l.length:=by omega
   go_wp2_with fail
   go_ret
   exact ⟨rfl,n,rfl⟩
def RwsSm (l:List (List Int)):Prop:=l.length≤12∧∀x∈l,x.length≤12
set_option maxRecDepth 100000 in
set_option maxHeartbeats 4000000 in
theorem few22_any (l:List (List Int)) (v:Value) (B:Nat) (w:World) (h:SlV w B 1 (isRw w B) v l):
  Calls Try.prog 15 #[v] w fun e w'=>(∃b,e= .returned (.bool b)∧Hid (b=true→RwsSm l))∧w=w':=by
 obtain ⟨A1,c1,rfl,l1,m1,s1⟩:=h
 have m1':c1≤9223372036854775807:=by unfold maxLen at m1;omega
 go_enter Try.func15,Try.ntmps15
 go_wp2_with fail
 go_loopw[7] (fun i wr=>∃k:Nat,k≤l.length∧i= .int .i64 k∧Hid (∀j,j<k→∀x,l[j]? =some x→x.length≤12)∧w=wr) (fun i _=>l.length-(intOf i).toNat)
 case atStart=>exact ⟨0,Nat.zero_le _,rfl,fun j h=>absurd h (by omega),rfl⟩
 case round=>
  obtain ⟨k,hk,rfl,HN,rfl⟩:=hrel
  by_cases hlt:k<l.length
  ·obtain ⟨b1,o1,x,Ax,cx,rfl,hb1,hx,d0,ly,my,sx⟩:=sl_rw s1 hlt
   have HX:=Lib.hid hx
   clear hx
   by_cases e1:12<x.length
   ·have e1':decide (12<(x.length:Int))=true:=by simp;omega
    go_wp2_with fail
    go_ret
    exact ⟨⟨false,rfl,fun g=>by cases g⟩,rfl⟩
   have e1':decide (12<(x.length:Int))=false:=by simp;omega
   have HN':=Lib.hid (upto_succ HN.out (fun x' hx'=>by rw[HX.out] at hx';injection hx' with hx';rw[←hx'];omega))
   clear HX
   go_wp2_with fail
   go_roundw
   case rel=>exact ⟨k+1,by omega,by go_num,HN',trivial⟩
   case measure=>simp[intOf];omega
  ·obtain rfl:k=l.length:=by omega
   have HM:Hid (∀x∈l,x.length≤12):=fun x hx=>by
    obtain ⟨j,hj⟩:=List.getElem?_of_mem hx
    exact HN.out j (List.getElem?_eq_some_iff.1 hj).1 x hj
   go_wp2_with fail
   go_ret
   exact ⟨⟨_,rfl,fun g=>⟨by simp at g;omega,HM.out⟩⟩,rfl⟩
end Go.Proofs.Ytckognjamlckcaa
namespace Go.Proofs.Ytckognjamlckcaa
open Go.RowKit Vf Fo
attribute [local go_sem ↓] Go.wp_at_zero Go.wp_at_succ
set_option maxRecDepth 100000 in
set_option maxHeartbeats 4000000 in
theorem right04_any (l:List Int) (v:Value) (B:Nat) (w:World) (h:SlV w B 1 isInt v l):
  Calls Try.prog 42 #[v] w fun e w'=>(∃b,e= .returned (.bool b))∧w=w':=by
 obtain ⟨A1,c1,rfl,l1,m1,s1⟩:=h
 have m1':c1≤9223372036854775807:=by unfold maxLen at m1;omega
 go_enter Try.func42,Try.ntmps42
 go_wp2_with fail
 go_loopw[3] (fun i wr=>∃k:Nat,k≤l.length∧i= .int .i64 k∧w=wr) (fun i _=>l.length-(intOf i).toNat)
 case atStart=>exact ⟨0,Nat.zero_le _,rfl,rfl⟩
 case round=>
  obtain ⟨k,hk,rfl,rfl⟩:=hrel
  by_cases hlt:k<l.length
  ·obtain ⟨b1,o1,x,rfl,hb1,hx,wx,d0⟩:=s1.int hlt
   clear hx wx
   have hlt':(k:Int)<l.length:=by omega
   by_cases e1:x=1
   ·have q1:(x !=1)=false:=by simp[e1]
    clear e1
    go_wp2_with fail
    go_roundw
    case rel=>exact ⟨k+1,by omega,by go_num,trivial⟩
    case measure=>simp[intOf];omega
   have q1:(x !=1)=true:=by simp[e1]
   by_cases e2:x=2
   ·have q2:(x !=2)=false:=by simp[e2]
    clear e1 e2
    go_wp2_with fail
    go_roundw
    case rel=>exact ⟨k+1,by omega,by go_num,trivial⟩
    case measure=>simp[intOf];omega
   have q2:(x !=2)=true:=by simp[e2]
   clear e1 e2
   go_wp2_with fail
   go_ret
   exact ⟨⟨_,rfl⟩,rfl⟩
  ·obtain rfl:k=l.length:=by omega
   by_cases h0:0<l.length
   ·have q0:decide ((0:Int)<(l.length:Int))=true:=decide_eq_true (by omega)
    go_wp2_with fail
    go_ret
    exact ⟨⟨_,rfl⟩,rfl⟩
   ·have q0:decide ((0:Int)<(l.length:Int))=false:=decide_eq_false (by omega)
    go_wp2_with fail
    go_ret
    exact ⟨⟨_,rfl⟩,rfl⟩
set_option maxRecDepth 100000 in
set_option maxHeartbeats 4000000 in
theorem fits04_any (ts l:List Int) (v1 v2:Value) (B:Nat) (w:World) (h1:SlV w B 1 isInt v1 ts) (h2:SlV w B 1 isInt v2 l):
  Calls Try.prog 16 #[v1,v2] w fun e w'=>(∃b,e= .returned (.bool b)∧Hid (b=true→l.length=ts.length∧∀(j:Nat) x y,ts[j]? =some x→l[j]? =some y→x=2→y=0∨y=1))∧w=w':=by
 have HR:=Lib.hid (right04_any ts v1 B w h1)
 obtain ⟨A1,c1,rfl,l1,m1,s1⟩:=h1
 obtain ⟨A2,c2,rfl,l2,m2,s2⟩:=h2
 have m1':c1≤9223372036854775807:=by unfold maxLen at m1;omega
 have m2':c2≤9223372036854775807:=by unfold maxLen at m2;omega
 go_enter Try.func16,Try.ntmps16
 go_wp2_with fail
 refine HR.out.mono ?_
 rintro e w1 ⟨⟨b,rfl⟩,rfl⟩
 cases b
 ·go_wp2_with fail
  go_ret
  exact ⟨⟨false,rfl,fun g=>by cases g⟩,rfl⟩
 by_cases hl:l.length=ts.length
 rotate_left 1
 ·have hl':((l.length:Int) !=(ts.length:Int))=true:=by rw[bne_iff_ne];omega
  clear hl
  go_wp2_with fail
  go_ret
  exact ⟨⟨false,rfl,fun g=>by cases g⟩,rfl⟩
 have hl':((l.length:Int) !=(ts.length:Int))=false:=by rw[bne_eq_false_iff_eq];omega
 have HL:=Lib.hid hl
 have hle:l.length≤ts.length:=by omega
 clear hl
 go_wp2_with fail
 go_loopw[5] (fun i wr=>∃k:Nat,k≤l.length∧i= .int .i64 k∧Hid (∀j:Nat,j<k→∀x y,ts[j]? =some x→l[j]? =some y→x=2→y=0∨y=1)∧w=wr) (fun i _=>l.length-(intOf i).toNat)
 case atStart=>exact ⟨0,Nat.zero_le _,rfl,fun j h=>absurd h (by omega),rfl⟩
 case round=>
  obtain ⟨k,hk,rfl,HJ,rfl⟩:=hrel
  by_cases hlt:k<l.length
  ·obtain ⟨b1,o1,x,rfl,hb1,hx,wx,d0⟩:=s1.int (show k<ts.length by omega)
   obtain ⟨b2,o2,y,rfl,hb2,hy,wy,e0⟩:=s2.int hlt
   have HNX:Hid ((x=2→y=0∨y=1)→∀j:Nat,j<k+1→∀x y,ts[j]? =some x→l[j]? =some y→x=2→y=0∨y=1):=fun g j hj x' y' hx' hy'=>by
    rcases Nat.lt_or_ge j k with hjk|hjk
    ·exact HJ.out j hjk x' y' hx' hy'
    ·obtain rfl:j=k:=by omega
     rw[hx] at hx';rw[hy] at hy'
     injection hx' with hx';injection hy' with hy'
     subst hx';subst hy'
     exact g
   clear hx wx hy wy
   have hlt1:(k:Int)<l.length:=by omega
   have hlt2:(k:Int)<ts.length:=by omega
   by_cases e1:x=2
   ·have q1:(x==2)=true:=by simp[e1]
    clear e1
    by_cases e2:y=0
    ·have q2:(y !=0)=false:=by simp[e2]
     have HJ':=Lib.hid (HNX.out (fun _=> .inl e2))
     clear e2
     go_wp2_with fail
     go_roundw
     case rel=>exact ⟨k+1,by omega,by go_num,HJ',trivial⟩
     case measure=>simp[intOf];omega
    have q2:(y !=0)=true:=by simp[e2]
    by_cases e3:y=1
    ·have q3:(y !=1)=false:=by simp[e3]
     have HJ':=Lib.hid (HNX.out (fun _=> .inr e3))
     clear e2 e3
     go_wp2_with fail
     go_roundw
     case rel=>exact ⟨k+1,by omega,by go_num,HJ',trivial⟩
     case measure=>simp[intOf];omega
    have q3:(y !=1)=true:=by simp[e3]
    clear e2 e3
    go_wp2_with fail
    go_ret
    exact ⟨⟨false,rfl,fun g=>by cases g⟩,rfl⟩
   ·have q1:(x==2)=false:=by simp[e1]
    have HJ':=Lib.hid (HNX.out (fun g=>absurd g e1))
    clear e1
    go_wp2_with fail
    go_roundw
    case rel=>exact ⟨k+1,by omega,by go_num,HJ',trivial⟩
    case measure=>simp[intOf];omega
  ·obtain rfl:k=l.length:=by omega
   go_wp2_with fail
   go_ret
   exact ⟨⟨true,rfl,fun _=>⟨HL.out,fun j x y hx hy=>HJ.out j (List.getElem?_eq_some_iff.1 hy).1 x y hx hy⟩⟩,rfl⟩
end Go.Proofs.Ytckognjamlckcaa
namespace Go.Proofs.Ytckognjamlckcaa
open Go.RowKit Vf
def RowsIs (w:World) (l:List (List Int)) (v:Value):Prop:=SlV w w.heap.size 1 (isRw w w.heap.size) v l
section
variable {H:Type} {enc:TypeId × Value→H} {w:World} {spare:Nat→Bool} {held:Bool}
theorem isRw_len (y:List Int) (cs:List Value) (h:isRw w w.heap.size y cs):cs.length=1:=by obtain ⟨v,rfl,_⟩:=h;rfl
set_option maxRecDepth 100000 in
theorem open_row (n:Nat) (cs:List Value) (x:DataW H × List MemPlace) (h:DataW.trod enc Try.prog w 0 spare held n 26 cs=some x):∃l,isRw w w.heap.size l cs:=by
 rcases DataW.trod_slice Try.underlying26 h with ⟨hc,_⟩|⟨a',len',cap',elems,rest,k,hk,hc,_⟩
 all_goals
  subst hc
  obtain ⟨l,hl⟩:=open_ints h
  exact ⟨l,_,rfl,hl⟩
set_option maxRecDepth 100000 in
theorem open_rowsV {base:Nat} {v:Value} {d:DataW H} {p:List MemPlace} {r:Reach} (hv:Value.okWide Try.prog w r base 36 v) (h:DataW.Trod enc Try.prog w 0 spare held 36 v d p):∃l,RowsIs w l v:=by
 obtain ⟨a,len,cap,rfl⟩:=WideShapes.okWide_slice Try.underlying36 hv
 obtain ⟨fuel,hf⟩:=h
 exact open_sl Try.underlying36 cells_ints (by decide) fuel (fun n _ cs x h=>open_row n cs x h) isRw_len [] hf
end
end Go.Proofs.Ytckognjamlckcaa
namespace Go.Proofs.Ytckognjamlckcaa
open Go.RowKit Vf Fo
attribute [local go_sem ↓] Go.wp_at_zero Go.wp_at_succ
set_option maxRecDepth 100000 in
set_option maxHeartbeats 8000000 in
theorem rtypes24_any {w:World} {B:Nat} {f:Fm} {vw va vc vk vi vo:Value} (h:FmAt w B f vw va vc vk vi vo) (hB:B≤w.heap.size) (l:List Int) (v:Value) (hv:SlV w B 1 isInt v l) (hl:l.length≤1600) (hw:∀n∈l,isW f n):
  Calls Try.prog 14 #[fmV vw va vc vk vi vo,v] w fun e w'=>∃v',e= .returned v'∧SlV w' w'.heap.size 1 isInt v' (l.map (tyOf f))∧Below w.heap.size w w':=by
 obtain ⟨i0,hi0,hz0,hz1,hz2⟩:=info_parts info_int
 obtain ⟨Al,cl,rfl,ll,ml,sl⟩:=hv
 have ml':cl≤9223372036854775807:=by unfold maxLen at ml;omega
 have b1:Below w.heap.size w (w.alloc (.cells #[vw,va,vc,vk,vi,vo] 28)):=bE
 have rF1:=Row.new w #[vw,va,vc,vk,vi,vo] 28
 have HSL:=Lib.hid (fun W (hW:Below w.heap.size w W)=>sl.below (hW.mono hB))
 have HFM:=Lib.hid (fun W (hW:Below w.heap.size w W)=>h.below (hW.mono hB))
 have HW:=Lib.hid hw
 obtain ⟨Aw,cw,rfl,lw,mw,_⟩:=h.wires
 have mw':cw≤9223372036854775807:=by unfold maxLen at mw;omega
 clear sl h hw
 go_enter Try.func14,Try.ntmps14
 go_upto_region 1 with (fail)
 generalize w.alloc (.cells #[.slice Aw f.wires.length cw,va,vc,vk,vi,vo] 28)=w1 at*
 have hs1:=b1.size
 have hGl:=rF1.lt
 have HF6:Hid (∀W,Below w1.heap.size w1 W→W.cell? ⟨w.heap.size,0,none⟩=some (.slice Aw f.wires.length cw)):=fun W hW=>(rF1.below hW hGl).cell 0
 have f0:=HF6.out _ (Below.refl _ _)
 go_wp2_with fail
 clear f0
 go_loopw[5,6] (fun v5 i wr=>∃k:Nat,k≤l.length∧i= .int .i64 k∧Hid (wr.ownsRow w1.heap.size 3 1 v5 k (ints ((l.take k).map (tyOf f))))∧Hid (Below w1.heap.size w1 wr)) (fun _ i _=>l.length-(intOf i).toNat)
 case atStart=>exact ⟨0,Nat.zero_le _,rfl,World.ownsRow_nil _ _ _ _,Below.refl _ _⟩
 case round=>
  obtain ⟨k,hk,rfl,HO,HBR⟩:=hrel
  have hszr:=HBR.out.size
  have hb:=b1.trans (HBR.out.mono hs1)
  by_cases hlt:k<l.length
  ·obtain ⟨b,off,n,rfl,hb',hx,wx,d0⟩:=(HSL.out _ hb).int hlt
   obtain ⟨m,b6,off6,cw6,Ag6,cg6,rfl,hm,hvw,_,_,hb6B,wt6,y0,_,_,_,_⟩:=fm_wire (HFM.out _ hb) (HW.out n (List.mem_of_getElem? hx))
   injection hvw with h1 h2 h3
   subst h1;subst h3
   have hm':(m:Int)<f.wires.length:=by omega
   have hk':(k:Int)<l.length:=by omega
   have HTK:Hid (ints ((l.take (k+1)).map (tyOf f))=ints ((l.take k).map (tyOf f))++ [.int .i64 (tyOf f m)]):=by
    show _=_
    rw[take_snoc' hx,List.map_append,List.map_singleton,ints_snoc]
   have f0:=HF6.out _ HBR.out
   have HK:Hid (∀W,Below wr.heap.size wr W→W.cell? ⟨w.heap.size,0,none⟩=some (.slice (some ⟨b6,off6,none⟩) f.wires.length cw)∧W.cell? ⟨b,off+k,none⟩=some (.int .i64 (m:Int))∧W.cell? ⟨b6,off6+m*2,none⟩=some (.int .i64 (tyOf f (m:Int)))):=fun W hW=>⟨cell_kept f0 hW,cell_kept d0 hW,cell_kept y0 hW⟩
   have hbw:b<w1.heap.size:=by omega
   have hb6w:b6<w1.heap.size:=by omega
   have HKL:Hid ((∀W,Below w1.heap.size wr W→W.cell? ⟨b,off+k,none⟩=some (.int .i64 (m:Int)))∧(∀W,Below w1.heap.size wr W→W.cell? ⟨b6,off6+m*2,none⟩=some (.int .i64 (tyOf f (m:Int))))):=⟨fun W hW=>(hW.cell hbw).trans d0,fun W hW=>(hW.cell hb6w).trans y0⟩
   generalize tyOf f (m:Int)=T at*
   generalize ints ((l.take k).map (tyOf f))=LL at*
   clear hx wx wt6 h2 d0 y0 f0
   go_upto_region 5 with (fail)
   refine wp_region_held_drew (S:=fun W=>W.cell? ⟨w.heap.size,0,none⟩=some (.slice (some ⟨b6,off6,none⟩) f.wires.length cw)∧W.cell? ⟨b,off+k,none⟩=some (.int .i64 (m:Int))∧W.cell? ⟨b6,off6+m*2,none⟩=some (.int .i64 T)) (by kernel_rfl) ?_ (fun hHeld=>?_)
   ·(try dsimp only);(first|exact HK9.out|(with_reducible exact HK.out _ bE))
   refine tk 0 (some 13) rfl ?_
   refine tk 1 (some 14) rfl ?_
   refine tk 2 (some 15) rfl ?_
   refine tk 3 (some 16) rfl ?_
   refine tk 4 (some 17) rfl ?_
   refine tk 5 (some 18) rfl ?_
   refine tk 6 (some 19) rfl ?_
   refine tk 7 (some 20) rfl ?_
   refine tk 8 (some 21) rfl ?_
   refine tk 9 (some 22) rfl ?_
   refine rd1 10 (some 23) rfl (fun KK hKK=>?_)
   go_simp
   refine hKK.out _ _ ?_ (fun hHeld=>?_)
   ·(try dsimp only);(first|exact HK9.out|(with_reducible exact HK.out _ bE))
   clear hKK KK
   try simp only[Act.put,List.setIfInBounds_toArray,List.set_cons_zero,List.set_cons_succ]
   refine rd1 11 (some 24) rfl (fun KK hKK=>?_)
   (rw[if_pos (by kernel_rfl)];refine step_own (.tmp 13) (.tmp 23) 26 rfl w1.heap.size 3 i0 (.int .i64 0) 1 8 Try.underlying26 hi0 hz0 hz1 hz2 rfl (by decide) _ k LL rfl ((own_below HO.out (bE:Below wr.heap.size wr _))) (some ⟨_,0,none⟩) 1 1 [.int .i64 T] rfl NilOk.some rfl (fun ad he=>by injection he with he;subst he;exact cells_new _ _ _) (by intro u hu;simp at hu;subst hu;rfl) (by unfold maxLen;omega) (by omega) (by first|omega|(simp;omega)|simp) ?_;intro v13 w13 hown13 hg13;(have hf13:Below w1.heap.size wr w13:=below_own (Below.mono (bE:Below wr.heap.size wr _) hszr) (own_below HO.out (bE:Below wr.heap.size wr _)) hg13 (by first|omega|(simp;omega)|simp));(have HK9:Hid (w13.cell? ⟨w.heap.size,0,none⟩=some (.slice (some ⟨b6,off6,none⟩) f.wires.length cw)∧w13.cell? ⟨b,off+k,none⟩=some (.int .i64 (m:Int))∧w13.cell? ⟨b6,off6+m*2,none⟩=some (.int .i64 T)):=⟨(HF6.out _ (HBR.out.trans hf13)),HKL.out.1 w13 hf13,HKL.out.2 w13 hf13⟩))
   refine hKK.out _ _ ?_ (fun hHeld=>?_)
   ·(try dsimp only);(first|exact HK9.out|(with_reducible exact HK.out _ bE))
   clear hKK KK
   try simp only[Act.put,List.setIfInBounds_toArray,List.set_cons_zero,List.set_cons_succ]
   refine tk 12 (some 5) rfl ?_
   refine wpAnyH_done (by kernel_rfl) ?_ _
   have HB:=Lib.hid (HBR.out.trans hf13)
   clear hf13
   have HO':Hid (w13.ownsRow w1.heap.size 3 1 v13 (k+1) (ints ((l.take (k+1)).map (tyOf f)))):=by
    show World.ownsRow _ _ _ _ _ _ _
    rw[HTK.out];exact hown13
   clear hown13
   go_wp2_with fail
   go_roundw
   case rel=>exact ⟨k+1,by omega,by go_num,HO',HB⟩
   case measure=>simp[intOf];omega
  ·obtain rfl:k=l.length:=by omega
   have HWF:Hid (∀x∈l.map (tyOf f),Wf x):=fun x hx=>by
    obtain ⟨n,hn,rfl⟩:=List.mem_map.1 hx
    obtain ⟨_,_,_,_,_,_,_,_,_,_,_,_,wt,_⟩:=fm_wire (HFM.out _ hb) (HW.out n hn)
    exact wt
   go_wp2_with fail
   go_ret
   refine ⟨_,rfl,?_,hb⟩
   have:=HO.out
   rw[List.take_length] at this
   exact ownI this HWF.out
end Go.Proofs.Ytckognjamlckcaa
namespace Go.Proofs.Ytckognjamlckcaa
open Go.RowKit Vf Fo Ar
attribute [local go_sem ↓] Go.wp_at_zero Go.wp_at_succ
section
variable {f:Fm} {cs row:List Int} {R K V:Nat} {vw va vc vk vi vo vC vR vP:Value}
theorem wire_all (hf:formOk f) (hrl:row.length=f.ins.length) (hcs:cs.length=f.cells.length) {n:Int} (h:Done f n):WireC f cs row R K V vw va vc vk vi vo vC vR vP 66 n:=by
 induction h with
 |ins n h=>exact wire_of_find n (hf.2.1.1 n h).1 (find_in hf hrl n h)
 |act x hx hw _ ih1 _=>exact wire_of_find x.dst (hf.2.2.2.2.1.2.1 x hx).1 (find_act hf hcs x hx (fun n hn=>⟨hw n hn,ih1 n hn⟩))
theorem wire_any (hf:formOk f) (hrl:row.length=f.ins.length) (hcs:cs.length=f.cells.length) {n:Int} (h:isW f n):WireC f cs row R K V vw va vc vk vi vo vC vR vP 66 n:=
 wire_all hf hrl hcs (Done.want (x:=⟨0,0,n,0,0,0⟩) hf.2.2.2.2.2.2 h)
theorem thF_drop {c:List Gd} {k:Nat} {g:Gd} (h:c[k]? =some g):thF f cs row (c.drop k)=if (decide (valF f cs row g.wire≠0))=g.no then false else thF f cs row (c.drop (k+1)):=by
 have hk:=(List.getElem?_eq_some_iff.1 h)
 rw[List.drop_eq_getElem_cons hk.1,hk.2,thF]
set_option maxRecDepth 100000 in
set_option maxHeartbeats 8000000 in
theorem there_run (hf:formOk f) (hrl:row.length=f.ins.length) (hcs:cs.length=f.cells.length) (c:List Gd) (v:Value) (B:Nat) (W:World) (ds:List Bool) (vs:List Int) (h:RunAt f cs row R K V vw va vc vk vi vo vC vR vP W ds vs)
  (hv:∀W',Upd (fun k=>k=K∨k=V) W W'→SlV W' B 2 isGd v c) (hc:∀g∈c,isW f g.wire):
  Calls Try.prog 67 #[.pointer (some ⟨R,0,none⟩),v] W fun e W'=>
   e= .returned (.bool (thF f cs row c))∧(∃ds' vs',RunAt f cs row R K V vw va vc vk vi vo vC vR vP W' ds' vs')∧Upd (fun k=>k=K∨k=V) W W':=by
 have HV:=Lib.hid hv
 obtain ⟨A,cap,rfl,l1,m1,_⟩:=hv W (Upd.refl _ _)
 have m1':cap≤9223372036854775807:=by unfold maxLen at m1;omega
 have HH:=Lib.hid h
 have HC:=Lib.hid hc
 have HWI:Hid (∀n,isW f n→∀W ds vs,RunAt f cs row R K V vw va vc vk vi vo vC vR vP W ds vs→Calls Try.prog 66 #[.pointer (some ⟨R,0,none⟩),.int .i64 n] W fun e W'=>
  e= .returned (.int .i64 (valF f cs row n))∧Wf (valF f cs row n)∧(∃ds' vs',RunAt f cs row R K V vw va vc vk vi vo vC vR vP W' ds' vs')∧Upd (fun k=>k=K∨k=V) W W'):=fun n hn=>wire_any hf hrl hcs hn
 clear hv h hc hf hrl hcs
 go_enter Try.func67,Try.ntmps67
 go_wp2_with fail
 go_loopw[5] (fun i wr=>∃(k:Nat) (ds:List Bool) (vs:List Int),k≤c.length∧i= .int .i64 k∧Hid (thF f cs row c=thF f cs row (c.drop k))∧Hid (RunAt f cs row R K V vw va vc vk vi vo vC vR vP wr ds vs)∧Hid (Upd (fun k=>k=K∨k=V) W wr)) (fun i _=>c.length-(intOf i).toNat)
 case atStart=>exact ⟨0,ds,vs,Nat.zero_le _,rfl,rfl,HH.out,Upd.refl _ _⟩
 case round=>
  clear HH
  obtain ⟨k,ds,vs,hk,rfl,HT,HR,HU⟩:=hrel
  by_cases hlt:k<c.length
  ·have hsz:=HU.out.size
   obtain ⟨A',c',hA',_,_,sl⟩:=HV.out wr HU.out
   injection hA' with hA1 _ hA3
   subst hA1;subst hA3
   obtain ⟨b,off,⟨gw,gn⟩,rfl,hbB,hx,wx,d0,d1⟩:=sl.gd hlt
   dsimp only at d0 d1
   have hlt':(k:Int)<c.length:=by omega
   have HGW:=Lib.hid (HC.out _ (List.mem_of_getElem? hx))
   have HTD:Hid (thF f cs row (c.drop k)=if (decide (valF f cs row gw≠0))=gn then false else thF f cs row (c.drop (k+1))):=thF_drop hx
   have HX:=Lib.hid hx
   have HK:Hid (∀W1,Upd (fun k=>k=K∨k=V) wr W1→W1.cell? ⟨b,off+k*2,none⟩=some (.int .i64 gw)∧W1.cell? ⟨b,off+k*2+1,none⟩=some (.bool gn)):=fun W1 u=>by
    obtain ⟨A',c',hA',_,_,sl⟩:=HV.out W1 (HU.out.trans u)
    injection hA' with hA1 _ hA3
    subst hA1;subst hA3
    obtain ⟨b',off',g',hA',_,hx',_,e0,e1⟩:=sl.gd hlt
    injection hA' with hA'
    injection hA' with h1 h2
    subst h1;subst h2
    obtain rfl:(⟨gw,gn⟩:Gd)=g':=Option.some.inj (HX.out.symm.trans hx')
    exact ⟨e0,e1⟩
   clear sl hx wx d0 d1
   go_upto_region 4 with (fail)
   refine wp_region_held_drew (S:=fun W=>W.cell? ⟨b,off+k*2,none⟩=some (.int .i64 gw)∧W.cell? ⟨b,off+k*2+1,none⟩=some (.bool gn)) (by kernel_rfl) ?_ (fun hHeld=>?_)
   ·(try dsimp only);(first|exact HK.out _ hu8'|exact HK.out _ (Upd.of_below ((Below.refl _ _).drew)))
   refine tk 0 (some 12) rfl ?_
   refine tk 1 (some 13) rfl ?_
   refine tk 2 (some 14) rfl ?_
   refine tk 3 (some 15) rfl ?_
   refine tk 4 (some 16) rfl ?_
   refine tk 5 (some 17) rfl ?_
   refine tk 8 (some 20) rfl ?_
   refine tk 9 (some 21) rfl ?_
   refine tk 10 (some 22) rfl ?_
   refine tk 11 (some 23) rfl ?_
   refine tk 12 (some 24) rfl ?_
   refine rd1 6 (some 18) rfl (fun KK hKK=>?_)
   go_simp
   (go_at_call 66;refine Calls.mono (HWI.out gw HGW.out _ _ _ (HR.out.below ((Below.refl _ _).drew))) ?_;rintro e w8 ⟨rfl,_,⟨ds8,vs8,hr8⟩,hu8⟩;(have hu8':Upd (fun k=>k=K∨k=V) wr w8:=(Upd.of_below ((Below.refl _ _).drew)).trans hu8))
   (try go_wp2_with fail)
   refine hKK.out _ _ ?_ (fun hHeld=>?_)
   ·(try dsimp only);(first|exact HK.out _ hu8'|exact HK.out _ (Upd.of_below ((Below.refl _ _).drew)))
   clear hKK KK
   try simp only[Act.put,List.setIfInBounds_toArray,List.set_cons_zero,List.set_cons_succ]
   refine tk 7 (some 19) rfl ?_
   refine tk 13 (some 25) rfl ?_
   refine wpAnyH_done (by kernel_rfl) ?_ _
   have HR8:=Lib.hid hr8
   have HU8:=Lib.hid (HU.out.trans hu8')
   clear hHeld hr8 hu8 hu8' HK
   obtain ⟨BB,hbb⟩:∃BB:Bool,((valF f cs row gw !=0)==gn)=BB:=⟨_,rfl⟩
   have HTB:Hid (thF f cs row (c.drop k)=if BB=true then false else thF f cs row (c.drop (k+1))):=by
    show _=_
    rw[HTD.out,←hbb]
    by_cases hz:valF f cs row gw=0<;>cases gn<;>simp[hz]
   rw[hbb]
   clear hbb
   cases BB
   ·have HT':Hid (thF f cs row c=thF f cs row (c.drop (k+1))):=by
     show _=_
     rw[HT.out,HTB.out,if_neg (by decide)]
    go_wp2_with fail
    go_roundw
    case rel=>exact ⟨k+1,_,_,by omega,by go_num,HT',HR8,HU8⟩
    case measure=>simp[intOf];omega
   ·have HF:Hid (thF f cs row c=false):=by
     show _=_
     rw[HT.out,HTB.out,if_pos rfl]
    go_wp2_with fail
    go_ret
    exact ⟨ret_bool HF.out.symm,⟨_,_,HR8.out⟩,HU8.out⟩
  ·obtain rfl:k=c.length:=by omega
   have HF:Hid (thF f cs row c=true):=by
    show _=_
    rw[HT.out,List.drop_length,thF]
   go_wp2_with fail
   go_ret
   exact ⟨ret_bool HF.out.symm,⟨_,_,HR.out⟩,HU.out⟩
end
end Go.Proofs.Ytckognjamlckcaa
