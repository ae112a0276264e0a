/-
  The document's answer of layer 25: the parts of an act; is a wire a number; is it wanted. fold: are wires numbers; which wires and cells are wanted.
-/
import Derived.Test.YtckognjamlckcaaFolA
import Derived.Test.YtckognjamlckcaaR24A
import Derived.Test.YtckognjamlckcaaFldU
import Derived.StillTailTactics
namespace Go.Proofs.Ytckognjamlckcaa.Fo
open Vf Ar
theorem byR_act {n:Int}:∀(l:List Ac) (i:Nat),(byR n i l= -1∧actAt l n=none)∨∃j x,l[j]? =some x∧actAt l n=some x∧byR n i l=((i+j:Nat):Int)
 | [],i=> .inl ⟨rfl,rfl⟩
 |x::l,i=>by
  unfold byR
  by_cases h:x.dst=n
  ·rw[if_pos h]
   refine .inr ⟨0,x,rfl,?_,rfl⟩
   unfold actAt
   rw[List.find?_cons_of_pos (by simpa using h)]
  ·rw[if_neg h]
   have e:actAt (x::l) n=actAt l n:=by unfold actAt;rw[List.find?_cons_of_neg (by simpa using h)]
   rw[e]
   rcases byR_act l (i+1) with ⟨h1,h2⟩|⟨j,y,h1,h2,h3⟩
   ·exact .inl ⟨h1,h2⟩
   ·exact .inr ⟨j+1,y,by simpa using h1,h2,by rw[h3];congr 1;omega⟩
theorem uses_pos {op:Int} (h:0≤uses op):1≤op:=by have:=uses_cases h;omega
theorem wants_take {x:Ac} (hu:0≤uses x.op):wants x=[x.a,x.b,x.c].take (uses x.op).toNat:=by
 have h3:=uses_le3 x.op
 unfold wants
 rcases (by omega:uses x.op=0∨uses x.op=1∨uses x.op=2∨uses x.op=3) with h|h|h|h<;>rw[h]<;>rfl
end Go.Proofs.Ytckognjamlckcaa.Fo
namespace Go.Proofs.Ytckognjamlckcaa
open Go.RowKit Vf Fo
attribute [local go_sem ↓] Go.wp_at_zero Go.wp_at_succ
theorem slv_tk {W:World} {B c n:Nat} {A:Option Addr} {l:List Int} (h:SlV W B 1 isInt (.slice A l.length c) l) (hn:n≤l.length):SlV W B 1 isInt (.slice A n c) (l.take n):=by
 obtain ⟨A',c',e,h1,h2,h3⟩:=h
 injection e with e1 _ e3
 subst e1;subst e3
 have hl:(l.take n).length=n:=by rw[List.length_take,Nat.min_eq_left hn]
 refine ⟨A,c,by rw[hl],by rw[hl];omega,h2,fun h0=>?_⟩
 obtain ⟨b,off,q1,q2,q3⟩:=h3 (by omega)
 refine ⟨b,off,q1,q2,fun i x hx=>q3 i x ?_⟩
 have hi:i<n:=by have:=(List.getElem?_eq_some_iff.1 hx).1;omega
 rwa [List.getElem?_take_of_lt hi] at hx
set_option maxRecDepth 100000 in
set_option maxHeartbeats 2000000 in
theorem rparts_any (x:Ac) (wx:AcIn x) (hu:0≤uses x.op) (w:World):
  Calls Try.prog 29 #[acV x] w (PartsIs x w):=by
 have HW:=Lib.hid (wants_take hu)
 have h3:=uses_le3 x.op
 obtain ⟨op,dst,a,b,c,k⟩:=x
 obtain ⟨_,_,wa,wb,wc,_⟩:=wx
 dsimp only at hu h3 wa wb wc HW
 obtain ⟨u,hu'⟩:=Int.eq_ofNat_of_zero_le hu
 have hu3:u≤3:=by omega
 have hu3':(u:Int)≤3:=by omega
 have HU:Hid (∀w:World,Calls Try.prog 55 #[.int .i64 op] w fun e w'=>e= .returned (.int .i64 (u:Int))∧w=w'):=fun w=>by rw[←hu'];exact ruses_any op w
 have HS:Hid (∀W:World,SlV (W.alloc (.cells #[.int .i64 a,.int .i64 b,.int .i64 c] 3)) (W.heap.size+1) 1 isInt (.slice (some ⟨W.heap.size,0,none⟩) u 3) (wants ⟨op,dst,a,b,c,k⟩)):=fun W=>by
  rw[HW.out,hu']
  exact slv_tk (l:=[a,b,c]) (three_slv wa wb wc) hu3
 have b1:Below w.heap.size w (w.alloc (.cells #[.int .i64 op,.int .i64 dst,.int .i64 a,.int .i64 b,.int .i64 c,.int .i64 k] 50)):=bE
 have rX:=Row.new w #[.int .i64 op,.int .i64 dst,.int .i64 a,.int .i64 b,.int .i64 c,.int .i64 k] 50
 clear HW hu hu' h3
 go_enter Try.func29,Try.ntmps29
 go_upto_region 1 with (fail)
 generalize w.alloc (.cells #[.int .i64 op,.int .i64 dst,.int .i64 a,.int .i64 b,.int .i64 c,.int .i64 k] 50)=w1 at*
 have hGl:=rX.lt
 have hs1:=b1.size
 have b2:Below w.heap.size w (w1.alloc (.cells #[.int .i64 a,.int .i64 b,.int .i64 c] 3)):=bE
 have HE:Hid (PartsIs ⟨op,dst,a,b,c,k⟩ w (.returned (.slice (some ⟨w1.heap.size,0,none⟩) u 3)) (w1.alloc (.cells #[.int .i64 a,.int .i64 b,.int .i64 c] 3))):=
  ⟨_,rfl,(HS.out w1).more (by simp),fun q h=>by cases h;exact hs1,b2⟩
 have rX2:=rX.alloc (.cells #[.int .i64 a,.int .i64 b,.int .i64 c] 3)
 obtain ⟨e0,e1,e2,e3,e4,e5⟩:=rX.six'
 go_upto_region 2 with (fail)
 generalize w1.alloc (.cells #[.int .i64 a,.int .i64 b,.int .i64 c] 3)=w2 at*
 clear e0 e1 e2 e3 e4 e5
 obtain ⟨e0,e1,e2,e3,e4,e5⟩:=rX2.six'
 go_wp2_with fail
 (with_reducible refine (HU.out _).mono ?_)
 rintro e _ ⟨rfl,rfl⟩
 go_wp2_with fail
 go_ret
 exact HE.out
set_option maxRecDepth 100000 in
set_option maxHeartbeats 2000000 in
theorem rnumber_any {w:World} {f:Fm} {vw va vc vk vi vo:Value} (h:FmAt w w.heap.size f vw va vc vk vi vo) (hu:∀x∈f.acts,0≤uses x.op) (n:Int):
  Calls Try.prog 28 #[fmV vw va vc vk vi vo,.int .i64 n] w fun e w'=>e= .returned (.bool (cB (isNum f.acts n)))∧Below w.heap.size w w':=by
 have b1:Below w.heap.size w (w.alloc (.cells #[vw,va,vc,vk,vi,vo] 28)):=bE
 have HBY:=Lib.hid (fun W (hW:Below w.heap.size w W)=>rby_any (h.next hW) n)
 obtain ⟨Aa,ca,rfl,la,ma,sa⟩:=h.acts
 have ma':ca≤9223372036854775807:=by unfold maxLen at ma;omega
 have HSA:=Lib.hid (fun W (hW:Below w.heap.size w W)=>sa.below hW)
 have rF:=Row.new w #[vw,.slice Aa f.acts.length ca,vc,vk,vi,vo] 28
 rcases byR_act (n:=n) f.acts 0 with ⟨e1,e2⟩|⟨j,x,e0,e1,e2⟩
 ·have HR:Hid (cB (isNum f.acts n)=false):=cB_false (fun ⟨y,hy,_⟩=>by rw[e2] at hy;cases hy)
  rw[e1] at HBY
  clear e1 e2 h sa HSA hu
  go_enter Try.func28,Try.ntmps28
  go_upto_region 1 with (fail)
  generalize w.alloc (.cells #[vw,.slice Aa f.acts.length ca,vc,vk,vi,vo] 28)=w1 at*
  obtain ⟨f0,f1,f2,f3,f4,f5⟩:=rF.six'
  go_wp2_with fail
  (with_reducible refine (HBY.out _ b1).mono ?_)
  rintro e w2 ⟨rfl,hb2⟩
  have b2:=b1.trans (hb2.mono b1.size)
  clear f0 f1 f2 f3 f4 f5
  go_wp2_with fail
  go_ret
  exact ⟨ret_bool HR.out.symm,b2⟩
 ·have HR:Hid (cB (isNum f.acts n)=decide (x.op≤2)):=by
   have h1:=uses_pos (hu x (List.mem_of_getElem? e0))
   show _=_
   rw[Bool.eq_iff_iff,cB_iff,decide_eq_true_eq]
   exact ⟨fun ⟨y,hy,ho⟩=>by rw[e1] at hy;injection hy with hy;subst hy;omega,fun g=>⟨x,e1,by omega⟩⟩
  rw[e2,Nat.zero_add] at HBY
  have hj:=(List.getElem?_eq_some_iff.1 e0).1
  have hj':(j:Int)<f.acts.length:=by omega
  have hj0:(0:Int)≤(j:Int):=by omega
  have HX:=Lib.hid e0
  clear e0 e1 e2 h sa hu
  go_enter Try.func28,Try.ntmps28
  go_upto_region 1 with (fail)
  generalize w.alloc (.cells #[vw,.slice Aa f.acts.length ca,vc,vk,vi,vo] 28)=w1 at*
  obtain ⟨f0,f1,f2,f3,f4,f5⟩:=rF.six'
  go_wp2_with fail
  (with_reducible refine (HBY.out _ b1).mono ?_)
  rintro e w2 ⟨rfl,hb2⟩
  have b2:=b1.trans (hb2.mono b1.size)
  have rF2:=rF.below hb2 rF.lt
  clear f0 f1 f2 f3 f4 f5
  obtain ⟨f0,f1,f2,f3,f4,f5⟩:=rF2.six'
  obtain ⟨b,off,y,rfl,hbb,hy,wy,d0,d1,d2,d3,d4,d5⟩:=(HSA.out _ b2).ac hj
  have HXY:Hid (y=x):=by have:=HX.out;rw[hy] at this;injection this
  obtain ⟨xo,xd,xa,xb,xc,xk⟩:=y
  (try dsimp only at d0 d1 d2 d3 d4 d5)
  have HR2:Hid (cB (isNum f.acts n)=decide (xo≤2)):=by show _=_;rw[HR.out,←HXY.out]
  clear hy wy HR HXY HX
  go_wp2_with fail
  go_ret
  exact ⟨ret_bool HR2.out.symm,b2⟩
theorem wanted_no {f:Fm} {n:Int} (h1:∀j,j<f.outs.length→∀m,f.outs[j]? =some m→m≠n) (h2:∀j,j<f.wires.length→∀x,f.wires[j]? =some x→∀g∈x.clock,g.wire≠n) (h3:∀j,j<f.keeps.length→∀x,f.keeps[j]? =some x→x.2≠n)
  (h4:∀j,j<f.acts.length→∀x,f.acts[j]? =some x→n∉wants x):¬wantedW f n:=by
 rintro (h|⟨x,hx,g,hg,e⟩|⟨k,hk,e⟩|⟨x,hx,e⟩)
 ·obtain ⟨j,hj⟩:=List.getElem?_of_mem h
  exact h1 j (List.getElem?_eq_some_iff.1 hj).1 n hj rfl
 ·obtain ⟨j,hj⟩:=List.getElem?_of_mem hx
  exact h2 j (List.getElem?_eq_some_iff.1 hj).1 x hj g hg e
 ·obtain ⟨j,hj⟩:=List.getElem?_of_mem hk
  exact h3 j (List.getElem?_eq_some_iff.1 hj).1 k hj e
 ·obtain ⟨j,hj⟩:=List.getElem?_of_mem hx
  exact h4 j (List.getElem?_eq_some_iff.1 hj).1 x hj e
theorem upto_snoc {α:Type} {l:List α} {P:α→Prop} {k:Nat} {x:α} (h:∀j,j<k→∀m,l[j]? =some m→P m) (hx:l[k]? =some x) (hp:P x):∀j,j<k+1→∀m,l[j]? =some m→P m:=fun j hj m hm=>by
 rcases Nat.lt_or_ge j k with q|q
 ·exact h j q m hm
 ·obtain rfl:j=k:=by omega
  rw[hx] at hm
  injection hm with hm
  rw[←hm];exact hp
theorem upto_all {α:Type} {l:List α} {P:α→Prop} (h:∀j,j<l.length→∀m,l[j]? =some m→P m):∀x∈l,P x:=fun x hx=>by
 obtain ⟨j,hj⟩:=List.getElem?_of_mem hx
 exact h j (List.getElem?_eq_some_iff.1 hj).1 x hj
set_option maxRecDepth 100000 in
set_option maxHeartbeats 8000000 in
theorem rwanted_any {w:World} {f:Fm} {vw va vc vk vi vo:Value} (h:FmAt w w.heap.size f vw va vc vk vi vo) (hu:∀x∈f.acts,0≤uses x.op) (n:Int):
  Calls Try.prog 27 #[fmV vw va vc vk vi vo,.int .i64 n] w fun e w'=>e= .returned (.bool (cB (wantedW f n)))∧Below w.heap.size w w':=by
 obtain ⟨Aw,cw,rfl,lw,mw,sw⟩:=h.wires
 obtain ⟨Aa,ca,rfl,la,ma,sa⟩:=h.acts
 obtain ⟨Ak,ck,rfl,lk,mk,sk⟩:=h.keeps
 obtain ⟨Ao,co,rfl,lo,mo,so⟩:=h.outs
 have mw':cw≤9223372036854775807:=by unfold maxLen at mw;omega
 have ma':ca≤9223372036854775807:=by unfold maxLen at ma;omega
 have mk':ck≤9223372036854775807:=by unfold maxLen at mk;omega
 have mo':co≤9223372036854775807:=by unfold maxLen at mo;omega
 have HSW:=Lib.hid (fun W (hW:Below w.heap.size w W)=>(sw.keep (w':=W) (B':=w.heap.size) (rel':=isWr W w.heap.size) (fun p u hp hc=>(hW.cell hp).trans hc) (Nat.le_refl _) (fun _ _ _ g=>g.keep (fun p u hp hc=>(hW.cell hp).trans hc) (Nat.le_refl _))))
 have HSA:=Lib.hid (fun W (hW:Below w.heap.size w W)=>sa.below hW)
 have HSK:=Lib.hid (fun W (hW:Below w.heap.size w W)=>sk.below hW)
 have HSO:=Lib.hid (fun W (hW:Below w.heap.size w W)=>so.below hW)
 have b1:Below w.heap.size w (w.alloc (.cells #[.slice Aw f.wires.length cw,.slice Aa f.acts.length ca,vc,.slice Ak f.keeps.length ck,vi,.slice Ao f.outs.length co] 28)):=bE
 have rF:=Row.new w #[.slice Aw f.wires.length cw,.slice Aa f.acts.length ca,vc,.slice Ak f.keeps.length ck,vi,.slice Ao f.outs.length co] 28
 have HU:=Lib.hid hu
 clear h sw sa sk so hu
 go_enter Try.func27,Try.ntmps27
 go_upto_region 1 with (fail)
 generalize w.alloc (.cells #[.slice Aw f.wires.length cw,.slice Aa f.acts.length ca,vc,.slice Ak f.keeps.length ck,vi,.slice Ao f.outs.length co] 28)=w1 at*
 have hs1:=b1.size
 have hFl:=rF.lt
 have HF6:Hid (∀W,Below w1.heap.size w1 W→Row W w.heap.size #[.slice Aw f.wires.length cw,.slice Aa f.acts.length ca,vc,.slice Ak f.keeps.length ck,vi,.slice Ao f.outs.length co] 28):=fun W hW=>rF.below hW hFl
 obtain ⟨f0,f1,f2,f3,f4,f5⟩:=rF.six'
 clear rF
 go_wp2_with fail
 go_loopw[5] (fun i wr=>∃k:Nat,k≤f.outs.length∧i= .int .i64 k∧Hid (∀j,j<k→∀m,f.outs[j]? =some m→m≠n)∧w1=wr) (fun i _=>f.outs.length-(intOf i).toNat)
 case atStart=>exact ⟨0,Nat.zero_le _,rfl,fun j hj=>absurd hj (by omega),rfl⟩
 case round=>
  obtain ⟨k,hk,rfl,H1,rfl⟩:=hrel
  by_cases hlt:k<f.outs.length
  ·obtain ⟨b,off,m,rfl,hbb,hx,wx,d0⟩:=(HSO.out _ b1).int hlt
   have hk':(k:Int)<f.outs.length:=by omega
   have HX:=Lib.hid hx
   clear hx wx
   by_cases e:m=n
   ·have e':(m==n)=true:=by simp[e]
    have HF:Hid (cB (wantedW f n)=true):=cB_true (.inl (by rw[←e];exact List.mem_of_getElem? HX.out))
    clear e
    go_wp2_with fail
    go_ret
    exact ⟨ret_bool HF.out.symm,b1⟩
   ·have e':(m==n)=false:=by simp[e]
    have H1':=Lib.hid (upto_snoc H1.out HX.out e)
    clear e
    go_wp2_with fail
    go_roundw
    case rel=>exact ⟨k+1,by omega,by go_num,H1'.out,trivial⟩
    case measure=>simp[intOf];omega
  obtain rfl:k=f.outs.length:=by omega
  clear hlt hk
  go_wp2_with fail
  go_loopw[6] (fun i wr=>∃k:Nat,k≤f.wires.length∧i= .int .i64 k∧Hid (∀j,j<k→∀x,f.wires[j]? =some x→∀g∈x.clock,g.wire≠n)∧w1=wr) (fun i _=>f.wires.length-(intOf i).toNat)
  case atStart=>exact ⟨0,Nat.zero_le _,rfl,fun j hj=>absurd hj (by omega),rfl⟩
  case round=>
   obtain ⟨k,hk,rfl,H2,rfl⟩:=hrel
   by_cases hlt:k<f.wires.length
   ·obtain ⟨b,off,x,Ag,cg,rfl,hbb,hx,wt,d0,d1,lg,mg,sg⟩:=(HSW.out _ b1).wr hlt
    have mg':cg≤9223372036854775807:=by unfold maxLen at mg;omega
    have hk':(k:Int)<f.wires.length:=by omega
    have HX:=Lib.hid hx
    have HSG:=Lib.hid sg
    clear hx wt sg
    go_wp2_with fail
    go_loopw[7] (fun i wr=>∃j:Nat,j≤x.clock.length∧i= .int .i64 j∧Hid (∀i,i<j→∀g,x.clock[i]? =some g→g.wire≠n)∧w1=wr) (fun i _=>x.clock.length-(intOf i).toNat)
    case atStart=>exact ⟨0,Nat.zero_le _,rfl,fun j hj=>absurd hj (by omega),rfl⟩
    case round=>
     obtain ⟨j,hj,rfl,H3,rfl⟩:=hrel
     by_cases hlt2:j<x.clock.length
     ·obtain ⟨b2,off2,g,rfl,hb2,hg,wg,g0,g1⟩:=HSG.out.gd hlt2
      have hj':(j:Int)<x.clock.length:=by omega
      have HG:=Lib.hid hg
      clear hg wg
      by_cases e:g.wire=n
      ·have e':(g.wire==n)=true:=by simp[e]
       have HF:Hid (cB (wantedW f n)=true):=cB_true (.inr (.inl ⟨x,List.mem_of_getElem? HX.out,g,List.mem_of_getElem? HG.out,e⟩))
       clear e
       go_wp2_with fail
       go_ret
       exact ⟨ret_bool HF.out.symm,b1⟩
      ·have e':(g.wire==n)=false:=by simp[e]
       have H3':=Lib.hid (upto_snoc (P:=fun (g:Gd)=>g.wire≠n) H3.out HG.out e)
       clear e
       go_wp2_with fail
       go_roundw
       case rel=>exact ⟨j+1,by omega,by go_num,H3'.out,trivial⟩
       case measure=>simp[intOf];omega
     obtain rfl:j=x.clock.length:=by omega
     have H2':=Lib.hid (upto_snoc (P:=fun (x:Wr)=>∀g∈x.clock,g.wire≠n) H2.out HX.out (upto_all (P:=fun (g:Gd)=>g.wire≠n) H3.out))
     go_wp2_with fail
     go_roundw
     case rel=>exact ⟨k+1,by omega,by go_num,H2'.out,trivial⟩
     case measure=>simp[intOf];omega
   obtain rfl:k=f.wires.length:=by omega
   clear hlt hk
   go_wp2_with fail
   go_loopw[8] (fun i wr=>∃k:Nat,k≤f.keeps.length∧i= .int .i64 k∧Hid (∀j,j<k→∀x,f.keeps[j]? =some x→x.2≠n)∧w1=wr) (fun i _=>f.keeps.length-(intOf i).toNat)
   case atStart=>exact ⟨0,Nat.zero_le _,rfl,fun j hj=>absurd hj (by omega),rfl⟩
   case round=>
    obtain ⟨k,hk,rfl,H3,rfl⟩:=hrel
    by_cases hlt:k<f.keeps.length
    ·obtain ⟨b,off,⟨c0,fr⟩,rfl,hbb,hx,wx1,wx2,d0,d1⟩:=(HSK.out _ b1).cell hlt
     dsimp only at d0 d1
     have hk':(k:Int)<f.keeps.length:=by omega
     have HX:=Lib.hid hx
     clear hx wx1 wx2
     by_cases e:fr=n
     ·have e':(fr==n)=true:=by simp[e]
      have HF:Hid (cB (wantedW f n)=true):=cB_true (.inr (.inr (.inl ⟨_,List.mem_of_getElem? HX.out,e⟩)))
      clear e
      go_wp2_with fail
      go_ret
      exact ⟨ret_bool HF.out.symm,b1⟩
     ·have e':(fr==n)=false:=by simp[e]
      have H3':=Lib.hid (upto_snoc (P:=fun (x:Int × Int)=>x.2≠n) H3.out HX.out e)
      clear e
      go_wp2_with fail
      go_roundw
      case rel=>exact ⟨k+1,by omega,by go_num,H3'.out,trivial⟩
      case measure=>simp[intOf];omega
    obtain rfl:k=f.keeps.length:=by omega
    clear hlt hk
    go_wp2_with fail
    clear f0 f1 f2 f3 f4 f5
    go_loopw[9] (fun i wr=>∃k:Nat,k≤f.acts.length∧i= .int .i64 k∧Hid (∀j,j<k→∀x,f.acts[j]? =some x→n∉wants x)∧Below w1.heap.size w1 wr) (fun i _=>f.acts.length-(intOf i).toNat)
    case atStart=>exact ⟨0,Nat.zero_le _,rfl,fun j hj=>absurd hj (by omega),Below.refl _ _⟩
    case round=>
     obtain ⟨k,hk,rfl,H4,hb⟩:=hrel
     have hbw:=b1.trans (hb.mono hs1)
     obtain ⟨f0,f1,f2,f3,f4,f5⟩:=(HF6.out _ hb).six'
     by_cases hlt:k<f.acts.length
     ·obtain ⟨b,off,x,rfl,hbb,hx,wx,d0,d1,d2,d3,d4,d5⟩:=(HSA.out _ hbw).ac hlt
      have hk':(k:Int)<f.acts.length:=by omega
      have HX:=Lib.hid hx
      have HP:=Lib.hid (fun W=>rparts_any x wx (HU.out x (List.mem_of_getElem? hx)) W)
      have hsr:=hb.size
      clear hx wx
      obtain ⟨xo,xd,xa,xb,xc,xk⟩:=x
      dsimp only at d0 d1 d2 d3 d4 d5
      go_wp2_with fail
      (with_reducible refine (HP.out wr).mono ?_)
      rintro e w6 ⟨v,rfl,hv,hvo,hb6⟩
      have hb6':=hb.trans (hb6.mono hsr)
      have HV:=Lib.hid hv
      obtain ⟨Av,cv,rfl,lv,mv,sv⟩:=id hv
      have mv':cv≤9223372036854775807:=by unfold maxLen at mv;omega
      have HSV:=Lib.hid sv
      clear hv hvo sv d0 d1 d2 d3 d4 d5 f0 f1 f2 f3 f4 f5 HP
      obtain ⟨f0,f1,f2,f3,f4,f5⟩:=(HF6.out _ hb6').six'
      generalize hwl:wants ⟨xo,xd,xa,xb,xc,xk⟩=wl at*
      have HWL:=Lib.hid hwl
      clear hwl
      go_wp2_with fail
      go_loopw[11] (fun i wr=>∃j:Nat,j≤wl.length∧i= .int .i64 j∧Hid (∀i,i<j→∀g,wl[i]? =some g→g≠n)∧w6=wr) (fun i _=>wl.length-(intOf i).toNat)
      case atStart=>exact ⟨0,Nat.zero_le _,rfl,fun j hj=>absurd hj (by omega),rfl⟩
      case round=>
       obtain ⟨j,hj,rfl,H5,rfl⟩:=hrel
       by_cases hlt2:j<wl.length
       ·obtain ⟨b2,off2,g,rfl,hb2,hg,wg,g0⟩:=HSV.out.int hlt2
        have hj':(j:Int)<wl.length:=by omega
        have HG:=Lib.hid hg
        clear hg wg
        by_cases e:g=n
        ·have e':(g==n)=true:=by simp[e]
         have HF:Hid (cB (wantedW f n)=true):=cB_true (.inr (.inr (.inr ⟨_,List.mem_of_getElem? HX.out,by rw[HWL.out,←e];exact List.mem_of_getElem? HG.out⟩)))
         have HBB:=Lib.hid (b1.trans (hb6'.mono hs1))
         clear e
         go_wp2_with fail
         go_ret
         exact ⟨ret_bool HF.out.symm,HBB.out⟩
        ·have e':(g==n)=false:=by simp[e]
         have H5':=Lib.hid (upto_snoc (P:=fun (g:Int)=>g≠n) H5.out HG.out e)
         clear e
         go_wp2_with fail
         go_roundw
         case rel=>exact ⟨j+1,by omega,by go_num,H5'.out,trivial⟩
         case measure=>simp[intOf];omega
       obtain rfl:j=wl.length:=by omega
       have H4':=Lib.hid (upto_snoc (P:=fun (x:Ac)=>n∉wants x) H4.out HX.out (by rw[HWL.out];exact fun q=>upto_all (P:=fun (g:Int)=>g≠n) H5.out n q rfl))
       go_wp2_with fail
       go_roundw
       case rel=>exact ⟨k+1,by omega,by go_num,H4'.out,hb6'⟩
       case measure=>simp[intOf];omega
     obtain rfl:k=f.acts.length:=by omega
     have HF:Hid (cB (wantedW f n)=false):=cB_false (wanted_no H1.out H2.out H3.out H4.out)
     go_wp2_with fail
     go_ret
     exact ⟨ret_bool HF.out.symm,hbw⟩
end Go.Proofs.Ytckognjamlckcaa
namespace Go.Proofs.Ytckognjamlckcaa
open Go.RowKit Vf Fo
attribute [local go_sem ↓] Go.wp_at_zero Go.wp_at_succ
set_option maxRecDepth 100000 in
set_option maxHeartbeats 8000000 in
theorem numbers_any {w:World} {f:Fm} {vw va vc vk vi vo v:Value} {L l:List Int} {K:Nat} (h:FmAt w w.heap.size f vw va vc vk vi vo) (hd:definedOk f) (hL:ByL f L) (rK:Row w K (ints L).toArray 3) (hl:SlV w w.heap.size 1 isInt v l) (hi:∀n∈l,isW f n):
  Calls Try.prog 24 #[fmV vw va vc vk vi vo,.slice (some ⟨K,0,none⟩) f.wires.length f.wires.length,v] w fun e w'=>e= .returned (.bool (cB (∀n∈l,isNum f.acts n)))∧Below w.heap.size w w':=by
 obtain ⟨Aa,ca,rfl,la,ma,sa⟩:=h.acts
 obtain ⟨Al,cl,rfl,ll,ml,sl⟩:=hl
 have ma':ca≤9223372036854775807:=by unfold maxLen at ma;omega
 have ml':cl≤9223372036854775807:=by unfold maxLen at ml;omega
 have hwl:f.wires.length≤9223372036854775807:=by
  obtain ⟨_,_,_,h1,h2,_⟩:=h.wires
  unfold maxLen at h2
  omega
 have HSA:=Lib.hid (fun W (hW:Below w.heap.size w W)=>sa.below hW)
 have HSL:=Lib.hid (fun W (hW:Below w.heap.size w W)=>sl.below hW)
 have b1:Below w.heap.size w (w.alloc (.cells #[vw,.slice Aa f.acts.length ca,vc,vk,vi,vo] 28)):=bE
 have rF:=Row.new w #[vw,.slice Aa f.acts.length ca,vc,vk,vi,vo] 28
 have HRK:=Lib.hid (fun W (hW:Below w.heap.size w W)=>rK.below hW rK.lt)
 have HI:=Lib.hid hi
 have HBL:=Lib.hid hL
 have HD:=Lib.hid hd
 have hKl:=rK.lt
 clear h sa sl rK hi hL hd
 go_enter Try.func24,Try.ntmps24
 go_upto_region 1 with (fail)
 generalize w.alloc (.cells #[vw,.slice Aa f.acts.length ca,vc,vk,vi,vo] 28)=w1 at*
 have hs1:=b1.size
 have hFl:=rF.lt
 have HF6:Hid (∀W,Below w1.heap.size w1 W→Row W w.heap.size #[vw,.slice Aa f.acts.length ca,vc,vk,vi,vo] 28):=fun W hW=>rF.below hW hFl
 clear rF
 go_wp2_with fail
 go_loopw[11] (fun i wr=>∃k:Nat,k≤l.length∧i= .int .i64 k∧Hid (∀j,j<k→∀m,l[j]? =some m→isNum f.acts m)∧Below w1.heap.size w1 wr) (fun i _=>l.length-(intOf i).toNat)
 case atStart=>exact ⟨0,Nat.zero_le _,rfl,fun j hj=>absurd hj (by omega),Below.refl _ _⟩
 case round=>
  obtain ⟨k,hk,rfl,HP,hb⟩:=hrel
  have hbw:=b1.trans (hb.mono hs1)
  have hsr:=hb.size
  by_cases hlt:k<l.length
  ·obtain ⟨b,off,n,rfl,hbb,hx,wx,d0⟩:=(HSL.out _ hbw).int hlt
   have hk':(k:Int)<l.length:=by omega
   have hn:=HI.out n (List.mem_of_getElem? hx)
   have HX:=Lib.hid hx
   obtain ⟨m,rfl⟩:=Int.eq_ofNat_of_zero_le hn.1
   have hm:m<f.wires.length:=by have:=hn.2;omega
   have hm':(m:Int)<f.wires.length:=by omega
   have cK:=vs_cell (HRK.out _ hbw) (n:=m) (by rw[HBL.out.1];exact hm)
   rcases HBL.out.2.2 _ hn with ⟨hin,e⟩|⟨i,x,hx',hxd,e⟩
   ·have HF:Hid (cB (∀n∈l,isNum f.acts n)=false):=cB_false (fun g=>by
     obtain ⟨y,hy,_⟩:=g _ (List.mem_of_getElem? HX.out)
     have:=actAt_dst hy
     exact (HD.out.2.1 y this.1).2 (by rw[this.2];exact hin))
    rw[e] at cK
    obtain ⟨f0,f1,f2,f3,f4,f5⟩:=(HF6.out _ hb).six'
    clear hn hx wx e hin HP
    go_upto_region 4 with (fail)
    go_quiet (fail)
    go_wp2_with fail
    go_ret
    exact ⟨ret_bool HF.out.symm,below_drewN' hbw _⟩
   ·rw[e] at cK
    have hi':=(List.getElem?_eq_some_iff.1 hx').1
    have hi'':(i:Int)<f.acts.length:=by omega
    have hi0:decide ((i:Int)<0)=false:=by simp
    obtain ⟨b3,off3,y,rfl,hb3,hy,wy,e0,e1,e2,e3,e4,e5⟩:=(HSA.out _ hbw).ac hi'
    have hyx:y=x:=by rw[hx'] at hy;injection hy with hy;exact hy.symm
    subst hyx
    have HN:Hid (isNum f.acts (m:Int)↔decide (y.op=1∨y.op=2)=true):=by
     have:=actAt_mem (dsts_nodup HD.out) (List.mem_of_getElem? hx')
     rw[hxd] at this
     unfold isNum
     rw[this,decide_eq_true_eq]
     exact ⟨fun ⟨z,hz,ho⟩=>by injection hz with hz;subst hz;exact ho,fun g=>⟨y,rfl,g⟩⟩
    have HP1:=Lib.hid (plain_any y)
    have HK:Hid (∀W,Below wr.heap.size wr W→W.cell? ⟨w.heap.size,1,none⟩=some (.slice (some ⟨b3,off3,none⟩) f.acts.length ca)∧W.cell? ⟨K,m,none⟩=some (.int .i64 i)∧W.cell? ⟨b3,off3+i*6,none⟩=some (.int .i64 y.op)∧W.cell? ⟨b3,off3+i*6+1,none⟩=some (.int .i64 y.dst)∧W.cell? ⟨b3,off3+i*6+2,none⟩=some (.int .i64 y.a)∧W.cell? ⟨b3,off3+i*6+3,none⟩=some (.int .i64 y.b)∧W.cell? ⟨b3,off3+i*6+4,none⟩=some (.int .i64 y.c)∧W.cell? ⟨b3,off3+i*6+5,none⟩=some (.int .i64 y.k)):=fun W hW=>
     ⟨((HF6.out _ hb).below hW (by have:=(HF6.out _ hb).lt;omega)).six'.2.1,cell_kept cK hW,cell_kept e0 hW,cell_kept e1 hW,cell_kept e2 hW,cell_kept e3 hW,cell_kept e4 hW,cell_kept e5 hW⟩
    clear hn hx wx e hx' hxd hy wy
    obtain ⟨xo,xd,xa,xb,xc,xk⟩:=y
    dsimp only at e0 e1 e2 e3 e4 e5 HN HK
    generalize decide (xo=1∨xo=2)=P0 at*
    go_upto_region 4 with (fail)
    go_cut[31] (fun v W=>v= .bool (!P0)∧Below wr.heap.size wr W)
    case first=>
     refine wp_region_held_drew (S:=fun W=>W.cell? ⟨w.heap.size,1,none⟩=some (.slice (some ⟨b3,off3,none⟩) f.acts.length ca)∧W.cell? ⟨K,m,none⟩=some (.int .i64 i)∧W.cell? ⟨b3,off3+i*6,none⟩=some (.int .i64 xo)∧W.cell? ⟨b3,off3+i*6+1,none⟩=some (.int .i64 xd)∧W.cell? ⟨b3,off3+i*6+2,none⟩=some (.int .i64 xa)∧W.cell? ⟨b3,off3+i*6+3,none⟩=some (.int .i64 xb)∧W.cell? ⟨b3,off3+i*6+4,none⟩=some (.int .i64 xc)∧W.cell? ⟨b3,off3+i*6+5,none⟩=some (.int .i64 xk)) (by kernel_rfl) ?_ (fun hHeld=>?_)
     ·(try dsimp only);(first|(with_reducible exact HK.out _ bE))
     refine tk 0 (some 15) rfl ?_
     refine tk 1 (some 16) rfl ?_
     refine tk 2 (some 17) rfl ?_
     refine tk 3 (some 18) rfl ?_
     refine tk 4 (some 19) rfl ?_
     refine tk 5 (some 20) rfl ?_
     refine tk 6 (some 21) rfl ?_
     refine tk 7 (some 22) rfl ?_
     refine tk 8 (some 23) rfl ?_
     refine tk 9 (some 24) rfl ?_
     refine tk 10 (some 25) rfl ?_
     refine tk 11 (some 26) rfl ?_
     refine tk 12 (some 27) rfl ?_
     refine tk 13 (some 28) rfl ?_
     refine rd1 14 (some 29) rfl (fun KK hKK=>?_)
     go_simp
     go_at_call 53;refine Calls.mono (HP1.out _) ?_;rintro e w8 ⟨rfl,hb8⟩;(have hb9:Below wr.heap.size wr w8:=Below.trans bE (hb8.mono lE))
     (try go_wp2_with fail)
     refine hKK.out _ _ ?_ (fun hHeld=>?_)
     ·(try dsimp only);(first|(with_reducible exact HK.out _ bE))
     clear hKK KK
     try simp only[Act.put,List.setIfInBounds_toArray,List.set_cons_zero,List.set_cons_succ]
     refine tk 15 (some 30) rfl ?_
     refine tk 16 (some 31) rfl ?_
     refine wpAnyH_done (by kernel_rfl) ?_ _
     go_wp2_with fail
     go_meet
     exact ⟨by first|rfl|trivial,bE⟩
    case rest=>
     obtain ⟨rfl,hbc⟩:=hcut
     have hbc':=hb.trans (hbc.mono hsr)
     have hbcw:=hbw.trans (hbc.mono hbw.size)
     clear e0 e1 e2 e3 e4 e5 cK HK HP1
     cases P0
     ·have HF:Hid (cB (∀n∈l,isNum f.acts n)=false):=cB_false (fun g=>by
       have:=HN.out.1 (g _ (List.mem_of_getElem? HX.out))
       cases this)
      go_wp2_with fail
      go_ret
      exact ⟨ret_bool HF.out.symm,hbcw⟩
     ·have HP':=Lib.hid (upto_snoc (P:=fun n=>isNum f.acts n) HP.out HX.out (HN.out.2 rfl))
      go_wp2_with fail
      go_roundw
      case rel=>exact ⟨k+1,by omega,by go_num,HP'.out,hbc'⟩
      case measure=>simp[intOf];omega
  ·obtain rfl:k=l.length:=by omega
   have HF:Hid (cB (∀n∈l,isNum f.acts n)=true):=cB_true (upto_all (P:=fun n=>isNum f.acts n) HP.out)
   go_wp2_with fail
   go_ret
   exact ⟨ret_bool HF.out.symm,hbw⟩
end Go.Proofs.Ytckognjamlckcaa
