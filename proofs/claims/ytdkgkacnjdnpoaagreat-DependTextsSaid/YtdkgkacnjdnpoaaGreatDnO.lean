/-
  A text that is written byte by byte: the contracts of strings.Builder's WriteByte and String. A byte written to a text: the contracts of strings.Builder's copyCheck and WriteByte. The contract of depend.Text: lists of truths as lines. The contract of depend.Of: which Outs of any flat hang on which Ins.
-/
import Derived.Test.YtdkgkacnjdnpoaaGreatZz
import Derived.Shelf.Strings.Builder1
import Derived.Test.YtdkgkacnjdnpoaaGreatMem
import Derived.Test.YtdkgkacnjdnpoaaGreatExMem
import Derived.Deep.DeepCutAuto
import Derived.Test.YtdkgkacnjdnpoaaGreatDnN
set_option maxHeartbeats 8000000
set_option maxRecDepth 100000
namespace Go.Proofs.YtdkgkacnjdnpoaaGreat
open Go.Shelf
def bldS_ren:Go.Shelf.Ren:=⟨fun|169=>36|n=>n,fun|70=>93|9=>9|0=>0|72=>96|37=>94|127=>153|3=>3|5=>5|n=>n,fun|n=>n⟩
theorem bldS:Go.Proofs.Lays.n169 Tryz.prog bldS_ren:={
 mixed:=by kernel_rfl
 f169:=Tryz.func36.trans (congrArg some (by kernel_rfl))
 t0:=Tryz.underlying0
 a0:=Tryz.isAgg0
 z0:=Tryz.sizeOf0
 v0:=Tryz.zeroValue0
 t3:=Tryz.underlying3
 a3:=Tryz.isAgg3
 z3:=Tryz.sizeOf3
 v3:=Tryz.zeroValue3
 t9:=Tryz.underlying9
 a9:=Tryz.isAgg9
 z9:=Tryz.sizeOf9
 v9:=Tryz.zeroValue9
 t37:=Tryz.underlying94
 a37:=Tryz.isAgg94
 z37:=Tryz.sizeOf94
 v37:=Tryz.zeroValue94
 t70:=Tryz.underlying93
 a70:=Tryz.isAgg93
 z70:=Tryz.sizeOf93
 v70:=Tryz.zeroValue93
 t72:=Tryz.underlying96
 a72:=Tryz.isAgg96
 z72:=Tryz.sizeOf96
 v72:=Tryz.zeroValue96
 t127:=Tryz.underlying153
 a127:=Tryz.isAgg153
 z127:=Tryz.sizeOf153
 v127:=Tryz.zeroValue153}
theorem bldS_x:Builder.Extra Tryz.prog bldS_ren where
 sizeBuilder:=by kernel_rfl
 liesBuilder:=by kernel_rfl
 t5:=Tryz.underlying5
 a5:=Tryz.isAgg5
 z5:=Tryz.sizeOf5
 v5:=Tryz.zeroValue5
 infoByte:=by kernel_rfl
 cellsByte:=by kernel_rfl
 sizeByte:=by kernel_rfl
 neB5:=by decide
abbrev BldAt (B b:Nat) (l:List UInt8) (w:World):Prop:=Lib.IsBuilder 96 5 B b (Lib.byteCells l) w
theorem bstring_any (B b:Nat) (l:List UInt8) (w:World) (h:BldAt B b l w) (hBw:B≤w.heap.size):
  Calls Tryz.prog 36 #[.pointer (some ⟨b,0,none⟩)] w fun e w'=>e= .returned (.string ⟨l.toArray⟩)∧Go.RowKit.Below B w w':=Any.Builder_String_any bldS bldS_x B b l w h hBw
open Go.RowKit Go.Shelf
theorem bld_size:∃j,Tryz.prog.info? 96=some j∧j.size=2:=by
 obtain ⟨j,h,e⟩:=Option.map_eq_some_iff.1 bldS_x.sizeBuilder
 exact ⟨j,h,e⟩
theorem bcopy_used (b:Nat) (w:World) (h0:w.cell? ⟨b,0,none⟩=some (.pointer (some ⟨b,0,none⟩))):
  Calls Tryz.prog 70 #[.pointer (some ⟨b,0,none⟩)] w fun e w'=>e= .returned (.tuple #[])∧w'=w:=by
 obtain ⟨j,hj,_⟩:=bld_size
 go_enter Tryz.func70,Tryz.ntmps70
 go_wp2_with fail
 rw[Lib.run_neq_ptr_same w _ Tryz.underlying93 hj]
 go_wp2_with fail
 (try simp only[Exit.inBlock,Exit.then])
 refine bodyPost_end (results_none rfl _ _ _) rfl ?_
 exact ⟨rfl,rfl⟩
theorem bcopy_fresh (b:Nat) (w:World) (h0:w.cell? ⟨b,0,none⟩=some (.pointer none)) (hsh:w.shape? b=some (96,2)) (hfz:w.frozen? ⟨b,0,none⟩=false):
  Calls Tryz.prog 70 #[.pointer (some ⟨b,0,none⟩)] w fun e w'=>e= .returned (.tuple #[])∧w'=w.setCell ⟨b,0,none⟩ (.pointer (some ⟨b,0,none⟩)):=by
 obtain ⟨j,hj,hjs⟩:=bld_size
 go_enter Tryz.func70,Tryz.ntmps70
 go_wp2_with fail
 rw[Lib.run_to_unsafe w ⟨b,0,none⟩ Tryz.underlying93 Tryz.underlying201 hj (by rw[hjs];decide) hsh (Nat.zero_lt_succ 1)]
 simp only[Result.andThen]
 rw[Oper.upon_value]
 go_wp2_with fail
 rw[run_callFunc_extern Tryz.func119 (by kernel_rfl) (by kernel_rfl) (by kernel_rfl) (e:=Extern.AbiNoEscape.same) (by kernel_rfl)]
 rw[Lib.run_noEscape]
 simp only[Result.andThen]
 rw[Oper.upon_value]
 go_wp2_with fail
 rw[Lib.run_from_unsafe w ⟨b,0,none⟩ Tryz.underlying201 Tryz.underlying93 hj hsh bldS_x.liesBuilder]
 simp only[Result.andThen]
 rw[Oper.upon_value]
 go_wp2_with fail
 (try simp only[Exit.inBlock,Exit.then])
 refine bodyPost_end (results_none rfl _ _ _) rfl ?_
 exact ⟨rfl,rfl⟩
theorem bcopy_any (B b:Nat) (l:List UInt8) (w:World) (h:BldAt B b l w):
  Calls Tryz.prog 70 #[.pointer (some ⟨b,0,none⟩)] w fun e w'=>e= .returned (.tuple #[])∧(Lib.BuilderAt 96 5 B b (.pointer (some ⟨b,0,none⟩)) (Lib.byteCells l) w'∧Below B w w'):=by
 rcases h with h|h
 ·refine (bcopy_fresh b w h.cell0 h.shape h.frozen0).mono ?_
  rintro e w' ⟨rfl,rfl⟩
  exact ⟨rfl,h.used _,(Below.refl B w).setCell (p:=⟨b,0,none⟩) h.1 _⟩
 ·refine (bcopy_used b w h.cell0).mono ?_
  rintro e w' ⟨rfl,rfl⟩
  exact ⟨rfl,h,Below.refl B _⟩
theorem bytes_snoc (l:List UInt8) (c:UInt8):Lib.byteCells l++ [.int .u8 c.toNat]=Lib.byteCells (l++ [c]):=by simp[Lib.byteCells]
theorem bwrite_any (B b:Nat) (l:List UInt8) (c:UInt8) (w:World) (h:BldAt B b l w) (hlen:l.length+1≤140737488355328) (hBw:B≤w.heap.size):
  Calls Tryz.prog 35 #[.pointer (some ⟨b,0,none⟩),.int .u8 c.toNat] w fun e w'=>e= .returned .nilIface∧BldAt B b (l++ [c]) w'∧Below B w w':=by
 obtain ⟨i0,hi,hz0,hz1,hz2⟩:=info_parts bldS_x.infoByte
 have HC:=Lib.hid (bcopy_any B b l w h)
 have hll:(Lib.byteCells l).length=l.length:=by simp[Lib.byteCells]
 clear h
 go_enter Tryz.func35,Tryz.ntmps35
 go_wp2_with fail
 refine HC.out.mono ?_
 rintro e w1 ⟨rfl,h1,hb1⟩
 obtain ⟨hB,v,hbk,hown,hne⟩:=h1
 have c0:w1.cell? ⟨b,0,none⟩=some (.pointer (some ⟨b,0,none⟩)):=by rw[Lib.cell_of_heap hbk];rfl
 have c1:w1.cell? ⟨b,1,none⟩=some v:=by rw[Lib.cell_of_heap hbk];rfl
 go_wp2_with (at_builtin;refine wpList_append_any _ rfl _ _ 94 rfl B 5 i0 (.int .u8 0) 1 1 Tryz.underlying94 hi hz0 hz1 hz2 rfl (by decide) _ _ _ rfl (hown.alloc _) ⟨w1.heap.size,0,none⟩ 1 1 [.int .u8 c.toNat] rfl rfl ?c1 ?c2 ?c3 ?c4 ?c5 ?_)
 case c1=>
  intro j u hj
  match j,hj with
  |0,hj=>simp at hj;subst hj;simp[Addr.add]
  |j+1,hj=>simp at hj
 case c2=>intro u hu;simp at hu;subst hu;rfl
 case c3=>unfold maxLen;omega
 case c4=>omega
 case c5=>have:=hb1.size;simp;omega
 intro v' w2 hown' hgrow _
 have hlt:b<w1.heap.size:=by
  rcases Nat.lt_or_ge b w1.heap.size with h'|h'
  ·exact h'
  ·simp[Array.getElem?_eq_none h'] at hbk
 have hb2:w2.heap[b]? =some (.cells #[.pointer (some ⟨b,0,none⟩),v] 96 (0,0)):=by
  rw[hgrow.block b (by simp;omega) (fun e=>hne e.symm),Lib.alloc_old w1 _ b hlt]
  exact hbk
 have d0:w2.cell? ⟨b,0,none⟩=some (.pointer (some ⟨b,0,none⟩)):=by rw[Lib.cell_of_heap hb2];rfl
 have d1:w2.cell? ⟨b,1,none⟩=some v:=by rw[Lib.cell_of_heap hb2];rfl
 have f1:w2.frozen? ⟨b,1,none⟩=false:=Lib.frozen_of_heap hb2 1
 obtain ⟨g,cap,rfl⟩:∃g cap,v'= .slice (some ⟨g,0,none⟩) (l.length+1) cap:=by
  rcases hown'.2 with ⟨_,h0⟩|⟨g,cap,cur,hv,_⟩
  ·omega
  ·exact ⟨g,cap,hv⟩
 have HF:Hid (Lib.BuilderAt 96 5 B b (.pointer (some ⟨b,0,none⟩)) (Lib.byteCells (l++ [c])) (w2.setCell ⟨b,1,none⟩ (.slice (some ⟨g,0,none⟩) (l.length+1) cap))):=by
  show Lib.BuilderAt _ _ _ _ _ _ _
  rw[←bytes_snoc]
  have:=Lib.BuilderAt.put (T:=96) (e:=5) hB hb2 (bs':=Lib.byteCells l++ [.int .u8 c.toNat]) (v':= .slice (some ⟨g,0,none⟩) (l.length+1) cap) (by rw[List.length_append,hll];exact hown') (by decide)
  exact this
 have HB:=Lib.hid (((hb1.alloc (by have:=hb1.size;omega) _).grown hgrow (by have:=hb1.size;simp;omega) (fun k hk=>(hown.lt k hk).1)).setCell (p:=⟨b,1,none⟩) hB (.slice (some ⟨g,0,none⟩) (l.length+1) cap))
 clear hown hown' hgrow hbk hb2 hne c0 c1 hb1
 go_wp2_with fail
 go_ret
 exact ⟨rfl,.inr HF.out,HB.out⟩
open Go.RowKit
def lineB (r:List Bool):List UInt8:=r.map fun b=>if b=true then 120 else 46
def textB (l:List (List Bool)):List UInt8:=(l.map fun r=>lineB r++ [10]).flatten
theorem text_snoc {l:List (List Bool)} {k:Nat} {r:List Bool} (h:l[k]? =some r):textB (l.take (k+1))=textB (l.take k)++lineB r++ [10]:=by
 unfold textB
 rw[List.take_add_one,h]
 simp
theorem line_snoc {r:List Bool} {k:Nat} {b:Bool} (h:r[k]? =some b):lineB (r.take (k+1))=lineB (r.take k)++ [if b=true then 120 else 46]:=by
 unfold lineB
 rw[List.take_add_one,h]
 simp
theorem text_len {l:List (List Bool)} {M:Nat} (h:∀r∈l,r.length≤M):(textB l).length≤(M+1)*l.length:=by
 unfold textB
 induction l with
 |nil=>simp
 |cons r l ih=>
  have h1:=h r (by simp)
  have h2:=ih fun s hs=>h s (by simp[hs])
  simp only[List.map_cons,List.flatten_cons,List.length_append,List.length_cons,List.length_nil,Nat.mul_add,Nat.mul_one] at h2⊢
  have h3:(lineB r).length=r.length:=by unfold lineB;simp
  omega
theorem take_bound {l:List (List Bool)} {k:Nat} (hl:l.length≤1000) (h:∀r∈l,r.length≤1000):(textB (l.take k)).length≤1001000:=by
 have h1:=text_len (l:=l.take k) (M:=1000) fun r hr=>h r (List.mem_of_mem_take hr)
 have h2:(l.take k).length≤1000:=by rw[List.length_take];omega
 have h3:(1000+1)*(l.take k).length≤1001*1000:=Nat.mul_le_mul_left _ h2
 omega
theorem line_len (r:List Bool):(lineB r).length=r.length:=by unfold lineB;simp
def isTru (x:Bool) (cs:List Value):Prop:=cs=[.bool x]
theorem sl_tru {w:World} {B:Nat} {A:Option Addr} {l:List Bool} {k:Nat} (h:Sl w B 1 isTru A l) (hk:k<l.length):∃b off x,A=some ⟨b,off,none⟩∧b<B∧l[k]? =some x∧w.cell? ⟨b,off+k,none⟩=some (.bool x):=by
 obtain ⟨b,off,x,cs,h1,h2,h3,h4,h5⟩:=h.at_ hk
 have h4':cs=[.bool x]:=h4
 subst h4'
 have:=h5 0 _ rfl
 rw[Nat.mul_one,Nat.add_zero] at this
 exact ⟨b,off,x,h1,h2,h3,this⟩
def isBrw (w:World) (B:Nat) (l:List Bool) (cs:List Value):Prop:=∃v,cs=[v]∧SlV w B 1 isTru v l
theorem sl_brw {w:World} {B C:Nat} {A:Option Addr} {l:List (List Bool)} {k:Nat} (h:Sl w B 1 (isBrw w C) A l) (hk:k<l.length):∃b off x Ax cx,A=some ⟨b,off,none⟩∧b<B∧l[k]? =some x∧w.cell? ⟨b,off+k,none⟩=some (.slice Ax x.length cx)∧x.length≤cx∧cx≤maxLen∧Sl w C 1 isTru Ax x:=by
 refine' zq164
theorem brw_keep {w w':World} {N:Nat} {v:Value} {l:List (List Bool)} (h:SlV w N 1 (isBrw w N) v l) (hb:Below N w w'):SlV w' N 1 (isBrw w' N) v l:=by
 refine SlV.keep h (fun p u hp hc=>(hb.cell hp).trans hc) (Nat.le_refl _) fun x _ cs hx=>?_
 obtain ⟨u,rfl,hu⟩:=hx
 exact ⟨u,rfl,hu.below hb⟩
theorem bld_new (w:World):BldAt w.heap.size w.heap.size [] (w.alloc (.cells #[.pointer none,.slice none 0 0] 96)):=
 .inl ⟨Nat.le_refl _,.slice none 0 0,heap_alloc_new w _,World.ownsRow_nil _ _ _ _,by simp[Value.ownBlock]⟩
theorem dtext_any (l:List (List Bool)) (v:Value) (w:World) (h:SlV w w.heap.size 1 (isBrw w w.heap.size) v l) (hl:l.length≤1000) (hr:∀r∈l,r.length≤1000):
  Calls Tryz.prog 17 #[v] w fun e w'=>e= .returned (.string ⟨(textB l).toArray⟩)∧Below w.heap.size w w':=by
 have b1:Below w.heap.size w (w.alloc (.cells #[.pointer none,.slice none 0 0] 96)):=bE
 have HB0:=Lib.hid (bld_new w)
 have HS:Hid (∀W,Below w.heap.size w W→SlV W w.heap.size 1 (isBrw W w.heap.size) v l):=fun W hW=>brw_keep h hW
 obtain ⟨A,cap,rfl,hlc,hcm,-⟩:=h
 have HR:=Lib.hid hr
 have hcm':cap≤9223372036854775807:=by unfold maxLen at hcm;omega
 clear hr hcm
 go_enter Tryz.func17,Tryz.ntmps17
 go_upto_region 2 with (fail)
 have HB:=Lib.hid b1
 generalize (w.alloc (.cells #[.pointer none,.slice none 0 0] 96))=W1 at*
 have hs1:=b1.size
 clear b1
 go_wp2_with fail
 go_loopw[10] (fun i wr=>∃k:Nat,k≤l.length∧i= .int .i64 k∧Hid (BldAt w.heap.size w.heap.size (textB (l.take k)) wr)∧Hid (Below w.heap.size w wr)) (fun i _=>l.length-(intOf i).toNat)
 case atStart=>exact ⟨0,Nat.zero_le _,rfl,HB0,HB⟩
 case round=>
  clear HB HB0
  obtain ⟨k,hk,rfl,HT,HB⟩:=hrel
  have hsr:=HB.out.size
  by_cases hlt:k<l.length
  rotate_left 1
  ·obtain rfl:k=l.length:=by omega
   have hb:=HT.out
   rw[List.take_length] at hb
   have HST:=Lib.hid (bstring_any _ _ _ wr hb hsr)
   clear hb
   go_wp2_with fail
   refine HST.out.mono ?_
   rintro e w2 ⟨rfl,hb2⟩
   have HB2:=Lib.hid (HB.out.trans hb2)
   clear hb2
   go_wp2_with fail
   go_ret
   exact ⟨rfl,HB2.out⟩
  obtain ⟨A',c',hv,-,-,sl⟩:=HS.out wr HB.out
  cases hv
  obtain ⟨b,off,r,Ar,cr,hA,hb,hr,d0,lr,mr,sr⟩:=sl_brw sl hlt
  have HTX:=Lib.hid (text_snoc hr)
  have hrl:=HR.out r (List.mem_of_getElem? hr)
  have hbd:=take_bound (l:=l) (k:=k) hl HR.out
  refine' zq98
  generalize wr=W0 at*
  go_wp2_with fail
  go_loopw[16] (fun i wq=>∃j:Nat,j≤r.length∧i= .int .i64 j∧Hid (BldAt w.heap.size w.heap.size (textB (l.take k)++lineB (r.take j)) wq)∧Hid (Below w.heap.size W0 wq)) (fun i _=>r.length-(intOf i).toNat)
  case atStart=>exact ⟨0,Nat.zero_le _,rfl,by show BldAt _ _ (_++lineB (r.take 0)) _;simpa[lineB] using HT.out,Below.refl _ _⟩
  case round=>
   clear HT
   obtain ⟨j,hj,rfl,HT2,HB2⟩:=hrel
   have hs2:=HB2.out.size
   have hBw:w.heap.size≤wr.heap.size:=by omega
   by_cases hlt2:j<r.length
   ·refine' zq145
    have hlen:(textB (l.take k)++lineB (r.take j)).length+1≤140737488355328:=by
     rw[List.length_append,line_len,List.length_take]
     omega
    have HW:=Lib.hid (fun c=>bwrite_any w.heap.size w.heap.size _ c wr HT2.out hlen hBw)
    rw[hA2]
    clear hA2 hx HT2 hlen
    cases x
    ·have HW1:Hid (Calls Tryz.prog 35 #[.pointer (some ⟨w.heap.size,0,none⟩),.int .u8 46] wr fun e w'=>e= .returned .nilIface∧BldAt w.heap.size w.heap.size (textB (l.take k)++lineB (r.take (j+1))) w'∧Below w.heap.size wr w'):=by
      rw[HLX.out,←List.append_assoc]
      exact HW.out 46
     refine' zq84
    ·have HW1:Hid (Calls Tryz.prog 35 #[.pointer (some ⟨w.heap.size,0,none⟩),.int .u8 120] wr fun e w'=>e= .returned .nilIface∧BldAt w.heap.size w.heap.size (textB (l.take k)++lineB (r.take (j+1))) w'∧Below w.heap.size wr w'):=by
      rw[HLX.out,←List.append_assoc]
      exact HW.out 120
     refine' zq84
   ·obtain rfl:j=r.length:=by omega
    have hlen:(textB (l.take k)++lineB (r.take r.length)).length+1≤140737488355328:=by
     rw[List.length_append,line_len,List.length_take]
     omega
    have hw:=bwrite_any w.heap.size w.heap.size _ 10 wr HT2.out hlen hBw
    rw[List.take_length,←HTX.out] at hw
    have HW1:Hid (Calls Tryz.prog 35 #[.pointer (some ⟨w.heap.size,0,none⟩),.int .u8 10] wr fun e w'=>e= .returned .nilIface∧BldAt w.heap.size w.heap.size (textB (l.take (k+1))) w'∧Below w.heap.size wr w'):=hw
    clear hw HT2 hlen
    go_wp2_with fail
    refine HW1.out.mono ?_
    rintro e w5 ⟨rfl,hb5,hbb5⟩
    have HT5:=Lib.hid hb5
    have HB5:=Lib.hid (HB.out.trans (HB2.out.trans hbb5))
    clear hb5 hbb5
    have hA:=HA.out
    go_wp2_with fail
    go_roundw
    case rel=>exact ⟨k+1,by omega,by go_num,HT5,HB5⟩
    case measure=>first|(simp[intOf];omega)|simp[intOf]
end Go.Proofs.YtdkgkacnjdnpoaaGreat
namespace Go.Proofs.YtdkgkacnjdnpoaaGreat.Q.Fo
open Go.RowKit Go.Shelf Vf
attribute [local go_sem ↓] Go.wp_at_zero Go.wp_at_succ
theorem own_ne2 {w:World} {b1 b2 s1 s2 n1 n2:Nat} {e1 e2:TypeId} {v1 v2:Value} {x1 x2:List Value} (h1:w.ownsRow b1 e1 s1 v1 n1 x1) (h2:w.ownsRow b2 e2 s2 v2 n2 x2) (ht:e1≠e2) (g:Nat) (hg:v1.ownBlock=some g):v2.ownBlock≠some g:=by
 rcases h2.2 with ⟨h0,_⟩|⟨g',c,cur,h3,_,h4,_⟩
 ·subst h0;intro q;cases q
 ·subst h3
  intro q
  cases q
  exact own_ne h1 (show Row w g' cur e2 from h4) (fun e=>ht e.symm) hg
theorem info_tru:(Tryz.prog.info? 4).map (fun i=>(i.zero,i.size,i.bytes))=some (some (.bool false),1,1):=by kernel_rfl
theorem rw_up' {w w':World} {v:Value} {l:List (List Int)} (h:SlV w w.heap.size 1 (isRw w w.heap.size) v l) (hb:Below w.heap.size w w'):SlV w' w'.heap.size 1 (isRw w' w'.heap.size) v l:=by
 refine SlV.keep h (fun p u hp hc=>(hb.cell hp).trans hc) hb.size fun x _ cs hx=>?_
 obtain ⟨u,rfl,hu⟩:=hx
 exact ⟨u,rfl,(hu.below hb).more hb.size⟩
structure OfS (W:World) (base:Nat) (v:Value) (rs:List (List Bool)):Prop where
 ex:∃vs:List Value,W.ownsRow base 53 1 v rs.length vs∧∀(i:Nat) (u:Value) (r:List Bool),vs[i]? =some u→rs[i]? =some r→W.ownsRow base 4 1 u r.length (bls r)
section
variable {W W':World} {base:Nat} {v:Value} {rs:List (List Bool)}
theorem OfS.nil (W:World) (base:Nat):OfS W base (.slice none 0 0) []:=⟨[],World.ownsRow_nil _ _ _ _,fun i u r h=>by simp at h⟩
theorem OfS.below (h:OfS W base v rs) (hb:Below W.heap.size W W'):OfS W' base v rs:=by
 obtain ⟨vs,h1,h2⟩:=h.ex
 exact ⟨vs,own_below h1 hb,fun i u r hu hr=>own_below (h2 i u r hu hr) hb⟩
theorem bls_sl {u:Value} {r:List Bool} (h:W.ownsRow base 4 1 u r.length (bls r)):SlV W W.heap.size 1 isTru u r:=by
 refine SlV.keep (own_slx (lo:=0) (rel:=isTru) (l:=r) h (Nat.zero_le _) rfl (fun i x hx=>?_)) (fun p u _ hc=>hide_cell hc) (Nat.le_refl _) (fun _ _ _ g=>g)
 refine ⟨[.bool x],rfl,fun j hj=>?_,rfl⟩
 obtain rfl:j=0:=by omega
 simp[bls,hx]
theorem OfS.sl (h:OfS W base v rs):SlV W W.heap.size 1 (isBrw W W.heap.size) v rs:=by
 obtain ⟨vs,h1,h2⟩:=h.ex
 have hl:vs.length=rs.length:=by have:=h1.1;omega
 refine SlV.keep (own_slx (lo:=0) (rel:=isBrw W W.heap.size) (l:=rs) h1 (Nat.zero_le _) rfl (fun i x hx=>?_)) (fun p u _ hc=>hide_cell hc) (Nat.le_refl _) (fun _ _ _ g=>g)
 have hil:i<vs.length:=by rw[hl];exact (List.getElem?_eq_some_iff.1 hx).1
 refine ⟨[vs[i]],rfl,fun j hj=>?_,vs[i],rfl,bls_sl (h2 i _ x (List.getElem?_eq_getElem hil) hx)⟩
 obtain rfl:j=0:=by omega
 simp[hil]
end
theorem OfS.put {W W1:World} {base:Nat} {v v' u:Value} {rs:List (List Bool)} {r:List Bool} {vs:List Value} (h1:W.ownsRow base 53 1 v rs.length vs) (h2:∀(i:Nat) (u:Value) (r:List Bool),vs[i]? =some u→rs[i]? =some r→W.ownsRow base 4 1 u r.length (bls r)) (hu:W.ownsRow base 4 1 u r.length (bls r)) (hg:Upd (fun j=>v.ownBlock=some j) W W1) (ho:W1.ownsRow base 53 1 v' (rs.length+1) (vs++ [u])):OfS W1 base v' (rs++ [r]):=by
 have hl:vs.length=rs.length:=by have:=h1.1;omega
 refine ⟨vs++ [u],by rw[List.length_append];exact ho,fun i x y hx hy=>?_⟩
 have key:∀(x:Value) (y:List Bool),W.ownsRow base 4 1 x y.length (bls y)→W1.ownsRow base 4 1 x y.length (bls y):=fun x y hxy=>own_updM hxy hg (fun g hg' e=>own_ne2 hxy h1 (by decide) g hg' e)
 by_cases hi:i<rs.length
 ·rw[List.getElem?_append_left (by omega)] at hx
  rw[List.getElem?_append_left hi] at hy
  exact key x y (h2 i x y hx hy)
 ·rw[List.getElem?_append_right (by omega)] at hx hy
  rw[hl] at hx
  have:i-rs.length=0:=by
   have:=(List.getElem?_eq_some_iff.1 hy).1
   simp at this
   omega
  rw[this] at hx hy
  simp at hx hy
  subst hx hy
  exact key _ _ hu
def OfIs (f:Fl) (rs:List (List Bool)) (n:Nat) (L:List (List Int)):Prop:=
 rs.length=n∧∀(o:Nat) (r:List Bool) (a:Int),rs[o]? =some r→f.outs[o]? =some a→r.length=f.ins.length∧∀(i:Nat) (b:Bool) (c:Int),r[i]? =some b→f.ins[i]? =some c→(b=true↔Rch L a c)
def TbIs (f:Fl) (L:List (List Int)):Prop:=L.length=f.wires.length∧∀(j:Nat) (m:Int),m∈L.getD j []↔DfTo f f.defs.length j m∨CkTo f f.wires.length j m
theorem uses_w {f:Fl} {e:Ex} (h:plainE f e) {m:Int} (hm:m∈useL (exList e)):isW f.fm m:=by
 unfold useL at hm
 obtain ⟨x,hx,rfl⟩:=List.mem_map.1 hm
 rw[List.mem_filter] at hx
 exact plain1_w (h x hx.1) hx.2
theorem tb_range {f:Fl} (h:flatOk f) (j:Nat) (m:Int) (hm:DfTo f f.defs.length j m∨CkTo f f.wires.length j m):0≤m∧m<f.wires.length:=by
 rcases hm with ⟨d,hd,_,hm⟩|⟨hj,x,hx,g,hg,rfl⟩
 ·have hd':d∈f.defs:=List.mem_of_mem_take hd
  exact uses_w (h.2.2.2.2.1 d hd').1 hm
 ·obtain ⟨i,hi⟩:=List.getElem?_of_mem hg
  exact ((h.1.1 x (List.mem_of_getElem? hx)).2 i g hi).1
theorem dof_any {w:World} {f:Fl} {vw vd vi vo:Value} (h:FlAt w w.heap.size f vw vd vi vo) (hdl:f.defs.length≤1000) (hsz:∀d∈f.defs,exSize d.2≤1000000) (hcl:∀x∈f.wires,x.clock.length≤1600):
  Calls Tryz.prog 16 #[flV vw vd vi vo] w fun r w'=>((¬flatOk f∧r= .returned (.tuple #[.slice none 0 0,.int .i64 2]))∨(flatOk f∧∃v rs L,r= .returned (.tuple #[v,.int .i64 0])∧SlV w' w'.heap.size 1 (isBrw w' w'.heap.size) v rs∧TbIs f L∧OfIs f rs f.outs.length L))∧Below w.heap.size w w':=by
 have HSZ:=Lib.hid hsz
 have HCL:=Lib.hid hcl
 obtain ⟨Aw,cw,rfl,lw,mw,sw⟩:=h.wires
 obtain ⟨Ad,cd,rfl,ld,md,sd⟩:=h.defs
 obtain ⟨Ai,ci,rfl,li,mi,si⟩:=h.ins
 obtain ⟨Ao,co,rfl,lo,mo,so⟩:=h.outs
 have mi':ci≤9223372036854775807:=by unfold maxLen at mi;omega
 have mo':co≤9223372036854775807:=by unfold maxLen at mo;omega
 have b1:Below w.heap.size w (w.alloc (.cells #[.slice Aw f.wires.length cw,.slice Ad f.defs.length cd,.slice Ai f.ins.length ci,.slice Ao f.outs.length co] 48)):=bE
 have r1:=Row.new w #[.slice Aw f.wires.length cw,.slice Ad f.defs.length cd,.slice Ai f.ins.length ci,.slice Ao f.outs.length co] 48
 have HFL:=Lib.hid (fun W (hW:Below w.heap.size w W)=>h.next hW)
 clear h hsz hcl sw sd si so
 go_enter Tryz.func16,Tryz.ntmps16
 go_upto_region 1 with (fail)
 generalize w.alloc (.cells #[.slice Aw f.wires.length cw,.slice Ad f.defs.length cd,.slice Ai f.ins.length ci,.slice Ao f.outs.length co] 48)=w1 at*
 have hs1:=b1.size
 have HB1:=Lib.hid b1
 have hNl:=r1.lt
 have HR:=Lib.hid (fright_any (HFL.out w1 b1) HSZ.out)
 obtain ⟨c0,c1,c2,c3⟩:=r1.four'
 go_wp2_with fail
 refine HR.out.mono ?_
 rintro r w2 ⟨rfl,hb2⟩
 have b2:=HB1.out.trans (hb2.mono hs1)
 have r2:=r1.below hb2 r1.lt
 have hs2:=b2.size
 clear c0 c1 c2 c3 HR HB1 b1 r1 hb2
 obtain ⟨c0,c1,c2,c3⟩:=r2.four'
 by_cases hok:flatOk f
 rotate_left 1
 ·rw[cB_false hok]
  have HNO:=Lib.hid hok
  clear hok
  go_wp2_with fail
  go_ret2
  exact ⟨.inl ⟨HNO.out,rfl⟩,b2⟩
 rw[cB_true hok]
 have HOK:=Lib.hid hok
 have HN:=Lib.hid (names_any (HFL.out w2 b2) (by have:=hok.1.2.2;omega) hdl HSZ.out (fl_hd hok.2.2.2.1) HCL.out (tb_range hok))
 clear hok
 go_wp2_with fail
 refine HN.out.mono ?_
 rintro r w3 ⟨⟨L,v4,rfl,hsl,hL,htb⟩,hb3⟩
 have b3:=b2.trans (hb3.mono hs2)
 have r3:=r2.below hb3 r2.lt
 have hs3:=b3.size
 have HTB:Hid (TbIs f L):=⟨hL,htb⟩
 have HRT:Hid (∀b:Int,∀c∈rowI L b,0≤c∧c<L.length):=fun b c hc=>by rw[hL];exact tb_range HOK.out _ _ ((htb _ _).1 hc)
 have HSL:Hid (∀W,Below w3.heap.size w3 W→SlV W W.heap.size 1 (isRw W W.heap.size) v4 L):=fun W hW=>rw_up' hsl hW
 have HLW:Hid (L.length≤1600):=by show _≤_;have:=HOK.out.1.2.2;omega
 obtain ⟨A4,c4,rfl,-,-,-⟩:=hsl
 have HSO:Hid (∀W,Below w.heap.size w W→Sl W W.heap.size 1 isInt Ao f.outs):=fun W hW=>by
  obtain ⟨A',c',e,_,_,s'⟩:=(HFL.out W hW).outs
  cases e
  exact s'
 have HSI:Hid (∀W,Below w.heap.size w W→Sl W W.heap.size 1 isInt Ai f.ins):=fun W hW=>by
  obtain ⟨A',c',e,_,_,s'⟩:=(HFL.out W hW).ins
  cases e
  exact s'
 have hHL:=Lib.hid hL
 clear c0 c1 c2 c3 HN hb3 htb r2 hL
 obtain ⟨c0,c1,c2,c3⟩:=r3.four'
 have HB3:=Lib.hid b3
 have HR3:=Lib.hid r3
 have h3l:=r3.lt
 have hol:=HOK.out.2.2.1.2.2
 have hil:=HOK.out.2.1.2.2
 clear b3 r3
 go_wp2_with fail
 clear c0 c1 c2 c3
 go_loopw[5,20] (fun v5 i wr=>∃(k:Nat) (rs:List (List Bool)),k≤f.outs.length∧i= .int .i64 k∧Hid (OfS wr w3.heap.size v5 rs∧OfIs f rs k L)∧Below w3.heap.size w3 wr) (fun _ i _=>f.outs.length-(intOf i).toNat)
 case atStart=>exact ⟨0,[],Nat.zero_le _,rfl,⟨OfS.nil _ _,rfl,fun o r a h=>by simp at h⟩,Below.refl _ _⟩
 case round=>
  obtain ⟨k,rs,hk,rfl,HS,hB⟩:=hrel
  have hsB:=hB.size
  have hBw:=HB3.out.trans (hB.mono hs3)
  by_cases hlt:k<f.outs.length
  rotate_left 1
  ·obtain rfl:k=f.outs.length:=by omega
   go_wp2_with fail
   go_ret2
   exact ⟨.inr ⟨HOK.out,_,rs,L,rfl,HS.out.1.sl,HTB.out,HS.out.2⟩,hBw⟩
  obtain ⟨bo,oo,a,hAo,hbo,ha,wa,e0⟩:=(HSO.out wr hBw).int hlt
  subst hAo
  have haw:=(HOK.out.2.2.1.1 a (List.mem_of_getElem? ha)).1
  have HA:=Lib.hid ha
  have HRC:=Lib.hid (reach_any (HSL.out wr hB) a haw.1 (by rw[hHL.out];exact haw.2) HLW.out HRT.out)
  have i0:(0:Int)≤(k:Int):=by omega
  have i1:(k:Int)<(f.outs.length:Int):=by omega
  clear ha haw wa
  go_wp2_with fail
  refine HRC.out.mono ?_
  rintro r w4 ⟨⟨E,on,rfl,hE,rE,hon,hrc⟩,hb4⟩
  have hB4:=hB.trans (hb4.mono hsB)
  have hs4:=hB4.size
  have hBw4:=HB3.out.trans (hB4.mono hs3)
  have r4:=HR3.out.below hB4 h3l
  have HRE:=Lib.hid rE
  have HRCH:=Lib.hid hrc
  have HON:=Lib.hid hon
  have HS4:=Lib.hid (HS.out.1.below hb4)
  have HO4:=Lib.hid HS.out.2
  have hEl:=rE.lt
  have hs4r:=hb4.size
  obtain ⟨c0,c1,c2,c3⟩:=r4.four'
  clear hrc rE hon hb4 HRC r4 HS e0
  go_wp2_with fail
  clear c0 c1 c2 c3
  go_loopw[9,30] (fun v9 i wr'=>∃(m:Nat) (rr:List Bool),m≤f.ins.length∧i= .int .i64 m∧Hid (wr'.ownsRow w4.heap.size 4 1 v9 rr.length (bls rr))∧Hid (rr.length=m∧∀(i:Nat) (b:Bool) (c:Int),rr[i]? =some b→f.ins[i]? =some c→(b=true↔Rch L a c))∧Below w4.heap.size w4 wr') (fun _ i _=>f.ins.length-(intOf i).toNat)
  case atStart=>exact ⟨0,[],Nat.zero_le _,rfl,World.ownsRow_nil _ _ _ _,⟨rfl,fun i b c h=>by simp at h⟩,Below.refl _ _⟩
  case round=>
   obtain ⟨m,rr,hm,rfl,HOW,HRR,hB5⟩:=hrel
   have hs5:=hB5.size
   have hBw5:=hBw4.trans (hB5.mono (Nat.le_trans HB3.out.size hs4))
   obtain ⟨A9,c9,hv9,-⟩:=own_rd HOW.out
   subst hv9
   by_cases hlt2:m<f.ins.length
   rotate_left 1
   ·obtain rfl:m=f.ins.length:=by omega
    obtain ⟨vs,h1,h2⟩:=(HS4.out.below hB5).ex
    obtain ⟨A5,c5,hv5,-⟩:=own_rd h1
    subst hv5
    obtain ⟨i0',hi0,hz0,hz1,hz2⟩:=info_parts info_bls
    have H1:=Lib.hid h1
    have H2:=Lib.hid h2
    have hrl:=HO4.out.1
    have hkl:rs.length≤8:=by omega
    have hsz3:w3.heap.size≤wr.heap.size:=by omega
    clear h1 h2 hrl
    go_wp2_with (at_builtin;refine wpList_append_any _ rfl _ _ 42 rfl w3.heap.size 53 i0' _ 1 24 Tryz.underlying42 hi0 hz0 hz1 hz2 rfl (by decide) _ _ vs rfl (H1.out.alloc _) ⟨_,0,none⟩ 1 1 [.slice A9 rr.length c9] rfl rfl (cell_one _ _ _) (by intro u hu;simp at hu;subst hu;rfl) (by unfold maxLen;omega) (by omega) (by first|omega|(simp;omega)) ?_;intro v13 w13 hown13 hg13 hb13)
    have hba:Below wr.heap.size wr (wr.alloc (.cells #[.slice A9 rr.length c9] 53)):=bE
    have hu13:=own_up hg13
    have HS9:Hid (OfS w13 w3.heap.size v13 (rs++ [rr])∧OfIs f (rs++ [rr]) (k+1) L):=⟨OfS.put (H1.out.alloc _) (fun i u r hu hr=>own_below (H2.out i u r hu hr) hba) (own_below (own_base HOW.out hs4) hba) hu13 hown13,by rw[List.length_append,HO4.out.1];rfl,fun o r a' hr ha'=>by
     by_cases hi:o<rs.length
     ·rw[List.getElem?_append_left hi] at hr
      exact HO4.out.2 o r a' hr ha'
     ·rw[List.getElem?_append_right (by omega)] at hr
      have h0:o-rs.length=0:=by
       have:=(List.getElem?_eq_some_iff.1 hr).1
       simp at this
       omega
      rw[h0] at hr
      simp at hr
      subst hr
      have h3:o=k:=by have:=HO4.out.1;omega
      rw[h3,HA.out] at ha'
      cases ha'
      exact ⟨HRR.out.1,HRR.out.2⟩⟩
    have HB9:Hid (Below w3.heap.size w3 w13):=((hB4.trans (hB5.mono hs4)).trans (hba.mono hsz3)).trans (hu13.below (B:=w3.heap.size) (fun j e=>by have:=(H1.out.lt j e).1;omega) (by first|omega|(simp;omega)))
    clear hu13 hown13 hg13 hb13 hba H1 H2 HOW HRR
    go_wp2_with fail
    go_roundw
    case rel=>exact ⟨k+1,_,by omega,by go_num,HS9,HB9.out⟩
    case measure=>simp[intOf];omega
   obtain ⟨bi,oi,c,hAi,hbi,hc,wc',e0⟩:=(HSI.out wr hBw5).int hlt2
   subst hAi
   have hcw:=(HOK.out.2.1.1 c (List.mem_of_getElem? hc)).1
   obtain ⟨cn,hcn⟩:=Int.eq_ofNat_of_zero_le hcw.1
   subst hcn
   have hcl:cn<f.wires.length:=by have h9:(cn:Int)<f.wires.length:=hcw.2;omega
   have hLL:=hHL.out
   have cD:=ds_cell (HRE.out.below hB5 hEl) (n:=cn) (by rw[HON.out];omega)
   have HC:=Lib.hid hc
   obtain ⟨i0',hi0,hz0,hz1,hz2⟩:=info_parts info_tru
   have HBG:=Lib.hid (HRCH.out (cn:Int) (by omega))
   generalize bGet on (cn:Int)=bb at*
   have j0:(0:Int)≤(m:Int):=by omega
   have j1:(m:Int)<(f.ins.length:Int):=by omega
   have j2:(0:Int)≤(cn:Int):=by omega
   have j3:(cn:Int)<(L.length:Int):=by omega
   have hrr:=HRR.out.1
   have HLL:=Lib.hid hLL
   have hrr8:rr.length≤8:=by omega
   clear hc hcw wc' hLL hrr
   go_wp2_with (at_builtin;refine wpList_append_any _ rfl _ _ 53 rfl w4.heap.size 4 i0' _ 1 1 Tryz.underlying53 hi0 hz0 hz1 hz2 rfl (by decide) _ _ _ rfl (HOW.out.alloc _) ⟨_,0,none⟩ 1 1 [.bool bb] rfl rfl (cell_one _ _ _) (by intro u hu;simp at hu;subst hu;rfl) (by unfold maxLen;omega) (by omega) (by first|omega|(simp;omega)) ?_;intro v13 w13 hown13 hg13 hb13)
   have hba:Below wr.heap.size wr (wr.alloc (.cells #[.bool bb] 4)):=bE
   have hu13:=own_up hg13
   have HB9:Hid (Below w4.heap.size w4 w13):=(hB5.trans (hba.mono hs5)).trans (hu13.below (B:=w4.heap.size) (fun j e=>by have:=(HOW.out.lt j e).1;omega) (by first|omega|(simp;omega)))
   have HOW9:Hid (w13.ownsRow w4.heap.size 4 1 v13 (rr++ [bb]).length (bls (rr++ [bb]))):=by
    show World.ownsRow _ _ _ _ _ _ _
    rw[List.length_append]
    simpa[bls] using hown13
   have HRR9:Hid ((rr++ [bb]).length=m+1∧∀(i:Nat) (b:Bool) (c:Int),(rr++ [bb])[i]? =some b→f.ins[i]? =some c→(b=true↔Rch L a c)):=⟨by rw[List.length_append,HRR.out.1];rfl,fun i b c hb hc=>by
    by_cases hi:i<rr.length
    ·rw[List.getElem?_append_left hi] at hb
     exact HRR.out.2 i b c hb hc
    ·rw[List.getElem?_append_right (by omega)] at hb
     have h0:i-rr.length=0:=by
      have:=(List.getElem?_eq_some_iff.1 hb).1
      simp at this
      omega
     rw[h0] at hb
     simp at hb
     subst hb
     have h3:i=m:=by have:=HRR.out.1;omega
     rw[h3,HC.out] at hc
     cases hc
     exact HBG.out⟩
   clear hu13 hown13 hg13 hb13 hba HOW HRR cD e0
   go_wp2_with fail
   go_roundw
   case rel=>exact ⟨m+1,_,by omega,by go_num,HOW9,HRR9,HB9.out⟩
   case measure=>simp[intOf];omega
end Go.Proofs.YtdkgkacnjdnpoaaGreat.Q.Fo
