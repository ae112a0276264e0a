/-
  The contracts of the scanner: next.
-/
import Derived.Test.YtdkgkacnjdnpoaaGreatScnD
import Derived.Deep.CutBlock
import Derived.Shelf.Abstract
set_option maxHeartbeats 1000000
set_option maxRecDepth 100000
namespace Go.Proofs.YtdkgkacnjdnpoaaGreat
open Go.RowKit _root_.Go.Proofs.YtdkgkacnjdnpoaaGreat.Nm
theorem cut_eq {s:ByteArray} {i n:Nat}:s.extract i (i+n)=cutB s i n:=by
 apply ByteArray.ext
 simp only[cutB,ByteArray.data_extract]
 apply Array.ext'
 simp[Array.toList_extract,List.take_drop]
theorem cut_size {s:ByteArray} {i n:Nat} (h:i+n≤s.size):(cutB s i n).size=n:=by
 rw[←cut_eq,ByteArray.size_extract];omega
abbrev tk0 (c:Sc):Array Value:= #[.int .i64 0,.string ⟨#[]⟩,.int .i64 0,.int .i64 c.line,.int .i64 c.col]
abbrev tkZ:Array Value:= #[.int .i64 0,.string ⟨#[]⟩,.int .i64 0,.int .i64 0,.int .i64 0]
theorem runN_le {p:UInt8→Bool} {s:ByteArray} {i:Nat} (h:i≤s.size):i+runN p s i≤s.size:=by
 unfold runN
 have h1:=(List.takeWhile_prefix p (l:=s.data.toList.drop i)).length_le
 have h2:(s.data.toList.drop i).length=s.size-i:=by simp
 omega
theorem tw_all {p:UInt8→Bool}:∀{l:List UInt8} {j:Nat},j<(l.takeWhile p).length→∃c,l[j]? =some c∧p c=true
 | [],j,h=>absurd h (Nat.not_lt_zero _)
 |b::l,j,h=>by
  cases hb:p b with
  |false=>rw[List.takeWhile_cons,hb] at h;exact absurd h (Nat.not_lt_zero _)
  |true=>
   rw[List.takeWhile_cons,hb] at h
   cases j with
   |zero=>exact ⟨b,rfl,hb⟩
   |succ j=>exact tw_all (l:=l) (by simpa using h)
theorem runN_all {p:UInt8→Bool} {s:ByteArray} {i j:Nat} (h:j<runN p s i) (hi:i+j<s.size):p (byt s (i+j))=true:=by
 obtain ⟨c,hc,hp⟩:=tw_all h
 rw[List.getElem?_drop,byt_get hi] at hc
 cases hc
 exact hp
theorem cut_byt {s:ByteArray} {i n j:Nat} (h:j<n):byt (cutB s i n) j=byt s (i+j):=by
 simp only[byt,cutB,List.getD_eq_getElem?_getD]
 rw[List.getElem?_take_of_lt h,List.getElem?_drop]
theorem sgn_le {s:ByteArray} (h:0<s.size):sgnF s.data.toList≤s.size:=by
 unfold sgnF
 cases hc:(decide (2≤s.data.toList.length) && ptwo.contains (s.data.toList.take 2)) with
 |true=>
  have:=(Bool.and_eq_true_iff.1 hc).1
  simp at this
  exact this
 |false=>
  rw[cond_false]
  cases pones.contains (s.data.toList.getD 0 0)
  ·exact Nat.zero_le _
  ·exact h
theorem nextF_l {s:ByteArray} {c c':Sc} {t:Tok} (h:nextF s c=some (t,c')) (hb:letterB (byt s c.i).toNat=true):
  runN alnum s c.i≤20∧t=⟨bif wordB (cutB s c.i (runN alnum s c.i)).data.toList then 4 else 1,cutB s c.i (runN alnum s c.i),0,c.line,c.col⟩∧c'=skp s c (runN alnum s c.i):=by
 unfold nextF at h
 rw[hb,cond_true] at h
 dsimp only at h
 cases hd:decide (runN alnum s c.i≤20) with
 |false=>rw[hd] at h;cases h
 |true=>rw[hd] at h;cases h;exact ⟨of_decide_eq_true hd,rfl,rfl⟩
theorem nextF_d {s:ByteArray} {c c':Sc} {t:Tok} (h:nextF s c=some (t,c')) (hb:letterB (byt s c.i).toNat=false) (hd:digitB (byt s c.i).toNat=true):
  ∃N,numF (cutB s c.i (runN (fun b=>digitB b.toNat) s c.i)).data.toList=some N∧t=⟨2,cutB s c.i (runN (fun b=>digitB b.toNat) s c.i),N,c.line,c.col⟩∧c'=skp s c (runN (fun b=>digitB b.toNat) s c.i):=by
 unfold nextF at h
 rw[hb,hd,cond_false,cond_true] at h
 obtain ⟨N,h1,h2⟩:=Option.map_eq_some_iff.1 h
 cases h2
 exact ⟨N,h1,rfl,rfl⟩
theorem nextF_s {s:ByteArray} {c c':Sc} {t:Tok} (h:nextF s c=some (t,c')) (hb:letterB (byt s c.i).toNat=false) (hd:digitB (byt s c.i).toNat=false):
  0<sgnF (s.data.toList.drop c.i)∧t=⟨3,cutB s c.i (sgnF (s.data.toList.drop c.i)),0,c.line,c.col⟩∧c'=skp s c (sgnF (s.data.toList.drop c.i)):=by
 unfold nextF at h
 rw[hb,hd,cond_false,cond_false] at h
 cases hn:sgnF (s.data.toList.drop c.i)==0 with
 |true=>simp only[hn] at h;cases h
 |false=>
  simp only[hn] at h;cases h
  have:=beq_eq_false_iff_ne.1 hn
  exact ⟨by omega,rfl,rfl⟩
abbrev tkB (c:Sc) (k n:Int):Array Value:= #[.int .i64 k,.string ⟨#[]⟩,.int .i64 n,.int .i64 c.line,.int .i64 c.col]
theorem Upd.narrow {X Y:Nat→Prop} {a w:World} (h:Upd Y a w) (hY:∀k,k<a.heap.size→Y k→X k):Upd X a w:=⟨h.os,h.tape,h.output,h.size,fun k hk hX=>h.block k hk (fun hy=>hX (hY k hk hy))⟩
theorem upd_five (w:World) (g:Nat) (y0 y1 y2 y3 y4:Value):Upd (fun x=>x=g) w (((((w.setCell ⟨g,0,none⟩ y0).setCell ⟨g,1,none⟩ y1).setCell ⟨g,2,none⟩ y2).setCell ⟨g,3,none⟩ y3).setCell ⟨g,4,none⟩ y4):=by
 have h0:Upd (fun x=>x=g) w w:=Upd.refl _ _
 exact ((((h0.setCell (p:=⟨g,0,none⟩) rfl y0).setCell (p:=⟨g,1,none⟩) rfl y1).setCell (p:=⟨g,2,none⟩) rfl y2).setCell (p:=⟨g,3,none⟩) rfl y3).setCell (p:=⟨g,4,none⟩) rfl y4
theorem Row.tk5 {W:World} {b:Nat} {t:TypeId} {x0 x1 x2 x3 x4:Value} (h:Row W b #[x0,x1,x2,x3,x4] t):(W.cell? ⟨b,0,none⟩=some x0∧W.cell? ⟨b,1,none⟩=some x1∧W.cell? ⟨b,2,none⟩=some x2∧W.cell? ⟨b,3,none⟩=some x3∧W.cell? ⟨b,4,none⟩=some x4)∧
  (W.frozen? ⟨b,0,none⟩=false∧W.frozen? ⟨b,1,none⟩=false∧W.frozen? ⟨b,2,none⟩=false∧W.frozen? ⟨b,3,none⟩=false∧W.frozen? ⟨b,4,none⟩=false):=
 ⟨⟨(h.cell 0).trans rfl,(h.cell 1).trans rfl,(h.cell 2).trans rfl,(h.cell 3).trans rfl,(h.cell 4).trans rfl⟩,h.frozen 0,h.frozen 1,h.frozen 2,h.frozen 3,h.frozen 4⟩
theorem next_any (s:ByteArray) (c c':Sc) (t:Tok) (o:Nat) (w:World) (h:ScAt w o s c) (hi:c.i<s.size) (hx:nextF s c=some (t,c')):
  Calls Tryz.prog 83 #[.pointer (some ⟨o,0,none⟩)] w fun r w'=>r= .returned (.tuple #[tokV t,.bool true])∧ScL w o s c' w':=by
 have hio:=h.ok.i
 have hsz:=h.ok.size
 have ho:=h.row.lt
 have b1:Below w.heap.size w ((w.alloc (.cells tkZ 134)).alloc (.cells (tk0 c) 134)):=bE
 have rA:=(Row.new w tkZ 134).alloc (.cells (tk0 c) 134)
 have rB:=Row.new (w.alloc (.cells tkZ 134)) (tk0 c) 134
 have H1:=Lib.hid (show ScAt ((w.alloc (.cells tkZ 134)).alloc (.cells (tk0 c) 134)) o s c from ⟨h.row.below b1 ho,h.ok⟩)
 obtain ⟨⟨q0,q1,q2,q3⟩,-⟩:=h.row.four
 have HX:=Lib.hid hx
 have HB:Hid (byt s c.i=s[c.i]):=byt_at hi
 clear h hx
 go_enter Tryz.func83,Tryz.ntmps83
 go_upto_region 2 with (fail)
 change Code.wp _ _ _ _ ((w.alloc (.cells tkZ 134)).alloc (.cells (tk0 c) 134))
 have rB':Row ((w.alloc (.cells tkZ 134)).alloc (.cells (tk0 c) 134)) (w.heap.size+1) (tk0 c) 134:=by simpa using rB
 clear q0 q1 q2 q3 rB
 generalize (w.alloc (.cells tkZ 134)).alloc (.cells (tk0 c) 134)=W1 at*
 obtain ⟨⟨q0,q1,q2,q3⟩,-⟩:=H1.out.row.four
 go_upto_region 3 with (fail)
 go_region
 go_upto_block 0 with (fail)
 go_cut[5,6] (fun v u W=>∃n:Nat,v= .int .i64 n∧u= .bool true∧c.i+n≤s.size∧Hid (t=⟨t.kind,cutB s c.i n,t.n,c.line,c.col⟩∧c'=skp s c n)∧Row W (w.heap.size+1) (tkB c t.kind t.n) 134∧Upd (fun x=>x=w.heap.size+1) W1 W)
 case first=>
  have hB1:=rB'.frozen 0
  cases hL:letterB s[c.i].toNat with
  |true=>
   obtain ⟨h20,ht,hc'⟩:=nextF_l HX.out (by rw[HB.out];exact hL)
   go_wp2_with fail
   refine (letter_any s[c.i] _).mono ?_
   rintro e w' ⟨rfl,rfl⟩
   rw[hL]
   clear hL
   have HR:=Lib.hid (run_any 129 alnum s c o W1.drew ⟨H1.out.row,H1.out.ok⟩ (enters_of Tryz.func129 (by kernel_rfl) rfl) alnum_any)
   have hle:=runN_le (p:=alnum) hio
   generalize runN alnum s c.i=n at*
   go_wp2_with fail
   refine HR.out.mono ?_
   rintro e w2 ⟨rfl,hb2⟩
   have hd20:decide ((n:Int)≤20)=true:=decide_eq_true (by omega)
   have b2:Below W1.heap.size W1 w2:=Below.trans bE (hb2.mono (Nat.le_refl _))
   obtain ⟨⟨m0,-⟩,mz,-⟩:=(rB'.below b2 rB'.lt).tk5
   go_wp2_with fail
   have r3:Row (w2.setCell ⟨w.heap.size+1,0,none⟩ (.int .i64 1)) (w.heap.size+1) (tkB c 1 0) 134:=by
    have:=(rB'.below b2 rB'.lt).set 0 (.int .i64 1)
    simpa using this
   have u3:Upd (fun x=>x=w.heap.size+1) W1 (w2.setCell ⟨w.heap.size+1,0,none⟩ (.int .i64 1)):=(Upd.of_below (X:=fun x=>x=w.heap.size+1) b2).setCell (p:=⟨w.heap.size+1,0,none⟩) rfl _
   clear hb2 b2 m0 mz q0 q1 q2 q3
   generalize w2.setCell ⟨w.heap.size+1,0,none⟩ (.int .i64 1)=W3 at*
   have HK:Hid (∀W,Below W3.heap.size W3 W→W.cell? ⟨o,0,none⟩=some (.string s)∧W.cell? ⟨o,1,none⟩=some (.int .i64 c.i)):=fun W hW=>by
    have hr:=(u3.row H1.out.row (by omega)).below hW (u3.row H1.out.row (by omega)).lt
    exact ⟨hr.four.1.1,hr.four.1.2.1⟩
   obtain ⟨m,HM⟩:∃m:Nat,Hid (m=c.i+n):=⟨_,Lib.hid rfl⟩
   have hm:IntKind.i64.wrap ((c.i:Int)+n)=(m:Int):=by rw[HM.out,IntWalk.i64_in _ (by omega)];omega
   have hwm:IntKind.i64.wrap (m:Int)=(m:Int):=IntWalk.i64_in _ (by have:=HM.out;omega)
   have hm1:m≤s.size:=by rw[HM.out];exact hle
   have hm2:c.i≤m:=by rw[HM.out];omega
   have HE:Hid ((s.extract c.i m).toList=(cutB s c.i n).data.toList):=by show _=_;rw[HM.out,cut_eq,ByteArray.toList_eq]
   go_upto_region 9 with (fail)
   go_cut[58] (fun v W=>v= .bool (wordB (cutB s c.i n).data.toList)∧Below W3.heap.size W3 W)
   case first=>
    refine wp_region_held_drew (S:=fun W=>W.cell? ⟨o,0,none⟩=some (.string s)∧W.cell? ⟨o,1,none⟩=some (.int .i64 c.i)) (by kernel_rfl) ?_ (fun hHeld=>?_)
    ·(try dsimp only);(first|(with_reducible exact HK.out _ bE))
    refine tk 0 (some 43) rfl ?_
    refine tk 1 (some 44) rfl ?_
    refine tk 2 (some 45) rfl ?_
    refine tk 3 (some 46) rfl ?_
    refine tk 4 (some 47) rfl ?_
    refine tk 5 (some 48) rfl ?_
    refine tk 6 (some 49) rfl ?_
    refine tk 7 (some 50) rfl ?_
    refine tk 8 (some 51) rfl ?_
    refine tk 9 (some 52) rfl ?_
    refine tk 10 (some 53) rfl ?_
    refine tk 11 (some 54) rfl ?_
    refine tk 12 (some 55) rfl ?_
    refine tk 13 (some 56) rfl ?_
    refine tk 14 (some 57) rfl ?_
    refine rd1 15 (some 58) rfl (fun KK hKK=>?_)
    go_simp
    go_at_call 131;refine Calls.mono (word_any _ _) ?_;rintro e w8 ⟨rfl,hb8⟩;(have hb9:Below W3.heap.size W3 w8:=Below.trans bE (hb8.mono lE));(have hs9:=hb9.size)
    (try go_wp2_with fail)
    refine hKK.out _ _ ?_ (fun hHeld=>?_)
    ·(try dsimp only);(first|(with_reducible exact HK.out _ bE))
    clear hKK KK
    try simp only[Act.put,List.setIfInBounds_toArray,List.set_cons_zero,List.set_cons_succ]
    refine wpAnyH_done (by kernel_rfl) ?_ _
    go_wp2_with fail
    go_meet
    exact ⟨by rw[HE.out],bE⟩
   case rest=>
    obtain ⟨rfl,hbc⟩:=hcut
    have rc:=r3.below hbc r3.lt
    have uc:=Upd.trans u3 (Upd.of_below hbc)
    clear HE HK HR
    generalize wordB (cutB s c.i n).data.toList=Q at*
    subst ht
    cases Q
    ·go_wp2_with fail
     go_meet
     exact ⟨n,rfl,rfl,hle,⟨rfl,hc'⟩,rc,uc⟩
    ·obtain ⟨⟨m0,-⟩,mz,-⟩:=rc.tk5
     have r4:Row (wc.setCell ⟨w.heap.size+1,0,none⟩ (.int .i64 4)) (w.heap.size+1) (tkB c 4 0) 134:=by
      have:=rc.set 0 (.int .i64 4)
      simpa using this
     have u4:Upd (fun x=>x=w.heap.size+1) W1 (wc.setCell ⟨w.heap.size+1,0,none⟩ (.int .i64 4)):=uc.setCell (p:=⟨w.heap.size+1,0,none⟩) rfl _
     go_wp2_with fail
     go_meet
     first
     |exact ⟨n,rfl,rfl,hle,⟨rfl,hc'⟩,r4,u4⟩
     |exact ⟨n,rfl,rfl,hle,⟨rfl,hc'⟩,r4.drew,u4.drew⟩
     |exact ⟨n,rfl,rfl,hle,⟨rfl,hc'⟩,r4,u4.drew⟩
  |false=>
   have hLB:letterB (byt s c.i).toNat=false:=by rw[HB.out];exact hL
   cases hD:digitB s[c.i].toNat with
   |true=>
    obtain ⟨N,hN,ht,hc'⟩:=nextF_d HX.out hLB (by rw[HB.out];exact hD)
    have HDG:Hid (digs (cutB s c.i (runN (fun b=>digitB b.toNat) s c.i))):=fun j hj=>by
     have hl:=runN_le (p:=fun b=>digitB b.toNat) hio
     rw[cut_size hl] at hj
     rw[cut_byt hj]
     exact runN_all (p:=fun b=>digitB b.toNat) hj (by omega)
    go_wp2_with fail
    refine (letter_any s[c.i] _).mono ?_
    rintro e w' ⟨rfl,rfl⟩
    rw[hL]
    clear hL
    go_wp2_with fail
    refine (digit_any s[c.i] _).mono ?_
    rintro e w' ⟨rfl,rfl⟩
    rw[hD]
    clear hD
    have HR:=Lib.hid (run_any 130 (fun b=>digitB b.toNat) s c o W1.drew ⟨H1.out.row,H1.out.ok⟩ (enters_of Tryz.func130 (by kernel_rfl) rfl) digit_any)
    have hle:=runN_le (p:=fun b=>digitB b.toNat) hio
    generalize runN (fun b=>digitB b.toNat) s c.i=n at*
    go_wp2_with fail
    refine HR.out.mono ?_
    rintro e w2 ⟨rfl,hb2⟩
    have b2:Below W1.heap.size W1 w2:=Below.trans bE (hb2.mono (Nat.le_refl _))
    obtain ⟨⟨m0,-⟩,mz,-⟩:=(rB'.below b2 rB'.lt).tk5
    go_wp2_with fail
    have r3:Row (w2.setCell ⟨w.heap.size+1,0,none⟩ (.int .i64 2)) (w.heap.size+1) (tkB c 2 0) 134:=by
     have:=(rB'.below b2 rB'.lt).set 0 (.int .i64 2)
     simpa using this
    have u3:Upd (fun x=>x=w.heap.size+1) W1 (w2.setCell ⟨w.heap.size+1,0,none⟩ (.int .i64 2)):=(Upd.of_below (X:=fun x=>x=w.heap.size+1) b2).setCell (p:=⟨w.heap.size+1,0,none⟩) rfl _
    clear hb2 b2 m0 mz q0 q1 q2 q3
    generalize w2.setCell ⟨w.heap.size+1,0,none⟩ (.int .i64 2)=W3 at*
    obtain ⟨⟨q0,q1,-⟩,-⟩:=(u3.row H1.out.row (by omega)).four
    obtain ⟨⟨m0,-,m2,-⟩,mz,-,mz2,-⟩:=r3.tk5
    obtain ⟨m,HM⟩:∃m:Nat,Hid (m=c.i+n):=⟨_,Lib.hid rfl⟩
    have hm:IntKind.i64.wrap ((c.i:Int)+n)=(m:Int):=by rw[HM.out,IntWalk.i64_in _ (by omega)];omega
    have hwm:IntKind.i64.wrap (m:Int)=(m:Int):=IntWalk.i64_in _ (by have:=HM.out;omega)
    have hm1:m≤s.size:=by rw[HM.out];exact hle
    have hm2:c.i≤m:=by rw[HM.out];omega
    have HE:Hid (s.extract c.i m=cutB s c.i n):=by show _=_;rw[HM.out,cut_eq]
    have HNU:Hid (∀W,Calls Tryz.prog 132 #[.string (s.extract c.i m)] W fun r w'=>r= .returned (.tuple #[.int .i64 N,.bool true])∧W=w'):=fun W=>by
     rw[HE.out]
     exact number_any (cutB s c.i n) N W (by rw[cut_size hle];omega) HDG.out hN
    have HKS:Hid (∀u,(W3.setCell ⟨w.heap.size+1,2,none⟩ u).cell? ⟨o,0,none⟩=some (.string s)∧(W3.setCell ⟨w.heap.size+1,2,none⟩ u).cell? ⟨o,1,none⟩=some (.int .i64 c.i)):=fun u=>by
     have hr:=((u3.row H1.out.row (by omega)).far (p:=⟨w.heap.size+1,2,none⟩) (show o≠w.heap.size+1 by omega) u).four
     exact ⟨hr.1.1,hr.1.2.1⟩
    go_upto_region 14 with (fail)
    refine wp_region_held_drew (S:=fun W=>W.cell? ⟨o,0,none⟩=some (.string s)∧W.cell? ⟨o,1,none⟩=some (.int .i64 c.i)) (by kernel_rfl) ?_ (fun hHeld=>?_)
    ·(try dsimp only);(first|exact ⟨q0,q1⟩|exact HKS.out _)
    refine tk 0 (some 67) rfl ?_
    refine tk 1 (some 68) rfl ?_
    refine tk 2 (some 69) rfl ?_
    refine tk 3 (some 70) rfl ?_
    refine tk 4 (some 71) rfl ?_
    refine tk 5 (some 72) rfl ?_
    refine tk 6 (some 73) rfl ?_
    refine tk 7 (some 74) rfl ?_
    refine tk 8 (some 75) rfl ?_
    refine tk 9 (some 76) rfl ?_
    refine tk 10 (some 77) rfl ?_
    refine tk 11 (some 78) rfl ?_
    refine tk 12 (some 79) rfl ?_
    refine tk 13 (some 80) rfl ?_
    refine tk 14 (some 81) rfl ?_
    refine rd1 15 (some 82) rfl (fun KK hKK=>?_)
    go_simp
    go_at_call 132;refine Calls.mono (HNU.out _) ?_;rintro e w8 ⟨rfl,rfl⟩
    (try go_wp2_with fail)
    refine hKK.out _ _ ?_ (fun hHeld=>?_)
    ·(try dsimp only);(first|exact ⟨q0,q1⟩|exact HKS.out _)
    clear hKK KK
    try simp only[Act.put,List.setIfInBounds_toArray,List.set_cons_zero,List.set_cons_succ]
    refine tk 16 (some 66) rfl ?_
    refine tk 17 (some 83) rfl ?_
    refine tk 18 (some 84) rfl ?_
    refine tk 19 (some 85) rfl ?_
    refine rd1 20 none rfl (fun KK hKK=>?_)
    go_simp
    refine hKK.out _ _ ?_ (fun hHeld=>?_)
    ·(try dsimp only);(first|exact ⟨q0,q1⟩|exact HKS.out _)
    clear hKK KK
    try simp only[Act.put,List.setIfInBounds_toArray,List.set_cons_zero,List.set_cons_succ]
    refine tk 21 (some 6) rfl ?_
    refine wpAnyH_done (by kernel_rfl) ?_ _
    have r4:Row (W3.setCell ⟨w.heap.size+1,2,none⟩ (.int .i64 N)).drew (w.heap.size+1) (tkB c 2 N) 134:=by
     have:=(r3.set 2 (.int .i64 N)).drew
     simpa using this
    have u4:Upd (fun x=>x=w.heap.size+1) W1 (W3.setCell ⟨w.heap.size+1,2,none⟩ (.int .i64 N)).drew:=(u3.setCell (p:=⟨w.heap.size+1,2,none⟩) rfl _).drew
    subst ht
    go_wp2_with fail
    go_meet
    first
     |exact ⟨n,rfl,rfl,hle,⟨rfl,hc'⟩,r4,u4⟩
     |exact ⟨n,rfl,rfl,hle,⟨rfl,hc'⟩,r4.drew,u4.drew⟩
     |exact ⟨n,rfl,rfl,hle,⟨rfl,hc'⟩,r4,u4.drew⟩
   |false=>
    obtain ⟨h0,ht,hc'⟩:=nextF_s HX.out hLB (by rw[HB.out];exact hD)
    have HSD:Hid ((s.extract c.i s.size).data.toList=s.data.toList.drop c.i):=by
     show _=_
     rw[ByteArray.data_extract,Array.toList_extract]
     exact List.take_of_length_le (by simp)
    have hz:(s.extract c.i s.size).size=s.size-c.i:=by rw[ByteArray.size_extract];omega
    have HSG:Hid (∀W,Calls Tryz.prog 133 #[.string (s.extract c.i s.size)] W fun r w'=>r= .returned (.int .i64 (sgnF (s.data.toList.drop c.i)))∧W=w'):=fun W=>by
     rw[←HSD.out]
     exact tsign_any _ W (by omega) (by omega)
    have hle:c.i+sgnF (s.data.toList.drop c.i)≤s.size:=by
     have:=sgn_le (s:=s.extract c.i s.size) (by omega)
     rw[HSD.out] at this
     omega
    clear hz
    go_wp2_with fail
    refine (letter_any s[c.i] _).mono ?_
    rintro e w' ⟨rfl,rfl⟩
    rw[hL]
    clear hL
    go_wp2_with fail
    refine (digit_any s[c.i] _).mono ?_
    rintro e w' ⟨rfl,rfl⟩
    rw[hD]
    clear hD
    generalize sgnF (s.data.toList.drop c.i)=n at*
    have hd0:decide ((0:Int)<(n:Int))=true:=decide_eq_true (by omega)
    obtain ⟨⟨m0,-⟩,mz,-⟩:=rB'.tk5
    go_wp2_with fail
    refine wp_region_held_drew (S:=fun W=>W.cell? ⟨o,0,none⟩=some (.string s)∧W.cell? ⟨o,1,none⟩=some (.int .i64 c.i)) (by kernel_rfl) ?_ (fun hHeld=>?_)
    ·(try dsimp only);(first|exact ⟨q0,q1⟩)
    refine tk 0 (some 22) rfl ?_
    refine tk 1 (some 23) rfl ?_
    refine tk 2 (some 24) rfl ?_
    refine tk 3 (some 25) rfl ?_
    refine tk 4 (some 26) rfl ?_
    refine tk 5 (some 27) rfl ?_
    refine tk 6 (some 28) rfl ?_
    refine tk 7 (some 29) rfl ?_
    refine tk 8 (some 30) rfl ?_
    refine rd1 9 (some 31) rfl (fun KK hKK=>?_)
    go_simp
    go_at_call 133;refine Calls.mono (HSG.out _) ?_;rintro e w8 ⟨rfl,rfl⟩
    (try go_wp2_with fail)
    refine hKK.out _ _ ?_ (fun hHeld=>?_)
    ·(try dsimp only);(first|exact ⟨q0,q1⟩)
    clear hKK KK
    try simp only[Act.put,List.setIfInBounds_toArray,List.set_cons_zero,List.set_cons_succ]
    refine tk 10 (some 5) rfl ?_
    refine wpAnyH_done (by kernel_rfl) ?_ _
    have r4:Row (W1.setCell ⟨w.heap.size+1,0,none⟩ (.int .i64 3)).drew (w.heap.size+1) (tkB c 3 0) 134:=by
     have:=(rB'.set 0 (.int .i64 3)).drew
     simpa using this
    have u4:Upd (fun x=>x=w.heap.size+1) W1 (W1.setCell ⟨w.heap.size+1,0,none⟩ (.int .i64 3)).drew:=((Upd.refl (fun x=>x=w.heap.size+1) W1).setCell (p:=⟨w.heap.size+1,0,none⟩) rfl _).drew
    subst ht
    go_wp2_with fail
    go_meet
    first
     |exact ⟨n,rfl,rfl,hle,⟨rfl,hc'⟩,r4,u4⟩
     |exact ⟨n,rfl,rfl,hle,⟨rfl,hc'⟩,r4.drew,u4.drew⟩
     |exact ⟨n,rfl,rfl,hle,⟨rfl,hc'⟩,r4,u4.drew⟩
 case rest=>
  obtain ⟨n,rfl,rfl,hn,HT,hB,hU⟩:=hcut
  have H2:Hid (ScAt wc o s c):=⟨hU.row H1.out.row (by omega),H1.out.ok⟩
  have hA:=hU.row rA (by omega)
  obtain ⟨⟨q0,q1,q2,q3⟩,-⟩:=H2.out.row.four
  have z1:=hB.frozen 1
  have y1:wc.cell? ⟨w.heap.size+1,1,none⟩=some (.string ⟨#[]⟩):=(hB.cell 1).trans rfl
  go_upto_region 15 with (fail)
  go_region
  rw[cut_eq]
  have r3:Row ((wc.setCell ⟨w.heap.size+1,1,none⟩ (.string (cutB s c.i n))).drew) (w.heap.size+1) (tokA ⟨t.kind,cutB s c.i n,t.n,c.line,c.col⟩) 134:=by
   have:=(hB.set 1 (.string (cutB s c.i n))).drew
   simpa using this
  have u3:Upd (fun x=>x=w.heap.size+1) W1 ((wc.setCell ⟨w.heap.size+1,1,none⟩ (.string (cutB s c.i n))).drew):=(hU.setCell (p:=⟨w.heap.size+1,1,none⟩) rfl _).drew
  have HSK:=Lib.hid (skip_any s c n o _ ⟨u3.row H1.out.row (by omega),H1.out.ok⟩ hn)
  have hA3:=u3.row rA (by omega)
  clear hA hB hU y1 z1 q0 q1 q2 q3 H2
  generalize (wc.setCell ⟨w.heap.size+1,1,none⟩ (.string (cutB s c.i n))).drew=W3 at*
  go_wp2_with fail
  refine HSK.out.mono ?_
  rintro r w4 ⟨rfl,ha4,hu4⟩
  have r4:=hu4.row r3 (by omega)
  have hA4:=hu4.row hA3 (by omega)
  obtain ⟨⟨x0,x1,x2,x3,x4⟩,-⟩:=r4.tk5
  obtain ⟨⟨y0,y1,y2,y3,y4⟩,z0,z1,z2,z3,z4⟩:=hA4.tk5
  have HU:Hid (Upd (fun x=>x=o∨w.heap.size≤x) w w4):=Upd.trans (Upd.narrow (Y:=fun _=>False) (Upd.of_below b1) (fun k _ h=>h.elim)) (Upd.trans (Upd.mono u3 (fun k h=>Or.inr (by omega))) (Upd.mono hu4 (fun k h=>Or.inl h)))
  go_wp2_with fail
  have u5:=upd_five w4 w.heap.size (.int .i64 t.kind) (.string (cutB s c.i n)) (.int .i64 t.n) (.int .i64 c.line) (.int .i64 c.col)
  refine bodyPost_ret (res2 (p:=2) (q:=3) (u:= .bool true) rfl Tryz.underlying134 rfl (by kernel_rfl) rfl rfl (Row.set5 hA4 _ _ _ _ _)) rfl ⟨congrArg (fun x=>Ending.returned (.tuple #[tokV x,.bool true])) HT.out.1.symm,⟨?_,?_⟩,?_⟩
  ·rw[HT.out.2];exact u5.row ha4.row (by omega)
  ·rw[HT.out.2];exact ha4.ok
  ·exact Upd.narrow (HU.out.trans (Upd.mono u5 (fun k h=>Or.inr (by omega)))) (fun k hk h=>by omega)
end Go.Proofs.YtdkgkacnjdnpoaaGreat
