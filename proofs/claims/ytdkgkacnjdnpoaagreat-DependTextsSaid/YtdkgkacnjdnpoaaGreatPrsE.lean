/-
  What lies in the blocks from one on; the contracts of show.Strength and of the parser: compare, infix, made. Rows of expressions made by the parser; the contract of the parser's call, of one part. The contract of the parser's primary: a number, a name, a call.
-/
import Derived.Test.YtdkgkacnjdnpoaaGreatZz
import Derived.Test.YtdkgkacnjdnpoaaGreatPrsB
set_option maxHeartbeats 1000000
set_option maxRecDepth 100000
namespace Go.Proofs.YtdkgkacnjdnpoaaGreat
open Go.RowKit _root_.Go.Proofs.YtdkgkacnjdnpoaaGreat.Nm
def hide (B:Nat) (w:World):World:={w with heap:=(w.heap.mapIdx fun i o=>if i<B then .map #[] 0 else o)}
section
variable {B B' hi:Nat} {w w':World}
theorem hide_size:(hide B w).heap.size=w.heap.size:=by simp[hide]
theorem hide_block {k:Nat} (h:B≤k):(hide B w).heap[k]? =w.heap[k]? :=by
 simp only[hide,Array.getElem?_mapIdx]
 cases hk:w.heap[k]? with
 |none=>rfl
 |some o=>simp only[Option.map_some];rw[if_neg (by omega)]
theorem hide_cell {p:Addr} {u:Value} (h:(hide B w).cell? p=some u):w.cell? p=some u:=by
 by_cases hp:B≤p.block
 ·rw[←h];exact (World.cell?_of_block (hide_block hp)).symm
 ·simp only[World.cell?,hide,Array.getElem?_mapIdx] at h
  cases hk:w.heap[p.block]? with
  |none=>rw[hk] at h;cases h
  |some o=>rw[hk] at h;simp only[Option.map_some] at h;rw[if_pos (by omega)] at h;cases h
theorem hide_more (hB:B'≤B) (hi:Nat) (w:World):Keeps hi (hide B w) (hide B' w):=fun p u _ h=>by
 by_cases hp:B≤p.block
 ·rw[←h]
  exact (World.cell?_of_block ((hide_block (Nat.le_trans hB hp)).trans (hide_block hp).symm))
 ·exfalso
  simp only[World.cell?,hide,Array.getElem?_mapIdx] at h
  cases hk:w.heap[p.block]? with
  |none=>rw[hk] at h;cases h
  |some o=>rw[hk] at h;simp only[Option.map_some] at h;rw[if_pos (by omega)] at h;cases h
theorem Upd.bhide {X:Nat→Prop} (h:Upd X w w') (hX:∀k,X k→k<B∨hi≤k) (hh:hi≤w.heap.size):Below hi (hide B w) (hide B w'):=by
 refine ⟨h.os,h.tape,h.output,by rw[hide_size,hide_size];exact h.size,fun k hk=>?_⟩
 by_cases hB:B≤k
 ·rw[hide_block hB,hide_block hB]
  exact h.block k (by omega) (fun hx=>by have:=hX k hx;omega)
 ·simp only[hide,Array.getElem?_mapIdx]
  rw[Array.getElem?_eq_getElem (show k<w.heap.size by omega),Array.getElem?_eq_getElem (show k<w'.heap.size by have:=h.size;omega)]
  simp only[Option.map_some]
  rw[if_pos (by omega),if_pos (by omega)]
end
abbrev ExH (w:World) (lo hi:Nat) (e:Ex) (A:Option Addr) (cap:Nat):Prop:=IsEx (hide lo w) hi e (exCells e A cap)
theorem ExH.upd {X:Nat→Prop} {w w':World} {lo hi:Nat} {e:Ex} {A:Option Addr} {cap:Nat} (h:ExH w lo hi e A cap) (hu:Upd X w w') (hX:∀k,X k→k<lo∨hi≤k) (hh:hi≤w.heap.size):ExH w' lo hi e A cap:=IsEx.below h (hu.bhide hX hh)
theorem ExH.wide {w:World} {lo lo' hi hi':Nat} {e:Ex} {A:Option Addr} {cap:Nat} (h:ExH w lo hi e A cap) (hl:lo'≤lo) (hh:hi≤hi'):ExH w lo' hi' e A cap:=IsEx.more hh (IsEx.keepS (hide_more hl hi w) h)
theorem str_any (op:Int) (hop:op=0∨op=23∨op=22∨op=7) (w:World):Calls Tryz.prog 174 #[.int .i64 op] w fun r w'=>r= .returned (.int .i64 (pstr op))∧w=w':=by
 rcases hop with rfl|rfl|rfl|rfl
 all_goals
  go_enter Tryz.func174,Tryz.ntmps174
  go_wp2_with fail
  go_ret
  exact ⟨rfl,rfl⟩
theorem cmp_any (s:ByteArray) (w:World) (h:∀x∈([[61],[60,62],[60],[60,61],[62],[62,61]]:List (List UInt8)),(s.toList==x)=false):
  Calls Tryz.prog 190 #[.string s] w fun r w'=>r= .returned (.int .i64 0)∧w=w':=by
 have h1:=h [61] (by simp)
 have h2:=h [60,62] (by simp)
 have h3:=h [60] (by simp)
 have h4:=h [60,61] (by simp)
 have h5:=h [62] (by simp)
 have h6:=h [62,61] (by simp)
 go_enter Tryz.func190,Tryz.ntmps190
 go_wp2_with fail
 go_ret
 exact ⟨rfl,rfl⟩
theorem pinf_is {t:Tok} {op:Int} (h:pinf t=some op):((t.kind==3||t.kind==4)=false∧op=0)∨((t.kind==3||t.kind==4)=true∧((t.text.toList=[45,62]∧op=23)∨(t.text.toList=[102,98,121]∧op=22)∨(t.text.toList=[43]∧op=7)∨
  ((∀x∈[45,62]:: [102,98,121]:: [43]::popN,(t.text.toList==x)=false)∧op=0))):=by
 unfold pinf at h
 rw[←ByteArray.toList_eq] at h
 cases hk:(t.kind==3||t.kind==4) with
 |false=>rw[hk] at h;cases h;exact .inl ⟨rfl,rfl⟩
 |true=>
  rw[hk,cond_true] at h
  refine .inr ⟨rfl,?_⟩
  cases h1:t.text.toList==[45,62] with
  |true=>rw[h1] at h;cases h;exact .inl ⟨beq_iff_eq.1 h1,rfl⟩
  |false=>
   cases h2:t.text.toList==[102,98,121] with
   |true=>rw[h1,h2] at h;cases h;exact .inr (.inl ⟨beq_iff_eq.1 h2,rfl⟩)
   |false=>
    cases h3:t.text.toList==[43] with
    |true=>rw[h1,h2,h3] at h;cases h;exact .inr (.inr (.inl ⟨beq_iff_eq.1 h3,rfl⟩))
    |false=>
     cases h4:popN.contains t.text.toList with
     |true=>rw[h1,h2,h3,h4] at h;cases h
     |false=>
      rw[h1,h2,h3,h4] at h;cases h
      refine .inr (.inr (.inr ⟨fun x hx=>?_,rfl⟩))
      rcases List.mem_cons.1 hx with rfl|hx
      ·exact h1
      rcases List.mem_cons.1 hx with rfl|hx
      ·exact h2
      rcases List.mem_cons.1 hx with rfl|hx
      ·exact h3
      rw[beq_eq_false_iff_ne]
      rintro e
      rw[e] at h4
      have:popN.contains x=true:=List.contains_iff_mem.2 hx
      rw[this] at h4;cases h4
theorem field_tk0 (t:Tok) (W:World):(Instr.field 134 (.agg #[.int .i64 t.kind,.string t.text,.int .i64 t.n,.int .i64 t.line,.int .i64 t.col]) 0).run Tryz.prog W= .ok (.int .i64 t.kind) W:=by kernel_rfl
theorem field_tk1 (t:Tok) (W:World):(Instr.field 134 (.agg #[.int .i64 t.kind,.string t.text,.int .i64 t.n,.int .i64 t.line,.int .i64 t.col]) 1).run Tryz.prog W= .ok (.string t.text) W:=by kernel_rfl
theorem field_tk3 (t:Tok) (W:World):(Instr.field 134 (.agg #[.int .i64 t.kind,.string t.text,.int .i64 t.n,.int .i64 t.line,.int .i64 t.col]) 3).run Tryz.prog W= .ok (.agg #[.int .i64 t.line,.int .i64 t.col]) W:=by kernel_rfl
attribute [local go_sem] field_tk0 field_tk1 field_tk3
theorem pinf_any {P:Pr} {o i:Nat} {w:World} (h:PrAt w o P i) {t:Tok} (ht:P.l[i]? =some t) {op:Int} (hop:pinf t=some op):
  Calls Tryz.prog 173 #[.pointer (some ⟨o,0,none⟩)] w fun r w'=>r= .returned (.tuple #[.int .i64 op,.int .i64 (pneed op)])∧Below w.heap.size w w':=by
 have HN:Hid (∀W,Below w.heap.size w W→Calls Tryz.prog 52 #[.pointer (some ⟨o,0,none⟩)] W fun r w'=>r= .returned (tokV t)∧Below W.heap.size W w'):=fun W hW=>now_any (h.bel hW) ht
 have hb0:Below w.heap.size w w:=Below.refl _ _
 have HT:=pinf_is hop
 clear h hop
 obtain ⟨B1,h1⟩:∃B,(t.kind==3)=B:=⟨_,rfl⟩
 obtain ⟨B2,h2⟩:∃B,(t.kind==4)=B:=⟨_,rfl⟩
 rw[h1,h2] at HT
 have h1':(t.kind !=3)= !B1:=by rw[bne,h1]
 have h2':(t.kind !=4)= !B2:=by rw[bne,h2]
 clear h1 h2
 rcases HT with ⟨hk,rfl⟩|⟨hk,hc⟩
 ·obtain ⟨rfl,rfl⟩:=Bool.or_eq_false_iff.1 hk
  refine' zq168
  go_wp2_with (first|((go_at_call 52);(refine (HN.out _ (by assumption)).mono ?_);(rintro r w2 ⟨rfl,hb2⟩);(have hb3:=Below.trans (by assumption:Below w.heap.size w _) (hb2.mono (by assumption:Below w.heap.size w _).size));clear hb2))
  go_ret2
  exact ⟨rfl,by assumption⟩
 ·rcases hc with ⟨ht,rfl⟩|⟨ht,rfl⟩|⟨ht,rfl⟩|⟨ht,rfl⟩
  case inr.inr.inr=>
   have HC:Hid (∀W,Calls Tryz.prog 190 #[.string t.text] W fun r w'=>r= .returned (.int .i64 0)∧W=w'):=fun W=>cmp_any t.text W (fun x hx=>ht x (by
    have:∀x∈([[61],[60,62],[60],[60,61],[62],[62,61]]:List (List UInt8)),x∈[45,62]:: [102,98,121]:: [43]::popN:=by decide
    exact this x hx))
   have n0:=ht [45,62] (by decide)
   have n1:=ht [102,98,121] (by decide)
   have n2:=ht [43] (by decide)
   have n3:=ht [119,104,101,110] (by decide)
   have n4:=ht [111,114] (by decide)
   have n5:=ht [120,111,114] (by decide)
   have n6:=ht [97,110,100] (by decide)
   have n7:=ht [45] (by decide)
   have n8:=ht [42] (by decide)
   have n9:=ht [47] (by decide)
   have n10:=ht [37] (by decide)
   clear ht
   cases B1
   ·obtain rfl:B2=true:=hk
    refine' zq47
   ·refine' zq47
  all_goals
   have hp1:((pstr 23:Nat):Int)=1:=rfl
   have hp2:((pstr 22:Nat):Int)=2:=rfl
   cases B1
   ·obtain rfl:B2=true:=hk
    refine' zq63
   ·refine' zq63
abbrev exZ6:Array Value:= #[.int .i64 0,.string ⟨#[]⟩,.int .i64 0,.slice none 0 0,.int .i64 0,.int .i64 0]
theorem Row.e6 {W:World} {b:Nat} {x0 x1 x2 x3 x4 x5:Value} {t:TypeId} (h:Row W b #[x0,x1,x2,x3,x4,x5] t):(W.cell? ⟨b,0,none⟩=some x0∧W.cell? ⟨b,1,none⟩=some x1∧W.cell? ⟨b,2,none⟩=some x2∧W.cell? ⟨b,3,none⟩=some x3∧W.cell? ⟨b,4,none⟩=some x4∧W.cell? ⟨b,5,none⟩=some x5)∧
  (W.frozen? ⟨b,0,none⟩=false∧W.frozen? ⟨b,1,none⟩=false∧W.frozen? ⟨b,2,none⟩=false∧W.frozen? ⟨b,3,none⟩=false∧W.frozen? ⟨b,4,none⟩=false∧W.frozen? ⟨b,5,none⟩=false):=
 ⟨⟨(h.cell 0).trans rfl,(h.cell 1).trans rfl,(h.cell 2).trans rfl,(h.cell 3).trans rfl,(h.cell 4).trans rfl,(h.cell 5).trans rfl⟩,h.frozen 0,h.frozen 1,h.frozen 2,h.frozen 3,h.frozen 4,h.frozen 5⟩
theorem Row.e6set {W:World} {b:Nat} {t:TypeId} {z0 z1 z2 z3 z4 z5:Value} (h:Row W b #[z0,z1,z2,z3,z4,z5] t) (x0 x1 x2 x3 x4 x5:Value):Row ((((((W.setCell ⟨b,0,none⟩ x0).setCell ⟨b,1,none⟩ x1).setCell ⟨b,2,none⟩ x2).setCell ⟨b,3,none⟩ x3).setCell ⟨b,4,none⟩ x4).setCell ⟨b,5,none⟩ x5) b #[x0,x1,x2,x3,x4,x5] t:=by
 have:=(((((h.set 0 x0).set 1 x1).set 2 x2).set 3 x3).set 4 x4).set 5 x5
 simpa using this
theorem upd_six (w:World) (g:Nat) (y0 y1 y2 y3 y4 y5:Value):Upd (fun x=>x=g) w ((((((w.setCell ⟨g,0,none⟩ y0).setCell ⟨g,1,none⟩ y1).setCell ⟨g,2,none⟩ y2).setCell ⟨g,3,none⟩ y3).setCell ⟨g,4,none⟩ y4).setCell ⟨g,5,none⟩ y5):=
 (upd_five w g y0 y1 y2 y3 y4).setCell (p:=⟨g,5,none⟩) rfl y5
theorem phgt_snoc (l:List Nat) (n:Nat):phgt (l++ [n])=max (phgt l) (n+1):=by simp[phgt]
theorem made_any (o:Nat) (e:Ex) (A:Option Addr) (cap:Nat) (hs:List Nat) (v:Value) (w:World) (hv:SlV w w.heap.size 1 isInt v (hs.map fun n:Nat=>(n:Int))) (hh:phgt hs≤30) (hb:∀n∈hs,n≤100):
  Calls Tryz.prog 175 #[.pointer (some ⟨o,0,none⟩),exV e A cap,v] w fun r w'=>r= .returned (.tuple #[exV e A cap,.int .i64 (phgt hs)])∧Below w.heap.size w w':=by
 obtain ⟨Ah,ch,rfl,hl,hm,hsl⟩:=hv
 have b1:Below w.heap.size w ((w.alloc (.cells (exA e A cap) 63)).alloc (.cells exZ6 63)):=bE
 have rE:=(Row.new w (exA e A cap) 63).alloc (.cells exZ6 63)
 have rZ:Row ((w.alloc (.cells (exA e A cap) 63)).alloc (.cells exZ6 63)) (w.heap.size+1) exZ6 63:=by
  have:=Row.new (w.alloc (.cells (exA e A cap) 63)) exZ6 63
  simpa using this
 have HS:=Lib.hid (hsl.below b1)
 rw[List.length_map] at hl⊢
 unfold maxLen at hm
 clear hsl
 go_enter Tryz.func175,Tryz.ntmps175
 go_upto_region 1 with (fail)
 change Code.wp _ _ _ _ ((w.alloc (.cells (exA e A cap) 63)).alloc (.cells exZ6 63))
 generalize (w.alloc (.cells (exA e A cap) 63)).alloc (.cells exZ6 63)=W1 at*
 obtain ⟨⟨q0,q1,q2,q3,q4,q5⟩,-⟩:=Row.e6 rE
 obtain ⟨⟨x0,x1,x2,x3,x4,x5⟩,z0,z1,z2,z3,z4,z5⟩:=Row.e6 rZ
 have hhb:∀k,k≤hs.length→phgt (hs.take k)≤101:=by
  intro k _
  have:∀(l:List Nat),(∀n∈l,n≤100)→∀a,a≤101→l.foldl (fun h n=>max h (n+1)) a≤101:=by
   intro l
   induction l with
   |nil=>intro _ a ha;exact ha
   |cons x l ih=>intro h a ha;exact ih (fun n hn=>h n (by simp[hn])) _ (by have:=h x (by simp);show max a (x+1)≤101;omega)
  exact this _ (fun n hn=>hb n (List.mem_of_mem_take hn)) 1 (by omega)
 have HHB:=Lib.hid hhb
 have HBN:=Lib.hid hb
 clear hhb hb
 go_wp2_with fail
 go_loopw[8,13] (fun v i wr=>∃k:Nat,k≤hs.length∧v= .int .i64 (phgt (hs.take k))∧i= .int .i64 k∧wr=W1) (fun _ i _=>hs.length-(intOf i).toNat)
 case atStart=>exact ⟨0,Nat.zero_le _,rfl,rfl,rfl⟩
 case round=>
  obtain ⟨k,hk,rfl,rfl,rfl⟩:=hrel
  by_cases hlt:k<hs.length
  ·obtain ⟨b,off,x,rfl,hbb,hx,-,d0⟩:=HS.out.int (k:=k) (by simpa using hlt)
   have hx':x=(hs[k]:Int):=by
    rw[List.getElem?_map,List.getElem?_eq_getElem hlt] at hx
    exact (Option.some.inj hx).symm
   subst hx'
   have hn:=HBN.out hs[k] (List.getElem_mem hlt)
   have HT:Hid (phgt (hs.take (k+1))=max (phgt (hs.take k)) (hs[k]+1)):=by
    show _=_
    rw[List.take_add_one,List.getElem?_eq_getElem hlt]
    exact phgt_snoc _ _
   have hq:=HHB.out k hk
   generalize hs[k]=m at*
   generalize phgt (hs.take k)=h0 at*
   go_wp2_with fail
   go_roundw
   case rel=>exact ⟨k+1,by omega,by rw[HT.out];exact congrArg (Value.int .i64) (by omega),by go_num,trivial⟩
   case measure=>simp[intOf];omega
  ·obtain rfl:k=hs.length:=by omega
   rw[List.take_length]
   have h30:decide ((30:Int)<(phgt hs:Int))=false:=decide_eq_false (by omega)
   go_wp2_with fail
   have u6:=upd_six wr (w.heap.size+1) (.int .i64 e.op) (.string e.name) (.int .i64 e.n) (.slice A e.args.length cap) (.int .i64 e.line) (.int .i64 e.col)
   have rF:=Row.e6set rZ (.int .i64 e.op) (.string e.name) (.int .i64 e.n) (.slice A e.args.length cap) (.int .i64 e.line) (.int .i64 e.col)
   refine bodyPost_ret (res2 (p:=6) (q:=7) (u:= .int .i64 (phgt hs)) rfl Tryz.underlying63 rfl (by kernel_rfl) rfl rfl rF) rfl ⟨rfl,?_⟩
   exact b1.trans (Upd.below u6 (fun k e=>by omega) b1.size)
theorem exs_row {W:World} {lo hi g:Nat} {l:List Ex} {css:List (List Value)} {t:TypeId} (hr:Row W g css.flatten.toArray t) (hg:lo≤g) (hx:ExsAre (hide lo W) hi l css) (hh:hi≤W.heap.size):IsExs (hide lo W) W.heap.size (some ⟨g,0,none⟩) l:=by
 refine' zq85
 rw[World.cell?_of_block (show (hide lo W).heap[(⟨g,0+i*6+j,none⟩:Addr).block]? =W.heap[g]? from hide_block hg),hr.cell,List.getElem?_toArray,Nat.zero_add,flatten_get hx.six (List.getElem?_eq_getElem hil) hj]
 exact hu
theorem own_hide {W:World} {lo base n size:Nat} {e:TypeId} {v:Value} {xs:List Value} (h:W.ownsRow base e size v n xs) (hb:lo≤base):(hide lo W).ownsRow base e size v n xs:=by
 have hlt:=h.lt
 refine ⟨h.1,?_⟩
 rcases h.2 with h0|⟨g,c,cur,h1,h2,h3,h4⟩
 ·exact .inl h0
 ·have hg:=hlt g (by rw[h1];rfl)
  exact .inr ⟨g,c,cur,h1,h2,(hide_block (by omega)).trans h3,h4⟩
theorem exOk_of {t:Tok} (h:TokOk t) {op n:Int} {nm:ByteArray} {l:List Ex} (h1:Wf op) (h2:nm.size≤5000) (h3:Wf n):ExOk ⟨op,nm,n,l,t.line,t.col⟩:=
 ⟨h1,Nat.le_trans h2 (by unfold maxLen;omega),h3,wf_of ⟨by have:=h.line;show _≤t.line;omega,by have:=h.line;show t.line≤_;omega⟩,wf_of ⟨by have:=h.col;show _≤t.col;omega,by have:=h.col;show t.col≤_;omega⟩⟩
def ExRes (w:World) (o:Nat) (P:Pr) (e:Ex) (h j:Nat) (r:Ending) (w':World):Prop:=
 ∃A cap,r= .returned (.tuple #[exV e A cap,.int .i64 h])∧ExH w' w.heap.size w'.heap.size e A cap∧h≤30∧PrL w o P j w'
theorem ExRes.fin {w w1:World} {o i j Z lo hi h:Nat} {P:Pr} {e:Ex} {A:Option Addr} {cap:Nat} (h0:PrAt w o P i) (rO:Row w1 o (prA P j) 130) (u:Upd (fun x=>x=o∨w.heap.size≤x) w w1) (hZ:w.heap.size≤Z) (hx:ExH w1 lo hi e A cap) (hl:w.heap.size≤lo) (hh:hi≤w1.heap.size) (hz:Z<lo∨hi≤Z) (h30:h≤30):
  ExRes w o P e h j (.returned (.tuple #[exV e A cap,.int .i64 h])) ((((((w1.setCell ⟨Z,0,none⟩ (.int .i64 e.op)).setCell ⟨Z,1,none⟩ (.string e.name)).setCell ⟨Z,2,none⟩ (.int .i64 e.n)).setCell ⟨Z,3,none⟩ (.slice A e.args.length cap)).setCell ⟨Z,4,none⟩ (.int .i64 e.line)).setCell ⟨Z,5,none⟩ (.int .i64 e.col)):=by
 refine' zq176
 refine ⟨A,cap,rfl,(hx.upd u6 (fun k e=>by omega) hh).wide hl (by omega),h30,h0.fin (u6.row rO (by omega)) ((u.trans (u6.mono (fun k e=>Or.inr (by omega)))).narrow (fun k hk e=>by omega))⟩
def ExC (f:Nat):Prop:=∀(P:Pr) (o i least level:Nat) (w:World) (e:Ex) (h j:Nat),PrAt w o P i→pexpr P.l f least level i=some (e,h,j)→least≤100→level≤100→
 Calls Tryz.prog 136 #[.pointer (some ⟨o,0,none⟩),.int .i64 least,.int .i64 level] w (ExRes w o P e h j)
theorem pcall_is {P:List Tok} {rec:Nat→Nat→Nat→PExR} {level i:Nat} {x:Ex × Nat × Nat} (h:pcall P rec level i=some x):∃i1 j1,pwant P [40] i=some i1∧rec 0 (level+1) i1=some (x.1,x.2.1,j1)∧pnot P [44] j1=some ()∧pwant P [41] j1=some x.2.2:=by
 obtain ⟨i1,h1,h⟩:=Option.bind_eq_some_iff.1 h
 obtain ⟨y,h2,h⟩:=Option.bind_eq_some_iff.1 h
 obtain ⟨_,h3,h⟩:=Option.bind_eq_some_iff.1 h
 obtain ⟨j,h4,h⟩:=Option.bind_eq_some_iff.1 h
 cases h
 exact ⟨i1,y.2.2,h1,h2,h3,h4⟩
theorem info_ex:(Tryz.prog.info? 63).map (fun i=>(i.zero,i.size,i.bytes))=some (some (.agg exZ6),6,72):=by kernel_rfl
theorem below_none {w w':World} (h:w.grownBy w' none):Below w.heap.size w w':=⟨h.os,h.tape,h.output,h.size,fun k hk=>h.block k hk (by simp)⟩
theorem exC_one (e:Ex) (A:Option Addr) (cap:Nat):∀u∈exCells e A cap,u.oneCell'=true:=by
 intro u hu
 simp only[exCells,List.mem_cons,List.not_mem_nil,or_false] at hu
 rcases hu with rfl|rfl|rfl|rfl|rfl|rfl<;>rfl
theorem call_any {f:Nat} (IH:ExC f) {P:Pr} {o i level:Nat} {w:World} (h:PrAt w o P i) {t:Tok} (htk:TokOk t) {x:Ex × Nat × Nat} (hx:pcall P.l (pexpr P.l f) level i=some x) (hh:phgt [x.2.1]≤30) (hlv:level≤64):
  Calls Tryz.prog 197 #[.pointer (some ⟨o,0,none⟩),exV ⟨4,t.text,0,[],t.line,t.col⟩ none 0,.int .i64 level] w (ExRes w o P ⟨4,t.text,0,[x.1],t.line,t.col⟩ (phgt [x.2.1]) x.2.2):=by
 obtain ⟨i1,j1,hp1,hp2,hp3,hp4⟩:=pcall_is hx
 clear hx
 obtain ⟨i0,hi0,hz0,hz1,hz2⟩:=info_parts info_ex
 obtain ⟨n0,hn0,hy0,hy1,hy2⟩:=info_parts info_int
 have b1:Below w.heap.size w ((w.alloc (.cells (exA ⟨4,t.text,0,[],t.line,t.col⟩ none 0) 63)).alloc (.cells exZ6 63)):=bE
 have rE:=(Row.new w (exA ⟨4,t.text,0,[],t.line,t.col⟩ none 0) 63).alloc (.cells exZ6 63)
 have rZ:Row ((w.alloc (.cells (exA ⟨4,t.text,0,[],t.line,t.col⟩ none 0) 63)).alloc (.cells exZ6 63)) (w.heap.size+1) exZ6 63:=by
  have:=Row.new (w.alloc (.cells (exA ⟨4,t.text,0,[],t.line,t.col⟩ none 0) 63)) exZ6 63
  simpa using this
 have H0:=Lib.hid h
 have hol:=h.lt
 have HX:=Lib.hid hp2
 clear h hp2
 go_enter Tryz.func197,Tryz.ntmps197
 go_upto_region 1 with (fail)
 change Code.wp _ _ _ _ ((w.alloc (.cells (exA ⟨4,t.text,0,[],t.line,t.col⟩ none 0) 63)).alloc (.cells exZ6 63))
 generalize (w.alloc (.cells (exA ⟨4,t.text,0,[],t.line,t.col⟩ none 0) 63)).alloc (.cells exZ6 63)=W1 at*
 have hs1:=b1.size
 have hlE:=rE.lt
 have hlZ:=rZ.lt
 have HW:=Lib.hid (want_any (H0.out.bel b1) ⟨#[40]⟩ hp1)
 go_wp2_with fail
 refine HW.out.mono ?_
 rintro r w2 ⟨rfl,h2⟩
 have U2:Upd (fun x=>x=o) W1 w2:=h2.2
 have hs2:=U2.size
 go_wp2_with fail
 go_loopw[8] (fun v wr=>v= .slice none 0 0∧wr=w2) (fun _ _=>0)
 case atStart=>exact ⟨rfl,rfl⟩
 case round=>
  obtain ⟨rfl,rfl⟩:=hrel
  have HXC:Hid (Calls Tryz.prog 136 #[.pointer (some ⟨o,0,none⟩),.int .i64 0,.int .i64 (level+1)] wr (ExRes wr o P x.1 x.2.1 j1)):=IH P o i1 0 (level+1) wr x.1 x.2.1 j1 h2.1 HX.out (by omega) (by omega)
  go_wp2_with fail
  refine HXC.out.mono ?_
  rintro r w3 ⟨A,cap,rfl,hx3,hh3,h3⟩
  have U3:=U2.trans h3.2
  have hs3:=h3.2.size
  have rR:=Row.new w3 (exA x.1 A cap) 63
  have b4:Below w3.heap.size w3 (w3.alloc (.cells (exA x.1 A cap) 63)):=bE
  have HE3:=Lib.hid (ExH.wide (lo':=W1.heap.size) (hi':=w3.heap.size) hx3 (by omega) (Nat.le_refl _))
  have HP3:=Lib.hid h3.1
  have U4:=Upd.trans U3 (Upd.of_below b4)
  have rE4:=U4.row rE (by omega)
  have rZ4:=U4.row rZ (by omega)
  clear h3 hx3 HXC
  go_upto_region 4 with (fail)
  change Code.wp _ _ _ _ (w3.alloc (.cells (exA x.1 A cap) 63))
  generalize w3.alloc (.cells (exA x.1 A cap) 63)=W4 at*
  have hs4:=b4.size
  have hlR:=rR.lt
  obtain ⟨⟨p0,p1,p2,p3,p4,p5⟩,-⟩:=Row.e6 rR
  obtain ⟨⟨q0,q1,q2,q3,q4,q5⟩,y0,y1,y2,y3,y4,y5⟩:=Row.e6 rE4
  have HCN:=Lib.hid (cells_new5 W4 63 (exCells x.1 A cap))
  have b5:Below W4.heap.size W4 (W4.alloc (.cells (exA x.1 A cap) 63)):=bE
  have hs5:=b5.size
  go_wp2_with (at_builtin;refine wpList_append_own _ rfl _ _ 61 rfl w3.heap.size 63 i0 (.agg exZ6) 6 72 Tryz.underlying61 hi0 hz0 hz1 hz2 rfl (by decide) _ 0 [] rfl (World.ownsRow_nil _ _ _ _) ⟨W4.heap.size,0,none⟩ 1 1 (exCells x.1 A cap) rfl rfl HCN.out (exC_one _ _ _) (by unfold maxLen;omega) (by omega) (by simp;omega) ?_)
  intro v6 w6 hown6 hg6 _
  have b6:Below W4.heap.size W4 w6:=b5.trans ((below_none hg6).mono hs5)
  have hs6:=b6.size
  have HE6:=Lib.hid (HE3.out.upd (Upd.of_below (X:=fun _=>False) (b4.trans (b6.mono hs4))) (fun k h=>h.elim) (Nat.le_refl _))
  obtain ⟨A6,c6,hv6,-,hc1,hc2,hI6⟩:=own_exs (css:=[exCells x.1 A cap]) (own_hide (lo:=W1.heap.size) (by simpa using hown6) (by omega)) (ExsAre.one HE6.out) (by rw[hide_size];omega)
  subst hv6
  rw[hide_size] at hI6
  have HI6:=Lib.hid hI6
  have rE6:=rE4.below b6 (by omega)
  have rZ6:=rZ4.below b6 (by omega)
  obtain ⟨⟨-,-,-,q3',-,-⟩,-,-,-,y3',-,-⟩:=Row.e6 rE6
  have U6:=Upd.trans U4 (Upd.of_below b6)
  have HH6:=Lib.hid (cell_one w6 3 (.int .i64 x.2.1))
  clear hown6 hg6 hI6
  have b7:Below w6.heap.size w6 (w6.alloc (.cells #[.int .i64 x.2.1] 3)):=bE
  have hs7:=b7.size
  go_wp2_with (at_builtin;refine wpList_append_own _ rfl _ _ 34 rfl w6.heap.size 3 n0 (.int .i64 0) 1 8 Tryz.underlying34 hn0 hy0 hy1 hy2 rfl (by decide) _ 0 [] rfl (World.ownsRow_nil _ _ _ _) ⟨w6.heap.size,0,none⟩ 1 1 [.int .i64 x.2.1] rfl rfl HH6.out (by simp[Value.oneCell']) (by unfold maxLen;omega) (by omega) (by simp) ?_)
  intro v8 w8 hown8 hg8 _
  have b8:Below w6.heap.size w6 w8:=b7.trans ((below_none hg8).mono hs7)
  have hs8:=b8.size
  have HO8:=Lib.hid hown8
  have rE8:=rE6.below b8 (by omega)
  have rZ8:=rZ6.below b8 (by omega)
  obtain ⟨⟨-,-,-,q3',-,-⟩,-,-,-,y3',-,-⟩:=Row.e6 rE8
  have U8:=Upd.trans U6 (Upd.of_below b8)
  have rO8:=(HP3.out.row.below (b4.trans (b6.mono hs4)) (by omega)).below b8 (by omega)
  clear hown8 hg8
  go_upto_region 5 with (fail)
  have rE9:Row (w8.setCell ⟨w.heap.size,3,none⟩ (.slice A6 1 c6)) w.heap.size (exA ⟨4,t.text,0,[x.1],t.line,t.col⟩ A6 c6) 63:=by
   have:=rE8.set 3 (.slice A6 1 c6)
   refine' zq89
  have u9:Upd (fun x=>x=w.heap.size) w8 (w8.setCell ⟨w.heap.size,3,none⟩ (.slice A6 1 c6)):=(Upd.refl (fun x=>x=w.heap.size) w8).setCell (p:=⟨w.heap.size,3,none⟩) rfl _
  have rZ9:=u9.row rZ8 (by omega)
  have rO9:=u9.row rO8 (by omega)
  have UW9:Upd (fun x=>x=o∨w.heap.size≤x) w (w8.setCell ⟨w.heap.size,3,none⟩ (.slice A6 1 c6)):=(Upd.of_below b1).trans ((U8.mono (fun k e=>Or.inl e)).trans (u9.mono (fun k e=>Or.inr (by omega))))
  clear q0 q1 q2 q3 q4 q5 y0 y1 y2 y3 y4 y5 q3' y3' p0 p1 p2 p3 p4 p5
  generalize w8.setCell ⟨w.heap.size,3,none⟩ (.slice A6 1 c6)=w9 at*
  have hs9:=u9.size
  have H9:=Lib.hid (H0.out.step rO9 (UW9.narrow (fun k hk e=>by omega)))
  obtain ⟨t9,ht9,hn9⟩:=pnot_is hp3
  have HI:=is_any H9.out ht9 ⟨#[44]⟩
  rw[show isS t9 (⟨#[44]⟩:ByteArray).data.toList=false from hn9] at HI
  have HI:=Lib.hid HI
  go_wp2_with fail
  refine HI.out.mono ?_
  rintro r w10 ⟨rfl,hb10⟩
  have HW2:=Lib.hid (want_any (H9.out.bel hb10) ⟨#[41]⟩ hp4)
  go_wp2_with fail
  refine HW2.out.mono ?_
  rintro r w11 ⟨rfl,h11⟩
  have hs10:=hb10.size
  have hs11:=h11.2.size
  have U11:Upd (fun k=>k<W1.heap.size) w8 w11:=(u9.mono (fun k e=>by omega)).trans ((Upd.of_below hb10).trans (h11.2.mono (fun k e=>by omega)))
  have HSL:SlV w11 w11.heap.size 1 isInt v8 [(x.2.1:Int)]:=(own_sl (css:=[[.int .i64 x.2.1]]) (l:=[(x.2.1:Int)]) (rel:=isInt) (by simpa using own_updX HO8.out U11 (fun k e=>by omega)) (Are.one ⟨rfl,wf_of ⟨by omega,by omega⟩⟩) (by simp) (by decide)).1
  have HM:=Lib.hid (made_any o ⟨4,t.text,0,[x.1],t.line,t.col⟩ A6 c6 [x.2.1] v8 w11 HSL hh (by simp;omega))
  have rE11:=h11.2.row (rE9.below hb10 (by omega)) (by omega)
  have rZ11:=h11.2.row (rZ9.below hb10 (by omega)) (by omega)
  obtain ⟨⟨q0,q1,q2,q3,q4,q5⟩,-⟩:=Row.e6 rE11
  go_wp2_with fail
  refine HM.out.mono ?_
  rintro r w12 ⟨rfl,hb12⟩
  have hs12:=hb12.size
  have rZ12:=rZ11.below hb12 (by omega)
  obtain ⟨⟨x0,x1,x2,x3,x4,x5⟩,z0,z1,z2,z3,z4,z5⟩:=Row.e6 rZ12
  have UW12:Upd (fun x=>x=o∨w.heap.size≤x) w w12:=UW9.trans ((Upd.of_below hb10).trans ((h11.2.mono (fun k e=>Or.inl e)).trans (Upd.of_below hb12)))
  have rO12:=h11.1.row.below hb12 (by omega)
  have hI12:IsExs (hide W1.heap.size w12) w6.heap.size A6 [x.1]:=HI6.out.below (Upd.bhide (X:=fun k=>k<W1.heap.size) (B:=W1.heap.size) ((Upd.of_below b8).trans (U11.trans (Upd.of_below hb12))) (fun k h=>Or.inl h) (Nat.le_refl _))
  have HX12:Hid (ExH w12 W1.heap.size w6.heap.size ⟨4,t.text,0,[x.1],t.line,t.col⟩ A6 c6):=IsEx.mk' (exOk_of htk (wf_of ⟨by decide,by decide⟩) htk.text (wf_of ⟨by decide,by decide⟩)) hc1 hc2 hI12
  have HF:=Lib.hid (ExRes.fin (h:=phgt [x.2.1]) (Z:=w.heap.size+1) H0.out rO12 UW12 (by omega) HX12.out (by omega) (by omega) (Or.inl (by omega)) hh)
  have rF:=Row.e6set rZ12 (.int .i64 4) (.string t.text) (.int .i64 0) (.slice A6 1 c6) (.int .i64 t.line) (.int .i64 t.col)
  go_wp2_with fail
  exact bodyPost_ret (res2 (p:=6) (q:=7) (u:= .int .i64 (phgt [x.2.1])) rfl Tryz.underlying63 rfl (by kernel_rfl) rfl rfl rF) rfl HF.out
theorem isS_name {t:Tok} (h:t.kind=1) (s:List UInt8):isS t s=false:=by simp[isS,h]
theorem pprim_is {P:List Tok} {rec:Nat→Nat→Nat→PExR} {level i:Nat} {x:Ex × Nat × Nat} (h:pprim P rec level i=some x):∃t,P[i]? =some t∧
  ((t.kind=2∧x=(⟨1,⟨#[]⟩,t.n,[],t.line,t.col⟩,1,i+1))∨(t.kind=1∧∃u,P[i+1]? =some u∧
   ((isS u [40]=true∧∃y,pcall P rec level (i+1)=some y∧phgt [y.2.1]≤30∧x=(⟨4,t.text,0,[y.1],t.line,t.col⟩,phgt [y.2.1],y.2.2))∨(isS u [40]=false∧x=(⟨3,t.text,0,[],t.line,t.col⟩,1,i+1))))):=by
 obtain ⟨t,h1,h⟩:=Option.bind_eq_some_iff.1 h
 refine ⟨t,h1,?_⟩
 cases hk:t.kind==2 with
 |true=>rw[hk] at h;cases h;exact .inl ⟨beq_iff_eq.1 hk,rfl⟩
 |false=>
  rw[hk,cond_false] at h
  cases hk1:t.kind==1 with
  |false=>rw[hk1] at h;cases h
  |true=>
   rw[hk1,cond_true] at h
   refine .inr ⟨beq_iff_eq.1 hk1,?_⟩
   obtain ⟨u,h2,h⟩:=Option.bind_eq_some_iff.1 h
   refine ⟨u,h2,?_⟩
   cases hu:isS u [40] with
   |false=>rw[hu] at h;cases h;exact .inr ⟨rfl,rfl⟩
   |true=>
    rw[hu,cond_true] at h
    obtain ⟨y,h3,h⟩:=Option.bind_eq_some_iff.1 h
    cases hd:decide (phgt [y.2.1]≤30) with
    |false=>rw[hd] at h;cases h
    |true=>rw[hd] at h;cases h;exact .inl ⟨rfl,y,h3,of_decide_eq_true hd,rfl⟩
theorem slNone {w:World} {B:Nat}:SlV w B 1 isInt (.slice none 0 0) (([]:List Nat).map fun n:Nat=>(n:Int)):=SlV.nil
theorem prim_any {f:Nat} (IH:ExC f) {P:Pr} {o i level:Nat} {w:World} (h:PrAt w o P i) {x:Ex × Nat × Nat} (hx:pprim P.l (pexpr P.l f) level i=some x) (hlv:level≤64):
  Calls Tryz.prog 189 #[.pointer (some ⟨o,0,none⟩),.int .i64 level] w (ExRes w o P x.1 x.2.1 x.2.2):=by
 obtain ⟨t,ht,hc⟩:=pprim_is hx
 clear hx
 obtain ⟨-,-,-,hip,htk,-⟩:=h.tok ht
 refine' zq150
 have H0:=Lib.hid h
 have hol:=h.lt
 have hi5:=h.len
 have HN:=Lib.hid (now_any (h.bel b1) ht)
 have hs1:=b1.size
 have hlZ:=rZ.lt
 clear h
 go_enter Tryz.func189,Tryz.ntmps189
 refine' zq105
 go_wp2_with fail
 refine HN.out.mono ?_
 rintro r w2 ⟨rfl,hb2⟩
 have hs2:=hb2.size
 have rT:=(Row.new w2 (tokA t) 134).alloc (.cells (exA ⟨0,⟨#[]⟩,0,[],t.line,t.col⟩ none 0) 63)
 have rE:Row ((w2.alloc (.cells (tokA t) 134)).alloc (.cells (exA ⟨0,⟨#[]⟩,0,[],t.line,t.col⟩ none 0) 63)) (w2.heap.size+1) (exA ⟨0,⟨#[]⟩,0,[],t.line,t.col⟩ none 0) 63:=by
  have:=Row.new (w2.alloc (.cells (tokA t) 134)) (exA ⟨0,⟨#[]⟩,0,[],t.line,t.col⟩ none 0) 63
  simpa using this
 have b4:Below w2.heap.size w2 ((w2.alloc (.cells (tokA t) 134)).alloc (.cells (exA ⟨0,⟨#[]⟩,0,[],t.line,t.col⟩ none 0) 63)):=bE
 refine' zq179
 have hcc:=rT.tk5.1
 obtain ⟨y0,y1,y2,y3,y4⟩:=(Row.new w2 (tokA t) 134).tk5.1
 go_upto_region 7 with (fail)
 change Code.wp _ _ _ _ ((w2.alloc (.cells (tokA t) 134)).alloc (.cells (exA ⟨0,⟨#[]⟩,0,[],t.line,t.col⟩ none 0) 63))
 clear y0 y1 y2 y3 y4 HN
 generalize (w2.alloc (.cells (tokA t) 134)).alloc (.cells (exA ⟨0,⟨#[]⟩,0,[],t.line,t.col⟩ none 0) 63)=W4 at*
 obtain ⟨y0,y1,y2,y3,y4⟩:=hcc
 have UW4:Upd (fun x=>x=o∨w.heap.size≤x) w W4:=Upd.of_below b5
 have hrO4:=H4.out.row
 obtain ⟨-,t1,-,-,-,z1⟩:=H4.out.cells
 rcases hc with ⟨hk,rfl⟩|⟨hk,u,hu,hcc⟩
 ·have hk2:(t.kind==2)=true:=by rw[hk];rfl
  clear hk
  have hrO5:=pr_set hrO4
  have u5:Upd (fun x=>x=o) W4 (W4.setCell ⟨o,1,none⟩ (.int .i64 (i+1))):=(Upd.refl (fun x=>x=o) W4).setCell (p:=⟨o,1,none⟩) rfl _
  have rE5:=u5.row rE (by omega)
  have rT5:=u5.row rT (by omega)
  have rZ5:=u5.row rZ4 (by omega)
  go_upto_region 9 with (fail)
  have UW5:=UW4.trans (u5.mono (Y:=fun x=>x=o∨w.heap.size≤x) (fun k e=>Or.inl e))
  have hs5:=u5.size
  clear y0 y1 y2 y3 y4 t1 z1 hrO4
  generalize W4.setCell ⟨o,1,none⟩ (.int .i64 (i+1))=W5 at*
  obtain ⟨⟨y0,y1,y2,y3,y4⟩,-⟩:=rT5.tk5
  obtain ⟨⟨q0,q1,q2,q3,q4,q5⟩,e0,e1,e2,e3,e4,e5⟩:=Row.e6 rE5
  go_region
  all_goals
   have rE6:Row ((W5.setCell ⟨w2.heap.size+1,0,none⟩ (.int .i64 1)).setCell ⟨w2.heap.size+1,2,none⟩ (.int .i64 t.n)).drew (w2.heap.size+1) (exA ⟨1,⟨#[]⟩,t.n,[],t.line,t.col⟩ none 0) 63:=by
    have:=((rE5.set 0 (.int .i64 1)).set 2 (.int .i64 t.n)).drew
    refine' zq89
   have u6:Upd (fun x=>x=w2.heap.size+1) W5 ((W5.setCell ⟨w2.heap.size+1,0,none⟩ (.int .i64 1)).setCell ⟨w2.heap.size+1,2,none⟩ (.int .i64 t.n)).drew:=(((Upd.refl (fun x=>x=w2.heap.size+1) W5).setCell (p:=⟨w2.heap.size+1,0,none⟩) rfl _).setCell (p:=⟨w2.heap.size+1,2,none⟩) rfl _).drew
   have rZ6:=u6.row rZ5 (by omega)
   have rO6:=u6.row hrO5 (by omega)
   have UW6:=UW5.trans (u6.mono (Y:=fun x=>x=o∨w.heap.size≤x) (fun k e=>Or.inr (by omega)))
   have hs6:=u6.size
   clear q0 q1 q2 q3 q4 q5 e0 e1 e2 e3 e4 e5 y0 y1 y2 y3 y4
   generalize ((W5.setCell ⟨w2.heap.size+1,0,none⟩ (.int .i64 1)).setCell ⟨w2.heap.size+1,2,none⟩ (.int .i64 t.n)).drew=W6 at*
   obtain ⟨⟨q0,q1,q2,q3,q4,q5⟩,-⟩:=Row.e6 rE6
   have HM:=Lib.hid (made_any o ⟨1,⟨#[]⟩,t.n,[],t.line,t.col⟩ none 0 [] (.slice none 0 0) W6 slNone (by decide) (by simp))
   go_wp2_with fail
   refine HM.out.mono ?_
   rintro r w7 ⟨rfl,hb7⟩
   have rZ7:=rZ6.below hb7 (by omega)
   obtain ⟨⟨x0,x1,x2,x3,x4,x5⟩,z0,z1,z2,z3,z4,z5⟩:=Row.e6 rZ7
   have HX7:Hid (ExH w7 (w.heap.size+1) (w.heap.size+1) ⟨1,⟨#[]⟩,t.n,[],t.line,t.col⟩ none 0):=IsEx.mk' (exOk_of htk (wf_of ⟨by decide,by decide⟩) (Nat.zero_le _) htk.n) (Nat.le_refl _) (Nat.zero_le _) (fun hn=>absurd hn (by simp[Ex.args]))
   have HF:=Lib.hid (ExRes.fin (h:=1) (Z:=w.heap.size) H0.out (rO6.below hb7 (by omega)) (UW6.trans (Upd.of_below hb7)) (Nat.le_refl _) HX7.out (by omega) (by have:=hb7.size;omega) (Or.inl (by omega)) (by omega))
   have rF:=Row.e6set rZ7 (.int .i64 1) (.string ⟨#[]⟩) (.int .i64 t.n) (.slice none 0 0) (.int .i64 t.line) (.int .i64 t.col)
   go_wp2_with fail
   exact bodyPost_ret (res2 (p:=4) (q:=5) (u:= .int .i64 (1:Nat)) rfl Tryz.underlying63 rfl (by kernel_rfl) rfl rfl rF) rfl HF.out
 ·have hk2:(t.kind==2)=false:=by rw[hk];rfl
  have hk1:(t.kind==1)=true:=by rw[hk];rfl
  have hN:=isS_name hk
  clear hk
  have HT1:=Lib.hid (take_no H4.out ht ⟨#[116,114,117,101]⟩ (hN _))
  go_wp2_with fail
  refine HT1.out.mono ?_
  rintro r w5 ⟨rfl,h5⟩
  have HT2:=Lib.hid (take_no h5.1 ht ⟨#[102,97,108,115,101]⟩ (hN _))
  go_wp2_with fail
  refine HT2.out.mono ?_
  rintro r w6 ⟨rfl,h6⟩
  have U6:=h5.2.trans h6.2
  have UW6:=UW4.trans (U6.mono (Y:=fun x=>x=o∨w.heap.size≤x) (fun k e=>Or.inl e))
  have hs6:=U6.size
  have rE6:=U6.row rE (by omega)
  have rT6:=U6.row rT (by omega)
  have rZ6:=U6.row rZ4 (by omega)
  have hrO6:=h6.1.row
  obtain ⟨-,t1,-,-,-,z1⟩:=h6.1.cells
  have hrO7:=pr_set hrO6
  have u7:Upd (fun x=>x=o) w6 (w6.setCell ⟨o,1,none⟩ (.int .i64 (i+1))):=(Upd.refl (fun x=>x=o) w6).setCell (p:=⟨o,1,none⟩) rfl _
  have rE7:=u7.row rE6 (by omega)
  have rT7:=u7.row rT6 (by omega)
  have rZ7:=u7.row rZ6 (by omega)
  obtain ⟨y0,y1,y2,y3,y4⟩:=rT6.tk5.1
  clear y1 y2 y3 y4
  go_upto_region 16 with (fail)
  have UW7:=UW6.trans (u7.mono (Y:=fun x=>x=o∨w.heap.size≤x) (fun k e=>Or.inl e))
  have hs7:=u7.size
  clear y0 t1 z1 hrO6 hrO4
  generalize w6.setCell ⟨o,1,none⟩ (.int .i64 (i+1))=W7 at*
  obtain ⟨⟨y0,y1,y2,y3,y4⟩,-⟩:=rT7.tk5
  obtain ⟨⟨q0,q1,q2,q3,q4,q5⟩,e0,e1,e2,e3,e4,e5⟩:=Row.e6 rE7
  go_region
  all_goals
   have rE8:Row ((W7.setCell ⟨w2.heap.size+1,0,none⟩ (.int .i64 3)).setCell ⟨w2.heap.size+1,1,none⟩ (.string t.text)).drew (w2.heap.size+1) (exA ⟨3,t.text,0,[],t.line,t.col⟩ none 0) 63:=by
    have:=((rE7.set 0 (.int .i64 3)).set 1 (.string t.text)).drew
    refine' zq89
   have u8:Upd (fun x=>x=w2.heap.size+1) W7 ((W7.setCell ⟨w2.heap.size+1,0,none⟩ (.int .i64 3)).setCell ⟨w2.heap.size+1,1,none⟩ (.string t.text)).drew:=(((Upd.refl (fun x=>x=w2.heap.size+1) W7).setCell (p:=⟨w2.heap.size+1,0,none⟩) rfl _).setCell (p:=⟨w2.heap.size+1,1,none⟩) rfl _).drew
   have rZ8:=u8.row rZ7 (by omega)
   have rO8:=u8.row hrO7 (by omega)
   have UW8:=UW7.trans (u8.mono (Y:=fun x=>x=o∨w.heap.size≤x) (fun k e=>Or.inr (by omega)))
   have hs8:=u8.size
   have H8:=Lib.hid (H0.out.step rO8 (UW8.narrow (fun k hk e=>by omega)))
   clear q0 q1 q2 q3 q4 q5 e0 e1 e2 e3 e4 e5 y0 y1 y2 y3 y4
   generalize ((W7.setCell ⟨w2.heap.size+1,0,none⟩ (.int .i64 3)).setCell ⟨w2.heap.size+1,1,none⟩ (.string t.text)).drew=W8 at*
   rcases hcc with ⟨hu1,y,hy1,hy2,rfl⟩|⟨hu1,rfl⟩
   ·have HI:=is_any H8.out hu ⟨#[40]⟩
    rw[show isS u (⟨#[40]⟩:ByteArray).data.toList=true from hu1] at HI
    refine' zq169
    obtain ⟨⟨q0,q1,q2,q3,q4,q5⟩,e0,e1,e2,e3,e4,e5⟩:=Row.e6 rE9
    have rE10:Row (w9.setCell ⟨w2.heap.size+1,0,none⟩ (.int .i64 4)) (w2.heap.size+1) (exA ⟨4,t.text,0,[],t.line,t.col⟩ none 0) 63:=by
     have:=rE9.set 0 (.int .i64 4)
     refine' zq89
    have u10:Upd (fun x=>x=w2.heap.size+1) w9 (w9.setCell ⟨w2.heap.size+1,0,none⟩ (.int .i64 4)):=(Upd.refl (fun x=>x=w2.heap.size+1) w9).setCell (p:=⟨w2.heap.size+1,0,none⟩) rfl _
    have rZ10:=u10.row rZ9 (by omega)
    have rO10:=u10.row (rO8.below hb9 (by omega)) (by omega)
    have UW10:=(UW8.trans (Upd.of_below hb9)).trans (u10.mono (Y:=fun x=>x=o∨w.heap.size≤x) (fun k e=>Or.inr (by omega)))
    have hs10:=u10.size
    have H10:=Lib.hid (H0.out.step rO10 (UW10.narrow (fun k hk e=>by omega)))
    go_upto_region 19 with (fail)
    clear q0 q1 q2 q3 q4 q5 e0 e1 e2 e3 e4 e5
    generalize w9.setCell ⟨w2.heap.size+1,0,none⟩ (.int .i64 4)=W10 at*
    obtain ⟨⟨q0,q1,q2,q3,q4,q5⟩,-⟩:=Row.e6 rE10
    have HC:=Lib.hid (call_any IH H10.out htk hy1 hy2 hlv)
    go_wp2_with fail
    refine HC.out.mono ?_
    rintro r w11 ⟨A,cap,rfl,hx11,h30,h11⟩
    have hs11:=h11.2.size
    have rZ11:=h11.2.row rZ10 (by omega)
    obtain ⟨⟨x0,x1,x2,x3,x4,x5⟩,z0,z1,z2,z3,z4,z5⟩:=Row.e6 rZ11
    have HF:=Lib.hid (ExRes.fin (h:=phgt [y.2.1]) (Z:=w.heap.size) H0.out h11.1.row (UW10.trans (h11.2.mono (fun k e=>Or.inl e))) (Nat.le_refl _) hx11 (by omega) (Nat.le_refl _) (Or.inl (by omega)) h30)
    have rF:=Row.e6set rZ11 (.int .i64 4) (.string t.text) (.int .i64 0) (.slice A 1 cap) (.int .i64 t.line) (.int .i64 t.col)
    go_wp2_with fail
    exact bodyPost_ret (res2 (p:=4) (q:=5) (u:= .int .i64 (phgt [y.2.1])) rfl Tryz.underlying63 rfl (by kernel_rfl) rfl rfl rF) rfl HF.out
   ·have HI:=is_any H8.out hu ⟨#[40]⟩
    rw[show isS u (⟨#[40]⟩:ByteArray).data.toList=false from hu1] at HI
    refine' zq169
    obtain ⟨⟨q0,q1,q2,q3,q4,q5⟩,-⟩:=Row.e6 rE9
    have HM:=Lib.hid (made_any o ⟨3,t.text,0,[],t.line,t.col⟩ none 0 [] (.slice none 0 0) w9 slNone (by decide) (by simp))
    go_wp2_with fail
    refine HM.out.mono ?_
    rintro r w10 ⟨rfl,hb10⟩
    have rZ10:=rZ9.below hb10 (by omega)
    obtain ⟨⟨x0,x1,x2,x3,x4,x5⟩,z0,z1,z2,z3,z4,z5⟩:=Row.e6 rZ10
    have HX10:Hid (ExH w10 (w.heap.size+1) (w.heap.size+1) ⟨3,t.text,0,[],t.line,t.col⟩ none 0):=IsEx.mk' (exOk_of htk (wf_of ⟨by decide,by decide⟩) htk.text (wf_of ⟨by decide,by decide⟩)) (Nat.le_refl _) (Nat.zero_le _) (fun hn=>absurd hn (by simp[Ex.args]))
    have HF:=Lib.hid (ExRes.fin (h:=1) (Z:=w.heap.size) H0.out ((rO8.below hb9 (by omega)).below hb10 (by omega)) (UW8.trans ((Upd.of_below hb9).trans (Upd.of_below hb10))) (Nat.le_refl _) HX10.out (by omega) (by have:=hb10.size;omega) (Or.inl (by omega)) (by omega))
    have rF:=Row.e6set rZ10 (.int .i64 3) (.string t.text) (.int .i64 0) (.slice none 0 0) (.int .i64 t.line) (.int .i64 t.col)
    go_wp2_with fail
    exact bodyPost_ret (res2 (p:=4) (q:=5) (u:= .int .i64 (1:Nat)) rfl Tryz.underlying63 rfl (by kernel_rfl) rfl rfl rF) rfl HF.out
end Go.Proofs.YtdkgkacnjdnpoaaGreat
