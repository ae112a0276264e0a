/-
  What lies in the blocks from one on; the contracts of show.Strength and of the parser: compare, infix, made.
-/
import Derived.Test.YtdkgkacnjdnpoaaGreatPrsB
set_option maxHeartbeats 1000000
set_option maxRecDepth 100000
namespace Go.Proofs.YtdkgkacnjdnpoaaGreat
open Go.RowKit Nm
def hide (B:Nat) (w:World):World:={w with heap:=(w.heap.mapIdx fun i o=>if i<B then .map #[] 0 else o)}
section
variable {B B' hi:Nat} {w w':World}
theorem hide_size:(hide B w).heap.size=w.heap.size:=by simp[hide]
theorem hide_block {k:Nat} (h:B≤k):(hide B w).heap[k]? =w.heap[k]? :=by
 simp only[hide,Array.getElem?_mapIdx]
 cases hk:w.heap[k]? with
 |none=>rfl
 |some o=>simp only[Option.map_some];rw[if_neg (by omega)]
theorem hide_cell {p:Addr} {u:Value} (h:(hide B w).cell? p=some u):w.cell? p=some u:=by
 by_cases hp:B≤p.block
 ·rw[←h];exact (World.cell?_of_block (hide_block hp)).symm
 ·simp only[World.cell?,hide,Array.getElem?_mapIdx] at h
  cases hk:w.heap[p.block]? with
  |none=>rw[hk] at h;cases h
  |some o=>rw[hk] at h;simp only[Option.map_some] at h;rw[if_pos (by omega)] at h;cases h
theorem hide_more (hB:B'≤B) (hi:Nat) (w:World):Keeps hi (hide B w) (hide B' w):=fun p u _ h=>by
 by_cases hp:B≤p.block
 ·rw[←h]
  exact (World.cell?_of_block ((hide_block (Nat.le_trans hB hp)).trans (hide_block hp).symm))
 ·exfalso
  simp only[World.cell?,hide,Array.getElem?_mapIdx] at h
  cases hk:w.heap[p.block]? with
  |none=>rw[hk] at h;cases h
  |some o=>rw[hk] at h;simp only[Option.map_some] at h;rw[if_pos (by omega)] at h;cases h
theorem Upd.bhide {X:Nat→Prop} (h:Upd X w w') (hX:∀k,X k→k<B∨hi≤k) (hh:hi≤w.heap.size):Below hi (hide B w) (hide B w'):=by
 refine ⟨h.os,h.tape,h.output,by rw[hide_size,hide_size];exact h.size,fun k hk=>?_⟩
 by_cases hB:B≤k
 ·rw[hide_block hB,hide_block hB]
  exact h.block k (by omega) (fun hx=>by have:=hX k hx;omega)
 ·simp only[hide,Array.getElem?_mapIdx]
  rw[Array.getElem?_eq_getElem (show k<w.heap.size by omega),Array.getElem?_eq_getElem (show k<w'.heap.size by have:=h.size;omega)]
  simp only[Option.map_some]
  rw[if_pos (by omega),if_pos (by omega)]
end
abbrev ExH (w:World) (lo hi:Nat) (e:Ex) (A:Option Addr) (cap:Nat):Prop:=IsEx (hide lo w) hi e (exCells e A cap)
theorem ExH.upd {X:Nat→Prop} {w w':World} {lo hi:Nat} {e:Ex} {A:Option Addr} {cap:Nat} (h:ExH w lo hi e A cap) (hu:Upd X w w') (hX:∀k,X k→k<lo∨hi≤k) (hh:hi≤w.heap.size):ExH w' lo hi e A cap:=IsEx.below h (hu.bhide hX hh)
theorem ExH.wide {w:World} {lo lo' hi hi':Nat} {e:Ex} {A:Option Addr} {cap:Nat} (h:ExH w lo hi e A cap) (hl:lo'≤lo) (hh:hi≤hi'):ExH w lo' hi' e A cap:=IsEx.more hh (IsEx.keepS (hide_more hl hi w) h)
theorem str_any (op:Int) (hop:op=0∨op=23∨op=22∨op=7) (w:World):Calls Tryz.prog 174 #[.int .i64 op] w fun r w'=>r= .returned (.int .i64 (pstr op))∧w=w':=by
 rcases hop with rfl|rfl|rfl|rfl
 all_goals
  go_enter Tryz.func174,Tryz.ntmps174
  go_wp2_with fail
  go_ret
  exact ⟨rfl,rfl⟩
theorem cmp_any (s:ByteArray) (w:World) (h:∀x∈([[61],[60,62],[60],[60,61],[62],[62,61]]:List (List UInt8)),(s.toList==x)=false):
  Calls Tryz.prog 190 #[.string s] w fun r w'=>r= .returned (.int .i64 0)∧w=w':=by
 have h1:=h [61] (by simp)
 have h2:=h [60,62] (by simp)
 have h3:=h [60] (by simp)
 have h4:=h [60,61] (by simp)
 have h5:=h [62] (by simp)
 have h6:=h [62,61] (by simp)
 go_enter Tryz.func190,Tryz.ntmps190
 go_wp2_with fail
 go_ret
 exact ⟨rfl,rfl⟩
theorem pinf_is {t:Tok} {op:Int} (h:pinf t=some op):((t.kind==3||t.kind==4)=false∧op=0)∨((t.kind==3||t.kind==4)=true∧((t.text.toList=[45,62]∧op=23)∨(t.text.toList=[102,98,121]∧op=22)∨(t.text.toList=[43]∧op=7)∨
  ((∀x∈[45,62]:: [102,98,121]:: [43]::popN,(t.text.toList==x)=false)∧op=0))):=by
 unfold pinf at h
 rw[←ByteArray.toList_eq] at h
 cases hk:(t.kind==3||t.kind==4) with
 |false=>rw[hk] at h;cases h;exact .inl ⟨rfl,rfl⟩
 |true=>
  rw[hk,cond_true] at h
  refine .inr ⟨rfl,?_⟩
  cases h1:t.text.toList==[45,62] with
  |true=>rw[h1] at h;cases h;exact .inl ⟨beq_iff_eq.1 h1,rfl⟩
  |false=>
   cases h2:t.text.toList==[102,98,121] with
   |true=>rw[h1,h2] at h;cases h;exact .inr (.inl ⟨beq_iff_eq.1 h2,rfl⟩)
   |false=>
    cases h3:t.text.toList==[43] with
    |true=>rw[h1,h2,h3] at h;cases h;exact .inr (.inr (.inl ⟨beq_iff_eq.1 h3,rfl⟩))
    |false=>
     cases h4:popN.contains t.text.toList with
     |true=>rw[h1,h2,h3,h4] at h;cases h
     |false=>
      rw[h1,h2,h3,h4] at h;cases h
      refine .inr (.inr (.inr ⟨fun x hx=>?_,rfl⟩))
      rcases List.mem_cons.1 hx with rfl|hx
      ·exact h1
      rcases List.mem_cons.1 hx with rfl|hx
      ·exact h2
      rcases List.mem_cons.1 hx with rfl|hx
      ·exact h3
      rw[beq_eq_false_iff_ne]
      rintro e
      rw[e] at h4
      have:popN.contains x=true:=List.contains_iff_mem.2 hx
      rw[this] at h4;cases h4
theorem field_tk0 (t:Tok) (W:World):(Instr.field 134 (.agg #[.int .i64 t.kind,.string t.text,.int .i64 t.n,.int .i64 t.line,.int .i64 t.col]) 0).run Tryz.prog W= .ok (.int .i64 t.kind) W:=by kernel_rfl
theorem field_tk1 (t:Tok) (W:World):(Instr.field 134 (.agg #[.int .i64 t.kind,.string t.text,.int .i64 t.n,.int .i64 t.line,.int .i64 t.col]) 1).run Tryz.prog W= .ok (.string t.text) W:=by kernel_rfl
theorem field_tk3 (t:Tok) (W:World):(Instr.field 134 (.agg #[.int .i64 t.kind,.string t.text,.int .i64 t.n,.int .i64 t.line,.int .i64 t.col]) 3).run Tryz.prog W= .ok (.agg #[.int .i64 t.line,.int .i64 t.col]) W:=by kernel_rfl
attribute [local go_sem] field_tk0 field_tk1 field_tk3
theorem pinf_any {P:Pr} {o i:Nat} {w:World} (h:PrAt w o P i) {t:Tok} (ht:P.l[i]? =some t) {op:Int} (hop:pinf t=some op):
  Calls Tryz.prog 173 #[.pointer (some ⟨o,0,none⟩)] w fun r w'=>r= .returned (.tuple #[.int .i64 op,.int .i64 (pneed op)])∧Below w.heap.size w w':=by
 have HN:Hid (∀W,Below w.heap.size w W→Calls Tryz.prog 52 #[.pointer (some ⟨o,0,none⟩)] W fun r w'=>r= .returned (tokV t)∧Below W.heap.size W w'):=fun W hW=>now_any (h.bel hW) ht
 have hb0:Below w.heap.size w w:=Below.refl _ _
 have HT:=pinf_is hop
 clear h hop
 obtain ⟨B1,h1⟩:∃B,(t.kind==3)=B:=⟨_,rfl⟩
 obtain ⟨B2,h2⟩:∃B,(t.kind==4)=B:=⟨_,rfl⟩
 rw[h1,h2] at HT
 have h1':(t.kind !=3)= !B1:=by rw[bne,h1]
 have h2':(t.kind !=4)= !B2:=by rw[bne,h2]
 clear h1 h2
 rcases HT with ⟨hk,rfl⟩|⟨hk,hc⟩
 ·obtain ⟨rfl,rfl⟩:=Bool.or_eq_false_iff.1 hk
  go_enter Tryz.func173,Tryz.ntmps173
  go_wp2_with (first|((go_at_call 52);(refine (HN.out _ (by assumption)).mono ?_);(rintro r w2 ⟨rfl,hb2⟩);(have hb3:=Below.trans (by assumption:Below w.heap.size w _) (hb2.mono (by assumption:Below w.heap.size w _).size));clear hb2))
  go_ret2
  exact ⟨rfl,by assumption⟩
 ·rcases hc with ⟨ht,rfl⟩|⟨ht,rfl⟩|⟨ht,rfl⟩|⟨ht,rfl⟩
  case inr.inr.inr=>
   have HC:Hid (∀W,Calls Tryz.prog 190 #[.string t.text] W fun r w'=>r= .returned (.int .i64 0)∧W=w'):=fun W=>cmp_any t.text W (fun x hx=>ht x (by
    have:∀x∈([[61],[60,62],[60],[60,61],[62],[62,61]]:List (List UInt8)),x∈[45,62]:: [102,98,121]:: [43]::popN:=by decide
    exact this x hx))
   have n0:=ht [45,62] (by decide)
   have n1:=ht [102,98,121] (by decide)
   have n2:=ht [43] (by decide)
   have n3:=ht [119,104,101,110] (by decide)
   have n4:=ht [111,114] (by decide)
   have n5:=ht [120,111,114] (by decide)
   have n6:=ht [97,110,100] (by decide)
   have n7:=ht [45] (by decide)
   have n8:=ht [42] (by decide)
   have n9:=ht [47] (by decide)
   have n10:=ht [37] (by decide)
   clear ht
   cases B1
   ·obtain rfl:B2=true:=hk
    go_enter Tryz.func173,Tryz.ntmps173
    go_wp2_with (first|((go_at_call 52);(refine (HN.out _ (by assumption)).mono ?_);(rintro r w2 ⟨rfl,hb2⟩);(have hb3:=Below.trans (by assumption:Below w.heap.size w _) (hb2.mono (by assumption:Below w.heap.size w _).size));clear hb2)|((go_at_call 174);(refine (str_any _ (by simp) _).mono ?_);(rintro r w2 ⟨rfl,rfl⟩))|((go_at_call 190);(refine (HC.out _).mono ?_);(rintro r w2 ⟨rfl,rfl⟩)))
    go_ret2
    exact ⟨rfl,by assumption⟩
   ·go_enter Tryz.func173,Tryz.ntmps173
    go_wp2_with (first|((go_at_call 52);(refine (HN.out _ (by assumption)).mono ?_);(rintro r w2 ⟨rfl,hb2⟩);(have hb3:=Below.trans (by assumption:Below w.heap.size w _) (hb2.mono (by assumption:Below w.heap.size w _).size));clear hb2)|((go_at_call 174);(refine (str_any _ (by simp) _).mono ?_);(rintro r w2 ⟨rfl,rfl⟩))|((go_at_call 190);(refine (HC.out _).mono ?_);(rintro r w2 ⟨rfl,rfl⟩)))
    go_ret2
    exact ⟨rfl,by assumption⟩
  all_goals
   have hp1:((pstr 23:Nat):Int)=1:=rfl
   have hp2:((pstr 22:Nat):Int)=2:=rfl
   cases B1
   ·obtain rfl:B2=true:=hk
    go_enter Tryz.func173,Tryz.ntmps173
    go_wp2_with (first|((go_at_call 52);(refine (HN.out _ (by assumption)).mono ?_);(rintro r w2 ⟨rfl,hb2⟩);(have hb3:=Below.trans (by assumption:Below w.heap.size w _) (hb2.mono (by assumption:Below w.heap.size w _).size));clear hb2)|((go_at_call 174);(refine (str_any _ (by simp) _).mono ?_);(rintro r w2 ⟨rfl,rfl⟩)))
    go_ret2
    exact ⟨rfl,by assumption⟩
   ·go_enter Tryz.func173,Tryz.ntmps173
    go_wp2_with (first|((go_at_call 52);(refine (HN.out _ (by assumption)).mono ?_);(rintro r w2 ⟨rfl,hb2⟩);(have hb3:=Below.trans (by assumption:Below w.heap.size w _) (hb2.mono (by assumption:Below w.heap.size w _).size));clear hb2)|((go_at_call 174);(refine (str_any _ (by simp) _).mono ?_);(rintro r w2 ⟨rfl,rfl⟩)))
    go_ret2
    exact ⟨rfl,by assumption⟩
abbrev exZ6:Array Value:= #[.int .i64 0,.string ⟨#[]⟩,.int .i64 0,.slice none 0 0,.int .i64 0,.int .i64 0]
theorem Row.e6 {W:World} {b:Nat} {x0 x1 x2 x3 x4 x5:Value} {t:TypeId} (h:Row W b #[x0,x1,x2,x3,x4,x5] t):(W.cell? ⟨b,0,none⟩=some x0∧W.cell? ⟨b,1,none⟩=some x1∧W.cell? ⟨b,2,none⟩=some x2∧W.cell? ⟨b,3,none⟩=some x3∧W.cell? ⟨b,4,none⟩=some x4∧W.cell? ⟨b,5,none⟩=some x5)∧
  (W.frozen? ⟨b,0,none⟩=false∧W.frozen? ⟨b,1,none⟩=false∧W.frozen? ⟨b,2,none⟩=false∧W.frozen? ⟨b,3,none⟩=false∧W.frozen? ⟨b,4,none⟩=false∧W.frozen? ⟨b,5,none⟩=false):=
 ⟨⟨(h.cell 0).trans rfl,(h.cell 1).trans rfl,(h.cell 2).trans rfl,(h.cell 3).trans rfl,(h.cell 4).trans rfl,(h.cell 5).trans rfl⟩,h.frozen 0,h.frozen 1,h.frozen 2,h.frozen 3,h.frozen 4,h.frozen 5⟩
theorem Row.e6set {W:World} {b:Nat} {t:TypeId} {z0 z1 z2 z3 z4 z5:Value} (h:Row W b #[z0,z1,z2,z3,z4,z5] t) (x0 x1 x2 x3 x4 x5:Value):Row ((((((W.setCell ⟨b,0,none⟩ x0).setCell ⟨b,1,none⟩ x1).setCell ⟨b,2,none⟩ x2).setCell ⟨b,3,none⟩ x3).setCell ⟨b,4,none⟩ x4).setCell ⟨b,5,none⟩ x5) b #[x0,x1,x2,x3,x4,x5] t:=by
 have:=(((((h.set 0 x0).set 1 x1).set 2 x2).set 3 x3).set 4 x4).set 5 x5
 simpa using this
theorem upd_six (w:World) (g:Nat) (y0 y1 y2 y3 y4 y5:Value):Upd (fun x=>x=g) w ((((((w.setCell ⟨g,0,none⟩ y0).setCell ⟨g,1,none⟩ y1).setCell ⟨g,2,none⟩ y2).setCell ⟨g,3,none⟩ y3).setCell ⟨g,4,none⟩ y4).setCell ⟨g,5,none⟩ y5):=
 (upd_five w g y0 y1 y2 y3 y4).setCell (p:=⟨g,5,none⟩) rfl y5
theorem phgt_snoc (l:List Nat) (n:Nat):phgt (l++ [n])=max (phgt l) (n+1):=by simp[phgt]
theorem made_any (o:Nat) (e:Ex) (A:Option Addr) (cap:Nat) (hs:List Nat) (v:Value) (w:World) (hv:SlV w w.heap.size 1 isInt v (hs.map fun n:Nat=>(n:Int))) (hh:phgt hs≤30) (hb:∀n∈hs,n≤100):
  Calls Tryz.prog 175 #[.pointer (some ⟨o,0,none⟩),exV e A cap,v] w fun r w'=>r= .returned (.tuple #[exV e A cap,.int .i64 (phgt hs)])∧Below w.heap.size w w':=by
 obtain ⟨Ah,ch,rfl,hl,hm,hsl⟩:=hv
 have b1:Below w.heap.size w ((w.alloc (.cells (exA e A cap) 63)).alloc (.cells exZ6 63)):=bE
 have rE:=(Row.new w (exA e A cap) 63).alloc (.cells exZ6 63)
 have rZ:Row ((w.alloc (.cells (exA e A cap) 63)).alloc (.cells exZ6 63)) (w.heap.size+1) exZ6 63:=by
  have:=Row.new (w.alloc (.cells (exA e A cap) 63)) exZ6 63
  simpa using this
 have HS:=Lib.hid (hsl.below b1)
 rw[List.length_map] at hl⊢
 unfold maxLen at hm
 clear hsl
 go_enter Tryz.func175,Tryz.ntmps175
 go_upto_region 1 with (fail)
 change Code.wp _ _ _ _ ((w.alloc (.cells (exA e A cap) 63)).alloc (.cells exZ6 63))
 generalize (w.alloc (.cells (exA e A cap) 63)).alloc (.cells exZ6 63)=W1 at*
 obtain ⟨⟨q0,q1,q2,q3,q4,q5⟩,-⟩:=Row.e6 rE
 obtain ⟨⟨x0,x1,x2,x3,x4,x5⟩,z0,z1,z2,z3,z4,z5⟩:=Row.e6 rZ
 have hhb:∀k,k≤hs.length→phgt (hs.take k)≤101:=by
  intro k _
  have:∀(l:List Nat),(∀n∈l,n≤100)→∀a,a≤101→l.foldl (fun h n=>max h (n+1)) a≤101:=by
   intro l
   induction l with
   |nil=>intro _ a ha;exact ha
   |cons x l ih=>intro h a ha;exact ih (fun n hn=>h n (by simp[hn])) _ (by have:=h x (by simp);show max a (x+1)≤101;omega)
  exact this _ (fun n hn=>hb n (List.mem_of_mem_take hn)) 1 (by omega)
 have HHB:=Lib.hid hhb
 have HBN:=Lib.hid hb
 clear hhb hb
 go_wp2_with fail
 go_loopw[8,13] (fun v i wr=>∃k:Nat,k≤hs.length∧v= .int .i64 (phgt (hs.take k))∧i= .int .i64 k∧wr=W1) (fun _ i _=>hs.length-(intOf i).toNat)
 case atStart=>exact ⟨0,Nat.zero_le _,rfl,rfl,rfl⟩
 case round=>
  obtain ⟨k,hk,rfl,rfl,rfl⟩:=hrel
  by_cases hlt:k<hs.length
  ·obtain ⟨b,off,x,rfl,hbb,hx,-,d0⟩:=HS.out.int (k:=k) (by simpa using hlt)
   have hx':x=(hs[k]:Int):=by
    rw[List.getElem?_map,List.getElem?_eq_getElem hlt] at hx
    exact (Option.some.inj hx).symm
   subst hx'
   have hn:=HBN.out hs[k] (List.getElem_mem hlt)
   have HT:Hid (phgt (hs.take (k+1))=max (phgt (hs.take k)) (hs[k]+1)):=by
    show _=_
    rw[List.take_add_one,List.getElem?_eq_getElem hlt]
    exact phgt_snoc _ _
   have hq:=HHB.out k hk
   generalize hs[k]=m at*
   generalize phgt (hs.take k)=h0 at*
   go_wp2_with fail
   go_roundw
   case rel=>exact ⟨k+1,by omega,by rw[HT.out];exact congrArg (Value.int .i64) (by omega),by go_num,trivial⟩
   case measure=>simp[intOf];omega
  ·obtain rfl:k=hs.length:=by omega
   rw[List.take_length]
   have h30:decide ((30:Int)<(phgt hs:Int))=false:=decide_eq_false (by omega)
   go_wp2_with fail
   have u6:=upd_six wr (w.heap.size+1) (.int .i64 e.op) (.string e.name) (.int .i64 e.n) (.slice A e.args.length cap) (.int .i64 e.line) (.int .i64 e.col)
   have rF:=Row.e6set rZ (.int .i64 e.op) (.string e.name) (.int .i64 e.n) (.slice A e.args.length cap) (.int .i64 e.line) (.int .i64 e.col)
   refine bodyPost_ret (res2 (p:=6) (q:=7) (u:= .int .i64 (phgt hs)) rfl Tryz.underlying63 rfl (by kernel_rfl) rfl rfl rF) rfl ⟨rfl,?_⟩
   exact b1.trans (Upd.below u6 (fun k e=>by omega) b1.size)
end Go.Proofs.YtdkgkacnjdnpoaaGreat
