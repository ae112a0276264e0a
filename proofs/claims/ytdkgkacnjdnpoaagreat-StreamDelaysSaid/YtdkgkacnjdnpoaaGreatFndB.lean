/-
  The contract of stream.term for expressions without calls and clocks. The contract of scope.Find, of a source that lies below any place.
-/
import Derived.Test.YtdkgkacnjdnpoaaGreatStrX
import Derived.Test.YtdkgkacnjdnpoaaGreatRgQ
import Derived.Test.YtdkgkacnjdnpoaaGreatMet
set_option maxHeartbeats 4000000
set_option maxRecDepth 100000
namespace Go.Proofs.YtdkgkacnjdnpoaaGreat
open Go.RowKit
abbrev tmV (e:Ex) (A:Option Addr) (cap:Nat) (v:Value) (kc:Option Addr × Nat):Array Value:=tmA e A cap v (false,0) kc
abbrev σ0:Past:=fun _=>(false,0)
def PtI (w:World) (lo:Nat) (v:Value):List Ex→Prop
 | []=>v= .slice none 0 0
 | [x]=>∃t hi,t.is x∧TmAt σ0 w lo hi t∧hi≤w.heap.size∧w.ownsRow hi 114 1 v 1 [.pointer (some ⟨t.b,0,none⟩)]
 | [x,y]=>∃t u hi lo2 hi2,t.is x∧u.is y∧TmAt σ0 w lo hi t∧TmAt σ0 w lo2 hi2 u∧hi≤lo2∧hi2≤w.heap.size∧w.ownsRow hi 114 1 v 2 [.pointer (some ⟨t.b,0,none⟩),.pointer (some ⟨u.b,0,none⟩)]
 |_=>False
theorem take_1 {l:List Ex} {x:Ex} (h:l[0]? =some x):l.take (0+1)=[x]:=by
 cases l with
 |nil=>cases h
 |cons y l=>cases h;rfl
theorem take_2 {l:List Ex} {x y:Ex} (h:l[0]? =some y) (h2:l[1]? =some x):l.take (1+1)=[y,x]:=by
 match l,h,h2 with
 | [a,b],h,h2=>cases h;cases h2;rfl
 |a::b::_::_,h,h2=>cases h;cases h2;rfl
theorem TmAt.b {σ:Past} {w:World} {lo hi:Nat}:∀{t:Tm},TmAt σ w lo hi t→lo≤t.b∧t.b<hi
 | .l _ _,h=>h.1
 | .o _ _ _,h=>h.1.1
 | .p _ _ _ _,h=>h.1.1
theorem own_ptrs {w:World} {base lo:Nat} {v:Value} {l:List Nat} (h:w.ownsRow base 114 1 v l.length (l.map fun b=> .pointer (some ⟨b,0,none⟩))) (hl:lo≤base):SlV (hide lo w) w.heap.size 1 isPtr v l:=by
 refine own_slx h hl rfl fun i b hb=>⟨[.pointer (some ⟨b,0,none⟩)],rfl,fun j hj=>?_,rfl⟩
 obtain rfl:j=0:=by omega
 rw[show i*1+0=i by omega,List.getElem?_map,hb]
 rfl
theorem pt_end {w:World} {kc:Option Addr × Nat} {b0 cap:Nat} {e:Ex} {A:Option Addr} {v:Value} (rT:Row w (b0+1) (tmV e A cap v kc) 158) (hs:b0+1<w.heap.size) (hn:e.args.length≤2) (h:PtI w (b0+2) v e.args):∃t:Tm,t.b=b0+1∧t.is e∧TmAt σ0 w b0 w.heap.size t:=by
 match ha:e.args,h with
 | [],h=>
  have h':v= .slice none 0 0:=h
  subst h'
  exact ⟨.l (b0+1) e,rfl,⟨rfl,ha⟩,⟨by omega,hs⟩,A,cap,_,kc,rT,SlV.nil⟩
 | [x],h=>
  obtain ⟨t,hi,h1,h2,h3,h4⟩:=h
  have hb:=h2.b
  exact ⟨.o (b0+1) e t,rfl,⟨rfl,by rw[ha,h1.1],h1.2⟩,⟨⟨by omega,hs⟩,A,cap,_,kc,rT,own_ptrs (l:=[t.b]) h4 (by omega)⟩,h2.wide (by omega) h3⟩
 | [x,y],h=>
  obtain ⟨t,u,hi,lo2,hi2,h1,h2,h3,h4,h5,h6,h7⟩:=h
  have hb:=h3.b
  have hc:=h4.b
  exact ⟨.p (b0+1) e t u,rfl,⟨rfl,by rw[ha,h1.1,h2.1],h1.2,h2.2⟩,⟨⟨by omega,hs⟩,A,cap,_,kc,rT,own_ptrs (l:=[t.b,u.b]) h7 (by omega)⟩,h3.wide (by omega) (by omega),h4.wide (by omega) h6⟩
 |_::_::_::_,_=>simp[ha] at hn
def TermC (e:Ex):Prop:=∀(r d:Value) (kc:Option Addr × Nat) (A:Option Addr) (cap:Nat) (w:World),ExOk e→e.args.length≤cap→cap≤maxLen→IsExs w w.heap.size A e.args→
 Calls Tryz.prog 44 #[r,d,exV e A cap,.slice kc.1 0 kc.2] w fun res w'=>(∃t:Tm,res= .returned (.pointer (some ⟨t.b,0,none⟩))∧t.is e∧TmAt σ0 w' w.heap.size w'.heap.size t)∧Below w.heap.size w w'
theorem info_ptr:(Tryz.prog.info? 114).map (fun i=>(i.zero,i.size,i.bytes))=some (some (.pointer none),1,8):=by kernel_rfl
theorem term_step {e:Ex} (he:e.op=1∨e.op=3∨e.op=21∨e.op=22∨e.op=23) (hn:e.args.length≤2) (ih:∀x∈e.args,TermC x):TermC e:=by
 intro r d kc A cap w ok hc hm hx
 obtain ⟨i0,hi0,hz0,hz1,hz2⟩:=info_parts info_ptr
 have HX:Hid (∀W,Below w.heap.size w W→IsExs W w.heap.size A e.args):=fun W hW=>exs_keep hx (keeps_of hW) (Nat.le_refl _)
 have b1:Below w.heap.size w ((w.alloc (.cells (exA e A cap) 63)).alloc (.cells (tmV e A cap (.slice none 0 0) kc) 158)):=bE
 have rE:=(Row.new w (exA e A cap) 63).alloc (.cells (tmV e A cap (.slice none 0 0) kc) 158)
 have rT:=rowNew2 w (.cells (exA e A cap) 63) (tmV e A cap (.slice none 0 0) kc) 158
 have HIH:=Lib.hid ih
 have hop:(e.op==24)=false∧(e.op==25)=false∧(e.op==26)=false∧(e.op==4)=false:=by simp only[beq_eq_false_iff_ne];omega
 obtain ⟨o24,o25,o26,o4⟩:=hop
 have hm':cap≤9223372036854775807:=by unfold maxLen at hm;omega
 clear hx ih he
 go_enter Tryz.func44,Tryz.ntmps44
 go_upto_region 2 with (fail)
 change Code.wp _ _ _ _ ((w.alloc (.cells (exA e A cap) 63)).alloc (.cells (tmV e A cap (.slice none 0 0) kc) 158))
 have hs1:((w.alloc (.cells (exA e A cap) 63)).alloc (.cells (tmV e A cap (.slice none 0 0) kc) 158)).heap.size=w.heap.size+2:=by simp
 generalize ((w.alloc (.cells (exA e A cap) 63)).alloc (.cells (tmV e A cap (.slice none 0 0) kc) 158))=W1 at*
 obtain ⟨x0,x1,x2,x3,x4,x5⟩:=rE.ex6
 go_wp2_with fail
 clear x0 x1 x2 x3 x4 x5
 go_loopw[20] (fun i wr=>∃(k:Nat) (v:Value),k≤e.args.length∧i= .int .i64 k∧Row wr w.heap.size (exA e A cap) 63∧Row wr (w.heap.size+1) (tmV e A cap v kc) 158∧Hid (PtI wr (w.heap.size+2) v (e.args.take k))∧Below w.heap.size w wr∧w.heap.size+2≤wr.heap.size) (fun i _=>e.args.length-(intOf i).toNat)
 case atStart=>exact ⟨0,_,Nat.zero_le _,rfl,rE,rT,by rw[List.take_zero];rfl,b1,by omega⟩
 case round=>
  obtain ⟨k,v,hk,rfl,rE,rT,HP,hB,hsw⟩:=hrel
  obtain ⟨x0,x1,x2,x3,x4,x5⟩:=rE.ex6
  by_cases hlt:k<e.args.length
  rotate_left 1
  ·obtain rfl:k=e.args.length:=by omega
   have HFIN:Hid (∃t:Tm,t.b=w.heap.size+1∧t.is e∧TmAt σ0 wr w.heap.size wr.heap.size t):=by
    have h:=HP.out
    rw[List.take_length] at h
    exact pt_end rT (by omega) hn h
   clear x1 x2 x3 x4 x5 HP rT
   go_wp2_with fail
   go_ret
   obtain ⟨t,h1,h2,h3⟩:=HFIN.out
   exact ⟨⟨t,by rw[h1];rfl,h2,h3⟩,hB⟩
  obtain ⟨b,off,x,A',cap',hA,hb,hxk,hxm,hok',hcap',hmax',hx',d0,d1,d2,d3,d4,d5⟩:=(HX.out wr hB).at_ hlt
  have q4:wr.cell? ⟨w.heap.size+1,7,none⟩=some v:=(rT.cell 7).trans rfl
  have bX:Below wr.heap.size wr (wr.alloc (.cells (exA x A' cap') 63)):=bE
  have rX:=Row.new wr (exA x A' cap') 63
  have HT:=Lib.hid (fun (W:World) (hW:Below wr.heap.size wr W)=>HIH.out x hxm r d kc A' cap' W hok' hcap' hmax' (exs_keep hx' (keeps_of (hW.mono (Nat.le_trans (Nat.le_add_right _ 2) hsw))) (Nat.le_trans (Nat.le_trans (Nat.le_add_right _ 2) hsw) hW.size)))
  rw[hA]
  clear x1 x2 x3 x4 x5
  go_upto_region 5 with (fail)
  change Code.wp _ _ _ _ (wr.alloc (.cells (exA x A' cap') 63))
  clear d0 d1 d2 d3 d4 d5 x0 q4
  have rE2:=rE.below bX rE.lt
  have rT2:=rT.below bX rT.lt
  have hW2:(wr.alloc (.cells (exA x A' cap') 63)).heap.size=wr.heap.size+1:=by simp
  generalize wr.alloc (.cells (exA x A' cap') 63)=W2 at*
  obtain ⟨x0,-⟩:=rE2.ex6
  obtain ⟨y0,y1,y2,y3,y4,y5⟩:=rX.ex6
  have q4:W2.cell? ⟨w.heap.size+1,7,none⟩=some v:=(rT2.cell 7).trans rfl
  rcases (by omega:k=0∨k=1) with rfl|rfl
  ·have hv:v= .slice none 0 0:=by have:=HP.out;rw[List.take_zero] at this;exact this
   subst hv
   go_upto_region 12 with (fail)
   have HMK:Hid (∀W,Row W (w.heap.size+1) (tmV e A cap (.slice none 0 0) kc) 158→Row W wr.heap.size (exA x A' cap') 63→W.cell? ⟨w.heap.size+1,7,none⟩=some (.slice none 0 0)∧W.cell? ⟨wr.heap.size,0,none⟩=some (.int .i64 x.op)∧W.cell? ⟨wr.heap.size,1,none⟩=some (.string x.name)∧W.cell? ⟨wr.heap.size,2,none⟩=some (.int .i64 x.n)∧W.cell? ⟨wr.heap.size,3,none⟩=some (.slice A' x.args.length cap')∧W.cell? ⟨wr.heap.size,4,none⟩=some (.int .i64 x.line)∧W.cell? ⟨wr.heap.size,5,none⟩=some (.int .i64 x.col)):=fun W g1 g2=>⟨(g1.cell 7).trans rfl,g2.ex6⟩
   have q4:=HMK.out W2 rT2 rX
   refine wp_region_L 14 (S:=fun W=>W.cell? ⟨w.heap.size+1,7,none⟩=some (.slice none 0 0)∧W.cell? ⟨wr.heap.size,0,none⟩=some (.int .i64 x.op)∧W.cell? ⟨wr.heap.size,1,none⟩=some (.string x.name)∧W.cell? ⟨wr.heap.size,2,none⟩=some (.int .i64 x.n)∧W.cell? ⟨wr.heap.size,3,none⟩=some (.slice A' x.args.length cap')∧W.cell? ⟨wr.heap.size,4,none⟩=some (.int .i64 x.line)∧W.cell? ⟨wr.heap.size,5,none⟩=some (.int .i64 x.col)) (by kernel_rfl) ?_ (fun hHeld=>?_)
   ·(try dsimp only);(first|exact q4|exact q9|exact HS8.out _|exact HS7.out)
   refine tkL 0 (some 47) rfl ?_
   refine tkL 1 (some 48) rfl ?_
   refine tkL 2 (some 49) rfl ?_
   refine tkL 3 (some 50) rfl ?_
   refine tkL 4 (some 51) rfl ?_
   refine tkL 5 (some 52) rfl ?_
   refine tkL 6 (some 53) rfl ?_
   refine tkL 7 (some 54) rfl ?_
   refine tkL 8 (some 55) rfl ?_
   refine rdL 9 (some 56) rfl (fun KK hKK=>?_)
   go_simp
   ((go_at_call 44);(refine Calls.mono (HT.out _ (Below.drew bX)) ?_);rintro res w7 ⟨⟨t,rfl,hte,hta⟩,hb7⟩;(have hb8:Below W2.heap.size W2 w7:=Below.trans bE (hb7.mono lE));(have hs8:=hb8.size);(have HO7:Hid (∀ob:Obj,(w7.alloc ob).ownsRow w7.heap.size 114 1 (.slice none 0 0) 0 []):=fun ob=>World.ownsRow_nil _ _ _ _);(have rT7:=rT2.below hb8 rT2.lt);(have rX7:=rX.below hb8 rX.lt);(have HS7:=Lib.hid (HMK.out w7 rT7 rX7));(have HS8:=Lib.hid (fun ob:Obj=>HMK.out (w7.alloc ob) (rT7.alloc ob) (rX7.alloc ob))))
   (try go_wp2_with fail)
   refine hKK.out _ _ ?_ (fun hHeld=>?_)
   ·(try dsimp only);(first|exact q4|exact q9|exact HS8.out _|exact HS7.out)
   clear hKK KK
   try simp only[Act.put,List.setIfInBounds_toArray,List.set_cons_zero,List.set_cons_succ]
   refine rdL 10 (some 57) rfl (fun KK hKK=>?_)
   go_simp
   refine hKK.out _ _ ?_ (fun hHeld=>?_)
   ·(try dsimp only);(first|exact q4|exact q9|exact HS8.out _|exact HS7.out)
   clear hKK KK
   try simp only[Act.put,List.setIfInBounds_toArray,List.set_cons_zero,List.set_cons_succ]
   refine rdL 11 (some 58) rfl (fun KK hKK=>?_)
   ((rw[if_pos (by kernel_rfl)]);(refine wp_append_any _ (.tmp 51) (.tmp 57) 115 rfl w7.heap.size 114 i0 _ 1 8 Tryz.underlying115 hi0 hz0 hz1 hz2 rfl (by decide) _ 0 [] rfl (HO7.out _) ⟨_,0,none⟩ 1 1 [.pointer (some ⟨t.b,0,none⟩)] rfl rfl (cells_new5 _ _ _) (by intro u hu;simp at hu;subst hu;rfl) (by unfold maxLen;omega) (by omega) (by simp) ?_);(intro v9 w9 hown9 hg9 hb9);(have r9:=Row.ownB (rT7.alloc _) (HO7.out _) (by omega) hg9);(have x9:=Row.ownB (rX7.alloc _) (HO7.out _) (by omega) hg9);(have q9:=HMK.out w9 r9 x9);(have z9:=r9.frozen 7);(obtain ⟨A9,c9,hv9,-⟩:=own_rd hown9);subst hv9)
   refine hKK.out _ _ ?_ (fun hHeld=>?_)
   ·(try dsimp only);(first|exact q4|exact q9|exact HS8.out _|exact HS7.out)
   clear hKK KK
   try simp only[Act.put,List.setIfInBounds_toArray,List.set_cons_zero,List.set_cons_succ]
   refine rdL 12 (some 59) rfl (fun KK hKK=>?_)
   go_simp
   refine hKK.out _ _ ?_ (fun hHeld=>?_)
   ·(try dsimp only);(first|exact q4|exact q9|exact HS8.out _|exact HS7.out)
   clear hKK KK
   try simp only[Act.put,List.setIfInBounds_toArray,List.set_cons_zero,List.set_cons_succ]
   refine rdL 13 (some 60) rfl (fun KK hKK=>?_)
   go_simp
   refine hKK.out _ _ ?_ (fun hHeld=>?_)
   ·(try dsimp only);(first|exact q4|exact q9|exact HS8.out _|exact HS7.out)
   clear hKK KK
   try simp only[Act.put,List.setIfInBounds_toArray,List.set_cons_zero,List.set_cons_succ]
   refine rdE none rfl (fun KK hKK=>?_)
   go_simp
   refine hKK.out _ _ ?_
   clear hKK KK
   try simp only[Act.put,List.setIfInBounds_toArray,List.set_cons_zero,List.set_cons_succ]
   refine wpAnyL_done (by kernel_rfl) ?_ _
   have hta':TmAt σ0 w7 W2.heap.size w7.heap.size t:=hta
   have ug:Upd (fun j=>w7.heap.size≤j) w7 w9:=(Upd.of_below (bE:Below w7.heap.size w7 (w7.alloc (.cells #[.pointer (some ⟨t.b,0,none⟩)] 114)))).trans ⟨hg9.os,hg9.tape,hg9.output,hg9.size,fun j hj hX=>hg9.block j hj (fun e=>by cases (show (Value.slice none 0 0).ownBlock=some j from e.symm))⟩
   have u10:Upd (fun j=>j=w.heap.size+1) w9 (w9.setCell ⟨w.heap.size+1,7,none⟩ (.slice A9 (0+1) c9)):=(Upd.refl (fun j=>j=w.heap.size+1) w9).setCell (p:=⟨w.heap.size+1,7,none⟩) rfl _
   have U:Upd (fun j=>j=w.heap.size+1∨w7.heap.size≤j) w7 (w9.setCell ⟨w.heap.size+1,7,none⟩ (.slice A9 (0+1) c9)):=(ug.mono (fun j e=>Or.inr e)).trans (u10.mono (fun j e=>Or.inl e))
   have r10:Row (w9.setCell ⟨w.heap.size+1,7,none⟩ (.slice A9 (0+1) c9)) (w.heap.size+1) (tmV e A cap (.slice A9 (0+1) c9) kc) 158:=by
    have:=r9.set 7 (.slice A9 (0+1) c9)
    simpa using this
   have hlE:=rE2.lt
   have rE10:=U.row (rE2.below hb8 hlE) (by omega)
   have hsU:=U.size
   have HP10:Hid (PtI (w9.setCell ⟨w.heap.size+1,7,none⟩ (.slice A9 (0+1) c9)) (w.heap.size+2) (.slice A9 (0+1) c9) (e.args.take (0+1))):=by
    show PtI _ _ _ _
    rw[take_1 hxk]
    exact ⟨t,w7.heap.size,hte,(TmAt.upd U (fun j e=>by omega) (Nat.le_refl _) hta').wide (by omega) (Nat.le_refl _),hsU,own_updX hown9 u10 (fun j e=>by omega)⟩
   have hB10:=hB.trans ((bX.trans (hb8.mono bX.size)).mono (by omega))|>.trans (Upd.below U (fun j e=>by omega) (by omega))
   have hs10:w.heap.size+2≤(w9.setCell ⟨w.heap.size+1,7,none⟩ (.slice A9 (0+1) c9)).heap.size:=by omega
   clear ug u10 U HS7 HS8 HO7 HMK hta hta' r9 x9 q9 z9 hown9 hg9 hb9 q4 rT7 rX7 rX
   rw[hA] at rE10 r10
   go_wp2_with fail
   go_roundw
   case rel=>exact ⟨0+1,_,by omega,by go_num,rE10,r10,HP10,hB10,hs10⟩
   case measure=>first|(simp[intOf];omega)|simp[intOf]
  ·obtain ⟨y,hy⟩:∃y,e.args[0]? =some y:=⟨e.args[0]'(by omega),List.getElem?_eq_getElem (by omega)⟩
   obtain ⟨t0,hi,h0e,h0a,h0s,h0o⟩:∃(t0:Tm) (hi:Nat),t0.is y∧TmAt σ0 wr (w.heap.size+2) hi t0∧hi≤wr.heap.size∧wr.ownsRow hi 114 1 v 1 [.pointer (some ⟨t0.b,0,none⟩)]:=by
    have:=HP.out
    rw[show e.args.take 1=[y] from take_1 hy] at this
    exact this
   obtain ⟨Av,cv,hv,-⟩:=own_rd h0o
   subst hv
   have h0b:=h0a.b
   have HY:=Lib.hid hy
   have hgb:Hid (∀g,(Value.slice Av 1 cv).ownBlock=some g→hi≤g∧g<wr.heap.size):=fun g hg=>h0o.lt g hg
   have H0A:=Lib.hid h0a
   clear h0a hy
   go_upto_region 12 with (fail)
   have HMK:Hid (∀W,Row W (w.heap.size+1) (tmV e A cap (.slice Av 1 cv) kc) 158→Row W wr.heap.size (exA x A' cap') 63→W.cell? ⟨w.heap.size+1,7,none⟩=some (.slice Av 1 cv)∧W.cell? ⟨wr.heap.size,0,none⟩=some (.int .i64 x.op)∧W.cell? ⟨wr.heap.size,1,none⟩=some (.string x.name)∧W.cell? ⟨wr.heap.size,2,none⟩=some (.int .i64 x.n)∧W.cell? ⟨wr.heap.size,3,none⟩=some (.slice A' x.args.length cap')∧W.cell? ⟨wr.heap.size,4,none⟩=some (.int .i64 x.line)∧W.cell? ⟨wr.heap.size,5,none⟩=some (.int .i64 x.col)):=fun W g1 g2=>⟨(g1.cell 7).trans rfl,g2.ex6⟩
   have q4:=HMK.out W2 rT2 rX
   refine wp_region_L 14 (S:=fun W=>W.cell? ⟨w.heap.size+1,7,none⟩=some (.slice Av 1 cv)∧W.cell? ⟨wr.heap.size,0,none⟩=some (.int .i64 x.op)∧W.cell? ⟨wr.heap.size,1,none⟩=some (.string x.name)∧W.cell? ⟨wr.heap.size,2,none⟩=some (.int .i64 x.n)∧W.cell? ⟨wr.heap.size,3,none⟩=some (.slice A' x.args.length cap')∧W.cell? ⟨wr.heap.size,4,none⟩=some (.int .i64 x.line)∧W.cell? ⟨wr.heap.size,5,none⟩=some (.int .i64 x.col)) (by kernel_rfl) ?_ (fun hHeld=>?_)
   ·(try dsimp only);(first|exact q4|exact q9|exact HS8.out _|exact HS7.out)
   refine tkL 0 (some 47) rfl ?_
   refine tkL 1 (some 48) rfl ?_
   refine tkL 2 (some 49) rfl ?_
   refine tkL 3 (some 50) rfl ?_
   refine tkL 4 (some 51) rfl ?_
   refine tkL 5 (some 52) rfl ?_
   refine tkL 6 (some 53) rfl ?_
   refine tkL 7 (some 54) rfl ?_
   refine tkL 8 (some 55) rfl ?_
   refine rdL 9 (some 56) rfl (fun KK hKK=>?_)
   go_simp
   ((go_at_call 44);(refine Calls.mono (HT.out _ (Below.drew bX)) ?_);rintro res w7 ⟨⟨t,rfl,hte,hta⟩,hb7⟩;(have hb8:Below W2.heap.size W2 w7:=Below.trans bE (hb7.mono lE));(have hs8:=hb8.size);(have hbr:=bX.trans (hb8.mono bX.size));(have HO7:Hid (∀ob:Obj,(w7.alloc ob).ownsRow hi 114 1 (.slice Av 1 cv) 1 [.pointer (some ⟨t0.b,0,none⟩)]):=fun ob=>(own_below h0o hbr).alloc ob);(have HB7:Hid (∀ob:Obj,hi≤(w7.alloc ob).heap.size):=fun ob=>by simp;omega);(have rT7:=rT2.below hb8 rT2.lt);(have rX7:=rX.below hb8 rX.lt);(have HS7:=Lib.hid (HMK.out w7 rT7 rX7));(have HS8:=Lib.hid (fun ob:Obj=>HMK.out (w7.alloc ob) (rT7.alloc ob) (rX7.alloc ob))))
   (try go_wp2_with fail)
   refine hKK.out _ _ ?_ (fun hHeld=>?_)
   ·(try dsimp only);(first|exact q4|exact q9|exact HS8.out _|exact HS7.out)
   clear hKK KK
   try simp only[Act.put,List.setIfInBounds_toArray,List.set_cons_zero,List.set_cons_succ]
   refine rdL 10 (some 57) rfl (fun KK hKK=>?_)
   go_simp
   refine hKK.out _ _ ?_ (fun hHeld=>?_)
   ·(try dsimp only);(first|exact q4|exact q9|exact HS8.out _|exact HS7.out)
   clear hKK KK
   try simp only[Act.put,List.setIfInBounds_toArray,List.set_cons_zero,List.set_cons_succ]
   refine rdL 11 (some 58) rfl (fun KK hKK=>?_)
   ((rw[if_pos (by kernel_rfl)]);(refine wp_append_any _ (.tmp 51) (.tmp 57) 115 rfl hi 114 i0 _ 1 8 Tryz.underlying115 hi0 hz0 hz1 hz2 rfl (by decide) _ 1 [.pointer (some ⟨t0.b,0,none⟩)] rfl (HO7.out _) ⟨_,0,none⟩ 1 1 [.pointer (some ⟨t.b,0,none⟩)] rfl rfl (cells_new5 _ _ _) (by intro u hu;simp at hu;subst hu;rfl) (by unfold maxLen;omega) (by omega) (HB7.out _) ?_);(intro v9 w9 hown9 hg9 hb9);(have r9:=Row.ownB (rT7.alloc _) (HO7.out _) (by omega) hg9);(have x9:Row w9 wr.heap.size (exA x A' cap') 63:=(hg9.block _ (rX7.alloc _).lt (fun e=>by have:=(hgb.out _ e.symm).2;omega)).trans (rX7.alloc _));(have q9:=HMK.out w9 r9 x9);(have z9:=r9.frozen 7);(obtain ⟨A9,c9,hv9,-⟩:=own_rd hown9);subst hv9)
   refine hKK.out _ _ ?_ (fun hHeld=>?_)
   ·(try dsimp only);(first|exact q4|exact q9|exact HS8.out _|exact HS7.out)
   clear hKK KK
   try simp only[Act.put,List.setIfInBounds_toArray,List.set_cons_zero,List.set_cons_succ]
   refine rdL 12 (some 59) rfl (fun KK hKK=>?_)
   go_simp
   refine hKK.out _ _ ?_ (fun hHeld=>?_)
   ·(try dsimp only);(first|exact q4|exact q9|exact HS8.out _|exact HS7.out)
   clear hKK KK
   try simp only[Act.put,List.setIfInBounds_toArray,List.set_cons_zero,List.set_cons_succ]
   refine rdL 13 (some 60) rfl (fun KK hKK=>?_)
   go_simp
   refine hKK.out _ _ ?_ (fun hHeld=>?_)
   ·(try dsimp only);(first|exact q4|exact q9|exact HS8.out _|exact HS7.out)
   clear hKK KK
   try simp only[Act.put,List.setIfInBounds_toArray,List.set_cons_zero,List.set_cons_succ]
   refine rdE none rfl (fun KK hKK=>?_)
   go_simp
   refine hKK.out _ _ ?_
   clear hKK KK
   try simp only[Act.put,List.setIfInBounds_toArray,List.set_cons_zero,List.set_cons_succ]
   refine wpAnyL_done (by kernel_rfl) ?_ _
   have hta':TmAt σ0 w7 W2.heap.size w7.heap.size t:=hta
   have ug:Upd (fun j=>(hi≤j∧j<wr.heap.size)∨w7.heap.size≤j) w7 w9:=(Upd.of_below (bE:Below w7.heap.size w7 (w7.alloc (.cells #[.pointer (some ⟨t.b,0,none⟩)] 114)))).trans ⟨hg9.os,hg9.tape,hg9.output,hg9.size,fun j hj hX=>hg9.block j hj (fun e=>hX (Or.inl (hgb.out j e.symm)))⟩
   have u10:Upd (fun j=>j=w.heap.size+1) w9 (w9.setCell ⟨w.heap.size+1,7,none⟩ (.slice A9 (1+1) c9)):=(Upd.refl (fun j=>j=w.heap.size+1) w9).setCell (p:=⟨w.heap.size+1,7,none⟩) rfl _
   have U:Upd (fun j=>j=w.heap.size+1∨(hi≤j∧j<wr.heap.size)∨w7.heap.size≤j) w7 (w9.setCell ⟨w.heap.size+1,7,none⟩ (.slice A9 (1+1) c9)):=(ug.mono (fun j e=>Or.inr e)).trans (u10.mono (fun j e=>Or.inl e))
   have r10:Row (w9.setCell ⟨w.heap.size+1,7,none⟩ (.slice A9 (1+1) c9)) (w.heap.size+1) (tmV e A cap (.slice A9 (1+1) c9) kc) 158:=by
    have:=r9.set 7 (.slice A9 (1+1) c9)
    simpa using this
   have hlE:=rE2.lt
   have rE10:=U.row (rE2.below hb8 hlE) (by omega)
   have hsU:=U.size
   have UR:Upd (fun j=>j=w.heap.size+1∨hi≤j) wr (w9.setCell ⟨w.heap.size+1,7,none⟩ (.slice A9 (1+1) c9)):=(Upd.of_below hbr).trans (U.mono (fun j e=>by omega))
   have HP10:Hid (PtI (w9.setCell ⟨w.heap.size+1,7,none⟩ (.slice A9 (1+1) c9)) (w.heap.size+2) (.slice A9 (1+1) c9) (e.args.take (1+1))):=by
    show PtI _ _ _ _
    rw[take_2 HY.out hxk]
    exact ⟨t0,t,hi,W2.heap.size,w7.heap.size,h0e,hte,TmAt.upd UR (fun j e=>by omega) h0s H0A.out,TmAt.upd U (fun j e=>by omega) (Nat.le_refl _) hta',by omega,hsU,own_updX hown9 u10 (fun j e=>by omega)⟩
   have hB10:=hB.trans (hbr.mono (by omega))|>.trans (Upd.below U (fun j e=>by omega) (by omega))
   have hs10:w.heap.size+2≤(w9.setCell ⟨w.heap.size+1,7,none⟩ (.slice A9 (1+1) c9)).heap.size:=by omega
   clear ug u10 U UR HS7 HS8 HO7 HB7 HMK hta hta' r9 x9 q9 z9 hown9 hg9 hb9 q4 rT7 rX7 rX
   rw[hA] at rE10 r10
   go_wp2_with fail
   go_roundw
   case rel=>exact ⟨1+1,_,by omega,by go_num,rE10,r10,HP10,hB10,hs10⟩
   case measure=>first|(simp[intOf];omega)|simp[intOf]
theorem term_any {e:Ex} (h:Sh e):TermC e:=by
 induction h with
 |num ho ha=>exact term_step (by omega) (by rw[ha];simp) (fun x hx=>by rw[ha] at hx;cases hx)
 |var ho ha=>exact term_step (by omega) (by rw[ha];simp) (fun x hx=>by rw[ha] at hx;cases hx)
 |pre ho ha _ ih=>exact term_step (by omega) (by rw[ha];simp) (fun x hx=>by rw[ha,List.mem_singleton] at hx;subst hx;exact ih)
 |two ho ha _ _ ih1 ih2=>exact term_step (by omega) (by rw[ha];simp) (fun x hx=>by
   rw[ha,List.mem_cons,List.mem_singleton] at hx
   rcases hx with rfl|rfl
   ·exact ih1
   ·exact ih2)
open Go.RowKit Nm
attribute [local go_sem ↓] Go.wp_at_zero Go.wp_at_succ
def FindB (B:Nat) (s:List Nd) (nm:ByteArray) (w:World) (e:Ending) (w':World):Prop:=
 (∃(n:Nd) (a:NdA),e= .returned (.tuple #[ndV n a,.bool (cB (nm∈s.map Nd.name))])∧Hid (nm∈s.map Nd.name→nodeAt s nm=some n∧NdAt w' B n a)∧Hid (nm∉s.map Nd.name→n=nd0∧a=nda0))∧Below w.heap.size w w'
theorem find_anyB (B:Nat) (s:List Nd) (m:Nat) (A:Option Addr) (cap:Nat) (nm:ByteArray) (w:World) (hm:s.length=m) (h1:m≤cap) (h2:cap≤maxLen) (hBw:B≤w.heap.size) (h:Nds w B A s):
  Calls Tryz.prog 37 #[.agg #[.slice A m cap],.string nm] w (FindB B s nm w):=by
 subst hm
 have rf1:=rowNew2 w (.cells #[.slice A s.length cap] 24) ndZ 58
 have rs1:=(Row.new w #[.slice A s.length cap] 24).alloc (.cells ndZ 58)
 have b1:Below w.heap.size w ((w.alloc (.cells #[.slice A s.length cap] 24)).alloc (.cells ndZ 58)):=bE
 have HS:=Lib.hid (nds_keep h (keeps_of (b1.mono hBw)) (Nat.le_refl _))
 have h2':cap≤9223372036854775807:=by unfold maxLen at h2;omega
 clear h
 go_enter Tryz.func37,Tryz.ntmps37
 go_upto_region 1 with (fail)
 generalize (w.alloc (.cells #[.slice A s.length cap] 24)).alloc (.cells ndZ 58)=W1 at*
 have hs1:=b1.size
 have l1:=rf1.lt
 have c0:=rs1.src
 go_wp2_with fail
 clear c0 rs1
 go_loopw[11] (fun i wr=>∃k:Nat,k≤s.length∧i= .int .i64 k∧Hid (∀j,j<k→∀x,s[j]? =some x→x.name≠nm)∧Below W1.heap.size W1 wr) (fun i _=>s.length-(intOf i).toNat)
 case atStart=>exact ⟨0,Nat.zero_le _,rfl,fun j h=>absurd h (by omega),Below.refl _ _⟩
 case round=>
  obtain ⟨k,hk,rfl,HN,hbr⟩:=hrel
  have hszr:=hbr.size
  have rr:=rf1.below hbr l1
  have lr:=rr.lt
  have hB:=b1.trans (hbr.mono hs1)
  obtain ⟨⟨z0,z1,z2,z3,z4,z5,z6⟩,f0,f1,f2,f3,f4,f5,f6⟩:=rr.seven
  by_cases hlt:k<s.length
  ·obtain ⟨b,off,n,a,rfl,hb,hn,hat,d0,d1,d2,d3,d4,d5,d6⟩:=(nds_keep HS.out (keeps_of (hbr.mono (Nat.le_trans hBw hs1))) (Nat.le_refl _)).nd hlt
   have HX:=Lib.hid hn
   have HAT:=Lib.hid hat
   clear hn hat
   by_cases e:n.name=nm
   ·have e1:=beq_yes e
    have HM:Hid (nm∈s.map Nd.name):=by show _∈_;rw[←e];exact List.mem_map_of_mem (List.mem_of_getElem? HX.out)
    have HF:=Lib.hid (nodeAt_at HN.out HX.out e)
    clear e
    go_wp2_with fail
    have bb:=(below_set7 (Below.refl w.heap.size wr) (Nat.le_succ w.heap.size) (.string n.name) (.slice a.ai n.ins.length a.ci) (.slice a.ao n.outs.length a.co) (.slice a.av n.vars.length a.cv) (.slice a.aq n.eqs.length a.cq) (.int .i64 n.line) (.int .i64 n.col)).alloc (by simp[World.setCell];omega) (.cells (ndArr n a) 58)
    have HQ:Hid (Ending.returned (.tuple #[ndV n a,.bool true])= .returned (.tuple #[ndV n a,.bool (cB (nm∈s.map Nd.name))])):=by show _=_;rw[cB_true HM.out]
    exact bodyPost_ret (v:= .tuple #[ndV n a,.bool true]) (res2 rfl Tryz.underlying58 rfl (by kernel_rfl) rfl rfl ((rr.set7 _ _ _ _ _ _ _).alloc _)) rfl ⟨⟨n,a,HQ.out,fun _=>⟨HF.out,HAT.out.below (bb.mono hBw)⟩,fun g=>absurd HM.out g⟩,hB.trans bb⟩
   ·have e1:=beq_no e
    have HN':=Lib.hid (step_upto (P:=fun x:Nd=>x.name≠nm) HN.out HX.out e)
    clear e
    go_wp2_with fail
    go_roundw
    case rel=>exact ⟨k+1,by omega,by go_num,HN',hbr.alloc hszr _⟩
    case measure=>first|(simp[intOf];omega)|simp[intOf]
  ·obtain rfl:k=s.length:=by omega
   have HM:Hid (nm∉s.map Nd.name):=fun g=>by
    obtain ⟨n,hn,he⟩:=List.mem_map.1 g
    obtain ⟨j,hj⟩:=List.getElem?_of_mem hn
    exact HN.out j (List.getElem?_eq_some_iff.1 hj).1 n hj he
   go_wp2_with fail
   have HQ:Hid (Ending.returned (.tuple #[ndV nd0 nda0,.bool false])= .returned (.tuple #[ndV nd0 nda0,.bool (cB (nm∈s.map Nd.name))])):=by show _=_;rw[cB_false HM.out]
   exact bodyPost_ret (v:= .tuple #[ndV nd0 nda0,.bool false]) (res2 rfl Tryz.underlying58 rfl (by kernel_rfl) rfl rfl (rr.set7 _ _ _ _ _ _ _)) rfl ⟨⟨nd0,nda0,HQ.out,fun g=>absurd g HM.out,fun _=>⟨rfl,rfl⟩⟩,below_set7 hB (Nat.le_succ _) _ _ _ _ _ _ _⟩
end Go.Proofs.YtdkgkacnjdnpoaaGreat
