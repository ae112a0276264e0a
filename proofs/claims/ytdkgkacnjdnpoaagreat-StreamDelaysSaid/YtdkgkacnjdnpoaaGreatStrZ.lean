/-
  The contracts of stream.turn's closure and of stream.turn: what changes at a tick's end is told in a row.
-/
import Derived.Test.YtdkgkacnjdnpoaaGreatRwS
set_option maxHeartbeats 1000000
set_option maxRecDepth 100000
namespace Go.Proofs.YtdkgkacnjdnpoaaGreat
open Go.RowKit
attribute [local go_sem ↓] Go.wp_at_zero Go.wp_at_succ
def isChg (w:World) (C:Nat) (c:Nat × Int) (x:Value):Prop:=∃p q,C≤p∧C≤q∧x= .func (.func 81) #[] #[.pointer (some ⟨q,0,none⟩),.pointer (some ⟨p,0,none⟩)]∧
 Row w p #[.pointer (some ⟨c.1,0,none⟩)] 114∧Row w q #[.int .i64 c.2] 3
def ChAt (w:World) (C:Nat) (cs:List (Nat × Int)) (xs:List Value):Prop:=xs.length=cs.length∧∀(i:Nat) c x,cs[i]? =some c→xs[i]? =some x→isChg w C c x
section
variable {w w':World} {C:Nat} {X:Nat→Prop} {cs:List (Nat × Int)} {xs:List Value}
theorem isChg.upd {c:Nat × Int} {x:Value} (h:isChg w C c x) (hu:Upd X w w') (hX:∀k,X k→k<C∨∃a,Row w k a 1):isChg w' C c x:=by
 obtain ⟨p,q,h1,h2,h3,h4,h5⟩:=h
 refine ⟨p,q,h1,h2,h3,hu.row h4 fun e=>?_,hu.row h5 fun e=>?_⟩
 ·rcases hX p e with g|⟨a,g⟩
  ·omega
  ·have:=h4.symm.trans g
   injection this with this
   injection this with _ this
   exact absurd this (by decide)
 ·rcases hX q e with g|⟨a,g⟩
  ·omega
  ·have:=h5.symm.trans g
   injection this with this
   injection this with _ this
   exact absurd this (by decide)
theorem ChAt.upd (h:ChAt w C cs xs) (hu:Upd X w w') (hX:∀k,X k→k<C∨∃a,Row w k a 1):ChAt w' C cs xs:=⟨h.1,fun i c x hc hx=>(h.2 i c x hc hx).upd hu hX⟩
theorem ChAt.snoc (h:ChAt w C cs xs) {c:Nat × Int} {x:Value} (hc:isChg w C c x):ChAt w C (cs++ [c]) (xs++ [x]):=by
 refine ⟨by simp[h.1],fun i c' x' h1 h2=>?_⟩
 by_cases hi:i<cs.length
 ·rw[List.getElem?_append_left hi] at h1
  rw[List.getElem?_append_left (by rw[h.1];exact hi)] at h2
  exact h.2 i c' x' h1 h2
 ·rw[List.getElem?_append_right (by omega)] at h1
  rw[List.getElem?_append_right (by rw[h.1];omega),h.1] at h2
  have h0:i-cs.length=0:=by
   have:=(List.getElem?_eq_some_iff.1 h1).1
   simp at this
   omega
  rw[h0] at h1 h2
  simp at h1 h2
  subst h1;subst h2
  exact hc
theorem ChI.snoc {n:Nd} {T:List Tm} {row:List Int} {σ:Past} {l:List Tm} {cs:List (Nat × Int)} (h:ChI n T row σ l cs) {t:Tm} {v:Int} (hv:LI n T row σ t v):ChI n T row σ (l++ [t]) (cs++ [(t.b,v)]):=by
 induction h with
 |nil=>exact .cons hv .nil
 |cons h1 _ ih=>exact .cons h1 ih
theorem own_row {e:TypeId} {base n:Nat} {v:Value} (h:w.ownsRow base e 1 v n xs):∀k,v.ownBlock=some k→base≤k∧∃a,Row w k a e:=fun k hk=>by
 rcases h.2 with ⟨rfl,_⟩|⟨g,c,cur,rfl,h1,h2,_⟩
 ·cases hk
 ·have:g=k:=by injection hk
  subst this
  exact ⟨h1,cur,h2⟩
end
theorem rq0_of {P:Program} {f:FuncId} {args:Array Value} {w:World} {n:Nat} {v:Value}
  (h:Calls P f args (w.drewN n) fun e w'=>e= .returned v∧∃m,w'=(w.drewN n).drewN m):Calls P f args (w.drewN n) fun e w''=>e= .returned v∧∃m,w''=w.drewN m:=
 h.mono fun _ _ ⟨he,m,hm⟩=>⟨he,n+m,by rw[hm,World.drewN_drewN]⟩
theorem Upd.only {X Y:Nat→Prop} {w w':World} (h:Upd X w w') (hXY:∀k,X k→k<w.heap.size→Y k):Upd Y w w':=⟨h.os,h.tape,h.output,h.size,fun k hk hY=>h.block k hk (fun hx=>hY (hXY k hx hk))⟩
theorem info_fun:(Tryz.prog.info? 1).map (fun i=>(i.zero,i.size,i.bytes))=some (some .nilFunc,1,8):=by kernel_rfl
structure TuAt (Q:StQ) (σ:Past) (C:Nat) (w:World) (l:List Tm) (L:List ByteArray) (cs:List (Nat × Int)) (v:Value) (xs:List Value):Prop where
 st:StAt Q σ w L
 r:Row w C #[.pointer (some ⟨Q.R,0,none⟩)] 71
 d:Row w (C+1) #[.pointer (some ⟨Q.D,0,none⟩)] 74
 c:Row w (C+2) #[v] 123
 own:w.ownsRow (C+3) 1 1 v cs.length xs
 at_:ChAt w (C+3) cs xs
 is:ChI Q.n Q.T Q.row σ l cs
def TuP (Q:StQ) (σ:Past) (C:Nat) (w:World) (l:List Tm):Prop:=∃L cs v xs,TuAt Q σ C w l L cs v xs
theorem StAt.at_ {Q:StQ} {σ:Past} {w:World} {L:List ByteArray} (h:StAt Q σ w L) {t:Tm} (ht:t∈allT Q.T):TmAt σ w Q.lo Q.hi t:=by
 unfold allT at ht
 rw[List.mem_flatten] at ht
 obtain ⟨l,hl,ht⟩:=ht
 obtain ⟨u,hu,rfl⟩:=List.mem_map.1 hl
 exact (h.tm u hu).sub t ht
theorem StAt.wide {Q:StQ} {σ:Past} {w w':World} {L:List ByteArray} {C:Nat} {X:Nat→Prop} (h:StAt Q σ w L) (hk:StK Q) (hC:Q.K<C∧Q.R<C∧Q.D<C) (hu:Upd X w w') (hX:∀j,X j→C≤j) (hs:C≤w.heap.size:=by omega):StAt Q σ w' L:=by
 have hB:=hk.hB
 have hi:=hk.hi
 have hb:Below C w w':=Upd.below hu hX hs
 have kp:Keeps Q.B w w':=keeps_of (hb.mono (by omega))
 exact ⟨h.rr.below hb hC.2.1,h.ri.keep kp (Nat.le_refl _) (fun _ _ _ h=>h),h.rd.below hb hC.2.2,h.nd.keep kp (Nat.le_refl _),h.ep.keep kp (Nat.le_refl _) (fun _ _ _ h=>h),fun t ht=>TmAt.upd hu (fun j e=>by have:=hX j e;omega) (by omega) (h.tm t ht),h.kn.below hb hC.1,h.sub⟩
theorem ChI.len {n:Nd} {T:List Tm} {row:List Int} {σ:Past} {l:List Tm} {cs:List (Nat × Int)} (h:ChI n T row σ l cs):cs.length=l.length:=by
 induction h with
 |nil=>rfl
 |cons _ _ ih=>simp[ih]
inductive LP (Q:StQ) (σ:Past):Tm→Int→Prop
 |no {t:Tm}:t.e.op≠21→t.e.op≠22→LP Q σ t 0
 |pre {t x:Tm} {v:Int}:t.e.op=21→t.parts[0]? =some x→TOfC Q σ x v→LP Q σ t v
 |fby {t x:Tm} {v:Int}:t.e.op=22→t.parts[1]? =some x→TOfC Q σ x v→LP Q σ t v
theorem lp_of {Q:StQ} {σ:Past} (hk:StK Q) (hF:∀nm v,NI Q.n Q.T Q.row σ nm v→Q.F nm=v∧nm.size≤maxLen∧nm∈nms (vrs Q.n)) {t:Tm} {v:Int} (h:LI Q.n Q.T Q.row σ t v):LP Q σ t v:=by
 cases h with
 |l h=>exact .no (by show _≠_;rcases h with h|h<;>(rw[show (Tm.l _ _).e.op=_ from h];decide)) (by rcases h with h|h<;>(rw[show (Tm.l _ _).e.op=_ from h];decide))
 |pre h1 h2=>exact .pre h1 rfl (tof_any hk hF h2)
 |fby h1 h2=>exact .fby h1 rfl (tof_any hk hF h2)
 |arr h=>exact .no (by rw[show (Tm.p _ _ _ _).e.op=_ from h];decide) (by rw[show (Tm.p _ _ _ _).e.op=_ from h];decide)
theorem turn1_any {Q:StQ} {σ:Past} {C:Nat} (hk:StK Q) (hC:Q.K<C∧Q.R<C∧Q.D<C) {t:Tm} {v:Int} (ht:t∈allT Q.T) (hv:LP Q σ t v) (hl:LI Q.n Q.T Q.row σ t v) (w:World) (l:List Tm) (hN:l.length≤1000000) (h:TuP Q σ C w l):
  Calls Tryz.prog 78 (#[.pointer (some ⟨t.b,0,none⟩)]++ #[.pointer (some ⟨C,0,none⟩),.pointer (some ⟨C+2,0,none⟩),.pointer (some ⟨C+1,0,none⟩)]) w fun r w'=>r= .returned (.tuple #[])∧TuP Q σ C w' (l++ [t])∧Sty Q.lo Q.hi w w'∧Upd (fun j=>j=Q.K∨C≤j) w w':=by
 obtain ⟨L,cs,vc,xs,h⟩:=h
 obtain ⟨i0,hi0,hz0,hz1,hz2⟩:=info_parts info_fun
 have HQ:=Lib.hid hk
 have hCl:=h.c.lt
 have hC1:=hC.1
 have hhi:=hk.hi
 have b1:Below w.heap.size w (w.alloc (.cells #[.pointer (some ⟨t.b,0,none⟩)] 114)):=bE
 have rp:=Row.new w #[.pointer (some ⟨t.b,0,none⟩)] 114
 have HH:=Lib.hid h
 have HT:Hid (∀W,Below w.heap.size w W→TmAt σ W Q.lo Q.hi t):=fun W hW=>(h.st.below HQ.out hW).at_ ht
 have HCC:Hid (∀W,Below w.heap.size w W→W.cell? ⟨C,0,none⟩=some (.pointer (some ⟨Q.R,0,none⟩))∧W.cell? ⟨C+1,0,none⟩=some (.pointer (some ⟨Q.D,0,none⟩))∧W.cell? ⟨C+2,0,none⟩=some vc):=fun W hW=>
  ⟨((h.r.below hW h.r.lt).cell 0).trans rfl,((h.d.below hW h.d.lt).cell 0).trans rfl,((h.c.below hW h.c.lt).cell 0).trans rfl⟩
 have HD7:Hid (∀W,Below w.heap.size w W→W.cell? ⟨Q.D,7,none⟩=some (.pointer none)):=fun W hW=>(((h.st.below HQ.out hW).rd).cell 7).trans rfl
 obtain ⟨-,A',cap',pa,kc,rt,sp⟩:=(HT.out _ b1).row
 clear h
 show Calls _ _ #[.pointer (some ⟨t.b,0,none⟩),.pointer (some ⟨C,0,none⟩),.pointer (some ⟨C+2,0,none⟩),.pointer (some ⟨C+1,0,none⟩)] _ _
 go_enter Tryz.func78,Tryz.ntmps78
 go_upto_region 1 with (fail)
 change Code.wp _ _ _ _ (w.alloc (.cells #[.pointer (some ⟨t.b,0,none⟩)] 114))
 generalize w.alloc (.cells #[.pointer (some ⟨t.b,0,none⟩)] 114)=W1 at*
 obtain ⟨c0,c1,c2⟩:=HCC.out W1 b1
 have p0:W1.cell? ⟨w.heap.size,0,none⟩=some (.pointer (some ⟨t.b,0,none⟩)):=(rp.cell 0).trans rfl
 have q8:W1.cell? ⟨t.b,8,none⟩=some (.pointer none):=(rt.cell 8).trans rfl
 have q6:W1.cell? ⟨t.b,6,none⟩=some (.slice kc.1 0 kc.2):=(rt.cell 6).trans rfl
 have q0:W1.cell? ⟨t.b,0,none⟩=some (.int .i64 t.e.op):=(rt.cell 0).trans rfl
 have d7:=HD7.out W1 b1
 have HTH:=Lib.hid (fun n=>there_any (.pointer (some ⟨Q.R,0,none⟩)) Q.D kc.1 kc.2 (W1.drewN n) d7)
 go_wp2_with fail
 go_quiet ((go_at_call 79;exact rq0_of (HTH.out _)))
 go_upto_region 4 with (fail)
 have b2:Below w.heap.size w (W1.drewN nq):=below_drewN' b1 _
 have rp2:Row (W1.drewN nq) w.heap.size #[.pointer (some ⟨t.b,0,none⟩)] 114:=rp
 clear c0 c1 c2 p0 q8 q6 q0 d7 rt sp HTH rp b1
 generalize W1.drewN nq=W2 at*
 have hs2:=b2.size
 have b3:Below w.heap.size w (W2.alloc (.cells #[.int .i64 0] 3)):=bE
 have rq:=Row.new W2 #[.int .i64 0] 3
 have rp3:=rp2.alloc (.cells #[.int .i64 0] 3)
 have hpl:w.heap.size<W2.heap.size:=rp2.lt
 go_upto_region 5 with (fail)
 change Code.wp _ _ _ _ (W2.alloc (.cells #[.int .i64 0] 3))
 have hs3:(W2.alloc (.cells #[.int .i64 0] 3)).heap.size=W2.heap.size+1:=by simp
 clear b2 rp2
 generalize W2.alloc (.cells #[.int .i64 0] 3)=W3 at*
 have hs3':=Nat.le_of_eq hs3
 have hs3'':=Nat.le_of_eq hs3.symm
 clear hs3
 have HU:Hid (∀W,Upd (fun j=>j=Q.K∨j=W2.heap.size) W3 W→Row W C #[.pointer (some ⟨Q.R,0,none⟩)] 71∧Row W (C+1) #[.pointer (some ⟨Q.D,0,none⟩)] 74∧Row W (C+2) #[vc] 123∧Row W w.heap.size #[.pointer (some ⟨t.b,0,none⟩)] 114∧W.ownsRow (C+3) 1 1 vc cs.length xs∧ChAt W (C+3) cs xs):=fun W hW=>by
  have hr:=HH.out.r.below b3 HH.out.r.lt
  have hd:=HH.out.d.below b3 HH.out.d.lt
  have hc:=HH.out.c.below b3 HH.out.c.lt
  have hl1:=HH.out.r.lt
  have hl2:=HH.out.d.lt
  have uA:Upd (fun j=>j=Q.K) w W:=((Upd.of_below b3).trans hW).only (fun k e hk=>by rcases e with e|e;exact e;omega)
  exact ⟨hW.row hr (by omega),hW.row hd (by omega),hW.row hc (by omega),hW.row rp3 (by omega),own_updX HH.out.own uA (fun k e=>by omega),HH.out.at_.upd uA (fun k hx=> .inl (by omega))⟩
 have hst3:=HH.out.st.below HQ.out b3
 have HX3:=Lib.hid hst3
 obtain ⟨-,A',cap',pa,kc,rt,Ap,cp,rfl,l1,m1,sp⟩:=(hst3.at_ ht).row
 have HXP:=Lib.hid (fun (W:World) (hW:Sty Q.lo Q.hi W3 W) (k:Nat) (hk:k<t.parts.length)=>ptr_at sp hW (by rw[List.length_map];exact hk))
 rw[List.length_map] at l1
 obtain ⟨u1,u2,u3,u4,u5,u6⟩:=HU.out W3 (Upd.refl _ _)
 have c0:W3.cell? ⟨C,0,none⟩=some (.pointer (some ⟨Q.R,0,none⟩)):=(u1.cell 0).trans rfl
 have c1:W3.cell? ⟨C+1,0,none⟩=some (.pointer (some ⟨Q.D,0,none⟩)):=(u2.cell 0).trans rfl
 have p0:W3.cell? ⟨w.heap.size,0,none⟩=some (.pointer (some ⟨t.b,0,none⟩)):=(u4.cell 0).trans rfl
 have q0:W3.cell? ⟨t.b,0,none⟩=some (.int .i64 t.e.op):=(rt.cell 0).trans rfl
 have q7:W3.cell? ⟨t.b,7,none⟩=some (.slice Ap t.parts.length cp):=by rw[←List.length_map (f:=Tm.b)];exact (rt.cell 7).trans rfl
 have hlw:=HH.out.r.lt
 have HKA:Hid (∀W,Upd (fun j=>j=Q.K∨j=W2.heap.size) W3 W→(W.cell? ⟨C,0,none⟩=some (.pointer (some ⟨Q.R,0,none⟩))∧W.cell? ⟨C+1,0,none⟩=some (.pointer (some ⟨Q.D,0,none⟩))∧W.cell? ⟨w.heap.size,0,none⟩=some (.pointer (some ⟨t.b,0,none⟩))∧W.cell? ⟨t.b,7,none⟩=some (.slice Ap t.parts.length cp))∧Sty Q.lo Q.hi W3 W∧True):=fun W hW=>by
  obtain ⟨g1,g2,g3,g4,g5,g6⟩:=HU.out W hW
  have hb:=((HH.out.st.below HQ.out b3).at_ ht).row.1
  have rt':=hW.row rt (by omega)
  exact ⟨⟨(g1.cell 0).trans rfl,(g2.cell 0).trans rfl,(g4.cell 0).trans rfl,by rw[←List.length_map (f:=Tm.b)];exact (rt'.cell 7).trans rfl⟩,fun k h1 h2=>hW.block k (by omega) (fun e=>by omega),trivial⟩
 have m1':cp≤9223372036854775807:=by unfold maxLen at m1;omega
 have rq0:=rq
 clear u1 u2 u3 u4 u5 u6 rt sp m1 hst3 rp3
 go_upto_region 5 with (fail)
 go_cut[30] (fun v30 W=>v30= .int .i64 t.e.op∧W3=W)
 case first=>
  go_wp2_with fail
  go_meet
  exact ⟨rfl,rfl⟩
 obtain ⟨rfl,rfl⟩:=hcut
 rename_i hKK
 refine hKK _ _ ?_
 go_cut[] (fun W=>Row W W2.heap.size #[.int .i64 v] 3∧(∃L',StAt Q σ W L')∧Upd (fun j=>j=Q.K∨j=W2.heap.size) W3 W)
 case first=>
  cases hv with
  |no h21 h22=>
   have e21:(t.e.op==21)=false:=by simp[h21]
   have e22:(t.e.op==22)=false:=by simp[h22]
   clear h21 h22
   go_wp2_with fail
   go_meet
   exact ⟨rq,⟨_,HX3.out⟩,Upd.refl _ _⟩
  |pre ho hx hof=>
   rename_i x
   have hxl:=(List.getElem?_eq_some_iff.1 hx).1
   obtain ⟨b9,off9,x9,hA9,hx9,hc9⟩:=HXP.out W3 (fun _ _ _=>rfl) 0 hxl
   subst hA9
   rw[List.getElem?_map,hx] at hx9
   cases hx9
   have HKK:Hid (∀W,Upd (fun j=>j=Q.K∨j=W2.heap.size) W3 W→W.cell? ⟨C,0,none⟩=some (.pointer (some ⟨Q.R,0,none⟩))∧W.cell? ⟨C+1,0,none⟩=some (.pointer (some ⟨Q.D,0,none⟩))∧W.cell? ⟨w.heap.size,0,none⟩=some (.pointer (some ⟨t.b,0,none⟩))∧W.cell? ⟨t.b,7,none⟩=some (.slice (some ⟨b9,off9,none⟩) t.parts.length cp)∧W.cell? ⟨b9,off9,none⟩=some (.pointer (some ⟨x.b,0,none⟩))):=fun W hW=>by
    obtain ⟨g1,g2,-⟩:=HKA.out W hW
    obtain ⟨b8,off8,x8,hA8,hx8,hc8⟩:=HXP.out W g2 0 hxl
    cases hA8
    rw[List.getElem?_map,hx] at hx8
    cases hx8
    exact ⟨g1.1,g1.2.1,g1.2.2.1,g1.2.2.2,by simpa using hc8⟩
   have hxa:x∈t.all:=part_in (fun u hu=>hu) x (List.mem_of_getElem? hx) x (Tm.all_self x)
   have HOF:Hid (∀W,Below W3.heap.size W3 W→Calls Tryz.prog 80 #[.pointer (some ⟨Q.R,0,none⟩),.pointer (some ⟨Q.D,0,none⟩),.pointer (some ⟨x.b,0,none⟩)] W fun r W'=>r= .returned (.int .i64 v)∧(∃L',StAt Q σ W' L')∧Upd (fun j=>j=Q.K) W3 W'):=fun W hW=>by
    have h9:=HX3.out.below HQ.out hW
    refine Calls.mono (hof W _ h9 ((h9.at_ ht).sub x hxa)) ?_
    rintro r W' ⟨rfl,h1,h2⟩
    exact ⟨rfl,h1,(Upd.of_below hW).trans h2⟩
   have qq:=HKK.out W3 (Upd.refl _ _)
   obtain ⟨-,-,-,q7,q9⟩:=qq
   have qq:=HKK.out W3 (Upd.refl _ _)
   have i0:((0:Nat):Int)<(t.parts.length:Int):=by omega
   have i1:(0:Int)<(t.parts.length:Int):=by omega
   have e21:(t.e.op==21)=true:=by simp[ho]
   clear hof hx ho hc9
   go_upto_region 7 with (fail)
   clear q0
   refine wp_region_held_drew (S:=fun W=>W.cell? ⟨C,0,none⟩=some (.pointer (some ⟨Q.R,0,none⟩))∧W.cell? ⟨C+1,0,none⟩=some (.pointer (some ⟨Q.D,0,none⟩))∧W.cell? ⟨w.heap.size,0,none⟩=some (.pointer (some ⟨t.b,0,none⟩))∧W.cell? ⟨t.b,7,none⟩=some (.slice (some ⟨b9,off9,none⟩) t.parts.length cp)∧W.cell? ⟨b9,off9,none⟩=some (.pointer (some ⟨x.b,0,none⟩))) (by kernel_rfl) ?_ (fun hHeld=>?_)
   ·(try dsimp only);(first|exact qq7|exact qq9|exact qq|exact hHeld|assumption|trivial)
   refine tk 0 (some 33) rfl ?_
   refine tk 1 (some 34) rfl ?_
   refine tk 2 (some 35) rfl ?_
   refine tk 3 (some 36) rfl ?_
   refine tk 4 (some 37) rfl ?_
   refine tk 5 (some 38) rfl ?_
   refine tk 6 (some 39) rfl ?_
   refine tk 7 (some 40) rfl ?_
   refine rd1 8 (some 41) rfl (fun KK hKK=>?_)
   go_simp
   ((go_at_call 80);(refine Calls.mono (HOF.out _ bE) ?_);rintro r w7 ⟨rfl,⟨L7,h7⟩,hu7⟩;(have hu8:Upd (fun j=>j=Q.K∨j=W2.heap.size) W3 w7:=hu7.mono (fun j e=>Or.inl e));(have qq7:=HKK.out w7 hu8);(have rq7:=hu7.row rq (by omega));(have f7:=rq7.frozen 0);(have g7:=(rq7.cell 0).trans rfl);(have qq9:=HKK.out (w7.setCell ⟨W2.heap.size,0,none⟩ (.int .i64 v)) (hu8.setCell (p:=⟨W2.heap.size,0,none⟩) (Or.inr rfl) _)))
   (try go_wp2_with fail)
   refine hKK.out _ _ ?_ (fun hHeld=>?_)
   ·(try dsimp only);(first|exact qq7|exact qq9|exact qq|exact hHeld|assumption|trivial)
   clear hKK KK
   try simp only[Act.put,List.setIfInBounds_toArray,List.set_cons_zero,List.set_cons_succ]
   refine rd1 9 none rfl (fun KK hKK=>?_)
   go_simp
   refine hKK.out _ _ ?_ (fun hHeld=>?_)
   ·(try dsimp only);(first|exact qq7|exact qq9|exact qq|exact hHeld|assumption|trivial)
   clear hKK KK
   try simp only[Act.put,List.setIfInBounds_toArray,List.set_cons_zero,List.set_cons_succ]
   refine wpAnyH_done (by kernel_rfl) ?_ _
   go_wp2_with fail
   go_meet
   exact ⟨by have:=rq7.set 0 (.int .i64 v);simpa using this,⟨L7,h7.wide HQ.out hC ((Upd.refl (fun j=>j=W2.heap.size) w7).setCell (p:=⟨W2.heap.size,0,none⟩) rfl _) (fun j e=>by omega) (by have:=hu7.size;omega)⟩,hu8.setCell (p:=⟨W2.heap.size,0,none⟩) (Or.inr rfl) _⟩
  |fby ho hx hof=>
   rename_i x
   have hxl:=(List.getElem?_eq_some_iff.1 hx).1
   obtain ⟨b9,off9,x9,hA9,hx9,hc9⟩:=HXP.out W3 (fun _ _ _=>rfl) 1 hxl
   subst hA9
   rw[List.getElem?_map,hx] at hx9
   cases hx9
   have HKK:Hid (∀W,Upd (fun j=>j=Q.K∨j=W2.heap.size) W3 W→W.cell? ⟨C,0,none⟩=some (.pointer (some ⟨Q.R,0,none⟩))∧W.cell? ⟨C+1,0,none⟩=some (.pointer (some ⟨Q.D,0,none⟩))∧W.cell? ⟨w.heap.size,0,none⟩=some (.pointer (some ⟨t.b,0,none⟩))∧W.cell? ⟨t.b,7,none⟩=some (.slice (some ⟨b9,off9,none⟩) t.parts.length cp)∧W.cell? ⟨b9,off9+1,none⟩=some (.pointer (some ⟨x.b,0,none⟩))):=fun W hW=>by
    obtain ⟨g1,g2,-⟩:=HKA.out W hW
    obtain ⟨b8,off8,x8,hA8,hx8,hc8⟩:=HXP.out W g2 1 hxl
    cases hA8
    rw[List.getElem?_map,hx] at hx8
    cases hx8
    exact ⟨g1.1,g1.2.1,g1.2.2.1,g1.2.2.2,by simpa using hc8⟩
   have hxa:x∈t.all:=part_in (fun u hu=>hu) x (List.mem_of_getElem? hx) x (Tm.all_self x)
   have HOF:Hid (∀W,Below W3.heap.size W3 W→Calls Tryz.prog 80 #[.pointer (some ⟨Q.R,0,none⟩),.pointer (some ⟨Q.D,0,none⟩),.pointer (some ⟨x.b,0,none⟩)] W fun r W'=>r= .returned (.int .i64 v)∧(∃L',StAt Q σ W' L')∧Upd (fun j=>j=Q.K) W3 W'):=fun W hW=>by
    have h9:=HX3.out.below HQ.out hW
    refine Calls.mono (hof W _ h9 ((h9.at_ ht).sub x hxa)) ?_
    rintro r W' ⟨rfl,h1,h2⟩
    exact ⟨rfl,h1,(Upd.of_below hW).trans h2⟩
   have qq:=HKK.out W3 (Upd.refl _ _)
   obtain ⟨-,-,-,q7,q9⟩:=qq
   have qq:=HKK.out W3 (Upd.refl _ _)
   have i0:((1:Nat):Int)<(t.parts.length:Int):=by omega
   have i1:(1:Int)<(t.parts.length:Int):=by omega
   have e21:(t.e.op==21)=false:=by simp[ho]
   have e22:(t.e.op==22)=true:=by simp[ho]
   clear hof hx ho hc9
   go_upto_region 9 with (fail)
   clear q0
   refine wp_region_held_drew (S:=fun W=>W.cell? ⟨C,0,none⟩=some (.pointer (some ⟨Q.R,0,none⟩))∧W.cell? ⟨C+1,0,none⟩=some (.pointer (some ⟨Q.D,0,none⟩))∧W.cell? ⟨w.heap.size,0,none⟩=some (.pointer (some ⟨t.b,0,none⟩))∧W.cell? ⟨t.b,7,none⟩=some (.slice (some ⟨b9,off9,none⟩) t.parts.length cp)∧W.cell? ⟨b9,off9+1,none⟩=some (.pointer (some ⟨x.b,0,none⟩))) (by kernel_rfl) ?_ (fun hHeld=>?_)
   ·(try dsimp only);(first|exact qq7|exact qq9|exact qq|exact hHeld|assumption|trivial)
   refine tk 0 (some 44) rfl ?_
   refine tk 1 (some 45) rfl ?_
   refine tk 2 (some 46) rfl ?_
   refine tk 3 (some 47) rfl ?_
   refine tk 4 (some 48) rfl ?_
   refine tk 5 (some 49) rfl ?_
   refine tk 6 (some 50) rfl ?_
   refine tk 7 (some 51) rfl ?_
   refine rd1 8 (some 52) rfl (fun KK hKK=>?_)
   go_simp
   ((go_at_call 80);(refine Calls.mono (HOF.out _ bE) ?_);rintro r w7 ⟨rfl,⟨L7,h7⟩,hu7⟩;(have hu8:Upd (fun j=>j=Q.K∨j=W2.heap.size) W3 w7:=hu7.mono (fun j e=>Or.inl e));(have qq7:=HKK.out w7 hu8);(have rq7:=hu7.row rq (by omega));(have f7:=rq7.frozen 0);(have g7:=(rq7.cell 0).trans rfl);(have qq9:=HKK.out (w7.setCell ⟨W2.heap.size,0,none⟩ (.int .i64 v)) (hu8.setCell (p:=⟨W2.heap.size,0,none⟩) (Or.inr rfl) _)))
   (try go_wp2_with fail)
   refine hKK.out _ _ ?_ (fun hHeld=>?_)
   ·(try dsimp only);(first|exact qq7|exact qq9|exact qq|exact hHeld|assumption|trivial)
   clear hKK KK
   try simp only[Act.put,List.setIfInBounds_toArray,List.set_cons_zero,List.set_cons_succ]
   refine rd1 9 none rfl (fun KK hKK=>?_)
   go_simp
   refine hKK.out _ _ ?_ (fun hHeld=>?_)
   ·(try dsimp only);(first|exact qq7|exact qq9|exact qq|exact hHeld|assumption|trivial)
   clear hKK KK
   try simp only[Act.put,List.setIfInBounds_toArray,List.set_cons_zero,List.set_cons_succ]
   refine wpAnyH_done (by kernel_rfl) ?_ _
   go_wp2_with fail
   go_meet
   exact ⟨by have:=rq7.set 0 (.int .i64 v);simpa using this,⟨L7,h7.wide HQ.out hC ((Upd.refl (fun j=>j=W2.heap.size) w7).setCell (p:=⟨W2.heap.size,0,none⟩) rfl _) (fun j e=>by omega) (by have:=hu7.size;omega)⟩,hu8.setCell (p:=⟨W2.heap.size,0,none⟩) (Or.inr rfl) _⟩
 case rest=>
  obtain ⟨rqc,⟨L',hstc⟩,huc⟩:=hcut
  obtain ⟨u1,u2,u3,u4,u5,u6⟩:=HU.out wc huc
  obtain ⟨Av,cv,hv',-⟩:=own_rd u5
  subst hv'
  have c2:wc.cell? ⟨C+2,0,none⟩=some (.slice Av cs.length cv):=(u3.cell 0).trans rfl
  have f2:=u3.frozen 0
  have HO:=Lib.hid u5
  have hlen:cs.length≤1000000:=by rw[HH.out.is.len];exact hN
  have hsc:=huc.size
  have HSC:=Lib.hid hstc
  have HC:=Lib.hid u6
  have HR1:=Lib.hid u1
  have HR2:=Lib.hid u2
  have HR3:=Lib.hid u3
  have HRP:=Lib.hid u4
  have HRQ:=Lib.hid rqc
  have hcl:C+3≤wc.heap.size:=by have:=u3.lt;omega
  clear u1 u2 u3 u4 u5 u6 hstc rqc rq rq0 c0 c1 p0 q0 q7 hv
  go_wp2_with (at_builtin;refine wpList_append_any _ rfl _ _ 123 rfl (C+3) 1 i0 .nilFunc 1 8 Tryz.underlying123 hi0 hz0 hz1 hz2 rfl (by decide) _ _ _ rfl (HO.out.alloc _) ⟨_,0,none⟩ 1 1 [.func (.func 81) #[] #[.pointer (some ⟨W2.heap.size,0,none⟩),.pointer (some ⟨w.heap.size,0,none⟩)]] rfl rfl (cells_new5 _ _ _) (by intro u hu;simp at hu;subst hu;rfl) (by unfold maxLen;omega) (by omega) (by first|omega|(simp;omega)|simp) ?_)
  intro v9 w9 hown9 hg9 hb9
  obtain ⟨A9,c9,hv9,-⟩:=own_rd hown9
  subst hv9
  have r9:=Row.ownB (HR3.out.alloc _) (HO.out.alloc _) (by omega) hg9
  have f9:=r9.frozen 0
  have g9:=(r9.cell 0).trans rfl
  have u9:Upd (fun j=>(Value.slice Av cs.length cv).ownBlock=some j) wc w9:=(Upd.of_below (bE:Below wc.heap.size wc (wc.alloc (.cells #[.func (.func 81) #[] #[.pointer (some ⟨W2.heap.size,0,none⟩),.pointer (some ⟨w.heap.size,0,none⟩)]] 1)))).trans ⟨hg9.os,hg9.tape,hg9.output,hg9.size,fun j hj hX=>hg9.block j hj (fun e=>hX e.symm)⟩
  have u10:Upd (fun j=>j=C+2) w9 (w9.setCell ⟨C+2,0,none⟩ (.slice A9 (cs.length+1) c9)):=(Upd.refl (fun j=>j=C+2) w9).setCell (p:=⟨C+2,0,none⟩) rfl _
  have U:Upd (fun j=>(Value.slice Av cs.length cv).ownBlock=some j∨j=C+2) wc (w9.setCell ⟨C+2,0,none⟩ (.slice A9 (cs.length+1) c9)):=(u9.mono (fun j e=>Or.inl e)).trans (u10.mono (fun j e=>Or.inr e))
  have hX:∀j,((Value.slice Av cs.length cv).ownBlock=some j∨j=C+2)→C+2≤j:=fun j e=>by
   rcases e with e|e
   ·have:=(own_row HO.out j e).1;omega
   ·omega
  have hchg:isChg wc (C+3) (t.b,v) (.func (.func 81) #[] #[.pointer (some ⟨W2.heap.size,0,none⟩),.pointer (some ⟨w.heap.size,0,none⟩)]):=⟨w.heap.size,W2.heap.size,by omega,by omega,rfl,HRP.out,HRQ.out⟩
  have HFIN:Hid (TuP Q σ C (w9.setCell ⟨C+2,0,none⟩ (.slice A9 (cs.length+1) c9)) (l++ [t])):=⟨L',cs++ [(t.b,v)],.slice A9 (cs.length+1) c9,xs++ [.func (.func 81) #[] #[.pointer (some ⟨W2.heap.size,0,none⟩),.pointer (some ⟨w.heap.size,0,none⟩)]],{
   st:=HSC.out.wide HQ.out hC U (fun j e=>by have:=hX j e;omega) (by omega)
   r:=U.row HR1.out (fun e=>by have:=hX _ e;omega)
   d:=U.row HR2.out (fun e=>by have:=hX _ e;omega)
   c:=by
    have:=r9.set 0 (.slice A9 (cs.length+1) c9)
    simpa using this
   own:=by
    have:=own_updX hown9 u10 (fun k e=>by omega)
    rwa [show (cs++ [(t.b,v)]).length=cs.length+1 by simp]
   at_:=(HC.out.snoc hchg).upd U (fun k e=>by
    rcases e with e|e
    ·exact .inr (own_row HO.out k e).2
    ·exact .inl (by omega))
   is:=HH.out.is.snoc hl}⟩
  have HSTY:Hid (Sty Q.lo Q.hi w (w9.setCell ⟨C+2,0,none⟩ (.slice A9 (cs.length+1) c9))):=fun k h1 h2=>
   (U.block k (by omega) (fun e=>by have:=hX _ e;omega)).trans ((huc.block k (by omega) (fun e=>by omega)).trans (b3.block k (by omega)))
  have HUP:Hid (Upd (fun j=>j=Q.K∨C≤j) w (w9.setCell ⟨C+2,0,none⟩ (.slice A9 (cs.length+1) c9))):=(Upd.of_below b3).trans ((huc.mono (fun j e=>by omega)).trans (U.mono (fun j e=>by have:=hX j e;omega)))
  clear u9 u10 U hX hchg r9 hown9 hg9 hb9
  go_wp2_with fail
  (try simp only[Exit.inBlock,Exit.then])
  refine bodyPost_end (results_none rfl _ _ _) rfl ?_
  exact ⟨rfl,HFIN.out,HSTY.out,HUP.out⟩
end Go.Proofs.YtdkgkacnjdnpoaaGreat
