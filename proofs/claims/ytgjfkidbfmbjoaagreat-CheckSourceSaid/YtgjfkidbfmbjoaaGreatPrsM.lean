/-
  The contracts of the parser's ports and equation. The contract of the parser's equation. A region that draws its order and ends in a store: what is held of the world need not be held behind that store. Rows that grow while what their elements point to lies elsewhere: the world without the row's own block.
-/
import Derived.Test.YtgjfkidbfmbjoaaGreatPrsJ
import Derived.Test.YtgjfkidbfmbjoaaGreatMem
set_option maxHeartbeats 1000000
set_option maxRecDepth 100000
namespace Go.Proofs.YtgjfkidbfmbjoaaGreat
open Go.RowKit Nm
attribute [local go_sem] field_tk0 field_tk1 field_tk3
abbrev VrH (w:World) (lo hi:Nat) (v:Value) (l:List Vr):Prop:=SlV (hide lo w) hi 5 (isVr (hide lo w) hi) v l
theorem VrH.upd {X:Nat→Prop} {w w':World} {lo hi:Nat} {v:Value} {l:List Vr} (h:VrH w lo hi v l) (hu:Upd X w w') (hX:∀k,X k→k<lo∨hi≤k) (hh:hi≤w.heap.size):VrH w' lo hi v l:=
 SlV.keep h (keeps_of (hu.bhide hX hh)) (Nat.le_refl _) (fun _ _ _ h=>isVr_keep (keeps_of (hu.bhide hX hh)) (Nat.le_refl _) h)
theorem VrH.wide {w:World} {lo lo' hi hi':Nat} {v:Value} {l:List Vr} (h:VrH w lo hi v l) (hl:lo'≤lo) (hh:hi≤hi'):VrH w lo' hi' v l:=
 SlV.keep h (hide_more hl hi w) hh (fun _ _ _ h=>isVr_keep (hide_more hl hi w) hh h)
theorem pports_is {P:List Tok} {i:Nat} {x:List Vr × Nat} (h:pports P i=some x):∃i1 y,pwant P [40] i=some i1∧pgroup P i1=some y∧pnot P [59] y.2=some ()∧pwant P [41] y.2=some x.2∧x.1=y.1:=by
 obtain ⟨i1,h1,h⟩:=Option.bind_eq_some_iff.1 h
 obtain ⟨y,h2,h⟩:=Option.bind_eq_some_iff.1 h
 obtain ⟨_,h3,h⟩:=Option.bind_eq_some_iff.1 h
 obtain ⟨i3,h4,h⟩:=Option.bind_eq_some_iff.1 h
 cases h
 exact ⟨i1,y,h1,h2,h3,h4,rfl⟩
theorem ports_any {P:Pr} {o i:Nat} {x:List Vr × Nat} {w:World} (h:PrAt w o P i) (hx:pports P.l i=some x):
  Calls Tryz.prog 214 #[.pointer (some ⟨o,0,none⟩)] w fun r w'=>(∃v,r= .returned v∧VrH w' w.heap.size w'.heap.size v x.1)∧PrL w o P x.2 w':=by
 obtain ⟨i1,y,h1,h2,h3,h4,hx1⟩:=pports_is hx
 have hol:=h.lt
 have HW:=Lib.hid (want_any h ⟨#[40]⟩ h1)
 have HX1:=Lib.hid hx1
 have HG:=Lib.hid h2
 have HN:=Lib.hid h3
 have HW2:=Lib.hid h4
 clear h hx hx1 h1 h2 h3 h4
 go_enter Tryz.func214,Tryz.ntmps214
 go_wp2_with fail
 refine HW.out.mono ?_
 rintro r w2 ⟨rfl,q2⟩
 have hs2:=q2.2.size
 go_wp2_with fail
 go_loopw[3] (fun v wr=>v= .slice none 0 0∧wr=w2) (fun _ _=>0)
 case atStart=>exact ⟨rfl,rfl⟩
 case round=>
  obtain ⟨rfl,rfl⟩:=hrel
  have HC:=Lib.hid (group_any q2.1 HG.out)
  go_wp2_with fail
  refine HC.out.mono ?_
  rintro r w3 ⟨⟨v,rfl,hv⟩,q3⟩
  have hs3:=q3.2.size
  obtain ⟨t,ht,hn⟩:=pnot_is HN.out
  have HT:=Lib.hid (take_no q3.1 ht ⟨#[59]⟩ hn)
  have HV:=Lib.hid hv
  clear hv
  go_wp2_with fail
  refine HT.out.mono ?_
  rintro r w4 ⟨rfl,q4⟩
  have hs4:=q4.2.size
  have HW3:=Lib.hid (want_any q4.1 ⟨#[41]⟩ HW2.out)
  go_wp2_with fail
  refine HW3.out.mono ?_
  rintro r w5 ⟨rfl,q5⟩
  have hs5:=q5.2.size
  have HV5:Hid (VrH w5 w.heap.size w5.heap.size v x.1):=by
   show VrH _ _ _ _ _
   rw[HX1.out]
   exact (VrH.upd HV.out (q4.2.trans q5.2) (fun k e=>by omega) (Nat.le_refl _)).wide (by omega) (by omega)
  go_wp2_with fail
  go_ret
  exact ⟨⟨_,rfl,HV5.out⟩,((q2.trans q3).trans q4).trans q5⟩
theorem peqn_is {P:List Tok} {n i:Nat} {x:Eqn × Nat} (h:peqn P n i=some x):∃a j y,pname P i=some a∧n≠48∧pwant P [61] a.2=some j∧pexpr P 40 0 1 j=some y∧pwant P [59] y.2.2=some x.2∧x.1=⟨[a.1.text],y.1,a.1.line,a.1.col⟩:=by
 obtain ⟨a,h1,h⟩:=Option.bind_eq_some_iff.1 h
 cases hn:n==48 with
 |true=>rw[hn] at h;cases h
 |false=>
  rw[hn,cond_false] at h
  obtain ⟨j,h2,h⟩:=Option.bind_eq_some_iff.1 h
  obtain ⟨y,h3,h⟩:=Option.bind_eq_some_iff.1 h
  obtain ⟨k,h4,h⟩:=Option.bind_eq_some_iff.1 h
  cases h
  exact ⟨a,j,y,h1,beq_eq_false_iff_ne.1 hn,h2,h3,h4,rfl⟩
abbrev eq9 (v0 v1 v2 v3 v4 v5 v6 v7 v8:Value):Array Value:= #[v0,v1,v2,v3,v4,v5,v6,v7,v8]
section
variable {W:World} {b:Nat} {v0 v1 v2 v3 v4 v5 v6 v7 v8:Value} {t:TypeId}
theorem Row.e9 (h:Row W b (eq9 v0 v1 v2 v3 v4 v5 v6 v7 v8) t):(W.cell? ⟨b,0,none⟩=some v0∧W.cell? ⟨b,1,none⟩=some v1∧W.cell? ⟨b,2,none⟩=some v2∧W.cell? ⟨b,3,none⟩=some v3∧W.cell? ⟨b,4,none⟩=some v4∧W.cell? ⟨b,5,none⟩=some v5∧W.cell? ⟨b,6,none⟩=some v6∧W.cell? ⟨b,7,none⟩=some v7∧W.cell? ⟨b,8,none⟩=some v8)∧
  (W.frozen? ⟨b,0,none⟩=false∧W.frozen? ⟨b,1,none⟩=false∧W.frozen? ⟨b,2,none⟩=false∧W.frozen? ⟨b,3,none⟩=false∧W.frozen? ⟨b,4,none⟩=false∧W.frozen? ⟨b,5,none⟩=false∧W.frozen? ⟨b,6,none⟩=false∧W.frozen? ⟨b,7,none⟩=false∧W.frozen? ⟨b,8,none⟩=false):=
 ⟨⟨(h.cell 0).trans rfl,(h.cell 1).trans rfl,(h.cell 2).trans rfl,(h.cell 3).trans rfl,(h.cell 4).trans rfl,(h.cell 5).trans rfl,(h.cell 6).trans rfl,(h.cell 7).trans rfl,(h.cell 8).trans rfl⟩,h.frozen 0,h.frozen 1,h.frozen 2,h.frozen 3,h.frozen 4,h.frozen 5,h.frozen 6,h.frozen 7,h.frozen 8⟩
theorem Row.e9six (h:Row W b (eq9 v0 v1 v2 v3 v4 v5 v6 v7 v8) t) (x1 x2 x3 x4 x5 x6:Value):Row ((((((W.setCell ⟨b,1,none⟩ x1).setCell ⟨b,2,none⟩ x2).setCell ⟨b,3,none⟩ x3).setCell ⟨b,4,none⟩ x4).setCell ⟨b,5,none⟩ x5).setCell ⟨b,6,none⟩ x6) b (eq9 v0 x1 x2 x3 x4 x5 x6 v7 v8) t:=by
 have:=(((((h.set 1 x1).set 2 x2).set 3 x3).set 4 x4).set 5 x5).set 6 x6
 simpa using this
theorem Row.e9all (h:Row W b (eq9 v0 v1 v2 v3 v4 v5 v6 v7 v8) t) (x0 x1 x2 x3 x4 x5 x6 x7 x8:Value):Row (((((((((W.setCell ⟨b,0,none⟩ x0).setCell ⟨b,1,none⟩ x1).setCell ⟨b,2,none⟩ x2).setCell ⟨b,3,none⟩ x3).setCell ⟨b,4,none⟩ x4).setCell ⟨b,5,none⟩ x5).setCell ⟨b,6,none⟩ x6).setCell ⟨b,7,none⟩ x7).setCell ⟨b,8,none⟩ x8) b (eq9 x0 x1 x2 x3 x4 x5 x6 x7 x8) t:=by
 have:=((((((((h.set 0 x0).set 1 x1).set 2 x2).set 3 x3).set 4 x4).set 5 x5).set 6 x6).set 7 x7).set 8 x8
 simpa using this
theorem upd_e9six (w:World) (g:Nat) (y1 y2 y3 y4 y5 y6:Value):Upd (fun x=>x=g) w ((((((w.setCell ⟨g,1,none⟩ y1).setCell ⟨g,2,none⟩ y2).setCell ⟨g,3,none⟩ y3).setCell ⟨g,4,none⟩ y4).setCell ⟨g,5,none⟩ y5).setCell ⟨g,6,none⟩ y6):=by
 have h0:Upd (fun x=>x=g) w w:=Upd.refl _ _
 exact (((((h0.setCell (p:=⟨g,1,none⟩) rfl y1).setCell (p:=⟨g,2,none⟩) rfl y2).setCell (p:=⟨g,3,none⟩) rfl y3).setCell (p:=⟨g,4,none⟩) rfl y4).setCell (p:=⟨g,5,none⟩) rfl y5).setCell (p:=⟨g,6,none⟩) rfl y6
theorem upd_e9all (w:World) (g:Nat) (y0 y1 y2 y3 y4 y5 y6 y7 y8:Value):Upd (fun x=>x=g) w (((((((((w.setCell ⟨g,0,none⟩ y0).setCell ⟨g,1,none⟩ y1).setCell ⟨g,2,none⟩ y2).setCell ⟨g,3,none⟩ y3).setCell ⟨g,4,none⟩ y4).setCell ⟨g,5,none⟩ y5).setCell ⟨g,6,none⟩ y6).setCell ⟨g,7,none⟩ y7).setCell ⟨g,8,none⟩ y8):=by
 have h0:=upd_six w g y0 y1 y2 y3 y4 y5
 exact ((h0.setCell (p:=⟨g,6,none⟩) rfl y6).setCell (p:=⟨g,7,none⟩) rfl y7).setCell (p:=⟨g,8,none⟩) rfl y8
end
abbrev EqH (w:World) (lo hi:Nat) (x:Eqn) (cs:List Value):Prop:=isEqn (hide lo w) hi x cs
theorem EqH.upd {X:Nat→Prop} {w w':World} {lo hi:Nat} {x:Eqn} {cs:List Value} (h:EqH w lo hi x cs) (hu:Upd X w w') (hX:∀k,X k→k<lo∨hi≤k) (hh:hi≤w.heap.size):EqH w' lo hi x cs:=isEqn_keep (keeps_of (hu.bhide hX hh)) (Nat.le_refl _) h
theorem EqH.wide {w:World} {lo lo' hi hi':Nat} {x:Eqn} {cs:List Value} (h:EqH w lo hi x cs) (hl:lo'≤lo) (hh:hi≤hi'):EqH w lo' hi' x cs:=isEqn_keep (hide_more hl hi w) hh h
theorem ExH.parts {w:World} {lo hi:Nat} {e:Ex} {A:Option Addr} {cap:Nat} (h:ExH w lo hi e A cap):ExOk e∧e.args.length≤cap∧cap≤maxLen∧IsExs (hide lo w) hi A e.args:=by
 obtain ⟨A',cap',h1,h2,h3,h4,h5⟩:=IsEx.open h
 simp only[exCells,List.cons.injEq,Value.slice.injEq,true_and,and_true] at h1
 obtain ⟨rfl,rfl⟩:=h1
 exact ⟨h2,h3,h4,h5⟩
theorem eqn_any {P:Pr} {o i n:Nat} {x:Eqn × Nat} {w:World} (h:PrAt w o P i) (hx:peqn P.l n i=some x):
  Calls Tryz.prog 216 #[.pointer (some ⟨o,0,none⟩),.int .i64 n] w fun r w'=>(∃cs,r= .returned (.agg cs.toArray)∧EqH w' w.heap.size w'.heap.size x.1 cs)∧PrL w o P x.2 w':=by
 obtain ⟨a,j,y,h1,h48,h2,h3,h4,hx1⟩:=peqn_is hx
 obtain ⟨ht,hk,-⟩:=pname_is h1
 have htk:=(h.tok ht).choose_spec.choose_spec.2.2.1
 have hol:=h.lt
 have b1:Below w.heap.size w (w.alloc (.cells (eq9 (.slice none 0 0) (.int .i64 0) (.string ⟨#[]⟩) (.int .i64 0) (.slice none 0 0) (.int .i64 0) (.int .i64 0) (.int .i64 0) (.int .i64 0)) 81)):=bE
 have rZ:=Row.new w (eq9 (.slice none 0 0) (.int .i64 0) (.string ⟨#[]⟩) (.int .i64 0) (.slice none 0 0) (.int .i64 0) (.int .i64 0) (.int .i64 0) (.int .i64 0)) 81
 have H0:=Lib.hid h
 have HN:=Lib.hid (fun (W:World) (hW:Below w.heap.size w W)=>now_any (h.bel hW) ht)
 have HL:=Lib.hid h1
 have HW:=Lib.hid h2
 have HE:=Lib.hid h3
 have HW2:=Lib.hid h4
 have HX1:=Lib.hid hx1
 have hk1:(a.1.kind !=1)=false:=by rw[hk];rfl
 have hn48:((n:Int)==48)=false:=by rw[beq_eq_false_iff_ne];omega
 have hs1:=b1.size
 have hlZ:=rZ.lt
 clear h hx hx1 h1 h2 h3 h4 hk
 go_enter Tryz.func216,Tryz.ntmps216
 go_upto_region 1 with (fail)
 change Code.wp _ _ _ _ (w.alloc (.cells (eq9 (.slice none 0 0) (.int .i64 0) (.string ⟨#[]⟩) (.int .i64 0) (.slice none 0 0) (.int .i64 0) (.int .i64 0) (.int .i64 0) (.int .i64 0)) 81))
 generalize w.alloc (.cells (eq9 (.slice none 0 0) (.int .i64 0) (.string ⟨#[]⟩) (.int .i64 0) (.slice none 0 0) (.int .i64 0) (.int .i64 0) (.int .i64 0) (.int .i64 0)) 81)=W1 at*
 go_wp2_with fail
 refine (HN.out _ b1).mono ?_
 rintro r w2 ⟨rfl,hb2⟩
 have hs2:=hb2.size
 have rQ:=Row.new w2 (eq9 (.slice none 0 0) (.int .i64 0) (.string ⟨#[]⟩) (.int .i64 0) (.slice none 0 0) (.int .i64 0) (.int .i64 0) (.int .i64 a.1.line) (.int .i64 a.1.col)) 81
 have b3:Below w2.heap.size w2 (w2.alloc (.cells (eq9 (.slice none 0 0) (.int .i64 0) (.string ⟨#[]⟩) (.int .i64 0) (.slice none 0 0) (.int .i64 0) (.int .i64 0) (.int .i64 a.1.line) (.int .i64 a.1.col)) 81)):=bE
 have hs3:=b3.size
 have hlQ:=rQ.lt
 have rZ3:=(rZ.below hb2 hlZ).below b3 (by omega)
 have b13:=b1.trans ((hb2.trans (b3.mono hs2)).mono hs1)
 go_upto_region 2 with (fail)
 change Code.wp _ _ _ _ (w2.alloc (.cells (eq9 (.slice none 0 0) (.int .i64 0) (.string ⟨#[]⟩) (.int .i64 0) (.slice none 0 0) (.int .i64 0) (.int .i64 0) (.int .i64 a.1.line) (.int .i64 a.1.col)) 81))
 generalize w2.alloc (.cells (eq9 (.slice none 0 0) (.int .i64 0) (.string ⟨#[]⟩) (.int .i64 0) (.slice none 0 0) (.int .i64 0) (.int .i64 0) (.int .i64 a.1.line) (.int .i64 a.1.col)) 81)=W3 at*
 go_wp2_with fail
 refine (HN.out _ b13).mono ?_
 rintro r w4 ⟨rfl,hb4⟩
 have hs4:=hb4.size
 have HLE:=Lib.hid (pleft_any (H0.out.bel (b13.trans (hb4.mono b13.size))) HL.out)
 go_wp2_with fail
 refine HLE.out.mono ?_
 rintro r w5 ⟨⟨v,rfl,hv⟩,q5⟩
 obtain ⟨Av,cv,rfl,hlv,hmv,slv⟩:=hv
 have hs5:=q5.2.size
 have rQ5:=q5.2.row (rQ.below hb4 (by omega)) (by omega)
 have rZ5:=q5.2.row (rZ3.below hb4 (by omega)) (by omega)
 have rQ6:Row (w5.setCell ⟨w2.heap.size,0,none⟩ (.slice Av 1 cv)) w2.heap.size (eq9 (.slice Av 1 cv) (.int .i64 0) (.string ⟨#[]⟩) (.int .i64 0) (.slice none 0 0) (.int .i64 0) (.int .i64 0) (.int .i64 a.1.line) (.int .i64 a.1.col)) 81:=by
  have:=rQ5.set 0 (.slice Av 1 cv)
  simpa using this
 have u6:Upd (fun x=>x=w2.heap.size) w5 (w5.setCell ⟨w2.heap.size,0,none⟩ (.slice Av 1 cv)):=(Upd.refl (fun x=>x=w2.heap.size) w5).setCell (p:=⟨w2.heap.size,0,none⟩) rfl _
 have UW5:Upd (fun x=>x=o∨w.heap.size≤x) w w5:=(Upd.of_below (b13.trans (hb4.mono b13.size))).trans (q5.2.mono (fun k e=>Or.inl e))
 obtain ⟨⟨c0,-⟩,z0,-⟩:=Row.e9 rQ5
 go_upto_region 7 with (fail)
 have rO6:=u6.row q5.1.row (by omega)
 have rZ6:=u6.row rZ5 (by omega)
 have UW6:=UW5.trans (u6.mono (Y:=fun x=>x=o∨w.heap.size≤x) (fun k e=>Or.inr (by omega)))
 have hs6:=u6.size
 clear c0 z0
 change Code.wp _ _ _ _ (w5.setCell ⟨w2.heap.size,0,none⟩ (.slice Av 1 cv))
 generalize w5.setCell ⟨w2.heap.size,0,none⟩ (.slice Av 1 cv)=W6 at*
 have HWA:=Lib.hid (want_any (H0.out.step rO6 (UW6.narrow (fun k hk e=>by omega))) ⟨#[61]⟩ HW.out)
 go_wp2_with fail
 refine HWA.out.mono ?_
 rintro r w7 ⟨rfl,q7⟩
 have hs7:=q7.2.size
 have HXA:Hid (Calls Tryz.prog 277 #[.pointer (some ⟨o,0,none⟩),.int .i64 0,.int .i64 1] w7 (ExRes w7 o P y.1 y.2.1 y.2.2)):=expr_any 40 P o j 0 1 w7 y.1 y.2.1 y.2.2 q7.1 HE.out (by omega) (by omega)
 go_wp2_with fail
 refine HXA.out.mono ?_
 rintro r w8 ⟨A2,cap2,rfl,hx8,h30,q8⟩
 have hs8:=q8.2.size
 have rQ8:=q8.2.row (q7.2.row rQ6 (by omega)) (by omega)
 have rZ8:=q8.2.row (q7.2.row rZ6 (by omega)) (by omega)
 have rQ9:=Row.e9six rQ8 (.int .i64 y.1.op) (.string y.1.name) (.int .i64 y.1.n) (.slice A2 y.1.args.length cap2) (.int .i64 y.1.line) (.int .i64 y.1.col)
 have u9:=upd_e9six w8 w2.heap.size (.int .i64 y.1.op) (.string y.1.name) (.int .i64 y.1.n) (.slice A2 y.1.args.length cap2) (.int .i64 y.1.line) (.int .i64 y.1.col)
 obtain ⟨⟨-,c1,c2,c3,c4,c5,c6,-,-⟩,-,z1,z2,z3,z4,z5,z6,-,-⟩:=Row.e9 rQ8
 go_upto_region 9 with (fail)
 change Code.wp _ _ _ _ ((((((w8.setCell ⟨w2.heap.size,1,none⟩ (.int .i64 y.1.op)).setCell ⟨w2.heap.size,2,none⟩ (.string y.1.name)).setCell ⟨w2.heap.size,3,none⟩ (.int .i64 y.1.n)).setCell ⟨w2.heap.size,4,none⟩ (.slice A2 y.1.args.length cap2)).setCell ⟨w2.heap.size,5,none⟩ (.int .i64 y.1.line)).setCell ⟨w2.heap.size,6,none⟩ (.int .i64 y.1.col))
 clear c1 c2 c3 c4 c5 c6 z1 z2 z3 z4 z5 z6
 generalize (((((w8.setCell ⟨w2.heap.size,1,none⟩ (.int .i64 y.1.op)).setCell ⟨w2.heap.size,2,none⟩ (.string y.1.name)).setCell ⟨w2.heap.size,3,none⟩ (.int .i64 y.1.n)).setCell ⟨w2.heap.size,4,none⟩ (.slice A2 y.1.args.length cap2)).setCell ⟨w2.heap.size,5,none⟩ (.int .i64 y.1.line)).setCell ⟨w2.heap.size,6,none⟩ (.int .i64 y.1.col)=W9 at*
 have hs9:=u9.size
 have rO9:=u9.row q8.1.row (by omega)
 have rZ9:=u9.row rZ8 (by omega)
 have UW9:=UW6.trans (((q7.2.trans q8.2).mono (Y:=fun x=>x=o∨w.heap.size≤x) (fun k e=>Or.inl e)).trans (u9.mono (fun k e=>Or.inr (by omega))))
 have HWB:=Lib.hid (want_any (H0.out.step rO9 (UW9.narrow (fun k hk e=>by omega))) ⟨#[59]⟩ HW2.out)
 go_wp2_with fail
 refine HWB.out.mono ?_
 rintro r w10 ⟨rfl,q10⟩
 have hs10:=q10.2.size
 have rQ10:=q10.2.row rQ9 (by omega)
 have rZ10:=q10.2.row rZ9 (by omega)
 obtain ⟨⟨p0,p1,p2,p3,p4,p5,p6,p7,p8⟩,-⟩:=Row.e9 rQ10
 obtain ⟨⟨x0,x1,x2,x3,x4,x5,x6,x7,x8⟩,e0,e1,e2,e3,e4,e5,e6,e7,e8⟩:=Row.e9 rZ10
 have HZ10:=Lib.hid rZ10
 have UW10:=Lib.hid (UW9.trans (q10.2.mono (Y:=fun x=>x=o∨w.heap.size≤x) (fun k e=>Or.inl e)))
 have HS10:Hid (Sl (hide W3.heap.size w10) w8.heap.size 1 isStr Av [a.1.text]):=by
  have u:Upd (fun k=>k<W3.heap.size) w5 w10:=(u6.mono (fun k e=>by omega)).trans ((((q7.2.trans q8.2).mono (fun k e=>by omega)).trans (u9.mono (fun k e=>by omega))).trans (q10.2.mono (fun k e=>by omega)))
  refine Sl.keep slv (fun p u' hp hc=>?_) (by omega) (fun _ _ _ h=>h)
  exact keeps_of (u.bhide (B:=W3.heap.size) (hi:=w5.heap.size) (fun k hk=>Or.inl hk) (Nat.le_refl _)) p u' hp (hide_more (by omega) w5.heap.size w5 p u' hp hc)
 have HX10:=Lib.hid ((hx8.upd ((u9.mono (Y:=fun k=>k<W3.heap.size) (fun k e=>by omega)).trans (q10.2.mono (fun k e=>by omega))) (fun k e=>Or.inl (by omega)) (Nat.le_refl _)).wide (lo':=W3.heap.size) (by omega) (Nat.le_refl _))
 go_wp2_with fail
 have u11:=upd_e9all w10 w.heap.size (.slice Av 1 cv) (.int .i64 y.1.op) (.string y.1.name) (.int .i64 y.1.n) (.slice A2 y.1.args.length cap2) (.int .i64 y.1.line) (.int .i64 y.1.col) (.int .i64 a.1.line) (.int .i64 a.1.col)
 refine bodyPost_ret (res1 rfl Tryz.underlying81 rfl (by kernel_rfl) rfl (Row.e9all HZ10.out (.slice Av 1 cv) (.int .i64 y.1.op) (.string y.1.name) (.int .i64 y.1.n) (.slice A2 y.1.args.length cap2) (.int .i64 y.1.line) (.int .i64 y.1.col) (.int .i64 a.1.line) (.int .i64 a.1.col))) rfl ⟨⟨[.slice Av 1 cv,.int .i64 y.1.op,.string y.1.name,.int .i64 y.1.n,.slice A2 y.1.args.length cap2,.int .i64 y.1.line,.int .i64 y.1.col,.int .i64 a.1.line,.int .i64 a.1.col],rfl,?_⟩,?_⟩
 ·obtain ⟨k1,k2,k3,k4⟩:=ExH.parts HX10.out
  have hs11:=u11.size
  rw[HX1.out]
  have h10:EqH w10 W3.heap.size w8.heap.size ⟨[a.1.text],y.1,a.1.line,a.1.col⟩ [.slice Av 1 cv,.int .i64 y.1.op,.string y.1.name,.int .i64 y.1.n,.slice A2 y.1.args.length cap2,.int .i64 y.1.line,.int .i64 y.1.col,.int .i64 a.1.line,.int .i64 a.1.col]:=by
   refine ⟨Av,cv,A2,cap2,rfl,⟨k1,?_,?_⟩,hlv,hmv,HS10.out,k2,k3,k4⟩
   ·exact wf_of ⟨by have:=htk.line;show _≤a.1.line;omega,by have:=htk.line;show a.1.line≤_;omega⟩
   ·exact wf_of ⟨by have:=htk.col;show _≤a.1.col;omega,by have:=htk.col;show a.1.col≤_;omega⟩
  exact (h10.upd u11 (fun k e=>Or.inl (by omega)) (by omega)).wide (by omega) (by omega)
 ·exact H0.out.fin (u11.row q10.1.row (by omega)) ((UW10.out.trans (u11.mono (fun k e=>Or.inr (by omega)))).narrow (fun k hk e=>by omega))
open Go.RowKit
section
variable {P:Program} {ops:Array Oper} {Q:Exit→Act→World→Prop} {md:Region.Mode} {S:World→Prop} {s:Nat}
def wpAnyL (P:Program) (md:Region.Mode) (ops:Array Oper) (Q:Exit→Act→World→Prop) (S:World→Prop) (s:Nat):Nat→Array Bool→Act→World→Prop
 |0,listed,a,w=>Region.ready md ops listed=[]∧Q .normal a w
 |fuel+1,listed,a,w=>
  (Region.ready md ops listed=[]→Q .normal a w)∧
  ∀i∈Region.ready md ops listed,wpOp P ops Q i (fun a' w'=>(i≠s→S w')∧wpAnyL P md ops Q S s fuel (listed.setIfInBounds i true) a' w') a w
theorem wpAny_of_L:∀(fuel:Nat) (listed:Array Bool) (a:Act) (w:World),wpAnyL P md ops Q S s fuel listed a w→wpAny P md ops Q fuel listed a w
 |0,_,_,_,h=>h
 |fuel+1,_,_,_,h=>⟨h.1,fun i hi=>wpOp_mono (fun a' w' h'=>wpAny_of_L fuel _ a' w' h'.2) (h.2 i hi)⟩
def lastOp (md:Region.Mode) (ops:Array Oper) (s i:Nat):Bool:=
 match ops[s]? with
 |none=>false
 |some o=>o.after.any fun e=>Region.binds md e && e.on==i
theorem last_not {i:Nat} (hl:lastOp md ops s i=true) {listed:Array Bool} (hi:i∈Region.ready md ops listed):s∉Region.ready md ops listed:=fun hs=>by
 obtain ⟨hi0,oi,hoi,_⟩:=mem_ready.1 hi
 obtain ⟨_,o,ho,hall⟩:=mem_ready.1 hs
 unfold lastOp at hl
 rw[ho] at hl
 dsimp only at hl
 rw[Array.any_eq_true'] at hl
 obtain ⟨ed,hed,hb⟩:=hl
 rw[Bool.and_eq_true] at hb
 have h2:=hall ed hed hb.1
 have hon:ed.on=i:=by simpa using hb.2
 rw[hon] at h2
 rcases Nat.lt_or_ge i listed.size with h'|h'
 ·simp[h'] at hi0 h2;rw[hi0] at h2;cases h2
 ·simp[Array.getElem?_eq_none h'] at h2
theorem wpAnyL_first {i:Nat} {oi:Oper} {v:Value} (hl:lastOp md ops s i=true) (hi:ops[i]? =some oi) (hsel:∀(j:Nat) (o:Oper) cs b,ops[j]? =some o→o.op≠ .select cs b)
  (hQ:∀c a w,Q (.panic c) (a.put oi.dst v) w→Q (.panic c) a w):
  ∀(fuel:Nat) (listed:Array Bool) (a:Act) (w:World),
   (∀j oj,ops[j]? =some oj→j≠i→listed.getD j true=false→(∀e∈oj.after,Region.binds md e=true→e.on≠i)→oi.apart ops oj=true)→
   i∈Region.ready md ops listed→YieldsIf P ops S oi v a→S w→
   wpAnyL P md ops Q S s fuel (listed.setIfInBounds i true) (a.put oi.dst v) w→wpAnyL P md ops Q S s (fuel+1) listed a w:=by
 intro fuel
 induction fuel with
 |zero=>
  intro listed a w _ hr hy hS H
  refine ⟨fun h=>(by rw[h] at hr;cases hr),fun j hj=>?_⟩
  by_cases hji:j=i
  ·subst hji;exact hy.wpOp hi hS ⟨fun _=>hS,H⟩
  ·have:=ready_mono hj hji
   rw[H.1] at this
   cases this
 |succ fuel ih=>
  intro listed a w hfree hr hy hS H
  refine ⟨fun h=>(by rw[h] at hr;cases hr),fun j hj=>?_⟩
  by_cases hji:j=i
  ·subst hji;exact hy.wpOp hi hS ⟨fun _=>hS,H⟩
  ·have hjs:j≠s:=fun e=>last_not hl hr (e▸hj)
   have h1:=H.2 j (ready_mono hj hji)
   obtain ⟨hjun,oj,hoj,hall⟩:=mem_ready.1 hj
   have hnot:∀e∈oj.after,Region.binds md e=true→e.on≠i:=fun e he hb heq=>by
    have h1:=hall e he hb
    have h0:=(mem_ready.1 hr).1
    rw[heq] at h1
    rcases Nat.lt_or_ge i listed.size with h'|h'
    ·simp[h'] at h0 h1;rw[h0] at h1;cases h1
    ·simp[Array.getElem?_eq_none h'] at h1
   have h2:=wpOp_putIf hoj (hfree j oj hoj hji hjun hnot) (fun cs b=>hsel i oi cs b hi) (fun cs b=>hsel j oj cs b hoj) hQ hy h1
   have hfree':∀k ok,ops[k]? =some ok→k≠i→(listed.setIfInBounds j true).getD k true=false→
     (∀e∈ok.after,Region.binds md e=true→e.on≠i)→oi.apart ops ok=true:=fun k ok hk hki hun hno=>by
    refine hfree k ok hk hki ?_ hno
    by_cases hjk:j=k
    ·subst hjk;exact hjun
    ·rw[getD_set_ne true hjk] at hun;exact hun
   refine wpOp_mono (fun a' w' h3=>⟨h3.2.1,ih (listed.setIfInBounds j true) a' w' hfree' (ready_mono hr (Ne.symm hji)) h3.1 (h3.2.1 hjs) ?_⟩) h2
   rw[Array.setIfInBounds_comm _ _ hji]
   exact h3.2.2
theorem wpAnyL_done {listed:Array Bool} {a:Act} {w:World} (hr:Region.ready md ops listed=[]) (h:Q .normal a w):∀fuel,wpAnyL P md ops Q S s fuel listed a w
 |0=>⟨hr,h⟩
 |_+1=>⟨fun _=>h,by rw[hr];simp⟩
theorem wp_region_L (s:Nat) {id:Nat} {a:Act} {w:World} (hm:P.follows .mixedOrders=true) (hS:S w.drew) (h:S w.drew→wpAnyL P .any ops Q S s ops.size (Array.replicate ops.size false) a w.drew):(Code.region id ops true).wp P Q a w:=
 wp_region_any hm (wpAny_of_L _ _ _ _ (h hS))
variable {fuel:Nat} {listed:Array Bool} {a a':Act} {w:World} {v:Value} {o:Op} {ty:TypeId} {pos:String} {af:Array Edge} {g:Option (Nat × Bool)}
theorem tkL (i:Nat) (d:Option Tmp) (hi:ops[i]? =some {dst:=d,op:=o,type:=ty,pos:=pos,after:=af,guard:=g}) (h:wpAnyL P md ops Q S s fuel (listed.setIfInBounds i true) a' w)
  (hl:lastOp md ops s i=true:=by kernel_rfl)
  (hs:Region.noSelect ops=true:=by kernel_rfl) (hf:Region.free md ops listed i=true:=by kernel_rfl) (hr:(Region.ready md ops listed).contains i=true:=by kernel_rfl)
  (hw:Region.wanted {dst:=d,op:=o,type:=ty,pos:=pos,after:=af,guard:=g} (yielded ops a.tmps)=true:=by kernel_rfl)
  (hy:∀w,S w→(execOp a.eval {dst:=d,op:=o,type:=ty,pos:=pos,after:=af,guard:=g}).run P w= .ok (.value v) w:=by intro w hSw;(try dsimp only at hSw);go_simp;(try with_reducible rfl))
  (hQ:∀c a w,Q (.panic c) (a.put d v) w→Q (.panic c) a w:=by exact fun _ _ _ h=>h)
  (hS:S w:=by first|assumption|trivial)
  (ha:a.put d v=a':=by (try simp only[Act.put,List.setIfInBounds_toArray,List.set_cons_zero,List.set_cons_succ]);(try exact rfl)):wpAnyL P md ops Q S s (fuel+1) listed a w:=by
 subst ha
 exact wpAnyL_first hl hi (Region.noSelect_spec hs) hQ fuel listed a w (Region.free_spec hi hf) (by simpa using hr) (.inl ⟨hw,hy⟩) hS h
theorem rdL (i:Nat) (d:Option Tmp) (hi:ops[i]? =some {dst:=d,op:=o,type:=ty,pos:=pos,after:=af,guard:=g})
  (h:∀K':Act→World→Prop,Shut (∀a w,S w→(S w→wpAnyL P md ops Q S s fuel (listed.setIfInBounds i true) a w)→K' a w)→if Region.wanted {dst:=d,op:=o,type:=ty,pos:=pos,after:=af,guard:=g} (yielded ops a.tmps)=true then Oper.wp P {dst:=d,op:=o,type:=ty,pos:=pos,after:=af,guard:=g} a w K' Q else K' (a.put d undef) w)
  (hr:Region.ready md ops listed=[i]:=by kernel_rfl):wpAnyL P md ops Q S s (fuel+1) listed a w:=
 ⟨fun h0=>(by rw[hr] at h0;cases h0),fun j hj=>by
  rw[hr] at hj
  obtain rfl:=List.mem_singleton.1 hj
  exact wpOp_step hi (fun K' hK=>h K' (fun a w hS hW=>hK a w ⟨fun _=>hS,hW hS⟩))⟩
theorem rdE (d:Option Tmp) (hi:ops[s]? =some {dst:=d,op:=o,type:=ty,pos:=pos,after:=af,guard:=g})
  (h:∀K':Act→World→Prop,Shut (∀a w,wpAnyL P md ops Q S s fuel (listed.setIfInBounds s true) a w→K' a w)→if Region.wanted {dst:=d,op:=o,type:=ty,pos:=pos,after:=af,guard:=g} (yielded ops a.tmps)=true then Oper.wp P {dst:=d,op:=o,type:=ty,pos:=pos,after:=af,guard:=g} a w K' Q else K' (a.put d undef) w)
  (hr:Region.ready md ops listed=[s]:=by kernel_rfl):wpAnyL P md ops Q S s (fuel+1) listed a w:=
 ⟨fun h0=>(by rw[hr] at h0;cases h0),fun j hj=>by
  rw[hr] at hj
  obtain rfl:=List.mem_singleton.1 hj
  exact wpOp_step hi (fun K' hK=>h K' (fun a w hW=>hK a w ⟨fun g=>absurd rfl g,hW⟩))⟩
end
def hmv (b:Option Nat) (lo:Nat) (w:World):World:=match b with
 |some g=>hm g lo w
 |none=>hide lo w
section
variable {b b':Option Nat} {lo lo' hi:Nat} {w w':World}
theorem Upd.bhmv {X:Nat→Prop} (h:Upd X w w') (hX:∀k,X k→k<lo∨hi≤k∨b=some k) (hh:hi≤w.heap.size):Below hi (hmv b lo w) (hmv b lo w'):=by
 cases b with
 |none=>exact h.bhide (fun k hk=>by rcases hX k hk with h|h|h<;>first|omega|cases h) hh
 |some g=>exact h.bhm (fun k hk=>by rcases hX k hk with h|h|h<;>first|omega|(cases h;omega)) hh
theorem hmv_to (hi:Nat):Keeps hi (hmv b lo w) (hide lo w):=by
 cases b with
 |none=>exact fun _ _ _ h=>h
 |some g=>exact hm_to hi
theorem hmv_turn {g:Nat} (hb:b'=b∨b'=some g) (hg:hi≤g):Keeps hi (hmv b lo w) (hmv b' lo w):=by
 rcases hb with rfl|rfl
 ·exact fun _ _ _ h=>h
 ·exact fun p u hp h=>hm_of hg p u hp (hmv_to hi p u hp h)
theorem hmv_new (hb:∀g,b=some g→g<lo') (hl:lo≤lo') (hi:Nat):Keeps hi (hide lo' w) (hmv b lo w):=by
 cases b with
 |none=>exact hide_more hl hi w
 |some g=>
  intro p u hp h
  have hgl:=hb g rfl
  by_cases hp':p.block=g
  ·exfalso
   simp only[World.cell?,hide,Array.getElem?_mapIdx] at h
   cases hk:w.heap[p.block]? with
   |none=>rw[hk] at h;cases h
   |some o=>rw[hk] at h;simp only[Option.map_some] at h;rw[if_pos (by omega)] at h;cases h
  ·exact (mask_of (w:=hide lo w) hp').trans (hide_more hl hi w p u hp h)
end
structure OwnH {α:Type} (rel:World→Nat→α→List Value→Prop) (w:World) (base lo size:Nat) (e:TypeId) (v:Value) (l:List α) (css:List (List Value)):Prop where
 own:w.ownsRow base e size v l.length css.flatten
 len:css.length=l.length
 six:∀cs∈css,cs.length=size
 rel:∀(i:Nat) x cs,l[i]? =some x→css[i]? =some cs→rel (hmv v.ownBlock lo w) w.heap.size x cs
section
variable {α:Type} {rel:World→Nat→α→List Value→Prop} {w w':World} {base lo lo' size:Nat} {e:TypeId} {v v':Value} {l:List α} {css:List (List Value)} {x:α} {cs:List Value}
theorem OwnH.nil:OwnH rel w base lo size e (.slice none 0 0) [] []:=⟨World.ownsRow_nil _ _ _ _,rfl,fun _ h=>absurd h List.not_mem_nil,fun i x cs h=>absurd h (by simp)⟩
theorem OwnH.upd (hk:∀{W W':World} {B B':Nat},Keeps B W W'→B≤B'→∀x cs,rel W B x cs→rel W' B' x cs) {X:Nat→Prop} (h:OwnH rel w base lo size e v l css) (hu:Upd X w w') (hX:∀k,X k→k<lo) (hb:∀k,X k→k<base):OwnH rel w' base lo size e v l css:=
 ⟨own_updX h.own hu hb,h.len,h.six,fun i x cs h1 h2=>hk (keeps_of (hu.bhmv (hi:=w.heap.size) (fun k hk=>Or.inl (hX k hk)) (Nat.le_refl _))) hu.size x cs (h.rel i x cs h1 h2)⟩
theorem OwnH.snoc (hk:∀{W W':World} {B B':Nat},Keeps B W W'→B≤B'→∀x cs,rel W B x cs→rel W' B' x cs) (h:OwnH rel w base lo size e v l css) (ho:w'.ownsRow base e size v' (l.length+1) (css.flatten++cs)) (hg:w.grownBy w' v.ownBlock)
  (hb:v'.ownBlock=v.ownBlock∨v'.ownBlock=some w.heap.size) (hc:cs.length=size) (hx:rel (hmv v.ownBlock lo w) w.heap.size x cs):OwnH rel w' base lo size e v' (l++ [x]) (css++ [cs]):=by
 have hu:Upd (fun k=>v.ownBlock=some k) w w':=⟨hg.os,hg.tape,hg.output,hg.size,fun k hk hX=>hg.block k hk (fun e=>hX e.symm)⟩
 have hkk:∀y cy,rel (hmv v.ownBlock lo w) w.heap.size y cy→rel (hmv v'.ownBlock lo w') w'.heap.size y cy:=fun y cy hy=>
  hk (hmv_turn hb (Nat.le_refl _)) hg.size y cy (hk (keeps_of (hu.bhmv (hi:=w.heap.size) (fun k hk=>Or.inr (Or.inr hk)) (Nat.le_refl _))) (Nat.le_refl _) y cy hy)
 refine ⟨by simpa using ho,by simp[h.len],fun c hc'=>?_,fun i y cy h1 h2=>?_⟩
 ·rcases List.mem_append.1 hc' with h'|h'
  ·exact h.six c h'
  ·rw[List.mem_singleton.1 h'];exact hc
 ·rcases Nat.lt_or_ge i l.length with hi|hi
  ·rw[List.getElem?_append_left hi] at h1
   rw[List.getElem?_append_left (by rw[h.len];exact hi)] at h2
   exact hkk y cy (h.rel i y cy h1 h2)
  ·rw[List.getElem?_append_right hi] at h1
   rw[List.getElem?_append_right (by rw[h.len];exact hi),h.len] at h2
   have hil:i-l.length=0:=by
    have:=(List.getElem?_eq_some_iff.1 h1).1
    simp at this;omega
   rw[hil] at h1 h2
   cases h1;cases h2
   exact hkk x cs hx
theorem OwnH.slv (hk:∀{W W':World} {B B':Nat},Keeps B W W'→B≤B'→∀x cs,rel W B x cs→rel W' B' x cs) (h:OwnH rel w base lo size e v l css) (hl:lo≤base):SlV (hide lo w) w.heap.size size (rel (hide lo w) w.heap.size) v l:=by
 refine own_slx h.own hl rfl (fun i x hx=>?_)
 have hi:i<css.length:=by rw[h.len];exact (List.getElem?_eq_some_iff.1 hx).1
 refine ⟨css[i],h.six _ (List.getElem_mem hi),fun j hj=>?_,hk (hmv_to _) (Nat.le_refl _) x _ (h.rel i x _ hx (List.getElem?_eq_getElem hi))⟩
 exact (flatten_get h.six (List.getElem?_eq_getElem hi) hj).symm
end
end Go.Proofs.YtgjfkidbfmbjoaaGreat
