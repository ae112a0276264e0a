/-
  The contract of the parser's equation. Rows that grow while what their elements point to lies elsewhere: the world without the row's own block. The contract of the parser's node (under way).
-/
import Derived.Test.YtdkgkacnjdnpoaaGreatZz
import Derived.Test.YtdkgkacnjdnpoaaGreatStzM
import Derived.Test.YtdkgkacnjdnpoaaGreatRgL
import Derived.Deep.LoopGhost
set_option maxHeartbeats 8000000
set_option maxRecDepth 100000
namespace Go.Proofs.YtdkgkacnjdnpoaaGreat
open Go.RowKit _root_.Go.Proofs.YtdkgkacnjdnpoaaGreat.Nm
attribute [local go_sem] field_tk0 field_tk1 field_tk3
abbrev eq9 (v0 v1 v2 v3 v4 v5 v6 v7 v8:Value):Array Value:= #[v0,v1,v2,v3,v4,v5,v6,v7,v8]
section
variable {W:World} {b:Nat} {v0 v1 v2 v3 v4 v5 v6 v7 v8:Value} {t:TypeId}
theorem Row.e9 (h:Row W b (eq9 v0 v1 v2 v3 v4 v5 v6 v7 v8) t):(W.cell? ⟨b,0,none⟩=some v0∧W.cell? ⟨b,1,none⟩=some v1∧W.cell? ⟨b,2,none⟩=some v2∧W.cell? ⟨b,3,none⟩=some v3∧W.cell? ⟨b,4,none⟩=some v4∧W.cell? ⟨b,5,none⟩=some v5∧W.cell? ⟨b,6,none⟩=some v6∧W.cell? ⟨b,7,none⟩=some v7∧W.cell? ⟨b,8,none⟩=some v8)∧
  (W.frozen? ⟨b,0,none⟩=false∧W.frozen? ⟨b,1,none⟩=false∧W.frozen? ⟨b,2,none⟩=false∧W.frozen? ⟨b,3,none⟩=false∧W.frozen? ⟨b,4,none⟩=false∧W.frozen? ⟨b,5,none⟩=false∧W.frozen? ⟨b,6,none⟩=false∧W.frozen? ⟨b,7,none⟩=false∧W.frozen? ⟨b,8,none⟩=false):=
 ⟨⟨(h.cell 0).trans rfl,(h.cell 1).trans rfl,(h.cell 2).trans rfl,(h.cell 3).trans rfl,(h.cell 4).trans rfl,(h.cell 5).trans rfl,(h.cell 6).trans rfl,(h.cell 7).trans rfl,(h.cell 8).trans rfl⟩,h.frozen 0,h.frozen 1,h.frozen 2,h.frozen 3,h.frozen 4,h.frozen 5,h.frozen 6,h.frozen 7,h.frozen 8⟩
theorem Row.e9six (h:Row W b (eq9 v0 v1 v2 v3 v4 v5 v6 v7 v8) t) (x1 x2 x3 x4 x5 x6:Value):Row ((((((W.setCell ⟨b,1,none⟩ x1).setCell ⟨b,2,none⟩ x2).setCell ⟨b,3,none⟩ x3).setCell ⟨b,4,none⟩ x4).setCell ⟨b,5,none⟩ x5).setCell ⟨b,6,none⟩ x6) b (eq9 v0 x1 x2 x3 x4 x5 x6 v7 v8) t:=by
 have:=(((((h.set 1 x1).set 2 x2).set 3 x3).set 4 x4).set 5 x5).set 6 x6
 simpa using this
theorem Row.e9all (h:Row W b (eq9 v0 v1 v2 v3 v4 v5 v6 v7 v8) t) (x0 x1 x2 x3 x4 x5 x6 x7 x8:Value):Row (((((((((W.setCell ⟨b,0,none⟩ x0).setCell ⟨b,1,none⟩ x1).setCell ⟨b,2,none⟩ x2).setCell ⟨b,3,none⟩ x3).setCell ⟨b,4,none⟩ x4).setCell ⟨b,5,none⟩ x5).setCell ⟨b,6,none⟩ x6).setCell ⟨b,7,none⟩ x7).setCell ⟨b,8,none⟩ x8) b (eq9 x0 x1 x2 x3 x4 x5 x6 x7 x8) t:=by
 have:=((((((((h.set 0 x0).set 1 x1).set 2 x2).set 3 x3).set 4 x4).set 5 x5).set 6 x6).set 7 x7).set 8 x8
 simpa using this
theorem upd_e9six (w:World) (g:Nat) (y1 y2 y3 y4 y5 y6:Value):Upd (fun x=>x=g) w ((((((w.setCell ⟨g,1,none⟩ y1).setCell ⟨g,2,none⟩ y2).setCell ⟨g,3,none⟩ y3).setCell ⟨g,4,none⟩ y4).setCell ⟨g,5,none⟩ y5).setCell ⟨g,6,none⟩ y6):=by
 have h0:Upd (fun x=>x=g) w w:=Upd.refl _ _
 exact (((((h0.setCell (p:=⟨g,1,none⟩) rfl y1).setCell (p:=⟨g,2,none⟩) rfl y2).setCell (p:=⟨g,3,none⟩) rfl y3).setCell (p:=⟨g,4,none⟩) rfl y4).setCell (p:=⟨g,5,none⟩) rfl y5).setCell (p:=⟨g,6,none⟩) rfl y6
theorem upd_e9all (w:World) (g:Nat) (y0 y1 y2 y3 y4 y5 y6 y7 y8:Value):Upd (fun x=>x=g) w (((((((((w.setCell ⟨g,0,none⟩ y0).setCell ⟨g,1,none⟩ y1).setCell ⟨g,2,none⟩ y2).setCell ⟨g,3,none⟩ y3).setCell ⟨g,4,none⟩ y4).setCell ⟨g,5,none⟩ y5).setCell ⟨g,6,none⟩ y6).setCell ⟨g,7,none⟩ y7).setCell ⟨g,8,none⟩ y8):=by
 have h0:=upd_six w g y0 y1 y2 y3 y4 y5
 exact ((h0.setCell (p:=⟨g,6,none⟩) rfl y6).setCell (p:=⟨g,7,none⟩) rfl y7).setCell (p:=⟨g,8,none⟩) rfl y8
end
abbrev EqH (w:World) (lo hi:Nat) (x:Eqn) (cs:List Value):Prop:=isEqn (hide lo w) hi x cs
theorem EqH.upd {X:Nat→Prop} {w w':World} {lo hi:Nat} {x:Eqn} {cs:List Value} (h:EqH w lo hi x cs) (hu:Upd X w w') (hX:∀k,X k→k<lo∨hi≤k) (hh:hi≤w.heap.size):EqH w' lo hi x cs:=isEqn_keep (keeps_of (hu.bhide hX hh)) (Nat.le_refl _) h
theorem EqH.wide {w:World} {lo lo' hi hi':Nat} {x:Eqn} {cs:List Value} (h:EqH w lo hi x cs) (hl:lo'≤lo) (hh:hi≤hi'):EqH w lo' hi' x cs:=isEqn_keep (hide_more hl hi w) hh h
theorem ExH.parts {w:World} {lo hi:Nat} {e:Ex} {A:Option Addr} {cap:Nat} (h:ExH w lo hi e A cap):ExOk e∧e.args.length≤cap∧cap≤maxLen∧IsExs (hide lo w) hi A e.args:=by
 obtain ⟨A',cap',h1,h2,h3,h4,h5⟩:=IsEx.open h
 simp only[exCells,List.cons.injEq,Value.slice.injEq,true_and,and_true] at h1
 obtain ⟨rfl,rfl⟩:=h1
 exact ⟨h2,h3,h4,h5⟩
theorem eqn_any {P:Pr} {o i n:Nat} {x:Eqn × Nat} {w:World} (h:PrAt w o P i) (hx:peqn P.l n i=some x):
  Calls Tryz.prog 88 #[.pointer (some ⟨o,0,none⟩),.int .i64 n] w fun r w'=>(∃cs,r= .returned (.agg cs.toArray)∧EqH w' w.heap.size w'.heap.size x.1 cs)∧PrL w o P x.2 w':=by
 obtain ⟨a,j,y,h1,h48,h2,h3,h4,hx1⟩:=peqn_is hx
 obtain ⟨ht,hk,-⟩:=pname_is h1
 have htk:=(h.tok ht).choose_spec.choose_spec.2.2.1
 have hol:=h.lt
 have b1:Below w.heap.size w (w.alloc (.cells (eq9 (.slice none 0 0) (.int .i64 0) (.string ⟨#[]⟩) (.int .i64 0) (.slice none 0 0) (.int .i64 0) (.int .i64 0) (.int .i64 0) (.int .i64 0)) 65)):=bE
 have rZ:=Row.new w (eq9 (.slice none 0 0) (.int .i64 0) (.string ⟨#[]⟩) (.int .i64 0) (.slice none 0 0) (.int .i64 0) (.int .i64 0) (.int .i64 0) (.int .i64 0)) 65
 have H0:=Lib.hid h
 have HN:=Lib.hid (fun (W:World) (hW:Below w.heap.size w W)=>now_any (h.bel hW) ht)
 have HL:=Lib.hid h1
 have HW:=Lib.hid h2
 have HE:=Lib.hid h3
 have HW2:=Lib.hid h4
 have HX1:=Lib.hid hx1
 have hk1:(a.1.kind !=1)=false:=by rw[hk];rfl
 have hn48:((n:Int)==48)=false:=by rw[beq_eq_false_iff_ne];omega
 have hs1:=b1.size
 have hlZ:=rZ.lt
 clear h hx hx1 h1 h2 h3 h4 hk
 go_enter Tryz.func88,Tryz.ntmps88
 go_upto_region 1 with (fail)
 change Code.wp _ _ _ _ (w.alloc (.cells (eq9 (.slice none 0 0) (.int .i64 0) (.string ⟨#[]⟩) (.int .i64 0) (.slice none 0 0) (.int .i64 0) (.int .i64 0) (.int .i64 0) (.int .i64 0)) 65))
 generalize w.alloc (.cells (eq9 (.slice none 0 0) (.int .i64 0) (.string ⟨#[]⟩) (.int .i64 0) (.slice none 0 0) (.int .i64 0) (.int .i64 0) (.int .i64 0) (.int .i64 0)) 65)=W1 at*
 go_wp2_with fail
 refine (HN.out _ b1).mono ?_
 rintro r w2 ⟨rfl,hb2⟩
 have hs2:=hb2.size
 have rQ:=Row.new w2 (eq9 (.slice none 0 0) (.int .i64 0) (.string ⟨#[]⟩) (.int .i64 0) (.slice none 0 0) (.int .i64 0) (.int .i64 0) (.int .i64 a.1.line) (.int .i64 a.1.col)) 65
 have b3:Below w2.heap.size w2 (w2.alloc (.cells (eq9 (.slice none 0 0) (.int .i64 0) (.string ⟨#[]⟩) (.int .i64 0) (.slice none 0 0) (.int .i64 0) (.int .i64 0) (.int .i64 a.1.line) (.int .i64 a.1.col)) 65)):=bE
 have hs3:=b3.size
 have hlQ:=rQ.lt
 have rZ3:=(rZ.below hb2 hlZ).below b3 (by omega)
 have b13:=b1.trans ((hb2.trans (b3.mono hs2)).mono hs1)
 go_upto_region 2 with (fail)
 change Code.wp _ _ _ _ (w2.alloc (.cells (eq9 (.slice none 0 0) (.int .i64 0) (.string ⟨#[]⟩) (.int .i64 0) (.slice none 0 0) (.int .i64 0) (.int .i64 0) (.int .i64 a.1.line) (.int .i64 a.1.col)) 65))
 generalize w2.alloc (.cells (eq9 (.slice none 0 0) (.int .i64 0) (.string ⟨#[]⟩) (.int .i64 0) (.slice none 0 0) (.int .i64 0) (.int .i64 0) (.int .i64 a.1.line) (.int .i64 a.1.col)) 65)=W3 at*
 go_wp2_with fail
 refine (HN.out _ b13).mono ?_
 rintro r w4 ⟨rfl,hb4⟩
 have hs4:=hb4.size
 have HLE:=Lib.hid (pleft_any (H0.out.bel (b13.trans (hb4.mono b13.size))) HL.out)
 go_wp2_with fail
 refine HLE.out.mono ?_
 rintro r w5 ⟨⟨v,rfl,hv⟩,q5⟩
 obtain ⟨Av,cv,rfl,hlv,hmv,slv⟩:=hv
 have hs5:=q5.2.size
 have rQ5:=q5.2.row (rQ.below hb4 (by omega)) (by omega)
 have rZ5:=q5.2.row (rZ3.below hb4 (by omega)) (by omega)
 have rQ6:Row (w5.setCell ⟨w2.heap.size,0,none⟩ (.slice Av 1 cv)) w2.heap.size (eq9 (.slice Av 1 cv) (.int .i64 0) (.string ⟨#[]⟩) (.int .i64 0) (.slice none 0 0) (.int .i64 0) (.int .i64 0) (.int .i64 a.1.line) (.int .i64 a.1.col)) 65:=by
  have:=rQ5.set 0 (.slice Av 1 cv)
  simpa using this
 have u6:Upd (fun x=>x=w2.heap.size) w5 (w5.setCell ⟨w2.heap.size,0,none⟩ (.slice Av 1 cv)):=(Upd.refl (fun x=>x=w2.heap.size) w5).setCell (p:=⟨w2.heap.size,0,none⟩) rfl _
 have UW5:Upd (fun x=>x=o∨w.heap.size≤x) w w5:=(Upd.of_below (b13.trans (hb4.mono b13.size))).trans (q5.2.mono (fun k e=>Or.inl e))
 obtain ⟨⟨c0,-⟩,z0,-⟩:=Row.e9 rQ5
 go_upto_region 7 with (fail)
 have rO6:=u6.row q5.1.row (by omega)
 have rZ6:=u6.row rZ5 (by omega)
 have UW6:=UW5.trans (u6.mono (Y:=fun x=>x=o∨w.heap.size≤x) (fun k e=>Or.inr (by omega)))
 have hs6:=u6.size
 clear c0 z0
 change Code.wp _ _ _ _ (w5.setCell ⟨w2.heap.size,0,none⟩ (.slice Av 1 cv))
 generalize w5.setCell ⟨w2.heap.size,0,none⟩ (.slice Av 1 cv)=W6 at*
 have HWA:=Lib.hid (want_any (H0.out.step rO6 (UW6.narrow (fun k hk e=>by omega))) ⟨#[61]⟩ HW.out)
 go_wp2_with fail
 refine HWA.out.mono ?_
 rintro r w7 ⟨rfl,q7⟩
 have hs7:=q7.2.size
 have HXA:Hid (Calls Tryz.prog 136 #[.pointer (some ⟨o,0,none⟩),.int .i64 0,.int .i64 1] w7 (ExRes w7 o P y.1 y.2.1 y.2.2)):=expr_any 40 P o j 0 1 w7 y.1 y.2.1 y.2.2 q7.1 HE.out (by omega) (by omega)
 go_wp2_with fail
 refine HXA.out.mono ?_
 rintro r w8 ⟨A2,cap2,rfl,hx8,h30,q8⟩
 have hs8:=q8.2.size
 have rQ8:=q8.2.row (q7.2.row rQ6 (by omega)) (by omega)
 have rZ8:=q8.2.row (q7.2.row rZ6 (by omega)) (by omega)
 have rQ9:=Row.e9six rQ8 (.int .i64 y.1.op) (.string y.1.name) (.int .i64 y.1.n) (.slice A2 y.1.args.length cap2) (.int .i64 y.1.line) (.int .i64 y.1.col)
 have u9:=upd_e9six w8 w2.heap.size (.int .i64 y.1.op) (.string y.1.name) (.int .i64 y.1.n) (.slice A2 y.1.args.length cap2) (.int .i64 y.1.line) (.int .i64 y.1.col)
 obtain ⟨⟨-,c1,c2,c3,c4,c5,c6,-,-⟩,-,z1,z2,z3,z4,z5,z6,-,-⟩:=Row.e9 rQ8
 go_upto_region 9 with (fail)
 change Code.wp _ _ _ _ ((((((w8.setCell ⟨w2.heap.size,1,none⟩ (.int .i64 y.1.op)).setCell ⟨w2.heap.size,2,none⟩ (.string y.1.name)).setCell ⟨w2.heap.size,3,none⟩ (.int .i64 y.1.n)).setCell ⟨w2.heap.size,4,none⟩ (.slice A2 y.1.args.length cap2)).setCell ⟨w2.heap.size,5,none⟩ (.int .i64 y.1.line)).setCell ⟨w2.heap.size,6,none⟩ (.int .i64 y.1.col))
 clear c1 c2 c3 c4 c5 c6 z1 z2 z3 z4 z5 z6
 generalize (((((w8.setCell ⟨w2.heap.size,1,none⟩ (.int .i64 y.1.op)).setCell ⟨w2.heap.size,2,none⟩ (.string y.1.name)).setCell ⟨w2.heap.size,3,none⟩ (.int .i64 y.1.n)).setCell ⟨w2.heap.size,4,none⟩ (.slice A2 y.1.args.length cap2)).setCell ⟨w2.heap.size,5,none⟩ (.int .i64 y.1.line)).setCell ⟨w2.heap.size,6,none⟩ (.int .i64 y.1.col)=W9 at*
 have hs9:=u9.size
 have rO9:=u9.row q8.1.row (by omega)
 have rZ9:=u9.row rZ8 (by omega)
 have UW9:=UW6.trans (((q7.2.trans q8.2).mono (Y:=fun x=>x=o∨w.heap.size≤x) (fun k e=>Or.inl e)).trans (u9.mono (fun k e=>Or.inr (by omega))))
 have HWB:=Lib.hid (want_any (H0.out.step rO9 (UW9.narrow (fun k hk e=>by omega))) ⟨#[59]⟩ HW2.out)
 go_wp2_with fail
 refine HWB.out.mono ?_
 rintro r w10 ⟨rfl,q10⟩
 have hs10:=q10.2.size
 have rQ10:=q10.2.row rQ9 (by omega)
 have rZ10:=q10.2.row rZ9 (by omega)
 obtain ⟨⟨p0,p1,p2,p3,p4,p5,p6,p7,p8⟩,-⟩:=Row.e9 rQ10
 obtain ⟨⟨x0,x1,x2,x3,x4,x5,x6,x7,x8⟩,e0,e1,e2,e3,e4,e5,e6,e7,e8⟩:=Row.e9 rZ10
 have HZ10:=Lib.hid rZ10
 have UW10:=Lib.hid (UW9.trans (q10.2.mono (Y:=fun x=>x=o∨w.heap.size≤x) (fun k e=>Or.inl e)))
 have HS10:Hid (Sl (hide W3.heap.size w10) w8.heap.size 1 isStr Av [a.1.text]):=by
  have u:Upd (fun k=>k<W3.heap.size) w5 w10:=(u6.mono (fun k e=>by omega)).trans ((((q7.2.trans q8.2).mono (fun k e=>by omega)).trans (u9.mono (fun k e=>by omega))).trans (q10.2.mono (fun k e=>by omega)))
  refine Sl.keep slv (fun p u' hp hc=>?_) (by omega) (fun _ _ _ h=>h)
  exact keeps_of (u.bhide (B:=W3.heap.size) (hi:=w5.heap.size) (fun k hk=>Or.inl hk) (Nat.le_refl _)) p u' hp (hide_more (by omega) w5.heap.size w5 p u' hp hc)
 have HX10:=Lib.hid ((hx8.upd ((u9.mono (Y:=fun k=>k<W3.heap.size) (fun k e=>by omega)).trans (q10.2.mono (fun k e=>by omega))) (fun k e=>Or.inl (by omega)) (Nat.le_refl _)).wide (lo':=W3.heap.size) (by omega) (Nat.le_refl _))
 go_wp2_with fail
 have u11:=upd_e9all w10 w.heap.size (.slice Av 1 cv) (.int .i64 y.1.op) (.string y.1.name) (.int .i64 y.1.n) (.slice A2 y.1.args.length cap2) (.int .i64 y.1.line) (.int .i64 y.1.col) (.int .i64 a.1.line) (.int .i64 a.1.col)
 refine bodyPost_ret (res1 rfl Tryz.underlying65 rfl (by kernel_rfl) rfl (Row.e9all HZ10.out (.slice Av 1 cv) (.int .i64 y.1.op) (.string y.1.name) (.int .i64 y.1.n) (.slice A2 y.1.args.length cap2) (.int .i64 y.1.line) (.int .i64 y.1.col) (.int .i64 a.1.line) (.int .i64 a.1.col))) rfl ⟨⟨[.slice Av 1 cv,.int .i64 y.1.op,.string y.1.name,.int .i64 y.1.n,.slice A2 y.1.args.length cap2,.int .i64 y.1.line,.int .i64 y.1.col,.int .i64 a.1.line,.int .i64 a.1.col],rfl,?_⟩,?_⟩
 ·obtain ⟨k1,k2,k3,k4⟩:=ExH.parts HX10.out
  have hs11:=u11.size
  rw[HX1.out]
  have h10:EqH w10 W3.heap.size w8.heap.size ⟨[a.1.text],y.1,a.1.line,a.1.col⟩ [.slice Av 1 cv,.int .i64 y.1.op,.string y.1.name,.int .i64 y.1.n,.slice A2 y.1.args.length cap2,.int .i64 y.1.line,.int .i64 y.1.col,.int .i64 a.1.line,.int .i64 a.1.col]:=by
   refine ⟨Av,cv,A2,cap2,rfl,⟨k1,?_,?_⟩,hlv,hmv,HS10.out,k2,k3,k4⟩
   ·exact wf_of ⟨by have:=htk.line;show _≤a.1.line;omega,by have:=htk.line;show a.1.line≤_;omega⟩
   ·exact wf_of ⟨by have:=htk.col;show _≤a.1.col;omega,by have:=htk.col;show a.1.col≤_;omega⟩
  exact (h10.upd u11 (fun k e=>Or.inl (by omega)) (by omega)).wide (by omega) (by omega)
 ·exact H0.out.fin (u11.row q10.1.row (by omega)) ((UW10.out.trans (u11.mono (fun k e=>Or.inr (by omega)))).narrow (fun k hk e=>by omega))
def hmv (b:Option Nat) (lo:Nat) (w:World):World:=match b with
 |some g=>hm g lo w
 |none=>hide lo w
section
variable {b b':Option Nat} {lo lo' hi:Nat} {w w':World}
theorem Upd.bhmv {X:Nat→Prop} (h:Upd X w w') (hX:∀k,X k→k<lo∨hi≤k∨b=some k) (hh:hi≤w.heap.size):Below hi (hmv b lo w) (hmv b lo w'):=by
 cases b with
 |none=>exact h.bhide (fun k hk=>by rcases hX k hk with h|h|h<;>first|omega|cases h) hh
 |some g=>exact h.bhm (fun k hk=>by rcases hX k hk with h|h|h<;>first|omega|(cases h;omega)) hh
theorem hmv_to (hi:Nat):Keeps hi (hmv b lo w) (hide lo w):=by
 cases b with
 |none=>exact fun _ _ _ h=>h
 |some g=>exact hm_to hi
theorem hmv_turn {g:Nat} (hb:b'=b∨b'=some g) (hg:hi≤g):Keeps hi (hmv b lo w) (hmv b' lo w):=by
 rcases hb with rfl|rfl
 ·exact fun _ _ _ h=>h
 ·exact fun p u hp h=>hm_of hg p u hp (hmv_to hi p u hp h)
theorem hmv_new (hb:∀g,b=some g→g<lo') (hl:lo≤lo') (hi:Nat):Keeps hi (hide lo' w) (hmv b lo w):=by
 cases b with
 |none=>exact hide_more hl hi w
 |some g=>
  intro p u hp h
  have hgl:=hb g rfl
  by_cases hp':p.block=g
  ·exfalso
   simp only[World.cell?,hide,Array.getElem?_mapIdx] at h
   cases hk:w.heap[p.block]? with
   |none=>rw[hk] at h;cases h
   |some o=>rw[hk] at h;simp only[Option.map_some] at h;rw[if_pos (by omega)] at h;cases h
  ·exact (mask_of (w:=hide lo w) hp').trans (hide_more hl hi w p u hp h)
end
structure OwnH {α:Type} (rel:World→Nat→α→List Value→Prop) (w:World) (base lo size:Nat) (e:TypeId) (v:Value) (l:List α) (css:List (List Value)):Prop where
 own:w.ownsRow base e size v l.length css.flatten
 len:css.length=l.length
 six:∀cs∈css,cs.length=size
 rel:∀(i:Nat) x cs,l[i]? =some x→css[i]? =some cs→rel (hmv v.ownBlock lo w) w.heap.size x cs
section
variable {α:Type} {rel:World→Nat→α→List Value→Prop} {w w':World} {base lo lo' size:Nat} {e:TypeId} {v v':Value} {l:List α} {css:List (List Value)} {x:α} {cs:List Value}
theorem OwnH.nil:OwnH rel w base lo size e (.slice none 0 0) [] []:=⟨World.ownsRow_nil _ _ _ _,rfl,fun _ h=>absurd h List.not_mem_nil,fun i x cs h=>absurd h (by simp)⟩
theorem OwnH.upd (hk:∀{W W':World} {B B':Nat},Keeps B W W'→B≤B'→∀x cs,rel W B x cs→rel W' B' x cs) {X:Nat→Prop} (h:OwnH rel w base lo size e v l css) (hu:Upd X w w') (hX:∀k,X k→k<lo) (hb:∀k,X k→k<base):OwnH rel w' base lo size e v l css:=
 ⟨own_updX h.own hu hb,h.len,h.six,fun i x cs h1 h2=>hk (keeps_of (hu.bhmv (hi:=w.heap.size) (fun k hk=>Or.inl (hX k hk)) (Nat.le_refl _))) hu.size x cs (h.rel i x cs h1 h2)⟩
theorem OwnH.snoc (hk:∀{W W':World} {B B':Nat},Keeps B W W'→B≤B'→∀x cs,rel W B x cs→rel W' B' x cs) (h:OwnH rel w base lo size e v l css) (ho:w'.ownsRow base e size v' (l.length+1) (css.flatten++cs)) (hg:w.grownBy w' v.ownBlock)
  (hb:v'.ownBlock=v.ownBlock∨v'.ownBlock=some w.heap.size) (hc:cs.length=size) (hx:rel (hmv v.ownBlock lo w) w.heap.size x cs):OwnH rel w' base lo size e v' (l++ [x]) (css++ [cs]):=by
 have hu:Upd (fun k=>v.ownBlock=some k) w w':=⟨hg.os,hg.tape,hg.output,hg.size,fun k hk hX=>hg.block k hk (fun e=>hX e.symm)⟩
 have hkk:∀y cy,rel (hmv v.ownBlock lo w) w.heap.size y cy→rel (hmv v'.ownBlock lo w') w'.heap.size y cy:=fun y cy hy=>
  hk (hmv_turn hb (Nat.le_refl _)) hg.size y cy (hk (keeps_of (hu.bhmv (hi:=w.heap.size) (fun k hk=>Or.inr (Or.inr hk)) (Nat.le_refl _))) (Nat.le_refl _) y cy hy)
 refine ⟨by simpa using ho,by simp[h.len],fun c hc'=>?_,fun i y cy h1 h2=>?_⟩
 ·rcases List.mem_append.1 hc' with h'|h'
  ·exact h.six c h'
  ·rw[List.mem_singleton.1 h'];exact hc
 ·rcases Nat.lt_or_ge i l.length with hi|hi
  ·rw[List.getElem?_append_left hi] at h1
   rw[List.getElem?_append_left (by rw[h.len];exact hi)] at h2
   exact hkk y cy (h.rel i y cy h1 h2)
  ·rw[List.getElem?_append_right hi] at h1
   rw[List.getElem?_append_right (by rw[h.len];exact hi),h.len] at h2
   have hil:i-l.length=0:=by
    have:=(List.getElem?_eq_some_iff.1 h1).1
    simp at this;omega
   rw[hil] at h1 h2
   cases h1;cases h2
   exact hkk x cs hx
theorem OwnH.slv (hk:∀{W W':World} {B B':Nat},Keeps B W W'→B≤B'→∀x cs,rel W B x cs→rel W' B' x cs) (h:OwnH rel w base lo size e v l css) (hl:lo≤base):SlV (hide lo w) w.heap.size size (rel (hide lo w) w.heap.size) v l:=by
 refine own_slx h.own hl rfl (fun i x hx=>?_)
 have hi:i<css.length:=by rw[h.len];exact (List.getElem?_eq_some_iff.1 hx).1
 refine ⟨css[i],h.six _ (List.getElem_mem hi),fun j hj=>?_,hk (hmv_to _) (Nat.le_refl _) x _ (h.rel i x _ hx (List.getElem?_eq_getElem hi))⟩
 exact (flatten_get h.six (List.getElem?_eq_getElem hi) hj).symm
end
theorem pnode_is {P:List Tok} {i:Nat} {x:Nd × Nat} (h:pnode P i=some x):∃i1 a b i2 c i3 i4 q,pwant P [110,111,100,101] i=some i1∧pname P i1=some a∧pports P a.2=some b∧pwant P [114,101,116,117,114,110,115] b.2=some i2∧pports P i2=some c∧pwant P [59] c.2=some i3∧pnot P [118,97,114] i3=some ()∧pwant P [108,101,116] i3=some i4∧peqns P 49 i4 []=some q∧
  x=(⟨a.1.text,b.1,c.1,[],q.1,a.1.line,a.1.col⟩,q.2):=by
 obtain ⟨i1,h1,h⟩:=Option.bind_eq_some_iff.1 h
 obtain ⟨a,h2,h⟩:=Option.bind_eq_some_iff.1 h
 obtain ⟨b,h3,h⟩:=Option.bind_eq_some_iff.1 h
 obtain ⟨i2,h4,h⟩:=Option.bind_eq_some_iff.1 h
 obtain ⟨c,h5,h⟩:=Option.bind_eq_some_iff.1 h
 obtain ⟨i3,h6,h⟩:=Option.bind_eq_some_iff.1 h
 obtain ⟨_,h7,h⟩:=Option.bind_eq_some_iff.1 h
 obtain ⟨i4,h8,h⟩:=Option.bind_eq_some_iff.1 h
 obtain ⟨q,h9,h⟩:=Option.bind_eq_some_iff.1 h
 cases h
 exact ⟨i1,a,b,i2,c,i3,i4,q,h1,h2,h3,h4,h5,h6,h7,h8,h9,rfl⟩
theorem peqns_is {P:List Tok} {k i:Nat} {l:List Eqn} {x:List Eqn × Nat} (h:peqns P k i l=some x):∃k' y u,k=k'+1∧peqn P l.length i=some y∧P[y.2]? =some u∧((isS u [116,101,108]=true∧x=(l++ [y.1],y.2+1))∨(isS u [116,101,108]=false∧peqns P k' y.2 (l++ [y.1])=some x)):=by
 cases k with
 |zero=>cases h
 |succ k=>
  obtain ⟨y,h1,h⟩:=Option.bind_eq_some_iff.1 h
  obtain ⟨u,h2,h⟩:=Option.bind_eq_some_iff.1 h
  refine ⟨k,y,u,rfl,h1,h2,?_⟩
  cases hs:isS u [116,101,108] with
  |true=>rw[hs,cond_true] at h;cases h;exact .inl ⟨rfl,rfl⟩
  |false=>rw[hs,cond_false] at h;exact .inr ⟨rfl,h⟩
abbrev nd7 (v0 v1 v2 v3 v4 v5 v6:Value):Array Value:= #[v0,v1,v2,v3,v4,v5,v6]
abbrev ndZ7:Array Value:=nd7 (.string ⟨#[]⟩) (.slice none 0 0) (.slice none 0 0) (.slice none 0 0) (.slice none 0 0) (.int .i64 0) (.int .i64 0)
def EqR (w:World) (B:Nat) (x:Eqn) (cs:List Value):Prop:=isEqn w B x cs
theorem eqR_keep {W W':World} {B B':Nat} (hk:Keeps B W W') (hB:B≤B') (x:Eqn) (cs:List Value) (h:EqR W B x cs):EqR W' B' x cs:=isEqn_keep hk hB h
structure NdI (w:World) (o:Nat) (P:Pr) (Q lo:Nat) (a:Tok) (b c:List Vr) (v1 v2:Value) (x:List Eqn × Nat) (v:Value) (l:List Eqn) (css:List (List Value)) (j k:Nat) (wr:World):Prop where
 pe:peqns P.l k j l=some x
 rq:Row wr Q (nd7 (.string a.text) v1 v2 (.slice none 0 0) v (.int .i64 a.line) (.int .i64 a.col)) 58
 rz:Row wr w.heap.size ndZ7 58
 ro:Row wr o (prA P j) 130
 u:Upd (fun x=>x=o∨w.heap.size≤x) w wr
 own:OwnH EqR wr lo lo 9 65 v l css
 ln:l.length+k=49
 hl:lo≤wr.heap.size
 b1:VrH wr (Q+1) lo v1 b
 b2:VrH wr (Q+1) lo v2 c
theorem NdI.take {w wr w':World} {o:Nat} {P:Pr} {Q lo:Nat} {a:Tok} {b c:List Vr} {v1 v2:Value} {x:List Eqn × Nat} {v:Value} {l:List Eqn} {css:List (List Value)} {j k:Nat} (h:NdI w o P Q lo a b c v1 v2 x v l css j k wr) (hq:PrL wr o P j w') (ho:o<w.heap.size) (hQ:w.heap.size<Q) (hl:Q<lo):NdI w o P Q lo a b c v1 v2 x v l css j k w':=
 ⟨h.pe,hq.2.row h.rq (by omega),hq.2.row h.rz (by omega),hq.1.row,h.u.trans (hq.2.mono (fun k e=>Or.inl e)),h.own.upd eqR_keep hq.2 (fun k e=>by omega) (fun k e=>by omega),h.ln,Nat.le_trans h.hl hq.2.size,VrH.upd h.b1 hq.2 (fun k e=>by omega) h.hl,VrH.upd h.b2 hq.2 (fun k e=>by omega) h.hl⟩
theorem eqs_up {X:Nat→Prop} {w w':World} {lo lo':Nat} {v:Value} {l:List Eqn} (h:SlV (hide lo w) w.heap.size 9 (EqR (hide lo w) w.heap.size) v l) (hu:Upd X w w') (hX:∀k,X k→k<lo) (hl:lo'≤lo):SlV (hide lo' w') w'.heap.size 9 (isEqn (hide lo' w') w'.heap.size) v l:=by
 refine' zq152
 exact SlV.keep h hk hu.size (fun _ _ _ h=>isEqn_keep hk hu.size h)
theorem nd7set {W:World} {b:Nat} {z0 z1 z2 z3 z4 z5 z6:Value} {t:TypeId} (h:Row W b (nd7 z0 z1 z2 z3 z4 z5 z6) t) (x0 x1 x2 x3 x4 x5 x6:Value):Row (((((((W.setCell ⟨b,0,none⟩ x0).setCell ⟨b,1,none⟩ x1).setCell ⟨b,2,none⟩ x2).setCell ⟨b,3,none⟩ x3).setCell ⟨b,4,none⟩ x4).setCell ⟨b,5,none⟩ x5).setCell ⟨b,6,none⟩ x6) b (nd7 x0 x1 x2 x3 x4 x5 x6) t:=by
 have:=((((((h.set 0 x0).set 1 x1).set 2 x2).set 3 x3).set 4 x4).set 5 x5).set 6 x6
 simpa using this
theorem upd_nd7 (w:World) (g:Nat) (y0 y1 y2 y3 y4 y5 y6:Value):Upd (fun x=>x=g) w (((((((w.setCell ⟨g,0,none⟩ y0).setCell ⟨g,1,none⟩ y1).setCell ⟨g,2,none⟩ y2).setCell ⟨g,3,none⟩ y3).setCell ⟨g,4,none⟩ y4).setCell ⟨g,5,none⟩ y5).setCell ⟨g,6,none⟩ y6):=
 (upd_six w g y0 y1 y2 y3 y4 y5).setCell (p:=⟨g,6,none⟩) rfl y6
theorem eq9_one (a b c d e f g h i:Value) (ha:a.oneCell'=true) (hb:b.oneCell'=true) (hc:c.oneCell'=true) (hd:d.oneCell'=true) (he:e.oneCell'=true) (hf:f.oneCell'=true) (hg:g.oneCell'=true) (hh:h.oneCell'=true) (hi:i.oneCell'=true):∀u∈[a,b,c,d,e,f,g,h,i],u.oneCell'=true:=by
 intro u hu
 simp only[List.mem_cons,List.not_mem_nil,or_false] at hu
 rcases hu with rfl|rfl|rfl|rfl|rfl|rfl|rfl|rfl|rfl<;>assumption
theorem nd_mk {W:World} {B:Nat} {a:Tok} {b c:List Vr} {l:List Eqn} {Ai Ao A':Option Addr} {ci co c':Nat} (ht:TokOk a) (hli:b.length≤ci) (hmi:ci≤maxLen) (sli:Sl W B 5 (isVr W B) Ai b) (hlo:c.length≤co) (hmo:co≤maxLen) (slo:Sl W B 5 (isVr W B) Ao c)
  (hle:l.length≤c') (hme:c'≤maxLen) (sle:Sl W B 9 (isEqn W B) A' l):NdAt W B ⟨a.text,b,c,[],l,a.line,a.col⟩ ⟨Ai,ci,Ao,co,none,0,A',c'⟩:=by
 have h1:=ht.line
 have h2:=ht.col
 have h3:=ht.text
 exact ⟨by show a.text.size≤maxLen;unfold maxLen;omega,wf_of ⟨by show _≤a.line;omega,by show a.line≤_;omega⟩,wf_of ⟨by show _≤a.col;omega,by show a.col≤_;omega⟩,hli,hmi,sli,hlo,hmo,slo,Nat.le_refl _,Nat.zero_le _,Sl.nil,hle,hme,sle⟩
theorem ndV_mk {a:Tok} {b c:List Vr} {l:List Eqn} {Ai Ao A':Option Addr} {ci co c':Nat} {x y z:Value} (hx:x= .slice Ai b.length ci) (hy:y= .slice Ao c.length co) (hz:z= .slice A' l.length c'):Ending.returned (.agg #[.string a.text,x,y,.slice none 0 0,z,.int .i64 a.line,.int .i64 a.col])= .returned (ndV ⟨a.text,b,c,[],l,a.line,a.col⟩ ⟨Ai,ci,Ao,co,none,0,A',c'⟩):=by
 subst hx;subst hy;subst hz;rfl
theorem info_eq:(Tryz.prog.info? 65).map (fun i=>(i.zero,i.size,i.bytes))=some (some (.agg (eq9 (.slice none 0 0) (.int .i64 0) (.string ⟨#[]⟩) (.int .i64 0) (.slice none 0 0) (.int .i64 0) (.int .i64 0) (.int .i64 0) (.int .i64 0))),9,112):=by kernel_rfl
theorem pnode_any {P:Pr} {o i:Nat} {x:Nd × Nat} {w:World} (h:PrAt w o P i) (hx:pnode P.l i=some x):
  Calls Tryz.prog 53 #[.pointer (some ⟨o,0,none⟩)] w fun r w'=>(∃a,r= .returned (ndV x.1 a)∧NdAt (hide w.heap.size w') w'.heap.size x.1 a)∧PrL w o P x.2 w':=by
 obtain ⟨i1,a,b,i2,c,i3,i4,q,h1,h2,h3,h4,h5,h6,h7,h8,h9,rfl⟩:=pnode_is hx
 obtain ⟨i0,hi0,hz0,hz1,hz2⟩:=info_parts info_eq
 have hol:=h.lt
 have b1:Below w.heap.size w (w.alloc (.cells ndZ7 58)):=bE
 have rZ:=Row.new w ndZ7 58
 have H0:=Lib.hid h
 have hs1:=b1.size
 have hlZ:=rZ.lt
 have HW:=Lib.hid (want_any (h.bel b1) ⟨#[110,111,100,101]⟩ h1)
 have HH:=Lib.hid (And.intro h2 (And.intro h3 (And.intro h4 (And.intro h5 (And.intro h6 (And.intro h7 (And.intro h8 h9)))))))
 clear h hx h1 h2 h3 h4 h5 h6 h7 h8 h9
 go_enter Tryz.func53,Tryz.ntmps53
 go_upto_region 1 with (fail)
 change Code.wp _ _ _ _ (w.alloc (.cells ndZ7 58))
 generalize w.alloc (.cells ndZ7 58)=W1 at*
 go_wp2_with fail
 refine HW.out.mono ?_
 rintro r w2 ⟨rfl,q2⟩
 have hs2:=q2.2.size
 have HNM:Hid (Calls Tryz.prog 85 #[.pointer (some ⟨o,0,none⟩),.int .i64 0,.int .i64 1] w2 fun r w'=>r= .returned (tokV a.1)∧PrL w2 o P a.2 w'):=pname_any q2.1 0 1 (by omega) HH.out.1
 have HTK:Hid (TokOk a.1):=(q2.1.tok (pname_is HH.out.1).1).choose_spec.choose_spec.2.2.1
 go_wp2_with fail
 refine HNM.out.mono ?_
 rintro r w3 ⟨rfl,q3⟩
 have hs3:=q3.2.size
 have rT:=Row.new w3 (tokA a.1) 134
 have rQ:Row ((w3.alloc (.cells (tokA a.1) 134)).alloc (.cells (nd7 (.string a.1.text) (.slice none 0 0) (.slice none 0 0) (.slice none 0 0) (.slice none 0 0) (.int .i64 a.1.line) (.int .i64 a.1.col)) 58)) (w3.heap.size+1) (nd7 (.string a.1.text) (.slice none 0 0) (.slice none 0 0) (.slice none 0 0) (.slice none 0 0) (.int .i64 a.1.line) (.int .i64 a.1.col)) 58:=by
  have:=Row.new (w3.alloc (.cells (tokA a.1) 134)) (nd7 (.string a.1.text) (.slice none 0 0) (.slice none 0 0) (.slice none 0 0) (.slice none 0 0) (.int .i64 a.1.line) (.int .i64 a.1.col)) 58
  simpa using this
 have b4:Below w3.heap.size w3 ((w3.alloc (.cells (tokA a.1) 134)).alloc (.cells (nd7 (.string a.1.text) (.slice none 0 0) (.slice none 0 0) (.slice none 0 0) (.slice none 0 0) (.int .i64 a.1.line) (.int .i64 a.1.col)) 58)):=bE
 have hs4:=b4.size
 have hlQ:=rQ.lt
 have rZ4:=(q3.2.row (q2.2.row rZ (by omega)) (by omega)).below b4 (by omega)
 have rO4:=q3.1.row.below b4 (by omega)
 have UW4:Upd (fun x=>x=o∨w.heap.size≤x) w ((w3.alloc (.cells (tokA a.1) 134)).alloc (.cells (nd7 (.string a.1.text) (.slice none 0 0) (.slice none 0 0) (.slice none 0 0) (.slice none 0 0) (.int .i64 a.1.line) (.int .i64 a.1.col)) 58)):=(Upd.of_below b1).trans (((q2.2.trans q3.2).mono (fun k e=>Or.inl e)).trans (Upd.of_below b4))
 obtain ⟨⟨t0,t1,t2,t3,t4⟩,-⟩:=rT.tk5
 go_upto_region 4 with (fail)
 change Code.wp _ _ _ _ ((w3.alloc (.cells (tokA a.1) 134)).alloc (.cells (nd7 (.string a.1.text) (.slice none 0 0) (.slice none 0 0) (.slice none 0 0) (.slice none 0 0) (.int .i64 a.1.line) (.int .i64 a.1.col)) 58))
 clear t0 t1 t2 t3 t4 HW HNM
 generalize (w3.alloc (.cells (tokA a.1) 134)).alloc (.cells (nd7 (.string a.1.text) (.slice none 0 0) (.slice none 0 0) (.slice none 0 0) (.slice none 0 0) (.int .i64 a.1.line) (.int .i64 a.1.col)) 58)=W4 at*
 have HPA:=Lib.hid (ports_any (H0.out.step rO4 (UW4.narrow (fun k hk e=>by omega))) HH.out.2.1)
 go_wp2_with fail
 refine HPA.out.mono ?_
 rintro r w5 ⟨⟨v1,rfl,hv1⟩,q5⟩
 have hs5:=q5.2.size
 have rQ5:=q5.2.row rQ (by omega)
 have rZ5:=q5.2.row rZ4 (by omega)
 obtain ⟨A1,c1,hv1e,-⟩:=id hv1
 subst hv1e
 have rQ6:Row (w5.setCell ⟨w3.heap.size+1,1,none⟩ (.slice A1 b.1.length c1)) (w3.heap.size+1) (nd7 (.string a.1.text) (.slice A1 b.1.length c1) (.slice none 0 0) (.slice none 0 0) (.slice none 0 0) (.int .i64 a.1.line) (.int .i64 a.1.col)) 58:=by
  have:=rQ5.set 1 (.slice A1 b.1.length c1)
  simpa using this
 have u6:Upd (fun x=>x=w3.heap.size+1) w5 (w5.setCell ⟨w3.heap.size+1,1,none⟩ (.slice A1 b.1.length c1)):=(Upd.refl (fun x=>x=w3.heap.size+1) w5).setCell (p:=⟨w3.heap.size+1,1,none⟩) rfl _
 have UW6:=(UW4.trans (q5.2.mono (Y:=fun x=>x=o∨w.heap.size≤x) (fun k e=>Or.inl e))).trans (u6.mono (fun k e=>Or.inr (by omega)))
 obtain ⟨⟨-,y1,-⟩,-,f1,-⟩:=Row.seven rQ5
 go_upto_region 5 with (fail)
 change Code.wp _ _ _ _ (w5.setCell ⟨w3.heap.size+1,1,none⟩ (.slice A1 b.1.length c1))
 clear y1 f1
 have hV6:=VrH.upd hv1 u6 (fun k e=>by omega) (Nat.le_refl _)
 generalize w5.setCell ⟨w3.heap.size+1,1,none⟩ (.slice A1 b.1.length c1)=W6 at*
 have hs6:=u6.size
 have rO6:=u6.row q5.1.row (by omega)
 have rZ6:=u6.row rZ5 (by omega)
 have HWB:=Lib.hid (want_any (H0.out.step rO6 (UW6.narrow (fun k hk e=>by omega))) ⟨#[114,101,116,117,114,110,115]⟩ HH.out.2.2.1)
 go_wp2_with fail
 refine HWB.out.mono ?_
 rintro r w7 ⟨rfl,q7⟩
 have hs7:=q7.2.size
 have HPB:=Lib.hid (ports_any q7.1 HH.out.2.2.2.1)
 go_wp2_with fail
 refine HPB.out.mono ?_
 rintro r w8 ⟨⟨v2,rfl,hv2⟩,q8⟩
 have hs8:=q8.2.size
 have U78:=q7.2.trans q8.2
 have rQ8:=U78.row rQ6 (by omega)
 have rZ8:=U78.row rZ6 (by omega)
 have hV8:=VrH.upd hV6 U78 (fun k e=>by omega) (by omega)
 obtain ⟨A2,c2,hv2e,-⟩:=id hv2
 subst hv2e
 have rQ9:Row (w8.setCell ⟨w3.heap.size+1,2,none⟩ (.slice A2 c.1.length c2)) (w3.heap.size+1) (nd7 (.string a.1.text) (.slice A1 b.1.length c1) (.slice A2 c.1.length c2) (.slice none 0 0) (.slice none 0 0) (.int .i64 a.1.line) (.int .i64 a.1.col)) 58:=by
  have:=rQ8.set 2 (.slice A2 c.1.length c2)
  simpa using this
 have u9:Upd (fun x=>x=w3.heap.size+1) w8 (w8.setCell ⟨w3.heap.size+1,2,none⟩ (.slice A2 c.1.length c2)):=(Upd.refl (fun x=>x=w3.heap.size+1) w8).setCell (p:=⟨w3.heap.size+1,2,none⟩) rfl _
 have UW9:=(UW6.trans (U78.mono (Y:=fun x=>x=o∨w.heap.size≤x) (fun k e=>Or.inl e))).trans (u9.mono (fun k e=>Or.inr (by omega)))
 obtain ⟨⟨-,-,y2,-⟩,-,-,f2,-⟩:=Row.seven rQ8
 go_upto_region 7 with (fail)
 change Code.wp _ _ _ _ (w8.setCell ⟨w3.heap.size+1,2,none⟩ (.slice A2 c.1.length c2))
 clear y2 f2
 have hV9:=VrH.upd hV8 u9 (fun k e=>by omega) (by omega)
 have hW9:=VrH.upd hv2 u9 (fun k e=>by omega) (Nat.le_refl _)
 generalize w8.setCell ⟨w3.heap.size+1,2,none⟩ (.slice A2 c.1.length c2)=W9 at*
 have hs9:=u9.size
 have rO9:=u9.row q8.1.row (by omega)
 have rZ9:=u9.row rZ8 (by omega)
 have HWC:=Lib.hid (want_any (H0.out.step rO9 (UW9.narrow (fun k hk e=>by omega))) ⟨#[59]⟩ HH.out.2.2.2.2.1)
 go_wp2_with fail
 refine HWC.out.mono ?_
 rintro r w10 ⟨rfl,q10⟩
 have HLO:=Lib.hid (locals_any q10.1 HH.out.2.2.2.2.2.1)
 go_wp2_with fail
 refine HLO.out.mono ?_
 rintro r w11 ⟨rfl,q11⟩
 have hs11:=(q10.2.trans q11.2).size
 have U11:=q10.2.trans q11.2
 have rQ11:=U11.row rQ9 (by omega)
 have rZ11:=U11.row rZ9 (by omega)
 have hV11:=VrH.upd hV9 U11 (fun k e=>by omega) (by omega)
 have hW11:=VrH.upd hW9 U11 (fun k e=>by omega) (by omega)
 have rQ12:Row (w11.setCell ⟨w3.heap.size+1,3,none⟩ (.slice none 0 0)) (w3.heap.size+1) (nd7 (.string a.1.text) (.slice A1 b.1.length c1) (.slice A2 c.1.length c2) (.slice none 0 0) (.slice none 0 0) (.int .i64 a.1.line) (.int .i64 a.1.col)) 58:=by
  have:=rQ11.set 3 (.slice none 0 0)
  simpa using this
 have u12:Upd (fun x=>x=w3.heap.size+1) w11 (w11.setCell ⟨w3.heap.size+1,3,none⟩ (.slice none 0 0)):=(Upd.refl (fun x=>x=w3.heap.size+1) w11).setCell (p:=⟨w3.heap.size+1,3,none⟩) rfl _
 have UW12:=(UW9.trans (U11.mono (Y:=fun x=>x=o∨w.heap.size≤x) (fun k e=>Or.inl e))).trans (u12.mono (fun k e=>Or.inr (by omega)))
 obtain ⟨⟨-,-,-,y3,-⟩,-,-,-,f3,-⟩:=Row.seven rQ11
 go_upto_region 9 with (fail)
 change Code.wp _ _ _ _ (w11.setCell ⟨w3.heap.size+1,3,none⟩ (.slice none 0 0))
 clear y3 f3
 have hV12:=VrH.upd hV11 u12 (fun k e=>by omega) (by omega)
 have hW12:=VrH.upd hW11 u12 (fun k e=>by omega) (by omega)
 generalize w11.setCell ⟨w3.heap.size+1,3,none⟩ (.slice none 0 0)=W12 at*
 have hs12:=u12.size
 have rO12:=u12.row q11.1.row (by omega)
 have rZ12:=u12.row rZ11 (by omega)
 have HWD:=Lib.hid (want_any (H0.out.step rO12 (UW12.narrow (fun k hk e=>by omega))) ⟨#[108,101,116]⟩ HH.out.2.2.2.2.2.2.1)
 go_wp2_with fail
 refine HWD.out.mono ?_
 rintro r w13 ⟨rfl,q13⟩
 have hs13:=q13.2.size
 have hV13:=(VrH.upd hV12 q13.2 (fun k e=>by omega) (by omega)).wide (lo':=w3.heap.size+1+1) (hi':=w13.heap.size) (by omega) (by omega)
 have hW13:=(VrH.upd hW12 q13.2 (fun k e=>by omega) (by omega)).wide (lo':=w3.heap.size+1+1) (hi':=w13.heap.size) (by omega) (by omega)
 have HNI:Hid (NdI w o P (w3.heap.size+1) w13.heap.size a.1 b.1 c.1 (.slice A1 b.1.length c1) (.slice A2 c.1.length c2) q (.slice none 0 0) [] [] i4 49 w13):=
  ⟨HH.out.2.2.2.2.2.2.2,q13.2.row rQ12 (by omega),q13.2.row rZ12 (by omega),q13.1.row,UW12.trans (q13.2.mono (fun k e=>Or.inl e)),OwnH.nil,rfl,Nat.le_refl _,hV13,hW13⟩
 have hQW:w3.heap.size+1<w13.heap.size:=by omega
 have hwQ:w.heap.size<w3.heap.size+1:=by omega
 clear HWD HWC HWB HPA HPB HLO HH hV13 hW13 hV12 hW12 hV11 hW11 hV9 hW9 hV8 hv2 hV6 hv1 q13 q11 q10 q8 q7 q5 q3 q2 UW12 UW9 UW6 UW4 u12 u9 u6 U11 U78 rQ rQ5 rQ6 rQ8 rQ9 rQ11 rQ12 rZ rZ4 rZ5 rZ6 rZ8 rZ9 rZ11 rZ12 rO4 rO6 rO9 rO12 rT b1 b4
 go_wp2_with fail
 generalize w3.heap.size+1=Q at*
 generalize hL0:w13.heap.size=L0 at*
 clear hL0
 go_loopg [] 49 (fun n wr=>∃v l css j,Hid (NdI w o P Q L0 a.1 b.1 c.1 (.slice A1 b.1.length c1) (.slice A2 c.1.length c2) q v l css j n wr))
 case atStart=>exact ⟨_,_,_,_,HNI⟩
 case round=>
  obtain ⟨v,l,css,j,H⟩:=hrel
  obtain ⟨k',y,u,rfl,hy,hu,hcase⟩:=peqns_is H.out.pe
  obtain ⟨Av,cv,hv,-⟩:=own_rd H.out.own.own
  subst hv
  have hsw:=H.out.u.size
  have hl49:l.length≤48:=by have:=H.out.ln;omega
  have HPA:=Lib.hid (H0.out.step H.out.ro (H.out.u.narrow (fun k hk e=>by omega)))
  have HB:=Lib.hid (pbad_any HPA.out)
  have HEQ:=Lib.hid (fun (W:World) (hW:Below wr.heap.size wr W)=>eqn_any (HPA.out.bel hW) hy)
  have q4:wr.cell? ⟨Q,4,none⟩=some (.slice Av l.length cv):=(H.out.rq.cell 4).trans rfl
  have tk0:wr.heap.size≤wr.heap.size:=Nat.le_refl _
  go_wp2_with fail
  refine HB.out.mono ?_
  rintro r w5 ⟨rfl,rfl⟩
  go_upto_region 11 with (fail)
  refine wp_region_L 10 (S:=fun W=>W.cell? ⟨Q,4,none⟩=some (.slice Av l.length cv)) (by kernel_rfl) ?_ (fun hHeld=>?_)
  ·refine' zq159
  refine tkL 0 (some 32) rfl ?_
  refine tkL 1 (some 33) rfl ?_
  refine tkL 2 (some 34) rfl ?_
  refine tkL 3 (some 35) rfl ?_
  refine tkL 4 (some 36) rfl ?_
  refine tkL 5 (some 37) rfl ?_
  refine rdL 6 (some 38) rfl (fun KK hKK=>?_)
  go_simp
  ((go_at_call 88);(refine Calls.mono (HEQ.out _ (Below.drew (Below.refl _ _))) ?_);rintro e w7 ⟨⟨cs,rfl,hcs⟩,h7⟩;(obtain ⟨Av2,cv2,A3,cap3,rfl,hrest⟩:=id hcs);(have r7:=h7.2.row (Row.drew H.out.rq) (by omega));(have HS7:=Lib.hid ((r7.cell 4).trans rfl:w7.cell? ⟨Q,4,none⟩=some (.slice Av l.length cv)));(have HS8:=Lib.hid (fun ob:Obj=>(((r7.alloc ob).cell 4).trans rfl:(w7.alloc ob).cell? ⟨Q,4,none⟩=some (.slice Av l.length cv))));(have HB7:Hid (∀ob:Obj,L0≤(w7.alloc ob).heap.size):=fun ob=>(by have h1:=H.out.hl;have h2:=h7.2.size;have h3:wr.drew.heap.size=wr.heap.size:=rfl;simp;omega));(have HO7:=Lib.hid (fun ob:Obj=>(own_updX (own_below H.out.own.own (Below.drew (Below.refl _ wr))) h7.2 (fun k e=>by omega)).alloc ob)))
  (try go_wp2_with fail)
  refine' zq15
  refine rdL 7 (some 39) rfl (fun KK hKK=>?_)
  go_simp
  refine' zq15
  refine rdL 8 (some 40) rfl (fun KK hKK=>?_)
  ((rw[if_pos (by kernel_rfl)]);(refine wp_append_any _ (.tmp 33) (.tmp 39) 56 rfl L0 65 i0 _ 9 112 Tryz.underlying56 hi0 hz0 hz1 hz2 rfl (by decide) _ l.length css.flatten rfl (HO7.out _) ⟨_,0,none⟩ 1 1 [.slice Av2 y.1.left.length cv2,.int .i64 y.1.right.op,.string y.1.right.name,.int .i64 y.1.right.n,.slice A3 y.1.right.args.length cap3,.int .i64 y.1.right.line,.int .i64 y.1.right.col,.int .i64 y.1.line,.int .i64 y.1.col] rfl rfl (cells_new5 _ _ _) (eq9_one _ _ _ _ _ _ _ _ _ rfl rfl rfl rfl rfl rfl rfl rfl rfl) (by unfold maxLen;omega) (by omega) (HB7.out _) ?_);(intro v9 w9 hown9 hg9 hb9);(have r9:=Row.ownB (r7.alloc _) (HO7.out _) hQW hg9);(have q9:=((r9.cell 4).trans rfl:w9.cell? ⟨Q,4,none⟩=some (.slice Av l.length cv)));(have z9:=r9.frozen 4);(obtain ⟨A9,c9,hv9,-⟩:=own_rd hown9);subst hv9)
  refine' zq15
  refine rdL 9 (some 41) rfl (fun KK hKK=>?_)
  refine' zq148
  have hgb:∀g,(Value.slice Av l.length cv).ownBlock=some g→L0≤g∧g<wr.heap.size:=fun g hg=>H.out.own.own.lt g hg
  have OW7:=(H.out.own.upd eqR_keep Ua (fun k e=>by omega) (fun k e=>by omega)).upd eqR_keep (Upd.of_below (X:=fun _=>False) (bE:Below w7.heap.size w7 (w7.alloc (.cells ([.slice Av2 y.1.left.length cv2,.int .i64 y.1.right.op,.string y.1.right.name,.int .i64 y.1.right.n,.slice A3 y.1.right.args.length cap3,.int .i64 y.1.right.line,.int .i64 y.1.right.col,.int .i64 y.1.line,.int .i64 y.1.col]).toArray 65)))) (fun k e=>e.elim) (fun k e=>e.elim)
  have hcs':EqR (hmv (Value.slice Av l.length cv).ownBlock L0 (w7.alloc (.cells ([.slice Av2 y.1.left.length cv2,.int .i64 y.1.right.op,.string y.1.right.name,.int .i64 y.1.right.n,.slice A3 y.1.right.args.length cap3,.int .i64 y.1.right.line,.int .i64 y.1.right.col,.int .i64 y.1.line,.int .i64 y.1.col]).toArray 65))) (w7.alloc (.cells ([.slice Av2 y.1.left.length cv2,.int .i64 y.1.right.op,.string y.1.right.name,.int .i64 y.1.right.n,.slice A3 y.1.right.args.length cap3,.int .i64 y.1.right.line,.int .i64 y.1.right.col,.int .i64 y.1.line,.int .i64 y.1.col]).toArray 65)).heap.size y.1 [.slice Av2 y.1.left.length cv2,.int .i64 y.1.right.op,.string y.1.right.name,.int .i64 y.1.right.n,.slice A3 y.1.right.args.length cap3,.int .i64 y.1.right.line,.int .i64 y.1.right.col,.int .i64 y.1.line,.int .i64 y.1.col]:=
   eqR_keep (keeps_of ((Upd.of_below (X:=fun _=>False) (bE:Below w7.heap.size w7 (w7.alloc (.cells ([.slice Av2 y.1.left.length cv2,.int .i64 y.1.right.op,.string y.1.right.name,.int .i64 y.1.right.n,.slice A3 y.1.right.args.length cap3,.int .i64 y.1.right.line,.int .i64 y.1.right.col,.int .i64 y.1.line,.int .i64 y.1.col]).toArray 65)))).bhmv (b:=(Value.slice Av l.length cv).ownBlock) (lo:=L0) (hi:=w7.heap.size) (fun k e=>e.elim) (Nat.le_refl _))) (by simp) _ _ (eqR_keep (hmv_new (lo':=wr.heap.size) (fun g hg=>(hgb g hg).2) hL0 w7.heap.size) (Nat.le_refl _) _ _ hcs)
  have OW9:=OW7.snoc eqR_keep hown9 hg9 hb9 rfl hcs'
  have ug:Upd (fun k=>L0≤k) (w7.alloc (.cells ([.slice Av2 y.1.left.length cv2,.int .i64 y.1.right.op,.string y.1.right.name,.int .i64 y.1.right.n,.slice A3 y.1.right.args.length cap3,.int .i64 y.1.right.line,.int .i64 y.1.right.col,.int .i64 y.1.line,.int .i64 y.1.col]).toArray 65)) w9:=⟨hg9.os,hg9.tape,hg9.output,hg9.size,fun k hk hX=>hg9.block k hk (fun e=>hX (hgb k e.symm).1)⟩
  have U9:Upd (fun k=>k=o∨L0≤k) wr w9:=((Ua.mono (fun k e=>Or.inl e)).alloc _).trans (ug.mono (fun k e=>Or.inr e))
  have u10:Upd (fun k=>k=Q) w9 (w9.setCell ⟨Q,4,none⟩ (.slice A9 (l.length+1) c9)):=(Upd.refl (fun k=>k=Q) w9).setCell (p:=⟨Q,4,none⟩) rfl _
  have r10:Row (w9.setCell ⟨Q,4,none⟩ (.slice A9 (l.length+1) c9)) Q (nd7 (.string a.1.text) (.slice A1 b.1.length c1) (.slice A2 c.1.length c2) (.slice none 0 0) (.slice A9 (l.length+1) c9) (.int .i64 a.1.line) (.int .i64 a.1.col)) 58:=by
   have:=r9.set 4 (.slice A9 (l.length+1) c9)
   simpa using this
  have OW10:=OW9.upd eqR_keep u10 (fun k e=>by omega) (fun k e=>by omega)
  have U10:Upd (fun k=>k=o∨L0≤k∨k=Q) wr (w9.setCell ⟨Q,4,none⟩ (.slice A9 (l.length+1) c9)):=(U9.mono (fun k e=>by omega)).trans (u10.mono (fun k e=>Or.inr (Or.inr e)))
  have rO9:Row w9 o (prA P y.2) 130:=Row.ownB (h7.1.row.alloc _) (HO7.out _) (by omega) hg9
  have rO10:=u10.row rO9 (by omega)
  have UZ:Upd (fun k=>k=o∨L0≤k∨k=Q) wr (w9.setCell ⟨Q,4,none⟩ (.slice A9 (l.length+1) c9)):=U10
  have rZ10:=UZ.row H.out.rz (by omega)
  have UW10:=H.out.u.trans (U10.mono (Y:=fun x=>x=o∨w.heap.size≤x) (fun k e=>by omega))
  have V10:=VrH.upd H.out.b1 U10 (fun k e=>by omega) hL0
  have X10:=VrH.upd H.out.b2 U10 (fun k e=>by omega) hL0
  have hs10:=U10.size
  have HN10:Hid (∀x k,peqns P.l k y.2 (l++ [y.1])=some x→(l++ [y.1]).length+k=49→NdI w o P Q L0 a.1 b.1 c.1 (.slice A1 b.1.length c1) (.slice A2 c.1.length c2) x (.slice A9 (l.length+1) c9) (l++ [y.1]) (css++ [[.slice Av2 y.1.left.length cv2,.int .i64 y.1.right.op,.string y.1.right.name,.int .i64 y.1.right.n,.slice A3 y.1.right.args.length cap3,.int .i64 y.1.right.line,.int .i64 y.1.right.col,.int .i64 y.1.line,.int .i64 y.1.col]]) y.2 k (w9.setCell ⟨Q,4,none⟩ (.slice A9 (l.length+1) c9))):=fun x k hp hl=>⟨hp,r10,rZ10,rO10,UW10,OW10,hl,by omega,V10,X10⟩
  have HP10:=Lib.hid (H0.out.step rO10 (UW10.narrow (fun k hk e=>by omega)))
  have HF10:=Lib.hid (And.intro r10 (And.intro rZ10 (And.intro UW10 (And.intro OW10 (And.intro V10 X10)))))
  clear OW7 hcs' OW9 ug U9 u10 r10 OW10 U10 rO9 rO10 UZ rZ10 UW10 V10 X10 Ua HO7 HS7 HS8 r7 r9 q9 z9 hrest hcs h7 hown9 hg9 hb9 q4
  go_wp2_with fail
  generalize (w9.setCell ⟨Q,4,none⟩ (.slice A9 (l.length+1) c9))=W10 at*
  rcases hcase with ⟨hs,hn⟩|⟨hs,hn⟩
  ·have HT:=Lib.hid (take_yes HP10.out hu ⟨#[116,101,108]⟩ hs)
   have HX:=Lib.hid hn
   clear hn hs
   go_wp2_with fail
   refine HT.out.mono ?_
   rintro r w11 ⟨rfl,q11⟩
   have hs11:=q11.2.size
   have rQ11:=q11.2.row HF10.out.1 (by omega)
   have HZ11:=Lib.hid (q11.2.row HF10.out.2.1 (by omega))
   have HU11:=Lib.hid (HF10.out.2.2.1.trans (q11.2.mono (Y:=fun x=>x=o∨w.heap.size≤x) (fun k e=>Or.inl e)))
   have HO11:=Lib.hid (HF10.out.2.2.2.1.upd eqR_keep q11.2 (fun k e=>by omega) (fun k e=>by omega))
   have HV11:=Lib.hid (VrH.upd HF10.out.2.2.2.2.1 q11.2 (fun k e=>by omega) (by omega))
   have HX11:=Lib.hid (VrH.upd HF10.out.2.2.2.2.2 q11.2 (fun k e=>by omega) (by omega))
   have HQ11:=Lib.hid q11
   obtain ⟨⟨p0,p1,p2,p3,p4,p5,p6⟩,-⟩:=Row.seven rQ11
   obtain ⟨⟨x0,x1,x2,x3,x4,x5,x6⟩,e0,e1,e2,e3,e4,e5,e6⟩:=Row.seven HZ11.out
   clear rQ11 q11 HT HF10 HN10 HP10 HEQ HPA HB
   go_wp2_with fail
   have u12:=upd_nd7 w11 w.heap.size (.string a.1.text) (.slice A1 b.1.length c1) (.slice A2 c.1.length c2) (.slice none 0 0) (.slice A9 (l.length+1) c9) (.int .i64 a.1.line) (.int .i64 a.1.col)
   refine bodyPost_ret (res1 rfl Tryz.underlying58 rfl (by kernel_rfl) rfl (nd7set HZ11.out (.string a.1.text) (.slice A1 b.1.length c1) (.slice A2 c.1.length c2) (.slice none 0 0) (.slice A9 (l.length+1) c9) (.int .i64 a.1.line) (.int .i64 a.1.col))) rfl ?_
   have hs12:=u12.size
   have hL11:L0≤w11.heap.size:=by omega
   obtain ⟨A',c',e,hle,hme,sle⟩:=eqs_up (lo':=w.heap.size) (HO11.out.slv eqR_keep (Nat.le_refl _)) u12 (fun k e=>by omega) (by omega)
   obtain ⟨Ai,ci,ei,hli,hmi,sli⟩:=(VrH.upd HV11.out u12 (fun k e=>by omega) (by omega)).wide (lo':=w.heap.size) (by omega) (Nat.le_trans hL11 hs12)
   obtain ⟨Ao,co,eo,hlo,hmo,slo⟩:=(VrH.upd HX11.out u12 (fun k e=>by omega) (by omega)).wide (lo':=w.heap.size) (by omega) (Nat.le_trans hL11 hs12)
   have hq:=HX.out
   subst hq
   have HG:=Lib.hid (nd_mk HTK.out hli hmi sli hlo hmo slo hle hme sle)
   have HE:=Lib.hid (ndV_mk (a:=a.1) ei eo e)
   have HP12:=Lib.hid (H0.out.fin (u12.row HQ11.out.1.row (by omega)) ((HU11.out.trans (u12.mono (fun k e=>Or.inr (by omega)))).narrow (fun k hk e=>by omega)))
   exact ⟨⟨⟨Ai,ci,Ao,co,none,0,A',c'⟩,HE.out,HG.out⟩,HP12.out⟩
  ·have HT:=Lib.hid (take_no HP10.out hu ⟨#[116,101,108]⟩ hs)
   have HNN:Hid (NdI w o P Q L0 a.1 b.1 c.1 (.slice A1 b.1.length c1) (.slice A2 c.1.length c2) q (.slice A9 (l.length+1) c9) (l++ [y.1]) (css++ [[.slice Av2 y.1.left.length cv2,.int .i64 y.1.right.op,.string y.1.right.name,.int .i64 y.1.right.n,.slice A3 y.1.right.args.length cap3,.int .i64 y.1.right.line,.int .i64 y.1.right.col,.int .i64 y.1.line,.int .i64 y.1.col]]) y.2 k' W10):=HN10.out q k' hn (by rw[List.length_append];have:=H.out.ln;simp;omega)
   clear hn hs HF10 HN10 HP10 HEQ HPA HB
   go_wp2_with fail
   refine HT.out.mono ?_
   rintro r w11 ⟨rfl,q11⟩
   have HNN2:=Lib.hid (HNN.out.take q11 hol hwQ hQW)
   clear HNN HT q11
   go_wp2_with fail
   go_roundg k'
   case measure=>omega
   case rel=>exact ⟨_,_,_,_,HNN2⟩
end Go.Proofs.YtdkgkacnjdnpoaaGreat
