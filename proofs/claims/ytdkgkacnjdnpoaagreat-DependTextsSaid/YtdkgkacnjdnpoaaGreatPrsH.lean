/-
  The contract of the parser's prefix. What lies in the blocks from one on, but for one more; the plain steps of the parser's expressions. The contract of the parser's expr, to any depth.
-/
import Derived.Test.YtdkgkacnjdnpoaaGreatZz
import Derived.Test.YtdkgkacnjdnpoaaGreatPrsE
import Derived.Deep.LoopGhost
set_option maxHeartbeats 8000000
set_option maxRecDepth 100000
namespace Go.Proofs.YtdkgkacnjdnpoaaGreat
open Go.RowKit _root_.Go.Proofs.YtdkgkacnjdnpoaaGreat.Nm
attribute [local go_sem] field_tk0 field_tk1 field_tk3
theorem res3p {P:Program} {fn:Func} {p q s:Tmp} {ty:TypeId} {d:TypeDesc} {cs:Array Value} (h:fn.results= #[.cell p ty,.tmp q,.tmp s]) (hu:P.underlying ty=some d) (hd:(match d with| .struct _| .array _ _=>true|_=>false)=true) (hi:(P.info? ty).map (·.size)=some cs.size)
  {tmps:Array Value} {w:World} {g:Nat} {t:TypeId} {u v:Value} (hp:tmps.getD p undef= .pointer (some ⟨g,0,none⟩)) (hq:tmps.getD q undef=u) (hs:tmps.getD s undef=v) (hg:Row w g cs t):(results fn tmps).run P w= .ok (.tuple #[.agg cs,u,v]) w:=by
 refine' zq120
 have hs':tmps[s]?.getD undef=v:=by simpa using hs
 simp[results,h,hp',hq',hs',asAddr,run_loadVar_row w g t ty cs (0,0) d hg hu hd hi]
def PrefRes (w:World) (o:Nat) (P:Pr) (e:Ex) (h s j:Nat) (r:Ending) (w':World):Prop:=
 ∃A cap,r= .returned (.tuple #[exV e A cap,.int .i64 h,.int .i64 s])∧ExH w' w.heap.size w'.heap.size e A cap∧h≤30∧PrL w o P j w'
theorem PrefRes.fin {w w1:World} {o i j Z lo hi h s:Nat} {P:Pr} {e:Ex} {A:Option Addr} {cap:Nat} (h0:PrAt w o P i) (rO:Row w1 o (prA P j) 130) (u:Upd (fun x=>x=o∨w.heap.size≤x) w w1) (hZ:w.heap.size≤Z) (hx:ExH w1 lo hi e A cap) (hl:w.heap.size≤lo) (hh:hi≤w1.heap.size) (hz:Z<lo∨hi≤Z) (h30:h≤30):
  PrefRes w o P e h s j (.returned (.tuple #[exV e A cap,.int .i64 h,.int .i64 s])) ((((((w1.setCell ⟨Z,0,none⟩ (.int .i64 e.op)).setCell ⟨Z,1,none⟩ (.string e.name)).setCell ⟨Z,2,none⟩ (.int .i64 e.n)).setCell ⟨Z,3,none⟩ (.slice A e.args.length cap)).setCell ⟨Z,4,none⟩ (.int .i64 e.line)).setCell ⟨Z,5,none⟩ (.int .i64 e.col)):=by
 refine' zq176
 exact ⟨A,cap,rfl,(hx.upd u6 (fun k e=>by omega) hh).wide hl (by omega),h30,h0.fin (u6.row rO (by omega)) ((u.trans (u6.mono (fun k e=>Or.inr (by omega)))).narrow (fun k hk e=>by omega))⟩
theorem sl_ints {W:World} {g:Nat} {l:List Int} {t:TypeId} (hr:Row W g (ints l).toArray t) (hl:l.length≤100) (hw:∀x∈l,Wf x):SlV W W.heap.size 1 isInt (.slice (some ⟨g,0,none⟩) l.length l.length) l:=by
 refine ⟨_,_,rfl,Nat.le_refl _,by unfold maxLen;omega,fun _=>⟨g,0,rfl,hr.lt,fun i x hx=>⟨[.int .i64 x],fun j u hu=>?_,rfl,hw x (List.mem_of_getElem? hx)⟩⟩⟩
 match j,hu with
 |0,hu=>
  simp at hu
  subst hu
  rw[hr.cell,List.getElem?_toArray]
  simp[ints,hx]
theorem ppref_is {P:List Tok} {rec:Nat→Nat→Nat→PExR} {level i:Nat} {x:Ex × Nat × Nat × Nat} (h:ppref P rec level i=some x):∃t,P[i]? =some t∧isS t [45]=false∧isS t [110,111,116]=false∧
  ((isS t [112,114,101]=true∧∃y,rec 9 (level+1) (i+1)=some y∧phgt [y.2.1]≤30∧x=(⟨21,⟨#[]⟩,0,[y.1],t.line,t.col⟩,phgt [y.2.1],9,y.2.2))∨(isS t [112,114,101]=false∧∃y,pprim P rec level i=some y∧x=(y.1,y.2.1,10,y.2.2))):=by
 obtain ⟨t,h1,h⟩:=Option.bind_eq_some_iff.1 h
 refine ⟨t,h1,?_⟩
 cases ha:isS t [45] with
 |true=>rw[ha] at h;cases h
 |false=>
  cases hb:isS t [110,111,116] with
  |true=>rw[ha,hb] at h;cases h
  |false=>
   refine ⟨rfl,rfl,?_⟩
   rw[ha,hb,Bool.or_self,cond_false] at h
   cases hc:isS t [112,114,101] with
   |true=>
    rw[hc,cond_true] at h
    obtain ⟨y,h2,h⟩:=Option.bind_eq_some_iff.1 h
    cases hd:decide (phgt [y.2.1]≤30) with
    |false=>rw[hd] at h;cases h
    |true=>rw[hd] at h;cases h;exact .inl ⟨rfl,y,h2,of_decide_eq_true hd,rfl⟩
   |false=>
    rw[hc,cond_false] at h
    obtain ⟨y,h2,h⟩:=Option.bind_eq_some_iff.1 h
    cases h
    exact .inr ⟨rfl,y,h2,rfl⟩
theorem pref_any {f:Nat} (IH:ExC f) {P:Pr} {o i level:Nat} {w:World} (h:PrAt w o P i) {x:Ex × Nat × Nat × Nat} (hx:ppref P.l (pexpr P.l f) level i=some x) (hlv:level≤64):
  Calls Tryz.prog 172 #[.pointer (some ⟨o,0,none⟩),.int .i64 level] w (PrefRes w o P x.1 x.2.1 x.2.2.1 x.2.2.2):=by
 obtain ⟨t,ht,hn1,hn2,hc⟩:=ppref_is hx
 clear hx
 obtain ⟨-,-,-,hip,htk,-⟩:=h.tok ht
 refine' zq150
 have H0:=Lib.hid h
 have hol:=h.lt
 have HN:=Lib.hid (now_any (h.bel b1) ht)
 have hs1:=b1.size
 have hlZ:=rZ.lt
 clear h
 go_enter Tryz.func172,Tryz.ntmps172
 refine' zq105
 go_wp2_with fail
 refine HN.out.mono ?_
 rintro r w2 ⟨rfl,hb2⟩
 have hs2:=hb2.size
 have rE:=Row.new w2 (exA ⟨0,⟨#[]⟩,0,[],t.line,t.col⟩ none 0) 63
 have b4:Below w2.heap.size w2 (w2.alloc (.cells (exA ⟨0,⟨#[]⟩,0,[],t.line,t.col⟩ none 0) 63)):=bE
 refine' zq179
 go_upto_region 4 with (fail)
 change Code.wp _ _ _ _ (w2.alloc (.cells (exA ⟨0,⟨#[]⟩,0,[],t.line,t.col⟩ none 0) 63))
 generalize w2.alloc (.cells (exA ⟨0,⟨#[]⟩,0,[],t.line,t.col⟩ none 0) 63)=W4 at*
 have HT1:=Lib.hid (take_no H4.out ht ⟨#[45]⟩ hn1)
 go_wp2_with fail
 refine HT1.out.mono ?_
 rintro r w5 ⟨rfl,h5⟩
 have HT2:=Lib.hid (take_no h5.1 ht ⟨#[110,111,116]⟩ hn2)
 go_wp2_with fail
 refine HT2.out.mono ?_
 rintro r w6 ⟨rfl,h6⟩
 have U6:=h5.2.trans h6.2
 have UW6:=(Upd.of_below (X:=fun x=>x=o∨w.heap.size≤x) b5).trans (U6.mono (fun k e=>Or.inl e))
 have hs6:=U6.size
 have rE6:=U6.row rE (by omega)
 have rZ6:=U6.row rZ4 (by omega)
 rcases hc with ⟨hp,y,hy,hh,rfl⟩|⟨hp,y,hy,rfl⟩
 ·have HT3:=Lib.hid (take_yes h6.1 ht ⟨#[112,114,101]⟩ hp)
  go_wp2_with fail
  refine HT3.out.mono ?_
  rintro r w7 ⟨rfl,h7⟩
  have rE7:=h7.2.row rE6 (by omega)
  have rZ7:=h7.2.row rZ6 (by omega)
  have hs7:=h7.2.size
  have rE8:Row (w7.setCell ⟨w2.heap.size,0,none⟩ (.int .i64 21)) w2.heap.size (exA ⟨21,⟨#[]⟩,0,[],t.line,t.col⟩ none 0) 63:=by
   have:=rE7.set 0 (.int .i64 21)
   refine' zq89
  have u8:Upd (fun x=>x=w2.heap.size) w7 (w7.setCell ⟨w2.heap.size,0,none⟩ (.int .i64 21)):=(Upd.refl (fun x=>x=w2.heap.size) w7).setCell (p:=⟨w2.heap.size,0,none⟩) rfl _
  have rZ8:=u8.row rZ7 (by omega)
  have rO8:=u8.row h7.1.row (by omega)
  have UW8:=(UW6.trans (h7.2.mono (fun k e=>Or.inl e))).trans (u8.mono (fun k e=>Or.inr (by omega)))
  have hs8:=u8.size
  have H8:=Lib.hid (H0.out.step rO8 (UW8.narrow (fun k hk e=>by omega)))
  obtain ⟨⟨q0,q1,q2,q3,q4,q5⟩,e0,e1,e2,e3,e4,e5⟩:=Row.e6 rE7
  go_upto_region 10 with (fail)
  clear q0 q1 q2 q3 q4 q5 e0 e1 e2 e3 e4 e5
  generalize w7.setCell ⟨w2.heap.size,0,none⟩ (.int .i64 21)=W8 at*
  have HX:Hid (Calls Tryz.prog 136 #[.pointer (some ⟨o,0,none⟩),.int .i64 9,.int .i64 (level+1)] W8 (ExRes W8 o P y.1 y.2.1 y.2.2)):=IH P o (i+1) 9 (level+1) W8 y.1 y.2.1 y.2.2 H8.out hy (by omega) (by omega)
  go_wp2_with fail
  refine HX.out.mono ?_
  rintro r w9 ⟨A,cap,rfl,hx9,h30,h9⟩
  have hs9:=h9.2.size
  have rE9:=h9.2.row rE8 (by omega)
  have rZ9:=h9.2.row rZ8 (by omega)
  have rR:=(Row.new w9 (exA y.1 A cap) 63).alloc (.cells (exA y.1 A cap) 63)
  have rS:Row ((w9.alloc (.cells (exA y.1 A cap) 63)).alloc (.cells (exA y.1 A cap) 63)) (w9.heap.size+1) (exA y.1 A cap) 63:=by
   have:=Row.new (w9.alloc (.cells (exA y.1 A cap) 63)) (exA y.1 A cap) 63
   simpa using this
  have b11:Below w9.heap.size w9 ((w9.alloc (.cells (exA y.1 A cap) 63)).alloc (.cells (exA y.1 A cap) 63)):=bE
  have hs11:=b11.size
  have rE11:=rE9.below b11 (by omega)
  have rZ11:=rZ9.below b11 (by omega)
  have rO11:=h9.1.row.below b11 (by omega)
  have hlS:=rS.lt
  have hx11:=hx9.upd (Upd.of_below (X:=fun _=>False) b11) (fun k e=>e.elim) (Nat.le_refl _)
  have UW11:=UW8.trans ((h9.2.mono (fun k e=>Or.inl e)).trans (Upd.of_below b11))
  obtain ⟨⟨q0,q1,q2,q3,q4,q5⟩,e0,e1,e2,e3,e4,e5⟩:=Row.e6 rE11
  obtain ⟨⟨p0,p1,p2,p3,p4,p5⟩,-⟩:=Row.e6 (Row.new w9 (exA y.1 A cap) 63)
  go_upto_region 12 with (fail)
  change Code.wp _ _ _ _ (((w9.alloc (.cells (exA y.1 A cap) 63)).alloc (.cells (exA y.1 A cap) 63)).setCell ⟨w2.heap.size,3,none⟩ (.slice (some ⟨w9.heap.size+1,0,none⟩) 1 1))
  clear p0 p1 p2 p3 p4 p5
  generalize (w9.alloc (.cells (exA y.1 A cap) 63)).alloc (.cells (exA y.1 A cap) 63)=W11 at*
  have rE12:Row (W11.setCell ⟨w2.heap.size,3,none⟩ (.slice (some ⟨w9.heap.size+1,0,none⟩) 1 1)) w2.heap.size (exA ⟨21,⟨#[]⟩,0,[y.1],t.line,t.col⟩ (some ⟨w9.heap.size+1,0,none⟩) 1) 63:=by
   have:=rE11.set 3 (.slice (some ⟨w9.heap.size+1,0,none⟩) 1 1)
   refine' zq89
  have u12:Upd (fun x=>x=w2.heap.size) W11 (W11.setCell ⟨w2.heap.size,3,none⟩ (.slice (some ⟨w9.heap.size+1,0,none⟩) 1 1)):=(Upd.refl (fun x=>x=w2.heap.size) W11).setCell (p:=⟨w2.heap.size,3,none⟩) rfl _
  clear q0 q1 q2 q3 q4 q5 e0 e1 e2 e3 e4 e5
  generalize W11.setCell ⟨w2.heap.size,3,none⟩ (.slice (some ⟨w9.heap.size+1,0,none⟩) 1 1)=W12 at*
  have hs12:=u12.size
  have rZ12:=u12.row rZ11 (by omega)
  have rO12:=u12.row rO11 (by omega)
  have rS12:=u12.row rS (by omega)
  have hx12:=hx11.upd u12 (fun k e=>by omega) (by omega)
  have UW12:=UW11.trans (u12.mono (Y:=fun x=>x=o∨w.heap.size≤x) (fun k e=>Or.inr (by omega)))
  have hI12:IsExs (hide W8.heap.size W12) W12.heap.size (some ⟨w9.heap.size+1,0,none⟩) [y.1]:=exs_row (css:=[exCells y.1 A cap]) (hi:=w9.heap.size) rS12 (by omega) (ExsAre.one hx12) (by omega)
  have HX12:Hid (ExH W12 W8.heap.size W12.heap.size ⟨21,⟨#[]⟩,0,[y.1],t.line,t.col⟩ (some ⟨w9.heap.size+1,0,none⟩) 1):=IsEx.mk' (exOk_of htk (wf_of ⟨by decide,by decide⟩) (Nat.zero_le _) (wf_of ⟨by decide,by decide⟩)) (Nat.le_refl _) (by unfold maxLen;omega) hI12
  obtain ⟨⟨q0,q1,q2,q3,q4,q5⟩,-⟩:=Row.e6 rE12
  have b13:Below W12.heap.size W12 (W12.alloc (.cells #[.int .i64 y.2.1] 3)):=bE
  have rH:=Row.new W12 #[.int .i64 y.2.1] 3
  have hs13:=b13.size
  have HM:=Lib.hid (made_any o ⟨21,⟨#[]⟩,0,[y.1],t.line,t.col⟩ (some ⟨w9.heap.size+1,0,none⟩) 1 [y.2.1] (.slice (some ⟨W12.heap.size,0,none⟩) 1 1) _ (sl_ints (l:=[(y.2.1:Int)]) rH (by simp) (fun x hx=>by rw[List.mem_singleton.1 hx];exact wf_of ⟨by omega,by omega⟩)) hh (by simp;omega))
  go_wp2_with fail
  refine HM.out.mono ?_
  rintro r w14 ⟨rfl,hb14⟩
  have b14:=b13.trans (hb14.mono hs13)
  have hs14:=b14.size
  have rE14:=rE12.below b14 (by omega)
  have rZ14:=rZ12.below b14 (by omega)
  have rO14:=rO12.below b14 (by omega)
  clear q0 q1 q2 q3 q4 q5
  obtain ⟨⟨q0,q1,q2,q3,q4,q5⟩,e0,e1,e2,e3,e4,e5⟩:=Row.e6 rE14
  go_upto_region 13 with (fail)
  change Code.wp _ _ _ _ ((((((w14.setCell ⟨w2.heap.size,0,none⟩ (.int .i64 21)).setCell ⟨w2.heap.size,1,none⟩ (.string ⟨#[]⟩)).setCell ⟨w2.heap.size,2,none⟩ (.int .i64 0)).setCell ⟨w2.heap.size,3,none⟩ (.slice (some ⟨w9.heap.size+1,0,none⟩) 1 1)).setCell ⟨w2.heap.size,4,none⟩ (.int .i64 t.line)).setCell ⟨w2.heap.size,5,none⟩ (.int .i64 t.col))
  have rE15:=Row.e6set rE14 (.int .i64 21) (.string ⟨#[]⟩) (.int .i64 0) (.slice (some ⟨w9.heap.size+1,0,none⟩) 1 1) (.int .i64 t.line) (.int .i64 t.col)
  have u15:=upd_six w14 w2.heap.size (.int .i64 21) (.string ⟨#[]⟩) (.int .i64 0) (.slice (some ⟨w9.heap.size+1,0,none⟩) 1 1) (.int .i64 t.line) (.int .i64 t.col)
  have rZ15:=u15.row rZ14 (by omega)
  have rO15:=u15.row rO14 (by omega)
  have hx15:=(HX12.out.upd (Upd.of_below (X:=fun _=>False) b14) (fun k e=>e.elim) (Nat.le_refl _)).upd u15 (fun k e=>by omega) (by omega)
  have UW15:=(UW12.trans (Upd.of_below b14)).trans (u15.mono (Y:=fun x=>x=o∨w.heap.size≤x) (fun k e=>Or.inr (by omega)))
  have hs15:=u15.size
  clear q0 q1 q2 q3 q4 q5 e0 e1 e2 e3 e4 e5
  generalize ((((((w14.setCell ⟨w2.heap.size,0,none⟩ (.int .i64 21)).setCell ⟨w2.heap.size,1,none⟩ (.string ⟨#[]⟩)).setCell ⟨w2.heap.size,2,none⟩ (.int .i64 0)).setCell ⟨w2.heap.size,3,none⟩ (.slice (some ⟨w9.heap.size+1,0,none⟩) 1 1)).setCell ⟨w2.heap.size,4,none⟩ (.int .i64 t.line)).setCell ⟨w2.heap.size,5,none⟩ (.int .i64 t.col))=W15 at*
  obtain ⟨⟨q0,q1,q2,q3,q4,q5⟩,-⟩:=Row.e6 rE15
  obtain ⟨⟨x0,x1,x2,x3,x4,x5⟩,z0,z1,z2,z3,z4,z5⟩:=Row.e6 rZ15
  have HF:=Lib.hid (PrefRes.fin (h:=phgt [y.2.1]) (s:=9) (Z:=w.heap.size) H0.out rO15 UW15 (Nat.le_refl _) hx15 (by omega) (by omega) (Or.inl (by omega)) hh)
  have rF:=Row.e6set rZ15 (.int .i64 21) (.string ⟨#[]⟩) (.int .i64 0) (.slice (some ⟨w9.heap.size+1,0,none⟩) 1 1) (.int .i64 t.line) (.int .i64 t.col)
  go_wp2_with fail
  exact bodyPost_ret (res3p (p:=4) (q:=5) (s:=6) (u:= .int .i64 (phgt [y.2.1])) (v:= .int .i64 (9:Nat)) rfl Tryz.underlying63 rfl (by kernel_rfl) rfl rfl rfl rF) rfl HF.out
 ·have HT3:=Lib.hid (take_no h6.1 ht ⟨#[112,114,101]⟩ hp)
  go_wp2_with fail
  refine HT3.out.mono ?_
  rintro r w7 ⟨rfl,h7⟩
  have rZ7:=h7.2.row rZ6 (by omega)
  have hs7:=h7.2.size
  have HX:=Lib.hid (prim_any IH h7.1 hy hlv)
  go_wp2_with fail
  refine HX.out.mono ?_
  rintro r w8 ⟨A,cap,rfl,hx8,h30,h8⟩
  have hs8:=h8.2.size
  have rZ8:=h8.2.row rZ7 (by omega)
  have rR:=Row.new w8 (exA y.1 A cap) 63
  have b9:Below w8.heap.size w8 (w8.alloc (.cells (exA y.1 A cap) 63)):=bE
  have rZ9:=rZ8.below b9 (by omega)
  have rO9:=h8.1.row.below b9 (by omega)
  have hx9:=hx8.upd (Upd.of_below (X:=fun _=>False) b9) (fun k e=>e.elim) (Nat.le_refl _)
  have UW9:=(UW6.trans (h7.2.mono (fun k e=>Or.inl e))).trans ((h8.2.mono (fun k e=>Or.inl e)).trans (Upd.of_below b9))
  have hs9:=b9.size
  go_upto_region 3 with (fail)
  change Code.wp _ _ _ _ (w8.alloc (.cells (exA y.1 A cap) 63))
  generalize w8.alloc (.cells (exA y.1 A cap) 63)=W9 at*
  obtain ⟨⟨q0,q1,q2,q3,q4,q5⟩,-⟩:=Row.e6 rR
  obtain ⟨⟨x0,x1,x2,x3,x4,x5⟩,z0,z1,z2,z3,z4,z5⟩:=Row.e6 rZ9
  have HF:=Lib.hid (PrefRes.fin (h:=y.2.1) (s:=10) (Z:=w.heap.size) H0.out rO9 UW9 (Nat.le_refl _) hx9 (by omega) (by omega) (Or.inl (by omega)) h30)
  have rF:=Row.e6set rZ9 (.int .i64 y.1.op) (.string y.1.name) (.int .i64 y.1.n) (.slice A y.1.args.length cap) (.int .i64 y.1.line) (.int .i64 y.1.col)
  go_wp2_with fail
  exact bodyPost_ret (res3p (p:=4) (q:=5) (s:=6) (u:= .int .i64 y.2.1) (v:= .int .i64 (10:Nat)) rfl Tryz.underlying63 rfl (by kernel_rfl) rfl rfl rfl rF) rfl HF.out
def hm (L lo:Nat) (w:World):World:=mask L (hide lo w)
section
variable {L lo lo' hi hi':Nat} {w w':World}
theorem hm_size:(hm L lo w).heap.size=w.heap.size:=by unfold hm;rw[mask_size,hide_size]
theorem hm_block {k:Nat} (h:lo≤k) (hL:k≠L):(hm L lo w).heap[k]? =w.heap[k]? :=(mask_block hL).trans (hide_block h)
theorem hm_to (hi:Nat):Keeps hi (hm L lo w) (hide lo w):=fun _ _ _ h=>mask_cell h
theorem hm_of (h:hi≤L):Keeps hi (hide lo w) (hm L lo w):=fun p _ hp hc=>(mask_of (o:=L) (w:=hide lo w) (p:=p) (by omega)).trans hc
theorem hm_more (hl:lo'≤lo) (hi:Nat):Keeps hi (hm L lo w) (hm L lo' w):=fun p u hp h=>by
 by_cases hL:p.block=L
 ·exfalso
  unfold hm at h
  simp only[World.cell?,mask] at h
  rw[hL] at h
  rcases Nat.lt_or_ge L (hide lo w).heap.size with hs|hs
  ·rw[Array.getElem?_setIfInBounds_self_of_lt hs] at h;cases h
  ·rw[Array.getElem?_eq_none (by simpa using hs)] at h;cases h
 ·exact (mask_of (w:=hide lo' w) hL).trans (hide_more hl hi w p u hp (mask_cell h))
theorem Upd.bhm {X:Nat→Prop} (h:Upd X w w') (hX:∀k,X k→k<lo∨hi≤k∨k=L) (hh:hi≤w.heap.size):Below hi (hm L lo w) (hm L lo w'):=by
 have hs:=h.size
 refine ⟨h.os,h.tape,h.output,by rw[hm_size,hm_size];exact hs,fun k hk=>?_⟩
 by_cases hL:k=L
 ·subst hL
  unfold hm mask
  dsimp only
  rw[Array.getElem?_setIfInBounds_self_of_lt (by rw[hide_size];omega),Array.getElem?_setIfInBounds_self_of_lt (by rw[hide_size];omega)]
 ·unfold hm
  rw[mask_block hL,mask_block hL]
  by_cases hlo:lo≤k
  ·rw[hide_block hlo,hide_block hlo]
   exact h.block k (by omega) (fun hx=>by have:=hX k hx;omega)
  ·simp only[hide,Array.getElem?_mapIdx]
   rw[Array.getElem?_eq_getElem (show k<w.heap.size by omega),Array.getElem?_eq_getElem (show k<w'.heap.size by omega)]
   simp only[Option.map_some]
   rw[if_pos (by omega),if_pos (by omega)]
end
abbrev ExL (w:World) (L lo hi:Nat) (e:Ex) (A:Option Addr) (cap:Nat):Prop:=IsEx (hm L lo w) hi e (exCells e A cap)
section
variable {w w':World} {L lo lo' hi hi':Nat} {e:Ex} {A:Option Addr} {cap:Nat}
theorem ExL.of (h:ExH w lo hi e A cap) (hL:hi≤L):ExL w L lo hi e A cap:=IsEx.keepS (hm_of hL) h
theorem ExL.to (h:ExL w L lo hi e A cap):ExH w lo hi e A cap:=IsEx.keepS (hm_to hi) h
theorem ExL.upd {X:Nat→Prop} (h:ExL w L lo hi e A cap) (hu:Upd X w w') (hX:∀k,X k→k<lo∨hi≤k∨k=L) (hh:hi≤w.heap.size):ExL w' L lo hi e A cap:=IsEx.below h (hu.bhm hX hh)
theorem ExL.wide (h:ExL w L lo hi e A cap) (hl:lo'≤lo) (hh:hi≤hi'):ExL w L lo' hi' e A cap:=IsEx.more hh (IsEx.keepS (hm_more hl hi) h)
theorem ExL.above (h:ExH w lo hi e A cap) (hL:L<lo):ExL w L lo hi e A cap:=IsEx.keepS (fun p u hp hc=>by
 by_cases hb:p.block=L
 ·exfalso
  simp only[World.cell?,hide,Array.getElem?_mapIdx] at hc
  cases hk:w.heap[p.block]? with
  |none=>rw[hk] at hc;cases hc
  |some o=>rw[hk] at hc;simp only[Option.map_some] at hc;rw[if_pos (by omega)] at hc;cases hc
 ·exact (mask_of (w:=hide lo w) hb).trans hc) h
theorem exs_rowL {g:Nat} {l:List Ex} {css:List (List Value)} {t:TypeId} (hr:Row w g css.flatten.toArray t) (hg:lo≤g) (hL:g≠L) (hx:ExsAre (hm L lo w) hi l css) (hh:hi≤w.heap.size):IsExs (hm L lo w) w.heap.size (some ⟨g,0,none⟩) l:=by
 refine' zq85
 rw[World.cell?_of_block (show (hm L lo w).heap[(⟨g,0+i*6+j,none⟩:Addr).block]? =w.heap[g]? from hm_block hg hL),hr.cell,List.getElem?_toArray,Nat.zero_add,flatten_get hx.six (List.getElem?_eq_getElem hil) hj]
 exact hu
end
theorem ploop_is {P:List Tok} {rec:Nat→Nat→Nat→PExR} {least level k:Nat} {left:Ex} {h s i:Nat} {x:Ex × Nat × Nat} (hx:ploop P rec least level k left h s i=some x):∃k' t op,k=k'+1∧P[i]? =some t∧pinf t=some op∧
  (((op==0||(decide (pstr op<least)||decide (s<pneed op)))=true∧x=(left,h,i))∨(op≠0∧least≤pstr op∧pneed op≤s∧∃y,rec (pfrom op) (level+1) (i+1)=some y∧phgt [h,y.2.1]≤30∧
   ploop P rec least level k' ⟨op,⟨#[]⟩,0,[left,y.1],t.line,t.col⟩ (phgt [h,y.2.1]) (pstr op) y.2.2=some x)):=by
 cases k with
 |zero=>cases hx
 |succ k=>
  obtain ⟨t,h1,hx⟩:=Option.bind_eq_some_iff.1 hx
  obtain ⟨op,h2,hx⟩:=Option.bind_eq_some_iff.1 hx
  refine ⟨k,t,op,rfl,h1,h2,?_⟩
  cases hc:(op==0||(decide (pstr op<least)||decide (s<pneed op))) with
  |true=>rw[hc] at hx;cases hx;exact .inl ⟨rfl,rfl⟩
  |false=>
   rw[hc,cond_false] at hx
   obtain ⟨y,h3,hx⟩:=Option.bind_eq_some_iff.1 hx
   cases hd:decide (phgt [h,y.2.1]≤30) with
   |false=>rw[hd] at hx;cases hx
   |true=>
    rw[hd,cond_true] at hx
    obtain ⟨a1,a2⟩:=Bool.or_eq_false_iff.1 hc
    obtain ⟨a2,a3⟩:=Bool.or_eq_false_iff.1 a2
    exact .inr ⟨beq_eq_false_iff_ne.1 a1,by have:=of_decide_eq_false a2;omega,by have:=of_decide_eq_false a3;omega,y,h3,of_decide_eq_true hd,hx⟩
theorem pexpr_is {P:List Tok} {f least level i:Nat} {x:Ex × Nat × Nat} (h:pexpr P (f+1) least level i=some x):level≤64∧∃t y,P[i]? =some t∧(least==0 && isS t [105,102])=false∧ppref P (pexpr P f) level i=some y∧ploop P (pexpr P f) least level 40 y.1 y.2.1 y.2.2.1 y.2.2.2=some x:=by
 unfold pexpr at h
 cases hd:decide (level≤64) with
 |false=>rw[hd] at h;cases h
 |true=>
  rw[hd,cond_true] at h
  obtain ⟨t,h1,h⟩:=Option.bind_eq_some_iff.1 h
  cases hc:(least==0 && isS t [105,102]) with
  |true=>rw[hc] at h;cases h
  |false=>
   rw[hc,cond_false] at h
   obtain ⟨y,h2,h⟩:=Option.bind_eq_some_iff.1 h
   exact ⟨of_decide_eq_true hd,t,y,h1,hc,h2,h⟩
theorem pinf_ops {t:Tok} {op:Int} (h:pinf t=some op):op=0∨op=23∨op=22∨op=7:=by
 rcases pinf_is h with ⟨_,rfl⟩|⟨_,⟨_,rfl⟩|⟨_,rfl⟩|⟨_,rfl⟩|⟨_,rfl⟩⟩<;>simp
structure LoI (w:World) (o:Nat) (P:Pr) (rec:Nat→Nat→Nat→PExR) (least level L lo:Nat) (x:Ex × Nat × Nat) (left:Ex) (A:Option Addr) (cap h s j k:Nat) (wr:World):Prop where
 pl:ploop P.l rec least level k left h s j=some x
 rl:Row wr L (exA left A cap) 63
 ro:Row wr o (prA P j) 130
 rz:Row wr w.heap.size exZ6 63
 u:Upd (fun x=>x=o∨w.heap.size≤x) w wr
 e:ExL wr L lo wr.heap.size left A cap
 h30:h≤30
 s10:s≤10
theorem ppref_s {P:List Tok} {rec:Nat→Nat→Nat→PExR} {level i:Nat} {x:Ex × Nat × Nat × Nat} (h:ppref P rec level i=some x):x.2.2.1≤10:=by
 obtain ⟨t,-,-,-,⟨-,y,-,-,rfl⟩|⟨-,y,-,rfl⟩⟩:=ppref_is h
 ·show 9≤10;omega
 ·show 10≤10;omega
theorem expr_step {f:Nat} (IH:ExC f):ExC (f+1):=by
 intro P o i least level w e h j h0 hx hle hlv
 obtain ⟨hlv64,t,y,ht,hif,hpf,hlp⟩:=pexpr_is hx
 clear hx
 refine' zq150
 have H0:=Lib.hid h0
 have hol:=h0.lt
 have H1:=Lib.hid (h0.bel b1)
 have hs1:=b1.size
 have hlZ:=rZ.lt
 have h64:decide ((64:Int)<(level:Int))=false:=decide_eq_false (by omega)
 clear h0
 go_enter Tryz.func136,Tryz.ntmps136
 refine' zq105
 have HB:=Lib.hid (pbad_any H1.out)
 have HPF:=Lib.hid (fun (W:World) (hW:Below W1.heap.size W1 W)=>pref_any IH (H1.out.bel hW) hpf hlv64)
 have HLP:=Lib.hid hlp
 go_wp2_with fail
 refine HB.out.mono ?_
 rintro r w2 ⟨rfl,rfl⟩
 have HI:=Lib.hid (is_any H1.out ht ⟨#[105,102]⟩)
 go_upto_region 5 with (fail)
 go_cut[33] (fun v W=>v= .bool false∧Below W1.heap.size W1 W)
 case first=>
  by_cases hl0:least=0
  ·subst hl0
   have hif2:isS t (⟨#[105,102]⟩:ByteArray).data.toList=false:=by simpa using hif
   rw[hif2] at HI
   go_wp2_with fail
   refine HI.out.mono ?_
   rintro r w3 ⟨rfl,hb3⟩
   go_wp2_with fail
   go_meet
   exact ⟨rfl,hb3⟩
  ·have hlz:((least:Int)==0)=false:=by rw[beq_eq_false_iff_ne];omega
   go_wp2_with fail
   go_meet
   exact ⟨rfl,Below.refl _ _⟩
 case rest=>
  obtain ⟨rfl,hbc⟩:=hcut
  have HX:=Lib.hid (HPF.out wc hbc)
  have hsc:=hbc.size
  have rZc:=rZ.below hbc hlZ
  have UWc:Upd (fun x=>x=o∨w.heap.size≤x) w wc:=Upd.of_below (b1.trans (hbc.mono hs1))
  clear HPF HB HI
  go_wp2_with fail
  refine HX.out.mono ?_
  rintro r w3 ⟨A,cap,rfl,hx3,h30,h3⟩
  have hs3:=h3.2.size
  have rL:=Row.new w3 (exA y.1 A cap) 63
  have b4:Below w3.heap.size w3 (w3.alloc (.cells (exA y.1 A cap) 63)):=bE
  have hs4:=b4.size
  have rZ4:=(h3.2.row rZc (by omega)).below b4 (by omega)
  have rO4:=h3.1.row.below b4 (by omega)
  have UW4:=UWc.trans ((h3.2.mono (Y:=fun x=>x=o∨w.heap.size≤x) (fun k e=>Or.inl e)).trans (Upd.of_below b4))
  have hx4:=(hx3.upd (Upd.of_below (X:=fun _=>False) b4) (fun k e=>e.elim) (Nat.le_refl _)).wide (lo':=W1.heap.size) (by omega) (Nat.le_refl _)
  have hlL:=rL.lt
  have HI0:Hid (LoI w o P (pexpr P.l f) least level w3.heap.size W1.heap.size (e,h,j) y.1 A cap y.2.1 y.2.2.1 y.2.2.2 40 (w3.alloc (.cells (exA y.1 A cap) 63))):=
   ⟨HLP.out,rL,rO4,rZ4,UW4,(ExL.of hx4 (Nat.le_refl _)).wide (Nat.le_refl _) hs4,h30,ppref_s hpf⟩
  go_upto_region 8 with (fail)
  have HW4:Hid (W1.heap.size≤w3.heap.size∧w.heap.size≤w3.heap.size):=⟨by omega,by omega⟩
  change Code.wp _ _ _ _ (w3.alloc (.cells (exA y.1 A cap) 63))
  clear hx4 UW4 rO4 rZ4 rL hx3 h3 rZc UWc HX HLP hlp hpf
  generalize hL0:w3.heap.size=L at*
  generalize w3.alloc (.cells (exA y.1 A cap) 63)=W4 at*
  clear hL0
  go_loopg [9,10] 40 (fun q v u wr=>∃left A cap h' s j',v= .int .i64 ((h':Nat):Int)∧u= .int .i64 ((s:Nat):Int)∧Hid (LoI w o P (pexpr P.l f) least level L W1.heap.size (e,h,j) left A cap h' s j' q wr))
  case atStart=>exact ⟨_,_,_,_,_,_,rfl,rfl,HI0⟩
  case round=>
   obtain ⟨left,A,cap,h',s,j',rfl,rfl,H⟩:=hrel
   obtain ⟨k',t',op,rfl,ht',hop,hcase⟩:=ploop_is H.out.pl
   have HPA:=Lib.hid (H0.out.step H.out.ro (H.out.u.narrow (fun k hk e=>by omega)))
   have HB:=Lib.hid (pbad_any HPA.out)
   have HF:=Lib.hid (pinf_any HPA.out ht' hop)
   have HST:=Lib.hid (str_any op (pinf_ops hop))
   have hs10:=H.out.s10
   have h30':=H.out.h30
   have hlw:=H.out.u.size
   have hlL':=H.out.rl.lt
   go_wp2_with fail
   refine HB.out.mono ?_
   rintro r w5 ⟨rfl,rfl⟩
   go_wp2_with fail
   refine HF.out.mono ?_
   rintro r w6 ⟨rfl,hb6⟩
   have hs6:=hb6.size
   go_wp2_with fail
   refine (HST.out _).mono ?_
   rintro r w7 ⟨rfl,rfl⟩
   have d1:decide ((pstr op:Int)<(least:Int))=decide (pstr op<least):=by rw[Bool.eq_iff_iff,decide_eq_true_iff,decide_eq_true_iff];omega
   have d2:decide ((s:Int)<(pneed op:Int))=decide (s<pneed op):=by rw[Bool.eq_iff_iff,decide_eq_true_iff,decide_eq_true_iff];omega
   rcases hcase with ⟨hc,hx⟩|⟨ho,hl1,hn1,y',hy',hh',hl'⟩
   ·cases hx
    have rZ6:=H.out.rz.below hb6 (by omega)
    have rL6:=H.out.rl.below hb6 (by omega)
    have rO6:=H.out.ro.below hb6 (by omega)
    have hx6:=(H.out.e.to).upd (Upd.of_below (X:=fun _=>False) hb6) (fun k e=>e.elim) (Nat.le_refl _)
    have HFN:=Lib.hid (ExRes.fin (h:=h) (Z:=w.heap.size) H0.out rO6 (H.out.u.trans (Upd.of_below hb6)) (Nat.le_refl _) hx6 (by omega) hs6 (Or.inl (by omega)) h30')
    have HZ6:=Lib.hid rZ6
    obtain ⟨⟨q0,q1,q2,q3,q4,q5⟩,-⟩:=Row.e6 rL6
    obtain ⟨⟨x0,x1,x2,x3,x4,x5⟩,z0,z1,z2,z3,z4,z5⟩:=Row.e6 rZ6
    obtain ⟨c1,e1⟩:∃c,(op==0)=c:=⟨_,rfl⟩
    obtain ⟨c2,e2⟩:∃c,decide (pstr op<least)=c:=⟨_,rfl⟩
    obtain ⟨c3,e3⟩:∃c,decide (s<pneed op)=c:=⟨_,rfl⟩
    rw[e1,e2,e3] at hc
    clear d1 d2
    have hc':c1=true∨(c1=false∧c2=true)∨(c1=false∧c2=false∧c3=true):=by revert hc;cases c1<;>cases c2<;>cases c3<;>decide
    clear hc
    rcases hc' with rfl|⟨rfl,rfl⟩|⟨rfl,rfl,rfl⟩
    all_goals
     clear HF HST HB hop ht' HPA hs10 h30' hb6 rZ6 rL6 rO6 hx6
     generalize pstr op=n1 at*
     generalize pneed op=n2 at*
     go_wp2_with fail
    all_goals
     exact bodyPost_ret (res2 (p:=6) (q:=7) (u:= .int .i64 h) rfl Tryz.underlying63 rfl (by kernel_rfl) rfl rfl (Row.e6set HZ6.out (.int .i64 e.op) (.string e.name) (.int .i64 e.n) (.slice A e.args.length cap) (.int .i64 e.line) (.int .i64 e.col))) rfl HFN.out
   ·have htk:TokOk t':=by obtain ⟨-,-,-,-,htk,-⟩:=HPA.out.tok ht';exact htk
    have HWO:Hid (Wf op∧pstr op≤10):=by
     rcases pinf_ops hop with rfl|rfl|rfl|rfl<;>exact ⟨wf_of ⟨by decide,by decide⟩,by decide⟩
    have o24:(op==24)=false:=by rcases pinf_ops hop with rfl|rfl|rfl|rfl<;>rfl
    have o0:(op==0)=false:=beq_eq_false_iff_ne.2 ho
    have e2:decide (pstr op<least)=false:=decide_eq_false (by omega)
    have e3:decide (s<pneed op)=false:=decide_eq_false (by omega)
    have hj5:j'<5000:=by have:=(List.getElem?_eq_some_iff.1 ht').1;have:=H0.out.len;omega
    have hp10:=HWO.out.2
    obtain ⟨fr,HFR⟩:∃fr,Hid (pfrom op=fr):=⟨_,Lib.hid rfl⟩
    have HIH:=Lib.hid (fun (W:World) (h:PrAt W o P (j'+1))=>IH P o (j'+1) fr (level+1) W y'.1 y'.2.1 y'.2.2 h (by rw[←HFR.out];exact hy') (by rw[←HFR.out];unfold pfrom;cases (op==23||op==22)<;>simp<;>omega) (by omega))
    have HFX:Hid (pfrom op=bif op==23||op==22 then pstr op else pstr op+1):=rfl
    have HN:=Lib.hid (now_any (HPA.out.bel hb6) ht')
    have HH:=Lib.hid H.out
    have hl':=Lib.hid hl'
    have hh':=Lib.hid hh'
    have rL6:=H.out.rl.below hb6 (by omega)
    have rZ6:=H.out.rz.below hb6 (by omega)
    have rO6:=H.out.ro.below hb6 (by omega)
    clear d1 d2 hop hy' ho hl1 hn1 HST HB HF ht'
    rw[HFR.out] at HFX
    generalize pstr op=n1 at*
    generalize pneed op=n2 at*
    go_wp2_with fail
    refine HN.out.mono ?_
    rintro r w7 ⟨rfl,hb7⟩
    have hs7:=hb7.size
    have b8:Below w6.heap.size w6 (w7.alloc (.cells (exA ⟨op,⟨#[]⟩,0,[],t'.line,t'.col⟩ none 0) 63)):=hb7.alloc hb7.size _
    have rE8:=Row.new w7 (exA ⟨op,⟨#[]⟩,0,[],t'.line,t'.col⟩ none 0) 63
    have hs8:=b8.size
    have hlE:=rE8.lt
    have rO8:=rO6.below b8 (by omega)
    have rL8:=rL6.below b8 (by omega)
    have rZ8:=rZ6.below b8 (by omega)
    obtain ⟨t1,z1⟩:(w7.alloc (.cells (exA ⟨op,⟨#[]⟩,0,[],t'.line,t'.col⟩ none 0) 63)).cell? ⟨o,1,none⟩=some (.int .i64 j')∧(w7.alloc (.cells (exA ⟨op,⟨#[]⟩,0,[],t'.line,t'.col⟩ none 0) 63)).frozen? ⟨o,1,none⟩=false:=⟨(rO8.cell 1).trans rfl,rO8.frozen 1⟩
    go_upto_region 13 with (fail)
    change Code.wp _ _ _ _ (w7.alloc (.cells (exA ⟨op,⟨#[]⟩,0,[],t'.line,t'.col⟩ none 0) 63))
    generalize w7.alloc (.cells (exA ⟨op,⟨#[]⟩,0,[],t'.line,t'.col⟩ none 0) 63)=W8 at*
    have rO9:=pr_set rO8
    have u9:Upd (fun x=>x=o) W8 (W8.setCell ⟨o,1,none⟩ (.int .i64 (j'+1))):=(Upd.refl (fun x=>x=o) W8).setCell (p:=⟨o,1,none⟩) rfl _
    have rE9:=u9.row rE8 (by omega)
    have rL9:=u9.row rL8 (by omega)
    have rZ9:=u9.row rZ8 (by omega)
    have U9:Upd (fun x=>x=o∨w.heap.size≤x) wr (W8.setCell ⟨o,1,none⟩ (.int .i64 (j'+1))):=(Upd.of_below (hb6.trans (b8.mono hs6))).trans (u9.mono (fun k e=>Or.inl e))
    have ho9:Upd (fun x=>x=o) wr (W8.setCell ⟨o,1,none⟩ (.int .i64 (j'+1))):=(Upd.of_below (hb6.trans (b8.mono hs6))).trans u9
    go_upto_region 14 with (fail)
    clear t1 z1 rO8 rL8 rZ8 rE8
    generalize W8.setCell ⟨o,1,none⟩ (.int .i64 (j'+1))=W9 at*
    have hs9:=u9.size
    have HX:=Lib.hid (HIH.out W9 (H0.out.step rO9 ((HH.out.u.trans U9).narrow (fun k hk e=>by omega))))
    have HXC:Hid (∀m:Int,m=(fr:Int)→Calls Tryz.prog 136 #[.pointer (some ⟨o,0,none⟩),.int .i64 m,.int .i64 (level+1)] W9 (ExRes W9 o P y'.1 y'.2.1 y'.2.2)):=fun m hm=>by subst hm;exact HX.out
    obtain ⟨c1,e23⟩:∃c,(op==23)=c:=⟨_,rfl⟩
    obtain ⟨c2,e22⟩:∃c,(op==22)=c:=⟨_,rfl⟩
    rw[e23,e22] at HFX
    have hfr3:(c1=true∧fr=n1)∨(c1=false∧c2=true∧fr=n1)∨(c1=false∧c2=false∧fr=n1+1):=by
     have:=HFX.out
     cases c1
     ·cases c2
      ·exact .inr (.inr ⟨rfl,rfl,this⟩)
      ·exact .inr (.inl ⟨rfl,rfl,this⟩)
     ·exact .inl ⟨rfl,this⟩
    clear HX HIH HFX HFR
    rcases hfr3 with ⟨rfl,rfl⟩|⟨rfl,rfl,rfl⟩|⟨rfl,rfl,rfl⟩
    all_goals
     go_wp2_with fail
     refine (HXC.out _ (by omega)).mono ?_
     rintro r w10 ⟨A2,cap2,rfl,hx10,h210,h10⟩
     have hs10':=h10.2.size
     have hE10:=h10.2.row rE9 (by omega)
     have hL10:=h10.2.row rL9 (by omega)
     have hZ10:=h10.2.row rZ9 (by omega)
     have rR:=(Row.new w10 (exA y'.1 A2 cap2) 63).alloc (.cells #[.int .i64 left.op,.string left.name,.int .i64 left.n,.slice A left.args.length cap,.int .i64 left.line,.int .i64 left.col,.int .i64 y'.1.op,.string y'.1.name,.int .i64 y'.1.n,.slice A2 y'.1.args.length cap2,.int .i64 y'.1.line,.int .i64 y'.1.col] 63)
     have rS:Row ((w10.alloc (.cells (exA y'.1 A2 cap2) 63)).alloc (.cells #[.int .i64 left.op,.string left.name,.int .i64 left.n,.slice A left.args.length cap,.int .i64 left.line,.int .i64 left.col,.int .i64 y'.1.op,.string y'.1.name,.int .i64 y'.1.n,.slice A2 y'.1.args.length cap2,.int .i64 y'.1.line,.int .i64 y'.1.col] 63)) (w10.heap.size+1) #[.int .i64 left.op,.string left.name,.int .i64 left.n,.slice A left.args.length cap,.int .i64 left.line,.int .i64 left.col,.int .i64 y'.1.op,.string y'.1.name,.int .i64 y'.1.n,.slice A2 y'.1.args.length cap2,.int .i64 y'.1.line,.int .i64 y'.1.col] 63:=by
      have:=Row.new (w10.alloc (.cells (exA y'.1 A2 cap2) 63)) #[.int .i64 left.op,.string left.name,.int .i64 left.n,.slice A left.args.length cap,.int .i64 left.line,.int .i64 left.col,.int .i64 y'.1.op,.string y'.1.name,.int .i64 y'.1.n,.slice A2 y'.1.args.length cap2,.int .i64 y'.1.line,.int .i64 y'.1.col] 63
      simpa using this
     have b12:Below w10.heap.size w10 ((w10.alloc (.cells (exA y'.1 A2 cap2) 63)).alloc (.cells #[.int .i64 left.op,.string left.name,.int .i64 left.n,.slice A left.args.length cap,.int .i64 left.line,.int .i64 left.col,.int .i64 y'.1.op,.string y'.1.name,.int .i64 y'.1.n,.slice A2 y'.1.args.length cap2,.int .i64 y'.1.line,.int .i64 y'.1.col] 63)):=bE
     have hs12:=b12.size
     have hlS:=rS.lt
     have rE12:=hE10.below b12 (by omega)
     have rL12:=hL10.below b12 (by omega)
     have rZ12:=hZ10.below b12 (by omega)
     have rO12:=h10.1.row.below b12 (by omega)
     obtain ⟨⟨p0,p1,p2,p3,p4,p5⟩,-⟩:=Row.e6 (Row.new w10 (exA y'.1 A2 cap2) 63)
     obtain ⟨⟨l0,l1,l2,l3,l4,l5⟩,-⟩:=Row.e6 (hL10.alloc (.cells (exA y'.1 A2 cap2) 63))
     obtain ⟨⟨q0,q1,q2,q3,q4,q5⟩,v0,v1,v2,v3,v4,v5⟩:=Row.e6 rE12
     go_upto_region 25 with (fail)
     change Code.wp _ _ _ _ (((w10.alloc (.cells (exA y'.1 A2 cap2) 63)).alloc (.cells #[.int .i64 left.op,.string left.name,.int .i64 left.n,.slice A left.args.length cap,.int .i64 left.line,.int .i64 left.col,.int .i64 y'.1.op,.string y'.1.name,.int .i64 y'.1.n,.slice A2 y'.1.args.length cap2,.int .i64 y'.1.line,.int .i64 y'.1.col] 63)).setCell ⟨w7.heap.size,3,none⟩ (.slice (some ⟨w10.heap.size+1,0,none⟩) 2 2))
     have hxL12:=HH.out.e.upd (X:=fun k=>k=o∨wr.heap.size≤k) (((ho9.trans h10.2).mono (fun k e=>Or.inl e)).trans (Upd.of_below b12)) (fun k e=>by omega) (Nat.le_refl _)
     have hxR12:=ExL.above (hx10.upd (Upd.of_below (X:=fun _=>False) b12) (fun k e=>e.elim) (Nat.le_refl _)) (show L<W9.heap.size by omega)
     have UW12:=HH.out.u.trans (U9.trans ((h10.2.mono (Y:=fun x=>x=o∨w.heap.size≤x) (fun k e=>Or.inl e)).trans (Upd.of_below b12)))
     clear p0 p1 p2 p3 p4 p5 l0 l1 l2 l3 l4 l5
     generalize (w10.alloc (.cells (exA y'.1 A2 cap2) 63)).alloc (.cells #[.int .i64 left.op,.string left.name,.int .i64 left.n,.slice A left.args.length cap,.int .i64 left.line,.int .i64 left.col,.int .i64 y'.1.op,.string y'.1.name,.int .i64 y'.1.n,.slice A2 y'.1.args.length cap2,.int .i64 y'.1.line,.int .i64 y'.1.col] 63)=W12 at*
     have rE13:Row (W12.setCell ⟨w7.heap.size,3,none⟩ (.slice (some ⟨w10.heap.size+1,0,none⟩) 2 2)) w7.heap.size (exA ⟨op,⟨#[]⟩,0,[left,y'.1],t'.line,t'.col⟩ (some ⟨w10.heap.size+1,0,none⟩) 2) 63:=by
      have:=rE12.set 3 (.slice (some ⟨w10.heap.size+1,0,none⟩) 2 2)
      refine' zq89
     have u13:Upd (fun x=>x=w7.heap.size) W12 (W12.setCell ⟨w7.heap.size,3,none⟩ (.slice (some ⟨w10.heap.size+1,0,none⟩) 2 2)):=(Upd.refl (fun x=>x=w7.heap.size) W12).setCell (p:=⟨w7.heap.size,3,none⟩) rfl _
     clear q0 q1 q2 q3 q4 q5 v0 v1 v2 v3 v4 v5
     generalize W12.setCell ⟨w7.heap.size,3,none⟩ (.slice (some ⟨w10.heap.size+1,0,none⟩) 2 2)=W13 at*
     have hs13:=u13.size
     have rL13:=u13.row rL12 (by omega)
     have rZ13:=u13.row rZ12 (by omega)
     have rO13:=u13.row rO12 (by omega)
     have rS13:=u13.row rS (by omega)
     have hxL13:=hxL12.upd u13 (fun k e=>by omega) (by omega)
     have hxR13:=hxR12.upd u13 (fun k e=>by omega) (by omega)
     have UW13:=UW12.trans (u13.mono (Y:=fun x=>x=o∨w.heap.size≤x) (fun k e=>Or.inr (by omega)))
     have hI13:IsExs (hm L W1.heap.size W13) W13.heap.size (some ⟨w10.heap.size+1,0,none⟩) [left,y'.1]:=exs_rowL (css:=[exCells left A cap,exCells y'.1 A2 cap2]) (hi:=w10.heap.size) rS13 (by omega) (by omega) (ExsAre.append (ExsAre.one (hxL13.wide (Nat.le_refl _) (by omega))) (ExsAre.one (hxR13.wide (by omega) (Nat.le_refl _)))) (by omega)
     have HX13:Hid (ExL W13 L W1.heap.size W13.heap.size ⟨op,⟨#[]⟩,0,[left,y'.1],t'.line,t'.col⟩ (some ⟨w10.heap.size+1,0,none⟩) 2):=IsEx.mk' (exOk_of htk HWO.out.1 (Nat.zero_le _) (wf_of ⟨by decide,by decide⟩)) (Nat.le_refl _) (by unfold maxLen;omega) hI13
     obtain ⟨⟨q0,q1,q2,q3,q4,q5⟩,-⟩:=Row.e6 rE13
     have b14:Below W13.heap.size W13 (W13.alloc (.cells #[.int .i64 h',.int .i64 y'.2.1] 3)):=bE
     have rH:=Row.new W13 #[.int .i64 h',.int .i64 y'.2.1] 3
     have hs14:=b14.size
     have HM:=Lib.hid (made_any o ⟨op,⟨#[]⟩,0,[left,y'.1],t'.line,t'.col⟩ (some ⟨w10.heap.size+1,0,none⟩) 2 [h',y'.2.1] (.slice (some ⟨W13.heap.size,0,none⟩) 2 2) _ (sl_ints (l:=[(h':Int),(y'.2.1:Int)]) rH (by simp) (fun x hx=>by
      rcases List.mem_cons.1 hx with rfl|hx
      ·exact wf_of ⟨by omega,by omega⟩
      ·rw[List.mem_singleton.1 hx];exact wf_of ⟨by omega,by omega⟩)) hh'.out (fun n hn=>by
      rcases List.mem_cons.1 hn with rfl|hn
      ·omega
      ·rw[List.mem_singleton.1 hn];omega))
     go_wp2_with fail
     refine HM.out.mono ?_
     rintro r w15 ⟨rfl,hb15⟩
     have b15:=b14.trans (hb15.mono hs14)
     have hs15:=b15.size
     have rL15:=rL13.below b15 (by omega)
     have rZ15:=rZ13.below b15 (by omega)
     have rO15:=rO13.below b15 (by omega)
     clear q0 q1 q2 q3 q4 q5
     obtain ⟨⟨q0,q1,q2,q3,q4,q5⟩,v0,v1,v2,v3,v4,v5⟩:=Row.e6 rL15
     go_upto_region 26 with (fail)
     change Code.wp _ _ _ _ ((((((w15.setCell ⟨L,0,none⟩ (.int .i64 op)).setCell ⟨L,1,none⟩ (.string ⟨#[]⟩)).setCell ⟨L,2,none⟩ (.int .i64 0)).setCell ⟨L,3,none⟩ (.slice (some ⟨w10.heap.size+1,0,none⟩) 2 2)).setCell ⟨L,4,none⟩ (.int .i64 t'.line)).setCell ⟨L,5,none⟩ (.int .i64 t'.col))
     have u16:=upd_six w15 L (.int .i64 op) (.string ⟨#[]⟩) (.int .i64 0) (.slice (some ⟨w10.heap.size+1,0,none⟩) 2 2) (.int .i64 t'.line) (.int .i64 t'.col)
     have rL16:=Row.e6set rL15 (.int .i64 op) (.string ⟨#[]⟩) (.int .i64 0) (.slice (some ⟨w10.heap.size+1,0,none⟩) 2 2) (.int .i64 t'.line) (.int .i64 t'.col)
     clear q0 q1 q2 q3 q4 q5 v0 v1 v2 v3 v4 v5
     generalize ((((((w15.setCell ⟨L,0,none⟩ (.int .i64 op)).setCell ⟨L,1,none⟩ (.string ⟨#[]⟩)).setCell ⟨L,2,none⟩ (.int .i64 0)).setCell ⟨L,3,none⟩ (.slice (some ⟨w10.heap.size+1,0,none⟩) 2 2)).setCell ⟨L,4,none⟩ (.int .i64 t'.line)).setCell ⟨L,5,none⟩ (.int .i64 t'.col))=W16 at*
     have hs16:=u16.size
     have HLI:Hid (LoI w o P (pexpr P.l f) least level L W1.heap.size (e,h,j) ⟨op,⟨#[]⟩,0,[left,y'.1],t'.line,t'.col⟩ (some ⟨w10.heap.size+1,0,none⟩) 2 (phgt [h',y'.2.1]) _ y'.2.2 k' W16):=
      ⟨hl'.out,rL16,u16.row rO15 (by omega),u16.row rZ15 (by omega),(UW13.trans (Upd.of_below b15)).trans (u16.mono (fun k e=>Or.inr (by omega))),
       ((HX13.out.upd (Upd.of_below (X:=fun _=>False) b15) (fun k e=>e.elim) (Nat.le_refl _)).upd u16 (fun k e=>by omega) (by omega)).wide (Nat.le_refl _) (by omega),hh'.out,HWO.out.2⟩
     go_wp2_with fail
     go_roundg k'
     case measure=>omega
     case rel=>exact ⟨_,_,_,_,_,_,rfl,rfl,HLI⟩
theorem expr_any:∀f,ExC f
 |0=>fun _ _ _ _ _ _ _ _ _ _ h=>by cases h
 |f+1=>expr_step (expr_any f)
end Go.Proofs.YtdkgkacnjdnpoaaGreat
