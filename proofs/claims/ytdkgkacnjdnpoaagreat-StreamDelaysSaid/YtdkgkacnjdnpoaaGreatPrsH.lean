/-
  The contract of the parser's expr, to any depth.
-/
import Derived.Test.YtdkgkacnjdnpoaaGreatPrsG
import Derived.Deep.LoopGhost
set_option maxHeartbeats 8000000
set_option maxRecDepth 100000
namespace Go.Proofs.YtdkgkacnjdnpoaaGreat
open Go.RowKit Nm
attribute [local go_sem] field_tk0 field_tk1 field_tk3
structure LoI (w:World) (o:Nat) (P:Pr) (rec:Nat→Nat→Nat→PExR) (least level L lo:Nat) (x:Ex × Nat × Nat) (left:Ex) (A:Option Addr) (cap h s j k:Nat) (wr:World):Prop where
 pl:ploop P.l rec least level k left h s j=some x
 rl:Row wr L (exA left A cap) 63
 ro:Row wr o (prA P j) 130
 rz:Row wr w.heap.size exZ6 63
 u:Upd (fun x=>x=o∨w.heap.size≤x) w wr
 e:ExL wr L lo wr.heap.size left A cap
 h30:h≤30
 s10:s≤10
theorem ppref_s {P:List Tok} {rec:Nat→Nat→Nat→PExR} {level i:Nat} {x:Ex × Nat × Nat × Nat} (h:ppref P rec level i=some x):x.2.2.1≤10:=by
 obtain ⟨t,-,-,-,⟨-,y,-,-,rfl⟩|⟨-,y,-,rfl⟩⟩:=ppref_is h
 ·show 9≤10;omega
 ·show 10≤10;omega
theorem expr_step {f:Nat} (IH:ExC f):ExC (f+1):=by
 intro P o i least level w e h j h0 hx hle hlv
 obtain ⟨hlv64,t,y,ht,hif,hpf,hlp⟩:=pexpr_is hx
 clear hx
 have b1:Below w.heap.size w (w.alloc (.cells exZ6 63)):=bE
 have rZ:=Row.new w exZ6 63
 have H0:=Lib.hid h0
 have hol:=h0.lt
 have H1:=Lib.hid (h0.bel b1)
 have hs1:=b1.size
 have hlZ:=rZ.lt
 have h64:decide ((64:Int)<(level:Int))=false:=decide_eq_false (by omega)
 clear h0
 go_enter Tryz.func136,Tryz.ntmps136
 go_upto_region 1 with (fail)
 change Code.wp _ _ _ _ (w.alloc (.cells exZ6 63))
 generalize w.alloc (.cells exZ6 63)=W1 at*
 have HB:=Lib.hid (pbad_any H1.out)
 have HPF:=Lib.hid (fun (W:World) (hW:Below W1.heap.size W1 W)=>pref_any IH (H1.out.bel hW) hpf hlv64)
 have HLP:=Lib.hid hlp
 go_wp2_with fail
 refine HB.out.mono ?_
 rintro r w2 ⟨rfl,rfl⟩
 have HI:=Lib.hid (is_any H1.out ht ⟨#[105,102]⟩)
 go_upto_region 5 with (fail)
 go_cut[33] (fun v W=>v= .bool false∧Below W1.heap.size W1 W)
 case first=>
  by_cases hl0:least=0
  ·subst hl0
   have hif2:isS t (⟨#[105,102]⟩:ByteArray).data.toList=false:=by simpa using hif
   rw[hif2] at HI
   go_wp2_with fail
   refine HI.out.mono ?_
   rintro r w3 ⟨rfl,hb3⟩
   go_wp2_with fail
   go_meet
   exact ⟨rfl,hb3⟩
  ·have hlz:((least:Int)==0)=false:=by rw[beq_eq_false_iff_ne];omega
   go_wp2_with fail
   go_meet
   exact ⟨rfl,Below.refl _ _⟩
 case rest=>
  obtain ⟨rfl,hbc⟩:=hcut
  have HX:=Lib.hid (HPF.out wc hbc)
  have hsc:=hbc.size
  have rZc:=rZ.below hbc hlZ
  have UWc:Upd (fun x=>x=o∨w.heap.size≤x) w wc:=Upd.of_below (b1.trans (hbc.mono hs1))
  clear HPF HB HI
  go_wp2_with fail
  refine HX.out.mono ?_
  rintro r w3 ⟨A,cap,rfl,hx3,h30,h3⟩
  have hs3:=h3.2.size
  have rL:=Row.new w3 (exA y.1 A cap) 63
  have b4:Below w3.heap.size w3 (w3.alloc (.cells (exA y.1 A cap) 63)):=bE
  have hs4:=b4.size
  have rZ4:=(h3.2.row rZc (by omega)).below b4 (by omega)
  have rO4:=h3.1.row.below b4 (by omega)
  have UW4:=UWc.trans ((h3.2.mono (Y:=fun x=>x=o∨w.heap.size≤x) (fun k e=>Or.inl e)).trans (Upd.of_below b4))
  have hx4:=(hx3.upd (Upd.of_below (X:=fun _=>False) b4) (fun k e=>e.elim) (Nat.le_refl _)).wide (lo':=W1.heap.size) (by omega) (Nat.le_refl _)
  have hlL:=rL.lt
  have HI0:Hid (LoI w o P (pexpr P.l f) least level w3.heap.size W1.heap.size (e,h,j) y.1 A cap y.2.1 y.2.2.1 y.2.2.2 40 (w3.alloc (.cells (exA y.1 A cap) 63))):=
   ⟨HLP.out,rL,rO4,rZ4,UW4,(ExL.of hx4 (Nat.le_refl _)).wide (Nat.le_refl _) hs4,h30,ppref_s hpf⟩
  go_upto_region 8 with (fail)
  have HW4:Hid (W1.heap.size≤w3.heap.size∧w.heap.size≤w3.heap.size):=⟨by omega,by omega⟩
  change Code.wp _ _ _ _ (w3.alloc (.cells (exA y.1 A cap) 63))
  clear hx4 UW4 rO4 rZ4 rL hx3 h3 rZc UWc HX HLP hlp hpf
  generalize hL0:w3.heap.size=L at*
  generalize w3.alloc (.cells (exA y.1 A cap) 63)=W4 at*
  clear hL0
  go_loopg [9,10] 40 (fun q v u wr=>∃left A cap h' s j',v= .int .i64 ((h':Nat):Int)∧u= .int .i64 ((s:Nat):Int)∧Hid (LoI w o P (pexpr P.l f) least level L W1.heap.size (e,h,j) left A cap h' s j' q wr))
  case atStart=>exact ⟨_,_,_,_,_,_,rfl,rfl,HI0⟩
  case round=>
   obtain ⟨left,A,cap,h',s,j',rfl,rfl,H⟩:=hrel
   obtain ⟨k',t',op,rfl,ht',hop,hcase⟩:=ploop_is H.out.pl
   have HPA:=Lib.hid (H0.out.step H.out.ro (H.out.u.narrow (fun k hk e=>by omega)))
   have HB:=Lib.hid (pbad_any HPA.out)
   have HF:=Lib.hid (pinf_any HPA.out ht' hop)
   have HST:=Lib.hid (str_any op (pinf_ops hop))
   have hs10:=H.out.s10
   have h30':=H.out.h30
   have hlw:=H.out.u.size
   have hlL':=H.out.rl.lt
   go_wp2_with fail
   refine HB.out.mono ?_
   rintro r w5 ⟨rfl,rfl⟩
   go_wp2_with fail
   refine HF.out.mono ?_
   rintro r w6 ⟨rfl,hb6⟩
   have hs6:=hb6.size
   go_wp2_with fail
   refine (HST.out _).mono ?_
   rintro r w7 ⟨rfl,rfl⟩
   have d1:decide ((pstr op:Int)<(least:Int))=decide (pstr op<least):=by rw[Bool.eq_iff_iff,decide_eq_true_iff,decide_eq_true_iff];omega
   have d2:decide ((s:Int)<(pneed op:Int))=decide (s<pneed op):=by rw[Bool.eq_iff_iff,decide_eq_true_iff,decide_eq_true_iff];omega
   rcases hcase with ⟨hc,hx⟩|⟨ho,hl1,hn1,y',hy',hh',hl'⟩
   ·cases hx
    have rZ6:=H.out.rz.below hb6 (by omega)
    have rL6:=H.out.rl.below hb6 (by omega)
    have rO6:=H.out.ro.below hb6 (by omega)
    have hx6:=(H.out.e.to).upd (Upd.of_below (X:=fun _=>False) hb6) (fun k e=>e.elim) (Nat.le_refl _)
    have HFN:=Lib.hid (ExRes.fin (h:=h) (Z:=w.heap.size) H0.out rO6 (H.out.u.trans (Upd.of_below hb6)) (Nat.le_refl _) hx6 (by omega) hs6 (Or.inl (by omega)) h30')
    have HZ6:=Lib.hid rZ6
    obtain ⟨⟨q0,q1,q2,q3,q4,q5⟩,-⟩:=Row.e6 rL6
    obtain ⟨⟨x0,x1,x2,x3,x4,x5⟩,z0,z1,z2,z3,z4,z5⟩:=Row.e6 rZ6
    obtain ⟨c1,e1⟩:∃c,(op==0)=c:=⟨_,rfl⟩
    obtain ⟨c2,e2⟩:∃c,decide (pstr op<least)=c:=⟨_,rfl⟩
    obtain ⟨c3,e3⟩:∃c,decide (s<pneed op)=c:=⟨_,rfl⟩
    rw[e1,e2,e3] at hc
    clear d1 d2
    have hc':c1=true∨(c1=false∧c2=true)∨(c1=false∧c2=false∧c3=true):=by revert hc;cases c1<;>cases c2<;>cases c3<;>decide
    clear hc
    rcases hc' with rfl|⟨rfl,rfl⟩|⟨rfl,rfl,rfl⟩
    all_goals
     clear HF HST HB hop ht' HPA hs10 h30' hb6 rZ6 rL6 rO6 hx6
     generalize pstr op=n1 at*
     generalize pneed op=n2 at*
     go_wp2_with fail
    all_goals
     exact bodyPost_ret (res2 (p:=6) (q:=7) (u:= .int .i64 h) rfl Tryz.underlying63 rfl (by kernel_rfl) rfl rfl (Row.e6set HZ6.out (.int .i64 e.op) (.string e.name) (.int .i64 e.n) (.slice A e.args.length cap) (.int .i64 e.line) (.int .i64 e.col))) rfl HFN.out
   ·have htk:TokOk t':=by obtain ⟨-,-,-,-,htk,-⟩:=HPA.out.tok ht';exact htk
    have HWO:Hid (Wf op∧pstr op≤10):=by
     rcases pinf_ops hop with rfl|rfl|rfl|rfl<;>exact ⟨wf_of ⟨by decide,by decide⟩,by decide⟩
    have o24:(op==24)=false:=by rcases pinf_ops hop with rfl|rfl|rfl|rfl<;>rfl
    have o0:(op==0)=false:=beq_eq_false_iff_ne.2 ho
    have e2:decide (pstr op<least)=false:=decide_eq_false (by omega)
    have e3:decide (s<pneed op)=false:=decide_eq_false (by omega)
    have hj5:j'<5000:=by have:=(List.getElem?_eq_some_iff.1 ht').1;have:=H0.out.len;omega
    have hp10:=HWO.out.2
    obtain ⟨fr,HFR⟩:∃fr,Hid (pfrom op=fr):=⟨_,Lib.hid rfl⟩
    have HIH:=Lib.hid (fun (W:World) (h:PrAt W o P (j'+1))=>IH P o (j'+1) fr (level+1) W y'.1 y'.2.1 y'.2.2 h (by rw[←HFR.out];exact hy') (by rw[←HFR.out];unfold pfrom;cases (op==23||op==22)<;>simp<;>omega) (by omega))
    have HFX:Hid (pfrom op=bif op==23||op==22 then pstr op else pstr op+1):=rfl
    have HN:=Lib.hid (now_any (HPA.out.bel hb6) ht')
    have HH:=Lib.hid H.out
    have hl':=Lib.hid hl'
    have hh':=Lib.hid hh'
    have rL6:=H.out.rl.below hb6 (by omega)
    have rZ6:=H.out.rz.below hb6 (by omega)
    have rO6:=H.out.ro.below hb6 (by omega)
    clear d1 d2 hop hy' ho hl1 hn1 HST HB HF ht'
    rw[HFR.out] at HFX
    generalize pstr op=n1 at*
    generalize pneed op=n2 at*
    go_wp2_with fail
    refine HN.out.mono ?_
    rintro r w7 ⟨rfl,hb7⟩
    have hs7:=hb7.size
    have b8:Below w6.heap.size w6 (w7.alloc (.cells (exA ⟨op,⟨#[]⟩,0,[],t'.line,t'.col⟩ none 0) 63)):=hb7.alloc hb7.size _
    have rE8:=Row.new w7 (exA ⟨op,⟨#[]⟩,0,[],t'.line,t'.col⟩ none 0) 63
    have hs8:=b8.size
    have hlE:=rE8.lt
    have rO8:=rO6.below b8 (by omega)
    have rL8:=rL6.below b8 (by omega)
    have rZ8:=rZ6.below b8 (by omega)
    obtain ⟨t1,z1⟩:(w7.alloc (.cells (exA ⟨op,⟨#[]⟩,0,[],t'.line,t'.col⟩ none 0) 63)).cell? ⟨o,1,none⟩=some (.int .i64 j')∧(w7.alloc (.cells (exA ⟨op,⟨#[]⟩,0,[],t'.line,t'.col⟩ none 0) 63)).frozen? ⟨o,1,none⟩=false:=⟨(rO8.cell 1).trans rfl,rO8.frozen 1⟩
    go_upto_region 13 with (fail)
    change Code.wp _ _ _ _ (w7.alloc (.cells (exA ⟨op,⟨#[]⟩,0,[],t'.line,t'.col⟩ none 0) 63))
    generalize w7.alloc (.cells (exA ⟨op,⟨#[]⟩,0,[],t'.line,t'.col⟩ none 0) 63)=W8 at*
    have rO9:=pr_set rO8
    have u9:Upd (fun x=>x=o) W8 (W8.setCell ⟨o,1,none⟩ (.int .i64 (j'+1))):=(Upd.refl (fun x=>x=o) W8).setCell (p:=⟨o,1,none⟩) rfl _
    have rE9:=u9.row rE8 (by omega)
    have rL9:=u9.row rL8 (by omega)
    have rZ9:=u9.row rZ8 (by omega)
    have U9:Upd (fun x=>x=o∨w.heap.size≤x) wr (W8.setCell ⟨o,1,none⟩ (.int .i64 (j'+1))):=(Upd.of_below (hb6.trans (b8.mono hs6))).trans (u9.mono (fun k e=>Or.inl e))
    have ho9:Upd (fun x=>x=o) wr (W8.setCell ⟨o,1,none⟩ (.int .i64 (j'+1))):=(Upd.of_below (hb6.trans (b8.mono hs6))).trans u9
    go_upto_region 14 with (fail)
    clear t1 z1 rO8 rL8 rZ8 rE8
    generalize W8.setCell ⟨o,1,none⟩ (.int .i64 (j'+1))=W9 at*
    have hs9:=u9.size
    have HX:=Lib.hid (HIH.out W9 (H0.out.step rO9 ((HH.out.u.trans U9).narrow (fun k hk e=>by omega))))
    have HXC:Hid (∀m:Int,m=(fr:Int)→Calls Tryz.prog 136 #[.pointer (some ⟨o,0,none⟩),.int .i64 m,.int .i64 (level+1)] W9 (ExRes W9 o P y'.1 y'.2.1 y'.2.2)):=fun m hm=>by subst hm;exact HX.out
    obtain ⟨c1,e23⟩:∃c,(op==23)=c:=⟨_,rfl⟩
    obtain ⟨c2,e22⟩:∃c,(op==22)=c:=⟨_,rfl⟩
    rw[e23,e22] at HFX
    have hfr3:(c1=true∧fr=n1)∨(c1=false∧c2=true∧fr=n1)∨(c1=false∧c2=false∧fr=n1+1):=by
     have:=HFX.out
     cases c1
     ·cases c2
      ·exact .inr (.inr ⟨rfl,rfl,this⟩)
      ·exact .inr (.inl ⟨rfl,rfl,this⟩)
     ·exact .inl ⟨rfl,this⟩
    clear HX HIH HFX HFR
    rcases hfr3 with ⟨rfl,rfl⟩|⟨rfl,rfl,rfl⟩|⟨rfl,rfl,rfl⟩
    all_goals
     go_wp2_with fail
     refine (HXC.out _ (by omega)).mono ?_
     rintro r w10 ⟨A2,cap2,rfl,hx10,h210,h10⟩
     have hs10':=h10.2.size
     have hE10:=h10.2.row rE9 (by omega)
     have hL10:=h10.2.row rL9 (by omega)
     have hZ10:=h10.2.row rZ9 (by omega)
     have rR:=(Row.new w10 (exA y'.1 A2 cap2) 63).alloc (.cells #[.int .i64 left.op,.string left.name,.int .i64 left.n,.slice A left.args.length cap,.int .i64 left.line,.int .i64 left.col,.int .i64 y'.1.op,.string y'.1.name,.int .i64 y'.1.n,.slice A2 y'.1.args.length cap2,.int .i64 y'.1.line,.int .i64 y'.1.col] 63)
     have rS:Row ((w10.alloc (.cells (exA y'.1 A2 cap2) 63)).alloc (.cells #[.int .i64 left.op,.string left.name,.int .i64 left.n,.slice A left.args.length cap,.int .i64 left.line,.int .i64 left.col,.int .i64 y'.1.op,.string y'.1.name,.int .i64 y'.1.n,.slice A2 y'.1.args.length cap2,.int .i64 y'.1.line,.int .i64 y'.1.col] 63)) (w10.heap.size+1) #[.int .i64 left.op,.string left.name,.int .i64 left.n,.slice A left.args.length cap,.int .i64 left.line,.int .i64 left.col,.int .i64 y'.1.op,.string y'.1.name,.int .i64 y'.1.n,.slice A2 y'.1.args.length cap2,.int .i64 y'.1.line,.int .i64 y'.1.col] 63:=by
      have:=Row.new (w10.alloc (.cells (exA y'.1 A2 cap2) 63)) #[.int .i64 left.op,.string left.name,.int .i64 left.n,.slice A left.args.length cap,.int .i64 left.line,.int .i64 left.col,.int .i64 y'.1.op,.string y'.1.name,.int .i64 y'.1.n,.slice A2 y'.1.args.length cap2,.int .i64 y'.1.line,.int .i64 y'.1.col] 63
      simpa using this
     have b12:Below w10.heap.size w10 ((w10.alloc (.cells (exA y'.1 A2 cap2) 63)).alloc (.cells #[.int .i64 left.op,.string left.name,.int .i64 left.n,.slice A left.args.length cap,.int .i64 left.line,.int .i64 left.col,.int .i64 y'.1.op,.string y'.1.name,.int .i64 y'.1.n,.slice A2 y'.1.args.length cap2,.int .i64 y'.1.line,.int .i64 y'.1.col] 63)):=bE
     have hs12:=b12.size
     have hlS:=rS.lt
     have rE12:=hE10.below b12 (by omega)
     have rL12:=hL10.below b12 (by omega)
     have rZ12:=hZ10.below b12 (by omega)
     have rO12:=h10.1.row.below b12 (by omega)
     obtain ⟨⟨p0,p1,p2,p3,p4,p5⟩,-⟩:=Row.e6 (Row.new w10 (exA y'.1 A2 cap2) 63)
     obtain ⟨⟨l0,l1,l2,l3,l4,l5⟩,-⟩:=Row.e6 (hL10.alloc (.cells (exA y'.1 A2 cap2) 63))
     obtain ⟨⟨q0,q1,q2,q3,q4,q5⟩,v0,v1,v2,v3,v4,v5⟩:=Row.e6 rE12
     go_upto_region 25 with (fail)
     change Code.wp _ _ _ _ (((w10.alloc (.cells (exA y'.1 A2 cap2) 63)).alloc (.cells #[.int .i64 left.op,.string left.name,.int .i64 left.n,.slice A left.args.length cap,.int .i64 left.line,.int .i64 left.col,.int .i64 y'.1.op,.string y'.1.name,.int .i64 y'.1.n,.slice A2 y'.1.args.length cap2,.int .i64 y'.1.line,.int .i64 y'.1.col] 63)).setCell ⟨w7.heap.size,3,none⟩ (.slice (some ⟨w10.heap.size+1,0,none⟩) 2 2))
     have hxL12:=HH.out.e.upd (X:=fun k=>k=o∨wr.heap.size≤k) (((ho9.trans h10.2).mono (fun k e=>Or.inl e)).trans (Upd.of_below b12)) (fun k e=>by omega) (Nat.le_refl _)
     have hxR12:=ExL.above (hx10.upd (Upd.of_below (X:=fun _=>False) b12) (fun k e=>e.elim) (Nat.le_refl _)) (show L<W9.heap.size by omega)
     have UW12:=HH.out.u.trans (U9.trans ((h10.2.mono (Y:=fun x=>x=o∨w.heap.size≤x) (fun k e=>Or.inl e)).trans (Upd.of_below b12)))
     clear p0 p1 p2 p3 p4 p5 l0 l1 l2 l3 l4 l5
     generalize (w10.alloc (.cells (exA y'.1 A2 cap2) 63)).alloc (.cells #[.int .i64 left.op,.string left.name,.int .i64 left.n,.slice A left.args.length cap,.int .i64 left.line,.int .i64 left.col,.int .i64 y'.1.op,.string y'.1.name,.int .i64 y'.1.n,.slice A2 y'.1.args.length cap2,.int .i64 y'.1.line,.int .i64 y'.1.col] 63)=W12 at*
     have rE13:Row (W12.setCell ⟨w7.heap.size,3,none⟩ (.slice (some ⟨w10.heap.size+1,0,none⟩) 2 2)) w7.heap.size (exA ⟨op,⟨#[]⟩,0,[left,y'.1],t'.line,t'.col⟩ (some ⟨w10.heap.size+1,0,none⟩) 2) 63:=by
      have:=rE12.set 3 (.slice (some ⟨w10.heap.size+1,0,none⟩) 2 2)
      simp[Ex.op,Ex.name,Ex.n,Ex.args,Ex.line,Ex.col] at this
      exact this
     have u13:Upd (fun x=>x=w7.heap.size) W12 (W12.setCell ⟨w7.heap.size,3,none⟩ (.slice (some ⟨w10.heap.size+1,0,none⟩) 2 2)):=(Upd.refl (fun x=>x=w7.heap.size) W12).setCell (p:=⟨w7.heap.size,3,none⟩) rfl _
     clear q0 q1 q2 q3 q4 q5 v0 v1 v2 v3 v4 v5
     generalize W12.setCell ⟨w7.heap.size,3,none⟩ (.slice (some ⟨w10.heap.size+1,0,none⟩) 2 2)=W13 at*
     have hs13:=u13.size
     have rL13:=u13.row rL12 (by omega)
     have rZ13:=u13.row rZ12 (by omega)
     have rO13:=u13.row rO12 (by omega)
     have rS13:=u13.row rS (by omega)
     have hxL13:=hxL12.upd u13 (fun k e=>by omega) (by omega)
     have hxR13:=hxR12.upd u13 (fun k e=>by omega) (by omega)
     have UW13:=UW12.trans (u13.mono (Y:=fun x=>x=o∨w.heap.size≤x) (fun k e=>Or.inr (by omega)))
     have hI13:IsExs (hm L W1.heap.size W13) W13.heap.size (some ⟨w10.heap.size+1,0,none⟩) [left,y'.1]:=exs_rowL (css:=[exCells left A cap,exCells y'.1 A2 cap2]) (hi:=w10.heap.size) rS13 (by omega) (by omega) (ExsAre.append (ExsAre.one (hxL13.wide (Nat.le_refl _) (by omega))) (ExsAre.one (hxR13.wide (by omega) (Nat.le_refl _)))) (by omega)
     have HX13:Hid (ExL W13 L W1.heap.size W13.heap.size ⟨op,⟨#[]⟩,0,[left,y'.1],t'.line,t'.col⟩ (some ⟨w10.heap.size+1,0,none⟩) 2):=IsEx.mk' (exOk_of htk HWO.out.1 (Nat.zero_le _) (wf_of ⟨by decide,by decide⟩)) (Nat.le_refl _) (by unfold maxLen;omega) hI13
     obtain ⟨⟨q0,q1,q2,q3,q4,q5⟩,-⟩:=Row.e6 rE13
     have b14:Below W13.heap.size W13 (W13.alloc (.cells #[.int .i64 h',.int .i64 y'.2.1] 3)):=bE
     have rH:=Row.new W13 #[.int .i64 h',.int .i64 y'.2.1] 3
     have hs14:=b14.size
     have HM:=Lib.hid (made_any o ⟨op,⟨#[]⟩,0,[left,y'.1],t'.line,t'.col⟩ (some ⟨w10.heap.size+1,0,none⟩) 2 [h',y'.2.1] (.slice (some ⟨W13.heap.size,0,none⟩) 2 2) _ (sl_ints (l:=[(h':Int),(y'.2.1:Int)]) rH (by simp) (fun x hx=>by
      rcases List.mem_cons.1 hx with rfl|hx
      ·exact wf_of ⟨by omega,by omega⟩
      ·rw[List.mem_singleton.1 hx];exact wf_of ⟨by omega,by omega⟩)) hh'.out (fun n hn=>by
      rcases List.mem_cons.1 hn with rfl|hn
      ·omega
      ·rw[List.mem_singleton.1 hn];omega))
     go_wp2_with fail
     refine HM.out.mono ?_
     rintro r w15 ⟨rfl,hb15⟩
     have b15:=b14.trans (hb15.mono hs14)
     have hs15:=b15.size
     have rL15:=rL13.below b15 (by omega)
     have rZ15:=rZ13.below b15 (by omega)
     have rO15:=rO13.below b15 (by omega)
     clear q0 q1 q2 q3 q4 q5
     obtain ⟨⟨q0,q1,q2,q3,q4,q5⟩,v0,v1,v2,v3,v4,v5⟩:=Row.e6 rL15
     go_upto_region 26 with (fail)
     change Code.wp _ _ _ _ ((((((w15.setCell ⟨L,0,none⟩ (.int .i64 op)).setCell ⟨L,1,none⟩ (.string ⟨#[]⟩)).setCell ⟨L,2,none⟩ (.int .i64 0)).setCell ⟨L,3,none⟩ (.slice (some ⟨w10.heap.size+1,0,none⟩) 2 2)).setCell ⟨L,4,none⟩ (.int .i64 t'.line)).setCell ⟨L,5,none⟩ (.int .i64 t'.col))
     have u16:=upd_six w15 L (.int .i64 op) (.string ⟨#[]⟩) (.int .i64 0) (.slice (some ⟨w10.heap.size+1,0,none⟩) 2 2) (.int .i64 t'.line) (.int .i64 t'.col)
     have rL16:=Row.e6set rL15 (.int .i64 op) (.string ⟨#[]⟩) (.int .i64 0) (.slice (some ⟨w10.heap.size+1,0,none⟩) 2 2) (.int .i64 t'.line) (.int .i64 t'.col)
     clear q0 q1 q2 q3 q4 q5 v0 v1 v2 v3 v4 v5
     generalize ((((((w15.setCell ⟨L,0,none⟩ (.int .i64 op)).setCell ⟨L,1,none⟩ (.string ⟨#[]⟩)).setCell ⟨L,2,none⟩ (.int .i64 0)).setCell ⟨L,3,none⟩ (.slice (some ⟨w10.heap.size+1,0,none⟩) 2 2)).setCell ⟨L,4,none⟩ (.int .i64 t'.line)).setCell ⟨L,5,none⟩ (.int .i64 t'.col))=W16 at*
     have hs16:=u16.size
     have HLI:Hid (LoI w o P (pexpr P.l f) least level L W1.heap.size (e,h,j) ⟨op,⟨#[]⟩,0,[left,y'.1],t'.line,t'.col⟩ (some ⟨w10.heap.size+1,0,none⟩) 2 (phgt [h',y'.2.1]) _ y'.2.2 k' W16):=
      ⟨hl'.out,rL16,u16.row rO15 (by omega),u16.row rZ15 (by omega),(UW13.trans (Upd.of_below b15)).trans (u16.mono (fun k e=>Or.inr (by omega))),
       ((HX13.out.upd (Upd.of_below (X:=fun _=>False) b15) (fun k e=>e.elim) (Nat.le_refl _)).upd u16 (fun k e=>by omega) (by omega)).wide (Nat.le_refl _) (by omega),hh'.out,HWO.out.2⟩
     go_wp2_with fail
     go_roundg k'
     case measure=>omega
     case rel=>exact ⟨_,_,_,_,_,_,rfl,rfl,HLI⟩
theorem expr_any:∀f,ExC f
 |0=>fun _ _ _ _ _ _ _ _ _ _ h=>by cases h
 |f+1=>expr_step (expr_any f)
end Go.Proofs.YtdkgkacnjdnpoaaGreat
