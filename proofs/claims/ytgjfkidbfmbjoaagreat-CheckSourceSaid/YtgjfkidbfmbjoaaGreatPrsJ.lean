/-
  The contract of the parser's expr, to any depth. The contracts of the parser's locals, where there are none, and left, of one name. The contract of the parser's group: names, a type, no conditions.
-/
import Derived.Test.YtgjfkidbfmbjoaaGreatZz
import Derived.Test.YtgjfkidbfmbjoaaGreatPrsG
import Derived.Deep.LoopGhost
set_option maxHeartbeats 8000000
set_option maxRecDepth 100000
namespace Go.Proofs.YtgjfkidbfmbjoaaGreat
open Go.RowKit Nm
attribute [local go_sem] field_tk0 field_tk1 field_tk3
structure LoI (w:World) (o:Nat) (P:Pr) (rec:Nat→Nat→Nat→PExR) (least level L lo:Nat) (x:Ex × Nat × Nat) (left:Ex) (A:Option Addr) (cap h s j k:Nat) (wr:World):Prop where
 pl:ploop P.l rec least level k left h s j=some x
 rl:Row wr L (exA left A cap) 79
 ro:Row wr o (prA P j) 188
 rz:Row wr w.heap.size exZ6 79
 u:Upd (fun x=>x=o∨w.heap.size≤x) w wr
 e:ExL wr L lo wr.heap.size left A cap
 h30:h≤30
 s10:s≤10
theorem ppref_s {P:List Tok} {rec:Nat→Nat→Nat→PExR} {level i:Nat} {x:Ex × Nat × Nat × Nat} (h:ppref P rec level i=some x):x.2.2.1≤10:=by
 obtain ⟨t,-,-,-,⟨-,y,-,-,rfl⟩|⟨-,y,-,rfl⟩⟩:=ppref_is h
 ·show 9≤10;omega
 ·show 10≤10;omega
theorem expr_step {f:Nat} (IH:ExC f):ExC (f+1):=by
 intro P o i least level w e h j h0 hx hle hlv
 obtain ⟨hlv64,t,y,ht,hif,hpf,hlp⟩:=pexpr_is hx
 clear hx
 refine' zq221
 have H0:=Lib.hid h0
 have hol:=h0.lt
 have H1:=Lib.hid (h0.bel b1)
 have hs1:=b1.size
 have hlZ:=rZ.lt
 have h64:decide ((64:Int)<(level:Int))=false:=decide_eq_false (by omega)
 clear h0
 go_enter Tryz.func277,Tryz.ntmps277
 refine' zq167
 have HB:=Lib.hid (pbad_any H1.out)
 have HPF:=Lib.hid (fun (W:World) (hW:Below W1.heap.size W1 W)=>pref_any IH (H1.out.bel hW) hpf hlv64)
 have HLP:=Lib.hid hlp
 go_wp2_with fail
 refine HB.out.mono ?_
 rintro r w2 ⟨rfl,rfl⟩
 have HI:=Lib.hid (is_any H1.out ht ⟨#[105,102]⟩)
 go_upto_region 5 with (fail)
 go_cut[33] (fun v W=>v= .bool false∧Below W1.heap.size W1 W)
 case first=>
  by_cases hl0:least=0
  ·subst hl0
   have hif2:isS t (⟨#[105,102]⟩:ByteArray).data.toList=false:=by simpa using hif
   rw[hif2] at HI
   go_wp2_with fail
   refine HI.out.mono ?_
   rintro r w3 ⟨rfl,hb3⟩
   go_wp2_with fail
   go_meet
   exact ⟨rfl,hb3⟩
  ·have hlz:((least:Int)==0)=false:=by rw[beq_eq_false_iff_ne];omega
   go_wp2_with fail
   go_meet
   exact ⟨rfl,Below.refl _ _⟩
 case rest=>
  obtain ⟨rfl,hbc⟩:=hcut
  have HX:=Lib.hid (HPF.out wc hbc)
  have hsc:=hbc.size
  have rZc:=rZ.below hbc hlZ
  have UWc:Upd (fun x=>x=o∨w.heap.size≤x) w wc:=Upd.of_below (b1.trans (hbc.mono hs1))
  clear HPF HB HI
  go_wp2_with fail
  refine HX.out.mono ?_
  rintro r w3 ⟨A,cap,rfl,hx3,h30,h3⟩
  have hs3:=h3.2.size
  have rL:=Row.new w3 (exA y.1 A cap) 79
  have b4:Below w3.heap.size w3 (w3.alloc (.cells (exA y.1 A cap) 79)):=bE
  have hs4:=b4.size
  have rZ4:=(h3.2.row rZc (by omega)).below b4 (by omega)
  have rO4:=h3.1.row.below b4 (by omega)
  have UW4:=UWc.trans ((h3.2.mono (Y:=fun x=>x=o∨w.heap.size≤x) (fun k e=>Or.inl e)).trans (Upd.of_below b4))
  have hx4:=(hx3.upd (Upd.of_below (X:=fun _=>False) b4) (fun k e=>e.elim) (Nat.le_refl _)).wide (lo':=W1.heap.size) (by omega) (Nat.le_refl _)
  have hlL:=rL.lt
  have HI0:Hid (LoI w o P (pexpr P.l f) least level w3.heap.size W1.heap.size (e,h,j) y.1 A cap y.2.1 y.2.2.1 y.2.2.2 40 (w3.alloc (.cells (exA y.1 A cap) 79))):=
   ⟨HLP.out,rL,rO4,rZ4,UW4,(ExL.of hx4 (Nat.le_refl _)).wide (Nat.le_refl _) hs4,h30,ppref_s hpf⟩
  go_upto_region 8 with (fail)
  have HW4:Hid (W1.heap.size≤w3.heap.size∧w.heap.size≤w3.heap.size):=⟨by omega,by omega⟩
  change Code.wp _ _ _ _ (w3.alloc (.cells (exA y.1 A cap) 79))
  clear hx4 UW4 rO4 rZ4 rL hx3 h3 rZc UWc HX HLP hlp hpf
  generalize hL0:w3.heap.size=L at*
  generalize w3.alloc (.cells (exA y.1 A cap) 79)=W4 at*
  clear hL0
  go_loopg [9,10] 40 (fun q v u wr=>∃left A cap h' s j',v= .int .i64 ((h':Nat):Int)∧u= .int .i64 ((s:Nat):Int)∧Hid (LoI w o P (pexpr P.l f) least level L W1.heap.size (e,h,j) left A cap h' s j' q wr))
  case atStart=>exact ⟨_,_,_,_,_,_,rfl,rfl,HI0⟩
  case round=>
   obtain ⟨left,A,cap,h',s,j',rfl,rfl,H⟩:=hrel
   obtain ⟨k',t',op,rfl,ht',hop,hcase⟩:=ploop_is H.out.pl
   have HPA:=Lib.hid (H0.out.step H.out.ro (H.out.u.narrow (fun k hk e=>by omega)))
   have HB:=Lib.hid (pbad_any HPA.out)
   have HF:=Lib.hid (pinf_any HPA.out ht' hop)
   have HST:=Lib.hid (str_any op (pinf_ops hop))
   have hs10:=H.out.s10
   have h30':=H.out.h30
   have hlw:=H.out.u.size
   have hlL':=H.out.rl.lt
   go_wp2_with fail
   refine HB.out.mono ?_
   rintro r w5 ⟨rfl,rfl⟩
   go_wp2_with fail
   refine HF.out.mono ?_
   rintro r w6 ⟨rfl,hb6⟩
   have hs6:=hb6.size
   go_wp2_with fail
   refine (HST.out _).mono ?_
   rintro r w7 ⟨rfl,rfl⟩
   have d1:decide ((pstr op:Int)<(least:Int))=decide (pstr op<least):=by rw[Bool.eq_iff_iff,decide_eq_true_iff,decide_eq_true_iff];omega
   have d2:decide ((s:Int)<(pneed op:Int))=decide (s<pneed op):=by rw[Bool.eq_iff_iff,decide_eq_true_iff,decide_eq_true_iff];omega
   rcases hcase with ⟨hc,hx⟩|⟨ho,hl1,hn1,y',hy',hh',hl'⟩
   ·cases hx
    have rZ6:=H.out.rz.below hb6 (by omega)
    have rL6:=H.out.rl.below hb6 (by omega)
    have rO6:=H.out.ro.below hb6 (by omega)
    have hx6:=(H.out.e.to).upd (Upd.of_below (X:=fun _=>False) hb6) (fun k e=>e.elim) (Nat.le_refl _)
    have HFN:=Lib.hid (ExRes.fin (h:=h) (Z:=w.heap.size) H0.out rO6 (H.out.u.trans (Upd.of_below hb6)) (Nat.le_refl _) hx6 (by omega) hs6 (Or.inl (by omega)) h30')
    have HZ6:=Lib.hid rZ6
    obtain ⟨⟨q0,q1,q2,q3,q4,q5⟩,-⟩:=Row.e6 rL6
    obtain ⟨⟨x0,x1,x2,x3,x4,x5⟩,z0,z1,z2,z3,z4,z5⟩:=Row.e6 rZ6
    obtain ⟨c1,e1⟩:∃c,(op==0)=c:=⟨_,rfl⟩
    obtain ⟨c2,e2⟩:∃c,decide (pstr op<least)=c:=⟨_,rfl⟩
    obtain ⟨c3,e3⟩:∃c,decide (s<pneed op)=c:=⟨_,rfl⟩
    rw[e1,e2,e3] at hc
    clear d1 d2
    have hc':c1=true∨(c1=false∧c2=true)∨(c1=false∧c2=false∧c3=true):=by revert hc;cases c1<;>cases c2<;>cases c3<;>decide
    clear hc
    rcases hc' with rfl|⟨rfl,rfl⟩|⟨rfl,rfl,rfl⟩
    all_goals
     clear HF HST HB hop ht' HPA hs10 h30' hb6 rZ6 rL6 rO6 hx6
     generalize pstr op=n1 at*
     generalize pneed op=n2 at*
     go_wp2_with fail
    all_goals
     exact bodyPost_ret (res2 (p:=6) (q:=7) (u:= .int .i64 h) rfl Tryz.underlying79 rfl (by kernel_rfl) rfl rfl (Row.e6set HZ6.out (.int .i64 e.op) (.string e.name) (.int .i64 e.n) (.slice A e.args.length cap) (.int .i64 e.line) (.int .i64 e.col))) rfl HFN.out
   ·have htk:TokOk t':=by obtain ⟨-,-,-,-,htk,-⟩:=HPA.out.tok ht';exact htk
    have HWO:Hid (Wf op∧pstr op≤10):=by
     rcases pinf_ops hop with rfl|rfl|rfl|rfl<;>exact ⟨wf_of ⟨by decide,by decide⟩,by decide⟩
    have o24:(op==24)=false:=by rcases pinf_ops hop with rfl|rfl|rfl|rfl<;>rfl
    have o0:(op==0)=false:=beq_eq_false_iff_ne.2 ho
    have e2:decide (pstr op<least)=false:=decide_eq_false (by omega)
    have e3:decide (s<pneed op)=false:=decide_eq_false (by omega)
    have hj5:j'<5000:=by have:=(List.getElem?_eq_some_iff.1 ht').1;have:=H0.out.len;omega
    have hp10:=HWO.out.2
    obtain ⟨fr,HFR⟩:∃fr,Hid (pfrom op=fr):=⟨_,Lib.hid rfl⟩
    have HIH:=Lib.hid (fun (W:World) (h:PrAt W o P (j'+1))=>IH P o (j'+1) fr (level+1) W y'.1 y'.2.1 y'.2.2 h (by rw[←HFR.out];exact hy') (by rw[←HFR.out];unfold pfrom;cases (op==23||op==22)<;>simp<;>omega) (by omega))
    have HFX:Hid (pfrom op=bif op==23||op==22 then pstr op else pstr op+1):=rfl
    have HN:=Lib.hid (now_any (HPA.out.bel hb6) ht')
    have HH:=Lib.hid H.out
    have hl':=Lib.hid hl'
    have hh':=Lib.hid hh'
    have rL6:=H.out.rl.below hb6 (by omega)
    have rZ6:=H.out.rz.below hb6 (by omega)
    have rO6:=H.out.ro.below hb6 (by omega)
    clear d1 d2 hop hy' ho hl1 hn1 HST HB HF ht'
    rw[HFR.out] at HFX
    generalize pstr op=n1 at*
    generalize pneed op=n2 at*
    go_wp2_with fail
    refine HN.out.mono ?_
    rintro r w7 ⟨rfl,hb7⟩
    have hs7:=hb7.size
    have b8:Below w6.heap.size w6 (w7.alloc (.cells (exA ⟨op,⟨#[]⟩,0,[],t'.line,t'.col⟩ none 0) 79)):=hb7.alloc hb7.size _
    have rE8:=Row.new w7 (exA ⟨op,⟨#[]⟩,0,[],t'.line,t'.col⟩ none 0) 79
    have hs8:=b8.size
    have hlE:=rE8.lt
    have rO8:=rO6.below b8 (by omega)
    have rL8:=rL6.below b8 (by omega)
    have rZ8:=rZ6.below b8 (by omega)
    obtain ⟨t1,z1⟩:(w7.alloc (.cells (exA ⟨op,⟨#[]⟩,0,[],t'.line,t'.col⟩ none 0) 79)).cell? ⟨o,1,none⟩=some (.int .i64 j')∧(w7.alloc (.cells (exA ⟨op,⟨#[]⟩,0,[],t'.line,t'.col⟩ none 0) 79)).frozen? ⟨o,1,none⟩=false:=⟨(rO8.cell 1).trans rfl,rO8.frozen 1⟩
    go_upto_region 13 with (fail)
    change Code.wp _ _ _ _ (w7.alloc (.cells (exA ⟨op,⟨#[]⟩,0,[],t'.line,t'.col⟩ none 0) 79))
    generalize w7.alloc (.cells (exA ⟨op,⟨#[]⟩,0,[],t'.line,t'.col⟩ none 0) 79)=W8 at*
    have rO9:=pr_set rO8
    have u9:Upd (fun x=>x=o) W8 (W8.setCell ⟨o,1,none⟩ (.int .i64 (j'+1))):=(Upd.refl (fun x=>x=o) W8).setCell (p:=⟨o,1,none⟩) rfl _
    have rE9:=u9.row rE8 (by omega)
    have rL9:=u9.row rL8 (by omega)
    have rZ9:=u9.row rZ8 (by omega)
    have U9:Upd (fun x=>x=o∨w.heap.size≤x) wr (W8.setCell ⟨o,1,none⟩ (.int .i64 (j'+1))):=(Upd.of_below (hb6.trans (b8.mono hs6))).trans (u9.mono (fun k e=>Or.inl e))
    have ho9:Upd (fun x=>x=o) wr (W8.setCell ⟨o,1,none⟩ (.int .i64 (j'+1))):=(Upd.of_below (hb6.trans (b8.mono hs6))).trans u9
    go_upto_region 14 with (fail)
    clear t1 z1 rO8 rL8 rZ8 rE8
    generalize W8.setCell ⟨o,1,none⟩ (.int .i64 (j'+1))=W9 at*
    have hs9:=u9.size
    have HX:=Lib.hid (HIH.out W9 (H0.out.step rO9 ((HH.out.u.trans U9).narrow (fun k hk e=>by omega))))
    have HXC:Hid (∀m:Int,m=(fr:Int)→Calls Tryz.prog 277 #[.pointer (some ⟨o,0,none⟩),.int .i64 m,.int .i64 (level+1)] W9 (ExRes W9 o P y'.1 y'.2.1 y'.2.2)):=fun m hm=>by subst hm;exact HX.out
    obtain ⟨c1,e23⟩:∃c,(op==23)=c:=⟨_,rfl⟩
    obtain ⟨c2,e22⟩:∃c,(op==22)=c:=⟨_,rfl⟩
    rw[e23,e22] at HFX
    have hfr3:(c1=true∧fr=n1)∨(c1=false∧c2=true∧fr=n1)∨(c1=false∧c2=false∧fr=n1+1):=by
     have:=HFX.out
     cases c1
     ·cases c2
      ·exact .inr (.inr ⟨rfl,rfl,this⟩)
      ·exact .inr (.inl ⟨rfl,rfl,this⟩)
     ·exact .inl ⟨rfl,this⟩
    clear HX HIH HFX HFR
    rcases hfr3 with ⟨rfl,rfl⟩|⟨rfl,rfl,rfl⟩|⟨rfl,rfl,rfl⟩
    all_goals
     go_wp2_with fail
     refine (HXC.out _ (by omega)).mono ?_
     rintro r w10 ⟨A2,cap2,rfl,hx10,h210,h10⟩
     have hs10':=h10.2.size
     have hE10:=h10.2.row rE9 (by omega)
     have hL10:=h10.2.row rL9 (by omega)
     have hZ10:=h10.2.row rZ9 (by omega)
     have rR:=(Row.new w10 (exA y'.1 A2 cap2) 79).alloc (.cells #[.int .i64 left.op,.string left.name,.int .i64 left.n,.slice A left.args.length cap,.int .i64 left.line,.int .i64 left.col,.int .i64 y'.1.op,.string y'.1.name,.int .i64 y'.1.n,.slice A2 y'.1.args.length cap2,.int .i64 y'.1.line,.int .i64 y'.1.col] 79)
     have rS:Row ((w10.alloc (.cells (exA y'.1 A2 cap2) 79)).alloc (.cells #[.int .i64 left.op,.string left.name,.int .i64 left.n,.slice A left.args.length cap,.int .i64 left.line,.int .i64 left.col,.int .i64 y'.1.op,.string y'.1.name,.int .i64 y'.1.n,.slice A2 y'.1.args.length cap2,.int .i64 y'.1.line,.int .i64 y'.1.col] 79)) (w10.heap.size+1) #[.int .i64 left.op,.string left.name,.int .i64 left.n,.slice A left.args.length cap,.int .i64 left.line,.int .i64 left.col,.int .i64 y'.1.op,.string y'.1.name,.int .i64 y'.1.n,.slice A2 y'.1.args.length cap2,.int .i64 y'.1.line,.int .i64 y'.1.col] 79:=by
      have:=Row.new (w10.alloc (.cells (exA y'.1 A2 cap2) 79)) #[.int .i64 left.op,.string left.name,.int .i64 left.n,.slice A left.args.length cap,.int .i64 left.line,.int .i64 left.col,.int .i64 y'.1.op,.string y'.1.name,.int .i64 y'.1.n,.slice A2 y'.1.args.length cap2,.int .i64 y'.1.line,.int .i64 y'.1.col] 79
      simpa using this
     have b12:Below w10.heap.size w10 ((w10.alloc (.cells (exA y'.1 A2 cap2) 79)).alloc (.cells #[.int .i64 left.op,.string left.name,.int .i64 left.n,.slice A left.args.length cap,.int .i64 left.line,.int .i64 left.col,.int .i64 y'.1.op,.string y'.1.name,.int .i64 y'.1.n,.slice A2 y'.1.args.length cap2,.int .i64 y'.1.line,.int .i64 y'.1.col] 79)):=bE
     have hs12:=b12.size
     have hlS:=rS.lt
     have rE12:=hE10.below b12 (by omega)
     have rL12:=hL10.below b12 (by omega)
     have rZ12:=hZ10.below b12 (by omega)
     have rO12:=h10.1.row.below b12 (by omega)
     obtain ⟨⟨p0,p1,p2,p3,p4,p5⟩,-⟩:=Row.e6 (Row.new w10 (exA y'.1 A2 cap2) 79)
     obtain ⟨⟨l0,l1,l2,l3,l4,l5⟩,-⟩:=Row.e6 (hL10.alloc (.cells (exA y'.1 A2 cap2) 79))
     obtain ⟨⟨q0,q1,q2,q3,q4,q5⟩,v0,v1,v2,v3,v4,v5⟩:=Row.e6 rE12
     go_upto_region 25 with (fail)
     change Code.wp _ _ _ _ (((w10.alloc (.cells (exA y'.1 A2 cap2) 79)).alloc (.cells #[.int .i64 left.op,.string left.name,.int .i64 left.n,.slice A left.args.length cap,.int .i64 left.line,.int .i64 left.col,.int .i64 y'.1.op,.string y'.1.name,.int .i64 y'.1.n,.slice A2 y'.1.args.length cap2,.int .i64 y'.1.line,.int .i64 y'.1.col] 79)).setCell ⟨w7.heap.size,3,none⟩ (.slice (some ⟨w10.heap.size+1,0,none⟩) 2 2))
     have hxL12:=HH.out.e.upd (X:=fun k=>k=o∨wr.heap.size≤k) (((ho9.trans h10.2).mono (fun k e=>Or.inl e)).trans (Upd.of_below b12)) (fun k e=>by omega) (Nat.le_refl _)
     have hxR12:=ExL.above (hx10.upd (Upd.of_below (X:=fun _=>False) b12) (fun k e=>e.elim) (Nat.le_refl _)) (show L<W9.heap.size by omega)
     have UW12:=HH.out.u.trans (U9.trans ((h10.2.mono (Y:=fun x=>x=o∨w.heap.size≤x) (fun k e=>Or.inl e)).trans (Upd.of_below b12)))
     clear p0 p1 p2 p3 p4 p5 l0 l1 l2 l3 l4 l5
     generalize (w10.alloc (.cells (exA y'.1 A2 cap2) 79)).alloc (.cells #[.int .i64 left.op,.string left.name,.int .i64 left.n,.slice A left.args.length cap,.int .i64 left.line,.int .i64 left.col,.int .i64 y'.1.op,.string y'.1.name,.int .i64 y'.1.n,.slice A2 y'.1.args.length cap2,.int .i64 y'.1.line,.int .i64 y'.1.col] 79)=W12 at*
     have rE13:Row (W12.setCell ⟨w7.heap.size,3,none⟩ (.slice (some ⟨w10.heap.size+1,0,none⟩) 2 2)) w7.heap.size (exA ⟨op,⟨#[]⟩,0,[left,y'.1],t'.line,t'.col⟩ (some ⟨w10.heap.size+1,0,none⟩) 2) 79:=by
      have:=rE12.set 3 (.slice (some ⟨w10.heap.size+1,0,none⟩) 2 2)
      refine' zq145
     have u13:Upd (fun x=>x=w7.heap.size) W12 (W12.setCell ⟨w7.heap.size,3,none⟩ (.slice (some ⟨w10.heap.size+1,0,none⟩) 2 2)):=(Upd.refl (fun x=>x=w7.heap.size) W12).setCell (p:=⟨w7.heap.size,3,none⟩) rfl _
     clear q0 q1 q2 q3 q4 q5 v0 v1 v2 v3 v4 v5
     generalize W12.setCell ⟨w7.heap.size,3,none⟩ (.slice (some ⟨w10.heap.size+1,0,none⟩) 2 2)=W13 at*
     have hs13:=u13.size
     have rL13:=u13.row rL12 (by omega)
     have rZ13:=u13.row rZ12 (by omega)
     have rO13:=u13.row rO12 (by omega)
     have rS13:=u13.row rS (by omega)
     have hxL13:=hxL12.upd u13 (fun k e=>by omega) (by omega)
     have hxR13:=hxR12.upd u13 (fun k e=>by omega) (by omega)
     have UW13:=UW12.trans (u13.mono (Y:=fun x=>x=o∨w.heap.size≤x) (fun k e=>Or.inr (by omega)))
     have hI13:IsExs (hm L W1.heap.size W13) W13.heap.size (some ⟨w10.heap.size+1,0,none⟩) [left,y'.1]:=exs_rowL (css:=[exCells left A cap,exCells y'.1 A2 cap2]) (hi:=w10.heap.size) rS13 (by omega) (by omega) (ExsAre.append (ExsAre.one (hxL13.wide (Nat.le_refl _) (by omega))) (ExsAre.one (hxR13.wide (by omega) (Nat.le_refl _)))) (by omega)
     have HX13:Hid (ExL W13 L W1.heap.size W13.heap.size ⟨op,⟨#[]⟩,0,[left,y'.1],t'.line,t'.col⟩ (some ⟨w10.heap.size+1,0,none⟩) 2):=IsEx.mk' (exOk_of htk HWO.out.1 (Nat.zero_le _) (wf_of ⟨by decide,by decide⟩)) (Nat.le_refl _) (by unfold maxLen;omega) hI13
     obtain ⟨⟨q0,q1,q2,q3,q4,q5⟩,-⟩:=Row.e6 rE13
     have b14:Below W13.heap.size W13 (W13.alloc (.cells #[.int .i64 h',.int .i64 y'.2.1] 3)):=bE
     have rH:=Row.new W13 #[.int .i64 h',.int .i64 y'.2.1] 3
     have hs14:=b14.size
     have HM:=Lib.hid (made_any o ⟨op,⟨#[]⟩,0,[left,y'.1],t'.line,t'.col⟩ (some ⟨w10.heap.size+1,0,none⟩) 2 [h',y'.2.1] (.slice (some ⟨W13.heap.size,0,none⟩) 2 2) _ (sl_ints (l:=[(h':Int),(y'.2.1:Int)]) rH (by simp) (fun x hx=>by
      rcases List.mem_cons.1 hx with rfl|hx
      ·exact wf_of ⟨by omega,by omega⟩
      ·rw[List.mem_singleton.1 hx];exact wf_of ⟨by omega,by omega⟩)) hh'.out (fun n hn=>by
      rcases List.mem_cons.1 hn with rfl|hn
      ·omega
      ·rw[List.mem_singleton.1 hn];omega))
     go_wp2_with fail
     refine HM.out.mono ?_
     rintro r w15 ⟨rfl,hb15⟩
     have b15:=b14.trans (hb15.mono hs14)
     have hs15:=b15.size
     have rL15:=rL13.below b15 (by omega)
     have rZ15:=rZ13.below b15 (by omega)
     have rO15:=rO13.below b15 (by omega)
     clear q0 q1 q2 q3 q4 q5
     obtain ⟨⟨q0,q1,q2,q3,q4,q5⟩,v0,v1,v2,v3,v4,v5⟩:=Row.e6 rL15
     go_upto_region 26 with (fail)
     change Code.wp _ _ _ _ ((((((w15.setCell ⟨L,0,none⟩ (.int .i64 op)).setCell ⟨L,1,none⟩ (.string ⟨#[]⟩)).setCell ⟨L,2,none⟩ (.int .i64 0)).setCell ⟨L,3,none⟩ (.slice (some ⟨w10.heap.size+1,0,none⟩) 2 2)).setCell ⟨L,4,none⟩ (.int .i64 t'.line)).setCell ⟨L,5,none⟩ (.int .i64 t'.col))
     have u16:=upd_six w15 L (.int .i64 op) (.string ⟨#[]⟩) (.int .i64 0) (.slice (some ⟨w10.heap.size+1,0,none⟩) 2 2) (.int .i64 t'.line) (.int .i64 t'.col)
     have rL16:=Row.e6set rL15 (.int .i64 op) (.string ⟨#[]⟩) (.int .i64 0) (.slice (some ⟨w10.heap.size+1,0,none⟩) 2 2) (.int .i64 t'.line) (.int .i64 t'.col)
     clear q0 q1 q2 q3 q4 q5 v0 v1 v2 v3 v4 v5
     generalize ((((((w15.setCell ⟨L,0,none⟩ (.int .i64 op)).setCell ⟨L,1,none⟩ (.string ⟨#[]⟩)).setCell ⟨L,2,none⟩ (.int .i64 0)).setCell ⟨L,3,none⟩ (.slice (some ⟨w10.heap.size+1,0,none⟩) 2 2)).setCell ⟨L,4,none⟩ (.int .i64 t'.line)).setCell ⟨L,5,none⟩ (.int .i64 t'.col))=W16 at*
     have hs16:=u16.size
     have HLI:Hid (LoI w o P (pexpr P.l f) least level L W1.heap.size (e,h,j) ⟨op,⟨#[]⟩,0,[left,y'.1],t'.line,t'.col⟩ (some ⟨w10.heap.size+1,0,none⟩) 2 (phgt [h',y'.2.1]) _ y'.2.2 k' W16):=
      ⟨hl'.out,rL16,u16.row rO15 (by omega),u16.row rZ15 (by omega),(UW13.trans (Upd.of_below b15)).trans (u16.mono (fun k e=>Or.inr (by omega))),
       ((HX13.out.upd (Upd.of_below (X:=fun _=>False) b15) (fun k e=>e.elim) (Nat.le_refl _)).upd u16 (fun k e=>by omega) (by omega)).wide (Nat.le_refl _) (by omega),hh'.out,HWO.out.2⟩
     go_wp2_with fail
     go_roundg k'
     case measure=>omega
     case rel=>exact ⟨_,_,_,_,_,_,rfl,rfl,HLI⟩
theorem expr_any:∀f,ExC f
 |0=>fun _ _ _ _ _ _ _ _ _ _ h=>by cases h
 |f+1=>expr_step (expr_any f)
theorem locals_any {P:Pr} {o i:Nat} {u:Unit} {w:World} (h:PrAt w o P i) (hx:pnot P.l [118,97,114] i=some u):
  Calls Tryz.prog 215 #[.pointer (some ⟨o,0,none⟩)] w fun r w'=>r= .returned (.slice none 0 0)∧PrL w o P i w':=by
 obtain ⟨t,ht,hs⟩:=pnot_is hx
 have HT:=Lib.hid (take_no h ht ⟨#[118,97,114]⟩ hs)
 clear h
 go_enter Tryz.func215,Tryz.ntmps215
 refine' zq212
 go_wp2_with fail
 go_ret
 exact ⟨rfl,h2⟩
theorem sl_hide {α:Type} {rel:α→List Value→Prop} {W:World} {lo g size:Nat} {l:List α} {css:List (List Value)} {t:TypeId} (hr:Row W g css.flatten.toArray t) (hg:lo≤g) (hx:Are rel l css) (hs:∀cs∈css,cs.length=size) (hl:l.length≤1000):SlV (hide lo W) W.heap.size size rel (.slice (some ⟨g,0,none⟩) l.length l.length) l:=by
 refine ⟨_,_,rfl,Nat.le_refl _,by unfold maxLen;omega,fun _=>⟨g,0,rfl,hr.lt,fun i x hi'=>?_⟩⟩
 have hil:i<css.length:=by rw[hx.1];exact (List.getElem?_eq_some_iff.1 hi').1
 refine ⟨css[i],fun j u hu=>?_,hx.2 i x _ hi' (List.getElem?_eq_getElem hil)⟩
 have hj:j<size:=by rw[←hs css[i] (List.getElem_mem hil)];exact (List.getElem?_eq_some_iff.1 hu).1
 rw[World.cell?_of_block (show (hide lo W).heap[(⟨g,0+i*size+j,none⟩:Addr).block]? =W.heap[g]? from hide_block hg),hr.cell,List.getElem?_toArray,Nat.zero_add,flatten_get hs (List.getElem?_eq_getElem hil) hj]
 exact hu
theorem pleft_any {P:Pr} {o i:Nat} {x:Tok × Nat} {w:World} (h:PrAt w o P i) (hx:pname P.l i=some x):
  Calls Tryz.prog 276 #[.pointer (some ⟨o,0,none⟩)] w fun r w'=>(∃v,r= .returned v∧SlV (hide w.heap.size w') w'.heap.size 1 isStr v [x.1.text])∧PrL w o P x.2 w':=by
 obtain ⟨ht,hk,-⟩:=pname_is hx
 have htk:=(h.tok ht).choose_spec.choose_spec.2.2.1
 have HT:=Lib.hid (take_no h ht ⟨#[40]⟩ (isS_name hk _))
 clear h hk
 go_enter Tryz.func276,Tryz.ntmps276
 refine' zq212
 have HN:Hid (Calls Tryz.prog 213 #[.pointer (some ⟨o,0,none⟩),.int .i64 0,.int .i64 1] w2 fun r w'=>r= .returned (tokV x.1)∧PrL w2 o P x.2 w'):=pname_any h2.1 0 1 (by omega) hx
 go_wp2_with fail
 refine HN.out.mono ?_
 rintro r w3 ⟨rfl,h3⟩
 have hs2:=h2.2.size
 have hs3:=h3.2.size
 have b4:Below w3.heap.size w3 (w3.alloc (.cells #[.string x.1.text] 9)):=bE
 have HR:=Lib.hid (Row.new w3 #[.string x.1.text] 9)
 have HF:=Lib.hid ((h2.trans h3).bel b4)
 go_wp2_with fail
 go_ret
 exact ⟨⟨_,rfl,sl_hide (css:=[[.string x.1.text]]) HR.out (by omega) (Are.one ⟨rfl,Nat.le_trans htk.text (by unfold maxLen;omega)⟩) (by simp) (by simp)⟩,HF.out⟩
theorem own_put {w:World} {base n size g cap j:Nat} {e:TypeId} {xs:List Value} (h:w.ownsRow base e size (.slice (some ⟨g,0,none⟩) n cap) n xs) (u:Value):(w.setCell ⟨g,j,none⟩ u).ownsRow base e size (.slice (some ⟨g,0,none⟩) n cap) n (xs.set j u):=by
 refine ⟨by rw[List.length_set];exact h.1,?_⟩
 rcases h.2 with ⟨h0,_⟩|⟨g',cap',cur,h1,h2,h3,h4,h5,h6,h7⟩
 ·cases h0
 ·cases h1
  refine .inr ⟨g,cap,cur.setIfInBounds j u,rfl,h2,Row.set h3 j u,h4,h5,by simpa using h6,?_⟩
  rw[←h7]
  simp[List.take_set]
theorem own_at {w:World} {base n size g cap j:Nat} {e:TypeId} {xs:List Value} (h:w.ownsRow base e size (.slice (some ⟨g,0,none⟩) n cap) n xs) (hj:j<n*size):(∃u,w.cell? ⟨g,j,none⟩=some u∧xs[j]? =some u)∧w.frozen? ⟨g,j,none⟩=false:=by
 rcases h.2 with ⟨h0,_⟩|⟨g',cap',cur,h1,h2,h3,h4,h5,h6,h7⟩
 ·cases h0
 ·cases h1
  have hl:j<xs.length:=by rw[h.1];exact hj
  refine ⟨⟨xs[j],?_,List.getElem?_eq_getElem hl⟩,Row.frozen h3 j⟩
  rw[Row.cell h3 j,←List.getElem?_eq_getElem hl,←h7,List.getElem?_take_of_lt hj]
  simp
theorem own_slx {α:Type} {rel:α→List Value→Prop} {w:World} {base lo n size:Nat} {v:Value} {e:TypeId} {l:List α} {xs:List Value} (h:w.ownsRow base e size v n xs) (hl:lo≤base) (hn:n=l.length) (hr:∀i x,l[i]? =some x→∃cs:List Value,cs.length=size∧(∀j,j<size→cs[j]? =xs[i*size+j]?)∧rel x cs):SlV (hide lo w) w.heap.size size rel v l:=by
 subst hn
 rcases h.2 with ⟨rfl,h0⟩|⟨g,cap,cur,rfl,h2,h3,h4,h5,h6,h7⟩
 ·rw[List.eq_nil_of_length_eq_zero h0];exact SlV.nil
 ·refine ⟨_,_,rfl,h4,h5,fun _=>⟨g,0,rfl,Row.lt h3,fun i x hx=>?_⟩⟩
  obtain ⟨cs,c1,c2,c3⟩:=hr i x hx
  refine ⟨cs,fun j u hu=>?_,c3⟩
  have hj:j<size:=by rw[←c1];exact (List.getElem?_eq_some_iff.1 hu).1
  have hi:i<l.length:=(List.getElem?_eq_some_iff.1 hx).1
  have hlt:i*size+j<l.length*size:=by
   have:(i+1)*size≤l.length*size:=Nat.mul_le_mul_right _ hi
   rw[Nat.add_mul] at this;omega
  rw[c2 j hj,←h7,List.getElem?_take_of_lt hlt] at hu
  rw[World.cell?_of_block (show (hide lo w).heap[(⟨g,0+i*size+j,none⟩:Addr).block]? =w.heap[g]? from hide_block (Nat.le_trans hl h2)),Row.cell h3,Nat.zero_add]
  simpa using hu
def vrC (t:Tok):List Value:=[.string t.text,.int .i64 0,.slice none 0 0,.int .i64 t.line,.int .i64 t.col]
def vrsC (l:List Tok):List Value:=(l.map vrC).flatten
theorem vrsC_snoc (l:List Tok) (t:Tok):vrsC (l++ [t])=vrsC l++vrC t:=by simp[vrsC]
theorem vrC_one (t:Tok):∀u∈vrC t,u.oneCell'=true:=by
 intro u hu
 simp only[vrC,List.mem_cons,List.not_mem_nil,or_false] at hu
 rcases hu with rfl|rfl|rfl|rfl|rfl<;>rfl
theorem info_vr:(Tryz.prog.info? 89).map (fun i=>(i.zero,i.size,i.bytes))=some (some (.agg #[.string ⟨#[]⟩,.int .i64 0,.slice none 0 0,.int .i64 0,.int .i64 0]),5,64):=by kernel_rfl
theorem pnames_is {P:List Tok} {k i:Nat} {l:List Tok} {x:List Tok × Nat} (h:pnames P k i l=some x):∃k' y u,k=k'+1∧pname P i=some y∧l.length<8∧P[y.2]? =some u∧
  ((isS u [44]=true∧pnames P k' (y.2+1) (l++ [y.1])=some x)∨(isS u [44]=false∧x=(l++ [y.1],y.2))):=by
 cases k with
 |zero=>cases h
 |succ k=>
  obtain ⟨y,h1,h⟩:=Option.bind_eq_some_iff.1 h
  cases hd:decide (l.length<8) with
  |false=>rw[hd] at h;cases h
  |true=>
   rw[hd,cond_true] at h
   obtain ⟨u,h2,h⟩:=Option.bind_eq_some_iff.1 h
   refine ⟨k,y,u,rfl,h1,of_decide_eq_true hd,h2,?_⟩
   cases hs:isS u [44] with
   |true=>rw[hs,cond_true] at h;exact .inl ⟨rfl,h⟩
   |false=>rw[hs,cond_false] at h;cases h;exact .inr ⟨rfl,rfl⟩
structure GrI (w:World) (o:Nat) (P:Pr) (x:List Tok × Nat) (v:Value) (l:List Tok) (j k:Nat) (wr:World):Prop where
 pn:pnames P.l k j l=some x
 pa:PrL w o P j wr
 own:wr.ownsRow w.heap.size 89 5 v l.length (vrsC l)
 ok:∀t∈l,TokOk t
structure Gr2 (w:World) (o:Nat) (P:Pr) (T:List Tok) (g c:Nat) (kd:Int) (j k:Nat) (xs:List Value) (wr:World):Prop where
 pa:PrL w o P j wr
 own:wr.ownsRow w.heap.size 89 5 (.slice (some ⟨g,0,none⟩) T.length c) T.length xs
 base:∀i t,T[i]? =some t→xs[i*5]? =some (.string t.text)∧xs[i*5+3]? =some (.int .i64 t.line)∧xs[i*5+4]? =some (.int .i64 t.col)
 done:∀i,i<k→xs[i*5+1]? =some (.int .i64 kd)∧∃b,xs[i*5+2]? =some (.slice (some ⟨b,0,none⟩) 0 0)
theorem vrsC_at {T:List Tok} {i:Nat} {t:Tok} (h:T[i]? =some t) {j:Nat} (hj:j<5):(vrsC T)[i*5+j]? =(vrC t)[j]? :=by
 unfold vrsC
 refine flatten_get (fun cs hcs=>?_) (by rw[List.getElem?_map,h];rfl) hj
 obtain ⟨x,_,rfl⟩:=List.mem_map.1 hcs
 rfl
theorem gr2_done {w:World} {o g c j:Nat} {P:Pr} {T:List Tok} {kd:Int} {xs:List Value} {wr:World} (h:Gr2 w o P T g c kd j T.length xs wr) (hk:Wf kd) (ht:∀t∈T,TokOk t):
  SlV (hide w.heap.size wr) wr.heap.size 5 (isVr (hide w.heap.size wr) wr.heap.size) (.slice (some ⟨g,0,none⟩) T.length c) (T.map (varT kd)):=by
 refine own_slx h.own (Nat.le_refl _) (by simp) (fun i x hx=>?_)
 rw[List.getElem?_map] at hx
 obtain ⟨t,ht',rfl⟩:=Option.map_eq_some_iff.1 hx
 have hi:=(List.getElem?_eq_some_iff.1 ht').1
 obtain ⟨b0,b3,b4⟩:=h.base i t ht'
 obtain ⟨d1,b,d2⟩:=h.done i hi
 have tk:=ht t (List.mem_of_getElem? ht')
 refine ⟨[.string t.text,.int .i64 kd,.slice (some ⟨b,0,none⟩) 0 0,.int .i64 t.line,.int .i64 t.col],rfl,fun j hj=>?_,?_⟩
 ·match j,hj with
  |0,_=>exact b0.symm
  |1,_=>exact d1.symm
  |2,_=>exact d2.symm
  |3,_=>exact b3.symm
  |4,_=>exact b4.symm
 ·refine ⟨_,0,rfl,⟨Nat.le_trans tk.text (by unfold maxLen;omega),hk,?_,?_⟩,Nat.le_refl _,Nat.zero_le _,fun hn=>absurd hn (by simp[varT])⟩
  ·exact wf_of ⟨by have:=tk.line;show _≤t.line;omega,by have:=tk.line;show t.line≤_;omega⟩
  ·exact wf_of ⟨by have:=tk.col;show _≤t.col;omega,by have:=tk.col;show t.col≤_;omega⟩
theorem info_lt:(Tryz.prog.info? 158).map (fun i=>(i.zero,i.size,i.bytes))=some (some (.agg #[.string ⟨#[]⟩,.bool false]),2,24):=by kernel_rfl
theorem pgroup_is {P:List Tok} {i:Nat} {x:List Vr × Nat} (h:pgroup P i=some x):∃ts j1 j2 k,pnames P 8 i []=some (ts,j1)∧pwant P [58] j1=some j2∧pkind P j2=some (k,x.2)∧pnot P [119,104,101,110] x.2=some ()∧x.1=ts.map (varT k):=by
 obtain ⟨a,h1,h⟩:=Option.bind_eq_some_iff.1 h
 obtain ⟨b,h2,h⟩:=Option.bind_eq_some_iff.1 h
 obtain ⟨c,h3,h⟩:=Option.bind_eq_some_iff.1 h
 obtain ⟨_,h4,h⟩:=Option.bind_eq_some_iff.1 h
 cases h
 exact ⟨a.1,a.2,b,c.1,h1,h2,h3,h4,rfl⟩
theorem group_any {P:Pr} {o i:Nat} {x:List Vr × Nat} {w:World} (h:PrAt w o P i) (hx:pgroup P.l i=some x):
  Calls Tryz.prog 275 #[.pointer (some ⟨o,0,none⟩),.slice none 0 0,.int .i64 8] w fun r w'=>(∃v,r= .returned v∧SlV (hide w.heap.size w') w'.heap.size 5 (isVr (hide w.heap.size w') w'.heap.size) v x.1)∧PrL w o P x.2 w':=by
 obtain ⟨ts,j1,j2,kd,hp1,hp2,hp3,hp4,hx1⟩:=pgroup_is hx
 obtain ⟨i0,hi0,hz0,hz1,hz2⟩:=info_parts info_vr
 obtain ⟨l0,hl0,hv0,hv1,hv2⟩:=info_parts info_lt
 have hol:=h.lt
 have HG0:Hid (GrI w o P (ts,j1) (.slice none 0 0) [] i 8 w):=⟨hp1,⟨h,Upd.refl _ _⟩,World.ownsRow_nil _ _ _ _,fun t ht=>absurd ht List.not_mem_nil⟩
 have HP2:=Lib.hid hp2
 have HP3:=Lib.hid hp3
 have HP4:=Lib.hid hp4
 have HX1:=Lib.hid hx1
 clear h hx hp1 hp2 hp3 hp4 hx1
 go_enter Tryz.func275,Tryz.ntmps275
 go_wp2_with fail
 go_loopg [1] 8 (fun q v wr=>∃l j,Hid (GrI w o P (ts,j1) v l j q wr))
 case atStart=>exact ⟨_,_,HG0⟩
 case round=>
  obtain ⟨l,j,H⟩:=hrel
  obtain ⟨k',y,u,rfl,hy,hl8,hu,hcase⟩:=pnames_is H.out.pn
  obtain ⟨A0,c0,hv,-⟩:=own_rd H.out.own
  subst hv
  have hsw:=H.out.pa.2.size
  have HN:Hid (Calls Tryz.prog 213 #[.pointer (some ⟨o,0,none⟩),.int .i64 l.length,.int .i64 8] wr fun r w'=>r= .returned (tokV y.1)∧PrL wr o P y.2 w'):=pname_any H.out.pa.1 l.length 8 hl8 hy
  have htk:=(H.out.pa.1.tok (pname_is hy).1).choose_spec.choose_spec.2.2.1
  go_wp2_with fail
  refine HN.out.mono ?_
  rintro r w2 ⟨rfl,h2⟩
  have hs2:=h2.2.size
  have b3:Below w2.heap.size w2 (w2.alloc (.cells (tokA y.1) 191)):=bE
  have rT:=Row.new w2 (tokA y.1) 191
  have H3:=Lib.hid ((H.out.pa.trans h2).bel b3)
  have HO3:=Lib.hid (own_below (own_updX H.out.own h2.2 (fun k e=>by omega)) b3)
  have HB:=Lib.hid (pbad_any H3.out.1)
  have hs3:=b3.size
  go_upto_region 3 with (fail)
  change Code.wp _ _ _ _ (w2.alloc (.cells (tokA y.1) 191))
  generalize w2.alloc (.cells (tokA y.1) 191)=W3 at*
  obtain ⟨⟨y0,y1,y2,y3,y4⟩,-⟩:=rT.tk5
  go_wp2_with (first|((go_at_call 136);(refine HB.out.mono ?_);(rintro r w4 ⟨rfl,rfl⟩))|(at_builtin;refine wpList_append_own _ rfl _ _ 36 rfl w.heap.size 89 i0 (.agg #[.string ⟨#[]⟩,.int .i64 0,.slice none 0 0,.int .i64 0,.int .i64 0]) 5 64 Tryz.underlying36 hi0 hz0 hz1 hz2 rfl (by decide) _ _ _ rfl (HO3.out.alloc _) ⟨_,0,none⟩ 1 1 (vrC y.1) rfl rfl (cells_new5 _ _ (vrC y.1)) (vrC_one _) (by unfold maxLen;omega) (by omega) (by simp;omega) ?_))
  intro v' w5 hown hg _
  have hO:=HO3.out.alloc (.cells #[.string y.1.text,.int .i64 0,.slice none 0 0,.int .i64 y.1.line,.int .i64 y.1.col] 89)
  have hL5:Hid (PrL w o P y.2 w5):=HG0.out.pa.1.fin (Row.ownB (H3.out.1.row.alloc (.cells #[.string y.1.text,.int .i64 0,.slice none 0 0,.int .i64 y.1.line,.int .i64 y.1.col] 89)) hO hol hg) (Upd.ownB (H3.out.2.alloc (.cells #[.string y.1.text,.int .i64 0,.slice none 0 0,.int .i64 y.1.line,.int .i64 y.1.col] 89)) hO hg)
  have HO5:Hid (w5.ownsRow w.heap.size 89 5 v' (l++ [y.1]).length (vrsC (l++ [y.1]))):=by
   show World.ownsRow _ _ _ _ _ _ _
   rw[vrsC_snoc];simpa using hown
  have HOK:Hid (∀t∈l++ [y.1],TokOk t):=fun t ht=>by
   rcases List.mem_append.1 ht with ht|ht
   ·exact H.out.ok t ht
   ·rw[List.mem_singleton.1 ht];exact htk
  clear hown hg hO
  rcases hcase with ⟨hs,hn⟩|⟨hs,hn⟩
  ·have HT:=Lib.hid (take_yes hL5.out.1 hu ⟨#[44]⟩ hs)
   have HPN:=Lib.hid hn
   clear hn
   go_wp2_with fail
   refine HT.out.mono ?_
   rintro r w6 ⟨rfl,h6⟩
   have HN6:Hid (GrI w o P (ts,j1) v' (l++ [y.1]) (y.2+1) k' w6):=⟨HPN.out,hL5.out.trans h6,own_updX HO5.out h6.2 (fun k e=>by omega),HOK.out⟩
   go_wp2_with fail
   go_roundg k'
   case measure=>omega
   case rel=>exact ⟨_,_,HN6⟩
  ·have HT:=Lib.hid (take_no hL5.out.1 hu ⟨#[44]⟩ hs)
   cases hn
   go_wp2_with fail
   refine HT.out.mono ?_
   rintro r w6 ⟨rfl,h6⟩
   have HL6:=Lib.hid (hL5.out.trans h6)
   have HO6:=Lib.hid (own_updX HO5.out h6.2 (fun k e=>by omega))
   have HW:=Lib.hid (want_any HL6.out.1 ⟨#[58]⟩ HP2.out)
   clear HT HB HN h6 h2
   go_wp2_with fail
   refine HW.out.mono ?_
   rintro r w7 ⟨rfl,h7⟩
   have HK:=Lib.hid (pkind_any h7.1 HP3.out)
   go_wp2_with fail
   refine HK.out.mono ?_
   rintro r w8 ⟨rfl,h8⟩
   have HC:=Lib.hid (pclock_any h8.1 HP4.out)
   go_wp2_with fail
   refine HC.out.mono ?_
   rintro r w9 ⟨rfl,hb9⟩
   have HL9:=Lib.hid (((HL6.out.trans h7).trans h8).bel hb9)
   have HO9:=Lib.hid (own_below (own_updX (own_updX HO6.out h7.2 (fun k e=>by omega)) h8.2 (fun k e=>by omega)) hb9)
   have hkd:Hid (Wf kd):=by
    obtain ⟨_,_,_,⟨_,rfl⟩|⟨_,_,rfl⟩⟩:=pkind_is HP3.out<;>exact wf_of ⟨by decide,by decide⟩
   have hTl:(l++ [y.1]).length≤8:=by simp;omega
   have hTp:0<(l++ [y.1]).length:=by simp
   generalize l++ [y.1]=T at*
   obtain ⟨g,c,hv⟩:=own_some HO9.out hTp
   subst hv
   have hgl:=(HO9.out.lt g rfl)
   have HG2:Hid (Gr2 w o P T g c kd x.2 0 (vrsC T) w9):=⟨HL9.out,HO9.out,fun i t ht=>by
    refine ⟨?_,?_,?_⟩
    ·have:=vrsC_at ht (j:=0) (by omega);rw[Nat.add_zero] at this;rw[this];rfl
    ·rw[vrsC_at ht (by omega)];rfl
    ·rw[vrsC_at ht (by omega)];rfl,fun i hi=>absurd hi (Nat.not_lt_zero _)⟩
   have hs9w:=HL9.out.2.size
   clear HK HC HW h7 h8 hb9 HL6 HO6 hL5 HO5 H3 HO3 HL9 HO9
   go_wp2_with fail
   go_loopw[11] (fun v wr=>∃k xs,k≤T.length∧v= .int .i64 ((k:Nat):Int)∧Hid (Gr2 w o P T g c kd x.2 k xs wr)) (fun i _=>T.length-(intOf i).toNat)
   case atStart=>exact ⟨0,_,Nat.zero_le _,rfl,HG2⟩
   case round=>
    obtain ⟨k,xs,hk,rfl,HR⟩:=hrel
    have hsr:=HR.out.pa.2.size
    by_cases hlt:k<T.length
    ·have bA:Below wr.heap.size wr (wr.alloc (.cells #[] 158)):=bE
     have HOA:=Lib.hid (own_below HR.out.own bA)
     have HEM:=Lib.hid (own_empty wr 158 2)
     have h51:k*5+1<T.length*5:=by omega
     have h52:k*5+2<T.length*5:=by omega
     obtain ⟨⟨u1,c1,-⟩,z1⟩:=own_at HOA.out h51
     obtain ⟨⟨u2,c2,-⟩,z2⟩:=own_at HOA.out h52
     clear bA
     go_wp2_with (at_builtin;refine wpList_append_own_none rfl _ _ 87 rfl wr.heap.size 158 l0 2 Tryz.underlying87 hl0 _ 0 [] rfl HEM.out rfl ?_)
     have HN2:Hid (Gr2 w o P T g c kd x.2 (k+1) ((xs.set (k*5+1) (.int .i64 kd)).set (k*5+2) (.slice (some ⟨wr.heap.size,0,none⟩) 0 0)) (((wr.alloc (.cells #[] 158)).setCell ⟨g,k*5+1,none⟩ (.int .i64 kd)).setCell ⟨g,k*5+2,none⟩ (.slice (some ⟨wr.heap.size,0,none⟩) 0 0))):=by
      have ug:Upd (fun x=>x=g) wr (((wr.alloc (.cells #[] 158)).setCell ⟨g,k*5+1,none⟩ (.int .i64 kd)).setCell ⟨g,k*5+2,none⟩ (.slice (some ⟨wr.heap.size,0,none⟩) 0 0)):=((((Upd.refl (fun x=>x=g) wr).alloc _).setCell (p:=⟨g,k*5+1,none⟩) rfl _).setCell (p:=⟨g,k*5+2,none⟩) rfl _)
      have hxl:xs.length=T.length*5:=HR.out.own.1
      refine ⟨HG0.out.pa.1.fin (ug.row HR.out.pa.1.row (by omega)) (Upd.narrow (Y:=fun x=>x=o∨x=g) ((HR.out.pa.2.mono (fun k e=>Or.inl e)).trans (ug.mono (fun k e=>Or.inr e))) (fun k hk e=>by omega)),own_put (own_put HOA.out _) _,fun i t ht=>?_,fun i hi=>?_⟩
      ·obtain ⟨a0,a3,a4⟩:=HR.out.base i t ht
       refine ⟨?_,?_,?_⟩
       ·rw[List.getElem?_set_ne (by omega),List.getElem?_set_ne (by omega)];exact a0
       ·rw[List.getElem?_set_ne (by omega),List.getElem?_set_ne (by omega)];exact a3
       ·rw[List.getElem?_set_ne (by omega),List.getElem?_set_ne (by omega)];exact a4
      ·by_cases hik:i=k
       ·subst hik
        refine ⟨?_,wr.heap.size,?_⟩
        ·rw[List.getElem?_set_ne (by omega),List.getElem?_set_self (by omega)]
        ·rw[List.getElem?_set_self (by rw[List.length_set];omega)]
       ·obtain ⟨d1,b,d2⟩:=HR.out.done i (by omega)
        refine ⟨?_,b,?_⟩
        ·rw[List.getElem?_set_ne (by omega),List.getElem?_set_ne (by omega)];exact d1
        ·rw[List.getElem?_set_ne (by omega),List.getElem?_set_ne (by omega)];exact d2
     go_roundw
     case rel=>exact ⟨k+1,_,by omega,by go_num,HN2⟩
     case measure=>simp[intOf];omega
    ·obtain rfl:k=T.length:=by omega
     have HSL:=Lib.hid (gr2_done HR.out hkd.out HOK.out)
     go_wp2_with fail
     go_ret
     exact ⟨⟨_,rfl,by rw[HX1.out];exact HSL.out⟩,HR.out.pa⟩
end Go.Proofs.YtgjfkidbfmbjoaaGreat
