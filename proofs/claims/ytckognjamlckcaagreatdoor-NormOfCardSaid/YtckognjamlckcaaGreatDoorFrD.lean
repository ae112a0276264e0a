/-
  norm's maker: any expression that is plain. The document's words on flats: named, By, ports. The document's words on flats: Late. The document's words on flats: plain. The document's words on flats: Kind as plain data.
-/
import Derived.Test.YtckognjamlckcaaGreatDoorZz
import Derived.Test.YtckognjamlckcaaGreatDoorNoZ
import Derived.Test.YtckognjamlckcaaGreatDoorNormK
import Derived.Test.YtckognjamlckcaaGreatDoorR24A
set_option maxHeartbeats 8000000
set_option maxRecDepth 100000
namespace Go.Proofs.YtckognjamlckcaaGreatDoor
open Go.RowKit Vf Fo
theorem norm_is {f:Fl} {K:Kw} {w0:World} {D:Nat} {vi vo:Value} (law:KwLaw K w0) (e:Ex):plainE f e→NormIs f K w0 D vi vo e:=by
 induction e using Ex.ind with
 |h e ih=>
  intro hpl A cap W q s v c h hc hp hok hcap hmax hx
  obtain ⟨hp1,hp2⟩:=plainE_iff.1 hpl
  have hP:PartIs f K w0 D vi vo e A cap:=part_any (fun x hx=>ih x hx (hp2 x hx)) hmax hx
  have ho:=plain1_ops hp1
  cases hs:s.spent with
  |true=>exact nexpr_spent hs h v c
  |false=>
   by_cases h3:e.op=3
   ·exact nexpr_var hs h h3 v c
   by_cases h1:e.op=1
   ·exact nexpr_lit1 hs h h1 v c hc hp hok
   by_cases h2:e.op=2
   ·exact nexpr_lit2 hs h h2 v c hc hp hok
   by_cases h21:e.op=21
   ·exact nexpr_pre law hs h hpl h21 v c hc hp hP
   by_cases h22:e.op=22
   ·exact nexpr_fby law hs h hpl h22 v c hc hp hP
   by_cases h23:e.op=23
   ·exact nexpr_arrow law hs h hpl h23 v c hc hp hP
   by_cases h24:e.op=24
   ·exact nexpr_when24 law hs h hpl h24 v c hc hp hP
   by_cases h25:e.op=25
   ·exact nexpr_when25 law hs h hpl h25 v c hc hp hP
   by_cases h26:e.op=26
   ·exact nexpr_merge law hs h hpl h26 v c hc hp hok.n hP
   by_cases h27:e.op=27
   ·exact nexpr_if law hs h hpl h27 v c hc hp hP
   exact nexpr_does hs h hpl (by omega) v c hc hp hok.op hP
attribute [local go_sem ↓] Go.wp_at_zero Go.wp_at_succ
theorem rfnamed_any (op:Int) (w:World):Calls Tryz.prog 88 #[.int .i64 op] w fun e w'=>e= .returned (.bool (namedB op))∧w=w':=by
 go_enter Tryz.func88,Tryz.ntmps88
 go_wp2
 all_goals
  go_ret
  refine ⟨ret_bool ?_,rfl⟩
  unfold namedB
  rw[Bool.eq_iff_iff]
  simp only[Bool.or_eq_true,beq_iff_eq,decide_eq_true_eq,true_iff]
  omega
theorem fm_acts_get {f:Fl} {k:Nat} {d:Int × Ex} (h:f.defs[k]? =some d):f.fm.acts[k]? =some ⟨0,d.1,0,0,0,0⟩:=by
 show (f.defs.map _)[k]? =_
 rw[List.getElem?_map,h]
 rfl
theorem fm_acts_len {f:Fl}:f.fm.acts.length=f.defs.length:=List.length_map _
theorem rfby_any {w:World} {f:Fl} {vw vd vi vo:Value} (h:FlAt w w.heap.size f vw vd vi vo) (n:Int):
  Calls Tryz.prog 43 #[flV vw vd vi vo,.int .i64 n] w fun e w'=>e= .returned (.int .i64 (byR n 0 f.fm.acts))∧Below w.heap.size w w':=by
 have b1:Below w.heap.size w (w.alloc (.cells #[vw,vd,vi,vo] 33)):=bE
 have HFL:=Lib.hid (h.below b1)
 have rF:=Row.new w #[vw,vd,vi,vo] 33
 obtain ⟨Ad,cd,rfl,ld,md,sd⟩:=h.defs
 refine' zq186
 clear h sd
 go_enter Tryz.func43,Tryz.ntmps43
 go_upto_region 1 with (fail)
 generalize w.alloc (.cells #[vw,.slice Ad f.defs.length cd,vi,vo] 33)=w1 at*
 have f1:=rF.cell 1
 simp only[List.getElem?_toArray,List.getElem?_cons_succ,List.getElem?_cons_zero] at f1
 clear rF
 have HSD:Hid (∀k,k<f.defs.length→∃b off d,Ad=some ⟨b,off,none⟩∧b<w.heap.size∧f.defs[k]? =some d∧Wf d.1∧w1.cell? ⟨b,off+k*7,none⟩=some (.int .i64 d.1)):=fun k hk=>by
  obtain ⟨A',c',e,_,_,sd⟩:=HFL.out.defs
  injection e with e1 e2 e3
  subst e1
  obtain ⟨b,off,d,Ag,cg,h1,h2,h3,h4,_,_,_,_,h5,_⟩:=sd.df hk
  exact ⟨b,off,d,h1,h2,h3,h4,h5⟩
 clear HFL
 go_wp2_with fail
 go_loopw[5] (fun i wr=>∃(k:Nat),k≤f.defs.length∧i= .int .i64 k∧Hid (byR n 0 f.fm.acts=byR n k (f.fm.acts.drop k))∧w1=wr) (fun i _=>f.defs.length-(intOf i).toNat)
 case atStart=>exact ⟨0,Nat.zero_le _,rfl,(by rw[List.drop_zero];exact rfl),rfl⟩
 case round=>
  obtain ⟨k,hk,rfl,HR,rfl⟩:=hrel
  by_cases hlt:k<f.defs.length
  ·obtain ⟨b,off,⟨xd,xe⟩,hAd,hbb,hx,wx,d0⟩:=HSD.out k hlt
   subst hAd
   dsimp only at d0 wx
   have HE:=Lib.hid (show byR n k (f.fm.acts.drop k)=_ by rw[getI_drop2 (fm_acts_get hx),byR])
   clear hx
   by_cases e1:xd=n
   ·have e1':(xd==n)=true:=by simp[e1]
    have HF:Hid (byR n 0 f.fm.acts=k):=by
     show _=_
     rw[HR.out,HE.out,if_pos e1]
    clear e1
    refine' zq272
   ·have e1':(xd==n)=false:=by simp[e1]
    have HR':Hid (byR n 0 f.fm.acts=byR n (k+1) (f.fm.acts.drop (k+1))):=by
     show _=_
     rw[HR.out,HE.out,if_neg e1]
    clear e1
    go_wp2_with fail
    go_roundw
    case rel=>exact ⟨k+1,by omega,by go_num,HR'.out,trivial⟩
    case measure=>first|(simp[intOf];omega)|simp[intOf]
  ·obtain rfl:k=f.defs.length:=by omega
   have HF:Hid (byR n 0 f.fm.acts= -1):=by show _=_;rw[HR.out,←fm_acts_len,List.drop_length,byR]
   refine' zq272
theorem rfports_any {w:World} {f:Fl} {vw vd vi vo:Value} (h:FlAt w w.heap.size f vw vd vi vo) (l:List Int) (v:Value) (hl:SlV w w.heap.size 1 isInt v l):
  Calls Tryz.prog 42 #[flV vw vd vi vo,v] w fun e w'=>e= .returned (.bool (cB (portsOk f.fm l)))∧Below w.heap.size w w':=by
 obtain ⟨A,c,rfl,l1,m1,s1⟩:=hl
 have m1':c≤9223372036854775807:=by unfold maxLen at m1;omega
 have b1:Below w.heap.size w (w.alloc (.cells #[vw,vd,vi,vo] 33)):=bE
 have HFL:=Lib.hid (h.below b1)
 have HSL:=Lib.hid (s1.below b1)
 have rF:=Row.new w #[vw,vd,vi,vo] 33
 obtain ⟨Aw,cw,rfl,lw,mw,sw⟩:=h.wires
 refine' zq76
 clear h s1 sw
 go_enter Tryz.func42,Tryz.ntmps42
 go_upto_region 1 with (fail)
 generalize w.alloc (.cells #[.slice Aw f.wires.length cw,vd,vi,vo] 33)=w1 at*
 have f0:=rF.cell 0
 simp only[List.getElem?_toArray,List.getElem?_cons_zero] at f0
 clear rF
 have HB1:=Lib.hid b1
 clear b1
 go_wp2_with fail
 go_loopw[5] (fun i wr=>∃(k n:Nat),k≤l.length∧i= .int .i64 k∧Hid (∀j,j<k→∀n,l[j]? =some n→portAt f.fm n)∧wr=w1.drewN n) (fun i _=>l.length-(intOf i).toNat)
 case atStart=>exact ⟨0,0,Nat.zero_le _,rfl,(fun j h=>absurd h (by omega)),rfl⟩
 case round=>
  obtain ⟨k,n0,hk,rfl,HP,rfl⟩:=hrel
  by_cases hlt:k<l.length
  ·obtain ⟨b,off,n,rfl,hbb,hn,wx,d⟩:=HSL.out.int hlt
   have HX:=Lib.hid hn
   have hk':(k:Int)<l.length:=by omega
   clear hn
   by_cases h0:n<0
   ·have HF:=Lib.hid (cB_false (ports_no (f:=f.fm) HX.out (fun g=>by have h2:0≤n:=g.1.1;omega)))
    have e0:decide (n<0)=true:=decide_eq_true h0
    clear h0
    refine' zq332
   have e0:decide (n<0)=false:=decide_eq_false h0
   by_cases h1:(f.wires.length:Int)≤n
   ·have HF:=Lib.hid (cB_false (ports_no (f:=f.fm) HX.out (fun g=>by have h2:n<f.wires.length:=g.1.2;omega)))
    have e1:decide ((f.wires.length:Int)≤n)=true:=decide_eq_true h1
    clear h0 h1
    refine' zq332
   have e1:decide ((f.wires.length:Int)≤n)=false:=decide_eq_false h1
   have hw:isW f.fm n:=⟨by omega,(show n<f.wires.length by omega)⟩
   obtain ⟨m,b',off',cw',Ag,cg,hnm,hm,hvw,lw',mw2,hbB,d0,d1,lg,mg,sg⟩:=fl_wire HFL.out hw
   injection hvw with hv1 hv2 hv3
   subst hv1
   refine' zq313
   clear hw sg h0 h1 d0 lw' mw2 hv3
   generalize (clockOf f.fm m).length=L at*
   by_cases hg:0<L
   ·have HF:=Lib.hid (cB_false (ports_no (f:=f.fm) HX.out (fun g=>by have:=HPA.out.1 g;omega)))
    have hg':decide ((0:Int)<(L:Int))=true:=by simp;omega
    refine' zq332
   ·have HN':=Lib.hid (upto_succ HP.out (fun n' hn'=>by rw[HX.out] at hn';injection hn' with hn';rw[←hn'];exact HPA.out.2 (by omega)))
    have hg':decide ((0:Int)<(L:Int))=false:=by simp;omega
    refine' zq220
    go_roundw
    case rel=>exact ⟨k+1,_,by omega,by go_num,HN',by first|rfl|(rw[World.drewN_drewN])⟩
    case measure=>simp[intOf];omega
  ·obtain rfl:k=l.length:=by omega
   have HY:=Lib.hid (ports_yes (f:=f.fm) HP.out)
   generalize hL:l.length=L at*
   by_cases q1:0<L
   ·by_cases q8:L≤8
    ·have HF:=Lib.hid (cB_true (HY.out.2 ⟨by omega,by omega⟩))
     have e1:decide ((0:Int)<(L:Int))=true:=decide_eq_true (by omega)
     have e2:decide ((L:Int)≤8)=true:=decide_eq_true (by omega)
     go_wp2_with fail
     go_ret
     exact ⟨ret_bool HF.out.symm,below_drewN' HB1.out _⟩
    ·have HF:=Lib.hid (cB_false (fun g=>q8 (HY.out.1 g).2))
     have e1:decide ((0:Int)<(L:Int))=true:=decide_eq_true (by omega)
     have e2:decide ((L:Int)≤8)=false:=decide_eq_false (by omega)
     go_wp2_with fail
     go_ret
     exact ⟨ret_bool HF.out.symm,below_drewN' HB1.out _⟩
   ·have HF:=Lib.hid (cB_false (fun g=>q1 (HY.out.1 g).1))
    have e1:decide ((0:Int)<(L:Int))=false:=decide_eq_false (by omega)
    go_wp2_with fail
    go_ret
    exact ⟨ret_bool HF.out.symm,below_drewN' HB1.out _⟩
theorem maxL_mem {l:List Nat} {b:Nat} (h:∀x∈l,x≤b) (hb:0<b):maxL l=b↔b∈l:=by
 induction l with
 |nil=>simp[maxL];omega
 |cons x l ih=>
  have h1:=h x (by simp)
  have h2:=maxL_le (l:=l) (b:=b) (fun y hy=>h y (by simp[hy]))
  have h3:=ih (fun y hy=>h y (by simp[hy]))
  simp only[maxL,List.mem_cons,←h3]
  omega
theorem late1_le (e:Ex) (ls:List Nat) (h:∀x∈ls,x≤2):late1 e ls≤2:=by
 have h2:=maxL_le h
 have h3:=maxL_mem h (by omega)
 unfold late1
 by_cases h4:2∈ls
 ·rw[if_pos h4]
  omega
 ·have h5:ls.headD 0≤maxL ls:=by
   cases ls with
   |nil=>simp
   |cons x l=>simp only[List.headD_cons,maxL];omega
  rw[←h3] at h4
  split<;>(try split)<;>(try split)<;>(try split)<;>omega
theorem lateE_le2 (e:Ex):lateE e≤2:=by
 induction e using Ex.ind with
 |h e ih=>
  rw[lateE_eq]
  exact late1_le _ _ (fun x hx=>by obtain ⟨y,hy,rfl⟩:=List.mem_map.1 hx;exact ih y hy)
noncomputable def lmTo (e:Ex) (k:Nat):Nat:=maxL ((e.args.take k).map lateE)
noncomputable def lfTo (e:Ex) (k:Nat):Nat:=((e.args.take k).map lateE).headD 0
theorem lmTo_succ {e x:Ex} {k:Nat} (h:e.args[k]? =some x):lmTo e (k+1)=max (lmTo e k) (lateE x):=by
 unfold lmTo;rw[take_succ_map lateE h,maxL_snoc]
theorem lfTo_succ {e x:Ex} {k:Nat} (h:e.args[k]? =some x):lfTo e (k+1)=if k=0 then lateE x else lfTo e k:=by
 unfold lfTo;rw[take_succ_map lateE h]
 by_cases h0:k=0
 ·subst h0;rw[if_pos rfl];rfl
 ·rw[if_neg h0]
  have:((e.args.take k).map lateE)≠[]:=by
   intro g
   have g2:=congrArg List.length g
   have g3:=(List.getElem?_eq_some_iff.1 h).1
   rw[List.length_map,List.length_take,List.length_nil] at g2
   omega
  cases hq:((e.args.take k).map lateE) with
  |nil=>exact absurd hq this
  |cons y l=>rfl
theorem lmTo_le (e:Ex) (k:Nat):lmTo e k≤2:=maxL_le (fun x hx=>by obtain ⟨y,_,rfl⟩:=List.mem_map.1 hx;exact lateE_le2 y)
theorem lfTo_le (e:Ex) (k:Nat):lfTo e k≤2:=by
 unfold lfTo
 cases hq:((e.args.take k).map lateE) with
 |nil=>simp
 |cons y l=>
  have:y∈((e.args.take k).map lateE):=by rw[hq];simp
  obtain ⟨z,_,rfl⟩:=List.mem_map.1 this
  exact lateE_le2 z
theorem lTo2_end (e:Ex):lateE e=if lmTo e e.args.length=2 then 2 else if e.op=21 then 1+lmTo e e.args.length else if e.op=22∨e.op=26 then 2*lmTo e e.args.length else if e.op=23 then 2*lfTo e e.args.length else lmTo e e.args.length:=by
 rw[lateE_eq]
 unfold lmTo lfTo late1
 rw[List.take_length]
 have:=maxL_mem (l:=e.args.map lateE) (b:=2) (fun x hx=>by obtain ⟨y,_,rfl⟩:=List.mem_map.1 hx;exact lateE_le2 y) (by omega)
 by_cases h:2∈e.args.map lateE
 ·rw[if_pos h,if_pos (this.2 h)]
 ·rw[if_neg h,if_neg (fun g=>h (this.1 g))]
theorem rflate_any (e:Ex):∀(A:Option Addr) (cap:Nat) (w:World),e.args.length≤cap→cap≤maxLen→IsExs w w.heap.size A e.args→
  Calls Tryz.prog 48 #[exV e A cap] w fun r w'=>r= .returned (.int .i64 (lateE e))∧Below w.heap.size w w':=by
 induction e using Ex.ind with
 |h e ih=>
  intro A cap w hcap hmax hx
  have HI:=Lib.hid ih
  clear ih
  have HE:=Lib.hid (lTo2_end e)
  unfold maxLen at hmax
  go_enter Tryz.func48,Tryz.ntmps48
  go_wp2_with fail
  go_loopw[3,4,5] (fun v u i wr=>∃k:Nat,k≤e.args.length∧i= .int .i64 k∧v= .int .i64 (lmTo e k)∧u= .int .i64 (lfTo e k)∧Below (w.heap.size+1) (w.alloc (.cells #[.int .i64 e.op,.string e.name,.int .i64 e.n,.slice A e.args.length cap,.int .i64 e.line,.int .i64 e.col] 75)) wr) (fun _ _ i _=>e.args.length-(intOf i).toNat)
  case atStart=>exact ⟨0,Nat.zero_le _,rfl,rfl,rfl,by simpa using Below.refl _ _⟩
  case round=>
   obtain ⟨k,hk,rfl,rfl,rfl,hbox⟩:=hrel
   obtain ⟨⟨hc0,_,_,hc3,_,_⟩,hbel,hsz⟩:=exBox hbox
   have hm:=lmTo_le e k
   have hf:=lfTo_le e k
   by_cases hlt:k<e.args.length
   ·obtain ⟨b,off,x,A',cap',rfl,hb,hxk,hxm,hok',hcap',hmax',hx',c0,c1,c2,c3,c4,c5⟩:=(hx.below hbel).at_ hlt
    have HT:=Lib.hid (lmTo_succ hxk)
    have HF:=Lib.hid (lfTo_succ hxk)
    have HM:=Lib.hid hxm
    clear hxk hxm
    go_wp2_with fail
    refine (HI.out x HM.out A' cap' _ hcap' hmax' (hx'.more (by omega))).mono ?_
    rintro r w2 ⟨rfl,hb2⟩
    have hb3:=hbox.trans (hb2.mono hsz)
    clear hbox
    by_cases h0:k=0
    ·have e0:((k:Int)==0)=true:=by simp[h0]
     have HF':=Lib.hid (HF.out.trans (if_pos h0))
     clear h0
     go_wp2_with fail
     ·go_roundw
      case rel=>exact ⟨k+1,by omega,by go_num,by rw[HT.out,Nat.max_eq_right (by omega)],by rw[HF'.out],hb3⟩
      case measure=>simp[intOf];omega
     ·go_roundw
      case rel=>exact ⟨k+1,by omega,by go_num,by rw[HT.out,Nat.max_eq_left (by omega)],by rw[HF'.out],hb3⟩
      case measure=>simp[intOf];omega
    ·have e0:((k:Int)==0)=false:=by simp[h0]
     have HF':=Lib.hid (HF.out.trans (if_neg h0))
     clear h0
     go_wp2_with fail
     ·go_roundw
      case rel=>exact ⟨k+1,by omega,by go_num,by rw[HT.out,Nat.max_eq_right (by omega)],by rw[HF'.out],hb3⟩
      case measure=>simp[intOf];omega
     ·go_roundw
      case rel=>exact ⟨k+1,by omega,by go_num,by rw[HT.out,Nat.max_eq_left (by omega)],by rw[HF'.out],hb3⟩
      case measure=>simp[intOf];omega
   ·obtain rfl:k=e.args.length:=by omega
    generalize lmTo e e.args.length=M at*
    generalize lfTo e e.args.length=F at*
    clear hx
    go_wp2_with fail
    all_goals
     go_ret
     refine ⟨ret_int ?_,hbel⟩
     rw[HE.out]
     (try simp only[beq_iff_eq,beq_eq_false_iff_ne] at*)
     repeat' split
     all_goals omega
theorem plain1_ref {f:Fl} {x:Ex}:plain1 f x↔x.name.toList.isEmpty=true∧x.op≠4∧partsZ x.op=x.args.length∧0≤x.n∧(namedB x.op=true→x.n<f.wires.length)∧(namedB x.op=false→x.op≠1→(x.op≠2∨1<x.n)→x.n=0):=by
 unfold plain1
 refine and_congr_right fun _=>and_congr_right fun _=>and_congr_right fun _=>?_
 have hw:isW f.fm x.n↔0≤x.n∧x.n<f.wires.length:=Iff.rfl
 cases hN:namedB x.op
 ·rw[if_neg (by simp)]
  simp only[reduceCtorEq,false_implies,true_implies,true_and]
  by_cases h1:x.op=1
  ·rw[if_pos h1];exact ⟨fun g=>⟨g,fun h=>absurd h1 h⟩,fun g=>g.1⟩
  rw[if_neg h1]
  by_cases h2:x.op=2
  ·rw[if_pos h2];omega
  rw[if_neg h2];omega
 ·rw[if_pos rfl,hw]
  simp only[reduceCtorEq,false_implies,true_implies,and_true]
theorem plainE_no {f:Fl} {e x:Ex} {k:Nat} (h:(exList e)[k]? =some x) (hn:¬plain1 f x):¬plainE f e:=fun g=>hn (g x (List.mem_of_getElem? h))
theorem plainE_yes {f:Fl} {e:Ex} (h:∀j,j<(exList e).length→∀x,(exList e)[j]? =some x→plain1 f x):plainE f e:=fun x hx=>by
 obtain ⟨j,hj⟩:=List.getElem?_of_mem hx
 exact h j (List.getElem?_eq_some_iff.1 hj).1 x hj
theorem rfplain_any {w:World} {f:Fl} {vw vd vi vo:Value} (h:FlAt w w.heap.size f vw vd vi vo) (e:Ex) (A:Option Addr) (cap:Nat) (hok:ExOk e) (hcap:e.args.length≤cap) (hmax:cap≤maxLen) (hx:IsExs w w.heap.size A e.args) (hs:exSize e≤1000000):
  Calls Tryz.prog 44 #[flV vw vd vi vo,exV e A cap] w fun r w'=>r= .returned (.bool (cB (plainE f e)))∧Below w.heap.size w w':=by
 have b1:Below w.heap.size w ((w.alloc (.cells #[vw,vd,vi,vo] 33)).alloc (.cells #[.int .i64 e.op,.string e.name,.int .i64 e.n,.slice A e.args.length cap,.int .i64 e.line,.int .i64 e.col] 75)):=bE
 have rF:=(Row.new w #[vw,vd,vi,vo] 33).alloc (.cells #[.int .i64 e.op,.string e.name,.int .i64 e.n,.slice A e.args.length cap,.int .i64 e.line,.int .i64 e.col] 75)
 obtain ⟨Aw,cw,rfl,lw,mw,sw⟩:=h.wires
 refine' zq76
 have HL:=Lib.hid (list_any w.heap.size e A cap _ hok hcap hmax b1.size (hx.below b1) hs)
 clear h sw hx
 go_enter Tryz.func44,Tryz.ntmps44
 go_upto_region 1 with (fail)
 go_wp2_with fail
 (with_reducible refine HL.out.mono ?_)
 rintro r w2 ⟨v,css,rfl,own,hcs,hb2⟩
 have HB2:=Lib.hid (b1.trans (hb2.mono b1.size))
 have hF2:=rF.below hb2 rF.lt
 obtain ⟨Al,cl,rfl,hn0,hl1,hl2,hxs⟩:=own_exs own hcs (by have:=b1.size;have:=hb2.size;omega)
 have hl2':cl≤9223372036854775807:=by unfold maxLen at hl2;omega
 have HXS:=Lib.hid hxs
 clear own hcs hxs HL rF b1 hb2 hn0
 have HF4:=Lib.hid (fun W (hW:Below w2.heap.size w2 W)=>(hF2.below hW hF2.lt).four')
 have hFl:=hF2.lt
 clear hF2
 generalize hLL:(exList e).length=L at*
 have HLL:=Lib.hid hLL
 clear hLL
 go_wp2_with fail
 go_loopw[6] (fun i wr=>∃(k:Nat),k≤L∧i= .int .i64 k∧Hid (∀j,j<k→∀x,(exList e)[j]? =some x→plain1 f x)∧Below w2.heap.size w2 wr) (fun i _=>L-(intOf i).toNat)
 case atStart=>exact ⟨0,Nat.zero_le _,rfl,(fun j h=>absurd h (by omega)),Below.refl _ _⟩
 case round=>
  obtain ⟨k,hk,rfl,HP,hbr⟩:=hrel
  have hsr:=hbr.size
  by_cases hlt:k<L
  ·obtain ⟨b,off,x,A',cap',rfl,hbb,hxk,_,hok',hcap',hmax',_,c0,c1,c2,c3,c4,c5⟩:=(HXS.out.below hbr).at_ (show k<(exList e).length by rw[HLL.out];exact hlt)
   have HK:=Lib.hid hxk
   have HNO:=Lib.hid (fun g=>cB_false (plainE_no (f:=f) hxk g))
   have hk':(k:Int)<L:=by omega
   have hmax2:cap'≤9223372036854775807:=by unfold maxLen at hmax';omega
   clear hxk
   have bX:Below wr.heap.size wr (wr.alloc (.cells #[.int .i64 x.op,.string x.name,.int .i64 x.n,.slice A' x.args.length cap',.int .i64 x.line,.int .i64 x.col] 75)):=bE
   have rX:=Row.new wr #[.int .i64 x.op,.string x.name,.int .i64 x.n,.slice A' x.args.length cap',.int .i64 x.line,.int .i64 x.col] 75
   have HD:=Lib.hid (plain1_ref (f:=f) (x:=x))
   have HPT:=Lib.hid (rparts_any x.op)
   have HNM:=Lib.hid (rfnamed_any x.op)
   go_upto_region 6 with (fail)
   generalize wr.alloc (.cells #[.int .i64 x.op,.string x.name,.int .i64 x.n,.slice A' x.args.length cap',.int .i64 x.line,.int .i64 x.col] 75)=wx at*
   have hXl:=rX.lt
   have hsx:=bX.size
   have HX:Hid (∀W,Below wx.heap.size wx W→W.cell? ⟨wr.heap.size,0,none⟩=some (.int .i64 x.op)∧W.cell? ⟨wr.heap.size,1,none⟩=some (.string x.name)∧W.cell? ⟨wr.heap.size,2,none⟩=some (.int .i64 x.n)∧W.cell? ⟨wr.heap.size,3,none⟩=some (.slice A' x.args.length cap')∧W.cell? ⟨wr.heap.size,4,none⟩=some (.int .i64 x.line)∧W.cell? ⟨wr.heap.size,5,none⟩=some (.int .i64 x.col)):=fun W hW=>(rX.below hW hXl).six'
   have HBX:=Lib.hid (fun W (hW:Below wx.heap.size wx W)=>HB2.out.trans ((hbr.trans ((bX.trans (hW.mono hsx)).mono hsr)).mono HB2.out.size))
   have HBR:=Lib.hid (fun W (hW:Below wx.heap.size wx W)=>hbr.trans ((bX.trans (hW.mono hsx)).mono hsr))
   have HF0:=Lib.hid (fun W (hW:Below wx.heap.size wx W)=>(HF4.out W (HBR.out W hW)).1)
   obtain ⟨c0,c1,c2,c3,c4,c5⟩:=rX.six'
   clear rX
   generalize hn:x.name.toList.isEmpty=E0 at*
   have HE0:=Lib.hid hn
   cases E0
   ·have HF:=Lib.hid (HNO.out (fun g=>by have:=(HD.out.1 g).1;cases this))
    go_quiet (fail)
    go_wp2_with fail
    go_ret
    exact ⟨ret_bool HF.out.symm,HBX.out _ bE⟩
   by_cases h4:x.op=4
   ·have h4':(x.op==4)=true:=by simp[h4]
    have HF:=Lib.hid (HNO.out (fun g=>(HD.out.1 g).2.1 h4))
    clear h4
    go_quiet (fail)
    go_wp2_with fail
    go_ret
    exact ⟨ret_bool HF.out.symm,HBX.out _ bE⟩
   have h4':(x.op==4)=false:=by simp[h4]
   have H4:=Lib.hid h4
   clear h4
   by_cases hp:partsZ x.op=x.args.length
   rotate_left 1
   ·have hp':((partsZ x.op) !=(x.args.length:Int))=true:=by simp[hp]
    have HF:=Lib.hid (HNO.out (fun g=>hp (HD.out.1 g).2.2.1))
    generalize partsZ x.op=PZ at*
    clear hp
    refine' zq24
    refine sk 18 (some 38) rfl ?_
    refine sk 19 (some 39) rfl ?_
    refine sk 20 (some 40) rfl ?_
    refine tk 21 (some 41) rfl ?_
    refine' zq25
    go_ret
    exact ⟨ret_bool HF.out.symm,HBX.out _ bE⟩
   have hp':((partsZ x.op) !=(x.args.length:Int))=false:=by simp[hp]
   have HPP:=Lib.hid hp
   clear hp
   generalize partsZ x.op=PZ at*
   by_cases hn0:x.n<0
   ·have hn0':decide (x.n<0)=true:=decide_eq_true hn0
    have HF:=Lib.hid (HNO.out (fun g=>by have:=(HD.out.1 g).2.2.2.1;omega))
    clear hn0
    refine' zq24
    refine tk 18 (some 38) rfl ?_
    refine tk 19 (some 39) rfl ?_
    refine tk 20 (some 40) rfl ?_
    refine tk 21 (some 41) rfl ?_
    refine' zq25
    go_ret
    exact ⟨ret_bool HF.out.symm,HBX.out _ bE⟩
   have hn0':decide (x.n<0)=false:=decide_eq_false hn0
   have HN0:=Lib.hid hn0
   clear hn0
   go_cut[41] from 10 to 76 (fun v W=>v= .bool false∧Below wx.heap.size wx W)
   case first=>
    refine wp_mono (Q:=Exit.then _ (fun _ _ _=>False)) ?_ (fun e a w hq=>by cases e<;>first|exact hq|exact False.elim hq)
    refine' zq24
    refine tk 18 (some 38) rfl ?_
    refine tk 19 (some 39) rfl ?_
    refine tk 20 (some 40) rfl ?_
    refine tk 21 (some 41) rfl ?_
    refine' zq25
    go_meet
    exact ⟨rfl,bE⟩
   case rest=>
    obtain ⟨rfl,hbc⟩:=hcut
    clear c0 c1 c2 c3 c4 c5
    obtain ⟨c0,c1,c2,c3,c4,c5⟩:=HX.out _ hbc
    have f0:=HF0.out _ hbc
    have HBC:=Lib.hid (HBX.out _ hbc)
    have HBD:=Lib.hid (HBR.out _ hbc)
    have hDD:=HD.out.trans ⟨fun g=>g.2.2.2.2,fun g=>⟨rfl,H4.out,HPP.out,by have:=HN0.out;omega,g⟩⟩
    have HDD:=Lib.hid hDD
    clear hDD HX HF0 HBX HBR
    generalize namedB x.op=NB at*
    cases NB
    ·by_cases hbad:x.op≠1∧(x.op≠2∨1<x.n)∧x.n≠0
     ·have HF:=Lib.hid (HNO.out (fun g=>hbad.2.2 ((HDD.out.1 g).2 rfl hbad.1 hbad.2.1)))
      obtain ⟨q1,q2,q3⟩:=hbad
      have q1':(x.op !=1)=true:=by simp[q1]
      have q3':(x.n !=0)=true:=by simp[q3]
      by_cases q4:x.op=2
      ·have q4':(x.op !=2)=false:=by simp[q4]
       have q5:decide (1<x.n)=true:=decide_eq_true (by omega)
       clear q1 q2 q3 q4
       refine' zq116
       refine' zq116
       refine' zq180
      ·have q4':(x.op !=2)=true:=by simp[q4]
       clear q1 q2 q3 q4
       refine' zq116
       refine' zq116
       refine' zq180
     ·have HP':=Lib.hid (upto_succ HP.out (fun y hy=>by rw[HK.out] at hy;injection hy with hy;rw[←hy];exact HDD.out.2 ⟨(fun g=>by cases g),fun _ a b=>by by_cases c:x.n=0;exact c;exact absurd ⟨a,b,c⟩ hbad⟩))
      have HBAD:=Lib.hid hbad
      clear hbad
      refine' zq116
      refine' zq116
      by_cases q1:x.op=1
      ·have q1':(x.op !=1)=false:=by simp[q1]
       clear q1
       refine' zq131
      have q1':(x.op !=1)=true:=by simp[q1]
      by_cases q3:x.n=0
      ·have q3':(x.n !=0)=false:=by simp[q3]
       by_cases q4:x.op=2
       ·have q4':(x.op !=2)=false:=by simp[q4]
        have q5:decide (1<x.n)=false:=decide_eq_false (by omega)
        clear q1 q3 q4
        refine' zq131
       ·have q4':(x.op !=2)=true:=by simp[q4]
        clear q1 q3 q4
        refine' zq131
      have q3':(x.n !=0)=true:=by simp[q3]
      have q4:x.op=2:=by by_cases c:x.op=2;exact c;exact absurd ⟨q1,.inl c,q3⟩ HBAD.out
      have q5:decide (1<x.n)=false:=decide_eq_false (fun c=>HBAD.out ⟨q1,.inr c,q3⟩)
      have q4':(x.op !=2)=false:=by simp[q4]
      clear q1 q3 q4
      refine' zq131
    ·by_cases hln:x.n<f.wires.length
     ·have e2:decide ((f.wires.length:Int)≤x.n)=false:=decide_eq_false (by omega)
      have HP':=Lib.hid (upto_succ HP.out (fun y hy=>by rw[HK.out] at hy;injection hy with hy;rw[←hy];exact HDD.out.2 ⟨fun _=>hln,fun g=>by cases g⟩))
      clear hln
      refine' zq116
      refine' zq116
      refine' zq131
     ·have e2:decide ((f.wires.length:Int)≤x.n)=true:=decide_eq_true (by omega)
      have HF:=Lib.hid (HNO.out (fun g=>hln ((HDD.out.1 g).1 rfl)))
      clear hln
      refine' zq116
      refine' zq180
  ·obtain rfl:k=L:=by omega
   have HF:=Lib.hid (cB_true (plainE_yes (f:=f) (e:=e) (by rw[HLL.out];exact HP.out)))
   go_wp2_with fail
   go_ret
   exact ⟨ret_bool HF.out.symm,HB2.out.trans (hbr.mono HB2.out.size)⟩
end Go.Proofs.YtckognjamlckcaaGreatDoor
namespace Go.Proofs.YtckognjamlckcaaGreatDoor.Fo
open Vf
theorem getI_0 (a:Int) (l:List Int):getI (a::l) 0=a:=rfl
theorem getI_1 (a b:Int) (l:List Int):getI (a::b::l) 1=b:=rfl
theorem getI_2 (a b c:Int) (l:List Int):getI (a::b::c::l) 2=c:=rfl
def kindK (f:Fl) (e:Ex) (l:List Int):Int:=
 if 0∈l then 0 else if e.op≤2 then e.op else if e.op=3 then tyOf f.fm e.n
 else if Ar.signB e.op=true then (if (Ar.signIn e.op≠0∧getI l 0≠Ar.signIn e.op)∨(l.length=2∧getI l 0≠getI l 1) then 0 else Ar.signOut e.op)
 else if namedB e.op=true∧tyOf f.fm e.n≠2 then 0
 else if e.op=27∧getI l 0≠2 then 0
 else if 1<l.length∧getI l ((l.length-1:Nat):Int)≠getI l ((l.length-2:Nat):Int) then 0 else getI l ((l.length-1:Nat):Int)
theorem kindK_eq {f:Fl} {e:Ex} {l:List Int} (hp:plain1 f e) (hl:l.length=e.args.length):kindK f e l=kind1 f e l:=by
 obtain ⟨_,h4,hq,_⟩:=hp
 rw[←hl] at hq
 unfold kindK kind1
 by_cases h0:0∈l
 ·rw[if_pos h0,if_pos h0]
 rw[if_neg h0,if_neg h0]
 generalize tyOf f.fm e.n=T
 generalize e.op=op at*
 have hop:1≤op∧op≤27:=by
  by_cases c1:1≤op∧op≤27
  ·exact c1
  ·rw[show partsZ op= -2 by unfold partsZ;rw[if_neg (by omega),if_neg (by omega),if_neg (by omega),if_neg (by omega),if_neg (by omega)]] at hq
   omega
 have hcs:op=1∨op=2∨op=3∨op=5∨op=6∨op=7∨op=8∨op=9∨op=10∨op=11∨op=12∨op=13∨op=14∨op=15∨op=16∨op=17∨op=18∨op=19∨op=20∨op=21∨op=22∨op=23∨op=24∨op=25∨op=26∨op=27:=by omega
 rcases l with _|⟨a,_|⟨b,_|⟨c,_|⟨d,l⟩⟩⟩⟩
 ·rcases hcs with rfl|rfl|rfl|rfl|rfl|rfl|rfl|rfl|rfl|rfl|rfl|rfl|rfl|rfl|rfl|rfl|rfl|rfl|rfl|rfl|rfl|rfl|rfl|rfl|rfl|rfl<;>simp[partsZ] at hq<;>simp[namedB]
 ·rcases hcs with rfl|rfl|rfl|rfl|rfl|rfl|rfl|rfl|rfl|rfl|rfl|rfl|rfl|rfl|rfl|rfl|rfl|rfl|rfl|rfl|rfl|rfl|rfl|rfl|rfl|rfl<;>simp[partsZ] at hq<;>simp[namedB,kindR,Ar.signB,Ar.signIn,Ar.signOut,getI_0]
 ·simp only[List.mem_cons,List.not_mem_nil,or_false,not_or] at h0
  rcases hcs with rfl|rfl|rfl|rfl|rfl|rfl|rfl|rfl|rfl|rfl|rfl|rfl|rfl|rfl|rfl|rfl|rfl|rfl|rfl|rfl|rfl|rfl|rfl|rfl|rfl|rfl<;>simp[partsZ] at hq<;>simp[namedB,kindR,Ar.signB,Ar.signIn,Ar.signOut,getI_0,getI_1]
  all_goals (repeat' split)<;>omega
 ·rcases hcs with rfl|rfl|rfl|rfl|rfl|rfl|rfl|rfl|rfl|rfl|rfl|rfl|rfl|rfl|rfl|rfl|rfl|rfl|rfl|rfl|rfl|rfl|rfl|rfl|rfl|rfl<;>simp[partsZ] at hq<;>simp[namedB,kindR,Ar.signB,Ar.signIn,getI_0,getI_1,getI_2]
  all_goals (repeat' split)<;>omega
 ·simp[partsZ] at hq
  omega
end Go.Proofs.YtckognjamlckcaaGreatDoor.Fo
