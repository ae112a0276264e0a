/-
  flat.late: is an expression late, and is nothing in it wrong? flat's looker: ports and wires. flat's looker: wires. norm's looker: cells. norm's looker: defined.
-/
import Derived.Test.YtdkgkacnjdnpoaaGreatZz
import Derived.Test.YtdkgkacnjdnpoaaGreatFltG
import Derived.Test.YtdkgkacnjdnpoaaGreatFltQ
import Derived.Test.YtdkgkacnjdnpoaaGreatLookZ
set_option maxHeartbeats 8000000
set_option maxRecDepth 100000
namespace Go.Proofs.YtdkgkacnjdnpoaaGreat.Q.Fo
open Vf
section
variable {e x:Ex}
theorem maxL_any {l:List Nat} (h:∀x∈l,x≤1):maxL l=if (l.any (·==1))=true then 1 else 0:=by
 induction l with
 |nil=>rfl
 |cons z l ih=>
  have h1:=h z (by simp)
  have h2:=ih (fun x hx=>h x (List.mem_cons_of_mem _ hx))
  have:z=0∨z=1:=by omega
  simp only[maxL,List.any_cons,Bool.or_eq_true,beq_iff_eq]
  rw[h2]
  rcases this with rfl|rfl
  ·simp
  ·simp only[true_or,if_true]
   split<;>rfl
theorem lateE_le (e:Ex):lateE e≤2:=by
 induction e using Ex.ind with
 |h e ih=>
  rw[lateE_eq]
  unfold late1
  split
  ·omega
  rename_i h2
  have h1:∀y∈e.args.map lateE,y≤1:=fun y hy=>by
   obtain ⟨x,hx,rfl⟩:=List.mem_map.1 hy
   have:=ih x hx
   have h3:lateE x≠2:=fun g=>h2 (by rw[←g];exact hy)
   omega
  have h3:maxL (e.args.map lateE)≤1:=maxL_le h1
  have h4:(e.args.map lateE).headD 0≤1:=by
   cases q:e.args.map lateE with
   |nil=>simp
   |cons y l=>exact h1 y (by rw[q];simp)
  repeat' split
  all_goals omega
noncomputable def isTo (e:Ex) (k:Nat):Bool:=((e.args.take k).map lateE).any (·==1)
noncomputable def fstTo (e:Ex) (k:Nat):Bool:=((e.args.take k).map lateE).headD 0==1
theorem isTo_succ {k:Nat} (h:e.args[k]? =some x):isTo e (k+1)=(isTo e k||(lateE x==1)):=by
 unfold isTo;rw[take_succ_map lateE h];simp
theorem fstTo_succ {k:Nat} (h:e.args[k]? =some x):fstTo e (k+1)=(fstTo e k||((lateE x==1) && ((k:Int)==0))):=by
 unfold fstTo
 rw[take_succ_map lateE h]
 cases k with
 |zero=>simp
 |succ k=>
  have hl:0<e.args.length:=by have:=(List.getElem?_eq_some_iff.1 h).1;omega
  cases ha:e.args with
  |nil=>rw[ha] at hl;simp at hl
  |cons y l=>
   have:(((k+1:Nat):Int)==0)=false:=by rw[beq_eq_false_iff_ne];omega
   rw[this]
   simp
theorem late_stop {k:Nat} (h:e.args[k]? =some x) (h2:lateE x=2):lateE e=2:=by
 rw[lateE_eq,late1,if_pos]
 rw[←h2]
 exact List.mem_map_of_mem (List.mem_of_getElem? h)
theorem late_fin (h:∀i,i<e.args.length→∀x,e.args[i]? =some x→lateE x≠2):lateE e=if e.op=21 then (if isTo e e.args.length=true then 2 else 1) else if e.op=22∨e.op=26 then (if isTo e e.args.length=true then 2 else 0) else if e.op=23 then (if fstTo e e.args.length=true then 2 else 0) else if isTo e e.args.length=true then 1 else 0:=by
 have h1:∀y∈e.args.map lateE,y≤1:=fun y hy=>by
  obtain ⟨x,hx,rfl⟩:=List.mem_map.1 hy
  obtain ⟨i,hi⟩:=List.getElem?_of_mem hx
  have:=h i (List.getElem?_eq_some_iff.1 hi).1 x hi
  have:=lateE_le x
  omega
 rw[lateE_eq,late1,if_neg (fun g=>by have:=h1 2 g;omega),maxL_any h1]
 unfold isTo fstTo
 rw[List.take_length]
 have h4:(e.args.map lateE).headD 0≤1:=by
  cases q:e.args.map lateE with
  |nil=>simp
  |cons y l=>exact h1 y (by rw[q];simp)
 generalize (e.args.map lateE).headD 0=hd at*
 generalize (e.args.map lateE).any (·==1)=an
 have:hd=0∨hd=1:=by omega
 rcases this with rfl|rfl<;>cases an<;>simp
end
end Go.Proofs.YtdkgkacnjdnpoaaGreat.Q.Fo
namespace Go.Proofs.YtdkgkacnjdnpoaaGreat.Q
open Go.RowKit Vf Fo
attribute [local go_sem ↓] Go.wp_at_zero Go.wp_at_succ
def LateP (e:Ex) (w:World) (r:Ending) (w':World):Prop:=(∃b ok:Bool,r= .returned (.tuple #[.bool b,.bool ok])∧(ok=true↔lateE e≠2)∧(ok=true→(b=true↔lateE e=1)))∧Below w.heap.size w w'
theorem flate_any (e:Ex):∀(A:Option Addr) (cap:Nat) (w:World),ExOk e→e.args.length≤cap→cap≤maxLen→IsExs w w.heap.size A e.args→
  Calls Tryz.prog 116 #[exV e A cap] w (LateP e w):=by
 induction e using Ex.ind with
 |h e ih=>
  intro A cap w hok hcap hmax hx
  have HI:=Lib.hid ih
  have b1:Below w.heap.size w (w.alloc (.cells (exRw e A cap) 63)):=bE
  have rX:=Row.new w (exRw e A cap) 63
  have HXS:=Lib.hid (fun W (hW:Below w.heap.size w W)=>(hx.below hW).more hW.size)
  have hcm:e.args.length≤9223372036854775807:=by unfold maxLen at hmax;omega
  unfold maxLen at hmax
  clear ih hx hok
  go_enter Tryz.func116,Tryz.ntmps116
  go_upto_region 2 with (fail)
  generalize w.alloc (.cells (exRw e A cap) 63)=w1 at*
  have hXl:=rX.lt
  have hs1:=b1.size
  have HRE:=Lib.hid (fun W (hW:Below w1.heap.size w1 W)=>(rX.below hW hXl).six')
  obtain ⟨c0,c1,c2',c3,c4,c5⟩:=rX.six'
  clear rX
  go_wp2_with fail
  clear c0 c1 c2' c3 c4 c5
  go_loopw[2,4,12] (fun v2 v4 i wr=>∃k:Nat,k≤e.args.length∧i= .int .i64 k∧v2= .bool (isTo e k)∧v4= .bool (fstTo e k)∧Hid (∀i,i<k→∀x,e.args[i]? =some x→lateE x≠2)∧Hid (Below w1.heap.size w1 wr)) (fun _ _ i _=>e.args.length-(intOf i).toNat)
  case atStart=>exact ⟨0,Nat.zero_le _,rfl,rfl,rfl,(fun i hi=>absurd hi (by omega)),Below.refl _ _⟩
  case round=>
   obtain ⟨k,hk,rfl,rfl,rfl,HG,HBR⟩:=hrel
   have hb:=b1.trans (HBR.out.mono hs1)
   have hbs:=hb.size
   have hrs:=HBR.out.size
   by_cases hlt:k<e.args.length
   ·obtain ⟨b,off,x,A',cap',rfl,hbb,hxk,hxm,hok',hcap',hmax',hx',d0,d1,d2,d3,d4,d5⟩:=(HXS.out _ hb).at_ hlt
    have hk':(k:Int)<e.args.length:=by omega
    have bx:Below wr.heap.size wr (wr.alloc (.cells (exRw x A' cap') 63)):=bE
    have HC:=Lib.hid (HI.out x hxm A' cap' _ hok' hcap' hmax' ((hx'.below bx).more bx.size))
    have HS1:=Lib.hid (isTo_succ hxk)
    have HS2:=Lib.hid (fstTo_succ hxk)
    have HST:=Lib.hid (fun g=>late_stop hxk g)
    have HXK:=Lib.hid hxk
    have HB4:=Lib.hid (HBR.out.trans (bx.mono hrs))
    have HW4:=Lib.hid (hb.trans (bx.mono hbs))
    clear hxk hxm hok' hcap' hmax' hx' hb
    go_wp2_with fail
    (with_reducible refine HC.out.mono ?_)
    rintro r w6 ⟨⟨bb,ok,rfl,h1,h2⟩,hb6⟩
    have HB6:=Lib.hid (HB4.out.trans (hb6.mono HB4.out.size))
    have HW6:=Lib.hid (HW4.out.trans (hb6.mono HW4.out.size))
    clear d0 d1 d2 d3 d4 d5 HC bx hb6
    cases ok
    ·have HF:Hid (lateE e=2):=HST.out (Decidable.byContradiction fun g=>by cases h1.2 g)
     clear h1 h2
     go_wp2_with fail
     go_ret2
     exact ⟨⟨_,_,rfl,by rw[HF.out];decide,by simp⟩,HW6.out⟩
    ·have HG':Hid (∀i,i<k+1→∀x,e.args[i]? =some x→lateE x≠2):=fun i hi y hy=>by
      rcases Nat.lt_succ_iff_lt_or_eq.1 hi with hi|rfl
      ·exact HG.out i hi y hy
      ·rw[HXK.out] at hy
       injection hy with hy
       rw[←hy]
       exact h1.1 rfl
     have hbb:bb=(lateE x==1):=by rw[Bool.eq_iff_iff,beq_iff_eq];exact h2 rfl
     have H1:=Lib.hid HS1.out
     have H2:=Lib.hid HS2.out
     rw[←hbb] at H1 H2
     obtain ⟨q,hq⟩:∃q,((k:Int)==0)=q:=⟨_,rfl⟩
     rw[hq] at H2
     clear hbb h1 h2 HS1 HS2 HST
     generalize isTo e k=i0 at*
     generalize fstTo e k=f0 at*
     cases i0<;>cases f0<;>cases bb<;>cases q
     all_goals
      go_wp2_with fail
      go_roundw
      case rel=>exact ⟨k+1,by omega,by go_num,by rw[H1.out];rfl,by rw[H2.out];rfl,HG',HB6⟩
      case measure=>simp[intOf];omega
   ·obtain rfl:k=e.args.length:=by omega
    have HF:=Lib.hid (late_fin HG.out)
    obtain ⟨c0,c1,c2',c3,c4,c5⟩:=HRE.out _ HBR.out
    have HB:=Lib.hid hb
    generalize isTo e e.args.length=i0 at*
    generalize fstTo e e.args.length=f0 at*
    by_cases o21:e.op=21
    ·have o21':(e.op==21)=true:=by simp[o21]
     have HN:=Lib.hid (HF.out.trans (if_pos o21))
     clear o21 HF
     cases i0
     all_goals
      go_wp2_with fail
      go_ret2
      exact ⟨⟨_,_,rfl,by rw[HN.out];decide,by rw[HN.out];decide⟩,HB.out⟩
    have o21':(e.op==21)=false:=by simp[o21]
    have HF2:=Lib.hid (HF.out.trans (if_neg o21))
    clear o21 HF
    by_cases o22:e.op=22∨e.op=26
    ·have HN:=Lib.hid (HF2.out.trans (if_pos o22))
     have hop:(e.op==22)=true∨((e.op==22)=false∧(e.op==26)=true):=by
      rcases o22 with g|g
      ·exact .inl (by rw[g];rfl)
      ·exact .inr ⟨by rw[g];rfl,by rw[g];rfl⟩
     clear o22 HF2
     rcases hop with h22|⟨h22,h26⟩<;>cases i0
     all_goals
      go_wp2_with fail
      go_ret2
      exact ⟨⟨_,_,rfl,by rw[HN.out];decide,by rw[HN.out];decide⟩,HB.out⟩
    have o22':(e.op==22)=false:=by rw[beq_eq_false_iff_ne];omega
    have o26':(e.op==26)=false:=by rw[beq_eq_false_iff_ne];omega
    have HF3:=Lib.hid (HF2.out.trans (if_neg o22))
    clear o22 HF2
    by_cases o23:e.op=23
    ·have o23':(e.op==23)=true:=by simp[o23]
     have HN:=Lib.hid (HF3.out.trans (if_pos o23))
     clear o23 HF3
     cases f0
     all_goals
      go_wp2_with fail
      go_ret2
      exact ⟨⟨_,_,rfl,by rw[HN.out];decide,by rw[HN.out];decide⟩,HB.out⟩
    have o23':(e.op==23)=false:=by simp[o23]
    have HN:=Lib.hid (HF3.out.trans (if_neg o23))
    clear o23 HF3
    cases i0
    all_goals
     go_wp2_with fail
     go_ret2
     exact ⟨⟨_,_,rfl,by rw[HN.out];decide,by rw[HN.out];decide⟩,HB.out⟩
theorem fports_any {w:World} {B D:Nat} {f:Fl} {vw vd vi vo vb:Value} (h:FkAt w B D f vw vd vi vo vb) (l:List Int) (v:Value) (hv:SlV w B 1 isInt v l):
  Calls Tryz.prog 66 #[.pointer (some ⟨D,0,none⟩),v] w fun e w'=>e= .returned (.bool (cB (portsOk f.fm l)))∧w=w':=by
 obtain ⟨Av,cv,rfl,lv,mv,sv⟩:=hv
 have mv':cv≤9223372036854775807:=by unfold maxLen at mv;omega
 have HFK:=Lib.hid h
 have q0:=h.row.cell 0
 have HSV:=Lib.hid sv
 clear h sv
 go_enter Tryz.func66,Tryz.ntmps66
 go_wp2_with fail
 go_loopw[9] (fun i wr=>∃k:Nat,k≤l.length∧i= .int .i64 k∧Hid (∀j,j<k→∀n,l[j]? =some n→portAt f.fm n)∧w=wr) (fun i _=>l.length-(intOf i).toNat)
 case atStart=>exact ⟨0,Nat.zero_le _,rfl,(fun j h=>absurd h (by omega)),rfl⟩
 case round=>
  obtain ⟨k,hk,rfl,HN,rfl⟩:=hrel
  by_cases hlt:k<l.length
  ·obtain ⟨b,off,n,rfl,hbb,hn,wn,d⟩:=HSV.out.int hlt
   have HK:=Lib.hid hn
   clear hn
   have HC:=Lib.hid (fis_any HFK.out n)
   by_cases hw:isW f.fm n
   ·rw[cB_true hw] at HC
    obtain ⟨m,b',off',cw,Ag,cg,hnm,hm,hvw,lw,mw,hbB,d0,d1,lg,mg,sg⟩:=fl_wire HFK.out.fl hw
    subst hvw
    have hm':(m:Int)<f.wires.length:=by omega
    have HPA:Hid (portAt f.fm n↔(clockOf f.fm n).length=0):=⟨fun g=>by rw[g.2];rfl,fun g=>⟨hw,List.eq_nil_of_length_eq_zero g⟩⟩
    subst hnm
    clear hw sg
    generalize (clockOf f.fm m).length=L at*
    by_cases hg:0<L
    ·have HF:=Lib.hid (cB_false (ports_no (f:=f.fm) HK.out (fun g=>by have:=HPA.out.1 g;omega)))
     have hg':decide ((0:Int)<(L:Int))=true:=by simp;omega
     refine' zq69
     rintro e w' ⟨rfl,rfl⟩
     go_wp2_with fail
     go_ret
     exact ⟨ret_bool HF.out.symm,rfl⟩
    ·have HN':=Lib.hid (upto_succ HN.out (fun n' hn'=>by rw[HK.out] at hn';injection hn' with hn';rw[←hn'];exact HPA.out.2 (by omega)))
     have hg':decide ((0:Int)<(L:Int))=false:=by simp;omega
     refine' zq69
     rintro e w' ⟨rfl,rfl⟩
     go_wp2_with fail
     go_roundw
     case rel=>exact ⟨k+1,by omega,by go_num,HN'.out,trivial⟩
     case measure=>simp[intOf];omega
   ·rw[cB_false hw] at HC
    have HF:=Lib.hid (cB_false (ports_no (f:=f.fm) HK.out (fun g=>hw g.1)))
    clear hw
    refine' zq69
    rintro e w' ⟨rfl,rfl⟩
    go_wp2_with fail
    go_ret
    exact ⟨ret_bool HF.out.symm,rfl⟩
  ·obtain rfl:k=l.length:=by omega
   have HF:=Lib.hid (cB_congr (ports_yes HN.out))
   go_wp2_with fail
   all_goals
    go_ret
    refine ⟨ret_bool ?_,rfl⟩
    rw[HF.out,Bool.eq_iff_iff,cB_iff]
    simp
    try omega
theorem fwires_no {f:Fl} {k:Nat} {x:Wr} (h:f.wires[k]? =some x) (hn:¬wireOk f.fm x):¬wiresOkL f:=fun g=>hn (g.1 x (List.mem_of_getElem? h))
theorem fwires_yes {f:Fl} (h:∀j,j<f.wires.length→∀x,f.wires[j]? =some x→wireOk f.fm x):wiresOkL f↔1≤f.wires.length∧f.wires.length≤400:=by
 refine ⟨fun g=>g.2,fun g=>⟨fun x hx=>?_,g⟩⟩
 obtain ⟨j,hj⟩:=List.getElem?_of_mem hx
 exact h j (List.getElem?_eq_some_iff.1 hj).1 x hj
theorem fwires_any {w:World} {B D:Nat} {f:Fl} {vw vd vi vo vb:Value} (h:FkAt w B D f vw vd vi vo vb):
  Calls Tryz.prog 65 #[.pointer (some ⟨D,0,none⟩)] w fun e w'=>e= .returned (.bool (cB (wiresOkL f)))∧Below w.heap.size w w':=by
 obtain ⟨Aw,cw,rfl,lw,mw,sw⟩:=h.fl.wires
 have mw':cw≤9223372036854775807:=by unfold maxLen at mw;omega
 have HFK:=Lib.hid (fun W (hW:Below w.heap.size w W)=>h.below hW)
 have hBD:B≤D:=h.lo
 have hDl:D<w.heap.size:=h.row.lt
 have HW:Hid (∀W,Below w.heap.size w W→Sl W B 2 (isWr W B) Aw f.wires):=fun W hW=>by
  obtain ⟨A',c',he,_,_,s'⟩:=(h.below hW).fl.wires
  injection he with he1
  subst he1
  exact s'
 have HR:Hid (∀W,Below w.heap.size w W→W.cell? ⟨D,0,none⟩=some (.slice Aw f.wires.length cw)):=fun W hW=>(h.below hW).row.cell 0
 have c0:=HR.out w (Below.refl _ _)
 clear h sw
 go_enter Tryz.func65,Tryz.ntmps65
 go_wp2_with fail
 clear c0
 go_loopw[13] (fun i wr=>∃k:Nat,k≤f.wires.length∧i= .int .i64 k∧Hid (∀j,j<k→∀x,f.wires[j]? =some x→wireOk f.fm x)∧Below w.heap.size w wr) (fun i _=>f.wires.length-(intOf i).toNat)
 case atStart=>exact ⟨0,Nat.zero_le _,rfl,fun j h=>absurd h (by omega),Below.refl _ _⟩
 case round=>
  obtain ⟨k,hk,rfl,HN,hb⟩:=hrel
  have hsb:=hb.size
  by_cases hlt:k<f.wires.length
  rotate_left 1
  ·obtain rfl:k=f.wires.length:=by omega
   have c0:=HR.out wr hb
   have HF:=Lib.hid (cB_congr (fwires_yes HN.out))
   go_wp2_with fail
   all_goals
    go_ret
    refine ⟨ret_bool ?_,hb⟩
    rw[HF.out,Bool.eq_iff_iff,cB_iff]
    simp
    try omega
  obtain ⟨b,off,x,Ag,cg,hAw,hbB,hx,wx,d0,d1,lg,mg,sg⟩:=(HW.out wr hb).wr hlt
  subst hAw
  have HX:=Lib.hid hx
  clear hx
  have mg':cg≤9223372036854775807:=by unfold maxLen at mg;omega
  have HG:Hid (∀W,Below wr.heap.size wr W→Sl W B 2 isGd Ag x.clock):=fun W hW=>sg.below (hW.mono (by omega))
  have r1:=Row.new wr #[.int .i64 x.ty,.slice Ag x.clock.length cg] 141
  have ba:Below wr.heap.size wr (wr.alloc (.cells #[.int .i64 x.ty,.slice Ag x.clock.length cg] 141)):=bE
  clear sg
  go_upto_region 4 with (fail)
  clear d0 d1
  generalize hW1:wr.alloc (.cells #[.int .i64 x.ty,.slice Ag x.clock.length cg] 141)=w1 at*
  clear hW1
  have hs1:=ba.size
  have hB1:=hb.trans (ba.mono hsb)
  have hsB1:=hB1.size
  obtain ⟨c0,c1⟩:=r1.two'
  by_cases ht:x.ty=1∨x.ty=2
  rotate_left 1
  ·have t1:(x.ty !=1)=true:=by rw[bne_iff_ne];omega
   have t2:(x.ty !=2)=true:=by rw[bne_iff_ne];omega
   have HF:=Lib.hid (cB_false (fwires_no HX.out (fun g=>ht g.1)))
   clear ht
   go_wp2_with fail
   go_ret
   exact ⟨ret_bool HF.out.symm,hB1⟩
  have HTO:=Lib.hid ht
  have hts:(x.ty !=1)=false∨((x.ty !=1)=true∧(x.ty !=2)=false):=by
   rcases ht with g|g
   ·exact .inl (by rw[g];rfl)
   ·exact .inr ⟨by rw[g];rfl,by rw[g];rfl⟩
  clear ht
  go_cut[24] (fun v W=>v= .bool false∧W=w1)
  case first=>
   rcases hts with g|⟨g,g'⟩
   all_goals
    go_wp2_with fail
    go_meet
    exact ⟨rfl,rfl⟩
  case rest=>
  obtain ⟨rfl,hwc⟩:=hcut
  subst hwc
  go_wp2_with fail
  clear c0 c1 hts
  refine' zq97
  go_loopw[28] (fun i w2=>∃m:Nat,m≤x.clock.length∧i= .int .i64 m∧Hid (∀j,j<m→∀g,x.clock[j]? =some g→gdOk f.fm x j g)∧Below wc.heap.size wc w2) (fun i _=>x.clock.length-(intOf i).toNat)
  case atStart=>exact ⟨0,Nat.zero_le _,rfl,fun j h=>absurd h (by omega),Below.refl _ _⟩
  case round=>
   obtain ⟨m,hm,rfl,HM,hb2⟩:=hrel
   obtain ⟨w2,rfl⟩:∃w2:World,w2=wr:=⟨_,rfl⟩
   have hs2:=hb2.size
   have hB2:=hB1.trans (hb2.mono hsB1)
   by_cases hml:m<x.clock.length
   rotate_left 1
   ·obtain rfl:m=x.clock.length:=by omega
    have HN':=Lib.hid (upto_succ HN.out (fun y hy=>by rw[HX.out] at hy;injection hy with hy;rw[←hy];exact (⟨HTO.out,fun i g hg=>HM.out i (List.getElem?_eq_some_iff.1 hg).1 g hg⟩:wireOk f.fm x)))
    go_wp2_with fail
    go_roundw
    case rel=>exact ⟨k+1,by omega,by go_num,HN',hB2⟩
    case measure=>simp[intOf];omega
   obtain ⟨bg,og,⟨gw,gno⟩,hAg,hbg,hg,wg,e0,e1⟩:=(HG.out w2 (ba.trans (hb2.mono hs1))).gd hml
   subst hAg
   have HGG:=Lib.hid hg
   clear hg
   dsimp only at wg e0 e1
   have rg:=Row.new w2 #[.int .i64 gw,.bool gno] 152
   have bb:Below w2.heap.size w2 (w2.alloc (.cells #[.int .i64 gw,.bool gno] 152)):=bE
   go_upto_region 9 with (fail)
   clear e0 e1
   generalize hW3:w2.alloc (.cells #[.int .i64 gw,.bool gno] 152)=w3 at*
   clear hW3
   have hs3:=bb.size
   have hB3:=hB2.trans (bb.mono (by omega))
   have hsB3:=hB3.size
   have r3:=r1.below (hb2.trans (bb.mono hs2)) r1.lt
   have hl3:w2.heap.size<w3.heap.size:=rg.lt
   have hl1:wo.heap.size<w3.heap.size:=r3.lt
   have HS:Hid (∀W,Below w3.heap.size w3 W→W.cell? ⟨D,0,none⟩=some (.slice (some ⟨b,off,none⟩) f.wires.length cw)∧W.cell? ⟨w2.heap.size,0,none⟩=some (.int .i64 gw)∧W.cell? ⟨wo.heap.size,1,none⟩=some (.slice (some ⟨bg,og,none⟩) x.clock.length cg)):=fun W hW=>⟨HR.out W (hB3.trans (hW.mono hsB3)),(rg.below hW hl3).two'.1,(r3.below hW hl1).two'.2⟩
   have HI:Hid (∀W V,Below w3.heap.size w3 W→cB (isW f.fm gw)=V→Calls Tryz.prog 108 #[.pointer (some ⟨D,0,none⟩),.int .i64 gw] W fun e w'=>e= .returned (.bool V)∧W=w'):=fun W V hW hV=>by
    have:=fis_any (HFK.out W (hB3.trans (hW.mono hsB3))) gw
    rw[hV] at this
    exact this
   by_cases hw:isW f.fm gw
   rotate_left 1
   ·have hV:=Lib.hid (cB_false hw)
    have HF:=Lib.hid (cB_false (fwires_no HX.out (wire_no HGG.out (fun q=>hw q.1))))
    clear hw
    refine wp_region_held_drew (S:=fun W=>W.cell? ⟨w2.heap.size,0,none⟩=some (.int .i64 gw)) (by kernel_rfl) ?_ (fun hHeld=>?_)
    ·(try dsimp only);(first|(with_reducible exact (HS.out _ bE).2.1)|go_keep)
    refine tk 0 (some 33) rfl ?_
    refine tk 1 (some 34) rfl ?_
    refine tk 2 (some 35) rfl ?_
    refine rd1 3 (some 36) rfl (fun KK hKK=>?_)
    go_simp
    go_at_call 108;refine Calls.mono (HI.out _ _ bE hV.out) ?_;rintro e w5 ⟨rfl,rfl⟩
    (try go_wp2_with fail)
    refine hKK.out _ _ ?_ (fun hHeld=>?_)
    ·(try dsimp only);(first|(with_reducible exact (HS.out _ bE).2.1)|go_keep)
    clear hKK KK
    refine' zq1
    refine tk 4 (some 37) rfl ?_
    refine tk 5 (some 38) rfl ?_
    refine sk 6 (some 39) rfl ?_
    refine sk 7 (some 40) rfl ?_
    refine sk 8 (some 41) rfl ?_
    refine sk 9 (some 42) rfl ?_
    refine sk 10 (some 43) rfl ?_
    refine sk 11 (some 44) rfl ?_
    refine sk 12 (some 45) rfl ?_
    refine sk 13 (some 46) rfl ?_
    refine sk 14 (some 47) rfl ?_
    refine sk 15 (some 48) rfl ?_
    refine sk 16 (some 49) rfl ?_
    refine' zq42
   have hV:=Lib.hid (cB_true hw)
   obtain ⟨n,hn⟩:=Int.eq_ofNat_of_zero_le hw.1
   have hw1:0≤gw:=hw.1
   have hw2:gw<f.wires.length:=hw.2
   subst hn
   have hwn:n<f.wires.length:=by omega
   obtain ⟨by_,oy,y,Ay,cy,hAy,hby,hy,wy,y0,y1,ly,my,sy⟩:=(HW.out w3 hB3).wr hwn
   injection hAy with hAy
   injection hAy with h1 h2
   subst h1;subst h2
   have HY:Hid (tyOf f.fm n=y.ty∧clockOf f.fm n=y.clock):=by
    show _∧_
    unfold tyOf clockOf
    rw[show wAt f.fm (n:Int)=y from wAt_some hy]
    exact ⟨rfl,rfl⟩
   clear hy
   have my':cy≤9223372036854775807:=by unfold maxLen at my;omega
   have HSY:Hid (∀W,Below w3.heap.size w3 W→W.cell? ⟨D,0,none⟩=some (.slice (some ⟨b,off,none⟩) f.wires.length cw)∧W.cell? ⟨w2.heap.size,0,none⟩=some (.int .i64 (n:Int))∧W.cell? ⟨wo.heap.size,1,none⟩=some (.slice (some ⟨bg,og,none⟩) x.clock.length cg)∧W.cell? ⟨b,off+n*2,none⟩=some (.int .i64 y.ty)∧W.cell? ⟨b,off+n*2+1,none⟩=some (.slice Ay y.clock.length cy)):=fun W hW=>⟨(HS.out W hW).1,(HS.out W hW).2.1,(HS.out W hW).2.2,cell_kept y0 hW,cell_kept y1 hW⟩
   by_cases ht:y.ty=2
   rotate_left 1
   ·have ht':(y.ty !=2)=true:=by simp[ht]
    have HF:=Lib.hid (cB_false (fwires_no HX.out (wire_no HGG.out (fun q=>ht (by rw[←HY.out.1];exact q.2.1)))))
    clear ht hw y0 y1
    refine' zq44
    go_at_call 108;refine Calls.mono (HI.out _ _ bE hV.out) ?_;rintro e w5 ⟨rfl,rfl⟩
    refine' zq56
    refine' zq42
   have ht':(y.ty !=2)=false:=by simp[ht]
   have HTY:=Lib.hid ht
   have HE:Hid (∀W V,Below w3.heap.size w3 W→cB (y.clock=x.clock.take m)=V→Calls Tryz.prog 109 #[.slice Ay y.clock.length cy,.slice (some ⟨bg,og,none⟩) m cg] W fun e w'=>e= .returned (.bool V)∧∃n,w'=W.drewN n):=fun W V hW hV=>by
    have:=eqGuards_any y.clock (x.clock.take m) (.slice Ay y.clock.length cy) (.slice (some ⟨bg,og,none⟩) m cg) B W ⟨_,_,rfl,ly,my,sy.below (hW.mono (by omega))⟩ (slv_take (HG.out W (ba.trans ((hb2.trans ((bb.trans (hW.mono hs3)).mono hs2)).mono hs1))) lg mg (by omega))
    rw[hV] at this
    exact this
   have hW:=Lib.hid hw
   have hmc:m≤cg:=by omega
   clear ht hw y0 y1
   obtain ⟨V2,hV2⟩:∃V2,cB (y.clock=x.clock.take m)=V2:=⟨_,rfl⟩
   have HV2:=Lib.hid hV2
   clear hV2
   have h9:Below wc.heap.size wc w3:=hb2.trans (bb.mono hs2)
   have h99:=h9.size
   go_cut[68] (fun v W=>v= .bool (!V2)∧Below w3.heap.size w3 W)
   case first=>
    refine' zq44
    (go_at_call 108;refine Calls.mono (HI.out _ _ bE hV.out) ?_;rintro e w5 ⟨rfl,rfl⟩)
    refine' zq56
    refine tk 17 (some 50) rfl ?_
    refine tk 18 (some 51) rfl ?_
    refine tk 19 (some 52) rfl ?_
    refine tk 20 (some 53) rfl ?_
    refine tk 21 (some 54) rfl ?_
    refine tk 22 (some 55) rfl ?_
    refine tk 23 (some 56) rfl ?_
    refine tk 24 (some 57) rfl ?_
    refine tk 25 (some 58) rfl ?_
    refine tk 26 (some 59) rfl ?_
    refine tk 27 (some 60) rfl ?_
    refine tk 28 (some 61) rfl ?_
    refine tk 29 (some 62) rfl ?_
    refine tk 30 (some 63) rfl ?_
    refine tk 31 (some 64) rfl ?_
    refine tk 32 (some 65) rfl ?_
    refine rd1 33 (some 66) rfl (fun KK hKK=>?_)
    go_simp
    (go_at_call 109;refine Calls.mono (HE.out _ _ ?hbb HV2.out) ?_;(case hbb=>exact bE);rintro e w6 ⟨rfl,q,rfl⟩)
    (try go_wp2_with fail)
    refine hKK.out _ _ ?_ (fun hHeld=>?_)
    ·(try dsimp only);(first|(with_reducible exact HSY.out _ bE)|go_keep)
    clear hKK KK
    refine' zq1
    refine tk 34 (some 67) rfl ?_
    refine tk 35 (some 68) rfl ?_
    refine' zq67
    go_meet
    exact ⟨rfl,bE⟩
   case rest=>
   obtain ⟨rfl,hbd⟩:=hcut
   have HBD:=Lib.hid (h9.trans (hbd.mono h99))
   have HBW:=Lib.hid (hB3.trans (hbd.mono hsB3))
   cases V2
   ·have hc:¬y.clock=x.clock.take m:=fun q=>by have h:=HV2.out;rw[cB_true q] at h;cases h
    have HF:=Lib.hid (cB_false (fwires_no HX.out (wire_no HGG.out (fun q=>hc (HY.out.2.symm.trans q.2.2)))))
    clear hc
    go_wp2_with fail
    go_ret
    exact ⟨ret_bool HF.out.symm,HBW.out⟩
   ·have hc:=cB_iff.1 HV2.out
    have HM':=Lib.hid (upto_succ HM.out (fun g' hg'=>by rw[HGG.out] at hg';injection hg' with hg';rw[←hg'];exact (⟨hW.out,HY.out.1.trans HTY.out,HY.out.2.trans hc⟩:gdOk f.fm x m ⟨n,gno⟩)))
    clear hc
    go_wp2_with fail
    go_roundw
    case rel=>exact ⟨m+1,by omega,by go_num,HM',HBD.out⟩
    case measure=>simp[intOf];omega
section
variable {w w':World} {B L:Nat} {f:Fm} {vw va vc vk vi vo vb ve:Value}
theorem _root_.Go.Proofs.YtdkgkacnjdnpoaaGreat.Upd.trans_new {X Y:Nat→Prop} {a w w':World} (h:Upd X a w) (k:Upd Y w w') (hY:∀i,i<a.heap.size→Y i→X i):Upd X a w':=
 ⟨k.os.trans h.os,k.tape.trans h.tape,k.output.trans h.output,Nat.le_trans h.size k.size,fun i hi hX=>(k.block i (Nat.lt_of_lt_of_le hi h.size) (fun g=>hX (hY i hi g))).trans (h.block i hi hX)⟩
theorem ks_cell {W:World} {K m:Nat} {ks:List Int} {t:TypeId} (h:Row W K (ints ks).toArray t) (hm:m<ks.length):W.cell? ⟨K,m,none⟩=some (.int .i64 (getI ks m)):=by
 refine (h.cell m).trans ?_
 rw[List.getElem?_toArray,ints,List.getElem?_map,List.getElem?_eq_getElem hm]
 simp[getI,List.getD_eq_getElem?_getD,List.getElem?_eq_getElem hm]
theorem ks_set {W:World} {K m:Nat} {ks:List Int} {t:TypeId} (h:Row W K (ints ks).toArray t) (v:Int):Row (W.setCell ⟨K,m,none⟩ (.int .i64 v)) K (ints (ks.set m v)).toArray t:=by
 have:=h.set m (.int .i64 v)
 rw[List.setIfInBounds_toArray] at this
 rw[ints,List.map_set]
 exact this
end
theorem split_at {α:Type} {l:List α} {k:Nat} {x:α} (h:l[k]? =some x):l=l.take k++x::l.drop (k+1):=by
 obtain ⟨hk,rfl⟩:=List.getElem?_eq_some_iff.1 h
 rw[List.getElem_cons_drop hk,List.take_append_drop]
theorem def_no_in {f:Fm} {bs:List Int} {k:Nat} {n:Int} (h:DefSt f (f.ins.take k) bs) (hk:f.ins[k]? =some n) (hn:isW f n) (hf:getI bs n≠-1):¬definedOk f:=by
 refine def_no (r:=f.ins.drop (k+1)++f.acts.map (·.dst)) h hn ?_ hf
 have:=split_at hk
 unfold dsts
 conv=>lhs;rw[this]
 simp
theorem def_no_act {f:Fm} {bs:List Int} {k:Nat} {x:Ac} (h:DefSt f (dsts f (f.acts.take k)) bs) (hk:f.acts[k]? =some x) (hn:isW f x.dst) (hf:getI bs x.dst≠-1):¬definedOk f:=by
 refine def_no (r:=(f.acts.drop (k+1)).map (·.dst)) h hn ?_ hf
 have:=split_at hk
 unfold dsts
 conv=>lhs;rw[this]
 simp
theorem def_no_w {f:Fm} {k:Nat} {x:Ac} (hk:f.acts[k]? =some x) (hn:¬isW f x.dst):¬definedOk f:=fun g=>hn (g.2.1 x (List.mem_of_getElem? hk)).1
theorem dsts_snoc {f:Fm} {k:Nat} {x:Ac} (hk:f.acts[k]? =some x):dsts f (f.acts.take (k+1))=dsts f (f.acts.take k)++ [x.dst]:=by
 unfold dsts
 rw[take_snoc' hk]
 simp
theorem dsts_zero (f:Fm):dsts f (f.acts.take 0)=f.ins:=by simp[dsts]
end Go.Proofs.YtdkgkacnjdnpoaaGreat.Q
