/-
  The type of an expression: the contract of types' of.
-/
import Derived.Test.YtdkgkacnjdnpoaaGreatZz
import Derived.Test.YtdkgkacnjdnpoaaGreatTyC
set_option maxHeartbeats 4000000
set_option maxRecDepth 100000
namespace Go.Proofs.YtdkgkacnjdnpoaaGreat
open Go.RowKit
attribute [local go_sem ↓] Go.wp_at_zero Go.wp_at_succ
section
variable {s:List Nd} {n:Nd} {e:Ex} {l:List Int}
theorem op_1 (h:e.op=1):opF s n e l=ft0∧opTy s n e l=1:=by simp[opF,opTy,signB,h]
theorem op_2 (h:e.op=2):opF s n e l=ft0∧opTy s n e l=2:=by simp[opF,opTy,signB,h]
theorem op_3 (h:e.op=3):opF s n e l=ft0∧opTy s n e l=tyOf n e.name:=by simp[opF,opTy,signB,h]
theorem op_4 {m:Nd} (h:e.op=4) (hm:nodeAt s e.name=some m):opF s n e l=fstl (callFs m e l)∧opTy s n e l=outTy m:=by simp[opF,opTy,h,hm]
theorem op_21 (h:e.op=21):opF s n e l=ft0∧opTy s n e l=l.getD 0 0:=by simp[opF,opTy,signB,h]
theorem op_24 (h:e.op=24∨e.op=25):opF s n e l=needF (tyOf n e.name==2) e.line e.col∧opTy s n e l=l.getD 0 0:=by
 rcases h with h|h<;>simp[opF,opTy,signB,h]
theorem op_26 (h:e.op=26):opF s n e l=ft2 (needF (tyOf n e.name==2) e.line e.col) (needF (l.getD 0 0==l.getD 1 0) e.line e.col)∧opTy s n e l=l.getD 0 0:=by simp[opF,opTy,signB,h]
theorem op_22 (h:e.op=22∨e.op=23):opF s n e l=needF (l.getD 0 0==l.getD 1 0) e.line e.col∧opTy s n e l=l.getD 0 0:=by
 rcases h with h|h<;>simp[opF,opTy,signB,h]
theorem op_27 (h:e.op=27):opF s n e l=ft2 (needF (l.getD 0 0==2) (argL e 0) (argC e 0)) (needF (l.getD 1 0==l.getD 2 0) e.line e.col)∧opTy s n e l=l.getD 1 0:=by simp[opF,opTy,signB,h]
theorem op_sign (h:5≤e.op∧e.op≤20):opF s n e l=ft2 (fstl (sameArgs e.op e l)) (needF (signIn e.op !=0||l.getD 0 0==l.getD (l.length-1) 0) e.line e.col)∧opTy s n e l=signOut e.op:=by
 have hs:signB e.op=true:=by simp[signB,h]
 unfold opF opTy
 rw[if_neg (by omega),if_pos hs,if_neg (by omega),if_neg (by omega),if_neg (by omega),if_pos hs]
 exact ⟨rfl,rfl⟩
end
abbrev vrZ:Array Value:= #[.string ⟨#[]⟩,.int .i64 0,.slice none 0 0,.int .i64 0,.int .i64 0]
theorem upd_cell {g:Nat} {w w':World} (hu:UpdM g w w') {p:Addr} {u:Value} (h:w.cell? p=some u) (hne:p.block≠g):w'.cell? p=some u:=(Upd.cellk hu (block_lt_of_cell h) hne).trans h
theorem ft2_l (x:Ft):ft2 ft0 x=x:=ft2_0 rfl
theorem len_1 {l:List Int} (h:l.length=1):∃a,l=[a]:=by
 match l,h with
 | [a],_=>exact ⟨a,rfl⟩
theorem len_2 {l:List Int} (h:l.length=2):∃a b,l=[a,b]:=by
 match l,h with
 | [a,b],_=>exact ⟨a,b,rfl⟩
theorem len_3 {l:List Int} (h:l.length=3):∃a b c,l=[a,b,c]:=by
 match l,h with
 | [a,b,c],_=>exact ⟨a,b,c,rfl⟩
theorem ints_rdn {base g:Nat} {w:World} {v:Value} {l:List Int} {n:Nat} (h:IntsO base w v l) (hb:g<base) (hn:l.length=n) (h1:1≤n):∃q c,v= .slice (some ⟨q,0,none⟩) n c∧n≤c∧c≤9223372036854775807∧IntR w g q l:=by
 subst hn
 obtain ⟨q,c,h1,h2,h3,h4⟩:=ints_rd h hb h1
 exact ⟨q,c,h1,h2,by unfold maxLen at h3;omega,h4⟩
theorem ops_all {op:Int} (h:1≤op∧op≤27):op=1∨op=2∨op=3∨op=4∨(5≤op∧op≤20)∨op=21∨(op=22∨op=23)∨(op=24∨op=25)∨op=26∨op=27:=by omega
set_option linter.unusedSimpArgs false in
theorem of_1 (T:Tp) (B g:Nat) (e:Ex) (HI:∀x∈e.args,OfC B g T x) (o:e.op=1):OfC B g T e:=by
 refine' zq0
 have o1:=eq_yes o
 have HO:=Lib.hid (op_1 (s:=T.s) (n:=T.n) (l:=l) o)
 clear o
 refine' zq166
set_option linter.unusedSimpArgs false in
theorem of_2 (T:Tp) (B g:Nat) (e:Ex) (HI:∀x∈e.args,OfC B g T x) (o:e.op=2):OfC B g T e:=by
 refine' zq0
 have o1:(e.op==1)=false:=eq_no (by omega)
 have o2:=eq_yes o
 have HO:=Lib.hid (op_2 (s:=T.s) (n:=T.n) (l:=l) o)
 clear o
 refine' zq166
set_option linter.unusedSimpArgs false in
theorem of_3 (T:Tp) (B g:Nat) (e:Ex) (HI:∀x∈e.args,OfC B g T x) (o:e.op=3):OfC B g T e:=by
 refine' zq0
 have o1:(e.op==1)=false:=eq_no (by omega)
 have o2:(e.op==2)=false:=eq_no (by omega)
 have o3:=eq_yes o
 have HO:=Lib.hid (op_3 (s:=T.s) (n:=T.n) (l:=l) o)
 obtain ⟨⟨t0,t1,t2,t3,t4,t5,t6,t7⟩,-⟩:=HT2.out.row.tp
 clear o
 have HVC:Hid (∀W,Below w2.heap.size w2 W→Calls Tryz.prog 43 #[ndV T.n T.a,.string e.name] W fun r w'=>(∃(x:Vr) (A':Option Addr) (cap':Nat) (bv:Bool),r= .returned (.tuple #[vrV x A' cap',.bool bv])∧Hid (x.ty=tyOf T.n e.name))∧Below W.heap.size W w'):=fun W hW=>by
  refine (svar1_any T.n T.a e.name W (HT2.out.bel hW).ndw HT2.out.hl).mono ?_
  rintro r w' ⟨⟨x,A',cap',rfl,HY,HNo⟩,hb⟩
  refine ⟨⟨x,A',cap',_,rfl,?_⟩,hb⟩
  show _=_
  by_cases hm:e.name∈nms (vrs T.n)
  ·obtain ⟨k,h1,h2,_⟩:=HY.out hm
   exact (ty_at h1 h2).symm
  ·obtain ⟨rfl,_,_⟩:=HNo.out hm
   rw[ty_no hm]
 go_upto_region 18 with (fail)
 have HK:Hid (∀W,Below w2.heap.size w2 W→(W.cell? ⟨g,1,none⟩=some (.string T.n.name)∧W.cell? ⟨g,2,none⟩=some (.slice T.a.ai T.n.ins.length T.a.ci)∧W.cell? ⟨g,3,none⟩=some (.slice T.a.ao T.n.outs.length T.a.co)∧W.cell? ⟨g,4,none⟩=some (.slice T.a.av T.n.vars.length T.a.cv)∧W.cell? ⟨g,5,none⟩=some (.slice T.a.aq T.n.eqs.length T.a.cq)∧W.cell? ⟨g,6,none⟩=some (.int .i64 T.n.line)∧W.cell? ⟨g,7,none⟩=some (.int .i64 T.n.col))∧W.cell? ⟨w.heap.size,1,none⟩=some (.string e.name)):=fun W hW=>⟨⟨old_cell hW t1,old_cell hW t2,old_cell hW t3,old_cell hW t4,old_cell hW t5,old_cell hW t6,old_cell hW t7⟩,old_cell hW x1⟩
 go_cut[6] (fun v6 W=>∃(gv:Nat) (x:Vr) (A':Option Addr) (cap':Nat),v6= .pointer (some ⟨gv,0,none⟩)∧Row W gv (vrArr x A' cap') 103∧Hid (x.ty=tyOf T.n e.name)∧Below w2.heap.size w2 W)
 case first=>
  go_region_held3 (fun W=>(W.cell? ⟨g,1,none⟩=some (.string T.n.name)∧W.cell? ⟨g,2,none⟩=some (.slice T.a.ai T.n.ins.length T.a.ci)∧W.cell? ⟨g,3,none⟩=some (.slice T.a.ao T.n.outs.length T.a.co)∧W.cell? ⟨g,4,none⟩=some (.slice T.a.av T.n.vars.length T.a.cv)∧W.cell? ⟨g,5,none⟩=some (.slice T.a.aq T.n.eqs.length T.a.cq)∧W.cell? ⟨g,6,none⟩=some (.int .i64 T.n.line)∧W.cell? ⟨g,7,none⟩=some (.int .i64 T.n.col))∧W.cell? ⟨w.heap.size,1,none⟩=some (.string e.name)) (first|(with_reducible exact HK.out _ (by repeat (first|(with_reducible assumption)|(with_reducible exact Below.refl _ _)|(with_reducible refine Below.drew ?_)|(with_reducible refine below_drewN' ?_ _)|(with_reducible refine Below.alloc ?_ (by first|assumption|omega|(simp;omega)|simp|(simp[World.setCell];omega)|simp[World.setCell]) _)|(with_reducible refine Below.setCell ?_ (by first|assumption|omega|(simp;omega)|simp|(simp[World.setCell];omega)|simp[World.setCell]) _))))|go_keep)
   (first|((go_at_call 43);(refine (HVC.out _ (by repeat (first|(with_reducible assumption)|(with_reducible exact Below.refl _ _)|(with_reducible refine Below.drew ?_)|(with_reducible refine below_drewN' ?_ _)|(with_reducible refine Below.alloc ?_ (by first|assumption|omega|(simp;omega)|simp|(simp[World.setCell];omega)|simp[World.setCell]) _)|(with_reducible refine Below.setCell ?_ (by first|assumption|omega|(simp;omega)|simp|(simp[World.setCell];omega)|simp[World.setCell]) _)))).mono ?_);rintro e w3 ⟨⟨x,A',cap',bv,rfl,HXT⟩,hb3⟩;(try (have r5:Row w3 w2.heap.size vrZ 103:=(by first|(with_reducible exact Row.below (Row.drew (Row.new w2 vrZ 103)) hb3 (by simp))|(with_reducible exact Row.below (Row.new w2.drew vrZ 103) hb3 (by simp)));obtain ⟨⟨x0,x1,x2,x3,x4⟩,g0,g1,g2,g3,g4⟩:=r5.five));(have hb4:Below w2.heap.size w2 w3:=Below.trans (by repeat (first|(with_reducible assumption)|(with_reducible exact Below.refl _ _)|(with_reducible refine Below.drew ?_)|(with_reducible refine below_drewN' ?_ _)|(with_reducible refine Below.alloc ?_ (by first|assumption|omega|(simp;omega)|simp|(simp[World.setCell];omega)|simp[World.setCell]) _)|(with_reducible refine Below.setCell ?_ (by first|assumption|omega|(simp;omega)|simp|(simp[World.setCell];omega)|simp[World.setCell]) _))) (hb3.mono (by first|exact Nat.le_refl _|simp|(simp;omega)|omega)));(have hs4:=hb4.size)))
  all_goals
   go_wp2_with fail
   go_meet
   exact ⟨_,x,A',cap',rfl,by first|(with_reducible exact Row.new _ _ _)|(with_reducible exact r5.set5 _ _ _ _ _),HXT,(by repeat (first|(with_reducible assumption)|(with_reducible exact Below.refl _ _)|(with_reducible refine Below.drew ?_)|(with_reducible refine below_drewN' ?_ _)|(with_reducible refine Below.alloc ?_ (by first|assumption|omega|(simp;omega)|simp|(simp[World.setCell];omega)|simp[World.setCell]) _)|(with_reducible refine Below.setCell ?_ (by first|assumption|omega|(simp;omega)|simp|(simp[World.setCell];omega)|simp[World.setCell]) _)))⟩
 case rest=>
  obtain ⟨gv,x,A',cap',rfl,rv,HXT,hbc⟩:=hcut
  obtain ⟨z0,z1,z2,z3,z4⟩:=rv.vr
  have HT3:=Lib.hid (HT2.out.bel hbc)
  go_wp2_with fail
  go_ret
  exact HFIN.out _ _ (by rw[HO.out.1];exact HT3.out) (Upd.trans HU2.out (UpdM.of hbc)) (HXT.out.trans HO.out.2.symm)
set_option linter.unusedSimpArgs false in
theorem of_21 (T:Tp) (B g:Nat) (e:Ex) (HI:∀x∈e.args,OfC B g T x) (o:e.op=21):OfC B g T e:=by
 refine' zq111
 have o4:(e.op==4)=false:=eq_no (by omega)
 have o21:=eq_yes o
 have HO:=Lib.hid (op_21 (s:=T.s) (n:=T.n) (l:=l) o)
 have hp:=HPAR.out.2.2.2.1 (by omega)
 obtain ⟨l0,rfl⟩:=len_1 (HLL.out.trans hp)
 obtain ⟨q,c,rfl,hc1,hc2,hq⟩:=ints_rdn HVV.out hgb (n:=1) rfl (Nat.le_refl _)
 have q0:=hq.2.2 0 l0 rfl
 clear o hp hq
 refine' zq166
set_option linter.unusedSimpArgs false in
theorem of_4 (T:Tp) (B g:Nat) (e:Ex) (HI:∀x∈e.args,OfC B g T x) (o:e.op=4):OfC B g T e:=by
 refine' zq111
 have o4:=eq_yes o
 obtain ⟨m,hm4,hlen4,hout4⟩:=HOWN.out.call o
 have HO:=Lib.hid (op_4 (n:=T.n) (l:=l) o hm4)
 have hp:=HPAR.out.2.2.1 o
 obtain ⟨q,c,rfl,hc1,hc2,hq⟩:=ints_rdn HVV.out hgb rfl (by rw[HLL.out];exact hp.1)
 have HC:=Lib.hid (call_tany T B g e m hm4 hlen4 hout4 ft0 A cap q c l w2 HT2.out HMX.out HXW.out HLL.out (by unfold maxLen;exact hc2) hq h8)
 clear o hm4 hlen4 hout4 hp hq
 go_wp2_with fail
 refine HC.out.mono ?_
 rintro r w3 ⟨rfl,ht3,hu3⟩
 rw[ft2_l] at ht3
 have HT3:=Lib.hid ht3
 have HU3:Hid (UpdM g w w3):=Upd.trans HU2.out hu3
 clear ht3 hu3
 go_wp2_with fail
 go_ret
 exact HFIN.out _ _ (by rw[HO.out.1];exact HT3.out) HU3.out HO.out.2.symm
set_option linter.unusedSimpArgs false in
theorem of_22 (T:Tp) (B g:Nat) (e:Ex) (HI:∀x∈e.args,OfC B g T x) (o:e.op=22∨e.op=23):OfC B g T e:=by
 refine' zq34
 refine' zq118
 have HO:=Lib.hid (op_22 (s:=T.s) (n:=T.n) (l:=l) o)
 refine' zq160
 have q0:=hq.2.2 0 l0 rfl
 have q1:=hq.2.2 1 l1 rfl
 have HN:=Lib.hid (need_any T ft0 B g (l0==l1) e.line e.col w2.drew (HT2.out.bel (by repeat (first|(with_reducible assumption)|(with_reducible exact Below.refl _ _)|(with_reducible refine Below.drew ?_)|(with_reducible refine below_drewN' ?_ _)|(with_reducible refine Below.alloc ?_ (by first|assumption|omega|(simp;omega)|simp|(simp[World.setCell];omega)|simp[World.setCell]) _)|(with_reducible refine Below.setCell ?_ (by first|assumption|omega|(simp;omega)|simp|(simp[World.setCell];omega)|simp[World.setCell]) _)))))
 have oo:(e.op==22)=true∨((e.op==22)=false∧(e.op==23)=true):=by
  rcases o with o|o
  ·exact .inl (eq_yes o)
  ·exact .inr ⟨eq_no (by omega),eq_yes o⟩
 clear o hp hq
 rcases oo with o22|⟨o22,o23⟩
 all_goals
  go_upto_region 25 with (fail)
  go_still_tail 10,(by kernel_rfl)
  change wpList _ _ _ _ _ w2.drew
  refine' zq131
  rw[ft2_l] at ht5
  have HT5:=Lib.hid ht5
  have HU5:Hid (UpdM g w w5):=Upd.trans (Upd.drew HU2.out) hu5
  have q05:=(HQ.out.upd (Upd.trans (Upd.drew (Upd.refl _ w2)) hu5)).2.2 0 l0 rfl
  clear ht5 hu5 q0 q1
  refine' zq66
set_option linter.unusedSimpArgs false in
theorem of_S (T:Tp) (B g:Nat) (e:Ex) (HI:∀x∈e.args,OfC B g T x) (o:5≤e.op∧e.op≤20):OfC B g T e:=by
 refine' zq34
 have o22:(e.op==22)=false:=eq_no (by omega)
 have o23:(e.op==23)=false:=eq_no (by omega)
 refine' zq118
 have o27:(e.op==27)=false:=eq_no (by omega)
 have HO:=Lib.hid (op_sign (s:=T.s) (n:=T.n) (l:=l) o)
 have hp1:1≤e.args.length:=by
  by_cases o5:e.op=5∨e.op=6
  ·have:=HPAR.out.2.2.2.1 (by omega);omega
  ·have:=HPAR.out.2.2.2.2.1 (by omega);omega
 have HP2:Hid (signIn e.op=0→e.args.length=2):=fun g0=>by
  refine HPAR.out.2.2.2.2.1 (.inl ⟨?_,o.2⟩)
  refine Classical.byContradiction fun g1=>?_
  rcases (show e.op=5∨e.op=6 by omega) with o5|o5<;>rw[o5] at g0<;>exact absurd g0 (by decide)
 obtain ⟨q,c,rfl,hc1,hc2,hq⟩:=ints_rdn HVV.out hgb HLL.out hp1
 have HQ:=Lib.hid hq
 have HSG:=Lib.hid (sign_any e.op w2)
 obtain ⟨si,HSI⟩:∃si,Hid (signIn e.op=si):=⟨_,rfl⟩
 obtain ⟨so,HSO⟩:∃so,Hid (signOut e.op=so):=⟨_,rfl⟩
 obtain ⟨sb,HSB⟩:∃sb,Hid (signB e.op=sb):=⟨_,rfl⟩
 rw[HSI.out,HSO.out,HSB.out] at HSG
 rw[HSI.out,HSO.out] at HO
 rw[HSI.out] at HP2
 have hmax':=hm'
 clear o hq
 go_wp2_with fail
 refine HSG.out.mono ?_
 rintro r w3 ⟨rfl,rfl⟩
 go_wp2_with fail
 clear x0 x1 x2 x3 x4 x5
 go_loopw[123] (fun i wr=>∃k:Nat,k≤e.args.length∧i= .int .i64 k∧TpL w2 B g T (accF ft0 (sameArgs e.op e l) k) wr) (fun i _=>e.args.length-(intOf i).toNat)
 case atStart=>exact ⟨0,Nat.zero_le _,rfl,by rw[acc_0 fz0];exact HT2.out,Upd.refl _ _⟩
 case round=>
  obtain ⟨k,hk,rfl,ht,hu⟩:=hrel
  refine' zq163
  have re:=Row.upd hu re2 (by omega)
  have HQR:=Lib.hid (HQ.out.upd hu)
  clear ht hu
  by_cases hlt:k<e.args.length
  ·obtain ⟨b2,off2,y,A2,cap2,rfl,hb2,hyk,hym,hok',hcap',hmax',hy',y0,y1,y2,y3,y4,y5⟩:=(HX.out wr (UpdM.bel (Upd.trans HU2.out HU.out) hlo hsB)).at_ hlt
   obtain ⟨lk,hlk⟩:∃lk,l[k]? =some lk:=⟨_,List.getElem?_eq_getElem (by rw[HLL.out];exact hlt)⟩
   have q0:=HQR.out.2.2 k lk hlk
   have hqlt:=HQR.out.2.1
   have HSA:Hid ((sameArgs e.op e l)[k]? =some (needF (si==0||lk==si) y.line y.col)):=by
    show _=_
    unfold sameArgs
    rw[List.getElem?_mapIdx,hyk,HSI.out]
    simp[List.getD,hlk]
   have HACC:Hid (ft2 (accF ft0 (sameArgs e.op e l) k) (needF (si==0||lk==si) y.line y.col)=accF ft0 (sameArgs e.op e l) (k+1)):=(acc_succ HSA.out (need_fz _ _ _)).symm
   have bx:Below wr.heap.size wr (wr.alloc (.cells (exA y A2 cap2) 63)):=(by repeat (first|(with_reducible assumption)|(with_reducible exact Below.refl _ _)|(with_reducible refine Below.drew ?_)|(with_reducible refine below_drewN' ?_ _)|(with_reducible refine Below.alloc ?_ (by first|assumption|omega|(simp;omega)|simp|(simp[World.setCell];omega)|simp[World.setCell]) _)|(with_reducible refine Below.setCell ?_ (by first|assumption|omega|(simp;omega)|simp|(simp[World.setCell];omega)|simp[World.setCell]) _)))
   have rx:=Row.new wr (exA y A2 cap2) 63
   have HT4:=Lib.hid (HT.out.bel bx)
   have HU4:=Lib.hid (Upd.trans HU.out (UpdM.of (bm:=g) bx))
   clear hyk hym hok' hcap' hmax' hy' hlk
   go_upto_region 34 with (fail)
   have v0:=old_cell bx q0
   clear y0 y1 y2 y3 y4 y5 q0
   generalize hW4:wr.alloc (.cells (exA y A2 cap2) 63)=w4 at*
   clear hW4
   obtain ⟨z0,z1,z2,z3,z4,z5⟩:=rx.ex6
   have i0:(0:Int)≤(k:Int):=by omega
   have i1:(k:Int)<(e.args.length:Int):=by omega
   have HN:=Lib.hid (need_any T (accF ft0 (sameArgs e.op e l) k) B g (si==0||lk==si) y.line y.col w4.drew (HT4.out.bel (by repeat (first|(with_reducible assumption)|(with_reducible exact Below.refl _ _)|(with_reducible refine Below.drew ?_)|(with_reducible refine below_drewN' ?_ _)|(with_reducible refine Below.alloc ?_ (by first|assumption|omega|(simp;omega)|simp|(simp[World.setCell];omega)|simp[World.setCell]) _)|(with_reducible refine Below.setCell ?_ (by first|assumption|omega|(simp;omega)|simp|(simp[World.setCell];omega)|simp[World.setCell]) _)))))
   by_cases hsi:si=0
   ·have s0:(si==0)=true:=eq_yes hsi
    have HB:Hid ((si==0||lk==si)=true):=by show _=_;rw[s0];rfl
    rw[HB.out] at HN
    rw[HB.out] at HACC
    clear hsi
    have hne:wr.heap.size≠g:=by omega
    refine wp_region_held_drew (S:=fun W=>W.cell? ⟨wr.heap.size,4,none⟩=some (.int .i64 y.line)∧W.cell? ⟨wr.heap.size,5,none⟩=some (.int .i64 y.col)) (by kernel_rfl) ?_ (fun hHeld=>?_)
    ·(try dsimp only);(first|exact kk|go_keep)
    refine wpAnyH_take (i:=0) (oi:={dst:=some 128,op:=_,type:=_,pos:=_,after:=_,guard:=_}) (v:= ?_) rfl (by kernel_rfl) (by kernel_rfl) (by kernel_rfl) (fun _ _ _ h=>h) (Or.inl ⟨by kernel_rfl,?_⟩) (by first|assumption|trivial) ?_
    rotate_left 1
    ·refine' zq38
    refine' zq1
    refine wpAnyH_take (i:=1) (oi:={dst:=some 129,op:=_,type:=_,pos:=_,after:=_,guard:=_}) (v:= ?_) rfl (by kernel_rfl) (by kernel_rfl) (by kernel_rfl) (fun _ _ _ h=>h) (Or.inl ⟨by kernel_rfl,?_⟩) (by first|assumption|trivial) ?_
    rotate_left 1
    ·refine' zq38
    refine' zq1
    refine wpAnyH_take (i:=2) (oi:={dst:=some 130,op:=_,type:=_,pos:=_,after:=_,guard:=_}) (v:= ?_) rfl (by kernel_rfl) (by kernel_rfl) (by kernel_rfl) (fun _ _ _ h=>h) (Or.inl ⟨by kernel_rfl,?_⟩) (by first|assumption|trivial) ?_
    rotate_left 1
    ·refine' zq38
    refine' zq1
    refine wpAnyH_take (i:=3) (oi:={dst:=some 131,op:=_,type:=_,pos:=_,after:=_,guard:=_}) (v:= ?_) rfl (by kernel_rfl) (by kernel_rfl) (by kernel_rfl) (fun _ _ _ h=>h) (Or.inl ⟨by kernel_rfl,?_⟩) (by first|assumption|trivial) ?_
    rotate_left 1
    ·refine' zq38
    refine' zq1
    refine wpAnyH_take (i:=4) (oi:={dst:=some 132,op:=_,type:=_,pos:=_,after:=_,guard:=_}) (v:=undef) rfl (by kernel_rfl) (by kernel_rfl) (by kernel_rfl) (fun _ _ _ h=>h) (Or.inr ⟨by kernel_rfl,rfl⟩) (by first|assumption|trivial) ?_
    refine' zq1
    refine wpAnyH_take (i:=5) (oi:={dst:=some 133,op:=_,type:=_,pos:=_,after:=_,guard:=_}) (v:=undef) rfl (by kernel_rfl) (by kernel_rfl) (by kernel_rfl) (fun _ _ _ h=>h) (Or.inr ⟨by kernel_rfl,rfl⟩) (by first|assumption|trivial) ?_
    refine' zq1
    refine wpAnyH_take (i:=6) (oi:={dst:=some 134,op:=_,type:=_,pos:=_,after:=_,guard:=_}) (v:=undef) rfl (by kernel_rfl) (by kernel_rfl) (by kernel_rfl) (fun _ _ _ h=>h) (Or.inr ⟨by kernel_rfl,rfl⟩) (by first|assumption|trivial) ?_
    refine' zq1
    refine wpAnyH_take (i:=7) (oi:={dst:=some 135,op:=_,type:=_,pos:=_,after:=_,guard:=_}) (v:=undef) rfl (by kernel_rfl) (by kernel_rfl) (by kernel_rfl) (fun _ _ _ h=>h) (Or.inr ⟨by kernel_rfl,rfl⟩) (by first|assumption|trivial) ?_
    refine' zq1
    refine wpAnyH_take (i:=8) (oi:={dst:=some 136,op:=_,type:=_,pos:=_,after:=_,guard:=_}) (v:=undef) rfl (by kernel_rfl) (by kernel_rfl) (by kernel_rfl) (fun _ _ _ h=>h) (Or.inr ⟨by kernel_rfl,rfl⟩) (by first|assumption|trivial) ?_
    refine' zq1
    refine wpAnyH_take (i:=9) (oi:={dst:=some 137,op:=_,type:=_,pos:=_,after:=_,guard:=_}) (v:=undef) rfl (by kernel_rfl) (by kernel_rfl) (by kernel_rfl) (fun _ _ _ h=>h) (Or.inr ⟨by kernel_rfl,rfl⟩) (by first|assumption|trivial) ?_
    refine' zq1
    refine wpAnyH_take (i:=10) (oi:={dst:=some 138,op:=_,type:=_,pos:=_,after:=_,guard:=_}) (v:= ?_) rfl (by kernel_rfl) (by kernel_rfl) (by kernel_rfl) (fun _ _ _ h=>h) (Or.inl ⟨by kernel_rfl,?_⟩) (by first|assumption|trivial) ?_
    rotate_left 1
    ·refine' zq38
    refine' zq1
    refine wpAnyH_take (i:=11) (oi:={dst:=some 139,op:=_,type:=_,pos:=_,after:=_,guard:=_}) (v:= ?_) rfl (by kernel_rfl) (by kernel_rfl) (by kernel_rfl) (fun _ _ _ h=>h) (Or.inl ⟨by kernel_rfl,?_⟩) (by first|assumption|trivial) ?_
    rotate_left 1
    ·refine' zq38
    refine' zq1
    refine wpAnyH_take (i:=12) (oi:={dst:=some 140,op:=_,type:=_,pos:=_,after:=_,guard:=_}) (v:= ?_) rfl (by kernel_rfl) (by kernel_rfl) (by kernel_rfl) (fun _ _ _ h=>h) (Or.inl ⟨by kernel_rfl,?_⟩) (by first|assumption|trivial) ?_
    rotate_left 1
    ·refine' zq38
    refine' zq1
    refine wpAnyH_ready (rs:=[13]) (by kernel_rfl) (by simp) ?_
    refine AllReadyH.cons (o:={dst:=some 141,op:=_,type:=_,pos:=_,after:=_,guard:=_}) rfl (fun KK hKK=>?_) AllReadyH.nil
    go_simp
    go_at_call 142;(refine HN.out.mono ?_);rintro r w5 ⟨rfl,ht5,hu5⟩;(have kk:w5.cell? ⟨wr.heap.size,4,none⟩=some (.int .i64 y.line)∧w5.cell? ⟨wr.heap.size,5,none⟩=some (.int .i64 y.col):=⟨upd_cell hu5 z4 hne,upd_cell hu5 z5 hne⟩)
    refine' zq181
    refine' zq102
   ·have s0:(si==0)=false:=eq_no hsi
    have HB:Hid ((si==0||lk==si)=(lk==si)):=by show _=_;rw[s0];rfl
    rw[HB.out] at HN
    rw[HB.out] at HACC
    clear hsi
    go_still_tail 13,(by kernel_rfl)
    change wpList _ _ _ _ _ w4.drew
    refine' zq131
    refine' zq102
  ·obtain rfl:k=e.args.length:=by omega
   have HEA:Hid (accF ft0 (sameArgs e.op e l) e.args.length=fstl (sameArgs e.op e l)):=by
    show _=_
    have:=acc_all (f:=ft0) (l:=sameArgs e.op e l)
    rwa [show (sameArgs e.op e l).length=e.args.length from by unfold sameArgs;exact List.length_mapIdx,ft2_l] at this
   rw[HEA.out] at HT
   obtain ⟨x0,x1,x2,x3,x4,x5⟩:=re.ex6
   have HN:=Lib.hid (need_any T (fstl (sameArgs e.op e l)) B g (si !=0||l.getD 0 0==l.getD (l.length-1) 0) e.line e.col wr.drew (HT.out.bel (by repeat (first|(with_reducible assumption)|(with_reducible exact Below.refl _ _)|(with_reducible refine Below.drew ?_)|(with_reducible refine below_drewN' ?_ _)|(with_reducible refine Below.alloc ?_ (by first|assumption|omega|(simp;omega)|simp|(simp[World.setCell];omega)|simp[World.setCell]) _)|(with_reducible refine Below.setCell ?_ (by first|assumption|omega|(simp;omega)|simp|(simp[World.setCell];omega)|simp[World.setCell]) _)))))
   go_upto_region 36 with (fail)
   by_cases hsi:si=0
   ·have s0:(si !=0)=false:=neq_no hsi
    have h2:=HP2.out hsi
    obtain ⟨l0,l1,rfl⟩:=len_2 (HLL.out.trans h2)
    have HB:Hid ((si !=0|| [l0,l1].getD 0 0==[l0,l1].getD ([l0,l1].length-1) 0)=(l0==l1)):=by show _=_;rw[s0];rfl
    rw[HB.out] at HN HO
    have q0:=HQR.out.2.2 0 l0 rfl
    have q1:=HQR.out.2.2 1 l1 rfl
    have u0:IntKind.i64.wrap ((2:Int)-1)=1:=by decide
    have u1:IntKind.i64.wrap (((2:Nat):Int)-1)=1:=by decide
    have u2:IntKind.i64.wrap (1:Int)=1:=by decide
    clear hsi
    go_still_tail 17,(by kernel_rfl)
    change wpList _ _ _ _ _ wr.drew
    refine' zq131
    have HT5:=Lib.hid ht5
    have HU5:Hid (UpdM g w w5):=Upd.trans (Upd.drew (Upd.trans HU2.out HU.out)) hu5
    clear ht5 hu5
    refine' zq66
   ·have s0:(si !=0)=true:=neq_yes hsi
    have HB:Hid ((si !=0||l.getD 0 0==l.getD (l.length-1) 0)=true):=by show _=_;rw[s0];rfl
    rw[HB.out] at HN HO
    clear hsi
    have hne:w.heap.size≠g:=by omega
    refine wp_region_held_drew (S:=fun W=>W.cell? ⟨w.heap.size,4,none⟩=some (.int .i64 e.line)∧W.cell? ⟨w.heap.size,5,none⟩=some (.int .i64 e.col)) (by kernel_rfl) ?_ (fun hHeld=>?_)
    ·(try dsimp only);(first|exact kk|go_keep)
    refine wpAnyH_take (i:=0) (oi:={dst:=some 143,op:=_,type:=_,pos:=_,after:=_,guard:=_}) (v:= ?_) rfl (by kernel_rfl) (by kernel_rfl) (by kernel_rfl) (fun _ _ _ h=>h) (Or.inl ⟨by kernel_rfl,?_⟩) (by first|assumption|trivial) ?_
    rotate_left 1
    ·refine' zq38
    refine' zq1
    refine wpAnyH_take (i:=1) (oi:={dst:=some 144,op:=_,type:=_,pos:=_,after:=_,guard:=_}) (v:= ?_) rfl (by kernel_rfl) (by kernel_rfl) (by kernel_rfl) (fun _ _ _ h=>h) (Or.inl ⟨by kernel_rfl,?_⟩) (by first|assumption|trivial) ?_
    rotate_left 1
    ·refine' zq38
    refine' zq1
    refine wpAnyH_take (i:=2) (oi:={dst:=some 145,op:=_,type:=_,pos:=_,after:=_,guard:=_}) (v:= ?_) rfl (by kernel_rfl) (by kernel_rfl) (by kernel_rfl) (fun _ _ _ h=>h) (Or.inl ⟨by kernel_rfl,?_⟩) (by first|assumption|trivial) ?_
    rotate_left 1
    ·refine' zq38
    refine' zq1
    refine wpAnyH_take (i:=3) (oi:={dst:=some 146,op:=_,type:=_,pos:=_,after:=_,guard:=_}) (v:= ?_) rfl (by kernel_rfl) (by kernel_rfl) (by kernel_rfl) (fun _ _ _ h=>h) (Or.inl ⟨by kernel_rfl,?_⟩) (by first|assumption|trivial) ?_
    rotate_left 1
    ·refine' zq38
    refine' zq1
    refine wpAnyH_take (i:=4) (oi:={dst:=some 147,op:=_,type:=_,pos:=_,after:=_,guard:=_}) (v:=undef) rfl (by kernel_rfl) (by kernel_rfl) (by kernel_rfl) (fun _ _ _ h=>h) (Or.inr ⟨by kernel_rfl,rfl⟩) (by first|assumption|trivial) ?_
    refine' zq1
    refine wpAnyH_take (i:=5) (oi:={dst:=some 148,op:=_,type:=_,pos:=_,after:=_,guard:=_}) (v:=undef) rfl (by kernel_rfl) (by kernel_rfl) (by kernel_rfl) (fun _ _ _ h=>h) (Or.inr ⟨by kernel_rfl,rfl⟩) (by first|assumption|trivial) ?_
    refine' zq1
    refine wpAnyH_take (i:=6) (oi:={dst:=some 149,op:=_,type:=_,pos:=_,after:=_,guard:=_}) (v:=undef) rfl (by kernel_rfl) (by kernel_rfl) (by kernel_rfl) (fun _ _ _ h=>h) (Or.inr ⟨by kernel_rfl,rfl⟩) (by first|assumption|trivial) ?_
    refine' zq1
    refine wpAnyH_take (i:=7) (oi:={dst:=some 150,op:=_,type:=_,pos:=_,after:=_,guard:=_}) (v:=undef) rfl (by kernel_rfl) (by kernel_rfl) (by kernel_rfl) (fun _ _ _ h=>h) (Or.inr ⟨by kernel_rfl,rfl⟩) (by first|assumption|trivial) ?_
    refine' zq1
    refine wpAnyH_take (i:=8) (oi:={dst:=some 151,op:=_,type:=_,pos:=_,after:=_,guard:=_}) (v:=undef) rfl (by kernel_rfl) (by kernel_rfl) (by kernel_rfl) (fun _ _ _ h=>h) (Or.inr ⟨by kernel_rfl,rfl⟩) (by first|assumption|trivial) ?_
    refine' zq1
    refine wpAnyH_take (i:=9) (oi:={dst:=some 152,op:=_,type:=_,pos:=_,after:=_,guard:=_}) (v:=undef) rfl (by kernel_rfl) (by kernel_rfl) (by kernel_rfl) (fun _ _ _ h=>h) (Or.inr ⟨by kernel_rfl,rfl⟩) (by first|assumption|trivial) ?_
    refine' zq1
    refine wpAnyH_take (i:=10) (oi:={dst:=some 153,op:=_,type:=_,pos:=_,after:=_,guard:=_}) (v:=undef) rfl (by kernel_rfl) (by kernel_rfl) (by kernel_rfl) (fun _ _ _ h=>h) (Or.inr ⟨by kernel_rfl,rfl⟩) (by first|assumption|trivial) ?_
    refine' zq1
    refine wpAnyH_take (i:=11) (oi:={dst:=some 154,op:=_,type:=_,pos:=_,after:=_,guard:=_}) (v:=undef) rfl (by kernel_rfl) (by kernel_rfl) (by kernel_rfl) (fun _ _ _ h=>h) (Or.inr ⟨by kernel_rfl,rfl⟩) (by first|assumption|trivial) ?_
    refine' zq1
    refine wpAnyH_take (i:=12) (oi:={dst:=some 155,op:=_,type:=_,pos:=_,after:=_,guard:=_}) (v:=undef) rfl (by kernel_rfl) (by kernel_rfl) (by kernel_rfl) (fun _ _ _ h=>h) (Or.inr ⟨by kernel_rfl,rfl⟩) (by first|assumption|trivial) ?_
    refine' zq1
    refine wpAnyH_take (i:=13) (oi:={dst:=some 156,op:=_,type:=_,pos:=_,after:=_,guard:=_}) (v:=undef) rfl (by kernel_rfl) (by kernel_rfl) (by kernel_rfl) (fun _ _ _ h=>h) (Or.inr ⟨by kernel_rfl,rfl⟩) (by first|assumption|trivial) ?_
    refine' zq1
    refine wpAnyH_take (i:=14) (oi:={dst:=some 157,op:=_,type:=_,pos:=_,after:=_,guard:=_}) (v:= ?_) rfl (by kernel_rfl) (by kernel_rfl) (by kernel_rfl) (fun _ _ _ h=>h) (Or.inl ⟨by kernel_rfl,?_⟩) (by first|assumption|trivial) ?_
    rotate_left 1
    ·refine' zq38
    refine' zq1
    refine wpAnyH_take (i:=15) (oi:={dst:=some 158,op:=_,type:=_,pos:=_,after:=_,guard:=_}) (v:= ?_) rfl (by kernel_rfl) (by kernel_rfl) (by kernel_rfl) (fun _ _ _ h=>h) (Or.inl ⟨by kernel_rfl,?_⟩) (by first|assumption|trivial) ?_
    rotate_left 1
    ·refine' zq38
    refine' zq1
    refine wpAnyH_take (i:=16) (oi:={dst:=some 159,op:=_,type:=_,pos:=_,after:=_,guard:=_}) (v:= ?_) rfl (by kernel_rfl) (by kernel_rfl) (by kernel_rfl) (fun _ _ _ h=>h) (Or.inl ⟨by kernel_rfl,?_⟩) (by first|assumption|trivial) ?_
    rotate_left 1
    ·refine' zq38
    refine' zq1
    refine wpAnyH_ready (rs:=[17]) (by kernel_rfl) (by simp) ?_
    refine AllReadyH.cons (o:={dst:=some 160,op:=_,type:=_,pos:=_,after:=_,guard:=_}) rfl (fun KK hKK=>?_) AllReadyH.nil
    go_simp
    go_at_call 142;(refine HN.out.mono ?_);rintro r w5 ⟨rfl,ht5,hu5⟩;(have kk:w5.cell? ⟨w.heap.size,4,none⟩=some (.int .i64 e.line)∧w5.cell? ⟨w.heap.size,5,none⟩=some (.int .i64 e.col):=⟨upd_cell hu5 x4 hne,upd_cell hu5 x5 hne⟩)
    refine' zq181
    have HT5:=Lib.hid ht5
    have HU5:Hid (UpdM g w w5):=Upd.trans (Upd.drew (Upd.trans HU2.out HU.out)) hu5
    clear ht5 hu5
    refine' zq66
set_option linter.unusedSimpArgs false in
theorem of_24 (T:Tp) (B g:Nat) (e:Ex) (HI:∀x∈e.args,OfC B g T x) (o:e.op=24∨e.op=25):OfC B g T e:=by
 refine' zq34
 have HO:=Lib.hid (op_24 (s:=T.s) (n:=T.n) (l:=l) o)
 have hp:=HPAR.out.2.2.2.1 (by omega)
 obtain ⟨l0,rfl⟩:=len_1 (HLL.out.trans hp)
 obtain ⟨q,c,rfl,hc1,hc2,hq⟩:=ints_rdn HVV.out hgb (n:=1) rfl (Nat.le_refl _)
 have HQ:=Lib.hid hq
 have HTR:=Lib.hid (truth_any T ft0 B g e.name e.line e.col w2 HT2.out)
 have oo:(e.op==24)=true∨((e.op==24)=false∧(e.op==25)=true):=by
  rcases o with o|o
  ·exact .inl (eq_yes o)
  ·exact .inr ⟨eq_no (by omega),eq_yes o⟩
 clear o hp hq
 rcases oo with o24|⟨o24,o25⟩
 all_goals
  go_wp2_with fail
  refine HTR.out.mono ?_
  rintro r w5 ⟨rfl,ht5,hu5⟩
  rw[ft2_l] at ht5
  have HT5:=Lib.hid ht5
  have HU5:Hid (UpdM g w w5):=Upd.trans HU2.out hu5
  have q05:=(HQ.out.upd hu5).2.2 0 l0 rfl
  clear ht5 hu5
  refine' zq66
set_option linter.unusedSimpArgs false in
theorem of_26 (T:Tp) (B g:Nat) (e:Ex) (HI:∀x∈e.args,OfC B g T x) (o:e.op=26):OfC B g T e:=by
 refine' zq34
 have o24:(e.op==24)=false:=eq_no (by omega)
 have o25:(e.op==25)=false:=eq_no (by omega)
 have o26:=eq_yes o
 have HO:=Lib.hid (op_26 (s:=T.s) (n:=T.n) (l:=l) o)
 refine' zq160
 have HTR:=Lib.hid (truth_any T ft0 B g e.name e.line e.col w2 HT2.out)
 clear o hp hq
 go_wp2_with fail
 refine HTR.out.mono ?_
 rintro r w4 ⟨rfl,ht4,hu4⟩
 rw[ft2_l] at ht4
 have HT4:=Lib.hid ht4
 have HU4:Hid (UpdM g w w4):=Upd.trans HU2.out hu4
 have HQ4:=Lib.hid (HQ.out.upd hu4)
 have re4:=Row.upd hu4 re2 (by omega)
 clear ht4 hu4 x0 x1 x2 x3 x4 x5
 have q0:=HQ4.out.2.2 0 l0 rfl
 have q1:=HQ4.out.2.2 1 l1 rfl
 obtain ⟨x0,x1,x2,x3,x4,x5⟩:=re4.ex6
 have HN:=Lib.hid (need_any T _ B g (l0==l1) e.line e.col w4.drew (HT4.out.bel (by repeat (first|(with_reducible assumption)|(with_reducible exact Below.refl _ _)|(with_reducible refine Below.drew ?_)|(with_reducible refine below_drewN' ?_ _)|(with_reducible refine Below.alloc ?_ (by first|assumption|omega|(simp;omega)|simp|(simp[World.setCell];omega)|simp[World.setCell]) _)|(with_reducible refine Below.setCell ?_ (by first|assumption|omega|(simp;omega)|simp|(simp[World.setCell];omega)|simp[World.setCell]) _)))))
 go_upto_region 25 with (fail)
 go_still_tail 10,(by kernel_rfl)
 change wpList _ _ _ _ _ w4.drew
 refine' zq131
 have HT5:=Lib.hid ht5
 have HU5:Hid (UpdM g w w5):=Upd.trans (Upd.drew HU4.out) hu5
 have q05:=(HQ4.out.upd (Upd.trans (Upd.drew (Upd.refl _ w4)) hu5)).2.2 0 l0 rfl
 clear ht5 hu5 q0 q1
 refine' zq66
set_option linter.unusedSimpArgs false in
theorem of_27 (T:Tp) (B g:Nat) (e:Ex) (HI:∀x∈e.args,OfC B g T x) (o:e.op=27):OfC B g T e:=by
 refine' zq34
 have o22:(e.op==22)=false:=eq_no (by omega)
 have o23:(e.op==23)=false:=eq_no (by omega)
 refine' zq118
 have o27:=eq_yes o
 have HO:=Lib.hid (op_27 (s:=T.s) (n:=T.n) (l:=l) o)
 have hp:=HPAR.out.2.2.2.2.2 o
 obtain ⟨l0,l1,l2,rfl⟩:=len_3 (HLL.out.trans hp)
 obtain ⟨q,c,rfl,hc1,hc2,hq⟩:=ints_rdn HVV.out hgb (n:=3) rfl (by decide)
 have HQ:=Lib.hid hq
 obtain ⟨b2,off2,y,A2,cap2,rfl,hb2,hyk,hym,hok',hcap',hmax',hy',y0,y1,y2,y3,y4,y5⟩:=HXW.out.at_ (show 0<e.args.length by omega)
 rw[Nat.zero_mul,Nat.add_zero] at y4 y5
 have q0:=hq.2.2 0 l0 rfl
 have p0:0<e.args.length:=by omega
 have p1:(0:Int)<(e.args.length:Int):=by omega
 rw[(arg_at hyk).1,(arg_at hyk).2] at HO
 have HN:=Lib.hid (need_any T ft0 B g (l0==2) y.line y.col w2.drew (HT2.out.bel (by repeat (first|(with_reducible assumption)|(with_reducible exact Below.refl _ _)|(with_reducible refine Below.drew ?_)|(with_reducible refine below_drewN' ?_ _)|(with_reducible refine Below.alloc ?_ (by first|assumption|omega|(simp;omega)|simp|(simp[World.setCell];omega)|simp[World.setCell]) _)|(with_reducible refine Below.setCell ?_ (by first|assumption|omega|(simp;omega)|simp|(simp[World.setCell];omega)|simp[World.setCell]) _)))))
 clear o hp hq hyk hym hok' hcap' hmax' hy' y0 y1 y2 y3
 go_upto_region 27 with (fail)
 go_still_tail 10,(by kernel_rfl)
 change wpList _ _ _ _ _ w2.drew
 go_wp2_with fail
 refine HN.out.mono ?_
 rintro r w4 ⟨rfl,ht4,hu4⟩
 rw[ft2_l] at ht4
 have HT4:=Lib.hid ht4
 have hud:UpdM g w2 w4:=Upd.trans (Upd.drew (Upd.refl _ w2)) hu4
 have HU4:Hid (UpdM g w w4):=Upd.trans HU2.out hud
 have HQ4:=Lib.hid (HQ.out.upd hud)
 have re4:=Row.upd hud re2 (by omega)
 clear ht4 hu4 hud x0 x1 x2 x3 x4 x5 q0 y4 y5
 have q1:=HQ4.out.2.2 1 l1 rfl
 have q2:=HQ4.out.2.2 2 l2 rfl
 obtain ⟨x0,x1,x2,x3,x4,x5⟩:=re4.ex6
 have HN2:=Lib.hid (need_any T _ B g (l1==l2) e.line e.col w4.drew (HT4.out.bel (by repeat (first|(with_reducible assumption)|(with_reducible exact Below.refl _ _)|(with_reducible refine Below.drew ?_)|(with_reducible refine below_drewN' ?_ _)|(with_reducible refine Below.alloc ?_ (by first|assumption|omega|(simp;omega)|simp|(simp[World.setCell];omega)|simp[World.setCell]) _)|(with_reducible refine Below.setCell ?_ (by first|assumption|omega|(simp;omega)|simp|(simp[World.setCell];omega)|simp[World.setCell]) _)))))
 go_upto_region 28 with (fail)
 go_still_tail 10,(by kernel_rfl)
 change wpList _ _ _ _ _ w4.drew
 go_wp2_with fail
 refine HN2.out.mono ?_
 rintro r w5 ⟨rfl,ht5,hu5⟩
 have HT5:=Lib.hid ht5
 have HU5:Hid (UpdM g w w5):=Upd.trans (Upd.drew HU4.out) hu5
 have q05:=(HQ4.out.upd (Upd.trans (Upd.drew (Upd.refl _ w4)) hu5)).2.2 1 l1 rfl
 clear ht5 hu5 q1 q2
 refine' zq66
theorem of_tany (T:Tp) (B g:Nat) (e:Ex):OfC B g T e:=by
 induction e using Ex.ind with
 |h e HI=>
 intro f A cap w h hok hl hm hx hk
 have hp:=(parts_of hk.own.plain).1
 rcases ops_all hp with o|o|o|o|o|o|o|o|o|o
 ·exact of_1 T B g e HI o f A cap w h hok hl hm hx hk
 ·exact of_2 T B g e HI o f A cap w h hok hl hm hx hk
 ·exact of_3 T B g e HI o f A cap w h hok hl hm hx hk
 ·exact of_4 T B g e HI o f A cap w h hok hl hm hx hk
 ·exact of_S T B g e HI o f A cap w h hok hl hm hx hk
 ·exact of_21 T B g e HI o f A cap w h hok hl hm hx hk
 ·exact of_22 T B g e HI o f A cap w h hok hl hm hx hk
 ·exact of_24 T B g e HI o f A cap w h hok hl hm hx hk
 ·exact of_26 T B g e HI o f A cap w h hok hl hm hx hk
 ·exact of_27 T B g e HI o f A cap w h hok hl hm hx hk
end Go.Proofs.YtdkgkacnjdnpoaaGreat
