/-
  Types by the document: the contract of tompionref16.Expr.
-/
import Derived.Test.YtgjfkidbfmbjoaaGreatZz
import Derived.Test.YtgjfkidbfmbjoaaGreatRfT
set_option maxHeartbeats 4000000
set_option maxRecDepth 100000
namespace Go.Proofs.YtgjfkidbfmbjoaaGreat
open Go.RowKit
attribute [local go_sem ↓] Go.wp_at_zero Go.wp_at_succ
def ExprR (s:List Nd) (n:Nd) (e:Ex) (w:World) (r:Ending) (w':World):Prop:=
 (∃k:Int,r= .returned (.tuple #[.int .i64 k,ftV (tyF s n e)])∧Hid (((tyF s n e).err=0→k=tyK s n e)∧((tyF s n e).err≠0→k=0)))∧Below w.heap.size w w'
def ExprC (s:List Nd) (A:Option Addr) (cap:Nat) (n:Nd) (a:NdA) (e:Ex):Prop:=∀(A2:Option Addr) (c2:Nat) (w:World),Nds w w.heap.size A s→NdAt w w.heap.size n a→ExOk e→e.args.length≤c2→c2≤maxLen→IsExs w w.heap.size A2 e.args→TyKn s n e→
 Calls Tryz.prog 189 #[srcV s A cap,ndV n a,exV e A2 c2] w (ExprR s n e w)
theorem need_ne {b:Bool} {l c:Int} (h:b=false):needF b l c=⟨28,l,c⟩:=by subst h;rfl
theorem n28 (l c:Int):(⟨28,l,c⟩:Ft).err≠0:=by show (28:Int)≠0;decide
theorem eq_beq {a b:Int} (h:a=b):(a==b)=true:=by rw[h];simp
theorem ne_beq {a b:Int} (h:¬a=b):(a==b)=false:=by rw[beq_eq_false_iff_ne];exact h
set_option linter.unusedSimpArgs false in
theorem rexpr_a (s:List Nd) (A:Option Addr) (cap:Nat) (n:Nd) (a:NdA) (h1:s.length≤cap) (h2:cap≤maxLen) (hl:(vrs n).length≤10000) (e:Ex) (HI:∀x∈e.args,ExprC s A cap n a x) (o:e.op=1∨e.op=2∨e.op=3∨e.op=21):ExprC s A cap n a e:=by
 refine' zq4
 go_loopw[8,9] (fun v i wr=>∃(k:Nat) (v0:Value),k≤e.args.length∧i= .int .i64 k∧v0=v∧wr.ownsRow W1.heap.size 3 1 v0 k (intsV ((argKs s n e).take k))∧Hid (∀j,j<k→∀x,e.args[j]? =some x→(tyF s n x).err=0)∧Below W1.heap.size W1 wr) (fun _ i _=>e.args.length-(intOf i).toNat)
 case atStart=>exact ⟨0,_,Nat.zero_le _,rfl,rfl,World.ownsRow_nil _ _ _ _,fun j h=>absurd h (by omega),Below.refl _ _⟩
 case round=>
  refine' zq33
  by_cases hlt:k<e.args.length
  ·refine' zq0
  ·refine' zq8
   rcases HOO.out with o|o|o|o
   ·have l2:decide (e.op≤2)=true:=dec_yes (by omega)
    have HO:=Lib.hid (op_1 (s:=s) (n:=n) (l:=l) o)
    refine' zq92
   ·have l2:decide (e.op≤2)=true:=dec_yes (by omega)
    have HO:=Lib.hid (op_2 (s:=s) (n:=n) (l:=l) o)
    refine' zq92
   ·have l2:decide (e.op≤2)=false:=dec_no (by omega)
    have o3:=eq_yes o
    have HO:=Lib.hid (op_3 (s:=s) (n:=n) (l:=l) o)
    have HF:Hid (tyF s n e=ft0):=HE.out.trans HO.out.1
    have HK:Hid (tyOf n e.name=tyK s n e):=(HKE.out.trans HO.out.2).symm
    have HNM:=Lib.hid (rty_any n a e.name w4 ((HN.out w4 hB).more hsB) HL.out (HOWN.out.name (by rw[o];rfl)))
    obtain ⟨c0,c1,cc2,c3,c4,c5,c6⟩:=rn.nd
    clear o
    go_wp2_with fail
    refine HNM.out.mono ?_
    rintro r w5 ⟨rfl,hb5⟩
    have rf5:=rf.below hb5 rf.lt
    have hB5:=hB.trans (hb5.mono hsB)
    obtain ⟨⟨k0,k1,k2⟩,h0,h1,h2⟩:=rf5.three
    go_wp2_with fail
    exact bodyPost_ret (res2b (p:=7) (q:=6) rfl Tryz.underlying31 rfl (by kernel_rfl) rfl rfl (rf5.set3 _ _ _)) rfl ⟨⟨_,(congrArg (fun f=>Ending.returned (.tuple #[.int .i64 _,ftV f])) HF.out).symm,fun _=>HK.out,fun g=>absurd (congrArg Ft.err HF.out) g⟩,below_set3 hB5 (by first|omega|(simp;omega)|simp) _ _ _⟩
   ·refine' zq65
    have g24:decide ((24:Int)≤e.op)=false:=dec_no (by omega)
    have o27:(e.op==27)=false:=eq_no (by omega)
    have HO:=Lib.hid (op_21 (s:=s) (n:=n) (l:=l) o)
    refine' zq100
    have HQ:=Lib.hid hq
    have HF:Hid (tyF s n e=ft0):=HE.out.trans HO.out.1
    have HK:Hid (l0=tyK s n e):=(HKE.out.trans HO.out.2).symm
    refine' zq24
    have q0:=HQ5.out.2.2 0 l0 rfl
    refine' zq165
    refine' zq16
set_option linter.unusedSimpArgs false in
theorem rexpr_b (s:List Nd) (A:Option Addr) (cap:Nat) (n:Nd) (a:NdA) (h1:s.length≤cap) (h2:cap≤maxLen) (hl:(vrs n).length≤10000) (e:Ex) (HI:∀x∈e.args,ExprC s A cap n a x) (o:e.op=4):ExprC s A cap n a e:=by
 refine' zq4
 go_loopw[8,9] (fun v i wr=>∃(k:Nat) (v0:Value),k≤e.args.length∧i= .int .i64 k∧v0=v∧wr.ownsRow W1.heap.size 3 1 v0 k (intsV ((argKs s n e).take k))∧Hid (∀j,j<k→∀x,e.args[j]? =some x→(tyF s n x).err=0)∧Below W1.heap.size W1 wr) (fun _ i _=>e.args.length-(intOf i).toNat)
 case atStart=>exact ⟨0,_,Nat.zero_le _,rfl,rfl,World.ownsRow_nil _ _ _ _,fun j h=>absurd h (by omega),Below.refl _ _⟩
 case round=>
  refine' zq33
  by_cases hlt:k<e.args.length
  ·refine' zq0
  ·refine' zq8
   have o:=HOO.out
   refine' zq266
   have o4:=eq_yes o
   obtain ⟨m,hm4,hlen4,hout4⟩:=HOWN.out.call o
   have HO:=Lib.hid (op_4 (n:=n) (l:=l) o hm4)
   have hp:=HPAR.out.2.2.1 o
   obtain ⟨q,c,rfl,hc1,hc2,hq⟩:=ints_rdn HVV.out hgb HLL.out hp.1
   have HQ:=Lib.hid hq
   have HLEN:=Lib.hid hlen4
   have HM4:=Lib.hid hm4
   have hpp:=hp.1
   obtain ⟨k,m',hki,hkm,hme,hma⟩|⟨hki,hma⟩:=node_cases s e.name
   rotate_left 1
   ·rw[hma] at hm4;cases hm4
   obtain rfl:m'=m:=Option.some.inj (hma.symm.trans hm4)
   have hkl:=(List.getElem?_eq_some_iff.1 hkm).1
   obtain ⟨b,off,m2,am,hA,hb,hm2',hmat,d0,d1,d2,d3,d4,d5,d6⟩:=(HS.out w4 hB).nd hkl
   obtain rfl:m'=m2:=Option.some.inj (hkm.symm.trans hm2')
   subst hA
   have HMAT:Hid (∀W,Below w4.heap.size w4 W→NdAt W w.heap.size m' am):=fun W hW=>hmat.below (hW.mono hsB)
   have HC:Hid (∀W,Below w4.heap.size w4 W→Calls Tryz.prog 61 #[srcV s (some ⟨b,off,none⟩) cap,.string e.name] W fun r w'=>r= .returned (.int .i64 (k:Int))∧Below W.heap.size W w'):=fun W hW=>by
    have hWB:=hB.trans (hW.mono hsB)
    have h3:=rnode_any s (some ⟨b,off,none⟩) cap e.name W h1 h2 (nds_keep (HS.out W hWB) (fun _ _ _ h=>h) hWB.size)
    rw[hki] at h3
    exact h3
   have i0':(0:Int)≤(k:Int):=by omega
   have i1':(k:Int)<(s.length:Int):=by omega
   clear o hm4 hlen4 hp hq hki hkm hme hma hkl hm2' hmat
   go_upto_region 14 with (fail)
   have HK:Hid (∀W,Below w4.heap.size w4 W→W.cell? ⟨w.heap.size,0,none⟩=some (.slice (some ⟨b,off,none⟩) s.length cap)∧W.cell? ⟨w.heap.size+2,1,none⟩=some (.string e.name)∧(W.cell? ⟨b,off+k*7,none⟩=some (.string m'.name)∧W.cell? ⟨b,off+k*7+1,none⟩=some (.slice am.ai m'.ins.length am.ci)∧W.cell? ⟨b,off+k*7+2,none⟩=some (.slice am.ao m'.outs.length am.co)∧W.cell? ⟨b,off+k*7+3,none⟩=some (.slice am.av m'.vars.length am.cv)∧W.cell? ⟨b,off+k*7+4,none⟩=some (.slice am.aq m'.eqs.length am.cq)∧W.cell? ⟨b,off+k*7+5,none⟩=some (.int .i64 m'.line)∧W.cell? ⟨b,off+k*7+6,none⟩=some (.int .i64 m'.col))):=fun W hW=>⟨(rs.below hW rs.lt).src,(re.below hW re.lt).ex6.2.1,old_cell hW d0,old_cell hW d1,old_cell hW d2,old_cell hW d3,old_cell hW d4,old_cell hW d5,old_cell hW d6⟩
   go_cut[12] (fun v12 W=>∃gm:Nat,v12= .pointer (some ⟨gm,0,none⟩)∧w4.heap.size≤gm∧Row W gm (ndArr m' am) 39∧Below w4.heap.size w4 W)
   case first=>
    go_region_held3 (fun W=>W.cell? ⟨w.heap.size,0,none⟩=some (.slice (some ⟨b,off,none⟩) s.length cap)∧W.cell? ⟨w.heap.size+2,1,none⟩=some (.string e.name)∧(W.cell? ⟨b,off+k*7,none⟩=some (.string m'.name)∧W.cell? ⟨b,off+k*7+1,none⟩=some (.slice am.ai m'.ins.length am.ci)∧W.cell? ⟨b,off+k*7+2,none⟩=some (.slice am.ao m'.outs.length am.co)∧W.cell? ⟨b,off+k*7+3,none⟩=some (.slice am.av m'.vars.length am.cv)∧W.cell? ⟨b,off+k*7+4,none⟩=some (.slice am.aq m'.eqs.length am.cq)∧W.cell? ⟨b,off+k*7+5,none⟩=some (.int .i64 m'.line)∧W.cell? ⟨b,off+k*7+6,none⟩=some (.int .i64 m'.col))) (first|(with_reducible exact HK.out _ (by repeat (first|(with_reducible assumption)|(with_reducible exact Below.refl _ _)|(with_reducible refine Below.drew ?_)|(with_reducible refine below_drewN' ?_ _)|(with_reducible refine Below.alloc ?_ (by first|assumption|omega|(simp;omega)|simp|(simp[World.setCell];omega)|simp[World.setCell]) _)|(with_reducible refine Below.setCell ?_ (by first|assumption|omega|(simp;omega)|simp|(simp[World.setCell];omega)|simp[World.setCell]) _))))|go_keep)
     (first|((go_at_call 61);(refine (HC.out _ (by repeat (first|(with_reducible assumption)|(with_reducible exact Below.refl _ _)|(with_reducible refine Below.drew ?_)|(with_reducible refine below_drewN' ?_ _)|(with_reducible refine Below.alloc ?_ (by first|assumption|omega|(simp;omega)|simp|(simp[World.setCell];omega)|simp[World.setCell]) _)|(with_reducible refine Below.setCell ?_ (by first|assumption|omega|(simp;omega)|simp|(simp[World.setCell];omega)|simp[World.setCell]) _)))).mono ?_);rintro e w3 ⟨rfl,hb3⟩;(try (have r5:Row w3 w4.heap.size ndZ 39:=(by first|(with_reducible exact Row.below (Row.drew (Row.new w4 ndZ 39)) hb3 (by simp))|(with_reducible exact Row.below (Row.new w4.drew ndZ 39) hb3 (by simp)));obtain ⟨⟨x0,x1,x2,x3,x4,x5,x6⟩,g0,g1,g2,g3,g4,g5,g6⟩:=r5.seven));(have hb4:Below w4.heap.size w4 w3:=Below.trans (by repeat (first|(with_reducible assumption)|(with_reducible exact Below.refl _ _)|(with_reducible refine Below.drew ?_)|(with_reducible refine below_drewN' ?_ _)|(with_reducible refine Below.alloc ?_ (by first|assumption|omega|(simp;omega)|simp|(simp[World.setCell];omega)|simp[World.setCell]) _)|(with_reducible refine Below.setCell ?_ (by first|assumption|omega|(simp;omega)|simp|(simp[World.setCell];omega)|simp[World.setCell]) _))) (hb3.mono (by first|exact Nat.le_refl _|simp|(simp;omega)|omega)));(have hs4:=hb4.size)))
    all_goals
     go_wp2_with fail
     go_meet
     exact ⟨_,rfl,by first|exact Nat.le_refl _|exact hs4,by first|(with_reducible exact Row.new _ _ _)|(with_reducible exact r5.set7 _ _ _ _ _ _ _),(by repeat (first|(with_reducible assumption)|(with_reducible exact Below.refl _ _)|(with_reducible refine Below.drew ?_)|(with_reducible refine below_drewN' ?_ _)|(with_reducible refine Below.alloc ?_ (by first|assumption|omega|(simp;omega)|simp|(simp[World.setCell];omega)|simp[World.setCell]) _)|(with_reducible refine Below.setCell ?_ (by first|assumption|omega|(simp;omega)|simp|(simp[World.setCell];omega)|simp[World.setCell]) _)))⟩
   case rest=>
    obtain ⟨gm,rfl,hgm,rgm,hbc⟩:=hcut
    obtain ⟨w5,rfl⟩:∃w5:World,w5=wc:=⟨_,rfl⟩
    have rf5:=rf.below hbc rf.lt
    have re5:=re.below hbc re.lt
    have hB5:=hB.trans (hbc.mono hsB)
    have hs5:=hB5.size
    have HQ5:=Lib.hid (HQ.out.bel hbc)
    have HM5:Hid (∀W,Below w5.heap.size w5 W→NdAt W w.heap.size m' am):=fun W hW=>HMAT.out W (hbc.trans (hW.mono hbc.size))
    clear x0 x1 x2 x3 x4 x5 d0 d1 d2 d3 d4 d5 d6 HK HC
    go_wp2_with fail
    go_loopw[13] (fun i wr=>∃k:Nat,k≤e.args.length∧i= .int .i64 k∧Hid (∀j,j<k→∀g,(callFs m' e l)[j]? =some g→g.err=0)∧Below w5.heap.size w5 wr) (fun i _=>e.args.length-(intOf i).toNat)
    case atStart=>exact ⟨0,Nat.zero_le _,rfl,fun j h=>absurd h (by omega),Below.refl _ _⟩
    case round=>
     obtain ⟨k,hk,rfl,HJ,hbr2⟩:=hrel
     have rm:=rgm.below hbr2 rgm.lt
     have rf6:=rf5.below hbr2 rf5.lt
     have re6:=re5.below hbr2 re5.lt
     have hB6:=hB5.trans (hbr2.mono hs5)
     have hs6:=hB6.size
     obtain ⟨c0,c1,cc2,c3,c4,c5,c6⟩:=rm.nd
     obtain ⟨x0,x1,x2,x3,x4,x5⟩:=re6.ex6
     by_cases hlt:k<e.args.length
     ·obtain ⟨b2,off2,x,A',cap',hA,hb2,hxk,ok,g1,g2,hxs,d0,d1,d2,d3,d4⟩:=(HM5.out wr hbr2).si.vr (show k<m'.ins.length by rw[HLEN.out];exact hlt)
      rw[hA] at c1
      refine' zq168
      have HCF:Hid ((callFs m' e l)[k]? =some (needF (lk==x.ty) y.line y.col)):=by
       show _=_
       unfold callFs
       rw[List.getElem?_mapIdx,hxk,(arg_at hyk).1,(arg_at hyk).2]
       simp[List.getD,hlk]
      refine' zq207
      have hkm:k<m'.ins.length:=by rw[HLEN.out];exact hlt
      have i2:(k:Int)<(m'.ins.length:Int):=by omega
      have gi:=(HM5.out wr hbr2).mi
      have gi':am.ci≤9223372036854775807:=by unfold maxLen at gi;omega
      clear hA hA3 hxk hyk hym hok' hcap' hmax' hy' hxs hlk ok
      go_upto_region 18 with (fail)
      by_cases heq:lk=x.ty
      ·have e1:(lk !=x.ty)=false:=neq_no heq
       have HJ':=Lib.hid (fs_step HJ.out HCF.out (by rw[eq_beq heq];rfl))
       clear heq
       go_quiet (fail)
       go_wp2_with fail
       go_roundw
       case rel=>exact ⟨k+1,by omega,by go_num,HJ',below_drewN' hbr2 nq⟩
       case measure=>first|(simp[intOf];omega)|simp[intOf]
      ·have e1:(lk !=x.ty)=true:=neq_yes heq
       have HF:Hid (tyF s n e=⟨28,y.line,y.col⟩):=by
        show _=_
        have h3:needF (lk==x.ty) y.line y.col=⟨28,y.line,y.col⟩:=need_ne (ne_beq heq)
        rw[HE.out,HO.out.1,fs_stop HJ.out HCF.out (by rw[h3];exact n28 _ _),h3]
       refine' zq53
     ·obtain rfl:k=e.args.length:=by omega
      obtain ⟨b2,off2,x,A',cap',hA,hb2,hxk,ok,g1,g2,hxs,d0,d1,d2,d3,d4⟩:=(HM5.out wr hbr2).so.vr (show 0<m'.outs.length by omega)
      rw[Nat.zero_mul,Nat.add_zero] at d1
      rw[hA] at cc2
      have HF:Hid (tyF s n e=ft0):=by
       show _=_
       rw[HE.out,HO.out.1]
       refine fs_end fun j hj=>HJ.out j ?_
       unfold callFs at hj
       rw[List.length_mapIdx,HLEN.out] at hj
       exact hj
      have HK:Hid (x.ty=tyK s n e):=by
       show _=_
       rw[HKE.out,HO.out.2]
       unfold outTy;rw[List.head?_eq_getElem?,hxk];rfl
      have p0:0<m'.outs.length:=by omega
      have p1:(0:Int)<(m'.outs.length:Int):=by omega
      clear hxk hxs ok hA
      obtain ⟨⟨k0,k1,k2⟩,h0,h1,h2⟩:=rf6.three
      go_wp2_with fail
      exact bodyPost_ret (res2b (p:=7) (q:=6) rfl Tryz.underlying31 rfl (by kernel_rfl) rfl rfl (rf6.set3 _ _ _)) rfl ⟨⟨_,(congrArg (fun f=>Ending.returned (.tuple #[.int .i64 _,ftV f])) HF.out).symm,fun _=>HK.out,fun g=>absurd (congrArg Ft.err HF.out) g⟩,below_set3 hB6 (by first|omega|(simp;omega)|simp) _ _ _⟩
set_option linter.unusedSimpArgs false in
theorem rexpr_c (s:List Nd) (A:Option Addr) (cap:Nat) (n:Nd) (a:NdA) (h1:s.length≤cap) (h2:cap≤maxLen) (hl:(vrs n).length≤10000) (e:Ex) (HI:∀x∈e.args,ExprC s A cap n a x) (o:(5≤e.op∧e.op≤20)):ExprC s A cap n a e:=by
 refine' zq4
 go_loopw[8,9] (fun v i wr=>∃(k:Nat) (v0:Value),k≤e.args.length∧i= .int .i64 k∧v0=v∧wr.ownsRow W1.heap.size 3 1 v0 k (intsV ((argKs s n e).take k))∧Hid (∀j,j<k→∀x,e.args[j]? =some x→(tyF s n x).err=0)∧Below W1.heap.size W1 wr) (fun _ i _=>e.args.length-(intOf i).toNat)
 case atStart=>exact ⟨0,_,Nat.zero_le _,rfl,rfl,World.ownsRow_nil _ _ _ _,fun j h=>absurd h (by omega),Below.refl _ _⟩
 case round=>
  refine' zq33
  by_cases hlt:k<e.args.length
  ·refine' zq0
  ·refine' zq8
   have o:=HOO.out
   refine' zq266
   have o4:(e.op==4)=false:=eq_no (by omega)
   have HO:=Lib.hid (op_sign (s:=s) (n:=n) (l:=l) o)
   refine' zq98
   have HSG:=Lib.hid (rsign_yes e.op w4 o)
   obtain ⟨si,HSI⟩:∃si,Hid (signIn e.op=si):=⟨_,rfl⟩
   obtain ⟨so,HSO⟩:∃so,Hid (signOut e.op=so):=⟨_,rfl⟩
   rw[HSI.out,HSO.out] at HSG
   rw[HSI.out,HSO.out] at HO
   rw[HSI.out] at HP2
   clear o hq
   go_wp2_with fail
   refine HSG.out.mono ?_
   rintro r w5 ⟨rfl,hb5⟩
   have rf5:=rf.below hb5 rf.lt
   have re5:=re.below hb5 re.lt
   have hB5:=hB.trans (hb5.mono hsB)
   have hs5:=hB5.size
   have HQ5:=Lib.hid (HQ.out.bel hb5)
   clear x0 x1 x2 x3 x4 x5
   go_wp2_with fail
   go_loopw[17] (fun i wr=>∃k:Nat,k≤e.args.length∧i= .int .i64 k∧Hid (∀j,j<k→∀g,(sameArgs e.op e l)[j]? =some g→g.err=0)∧Below w5.heap.size w5 wr) (fun i _=>e.args.length-(intOf i).toNat)
   case atStart=>exact ⟨0,Nat.zero_le _,rfl,fun j h=>absurd h (by omega),Below.refl _ _⟩
   case round=>
    obtain ⟨k,hk,rfl,HJ,hbr2⟩:=hrel
    have rf6:=rf5.below hbr2 rf5.lt
    have re6:=re5.below hbr2 re5.lt
    have hB6:=hB5.trans (hbr2.mono hs5)
    have hs6:=hB6.size
    obtain ⟨x0,x1,x2,x3,x4,x5⟩:=re6.ex6
    by_cases hlt:k<e.args.length
    ·refine' zq168
     refine' zq245
     refine' zq207
     clear hA3 hyk hym hok' hcap' hmax' hy' hlk
     by_cases hsi:si=0
     ·have s0:(si !=0)=false:=neq_no hsi
      have HJ':=Lib.hid (fs_step HJ.out HSA.out (by rw[eq_beq hsi];rfl))
      clear hsi
      go_wp2_with fail
      go_roundw
      case rel=>exact ⟨k+1,by omega,by go_num,HJ',hbr2⟩
      case measure=>first|(simp[intOf];omega)|simp[intOf]
     ·have s0:(si !=0)=true:=neq_yes hsi
      have HSB:=Lib.hid (ne_beq hsi)
      clear hsi
      by_cases heq:lk=si
      ·have e1:(lk !=si)=false:=neq_no heq
       have HJ':=Lib.hid (fs_step HJ.out HSA.out (by rw[HSB.out,eq_beq heq];rfl))
       clear heq
       go_wp2_with fail
       go_roundw
       case rel=>exact ⟨k+1,by omega,by go_num,HJ',hbr2⟩
       case measure=>first|(simp[intOf];omega)|simp[intOf]
      ·have e1:(lk !=si)=true:=neq_yes heq
       have HF:Hid (tyF s n e=⟨28,y.line,y.col⟩):=by
        show _=_
        have h3:needF (si==0||lk==si) y.line y.col=⟨28,y.line,y.col⟩:=need_ne (by rw[HSB.out,ne_beq heq];rfl)
        rw[HE.out,HO.out.1,fs_stop HJ.out HSA.out (by rw[h3];exact n28 _ _),h3]
        exact ft2_1 (n28 _ _)
       refine' zq151
       clear heq
       refine' zq136
       have q9:Below wr.heap.size wr w9:=Below.trans (by repeat (first|(with_reducible assumption)|(with_reducible exact Below.refl _ _)|(with_reducible refine Below.drew ?_)|(with_reducible refine below_drewN' ?_ _)|(with_reducible refine Below.alloc ?_ (by first|assumption|omega|(simp;omega)|simp|(simp[World.setCell];omega)|simp[World.setCell]) _)|(with_reducible refine Below.setCell ?_ (by first|assumption|omega|(simp;omega)|simp|(simp[World.setCell];omega)|simp[World.setCell]) _))) (hb9.mono (by first|exact Nat.le_refl _|simp|(simp;omega)|omega))
       refine' zq208
       refine' zq9
    ·obtain rfl:k=e.args.length:=by omega
     have HEA:Hid (fstl (sameArgs e.op e l)=ft0):=by
      refine fs_end fun j hj=>HJ.out j ?_
      unfold sameArgs at hj
      rw[List.length_mapIdx] at hj
      exact hj
     go_upto_region 28 with (fail)
     by_cases hsi:si=0
     ·have s0:(si==0)=true:=eq_beq hsi
      have h2':=HP2.out hsi
      obtain ⟨l0,l1,rfl⟩:=len_2 (HLL.out.trans h2')
      have q0:=(HQ5.out.bel hbr2).2.2 0 l0 rfl
      have q1:=(HQ5.out.bel hbr2).2.2 1 l1 rfl
      have HD:=Lib.hid (show opF s n e [l0,l1]=needF (l0==l1) e.line e.col from by rw[HO.out.1,HEA.out,ft2_l,show (si !=0)=false from neq_no hsi];rfl)
      clear hsi
      by_cases heq:l0=l1
      ·refine' zq216
       have HK:Hid (so=tyK s n e):=(HKE.out.trans HO.out.2).symm
       clear heq
       refine' zq156
       refine' zq16
      ·have e1:(l0 !=l1)=true:=neq_yes heq
       refine' zq231
       refine' zq53
     ·have s0:(si==0)=false:=ne_beq hsi
      have HF:Hid (tyF s n e=ft0):=by show _=_;rw[HE.out,HO.out.1,HEA.out,ft2_l,show (si !=0)=true from neq_yes hsi];rfl
      have HK:Hid (so=tyK s n e):=(HKE.out.trans HO.out.2).symm
      clear hsi
      refine' zq156
      refine' zq16
set_option linter.unusedSimpArgs false in
theorem rexpr_d (s:List Nd) (A:Option Addr) (cap:Nat) (n:Nd) (a:NdA) (h1:s.length≤cap) (h2:cap≤maxLen) (hl:(vrs n).length≤10000) (e:Ex) (HI:∀x∈e.args,ExprC s A cap n a x) (o:(e.op=22∨e.op=23)∨(e.op=24∨e.op=25)):ExprC s A cap n a e:=by
 refine' zq4
 go_loopw[8,9] (fun v i wr=>∃(k:Nat) (v0:Value),k≤e.args.length∧i= .int .i64 k∧v0=v∧wr.ownsRow W1.heap.size 3 1 v0 k (intsV ((argKs s n e).take k))∧Hid (∀j,j<k→∀x,e.args[j]? =some x→(tyF s n x).err=0)∧Below W1.heap.size W1 wr) (fun _ i _=>e.args.length-(intOf i).toNat)
 case atStart=>exact ⟨0,_,Nat.zero_le _,rfl,rfl,World.ownsRow_nil _ _ _ _,fun j h=>absurd h (by omega),Below.refl _ _⟩
 case round=>
  refine' zq33
  by_cases hlt:k<e.args.length
  ·refine' zq0
  ·refine' zq8
   rcases HOO.out with o|o
   ·refine' zq65
    have g24:decide ((24:Int)≤e.op)=false:=dec_no (by omega)
    have o27:(e.op==27)=false:=eq_no (by omega)
    have HO:=Lib.hid (op_22 (s:=s) (n:=n) (l:=l) o)
    refine' zq89
    have HD:Hid (opF s n e [l0,l1]=needF (l0==l1) e.line e.col):=HO.out.1
    refine' zq24
    have q0:=HQ5.out.2.2 0 l0 rfl
    have q1:=HQ5.out.2.2 1 l1 rfl
    by_cases heq:l0=l1
    ·refine' zq216
     have HK:Hid (l0=tyK s n e):=(HKE.out.trans HO.out.2).symm
     clear heq
     refine' zq165
     refine' zq16
    ·have e1:(l0 !=l1)=true:=neq_yes heq
     refine' zq37
   ·refine' zq138
    have HO:=Lib.hid (op_24 (s:=s) (n:=n) (l:=l) o)
    refine' zq100
    have HQ:=Lib.hid hq
    refine' zq232
    by_cases ht:ty=2
    rotate_left 1
    ·have t1:(ty !=2)=true:=neq_yes ht
     have HF:Hid (tyF s n e=⟨28,e.line,e.col⟩):=by show _=_;rw[HE.out,HO.out.1,need_ne (ne_beq ht)]
     refine' zq39
    refine' zq127
    have HF:Hid (tyF s n e=ft0):=by show _=_;rw[HE.out,HO.out.1,HT2.out];rfl
    have HK:Hid (l0=tyK s n e):=(HKE.out.trans HO.out.2).symm
    go_upto_region 37 with (fail)
    refine' zq156
    refine' zq16
set_option linter.unusedSimpArgs false in
theorem rexpr_e (s:List Nd) (A:Option Addr) (cap:Nat) (n:Nd) (a:NdA) (h1:s.length≤cap) (h2:cap≤maxLen) (hl:(vrs n).length≤10000) (e:Ex) (HI:∀x∈e.args,ExprC s A cap n a x) (o:e.op=26∨e.op=27):ExprC s A cap n a e:=by
 refine' zq4
 go_loopw[8,9] (fun v i wr=>∃(k:Nat) (v0:Value),k≤e.args.length∧i= .int .i64 k∧v0=v∧wr.ownsRow W1.heap.size 3 1 v0 k (intsV ((argKs s n e).take k))∧Hid (∀j,j<k→∀x,e.args[j]? =some x→(tyF s n x).err=0)∧Below W1.heap.size W1 wr) (fun _ i _=>e.args.length-(intOf i).toNat)
 case atStart=>exact ⟨0,_,Nat.zero_le _,rfl,rfl,World.ownsRow_nil _ _ _ _,fun j h=>absurd h (by omega),Below.refl _ _⟩
 case round=>
  refine' zq33
  by_cases hlt:k<e.args.length
  ·refine' zq0
  ·refine' zq8
   rcases HOO.out with o|o
   ·refine' zq138
    have HO:=Lib.hid (op_26 (s:=s) (n:=n) (l:=l) o)
    refine' zq89
    refine' zq232
    by_cases ht:ty=2
    rotate_left 1
    ·have t1:(ty !=2)=true:=neq_yes ht
     have HF:Hid (tyF s n e=⟨28,e.line,e.col⟩):=by show _=_;rw[HE.out,HO.out.1,need_ne (ne_beq ht)];exact ft2_1 (n28 _ _)
     refine' zq39
    refine' zq127
    have q1:=HQ6.out.2.2 1 l1 rfl
    have HD:Hid (opF s n e [l0,l1]=needF (l0==l1) e.line e.col):=by show _=_;rw[HO.out.1,HT2.out];exact ft2_l _
    by_cases heq:l0=l1
    ·refine' zq216
     have HK:Hid (l0=tyK s n e):=(HKE.out.trans HO.out.2).symm
     clear heq
     go_upto_region 37 with (fail)
     refine' zq156
     refine' zq16
    ·have e1:(l0 !=l1)=true:=neq_yes heq
     refine' zq231
     refine' zq151
     clear heq
     go_upto_region 37 with (fail)
     refine' zq156
     refine' zq136
     have q9:Below (w6.drewN nq).heap.size (w6.drewN nq) w9:=Below.trans (by repeat (first|(with_reducible assumption)|(with_reducible exact Below.refl _ _)|(with_reducible refine Below.drew ?_)|(with_reducible refine below_drewN' ?_ _)|(with_reducible refine Below.alloc ?_ (by first|assumption|omega|(simp;omega)|simp|(simp[World.setCell];omega)|simp[World.setCell]) _)|(with_reducible refine Below.setCell ?_ (by first|assumption|omega|(simp;omega)|simp|(simp[World.setCell];omega)|simp[World.setCell]) _))) (hb9.mono (by first|exact Nat.le_refl _|simp|(simp;omega)|omega))
     refine' zq209
     refine' zq9
   ·refine' zq65
    have g24:decide ((24:Int)≤e.op)=true:=dec_yes (by omega)
    have g26:decide (e.op≤26)=false:=dec_no (by omega)
    have o27:=eq_yes o
    have HO:=Lib.hid (op_27 (s:=s) (n:=n) (l:=l) o)
    have hp:=HPAR.out.2.2.2.2.2 o
    obtain ⟨l0,l1,l2',rfl⟩:=len_3 (HLL.out.trans hp)
    obtain ⟨q,c,rfl,hc1,hc2,hq⟩:=ints_rdn HVV.out hgb (n:=3) rfl (by decide)
    have HQ:=Lib.hid hq
    have p0:0<e.args.length:=by omega
    have p1:(0:Int)<(e.args.length:Int):=by omega
    refine' zq24
    obtain ⟨b3,off3,y,A3,cap3,hA3,hb3,hyk,hym,hok',hcap',hmax',hy',y0,y1,y2,y3,y4,y5⟩:=(HX.out w5 hB5).at_ p0
    rw[hA3] at x3
    rw[Nat.zero_mul,Nat.add_zero] at y4 y5
    rw[(arg_at hyk).1,(arg_at hyk).2] at HO
    have q0:=HQ5.out.2.2 0 l0 rfl
    have q1:=HQ5.out.2.2 1 l1 rfl
    have q2:=HQ5.out.2.2 2 l2' rfl
    clear hA3 hyk hym hok' hcap' hmax' hy' y0 y1 y2 y3
    by_cases ht:l0=2
    rotate_left 1
    ·have t1:(l0 !=2)=true:=neq_yes ht
     have HF:Hid (tyF s n e=⟨28,y.line,y.col⟩):=by
      show _=_
      rw[HE.out,HO.out.1]
      have h3:needF ([l0,l1,l2'].getD 0 0==2) y.line y.col=⟨28,y.line,y.col⟩:=need_ne (ne_beq ht)
      rw[h3]
      exact ft2_1 (n28 _ _)
     refine' zq151
     clear ht
     refine' zq136
     have q9:Below w5.heap.size w5 w9:=Below.trans (by repeat (first|(with_reducible assumption)|(with_reducible exact Below.refl _ _)|(with_reducible refine Below.drew ?_)|(with_reducible refine below_drewN' ?_ _)|(with_reducible refine Below.alloc ?_ (by first|assumption|omega|(simp;omega)|simp|(simp[World.setCell];omega)|simp[World.setCell]) _)|(with_reducible refine Below.setCell ?_ (by first|assumption|omega|(simp;omega)|simp|(simp[World.setCell];omega)|simp[World.setCell]) _))) (hb9.mono (by first|exact Nat.le_refl _|simp|(simp;omega)|omega))
     have rf9:=rf5.below q9 rf5.lt
     have b9:=Below.trans hB5 (q9.mono (Below.size hB5))
     refine' zq9
    have t1:(l0 !=2)=false:=neq_no ht
    have HD:Hid (opF s n e [l0,l1,l2']=needF (l1==l2') e.line e.col):=by
     show _=_
     have h3:needF ([l0,l1,l2'].getD 0 0==2) y.line y.col=ft0:=by rw[show ([l0,l1,l2'].getD 0 0==2)=true from eq_beq ht];rfl
     rw[HO.out.1,h3]
     exact ft2_l _
    clear ht
    by_cases heq:l1=l2'
    ·have e1:(l1 !=l2')=false:=neq_no heq
     have HF:Hid (tyF s n e=ft0):=by show _=_;rw[HE.out,HD.out,eq_beq heq];rfl
     have HK:Hid (l1=tyK s n e):=(HKE.out.trans HO.out.2).symm
     clear heq
     refine' zq165
     refine' zq16
    ·have e1:(l1 !=l2')=true:=neq_yes heq
     refine' zq37
theorem rtyx_any (s:List Nd) (A:Option Addr) (cap:Nat) (n:Nd) (a:NdA) (h1:s.length≤cap) (h2:cap≤maxLen) (hl:(vrs n).length≤10000) (e:Ex):ExprC s A cap n a e:=by
 induction e using Ex.ind with
 |h e HI=>
 intro A2 cap2 w hs hn hok hl2 hm2 hx hk
 have hp:=(parts_of hk.own.plain).1
 rcases ops_all hp with o|o|o|o|o|o|o|o|o|o
 ·refine' zq201
 ·refine' zq201
 ·refine' zq201
 ·exact rexpr_b s A cap n a h1 h2 hl e HI (by omega) A2 cap2 w hs hn hok hl2 hm2 hx hk
 ·exact rexpr_c s A cap n a h1 h2 hl e HI (by omega) A2 cap2 w hs hn hok hl2 hm2 hx hk
 ·refine' zq201
 ·exact rexpr_d s A cap n a h1 h2 hl e HI (by omega) A2 cap2 w hs hn hok hl2 hm2 hx hk
 ·exact rexpr_d s A cap n a h1 h2 hl e HI (by omega) A2 cap2 w hs hn hok hl2 hm2 hx hk
 ·exact rexpr_e s A cap n a h1 h2 hl e HI (by omega) A2 cap2 w hs hn hok hl2 hm2 hx hk
 ·exact rexpr_e s A cap n a h1 h2 hl e HI (by omega) A2 cap2 w hs hn hok hl2 hm2 hx hk
end Go.Proofs.YtgjfkidbfmbjoaaGreat
