/-
  What is wrong first with a source's types: the contract of types.Check. Rising lists of names, and what hangs on what by steps: plain.
-/
import Derived.Test.YtgjfkidbfmbjoaaGreatZz
import Derived.Test.YtgjfkidbfmbjoaaGreatTyE
import Derived.Sort.KeysCollected
import Derived.Sort.Walk0
import Derived.Test.YtgjfkidbfmbjoaaGreatTyP
set_option maxHeartbeats 4000000
set_option maxRecDepth 100000
namespace Go.Proofs.YtgjfkidbfmbjoaaGreat
open Go.RowKit
attribute [local go_sem ↓] Go.wp_at_zero Go.wp_at_succ
theorem tcheck_any (s:List Nd) (A:Option Addr) (cap:Nat) (w:World) (sm:SrcSm s) (h1:s.length≤cap) (h2:cap≤maxLen) (h:Nds w w.heap.size A s):
  Calls Tryz.prog 56 #[srcV s A cap] w fun r w'=>r= .returned (ftV (typesF s))∧Below w.heap.size w w':=by
 refine' zq7
 have HMC:=Lib.hid h2
 refine' zq30
 clear h sm
 go_enter Tryz.func56,Tryz.ntmps56
 refine' zq112
 refine' zq20
 have HF0:Hid (typesF s=ft2 f (fstL (fun _ n=>nodeTF s n) s)):=by show _=_;rw[←HFN.out];rfl
 rw[HFN.out]
 by_cases hf:f.err=0
 rotate_left 1
 ·have hf1:(f.err !=0)=true:=neq_yes hf
  have HF:Hid (typesF s=f):=by show _=_;rw[HF0.out,ft2_1 hf]
  clear hf
  refine' zq10
 have hf1:(f.err !=0)=false:=neq_no hf
 have HF1:Hid (typesF s=fstL (fun _ n=>nodeTF s n) s):=by show _=_;rw[HF0.out,ft2_0 hf]
 have HZ:Hid ((scopeF s).err=0):=by show _=_;rw[HFN.out];exact hf
 refine' zq17
 have c0:=rs4.src
 clear rs2 rf2 hB2 hs2 ba hl2 HF0
 go_wp2_with fail
 clear c0
 go_loopw[22] (fun i wr=>∃k:Nat,k≤s.length∧i= .int .i64 k∧Hid (∀j,j<k→∀x,s[j]? =some x→(nodeTF s x).err=0)∧Below w4.heap.size w4 wr) (fun i _=>s.length-(intOf i).toNat)
 case atStart=>exact ⟨0,Nat.zero_le _,rfl,fun j h=>absurd h (by omega),Below.refl _ _⟩
 case round=>
  refine' zq170
  by_cases hlt:k<s.length
  rotate_left 1
  ·obtain rfl:k=s.length:=by omega
   have HF:Hid (typesF s=ft0):=HF1.out.trans (fstL_end HN.out)
   refine' zq11
  refine' zq68
  have hnm:=List.mem_of_getElem? hn
  have HNM:=Lib.hid hnm
  have HNS:=Lib.hid (HSM.out.all n hnm)
  have HL:=Lib.hid (show (vrs n).length≤10000 by have:=HNS.out.len;omega)
  have HKNn:=Lib.hid (scope_kn HZ.out n hnm)
  have gv:=hat.mv
  have gq:=hat.mq
  have lv:=hat.lv
  have lq:=hat.lq
  refine' zq80
  refine' zq230
  have HFn:Hid ((nodeTF s n).err≠0→typesF s=nodeTF s n):=fun g=>by
   rw[HF1.out,fstL_stop (f:=fun _ n=>nodeTF s n) HN.out HX.out g]
  have HNF:Hid (nodeTF s n=ft2 (fstl (n.vars.map (clkTF n))) (fstl (n.eqs.map (eqnTF s n)))):=rfl
  have rn1:=Row.new wr (ndArr n a) 39
  refine' zq43
  clear hn hat hnm
  go_upto_region 7 with (fail)
  clear d0 d1 d2 d3 d4 d5 d6 c0
  refine' zq259
  have rf6:=rf.below ba rf.lt
  have rs6:=rs.below ba rs.lt
  have hB6:=hB.trans (ba.mono hsB)
  have hs6:=hB6.size
  refine' zq118
  have c0:=rs6.src
  obtain ⟨e0,e1,e2,e3,e4,e5,e6⟩:=rn1.nd
  have rt0:TpRow (w6.alloc (.cells #[.slice (some ⟨b,off,none⟩) s.length cap,.string n.name,.slice a.ai n.ins.length a.ci,.slice a.ao n.outs.length a.co,.slice a.av n.vars.length a.cv,.slice a.aq n.eqs.length a.cq,.int .i64 n.line,.int .i64 n.col,.int .i64 0,.int .i64 0,.int .i64 0] 175)) w6.heap.size ⟨s,some ⟨b,off,none⟩,cap,n,a⟩ ft0:=Row.new w6 _ _
  have bt:Below w6.heap.size w6 (w6.alloc (.cells #[.slice (some ⟨b,off,none⟩) s.length cap,.string n.name,.slice a.ai n.ins.length a.ci,.slice a.ao n.outs.length a.co,.slice a.av n.vars.length a.cv,.slice a.aq n.eqs.length a.cq,.int .i64 n.line,.int .i64 n.col,.int .i64 0,.int .i64 0,.int .i64 0] 175)):=(by repeat (first|(with_reducible assumption)|(with_reducible exact Below.refl _ _)|(with_reducible refine Below.drew ?_)|(with_reducible refine below_drewN' ?_ _)|(with_reducible refine Below.alloc ?_ (by first|assumption|omega|(simp;omega)|simp|(simp[World.setCell];omega)|simp[World.setCell]) _)|(with_reducible refine Below.setCell ?_ (by first|assumption|omega|(simp;omega)|simp|(simp[World.setCell];omega)|simp[World.setCell]) _)))
  have hsw7:w6.heap.size+1≤(w6.alloc (.cells #[.slice (some ⟨b,off,none⟩) s.length cap,.string n.name,.slice a.ai n.ins.length a.ci,.slice a.ao n.outs.length a.co,.slice a.av n.vars.length a.cv,.slice a.aq n.eqs.length a.cq,.int .i64 n.line,.int .i64 n.col,.int .i64 0,.int .i64 0,.int .i64 0] 175)).heap.size:=by simp
  go_upto_region 8 with (fail)
  clear e0 e1 e2 e3 e4 e5 e6 c0
  generalize hW7:w6.alloc (.cells #[.slice (some ⟨b,off,none⟩) s.length cap,.string n.name,.slice a.ai n.ins.length a.ci,.slice a.ao n.outs.length a.co,.slice a.av n.vars.length a.cv,.slice a.aq n.eqs.length a.cq,.int .i64 n.line,.int .i64 n.col,.int .i64 0,.int .i64 0,.int .i64 0] 175)=w7 at*
  clear hW7
  have rf7:=rf6.below bt rf6.lt
  have rn7:=rn1.below bt rn1.lt
  have hB7:=hB6.trans (bt.mono hs6)
  have hs7:=hB7.size
  have b07:=ba.trans (bt.mono hsa)
  have hwo:=rn1.lt
  have hrf:=rf6.lt
  obtain ⟨g,HG⟩:∃g,Hid (w6.heap.size=g):=⟨_,rfl⟩
  have hgw:w6.heap.size=g:=HG.out
  rw[hgw] at rt0
  rw[show w6.heap.size=g from hgw]
  have hlg:g<w7.heap.size:=by omega
  have hlo:w.heap.size≤g:=by omega
  have hwg:wo.heap.size<g:=by omega
  have hrg:w.heap.size+1<g:=by omega
  have HT7:Hid (TpAt w7 w.heap.size g ⟨s,some ⟨b,off,none⟩,cap,n,a⟩ ft0):=⟨rt0,hlo,HAT.out w7 b07,HS.out w7 hB7,HL.out,h1,HMC.out,fz0⟩
  clear hgw bt rt0
  obtain ⟨e0,e1,e2,e3,e4,e5,e6⟩:=rn7.nd
  go_wp2_with fail
  clear e0 e1 e2 e3 e4 e5 e6
  go_loopw[33] (fun i wr=>∃p:Nat,p≤n.vars.length∧i= .int .i64 p∧TpL w7 w.heap.size g ⟨s,some ⟨b,off,none⟩,cap,n,a⟩ (accF ft0 (n.vars.map (clkTF n)) p) wr) (fun i _=>n.vars.length-(intOf i).toNat)
  case atStart=>exact ⟨0,Nat.zero_le _,rfl,by rw[acc_0 fz0];exact HT7.out,Upd.refl _ _⟩
  case round=>
   obtain ⟨p,hp,rfl,ht,hu⟩:=hrel
   refine' zq239
   have rn8:=Row.upd hu rn7 (by omega)
   clear ht hu
   by_cases hlp:p<n.vars.length
   ·obtain ⟨b',off',x,A',cap',hA,hb',hx,ok,g1,g2,hxs,d0,d1,d2,d3,d4⟩:=HT.out.n.sv.vr hlp
    have hA:a.av=some ⟨b',off',none⟩:=hA
    rw[hA]
    have HACC:Hid (ft2 (accF ft0 (n.vars.map (clkTF n)) p) (clkTF n x)=accF ft0 (n.vars.map (clkTF n)) (p+1)):=(acc_succ (by rw[List.getElem?_map,hx];rfl) clkTF_fz).symm
    refine' zq205
    have HXS:Hid (∀W,Below w.heap.size wr W→Sl W w.heap.size 2 isLit A' x.clock):=fun W hW=>lits_keep hxs (keeps_of hW) (Nat.le_refl _)
    refine' zq235
    refine' zq40
    have hsx:wr.heap.size+1≤(wr.alloc (.cells (vrArr x A' cap') 89)).heap.size:=by simp
    clear hA hx hxs ok
    go_upto_region 11 with (fail)
    clear d0 d1 d2 d3 d4
    generalize hW9:wr.alloc (.cells (vrArr x A' cap') 89)=w9 at*
    clear hW9
    have HT9:=Lib.hid (HT.out.bel bx)
    have HU9:=Lib.hid (Upd.trans HU.out (UpdM.of (bm:=g) bx))
    have HB9:Hid (Below w.heap.size wr w9):=bx.mono (by omega)
    obtain ⟨wv,rfl⟩:∃wv:World,wv=wr:=⟨_,rfl⟩
    obtain ⟨z0,z1,z2,z3,z4⟩:=rx.vr
    go_wp2_with fail
    clear z0 z1 z2 z3 z4
    go_loopw[40] (fun i wr=>∃j:Nat,j≤x.clock.length∧i= .int .i64 j∧TpL w9 w.heap.size g ⟨s,some ⟨b,off,none⟩,cap,n,a⟩ (accF (accF ft0 (n.vars.map (clkTF n)) p) (clkTs n x) j) wr) (fun i _=>x.clock.length-(intOf i).toNat)
    case atStart=>exact ⟨0,Nat.zero_le _,rfl,by rw[acc_0 HT9.out.fz];exact HT9.out,Upd.refl _ _⟩
    case round=>
     obtain ⟨j,hj,rfl,ht,hu⟩:=hrel
     have HT10:=Lib.hid ht
     have HU10:=Lib.hid hu
     have hsr2:=hu.size
     have rx10:=Row.upd hu rx (by omega)
     clear ht hu
     by_cases hlj:j<x.clock.length
     ·obtain ⟨b3,off3,c,hA3,hb3,hc,hcn,f0,f1⟩:=(HXS.out wr (HB9.out.trans (UpdM.bel HU10.out hlo (by omega)))).lit hlj
      subst hA3
      have HACC2:Hid (ft2 (accF (accF ft0 (n.vars.map (clkTF n)) p) (clkTs n x) j) (needF (tyOf n c.name==2) x.line x.col)=accF (accF ft0 (n.vars.map (clkTF n)) p) (clkTs n x) (j+1)):=(acc_succ (by unfold clkTs;rw[List.getElem?_map,hc];rfl) (need_fz _ _ _)).symm
      have rl:=Row.new wr #[.string c.name,.bool c.no] 158
      have bl:Below wr.heap.size wr (wr.alloc (.cells #[.string c.name,.bool c.no] 158)):=(by repeat (first|(with_reducible assumption)|(with_reducible exact Below.refl _ _)|(with_reducible refine Below.drew ?_)|(with_reducible refine below_drewN' ?_ _)|(with_reducible refine Below.alloc ?_ (by first|assumption|omega|(simp;omega)|simp|(simp[World.setCell];omega)|simp[World.setCell]) _)|(with_reducible refine Below.setCell ?_ (by first|assumption|omega|(simp;omega)|simp|(simp[World.setCell];omega)|simp[World.setCell]) _)))
      clear hc
      go_upto_region 14 with (fail)
      clear f0 f1
      generalize hW11:wr.alloc (.cells #[.string c.name,.bool c.no] 158)=w11 at*
      clear hW11
      have HT11:=Lib.hid (HT10.out.bel bl)
      have HU11:=Lib.hid (Upd.trans HU10.out (UpdM.of (bm:=g) bl))
      have rx11:=rx10.below bl rx10.lt
      obtain ⟨z0,z1,z2,z3,z4⟩:=rx11.vr
      have y0:=(rl.cell 0).trans rfl
      have HTR:=Lib.hid (truth_any ⟨s,some ⟨b,off,none⟩,cap,n,a⟩ _ w.heap.size g c.name x.line x.col w11 HT11.out)
      go_wp2_with fail
      refine HTR.out.mono ?_
      rintro r w12 ⟨rfl,ht12,hu12⟩
      have ht13:TpAt w12 w.heap.size g ⟨s,some ⟨b,off,none⟩,cap,n,a⟩ (accF (accF ft0 (n.vars.map (clkTF n)) p) (clkTs n x) (j+1)):=by rw[←HACC2.out];exact ht12
      have HT12:=Lib.hid ht13
      have HU12:=Lib.hid (Upd.trans HU11.out hu12)
      clear ht12 ht13 hu12 z0 z1 z2 z3 z4 y0
      go_wp2_with fail
      go_roundw
      case rel=>exact ⟨j+1,by omega,by go_num,HT12.out,HU12.out⟩
      case measure=>first|(simp[intOf];omega)|simp[intOf]
     ·obtain rfl:j=x.clock.length:=by omega
      have HEA:Hid (accF (accF ft0 (n.vars.map (clkTF n)) p) (clkTs n x) x.clock.length=accF ft0 (n.vars.map (clkTF n)) (p+1)):=by
       show _=_
       rw[←HACC.out]
       have:=acc_all (f:=accF ft0 (n.vars.map (clkTF n)) p) (l:=clkTs n x)
       rwa [show (clkTs n x).length=x.clock.length from by unfold clkTs;exact List.length_map _] at this
      rw[HEA.out] at HT10
      go_wp2_with fail
      go_roundw
      case rel=>exact ⟨p+1,by omega,by go_num,HT10.out,Upd.trans HU9.out HU10.out⟩
      case measure=>first|(simp[intOf];omega)|simp[intOf]
   ·obtain rfl:p=n.vars.length:=by omega
    have HEA:Hid (accF ft0 (n.vars.map (clkTF n)) n.vars.length=fstl (n.vars.map (clkTF n))):=by
     show _=_
     have:=acc_all (f:=ft0) (l:=n.vars.map (clkTF n))
     rwa [List.length_map,ft2_l] at this
    rw[HEA.out] at HT
    obtain ⟨w8,rfl⟩:∃w8:World,w8=wr:=⟨_,rfl⟩
    obtain ⟨e0,e1,e2,e3,e4,e5,e6⟩:=rn8.nd
    go_wp2_with fail
    clear e0 e1 e2 e3 e4 e5 e6
    go_loopw[55] (fun i wr=>∃p:Nat,p≤n.eqs.length∧i= .int .i64 p∧TpL w8 w.heap.size g ⟨s,some ⟨b,off,none⟩,cap,n,a⟩ (accF (fstl (n.vars.map (clkTF n))) (n.eqs.map (eqnTF s n)) p) wr) (fun i _=>n.eqs.length-(intOf i).toNat)
    case atStart=>exact ⟨0,Nat.zero_le _,rfl,by rw[acc_0 fz_fstl];exact HT.out,Upd.refl _ _⟩
    case round=>
     obtain ⟨p,hp,rfl,ht,hu⟩:=hrel
     have HT9:=Lib.hid ht
     have HU9:=Lib.hid hu
     have hsr2:=hu.size
     have HUA:=Lib.hid (Upd.trans HU.out hu)
     clear ht hu
     by_cases hlp:p<n.eqs.length
     ·obtain ⟨b',off',q,A1,k1,A2,k2,hA,hb',hq,ok,lq1,mq1,sl1,lq2,mq2,sl2,d0,d1,d2,d3,d4,d5,d6,d7,d8⟩:=HT9.out.n.sq.eqn hlp
      have hA:a.aq=some ⟨b',off',none⟩:=hA
      rw[hA]
      have hqm:=List.mem_of_getElem? hq
      have HACC:Hid (ft2 (accF (fstl (n.vars.map (clkTF n))) (n.eqs.map (eqnTF s n)) p) (eqnTF s n q)=accF (fstl (n.vars.map (clkTF n))) (n.eqs.map (eqnTF s n)) (p+1)):=(acc_succ (by rw[List.getElem?_map,hq];rfl) eqnTF_fz).symm
      refine' zq192
      refine' zq35
      have HT10:=Lib.hid (HT9.out.bel bq)
      have HQE:=Lib.hid (equation_tany ⟨s,some ⟨b,off,none⟩,cap,n,a⟩ w.heap.size g q _ A1 k1 A2 k2 _ HT10.out ok.right mq1 (strs_keep sl1 (keeps_of (bq.mono (by omega))) (Nat.le_refl _)) lq2 mq2 (sl2.below (bq.mono (by omega))) (tykn_of HZ.out HNM.out hqm) (come_len HZ.out HNM.out hqm) (by have:=(HKNn.out.rt.1 q hqm).2.2.1;omega))
      clear hA hq ok sl1 sl2 hqm
      go_upto_region 20 with (fail)
      clear d0 d1 d2 d3 d4 d5 d6 d7 d8
      generalize hW10:wr.alloc (.cells (eqArr q A1 k1 A2 k2) 81)=w10 at*
      clear hW10
      have HU10:=Lib.hid (Upd.trans HU9.out (UpdM.of (bm:=g) bq))
      obtain ⟨z0,z1,z2,z3,z4,z5,z6,z7,z8⟩:=re.eqn
      go_wp2_with fail
      refine HQE.out.mono ?_
      rintro r w11 ⟨rfl,ht11,hu11⟩
      have ht12:TpAt w11 w.heap.size g ⟨s,some ⟨b,off,none⟩,cap,n,a⟩ (accF (fstl (n.vars.map (clkTF n))) (n.eqs.map (eqnTF s n)) (p+1)):=by rw[←HACC.out];exact ht11
      have HT12:=Lib.hid ht12
      have HU12:=Lib.hid (Upd.trans HU10.out hu11)
      clear ht11 ht12 hu11 z0 z1 z2 z3 z4 z5 z6 z7 z8
      go_wp2_with fail
      go_roundw
      case rel=>exact ⟨p+1,by omega,by go_num,HT12.out,HU12.out⟩
      case measure=>first|(simp[intOf];omega)|simp[intOf]
     ·obtain rfl:p=n.eqs.length:=by omega
      have HEB:Hid (accF (fstl (n.vars.map (clkTF n))) (n.eqs.map (eqnTF s n)) n.eqs.length=nodeTF s n):=by
       show _=_
       have:=acc_all (f:=fstl (n.vars.map (clkTF n))) (l:=n.eqs.map (eqnTF s n))
       rwa [List.length_map,←HNF.out] at this
      rw[HEB.out] at HT9
      have HBD:=Lib.hid (bad_any ⟨s,some ⟨b,off,none⟩,cap,n,a⟩ _ g wr HT9.out.row HT9.out.fz)
      have hbB:=UpdM.bel HUA.out (show w6.heap.size≤g by rw[HG.out];exact Nat.le_refl _) (by omega)
      have hBe:=hB7.trans (UpdM.bel HUA.out hlo (by omega))
      have rfe:=Row.upd HUA.out rf7 (by omega)
      by_cases hbad:(nodeTF s n).err=0
      ·have HB:Hid (badB (nodeTF s n)=false):=neq_no hbad
       have HN':=Lib.hid (step_uptoI (P:=fun _ x=>(nodeTF s x).err=0) HN.out HX.out hbad)
       have hbz:Below w4.heap.size w4 wr:=(hbr.trans (b07.mono hszr)).trans (UpdM.bel HUA.out (by omega) (by omega))
       clear hbad
       go_wp2_with fail
       refine HBD.out.mono ?_
       rintro r w9 ⟨rfl,rfl⟩
       rw[HB.out]
       go_wp2_with fail
       go_roundw
       case rel=>exact ⟨k+1,by omega,by go_num,HN',hbz⟩
       case measure=>first|(simp[intOf];omega)|simp[intOf]
      ·have HB:Hid (badB (nodeTF s n)=true):=neq_yes hbad
       have HF:Hid (typesF s=nodeTF s n):=HFn.out hbad
       clear hbad
       go_wp2_with fail
       refine HBD.out.mono ?_
       rintro r w9 ⟨rfl,rfl⟩
       rw[HB.out]
       obtain ⟨-,t8,t9,t10⟩:=HT9.out.row.tp
       obtain ⟨⟨k0,k1',k2'⟩,g0,g1,g2⟩:=rfe.three
       go_wp2_with fail
       exact bodyPost_ret (res1 rfl Tryz.underlying31 rfl (by kernel_rfl) rfl (rfe.set3 _ _ _)) rfl ⟨(congrArg (fun f=>Ending.returned (ftV f)) HF.out).symm,below_set3 hBe (by first|omega|(simp;omega)|simp) _ _ _⟩
def ltN (a b:ByteArray):Prop:=a.data.toList<b.data.toList
theorem ltN_irrefl (a:ByteArray):¬ltN a a:=List.lt_irrefl a.data.toList
theorem ltN_trans {a b c:ByteArray} (h:ltN a b) (k:ltN b c):ltN a c:=(List.lt_trans h k:a.data.toList<c.data.toList)
theorem nmb_inj {a b:ByteArray} (h:a.data.toList=b.data.toList):a=b:=WideShapes.bytes_inj h
theorem ltN_of {a b:ByteArray} (h:¬ltN a b) (hne:a≠b):ltN b a:=by
 unfold ltN at*
 have h1:b.data.toList≤a.data.toList:=List.not_lt.1 h
 rcases List.le_iff_lt_or_eq.1 h1 with g|g
 ·exact g
 ·exact absurd (nmb_inj g).symm hne
abbrev Rising (l:List ByteArray):Prop:=l.Pairwise ltN
theorem Rising.nodup {l:List ByteArray} (h:Rising l):l.Nodup:=by
 rw[List.nodup_iff_pairwise_ne]
 exact h.imp fun {a b} (g:ltN a b) (e:a=b)=>ltN_irrefl a (by rw[←e] at g;exact g)
theorem nodup_once {l:List ByteArray} (h:l.Nodup):Once l:=fun i j x hi hj=>by
 obtain ⟨h1,h2⟩:=List.getElem?_eq_some_iff.1 hi
 obtain ⟨h3,h4⟩:=List.getElem?_eq_some_iff.1 hj
 exact (List.getElem_inj h).1 (h2.trans h4.symm)
theorem nodup_len {l m:List ByteArray} (h:l.Nodup) (hs:∀x∈l,x∈m):l.length≤m.length:=nodup_le (nodup_once h) hs
theorem rising_eq {l m:List ByteArray} (hl:Rising l) (hm:Rising m) (h:∀x,x∈l↔x∈m):l=m:=
 List.Perm.eq_of_pairwise (le:=ltN) (fun a _ _ _ h1 h2=>absurd (ltN_trans h1 h2) (ltN_irrefl a)) hl hm ((List.perm_ext_iff_of_nodup hl.nodup hm.nodup).2 h)
open Classical in
noncomputable def insR:List ByteArray→ByteArray→List ByteArray
 | [],s=> [s]
 |x::l,s=>if ltN s x then s::x::l else x::insR l s
theorem insR_mem {l:List ByteArray} {s x:ByteArray}:x∈insR l s↔x=s∨x∈l:=by
 induction l with
 |nil=>simp[insR]
 |cons y l ih=>
  unfold insR
  split
  ·simp
  ·rw[List.mem_cons,ih,List.mem_cons]
   constructor
   ·rintro (h|h|h)
    ·exact .inr (.inl h)
    ·exact .inl h
    ·exact .inr (.inr h)
   ·rintro (h|h|h)
    ·exact .inr (.inl h)
    ·exact .inl h
    ·exact .inr (.inr h)
theorem insR_len {l:List ByteArray} {s:ByteArray}:(insR l s).length=l.length+1:=by
 induction l with
 |nil=>rfl
 |cons y l ih=>
  unfold insR
  split
  ·rfl
  ·simp[ih]
theorem insR_rising {l:List ByteArray} {s:ByteArray} (h:Rising l) (hs:s∉l):Rising (insR l s):=by
 induction l with
 |nil=>simp[insR]
 |cons y l ih=>
  have h:=List.pairwise_cons.1 h
  unfold insR
  split
  ·rename_i g
   show List.Pairwise ltN _
   rw[List.pairwise_cons,List.pairwise_cons]
   refine ⟨fun z hz=>?_,h⟩
   rcases List.mem_cons.1 hz with rfl|hz
   ·exact g
   ·exact ltN_trans g (h.1 z hz)
  ·rename_i g
   show List.Pairwise ltN _
   rw[List.pairwise_cons]
   refine ⟨fun z hz=>?_,ih h.2 (fun g'=>hs (by simp[g']))⟩
   rcases insR_mem.1 hz with rfl|hz
   ·exact ltN_of g (fun e=>hs (by simp[e]))
   ·exact h.1 z hz
theorem insR_snoc0 {l:List ByteArray} {s x:ByteArray} (h:∀y∈l,¬ltN s y) (hx:ltN s x):insR (l++ [x]) s=l++ [s,x]:=by
 induction l with
 |nil=>simp[insR,hx]
 |cons y l ih=>
  rw[List.cons_append]
  unfold insR
  rw[if_neg (h y (by simp)),ih fun z hz=>h z (by simp[hz])]
  rfl
theorem insR_snoc1 {l:List ByteArray} {s x:ByteArray} (h:∃y∈l,ltN s y):insR (l++ [x]) s=insR l s++ [x]:=by
 induction l with
 |nil=>obtain ⟨y,hy,_⟩:=h;cases hy
 |cons y l ih=>
  rw[List.cons_append]
  unfold insR
  by_cases g:ltN s y
  ·rw[if_pos g,if_pos g];rfl
  ·rw[if_neg g,if_neg g,ih,List.cons_append]
   obtain ⟨z,hz,hg⟩:=h
   rcases List.mem_cons.1 hz with rfl|hz
   ·exact absurd hg g
   ·exact ⟨z,hz,hg⟩
theorem insR_last {l:List ByteArray} {s:ByteArray} (h:∀y∈l,¬ltN s y):insR l s=l++ [s]:=by
 induction l with
 |nil=>rfl
 |cons y l ih=>
  unfold insR
  rw[if_neg (h y (by simp)),ih fun z hz=>h z (by simp[hz])]
  rfl
open Classical in
noncomputable def ins (l:List ByteArray) (s:ByteArray):List ByteArray:=if s∈l then l else insR l s
theorem ins_mem {l:List ByteArray} {s x:ByteArray}:x∈ins l s↔x=s∨x∈l:=by
 unfold ins
 split
 ·rename_i h
  exact ⟨.inr,fun g=>g.elim (fun e=>e▸h) id⟩
 ·exact insR_mem
theorem ins_rising {l:List ByteArray} {s:ByteArray} (h:Rising l):Rising (ins l s):=by
 unfold ins
 split
 ·exact h
 ·exact insR_rising h ‹_›
theorem ins_len {l:List ByteArray} {s:ByteArray}:(ins l s).length≤l.length+1:=by
 unfold ins
 split
 ·omega
 ·rw[insR_len];omega
noncomputable def insAll (l m:List ByteArray):List ByteArray:=m.foldl ins l
theorem insAll_nil (l:List ByteArray):insAll l []=l:=rfl
theorem insAll_snoc (l m:List ByteArray) (x:ByteArray):insAll l (m++ [x])=ins (insAll l m) x:=by unfold insAll;rw[List.foldl_append];rfl
theorem insAll_append (l m k:List ByteArray):insAll l (m++k)=insAll (insAll l m) k:=by unfold insAll;rw[List.foldl_append]
theorem insAll_mem {l m:List ByteArray} {x:ByteArray}:x∈insAll l m↔x∈l∨x∈m:=by
 induction m generalizing l with
 |nil=>simp[insAll]
 |cons y m ih=>
  show x∈insAll (ins l y) m↔_
  rw[ih,ins_mem,List.mem_cons]
  constructor
  ·rintro ((h|h)|h)
   ·exact .inr (.inl h)
   ·exact .inl h
   ·exact .inr (.inr h)
  ·rintro (h|h|h)
   ·exact .inl (.inr h)
   ·exact .inl (.inl h)
   ·exact .inr h
theorem insAll_rising {l m:List ByteArray} (h:Rising l):Rising (insAll l m):=by
 induction m generalizing l with
 |nil=>exact h
 |cons y m ih=>exact ih (ins_rising h)
theorem insAll_len {l m:List ByteArray}:(insAll l m).length≤l.length+m.length:=by
 induction m generalizing l with
 |nil=>simp[insAll]
 |cons y m ih=>
  have:=ih (l:=ins l y)
  have:=ins_len (l:=l) (s:=y)
  show (insAll (ins l y) m).length≤_
  simp only[List.length_cons]
  omega
theorem sort_rising {L:List (List UInt8)} (h:L.Nodup):((L.mergeSort leB).map fun x=>(⟨⟨x⟩⟩:ByteArray)).Pairwise ltN:=by
 have tr:∀a b c:List UInt8,leB a b=true→leB b c=true→leB a c=true:=fun a b c h1 h2=>by simp only[leB,decide_eq_true_eq] at*;exact List.le_trans h1 h2
 have tot:∀a b:List UInt8,(leB a b||leB b a)=true:=fun a b=>by simp only[leB,Bool.or_eq_true,decide_eq_true_eq];exact List.le_total a b
 have h1:=List.pairwise_mergeSort tr tot L
 have h2:(L.mergeSort leB).Nodup:=(List.mergeSort_perm L leB).nodup_iff.2 h
 rw[List.pairwise_map]
 refine (h1.and h2).imp fun {a b} g=>?_
 obtain ⟨g1,g2⟩:=g
 have g1':a≤b:=by simpa[leB] using g1
 show a<b
 rcases List.le_iff_lt_or_eq.1 g1' with g|g
 ·exact g
 ·exact absurd g g2
section
variable (U:ByteArray→List ByteArray)
inductive Hg (a:ByteArray):ByteArray→Prop
 |one {b:ByteArray}:b∈U a→Hg a b
 |more {b c:ByteArray}:Hg a b→c∈U b→Hg a c
noncomputable def rnd (l:List ByteArray):List ByteArray:=l.foldl (fun o x=>insAll o (U x)) l
noncomputable def rndTo (l:List ByteArray) (k:Nat) (m:List ByteArray):List ByteArray:=(l.take k).foldl (fun o x=>insAll o (U x)) m
noncomputable def stp (a:ByteArray):Nat→List ByteArray
 |0=>U a
 |n+1=>rnd U (stp a n)
end
section
variable {U:ByteArray→List ByteArray} {V:List ByteArray}
theorem rndTo_zero (l m:List ByteArray):rndTo U l 0 m=m:=rfl
theorem rndTo_succ {l m:List ByteArray} {k:Nat} {x:ByteArray} (h:l[k]? =some x):rndTo U l (k+1) m=insAll (rndTo U l k m) (U x):=by
 unfold rndTo
 refine' zq180
 rw[List.take_succ_eq_append_getElem h1,List.foldl_append,h2]
 rfl
theorem rndTo_end (l:List ByteArray):rndTo U l l.length l=rnd U l:=by unfold rndTo rnd;rw[List.take_length]
theorem rndTo_mem {l m:List ByteArray} {k:Nat} {y:ByteArray}:y∈rndTo U l k m↔y∈m∨∃x∈l.take k,y∈U x:=by
 unfold rndTo
 induction l.take k generalizing m with
 |nil=>simp
 |cons x l ih=>
  rw[List.foldl_cons,ih,insAll_mem]
  constructor
  ·rintro ((h|h)|⟨z,hz,h⟩)
   ·exact .inl h
   ·exact .inr ⟨x,by simp,h⟩
   ·exact .inr ⟨z,by simp[hz],h⟩
  ·rintro (h|⟨z,hz,h⟩)
   ·exact .inl (.inl h)
   ·rcases List.mem_cons.1 hz with rfl|hz
    ·exact .inl (.inr h)
    ·exact .inr ⟨z,hz,h⟩
theorem rnd_mem {l:List ByteArray} {y:ByteArray}:y∈rnd U l↔y∈l∨∃x∈l,y∈U x:=by
 rw[←rndTo_end,rndTo_mem,List.take_length]
theorem rndTo_rising {l m:List ByteArray} {k:Nat} (h:Rising m):Rising (rndTo U l k m):=by
 unfold rndTo
 induction l.take k generalizing m with
 |nil=>exact h
 |cons x l ih=>exact ih (insAll_rising h)
theorem rnd_rising {l:List ByteArray} (h:Rising l):Rising (rnd U l):=by rw[←rndTo_end];exact rndTo_rising h
theorem stp_rising {a:ByteArray} (h:Rising (U a)):∀n,Rising (stp U a n)
 |0=>h
 |n+1=>rnd_rising (stp_rising h n)
theorem stp_hg {a:ByteArray}:∀n x,x∈stp U a n→Hg U a x
 |0,_,h=> .one h
 |n+1,x,h=>by
  rcases rnd_mem.1 h with g|⟨y,hy,g⟩
  ·exact stp_hg n x g
  ·exact .more (stp_hg n y hy) g
theorem hg_sub (hV:∀x,∀y∈U x,y∈V) {a x:ByteArray} (h:Hg U a x):x∈V:=by
 cases h with
 |one h=>exact hV _ _ h
 |more _ h=>exact hV _ _ h
theorem hg_trans {a b c:ByteArray} (h:Hg U a b) (k:Hg U b c):Hg U a c:=by
 induction k with
 |one k=>exact .more h k
 |more _ k ih=>exact .more ih k
theorem stp_base {a:ByteArray}:∀n x,x∈U a→x∈stp U a n
 |0,_,h=>h
 |n+1,x,h=>rnd_mem.2 (.inl (stp_base n x h))
def Closed (U:ByteArray→List ByteArray) (l:List ByteArray):Prop:=∀x∈l,∀y∈U x,y∈l
theorem closed_rnd {l:List ByteArray} (h:Closed U l):Closed U (rnd U l):=by
 have e:∀y,y∈rnd U l↔y∈l:=fun y=>by
  rw[rnd_mem]
  exact ⟨fun g=>g.elim id fun ⟨x,hx,g⟩=>h x hx y g,.inl⟩
 intro x hx y hy
 exact (e y).2 (h x ((e x).1 hx) y hy)
theorem stp_closed (hV:∀x,∀y∈U x,y∈V) {a:ByteArray} (hr:Rising (U a)):∀n,Closed U (stp U a n)∨n≤(stp U a n).length
 |0=> .inr (Nat.zero_le _)
 |n+1=>by
  rcases stp_closed hV hr n with h|h
  ·exact .inl (closed_rnd h)
  ·by_cases hc:Closed U (stp U a n)
   ·exact .inl (closed_rnd hc)
   ·right
    unfold Closed at hc
    simp only[Classical.not_forall] at hc
    obtain ⟨x,hx,y,hy,hn⟩:=hc
    have h1:=(stp_rising hr n).nodup
    have h2:(y::stp U a n).Nodup:=List.nodup_cons.2 ⟨hn,h1⟩
    have h3:=nodup_len (m:=stp U a (n+1)) h2 fun z hz=>by
     rcases List.mem_cons.1 hz with rfl|hz
     ·exact rnd_mem.2 (.inr ⟨x,hx,hy⟩)
     ·exact rnd_mem.2 (.inl hz)
    simp only[List.length_cons] at h3
    omega
theorem stp_all (hV:∀x,∀y∈U x,y∈V) {a:ByteArray} (hr:Rising (U a)) {n:Nat} (hn:V.length≤n):Closed U (stp U a n):=by
 rcases stp_closed hV hr n with h|h
 ·exact h
 ·have h1:=(stp_rising hr n).nodup
  have hsub:∀x∈stp U a n,x∈V:=fun x hx=>hg_sub hV (stp_hg n x hx)
  intro x hx y hy
  refine Classical.byContradiction fun g=>?_
  have h2:=nodup_len (m:=V) (List.nodup_cons.2 ⟨g,h1⟩) fun z hz=>by
   rcases List.mem_cons.1 hz with rfl|hz
   ·exact hV _ _ hy
   ·exact hsub z hz
  simp only[List.length_cons] at h2
  omega
theorem stp_iff (hV:∀x,∀y∈U x,y∈V) {a:ByteArray} (hr:Rising (U a)) {n:Nat} (hn:V.length≤n) {x:ByteArray}:x∈stp U a n↔Hg U a x:=by
 constructor
 ·exact stp_hg n x
 ·intro h
  have hc:=stp_all hV hr hn
  induction h with
  |one h=>exact stp_base n _ h
  |more _ h ih=>exact hc _ ih _ h
structure Fnd (U:ByteArray→List ByteArray) (a:ByteArray) (l wt:List ByteArray):Prop where
 nd:l.Nodup
 hg:∀x,x∈l∨x∈wt→Hg U a x
 one:∀x∈U a,x∈l∨x∈wt
 more:∀x∈l,∀y∈U x,y∈l∨y∈wt
theorem Fnd.start (a:ByteArray):Fnd U a [] (U a):=⟨List.nodup_nil,fun x h=> .one (h.resolve_left (by simp)),fun x h=> .inr h,fun x h=>absurd h (by simp)⟩
theorem Fnd.old {a x:ByteArray} {l wt:List ByteArray} (h:Fnd U a l (x::wt)) (hx:x∈l):Fnd U a l wt:=
 ⟨h.nd,fun y g=>h.hg y (g.imp id (fun g=>by simp[g])),fun y g=>by
  rcases h.one y g with g|g
  ·exact .inl g
  ·rcases List.mem_cons.1 g with rfl|g
   ·exact .inl hx
   ·exact .inr g,fun z hz y g=>by
  rcases h.more z hz y g with g|g
  ·exact .inl g
  ·rcases List.mem_cons.1 g with rfl|g
   ·exact .inl hx
   ·exact .inr g⟩
theorem Fnd.new {a x:ByteArray} {l wt:List ByteArray} (h:Fnd U a l (x::wt)) (hx:x∉l):Fnd U a (l++ [x]) (wt++U x):=by
 have hmv:∀y,y∈l∨y∈x::wt→y∈l++ [x]∨y∈wt++U x:=fun y g=>by
  rcases g with g|g
  ·exact .inl (by simp[g])
  ·rcases List.mem_cons.1 g with rfl|g
   ·exact .inl (by simp)
   ·exact .inr (by simp[g])
 refine ⟨?_,fun y g=>?_,fun y g=>hmv y (h.one y g),fun z hz y g=>?_⟩
 ·rw[List.nodup_append]
  exact ⟨h.nd,by simp,fun y hy z hz e=>by simp at hz;subst hz;subst e;exact hx hy⟩
 ·simp only[List.mem_append,List.mem_cons,List.not_mem_nil,or_false] at g
  rcases g with (g|rfl)|g|g
  ·exact h.hg y (.inl g)
  ·exact h.hg y (.inr (by simp))
  ·exact h.hg y (.inr (by simp[g]))
  ·exact .more (h.hg x (.inr (by simp))) g
 ·simp only[List.mem_append,List.mem_cons,List.not_mem_nil,or_false] at hz
  rcases hz with hz|rfl
  ·exact hmv y (h.more z hz y g)
  ·exact .inr (by simp[g])
theorem Fnd.end_ {a:ByteArray} {l:List ByteArray} (h:Fnd U a l []) (x:ByteArray):x∈l↔Hg U a x:=by
 constructor
 ·intro g;exact h.hg x (.inl g)
 ·intro g
  induction g with
  |one g=>exact (h.one _ g).resolve_right (by simp)
  |more _ g ih=>exact (h.more _ ih _ g).resolve_right (by simp)
end
end Go.Proofs.YtgjfkidbfmbjoaaGreat
