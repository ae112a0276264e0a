/-
  The document's answer of layer 25: is a form bare. fold.Bare: is a form bare.
-/
import Derived.Test.YtckognjamlckcaaFolO
import Derived.Test.YtckognjamlckcaaR24F
import Derived.StillTailTactics
import Derived.Test.YtckognjamlckcaaFolQ
import Derived.Test.YtckognjamlckcaaNormN
namespace Go.Proofs.Ytckognjamlckcaa
open Go.RowKit Vf Fo
attribute [local go_sem ↓] Go.wp_at_zero Go.wp_at_succ
theorem bare_no {f:Fm} {k:Nat} {x:Ac} (hx:f.acts[k]? =some x) (h:¬bareAc f x):¬bareOk f:=fun g=>h (g.2.1 x (List.mem_of_getElem? hx))
set_option maxRecDepth 100000 in
set_option maxHeartbeats 16000000 in
theorem rbare_any {w:World} {f:Fm} {vw va vc vk vi vo:Value} (h:FmAt w w.heap.size f vw va vc vk vi vo) (hal:f.acts.length≤100000) (hil:f.ins.length≤100000):
  Calls Try.prog 10 #[fmV vw va vc vk vi vo] w fun e w'=>e= .returned (.bool (cB (bareOk f)))∧Below w.heap.size w w':=by
 have b1:Below w.heap.size w (w.alloc (.cells #[vw,va,vc,vk,vi,vo] 28)):=bE
 have HRR:=Lib.hid (rright_any f vw va vc vk vi vo _ (h.next b1) hal hil)
 by_cases hf:formOk f
 rotate_left 1
 ·have HF:Hid (cB (bareOk f)=false):=cB_false (fun g=>hf g.1)
  rw[cB_false hf] at HRR
  have rF:=Row.new w #[vw,va,vc,vk,vi,vo] 28
  clear h hf
  go_enter Try.func10,Try.ntmps10
  go_upto_region 1 with (fail)
  generalize w.alloc (.cells #[vw,va,vc,vk,vi,vo] 28)=w1 at*
  obtain ⟨f0,f1,f2,f3,f4,f5⟩:=rF.six'
  go_wp2_with fail
  (with_reducible refine HRR.out.mono ?_)
  rintro e w2 ⟨rfl,hb2⟩
  have b2:=b1.trans (hb2.mono b1.size)
  clear f0 f1 f2 f3 f4 f5 rF
  go_wp2_with fail
  go_ret
  exact ⟨ret_bool HF.out.symm,b2⟩
 rw[cB_true hf] at HRR
 have HU:Hid (∀x∈f.acts,0≤uses x.op):=fun x hx=>(hf.2.2.2.2.2.1 x hx).2.2.2.1
 have HWN:=Lib.hid (fun W (hW:Below w.heap.size w W) n=>rwanted_any (h.next hW) HU.out n)
 have HNM:=Lib.hid (fun W (hW:Below w.heap.size w W) n=>rnumber_any (h.next hW) HU.out n)
 obtain ⟨Aa,ca,rfl,la,ma,sa⟩:=h.acts
 obtain ⟨Acl,cc,rfl,lc,mc,_⟩:=h.cells
 have ma':ca≤9223372036854775807:=by unfold maxLen at ma;omega
 have mc':cc≤9223372036854775807:=by unfold maxLen at mc;omega
 have HSA:=Lib.hid (fun W (hW:Below w.heap.size w W)=>sa.below hW)
 have rF:=Row.new w #[vw,.slice Aa f.acts.length ca,.slice Acl f.cells.length cc,vk,vi,vo] 28
 have HOK:=Lib.hid hf
 clear h sa hf
 go_enter Try.func10,Try.ntmps10
 go_upto_region 1 with (fail)
 generalize w.alloc (.cells #[vw,.slice Aa f.acts.length ca,.slice Acl f.cells.length cc,vk,vi,vo] 28)=w1 at*
 have hs1:=b1.size
 have hFl:=rF.lt
 obtain ⟨f0,f1,f2,f3,f4,f5⟩:=rF.six'
 go_wp2_with fail
 (with_reducible refine HRR.out.mono ?_)
 rintro e w2 ⟨rfl,hb2⟩
 have b2:=b1.trans (hb2.mono hs1)
 have rF2:=rF.below hb2 hFl
 have hs2:=b2.size
 have hFl2:=rF2.lt
 have HF6:Hid (∀W,Below w2.heap.size w2 W→Row W w.heap.size #[vw,.slice Aa f.acts.length ca,.slice Acl f.cells.length cc,vk,vi,vo] 28):=fun W hW=>rF2.below hW hFl2
 clear f0 f1 f2 f3 f4 f5 rF rF2 HRR hb2
 go_wp2_with fail
 go_loopw[3] (fun i wr=>∃k:Nat,k≤f.acts.length∧i= .int .i64 k∧Hid (∀j,j<k→∀x,f.acts[j]? =some x→bareAc f x)∧Below w2.heap.size w2 wr) (fun i _=>f.acts.length-(intOf i).toNat)
 case atStart=>exact ⟨0,Nat.zero_le _,rfl,fun j hj=>absurd hj (by omega),Below.refl _ _⟩
 case round=>
  obtain ⟨k,hk,rfl,H1,hb⟩:=hrel
  have hbw:=b2.trans (hb.mono hs2)
  have hsr:=hb.size
  obtain ⟨f0,f1,f2,f3,f4,f5⟩:=(HF6.out _ hb).six'
  by_cases hlt:k<f.acts.length
  ·obtain ⟨b,off,x,rfl,hbb,hx,wx,d0,d1,d2,d3,d4,d5⟩:=(HSA.out _ hbw).ac hlt
   have hk':(k:Int)<f.acts.length:=by omega
   have HX:=Lib.hid hx
   have HP:=Lib.hid (fun W=>rparts_any x wx (HU.out x (List.mem_of_getElem? hx)) W)
   have HNO:=Lib.hid (fun (g:¬bareAc f x)=>cB_false (bare_no hx g))
   have HAC:Hid ((x.op≠3∧wantedW f x.dst∧¬(x.op=27∧isNum f.acts x.a)∧¬((5≤x.op∧x.op≤20)∧∀n∈wants x,isNum f.acts n))=bareAc f x):=rfl
   clear hx wx
   obtain ⟨xo,xd,xa,xb,xc,xk⟩:=x
   dsimp only at d0 d1 d2 d3 d4 d5 HAC
   have ba:Below wr.heap.size wr (wr.alloc (.cells #[.int .i64 xo,.int .i64 xd,.int .i64 xa,.int .i64 xb,.int .i64 xc,.int .i64 xk] 50)):=bE
   have rX:=Row.new wr #[.int .i64 xo,.int .i64 xd,.int .i64 xa,.int .i64 xb,.int .i64 xc,.int .i64 xk] 50
   go_upto_region 7 with (fail)
   generalize hw4:wr.alloc (.cells #[.int .i64 xo,.int .i64 xd,.int .i64 xa,.int .i64 xb,.int .i64 xc,.int .i64 xk] 50)=w4 at*
   generalize hG:wr.heap.size=G at*
   have hb4:Below w2.heap.size w2 w4:=hb.trans (ba.mono (by omega))
   have hbw4:=b2.trans (hb4.mono hs2)
   have hX4:=rX.lt
   have hs4:=hb4.size
   clear d0 d1 d2 d3 d4 d5 f0 f1 f2 f3 f4 f5 ba hb hbw
   have HF4:Hid (∀W,Below w4.heap.size w4 W→Row W w.heap.size #[vw,.slice (some ⟨b,off,none⟩) f.acts.length ca,.slice Acl f.cells.length cc,vk,vi,vo] 28∧Row W G #[.int .i64 xo,.int .i64 xd,.int .i64 xa,.int .i64 xb,.int .i64 xc,.int .i64 xk] 50):=fun W hW=>⟨HF6.out _ (hb4.trans (hW.mono hs4)),rX.below hW hX4⟩
   clear rX
   obtain ⟨⟨f0,f1,f2,f3,f4,f5⟩,e0,e1,e2,e3,e4,e5⟩:=(fun (z:_∧_)=>(⟨z.1.six',z.2.six'⟩:_∧_)) (HF4.out w4 (Below.refl _ _))
   by_cases o3:xo=3
   ·have o3':(xo==3)=true:=by simp[o3]
    have HF:=Lib.hid (HNO.out (by rw[←HAC.out];exact fun g=>g.1 o3))
    clear o3
    go_wp2_with fail
    go_ret
    exact ⟨ret_bool HF.out.symm,hbw4⟩
   have o3':(xo==3)=false:=by simp[o3]
   have HO3:=Lib.hid o3
   clear o3
   have HW4:=Lib.hid (HWN.out _ hbw4 xd)
   by_cases hw:wantedW f xd
   rotate_left 1
   ·have HF:=Lib.hid (HNO.out (by rw[←HAC.out];exact fun g=>hw g.2.1))
    rw[cB_false hw] at HW4
    clear hw
    go_wp2_with fail
    (with_reducible refine HW4.out.mono ?_)
    rintro e w5 ⟨rfl,hb5⟩
    have HBB:=Lib.hid (hbw4.trans (hb5.mono hbw4.size))
    clear f0 f1 f2 f3 f4 f5 e0 e1 e2 e3 e4 e5 hb5
    go_wp2_with fail
    go_ret
    exact ⟨ret_bool HF.out.symm,HBB.out⟩
   rw[cB_true hw] at HW4
   have HWD:=Lib.hid hw
   clear hw
   go_wp2_with fail
   (with_reducible refine HW4.out.mono ?_)
   rintro e w5 ⟨rfl,hb5⟩
   have hb5':=hb4.trans (hb5.mono hs4)
   have hbw5:=b2.trans (hb5'.mono hs2)
   have hs5:=hb5.size
   have HF5:Hid (∀W,Below w5.heap.size w5 W→Row W w.heap.size #[vw,.slice (some ⟨b,off,none⟩) f.acts.length ca,.slice Acl f.cells.length cc,vk,vi,vo] 28∧Row W G #[.int .i64 xo,.int .i64 xd,.int .i64 xa,.int .i64 xb,.int .i64 xc,.int .i64 xk] 50):=fun W hW=>HF4.out W (hb5.trans (hW.mono hs5))
   clear f0 f1 f2 f3 f4 f5 e0 e1 e2 e3 e4 e5 HW4 hb4 hbw4 HF4
   obtain ⟨⟨f0,f1,f2,f3,f4,f5⟩,e0,e1,e2,e3,e4,e5⟩:=(fun (z:_∧_)=>(⟨z.1.six',z.2.six'⟩:_∧_)) (HF5.out w5 (Below.refl _ _))
   have HREST:Hid (∀(P:Prop),P→P):=fun _ h=>h
   by_cases o27:xo=27
   ·have o27':(xo==27)=true:=by simp[o27]
    have HN5:=Lib.hid (HNM.out _ hbw5 xa)
    have o5:decide (20<xo)=true:=by simp[o27]
    have o6:decide (xo≤20)=false:=by simp[o27]
    have o7:decide (5≤xo)=true:=by simp[o27]
    by_cases hn:isNum f.acts xa
    ·have HF:=Lib.hid (HNO.out (by rw[←HAC.out];exact fun g=>g.2.2.1 ⟨o27,hn⟩))
     rw[cB_true hn] at HN5
     clear hn o27
     go_wp2_with fail
     (with_reducible refine HN5.out.mono ?_)
     rintro e w6 ⟨rfl,hb6⟩
     have HBB:=Lib.hid (hbw5.trans (hb6.mono hbw5.size))
     clear f0 f1 f2 f3 f4 f5 e0 e1 e2 e3 e4 e5 hb6
     go_wp2_with fail
     go_ret
     exact ⟨ret_bool HF.out.symm,HBB.out⟩
    ·have HF:Hid (bareAc f ⟨xo,xd,xa,xb,xc,xk⟩):=by
      show bareAc f _
      rw[←HAC.out]
      exact ⟨HO3.out,HWD.out,fun g=>hn g.2,fun g=>by omega⟩
     have H1':=Lib.hid (upto_snoc (P:=fun (x:Ac)=>bareAc f x) H1.out HX.out HF.out)
     rw[cB_false hn] at HN5
     clear hn o27
     go_wp2_with fail
     (with_reducible refine HN5.out.mono ?_)
     rintro e w6 ⟨rfl,hb6⟩
     have hb6':=hb5'.trans (hb6.mono hb5'.size)
     have hs6:=hb6.size
     clear f0 f1 f2 f3 f4 f5 e0 e1 e2 e3 e4 e5
     obtain ⟨⟨f0,f1,f2,f3,f4,f5⟩,e0,e1,e2,e3,e4,e5⟩:=(fun (z:_∧_)=>(⟨z.1.six',z.2.six'⟩:_∧_)) (HF5.out w6 hb6)
     go_wp2_with fail
     go_roundw
     case rel=>exact ⟨k+1,by omega,by go_num,H1'.out,hb6'⟩
     case measure=>simp[intOf];omega
   have o27':(xo==27)=false:=by simp[o27]
   have HO27:=Lib.hid o27
   clear o27
   by_cases or:5≤xo∧xo≤20
   rotate_left 1
   ·have HF:Hid (bareAc f ⟨xo,xd,xa,xb,xc,xk⟩):=by
     show bareAc f _
     rw[←HAC.out]
     exact ⟨HO3.out,HWD.out,fun g=>HO27.out g.1,fun g=>or g.1⟩
    have H1':=Lib.hid (upto_snoc (P:=fun (x:Ac)=>bareAc f x) H1.out HX.out HF.out)
    by_cases o5:5≤xo
    ·have o20:decide (xo≤20)=false:=by simp;omega
     have o5':decide (5≤xo)=true:=by simp;omega
     clear or o5
     go_wp2_with fail
     go_roundw
     case rel=>exact ⟨k+1,by omega,by go_num,H1'.out,hb5'⟩
     case measure=>simp[intOf];omega
    ·have o5':decide (5≤xo)=false:=by simp;omega
     clear or o5
     go_wp2_with fail
     go_roundw
     case rel=>exact ⟨k+1,by omega,by go_num,H1'.out,hb5'⟩
     case measure=>simp[intOf];omega
   have HOR:=Lib.hid or
   have o20:decide (xo≤20)=true:=by simp;omega
   have o5':decide (5≤xo)=true:=by simp;omega
   clear or
   go_wp2_with fail
   (with_reducible refine (HP.out w5).mono ?_)
   rintro e w6 ⟨v,rfl,hv,hvo,hb6⟩
   have hb6':=hb5'.trans (hb6.mono hb5'.size)
   have hbw6:=b2.trans (hb6'.mono hs2)
   have hs6:=hb6.size
   obtain ⟨Av,cv,rfl,lv,mv,sv⟩:=id hv
   have mv':cv≤9223372036854775807:=by unfold maxLen at mv;omega
   have HSV:=Lib.hid (fun W (hW:Below w6.heap.size w6 W)=>sv.below hW)
   have HF7:Hid (∀W,Below w6.heap.size w6 W→Row W w.heap.size #[vw,.slice (some ⟨b,off,none⟩) f.acts.length ca,.slice Acl f.cells.length cc,vk,vi,vo] 28):=fun W hW=>(HF5.out W (hb6.trans (hW.mono hs6))).1
   clear hv hvo sv f0 f1 f2 f3 f4 f5 e0 e1 e2 e3 e4 e5 HP
   have hs62:=hb6'.size
   generalize hwl:wants ⟨xo,xd,xa,xb,xc,xk⟩=wl at*
   go_wp2_with fail
   go_loopw[6,7] (fun b i wr=>∃(j:Nat) (B:Bool),j≤wl.length∧b= .bool B∧i= .int .i64 j∧Hid (B=true↔∀i,i<j→∀g,wl[i]? =some g→isNum f.acts g)∧Below w6.heap.size w6 wr) (fun _ i _=>wl.length-(intOf i).toNat)
   case atStart=>exact ⟨0,true,Nat.zero_le _,rfl,rfl,⟨fun _ j hj=>absurd hj (by omega),fun _=>rfl⟩,Below.refl _ _⟩
   case round=>
    obtain ⟨j,B,hj,rfl,rfl,HBJ,hbq⟩:=hrel
    have hsq:=hbq.size
    have hbwr:=hbw6.trans (hbq.mono hbw6.size)
    by_cases hlt2:j<wl.length
    ·obtain ⟨b2',off2,g,rfl,hb2',hg,wg,g0⟩:=(HSV.out _ hbq).int hlt2
     have hj':(j:Int)<wl.length:=by omega
     have HG:=Lib.hid hg
     clear hg wg
     obtain ⟨f0,f1,f2,f3,f4,f5⟩:=(HF7.out _ hbq).six'
     cases B
     ·have HBJ':Hid (false=true↔∀i,i<j+1→∀g,wl[i]? =some g→isNum f.acts g):=⟨fun q=>(by cases q),fun q=>HBJ.out.2 (fun i hi=>q i (by omega))⟩
      go_upto_region 15 with (fail)
      go_quiet (fail)
      go_wp2_with fail
      go_roundw
      case rel=>exact ⟨j+1,false,by omega,rfl,by go_num,HBJ'.out,below_drewN' hbq _⟩
      case measure=>simp[intOf];omega
     ·have HN7:=Lib.hid (fun W (hW:Below wr.heap.size wr W)=>HNM.out W (hbwr.trans (hW.mono hbwr.size)) g)
      have HK:Hid (∀W,Below wr.heap.size wr W→W.cell? ⟨w.heap.size,0,none⟩=some vw∧W.cell? ⟨w.heap.size,1,none⟩=some (.slice (some ⟨b,off,none⟩) f.acts.length ca)∧W.cell? ⟨w.heap.size,2,none⟩=some (.slice Acl f.cells.length cc)∧W.cell? ⟨w.heap.size,3,none⟩=some vk∧W.cell? ⟨w.heap.size,4,none⟩=some vi∧W.cell? ⟨w.heap.size,5,none⟩=some vo∧W.cell? ⟨b2',off2+j,none⟩=some (.int .i64 g)):=fun W hW=>by
       obtain ⟨q0,q1,q2,q3,q4,q5⟩:=(HF7.out W (hbq.trans (hW.mono hsq))).six'
       exact ⟨q0,q1,q2,q3,q4,q5,cell_kept g0 hW⟩
      have HBN:Hid (cB (isNum f.acts g)=true↔∀i,i<j+1→∀g,wl[i]? =some g→isNum f.acts g):=by
       show _↔_
       rw[cB_iff]
       exact ⟨fun q=>upto_snoc (P:=fun (g:Int)=>isNum f.acts g) (HBJ.out.1 rfl) HG.out q,fun q=>q j (by omega) g HG.out⟩
      generalize cB (isNum f.acts g)=BN at*
      go_upto_region 15 with (fail)
      refine wp_region_held_drew (S:=fun W=>W.cell? ⟨w.heap.size,0,none⟩=some vw∧W.cell? ⟨w.heap.size,1,none⟩=some (.slice (some ⟨b,off,none⟩) f.acts.length ca)∧W.cell? ⟨w.heap.size,2,none⟩=some (.slice Acl f.cells.length cc)∧W.cell? ⟨w.heap.size,3,none⟩=some vk∧W.cell? ⟨w.heap.size,4,none⟩=some vi∧W.cell? ⟨w.heap.size,5,none⟩=some vo∧W.cell? ⟨b2',off2+j,none⟩=some (.int .i64 g)) (by kernel_rfl) ?_ (fun hHeld=>?_)
      ·(try dsimp only);(first|(with_reducible exact HK.out _ bE))
      refine tk 0 (some 63) rfl ?_
      refine tk 1 (some 64) rfl ?_
      refine tk 2 (some 65) rfl ?_
      refine tk 3 (some 66) rfl ?_
      refine tk 4 (some 67) rfl ?_
      refine tk 5 (some 68) rfl ?_
      refine tk 6 (some 69) rfl ?_
      refine rd1 7 (some 70) rfl (fun KK hKK=>?_)
      go_simp
      go_at_call 28;refine Calls.mono (HN7.out _ bE) ?_;rintro e w8 ⟨rfl,hb8⟩;(have hb9:Below wr.heap.size wr w8:=Below.trans bE (hb8.mono lE))
      (try go_wp2_with fail)
      refine hKK.out _ _ ?_ (fun hHeld=>?_)
      ·(try dsimp only);(first|(with_reducible exact HK.out _ bE))
      clear hKK KK
      try simp only[Act.put,List.setIfInBounds_toArray,List.set_cons_zero,List.set_cons_succ]
      refine tk 8 (some 71) rfl ?_
      refine tk 9 (some 6) rfl ?_
      refine wpAnyH_done (by kernel_rfl) ?_ _
      go_wp2_with fail
      go_roundw
      case rel=>exact ⟨j+1,BN,by omega,rfl,by go_num,HBN.out,hbq.trans (Below.mono (B:=wr.heap.size) bE hsq)⟩
      case measure=>simp[intOf];omega
    obtain rfl:j=wl.length:=by omega
    have hbb':=hb6'.trans (hbq.mono hs62)
    cases B
    ·have HF:Hid (bareAc f ⟨xo,xd,xa,xb,xc,xk⟩):=by
      show bareAc f _
      rw[←HAC.out]
      exact ⟨HO3.out,HWD.out,fun g=>HO27.out g.1,fun g=>by
       have:=HBJ.out.2 (fun i _ y hy=>g.2 y (List.mem_of_getElem? hy))
       cases this⟩
     have H1':=Lib.hid (upto_snoc (P:=fun (x:Ac)=>bareAc f x) H1.out HX.out HF.out)
     go_wp2_with fail
     go_roundw
     case rel=>exact ⟨k+1,by omega,by go_num,H1'.out,hbb'⟩
     case measure=>simp[intOf];omega
    ·have HF:=Lib.hid (HNO.out (by rw[←HAC.out];exact fun g=>g.2.2.2 ⟨HOR.out,upto_all (P:=fun (g:Int)=>isNum f.acts g) (HBJ.out.1 rfl)⟩))
     go_wp2_with fail
     go_ret
     exact ⟨ret_bool HF.out.symm,hbwr⟩
  obtain rfl:k=f.acts.length:=by omega
  clear hlt hk
  have HA1:=Lib.hid (upto_all (P:=fun (x:Ac)=>bareAc f x) H1.out)
  go_wp2_with fail
  clear f0 f1 f2 f3 f4 f5
  go_loopw[8] (fun i wq=>∃c:Nat,c≤f.cells.length∧i= .int .i64 c∧Hid (∀j:Nat,j<c→∃x∈f.acts,x.op=21∧x.k=j)∧wr=wq) (fun i _=>f.cells.length-(intOf i).toNat)
  case atStart=>exact ⟨0,Nat.zero_le _,rfl,fun j hj=>absurd hj (by omega),rfl⟩
  case round=>
   obtain ⟨c,hc,rfl,H2,rfl⟩:=hrel
   obtain ⟨f0,f1,f2,f3,f4,f5⟩:=(HF6.out _ hb).six'
   by_cases hlt:c<f.cells.length
   ·have hc':(c:Int)<f.cells.length:=by omega
    go_wp2_with fail
    go_loopw[9,10] (fun b i wq=>∃(j:Nat) (B:Bool),j≤f.acts.length∧b= .bool B∧i= .int .i64 j∧Hid (B=true↔∃i x,i<j∧f.acts[i]? =some x∧x.op=21∧x.k=c)∧wr=wq) (fun _ i _=>f.acts.length-(intOf i).toNat)
    case atStart=>exact ⟨0,false,Nat.zero_le _,rfl,rfl,⟨fun q=>(by cases q),fun ⟨i,x,hi,_⟩=>absurd hi (by omega)⟩,rfl⟩
    case round=>
     obtain ⟨j,B,hj,rfl,rfl,HB,rfl⟩:=hrel
     by_cases hlt2:j<f.acts.length
     ·obtain ⟨b,off,x,rfl,hbb,hx,wx,d0,d1,d2,d3,d4,d5⟩:=(HSA.out _ hbw).ac hlt2
      have hj':(j:Int)<f.acts.length:=by omega
      have HX:=Lib.hid hx
      have HB':Hid ((B||(x.op==21 && x.k==(c:Int)))=true↔∃i x,i<j+1∧f.acts[i]? =some x∧x.op=21∧x.k=c):=by
       show _↔_
       rw[Bool.or_eq_true,HB.out,Bool.and_eq_true,beq_iff_eq,beq_iff_eq]
       constructor
       ·rintro (⟨i,y,hi,q⟩|q)
        ·exact ⟨i,y,by omega,q⟩
        ·exact ⟨j,x,by omega,HX.out,q⟩
       ·rintro ⟨i,y,hi,q1,q2⟩
        rcases Nat.lt_or_ge i j with g|g
        ·exact .inl ⟨i,y,g,q1,q2⟩
        ·obtain rfl:i=j:=by omega
         rw[HX.out] at q1
         injection q1 with q1
         subst q1
         exact .inr q2
      clear hx wx HX
      obtain ⟨xo,xd,xa,xb,xc,xk⟩:=x
      dsimp only at d0 d1 d2 d3 d4 d5 HB'
      generalize hq1:(xo==21)=Q1 at*
      generalize hq2:(xk==(c:Int))=Q2 at*
      cases B
      ·cases Q1
       ·go_wp2_with fail
        go_roundw
        case rel=>exact ⟨j+1,_,by omega,rfl,by go_num,HB'.out,trivial⟩
        case measure=>simp[intOf];omega
       ·go_wp2_with fail
        go_roundw
        case rel=>exact ⟨j+1,_,by omega,rfl,by go_num,HB'.out,trivial⟩
        case measure=>simp[intOf];omega
      ·go_wp2_with fail
       go_roundw
       case rel=>exact ⟨j+1,true,by omega,rfl,by go_num,⟨fun _=>HB'.out.1 rfl,fun _=>rfl⟩,trivial⟩
       case measure=>simp[intOf];omega
     obtain rfl:j=f.acts.length:=by omega
     cases B
     ·have HF:Hid (cB (bareOk f)=false):=cB_false (fun g=>by
       obtain ⟨x,hx,q⟩:=g.2.2 c (by omega)
       obtain ⟨i,hi⟩:=List.getElem?_of_mem hx
       have:=HB.out.2 ⟨i,x,(List.getElem?_eq_some_iff.1 hi).1,hi,q⟩
       cases this)
      go_wp2_with fail
      go_ret
      exact ⟨ret_bool HF.out.symm,hbw⟩
     ·have H2':Hid (∀j:Nat,j<c+1→∃x∈f.acts,x.op=21∧x.k=j):=fun i hi=>by
       rcases Nat.lt_or_ge i c with g|g
       ·exact H2.out i g
       ·obtain rfl:i=c:=by omega
        obtain ⟨_,x,_,q1,q2⟩:=HB.out.1 rfl
        exact ⟨x,List.mem_of_getElem? q1,q2⟩
      go_wp2_with fail
      go_roundw
      case rel=>exact ⟨c+1,by omega,by go_num,H2'.out,trivial⟩
      case measure=>simp[intOf];omega
   obtain rfl:c=f.cells.length:=by omega
   have HF:Hid (cB (bareOk f)=true):=cB_true ⟨HOK.out,HA1.out,H2.out⟩
   go_wp2_with fail
   go_ret
   exact ⟨ret_bool HF.out.symm,hbw⟩
end Go.Proofs.Ytckognjamlckcaa
namespace Go.Proofs.Ytckognjamlckcaa
open Go.RowKit Vf Fo Ar
attribute [local go_sem ↓] Go.wp_at_zero Go.wp_at_succ
set_option maxRecDepth 100000 in
set_option maxHeartbeats 16000000 in
theorem bare_any {w:World} {f:Fm} {vw va vc vk vi vo:Value} (h:FmAt w w.heap.size f vw va vc vk vi vo) (hal:f.acts.length≤100000) (hcl:f.cells.length≤1600):
  Calls Try.prog 9 #[fmV vw va vc vk vi vo] w fun e w'=>e= .returned (.bool (cB (bareOk f)))∧Below w.heap.size w w':=by
 have b1:Below w.heap.size w (w.alloc (.cells #[vw,va,vc,vk,vi,vo] 28)):=bE
 have HRR:=Lib.hid (nright_any f vw va vc vk vi vo _ (h.next b1) hcl)
 by_cases hf:formOk f
 rotate_left 1
 ·have HF:Hid (cB (bareOk f)=false):=cB_false (fun g=>hf g.1)
  rw[cB_false hf] at HRR
  have rF:=Row.new w #[vw,va,vc,vk,vi,vo] 28
  clear h hf
  go_enter Try.func9,Try.ntmps9
  go_upto_region 1 with (fail)
  generalize w.alloc (.cells #[vw,va,vc,vk,vi,vo] 28)=w1 at*
  obtain ⟨f0,f1,f2,f3,f4,f5⟩:=rF.six'
  go_wp2_with fail
  (with_reducible refine HRR.out.mono ?_)
  rintro e w2 ⟨rfl,hb2⟩
  have b2:=b1.trans (hb2.mono b1.size)
  clear f0 f1 f2 f3 f4 f5 rF
  go_wp2_with fail
  go_ret
  exact ⟨ret_bool HF.out.symm,b2⟩
 rw[cB_true hf] at HRR
 have HBY:=Lib.hid (fun W (hW:Below w.heap.size w W)=>by_any (h.next hW) (Nat.le_refl _) hf hal)
 have HWT:=Lib.hid (fun W (hW:Below w.heap.size w W)=>wanted_any (h.next hW) hf)
 have HFM:=Lib.hid (fun W (hW:Below w.heap.size w W)=>h.next hW)
 obtain ⟨Aa,ca,rfl,la,ma,sa⟩:=h.acts
 have ma':ca≤9223372036854775807:=by unfold maxLen at ma;omega
 have HSA:=Lib.hid (fun W (hW:Below w.heap.size w W)=>sa.below hW)
 have rF:=Row.new w #[vw,.slice Aa f.acts.length ca,vc,vk,vi,vo] 28
 have HOK:=Lib.hid hf
 have hwl:=hf.1.2.2
 clear h sa hf
 go_enter Try.func9,Try.ntmps9
 go_upto_region 1 with (fail)
 generalize w.alloc (.cells #[vw,.slice Aa f.acts.length ca,vc,vk,vi,vo] 28)=w1 at*
 have hs1:=b1.size
 have hFl:=rF.lt
 obtain ⟨f0,f1,f2,f3,f4,f5⟩:=rF.six'
 go_wp2_with fail
 (with_reducible refine HRR.out.mono ?_)
 rintro e w2 ⟨rfl,hb2⟩
 have b2:=b1.trans (hb2.mono hs1)
 have rF2:=rF.below hb2 hFl
 clear f0 f1 f2 f3 f4 f5 rF HRR hb2
 obtain ⟨f0,f1,f2,f3,f4,f5⟩:=rF2.six'
 go_wp2_with fail
 (with_reducible refine (HBY.out _ b2).mono ?_)
 rintro e w3 ⟨K,L,rfl,hK,rK,hL,hb3⟩
 have b3:=b2.trans (hb3.mono b2.size)
 have rF3:=rF2.below hb3 rF2.lt
 have HBL:=Lib.hid hL
 clear f0 f1 f2 f3 f4 f5 rF2 hb3 hL HBY
 obtain ⟨f0,f1,f2,f3,f4,f5⟩:=rF3.six'
 go_wp2_with fail
 (with_reducible refine (HWT.out _ b3).mono ?_)
 rintro e w4 ⟨KW,KC,ws,cs,rfl,rW,rC,lW,lC,iW,iC,hb4⟩
 have b4:=b3.trans (hb4.mono b3.size)
 have rF4:=rF3.below hb4 rF3.lt
 have rK4:=rK.below hb4 rK.lt
 have hs4:=b4.size
 have hFl4:=rF4.lt
 have HIW:=Lib.hid iW
 have HIC:=Lib.hid iC
 have HRW:=Lib.hid (fun W (hW:Below w4.heap.size w4 W)=>rW.below hW rW.lt)
 have HRC:=Lib.hid (fun W (hW:Below w4.heap.size w4 W)=>rC.below hW rC.lt)
 have HRK:=Lib.hid (fun W (hW:Below w4.heap.size w4 W)=>rK4.below hW rK4.lt)
 have HF6:Hid (∀W,Below w4.heap.size w4 W→Row W w.heap.size #[vw,.slice Aa f.acts.length ca,vc,vk,vi,vo] 28):=fun W hW=>rF4.below hW hFl4
 have HNU:Hid (∀W,Below w4.heap.size w4 W→∀v l,SlV W W.heap.size 1 isInt v l→(∀n∈l,isW f n)→Calls Try.prog 24 #[fmV vw (.slice Aa f.acts.length ca) vc vk vi vo,.slice (some ⟨K,0,none⟩) f.wires.length f.wires.length,v] W fun e w'=>e= .returned (.bool (cB (∀n∈l,isNum f.acts n)))∧Below W.heap.size W w'):=fun W hW v l hl hi=>numbers_any (HFM.out W (b4.trans (hW.mono hs4))) HOK.out.2.2.2.2.1 HBL.out (HRK.out W hW) hl hi
 clear f0 f1 f2 f3 f4 f5 rF3 hb4 iW iC HWT rW rC rK rK4 rF4 b3 b2 b1
 obtain ⟨f0,f1,f2,f3,f4,f5⟩:=(HF6.out w4 (Below.refl _ _)).six'
 go_wp2_with fail
 clear f0 f1 f2 f3 f4 f5
 go_loopw[24] (fun i wr=>∃k:Nat,k≤f.acts.length∧i= .int .i64 k∧Hid (∀j,j<k→∀x,f.acts[j]? =some x→bareAc f x)∧Below w4.heap.size w4 wr) (fun i _=>f.acts.length-(intOf i).toNat)
 case atStart=>exact ⟨0,Nat.zero_le _,rfl,fun j hj=>absurd hj (by omega),Below.refl _ _⟩
 case round=>
  obtain ⟨k,hk,rfl,H1,hb⟩:=hrel
  have hbw:=b4.trans (hb.mono hs4)
  have hsr:=hb.size
  by_cases hlt:k<f.acts.length
  ·obtain ⟨b,off,x,rfl,hbb,hx,wx,d0,d1,d2,d3,d4,d5⟩:=(HSA.out _ hbw).ac hlt
   have hk':(k:Int)<f.acts.length:=by omega
   have HX:=Lib.hid hx
   have hok:=HOK.out.2.2.2.2.2.1 x (List.mem_of_getElem? hx)
   have hwd:=(HOK.out.2.2.2.2.1.2.1 x (List.mem_of_getElem? hx)).1
   have HP:=Lib.hid (fun W=>parts_any x wx hok.2.2.2.1 W)
   have HWI:Hid (∀n∈wants x,isW f n):=fun n hn=>by
    obtain ⟨_,q⟩:=wants_uses hok.2.2.2.1 hn
    rcases q with rfl|⟨_,rfl⟩|⟨_,rfl⟩
    ·exact hok.1
    ·exact hok.2.1
    ·exact hok.2.2.1
   have HWA:=Lib.hid hok.1
   have HNO:=Lib.hid (fun (g:¬bareAc f x)=>cB_false (bare_no hx g))
   have HAC:Hid ((x.op≠3∧wantedW f x.dst∧¬(x.op=27∧isNum f.acts x.a)∧¬((5≤x.op∧x.op≤20)∧∀n∈wants x,isNum f.acts n))=bareAc f x):=rfl
   have hwa:=wx.a
   obtain ⟨md,hmd⟩:=Int.eq_ofNat_of_zero_le hwd.1
   have hm:md<f.wires.length:=by have:=hwd.2;omega
   have hm':(md:Int)<f.wires.length:=by omega
   clear hx wx hok hwd
   obtain ⟨xo,xd,xa,xb,xc,xk⟩:=x
   dsimp only at d0 d1 d2 d3 d4 d5 HAC hmd HWA hwa
   subst hmd
   have HSG:=Lib.hid (fun W=>sign_any xo W)
   have ba:Below wr.heap.size wr (wr.alloc (.cells #[.int .i64 xo,.int .i64 (md:Int),.int .i64 xa,.int .i64 xb,.int .i64 xc,.int .i64 xk] 50)):=bE
   have rX:=Row.new wr #[.int .i64 xo,.int .i64 (md:Int),.int .i64 xa,.int .i64 xb,.int .i64 xc,.int .i64 xk] 50
   go_upto_region 8 with (fail)
   generalize hw5:wr.alloc (.cells #[.int .i64 xo,.int .i64 (md:Int),.int .i64 xa,.int .i64 xb,.int .i64 xc,.int .i64 xk] 50)=w5 at*
   generalize hG:wr.heap.size=G at*
   have hb5:Below w4.heap.size w4 w5:=hb.trans (ba.mono (by omega))
   have hbw5:=b4.trans (hb5.mono hs4)
   have hX5:=rX.lt
   have hs5:=hb5.size
   clear d0 d1 d2 d3 d4 d5 ba hb hbw
   have HR5:Hid (∀W,Below w5.heap.size w5 W→Row W w.heap.size #[vw,.slice (some ⟨b,off,none⟩) f.acts.length ca,vc,vk,vi,vo] 28∧Row W G #[.int .i64 xo,.int .i64 (md:Int),.int .i64 xa,.int .i64 xb,.int .i64 xc,.int .i64 xk] 50):=fun W hW=>⟨HF6.out _ (hb5.trans (hW.mono hs5)),rX.below hW hX5⟩
   clear rX
   obtain ⟨⟨f0,f1,f2,f3,f4,f5⟩,e0,e1,e2,e3,e4,e5⟩:=(fun (z:_∧_)=>(⟨z.1.six',z.2.six'⟩:_∧_)) (HR5.out w5 (Below.refl _ _))
   have cW:=ds_cell (HRW.out _ hb5) (n:=md) (by rw[lW];exact hm)
   generalize hB:bGet ws (md:Int)=B0 at cW
   have HB0:Hid (B0=true↔wantedW f (md:Int)):=by
    show _↔_
    rw[←HIW.out,←hB]
    exact ⟨fun q=>⟨by omega,q⟩,fun q=>q.2⟩
   clear hB
   go_wp2_with fail
   (with_reducible refine (HSG.out _).mono ?_)
   rintro e _ ⟨rfl,rfl⟩
   cases B0
   ·have HF:=Lib.hid (HNO.out (by rw[←HAC.out];exact fun g=>by have:=HB0.out.2 g.2.1;cases this))
    go_wp2_with fail
    go_ret
    exact ⟨ret_bool HF.out.symm,hbw5⟩
   have HWD:=Lib.hid (HB0.out.1 rfl)
   by_cases o3:xo=3
   ·have o3':(xo==3)=true:=by simp[o3]
    have HF:=Lib.hid (HNO.out (by rw[←HAC.out];exact fun g=>g.1 o3))
    clear o3
    go_wp2_with fail
    go_ret
    exact ⟨ret_bool HF.out.symm,hbw5⟩
   have o3':(xo==3)=false:=by simp[o3]
   have HO3:=Lib.hid o3
   clear o3
   by_cases or:5≤xo∧xo≤20
   ·have os:signB xo=true:=by unfold signB;simp;omega
    have o27:(xo==27)=false:=by simp;omega
    have HOR:=Lib.hid or
    clear or
    rw[os]
    have HK:Hid (∀W,Below w5.heap.size w5 W→W.cell? ⟨w.heap.size,0,none⟩=some vw∧W.cell? ⟨w.heap.size,1,none⟩=some (.slice (some ⟨b,off,none⟩) f.acts.length ca)∧W.cell? ⟨w.heap.size,2,none⟩=some vc∧W.cell? ⟨w.heap.size,3,none⟩=some vk∧W.cell? ⟨w.heap.size,4,none⟩=some vi∧W.cell? ⟨w.heap.size,5,none⟩=some vo∧W.cell? ⟨G,0,none⟩=some (.int .i64 xo)∧W.cell? ⟨G,1,none⟩=some (.int .i64 (md:Int))∧W.cell? ⟨G,2,none⟩=some (.int .i64 xa)∧W.cell? ⟨G,3,none⟩=some (.int .i64 xb)∧W.cell? ⟨G,4,none⟩=some (.int .i64 xc)∧W.cell? ⟨G,5,none⟩=some (.int .i64 xk)):=fun W hW=>by
     obtain ⟨z1,z2⟩:=HR5.out W hW
     obtain ⟨q0,q1,q2,q3,q4,q5⟩:=z1.six'
     obtain ⟨p0,p1,p2,p3,p4,p5⟩:=z2.six'
     exact ⟨q0,q1,q2,q3,q4,q5,p0,p1,p2,p3,p4,p5⟩
    generalize hwl:wants ⟨xo,(md:Int),xa,xb,xc,xk⟩=wl at*
    have HWL:=Lib.hid hwl
    clear hwl
    have HN5:Hid (∀W v,Below w5.heap.size w5 W→SlV W W.heap.size 1 isInt v wl→Calls Try.prog 24 #[fmV vw (.slice (some ⟨b,off,none⟩) f.acts.length ca) vc vk vi vo,.slice (some ⟨K,0,none⟩) f.wires.length f.wires.length,v] W fun e w'=>e= .returned (.bool (cB (∀n∈wl,isNum f.acts n)))∧Below W.heap.size W w'):=fun W v hW hv=>HNU.out W (hb5.trans (hW.mono hs5)) v wl hv HWI.out
    have HBN:Hid (cB (∀n∈wl,isNum f.acts n)=true↔∀n∈wl,isNum f.acts n):=cB_iff
    generalize cB (∀n∈wl,isNum f.acts n)=BN at*
    go_upto_region 11 with (fail)
    refine wp_region_held_drew (S:=fun W=>W.cell? ⟨w.heap.size,0,none⟩=some vw∧W.cell? ⟨w.heap.size,1,none⟩=some (.slice (some ⟨b,off,none⟩) f.acts.length ca)∧W.cell? ⟨w.heap.size,2,none⟩=some vc∧W.cell? ⟨w.heap.size,3,none⟩=some vk∧W.cell? ⟨w.heap.size,4,none⟩=some vi∧W.cell? ⟨w.heap.size,5,none⟩=some vo∧W.cell? ⟨G,0,none⟩=some (.int .i64 xo)∧W.cell? ⟨G,1,none⟩=some (.int .i64 (md:Int))∧W.cell? ⟨G,2,none⟩=some (.int .i64 xa)∧W.cell? ⟨G,3,none⟩=some (.int .i64 xb)∧W.cell? ⟨G,4,none⟩=some (.int .i64 xc)∧W.cell? ⟨G,5,none⟩=some (.int .i64 xk)) (by kernel_rfl) ?_ (fun hHeld=>?_)
    ·(try dsimp only);(first|(with_reducible exact HK.out _ bE))
    refine tk 0 (some 48) rfl ?_
    refine tk 1 (some 49) rfl ?_
    refine tk 2 (some 50) rfl ?_
    refine tk 3 (some 51) rfl ?_
    refine tk 4 (some 52) rfl ?_
    refine rd1 5 (some 53) rfl (fun KK hKK=>?_)
    go_simp
    (go_at_call 25;refine Calls.mono (HP.out _) ?_;rintro e w8 ⟨v8,rfl,hv8,hvo8,hb8⟩;(have hb9:Below w5.heap.size w5 w8:=Below.trans bE (hb8.mono lE));(have hs9:=hb9.size);(rw[HWL.out] at hv8);(obtain ⟨A8,c8,rfl,l8,m8,s8⟩:=id hv8);(have HV8:=Lib.hid hv8);clear hv8)
    (try go_wp2_with fail)
    refine hKK.out _ _ ?_ (fun hHeld=>?_)
    ·(try dsimp only);(first|(with_reducible exact HK.out _ bE))
    clear hKK KK
    try simp only[Act.put,List.setIfInBounds_toArray,List.set_cons_zero,List.set_cons_succ]
    refine rd1 6 (some 54) rfl (fun KK hKK=>?_)
    go_simp
    (go_at_call 24;refine Calls.mono (HN5.out _ _ bE HV8.out) ?_;rintro e w10 ⟨rfl,hb10⟩;(have hb11:Below w5.heap.size w5 w10:=Below.trans bE (hb10.mono lE)))
    (try go_wp2_with fail)
    refine hKK.out _ _ ?_ (fun hHeld=>?_)
    ·(try dsimp only);(first|(with_reducible exact HK.out _ bE))
    clear hKK KK
    try simp only[Act.put,List.setIfInBounds_toArray,List.set_cons_zero,List.set_cons_succ]
    refine tk 7 (some 55) rfl ?_
    refine tk 8 (some 47) rfl ?_
    refine wpAnyH_done (by kernel_rfl) ?_ _
    have hb12:Below w5.heap.size w5 w10:=bE
    have hb13:=hb5.trans (hb12.mono hs5)
    have HB13:=Lib.hid (b4.trans (hb13.mono hs4))
    clear hHeld e0 e1 e2 e3 e4 e5 f0 f1 f2 f3 f4 f5 cW
    obtain ⟨⟨f0,f1,f2,f3,f4,f5⟩,e0,e1,e2,e3,e4,e5⟩:=(fun (z:_∧_)=>(⟨z.1.six',z.2.six'⟩:_∧_)) (HR5.out w10 hb12)
    cases BN
    ·have HF:Hid (bareAc f ⟨xo,(md:Int),xa,xb,xc,xk⟩):=by
      show bareAc f _
      rw[←HAC.out]
      exact ⟨HO3.out,HWD.out,fun g=>(by have:=HOR.out.2;omega),fun g=>(by have:=HBN.out.2 g.2;cases this)⟩
     have H1':=Lib.hid (upto_snoc (P:=fun (x:Ac)=>bareAc f x) H1.out HX.out HF.out)
     go_wp2_with fail
     go_roundw
     case rel=>exact ⟨k+1,by omega,by go_num,H1'.out,hb13⟩
     case measure=>simp[intOf];omega
    ·have HF:=Lib.hid (HNO.out (by rw[←HAC.out];exact fun g=>g.2.2.2 ⟨HOR.out,HBN.out.1 rfl⟩))
     go_wp2_with fail
     go_ret
     exact ⟨ret_bool HF.out.symm,HB13.out⟩
   have os:signB xo=false:=by unfold signB;simp;omega
   have HOR:=Lib.hid or
   clear or
   rw[os]
   go_upto_region 11 with (fail)
   go_quiet (fail)
   rename_i nq
   have hb6:Below w5.heap.size w5 (w5.drewN nq):=below_drewN' (Below.refl _ _) _
   have hb6':=hb5.trans (hb6.mono hs5)
   have hs6:w5.heap.size≤(w5.drewN nq).heap.size:=hb6.size
   clear e0 e1 e2 e3 e4 e5 f0 f1 f2 f3 f4 f5 cW
   generalize hw6:w5.drewN nq=w6 at*
   obtain ⟨⟨f0,f1,f2,f3,f4,f5⟩,e0,e1,e2,e3,e4,e5⟩:=(fun (z:_∧_)=>(⟨z.1.six',z.2.six'⟩:_∧_)) (HR5.out w6 hb6)
   by_cases o27:xo=27
   rotate_left 1
   ·have o27':(xo==27)=false:=by simp[o27]
    have HF:Hid (bareAc f ⟨xo,(md:Int),xa,xb,xc,xk⟩):=by
     show bareAc f _
     rw[←HAC.out]
     exact ⟨HO3.out,HWD.out,fun g=>o27 g.1,fun g=>HOR.out g.1⟩
    have H1':=Lib.hid (upto_snoc (P:=fun (x:Ac)=>bareAc f x) H1.out HX.out HF.out)
    clear o27
    go_wp2_with fail
    go_roundw
    case rel=>exact ⟨k+1,by omega,by go_num,H1'.out,hb6'⟩
    case measure=>simp[intOf];omega
   have o27':(xo==27)=true:=by simp[o27]
   have H27:=Lib.hid o27
   clear o27
   have b7:Below w6.heap.size w6 (w6.alloc (.cells #[.int .i64 xa] 3)):=bE
   have hb7:=hb6'.trans (b7.mono hb6'.size)
   have HN7:=Lib.hid (HNU.out _ hb7 (.slice (some ⟨w6.heap.size,0,none⟩) 1 1) [xa] ((one_slv hwa).more (by simp)) (fun n hn=>by obtain rfl:=List.mem_singleton.1 hn;exact HWA.out))
   have HBN:Hid (cB (∀n∈[xa],isNum f.acts n)=true↔isNum f.acts xa):=by
    show _↔_
    rw[cB_iff]
    simp
   generalize cB (∀n∈[xa],isNum f.acts n)=BN at*
   have hs7:=hb7.size
   go_wp2_with fail
   (with_reducible refine HN7.out.mono ?_)
   rintro e w8 ⟨rfl,hb8⟩
   have hb8':=hb7.trans (hb8.mono hs7)
   have HB8:=Lib.hid (b4.trans (hb8'.mono hs4))
   clear e0 e1 e2 e3 e4 e5 f0 f1 f2 f3 f4 f5 HN7 b7 hb8
   cases BN
   ·have HF:Hid (bareAc f ⟨xo,(md:Int),xa,xb,xc,xk⟩):=by
     show bareAc f _
     rw[←HAC.out]
     exact ⟨HO3.out,HWD.out,fun g=>(by have:=HBN.out.2 g.2;cases this),fun g=>HOR.out g.1⟩
    have H1':=Lib.hid (upto_snoc (P:=fun (x:Ac)=>bareAc f x) H1.out HX.out HF.out)
    go_wp2_with fail
    go_roundw
    case rel=>exact ⟨k+1,by omega,by go_num,H1'.out,hb8'⟩
    case measure=>simp[intOf];omega
   ·have HF:=Lib.hid (HNO.out (by rw[←HAC.out];exact fun g=>g.2.2.1 ⟨H27.out,HBN.out.1 rfl⟩))
    go_wp2_with fail
    go_ret
    exact ⟨ret_bool HF.out.symm,HB8.out⟩
  obtain rfl:k=f.acts.length:=by omega
  have HA1:=Lib.hid (upto_all (P:=fun (x:Ac)=>bareAc f x) H1.out)
  have HCN:Hid (Calls Try.prog 26 #[.slice (some ⟨KC,0,none⟩) f.cells.length f.cells.length,.bool false] wr fun e w'=>e= .returned (.bool (cB (¬∀b∈cs,b=true)))∧wr=w'):=by
   have:=contains_bool (HRC.out _ hb) (by rw[lC];exact hcl)
   rwa [lC] at this
  have HE:Hid ((!cB (¬∀b∈cs,b=true))=cB (bareOk f)):=by
   show _=_
   rw[cB_no,Bool.not_not]
   refine cB_congr ⟨fun g=>⟨HOK.out,HA1.out,fun c hc=>(HIC.out (c:Int)).1 ⟨by omega,?_⟩⟩,fun g b hb=>?_⟩
   ·have hl:c<cs.length:=by omega
    have:=g cs[c] (List.getElem_mem hl)
    simp[bGet,List.getD_eq_getElem?_getD,List.getElem?_eq_getElem hl,this]
   ·obtain ⟨c,hc⟩:=List.getElem?_of_mem hb
    have hl:=(List.getElem?_eq_some_iff.1 hc).1
    have:=((HIC.out (c:Int)).2 (g.2.2 c (by omega))).2
    simpa[bGet,List.getD_eq_getElem?_getD,hc] using this
  generalize cB (¬∀b∈cs,b=true)=BC at*
  go_wp2_with fail
  (with_reducible refine HCN.out.mono ?_)
  rintro e _ ⟨rfl,rfl⟩
  go_wp2_with fail
  go_ret
  exact ⟨ret_bool HE.out,hbw⟩
end Go.Proofs.Ytckognjamlckcaa
