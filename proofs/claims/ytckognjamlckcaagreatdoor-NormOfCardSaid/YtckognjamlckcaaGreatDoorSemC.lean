/-
  The document's run of a form: find. The document's run of a form: every wire's value; is a clock there?
-/
import Derived.Test.YtckognjamlckcaaGreatDoorZz
import Derived.Test.YtckognjamlckcaaGreatDoorSemA
import Derived.Test.YtckognjamlckcaaGreatDoorRefAr
set_option maxHeartbeats 16000000
set_option maxRecDepth 100000
namespace Go.Proofs.YtckognjamlckcaaGreatDoor
open Go.RowKit Vf Fo Ar Z
attribute [local go_sem ↓] Go.wp_at_zero Go.wp_at_succ
section
variable {f:Fm} {cs row:List Int} {R K V:Nat} {vw va vc vk vi vo vC vR vP:Value}
theorem find_in (hf:formOk f) (hrl:row.length=f.ins.length) (n:Int) (hin:n∈f.ins):WireC f cs row R K V vw va vc vk vi vo vC vR vP 107 n:=by
 intro W ds vs h
 have hn:=(hf.2.1.1 n hin).1
 refine' zq134
 have HH:=Lib.hid h
 obtain ⟨i0,hi0⟩:=List.getElem?_of_mem hin
 have HI0:=Lib.hid hi0
 have hi0l:=(List.getElem?_eq_some_iff.1 hi0).1
 have HOK:=Lib.hid hf
 obtain ⟨hfm,_,hrow,hpl,hrr⟩:=h.keep W (Upd.refl _ _)
 obtain ⟨Ai,ci,hvi,lci,mci,si⟩:=hfm.ins
 obtain ⟨Ar',cr,hvr,lcr,mcr,sr⟩:=hrow
 obtain ⟨Ap,cp,hvp,lcp,mcp,sp⟩:=hpl
 rw[plF_len] at hvp lcp
 rw[hrl] at hvr lcr
 have HRL:=Lib.hid hrl
 subst hvi;subst hvr;subst hvp
 have mci':ci≤9223372036854775807:=by unfold maxLen at mci;omega
 have mcr':cr≤9223372036854775807:=by unfold maxLen at mcr;omega
 have mcp':cp≤9223372036854775807:=by unfold maxLen at mcp;omega
 obtain ⟨bp,op,pv,rfl,_,hpv,_,p0⟩:=sp.int (k:=m) (by rw[plF_len];exact hm)
 have hpe:pv= -1:=by
  have:=(plF_get hm).symm.trans hpv
  injection this with this
  rw[←this]
  exact place_in hf hin
 subst hpe
 obtain ⟨r0,r1,r2,r3,r4,r5,r6,r7,r8,r9,r10⟩:=run11 hrr
 have hm':(m:Int)<f.wires.length:=by omega
 have HSR:=Lib.hid sr
 clear h hfm hrr hpv hi0 hf hin hn sp sr hrl
 go_enter Tryz.func107,Tryz.ntmps107
 go_wp2_with fail
 go_loopw[5] (fun i wr=>∃k:Nat,k≤i0∧i= .int .i64 k∧Hid (∀j,j<k→∀x,f.ins[j]? =some x→x≠(m:Int))∧W=wr) (fun i _=>f.ins.length-(intOf i).toNat)
 case atStart=>exact ⟨0,Nat.zero_le _,rfl,fun j h=>absurd h (by omega),rfl⟩
 case round=>
  obtain ⟨k,hk,rfl,HN,rfl⟩:=hrel
  have hlt:k<f.ins.length:=by omega
  have hlt':(k:Int)<f.ins.length:=by omega
  obtain ⟨b,off,x,rfl,_,hx,_,d0⟩:=si.int hlt
  by_cases e:x=(m:Int)
  ·have e':(x==(m:Int))=true:=by simp[e]
   have HX:=Lib.hid (show f.ins[k]? =some (m:Int) by rw[hx,e])
   obtain ⟨b2,off2,y,rfl,_,hy,wy,d2⟩:=HSR.out.int (k:=k) (by rw[HRL.out];exact hlt)
   have HV:Hid (y=valF f cs row (m:Int)):=by
    show _=_
    rw[val_inp HOK.out cs row HX.out,List.getD_eq_getElem?_getD,hy]
    rfl
   have HWY:=Lib.hid wy
   clear hx hy wy e
   go_wp2_with fail
   go_ret
   exact ⟨ret_int HV.out,by rw[←HV.out];exact HWY.out,⟨_,_,HH.out⟩,Upd.refl _ _⟩
  ·have e':(x==(m:Int))=false:=by simp[e]
   have hk2:k+1≤i0:=by
    have:k≠i0:=fun g=>e (by rw[g,HI0.out] at hx;injection hx with hx;exact hx.symm)
    omega
   have HN':=Lib.hid (upto_succ HN.out (fun z hz=>by rw[hx] at hz;injection hz with hz;rw[←hz];exact e))
   clear hx e
   go_wp2_with fail
   go_roundw
   case rel=>exact ⟨k+1,hk2,by go_num,HN',trivial⟩
   case measure=>first|(simp[intOf];omega)|simp[intOf]
theorem in_of {n:Int} (h:Wf n):In n:=h.le
theorem flag_wf (b:Bool):Wf (flagZ b):=by cases b<;>exact wf_of (by simp[flagZ])
theorem one_wf (op a:Int):Wf (oneV op a):=by
 unfold oneV
 split
 ·exact wf_of (in_neg a)
 split
 ·exact flag_wf _
 ·exact wf_of (by omega)
theorem do_wf (op a b:Int):Wf (doV op a b):=by
 unfold doV
 split
 ·exact wf_of (in_add a b)
 split
 ·exact wf_of (in_sub a b)
 split
 ·exact wf_of (in_mul a b)
 split
 ·exact wf_of (in_div a b)
 split
 ·exact wf_of (in_mod a b)
 split
 ·exact flag_wf _
 split
 ·exact flag_wf _
 ·exact wf_of (by omega)
theorem Done.want {f:Fm} {x:Ac} (hr:rowOk f) (hx:isW f x.a):Done f x.a:=by
 obtain ⟨m,e⟩:=Int.eq_ofNat_of_zero_le hx.1
 have:=hx.2
 rw[e] at this⊢
 exact hr m (by omega)
theorem find_act (hf:formOk f) (hcs:cs.length=f.cells.length) (x:Ac) (hx:x∈f.acts) (hw:∀n∈wants x,Done f n∧WireC f cs row R K V vw va vc vk vi vo vC vR vP 90 n):WireC f cs row R K V vw va vc vk vi vo vC vR vP 107 x.dst:=by
 intro W ds vs h
 obtain ⟨k,hk⟩:=List.getElem?_of_mem hx
 have hkl:=(List.getElem?_eq_some_iff.1 hk).1
 have hn:=(hf.2.2.2.2.1.2.1 x hx).1
 have hao:=hf.2.2.2.2.2.1 x hx
 have hpl0:=place_act hf hk
 obtain ⟨xo,xd,xa,xb,xc,xk⟩:=x
 dsimp only at hn hpl0
 refine' zq134
 have HH:=Lib.hid h
 have HOK:=Lib.hid hf
 have HX:=Lib.hid hx
 have HWT:=Lib.hid hw
 have HAO:=Lib.hid hao
 have HCS:=Lib.hid hcs
 have hu:=hao.2.2.2.1
 dsimp only at hu
 have HBK:Hid (∀W1,Below W.heap.size W W1→RunF f cs row R K V vw va vc vk vi vo vC vR vP W.heap.size W1):=fun W1 hb=>h.keep W1 (Upd.of_below hb)
 obtain ⟨hfm,hcell,_,hpl,hrr⟩:=h.keep W (Upd.refl _ _)
 obtain ⟨Aa,ca,hva,lca,mca,sa⟩:=hfm.acts
 obtain ⟨Acs,ccs,hvc,lcc,mcc,sc⟩:=hcell
 obtain ⟨Ap,cp,hvp,lcp,mcp,sp⟩:=hpl
 rw[plF_len] at hvp lcp
 rw[hcs] at hvc lcc
 subst hva;subst hvc;subst hvp
 have mca':ca≤9223372036854775807:=by unfold maxLen at mca;omega
 have mcc':ccs≤9223372036854775807:=by unfold maxLen at mcc;omega
 have mcp':cp≤9223372036854775807:=by unfold maxLen at mcp;omega
 obtain ⟨bp,op,pv,rfl,_,hpv,_,p0⟩:=sp.int (k:=m) (by rw[plF_len];exact hm)
 have hpe:pv=(k:Int):=by
  have:=(plF_get hm).symm.trans hpv
  injection this with this
  rw[←this]
  exact hpl0
 subst hpe
 obtain ⟨b,off,y,rfl,_,hy,wx,d0,d1,d2,d3,d4,d5⟩:=sa.ac hkl
 obtain rfl:(⟨xo,(m:Int),xa,xb,xc,xk⟩:Ac)=y:=Option.some.inj (hk.symm.trans hy)
 dsimp only at d0 d1 d2 d3 d4 d5
 obtain ⟨r0,r1,r2,r3,r4,r5,r6,r7,r8,r9,r10⟩:=run11 hrr
 have hm':(m:Int)<f.wires.length:=by omega
 have hk':(k:Int)<f.acts.length:=by omega
 have HWX:=Lib.hid wx
 have hKl:=h.k.lt
 have hVl:=h.v.lt
 have HK:Hid (∀W1,Below W.heap.size W W1→W1.cell? ⟨R,1,none⟩=some (.slice (some ⟨b,off,none⟩) f.acts.length ca)∧W1.cell? ⟨R,10,none⟩=some (.slice (some ⟨bp,op,none⟩) f.wires.length cp)∧W1.cell? ⟨bp,op+m,none⟩=some (.int .i64 (k:Int))∧W1.cell? ⟨b,off+k*6,none⟩=some (.int .i64 xo)∧W1.cell? ⟨b,off+k*6+1,none⟩=some (.int .i64 (m:Int))∧W1.cell? ⟨b,off+k*6+2,none⟩=some (.int .i64 xa)∧W1.cell? ⟨b,off+k*6+3,none⟩=some (.int .i64 xb)∧W1.cell? ⟨b,off+k*6+4,none⟩=some (.int .i64 xc)∧W1.cell? ⟨b,off+k*6+5,none⟩=some (.int .i64 xk)):=fun W1 hb=>⟨cell_kept r1 hb,cell_kept r10 hb,cell_kept p0 hb,cell_kept d0 hb,cell_kept d1 hb,cell_kept d2 hb,cell_kept d3 hb,cell_kept d4 hb,cell_kept d5 hb⟩
 clear h hfm hrr hpv hx hk hw hn hao sp sa hy wx hcs hpl0 hf
 go_enter Tryz.func107,Tryz.ntmps107
 go_upto_region 8 with (fail)
 clear r0 r1 r2 r3 r4 r5 r6 r7 r8 r9 r10 p0 d0 d1 d2 d3 d4 d5
 refine wp_region_held_drew (S:=fun W=>W.cell? ⟨R,1,none⟩=some (.slice (some ⟨b,off,none⟩) f.acts.length ca)∧W.cell? ⟨R,10,none⟩=some (.slice (some ⟨bp,op,none⟩) f.wires.length cp)∧W.cell? ⟨bp,op+m,none⟩=some (.int .i64 (k:Int))∧W.cell? ⟨b,off+k*6,none⟩=some (.int .i64 xo)∧W.cell? ⟨b,off+k*6+1,none⟩=some (.int .i64 (m:Int))∧W.cell? ⟨b,off+k*6+2,none⟩=some (.int .i64 xa)∧W.cell? ⟨b,off+k*6+3,none⟩=some (.int .i64 xb)∧W.cell? ⟨b,off+k*6+4,none⟩=some (.int .i64 xc)∧W.cell? ⟨b,off+k*6+5,none⟩=some (.int .i64 xk)) (by kernel_rfl) ?_ (fun hHeld=>?_)
 ·(try dsimp only);(first|(with_reducible exact HK.out _ bE)|assumption)
 refine tk 0 (some 46) rfl ?_
 refine tk 1 (some 47) rfl ?_
 refine tk 2 (some 48) rfl ?_
 refine tk 3 (some 49) rfl ?_
 refine tk 4 (some 50) rfl ?_
 refine tk 5 (some 51) rfl ?_
 refine tk 6 (some 52) rfl ?_
 refine tk 7 (some 53) rfl ?_
 refine tk 8 (some 54) rfl ?_
 refine tk 9 (some 55) rfl ?_
 refine tk 10 (some 56) rfl ?_
 refine tk 11 (some 57) rfl ?_
 refine tk 12 (some 58) rfl ?_
 refine tk 13 (some 59) rfl ?_
 refine rd1 14 (some 6) rfl (fun KK hKK=>?_)
 go_simp
 refine hKK.out _ _ ?_ (fun hHeld=>?_)
 ·(try dsimp only);(first|(with_reducible exact HK.out _ bE)|assumption)
 refine' zq4
 refine rd1 15 none rfl (fun KK hKK=>?_)
 go_simp
 refine hKK.out _ _ ?_ (fun hHeld=>?_)
 ·(try dsimp only);(first|(with_reducible exact HK.out _ bE)|assumption)
 refine' zq4
 refine wpAnyH_done (by kernel_rfl) ?_ _
 generalize hW2:World.alloc _ (Obj.cells _ 58)=w2
 have hXB:Row w2 W.heap.size #[.int .i64 xo,.int .i64 (m:Int),.int .i64 xa,.int .i64 xb,.int .i64 xc,.int .i64 xk] 58∧Below W.heap.size W w2:=by
  rw[←hW2]
  exact ⟨Row.new W _ _,bE⟩
 clear hW2 hHeld HK
 obtain ⟨rX2,bb2⟩:=hXB
 have b3:=bb2.drew
 have rX:=rX2.drew
 clear rX2 bb2
 generalize w2.drew=w3 at*
 generalize hg:W.heap.size=g at*
 have hgl:=rX.lt
 have HR3:=Lib.hid (HH.out.below (W':=w3) (by rw[hg];exact b3))
 have HU3:Hid (Upd (fun k=>k=K∨k=V) W w3):=Upd.of_below (by rw[hg];exact b3)
 have HF3:=Lib.hid (HBK.out w3 b3)
 have HCX:Hid (∀W,Upd (fun k=>k=K∨k=V) w3 W→W.cell? ⟨g,0,none⟩=some (.int .i64 xo)∧W.cell? ⟨g,1,none⟩=some (.int .i64 (m:Int))∧W.cell? ⟨g,2,none⟩=some (.int .i64 xa)∧W.cell? ⟨g,3,none⟩=some (.int .i64 xb)∧W.cell? ⟨g,4,none⟩=some (.int .i64 xc)∧W.cell? ⟨g,5,none⟩=some (.int .i64 xk)):=fun W1 u=>ac_six (u.row rX (by omega))
 clear HBK rX b3 hg HH
 obtain ⟨c0,c1,c2,c3,c4,c5⟩:=HCX.out w3 (Upd.refl _ _)
 rcases uses_cases hu with ho|ho|ho|ho|ho|ho|ho|ho|ho
 ·refine' zq268
 ·refine' zq268
 ·subst ho
  have h0:0≤xk∧xk<f.cells.length:=by
   have:=HAO.out.2.2.2.2.2.2.2.2
   simp at this
   exact ⟨this.1,this.2.1⟩
  obtain ⟨q,rfl⟩:=Int.eq_ofNat_of_zero_le h0.1
  have hq:q<f.cells.length:=by omega
  have hq':(q:Int)<f.cells.length:=by omega
  obtain ⟨_,hsc,_,_,hr3⟩:=HF3.out
  obtain ⟨A9,c9,hA9,_,_,s9⟩:=hsc
  injection hA9 with hA1 _ hA3
  subst hA1;subst hA3
  obtain ⟨b2,off2,y,rfl,_,hy,wy,d9⟩:=s9.int (k:=q) (by rw[HCS.out];exact hq)
  have HV:Hid (y=valF f cs row (m:Int)):=by
   show _=_
   rw[val_pre HOK.out cs row HX.out rfl]
   simp[getI,List.getD_eq_getElem?_getD,hy]
  have HWY:=Lib.hid wy
  obtain ⟨r0,r1,r2,r3,r4,r5,r6,r7,r8,r9,r10⟩:=run11 hr3
  clear hy wy hu h0 hr3
  refine' zq220
  go_ret
  exact ⟨ret_int HV.out,by rw[←HV.out];exact HWY.out,⟨_,_,HR3.out.below (by first|exact below_drewN' (Below.refl _ _) _|exact Below.refl _ _)⟩,HU3.out.trans (Upd.of_below (by first|exact below_drewN' (Below.refl _ _) _|exact Below.refl _ _))⟩
 ·subst ho
  obtain ⟨hda,hwa⟩:=HWT.out xa (wants_a (by dsimp only;decide))
  have HV:Hid (valF f cs row xa=valF f cs row (m:Int)):=(val_copy HOK.out cs row HX.out (.inl rfl) hda).symm
  refine' zq226
 ·subst ho
  obtain ⟨hda,hwa⟩:=HWT.out xa (wants_a (by dsimp only;decide))
  have HV:Hid (valF f cs row xa=valF f cs row (m:Int)):=(val_copy HOK.out cs row HX.out (.inr rfl) hda).symm
  refine' zq226
 ·refine' zq42
 ·refine' zq42
 ·have hu1:=uses1 (op:=xo) (by omega)
  obtain ⟨hda,hwa⟩:=HWT.out xa (wants_a (by dsimp only;rw[hu1];decide))
  have HV:Hid (oneV xo (valF f cs row xa)=valF f cs row (m:Int)):=(val_one HOK.out cs row HX.out (by dsimp only;omega) hda).symm
  have HWV:Hid (Wf (oneV xo (valF f cs row xa))):=one_wf _ _
  have HW:=Lib.hid hwa
  have HU1:=Lib.hid hu1
  refine' zq234
  clear hu hu1 hwa hda HWT
  refine' zq237
  rintro e w4 ⟨rfl,rfl⟩
  rw[HU1.out]
  go_upto_region 20 with (fail)
  clear c0 c1 c2 c3 c4 c5
  refine wp_region_held_drew (S:=fun W=>W.cell? ⟨g,0,none⟩=some (.int .i64 xo)∧W.cell? ⟨g,1,none⟩=some (.int .i64 (m:Int))∧W.cell? ⟨g,2,none⟩=some (.int .i64 xa)∧W.cell? ⟨g,3,none⟩=some (.int .i64 xb)∧W.cell? ⟨g,4,none⟩=some (.int .i64 xc)∧W.cell? ⟨g,5,none⟩=some (.int .i64 xk)) (by kernel_rfl) ?_ (fun hHeld=>?_)
  ·refine' zq276
  refine tk 0 (some 109) rfl ?_
  refine tk 1 (some 110) rfl ?_
  refine tk 2 (some 111) rfl ?_
  refine tk 3 (some 112) rfl ?_
  refine tk 4 (some 113) rfl ?_
  refine rd1 5 (some 114) rfl (fun KK hKK=>?_)
  go_simp
  (go_at_call 90;refine Calls.mono (HW.out _ _ _ (HR3.out.below ((Below.refl _ _).drew))) ?_;rintro e w8 ⟨rfl,hw8,⟨ds8,vs8,hr8⟩,hu8⟩;(have hu8':Upd (fun k=>k=K∨k=V) w3 w8:=(Upd.of_below ((Below.refl _ _).drew)).trans hu8))
  (try go_wp2_with fail)
  refine hKK.out _ _ ?_ (fun hHeld=>?_)
  ·refine' zq276
  refine' zq4
  refine rd1 6 (some 115) rfl (fun KK hKK=>?_)
  go_simp
  (go_at_call 109;refine Calls.mono (rone_any _ _ _ (in_of hw8)) ?_;rintro e w9 ⟨rfl,hb9⟩;(have hr9:=hr8.below hb9);(have hu9:Upd (fun k=>k=K∨k=V) w3 w9:=hu8'.trans (Upd.of_below hb9)))
  (try go_wp2_with fail)
  refine hKK.out _ _ ?_ (fun hHeld=>?_)
  ·refine' zq276
  refine' zq4
  refine tk 7 (some 108) rfl ?_
  refine tk 8 (some 116) rfl ?_
  refine tk 9 (some 117) rfl ?_
  refine tk 10 (some 7) rfl ?_
  refine tk 11 (some 8) rfl ?_
  refine wpAnyH_done (by kernel_rfl) ?_ _
  have HR9:=Lib.hid hr9
  have HU9:=Lib.hid (HU3.out.trans hu9)
  generalize hov:oneV xo (valF f cs row xa)=ov at*
  go_wp2_with fail
  go_ret
  exact ⟨ret_int HV.out,by rw[←HV.out];exact HWV.out,⟨_,_,HR9.out⟩,HU9.out⟩
 ·have hu2:=uses2 (op:=xo) ho
  obtain ⟨hda,hwa⟩:=HWT.out xa (wants_a (by dsimp only;rw[hu2];decide))
  obtain ⟨hdb,hwb⟩:=HWT.out xb (wants_b (by dsimp only;rw[hu2];decide))
  have HV:Hid (doV xo (valF f cs row xa) (valF f cs row xb)=valF f cs row (m:Int)):=(val_two HOK.out cs row HX.out ho hda hdb).symm
  have HWV:Hid (Wf (doV xo (valF f cs row xa) (valF f cs row xb))):=do_wf _ _ _
  have HW:=Lib.hid (fun W ds vs h=>hwa W ds vs h)
  have HWb:=Lib.hid (fun W ds vs h=>hwb W ds vs h)
  have HU2:=Lib.hid hu2
  refine' zq234
  clear hu hu2 hwa hda hwb hdb HWT
  refine' zq237
  rintro e w4 ⟨rfl,rfl⟩
  rw[HU2.out]
  go_upto_region 22 with (fail)
  clear c0 c1 c2 c3 c4 c5
  refine wp_region_held_drew (S:=fun W=>W.cell? ⟨g,0,none⟩=some (.int .i64 xo)∧W.cell? ⟨g,1,none⟩=some (.int .i64 (m:Int))∧W.cell? ⟨g,2,none⟩=some (.int .i64 xa)∧W.cell? ⟨g,3,none⟩=some (.int .i64 xb)∧W.cell? ⟨g,4,none⟩=some (.int .i64 xc)∧W.cell? ⟨g,5,none⟩=some (.int .i64 xk)) (by kernel_rfl) ?_ (fun hHeld=>?_)
  ·refine' zq165
  refine tk 0 (some 120) rfl ?_
  refine tk 1 (some 121) rfl ?_
  refine tk 2 (some 122) rfl ?_
  refine tk 3 (some 123) rfl ?_
  refine tk 4 (some 124) rfl ?_
  refine tk 6 (some 126) rfl ?_
  refine tk 7 (some 127) rfl ?_
  refine tk 8 (some 128) rfl ?_
  refine rd1 5 (some 125) rfl (fun KK hKK=>?_)
  refine' zq96
  refine rd1 9 (some 129) rfl (fun KK hKK=>?_)
  refine' zq96
  refine rd1 10 (some 130) rfl (fun KK hKK=>?_)
  go_simp
  (go_at_call 110;refine Calls.mono (rdo_any _ _ _ _ (in_of hw8) (in_of hw9)) ?_;rintro e w10 ⟨rfl,hb10⟩;(have hr10:=hr9.below hb10);(have hu10:Upd (fun k=>k=K∨k=V) w3 w10:=hu9'.trans (Upd.of_below hb10)))
  (try go_wp2_with fail)
  refine hKK.out _ _ ?_ (fun hHeld=>?_)
  ·refine' zq165
  refine' zq4
  refine tk 11 (some 119) rfl ?_
  refine tk 12 (some 131) rfl ?_
  refine tk 13 (some 132) rfl ?_
  refine tk 14 (some 9) rfl ?_
  refine tk 15 (some 10) rfl ?_
  refine wpAnyH_done (by kernel_rfl) ?_ _
  have HR10:=Lib.hid hr10
  have HU10:=Lib.hid (HU3.out.trans hu10)
  generalize hov:doV xo (valF f cs row xa) (valF f cs row xb)=ov at*
  go_wp2_with fail
  go_ret
  exact ⟨ret_int HV.out,by rw[←HV.out];exact HWV.out,⟨_,_,HR10.out⟩,HU10.out⟩
end
open Go.RowKit Vf Fo Ar
section
variable {f:Fm} {cs row:List Int} {R K V:Nat} {vw va vc vk vi vo vC vR vP:Value}
theorem wire_all (hf:formOk f) (hrl:row.length=f.ins.length) (hcs:cs.length=f.cells.length) {n:Int} (h:Done f n):WireC f cs row R K V vw va vc vk vi vo vC vR vP 90 n:=by
 induction h with
 |ins n h=>exact wire_of_find n (hf.2.1.1 n h).1 (find_in hf hrl n h)
 |act x hx hw _ ih1 _=>exact wire_of_find x.dst (hf.2.2.2.2.1.2.1 x hx).1 (find_act hf hcs x hx (fun n hn=>⟨hw n hn,ih1 n hn⟩))
theorem wire_any (hf:formOk f) (hrl:row.length=f.ins.length) (hcs:cs.length=f.cells.length) {n:Int} (h:isW f n):WireC f cs row R K V vw va vc vk vi vo vC vR vP 90 n:=
 wire_all hf hrl hcs (Done.want (x:=⟨0,0,n,0,0,0⟩) hf.2.2.2.2.2.2 h)
theorem thF_drop {c:List Gd} {k:Nat} {g:Gd} (h:c[k]? =some g):thF f cs row (c.drop k)=if (decide (valF f cs row g.wire≠0))=g.no then false else thF f cs row (c.drop (k+1)):=by
 have hk:=(List.getElem?_eq_some_iff.1 h)
 rw[List.drop_eq_getElem_cons hk.1,hk.2,thF]
theorem there_run (hf:formOk f) (hrl:row.length=f.ins.length) (hcs:cs.length=f.cells.length) (c:List Gd) (v:Value) (B:Nat) (W:World) (ds:List Bool) (vs:List Int) (h:RunAt f cs row R K V vw va vc vk vi vo vC vR vP W ds vs)
  (hv:∀W',Upd (fun k=>k=K∨k=V) W W'→SlV W' B 2 isGd v c) (hc:∀g∈c,isW f g.wire):
  Calls Tryz.prog 91 #[.pointer (some ⟨R,0,none⟩),v] W fun e W'=>
   e= .returned (.bool (thF f cs row c))∧(∃ds' vs',RunAt f cs row R K V vw va vc vk vi vo vC vR vP W' ds' vs')∧Upd (fun k=>k=K∨k=V) W W':=by
 have HV:=Lib.hid hv
 obtain ⟨A,cap,rfl,l1,m1,_⟩:=hv W (Upd.refl _ _)
 have m1':cap≤9223372036854775807:=by unfold maxLen at m1;omega
 have HH:=Lib.hid h
 have HC:=Lib.hid hc
 have HWI:Hid (∀n,isW f n→∀W ds vs,RunAt f cs row R K V vw va vc vk vi vo vC vR vP W ds vs→Calls Tryz.prog 90 #[.pointer (some ⟨R,0,none⟩),.int .i64 n] W fun e W'=>
  e= .returned (.int .i64 (valF f cs row n))∧Wf (valF f cs row n)∧(∃ds' vs',RunAt f cs row R K V vw va vc vk vi vo vC vR vP W' ds' vs')∧Upd (fun k=>k=K∨k=V) W W'):=fun n hn=>wire_any hf hrl hcs hn
 clear hv h hc hf hrl hcs
 go_enter Tryz.func91,Tryz.ntmps91
 go_wp2_with fail
 go_loopw[5] (fun i wr=>∃(k:Nat) (ds:List Bool) (vs:List Int),k≤c.length∧i= .int .i64 k∧Hid (thF f cs row c=thF f cs row (c.drop k))∧Hid (RunAt f cs row R K V vw va vc vk vi vo vC vR vP wr ds vs)∧Hid (Upd (fun k=>k=K∨k=V) W wr)) (fun i _=>c.length-(intOf i).toNat)
 case atStart=>exact ⟨0,ds,vs,Nat.zero_le _,rfl,rfl,HH.out,Upd.refl _ _⟩
 case round=>
  clear HH
  obtain ⟨k,ds,vs,hk,rfl,HT,HR,HU⟩:=hrel
  by_cases hlt:k<c.length
  ·have hsz:=HU.out.size
   obtain ⟨A',c',hA',_,_,sl⟩:=HV.out wr HU.out
   refine' zq288
   obtain ⟨b,off,⟨gw,gn⟩,rfl,hbB,hx,wx,d0,d1⟩:=sl.gd hlt
   dsimp only at d0 d1
   have hlt':(k:Int)<c.length:=by omega
   have HGW:=Lib.hid (HC.out _ (List.mem_of_getElem? hx))
   have HTD:Hid (thF f cs row (c.drop k)=if (decide (valF f cs row gw≠0))=gn then false else thF f cs row (c.drop (k+1))):=thF_drop hx
   have HX:=Lib.hid hx
   have HK:Hid (∀W1,Upd (fun k=>k=K∨k=V) wr W1→W1.cell? ⟨b,off+k*2,none⟩=some (.int .i64 gw)∧W1.cell? ⟨b,off+k*2+1,none⟩=some (.bool gn)):=fun W1 u=>by
    obtain ⟨A',c',hA',_,_,sl⟩:=HV.out W1 (HU.out.trans u)
    refine' zq288
    obtain ⟨b',off',g',hA',_,hx',_,e0,e1⟩:=sl.gd hlt
    injection hA' with hA'
    injection hA' with h1 h2
    subst h1;subst h2
    obtain rfl:(⟨gw,gn⟩:Gd)=g':=Option.some.inj (HX.out.symm.trans hx')
    exact ⟨e0,e1⟩
   clear sl hx wx d0 d1
   go_upto_region 4 with (fail)
   refine wp_region_held_drew (S:=fun W=>W.cell? ⟨b,off+k*2,none⟩=some (.int .i64 gw)∧W.cell? ⟨b,off+k*2+1,none⟩=some (.bool gn)) (by kernel_rfl) ?_ (fun hHeld=>?_)
   ·(try dsimp only);(first|exact HK.out _ hu8'|exact HK.out _ (Upd.of_below ((Below.refl _ _).drew)))
   refine tk 0 (some 12) rfl ?_
   refine tk 1 (some 13) rfl ?_
   refine tk 2 (some 14) rfl ?_
   refine tk 3 (some 15) rfl ?_
   refine tk 4 (some 16) rfl ?_
   refine tk 5 (some 17) rfl ?_
   refine tk 8 (some 20) rfl ?_
   refine tk 9 (some 21) rfl ?_
   refine tk 10 (some 22) rfl ?_
   refine tk 11 (some 23) rfl ?_
   refine tk 12 (some 24) rfl ?_
   refine rd1 6 (some 18) rfl (fun KK hKK=>?_)
   go_simp
   (go_at_call 90;refine Calls.mono (HWI.out gw HGW.out _ _ _ (HR.out.below ((Below.refl _ _).drew))) ?_;rintro e w8 ⟨rfl,_,⟨ds8,vs8,hr8⟩,hu8⟩;(have hu8':Upd (fun k=>k=K∨k=V) wr w8:=(Upd.of_below ((Below.refl _ _).drew)).trans hu8))
   (try go_wp2_with fail)
   refine hKK.out _ _ ?_ (fun hHeld=>?_)
   ·(try dsimp only);(first|exact HK.out _ hu8'|exact HK.out _ (Upd.of_below ((Below.refl _ _).drew)))
   refine' zq4
   refine tk 7 (some 19) rfl ?_
   refine tk 13 (some 25) rfl ?_
   refine wpAnyH_done (by kernel_rfl) ?_ _
   have HR8:=Lib.hid hr8
   have HU8:=Lib.hid (HU.out.trans hu8')
   clear hHeld hr8 hu8 hu8' HK
   obtain ⟨BB,hbb⟩:∃BB:Bool,((valF f cs row gw !=0)==gn)=BB:=⟨_,rfl⟩
   have HTB:Hid (thF f cs row (c.drop k)=if BB=true then false else thF f cs row (c.drop (k+1))):=by
    show _=_
    rw[HTD.out,←hbb]
    by_cases hz:valF f cs row gw=0<;>cases gn<;>simp[hz]
   rw[hbb]
   clear hbb
   cases BB
   ·have HT':Hid (thF f cs row c=thF f cs row (c.drop (k+1))):=by
     show _=_
     rw[HT.out,HTB.out,if_neg (by decide)]
    go_wp2_with fail
    go_roundw
    case rel=>exact ⟨k+1,_,_,by omega,by go_num,HT',HR8,HU8⟩
    case measure=>simp[intOf];omega
   ·have HF:Hid (thF f cs row c=false):=by
     show _=_
     rw[HT.out,HTB.out,if_pos rfl]
    go_wp2_with fail
    go_ret
    exact ⟨ret_bool HF.out.symm,⟨_,_,HR8.out⟩,HU8.out⟩
  ·obtain rfl:k=c.length:=by omega
   have HF:Hid (thF f cs row c=true):=by
    show _=_
    rw[HT.out,List.drop_length,thF]
   go_wp2_with fail
   go_ret
   exact ⟨ret_bool HF.out.symm,⟨_,_,HR.out⟩,HU.out⟩
end
end Go.Proofs.YtckognjamlckcaaGreatDoor
