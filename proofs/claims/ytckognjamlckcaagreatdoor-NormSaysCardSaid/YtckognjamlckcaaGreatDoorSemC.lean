/-
  The document's run of a form: find. The document's run of a form: every wire's value; is a clock there?
-/
import Derived.Test.YtckognjamlckcaaGreatDoorSemA
import Derived.Test.YtckognjamlckcaaGreatDoorRefAr
set_option maxHeartbeats 16000000
set_option maxRecDepth 100000
namespace Go.Proofs.YtckognjamlckcaaGreatDoor
open Go.RowKit Vf Fo Ar Z
attribute [local go_sem ↓] Go.wp_at_zero Go.wp_at_succ
section
variable {f:Fm} {cs row:List Int} {R K V:Nat} {vw va vc vk vi vo vC vR vP:Value}
theorem Bp (hf:bm f) (hrl:row.length=f.ins.length) (n:Int) (hin:n∈f.ins):kC f cs row R K V vw va vc vk vi vo vC vR vP 107 n:=by
 intro W ds vs h
 have hn:=(hf.2.1.1 n hin).1
 refine' zq113
 have HH:=zH h
 obtain ⟨i0,hi0⟩:=List.getElem?_of_mem hin
 have HI0:=zH hi0
 have hi0l:=(List.getElem?_eq_some_iff.1 hi0).1
 have HOK:=zH hf
 obtain ⟨hfm,_,hrow,hpl,hrr⟩:=h.keep W (ae.refl _ _)
 obtain ⟨Ai,ci,hvi,lci,mci,si⟩:=hfm.ins
 obtain ⟨Ar',cr,hvr,lcr,mcr,sr⟩:=hrow
 obtain ⟨Ap,cp,hvp,lcp,mcp,sp⟩:=hpl
 rw[jS] at hvp lcp
 rw[hrl] at hvr lcr
 have HRL:=zH hrl
 subst hvi;subst hvr;subst hvp
 have mci':ci<=9223372036854775807:=by unfold maxLen at mci;omega
 have mcr':cr<=9223372036854775807:=by unfold maxLen at mcr;omega
 have mcp':cp<=9223372036854775807:=by unfold maxLen at mcp;omega
 obtain ⟨bp,op,pv,rfl,_,hpv,_,p0⟩:=sp.int (k:=m) (by rw[jS];exact hm)
 have hpe:pv= -1:=by
  have:=(oA hm).symm.trans hpv
  injection this with this
  rw[<-this]
  exact AG hf hin
 subst hpe
 obtain ⟨r0,r1,r2,r3,r4,r5,r6,r7,r8,r9,r10⟩:=ff hrr
 have hm':(m:Int)<f.wires.length:=by omega
 have HSR:=zH sr
 clear h hfm hrr hpv hi0 hf hin hn sp sr hrl
 go_enter Tryz.func107,Tryz.ntmps107
 go_wp2_with fail
 go_loopw[5] (fun i wr=>∃k:Nat,k<=i0/\i= .int .i64 k/\Hid (∀j,j<k->∀x,f.ins[j]? =some x->x≠(m:Int))/\W=wr) (fun i _=>f.ins.length-(intOf i).toNat)
 case atStart=>exact ⟨0,Nat.zero_le _,rfl,fun j h=>absurd h (by omega),rfl⟩
 case round=>
  obtain ⟨k,hk,rfl,HN,rfl⟩:=hrel
  have hlt:k<f.ins.length:=by omega
  have hlt':(k:Int)<f.ins.length:=by omega
  obtain ⟨b,off,x,rfl,_,hx,_,d0⟩:=si.int hlt
  by_cases e:x=(m:Int)
  ·have e':(x==(m:Int))=true:=by simp[e]
   have HX:=zH (show f.ins[k]? =some (m:Int) by rw[hx,e])
   obtain ⟨b2,off2,y,rfl,_,hy,wy,d2⟩:=HSR.o.int (k:=k) (by rw[HRL.o];exact hlt)
   have HV:Hid (y=aK f cs row (m:Int)):=by
    show _=_
    rw[tH HOK.o cs row HX.o,List.getD_eq_getElem?_getD,hy]
    rfl
   have HWY:=zH wy
   clear hx hy wy e
   go_wp2_with fail
   go_ret
   exact ⟨az HV.o,by rw[<-HV.o];exact HWY.o,⟨_,_,HH.o⟩,ae.refl _ _⟩
  ·have e':(x==(m:Int))=false:=by simp[e]
   have hk2:k+1<=i0:=by
    have:k≠i0:=fun g=>e (by rw[g,HI0.o] at hx;injection hx with hx;exact hx.symm)
    omega
   have HN':=zH (aC HN.o (fun z hz=>by rw[hx] at hz;injection hz with hz;rw[<-hz];exact e))
   clear hx e
   go_wp2_with fail
   go_roundw
   case rel=>exact ⟨k+1,hk2,by go_num,HN',trivial⟩
   case measure=>first|(simp[intOf];omega)|simp[intOf]
theorem lQ {n:Int} (h:Wf n):In n:=h.le
theorem ol (b:Bool):Wf (cI b):=by cases b<;>exact aT (by simp[cI])
theorem ws (op a:Int):Wf (im op a):=by
 unfold im
 split
 ·exact aT (nv a)
 split
 ·exact ol _
 ·exact aT (by omega)
theorem AZ (op a b:Int):Wf (gF op a b):=by
 unfold gF
 split
 ·exact aT (Dn a b)
 split
 ·exact aT (Dq a b)
 split
 ·exact aT (xf a b)
 split
 ·exact aT (xj a b)
 split
 ·exact aT (CS a b)
 split
 ·exact ol _
 split
 ·exact ol _
 ·exact aT (by omega)
theorem bB.want {f:Fm} {x:Ac} (hr:gY f) (hx:ak f x.a):bB f x.a:=by
 obtain ⟨m,e⟩:=Int.eq_ofNat_of_zero_le hx.1
 have:=hx.2
 rw[e] at this⊢
 exact hr m (by omega)
theorem yj (hf:bm f) (hcs:cs.length=f.cells.length) (x:Ac) (hx:x∈f.acts) (hw:∀n∈wants x,bB f n/\kC f cs row R K V vw va vc vk vi vo vC vR vP 90 n):kC f cs row R K V vw va vc vk vi vo vC vR vP 107 x.dst:=by
 intro W ds vs h
 obtain ⟨k,hk⟩:=List.getElem?_of_mem hx
 have hkl:=(List.getElem?_eq_some_iff.1 hk).1
 have hn:=(hf.2.2.2.2.1.2.1 x hx).1
 have hao:=hf.2.2.2.2.2.1 x hx
 have hpl0:=xI hf hk
 obtain ⟨xo,xd,xa,xb,xc,xk⟩:=x
 dsimp only at hn hpl0
 refine' zq113
 have HH:=zH h
 have HOK:=zH hf
 have HX:=zH hx
 have HWT:=zH hw
 have HAO:=zH hao
 have HCS:=zH hcs
 have hu:=hao.2.2.2.1
 dsimp only at hu
 have HBK:Hid (∀W1,Below W.heap.size W W1->qp f cs row R K V vw va vc vk vi vo vC vR vP W.heap.size W1):=fun W1 hb=>h.keep W1 (ae.of_below hb)
 obtain ⟨hfm,hcell,_,hpl,hrr⟩:=h.keep W (ae.refl _ _)
 obtain ⟨Aa,ca,hva,lca,mca,sa⟩:=hfm.acts
 obtain ⟨Acs,ccs,hvc,lcc,mcc,sc⟩:=hcell
 obtain ⟨Ap,cp,hvp,lcp,mcp,sp⟩:=hpl
 rw[jS] at hvp lcp
 rw[hcs] at hvc lcc
 subst hva;subst hvc;subst hvp
 have mca':ca<=9223372036854775807:=by unfold maxLen at mca;omega
 have mcc':ccs<=9223372036854775807:=by unfold maxLen at mcc;omega
 have mcp':cp<=9223372036854775807:=by unfold maxLen at mcp;omega
 obtain ⟨bp,op,pv,rfl,_,hpv,_,p0⟩:=sp.int (k:=m) (by rw[jS];exact hm)
 have hpe:pv=(k:Int):=by
  have:=(oA hm).symm.trans hpv
  injection this with this
  rw[<-this]
  exact hpl0
 subst hpe
 obtain ⟨b,off,y,rfl,_,hy,wx,d0,d1,d2,d3,d4,d5⟩:=sa.ac hkl
 obtain rfl:(⟨xo,(m:Int),xa,xb,xc,xk⟩:Ac)=y:=Option.some.inj (hk.symm.trans hy)
 dsimp only at d0 d1 d2 d3 d4 d5
 obtain ⟨r0,r1,r2,r3,r4,r5,r6,r7,r8,r9,r10⟩:=ff hrr
 have hm':(m:Int)<f.wires.length:=by omega
 have hk':(k:Int)<f.acts.length:=by omega
 have HWX:=zH wx
 have hKl:=h.k.lt
 have hVl:=h.v.lt
 have HK:Hid (∀W1,Below W.heap.size W W1->W1.cell? ⟨R,1,none⟩=some (.slice (some ⟨b,off,none⟩) f.acts.length ca)/\W1.cell? ⟨R,10,none⟩=some (.slice (some ⟨bp,op,none⟩) f.wires.length cp)/\W1.cell? ⟨bp,op+m,none⟩=some (.int .i64 (k:Int))/\W1.cell? ⟨b,off+k*6,none⟩=some (.int .i64 xo)/\W1.cell? ⟨b,off+k*6+1,none⟩=some (.int .i64 (m:Int))/\W1.cell? ⟨b,off+k*6+2,none⟩=some (.int .i64 xa)/\W1.cell? ⟨b,off+k*6+3,none⟩=some (.int .i64 xb)/\W1.cell? ⟨b,off+k*6+4,none⟩=some (.int .i64 xc)/\W1.cell? ⟨b,off+k*6+5,none⟩=some (.int .i64 xk)):=fun W1 hb=>⟨cell_kept r1 hb,cell_kept r10 hb,cell_kept p0 hb,cell_kept d0 hb,cell_kept d1 hb,cell_kept d2 hb,cell_kept d3 hb,cell_kept d4 hb,cell_kept d5 hb⟩
 clear h hfm hrr hpv hx hk hw hn hao sp sa hy wx hcs hpl0 hf
 go_enter Tryz.func107,Tryz.ntmps107
 go_upto_region 8 with (fail)
 clear r0 r1 r2 r3 r4 r5 r6 r7 r8 r9 r10 p0 d0 d1 d2 d3 d4 d5
 refine wp_region_held_drew (S:=fun W=>W.cell? ⟨R,1,none⟩=some (.slice (some ⟨b,off,none⟩) f.acts.length ca)/\W.cell? ⟨R,10,none⟩=some (.slice (some ⟨bp,op,none⟩) f.wires.length cp)/\W.cell? ⟨bp,op+m,none⟩=some (.int .i64 (k:Int))/\W.cell? ⟨b,off+k*6,none⟩=some (.int .i64 xo)/\W.cell? ⟨b,off+k*6+1,none⟩=some (.int .i64 (m:Int))/\W.cell? ⟨b,off+k*6+2,none⟩=some (.int .i64 xa)/\W.cell? ⟨b,off+k*6+3,none⟩=some (.int .i64 xb)/\W.cell? ⟨b,off+k*6+4,none⟩=some (.int .i64 xc)/\W.cell? ⟨b,off+k*6+5,none⟩=some (.int .i64 xk)) (by kernel_rfl) ?_ (fun hHeld=>?_)
 ·(try dsimp only);(first|(with_reducible exact HK.o _ bE)|assumption)
 refine tk 0 (some 46) rfl ?_
 refine tk 1 (some 47) rfl ?_
 refine tk 2 (some 48) rfl ?_
 refine tk 3 (some 49) rfl ?_
 refine tk 4 (some 50) rfl ?_
 refine tk 5 (some 51) rfl ?_
 refine tk 6 (some 52) rfl ?_
 refine tk 7 (some 53) rfl ?_
 refine tk 8 (some 54) rfl ?_
 refine tk 9 (some 55) rfl ?_
 refine tk 10 (some 56) rfl ?_
 refine tk 11 (some 57) rfl ?_
 refine tk 12 (some 58) rfl ?_
 refine tk 13 (some 59) rfl ?_
 refine aH 14 (some 6) rfl (fun KK hKK=>?_)
 go_simp
 refine hKK.out _ _ ?_ (fun hHeld=>?_)
 ·(try dsimp only);(first|(with_reducible exact HK.o _ bE)|assumption)
 refine' zq4
 refine aH 15 none rfl (fun KK hKK=>?_)
 go_simp
 refine hKK.out _ _ ?_ (fun hHeld=>?_)
 ·(try dsimp only);(first|(with_reducible exact HK.o _ bE)|assumption)
 refine' zq4
 refine wpAnyH_done (by kernel_rfl) ?_ _
 generalize hW2:World.alloc _ (Obj.cells _ 58)=w2
 have hXB:ai w2 W.heap.size #[.int .i64 xo,.int .i64 (m:Int),.int .i64 xa,.int .i64 xb,.int .i64 xc,.int .i64 xk] 58/\Below W.heap.size W w2:=by
  rw[<-hW2]
  exact ⟨ai.new W _ _,bE⟩
 clear hW2 hHeld HK
 obtain ⟨rX2,bb2⟩:=hXB
 have b3:=bb2.drew
 have rX:=rX2.drew
 clear rX2 bb2
 generalize w2.drew=w3 at*
 generalize hg:W.heap.size=g at*
 have hgl:=rX.lt
 have HR3:=zH (HH.o.below (W':=w3) (by rw[hg];exact b3))
 have HU3:Hid (ae (fun k=>k=K\/k=V) W w3):=ae.of_below (by rw[hg];exact b3)
 have HF3:=zH (HBK.o w3 b3)
 have HCX:Hid (∀W,ae (fun k=>k=K\/k=V) w3 W->W.cell? ⟨g,0,none⟩=some (.int .i64 xo)/\W.cell? ⟨g,1,none⟩=some (.int .i64 (m:Int))/\W.cell? ⟨g,2,none⟩=some (.int .i64 xa)/\W.cell? ⟨g,3,none⟩=some (.int .i64 xb)/\W.cell? ⟨g,4,none⟩=some (.int .i64 xc)/\W.cell? ⟨g,5,none⟩=some (.int .i64 xk)):=fun W1 u=>De (u.row rX (by omega))
 clear HBK rX b3 hg HH
 obtain ⟨c0,c1,c2,c3,c4,c5⟩:=HCX.o w3 (ae.refl _ _)
 rcases kE hu with ho|ho|ho|ho|ho|ho|ho|ho|ho
 ·refine' zq242
 ·refine' zq242
 ·subst ho
  have h0:0<=xk/\xk<f.cells.length:=by
   have:=HAO.o.2.2.2.2.2.2.2.2
   simp at this
   exact ⟨this.1,this.2.1⟩
  obtain ⟨q,rfl⟩:=Int.eq_ofNat_of_zero_le h0.1
  have hq:q<f.cells.length:=by omega
  have hq':(q:Int)<f.cells.length:=by omega
  obtain ⟨_,hsc,_,_,hr3⟩:=HF3.o
  obtain ⟨A9,c9,hA9,_,_,s9⟩:=hsc
  injection hA9 with hA1 _ hA3
  subst hA1;subst hA3
  obtain ⟨b2,off2,y,rfl,_,hy,wy,d9⟩:=s9.int (k:=q) (by rw[HCS.o];exact hq)
  have HV:Hid (y=aK f cs row (m:Int)):=by
   show _=_
   rw[nX HOK.o cs row HX.o rfl]
   simp[ao,List.getD_eq_getElem?_getD,hy]
  have HWY:=zH wy
  obtain ⟨r0,r1,r2,r3,r4,r5,r6,r7,r8,r9,r10⟩:=ff hr3
  clear hy wy hu h0 hr3
  refine' zq199
  go_ret
  exact ⟨az HV.o,by rw[<-HV.o];exact HWY.o,⟨_,_,HR3.o.below (by first|exact ap (Below.refl _ _) _|exact Below.refl _ _)⟩,HU3.o.trans (ae.of_below (by first|exact ap (Below.refl _ _) _|exact Below.refl _ _))⟩
 ·subst ho
  obtain ⟨hda,hwa⟩:=HWT.o xa (eW (by dsimp only;decide))
  have HV:Hid (aK f cs row xa=aK f cs row (m:Int)):=(kI HOK.o cs row HX.o (.inl rfl) hda).symm
  refine' zq206
 ·subst ho
  obtain ⟨hda,hwa⟩:=HWT.o xa (eW (by dsimp only;decide))
  have HV:Hid (aK f cs row xa=aK f cs row (m:Int)):=(kI HOK.o cs row HX.o (.inr rfl) hda).symm
  refine' zq206
 ·refine' zq35
 ·refine' zq35
 ·have hu1:=pL (op:=xo) (by omega)
  obtain ⟨hda,hwa⟩:=HWT.o xa (eW (by dsimp only;rw[hu1];decide))
  have HV:Hid (im xo (aK f cs row xa)=aK f cs row (m:Int)):=(tj HOK.o cs row HX.o (by dsimp only;omega) hda).symm
  have HWV:Hid (Wf (im xo (aK f cs row xa))):=ws _ _
  have HW:=zH hwa
  have HU1:=zH hu1
  refine' zq212
  clear hu hu1 hwa hda HWT
  refine' zq215
  rintro e w4 ⟨rfl,rfl⟩
  rw[HU1.o]
  go_upto_region 20 with (fail)
  clear c0 c1 c2 c3 c4 c5
  refine wp_region_held_drew (S:=fun W=>W.cell? ⟨g,0,none⟩=some (.int .i64 xo)/\W.cell? ⟨g,1,none⟩=some (.int .i64 (m:Int))/\W.cell? ⟨g,2,none⟩=some (.int .i64 xa)/\W.cell? ⟨g,3,none⟩=some (.int .i64 xb)/\W.cell? ⟨g,4,none⟩=some (.int .i64 xc)/\W.cell? ⟨g,5,none⟩=some (.int .i64 xk)) (by kernel_rfl) ?_ (fun hHeld=>?_)
  ·refine' zq249
  refine tk 0 (some 109) rfl ?_
  refine tk 1 (some 110) rfl ?_
  refine tk 2 (some 111) rfl ?_
  refine tk 3 (some 112) rfl ?_
  refine tk 4 (some 113) rfl ?_
  refine aH 5 (some 114) rfl (fun KK hKK=>?_)
  go_simp
  (go_at_call 90;refine Calls.mono (HW.o _ _ _ (HR3.o.below ((Below.refl _ _).drew))) ?_;rintro e w8 ⟨rfl,hw8,⟨ds8,vs8,hr8⟩,hu8⟩;(have hu8':ae (fun k=>k=K\/k=V) w3 w8:=(ae.of_below ((Below.refl _ _).drew)).trans hu8))
  refine' zq276
  refine aH 6 (some 115) rfl (fun KK hKK=>?_)
  go_simp
  (go_at_call 109;refine Calls.mono (qO _ _ _ (lQ hw8)) ?_;rintro e w9 ⟨rfl,hb9⟩;(have hr9:=hr8.below hb9);(have hu9:ae (fun k=>k=K\/k=V) w3 w9:=hu8'.trans (ae.of_below hb9)))
  refine' zq276
  refine tk 7 (some 108) rfl ?_
  refine tk 8 (some 116) rfl ?_
  refine tk 9 (some 117) rfl ?_
  refine tk 10 (some 7) rfl ?_
  refine tk 11 (some 8) rfl ?_
  refine wpAnyH_done (by kernel_rfl) ?_ _
  have HR9:=zH hr9
  have HU9:=zH (HU3.o.trans hu9)
  generalize hov:im xo (aK f cs row xa)=ov at*
  go_wp2_with fail
  go_ret
  exact ⟨az HV.o,by rw[<-HV.o];exact HWV.o,⟨_,_,HR9.o⟩,HU9.o⟩
 ·have hu2:=uc (op:=xo) ho
  obtain ⟨hda,hwa⟩:=HWT.o xa (eW (by dsimp only;rw[hu2];decide))
  obtain ⟨hdb,hwb⟩:=HWT.o xb (jK (by dsimp only;rw[hu2];decide))
  have HV:Hid (gF xo (aK f cs row xa) (aK f cs row xb)=aK f cs row (m:Int)):=(tF HOK.o cs row HX.o ho hda hdb).symm
  have HWV:Hid (Wf (gF xo (aK f cs row xa) (aK f cs row xb))):=AZ _ _ _
  have HW:=zH (fun W ds vs h=>hwa W ds vs h)
  have HWb:=zH (fun W ds vs h=>hwb W ds vs h)
  have HU2:=zH hu2
  refine' zq212
  clear hu hu2 hwa hda hwb hdb HWT
  refine' zq215
  rintro e w4 ⟨rfl,rfl⟩
  rw[HU2.o]
  go_upto_region 22 with (fail)
  clear c0 c1 c2 c3 c4 c5
  refine wp_region_held_drew (S:=fun W=>W.cell? ⟨g,0,none⟩=some (.int .i64 xo)/\W.cell? ⟨g,1,none⟩=some (.int .i64 (m:Int))/\W.cell? ⟨g,2,none⟩=some (.int .i64 xa)/\W.cell? ⟨g,3,none⟩=some (.int .i64 xb)/\W.cell? ⟨g,4,none⟩=some (.int .i64 xc)/\W.cell? ⟨g,5,none⟩=some (.int .i64 xk)) (by kernel_rfl) ?_ (fun hHeld=>?_)
  ·refine' zq205
  refine tk 0 (some 120) rfl ?_
  refine tk 1 (some 121) rfl ?_
  refine tk 2 (some 122) rfl ?_
  refine tk 3 (some 123) rfl ?_
  refine tk 4 (some 124) rfl ?_
  refine tk 6 (some 126) rfl ?_
  refine tk 7 (some 127) rfl ?_
  refine tk 8 (some 128) rfl ?_
  refine aH 5 (some 125) rfl (fun KK hKK=>?_)
  refine' zq81
  refine aH 9 (some 129) rfl (fun KK hKK=>?_)
  refine' zq81
  refine aH 10 (some 130) rfl (fun KK hKK=>?_)
  go_simp
  (go_at_call 110;refine Calls.mono (ti _ _ _ _ (lQ hw8) (lQ hw9)) ?_;rintro e w10 ⟨rfl,hb10⟩;(have hr10:=hr9.below hb10);(have hu10:ae (fun k=>k=K\/k=V) w3 w10:=hu9'.trans (ae.of_below hb10)))
  refine' zq254
  refine tk 11 (some 119) rfl ?_
  refine tk 12 (some 131) rfl ?_
  refine tk 13 (some 132) rfl ?_
  refine tk 14 (some 9) rfl ?_
  refine tk 15 (some 10) rfl ?_
  refine wpAnyH_done (by kernel_rfl) ?_ _
  have HR10:=zH hr10
  have HU10:=zH (HU3.o.trans hu10)
  generalize hov:gF xo (aK f cs row xa) (aK f cs row xb)=ov at*
  go_wp2_with fail
  go_ret
  exact ⟨az HV.o,by rw[<-HV.o];exact HWV.o,⟨_,_,HR10.o⟩,HU10.o⟩
end
open Go.RowKit Vf Fo Ar
section
variable {f:Fm} {cs row:List Int} {R K V:Nat} {vw va vc vk vi vo vC vR vP:Value}
theorem zL (hf:bm f) (hrl:row.length=f.ins.length) (hcs:cs.length=f.cells.length) {n:Int} (h:bB f n):kC f cs row R K V vw va vc vk vi vo vC vR vP 90 n:=by
 induction h with
 |ins n h=>exact lF n (hf.2.1.1 n h).1 (Bp hf hrl n h)
 |act x hx hw _ ih1 _=>exact lF x.dst (hf.2.2.2.2.1.2.1 x hx).1 (yj hf hcs x hx (fun n hn=>⟨hw n hn,ih1 n hn⟩))
theorem qZ (hf:bm f) (hrl:row.length=f.ins.length) (hcs:cs.length=f.cells.length) {n:Int} (h:ak f n):kC f cs row R K V vw va vc vk vi vo vC vR vP 90 n:=
 zL hf hrl hcs (bB.want (x:=⟨0,0,n,0,0,0⟩) hf.2.2.2.2.2.2 h)
theorem zK {c:List Gd} {k:Nat} {g:Gd} (h:c[k]? =some g):fC f cs row (c.drop k)=if (decide (aK f cs row g.wire≠0))=g.no then false else fC f cs row (c.drop (k+1)):=by
 have hk:=(List.getElem?_eq_some_iff.1 h)
 rw[List.drop_eq_getElem_cons hk.1,hk.2,fC]
theorem wK (hf:bm f) (hrl:row.length=f.ins.length) (hcs:cs.length=f.cells.length) (c:List Gd) (v:Value) (B:Nat) (W:World) (ds:List Bool) (vs:List Int) (h:cz f cs row R K V vw va vc vk vi vo vC vR vP W ds vs)
  (hv:∀W',ae (fun k=>k=K\/k=V) W W'->aI W' B 2 aW v c) (hc:∀g∈c,ak f g.wire):
  Calls Tryz.prog 91 #[.pointer (some ⟨R,0,none⟩),v] W fun e W'=>
   e= .returned (.bool (fC f cs row c))/\(∃ds' vs',cz f cs row R K V vw va vc vk vi vo vC vR vP W' ds' vs')/\ae (fun k=>k=K\/k=V) W W':=by
 refine' zq188
 have HC:=zH hc
 have HWI:Hid (∀n,ak f n->∀W ds vs,cz f cs row R K V vw va vc vk vi vo vC vR vP W ds vs->Calls Tryz.prog 90 #[.pointer (some ⟨R,0,none⟩),.int .i64 n] W fun e W'=>
  e= .returned (.int .i64 (aK f cs row n))/\Wf (aK f cs row n)/\(∃ds' vs',cz f cs row R K V vw va vc vk vi vo vC vR vP W' ds' vs')/\ae (fun k=>k=K\/k=V) W W'):=fun n hn=>qZ hf hrl hcs hn
 clear hv h hc hf hrl hcs
 go_enter Tryz.func91,Tryz.ntmps91
 go_wp2_with fail
 go_loopw[5] (fun i wr=>∃(k:Nat) (ds:List Bool) (vs:List Int),k<=c.length/\i= .int .i64 k/\Hid (fC f cs row c=fC f cs row (c.drop k))/\Hid (cz f cs row R K V vw va vc vk vi vo vC vR vP wr ds vs)/\Hid (ae (fun k=>k=K\/k=V) W wr)) (fun i _=>c.length-(intOf i).toNat)
 case atStart=>exact ⟨0,ds,vs,Nat.zero_le _,rfl,rfl,HH.o,ae.refl _ _⟩
 case round=>
  clear HH
  obtain ⟨k,ds,vs,hk,rfl,HT,HR,HU⟩:=hrel
  by_cases hlt:k<c.length
  ·refine' zq214
   have HTD:Hid (fC f cs row (c.drop k)=if (decide (aK f cs row gw≠0))=gn then false else fC f cs row (c.drop (k+1))):=zK hx
   have HX:=zH hx
   have HK:Hid (∀W1,ae (fun k=>k=K\/k=V) wr W1->W1.cell? ⟨b,off+k*2,none⟩=some (.int .i64 gw)/\W1.cell? ⟨b,off+k*2+1,none⟩=some (.bool gn)):=fun W1 u=>by
    refine' zq200
   refine' zq175
   refine tk 0 (some 12) rfl ?_
   refine tk 1 (some 13) rfl ?_
   refine tk 2 (some 14) rfl ?_
   refine tk 3 (some 15) rfl ?_
   refine tk 4 (some 16) rfl ?_
   refine tk 5 (some 17) rfl ?_
   refine tk 8 (some 20) rfl ?_
   refine tk 9 (some 21) rfl ?_
   refine tk 10 (some 22) rfl ?_
   refine tk 11 (some 23) rfl ?_
   refine tk 12 (some 24) rfl ?_
   refine aH 6 (some 18) rfl (fun KK hKK=>?_)
   go_simp
   (go_at_call 90;refine Calls.mono (HWI.o gw HGW.o _ _ _ (HR.o.below ((Below.refl _ _).drew))) ?_;rintro e w8 ⟨rfl,_,⟨ds8,vs8,hr8⟩,hu8⟩;(have hu8':ae (fun k=>k=K\/k=V) wr w8:=(ae.of_below ((Below.refl _ _).drew)).trans hu8))
   refine' zq302
   refine tk 7 (some 19) rfl ?_
   refine tk 13 (some 25) rfl ?_
   refine wpAnyH_done (by kernel_rfl) ?_ _
   have HR8:=zH hr8
   have HU8:=zH (HU.o.trans hu8')
   clear hHeld hr8 hu8 hu8' HK
   obtain ⟨BB,hbb⟩:∃BB:Bool,((aK f cs row gw !=0)==gn)=BB:=⟨_,rfl⟩
   have HTB:Hid (fC f cs row (c.drop k)=if BB=true then false else fC f cs row (c.drop (k+1))):=by
    show _=_
    rw[HTD.o,<-hbb]
    by_cases hz:aK f cs row gw=0<;>cases gn<;>simp[hz]
   rw[hbb]
   clear hbb
   cases BB
   ·have HT':Hid (fC f cs row c=fC f cs row (c.drop (k+1))):=by
     show _=_
     rw[HT.o,HTB.o,if_neg (by decide)]
    go_wp2_with fail
    go_roundw
    case rel=>exact ⟨k+1,_,_,by omega,by go_num,HT',HR8,HU8⟩
    case measure=>simp[intOf];omega
   ·have HF:Hid (fC f cs row c=false):=by
     show _=_
     rw[HT.o,HTB.o,if_pos rfl]
    go_wp2_with fail
    go_ret
    exact ⟨aj HF.o.symm,⟨_,_,HR8.o⟩,HU8.o⟩
  ·obtain rfl:k=c.length:=by omega
   have HF:Hid (fC f cs row c=true):=by
    show _=_
    rw[HT.o,List.drop_length,fC]
   go_wp2_with fail
   go_ret
   exact ⟨aj HF.o.symm,⟨_,_,HR.o⟩,HU.o⟩
end
end Go.Proofs.YtckognjamlckcaaGreatDoor
