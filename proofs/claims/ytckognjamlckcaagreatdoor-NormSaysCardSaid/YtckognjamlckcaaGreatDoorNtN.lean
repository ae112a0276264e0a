/-
  norm.Right for few ops: what an act wants, whether it is ready. norm.Right for few ops: the row. norm.Right for few ops: all.
-/
import Derived.Test.YtckognjamlckcaaGreatDoorOrdB
set_option maxHeartbeats 4000000
set_option maxRecDepth 100000
namespace Go.Proofs.YtckognjamlckcaaGreatDoor
open Go.RowKit Vf Fo
attribute [local go_sem ↓] Go.wp_at_zero Go.wp_at_succ
def rN (op:Int):Prop:=op=1\/op=2\/op=21\/op=3\/op=27
theorem zX (x:Ac) (wx:eP x) (hu:rN x.op) (w:World):
  Calls Tryz.prog 68 #[fT x] w (Cn x w):=by
 obtain ⟨op,dst,a,b,c,k⟩:=x
 obtain ⟨_,_,wa,wb,wc,_⟩:=wx
 dsimp only at hu wa wb wc
 have H0:Hid (∀W,Below w.heap.size w W->wants ⟨op,dst,a,b,c,k⟩=[]->aI W W.heap.size 1 aP (.slice none 0 0) (wants ⟨op,dst,a,b,c,k⟩)):=fun W _ e=>by rw[e];exact aI.nil
 have H1:Hid (∀W:World,wants ⟨op,dst,a,b,c,k⟩=[a]->aI (W.alloc (.cells #[.int .i64 a] 3)) (W.alloc (.cells #[.int .i64 a] 3)).heap.size 1 aP (.slice (some ⟨W.heap.size,0,none⟩) 1 1) (wants ⟨op,dst,a,b,c,k⟩)):=fun W e=>by rw[e];exact (oH wa).more (by simp)
 have H3:Hid (∀W:World,wants ⟨op,dst,a,b,c,k⟩=[a,b,c]->aI (W.alloc (.cells #[.int .i64 a,.int .i64 b,.int .i64 c] 3)) (W.alloc (.cells #[.int .i64 a,.int .i64 b,.int .i64 c] 3)).heap.size 1 aP (.slice (some ⟨W.heap.size,0,none⟩) 3 3) (wants ⟨op,dst,a,b,c,k⟩)):=fun W e=>by rw[e];exact (pr wa wb wc).more (by simp)
 have b1:Below w.heap.size w (w.alloc (.cells #[.int .i64 op,.int .i64 dst,.int .i64 a,.int .i64 b,.int .i64 c,.int .i64 k] 58)):=bE
 have hs1:w.heap.size<(w.alloc (.cells #[.int .i64 op,.int .i64 dst,.int .i64 a,.int .i64 b,.int .i64 c,.int .i64 k] 58)).heap.size:=by simp
 obtain ⟨c0,c1,c2,c3,c4,c5⟩:=(ai.new w #[.int .i64 op,.int .i64 dst,.int .i64 a,.int .i64 b,.int .i64 c,.int .i64 k] 58).six'
 rcases id hu with hop|hop|hop|hop|hop
 ·have HW:Hid (wants ⟨op,dst,a,b,c,k⟩=[]):=by subst hop;rfl
  refine' zq126
  generalize w.alloc (.cells #[.int .i64 1,.int .i64 dst,.int .i64 a,.int .i64 b,.int .i64 c,.int .i64 k] 58)=w1 at*
  go_wp2_with fail
  go_ret
  exact ⟨_,rfl,H0.o _ b1 HW.o,b1⟩
 ·have HW:Hid (wants ⟨op,dst,a,b,c,k⟩=[]):=by subst hop;rfl
  refine' zq126
  generalize w.alloc (.cells #[.int .i64 2,.int .i64 dst,.int .i64 a,.int .i64 b,.int .i64 c,.int .i64 k] 58)=w1 at*
  go_wp2_with fail
  go_ret
  exact ⟨_,rfl,H0.o _ b1 HW.o,b1⟩
 ·have HW:Hid (wants ⟨op,dst,a,b,c,k⟩=[]):=by subst hop;rfl
  refine' zq126
  generalize w.alloc (.cells #[.int .i64 21,.int .i64 dst,.int .i64 a,.int .i64 b,.int .i64 c,.int .i64 k] 58)=w1 at*
  go_wp2_with fail
  go_ret
  exact ⟨_,rfl,H0.o _ b1 HW.o,b1⟩
 ·have HW:Hid (wants ⟨op,dst,a,b,c,k⟩=[a]):=by subst hop;rfl
  refine' zq126
  generalize w.alloc (.cells #[.int .i64 3,.int .i64 dst,.int .i64 a,.int .i64 b,.int .i64 c,.int .i64 k] 58)=w1 at*
  go_wp2_with fail
  go_ret
  exact ⟨_,rfl,H1.o _ HW.o,bE⟩
 ·have HW:Hid (wants ⟨op,dst,a,b,c,k⟩=[a,b,c]):=by subst hop;rfl
  refine' zq126
  generalize w.alloc (.cells #[.int .i64 27,.int .i64 dst,.int .i64 a,.int .i64 b,.int .i64 c,.int .i64 k] 58)=w1 at*
  go_wp2_with fail
  go_ret
  exact ⟨_,rfl,H3.o _ HW.o,bE⟩
section
variable {w:World} {B L:Nat} {f:Fm} {vw va vc vk vi vo vb ve:Value}
theorem AC (h:bI w B L f vw va vc vk vi vo vb ve) (hB:B<=w.heap.size) (x:Ac) (wx:eP x) (hu:rN x.op) (hd:ak f x.dst) (hw:∀n∈wants x,ak f n) (hg:∀g∈aa f x.dst,ak f g.wire)
  (Dp Lp D:Nat) (ds:List Bool) (hD:w.cell? ⟨Dp,0,none⟩=some (.slice (some ⟨D,0,none⟩) f.wires.length f.wires.length)) (hL:w.cell? ⟨Lp,0,none⟩=some (.pointer (some ⟨L,0,none⟩))) (rD:ai w D (ds.map Value.bool).toArray 4) (hdl:ds.length=f.wires.length):
  Calls Tryz.prog 67 #[fT x,.pointer (some ⟨Dp,0,none⟩),.pointer (some ⟨Lp,0,none⟩)] w fun e w'=>e= .returned (.bool (cB (di f ds x)))/\Below w.heap.size w w':=by
 obtain ⟨m0,b6,off6,cw6,Ag6,cg6,hmd,hm,hvw,lw6,mw6,hb6,wt6,d0,d1,lg6,mg6,sg6⟩:=h.wire hd
 subst hvw
 have HN:=zH (fun W (hW:Below w.heap.size w W)=>h.below hB hW)
 have hDl:=World.block_lt_of_cell? w _ hD
 have hLl:=World.block_lt_of_cell? w _ hL
 have hrl:=rD.lt
 have HDW:Hid (∀W,Below w.heap.size w W->W.cell? ⟨Dp,0,none⟩=some (.slice (some ⟨D,0,none⟩) f.wires.length f.wires.length)/\W.cell? ⟨Lp,0,none⟩=some (.pointer (some ⟨L,0,none⟩))/\W.cell? ⟨L,0,none⟩=some (.slice (some ⟨b6,off6,none⟩) f.wires.length cw6)/\W.cell? ⟨b6,off6+m0*2+1,none⟩=some (.slice Ag6 (aa f m0).length cg6)):=fun W hW=>
  ⟨cell_kept hD hW,cell_kept hL hW,(HN.o W hW).row.eight.1.1,cell_kept (hmd▸d1) hW⟩
 have HR:=zH (fun W (hW:Below w.heap.size w W)=>rD.below hW hrl)
 have HDL:=zH hdl
 have HGD:Hid (∀W,Below w.heap.size w W->Sl W B 2 aW Ag6 (aa f m0)):=fun W hW=>(hmd▸sg6:Sl w B 2 aW Ag6 (aa f m0)).below (hW.mono hB)
 have HW:=zH hw
 have HG:=zH hg
 obtain ⟨op,dst,a,b,c,k⟩:=x
 dsimp only at*
 subst hmd
 have HWN:=zH (zX ⟨op,(m0:Int),a,b,c,k⟩ wx hu)
 have bX:=ai.new w #[.int .i64 op,.int .i64 (m0:Int),.int .i64 a,.int .i64 b,.int .i64 c,.int .i64 k] 58
 have b1:Below w.heap.size w (w.alloc (.cells #[.int .i64 op,.int .i64 (m0:Int),.int .i64 a,.int .i64 b,.int .i64 c,.int .i64 k] 58)):=bE
 have hg1:=bX.lt
 have hB1:=hB
 have hm':(m0:Int)<f.wires.length:=by omega
 have hcg:cg6<=9223372036854775807:=by unfold maxLen at mg6;omega
 clear h hD hL rD hdl hw hg hu wx d0 d1 sg6 wt6 hd hB
 go_enter Tryz.func67,Tryz.ntmps67
 go_upto_region 1 with (fail)
 generalize w.alloc (.cells #[.int .i64 op,.int .i64 (m0:Int),.int .i64 a,.int .i64 b,.int .i64 c,.int .i64 k] 58)=w1 at*
 obtain ⟨c0,c1,c2,c3,c4,c5⟩:=bX.six'
 go_wp2_with fail
 (with_reducible refine (HWN.o _).mono ?_)
 rintro e w2 ⟨v2,rfl,hs2,hb2⟩
 have hb12:=b1.trans (hb2.mono b1.size)
 have bX2:=bX.below hb2 hg1
 have hl2:=bX2.lt
 obtain ⟨A2,cap2,rfl,lv2,mv2,sv2⟩:=hs2
 have mv2':cap2<=9223372036854775807:=by unfold maxLen at mv2;omega
 have HSV:=zH sv2
 generalize hwl:wants ⟨op,(m0:Int),a,b,c,k⟩=wl at*
 have HWL:=zH hwl
 clear c0 c1 c2 c3 c4 c5 bX hb2 b1 sv2 hg1 hwl
 go_wp2_with fail
 go_loopw[12] (fun i wr=>∃j:Nat,j<=wl.length/\i= .int .i64 j/\Hid (∀i,i<j->∀n,wl[i]? =some n->aL ds n=true)/\w2=wr) (fun i _=>wl.length-(intOf i).toNat)
 case atStart=>exact ⟨0,Nat.zero_le _,rfl,fun j h=>absurd h (by omega),rfl⟩
 case round=>
  obtain ⟨j,hj,rfl,HP,rfl⟩:=hrel
  by_cases hlt:j<wl.length
  ·obtain ⟨b3,off3,n,rfl,hb3,hn,wn,e0⟩:=HSV.o.int hlt
   have hWn:=HW.o n (List.mem_of_getElem? hn)
   have HNn:=zH hn
   obtain ⟨m,rfl⟩:=Int.eq_ofNat_of_zero_le hWn.1
   have hml:m<f.wires.length:=by have:=hWn.2;omega
   have hml':(m:Int)<f.wires.length:=by omega
   obtain ⟨x0,x1,x2,x3⟩:=HDW.o _ hb12
   have y0:=cU (HR.o _ hb12) (n:=m) (by rw[HDL.o];exact hml)
   have HV:=zH (rfl:aL ds (m:Int)=aL ds (m:Int))
   generalize hV:aL ds (m:Int)=V at y0 HV
   have HV':=zH hV
   clear hn hWn hV
   cases V
   ·have HF:Hid (cB (di f ds ⟨op,(m0:Int),a,b,c,k⟩)=false):=ab (vJ (by rw[HWL.o];exact HNn.o) HV'.o)
    go_wp2_with fail
    go_ret
    exact ⟨aj HF.o.symm,hb12⟩
   ·have HP':=zH (aC HP.o (fun n' hn'=>by rw[HNn.o] at hn';injection hn' with hn';rw[<-hn'];exact HV'.o))
    go_wp2_with fail
    go_roundw
    case rel=>exact ⟨j+1,by omega,by go_num,HP',trivial⟩
    case measure=>first|(simp[intOf];omega)|simp[intOf]
  obtain rfl:j=wl.length:=by omega
  have HP1:=zH (dY HP.o)
  go_upto_region 7 with (fail)
  obtain ⟨x0,x1,x2,x3⟩:=HDW.o _ hb12
  obtain ⟨c0,c1,c2,c3,c4,c5⟩:=bX2.six'
  go_quiet (fail)
  have HBW:=zH (fun n=>ap hb12 n)
  clear x0 x1 x2 x3 c0 c1 c2 c3 c4 c5
  generalize hlc:(aa f (m0:Int)).length=len at*
  have HLC:=zH hlc
  clear hlc
  go_wp2_with fail
  go_loopw[33] (fun i wr=>∃j:Nat,j<=len/\i= .int .i64 j/\Hid (∀i,i<j->∀g,(aa f m0)[i]? =some g->aL ds g.wire=true)/\Below w2.heap.size w2 wr) (fun i _=>len-(intOf i).toNat)
  case atStart=>exact ⟨0,Nat.zero_le _,rfl,fun j h=>absurd h (by omega),ap (Below.refl _ _) _⟩
  case round=>
   obtain ⟨j,hj,rfl,HQ,hbr⟩:=hrel
   have hb1r:=hb12.trans (hbr.mono hb12.size)
   by_cases hlt2:j<len
   ·obtain ⟨bg,og,⟨gw,gn⟩,hAg,hbg,hgg,wg,e0,e1⟩:=(HGD.o _ hb1r).gd (k:=j) (by rw[HLC.o];exact hlt2)
    subst hAg
    dsimp only at wg e0 e1
    have hWn:=HG.o _ (List.mem_of_getElem? hgg)
    dsimp only at hWn
    have HNn:=zH hgg
    obtain ⟨m,rfl⟩:=Int.eq_ofNat_of_zero_le hWn.1
    have hml:m<f.wires.length:=by have:=hWn.2;omega
    have hml':(m:Int)<f.wires.length:=by omega
    have ba:Below wr.heap.size wr (wr.alloc (.cells #[.int .i64 (m:Int),.bool gn] 61)):=bE
    have bGr:=ai.new wr #[.int .i64 (m:Int),.bool gn] 61
    have hb3:=hbr.trans (ba.mono hbr.size)
    have hb13:=hb1r.trans (ba.mono hb1r.size)
    clear hgg hWn
    go_upto_region 10 with (fail)
    generalize wr.alloc (.cells #[.int .i64 (m:Int),.bool gn] 61)=w4 at*
    obtain ⟨z0,z1⟩:=bGr.two'
    obtain ⟨x0,x1,x2,x3⟩:=HDW.o _ hb13
    have y0:=cU (HR.o _ hb13) (n:=m) (by rw[HDL.o];exact hml)
    generalize hV:aL ds (m:Int)=V at y0
    have HV':=zH hV
    clear hV e0 e1 ba
    cases V
    ·have HF:Hid (cB (di f ds ⟨op,(m0:Int),a,b,c,k⟩)=false):=ab (xP HNn.o HV'.o)
     go_wp2_with fail
     go_ret
     exact ⟨aj HF.o.symm,hb13⟩
    ·have HQ':=zH (aC HQ.o (fun n' hn'=>by rw[HNn.o] at hn';injection hn' with hn';rw[<-hn'];exact HV'.o))
     go_wp2_with fail
     go_roundw
     case rel=>exact ⟨j+1,by omega,by go_num,HQ',hb3⟩
     case measure=>first|(simp[intOf];omega)|simp[intOf]
   obtain rfl:j=len:=by omega
   have HQ1:=zH (dY (P:=fun (g:Gd)=>aL ds g.wire=true) (fun i hi=>HQ.o i (by rw[<-HLC.o];exact hi)))
   obtain ⟨x0,x1,x2,x3⟩:=HDW.o _ hb1r
   obtain ⟨c0,c1,c2,c3,c4,c5⟩:=(bX2.below hbr hl2).six'
   have y0:=cU (HR.o _ hb1r) (n:=m0) (by rw[HDL.o];exact hm)
   have HFF:Hid (∀V,aL ds (m0:Int)=V->cB (di f ds ⟨op,(m0:Int),a,b,c,k⟩)= !V):=fun V hV=>by
    cases V
    ·exact aq ⟨by rw[HWL.o];exact HP1.o,HQ1.o,hV⟩
    ·refine ab (fun g=>?_)
     have:=g.2.2
     dsimp only at this
     rw[hV] at this
     cases this
   generalize hV:aL ds (m0:Int)=V at y0
   have HF:=zH (HFF.o V hV)
   clear hV HFF
   go_wp2_with fail
   go_ret
   exact ⟨aj HF.o.symm,hb1r⟩
end
theorem CK {w:World} {B L:Nat} {f:Fm} {vw va vc vk vi vo vb ve:Value} (h:bI w B L f vw va vc vk vi vo vb ve) (hB:B<=w.heap.size) (hwl:f.wires.length<=1600) (hins:∀n∈f.ins,ak f n)
  (hacts:∀x∈f.acts,rN x.op/\ak f x.dst/\(∀n∈wants x,ak f n)/\∀g∈aa f x.dst,ak f g.wire):
  Calls Tryz.prog 29 #[.pointer (some ⟨L,0,none⟩)] w fun e w'=>e= .returned (.bool (cB (gY f)))/\Below w.heap.size w w':=by
 have hLlt:=h.row.lt
 obtain ⟨Aw,cw,rfl,lw,mw,sw⟩:=h.fm.wires
 obtain ⟨Aa,ca,rfl,la,ma,sa⟩:=h.fm.acts
 obtain ⟨Ai,ci,rfl,li,mi,si⟩:=h.fm.ins
 refine' zq209
 have mk:=gQ f.wires.length (by omega) (by omega)
 have hB0:=hB
 have HN0:=zH (fun W (hW:Below w.heap.size w W)=>h.below hB0 hW)
 have HI:=zH hins
 have HA:=zH hacts
 have HWL:=zH hwl
 obtain ⟨q0,q1,q2,q3,q4,q5,q6,q7⟩:=h.row.eight.1
 clear h sw sa si hins hacts hB
 go_enter Tryz.func29,Tryz.ntmps29
 go_upto_region 2 with (fail)
 have b1:Below w.heap.size w (((w.alloc (.cells #[.pointer (some ⟨L,0,none⟩)] 53)).alloc (.cells (Array.replicate f.wires.length (.bool false)) 4)).alloc (.cells #[.slice (some ⟨w.heap.size+1,0,none⟩) f.wires.length f.wires.length] 109)):=bE
 have rL1:ai (((w.alloc (.cells #[.pointer (some ⟨L,0,none⟩)] 53)).alloc (.cells (Array.replicate f.wires.length (.bool false)) 4)).alloc (.cells #[.slice (some ⟨w.heap.size+1,0,none⟩) f.wires.length f.wires.length] 109)) w.heap.size #[.pointer (some ⟨L,0,none⟩)] 53:=((ai.new w _ _).alloc _).alloc _
 have rD1:ai (((w.alloc (.cells #[.pointer (some ⟨L,0,none⟩)] 53)).alloc (.cells (Array.replicate f.wires.length (.bool false)) 4)).alloc (.cells #[.slice (some ⟨w.heap.size+1,0,none⟩) f.wires.length f.wires.length] 109)) (w.heap.size+1) (dI (List.replicate f.wires.length false)).toArray 4:=by
  have:=(dw w (.cells #[.pointer (some ⟨L,0,none⟩)] 53) (Array.replicate f.wires.length (.bool false)) 4).alloc (.cells #[.slice (some ⟨w.heap.size+1,0,none⟩) f.wires.length f.wires.length] 109)
  simpa[dI] using this
 have rP1:ai (((w.alloc (.cells #[.pointer (some ⟨L,0,none⟩)] 53)).alloc (.cells (Array.replicate f.wires.length (.bool false)) 4)).alloc (.cells #[.slice (some ⟨w.heap.size+1,0,none⟩) f.wires.length f.wires.length] 109)) (w.heap.size+1+1) #[.slice (some ⟨w.heap.size+1,0,none⟩) f.wires.length f.wires.length] 109:=tB w _ _ _ _
 generalize ((w.alloc (.cells #[.pointer (some ⟨L,0,none⟩)] 53)).alloc (.cells (Array.replicate f.wires.length (.bool false)) 4)).alloc (.cells #[.slice (some ⟨w.heap.size+1,0,none⟩) f.wires.length f.wires.length] 109)=w1 at*
 generalize hD:w.heap.size+1=D at*
 generalize hP:D+1=P at*
 generalize hG:w.heap.size=G at*
 have hs1:=b1.size
 have hGD:G≠D:=by omega
 have hPD:P≠D:=by omega
 have hLD:L≠D:=by omega
 have hBD:B<=D:=by omega
 have hDlt:=rD1.lt
 have HN1:Hid (∀W,ae (fun k=>k=D) w1 W->bI W B L f (.slice Aw f.wires.length cw) (.slice Aa f.acts.length ca) vc vk (.slice Ai f.ins.length ci) vo vb ve):=fun W hW=>((HN0.o w1 b1).updK hW (fun e=>hLD e.symm) hBD (by omega))
 have HP1:Hid (∀W,ae (fun k=>k=D) w1 W->W.cell? ⟨G,0,none⟩=some (.pointer (some ⟨L,0,none⟩))/\W.cell? ⟨P,0,none⟩=some (.slice (some ⟨D,0,none⟩) f.wires.length f.wires.length)/\B<=W.heap.size):=fun W hW=>
  ⟨(hW.row rL1 hGD).cell 0,(hW.row rP1 hPD).cell 0,by have:=hW.size;omega⟩
 have HFIN:Hid (∀W,ae (fun k=>k=D) w1 W->Below G w W):=fun W hW=>(b1.trans ((hW.below (B:=D) (fun k hk=>by omega) (by omega)).mono (by omega)))
 have HRD:=zH rD1
 clear rL1 rD1 rP1 b1 q0 q1 q2 q3 q4 q5 q6 q7 hs1 HN0 mk
 obtain ⟨x0,x1,x2⟩:=HP1.o _ (ae.refl _ _)
 obtain ⟨q0,q1,q2,q3,q4,q5,q6,q7⟩:=(HN1.o _ (ae.refl _ _)).row.eight.1
 go_wp2_with fail
 go_loopw[23] (fun i wr=>∃(k:Nat) (ds:List Bool),k<=f.ins.length/\i= .int .i64 k/\Hid (gS f ds/\∀j,j<k->∀n,f.ins[j]? =some n->aL ds n=true)/\ai wr D (dI ds).toArray 4/\ae (fun k=>k=D) w1 wr) (fun i _=>f.ins.length-(intOf i).toNat)
 case atStart=>exact ⟨0,List.replicate f.wires.length false,Nat.zero_le _,rfl,⟨pj f,fun j hj=>absurd hj (by omega)⟩,HRD.o,ae.refl _ _⟩
 case round=>
  clear x0 x1 x2 q0 q1 q2 q3 q4 q5 q6 q7
  obtain ⟨k,ds,hk,rfl,HS,rD,uD⟩:=hrel
  obtain ⟨x0,x1,x2⟩:=HP1.o _ uD
  have hN:=HN1.o _ uD
  have HDL:=zH HS.o.1.len
  by_cases hlt:k<f.ins.length
  ·obtain ⟨A',c',he,_,_,si⟩:=hN.fm.ins
   refine' zq193
   refine' zq253
   have HS':Hid (gS f (ds.set m true)/\∀j,j<k+1->∀n,f.ins[j]? =some n->aL (ds.set m true) n=true):=by
    have hml:(m:Int)<ds.length:=by rw[HDL.o];exact hm'
    refine ⟨xL HS.o.1 (List.mem_of_getElem? HX.o) HW.o,aC (fun j hj n hn=>jE (n:=(m:Int)) (by omega) hml (HS.o.2 j hj n hn)) (fun n hn=>?_)⟩
    rw[HX.o] at hn
    injection hn with hn
    rw[<-hn]
    have:=fS (ds:=ds) (n:=(m:Int)) (c:=m) (by omega) hml
    rw[if_pos rfl] at this
    exact this
   generalize aL ds (m:Int)=V at cD
   clear he2 he3 hx hw hN si rD
   go_wp2_with fail
   go_roundw
   case rel=>exact ⟨k+1,ds.set m true,by omega,by go_num,HS'.o,rD6.out,uD6.out⟩
   case measure=>simp[intOf];omega
  obtain rfl:k=f.ins.length:=by omega
  have HIN:=zH (lM.mk HS.o.1 (dY HS.o.2))
  have HRr:=zH rD
  have HUr:=zH uD
  clear hN rD uD HS x0 x1 x2
  go_wp2_with fail
  refine' zq148
  go_loopg [7] (aZ ds+1) (fun q u wr=>∃(ds:List Bool) (bb:Bool),u= .bool bb/\aZ ds+(if bb=true then 1 else 0)<=q/\Hid (lM f ds)/\Hid (bb=false->∀x∈f.acts,¬di f ds x)/\ai wr D (dI ds).toArray 4/\ae (fun k=>k=D) w1 wr)
  case atStart=>exact ⟨ds,true,rfl,by simp,HIN.o,(fun h=>by cases h),HRr.o,HUr.o⟩
  case round=>
   clear HIN HRr HUr HDL
   obtain ⟨ds,bb,rfl,hq,HIN,HNR,rD,uD⟩:=hrel
   clear hlt
   obtain ⟨x0,x1,x2⟩:=HP1.o _ uD
   have HDL:=zH HIN.o.st.len
   cases bb
   ·have HE:=zH (tI HIN.o.st HIN.o.ins (HNR.o rfl))
    have HC:Hid (Calls Tryz.prog 69 #[.slice (some ⟨D,0,none⟩) f.wires.length f.wires.length,.bool false] wr fun e w'=>e= .returned (.bool (cB (¬∀b∈ds,b=true)))/\wr=w'):=by
     have:=kM (l:=ds) rD (by rw[HDL.o];exact HWL.o)
     rw[HDL.o] at this
     exact this
    have HQ:Hid (cB (gY f)= !(cB (¬∀b∈ds,b=true))):=by
     show _=_
     rw[bu HE.o]
     by_cases c:∀b∈ds,b=true
     ·rw[aq c,ab (fun g=>g c)];rfl
     ·rw[ab c,aq c];rfl
    generalize cB (¬∀b∈ds,b=true)=V at*
    clear rD hq
    refine' zq56
    refine' zq163
    exact ⟨aj HQ.o.symm,by rw[hG];exact HFIN.o _ uD⟩
   rw[if_pos rfl] at hq
   obtain ⟨q0,q1,q2,q3,q4,q5,q6,q7⟩:=(HN1.o _ uD).row.eight.1
   have HRr:=zH rD
   have HUr:=zH uD
   clear rD
   go_wp2_with fail
   clear x0 x1 x2 q0 q1 q2 q3 q4 q5 q6 q7
   go_loopw[7,39] (fun u i w3=>∃(j:Nat) (d2:List Bool) (b2:Bool),j<=f.acts.length/\u= .bool b2/\i= .int .i64 j/\Hid (lM f d2)/\Hid (b2=true->aZ d2<aZ ds)/\Hid (b2=false->d2=ds/\∀i,i<j->∀x,f.acts[i]? =some x->¬di f ds x)/\ai w3 D (dI d2).toArray 4/\ae (fun k=>k=D) w1 w3) (fun _ i _=>f.acts.length-(intOf i).toNat)
   case atStart=>exact ⟨0,ds,false,Nat.zero_le _,rfl,rfl,HIN.o,(fun h=>by cases h),fun _=>⟨rfl,fun i hi=>absurd hi (by omega)⟩,HRr.o,HUr.o⟩
   case round=>
    clear HIN HRr HUr HDL uD
    obtain ⟨j,d2,b2,hj,rfl,rfl,HIN,HT,HF,rD,uD⟩:=hrel
    obtain ⟨x0,x1,x2⟩:=HP1.o _ uD
    have hN:=HN1.o _ uD
    have HDL:=zH HIN.o.st.len
    by_cases hlt:j<f.acts.length
    rotate_left 1
    ·refine' zq301
     clear hq x0 x1 x2 hN
     go_wp2_with fail
     go_roundg (aZ d2+(if b2=true then 1 else 0))
     case measure=>exact HM.o
     case rel=>exact ⟨d2,b2,rfl,Nat.le_refl _,HIN.o,HNR.o,rD,uD⟩
    obtain ⟨A',c',he,_,_,sa⟩:=hN.fm.acts
    injection he with he1 he2 he3
    subst he1
    obtain ⟨b,off,⟨xo,xd,xa,xb,xc,xk⟩,hAa,hbb,hx,wx,d0,d1,d2',d3,d4,d5⟩:=sa.ac hlt
    subst hAa
    have HX:=zH hx
    have hact:=HA.o _ (List.mem_of_getElem? hx)
    have HAC:=zH hact
    obtain ⟨m,rfl⟩:=Int.eq_ofNat_of_zero_le (show 0<=xd from hact.2.1.1)
    have hm:m<f.wires.length:=by have:=hact.2.1.2;dsimp only at this;omega
    refine' zq114
    clear he2 he3 hx hact hN sa rD
    refine' zq272
    clear d0 d1 d2' d3 d4 d5 x0 x1 x2
    obtain ⟨x0,x1,x2⟩:=HP1.o _ u4
    have HR:=zH (AC (HN1.o _ u4) x2 ⟨xo,(m:Int),xa,xb,xc,xk⟩ wx HAC.o.1 HAC.o.2.1 HAC.o.2.2.1 HAC.o.2.2.2 P G D d2 x1 x0 rD4 HDL.o)
    obtain ⟨c0,c1,c2,c3,c4,c5⟩:=r9.six'
    have hDl4:=rD4.lt
    have hg9l:=r9.lt
    have hgD:g9≠D:=by have:=uD.size;omega
    clear wx hg9
    by_cases hr:di f d2 ⟨xo,(m:Int),xa,xb,xc,xk⟩
    rotate_left 1
    ·have HF':Hid (b2=false->d2=ds/\∀i,i<j+1->∀x,f.acts[i]? =some x->¬di f ds x):=fun h=>by
      obtain ⟨e,g⟩:=HF.o h
      refine ⟨e,aC g (fun y hy=>?_)⟩
      rw[HX.o] at hy
      injection hy with hy
      rw[<-hy,<-e]
      exact hr
     rw[ab hr] at HR
     refine' zq286
     go_wp2_with fail
     go_roundw
     case rel=>exact ⟨j+1,d2,b2,by omega,rfl,by go_num,HIN.o,HT.o,HF'.o,rD5,u5⟩
     case measure=>simp[intOf];omega
    have hml:(m:Int)<d2.length:=by rw[HDL.o];exact hm'
    have HIN':Hid (lM f (d2.set m true)):=⟨pT HIN.o.st (List.mem_of_getElem? HX.o) HAC.o.2.1 HAC.o.2.2.1 HAC.o.2.2.2 hr,fun n hn=>jE (n:=(m:Int)) (by omega) hml (HIN.o.ins n hn)⟩
    have HT':Hid (aZ (d2.set m true)<aZ ds):=by
     show _<_
     have h1:=nl (ds:=d2) (n:=(m:Int)) (by omega) hml hr.2.2
     simp only[Int.toNat_natCast] at h1
     cases b2
     ·have:=(HF.o rfl).1
      rw[this] at h1⊢
      exact h1
     ·have:=HT.o rfl
      omega
    rw[aq hr] at HR
    refine' zq286
    obtain ⟨c0,c1,c2,c3,c4,c5⟩:=(r9.below hb5 hg9l).six'
    obtain ⟨x0,x1,x2⟩:=HP1.o _ u5
    refine' zq231
    go_wp2_with fail
    go_roundw
    case rel=>exact ⟨j+1,d2.set m true,true,by omega,rfl,by go_num,HIN'.o,(fun _=>HT'.o),(fun h=>by cases h),rD6.out,uD6.out⟩
    case measure=>simp[intOf];omega
section
variable {w:World} {B L:Nat} {f:Fm} {vw va vc vk vi vo vb ve:Value}
theorem Dg (h:bI w B L f vw va vc vk vi vo vb ve) (hB:B<=w.heap.size) (x:Ac) (wx:eP x) (hd:ak f x.dst)
  {K:Nat} {ks:List Int} (hve:ve= .slice (some ⟨K,0,none⟩) f.cells.length f.cells.length) (hK:tR w L K ks) (hkl:ks.length=f.cells.length) (hkk:∀c:Nat,c<f.cells.length->ao ks c=(kept f c).getD (-1)) (hcok:du f) (ha:au f x) (ho:rN x.op):
  Calls Tryz.prog 28 #[.pointer (some ⟨L,0,none⟩),fT x] w fun e w'=>e= .returned (.bool (cB (au f x)))/\Below w.heap.size w w':=by
 obtain ⟨op,dst,a,b,c,k⟩:=x
 have hall:cm f a b c:=⟨ha.1,ha.2.1,ha.2.2.1⟩
 rcases (ho:rN op) with hop|hop|hop|hop|hop
 ·exact CP h hB op dst a b c k wx hd hop hall
 ·exact CZ h hB op dst a b c k wx hd hop hall
 ·exact BL h hB op dst a b c k wx hd hop hall hve hK hkl hkk hcok
 ·exact Dr h hB op dst a b c k wx hd hop hall
 ·exact BS h hB op dst a b c k wx hd hop hall
end
theorem zQ (f:Fm) (vw va vc vk vi vo:Value) (w:World) (h:bQ w w.heap.size f vw va vc vk vi vo) (hcl:f.cells.length<=1600) (hok:bm f) (ho:∀x∈f.acts,rN x.op):
  Calls Tryz.prog 8 #[dp vw va vc vk vi vo] w fun e w'=>e= .returned (.bool (cB (bm f)))/\Below w.heap.size w w':=by
 have HFM:=zH h
 have HCL:=zH hcl
 have HOK:=zH hok
 have HOP:=zH ho
 clear h hcl hok ho
 go_enter Tryz.func8,Tryz.ntmps8
 go_upto_region 2 with (fail)
 have b1:Below w.heap.size w ((w.alloc (.cells #[vw,va,vc,vk,vi,vo] 28)).alloc (.cells #[vw,va,vc,vk,vi,vo,.slice none 0 0,.slice none 0 0] 55)):=bE
 have rG1:ai ((w.alloc (.cells #[vw,va,vc,vk,vi,vo] 28)).alloc (.cells #[vw,va,vc,vk,vi,vo,.slice none 0 0,.slice none 0 0] 55)) w.heap.size #[vw,va,vc,vk,vi,vo] 28:=(ai.new w _ _).alloc _
 have rL1:ai ((w.alloc (.cells #[vw,va,vc,vk,vi,vo] 28)).alloc (.cells #[vw,va,vc,vk,vi,vo,.slice none 0 0,.slice none 0 0] 55)) (w.heap.size+1) #[vw,va,vc,vk,vi,vo,.slice none 0 0,.slice none 0 0] 55:=dw w _ _ _
 generalize (w.alloc (.cells #[vw,va,vc,vk,vi,vo] 28)).alloc (.cells #[vw,va,vc,vk,vi,vo,.slice none 0 0,.slice none 0 0] 55)=w1 at*
 generalize hL:w.heap.size+1=L at*
 have hGL:w.heap.size≠L:=by omega
 have hBL:w.heap.size<=L:=by omega
 have hs1:=b1.size
 have hLlt:=rL1.lt
 have hN1:bI w1 w.heap.size L f vw va vc vk vi vo (.slice none 0 0) (.slice none 0 0):=⟨rL1,HFM.o.below b1⟩
 have HG:Hid (∀W,ae (fun k=>k=L) w1 W->W.cell? ⟨w.heap.size,1,none⟩=some va/\W.cell? ⟨w.heap.size,4,none⟩=some vi/\W.cell? ⟨w.heap.size,5,none⟩=some vo):=fun W hW=>
  ⟨(hW.row rG1 hGL).cell 1,(hW.row rG1 hGL).cell 4,(hW.row rG1 hGL).cell 5⟩
 have HFIN:Hid (∀W,ae (fun k=>k=L) w1 W->Below w.heap.size w W):=fun W hW=>(b1.trans ((hW.below (B:=w.heap.size) (fun k hk=>by omega) hs1)))
 clear b1 rG1 rL1 hL
 have HC:=zH (ud hN1 hs1)
 by_cases h1:ge f
 rotate_left 1
 ·have HF:Hid (cB (bm f)=false):=ab (fun g=>h1 g.1)
  rw[ab h1] at HC
  clear h1
  refine' zq56
  rintro e w2 ⟨rfl,hb2⟩
  go_wp2_with fail
  go_ret
  exact ⟨aj HF.o.symm,HFIN.o _ (ae.of_below hb2)⟩
 rw[aq h1] at HC
 have H1:=zH h1
 clear h1
 refine' zq56
 rintro e w2 ⟨rfl,hb2⟩
 have u2:ae (fun k=>k=L) w1 w2:=ae.of_below hb2
 have hN2:=hN1.below hs1 hb2
 have hs2:w.heap.size<=w2.heap.size:=Nat.le_trans hs1 hb2.size
 clear hN1 hb2 HC
 obtain ⟨x1,x4,x5⟩:=HG.o _ u2
 have HC:=zH (nT hN2 hs2 f.ins vi hN2.fm.ins)
 by_cases h1:bG f f.ins
 rotate_left 1
 ·have HF:Hid (cB (bm f)=false):=ab (fun g=>h1 g.2.1)
  rw[ab h1] at HC
  clear h1
  refine' zq56
  rintro e w3 ⟨rfl,hb3⟩
  go_wp2_with fail
  go_ret
  exact ⟨aj HF.o.symm,HFIN.o _ (u2.trans (ae.of_below hb3))⟩
 rw[aq h1] at HC
 have H2:=zH h1
 clear h1
 refine' zq56
 rintro e w3 ⟨rfl,hb3⟩
 have u3:ae (fun k=>k=L) w1 w3:=u2.trans (ae.of_below hb3)
 have hN3:=hN2.below hs2 hb3
 have hs3:w.heap.size<=w3.heap.size:=Nat.le_trans hs2 hb3.size
 clear hN2 hb3 HC x1 x4 x5 u2
 obtain ⟨x1,x4,x5⟩:=HG.o _ u3
 have HC:=zH (nT hN3 hs3 f.outs vo hN3.fm.outs)
 by_cases h1:bG f f.outs
 rotate_left 1
 ·have HF:Hid (cB (bm f)=false):=ab (fun g=>h1 g.2.2.1)
  rw[ab h1] at HC
  clear h1
  refine' zq56
  rintro e w4 ⟨rfl,hb4⟩
  go_wp2_with fail
  go_ret
  exact ⟨aj HF.o.symm,HFIN.o _ (u3.trans (ae.of_below hb4))⟩
 rw[aq h1] at HC
 have H3:=zH h1
 clear h1
 refine' zq56
 rintro e w4 ⟨rfl,hb4⟩
 have u4:ae (fun k=>k=L) w1 w4:=u3.trans (ae.of_below hb4)
 have hN4:=hN3.below hs3 hb4
 have hs4:w.heap.size<=w4.heap.size:=Nat.le_trans hs3 hb4.size
 clear hN3 hb4 HC x1 x4 x5 u3
 obtain ⟨x1,x4,x5⟩:=HG.o _ u4
 have HC:=zH (uU hN4 hBL HCL.o)
 clear hN4
 refine' zq56
 rintro e w5 ⟨r5,ve5,rfl,hr5,hN5,v5,hK5⟩
 have u5:=u4.trans v5
 have hs5:w.heap.size<=w5.heap.size:=Nat.le_trans hs4 v5.size
 have HR5:=zH hr5
 have HK5:=zH hK5
 clear HC x1 x4 x5 u4 v5 hr5 hK5
 obtain ⟨x1,x4,x5⟩:=HG.o _ u5
 cases r5
 ·exact absurd HOK.o (fun g=>by have:=HR5.o.2 g.2.2.2.1;cases this)
 have H4:Hid (du f):=HR5.o.1 rfl
 obtain ⟨K,ks,rfl,hKs,hkl,hkk⟩:=HK5.o rfl
 have HKK:=zH hkk
 have HKL:=zH hkl
 have HKS:=zH hKs
 have HC:=zH (pS hN5 hBL H1.o.2.2 (fun n hn=>(H2.o.1 n hn).1))
 clear hN5 hkk hkl hKs HK5 HR5
 refine' zq56
 rintro e w6 ⟨r6,vb6,rfl,hr6,hN6,v6⟩
 have u6:=u5.trans v6
 have hs6:w.heap.size<=w6.heap.size:=Nat.le_trans hs5 v6.size
 have HR6:=zH hr6
 have HKS6:Hid (tR w6 L K ks):=⟨v6.row HKS.o.row HKS.o.ne,HKS.o.ne⟩
 clear HC x1 x4 x5 u5 v6 hr6
 obtain ⟨x1,x4,x5⟩:=HG.o _ u6
 cases r6
 ·exact absurd HOK.o (fun g=>by have:=HR6.o.2 g.2.2.2.2.1;cases this)
 have H5:Hid (aR f):=HR6.o.1 rfl
 have HN6:=zH (fun W (hW:Below w6.heap.size w6 W)=>hN6.below hs6 hW)
 obtain ⟨Aa,ca,rfl,la,ma,sa⟩:=hN6.fm.acts
 have ma':ca<=9223372036854775807:=by unfold maxLen at ma;omega
 clear hN6 sa HR6
 go_wp2_with fail
 go_loopw[39] (fun i wr=>∃k:Nat,k<=f.acts.length/\i= .int .i64 k/\Hid (∀j,j<k->∀x,f.acts[j]? =some x->au f x)/\Below w6.heap.size w6 wr) (fun i _=>f.acts.length-(intOf i).toNat)
 case atStart=>exact ⟨0,Nat.zero_le _,rfl,fun j hj=>absurd hj (by omega),Below.refl _ _⟩
 case round=>
  clear x1 x4 x5
  obtain ⟨k,hk,rfl,HA,hb⟩:=hrel
  have hsr:=hb.size
  by_cases hlt:k<f.acts.length
  rotate_left 1
  ·obtain rfl:k=f.acts.length:=by omega
   have HA2:=zH (dY HA.o)
   have HC:=zH (CK (HN6.o _ hb) (by omega) H1.o.2.2 (fun n hn=>(H2.o.1 n hn).1) (fun x hx=>⟨HOP.o x hx,(oY H1.o (H5.o.2.1 x hx).1 (HA2.o x hx)).2⟩))
   have HF:Hid (cB (bm f)=cB (gY f)):=bu ⟨fun g=>g.2.2.2.2.2.2,fun g=>⟨H1.o,H2.o,H3.o,H4.o,H5.o,HA2.o,g⟩⟩
   generalize cB (gY f)=R at*
   refine' zq56
   rintro e w8 ⟨rfl,hb8⟩
   go_wp2_with fail
   go_ret
   exact ⟨aj HF.o.symm,HFIN.o _ (u6.trans ((ae.of_below hb).trans (ae.of_below hb8)))⟩
  obtain ⟨A',c',he,_,_,sa⟩:=(HN6.o _ hb).fm.acts
  injection he with he1 he2 he3
  subst he1
  obtain ⟨b,off,⟨xo,xd,xa,xb,xc,xk⟩,hAa,hbb,hx,wx,d0,d1,d2,d3,d4,d5⟩:=sa.ac hlt
  subst hAa
  have HX:=zH hx
  refine' zq277
  have r9:=ai.new wr #[.int .i64 xo,.int .i64 xd,.int .i64 xa,.int .i64 xb,.int .i64 xc,.int .i64 xk] 58
  have hb7:=hb.trans (ba.mono hsr)
  clear he2 he3 hx sa
  go_upto_region 7 with (fail)
  generalize wr.heap.size=g9 at*
  generalize wr.alloc (.cells #[.int .i64 xo,.int .i64 xd,.int .i64 xa,.int .i64 xb,.int .i64 xc,.int .i64 xk] 58)=w7 at*
  clear d0 d1 d2 d3 d4 d5 ba
  obtain ⟨c0,c1,c2,c3,c4,c5⟩:=r9.six'
  have hs7:=hb7.size
  have HC:=zH (Dg (HN6.o _ hb7) (by omega) ⟨xo,xd,xa,xb,xc,xk⟩ wx (H5.o.2.1 _ (List.mem_of_getElem? HX.o)).1 rfl ⟨HKS6.o.row.below hb7 HKS6.o.row.lt,HKS6.o.ne⟩ HKL.o HKK.o H4.o (HOK.o.2.2.2.2.2.1 _ (List.mem_of_getElem? HX.o)) (HOP.o _ (List.mem_of_getElem? HX.o)))
  by_cases ha:au f ⟨xo,xd,xa,xb,xc,xk⟩
  ·rw[aq ha] at HC
   have HA':=zH (aC HA.o (fun y hy=>by rw[HX.o] at hy;injection hy with hy;rw[<-hy];exact ha))
   clear ha
   refine' zq56
   rintro e w8 ⟨rfl,hb8⟩
   have hb68:=hb7.trans (hb8.mono hs7)
   go_wp2_with fail
   go_roundw
   case rel=>exact ⟨k+1,by omega,by go_num,HA',hb68⟩
   case measure=>first|(simp[intOf];omega)|simp[intOf]
  ·rw[ab ha] at HC
   exact absurd HOK.o (fun g=>ha (g.2.2.2.2.2.1 _ (List.mem_of_getElem? HX.o)))
end Go.Proofs.YtckognjamlckcaaGreatDoor
