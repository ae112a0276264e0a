/-
  The document's act: ops that name some parts. The document's Wants.
-/
import Derived.Test.YtckognjamlckcaaGreatDoorR24C0
set_option maxHeartbeats 8000000
set_option maxRecDepth 100000
namespace Go.Proofs.YtckognjamlckcaaGreatDoor
open Go.RowKit Vf Fo
attribute [local go_sem ↓] Go.wp_at_zero Go.wp_at_succ
theorem nY {c:Int}:∀{l:List (Int × Int)} {o:Int},(∀k∈l,k.1≠c)->rk c o l=o
 | [],o,_=>rfl
 |k::l,o,h=>by
  rw[rk,if_neg (h k (by simp))]
  exact nY (fun x hx=>h x (by simp[hx]))
theorem mX {c n:Int}:∀{l:List (Int × Int)},l.Pairwise (fun x y=>x.1≠y.1)->(l.find? (fun k=>k.1==c)).map (·.2)=some n->rk c (-1) l=n
 | [],_,h=>by simp at h
 |k::l,hp,h=>by
  rw[List.pairwise_cons] at hp
  rw[rk]
  by_cases e:k.1=c
  ·rw[if_pos e,if_neg (by simp)]
   rw[List.find?_cons_of_pos (by simpa using e)] at h
   simp at h
   rw[h]
   exact nY (fun x hx g=>hp.1 x hx (e.trans g.symm))
  ·rw[if_neg e]
   rw[List.find?_cons_of_neg (by simpa using e)] at h
   exact mX hp.2 h
theorem tz {f:Fm} (h:du f) {c:Nat} (_hc:c<f.cells.length) {n:Int} (hk:kept f c=some n):rk c (-1) f.keeps=n:=mX (gG h.2.2.2.1) hk
theorem BN {w:World} {f:Fm} {vw va vc vk vi vo:Value} (h:bQ w w.heap.size f vw va vc vk vi vo) (op dst a b c k:Int) (hu:bl op=0) (hop:op=21) (hall:cm f a b c) (hd:ak f dst) (hcok:du f):
  Calls Tryz.prog 36 #[dp vw va vc vk vi vo,fT ⟨op,dst,a,b,c,k⟩] w fun e w'=>e= .returned (.bool (cB (au f ⟨op,dst,a,b,c,k⟩)))/\Below w.heap.size w w':=by
 refine' zq27
 have HCK:=zH hcok
 clear hcok
 refine' zq3
 refine' zq43
 obtain ⟨Acl,cc,rfl,lc,mc_,sc⟩:=h.cells
 have HSC:=zH (fun W (hW:Below w.heap.size w W)=>sc.below hW)
 have HFM:=zH (fun W (hW:Below w.heap.size w W)=>h.next hW)
 have HFW:=zH (fun (n:Int) (hn:ak f n)=>fW h hn)
 clear sc
 refine' zq201
 have HCX:Hid (∀W,Below w1.heap.size w1 W->(W.cell? ⟨w.heap.size,0,none⟩=some (.slice (some ⟨b6,o6,none⟩) f.wires.length cw)/\W.cell? ⟨w.heap.size,1,none⟩=some va/\W.cell? ⟨w.heap.size,2,none⟩=some (.slice Acl f.cells.length cc)/\W.cell? ⟨w.heap.size,3,none⟩=some vk/\W.cell? ⟨w.heap.size,4,none⟩=some vi/\W.cell? ⟨w.heap.size,5,none⟩=some vo)/\
   (W.cell? ⟨w.heap.size+1,0,none⟩=some (.int .i64 op)/\W.cell? ⟨w.heap.size+1,1,none⟩=some (.int .i64 (md:Int))/\W.cell? ⟨w.heap.size+1,2,none⟩=some (.int .i64 (ma:Int))/\W.cell? ⟨w.heap.size+1,3,none⟩=some (.int .i64 (mb:Int))/\W.cell? ⟨w.heap.size+1,4,none⟩=some (.int .i64 (mc:Int))/\W.cell? ⟨w.heap.size+1,5,none⟩=some (.int .i64 k))):=fun W hW=>
  ⟨(rF.below hW (by omega)).six',(rX.below hW hXl).six'⟩
 have HI:Hid (∀W n V,Below w1.heap.size w1 W->cB (ak f n)=V->Calls Tryz.prog 30 #[dp (.slice (some ⟨b6,o6,none⟩) f.wires.length cw) va (.slice Acl f.cells.length cc) vk vi vo,.int .i64 n] W fun e w'=>e= .returned (.bool V)/\Below W.heap.size W w'):=fun W n V hW hV=>by
  have:=fY (HFM.o W (HBW.o W hW)) n
  rw[hV] at this
  exact this
 refine' zq58
 refine' zq65
 have HIFF:=zH (iB (f:=f) (op:=21) (dst:=(md:Int)) (a:=(ma:Int)) (b:=(mb:Int)) (c:=(mc:Int)) (k:=k) rfl HALL.o)
 by_cases h1:k<0
 ·have e1:decide (k<0)=true:=decide_eq_true h1
  have HF:Hid (cB (au f ⟨21,(md:Int),(ma:Int),(mb:Int),(mc:Int),k⟩)=false):=ab (fun g=>by have:=(HIFF.o.1 g).2.1.1;omega)
  clear h1
  refine' zq149
 have e1:decide (k<0)=false:=decide_eq_false h1
 obtain ⟨kk,rfl⟩:=Int.eq_ofNat_of_zero_le (by omega:0<=k)
 by_cases h2:(f.cells.length:Int)<=kk
 ·have e2:decide ((f.cells.length:Int)<=kk)=true:=decide_eq_true h2
  have e2':decide (f.cells.length<=kk)=true:=decide_eq_true (by omega)
  have HF:Hid (cB (au f ⟨21,(md:Int),(ma:Int),(mb:Int),(mc:Int),(kk:Int)⟩)=false):=ab (fun g=>by have:=(HIFF.o.1 g).2.1.2;omega)
  clear h2 h1
  refine' zq149
 have e2:decide ((f.cells.length:Int)<=kk)=false:=decide_eq_false h2
 have e2':decide (f.cells.length<=kk)=false:=decide_eq_false (by omega)
 have hkk:kk<f.cells.length:=by omega
 have hkk':(kk:Int)<f.cells.length:=by omega
 clear h1 h2
 obtain ⟨n,hkp,hnw,hnt⟩:=mF HCK.o hkk
 have HKP:=zH hkp
 have HRK:=zH (tz HCK.o hkk hkp)
 obtain ⟨mn,bx,ox,cx,Agn,cgn,hmn,hln,hv,_,_,hb6n,wtn,y0n,y1n,lgn,mgn,sgn⟩:=HFW.o n hnw
 refine' zq195
 subst hmn
 have hln':(mn:Int)<f.wires.length:=by omega
 obtain ⟨b3,off3,xc,hAc,hb3,hxc,_,_,z0,z1⟩:=(HSC.o _ (HBW.o _ b5)).cell hkk
 subst hAc
 have HTC:=zH (show ao (dQ f.cells) (kk:Int)=xc.1 from ot (ii hxc))
 clear z1 hxc hkp hnw hnt y0n wtn
 generalize xc.1=T2 at*
 have HSN:Hid (∀W,Below w.heap.size w W->Sl W w.heap.size 2 aW Agn (aa f (mn:Int))/\W.cell? ⟨b6,o6+mn*2+1,none⟩=some (.slice Agn (aa f (mn:Int)).length cgn)):=fun W hW=>⟨sgn.below hW,cell_kept y1n hW⟩
 have HS:Hid (∀W,Below w5.heap.size w5 W->W.cell? ⟨w.heap.size,0,none⟩=some (.slice (some ⟨b6,o6,none⟩) f.wires.length cw)/\W.cell? ⟨w.heap.size,1,none⟩=some va/\W.cell? ⟨w.heap.size,2,none⟩=some (.slice (some ⟨b3,off3,none⟩) f.cells.length cc)/\W.cell? ⟨w.heap.size,3,none⟩=some vk/\W.cell? ⟨w.heap.size,4,none⟩=some vi/\W.cell? ⟨w.heap.size,5,none⟩=some vo/\W.cell? ⟨g6,0,none⟩=some (.int .i64 (ag f (md:Int)))/\W.cell? ⟨g6,1,none⟩=some (.slice Agd (aa f (md:Int)).length cgd)/\W.cell? ⟨w.heap.size+1,5,none⟩=some (.int .i64 (kk:Int))/\W.cell? ⟨b3,off3+kk*2,none⟩=some (.int .i64 T2)/\W.cell? ⟨b6,o6+mn*2+1,none⟩=some (.slice Agn (aa f (mn:Int)).length cgn)):=fun W hW=>by
  obtain ⟨⟨p0,p1,p2,p3,p4,p5⟩,q0,q1,q2,q3,q4,q5⟩:=HCX.o W (b5.trans (hW.mono hs5))
  obtain ⟨⟨d0,d1⟩,_⟩:=HR.o W hW
  exact ⟨p0,p1,p2,p3,p4,p5,d0,d1,q5,cell_kept z0 hW,(HSN.o W (HBW.o _ (b5.trans (hW.mono hs5)))).2⟩
 have HKC:Hid (∀W,Below w5.heap.size w5 W->Calls Tryz.prog 34 #[dp (.slice (some ⟨b6,o6,none⟩) f.wires.length cw) va (.slice (some ⟨b3,off3,none⟩) f.cells.length cc) vk vi vo,.int .i64 (kk:Int)] W fun e w'=>e= .returned (.int .i64 (mn:Int))/\Below W.heap.size W w'):=fun W hW=>by
  have:=oK (HFM.o W (HBW.o _ (b5.trans (hW.mono hs5)))) (kk:Int)
  rw[HRK.o] at this
  exact this
 have HGN:Hid (∀W (V:Bool),Below w5.heap.size w5 W->cB (aa f (md:Int)=aa f (mn:Int))=V->Calls Tryz.prog 31 #[.slice Agd (aa f (md:Int)).length cgd,.slice Agn (aa f (mn:Int)).length cgn] W fun e w'=>e= .returned (.bool V)/\∃n,w'=W.drewN n):=fun W V hW hV=>by
  have q:=HBW.o _ (b5.trans (hW.mono hs5))
  have:=da _ _ _ _ _ W (⟨Agd,cgd,rfl,lgd,mgd,(HSG.o W q).1⟩:aI W w.heap.size 2 aW (.slice Agd (aa f (md:Int)).length cgd) (aa f (md:Int))) (⟨Agn,cgn,rfl,lgn,mgn,(HSN.o W q).1⟩:aI W w.heap.size 2 aW (.slice Agn (aa f (mn:Int)).length cgn) (aa f (mn:Int)))
  rw[hV] at this
  exact this
 clear z0 y1n sgn
 go_upto_region 15 with (fail)
 by_cases hT:ag f (md:Int)=T2
 rotate_left 1
 ·have eT:(ag f (md:Int)==T2)=false:=by simpa using hT
  have HF:Hid (cB (au f ⟨21,(md:Int),(ma:Int),(mb:Int),(mc:Int),(kk:Int)⟩)=false):=ab (fun g=>hT ((HIFF.o.1 g).2.2.1.trans HTC.o))
  clear hT
  refine' zq25
  refine sk 11 (some 147) rfl ?_
  refine sk 12 (some 148) rfl ?_
  refine sk 13 (some 149) rfl ?_
  refine sk 14 (some 150) rfl ?_
  refine sk 15 (some 151) rfl ?_
  refine sk 16 (some 152) rfl ?_
  refine sk 17 (some 153) rfl ?_
  refine sk 18 (some 154) rfl ?_
  refine sk 19 (some 155) rfl ?_
  refine sk 20 (some 156) rfl ?_
  refine sk 21 (some 157) rfl ?_
  refine sk 22 (some 158) rfl ?_
  refine tk 23 (some 159) rfl ?_
  refine tk 24 (some 4) rfl ?_
  refine' zq54
 have eT:(ag f (md:Int)==T2)=true:=by simpa using hT
 have HT:=zH hT
 clear hT
 by_cases hC:aa f (md:Int)=aa f (mn:Int)
 rotate_left 1
 ·have HVN:=zH (ab hC)
  have HF:Hid (cB (au f ⟨21,(md:Int),(ma:Int),(mb:Int),(mc:Int),(kk:Int)⟩)=false):=ab (fun g=>by obtain ⟨q,hq,hcq⟩:=(HIFF.o.1 g).2.2.2;rw[HKP.o] at hq;injection hq with hq;rw[<-hq] at hcq;exact hC hcq)
  refine' zq67
  refine' zq54
 have HVN:=zH (aq hC)
 have HF:Hid (cB (au f ⟨21,(md:Int),(ma:Int),(mb:Int),(mc:Int),(kk:Int)⟩)=true):=aq (HIFF.o.2 ⟨⟨HZa.o,HZb.o,HZc.o⟩,⟨by omega,hkk'⟩,HT.o.trans HTC.o.symm,_,HKP.o,hC⟩)
 refine' zq67
 refine' zq54
theorem uj {w:World} {B:Nat} {f:Fm} {vw va vc vk vi vo:Value} (h:bQ w B f vw va vc vk vi vo) (hB:B<=w.heap.size) (x:Ac) (wx:eP x) (ho:yy f x):
  Calls Tryz.prog 73 #[dp vw va vc vk vi vo,fT x] w fun e w'=>∃v,e= .returned v/\aI w' w'.heap.size 1 aP v (cZ f x)/\Below w.heap.size w w':=by
 obtain ⟨hu,hd,hwn,hcl⟩:=ho
 refine' zq106
 obtain ⟨m0,b6,off6,cw6,Ag6,cg6,hmd,hm,hvw,lw6,mw6,hb6,wt6,d0,d1,lg6,mg6,sg6⟩:=fW h hd
 subst hvw
 have hgl:b6<w.heap.size:=by omega
 obtain ⟨op,dst,a,b,c,k⟩:=x
 dsimp only at*
 subst hmd
 have hm':(m0:Int)<f.wires.length:=by omega
 have hcg:cg6<=9223372036854775807:=by unfold maxLen at mg6;omega
 have HWF:Hid (∀n∈cZ f ⟨op,(m0:Int),a,b,c,k⟩,Wf n):=by
  intro n hn
  rcases List.mem_append.1 hn with hn|hn
  ·have hw:n=a\/n=b\/n=c:=by
    unfold wants at hn
    dsimp only at hn
    split at hn
    ·simp at hn
    ·split at hn
     ·simp at hn;exact .inl hn
     ·split at hn
      ·simp at hn;rcases hn with h|h<;>simp[h]
      ·simp at hn;exact hn
   rcases hw with rfl|rfl|rfl
   ·exact wx.a
   ·exact wx.b
   ·exact wx.c
  ·obtain ⟨g,hg,rfl⟩:=List.mem_map.1 hn
   obtain ⟨i,hi⟩:=List.getElem?_of_mem hg
   obtain ⟨_,_,g',_,_,hg',wg,_⟩:=sg6.gd (List.getElem?_eq_some_iff.1 hi).1
   rw[hi] at hg'
   injection hg' with hg'
   rw[hg'];exact wg
 generalize hw1:(w.alloc (.cells #[.slice (some ⟨b6,off6,none⟩) f.wires.length cw6,va,vc,vk,vi,vo] 28)).alloc (.cells #[.int .i64 op,.int .i64 (m0:Int),.int .i64 a,.int .i64 b,.int .i64 c,.int .i64 k] 58)=w1
 have b1:Below w.heap.size w w1:=by rw[<-hw1];exact bE
 have rF:ai w1 w.heap.size #[.slice (some ⟨b6,off6,none⟩) f.wires.length cw6,va,vc,vk,vi,vo] 28:=by rw[<-hw1];exact (ai.new w _ _).alloc _
 have rX:ai w1 (w.heap.size+1) #[.int .i64 op,.int .i64 (m0:Int),.int .i64 a,.int .i64 b,.int .i64 c,.int .i64 k] 58:=by rw[<-hw1];exact dw w _ _ _
 have hs1:w1.heap.size=w.heap.size+1+1:=by rw[<-hw1];simp
 have HD:Hid (∀W,Below w1.heap.size w1 W->W.cell? ⟨w.heap.size,0,none⟩=some (.slice (some ⟨b6,off6,none⟩) f.wires.length cw6)/\W.cell? ⟨b6,off6+m0*2+1,none⟩=some (.slice Ag6 (aa f m0).length cg6)/\W.cell? ⟨w.heap.size+1,0,none⟩=some (.int .i64 op)/\W.cell? ⟨w.heap.size+1,1,none⟩=some (.int .i64 (m0:Int))/\W.cell? ⟨w.heap.size+1,2,none⟩=some (.int .i64 a)/\W.cell? ⟨w.heap.size+1,3,none⟩=some (.int .i64 b)/\W.cell? ⟨w.heap.size+1,4,none⟩=some (.int .i64 c)/\W.cell? ⟨w.heap.size+1,5,none⟩=some (.int .i64 k)):=fun W hW=>
  ⟨(rF.below hW rF.lt).cell 0,cell_kept d1 (b1.trans (hW.mono (by omega))),(rX.below hW rX.lt).six'⟩
 have HGD:Hid (∀W,Below w1.heap.size w1 W->Sl W B 2 aW Ag6 (aa f m0)):=fun W hW=>sg6.below ((b1.trans (hW.mono (by omega))).mono hB)
 have HFI:Hid (∀W v,Below w1.heap.size w1 W->W.ownsRow w1.heap.size 3 1 v (cZ f ⟨op,(m0:Int),a,b,c,k⟩).length (al (cZ f ⟨op,(m0:Int),a,b,c,k⟩))->aI W W.heap.size 1 aP v (cZ f ⟨op,(m0:Int),a,b,c,k⟩)/\Below w.heap.size w W):=fun W v hW ho=>
  ⟨Au ho HWF.o,b1.trans (hW.mono (by omega))⟩
 have HCL:=zH hcl
 have HU:=zH hu
 have HONE:Hid (∀(q:Int),∀u∈[Value.int .i64 q],u.oneCell'=true):=by intro q u hu;simp at hu;subst hu;rfl
 clear h wx hd hwn hu d0 d1 sg6 wt6 HWF b1 rF rX hcl hs1
 have hcl16:(aa f m0).length<=1600:=HCL.o
 have hs11:w1.heap.size<=w1.heap.size:=Nat.le_refl _
 generalize hlen:(aa f (m0:Int)).length=len at*
 have HLEN:=zH hlen
 clear hlen
 obtain ⟨y0,y1,c0,c1,c2,c3,c4,c5⟩:=HD.o w1 (Below.refl _ _)
 generalize hu:bl op=u at*
 have HUE:=zH hu
 have hu4:u=0\/u=1\/u=2\/u=3:=by
  have h0:=HU.o
  have h1:=HUE.o
  unfold bl at h1
  split at h1
  ·omega
  ·split at h1
   ·omega
   ·split at h1
    ·omega
    ·split at h1<;>omega
 clear hu
 rcases hu4 with hu|hu|hu|hu
 ·subst hu
  have HW:Hid (wants ⟨op,(m0:Int),a,b,c,k⟩=[]):=by show _=_;simp[wants,HUE.o]
  refine' zq279
  go_wp2_with fail
  go_loopw[5,7] (fun v i wr=>∃j:Nat,j<=len/\i= .int .i64 j/\wr.ownsRow w1.heap.size 3 1 v (0+j) (al ([]++((aa f m0).take j).map (·.wire)))/\Below w1.heap.size w1 wr) (fun _ i _=>len-(intOf i).toNat)
  case atStart=>exact ⟨0,Nat.zero_le _,rfl,World.ownsRow_nil _ _ _ _,Below.refl _ _⟩
  case round=>
   refine' zq154
   by_cases hlt:j<len
   ·refine' zq153
    have HS:=zH (show al ([]++((aa f m0).take (j+1)).map (·.wire))=al ([]++((aa f m0).take j).map (·.wire))++ [.int .i64 gw] by
     rw[bj hgg,List.map_append,<-List.append_assoc,List.map_singleton,bS])
    clear hgg
    generalize al ([]++((aa f m0).take j).map (·.wire))=LL at*
    refine' zq45
    have HO:Hid (w3.ownsRow w1.heap.size 3 1 v' (0+(j+1)) (LL++ [Value.int IntKind.i64 gw])):=by first|exact hown1|(rw[Nat.zero_add];exact hown1)|(rw[<-Nat.add_assoc];exact hown1)
    refine' zq120
   ·refine' zq101
    rw[show cZ f ⟨_,(m0:Int),a,b,c,k⟩=([]:List Int)++(aa f m0).map (·.wire) from by rw[cZ,HW.o],show (([]:List Int)++(aa f m0).map (·.wire)).length=0+(aa f m0).length by simp;(try omega)]
    exact this
 ·subst hu
  have HW:Hid (wants ⟨op,(m0:Int),a,b,c,k⟩=[a]):=by show _=_;simp[wants,HUE.o]
  refine' zq28
  go_wp2_with fail
  go_loopw[5,7] (fun v i wr=>∃j:Nat,j<=len/\i= .int .i64 j/\wr.ownsRow w1.heap.size 3 1 v (1+j) (al ([a]++((aa f m0).take j).map (·.wire)))/\Below w1.heap.size w1 wr) (fun _ i _=>len-(intOf i).toNat)
  case atStart=>exact ⟨0,Nat.zero_le _,rfl,(by first|exact HO1.o|(rw[Nat.add_zero,List.take_zero,List.map_nil,List.append_nil];exact HO1.o)),hb1a⟩
  case round=>
   refine' zq154
   by_cases hlt:j<len
   ·refine' zq153
    have HS:=zH (show al ([a]++((aa f m0).take (j+1)).map (·.wire))=al ([a]++((aa f m0).take j).map (·.wire))++ [.int .i64 gw] by
     rw[bj hgg,List.map_append,<-List.append_assoc,List.map_singleton,bS])
    clear hgg
    generalize al ([a]++((aa f m0).take j).map (·.wire))=LL at*
    refine' zq45
    have HO:Hid (w3.ownsRow w1.heap.size 3 1 v' (1+(j+1)) (LL++ [Value.int IntKind.i64 gw])):=by first|exact hown1|(rw[Nat.zero_add];exact hown1)|(rw[<-Nat.add_assoc];exact hown1)
    refine' zq120
   ·refine' zq101
    rw[show cZ f ⟨_,(m0:Int),a,b,c,k⟩=[a]++(aa f m0).map (·.wire) from by rw[cZ,HW.o],show ([a]++(aa f m0).map (·.wire)).length=1+(aa f m0).length by simp;(try omega)]
    exact this
 ·subst hu
  have HW:Hid (wants ⟨op,(m0:Int),a,b,c,k⟩=[a,b]):=by show _=_;simp[wants,HUE.o]
  refine' zq71
  go_wp2_with fail
  go_loopw[5,7] (fun v i wr=>∃j:Nat,j<=len/\i= .int .i64 j/\wr.ownsRow w1.heap.size 3 1 v (2+j) (al ([a,b]++((aa f m0).take j).map (·.wire)))/\Below w1.heap.size w1 wr) (fun _ i _=>len-(intOf i).toNat)
  case atStart=>exact ⟨0,Nat.zero_le _,rfl,(by first|exact HO2.o|(rw[Nat.add_zero,List.take_zero,List.map_nil,List.append_nil];exact HO2.o)),hb2a⟩
  case round=>
   refine' zq154
   by_cases hlt:j<len
   ·refine' zq153
    have HS:=zH (show al ([a,b]++((aa f m0).take (j+1)).map (·.wire))=al ([a,b]++((aa f m0).take j).map (·.wire))++ [.int .i64 gw] by
     rw[bj hgg,List.map_append,<-List.append_assoc,List.map_singleton,bS])
    clear hgg
    generalize al ([a,b]++((aa f m0).take j).map (·.wire))=LL at*
    refine' zq45
    have HO:Hid (w3.ownsRow w1.heap.size 3 1 v' (2+(j+1)) (LL++ [Value.int IntKind.i64 gw])):=by first|exact hown1|(rw[Nat.zero_add];exact hown1)|(rw[<-Nat.add_assoc];exact hown1)
    refine' zq120
   ·refine' zq101
    rw[show cZ f ⟨_,(m0:Int),a,b,c,k⟩=[a,b]++(aa f m0).map (·.wire) from by rw[cZ,HW.o],show ([a,b]++(aa f m0).map (·.wire)).length=2+(aa f m0).length by simp;(try omega)]
    exact this
 ·subst hu
  have HW:Hid (wants ⟨op,(m0:Int),a,b,c,k⟩=[a,b,c]):=by show _=_;simp[wants,HUE.o]
  refine' zq71
  go_wp2_with (at_builtin;refine wpList_append_own _ rfl _ _ 26 rfl w1.heap.size 3 i0 (.int .i64 0) 1 8 Tryz.underlying26 hi0 hz0 hz1 hz2 rfl (by decide) _ _ _ rfl (HO2.o.alloc _) ⟨w2a.heap.size,0,none⟩ 1 1 [.int .i64 c] rfl rfl (cA _ _ _) (HONE.o _) (by unfold maxLen;omega) (by omega) (by first|(simp;done)|(simp;omega)) ?_)
  intro v3 w3a hown hgrow _
  have hb3a:=aY (hb2a.alloc (by first|exact Nat.le_refl _|assumption) _) (HO2.o.alloc _) hgrow (by first|(simp;done)|(simp;omega))
  have HO3:Hid (w3a.ownsRow w1.heap.size 3 1 v3 3 (al [a,b,c])):=by first|exact hown|simpa[al] using hown
  have hs3a:=hb3a.size
  clear hown hgrow
  clear y0 y1 c0 c1 c2 c3 c4 c5
  obtain ⟨y0,y1,c0,c1,c2,c3,c4,c5⟩:=HD.o w3a hb3a
  go_wp2_with fail
  go_loopw[5,7] (fun v i wr=>∃j:Nat,j<=len/\i= .int .i64 j/\wr.ownsRow w1.heap.size 3 1 v (3+j) (al ([a,b,c]++((aa f m0).take j).map (·.wire)))/\Below w1.heap.size w1 wr) (fun _ i _=>len-(intOf i).toNat)
  case atStart=>exact ⟨0,Nat.zero_le _,rfl,(by first|exact HO3.o|(rw[Nat.add_zero,List.take_zero,List.map_nil,List.append_nil];exact HO3.o)),hb3a⟩
  case round=>
   refine' zq154
   by_cases hlt:j<len
   ·refine' zq153
    have HS:=zH (show al ([a,b,c]++((aa f m0).take (j+1)).map (·.wire))=al ([a,b,c]++((aa f m0).take j).map (·.wire))++ [.int .i64 gw] by
     rw[bj hgg,List.map_append,<-List.append_assoc,List.map_singleton,bS])
    clear hgg
    generalize al ([a,b,c]++((aa f m0).take j).map (·.wire))=LL at*
    refine' zq45
    have HO:Hid (w3.ownsRow w1.heap.size 3 1 v' (3+(j+1)) (LL++ [Value.int IntKind.i64 gw])):=by first|exact hown1|(rw[Nat.zero_add];exact hown1)|(rw[<-Nat.add_assoc];exact hown1)
    refine' zq120
   ·refine' zq101
    rw[show cZ f ⟨_,(m0:Int),a,b,c,k⟩=[a,b,c]++(aa f m0).map (·.wire) from by rw[cZ,HW.o],show ([a,b,c]++(aa f m0).map (·.wire)).length=3+(aa f m0).length by simp;(try omega)]
    exact this
end Go.Proofs.YtckognjamlckcaaGreatDoor
