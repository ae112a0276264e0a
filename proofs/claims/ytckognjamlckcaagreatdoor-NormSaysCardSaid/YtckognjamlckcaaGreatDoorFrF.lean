/-
  The document's words on flats: Kind. The document's words on flats: does an expression go by a clock?
-/
import Derived.Test.YtckognjamlckcaaGreatDoorFrD
set_option maxHeartbeats 16000000
set_option maxRecDepth 100000
namespace Go.Proofs.YtckognjamlckcaaGreatDoor
open Go.RowKit Vf Fo
attribute [local go_sem ↓] Go.wp_at_zero Go.wp_at_succ
theorem xB {w:World} {B:Nat} {A:Option Addr} {a:Int} (h:Sl w B 1 aP A [a]):∃b off,A=some ⟨b,off,none⟩/\b<B/\w.cell? ⟨b,off,none⟩=some (.int .i64 a):=by
 obtain ⟨b,off,x,h1,h2,h3,_,h4⟩:=h.int (k:=0) (by simp)
 simp only[List.getElem?_cons_zero,Option.some.injEq] at h3
 exact ⟨b,off,h1,h2,by rw[h3];exact h4⟩
theorem vF {w:World} {B:Nat} {A:Option Addr} {a a1:Int} (h:Sl w B 1 aP A [a,a1]):∃b off,A=some ⟨b,off,none⟩/\b<B/\w.cell? ⟨b,off,none⟩=some (.int .i64 a)/\w.cell? ⟨b,off+1,none⟩=some (.int .i64 a1):=by
 obtain ⟨b,off,x,h1,h2,h3,_,h4⟩:=h.int (k:=0) (by simp)
 obtain ⟨b',off',x',h1',_,h3',_,h4'⟩:=h.int (k:=1) (by simp)
 simp only[List.getElem?_cons_zero,List.getElem?_cons_succ,Option.some.injEq] at h3 h3'
 rw[h1] at h1'
 injection h1' with h1'
 injection h1' with q1 q2
 exact ⟨b,off,h1,h2,by rw[h3];exact h4,by rw[h3',q1,q2];exact h4'⟩
theorem Aj {w:World} {B:Nat} {A:Option Addr} {a a1 a2:Int} (h:Sl w B 1 aP A [a,a1,a2]):∃b off,A=some ⟨b,off,none⟩/\b<B/\w.cell? ⟨b,off,none⟩=some (.int .i64 a)/\w.cell? ⟨b,off+1,none⟩=some (.int .i64 a1)/\w.cell? ⟨b,off+2,none⟩=some (.int .i64 a2):=by
 obtain ⟨b,off,x,h1,h2,h3,_,h4⟩:=h.int (k:=0) (by simp)
 obtain ⟨b',off',x',h1',_,h3',_,h4'⟩:=h.int (k:=1) (by simp)
 obtain ⟨b2,off2,x2,g1,_,g3,_,g4⟩:=h.int (k:=2) (by simp)
 simp only[List.getElem?_cons_zero,List.getElem?_cons_succ,Option.some.injEq] at h3 h3' g3
 rw[h1] at h1' g1
 injection h1' with h1'
 injection h1' with q1 q2
 injection g1 with g1
 injection g1 with r1 r2
 exact ⟨b,off,h1,h2,by rw[h3];exact h4,by rw[h3',q1,q2];exact h4',by rw[g3,r1,r2];exact g4⟩
theorem sT {f:Fl} {e:Ex} (h:bJ f e):(e.args.length=0/\(e.op=1\/e.op=2\/e.op=3))\/(e.args.length=1/\(e.op=5\/e.op=6\/e.op=21\/e.op=24\/e.op=25))\/(e.args.length=2/\((7<=e.op/\e.op<=20)\/e.op=22\/e.op=23\/e.op=26))\/(e.args.length=3/\e.op=27):=by
 have:=bU h
 have h4:=h.2.1
 unfold aX at this
 repeat' split at this
 all_goals omega
theorem ux {f:Fl} {vw vd vi vo:Value} (hw:de f) (e:Ex):∀(A:Option Addr) (cap:Nat) (w:World),cS w w.heap.size f vw vd vi vo->cW e->e.args.length<=cap->cap<=maxLen->aM w w.heap.size A e.args->aO f e->
  Calls Tryz.prog 46 #[eZ vw vd vi vo,bz e A cap] w (lO f e w):=by
 refine' zq106
 induction e using Ex.ind with
 |h e ih=>
  intro A cap w h hok hcap hmax hx hp
  obtain ⟨hp1,hp2⟩:=bq.1 hp
  have HP1:=zH hp1
  have HP:=zH hp
  have HWO:=zH hw
  have HI:Hid (∀x∈e.args,∀(A:Option Addr) (cap:Nat) (W:World),cS W W.heap.size f vw vd vi vo->cW x->x.args.length<=cap->cap<=maxLen->aM W W.heap.size A x.args->Calls Tryz.prog 46 #[eZ vw vd vi vo,bz x A cap] W (lO f x W)):=fun x hx A cap W q1 q2 q3 q4 q5=>ih x hx A cap W q1 q2 q3 q4 q5 (hp2 x hx)
  have hlen:e.args.length<=3:=by
   have:=bU hp1
   unfold aX at this
   repeat' split at this
   all_goals omega
  have b1:Below w.heap.size w ((w.alloc (.cells #[vw,vd,vi,vo] 33)).alloc (.cells #[.int .i64 e.op,.string e.name,.int .i64 e.n,.slice A e.args.length cap,.int .i64 e.line,.int .i64 e.col] 75)):=bE
  have rF:=(ai.new w #[vw,vd,vi,vo] 33).alloc (.cells #[.int .i64 e.op,.string e.name,.int .i64 e.n,.slice A e.args.length cap,.int .i64 e.line,.int .i64 e.col] 75)
  have rX:=dw w (.cells #[vw,vd,vi,vo] 33) #[.int .i64 e.op,.string e.name,.int .i64 e.n,.slice A e.args.length cap,.int .i64 e.line,.int .i64 e.col] 75
  have HFL:=zH (fun W (hW:Below w.heap.size w W)=>h.next hW)
  have HXS:=zH (fun W (hW:Below w.heap.size w W)=>(hx.below hW).more hW.size)
  unfold maxLen at hmax
  clear ih h hx hp hp1 hp2 hw hok
  go_enter Tryz.func46,Tryz.ntmps46
  go_upto_region 1 with (fail)
  generalize (w.alloc (.cells #[vw,vd,vi,vo] 33)).alloc (.cells #[.int .i64 e.op,.string e.name,.int .i64 e.n,.slice A e.args.length cap,.int .i64 e.line,.int .i64 e.col] 75)=w1 at*
  have hXl:=rX.lt
  have hFl:=rF.lt
  have hs1:=b1.size
  have HX:Hid (∀W,Below w1.heap.size w1 W->W.cell? ⟨w.heap.size+1,0,none⟩=some (.int .i64 e.op)/\W.cell? ⟨w.heap.size+1,1,none⟩=some (.string e.name)/\W.cell? ⟨w.heap.size+1,2,none⟩=some (.int .i64 e.n)/\W.cell? ⟨w.heap.size+1,3,none⟩=some (.slice A e.args.length cap)/\W.cell? ⟨w.heap.size+1,4,none⟩=some (.int .i64 e.line)/\W.cell? ⟨w.heap.size+1,5,none⟩=some (.int .i64 e.col)):=fun W hW=>(rX.below hW hXl).six'
  have HF4:Hid (∀W,Below w1.heap.size w1 W->W.cell? ⟨w.heap.size,0,none⟩=some vw/\W.cell? ⟨w.heap.size,1,none⟩=some vd/\W.cell? ⟨w.heap.size,2,none⟩=some vi/\W.cell? ⟨w.heap.size,3,none⟩=some vo):=fun W hW=>(rF.below hW hFl).four'
  clear rX rF
  go_wp2_with fail
  go_loopw[5,6] (fun v5 i wr=>∃k:Nat,k<=e.args.length/\i= .int .i64 k/\Hid (wr.ownsRow w1.heap.size 3 1 v5 k (al (cT f e k)))/\Hid (∀z∈cT f e k,z≠0)/\Hid (Below w1.heap.size w1 wr)) (fun _ i _=>e.args.length-(intOf i).toNat)
  case atStart=>exact ⟨0,Nat.zero_le _,rfl,World.ownsRow_nil _ _ _ _,(fun z hz=>by cases hz),Below.refl _ _⟩
  case round=>
   obtain ⟨k,hk,rfl,HO,HNZ,HBR⟩:=hrel
   have hszr:=HBR.o.size
   have hb:=b1.trans (HBR.o.mono hs1)
   have hbs:=hb.size
   obtain ⟨e0,e1,e2,e3,e4,e5⟩:=HX.o _ HBR.o
   by_cases hlt:k<e.args.length
   ·obtain ⟨b,off,x,A',cap',rfl,hbb,hxk,hxm,hok',hcap',hmax',hx',d0,d1,d2,d3,d4,d5⟩:=(HXS.o _ hb).at_ hlt
    have hk':(k:Int)<e.args.length:=by omega
    have HC:=zH (fun W (hW:Below wr.heap.size wr W)=>HI.o x hxm A' cap' W (HFL.o W (hb.trans (hW.mono hbs))) hok' hcap' hmax' ((hx'.below hW).more hW.size))
    have HTS:=zH (mh (f:=f) hxk)
    have HKZ:=zH (fun h0=>oZ (f:=f) hxk h0)
    have HS:Hid (∀W,Below wr.heap.size wr W->(W.cell? ⟨w.heap.size+1,3,none⟩=some (.slice (some ⟨b,off,none⟩) e.args.length cap))/\(W.cell? ⟨w.heap.size,0,none⟩=some vw/\W.cell? ⟨w.heap.size,1,none⟩=some vd/\W.cell? ⟨w.heap.size,2,none⟩=some vi/\W.cell? ⟨w.heap.size,3,none⟩=some vo)/\(W.cell? ⟨b,off+k*6,none⟩=some (.int .i64 x.op)/\W.cell? ⟨b,off+k*6+1,none⟩=some (.string x.name)/\W.cell? ⟨b,off+k*6+2,none⟩=some (.int .i64 x.n)/\W.cell? ⟨b,off+k*6+3,none⟩=some (.slice A' x.args.length cap')/\W.cell? ⟨b,off+k*6+4,none⟩=some (.int .i64 x.line)/\W.cell? ⟨b,off+k*6+5,none⟩=some (.int .i64 x.col))):=fun W hW=>
     ⟨(HX.o W (HBR.o.trans (hW.mono hszr))).2.2.2.1,HF4.o W (HBR.o.trans (hW.mono hszr)),cell_kept d0 hW,cell_kept d1 hW,cell_kept d2 hW,cell_kept d3 hW,cell_kept d4 hW,cell_kept d5 hW⟩
    clear hxk hxm hok' hcap' hmax' hx' d0 d1 d2 d3 d4 d5
    go_upto_region 5 with (fail)
    go_cut[7] from 11 to 30 (fun v W=>v= .int .i64 (am f x)/\Below wr.heap.size wr W)
    case first=>
     refine wp_mono (Q:=Exit.then _ (fun _ _ _=>False)) ?_ (fun e a w hq=>by cases e<;>first|exact hq|exact False.elim hq)
     refine wp_region_held_drew (S:=fun W=>(W.cell? ⟨w.heap.size+1,3,none⟩=some (.slice (some ⟨b,off,none⟩) e.args.length cap))/\(W.cell? ⟨w.heap.size,0,none⟩=some vw/\W.cell? ⟨w.heap.size,1,none⟩=some vd/\W.cell? ⟨w.heap.size,2,none⟩=some vi/\W.cell? ⟨w.heap.size,3,none⟩=some vo)/\(W.cell? ⟨b,off+k*6,none⟩=some (.int .i64 x.op)/\W.cell? ⟨b,off+k*6+1,none⟩=some (.string x.name)/\W.cell? ⟨b,off+k*6+2,none⟩=some (.int .i64 x.n)/\W.cell? ⟨b,off+k*6+3,none⟩=some (.slice A' x.args.length cap')/\W.cell? ⟨b,off+k*6+4,none⟩=some (.int .i64 x.line)/\W.cell? ⟨b,off+k*6+5,none⟩=some (.int .i64 x.col))) (by kernel_rfl) ?_ (fun hHeld=>?_)
     ·(try dsimp only);(first|(with_reducible exact HS.o _ bE))
     refine tk 0 (some 18) rfl ?_
     refine tk 1 (some 19) rfl ?_
     refine tk 2 (some 20) rfl ?_
     refine tk 3 (some 21) rfl ?_
     refine tk 4 (some 22) rfl ?_
     refine tk 5 (some 23) rfl ?_
     refine aH 6 (some 24) rfl (fun KK hKK=>?_)
     go_simp
     go_at_call 46;refine Calls.mono (HC.o _ bE) ?_;rintro r w6 ⟨rfl,hb6⟩;(have hb7:Below wr.heap.size wr w6:=Below.trans bE (hb6.mono lE))
     (try go_wp2_with fail)
     refine hKK.out _ _ ?_ (fun hHeld=>?_)
     ·(try dsimp only);(first|(with_reducible exact HS.o _ bE))
     clear hKK KK
     try simp only[Act.put,List.setIfInBounds_toArray,List.set_cons_zero,List.set_cons_succ]
     refine tk 7 (some 7) rfl ?_
     refine wpAnyH_done (by kernel_rfl) ?_ _
     go_wp2_with fail
     go_meet
     exact ⟨rfl,bE⟩
    case rest=>
     obtain ⟨rfl,hbc⟩:=hcut
     have HB6:=zH (HBR.o.trans (hbc.mono hszr))
     have HO6:=zH (aG HO.o hbc)
     have HBW:=zH (b1.trans (HB6.o.mono hs1))
     have hs6:=HB6.o.size
     obtain ⟨w6,rfl⟩:∃w6:World,w6=wc:=⟨_,rfl⟩
     clear HC HS HO hbc e0 e1 e2 e3 e4 e5
     obtain ⟨e0,e1,e2,e3,e4,e5⟩:=HX.o _ HB6.o
     by_cases h0:am f x=0
     ·have HF:=zH (HKZ.o h0)
      have h0':(am f x==0)=true:=by simp[h0]
      generalize am f x=T at*
      clear h0
      go_wp2_with fail
      go_ret
      exact ⟨az HF.o.symm,HBW.o⟩
     have h0':(am f x==0)=false:=by simp[h0]
     have HNZ':Hid (∀z∈cT f e (k+1),z≠0):=by
      show ∀z∈cT f e (k+1),z≠0
      rw[HTS.o]
      intro z hz
      rcases List.mem_append.1 hz with hz|hz
      ·exact HNZ.o z hz
      ·rw[List.mem_singleton.1 hz];exact h0
     have HTK:Hid (al (cT f e (k+1))=al (cT f e k)++ [.int .i64 (am f x)]):=by
      show _=_
      rw[HTS.o,bS]
     generalize am f x=T at*
     generalize al (cT f e k)=LL at*
     have ha:Below w6.heap.size w6 (w6.alloc (.cells #[.int .i64 T] 3)):=bE
     have HOA:=zH (aG HO6.o ha)
     have HN14:Hid (∀j u,[Value.int .i64 T][j]? =some u->(w6.alloc (.cells #[.int .i64 T] 3)).cell? ((⟨w6.heap.size,0,none⟩:Addr).add j)=some u):=fe w6 3 (.int .i64 T)
     clear h0 HKZ HTS
     go_wp2_with (at_builtin;refine wpList_append_own _ rfl _ _ 26 rfl w1.heap.size 3 i0 (.int .i64 0) 1 8 Tryz.underlying26 hi0 hz0 hz1 hz2 rfl (by decide) _ _ _ rfl HOA.o ⟨w6.heap.size,0,none⟩ 1 1 [.int .i64 T] rfl ?c0 ?c1 ?c2 ?c3 ?c4 ?c5 ?_)
     case c0=>rfl
     case c1=>exact HN14.o
     case c2=>intro u hu;simp at hu;subst hu;rfl
     case c3=>unfold maxLen;omega
     case c4=>omega
     case c5=>simp;omega
     intro v15 w15 hown15 hg15 _
     have HB15:Hid (Below w1.heap.size w1 w15):=aY (HB6.o.trans (ha.mono hs6)) HOA.o hg15 (by have:=(HB6.o.trans (ha.mono hs6)).size;omega)
     have HO15:Hid (w15.ownsRow w1.heap.size 3 1 v15 (k+1) (al (cT f e (k+1)))):=by
      show w15.ownsRow _ _ _ _ _ _
      rw[HTK.o];exact hown15
     clear hown15 hg15 HOA HN14 ha HO6
     go_wp2_with fail
     go_roundw
     case rel=>exact ⟨k+1,by omega,by go_num,HO15.o,HNZ'.o,HB15.o⟩
     case measure=>simp[intOf];omega
   obtain rfl:k=e.args.length:=by omega
   have HKS:Hid (cT f e e.args.length=e.args.map (am f)):=nK
   have HAL:Hid (∀z∈e.args.map (am f),0<=z/\z<=2):=fun z hz=>by
    obtain ⟨x,hx,rfl⟩:=List.mem_map.1 hz
    exact qJ HWO.o x ((bq.1 HP.o).2 x hx)
   have hO5:=HO.o
   rw[HKS.o] at hO5
   have hSL:=yw hO5 (fun z hz=>aT (by have:=HAL.o z hz;omega))
   obtain ⟨A5,cp5,hv5,l5,m5,sl5⟩:=hSL
   subst hv5
   have m5':cp5<=9223372036854775807:=by unfold maxLen at m5;omega
   have HSL:=zH sl5
   clear sl5 hO5 m5
   have HNN:Hid (0∉e.args.map (am f)):=fun g=>by rw[<-HKS.o] at g;exact HNZ.o 0 g rfl
   have HLN:Hid ((e.args.map (am f)).length=e.args.length):=List.length_map ..
   have HKE:Hid (am f e=ko f e (e.args.map (am f))):=by
    show _=_
    rw[AO HP1.o HLN.o]
    exact dW f e
   have HLS:=zH (sT HP1.o)
   clear HKS HNZ HO HI HXS hlt hk HAL
   generalize e.args.map (am f)=ks at*
   obtain ⟨f0,f1,f2,f3⟩:=HF4.o _ HBR.o
   have HNM:=zH (jI e.op)
   have HBW:=zH hb
   by_cases h2:e.op<=2
   ·have HF:Hid (am f e=e.op):=by show _=_;rw[HKE.o,ko,if_neg HNN.o,if_pos h2]
    have q:decide (e.op<=2)=true:=decide_eq_true h2
    clear h2
    go_wp2_with fail
    go_ret
    exact ⟨az HF.o.symm,HBW.o⟩
   have q2:decide (e.op<=2)=false:=decide_eq_false h2
   have H2:=zH h2
   clear h2
   by_cases h3:e.op=3
   ·have HF:Hid (am f e=ag f.fm e.n):=by show _=_;rw[HKE.o,ko,if_neg HNN.o,if_neg H2.o,if_pos h3]
    have h3':(e.op==3)=true:=by simp[h3]
    obtain ⟨m,b6,off6,cw,Ag,cg,hem,hm,hvw,hcw1,hcw2,hb6,y0,y1,_,_,_⟩:=dT (HFL.o _ hb) (cC HP1.o (by rw[h3];rfl))
    subst hvw
    have hm':(m:Int)<f.wires.length:=by omega
    rw[hem] at e2
    generalize ag f.fm e.n=T at*
    clear h3 y1 hem
    go_wp2_with fail
    go_ret
    exact ⟨az HF.o.symm,HBW.o⟩
   have q3:(e.op==3)=false:=by simp[h3]
   have H3:=zH h3
   clear h3
   by_cases hsg:5<=e.op/\e.op<=20
   ·have HSG:=zH (fun W=>pd e.op W hsg)
    have HF0:Hid (am f e=if (Ar.signIn e.op≠0/\ao ks 0≠Ar.signIn e.op)\/(ks.length=2/\ao ks 0≠ao ks 1) then 0 else Ar.signOut e.op):=by
     show _=_
     rw[HKE.o,ko,if_neg HNN.o,if_neg H2.o,if_neg H3.o,if_pos (by unfold Ar.signB;simp;omega)]
    generalize Ar.signIn e.op=IN at*
    generalize Ar.signOut e.op=OUT at*
    have hL:ks.length=1\/ks.length=2:=by have:=HLS.o;have:=HLN.o;omega
    rcases ks with _|⟨a,_|⟨a1,_|⟨a2,l⟩⟩⟩
    ·simp at hL
    ·obtain ⟨b5,off5,rfl,hb5,g0⟩:=xB HSL.o
     have HF1:Hid (am f e=if IN≠0/\a≠IN then 0 else OUT):=by show _=_;rw[HF0.o];simp[iK]
     simp only[List.length_cons,List.length_nil,Nat.zero_add] at*
     clear HSL HKE HNN HLN hL HF0 l5
     by_cases z0:IN=0
     ·have z0':(IN !=0)=false:=by simp[z0]
      have HF:Hid (am f e=OUT):=by show _=_;rw[HF1.o,if_neg (fun g=>g.1 z0)]
      clear z0
      go_wp2_with fail
      (with_reducible refine (HSG.o _).mono ?_)
      rintro r w5 ⟨rfl,hb7⟩
      have g0:=cell_kept g0 hb7
      have HB7:=zH (HBW.o.trans (hb7.mono HBW.o.size))
      clear hb7
      go_wp2_with fail
      go_quiet (fail)
      go_wp2_with fail
      go_ret
      exact ⟨az HF.o.symm,ap HB7.o _⟩
     have z0':(IN !=0)=true:=by simp[z0]
     by_cases z1:a=IN
     ·have z1':(a !=IN)=false:=by simp[z1]
      have HF:Hid (am f e=OUT):=by show _=_;rw[HF1.o,if_neg (fun g=>g.2 z1)]
      clear z0 z1
      go_wp2_with fail
      (with_reducible refine (HSG.o _).mono ?_)
      rintro r w5 ⟨rfl,hb7⟩
      have g0:=cell_kept g0 hb7
      have HB7:=zH (HBW.o.trans (hb7.mono HBW.o.size))
      clear hb7
      go_wp2_with fail
      go_quiet (fail)
      go_wp2_with fail
      go_ret
      exact ⟨az HF.o.symm,ap HB7.o _⟩
     ·have z1':(a !=IN)=true:=by simp[z1]
      have HF:Hid (am f e=0):=by show _=_;rw[HF1.o,if_pos ⟨z0,z1⟩]
      clear z0 z1
      go_wp2_with fail
      (with_reducible refine (HSG.o _).mono ?_)
      rintro r w5 ⟨rfl,hb7⟩
      have g0:=cell_kept g0 hb7
      have HB7:=zH (HBW.o.trans (hb7.mono HBW.o.size))
      clear hb7
      go_wp2_with fail
      go_quiet (fail)
      go_wp2_with fail
      go_ret
      exact ⟨az HF.o.symm,ap HB7.o _⟩
    ·obtain ⟨b5,off5,rfl,hb5,g0,g1⟩:=vF HSL.o
     have HF1:Hid (am f e=if (IN≠0/\a≠IN)\/a≠a1 then 0 else OUT):=by show _=_;rw[HF0.o];simp[iK,kN]
     simp only[List.length_cons,List.length_nil,Nat.zero_add,Nat.reduceAdd] at*
     clear HSL HKE HNN HLN hL HF0 l5
     by_cases zz:IN≠0/\a≠IN
     ·have z0':(IN !=0)=true:=by simp[zz.1]
      have z1':(a !=IN)=true:=by simp[zz.2]
      have HF:Hid (am f e=0):=by show _=_;rw[HF1.o,if_pos (.inl zz)]
      clear zz
      go_wp2_with fail
      (with_reducible refine (HSG.o _).mono ?_)
      rintro r w5 ⟨rfl,hb7⟩
      have g0:=cell_kept g0 hb7
      have g1:=cell_kept g1 hb7
      have HB7:=zH (HBW.o.trans (hb7.mono HBW.o.size))
      clear hb7
      go_wp2_with fail
      go_quiet (fail)
      go_wp2_with fail
      go_ret
      exact ⟨az HF.o.symm,ap HB7.o _⟩
     have HZZ:=zH zz
     by_cases z0:IN=0
     ·have z0':(IN !=0)=false:=by simp[z0]
      by_cases z2:a=a1
      ·have z2':(a !=a1)=false:=by simp[z2]
       have HF:Hid (am f e=OUT):=by show _=_;rw[HF1.o,if_neg (fun g=>g.elim HZZ.o (fun c=>c z2))]
       clear z0 z2 zz
       go_wp2_with fail
       (with_reducible refine (HSG.o _).mono ?_)
       rintro r w5 ⟨rfl,hb7⟩
       have g0:=cell_kept g0 hb7
       have g1:=cell_kept g1 hb7
       have HB7:=zH (HBW.o.trans (hb7.mono HBW.o.size))
       clear hb7
       go_wp2_with fail
       go_quiet (fail)
       go_wp2_with fail
       go_ret
       exact ⟨az HF.o.symm,ap HB7.o _⟩
      ·have z2':(a !=a1)=true:=by simp[z2]
       have HF:Hid (am f e=0):=by show _=_;rw[HF1.o,if_pos (.inr z2)]
       clear z0 z2 zz
       go_wp2_with fail
       (with_reducible refine (HSG.o _).mono ?_)
       rintro r w5 ⟨rfl,hb7⟩
       have g0:=cell_kept g0 hb7
       have g1:=cell_kept g1 hb7
       have HB7:=zH (HBW.o.trans (hb7.mono HBW.o.size))
       clear hb7
       go_wp2_with fail
       go_quiet (fail)
       go_wp2_with fail
       go_ret
       exact ⟨az HF.o.symm,ap HB7.o _⟩
     ·have z0':(IN !=0)=true:=by simp[z0]
      have z1:a=IN:=by by_cases c:a=IN;exact c;exact absurd ⟨z0,c⟩ zz
      have z1':(a !=IN)=false:=by simp[z1]
      by_cases z2:a=a1
      ·have z2':(a !=a1)=false:=by simp[z2]
       have HF:Hid (am f e=OUT):=by show _=_;rw[HF1.o,if_neg (fun g=>g.elim HZZ.o (fun c=>c z2))]
       clear z0 z1 z2 zz
       go_wp2_with fail
       (with_reducible refine (HSG.o _).mono ?_)
       rintro r w5 ⟨rfl,hb7⟩
       have g0:=cell_kept g0 hb7
       have g1:=cell_kept g1 hb7
       have HB7:=zH (HBW.o.trans (hb7.mono HBW.o.size))
       clear hb7
       go_wp2_with fail
       go_quiet (fail)
       go_wp2_with fail
       go_ret
       exact ⟨az HF.o.symm,ap HB7.o _⟩
      ·have z2':(a !=a1)=true:=by simp[z2]
       have HF:Hid (am f e=0):=by show _=_;rw[HF1.o,if_pos (.inr z2)]
       clear z0 z1 z2 zz
       go_wp2_with fail
       (with_reducible refine (HSG.o _).mono ?_)
       rintro r w5 ⟨rfl,hb7⟩
       have g0:=cell_kept g0 hb7
       have g1:=cell_kept g1 hb7
       have HB7:=zH (HBW.o.trans (hb7.mono HBW.o.size))
       clear hb7
       go_wp2_with fail
       go_quiet (fail)
       go_wp2_with fail
       go_ret
       exact ⟨az HF.o.symm,ap HB7.o _⟩
    ·simp at hL
   have HSN:=zH (fun W=>ze e.op W (by omega))
   have hr:21<=e.op/\e.op<=27:=by have:=HLS.o;have:=H2.o;have:=H3.o;omega
   have HF0:Hid (am f e=if (aJ e.op && (ag f.fm e.n !=2))=true then 0 else if e.op=27/\ao ks 0≠2 then 0 else if 1<ks.length/\ao ks ((ks.length-1:Nat):Int)≠ao ks ((ks.length-2:Nat):Int) then 0 else ao ks ((ks.length-1:Nat):Int)):=by
    show _=_
    rw[HKE.o,ko,if_neg HNN.o,if_neg H2.o,if_neg H3.o,if_neg (by unfold Ar.signB;simp;omega)]
    simp only[Bool.and_eq_true,bne_iff_ne]
   have HRR:=zH hr
   clear hsg hr HKE HNN H2 H3
   go_wp2_with fail
   (with_reducible refine (HSN.o _).mono ?_)
   rintro r w5 ⟨rfl,hb7⟩
   have HB7:=zH (HBW.o.trans (hb7.mono HBW.o.size))
   have HSL7:=zH (HSL.o.below hb7)
   clear e0 e1 e2 e3 e4 e5 f0 f1 f2 f3
   obtain ⟨e0,e1,e2,e3,e4,e5⟩:=HX.o _ (HBR.o.trans (hb7.mono hszr))
   obtain ⟨f0,f1,f2,f3⟩:=HF4.o _ (HBR.o.trans (hb7.mono hszr))
   clear hb7 HSL
   go_upto_region 18 with (fail)
   go_cut[90] (fun v W=>v= .bool (aJ e.op && (ag f.fm e.n !=2))/\w5=W)
   case first=>
    by_cases hnb:aJ e.op=true
    rotate_left 1
    ·have hnb':aJ e.op=false:=by simpa using hnb
     rw[hnb'] at HNM
     have HV:Hid ((aJ e.op && (ag f.fm e.n !=2))=false):=by show _=_;rw[hnb'];rfl
     clear hnb hnb'
     go_wp2_with fail
     (with_reducible refine (HNM.o _).mono ?_)
     rintro r w8 ⟨rfl,rfl⟩
     go_wp2_with fail
     go_meet
     exact ⟨by rw[HV.o],rfl⟩
    obtain ⟨m,b6,off6,cw,Ag,cg,hem,hm,hvw,hcw1,hcw2,hb6,y0,y1,_,_,_⟩:=dT (HFL.o _ HB7.o) (cC HP1.o hnb)
    subst hvw
    have hm':(m:Int)<f.wires.length:=by omega
    rw[hem] at e2
    rw[hnb] at HNM
    have HV:Hid ((aJ e.op && (ag f.fm e.n !=2))=(ag f.fm e.n !=2)):=by show _=_;rw[hnb];rfl
    generalize (aJ e.op && (ag f.fm e.n !=2))=BV at*
    generalize ag f.fm e.n=T at*
    clear y1 hem hnb
    go_wp2_with fail
    (with_reducible refine (HNM.o _).mono ?_)
    rintro r w8 ⟨rfl,rfl⟩
    go_wp2_with fail
    go_meet
    exact ⟨by rw[HV.o],rfl⟩
   case rest=>
    obtain ⟨rfl,rfl⟩:=hcut
    generalize (aJ e.op && (ag f.fm e.n !=2))=BQ at*
    cases BQ
    rotate_left 1
    ·have HF:Hid (am f e=0):=by show _=_;rw[HF0.o,if_pos rfl]
     go_wp2_with fail
     go_ret
     exact ⟨az HF.o.symm,HB7.o⟩
    have HF2:Hid (am f e=if e.op=27/\ao ks 0≠2 then 0 else if 1<ks.length/\ao ks ((ks.length-1:Nat):Int)≠ao ks ((ks.length-2:Nat):Int) then 0 else ao ks ((ks.length-1:Nat):Int)):=by show _=_;rw[HF0.o,if_neg (by simp)]
    have hL:(ks.length=1/\e.op≠27)\/(ks.length=2/\e.op≠27)\/(ks.length=3/\e.op=27):=by have:=HLS.o;have:=HLN.o;have:=HRR.o;omega
    have HLL:=zH hL
    clear HF0 hL HRR HLS HLN
    rcases ks with _|⟨a,_|⟨a1,_|⟨a2,_|⟨a3,l⟩⟩⟩⟩
    ·have:=HLL.o
     simp at this
    ·obtain ⟨b5,off5,rfl,hb5,g0⟩:=xB HSL7.o
     have h27:e.op≠27:=by have:=HLL.o;simp at this;exact this
     have h27':(e.op==27)=false:=by simp[h27]
     have HF:Hid (am f e=a):=by show _=_;rw[HF2.o,if_neg (fun g=>h27 g.1)];simp[iK]
     simp only[List.length_cons,List.length_nil,Nat.zero_add] at*
     clear HSL7 HF2 HLL l5 h27
     go_wp2_with fail
     (try (go_quiet (fail)))
     (try go_wp2_with fail)
     go_ret
     exact ⟨az HF.o.symm,by first|exact HB7.o|exact ap HB7.o _⟩
    ·obtain ⟨b5,off5,rfl,hb5,g0,g1⟩:=vF HSL7.o
     have h27:e.op≠27:=by have:=HLL.o;simp at this;exact this
     have h27':(e.op==27)=false:=by simp[h27]
     have HF1:Hid (am f e=if a1≠a then 0 else a1):=by show _=_;rw[HF2.o,if_neg (fun g=>h27 g.1)];simp[iK,kN]
     simp only[List.length_cons,List.length_nil,Nat.zero_add,Nat.reduceAdd] at*
     clear HSL7 HF2 HLL l5 h27
     by_cases z:a1=a
     ·have z':(a1 !=a)=false:=by simp[z]
      have HF:Hid (am f e=a1):=by show _=_;rw[HF1.o,if_neg (fun g=>g z)]
      clear z
      go_wp2_with fail
      (try (go_quiet (fail)))
      (try go_wp2_with fail)
      go_ret
      exact ⟨az HF.o.symm,by first|exact HB7.o|exact ap HB7.o _⟩
     ·have z':(a1 !=a)=true:=by simp[z]
      have HF:Hid (am f e=0):=by show _=_;rw[HF1.o,if_pos z]
      clear z
      go_wp2_with fail
      (try (go_quiet (fail)))
      (try go_wp2_with fail)
      go_ret
      exact ⟨az HF.o.symm,by first|exact HB7.o|exact ap HB7.o _⟩
    ·obtain ⟨b5,off5,rfl,hb5,g0,g1,g2⟩:=Aj HSL7.o
     have h27:e.op=27:=by have:=HLL.o;simp at this;exact this
     have h27':(e.op==27)=true:=by simp[h27]
     have HF1:Hid (am f e=if a≠2 then 0 else if a2≠a1 then 0 else a2):=by show _=_;rw[HF2.o];simp[h27,iK,kN,xm]
     simp only[List.length_cons,List.length_nil,Nat.zero_add,Nat.reduceAdd] at*
     clear HSL7 HF2 HLL l5 h27
     by_cases z2:a=2
     rotate_left 1
     ·have z2':(a !=2)=true:=by simp[z2]
      have HF:Hid (am f e=0):=by show _=_;rw[HF1.o,if_pos z2]
      clear z2
      go_wp2_with fail
      (try (go_quiet (fail)))
      (try go_wp2_with fail)
      go_ret
      exact ⟨az HF.o.symm,by first|exact HB7.o|exact ap HB7.o _⟩
     have z2':(a !=2)=false:=by simp[z2]
     by_cases z:a2=a1
     ·have z':(a2 !=a1)=false:=by simp[z]
      have HF:Hid (am f e=a2):=by show _=_;rw[HF1.o,if_neg (fun g=>g z2),if_neg (fun g=>g z)]
      clear z z2
      go_wp2_with fail
      (try (go_quiet (fail)))
      (try go_wp2_with fail)
      go_ret
      exact ⟨az HF.o.symm,by first|exact HB7.o|exact ap HB7.o _⟩
     ·have z':(a2 !=a1)=true:=by simp[z]
      have HF:Hid (am f e=0):=by show _=_;rw[HF1.o,if_neg (fun g=>g z2),if_pos z]
      clear z z2
      go_wp2_with fail
      (try (go_quiet (fail)))
      (try go_wp2_with fail)
      go_ret
      exact ⟨az HF.o.symm,by first|exact HB7.o|exact ap HB7.o _⟩
    ·have:=HLL.o
     simp at this
theorem vg {f:Fl} {vw vd vi vo:Value} (e:Ex):∀(A:Option Addr) (cap:Nat) (clock:List Gd) (A2:Option Addr) (c2:Nat) (w:World),cS w w.heap.size f vw vd vi vo->cW e->e.args.length<=cap->cap<=maxLen->aM w w.heap.size A e.args->aO f e->
  clock.length+ax e<=1600->clock.length<=c2->c2<=maxLen->Sl w w.heap.size 2 aW A2 clock->
  Calls Tryz.prog 47 #[eZ vw vd vi vo,bz e A cap,.slice A2 clock.length c2] w (gr f e clock w):=by
 induction e using Ex.ind with
 |h e ih=>
  intro A cap clock A2 c2 w h hok hcap hmax hx hp hsz hc2 hm2 hcl
  obtain ⟨hp1,hp2⟩:=bq.1 hp
  have HP1:=zH hp1
  have HI:Hid (∀x∈e.args,∀(A:Option Addr) (cap:Nat) (clock:List Gd) (A2:Option Addr) (c2:Nat) (W:World),cS W W.heap.size f vw vd vi vo->cW x->x.args.length<=cap->cap<=maxLen->aM W W.heap.size A x.args->clock.length+ax x<=1600->clock.length<=c2->c2<=maxLen->Sl W W.heap.size 2 aW A2 clock->Calls Tryz.prog 47 #[eZ vw vd vi vo,bz x A cap,.slice A2 clock.length c2] W (gr f x clock W)):=fun x hx A cap clock A2 c2 W h1 h2 h3 h4 h5 h6 h7 h8 h9=>ih x hx A cap clock A2 c2 W h1 h2 h3 h4 h5 (hp2 x hx) h6 h7 h8 h9
  have hlen:e.args.length<=3:=by
   have:=bU hp1
   unfold aX at this
   repeat' split at this
   all_goals omega
  have HSZ:=zH hsz
  have hcl5:clock.length<=1600:=by omega
  have HW:Hid (aJ e.op=true->ak f.fm e.n):=fun hn=>cC hp1 hn
  have HPT:=zH (bU hp1)
  have hokn:=hok.n
  have b1:Below w.heap.size w ((w.alloc (.cells #[vw,vd,vi,vo] 33)).alloc (.cells (bi e A cap) 75)):=bE
  have rF:=(ai.new w #[vw,vd,vi,vo] 33).alloc (.cells (bi e A cap) 75)
  have rX:=dw w (.cells #[vw,vd,vi,vo] 33) (bi e A cap) 75
  have HFL:=zH (fun W (hW:Below w.heap.size w W)=>h.next hW)
  have HXS:=zH (fun W (hW:Below w.heap.size w W)=>(hx.below hW).more hW.size)
  have HCL:=zH (fun W (hW:Below w.heap.size w W)=>(hcl.below hW).more hW.size)
  have HM2:=zH hm2
  have hm2':c2<=9223372036854775807:=by unfold maxLen at hm2;omega
  unfold maxLen at hmax
  clear ih h hx hp hp1 hp2 hcl hm2 hsz hok
  go_enter Tryz.func47,Tryz.ntmps47
  go_upto_region 1 with (fail)
  generalize (w.alloc (.cells #[vw,vd,vi,vo] 33)).alloc (.cells (bi e A cap) 75)=w1 at*
  have hXl:=rX.lt
  have hFl:=rF.lt
  have hs1:=b1.size
  have HX:Hid (∀W,Below w1.heap.size w1 W->W.cell? ⟨w.heap.size+1,0,none⟩=some (.int .i64 e.op)/\W.cell? ⟨w.heap.size+1,1,none⟩=some (.string e.name)/\W.cell? ⟨w.heap.size+1,2,none⟩=some (.int .i64 e.n)/\W.cell? ⟨w.heap.size+1,3,none⟩=some (.slice A e.args.length cap)/\W.cell? ⟨w.heap.size+1,4,none⟩=some (.int .i64 e.line)/\W.cell? ⟨w.heap.size+1,5,none⟩=some (.int .i64 e.col)):=fun W hW=>(rX.below hW hXl).six'
  have HF4:Hid (∀W,Below w1.heap.size w1 W->W.cell? ⟨w.heap.size,0,none⟩=some vw/\W.cell? ⟨w.heap.size,1,none⟩=some vd/\W.cell? ⟨w.heap.size,2,none⟩=some vi/\W.cell? ⟨w.heap.size,3,none⟩=some vo):=fun W hW=>(rF.below hW hFl).four'
  have HB1:=zH b1
  clear rX rF b1
  obtain ⟨e0,e1,e2,e3,e4,e5⟩:=HX.o _ (Below.refl _ _)
  obtain ⟨f0,f1,f2,f3⟩:=HF4.o _ (Below.refl _ _)
  go_cut[29] (fun v W=>v= .bool (!cB (e.op=3\/e.op=26->aa f.fm e.n=clock))/\Below w1.heap.size w1 W)
  case first=>
   by_cases hnm:e.op=3\/e.op=26
   ·obtain ⟨m,b,off,cw,Ag,cg,hem,hm,hvw,lw,mw,hbB,d0,d1,lg,mg,sg⟩:=dT (HFL.o _ HB1.o) (HW.o (by rcases hnm with g|g<;>rw[g]<;>rfl))
    subst hvw
    have HEQ:Hid (Calls Tryz.prog 31 #[.slice Ag (aa f.fm e.n).length cg,.slice A2 clock.length c2] w1 fun r w'=>r= .returned (.bool (cB (e.op=3\/e.op=26->aa f.fm e.n=clock)))/\∃n,w'=w1.drewN n):=by
     have q:=da (aa f.fm e.n) clock _ _ w1.heap.size w1 ⟨_,_,rfl,lg,by unfold maxLen;omega,sg⟩ ⟨_,_,rfl,hc2,HM2.o,HCL.o _ HB1.o⟩
     rwa [bu (show aa f.fm e.n=clock↔(e.op=3\/e.op=26->aa f.fm e.n=clock) from ⟨fun g _=>g,fun g=>g hnm⟩)] at q
    have hm':(m:Int)<f.wires.length:=by omega
    rw[hem] at e2
    have hop:((e.op==3)=true)\/((e.op==3)=false/\(e.op==26)=true):=by
     rcases hnm with g|g
     ·exact .inl (by rw[g];rfl)
     ·exact .inr ⟨by rw[g];rfl,by rw[g];rfl⟩
    generalize cB (e.op=3\/e.op=26->aa f.fm e.n=clock)=BV at*
    generalize aa f.fm e.n=cl at*
    clear hnm sg hem
    rcases hop with o3|⟨o3,o26⟩
    all_goals
     go_wp2_with fail
     (with_reducible refine HEQ.o.mono ?_)
     rintro r w5 ⟨rfl,n5,rfl⟩
     go_wp2_with fail
     go_meet
     exact ⟨rfl,bE⟩
   ·have HV:Hid ((!cB (e.op=3\/e.op=26->aa f.fm e.n=clock))=false):=by show _=_;rw[aq (fun g=>absurd g hnm)];rfl
    have o3:(e.op==3)=false:=by rw[beq_eq_false_iff_ne];omega
    have o26:(e.op==26)=false:=by rw[beq_eq_false_iff_ne];omega
    clear hnm
    go_wp2_with fail
    go_meet
    exact ⟨by rw[HV.o],bE⟩
  case rest=>
   obtain ⟨rfl,hbc⟩:=hcut
   have HBC:=zH hbc
   have HBW:=zH (HB1.o.trans (hbc.mono hs1))
   have hsc:=hbc.size
   clear e0 e1 e2 e3 e4 e5 f0 f1 f2 f3
   obtain ⟨e0,e1,e2,e3,e4,e5⟩:=HX.o _ hbc
   obtain ⟨f0,f1,f2,f3⟩:=HF4.o _ hbc
   by_cases hq:(e.op=3\/e.op=26->aa f.fm e.n=clock)
   rotate_left 1
   ·have HF:Hid (cB (aE f e clock)=false):=ab (fun g=>hq (fun h3=>by
     by_cases o3:e.op=3
     ·exact (jc o3).1 g
     ·exact ((bL o3).1 g).2.1 (by omega)))
    rw[ab hq]
    clear hq hbc
    go_wp2_with fail
    go_ret
    exact ⟨aj HF.o.symm,HBW.o⟩
   rw[aq hq]
   have HQ:=zH hq
   clear hq hbc
   by_cases o24:e.op=24\/e.op=25
   ·have ha1:e.args.length=1:=by
     have:=HPT.o
     rcases o24 with g|g<;>rw[g] at this<;>simp[aX] at this<;>omega
    have HOK1:Hid (clock.getLast? =some ⟨e.n,e.op==25⟩->∀x,e.args[0]? =some x->(aE f e clock↔aE f x clock.dropLast)):=fun g x hx=>by
     rw[bL (f:=f) (c:=clock) (by omega)]
     have hpc:∀i,aA e clock i=clock.dropLast:=fun i=>by unfold aA;rw[if_pos o24]
     constructor
     ·intro h;have:=h.2.2 0 x hx;rwa [hpc] at this
     ·intro h
      refine ⟨fun _=>g,fun h26=>absurd h26 (by omega),fun i y hy=>?_⟩
      have h0:i=0:=by have:=(List.getElem?_eq_some_iff.1 hy).1;omega
      subst h0
      rw[hx] at hy
      injection hy with hy
      rw[hpc,<-hy];exact h
    have HNO:Hid (clock.getLast?≠some ⟨e.n,e.op==25⟩->cB (aE f e clock)=false):=fun g=>ab (fun q=>g (((bL (f:=f) (c:=clock) (by omega)).1 q).1 o24))
    have hop:((e.op==24)=true/\(e.op==25)=false)\/((e.op==24)=false/\(e.op==25)=true):=by
     rcases o24 with g|g
     ·exact .inl ⟨by rw[g];rfl,by rw[g];rfl⟩
     ·exact .inr ⟨by rw[g];rfl,by rw[g];rfl⟩
    have HA1:=zH ha1
    have i1:(0:Int)<(e.args.length:Int):=by omega
    have i3:0<e.args.length:=by omega
    clear o24 ha1
    rcases hop with ⟨o24',o25'⟩|⟨o24',o25'⟩
    all_goals
     rw[o25'] at HOK1 HNO
     by_cases h0:clock.length=0
     ·obtain rfl:clock=[]:=List.eq_nil_of_length_eq_zero h0
      have HF:=zH (HNO.o (by simp))
      clear h0
      go_wp2_with fail
      go_quiet (fail)
      go_wp2_with fail
      go_ret
      exact ⟨aj HF.o.symm,ap HBW.o _⟩
     obtain ⟨m,hm⟩:∃m,clock.length=m+1:=⟨clock.length-1,by omega⟩
     obtain ⟨b2,o2,y,rfl,hb2,hy,ys,d0,d1⟩:=(HCL.o _ HBW.o).gd (show m<clock.length by omega)
     have HY:Hid (clock.getLast? =some y):=by show _=_;rw[List.getLast?_eq_getElem?,hm];exact hy
     have hm1:(clock.length:Int)-1=(m:Int):=by omega
     have hm3:m<=c2:=by omega
     have hm4:(m:Int)<=(c2:Int):=by omega
     have hm5:(m:Int)<(clock.length:Int):=by omega
     have hm6:(0:Int)<=(m:Int):=by omega
     have hm7:decide ((m:Int)<0)=false:=by simp
     have hm8:m<clock.length:=by omega
     have HM1:=zH hm
     clear hm hy h0
     obtain ⟨yn,yb⟩:=y
     dsimp only at d0 d1
     by_cases e1':yn=e.n
     rotate_left 1
     ·have e1'':(yn==e.n)=false:=by simp[e1']
      have HF:=zH (HNO.o (by rw[HY.o];intro g;injection g with g;injection g with g;exact e1' g))
      clear e1'
      go_wp2_with fail
      go_quiet (fail)
      go_wp2_with fail
      go_ret
      exact ⟨aj HF.o.symm,ap HBW.o _⟩
     have e1'':(yn==e.n)=true:=by simp[e1']
     by_cases e2':yb=(e.op==25)
     rotate_left 1
     ·rw[o25'] at e2'
      have HF:=zH (HNO.o (by rw[HY.o];intro g;injection g with g;injection g with _ g;exact e2' g))
      cases yb
      all_goals first|exact absurd rfl e2'|skip
      clear e1' e2'
      go_wp2_with fail
      go_quiet (fail)
      go_wp2_with fail
      go_ret
      exact ⟨aj HF.o.symm,ap HBW.o _⟩
     obtain ⟨b,off,x,A',cap',rfl,hbb,hxk,hxm,hok',hcap',hmax',hx',a0,a1,a2,a3,a4,a5⟩:=(HXS.o _ HBW.o).at_ i3
     have HF:Hid (cB (aE f e clock)=cB (aE f x clock.dropLast)):=bu (HOK1.o (by rw[HY.o,e1',e2',o25']) x hxk)
     have HDL:Hid (clock.dropLast.length=m):=by show _=_;rw[List.length_dropLast,HM1.o];rfl
     have HXC:Hid (∀W,Below wc.heap.size wc W->Calls Tryz.prog 47 #[eZ vw vd vi vo,bz x A' cap',.slice (some ⟨b2,o2,none⟩) m c2] W (gr f x clock.dropLast W)):=fun W hW=>by
      have hW2:=HBW.o.trans (hW.mono HBW.o.size)
      have q:=HI.o x hxm A' cap' clock.dropLast (some ⟨b2,o2,none⟩) c2 W (HFL.o _ hW2) hok' hcap' hmax' ((hx'.below hW).more hW.size) (by
       have h1:=eX hxm
       have h3:=HSZ.o
       have h4:=HDL.o
       omega) (by rw[HDL.o];exact hm3) HM2.o (by rw[List.dropLast_eq_take];exact (HCL.o _ hW2).take _)
      rwa [HDL.o] at q
     generalize hgb:aE f x clock.dropLast=GB at*
     have HXD:Hid (∀W,Below wc.heap.size wc W->Calls Tryz.prog 47 #[eZ vw vd vi vo,bz x A' cap',.slice (some ⟨b2,o2,none⟩) m c2] W fun r w'=>r= .returned (.bool (cB GB))/\Below W.heap.size W w'):=fun W hW=>by have:=HXC.o W hW;unfold gr at this;rw[hgb] at this;exact this
     have HK:Hid (∀W,Below wc.heap.size wc W->(W.cell? ⟨w.heap.size,0,none⟩=some vw/\W.cell? ⟨w.heap.size,1,none⟩=some vd/\W.cell? ⟨w.heap.size,2,none⟩=some vi/\W.cell? ⟨w.heap.size,3,none⟩=some vo)/\(W.cell? ⟨w.heap.size+1,0,none⟩=some (.int .i64 e.op)/\W.cell? ⟨w.heap.size+1,2,none⟩=some (.int .i64 e.n)/\W.cell? ⟨w.heap.size+1,3,none⟩=some (.slice (some ⟨b,off,none⟩) e.args.length cap))/\(W.cell? ⟨b2,o2+m*2,none⟩=some (.int .i64 yn)/\W.cell? ⟨b2,o2+m*2+1,none⟩=some (.bool yb))/\(W.cell? ⟨b,off,none⟩=some (.int .i64 x.op)/\W.cell? ⟨b,off+1,none⟩=some (.string x.name)/\W.cell? ⟨b,off+2,none⟩=some (.int .i64 x.n)/\W.cell? ⟨b,off+3,none⟩=some (.slice A' x.args.length cap')/\W.cell? ⟨b,off+4,none⟩=some (.int .i64 x.line)/\W.cell? ⟨b,off+5,none⟩=some (.int .i64 x.col))):=fun W hW=>
      ⟨HF4.o W (HBC.o.trans (hW.mono hsc)),⟨(HX.o W (HBC.o.trans (hW.mono hsc))).1,(HX.o W (HBC.o.trans (hW.mono hsc))).2.2.1,(HX.o W (HBC.o.trans (hW.mono hsc))).2.2.2.1⟩,⟨cell_kept d0 hW,cell_kept d1 hW⟩,by simpa using cell_kept a0 hW,by simpa using cell_kept a1 hW,by simpa using cell_kept a2 hW,by simpa using cell_kept a3 hW,by simpa using cell_kept a4 hW,by simpa using cell_kept a5 hW⟩
     subst e2'
     clear hgb HXC HOK1 HNO hxk hxm hok' hcap' hmax' hx' a0 a1 a2 a3 a4 a5 d0 d1 e1' e0 e1 e2 e3 e4 e5 f0 f1 f2 f3
     obtain ⟨⟨f0,f1,f2,f3⟩,⟨e0,e2,e3⟩,⟨d0,d1⟩,a0,a1,a2,a3,a4,a5⟩:=HK.o _ (Below.refl _ _)
     go_upto_region 5 with (fail)
     refine wp_region_held_drew (S:=fun W=>(W.cell? ⟨w.heap.size,0,none⟩=some vw/\W.cell? ⟨w.heap.size,1,none⟩=some vd/\W.cell? ⟨w.heap.size,2,none⟩=some vi/\W.cell? ⟨w.heap.size,3,none⟩=some vo)/\(W.cell? ⟨w.heap.size+1,0,none⟩=some (.int .i64 e.op)/\W.cell? ⟨w.heap.size+1,2,none⟩=some (.int .i64 e.n)/\W.cell? ⟨w.heap.size+1,3,none⟩=some (.slice (some ⟨b,off,none⟩) e.args.length cap))/\(W.cell? ⟨b2,o2+m*2,none⟩=some (.int .i64 yn)/\W.cell? ⟨b2,o2+m*2+1,none⟩=some (.bool (e.op==25)))/\(W.cell? ⟨b,off,none⟩=some (.int .i64 x.op)/\W.cell? ⟨b,off+1,none⟩=some (.string x.name)/\W.cell? ⟨b,off+2,none⟩=some (.int .i64 x.n)/\W.cell? ⟨b,off+3,none⟩=some (.slice A' x.args.length cap')/\W.cell? ⟨b,off+4,none⟩=some (.int .i64 x.line)/\W.cell? ⟨b,off+5,none⟩=some (.int .i64 x.col))) (by kernel_rfl) ?_ (fun hHeld=>?_)
     ·(try dsimp only);(first|(with_reducible exact HK.o _ bE))
     refine tk 0 (some 41) rfl ?_
     refine tk 1 (some 42) rfl ?_
     refine tk 2 (some 43) rfl ?_
     refine tk 3 (some 44) rfl ?_
     refine tk 4 (some 45) rfl ?_
     refine tk 5 (some 46) rfl ?_
     refine tk 6 (some 47) rfl ?_
     refine tk 7 (some 48) rfl ?_
     refine tk 8 (some 49) rfl ?_
     refine tk 9 (some 50) rfl ?_
     refine tk 10 (some 51) rfl ?_
     refine tk 11 (some 52) rfl ?_
     refine tk 12 (some 53) rfl ?_
     refine tk 13 (some 54) rfl ?_
     refine tk 14 (some 55) rfl ?_
     refine tk 15 (some 56) rfl ?_
     refine tk 16 (some 57) rfl ?_
     refine tk 17 (some 58) rfl ?_
     refine tk 18 (some 59) rfl ?_
     refine tk 19 (some 60) rfl ?_
     refine tk 20 (some 61) rfl ?_
     refine tk 21 (some 62) rfl ?_
     refine tk 22 (some 63) rfl ?_
     refine tk 23 (some 64) rfl ?_
     refine tk 24 (some 65) rfl ?_
     refine tk 25 (some 66) rfl ?_
     refine tk 26 (some 67) rfl ?_
     refine tk 27 (some 68) rfl ?_
     refine tk 28 (some 69) rfl ?_
     refine tk 29 (some 70) rfl ?_
     refine tk 30 (some 71) rfl ?_
     refine tk 31 (some 72) rfl ?_
     refine aH 32 (some 73) rfl (fun KK hKK=>?_)
     go_simp
     go_at_call 47;refine Calls.mono (HXD.o _ bE) ?_;rintro e w8 ⟨rfl,hb8⟩;(have hb9:Below wc.heap.size wc w8:=Below.trans bE (hb8.mono lE))
     (try go_wp2_with fail)
     refine hKK.out _ _ ?_ (fun hHeld=>?_)
     ·(try dsimp only);(first|(with_reducible exact HK.o _ bE))
     clear hKK KK
     try simp only[Act.put,List.setIfInBounds_toArray,List.set_cons_zero,List.set_cons_succ]
     refine tk 33 (some 74) rfl ?_
     refine tk 34 (some 6) rfl ?_
     refine wpAnyH_done (by kernel_rfl) ?_ _
     go_wp2_with fail
     go_ret
     exact ⟨aj HF.o.symm,HBW.o.trans ((bE:Below wc.heap.size wc _).mono HBW.o.size)⟩
   have o24':(e.op==24)=false:=by rw[beq_eq_false_iff_ne];omega
   have o25':(e.op==25)=false:=by rw[beq_eq_false_iff_ne];omega
   have HOK:Hid (aE f e clock↔∀(i:Nat) x,e.args[i]? =some x->aE f x (aA e clock i)):=by
    by_cases o3:e.op=3
    ·have ha0:e.args.length=0:=by
      have:=HPT.o
      rw[o3,show aX 3=0 from rfl] at this;omega
     exact (jc o3).trans ⟨fun _ i x hx=>absurd (List.getElem?_eq_some_iff.1 hx).1 (by omega),fun _=>HQ.o (.inl o3)⟩
    ·exact (bL o3).trans ⟨fun g=>g.2.2,fun g=>⟨fun h=>absurd h o24,fun h=>HQ.o (.inr h),g⟩⟩
   have HPC:Hid (∀i,(e.op≠26->aA e clock i=clock)/\(e.op=26->aA e clock i=clock++ [⟨e.n,i==1⟩])):=fun i=>by
    unfold aA;rw[if_neg o24]
    exact ⟨fun g=>if_neg g,fun g=>if_pos g⟩
   clear o24
   clear e1 e2 e4 e5 f0 f1 f2 f3
   go_wp2_with fail
   clear e0 e3
   go_loopw[8,9] (fun i c9 wr=>∃k:Nat,k<=e.args.length/\i= .int .i64 k/\Hid (∀i,i<k->∀x,e.args[i]? =some x->aE f x (aA e clock i))/\Hid (Below wc.heap.size wc wr)) (fun i _ _=>e.args.length-(intOf i).toNat)
   case atStart=>exact ⟨0,Nat.zero_le _,rfl,(fun i hi=>absurd hi (by omega)),Below.refl _ _⟩
   case round=>
    obtain ⟨k,hk,rfl,HG,HBR⟩:=hrel
    have hb:=HBW.o.trans (HBR.o.mono HBW.o.size)
    have hbs:=hb.size
    have hbr:=HBC.o.trans (HBR.o.mono hsc)
    have hrs:=HBR.o.size
    obtain ⟨e0,e1,e2,e3,e4,e5⟩:=HX.o _ hbr
    by_cases hlt:k<e.args.length
    ·obtain ⟨b,off,x,A',cap',rfl,hbb,hxk,hxm,hok',hcap',hmax',hx',d0,d1,d2,d3,d4,d5⟩:=(HXS.o _ hb).at_ hlt
     have hk':(k:Int)<e.args.length:=by omega
     have HGX:Hid ((aE f x (aA e clock k)->∀i,i<k+1->∀x,e.args[i]? =some x->aE f x (aA e clock i))/\(¬aE f x (aA e clock k)->cB (aE f e clock)=false)):=by
      refine ⟨fun g i hi y hy=>?_,fun g=>ab (fun q=>g (HOK.o.1 q k x hxk))⟩
      rcases Nat.lt_succ_iff_lt_or_eq.1 hi with hi|rfl
      ·exact HG.o i hi y hy
      ·rw[hxk] at hy
       injection hy with hy
       rw[<-hy]
       exact g
     have HXC:Hid (∀(W:World) Ac cc,Below wr.heap.size wr W->(aA e clock k).length<=cc->cc<=maxLen->Sl W W.heap.size 2 aW Ac (aA e clock k)->Calls Tryz.prog 47 #[eZ vw vd vi vo,bz x A' cap',.slice Ac (aA e clock k).length cc] W (gr f x (aA e clock k) W)):=fun W Ac cc hW p1 p2 p3=>by
      have hW2:=hb.trans (hW.mono hbs)
      refine HI.o x hxm A' cap' (aA e clock k) Ac cc W (HFL.o _ hW2) hok' hcap' hmax' ((hx'.below hW).more hW.size) ?_ p1 p2 p3
      have h1:=eX hxm
      have h2:=j' (e:=e) (c:=clock) k
      have h3:=HSZ.o
      omega
     have HK:Hid (∀W,Below wr.heap.size wr W->(W.cell? ⟨w.heap.size,0,none⟩=some vw/\W.cell? ⟨w.heap.size,1,none⟩=some vd/\W.cell? ⟨w.heap.size,2,none⟩=some vi/\W.cell? ⟨w.heap.size,3,none⟩=some vo)/\W.cell? ⟨w.heap.size+1,3,none⟩=some (.slice (some ⟨b,off,none⟩) e.args.length cap)/\(W.cell? ⟨b,off+k*6,none⟩=some (.int .i64 x.op)/\W.cell? ⟨b,off+k*6+1,none⟩=some (.string x.name)/\W.cell? ⟨b,off+k*6+2,none⟩=some (.int .i64 x.n)/\W.cell? ⟨b,off+k*6+3,none⟩=some (.slice A' x.args.length cap')/\W.cell? ⟨b,off+k*6+4,none⟩=some (.int .i64 x.line)/\W.cell? ⟨b,off+k*6+5,none⟩=some (.int .i64 x.col))):=fun W hW=>
      ⟨HF4.o W (hbr.trans (hW.mono hbr.size)),(HX.o W (hbr.trans (hW.mono hbr.size))).2.2.2.1,cell_kept d0 hW,cell_kept d1 hW,cell_kept d2 hW,cell_kept d3 hW,cell_kept d4 hW,cell_kept d5 hW⟩
     have HPK:=zH (HPC.o k)
     have HCR:=zH (HCL.o _ hb)
     have HBX:=zH HBR.o
     have HBY:=zH hb
     clear hxk hxm hok' hcap' hmax' hx' d0 d1 d2 d3 d4 d5 hb
     generalize aA e clock k=pc at*
     generalize hgb:aE f x pc=GB at*
     have HXD:Hid (∀(W:World) Ac cc,Below wr.heap.size wr W->pc.length<=cc->cc<=maxLen->Sl W W.heap.size 2 aW Ac pc->Calls Tryz.prog 47 #[eZ vw vd vi vo,bz x A' cap',.slice Ac pc.length cc] W fun r w'=>r= .returned (.bool (cB GB))/\Below W.heap.size W w'):=fun W Ac cc hW h1 h2 h3=>by have:=HXC.o W Ac cc hW h1 h2 h3;unfold gr at this;rw[hgb] at this;exact this
     clear hgb HXC
     by_cases o26:e.op=26
     case' pos=>
      have o26':(e.op==26)=true:=by simp[o26]
      have HWI:=zH (oN clock (.slice A2 clock.length c2) wr ⟨_,_,rfl,hc2,HM2.o,HCR.o⟩ hcl5 ⟨e.n,(k:Int)==1⟩ hokn)
      have HPE:Hid (clock++ [⟨e.n,(k:Int)==1⟩]=pc):=by
       show _=_
       rw[HPK.o.2 o26]
       congr 3
       rw[Bool.eq_iff_iff];simp;omega
      clear o26
      go_wp2_with fail
      (with_reducible refine HWI.o.mono ?_)
      rintro r w5 ⟨v5,rfl,hs5,hb5⟩
      have HXE:Hid (∀W,Below w5.heap.size w5 W->Calls Tryz.prog 47 #[eZ vw vd vi vo,bz x A' cap',v5] W fun r w'=>r= .returned (.bool (cB GB))/\Below W.heap.size W w'):=fun W hW=>by
       rw[HPE.o] at hs5
       obtain ⟨Ac,cc,rfl,p1,p2,p3⟩:=hs5
       exact HXD.o W Ac cc (hb5.trans (hW.mono hb5.size)) p1 p2 ((p3.below hW).more hW.size)
      have HKE:=zH (fun W (hW:Below w5.heap.size w5 W)=>HK.o W (hb5.trans (hW.mono hb5.size)))
      have HBU:=zH (HBX.o.trans (hb5.mono hrs))
      have HBV:=zH (HBY.o.trans (hb5.mono hbs))
      clear HXD HK hb5 hs5 HWI HBX HBY
      clear e0 e1 e2 e3 e4 e5
      go_upto_region 12 with (fail)
     case' neg=>
      have o26':(e.op==26)=false:=by simp[o26]
      have HXE:Hid (∀W,Below wr.heap.size wr W->Calls Tryz.prog 47 #[eZ vw vd vi vo,bz x A' cap',.slice A2 clock.length c2] W fun r w'=>r= .returned (.bool (cB GB))/\Below W.heap.size W w'):=fun W hW=>by
       have q:=HXD.o W A2 c2 hW
       rw[HPK.o.1 o26] at q
       exact q hc2 HM2.o ((HCR.o.below hW).more hW.size)
      have HKE:=zH HK.o
      have HBU:=zH HBX.o
      have HBV:=zH HBY.o
      clear HXD HK o26 HBX HBY
      go_upto_region 12 with (fail)
      clear e0 e1 e2 e3 e4 e5
      obtain ⟨w5,rfl⟩:∃w5:World,w5=wr:=⟨_,rfl⟩
     all_goals
      go_cut[100] (fun v W=>v= .bool (!cB GB)/\Below w5.heap.size w5 W)
      case first=>
       refine wp_region_held_drew (S:=fun W=>(W.cell? ⟨w.heap.size,0,none⟩=some vw/\W.cell? ⟨w.heap.size,1,none⟩=some vd/\W.cell? ⟨w.heap.size,2,none⟩=some vi/\W.cell? ⟨w.heap.size,3,none⟩=some vo)/\W.cell? ⟨w.heap.size+1,3,none⟩=some (.slice (some ⟨b,off,none⟩) e.args.length cap)/\(W.cell? ⟨b,off+k*6,none⟩=some (.int .i64 x.op)/\W.cell? ⟨b,off+k*6+1,none⟩=some (.string x.name)/\W.cell? ⟨b,off+k*6+2,none⟩=some (.int .i64 x.n)/\W.cell? ⟨b,off+k*6+3,none⟩=some (.slice A' x.args.length cap')/\W.cell? ⟨b,off+k*6+4,none⟩=some (.int .i64 x.line)/\W.cell? ⟨b,off+k*6+5,none⟩=some (.int .i64 x.col))) (by kernel_rfl) ?_ (fun hHeld=>?_)
       ·(try dsimp only);(first|(with_reducible exact HKE.o _ bE))
       refine tk 0 (some 92) rfl ?_
       refine tk 1 (some 93) rfl ?_
       refine tk 2 (some 94) rfl ?_
       refine tk 3 (some 95) rfl ?_
       refine tk 4 (some 96) rfl ?_
       refine tk 5 (some 97) rfl ?_
       refine tk 6 (some 98) rfl ?_
       refine aH 7 (some 99) rfl (fun KK hKK=>?_)
       go_simp
       go_at_call 47;refine Calls.mono (HXE.o _ bE) ?_;rintro e w8 ⟨rfl,hb8⟩;(have hb9:Below w5.heap.size w5 w8:=Below.trans bE (hb8.mono lE))
       (try go_wp2_with fail)
       refine hKK.out _ _ ?_ (fun hHeld=>?_)
       ·(try dsimp only);(first|(with_reducible exact HKE.o _ bE))
       clear hKK KK
       try simp only[Act.put,List.setIfInBounds_toArray,List.set_cons_zero,List.set_cons_succ]
       refine tk 8 (some 100) rfl ?_
       refine wpAnyH_done (by kernel_rfl) ?_ _
       go_wp2_with fail
       go_meet
       exact ⟨rfl,bE⟩
      case rest=>
       rename_i wd
       obtain ⟨rfl,hbd⟩:=hcut
       have HB':=zH (HBU.o.trans (hbd.mono HBU.o.size))
       have HW':=zH (HBV.o.trans (hbd.mono HBV.o.size))
       clear HKE HXE
       by_cases hg:GB
       ·have HG':=zH (HGX.o.1 hg)
        rw[aq hg]
        clear hg
        go_wp2_with fail
        go_roundw
        case rel=>first|exact ⟨k+1,by omega,by go_num,HG'.o,HB'.o⟩|((repeat apply Exists.intro);(refine And.intro ?_ rfl);exact ⟨k+1,by omega,by go_num,HG'.o,HB'.o⟩)
        case measure=>simp[intOf];omega
       ·have HF:=zH (HGX.o.2 hg)
        rw[ab hg]
        clear hg
        go_wp2_with fail
        go_ret
        exact ⟨aj HF.o.symm,HW'.o⟩
    ·obtain rfl:k=e.args.length:=by omega
     have HF:Hid (cB (aE f e clock)=true):=aq (HOK.o.2 (fun i x hx=>HG.o i (List.getElem?_eq_some_iff.1 hx).1 x hx))
     go_wp2_with fail
     go_ret
     exact ⟨aj HF.o.symm,hb⟩
end Go.Proofs.YtckognjamlckcaaGreatDoor
