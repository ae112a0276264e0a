/-
  The contract of flat.maker.enter, of a node whose variables have no clocks, by a maker that has no wires.
-/
import Derived.Test.YtdkgkacnjdnpoaaGreatZz
import Derived.Test.YtdkgkacnjdnpoaaGreatFoL
import Derived.Test.YtdkgkacnjdnpoaaGreatStzP
import Derived.Test.YtdkgkacnjdnpoaaGreatStzM
import Derived.Test.YtdkgkacnjdnpoaaGreatStzW
import Derived.Deep.RegionHeld3
import Derived.Test.YtdkgkacnjdnpoaaGreatExMem
import Derived.Test.YtdkgkacnjdnpoaaGreatTreePlain
import Derived.BigQuiet
import Derived.Test.YtdkgkacnjdnpoaaGreatRgL
import Derived.Test.YtdkgkacnjdnpoaaGreatCauD
import Derived.Deep.DeepCutAuto
set_option maxHeartbeats 4000000
set_option maxRecDepth 100000
namespace Go.Proofs.YtdkgkacnjdnpoaaGreat
open Go.RowKit
attribute [local go_sem ↓] Go.wp_at_zero Go.wp_at_succ
def wireOf (n:Nd) (x:ByteArray):Int:=idxOf (nms (vrs n)) x
theorem vrs_upd {X:Nat→Prop} {B C:Nat} {W W':World} {l:List Vr} {v:Value} (h:∃css,W.ownsRow C 103 5 v l.length css.flatten∧Are (isVr W B) l css) (hu:Upd X W W') (hX:∀j,X j→j<C) (hB:∀j,X j→B≤j) (hBW:B≤W.heap.size):
  ∃css,W'.ownsRow C 103 5 v l.length css.flatten∧Are (isVr W' B) l css:=by
 obtain ⟨css,h1,h2⟩:=h
 exact ⟨css,own_updX h1 hu hX,h2.mono (fun x _ cs hr=>isVr_keep (keeps_of (Upd.below hu (fun j e=>hB j e) hBW)) (Nat.le_refl _) hr)⟩
theorem vrs_sl {B C:Nat} {W:World} {l:List Vr} {v:Value} (h:∃css,W.ownsRow C 103 5 v l.length css.flatten∧Are (isVr W B) l css):∃A cap,v= .slice A l.length cap∧l.length≤cap∧cap≤maxLen∧Sl W W.heap.size 5 (isVr W B) A l:=by
 obtain ⟨css,h1,h2⟩:=h
 obtain ⟨⟨A,cap,e1,e2,e3,e4⟩,_⟩:=own_sl h1 h2 (h2.all (fun _ _ _ h=>(isVr_one h).1)) (by decide)
 exact ⟨A,cap,e1,e2,e3,e4⟩
theorem own_updM {X:Nat→Prop} {W W':World} {base size n:Nat} {e:TypeId} {v:Value} {xs:List Value} (h:W.ownsRow base e size v n xs) (hu:Upd X W W') (hX:∀k,v.ownBlock=some k→¬X k):W'.ownsRow base e size v n xs:=by
 refine' zq151
theorem McAt.upd {X:Nat→Prop} {M base:Nat} {As vw vd vi vo:Value} {w w':World} {tys:List Int} (h:McAt M As base w tys vw vd vi vo) (hu:Upd X w w') (hM:¬X M) (hv:∀g,vw.ownBlock=some g→¬X g):McAt M As base w' tys vw vd vi vo:=
 ⟨hu.row h.row hM,own_updM h.own hu hv,h.lt,Nat.le_trans h.hb hu.size⟩
theorem wiresC_odd:∀(l:List Int) (k:Nat),k<l.length→(wiresC l)[k*2+1]? =some (.slice none 0 0)
 | [],k,h=>absurd h (by simp)
 |t::l,0,_=>by simp[wiresC]
 |t::l,k+1,h=>by
  have e:wiresC (t::l)= .int .i64 t:: .slice none 0 0::wiresC l:=by simp[wiresC]
  rw[e,show (k+1)*2+1=(k*2+1)+1+1 by omega]
  simpa using wiresC_odd l k (by simpa using h)
theorem own_pos {w:World} {base n size:Nat} {e:TypeId} {v:Value} {xs:List Value} (h:w.ownsRow base e size v n xs) (hn:0<n):∃g cap,v= .slice (some ⟨g,0,none⟩) n cap∧base≤g∧n≤cap∧cap≤maxLen:=by
 rcases h.2 with ⟨_,h0⟩|⟨g,cap,cur,h1,h2,h3,h4,h5,_⟩
 ·omega
 ·exact ⟨g,cap,h1,h2,h4,h5⟩
theorem McAt.put {M base g n cap k:Nat} {As vd vi vo:Value} {w:World} {tys:List Int} (h:McAt M As base w tys (.slice (some ⟨g,0,none⟩) n cap) vd vi vo) (hk:k<tys.length) (hn:tys.length=n) (hg:base≤g):
  (w.cell? ⟨g,k*2+1,none⟩=some (.slice none 0 0)∧w.frozen? ⟨g,k*2+1,none⟩=false)∧McAt M As base (w.setCell ⟨g,k*2+1,none⟩ (.slice none 0 0)) tys (.slice (some ⟨g,0,none⟩) n cap) vd vi vo:=by
 subst hn
 have hlt:=h.lt
 have h1:=wiresC_odd tys k hk
 obtain ⟨⟨u,h2,h3⟩,h4⟩:=own_at h.own (j:=k*2+1) (by omega)
 rw[h1] at h3
 cases h3
 have u1:=(Upd.refl (fun j=>j=g) w).setCell (p:=⟨g,k*2+1,none⟩) rfl (.slice none 0 0)
 refine ⟨⟨h2,h4⟩,u1.row h.row (by omega),?_,h.lt,Nat.le_trans h.hb u1.size⟩
 have:=own_put h.own (j:=k*2+1) (.slice none 0 0)
 have e:(wiresC tys).set (k*2+1) (.slice none 0 0)=wiresC tys:=by
  apply List.ext_getElem?
  intro j
  by_cases g':k*2+1=j
  ·subst g'
   rw[List.getElem?_set_self (List.getElem?_eq_some_iff.1 h1).1,h1]
  ·rw[List.getElem?_set_ne g']
 rwa [e] at this
theorem step_mapI {F:ByteArray→Int} {w:World} {ops:Array Oper} {o:Oper} {a:Act} {K:Act→World→Prop} {Q:Exit→Act→World→Prop} {E:Prop} (hgd:o.guard=none) (m x v:Operand) (hop:o.op=Op.mapUpdate 85 m x v)
  (b:Nat) (l:List ByteArray) (hm:a.eval m= .map (some b)) (h:MapI F w b l) (hn:l.length<1000000) (nm:ByteArray) (hx:a.eval x= .string nm) (hs:nm.size≤maxLen) (hF:Wf (F nm)) (u:Value) (hu:u= .int .i64 (F nm)) (hv:a.eval v=u)
  (hK:∀w',MapI F w' b (putN l nm)→w.grownBy w' (some b)→K (a.put o.dst undef) w'):
  if Region.wanted o (yielded ops a.tmps)=true then Oper.wp Tryz.prog o a w K Q else E:=by
 refine' zq121
 subst hu
 obtain ⟨w',hrun,r1,r2⟩:=h.put hs hn hF
 unfold Oper.wp
 simp[execOp,hop,hm,hx,hv,hrun,Result.andThen]
 exact hK w' r1 r2
theorem wireOf_at {n:Nd} {k:Nat} {x:Vr} (hd:(nms (vrs n)).Nodup) (h:(vrs n)[k]? =some x):wireOf n x.name=k:=by
 have hk:(nms (vrs n))[k]? =some x.name:=by simp[nms,h]
 refine idx_at (fun j hj y hy e=>?_) hk
 subst e
 have hl:=(List.getElem?_eq_some_iff.1 hk).1
 have hl2:=(List.getElem?_eq_some_iff.1 hy).1
 have:=(List.getElem_inj (h₀:=hl2) (h₁:=hl) hd).1 (by rw[(List.getElem?_eq_some_iff.1 hy).2,(List.getElem?_eq_some_iff.1 hk).2])
 omega
theorem put_take {n:Nd} {k:Nat} {x:Vr} (hd:(nms (vrs n)).Nodup) (h:(vrs n)[k]? =some x):putN (nms ((vrs n).take k)) x.name=nms ((vrs n).take (k+1)):=by
 have e:nms ((vrs n).take (k+1))=nms ((vrs n).take k)++ [x.name]:=by
  simp only[nms]
  rw[List.take_add_one,h];simp
 have hn:x.name∉nms ((vrs n).take k):=by
  intro g
  have:(nms ((vrs n).take (k+1))).Nodup:=by
   have e2:nms ((vrs n).take (k+1))=(nms (vrs n)).take (k+1):=by simp[nms,List.map_take]
   rw[e2]
   exact hd.sublist (List.take_sublist _ _)
  rw[e,List.nodup_append] at this
  exact this.2.2 _ g _ (List.mem_singleton.2 rfl) rfl
 rw[e]
 unfold putN
 rw[if_neg hn]
theorem tys_len {l:List Vr} {k:Nat} (h:k≤l.length):(tysOf (l.take k)).length=k:=by
 simp[tysOf];omega
theorem enter_any {s:List Nd} {n:Nd} {A:Option Addr} {cap M base N:Nat} {vd vi vo:Value} {nm:ByteArray} (w:World) (sm:SrcSm s) (h1:s.length≤cap) (h2:cap≤maxLen) (hN:N≤M) (h:Nds w N A s) (hM:McAt M (.slice A s.length cap) base w [] (.slice none 0 0) vd vi vo) (hn:nodeAt s nm=some n) (hmem:nm∈s.map Nd.name) (hc:NoClk n) (hnd:(nms (vrs n)).Nodup):
  Calls Tryz.prog 28 #[.pointer (some ⟨M,0,none⟩),.string nm,.slice none 0 0,.func (.func 29) #[.pointer (some ⟨M,0,none⟩)] #[]] w fun r w'=>(∃P K a vw,r= .returned (.pointer (some ⟨P,0,none⟩))∧PlAt w' P K N n a (wireOf n) (nms (vrs n))∧McAt M (.slice A s.length cap) base w' (tysOf (vrs n)) vw vd vi vo∧w.heap.size≤P∧w.heap.size≤K∧∀g,vw.ownBlock=some g→g≠P∧g≠K)∧Upd (fun j=>j=M) w w':=by
 have hMl:=hM.row.lt
 have HFD:=Lib.hid (find_anyB N s s.length A cap nm w rfl h1 h2 (by omega) h)
 have HSM:Hid (NdSm n):=sm.all n (List.mem_of_find?_eq_some hn)
 have c0:w.cell? ⟨M,0,none⟩=some (.slice A s.length cap):=(hM.row.cell 0).trans rfl
 have HMN:=Lib.hid hn
 have HC:=Lib.hid hc
 have HD:=Lib.hid hnd
 have HM:=Lib.hid hmem
 have HMC:=Lib.hid hM
 clear h sm hn hc hmem hnd hM
 have hmm:= @run_makeMap Tryz.prog
 go_enter Tryz.func28,Tryz.ntmps28
 go_wp2_with fail
 refine HFD.out.mono ?_
 rintro r w2 ⟨⟨m,a,rfl,hm1,-⟩,hb2⟩
 obtain ⟨hma,hat⟩:=hm1.out HM.out
 rw[HMN.out] at hma
 cases hma
 have hs2:=hb2.size
 have HAT:=Lib.hid hat
 have HB2:=Lib.hid hb2
 clear hat hm1 hb2 HFD c0
 have b3:Below w2.heap.size w2 (((w2.alloc (.cells (ndArr n a) 58)).alloc (.map #[] 0)).alloc (.cells (plA n a (w2.heap.size+1)) 88)):=bE
 have rn:=((Row.new w2 (ndArr n a) 58).alloc (.map #[] 0)).alloc (.cells (plA n a (w2.heap.size+1)) 88)
 have rp:Row (((w2.alloc (.cells (ndArr n a) 58)).alloc (.map #[] 0)).alloc (.cells (plA n a (w2.heap.size+1)) 88)) (w2.heap.size+1+1) (plA n a (w2.heap.size+1)) 88:=by
  have:=Row.new ((w2.alloc (.cells (ndArr n a) 58)).alloc (.map #[] 0)) (plA n a (w2.heap.size+1)) 88
  simpa using this
 have mk:MapI (wireOf n) (((w2.alloc (.cells (ndArr n a) 58)).alloc (.map #[] 0)).alloc (.cells (plA n a (w2.heap.size+1)) 88)) (w2.heap.size+1) []:=by
  have:=(mapi_made (wireOf n) (w2.alloc (.cells (ndArr n a) 58))).alloc (.cells (plA n a (w2.heap.size+1)) 88)
  simpa using this
 have hs3:(((w2.alloc (.cells (ndArr n a) 58)).alloc (.map #[] 0)).alloc (.cells (plA n a (w2.heap.size+1)) 88)).heap.size=w2.heap.size+3:=by simp
 go_upto_region 3 with (fail)
 change Code.wp _ _ _ _ (((w2.alloc (.cells (ndArr n a) 58)).alloc (.map #[] 0)).alloc (.cells (plA n a (w2.heap.size+1)) 88))
 generalize ((w2.alloc (.cells (ndArr n a) 58)).alloc (.map #[] 0)).alloc (.cells (plA n a (w2.heap.size+1)) 88)=W3 at*
 have q1:W3.cell? ⟨w2.heap.size,1,none⟩=some (.slice a.ai n.ins.length a.ci):=(rn.cell 1).trans rfl
 have q2:W3.cell? ⟨w2.heap.size,2,none⟩=some (.slice a.ao n.outs.length a.co):=(rn.cell 2).trans rfl
 have q3:W3.cell? ⟨w2.heap.size,3,none⟩=some (.slice a.av n.vars.length a.cv):=(rn.cell 3).trans rfl
 have hcat:catTo [⟨a.ai,a.ci,n.ins⟩,⟨a.ao,a.co,n.outs⟩,⟨a.av,a.cv,n.vars⟩] 3=vrs n:=by simp[catTo,vrs]
 have HCT:=Lib.hid hcat
 have hll:=HSM.out.len
 have b4:Below w2.heap.size w2 (W3.alloc (.cells #[.slice a.ai n.ins.length a.ci,.slice a.ao n.outs.length a.co,.slice a.av n.vars.length a.cv] 55)):=b3.alloc (by omega) _
 have HB4:=Lib.hid b4
 have HP:=Lib.hid rp
 have HK:=Lib.hid mk
 have hs3a:w2.heap.size+3≤W3.heap.size:=by omega
 have hs3b:W3.heap.size≤w2.heap.size+3:=by omega
 clear b3 b4 hcat rn rp mk hs3
 go_wp2_with fail
 refine (concat_var [⟨a.ai,a.ci,n.ins⟩,⟨a.ao,a.co,n.outs⟩,⟨a.av,a.cv,n.vars⟩] W3.heap.size N 3 _ (Nat.le_refl _) (by decide) (by rw[show [(⟨a.ai,a.ci,n.ins⟩:Vsl),⟨a.ao,a.co,n.outs⟩,⟨a.av,a.cv,n.vars⟩].length=3 from rfl,HCT.out];omega) (by simp) (by simp;omega) ?_ ?_).mono ?_
 ·intro k s hs
  match k,hs with
  |0,hs=>simp at hs;subst hs;simp
  |1,hs=>simp at hs;subst hs;simp
  |2,hs=>simp at hs;subst hs;simp
 ·intro k s hs
  match k,hs with
  |0,hs=>simp at hs;subst hs;exact vrs_keep HAT.out.si (keeps_of (HB4.out.mono (by omega))) (Nat.le_refl _)
  |1,hs=>simp at hs;subst hs;exact vrs_keep HAT.out.so (keeps_of (HB4.out.mono (by omega))) (Nat.le_refl _)
  |2,hs=>simp at hs;subst hs;exact vrs_keep HAT.out.sv (keeps_of (HB4.out.mono (by omega))) (Nat.le_refl _)
 rintro e w6 ⟨v,css,rfl,ho,ha,hb6⟩
 rw[show [(⟨a.ai,a.ci,n.ins⟩:Vsl),⟨a.ao,a.co,n.outs⟩,⟨a.av,a.cv,n.vars⟩].length=3 from rfl,HCT.out] at ho ha
 have hb7:Below W3.heap.size W3 w6:=Below.trans bE (hb6.mono (by simp))
 have hs6:=hb6.size
 rw[World.size_alloc] at ho hs6
 have HV:Hid (∃css,w6.ownsRow (W3.heap.size+1) 103 5 v (vrs n).length css.flatten∧Are (isVr w6 N) (vrs n) css):=⟨css,ho,ha⟩
 obtain ⟨A7,c7,hv7,l7,m7,-⟩:=vrs_sl HV.out
 subst hv7
 have HP6:=Lib.hid (HP.out.below hb7 (by omega))
 have HK6:=Lib.hid (HK.out.below hb7 (by omega))
 have HB6:=Lib.hid (HB2.out.trans ((HB4.out.trans (hb6.mono (by simp;omega))).mono hs2))
 have HM6:=Lib.hid (HMC.out.below HB6.out)
 have HA6:=Lib.hid (HAT.out.keep (keeps_of ((HB4.out.trans (hb6.mono (by simp;omega))).mono (by omega))) (Nat.le_refl _))
 clear ho ha hb6 hb7 HP HK HB4 HB2 HAT HMC q1 q2 q3 HCT
 have m7':c7≤9223372036854775807:=by unfold maxLen at m7;omega
 go_wp2_with fail
 go_loopw[41] (fun i wr=>∃(k:Nat) (vw:Value),k≤(vrs n).length∧i= .int .i64 k∧Hid (McAt M (.slice A s.length cap) base wr (tysOf ((vrs n).take k)) vw vd vi vo)∧Hid (∀g,vw.ownBlock=some g→w6.heap.size≤g)∧Hid (MapI (wireOf n) wr (w2.heap.size+1) (nms ((vrs n).take k)))∧Hid (Upd (fun j=>j=M∨j=w2.heap.size+1) w6 wr)) (fun i _=>(vrs n).length-(intOf i).toNat)
 case atStart=>exact ⟨0,_,Nat.zero_le _,rfl,HM6,fun g hg=>by simp[Value.ownBlock] at hg,HK6,Upd.refl _ _⟩
 case round=>
  clear HM6 HK6
  obtain ⟨k,vw,hk,rfl,HMk,HG,HMP,HU⟩:=hrel
  have hszr:=HU.out.size
  have hwr:vw.ownBlock=none∨∃g,vw.ownBlock=some g∧g<wr.heap.size:=by
   cases h9:vw.ownBlock with
   |none=>exact .inl rfl
   |some g=>exact .inr ⟨g,rfl,(HMk.out.own.lt g h9).2⟩
  have HW:=Lib.hid hwr
  clear hwr
  by_cases hlt:k<(vrs n).length
  ·obtain ⟨Av,cv,hv,-,-,hsl⟩:=vrs_sl (vrs_upd HV.out HU.out (fun j e=>by omega) (fun j e=>by omega) (by omega))
   cases hv
   obtain ⟨b,off,x,A',cap',hA,hb,hxk,ok,g1,g2,hxs,d0,d1,d2,d3,d4⟩:=hsl.vr hlt
   subst hA
   have HX:=Lib.hid hxk
   have HN:=Lib.hid ok
   have bx:Below wr.heap.size wr (wr.alloc (.cells (vrArr x A' cap') 103)):=bE
   have rx:=Row.new wr (vrArr x A' cap') 103
   have hsx:wr.heap.size+1≤(wr.alloc (.cells (vrArr x A' cap') 103)).heap.size:=by simp
   clear hxk ok hxs hsl g1 g2
   go_upto_region 7 with (fail)
   clear d0 d1 d2 d3 d4
   generalize hW5:wr.alloc (.cells (vrArr x A' cap') 103)=w5 at*
   clear hW5
   have hs5:=bx.size
   have HM5:=Lib.hid (HMk.out.below bx)
   have HK5:=Lib.hid (HMP.out.below bx HMP.out.lt)
   have HU5:=Lib.hid (HU.out.trans (Upd.of_below bx))
   have hvb:∀g,vw.ownBlock=some g→w6.heap.size≤g∧g<wr.heap.size:=fun g hg=>⟨HG.out g hg,(HMk.out.own.lt g hg).2⟩
   have HVB:=Lib.hid hvb
   have hdr:=w5.drew.heap.size
   have HS:Hid (∀W,Upd (fun j=>(j=M∨vw.ownBlock=some j)∨j=w2.heap.size+1) w5 W→W.cell? ⟨w2.heap.size+1+1,7,none⟩=some (.map (some (w2.heap.size+1)))∧W.cell? ⟨wr.heap.size,0,none⟩=some (.string x.name)∧W.cell? ⟨wr.heap.size,1,none⟩=some (.int .i64 x.ty)):=fun W hW=>by
    have p1:=hW.row (HU5.out.row HP6.out (fun e=>by omega)) (fun e=>by
     rcases e with (e|e)|e
     ·omega
     ·have:=hvb _ e;omega
     ·omega)
    have p2:=hW.row rx (fun e=>by
     rcases e with (e|e)|e
     ·omega
     ·have:=hvb _ e;omega
     ·omega)
    exact ⟨(p1.cell 7).trans rfl,(p2.cell 0).trans rfl,(p2.cell 1).trans rfl⟩
   have HKU:Hid (∀W,Upd (fun j=>j=M∨vw.ownBlock=some j) w5 W→MapI (wireOf n) W (w2.heap.size+1) (nms ((vrs n).take k))):=fun W hW=>HK5.out.upd hW (fun e=>by
     rcases e with e|e
     ·omega
     ·have:=hvb _ e;omega)
   have HWI:=Lib.hid (wireOf_at HD.out HX.out)
   have HPT:=Lib.hid (put_take HD.out HX.out)
   have HTL:=Lib.hid (tys_len (l:=vrs n) hk)
   have HWF:Hid (Wf (wireOf n x.name)):=by
    show Wf _
    rw[HWI.out]
    exact wf_of ⟨by omega,by omega⟩
   have hml:=HTL.out
   have hk9:(tysOf ((vrs n).take k)).length<1000:=by omega
   have hnl:(nms ((vrs n).take k)).length<1000000:=by simp[nms];omega
   clear hvb hml
   refine wp_region_held_drew (S:=fun W=>W.cell? ⟨w2.heap.size+1+1,7,none⟩=some (.map (some (w2.heap.size+1)))∧W.cell? ⟨wr.heap.size,0,none⟩=some (.string x.name)∧W.cell? ⟨wr.heap.size,1,none⟩=some (.int .i64 x.ty)) (by kernel_rfl) ?_ (fun hHeld=>?_)
   ·(try dsimp only);(first|(with_reducible exact HS.out _ hu9)|(with_reducible exact HS.out _ hu8b)|(with_reducible exact HS.out _ (Upd.of_below bE)))
   refine tk 0 (some 45) rfl ?_
   refine tk 1 (some 46) rfl ?_
   refine tk 2 (some 47) rfl ?_
   refine tk 3 (some 48) rfl ?_
   refine tk 4 (some 49) rfl ?_
   refine tk 5 (some 50) rfl ?_
   refine tk 6 (some 51) rfl ?_
   refine tk 7 (some 52) rfl ?_
   refine tk 8 (some 53) rfl ?_
   refine rd1 9 (some 54) rfl (fun KK hKK=>?_)
   go_simp
   first|(go_at_call 29;refine Calls.mono (fwire_any x.ty _ (HM5.out.below bE) hk9) ?_;rintro e w7 ⟨rfl,⟨vw',hm7,hvb7⟩,hu7⟩;(have hu8:=Upd.trans (Upd.of_below (bE:Below w5.heap.size w5 _)) hu7);(have hu8b:=hu8.mono (Y:=fun j=>(j=M∨vw.ownBlock=some j)∨j=w2.heap.size+1) (fun j e=>Or.inl e)))|(refine step_mapI rfl _ _ _ rfl (w2.heap.size+1) _ rfl (HKU.out _ hu8) hnl x.name rfl HN.out.name HWF.out (.int .i64 ((tysOf ((vrs n).take k)).length:Int)) (by rw[HTL.out,HWI.out]) rfl ?_;intro w9 hm9 hg9;(have hu9:=hu8b.trans ((upd_grown hg9).mono (fun j e=>Or.inr e))))
   (try go_wp2_with fail)
   refine hKK.out _ _ ?_ (fun hHeld=>?_)
   ·(try dsimp only);(first|(with_reducible exact HS.out _ hu9)|(with_reducible exact HS.out _ hu8b)|(with_reducible exact HS.out _ (Upd.of_below bE)))
   clear hKK KK
   try simp only[Act.put,List.setIfInBounds_toArray,List.set_cons_zero,List.set_cons_succ]
   refine rd1 10 none rfl (fun KK hKK=>?_)
   (refine step_mapI rfl _ _ _ rfl (w2.heap.size+1) _ rfl (HKU.out _ hu8) hnl x.name rfl HN.out.name HWF.out (.int .i64 ((tysOf ((vrs n).take k)).length:Int)) (by rw[HTL.out,HWI.out]) rfl ?_;intro w9 hm9 hg9;(have hu9:=hu8b.trans ((upd_grown hg9).mono (fun j e=>Or.inr e))))
   refine hKK.out _ _ ?_ (fun hHeld=>?_)
   ·(try dsimp only);(first|(with_reducible exact HS.out _ hu9)|(with_reducible exact HS.out _ hu8b)|(with_reducible exact HS.out _ (Upd.of_below bE)))
   clear hKK KK
   try simp only[Act.put]
   refine wpAnyH_done (by kernel_rfl) ?_ _
   have hs9:=hu9.size
   have hg7:∀g,vw'.ownBlock=some g→w6.heap.size≤g∧g≠w2.heap.size+1:=fun g hg=>by
    rcases hvb7 with e|⟨g',e,h5⟩
    ·rw[e] at hg
     have:=HVB.out g hg
     omega
    ·rw[hg] at e
     cases e
     simp at h5
     omega
   have hm9':=hm7.upd (upd_grown hg9) (by omega) (fun g hg=>(hg7 g hg).2)
   rw[←tys_take HX.out] at hm9'
   rw[HPT.out] at hm9
   have hU9:Upd (fun j=>j=M∨j=w2.heap.size+1) w6 w9:=Upd.narrow ((HU5.out.mono (Y:=fun j=>(j=M∨vw.ownBlock=some j)∨j=w2.heap.size+1) (fun j e=>by omega)).trans hu9) (fun j hj e=>by
    rcases e with (e|e)|e
    ·exact Or.inl e
    ·have:=HVB.out j e;omega
    ·exact Or.inr e)
   have HM9:=Lib.hid hm9'
   have HG9:Hid (∀g,vw'.ownBlock=some g→w6.heap.size≤g):=fun g hg=>(hg7 g hg).1
   have HK9:=Lib.hid hm9
   have HU9:=Lib.hid hU9
   clear hm9 hm9' hU9 hg7 hvb7 hm7 hu7 hu8 hu8b hu9 hg9 HS HKU HPT HTL HWF HWI bx rx
   go_wp2_with fail
   go_roundw
   case rel=>exact ⟨k+1,_,by omega,by go_num,HM9,HG9,HK9,HU9⟩
   case measure=>first|(simp[intOf];omega)|simp[intOf]
  ·obtain rfl:k=(vrs n).length:=by omega
   rw[List.take_length] at HMk HMP
   have hlo:=tys_len (l:=vrs n) (Nat.le_refl _)
   rw[List.take_length] at hlo
   have HLO:=Lib.hid hlo
   clear hlo
   go_wp2_with fail
   obtain ⟨wo,rfl⟩:∃wo:World,wo=wr:=⟨_,rfl⟩
   go_loopw[58] (fun i wr=>∃(k:Nat),k≤(vrs n).length∧i= .int .i64 k∧Hid (McAt M (.slice A s.length cap) base wr (tysOf (vrs n)) vw vd vi vo)∧Hid (Upd (fun j=>vw.ownBlock=some j) wo wr)) (fun i _=>(vrs n).length-(intOf i).toNat)
   case atStart=>exact ⟨0,Nat.zero_le _,rfl,HMk,Upd.refl _ _⟩
   case round=>
    clear hk
    obtain ⟨k,hk,rfl,HMq,HUq⟩:=hrel
    have HMp:=Lib.hid (HMP.out.upd HUq.out (fun e=>by have:=HG.out _ e;omega))
    have HUw:Hid (Upd (fun j=>j=M∨j=w2.heap.size+1) w6 wr):=Upd.narrow ((HU.out.mono (Y:=fun j=>(j=M∨j=w2.heap.size+1)∨vw.ownBlock=some j) (fun j e=>Or.inl e)).trans (HUq.out.mono (fun j e=>Or.inr e))) (fun j hj e=>by
     rcases e with e|e
     ·exact e
     ·have:=HG.out j e;omega)
    have hszq:=HUw.out.size
    have hsqr:=HUq.out.size
    by_cases hlt:k<(vrs n).length
    ·obtain ⟨Av,cv,hv,-,-,hsl⟩:=vrs_sl (vrs_upd HV.out HUw.out (fun j e=>by omega) (fun j e=>by omega) (by omega))
     cases hv
     obtain ⟨g,cw,hvw,hbg,lw,mw⟩:=own_pos HMq.out.own (by have:=HLO.out;omega)
     subst hvw
     have hg6:w6.heap.size≤g:=HG.out g rfl
     have hgq:g<wr.heap.size:=(HMq.out.own.lt g rfl).2
     obtain ⟨b,off,x,A',cap',hA,hb,hxk,ok,g1,g2,hxs,d0,d1,d2,d3,d4⟩:=hsl.vr hlt
     subst hA
     have hcl:Hid (x.clock.length=0):=by
      show _=_
      rw[HC.out x (List.mem_of_getElem? hxk)];rfl
     have HX:=Lib.hid hxk
     have HN:=Lib.hid ok
     have bx:Below wr.heap.size wr (wr.alloc (.cells (vrArr x A' cap') 103)):=bE
     have rx:=Row.new wr (vrArr x A' cap') 103
     clear hxk ok hxs hsl g1 g2
     go_upto_region 12 with (fail)
     clear d0 d1 d2 d3 d4
     generalize hW5:wr.alloc (.cells (vrArr x A' cap') 103)=w5 at*
     clear hW5
     have hs5:=bx.size
     have hrl:=rx.lt
     have HM5:=Lib.hid (HMq.out.below bx)
     have HPq:Hid (Row w5 (w2.heap.size+1+1) (plA n a (w2.heap.size+1)) 88):=(HUw.out.row HP6.out (fun e=>by omega)).below bx (by omega)
     have HK5:=Lib.hid (HMp.out.below bx HMp.out.lt)
     have HMM:Hid (x.name∈nms (vrs n)):=List.mem_map_of_mem (List.mem_of_getElem? HX.out)
     have HWI:=Lib.hid (wireOf_at HD.out HX.out)
     have HS:Hid (∀W,Upd (fun j=>j=g) w5 W→W.cell? ⟨M,1,none⟩=some (.slice (some ⟨g,0,none⟩) (tysOf (vrs n)).length cw)∧W.cell? ⟨w2.heap.size+1+1,7,none⟩=some (.map (some (w2.heap.size+1)))∧W.cell? ⟨wr.heap.size,0,none⟩=some (.string x.name)∧W.cell? ⟨wr.heap.size,2,none⟩=some (.slice A' x.clock.length cap')∧(Instr.lookup 85 (.map (some (w2.heap.size+1))) (.string x.name) false).run Tryz.prog W= .ok (.int .i64 (k:Int)) W):=fun W hW=>by
      have p0:=hW.row HM5.out.row (by omega)
      have p1:=hW.row HPq.out (by omega)
      have p2:=hW.row rx (by omega)
      have p3:=(HK5.out.upd hW (by omega)).look HN.out.name HMM.out
      rw[HWI.out] at p3
      exact ⟨(p0.cell 1).trans rfl,(p1.cell 7).trans rfl,(p2.cell 0).trans rfl,(p2.cell 2).trans rfl,p3⟩
     have hpt:=(HM5.out.below (bE:Below w5.heap.size w5 w5.drew)).put (k:=k) (by have:=HLO.out;omega) rfl hbg
     have c8:w5.drew.cell? ⟨w2.heap.size+1+1,8,none⟩=some (.slice none 0 0):=(HPq.out.cell 8).trans rfl
     have C8:=Lib.hid c8
     have zc:=hpt.1.1
     have zf:=hpt.1.2
     have hpq:=(HM5.out.put (k:=k) (by have:=HLO.out;omega) rfl hbg).2
     have HPT:=Lib.hid (hpq.below (bE:Below (w5.setCell ⟨g,k*2+1,none⟩ (.slice none 0 0)).heap.size (w5.setCell ⟨g,k*2+1,none⟩ (.slice none 0 0)) (w5.setCell ⟨g,k*2+1,none⟩ (.slice none 0 0)).drew))
     have i0:(0:Int)≤(k:Int):=by omega
     have i1:(k:Int)<((tysOf (vrs n)).length:Int):=by have:=HLO.out;omega
     have HU9:Hid (Upd (fun j=>j=g) w5 (w5.setCell ⟨g,k*2+1,none⟩ (.slice none 0 0)).drew):=((Upd.refl (fun j=>j=g) w5).setCell (p:=⟨g,k*2+1,none⟩) rfl _).trans (Upd.of_below (bE:Below (w5.setCell ⟨g,k*2+1,none⟩ (.slice none 0 0)).heap.size (w5.setCell ⟨g,k*2+1,none⟩ (.slice none 0 0)) (w5.setCell ⟨g,k*2+1,none⟩ (.slice none 0 0)).drew))
     have HSL:=Lib.hid ((HS.out w5.drew (Upd.of_below bE)).2.2.2.2)
     have HUZ:Hid (Upd (fun j=>(Value.slice (some ⟨g,0,none⟩) (tysOf (vrs n)).length cw).ownBlock=some j) wo (w5.setCell ⟨g,k*2+1,none⟩ (.slice none 0 0)).drew):=HUq.out.trans ((Upd.of_below bx).trans (HU9.out.mono (fun j e=>by subst e;rfl)))
     have mw':cw≤9223372036854775807:=by unfold maxLen at mw;omega
     clear hpt hpq c8
     refine wp_region_held_drew (S:=fun W=>W.cell? ⟨M,1,none⟩=some (.slice (some ⟨g,0,none⟩) (tysOf (vrs n)).length cw)∧W.cell? ⟨w2.heap.size+1+1,7,none⟩=some (.map (some (w2.heap.size+1)))∧W.cell? ⟨wr.heap.size,0,none⟩=some (.string x.name)∧W.cell? ⟨wr.heap.size,2,none⟩=some (.slice A' x.clock.length cap')∧(Instr.lookup 85 (.map (some (w2.heap.size+1))) (.string x.name) false).run Tryz.prog W= .ok (.int .i64 (k:Int)) W) (by kernel_rfl) ?_ (fun hHeld=>?_)
     ·(try dsimp only);(first|(with_reducible exact HS.out _ HU9.out)|(with_reducible exact HS.out _ (Upd.of_below bE)))
     refine tk 0 (some 62) rfl ?_
     refine tk 1 (some 63) rfl ?_
     refine tk 2 (some 64) rfl ?_
     refine tk 3 (some 65) rfl ?_
     refine tk 4 (some 66) rfl ?_
     refine tk 5 (some 67) rfl ?_
     refine tk 6 (some 68) rfl ?_
     refine tk 7 (some 69) rfl ?_
     refine tk 8 (some 70) rfl ?_
     refine tk 9 (some 71) rfl ?_
     refine tk 10 (some 72) rfl ?_
     refine tk 12 (some 74) rfl ?_
     refine tk 13 (some 75) rfl ?_
     refine tk 14 (some 76) rfl ?_
     refine wpAnyH_ready (rs:=[11,15]) (by kernel_rfl) (by simp) ?_
     refine AllReadyH.cons (o:={dst:=some 73,op:=_,type:=_,pos:=_,after:=_,guard:=_}) rfl (fun KK hKK=>?_) (AllReadyH.cons (o:={dst:=some 77,op:=_,type:=_,pos:=_,after:=_,guard:=_}) rfl (fun KK hKK=>?_) AllReadyH.nil)
     ·(refine step_look rfl _ _ rfl (w2.heap.size+1) rfl x.name rfl (.int .i64 (k:Int)) HSL.out ?_)
      refine hKK.out _ _ ?_ (fun hHeld=>?_)
      ·(try dsimp only);(first|(with_reducible exact HS.out _ HU9.out)|(with_reducible exact HS.out _ (Upd.of_below bE)))
      clear hKK KK
      try simp only[Act.put,List.setIfInBounds_toArray,List.set_cons_zero,List.set_cons_succ]
      refine rd1 15 (some 77) rfl (fun KK hKK=>?_)
      go_simp
      (go_at_call 61;refine Calls.mono (guards_zero (w2.heap.size+1+1) A' x.clock.length cap' _ hcl.out C8.out) ?_;rintro e w7 ⟨rfl,rfl⟩)
      (try go_wp2_with fail)
      refine hKK.out _ _ ?_ (fun hHeld=>?_)
      ·(try dsimp only);(first|(with_reducible exact HS.out _ HU9.out)|(with_reducible exact HS.out _ (Upd.of_below bE)))
      clear hKK KK
      try simp only[Act.put,List.setIfInBounds_toArray,List.set_cons_zero,List.set_cons_succ]
      refine tk 16 (some 78) rfl ?_
      refine tk 17 (some 79) rfl ?_
      refine rd1 18 none rfl (fun KK hKK=>?_)
      go_simp
      refine hKK.out _ _ ?_ (fun hHeld=>?_)
      ·(try dsimp only);(first|(with_reducible exact HS.out _ HU9.out)|(with_reducible exact HS.out _ (Upd.of_below bE)))
      clear hKK KK
      try simp only[Act.put,List.setIfInBounds_toArray,List.set_cons_zero,List.set_cons_succ]
      refine wpAnyH_done (by kernel_rfl) ?_ _
      go_wp2_with fail
      go_roundw
      case rel=>exact ⟨k+1,by omega,by go_num,HPT,HUZ⟩
      case measure=>first|(simp[intOf];omega)|simp[intOf]
     ·go_simp
      (go_at_call 61;refine Calls.mono (guards_zero (w2.heap.size+1+1) A' x.clock.length cap' _ hcl.out C8.out) ?_;rintro e w7 ⟨rfl,rfl⟩)
      (try go_wp2_with fail)
      refine hKK.out _ _ ?_ (fun hHeld=>?_)
      ·(try dsimp only);(first|(with_reducible exact HS.out _ HU9.out)|(with_reducible exact HS.out _ (Upd.of_below bE)))
      clear hKK KK
      try simp only[Act.put,List.setIfInBounds_toArray,List.set_cons_zero,List.set_cons_succ]
      refine rd1 11 (some 73) rfl (fun KK hKK=>?_)
      (refine step_look rfl _ _ rfl (w2.heap.size+1) rfl x.name rfl (.int .i64 (k:Int)) HSL.out ?_)
      refine hKK.out _ _ ?_ (fun hHeld=>?_)
      ·(try dsimp only);(first|(with_reducible exact HS.out _ HU9.out)|(with_reducible exact HS.out _ (Upd.of_below bE)))
      clear hKK KK
      try simp only[Act.put,List.setIfInBounds_toArray,List.set_cons_zero,List.set_cons_succ]
      refine tk 16 (some 78) rfl ?_
      refine tk 17 (some 79) rfl ?_
      refine rd1 18 none rfl (fun KK hKK=>?_)
      go_simp
      refine hKK.out _ _ ?_ (fun hHeld=>?_)
      ·(try dsimp only);(first|(with_reducible exact HS.out _ HU9.out)|(with_reducible exact HS.out _ (Upd.of_below bE)))
      clear hKK KK
      try simp only[Act.put,List.setIfInBounds_toArray,List.set_cons_zero,List.set_cons_succ]
      refine wpAnyH_done (by kernel_rfl) ?_ _
      go_wp2_with fail
      go_roundw
      case rel=>exact ⟨k+1,by omega,by go_num,HPT,HUZ⟩
      case measure=>first|(simp[intOf];omega)|simp[intOf]
    ·obtain rfl:k=(vrs n).length:=by omega
     have h9:PlAt wr (w2.heap.size+1+1) (w2.heap.size+1) N n a (wireOf n) (nms (vrs n)):=⟨HUw.out.row HP6.out (fun e=>by omega),HA6.out.keep (keeps_of (Upd.below HUw.out (fun j e=>by omega) (by omega))) (Nat.le_refl _),HMp.out,by omega,by omega,by omega⟩
     have hU:Upd (fun j=>j=M) w wr:=Upd.narrow (((Upd.of_below (X:=fun j=>j=M∨j=w2.heap.size+1) HB6.out)).trans HUw.out) (fun j hj e=>e.elim id (fun e=>by omega))
     have H9:=Lib.hid h9
     have HU:=Lib.hid hU
     clear h9 hU
     go_wp2_with fail
     go_ret
     exact ⟨⟨_,_,a,vw,rfl,H9.out,HMq.out,by omega,by omega,fun g hg=>by have:=HG.out g hg;omega⟩,HU.out⟩
end Go.Proofs.YtdkgkacnjdnpoaaGreat
