/-
  fold.Fold: the walk.
-/
import Derived.Test.YtckognjamlckcaaFolJ
import Derived.Test.YtckognjamlckcaaFolL
import Derived.Test.YtckognjamlckcaaFolG
import Derived.StillTailTactics
namespace Go.Proofs.Ytckognjamlckcaa
open Go.RowKit Vf Fo Ar
attribute [local go_sem ↓] Go.wp_at_zero Go.wp_at_succ
def FoldIs (f:Fm) (w:World) (e:Ending) (w':World):Prop:=∃R A fr need cl v0 v1 v2 v3 v4 v5,Clo f R A fr need cl∧Rea f R A fr need cl∧e= .returned (.tuple #[fmV v0 v1 v2 v3 v4 v5,.int .i64 0])∧FmAt w' w'.heap.size (madeF f R A fr need cl) v0 v1 v2 v3 v4 v5∧Below w.heap.size w w'
theorem act_eq {K:Act→World→Prop} {a b:Act} {w:World} (e:a=b) (h:K a w):K b w:=by rw[←e];exact h
set_option maxRecDepth 100000 in
set_option maxHeartbeats 32000000 in
theorem fold_any (f:Fm) (vw va vc vk vi vo:Value) (w:World) (h:FmAt w w.heap.size f vw va vc vk vi vo) (hf:formOk f) (hal:f.acts.length≤100000):
  Calls Try.prog 11 #[fmV vw va vc vk vi vo] w (FoldIs f w):=by
 have hcl:=hf.2.2.2.1.2.1
 have hwl:=hf.1.2.2
 have HFM:=Lib.hid h
 obtain ⟨Aw,cw,rfl,lw,mw,_⟩:=h.wires
 obtain ⟨Aa,ca,rfl,la,ma,_⟩:=h.acts
 obtain ⟨Acl,cc,rfl,lc,mc,_⟩:=h.cells
 obtain ⟨Ak,ck,rfl,lk,mk,_⟩:=h.keeps
 obtain ⟨Ai,ci,rfl,li,mi,_⟩:=h.ins
 obtain ⟨Ao,co,rfl,lo,mo,_⟩:=h.outs
 have mk':ck≤9223372036854775807:=by unfold maxLen at mk;omega
 have mi':ci≤9223372036854775807:=by unfold maxLen at mi;omega
 have mo':co≤9223372036854775807:=by unfold maxLen at mo;omega
 have b1:Below w.heap.size w ((w.alloc (.cells #[.slice Aw f.wires.length cw,.slice Aa f.acts.length ca,.slice Acl f.cells.length cc,.slice Ak f.keeps.length ck,.slice Ai f.ins.length ci,.slice Ao f.outs.length co] 28)).alloc (.cells zf6 28)):=bE
 have rG1:Row ((w.alloc (.cells #[.slice Aw f.wires.length cw,.slice Aa f.acts.length ca,.slice Acl f.cells.length cc,.slice Ak f.keeps.length ck,.slice Ai f.ins.length ci,.slice Ao f.outs.length co] 28)).alloc (.cells zf6 28)) w.heap.size #[.slice Aw f.wires.length cw,.slice Aa f.acts.length ca,.slice Acl f.cells.length cc,.slice Ak f.keeps.length ck,.slice Ai f.ins.length ci,.slice Ao f.outs.length co] 28:=(Row.new w _ _).alloc _
 have rR1:Row ((w.alloc (.cells #[.slice Aw f.wires.length cw,.slice Aa f.acts.length ca,.slice Acl f.cells.length cc,.slice Ak f.keeps.length ck,.slice Ai f.ins.length ci,.slice Ao f.outs.length co] 28)).alloc (.cells zf6 28)) (w.heap.size+1) zf6 28:=rowNew2 w _ _ _
 have HR:=Lib.hid (nright_any f _ _ _ _ _ _ _ (h.next b1) (by omega))
 rw[cB_true hf] at HR
 have HOK:=Lib.hid hf
 clear h hf
 go_enter Try.func11,Try.ntmps11
 go_upto_region 1 with (fail)
 change Code.wp _ _ _ _ ((w.alloc (.cells #[.slice Aw f.wires.length cw,.slice Aa f.acts.length ca,.slice Acl f.cells.length cc,.slice Ak f.keeps.length ck,.slice Ai f.ins.length ci,.slice Ao f.outs.length co] 28)).alloc (.cells zf6 28))
 generalize (w.alloc (.cells #[.slice Aw f.wires.length cw,.slice Aa f.acts.length ca,.slice Acl f.cells.length cc,.slice Ak f.keeps.length ck,.slice Ai f.ins.length ci,.slice Ao f.outs.length co] 28)).alloc (.cells zf6 28)=w0 at*
 have hs0:=b1.size
 have hG0:=rG1.lt
 have hR0:=rR1.lt
 obtain ⟨f0,f1,f2,f3,f4,f5⟩:=rG1.six'
 go_wp2_with fail
 (with_reducible refine HR.out.mono ?_)
 rintro e w1 ⟨rfl,hb2⟩
 have b2:Below w.heap.size w w1:=b1.trans (hb2.mono hs0)
 have rG:=rG1.below hb2 hG0
 have rR:=rR1.below hb2 hR0
 have hs1:=b2.size
 have hGl:=rG.lt
 have hRl:=rR.lt
 clear f0 f1 f2 f3 f4 f5 HR hb2 rG1 rR1 b1 hs0 hG0 hR0
 obtain ⟨f0,f1,f2,f3,f4,f5⟩:=rG.six'
 go_upto_region 4 with (fail)
 have HRG:Hid (∀W,Below w1.heap.size w1 W→Row W w.heap.size #[.slice Aw f.wires.length cw,.slice Aa f.acts.length ca,.slice Acl f.cells.length cc,.slice Ak f.keeps.length ck,.slice Ai f.ins.length ci,.slice Ao f.outs.length co] 28):=fun W hW=>rG.below hW hGl
 have HRR:Hid (∀W,Below w1.heap.size w1 W→Row W (w.heap.size+1) zf6 28):=fun W hW=>rR.below hW hRl
 have HF1:=Lib.hid (HFM.out.next b2)
 have HB2:=Lib.hid b2
 clear rG rR b2 HFM
 go_cut[5] (fun v W=>∃q L,v= .pointer (some ⟨q.D,0,none⟩)∧Hid (FoN f (.slice Aw f.wires.length cw) (.slice Aa f.acts.length ca) (.slice Acl f.cells.length cc) (.slice Ak f.keeps.length ck) (.slice Ai f.ins.length ci) (.slice Ao f.outs.length co) w1 W q L))
 case first=>
  have HS:Hid (∀W,Below w1.heap.size w1 W→W.cell? ⟨w.heap.size,0,none⟩=some (.slice Aw f.wires.length cw)∧W.cell? ⟨w.heap.size,1,none⟩=some (.slice Aa f.acts.length ca)∧W.cell? ⟨w.heap.size,2,none⟩=some (.slice Acl f.cells.length cc)∧W.cell? ⟨w.heap.size,3,none⟩=some (.slice Ak f.keeps.length ck)∧W.cell? ⟨w.heap.size,4,none⟩=some (.slice Ai f.ins.length ci)∧W.cell? ⟨w.heap.size,5,none⟩=some (.slice Ao f.outs.length co)):=fun W hW=>(HRG.out W hW).six'
  have mI:=fun (n:Nat) (hn:n≤1600)=>make_ints n (by omega) (by omega)
  have mB:=fun (n:Nat) (hn:n≤1600)=>make_bools n (by omega) (by omega)
  have mIw:=mI f.wires.length hwl
  have mBw:=mB f.wires.length hwl
  have mIc:=mI f.cells.length (by omega)
  have mBc:=mB f.cells.length (by omega)
  have HBY:Hid (∀W,Below w1.heap.size w1 W→Calls Try.prog 21 #[fmV (.slice Aw f.wires.length cw) (.slice Aa f.acts.length ca) (.slice Acl f.cells.length cc) (.slice Ak f.keeps.length ck) (.slice Ai f.ins.length ci) (.slice Ao f.outs.length co)] W (ByIs f W)):=fun W hW=>by_any (HF1.out.next hW) (Nat.le_refl _) HOK.out hal
  have HCL:Hid (∀W,Below w1.heap.size w1 W→Calls Try.prog 30 #[.slice Aa f.acts.length ca] W (CloneIs 50 6 acC f.acts W)):=fun W hW=>clone_ac _ _ _ (HF1.out.next hW).acts hal
  clear mI mB f0 f1 f2 f3 f4 f5
  refine wp_region_held_drew (S:=fun W=>W.cell? ⟨w.heap.size,0,none⟩=some (.slice Aw f.wires.length cw)∧W.cell? ⟨w.heap.size,1,none⟩=some (.slice Aa f.acts.length ca)∧W.cell? ⟨w.heap.size,2,none⟩=some (.slice Acl f.cells.length cc)∧W.cell? ⟨w.heap.size,3,none⟩=some (.slice Ak f.keeps.length ck)∧W.cell? ⟨w.heap.size,4,none⟩=some (.slice Ai f.ins.length ci)∧W.cell? ⟨w.heap.size,5,none⟩=some (.slice Ao f.outs.length co)) (by kernel_rfl) ?_ (fun hHeld=>?_)
  ·(try dsimp only);(with_reducible exact HS.out _ bE)
  refine tk 0 (some 20) rfl ?_
  refine tk 1 (some 21) rfl ?_
  refine tk 3 (some 23) rfl ?_
  refine tk 5 (some 25) rfl ?_
  refine tk 6 (some 26) rfl ?_
  refine tk 8 (some 28) rfl ?_
  refine tk 10 (some 30) rfl ?_
  refine tk 12 (some 32) rfl ?_
  refine tk 13 (some 33) rfl ?_
  refine tk 14 (some 34) rfl ?_
  refine tk 16 (some 36) rfl ?_
  refine tk 17 (some 37) rfl ?_
  refine tk 18 (some 38) rfl ?_
  refine wpAnyH_makes (w0:=w1.drew) 3 [2,4,7,9,11,15,19] (fun i=>if i=2 then some 22 else if i=4 then some 24 else if i=7 then some 27 else if i=9 then some 29 else if i=11 then some 31 else if i=15 then some 35 else some 39) #[true,true,false,true,false,true,true,false,true,false,true,false,true,true,true,false,true,true,true,false,false,false,false] (FoE f) (fun W (hW:Below w1.heap.size w1.drew W)=>HS.out W (((Below.refl _ _).drew).trans hW)) (fun j x k W W' hk hW=>hk.keep hW) ?op ?fin
  case op=>
   intro i hi v W hW hS K hK
   have HKK:=Lib.hid hK
   clear hK
   have hW1:Below w1.heap.size w1 W:=((Below.refl _ _).drew).trans (show Below w1.heap.size w1.drew W from hW)
   simp only[List.mem_cons,List.not_mem_nil,or_false] at hi
   rcases hi with rfl|rfl|rfl|rfl|rfl|rfl|rfl
   ·refine wpOp_step rfl (fun KK hKK0=>?_)
    have hKK:=Lib.hid hKK0
    clear hKK0
    (try simp only[frF,List.foldl_cons,List.foldl_nil,Act.put,List.setIfInBounds_toArray])
    go_simp
    go_at_call 21
    refine Calls.mono (HBY.out _ hW1) ?_
    rintro e w8 ⟨K8,L8,rfl,hK8,rK8,hL8,hb8⟩
    have hlt8:=rK8.lt
    (try go_wp2_with fail)
    refine hKK.out _ _ (act_eq (K:=K) (by kernel_rfl) (HKK.out (.slice (some ⟨K8,0,none⟩) f.wires.length f.wires.length) [W.heap.size,K8] w8 hb8 (fun p hp=>?_) ?_))
    ·simp only[List.mem_cons,List.not_mem_nil,or_false] at hp
     rcases hp with rfl|rfl
     ·exact ⟨Nat.le_refl _,by omega⟩
     ·exact ⟨by omega,hlt8⟩
    ·unfold FoE
     rw[if_pos rfl]
     exact ⟨L8,W.heap.size,K8,rfl,by omega,by omega,rfl,rK8,hL8⟩
   ·refine wpOp_step rfl (fun KK hKK0=>?_)
    have hKK:=Lib.hid hKK0
    clear hKK0
    (try simp only[frF,List.foldl_cons,List.foldl_nil,Act.put,List.setIfInBounds_toArray])
    go_simp
    refine hKK.out _ _ (act_eq (K:=K) (by kernel_rfl) (HKK.out (.slice (some ⟨W.heap.size,0,none⟩) f.wires.length f.wires.length) [W.heap.size] (W.alloc (.cells (Array.replicate f.wires.length (.int .i64 0)) 3)) bE (fun p hp=>?_) ?_))
    ·obtain rfl:=List.mem_singleton.1 hp
     exact ⟨Nat.le_refl _,by simp⟩
    ·have:=Row.new W (Array.replicate f.wires.length (.int .i64 0)) 3
     unfold FoE
     rw[if_neg (by decide),if_pos rfl]
     exact ⟨_,rfl,rfl,by simpa[ints] using this⟩
   ·refine wpOp_step rfl (fun KK hKK0=>?_)
    have hKK:=Lib.hid hKK0
    clear hKK0
    (try simp only[frF,List.foldl_cons,List.foldl_nil,Act.put,List.setIfInBounds_toArray])
    go_simp
    go_at_call 30
    refine Calls.mono (HCL.out _ hW1) ?_
    rintro e w8 ⟨v8,rfl,ho8,hb8⟩
    (try go_wp2_with fail)
    refine hKK.out _ _ (act_eq (K:=K) (by kernel_rfl) (HKK.out v8 (v8.ownBlock.toList) w8 hb8 (fun p hp=>?_) ?_))
    ·rw[Option.mem_toList] at hp
     exact ho8.lt p hp
    ·unfold FoE
     rw[if_neg (by decide),if_neg (by decide),if_pos rfl]
     exact ⟨_,by unfold acF;exact ho8,fun g hg=>Option.mem_toList.2 hg⟩
   ·refine wpOp_step rfl (fun KK hKK0=>?_)
    have hKK:=Lib.hid hKK0
    clear hKK0
    (try simp only[frF,List.foldl_cons,List.foldl_nil,Act.put,List.setIfInBounds_toArray])
    go_simp
    refine hKK.out _ _ (act_eq (K:=K) (by kernel_rfl) (HKK.out (.slice (some ⟨W.heap.size,0,none⟩) f.wires.length f.wires.length) [W.heap.size] (W.alloc (.cells (Array.replicate f.wires.length (.bool false)) 4)) bE (fun p hp=>?_) ?_))
    ·obtain rfl:=List.mem_singleton.1 hp
     exact ⟨Nat.le_refl _,by simp⟩
    ·have:=Row.new W (Array.replicate f.wires.length (.bool false)) 4
     unfold FoE
     rw[if_neg (by decide),if_neg (by decide),if_neg (by decide),if_neg (by decide),if_neg (by decide)]
     exact ⟨_,rfl,rfl,by simpa[bls] using this⟩
   ·refine wpOp_step rfl (fun KK hKK0=>?_)
    have hKK:=Lib.hid hKK0
    clear hKK0
    (try simp only[frF,List.foldl_cons,List.foldl_nil,Act.put,List.setIfInBounds_toArray])
    go_simp
    refine hKK.out _ _ (act_eq (K:=K) (by kernel_rfl) (HKK.out (.slice (some ⟨W.heap.size,0,none⟩) f.wires.length f.wires.length) [W.heap.size] (W.alloc (.cells (Array.replicate f.wires.length (.bool false)) 4)) bE (fun p hp=>?_) ?_))
    ·obtain rfl:=List.mem_singleton.1 hp
     exact ⟨Nat.le_refl _,by simp⟩
    ·have:=Row.new W (Array.replicate f.wires.length (.bool false)) 4
     unfold FoE
     rw[if_neg (by decide),if_neg (by decide),if_neg (by decide),if_neg (by decide),if_neg (by decide)]
     exact ⟨_,rfl,rfl,by simpa[bls] using this⟩
   ·refine wpOp_step rfl (fun KK hKK0=>?_)
    have hKK:=Lib.hid hKK0
    clear hKK0
    (try simp only[frF,List.foldl_cons,List.foldl_nil,Act.put,List.setIfInBounds_toArray])
    go_simp
    refine hKK.out _ _ (act_eq (K:=K) (by kernel_rfl) (HKK.out (.slice (some ⟨W.heap.size,0,none⟩) f.cells.length f.cells.length) [W.heap.size] (W.alloc (.cells (Array.replicate f.cells.length (.bool false)) 4)) bE (fun p hp=>?_) ?_))
    ·obtain rfl:=List.mem_singleton.1 hp
     exact ⟨Nat.le_refl _,by simp⟩
    ·have:=Row.new W (Array.replicate f.cells.length (.bool false)) 4
     unfold FoE
     rw[if_neg (by decide),if_neg (by decide),if_neg (by decide),if_pos rfl]
     exact ⟨_,rfl,rfl,by simpa[bls] using this⟩
   ·refine wpOp_step rfl (fun KK hKK0=>?_)
    have hKK:=Lib.hid hKK0
    clear hKK0
    (try simp only[frF,List.foldl_cons,List.foldl_nil,Act.put,List.setIfInBounds_toArray])
    go_simp
    refine hKK.out _ _ (act_eq (K:=K) (by kernel_rfl) (HKK.out (.slice (some ⟨W.heap.size,0,none⟩) f.cells.length f.cells.length) [W.heap.size] (W.alloc (.cells (Array.replicate f.cells.length (.int .i64 0)) 3)) bE (fun p hp=>?_) ?_))
    ·obtain rfl:=List.mem_singleton.1 hp
     exact ⟨Nat.le_refl _,by simp⟩
    ·have:=Row.new W (Array.replicate f.cells.length (.int .i64 0)) 3
     unfold FoE
     rw[if_neg (by decide),if_neg (by decide),if_neg (by decide),if_neg (by decide),if_pos rfl]
     exact ⟨_,rfl,rfl,by simpa[ints] using this⟩
  case fin=>
   intro v k W hW hS hF hd
   have hW1:Below w1.heap.size w1 W:=((Below.refl _ _).drew).trans (show Below w1.heap.size w1.drew W from hW)
   obtain ⟨q,L,hq,hN⟩:=fon_of (v:=v) (k:=k) HOK.out HF1.out hW1 hF hd hal
   have x2:v 2= .slice (some ⟨(k 2).getD 1 0,0,none⟩) f.wires.length f.wires.length:=by
    obtain ⟨_,_,_,e,_,_,x,_⟩:=(hF 2 (by simp)).1
    rw[x,e];rfl
   obtain ⟨K4,x4⟩:∃K,v 4= .slice (some ⟨K,0,none⟩) f.wires.length f.wires.length:=by
    obtain ⟨K,_,x,_⟩:=(hF 4 (by simp)).1
    exact ⟨K,x⟩
   obtain ⟨A7,c7,x7⟩:∃A c,v 7= .slice A f.acts.length c:=by
    obtain ⟨b,o,_⟩:=(hF 7 (by simp)).1
    obtain ⟨A,c,x,_⟩:=own_src o
    exact ⟨A,c,x⟩
   obtain ⟨K9,x9⟩:∃K,v 9= .slice (some ⟨K,0,none⟩) f.wires.length f.wires.length:=by
    obtain ⟨K,_,x,_⟩:=(hF 9 (by simp)).1
    exact ⟨K,x⟩
   obtain ⟨K11,x11⟩:∃K,v 11= .slice (some ⟨K,0,none⟩) f.wires.length f.wires.length:=by
    obtain ⟨K,_,x,_⟩:=(hF 11 (by simp)).1
    exact ⟨K,x⟩
   obtain ⟨K15,x15⟩:∃K,v 15= .slice (some ⟨K,0,none⟩) f.cells.length f.cells.length:=by
    obtain ⟨K,_,x,_⟩:=(hF 15 (by simp)).1
    exact ⟨K,x⟩
   obtain ⟨K19,x19⟩:∃K,v 19= .slice (some ⟨K,0,none⟩) f.cells.length f.cells.length:=by
    obtain ⟨K,_,x,_⟩:=(hF 19 (by simp)).1
    exact ⟨K,x⟩
   rw[x2,x4,x7,x9,x11,x15,x19] at hN
   generalize (k 2).getD 1 0=K2 at*
   have hsW:=hW1.size
   have HNN:=Lib.hid hN
   have HQ:=Lib.hid hq
   clear hF hd hN hq mIw mBw mIc mBc HBY HCL
   (try simp only[lsF,frF,List.foldl_cons,List.foldl_nil,Act.put,List.setIfInBounds_toArray,List.set_cons_zero,List.set_cons_succ])
   rw[x2,x4,x7,x9,x11,x15,x19]
   clear x2 x4 x7 x9 x11 x15 x19
   refine tk 20 (some 40) rfl ?_
   refine rd1 21 (some 41) rfl (fun KK hKK=>?_)
   go_simp
   refine hKK.out _ _ ?_ (fun hHeld=>?_)
   ·(try dsimp only);(with_reducible exact HS.out _ bE)
   clear hKK KK
   try simp only[List.setIfInBounds_toArray,List.set_cons_zero,List.set_cons_succ]
   refine tk 22 (some 5) rfl ?_
   refine wpAnyH_done (by kernel_rfl) ?_ _
   go_wp2_with fail
   go_meet
   exact ⟨q,L,by rw[HQ.out],HNN.out⟩
 case rest=>
  clear f0 f1 f2 f3 f4 f5
  obtain ⟨q,L,rfl,HN⟩:=hcut
  have HX:=Lib.hid HN.out.far
  have HL:=Lib.hid HN.out.by_
  have hwc:=HN.out.bel.size
  go_wp2_with fail
  go_loopw[43] (fun i wr=>∃k:Nat,k≤f.wires.length∧i= .int .i64 k∧Hid (∃R A ds S,FoAt f L q wr R A ds (List.replicate f.wires.length false) (List.replicate f.cells.length false) (List.replicate f.cells.length 0)∧SetTo f k R A ds S)∧Hid (Upd (foX q) wc wr)) (fun i _=>f.wires.length-(intOf i).toNat)
  case atStart=>exact ⟨0,Nat.zero_le _,rfl,⟨_,_,_,_,HN.out.fo,SetTo.start HOK.out⟩,Upd.refl _ _⟩
  case round=>
   obtain ⟨k,hk,rfl,HS,HU⟩:=hrel
   by_cases hlt:k<f.wires.length
   ·have hk':(k:Int)<f.wires.length:=by omega
    obtain ⟨R,A,ds,S,hF,hS⟩:=HS.out
    have HC:=Lib.hid (settle_all HOK.out HL.out (HOK.out.2.2.2.2.2.2 k hlt) wr R A ds _ _ _ S hF hS.inv hS.sd (fun v hv hb _=>hS.dn v hv hb))
    have HST:=Lib.hid hS
    clear hF hS HS
    go_wp2_with fail
    (with_reducible refine HC.out.mono ?_)
    rintro e w6 ⟨rfl,⟨R',A',ds',S',hF6,hst⟩,u6⟩
    have HS':Hid (∃R A ds S,FoAt f L q w6 R A ds (List.replicate f.wires.length false) (List.replicate f.cells.length false) (List.replicate f.cells.length 0)∧SetTo f (k+1) R A ds S):=⟨_,_,_,_,hF6,HST.out.step hst⟩
    have HU':=Lib.hid (HU.out.trans u6)
    clear hF6 hst u6 HC HST
    go_wp2_with fail
    go_roundw
    case rel=>exact ⟨k+1,by omega,by go_num,HS'.out,HU'.out⟩
    case measure=>simp[intOf];omega
   obtain rfl:k=f.wires.length:=by omega
   obtain ⟨R,A,ds,S,hF,hS⟩:=HS.out
   have HI:=Lib.hid hS.done
   have HFO:=Lib.hid hF
   clear hF hS HS hlt hk
   have HBW:Hid (∀W,Upd (foX q) wc W→Below w1.heap.size w1 W):=fun W u=>HN.out.bel.trans (u.below HX.out HN.out.bel.size)
   obtain ⟨f0,f1,f2,f3,f4,f5⟩:=(HRG.out _ (HBW.out _ HU.out)).six'
   go_wp2_with fail
   clear f0 f1 f2 f3 f4 f5
   go_loopw[53] (fun i wr=>∃(k:Nat) (fr:List Int),k≤f.keeps.length∧i= .int .i64 k∧Hid (FrTo f k fr)∧Hid (FoAt f L q wr R A ds (List.replicate f.wires.length false) (List.replicate f.cells.length false) fr)∧Hid (Upd (foX q) wc wr)) (fun i _=>f.keeps.length-(intOf i).toNat)
   case atStart=>exact ⟨0,_,Nat.zero_le _,rfl,FrTo.start f,HFO.out,HU.out⟩
   case round=>
    clear HFO HU
    obtain ⟨k,fr,hk,rfl,HFR,HFO,HU⟩:=hrel
    by_cases hlt:k<f.keeps.length
    ·have hk':(k:Int)<f.keeps.length:=by omega
     have hx:f.keeps[k]? =some f.keeps[k]:=List.getElem?_eq_getElem hlt
     generalize f.keeps[k]=x at hx
     obtain ⟨b,off,rfl,d0,d1⟩:=cell_at ((HF1.out.below (HBW.out _ HU.out)).keeps) rfl hx
     have hc:=HOK.out.2.2.2.1.2.2.1 x (List.mem_of_getElem? hx)
     obtain ⟨c0,f0⟩:=x
     dsimp only at d0 d1 hc
     obtain ⟨m,rfl⟩:=Int.eq_ofNat_of_zero_le hc.1
     have hm:m<f.cells.length:=by omega
     have hm':(m:Int)<f.cells.length:=by omega
     have hwf0:Wf f0:=wf_of (by have:=hc.2.2.1.1;have:=hc.2.2.1.2;omega)
     have HFR':=Lib.hid (HFR.out.step HOK.out hx rfl hm hwf0)
     have b4:Below wr.heap.size wr (wr.alloc (.cells #[.int .i64 (m:Int),.int .i64 f0] 63)):=bE
     have rX:=Row.new wr #[.int .i64 (m:Int),.int .i64 f0] 63
     have HF4:=Lib.hid (HFO.out.below b4)
     have HU4:=Lib.hid (HU.out.trans (Upd.of_below b4))
     clear hx hc
     go_upto_region 13 with (fail)
     generalize wr.alloc (.cells #[.int .i64 (m:Int),.int .i64 f0] 63)=w4 at*
     clear d0 d1 b4
     obtain ⟨e0,e1⟩:=rX.two'
     obtain ⟨g0,g1,g2,g3,g4,g5,g6,g7,g8,g9,g10,g11,g12⟩:=HF4.out.cells
     have cF:=vs_cell HF4.out.fb (n:=m) (by rw[HF4.out.fl];exact hm)
     have fF:=HF4.out.fb.frozen m
     obtain ⟨h5,u5⟩:=HF4.out.setF m hwf0
     have H5:=Lib.hid (h5.below ((Below.refl _ _).drew))
     have HU5:=Lib.hid ((HU4.out.trans (u5.mono (Y:=foX q) (fun k e=> .inr (.inr (.inr (.inr (.inr e))))))).drew)
     generalize getI fr (m:Int)=V at cF
     clear h5 u5
     go_region
     clear g0 g1 g2 g3 g4 g5 g6 g7 g8 g9 g10 g11 g12 cF fF e0 e1 rX HF4 HU4 HFO HU
     generalize (w4.setCell ⟨q.F,m,none⟩ (.int .i64 f0)).drew=w5 at*
     go_wp2_with fail
     go_roundw
     case rel=>exact ⟨k+1,_,by omega,by go_num,HFR'.out,H5.out,HU5.out⟩
     case measure=>simp[intOf];omega
    obtain rfl:k=f.keeps.length:=by omega
    have HWO:Hid (WOk f L R A fr):=⟨HOK.out,HL.out,HI.out,HFR.out.from_ HOK.out⟩
    have HKP:=Lib.hid HFR.out.all
    clear HFR hlt hk
    obtain ⟨f0,f1,f2,f3,f4,f5⟩:=(HRG.out _ (HBW.out _ HU.out)).six'
    go_wp2_with fail
    clear f0 f1 f2 f3 f4 f5
    go_loopw[70] (fun i wr=>∃(k:Nat) (need cl:List Bool),k≤f.ins.length∧i= .int .i64 k∧Hid (FoAt f L q wr R A ds need cl fr)∧Hid (NC f R A fr need cl)∧Hid (InTo f k need)∧Hid (Upd (foX q) wc wr)) (fun i _=>f.ins.length-(intOf i).toNat)
    case atStart=>exact ⟨0,_,_,Nat.zero_le _,rfl,HFO.out,NC.start f R A fr _ _,(fun j hj=>absurd hj (by omega)),HU.out⟩
    case round=>
     clear HFO HU
     obtain ⟨k,need,cl,hk,rfl,HFO,HNC,HIN,HU⟩:=hrel
     by_cases hlt:k<f.ins.length
     ·have hk':(k:Int)<f.ins.length:=by omega
      have hx:f.ins[k]? =some f.ins[k]:=List.getElem?_eq_getElem hlt
      generalize f.ins[k]=n at hx
      obtain ⟨b,off,rfl,d0⟩:=int_atV ((HF1.out.below (HBW.out _ HU.out)).ins) rfl hx
      have hn:=List.mem_of_getElem? hx
      have hw:=(HOK.out.2.1.1 n hn).1
      have hrt:=HI.out.inp n hn hw
      have HX:=Lib.hid hx
      have HC:=Lib.hid (want_any HWO.out _ wr need cl n (Nat.le_refl _) hw hrt HFO.out)
      have HSTEP:Hid (∀need' cl',WSt f R A fr need cl n need' cl'→NC f R A fr need' cl'∧InTo f (k+1) need'):=fun need' cl' g=>⟨HNC.out.step HOK.out HI.out HWO.out.from_ g ⟨hw,hrt⟩ (.ins n hn),HIN.out.step HX.out g.up g.me⟩
      clear hx hn hw hrt HNC HIN
      go_wp2_with fail
      (with_reducible refine HC.out.mono ?_)
      rintro e w6 ⟨rfl,⟨need',cl',hF6,hst⟩,u6⟩
      obtain ⟨s1,s2⟩:=HSTEP.out _ _ hst
      have HF6:=Lib.hid hF6
      have HS1:=Lib.hid s1
      have HS2:=Lib.hid s2
      have HU6:=Lib.hid (HU.out.trans u6)
      clear hF6 hst u6 s1 s2 HC HSTEP d0
      go_wp2_with fail
      go_roundw
      case rel=>exact ⟨k+1,_,_,by omega,by go_num,HF6.out,HS1.out,HS2.out,HU6.out⟩
      case measure=>simp[intOf];omega
     obtain rfl:k=f.ins.length:=by omega
     clear hlt hk
     obtain ⟨f0,f1,f2,f3,f4,f5⟩:=(HRG.out _ (HBW.out _ HU.out)).six'
     go_wp2_with fail
     clear f0 f1 f2 f3 f4 f5
     go_loopw[81] (fun i wr=>∃(k:Nat) (need cl:List Bool),k≤f.outs.length∧i= .int .i64 k∧Hid (FoAt f L q wr R A ds need cl fr)∧Hid (NC f R A fr need cl)∧Hid (InTo f f.ins.length need)∧Hid (OutTo f R k need)∧Hid (Upd (foX q) wc wr)) (fun i _=>f.outs.length-(intOf i).toNat)
     case atStart=>exact ⟨0,_,_,Nat.zero_le _,rfl,HFO.out,HNC.out,HIN.out,(fun j hj=>absurd hj (by omega)),HU.out⟩
     case round=>
      clear HFO HU HNC HIN
      obtain ⟨k,need,cl,hk,rfl,HFO,HNC,HIN,HOU,HU⟩:=hrel
      by_cases hlt:k<f.outs.length
      ·have hk':(k:Int)<f.outs.length:=by omega
       have hx:f.outs[k]? =some f.outs[k]:=List.getElem?_eq_getElem hlt
       generalize f.outs[k]=n at hx
       obtain ⟨b,off,rfl,d0⟩:=int_atV ((HF1.out.below (HBW.out _ HU.out)).outs) rfl hx
       have hn:=List.mem_of_getElem? hx
       have hw:=(HOK.out.2.2.1.1 n hn).1
       have hrt:=HI.out.rt HOK.out hw
       have HX:=Lib.hid hx
       have HC:=Lib.hid (want_any HWO.out _ wr need cl (getI R n) (Nat.le_refl _) hrt.1 hrt.2.1 HFO.out)
       have HSTEP:Hid (∀need' cl',WSt f R A fr need cl (getI R n) need' cl'→NC f R A fr need' cl'∧InTo f f.ins.length need'∧OutTo f R (k+1) need'):=fun need' cl' g=>⟨HNC.out.step HOK.out HI.out HWO.out.from_ g ⟨hrt.1,hrt.2.1⟩ (.out n hn),HIN.out.up g.up,HOU.out.step HX.out g.up g.me⟩
       obtain ⟨m,rfl⟩:=Int.eq_ofNat_of_zero_le hw.1
       have hm:m<f.wires.length:=by have:=hw.2;omega
       have hm':(m:Int)<f.wires.length:=by omega
       obtain ⟨g0,g1,g2,g3,g4,g5,g6,g7,g8,g9,g10,g11,g12⟩:=HFO.out.cells
       have cR:=vs_cell HFO.out.r (n:=m) (by rw[HFO.out.rl];exact hm)
       generalize getI R (m:Int)=V at*
       clear hx hn hw hrt HNC HIN HOU HX
       go_wp2_with fail
       (with_reducible refine HC.out.mono ?_)
       rintro e w6 ⟨rfl,⟨need',cl',hF6,hst⟩,u6⟩
       obtain ⟨s1,s2,s3⟩:=HSTEP.out _ _ hst
       have HF6:=Lib.hid hF6
       have HS1:=Lib.hid s1
       have HS2:=Lib.hid s2
       have HS3:=Lib.hid s3
       have HU6:=Lib.hid (HU.out.trans u6)
       clear hF6 hst u6 s1 s2 s3 HC HSTEP d0 g0 g1 g2 g3 g4 g5 g6 g7 g8 g9 g10 g11 g12 cR
       go_wp2_with fail
       go_roundw
       case rel=>exact ⟨k+1,_,_,by omega,by go_num,HF6.out,HS1.out,HS2.out,HS3.out,HU6.out⟩
       case measure=>simp[intOf];omega
      obtain rfl:k=f.outs.length:=by omega
      clear hlt hk
      have HCLO:=Lib.hid (HNC.out.clo HI.out HKP.out HFO.out.el HFO.out.kl HIN.out HOU.out)
      have HM:=Lib.hid (made_any HFO.out HCLO.out.1 HOK.out hal)
      have hbr:=HBW.out _ HU.out
      clear HNC HIN HOU HWO HKP HI HL HFO
      go_wp2_with fail
      (with_reducible refine HM.out.mono ?_)
      rintro e w9 ⟨v0,v1,v2,v3,v4,v5,rfl,hfm,hb9⟩
      have hb9':=hbr.trans (hb9.mono hbr.size)
      have rR9:=HRR.out _ hb9'
      have HFM9:=Lib.hid hfm
      obtain ⟨_,_,rfl,_⟩:=hfm.wires
      obtain ⟨_,_,rfl,_⟩:=hfm.acts
      obtain ⟨_,_,rfl,_⟩:=hfm.cells
      obtain ⟨_,_,rfl,_⟩:=hfm.keeps
      obtain ⟨_,_,rfl,_⟩:=hfm.ins
      obtain ⟨_,_,rfl,_⟩:=hfm.outs
      obtain ⟨q0,q1,q2,q3,q4,q5⟩:=Row.six' (x0:= .slice none 0 0) (x1:= .slice none 0 0) (x2:= .slice none 0 0) (x3:= .slice none 0 0) (x4:= .slice none 0 0) (x5:= .slice none 0 0) rR9
      have z0:=rR9.frozen 0
      have z1:=rR9.frozen 1
      have z2:=rR9.frozen 2
      have z3:=rR9.frozen 3
      have z4:=rR9.frozen 4
      have z5:=rR9.frozen 5
      have HBW9:=Lib.hid (HB2.out.trans (hb9'.mono hs1))
      clear hfm hb9 hb9' hbr HM
      go_wp2_with fail
      refine bodyPost_ret (res2 rfl Try.underlying28 rfl (by kernel_rfl) rfl rfl (Row.set6 rR9 _ _ _ _ _ _)) rfl ⟨R,A,fr,need,cl,_,_,_,_,_,_,HCLO.out.1,HCLO.out.2,rfl,?_,?_⟩
      ·refine (fm_keepO HFM9.out rR9 (upd_set6 _ _ _ _ _ _) (Nat.le_refl _)).more ?_
       simp[World.setCell]
      ·exact HBW9.out.trans ((upd_set6 _ _ _ _ _ _).below (fun k hk=>by omega) HBW9.out.size)
end Go.Proofs.Ytckognjamlckcaa
