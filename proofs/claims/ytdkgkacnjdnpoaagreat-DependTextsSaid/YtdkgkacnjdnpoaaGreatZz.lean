/-
  Runs of tactics that stand in many proofs, each as a theorem's default argument.
-/
import Derived.ArgAppend
import Derived.Below
import Derived.BigQuiet
import Derived.Carry
import Derived.ChangeOld
import Derived.DataReads
import Derived.Deep.AppendLies
import Derived.Deep.CutBlock
import Derived.Deep.DeepCutAuto
import Derived.Deep.DrawnRows
import Derived.Deep.Draws
import Derived.Deep.LoopGhost
import Derived.Deep.QuietTactic
import Derived.Deep.RegionHeld
import Derived.Deep.RegionHeld3
import Derived.Deep.RegionLaw
import Derived.Deep.RegionLawGrows
import Derived.Deep.RegionWith
import Derived.Ground.GgzProg
import Derived.Ground.SlgmProg
import Derived.IntWalk
import Derived.JoinedOf
import Derived.Laws.AppendOwnNone
import Derived.Laws.Bits64b
import Derived.Laws.Concat
import Derived.Laws.CopyOwn
import Derived.Laws.EntriesVeiled
import Derived.Laws.MakeOwn
import Derived.Laws.OwnMore
import Derived.Laws.StructEq
import Derived.Lib.AppendZeros
import Derived.Lib.Hide
import Derived.Lib.SliceRun
import Derived.LoopIn
import Derived.LoopNIn
import Derived.LoopTactic
import Derived.Maps.AppendAt
import Derived.Maps.Own
import Derived.Maps.OwnIn
import Derived.Maps.OwnOps
import Derived.Maps.OwnSet
import Derived.Maps.Views
import Derived.OpenShut
import Derived.Outline
import Derived.OwnWalk
import Derived.OwnWalkIn
import Derived.ProofKit
import Derived.RangeFuncBound
import Derived.RangeFuncCalls
import Derived.RangeFuncLeaves
import Derived.RangeFuncNested
import Derived.RangeFuncWrites
import Derived.RegionTactic
import Derived.RowKit
import Derived.RowKit3
import Derived.ScopeJumps
import Derived.Shelf.Abstract
import Derived.Shelf.RegionOpen
import Derived.Shelf.SlIter.Nil
import Derived.Shelf.SortM.Plain
import Derived.Shelf.SortM.SortNone
import Derived.Shelf.Strings.Builder1
import Derived.ShutString
import Derived.Sort.CutIn
import Derived.Sort.KeysCollected
import Derived.Sort.Walk0
import Derived.StillTailTactics
import Derived.TacticsInMore
import Derived.WalkKit
import Derived.WalkLawsBesides
import Derived.WalkMore
import Derived.WalkSpells
namespace Go.Proofs.YtdkgkacnjdnpoaaGreat
inductive zD{p:Prop}(h:p):Prop where
 |zM:zD h
theorem zE{p:Prop}(h:p)(_:zD h):p:=h
variable{p:Prop}
theorem zq23(h:p:=by
 have re1:=Row.new w (exA e A cap) 63
 have b1:Below w.heap.size w (w.alloc (.cells (exA e A cap) 63)):=(by repeat (first|(with_reducible assumption)|(with_reducible exact Below.refl _ _)|(with_reducible refine Below.drew ?_)|(with_reducible refine below_drewN' ?_ _)|(with_reducible refine Below.alloc ?_ (by first|assumption|omega|(simp;omega)|simp|(simp[World.setCell];omega)|simp[World.setCell]) _)|(with_reducible refine Below.setCell ?_ (by first|assumption|omega|(simp;omega)|simp|(simp[World.setCell];omega)|simp[World.setCell]) _)))
 all_goals(apply_rules(newGoals:= .nonDependentOnly)(maxDepth:=1)only[zE];constructor)):p:=h
theorem zq130(h:p:=by
 have HX:Hid (∀W,Below B w W→IsExs W B A e.args):=fun W hW=>hx.below hW
 have hlg:=h.lt
 have hlo:=h.lo
 have hsB:=h.size
 all_goals(apply_rules(newGoals:= .nonDependentOnly)(maxDepth:=1)only[zE];constructor)):p:=h
theorem zq0(h:p:=by
 intro f A cap w h hok hl hm hx hk
 have HOO:=Lib.hid o
 clear o
 have hown:=hk.own
 have hpar:=parts_of hown.plain
 have h8:e.args.length≤8:=by
  obtain ⟨⟨p0,p1⟩,p2,p3,p4,p5,p6⟩:=hpar
  rcases ops_all ⟨p0,p1⟩ with o|o|o|o|o|o|o|o|o|o
  ·have:=p2 (by omega);omega
  ·have:=p2 (by omega);omega
  ·have:=p2 (by omega);omega
  ·have:=p3 o;omega
  ·by_cases o5:e.op=5∨e.op=6
   ·have:=p4 (by omega);omega
   ·have:=p5 (by omega);omega
  ·have:=p4 (by omega);omega
  ·have:=p5 (by omega);omega
  ·have:=p4 (by omega);omega
  ·have:=p5 (by omega);omega
  ·have:=p6 o;omega
 have HPAR:=Lib.hid hpar
 have HOWN:=Lib.hid hown
 refine' zq23
 refine' zq130
 have HU1:Hid (UpdM g w (w.alloc (.cells (exA e A cap) 63))):=UpdM.of b1
 have HP:=Lib.hid (parts_tany T B g e HI f A cap _ (h.bel b1) hm (hx.below (UpdM.bel HU1.out hlo hsB)) hk h8)
 have HMX:=Lib.hid hm
 have hm':cap≤9223372036854775807:=by unfold maxLen at hm;omega
 have hsw:(w.alloc (.cells (exA e A cap) 63)).heap.size=w.heap.size+1:=by simp
 clear h hx hk hown hpar HI hok hm
 go_enter Tryz.func143,Tryz.ntmps143
 go_upto_region 1 with (fail)
 generalize w.alloc (.cells (exA e A cap) 63)=W1 at*
 have hs1:=b1.size
 obtain ⟨x0,x1,x2,x3,x4,x5⟩:=re1.ex6
 go_wp2_with fail
 refine HP.out.mono ?_
 rintro r w2 ⟨⟨v,rfl,HV⟩,ht2,hu2⟩
 have HU2:Hid (UpdM g w w2):=Upd.trans HU1.out hu2
 have re2:=Row.upd hu2 re1 (by omega)
 have hs2:=hu2.size
 have HBD:=Lib.hid (bad_any T _ g w2 ht2.row ht2.fz)
 clear x0 x1 x2 x3 x4 x5 hu2 HP
 by_cases hb:(ft2 f (fstl (argFs T.s T.n e))).err=0
 rotate_left 1
 ·have HB:Hid (badB (ft2 f (fstl (argFs T.s T.n e)))=true):=neq_yes hb
  have HE:Hid (ft2 f (tyF T.s T.n e)=ft2 f (fstl (argFs T.s T.n e))):=by show _=_;rw[tyF_eq,←ft2_assoc,ft2_1 hb]
  have HBB:=Lib.hid hb
  have HT2:=Lib.hid ht2
  clear hb ht2
  go_wp2_with fail
  refine HBD.out.mono ?_
  rintro r w3 ⟨rfl,rfl⟩
  rw[HB.out]
  go_wp2_with fail
  go_ret
  refine ⟨⟨0,rfl,fun g0=>absurd (by rw[←HE.out];exact g0) HBB.out⟩,?_,HU2.out⟩
  rw[HE.out]
  exact HT2.out
 have h0:ft2 f (fstl (argFs T.s T.n e))=ft0:=ht2.fz hb
 have hv:=HV.out hb
 rw[h0] at ht2 HBD
 have HT2:=Lib.hid ht2
 have HE:Hid (ft2 f (tyF T.s T.n e)=opF T.s T.n e (argKs T.s T.n e)):=by show _=_;rw[tyF_eq,←ft2_assoc,h0,ft2_l]
 have HKE:Hid (tyK T.s T.n e=opTy T.s T.n e (argKs T.s T.n e)):=tyK_eq _ _ _
 have hll:(argKs T.s T.n e).length=e.args.length:=argKs_len _ _ _
 obtain ⟨l,HLK⟩:∃l,Hid (argKs T.s T.n e=l):=⟨_,rfl⟩
 rw[HLK.out] at HE HKE hll hv
 have HVV:=Lib.hid hv
 have HLL:=Lib.hid hll
 have HFIN:Hid (∀(k:Int) w',TpAt w' B g T (opF T.s T.n e l)→UpdM g w w'→k=opTy T.s T.n e l→OfR w B g T f e (.returned (.int .i64 k)) w'):=fun k w' h1 h2 h3=>by
  refine ⟨⟨k,rfl,fun _=>h3.trans HKE.out.symm⟩,?_,h2⟩
  rw[HE.out]
  exact h1
 clear hb h0 HV ht2 hv hll HLK HE HKE
 go_wp2_with fail
 refine HBD.out.mono ?_
 rintro r w3 ⟨rfl,rfl⟩
 rw[show badB ft0=false from rfl]
 go_upto_region 4 with (fail)
 obtain ⟨x0,x1,x2,x3,x4,x5⟩:=re2.ex6
 have HXW:=Lib.hid (HX.out w2 (UpdM.bel HU2.out hlo hsB))
 have hgb:g<W1.heap.size:=by omega
 have o:=HOO.out
 all_goals(apply_rules(newGoals:= .nonDependentOnly)(maxDepth:=1)only[zE];constructor)):p:=h
theorem zq1(h:p:=by
 try simp only[Act.put,List.setIfInBounds_toArray,List.set_cons_zero,List.set_cons_succ]
 all_goals(apply_rules(newGoals:= .nonDependentOnly)(maxDepth:=1)only[zE];constructor)):p:=h
theorem zq2(h:p:=by
 obtain ⟨⟨k0,k1,k2⟩,h0,h1,h2⟩:=rf9.three
 go_wp2_with fail
 exact bodyPost_ret (res1 rfl Tryz.underlying38 rfl (by kernel_rfl) rfl (rf9.set3 _ _ _)) rfl ⟨(congrArg (fun f=>Ending.returned (ftV f)) HF.out).symm,below_set3 b9 (by first|omega|(simp;omega)|simp) _ _ _⟩
 all_goals(apply_rules(newGoals:= .nonDependentOnly)(maxDepth:=1)only[zE];constructor)):p:=h
theorem zq113(h:p:=by
 go_wp2_with fail
 refine (name_any e.name _ hnm).mono ?_
 rintro r w1 ⟨rfl,hb1⟩
 obtain ⟨hb2,hc⟩:=HW.out w1 (by simpa using hb1)
 generalize nameB e.name.toList=N at*
 cases N
 all_goals
  go_wp2_with fail
  go_ret
  exact ⟨ret_bool HR.out.symm,hb2⟩
 all_goals(apply_rules(newGoals:= .nonDependentOnly)(maxDepth:=1)only[zE];constructor)):p:=h
theorem zq3(h:p:=by
 go_wp2_with fail
 refine (names_any e.op _).mono ?_
 rintro r w' ⟨rfl,rfl⟩
 rw[HNB.out]
 clear HNB HG
 cases nb
 ·by_cases h4:e.op=4
  ·have HR:=Lib.hid (HF.out.trans (show plainR false e=(nameB e.name.toList && e.n==0) by unfold plainR;rw[if_pos (.inr h4)]))
   have h4':(e.op==4)=true:=by simp[h4]
   clear h4 HF
   refine' zq113
  ·have h4':(e.op==4)=false:=by simp[h4]
   cases hE:e.name.toList.isEmpty
   ·have HR:=Lib.hid (HF.out.trans (show plainR false e=false by unfold plainR;rw[if_neg (by simp[h4]),hE];simp))
    clear h4 HF
    go_wp2_with fail
    all_goals (go_ret;exact ⟨ret_bool HR.out.symm,hB⟩)
   ·by_cases h1:e.op=1
    ·have HR:=Lib.hid (HF.out.trans (show plainR false e=decide (0≤e.n) by unfold plainR;rw[if_neg (by simp[h4]),if_pos h1,hE];rfl))
     have h1':(e.op==1)=true:=by simp[h1]
     clear h4 HF h1
     go_wp2_with fail
     all_goals (go_ret;exact ⟨ret_bool HR.out.symm,hB⟩)
    ·have h1':(e.op==1)=false:=by simp[h1]
     by_cases h2:e.op=2
     ·have HR:=Lib.hid (HF.out.trans (show plainR false e=(e.n==0||e.n==1) by unfold plainR;rw[if_neg (by simp[h4]),if_neg h1,if_pos h2,hE];rfl))
      have h2':(e.op==2)=true:=by simp[h2]
      clear h4 HF h1 h2
      cases hn:(e.n==0)
      all_goals
       go_wp2_with fail
       go_ret
       exact ⟨ret_bool (by rw[HR.out,hn];rfl),hB⟩
     ·have HR:=Lib.hid (HF.out.trans (show plainR false e=(e.n==0) by unfold plainR;rw[if_neg (by simp[h4]),if_neg h1,if_neg h2,hE];rfl))
      have h2':(e.op==2)=false:=by simp[h2]
      clear h4 HF h1 h2
      go_wp2_with fail
      all_goals (go_ret;exact ⟨ret_bool HR.out.symm,hB⟩)
 ·have HR:=Lib.hid (HF.out.trans (show plainR true e=(nameB e.name.toList && e.n==0) by unfold plainR;rw[if_pos (.inl rfl)]))
  clear HF
  refine' zq113
 all_goals(apply_rules(newGoals:= .nonDependentOnly)(maxDepth:=1)only[zE];constructor)):p:=h
theorem zq95(h:p:=by
 (try go_wp2_with fail)
 refine hKK.out _ _ ?_ (fun hHeld=>?_)
 ·(try dsimp only);(first|(with_reducible exact HS6.out _ bE)|go_keep)
 clear hKK KK
 refine' zq1
 all_goals(apply_rules(newGoals:= .nonDependentOnly)(maxDepth:=1)only[zE];constructor)):p:=h
theorem zq4(h:p:=by
 refine wp_region_held_drew (S:=fun W=>W.cell? ⟨w.heap.size,0,none⟩=some (.pointer (some ⟨D,0,none⟩))∧(W.cell? ⟨w.heap.size+1,1,none⟩=some (.int .i64 e.op)∧W.cell? ⟨w.heap.size+1,2,none⟩=some (.string e.name)∧W.cell? ⟨w.heap.size+1,3,none⟩=some (.int .i64 e.n)∧W.cell? ⟨w.heap.size+1,4,none⟩=some (.slice A e.args.length cap)∧W.cell? ⟨w.heap.size+1,5,none⟩=some (.int .i64 e.line)∧W.cell? ⟨w.heap.size+1,6,none⟩=some (.int .i64 e.col))∧W.cell? ⟨X,0,none⟩=some (.int .i64 T)∧W.cell? ⟨X,1,none⟩=some (.slice Ag C.length cg)) (by kernel_rfl) ?_ (fun hHeld=>?_)
 ·(try dsimp only);(first|(with_reducible exact HS6.out _ bE)|go_keep)
 refine tk 0 (some 26) rfl ?_
 refine tk 1 (some 27) rfl ?_
 refine rd1 2 (some 28) rfl (fun KK hKK=>?_)
 go_simp
 (go_at_call 113;refine Calls.mono (HHE.out _ bE) ?_;rintro r w8 ⟨rfl,hb8⟩;(have hb9:Below w4.heap.size w4 w8:=Below.trans bE (hb8.mono lE));(have hs9:=hb9.size))
 refine' zq95
 refine tk 3 (some 29) rfl ?_
 refine tk 4 (some 30) rfl ?_
 all_goals(apply_rules(newGoals:= .nonDependentOnly)(maxDepth:=1)only[zE];constructor)):p:=h
theorem zq82(h:p:=by
 have rf1:=rowNew2 w (.cells #[.slice A s.length cap] 24) ftC0 38
 have rs1:=(Row.new w #[.slice A s.length cap] 24).alloc (.cells ftC0 38)
 all_goals(apply_rules(newGoals:= .nonDependentOnly)(maxDepth:=1)only[zE];constructor)):p:=h
theorem zq87(h:p:=by
 have HS:Hid (∀W,Below w.heap.size w W→Nds W w.heap.size A s):=fun W hW=>nds_keep h (keeps_of hW) (Nat.le_refl _)
 all_goals(apply_rules(newGoals:= .nonDependentOnly)(maxDepth:=1)only[zE];constructor)):p:=h
theorem zq5(h:p:=by
 refine' zq82
 have b1:Below w.heap.size w ((w.alloc (.cells #[.slice A s.length cap] 24)).alloc (.cells ftC0 38)):=(by repeat (first|(with_reducible assumption)|(with_reducible exact Below.refl _ _)|(with_reducible refine Below.drew ?_)|(with_reducible refine below_drewN' ?_ _)|(with_reducible refine Below.alloc ?_ (by first|assumption|omega|(simp;omega)|simp|(simp[World.setCell];omega)|simp[World.setCell]) _)|(with_reducible refine Below.setCell ?_ (by first|assumption|omega|(simp;omega)|simp|(simp[World.setCell];omega)|simp[World.setCell]) _)))
 refine' zq87
 have HSM:=Lib.hid sm
 all_goals(apply_rules(newGoals:= .nonDependentOnly)(maxDepth:=1)only[zE];constructor)):p:=h
theorem zq92(h:p:=by
 go_upto_region 1 with (fail)
 generalize (w.alloc (.cells #[.slice A s.length cap] 24)).alloc (.cells ftC0 38)=W1 at*
 have hs1:=b1.size
 all_goals(apply_rules(newGoals:= .nonDependentOnly)(maxDepth:=1)only[zE];constructor)):p:=h
theorem zq6(h:p:=by
 refine' zq92
 have c0:=rs1.src
 go_wp2_with fail
 refine (check15_any s A cap W1 HSM.out h1 h2 (nds_keep (HS.out W1 b1) (fun _ _ _ h=>h) hs1)).mono ?_
 rintro r w2 ⟨rfl,hb2⟩
 have rs2:=rs1.below hb2 rs1.lt
 have rf2:=rf1.below hb2 rf1.lt
 have hB2:=b1.trans (hb2.mono hs1)
 have hs2:=hB2.size
 all_goals(apply_rules(newGoals:= .nonDependentOnly)(maxDepth:=1)only[zE];constructor)):p:=h
theorem zq57(h:p:=by
 (try dsimp only);(first|(with_reducible exact HS.out _ hu10)|(with_reducible exact HS.out _ hu8)|(with_reducible exact HS.out _ (Upd.of_below bE)))
 all_goals(apply_rules(newGoals:= .nonDependentOnly)(maxDepth:=1)only[zE];constructor)):p:=h
theorem zq48(h:p:=by
 refine hKK.out _ _ ?_ (fun hHeld=>?_)
 ·refine' zq57
 clear hKK KK
 refine' zq1
 all_goals(apply_rules(newGoals:= .nonDependentOnly)(maxDepth:=1)only[zE];constructor)):p:=h
theorem zq7(h:p:=by
 refine' zq48
 refine rd1 17 (some 81) rfl (fun KK hKK=>?_)
 go_simp
 (go_at_call 63;refine Calls.mono (fdef_any (F x0) y Ay cy _ (HMc.out.below hb8) (HIc.out.below hb8) hne9.out hey (by first|omega|(simp;omega)) (fun g hg=>by have:=hvd g hg;first|omega|(simp;omega)) hT9) ?_;rintro e w9 ⟨rfl,⟨vd',hm9,hx9,hv9⟩,hu9⟩;(have hu10:=hu8.trans hu9))
 (try go_wp2_with fail)
 refine' zq48
 refine wpAnyH_done (by kernel_rfl) ?_ _
 have HM9:=Lib.hid hm9
 have HI9:=Lib.hid hx9
 have HG9:Hid (∀g,vd'.ownBlock=some g→w.heap.size≤g):=fun g hg=>hv9.elim (fun e9=>(hvd g (e9.symm.trans hg)).1) (fun ⟨g',e9,h9⟩=>by rw[hg] at e9;cases e9;omega)
 have HU9:=Lib.hid (HUF.out _ hu10)
 have HL9:Hid ((T++ [(⟨[.int .i64 (F x0)],y,Ay,cy⟩:FT)]).length=k+1∧(T++ [(⟨[.int .i64 (F x0)],y,Ay,cy⟩:FT)]).map (fun t=>(t.pre,t.e))=(D.take (k+1)).map (fun d=>([.int .i64 d.1],d.2))):=⟨by rw[List.length_append,HTL.out.1];rfl,by rw[List.map_append,HTL.out.2,List.take_add_one,HDK.out];simp⟩
 clear hm9 hx9 hu9 hu10 hv9 hey
 go_wp2_with fail
 go_roundw
 case rel=>exact ⟨k+1,_,_,by omega,by go_num,HM9,HI9,HL9,HG9,HU9⟩
 case measure=>first|(simp[intOf];omega)|simp[intOf]
 all_goals(apply_rules(newGoals:= .nonDependentOnly)(maxDepth:=1)only[zE];constructor)):p:=h
theorem zq8(h:p:=by
 intro fuel
 induction fuel with
 |zero=>
  intro listed a w _ hr hy hS H
  refine ⟨fun h=>(by rw[h] at hr;cases hr),fun j hj=>?_⟩
  by_cases hji:j=i
  ·subst hji;exact hy.wpOp hi hS ⟨fun _=>hS,H⟩
  ·have:=ready_mono hj hji
   rw[H.1] at this
   cases this
 |succ fuel ih=>
  intro listed a w hfree hr hy hS H
  refine ⟨fun h=>(by rw[h] at hr;cases hr),fun j hj=>?_⟩
  by_cases hji:j=i
  ·subst hji;exact hy.wpOp hi hS ⟨fun _=>hS,H⟩
  ·have hjs:j≠s:=fun e=>last_not hl hr (e▸hj)
   have h1:=H.2 j (ready_mono hj hji)
   obtain ⟨hjun,oj,hoj,hall⟩:=mem_ready.1 hj
   have hnot:∀e∈oj.after,Region.binds md e=true→e.on≠i:=fun e he hb heq=>by
    have h1:=hall e he hb
    have h0:=(mem_ready.1 hr).1
    rw[heq] at h1
    rcases Nat.lt_or_ge i listed.size with h'|h'
    ·simp[h'] at h0 h1;rw[h0] at h1;cases h1
    ·simp[Array.getElem?_eq_none h'] at h1
   have h2:=wpOp_putIf hoj (hfree j oj hoj hji hjun hnot) (fun cs b=>hsel i oi cs b hi) (fun cs b=>hsel j oj cs b hoj) hQ hy h1
   have hfree':∀k ok,ops[k]? =some ok→k≠i→(listed.setIfInBounds j true).getD k true=false→
     (∀e∈ok.after,Region.binds md e=true→e.on≠i)→oi.apart ops ok=true:=fun k ok hk hki hun hno=>by
    refine hfree k ok hk hki ?_ hno
    by_cases hjk:j=k
    ·subst hjk;exact hjun
    ·rw[getD_set_ne true hjk] at hun;exact hun
   refine wpOp_mono (fun a' w' h3=>⟨h3.2.1,ih (listed.setIfInBounds j true) a' w' hfree' (ready_mono hr (Ne.symm hji)) h3.1 (h3.2.1 hjs) ?_⟩) h2
   rw[Array.setIfInBounds_comm _ _ hji]
   exact h3.2.2
 all_goals(apply_rules(newGoals:= .nonDependentOnly)(maxDepth:=1)only[zE];constructor)):p:=h
theorem zq9(h:p:=by
 go_wp2_with fail
 exact bodyPost_ret (res1 rfl Tryz.underlying38 rfl (by kernel_rfl) rfl ((rf2.set3 _ _ _).alloc _)) rfl ⟨(congrArg (fun f=>Ending.returned (ftV f)) HF.out).symm,(below_set3 hB2 (by first|omega|(simp;omega)|simp) _ _ _).alloc (by first|(simp[World.setCell];omega)|simp[World.setCell]) _⟩
 all_goals(apply_rules(newGoals:= .nonDependentOnly)(maxDepth:=1)only[zE];constructor)):p:=h
theorem zq10(h:p:=by
 go_enter Tryz.func64,Tryz.ntmps64
 go_upto_region 2 with (fail)
 have b1:Below w.heap.size w (((w.alloc (.cells (exA e A cap) 63)).alloc (.cells zeA 63)).alloc (.cells (ouA e e.n (.slice none 0 0)) 63)):=bE
 have rE:=((Row.new w (exA e A cap) 63).alloc (.cells zeA 63)).alloc (.cells (ouA e e.n (.slice none 0 0)) 63)
 have rR:=(rowNew2 w (.cells (exA e A cap) 63) zeA 63).alloc (.cells (ouA e e.n (.slice none 0 0)) 63)
 have rO:Row (((w.alloc (.cells (exA e A cap) 63)).alloc (.cells zeA 63)).alloc (.cells (ouA e e.n (.slice none 0 0)) 63)) (w.heap.size+1+1) (ouA e e.n (.slice none 0 0)) 63:=by
  have:=Row.new ((w.alloc (.cells (exA e A cap) 63)).alloc (.cells zeA 63)) (ouA e e.n (.slice none 0 0)) 63
  simpa using this
 change Code.wp _ _ _ _ (((w.alloc (.cells (exA e A cap) 63)).alloc (.cells zeA 63)).alloc (.cells (ouA e e.n (.slice none 0 0)) 63))
 have hs1:w.heap.size+3≤(((w.alloc (.cells (exA e A cap) 63)).alloc (.cells zeA 63)).alloc (.cells (ouA e e.n (.slice none 0 0)) 63)).heap.size:=by simp
 generalize ((w.alloc (.cells (exA e A cap) 63)).alloc (.cells zeA 63)).alloc (.cells (ouA e e.n (.slice none 0 0)) 63)=W1 at*
 obtain ⟨x0,x1,x2,x3,x4,x5⟩:=rE.ex6
 all_goals(apply_rules(newGoals:= .nonDependentOnly)(maxDepth:=1)only[zE];constructor)):p:=h
theorem zq11(h:p:=by
 have HP:=Lib.hid hp
 have c0:=hc 0 _ rfl
 have c1:=hc 1 _ rfl
 have c2:=hc 2 _ rfl
 have c3:=hc 3 _ rfl
 have c4:=hc 4 _ rfl
 have c5:=hc 5 _ rfl
 clear hp hc
 refine callsIn_of_wp Tryz.func71 rfl hf1 ?_ hro
 simp only[Tryz.ntmps71,List.size_toArray,List.length_cons,List.length_nil,Nat.reduceAdd,Nat.reduceSub,Array.replicate_succ,Array.replicate_zero,List.push_toArray,List.append_toArray,List.nil_append,List.cons_append]
 gi_wp2_with ((try refine ⟨hdd _,?_⟩);gi_at_call 72;refine HP.out.mono ?_;clear HP;rintro e W1 (⟨rfl,q,hq,hJ1,_⟩|⟨rfl,q,hq,hx⟩))
 ·go_end0
  exact ⟨⟨_,rfl⟩,.inl ⟨q,hq,by simpa using hJ1⟩⟩
 ·go_end0
  exact ⟨⟨_,rfl⟩,.inr ⟨q,hq,by simpa using hx⟩⟩
 all_goals(apply_rules(newGoals:= .nonDependentOnly)(maxDepth:=1)only[zE];constructor)):p:=h
theorem zq12(h:p:=by
 first|((have hlv:=(HS.out w5.drew bE).2.2);(refine step_look rfl _ _ rfl K rfl x.name rfl (.int .i64 (F x.name)) hlv ?_))|(rw[if_pos (by kernel_rfl)];refine wp_append_any _ (.tmp 14) (.tmp 22) 34 rfl w.heap.size 3 i0 _ 1 8 Tryz.underlying34 hi0 hz0 hz1 hz2 rfl (by decide) _ k _ rfl (own_below ho2 (bE:Below w5.heap.size w5 _)) ⟨_,0,none⟩ 1 1 [.int .i64 (F x.name)] rfl rfl (cell_one _ _ _) (by intro u hu;simp at hu;subst hu;rfl) (by unfold maxLen;omega) (by omega) (by first|omega|(simp;omega)|simp) ?_;intro v13 w13 hown13 hg13 _;(have hb13:Below w.heap.size w w13:=below_own (hb5.trans (Below.mono (bE:Below w5.heap.size w5 _) hb5.size)) (own_below ho2 (bE:Below w5.heap.size w5 _)) hg13 (by first|omega|(simp;omega)|simp));(have HS13:Hid (w13.cell? ⟨P,7,none⟩=some (.map (some K))∧w13.cell? ⟨wr.heap.size,0,none⟩=some (.string x.name)∧(Instr.lookup 85 (.map (some K)) (.string x.name) false).run Tryz.prog w13= .ok (.int .i64 (F x.name)) w13):=(by have p1:=HH.out.below hb13;exact ⟨(p1.row.cell 7).trans rfl,((Row.grownE (rx.below (bE:Below w5.heap.size w5 _) hsx) hg13 (own_ne (own_below ho2 (bE:Below w5.heap.size w5 _)) (rx.below (bE:Below w5.heap.size w5 _) hsx) (by decide))).cell 0).trans rfl,p1.map.look HX.out.1 HX.out.2⟩)))
 refine hKK.out _ _ ?_ (fun hHeld=>?_)
 ·(try dsimp only);(first|exact HS13.out|(with_reducible exact HS.out _ bE))
 clear hKK KK
 refine' zq1
 all_goals(apply_rules(newGoals:= .nonDependentOnly)(maxDepth:=1)only[zE];constructor)):p:=h
theorem zq13(h:p:=by
 have e1:=beq_yes e
 have HM:Hid (nm∈s.map Nd.name):=by show _∈_;rw[←e];exact List.mem_map_of_mem (List.mem_of_getElem? HX.out)
 have HF:=Lib.hid (nodeAt_at HN.out HX.out e)
 clear e
 go_wp2_with fail
 have bb:=(below_set7 (Below.refl w.heap.size wr) (Nat.le_succ w.heap.size) (.string n.name) (.slice a.ai n.ins.length a.ci) (.slice a.ao n.outs.length a.co) (.slice a.av n.vars.length a.cv) (.slice a.aq n.eqs.length a.cq) (.int .i64 n.line) (.int .i64 n.col)).alloc (by simp[World.setCell];omega) (.cells (ndArr n a) 58)
 have HQ:Hid (Ending.returned (.tuple #[ndV n a,.bool true])= .returned (.tuple #[ndV n a,.bool (cB (nm∈s.map Nd.name))])):=by show _=_;rw[cB_true HM.out]
 all_goals(apply_rules(newGoals:= .nonDependentOnly)(maxDepth:=1)only[zE];constructor)):p:=h
theorem zq14(h:p:=by
 go_region_held3 (fun W=>W.cell? ⟨w.heap.size,0,none⟩=some (.slice (some ⟨b,off,none⟩) s.length cap)∧W.cell? ⟨wr.heap.size,0,none⟩=some (.string n.name)) (first|(with_reducible exact kk)|(with_reducible exact ⟨(rs3.far7 hne1 _ _ _ _ _ _ _).src,(rn3.far7 hne2 _ _ _ _ _ _ _).nd.1⟩)|go_keep)
  (first|((go_at_call 37);(refine (find_any (s.take k) k (some ⟨b,off,none⟩) cap n.name _ HMK.out (by omega) h2 (HNS.out _ (ba.trans (Below.mono (B:=W2.heap.size) bE hs2)))).mono ?_);rintro e w3 ⟨⟨n',a',rfl,hyes,hno⟩,hb3⟩;(rw[HC.out]);(try (have r5:Row w3 W2.heap.size ndZ 58:=(by first|(with_reducible exact Row.below (Row.drew (Row.new W2 ndZ 58)) hb3 (by simp))|(with_reducible exact Row.below (Row.new W2.drew ndZ 58) hb3 (by simp)));obtain ⟨⟨x0,x1,x2,x3,x4,x5,x6⟩,g0,g1,g2,g3,g4,g5,g6⟩:=r5.seven));(have hb5:Below W2.heap.size W2 w3:=Below.trans bE (hb3.mono lE));(have rs3:=rs2.below hb5 rs2.lt);(have rn3:=rn.below hb5 rn.lt);(have hb4:Below W2.heap.size W2 w3:=Below.trans bE (hb3.mono lE));(have hs4:=hb4.size);(have kk:(fun W=>W.cell? ⟨w.heap.size,0,none⟩=some (.slice (some ⟨b,off,none⟩) s.length cap)∧W.cell? ⟨wr.heap.size,0,none⟩=some (.string n.name)) w3:=⟨rs3.src,rn3.nd.1⟩)))
 all_goals
  go_wp2_with fail
  go_meet
  exact ⟨rfl,bE⟩
 all_goals(apply_rules(newGoals:= .nonDependentOnly)(maxDepth:=1)only[zE];constructor)):p:=h
theorem zq159(h:p:=by
 (try dsimp only);(first|exact q4|exact q9|exact HS8.out _|exact HS7.out)
 all_goals(apply_rules(newGoals:= .nonDependentOnly)(maxDepth:=1)only[zE];constructor)):p:=h
theorem zq15(h:p:=by
 refine hKK.out _ _ ?_ (fun hHeld=>?_)
 ·refine' zq159
 clear hKK KK
 refine' zq1
 all_goals(apply_rules(newGoals:= .nonDependentOnly)(maxDepth:=1)only[zE];constructor)):p:=h
theorem zq16(h:p:=by
 obtain rfl:k=s.length:=by omega
 have HM:Hid (nm∉s.map Nd.name):=fun g=>by
  obtain ⟨n,hn,he⟩:=List.mem_map.1 g
  obtain ⟨j,hj⟩:=List.getElem?_of_mem hn
  exact HN.out j (List.getElem?_eq_some_iff.1 hj).1 n hj he
 go_wp2_with fail
 have HQ:Hid (Ending.returned (.tuple #[ndV nd0 nda0,.bool false])= .returned (.tuple #[ndV nd0 nda0,.bool (cB (nm∈s.map Nd.name))])):=by show _=_;rw[cB_false HM.out]
 exact bodyPost_ret (v:= .tuple #[ndV nd0 nda0,.bool false]) (res2 rfl Tryz.underlying58 rfl (by kernel_rfl) rfl rfl (rr.set7 _ _ _ _ _ _ _)) rfl ⟨⟨nd0,nda0,HQ.out,fun g=>absurd g HM.out,fun _=>⟨rfl,rfl⟩⟩,below_set7 hB (Nat.le_succ _) _ _ _ _ _ _ _⟩
 all_goals(apply_rules(newGoals:= .nonDependentOnly)(maxDepth:=1)only[zE];constructor)):p:=h
theorem zq17(h:p:=by
 go_wp2_with fail
 exact bodyPost_ret (res1 rfl Tryz.underlying38 rfl (by kernel_rfl) rfl (rf.set3 _ _ _)) rfl ⟨(congrArg (fun f=>Ending.returned (ftV f)) HF.out).symm,below_set3 hB (by first|omega|(simp;omega)|simp) _ _ _⟩
 all_goals(apply_rules(newGoals:= .nonDependentOnly)(maxDepth:=1)only[zE];constructor)):p:=h
theorem zq119(h:p:=by
 have e1:=beq_no e
 have HN':=Lib.hid (step_upto (P:=fun x:Nd=>x.name≠nm) HN.out HX.out e)
 clear e
 go_wp2_with fail
 go_roundw
 case rel=>exact ⟨k+1,by omega,by go_num,HN',hbr.alloc hszr _⟩
 case measure=>first|(simp[intOf];omega)|simp[intOf]
 all_goals(apply_rules(newGoals:= .nonDependentOnly)(maxDepth:=1)only[zE];constructor)):p:=h
theorem zq18(h:p:=by
 have HX:=Lib.hid hn
 have HAT:=Lib.hid hat
 clear hn hat
 by_cases e:n.name=nm
 ·refine' zq13
  exact bodyPost_ret (v:= .tuple #[ndV n a,.bool true]) (res2 rfl Tryz.underlying58 rfl (by kernel_rfl) rfl rfl ((rr.set7 _ _ _ _ _ _ _).alloc _)) rfl ⟨⟨n,a,HQ.out,fun _=>⟨HF.out,HAT.out.below (bb.mono hBw)⟩,fun g=>absurd HM.out g⟩,hB.trans bb⟩
 ·refine' zq119
 all_goals(apply_rules(newGoals:= .nonDependentOnly)(maxDepth:=1)only[zE];constructor)):p:=h
theorem zq19(h:p:=by
 go_wp2_with fail
 have hK7:(w7.setCell ⟨w.heap.size+2,0,none⟩ (.bool false)).heap[DD]? =some (.deferred (some [])):=(KeepsOthers.setCell w7 _ _).same DD _ hK8 rfl
 refine ⟨by simp,.inl ⟨_,_,rfl,run_takeDeferred hK7,?_⟩⟩
 have hc5:=Go.cell_kept ((hR7.set 0 (.bool false)).cell 0) (grownBy_putObj' _ DD (.deferred none)) (fun r e=>by cases e;exact ⟨_,hK7,rfl⟩)
 refine ⟨.bool false,?_,by rw[HV.out];rfl,(HB7.out.setCell (p:=⟨w.heap.size+2,0,none⟩) (by simp) _).trans (belowK_b (w:=w) (Nat.le_refl _) _ DD _ _ (by omega) hK7 rfl rfl)⟩
 simp[results,Tryz.f68,go_sem,hc5]
 all_goals(apply_rules(newGoals:= .nonDependentOnly)(maxDepth:=1)only[zE];constructor)):p:=h
theorem zq67(h:p:=by
 refine wpAnyH_done (by kernel_rfl) ?_ _
 go_wp2_with fail
 all_goals(apply_rules(newGoals:= .nonDependentOnly)(maxDepth:=1)only[zE];constructor)):p:=h
theorem zq90(h:p:=by
 refine tk 0 (some 6) rfl ?_
 refine tk 1 (some 7) rfl ?_
 refine tk 2 (some 8) rfl ?_
 refine tk 3 (some 9) rfl ?_
 refine tk 4 (some 10) rfl ?_
 refine tk 5 (some 11) rfl ?_
 refine tk 6 (some 12) rfl ?_
 refine tk 7 (some 13) rfl ?_
 refine tk 8 (some 14) rfl ?_
 refine tk 9 (some 15) rfl ?_
 refine tk 10 (some 16) rfl ?_
 all_goals(apply_rules(newGoals:= .nonDependentOnly)(maxDepth:=1)only[zE];constructor)):p:=h
theorem zq20(h:p:=by
 refine wp_region_held_drew (S:=fun W=>W.cell? ⟨w.heap.size,0,none⟩=some (.int .i64 e.op)∧W.cell? ⟨w.heap.size,1,none⟩=some (.string e.name)∧W.cell? ⟨w.heap.size,3,none⟩=some (.slice A e.args.length cap)) (by kernel_rfl) ?_ (fun hHeld=>?_)
 ·(try dsimp only);(first|(with_reducible exact HX3.out _ bE))
 refine' zq90
 refine tk 12 (some 18) rfl ?_
 refine tk 13 (some 19) rfl ?_
 refine tk 14 (some 20) rfl ?_
 refine rd1 11 (some 17) rfl (fun KK hKK=>?_)
 go_simp
 go_at_call 154;refine Calls.mono (HPT.out _) ?_;rintro e w8 ⟨rfl,rfl⟩
 (try go_wp2_with fail)
 refine hKK.out _ _ ?_ (fun hHeld=>?_)
 ·(try dsimp only);(first|(with_reducible exact HX3.out _ bE))
 clear hKK KK
 refine' zq1
 refine tk 15 (some 21) rfl ?_
 refine tk 16 (some 22) rfl ?_
 refine tk 17 (some 5) rfl ?_
 refine' zq67
 go_meet
 exact ⟨rfl,bE⟩
 all_goals(apply_rules(newGoals:= .nonDependentOnly)(maxDepth:=1)only[zE];constructor)):p:=h
theorem zq104(h:p:=by
 refine tk 0 (some 54) rfl ?_
 refine tk 1 (some 55) rfl ?_
 refine tk 2 (some 56) rfl ?_
 refine rd1 3 (some 57) rfl (fun KK hKK=>?_)
 go_simp
 go_at_call 108;refine Calls.mono (HI4.out _ _ bE hV.out) ?_;rintro e w5 ⟨rfl,rfl⟩
 (try go_wp2_with fail)
 all_goals(apply_rules(newGoals:= .nonDependentOnly)(maxDepth:=1)only[zE];constructor)):p:=h
theorem zq21(h:p:=by
 clear h3
 refine wp_region_held_drew (S:=fun W=>W.cell? ⟨D,4,none⟩=some (.slice (some ⟨K,0,none⟩) f.wires.length f.wires.length)∧W.cell? ⟨g6,0,none⟩=some (.int .i64 (m:Int))∧W.cell? ⟨K,m,none⟩=some (.int .i64 V)) (by kernel_rfl) ?_ (fun hHeld=>?_)
 ·(try dsimp only);(first|(with_reducible exact HS5.out _ bE)|go_keep)
 refine' zq104
 refine hKK.out _ _ ?_ (fun hHeld=>?_)
 ·(try dsimp only);(first|(with_reducible exact HS5.out _ bE)|go_keep)
 clear hKK KK
 refine' zq1
 refine tk 4 (some 58) rfl ?_
 refine tk 5 (some 59) rfl ?_
 refine tk 6 (some 60) rfl ?_
 refine tk 7 (some 61) rfl ?_
 refine tk 8 (some 62) rfl ?_
 refine tk 9 (some 63) rfl ?_
 refine tk 10 (some 64) rfl ?_
 refine tk 11 (some 65) rfl ?_
 refine tk 12 (some 66) rfl ?_
 refine tk 13 (some 67) rfl ?_
 refine tk 14 (some 68) rfl ?_
 refine tk 15 (some 69) rfl ?_
 refine wpAnyH_done (by kernel_rfl) ?_ _
 all_goals(apply_rules(newGoals:= .nonDependentOnly)(maxDepth:=1)only[zE];constructor)):p:=h
theorem zq53(h:p:=by
 (try dsimp only);(first|exact HS.out _ (by repeat (first|(with_reducible assumption)|(with_reducible refine Upd.setCell ?_ (by exact rfl) _)|(with_reducible refine Upd.drew ?_)|(exact Upd.of_below bE))))
 all_goals(apply_rules(newGoals:= .nonDependentOnly)(maxDepth:=1)only[zE];constructor)):p:=h
theorem zq59(h:p:=by
 refine hKK.out _ _ ?_ (fun hHeld=>?_)
 ·refine' zq53
 clear hKK KK
 refine' zq1
 all_goals(apply_rules(newGoals:= .nonDependentOnly)(maxDepth:=1)only[zE];constructor)):p:=h
theorem zq22(h:p:=by
 go_simp
 first|((have tok2:=tok);clear tok tok2;(go_at_call 30);(with_reducible refine (HLI.out _ bE).mono ?_);rintro e w6 ⟨⟨vI,rfl,hvI⟩,hb6⟩;(obtain ⟨AI,cI,rfl,-⟩:=own_rd hvI);(have HVI:=Lib.hid hvI);(have hB6:Below w5.heap.size w5 w6:=Below.trans bE (hb6.mono lE));(have hs6:=hB6.size);clear hvI hb6)|((go_at_call 30);(with_reducible refine (HLO.out _ bE).mono ?_);rintro e w7 ⟨⟨vO,rfl,hvO⟩,hb7⟩;(obtain ⟨AO,cO,rfl,-⟩:=own_rd hvO);(have HVO:=Lib.hid hvO);(have hB7:Below w5.heap.size w5 w7:=Below.trans bE (hb7.mono lE));(have hs7:=hB7.size);(have HBB:=Lib.hid hb7);(obtain ⟨fz3,fz4,is3,is4,fz5⟩:=HRM.out w7 hB7);(have is5:=is4 (.slice AI (nosF (wireOf n) n.ins).length cI));(have fz6:=fz5 (.slice AI (nosF (wireOf n) n.ins).length cI));clear hvO hb7)
 (try go_wp2_with fail)
 refine' zq59
 all_goals(apply_rules(newGoals:= .nonDependentOnly)(maxDepth:=1)only[zE];constructor)):p:=h
theorem zq24(h:p:=by
 go_wp2_with fail
 go_meet
 exact ⟨_,am,rfl,by first|exact Nat.le_refl _|exact hs4,by first|(with_reducible exact Row.new _ _ _)|(with_reducible exact r5.set7 _ _ _ _ _ _ _),HMA.out.below (by repeat (first|(with_reducible assumption)|(with_reducible exact Below.refl _ _)|(with_reducible refine Below.drew ?_)|(with_reducible refine below_drewN' ?_ _)|(with_reducible refine Below.alloc ?_ (by first|assumption|omega|(simp;omega)|simp|(simp[World.setCell];omega)|simp[World.setCell]) _)|(with_reducible refine Below.setCell ?_ (by first|assumption|omega|(simp;omega)|simp|(simp[World.setCell];omega)|simp[World.setCell]) _))),(by repeat (first|(with_reducible assumption)|(with_reducible exact Below.refl _ _)|(with_reducible refine Below.drew ?_)|(with_reducible refine below_drewN' ?_ _)|(with_reducible refine Below.alloc ?_ (by first|assumption|omega|(simp;omega)|simp|(simp[World.setCell];omega)|simp[World.setCell]) _)|(with_reducible refine Below.setCell ?_ (by first|assumption|omega|(simp;omega)|simp|(simp[World.setCell];omega)|simp[World.setCell]) _)))⟩
 all_goals(apply_rules(newGoals:= .nonDependentOnly)(maxDepth:=1)only[zE];constructor)):p:=h
theorem zq25(h:p:=by
 clear he
 go_wp2_with fail
 exact bodyPost_ret (res1 rfl Tryz.underlying38 rfl (by kernel_rfl) rfl (rf5.set3 _ _ _)) rfl ⟨(congrArg (fun f=>Ending.returned (ftV f)) HF.out).symm,below_set3 hB5 (by omega) _ _ _⟩
 all_goals(apply_rules(newGoals:= .nonDependentOnly)(maxDepth:=1)only[zE];constructor)):p:=h
theorem zq50(h:p:=by
 have h2':cap≤9223372036854775807:=by unfold maxLen at h2;omega
 all_goals(apply_rules(newGoals:= .nonDependentOnly)(maxDepth:=1)only[zE];constructor)):p:=h
theorem zq26(h:p:=by
 refine' zq82
 have b1:Below w.heap.size w ((w.alloc (.cells #[.slice A s.length cap] 24)).alloc (.cells ftC0 38)):=bE
 refine' zq87
 have HSM:=Lib.hid sm
 refine' zq50
 clear h sm
 all_goals(apply_rules(newGoals:= .nonDependentOnly)(maxDepth:=1)only[zE];constructor)):p:=h
theorem zq27(h:p:=by
 by_cases h:5≤op∧op≤20
 ·rcases (by omega:op=5∨op=6∨op=7∨op=8∨op=9∨op=10∨op=11∨op=12∨op=13∨op=14∨op=15∨op=16∨op=17∨op=18∨op=19∨op=20) with rfl|rfl|rfl|rfl|rfl|rfl|rfl|rfl|rfl|rfl|rfl|rfl|rfl|rfl|rfl|rfl
  all_goals
   clear h
   go_enter Tryz.func156,Tryz.ntmps156
   go_wp2
   go_ret3
   exact ⟨rfl,rfl⟩
 ·have H1:=Lib.hid (show signIn op=0 from by unfold signIn;rw[if_neg (by omega),if_neg (by omega),if_neg (by omega)])
  have H2:=Lib.hid (show signOut op=0 from by unfold signOut;rw[if_neg (by omega),if_neg (by omega)])
  have H3:=Lib.hid (show signB op=false from by simp[signB];omega)
  by_cases hlt:op<5
  ·clear h
   go_enter Tryz.func156,Tryz.ntmps156
   go_wp2
   go_ret3
   exact ⟨by rw[H1.out,H2.out,H3.out];rfl,rfl⟩
  ·have hgt:20<op:=by omega
   clear h hlt
   go_enter Tryz.func156,Tryz.ntmps156
   go_wp2
   go_ret3
   exact ⟨by rw[H1.out,H2.out,H3.out];rfl,rfl⟩
 all_goals(apply_rules(newGoals:= .nonDependentOnly)(maxDepth:=1)only[zE];constructor)):p:=h
theorem zq28(h:p:=by
 have bx:Below wr.heap.size wr (wr.alloc (.cells (vrArr x A' cap') 103)):=(by repeat (first|(with_reducible assumption)|(with_reducible exact Below.refl _ _)|(with_reducible refine Below.drew ?_)|(with_reducible refine below_drewN' ?_ _)|(with_reducible refine Below.alloc ?_ (by first|assumption|omega|(simp;omega)|simp|(simp[World.setCell];omega)|simp[World.setCell]) _)|(with_reducible refine Below.setCell ?_ (by first|assumption|omega|(simp;omega)|simp|(simp[World.setCell];omega)|simp[World.setCell]) _)))
 all_goals(apply_rules(newGoals:= .nonDependentOnly)(maxDepth:=1)only[zE];constructor)):p:=h
theorem zq29(h:p:=by
 clear c0 rs rf rd
 go_upto_region 17 with (fail)
 clear y0 y1 y2 z0 z1 z2
 have rs5:=u5.row rs4 (by omega)
 have rf5:=u5.row rf4 (by omega)
 have hB5:=hB4.trans (Upd.below u5 (fun k e=>by omega) (by have:=hB4.size;omega))
 all_goals(apply_rules(newGoals:= .nonDependentOnly)(maxDepth:=1)only[zE];constructor)):p:=h
theorem zq30(h:p:=by
 have ba:Below w2.heap.size w2 (w2.alloc (.cells (ftC f) 38)):=(by repeat (first|(with_reducible assumption)|(with_reducible exact Below.refl _ _)|(with_reducible refine Below.drew ?_)|(with_reducible refine below_drewN' ?_ _)|(with_reducible refine Below.alloc ?_ (by first|assumption|omega|(simp;omega)|simp|(simp[World.setCell];omega)|simp[World.setCell]) _)|(with_reducible refine Below.setCell ?_ (by first|assumption|omega|(simp;omega)|simp|(simp[World.setCell];omega)|simp[World.setCell]) _)))
 all_goals(apply_rules(newGoals:= .nonDependentOnly)(maxDepth:=1)only[zE];constructor)):p:=h
theorem zq58(h:p:=by
 gi_wp2_with (refine ⟨trivial,?_⟩;gi_at_call 40;refine (all_in _ _ trivial rfl _ _ _ _).mono ?_;rintro r w' ⟨rfl,rfl⟩)
 all_goals(apply_rules(newGoals:= .nonDependentOnly)(maxDepth:=1)only[zE];constructor)):p:=h
theorem zq31(h:p:=by
 clear hA hq ok sl1 sl2
 have i0:(0:Int)≤(k:Int):=by omega
 have i1:(k:Int)<(n.eqs.length:Int):=by omega
 refine' zq58
 have bE0:Row ((wr.alloc (.cells (eqArr q A1 k1 A2 k2) 65)).alloc (.cells (exA q.right A2 k2) 63)) (wr.heap.size+1) (exA q.right A2 k2) 63:=rowNew2 wr _ _ _
 have b2:Below wr.heap.size wr ((wr.alloc (.cells (eqArr q A1 k1 A2 k2) 65)).alloc (.cells (exA q.right A2 k2) 63)):=bE
 have hsz2:((wr.alloc (.cells (eqArr q A1 k1 A2 k2) 65)).alloc (.cells (exA q.right A2 k2) 63)).heap.size=wr.heap.size+2:=by simp
 obtain ⟨W2,hW2⟩:∃W2,(wr.alloc (.cells (eqArr q A1 k1 A2 k2) 65)).alloc (.cells (exA q.right A2 k2) 63)=W2:=⟨_,rfl⟩
 rw[hW2] at bE0 b2 hsz2⊢
 clear hW2 d0 d1 d2 d3 d4 d5 d6 d7 d8
 have rn2:=rn.below b2 rn.lt
 all_goals(apply_rules(newGoals:= .nonDependentOnly)(maxDepth:=1)only[zE];constructor)):p:=h
theorem zq54(h:p:=by
 go_wp2_with fail
 refine (fault_any _ _ _ _).mono ?_
 rintro r w9 ⟨rfl,hb9⟩
 all_goals(apply_rules(newGoals:= .nonDependentOnly)(maxDepth:=1)only[zE];constructor)):p:=h
theorem zq32(h:p:=by
 refine' zq54
 have q9:Below w2.heap.size w2 w9:=Below.trans bE (hb9.mono lE)
 have rf9:=rf2.below q9 rf2.lt
 have b9:=Below.trans hB2 (q9.mono (Below.size hB2))
 refine' zq2
 all_goals(apply_rules(newGoals:= .nonDependentOnly)(maxDepth:=1)only[zE];constructor)):p:=h
theorem zq33(h:p:=by
 refine ⟨putN_nodup h0,_,hsz▸owns_exact ho,hsz,fun x=>?_⟩
 by_cases e:x=nm
 ·subst e
  exact ⟨(Maps.has_put_same ht.isMap (by trivial) _).trans (cB_true (putN_mem.2 (.inr rfl))).symm,fun _=>Maps.atKey_put_same ht.isMap (by trivial) _ _⟩
 ·have hne:=keyN_ne e
  rw[Maps.has_put_other hne,Maps.atKey_put_other hne]
  exact ⟨(h3 x).1.trans (cB_congr (by rw[putN_mem];simp[e])),fun g=>(h3 x).2 ((putN_mem.1 g).resolve_right e)⟩
 all_goals(apply_rules(newGoals:= .nonDependentOnly)(maxDepth:=1)only[zE];constructor)):p:=h
theorem zq111(h:p:=by
 refine' zq0
 have o1:(e.op==1)=false:=eq_no (by omega)
 have o2:(e.op==2)=false:=eq_no (by omega)
 have o3:(e.op==3)=false:=eq_no (by omega)
 all_goals(apply_rules(newGoals:= .nonDependentOnly)(maxDepth:=1)only[zE];constructor)):p:=h
theorem zq34(h:p:=by
 refine' zq111
 have o4:(e.op==4)=false:=eq_no (by omega)
 have o21:(e.op==21)=false:=eq_no (by omega)
 all_goals(apply_rules(newGoals:= .nonDependentOnly)(maxDepth:=1)only[zE];constructor)):p:=h
theorem zq68(h:p:=by
 (try dsimp only);(first|(with_reducible exact HK.out _ bE)|exact hHeld|assumption)
 all_goals(apply_rules(newGoals:= .nonDependentOnly)(maxDepth:=1)only[zE];constructor)):p:=h
theorem zq35(h:p:=by
 go_simp
 ((go_at_call 43);(refine (HVC.out _ bE).mono ?_);rintro e w3 ⟨⟨x,A',cap',bv,rfl,HXT⟩,hb3⟩;(try (have r5:Row w3 W5.heap.size vrZ 103:=(by first|(with_reducible exact Row.below (Row.drew (Row.new W5 vrZ 103)) hb3 (by simp))|(with_reducible exact Row.below (Row.new W5.drew vrZ 103) hb3 (by simp)));obtain ⟨⟨x0',x1,x2,x3,x4⟩,g0,g1,g2,g3,g4⟩:=r5.five));(have hb4:Below W5.heap.size W5 w3:=Below.trans bE (hb3.mono lE));(have hs4:=hb4.size))
 (try go_wp2_with fail)
 refine hKK.out _ _ ?_ (fun hHeld=>?_)
 ·refine' zq68
 clear hKK KK
 refine' zq1
 refine tk 9 (some 20) rfl ?_
 refine tk 10 (some 30) rfl ?_
 refine tk 11 (some 31) rfl ?_
 all_goals(apply_rules(newGoals:= .nonDependentOnly)(maxDepth:=1)only[zE];constructor)):p:=h
theorem zq36(h:p:=by
 have h2':cap≤9223372036854775807:=by unfold maxLen at h2;omega
 clear h
 go_enter Tryz.func37,Tryz.ntmps37
 go_upto_region 1 with (fail)
 generalize (w.alloc (.cells #[.slice A s.length cap] 24)).alloc (.cells ndZ 58)=W1 at*
 have hs1:=b1.size
 have l1:=rf1.lt
 have c0:=rs1.src
 go_wp2_with fail
 clear c0 rs1
 all_goals(apply_rules(newGoals:= .nonDependentOnly)(maxDepth:=1)only[zE];constructor)):p:=h
theorem zq37(h:p:=by
 refine rdE none rfl (fun KK hKK=>?_)
 go_simp
 refine hKK.out _ _ ?_
 clear hKK KK
 refine' zq1
 refine wpAnyL_done (by kernel_rfl) ?_ _
 all_goals(apply_rules(newGoals:= .nonDependentOnly)(maxDepth:=1)only[zE];constructor)):p:=h
theorem zq38(h:p:=by
 intro w hSw;(try dsimp only at hSw);go_simp;(try with_reducible rfl)
 all_goals(apply_rules(newGoals:= .nonDependentOnly)(maxDepth:=1)only[zE];constructor)):p:=h
theorem zq39(h:p:=by
 have e2:IntKind.i64.wrap ((n:Int)+((min n (c-n):Nat):Int))=(n:Int)+((min n (c-n):Nat):Int):=IntWalk.i64_in _ (by omega)
 generalize hM:min n (c-n)=mm at*
 have hmm:1≤mm:=by omega
 have hmc:n+mm≤c:=by omega
 have HMM:=Lib.hid hM
 clear hM
 go_wp2_with fail
 go_roundw
 case rel=>exact ⟨n+mm,by omega,hmc,by go_num,R3,hb3⟩
 case measure=>simp[intOf];omega
 all_goals(apply_rules(newGoals:= .nonDependentOnly)(maxDepth:=1)only[zE];constructor)):p:=h
theorem zq40(h:p:=by
 refine hKK.out _ _ ?_ (fun hHeld=>?_)
 ·refine' zq68
 clear hKK KK
 refine' zq1
 all_goals(apply_rules(newGoals:= .nonDependentOnly)(maxDepth:=1)only[zE];constructor)):p:=h
theorem zq41(h:p:=by
 clear hk hh
 refine' zq4
 refine tk 5 (some 31) rfl ?_
 refine tk 6 (some 32) rfl ?_
 refine tk 7 (some 33) rfl ?_
 refine tk 9 (some 35) rfl ?_
 refine tk 10 (some 36) rfl ?_
 refine rd1 8 (some 34) rfl (fun KK hKK=>?_)
 go_simp
 (go_at_call 114;refine Calls.mono (HKI.out _ bE) ?_;rintro r w10 ⟨rfl,hb10⟩;(have hb11:Below w4.heap.size w4 w10:=Below.trans bE (hb10.mono lE));(have hs11:=hb11.size))
 refine' zq95
 refine tk 11 (some 37) rfl ?_
 refine tk 12 (some 38) rfl ?_
 refine tk 13 (some 39) rfl ?_
 all_goals(apply_rules(newGoals:= .nonDependentOnly)(maxDepth:=1)only[zE];constructor)):p:=h
theorem zq42(h:p:=by
 refine tk 17 (some 50) rfl ?_
 refine tk 18 (some 51) rfl ?_
 refine sk 19 (some 52) rfl ?_
 refine sk 20 (some 53) rfl ?_
 refine sk 21 (some 54) rfl ?_
 refine sk 22 (some 55) rfl ?_
 refine sk 23 (some 56) rfl ?_
 refine sk 24 (some 57) rfl ?_
 refine sk 25 (some 58) rfl ?_
 refine sk 26 (some 59) rfl ?_
 refine sk 27 (some 60) rfl ?_
 refine sk 28 (some 61) rfl ?_
 refine sk 29 (some 62) rfl ?_
 refine sk 30 (some 63) rfl ?_
 refine sk 31 (some 64) rfl ?_
 refine sk 32 (some 65) rfl ?_
 refine sk 33 (some 66) rfl ?_
 refine sk 34 (some 67) rfl ?_
 refine tk 35 (some 68) rfl ?_
 refine wpAnyH_done (by kernel_rfl) ?_ _
 go_wp2_with fail
 go_ret
 exact ⟨ret_bool HF.out.symm,bE⟩
 all_goals(apply_rules(newGoals:= .nonDependentOnly)(maxDepth:=1)only[zE];constructor)):p:=h
theorem zq43(h:p:=by
 rintro r w4 ⟨rfl,hb4⟩
 have rs4:=rs.below hb4 rs.lt
 have rf4:=rf.below hb4 rf.lt
 have rd4:=rd.below hb4 rd.lt
 have hB4:=hB.trans (hb4.mono hsB)
 all_goals(apply_rules(newGoals:= .nonDependentOnly)(maxDepth:=1)only[zE];constructor)):p:=h
theorem zq44(h:p:=by
 refine wp_region_held_drew (S:=fun W=>W.cell? ⟨D,0,none⟩=some (.slice (some ⟨b,off,none⟩) f.wires.length cw)∧W.cell? ⟨w2.heap.size,0,none⟩=some (.int .i64 (n:Int))∧W.cell? ⟨wo.heap.size,1,none⟩=some (.slice (some ⟨bg,og,none⟩) x.clock.length cg)∧W.cell? ⟨b,off+n*2,none⟩=some (.int .i64 y.ty)∧W.cell? ⟨b,off+n*2+1,none⟩=some (.slice Ay y.clock.length cy)) (by kernel_rfl) ?_ (fun hHeld=>?_)
 ·(try dsimp only);(first|(with_reducible exact HSY.out _ bE)|go_keep)
 refine tk 0 (some 33) rfl ?_
 refine tk 1 (some 34) rfl ?_
 refine tk 2 (some 35) rfl ?_
 refine rd1 3 (some 36) rfl (fun KK hKK=>?_)
 go_simp
 all_goals(apply_rules(newGoals:= .nonDependentOnly)(maxDepth:=1)only[zE];constructor)):p:=h
theorem zq45(h:p:=by
 go_wp2_with fail
 exact bodyPost_ret (res1 rfl Tryz.underlying38 rfl (by kernel_rfl) rfl ((rf9.set3 _ _ _).alloc _)) rfl ⟨(congrArg (fun f=>Ending.returned (ftV f)) HF.out).symm,(below_set3 hB9 (by first|omega|(simp;omega)|simp) _ _ _).alloc (by first|(simp[World.setCell];omega)|simp[World.setCell]) _⟩
 all_goals(apply_rules(newGoals:= .nonDependentOnly)(maxDepth:=1)only[zE];constructor)):p:=h
theorem zq46(h:p:=by
 go_upto_region 4 with (fail)
 generalize hW4:w2.alloc (.cells (ftC f) 38)=w4 at*
 clear hW4
 have rs4:=rs2.below ba rs2.lt
 have rf4:=rf2.below ba rf2.lt
 have hB4:=hB2.trans (ba.mono hs2)
 have hs4:=hB4.size
 all_goals(apply_rules(newGoals:= .nonDependentOnly)(maxDepth:=1)only[zE];constructor)):p:=h
theorem zq168(h:p:=by
 go_enter Tryz.func173,Tryz.ntmps173
 all_goals(apply_rules(newGoals:= .nonDependentOnly)(maxDepth:=1)only[zE];constructor)):p:=h
theorem zq47(h:p:=by
 refine' zq168
 go_wp2_with (first|((go_at_call 52);(refine (HN.out _ (by assumption)).mono ?_);(rintro r w2 ⟨rfl,hb2⟩);(have hb3:=Below.trans (by assumption:Below w.heap.size w _) (hb2.mono (by assumption:Below w.heap.size w _).size));clear hb2)|((go_at_call 174);(refine (str_any _ (by simp) _).mono ?_);(rintro r w2 ⟨rfl,rfl⟩))|((go_at_call 190);(refine (HC.out _).mono ?_);(rintro r w2 ⟨rfl,rfl⟩)))
 go_ret2
 exact ⟨rfl,by assumption⟩
 all_goals(apply_rules(newGoals:= .nonDependentOnly)(maxDepth:=1)only[zE];constructor)):p:=h
theorem zq49(h:p:=by
 rintro r w2 ⟨rfl,hb2⟩
 have rf2:=rf.below hb2 rf.lt
 have hB2:=b0.trans (hb2.mono b0.size)
 obtain ⟨⟨k0,k1',k2'⟩,g0,g1,g2⟩:=rf2.three
 go_wp2_with fail
 exact bodyPost_ret (res1 rfl Tryz.underlying38 rfl (by kernel_rfl) rfl (rf2.set3 _ _ _)) rfl ⟨rfl,below_set3 hB2 (Nat.le_refl _) _ _ _⟩
 all_goals(apply_rules(newGoals:= .nonDependentOnly)(maxDepth:=1)only[zE];constructor)):p:=h
theorem zq51(h:p:=by
 obtain ⟨⟨k0,k1,k2⟩,h0,h1,h2⟩:=rf9.three
 go_wp2_with fail
 exact bodyPost_ret (res1 rfl Tryz.underlying38 rfl (by kernel_rfl) rfl (rf9.set3 _ _ _)) rfl ⟨(congrArg (fun f=>Ending.returned (ftV f)) HF.out).symm,fun g=>absurd g HE.out,u9.set3 (by first|omega|(simp;omega)|simp) _ _ _⟩
 all_goals(apply_rules(newGoals:= .nonDependentOnly)(maxDepth:=1)only[zE];constructor)):p:=h
theorem zq52(h:p:=by
 have b1:Below w.heap.size w (w.alloc (.cells #[.int .i64 l,.int .i64 c] 36)):=(by repeat (first|(with_reducible assumption)|(with_reducible exact Below.refl _ _)|(with_reducible refine Below.drew ?_)|(with_reducible refine below_drewN' ?_ _)|(with_reducible refine Below.alloc ?_ (by first|assumption|omega|(simp;omega)|simp|(simp[World.setCell];omega)|simp[World.setCell]) _)|(with_reducible refine Below.setCell ?_ (by first|assumption|omega|(simp;omega)|simp|(simp[World.setCell];omega)|simp[World.setCell]) _)))
 have rp:=Row.new w #[.int .i64 l,.int .i64 c] 36
 all_goals(apply_rules(newGoals:= .nonDependentOnly)(maxDepth:=1)only[zE];constructor)):p:=h
theorem zq55(h:p:=by
 go_wp2_with fail
 go_ret
 exact ⟨ret_bool HF.out.symm,by first|exact ⟨_,rfl⟩|(rw[World.drewN_drewN];exact ⟨_,rfl⟩)⟩
 all_goals(apply_rules(newGoals:= .nonDependentOnly)(maxDepth:=1)only[zE];constructor)):p:=h
theorem zq56(h:p:=by
 (try go_wp2_with fail)
 refine hKK.out _ _ ?_ (fun hHeld=>?_)
 ·(try dsimp only);(first|(with_reducible exact HSY.out _ bE)|go_keep)
 clear hKK KK
 refine' zq1
 refine tk 4 (some 37) rfl ?_
 refine tk 5 (some 38) rfl ?_
 refine tk 6 (some 39) rfl ?_
 refine tk 7 (some 40) rfl ?_
 refine tk 8 (some 41) rfl ?_
 refine tk 9 (some 42) rfl ?_
 refine tk 10 (some 43) rfl ?_
 refine tk 11 (some 44) rfl ?_
 refine tk 12 (some 45) rfl ?_
 refine tk 13 (some 46) rfl ?_
 refine tk 14 (some 47) rfl ?_
 refine tk 15 (some 48) rfl ?_
 refine tk 16 (some 49) rfl ?_
 all_goals(apply_rules(newGoals:= .nonDependentOnly)(maxDepth:=1)only[zE];constructor)):p:=h
theorem zq60(h:p:=by
 have rf2:=rf1.below hb2 rf1.lt
 have hq2:=rf2.lt
 have hq2':w.heap.size+1+1+1<w2.heap.size:=hq2
 have hq3:w.heap.size+2<w2.heap.size:=by omega
 have hq3':w.heap.size+1+1<w2.heap.size:=hq3
 all_goals(apply_rules(newGoals:= .nonDependentOnly)(maxDepth:=1)only[zE];constructor)):p:=h
theorem zq61(h:p:=by
 have ba:Below wr.heap.size wr (wr.alloc (.cells (ndArr n a) 58)):=(by repeat (first|(with_reducible assumption)|(with_reducible exact Below.refl _ _)|(with_reducible refine Below.drew ?_)|(with_reducible refine below_drewN' ?_ _)|(with_reducible refine Below.alloc ?_ (by first|assumption|omega|(simp;omega)|simp|(simp[World.setCell];omega)|simp[World.setCell]) _)|(with_reducible refine Below.setCell ?_ (by first|assumption|omega|(simp;omega)|simp|(simp[World.setCell];omega)|simp[World.setCell]) _)))
 all_goals(apply_rules(newGoals:= .nonDependentOnly)(maxDepth:=1)only[zE];constructor)):p:=h
theorem zq62(h:p:=by
 obtain ⟨k,hk,rfl,HN,hbr⟩:=hrel
 have hszr:=hbr.size
 all_goals(apply_rules(newGoals:= .nonDependentOnly)(maxDepth:=1)only[zE];constructor)):p:=h
theorem zq63(h:p:=by
 refine' zq168
 go_wp2_with (first|((go_at_call 52);(refine (HN.out _ (by assumption)).mono ?_);(rintro r w2 ⟨rfl,hb2⟩);(have hb3:=Below.trans (by assumption:Below w.heap.size w _) (hb2.mono (by assumption:Below w.heap.size w _).size));clear hb2)|((go_at_call 174);(refine (str_any _ (by simp) _).mono ?_);(rintro r w2 ⟨rfl,rfl⟩)))
 go_ret2
 exact ⟨rfl,by assumption⟩
 all_goals(apply_rules(newGoals:= .nonDependentOnly)(maxDepth:=1)only[zE];constructor)):p:=h
theorem zq64(h:p:=by
 refine hKK.out _ _ ?_ (fun hHeld=>?_)
 ·(try dsimp only);(first|exact q4|exact q9|exact HS8.out _)
 clear hKK KK
 refine' zq1
 all_goals(apply_rules(newGoals:= .nonDependentOnly)(maxDepth:=1)only[zE];constructor)):p:=h
theorem zq65(h:p:=by
 clear hP
 go_wp2_with fail
 go_roundw
 case rel=>exact ⟨k+1,by omega,by go_num,HN',b2⟩
 case measure=>simp[intOf];omega
 all_goals(apply_rules(newGoals:= .nonDependentOnly)(maxDepth:=1)only[zE];constructor)):p:=h
theorem zq66(h:p:=by
 go_wp2_with fail
 go_ret
 exact HFIN.out _ _ (by rw[HO.out.1];exact HT5.out) HU5.out HO.out.2.symm
 all_goals(apply_rules(newGoals:= .nonDependentOnly)(maxDepth:=1)only[zE];constructor)):p:=h
theorem zq69(h:p:=by
 go_wp2_with fail
 (with_reducible refine HC.out.mono ?_)
 all_goals(apply_rules(newGoals:= .nonDependentOnly)(maxDepth:=1)only[zE];constructor)):p:=h
theorem zq70(h:p:=by
 go_wp2_with fail
 go_ret
 exact ⟨ret_bool HF.out.symm,b2⟩
 all_goals(apply_rules(newGoals:= .nonDependentOnly)(maxDepth:=1)only[zE];constructor)):p:=h
theorem zq74(h:p:=by
 (try dsimp only);(exact hSS.out _ (by repeat (first|(with_reducible assumption)|(with_reducible refine Upd.drew ?_)|(exact Upd.of_below bE))))
 all_goals(apply_rules(newGoals:= .nonDependentOnly)(maxDepth:=1)only[zE];constructor)):p:=h
theorem zq71(h:p:=by
 refine hKK.out _ _ ?_ (fun hHeld=>?_)
 ·refine' zq74
 clear hKK KK
 refine' zq1
 all_goals(apply_rules(newGoals:= .nonDependentOnly)(maxDepth:=1)only[zE];constructor)):p:=h
theorem zq75(h:p:=by
 (try dsimp only);(exact HS.out _ (by repeat (first|(with_reducible assumption)|(with_reducible refine Upd.drew ?_)|(exact Upd.of_below bE))))
 all_goals(apply_rules(newGoals:= .nonDependentOnly)(maxDepth:=1)only[zE];constructor)):p:=h
theorem zq72(h:p:=by
 refine hKK.out _ _ ?_ (fun hHeld=>?_)
 ·refine' zq75
 clear hKK KK
 refine' zq1
 all_goals(apply_rules(newGoals:= .nonDependentOnly)(maxDepth:=1)only[zE];constructor)):p:=h
theorem zq73(h:p:=by
 obtain ⟨b,off,n,a,hA,hb,hn,hat,d0,d1,d2,d3,d4,d5,d6⟩:=(HS.out wr hB).nd hlt
 all_goals(apply_rules(newGoals:= .nonDependentOnly)(maxDepth:=1)only[zE];constructor)):p:=h
theorem zq180(h:p:=by
 generalize hW6:wr.alloc (.cells (ndArr n a) 58)=w6 at*
 clear hW6
 have hsa:=ba.size
 all_goals(apply_rules(newGoals:= .nonDependentOnly)(maxDepth:=1)only[zE];constructor)):p:=h
theorem zq76(h:p:=by
 clear d0 d1 d2 d3 d4 d5 d6
 refine' zq180
 have rf6:=rf.below ba rf.lt
 have hB6:=hB.trans (ba.mono hsB)
 have hs6:=hB6.size
 all_goals(apply_rules(newGoals:= .nonDependentOnly)(maxDepth:=1)only[zE];constructor)):p:=h
theorem zq147(h:p:=by
 obtain ⟨⟨k0,k1,k2⟩,g0,g1,g2⟩:=rf2.three
 all_goals(apply_rules(newGoals:= .nonDependentOnly)(maxDepth:=1)only[zE];constructor)):p:=h
theorem zq77(h:p:=by
 have HE:Hid ((ft2 f1 f2).err≠0):=by show _≠_;rw[HF.out];exact hf
 clear hf
 refine' zq147
 go_wp2_with fail
 exact bodyPost_ret (res1 rfl Tryz.underlying38 rfl (by kernel_rfl) rfl ((rf2.set3 _ _ _).alloc _)) rfl ⟨(congrArg (fun f=>Ending.returned (ftV f)) HF.out).symm,(hu3.set3 (Nat.le_refl _) _ _ _).alloc _,fun g=>absurd g HE.out⟩
 all_goals(apply_rules(newGoals:= .nonDependentOnly)(maxDepth:=1)only[zE];constructor)):p:=h
theorem zq78(h:p:=by
 have b0:Below w.heap.size w (w.alloc (.cells ftC0 38)):=bE
 have rf:=Row.new w ftC0 38
 have r1':=r1.below b0 r1.lt
 all_goals(apply_rules(newGoals:= .nonDependentOnly)(maxDepth:=1)only[zE];constructor)):p:=h
theorem zq79(h:p:=by
 obtain ⟨h0,D,h1,h2,h3⟩:=h
 obtain ⟨c,hr,ha,_⟩:=h1.lookup_int (Maps.string_keyed Tryz.underlying9) Tryz.underlying85 Tryz.underlying3 (zero_int w) (keyN_of hs)
 all_goals(apply_rules(newGoals:= .nonDependentOnly)(maxDepth:=1)only[zE];constructor)):p:=h
theorem zq80(h:p:=by
 have rx:=Row.new wr (vrArr x A' cap') 103
 have ba:Below wr.heap.size wr (wr.alloc (.cells (vrArr x A' cap') 103)):=bE
 all_goals(apply_rules(newGoals:= .nonDependentOnly)(maxDepth:=1)only[zE];constructor)):p:=h
theorem zq81(h:p:=by
 subst hm
 have rf1:=rowNew2 w (.cells #[.slice A s.length cap] 24) ndZ 58
 have rs1:=(Row.new w #[.slice A s.length cap] 24).alloc (.cells ndZ 58)
 all_goals(apply_rules(newGoals:= .nonDependentOnly)(maxDepth:=1)only[zE];constructor)):p:=h
theorem zq83(h:p:=by
 refine ⟨by simp[h.1,h'.1],fun i x cs hx hc=>?_⟩
 rcases Nat.lt_or_ge i l.length with hi|hi
 ·rw[List.getElem?_append_left hi] at hx
  rw[List.getElem?_append_left (by rw[h.1];exact hi)] at hc
  exact h.2 i x cs hx hc
 ·rw[List.getElem?_append_right hi] at hx
  rw[List.getElem?_append_right (by rw[h.1];exact hi),h.1] at hc
  exact h'.2 _ x cs hx hc
 all_goals(apply_rules(newGoals:= .nonDependentOnly)(maxDepth:=1)only[zE];constructor)):p:=h
theorem zq84(h:p:=by
 clear HW HLX
 go_wp2_with fail
 refine HW1.out.mono ?_
 rintro e w5 ⟨rfl,hb5,hbb5⟩
 have HT5:=Lib.hid hb5
 have HB5:=Lib.hid (HB2.out.trans hbb5)
 clear hb5 hbb5 e0
 have hA2:=HA2.out
 have hA:=HA.out
 go_wp2_with fail
 go_roundw
 case rel=>exact ⟨j+1,by omega,by go_num,HT5,HB5⟩
 case measure=>first|(simp[intOf];omega)|simp[intOf]
 all_goals(apply_rules(newGoals:= .nonDependentOnly)(maxDepth:=1)only[zE];constructor)):p:=h
theorem zq85(h:p:=by
 intro _
 refine ⟨g,0,rfl,hr.lt,fun i x hi'=>?_⟩
 have hil:i<css.length:=by rw[hx.1];exact (List.getElem?_eq_some_iff.1 hi').1
 refine ⟨css[i],fun j u hu=>?_,(hx.2 i x _ hi' (List.getElem?_eq_getElem hil)).more hh⟩
 have hj:j<6:=by rw[←hx.six css[i] (List.getElem_mem hil)];exact (List.getElem?_eq_some_iff.1 hu).1
 all_goals(apply_rules(newGoals:= .nonDependentOnly)(maxDepth:=1)only[zE];constructor)):p:=h
theorem zq86(h:p:=by
 go_wp2_with fail
 go_ret
 exact ⟨ret_bool HF.out.symm,hB⟩
 all_goals(apply_rules(newGoals:= .nonDependentOnly)(maxDepth:=1)only[zE];constructor)):p:=h
theorem zq88(h:p:=by
 go_upto_region 1 with (fail)
 change Code.wp _ _ _ _ ((w.alloc (.cells #[.slice none 0 0] 24)).alloc (.cells ftC0 38))
 generalize (w.alloc (.cells #[.slice none 0 0] 24)).alloc (.cells ftC0 38)=W1 at*
 have hs1:=b1.size
 have hl1:=r1.lt
 have hl2:=r2.lt
 go_wp2_with fail
 all_goals(apply_rules(newGoals:= .nonDependentOnly)(maxDepth:=1)only[zE];constructor)):p:=h
theorem zq89(h:p:=by
 simp[Ex.op,Ex.name,Ex.n,Ex.args,Ex.line,Ex.col] at this
 exact this
 all_goals(apply_rules(newGoals:= .nonDependentOnly)(maxDepth:=1)only[zE];constructor)):p:=h
theorem zq91(h:p:=by
 go_simp
 (go_at_call 64;refine Calls.mono (HEX.out _ bE) ?_;rintro e w7 ⟨⟨Ay,cy,rfl,hey⟩,hb7⟩;(have hb8:Below wc.heap.size wc w7:=Below.trans bE (hb7.mono lE));(have hs8:=hb8.size);(have hu8:=Upd.of_below (X:=fun j=>j=M∨vd.ownBlock=some j) hb8))
 (try go_wp2_with fail)
 all_goals(apply_rules(newGoals:= .nonDependentOnly)(maxDepth:=1)only[zE];constructor)):p:=h
theorem zq93(h:p:=by
 refine' zq6
 have hl2:=rf2.lt
 clear c0 rs1 rf1 b1 hb2 hs1
 obtain ⟨f,HFN⟩:∃f,Hid (scopeF s=f):=⟨_,rfl⟩
 all_goals(apply_rules(newGoals:= .nonDependentOnly)(maxDepth:=1)only[zE];constructor)):p:=h
theorem zq94(h:p:=by
 refine' zq62
 have rr:=rf1.below hbr l1
 have lr:=rr.lt
 have hB:=b1.trans (hbr.mono hs1)
 obtain ⟨⟨z0,z1,z2,z3,z4,z5,z6⟩,f0,f1,f2,f3,f4,f5,f6⟩:=rr.seven
 all_goals(apply_rules(newGoals:= .nonDependentOnly)(maxDepth:=1)only[zE];constructor)):p:=h
theorem zq96(h:p:=by
 refine sk 14 (some 40) rfl ?_
 refine sk 15 (some 41) rfl ?_
 refine sk 16 (some 42) rfl ?_
 refine sk 17 (some 43) rfl ?_
 refine sk 18 (some 44) rfl ?_
 refine sk 19 (some 45) rfl ?_
 refine sk 20 (some 46) rfl ?_
 refine tk 21 (some 47) rfl ?_
 refine' zq67
 go_meet
 exact ⟨by rw[HF.out];rfl,bE⟩
 all_goals(apply_rules(newGoals:= .nonDependentOnly)(maxDepth:=1)only[zE];constructor)):p:=h
theorem zq97(h:p:=by
 obtain ⟨wo,rfl⟩:∃wo:World,wo=wr:=⟨_,rfl⟩
 all_goals(apply_rules(newGoals:= .nonDependentOnly)(maxDepth:=1)only[zE];constructor)):p:=h
theorem zq98(h:p:=by
 have i0':(0:Int)≤(k:Int):=by omega
 have i1':(k:Int)<(l.length:Int):=by omega
 have HA:=Lib.hid hA
 have HSR:Hid (∀W,Below w.heap.size wr W→Sl W w.heap.size 1 isTru Ar r):=fun W hW=>sr.below hW
 have mr':cr≤9223372036854775807:=by unfold maxLen at mr;omega
 rw[hA]
 clear hA hr sl sr mr
 all_goals(apply_rules(newGoals:= .nonDependentOnly)(maxDepth:=1)only[zE];constructor)):p:=h
theorem zq99(h:p:=by
 obtain ⟨⟨k0,k1,k2⟩,g0,g1,g2⟩:=rf7.three
 go_wp2_with fail
 exact bodyPost_ret (res1 rfl Tryz.underlying38 rfl (by kernel_rfl) rfl (rf7.set3 _ _ _)) rfl ⟨(congrArg (fun f=>Ending.returned (ftV f)) HF.out).symm,below_set3 hB7 (by first|omega|(simp;omega)|simp) _ _ _⟩
 all_goals(apply_rules(newGoals:= .nonDependentOnly)(maxDepth:=1)only[zE];constructor)):p:=h
theorem zq100(h:p:=by
 go_upto_region 1 with (fail)
 generalize w.alloc (.cells ftC0 38)=W1 at*
 all_goals(apply_rules(newGoals:= .nonDependentOnly)(maxDepth:=1)only[zE];constructor)):p:=h
theorem zq101(h:p:=by
 refine rd1 13 none rfl (fun KK hKK=>?_)
 go_simp
 refine' zq40
 refine tk 14 (some 7) rfl ?_
 refine' zq67
 go_meet
 exact ⟨_,x,A',cap',rfl,by first|(with_reducible exact Row.new _ _ _)|(with_reducible exact r5.set5 _ _ _ _ _),HXT,by first|exact Nat.le_refl _|(simp;omega)|omega,bE⟩
 all_goals(apply_rules(newGoals:= .nonDependentOnly)(maxDepth:=1)only[zE];constructor)):p:=h
theorem zq102(h:p:=by
 rw[HACC.out] at ht5
 have HT5:=Lib.hid ht5
 have HU5:Hid (UpdM g w2 w5):=Upd.trans (Upd.drew HU4.out) hu5
 clear ht5 hu5 z0 z1 z2 z3 z4 z5 v0
 go_wp2_with fail
 go_roundw
 case rel=>exact ⟨k+1,by omega,by go_num,HT5.out,HU5.out⟩
 case measure=>first|(simp[intOf];omega)|simp[intOf]
 all_goals(apply_rules(newGoals:= .nonDependentOnly)(maxDepth:=1)only[zE];constructor)):p:=h
theorem zq103(h:p:=by
 have h6:=(Lit.int.inj (DataW.lit.inj ha)).2
 rw[←h6] at hr
 exact hr
 all_goals(apply_rules(newGoals:= .nonDependentOnly)(maxDepth:=1)only[zE];constructor)):p:=h
theorem zq105(h:p:=by
 go_upto_region 1 with (fail)
 change Code.wp _ _ _ _ (w.alloc (.cells exZ6 63))
 generalize w.alloc (.cells exZ6 63)=W1 at*
 all_goals(apply_rules(newGoals:= .nonDependentOnly)(maxDepth:=1)only[zE];constructor)):p:=h
theorem zq106(h:p:=by
 have ba:Below wr.heap.size wr (wr.alloc (.cells (ndArr n a) 58)):=bE
 all_goals(apply_rules(newGoals:= .nonDependentOnly)(maxDepth:=1)only[zE];constructor)):p:=h
theorem zq107(h:p:=by
 go_wp2_with fail
 refine HR.out.mono ?_
 rintro r w2 ⟨⟨x,A',cap',rfl,hx1,hx2⟩,hb2⟩
 rw[HB.out]
 all_goals(apply_rules(newGoals:= .nonDependentOnly)(maxDepth:=1)only[zE];constructor)):p:=h
theorem zq108(h:p:=by
 go_enter Tryz.func107,Tryz.ntmps107
 all_goals(apply_rules(newGoals:= .nonDependentOnly)(maxDepth:=1)only[zE];constructor)):p:=h
theorem zq109(h:p:=by
 rename_i hj
 injection hv with hv
 subst hv
 rw[Addr.add_lit,Nat.zero_add]
 refine (Row.cell HR.out.drew j).trans ?_
 rw[List.getElem?_toArray]
 all_goals(apply_rules(newGoals:= .nonDependentOnly)(maxDepth:=1)only[zE];constructor)):p:=h
theorem zq110(h:p:=by
 rw[HU.out] at HS
 go_wp2_with (first|(go_at_call 183;refine Calls.mono (keys_all _ _) ?_;rintro e w5 ⟨rfl,rfl⟩)|(go_at_call 182;refine Calls.mono HS.out ?_;rintro e w9 ⟨v,rfl,hS,hb9⟩))
 go_ret
 all_goals(apply_rules(newGoals:= .nonDependentOnly)(maxDepth:=1)only[zE];constructor)):p:=h
theorem zq112(h:p:=by
 have hi0:(0:Int)≤(n:Int):=by omega
 have hi1:(n:Int)≤(c:Int):=by omega
 have hne:¬(c=n):=by omega
 have hm:min n (c-n)≤c:=by omega
 have HM:Hid (∀v∈List.replicate (min n (c-n)) x,v.oneCell'=true):=fun v hw=>by rw[(List.mem_replicate.1 hw).2];exact hv
 all_goals(apply_rules(newGoals:= .nonDependentOnly)(maxDepth:=1)only[zE];constructor)):p:=h
theorem zq114(h:p:=by
 rw[List.take_left' (by simp),List.length_replicate,show n+m=(List.replicate n x).length+m by simp,List.drop_length_add_append,List.drop_replicate,List.length_replicate,←List.append_assoc,List.replicate_append_replicate,show c-n-m=c-(n+m) by omega]
 all_goals(apply_rules(newGoals:= .nonDependentOnly)(maxDepth:=1)only[zE];constructor)):p:=h
theorem zq115(h:p:=by
 intro j v hv
 rw[List.getElem?_replicate] at hv
 split at hv
 ·refine' zq109
  exact repN_get (by omega)
 ·cases hv
 all_goals(apply_rules(newGoals:= .nonDependentOnly)(maxDepth:=1)only[zE];constructor)):p:=h
theorem zq116(h:p:=by
 have gv':a.cv≤9223372036854775807:=by unfold maxLen at gv;omega
 have gq':a.cq≤9223372036854775807:=by unfold maxLen at gq;omega
 all_goals(apply_rules(newGoals:= .nonDependentOnly)(maxDepth:=1)only[zE];constructor)):p:=h
theorem zq141(h:p:=by
 rw[Maps.size_put ht,(h3 nm).1,h2]
 unfold putN
 by_cases g:nm∈l
 ·rw[cB_true g];simp[g]
 ·rw[cB_false g];simp[g]
 all_goals(apply_rules(newGoals:= .nonDependentOnly)(maxDepth:=1)only[zE];constructor)):p:=h
theorem zq117(h:p:=by
 refine ⟨w',hr,?_,hg⟩
 have hsz:Maps.size (D.put (keyN nm) (.lit (.int .i64 (F nm))))=(putN l nm).length:=by
  refine' zq141
 refine' zq33
 all_goals(apply_rules(newGoals:= .nonDependentOnly)(maxDepth:=1)only[zE];constructor)):p:=h
theorem zq118(h:p:=by
 have o24:(e.op==24)=false:=eq_no (by omega)
 have o25:(e.op==25)=false:=eq_no (by omega)
 have o26:(e.op==26)=false:=eq_no (by omega)
 all_goals(apply_rules(newGoals:= .nonDependentOnly)(maxDepth:=1)only[zE];constructor)):p:=h
theorem zq120(h:p:=by
 have hp':tmps[p]?.getD undef= .pointer (some ⟨g,0,none⟩):=by simpa using hp
 have hq':tmps[q]?.getD undef=u:=by simpa using hq
 all_goals(apply_rules(newGoals:= .nonDependentOnly)(maxDepth:=1)only[zE];constructor)):p:=h
theorem zq121(h:p:=by
 have hw:Region.wanted o (yielded ops a.tmps)=true:=by simp[Region.wanted,hgd]
 rw[if_pos hw]
 all_goals(apply_rules(newGoals:= .nonDependentOnly)(maxDepth:=1)only[zE];constructor)):p:=h
theorem zq122(h:p:=by
 rcases h.2 with ⟨h0,_⟩|⟨g,c,cur,h1,h2,h3,_⟩
 ·subst h0;intro q;cases q
 ·subst h1
  intro q
  have e':g=b:=by injection q
  subst e'
  unfold Row at r
  rw[h3] at r
  injection r with r
  injection r with _ r _
  exact ht r.symm
 all_goals(apply_rules(newGoals:= .nonDependentOnly)(maxDepth:=1)only[zE];constructor)):p:=h
theorem zq123(h:p:=by
 intro w2 hR2 hb2
 clear R1 mk b1
 go_wp2_with fail
 go_loop[8] (fun i=>i= .int .i64 0) (fun _=>0)
 case atStart=>exact rfl
 case round=>
  obtain rfl:=hrel
  go_wp2_with fail
  go_ret
  exact ⟨w.heap.size,rfl,Nat.le_refl _,hR2.out,hb2⟩
 all_goals(apply_rules(newGoals:= .nonDependentOnly)(maxDepth:=1)only[zE];constructor)):p:=h
theorem zq124(h:p:=by
 clear hP
 go_wp2_with fail
 go_ret
 exact ⟨ret_bool HF.out.symm,b1.trans (b2.mono hs1)⟩
 all_goals(apply_rules(newGoals:= .nonDependentOnly)(maxDepth:=1)only[zE];constructor)):p:=h
theorem zq125(h:p:=by
 obtain ⟨i0,hi0,hz0,hz1,hz2⟩:=info_parts info_int
 all_goals(apply_rules(newGoals:= .nonDependentOnly)(maxDepth:=1)only[zE];constructor)):p:=h
theorem zq126(h:p:=by
 go_wp2_with fail
 (with_reducible refine HW1.out.mono ?_)
 rintro e w3 ⟨rfl,hb3⟩
 obtain ⟨x0,x1,x2,x3⟩:=HR3.out _ hb3
 all_goals(apply_rules(newGoals:= .nonDependentOnly)(maxDepth:=1)only[zE];constructor)):p:=h
theorem zq127(h:p:=by
 refine ⟨(grownBy_putObj' W l o').size,fun b cs t f _ hb=>((grownBy_putObj' W l o').block b (Array.getElem?_eq_some_iff.1 hb).1 (fun e=>?_)).trans hb⟩
 injection e with e
 subst e
 rw[hb] at h
 injection h with h
 subst h
 cases ho
 all_goals(apply_rules(newGoals:= .nonDependentOnly)(maxDepth:=1)only[zE];constructor)):p:=h
theorem zq128(h:p:=by
 have rx:=Row.new wr (vrArr x A' cap') 103
 have ho2:=hown.alloc (.cells (vrArr x A' cap') 103)
 have hsx:wr.heap.size+1≤(wr.alloc (.cells (vrArr x A' cap') 103)).heap.size:=by simp
 clear hA hxk ok hxs
 all_goals(apply_rules(newGoals:= .nonDependentOnly)(maxDepth:=1)only[zE];constructor)):p:=h
theorem zq129(h:p:=by
 obtain ⟨⟨k0,k1,k2⟩,g0,g1,g2⟩:=rf.three
 all_goals(apply_rules(newGoals:= .nonDependentOnly)(maxDepth:=1)only[zE];constructor)):p:=h
theorem zq131(h:p:=by
 go_wp2_with fail
 refine HN.out.mono ?_
 rintro r w5 ⟨rfl,ht5,hu5⟩
 all_goals(apply_rules(newGoals:= .nonDependentOnly)(maxDepth:=1)only[zE];constructor)):p:=h
theorem zq132(h:p:=by
 (try dsimp only);(first|(with_reducible exact rn8.nd)|(with_reducible exact HK.out _ bE)|exact hHeld|assumption|trivial)
 all_goals(apply_rules(newGoals:= .nonDependentOnly)(maxDepth:=1)only[zE];constructor)):p:=h
theorem zq133(h:p:=by
 clear e1 e2
 go_wp2_with fail
 go_quiet (fail)
 go_wp2_with fail
 go_roundw
 case rel=>exact ⟨k+1,by omega,by go_num,HN',by first|exact ⟨_,rfl⟩|(rw[World.drewN_drewN];exact ⟨_,rfl⟩)⟩
 case measure=>simp[intOf];omega
 all_goals(apply_rules(newGoals:= .nonDependentOnly)(maxDepth:=1)only[zE];constructor)):p:=h
theorem zq134(h:p:=by
 have H0:Hid ((scopeF s).err=0):=by show _=_;rw[HFN.out];exact hf
 clear hf
 have ba:Below w2.heap.size w2 (w2.alloc (.cells (ftC f) 38)):=bE
 refine' zq46
 have c0:=rs4.src
 clear rs2 rf2 hB2 hs2 ba hl2 HF0 HFN
 all_goals(apply_rules(newGoals:= .nonDependentOnly)(maxDepth:=1)only[zE];constructor)):p:=h
theorem zq135(h:p:=by
 have e2':(x.no==y.no)=false:=by simp[e2]
 have HF:=Lib.hid (cB_false (fun g:l=m=>e2 (by have:=HX.out;rw[g,HY.out] at this;injection this with this;rw[this])))
 clear e1 e2
 go_wp2_with fail
 go_quiet (fail)
 refine' zq55
 all_goals(apply_rules(newGoals:= .nonDependentOnly)(maxDepth:=1)only[zE];constructor)):p:=h
theorem zq136(h:p:=by
 have b1:Below w.heap.size w ((w.alloc (.cells #[.slice none 0 0] 24)).alloc (.cells ftC0 38)):=bE
 have r1:=(Row.new w #[.slice none 0 0] 24).alloc (.cells ftC0 38)
 all_goals(apply_rules(newGoals:= .nonDependentOnly)(maxDepth:=1)only[zE];constructor)):p:=h
theorem zq137(h:p:=by
 go_wp2_with fail
 clear c0 c1 cc2 c3 c4 c5 c6
 all_goals(apply_rules(newGoals:= .nonDependentOnly)(maxDepth:=1)only[zE];constructor)):p:=h
theorem zq138(h:p:=by
 go_wp2_with fail
 refine HI.out.mono ?_
 rintro e w' ⟨⟨r,rfl,hr⟩,rfl⟩
 have HR:=Lib.hid hr
 clear hr
 go_wp2_with fail
 go_ret
 exact ⟨ret_bool (by rw[←cB_congr HR.out];by_cases c:0≤r<;>simp[cB,c]),rfl⟩
 all_goals(apply_rules(newGoals:= .nonDependentOnly)(maxDepth:=1)only[zE];constructor)):p:=h
theorem zq139(h:p:=by
 have HMD:Hid (MarksAt W (D::marks)∧∀E∈D::marks,w.heap.size≤E):=⟨HM1.more (fun h=>by have:=hML.out D h;omega) hK,fun E hE=>by
  rcases List.mem_cons.1 hE with rfl|hE
  ·omega
  ·exact HM.out.2 E hE⟩
 all_goals(apply_rules(newGoals:= .nonDependentOnly)(maxDepth:=1)only[zE];constructor)):p:=h
theorem zq140(h:p:=by
 go_wp2_with fail
 go_ret
 exact ⟨ret_bool HF.out.symm,HBC.out⟩
 all_goals(apply_rules(newGoals:= .nonDependentOnly)(maxDepth:=1)only[zE];constructor)):p:=h
theorem zq142(h:p:=by
 go_wp2_with fail
 refine (mul_one c (by omega) _).mono ?_
 rintro e w' ⟨rfl,rfl⟩
 go_upto_region 7 with (fail)
 all_goals(apply_rules(newGoals:= .nonDependentOnly)(maxDepth:=1)only[zE];constructor)):p:=h
theorem zq143(h:p:=by
 go_wp2_with fail
 refine (mul_one 0 (by omega) _).mono ?_
 rintro e w' ⟨rfl,rfl⟩
 go_upto_region 7 with (fail)
 all_goals(apply_rules(newGoals:= .nonDependentOnly)(maxDepth:=1)only[zE];constructor)):p:=h
theorem zq144(h:p:=by
 go_wp2_with fail
 refine HT.out.mono ?_
 rintro r w2 ⟨rfl,h2⟩
 all_goals(apply_rules(newGoals:= .nonDependentOnly)(maxDepth:=1)only[zE];constructor)):p:=h
theorem zq145(h:p:=by
 obtain ⟨b2,off2,x,hA2,hb2,hx,e0⟩:=sl_tru (HSR.out wr HB2.out) hlt2
 have HLX:=Lib.hid (line_snoc hx)
 have j0':(0:Int)≤(j:Int):=by omega
 have j1':(j:Int)<(r.length:Int):=by omega
 have HA2:=Lib.hid hA2
 all_goals(apply_rules(newGoals:= .nonDependentOnly)(maxDepth:=1)only[zE];constructor)):p:=h
theorem zq146(h:p:=by
 clear hP
 go_wp2_with fail
 refine HR.out.mono ?_
 rintro r w5 ⟨⟨m,am,rfl,hm1,hm0⟩,hb5⟩
 rw[HC.out]
 have rf5:=rf.below hb5 rf.lt
 have hB5:=hB.trans (hb5.mono hsB)
 have hsB5:=hB5.size
 have hl5:=rf5.lt
 all_goals(apply_rules(newGoals:= .nonDependentOnly)(maxDepth:=1)only[zE];constructor)):p:=h
theorem zq148(h:p:=by
 go_simp
 refine' zq15
 refine' zq37
 have hs7:=h7.2.size
 have hdr:wr.drew.heap.size=wr.heap.size:=rfl
 have hL0:=H.out.hl
 have Ua:Upd (fun k=>k=o) wr w7:=(Upd.drew (Upd.refl (fun k=>k=o) wr)).trans h7.2
 all_goals(apply_rules(newGoals:= .nonDependentOnly)(maxDepth:=1)only[zE];constructor)):p:=h
theorem zq149(h:p:=by
 go_upto_region 1 with (fail)
 generalize w.alloc (.cells (ndArr n a) 58)=W1 at*
 have hs1:=b1.size
 all_goals(apply_rules(newGoals:= .nonDependentOnly)(maxDepth:=1)only[zE];constructor)):p:=h
theorem zq150(h:p:=by
 have b1:Below w.heap.size w (w.alloc (.cells exZ6 63)):=bE
 have rZ:=Row.new w exZ6 63
 all_goals(apply_rules(newGoals:= .nonDependentOnly)(maxDepth:=1)only[zE];constructor)):p:=h
theorem zq151(h:p:=by
 refine ⟨h.1,?_⟩
 rcases h.2 with h0|⟨g,c,cur,h1,h2,h3,h4⟩
 ·exact .inl h0
 ·exact .inr ⟨g,c,cur,h1,h2,(hu.block g (Array.getElem?_eq_some_iff.1 h3).1 (hX g (by rw[h1];rfl))).trans h3,h4⟩
 all_goals(apply_rules(newGoals:= .nonDependentOnly)(maxDepth:=1)only[zE];constructor)):p:=h
theorem zq152(h:p:=by
 have hk:Keeps w.heap.size (hide lo w) (hide lo' w'):=fun p u hp hc=>hide_more hl w.heap.size w' p u hp (keeps_of (hu.bhide (hi:=w.heap.size) (fun k hk=>Or.inl (hX k hk)) (Nat.le_refl _)) p u hp hc)
 all_goals(apply_rules(newGoals:= .nonDependentOnly)(maxDepth:=1)only[zE];constructor)):p:=h
theorem zq153(h:p:=by
 have i0:(0:Int)≤(k:Int):=by omega
 have i1:(k:Int)<(s.length:Int):=by omega
 all_goals(apply_rules(newGoals:= .nonDependentOnly)(maxDepth:=1)only[zE];constructor)):p:=h
theorem zq154(h:p:=by
 have HO:Hid (∀(nm:ByteArray) W,Below w.heap.size w W→Calls Tryz.prog 147 #[ndV n a,.string nm] W (OfRes n nm W)):=fun nm W hW=>of_any n a nm W ((hn.below hW).more hW.size) sm
 all_goals(apply_rules(newGoals:= .nonDependentOnly)(maxDepth:=1)only[zE];constructor)):p:=h
theorem zq155(h:p:=by
 refine' zq54
 have q9:Below w4.heap.size w4 w9:=Below.trans bE (hb9.mono lE)
 have rf9:=rf4.below q9 rf4.lt
 all_goals(apply_rules(newGoals:= .nonDependentOnly)(maxDepth:=1)only[zE];constructor)):p:=h
theorem zq156(h:p:=by
 have HN:Hid (∀W,Keeps w.heap.size w W→NdAt W w.heap.size n a):=fun W hW=>hn.keep hW (Nat.le_refl _)
 have HL:=Lib.hid (show (vrs n).length≤10000 by have:=sm.len;omega)
 have HSM:=Lib.hid sm
 all_goals(apply_rules(newGoals:= .nonDependentOnly)(maxDepth:=1)only[zE];constructor)):p:=h
theorem zq157(h:p:=by
 have re:=Row.new wr (eqArr q A1 k1 A2 k2) 65
 all_goals(apply_rules(newGoals:= .nonDependentOnly)(maxDepth:=1)only[zE];constructor)):p:=h
theorem zq158(h:p:=by
 simp[execOp,hop,hm,hx,hv,hrun,Result.andThen]
 exact hK' _ _ (hK w' r1 r2)
 all_goals(apply_rules(newGoals:= .nonDependentOnly)(maxDepth:=1)only[zE];constructor)):p:=h
theorem zq160(h:p:=by
 have hp:=HPAR.out.2.2.2.2.1 (by omega)
 obtain ⟨l0,l1,rfl⟩:=len_2 (HLL.out.trans hp)
 obtain ⟨q,c,rfl,hc1,hc2,hq⟩:=ints_rdn HVV.out hgb (n:=2) rfl (by decide)
 have HQ:=Lib.hid hq
 all_goals(apply_rules(newGoals:= .nonDependentOnly)(maxDepth:=1)only[zE];constructor)):p:=h
theorem zq161(h:p:=by
 have HW:=Lib.hid hw
 obtain ⟨m,rfl⟩:=Int.eq_ofNat_of_zero_le hw.1
 have hm:m<f.wires.length:=by have h9:(m:Int)<f.wires.length:=hw.2;omega
 have hm':(m:Int)<f.wires.length:=by omega
 all_goals(apply_rules(newGoals:= .nonDependentOnly)(maxDepth:=1)only[zE];constructor)):p:=h
theorem zq162(h:p:=by
 rw[hv] at hv'
 injection hv' with hA _ _
 refine ⟨g,0,hA,(h.lt g (by rw[hv,hA];rfl)).2,fun i x hi=>?_⟩
 have hil:i<css.length:=by rw[hx.1];exact (List.getElem?_eq_some_iff.1 hi).1
 all_goals(apply_rules(newGoals:= .nonDependentOnly)(maxDepth:=1)only[zE];constructor)):p:=h
theorem zq163(h:p:=by
 have HT:=Lib.hid ht
 have HU:=Lib.hid hu
 have hsr:=hu.size
 all_goals(apply_rules(newGoals:= .nonDependentOnly)(maxDepth:=1)only[zE];constructor)):p:=h
theorem zq164(h:p:=by
 obtain ⟨b,off,x,cs,h1,h2,h3,⟨v,rfl,Ax,cx,rfl,h4,h6,h7⟩,h5⟩:=h.at_ hk
 have:=h5 0 _ rfl
 rw[Nat.mul_one,Nat.add_zero] at this
 exact ⟨b,off,x,Ax,cx,h1,h2,h3,this,h4,h6,h7⟩
 all_goals(apply_rules(newGoals:= .nonDependentOnly)(maxDepth:=1)only[zE];constructor)):p:=h
theorem zq165(h:p:=by
 refine' zq62
 have hB:=b1.trans (hbr.mono hs1)
 have rr:=r1.below hbr l1
 all_goals(apply_rules(newGoals:= .nonDependentOnly)(maxDepth:=1)only[zE];constructor)):p:=h
theorem zq166(h:p:=by
 go_wp2_with fail
 go_ret
 exact HFIN.out _ _ (by rw[HO.out.1];exact HT2.out) HU2.out HO.out.2.symm
 all_goals(apply_rules(newGoals:= .nonDependentOnly)(maxDepth:=1)only[zE];constructor)):p:=h
theorem zq167(h:p:=by
 have HT:=Lib.hid (catTo_succ hg)
 have h4:(catTo ss k).length+ss[k].l.length≤10000:=by
  have h1:=HC.out (k+1)
  have h2:=HL.out
  rw[HT.out,List.length_append] at h1
  omega
 all_goals(apply_rules(newGoals:= .nonDependentOnly)(maxDepth:=1)only[zE];constructor)):p:=h
theorem zq169(h:p:=by
 have HI:=Lib.hid HI
 go_wp2_with fail
 refine HI.out.mono ?_
 rintro r w9 ⟨rfl,hb9⟩
 have rE9:=rE8.below hb9 (by omega)
 have rZ9:=rZ8.below hb9 (by omega)
 have hs9:=hb9.size
 all_goals(apply_rules(newGoals:= .nonDependentOnly)(maxDepth:=1)only[zE];constructor)):p:=h
theorem zq170(h:p:=by
 rintro e w2 ⟨rfl,hb2⟩
 have b2:=(hbr.trans (ba.mono hszr)).trans (hb2.mono (by simp;omega))
 all_goals(apply_rules(newGoals:= .nonDependentOnly)(maxDepth:=1)only[zE];constructor)):p:=h
theorem zq171(h:p:=by
 intro l
 induction l with
 |nil=>intro x hx;cases hx
 |cons z l ih=>
  intro x hx
  simp only[maxL]
  rcases List.mem_cons.1 hx with rfl|hx
  ·omega
  ·have:=ih x hx;omega
 all_goals(apply_rules(newGoals:= .nonDependentOnly)(maxDepth:=1)only[zE];constructor)):p:=h
theorem zq172(h:p:=by
 (refine step_look rfl _ _ rfl K rfl x0 rfl (.int .i64 (F x0)) (by first|exact (HS.out _ hu8).2.2.2.2.2.2.2.2.2.2|exact (HS.out _ (Upd.of_below bE)).2.2.2.2.2.2.2.2.2.2) ?_)
 all_goals(apply_rules(newGoals:= .nonDependentOnly)(maxDepth:=1)only[zE];constructor)):p:=h
theorem zq173(h:p:=by
 obtain ⟨h0,D,⟨es,clock,h1,h2⟩,h3⟩:=h
 exact ⟨h0,D,⟨es,clock,hk.trans h1,h2⟩,h3⟩
 all_goals(apply_rules(newGoals:= .nonDependentOnly)(maxDepth:=1)only[zE];constructor)):p:=h
theorem zq174(h:p:=by
 have HF:=Lib.hid (cB_false (fun g:l=m=>e1 (by have:=HX.out;rw[g,HY.out] at this;injection this with this;rw[this])))
 clear e1
 go_wp2_with fail
 go_quiet (fail)
 refine' zq55
 all_goals(apply_rules(newGoals:= .nonDependentOnly)(maxDepth:=1)only[zE];constructor)):p:=h
theorem zq175(h:p:=by
 have hA2:=HA2.out
 have hA:=HA.out
 go_wp2_with fail
 go_roundw
 case rel=>exact ⟨j+1,_,by omega,by go_num,rfl,HU5,HB2⟩
 case measure=>first|(simp[intOf];omega)|simp[intOf]
 all_goals(apply_rules(newGoals:= .nonDependentOnly)(maxDepth:=1)only[zE];constructor)):p:=h
theorem zq176(h:p:=by
 have hol:=h0.lt
 have u6:=upd_six w1 Z (.int .i64 e.op) (.string e.name) (.int .i64 e.n) (.slice A e.args.length cap) (.int .i64 e.line) (.int .i64 e.col)
 have hs6:=u6.size
 all_goals(apply_rules(newGoals:= .nonDependentOnly)(maxDepth:=1)only[zE];constructor)):p:=h
theorem zq177(h:p:=by
 have key:0≤partsZ e.op→(e.args.length:Int)=partsZ e.op:=fun h0=>Classical.byContradiction fun hne=>by
  unfold plainB at h
  rw[plainK_no2 ⟨h0,hne⟩] at h
  cases h
 all_goals(apply_rules(newGoals:= .nonDependentOnly)(maxDepth:=1)only[zE];constructor)):p:=h
theorem zq178(h:p:=by
 obtain ⟨⟨j0,j1,j2⟩,g0,g1,g2⟩:=rf5.three
 all_goals(apply_rules(newGoals:= .nonDependentOnly)(maxDepth:=1)only[zE];constructor)):p:=h
theorem zq179(h:p:=by
 have b5:=b1.trans ((hb2.trans (b4.mono hs2)).mono hs1)
 have rZ4:=rZ.below (hb2.trans (b4.mono hs2)) hlZ
 have H4:=Lib.hid (H0.out.bel b5)
 have hs4:=b4.size
 have hlE:=rE.lt
 all_goals(apply_rules(newGoals:= .nonDependentOnly)(maxDepth:=1)only[zE];constructor)):p:=h
theorem zq181(h:p:=by
 (try go_wp2_with fail)
 refine hKK.out _ _ ?_ (fun hHeld=>?_)
 ·(try dsimp only);(first|exact kk|go_keep)
 clear hKK KK
 refine' zq1
 refine wpAnyH_done (by kernel_rfl) ?_ _
 all_goals(apply_rules(newGoals:= .nonDependentOnly)(maxDepth:=1)only[zE];constructor)):p:=h
theorem zq182(h:p:=by
 have hmq':a.cq≤9223372036854775807:=by unfold maxLen at hmq;omega
 all_goals(apply_rules(newGoals:= .nonDependentOnly)(maxDepth:=1)only[zE];constructor)):p:=h
theorem zq183(h:p:=by
 obtain ⟨h1,h2⟩:=List.getElem?_eq_some_iff.1 h
 rw[List.take_succ_eq_append_getElem h1,h2]
 all_goals(apply_rules(newGoals:= .nonDependentOnly)(maxDepth:=1)only[zE];constructor)):p:=h
end Go.Proofs.YtdkgkacnjdnpoaaGreat
