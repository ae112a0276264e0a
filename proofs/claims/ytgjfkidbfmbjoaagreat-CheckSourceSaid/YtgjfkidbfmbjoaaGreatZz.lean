/-
  Runs of tactics that stand in many proofs, each as a theorem's default argument.
-/
import Derived.ArgAppend
import Derived.Below
import Derived.BigQuiet
import Derived.Carry
import Derived.ChangeOld
import Derived.DataReads
import Derived.Deep.AppendLies
import Derived.Deep.CutBlock
import Derived.Deep.DeepCutAuto
import Derived.Deep.DrawnRows
import Derived.Deep.Draws
import Derived.Deep.LoopGhost
import Derived.Deep.QuietTactic
import Derived.Deep.RegionHeld
import Derived.Deep.RegionHeld3
import Derived.Deep.RegionLaw
import Derived.Deep.RegionLawGrows
import Derived.Deep.RegionWith
import Derived.Ground.GgzProg
import Derived.Ground.SlgmProg
import Derived.IntWalk
import Derived.JoinedOf
import Derived.Laws.AppendOwnNone
import Derived.Laws.Bits64b
import Derived.Laws.CopyOwn
import Derived.Laws.EntriesVeiled
import Derived.Laws.MakeOwn
import Derived.Laws.OwnMore
import Derived.Laws.StructEq
import Derived.Lib.AppendZeros
import Derived.Lib.Hide
import Derived.LoopIn
import Derived.LoopNIn
import Derived.LoopTactic
import Derived.Maps.AppendAt
import Derived.Maps.Own
import Derived.Maps.OwnIn
import Derived.Maps.OwnOps
import Derived.Maps.OwnSet
import Derived.Maps.Views
import Derived.OpenShut
import Derived.Outline
import Derived.OwnWalk
import Derived.OwnWalkIn
import Derived.ProofKit
import Derived.RangeFuncBound
import Derived.RangeFuncCalls
import Derived.RangeFuncLeaves
import Derived.RangeFuncNested
import Derived.RangeFuncWrites
import Derived.RegionTactic
import Derived.RowKit
import Derived.RowKit3
import Derived.ScopeJumps
import Derived.Shelf.Abstract
import Derived.Shelf.RegionOpen
import Derived.Shelf.SlIter.Nil
import Derived.Shelf.SortM.Plain
import Derived.Shelf.SortM.SortNone
import Derived.ShutString
import Derived.Sort.KeysCollected
import Derived.Sort.Walk0
import Derived.StillTailTactics
import Derived.TacticsInMore
import Derived.WalkKit
import Derived.WalkLawsBesides
import Derived.WalkMore
import Derived.WalkSpells
namespace Go.Proofs.YtgjfkidbfmbjoaaGreat
inductive zD{p:Prop}(h:p):Prop where
 |zM:zD h
theorem zE{p:Prop}(h:p)(_:zD h):p:=h
variable{p:Prop}
theorem zq2(h:p:=by
 go_region_held3 (fun W=>W.cell? ⟨w.heap.size,0,none⟩=some (.slice A s.length cap)∧(W.cell? ⟨w.heap.size+1,0,none⟩=some (.string n.name)∧W.cell? ⟨w.heap.size+1,1,none⟩=some (.slice a.ai n.ins.length a.ci)∧W.cell? ⟨w.heap.size+1,2,none⟩=some (.slice a.ao n.outs.length a.co)∧W.cell? ⟨w.heap.size+1,3,none⟩=some (.slice a.av n.vars.length a.cv)∧W.cell? ⟨w.heap.size+1,4,none⟩=some (.slice a.aq n.eqs.length a.cq)∧W.cell? ⟨w.heap.size+1,5,none⟩=some (.int .i64 n.line)∧W.cell? ⟨w.heap.size+1,6,none⟩=some (.int .i64 n.col))∧W.cell? ⟨w.heap.size+2,3,none⟩=some (.slice (some ⟨b,off,none⟩) e.args.length cap2)∧(W.cell? ⟨b,off+k*6,none⟩=some (.int .i64 x.op)∧W.cell? ⟨b,off+k*6+1,none⟩=some (.string x.name)∧W.cell? ⟨b,off+k*6+2,none⟩=some (.int .i64 x.n)∧W.cell? ⟨b,off+k*6+3,none⟩=some (.slice A' x.args.length cap')∧W.cell? ⟨b,off+k*6+4,none⟩=some (.int .i64 x.line)∧W.cell? ⟨b,off+k*6+5,none⟩=some (.int .i64 x.col))) (first|(with_reducible exact HK.out _ (by repeat (first|(with_reducible assumption)|(with_reducible exact Below.refl _ _)|(with_reducible refine Below.drew ?_)|(with_reducible refine below_drewN' ?_ _)|(with_reducible refine Below.alloc ?_ (by first|assumption|omega|(simp;omega)|simp|(simp[World.setCell];omega)|simp[World.setCell]) _)|(with_reducible refine Below.setCell ?_ (by first|assumption|omega|(simp;omega)|simp|(simp[World.setCell];omega)|simp[World.setCell]) _))))|go_keep)
  (first|((go_at_call 189);(refine (HC.out _ (by repeat (first|(with_reducible assumption)|(with_reducible exact Below.refl _ _)|(with_reducible refine Below.drew ?_)|(with_reducible refine below_drewN' ?_ _)|(with_reducible refine Below.alloc ?_ (by first|assumption|omega|(simp;omega)|simp|(simp[World.setCell];omega)|simp[World.setCell]) _)|(with_reducible refine Below.setCell ?_ (by first|assumption|omega|(simp;omega)|simp|(simp[World.setCell];omega)|simp[World.setCell]) _)))).mono ?_);rintro e w3 ⟨⟨kk,rfl,HKK⟩,hb3⟩;(try (have r5:Row w3 wr.heap.size ftC0 31:=(by first|(with_reducible exact Row.below (Row.drew (Row.new wr ftC0 31)) hb3 (by simp))|(with_reducible exact Row.below (Row.new wr.drew ftC0 31) hb3 (by simp)));obtain ⟨⟨x0,x1,x2⟩,g0,g1,g2⟩:=r5.three));(have hb4:Below wr.heap.size wr w3:=Below.trans (by repeat (first|(with_reducible assumption)|(with_reducible exact Below.refl _ _)|(with_reducible refine Below.drew ?_)|(with_reducible refine below_drewN' ?_ _)|(with_reducible refine Below.alloc ?_ (by first|assumption|omega|(simp;omega)|simp|(simp[World.setCell];omega)|simp[World.setCell]) _)|(with_reducible refine Below.setCell ?_ (by first|assumption|omega|(simp;omega)|simp|(simp[World.setCell];omega)|simp[World.setCell]) _))) (hb3.mono (by first|exact Nat.le_refl _|simp|(simp;omega)|omega)));(have hs4:=hb4.size)))
 all_goals
  go_wp2_with fail
  go_meet
  exact ⟨kk,_,rfl,rfl,by first|exact Nat.le_refl _|exact hs4,by first|(with_reducible exact Row.new _ _ _)|(with_reducible exact r5.set3 _ _ _),HKK,(by repeat (first|(with_reducible assumption)|(with_reducible exact Below.refl _ _)|(with_reducible refine Below.drew ?_)|(with_reducible refine below_drewN' ?_ _)|(with_reducible refine Below.alloc ?_ (by first|assumption|omega|(simp;omega)|simp|(simp[World.setCell];omega)|simp[World.setCell]) _)|(with_reducible refine Below.setCell ?_ (by first|assumption|omega|(simp;omega)|simp|(simp[World.setCell];omega)|simp[World.setCell]) _)))⟩
 all_goals(apply_rules(newGoals:= .nonDependentOnly)(maxDepth:=1)only[zE];constructor)):p:=h
theorem zq6(h:p:=by
 try simp only[Act.put,List.setIfInBounds_toArray,List.set_cons_zero,List.set_cons_succ]
 all_goals(apply_rules(newGoals:= .nonDependentOnly)(maxDepth:=1)only[zE];constructor)):p:=h
theorem zq22(h:p:=by
 intro w hSw;(try dsimp only at hSw);go_simp;(try with_reducible rfl)
 all_goals(apply_rules(newGoals:= .nonDependentOnly)(maxDepth:=1)only[zE];constructor)):p:=h
theorem zq155(h:p:=by
 refine wpAnyH_done (by kernel_rfl) ?_ _
 go_wp2_with fail
 all_goals(apply_rules(newGoals:= .nonDependentOnly)(maxDepth:=1)only[zE];constructor)):p:=h
theorem zq3(h:p:=by
 obtain ⟨kk,gf,rfl,rfl,hgf,rg,HKK,hbc⟩:=hcut
 have rf':=rf.below hbc rf.lt
 have hB':=hB.trans (hbc.mono hB.size)
 have hsc:=hbc.size
 have hown2:=own_below hown hbc
 clear x0 x1 x2 x3 x4 x5 d0 d1 d2 d3 d4 d5 HK HC hown
 obtain ⟨⟨y0,y1,y2⟩,_⟩:=rg.three
 by_cases hf:f.err=0
 ·have hf1:(f.err !=0)=false:=neq_no hf
  have HJ':=Lib.hid (step_uptoI (P:=fun _ x=>(tyF s n x).err=0) HJ.out HXK.out (by rw[HFX.out];exact hf))
  have HK4:Hid (kk=tyK s n x):=HKK.out hf
  clear hf
  go_wp2_with (at_builtin;refine wpList_append_own _ rfl _ _ 33 rfl W1.heap.size 3 i0 (.int .i64 0) 1 8 Tryz.underlying33 hi0 hz0 hz1 hz2 rfl (by decide) _ _ _ rfl (hown2.alloc _) ⟨wc.heap.size,0,none⟩ 1 1 [.int .i64 kk] rfl rfl ?c1 ?c2 ?c3 ?c4 ?c5 ?_)
  case c1=>exact cell_one _ _ _
  case c2=>simp[Value.oneCell']
  case c3=>unfold maxLen;omega
  case c4=>omega
  case c5=>simp;omega
  intro v' w4 hown4 hg4 _
  have hb4:Below W1.heap.size W1 w4:=below_own ((hbr.trans (hbc.mono hszr)).alloc (by omega) _) (hown2.alloc _) hg4 (by simp;omega)
  have hown5:w4.ownsRow W1.heap.size 3 1 v' (k+1) (intsV ((argKs s n e).take (k+1))):=by rw[HTK.out,intsV_snoc,←HK4.out];exact hown4
  clear hown4 hown2 hg4
  go_wp2_with fail
  go_roundw
  case rel=>exact ⟨k+1,_,by omega,by go_num,rfl,hown5,HJ',hb4⟩
  case measure=>first|(simp[intOf];omega)|simp[intOf]
 ·have hf1:(f.err !=0)=true:=neq_yes hf
  have HF:Hid (tyF s n e=f):=by
   show _=_
   have h3:=fstL_stop (f:=fun _ x=>tyF s n x) HJ.out HXK.out (by show (tyF s n x).err≠0;rw[HFX.out];exact hf)
   rw[tyF_eq]
   unfold argFs
   rw[←fstL_map,h3]
   show ft2 (tyF s n x) _=f
   rw[HFX.out]
   exact ft2_1 hf
  have HE:Hid ((tyF s n e).err≠0):=by show _≠_;rw[HF.out];exact hf
  clear hf
  obtain ⟨⟨k0,k1,k2⟩,g0,g1,g2⟩:=rf'.three
  go_upto_region 7 with (fail)
  refine wp_region_held_drew (S:=fun W=>W=W) (by kernel_rfl) ?_ (fun hHeld=>?_)
  ·(try dsimp only);(try rfl)
  refine wpAnyH_take (i:=1) (oi:={dst:=some 6,op:=_,type:=_,pos:=_,after:=_,guard:=_}) (v:= ?_) rfl (by kernel_rfl) (by kernel_rfl) (by kernel_rfl) (fun _ _ _ h=>h) (Or.inl ⟨by kernel_rfl,?_⟩) (by first|assumption|trivial) ?_
  rotate_left 1
  ·refine' zq22
  refine' zq6
  refine wpAnyH_ready (rs:=[0]) (by kernel_rfl) (by simp) ?_
  refine AllReadyH.cons (o:={dst:=some 39,op:=_,type:=_,pos:=_,after:=_,guard:=_}) rfl (fun KK hKK=>?_) AllReadyH.nil
  go_simp
  refine hKK.out _ _ ?_ (fun hHeld=>?_)
  ·(try dsimp only);(try rfl)
  clear hKK KK
  refine' zq6
  refine wpAnyH_ready (rs:=[2]) (by kernel_rfl) (by simp) ?_
  refine AllReadyH.cons (o:={dst:=none,op:=_,type:=_,pos:=_,after:=_,guard:=_}) rfl (fun KK hKK=>?_) AllReadyH.nil
  go_simp
  refine hKK.out _ _ ?_ (fun hHeld=>?_)
  ·(try dsimp only);(try rfl)
  clear hKK KK
  refine' zq6
  refine' zq155
  exact bodyPost_ret (res2b (p:=7) (q:=6) rfl Tryz.underlying31 rfl (by kernel_rfl) rfl rfl (rf'.drew.set3 _ _ _)) rfl ⟨⟨0,(congrArg (fun f=>Ending.returned (.tuple #[.int .i64 0,ftV f])) HF.out).symm,fun g=>absurd g HE.out,fun _=>rfl⟩,below_set3 hB'.drew (by first|omega|(simp;omega)|simp) _ _ _⟩
 all_goals(apply_rules(newGoals:= .nonDependentOnly)(maxDepth:=1)only[zE];constructor)):p:=h
theorem zq0(h:p:=by
 obtain ⟨b,off,x,A',cap',hA,hb,hxk,hxm,hok',hcap',hmax',hx',d0,d1,d2,d3,d4,d5⟩:=(HX.out wr hB).at_ hlt
 subst hA
 have HXK:=Lib.hid hxk
 obtain ⟨f,HFX⟩:∃f,Hid (tyF s n x=f):=⟨_,rfl⟩
 have HC:Hid (∀W,Below wr.heap.size wr W→Calls Tryz.prog 189 #[srcV s A cap,ndV n a,exV x A' cap'] W fun r w'=>(∃kk:Int,r= .returned (.tuple #[.int .i64 kk,ftV f])∧Hid (f.err=0→kk=tyK s n x))∧Below W.heap.size W w'):=fun W hW=>by
  have hWB:=hB.trans (hW.mono hB.size)
  have hWs:=hWB.size
  rw[←HFX.out]
  refine (show Calls _ _ _ _ (ExprR s n x W) from ?_).mono (fun r w1 h=>by obtain ⟨⟨kk,e1,h1⟩,h2⟩:=h;exact ⟨⟨kk,e1,h1.out.1⟩,h2⟩)
  exact HII.out x hxm A' cap' W (nds_keep (HS.out W hWB) (fun _ _ _ h=>h) hWs) ((HN.out W hWB).more hWs) hok' hcap' hmax' (exs_keep hx' (keeps_of (hW.mono hB.size)) hWs) (HKN.out.sub hxm)
 have i0':(0:Int)≤(k:Int):=by omega
 have i1':(k:Int)<(e.args.length:Int):=by omega
 have HTK:Hid ((argKs s n e).take (k+1)=(argKs s n e).take k++ [tyK s n x]):=by
  show _=_
  unfold argKs
  rw[List.take_add_one,List.getElem?_map,hxk];rfl
 clear hx' hxm hxk hok'
 go_upto_region 5 with (fail)
 have HK:Hid (∀W,Below wr.heap.size wr W→W.cell? ⟨w.heap.size,0,none⟩=some (.slice A s.length cap)∧(W.cell? ⟨w.heap.size+1,0,none⟩=some (.string n.name)∧W.cell? ⟨w.heap.size+1,1,none⟩=some (.slice a.ai n.ins.length a.ci)∧W.cell? ⟨w.heap.size+1,2,none⟩=some (.slice a.ao n.outs.length a.co)∧W.cell? ⟨w.heap.size+1,3,none⟩=some (.slice a.av n.vars.length a.cv)∧W.cell? ⟨w.heap.size+1,4,none⟩=some (.slice a.aq n.eqs.length a.cq)∧W.cell? ⟨w.heap.size+1,5,none⟩=some (.int .i64 n.line)∧W.cell? ⟨w.heap.size+1,6,none⟩=some (.int .i64 n.col))∧W.cell? ⟨w.heap.size+2,3,none⟩=some (.slice (some ⟨b,off,none⟩) e.args.length cap2)∧(W.cell? ⟨b,off+k*6,none⟩=some (.int .i64 x.op)∧W.cell? ⟨b,off+k*6+1,none⟩=some (.string x.name)∧W.cell? ⟨b,off+k*6+2,none⟩=some (.int .i64 x.n)∧W.cell? ⟨b,off+k*6+3,none⟩=some (.slice A' x.args.length cap')∧W.cell? ⟨b,off+k*6+4,none⟩=some (.int .i64 x.line)∧W.cell? ⟨b,off+k*6+5,none⟩=some (.int .i64 x.col))):=fun W hW=>⟨(rs.below hW rs.lt).src,(rn.below hW rn.lt).nd,(re.below hW re.lt).ex6.2.2.2.1,old_cell hW d0,old_cell hW d1,old_cell hW d2,old_cell hW d3,old_cell hW d4,old_cell hW d5⟩
 go_cut[10,11] (fun v10 v11 W=>∃(kk:Int) (gf:Nat),v10= .int .i64 kk∧v11= .pointer (some ⟨gf,0,none⟩)∧wr.heap.size≤gf∧Row W gf (ftC f) 31∧Hid (f.err=0→kk=tyK s n x)∧Below wr.heap.size wr W)
 case first=>
  refine' zq2
 case rest=>
  refine' zq3
 all_goals(apply_rules(newGoals:= .nonDependentOnly)(maxDepth:=1)only[zE];constructor)):p:=h
theorem zq29(h:p:=by
 have re1:=Row.new w (exA e A cap) 79
 have b1:Below w.heap.size w (w.alloc (.cells (exA e A cap) 79)):=(by repeat (first|(with_reducible assumption)|(with_reducible exact Below.refl _ _)|(with_reducible refine Below.drew ?_)|(with_reducible refine below_drewN' ?_ _)|(with_reducible refine Below.alloc ?_ (by first|assumption|omega|(simp;omega)|simp|(simp[World.setCell];omega)|simp[World.setCell]) _)|(with_reducible refine Below.setCell ?_ (by first|assumption|omega|(simp;omega)|simp|(simp[World.setCell];omega)|simp[World.setCell]) _)))
 all_goals(apply_rules(newGoals:= .nonDependentOnly)(maxDepth:=1)only[zE];constructor)):p:=h
theorem zq105(h:p:=by
 obtain ⟨⟨p0,p1⟩,p2,p3,p4,p5,p6⟩:=hpar
 rcases ops_all ⟨p0,p1⟩ with o|o|o|o|o|o|o|o|o|o
 ·have:=p2 (by omega);omega
 ·have:=p2 (by omega);omega
 ·have:=p2 (by omega);omega
 ·have:=p3 o;omega
 ·by_cases o5:e.op=5∨e.op=6
  ·have:=p4 (by omega);omega
  ·have:=p5 (by omega);omega
 ·have:=p4 (by omega);omega
 ·have:=p5 (by omega);omega
 ·have:=p4 (by omega);omega
 ·have:=p5 (by omega);omega
 ·have:=p6 o;omega
 all_goals(apply_rules(newGoals:= .nonDependentOnly)(maxDepth:=1)only[zE];constructor)):p:=h
theorem zq79(h:p:=by
 have HOO:=Lib.hid o
 clear o
 have hown:=hk.own
 have hpar:=parts_of hown.plain
 have h8:e.args.length≤8:=by
  refine' zq105
 have HPAR:=Lib.hid hpar
 have HOWN:=Lib.hid hown
 all_goals(apply_rules(newGoals:= .nonDependentOnly)(maxDepth:=1)only[zE];constructor)):p:=h
theorem zq197(h:p:=by
 have HX:Hid (∀W,Below B w W→IsExs W B A e.args):=fun W hW=>hx.below hW
 have hlg:=h.lt
 have hlo:=h.lo
 have hsB:=h.size
 all_goals(apply_rules(newGoals:= .nonDependentOnly)(maxDepth:=1)only[zE];constructor)):p:=h
theorem zq1(h:p:=by
 intro f A cap w h hok hl hm hx hk
 refine' zq79
 refine' zq29
 refine' zq197
 have HU1:Hid (UpdM g w (w.alloc (.cells (exA e A cap) 79))):=UpdM.of b1
 have HP:=Lib.hid (parts_tany T B g e HI f A cap _ (h.bel b1) hm (hx.below (UpdM.bel HU1.out hlo hsB)) hk h8)
 have HMX:=Lib.hid hm
 have hm':cap≤9223372036854775807:=by unfold maxLen at hm;omega
 have hsw:(w.alloc (.cells (exA e A cap) 79)).heap.size=w.heap.size+1:=by simp
 clear h hx hk hown hpar HI hok hm
 go_enter Tryz.func201,Tryz.ntmps201
 go_upto_region 1 with (fail)
 generalize w.alloc (.cells (exA e A cap) 79)=W1 at*
 have hs1:=b1.size
 obtain ⟨x0,x1,x2,x3,x4,x5⟩:=re1.ex6
 go_wp2_with fail
 refine HP.out.mono ?_
 rintro r w2 ⟨⟨v,rfl,HV⟩,ht2,hu2⟩
 have HU2:Hid (UpdM g w w2):=Upd.trans HU1.out hu2
 have re2:=Row.upd hu2 re1 (by omega)
 have hs2:=hu2.size
 have HBD:=Lib.hid (bad_any T _ g w2 ht2.row ht2.fz)
 clear x0 x1 x2 x3 x4 x5 hu2 HP
 by_cases hb:(ft2 f (fstl (argFs T.s T.n e))).err=0
 rotate_left 1
 ·have HB:Hid (badB (ft2 f (fstl (argFs T.s T.n e)))=true):=neq_yes hb
  have HE:Hid (ft2 f (tyF T.s T.n e)=ft2 f (fstl (argFs T.s T.n e))):=by show _=_;rw[tyF_eq,←ft2_assoc,ft2_1 hb]
  have HBB:=Lib.hid hb
  have HT2:=Lib.hid ht2
  clear hb ht2
  go_wp2_with fail
  refine HBD.out.mono ?_
  rintro r w3 ⟨rfl,rfl⟩
  rw[HB.out]
  go_wp2_with fail
  go_ret
  refine ⟨⟨0,rfl,fun g0=>absurd (by rw[←HE.out];exact g0) HBB.out⟩,?_,HU2.out⟩
  rw[HE.out]
  exact HT2.out
 have h0:ft2 f (fstl (argFs T.s T.n e))=ft0:=ht2.fz hb
 have hv:=HV.out hb
 rw[h0] at ht2 HBD
 have HT2:=Lib.hid ht2
 have HE:Hid (ft2 f (tyF T.s T.n e)=opF T.s T.n e (argKs T.s T.n e)):=by show _=_;rw[tyF_eq,←ft2_assoc,h0,ft2_l]
 have HKE:Hid (tyK T.s T.n e=opTy T.s T.n e (argKs T.s T.n e)):=tyK_eq _ _ _
 have hll:(argKs T.s T.n e).length=e.args.length:=argKs_len _ _ _
 obtain ⟨l,HLK⟩:∃l,Hid (argKs T.s T.n e=l):=⟨_,rfl⟩
 rw[HLK.out] at HE HKE hll hv
 have HVV:=Lib.hid hv
 have HLL:=Lib.hid hll
 have HFIN:Hid (∀(k:Int) w',TpAt w' B g T (opF T.s T.n e l)→UpdM g w w'→k=opTy T.s T.n e l→OfR w B g T f e (.returned (.int .i64 k)) w'):=fun k w' h1 h2 h3=>by
  refine ⟨⟨k,rfl,fun _=>h3.trans HKE.out.symm⟩,?_,h2⟩
  rw[HE.out]
  exact h1
 clear hb h0 HV ht2 hv hll HLK HE HKE
 go_wp2_with fail
 refine HBD.out.mono ?_
 rintro r w3 ⟨rfl,rfl⟩
 rw[show badB ft0=false from rfl]
 go_upto_region 4 with (fail)
 obtain ⟨x0,x1,x2,x3,x4,x5⟩:=re2.ex6
 have HXW:=Lib.hid (HX.out w2 (UpdM.bel HU2.out hlo hsB))
 have hgb:g<W1.heap.size:=by omega
 have o:=HOO.out
 all_goals(apply_rules(newGoals:= .nonDependentOnly)(maxDepth:=1)only[zE];constructor)):p:=h
theorem zq30(h:p:=by
 have h2':cap≤9223372036854775807:=by unfold maxLen at h2;omega
 all_goals(apply_rules(newGoals:= .nonDependentOnly)(maxDepth:=1)only[zE];constructor)):p:=h
theorem zq66(h:p:=by
 have rs1:=(((Row.new w #[.slice A s.length cap] 24).alloc (.cells (ndArr n a) 39)).alloc (.cells (exA e A2 cap2) 79)).alloc (.cells ftC0 31)
 have rn1:=((rowNew2 w (.cells #[.slice A s.length cap] 24) (ndArr n a) 39).alloc (.cells (exA e A2 cap2) 79)).alloc (.cells ftC0 31)
 have re1:=(rowNew3 w (.cells #[.slice A s.length cap] 24) (.cells (ndArr n a) 39) (exA e A2 cap2) 79).alloc (.cells ftC0 31)
 have rf1:=rowNewD w (.cells #[.slice A s.length cap] 24) (.cells (ndArr n a) 39) (.cells (exA e A2 cap2) 79) ftC0 31
 all_goals(apply_rules(newGoals:= .nonDependentOnly)(maxDepth:=1)only[zE];constructor)):p:=h
theorem zq152(h:p:=by
 have HN:Hid (∀W,Below w.heap.size w W→NdAt W w.heap.size n a):=fun W hW=>hn.below hW
 all_goals(apply_rules(newGoals:= .nonDependentOnly)(maxDepth:=1)only[zE];constructor)):p:=h
theorem zq83(h:p:=by
 have HS:Hid (∀W,Below w.heap.size w W→Nds W w.heap.size A s):=fun W hW=>nds_keep hs (keeps_of hW) (Nat.le_refl _)
 refine' zq152
 all_goals(apply_rules(newGoals:= .nonDependentOnly)(maxDepth:=1)only[zE];constructor)):p:=h
theorem zq202(h:p:=by
 generalize (((w.alloc (.cells #[.slice A s.length cap] 24)).alloc (.cells (ndArr n a) 39)).alloc (.cells (exA e A2 cap2) 79)).alloc (.cells ftC0 31)=W1 at*
 have hs1:=b1.size
 all_goals(apply_rules(newGoals:= .nonDependentOnly)(maxDepth:=1)only[zE];constructor)):p:=h
theorem zq4(h:p:=by
 intro A2 cap2 w hs hn hok hl2 hm2 hx hk
 refine' zq79
 have HKN:=Lib.hid hk
 have HH1:=Lib.hid h1
 have HII:=Lib.hid HI
 obtain ⟨i0,hi0,hz0,hz1,hz2⟩:=info_parts info_int
 refine' zq66
 have b1:Below w.heap.size w ((((w.alloc (.cells #[.slice A s.length cap] 24)).alloc (.cells (ndArr n a) 39)).alloc (.cells (exA e A2 cap2) 79)).alloc (.cells ftC0 31)):=(by repeat (first|(with_reducible assumption)|(with_reducible exact Below.refl _ _)|(with_reducible refine Below.drew ?_)|(with_reducible refine below_drewN' ?_ _)|(with_reducible refine Below.alloc ?_ (by first|assumption|omega|(simp;omega)|simp|(simp[World.setCell];omega)|simp[World.setCell]) _)|(with_reducible refine Below.setCell ?_ (by first|assumption|omega|(simp;omega)|simp|(simp[World.setCell];omega)|simp[World.setCell]) _)))
 have HSW:Hid (((((w.alloc (.cells #[.slice A s.length cap] 24)).alloc (.cells (ndArr n a) 39)).alloc (.cells (exA e A2 cap2) 79)).alloc (.cells ftC0 31)).heap.size=w.heap.size+4):=by show _=_;simp
 refine' zq83
 have HX:Hid (∀W,Below w.heap.size w W→IsExs W w.heap.size A2 e.args):=fun W hW=>hx.below hW
 have HL:=Lib.hid hl
 refine' zq30
 have hm2':cap2≤9223372036854775807:=by unfold maxLen at hm2;omega
 clear hs hn hx hk hown hpar HI hok hl
 go_enter Tryz.func189,Tryz.ntmps189
 go_upto_region 2 with (fail)
 refine' zq202
 have hgb:w.heap.size<W1.heap.size:=by have:=HSW.out;omega
 go_wp2_with fail
 all_goals(apply_rules(newGoals:= .nonDependentOnly)(maxDepth:=1)only[zE];constructor)):p:=h
theorem zq5(h:p:=by
 obtain ⟨⟨k0,k1,k2⟩,h0,h1,h2⟩:=rf9.three
 go_wp2_with fail
 exact bodyPost_ret (res1 rfl Tryz.underlying31 rfl (by kernel_rfl) rfl (rf9.set3 _ _ _)) rfl ⟨(congrArg (fun f=>Ending.returned (ftV f)) HF.out).symm,below_set3 b9 (by first|omega|(simp;omega)|simp) _ _ _⟩
 all_goals(apply_rules(newGoals:= .nonDependentOnly)(maxDepth:=1)only[zE];constructor)):p:=h
theorem zq122(h:p:=by
 have HS:Hid (∀W,Below w.heap.size w W→Nds W w.heap.size A s):=fun W hW=>nds_keep h (keeps_of hW) (Nat.le_refl _)
 have HSM:=Lib.hid sm
 all_goals(apply_rules(newGoals:= .nonDependentOnly)(maxDepth:=1)only[zE];constructor)):p:=h
theorem zq130(h:p:=by
 have rf1:=rowNew2 w (.cells #[.slice A s.length cap] 24) ftC0 31
 have rs1:=(Row.new w #[.slice A s.length cap] 24).alloc (.cells ftC0 31)
 all_goals(apply_rules(newGoals:= .nonDependentOnly)(maxDepth:=1)only[zE];constructor)):p:=h
theorem zq7(h:p:=by
 refine' zq130
 have b1:Below w.heap.size w ((w.alloc (.cells #[.slice A s.length cap] 24)).alloc (.cells ftC0 31)):=(by repeat (first|(with_reducible assumption)|(with_reducible exact Below.refl _ _)|(with_reducible refine Below.drew ?_)|(with_reducible refine below_drewN' ?_ _)|(with_reducible refine Below.alloc ?_ (by first|assumption|omega|(simp;omega)|simp|(simp[World.setCell];omega)|simp[World.setCell]) _)|(with_reducible refine Below.setCell ?_ (by first|assumption|omega|(simp;omega)|simp|(simp[World.setCell];omega)|simp[World.setCell]) _)))
 refine' zq122
 all_goals(apply_rules(newGoals:= .nonDependentOnly)(maxDepth:=1)only[zE];constructor)):p:=h
theorem zq8(h:p:=by
 obtain rfl:k=e.args.length:=by omega
 obtain ⟨w4,rfl⟩:∃w4:World,w4=wr:=⟨_,rfl⟩
 have HA0:=Lib.hid (args_zero HJ.out)
 have HE:Hid (tyF s n e=opF s n e (argKs s n e)):=by show _=_;rw[tyF_eq,HA0.out,ft2_l]
 have HKE:Hid (tyK s n e=opTy s n e (argKs s n e)):=tyK_eq _ _ _
 have hll:(argKs s n e).length=e.args.length:=argKs_len _ _ _
 have hov:IntsO W1.heap.size w4 v (argKs s n e):=by
  unfold IntsO
  rw[hll]
  have h3:(argKs s n e).take e.args.length=argKs s n e:=List.take_of_length_le (by rw[hll];exact Nat.le_refl _)
  rw[h3] at hown
  exact hown
 obtain ⟨l,HLK⟩:∃l,Hid (argKs s n e=l):=⟨_,rfl⟩
 rw[HLK.out] at HE HKE hll hov
 have HVV:=Lib.hid hov
 have HLL:=Lib.hid hll
 clear hown hov hll HLK HA0 HJ
 go_upto_region 9 with (fail)
 all_goals(apply_rules(newGoals:= .nonDependentOnly)(maxDepth:=1)only[zE];constructor)):p:=h
theorem zq9(h:p:=by
 obtain ⟨⟨k0,k1,k2⟩,h0,h1,h2⟩:=rf9.three
 go_wp2_with fail
 exact bodyPost_ret (res2b (p:=7) (q:=6) rfl Tryz.underlying31 rfl (by kernel_rfl) rfl rfl (rf9.set3 _ _ _)) rfl ⟨⟨0,(congrArg (fun f=>Ending.returned (.tuple #[.int .i64 0,ftV f])) HF.out).symm,fun g=>absurd g HEN.out,fun _=>rfl⟩,below_set3 b9 (by first|omega|(simp;omega)|simp) _ _ _⟩
 all_goals(apply_rules(newGoals:= .nonDependentOnly)(maxDepth:=1)only[zE];constructor)):p:=h
theorem zq142(h:p:=by
 go_wp2_with fail
 exact bodyPost_ret (res1 rfl Tryz.underlying31 rfl (by kernel_rfl) rfl ((rf2.set3 _ _ _).alloc _)) rfl ⟨(congrArg (fun f=>Ending.returned (ftV f)) HF.out).symm,(below_set3 hB2 (by first|omega|(simp;omega)|simp) _ _ _).alloc (by first|(simp[World.setCell];omega)|simp[World.setCell]) _⟩
 all_goals(apply_rules(newGoals:= .nonDependentOnly)(maxDepth:=1)only[zE];constructor)):p:=h
theorem zq10(h:p:=by
 obtain ⟨⟨k0,k1,k2⟩,g0,g1,g2⟩:=rf2.three
 refine' zq142
 all_goals(apply_rules(newGoals:= .nonDependentOnly)(maxDepth:=1)only[zE];constructor)):p:=h
theorem zq101(h:p:=by
 go_wp2_with fail
 exact bodyPost_ret (res1 rfl Tryz.underlying31 rfl (by kernel_rfl) rfl (rf.set3 _ _ _)) rfl ⟨(congrArg (fun f=>Ending.returned (ftV f)) HF.out).symm,below_set3 hB (by first|omega|(simp;omega)|simp) _ _ _⟩
 all_goals(apply_rules(newGoals:= .nonDependentOnly)(maxDepth:=1)only[zE];constructor)):p:=h
theorem zq11(h:p:=by
 obtain ⟨⟨k0,k1,k2⟩,g0,g1,g2⟩:=rf.three
 refine' zq101
 all_goals(apply_rules(newGoals:= .nonDependentOnly)(maxDepth:=1)only[zE];constructor)):p:=h
theorem zq129(h:p:=by
 go_wp2_with fail
 refine HP.out.mono ?_
 rintro r w' ⟨rfl,rfl⟩
 generalize nameB e.name.toList=N at*
 cases N
 all_goals
  go_wp2_with fail
  go_ret
  exact ⟨ret_bool HR.out.symm,hbel⟩
 all_goals(apply_rules(newGoals:= .nonDependentOnly)(maxDepth:=1)only[zE];constructor)):p:=h
theorem zq12(h:p:=by
 by_cases h3:e.op=3∨e.op=4∨(24≤e.op∧e.op≤26)
 ·have HR:=Lib.hid (HF.out.trans (show plainR (namesB e.op) e=(nameB e.name.toList && e.n==0) by unfold plainR;rw[if_pos (by simp only[namesB,decide_eq_true_eq];omega)]))
  clear HF
  have HP:Hid (Calls Tryz.prog 251 #[.string e.name] w1 fun r w'=>r= .returned (.bool (nameB e.name.toList))∧w1=w'):=rname_any e.name _ hnm
  rcases h3 with h3|h3|⟨h3,h3'⟩
  ·have k3:(e.op==3)=true:=by simp[h3]
   clear h3
   refine' zq129
  ·have k3:(e.op==3)=false:=by simp[h3]
   have k4:(e.op==4)=true:=by simp[h3]
   clear h3
   refine' zq129
  ·have k3:(e.op==3)=false:=by rw[beq_eq_false_iff_ne];omega
   have k4:(e.op==4)=false:=by rw[beq_eq_false_iff_ne];omega
   refine' zq129
 ·have k3:(e.op==3)=false:=by rw[beq_eq_false_iff_ne];omega
  have k4:(e.op==4)=false:=by rw[beq_eq_false_iff_ne];omega
  have k5:decide (24≤e.op)=false∨(decide (24≤e.op)=true∧decide (e.op≤26)=false):=by simp;omega
  have hne:¬(namesB e.op=true∨e.op=4):=by simp only[namesB,decide_eq_true_eq];omega
  clear h3
  cases hE:e.name.toList.isEmpty
  ·have HR:=Lib.hid (HF.out.trans (show plainR (namesB e.op) e=false by unfold plainR;rw[if_neg hne,hE];simp))
   clear HF hne
   rcases k5 with k5|⟨k5,k6⟩
   all_goals
    go_wp2_with fail
    go_ret
    exact ⟨ret_bool HR.out.symm,hbel⟩
  ·by_cases hn:e.n<0
   ·have HR:=Lib.hid (HF.out.trans (show plainR (namesB e.op) e=false by
     unfold plainR;rw[if_neg hne,hE]
     have g1:decide (0≤e.n)=false:=by simp;omega
     have g2:(e.n==0)=false:=by rw[beq_eq_false_iff_ne];omega
     have g3:(e.n==1)=false:=by rw[beq_eq_false_iff_ne];omega
     rw[g1,g2,g3];simp))
    clear HF hne
    rcases k5 with k5|⟨k5,k6⟩
    all_goals
     go_wp2_with fail
     go_ret
     exact ⟨ret_bool HR.out.symm,hbel⟩
   ·have HR:=Lib.hid (HF.out.trans (plainR_else hne hE hn))
    clear HF hne
    rcases k5 with k5|⟨k5,k6⟩
    all_goals
     go_wp2_with fail
     all_goals
      go_ret
      refine ⟨ret_bool ?_,hbel⟩
      rw[HR.out]
      simp_all
 all_goals(apply_rules(newGoals:= .nonDependentOnly)(maxDepth:=1)only[zE];constructor)):p:=h
theorem zq186(h:p:=by
 have b1:Below w.heap.size w ((w.alloc (.cells #[.slice A s.length cap] 24)).alloc (.cells ftC0 31)):=bE
 all_goals(apply_rules(newGoals:= .nonDependentOnly)(maxDepth:=1)only[zE];constructor)):p:=h
theorem zq13(h:p:=by
 refine' zq130
 refine' zq186
 refine' zq122
 refine' zq30
 clear h sm
 all_goals(apply_rules(newGoals:= .nonDependentOnly)(maxDepth:=1)only[zE];constructor)):p:=h
theorem zq47(h:p:=by
 (try dsimp only);(first|(with_reducible exact HK.out _ (by repeat (first|(with_reducible assumption)|(with_reducible exact Below.refl _ _)|(with_reducible refine Below.drew ?_)|(with_reducible refine below_drewN' ?_ _)|(with_reducible refine Below.alloc ?_ (by first|assumption|omega|(simp;omega)|simp|(simp[World.setCell];omega)|simp[World.setCell]) _)|(with_reducible refine Below.setCell ?_ (by first|assumption|omega|(simp;omega)|simp|(simp[World.setCell];omega)|simp[World.setCell]) _))))|go_keep)
 all_goals(apply_rules(newGoals:= .nonDependentOnly)(maxDepth:=1)only[zE];constructor)):p:=h
theorem zq14(h:p:=by
 go_simp
 first|(go_at_call 68;(refine (HV.out _ (by repeat (first|(with_reducible assumption)|(with_reducible exact Below.refl _ _)|(with_reducible refine Below.drew ?_)|(with_reducible refine below_drewN' ?_ _)|(with_reducible refine Below.alloc ?_ (by first|assumption|omega|(simp;omega)|simp|(simp[World.setCell];omega)|simp[World.setCell]) _)|(with_reducible refine Below.setCell ?_ (by first|assumption|omega|(simp;omega)|simp|(simp[World.setCell];omega)|simp[World.setCell]) _)))).mono ?_);rintro e w3 ⟨⟨b3,off3,cap3,rfl,y1⟩,hb3⟩;(have hb4:Below W1.heap.size W1 w3:=Below.trans (by repeat (first|(with_reducible assumption)|(with_reducible exact Below.refl _ _)|(with_reducible refine Below.drew ?_)|(with_reducible refine below_drewN' ?_ _)|(with_reducible refine Below.alloc ?_ (by first|assumption|omega|(simp;omega)|simp|(simp[World.setCell];omega)|simp[World.setCell]) _)|(with_reducible refine Below.setCell ?_ (by first|assumption|omega|(simp;omega)|simp|(simp[World.setCell];omega)|simp[World.setCell]) _))) (hb3.mono (by first|exact Nat.le_refl _|simp|(simp;omega)|omega)));(have hs4:=hb4.size))|(go_at_call 157;(refine (HM.out _ (by repeat (first|(with_reducible assumption)|(with_reducible exact Below.refl _ _)|(with_reducible refine Below.drew ?_)|(with_reducible refine below_drewN' ?_ _)|(with_reducible refine Below.alloc ?_ (by first|assumption|omega|(simp;omega)|simp|(simp[World.setCell];omega)|simp[World.setCell]) _)|(with_reducible refine Below.setCell ?_ (by first|assumption|omega|(simp;omega)|simp|(simp[World.setCell];omega)|simp[World.setCell]) _)))).mono ?_);rintro e w5 ⟨rfl,hb5⟩;(have y1:=old_cell hb5 y1);(have hb6:Below W1.heap.size W1 w5:=Below.trans hb4 (hb5.mono hs4)))
 (try go_wp2_with fail)
 refine hKK.out _ _ ?_ (fun hHeld=>?_)
 ·refine' zq47
 clear hKK KK
 all_goals(apply_rules(newGoals:= .nonDependentOnly)(maxDepth:=1)only[zE];constructor)):p:=h
theorem zq178(h:p:=by
 go_wp2_with fail
 refine (name_any e.name _ hnm).mono ?_
 rintro r w1 ⟨rfl,hb1⟩
 obtain ⟨hb2,hc⟩:=HW.out w1 (by simpa using hb1)
 generalize nameB e.name.toList=N at*
 cases N
 all_goals
  go_wp2_with fail
  go_ret
  exact ⟨ret_bool HR.out.symm,hb2⟩
 all_goals(apply_rules(newGoals:= .nonDependentOnly)(maxDepth:=1)only[zE];constructor)):p:=h
theorem zq15(h:p:=by
 go_wp2_with fail
 refine (names_any e.op _).mono ?_
 rintro r w' ⟨rfl,rfl⟩
 rw[HNB.out]
 clear HNB HG
 cases nb
 ·by_cases h4:e.op=4
  ·have HR:=Lib.hid (HF.out.trans (show plainR false e=(nameB e.name.toList && e.n==0) by unfold plainR;rw[if_pos (.inr h4)]))
   have h4':(e.op==4)=true:=by simp[h4]
   clear h4 HF
   refine' zq178
  ·have h4':(e.op==4)=false:=by simp[h4]
   cases hE:e.name.toList.isEmpty
   ·have HR:=Lib.hid (HF.out.trans (show plainR false e=false by unfold plainR;rw[if_neg (by simp[h4]),hE];simp))
    clear h4 HF
    go_wp2_with fail
    all_goals (go_ret;exact ⟨ret_bool HR.out.symm,hB⟩)
   ·by_cases h1:e.op=1
    ·have HR:=Lib.hid (HF.out.trans (show plainR false e=decide (0≤e.n) by unfold plainR;rw[if_neg (by simp[h4]),if_pos h1,hE];rfl))
     have h1':(e.op==1)=true:=by simp[h1]
     clear h4 HF h1
     go_wp2_with fail
     all_goals (go_ret;exact ⟨ret_bool HR.out.symm,hB⟩)
    ·have h1':(e.op==1)=false:=by simp[h1]
     by_cases h2:e.op=2
     ·have HR:=Lib.hid (HF.out.trans (show plainR false e=(e.n==0||e.n==1) by unfold plainR;rw[if_neg (by simp[h4]),if_neg h1,if_pos h2,hE];rfl))
      have h2':(e.op==2)=true:=by simp[h2]
      clear h4 HF h1 h2
      cases hn:(e.n==0)
      all_goals
       go_wp2_with fail
       go_ret
       exact ⟨ret_bool (by rw[HR.out,hn];rfl),hB⟩
     ·have HR:=Lib.hid (HF.out.trans (show plainR false e=(e.n==0) by unfold plainR;rw[if_neg (by simp[h4]),if_neg h1,if_neg h2,hE];rfl))
      have h2':(e.op==2)=false:=by simp[h2]
      clear h4 HF h1 h2
      go_wp2_with fail
      all_goals (go_ret;exact ⟨ret_bool HR.out.symm,hB⟩)
 ·have HR:=Lib.hid (HF.out.trans (show plainR true e=(nameB e.name.toList && e.n==0) by unfold plainR;rw[if_pos (.inl rfl)]))
  clear HF
  refine' zq178
 all_goals(apply_rules(newGoals:= .nonDependentOnly)(maxDepth:=1)only[zE];constructor)):p:=h
theorem zq16(h:p:=by
 obtain ⟨⟨k0,k1,k2⟩,h0,h1,h2⟩:=rf7.three
 go_wp2_with fail
 exact bodyPost_ret (res2b (p:=7) (q:=6) rfl Tryz.underlying31 rfl (by kernel_rfl) rfl rfl (rf7.set3 _ _ _)) rfl ⟨⟨_,(congrArg (fun f=>Ending.returned (.tuple #[.int .i64 _,ftV f])) HF.out).symm,fun _=>HK.out,fun g=>absurd (congrArg Ft.err HF.out) g⟩,below_set3 hB7 (by first|omega|(simp;omega)|simp) _ _ _⟩
 all_goals(apply_rules(newGoals:= .nonDependentOnly)(maxDepth:=1)only[zE];constructor)):p:=h
theorem zq94(h:p:=by
 have ba:Below w2.heap.size w2 (w2.alloc (.cells (ftC f) 31)):=(by repeat (first|(with_reducible assumption)|(with_reducible exact Below.refl _ _)|(with_reducible refine Below.drew ?_)|(with_reducible refine below_drewN' ?_ _)|(with_reducible refine Below.alloc ?_ (by first|assumption|omega|(simp;omega)|simp|(simp[World.setCell];omega)|simp[World.setCell]) _)|(with_reducible refine Below.setCell ?_ (by first|assumption|omega|(simp;omega)|simp|(simp[World.setCell];omega)|simp[World.setCell]) _)))
 all_goals(apply_rules(newGoals:= .nonDependentOnly)(maxDepth:=1)only[zE];constructor)):p:=h
theorem zq194(h:p:=by
 clear hW4
 have rs4:=rs2.below ba rs2.lt
 have rf4:=rf2.below ba rf2.lt
 have hB4:=hB2.trans (ba.mono hs2)
 have hs4:=hB4.size
 all_goals(apply_rules(newGoals:= .nonDependentOnly)(maxDepth:=1)only[zE];constructor)):p:=h
theorem zq17(h:p:=by
 clear hf
 refine' zq94
 go_upto_region 4 with (fail)
 generalize hW4:w2.alloc (.cells (ftC f) 31)=w4 at*
 refine' zq194
 all_goals(apply_rules(newGoals:= .nonDependentOnly)(maxDepth:=1)only[zE];constructor)):p:=h
theorem zq184(h:p:=by
 generalize (w.alloc (.cells #[.slice A s.length cap] 24)).alloc (.cells ftC0 31)=W1 at*
 have hs1:=b1.size
 all_goals(apply_rules(newGoals:= .nonDependentOnly)(maxDepth:=1)only[zE];constructor)):p:=h
theorem zq18(h:p:=by
 go_upto_region 1 with (fail)
 refine' zq184
 have c0:=rs1.src
 go_wp2_with fail
 all_goals(apply_rules(newGoals:= .nonDependentOnly)(maxDepth:=1)only[zE];constructor)):p:=h
theorem zq62(h:p:=by
 go_wp2_with fail
 go_ret
 exact ⟨ret_bool HF.out.symm,by first|exact ⟨_,rfl⟩|(rw[World.drewN_drewN];exact ⟨_,rfl⟩)⟩
 all_goals(apply_rules(newGoals:= .nonDependentOnly)(maxDepth:=1)only[zE];constructor)):p:=h
theorem zq243(h:p:=by
 go_wp2_with fail
 go_roundw
 case rel=>exact ⟨k+1,by omega,by go_num,HN',by first|exact ⟨_,rfl⟩|(rw[World.drewN_drewN];exact ⟨_,rfl⟩)⟩
 case measure=>simp[intOf];omega
 all_goals(apply_rules(newGoals:= .nonDependentOnly)(maxDepth:=1)only[zE];constructor)):p:=h
theorem zq57(h:p:=by
 have e1':=beq_yes e1
 by_cases e2:x.no=y.no
 ·have e2':(x.no==y.no)=true:=by simp[e2]
  have HN':=Lib.hid (upto_succ HN.out (fun x' y' hx' hy'=>by rw[HX.out] at hx';rw[HY.out] at hy';injection hx' with hx';injection hy' with hy';rw[←hx',←hy'];exact lt_ext e1 e2))
  clear e1 e2
  go_wp2_with fail
  go_quiet (fail)
  refine' zq243
 ·have e2':(x.no==y.no)=false:=by simp[e2]
  have HF:=Lib.hid (cB_false (fun g:l=m=>e2 (by have:=HX.out;rw[g,HY.out] at this;injection this with this;rw[this])))
  clear e1 e2
  go_wp2_with fail
  go_quiet (fail)
  refine' zq62
 all_goals(apply_rules(newGoals:= .nonDependentOnly)(maxDepth:=1)only[zE];constructor)):p:=h
theorem zq21(h:p:=by
 obtain ⟨b1,o1,x,rfl,hb1,hx,wx,d1,d1'⟩:=s1.lit hlt
 obtain ⟨b2,o2,y,rfl,hb2,hy,wy,d2,d2'⟩:=s2.lit (show k<m.length by omega)
 have HX:=Lib.hid hx
 have HY:=Lib.hid hy
 clear hx hy
 have hk1:(k:Int)<l.length:=by omega
 have hk2:(k:Int)<m.length:=by omega
 have hk0:(0:Int)≤(k:Int):=by omega
 by_cases e1:x.name=y.name
 ·refine' zq57
 ·have e1':=beq_no e1
  have HF:=Lib.hid (cB_false (fun g:l=m=>e1 (by have:=HX.out;rw[g,HY.out] at this;injection this with this;rw[this])))
  clear e1
  go_wp2_with fail
  go_quiet (fail)
  refine' zq62
 all_goals(apply_rules(newGoals:= .nonDependentOnly)(maxDepth:=1)only[zE];constructor)):p:=h
theorem zq19(h:p:=by
 obtain ⟨k,hk,rfl,HN,n,rfl⟩:=hrel
 by_cases hlt:k<l.length
 ·refine' zq21
 ·obtain rfl:k=l.length:=by omega
  have HF:=Lib.hid (cB_true (lits_eq HL.out HN.out))
  refine' zq62
 all_goals(apply_rules(newGoals:= .nonDependentOnly)(maxDepth:=1)only[zE];constructor)):p:=h
theorem zq153(h:p:=by
 have hB2:=b1.trans (hb2.mono hs1)
 have hs2:=hB2.size
 all_goals(apply_rules(newGoals:= .nonDependentOnly)(maxDepth:=1)only[zE];constructor)):p:=h
theorem zq93(h:p:=by
 rintro r w2 ⟨rfl,hb2⟩
 have rs2:=rs1.below hb2 rs1.lt
 have rf2:=rf1.below hb2 rf1.lt
 refine' zq153
 all_goals(apply_rules(newGoals:= .nonDependentOnly)(maxDepth:=1)only[zE];constructor)):p:=h
theorem zq20(h:p:=by
 refine' zq93
 have hl2:=rf2.lt
 clear c0 rs1 rf1 b1 hb2 hs1
 obtain ⟨f,HFN⟩:∃f,Hid (scopeF s=f):=⟨_,rfl⟩
 all_goals(apply_rules(newGoals:= .nonDependentOnly)(maxDepth:=1)only[zE];constructor)):p:=h
theorem zq23(h:p:=by
 go_region_held3 (fun W=>W.cell? ⟨w.heap.size,0,none⟩=some (.slice (some ⟨b,off,none⟩) s.length cap)∧W.cell? ⟨wr.heap.size,0,none⟩=some (.string n.name)) (first|(with_reducible exact kk)|(with_reducible exact ⟨(rs3.far7 hne1 _ _ _ _ _ _ _).src,(rn3.far7 hne2 _ _ _ _ _ _ _).nd.1⟩)|go_keep)
  (first|((go_at_call 53);(refine (find_any (s.take k) k (some ⟨b,off,none⟩) cap n.name _ HMK.out (by omega) h2 (HNS.out _ (ba.trans (Below.mono (B:=W2.heap.size) bE hs2)))).mono ?_);rintro e w3 ⟨⟨n',a',rfl,hyes,hno⟩,hb3⟩;(rw[HC.out]);(try (have r5:Row w3 W2.heap.size ndZ 39:=(by first|(with_reducible exact Row.below (Row.drew (Row.new W2 ndZ 39)) hb3 (by simp))|(with_reducible exact Row.below (Row.new W2.drew ndZ 39) hb3 (by simp)));obtain ⟨⟨x0,x1,x2,x3,x4,x5,x6⟩,g0,g1,g2,g3,g4,g5,g6⟩:=r5.seven));(have hb5:Below W2.heap.size W2 w3:=Below.trans bE (hb3.mono lE));(have rs3:=rs2.below hb5 rs2.lt);(have rn3:=rn.below hb5 rn.lt);(have hb4:Below W2.heap.size W2 w3:=Below.trans bE (hb3.mono lE));(have hs4:=hb4.size);(have kk:(fun W=>W.cell? ⟨w.heap.size,0,none⟩=some (.slice (some ⟨b,off,none⟩) s.length cap)∧W.cell? ⟨wr.heap.size,0,none⟩=some (.string n.name)) w3:=⟨rs3.src,rn3.nd.1⟩)))
 all_goals
  go_wp2_with fail
  go_meet
  exact ⟨rfl,bE⟩
 all_goals(apply_rules(newGoals:= .nonDependentOnly)(maxDepth:=1)only[zE];constructor)):p:=h
theorem zq24(h:p:=by
 clear o hp hq
 go_upto_region 21 with (fail)
 go_wp2_with fail
 refine HSG.out.mono ?_
 rintro r w5 ⟨rfl,hb5⟩
 have rf5:=rf.below hb5 rf.lt
 have re5:=re.below hb5 re.lt
 have rn5:=rn.below hb5 rn.lt
 have hB5:=hB.trans (hb5.mono hsB)
 have hs5:=hB5.size
 have HQ5:=Lib.hid (HQ.out.bel hb5)
 clear x0 x1 x2 x3 x4 x5
 obtain ⟨x0,x1,x2,x3,x4,x5⟩:=re5.ex6
 all_goals(apply_rules(newGoals:= .nonDependentOnly)(maxDepth:=1)only[zE];constructor)):p:=h
theorem zq32(h:p:=by
 (try dsimp only);(first|(with_reducible exact HK.out _ bE)|exact hHeld|assumption|trivial)
 all_goals(apply_rules(newGoals:= .nonDependentOnly)(maxDepth:=1)only[zE];constructor)):p:=h
theorem zq25(h:p:=by
 (try go_wp2_with fail)
 refine hKK.out _ _ ?_ (fun hHeld=>?_)
 ·refine' zq32
 clear hKK KK
 refine' zq6
 all_goals(apply_rules(newGoals:= .nonDependentOnly)(maxDepth:=1)only[zE];constructor)):p:=h
theorem zq26(h:p:=by
 refine wp_region_held_drew (S:=fun W=>W.cell? ⟨w.heap.size,0,none⟩=some (.slice A s.length cap)∧W.cell? ⟨w4.heap.size,0,none⟩=some (.int .i64 f.err)∧W.cell? ⟨w4.heap.size,1,none⟩=some (.int .i64 f.line)∧W.cell? ⟨w4.heap.size,2,none⟩=some (.int .i64 f.col)) (by kernel_rfl) ?_ (fun hHeld=>?_)
 ·(try dsimp only);(first|(with_reducible exact HKK.out _ bE)|exact hHeld|assumption|trivial)
 refine tk 0 (some 21) rfl ?_
 refine tk 2 (some 23) rfl ?_
 refine rd1 1 (some 22) rfl (fun KK hKK=>?_)
 go_simp
 (go_at_call 19;refine Calls.mono (HC1'.out _ bE) ?_;rintro e w7 ⟨rfl,hb7⟩;(have hb8:Below w6.heap.size w6 w7:=Below.trans bE (hb7.mono lE));(have hs8:=hb8.size))
 (try go_wp2_with fail)
 refine hKK.out _ _ ?_ (fun hHeld=>?_)
 ·(try dsimp only);(first|(with_reducible exact HKK.out _ bE)|exact hHeld|assumption|trivial)
 clear hKK KK
 refine' zq6
 refine tk 3 (some 24) rfl ?_
 refine tk 4 (some 25) rfl ?_
 refine tk 5 (some 26) rfl ?_
 refine tk 6 (some 27) rfl ?_
 refine tk 7 (some 28) rfl ?_
 refine tk 8 (some 29) rfl ?_
 refine tk 9 (some 30) rfl ?_
 refine tk 10 (some 31) rfl ?_
 refine' zq155
 go_meet
 exact ⟨rfl,by first|exact hb8|exact hb8.drew⟩
 all_goals(apply_rules(newGoals:= .nonDependentOnly)(maxDepth:=1)only[zE];constructor)):p:=h
theorem zq27(h:p:=by
 have H0:Hid ((scopeF s).err=0):=by show _=_;rw[HFN.out];exact hf
 clear hf
 have ba:Below w2.heap.size w2 (w2.alloc (.cells (ftC f) 31)):=bE
 go_upto_region 4 with (fail)
 generalize hW4:w2.alloc (.cells (ftC f) 31)=w4 at*
 refine' zq194
 have c0:=rs4.src
 clear rs2 rf2 hB2 hs2 ba hl2 HF0 HFN
 all_goals(apply_rules(newGoals:= .nonDependentOnly)(maxDepth:=1)only[zE];constructor)):p:=h
theorem zq28(h:p:=by
 go_wp2_with fail
 exact bodyPost_ret (res1 rfl Tryz.underlying31 rfl (by kernel_rfl) rfl (rf.set3 _ _ _)) rfl ⟨(congrArg (fun f=>Ending.returned (ftV f)) HF.out).symm,below_set3 hB (by omega) _ _ _⟩
 all_goals(apply_rules(newGoals:= .nonDependentOnly)(maxDepth:=1)only[zE];constructor)):p:=h
theorem zq31(h:p:=by
 go_wp2_with fail
 go_meet
 exact ⟨_,am,rfl,by first|exact Nat.le_refl _|exact hs4,by first|(with_reducible exact Row.new _ _ _)|(with_reducible exact r5.set7 _ _ _ _ _ _ _),HMA.out.below (by repeat (first|(with_reducible assumption)|(with_reducible exact Below.refl _ _)|(with_reducible refine Below.drew ?_)|(with_reducible refine below_drewN' ?_ _)|(with_reducible refine Below.alloc ?_ (by first|assumption|omega|(simp;omega)|simp|(simp[World.setCell];omega)|simp[World.setCell]) _)|(with_reducible refine Below.setCell ?_ (by first|assumption|omega|(simp;omega)|simp|(simp[World.setCell];omega)|simp[World.setCell]) _))),(by repeat (first|(with_reducible assumption)|(with_reducible exact Below.refl _ _)|(with_reducible refine Below.drew ?_)|(with_reducible refine below_drewN' ?_ _)|(with_reducible refine Below.alloc ?_ (by first|assumption|omega|(simp;omega)|simp|(simp[World.setCell];omega)|simp[World.setCell]) _)|(with_reducible refine Below.setCell ?_ (by first|assumption|omega|(simp;omega)|simp|(simp[World.setCell];omega)|simp[World.setCell]) _)))⟩
 all_goals(apply_rules(newGoals:= .nonDependentOnly)(maxDepth:=1)only[zE];constructor)):p:=h
theorem zq33(h:p:=by
 obtain ⟨k,v,hk,rfl,rfl,hown,HJ,hbr⟩:=hrel
 have hszr:=hbr.size
 have rs:=rs1.below hbr rs1.lt
 have rn:=rn1.below hbr rn1.lt
 have re:=re1.below hbr re1.lt
 have rf:=rf1.below hbr rf1.lt
 have hB:=b1.trans (hbr.mono hs1)
 have hsB:=hB.size
 obtain ⟨x0,x1,x2,x3,x4,x5⟩:=re.ex6
 all_goals(apply_rules(newGoals:= .nonDependentOnly)(maxDepth:=1)only[zE];constructor)):p:=h
theorem zq34(h:p:=by
 clear he
 go_wp2_with fail
 exact bodyPost_ret (res1 rfl Tryz.underlying31 rfl (by kernel_rfl) rfl (rf5.set3 _ _ _)) rfl ⟨(congrArg (fun f=>Ending.returned (ftV f)) HF.out).symm,below_set3 hB5 (by omega) _ _ _⟩
 all_goals(apply_rules(newGoals:= .nonDependentOnly)(maxDepth:=1)only[zE];constructor)):p:=h
theorem zq35(h:p:=by
 have bq:Below wr.heap.size wr (wr.alloc (.cells (eqArr q A1 k1 A2 k2) 81)):=(by repeat (first|(with_reducible assumption)|(with_reducible exact Below.refl _ _)|(with_reducible refine Below.drew ?_)|(with_reducible refine below_drewN' ?_ _)|(with_reducible refine Below.alloc ?_ (by first|assumption|omega|(simp;omega)|simp|(simp[World.setCell];omega)|simp[World.setCell]) _)|(with_reducible refine Below.setCell ?_ (by first|assumption|omega|(simp;omega)|simp|(simp[World.setCell];omega)|simp[World.setCell]) _)))
 all_goals(apply_rules(newGoals:= .nonDependentOnly)(maxDepth:=1)only[zE];constructor)):p:=h
theorem zq161(h:p:=by
 obtain ⟨⟨k0,k1,k2⟩,g0,g1,g2⟩:=rf7.three
 go_wp2_with fail
 exact bodyPost_ret (res1 rfl Tryz.underlying31 rfl (by kernel_rfl) rfl (rf7.set3 _ _ _)) rfl ⟨(congrArg (fun f=>Ending.returned (ftV f)) HF.out).symm,below_set3 hB7 (by first|omega|(simp;omega)|simp) _ _ _⟩
 all_goals(apply_rules(newGoals:= .nonDependentOnly)(maxDepth:=1)only[zE];constructor)):p:=h
theorem zq36(h:p:=by
 obtain ⟨rfl,hbc⟩:=hcut
 have rf7:=rf6.below hbc rf6.lt
 have hB7:=hB6.trans (hbc.mono hs6)
 have rn7:=rn1.below hbc rn1.lt
 obtain ⟨e0,e1,e2,e3,e4,e5,e6⟩:=rn7.nd
 cases P
 ·have hq:=cB_not.1 HPB.out
  have HN':=Lib.hid (step_uptoI (P:=fun j x=>(calF s j x).err=0) HN.out HX.out (by rw[calF_no hq]))
  clear hq
  go_wp2_with fail
  go_roundw
  case rel=>exact ⟨k+1,by omega,by go_num,HN',hbr.trans ((ba.trans (hbc.mono hsa)).mono hszr)⟩
  case measure=>first|(simp[intOf];omega)|simp[intOf]
 ·have hq:=cB_iff.1 HPB.out
  have HF:Hid (callsF s=⟨29,n.line,n.col⟩):=by
   have e:calF s k n=⟨29,n.line,n.col⟩:=calF_yes hq
   show _=_
   rw[HF1.out,fstL_stop (f:=calF s) HN.out HX.out (by rw[e];show (29:Int)≠0;decide),e]
  clear hq
  refine' zq161
 all_goals(apply_rules(newGoals:= .nonDependentOnly)(maxDepth:=1)only[zE];constructor)):p:=h
theorem zq136(h:p:=by
 go_wp2_with fail
 refine (rwrong16_at _ _ _).mono ?_
 rintro r w9 ⟨rfl,hb9⟩
 all_goals(apply_rules(newGoals:= .nonDependentOnly)(maxDepth:=1)only[zE];constructor)):p:=h
theorem zq151(h:p:=by
 have HEN:Hid ((tyF s n e).err≠0):=by show _≠_;rw[HF.out];exact n28 _ _
 all_goals(apply_rules(newGoals:= .nonDependentOnly)(maxDepth:=1)only[zE];constructor)):p:=h
theorem zq165(h:p:=by
 go_upto_region 37 with (fail)
 go_quiet (fail)
 have rf7:=Row.drewN rf5 nq
 have hB7:=below_drewN' hB5 nq
 all_goals(apply_rules(newGoals:= .nonDependentOnly)(maxDepth:=1)only[zE];constructor)):p:=h
theorem zq209(h:p:=by
 have rf9:=rf7.below q9 rf7.lt
 have b9:=Below.trans hB7 (q9.mono (Below.size hB7))
 all_goals(apply_rules(newGoals:= .nonDependentOnly)(maxDepth:=1)only[zE];constructor)):p:=h
theorem zq231(h:p:=by
 have HF:Hid (tyF s n e=⟨28,e.line,e.col⟩):=by show _=_;rw[HE.out,HD.out];exact need_ne (ne_beq heq)
 all_goals(apply_rules(newGoals:= .nonDependentOnly)(maxDepth:=1)only[zE];constructor)):p:=h
theorem zq37(h:p:=by
 refine' zq231
 refine' zq151
 clear heq
 refine' zq165
 refine' zq136
 have q9:Below (w5.drewN nq).heap.size (w5.drewN nq) w9:=Below.trans (by repeat (first|(with_reducible assumption)|(with_reducible exact Below.refl _ _)|(with_reducible refine Below.drew ?_)|(with_reducible refine below_drewN' ?_ _)|(with_reducible refine Below.alloc ?_ (by first|assumption|omega|(simp;omega)|simp|(simp[World.setCell];omega)|simp[World.setCell]) _)|(with_reducible refine Below.setCell ?_ (by first|assumption|omega|(simp;omega)|simp|(simp[World.setCell];omega)|simp[World.setCell]) _))) (hb9.mono (by first|exact Nat.le_refl _|simp|(simp;omega)|omega))
 refine' zq209
 refine' zq9
 all_goals(apply_rules(newGoals:= .nonDependentOnly)(maxDepth:=1)only[zE];constructor)):p:=h
theorem zq38(h:p:=by
 go_region_held3 (fun W=>(W.cell? ⟨w.heap.size+1,0,none⟩=some (.string n.name)∧W.cell? ⟨w.heap.size+1,1,none⟩=some (.slice a.ai n.ins.length a.ci)∧W.cell? ⟨w.heap.size+1,2,none⟩=some (.slice a.ao n.outs.length a.co)∧W.cell? ⟨w.heap.size+1,3,none⟩=some (.slice (some ⟨b,off,none⟩) n.vars.length a.cv)∧W.cell? ⟨w.heap.size+1,4,none⟩=some (.slice a.aq n.eqs.length a.cq)∧W.cell? ⟨w.heap.size+1,5,none⟩=some (.int .i64 n.line)∧W.cell? ⟨w.heap.size+1,6,none⟩=some (.int .i64 n.col))∧W.cell? ⟨b,off+k*5+2,none⟩=some (.slice (some ⟨b',off',none⟩) x.clock.length cap')∧W.cell? ⟨b',off'+p*2,none⟩=some (.string y.name)) (first|(with_reducible exact HK.out _ bE)|go_keep)
  (first|((go_at_call 157);(refine (HVX.out _ (hB5.trans (Below.mono (B:=wr.heap.size) bE hB5.size))).mono ?_);rintro e w3 ⟨rfl,hb3⟩;(have hb4:Below wr.heap.size wr w3:=Below.trans bE (hb3.mono lE));(have hs4:=hb4.size)))
 all_goals
  go_wp2_with fail
  go_meet
  exact ⟨rfl,bE⟩
 all_goals(apply_rules(newGoals:= .nonDependentOnly)(maxDepth:=1)only[zE];constructor)):p:=h
theorem zq208(h:p:=by
 have rf9:=rf6.below q9 rf6.lt
 have b9:=Below.trans hB6 (q9.mono (Below.size hB6))
 all_goals(apply_rules(newGoals:= .nonDependentOnly)(maxDepth:=1)only[zE];constructor)):p:=h
theorem zq255(h:p:=by
 clear ht
 go_wp2_with fail
 refine HNW.out.mono ?_
 rintro r w6 ⟨rfl,hb6⟩
 have rf6:=rf5.below hb6 rf5.lt
 have re6:=re5.below hb6 re5.lt
 have hB6:=hB5.trans (hb6.mono hs5)
 all_goals(apply_rules(newGoals:= .nonDependentOnly)(maxDepth:=1)only[zE];constructor)):p:=h
theorem zq39(h:p:=by
 refine' zq151
 refine' zq255
 clear x0 x1 x2 x3 x4 x5
 obtain ⟨x0,x1,x2,x3,x4,x5⟩:=re6.ex6
 refine' zq136
 have q9:Below w6.heap.size w6 w9:=Below.trans (by repeat (first|(with_reducible assumption)|(with_reducible exact Below.refl _ _)|(with_reducible refine Below.drew ?_)|(with_reducible refine below_drewN' ?_ _)|(with_reducible refine Below.alloc ?_ (by first|assumption|omega|(simp;omega)|simp|(simp[World.setCell];omega)|simp[World.setCell]) _)|(with_reducible refine Below.setCell ?_ (by first|assumption|omega|(simp;omega)|simp|(simp[World.setCell];omega)|simp[World.setCell]) _))) (hb9.mono (by first|exact Nat.le_refl _|simp|(simp;omega)|omega))
 refine' zq208
 refine' zq9
 all_goals(apply_rules(newGoals:= .nonDependentOnly)(maxDepth:=1)only[zE];constructor)):p:=h
theorem zq40(h:p:=by
 have bx:Below wr.heap.size wr (wr.alloc (.cells (vrArr x A' cap') 89)):=(by repeat (first|(with_reducible assumption)|(with_reducible exact Below.refl _ _)|(with_reducible refine Below.drew ?_)|(with_reducible refine below_drewN' ?_ _)|(with_reducible refine Below.alloc ?_ (by first|assumption|omega|(simp;omega)|simp|(simp[World.setCell];omega)|simp[World.setCell]) _)|(with_reducible refine Below.setCell ?_ (by first|assumption|omega|(simp;omega)|simp|(simp[World.setCell];omega)|simp[World.setCell]) _)))
 all_goals(apply_rules(newGoals:= .nonDependentOnly)(maxDepth:=1)only[zE];constructor)):p:=h
theorem zq41(h:p:=by
 (try dsimp only);(first|exact kkS _ _ _|(with_reducible exact HK.out _ (by repeat (first|(with_reducible assumption)|(with_reducible exact Below.refl _ _)|(with_reducible refine Below.drew ?_)|(with_reducible refine below_drewN' ?_ _)|(with_reducible refine Below.alloc ?_ (by first|assumption|omega|(simp;omega)|simp|(simp[World.setCell];omega)|simp[World.setCell]) _)|(with_reducible refine Below.setCell ?_ (by first|assumption|omega|(simp;omega)|simp|(simp[World.setCell];omega)|simp[World.setCell]) _))))|go_keep)
 all_goals(apply_rules(newGoals:= .nonDependentOnly)(maxDepth:=1)only[zE];constructor)):p:=h
theorem zq42(h:p:=by
 clear c0 rs rf rd
 go_upto_region 17 with (fail)
 clear y0 y1 y2 z0 z1 z2
 have rs5:=u5.row rs4 (by omega)
 have rf5:=u5.row rf4 (by omega)
 have hB5:=hB4.trans (Upd.below u5 (fun k e=>by omega) (by have:=hB4.size;omega))
 all_goals(apply_rules(newGoals:= .nonDependentOnly)(maxDepth:=1)only[zE];constructor)):p:=h
theorem zq43(h:p:=by
 have ba:Below wr.heap.size wr (wr.alloc (.cells (ndArr n a) 39)):=(by repeat (first|(with_reducible assumption)|(with_reducible exact Below.refl _ _)|(with_reducible refine Below.drew ?_)|(with_reducible refine below_drewN' ?_ _)|(with_reducible refine Below.alloc ?_ (by first|assumption|omega|(simp;omega)|simp|(simp[World.setCell];omega)|simp[World.setCell]) _)|(with_reducible refine Below.setCell ?_ (by first|assumption|omega|(simp;omega)|simp|(simp[World.setCell];omega)|simp[World.setCell]) _)))
 all_goals(apply_rules(newGoals:= .nonDependentOnly)(maxDepth:=1)only[zE];constructor)):p:=h
theorem zq220(h:p:=by
 go_wp2_with fail
 refine (rwrong_at _ _ _ _).mono ?_
 rintro r w9 ⟨rfl,hb9⟩
 all_goals(apply_rules(newGoals:= .nonDependentOnly)(maxDepth:=1)only[zE];constructor)):p:=h
theorem zq44(h:p:=by
 refine' zq220
 have q9:Below wc.heap.size wc w9:=Below.trans bE (hb9.mono lE)
 all_goals(apply_rules(newGoals:= .nonDependentOnly)(maxDepth:=1)only[zE];constructor)):p:=h
theorem zq45(h:p:=by
 have b1:Below w.heap.size w (w.alloc (.cells (ndArr n a) 39)):=(by repeat (first|(with_reducible assumption)|(with_reducible exact Below.refl _ _)|(with_reducible refine Below.drew ?_)|(with_reducible refine below_drewN' ?_ _)|(with_reducible refine Below.alloc ?_ (by first|assumption|omega|(simp;omega)|simp|(simp[World.setCell];omega)|simp[World.setCell]) _)|(with_reducible refine Below.setCell ?_ (by first|assumption|omega|(simp;omega)|simp|(simp[World.setCell];omega)|simp[World.setCell]) _)))
 all_goals(apply_rules(newGoals:= .nonDependentOnly)(maxDepth:=1)only[zE];constructor)):p:=h
theorem zq46(h:p:=by
 go_wp2_with fail
 go_meet
 exact ⟨by first|rfl|(cases P<;>rfl),(by repeat (first|(with_reducible assumption)|(with_reducible exact Below.refl _ _)|(with_reducible refine Below.drew ?_)|(with_reducible refine below_drewN' ?_ _)|(with_reducible refine Below.alloc ?_ (by first|assumption|omega|(simp;omega)|simp|(simp[World.setCell];omega)|simp[World.setCell]) _)|(with_reducible refine Below.setCell ?_ (by first|assumption|omega|(simp;omega)|simp|(simp[World.setCell];omega)|simp[World.setCell]) _)))⟩
 all_goals(apply_rules(newGoals:= .nonDependentOnly)(maxDepth:=1)only[zE];constructor)):p:=h
theorem zq211(h:p:=by
 obtain ⟨b,off,n,a,hA,hb,hn,hat,d0,d1,d2,d3,d4,d5,d6⟩:=(HS.out wr hB).nd hlt
 all_goals(apply_rules(newGoals:= .nonDependentOnly)(maxDepth:=1)only[zE];constructor)):p:=h
theorem zq68(h:p:=by
 refine' zq211
 subst hA
 have HX:=Lib.hid hn
 all_goals(apply_rules(newGoals:= .nonDependentOnly)(maxDepth:=1)only[zE];constructor)):p:=h
theorem zq69(h:p:=by
 have i0:(0:Int)≤(k:Int):=by omega
 have i1:(k:Int)<(s.length:Int):=by omega
 all_goals(apply_rules(newGoals:= .nonDependentOnly)(maxDepth:=1)only[zE];constructor)):p:=h
theorem zq133(h:p:=by
 have rn1:=Row.new wr (ndArr n a) 39
 have ba:Below wr.heap.size wr (wr.alloc (.cells (ndArr n a) 39)):=bE
 all_goals(apply_rules(newGoals:= .nonDependentOnly)(maxDepth:=1)only[zE];constructor)):p:=h
theorem zq230(h:p:=by
 have HAT:Hid (∀W,Below wr.heap.size wr W→NdAt W w.heap.size n a):=fun W hW=>hat.below (hW.mono hsB)
 all_goals(apply_rules(newGoals:= .nonDependentOnly)(maxDepth:=1)only[zE];constructor)):p:=h
theorem zq48(h:p:=by
 have hB:=hB4.trans (hbr.mono hs4)
 have hsB:=hB.size
 have hszr:=hbr.size
 by_cases hlt:k<s.length
 rotate_left 1
 ·obtain rfl:k=s.length:=by omega
  have HF:Hid (causeF s=ft0):=HF1.out.trans (fstL_end HK.out)
  refine' zq11
 refine' zq68
 have hnm:=List.mem_of_getElem? hn
 have HNS:=Lib.hid (HSM.out.all n hnm)
 have HV:=Lib.hid (hangs_V H0.out hnm)
 have lq:=hat.lq
 have gq:=hat.mq
 have gq':a.cq≤9223372036854775807:=by unfold maxLen at gq;omega
 refine' zq230
 refine' zq69
 have HFn:Hid ((cauNF k n).err≠0→causeF s=cauNF k n):=fun g=>by
  rw[HF1.out,fstL_stop (f:=cauNF) HK.out HX.out g]
 refine' zq133
 clear hn hat hnm
 all_goals(apply_rules(newGoals:= .nonDependentOnly)(maxDepth:=1)only[zE];constructor)):p:=h
theorem zq49(h:p:=by
 rintro r w4 ⟨rfl,hb4⟩
 clear c0 k0 k1 k2 m0 m1 m2 j0 j1 j2 g0 g1 g2 e1
 replace rs:=rs.below hb4 rs.lt
 replace rf:=rf.below hb4 rf.lt
 replace rx:=rx.below hb4 rx.lt
 replace hB:=hB.trans (hb4.mono hsB)
 obtain ⟨⟨k0,k1,k2⟩,m0,m1,m2⟩:=rx.three
 all_goals(apply_rules(newGoals:= .nonDependentOnly)(maxDepth:=1)only[zE];constructor)):p:=h
theorem zq50(h:p:=by
 clear hP
 generalize varIdx n y.name=v at*
 go_upto_region 15 with (fail)
 have HK:Hid (∀W,Below wr.heap.size wr W→(W.cell? ⟨w.heap.size+1,0,none⟩=some (.string n.name)∧W.cell? ⟨w.heap.size+1,1,none⟩=some (.slice a.ai n.ins.length a.ci)∧W.cell? ⟨w.heap.size+1,2,none⟩=some (.slice a.ao n.outs.length a.co)∧W.cell? ⟨w.heap.size+1,3,none⟩=some (.slice (some ⟨b,off,none⟩) n.vars.length a.cv)∧W.cell? ⟨w.heap.size+1,4,none⟩=some (.slice a.aq n.eqs.length a.cq)∧W.cell? ⟨w.heap.size+1,5,none⟩=some (.int .i64 n.line)∧W.cell? ⟨w.heap.size+1,6,none⟩=some (.int .i64 n.col))∧W.cell? ⟨b,off+k*5+2,none⟩=some (.slice (some ⟨b',off',none⟩) x.clock.length cap')∧W.cell? ⟨b',off'+p*2,none⟩=some (.string y.name)):=fun W hW=>⟨⟨old_cell hW c0,old_cell hW c1,old_cell hW cc2,old_cell hW c3,old_cell hW c4,old_cell hW c5,old_cell hW c6⟩,old_cell hW m2,old_cell hW f0⟩
 all_goals(apply_rules(newGoals:= .nonDependentOnly)(maxDepth:=1)only[zE];constructor)):p:=h
theorem zq51(h:p:=by
 go_wp2_with fail
 exact bodyPost_ret (res1 rfl Tryz.underlying31 rfl (by kernel_rfl) rfl ((rf9.set3 _ _ _).alloc _)) rfl ⟨(congrArg (fun f=>Ending.returned (ftV f)) HF.out).symm,(below_set3 hB9 (by first|omega|(simp;omega)|simp) _ _ _).alloc (by first|(simp[World.setCell];omega)|simp[World.setCell]) _⟩
 all_goals(apply_rules(newGoals:= .nonDependentOnly)(maxDepth:=1)only[zE];constructor)):p:=h
theorem zq52(h:p:=by
 go_region_held3 (fun W=>(W.cell? ⟨w.heap.size+1,0,none⟩=some (.string n.name)∧W.cell? ⟨w.heap.size+1,1,none⟩=some (.slice a.ai n.ins.length a.ci)∧W.cell? ⟨w.heap.size+1,2,none⟩=some (.slice a.ao n.outs.length a.co)∧W.cell? ⟨w.heap.size+1,3,none⟩=some (.slice a.av n.vars.length a.cv)∧W.cell? ⟨w.heap.size+1,4,none⟩=some (.slice a.aq n.eqs.length a.cq)∧W.cell? ⟨w.heap.size+1,5,none⟩=some (.int .i64 n.line)∧W.cell? ⟨w.heap.size+1,6,none⟩=some (.int .i64 n.col))∧W.cell? ⟨b,off+k*5,none⟩=some (.string x.name)) (first|(with_reducible exact HK.out _ bE)|go_keep)
  (first|((go_at_call 157);(refine (HVX.out _ (hB.trans (Below.mono (B:=wr.heap.size) bE hB.size))).mono ?_);rintro e w3 ⟨rfl,hb3⟩;(have hb4:Below wr.heap.size wr w3:=Below.trans bE (hb3.mono lE));(have hs4:=hb4.size)))
 all_goals
  go_wp2_with fail
  go_meet
  exact ⟨rfl,bE⟩
 all_goals(apply_rules(newGoals:= .nonDependentOnly)(maxDepth:=1)only[zE];constructor)):p:=h
theorem zq156(h:p:=by
 go_quiet (fail)
 have rf7:=Row.drewN rf6 nq
 have hB7:=below_drewN' hB6 nq
 all_goals(apply_rules(newGoals:= .nonDependentOnly)(maxDepth:=1)only[zE];constructor)):p:=h
theorem zq53(h:p:=by
 refine' zq151
 clear heq
 refine' zq156
 refine' zq136
 have q9:Below (wr.drewN nq).heap.size (wr.drewN nq) w9:=Below.trans (by repeat (first|(with_reducible assumption)|(with_reducible exact Below.refl _ _)|(with_reducible refine Below.drew ?_)|(with_reducible refine below_drewN' ?_ _)|(with_reducible refine Below.alloc ?_ (by first|assumption|omega|(simp;omega)|simp|(simp[World.setCell];omega)|simp[World.setCell]) _)|(with_reducible refine Below.setCell ?_ (by first|assumption|omega|(simp;omega)|simp|(simp[World.setCell];omega)|simp[World.setCell]) _))) (hb9.mono (by first|exact Nat.le_refl _|simp|(simp;omega)|omega))
 refine' zq209
 refine' zq9
 all_goals(apply_rules(newGoals:= .nonDependentOnly)(maxDepth:=1)only[zE];constructor)):p:=h
theorem zq86(h:p:=by
 go_wp2_with fail
 refine (fault_any _ _ _ _).mono ?_
 rintro r w9 ⟨rfl,hb9⟩
 all_goals(apply_rules(newGoals:= .nonDependentOnly)(maxDepth:=1)only[zE];constructor)):p:=h
theorem zq267(h:p:=by
 have q9:Below w2.heap.size w2 w9:=Below.trans bE (hb9.mono lE)
 have rf9:=rf2.below q9 rf2.lt
 all_goals(apply_rules(newGoals:= .nonDependentOnly)(maxDepth:=1)only[zE];constructor)):p:=h
theorem zq54(h:p:=by
 refine' zq86
 refine' zq267
 have b9:=Below.trans hB2 (q9.mono (Below.size hB2))
 refine' zq5
 all_goals(apply_rules(newGoals:= .nonDependentOnly)(maxDepth:=1)only[zE];constructor)):p:=h
theorem zq55(h:p:=by
 refine hKK.out _ _ ?_ (fun hHeld=>?_)
 ·(try dsimp only);(first|exact q4|exact q9|exact HS8.out _|exact HS7.out)
 clear hKK KK
 refine' zq6
 all_goals(apply_rules(newGoals:= .nonDependentOnly)(maxDepth:=1)only[zE];constructor)):p:=h
theorem zq56(h:p:=by
 obtain ⟨k,hk,rfl,HN,hbr⟩:=hrel
 have hszr:=hbr.size
 all_goals(apply_rules(newGoals:= .nonDependentOnly)(maxDepth:=1)only[zE];constructor)):p:=h
theorem zq174(h:p:=by
 refine' zq1
 have o1:(e.op==1)=false:=eq_no (by omega)
 have o2:(e.op==2)=false:=eq_no (by omega)
 have o3:(e.op==3)=false:=eq_no (by omega)
 all_goals(apply_rules(newGoals:= .nonDependentOnly)(maxDepth:=1)only[zE];constructor)):p:=h
theorem zq58(h:p:=by
 refine' zq174
 have o4:(e.op==4)=false:=eq_no (by omega)
 have o21:(e.op==21)=false:=eq_no (by omega)
 all_goals(apply_rules(newGoals:= .nonDependentOnly)(maxDepth:=1)only[zE];constructor)):p:=h
theorem zq59(h:p:=by
 obtain rfl:k=l.length:=by omega
 have HA:Hid (∀v∈l,VrRt v):=mem_upto HN.out
 by_cases e1:lo≤l.length
 ·have e1':decide (lo≤(l.length:Int))=true:=dec_yes e1
  by_cases e2:(l.length:Int)≤hi
  ·have e2':decide ((l.length:Int)≤hi)=true:=dec_yes e2
   have HF:Hid (cB (VrsRt l lo hi)=true):=cB_true ⟨HA.out,e1,e2⟩
   clear e1 e2
   go_wp2_with fail
   go_ret
   exact ⟨ret_bool HF.out.symm,hbr⟩
  ·have e2':decide ((l.length:Int)≤hi)=false:=dec_no e2
   have HF:Hid (cB (VrsRt l lo hi)=false):=cB_false (fun g=>e2 g.2.2)
   clear e1 e2
   go_wp2_with fail
   go_ret
   exact ⟨ret_bool HF.out.symm,hbr⟩
 ·have e1':decide (lo≤(l.length:Int))=false:=dec_no e1
  have HF:Hid (cB (VrsRt l lo hi)=false):=cB_false (fun g=>e1 g.2.1)
  clear e1
  go_wp2_with fail
  go_ret
  exact ⟨ret_bool HF.out.symm,hbr⟩
 all_goals(apply_rules(newGoals:= .nonDependentOnly)(maxDepth:=1)only[zE];constructor)):p:=h
theorem zq259(h:p:=by
 generalize hW6:wr.alloc (.cells (ndArr n a) 39)=w6 at*
 clear hW6
 have hsa:=ba.size
 all_goals(apply_rules(newGoals:= .nonDependentOnly)(maxDepth:=1)only[zE];constructor)):p:=h
theorem zq60(h:p:=by
 refine' zq259
 have rf6:=rf.below ba rf.lt
 have hB6:=hB.trans (ba.mono hsB)
 have hs6:=hB6.size
 all_goals(apply_rules(newGoals:= .nonDependentOnly)(maxDepth:=1)only[zE];constructor)):p:=h
theorem zq61(h:p:=by
 have rs1:=((Row.new w #[.slice A s.length cap] 24).alloc (.cells (ndArr n a) 39)).alloc (.cells ftC0 31)
 have rn1:=(rowNew2 w (.cells #[.slice A s.length cap] 24) (ndArr n a) 39).alloc (.cells ftC0 31)
 have rf1:=rowNew3 w (.cells #[.slice A s.length cap] 24) (.cells (ndArr n a) 39) ftC0 31
 all_goals(apply_rules(newGoals:= .nonDependentOnly)(maxDepth:=1)only[zE];constructor)):p:=h
theorem zq63(h:p:=by
 go_upto_region 1 with (fail)
 generalize w.alloc (.cells (ndArr n a) 39)=W1 at*
 have hs1:=b1.size
 all_goals(apply_rules(newGoals:= .nonDependentOnly)(maxDepth:=1)only[zE];constructor)):p:=h
theorem zq64(h:p:=by
 have HK:Hid (∀W,Below wr.heap.size wr W→W.cell? ⟨w.heap.size,0,none⟩=some (.slice (some ⟨b,off,none⟩) s.length cap)∧(W.cell? ⟨b,off+k*7,none⟩=some (.string n.name)∧W.cell? ⟨b,off+k*7+1,none⟩=some (.slice a.ai n.ins.length a.ci)∧W.cell? ⟨b,off+k*7+2,none⟩=some (.slice a.ao n.outs.length a.co)∧W.cell? ⟨b,off+k*7+3,none⟩=some (.slice a.av n.vars.length a.cv)∧W.cell? ⟨b,off+k*7+4,none⟩=some (.slice a.aq n.eqs.length a.cq)∧W.cell? ⟨b,off+k*7+5,none⟩=some (.int .i64 n.line)∧W.cell? ⟨b,off+k*7+6,none⟩=some (.int .i64 n.col))):=fun W hW=>⟨old_cell hW c0,old_cell hW d0,old_cell hW d1,old_cell hW d2,old_cell hW d3,old_cell hW d4,old_cell hW d5,old_cell hW d6⟩
 all_goals(apply_rules(newGoals:= .nonDependentOnly)(maxDepth:=1)only[zE];constructor)):p:=h
theorem zq266(h:p:=by
 have l2:decide (e.op≤2)=false:=dec_no (by omega)
 have o3:(e.op==3)=false:=eq_no (by omega)
 all_goals(apply_rules(newGoals:= .nonDependentOnly)(maxDepth:=1)only[zE];constructor)):p:=h
theorem zq65(h:p:=by
 refine' zq266
 have o4:(e.op==4)=false:=eq_no (by omega)
 have HSG:=Lib.hid (rsign_no e.op w4 (.inr (by omega)))
 all_goals(apply_rules(newGoals:= .nonDependentOnly)(maxDepth:=1)only[zE];constructor)):p:=h
theorem zq67(h:p:=by
 clear k0 k1 k2 m0 m1 m2 hb4 hsB
 replace rs:=u5.row rs (by omega)
 replace rf:=u5.row rf (by omega)
 replace hB:=hB.trans (Upd.below u5 (fun k e=>by omega) (by have:=hB.size;omega))
 clear u5
 all_goals(apply_rules(newGoals:= .nonDependentOnly)(maxDepth:=1)only[zE];constructor)):p:=h
theorem zq70(h:p:=by
 generalize varIdx n x.name=v at*
 go_upto_region 5 with (fail)
 have HK:Hid (∀W,Below wr.heap.size wr W→(W.cell? ⟨w.heap.size+1,0,none⟩=some (.string n.name)∧W.cell? ⟨w.heap.size+1,1,none⟩=some (.slice a.ai n.ins.length a.ci)∧W.cell? ⟨w.heap.size+1,2,none⟩=some (.slice a.ao n.outs.length a.co)∧W.cell? ⟨w.heap.size+1,3,none⟩=some (.slice a.av n.vars.length a.cv)∧W.cell? ⟨w.heap.size+1,4,none⟩=some (.slice a.aq n.eqs.length a.cq)∧W.cell? ⟨w.heap.size+1,5,none⟩=some (.int .i64 n.line)∧W.cell? ⟨w.heap.size+1,6,none⟩=some (.int .i64 n.col))∧W.cell? ⟨b,off+k*5,none⟩=some (.string x.name)):=fun W hW=>⟨(rn.below hW rn.lt).nd,old_cell hW d0⟩
 all_goals(apply_rules(newGoals:= .nonDependentOnly)(maxDepth:=1)only[zE];constructor)):p:=h
theorem zq71(h:p:=by
 have e1:=beq_yes e
 have HM:Hid (nm∈s.map Nd.name):=by show _∈_;rw[←e];exact List.mem_map_of_mem (List.mem_of_getElem? HX.out)
 have HF:=Lib.hid (nodeAt_at HN.out HX.out e)
 clear e
 go_wp2_with fail
 have bb:=(below_set7 (Below.refl w.heap.size wr) (Nat.le_succ w.heap.size) (.string n.name) (.slice a.ai n.ins.length a.ci) (.slice a.ao n.outs.length a.co) (.slice a.av n.vars.length a.cv) (.slice a.aq n.eqs.length a.cq) (.int .i64 n.line) (.int .i64 n.col)).alloc (by simp[World.setCell];omega) (.cells (ndArr n a) 39)
 have HQ:Hid (Ending.returned (.tuple #[ndV n a,.bool true])= .returned (.tuple #[ndV n a,.bool (cB (nm∈s.map Nd.name))])):=by show _=_;rw[cB_true HM.out]
 all_goals(apply_rules(newGoals:= .nonDependentOnly)(maxDepth:=1)only[zE];constructor)):p:=h
theorem zq72(h:p:=by
 obtain rfl:k=s.length:=by omega
 have HM:Hid (nm∉s.map Nd.name):=fun g=>by
  obtain ⟨n,hn,he⟩:=List.mem_map.1 g
  obtain ⟨j,hj⟩:=List.getElem?_of_mem hn
  exact HN.out j (List.getElem?_eq_some_iff.1 hj).1 n hj he
 go_wp2_with fail
 have HQ:Hid (Ending.returned (.tuple #[ndV nd0 nda0,.bool false])= .returned (.tuple #[ndV nd0 nda0,.bool (cB (nm∈s.map Nd.name))])):=by show _=_;rw[cB_false HM.out]
 exact bodyPost_ret (v:= .tuple #[ndV nd0 nda0,.bool false]) (res2 rfl Tryz.underlying39 rfl (by kernel_rfl) rfl rfl (rr.set7 _ _ _ _ _ _ _)) rfl ⟨⟨nd0,nda0,HQ.out,fun g=>absurd g HM.out,fun _=>⟨rfl,rfl⟩⟩,below_set7 hB (Nat.le_succ _) _ _ _ _ _ _ _⟩
 all_goals(apply_rules(newGoals:= .nonDependentOnly)(maxDepth:=1)only[zE];constructor)):p:=h
theorem zq73(h:p:=by
 rintro r w4 ⟨rfl,hb4⟩
 have rs4:=rs.below hb4 rs.lt
 have rf4:=rf.below hb4 rf.lt
 have rd4:=rd.below hb4 rd.lt
 have hB4:=hB.trans (hb4.mono hsB)
 all_goals(apply_rules(newGoals:= .nonDependentOnly)(maxDepth:=1)only[zE];constructor)):p:=h
theorem zq192(h:p:=by
 have re:=Row.new wr (eqArr q A1 k1 A2 k2) 81
 all_goals(apply_rules(newGoals:= .nonDependentOnly)(maxDepth:=1)only[zE];constructor)):p:=h
theorem zq74(h:p:=by
 have HAq:=Lib.hid hAq
 have HXQ:=Lib.hid hq
 refine' zq192
 have be:Below wr.heap.size wr (wr.alloc (.cells (eqArr q A1 k1 A2 k2) 81)):=(by repeat (first|(with_reducible assumption)|(with_reducible exact Below.refl _ _)|(with_reducible refine Below.drew ?_)|(with_reducible refine below_drewN' ?_ _)|(with_reducible refine Below.alloc ?_ (by first|assumption|omega|(simp;omega)|simp|(simp[World.setCell];omega)|simp[World.setCell]) _)|(with_reducible refine Below.setCell ?_ (by first|assumption|omega|(simp;omega)|simp|(simp[World.setCell];omega)|simp[World.setCell]) _)))
 all_goals(apply_rules(newGoals:= .nonDependentOnly)(maxDepth:=1)only[zE];constructor)):p:=h
theorem zq75(h:p:=by
 refine' zq136
 have q9:Below wc.heap.size wc w9:=Below.trans (by repeat (first|(with_reducible assumption)|(with_reducible exact Below.refl _ _)|(with_reducible refine Below.drew ?_)|(with_reducible refine below_drewN' ?_ _)|(with_reducible refine Below.alloc ?_ (by first|assumption|omega|(simp;omega)|simp|(simp[World.setCell];omega)|simp[World.setCell]) _)|(with_reducible refine Below.setCell ?_ (by first|assumption|omega|(simp;omega)|simp|(simp[World.setCell];omega)|simp[World.setCell]) _))) (hb9.mono (by first|exact Nat.le_refl _|omega|(simp;omega)|simp))
 all_goals(apply_rules(newGoals:= .nonDependentOnly)(maxDepth:=1)only[zE];constructor)):p:=h
theorem zq76(h:p:=by
 go_wp2_with fail
 go_ret
 exact ⟨ret_bool HF.out.symm,hB⟩
 all_goals(apply_rules(newGoals:= .nonDependentOnly)(maxDepth:=1)only[zE];constructor)):p:=h
theorem zq247(h:p:=by
 go_enter Tryz.func310,Tryz.ntmps310
 all_goals(apply_rules(newGoals:= .nonDependentOnly)(maxDepth:=1)only[zE];constructor)):p:=h
theorem zq77(h:p:=by
 refine' zq247
 go_wp2_with (first|((go_at_call 139);(refine (HN.out _ (by assumption)).mono ?_);(rintro r w2 ⟨rfl,hb2⟩);(have hb3:=Below.trans (by assumption:Below w.heap.size w _) (hb2.mono (by assumption:Below w.heap.size w _).size));clear hb2)|((go_at_call 311);(refine (str_any _ (by simp) _).mono ?_);(rintro r w2 ⟨rfl,rfl⟩))|((go_at_call 337);(refine (HC.out _).mono ?_);(rintro r w2 ⟨rfl,rfl⟩)))
 go_ret2
 exact ⟨rfl,by assumption⟩
 all_goals(apply_rules(newGoals:= .nonDependentOnly)(maxDepth:=1)only[zE];constructor)):p:=h
theorem zq78(h:p:=by
 rintro r w2 ⟨rfl,hb2⟩
 have rf2:=rf.below hb2 rf.lt
 have hB2:=b0.trans (hb2.mono b0.size)
 obtain ⟨⟨k0,k1',k2'⟩,g0,g1,g2⟩:=rf2.three
 go_wp2_with fail
 exact bodyPost_ret (res1 rfl Tryz.underlying31 rfl (by kernel_rfl) rfl (rf2.set3 _ _ _)) rfl ⟨rfl,below_set3 hB2 (Nat.le_refl _) _ _ _⟩
 all_goals(apply_rules(newGoals:= .nonDependentOnly)(maxDepth:=1)only[zE];constructor)):p:=h
theorem zq80(h:p:=by
 have gv':a.cv≤9223372036854775807:=by unfold maxLen at gv;omega
 have gq':a.cq≤9223372036854775807:=by unfold maxLen at gq;omega
 all_goals(apply_rules(newGoals:= .nonDependentOnly)(maxDepth:=1)only[zE];constructor)):p:=h
theorem zq81(h:p:=by
 generalize hW8:wr.alloc (.cells (eqArr q A1 k1 A2 k2) 81)=w8 at*
 clear hW8
 have hse:=be.size
 have rf8:=rf7.below be rf7.lt
 have hB8:=hB7.trans (be.mono hsB7)
 obtain ⟨d0,d1,d2,d3,d4,d5,d6,d7,d8⟩:=re.eqn
 go_wp2_with fail
 refine HR.out.mono ?_
 rintro r w9 ⟨rfl,hb9⟩
 have rf9:=rf8.below hb9 rf8.lt
 have re9:=re.below hb9 re.lt
 have hB9:=hB8.trans (hb9.mono hB8.size)
 have hs9:=hb9.size
 have hsB9:=hB9.size
 have hl9:=rf9.lt
 have hl9e:=re9.lt
 clear d0 d1 d2 d3 d4 d5 d6 d7 d8
 obtain ⟨d0,d1,d2,d3,d4,d5,d6,d7,d8⟩:=re9.eqn
 obtain ⟨⟨k0,k1',k2'⟩,g0,g1,g2⟩:=rf9.three
 all_goals(apply_rules(newGoals:= .nonDependentOnly)(maxDepth:=1)only[zE];constructor)):p:=h
theorem zq82(h:p:=by
 obtain ⟨⟨k0,k1,k2⟩,h0,h1,h2⟩:=rf9.three
 go_wp2_with fail
 exact bodyPost_ret (res1 rfl Tryz.underlying31 rfl (by kernel_rfl) rfl (rf9.set3 _ _ _)) rfl ⟨(congrArg (fun f=>Ending.returned (ftV f)) HF.out).symm,fun g=>absurd g HE.out,u9.set3 (by first|omega|(simp;omega)|simp) _ _ _⟩
 all_goals(apply_rules(newGoals:= .nonDependentOnly)(maxDepth:=1)only[zE];constructor)):p:=h
theorem zq148(h:p:=by
 have mq1':k1≤9223372036854775807:=by unfold maxLen at mq1;omega
 all_goals(apply_rules(newGoals:= .nonDependentOnly)(maxDepth:=1)only[zE];constructor)):p:=h
theorem zq84(h:p:=by
 have HQX:=Lib.hid hq
 have HSQ:=Lib.hid (HNS.out.eq q (List.mem_of_getElem? hq))
 have HS1:Hid (∀W,Below wr.heap.size wr W→Sl W w.heap.size 1 isStr A1 q.left):=fun W hW=>strs_keep sl1 (keeps_of (hW.mono hsB7)) (Nat.le_refl _)
 have j0:(0:Int)≤(p:Int):=by omega
 have j1:(p:Int)<(n.eqs.length:Int):=by omega
 have HFq:Hid ((cauQF n p q).err≠0→causeF s=cauQF n p q):=fun g=>by
  have e2:cauNF k n=cauQF n p q:=by unfold cauNF;rw[fstL_stop (f:=cauQF n) HP.out HQX.out g]
  exact (HFn.out (by rw[e2];exact g)).trans e2
 refine' zq148
 all_goals(apply_rules(newGoals:= .nonDependentOnly)(maxDepth:=1)only[zE];constructor)):p:=h
theorem zq85(h:p:=by
 have b1:Below w.heap.size w (w.alloc (.cells #[.int .i64 l,.int .i64 c] 29)):=(by repeat (first|(with_reducible assumption)|(with_reducible exact Below.refl _ _)|(with_reducible refine Below.drew ?_)|(with_reducible refine below_drewN' ?_ _)|(with_reducible refine Below.alloc ?_ (by first|assumption|omega|(simp;omega)|simp|(simp[World.setCell];omega)|simp[World.setCell]) _)|(with_reducible refine Below.setCell ?_ (by first|assumption|omega|(simp;omega)|simp|(simp[World.setCell];omega)|simp[World.setCell]) _)))
 have rp:=Row.new w #[.int .i64 l,.int .i64 c] 29
 all_goals(apply_rules(newGoals:= .nonDependentOnly)(maxDepth:=1)only[zE];constructor)):p:=h
theorem zq87(h:p:=by
 obtain ⟨⟨k0,k1,k2⟩,g0,g1,g2⟩:=rf5.three
 go_wp2_with fail
 exact bodyPost_ret (res1 rfl Tryz.underlying31 rfl (by kernel_rfl) rfl (rf5.set3 _ _ _)) rfl ⟨(congrArg (fun f=>Ending.returned (ftV f)) HF.out).symm,below_set3 hB5 (by first|omega|(simp;omega)|simp) _ _ _⟩
 all_goals(apply_rules(newGoals:= .nonDependentOnly)(maxDepth:=1)only[zE];constructor)):p:=h
theorem zq88(h:p:=by
 clear hP
 go_wp2_with fail
 go_roundw
 case rel=>exact ⟨k+1,by omega,by go_num,HN',b2⟩
 case measure=>simp[intOf];omega
 all_goals(apply_rules(newGoals:= .nonDependentOnly)(maxDepth:=1)only[zE];constructor)):p:=h
theorem zq89(h:p:=by
 have hp:=HPAR.out.2.2.2.2.1 (by omega)
 obtain ⟨l0,l1,rfl⟩:=len_2 (HLL.out.trans hp)
 obtain ⟨q,c,rfl,hc1,hc2,hq⟩:=ints_rdn HVV.out hgb (n:=2) rfl (by decide)
 have HQ:=Lib.hid hq
 all_goals(apply_rules(newGoals:= .nonDependentOnly)(maxDepth:=1)only[zE];constructor)):p:=h
theorem zq90(h:p:=by
 go_region_held3 (fun W=>W.cell? ⟨w.heap.size,0,none⟩=some (.slice (some ⟨b,off,none⟩) s.length cap)∧W.cell? ⟨b,off+k*7,none⟩=some (.string n.name)) (first|(with_reducible exact HK.out _ bE)|go_keep)
  (first|((go_at_call 61);(refine (HVX.out _ (hB.trans (Below.mono (B:=wr.heap.size) bE hsB))).mono ?_);rintro e w3 ⟨rfl,hb3⟩;(have hb4:Below wr.heap.size wr w3:=Below.trans bE (hb3.mono lE));(have hs4:=hb4.size)))
 all_goals
  go_wp2_with fail
  go_meet
  exact ⟨rfl,bE⟩
 all_goals(apply_rules(newGoals:= .nonDependentOnly)(maxDepth:=1)only[zE];constructor)):p:=h
theorem zq91(h:p:=by
 have rf2:=rf1.below hb2 rf1.lt
 have hq2:=rf2.lt
 have hq2':w.heap.size+1+1+1<w2.heap.size:=hq2
 have hq3:w.heap.size+2<w2.heap.size:=by omega
 have hq3':w.heap.size+1+1<w2.heap.size:=hq3
 all_goals(apply_rules(newGoals:= .nonDependentOnly)(maxDepth:=1)only[zE];constructor)):p:=h
theorem zq92(h:p:=by
 have HF:Hid (tyF s n e=ft0):=HE.out.trans HO.out.1
 have HK:Hid (e.op=tyK s n e):=by show _=_;rw[HKE.out,HO.out.2];exact o
 clear o
 obtain ⟨⟨k0,k1,k2⟩,h0,h1,h2⟩:=rf.three
 go_wp2_with fail
 exact bodyPost_ret (res2b (p:=7) (q:=6) rfl Tryz.underlying31 rfl (by kernel_rfl) rfl rfl (rf.set3 _ _ _)) rfl ⟨⟨_,(congrArg (fun f=>Ending.returned (.tuple #[.int .i64 _,ftV f])) HF.out).symm,fun _=>HK.out,fun g=>absurd (congrArg Ft.err HF.out) g⟩,below_set3 hB (by first|omega|(simp;omega)|simp) _ _ _⟩
 all_goals(apply_rules(newGoals:= .nonDependentOnly)(maxDepth:=1)only[zE];constructor)):p:=h
theorem zq95(h:p:=by
 by_cases hlp:p<n.eqs.length
 rotate_left 1
 ·obtain rfl:p=n.eqs.length:=by omega
  have e:cauNF k n=ft0:=fstL_end HP.out
  have HK':=Lib.hid (step_uptoI (P:=fun j x=>(cauNF j x).err=0) HK.out HX.out (by rw[e]))
  clear e
  go_wp2_with fail
  go_roundw
  case rel=>exact ⟨k+1,by omega,by go_num,HK',hbr.trans (b07.mono hszr)⟩
  case measure=>first|(simp[intOf];omega)|simp[intOf]
 obtain ⟨b',off',q,A1,k1,A2,k2,hA',hb',hq,ok,lq1,mq1,sl1,lq2,mq2,sl2,d0,d1,d2,d3,d4,d5,d6,d7,d8⟩:=(HAT.out wr b07).sq.eqn hlp
 all_goals(apply_rules(newGoals:= .nonDependentOnly)(maxDepth:=1)only[zE];constructor)):p:=h
theorem zq96(h:p:=by
 refine' zq247
 go_wp2_with (first|((go_at_call 139);(refine (HN.out _ (by assumption)).mono ?_);(rintro r w2 ⟨rfl,hb2⟩);(have hb3:=Below.trans (by assumption:Below w.heap.size w _) (hb2.mono (by assumption:Below w.heap.size w _).size));clear hb2)|((go_at_call 311);(refine (str_any _ (by simp) _).mono ?_);(rintro r w2 ⟨rfl,rfl⟩)))
 go_ret2
 exact ⟨rfl,by assumption⟩
 all_goals(apply_rules(newGoals:= .nonDependentOnly)(maxDepth:=1)only[zE];constructor)):p:=h
theorem zq97(h:p:=by
 go_wp2_with fail
 go_meet
 exact ⟨A3,cap3,rfl,l3,m3,(by exact s3),(by repeat (first|(with_reducible assumption)|(with_reducible exact Below.refl _ _)|(with_reducible refine Below.drew ?_)|(with_reducible refine below_drewN' ?_ _)|(with_reducible refine Below.alloc ?_ (by first|assumption|omega|(simp;omega)|simp|(simp[World.setCell];omega)|simp[World.setCell]) _)|(with_reducible refine Below.setCell ?_ (by first|assumption|omega|(simp;omega)|simp|(simp[World.setCell];omega)|simp[World.setCell]) _)))⟩
 all_goals(apply_rules(newGoals:= .nonDependentOnly)(maxDepth:=1)only[zE];constructor)):p:=h
theorem zq98(h:p:=by
 have hp1:1≤e.args.length:=by
  by_cases o5:e.op=5∨e.op=6
  ·have:=HPAR.out.2.2.2.1 (by omega);omega
  ·have:=HPAR.out.2.2.2.2.1 (by omega);omega
 have HP2:Hid (signIn e.op=0→e.args.length=2):=fun g0=>by
  refine HPAR.out.2.2.2.2.1 (.inl ⟨?_,o.2⟩)
  refine Classical.byContradiction fun g1=>?_
  rcases (show e.op=5∨e.op=6 by omega) with o5|o5<;>rw[o5] at g0<;>exact absurd g0 (by decide)
 obtain ⟨q,c,rfl,hc1,hc2,hq⟩:=ints_rdn HVV.out hgb HLL.out hp1
 have HQ:=Lib.hid hq
 all_goals(apply_rules(newGoals:= .nonDependentOnly)(maxDepth:=1)only[zE];constructor)):p:=h
theorem zq99(h:p:=by
 go_wp2_with fail
 go_meet
 exact ⟨rfl,(by repeat (first|(with_reducible assumption)|(with_reducible exact Below.refl _ _)|(with_reducible refine Below.drew ?_)|(with_reducible refine below_drewN' ?_ _)|(with_reducible refine Below.alloc ?_ (by first|assumption|omega|(simp;omega)|simp|(simp[World.setCell];omega)|simp[World.setCell]) _)|(with_reducible refine Below.setCell ?_ (by first|assumption|omega|(simp;omega)|simp|(simp[World.setCell];omega)|simp[World.setCell]) _)))⟩
 all_goals(apply_rules(newGoals:= .nonDependentOnly)(maxDepth:=1)only[zE];constructor)):p:=h
theorem zq100(h:p:=by
 have hp:=HPAR.out.2.2.2.1 (by omega)
 obtain ⟨l0,rfl⟩:=len_1 (HLL.out.trans hp)
 obtain ⟨q,c,rfl,hc1,hc2,hq⟩:=ints_rdn HVV.out hgb (n:=1) rfl (Nat.le_refl _)
 all_goals(apply_rules(newGoals:= .nonDependentOnly)(maxDepth:=1)only[zE];constructor)):p:=h
theorem zq102(h:p:=by
 rintro e w4 ⟨rfl,hb4⟩
 have r4:=r3.below hb4 r3.lt
 have b4:=b3.trans (hb4.mono hs3)
 have hs4:=b4.size
 clear d0 d1 d2 d3 d4 d5 d6
 obtain ⟨d0,d1,d2,d3,d4,d5,d6⟩:=r4.nd
 by_cases h1:VrsRt n.outs 1 8
 rotate_left 1
 ·have HF:Hid (cB (NdRt n)=false):=cB_false (fun g=>h1 g.2.2.2.2.2.1)
  rw[cB_false h1]
  clear h1
  go_wp2_with fail
  go_ret
  exact ⟨ret_bool HF.out.symm,b4⟩
 have H2:=Lib.hid h1
 rw[cB_true h1]
 clear h1
 go_wp2_with fail
 all_goals(apply_rules(newGoals:= .nonDependentOnly)(maxDepth:=1)only[zE];constructor)):p:=h
theorem zq103(h:p:=by
 go_upto_region 1 with (fail)
 generalize w.alloc (.cells #[.slice A s.length cap] 24)=W1 at*
 have hs1:=b1.size
 all_goals(apply_rules(newGoals:= .nonDependentOnly)(maxDepth:=1)only[zE];constructor)):p:=h
theorem zq191(h:p:=by
 clear hP
 go_wp2_with fail
 go_ret
 exact ⟨ret_bool HF.out.symm,b1.trans (b2.mono hs1)⟩
 all_goals(apply_rules(newGoals:= .nonDependentOnly)(maxDepth:=1)only[zE];constructor)):p:=h
theorem zq104(h:p:=by
 by_cases hP:NdRt n
 ·have HN':=Lib.hid (step_upto (P:=NdRt) HN.out HX.out hP)
  rw[cB_true hP]
  refine' zq88
 ·have HF:Hid (cB (SrcRt s)=false):=cB_false (fun g=>hP (g.1 n (List.mem_of_getElem? HX.out)))
  rw[cB_false hP]
  refine' zq191
 all_goals(apply_rules(newGoals:= .nonDependentOnly)(maxDepth:=1)only[zE];constructor)):p:=h
theorem zq106(h:p:=by
 go_wp2_with fail
 go_ret
 exact HFIN.out _ _ (by rw[HO.out.1];exact HT5.out) HU5.out HO.out.2.symm
 all_goals(apply_rules(newGoals:= .nonDependentOnly)(maxDepth:=1)only[zE];constructor)):p:=h
theorem zq107(h:p:=by
 by_cases e2:s.length≤16
 ·have e2':decide ((s.length:Int)≤16)=true:=dec_yes (by omega)
  have HF:Hid (cB (SrcRt s)=true):=cB_true ⟨HA.out,e1,e2⟩
  refine' zq76
 ·have e2':decide ((s.length:Int)≤16)=false:=dec_no (by omega)
  have HF:Hid (cB (SrcRt s)=false):=cB_false (fun g=>e2 g.2.2)
  refine' zq76
 all_goals(apply_rules(newGoals:= .nonDependentOnly)(maxDepth:=1)only[zE];constructor)):p:=h
theorem zq108(h:p:=by
 refine' zq20
 have HF0:Hid (causeF s=ft2 f (fstL cauNF s)):=by show _=_;rw[←HFN.out];rfl
 rw[HFN.out]
 by_cases hf:f.err=0
 rotate_left 1
 ·have hf1:(f.err !=0)=true:=neq_yes hf
  have HF:Hid (causeF s=f):=by show _=_;rw[HF0.out,ft2_1 hf]
  clear hf
  refine' zq10
 have hf1:(f.err !=0)=false:=neq_no hf
 have HF1:Hid (causeF s=fstL cauNF s):=by show _=_;rw[HF0.out,ft2_0 hf]
 refine' zq27
 go_wp2_with fail
 clear c0
 all_goals(apply_rules(newGoals:= .nonDependentOnly)(maxDepth:=1)only[zE];constructor)):p:=h
theorem zq109(h:p:=by
 refine' zq20
 have HF0:Hid (onsF s=ft2 f (fstL onsN s)):=by show _=_;rw[←HFN.out];rfl
 rw[HFN.out]
 by_cases hf:f.err=0
 rotate_left 1
 ·have hf1:(f.err !=0)=true:=neq_yes hf
  have HF:Hid (onsF s=f):=by show _=_;rw[HF0.out,ft2_1 hf]
  clear hf
  refine' zq10
 have hf1:(f.err !=0)=false:=neq_no hf
 have HF1:Hid (onsF s=fstL onsN s):=by show _=_;rw[HF0.out,ft2_0 hf]
 refine' zq17
 clear rs2 rf2 hB2 hs2 ba hl2 HF0
 all_goals(apply_rules(newGoals:= .nonDependentOnly)(maxDepth:=1)only[zE];constructor)):p:=h
theorem zq110(h:p:=by
 refine' zq18
 refine (rcheck15_any s A cap W1 HSM.out h1 h2 (nds_keep (HS.out W1 b1) (fun _ _ _ h=>h) hs1)).mono ?_
 all_goals(apply_rules(newGoals:= .nonDependentOnly)(maxDepth:=1)only[zE];constructor)):p:=h
theorem zq111(h:p:=by
 have b1:Below w.heap.size w (w.alloc (.cells (ndArr n a) 39)):=(Below.refl _ _).alloc (Nat.le_refl _) _
 all_goals(apply_rules(newGoals:= .nonDependentOnly)(maxDepth:=1)only[zE];constructor)):p:=h
theorem zq112(h:p:=by
 refine' zq18
 refine (check15_any s A cap W1 HSM.out h1 h2 (nds_keep (HS.out W1 b1) (fun _ _ _ h=>h) hs1)).mono ?_
 all_goals(apply_rules(newGoals:= .nonDependentOnly)(maxDepth:=1)only[zE];constructor)):p:=h
theorem zq113(h:p:=by
 go_wp2_with fail
 go_ret
 exact ⟨ret_bool HF.out.symm,b2⟩
 all_goals(apply_rules(newGoals:= .nonDependentOnly)(maxDepth:=1)only[zE];constructor)):p:=h
theorem zq114(h:p:=by
 obtain ⟨⟨k0,k1,k2⟩,m0,m1,m2⟩:=rx.three
 obtain ⟨⟨j0,j1,j2⟩,g0,g1,g2⟩:=rf.three
 all_goals(apply_rules(newGoals:= .nonDependentOnly)(maxDepth:=1)only[zE];constructor)):p:=h
theorem zq115(h:p:=by
 have hp':tmps[p]?.getD undef= .pointer (some ⟨g,0,none⟩):=by simpa using hp
 have hq':tmps[q]?.getD undef=u:=by simpa using hq
 simp[results,h,hp',hq',asAddr,run_loadVar_row w g t ty cs (0,0) d hg hu hd hi]
 all_goals(apply_rules(newGoals:= .nonDependentOnly)(maxDepth:=1)only[zE];constructor)):p:=h
theorem zq265(h:p:=by
 obtain ⟨p,hp,rfl,HP,hbq⟩:=hrel
 have hszq:=hbq.size
 all_goals(apply_rules(newGoals:= .nonDependentOnly)(maxDepth:=1)only[zE];constructor)):p:=h
theorem zq116(h:p:=by
 refine' zq265
 have rn7:=rn1.below hbq rn1.lt
 have rf7:=rf6.below hbq rf6.lt
 have hB7:=hB6.trans (hbq.mono hs6)
 have hsB7:=hB7.size
 have b07:=ba.trans (hbq.mono hsa)
 all_goals(apply_rules(newGoals:= .nonDependentOnly)(maxDepth:=1)only[zE];constructor)):p:=h
theorem zq117(h:p:=by
 refine' zq20
 have HF0:Hid (callsF s=ft2 f (fstL (calF s) s)):=by show _=_;rw[←HFN.out];rfl
 rw[HFN.out]
 by_cases hf:f.err=0
 rotate_left 1
 ·have hf1:(f.err !=0)=true:=neq_yes hf
  have HF:Hid (callsF s=f):=by show _=_;rw[HF0.out,ft2_1 hf]
  clear hf
  refine' zq10
 have hf1:(f.err !=0)=false:=neq_no hf
 have HF1:Hid (callsF s=fstL (calF s) s):=by show _=_;rw[HF0.out,ft2_0 hf]
 refine' zq27
 all_goals(apply_rules(newGoals:= .nonDependentOnly)(maxDepth:=1)only[zE];constructor)):p:=h
theorem zq118(h:p:=by
 obtain ⟨wo,rfl⟩:∃wo:World,wo=wr:=⟨_,rfl⟩
 all_goals(apply_rules(newGoals:= .nonDependentOnly)(maxDepth:=1)only[zE];constructor)):p:=h
theorem zq119(h:p:=by
 go_upto_region 1 with (fail)
 generalize ((w.alloc (.cells #[.slice A s.length cap] 24)).alloc (.cells (ndArr n a) 39)).alloc (.cells ftC0 31)=W1 at*
 have hs1:=b1.size
 all_goals(apply_rules(newGoals:= .nonDependentOnly)(maxDepth:=1)only[zE];constructor)):p:=h
theorem zq120(h:p:=by
 have HE:Hid ((ft2 f1 f2).err≠0):=by show _≠_;rw[HF.out];exact hf
 clear hf
 obtain ⟨⟨k0,k1,k2⟩,g0,g1,g2⟩:=rf2.three
 go_wp2_with fail
 exact bodyPost_ret (res1 rfl Tryz.underlying31 rfl (by kernel_rfl) rfl ((rf2.set3 _ _ _).alloc _)) rfl ⟨(congrArg (fun f=>Ending.returned (ftV f)) HF.out).symm,(hu3.set3 (Nat.le_refl _) _ _ _).alloc _,fun g=>absurd g HE.out⟩
 all_goals(apply_rules(newGoals:= .nonDependentOnly)(maxDepth:=1)only[zE];constructor)):p:=h
theorem zq121(h:p:=by
 go_wp2_with fail
 clear c0 c1 cc2 c3 c4 c5 c6
 all_goals(apply_rules(newGoals:= .nonDependentOnly)(maxDepth:=1)only[zE];constructor)):p:=h
theorem zq123(h:p:=by
 have b0:Below w.heap.size w (w.alloc (.cells ftC0 31)):=bE
 have rf:=Row.new w ftC0 31
 have r1':=r1.below b0 r1.lt
 all_goals(apply_rules(newGoals:= .nonDependentOnly)(maxDepth:=1)only[zE];constructor)):p:=h
theorem zq124(h:p:=by
 have e12:(decide ((1:Int)<(q.left.length:Int))=false∧decide (1<q.left.length)=false)∨(decide ((1:Int)<(q.left.length:Int))=true∧decide (1<q.left.length)=true∧(q.right.op !=4)=false):=by
  by_cases g:1<q.left.length
  ·exact .inr ⟨dec_yes (by omega),dec_yes g,neq_no (Classical.byContradiction fun g'=>hc ⟨g,g'⟩)⟩
  ·exact .inl ⟨dec_no (by omega),dec_no g⟩
 all_goals(apply_rules(newGoals:= .nonDependentOnly)(maxDepth:=1)only[zE];constructor)):p:=h
theorem zq125(h:p:=by
 clear hf
 obtain ⟨⟨k0,k1,k2⟩,g0,g1,g2⟩:=rf8.three
 go_wp2_with fail
 exact bodyPost_ret (res1 rfl Tryz.underlying31 rfl (by kernel_rfl) rfl ((rf8.set3 _ _ _).alloc _)) rfl ⟨(congrArg (fun f=>Ending.returned (ftV f)) HF.out).symm,(below_set3 hB8 (by first|omega|(simp;omega)|simp) _ _ _).alloc (by first|(simp[World.setCell];omega)|simp[World.setCell]) _⟩
 all_goals(apply_rules(newGoals:= .nonDependentOnly)(maxDepth:=1)only[zE];constructor)):p:=h
theorem zq235(h:p:=by
 have rx:=Row.new wr (vrArr x A' cap') 89
 all_goals(apply_rules(newGoals:= .nonDependentOnly)(maxDepth:=1)only[zE];constructor)):p:=h
theorem zq126(h:p:=by
 refine' zq235
 have ba:Below wr.heap.size wr (wr.alloc (.cells (vrArr x A' cap') 89)):=bE
 all_goals(apply_rules(newGoals:= .nonDependentOnly)(maxDepth:=1)only[zE];constructor)):p:=h
theorem zq127(h:p:=by
 have t1:(ty !=2)=false:=neq_no ht
 have HT2:=Lib.hid (eq_beq ht)
 refine' zq255
 have HQ6:=Lib.hid (HQ5.out.bel hb6)
 clear x0 x1 x2 x3 x4 x5
 obtain ⟨x0,x1,x2,x3,x4,x5⟩:=re6.ex6
 have q0:=HQ6.out.2.2 0 l0 rfl
 all_goals(apply_rules(newGoals:= .nonDependentOnly)(maxDepth:=1)only[zE];constructor)):p:=h
theorem zq128(h:p:=by
 have r1:=Row.new w #[.slice A s.length cap] 24
 have b1:Below w.heap.size w (w.alloc (.cells #[.slice A s.length cap] 24)):=(Below.refl _ _).alloc (Nat.le_refl _) _
 all_goals(apply_rules(newGoals:= .nonDependentOnly)(maxDepth:=1)only[zE];constructor)):p:=h
theorem zq131(h:p:=by
 refine ⟨by simp[h.1,h'.1],fun i x cs hx hc=>?_⟩
 rcases Nat.lt_or_ge i l.length with hi|hi
 ·rw[List.getElem?_append_left hi] at hx
  rw[List.getElem?_append_left (by rw[h.1];exact hi)] at hc
  exact h.2 i x cs hx hc
 ·rw[List.getElem?_append_right hi] at hx
  rw[List.getElem?_append_right (by rw[h.1];exact hi),h.1] at hc
  exact h'.2 _ x cs hx hc
 all_goals(apply_rules(newGoals:= .nonDependentOnly)(maxDepth:=1)only[zE];constructor)):p:=h
theorem zq132(h:p:=by
 have hs3:=b3.size
 clear d0 d1 d2 d3 d4 d5 d6
 obtain ⟨d0,d1,d2,d3,d4,d5,d6⟩:=r3.nd
 by_cases h1:VrsRt n.ins 1 8
 rotate_left 1
 ·have HF:Hid (cB (NdRt n)=false):=cB_false (fun g=>h1 g.2.2.2.2.1)
  rw[cB_false h1]
  clear h1
  go_wp2_with fail
  go_ret
  exact ⟨ret_bool HF.out.symm,b3⟩
 have H1:=Lib.hid h1
 rw[cB_true h1]
 clear h1
 go_wp2_with fail
 all_goals(apply_rules(newGoals:= .nonDependentOnly)(maxDepth:=1)only[zE];constructor)):p:=h
theorem zq134(h:p:=by
 have hq:=cB_iff.1 HPB.out
 have HF:Hid (causeF s=⟨32,q.line,q.col⟩):=by
  have e:cauF n q m x=⟨32,q.line,q.col⟩:=cauF_yes hq
  have e1:cauQF n p q=⟨32,q.line,q.col⟩:=by unfold cauQF;rw[fstL_stop (f:=cauF n q) HM.out HXL.out (by rw[e];show (32:Int)≠0;decide),e]
  exact (HFq.out (by rw[e1];show (32:Int)≠0;decide)).trans e1
 clear hq
 all_goals(apply_rules(newGoals:= .nonDependentOnly)(maxDepth:=1)only[zE];constructor)):p:=h
theorem zq135(h:p:=by
 go_wp2_with (at_builtin;refine wpList_append_str rfl _ _ rfl w.heap.size M _ _ rfl (hown.alloc _) rfl wr.heap.size x rfl (((Row.new wr #[.string x] 9).cell 0).trans rfl) (by omega) (by simp;omega) ?_;intro v2 w2 o2 g2)
 have hB2:=below_own (hB.alloc hB.size (.cells #[.string x] 9)) (hown.alloc _) g2 (by simp;omega)
 all_goals(apply_rules(newGoals:= .nonDependentOnly)(maxDepth:=1)only[zE];constructor)):p:=h
theorem zq137(h:p:=by
 have hsB:=hB.size
 have hszr:=hbr.size
 by_cases hlt:k<s.length
 rotate_left 1
 ·obtain rfl:k=s.length:=by omega
  have HF:Hid (callsF s=ft0):=HF1.out.trans (fstL_end HN.out)
  refine' zq11
 refine' zq68
 have hnm:=hat.name
 refine' zq69
 refine' zq133
 obtain ⟨P,HPB⟩:∃P:Bool,Hid (cB (Hg (usesAt s) n.name n.name)=P):=⟨_,rfl⟩
 all_goals(apply_rules(newGoals:= .nonDependentOnly)(maxDepth:=1)only[zE];constructor)):p:=h
theorem zq138(h:p:=by
 refine' zq65
 have g24:decide ((24:Int)≤e.op)=true:=dec_yes (by omega)
 have g26:decide (e.op≤26)=true:=dec_yes (by omega)
 have o27:(e.op==27)=false:=eq_no (by omega)
 have HNM:=Lib.hid (fun W hW=>rty_any n a e.name W ((HN.out W hW).more (Below.size hW)) HL.out (HOWN.out.name (by simp only[namesB,decide_eq_true_eq];omega)))
 all_goals(apply_rules(newGoals:= .nonDependentOnly)(maxDepth:=1)only[zE];constructor)):p:=h
theorem zq139(h:p:=by
 go_wp2_with fail
 go_ret
 exact ⟨ret_bool HF.out.symm,rfl⟩
 all_goals(apply_rules(newGoals:= .nonDependentOnly)(maxDepth:=1)only[zE];constructor)):p:=h
theorem zq140(h:p:=by
 intro _
 refine ⟨g,0,rfl,hr.lt,fun i x hi'=>?_⟩
 have hil:i<css.length:=by rw[hx.1];exact (List.getElem?_eq_some_iff.1 hi').1
 refine ⟨css[i],fun j u hu=>?_,(hx.2 i x _ hi' (List.getElem?_eq_getElem hil)).more hh⟩
 have hj:j<6:=by rw[←hx.six css[i] (List.getElem_mem hil)];exact (List.getElem?_eq_some_iff.1 hu).1
 all_goals(apply_rules(newGoals:= .nonDependentOnly)(maxDepth:=1)only[zE];constructor)):p:=h
theorem zq141(h:p:=by
 go_wp2_with fail
 exact bodyPost_ret (res1 rfl Tryz.underlying31 rfl (by kernel_rfl) rfl ((rf5.set3 _ _ _).alloc _)) rfl ⟨(congrArg (fun f=>Ending.returned (ftV f)) HF.out).symm,(below_set3 hB5 (by first|omega|(simp;omega)|simp) _ _ _).alloc (by first|(simp[World.setCell];omega)|simp[World.setCell]) _⟩
 all_goals(apply_rules(newGoals:= .nonDependentOnly)(maxDepth:=1)only[zE];constructor)):p:=h
theorem zq143(h:p:=by
 go_simp
 refine' zq55
 refine rdE none rfl (fun KK hKK=>?_)
 go_simp
 refine hKK.out _ _ ?_
 clear hKK KK
 refine' zq6
 refine wpAnyL_done (by kernel_rfl) ?_ _
 have hs7:=h7.2.size
 have hdr:wr.drew.heap.size=wr.heap.size:=rfl
 have hL0:=H.out.hl
 have Ua:Upd (fun k=>k=o) wr w7:=(Upd.drew (Upd.refl (fun k=>k=o) wr)).trans h7.2
 all_goals(apply_rules(newGoals:= .nonDependentOnly)(maxDepth:=1)only[zE];constructor)):p:=h
theorem zq144(h:p:=by
 go_upto_region 1 with (fail)
 change Code.wp _ _ _ _ ((w.alloc (.cells #[.slice none 0 0] 24)).alloc (.cells ftC0 31))
 generalize (w.alloc (.cells #[.slice none 0 0] 24)).alloc (.cells ftC0 31)=W1 at*
 have hs1:=b1.size
 have hl1:=r1.lt
 have hl2:=r2.lt
 go_wp2_with fail
 all_goals(apply_rules(newGoals:= .nonDependentOnly)(maxDepth:=1)only[zE];constructor)):p:=h
theorem zq145(h:p:=by
 simp[Ex.op,Ex.name,Ex.n,Ex.args,Ex.line,Ex.col] at this
 exact this
 all_goals(apply_rules(newGoals:= .nonDependentOnly)(maxDepth:=1)only[zE];constructor)):p:=h
theorem zq146(h:p:=by
 refine' zq30
 clear h
 go_enter Tryz.func53,Tryz.ntmps53
 go_upto_region 1 with (fail)
 generalize (w.alloc (.cells #[.slice A s.length cap] 24)).alloc (.cells ndZ 39)=W1 at*
 have hs1:=b1.size
 have l1:=rf1.lt
 have c0:=rs1.src
 go_wp2_with fail
 clear c0 rs1
 all_goals(apply_rules(newGoals:= .nonDependentOnly)(maxDepth:=1)only[zE];constructor)):p:=h
theorem zq147(h:p:=by
 obtain ⟨b,off,x,A',cap',rfl,hb,hx,ok,g1,g2,hsl,c0,c1,c2,c3,c4⟩:=(vrs_keep HS.out (keeps_of hbr) (Nat.le_refl _)).vr hlt
 have HX:=Lib.hid hx
 have HSL:=Lib.hid hsl
 all_goals(apply_rules(newGoals:= .nonDependentOnly)(maxDepth:=1)only[zE];constructor)):p:=h
theorem zq149(h:p:=by
 clear e
 go_wp2_with fail
 go_round
 case rel=>exact ⟨k+1,by omega,by go_num,HN'⟩
 case measure=>simp[intOf];omega
 all_goals(apply_rules(newGoals:= .nonDependentOnly)(maxDepth:=1)only[zE];constructor)):p:=h
theorem zq150(h:p:=by
 have e:condF n x p y=⟨24,x.line,x.col⟩:=by unfold condF;rw[if_pos hP]
 have e1:=fstL_stop (f:=condF n x) HQ.out HY.out (by rw[e];show (24:Int)≠0;decide)
 rw[e] at e1
 have e2:clkF n k x=⟨24,x.line,x.col⟩:=e1
 have e3:=fstL_stop (f:=clkF n) HJ.out HXK.out (by rw[e2];show (24:Int)≠0;decide)
 show _=_
 all_goals(apply_rules(newGoals:= .nonDependentOnly)(maxDepth:=1)only[zE];constructor)):p:=h
theorem zq154(h:p:=by
 clear hP HXM
 generalize nodeIdx s n.name=v at*
 go_upto_region 6 with (fail)
 have HK:Hid (∀W,Below wr.heap.size wr W→W.cell? ⟨w.heap.size,0,none⟩=some (.slice (some ⟨b,off,none⟩) s.length cap)∧W.cell? ⟨b,off+k*7,none⟩=some (.string n.name)):=fun W hW=>⟨old_cell hW c0,old_cell hW d0⟩
 all_goals(apply_rules(newGoals:= .nonDependentOnly)(maxDepth:=1)only[zE];constructor)):p:=h
theorem zq157(h:p:=by
 obtain ⟨⟨k0,k1',k2'⟩,g0,g1,g2⟩:=rf11.three
 go_wp2_with fail
 exact bodyPost_ret (res1 rfl Tryz.underlying31 rfl (by kernel_rfl) rfl (rf11.set3 _ _ _)) rfl ⟨(congrArg (fun f=>Ending.returned (ftV f)) HF.out).symm,below_set3 hB11 (by first|omega|(simp;omega)|simp) _ _ _⟩
 all_goals(apply_rules(newGoals:= .nonDependentOnly)(maxDepth:=1)only[zE];constructor)):p:=h
theorem zq158(h:p:=by
 go_wp2_with fail
 go_roundw
 case rel=>exact ⟨k+1,by omega,by go_num,HN',hbr.trans (hbc.mono hszr)⟩
 case measure=>first|(simp[intOf];omega)|simp[intOf]
 all_goals(apply_rules(newGoals:= .nonDependentOnly)(maxDepth:=1)only[zE];constructor)):p:=h
theorem zq159(h:p:=by
 have rs1:=Row.new w #[.slice A s.length cap] 24
 have b1:Below w.heap.size w (w.alloc (.cells #[.slice A s.length cap] 24)):=bE
 all_goals(apply_rules(newGoals:= .nonDependentOnly)(maxDepth:=1)only[zE];constructor)):p:=h
theorem zq160(h:p:=by
 have hl':((l.length:Int) !=(m.length:Int))=false:=by rw[bne_eq_false_iff_eq];omega
 have HL:=Lib.hid hl
 have hle1:l.length≤m.length:=by omega
 clear hl
 all_goals(apply_rules(newGoals:= .nonDependentOnly)(maxDepth:=1)only[zE];constructor)):p:=h
theorem zq162(h:p:=by
 go_upto_region 1 with (fail)
 generalize w.alloc (.cells ftC0 31)=W1 at*
 all_goals(apply_rules(newGoals:= .nonDependentOnly)(maxDepth:=1)only[zE];constructor)):p:=h
theorem zq163(h:p:=by
 rw[HACC.out] at ht5
 have HT5:=Lib.hid ht5
 have HU5:Hid (UpdM g w2 w5):=Upd.trans (Upd.drew HU4.out) hu5
 clear ht5 hu5 z0 z1 z2 z3 z4 z5 v0
 go_wp2_with fail
 go_roundw
 case rel=>exact ⟨k+1,by omega,by go_num,HT5.out,HU5.out⟩
 case measure=>first|(simp[intOf];omega)|simp[intOf]
 all_goals(apply_rules(newGoals:= .nonDependentOnly)(maxDepth:=1)only[zE];constructor)):p:=h
theorem zq164(h:p:=by
 obtain ⟨b,off,n,a,rfl,hb,hn,hat,d0,d1,d2,d3,d4,d5,d6⟩:=(nds_keep HS.out (keeps_of (hbr.mono hs1)) (Nat.le_refl _)).nd hlt
 have HX:=Lib.hid hn
 all_goals(apply_rules(newGoals:= .nonDependentOnly)(maxDepth:=1)only[zE];constructor)):p:=h
theorem zq166(h:p:=by
 gi_wp2_with (refine ⟨trivial,?_⟩;gi_at_call 77;refine (all_in _ _ trivial rfl _ _ _ _).mono ?_;rintro r w' ⟨rfl,rfl⟩)
 all_goals(apply_rules(newGoals:= .nonDependentOnly)(maxDepth:=1)only[zE];constructor)):p:=h
theorem zq167(h:p:=by
 go_upto_region 1 with (fail)
 change Code.wp _ _ _ _ (w.alloc (.cells exZ6 79))
 generalize w.alloc (.cells exZ6 79)=W1 at*
 all_goals(apply_rules(newGoals:= .nonDependentOnly)(maxDepth:=1)only[zE];constructor)):p:=h
theorem zq168(h:p:=by
 obtain ⟨b3,off3,y,A3,cap3,hA3,hb3,hyk,hym,hok',hcap',hmax',hy',y0,y1,y2,y3,y4,y5⟩:=(HX.out wr hB6).at_ hlt
 rw[hA3] at x3
 obtain ⟨lk,hlk⟩:∃lk,l[k]? =some lk:=⟨_,List.getElem?_eq_getElem (by rw[HLL.out];exact hlt)⟩
 have q0:=(HQ5.out.bel hbr2).2.2 k lk hlk
 all_goals(apply_rules(newGoals:= .nonDependentOnly)(maxDepth:=1)only[zE];constructor)):p:=h
theorem zq169(h:p:=by
 go_wp2_with fail
 refine HR.out.mono ?_
 rintro r w2 ⟨⟨x,A',cap',rfl,hx1,hx2⟩,hb2⟩
 rw[HB.out]
 all_goals(apply_rules(newGoals:= .nonDependentOnly)(maxDepth:=1)only[zE];constructor)):p:=h
theorem zq170(h:p:=by
 refine' zq56
 have rf:=rf4.below hbr rf4.lt
 have rs:=rs4.below hbr rs4.lt
 have c0:=rs.src
 have hB:=hB4.trans (hbr.mono hs4)
 have hsB:=hB.size
 all_goals(apply_rules(newGoals:= .nonDependentOnly)(maxDepth:=1)only[zE];constructor)):p:=h
theorem zq171(h:p:=by
 go_wp2_with fail
 go_roundw
 case rel=>exact ⟨k+1,_,by omega,by go_num,rfl,hown7,hb6⟩
 case measure=>first|(simp[intOf];omega)|simp[intOf]
 all_goals(apply_rules(newGoals:= .nonDependentOnly)(maxDepth:=1)only[zE];constructor)):p:=h
theorem zq172(h:p:=by
 have r1:=Row.new w (ndArr n a) 39
 have b1:Below w.heap.size w (w.alloc (.cells (ndArr n a) 39)):=bE
 have HQ:=Lib.hid (h.below b1).sq
 have hq2:=h.mq
 have hq1:=h.lq
 have hq2':a.cq≤9223372036854775807:=by unfold maxLen at hq2;omega
 clear h
 all_goals(apply_rules(newGoals:= .nonDependentOnly)(maxDepth:=1)only[zE];constructor)):p:=h
theorem zq173(h:p:=by
 rw[HU.out] at HS
 go_wp2_with (first|(go_at_call 262;refine Calls.mono (keys_all _ _) ?_;rintro e w5 ⟨rfl,rfl⟩)|(go_at_call 261;refine Calls.mono HS.out ?_;rintro e w9 ⟨v,rfl,hS,hb9⟩))
 go_ret
 all_goals(apply_rules(newGoals:= .nonDependentOnly)(maxDepth:=1)only[zE];constructor)):p:=h
theorem zq175(h:p:=by
 refine hKK.out _ _ ?_ (fun hHeld=>?_)
 ·(try dsimp only);(first|(with_reducible exact HK.out _ bE)|exact hHeld)
 clear hKK KK
 refine' zq6
 all_goals(apply_rules(newGoals:= .nonDependentOnly)(maxDepth:=1)only[zE];constructor)):p:=h
theorem zq176(h:p:=by
 have HF:=Lib.hid (cB_false (fun g:l=m=>hl (by rw[g])))
 have hl':((l.length:Int) !=(m.length:Int))=true:=by rw[bne_iff_ne];omega
 clear hl
 all_goals(apply_rules(newGoals:= .nonDependentOnly)(maxDepth:=1)only[zE];constructor)):p:=h
theorem zq177(h:p:=by
 intro r hr
 rw[←List.map_take] at hr
 obtain ⟨y,hy,rfl⟩:=List.mem_map.1 hr
 obtain ⟨j,hj⟩:=List.getElem?_of_mem hy
 have hjk:j<k:=by have:=(List.getElem?_eq_some_iff.1 hj).1;simp at this;omega
 rw[List.getElem?_take_of_lt hjk] at hj
 simp[h j hjk y hj]
 all_goals(apply_rules(newGoals:= .nonDependentOnly)(maxDepth:=1)only[zE];constructor)):p:=h
theorem zq179(h:p:=by
 obtain rfl:k=l.length:=by omega
 have hown7:IntsO w.heap.size wr v (tysOf l):=by
  have e:(tysOf l).length=l.length:=by simp[tysOf]
  rw[List.take_length] at hown
  unfold IntsO
  rw[e]
  exact hown
 go_wp2_with fail
 go_ret
 exact ⟨⟨_,rfl,hown7⟩,hbr⟩
 all_goals(apply_rules(newGoals:= .nonDependentOnly)(maxDepth:=1)only[zE];constructor)):p:=h
theorem zq180(h:p:=by
 obtain ⟨h1,h2⟩:=List.getElem?_eq_some_iff.1 h
 all_goals(apply_rules(newGoals:= .nonDependentOnly)(maxDepth:=1)only[zE];constructor)):p:=h
theorem zq181(h:p:=by
 have rf9:=rf9.below q9 rf9.lt
 have b9:=Below.trans hB9 (q9.mono (Below.size hB9))
 refine' zq5
 all_goals(apply_rules(newGoals:= .nonDependentOnly)(maxDepth:=1)only[zE];constructor)):p:=h
theorem zq182(h:p:=by
 have gi':a.ci≤9223372036854775807:=by unfold maxLen at gi;omega
 have go':a.co≤9223372036854775807:=by unfold maxLen at go;omega
 all_goals(apply_rules(newGoals:= .nonDependentOnly)(maxDepth:=1)only[zE];constructor)):p:=h
theorem zq183(h:p:=by
 have o24:(e.op==24)=false:=eq_no (by omega)
 have o25:(e.op==25)=false:=eq_no (by omega)
 have o26:(e.op==26)=false:=eq_no (by omega)
 all_goals(apply_rules(newGoals:= .nonDependentOnly)(maxDepth:=1)only[zE];constructor)):p:=h
theorem zq185(h:p:=by
 have e1:=beq_no e
 have HN':=Lib.hid (step_upto (P:=fun x:Nd=>x.name≠nm) HN.out HX.out e)
 clear e
 go_wp2_with fail
 go_roundw
 case rel=>exact ⟨k+1,by omega,by go_num,HN',hbr.alloc hszr _⟩
 case measure=>first|(simp[intOf];omega)|simp[intOf]
 all_goals(apply_rules(newGoals:= .nonDependentOnly)(maxDepth:=1)only[zE];constructor)):p:=h
theorem zq187(h:p:=by
 have gq:=hat.mq
 have lq:=hat.lq
 have gq':a.cq≤9223372036854775807:=by unfold maxLen at gq;omega
 have HQ:Hid (∀W,Below wr.heap.size wr W→Eqs W w.heap.size a.aq n.eqs):=fun W hW=>eqs_keep hat.sq (keeps_of (hW.mono hsB)) (Nat.le_refl _)
 all_goals(apply_rules(newGoals:= .nonDependentOnly)(maxDepth:=1)only[zE];constructor)):p:=h
theorem zq188(h:p:=by
 go_wp2_with fail
 exact bodyPost_ret (res1 rfl Tryz.underlying31 rfl (by kernel_rfl) rfl (rf3.set3 _ _ _)) rfl ⟨(congrArg (fun f=>Ending.returned (ftV f)) HF.out).symm,below_set3 hB3 (by first|omega|(simp;omega)|simp) _ _ _⟩
 all_goals(apply_rules(newGoals:= .nonDependentOnly)(maxDepth:=1)only[zE];constructor)):p:=h
theorem zq189(h:p:=by
 have m1':c1≤9223372036854775807:=by unfold maxLen at m1;omega
 have m2':c2≤9223372036854775807:=by unfold maxLen at m2;omega
 all_goals(apply_rules(newGoals:= .nonDependentOnly)(maxDepth:=1)only[zE];constructor)):p:=h
theorem zq190(h:p:=by
 refine' zq56
 have hB:=b1.trans (hbr.mono hs1)
 have rr:=r1.below hbr l1
 all_goals(apply_rules(newGoals:= .nonDependentOnly)(maxDepth:=1)only[zE];constructor)):p:=h
theorem zq193(h:p:=by
 have rn1:=Row.new w (ndArr n a) 39
 have b1:Below w.heap.size w (w.alloc (.cells (ndArr n a) 39)):=bE
 all_goals(apply_rules(newGoals:= .nonDependentOnly)(maxDepth:=1)only[zE];constructor)):p:=h
theorem zq195(h:p:=by
 obtain ⟨b,off,q,A1,k1,A2,k2,hA,hb,hq,ok,lq1,mq1,sl1,lq2,mq2,sl2,d0,d1,d2,d3,d4,d5,d6,d7,d8⟩:=(HN.out wr hB).sq.eqn hlt
 all_goals(apply_rules(newGoals:= .nonDependentOnly)(maxDepth:=1)only[zE];constructor)):p:=h
theorem zq196(h:p:=by
 refine' zq235
 have ho2:=hown.alloc (.cells (vrArr x A' cap') 89)
 have hsx:wr.heap.size+1≤(wr.alloc (.cells (vrArr x A' cap') 89)).heap.size:=by simp
 clear hA hxk ok hxs
 all_goals(apply_rules(newGoals:= .nonDependentOnly)(maxDepth:=1)only[zE];constructor)):p:=h
theorem zq198(h:p:=by
 go_wp2_with fail
 refine HN.out.mono ?_
 rintro r w5 ⟨rfl,ht5,hu5⟩
 all_goals(apply_rules(newGoals:= .nonDependentOnly)(maxDepth:=1)only[zE];constructor)):p:=h
theorem zq199(h:p:=by
 (try dsimp only);(first|(with_reducible exact rn8.nd)|(with_reducible exact HK.out _ bE)|exact hHeld|assumption|trivial)
 all_goals(apply_rules(newGoals:= .nonDependentOnly)(maxDepth:=1)only[zE];constructor)):p:=h
theorem zq200(h:p:=by
 obtain ⟨i,hi⟩:=List.getElem?_of_mem hcs
 have hl:i<l.length:=by rw[←h.1];exact (List.getElem?_eq_some_iff.1 hi).1
 all_goals(apply_rules(newGoals:= .nonDependentOnly)(maxDepth:=1)only[zE];constructor)):p:=h
theorem zq201(h:p:=by
 exact rexpr_a s A cap n a h1 h2 hl e HI (by omega) A2 cap2 w hs hn hok hl2 hm2 hx hk
 all_goals(apply_rules(newGoals:= .nonDependentOnly)(maxDepth:=1)only[zE];constructor)):p:=h
theorem zq203(h:p:=by
 have HS:=Lib.hid h
 have hl3:cap≤9223372036854775807:=by unfold maxLen at h2;omega
 all_goals(apply_rules(newGoals:= .nonDependentOnly)(maxDepth:=1)only[zE];constructor)):p:=h
theorem zq204(h:p:=by
 have b1:Below w.heap.size w ((w.alloc (.cells #[.slice none 0 0] 24)).alloc (.cells ftC0 31)):=bE
 have r1:=(Row.new w #[.slice none 0 0] 24).alloc (.cells ftC0 31)
 all_goals(apply_rules(newGoals:= .nonDependentOnly)(maxDepth:=1)only[zE];constructor)):p:=h
theorem zq205(h:p:=by
 have g2':cap'≤9223372036854775807:=by unfold maxLen at g2;omega
 all_goals(apply_rules(newGoals:= .nonDependentOnly)(maxDepth:=1)only[zE];constructor)):p:=h
theorem zq206(h:p:=by
 obtain ⟨i0,hi0,hz0,hz1,hz2⟩:=info_parts info_int
 have HV:Hid (∀W,Below w.heap.size w W→Sl W w.heap.size 5 (isVr W w.heap.size) A l):=fun W hW=>vrs_keep h (keeps_of hW) (Nat.le_refl _)
 refine' zq30
 clear h
 all_goals(apply_rules(newGoals:= .nonDependentOnly)(maxDepth:=1)only[zE];constructor)):p:=h
theorem zq207(h:p:=by
 have i0:(0:Int)≤(k:Int):=by omega
 have i1:(k:Int)<(e.args.length:Int):=by omega
 all_goals(apply_rules(newGoals:= .nonDependentOnly)(maxDepth:=1)only[zE];constructor)):p:=h
theorem zq210(h:p:=by
 obtain ⟨k,hk,rfl,HJ,hbr⟩:=hrel
 have hszr:=hbr.size
 all_goals(apply_rules(newGoals:= .nonDependentOnly)(maxDepth:=1)only[zE];constructor)):p:=h
theorem zq212(h:p:=by
 go_wp2_with fail
 refine HT.out.mono ?_
 rintro r w2 ⟨rfl,h2⟩
 all_goals(apply_rules(newGoals:= .nonDependentOnly)(maxDepth:=1)only[zE];constructor)):p:=h
theorem zq213(h:p:=by
 have HFn:Hid ((onsQ q).err≠0→onsF s=onsQ q):=fun g=>by
  have e1:onsN k n=onsQ q:=fstL_stop (f:=fun _ q=>onsQ q) HP.out HXQ.out g
  rw[HF1.out,fstL_stop (f:=onsN) HN.out HX.out (by rw[e1];exact g),e1]
 all_goals(apply_rules(newGoals:= .nonDependentOnly)(maxDepth:=1)only[zE];constructor)):p:=h
theorem zq214(h:p:=by
 have g3:cap≤9223372036854775807:=by unfold maxLen at h2;omega
 all_goals(apply_rules(newGoals:= .nonDependentOnly)(maxDepth:=1)only[zE];constructor)):p:=h
theorem zq215(h:p:=by
 clear hP
 go_wp2_with fail
 refine HR.out.mono ?_
 rintro r w5 ⟨⟨m,am,rfl,hm1,hm0⟩,hb5⟩
 rw[HC.out]
 have rf5:=rf.below hb5 rf.lt
 have hB5:=hB.trans (hb5.mono hsB)
 have hsB5:=hB5.size
 have hl5:=rf5.lt
 all_goals(apply_rules(newGoals:= .nonDependentOnly)(maxDepth:=1)only[zE];constructor)):p:=h
theorem zq216(h:p:=by
 have e1:(l0 !=l1)=false:=neq_no heq
 have HF:Hid (tyF s n e=ft0):=by show _=_;rw[HE.out,HD.out,eq_beq heq];rfl
 all_goals(apply_rules(newGoals:= .nonDependentOnly)(maxDepth:=1)only[zE];constructor)):p:=h
theorem zq217(h:p:=by
 have hB3:=hB2.trans (hb3.mono hs2)
 have hs3:=hB3.size
 all_goals(apply_rules(newGoals:= .nonDependentOnly)(maxDepth:=1)only[zE];constructor)):p:=h
theorem zq218(h:p:=by
 have HS:Hid (∀W,Below w.heap.size w W→Nds W W.heap.size A s):=fun W hW=>nds_keep h (keeps_of hW) hW.size
 all_goals(apply_rules(newGoals:= .nonDependentOnly)(maxDepth:=1)only[zE];constructor)):p:=h
theorem zq219(h:p:=by
 obtain ⟨i0,hi0,hz⟩:=Option.map_eq_some_iff.1 info_str
 injection hz with hz0 hz
 injection hz with hz1 hz2
 all_goals(apply_rules(newGoals:= .nonDependentOnly)(maxDepth:=1)only[zE];constructor)):p:=h
theorem zq221(h:p:=by
 have b1:Below w.heap.size w (w.alloc (.cells exZ6 79)):=bE
 have rZ:=Row.new w exZ6 79
 all_goals(apply_rules(newGoals:= .nonDependentOnly)(maxDepth:=1)only[zE];constructor)):p:=h
theorem zq222(h:p:=by
 have hk:Keeps w.heap.size (hide lo w) (hide lo' w'):=fun p u hp hc=>hide_more hl w.heap.size w' p u hp (keeps_of (hu.bhide (hi:=w.heap.size) (fun k hk=>Or.inl (hX k hk)) (Nat.le_refl _)) p u hp hc)
 all_goals(apply_rules(newGoals:= .nonDependentOnly)(maxDepth:=1)only[zE];constructor)):p:=h
theorem zq223(h:p:=by
 have HF:=Lib.hid (HE.out.trans (plainK_go hk2 h1 h2))
 have HG:Hid ((K= -1∧1≤e.args.length∧e.args.length≤8)∨(0≤K∧(e.args.length:Int)=K)):=by
  show _∨_
  omega
 clear hK HE hk2 h1 h2
 all_goals(apply_rules(newGoals:= .nonDependentOnly)(maxDepth:=1)only[zE];constructor)):p:=h
theorem zq224(h:p:=by
 refine' zq44
 have rf9:=rf3.below q9 rf3.lt
 have b9:=Below.trans hB3 (q9.mono (Below.size hB3))
 refine' zq5
 all_goals(apply_rules(newGoals:= .nonDependentOnly)(maxDepth:=1)only[zE];constructor)):p:=h
theorem zq225(h:p:=by
 have HO:Hid (∀(nm:ByteArray) W,Below w.heap.size w W→Calls Tryz.prog 205 #[ndV n a,.string nm] W (OfRes n nm W)):=fun nm W hW=>of_any n a nm W ((hn.below hW).more hW.size) sm
 all_goals(apply_rules(newGoals:= .nonDependentOnly)(maxDepth:=1)only[zE];constructor)):p:=h
theorem zq226(h:p:=by
 refine' zq86
 have q9:Below w4.heap.size w4 w9:=Below.trans bE (hb9.mono lE)
 have rf9:=rf4.below q9 rf4.lt
 all_goals(apply_rules(newGoals:= .nonDependentOnly)(maxDepth:=1)only[zE];constructor)):p:=h
theorem zq227(h:p:=by
 have HN:Hid (∀W,Keeps w.heap.size w W→NdAt W w.heap.size n a):=fun W hW=>hn.keep hW (Nat.le_refl _)
 have HL:=Lib.hid (show (vrs n).length≤10000 by have:=sm.len;omega)
 have HSM:=Lib.hid sm
 all_goals(apply_rules(newGoals:= .nonDependentOnly)(maxDepth:=1)only[zE];constructor)):p:=h
theorem zq228(h:p:=by
 obtain rfl:m=q.left.length:=by omega
 have e:cauQF n p q=ft0:=fstL_end HM.out
 have HP':=Lib.hid (step_uptoI (P:=fun j x=>(cauQF n j x).err=0) HP.out HQX.out (by rw[e]))
 clear e
 go_wp2_with fail
 all_goals(apply_rules(newGoals:= .nonDependentOnly)(maxDepth:=1)only[zE];constructor)):p:=h
theorem zq229(h:p:=by
 subst hm
 have rf1:=rowNew2 w (.cells #[.slice A s.length cap] 24) ndZ 39
 have rs1:=(Row.new w #[.slice A s.length cap] 24).alloc (.cells ndZ 39)
 all_goals(apply_rules(newGoals:= .nonDependentOnly)(maxDepth:=1)only[zE];constructor)):p:=h
theorem zq232(h:p:=by
 refine' zq24
 obtain ⟨c0,c1,cc2,c3,c4,c5,c6⟩:=rn5.nd
 obtain ⟨ty,HTY⟩:∃ty,Hid (tyOf n e.name=ty):=⟨_,rfl⟩
 have HNW:=Lib.hid (HNM.out w5 hB5)
 rw[HTY.out] at HNW
 rw[HTY.out] at HO
 all_goals(apply_rules(newGoals:= .nonDependentOnly)(maxDepth:=1)only[zE];constructor)):p:=h
theorem zq233(h:p:=by
 have HS:=Lib.hid (nds_keep h (keeps_of b1) (Nat.le_refl _))
 all_goals(apply_rules(newGoals:= .nonDependentOnly)(maxDepth:=1)only[zE];constructor)):p:=h
theorem zq234(h:p:=by
 have rn1:=Row.new w (ndArr n a) 39
 refine' zq45
 have HS:Hid (∀W,Below w.heap.size w W→Sl W w.heap.size 2 isLit A clock):=fun W hW=>lits_keep h (keeps_of hW) (Nat.le_refl _)
 all_goals(apply_rules(newGoals:= .nonDependentOnly)(maxDepth:=1)only[zE];constructor)):p:=h
theorem zq236(h:p:=by
 refine' zq61
 have b1:Below w.heap.size w (((w.alloc (.cells #[.slice A s.length cap] 24)).alloc (.cells (ndArr n a) 39)).alloc (.cells ftC0 31)):=bE
 all_goals(apply_rules(newGoals:= .nonDependentOnly)(maxDepth:=1)only[zE];constructor)):p:=h
theorem zq237(h:p:=by
 have HSQ:=Lib.hid (HSM.out.eq q (List.mem_of_getElem? hq)).right
 rw[hA] at c4
 have i0:(0:Int)≤(i:Int):=by omega
 have i1:(i:Int)<(n.eqs.length:Int):=by omega
 have hsz:=HSQ.out.size
 all_goals(apply_rules(newGoals:= .nonDependentOnly)(maxDepth:=1)only[zE];constructor)):p:=h
theorem zq238(h:p:=by
 rw[hv] at hv'
 injection hv' with hA _ _
 refine ⟨g,0,hA,(h.lt g (by rw[hv,hA];rfl)).2,fun i x hi=>?_⟩
 have hil:i<css.length:=by rw[hx.1];exact (List.getElem?_eq_some_iff.1 hi).1
 all_goals(apply_rules(newGoals:= .nonDependentOnly)(maxDepth:=1)only[zE];constructor)):p:=h
theorem zq239(h:p:=by
 have HT:=Lib.hid ht
 have HU:=Lib.hid hu
 have hsr:=hu.size
 all_goals(apply_rules(newGoals:= .nonDependentOnly)(maxDepth:=1)only[zE];constructor)):p:=h
theorem zq240(h:p:=by
 obtain ⟨b,off,x,A',cap',hA,hb,hx,ok,g1,g2,hxs,d0,d1,d2,d3,d4⟩:=HSR.out.vr hlt
 subst hA
 have HXK:=Lib.hid hx
 have HXV:Hid ((vrs n)[k]? =some x):=by show _=_;rw[HLL.out];exact hx
 all_goals(apply_rules(newGoals:= .nonDependentOnly)(maxDepth:=1)only[zE];constructor)):p:=h
theorem zq241(h:p:=by
 obtain rfl:k=l.length:=by omega
 have HF:=Lib.hid (show varIdx n nm= -1 by rw[HV.out];exact idx_none (by rw[List.length_map];exact map_upto (P:=(·≠nm)) HN.out))
 go_wp2_with fail
 all_goals(apply_rules(newGoals:= .nonDependentOnly)(maxDepth:=1)only[zE];constructor)):p:=h
theorem zq242(h:p:=by
 clear hm hP
 generalize nodeIdx s mainNm=v at*
 go_wp2_with fail
 refine HR.out.mono ?_
 rintro r w5 ⟨rfl,hb5⟩
 have rf5:=rf4.below hb5 rf4.lt
 have hB5:=hB4.trans (hb5.mono hsB4)
 all_goals(apply_rules(newGoals:= .nonDependentOnly)(maxDepth:=1)only[zE];constructor)):p:=h
theorem zq244(h:p:=by
 go_wp2_with fail
 go_ret
 exact HFIN.out _ _ (by rw[HO.out.1];exact HT2.out) HU2.out HO.out.2.symm
 all_goals(apply_rules(newGoals:= .nonDependentOnly)(maxDepth:=1)only[zE];constructor)):p:=h
theorem zq245(h:p:=by
 have HSA:Hid ((sameArgs e.op e l)[k]? =some (needF (si==0||lk==si) y.line y.col)):=by
  show _=_
  unfold sameArgs
  rw[List.getElem?_mapIdx,hyk,HSI.out]
  simp[List.getD,hlk]
 all_goals(apply_rules(newGoals:= .nonDependentOnly)(maxDepth:=1)only[zE];constructor)):p:=h
theorem zq246(h:p:=by
 have HT:=Lib.hid (catTo_succ hg)
 have h4:(catTo ss k).length+ss[k].l.length≤10000:=by
  have h1:=HC.out (k+1)
  have h2:=HL.out
  rw[HT.out,List.length_append] at h1
  omega
 all_goals(apply_rules(newGoals:= .nonDependentOnly)(maxDepth:=1)only[zE];constructor)):p:=h
theorem zq248(h:p:=by
 have HI:=Lib.hid HI
 go_wp2_with fail
 refine HI.out.mono ?_
 rintro r w9 ⟨rfl,hb9⟩
 have rE9:=rE8.below hb9 (by omega)
 have rZ9:=rZ8.below hb9 (by omega)
 have hs9:=hb9.size
 all_goals(apply_rules(newGoals:= .nonDependentOnly)(maxDepth:=1)only[zE];constructor)):p:=h
theorem zq249(h:p:=by
 have hfl1:(fl.err !=0)=true:=neq_yes hfl
 have HF:Hid (onsF s=ftOf fl):=by
  have e:=onsQ_1 HLT.out hfl
  exact (HFn.out (by rw[e];exact hfl)).trans e
 clear hfl
 refine' zq51
 all_goals(apply_rules(newGoals:= .nonDependentOnly)(maxDepth:=1)only[zE];constructor)):p:=h
theorem zq250(h:p:=by
 rintro e w2 ⟨rfl,hb2⟩
 have b2:=(hbr.trans (ba.mono hszr)).trans (hb2.mono (by simp;omega))
 all_goals(apply_rules(newGoals:= .nonDependentOnly)(maxDepth:=1)only[zE];constructor)):p:=h
theorem zq251(h:p:=by
 have h6:=(Lit.int.inj (DataW.lit.inj ha)).2
 rw[←h6] at hr
 exact hr
 all_goals(apply_rules(newGoals:= .nonDependentOnly)(maxDepth:=1)only[zE];constructor)):p:=h
theorem zq252(h:p:=by
 go_enter Tryz.func174,Tryz.ntmps174
 go_wp2
 all_goals(apply_rules(newGoals:= .nonDependentOnly)(maxDepth:=1)only[zE];constructor)):p:=h
theorem zq253(h:p:=by
 obtain ⟨⟨j0,j1,j2⟩,g0,g1,g2⟩:=rf5.three
 all_goals(apply_rules(newGoals:= .nonDependentOnly)(maxDepth:=1)only[zE];constructor)):p:=h
theorem zq254(h:p:=by
 clear d0 d1 d2 d3 d4
 generalize hW5:wr.alloc (.cells (vrArr x A' cap') 89)=w5 at*
 clear hW5
 obtain ⟨z0,z1,z2,z3,z4⟩:=rx.vr
 have hb5:=hbr.trans (bx.mono hszr)
 all_goals(apply_rules(newGoals:= .nonDependentOnly)(maxDepth:=1)only[zE];constructor)):p:=h
theorem zq256(h:p:=by
 have hol:=h0.lt
 have u6:=upd_six w1 Z (.int .i64 e.op) (.string e.name) (.int .i64 e.n) (.slice A e.args.length cap) (.int .i64 e.line) (.int .i64 e.col)
 have hs6:=u6.size
 all_goals(apply_rules(newGoals:= .nonDependentOnly)(maxDepth:=1)only[zE];constructor)):p:=h
theorem zq257(h:p:=by
 have key:0≤partsZ e.op→(e.args.length:Int)=partsZ e.op:=fun h0=>Classical.byContradiction fun hne=>by
  unfold plainB at h
  rw[plainK_no2 ⟨h0,hne⟩] at h
  cases h
 all_goals(apply_rules(newGoals:= .nonDependentOnly)(maxDepth:=1)only[zE];constructor)):p:=h
theorem zq258(h:p:=by
 obtain rfl:p=x.clock.length:=by omega
 have HJ':=Lib.hid (step_uptoI (P:=fun j x=>(clkF n j x).err=0) HJ.out HXK.out (by unfold clkF;rw[fstL_end HQ.out]))
 go_wp2_with fail
 all_goals(apply_rules(newGoals:= .nonDependentOnly)(maxDepth:=1)only[zE];constructor)):p:=h
theorem zq260(h:p:=by
 have b5:=b1.trans ((hb2.trans (b4.mono hs2)).mono hs1)
 have rZ4:=rZ.below (hb2.trans (b4.mono hs2)) hlZ
 have H4:=Lib.hid (H0.out.bel b5)
 have hs4:=b4.size
 have hlE:=rE.lt
 all_goals(apply_rules(newGoals:= .nonDependentOnly)(maxDepth:=1)only[zE];constructor)):p:=h
theorem zq261(h:p:=by
 have ba:Below wr.heap.size wr (wr.alloc (.cells (eqArr q A1 k1 A2 k2) 81)):=bE
 all_goals(apply_rules(newGoals:= .nonDependentOnly)(maxDepth:=1)only[zE];constructor)):p:=h
theorem zq262(h:p:=by
 (try go_wp2_with fail)
 refine hKK.out _ _ ?_ (fun hHeld=>?_)
 ·(try dsimp only);(first|exact kk|go_keep)
 clear hKK KK
 refine' zq6
 refine wpAnyH_done (by kernel_rfl) ?_ _
 all_goals(apply_rules(newGoals:= .nonDependentOnly)(maxDepth:=1)only[zE];constructor)):p:=h
theorem zq263(h:p:=by
 have hmq':a.cq≤9223372036854775807:=by unfold maxLen at hmq;omega
 all_goals(apply_rules(newGoals:= .nonDependentOnly)(maxDepth:=1)only[zE];constructor)):p:=h
theorem zq264(h:p:=by
 have e1:=beq_yes e
 have HF:=Lib.hid (show varIdx n nm=k by rw[HV.out];exact idx_at (map_upto (P:=(·≠nm)) HN.out) (by rw[map_get _ HX.out,e]))
 clear e
 go_wp2_with fail
 all_goals(apply_rules(newGoals:= .nonDependentOnly)(maxDepth:=1)only[zE];constructor)):p:=h
end Go.Proofs.YtgjfkidbfmbjoaaGreat
