/-
  What is wrong first in an equation's expression: the contract of scope.right. The names of nodes: the contract of scope.names. Where a name is defined: the contracts of Define. What is wrong first with a source's names, by the document: the contract of tompionref15.Check. What is wrong first with a source's names: the contracts of scope.first, equations and Check. What is wrong first with a node's equations: the contract of scope.equations.
-/
import Derived.Test.YtdkgkacnjdnpoaaGreatZz
import Derived.Test.YtdkgkacnjdnpoaaGreatScH
import Derived.Test.YtdkgkacnjdnpoaaGreatTreeRight
import Derived.Test.YtdkgkacnjdnpoaaGreatMet
import Derived.Deep.RegionHeld3
import Derived.Deep.DeepCutAuto
import Derived.Test.YtdkgkacnjdnpoaaGreatScG
import Derived.Laws.EntriesVeiled
set_option maxHeartbeats 4000000
set_option maxRecDepth 100000
namespace Go.Proofs.YtdkgkacnjdnpoaaGreat
open Go.RowKit Go.Shelf
attribute [local go_sem] Oper.semAt_some
def outsOf (outs:Int) (l:List ExN):Int:=match l with
 | []=>outs
 |_=>1
theorem outsOf_snoc (outs:Int) (l:List ExN) (x:ExN):outsOf outs (l++ [x])=1:=by cases l<;>rfl
theorem stepF_len (s:List Nd) (n:Nd) (outs:Int) (l:List ExN) (e:Ex):stepF s n outs l.length e=oneF s n (outsOf outs l) e:=by
 unfold stepF outsOf
 cases l<;>simp
def StepsOk (s:List Nd) (n:Nd) (outs:Int) (l:List ExN):Prop:=∀(i:Nat) x,(l.map ExN.ex)[i]? =some x→(stepF s n outs i x).err=0
theorem StepsOk.snoc {s:List Nd} {n:Nd} {outs:Int} {l:List ExN} {x:ExN} (h:StepsOk s n outs l) (hx:(oneF s n (outsOf outs l) x.ex).err=0):StepsOk s n outs (l++ [x]):=fun i y hy=>by
 rw[List.map_append] at hy
 rcases Nat.lt_or_ge i (l.map ExN.ex).length with hi|hi
 ·rw[List.getElem?_append_left hi] at hy
  exact h i y hy
 ·rw[List.getElem?_append_right hi] at hy
  have hl:i=l.length:=by
   have:=(List.getElem?_eq_some_iff.1 hy).1
   simp at this hi
   omega
  subst hl
  simp at hy
  subst hy
  rw[stepF_len];exact hx
theorem stop_expr {s:List Nd} {n:Nd} {outs:Int} {e:Ex} {l:List ExN} {x:ExN} (h:StepsOk s n outs l) (hp:(l++ [x]).map ExN.ex<+:exList e) (hx:(oneF s n (outsOf outs l) x.ex).err≠0):exprF s n outs e=oneF s n (outsOf outs l) x.ex:=by
 rw[←exprF_list,←stepF_len]
 obtain ⟨r,hr⟩:=hp
 have hget:∀i,i<l.length+1→(exList e)[i]? =((l++ [x]).map ExN.ex)[i]? :=fun i hi=>by rw[←hr,List.getElem?_append_left (by simpa using hi)]
 refine fstL_stop (f:=stepF s n outs) (k:=l.length) (fun j hj y hy=>?_) ?_ ?_
 ·rw[hget j (by omega),List.map_append,List.getElem?_append_left (by simpa using hj)] at hy
  exact h j y hy
 ·rw[hget _ (by omega),List.map_append,List.getElem?_append_right (by simp)]
  simp
 ·rw[stepF_len];exact hx
theorem keepC_set {X:Nat→Prop} {W:World} {p:Addr} (hp:X p.block) (u:Value):KeepC X W (W.setCell p u):=
 ⟨by simp[World.setCell],fun b _ _ _ hX hb=>(Below.heap_setCell W p u b (fun e=>hX (e▸hp))).trans hb⟩
theorem right_scope (s:List Nd) (A:Option Addr) (cap:Nat) (n:Nd) (a:NdA) (q:Eqn) (A1:Option Addr) (k1:Nat) (A2:Option Addr) (k2:Nat) (w:World) (h1:s.length≤cap) (h2:cap≤maxLen) (hl:(vrs n).length≤10000) (ok:ExOk q.right) (hk2:q.right.args.length≤k2) (hm2:k2≤maxLen)
  (hs:Nds w w.heap.size A s) (hn:NdAt w w.heap.size n a) (hx:IsExs w w.heap.size A2 q.right.args):
  Calls Tryz.prog 141 #[srcV s A cap,ndV n a,eqV q A1 k1 A2 k2] w fun r w'=>r= .returned (ftV (exprF s n q.left.length q.right))∧Below w.heap.size w w':=by
 refine (callsIn_wide (n:=9)).1 ?_
 have HS:Hid (∀W,Below w.heap.size w W→Nds W W.heap.size A s):=fun W hW=>nds_keep hs (keeps_of hW) hW.size
 have HN:Hid (∀W,Below w.heap.size w W→NdAt W W.heap.size n a):=fun W hW=>hn.keep (keeps_of hW) hW.size
 have HL:=Lib.hid hl
 have rs0:=((((Row.new w #[.slice A s.length cap] 24).alloc (.cells (ndArr n a) 58)).alloc (.cells (eqArr q A1 k1 A2 k2) 65)).alloc (.cells ftC0 38)).alloc (.cells #[.int .i64 (q.left.length:Int)] 3)
 have rn0:=(((rowNew2 w (.cells #[.slice A s.length cap] 24) (ndArr n a) 58).alloc (.cells (eqArr q A1 k1 A2 k2) 65)).alloc (.cells ftC0 38)).alloc (.cells #[.int .i64 (q.left.length:Int)] 3)
 have rq0:=((rowNew3 w (.cells #[.slice A s.length cap] 24) (.cells (ndArr n a) 58) (eqArr q A1 k1 A2 k2) 65).alloc (.cells ftC0 38)).alloc (.cells #[.int .i64 (q.left.length:Int)] 3)
 have rf0:=(rowNewD w (.cells #[.slice A s.length cap] 24) (.cells (ndArr n a) 58) (.cells (eqArr q A1 k1 A2 k2) 65) ftC0 38).alloc (.cells #[.int .i64 (q.left.length:Int)] 3)
 refine callsIn_of_wp_marks Tryz.func141 rfl trivial ?_ rfl
 simp only[Tryz.ntmps141,List.size_toArray,List.length_cons,List.length_nil,Nat.reduceAdd,Nat.reduceSub,Array.replicate_succ,Array.replicate_zero,List.push_toArray,List.append_toArray,List.nil_append,List.cons_append]
 refine' zq58
 have rs1:=rs0.alloc (.cells #[.int .i64 q.right.op,.string q.right.name,.int .i64 q.right.n,.slice A2 q.right.args.length k2,.int .i64 q.right.line,.int .i64 q.right.col] 63)
 have rn1:=rn0.alloc (.cells #[.int .i64 q.right.op,.string q.right.name,.int .i64 q.right.n,.slice A2 q.right.args.length k2,.int .i64 q.right.line,.int .i64 q.right.col] 63)
 have rf1:=rf0.alloc (.cells #[.int .i64 q.right.op,.string q.right.name,.int .i64 q.right.n,.slice A2 q.right.args.length k2,.int .i64 q.right.line,.int .i64 q.right.col] 63)
 have ro1:Row ((((((w.alloc (.cells #[.slice A s.length cap] 24)).alloc (.cells (ndArr n a) 58)).alloc (.cells (eqArr q A1 k1 A2 k2) 65)).alloc (.cells ftC0 38)).alloc (.cells #[.int .i64 (q.left.length:Int)] 3)).alloc (.cells #[.int .i64 q.right.op,.string q.right.name,.int .i64 q.right.n,.slice A2 q.right.args.length k2,.int .i64 q.right.line,.int .i64 q.right.col] 63)) (w.heap.size+4) #[.int .i64 (q.left.length:Int)] 3:=by
  have h:=(Row.new ((((w.alloc (.cells #[.slice A s.length cap] 24)).alloc (.cells (ndArr n a) 58)).alloc (.cells (eqArr q A1 k1 A2 k2) 65)).alloc (.cells ftC0 38)) #[.int .i64 (q.left.length:Int)] 3).alloc (.cells #[.int .i64 q.right.op,.string q.right.name,.int .i64 q.right.n,.slice A2 q.right.args.length k2,.int .i64 q.right.line,.int .i64 q.right.col] 63)
  rwa [World.size_alloc,World.size_alloc,World.size_alloc,World.size_alloc] at h
 have bA:Row ((((((w.alloc (.cells #[.slice A s.length cap] 24)).alloc (.cells (ndArr n a) 58)).alloc (.cells (eqArr q A1 k1 A2 k2) 65)).alloc (.cells ftC0 38)).alloc (.cells #[.int .i64 (q.left.length:Int)] 3)).alloc (.cells #[.int .i64 q.right.op,.string q.right.name,.int .i64 q.right.n,.slice A2 q.right.args.length k2,.int .i64 q.right.line,.int .i64 q.right.col] 63)) (w.heap.size+5) #[.int .i64 q.right.op,.string q.right.name,.int .i64 q.right.n,.slice A2 q.right.args.length k2,.int .i64 q.right.line,.int .i64 q.right.col] 63:=by
  have h:=Row.new (((((w.alloc (.cells #[.slice A s.length cap] 24)).alloc (.cells (ndArr n a) 58)).alloc (.cells (eqArr q A1 k1 A2 k2) 65)).alloc (.cells ftC0 38)).alloc (.cells #[.int .i64 (q.left.length:Int)] 3)) #[.int .i64 q.right.op,.string q.right.name,.int .i64 q.right.n,.slice A2 q.right.args.length k2,.int .i64 q.right.line,.int .i64 q.right.col] 63
  rwa [World.size_alloc,World.size_alloc,World.size_alloc,World.size_alloc,World.size_alloc] at h
 have hB0:Below w.heap.size w ((((((w.alloc (.cells #[.slice A s.length cap] 24)).alloc (.cells (ndArr n a) 58)).alloc (.cells (eqArr q A1 k1 A2 k2) 65)).alloc (.cells ftC0 38)).alloc (.cells #[.int .i64 (q.left.length:Int)] 3)).alloc (.cells #[.int .i64 q.right.op,.string q.right.name,.int .i64 q.right.n,.slice A2 q.right.args.length k2,.int .i64 q.right.line,.int .i64 q.right.col] 63)):=bE
 have hsz:((((((w.alloc (.cells #[.slice A s.length cap] 24)).alloc (.cells (ndArr n a) 58)).alloc (.cells (eqArr q A1 k1 A2 k2) 65)).alloc (.cells ftC0 38)).alloc (.cells #[.int .i64 (q.left.length:Int)] 3)).alloc (.cells #[.int .i64 q.right.op,.string q.right.name,.int .i64 q.right.n,.slice A2 q.right.args.length k2,.int .i64 q.right.line,.int .i64 q.right.col] 63)).heap.size=w.heap.size+6:=by simp
 obtain ⟨W0,hW0⟩:∃W0,((((((w.alloc (.cells #[.slice A s.length cap] 24)).alloc (.cells (ndArr n a) 58)).alloc (.cells (eqArr q A1 k1 A2 k2) 65)).alloc (.cells ftC0 38)).alloc (.cells #[.int .i64 (q.left.length:Int)] 3)).alloc (.cells #[.int .i64 q.right.op,.string q.right.name,.int .i64 q.right.n,.slice A2 q.right.args.length k2,.int .i64 q.right.line,.int .i64 q.right.col] 63))=W0:=⟨_,rfl⟩
 rw[hW0] at rs1 rn1 rf1 ro1 bA hB0 hsz⊢
 clear hW0 rs0 rn0 rq0 rf0
 refine wpIn_rangeFunc_ownH rfl (by decide) (gf:=71) (lb:= #[.pointer (some ⟨w.heap.size+1+1+1+1+1,0,none⟩)]) rfl trivial (enters_of Tryz.func71 (by kernel_rfl) rfl)
  (all_stops _ rfl _ trivial trivial rfl (w.heap.size+5) w.heap.size (fun b=>b=w.heap.size+4) q.right A2 k2 W0 (fun b h=>⟨by omega,by omega⟩) ok hk2 hm2 (by omega) (by omega) (fun j u hu=>by rw[bA.cell];simpa[exCells] using hu) (exs_keep hx (keeps_of hB0) (Nat.le_refl _)))
  (fun h k=>h.trans k) (fun W l o o' _ h ho _=>keepC_putObj W l o o' h ho) (Below.refl _ _) (fun _=>rfl)
  (fun pre W=>((Row W w.heap.size #[.slice A s.length cap] 24∧Row W (w.heap.size+1) (ndArr n a) 58∧Row W (w.heap.size+3) ftC0 38∧Row W (w.heap.size+4) #[.int .i64 (outsOf q.left.length pre)] 3)∧Hid (StepsOk s n q.left.length pre))∧Below w.heap.size w W)
  (fun c pre W=>(∃f:Ft,Row W (w.heap.size+3) (ftC f) 38∧Hid (c= .ret∧∃l x,pre=l++ [x]∧StepsOk s n q.left.length l∧f.err≠0∧oneF s n (outsOf q.left.length l) x.ex=f))∧Below w.heap.size w W)
  (OwnFrom.and (OwnFrom.and (OwnFrom.and (fun s X Y row hs hg hr=>hs.own hg (fun r e=>(hr r e).2)) (OwnFrom.and (fun s X Y row hs hg hr=>hs.own hg (fun r e=>(hr r e).2)) (OwnFrom.and (fun s X Y row hs hg hr=>hs.own hg (fun r e=>(hr r e).2)) (fun s X Y row hs hg hr=>hs.own hg (fun r e=>(hr r e).2))))) (ownFrom_pure _ _)) (ownFrom_below (Nat.le_refl _) (by omega)))
  (fun c=>OwnFrom.and (fun s X Y row hs hg hr=>by obtain ⟨f,h1,h2⟩:=hs;exact ⟨f,h1.own hg (fun r e=>(hr r e).2),h2⟩) (ownFrom_below (Nat.le_refl _) (by omega)))
  ⟨⟨⟨rs1,rn1,rf1,ro1⟩,fun i x h=>by simp at h⟩,hB0⟩
  (fun x a' W=>∃Bx,w.heap.size+4<Bx∧Row W Bx (exA x.ex x.A x.cap) 63∧a'={tmps:= #[srcV s A cap,ndV n a,eqV q A1 k1 A2 k2,.pointer (some ⟨w.heap.size,0,none⟩),.pointer (some ⟨w.heap.size+1,0,none⟩),.pointer (some ⟨w.heap.size+1+1,0,none⟩),.pointer (some ⟨w.heap.size+1+1+1,0,none⟩),.pointer (some ⟨w.heap.size+1+1+1+1,0,none⟩),.pointer (some ⟨Bx,0,none⟩),undef,.pointer (some ⟨w.heap.size+1+1,0,none⟩),.slice A1 q.left.length k1,.int .i64 (q.left.length:Int),.pointer (some ⟨w.heap.size+1+1,1,none⟩),exV q.right A2 k2,.func (.func 71) #[] #[.pointer (some ⟨w.heap.size+1+1+1+1+1,0,none⟩)],x.v,undef,undef,undef,undef,undef,undef,undef,undef,undef,undef],defers:=[]})
  (fun x a' _ X Y row hs hg hr=>by obtain ⟨Bx,h1,h2,h3⟩:=hs;exact ⟨Bx,h1,h2.own hg (fun r e=>(hr r e).2),h3⟩)
  ?assign ?body ?done ?stop
 case assign=>
  rintro l pre x W K ⟨⟨⟨r1,r2,r3,r4⟩,HP⟩,hB1⟩ hK
  gi_wp2
  exact hK _ _ ((KeepsOthers.alloc _ _).from _) (KeepC.alloc _ _ _) ⟨⟨⟨r1.alloc _,r2.alloc _,r3.alloc _,r4.alloc _⟩,HP⟩,hB1.alloc hB1.size _⟩ ⟨W.heap.size,r4.lt,Row.new W _ _,rfl⟩
 case body=>
  rintro l pre x a' W hl _ ⟨⟨⟨r1,r2,r3,r4⟩,HP⟩,hB1⟩ ⟨Bx,hBx,bX,rfl⟩ hlt
  have z0:=r1.src
  obtain ⟨c0,c1,cc2,c3,c4,c5,c6⟩:=r2.nd
  obtain ⟨x0,x1,x2,x3,x4,x5⟩:=bX.ex6
  have u0:W.cell? ⟨w.heap.size+4,0,none⟩=some (.int .i64 (outsOf q.left.length pre)):=(r4.cell 0).trans rfl
  have HR:=Lib.hid (one_any s A cap n a x.ex x.A x.cap (outsOf q.left.length pre) W h1 h2 HL.out x.max (HS.out W hB1) (HN.out W hB1))
  obtain ⟨f,HFX⟩:∃f,Hid (oneF s n (outsOf q.left.length pre) x.ex=f):=⟨_,rfl⟩
  rw[HFX.out] at HR
  have HOS:Hid (outsOf q.left.length (pre++ [x])=1):=outsOf_snoc _ _ _
  generalize hov:outsOf q.left.length pre=ov at*
  have HOV:=Lib.hid hov
  clear hov
  by_cases hf:f.err=0
  ·have hf1:(f.err !=0)=false:=neq_no hf
   have HP':Hid (StepsOk s n q.left.length (pre++ [x])):=HP.out.snoc (by rw[HOV.out,HFX.out];exact hf)
   clear hf
   gi_wp2_with (refine ⟨trivial,?_⟩;gi_at_call 179;refine (CallsIn.inRound l (callsIn_wide.2 HR.out)).mono ?_;rintro r W2 ⟨rfl,hb2⟩;have s1:=r1.below hb2 r1.lt;have s2:=r2.below hb2 r2.lt;have s3:=r3.below hb2 r3.lt;have s4:=r4.below hb2 r4.lt;have fo:=s4.frozen 0;have v0:W2.cell? ⟨w.heap.size+4,0,none⟩=some (.int .i64 ov):=(s4.cell 0).trans rfl;have hq4:=s4.lt;have hq4':w.heap.size+1+1+1+1<W2.heap.size:=hq4;have hB2:=hB1.trans (hb2.mono hB1.size);have hsB2:=hB2.size)
   have t4:Row (W2.setCell ⟨w.heap.size+4,0,none⟩ (.int .i64 1)) (w.heap.size+4) #[.int .i64 1] 3:=by simpa using s4.set 0 (.int .i64 1)
   refine ⟨(((keeps_below hb2).trans (KeepsOthers.setCell _ _ _)).trans (KeepsOthers.alloc _ _)).from _,((KeepC.below (X:=fun b=>b=w.heap.size+4) hb2).trans (keepC_set (X:=fun b=>b=w.heap.size+4) (p:=⟨w.heap.size+4,0,none⟩) rfl _)).trans (KeepC.alloc _ _ _),⟨⟨⟨(s1.far (p:=⟨w.heap.size+4,0,none⟩) (show w.heap.size≠w.heap.size+4 by omega) _).alloc _,(s2.far (p:=⟨w.heap.size+4,0,none⟩) (show w.heap.size+1≠w.heap.size+4 by omega) _).alloc _,(s3.far (p:=⟨w.heap.size+4,0,none⟩) (show w.heap.size+3≠w.heap.size+4 by omega) _).alloc _,?_⟩,HP'⟩,?_⟩⟩
   ·rw[HOS.out];exact t4.alloc _
   ·exact (hB2.setCell (p:=⟨w.heap.size+4,0,none⟩) (by simp) _).alloc (by simp[World.setCell];omega) _
  ·have hf1:(f.err !=0)=true:=neq_yes hf
   have HE:=Lib.hid hf
   clear hf
   gi_wp2_with (refine ⟨trivial,?_⟩;gi_at_call 179;refine (CallsIn.inRound l (callsIn_wide.2 HR.out)).mono ?_;rintro r W2 ⟨rfl,hb2⟩;have s1:=r1.below hb2 r1.lt;have s2:=r2.below hb2 r2.lt;have s3:=r3.below hb2 r3.lt;have s4:=r4.below hb2 r4.lt;obtain ⟨⟨k0,k1',k2'⟩,g0,g1,g2⟩:=s3.three;have hq3:=s3.lt;have hq3':w.heap.size+1+1+1<W2.heap.size:=hq3;have hB2:=hB1.trans (hb2.mono hB1.size);have hsB2:=hB2.size)
   exact ⟨(((((keeps_below hb2).trans (KeepsOthers.setCell _ _ _)).trans (KeepsOthers.setCell _ _ _)).trans (KeepsOthers.setCell _ _ _)).trans (KeepsOthers.alloc _ _)).from _,⟨f,(s3.set3 _ _ _).alloc _,⟨rfl,pre,x,rfl,HP.out,HE.out,by rw[HOV.out,HFX.out]⟩⟩,(below_set3 hB2 (show w.heap.size≤w.heap.size+3 by omega) _ _ _).alloc (by simp[World.setCell];omega) _⟩
 case done=>
  rintro D ys W hD hys ⟨⟨⟨r1,r2,r3,r4⟩,HP⟩,hB1⟩ hK
  have HF:Hid (exprF s n q.left.length q.right=ft0):=by
   show _=_
   rw[←exprF_list]
   refine fstL_end fun i _ y hy=>HP.out i y ?_
   rw[hys];exact hy
  obtain ⟨⟨k0,k1',k2'⟩,g0,g1,g2⟩:=r3.three
  gi_wp2
  have r5:=r3.set3 (.int .i64 0) (.int .i64 0) (.int .i64 0)
  have hK3:=(((KeepsOthers.setCell W ⟨w.heap.size+3,0,none⟩ (.int .i64 0)).trans (KeepsOthers.setCell _ ⟨w.heap.size+3,1,none⟩ (.int .i64 0))).trans (KeepsOthers.setCell _ ⟨w.heap.size+3,2,none⟩ (.int .i64 0))).same D _ hK rfl
  refine ⟨by simp,.inl ⟨_,_,rfl,run_takeDeferred hK3,?_⟩⟩
  have r6:=Row.own r5 (grownBy_putObj' _ D (.deferred none)) (fun r e=>by cases e;exact ⟨_,hK3,rfl⟩)
  exact ⟨.agg ftC0,res1 rfl Tryz.underlying38 rfl (by kernel_rfl) rfl r6,(congrArg (fun f=>Ending.returned (ftV f)) HF.out).symm,(below_set3 hB1 (by omega) _ _ _).trans (belowK_b (w:=w) (Nat.le_refl _) _ D _ _ (by omega) hK3 rfl rfl)⟩
 case stop=>
  rintro D c pre W hD hpre ⟨⟨f,r3,HP⟩,hB1⟩ hK
  obtain ⟨rfl,l,x,rfl,hso,hne,hof⟩:=HP.out
  have HF:Hid (exprF s n q.left.length q.right=f):=by
   show _=_
   rw[stop_expr hso hpre (by rw[hof];exact hne),hof]
  clear HP hso hne hof
  gi_wp2
  refine ⟨by simp,.inl ⟨_,_,rfl,run_takeDeferred hK,?_⟩⟩
  have r6:=Row.own r3 (grownBy_putObj' W D (.deferred none)) (fun r e=>by cases e;exact ⟨_,hK,rfl⟩)
  exact ⟨.agg (ftC f),res1 rfl Tryz.underlying38 rfl (by kernel_rfl) rfl r6,(congrArg (fun f=>Ending.returned (ftV f)) HF.out).symm,hB1.trans (belowK_b (w:=w) (Nat.le_refl _) W D _ _ (by omega) hK rfl rfl)⟩
open Go.RowKit
attribute [local go_sem ↓] Go.wp_at_zero Go.wp_at_succ
theorem take_name {s:List Nd} {k:Nat} {nm:ByteArray}:nm∈(s.take k).map Nd.name↔nm∈(s.map Nd.name).take k:=by rw[List.map_take]
theorem names_scope (s:List Nd) (A:Option Addr) (cap:Nat) (w:World) (h1:s.length≤cap) (h2:cap≤maxLen) (h:Nds w w.heap.size A s):
  Calls Tryz.prog 92 #[srcV s A cap] w fun r w'=>r= .returned (ftV (fstL (nameF s) s))∧Below w.heap.size w w':=by
 refine' zq82
 have b1:Below w.heap.size w ((w.alloc (.cells #[.slice A s.length cap] 24)).alloc (.cells ftC0 38)):=bE
 have HS:=Lib.hid (nds_keep h (keeps_of b1) (Nat.le_refl _))
 refine' zq50
 clear h
 go_enter Tryz.func92,Tryz.ntmps92
 refine' zq92
 have l1:=rf1.lt
 have c0:=rs1.src
 go_wp2_with fail
 clear c0
 go_loopw[10] (fun i wr=>∃k:Nat,k≤s.length∧i= .int .i64 k∧Hid (∀j,j<k→∀x,s[j]? =some x→(nameF s j x).err=0)∧Below W1.heap.size W1 wr) (fun i _=>s.length-(intOf i).toNat)
 case atStart=>exact ⟨0,Nat.zero_le _,rfl,fun j h=>absurd h (by omega),Below.refl _ _⟩
 case round=>
  refine' zq62
  have rr:=rf1.below hbr l1
  have rs:=rs1.below hbr rs1.lt
  have lr:=rr.lt
  have hB:=b1.trans (hbr.mono hs1)
  have c0:=rs.src
  by_cases hlt:k<s.length
  ·obtain ⟨b,off,n,a,hA,hb,hn,hat,d0,d1,d2,d3,d4,d5,d6⟩:=(nds_keep HS.out (keeps_of (hbr.mono hs1)) (Nat.le_refl _)).nd hlt
   subst hA
   have HX:=Lib.hid hn
   clear hn hat
   have rn:=Row.new wr (ndArr n a) 58
   refine' zq106
   have rs2:=rs.below ba rs.lt
   have rr2:=rr.below ba rr.lt
   have hB2:=hB.trans (ba.mono (by omega))
   have hbr2:=hbr.trans (ba.mono hszr)
   have HNS:Hid (∀W,Below wr.heap.size wr W→Nds W W.heap.size (some ⟨b,off,none⟩) (s.take k)):=fun W hW=>(nds_keep (HS.out) (keeps_of ((hbr.mono hs1).trans (hW.mono (by omega)))) (by have:=hW.size;omega)).take k
   go_upto_region 4 with (fail)
   generalize hW2:wr.alloc (.cells (ndArr n a) 58)=W2 at*
   clear hW2
   clear d0 d1 d2 d3 d4 d5 d6 c0
   have hs2:=ba.size
   have hmk:(s.take k).length=k:=by rw[List.length_take];omega
   have HMK:=Lib.hid hmk
   clear hmk
   obtain ⟨d0,d1,d2,d3,d4,d5,d6⟩:=rn.nd
   have c0:=rs2.src
   have i0:(0:Int)≤(k:Int):=by omega
   have i1:(k:Int)≤(cap:Int):=by omega
   have hne1:w.heap.size≠W2.heap.size:=by have:=rs2.lt;omega
   have hne2:wr.heap.size≠W2.heap.size:=by have:=rn.lt;omega
   by_cases hP:n.name∈(s.map Nd.name).take k
   ·have HC:=Lib.hid (cB_true (take_name.2 hP))
    have HF:Hid (fstL (nameF s) s=⟨23,n.line,n.col⟩):=by
     have e:nameF s k n=⟨23,n.line,n.col⟩:=by unfold nameF;rw[if_pos hP]
     show _=_
     rw[←e]
     exact fstL_stop HN.out HX.out (by rw[e];show (23:Int)≠0;decide)
    clear hP
    go_cut[6] (fun v6 W=>v6= .bool true∧Below W2.heap.size W2 W)
    case first=>
     refine' zq14
    case rest=>
     obtain ⟨rfl,hbc⟩:=hcut
     have rn3:=rn.below hbc rn.lt
     have rr3:=rr2.below hbc rr2.lt
     have b3:=hB2.trans (hbc.mono (Below.size hB2))
     clear d0 d1 d2 d3 d4 d5 d6 c0
     obtain ⟨y0,y1,y2,y3,y4,y5,y6⟩:=rn3.nd
     refine' zq54
     have q9:Below wc.heap.size wc w9:=Below.trans bE (hb9.mono lE)
     have rf9:=rr3.below q9 rr3.lt
     have b9:=Below.trans b3 (q9.mono (Below.size b3))
     refine' zq2
   ·have HC:=Lib.hid (cB_false (fun g=>hP (take_name.1 g)))
    have HN':=Lib.hid (step_uptoI (P:=fun j x=>(nameF s j x).err=0) HN.out HX.out (by unfold nameF;rw[if_neg hP]))
    clear hP
    go_cut[6] (fun v6 W=>v6= .bool false∧Below W2.heap.size W2 W)
    case first=>
     refine' zq14
    case rest=>
     obtain ⟨rfl,hbc⟩:=hcut
     go_wp2_with fail
     go_roundw
     case rel=>exact ⟨k+1,by omega,by go_num,HN',hbr2.trans (hbc.mono (Below.size hbr2))⟩
     case measure=>first|(simp[intOf];omega)|simp[intOf]
  ·obtain rfl:k=s.length:=by omega
   have HF:=Lib.hid (fstL_end HN.out)
   obtain ⟨⟨k0,k1,k2⟩,h0,h1,h2⟩:=rr.three
   go_wp2_with fail
   exact bodyPost_ret (res1 rfl Tryz.underlying38 rfl (by kernel_rfl) rfl (rr.set3 _ _ _)) rfl ⟨(congrArg (fun f=>Ending.returned (ftV f)) HF.out).symm,below_set3 hB (by first|omega|(simp;omega)|simp) _ _ _⟩
theorem sdefine_any (n:Nd) (a:NdA) (nm:ByteArray) (w:World) (h:NdAt w w.heap.size n a):
  Calls Tryz.prog 122 #[ndV n a,.string nm] w fun r w'=>((∃i k:Nat,r= .returned (.tuple #[.int .i64 i,.int .i64 k,.bool true])∧Hid (DefAt n nm i k))∨(r= .returned (.tuple #[.int .i64 0,.int .i64 0,.bool false])∧Hid (NoDef n nm)))∧Below w.heap.size w w':=by
 have r1:=Row.new w (ndArr n a) 58
 have b1:Below w.heap.size w (w.alloc (.cells (ndArr n a) 58)):=bE
 have HQ:=Lib.hid (h.below b1).sq
 have hq2:=h.mq
 have hq1:=h.lq
 have hq2':a.cq≤9223372036854775807:=by unfold maxLen at hq2;omega
 clear h
 go_enter Tryz.func122,Tryz.ntmps122
 refine' zq149
 obtain ⟨c0,c1,c2,c3,c4,c5,c6⟩:=r1.nd
 go_wp2_with fail
 clear c0 c1 c2 c3 c4 c5 c6
 go_loopw[13] (fun i wr=>∃k:Nat,k≤n.eqs.length∧i= .int .i64 k∧Hid (∀j,j<k→∀q,n.eqs[j]? =some q→nm∉q.left)∧Below W1.heap.size W1 wr) (fun i _=>n.eqs.length-(intOf i).toNat)
 case atStart=>exact ⟨0,Nat.zero_le _,rfl,fun j h=>absurd h (by omega),Below.refl _ _⟩
 case round=>
  refine' zq62
  have hB:=b1.trans (hbr.mono hs1)
  by_cases hlt:k<n.eqs.length
  ·obtain ⟨b,off,q,A1,k1,A2,k2,haq,hb,hq,ok,lq1,mq1,sl1,lq2,mq2,sl2,d0,d1,d2,d3,d4,d5,d6,d7,d8⟩:=(eqs_keep HQ.out (keeps_of (hbr.mono hs1)) (Nat.le_refl _)).eqn hlt
   have HX:=Lib.hid hq
   have HAQ:=Lib.hid haq
   rw[haq]
   have ba:Below wr.heap.size wr (wr.alloc (.cells (eqArr q A1 k1 A2 k2) 65)):=bE
   have HI:=Lib.hid (fun W (hW:Below wr.heap.size wr W)=>index_str q.left nm A1 k1 w.heap.size W lq1 mq1 (strs_keep sl1 (keeps_of (hW.mono (by omega))) (Nat.le_refl _)))
   clear hq ok sl1 sl2 haq lq2 mq2
   go_wp2_with fail
   refine (HI.out _ (by exact ba)).mono ?_
   rintro e w' ⟨rfl,rfl⟩
   rcases idx_cases q.left nm with ⟨j,e1,e2,e3⟩|⟨e1,e2⟩
   ·have HF:Hid (DefAt n nm k j):=⟨q,HX.out,e2,HN.out,e3⟩
    rw[e1]
    clear e1 e2 e3
    go_wp2_with fail
    go_ret3
    exact ⟨.inl ⟨_,_,rfl,HF⟩,hB.trans (ba.mono (by omega))⟩
   ·have HN':=Lib.hid (step_upto (P:=fun q:Eqn=>nm∉q.left) HN.out HX.out e2)
    rw[e1]
    clear e1 e2
    go_wp2_with fail
    go_roundw
    case rel=>exact ⟨k+1,by omega,by go_num,HN',hbr.trans (ba.mono hszr)⟩
    case measure=>first|(simp[intOf];omega)|simp[intOf]
  ·obtain rfl:k=n.eqs.length:=by omega
   have HF:Hid (NoDef n nm):=mem_upto HN.out
   go_wp2_with fail
   go_ret3
   exact ⟨.inr ⟨rfl,HF⟩,hB⟩
theorem scopeF_2 {s:List Nd} (h:¬SrcRt s):scopeF s=⟨2,0,0⟩:=if_pos h
theorem scopeF_rt {s:List Nd} (h:SrcRt s):scopeF s=ft2 (fstL (nameF s) s) (ft2 (fstL (nodeF s) s) (mainF s)):=if_neg (fun g=>g h)
theorem first_two (F1 F2:FuncId) (c1 c2:Array Value) (b:Nat) (w:World) (X:Nat→Prop) (f1 f2:Ft) (R1 R2:World→Prop) (t:TypeId)
  (hF1:∀args w,(callFunc F1 args).run Tryz.prog w= .ok (.enter F1 args) w) (hF2:∀args w,(callFunc F2 args).run Tryz.prog w= .ok (.enter F2 args) w)
  (hr:Row w b #[.func (.func F1) #[] c1,.func (.func F2) #[] c2] t) (hX:¬X b)
  (hR1:∀W o,R1 W→R1 (W.alloc o)) (hR2:∀W o,R2 W→R2 (W.alloc o)) (hR3:∀W g y0 y1 y2,w.heap.size≤g→R2 W→R2 (((W.setCell ⟨g,0,none⟩ y0).setCell ⟨g,1,none⟩ y1).setCell ⟨g,2,none⟩ y2))
  (H1:∀W,Below w.heap.size w W→Calls Tryz.prog F1 c1 W fun r W'=>r= .returned (ftV f1)∧Upd X W W'∧Hid (f1.err=0→R1 W'))
  (H2:∀W,Upd X w W→R1 W→Calls Tryz.prog F2 c2 W fun r W'=>r= .returned (ftV f2)∧Upd X W W'∧Hid (f2.err=0→R2 W')) (hXw:∀k,X k→k<w.heap.size) (hZ:f2.err=0→f2=ft0):
  Calls Tryz.prog 93 #[.slice (some ⟨b,0,none⟩) 2 2] w fun r w'=>r= .returned (ftV (ft2 f1 f2))∧Upd X w w'∧Hid ((ft2 f1 f2).err=0→R2 w'):=by
 have b1:Below w.heap.size w (w.alloc (.cells ftC0 38)):=bE
 have rf1:=Row.new w ftC0 38
 have hbw:=hr.lt
 have HH1:=Lib.hid H1
 have HH2:=Lib.hid H2
 have HF2:=Lib.hid hF2
 have HR1:=Lib.hid hR1
 have HR2:=Lib.hid hR2
 have HR3:=Lib.hid hR3
 have HX:Hid (¬X w.heap.size):=fun h=>by have:=hXw _ h;omega
 have HZ:=Lib.hid hZ
 have HXb:=Lib.hid hX
 clear H1 H2 hF2 hR1 hR2 hR3 hXw hX hZ
 go_enter Tryz.func93,Tryz.ntmps93
 refine' zq100
 go_wp2_with fail
 go_loopw[8] (fun i wr=>∃k:Nat,k≤2∧i= .int .i64 k∧Upd X w wr∧Row wr w.heap.size ftC0 38∧Hid (k=0→Below w.heap.size w wr)∧Hid (1≤k→f1.err=0)∧Hid (k=1→R1 wr)∧Hid (k=2→f2.err=0∧R2 wr)) (fun i _=>2-(intOf i).toNat)
 case atStart=>exact ⟨0,by omega,rfl,Upd.of_below b1,rf1,fun _=>b1,fun h=>absurd h (by omega),fun h=>absurd h (by omega),fun h=>absurd h (by omega)⟩
 case round=>
  obtain ⟨k,hk,rfl,hu,rf,K0,K1,K2,K3⟩:=hrel
  have hszr:=hu.size
  have rr:=hu.row hr HXb.out
  have q0:wr.cell? ⟨b,0,none⟩=some (.func (.func F1) #[] c1):=(rr.cell 0).trans rfl
  have q1:wr.cell? ⟨b,1,none⟩=some (.func (.func F2) #[] c2):=(rr.cell 1).trans rfl
  have h3:k=0∨k=1∨k=2:=by omega
  rcases h3 with rfl|rfl|rfl
  ·go_wp2_with fail
   refine (HH1.out wr (K0.out (by first|rfl|trivial))).mono ?_
   rintro r w2 ⟨rfl,hu2,hr1⟩
   have rf2:=hu2.row rf HX.out
   have hu3:=hu.trans hu2
   have hl2:=rf2.lt
   by_cases hf:f1.err=0
   ·have hf1:(f1.err !=0)=false:=neq_no hf
    have HE:=Lib.hid hf
    have HR:=Lib.hid (HR1.out w2 (.cells (ftC f1) 38) (hr1.out hf))
    clear hf
    go_wp2_with fail
    go_roundw
    case rel=>exact ⟨1,by omega,by go_num,hu3.alloc _,rf2.alloc _,fun h=>absurd h (by omega),fun _=>HE.out,fun _=>HR.out,fun h=>absurd h (by omega)⟩
    case measure=>first|(simp[intOf];omega)|simp[intOf]
   ·have hf1:(f1.err !=0)=true:=neq_yes hf
    have HF:=Lib.hid (ft2_1 (b:=f2) hf)
    refine' zq77
  ·have hF2:=HF2.out
   clear hF1
   go_wp2_with fail
   refine (HH2.out wr hu (K2.out (by first|rfl|trivial))).mono ?_
   rintro r w2 ⟨rfl,hu2,hr2⟩
   have rf2:=hu2.row rf HX.out
   have hu3:=hu.trans hu2
   have hl2:=rf2.lt
   have HE1:=Lib.hid (K1.out (by first|omega|trivial|simp))
   by_cases hf:f2.err=0
   ·have hf1:(f2.err !=0)=false:=neq_no hf
    have HE:=Lib.hid hf
    have HR:=Lib.hid (HR2.out w2 (.cells (ftC f2) 38) (hr2.out hf))
    clear hf
    go_wp2_with fail
    go_roundw
    case rel=>exact ⟨2,by omega,by go_num,hu3.alloc _,rf2.alloc _,fun h=>absurd h (by omega),fun _=>HE1.out,fun h=>absurd h (by omega),fun _=>⟨HE.out,HR.out⟩⟩
    case measure=>first|(simp[intOf];omega)|simp[intOf]
   ·have hf1:(f2.err !=0)=true:=neq_yes hf
    have HF:=Lib.hid (ft2_0 (b:=f2) HE1.out)
    refine' zq77
  ·have HF:Hid (ft2 f1 f2=ft0):=by
    show _=_
    rw[ft2_0 (K1.out (by first|omega|trivial|simp)),HZ.out (K3.out (by first|rfl|trivial)).1]
   have HR:=Lib.hid (HR3.out wr w.heap.size (.int .i64 0) (.int .i64 0) (.int .i64 0) (Nat.le_refl _) (K3.out (by first|rfl|trivial)).2)
   refine' zq129
   go_wp2_with fail
   exact bodyPost_ret (res1 rfl Tryz.underlying38 rfl (by kernel_rfl) rfl (rf.set3 _ _ _)) rfl ⟨(congrArg (fun f=>Ending.returned (ftV f)) HF.out).symm,hu.set3 (Nat.le_refl _) _ _ _,fun _=>HR.out⟩
theorem lefts_len {l:List Eqn} (h:∀q∈l,q.left.length≤12):(lefts l).length≤12*l.length:=by
 induction l with
 |nil=>simp[lefts]
 |cons q l ih=>
  have h1:=ih (fun q hq=>h q (by simp[hq]))
  have h2:=h q (by simp)
  simp only[lefts,List.map_cons,List.flatten_cons,List.length_append,List.length_cons] at h1⊢
  omega
theorem metTo_succ {n:Nd} {k:Nat} {q:Eqn} (h:n.eqs[k]? =some q):metTo n (k+1)=metTo n k++q.left:=by
 unfold metTo lefts
 rw[List.take_add_one,h]
 simp
theorem metTo_len {n:Nd} (sm:NdSm n) (k:Nat):(metTo n k).length≤1000:=by
 unfold metTo
 rw[List.length_append,List.length_map]
 have h1:=lefts_len (l:=n.eqs.take k) (fun q hq=>(sm.eq q (List.mem_of_mem_take hq)).left)
 have h2:=sm.ins
 have h3:=sm.eqs
 have h4:(n.eqs.take k).length≤n.eqs.length:=List.length_take_le' _ _
 omega
theorem eqs1_any (n:Nd) (a:NdA) (q:Eqn) (A1:Option Addr) (k1:Nat) (A2:Option Addr) (k2:Nat) (met:List ByteArray) (bm b1 b2 b3:Nat) (w:World) (t:TypeId) (hl:(vrs n).length≤10000) (hn:NdAt w w.heap.size n a) (m1:k1≤maxLen) (s1:Sl w w.heap.size 1 isStr A1 q.left) (hm:MetIs w bm met) (hlen:met.length+q.left.length<1000000)
  (r1:Row w b1 (ndArr n a) 58) (r2:Row w b2 (eqArr q A1 k1 A2 k2) 65) (r3:Row w b3 #[.map (some bm)] t):
  Calls Tryz.prog 138 #[.pointer (some ⟨b1,0,none⟩),.pointer (some ⟨b2,0,none⟩),.pointer (some ⟨b3,0,none⟩)] w (LeftRes n met q bm w):=by
 refine' zq78
 have r2':=r2.below b0 r2.lt
 have r3':=r3.below b0 r3.lt
 have mt:=hm.below b0
 have hbm:=hm.lt
 have HN:=Lib.hid (hn.next b0)
 have HS:=Lib.hid (strs_keep s1 (keeps_of b0) b0.size)
 clear hn s1 r1 r2 r3
 go_enter Tryz.func138,Tryz.ntmps138
 refine' zq100
 obtain ⟨c0,c1,cc2,c3,c4,c5,c6⟩:=r1'.nd
 obtain ⟨d0,d1,d2,d3,d4,d5,d6,d7,d8⟩:=r2'.eqn
 have e0:=r3'.src
 go_wp2_with fail
 refine (left_any n a q A1 k1 A2 k2 met bm W1 hl HN.out m1 HS.out mt hlen).mono ?_
 rintro r w2 ⟨rfl,hm2,hu2⟩
 have rf2:=UpdM.row hu2 mt rf
 have hu3:UpdM bm w w2:=(UpdM.of b0).trans hu2
 obtain ⟨⟨k0,k1',k2'⟩,g0,g1,g2⟩:=rf2.three
 have hne:bm≠w.heap.size:=by omega
 go_wp2_with fail
 exact bodyPost_ret (res1 rfl Tryz.underlying38 rfl (by kernel_rfl) rfl (rf2.set3 _ _ _)) rfl ⟨rfl,fun g=>(hm2.out g).set3 hne _ _ _,Upd.set3 hu3 (Nat.le_refl _) _ _ _⟩
theorem eqs2_any (s:List Nd) (A:Option Addr) (cap:Nat) (n:Nd) (a:NdA) (q:Eqn) (A1:Option Addr) (k1:Nat) (A2:Option Addr) (k2:Nat) (b1 b2 b3:Nat) (w:World) (h1:s.length≤cap) (h2:cap≤maxLen) (hl:(vrs n).length≤10000) (ok:ExOk q.right) (hk2:q.right.args.length≤k2) (hm2:k2≤maxLen)
  (hs:Nds w w.heap.size A s) (hn:NdAt w w.heap.size n a) (hx:IsExs w w.heap.size A2 q.right.args)
  (r1:Row w b1 #[.slice A s.length cap] 24) (r2:Row w b2 (ndArr n a) 58) (r3:Row w b3 (eqArr q A1 k1 A2 k2) 65):
  Calls Tryz.prog 140 #[.pointer (some ⟨b1,0,none⟩),.pointer (some ⟨b2,0,none⟩),.pointer (some ⟨b3,0,none⟩)] w fun r w'=>r= .returned (ftV (exprF s n q.left.length q.right))∧Below w.heap.size w w':=by
 refine' zq78
 have r2':=r2.below b0 r2.lt
 have r3':=r3.below b0 r3.lt
 have HS:=Lib.hid (nds_keep hs (keeps_of b0) b0.size)
 have HN:=Lib.hid (hn.next b0)
 have HX:=Lib.hid (exs_keep hx (keeps_of b0) b0.size)
 clear hs hn hx r1 r2 r3
 go_enter Tryz.func140,Tryz.ntmps140
 refine' zq100
 have z0:=r1'.src
 obtain ⟨c0,c1,cc2,c3,c4,c5,c6⟩:=r2'.nd
 obtain ⟨d0,d1,d2,d3,d4,d5,d6,d7,d8⟩:=r3'.eqn
 go_wp2_with fail
 refine (right_scope s A cap n a q A1 k1 A2 k2 W1 h1 h2 hl ok hk2 hm2 HS.out HN.out HX.out).mono ?_
 refine' zq49
end Go.Proofs.YtdkgkacnjdnpoaaGreat
