/-
  What is wrong first in an equation's expression: the contract of scope.right. The names of nodes: the contract of scope.names. Where a name is defined: the contracts of Define.
-/
import Derived.Test.YtgjfkidbfmbjoaaGreatZz
import Derived.Test.YtgjfkidbfmbjoaaGreatScH
import Derived.Test.YtgjfkidbfmbjoaaGreatTreeRight
import Derived.Test.YtgjfkidbfmbjoaaGreatScnF
import Derived.Deep.RegionHeld3
set_option maxHeartbeats 4000000
set_option maxRecDepth 100000
namespace Go.Proofs.YtgjfkidbfmbjoaaGreat
open Go.RowKit Go.Shelf
attribute [local go_sem] Oper.semAt_some
def outsOf (outs:Int) (l:List ExN):Int:=match l with
 | []=>outs
 |_=>1
theorem outsOf_snoc (outs:Int) (l:List ExN) (x:ExN):outsOf outs (l++ [x])=1:=by cases l<;>rfl
theorem stepF_len (s:List Nd) (n:Nd) (outs:Int) (l:List ExN) (e:Ex):stepF s n outs l.length e=oneF s n (outsOf outs l) e:=by
 unfold stepF outsOf
 cases l<;>simp
def StepsOk (s:List Nd) (n:Nd) (outs:Int) (l:List ExN):Prop:=∀(i:Nat) x,(l.map ExN.ex)[i]? =some x→(stepF s n outs i x).err=0
theorem StepsOk.snoc {s:List Nd} {n:Nd} {outs:Int} {l:List ExN} {x:ExN} (h:StepsOk s n outs l) (hx:(oneF s n (outsOf outs l) x.ex).err=0):StepsOk s n outs (l++ [x]):=fun i y hy=>by
 rw[List.map_append] at hy
 rcases Nat.lt_or_ge i (l.map ExN.ex).length with hi|hi
 ·rw[List.getElem?_append_left hi] at hy
  exact h i y hy
 ·rw[List.getElem?_append_right hi] at hy
  have hl:i=l.length:=by
   have:=(List.getElem?_eq_some_iff.1 hy).1
   simp at this hi
   omega
  subst hl
  simp at hy
  subst hy
  rw[stepF_len];exact hx
theorem stop_expr {s:List Nd} {n:Nd} {outs:Int} {e:Ex} {l:List ExN} {x:ExN} (h:StepsOk s n outs l) (hp:(l++ [x]).map ExN.ex<+:exList e) (hx:(oneF s n (outsOf outs l) x.ex).err≠0):exprF s n outs e=oneF s n (outsOf outs l) x.ex:=by
 rw[←exprF_list,←stepF_len]
 obtain ⟨r,hr⟩:=hp
 have hget:∀i,i<l.length+1→(exList e)[i]? =((l++ [x]).map ExN.ex)[i]? :=fun i hi=>by rw[←hr,List.getElem?_append_left (by simpa using hi)]
 refine fstL_stop (f:=stepF s n outs) (k:=l.length) (fun j hj y hy=>?_) ?_ ?_
 ·rw[hget j (by omega),List.map_append,List.getElem?_append_left (by simpa using hj)] at hy
  exact h j y hy
 ·rw[hget _ (by omega),List.map_append,List.getElem?_append_right (by simp)]
  simp
 ·rw[stepF_len];exact hx
theorem keepC_set {X:Nat→Prop} {W:World} {p:Addr} (hp:X p.block) (u:Value):KeepC X W (W.setCell p u):=
 ⟨by simp[World.setCell],fun b _ _ _ hX hb=>(Below.heap_setCell W p u b (fun e=>hX (e▸hp))).trans hb⟩
theorem right_scope (s:List Nd) (A:Option Addr) (cap:Nat) (n:Nd) (a:NdA) (q:Eqn) (A1:Option Addr) (k1:Nat) (A2:Option Addr) (k2:Nat) (w:World) (h1:s.length≤cap) (h2:cap≤maxLen) (hl:(vrs n).length≤10000) (ok:ExOk q.right) (hk2:q.right.args.length≤k2) (hm2:k2≤maxLen)
  (hs:Nds w w.heap.size A s) (hn:NdAt w w.heap.size n a) (hx:IsExs w w.heap.size A2 q.right.args):
  Calls Tryz.prog 199 #[srcV s A cap,ndV n a,eqV q A1 k1 A2 k2] w fun r w'=>r= .returned (ftV (exprF s n q.left.length q.right))∧Below w.heap.size w w':=by
 refine (callsIn_wide (n:=9)).1 ?_
 have HS:Hid (∀W,Below w.heap.size w W→Nds W W.heap.size A s):=fun W hW=>nds_keep hs (keeps_of hW) hW.size
 have HN:Hid (∀W,Below w.heap.size w W→NdAt W W.heap.size n a):=fun W hW=>hn.keep (keeps_of hW) hW.size
 have HL:=Lib.hid hl
 have rs0:=((((Row.new w #[.slice A s.length cap] 24).alloc (.cells (ndArr n a) 39)).alloc (.cells (eqArr q A1 k1 A2 k2) 81)).alloc (.cells ftC0 31)).alloc (.cells #[.int .i64 (q.left.length:Int)] 3)
 have rn0:=(((rowNew2 w (.cells #[.slice A s.length cap] 24) (ndArr n a) 39).alloc (.cells (eqArr q A1 k1 A2 k2) 81)).alloc (.cells ftC0 31)).alloc (.cells #[.int .i64 (q.left.length:Int)] 3)
 have rq0:=((rowNew3 w (.cells #[.slice A s.length cap] 24) (.cells (ndArr n a) 39) (eqArr q A1 k1 A2 k2) 81).alloc (.cells ftC0 31)).alloc (.cells #[.int .i64 (q.left.length:Int)] 3)
 have rf0:=(rowNewD w (.cells #[.slice A s.length cap] 24) (.cells (ndArr n a) 39) (.cells (eqArr q A1 k1 A2 k2) 81) ftC0 31).alloc (.cells #[.int .i64 (q.left.length:Int)] 3)
 refine callsIn_of_wp_marks Tryz.func199 rfl trivial ?_ rfl
 simp only[Tryz.ntmps199,List.size_toArray,List.length_cons,List.length_nil,Nat.reduceAdd,Nat.reduceSub,Array.replicate_succ,Array.replicate_zero,List.push_toArray,List.append_toArray,List.nil_append,List.cons_append]
 refine' zq166
 have rs1:=rs0.alloc (.cells #[.int .i64 q.right.op,.string q.right.name,.int .i64 q.right.n,.slice A2 q.right.args.length k2,.int .i64 q.right.line,.int .i64 q.right.col] 79)
 have rn1:=rn0.alloc (.cells #[.int .i64 q.right.op,.string q.right.name,.int .i64 q.right.n,.slice A2 q.right.args.length k2,.int .i64 q.right.line,.int .i64 q.right.col] 79)
 have rf1:=rf0.alloc (.cells #[.int .i64 q.right.op,.string q.right.name,.int .i64 q.right.n,.slice A2 q.right.args.length k2,.int .i64 q.right.line,.int .i64 q.right.col] 79)
 have ro1:Row ((((((w.alloc (.cells #[.slice A s.length cap] 24)).alloc (.cells (ndArr n a) 39)).alloc (.cells (eqArr q A1 k1 A2 k2) 81)).alloc (.cells ftC0 31)).alloc (.cells #[.int .i64 (q.left.length:Int)] 3)).alloc (.cells #[.int .i64 q.right.op,.string q.right.name,.int .i64 q.right.n,.slice A2 q.right.args.length k2,.int .i64 q.right.line,.int .i64 q.right.col] 79)) (w.heap.size+4) #[.int .i64 (q.left.length:Int)] 3:=by
  have h:=(Row.new ((((w.alloc (.cells #[.slice A s.length cap] 24)).alloc (.cells (ndArr n a) 39)).alloc (.cells (eqArr q A1 k1 A2 k2) 81)).alloc (.cells ftC0 31)) #[.int .i64 (q.left.length:Int)] 3).alloc (.cells #[.int .i64 q.right.op,.string q.right.name,.int .i64 q.right.n,.slice A2 q.right.args.length k2,.int .i64 q.right.line,.int .i64 q.right.col] 79)
  rwa [World.size_alloc,World.size_alloc,World.size_alloc,World.size_alloc] at h
 have bA:Row ((((((w.alloc (.cells #[.slice A s.length cap] 24)).alloc (.cells (ndArr n a) 39)).alloc (.cells (eqArr q A1 k1 A2 k2) 81)).alloc (.cells ftC0 31)).alloc (.cells #[.int .i64 (q.left.length:Int)] 3)).alloc (.cells #[.int .i64 q.right.op,.string q.right.name,.int .i64 q.right.n,.slice A2 q.right.args.length k2,.int .i64 q.right.line,.int .i64 q.right.col] 79)) (w.heap.size+5) #[.int .i64 q.right.op,.string q.right.name,.int .i64 q.right.n,.slice A2 q.right.args.length k2,.int .i64 q.right.line,.int .i64 q.right.col] 79:=by
  have h:=Row.new (((((w.alloc (.cells #[.slice A s.length cap] 24)).alloc (.cells (ndArr n a) 39)).alloc (.cells (eqArr q A1 k1 A2 k2) 81)).alloc (.cells ftC0 31)).alloc (.cells #[.int .i64 (q.left.length:Int)] 3)) #[.int .i64 q.right.op,.string q.right.name,.int .i64 q.right.n,.slice A2 q.right.args.length k2,.int .i64 q.right.line,.int .i64 q.right.col] 79
  rwa [World.size_alloc,World.size_alloc,World.size_alloc,World.size_alloc,World.size_alloc] at h
 have hB0:Below w.heap.size w ((((((w.alloc (.cells #[.slice A s.length cap] 24)).alloc (.cells (ndArr n a) 39)).alloc (.cells (eqArr q A1 k1 A2 k2) 81)).alloc (.cells ftC0 31)).alloc (.cells #[.int .i64 (q.left.length:Int)] 3)).alloc (.cells #[.int .i64 q.right.op,.string q.right.name,.int .i64 q.right.n,.slice A2 q.right.args.length k2,.int .i64 q.right.line,.int .i64 q.right.col] 79)):=bE
 have hsz:((((((w.alloc (.cells #[.slice A s.length cap] 24)).alloc (.cells (ndArr n a) 39)).alloc (.cells (eqArr q A1 k1 A2 k2) 81)).alloc (.cells ftC0 31)).alloc (.cells #[.int .i64 (q.left.length:Int)] 3)).alloc (.cells #[.int .i64 q.right.op,.string q.right.name,.int .i64 q.right.n,.slice A2 q.right.args.length k2,.int .i64 q.right.line,.int .i64 q.right.col] 79)).heap.size=w.heap.size+6:=by simp
 obtain ⟨W0,hW0⟩:∃W0,((((((w.alloc (.cells #[.slice A s.length cap] 24)).alloc (.cells (ndArr n a) 39)).alloc (.cells (eqArr q A1 k1 A2 k2) 81)).alloc (.cells ftC0 31)).alloc (.cells #[.int .i64 (q.left.length:Int)] 3)).alloc (.cells #[.int .i64 q.right.op,.string q.right.name,.int .i64 q.right.n,.slice A2 q.right.args.length k2,.int .i64 q.right.line,.int .i64 q.right.col] 79))=W0:=⟨_,rfl⟩
 rw[hW0] at rs1 rn1 rf1 ro1 bA hB0 hsz⊢
 clear hW0 rs0 rn0 rq0 rf0
 refine wpIn_rangeFunc_ownH rfl (by decide) (gf:=159) (lb:= #[.pointer (some ⟨w.heap.size+1+1+1+1+1,0,none⟩)]) rfl trivial (enters_of Tryz.func159 (by kernel_rfl) rfl)
  (all_stops _ rfl _ trivial trivial rfl (w.heap.size+5) w.heap.size (fun b=>b=w.heap.size+4) q.right A2 k2 W0 (fun b h=>⟨by omega,by omega⟩) ok hk2 hm2 (by omega) (by omega) (fun j u hu=>by rw[bA.cell];simpa[exCells] using hu) (exs_keep hx (keeps_of hB0) (Nat.le_refl _)))
  (fun h k=>h.trans k) (fun W l o o' _ h ho _=>keepC_putObj W l o o' h ho) (Below.refl _ _) (fun _=>rfl)
  (fun pre W=>((Row W w.heap.size #[.slice A s.length cap] 24∧Row W (w.heap.size+1) (ndArr n a) 39∧Row W (w.heap.size+3) ftC0 31∧Row W (w.heap.size+4) #[.int .i64 (outsOf q.left.length pre)] 3)∧Hid (StepsOk s n q.left.length pre))∧Below w.heap.size w W)
  (fun c pre W=>(∃f:Ft,Row W (w.heap.size+3) (ftC f) 31∧Hid (c= .ret∧∃l x,pre=l++ [x]∧StepsOk s n q.left.length l∧f.err≠0∧oneF s n (outsOf q.left.length l) x.ex=f))∧Below w.heap.size w W)
  (OwnFrom.and (OwnFrom.and (OwnFrom.and (fun s X Y row hs hg hr=>hs.own hg (fun r e=>(hr r e).2)) (OwnFrom.and (fun s X Y row hs hg hr=>hs.own hg (fun r e=>(hr r e).2)) (OwnFrom.and (fun s X Y row hs hg hr=>hs.own hg (fun r e=>(hr r e).2)) (fun s X Y row hs hg hr=>hs.own hg (fun r e=>(hr r e).2))))) (ownFrom_pure _ _)) (ownFrom_below (Nat.le_refl _) (by omega)))
  (fun c=>OwnFrom.and (fun s X Y row hs hg hr=>by obtain ⟨f,h1,h2⟩:=hs;exact ⟨f,h1.own hg (fun r e=>(hr r e).2),h2⟩) (ownFrom_below (Nat.le_refl _) (by omega)))
  ⟨⟨⟨rs1,rn1,rf1,ro1⟩,fun i x h=>by simp at h⟩,hB0⟩
  (fun x a' W=>∃Bx,w.heap.size+4<Bx∧Row W Bx (exA x.ex x.A x.cap) 79∧a'={tmps:= #[srcV s A cap,ndV n a,eqV q A1 k1 A2 k2,.pointer (some ⟨w.heap.size,0,none⟩),.pointer (some ⟨w.heap.size+1,0,none⟩),.pointer (some ⟨w.heap.size+1+1,0,none⟩),.pointer (some ⟨w.heap.size+1+1+1,0,none⟩),.pointer (some ⟨w.heap.size+1+1+1+1,0,none⟩),.pointer (some ⟨Bx,0,none⟩),undef,.pointer (some ⟨w.heap.size+1+1,0,none⟩),.slice A1 q.left.length k1,.int .i64 (q.left.length:Int),.pointer (some ⟨w.heap.size+1+1,1,none⟩),exV q.right A2 k2,.func (.func 159) #[] #[.pointer (some ⟨w.heap.size+1+1+1+1+1,0,none⟩)],x.v,undef,undef,undef,undef,undef,undef,undef,undef,undef,undef],defers:=[]})
  (fun x a' _ X Y row hs hg hr=>by obtain ⟨Bx,h1,h2,h3⟩:=hs;exact ⟨Bx,h1,h2.own hg (fun r e=>(hr r e).2),h3⟩)
  ?assign ?body ?done ?stop
 case assign=>
  rintro l pre x W K ⟨⟨⟨r1,r2,r3,r4⟩,HP⟩,hB1⟩ hK
  gi_wp2
  exact hK _ _ ((KeepsOthers.alloc _ _).from _) (KeepC.alloc _ _ _) ⟨⟨⟨r1.alloc _,r2.alloc _,r3.alloc _,r4.alloc _⟩,HP⟩,hB1.alloc hB1.size _⟩ ⟨W.heap.size,r4.lt,Row.new W _ _,rfl⟩
 case body=>
  rintro l pre x a' W hl _ ⟨⟨⟨r1,r2,r3,r4⟩,HP⟩,hB1⟩ ⟨Bx,hBx,bX,rfl⟩ hlt
  have z0:=r1.src
  obtain ⟨c0,c1,cc2,c3,c4,c5,c6⟩:=r2.nd
  obtain ⟨x0,x1,x2,x3,x4,x5⟩:=bX.ex6
  have u0:W.cell? ⟨w.heap.size+4,0,none⟩=some (.int .i64 (outsOf q.left.length pre)):=(r4.cell 0).trans rfl
  have HR:=Lib.hid (one_any s A cap n a x.ex x.A x.cap (outsOf q.left.length pre) W h1 h2 HL.out x.max (HS.out W hB1) (HN.out W hB1))
  obtain ⟨f,HFX⟩:∃f,Hid (oneF s n (outsOf q.left.length pre) x.ex=f):=⟨_,rfl⟩
  rw[HFX.out] at HR
  have HOS:Hid (outsOf q.left.length (pre++ [x])=1):=outsOf_snoc _ _ _
  generalize hov:outsOf q.left.length pre=ov at*
  have HOV:=Lib.hid hov
  clear hov
  by_cases hf:f.err=0
  ·have hf1:(f.err !=0)=false:=neq_no hf
   have HP':Hid (StepsOk s n q.left.length (pre++ [x])):=HP.out.snoc (by rw[HOV.out,HFX.out];exact hf)
   clear hf
   gi_wp2_with (refine ⟨trivial,?_⟩;gi_at_call 258;refine (CallsIn.inRound l (callsIn_wide.2 HR.out)).mono ?_;rintro r W2 ⟨rfl,hb2⟩;have s1:=r1.below hb2 r1.lt;have s2:=r2.below hb2 r2.lt;have s3:=r3.below hb2 r3.lt;have s4:=r4.below hb2 r4.lt;have fo:=s4.frozen 0;have v0:W2.cell? ⟨w.heap.size+4,0,none⟩=some (.int .i64 ov):=(s4.cell 0).trans rfl;have hq4:=s4.lt;have hq4':w.heap.size+1+1+1+1<W2.heap.size:=hq4;have hB2:=hB1.trans (hb2.mono hB1.size);have hsB2:=hB2.size)
   have t4:Row (W2.setCell ⟨w.heap.size+4,0,none⟩ (.int .i64 1)) (w.heap.size+4) #[.int .i64 1] 3:=by simpa using s4.set 0 (.int .i64 1)
   refine ⟨(((keeps_below hb2).trans (KeepsOthers.setCell _ _ _)).trans (KeepsOthers.alloc _ _)).from _,((KeepC.below (X:=fun b=>b=w.heap.size+4) hb2).trans (keepC_set (X:=fun b=>b=w.heap.size+4) (p:=⟨w.heap.size+4,0,none⟩) rfl _)).trans (KeepC.alloc _ _ _),⟨⟨⟨(s1.far (p:=⟨w.heap.size+4,0,none⟩) (show w.heap.size≠w.heap.size+4 by omega) _).alloc _,(s2.far (p:=⟨w.heap.size+4,0,none⟩) (show w.heap.size+1≠w.heap.size+4 by omega) _).alloc _,(s3.far (p:=⟨w.heap.size+4,0,none⟩) (show w.heap.size+3≠w.heap.size+4 by omega) _).alloc _,?_⟩,HP'⟩,?_⟩⟩
   ·rw[HOS.out];exact t4.alloc _
   ·exact (hB2.setCell (p:=⟨w.heap.size+4,0,none⟩) (by simp) _).alloc (by simp[World.setCell];omega) _
  ·have hf1:(f.err !=0)=true:=neq_yes hf
   have HE:=Lib.hid hf
   clear hf
   gi_wp2_with (refine ⟨trivial,?_⟩;gi_at_call 258;refine (CallsIn.inRound l (callsIn_wide.2 HR.out)).mono ?_;rintro r W2 ⟨rfl,hb2⟩;have s1:=r1.below hb2 r1.lt;have s2:=r2.below hb2 r2.lt;have s3:=r3.below hb2 r3.lt;have s4:=r4.below hb2 r4.lt;obtain ⟨⟨k0,k1',k2'⟩,g0,g1,g2⟩:=s3.three;have hq3:=s3.lt;have hq3':w.heap.size+1+1+1<W2.heap.size:=hq3;have hB2:=hB1.trans (hb2.mono hB1.size);have hsB2:=hB2.size)
   exact ⟨(((((keeps_below hb2).trans (KeepsOthers.setCell _ _ _)).trans (KeepsOthers.setCell _ _ _)).trans (KeepsOthers.setCell _ _ _)).trans (KeepsOthers.alloc _ _)).from _,⟨f,(s3.set3 _ _ _).alloc _,⟨rfl,pre,x,rfl,HP.out,HE.out,by rw[HOV.out,HFX.out]⟩⟩,(below_set3 hB2 (show w.heap.size≤w.heap.size+3 by omega) _ _ _).alloc (by simp[World.setCell];omega) _⟩
 case done=>
  rintro D ys W hD hys ⟨⟨⟨r1,r2,r3,r4⟩,HP⟩,hB1⟩ hK
  have HF:Hid (exprF s n q.left.length q.right=ft0):=by
   show _=_
   rw[←exprF_list]
   refine fstL_end fun i _ y hy=>HP.out i y ?_
   rw[hys];exact hy
  obtain ⟨⟨k0,k1',k2'⟩,g0,g1,g2⟩:=r3.three
  gi_wp2
  have r5:=r3.set3 (.int .i64 0) (.int .i64 0) (.int .i64 0)
  have hK3:=(((KeepsOthers.setCell W ⟨w.heap.size+3,0,none⟩ (.int .i64 0)).trans (KeepsOthers.setCell _ ⟨w.heap.size+3,1,none⟩ (.int .i64 0))).trans (KeepsOthers.setCell _ ⟨w.heap.size+3,2,none⟩ (.int .i64 0))).same D _ hK rfl
  refine ⟨by simp,.inl ⟨_,_,rfl,run_takeDeferred hK3,?_⟩⟩
  have r6:=Row.own r5 (grownBy_putObj' _ D (.deferred none)) (fun r e=>by cases e;exact ⟨_,hK3,rfl⟩)
  exact ⟨.agg ftC0,res1 rfl Tryz.underlying31 rfl (by kernel_rfl) rfl r6,(congrArg (fun f=>Ending.returned (ftV f)) HF.out).symm,(below_set3 hB1 (by omega) _ _ _).trans (belowK_b (w:=w) (Nat.le_refl _) _ D _ _ (by omega) hK3 rfl rfl)⟩
 case stop=>
  rintro D c pre W hD hpre ⟨⟨f,r3,HP⟩,hB1⟩ hK
  obtain ⟨rfl,l,x,rfl,hso,hne,hof⟩:=HP.out
  have HF:Hid (exprF s n q.left.length q.right=f):=by
   show _=_
   rw[stop_expr hso hpre (by rw[hof];exact hne),hof]
  clear HP hso hne hof
  gi_wp2
  refine ⟨by simp,.inl ⟨_,_,rfl,run_takeDeferred hK,?_⟩⟩
  have r6:=Row.own r3 (grownBy_putObj' W D (.deferred none)) (fun r e=>by cases e;exact ⟨_,hK,rfl⟩)
  exact ⟨.agg (ftC f),res1 rfl Tryz.underlying31 rfl (by kernel_rfl) rfl r6,(congrArg (fun f=>Ending.returned (ftV f)) HF.out).symm,hB1.trans (belowK_b (w:=w) (Nat.le_refl _) W D _ _ (by omega) hK rfl rfl)⟩
open Go.RowKit
attribute [local go_sem ↓] Go.wp_at_zero Go.wp_at_succ
theorem take_name {s:List Nd} {k:Nat} {nm:ByteArray}:nm∈(s.take k).map Nd.name↔nm∈(s.map Nd.name).take k:=by rw[List.map_take]
theorem names_scope (s:List Nd) (A:Option Addr) (cap:Nat) (w:World) (h1:s.length≤cap) (h2:cap≤maxLen) (h:Nds w w.heap.size A s):
  Calls Tryz.prog 121 #[srcV s A cap] w fun r w'=>r= .returned (ftV (fstL (nameF s) s))∧Below w.heap.size w w':=by
 refine' zq130
 refine' zq186
 refine' zq233
 refine' zq30
 clear h
 go_enter Tryz.func121,Tryz.ntmps121
 go_upto_region 1 with (fail)
 refine' zq184
 have l1:=rf1.lt
 have c0:=rs1.src
 go_wp2_with fail
 clear c0
 go_loopw[10] (fun i wr=>∃k:Nat,k≤s.length∧i= .int .i64 k∧Hid (∀j,j<k→∀x,s[j]? =some x→(nameF s j x).err=0)∧Below W1.heap.size W1 wr) (fun i _=>s.length-(intOf i).toNat)
 case atStart=>exact ⟨0,Nat.zero_le _,rfl,fun j h=>absurd h (by omega),Below.refl _ _⟩
 case round=>
  refine' zq56
  have rr:=rf1.below hbr l1
  have rs:=rs1.below hbr rs1.lt
  have lr:=rr.lt
  have hB:=b1.trans (hbr.mono hs1)
  have c0:=rs.src
  by_cases hlt:k<s.length
  ·obtain ⟨b,off,n,a,hA,hb,hn,hat,d0,d1,d2,d3,d4,d5,d6⟩:=(nds_keep HS.out (keeps_of (hbr.mono hs1)) (Nat.le_refl _)).nd hlt
   subst hA
   have HX:=Lib.hid hn
   clear hn hat
   have rn:=Row.new wr (ndArr n a) 39
   have ba:Below wr.heap.size wr (wr.alloc (.cells (ndArr n a) 39)):=bE
   have rs2:=rs.below ba rs.lt
   have rr2:=rr.below ba rr.lt
   have hB2:=hB.trans (ba.mono (by omega))
   have hbr2:=hbr.trans (ba.mono hszr)
   have HNS:Hid (∀W,Below wr.heap.size wr W→Nds W W.heap.size (some ⟨b,off,none⟩) (s.take k)):=fun W hW=>(nds_keep (HS.out) (keeps_of ((hbr.mono hs1).trans (hW.mono (by omega)))) (by have:=hW.size;omega)).take k
   go_upto_region 4 with (fail)
   generalize hW2:wr.alloc (.cells (ndArr n a) 39)=W2 at*
   clear hW2
   clear d0 d1 d2 d3 d4 d5 d6 c0
   have hs2:=ba.size
   have hmk:(s.take k).length=k:=by rw[List.length_take];omega
   have HMK:=Lib.hid hmk
   clear hmk
   obtain ⟨d0,d1,d2,d3,d4,d5,d6⟩:=rn.nd
   have c0:=rs2.src
   have i0:(0:Int)≤(k:Int):=by omega
   have i1:(k:Int)≤(cap:Int):=by omega
   have hne1:w.heap.size≠W2.heap.size:=by have:=rs2.lt;omega
   have hne2:wr.heap.size≠W2.heap.size:=by have:=rn.lt;omega
   by_cases hP:n.name∈(s.map Nd.name).take k
   ·have HC:=Lib.hid (cB_true (take_name.2 hP))
    have HF:Hid (fstL (nameF s) s=⟨23,n.line,n.col⟩):=by
     have e:nameF s k n=⟨23,n.line,n.col⟩:=by unfold nameF;rw[if_pos hP]
     show _=_
     rw[←e]
     exact fstL_stop HN.out HX.out (by rw[e];show (23:Int)≠0;decide)
    clear hP
    go_cut[6] (fun v6 W=>v6= .bool true∧Below W2.heap.size W2 W)
    case first=>
     refine' zq23
    case rest=>
     obtain ⟨rfl,hbc⟩:=hcut
     have rn3:=rn.below hbc rn.lt
     have rr3:=rr2.below hbc rr2.lt
     have b3:=hB2.trans (hbc.mono (Below.size hB2))
     clear d0 d1 d2 d3 d4 d5 d6 c0
     obtain ⟨y0,y1,y2,y3,y4,y5,y6⟩:=rn3.nd
     refine' zq86
     have q9:Below wc.heap.size wc w9:=Below.trans bE (hb9.mono lE)
     have rf9:=rr3.below q9 rr3.lt
     have b9:=Below.trans b3 (q9.mono (Below.size b3))
     refine' zq5
   ·have HC:=Lib.hid (cB_false (fun g=>hP (take_name.1 g)))
    have HN':=Lib.hid (step_uptoI (P:=fun j x=>(nameF s j x).err=0) HN.out HX.out (by unfold nameF;rw[if_neg hP]))
    clear hP
    go_cut[6] (fun v6 W=>v6= .bool false∧Below W2.heap.size W2 W)
    case first=>
     refine' zq23
    case rest=>
     obtain ⟨rfl,hbc⟩:=hcut
     go_wp2_with fail
     go_roundw
     case rel=>exact ⟨k+1,by omega,by go_num,HN',hbr2.trans (hbc.mono (Below.size hbr2))⟩
     case measure=>first|(simp[intOf];omega)|simp[intOf]
  ·obtain rfl:k=s.length:=by omega
   have HF:=Lib.hid (fstL_end HN.out)
   obtain ⟨⟨k0,k1,k2⟩,h0,h1,h2⟩:=rr.three
   go_wp2_with fail
   exact bodyPost_ret (res1 rfl Tryz.underlying31 rfl (by kernel_rfl) rfl (rr.set3 _ _ _)) rfl ⟨(congrArg (fun f=>Ending.returned (ftV f)) HF.out).symm,below_set3 hB (by first|omega|(simp;omega)|simp) _ _ _⟩
def DefZ (n:Nd) (nm:ByteArray) (a b:Int):Prop:=(∃i k:Nat,a=i∧b=k∧DefAt n nm i k)∨(a= -1∧b= -1∧NoDef n nm)
theorem rdefine_any (n:Nd) (a:NdA) (nm:ByteArray) (w:World) (h:NdAt w w.heap.size n a):
  Calls Tryz.prog 185 #[ndV n a,.string nm] w fun r w'=>(∃x y:Int,r= .returned (.tuple #[.int .i64 x,.int .i64 y])∧Hid (DefZ n nm x y))∧Below w.heap.size w w':=by
 refine' zq172
 go_enter Tryz.func185,Tryz.ntmps185
 go_upto_region 1 with (fail)
 generalize w.alloc (.cells (ndArr n a) 39)=W1 at*
 obtain ⟨c0,c1,c2,c3,c4,c5,c6⟩:=r1.nd
 go_wp2_with fail
 go_loop[6] (fun i=>∃k:Nat,k≤n.eqs.length∧i= .int .i64 k∧Hid (∀j,j<k→∀q,n.eqs[j]? =some q→nm∉q.left)) (fun i=>n.eqs.length-(intOf i).toNat)
 case atStart=>exact ⟨0,Nat.zero_le _,rfl,fun j h=>absurd h (by omega)⟩
 case round=>
  obtain ⟨k,hk,rfl,HN⟩:=hrel
  by_cases hlt:k<n.eqs.length
  ·obtain ⟨b,off,q,A1,k1,A2,k2,haq,hb,hq,ok,lq1,mq1,sl1,lq2,mq2,sl2,d0,d1,d2,d3,d4,d5,d6,d7,d8⟩:=HQ.out.eqn hlt
   have HX:=Lib.hid hq
   have HS1:=Lib.hid sl1
   rw[haq] at c4
   have HAQ:=Lib.hid haq
   refine' zq148
   clear hq ok sl1 sl2 haq lq2 mq2
   go_wp2_with fail
   go_loop[7] (fun i=>∃j:Nat,j≤q.left.length∧i= .int .i64 j∧Hid (∀i,i<j→∀x,q.left[i]? =some x→x≠nm)) (fun i=>q.left.length-(intOf i).toNat)
   case atStart=>exact ⟨0,Nat.zero_le _,rfl,fun j h=>absurd h (by omega)⟩
   case round=>
    obtain ⟨j,hj,rfl,HJ⟩:=hrel
    by_cases hlj:j<q.left.length
    ·obtain ⟨b',off',y,rfl,hb',hy,ys,f0⟩:=HS1.out.str hlj
     have HY:=Lib.hid hy
     clear hy
     by_cases e:y=nm
     ·have e1:=beq_yes e
      have HF:Hid (DefZ n nm k j):= .inl ⟨k,j,rfl,rfl,q,HX.out,by rw[HY.out,e],HN.out,HJ.out⟩
      clear e
      go_wp2_with fail
      go_ret2
      exact ⟨⟨_,_,rfl,HF⟩,b1⟩
     ·have e1:=beq_no e
      have HJ':=Lib.hid (step_upto (P:=fun x:ByteArray=>x≠nm) HJ.out HY.out e)
      clear e
      go_wp2_with fail
      go_round
      case rel=>exact ⟨j+1,by omega,by go_num,HJ'⟩
      case measure=>first|(simp[intOf];omega)|simp[intOf]
    ·obtain rfl:j=q.left.length:=by omega
     have HN':Hid (∀j,j<k+1→∀q,n.eqs[j]? =some q→nm∉q.left):=step_upto (P:=fun q:Eqn=>nm∉q.left) HN.out HX.out (fun g=>by
      obtain ⟨i,hi⟩:=List.getElem?_of_mem g
      exact HJ.out i (List.getElem?_eq_some_iff.1 hi).1 nm hi rfl)
     go_wp2_with fail
     go_round
     case rel=>exact ⟨k+1,by omega,by go_num,HN'⟩
     case measure=>first|(simp[intOf];omega)|simp[intOf]
  ·obtain rfl:k=n.eqs.length:=by omega
   have HF:Hid (DefZ n nm (-1) (-1)):= .inr ⟨rfl,rfl,mem_upto HN.out⟩
   go_wp2_with fail
   go_ret2
   exact ⟨⟨_,_,rfl,HF⟩,b1⟩
theorem sdefine_any (n:Nd) (a:NdA) (nm:ByteArray) (w:World) (h:NdAt w w.heap.size n a):
  Calls Tryz.prog 265 #[ndV n a,.string nm] w fun r w'=>((∃i k:Nat,r= .returned (.tuple #[.int .i64 i,.int .i64 k,.bool true])∧Hid (DefAt n nm i k))∨(r= .returned (.tuple #[.int .i64 0,.int .i64 0,.bool false])∧Hid (NoDef n nm)))∧Below w.heap.size w w':=by
 refine' zq172
 go_enter Tryz.func265,Tryz.ntmps265
 refine' zq63
 obtain ⟨c0,c1,c2,c3,c4,c5,c6⟩:=r1.nd
 go_wp2_with fail
 clear c0 c1 c2 c3 c4 c5 c6
 go_loopw[13] (fun i wr=>∃k:Nat,k≤n.eqs.length∧i= .int .i64 k∧Hid (∀j,j<k→∀q,n.eqs[j]? =some q→nm∉q.left)∧Below W1.heap.size W1 wr) (fun i _=>n.eqs.length-(intOf i).toNat)
 case atStart=>exact ⟨0,Nat.zero_le _,rfl,fun j h=>absurd h (by omega),Below.refl _ _⟩
 case round=>
  refine' zq56
  have hB:=b1.trans (hbr.mono hs1)
  by_cases hlt:k<n.eqs.length
  ·obtain ⟨b,off,q,A1,k1,A2,k2,haq,hb,hq,ok,lq1,mq1,sl1,lq2,mq2,sl2,d0,d1,d2,d3,d4,d5,d6,d7,d8⟩:=(eqs_keep HQ.out (keeps_of (hbr.mono hs1)) (Nat.le_refl _)).eqn hlt
   have HX:=Lib.hid hq
   have HAQ:=Lib.hid haq
   rw[haq]
   refine' zq261
   have HI:=Lib.hid (fun W (hW:Below wr.heap.size wr W)=>index_str q.left nm A1 k1 w.heap.size W lq1 mq1 (strs_keep sl1 (keeps_of (hW.mono (by omega))) (Nat.le_refl _)))
   clear hq ok sl1 sl2 haq lq2 mq2
   go_wp2_with fail
   refine (HI.out _ (by exact ba)).mono ?_
   rintro e w' ⟨rfl,rfl⟩
   rcases idx_cases q.left nm with ⟨j,e1,e2,e3⟩|⟨e1,e2⟩
   ·have HF:Hid (DefAt n nm k j):=⟨q,HX.out,e2,HN.out,e3⟩
    rw[e1]
    clear e1 e2 e3
    go_wp2_with fail
    go_ret3
    exact ⟨.inl ⟨_,_,rfl,HF⟩,hB.trans (ba.mono (by omega))⟩
   ·have HN':=Lib.hid (step_upto (P:=fun q:Eqn=>nm∉q.left) HN.out HX.out e2)
    rw[e1]
    clear e1 e2
    go_wp2_with fail
    go_roundw
    case rel=>exact ⟨k+1,by omega,by go_num,HN',hbr.trans (ba.mono hszr)⟩
    case measure=>first|(simp[intOf];omega)|simp[intOf]
  ·obtain rfl:k=n.eqs.length:=by omega
   have HF:Hid (NoDef n nm):=mem_upto HN.out
   go_wp2_with fail
   go_ret3
   exact ⟨.inr ⟨rfl,HF⟩,hB⟩
end Go.Proofs.YtgjfkidbfmbjoaaGreat
