/-
  Which nodes a node calls: the contract of calls.Uses. Which node hangs on itself first, and an order of nodes in which each stands behind those it calls: plain. How large a source is, plain: a relation by the calls.
-/
import Derived.Test.YtdkgkacnjdnpoaaGreatZz
import Derived.Test.YtdkgkacnjdnpoaaGreatSrt
import Derived.Test.YtdkgkacnjdnpoaaGreatScI
import Derived.Test.YtdkgkacnjdnpoaaGreatRepL
import Derived.RangeFuncWrites
set_option maxHeartbeats 4000000
set_option maxRecDepth 100000
namespace Go.Proofs.YtdkgkacnjdnpoaaGreat
open Go.RowKit Go.Shelf
attribute [local go_sem] Oper.semAt_some
abbrev mark (D:Nat):Deferred:={target:= .collected D,args:= #[]}
theorem upd_put {X:Nat→Prop} (w:World) (D:Nat) (o:Obj) (hX:X D):Upd X w (w.putObj D o):=by
 have h:=grownBy_putObj' w D o
 exact ⟨h.os,h.tape,h.output,h.size,fun i hi hx=>h.block i hi (fun e=>hx (by cases e;exact hX))⟩
theorem leaves_marks {P:Program} {F:Fence} {n:Nat} {fn:Func} {tmps:Array Value} {R:Ending→World→Prop}:∀(marks:List Nat) (w:World),marks.Nodup→(∀D∈marks,w.heap[D]? =some (.deferred (some [])))→
  (∀w',Upd (fun b=>b∈marks) w w'→LeavesInM F n P fn tmps R [] .returning w')→LeavesInM F n P fn tmps R (marks.map mark) .returning w
 | [],w,_,_,h=>h w (Upd.refl _ w)
 |D::marks,w,hn,hd,h=>by
  rw[List.nodup_cons] at hn
  refine ⟨by simp,.inl ⟨D,_,rfl,run_takeDeferred (hd D (by simp)),?_⟩⟩
  refine leaves_marks marks _ hn.2 (fun E hE=>?_) (fun w' hu=>h w' ((upd_put w D _ (by simp)).trans (hu.mono fun k hk=>by simp[hk])))
  have hne:E≠D:=fun e=>hn.1 (e▸hE)
  exact ((grownBy_putObj' w D (.deferred none)).block E (Array.getElem?_eq_some_iff.1 (hd E (by simp[hE]))).1 (fun e=>hne (by cases e;rfl))).trans (hd E (by simp[hE]))
noncomputable def callsOf (e:Ex):List ByteArray:=((exList e).filter (fun x=>cB (x.op=4))).map Ex.name
noncomputable def callTo (n:Nd) (k:Nat):List ByteArray:=((n.eqs.take k).map fun q=>callsOf q.right).flatten
noncomputable def usesF (n:Nd):List ByteArray:=insAll [] (callTo n n.eqs.length)
theorem callTo_zero (n:Nd):callTo n 0=[]:=rfl
theorem callTo_succ {n:Nd} {k:Nat} {q:Eqn} (h:n.eqs[k]? =some q):callTo n (k+1)=callTo n k++callsOf q.right:=by
 unfold callTo
 refine' zq183
 simp
theorem wpListIn_mets {F:Fence} {nF:Nat} {w:World} {ops:Array Oper} {rest:List Oper} {o:Oper} {a:Act} {Q:Exit→Act→World→Prop} (hg:o.guard=none) (m x v:Operand) (hop:o.op=Op.mapUpdate 85 m x v)
  (b:Nat) (l:List ByteArray) (hm:a.eval m= .map (some b)) (h:MetS w b l) (hn:l.length<1000000) (nm:ByteArray) (hx:a.eval x= .string nm) (hs:nm.size≤maxLen) (hv:a.eval v= .int .i64 1)
  (hK:∀w',MetS w' b (putN l nm)→w.grownBy w' (some b)→wpListIn F nF Tryz.prog ops Q rest (a.put o.dst undef) w'):wpListIn F nF Tryz.prog ops Q (o::rest) a w:=by
 refine wpListIn_plain hg fun K' hK'=>?_
 obtain ⟨w',hrun,r1,r2⟩:=h.put hs hn
 unfold Oper.wpIn
 refine ⟨by simp[Oper.about,hop],?_⟩
 rw[Oper.semAt_plain F _ _ (by rw[hop];intro c hc';cases hc')]
 refine' zq158
theorem keys_all (b:Nat) (W:World):Calls Tryz.prog 183 #[.map (some b)] W fun e w'=>e= .returned (.func (.func 196) #[] #[.pointer (some ⟨W.heap.size,0,none⟩)])∧w'=W.alloc (.cells #[.map (some b)] 85):=
 callsIn_wide.1 (keys_any (some b) W)
theorem sorted_all {w:World} {b:Nat} {l:List ByteArray} (h:MetS w b l) (hl:l.length≤1000000):
  Calls Tryz.prog 182 #[.func (.func 196) #[] #[.pointer (some ⟨w.heap.size,0,none⟩)]] (w.alloc (.cells #[.map (some b)] 85)) fun e w'=>∃v:Value,e= .returned v∧SlV w' w'.heap.size 1 isStr v (insAll [] l)∧Below w.heap.size w w':=
 callsIn_wide.1 (sorted_met h hl)
theorem keepC_map {X:Nat→Prop} {W W':World} {b:Nat} {l:List ByteArray} (h:MetS W b l) (hg:W.grownBy W' (some b)):KeepC X W W':=by
 obtain ⟨es,clock,hm⟩:=h.isMap
 refine ⟨hg.size,fun c cs t f _ hc=>(hg.block c (Array.getElem?_eq_some_iff.1 hc).1 (fun e=>?_)).trans hc⟩
 injection e with e
 subst e
 rw[hm] at hc
 cases hc
theorem row_map {W W':World} {b c:Nat} {l:List ByteArray} {cs:Array Value} {t:TypeId} (r:Row W c cs t) (h:MetS W b l) (hg:W.grownBy W' (some b)):Row W' c cs t:=by
 obtain ⟨es,clock,hm⟩:=h.isMap
 exact r.own hg (fun r e=>by cases e;exact ⟨_,hm,rfl⟩)
noncomputable def callsN (l:List ExN):List ByteArray:=((l.map ExN.ex).filter (fun x=>cB (x.op=4))).map Ex.name
theorem callsN_snoc1 {l:List ExN} {x:ExN} (h:x.ex.op=4):callsN (l++ [x])=callsN l++ [x.ex.name]:=by
 unfold callsN
 simp[cB_true h]
theorem callsN_snoc0 {l:List ExN} {x:ExN} (h:x.ex.op≠4):callsN (l++ [x])=callsN l:=by
 unfold callsN
 simp[cB_false h]
theorem callsN_end {l:List ExN} {e:Ex} (h:l.map ExN.ex=exList e):callsN l=callsOf e:=by unfold callsN callsOf;rw[h]
def MarksAt (W:World) (marks:List Nat):Prop:=marks.Nodup∧∀D∈marks,W.heap[D]? =some (.deferred (some []))
theorem MarksAt.lt {W:World} {marks:List Nat} (h:MarksAt W marks) {D:Nat} (hD:D∈marks):D<W.heap.size:=(Array.getElem?_eq_some_iff.1 (h.2 D hD)).1
theorem MarksAt.below {W W':World} {marks:List Nat} (h:MarksAt W marks) (hb:Below W.heap.size W W'):MarksAt W' marks:=⟨h.1,fun D hD=>(hb.block D (h.lt hD)).trans (h.2 D hD)⟩
theorem MarksAt.grown {W W':World} {marks:List Nat} {row:Option Nat} (h:MarksAt W marks) (hg:W.grownBy W' row) (hr:∀r,row=some r→r∉marks):MarksAt W' marks:=
 ⟨h.1,fun D hD=>(hg.block D (h.lt hD) (fun e=>hr D e.symm hD)).trans (h.2 D hD)⟩
theorem MarksAt.map {W W':World} {marks:List Nat} {b:Nat} {l:List ByteArray} (h:MarksAt W marks) (hm:MetS W b l) (hg:W.grownBy W' (some b)):MarksAt W' marks:=by
 obtain ⟨es,clock,hc⟩:=hm.isMap
 refine h.grown hg fun r e hr=>?_
 cases e
 have:=h.2 _ hr
 rw[hc] at this
 cases this
theorem MarksAt.more {W:World} {marks:List Nat} {D:Nat} (h:MarksAt W marks) (hn:D∉marks) (hD:W.heap[D]? =some (.deferred (some []))):MarksAt W (D::marks):=
 ⟨List.nodup_cons.2 ⟨hn,h.1⟩,fun E hE=>by
  rcases List.mem_cons.1 hE with rfl|hE
  ·exact hD
  ·exact h.2 E hE⟩
theorem MarksAt.cell {W W':World} {marks:List Nat} (h:MarksAt W marks) (hu:Upd (fun b=>b∈marks) W W') {p:Addr} {u:Value} (hc:W.cell? p=some u):W'.cell? p=some u:=by
 by_cases hp:p.block∈marks
 ·have:=h.2 _ hp
  simp only[World.cell?,this] at hc
  cases hc
 ·have hl:p.block<W.heap.size:=by
   refine Classical.byContradiction fun g=>?_
   have:W.heap[p.block]? =none:=Array.getElem?_eq_none (by omega)
   simp only[World.cell?,this] at hc
   cases hc
  have:=hu.block p.block hl hp
  simp only[World.cell?] at hc⊢
  rw[this];exact hc
theorem uses_any (n:Nd) (a:NdA) (w:World) (sm:NdSm n) (hn:NdAt w w.heap.size n a):
  Calls Tryz.prog 144 #[ndV n a] w fun r w'=>(∃v,r= .returned v∧SlV w' w'.heap.size 1 isStr v (usesF n))∧Below w.heap.size w w':=by
 refine (callsIn_wide (n:=9)).1 ?_
 have HN:Hid (∀W,Below w.heap.size w W→NdAt W W.heap.size n a):=fun W hW=>hn.keep (keeps_of hW) hW.size
 have HSM:=Lib.hid sm
 have hmm:= @run_makeMap Tryz.prog
 have hnl:=sm.eqs
 have hcq:=hn.lq
 have hmq:=hn.mq
 refine' zq182
 clear hn sm hmq
 have rn0:Row (((w.alloc (.cells (ndArr n a) 58)).alloc (.map #[] 0)).alloc (.cells #[.map (some (w.heap.size+1))] 85)) w.heap.size (ndArr n a) 58:=((Row.new w _ _).alloc _).alloc _
 have rm0:Row (((w.alloc (.cells (ndArr n a) 58)).alloc (.map #[] 0)).alloc (.cells #[.map (some (w.heap.size+1))] 85)) (w.heap.size+2) #[.map (some (w.heap.size+1))] 85:=rowNew3 w _ _ _ _
 have ms0:MetS (((w.alloc (.cells (ndArr n a) 58)).alloc (.map #[] 0)).alloc (.cells #[.map (some (w.heap.size+1))] 85)) (w.heap.size+1) []:=by
  have h:=(mets_made (w.alloc (.cells (ndArr n a) 58))).alloc (.cells #[.map (some (w.heap.size+1))] 85)
  rwa [World.size_alloc] at h
 have b0:Below w.heap.size w (((w.alloc (.cells (ndArr n a) 58)).alloc (.map #[] 0)).alloc (.cells #[.map (some (w.heap.size+1))] 85)):=bE
 refine callsIn_of_wp_marks Tryz.func144 rfl trivial ?_ rfl
 simp only[Tryz.ntmps144,List.size_toArray,List.length_cons,List.length_nil,Nat.reduceAdd,Nat.reduceSub,Array.replicate_succ,Array.replicate_zero,List.push_toArray,List.append_toArray,List.nil_append,List.cons_append]
 gi_wp2_with (fail)
 obtain ⟨W0,hW0⟩:∃W0,((w.alloc (.cells (ndArr n a) 58)).alloc (.map #[] 0)).alloc (.cells #[.map (some (w.heap.size+1))] 85)=W0:=⟨_,rfl⟩
 rw[hW0] at rn0 rm0 ms0 b0⊢
 clear hW0
 refine wpIn_loop (fun a' wr=>∃(k:Nat) (marks:List Nat) (u5 u12 u13 u14 u15 u16 u17 u25:Value),a'={tmps:= #[ndV n a,.pointer (some ⟨w.heap.size,0,none⟩),.slice none 0 0,.pointer (some ⟨w.heap.size+1+1,0,none⟩),undef,u5,undef,.map (some (w.heap.size+1)),.pointer (some ⟨w.heap.size,4,none⟩),.slice a.aq n.eqs.length a.cq,.int .i64 n.eqs.length,.int .i64 k,u12,u13,u14,u15,u16,u17,undef,undef,undef,undef,undef,undef,undef,u25,undef,undef,undef],defers:=marks.map mark}∧
   k≤n.eqs.length∧(Row wr w.heap.size (ndArr n a) 58∧Row wr (w.heap.size+2) #[.map (some (w.heap.size+1))] 85)∧(∃L,MetS wr (w.heap.size+1) L∧L.length≤k*900∧Hid (∀x,x∈L↔x∈callTo n k))∧Below w.heap.size w wr∧Hid (MarksAt wr marks∧∀D∈marks,w.heap.size≤D))
  (fun a' _=>n.eqs.length-(intOf (a'.tmps.getD 11 undef)).toNat) ⟨0,[],_,_,_,_,_,_,_,_,rfl,Nat.zero_le _,⟨rn0,rm0⟩,⟨[],ms0,by simp,fun x=>Iff.rfl⟩,b0,⟨⟨List.nodup_nil,fun D h=>by cases h⟩,fun D h=>by cases h⟩⟩ ?_
 clear rn0 rm0 ms0 b0
 rintro _ wr ⟨k,marks,u5,u12,u13,u14,u15,u16,u17,u25,rfl,hk,⟨rn,rm⟩,⟨L,ms,hL,HL⟩,hB,HM⟩
 have hsB:=hB.size
 have hl2:=rm.lt
 by_cases hlt:k<n.eqs.length
 rotate_left 1
 ·obtain rfl:k=n.eqs.length:=by omega
  have cm:wr.cell? ⟨w.heap.size+1+1,0,none⟩=some (.map (some (w.heap.size+1))):=(rm.cell 0).trans rfl
  have hl2':w.heap.size+1+1<wr.heap.size:=hl2
  have HS:=Lib.hid (sorted_all ms (by omega))
  have HU:Hid (insAll [] L=usesF n):=rising_eq (insAll_rising List.Pairwise.nil) (insAll_rising List.Pairwise.nil) fun x=>by unfold usesF;rw[insAll_mem,insAll_mem,HL.out x]
  rw[HU.out] at HS
  clear HU HL
  gi_wp2_with (first|(refine ⟨trivial,?_⟩;gi_at_call 183;refine (callsIn_wide.2 (keys_all _ _)).mono ?_;rintro e w' ⟨rfl,rfl⟩)|(refine ⟨trivial,?_⟩;gi_at_call 182;refine (callsIn_wide.2 HS.out).mono ?_;rintro e w9 ⟨v,rfl,hS,hb9⟩))
  have HM9:=HM.out.1.below hb9
  refine leaves_marks marks _ HM9.1 HM9.2 fun w' hu=>?_
  have hB9:=hB.trans (hb9.mono hsB)
  exact ⟨v,by simp[results,Tryz.f144,go_sem],⟨v,rfl,(hS.keep (fun p u _ hc=>HM9.cell hu hc) (Nat.le_refl _) (fun _ _ _ h=>h)).more hu.size⟩,hB9.trans (hu.below HM.out.2 hB9.size)⟩
 obtain ⟨b,off,q,A1,k1,A2,k2,hA,hb,hq,ok,lq1,mq1,sl1,lq2,mq2,sl2,d0,d1,d2,d3,d4,d5,d6,d7,d8⟩:=(HN.out wr hB).sq.eqn hlt
 rw[hA]
 have HQ:=Lib.hid hq
 have HSQ:=Lib.hid (HSM.out.eq q (List.mem_of_getElem? hq))
 have HOK:=Lib.hid ok.right
 have HS2:=Lib.hid sl2
 have mq1':k1≤9223372036854775807:=by unfold maxLen at mq1;omega
 refine' zq31
 have rm2:=rm.below b2 rm.lt
 have ms2:=ms.below b2 ms.lt
 have HM2:=Lib.hid (HM.out.1.below b2)
 have hB2:=hB.trans (b2.mono hsB)
 have hML:Hid (∀D∈marks,D<W2.heap.size):=fun D hD=>HM2.out.lt hD
 clear rn rm ms
 refine wpIn_rangeFunc_ownH rfl (by decide) (gf:=71) (lb:= #[.pointer (some ⟨wr.heap.size+1,0,none⟩)]) rfl trivial (enters_of Tryz.func71 (by kernel_rfl) rfl)
  (all_stops _ rfl _ trivial trivial rfl (wr.heap.size+1) wr.heap.size (fun _=>False) q.right A2 k2 W2 (fun _ h=>h.elim) HOK.out lq2 mq2 (by omega) (by omega) (fun j u hu=>by rw[bE0.cell];simpa[exCells] using hu) (exs_keep HS2.out (keeps_of b2) (Nat.le_refl _)))
  (fun h k=>h.trans k) (fun W l o o' _ h ho _=>keepC_putObj W l o o' h ho) (Below.refl _ _) (fun _=>rfl)
  (fun pre W=>((Row W w.heap.size (ndArr n a) 58∧Row W (w.heap.size+2) #[.map (some (w.heap.size+1))] 85)∧(∃L',MetS W (w.heap.size+1) L'∧L'.length≤L.length+pre.length∧Hid (∀x,x∈L'↔x∈L∨x∈callsN pre))∧MarksAt W marks)∧Below w.heap.size w W)
  (fun _ _ _=>False)
  (OwnFrom.and (OwnFrom.and (OwnFrom.and (fun s X Y row hs hg hr=>hs.own hg (fun r e=>(hr r e).2)) (fun s X Y row hs hg hr=>hs.own hg (fun r e=>(hr r e).2)))
   (OwnFrom.and (fun s X Y row hs hg hr=>by obtain ⟨L',g1,g2,g3⟩:=hs;exact ⟨L',g1.grown hg (fun e=>by have:=(hr _ e.symm).1;omega),g2,g3⟩) (fun s X Y row hs hg hr=>hs.grown hg (fun r e hm=>by have:=(hr r e).1;have:=hML.out r hm;omega)))) (ownFrom_below (Nat.le_refl _) (by omega)))
  (fun _ _ _ _ _ hs _ _=>hs)
  ⟨⟨⟨rn2,rm2⟩,⟨L,ms2,by simp,fun x=>by simp[callsN]⟩,HM2.out⟩,hB2⟩
  (fun x a' W=>∃Bx,w.heap.size+2<Bx∧Row W Bx (exA x.ex x.A x.cap) 63∧a'={tmps:= #[ndV n a,.pointer (some ⟨w.heap.size,0,none⟩),.slice none 0 0,.pointer (some ⟨w.heap.size+1+1,0,none⟩),undef,.pointer (some ⟨wr.heap.size,0,none⟩),.pointer (some ⟨Bx,0,none⟩),.map (some (w.heap.size+1)),.pointer (some ⟨w.heap.size,4,none⟩),.slice (some ⟨b,off,none⟩) n.eqs.length a.cq,.int .i64 n.eqs.length,.int .i64 k,.bool true,.pointer (some ⟨b,off+k*9,none⟩),eqV q A1 k1 A2 k2,.pointer (some ⟨wr.heap.size,1,none⟩),exV q.right A2 k2,.func (.func 71) #[] #[.pointer (some ⟨wr.heap.size+1,0,none⟩)],x.v,undef,undef,undef,undef,undef,undef,u25,undef,undef,undef],defers:=[]})
  (fun x a' _ X Y row hs hg hr=>by obtain ⟨Bx,h1,h2,h3⟩:=hs;exact ⟨Bx,h1,h2.own hg (fun r e=>(hr r e).2),h3⟩)
  ?assign ?body ?done ?stop
 case assign=>
  rintro l pre x W K ⟨⟨⟨r1,r2⟩,⟨L',m1,hl1,HL1⟩,HM1⟩,hB1⟩ hK
  gi_wp2
  exact hK _ _ ((KeepsOthers.alloc _ _).from _) (KeepC.alloc _ _ _) ⟨⟨⟨r1.alloc _,r2.alloc _⟩,⟨L',m1.alloc _,hl1,HL1⟩,HM1.below ((Below.refl _ _).alloc (Nat.le_refl _) _)⟩,hB1.alloc hB1.size _⟩ ⟨W.heap.size,r2.lt,Row.new W _ _,rfl⟩
 case body=>
  rintro l pre x a' W hl _ ⟨⟨⟨r1,r2⟩,⟨L',m1,hl1,HL1⟩,HM1⟩,hB1⟩ ⟨Bx,hBx,bX,rfl⟩ hlt2
  obtain ⟨x0,x1,x2,x3,x4,x5⟩:=bX.ex6
  have cm:W.cell? ⟨w.heap.size+1+1,0,none⟩=some (.map (some (w.heap.size+1))):=(r2.cell 0).trans rfl
  have hl2':w.heap.size+1+1<W.heap.size:=r2.lt
  have hnx:=x.ok.name
  have hlen:L'.length<1000000:=by
   have:=HSQ.out.right.size
   omega
  by_cases h4:x.ex.op=4
  ·have h4':(x.ex.op==4)=true:=eq_yes h4
   have HC:=Lib.hid (callsN_snoc1 (l:=pre) h4)
   clear h4
   gi_wp2_with (gi_at_mapUpdate;refine wpListIn_mets rfl _ _ _ rfl (w.heap.size+1) L' rfl m1 hlen x.ex.name rfl hnx rfl ?_;intro w1 m2 hg2)
   refine ⟨KeepsFrom.of_grownBy hg2 (fun j e=>by cases e;omega),keepC_map m1 hg2,⟨⟨⟨row_map r1 m1 hg2,row_map r2 m1 hg2⟩,⟨putN L' x.ex.name,m2,?_,?_⟩,HM1.map m1 hg2⟩,hB1.grown hg2 hB1.size (fun k e=>by cases e;omega)⟩⟩
   ·have:=putN_len (l:=L') (nm:=x.ex.name)
    simp only[List.length_append,List.length_cons,List.length_nil]
    omega
   ·show ∀_,_
    intro y
    rw[HC.out,putN_mem,HL1.out y,List.mem_append,List.mem_singleton]
    exact or_assoc
  ·have h4':(x.ex.op==4)=false:=eq_no h4
   have HC:=Lib.hid (callsN_snoc0 (l:=pre) h4)
   clear h4
   gi_wp2
   refine ⟨KeepsFrom.refl _ _,KeepC.below (Below.refl _ _),⟨⟨⟨r1,r2⟩,⟨L',m1,?_,?_⟩,HM1⟩,hB1⟩⟩
   ·simp only[List.length_append,List.length_cons,List.length_nil]
    omega
   ·show ∀_,_
    intro y
    rw[HC.out]
    exact HL1.out y
 case done=>
  rintro D ys W hD hys ⟨⟨⟨r1,r2⟩,⟨L',m1,hl1,HL1⟩,HM1⟩,hB1⟩ hK
  have hyl:ys.length≤900:=by
   have h1:=HSQ.out.right.size
   have h2:(ys.map ExN.ex).length=(exList q.right).length:=by rw[hys]
   rw[List.length_map] at h2
   unfold exSize at h1
   omega
  refine' zq139
  have HLN:Hid (∀x,x∈L'↔x∈callTo n (k+1)):=fun x=>by
   rw[HL1.out x,HL.out x,callTo_succ HQ.out,List.mem_append,callsN_end hys]
  gi_wp2
  refine ⟨?_,?_⟩
  ·refine ⟨k+1,D::marks,?_⟩
   (repeat apply Exists.intro)
   refine ⟨rfl,by omega,⟨r1,r2⟩,⟨L',m1,by omega,HLN⟩,hB1,HMD⟩
  ·simp[intOf]
   omega
 case stop=>
  rintro D c pre W _ _ h _
  exact h.elim
noncomputable def usesAt (s:List Nd) (nm:ByteArray):List ByteArray:=match nodeAt s nm with
 |some n=>usesF n
 |none=> []
open Classical in
noncomputable def calF (s:List Nd) (_:Nat) (n:Nd):Ft:=if Hg (usesAt s) n.name n.name then ⟨29,n.line,n.col⟩ else ft0
noncomputable def callsF (s:List Nd):Ft:=ft2 (scopeF s) (fstL (calF s) s)
theorem usesF_mem {n:Nd} {y:ByteArray}:y∈usesF n↔∃q∈n.eqs,∃x∈exList q.right,x.op=4∧x.name=y:=by
 unfold usesF
 rw[insAll_mem]
 unfold callTo callsOf
 rw[List.take_length]
 simp only[List.not_mem_nil,false_or,List.mem_flatten,List.mem_map]
 constructor
 ·rintro ⟨l,⟨q,hq,rfl⟩,hy⟩
  obtain ⟨x,hx,rfl⟩:=List.mem_map.1 hy
  obtain ⟨h1,h2⟩:=List.mem_filter.1 hx
  exact ⟨q,hq,x,h1,cB_iff.1 h2,rfl⟩
 ·rintro ⟨q,hq,x,hx,h4,rfl⟩
  exact ⟨_,⟨q,hq,rfl⟩,List.mem_map.2 ⟨x,List.mem_filter.2 ⟨hx,cB_iff.2 h4⟩,rfl⟩⟩
theorem usesF_rising (n:Nd):Rising (usesF n):=insAll_rising List.Pairwise.nil
theorem usesAt_rising (s:List Nd) (x:ByteArray):Rising (usesAt s x):=by
 unfold usesAt
 split
 ·exact usesF_rising _
 ·exact List.Pairwise.nil
section
variable {s:List Nd}
theorem names_once (h:(scopeF s).err=0):Once (s.map Nd.name):=once_of fun i x hx=>by
 rw[List.getElem?_map,Option.map_eq_some_iff] at hx
 obtain ⟨n,hn,rfl⟩:=hx
 have hr:=scope_rt h
 rw[scopeF_rt hr] at h
 have h1:=fstL_ok (f:=nameF s) (ft2_ok h).1 i n hn
 intro g
 unfold nameF at h1
 rw[if_pos g] at h1
 exact absurd h1 (by show ¬(23:Int)=0;decide)
theorem node_self (h:(scopeF s).err=0) {n:Nd} (hn:n∈s):nodeAt s n.name=some n:=by
 obtain ⟨k,hk⟩:=List.getElem?_of_mem hn
 refine nodeAt_at (k:=k) (fun j hj x hx e=>?_) hk rfl
 have:=names_once h j k n.name (by rw[←e];exact map_get Nd.name hx) (map_get Nd.name hk)
 omega
theorem usesAt_self (h:(scopeF s).err=0) {n:Nd} (hn:n∈s):usesAt s n.name=usesF n:=by unfold usesAt;rw[node_self h hn]
theorem calls_known (h:(scopeF s).err=0) {n:Nd} (hn:n∈s) {y:ByteArray} (hy:y∈usesF n):y∈s.map Nd.name:=by
 obtain ⟨q,hq,x,hx,h4,rfl⟩:=usesF_mem.1 hy
 obtain ⟨i,hi⟩:=List.getElem?_of_mem hq
 obtain ⟨j,hj⟩:=List.getElem?_of_mem hx
 obtain ⟨m,hm,_⟩:=call_ok (expr_ok (eqn_ok (scope_nodes h n hn).2 i q hi).2 j x hj) h4
 have:=nodeAt_mem hm
 exact this.2▸List.mem_map_of_mem this.1
theorem uses_V (h:(scopeF s).err=0):∀x,∀y∈usesAt s x,y∈s.map Nd.name:=fun x y hy=>by
 unfold usesAt at hy
 split at hy
 ·rename_i n hn
  exact calls_known h (nodeAt_mem hn).1 hy
 ·cases hy
theorem callsF_ok (h:(callsF s).err=0):(scopeF s).err=0∧∀n∈s,¬Hg (usesAt s) n.name n.name:=by
 refine ⟨(ft2_ok h).1,fun n hn g=>?_⟩
 obtain ⟨k,hk⟩:=List.getElem?_of_mem hn
 have:=fstL_ok (f:=calF s) (ft2_ok h).2 k n hk
 unfold calF at this
 rw[if_pos g] at this
 exact absurd this (by show ¬(29:Int)=0;decide)
end
def Ready (out:List ByteArray) (n:Nd):Prop:=n.name∉out∧∀y∈usesF n,y∈out
noncomputable def pick (s:List Nd) (out:List ByteArray):Option Nd:=s.find? fun n=>cB (Ready out n)
noncomputable def ordTo (s:List Nd):Nat→List ByteArray
 |0=> []
 |k+1=>match pick s (ordTo s k) with
  |some n=>ordTo s k++ [n.name]
  |none=>ordTo s k
noncomputable def orderF (s:List Nd):List ByteArray:=ordTo s s.length
theorem pick_ok {s:List Nd} {out:List ByteArray} {n:Nd} (h:pick s out=some n):n∈s∧Ready out n:=⟨List.mem_of_find?_eq_some h,cB_iff.1 (List.find?_some (p:=fun n=>cB (Ready out n)) h)⟩
section
variable {s:List Nd}
theorem pick_some (hc:(callsF s).err=0) {out:List ByteArray} (hn:out.length<s.length):∃n,pick s out=some n:=by
 obtain ⟨h0,h1⟩:=callsF_ok hc
 have hx:∃a,a∈s.map Nd.name∧a∉out:=Classical.byContradiction fun g=>by
  have:=nodup_len (l:=s.map Nd.name) (m:=out) (once_nodup (names_once h0)) fun x hx=>Classical.byContradiction fun g'=>g ⟨x,hx,g'⟩
  rw[List.length_map] at this
  omega
 obtain ⟨a,ha⟩:=hx
 obtain ⟨x,⟨hx,hxo⟩,hu⟩:=least (uses_V h0) (usesAt_rising s) (P:=fun x=>x∈s.map Nd.name∧x∉out) (fun x hx=>by
  obtain ⟨n,hn,rfl⟩:=List.mem_map.1 hx.1
  exact h1 n hn) ha
 obtain ⟨n,hn,rfl⟩:=List.mem_map.1 hx
 rw[usesAt_self h0 hn] at hu
 have hr:Ready out n:=⟨hxo,fun y hy=>Classical.byContradiction fun g=>hu y hy ⟨calls_known h0 hn hy,g⟩⟩
 cases hp:pick s out with
 |some m=>exact ⟨m,rfl⟩
 |none=>
  unfold pick at hp
  exact absurd (cB_iff.2 hr) (List.find?_eq_none.1 hp n hn)
theorem ordTo_succ {k:Nat} {n:Nd} (h:pick s (ordTo s k)=some n):ordTo s (k+1)=ordTo s k++ [n.name]:=by
 show (match pick s (ordTo s k) with|some n=>_|none=>_)=_
 rw[h]
theorem ord_len (hc:(callsF s).err=0):∀k,k≤s.length→(ordTo s k).length=k
 |0,_=>rfl
 |k+1,h=>by
  have ih:=ord_len hc k (by omega)
  obtain ⟨n,hp⟩:=pick_some hc (out:=ordTo s k) (by omega)
  rw[ordTo_succ hp]
  simp[ih]
theorem ord_in (hc:(callsF s).err=0):∀k,k≤s.length→(ordTo s k).Nodup∧(∀x∈ordTo s k,x∈s.map Nd.name)∧∀(i:Nat) (n:Nd),n∈s→(ordTo s k)[i]? =some n.name→∀y∈usesF n,y∈(ordTo s k).take i
 |0,_=>⟨List.nodup_nil,(fun x h=>absurd h (by simp[ordTo])),(fun i n _ h=>absurd h (by simp[ordTo]))⟩
 |k+1,h=>by
  have hl:=ord_len hc k (by omega)
  obtain ⟨i1,i2,i3⟩:=ord_in hc k (by omega)
  obtain ⟨n,hp⟩:=pick_some hc (out:=ordTo s k) (by omega)
  obtain ⟨hn,hr1,hr2⟩:=pick_ok hp
  rw[ordTo_succ hp]
  refine ⟨?_,fun x hx=>?_,fun i m hm hi y hy=>?_⟩
  ·rw[List.nodup_append]
   exact ⟨i1,by simp,fun a ha b hb e=>by simp at hb;subst hb;subst e;exact hr1 ha⟩
  ·rcases List.mem_append.1 hx with hx|hx
   ·exact i2 x hx
   ·rw[List.mem_singleton.1 hx];exact List.mem_map_of_mem hn
  ·rcases Nat.lt_trichotomy i k with g|g|g
   ·rw[List.getElem?_append_left (by omega)] at hi
    rw[List.take_append_of_le_length (by omega)]
    exact i3 i m hm hi y hy
   ·rw[List.getElem?_append_right (by omega)] at hi
    have e:n.name=m.name:=by simpa[hl,g] using hi
    have h0:=(callsF_ok hc).1
    have e2:n=m:=by
     have h1:=node_self h0 hn
     rw[e,node_self h0 hm] at h1
     injection h1 with h1
     exact h1.symm
    subst e2
    rw[List.take_append_of_le_length (by omega),List.take_of_length_le (by omega)]
    exact hr2 y hy
   ·have:=(List.getElem?_eq_some_iff.1 hi).1
    simp at this
    omega
theorem ord_all (hc:(callsF s).err=0) {x:ByteArray} (hx:x∈s.map Nd.name):x∈orderF s:=Classical.byContradiction fun g=>by
 have h1:=ord_in hc s.length (Nat.le_refl _)
 have h2:=nodup_len (l:=x::orderF s) (m:=s.map Nd.name) (List.nodup_cons.2 ⟨g,h1.1⟩) fun y hy=>by
  rcases List.mem_cons.1 hy with rfl|hy
  ·exact hx
  ·exact h1.2.1 y hy
 have h3:(orderF s).length=s.length:=ord_len hc s.length (Nat.le_refl _)
 simp only[List.length_cons,List.length_map] at h2
 omega
end
def capZ (n:Nat):Nat:=min n 401
theorem capZ_le (a:Nat):capZ a≤401:=by unfold capZ;omega
noncomputable def calleesOf (n:Nd):List ByteArray:=callTo n n.eqs.length
theorem callees_mem {n:Nd} {y:ByteArray}:y∈calleesOf n↔y∈usesF n:=by unfold usesF calleesOf;rw[insAll_mem];simp
noncomputable def szOf (n:Nd) (g:ByteArray→Nat):Nat:=capZ ((vrs n).length+((calleesOf n).map g).sum)
theorem szOf_congr {n:Nd} {g g':ByteArray→Nat} (h:∀c∈usesF n,g c=g' c):szOf n g=szOf n g':=by
 unfold szOf
 rw[List.map_congr_left fun c hc=>h c (callees_mem.1 hc)]
inductive SzIs (s:List Nd):ByteArray→Nat→Prop
 |node {nm:ByteArray} {n:Nd} (g:ByteArray→Nat) (hn:nodeAt s nm=some n) (h:∀c∈usesF n,SzIs s c (g c)):SzIs s nm (szOf n g)
theorem SzIs.le {s:List Nd} {x:ByteArray} {v:Nat} (h:SzIs s x v):v≤401:=by cases h;exact capZ_le _
theorem SzIs.det {s:List Nd} {x:ByteArray} {v v':Nat} (h:SzIs s x v) (h':SzIs s x v'):v=v':=by
 induction h generalizing v' with
 |node g hn _ ih=>
  cases h' with
  |node g' hn' hs'=>
   rw[hn] at hn'
   cases hn'
   exact szOf_congr fun c hc=>ih c hc (hs' c hc)
theorem sz_all {s:List Nd} (hc:(callsF s).err=0):∀(i:Nat) (n:Nd),n∈s→(orderF s)[i]? =some n.name→∃v,SzIs s n.name v:=by
 intro i
 induction i using Nat.strongRecOn with
 |_ i ih=>
  intro n hn hi
  have hsc:=(callsF_ok hc).1
  have hall:∀c,∃v,c∈usesF n→SzIs s c v:=fun c=>by
   by_cases hcu:c∈usesF n
   ·have h1:=(ord_in hc s.length (Nat.le_refl _)).2.2 i n hn hi c hcu
    obtain ⟨j,hj⟩:=List.getElem?_of_mem h1
    have hji:j<i:=by
     have:=(List.getElem?_eq_some_iff.1 hj).1
     rw[List.length_take] at this
     omega
    rw[List.getElem?_take_of_lt hji] at hj
    obtain ⟨m,hm,rfl⟩:=List.mem_map.1 (calls_known hsc hn hcu)
    obtain ⟨v,hv⟩:=ih j hji m hm hj
    exact ⟨v,fun _=>hv⟩
   ·exact ⟨0,fun h=>absurd h hcu⟩
  exact ⟨_,.node (fun c=>Classical.choose (hall c)) (node_self hsc hn) (fun c hcu=>Classical.choose_spec (hall c) hcu)⟩
theorem sz_some {s:List Nd} (hc:(callsF s).err=0) {nm:ByteArray} (h:nm∈s.map Nd.name):∃v,SzIs s nm v:=by
 obtain ⟨i,hi⟩:=List.getElem?_of_mem (ord_all hc h)
 obtain ⟨n,hn,rfl⟩:=List.mem_map.1 h
 exact sz_all hc i n hn hi
end Go.Proofs.YtdkgkacnjdnpoaaGreat
