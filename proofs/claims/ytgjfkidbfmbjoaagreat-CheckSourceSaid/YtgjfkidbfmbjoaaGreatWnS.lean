/-
  Which nodes a node calls: the contract of calls.Uses. Which node hangs on itself first, and an order of nodes in which each stands behind those it calls: plain. A window of a row of the call's own (what is left of a slice behind s[1:]), and append of one cell onto it. A slice of names of the call's own, wherever in its row it begins (what is left behind s[1:]), and append of names onto it; slices.Clone.
-/
import Derived.Test.YtgjfkidbfmbjoaaGreatZz
import Derived.Test.YtgjfkidbfmbjoaaGreatSrt
import Derived.Test.YtgjfkidbfmbjoaaGreatScN
import Derived.Test.YtgjfkidbfmbjoaaGreatRepL
import Derived.RangeFuncWrites
import Derived.Test.YtgjfkidbfmbjoaaGreatMem
import Derived.ArgAppend
import Derived.Deep.RegionLaw
import Derived.Test.YtgjfkidbfmbjoaaGreatHgP
import Derived.Test.YtgjfkidbfmbjoaaGreatTyP
set_option maxHeartbeats 4000000
set_option maxRecDepth 100000
namespace Go.Proofs.YtgjfkidbfmbjoaaGreat
open Go.RowKit Go.Shelf
attribute [local go_sem] Oper.semAt_some
abbrev mark (D:Nat):Deferred:={target:= .collected D,args:= #[]}
theorem upd_put {X:Nat→Prop} (w:World) (D:Nat) (o:Obj) (hX:X D):Upd X w (w.putObj D o):=by
 have h:=grownBy_putObj' w D o
 exact ⟨h.os,h.tape,h.output,h.size,fun i hi hx=>h.block i hi (fun e=>hx (by cases e;exact hX))⟩
theorem leaves_marks {P:Program} {F:Fence} {n:Nat} {fn:Func} {tmps:Array Value} {R:Ending→World→Prop}:∀(marks:List Nat) (w:World),marks.Nodup→(∀D∈marks,w.heap[D]? =some (.deferred (some [])))→
  (∀w',Upd (fun b=>b∈marks) w w'→LeavesInM F n P fn tmps R [] .returning w')→LeavesInM F n P fn tmps R (marks.map mark) .returning w
 | [],w,_,_,h=>h w (Upd.refl _ w)
 |D::marks,w,hn,hd,h=>by
  rw[List.nodup_cons] at hn
  refine ⟨by simp,.inl ⟨D,_,rfl,run_takeDeferred (hd D (by simp)),?_⟩⟩
  refine leaves_marks marks _ hn.2 (fun E hE=>?_) (fun w' hu=>h w' ((upd_put w D _ (by simp)).trans (hu.mono fun k hk=>by simp[hk])))
  have hne:E≠D:=fun e=>hn.1 (e▸hE)
  exact ((grownBy_putObj' w D (.deferred none)).block E (Array.getElem?_eq_some_iff.1 (hd E (by simp[hE]))).1 (fun e=>hne (by cases e;rfl))).trans (hd E (by simp[hE]))
noncomputable def callsOf (e:Ex):List ByteArray:=((exList e).filter (fun x=>cB (x.op=4))).map Ex.name
noncomputable def callTo (n:Nd) (k:Nat):List ByteArray:=((n.eqs.take k).map fun q=>callsOf q.right).flatten
noncomputable def usesF (n:Nd):List ByteArray:=insAll [] (callTo n n.eqs.length)
theorem callTo_zero (n:Nd):callTo n 0=[]:=rfl
theorem callTo_succ {n:Nd} {k:Nat} {q:Eqn} (h:n.eqs[k]? =some q):callTo n (k+1)=callTo n k++callsOf q.right:=by
 unfold callTo
 refine' zq180
 rw[List.take_succ_eq_append_getElem h1,h2]
 simp
theorem wpListIn_mets {F:Fence} {nF:Nat} {w:World} {ops:Array Oper} {rest:List Oper} {o:Oper} {a:Act} {Q:Exit→Act→World→Prop} (hg:o.guard=none) (m x v:Operand) (hop:o.op=Op.mapUpdate 107 m x v)
  (b:Nat) (l:List ByteArray) (hm:a.eval m= .map (some b)) (h:MetS w b l) (hn:l.length<1000000) (nm:ByteArray) (hx:a.eval x= .string nm) (hs:nm.size≤maxLen) (hv:a.eval v= .int .i64 1)
  (hK:∀w',MetS w' b (putN l nm)→w.grownBy w' (some b)→wpListIn F nF Tryz.prog ops Q rest (a.put o.dst undef) w'):wpListIn F nF Tryz.prog ops Q (o::rest) a w:=by
 refine wpListIn_plain hg fun K' hK'=>?_
 obtain ⟨w',hrun,r1,r2⟩:=h.put hs hn
 unfold Oper.wpIn
 refine ⟨by simp[Oper.about,hop],?_⟩
 rw[Oper.semAt_plain F _ _ (by rw[hop];intro c hc';cases hc')]
 simp[execOp,hop,hm,hx,hv,hrun,Result.andThen]
 exact hK' _ _ (hK w' r1 r2)
theorem keys_all (b:Nat) (W:World):Calls Tryz.prog 262 #[.map (some b)] W fun e w'=>e= .returned (.func (.func 303) #[] #[.pointer (some ⟨W.heap.size,0,none⟩)])∧w'=W.alloc (.cells #[.map (some b)] 107):=
 callsIn_wide.1 (keys_any (some b) W)
theorem sorted_all {w:World} {b:Nat} {l:List ByteArray} (h:MetS w b l) (hl:l.length≤1000000):
  Calls Tryz.prog 261 #[.func (.func 303) #[] #[.pointer (some ⟨w.heap.size,0,none⟩)]] (w.alloc (.cells #[.map (some b)] 107)) fun e w'=>∃v:Value,e= .returned v∧SlV w' w'.heap.size 1 isStr v (insAll [] l)∧Below w.heap.size w w':=
 callsIn_wide.1 (sorted_met h hl)
theorem keepC_map {X:Nat→Prop} {W W':World} {b:Nat} {l:List ByteArray} (h:MetS W b l) (hg:W.grownBy W' (some b)):KeepC X W W':=by
 obtain ⟨es,clock,hm⟩:=h.isMap
 refine ⟨hg.size,fun c cs t f _ hc=>(hg.block c (Array.getElem?_eq_some_iff.1 hc).1 (fun e=>?_)).trans hc⟩
 injection e with e
 subst e
 rw[hm] at hc
 cases hc
theorem row_map {W W':World} {b c:Nat} {l:List ByteArray} {cs:Array Value} {t:TypeId} (r:Row W c cs t) (h:MetS W b l) (hg:W.grownBy W' (some b)):Row W' c cs t:=by
 obtain ⟨es,clock,hm⟩:=h.isMap
 exact r.own hg (fun r e=>by cases e;exact ⟨_,hm,rfl⟩)
noncomputable def callsN (l:List ExN):List ByteArray:=((l.map ExN.ex).filter (fun x=>cB (x.op=4))).map Ex.name
theorem callsN_snoc1 {l:List ExN} {x:ExN} (h:x.ex.op=4):callsN (l++ [x])=callsN l++ [x.ex.name]:=by
 unfold callsN
 simp[cB_true h]
theorem callsN_snoc0 {l:List ExN} {x:ExN} (h:x.ex.op≠4):callsN (l++ [x])=callsN l:=by
 unfold callsN
 simp[cB_false h]
theorem callsN_end {l:List ExN} {e:Ex} (h:l.map ExN.ex=exList e):callsN l=callsOf e:=by unfold callsN callsOf;rw[h]
def MarksAt (W:World) (marks:List Nat):Prop:=marks.Nodup∧∀D∈marks,W.heap[D]? =some (.deferred (some []))
theorem MarksAt.lt {W:World} {marks:List Nat} (h:MarksAt W marks) {D:Nat} (hD:D∈marks):D<W.heap.size:=(Array.getElem?_eq_some_iff.1 (h.2 D hD)).1
theorem MarksAt.below {W W':World} {marks:List Nat} (h:MarksAt W marks) (hb:Below W.heap.size W W'):MarksAt W' marks:=⟨h.1,fun D hD=>(hb.block D (h.lt hD)).trans (h.2 D hD)⟩
theorem MarksAt.grown {W W':World} {marks:List Nat} {row:Option Nat} (h:MarksAt W marks) (hg:W.grownBy W' row) (hr:∀r,row=some r→r∉marks):MarksAt W' marks:=
 ⟨h.1,fun D hD=>(hg.block D (h.lt hD) (fun e=>hr D e.symm hD)).trans (h.2 D hD)⟩
theorem MarksAt.map {W W':World} {marks:List Nat} {b:Nat} {l:List ByteArray} (h:MarksAt W marks) (hm:MetS W b l) (hg:W.grownBy W' (some b)):MarksAt W' marks:=by
 obtain ⟨es,clock,hc⟩:=hm.isMap
 refine h.grown hg fun r e hr=>?_
 cases e
 have:=h.2 _ hr
 rw[hc] at this
 cases this
theorem MarksAt.more {W:World} {marks:List Nat} {D:Nat} (h:MarksAt W marks) (hn:D∉marks) (hD:W.heap[D]? =some (.deferred (some []))):MarksAt W (D::marks):=
 ⟨List.nodup_cons.2 ⟨hn,h.1⟩,fun E hE=>by
  rcases List.mem_cons.1 hE with rfl|hE
  ·exact hD
  ·exact h.2 E hE⟩
theorem MarksAt.cell {W W':World} {marks:List Nat} (h:MarksAt W marks) (hu:Upd (fun b=>b∈marks) W W') {p:Addr} {u:Value} (hc:W.cell? p=some u):W'.cell? p=some u:=by
 by_cases hp:p.block∈marks
 ·have:=h.2 _ hp
  simp only[World.cell?,this] at hc
  cases hc
 ·have hl:p.block<W.heap.size:=by
   refine Classical.byContradiction fun g=>?_
   have:W.heap[p.block]? =none:=Array.getElem?_eq_none (by omega)
   simp only[World.cell?,this] at hc
   cases hc
  have:=hu.block p.block hl hp
  simp only[World.cell?] at hc⊢
  rw[this];exact hc
theorem uses_any (n:Nd) (a:NdA) (w:World) (sm:NdSm n) (hn:NdAt w w.heap.size n a):
  Calls Tryz.prog 202 #[ndV n a] w fun r w'=>(∃v,r= .returned v∧SlV w' w'.heap.size 1 isStr v (usesF n))∧Below w.heap.size w w':=by
 refine (callsIn_wide (n:=9)).1 ?_
 have HN:Hid (∀W,Below w.heap.size w W→NdAt W W.heap.size n a):=fun W hW=>hn.keep (keeps_of hW) hW.size
 have HSM:=Lib.hid sm
 have hmm:= @run_makeMap Tryz.prog
 have hnl:=sm.eqs
 have hcq:=hn.lq
 have hmq:=hn.mq
 refine' zq263
 clear hn sm hmq
 have rn0:Row (((w.alloc (.cells (ndArr n a) 39)).alloc (.map #[] 0)).alloc (.cells #[.map (some (w.heap.size+1))] 107)) w.heap.size (ndArr n a) 39:=((Row.new w _ _).alloc _).alloc _
 have rm0:Row (((w.alloc (.cells (ndArr n a) 39)).alloc (.map #[] 0)).alloc (.cells #[.map (some (w.heap.size+1))] 107)) (w.heap.size+2) #[.map (some (w.heap.size+1))] 107:=rowNew3 w _ _ _ _
 have ms0:MetS (((w.alloc (.cells (ndArr n a) 39)).alloc (.map #[] 0)).alloc (.cells #[.map (some (w.heap.size+1))] 107)) (w.heap.size+1) []:=by
  have h:=(mets_made (w.alloc (.cells (ndArr n a) 39))).alloc (.cells #[.map (some (w.heap.size+1))] 107)
  rwa [World.size_alloc] at h
 have b0:Below w.heap.size w (((w.alloc (.cells (ndArr n a) 39)).alloc (.map #[] 0)).alloc (.cells #[.map (some (w.heap.size+1))] 107)):=bE
 refine callsIn_of_wp_marks Tryz.func202 rfl trivial ?_ rfl
 simp only[Tryz.ntmps202,List.size_toArray,List.length_cons,List.length_nil,Nat.reduceAdd,Nat.reduceSub,Array.replicate_succ,Array.replicate_zero,List.push_toArray,List.append_toArray,List.nil_append,List.cons_append]
 gi_wp2_with (fail)
 obtain ⟨W0,hW0⟩:∃W0,((w.alloc (.cells (ndArr n a) 39)).alloc (.map #[] 0)).alloc (.cells #[.map (some (w.heap.size+1))] 107)=W0:=⟨_,rfl⟩
 rw[hW0] at rn0 rm0 ms0 b0⊢
 clear hW0
 refine wpIn_loop (fun a' wr=>∃(k:Nat) (marks:List Nat) (u5 u12 u13 u14 u15 u16 u17 u25:Value),a'={tmps:= #[ndV n a,.pointer (some ⟨w.heap.size,0,none⟩),.slice none 0 0,.pointer (some ⟨w.heap.size+1+1,0,none⟩),undef,u5,undef,.map (some (w.heap.size+1)),.pointer (some ⟨w.heap.size,4,none⟩),.slice a.aq n.eqs.length a.cq,.int .i64 n.eqs.length,.int .i64 k,u12,u13,u14,u15,u16,u17,undef,undef,undef,undef,undef,undef,undef,u25,undef,undef,undef],defers:=marks.map mark}∧
   k≤n.eqs.length∧(Row wr w.heap.size (ndArr n a) 39∧Row wr (w.heap.size+2) #[.map (some (w.heap.size+1))] 107)∧(∃L,MetS wr (w.heap.size+1) L∧L.length≤k*900∧Hid (∀x,x∈L↔x∈callTo n k))∧Below w.heap.size w wr∧Hid (MarksAt wr marks∧∀D∈marks,w.heap.size≤D))
  (fun a' _=>n.eqs.length-(intOf (a'.tmps.getD 11 undef)).toNat) ⟨0,[],_,_,_,_,_,_,_,_,rfl,Nat.zero_le _,⟨rn0,rm0⟩,⟨[],ms0,by simp,fun x=>Iff.rfl⟩,b0,⟨⟨List.nodup_nil,fun D h=>by cases h⟩,fun D h=>by cases h⟩⟩ ?_
 clear rn0 rm0 ms0 b0
 rintro _ wr ⟨k,marks,u5,u12,u13,u14,u15,u16,u17,u25,rfl,hk,⟨rn,rm⟩,⟨L,ms,hL,HL⟩,hB,HM⟩
 have hsB:=hB.size
 have hl2:=rm.lt
 by_cases hlt:k<n.eqs.length
 rotate_left 1
 ·obtain rfl:k=n.eqs.length:=by omega
  have cm:wr.cell? ⟨w.heap.size+1+1,0,none⟩=some (.map (some (w.heap.size+1))):=(rm.cell 0).trans rfl
  have hl2':w.heap.size+1+1<wr.heap.size:=hl2
  have HS:=Lib.hid (sorted_all ms (by omega))
  have HU:Hid (insAll [] L=usesF n):=rising_eq (insAll_rising List.Pairwise.nil) (insAll_rising List.Pairwise.nil) fun x=>by unfold usesF;rw[insAll_mem,insAll_mem,HL.out x]
  rw[HU.out] at HS
  clear HU HL
  gi_wp2_with (first|(refine ⟨trivial,?_⟩;gi_at_call 262;refine (callsIn_wide.2 (keys_all _ _)).mono ?_;rintro e w' ⟨rfl,rfl⟩)|(refine ⟨trivial,?_⟩;gi_at_call 261;refine (callsIn_wide.2 HS.out).mono ?_;rintro e w9 ⟨v,rfl,hS,hb9⟩))
  have HM9:=HM.out.1.below hb9
  refine leaves_marks marks _ HM9.1 HM9.2 fun w' hu=>?_
  have hB9:=hB.trans (hb9.mono hsB)
  exact ⟨v,by simp[results,Tryz.f202,go_sem],⟨v,rfl,(hS.keep (fun p u _ hc=>HM9.cell hu hc) (Nat.le_refl _) (fun _ _ _ h=>h)).more hu.size⟩,hB9.trans (hu.below HM.out.2 hB9.size)⟩
 refine' zq195
 rw[hA]
 have HQ:=Lib.hid hq
 have HSQ:=Lib.hid (HSM.out.eq q (List.mem_of_getElem? hq))
 have HOK:=Lib.hid ok.right
 have HS2:=Lib.hid sl2
 refine' zq148
 clear hA hq ok sl1 sl2
 have i0:(0:Int)≤(k:Int):=by omega
 have i1:(k:Int)<(n.eqs.length:Int):=by omega
 refine' zq166
 have bE0:Row ((wr.alloc (.cells (eqArr q A1 k1 A2 k2) 81)).alloc (.cells (exA q.right A2 k2) 79)) (wr.heap.size+1) (exA q.right A2 k2) 79:=rowNew2 wr _ _ _
 have b2:Below wr.heap.size wr ((wr.alloc (.cells (eqArr q A1 k1 A2 k2) 81)).alloc (.cells (exA q.right A2 k2) 79)):=bE
 have hsz2:((wr.alloc (.cells (eqArr q A1 k1 A2 k2) 81)).alloc (.cells (exA q.right A2 k2) 79)).heap.size=wr.heap.size+2:=by simp
 obtain ⟨W2,hW2⟩:∃W2,(wr.alloc (.cells (eqArr q A1 k1 A2 k2) 81)).alloc (.cells (exA q.right A2 k2) 79)=W2:=⟨_,rfl⟩
 rw[hW2] at bE0 b2 hsz2⊢
 clear hW2 d0 d1 d2 d3 d4 d5 d6 d7 d8
 have rn2:=rn.below b2 rn.lt
 have rm2:=rm.below b2 rm.lt
 have ms2:=ms.below b2 ms.lt
 have HM2:=Lib.hid (HM.out.1.below b2)
 have hB2:=hB.trans (b2.mono hsB)
 have hML:Hid (∀D∈marks,D<W2.heap.size):=fun D hD=>HM2.out.lt hD
 clear rn rm ms
 refine wpIn_rangeFunc_ownH rfl (by decide) (gf:=159) (lb:= #[.pointer (some ⟨wr.heap.size+1,0,none⟩)]) rfl trivial (enters_of Tryz.func159 (by kernel_rfl) rfl)
  (all_stops _ rfl _ trivial trivial rfl (wr.heap.size+1) wr.heap.size (fun _=>False) q.right A2 k2 W2 (fun _ h=>h.elim) HOK.out lq2 mq2 (by omega) (by omega) (fun j u hu=>by rw[bE0.cell];simpa[exCells] using hu) (exs_keep HS2.out (keeps_of b2) (Nat.le_refl _)))
  (fun h k=>h.trans k) (fun W l o o' _ h ho _=>keepC_putObj W l o o' h ho) (Below.refl _ _) (fun _=>rfl)
  (fun pre W=>((Row W w.heap.size (ndArr n a) 39∧Row W (w.heap.size+2) #[.map (some (w.heap.size+1))] 107)∧(∃L',MetS W (w.heap.size+1) L'∧L'.length≤L.length+pre.length∧Hid (∀x,x∈L'↔x∈L∨x∈callsN pre))∧MarksAt W marks)∧Below w.heap.size w W)
  (fun _ _ _=>False)
  (OwnFrom.and (OwnFrom.and (OwnFrom.and (fun s X Y row hs hg hr=>hs.own hg (fun r e=>(hr r e).2)) (fun s X Y row hs hg hr=>hs.own hg (fun r e=>(hr r e).2)))
   (OwnFrom.and (fun s X Y row hs hg hr=>by obtain ⟨L',g1,g2,g3⟩:=hs;exact ⟨L',g1.grown hg (fun e=>by have:=(hr _ e.symm).1;omega),g2,g3⟩) (fun s X Y row hs hg hr=>hs.grown hg (fun r e hm=>by have:=(hr r e).1;have:=hML.out r hm;omega)))) (ownFrom_below (Nat.le_refl _) (by omega)))
  (fun _ _ _ _ _ hs _ _=>hs)
  ⟨⟨⟨rn2,rm2⟩,⟨L,ms2,by simp,fun x=>by simp[callsN]⟩,HM2.out⟩,hB2⟩
  (fun x a' W=>∃Bx,w.heap.size+2<Bx∧Row W Bx (exA x.ex x.A x.cap) 79∧a'={tmps:= #[ndV n a,.pointer (some ⟨w.heap.size,0,none⟩),.slice none 0 0,.pointer (some ⟨w.heap.size+1+1,0,none⟩),undef,.pointer (some ⟨wr.heap.size,0,none⟩),.pointer (some ⟨Bx,0,none⟩),.map (some (w.heap.size+1)),.pointer (some ⟨w.heap.size,4,none⟩),.slice (some ⟨b,off,none⟩) n.eqs.length a.cq,.int .i64 n.eqs.length,.int .i64 k,.bool true,.pointer (some ⟨b,off+k*9,none⟩),eqV q A1 k1 A2 k2,.pointer (some ⟨wr.heap.size,1,none⟩),exV q.right A2 k2,.func (.func 159) #[] #[.pointer (some ⟨wr.heap.size+1,0,none⟩)],x.v,undef,undef,undef,undef,undef,undef,u25,undef,undef,undef],defers:=[]})
  (fun x a' _ X Y row hs hg hr=>by obtain ⟨Bx,h1,h2,h3⟩:=hs;exact ⟨Bx,h1,h2.own hg (fun r e=>(hr r e).2),h3⟩)
  ?assign ?body ?done ?stop
 case assign=>
  rintro l pre x W K ⟨⟨⟨r1,r2⟩,⟨L',m1,hl1,HL1⟩,HM1⟩,hB1⟩ hK
  gi_wp2
  exact hK _ _ ((KeepsOthers.alloc _ _).from _) (KeepC.alloc _ _ _) ⟨⟨⟨r1.alloc _,r2.alloc _⟩,⟨L',m1.alloc _,hl1,HL1⟩,HM1.below ((Below.refl _ _).alloc (Nat.le_refl _) _)⟩,hB1.alloc hB1.size _⟩ ⟨W.heap.size,r2.lt,Row.new W _ _,rfl⟩
 case body=>
  rintro l pre x a' W hl _ ⟨⟨⟨r1,r2⟩,⟨L',m1,hl1,HL1⟩,HM1⟩,hB1⟩ ⟨Bx,hBx,bX,rfl⟩ hlt2
  obtain ⟨x0,x1,x2,x3,x4,x5⟩:=bX.ex6
  have cm:W.cell? ⟨w.heap.size+1+1,0,none⟩=some (.map (some (w.heap.size+1))):=(r2.cell 0).trans rfl
  have hl2':w.heap.size+1+1<W.heap.size:=r2.lt
  have hnx:=x.ok.name
  have hlen:L'.length<1000000:=by
   have:=HSQ.out.right.size
   omega
  by_cases h4:x.ex.op=4
  ·have h4':(x.ex.op==4)=true:=eq_yes h4
   have HC:=Lib.hid (callsN_snoc1 (l:=pre) h4)
   clear h4
   gi_wp2_with (gi_at_mapUpdate;refine wpListIn_mets rfl _ _ _ rfl (w.heap.size+1) L' rfl m1 hlen x.ex.name rfl hnx rfl ?_;intro w1 m2 hg2)
   refine ⟨KeepsFrom.of_grownBy hg2 (fun j e=>by cases e;omega),keepC_map m1 hg2,⟨⟨⟨row_map r1 m1 hg2,row_map r2 m1 hg2⟩,⟨putN L' x.ex.name,m2,?_,?_⟩,HM1.map m1 hg2⟩,hB1.grown hg2 hB1.size (fun k e=>by cases e;omega)⟩⟩
   ·have:=putN_len (l:=L') (nm:=x.ex.name)
    simp only[List.length_append,List.length_cons,List.length_nil]
    omega
   ·show ∀_,_
    intro y
    rw[HC.out,putN_mem,HL1.out y,List.mem_append,List.mem_singleton]
    exact or_assoc
  ·have h4':(x.ex.op==4)=false:=eq_no h4
   have HC:=Lib.hid (callsN_snoc0 (l:=pre) h4)
   clear h4
   gi_wp2
   refine ⟨KeepsFrom.refl _ _,KeepC.below (Below.refl _ _),⟨⟨⟨r1,r2⟩,⟨L',m1,?_,?_⟩,HM1⟩,hB1⟩⟩
   ·simp only[List.length_append,List.length_cons,List.length_nil]
    omega
   ·show ∀_,_
    intro y
    rw[HC.out]
    exact HL1.out y
 case done=>
  rintro D ys W hD hys ⟨⟨⟨r1,r2⟩,⟨L',m1,hl1,HL1⟩,HM1⟩,hB1⟩ hK
  have hyl:ys.length≤900:=by
   have h1:=HSQ.out.right.size
   have h2:(ys.map ExN.ex).length=(exList q.right).length:=by rw[hys]
   rw[List.length_map] at h2
   unfold exSize at h1
   omega
  have HMD:Hid (MarksAt W (D::marks)∧∀E∈D::marks,w.heap.size≤E):=⟨HM1.more (fun h=>by have:=hML.out D h;omega) hK,fun E hE=>by
   rcases List.mem_cons.1 hE with rfl|hE
   ·omega
   ·exact HM.out.2 E hE⟩
  have HLN:Hid (∀x,x∈L'↔x∈callTo n (k+1)):=fun x=>by
   rw[HL1.out x,HL.out x,callTo_succ HQ.out,List.mem_append,callsN_end hys]
  gi_wp2
  refine ⟨?_,?_⟩
  ·refine ⟨k+1,D::marks,?_⟩
   (repeat apply Exists.intro)
   refine ⟨rfl,by omega,⟨r1,r2⟩,⟨L',m1,by omega,HLN⟩,hB1,HMD⟩
  ·simp[intOf]
   omega
 case stop=>
  rintro D c pre W _ _ h _
  exact h.elim
noncomputable def usesAt (s:List Nd) (nm:ByteArray):List ByteArray:=match nodeAt s nm with
 |some n=>usesF n
 |none=> []
open Classical in
noncomputable def calF (s:List Nd) (_:Nat) (n:Nd):Ft:=if Hg (usesAt s) n.name n.name then ⟨29,n.line,n.col⟩ else ft0
noncomputable def callsF (s:List Nd):Ft:=ft2 (scopeF s) (fstL (calF s) s)
theorem usesF_mem {n:Nd} {y:ByteArray}:y∈usesF n↔∃q∈n.eqs,∃x∈exList q.right,x.op=4∧x.name=y:=by
 unfold usesF
 rw[insAll_mem]
 unfold callTo callsOf
 rw[List.take_length]
 simp only[List.not_mem_nil,false_or,List.mem_flatten,List.mem_map]
 constructor
 ·rintro ⟨l,⟨q,hq,rfl⟩,hy⟩
  obtain ⟨x,hx,rfl⟩:=List.mem_map.1 hy
  obtain ⟨h1,h2⟩:=List.mem_filter.1 hx
  exact ⟨q,hq,x,h1,cB_iff.1 h2,rfl⟩
 ·rintro ⟨q,hq,x,hx,h4,rfl⟩
  exact ⟨_,⟨q,hq,rfl⟩,List.mem_map.2 ⟨x,List.mem_filter.2 ⟨hx,cB_iff.2 h4⟩,rfl⟩⟩
theorem usesF_rising (n:Nd):Rising (usesF n):=insAll_rising List.Pairwise.nil
theorem usesAt_rising (s:List Nd) (x:ByteArray):Rising (usesAt s x):=by
 unfold usesAt
 split
 ·exact usesF_rising _
 ·exact List.Pairwise.nil
section
variable {s:List Nd}
theorem names_once (h:(scopeF s).err=0):Once (s.map Nd.name):=once_of fun i x hx=>by
 rw[List.getElem?_map,Option.map_eq_some_iff] at hx
 obtain ⟨n,hn,rfl⟩:=hx
 have hr:=scope_rt h
 rw[scopeF_rt hr] at h
 have h1:=fstL_ok (f:=nameF s) (ft2_ok h).1 i n hn
 intro g
 unfold nameF at h1
 rw[if_pos g] at h1
 exact absurd h1 (by show ¬(23:Int)=0;decide)
theorem node_self (h:(scopeF s).err=0) {n:Nd} (hn:n∈s):nodeAt s n.name=some n:=by
 obtain ⟨k,hk⟩:=List.getElem?_of_mem hn
 refine nodeAt_at (k:=k) (fun j hj x hx e=>?_) hk rfl
 have:=names_once h j k n.name (by rw[←e];exact map_get Nd.name hx) (map_get Nd.name hk)
 omega
theorem usesAt_self (h:(scopeF s).err=0) {n:Nd} (hn:n∈s):usesAt s n.name=usesF n:=by unfold usesAt;rw[node_self h hn]
theorem calls_known (h:(scopeF s).err=0) {n:Nd} (hn:n∈s) {y:ByteArray} (hy:y∈usesF n):y∈s.map Nd.name:=by
 obtain ⟨q,hq,x,hx,h4,rfl⟩:=usesF_mem.1 hy
 obtain ⟨i,hi⟩:=List.getElem?_of_mem hq
 obtain ⟨j,hj⟩:=List.getElem?_of_mem hx
 obtain ⟨m,hm,_⟩:=call_ok (expr_ok (eqn_ok (scope_nodes h n hn).2 i q hi).2 j x hj) h4
 have:=nodeAt_mem hm
 exact this.2▸List.mem_map_of_mem this.1
theorem uses_V (h:(scopeF s).err=0):∀x,∀y∈usesAt s x,y∈s.map Nd.name:=fun x y hy=>by
 unfold usesAt at hy
 split at hy
 ·rename_i n hn
  exact calls_known h (nodeAt_mem hn).1 hy
 ·cases hy
end
section
variable {s:List Nd}
end
open Go.RowKit
def Win (w:World) (base:Nat) (e:TypeId) (g off n cap:Nat) (xs:List Value):Prop:=
 xs.length=n∧base≤g∧n≤cap∧cap≤maxLen∧∃cur,w.heap[g]? =some (.cells cur e (0,0))∧off+cap≤cur.size∧(cur.toList.drop off).take n=xs
section
variable {w w':World} {base:Nat} {e:TypeId} {g off n cap:Nat} {xs:List Value}
theorem Win.lt (h:Win w base e g off n cap xs):g<w.heap.size:=by
 obtain ⟨_,_,_,_,cur,hh,_⟩:=h
 rcases Nat.lt_or_ge g w.heap.size with hlt|hge
 ·exact hlt
 ·rw[Array.getElem?_eq_none hge] at hh;cases hh
theorem Win.block (h:Win w base e g off n cap xs) (hb:w'.heap[g]? =w.heap[g]?):Win w' base e g off n cap xs:=by
 obtain ⟨h1,h2,h3,h4,cur,hh,h5⟩:=h
 exact ⟨h1,h2,h3,h4,cur,hb.trans hh,h5⟩
theorem Win.cell (h:Win w base e g off n cap xs) (j:Nat) (hj:j<cap):∃u,w.cell? ⟨g,off+j,none⟩=some u:=by
 obtain ⟨h1,h2,h3,h4,cur,hh,h5,h6⟩:=h
 refine ⟨cur[off+j]'(by omega),?_⟩
 rw[cell_of_row w g (off+j) cur e (0,0) hh]
 exact Array.getElem?_eq_getElem (by omega)
theorem Win.frozen (h:Win w base e g off n cap xs) (j:Nat):w.frozen? ⟨g,j,none⟩=false:=by
 obtain ⟨h1,h2,h3,h4,cur,hh,h5,h6⟩:=h
 simp[World.frozen?,hh]
theorem Win.cells (h:Win w base e g off n cap xs):∀j u,xs[j]? =some u→w.cell? ⟨g,off+j,none⟩=some u:=by
 obtain ⟨h1,h2,h3,h4,cur,hh,h5,h6⟩:=h
 intro j u hu
 have hj:j<n:=by rw[←h1];exact (List.getElem?_eq_some_iff.1 hu).1
 rw[cell_of_row w g (off+j) cur e (0,0) hh]
 rw[←h6,List.getElem?_take_of_lt hj,List.getElem?_drop] at hu
 simpa using hu
theorem win_of_own {n:Nat} (h:w.ownsRow base e 1 (.slice (some ⟨g,0,none⟩) n cap) n xs):Win w base e g 0 n cap xs:=by
 obtain ⟨hl,h⟩:=h
 rcases h with ⟨h,_⟩|⟨g',cap',cur,h,hb,hh,hnc,hcm,hcs,ht⟩
 ·cases h
 ·simp only[Value.slice.injEq,Option.some.injEq,Addr.mk.injEq,and_true,true_and] at h
  obtain ⟨rfl,rfl⟩:=h
  exact ⟨by omega,hb,hnc,hcm,cur,hh,by omega,by simpa using ht⟩
theorem Win.tail {x:Value} (h:Win w base e g off (n+1) cap (x::xs)):Win w base e g (off+1) n (cap-1) xs:=by
 obtain ⟨h1,h2,h3,h4,cur,hh,h5,h6⟩:=h
 refine ⟨by simpa using h1,h2,by omega,by omega,cur,hh,by omega,?_⟩
 have hlt:off<cur.toList.length:=by simp;omega
 rw[List.drop_eq_getElem_cons hlt,List.take_succ_cons] at h6
 exact (List.cons.inj h6).2
end
attribute [local go_sem ↓] Go.wp_at_zero Go.wp_at_succ
theorem flat_strs (l:List ByteArray):(l.map fun x=> [Value.string x]).flatten=l.map Value.string:=by
 induction l with
 |nil=>rfl
 |cons x l ih=>rw[List.map_cons,List.flatten_cons,ih];rfl
theorem strs_css {l:List ByteArray} {css:List (List Value)} (h:Are isStr l css):css.flatten=l.map Value.string:=by
 rw[←flat_strs]
 congr 1
 refine List.ext_getElem? fun i=>?_
 rw[List.getElem?_map]
 cases hi:l[i]? with
 |none=>
  rw[Option.map_none]
  exact List.getElem?_eq_none (by rw[h.1];exact List.getElem?_eq_none_iff.1 hi)
 |some x=>
  have hl:i<css.length:=by rw[h.1];exact (List.getElem?_eq_some_iff.1 hi).1
  rw[Option.map_some,List.getElem?_eq_getElem hl]
  have:=h.2 i x _ hi (List.getElem?_eq_getElem hl)
  rw[this.1]
theorem own_strs {w:World} {base n:Nat} {v:Value} {l:List ByteArray} (h:w.ownsRow base 9 1 v n (l.map Value.string)) (hs:∀x∈l,x.size≤maxLen):SlV w w.heap.size 1 isStr v l:=by
 rw[←flat_strs] at h
 refine (own_sl (rel:=isStr) h ⟨by simp,fun i x cs hx hc=>?_⟩ (fun cs hc=>?_) (by decide)).1
 ·rw[List.getElem?_map,Option.map_eq_some_iff] at hc
  obtain ⟨y,hy,rfl⟩:=hc
  rw[hx] at hy
  injection hy with hy
  subst hy
  exact ⟨rfl,hs x (List.mem_of_getElem? hx)⟩
 ·obtain ⟨y,_,rfl⟩:=List.mem_map.1 hc
  rfl
theorem strs_size {w:World} {B:Nat} {A:Option Addr} {l:List ByteArray} (h:Sl w B 1 isStr A l):∀x∈l,x.size≤maxLen:=h.all fun _ _ g=>g.2
theorem strsV_size {w:World} {B:Nat} {v:Value} {l:List ByteArray} (h:SlV w B 1 isStr v l):∀x∈l,x.size≤maxLen:=by
 obtain ⟨A,c,_,_,_,h⟩:=h
 exact strs_size h
theorem wpList_append_str {w:World} {ops:Array Oper} {rest:List Oper} {o:Oper} {a:Act} {Q:Exit→Act→World→Prop} (hgd:o.guard=none) (s x:Operand)
  (ho:o.op= .call {callee:= .builtin .append,args:= #[s,x],argTypes:= #[76,76]})
  (base:Nat) (l:List ByteArray) (n:Nat) (v:Value) (hs:a.eval s=v) (hown:w.ownsRow base 9 1 v n (l.map Value.string)) (hn:n=l.length)
  (b:Nat) (nm:ByteArray) (hx:a.eval x= .slice (some ⟨b,0,none⟩) 1 1) (hc:w.cell? ⟨b,0,none⟩=some (.string nm)) (hl:l.length<1000000) (hbase:base≤w.heap.size)
  (h:∀v' w',w'.ownsRow base 9 1 v' (l++ [nm]).length ((l++ [nm]).map Value.string)→w.grownBy w' v.ownBlock→wpList Tryz.prog ops Q rest (a.put o.dst v') w'):wpList Tryz.prog ops Q (o::rest) a w:=by
 subst hn
 refine' zq219
 refine wpList_append_any w hgd s x 76 ho base 9 i0 (.string ⟨#[]⟩) 1 16 Tryz.underlying76 hi0 hz0 hz1 hz2 rfl (by decide) v l.length _ hs hown ⟨b,0,none⟩ 1 1 [.string nm] hx rfl (fun j u hu=>?_) (by intro u hu;simp at hu;subst hu;rfl) (by unfold maxLen;omega) (by omega) hbase fun v' w' h1 h2 _=>h v' w' ?_ h2
 ·have hj:j<1:=(List.getElem?_eq_some_iff.1 hu).1
  obtain rfl:j=0:=by omega
  simp at hu
  subst hu
  simpa[Addr.add] using hc
 ·simpa using h1
theorem heap_setCells (g:Nat) (e:TypeId):∀(vs:List Value) (o:Nat) (w:World) (cur:Array Value),w.heap[g]? =some (.cells cur e (0,0))→o+vs.length≤cur.size→
  ∃cur',(w.setCells g o vs).heap[g]? =some (.cells cur' e (0,0))∧cur'.size=cur.size∧cur'.toList=cur.toList.take o++vs++cur.toList.drop (o+vs.length)
 | [],o,w,cur,h,hl=>⟨cur,h,rfl,by simp⟩
 |v::vs,o,w,cur,h,hl=>by
  simp only[List.length_cons] at hl
  have h1:(w.setCell ⟨g,o,none⟩ v).heap[g]? =some (.cells (cur.setIfInBounds o v) e (0,0)):=by
   simp[World.setCell,Array.getElem?_modify,h]
  obtain ⟨cur',h2,h3,h4⟩:=heap_setCells g e vs (o+1) _ _ h1 (by simp;omega)
  refine ⟨cur',h2,by rw[h3];simp,?_⟩
  rw[h4,Array.toList_setIfInBounds,List.drop_set,if_pos (by omega)]
  have e1:(cur.toList.set o v).take (o+1)=cur.toList.take o++ [v]:=by
   rw[List.take_add_one,List.getElem?_set_self (by simp;omega),List.take_set,List.set_eq_of_length_le (by simp;omega)]
   rfl
  rw[e1]
  simp[Nat.add_comm,Nat.add_left_comm]
theorem grown_setCells (g:Nat):∀(vs:List Value) (o:Nat) (w:World),w.grownBy (w.setCells g o vs) (some g)
 | [],_,w=>⟨rfl,rfl,rfl,Nat.le_refl _,fun _ _ _=>rfl⟩
 |v::vs,o,w=>by
  have h:=grown_setCells g vs (o+1) (w.setCell ⟨g,o,none⟩ v)
  have hs:(w.setCell ⟨g,o,none⟩ v).heap.size=w.heap.size:=by simp[World.setCell]
  exact ⟨h.os,h.tape,h.output,by rw[←hs];exact h.size,fun k hk hne=>(h.block k (by rw[hs];exact hk) hne).trans (Below.heap_setCell w _ _ k (by intro he;apply hne;simp[he]))⟩
section
variable {w w':World} {base:Nat} {e:TypeId} {g off n cap:Nat} {xs:List Value}
theorem run_append_wins {P:Program} (t ty:TypeId) (i:TypeInfo) (z:Value) (bytes:Nat) (ht:P.underlying t=some (.slice e)) (hi:P.info? e=some i) (hz:i.zero=some z)
  (hsize:i.size=1) (hby:i.bytes=bytes) (hzs:z.cells.size=1) (h:Win w base e g off n cap xs)
  (ad:Addr) (m c:Nat) (news:List Value) (hl:news.length=m) (hnews:∀j u,news[j]? =some u→w.cell? (ad.add j)=some u) (h1:∀u∈news,u.oneCell'=true) (h63:n+m≤maxLen) (hbytes:(n+m)*bytes≤140737488355328) (hbase:base≤w.heap.size):
  ∃g' off' cap' w',(Builtin.append_ #[t,t] ty #[.slice (some ⟨g,off,none⟩) n cap,.slice (some ad) m c]).run P w= .ok (.slice (some ⟨g',off',none⟩) (n+m) cap') w'∧
   Win w' base e g' off' (n+m) cap' (xs++news)∧w.grownBy w' (some g):=by
 by_cases hr:n+m≤cap
 ·have hf:=fun j=>h.frozen j
  have hc:=fun j hj=>h.cell (n+j) (by omega:n+j<cap)
  have hrun:=run_append_room_cells (P:=P) w t ty e i ht hi g off n cap ad m c news (by simp[hsize,hl]) hnews h1 hr
   (fun j hj=>by
    obtain ⟨u,hu⟩:=hc j (by omega)
    rw[←Nat.add_assoc] at hu
    simp[hsize,hu]) (fun j _=>hf _)
  refine ⟨g,off,cap,_,hrun,?_,grown_setCells g news _ w⟩
  obtain ⟨k1,k2,k3,k4,cur,hh,k5,k6⟩:=h
  obtain ⟨cur',q1,q2,q3⟩:=heap_setCells g e news (off+n*i.size) w cur hh (by rw[hsize];omega)
  refine ⟨by simp[k1,hl],k2,hr,k4,cur',q1,by rw[q2];exact k5,?_⟩
  rw[q3,hsize,Nat.mul_one,List.append_assoc,List.drop_append_of_le_length (by simp;omega),List.drop_take,show off+n-off=n by omega,k6,←List.append_assoc]
  rw[List.take_append_of_le_length (by simp[k1,hl])]
  exact List.take_of_length_le (by simp[k1,hl])
 ·obtain ⟨v',w',hrun,hown,hg⟩:=run_append_arg_grows (P:=P) w t ty e i z 1 bytes ht hi hz hsize hby hzs (by omega) ⟨g,off,none⟩ n cap xs (by rw[h.1];omega) (fun j u hu=>by rw[Addr.add_lit];exact h.cells j u hu) ad m c news (by simp[hl]) hnews (by omega) h63 hbytes
  obtain ⟨g',cap',rfl⟩:∃g' cap',v'= .slice (some ⟨g',0,none⟩) (n+m) cap':=by
   rcases hown.2 with ⟨_,h0⟩|⟨g',cap',_,h,_⟩
   ·omega
   ·exact ⟨g',cap',h⟩
  exact ⟨g',0,cap',w',hrun,win_of_own (own_base hown hbase),⟨hg.os,hg.tape,hg.output,hg.size,fun k hk _=>hg.block k hk (by simp)⟩⟩
end
def WinS (w:World) (base:Nat) (v:Value) (l:List ByteArray):Prop:=
 (v= .slice none 0 0∧l=[])∨∃g off cap,v= .slice (some ⟨g,off,none⟩) l.length cap∧Win w base 9 g off l.length cap (l.map Value.string)
section
variable {w w':World} {base:Nat} {v:Value} {l:List ByteArray}
theorem WinS.of_own {n:Nat} (h:w.ownsRow base 9 1 v n (l.map Value.string)):WinS w base v l:=by
 have hn:l.length=n:=by have:=h.1;simpa using this
 subst hn
 rcases h.2 with ⟨rfl,h0⟩|⟨g,cap,cur,rfl,_⟩
 ·exact .inl ⟨rfl,List.eq_nil_of_length_eq_zero h0⟩
 ·exact .inr ⟨g,0,cap,rfl,win_of_own h⟩
theorem WinS.own (h:WinS w base v l):∀k,v.ownBlock=some k→base≤k∧k<w.heap.size:=fun k hk=>by
 rcases h with ⟨rfl,_⟩|⟨g,off,cap,rfl,h⟩
 ·cases hk
 ·simp only[Value.ownBlock,Option.some.injEq] at hk
  subst hk
  exact ⟨h.2.1,h.lt⟩
theorem WinS.grown {row:Option Nat} (h:WinS w base v l) (hg:w.grownBy w' row) (hne:∀k,v.ownBlock=some k→row≠some k):WinS w' base v l:=by
 rcases h with h|⟨g,off,cap,rfl,h⟩
 ·exact .inl h
 ·exact .inr ⟨g,off,cap,rfl,h.block (hg.block g h.lt (fun e=>hne g rfl e.symm))⟩
theorem WinS.head {x:ByteArray} (h:WinS w base v (x::l)):∃g off cap,v= .slice (some ⟨g,off,none⟩) (l.length+1) cap∧l.length+1≤cap∧cap≤maxLen∧w.cell? ⟨g,off,none⟩=some (.string x)∧
  ((cap≠1∧WinS w base (.slice (some ⟨g,off+1,none⟩) l.length (cap-1)) l)∨(cap=1∧l=[]∧WinS w base (.slice (some ⟨g,off,none⟩) 0 0) [])):=by
 rcases h with ⟨_,h⟩|⟨g,off,cap,rfl,h⟩
 ·cases h
 ·refine ⟨g,off,cap,rfl,h.2.2.1,h.2.2.2.1,by simpa using h.cells 0 (.string x) rfl,?_⟩
  by_cases hc:cap=1
  ·have:=h.2.2.1
   simp only[List.length_cons] at this
   obtain rfl:l=[]:=List.eq_nil_of_length_eq_zero (by omega)
   obtain ⟨k1,k2,k3,k4,cur,hh,k5,k6⟩:=h
   exact .inr ⟨hc,rfl,.inr ⟨g,off,0,rfl,rfl,k2,Nat.le_refl _,Nat.zero_le _,cur,hh,by omega,by simp⟩⟩
  ·exact .inl ⟨hc,.inr ⟨g,off+1,cap-1,rfl,h.tail⟩⟩
theorem run_append_slice_nil {P:Program} (t ty e:TypeId) (i:TypeInfo) (ht:P.underlying t=some (.slice e)) (hi:P.info? e=some i) (ad:Addr) (n cap c:Nat) (hn:n≤cap):
  (Builtin.append_ #[t,t] ty #[.slice (some ad) n cap,.slice none 0 c]).run P w= .ok (.slice (some ad) n cap) w:=by
 simp[Builtin.append_,run_underlying ht,sizeOf,typeInfo,hi,Builtin.lenOf,Builtin.firstCells,hn,storeCells]
theorem wpList_append_wins {B:Nat} {ops:Array Oper} {rest:List Oper} {o:Oper} {a:Act} {Q:Exit→Act→World→Prop} (hgd:o.guard=none) (s x:Operand)
  (ho:o.op= .call {callee:= .builtin .append,args:= #[s,x],argTypes:= #[76,76]})
  (base:Nat) (l l2:List ByteArray) (v:Value) (hs:a.eval s=v) (h:WinS w base v l) (A:Option Addr) (c:Nat) (hx:a.eval x= .slice A l2.length c) (hsl:Sl w B 1 isStr A l2)
  (hl:l.length+l2.length<1000000) (hbase:base≤w.heap.size)
  (hK:∀v' w',WinS w' base v' (l++l2)→w.grownBy w' v.ownBlock→wpList Tryz.prog ops Q rest (a.put o.dst v') w'):wpList Tryz.prog ops Q (o::rest) a w:=by
 refine' zq219
 rcases h with ⟨rfl,rfl⟩|⟨g,off,cap,rfl,h⟩
 ·refine wpList_append_sl hgd s x 76 ho base 9 i0 (.string ⟨#[]⟩) 1 16 Tryz.underlying76 hi0 hz0 hz1 hz2 rfl (by decide) _ 0 [] hs (World.ownsRow_nil _ _ _ _) A l2 c hx hsl (fun _ _ h=>isStr_one h) (by unfold maxLen;omega) (by omega) hbase ?_
  intro v' w' css h1 h2 _ h4
  refine hK v' w' ?_ h4
  rw[List.nil_append,strs_css h2] at h1
  exact WinS.of_own h1
 ·obtain ⟨css,hare,hc⟩:=hsl.css (fun x cs h=>(isStr_one h).1)
  rw[strs_css hare] at hc
  refine wpList_plain hgd fun K' hK'=>?_
  unfold Oper.wp
  cases A with
  |none=>
   have hl0:l2=[]:=by
    rcases Nat.eq_zero_or_pos l2.length with h0|h0
    ·exact List.eq_nil_of_length_eq_zero h0
    ·obtain ⟨_,_,h,_⟩:=hsl h0
     cases h
   subst hl0
   have hrun:=run_append_slice_nil (P:=Tryz.prog) (w:=w) 76 o.type 9 i0 Tryz.underlying76 hi0 ⟨g,off,none⟩ l.length cap c h.2.2.1
   simp only[List.length_nil] at hx
   simp[execOp,ho,resolve,invoke,builtin,hs,hx,hrun,Result.andThen]
   refine hK' _ _ (hK _ w ?_ ⟨rfl,rfl,rfl,Nat.le_refl _,fun _ _ _=>rfl⟩)
   rw[List.append_nil]
   exact .inr ⟨g,off,cap,rfl,h⟩
  |some ad=>
   obtain ⟨g',off',cap',w',hrun,hw,hg⟩:=run_append_wins (P:=Tryz.prog) 76 o.type i0 (.string ⟨#[]⟩) 16 Tryz.underlying76 hi0 hz0 hz1 hz2 rfl h ad l2.length c (l2.map Value.string) (by simp) (hc ad rfl) (by
    intro u hu
    obtain ⟨y,_,rfl⟩:=List.mem_map.1 hu
    rfl) (by unfold maxLen;omega) (by omega) hbase
   simp[execOp,ho,resolve,invoke,builtin,hs,hx,hrun,Result.andThen]
   refine hK' _ _ (hK _ w' (.inr ⟨g',off',cap',?_,?_⟩) hg)
   ·simp
   ·simpa using hw
end
theorem clone_strs (l:List ByteArray) (A:Option Addr) (cap:Nat) (w:World) (h0:l.length≤1000) (h:Sl w w.heap.size 1 isStr A l):
  Calls Tryz.prog 203 #[.slice A l.length cap] w fun e w'=>(∃v,e= .returned v∧WinS w' w.heap.size v l)∧Below w.heap.size w w':=by
 refine' zq219
 cases A with
 |none=>
  have hl:l=[]:=by
   rcases Nat.eq_zero_or_pos l.length with h1|h1
   ·exact List.eq_nil_of_length_eq_zero h1
   ·obtain ⟨_,_,h,_⟩:=h h1
    cases h
  subst hl
  clear h
  have en:=Lib.run_eql_slice_nil (P:=Tryz.prog)
  go_enter Tryz.func203,Tryz.ntmps203
  go_wp2_with fail
  go_ret
  exact ⟨⟨_,rfl,.inl ⟨rfl,rfl⟩⟩,Below.refl _ _⟩
 |some ad=>
  have en:=Lib.run_eql_slice_nil (P:=Tryz.prog)
  have HS:=Lib.hid (h.keep (keeps_of ((Below.refl _ w).alloc (Nat.le_refl _) (.cells #[] 9))) (Nat.le_refl _) (fun _ _ _ h=>h))
  have ho:=own_empty w 9 1
  clear h
  go_enter Tryz.func203,Tryz.ntmps203
  go_wp2_with (at_builtin;refine wpList_append_sl rfl _ _ 76 rfl w.heap.size 9 i0 _ 1 16 Tryz.underlying76 hi0 hz0 hz1 hz2 rfl (by decide) _ _ _ rfl ho (some ad) l cap rfl HS.out (fun _ _ h=>isStr_one h) ?c3 ?c4 ?c5 ?_)
  case c3=>unfold maxLen;omega
  case c4=>omega
  case c5=>simp
  intro v' w3 css' hown' hare' hb3 _
  have HO:=Lib.hid hown'
  have HA:=Lib.hid hare'
  clear hown' hare'
  go_wp2_with fail
  go_ret
  refine ⟨⟨_,rfl,WinS.of_own (n:=0+l.length) ?_⟩,((Below.refl _ _).alloc (Nat.le_refl _) _).trans hb3⟩
  have:=HO.out
  rw[strs_css HA.out] at this
  simpa using this
end Go.Proofs.YtgjfkidbfmbjoaaGreat
