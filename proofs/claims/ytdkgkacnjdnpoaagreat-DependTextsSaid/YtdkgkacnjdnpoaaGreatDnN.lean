/-
  The contract of depend.names: the wires that stand in what defines each wire.
-/
import Derived.Test.YtdkgkacnjdnpoaaGreatZz
import Derived.Test.YtdkgkacnjdnpoaaGreatScB
import Derived.Test.YtdkgkacnjdnpoaaGreatDnR
import Derived.Test.YtdkgkacnjdnpoaaGreatDnE
set_option maxHeartbeats 8000000
set_option maxRecDepth 100000
namespace Go.Proofs.YtdkgkacnjdnpoaaGreat.Q.Fo
open Go.RowKit Go.Shelf Vf
attribute [local go_sem] Oper.semAt_some
attribute [local go_sem ↓] Go.wp_at_zero Go.wp_at_succ
section
variable {F:Fence} {n:Nat} {P:Program} {ops:Array Oper} {Q:Exit→Act→World→Prop} {S:World→Prop}
theorem wpIn_region_calmL {id:Nat} {a:Act} {w:World} (s:Nat) (hm:P.follows .mixedOrders=true) (hc:(ops.toList.all fun o=>calm1 o.op)=true) (hS:S w.drew)
  (h:S w.drew→wpAnyL P .any ops (onlyN Q) S s ops.size (Array.replicate ops.size false) a w.drew):(Code.region id ops true).wpIn F n P Q a w:=
 wpIn_region_any hm (calm_any _ _ _ _ hc (wpAny_of_L _ _ _ _ (h hS)))
end
theorem info_its:(Tryz.prog.info? 34).map (fun i=>(i.zero,i.size,i.bytes))=some (some (.slice none 0 0),1,24):=by kernel_rfl
theorem make_its (n:Int) (h0:0≤n) (h1:n≤1600) (W:World):(Instr.makeSlice 25 (.int .i64 n) (.int .i64 n)).run Tryz.prog W= .ok (.slice (some ⟨W.heap.size,0,none⟩) n.toNat n.toNat) (W.alloc (.cells (List.replicate n.toNat (.slice none 0 0)).toArray 34)):=by
 obtain ⟨i0,hi0,hz0,hz1,hz2⟩:=info_parts info_its
 rw[run_make (P:=Tryz.prog) W 25 34 i0 (.slice none 0 0) rfl hi0 hz0 .i64 .i64 n n h0 (Int.le_refl _) (by rw[hz2];omega) (by omega),hz1,Nat.mul_one,←made_one_g]
 rfl
theorem MarksAt.updC {X:Nat→Prop} {W W':World} {marks:List Nat} (h:MarksAt W marks) (hu:Upd X W W') (hX:∀D∈marks,¬X D):MarksAt W' marks:=⟨h.1,fun D hD=>(hu.block D (h.lt hD) (hX D hD)).trans (h.2 D hD)⟩
theorem own_nm {W:World} {base D size n:Nat} {e:TypeId} {v:Value} {xs:List Value} {u:Option (List Deferred)} (h:W.ownsRow base e size v n xs) (hD:W.heap[D]? =some (.deferred u)):v.ownBlock≠some D:=by
 rcases h.2 with ⟨h0,_⟩|⟨g,c,cur,h1,h2,h3,_⟩
 ·subst h0;intro q;cases q
 ·subst h1
  intro q
  cases q
  rw[hD] at h3
  cases h3
def DfTo (f:Fl) (k:Nat) (j:Nat) (m:Int):Prop:=∃d∈f.defs.take k,d.1=j∧m∈useL (exList d.2)
def CkTo (f:Fl) (k:Nat) (j:Nat) (m:Int):Prop:=j<k∧∃x,f.wires[j]? =some x∧∃g∈x.clock,g.wire=m
def TbU (f:Fl) (b:Nat) (U:Nat→Int→Prop) (L:List (List Int)):Prop:=L.length=f.wires.length∧(∀l∈L,l.length≤b)∧∀(j:Nat) (m:Int),m∈L.getD j []↔U j m
theorem TbU.put {f:Fl} {b:Nat} {U U':Nat→Int→Prop} {L:List (List Int)} {i:Nat} {l:List Int} {n:Int} (h:TbU f b U L) (hi:L[i]? =some l) (hU:∀j m,U' j m↔U j m∨(j=i∧m=n)):TbU f (b+1) U' (L.set i (l++ [n])):=by
 obtain ⟨h1,h2,h3⟩:=h
 have hil:=(List.getElem?_eq_some_iff.1 hi).1
 refine ⟨by rw[List.length_set];exact h1,fun x hx=>?_,fun j m=>?_⟩
 ·rcases List.mem_or_eq_of_mem_set hx with g|g
  ·exact Nat.le_succ_of_le (h2 x g)
  ·rw[g,List.length_append]
   have:=h2 l (List.mem_of_getElem? hi)
   simp only[List.length_cons,List.length_nil]
   omega
 ·rw[hU,←h3,List.getD_eq_getElem?_getD,List.getD_eq_getElem?_getD,List.getElem?_set]
  by_cases e:i=j
  ·subst e
   rw[if_pos rfl,if_pos hil,hi]
   simp
  ·rw[if_neg e]
   constructor
   ·exact fun g=> .inl g
   ·rintro (g|⟨g,_⟩)
    ·exact g
    ·exact absurd g.symm e
theorem TbU.weak {f:Fl} {b b':Nat} {U U':Nat→Int→Prop} {L:List (List Int)} (h:TbU f b U L) (hb:b≤b') (hU:∀j m,U' j m↔U j m):TbU f b' U' L:=⟨h.1,fun l hl=>Nat.le_trans (h.2.1 l hl) hb,fun j m=>(h.2.2 j m).trans (hU j m).symm⟩
structure NmS (w0 W:World) (f:Fl) (x0 x1 x2 x3:Value) (marks:List Nat) (b:Nat) (U:Nat→Int→Prop) (L:List (List Int)):Prop where
 r1:Row W w0.heap.size #[x0,x1,x2,x3] 48
 r2:Row W (w0.heap.size+2) #[.slice (some ⟨w0.heap.size+1,0,none⟩) f.wires.length f.wires.length] 25
 t:TbI W (w0.heap.size+3) (w0.heap.size+1) L
 u:TbU f b U L
 bel:Below w0.heap.size w0 W
 ms:MarksAt W marks
section
variable {w0 W W1:World} {f:Fl} {x0 x1 x2 x3:Value} {marks:List Nat} {b:Nat} {U U':Nat→Int→Prop} {L:List (List Int)}
theorem NmS.below (h:NmS w0 W f x0 x1 x2 x3 marks b U L) (hb:Below W.heap.size W W1):NmS w0 W1 f x0 x1 x2 x3 marks b U L:=
 ⟨h.r1.below hb h.r1.lt,h.r2.below hb h.r2.lt,h.t.below hb,h.u,h.bel.trans (hb.mono h.bel.size),h.ms.below hb⟩
theorem NmS.weak {b':Nat} (h:NmS w0 W f x0 x1 x2 x3 marks b U L) (hb:b≤b') (hU:∀j m,U' j m↔U j m):NmS w0 W f x0 x1 x2 x3 marks b' U' L:=⟨h.r1,h.r2,h.t,h.u.weak hb hU,h.bel,h.ms⟩
theorem NmS.at_ (h:NmS w0 W f x0 x1 x2 x3 marks b U L) {i:Nat} (hi:i<f.wires.length):∃(l:List Int) (v:Value) (cs:Array Value),l.length≤b∧Row W (w0.heap.size+1) cs 34∧cs[i]? =some v∧W.ownsRow (w0.heap.size+3) 3 1 v l.length (intsV l)∧
  ∀(W1:World) (v':Value) (n:Int) (U':Nat→Int→Prop),Upd (fun j=>v.ownBlock=some j∨W.heap.size≤j) W W1→W1.ownsRow (w0.heap.size+3) 3 1 v' (l.length+1) (intsV l++ [.int .i64 n])→(v'.ownBlock=v.ownBlock∨∃g,v'.ownBlock=some g∧W.heap.size≤g)→(∀j m,U' j m↔U j m∨(j=i∧m=n))→∃L',NmS w0 (W1.setCell ⟨w0.heap.size+1,i,none⟩ v') f x0 x1 x2 x3 marks (b+1) U' L':=by
 have hil:i<L.length:=by rw[h.u.1];exact hi
 have hli:L[i]? =some L[i]:=List.getElem?_eq_getElem hil
 obtain ⟨v,cs,rT,hcv,hown,hput⟩:=h.t.at_ hli
 refine ⟨L[i],v,cs,h.u.2.1 _ (List.getElem_mem hil),rT,hcv,hown,fun W1 v' n U' hu hown' hb hU=>?_⟩
 have hsW:=h.bel.size
 have hu':Upd (fun j=>(v.ownBlock=some j∨W.heap.size≤j)∨j=w0.heap.size+1) W (W1.setCell ⟨w0.heap.size+1,i,none⟩ v'):=(hu.mono (fun j e=>Or.inl e)).trans (Upd.setCell (Upd.refl _ _) (by exact Or.inr rfl) _)
 have hnX:∀{b':Nat} {cs':Array Value} {t':TypeId},Row W b' cs' t'→t'≠3→b'≠w0.heap.size+1→¬((v.ownBlock=some b'∨W.heap.size≤b')∨b'=w0.heap.size+1):=fun r ht hb e=>e.elim (fun e=>e.elim (own_ne hown r ht) (fun e=>by have:=r.lt;omega)) hb
 refine ⟨_,hu'.row h.r1 (hnX h.r1 (by decide) (by omega)),hu'.row h.r2 (hnX h.r2 (by decide) (by omega)),hput W1 v' (L[i]++ [n]) hu (by rw[intsV_snoc,List.length_append];exact hown') hb,h.u.put hli hU,h.bel.trans (hu'.below (B:=w0.heap.size) (fun j e=>?_) hsW),MarksAt.updC h.ms hu' (fun D hD e=>?_)⟩
 ·rcases e with (e|e)|e
  ·have:=(hown.lt j e).1;omega
  ·omega
  ·omega
 ·rcases e with (e|e)|e
  ·exact own_nm hown (h.ms.2 D hD) e
  ·have:=h.ms.lt hD;omega
  ·have h1:=h.ms.2 D hD
   have h2:W.heap[w0.heap.size+1]? =_:=rT
   rw[e,h2] at h1
   cases h1
end
theorem TbI.keepC {W W':World} {base O:Nat} {L:List (List Int)} (h:TbI W base O L) (hk:∀(b:Nat) (cs:Array Value) (t:TypeId) (fz:Nat × Nat),W.heap[b]? =some (.cells cs t fz)→W'.heap[b]? =some (.cells cs t fz)):TbI W' base O L:=by
 obtain ⟨vs,h1,h2,h3,h4,h5⟩:=h
 refine ⟨vs,hk _ _ _ _ h1,h2,h3,fun i v l hv hl=>⟨(h4 i v l hv hl).1,?_⟩,h5⟩
 rcases (h4 i v l hv hl).2 with h0|⟨g,cap,cur,e1,e2,e3,e4⟩
 ·exact .inl h0
 ·exact .inr ⟨g,cap,cur,e1,e2,hk _ _ _ _ e3,e4⟩
theorem TbI.sl {W:World} {base O:Nat} {L:List (List Int)} (h:TbI W base O L) (hL:L.length≤maxLen) (hw:∀l∈L,∀x∈l,Wf x):SlV W W.heap.size 1 (isRw W W.heap.size) (.slice (some ⟨O,0,none⟩) L.length L.length) L:=by
 obtain ⟨vs,h1,h2,h3,h4,h5⟩:=h
 refine ⟨_,_,rfl,Nat.le_refl _,hL,fun _=>⟨O,0,rfl,h1.lt,fun i l hi=>?_⟩⟩
 have hil:i<vs.length:=by rw[h3];exact (List.getElem?_eq_some_iff.1 hi).1
 have hvi:vs[i]? =some vs[i]:=List.getElem?_eq_getElem hil
 refine ⟨[vs[i]],fun j u hu=>?_,vs[i],rfl,ints_whole (h4 i _ l hvi hi) (hw l (List.mem_of_getElem? hi))⟩
 have hj:j=0:=by
  cases j with
  |zero=>rfl
  |succ j=>simp at hu
 subst hj
 simp at hu
 subst hu
 have:=h1.cell i
 simpa[hil] using this
abbrev dfR (d:Int × Ex) (A:Option Addr) (cap:Nat):Array Value:= #[.int .i64 d.1,.int .i64 d.2.op,.string d.2.name,.int .i64 d.2.n,.slice A d.2.args.length cap,.int .i64 d.2.line,.int .i64 d.2.col]
theorem names_any {w:World} {f:Fl} {vw vd vi vo:Value} (h:FlAt w w.heap.size f vw vd vi vo) (hwl:f.wires.length≤1600) (hdl:f.defs.length≤1000) (hsz:∀d∈f.defs,exSize d.2≤1000000) (hd:∀d∈f.defs,isW f.fm d.1) (hcl:∀x∈f.wires,x.clock.length≤1600) (hrg:∀(j:Nat) (m:Int),DfTo f f.defs.length j m∨CkTo f f.wires.length j m→0≤m∧m<f.wires.length):
  Calls Tryz.prog 33 #[flV vw vd vi vo] w fun r w'=>(∃L v,r= .returned v∧SlV w' w'.heap.size 1 (isRw w' w'.heap.size) v L∧L.length=f.wires.length∧∀(j:Nat) (m:Int),m∈L.getD j []↔DfTo f f.defs.length j m∨CkTo f f.wires.length j m)∧Below w.heap.size w w':=by
 refine (callsIn_wide (n:=9)).1 ?_
 obtain ⟨Aw,cw,rfl,lw,mw,sw⟩:=h.wires
 obtain ⟨Ad,cd,rfl,ld,md,sd⟩:=h.defs
 have HW:Hid (∀W,Below w.heap.size w W→Sl W w.heap.size 2 (isWr W w.heap.size) Aw f.wires):=fun W hW=>sw.keep (fun p u hp hc=>(hW.cell hp).trans hc) (Nat.le_refl _) (fun x _ cs hx=>hx.keep (fun p u hp hc=>(hW.cell hp).trans hc) (Nat.le_refl _))
 have HD:Hid (∀W,Below w.heap.size w W→Sl W w.heap.size 7 (isDf W w.heap.size) Ad f.defs):=fun W hW=>sd.keep (fun p u hp hc=>(hW.cell hp).trans hc) (Nat.le_refl _) (fun x _ cs hx=>hx.below hW)
 have HDI:=Lib.hid hd
 have HSZ:=Lib.hid hsz
 have HCL:=Lib.hid hcl
 have HRG:=Lib.hid hrg
 have mk:=make_its f.wires.length (by omega) (by omega)
 have mw':cw≤9223372036854775807:=by unfold maxLen at mw;omega
 have md':cd≤9223372036854775807:=by unfold maxLen at md;omega
 clear h sw sd hd hsz hcl hrg
 refine callsIn_of_wp_marks Tryz.func33 rfl trivial ?_ rfl
 simp only[Tryz.ntmps33,List.size_toArray,List.length_cons,List.length_nil,Nat.reduceAdd,Nat.reduceSub,Array.replicate_succ,Array.replicate_zero,List.push_toArray,List.append_toArray,List.nil_append,List.cons_append]
 have rf0:Row (((w.alloc (.cells #[.slice Aw f.wires.length cw,.slice Ad f.defs.length cd,vi,vo] 48)).alloc (.cells (Array.replicate f.wires.length (.slice none 0 0)) 34)).alloc (.cells #[.slice (some ⟨w.heap.size+1,0,none⟩) f.wires.length f.wires.length] 25)) w.heap.size #[.slice Aw f.wires.length cw,.slice Ad f.defs.length cd,vi,vo] 48:=((Row.new w _ _).alloc _).alloc _
 have rt0:Row (((w.alloc (.cells #[.slice Aw f.wires.length cw,.slice Ad f.defs.length cd,vi,vo] 48)).alloc (.cells (Array.replicate f.wires.length (.slice none 0 0)) 34)).alloc (.cells #[.slice (some ⟨w.heap.size+1,0,none⟩) f.wires.length f.wires.length] 25)) (w.heap.size+1) (Array.replicate f.wires.length (.slice none 0 0)) 34:=(rowNew2 w _ _ _).alloc _
 have rb0:Row (((w.alloc (.cells #[.slice Aw f.wires.length cw,.slice Ad f.defs.length cd,vi,vo] 48)).alloc (.cells (Array.replicate f.wires.length (.slice none 0 0)) 34)).alloc (.cells #[.slice (some ⟨w.heap.size+1,0,none⟩) f.wires.length f.wires.length] 25)) (w.heap.size+2) #[.slice (some ⟨w.heap.size+1,0,none⟩) f.wires.length f.wires.length] 25:=rowNew3 w _ _ _ _
 have tb0:=TbI.new (base:=w.heap.size+3) rt0 (by omega)
 have b0:Below w.heap.size w (((w.alloc (.cells #[.slice Aw f.wires.length cw,.slice Ad f.defs.length cd,vi,vo] 48)).alloc (.cells (Array.replicate f.wires.length (.slice none 0 0)) 34)).alloc (.cells #[.slice (some ⟨w.heap.size+1,0,none⟩) f.wires.length f.wires.length] 25)):=bE
 have TU0:Hid (TbU f (0*1000000) (DfTo f 0) (List.replicate f.wires.length [])):=⟨by simp,fun l hl=>by rw[(List.mem_replicate.1 hl).2];simp,fun j m=>by
  rw[List.getD_eq_getElem?_getD,List.getElem?_replicate]
  constructor
  ·intro g
   split at g<;>simp at g
  ·rintro ⟨d,hd,_⟩
   simp at hd⟩
 gi_wp2_with (fail)
 obtain ⟨W0,hW0⟩:∃W0,((w.alloc (.cells #[.slice Aw f.wires.length cw,.slice Ad f.defs.length cd,vi,vo] 48)).alloc (.cells (Array.replicate f.wires.length (.slice none 0 0)) 34)).alloc (.cells #[.slice (some ⟨w.heap.size+1,0,none⟩) f.wires.length f.wires.length] 25)=W0:=⟨_,rfl⟩
 rw[hW0] at rf0 rb0 tb0 b0⊢
 clear hW0 rt0 mk
 refine wpIn_loop (fun a' wr=>∃(k:Nat) (marks:List Nat) (u5 u19 u20 u21 u22 u23 u24 u46:Value),a'={tmps:= #[flV (.slice Aw f.wires.length cw) (.slice Ad f.defs.length cd) vi vo,.pointer (some ⟨w.heap.size,0,none⟩),.slice none 0 0,.pointer (some ⟨w.heap.size+1+1,0,none⟩),undef,u5,undef,undef,undef,undef,undef,.pointer (some ⟨w.heap.size,0,none⟩),.slice Aw f.wires.length cw,.int .i64 f.wires.length,.slice (some ⟨w.heap.size+1,0,none⟩) f.wires.length f.wires.length,.pointer (some ⟨w.heap.size,1,none⟩),.slice Ad f.defs.length cd,.int .i64 f.defs.length,.int .i64 (k:Int),u19,u20,u21,u22,u23,u24,undef,undef,undef,undef,undef,undef,undef,undef,undef,undef,undef,undef,undef,undef,undef,undef,undef,undef,undef,undef,undef,u46,undef,undef,undef,undef,undef,undef,undef,undef,undef,undef,undef,undef,undef,undef,undef,undef,undef,undef,undef,undef,undef,undef,undef,undef,undef,undef,undef,undef,undef],defers:=marks.map mark}∧
   k≤f.defs.length∧(Row wr w.heap.size #[.slice Aw f.wires.length cw,.slice Ad f.defs.length cd,vi,vo] 48∧Row wr (w.heap.size+2) #[.slice (some ⟨w.heap.size+1,0,none⟩) f.wires.length f.wires.length] 25)∧(∃L,TbI wr (w.heap.size+3) (w.heap.size+1) L∧Hid (TbU f (k*1000000) (DfTo f k) L))∧Below w.heap.size w wr∧Hid (MarksAt wr marks∧∀D∈marks,w.heap.size≤D))
  (fun a' _=>f.defs.length-(intOf (a'.tmps.getD 18 undef)).toNat) ⟨0,[],_,_,_,_,_,_,_,_,rfl,Nat.zero_le _,⟨rf0,rb0⟩,⟨_,tb0,TU0⟩,b0,⟨⟨List.nodup_nil,fun D h=>by cases h⟩,fun D h=>by cases h⟩⟩ ?_
 clear rf0 rb0 tb0 b0 TU0
 rintro _ wr ⟨k,marks,u5,u19,u20,u21,u22,u23,u24,u46,rfl,hk,⟨rf,rb⟩,⟨L,tb,TU⟩,hB,HM⟩
 have hsB:=hB.size
 have hl2:=rb.lt
 by_cases hlt:k<f.defs.length
 rotate_left 1
 ·obtain rfl:k=f.defs.length:=by omega
  have q0:=rf.cell 0
  simp only[List.getElem?_toArray,List.getElem?_cons_zero] at q0
  gi_wp2_with (fail)
  refine wpIn_wide.2 ?_
  have HS0:Hid (NmS w wr f (.slice Aw f.wires.length cw) (.slice Ad f.defs.length cd) vi vo marks (f.defs.length*1000000+0*1600) (fun j m=>DfTo f f.defs.length j m∨CkTo f 0 j m) L):=⟨rf,rb,tb,TU.out.weak (by omega) (fun j m=>⟨fun h=>h.elim id (fun h=>absurd h.1 (by omega)),.inl⟩),hB,HM.out.1⟩
  have HMN:Hid (∀D∈marks,w.heap.size≤D):=HM.out.2
  clear rf rb tb TU hB HM hlt hk q0 hl2 hsB
  go_loopw[50] (fun i wr'=>∃(k:Nat) (L:List (List Int)),k≤f.wires.length∧i= .int .i64 k∧Hid (NmS w wr' f (.slice Aw f.wires.length cw) (.slice Ad f.defs.length cd) vi vo marks (f.defs.length*1000000+k*1600) (fun j m=>DfTo f f.defs.length j m∨CkTo f k j m) L)) (fun i _=>f.wires.length-(intOf i).toNat)
  case atStart=>exact ⟨0,L,Nat.zero_le _,rfl,HS0⟩
  case round=>
   clear HS0
   obtain ⟨k,L1,hk,rfl,HS⟩:=hrel
   have hB:=HS.out.bel
   have hsB:=hB.size
   by_cases hlt:k<f.wires.length
   rotate_left 1
   ·obtain rfl:k=f.wires.length:=by omega
    have q2:wr.cell? ⟨w.heap.size+1+1,0,none⟩=some (.slice (some ⟨w.heap.size+1,0,none⟩) f.wires.length f.wires.length):=(HS.out.r2.cell 0).trans rfl
    go_wp2_with fail
    gi_wp2_with (fail)
    refine leaves_marks marks _ HS.out.ms.1 HS.out.ms.2 fun w' hu=>?_
    have hks:∀(b:Nat) (cs:Array Value) (t:TypeId) (fz:Nat × Nat),wr.heap[b]? =some (.cells cs t fz)→w'.heap[b]? =some (.cells cs t fz):=fun b cs t fz hc=>(hu.block b (Array.getElem?_eq_some_iff.1 hc).1 (fun e=>by rw[HS.out.ms.2 b e] at hc;cases hc)).trans hc
    refine ⟨.slice (some ⟨w.heap.size+1,0,none⟩) f.wires.length f.wires.length,by simp[results,Tryz.f33,go_sem],⟨L1,_,rfl,?_,HS.out.u.1,HS.out.u.2.2⟩,hB.trans (hu.below (fun j e=>HMN.out j e) hsB)⟩
    have hsl:=TbI.sl (TbI.keepC HS.out.t hks) (by rw[HS.out.u.1];unfold maxLen;omega) (fun l hl x hx=>by
     obtain ⟨j,hj⟩:=List.getElem?_of_mem hl
     have:=HRG.out j x ((HS.out.u.2.2 j x).1 (by rw[List.getD_eq_getElem?_getD,hj];exact hx))
     exact wf_of ⟨by omega,by omega⟩)
    rwa [HS.out.u.1] at hsl
   obtain ⟨b,off,x,Ag,cg,hA,hb,hxk,wx,d0,d1,lg,mg,sg⟩:=(HW.out wr hB).wr hlt
   subst hA
   have HXK:=Lib.hid hxk
   have HCX:=Lib.hid (HCL.out x (List.mem_of_getElem? hxk))
   have HG:Hid (∀W,Below w.heap.size w W→Sl W w.heap.size 2 isGd Ag x.clock):=fun W hW=>sg.keep (fun p u hp hc=>(hW.cell hp).trans ((hB.cell hp).symm.trans hc)) (Nat.le_refl _) (fun _ _ _ h=>h)
   have mg':cg≤9223372036854775807:=by unfold maxLen at mg;omega
   have rx:=Row.new wr #[.int .i64 x.ty,.slice Ag x.clock.length cg] 141
   have ba:Below wr.heap.size wr (wr.alloc (.cells #[.int .i64 x.ty,.slice Ag x.clock.length cg] 141)):=bE
   have i0:(0:Int)≤(k:Int):=by omega
   have i1:(k:Int)<(f.wires.length:Int):=by omega
   clear hxk sg
   go_upto_region 17 with (fail)
   have HS5:=Lib.hid (HS.out.below ba)
   clear d0 d1 rx
   obtain ⟨wo,hwo⟩:∃wo:World,wo=wr:=⟨_,rfl⟩
   have q1:(wr.alloc (.cells #[.int .i64 x.ty,.slice Ag x.clock.length cg] 141)).cell? ⟨wr.heap.size,1,none⟩=some (.slice Ag x.clock.length cg):=(Row.new wr #[.int .i64 x.ty,.slice Ag x.clock.length cg] 141).cell 1
   generalize wr.alloc (.cells #[.int .i64 x.ty,.slice Ag x.clock.length cg] 141)=w5 at*
   have HS6:Hid (NmS w w5 f (.slice (some ⟨b,off,none⟩) f.wires.length cw) (.slice Ad f.defs.length cd) vi vo marks (f.defs.length*1000000+k*1600+0) (fun j n=>(DfTo f f.defs.length j n∨CkTo f k j n)∨(j=k∧∃g∈x.clock.take 0,g.wire=n)) L1):=HS5.out.weak (by omega) (fun j n=>by simp)
   clear HS HS5 hB hsB ba
   generalize wr.heap.size=Bw at*
   clear hwo wo
   go_wp2_with fail
   go_loopw[58] (fun i wr'=>∃(m:Nat) (L2:List (List Int)),m≤x.clock.length∧i= .int .i64 m∧Hid (NmS w wr' f (.slice (some ⟨b,off,none⟩) f.wires.length cw) (.slice Ad f.defs.length cd) vi vo marks (f.defs.length*1000000+k*1600+m) (fun j n=>(DfTo f f.defs.length j n∨CkTo f k j n)∨(j=k∧∃g∈x.clock.take m,g.wire=n)) L2)) (fun i _=>x.clock.length-(intOf i).toNat)
   case atStart=>exact ⟨0,L1,Nat.zero_le _,rfl,HS6⟩
   case round=>
    clear HS6
    obtain ⟨m,L2,hm,rfl,HS⟩:=hrel
    have hB:=HS.out.bel
    have hsB:=hB.size
    by_cases hlt2:m<x.clock.length
    rotate_left 1
    ·obtain rfl:m=x.clock.length:=by omega
     have HS7:Hid (NmS w wr f (.slice (some ⟨b,off,none⟩) f.wires.length cw) (.slice Ad f.defs.length cd) vi vo marks (f.defs.length*1000000+(k+1)*1600) (fun j n=>DfTo f f.defs.length j n∨CkTo f (k+1) j n) L2):=HS.out.weak (by have:=HCX.out;omega) (fun j n=>by
      rw[List.take_length]
      unfold CkTo
      constructor
      ·rintro (h|⟨h,y,hy,h'⟩)
       ·exact .inl (.inl h)
       ·by_cases e:j=k
        ·subst e
         rw[HXK.out] at hy
         cases hy
         exact .inr ⟨rfl,h'⟩
        ·exact .inl (.inr ⟨by omega,y,hy,h'⟩)
      ·rintro ((h|⟨h,h'⟩)|⟨h,h'⟩)
       ·exact .inl h
       ·exact .inr ⟨by omega,h'⟩
       ·subst h
        exact .inr ⟨by omega,x,HXK.out,h'⟩)
     clear HS
     go_wp2_with fail
     go_roundw
     case rel=>exact ⟨k+1,L2,by omega,by go_num,HS7⟩
     case measure=>simp[intOf];omega
    obtain ⟨bg,og,g,hAg,hbg,hgm,wg,e0,e1⟩:=(HG.out wr hB).gd hlt2
    subst hAg
    have HGM:=Lib.hid hgm
    have rg:=Row.new wr #[.int .i64 g.wire,.bool g.no] 152
    have bg':Below wr.heap.size wr (wr.alloc (.cells #[.int .i64 g.wire,.bool g.no] 152)):=bE
    have j0:(0:Int)≤(m:Int):=by omega
    have j1:(m:Int)<(x.clock.length:Int):=by omega
    clear hgm
    have HS7:=Lib.hid (HS.out.below bg')
    have rX:=rg
    go_upto_region 20 with (fail)
    clear e0 e1 rg HS
    generalize wr.alloc (.cells #[.int .i64 g.wire,.bool g.no] 152)=w6 at*
    generalize wr.heap.size=Bg at*
    clear bg' hB hsB
    obtain ⟨l1,v,cs,hll,rT,hcv,hown,hput⟩:=HS7.out.at_ hlt
    obtain ⟨Av,cv,rfl,-⟩:=own_rd hown
    obtain ⟨i0',hi0,hz0,hz1,hz2⟩:=info_parts info_int
    have r2:=HS7.out.r2
    have hW3:w.heap.size+3≤w6.heap.size:=by have:=r2.lt;omega
    have hSS:Hid (∀W',Upd (fun j=>(Value.slice Av l1.length cv).ownBlock=some j∨w6.heap.size≤j) w6 W'→W'.cell? ⟨w.heap.size+1+1,0,none⟩=some (.slice (some ⟨w.heap.size+1,0,none⟩) f.wires.length f.wires.length)∧W'.cell? ⟨w.heap.size+1,k,none⟩=some (.slice Av l1.length cv)∧W'.frozen? ⟨w.heap.size+1,k,none⟩=false∧W'.cell? ⟨Bg,0,none⟩=some (.int .i64 g.wire)):=fun W' hu=>by
     have q2:=hu.row r2 (fun e=>e.elim (own_ne hown r2 (by decide)) (fun e=>by have:=r2.lt;omega))
     have qT:=hu.row rT (fun e=>e.elim (own_ne hown rT (by decide)) (fun e=>by have:=rT.lt;omega))
     have qX:=hu.row rX (fun e=>e.elim (own_ne hown rX (by decide)) (fun e=>by have:=rX.lt;omega))
     exact ⟨show W'.cell? ⟨w.heap.size+2,0,none⟩=_ from (q2.cell 0).trans rfl,(qT.cell k).trans hcv,qT.frozen k,(qX.cell 0).trans rfl⟩
    have HPUT:=Lib.hid hput
    have HOW:=Lib.hid hown
    have hcx:=HCX.out
    clear hput hcv rT rX r2 hown
    refine wp_only ?_
    refine wp_region_L 11 (S:=fun W=>W.cell? ⟨w.heap.size+1+1,0,none⟩=some (.slice (some ⟨w.heap.size+1,0,none⟩) f.wires.length f.wires.length)∧W.cell? ⟨w.heap.size+1,k,none⟩=some (.slice Av l1.length cv)∧W.frozen? ⟨w.heap.size+1,k,none⟩=false∧W.cell? ⟨Bg,0,none⟩=some (.int .i64 g.wire)) (by kernel_rfl) ?_ (fun hHeld=>?_)
    ·refine' zq74
    refine tkL 0 (some 62) rfl ?_
    refine tkL 1 (some 63) rfl ?_
    refine tkL 2 (some 64) rfl ?_
    refine tkL 3 (some 65) rfl ?_
    refine tkL 4 (some 66) rfl ?_
    refine tkL 5 (some 67) rfl ?_
    refine tkL 6 (some 68) rfl ?_
    refine tkL 7 (some 69) rfl ?_
    refine rdL 8 (some 70) rfl (fun KK hKK=>?_)
    go_simp
    refine' zq71
    refine rdL 9 (some 71) rfl (fun KK hKK=>?_)
    rw[if_pos (by kernel_rfl)];refine wp_append_any _ (.tmp 67) (.tmp 70) 34 rfl (w.heap.size+3) 3 i0' _ 1 8 Tryz.underlying34 hi0 hz0 hz1 hz2 rfl (by decide) _ l1.length _ rfl (own_below HOW.out (bE:Below w6.heap.size w6 _)) ⟨_,0,none⟩ 1 1 [.int .i64 g.wire] rfl rfl (cell_one _ _ _) (by intro u hu;simp at hu;subst hu;rfl) (by unfold maxLen;omega) (by omega) (by first|omega|(simp;omega)) ?_;intro v13 w13 hown13 hg13 hb13;(have hu13:=(Upd.of_below (X:=fun j=>(Value.slice Av l1.length cv).ownBlock=some j∨w6.heap.size≤j) (bE:Below w6.heap.size w6 (w6.drew.alloc (.cells #[.int .i64 g.wire] 3)))).trans ((own_up hg13).mono (fun j e=>Or.inl e)));(obtain ⟨A13,c13,rfl,-⟩:=own_rd hown13)
    refine' zq71
    refine rdL 10 (some 72) rfl (fun KK hKK=>?_)
    go_simp
    refine' zq71
    refine' zq37
    obtain ⟨L3,hL3⟩:=HPUT.out w13 _ g.wire (fun j n=>(DfTo f f.defs.length j n∨CkTo f k j n)∨(j=k∧∃g∈x.clock.take (m+1),g.wire=n)) hu13 hown13 (hb13.imp id (fun e=>⟨_,e,by simp⟩)) (fun j n=>by
     rw[List.take_add_one,HGM.out]
     constructor
     ·rintro (h|⟨h,y,hy,h'⟩)
      ·exact .inl (.inl h)
      ·rcases List.mem_append.1 hy with q|q
       ·exact .inl (.inr ⟨h,y,q,h'⟩)
       ·simp at q
        subst q
        exact .inr ⟨h,h'.symm⟩
     ·rintro ((h|⟨h,y,hy,h'⟩)|⟨h,h'⟩)
      ·exact .inl h
      ·exact .inr ⟨h,y,List.mem_append.2 (.inl hy),h'⟩
      ·exact .inr ⟨h,g,List.mem_append.2 (.inr (by simp)),h'.symm⟩)
    have HS8:=Lib.hid (hL3.weak (b':=f.defs.length*1000000+k*1600+(m+1)) (by omega) (fun _ _=>Iff.rfl))
    clear hL3 hu13 hown13 hg13 hb13 HPUT HOW hSS HS7
    simp only[onlyN]
    go_wp2_with fail
    go_roundw
    case rel=>exact ⟨m+1,L3,by omega,by go_num,HS8⟩
    case measure=>simp[intOf];omega
 obtain ⟨b,off,d,Ag,cg,hA,hb,hdk,wfd,okd,lg,mg,xg,d0,d1,d2,d3,d4,d5,d6⟩:=(HD.out wr hB).df hlt
 subst hA
 have HDK:=Lib.hid hdk
 have hdm:=List.mem_of_getElem? hdk
 have HSD:=Lib.hid (HSZ.out d hdm)
 have HOK:=Lib.hid okd
 have HXG:=Lib.hid xg
 obtain ⟨dm,hdv⟩:=Int.eq_ofNat_of_zero_le (HDI.out d hdm).1
 have hdl':dm<f.wires.length:=by have h9:d.1<f.wires.length:=(HDI.out d hdm).2;omega
 have HDV:=Lib.hid hdv
 have mg':cg≤9223372036854775807:=by unfold maxLen at mg;omega
 clear hdk okd xg hdv hdm wfd
 have i0:(0:Int)≤(k:Int):=by omega
 have i1:(k:Int)<(f.defs.length:Int):=by omega
 refine' zq58
 have bD0:Row ((wr.alloc (.cells (dfR d Ag cg) 149)).alloc (.cells (exA d.2 Ag cg) 63)) wr.heap.size (dfR d Ag cg) 149:=(Row.new wr _ _).alloc _
 have bE0:Row ((wr.alloc (.cells (dfR d Ag cg) 149)).alloc (.cells (exA d.2 Ag cg) 63)) (wr.heap.size+1) (exA d.2 Ag cg) 63:=rowNew2 wr _ _ _
 have b2:Below wr.heap.size wr ((wr.alloc (.cells (dfR d Ag cg) 149)).alloc (.cells (exA d.2 Ag cg) 63)):=bE
 have hsz2:((wr.alloc (.cells (dfR d Ag cg) 149)).alloc (.cells (exA d.2 Ag cg) 63)).heap.size=wr.heap.size+2:=by simp
 obtain ⟨W2,hW2⟩:∃W2,(wr.alloc (.cells (dfR d Ag cg) 149)).alloc (.cells (exA d.2 Ag cg) 63)=W2:=⟨_,rfl⟩
 rw[hW2] at bD0 bE0 b2 hsz2⊢
 clear hW2 d0 d1 d2 d3 d4 d5 d6
 have rf2:=rf.below b2 rf.lt
 have rb2:=rb.below b2 rb.lt
 have tb2:=tb.below b2
 have HM2:=Lib.hid (HM.out.1.below b2)
 have hB2:=hB.trans (b2.mono hsB)
 have hML:Hid (∀D∈marks,D<W2.heap.size):=fun D hD=>HM2.out.lt hD
 have HX2:=Lib.hid (exs_keep HXG.out (keeps_of (b2.mono hsB)) (Nat.le_refl _))
 clear rf rb tb
 refine wpIn_rangeFunc_ownH rfl (by decide) (gf:=71) (lb:= #[.pointer (some ⟨wr.heap.size+1,0,none⟩)]) rfl trivial (enters_of Tryz.func71 (by kernel_rfl) rfl)
  (all_stopsT _ rfl _ trivial trivial rfl (wr.heap.size+1) w.heap.size (tbX (w.heap.size+1) (w.heap.size+3)) d.2 Ag cg W2 (fun b t h=>h.elim (fun h=>⟨by omega,.inl (by omega)⟩) (fun h=>⟨by omega,.inr (by rw[h.2];decide)⟩)) HOK.out lg mg (by omega) (by omega) (fun j u hu=>by rw[bE0.cell];simpa[exCells] using hu) HX2.out)
  (fun h k=>h.trans k) (fun W l o o' _ h ho _=>keepT_putObj W l o o' h ho) (Below.refl _ _) (fun _=>rfl)
  (fun pre W=>(((Row W w.heap.size #[.slice Aw f.wires.length cw,.slice (some ⟨b,off,none⟩) f.defs.length cd,vi,vo] 48∧Row W (w.heap.size+2) #[.slice (some ⟨w.heap.size+1,0,none⟩) f.wires.length f.wires.length] 25)∧Row W wr.heap.size (dfR d Ag cg) 149)∧(∃L',TbI W (w.heap.size+3) (w.heap.size+1) L'∧Hid (TbU f (k*1000000+pre.length) (fun j m=>DfTo f k j m∨(j=dm∧m∈useL (pre.map ExN.ex))) L'))∧MarksAt W marks)∧Below w.heap.size w W)
  (fun _ _ _=>False)
  (OwnFrom.and (OwnFrom.and (OwnFrom.and (OwnFrom.and (fun s X Y row hs hg hr=>hs.own hg (fun r e=>(hr r e).2)) (fun s X Y row hs hg hr=>hs.own hg (fun r e=>(hr r e).2))) (fun s X Y row hs hg hr=>hs.own hg (fun r e=>(hr r e).2)))
   (OwnFrom.and (fun s X Y row hs hg hr=>by obtain ⟨L',g1,g2⟩:=hs;exact ⟨L',g1.own hg (fun r e=>(hr r e).2),g2⟩) (fun s X Y row hs hg hr=>hs.grown hg (fun r e hm=>by have:=(hr r e).1;have:=hML.out r hm;omega)))) (ownFrom_below (Nat.le_refl _) (by omega)))
  (fun _ _ _ _ _ hs _ _=>hs)
  ⟨⟨⟨⟨rf2,rb2⟩,bD0⟩,⟨L,tb2,TU.out.weak (by simp) (fun j m=>by simp[useL])⟩,HM2.out⟩,hB2⟩
  (fun x a' W=>∃Bx,w.heap.size+2<Bx∧Row W Bx (exA x.ex x.A x.cap) 63∧a'={tmps:= #[flV (.slice Aw f.wires.length cw) (.slice (some ⟨b,off,none⟩) f.defs.length cd) vi vo,.pointer (some ⟨w.heap.size,0,none⟩),.slice none 0 0,.pointer (some ⟨w.heap.size+1+1,0,none⟩),undef,.pointer (some ⟨wr.heap.size,0,none⟩),.pointer (some ⟨Bx,0,none⟩),undef,undef,undef,undef,.pointer (some ⟨w.heap.size,0,none⟩),.slice Aw f.wires.length cw,.int .i64 f.wires.length,.slice (some ⟨w.heap.size+1,0,none⟩) f.wires.length f.wires.length,.pointer (some ⟨w.heap.size,1,none⟩),.slice (some ⟨b,off,none⟩) f.defs.length cd,.int .i64 f.defs.length,.int .i64 (k:Int),.bool true,.pointer (some ⟨b,off+k*7,none⟩),.agg (dfR d Ag cg),.pointer (some ⟨wr.heap.size,1,none⟩),exV d.2 Ag cg,.func (.func 71) #[] #[.pointer (some ⟨wr.heap.size+1,0,none⟩)],x.v,undef,undef,undef,undef,undef,undef,undef,undef,undef,undef,undef,undef,undef,undef,undef,undef,undef,undef,undef,undef,u46,undef,undef,undef,undef,undef,undef,undef,undef,undef,undef,undef,undef,undef,undef,undef,undef,undef,undef,undef,undef,undef,undef,undef,undef,undef,undef,undef,undef,undef],defers:=[]})
  (fun x a' _ X Y row hs hg hr=>by obtain ⟨Bx,h1,h2,h3⟩:=hs;exact ⟨Bx,h1,h2.own hg (fun r e=>(hr r e).2),h3⟩)
  ?assign ?body ?done ?stop
 case assign=>
  rintro l pre x W K ⟨⟨⟨⟨r1,r2⟩,r3⟩,⟨L',t1,TL⟩,HM1⟩,hB1⟩ hK
  gi_wp2
  exact hK _ _ ((KeepsOthers.alloc _ _).from _) (KeepT.alloc _ _ _) ⟨⟨⟨⟨r1.alloc _,r2.alloc _⟩,r3.alloc _⟩,⟨L',t1.below ((Below.refl _ _).alloc (Nat.le_refl _) _),TL⟩,HM1.below ((Below.refl _ _).alloc (Nat.le_refl _) _)⟩,hB1.alloc hB1.size _⟩ ⟨W.heap.size,r2.lt,Row.new W _ _,rfl⟩
 case body=>
  rintro l pre x a' W hl hlw ⟨⟨⟨⟨r1,r2⟩,r3⟩,⟨L',t1,TL⟩,HM1⟩,hB1⟩ ⟨Bx,hBx,bX,rfl⟩ hlt2
  obtain ⟨x0,x1,x2,x3,x4,x5⟩:=bX.ex6
  by_cases hnb:namedB x.ex.op=true
  ·have ho:((x.ex.op==3)=true)∨((x.ex.op==3)=false∧(x.ex.op==24)=true)∨((x.ex.op==3)=false∧(x.ex.op==24)=false∧(x.ex.op==25)=true)∨((x.ex.op==3)=false∧(x.ex.op==24)=false∧(x.ex.op==25)=false∧(x.ex.op==26)=true):=by
    unfold namedB at hnb
    revert hnb
    cases x.ex.op==3<;>cases x.ex.op==24<;>cases x.ex.op==25<;>cases x.ex.op==26<;>simp
   have HNB:=Lib.hid hnb
   clear hnb
   have hmo:Tryz.prog.follows .mixedOrders=true:=by kernel_rfl
   have TLN:=Lib.hid (useL_yes (l:=pre.map ExN.ex) HNB.out)
   obtain ⟨l1,hl1⟩:∃l1,L'[dm]? =some l1:=⟨_,List.getElem?_eq_getElem (by rw[TL.out.1];exact hdl')⟩
   obtain ⟨v,cs,rT,hcv,hown,hput⟩:=t1.at_ hl1
   have hll:=TL.out.2.1 l1 (List.mem_of_getElem? hl1)
   have hexl:=HSD.out
   obtain ⟨Av,cv,rfl,-⟩:=own_rd hown
   have HS:Hid (∀W',Upd (fun j=>(Value.slice Av l1.length cv).ownBlock=some j∨W.heap.size≤j) W W'→W'.cell? ⟨w.heap.size+1+1,0,none⟩=some (.slice (some ⟨w.heap.size+1,0,none⟩) f.wires.length f.wires.length)∧W'.cell? ⟨wr.heap.size,0,none⟩=some (.int .i64 (dm:Int))∧W'.cell? ⟨w.heap.size+1,dm,none⟩=some (.slice Av l1.length cv)∧W'.frozen? ⟨w.heap.size+1,dm,none⟩=false∧W'.cell? ⟨Bx,2,none⟩=some (.int .i64 x.ex.n)):=fun W' hu=>by
    have q2:=hu.row r2 (fun e=>e.elim (own_ne hown r2 (by decide)) (fun e=>by have:=r2.lt;omega))
    have q3:=hu.row r3 (fun e=>e.elim (own_ne hown r3 (by decide)) (fun e=>by have:=r3.lt;omega))
    have qT:=hu.row rT (fun e=>e.elim (own_ne hown rT (by decide)) (fun e=>by have:=rT.lt;omega))
    have qX:=hu.row bX (fun e=>e.elim (own_ne hown bX (by decide)) (fun e=>by have:=bX.lt;omega))
    exact ⟨show W'.cell? ⟨w.heap.size+2,0,none⟩=_ from (q2.cell 0).trans rfl,(q3.cell 0).trans (by rw[←HDV.out];rfl),(qT.cell dm).trans hcv,qT.frozen dm,(qX.cell 2).trans rfl⟩
   have HPUT:=Lib.hid hput
   have HTR:=Lib.hid rT
   have HL1:=Lib.hid hl1
   have HR1:=Lib.hid r1
   have HR2:=Lib.hid r2
   have HR3:=Lib.hid r3
   have HRX:=Lib.hid bX
   have HOW:=Lib.hid hown
   have HM1':=Lib.hid HM1
   have HBB1:=Lib.hid hB1
   have hsW:=hB1.size
   have dm0:(0:Int)≤(dm:Int):=by omega
   have dm1:(dm:Int)<(f.wires.length:Int):=by omega
   obtain ⟨i0',hi0,hz0,hz1,hz2⟩:=info_parts info_int
   have hWn:w.heap.size+3≤W.heap.size:=by have:=r2.lt;omega
   clear hput hcv rT hl1
   rcases ho with o3|⟨o3,o4⟩|⟨o3,o4,o5⟩|⟨o3,o4,o5,o6⟩
   all_goals
    gi_wp2_with (fail)
    refine wpIn_region_calmL 13 (S:=fun W=>W.cell? ⟨w.heap.size+1+1,0,none⟩=some (.slice (some ⟨w.heap.size+1,0,none⟩) f.wires.length f.wires.length)∧W.cell? ⟨wr.heap.size,0,none⟩=some (.int .i64 (dm:Int))∧W.cell? ⟨w.heap.size+1,dm,none⟩=some (.slice Av l1.length cv)∧W.frozen? ⟨w.heap.size+1,dm,none⟩=false∧W.cell? ⟨Bx,2,none⟩=some (.int .i64 x.ex.n)) hmo (by kernel_rfl) ?_ (fun hHeld=>?_)
    ·refine' zq75
    refine tkL 0 (some 33) rfl ?_
    refine tkL 1 (some 34) rfl ?_
    refine tkL 2 (some 35) rfl ?_
    refine tkL 3 (some 36) rfl ?_
    refine tkL 4 (some 37) rfl ?_
    refine tkL 5 (some 38) rfl ?_
    refine tkL 6 (some 39) rfl ?_
    refine tkL 7 (some 40) rfl ?_
    refine tkL 8 (some 41) rfl ?_
    refine tkL 9 (some 42) rfl ?_
    refine rdL 10 (some 43) rfl (fun KK hKK=>?_)
    go_simp
    refine' zq72
    refine rdL 11 (some 44) rfl (fun KK hKK=>?_)
    rw[if_pos (by kernel_rfl)];refine wp_append_any _ (.tmp 40) (.tmp 43) 34 rfl (w.heap.size+3) 3 i0' _ 1 8 Tryz.underlying34 hi0 hz0 hz1 hz2 rfl (by decide) _ l1.length _ rfl (own_below HOW.out (bE:Below W.heap.size W _)) ⟨_,0,none⟩ 1 1 [.int .i64 x.ex.n] rfl rfl (cell_one _ _ _) (by intro u hu;simp at hu;subst hu;rfl) (by unfold maxLen;omega) (by omega) (by first|omega|(simp;omega)) ?_;intro v13 w13 hown13 hg13 hb13;(have hu13:=(Upd.of_below (X:=fun j=>(Value.slice Av l1.length cv).ownBlock=some j∨W.heap.size≤j) (bE:Below W.heap.size W (W.drew.alloc (.cells #[.int .i64 x.ex.n] 3)))).trans ((own_up hg13).mono (fun j e=>Or.inl e)));(obtain ⟨A13,c13,rfl,-⟩:=own_rd hown13)
    refine' zq72
    refine rdL 12 (some 45) rfl (fun KK hKK=>?_)
    go_simp
    refine' zq72
    refine' zq37
    have hown13':w13.ownsRow (w.heap.size+3) 3 1 (.slice A13 (l1.length+1) c13) (l1++ [x.ex.n]).length (intsV (l1++ [x.ex.n])):=by
     rw[intsV_snoc,List.length_append];exact hown13
    have ht13:=HPUT.out w13 _ _ hu13 hown13' (hb13.imp id (fun e=>⟨_,e,by simp⟩))
    have hu':Upd (fun j=>((Value.slice Av l1.length cv).ownBlock=some j∨W.heap.size≤j)∨j=w.heap.size+1) W (w13.setCell ⟨w.heap.size+1,dm,none⟩ (.slice A13 (l1.length+1) c13)):=(hu13.mono (fun j e=>Or.inl e)).trans (Upd.setCell (Upd.refl _ _) (by exact Or.inr rfl) _)
    have hnX:∀{b':Nat} {cs':Array Value} {t':TypeId},Row W b' cs' t'→t'≠3→b'≠w.heap.size+1→¬(((Value.slice Av l1.length cv).ownBlock=some b'∨W.heap.size≤b')∨b'=w.heap.size+1):=fun r ht hb e=>e.elim (fun e=>e.elim (own_ne HOW.out r ht) (fun e=>by have:=r.lt;omega)) hb
    have hT:=HTR.out
    have hX1:=hBx
    have hMK:∀D∈marks,¬(((Value.slice Av l1.length cv).ownBlock=some D∨W.heap.size≤D)∨D=w.heap.size+1):=fun D hD e=>by
     rcases e with (e|e)|e
     ·exact own_nm HOW.out (HM1'.out.2 D hD) e
     ·have:=HM1'.out.lt hD;omega
     ·have h1:=HM1'.out.2 D hD
      have h2:W.heap[w.heap.size+1]? =_:=hT
      rw[e,h2] at h1
      cases h1
    have hba:Below W.heap.size W (W.drew.alloc (.cells #[.int .i64 x.ex.n] 3)):=bE
    simp only[onlyN,Exit.inBlock]
    refine ⟨(((keeps_below hba).trans (ko_own' (own_below HOW.out hba) hg13)).trans (KeepsOthers.setCell _ _ _)).from _,((KeepT.below hba).trans (keepT_tb (own_below HOW.out hba) hg13)).trans (keepT_tbset (O:=w.heap.size+1) (by exact rfl) _),⟨⟨⟨hu'.row HR1.out (hnX HR1.out (by decide) (by omega)),hu'.row HR2.out (hnX HR2.out (by decide) (by omega))⟩,hu'.row HR3.out (hnX HR3.out (by decide) (by omega))⟩,⟨_,ht13,?_⟩,MarksAt.updC HM1'.out hu' hMK⟩,HBB1.out.trans (hu'.below (B:=w.heap.size) (fun j e=>?_) hsW)⟩
    ·have:=TL.out.put (U':=fun j m=>DfTo f k j m∨(j=dm∧m∈useL ((pre++ [x]).map ExN.ex))) (n:=x.ex.n) HL1.out (fun j m=>by
      rw[List.map_append,List.map_cons,List.map_nil,TLN.out,List.mem_append,List.mem_singleton]
      constructor
      ·rintro (h|⟨h,h'|h'⟩)
       ·exact .inl (.inl h)
       ·exact .inl (.inr ⟨h,h'⟩)
       ·exact .inr ⟨h,h'⟩
      ·rintro ((h|⟨h,h'⟩)|⟨h,h'⟩)
       ·exact .inl h
       ·exact .inr ⟨h,.inl h'⟩
       ·exact .inr ⟨h,.inr h'⟩)
     exact this.weak (by rw[List.length_append];simp only[List.length_cons,List.length_nil];omega) (fun _ _=>Iff.rfl)
    ·rcases e with (e|e)|e
     ·have:=(HOW.out.lt j e).1;omega
     ·omega
     ·omega
  ·have hnb':namedB x.ex.op=false:=by simpa using hnb
   have ho:(x.ex.op==3)=false∧(x.ex.op==24)=false∧(x.ex.op==25)=false∧(x.ex.op==26)=false:=by
    unfold namedB at hnb'
    revert hnb'
    cases x.ex.op==3<;>cases x.ex.op==24<;>cases x.ex.op==25<;>cases x.ex.op==26<;>simp
   obtain ⟨o3,o4,o5,o6⟩:=ho
   have TLN:=Lib.hid (useL_no (l:=pre.map ExN.ex) hnb')
   clear hnb hnb'
   gi_wp2
   refine ⟨KeepsFrom.refl _ _,KeepT.refl _ _,⟨⟨⟨r1,r2⟩,r3⟩,⟨L',t1,TL.out.weak (by rw[List.length_append];omega) (fun j m=>by rw[List.map_append,List.map_cons,List.map_nil,TLN.out])⟩,HM1⟩,hB1⟩
 case done=>
  rintro D ys W hD hys ⟨⟨⟨⟨r1,r2⟩,r3⟩,⟨L',t1,TL⟩,HM1⟩,hB1⟩ hK
  have hyl:ys.length≤1000000:=by
   have h1:=HSD.out
   have h2:(ys.map ExN.ex).length=(exList d.2).length:=by rw[hys]
   rw[List.length_map] at h2
   unfold exSize at h1
   omega
  refine' zq139
  have HLN:Hid (TbU f ((k+1)*1000000) (DfTo f (k+1)) L'):=TL.out.weak (by omega) (fun j m=>by
   rw[hys]
   unfold DfTo
   rw[List.take_add_one,HDK.out]
   constructor
   ·rintro ⟨d',hd',h⟩
    rcases List.mem_append.1 hd' with g|g
    ·exact .inl ⟨d',g,h⟩
    ·simp at g
     subst g
     have:=HDV.out
     exact .inr ⟨by omega,h.2⟩
   ·rintro (⟨d',hd',h⟩|⟨h,h'⟩)
    ·exact ⟨d',List.mem_append.2 (.inl hd'),h⟩
    ·have:=HDV.out
     exact ⟨d,List.mem_append.2 (.inr (by simp)),by omega,h'⟩)
  gi_wp2
  refine ⟨?_,?_⟩
  ·refine ⟨k+1,D::marks,?_⟩
   (repeat apply Exists.intro)
   refine ⟨rfl,by omega,⟨r1,r2⟩,⟨L',t1,HLN⟩,hB1,HMD⟩
  ·simp[intOf]
   omega
 case stop=>
  rintro D c pre W _ _ h _
  exact h.elim
end Go.Proofs.YtdkgkacnjdnpoaaGreat.Q.Fo
