/-
  The contracts of stream.each, of any function that is called, and of stream.forget. The contract of stream.there, of what is not called, and without conditions. Rows of ints in memory: which fit types (row.Fits); whether two lists of rows are the same (tompionref22.Same).
-/
import Derived.Test.YtdkgkacnjdnpoaaGreatStrW
import Derived.Test.YtdkgkacnjdnpoaaGreatExMem
import Derived.Test.YtdkgkacnjdnpoaaGreatRefRight
import Derived.BigQuiet
set_option maxHeartbeats 4000000
set_option maxRecDepth 100000
namespace Go.Proofs.YtdkgkacnjdnpoaaGreat
open Go.RowKit
attribute [local go_sem ↓] Go.wp_at_zero Go.wp_at_succ
def Sty (lo hi:Nat) (w w':World):Prop:=∀k,lo≤k→k<hi→w'.heap[k]? =w.heap[k]?
theorem Sty.trans {lo hi:Nat} {a b c:World} (h:Sty lo hi a b) (g:Sty lo hi b c):Sty lo hi a c:=fun k h1 h2=>(g k h1 h2).trans (h k h1 h2)
theorem Tm.all_eq:∀t:Tm,t.all=t::(t.parts.map Tm.all).flatten
 | .l _ _=>by simp[Tm.all,Tm.parts]
 | .o _ _ _=>by simp[Tm.all,Tm.parts]
 | .p _ _ _ _=>by simp[Tm.all,Tm.parts]
theorem Tm.byParts {C:Tm→Prop} (h:∀t,(∀x∈t.parts,C x)→C t) (t:Tm):C t:=by
 induction t with
 |l b e=>exact h _ (fun x hx=>absurd hx (by simp[Tm.parts]))
 |o b e y ih=>
  refine h _ (fun x hx=>?_)
  simp only[Tm.parts,List.mem_singleton] at hx
  subst hx
  exact ih
 |p b e y z ih1 ih2=>
  refine h _ (fun x hx=>?_)
  simp only[Tm.parts,List.mem_cons,List.not_mem_nil,or_false] at hx
  rcases hx with rfl|rfl
  ·exact ih1
  ·exact ih2
theorem ptr_at {w w':World} {lo hi:Nat} {A:Option Addr} {l:List Nat} (h:Sl (hide lo w) hi 1 isPtr A l) (hs:Sty lo hi w w') {k:Nat} (hk:k<l.length):∃b off x,A=some ⟨b,off,none⟩∧l[k]? =some x∧w'.cell? ⟨b,off+k,none⟩=some (.pointer (some ⟨x,0,none⟩)):=by
 obtain ⟨b,off,x,cs,h1,h2,h3,h4,h5⟩:=h.at_ hk
 have h4':cs=[.pointer (some ⟨x,0,none⟩)]:=h4
 subst h4'
 have h6:=h5 0 _ rfl
 rw[Nat.mul_one,Nat.add_zero] at h6
 have h7:lo≤b:=hide_ge h6
 refine ⟨b,off,x,h1,h3,?_⟩
 rw[←hide_cell h6]
 exact World.cell?_of_block (hs b h7 h2)
structure EachK (N:Nat) (f:FuncId) (caps:Array Value) (σ:Past) (lo hi:Nat) (U:List Tm) (P:World→List Tm→Prop):Prop where
 run:∀args w,(callFunc f args).run Tryz.prog w= .ok (.enter f args) w
 tm:∀w l,P w l→∀t∈U,TmAt σ w lo hi t
 step:∀w l t,t∈U→l.length<N→P w l→Calls Tryz.prog f (#[.pointer (some ⟨t.b,0,none⟩)]++caps) w fun r w'=>r= .returned (.tuple #[])∧P w' (l++ [t])∧Sty lo hi w w'
def EachC (N:Nat) (f:FuncId) (caps:Array Value) (lo hi:Nat) (P:World→List Tm→Prop) (t:Tm):Prop:=∀w l,l.length+t.all.length≤N→P w l→
 Calls Tryz.prog 75 #[.pointer (some ⟨t.b,0,none⟩),.func (.func f) #[] caps] w fun r w'=>r= .returned (.tuple #[])∧P w' (l++t.all)∧Sty lo hi w w'
theorem part_in {U:List Tm} {t:Tm} (hU:∀u∈t.all,u∈U):∀x∈t.parts,∀u∈x.all,u∈U:=fun x hx u hu=>hU u (by
 rw[Tm.all_eq]
 exact List.mem_cons_of_mem _ (List.mem_flatten.2 ⟨x.all,List.mem_map.2 ⟨x,hx,rfl⟩,hu⟩))
theorem take_all {t x:Tm} {k:Nat} {l:List Tm} (h:t.parts[k]? =some x):(l++t::((t.parts.take k).map Tm.all).flatten)++x.all=l++t::((t.parts.take (k+1)).map Tm.all).flatten:=by
 rw[List.take_add_one,h]
 simp
theorem flat_le {t:Tm} {j:Nat}:((t.parts.take j).map Tm.all).flatten.length≤(t.parts.map Tm.all).flatten.length:=by
 have h:=congrArg (fun l=>(l.map Tm.all).flatten.length) (List.take_append_drop j t.parts)
 simp only[List.map_append,List.flatten_append,List.length_append] at h
 omega
theorem take_len {t x:Tm} {k N:Nat} {l:List Tm} (h:t.parts[k]? =some x) (hN:l.length+t.all.length≤N):(l++t::((t.parts.take k).map Tm.all).flatten).length+x.all.length≤N:=by
 rw[←List.length_append,take_all h]
 rw[Tm.all_eq] at hN
 have:=flat_le (t:=t) (j:=k+1)
 simp only[List.length_append,List.length_cons] at hN⊢
 omega
theorem each_any {N:Nat} {f:FuncId} {caps:Array Value} {σ:Past} {lo hi:Nat} {U:List Tm} {P:World→List Tm→Prop} (hK:EachK N f caps σ lo hi U P):∀t:Tm,(∀u∈t.all,u∈U)→EachC N f caps lo hi P t:=by
 refine Tm.byParts fun t ih hU=>?_
 intro w l hN hp
 have hF:=hK.run
 have HI:Hid (∀x∈t.parts,EachC N f caps lo hi P x):=fun x hx=>ih x hx (part_in hU x hx)
 have htU:t∈U:=hU t (Tm.all_self t)
 have HN:=Lib.hid hN
 have HS:=Lib.hid (hK.step w l t htU (by have:0<t.all.length:=List.length_pos_of_mem (Tm.all_self t);omega) hp)
 have HT:=Lib.hid (fun w l h=>hK.tm w l h t htU)
 clear ih hU hp hN
 go_enter Tryz.func75,Tryz.ntmps75
 go_wp2_with fail
 refine HS.out.mono ?_
 rintro r w1 ⟨rfl,hp1,hs1⟩
 obtain ⟨_,A',cap',pa,kc,rt,Ap,cp,rfl,l1,m1,sp⟩:=(HT.out _ _ hp1).row
 have HP:=Lib.hid hp1
 have HS1:=Lib.hid hs1
 have q7:w1.cell? ⟨t.b,7,none⟩=some (.slice Ap (t.parts.map Tm.b).length cp):=(rt.cell 7).trans rfl
 rw[List.length_map] at q7 l1
 have HX:=Lib.hid (fun (W:World) (hW:Sty lo hi w1 W) (k:Nat) (hk:k<t.parts.length)=>ptr_at sp hW (by rw[List.length_map];exact hk))
 have m1':cp≤9223372036854775807:=by unfold maxLen at m1;omega
 clear hp1 hs1 rt sp m1
 go_wp2_with fail
 go_loopw[14] (fun i wr=>∃k:Nat,k≤t.parts.length∧i= .int .i64 k∧Hid (P wr (l++t::((t.parts.take k).map Tm.all).flatten))∧Hid (Sty lo hi w1 wr)) (fun i _=>t.parts.length-(intOf i).toNat)
 case atStart=>exact ⟨0,Nat.zero_le _,rfl,by rw[List.take_zero];exact HP,fun _ _ _=>rfl⟩
 case round=>
  obtain ⟨k,hk,rfl,HPk,HSk⟩:=hrel
  by_cases hlt:k<t.parts.length
  rotate_left 1
  ·obtain rfl:k=t.parts.length:=by omega
   have HF:Hid (P wr (l++t.all)):=by
    show P wr (l++t.all)
    rw[Tm.all_eq]
    have:=HPk.out
    rwa [List.take_length] at this
   go_wp2_with fail
   (try simp only[Exit.inBlock,Exit.then])
   refine bodyPost_end (results_none rfl _ _ _) rfl ?_
   exact ⟨rfl,HF.out,HS1.out.trans HSk.out⟩
  obtain ⟨b,off,x,rfl,hx,hc⟩:=HX.out wr HSk.out k hlt
  obtain ⟨u,hu,hub⟩:∃u,t.parts[k]? =some u∧u.b=x:=by
   rw[List.getElem?_map,Option.map_eq_some_iff] at hx
   exact hx
  subst hub
  have i0:(0:Int)≤(k:Int):=by omega
  have i1:(k:Int)<(t.parts.length:Int):=by omega
  have HE:=Lib.hid (HI.out u (List.mem_of_getElem? hu) wr _ (take_len hu HN.out) HPk.out)
  rw[take_all hu] at HE
  clear hx hu HPk
  go_wp2_with fail
  refine HE.out.mono ?_
  rintro r w2 ⟨rfl,hp2,hs2⟩
  have HP2:=Lib.hid hp2
  have HS2:=Lib.hid (HSk.out.trans hs2)
  clear hp2 hs2 hc
  go_wp2_with fail
  go_roundw
  case rel=>exact ⟨k+1,by omega,by go_num,HP2,HS2⟩
  case measure=>first|(simp[intOf];omega)|simp[intOf]
theorem forget1_any {σ:Past} {lo hi:Nat} {t:Tm} (w:World) (ht:TmAt σ w lo hi t):
  Calls Tryz.prog 76 #[.pointer (some ⟨t.b,0,none⟩)] w fun r w'=>r= .returned (.tuple #[])∧w'=w:=by
 obtain ⟨_,A',cap',pa,kc,rt,_⟩:=ht.row
 have q8:w.cell? ⟨t.b,8,none⟩=some (.pointer none):=(rt.cell 8).trans rfl
 clear rt ht
 go_enter Tryz.func76,Tryz.ntmps76
 go_wp2_with fail
 (try simp only[Exit.inBlock,Exit.then])
 refine bodyPost_end (results_none rfl _ _ _) rfl ?_
 exact ⟨rfl,rfl⟩
theorem forget_k {N:Nat} {σ:Past} {w:World} {lo hi:Nat} {U:List Tm} (h:∀t∈U,TmAt σ w lo hi t):EachK N 76 #[] σ lo hi U (fun W _=>W=w):=
 ⟨enters_of Tryz.func76 (by kernel_rfl) rfl,fun W l e t ht=>by subst e;exact h t ht,fun W l t ht _ e=>by
  subst e
  refine Calls.mono (forget1_any W (h t ht)) ?_
  rintro r w' ⟨rfl,rfl⟩
  exact ⟨rfl,rfl,fun _ _ _=>rfl⟩⟩
theorem forget_any {Q:RnQ} {σ:Past} {rv kv:Value} (hk:RnK Q) (w:World) (h:RnAt Q σ w rv kv):
  Calls Tryz.prog 45 #[.pointer (some ⟨Q.D,0,none⟩)] w fun r w'=>r= .returned (.tuple #[])∧RnAt Q σ w' rv (.map (some w.heap.size))∧w'.heap[w.heap.size]? =some (.map #[] 0)∧Upd (fun j=>j=Q.D) w w'∧w.heap.size<w'.heap.size:=by
 have hmm:= @run_makeMap Tryz.prog
 have h1:=h.known hk (.map (some w.heap.size))
 have u1:Upd (fun j=>j=Q.D) w (w.setCell ⟨Q.D,10,none⟩ (.map (some w.heap.size))):=(Upd.refl (fun j=>j=Q.D) w).setCell (p:=⟨Q.D,10,none⟩) rfl _
 have z1:(w.setCell ⟨Q.D,10,none⟩ (.map (some w.heap.size))).heap.size=w.heap.size:=by simp[World.setCell]
 have u2:=u1.alloc (.map #[] 0)
 have h2:=h1.upd hk ((Upd.refl (fun _=>False) (w.setCell ⟨Q.D,10,none⟩ (.map (some w.heap.size)))).alloc (.map #[] 0)) (fun k e=>e.elim)
 have hm:((w.setCell ⟨Q.D,10,none⟩ (.map (some w.heap.size))).alloc (.map #[] 0)).heap[w.heap.size]? =some (.map #[] 0):=by
  have:=heap_alloc_new (w.setCell ⟨Q.D,10,none⟩ (.map (some w.heap.size))) (.map #[] 0)
  rwa [z1] at this
 have hs:w.heap.size<((w.setCell ⟨Q.D,10,none⟩ (.map (some w.heap.size))).alloc (.map #[] 0)).heap.size:=by simp
 have hDl:Q.D<w.heap.size:=h.rd.lt
 have d10:w.frozen? ⟨Q.D,10,none⟩=false:=h.rd.frozen 10
 have d9:w.cell? ⟨Q.D,10,none⟩=some kv:=(h.rd.cell 10).trans rfl
 have HQ:=Lib.hid hk
 clear h h1 u1 z1
 go_enter Tryz.func45,Tryz.ntmps45
 go_upto_region 1 with (fail)
 change Code.wp _ _ _ _ ((w.setCell ⟨Q.D,10,none⟩ (.map (some w.heap.size))).alloc (.map #[] 0))
 clear d10 d9
 generalize (w.setCell ⟨Q.D,10,none⟩ (.map (some w.heap.size))).alloc (.map #[] 0)=W1 at*
 obtain ⟨tc,tm⟩:=h2.len
 have q9:W1.cell? ⟨Q.D,9,none⟩=some (.slice Q.Ae Q.T.length Q.ce):=(h2.rd.cell 9).trans rfl
 have HX:=Lib.hid (fun (k:Nat) (hk:k<Q.T.length)=>ptr_at h2.eps (fun _ _ _=>rfl:Sty Q.lo Q.hi W1 W1) (by rw[List.length_map];exact hk))
 have HE:=Lib.hid (fun (t:Tm) (ht:t∈Q.T)=>each_any (forget_k (N:=t.all.length) (U:=t.all) (h2.tm t ht).sub) t (fun u hu=>hu) W1 [] (by simp) rfl)
 have H2:=Lib.hid h2
 have HU:=Lib.hid u2
 have HM:=Lib.hid hm
 have tm':Q.ce≤9223372036854775807:=by unfold maxLen at tm;omega
 clear h2 u2 hm tm hmm
 go_wp2_with fail
 go_loopw[13] (fun i wr=>∃k:Nat,k≤Q.T.length∧i= .int .i64 k∧wr=W1) (fun i _=>Q.T.length-(intOf i).toNat)
 case atStart=>exact ⟨0,Nat.zero_le _,rfl,rfl⟩
 case round=>
  obtain ⟨k,hk,rfl,rfl⟩:=hrel
  by_cases hlt:k<Q.T.length
  rotate_left 1
  ·obtain rfl:k=Q.T.length:=by omega
   go_wp2_with fail
   (try simp only[Exit.inBlock,Exit.then])
   refine bodyPost_end (results_none rfl _ _ _) rfl ?_
   exact ⟨rfl,H2.out,HM.out,HU.out,hs⟩
  obtain ⟨b,off,x,hA,hx,hc⟩:=HX.out k hlt
  obtain ⟨u,hu,hub⟩:∃u,Q.T[k]? =some u∧u.b=x:=by
   rw[List.getElem?_map,Option.map_eq_some_iff] at hx
   exact hx
  subst hub
  have i0:(0:Int)≤(k:Int):=by omega
  have i1:(k:Int)<(Q.T.length:Int):=by omega
  have HC:=Lib.hid (HE.out u (List.mem_of_getElem? hu))
  rw[hA]
  clear hx hu
  go_wp2_with fail
  refine HC.out.mono ?_
  rintro r w2 ⟨rfl,rfl,-⟩
  clear hc
  go_wp2_with fail
  go_roundw
  case rel=>exact ⟨k+1,by omega,by go_num,by first|rfl|trivial⟩
  case measure=>first|(simp[intOf];omega)|simp[intOf]
theorem there_any (r:Value) (D:Nat) (K:Option Addr) (c:Nat) (w:World) (hD:w.cell? ⟨D,7,none⟩=some (.pointer none)):
  Calls Tryz.prog 79 #[r,.pointer (some ⟨D,0,none⟩),.slice K 0 c] w fun e w'=>e= .returned (.bool true)∧∃n,w'=w.drewN n:=by
 go_enter Tryz.func79,Tryz.ntmps79
 go_wp2_with fail
 go_quiet (fail)
 go_wp2_with fail
 go_loopw[32] (fun i wr=>i= .int .i64 0∧wr=w.drewN nq) (fun _ _=>0)
 case atStart=>exact ⟨rfl,rfl⟩
 case round=>
  obtain ⟨rfl,rfl⟩:=hrel
  go_wp2_with fail
  go_ret
  exact ⟨rfl,nq,rfl⟩
open Go.RowKit Nm
def typesOk (l:List Int):Prop:=(∀t∈l,t=1∨t=2)∧1≤l.length∧l.length≤8
theorem types_no {l:List Int} {k:Nat} {t:Int} (h:l[k]? =some t) (h1:t≠1) (h2:t≠2):¬typesOk l:=fun ht=>by
 rcases ht.1 t (List.mem_of_getElem? h) with h|h
 ·exact h1 h
 ·exact h2 h
theorem types_yes {l:List Int} (h:∀j,j<l.length→∀t,l[j]? =some t→t=1∨t=2):typesOk l↔1≤l.length∧l.length≤8:=by
 unfold typesOk
 refine ⟨fun h'=>h'.2,fun h'=>⟨fun t ht=>?_,h'⟩⟩
 obtain ⟨j,hj⟩:=List.getElem?_of_mem ht
 exact h j (List.getElem?_eq_some_iff.1 hj).1 t hj
theorem flist_eq {l m:List Int} (hl:l.length=m.length) (h:∀j,j<l.length→∀x y,l[j]? =some x→m[j]? =some y→x=y):l=m:=by
 apply List.ext_getElem hl
 intro i h1 h2
 exact h i h1 _ _ (List.getElem?_eq_getElem h1) (List.getElem?_eq_getElem h2)
theorem rowRight_any (l:List Int) (A:Option Addr) (cap B:Nat) (w:World) (hcap:l.length≤cap) (hmax:cap≤maxLen) (hl:Sl w B 1 isInt A l):
  Calls Tryz.prog 41 #[.slice A l.length cap] w fun e w'=>e= .returned (.bool (cB (typesOk l)))∧w=w':=by
 unfold maxLen at hmax
 go_enter Tryz.func41,Tryz.ntmps41
 go_wp2_with fail
 go_loop[7] (fun i=>∃k:Nat,k≤l.length∧i= .int .i64 k∧Hid (∀j,j<k→∀t,l[j]? =some t→t=1∨t=2)) (fun i=>l.length-(intOf i).toNat)
 case atStart=>exact ⟨0,Nat.zero_le _,rfl,fun j h=>absurd h (by omega)⟩
 case round=>
  obtain ⟨k,hk,rfl,HN⟩:=hrel
  by_cases hlt:k<l.length
  ·obtain ⟨b,off,t,rfl,hb,hxk,hwf,hc⟩:=hl.int hlt
   have HK:=Lib.hid hxk
   clear hxk
   by_cases h1:t=1
   ·have h1':(t !=1)=false:=by simp[h1]
    have HN':=Lib.hid (upto_succ HN.out (fun y hy=>by rw[HK.out] at hy;injection hy with hy;rw[←hy];exact .inl h1))
    clear h1
    go_wp2_with fail
    go_round
    case rel=>exact ⟨k+1,by omega,by go_num,HN'⟩
    case measure=>simp[intOf];omega
   ·have h1':(t !=1)=true:=by simp[h1]
    by_cases h2:t=2
    ·have h2':(t !=2)=false:=by simp[h2]
     have HN':=Lib.hid (upto_succ HN.out (fun y hy=>by rw[HK.out] at hy;injection hy with hy;rw[←hy];exact .inr h2))
     clear h1 h2
     go_wp2_with fail
     go_round
     case rel=>exact ⟨k+1,by omega,by go_num,HN'⟩
     case measure=>simp[intOf];omega
    ·have h2':(t !=2)=true:=by simp[h2]
     have HF:=Lib.hid (cB_false (types_no HK.out h1 h2))
     clear h1 h2
     go_wp2_with fail
     go_ret
     exact ⟨ret_bool HF.out.symm,rfl⟩
  ·obtain rfl:k=l.length:=by omega
   have HF:=Lib.hid (cB_congr (types_yes HN.out))
   go_wp2_with fail
   all_goals
    go_ret
    refine ⟨ret_bool ?_,rfl⟩
    rw[HF.out,Bool.eq_iff_iff,cB_iff]
    simp
    try omega
def fitsOk (ts vs:List Int):Prop:=typesOk ts∧vs.length=ts.length∧∀(i:Nat) (t v:Int),ts[i]? =some t→vs[i]? =some v→t=2→v=0∨v=1
def fitsAt (ts vs:List Int) (j:Nat):Prop:=∀(t v:Int),ts[j]? =some t→vs[j]? =some v→t=2→v=0∨v=1
theorem fitsAt_mk {ts vs:List Int} {j:Nat} {t v:Int} (ht:ts[j]? =some t) (hv:vs[j]? =some v) (h:t=2→v=0∨v=1):fitsAt ts vs j:=fun t' v' ht' hv'=>by
 rw[ht] at ht'
 rw[hv] at hv'
 injection ht' with ht'
 injection hv' with hv'
 rw[←ht',←hv']
 exact h
theorem fits_no {ts vs:List Int} {j:Nat} {t v:Int} (ht:ts[j]? =some t) (hv:vs[j]? =some v) (h2:t=2) (h:¬(v=0∨v=1)):¬fitsOk ts vs:=fun g=>h (g.2.2 j t v ht hv h2)
theorem fits_yes {ts vs:List Int} (h1:typesOk ts) (h2:vs.length=ts.length) (h:∀j,j<vs.length→fitsAt ts vs j):fitsOk ts vs:=⟨h1,h2,fun i t v ht hv=>h i (List.getElem?_eq_some_iff.1 hv).1 t v ht hv⟩
theorem rtruth_any (n:Int) (w:World):
  Calls Tryz.prog 42 #[.int .i64 n] w fun e w'=>e= .returned (.bool (cB (n=0∨n=1)))∧w=w':=by
 go_enter Tryz.func42,Tryz.ntmps42
 go_wp2
 all_goals
  go_ret
  refine ⟨ret_bool ?_,rfl⟩
  rw[Bool.eq_iff_iff,cB_iff]
  simp at*
  try omega
theorem rowFits_any (ts vs:List Int) (A1 A2:Option Addr) (c1 c2 B:Nat) (w:World) (hc1:ts.length≤c1) (hm1:c1≤maxLen) (_hc2:vs.length≤c2) (hm2:c2≤maxLen) (h1:Sl w B 1 isInt A1 ts) (h2:Sl w B 1 isInt A2 vs):
  Calls Tryz.prog 22 #[.slice A1 ts.length c1,.slice A2 vs.length c2] w fun e w'=>e= .returned (.bool (cB (fitsOk ts vs)))∧w=w':=by
 have hm1':c1≤9223372036854775807:=by unfold maxLen at hm1;omega
 have hm2':c2≤9223372036854775807:=by unfold maxLen at hm2;omega
 go_enter Tryz.func22,Tryz.ntmps22
 go_wp2_with fail
 refine (rowRight_any ts A1 c1 B _ hc1 hm1 h1).mono ?_
 rintro e w' ⟨rfl,rfl⟩
 generalize hV:cB (typesOk ts)=V at*
 have HV:=Lib.hid hV
 clear hV
 cases V
 ·have HF:=Lib.hid (cB_false (fun g:fitsOk ts vs=>cB_not.1 HV.out g.1))
  go_wp2_with fail
  go_ret
  exact ⟨ret_bool HF.out.symm,rfl⟩
 by_cases hl:vs.length=ts.length
 rotate_left 1
 ·have HF:=Lib.hid (cB_false (fun g:fitsOk ts vs=>hl g.2.1))
  have hl':((ts.length:Int) !=(vs.length:Int))=true:=by rw[bne_iff_ne];omega
  have hl'':((vs.length:Int) !=(ts.length:Int))=true:=by rw[bne_iff_ne];omega
  clear hl
  go_wp2_with fail
  go_ret
  exact ⟨ret_bool HF.out.symm,rfl⟩
 have hl':((ts.length:Int) !=(vs.length:Int))=false:=by rw[bne_eq_false_iff_eq];omega
 have hl'':((vs.length:Int) !=(ts.length:Int))=false:=by rw[bne_eq_false_iff_eq];omega
 have HL:=Lib.hid hl
 have hle:vs.length≤ts.length:=by omega
 have hle':ts.length≤vs.length:=by omega
 clear hl
 go_wp2_with fail
 go_loop[19] (fun s=>∃k:Nat,k≤ts.length∧s= .int .i64 k∧Hid (∀j,j<k→fitsAt ts vs j)) (fun s=>ts.length-(intOf s).toNat)
 case atStart=>exact ⟨0,Nat.zero_le _,rfl,fun j h=>absurd h (by omega)⟩
 case round=>
  obtain ⟨k,hk,rfl,HN⟩:=hrel
  by_cases hlt:k<ts.length
  ·obtain ⟨b1,o1,t,rfl,hb1,ht,hwt,d1⟩:=h1.int (show k<ts.length by omega)
   obtain ⟨b2,o2,v,rfl,hb2,hv,hwv,d2⟩:=h2.int (show k<vs.length by omega)
   have HTk:=Lib.hid ht
   have HVk:=Lib.hid hv
   clear ht hv
   have hk1:(k:Int)<ts.length:=by omega
   have hk2:(k:Int)<vs.length:=by omega
   by_cases e2:t=2
   ·have e2':(t==2)=true:=by simp[e2]
    by_cases ev:v=0∨v=1
    ·have HN':=Lib.hid (upto_succ HN.out (fitsAt_mk HTk.out HVk.out (fun _=>ev)))
     have HC:=Lib.hid (rtruth_any v w)
     rw[cB_true ev] at HC
     clear e2 ev
     go_wp2_with fail
     refine HC.out.mono ?_
     rintro e w' ⟨rfl,rfl⟩
     go_wp2_with fail
     go_round
     case rel=>exact ⟨k+1,by omega,by go_num,HN'⟩
     case measure=>simp[intOf];omega
    ·have HF:=Lib.hid (cB_false (fits_no HTk.out HVk.out e2 ev))
     have HC:=Lib.hid (rtruth_any v w)
     rw[cB_false ev] at HC
     clear e2 ev
     go_wp2_with fail
     refine HC.out.mono ?_
     rintro e w' ⟨rfl,rfl⟩
     go_wp2_with fail
     go_ret
     exact ⟨ret_bool HF.out.symm,rfl⟩
   ·have e2':(t==2)=false:=by simp[e2]
    have HN':=Lib.hid (upto_succ HN.out (fitsAt_mk HTk.out HVk.out (fun g=>absurd g e2)))
    clear e2
    go_wp2_with fail
    go_round
    case rel=>exact ⟨k+1,by omega,by go_num,HN'⟩
    case measure=>simp[intOf];omega
  ·obtain rfl:k=ts.length:=by omega
   have HF:=Lib.hid (cB_true (fits_yes (cB_iff.1 HV.out) HL.out (by rw[HL.out];exact HN.out)))
   go_wp2_with fail
   go_ret
   exact ⟨ret_bool HF.out.symm,rfl⟩
theorem nsame_any (l m:List Int) (v1 v2:Value) (B:Nat) (w:World) (h1:SlV w B 1 isInt v1 l) (h2:SlV w B 1 isInt v2 m):
  Calls Tryz.prog 25 #[v1,v2] w fun e w'=>e= .returned (.bool (cB (l=m)))∧∃n,w'=w.drewN n:=by
 obtain ⟨A1,c1,rfl,l1,m1,s1⟩:=h1
 obtain ⟨A2,c2,rfl,l2,m2,s2⟩:=h2
 have m1':c1≤9223372036854775807:=by unfold maxLen at m1;omega
 have m2':c2≤9223372036854775807:=by unfold maxLen at m2;omega
 by_cases hl:l.length=m.length
 rotate_left 1
 ·have HF:=Lib.hid (cB_false (fun g:l=m=>hl (by rw[g])))
  have hl':((l.length:Int) !=(m.length:Int))=true:=by rw[bne_iff_ne];omega
  clear hl
  go_enter Tryz.func25,Tryz.ntmps25
  go_wp2_with fail
  go_ret
  exact ⟨ret_bool HF.out.symm,0,rfl⟩
 have hl':((l.length:Int) !=(m.length:Int))=false:=by rw[bne_eq_false_iff_eq];omega
 have HL:=Lib.hid hl
 have hle1:l.length≤m.length:=by omega
 clear hl
 go_enter Tryz.func25,Tryz.ntmps25
 go_wp2_with fail
 go_loopw[5] (fun i wr=>∃k:Nat,k≤l.length∧i= .int .i64 k∧Hid (∀j,j<k→∀x y,l[j]? =some x→m[j]? =some y→x=y)∧∃n,wr=w.drewN n) (fun i _=>l.length-(intOf i).toNat)
 case atStart=>exact ⟨0,Nat.zero_le _,rfl,fun j h=>absurd h (by omega),0,rfl⟩
 case round=>
  obtain ⟨k,hk,rfl,HN,n,rfl⟩:=hrel
  by_cases hlt:k<l.length
  ·obtain ⟨b1,o1,x,rfl,hb1,hx,wx,d1⟩:=s1.int hlt
   obtain ⟨b2,o2,y,rfl,hb2,hy,wy,d2⟩:=s2.int (show k<m.length by omega)
   have HX:=Lib.hid hx
   have HY:=Lib.hid hy
   clear hx hy
   have hk1:(k:Int)<l.length:=by omega
   have hk2:(k:Int)<m.length:=by omega
   have hk0:(0:Int)≤(k:Int):=by omega
   go_wp2_with fail
   go_quiet (fail)
   by_cases e:x=y
   ·have e':(x !=y)=false:=by simp[e]
    have HN':=Lib.hid (upto_succ HN.out (fun x' y' hx' hy'=>by rw[HX.out] at hx';rw[HY.out] at hy';injection hx' with hx';injection hy' with hy';rw[←hx',←hy'];exact e))
    clear e
    go_wp2_with fail
    go_roundw
    case rel=>exact ⟨k+1,by omega,by go_num,HN',by first|exact ⟨_,rfl⟩|(rw[World.drewN_drewN];exact ⟨_,rfl⟩)⟩
    case measure=>simp[intOf];omega
   ·have e':(x !=y)=true:=by simp[e]
    have HF:=Lib.hid (cB_false (fun g:l=m=>e (by have:=HX.out;rw[g,HY.out] at this;injection this with this;exact this.symm)))
    clear e
    go_wp2_with fail
    go_ret
    exact ⟨ret_bool HF.out.symm,by first|exact ⟨_,rfl⟩|(rw[World.drewN_drewN];exact ⟨_,rfl⟩)⟩
  ·obtain rfl:k=l.length:=by omega
   have HF:=Lib.hid (cB_true (flist_eq HL.out HN.out))
   go_wp2_with fail
   go_ret
   exact ⟨ret_bool HF.out.symm,by first|exact ⟨_,rfl⟩|(rw[World.drewN_drewN];exact ⟨_,rfl⟩)⟩
def isRw (w:World) (B:Nat) (l:List Int) (cs:List Value):Prop:=∃v,cs=[v]∧SlV w B 1 isInt v l
theorem sl_rw {w:World} {B C:Nat} {A:Option Addr} {l:List (List Int)} {k:Nat} (h:Sl w B 1 (isRw w C) A l) (hk:k<l.length):∃b off x Ax cx,A=some ⟨b,off,none⟩∧b<B∧l[k]? =some x∧w.cell? ⟨b,off+k,none⟩=some (.slice Ax x.length cx)∧x.length≤cx∧cx≤maxLen∧Sl w C 1 isInt Ax x:=by
 obtain ⟨b,off,x,cs,h1,h2,h3,⟨v,rfl,Ax,cx,rfl,h4,h6,h7⟩,h5⟩:=h.at_ hk
 have:=h5 0 _ rfl
 rw[Nat.mul_one,Nat.add_zero] at this
 exact ⟨b,off,x,Ax,cx,h1,h2,h3,this,h4,h6,h7⟩
theorem rq_of {P:Program} {f:FuncId} {args:Array Value} {w:World} {q n:Nat} {v:Value}
  (h:Calls P f args (w.drewN (q+n)) fun e w'=>e= .returned v∧∃m,w'=(w.drewN (q+n)).drewN m):Calls P f args (w.drewN (q+n)) fun e w''=>e= .returned v∧∃m,w''=w.drewN (q+m):=
 h.mono fun _ _ ⟨he,m,hm⟩=>⟨he,n+m,by rw[hm,World.drewN_drewN,Nat.add_assoc]⟩
theorem rows_same (l:List (List Int)) (v1 v2:Value) (B:Nat) (w:World) (h1:SlV w B 1 (isRw w B) v1 l) (h2:SlV w B 1 (isRw w B) v2 l):
  Calls Tryz.prog 11 #[v1,v2] w fun e w'=>e= .returned (.bool true)∧∃n,w'=w.drewN n:=by
 obtain ⟨A1,c1,rfl,l1,m1,s1⟩:=h1
 obtain ⟨A2,c2,rfl,l2,m2,s2⟩:=h2
 have m1':c1≤9223372036854775807:=by unfold maxLen at m1;omega
 have m2':c2≤9223372036854775807:=by unfold maxLen at m2;omega
 go_enter Tryz.func11,Tryz.ntmps11
 go_wp2_with fail
 go_loopw[5] (fun i wr=>∃k:Nat,k≤l.length∧i= .int .i64 k∧∃n,wr=w.drewN n) (fun i _=>l.length-(intOf i).toNat)
 case atStart=>exact ⟨0,Nat.zero_le _,rfl,0,rfl⟩
 case round=>
  obtain ⟨k,hk,rfl,n,rfl⟩:=hrel
  by_cases hlt:k<l.length
  ·obtain ⟨b1,o1,x,Ax,cx,rfl,hb1,hx,d0,ly,my,sx⟩:=sl_rw s1 hlt
   obtain ⟨b2,o2,y,Ay,cy,rfl,hb2,hy,e0,lz,mz,sy⟩:=sl_rw s2 hlt
   obtain rfl:x=y:=Option.some.inj (hx.symm.trans hy)
   have hk1:(k:Int)<l.length:=by omega
   have hk0:(0:Int)≤(k:Int):=by omega
   have HC:Hid (∀q,Calls Tryz.prog 25 #[.slice Ax x.length cx,.slice Ay x.length cy] (w.drewN (n+q)) fun e w'=>e= .returned (.bool true)∧∃m,w'=(w.drewN (n+q)).drewN m):=fun q=>by
    have:=nsame_any x x (.slice Ax x.length cx) (.slice Ay x.length cy) B (w.drewN (n+q)) ⟨_,_,rfl,ly,my,sx⟩ ⟨_,_,rfl,lz,mz,sy⟩
    rwa [cB_true rfl] at this
   clear hx hy
   generalize x.length=len at*
   go_wp2_with fail
   go_quiet ((go_at_call 25;exact rq_of (HC.out _)))
   go_wp2_with fail
   go_roundw
   case rel=>exact ⟨k+1,by omega,by go_num,by first|exact ⟨_,rfl⟩|(rw[World.drewN_drewN];exact ⟨_,rfl⟩)⟩
   case measure=>simp[intOf];omega
  ·obtain rfl:k=l.length:=by omega
   go_wp2_with fail
   go_ret
   exact ⟨rfl,n,rfl⟩
end Go.Proofs.YtdkgkacnjdnpoaaGreat
