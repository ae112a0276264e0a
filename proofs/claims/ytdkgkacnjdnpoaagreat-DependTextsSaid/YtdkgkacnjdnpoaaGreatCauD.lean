/-
  On what a name hangs at once: the contracts of cause.Hangs and Wants. Does a name hang on itself: the contract of cause.round. Which name hangs on itself first: the contracts of cause.round, Wants and Check.
-/
import Derived.Test.YtdkgkacnjdnpoaaGreatZz
import Derived.Test.YtdkgkacnjdnpoaaGreatCauA
set_option maxHeartbeats 1000000
set_option maxRecDepth 100000
namespace Go.Proofs.YtdkgkacnjdnpoaaGreat
open Go.RowKit
attribute [local go_sem ↓] Go.wp_at_zero Go.wp_at_succ
theorem svarC_any (n:Nd) (a:NdA) (nm:ByteArray) (w:World) (h:NdAt w w.heap.size n a) (sm:NdSm n):
  Calls Tryz.prog 43 #[ndV n a,.string nm] w fun e w'=>(∃(x:Vr) (A:Option Addr) (cap:Nat) (b:Bool),e= .returned (.tuple #[vrV x A cap,.bool b])∧Hid (x.clock=clockOf n nm)∧x.clock.length≤6∧x.clock.length≤cap∧cap≤maxLen∧Sl w' w.heap.size 2 isLit A x.clock)∧Below w.heap.size w w':=by
 refine (svar_any n a nm w h (by have:=sm.len;omega)).mono fun e w' hr=>?_
 obtain ⟨⟨k,x,A,cap,h1,h2,rfl,h3,h4,h5,h6⟩|⟨h1,rfl⟩,hb⟩:=hr
 ·exact ⟨⟨x,A,cap,true,rfl,(clock_at h1 h2).symm,(sm.all x (List.mem_of_getElem? h2)).clock,h4,h5,h6⟩,hb⟩
 ·exact ⟨⟨vr0,none,0,false,rfl,(clock_no h1).symm,Nat.zero_le _,Nat.le_refl _,Nat.zero_le _,Sl.nil⟩,hb⟩
theorem names_snoc {l:List Lt} {k:Nat} {c:Lt} (h:l[k]? =some c):(l.take (k+1)).map Lt.name=(l.take k).map Lt.name++ [c.name]:=by
 refine' zq183
 simp
theorem hangs_any (n:Nd) (a:NdA) (nm:ByteArray) (w:World) (sm:NdSm n) (hn:NdAt w w.heap.size n a):
  Calls Tryz.prog 151 #[ndV n a,.string nm] w fun r w'=>(∃v,r= .returned v∧SlV w' w'.heap.size 1 isStr v (hangsF n nm))∧Below w.heap.size w w':=by
 have HN:Hid (∀W,Below w.heap.size w W→NdAt W w.heap.size n a):=fun W hW=>hn.below hW
 have HSM:=Lib.hid sm
 have hmm:= @run_makeMap Tryz.prog
 have hmq:=hn.mq
 have hnq:=sm.eqs
 have hlq:=hn.lq
 refine' zq182
 have rn1:=(Row.new w (ndArr n a) 58).alloc (.map #[] 0)
 have b1:Below w.heap.size w ((w.alloc (.cells (ndArr n a) 58)).alloc (.map #[] 0)):=bE
 have m1:MetS ((w.alloc (.cells (ndArr n a) 58)).alloc (.map #[] 0)) (w.heap.size+1) []:=by
  have h:=mets_made (w.alloc (.cells (ndArr n a) 58))
  rwa [World.size_alloc] at h
 clear hn sm
 go_enter Tryz.func151,Tryz.ntmps151
 go_upto_region 2 with (fail)
 generalize (w.alloc (.cells (ndArr n a) 58)).alloc (.map #[] 0)=W1 at*
 have hs1:=b1.size
 have hl1:=m1.lt
 obtain ⟨c0,c1,cc2,c3,c4,c5,c6⟩:=rn1.nd
 go_upto_region 3 with (go_at_call 43;refine Calls.mono (svarC_any n a nm W1 ((HN.out W1 b1).more hs1) HSM.out) ?_;rintro r w2 ⟨⟨x,A',cap',bv,rfl,HCK,hc6,g1,g2,hx⟩,hb2⟩)
 have hs2:=hb2.size
 have rv3:=Row.new w2 (vrArr x A' cap') 103
 have ba:Below w2.heap.size w2 (w2.alloc (.cells (vrArr x A' cap') 103)):=bE
 generalize hW3:w2.alloc (.cells (vrArr x A' cap') 103)=w3 at*
 clear hW3
 have hb3:=hb2.trans (ba.mono hs2)
 have hB3:=b1.trans (hb3.mono hs1)
 have hs3:=hB3.size
 have rn3:=rn1.below hb3 rn1.lt
 have m3:=m1.below hb3 m1.lt
 have HX3:Hid (Sl w3 W1.heap.size 2 isLit A' x.clock):=lits_keep hx (fun p u _ hc=>old_cell ba hc) (Nat.le_refl _)
 clear c0 c1 cc2 c3 c4 c5 c6 hx rn1 m1
 obtain ⟨c0,c1,cc2,c3,c4,c5,c6⟩:=rn3.nd
 go_wp2_with fail
 refine (sdefine_any n a nm w3 ((HN.out w3 hB3).more hs3)).mono ?_
 rintro r w4 ⟨hr,hb4⟩
 have hB4:=hB3.trans (hb4.mono hs3)
 have hs4:=hB4.size
 have rn4:=rn3.below hb4 rn3.lt
 have rv4:=rv3.below hb4 rv3.lt
 have m4:=m3.below hb4 m3.lt
 have HX4:Hid (Sl w4 W1.heap.size 2 isLit A' x.clock):=lits_keep HX3.out (fun p u _ hc=>old_cell hb4 hc) (Nat.le_refl _)
 clear c0 c1 cc2 c3 c4 c5 c6 rn3 rv3 m3 HX3
 rcases hr with ⟨i,j,rfl,HD⟩|⟨rfl,HD⟩
 rotate_left 1
 ·have HS:=Lib.hid (sorted_all m4 (by simp))
  have HU:Hid (insAll [] []=hangsF n nm):=by show _=_;unfold hangsF;rw[hangsL_no HD.out]
  refine' zq110
  exact ⟨⟨v,rfl,hS⟩,hB4.trans (hb9.mono hs4)⟩
 have hi:i<n.eqs.length:=by obtain ⟨q',hq',_⟩:=HD.out;exact (List.getElem?_eq_some_iff.1 hq').1
 obtain ⟨c0,c1,cc2,c3,c4,c5,c6⟩:=rn4.nd
 obtain ⟨b,off,q,A1,k1,A2,k2,hA,hb,hq,ok,lq1,mq1,sl1,lq2,mq2,sl2,d0,d1,d2,d3,d4,d5,d6,d7,d8⟩:=(HN.out w4 hB4).sq.eqn hi
 have HQ:=Lib.hid hq
 have HL:=Lib.hid (hangsL_def HD.out hq)
 have HSQ:=Lib.hid (HSM.out.eq q (List.mem_of_getElem? hq)).right
 rw[hA] at c4
 have i0:(0:Int)≤(i:Int):=by omega
 have i1:(i:Int)<(n.eqs.length:Int):=by omega
 have hsz:=HSQ.out.size
 have HW:=Lib.hid (wants_any q.right A2 k2 (w.heap.size+1) [] w4 ok.right lq2 mq2 (exs_keep sl2 (fun _ _ _ h=>h) hs4) m4 (by simp;omega))
 clear hA hq ok sl1 sl2
 go_wp2_with fail
 refine HW.out.mono ?_
 rintro r w5 ⟨rfl,⟨L5,m5,hL5,HL5⟩,u5⟩
 simp only[List.length_nil,Nat.zero_add] at hL5
 have rv5:=mupd_row u5 m4 rv4
 have HX5:Hid (Sl w5 W1.heap.size 2 isLit A' x.clock):=lits_keep HX4.out (mupd_keeps u5 m4) (Nat.le_refl _)
 have hB5:Below w.heap.size w w5:=hB4.trans (u5.below (fun k e=>by omega) hs4)
 have hs5:=hB5.size
 have g2':cap'≤9223372036854775807:=by unfold maxLen at g2;omega
 clear HW c0 c1 cc2 c3 c4 c5 c6 d0 d1 d2 d3 d4 d5 d6 d7 d8 rn4 rv4 m4 u5 HX4
 obtain ⟨v0,v1,v2,v3,v4⟩:=rv5.vr
 go_wp2_with fail
 clear v0 v1 v2 v3 v4
 go_loopw[39] (fun t wr=>∃(p:Nat) (L:List ByteArray),p≤x.clock.length∧t= .int .i64 p∧MetS wr (w.heap.size+1) L∧L.length≤900+p∧Hid (∀y,y∈L↔y∈wantsL q.right∨y∈(x.clock.take p).map Lt.name)∧UpdM (w.heap.size+1) w5 wr∧Below w.heap.size w wr) (fun t _=>x.clock.length-(intOf t).toNat)
 case atStart=>exact ⟨0,L5,Nat.zero_le _,rfl,m5,by omega,(fun y=>by rw[HL5.out];simp),Upd.refl _ _,hB5⟩
 case round=>
  obtain ⟨p,L,hp,rfl,m6,hL6,HL6,u6,hB6⟩:=hrel
  have hs6:=hB6.size
  by_cases hlt:p<x.clock.length
  rotate_left 1
  ·obtain rfl:p=x.clock.length:=by omega
   have HS:=Lib.hid (sorted_all m6 (by omega))
   have HU:Hid (insAll [] L=hangsF n nm):=rising_eq (insAll_rising List.Pairwise.nil) (hangsF_rising n nm) fun y=>by
    rw[insAll_mem,hangsF_mem,HL.out,HL6.out,List.take_length,HCK.out,List.mem_append]
    simp
   refine' zq110
   exact ⟨⟨v,rfl,hS⟩,hB6.trans (hb9.mono hs6)⟩
  obtain ⟨b',off',c,hA',hb',hc,hsc,e0,e1⟩:=(lits_keep HX5.out (mupd_keeps u6 m5) (Nat.le_refl _)).lit hlt
  subst hA'
  have HC:=Lib.hid hc
  have i2:(0:Int)≤(p:Int):=by omega
  have i3:(p:Int)<(x.clock.length:Int):=by omega
  have ba6:Below wr.heap.size wr (wr.alloc (.cells #[.string c.name,.bool c.no] 105)):=bE
  have m7:=m6.alloc (.cells #[.string c.name,.bool c.no] 105)
  have u7:=u6.trans (UpdM.of ba6)
  have hB7:=hB6.trans (ba6.mono hs6)
  have r7:=Row.new wr #[.string c.name,.bool c.no] 105
  clear hc
  go_upto_region 9 with (fail)
  clear e0 e1
  generalize hW7:wr.alloc (.cells #[.string c.name,.bool c.no] 105)=w7 at*
  clear hW7
  have e0:w7.cell? ⟨wr.heap.size,0,none⟩=some (.string c.name):=(r7.cell 0).trans rfl
  have e1:w7.cell? ⟨wr.heap.size,1,none⟩=some (.bool c.no):=(r7.cell 1).trans rfl
  go_wp2_with (at_mapUpdate;refine wpList_mets rfl _ _ _ rfl (w.heap.size+1) L rfl m7 (by omega) c.name rfl hsc rfl ?_;intro w8 m8 hg8)
  have u8:=UpdM.grown u7 hg8
  have hB8:=hB7.grown hg8 hB7.size (fun k e=>by cases e;omega)
  have HL8:Hid (∀y,y∈putN L c.name↔y∈wantsL q.right∨y∈(x.clock.take (p+1)).map Lt.name):=fun y=>by
   rw[putN_mem,HL6.out,names_snoc HC.out,List.mem_append,List.mem_singleton,or_assoc]
  go_wp2_with fail
  go_roundw
  case rel=>exact ⟨p+1,_,by omega,by go_num,m8,(by have:=putN_len (l:=L) (nm:=c.name);omega),HL8,u8,hB8⟩
  case measure=>first|(simp[intOf];omega)|simp[intOf]
structure Dfs (U:ByteArray→List ByteArray) (L:List ByteArray) (a:ByteArray) (pre L':List ByteArray):Prop where
 old:∀x∈L,x∈L'
 hg:∀x∈L',x∈L∨Hg U a x
 pre:∀y∈pre,y∈L'
 more:∀y∈L',y∉L→∀z∈U y,z∈L'
section
variable {U:ByteArray→List ByteArray} {V L L' L2 pre:List ByteArray} {a x:ByteArray}
theorem Dfs.start (U:ByteArray→List ByteArray) (L:List ByteArray) (a:ByteArray):Dfs U L a [] L:=⟨fun _ h=>h,fun _ h=> .inl h,(fun _ h=>by cases h),fun y h g=>absurd h g⟩
theorem Dfs.skip (h:Dfs U L a pre L') (hx:x∈L'):Dfs U L a (pre++ [x]) L':=by
 refine ⟨h.old,h.hg,fun y hy=>?_,h.more⟩
 rcases List.mem_append.1 hy with hy|hy
 ·exact h.pre y hy
 ·rw[List.mem_singleton.1 hy];exact hx
theorem Dfs.step (h:Dfs U L a pre L') (hx:x∈U a) (k:Dfs U (L'++ [x]) x (U x) L2):Dfs U L a (pre++ [x]) L2:=by
 have hsub:∀y∈L',y∈L2:=fun y hy=>k.old y (by simp[hy])
 have hx2:x∈L2:=k.old x (by simp)
 refine ⟨fun y hy=>hsub y (h.old y hy),fun y hy=>?_,fun y hy=>?_,fun y hy hn z hz=>?_⟩
 ·rcases k.hg y hy with g|g
  ·rcases List.mem_append.1 g with g|g
   ·exact h.hg y g
   ·rw[List.mem_singleton.1 g];exact .inr (.one hx)
  ·exact .inr (hg_trans (.one hx) g)
 ·rcases List.mem_append.1 hy with hy|hy
  ·exact hsub y (h.pre y hy)
  ·rw[List.mem_singleton.1 hy];exact hx2
 ·by_cases g:y∈L'++ [x]
  ·rcases List.mem_append.1 g with g|g
   ·exact hsub z (h.more y g hn z hz)
   ·rw[List.mem_singleton.1 g] at hz;exact k.pre z hz
  ·exact k.more y hy g z hz
theorem Dfs.all (h:Dfs U [] a (U a) L') (x:ByteArray):x∈L'↔Hg U a x:=by
 constructor
 ·intro g;exact (h.hg x g).resolve_left (by simp)
 ·intro g
  induction g with
  |one g=>exact h.pre _ g
  |more _ g ih=>exact h.more _ ih (by simp) _ g
theorem Dfs.sub (h:Dfs U L a pre L') (hV:∀x,∀y∈U x,y∈V) (hL:∀y∈L,y∈V):∀y∈L',y∈V:=fun y hy=>by
 rcases h.hg y hy with g|g
 ·exact hL y g
 ·exact hg_sub hV g
end
abbrev rF (bn pm pf:Nat):Value:= .func (.func 150) #[] #[.pointer (some ⟨bn,0,none⟩),.pointer (some ⟨pm,0,none⟩),.pointer (some ⟨pf,0,none⟩)]
theorem round1_any (n:Nd) (a:NdA) (bn pm pf bm:Nat) (t:TypeId) (sm:NdSm n) (hV:∀x,∀y∈hangsF n x,y∈nms (vrs n)) (m:Nat):∀(nm:ByteArray) (L:List ByteArray) (w:World),(nms (vrs n)).length-L.length≤m→(∀y∈L,y∈nms (vrs n))→NdAt w w.heap.size n a→Row w bn (ndArr n a) 58→Row w pm #[.map (some bm)] 85→Row w pf #[rF bn pm pf] t→MetS w bm L→
  Calls Tryz.prog 150 #[.string nm,.pointer (some ⟨bn,0,none⟩),.pointer (some ⟨pm,0,none⟩),.pointer (some ⟨pf,0,none⟩)] w fun r w'=>r= .returned (.tuple #[])∧(∃L',MetS w' bm L'∧Hid (Dfs (hangsF n) L nm (hangsF n nm) L'))∧UpdM bm w w':=by
 induction m using Nat.strongRecOn with
 |ind m ih=>
  intro nm L w hm hL hn rn rp rf hM
  have HI:=Lib.hid ih
  have HV:=Lib.hid hV
  have HL:=Lib.hid hL
  have HSM:=Lib.hid sm
  have HN:Hid (∀W,UpdM bm w W→NdAt W W.heap.size n a):=fun W hW=>hn.keep (mupd_keeps hW hM) hW.size
  have hF:∀args w,(callFunc 150 args).run Tryz.prog w= .ok (.enter 150 args) w:=enters_of Tryz.func150 (by kernel_rfl) rfl
  have hvl:=sm.len
  clear ih hV hL sm hn
  obtain ⟨c0,c1,cc2,c3,c4,c5,c6⟩:=rn.nd
  go_enter Tryz.func150,Tryz.ntmps150
  go_wp2_with fail
  refine (hangs_any n a nm w HSM.out (HN.out w (Upd.refl _ _))).mono ?_
  rintro r w2 ⟨⟨v2,rfl,hv2⟩,hb2⟩
  obtain ⟨A2,c2,rfl,g1,g2,g3⟩:=hv2
  have rn2:=rn.below hb2 rn.lt
  have rp2:=rp.below hb2 rp.lt
  have rf2:=rf.below hb2 rf.lt
  have m2:=hM.below hb2 hM.lt
  have u2:UpdM bm w w2:=UpdM.of hb2
  have HS2:Hid (∀W,UpdM bm w2 W→Sl W w2.heap.size 1 isStr A2 (hangsF n nm)):=fun W hW=>strs_keep g3 (mupd_keeps hW m2) (Nat.le_refl _)
  have g2':c2≤9223372036854775807:=by unfold maxLen at g2;omega
  clear c0 c1 cc2 c3 c4 c5 c6 g3
  go_wp2_with fail
  go_loopw[11] (fun i wr=>∃(k:Nat) (Lk:List ByteArray),k≤(hangsF n nm).length∧i= .int .i64 k∧MetS wr bm Lk∧Hid (Dfs (hangsF n) L nm ((hangsF n nm).take k) Lk)∧UpdM bm w2 wr) (fun i _=>(hangsF n nm).length-(intOf i).toNat)
  case atStart=>exact ⟨0,L,Nat.zero_le _,rfl,m2,Dfs.start _ _ _,Upd.refl _ _⟩
  case round=>
   obtain ⟨k,Lk,hk,rfl,m3,HD,u3⟩:=hrel
   have u03:=u2.trans u3
   by_cases hlt:k<(hangsF n nm).length
   rotate_left 1
   ·obtain rfl:k=(hangsF n nm).length:=by omega
    rw[List.take_length] at HD
    go_wp2_with fail
    go_end0
    exact ⟨rfl,⟨Lk,m3,HD⟩,u03⟩
   obtain ⟨b,off,x,rfl,hb,hx,hsx,e0⟩:=(HS2.out wr u3).str hlt
   have HX:=Lib.hid hx
   have HT:Hid ((hangsF n nm).take (k+1)=(hangsF n nm).take k++ [x]):=by
    show _=_
    obtain ⟨q1,q2⟩:=List.getElem?_eq_some_iff.1 hx
    rw[List.take_succ_eq_append_getElem q1,q2]
   have i0:(0:Int)≤(k:Int):=by omega
   have i1:(k:Int)<((hangsF n nm).length:Int):=by omega
   have rp3:=mupd_row u3 m2 rp2
   have rf3:=mupd_row u3 m2 rf2
   have rn3:=mupd_row u3 m2 rn2
   have p3:wr.cell? ⟨pm,0,none⟩=some (.map (some bm)):=(rp3.cell 0).trans rfl
   have f3:wr.cell? ⟨pf,0,none⟩=some (rF bn pm pf):=(rf3.cell 0).trans rfl
   clear hx
   by_cases hP:x∈Lk
   ·have hlk:=(m3.look hsx).1 hP
    have HD':=Lib.hid (HD.out.skip hP)
    clear hP
    go_wp2_with fail
    go_roundw
    case rel=>exact ⟨k+1,Lk,by omega,by go_num,m3,(by rw[HT.out];exact HD'.out),u3⟩
    case measure=>first|(simp[intOf];omega)|simp[intOf]
   ·have hlk:=(m3.look hsx).2 hP
    have HPN:Hid (putN Lk x=Lk++ [x]):=by show _=_;unfold putN;rw[if_neg hP]
    have HLV:Hid (∀y∈Lk++ [x],y∈nms (vrs n)):=fun y hy=>by
     rcases List.mem_append.1 hy with hy|hy
     ·exact HD.out.sub HV.out HL.out y hy
     ·rw[List.mem_singleton.1 hy];exact HV.out nm x (List.mem_of_getElem? HX.out)
    have hnd:(Lk++ [x]).Nodup:=by rw[←HPN.out];exact putN_nodup m3.1
    have hl1:=nodup_len hnd HLV.out
    have hl2:=nodup_len (m:=Lk) hM.1 HD.out.old
    rw[List.length_append,List.length_singleton] at hl1
    rw[List.length_map] at hl1 hm
    clear hP hnd
    go_wp2_with (at_mapUpdate;refine wpList_mets rfl _ _ _ rfl bm Lk rfl m3 (by omega) x rfl hsx rfl ?_;intro w4 m4 hg4;rw[HPN.out] at m4;have rf4:=row_map rf3 m3 hg4;have rp4:=row_map rp3 m3 hg4;have rn4:=row_map rn3 m3 hg4;have u4:=UpdM.grown u3 hg4;have f4:w4.cell? ⟨pf,0,none⟩=some (rF bn pm pf):=(rf4.cell 0).trans rfl)
    refine (HI.out ((vrs n).length-(Lk.length+1)) (by omega) x (Lk++ [x]) w4 (by rw[List.length_map,List.length_append,List.length_singleton];omega) HLV.out (HN.out w4 (u2.trans u4)) rn4 rp4 rf4 m4).mono ?_
    rintro r w5 ⟨rfl,⟨L5,m5,HD5⟩,u5⟩
    have HD':=Lib.hid (HD.out.step (List.mem_of_getElem? HX.out) HD5.out)
    have u35:=u4.trans u5
    go_wp2_with fail
    go_roundw
    case rel=>exact ⟨k+1,L5,by omega,by go_num,m5,(by rw[HT.out];exact HD'.out),u35⟩
    case measure=>first|(simp[intOf];omega)|simp[intOf]
theorem rowAt4 (w:World) (o1 o2 o3:Obj) (cs:Array Value) (t:TypeId):Row ((((w.alloc o1).alloc o2).alloc o3).alloc (.cells cs t)) (w.heap.size+3) cs t:=by
 have h:=Row.new (((w.alloc o1).alloc o2).alloc o3) cs t
 simpa using h
theorem met_val {w:World} {b:Nat} {l:List ByteArray} (h:MetS w b l) {nm:ByteArray} (hs:nm.size≤maxLen) {P:Bool} (hP:P=true↔nm∈l):(Instr.lookup 85 (.map (some b)) (.string nm) false).run Tryz.prog w= .ok (.int .i64 (bif P then 1 else 0)) w:=by
 cases P
 ·exact (h.look hs).2 (fun g=>by have:=hP.2 g;cases this)
 ·exact (h.look hs).1 (hP.1 rfl)
theorem cauF_yes {n:Nd} {q:Eqn} {j:Nat} {nm:ByteArray} (h:Hg (hangsF n) nm nm):cauF n q j nm=⟨32,q.line,q.col⟩:=if_pos h
theorem cauF_no {n:Nd} {q:Eqn} {j:Nat} {nm:ByteArray} (h:¬Hg (hangsF n) nm nm):cauF n q j nm=ft0:=if_neg h
theorem cround_any (n:Nd) (a:NdA) (nm:ByteArray) (w:World) (sm:NdSm n) (hn:NdAt w w.heap.size n a) (hV:∀x,∀y∈hangsF n x,y∈nms (vrs n)) (hs:nm.size≤maxLen):
  Calls Tryz.prog 105 #[ndV n a,.string nm] w fun r w'=>r= .returned (.bool (cB (Hg (hangsF n) nm nm)))∧Below w.heap.size w w':=by
 obtain ⟨P,HPB⟩:∃P:Bool,Hid (cB (Hg (hangsF n) nm nm)=P):=⟨_,rfl⟩
 rw[HPB.out]
 have hmm:= @run_makeMap Tryz.prog
 have HN:Hid (∀W,Below w.heap.size w W→NdAt W W.heap.size n a):=fun W hW=>(hn.below hW).more hW.size
 have HSM:=Lib.hid sm
 have HV:=Lib.hid hV
 obtain ⟨W4,hW4⟩:∃W4,(((w.alloc (.cells (ndArr n a) 58)).alloc (.map #[] 0)).alloc (.cells #[.map (some (w.heap.size+1))] 85)).alloc (.cells #[rF w.heap.size (w.heap.size+2) (w.heap.size+3)] 169)=W4:=⟨_,rfl⟩
 have b4:Below w.heap.size w W4:=by rw[←hW4];exact bE
 have rn4:Row W4 w.heap.size (ndArr n a) 58:=by rw[←hW4];exact (((Row.new w _ _).alloc _).alloc _).alloc _
 have rp4:Row W4 (w.heap.size+2) #[.map (some (w.heap.size+1))] 85:=by rw[←hW4];exact (rowNew3 w _ _ _ _).alloc _
 have rf4:Row W4 (w.heap.size+3) #[rF w.heap.size (w.heap.size+2) (w.heap.size+3)] 169:=by rw[←hW4];exact rowAt4 w _ _ _ _ _
 have m4:MetS W4 (w.heap.size+1) []:=by
  have h:=mets_made (w.alloc (.cells (ndArr n a) 58))
  rw[World.size_alloc] at h
  rw[←hW4]
  exact (h.alloc _).alloc _
 have hF:∀args w,(callFunc 150 args).run Tryz.prog w= .ok (.enter 150 args) w:=enters_of Tryz.func150 (by kernel_rfl) rfl
 clear hn sm hV
 go_enter Tryz.func105,Tryz.ntmps105
 go_upto_region 4 with (fail)
 clear hW4
 have hs4:=b4.size
 have f4:W4.cell? ⟨w.heap.size+1+1+1,0,none⟩=some (rF w.heap.size (w.heap.size+1+1) (w.heap.size+1+1+1)):=(rf4.cell 0).trans rfl
 go_wp2_with fail
 refine (round1_any n a w.heap.size (w.heap.size+2) (w.heap.size+3) (w.heap.size+1) 169 HSM.out HV.out _ nm [] W4 (Nat.le_refl _) (fun y hy=>by cases hy) (HN.out W4 b4) rn4 rp4 rf4 m4).mono ?_
 rintro r w5 ⟨rfl,⟨L5,m5,HD⟩,u5⟩
 have rp5:=mupd_row u5 m4 rp4
 have p5:w5.cell? ⟨w.heap.size+1+1,0,none⟩=some (.map (some (w.heap.size+1))):=(rp5.cell 0).trans rfl
 have hlk:=met_val m5 hs (P:=P) (by rw[HD.out.all,←HPB.out];exact cB_iff)
 have hB5:Below w.heap.size w w5:=b4.trans (u5.below (fun k e=>by omega) hs4)
 clear f4
 go_wp2_with fail
 go_ret
 exact ⟨by cases P<;>rfl,hB5⟩
theorem cacheck_any (s:List Nd) (A:Option Addr) (cap:Nat) (w:World) (sm:SrcSm s) (h1:s.length≤cap) (h2:cap≤maxLen) (h:Nds w w.heap.size A s):
  Calls Tryz.prog 59 #[srcV s A cap] w fun r w'=>r= .returned (ftV (causeF s))∧Below w.heap.size w w':=by
 refine' zq26
 go_enter Tryz.func59,Tryz.ntmps59
 refine' zq93
 have HF0:Hid (causeF s=ft2 f (fstL cauNF s)):=by show _=_;rw[←HFN.out];rfl
 rw[HFN.out]
 by_cases hf:f.err=0
 rotate_left 1
 ·have hf1:(f.err !=0)=true:=neq_yes hf
  have HF:Hid (causeF s=f):=by show _=_;rw[HF0.out,ft2_1 hf]
  clear hf
  refine' zq147
  refine' zq9
 have hf1:(f.err !=0)=false:=neq_no hf
 have HF1:Hid (causeF s=fstL cauNF s):=by show _=_;rw[HF0.out,ft2_0 hf]
 refine' zq134
 go_wp2_with fail
 clear c0
 go_loopw[19] (fun i wr=>∃k:Nat,k≤s.length∧i= .int .i64 k∧Hid (∀j,j<k→∀x,s[j]? =some x→(cauNF j x).err=0)∧Below w4.heap.size w4 wr) (fun i _=>s.length-(intOf i).toNat)
 case atStart=>exact ⟨0,Nat.zero_le _,rfl,fun j h=>absurd h (by omega),Below.refl _ _⟩
 case round=>
  obtain ⟨k,hk,rfl,HK,hbr⟩:=hrel
  have rf:=rf4.below hbr rf4.lt
  have hB:=hB4.trans (hbr.mono hs4)
  have hsB:=hB.size
  have hszr:=hbr.size
  by_cases hlt:k<s.length
  rotate_left 1
  ·obtain rfl:k=s.length:=by omega
   have HF:Hid (causeF s=ft0):=HF1.out.trans (fstL_end HK.out)
   refine' zq129
   refine' zq17
  refine' zq73
  subst hA
  have HX:=Lib.hid hn
  have hnm:=List.mem_of_getElem? hn
  have HNS:=Lib.hid (HSM.out.all n hnm)
  have HV:=Lib.hid (hangs_V H0.out hnm)
  have lq:=hat.lq
  have gq:=hat.mq
  have gq':a.cq≤9223372036854775807:=by unfold maxLen at gq;omega
  have HAT:Hid (∀W,Below wr.heap.size wr W→NdAt W w.heap.size n a):=fun W hW=>hat.below (hW.mono hsB)
  refine' zq153
  have HFn:Hid ((cauNF k n).err≠0→causeF s=cauNF k n):=fun g=>by
   rw[HF1.out,fstL_stop (f:=cauNF) HK.out HX.out g]
  have rn1:=Row.new wr (ndArr n a) 58
  refine' zq106
  clear hn hat hnm
  go_upto_region 7 with (fail)
  refine' zq76
  refine' zq97
  obtain ⟨c0,c1,cc2,c3,c4,c5,c6⟩:=rn1.nd
  refine' zq137
  go_loopw[26] (fun i wr=>∃p:Nat,p≤n.eqs.length∧i= .int .i64 p∧Hid (∀j,j<p→∀x,n.eqs[j]? =some x→(cauQF n j x).err=0)∧Below w6.heap.size w6 wr) (fun i _=>n.eqs.length-(intOf i).toNat)
  case atStart=>exact ⟨0,Nat.zero_le _,rfl,fun j h=>absurd h (by omega),Below.refl _ _⟩
  case round=>
   obtain ⟨p,hp,rfl,HP,hbq⟩:=hrel
   have hszq:=hbq.size
   have rn7:=rn1.below hbq rn1.lt
   have rf7:=rf6.below hbq rf6.lt
   have hB7:=hB6.trans (hbq.mono hs6)
   have hsB7:=hB7.size
   have b07:=ba.trans (hbq.mono hsa)
   by_cases hlp:p<n.eqs.length
   rotate_left 1
   ·obtain rfl:p=n.eqs.length:=by omega
    have e:cauNF k n=ft0:=fstL_end HP.out
    have HK':=Lib.hid (step_uptoI (P:=fun j x=>(cauNF j x).err=0) HK.out HX.out (by rw[e]))
    clear e
    go_wp2_with fail
    go_roundw
    case rel=>exact ⟨k+1,by omega,by go_num,HK',hbr.trans (b07.mono hszr)⟩
    case measure=>first|(simp[intOf];omega)|simp[intOf]
   obtain ⟨b',off',q,A1,k1,A2,k2,hA',hb',hq,ok,lq1,mq1,sl1,lq2,mq2,sl2,d0,d1,d2,d3,d4,d5,d6,d7,d8⟩:=(HAT.out wr b07).sq.eqn hlp
   rw[hA']
   have HQX:=Lib.hid hq
   have HSQ:=Lib.hid (HNS.out.eq q (List.mem_of_getElem? hq))
   have HS1:Hid (∀W,Below wr.heap.size wr W→Sl W w.heap.size 1 isStr A1 q.left):=fun W hW=>strs_keep sl1 (keeps_of (hW.mono hsB7)) (Nat.le_refl _)
   have j0:(0:Int)≤(p:Int):=by omega
   have j1:(p:Int)<(n.eqs.length:Int):=by omega
   have HFq:Hid ((cauQF n p q).err≠0→causeF s=cauQF n p q):=fun g=>by
    have e2:cauNF k n=cauQF n p q:=by unfold cauNF;rw[fstL_stop (f:=cauQF n) HP.out HQX.out g]
    exact (HFn.out (by rw[e2];exact g)).trans e2
   have mq1':k1≤9223372036854775807:=by unfold maxLen at mq1;omega
   refine' zq157
   have bq:Below wr.heap.size wr (wr.alloc (.cells (eqArr q A1 k1 A2 k2) 65)):=bE
   clear hA' hq ok sl1 sl2
   go_upto_region 10 with (fail)
   clear d0 d1 d2 d3 d4 d5 d6 d7 d8
   generalize hW9:wr.alloc (.cells (eqArr q A1 k1 A2 k2) 65)=w9 at*
   clear hW9
   have hsq:=bq.size
   have rn9:=rn7.below bq rn7.lt
   have rf9:=rf7.below bq rf7.lt
   have hB9:=hB7.trans (bq.mono hsB7)
   have hs9:=hB9.size
   obtain ⟨wp,rfl⟩:∃wp:World,wp=wr:=⟨_,rfl⟩
   obtain ⟨d0,d1,d2,d3,d4,d5,d6,d7,d8⟩:=re.eqn
   go_wp2_with fail
   clear d0 d1 d2 d3 d4 d5 d6 d7 d8
   go_loopw[33] (fun i wr=>∃m:Nat,m≤q.left.length∧i= .int .i64 m∧Hid (∀j,j<m→∀x,q.left[j]? =some x→(cauF n q j x).err=0)∧Below w9.heap.size w9 wr) (fun i _=>q.left.length-(intOf i).toNat)
   case atStart=>exact ⟨0,Nat.zero_le _,rfl,fun j h=>absurd h (by omega),Below.refl _ _⟩
   case round=>
    obtain ⟨m,hm,rfl,HM,hbm⟩:=hrel
    have hszm:=hbm.size
    have rn10:=rn9.below hbm rn9.lt
    have rf10:=rf9.below hbm rf9.lt
    have re10:=re.below hbm re.lt
    have hB10:=hB9.trans (hbm.mono hs9)
    have hsB10:=hB10.size
    have b10:=bq.trans (hbm.mono hsq)
    by_cases hlm:m<q.left.length
    rotate_left 1
    ·obtain rfl:m=q.left.length:=by omega
     have e:cauQF n p q=ft0:=fstL_end HM.out
     have HP':=Lib.hid (step_uptoI (P:=fun j x=>(cauQF n j x).err=0) HP.out HQX.out (by rw[e]))
     clear e
     go_wp2_with fail
     go_roundw
     case rel=>exact ⟨p+1,by omega,by go_num,HP',hbq.trans (b10.mono hszq)⟩
     case measure=>first|(simp[intOf];omega)|simp[intOf]
    obtain ⟨bs,offs,x,hAs,hbs,hx,hsx,e0⟩:=(HS1.out wr b10).str hlm
    subst hAs
    have HXL:=Lib.hid hx
    have i2:(0:Int)≤(m:Int):=by omega
    have i3:(m:Int)<(q.left.length:Int):=by omega
    have HR:=Lib.hid (cround_any n a x wr HNS.out (((HAT.out wr (b07.trans (b10.mono b07.size)))).more hsB10) HV.out hsx)
    obtain ⟨P,HPB⟩:∃P:Bool,Hid (cB (Hg (hangsF n) x x)=P):=⟨_,rfl⟩
    rw[HPB.out] at HR
    obtain ⟨c0,c1,cc2,c3,c4,c5,c6⟩:=rn10.nd
    clear hx
    go_wp2_with fail
    refine HR.out.mono ?_
    rintro r w11 ⟨rfl,hb11⟩
    have rf11:=rf10.below hb11 rf10.lt
    have re11:=re10.below hb11 re10.lt
    have hB11:=hB10.trans (hb11.mono hsB10)
    clear c0 c1 cc2 c3 c4 c5 c6 e0
    cases P
    ·have hq:=cB_not.1 HPB.out
     have HM':=Lib.hid (step_uptoI (P:=fun j x=>(cauF n q j x).err=0) HM.out HXL.out (by rw[cauF_no hq]))
     clear hq
     go_wp2_with fail
     go_roundw
     case rel=>exact ⟨m+1,by omega,by go_num,HM',hbm.trans (hb11.mono hszm)⟩
     case measure=>first|(simp[intOf];omega)|simp[intOf]
    ·have hq:=cB_iff.1 HPB.out
     have HF:Hid (causeF s=⟨32,q.line,q.col⟩):=by
      have e:cauF n q m x=⟨32,q.line,q.col⟩:=cauF_yes hq
      have e1:cauQF n p q=⟨32,q.line,q.col⟩:=by unfold cauQF;rw[fstL_stop (f:=cauF n q) HM.out HXL.out (by rw[e];show (32:Int)≠0;decide),e]
      exact (HFq.out (by rw[e1];show (32:Int)≠0;decide)).trans e1
     clear hq
     obtain ⟨d0,d1,d2,d3,d4,d5,d6,d7,d8⟩:=re11.eqn
     obtain ⟨⟨k0,k1',k2'⟩,g0,g1,g2⟩:=rf11.three
     go_wp2_with fail
     exact bodyPost_ret (res1 rfl Tryz.underlying38 rfl (by kernel_rfl) rfl (rf11.set3 _ _ _)) rfl ⟨(congrArg (fun f=>Ending.returned (ftV f)) HF.out).symm,below_set3 hB11 (by first|omega|(simp;omega)|simp) _ _ _⟩
end Go.Proofs.YtdkgkacnjdnpoaaGreat
