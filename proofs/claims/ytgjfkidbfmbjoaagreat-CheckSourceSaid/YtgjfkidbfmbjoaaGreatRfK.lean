/-
  Rows of names of the call's own; a name put into a rising list: the contract of tompionref17.Sorted. Which nodes a node calls, by the document: the contract of tompionref17.Uses. All that a node hangs on, by the document's steps: the contract of tompionref17.Hangs. Which node hangs on itself first, by the document: the contract of tompionref17.Check.
-/
import Derived.Test.YtgjfkidbfmbjoaaGreatZz
import Derived.Test.YtgjfkidbfmbjoaaGreatWnS
import Derived.Test.YtgjfkidbfmbjoaaGreatCalC
set_option maxHeartbeats 4000000
set_option maxRecDepth 100000
namespace Go.Proofs.YtgjfkidbfmbjoaaGreat
open Go.RowKit
attribute [local go_sem ↓] Go.wp_at_zero Go.wp_at_succ
theorem ltN_yes {x s:ByteArray} (h:ltN s x):Op.bytesLess x.toList s.toList=false∧(x.toList==s.toList)=false:=by
 rw[bytesLess_eq,Lib.toList_data,Lib.toList_data]
 unfold ltN at h
 exact ⟨decide_eq_false fun g=>List.lt_irrefl _ (List.lt_trans h g),by rw[beq_eq_false_iff_ne];intro e;rw[e] at h;exact List.lt_irrefl _ h⟩
theorem ltN_no {x s:ByteArray} (h:¬ltN s x) (hne:x≠s):Op.bytesLess x.toList s.toList=true∧(x.toList==s.toList)=false:=by
 rw[bytesLess_eq,Lib.toList_data,Lib.toList_data]
 exact ⟨decide_eq_true (ltN_of h (fun e=>hne e.symm)),by rw[beq_eq_false_iff_ne];exact fun e=>hne (nmb_inj e)⟩
theorem str_at {w:World} {B b off k:Nat} {l:List ByteArray} {x:ByteArray} (h:Sl w B 1 isStr (some ⟨b,off,none⟩) l) (hx:l[k]? =some x):w.cell? ⟨b,off+k,none⟩=some (.string x):=by
 obtain ⟨cs,h1,h2⟩:=h.get hx
 rw[h2.1] at h1
 have:=h1 0 _ rfl
 simpa using this
theorem take_none {l:List ByteArray} {k:Nat} {s x:ByteArray} (h:∀y∈l.take k,¬ltN s y) (hx:¬ltN s x):∀y∈l.take k++ [x],¬ltN s y:=fun y hy=>by
 rcases List.mem_append.1 hy with hy|hy
 ·exact h y hy
 ·rw[List.mem_singleton.1 hy];exact hx
theorem rsorted_any (l:List ByteArray) (m:Nat) (A:Option Addr) (cap:Nat) (s:ByteArray) (w:World) (hm:l.length=m) (h1:m≤cap) (h2:cap≤maxLen) (hl:l.length<900000) (hs:s.size≤maxLen) (h:Sl w w.heap.size 1 isStr A l):
  Calls Tryz.prog 190 #[.slice A m cap,.string s] w fun e w'=>(∃v,e= .returned v∧SlV w' w'.heap.size 1 isStr v (ins l s))∧Below w.heap.size w w':=by
 subst hm
 have HS:=Lib.hid h
 have HSZ:=Lib.hid (strs_size h)
 refine' zq30
 clear h
 go_enter Tryz.func190,Tryz.ntmps190
 go_wp2_with fail
 go_loopw[5,6,7] (fun o d i wr=>∃(k:Nat) (M:List ByteArray) (D:Bool),k≤l.length∧i= .int .i64 k∧d= .bool D∧M.length≤k+1∧wr.ownsRow w.heap.size 9 1 o M.length (M.map Value.string)∧Hid (s∉l.take k)∧
  Hid (D=false→M=l.take k∧∀y∈l.take k,¬ltN s y)∧Hid (D=true→M=insR (l.take k) s∧∃y∈l.take k,ltN s y)∧Below w.heap.size w wr) (fun _ _ i _=>l.length-(intOf i).toNat)
 case atStart=>exact ⟨0,[],false,Nat.zero_le _,rfl,rfl,by simp,World.ownsRow_nil _ _ _ _,by simp[Hid],fun _=>⟨rfl,by simp⟩,(fun g=>by cases g),Below.refl _ _⟩
 case round=>
  obtain ⟨k,M,D,hk,rfl,rfl,hMl,hown,HN,H0,H1,hB⟩:=hrel
  have hsB:=hB.size
  by_cases hlt:k<l.length
  rotate_left 1
  ·obtain rfl:k=l.length:=by omega
   rw[List.take_length] at HN H0 H1
   have hMz:Hid (∀x∈M,x.size≤maxLen):=fun x hx=>by
    cases D
    ·rw[(H0.out rfl).1] at hx;exact HSZ.out x hx
    ·rw[(H1.out rfl).1] at hx
     rcases insR_mem.1 hx with rfl|hx
     ·exact hs
     ·exact HSZ.out x hx
   cases D
   ·have HF:Hid (M++ [s]=ins l s):=by
     show _=_
     unfold ins
     rw[if_neg HN.out,insR_last (H0.out rfl).2,(H0.out rfl).1]
    clear H0 H1
    go_wp2_with (at_builtin;refine wpList_append_str rfl _ _ rfl w.heap.size M _ _ rfl (hown.alloc _) rfl wr.heap.size s rfl (((Row.new wr #[.string s] 9).cell 0).trans rfl) (by omega) (by simp;omega) ?_;intro v1 w1 o1 g1)
    go_ret
    have hB1:=below_own (hB.alloc hB.size (.cells #[.string s] 9)) (hown.alloc _) g1 (by simp;omega)
    refine ⟨⟨v1,rfl,?_⟩,hB1⟩
    rw[←HF.out]
    exact own_strs o1 fun x hx=>by
     rcases List.mem_append.1 hx with hx|hx
     ·exact hMz.out x hx
     ·rw[List.mem_singleton.1 hx];exact hs
   ·have HF:Hid (M=ins l s):=by
     show _=_
     unfold ins
     rw[if_neg HN.out,(H1.out rfl).1]
    clear H0 H1
    go_wp2_with fail
    go_ret
    refine ⟨⟨_,rfl,?_⟩,hB⟩
    rw[←HF.out]
    exact own_strs hown hMz.out
  obtain ⟨b,off,x,hA,hb,hx,hsx,c0⟩:=(HS.out.below hB).str hlt
  have HA:=Lib.hid hA
  subst hA
  have HX:=Lib.hid hx
  have HT:Hid (l.take (k+1)=l.take k++ [x]):=by
   show _=_
   obtain ⟨q1,q2⟩:=List.getElem?_eq_some_iff.1 hx
   rw[List.take_succ_eq_append_getElem q1,q2]
  have i0:(0:Int)≤(k:Int):=by omega
  have i1:(k:Int)<(l.length:Int):=by omega
  clear hx
  by_cases e:x=s
  ·have e1:=beq_yes e
   have e2:=beq_yes e.symm
   have HF:Hid (l=ins l s):=by
    show _=_
    unfold ins
    rw[if_pos (e▸List.mem_of_getElem? HX.out)]
   clear e H0 H1
   go_wp2_with fail
   go_ret
   refine ⟨⟨_,rfl,?_⟩,hB⟩
   rw[←HF.out]
   exact ⟨_,cap,rfl,h1,h2,(HS.out.below hB).more hsB⟩
  have e1:=beq_no e
  have e2:=beq_no (fun g=>e (Eq.symm g))
  have HN':Hid (s∉l.take (k+1)):=by
   show ¬_
   rw[HT.out]
   simp only[List.mem_append,List.mem_singleton,not_or]
   exact ⟨HN.out,fun g=>e g.symm⟩
  have hMl2:M.length≤900000:=by omega
  cases D
  ·by_cases g:ltN s x
   ·obtain ⟨t1,t2⟩:=ltN_yes g
    have HF:Hid (M++ [s]++ [x]=insR (l.take (k+1)) s):=by
     show _=_
     rw[HT.out,insR_snoc0 (H0.out rfl).2 g,(H0.out rfl).1]
     simp
    have hMk:M.length≤k:=by rw[(H0.out rfl).1,List.length_take];omega
    have HE:Hid (∃y∈l.take (k+1),ltN s y):=⟨x,by rw[HT.out];simp,g⟩
    clear e g H0 H1
    go_wp2_with (first
     |(at_builtin;refine wpList_append_str rfl _ _ rfl w.heap.size M _ _ rfl (hown.alloc _) rfl wr.heap.size s rfl (((Row.new wr #[.string s] 9).cell 0).trans rfl) (by omega) (by simp;omega) ?_;intro v1 w1 o1 g1;have hB1:=below_own (hB.alloc hB.size (.cells #[.string s] 9)) (hown.alloc _) g1 (by simp;omega);have hs1:=hB1.size;have c1:=str_at (HS.out.below hB1) HX.out)
     |(at_builtin;refine wpList_append_str rfl _ _ rfl w.heap.size (M++ [s]) _ _ rfl (o1.alloc _) rfl w1.heap.size x rfl (((Row.new w1 #[.string x] 9).cell 0).trans rfl) (by simp;omega) (by simp;omega) ?_;intro v2 w2 o2 g2))
    have hB2:=below_own (hB1.alloc hB1.size (.cells #[.string x] 9)) (o1.alloc _) g2 (by simp;omega)
    go_roundw
    case rel=>exact ⟨k+1,M++ [s]++ [x],true,by omega,by go_num,rfl,by simp;omega,o2,HN',(fun g=>by cases g),fun _=>⟨HF.out,HE.out⟩,hB2⟩
    case measure=>first|(simp[intOf];omega)|simp[intOf]
   ·obtain ⟨t1,t2⟩:=ltN_no g e
    have HF:Hid (M++ [x]=l.take (k+1)∧∀y∈l.take (k+1),¬ltN s y):=by
     show _∧_
     rw[HT.out]
     exact ⟨by rw[(H0.out rfl).1],take_none (H0.out rfl).2 g⟩
    clear e g H0 H1
    refine' zq135
    go_roundw
    case rel=>exact ⟨k+1,M++ [x],false,by omega,by go_num,rfl,by simp;omega,o2,HN',fun _=>HF.out,(fun g=>by cases g),hB2⟩
    case measure=>first|(simp[intOf];omega)|simp[intOf]
  ·have HF:Hid (M++ [x]=insR (l.take (k+1)) s∧∃y∈l.take (k+1),ltN s y):=by
    show _∧_
    obtain ⟨h1,y,hy,h2⟩:=H1.out rfl
    rw[HT.out]
    exact ⟨by rw[h1,insR_snoc1 ⟨y,hy,h2⟩],y,by simp[hy],h2⟩
   clear e H0 H1
   refine' zq135
   go_roundw
   case rel=>exact ⟨k+1,M++ [x],true,by omega,by go_num,rfl,by simp;omega,o2,HN',(fun g=>by cases g),fun _=>HF.out,hB2⟩
   case measure=>first|(simp[intOf];omega)|simp[intOf]
noncomputable def callsUp (e:Ex) (j:Nat):List ByteArray:=(((exList e).take j).filter (fun x=>cB (x.op=4))).map Ex.name
theorem callsUp_zero (e:Ex):callsUp e 0=[]:=rfl
theorem callsUp_yes {e x:Ex} {j:Nat} (h:(exList e)[j]? =some x) (h4:x.op=4):callsUp e (j+1)=callsUp e j++ [x.name]:=by
 refine' zq180
 unfold callsUp
 rw[List.take_succ_eq_append_getElem h1,h2]
 simp[cB_true h4]
theorem callsUp_no {e x:Ex} {j:Nat} (h:(exList e)[j]? =some x) (h4:x.op≠4):callsUp e (j+1)=callsUp e j:=by
 refine' zq180
 unfold callsUp
 rw[List.take_succ_eq_append_getElem h1,h2]
 simp[cB_false h4]
theorem callsUp_end (e:Ex):callsUp e (exList e).length=callsOf e:=by unfold callsUp callsOf;rw[List.take_length]
theorem callsUp_len (e:Ex) (j:Nat):(callsUp e j).length≤(exList e).length:=by
 unfold callsUp
 rw[List.length_map]
 exact Nat.le_trans (List.length_filter_le _ _) (by rw[List.length_take];omega)
theorem callTo_len {n:Nd} (sm:NdSm n):∀k,(callTo n k).length≤k*900
 |0=>by rw[callTo_zero];exact Nat.zero_le _
 |k+1=>by
  have ih:=callTo_len sm k
  cases hq:n.eqs[k]? with
  |none=>
   have:callTo n (k+1)=callTo n k:=by
    unfold callTo
    have hl:=List.getElem?_eq_none_iff.1 hq
    rw[List.take_of_length_le (by omega),List.take_of_length_le hl]
   rw[this]
   exact Nat.le_trans ih (Nat.mul_le_mul_right _ (Nat.le_succ k))
  |some q=>
   rw[callTo_succ hq,List.length_append]
   have h1:=callsUp_len q.right (exList q.right).length
   rw[callsUp_end] at h1
   have h2:=(sm.eq q (List.mem_of_getElem? hq)).right.size
   unfold exSize at h2
   omega
theorem ruses_any (n:Nd) (a:NdA) (w:World) (sm:NdSm n) (hn:NdAt w w.heap.size n a):
  Calls Tryz.prog 148 #[ndV n a] w fun r w'=>(∃v,r= .returned v∧SlV w' w'.heap.size 1 isStr v (usesF n))∧Below w.heap.size w w':=by
 refine' zq152
 have HSM:=Lib.hid sm
 have hmq:=hn.mq
 have hnq:=sm.eqs
 have hlq:=hn.lq
 refine' zq263
 refine' zq193
 clear hn sm
 go_enter Tryz.func148,Tryz.ntmps148
 refine' zq63
 go_wp2_with fail
 go_loopw[3,4] (fun o i wr=>∃k:Nat,k≤n.eqs.length∧i= .int .i64 k∧SlV wr wr.heap.size 1 isStr o (insAll [] (callTo n k))∧Below W1.heap.size W1 wr) (fun _ i _=>n.eqs.length-(intOf i).toNat)
 case atStart=>exact ⟨0,Nat.zero_le _,rfl,SlV.nil,Below.refl _ _⟩
 case round=>
  obtain ⟨k,hk,rfl,hv,hbr⟩:=hrel
  have hB:=b1.trans (hbr.mono hs1)
  have hsB:=hB.size
  have hszr:=hbr.size
  have rn:=rn1.below hbr rn1.lt
  obtain ⟨c0,c1,cc2,c3,c4,c5,c6⟩:=rn.nd
  by_cases hlt:k<n.eqs.length
  rotate_left 1
  ·obtain rfl:k=n.eqs.length:=by omega
   go_wp2_with fail
   go_ret
   exact ⟨⟨_,rfl,hv⟩,hB⟩
  refine' zq195
  rw[hA] at c4
  have HQ:=Lib.hid hq
  have HSZ:=Lib.hid (HSM.out.eq q (List.mem_of_getElem? hq)).right.size
  have hexl:=HSZ.out
  unfold exSize at hexl
  have i0:(0:Int)≤(k:Int):=by omega
  have i1:(k:Int)<(n.eqs.length:Int):=by omega
  have HLS:=Lib.hid (list_any wr.heap.size q.right A2 k2 wr ok.right lq2 mq2 (Nat.le_refl _) (exs_keep sl2 (fun _ _ _ h=>h) hsB) (by have:=HSZ.out;omega))
  clear hA hq ok sl1 sl2
  go_wp2_with fail
  refine HLS.out.mono ?_
  rintro r w2 ⟨v2,css,rfl,hown,hare,hb2⟩
  obtain ⟨A3,c3',rfl,hn3,hl3,hm3,hx3⟩:=own_exs hown hare hb2.size
  have hs2:=hb2.size
  have hv2:SlV w2 w2.heap.size 1 isStr _ (insAll [] (callTo n k)):=(hv.below hb2).more hs2
  have HX:Hid (∀W,Below w2.heap.size w2 W→IsExs W w2.heap.size A3 (exList q.right)):=fun W hW=>exs_keep hx3 (keeps_of hW) (Nat.le_refl _)
  have hcl:=callTo_len HSM.out k
  have hm3':c3'≤9223372036854775807:=by unfold maxLen at hm3;omega
  clear c0 c1 cc2 c3 c4 c5 c6 d0 d1 d2 d3 d4 d5 d6 d7 d8 hown hare hx3 HLS
  go_wp2_with fail
  go_loopw[3,6] (fun o i wr=>∃j:Nat,j≤(exList q.right).length∧i= .int .i64 j∧SlV wr wr.heap.size 1 isStr o (insAll [] (callTo n k++callsUp q.right j))∧Below w2.heap.size w2 wr) (fun _ i _=>(exList q.right).length-(intOf i).toNat)
  case atStart=>exact ⟨0,Nat.zero_le _,rfl,by rw[callsUp_zero,List.append_nil];exact hv2,Below.refl _ _⟩
  case round=>
   clear hv hv2
   obtain ⟨j,hj,rfl,hv,hb3⟩:=hrel
   have hs3:=hb3.size
   by_cases hlj:j<(exList q.right).length
   rotate_left 1
   ·obtain rfl:j=(exList q.right).length:=by omega
    rw[callsUp_end,←callTo_succ HQ.out] at hv
    go_wp2_with fail
    go_roundw
    case rel=>exact ⟨k+1,by omega,by go_num,hv,hbr.trans ((hb2.trans (hb3.mono hs2)).mono hszr)⟩
    case measure=>first|(simp[intOf];omega)|simp[intOf]
   obtain ⟨b3,off3,y,A',cap',hA',hb',hyk,hym,hok',hcap',hmax',hy',d0,d1,d2,d3,d4,d5⟩:=(HX.out wr hb3).at_ hlj
   subst hA'
   have HY:=Lib.hid hyk
   have i2:(0:Int)≤(j:Int):=by omega
   have i3:(j:Int)<((exList q.right).length:Int):=by omega
   have hcu:=callsUp_len q.right j
   have hnl:=insAll_len (l:=[]) (m:=callTo n k++callsUp q.right j)
   simp only[List.length_append,List.length_nil,Nat.zero_add] at hnl
   obtain ⟨A5,c5,rfl,g1,g2,g3⟩:=hv
   have HV:=Lib.hid g3
   clear hyk hy' g3
   by_cases h4:y.op=4
   ·have o4:=eq_yes h4
    have HC:=Lib.hid (callsUp_yes HY.out h4)
    have HR:=Lib.hid (rsorted_any _ _ A5 c5 y.name wr rfl g1 g2 (by omega) hok'.name HV.out)
    clear h4
    go_wp2_with fail
    refine HR.out.mono ?_
    rintro r w5 ⟨⟨v5,rfl,hv5⟩,hb5⟩
    go_wp2_with fail
    go_roundw
    case rel=>exact ⟨j+1,by omega,by go_num,(by rw[HC.out,←List.append_assoc,insAll_snoc];exact hv5),hb3.trans (hb5.mono hs3)⟩
    case measure=>first|(simp[intOf];omega)|simp[intOf]
   ·have o4:=eq_no h4
    have HC:=Lib.hid (callsUp_no HY.out h4)
    clear h4
    go_wp2_with fail
    go_roundw
    case rel=>exact ⟨j+1,by omega,by go_num,(by rw[HC.out];exact ⟨A5,c5,rfl,g1,g2,HV.out⟩),hb3⟩
    case measure=>first|(simp[intOf];omega)|simp[intOf]
theorem rise_len {s:List Nd} (sm:SrcSm s) {L:List ByteArray} (h:Rising L) (hs:∀x∈L,x∈s.map Nd.name):L.length≤20:=by
 have:=nodup_len h.nodup hs
 rw[List.length_map] at this
 have:=sm.len
 omega
section
variable {s:List Nd} (h0:(scopeF s).err=0)
include h0
theorem stp_names (nm:ByteArray) (i:Nat):Rising (stp (usesAt s) nm i)∧∀x∈stp (usesAt s) nm i,x∈s.map Nd.name:=
 ⟨stp_rising (usesAt_rising s nm) i,fun x hx=>hg_sub (uses_V h0) (stp_hg i x hx)⟩
theorem rnd_names (nm:ByteArray) (i j:Nat):Rising (rndTo (usesAt s) (stp (usesAt s) nm i) j (stp (usesAt s) nm i))∧∀x∈rndTo (usesAt s) (stp (usesAt s) nm i) j (stp (usesAt s) nm i),x∈s.map Nd.name:=
 ⟨rndTo_rising (stp_names h0 nm i).1,fun x hx=>by
  rcases rndTo_mem.1 hx with g|⟨y,_,g⟩
  ·exact (stp_names h0 nm i).2 x g
  ·exact uses_V h0 y x g⟩
theorem ins_names (nm:ByteArray) (i j:Nat) {M:List ByteArray} (hM:∀x∈M,x∈s.map Nd.name):Rising (insAll (rndTo (usesAt s) (stp (usesAt s) nm i) j (stp (usesAt s) nm i)) M)∧∀x∈insAll (rndTo (usesAt s) (stp (usesAt s) nm i) j (stp (usesAt s) nm i)) M,x∈s.map Nd.name:=
 ⟨insAll_rising (rnd_names h0 nm i j).1,fun x hx=>by
  rcases insAll_mem.1 hx with g|g
  ·exact (rnd_names h0 nm i j).2 x g
  ·exact hM x g⟩
end
theorem name_node {s:List Nd} {nm:ByteArray} (h:nm∈s.map Nd.name):∃(k:Nat) (m:Nd),nodeIdx s nm=k∧s[k]? =some m∧nodeAt s nm=some m:=by
 rcases node_cases s nm with ⟨k,m,h1,h2,_,h4⟩|⟨h1,_⟩
 ·exact ⟨k,m,h1,h2,h4⟩
 ·have:=node_mem.2 h
  omega
theorem rhangs_any (s:List Nd) (A:Option Addr) (cap:Nat) (nm:ByteArray) (w:World) (h0:(scopeF s).err=0) (sm:SrcSm s) (h1:s.length≤cap) (h2:cap≤maxLen) (h:Nds w w.heap.size A s) (hnm:nm∈s.map Nd.name):
  Calls Tryz.prog 111 #[srcV s A cap,.string nm] w fun r w'=>(∃v,r= .returned v∧SlV w' w'.heap.size 1 isStr v (stp (usesAt s) nm s.length))∧Below w.heap.size w w':=by
 refine' zq159
 have HSW:Hid (∀W,Below w.heap.size w W→Nds W W.heap.size A s):=fun W hW=>nds_keep h (keeps_of hW) hW.size
 refine' zq122
 have H0:=Lib.hid h0
 have HCN:Hid (∀W y (i:Nat),Below w.heap.size w W→nodeIdx s y=i→Calls Tryz.prog 61 #[srcV s A cap,.string y] W fun e w'=>e= .returned (.int .i64 i)∧Below W.heap.size W w'):=fun W y i hW hy=>by
  have:=rnode_any s A cap y W h1 h2 (HSW.out W hW)
  rwa [hy] at this
 have HCU:Hid (∀W (n:Nd) (a:NdA),n∈s→NdAt W W.heap.size n a→Calls Tryz.prog 148 #[ndV n a] W fun r w'=>(∃v,r= .returned v∧SlV w' w'.heap.size 1 isStr v (usesF n))∧Below W.heap.size W w'):=fun W n a hn ha=>ruses_any n a W (HSM.out.all n hn) ha
 refine' zq30
 have hsl:=sm.len
 obtain ⟨k,mo,hki,hk,hma⟩:=name_node hnm
 clear h sm h0
 go_enter Tryz.func111,Tryz.ntmps111
 refine' zq103
 have hkl:=(List.getElem?_eq_some_iff.1 hk).1
 obtain ⟨b,off,m,am,hA,hb,hm',hat,d0,d1,d2,d3,d4,d5,d6⟩:=(HS.out W1 b1).nd hkl
 obtain rfl:m=mo:=by rw[hk] at hm';injection hm' with hm';exact hm'.symm
 subst hA
 have HM:=Lib.hid (List.mem_of_getElem? hk)
 have HU0:Hid (usesAt s nm=usesF m):=by show _=_;unfold usesAt;rw[hma]
 have HN1:Hid (∀W,Below W1.heap.size W1 W→NdAt W W.heap.size m am):=fun W hW=>(hat.below (hW.mono hs1)).more (Nat.le_trans hs1 hW.size)
 refine' zq69
 have HK:Hid (∀W,Below W1.heap.size W1 W→W.cell? ⟨w.heap.size,0,none⟩=some (.slice (some ⟨b,off,none⟩) s.length cap)∧W.cell? ⟨b,off+k*7,none⟩=some (.string m.name)∧W.cell? ⟨b,off+k*7+1,none⟩=some (.slice am.ai m.ins.length am.ci)∧W.cell? ⟨b,off+k*7+2,none⟩=some (.slice am.ao m.outs.length am.co)∧W.cell? ⟨b,off+k*7+3,none⟩=some (.slice am.av m.vars.length am.cv)∧W.cell? ⟨b,off+k*7+4,none⟩=some (.slice am.aq m.eqs.length am.cq)∧W.cell? ⟨b,off+k*7+5,none⟩=some (.int .i64 m.line)∧W.cell? ⟨b,off+k*7+6,none⟩=some (.int .i64 m.col)):=fun W hW=>⟨(rs1.below hW rs1.lt).src,old_cell hW d0,old_cell hW d1,old_cell hW d2,old_cell hW d3,old_cell hW d4,old_cell hW d5,old_cell hW d6⟩
 have HKI:=Lib.hid hki
 clear hk hm' hat hma hki d0 d1 d2 d3 d4 d5 d6
 go_cut[5] (fun v5 W=>SlV W W.heap.size 1 isStr v5 (usesF m)∧Below W1.heap.size W1 W)
 case first=>
  refine wp_region_held_drew (S:=fun W=>W.cell? ⟨w.heap.size,0,none⟩=some (.slice (some ⟨b,off,none⟩) s.length cap)∧W.cell? ⟨b,off+k*7,none⟩=some (.string m.name)∧W.cell? ⟨b,off+k*7+1,none⟩=some (.slice am.ai m.ins.length am.ci)∧W.cell? ⟨b,off+k*7+2,none⟩=some (.slice am.ao m.outs.length am.co)∧W.cell? ⟨b,off+k*7+3,none⟩=some (.slice am.av m.vars.length am.cv)∧W.cell? ⟨b,off+k*7+4,none⟩=some (.slice am.aq m.eqs.length am.cq)∧W.cell? ⟨b,off+k*7+5,none⟩=some (.int .i64 m.line)∧W.cell? ⟨b,off+k*7+6,none⟩=some (.int .i64 m.col)) (by kernel_rfl) ?_ (fun hHeld=>?_)
  ·refine' zq32
  refine tk 0 (some 11) rfl ?_
  refine tk 1 (some 12) rfl ?_
  refine tk 2 (some 13) rfl ?_
  refine tk 3 (some 14) rfl ?_
  refine rd1 4 (some 15) rfl (fun KK hKK=>?_)
  go_simp
  (go_at_call 61;refine Calls.mono (HCN.out _ nm k (b1.trans (Below.mono (B:=W1.heap.size) bE hs1)) HKI.out) ?_;rintro e w2 ⟨rfl,hb2⟩;(have hb3:Below W1.heap.size W1 w2:=Below.trans bE (hb2.mono lE)))
  refine' zq25
  refine tk 5 (some 16) rfl ?_
  refine tk 6 (some 17) rfl ?_
  refine rd1 7 (some 18) rfl (fun KK hKK=>?_)
  go_simp
  (go_at_call 148;refine Calls.mono (HCU.out _ m am HM.out (HN1.out _ bE)) ?_;rintro e w4 ⟨⟨v4,rfl,hv4⟩,hb4⟩;(have hb5:Below W1.heap.size W1 w4:=Below.trans bE (hb4.mono (by have:=hb3.size;first|exact this|(simp;exact this)))))
  refine' zq25
  refine tk 8 (some 5) rfl ?_
  refine' zq155
  go_meet
  exact ⟨hv4,by first|exact hb5|exact hb5.drew⟩
 obtain ⟨hv,hbc⟩:=hcut
 rw[←HU0.out] at hv
 have rs2:=rs1.below hbc rs1.lt
 have hB2:=b1.trans (hbc.mono hs1)
 have hs2:=hB2.size
 clear HK HN1 HU0 HM HKI rs1 b1 hbc hs1 i0 i1 hkl hb
 obtain ⟨w2,rfl⟩:∃w2:World,w2=wc:=⟨_,rfl⟩
 go_wp2_with fail
 go_loopw[5,6] (fun o t wr=>∃i:Nat,i≤s.length∧t= .int .i64 i∧SlV wr wr.heap.size 1 isStr o (stp (usesAt s) nm i)∧Below w2.heap.size w2 wr) (fun _ t _=>s.length-(intOf t).toNat)
 case atStart=>exact ⟨0,Nat.zero_le _,rfl,hv,Below.refl _ _⟩
 case round=>
  clear hv
  obtain ⟨i,hi,rfl,hv,hb3⟩:=hrel
  refine' zq217
  have hs23:=hb3.size
  have rs3:=rs2.below hb3 rs2.lt
  have c0:=rs3.src
  by_cases hlt:i<s.length
  rotate_left 1
  ·obtain rfl:i=s.length:=by omega
   go_wp2_with fail
   go_ret
   exact ⟨⟨_,rfl,hv⟩,hB3⟩
  have i0:(0:Int)≤(i:Int):=by omega
  have i1:(i:Int)<(s.length:Int):=by omega
  have hll:=rise_len HSM.out (stp_names H0.out nm i).1 (stp_names H0.out nm i).2
  obtain ⟨l,HL⟩:∃l,Hid (stp (usesAt s) nm i=l):=⟨_,rfl⟩
  rw[HL.out] at hv hll
  obtain ⟨A3,c3,rfl,g1,g2,g3⟩:=hv
  have HL3:Hid (∀W,Below wr.heap.size wr W→Sl W wr.heap.size 1 isStr A3 l):=fun W hW=>g3.below hW
  obtain ⟨w3,rfl⟩:∃w3:World,w3=wr:=⟨_,rfl⟩
  have g2':c3≤9223372036854775807:=by unfold maxLen at g2;omega
  go_wp2_with fail
  clear c0
  go_loopw[5,8] (fun o t wr=>∃j:Nat,j≤l.length∧t= .int .i64 j∧SlV wr wr.heap.size 1 isStr o (rndTo (usesAt s) l j l)∧Below w3.heap.size w3 wr) (fun _ t _=>l.length-(intOf t).toNat)
  case atStart=>exact ⟨0,Nat.zero_le _,rfl,by rw[rndTo_zero];exact ⟨A3,c3,rfl,g1,g2,g3⟩,Below.refl _ _⟩
  case round=>
   clear g3
   obtain ⟨j,hj,rfl,hv,hb4⟩:=hrel
   have hs34:=hb4.size
   have hB4:=hB3.trans (hb4.mono hs3)
   have hs4:=hB4.size
   by_cases hlj:j<l.length
   rotate_left 1
   ·obtain rfl:j=l.length:=by omega
    have HE:Hid (rndTo (usesAt s) l l.length l=stp (usesAt s) nm (i+1)):=by show _=_;rw[rndTo_end,←HL.out];rfl
    rw[HE.out] at hv
    go_wp2_with fail
    go_roundw
    case rel=>exact ⟨i+1,by omega,by go_num,hv,hb3.trans (hb4.mono hs23)⟩
    case measure=>first|(simp[intOf];omega)|simp[intOf]
   obtain ⟨b3,off3,x,hA3,hb3',hx,hsx,e0⟩:=(HL3.out wr hb4).str hlj
   have HA3:=Lib.hid hA3
   rw[hA3]
   have HX:=Lib.hid hx
   have HXM:Hid (x∈s.map Nd.name):=by
    show _∈_
    have:=List.mem_of_getElem? hx
    rw[←HL.out] at this
    exact (stp_names H0.out nm i).2 x this
   obtain ⟨k2,mo,hki,hk,hma⟩:=name_node HXM.out
   have hkl:=(List.getElem?_eq_some_iff.1 hk).1
   obtain ⟨b',off',m2,am2,hA',hb',hm',hat,d0,d1,d2,d3,d4,d5,d6⟩:=(HS.out wr hB4).nd hkl
   obtain rfl:m2=mo:=by rw[hk] at hm';injection hm' with hm';exact hm'.symm
   obtain ⟨rfl,rfl⟩:b=b'∧off=off':=by
    injection hA' with hA'
    injection hA' with hA1 hA2
    exact ⟨hA1,hA2⟩
   have HM:=Lib.hid (List.mem_of_getElem? hk)
   have HU2:Hid (usesAt s x=usesF m2):=by show _=_;unfold usesAt;rw[hma]
   have HN2:Hid (∀W,Below wr.heap.size wr W→NdAt W W.heap.size m2 am2):=fun W hW=>(hat.below (hW.mono hs4)).more (Nat.le_trans hs4 hW.size)
   have j0:(0:Int)≤(k2:Int):=by omega
   have j1:(k2:Int)<(s.length:Int):=by omega
   have j2:(0:Int)≤(j:Int):=by omega
   have j3:(j:Int)<(l.length:Int):=by omega
   have rs4:=rs3.below hb4 rs3.lt
   have HK:Hid (∀W,Below wr.heap.size wr W→W.cell? ⟨w.heap.size,0,none⟩=some (.slice (some ⟨b,off,none⟩) s.length cap)∧W.cell? ⟨b3,off3+j,none⟩=some (.string x)∧W.cell? ⟨b,off+k2*7,none⟩=some (.string m2.name)∧W.cell? ⟨b,off+k2*7+1,none⟩=some (.slice am2.ai m2.ins.length am2.ci)∧W.cell? ⟨b,off+k2*7+2,none⟩=some (.slice am2.ao m2.outs.length am2.co)∧W.cell? ⟨b,off+k2*7+3,none⟩=some (.slice am2.av m2.vars.length am2.cv)∧W.cell? ⟨b,off+k2*7+4,none⟩=some (.slice am2.aq m2.eqs.length am2.cq)∧W.cell? ⟨b,off+k2*7+5,none⟩=some (.int .i64 m2.line)∧W.cell? ⟨b,off+k2*7+6,none⟩=some (.int .i64 m2.col)):=fun W hW=>⟨(rs4.below hW rs4.lt).src,old_cell hW e0,old_cell hW d0,old_cell hW d1,old_cell hW d2,old_cell hW d3,old_cell hW d4,old_cell hW d5,old_cell hW d6⟩
   have HKI:=Lib.hid hki
   clear hx hk hm' hat hma hki d0 d1 d2 d3 d4 d5 d6 hA3 hA' e0
   obtain ⟨w4,rfl⟩:∃w4:World,w4=wr:=⟨_,rfl⟩
   go_wp2_with fail
   go_cut[9] (fun v9 W=>SlV W W.heap.size 1 isStr v9 (usesF m2)∧Below w4.heap.size w4 W)
   case first=>
    refine wp_region_held_drew (S:=fun W=>W.cell? ⟨w.heap.size,0,none⟩=some (.slice (some ⟨b,off,none⟩) s.length cap)∧W.cell? ⟨b3,off3+j,none⟩=some (.string x)∧W.cell? ⟨b,off+k2*7,none⟩=some (.string m2.name)∧W.cell? ⟨b,off+k2*7+1,none⟩=some (.slice am2.ai m2.ins.length am2.ci)∧W.cell? ⟨b,off+k2*7+2,none⟩=some (.slice am2.ao m2.outs.length am2.co)∧W.cell? ⟨b,off+k2*7+3,none⟩=some (.slice am2.av m2.vars.length am2.cv)∧W.cell? ⟨b,off+k2*7+4,none⟩=some (.slice am2.aq m2.eqs.length am2.cq)∧W.cell? ⟨b,off+k2*7+5,none⟩=some (.int .i64 m2.line)∧W.cell? ⟨b,off+k2*7+6,none⟩=some (.int .i64 m2.col)) (by kernel_rfl) ?_ (fun hHeld=>?_)
    ·refine' zq32
    refine tk 0 (some 33) rfl ?_
    refine tk 1 (some 34) rfl ?_
    refine tk 2 (some 35) rfl ?_
    refine tk 3 (some 36) rfl ?_
    refine tk 4 (some 37) rfl ?_
    refine tk 5 (some 38) rfl ?_
    refine tk 6 (some 39) rfl ?_
    refine rd1 7 (some 40) rfl (fun KK hKK=>?_)
    go_simp
    (go_at_call 61;refine Calls.mono (HCN.out _ x k2 (hB4.trans (Below.mono (B:=w4.heap.size) bE hs4)) HKI.out) ?_;rintro e w5 ⟨rfl,hb5⟩;(have hb6:Below w4.heap.size w4 w5:=Below.trans bE (hb5.mono lE)))
    refine' zq25
    refine tk 8 (some 41) rfl ?_
    refine tk 9 (some 42) rfl ?_
    refine rd1 10 (some 43) rfl (fun KK hKK=>?_)
    go_simp
    (go_at_call 148;refine Calls.mono (HCU.out _ m2 am2 HM.out (HN2.out _ bE)) ?_;rintro e w7 ⟨⟨v7,rfl,hv7⟩,hb7⟩;(have hb8:Below w4.heap.size w4 w7:=Below.trans bE (hb7.mono (by have:=hb6.size;first|exact this|(simp;exact this)))))
    refine' zq25
    refine tk 11 (some 9) rfl ?_
    refine' zq155
    go_meet
    exact ⟨hv7,by first|exact hb8|exact hb8.drew⟩
   obtain ⟨hu,hbc⟩:=hcut
   rw[←HU2.out] at hu
   have hv5:=(hv.below hbc).more hbc.size
   clear HK HN2 HU2 HM HKI hv
   obtain ⟨w5,rfl⟩:∃w5:World,w5=wc:=⟨_,rfl⟩
   obtain ⟨A5,c5,rfl,u1,u2,u3⟩:=hu
   have HU5:Hid (∀W,Below w5.heap.size w5 W→Sl W w5.heap.size 1 isStr A5 (usesAt s x)):=fun W hW=>u3.below hW
   have u2':c5≤9223372036854775807:=by unfold maxLen at u2;omega
   clear u3
   go_wp2_with fail
   go_loopw[5,10] (fun o t wr=>∃p:Nat,p≤(usesAt s x).length∧t= .int .i64 p∧SlV wr wr.heap.size 1 isStr o (insAll (rndTo (usesAt s) l j l) ((usesAt s x).take p))∧Below w5.heap.size w5 wr) (fun _ t _=>(usesAt s x).length-(intOf t).toNat)
   case atStart=>exact ⟨0,Nat.zero_le _,rfl,by rw[List.take_zero,insAll_nil];exact hv5,Below.refl _ _⟩
   case round=>
    clear hv5
    obtain ⟨p,hp,rfl,hv,hb6⟩:=hrel
    have hs6:=hb6.size
    by_cases hlp:p<(usesAt s x).length
    rotate_left 1
    ·obtain rfl:p=(usesAt s x).length:=by omega
     rw[List.take_length,←rndTo_succ HX.out] at hv
     go_wp2_with fail
     go_roundw
     case rel=>exact ⟨j+1,by omega,by go_num,hv,hb4.trans ((hbc.trans (hb6.mono hbc.size)).mono hs34)⟩
     case measure=>first|(simp[intOf];omega)|simp[intOf]
    obtain ⟨b6,off6,y,hA6,hb6',hy,hsy,e0⟩:=(HU5.out wr hb6).str hlp
    rw[hA6]
    have HT:Hid ((usesAt s x).take (p+1)=(usesAt s x).take p++ [y]):=by
     show _=_
     obtain ⟨q1,q2⟩:=List.getElem?_eq_some_iff.1 hy
     rw[List.take_succ_eq_append_getElem q1,q2]
    have p0:(0:Int)≤(p:Int):=by omega
    have p1:(p:Int)<((usesAt s x).length:Int):=by omega
    have hil:=ins_names H0.out nm i j (M:=(usesAt s x).take p) (fun z hz=>uses_V H0.out x z (List.mem_of_mem_take hz))
    rw[HL.out] at hil
    have hil:=rise_len HSM.out hil.1 hil.2
    obtain ⟨A7,c7,rfl,q1,q2,q3⟩:=hv
    have HR:=Lib.hid (rsorted_any _ _ A7 c7 y wr rfl q1 q2 (by omega) hsy q3)
    clear hy q3 hA6
    go_wp2_with fail
    refine HR.out.mono ?_
    rintro r w8 ⟨⟨v8,rfl,hv8⟩,hb8⟩
    go_wp2_with fail
    go_roundw
    case rel=>exact ⟨p+1,by omega,by go_num,(by rw[HT.out,insAll_snoc];exact hv8),hb6.trans (hb8.mono hs6)⟩
    case measure=>first|(simp[intOf];omega)|simp[intOf]
theorem rcheck17_any (s:List Nd) (A:Option Addr) (cap:Nat) (w:World) (sm:SrcSm s) (h1:s.length≤cap) (h2:cap≤maxLen) (h:Nds w w.heap.size A s):
  Calls Tryz.prog 49 #[srcV s A cap] w fun r w'=>r= .returned (ftV (callsF s))∧Below w.heap.size w w':=by
 refine' zq13
 go_enter Tryz.func49,Tryz.ntmps49
 refine' zq110
 refine' zq117
 have rs5:=rs4
 have rf5:=rf4
 have hB5:=hB4
 have hs5:=hs4
 obtain ⟨w5,rfl⟩:∃w5:World,w5=w4:=⟨_,rfl⟩
 clear c0 rs4 rf4 hB4 hs4
 go_wp2_with fail
 go_loopw[4] (fun i wr=>∃k:Nat,k≤s.length∧i= .int .i64 k∧Hid (∀j,j<k→∀x,s[j]? =some x→(calF s j x).err=0)∧Below w5.heap.size w5 wr) (fun i _=>s.length-(intOf i).toNat)
 case atStart=>exact ⟨0,Nat.zero_le _,rfl,fun j h=>absurd h (by omega),Below.refl _ _⟩
 case round=>
  obtain ⟨k,hk,rfl,HN,hbr⟩:=hrel
  have rf:=rf5.below hbr rf5.lt
  have hB:=hB5.trans (hbr.mono hs5)
  have rs:=rs5.below hbr rs5.lt
  have c0:=rs.src
  refine' zq137
  have HMEM:=Lib.hid (List.mem_map_of_mem (f:=Nd.name) (List.mem_of_getElem? hn))
  clear hn hat
  go_upto_region 8 with (fail)
  clear d0 d1 d2 d3 d4 d5 d6
  refine' zq60
  have rs6:=rs.below ba rs.lt
  have HSX:Hid (∀W,Below w6.heap.size w6 W→Nds W W.heap.size (some ⟨b,off,none⟩) s):=fun W hW=>nds_keep (HS.out W (hB6.trans (hW.mono hs6))) (fun _ _ _ h=>h) (hB6.trans (hW.mono hs6)).size
  have HK:Hid (∀W,Below w6.heap.size w6 W→W.cell? ⟨w.heap.size,0,none⟩=some (.slice (some ⟨b,off,none⟩) s.length cap)∧(W.cell? ⟨wr.heap.size,0,none⟩=some (.string n.name)∧W.cell? ⟨wr.heap.size,1,none⟩=some (.slice a.ai n.ins.length a.ci)∧W.cell? ⟨wr.heap.size,2,none⟩=some (.slice a.ao n.outs.length a.co)∧W.cell? ⟨wr.heap.size,3,none⟩=some (.slice a.av n.vars.length a.cv)∧W.cell? ⟨wr.heap.size,4,none⟩=some (.slice a.aq n.eqs.length a.cq)∧W.cell? ⟨wr.heap.size,5,none⟩=some (.int .i64 n.line)∧W.cell? ⟨wr.heap.size,6,none⟩=some (.int .i64 n.col))):=fun W hW=>⟨(rs6.below hW rs6.lt).src,(rn1.below hW rn1.lt).nd⟩
  have HIF:Hid (n.name∈stp (usesAt s) n.name s.length↔Hg (usesAt s) n.name n.name):=stp_iff (V:=s.map Nd.name) (uses_V H0.out) (usesAt_rising s _) (by simp)
  clear c0
  go_cut[30] (fun v30 W=>v30= .bool P∧Below w6.heap.size w6 W)
  case first=>
   refine wp_region_held_drew (S:=fun W=>W.cell? ⟨w.heap.size,0,none⟩=some (.slice (some ⟨b,off,none⟩) s.length cap)∧(W.cell? ⟨wr.heap.size,0,none⟩=some (.string n.name)∧W.cell? ⟨wr.heap.size,1,none⟩=some (.slice a.ai n.ins.length a.ci)∧W.cell? ⟨wr.heap.size,2,none⟩=some (.slice a.ao n.outs.length a.co)∧W.cell? ⟨wr.heap.size,3,none⟩=some (.slice a.av n.vars.length a.cv)∧W.cell? ⟨wr.heap.size,4,none⟩=some (.slice a.aq n.eqs.length a.cq)∧W.cell? ⟨wr.heap.size,5,none⟩=some (.int .i64 n.line)∧W.cell? ⟨wr.heap.size,6,none⟩=some (.int .i64 n.col))) (by kernel_rfl) ?_ (fun hHeld=>?_)
   ·refine' zq32
   refine tk 0 (some 24) rfl ?_
   refine tk 1 (some 25) rfl ?_
   refine tk 2 (some 26) rfl ?_
   refine tk 4 (some 28) rfl ?_
   refine tk 5 (some 29) rfl ?_
   refine rd1 3 (some 27) rfl (fun KK hKK=>?_)
   go_simp
   (go_at_call 111;refine Calls.mono (rhangs_any s (some ⟨b,off,none⟩) cap n.name _ H0.out HSM.out h1 h2 (HSX.out _ bE) HMEM.out) ?_;rintro e w7 ⟨⟨v7,rfl,hv7⟩,hb7⟩;(have hb8:Below w6.heap.size w6 w7:=Below.trans bE (hb7.mono lE));(obtain ⟨A7,c7,rfl,g1,g2,g3⟩:=hv7))
   refine' zq25
   refine rd1 6 (some 30) rfl (fun KK hKK=>?_)
   go_simp
   (go_at_call 110;refine Calls.mono (in_str _ n.name A7 c7 _ _ g1 g2 g3) ?_;rintro e w9 ⟨rfl,rfl⟩)
   refine' zq25
   refine' zq155
   go_meet
   exact ⟨congrArg Value.bool ((cB_congr HIF.out).trans HPB.out),by first|exact hb8|exact hb8.drew⟩
  case rest=>
   refine' zq36
end Go.Proofs.YtgjfkidbfmbjoaaGreat
