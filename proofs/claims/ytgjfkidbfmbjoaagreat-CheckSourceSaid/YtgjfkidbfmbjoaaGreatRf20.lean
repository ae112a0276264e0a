/-
  What an expression wants at once, by the document: the contracts of tompionref20.All and Wants. On what a name hangs at once, by the document: the contract of tompionref20.Hangs. Does a variable hang on itself, by the document: the contract of tompionref20.Round. Which name hangs on itself first, by the document: the contract of tompionref20.Check.
-/
import Derived.Test.YtgjfkidbfmbjoaaGreatZz
import Derived.Test.YtgjfkidbfmbjoaaGreatRfK
import Derived.Test.YtgjfkidbfmbjoaaGreatCauC
import Derived.Test.YtgjfkidbfmbjoaaGreatRfT
set_option maxHeartbeats 1000000
set_option maxRecDepth 100000
namespace Go.Proofs.YtgjfkidbfmbjoaaGreat
open Go.RowKit
attribute [local go_sem ↓] Go.wp_at_zero Go.wp_at_succ
theorem take_snoc {l:List ByteArray} {k:Nat} {x:ByteArray} (h:l[k]? =some x):l.take (k+1)=l.take k++ [x]:=by
 obtain ⟨q1,q2⟩:=List.getElem?_eq_some_iff.1 h
 rw[List.take_succ_eq_append_getElem q1,q2]
theorem rall_any (l m:List ByteArray) (la lm:Nat) (A B:Option Addr) (ca cb:Nat) (w:World) (hla:l.length=la) (hlm:m.length=lm) (h1:la≤ca) (h2:ca≤maxLen) (h3:lm≤cb) (h4:cb≤maxLen) (hl:l.length+m.length<900000) (ha:Sl w w.heap.size 1 isStr A l) (hb:Sl w w.heap.size 1 isStr B m):
  Calls Tryz.prog 193 #[.slice A la ca,.slice B lm cb] w fun e w'=>(∃v,e= .returned v∧SlV w' w'.heap.size 1 isStr v (insAll l m))∧Below w.heap.size w w':=by
 subst hla
 subst hlm
 have HB:=Lib.hid hb
 have hv:SlV w w.heap.size 1 isStr (.slice A l.length ca) l:=⟨A,ca,rfl,h1,h2,ha⟩
 have h4':cb≤9223372036854775807:=by unfold maxLen at h4;omega
 clear ha hb
 go_enter Tryz.func193,Tryz.ntmps193
 go_wp2_with fail
 go_loopw[0,5] (fun o t wr=>∃k:Nat,k≤m.length∧t= .int .i64 k∧SlV wr wr.heap.size 1 isStr o (insAll l (m.take k))∧Below w.heap.size w wr) (fun _ t _=>m.length-(intOf t).toNat)
 case atStart=>exact ⟨0,Nat.zero_le _,rfl,by rw[List.take_zero,insAll_nil];exact hv,Below.refl _ _⟩
 case round=>
  clear hv
  obtain ⟨k,hk,rfl,hv,hB⟩:=hrel
  have hs:=hB.size
  by_cases hlt:k<m.length
  rotate_left 1
  ·obtain rfl:k=m.length:=by omega
   rw[List.take_length] at hv
   go_wp2_with fail
   go_ret
   exact ⟨⟨_,rfl,hv⟩,hB⟩
  obtain ⟨b,off,x,hA,hb',hx,hsx,e0⟩:=(HB.out.below hB).str hlt
  subst hA
  have HX:=Lib.hid hx
  have i0:(0:Int)≤(k:Int):=by omega
  have i1:(k:Int)<(m.length:Int):=by omega
  have hil:=insAll_len (l:=l) (m:=m.take k)
  rw[List.length_take] at hil
  obtain ⟨A5,c5,rfl,g1,g2,g3⟩:=hv
  have HR:=Lib.hid (rsorted_any _ _ A5 c5 x wr rfl g1 g2 (by omega) hsx g3)
  clear hx g3
  go_wp2_with fail
  refine HR.out.mono ?_
  rintro r w5 ⟨⟨v5,rfl,hv5⟩,hb5⟩
  go_wp2_with fail
  go_roundw
  case rel=>exact ⟨k+1,by omega,by go_num,(by rw[take_snoc HX.out,insAll_snoc];exact hv5),hB.trans (hb5.mono hs)⟩
  case measure=>first|(simp[intOf];omega)|simp[intOf]
theorem wantTo_len (e:Ex) (ih:∀x∈e.args,(wantsL x).length≤exSize x):∀k,k≤e.args.length→(wantTo e k).length≤(lTo e k).length
 |0,_=>by
  rw[wantTo_zero,lTo_zero]
  unfold ownW
  split<;>simp
 |k+1,h=>by
  have h1:=wantTo_len e ih k (by omega)
  have hx:e.args[k]? =some e.args[k]:=List.getElem?_eq_getElem (by omega)
  have h2:=ih _ (List.mem_of_getElem? hx)
  rw[lTo_succ hx,List.length_append]
  unfold exSize at h2
  by_cases he:Early e.op k
  ·rw[wantTo_yes hx he,List.length_append]
   omega
  ·rw[wantTo_no hx he]
   omega
theorem wants_len (e:Ex):(wantsL e).length≤exSize e:=by
 induction e using Ex.ind with
 |h e ih=>
  rw[wantTo_end]
  have:=wantTo_len e ih e.args.length (Nat.le_refl _)
  rw[←lTo_end] at this
  exact this
noncomputable def wantsF (e:Ex):List ByteArray:=insAll [] (wantsL e)
theorem wants_step {L M:List ByteArray}:insAll (insAll [] L) (insAll [] M)=insAll [] (L++M):=rising_eq (insAll_rising (insAll_rising List.Pairwise.nil)) (insAll_rising List.Pairwise.nil) fun x=>by
 simp only[insAll_mem,List.mem_append,List.not_mem_nil,false_or]
theorem own_all (e:Ex):insAll [] (ownW e)=ownW e:=by
 unfold ownW
 split
 ·simp[insAll,ins,insR]
 ·rfl
theorem rwants_any (e:Ex):∀(A2:Option Addr) (cap2:Nat) (w:World),ExOk e→e.args.length≤cap2→cap2≤maxLen→IsExs w w.heap.size A2 e.args→exSize e≤1000→
  Calls Tryz.prog 254 #[exV e A2 cap2] w fun r w'=>(∃v,r= .returned v∧SlV w' w'.heap.size 1 isStr v (wantsF e))∧Below w.heap.size w w':=by
 induction e using Ex.ind with
 |h e ih=>
  intro A2 cap2 w ok h1 h2 hx hlen
  have HI:=Lib.hid ih
  have rx1:=Row.new w (exA e A2 cap2) 79
  have b1:Below w.heap.size w (w.alloc (.cells (exA e A2 cap2) 79)):=bE
  have HX:=Lib.hid hx
  have hnm:=ok.name
  have hsp:=exSize_pos e
  have h2':cap2≤9223372036854775807:=by unfold maxLen at h2;omega
  clear ih hx ok
  go_enter Tryz.func254,Tryz.ntmps254
  go_upto_region 2 with (fail)
  generalize w.alloc (.cells (exA e A2 cap2) 79)=W1 at*
  have hs1:=b1.size
  obtain ⟨x0,x1,x2,x3,x4,x5⟩:=rx1.ex6
  obtain ⟨P,HP⟩:∃P:Bool,Hid (namesB e.op=P):=⟨_,rfl⟩
  go_cut[17] (fun v17 W=>v17= .bool P∧W=W1)
  case first=>
   cases P
   ·rcases names_no HP.out with ⟨o3,o24|⟨o24,o26⟩⟩
    all_goals
     go_wp2_with fail
     go_meet
     exact ⟨by first|rfl|simp_all,rfl⟩
   ·rcases names_yes HP.out with o3|⟨o3,o24,o26⟩
    all_goals
     go_wp2_with fail
     go_meet
     exact ⟨by first|rfl|simp_all,rfl⟩
  obtain ⟨rfl,rfl⟩:=hcut
  rename_i hKK
  refine hKK _ _ ?_
  go_cut[3] (fun v3 W=>SlV W W.heap.size 1 isStr v3 (insAll [] (wantTo e 0))∧Below wc.heap.size wc W)
  case first=>
   have HO0:Hid (insAll [] (wantTo e 0)=ownW e):=by show _=_;rw[wantTo_zero,own_all]
   cases P
   ·have HO:Hid (ownW e=[]):=if_neg (by rw[HP.out];decide)
    go_wp2_with fail
    go_meet
    exact ⟨by rw[HO0.out,HO.out];exact SlV.nil,Below.refl _ _⟩
   ·have HO:Hid (ownW e=[e.name]):=if_pos HP.out
    go_wp2_with (at_builtin;refine wpList_append_str rfl _ _ rfl wc.heap.size [] 0 _ rfl (World.ownsRow_nil _ _ _ _) rfl wc.heap.size e.name rfl (((Row.new wc #[.string e.name] 9).cell 0).trans rfl) (by simp) (by simp) ?_;intro v2 w2 o2 g2)
    go_meet
    refine ⟨by rw[HO0.out,HO.out];exact own_strs o2 (fun y hy=>by simp at hy;subst hy;exact hnm),((Below.refl _ _).alloc (Nat.le_refl _) _).grown g2 (by simp) (fun k e=>by cases e)⟩
  obtain ⟨hv,hbc⟩:=hcut
  have rx2:=rx1.below hbc rx1.lt
  have hB2:=b1.trans (hbc.mono hs1)
  have hs2:=hB2.size
  obtain ⟨x0,x1,x2,x3,x4,x5⟩:=rx2.ex6
  clear rx1 b1 hbc hs1 HP
  obtain ⟨w2,rfl⟩:∃w2:World,w2=wc:=⟨_,rfl⟩
  go_wp2_with fail
  clear x0 x1 x2 x3 x4 x5
  go_loopw[3,4] (fun o t wr=>∃k:Nat,k≤e.args.length∧t= .int .i64 k∧SlV wr wr.heap.size 1 isStr o (insAll [] (wantTo e k))∧Below w2.heap.size w2 wr) (fun _ t _=>e.args.length-(intOf t).toNat)
  case atStart=>exact ⟨0,Nat.zero_le _,rfl,hv,Below.refl _ _⟩
  case round=>
   clear hv
   obtain ⟨k,hk,rfl,hv,hb3⟩:=hrel
   have hB3:=hB2.trans (hb3.mono hs2)
   have hs3:=hB3.size
   have hs23:=hb3.size
   have rx3:=rx2.below hb3 rx2.lt
   obtain ⟨x0,x1,x2,x3,x4,x5⟩:=rx3.ex6
   by_cases hlt:k<e.args.length
   rotate_left 1
   ·obtain rfl:k=e.args.length:=by omega
    rw[←wantTo_end] at hv
    go_wp2_with fail
    go_ret
    exact ⟨⟨_,rfl,hv⟩,hB3⟩
   obtain ⟨b,off,y,A',cap',hA,hb,hyk,hym,hok',hcap',hmax',hy',d0,d1,d2,d3,d4,d5⟩:=(exs_keep HX.out (keeps_of hB3) (Nat.le_refl _)).at_ hlt
   subst hA
   have HYK:=Lib.hid hyk
   have i0:(0:Int)≤(k:Int):=by omega
   have i1:(k:Int)<(e.args.length:Int):=by omega
   have hly:=exSize_arg hym
   have HW:=Lib.hid (HI.out y hym A' cap' wr hok' hcap' hmax' (exs_keep hy' (fun _ _ _ h=>h) hs3) (by omega))
   have hwl:=wants_len y
   have hwt:=wantTo_len e (fun x _=>wants_len x) k hk
   have hlt2:=lTo_le e k
   obtain ⟨A5,c5,rfl,g1,g2,g3⟩:=hv
   clear hyk hy'
   rcases early_no e.op k with ⟨q1,HE⟩|⟨q1,q2,q3,HE⟩|⟨q1,q2,HE⟩|⟨q1,q2,q3,HE⟩
   ·have o1:(e.op !=21)=false:=neq_no q1
    have HWT:=Lib.hid (wantTo_no HYK.out HE)
    clear q1 HE
    go_wp2_with fail
    go_roundw
    case rel=>exact ⟨k+1,by omega,by go_num,(by rw[HWT.out];exact ⟨A5,c5,rfl,g1,g2,g3⟩),hb3⟩
    case measure=>first|(simp[intOf];omega)|simp[intOf]
   ·have o1:(e.op !=21)=true:=neq_yes q1
    have o2:(e.op !=22)=false:=neq_no q2
    have o3:((k:Int)==0)=false:=by rw[beq_eq_false_iff_ne];omega
    have HWT:=Lib.hid (wantTo_no HYK.out HE)
    clear q1 q2 HE
    go_wp2_with fail
    go_roundw
    case rel=>exact ⟨k+1,by omega,by go_num,(by rw[HWT.out];exact ⟨A5,c5,rfl,g1,g2,g3⟩),hb3⟩
    case measure=>first|(simp[intOf];omega)|simp[intOf]
   ·have o1:(e.op !=21)=true:=neq_yes q1
    have o2:(e.op !=22)=true:=neq_yes q2
    have HWT:=Lib.hid (wantTo_yes HYK.out HE)
    clear q1 q2 HE
    go_wp2_with fail
    refine HW.out.mono ?_
    rintro r w5 ⟨⟨v5,rfl,hv5⟩,hb5⟩
    obtain ⟨A6,c6,rfl,u1,u2,u3⟩:=hv5
    have hil:=insAll_len (l:=[]) (m:=wantTo e k)
    have hil2:=insAll_len (l:=[]) (m:=wantsL y)
    simp only[List.length_nil,Nat.zero_add] at hil hil2
    have HA:=Lib.hid (rall_any _ _ _ _ A5 A6 c5 c6 w5 rfl rfl g1 g2 u1 u2 (by unfold wantsF;omega) ((g3.below hb5).more hb5.size) u3)
    clear g3 u3 x0 x1 x2 x3 x4 x5 d0 d1 d2 d3 d4 d5
    go_wp2_with fail
    refine HA.out.mono ?_
    rintro r w7 ⟨⟨v7,rfl,hv7⟩,hb7⟩
    go_wp2_with fail
    go_roundw
    case rel=>exact ⟨k+1,by omega,by go_num,(by rw[HWT.out,←wants_step];exact hv7),hb3.trans ((hb5.trans (hb7.mono hb5.size)).mono hs23)⟩
    case measure=>first|(simp[intOf];omega)|simp[intOf]
   ·have o1:(e.op !=21)=true:=neq_yes q1
    have o2:(e.op !=22)=false:=neq_no q2
    have HWT:=Lib.hid (wantTo_yes HYK.out HE)
    have o3:((k:Int)==0)=true:=by rw[q3];rfl
    clear q1 q2 q3 HE
    go_wp2_with fail
    refine HW.out.mono ?_
    rintro r w5 ⟨⟨v5,rfl,hv5⟩,hb5⟩
    obtain ⟨A6,c6,rfl,u1,u2,u3⟩:=hv5
    have hil:=insAll_len (l:=[]) (m:=wantTo e k)
    have hil2:=insAll_len (l:=[]) (m:=wantsL y)
    simp only[List.length_nil,Nat.zero_add] at hil hil2
    have HA:=Lib.hid (rall_any _ _ _ _ A5 A6 c5 c6 w5 rfl rfl g1 g2 u1 u2 (by unfold wantsF;omega) ((g3.below hb5).more hb5.size) u3)
    clear g3 u3 x0 x1 x2 x3 x4 x5 d0 d1 d2 d3 d4 d5
    go_wp2_with fail
    refine HA.out.mono ?_
    rintro r w7 ⟨⟨v7,rfl,hv7⟩,hb7⟩
    go_wp2_with fail
    go_roundw
    case rel=>exact ⟨k+1,by omega,by go_num,(by rw[HWT.out,←wants_step];exact hv7),hb3.trans ((hb5.trans (hb7.mono hb5.size)).mono hs23)⟩
    case measure=>first|(simp[intOf];omega)|simp[intOf]
theorem all_more (L M:List ByteArray):insAll (insAll [] L) M=insAll [] (L++M):=(insAll_append [] L M).symm
theorem rhangs20_any (n:Nd) (a:NdA) (nm:ByteArray) (w:World) (sm:NdSm n) (hn:NdAt w w.heap.size n a):
  Calls Tryz.prog 192 #[ndV n a,.string nm] w fun r w'=>(∃v,r= .returned v∧SlV w' w'.heap.size 1 isStr v (hangsF n nm))∧Below w.heap.size w w':=by
 refine' zq152
 have HSM:=Lib.hid sm
 have hmq:=hn.mq
 have hnq:=sm.eqs
 have hlq:=hn.lq
 have hvl:=sm.len
 refine' zq263
 refine' zq193
 clear hn sm
 go_enter Tryz.func192,Tryz.ntmps192
 refine' zq63
 obtain ⟨c0,c1,cc2,c3,c4,c5,c6⟩:=rn1.nd
 go_wp2_with fail
 refine (rdefine_any n a nm W1 ((HN.out W1 b1).more hs1)).mono ?_
 rintro r w2 ⟨⟨x,y,rfl,HD⟩,hb2⟩
 have rn2:=rn1.below hb2 rn1.lt
 refine' zq153
 clear c0 c1 cc2 c3 c4 c5 c6 rn1 b1 hb2 hs1
 rcases HD.out with ⟨i,j,rfl,rfl,hd⟩|⟨rfl,rfl,hd⟩
 rotate_left 1
 ·have HE:Hid (hangsF n nm=[]):=by show _=_;unfold hangsF;rw[hangsL_no hd];rfl
  clear hd HD
  go_wp2_with fail
  go_ret
  exact ⟨⟨_,rfl,by rw[HE.out];exact SlV.nil⟩,hB2⟩
 have hi:i<n.eqs.length:=by obtain ⟨q',hq',_⟩:=hd;exact (List.getElem?_eq_some_iff.1 hq').1
 obtain ⟨c0,c1,cc2,c3,c4,c5,c6⟩:=rn2.nd
 obtain ⟨b,off,q,A1,k1,A2,k2,hA,hb,hq,ok,lq1,mq1,sl1,lq2,mq2,sl2,d0,d1,d2,d3,d4,d5,d6,d7,d8⟩:=(HN.out w2 hB2).sq.eqn hi
 have HL:=Lib.hid (hangsL_def hd hq)
 refine' zq237
 have HW:=Lib.hid (rwants_any q.right A2 k2 w2 ok.right lq2 mq2 (exs_keep sl2 (fun _ _ _ h=>h) hs2) (by omega))
 have hwl:=wants_len q.right
 clear hA hq ok sl1 sl2 hd HD
 go_wp2_with fail
 refine HW.out.mono ?_
 rintro r w3 ⟨⟨v3,rfl,hv3⟩,hb3⟩
 have rn3:=rn2.below hb3 rn2.lt
 refine' zq217
 clear c0 c1 cc2 c3 c4 c5 c6 d0 d1 d2 d3 d4 d5 d6 d7 d8 HW rn2 hb3
 obtain ⟨c0,c1,cc2,c3,c4,c5,c6⟩:=rn3.nd
 go_wp2_with fail
 refine (rvar_any n a nm w3 ((HN.out w3 hB3).more hs3) (by omega)).mono ?_
 rintro r w4 ⟨rfl,hb4⟩
 have rn4:=rn3.below hb4 rn3.lt
 have hB4:=hB3.trans (hb4.mono hs3)
 have hs4:=hB4.size
 have hv4:=(hv3.below hb4).more hb4.size
 clear c0 c1 cc2 c3 c4 c5 c6 rn3 hb4 hv3
 rcases var_cases n nm with ⟨k,x,h1,h2,_⟩|h1
 rotate_left 1
 ·have HE:Hid (hangsF n nm=wantsF q.right):=by show _=_;unfold hangsF;rw[HL.out,clock_no h1,List.map_nil,List.append_nil];rfl
  rw[h1]
  go_wp2_with fail
  go_ret
  exact ⟨⟨_,rfl,by rw[HE.out];exact hv4⟩,hB4⟩
 have HE:Hid (hangsF n nm=insAll (wantsF q.right) (x.clock.map Lt.name)):=by show _=_;unfold hangsF wantsF;rw[HL.out,clock_at h1 h2,all_more]
 rw[h1]
 have hkl:=(List.getElem?_eq_some_iff.1 h2).1
 have HXV:=Lib.hid h2
 have hcl:=(HSM.out.all x (List.mem_of_getElem? h2)).clock
 have j0:(0:Int)≤(k:Int):=by omega
 have j1:(k:Int)<((vrs n).length:Int):=by omega
 obtain ⟨c0,c1,cc2,c3,c4,c5,c6⟩:=rn4.nd
 clear h1 h2
 go_wp2_with fail
 refine (rvars_any w4.heap.size n a w4 (Nat.le_refl _) ((HN.out w4 hB4).more hs4) (by omega)).mono ?_
 rintro r w5 ⟨⟨v5,rfl,hv5⟩,hb5⟩
 obtain ⟨A5,c5',rfl,g1,g2,g3⟩:=hv5.sl
 obtain ⟨b',off',x',A',cap',hA',hb',hx,okx,q1,q2,hxs,e0,e1,e2,e3,e4⟩:=g3.vr hkl
 obtain rfl:x=x':=by
  have:=HXV.out
  rw[hx] at this
  injection this with this
  exact this.symm
 subst hA'
 have hB5:=hB4.trans (hb5.mono hs4)
 have hs5:=hB5.size
 have hv6:=(hv4.below hb5).more hb5.size
 have HXS:Hid (∀W,Below w5.heap.size w5 W→Sl W w5.heap.size 2 isLit A' x.clock):=fun W hW=>lits_keep (hxs.more hb5.size) (keeps_of hW) (Nat.le_refl _)
 have q2':cap'≤9223372036854775807:=by unfold maxLen at q2;omega
 have g2':c5'≤9223372036854775807:=by unfold maxLen at g2;omega
 clear c0 c1 cc2 c3 c4 c5 c6 hv4 hv5 g3 hx okx hxs
 go_wp2_with fail
 clear e0 e1 e2 e3 e4
 go_loopw[7,10] (fun o t wr=>∃p:Nat,p≤x.clock.length∧t= .int .i64 p∧SlV wr wr.heap.size 1 isStr o (insAll (wantsF q.right) ((x.clock.take p).map Lt.name))∧Below w5.heap.size w5 wr) (fun _ t _=>x.clock.length-(intOf t).toNat)
 case atStart=>exact ⟨0,Nat.zero_le _,rfl,by rw[List.take_zero,List.map_nil,insAll_nil];exact hv6,Below.refl _ _⟩
 case round=>
  clear hv6
  obtain ⟨p,hp,rfl,hv,hb6⟩:=hrel
  have hs6:=hb6.size
  by_cases hlt:p<x.clock.length
  rotate_left 1
  ·obtain rfl:p=x.clock.length:=by omega
   rw[List.take_length,←HE.out] at hv
   go_wp2_with fail
   go_ret
   exact ⟨⟨_,rfl,hv⟩,hB5.trans (hb6.mono hs5)⟩
  obtain ⟨b2,off2,c,hA2,hb2,hc,hsc,f0,f1⟩:=(HXS.out wr hb6).lit hlt
  subst hA2
  have HC:=Lib.hid hc
  have p0:(0:Int)≤(p:Int):=by omega
  have p1:(p:Int)<(x.clock.length:Int):=by omega
  have hil:=insAll_len (l:=wantsF q.right) (m:=(x.clock.take p).map Lt.name)
  have hil2:=insAll_len (l:=[]) (m:=wantsL q.right)
  rw[List.length_map,List.length_take] at hil
  simp only[List.length_nil,Nat.zero_add] at hil2
  obtain ⟨Lk,HLK⟩:∃Lk,Hid (insAll (wantsF q.right) ((x.clock.take p).map Lt.name)=Lk):=⟨_,rfl⟩
  have hbd:(insAll (wantsF q.right) ((x.clock.take p).map Lt.name)).length<900000:=by unfold wantsF at hil⊢;omega
  rw[HLK.out] at hv hbd
  obtain ⟨A7,c7,rfl,u1,u2,u3⟩:=hv
  have HR:=Lib.hid (rsorted_any Lk _ A7 c7 c.name wr rfl u1 u2 hbd hsc u3)
  clear hil
  clear hc u3
  go_wp2_with fail
  refine HR.out.mono ?_
  rintro r w8 ⟨⟨v8,rfl,hv8⟩,hb8⟩
  go_wp2_with fail
  go_roundw
  case rel=>exact ⟨p+1,by omega,by go_num,(by rw[names_snoc HC.out,insAll_snoc,HLK.out];exact hv8),hb6.trans (hb8.mono hs6)⟩
  case measure=>first|(simp[intOf];omega)|simp[intOf]
theorem rise_vars {n:Nd} (sm:NdSm n) {L:List ByteArray} (h:Rising L) (hs:∀x∈L,x∈nms (vrs n)):L.length≤150:=by
 have:=nodup_len h.nodup hs
 rw[List.length_map] at this
 have:=sm.len
 omega
section
variable {n:Nd} (hV:∀x,∀y∈hangsF n x,y∈nms (vrs n))
include hV
theorem stp_vars (nm:ByteArray) (i:Nat):Rising (stp (hangsF n) nm i)∧∀x∈stp (hangsF n) nm i,x∈nms (vrs n):=
 ⟨stp_rising (hangsF_rising n nm) i,fun _ hx=>hg_sub hV (stp_hg i _ hx)⟩
theorem rnd_vars (nm:ByteArray) (i j:Nat):Rising (rndTo (hangsF n) (stp (hangsF n) nm i) j (stp (hangsF n) nm i))∧∀x∈rndTo (hangsF n) (stp (hangsF n) nm i) j (stp (hangsF n) nm i),x∈nms (vrs n):=
 ⟨rndTo_rising (stp_vars hV nm i).1,fun x hx=>by
  rcases rndTo_mem.1 hx with g|⟨y,_,g⟩
  ·exact (stp_vars hV nm i).2 x g
  ·exact hV y x g⟩
end
theorem rround_any (n:Nd) (a:NdA) (nm:ByteArray) (w:World) (sm:NdSm n) (hn:NdAt w w.heap.size n a) (hV:∀x,∀y∈hangsF n x,y∈nms (vrs n)):
  Calls Tryz.prog 118 #[ndV n a,.string nm] w fun r w'=>r= .returned (.bool (cB (Hg (hangsF n) nm nm)))∧Below w.heap.size w w':=by
 have HIF:Hid (nm∈stp (hangsF n) nm (vrs n).length↔Hg (hangsF n) nm nm):=stp_iff (V:=nms (vrs n)) hV (hangsF_rising n nm) (by simp)
 have HN:Hid (∀W,Below w.heap.size w W→NdAt W W.heap.size n a):=fun W hW=>(hn.below hW).more hW.size
 have HSM:=Lib.hid sm
 have HV:=Lib.hid hV
 have hvl:=sm.len
 have HH:Hid (∀W y,Below w.heap.size w W→Calls Tryz.prog 192 #[ndV n a,.string y] W fun r w'=>(∃v,r= .returned v∧SlV w' w'.heap.size 1 isStr v (hangsF n y))∧Below W.heap.size W w'):=fun W y hW=>rhangs20_any n a y W HSM.out (HN.out W hW)
 refine' zq193
 clear hn sm hV
 go_enter Tryz.func118,Tryz.ntmps118
 refine' zq63
 obtain ⟨c0,c1,cc2,c3,c4,c5,c6⟩:=rn1.nd
 go_wp2_with fail
 refine (HH.out W1 nm b1).mono ?_
 rintro r w2 ⟨⟨v2,rfl,hv2⟩,hb2⟩
 have rn2:=rn1.below hb2 rn1.lt
 refine' zq153
 clear c0 c1 cc2 c3 c4 c5 c6 rn1 b1 hb2 hs1
 go_wp2_with fail
 go_loopw[5,6] (fun o t wr=>∃i:Nat,i≤(vrs n).length∧t= .int .i64 i∧SlV wr wr.heap.size 1 isStr o (stp (hangsF n) nm i)∧Below w2.heap.size w2 wr) (fun _ t _=>(vrs n).length-(intOf t).toNat)
 case atStart=>exact ⟨0,Nat.zero_le _,rfl,hv2,Below.refl _ _⟩
 case round=>
  clear hv2
  obtain ⟨i,hi,rfl,hv,hb3⟩:=hrel
  refine' zq217
  have hs23:=hb3.size
  have rn3:=rn2.below hb3 rn2.lt
  obtain ⟨c0,c1,cc2,c3,c4,c5,c6⟩:=rn3.nd
  have HVR:=Lib.hid (rvars_any wr.heap.size n a wr (Nat.le_refl _) (HN.out wr hB3) (by omega))
  go_wp2_with fail
  refine HVR.out.mono ?_
  rintro r w4 ⟨⟨v4,rfl,hv4⟩,hb4⟩
  obtain ⟨A4,c4',rfl,_,_,_⟩:=hv4.sl
  have rn4:=rn3.below hb4 rn3.lt
  have hB4:=hB3.trans (hb4.mono hs3)
  have hs4:=hB4.size
  have hv5:=(hv.below hb4).more hb4.size
  have hb24:=hb3.trans (hb4.mono hs23)
  have hs24:=hb24.size
  clear c0 c1 cc2 c3 c4 c5 c6 HVR hv4 hv
  by_cases hlt:i<(vrs n).length
  rotate_left 1
  ·obtain rfl:i=(vrs n).length:=by omega
   obtain ⟨A5,c5,rfl,g1,g2,g3⟩:=hv5
   have HI:=Lib.hid (in_str _ nm A5 c5 _ w4 g1 g2 g3)
   clear g3
   go_wp2_with fail
   refine HI.out.mono ?_
   rintro r w5 ⟨rfl,rfl⟩
   go_wp2_with fail
   go_ret
   exact ⟨congrArg (fun b=>Ending.returned (.bool b)) (cB_congr HIF.out),hB4⟩
  have i0:(0:Int)≤(i:Int):=by omega
  have i1:(i:Int)<((vrs n).length:Int):=by omega
  have hll:=rise_vars HSM.out (stp_vars HV.out nm i).1 (stp_vars HV.out nm i).2
  obtain ⟨l,HL⟩:∃l,Hid (stp (hangsF n) nm i=l):=⟨_,rfl⟩
  rw[HL.out] at hv5 hll
  obtain ⟨A3,c3,rfl,g1,g2,g3⟩:=hv5
  have HL4:Hid (∀W,Below w4.heap.size w4 W→Sl W w4.heap.size 1 isStr A3 l):=fun W hW=>g3.below hW
  have g2':c3≤9223372036854775807:=by unfold maxLen at g2;omega
  go_wp2_with fail
  go_loopw[5,8] (fun o t wr=>∃j:Nat,j≤l.length∧t= .int .i64 j∧SlV wr wr.heap.size 1 isStr o (rndTo (hangsF n) l j l)∧Below w4.heap.size w4 wr) (fun _ t _=>l.length-(intOf t).toNat)
  case atStart=>exact ⟨0,Nat.zero_le _,rfl,by rw[rndTo_zero];exact ⟨A3,c3,rfl,g1,g2,g3⟩,Below.refl _ _⟩
  case round=>
   clear g3
   obtain ⟨j,hj,rfl,hv,hb5⟩:=hrel
   have hB5:=hB4.trans (hb5.mono hs4)
   have hs5:=hB5.size
   have hs45:=hb5.size
   by_cases hlj:j<l.length
   rotate_left 1
   ·obtain rfl:j=l.length:=by omega
    have HE:Hid (rndTo (hangsF n) l l.length l=stp (hangsF n) nm (i+1)):=by show _=_;rw[rndTo_end,←HL.out];rfl
    rw[HE.out] at hv
    go_wp2_with fail
    go_roundw
    case rel=>exact ⟨i+1,by omega,by go_num,hv,hb24.trans (hb5.mono hs24)⟩
    case measure=>first|(simp[intOf];omega)|simp[intOf]
   obtain ⟨b3,off3,x,hA3,hb3',hx,hsx,e0⟩:=(HL4.out wr hb5).str hlj
   rw[hA3]
   have HX:=Lib.hid hx
   have HXM:Hid (x∈nms (vrs n)):=by
    show _∈_
    have:=List.mem_of_getElem? hx
    rw[←HL.out] at this
    exact (stp_vars HV.out nm i).2 x this
   have hul:=rise_vars HSM.out (hangsF_rising n x) (HV.out x)
   have hrl:=rnd_vars HV.out nm i j
   rw[HL.out] at hrl
   have hrl:=rise_vars HSM.out hrl.1 hrl.2
   obtain ⟨A6,c6,rfl,q1,q2,q3⟩:=hv
   have HQ3:Hid (∀W,Below wr.heap.size wr W→Sl W W.heap.size 1 isStr A6 (rndTo (hangsF n) l j l)):=fun W hW=>(q3.below hW).more hW.size
   have j2:(0:Int)≤(j:Int):=by omega
   have j3:(j:Int)<(l.length:Int):=by omega
   have rn5:=rn4.below hb5 rn4.lt
   have HK:Hid (∀W,Below wr.heap.size wr W→W.cell? ⟨b3,off3+j,none⟩=some (.string x)∧(W.cell? ⟨w.heap.size,0,none⟩=some (.string n.name)∧W.cell? ⟨w.heap.size,1,none⟩=some (.slice a.ai n.ins.length a.ci)∧W.cell? ⟨w.heap.size,2,none⟩=some (.slice a.ao n.outs.length a.co)∧W.cell? ⟨w.heap.size,3,none⟩=some (.slice a.av n.vars.length a.cv)∧W.cell? ⟨w.heap.size,4,none⟩=some (.slice a.aq n.eqs.length a.cq)∧W.cell? ⟨w.heap.size,5,none⟩=some (.int .i64 n.line)∧W.cell? ⟨w.heap.size,6,none⟩=some (.int .i64 n.col))):=fun W hW=>⟨old_cell hW e0,(rn5.below hW rn5.lt).nd⟩
   clear hx q3 hA3 e0
   go_upto_region 9 with (fail)
   refine wp_region_held_drew (S:=fun W=>W.cell? ⟨b3,off3+j,none⟩=some (.string x)∧(W.cell? ⟨w.heap.size,0,none⟩=some (.string n.name)∧W.cell? ⟨w.heap.size,1,none⟩=some (.slice a.ai n.ins.length a.ci)∧W.cell? ⟨w.heap.size,2,none⟩=some (.slice a.ao n.outs.length a.co)∧W.cell? ⟨w.heap.size,3,none⟩=some (.slice a.av n.vars.length a.cv)∧W.cell? ⟨w.heap.size,4,none⟩=some (.slice a.aq n.eqs.length a.cq)∧W.cell? ⟨w.heap.size,5,none⟩=some (.int .i64 n.line)∧W.cell? ⟨w.heap.size,6,none⟩=some (.int .i64 n.col))) (by kernel_rfl) ?_ (fun hHeld=>?_)
   ·refine' zq32
   refine tk 0 (some 26) rfl ?_
   refine tk 1 (some 27) rfl ?_
   refine tk 2 (some 28) rfl ?_
   refine tk 3 (some 29) rfl ?_
   refine tk 4 (some 30) rfl ?_
   refine tk 5 (some 31) rfl ?_
   refine rd1 6 (some 32) rfl (fun KK hKK=>?_)
   go_simp
   (go_at_call 192;refine Calls.mono (HH.out _ x (hB5.trans (Below.mono (B:=wr.heap.size) bE hs5))) ?_;rintro e w7 ⟨⟨v7,rfl,hv7⟩,hb7⟩;(have hb8:Below wr.heap.size wr w7:=Below.trans bE (hb7.mono lE));(have hs8:=hb8.size);(obtain ⟨A7,c7,rfl,u1,u2,u3⟩:=hv7))
   refine' zq25
   refine rd1 7 (some 33) rfl (fun KK hKK=>?_)
   go_simp
   (go_at_call 193;refine Calls.mono (rall_any _ _ _ _ A6 A7 c6 c7 _ rfl rfl q1 q2 u1 u2 (by omega) (HQ3.out _ bE) u3) ?_;rintro e w9 ⟨⟨v9,rfl,hv9⟩,hb9⟩;(have hb10:Below wr.heap.size wr w9:=Below.trans bE (hb9.mono (by first|exact hs8|(simp;exact hs8)))))
   refine' zq25
   refine tk 8 (some 5) rfl ?_
   refine wpAnyH_done (by kernel_rfl) ?_ _
   have hv10:SlV w9 w9.heap.size 1 isStr v9 (rndTo (hangsF n) l (j+1) l):=by rw[rndTo_succ HX.out];exact hv9
   go_wp2_with fail
   go_roundw
   case rel=>exact ⟨j+1,by omega,by go_num,hv10,by first|exact hb5.trans (hb10.mono hs45)|exact (hb5.trans (hb10.mono hs45)).drew⟩
   case measure=>first|(simp[intOf];omega)|simp[intOf]
theorem rcheck20_any (s:List Nd) (A:Option Addr) (cap:Nat) (w:World) (sm:SrcSm s) (h1:s.length≤cap) (h2:cap≤maxLen) (h:Nds w w.heap.size A s):
  Calls Tryz.prog 52 #[srcV s A cap] w fun r w'=>r= .returned (ftV (causeF s))∧Below w.heap.size w w':=by
 refine' zq13
 go_enter Tryz.func52,Tryz.ntmps52
 refine' zq110
 refine' zq108
 go_loopw[4] (fun i wr=>∃k:Nat,k≤s.length∧i= .int .i64 k∧Hid (∀j,j<k→∀x,s[j]? =some x→(cauNF j x).err=0)∧Below w4.heap.size w4 wr) (fun i _=>s.length-(intOf i).toNat)
 case atStart=>exact ⟨0,Nat.zero_le _,rfl,fun j h=>absurd h (by omega),Below.refl _ _⟩
 case round=>
  obtain ⟨k,hk,rfl,HK,hbr⟩:=hrel
  have rf:=rf4.below hbr rf4.lt
  have rs:=rs4.below hbr rs4.lt
  have c0:=rs.src
  refine' zq48
  go_upto_region 8 with (fail)
  clear d0 d1 d2 d3 d4 d5 d6 c0
  refine' zq60
  refine' zq118
  go_wp2_with fail
  go_loopw[6] (fun i wr=>∃p:Nat,p≤n.eqs.length∧i= .int .i64 p∧Hid (∀j,j<p→∀x,n.eqs[j]? =some x→(cauQF n j x).err=0)∧Below w6.heap.size w6 wr) (fun i _=>n.eqs.length-(intOf i).toNat)
  case atStart=>exact ⟨0,Nat.zero_le _,rfl,fun j h=>absurd h (by omega),Below.refl _ _⟩
  case round=>
   refine' zq116
   obtain ⟨c0,c1,cc2,c3,c4,c5,c6⟩:=rn7.nd
   refine' zq95
   have HA':=Lib.hid hA'
   refine' zq84
   have HE:Hid (∀W,Below wr.heap.size wr W→W.cell? ⟨b',off'+p*9,none⟩=some (.slice A1 q.left.length k1)∧W.cell? ⟨b',off'+p*9+7,none⟩=some (.int .i64 q.line)∧W.cell? ⟨b',off'+p*9+8,none⟩=some (.int .i64 q.col)):=fun W hW=>⟨old_cell hW d0,old_cell hW d7,old_cell hW d8⟩
   have HND:Hid (∀W,Below wr.heap.size wr W→(W.cell? ⟨wo.heap.size,0,none⟩=some (.string n.name)∧W.cell? ⟨wo.heap.size,1,none⟩=some (.slice a.ai n.ins.length a.ci)∧W.cell? ⟨wo.heap.size,2,none⟩=some (.slice a.ao n.outs.length a.co)∧W.cell? ⟨wo.heap.size,3,none⟩=some (.slice a.av n.vars.length a.cv)∧W.cell? ⟨wo.heap.size,4,none⟩=some (.slice (some ⟨b',off',none⟩) n.eqs.length a.cq)∧W.cell? ⟨wo.heap.size,5,none⟩=some (.int .i64 n.line)∧W.cell? ⟨wo.heap.size,6,none⟩=some (.int .i64 n.col))):=fun W hW=>by
    have h:=(rn7.below hW rn7.lt).nd
    rw[HA'.out] at h
    exact h
   rw[hA'] at c4
   clear hA' hq ok sl1 sl2 d0 d1 d2 d3 d4 d5 d6 d7 d8
   obtain ⟨wp,rfl⟩:∃wp:World,wp=wr:=⟨_,rfl⟩
   refine' zq121
   go_loopw[7] (fun i wr=>∃m:Nat,m≤q.left.length∧i= .int .i64 m∧Hid (∀j,j<m→∀x,q.left[j]? =some x→(cauF n q j x).err=0)∧Below wp.heap.size wp wr) (fun i _=>q.left.length-(intOf i).toNat)
   case atStart=>exact ⟨0,Nat.zero_le _,rfl,fun j h=>absurd h (by omega),Below.refl _ _⟩
   case round=>
    obtain ⟨m,hm,rfl,HM,hbm⟩:=hrel
    have hszm:=hbm.size
    have rf10:=rf7.below hbm rf7.lt
    have hB10:=hB7.trans (hbm.mono hsB7)
    have hsB10:=hB10.size
    obtain ⟨c0,c1,cc2,c3,c4,c5,c6⟩:=HND.out wr hbm
    obtain ⟨e0,e7,e8⟩:=HE.out wr hbm
    by_cases hlm:m<q.left.length
    rotate_left 1
    ·refine' zq228
     go_roundw
     case rel=>exact ⟨p+1,by omega,by go_num,HP',hbq.trans (hbm.mono hszq)⟩
     case measure=>first|(simp[intOf];omega)|simp[intOf]
    obtain ⟨bs,offs,x,hAs,hbs,hx,hsx,f0⟩:=(HS1.out wr hbm).str hlm
    subst hAs
    have HXL:=Lib.hid hx
    have i2:(0:Int)≤(m:Int):=by omega
    have i3:(m:Int)<(q.left.length:Int):=by omega
    obtain ⟨P,HPB⟩:∃P:Bool,Hid (cB (Hg (hangsF n) x x)=P):=⟨_,rfl⟩
    have HR:Hid (∀W,Below wr.heap.size wr W→Calls Tryz.prog 118 #[.agg #[.string n.name,.slice a.ai n.ins.length a.ci,.slice a.ao n.outs.length a.co,.slice a.av n.vars.length a.cv,.slice (some ⟨b',off',none⟩) n.eqs.length a.cq,.int .i64 n.line,.int .i64 n.col],.string x] W fun r w'=>r= .returned (.bool P)∧Below W.heap.size W w'):=fun W hW=>by
     rw[←HA'.out,←HPB.out]
     have hb:=hbm.trans (hW.mono hszm)
     exact rround_any n a x W HNS.out ((HAT.out W (b07.trans (hb.mono b07.size))).more (hB10.trans (hW.mono hsB10)).size) HV.out
    have HK14:Hid (∀W,Below wr.heap.size wr W→(W.cell? ⟨wo.heap.size,0,none⟩=some (.string n.name)∧W.cell? ⟨wo.heap.size,1,none⟩=some (.slice a.ai n.ins.length a.ci)∧W.cell? ⟨wo.heap.size,2,none⟩=some (.slice a.ao n.outs.length a.co)∧W.cell? ⟨wo.heap.size,3,none⟩=some (.slice a.av n.vars.length a.cv)∧W.cell? ⟨wo.heap.size,4,none⟩=some (.slice (some ⟨b',off',none⟩) n.eqs.length a.cq)∧W.cell? ⟨wo.heap.size,5,none⟩=some (.int .i64 n.line)∧W.cell? ⟨wo.heap.size,6,none⟩=some (.int .i64 n.col))∧W.cell? ⟨b',off'+p*9,none⟩=some (.slice (some ⟨bs,offs,none⟩) q.left.length k1)∧W.cell? ⟨bs,offs+m,none⟩=some (.string x)):=fun W hW=>⟨HND.out W (hbm.trans (hW.mono hszm)),(HE.out W (hbm.trans (hW.mono hszm))).1,old_cell hW f0⟩
    clear hx
    go_upto_region 14 with (fail)
    go_cut[54] (fun v54 W=>v54= .bool P∧Below wr.heap.size wr W)
    case first=>
     refine wp_region_held_drew (S:=fun W=>(W.cell? ⟨wo.heap.size,0,none⟩=some (.string n.name)∧W.cell? ⟨wo.heap.size,1,none⟩=some (.slice a.ai n.ins.length a.ci)∧W.cell? ⟨wo.heap.size,2,none⟩=some (.slice a.ao n.outs.length a.co)∧W.cell? ⟨wo.heap.size,3,none⟩=some (.slice a.av n.vars.length a.cv)∧W.cell? ⟨wo.heap.size,4,none⟩=some (.slice (some ⟨b',off',none⟩) n.eqs.length a.cq)∧W.cell? ⟨wo.heap.size,5,none⟩=some (.int .i64 n.line)∧W.cell? ⟨wo.heap.size,6,none⟩=some (.int .i64 n.col))∧W.cell? ⟨b',off'+p*9,none⟩=some (.slice (some ⟨bs,offs,none⟩) q.left.length k1)∧W.cell? ⟨bs,offs+m,none⟩=some (.string x)) (by kernel_rfl) ?_ (fun hHeld=>?_)
     ·(try dsimp only);(first|(with_reducible exact HK14.out _ bE)|exact hHeld|assumption|trivial)
     refine tk 0 (some 44) rfl ?_
     refine tk 1 (some 45) rfl ?_
     refine tk 2 (some 46) rfl ?_
     refine tk 3 (some 47) rfl ?_
     refine tk 4 (some 48) rfl ?_
     refine tk 5 (some 49) rfl ?_
     refine tk 6 (some 50) rfl ?_
     refine tk 7 (some 51) rfl ?_
     refine tk 8 (some 52) rfl ?_
     refine tk 9 (some 53) rfl ?_
     refine rd1 10 (some 54) rfl (fun KK hKK=>?_)
     go_simp
     go_at_call 118;refine Calls.mono (HR.out _ bE) ?_;rintro e w11 ⟨rfl,hb11⟩;(have hb12:Below wr.heap.size wr w11:=Below.trans bE (hb11.mono lE))
     (try go_wp2_with fail)
     refine hKK.out _ _ ?_ (fun hHeld=>?_)
     ·(try dsimp only);(first|(with_reducible exact HK14.out _ bE)|exact hHeld|assumption|trivial)
     clear hKK KK
     refine' zq6
     refine' zq155
     go_meet
     exact ⟨rfl,by first|exact hb12|exact hb12.drew⟩
    case rest=>
     obtain ⟨rfl,hbc⟩:=hcut
     have rf11:=rf10.below hbc rf10.lt
     have hB11:=hB10.trans (hbc.mono hsB10)
     have hbm':=hbm.trans (hbc.mono hszm)
     clear c0 c1 cc2 c3 c4 c5 c6 e0 e7 e8 f0
     cases P
     ·have hq:=cB_not.1 HPB.out
      have HM':=Lib.hid (step_uptoI (P:=fun j x=>(cauF n q j x).err=0) HM.out HXL.out (by rw[cauF_no hq]))
      clear hq
      go_wp2_with fail
      go_roundw
      case rel=>exact ⟨m+1,by omega,by go_num,HM',hbm'⟩
      case measure=>first|(simp[intOf];omega)|simp[intOf]
     ·refine' zq134
      obtain ⟨c0,c1,cc2,c3,c4,c5,c6⟩:=HND.out wc hbm'
      obtain ⟨e0,e7,e8⟩:=HE.out wc hbm'
      refine' zq157
end Go.Proofs.YtgjfkidbfmbjoaaGreat
