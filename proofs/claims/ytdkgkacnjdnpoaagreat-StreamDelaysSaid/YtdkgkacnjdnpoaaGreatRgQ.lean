/-
  The contracts of one change, and of stream.turn. The contract of stream.tick: what comes out, and what terms have behind it. A region that draws its order and ends in a store: what is held of the world need not be held behind that store.
-/
import Derived.Test.YtdkgkacnjdnpoaaGreatStrZ
import Derived.Test.YtdkgkacnjdnpoaaGreatMem
set_option maxHeartbeats 1000000
set_option maxRecDepth 100000
namespace Go.Proofs.YtdkgkacnjdnpoaaGreat
open Go.RowKit
attribute [local go_sem ↓] Go.wp_at_zero Go.wp_at_succ
theorem chg1_any {p q b:Nat} {v:Int} {e:Ex} {A:Option Addr} {cap:Nat} {pa:Value} {s:Bool × Int} {kc:Option Addr × Nat} (w:World) (hp:Row w p #[.pointer (some ⟨b,0,none⟩)] 114) (hq:Row w q #[.int .i64 v] 3) (hr:Row w b (tmA e A cap pa s kc) 158) (_hpb:p≠b) (_hqb:q≠b):
  Calls Tryz.prog 81 #[.pointer (some ⟨q,0,none⟩),.pointer (some ⟨p,0,none⟩)] w fun r w'=>r= .returned (.tuple #[])∧Chg w w' b v:=by
 have p0:w.cell? ⟨p,0,none⟩=some (.pointer (some ⟨b,0,none⟩)):=(hp.cell 0).trans rfl
 have q0:w.cell? ⟨q,0,none⟩=some (.int .i64 v):=(hq.cell 0).trans rfl
 have d9:w.cell? ⟨b,9,none⟩=some (.bool s.1):=(hr.cell 9).trans rfl
 have d10:w.cell? ⟨b,10,none⟩=some (.int .i64 s.2):=(hr.cell 10).trans rfl
 have f9:=hr.frozen 9
 have f10:=hr.frozen 10
 clear hp hq hr
 go_enter Tryz.func81,Tryz.ntmps81
 go_wp2_with fail
 go_region
 go_wp2_with fail
 refine bodyPost_end (results_none rfl _ _ _) rfl ?_
 exact ⟨rfl,chg_10.drew⟩
theorem allT_snoc {T:List Tm} {k:Nat} {t:Tm} (h:T[k]? =some t):allT (T.take k)++t.all=allT (T.take (k+1)):=by
 unfold allT
 rw[List.take_add_one,h]
 simp
theorem allT_le {T:List Tm} {k:Nat}:(allT (T.take k)).length≤(allT T).length:=by
 have h:=congrArg (fun l=>(allT l).length) (List.take_append_drop k T)
 unfold allT at h⊢
 simp only[List.map_append,List.flatten_append,List.length_append] at h
 omega
theorem allT_mem {T:List Tm} {t u:Tm} (h:t∈T) (hu:u∈t.all):u∈allT T:=List.mem_flatten.2 ⟨t.all,List.mem_map.2 ⟨t,h,rfl⟩,hu⟩
theorem turn_k {Q:StQ} {σ:Past} {w0:World} (hk:StK Q) (hC:Q.K<w0.heap.size∧Q.R<w0.heap.size∧Q.D<w0.heap.size) (hF:∀nm v,NI Q.n Q.T Q.row σ nm v→Q.F nm=v∧nm.size≤maxLen∧nm∈nms (vrs Q.n)) (HL:∀t∈allT Q.T,∃v,LI Q.n Q.T Q.row σ t v):
  EachK 1000000 78 #[.pointer (some ⟨w0.heap.size,0,none⟩),.pointer (some ⟨w0.heap.size+2,0,none⟩),.pointer (some ⟨w0.heap.size+1,0,none⟩)] σ Q.lo Q.hi (allT Q.T) (fun W l=>TuP Q σ w0.heap.size W l∧Upd (fun j=>j=Q.K∨w0.heap.size≤j) w0 W) where
 run:=enters_of Tryz.func78 (by kernel_rfl) rfl
 tm:=fun w l h t ht=>by
  obtain ⟨⟨L,cs,v,xs,h⟩,_⟩:=h
  exact h.st.at_ ht
 step:=fun w l t ht hl h=>by
  obtain ⟨v,hv⟩:=HL t ht
  refine Calls.mono (turn1_any hk hC ht (lp_of hk hF hv) hv w l (by omega) h.1) ?_
  rintro r w' ⟨h1,h2,h3,h4⟩
  exact ⟨h1,⟨h2,h.2.trans h4⟩,h3⟩
theorem turn_any {Q:StQ} {σ:Past} (hk:StK Q) (hF:∀nm v,NI Q.n Q.T Q.row σ nm v→Q.F nm=v∧nm.size≤maxLen∧nm∈nms (vrs Q.n)) (HL:∀t∈allT Q.T,∃v,LI Q.n Q.T Q.row σ t v) (hN:(allT Q.T).length≤1000000) (w:World) (L:List ByteArray) (h:StAt Q σ w L):
  Calls Tryz.prog 47 #[.pointer (some ⟨Q.R,0,none⟩),.pointer (some ⟨Q.D,0,none⟩),.slice none 0 0] w fun r w'=>(∃cs v xs,r= .returned v∧w'.ownsRow (w.heap.size+3) 1 1 v cs.length xs∧ChAt w' (w.heap.size+3) cs xs∧ChI Q.n Q.T Q.row σ (allT Q.T) cs)∧Upd (fun j=>j=Q.K) w w':=by
 obtain ⟨hlR,hlD,hlK⟩:=h.lt
 have HE:=Lib.hid (turn_k hk ⟨hlK,hlR,hlD⟩ hF HL)
 have b1:Below w.heap.size w (((w.alloc (.cells #[.pointer (some ⟨Q.R,0,none⟩)] 71)).alloc (.cells #[.pointer (some ⟨Q.D,0,none⟩)] 74)).alloc (.cells #[.slice none 0 0] 123)):=bE
 have HP:Hid (TuP Q σ w.heap.size (((w.alloc (.cells #[.pointer (some ⟨Q.R,0,none⟩)] 71)).alloc (.cells #[.pointer (some ⟨Q.D,0,none⟩)] 74)).alloc (.cells #[.slice none 0 0] 123)) []):=⟨L,[],.slice none 0 0,[],{
  st:=h.below hk b1
  r:=((Row.new w _ _).alloc _).alloc _
  d:=(rowNew2 w _ _ _).alloc _
  c:=rowNew3 w _ _ _ _
  own:=World.ownsRow_nil _ _ _ _
  at_:=⟨rfl,fun i c x hc _=>by simp at hc⟩
  is:= .nil}⟩
 have HU:Hid (Upd (fun j=>j=Q.K∨w.heap.size≤j) w (((w.alloc (.cells #[.pointer (some ⟨Q.R,0,none⟩)] 71)).alloc (.cells #[.pointer (some ⟨Q.D,0,none⟩)] 74)).alloc (.cells #[.slice none 0 0] 123))):=Upd.of_below b1
 have HQ:=Lib.hid hk
 have HLE:=Lib.hid hN
 clear h hF HL b1
 go_enter Tryz.func47,Tryz.ntmps47
 go_upto_region 1 with (fail)
 change Code.wp _ _ _ _ (((w.alloc (.cells #[.pointer (some ⟨Q.R,0,none⟩)] 71)).alloc (.cells #[.pointer (some ⟨Q.D,0,none⟩)] 74)).alloc (.cells #[.slice none 0 0] 123))
 generalize ((w.alloc (.cells #[.pointer (some ⟨Q.R,0,none⟩)] 71)).alloc (.cells #[.pointer (some ⟨Q.D,0,none⟩)] 74)).alloc (.cells #[.slice none 0 0] 123)=W1 at*
 obtain ⟨L1,cs1,v1,xs1,h1⟩:=HP.out
 have e1:W1.cell? ⟨w.heap.size+1,0,none⟩=some (.pointer (some ⟨Q.D,0,none⟩)):=(h1.d.cell 0).trans rfl
 have e9:W1.cell? ⟨Q.D,9,none⟩=some (.slice Q.Ae Q.T.length Q.ce):=(h1.st.rd.cell 9).trans rfl
 have hec:=hk.hec
 have hem:=hk.hem
 have hem':Q.ce≤9223372036854775807:=by unfold maxLen at hem;omega
 clear h1 hem hk
 go_wp2_with fail
 go_loopw[14] (fun i wr=>∃k:Nat,k≤Q.T.length∧i= .int .i64 k∧Hid (TuP Q σ w.heap.size wr (allT (Q.T.take k))∧Upd (fun j=>j=Q.K∨w.heap.size≤j) w wr)) (fun i _=>Q.T.length-(intOf i).toNat)
 case atStart=>exact ⟨0,Nat.zero_le _,rfl,HP.out,HU.out⟩
 case round=>
  clear HP HU
  obtain ⟨k,hk,rfl,HPk⟩:=hrel
  obtain ⟨L2,cs2,v2,xs2,h2⟩:=HPk.out.1
  by_cases hlt:k<Q.T.length
  rotate_left 1
  ·obtain rfl:k=Q.T.length:=by omega
   have c2:wr.cell? ⟨w.heap.size+2,0,none⟩=some v2:=(h2.c.cell 0).trans rfl
   have HFIN:Hid (∃cs v xs,v2=v∧wr.ownsRow (w.heap.size+3) 1 1 v cs.length xs∧ChAt wr (w.heap.size+3) cs xs∧ChI Q.n Q.T Q.row σ (allT Q.T) cs):=⟨cs2,v2,xs2,rfl,h2.own,h2.at_,by have:=h2.is;rwa [List.take_length] at this⟩
   have HUF:Hid (Upd (fun j=>j=Q.K) w wr):=HPk.out.2.only (fun j e hj=>by omega)
   obtain ⟨Av,cv,hv,-⟩:=own_rd h2.own
   subst hv
   clear h2 HPk
   go_wp2_with fail
   go_ret
   obtain ⟨cs,v,xs,rfl,g2⟩:=HFIN.out
   exact ⟨⟨cs,_,xs,rfl,g2⟩,HUF.out⟩
  obtain ⟨b,off,x,y,hA,hb,hx,hy,hc⟩:=h2.st.ep.at_ (k:=k) (by rw[List.length_map];exact hlt)
  obtain ⟨u,hu,hub⟩:∃u,Q.T[k]? =some u∧u.b=x:=by
   rw[List.getElem?_map,Option.map_eq_some_iff] at hx
   exact hx
  subst hub
  have hy':y=[.pointer (some ⟨u.b,0,none⟩)]:=hy
  subst hy'
  have hc0:wr.cell? ⟨b,off+k,none⟩=some (.pointer (some ⟨u.b,0,none⟩)):=by
   have:=hc 0 _ rfl
   rwa [Nat.mul_one,Nat.add_zero] at this
  have i0:(0:Int)≤(k:Int):=by omega
  have i1:(k:Int)<(Q.T.length:Int):=by omega
  have HC:=Lib.hid (each_any HE.out u (fun z hz=>allT_mem (List.mem_of_getElem? hu) hz) wr _ (by
   have:=allT_le (T:=Q.T) (k:=k+1)
   rw[←allT_snoc hu,List.length_append] at this
   have:=HLE.out
   omega) HPk.out)
  rw[allT_snoc hu] at HC
  rw[hA]
  clear hx hu hy hc h2 hb HPk
  go_wp2_with fail
  refine HC.out.mono ?_
  rintro r w2 ⟨rfl,hp2,-⟩
  have HP2:=Lib.hid hp2
  clear hp2 hc0
  go_wp2_with fail
  go_roundw
  case rel=>exact ⟨k+1,by omega,by go_num,HP2⟩
  case measure=>first|(simp[intOf];omega)|simp[intOf]
theorem NI.det {n:Nd} {T:List Tm} {row:List Int} {σ:Past} {nm:ByteArray} {v v':Int} (h:NI n T row σ nm v) (h':NI n T row σ nm v'):v=v':=by
 rcases h with ⟨i,hi,hr⟩|⟨hn,i,q,t,hq,hl,hj,ht,hv⟩
 ·rcases h' with ⟨i',hi',hr'⟩|⟨hn',_⟩
  ·have:(i:Nat)=i':=Int.ofNat.inj (hi.symm.trans hi')
   subst this
   rw[hr] at hr'
   exact Option.some.inj hr'
  ·exact absurd (idx_mem.1 (by omega)) hn'
 ·rcases h' with ⟨i',hi',_⟩|⟨_,i',q',t',hq',hl',hj',ht',hv'⟩
  ·exact absurd (idx_mem.1 (by omega)) hn
  ·have:=def_once hq hl hj hq' hl' hj'
   subst this
   rw[ht] at ht'
   cases ht'
   exact hv.det hv'
open Classical in
noncomputable def valF (n:Nd) (T:List Tm) (row:List Int) (σ:Past) (nm:ByteArray):Int:=if h:∃v,NI n T row σ nm v then Classical.choose h else 0
theorem valF_is {n:Nd} {T:List Tm} {row:List Int} {σ:Past} {nm:ByteArray} {v:Int} (h:NI n T row σ nm v):valF n T row σ nm=v:=by
 have h':∃v,NI n T row σ nm v:=⟨v,h⟩
 unfold valF
 rw[dif_pos h']
 exact (Classical.choose_spec h').det h
theorem valF_wf {n:Nd} {T:List Tm} {row:List Int} {σ:Past} (h:∀nm v,NI n T row σ nm v→Wf v) (nm:ByteArray):Wf (valF n T row σ nm):=by
 by_cases g:∃v,NI n T row σ nm v
 ·obtain ⟨v,hv⟩:=g
  rw[valF_is hv]
  exact h nm v hv
 ·unfold valF
  rw[dif_neg g]
  exact wf_of ⟨by decide,by decide⟩
theorem out_at {n:Nd} {T:List Tm} {row:List Int} {σ:Past} {l:List Vr} {os:List Int} (h:OutI n T row σ l os):os.length=l.length∧∀(k:Nat) x,l[k]? =some x→∃v,os[k]? =some v∧NI n T row σ x.name v:=by
 induction h with
 |nil=>exact ⟨rfl,fun k x hx=>by simp at hx⟩
 |cons hv _ ih=>
  refine ⟨by simp[ih.1],fun k x hx=>?_⟩
  cases k with
  |zero=>simp at hx;subst hx;exact ⟨_,rfl,hv⟩
  |succ k=>simpa using ih.2 k x (by simpa using hx)
theorem ch_at {n:Nd} {T:List Tm} {row:List Int} {σ:Past} {l:List Tm} {cs:List (Nat × Int)} (h:ChI n T row σ l cs) {k:Nat} {c:Nat × Int} (hc:cs[k]? =some c):∃t∈l,t.b=c.1:=by
 induction h generalizing k with
 |nil=>simp at hc
 |cons _ _ ih=>
  cases k with
  |zero=>simp at hc;subst hc;exact ⟨_,List.mem_cons_self,rfl⟩
  |succ k=>
   obtain ⟨t,ht,hb⟩:=ih (k:=k) (by simpa using hc)
   exact ⟨t,List.mem_cons_of_mem _ ht,hb⟩
theorem ch_det {n:Nd} {T:List Tm} {row:List Int} {σ:Past} {l:List Tm} {cs cs':List (Nat × Int)} (h:ChI n T row σ l cs) (h':ChI n T row σ l cs'):cs=cs':=by
 induction h generalizing cs' with
 |nil=>cases h';rfl
 |cons h1 _ ih=>cases h' with|cons h1' h2'=>rw[h1.det h1',ih h2']
theorem ch_all {n:Nd} {T:List Tm} {row:List Int} {σ:Past} {l:List Tm} {cs:List (Nat × Int)} (h:ChI n T row σ l cs):∀t∈l,∃v,LI n T row σ t v:=by
 induction h with
 |nil=>intro t ht;cases ht
 |cons h1 _ ih=>
  intro t ht
  rcases List.mem_cons.1 ht with rfl|ht
  ·exact ⟨_,h1⟩
  ·exact ih t ht
theorem take_set {σ:Past} {cs:List (Nat × Int)} {k:Nat} {c:Nat × Int} (h:cs[k]? =some c):(cs.take (k+1)).foldl setP σ=setP ((cs.take k).foldl setP σ) c:=by
 rw[List.take_add_one,h]
 simp
theorem tick_any {Q:RnQ} {σ σ':Past} {row os:List Int} {Ar:Option Addr} {cr:Nat} {kv:Value} (hk:RnK Q) (w:World) (h:RnAt Q σ w (.slice Ar row.length cr) kv) (hr1:row.length≤cr) (hr2:cr≤maxLen) (hr3:Sl w Q.N 1 isInt Ar row) (hT:TickI Q.n Q.T row σ os σ') (hwf:∀nm v,NI Q.n Q.T row σ nm v→Wf v∧nm.size≤maxLen∧nm∈nms (vrs Q.n)) (hN:(allT Q.T).length≤1000000):
  Calls Tryz.prog 24 #[.pointer (some ⟨Q.R,0,none⟩),.pointer (some ⟨Q.D,0,none⟩)] w fun r w'=>(∃v,r= .returned v∧w'.ownsRow w.heap.size 3 1 v os.length (ints os))∧(∃kv',RnAt Q σ' w' (.slice Ar row.length cr) kv')∧Upd (fun j=>j=Q.D∨(Q.lo≤j∧j<Q.hi)) w w':=by
 obtain ⟨hO,cs,hCI,rfl⟩:=hT
 obtain ⟨hol,hoa⟩:=out_at hO
 obtain ⟨j0,hj0,hy0,hy1,hy2⟩:=info_parts info_int
 have hlt:=h.lt
 have HFG:=Lib.hid (forget_any hk w h)
 have HQ:=Lib.hid hk
 have HOA:=Lib.hid hoa
 have HOL:=Lib.hid hol
 have HCI:=Lib.hid hCI
 have hF:∀nm v,NI Q.n Q.T row σ nm v→valF Q.n Q.T row σ nm=v∧nm.size≤maxLen∧nm∈nms (vrs Q.n):=fun nm v hv=>⟨valF_is hv,(hwf nm v hv).2⟩
 obtain ⟨SQ,hSQ⟩:∃SQ:StQ,SQ={n:=Q.n,a:=Q.a,T:=Q.T,row:=row,F:=valF Q.n Q.T row σ,B:=w.heap.size,lo:=Q.lo,hi:=Q.hi,R:=Q.R,D:=Q.D,K:=w.heap.size,As:=Q.As,Ar:=Ar,cr:=cr,Ae:=Q.Ae,ce:=Q.ce}:=⟨_,rfl⟩
 have hsk:StK SQ:=by
  subst hSQ
  have g1:=hk.hR
  have g2:=hk.hD
  have g3:=hk.lh
  exact {hR:=(by show Q.R≠w.heap.size;omega),hD:=(by show Q.D≠w.heap.size;omega),hB:=Nat.le_refl _,hi:=hlt,hrc:=hr1,hrm:=hr2,hec:=h.len.1,hem:=h.len.2,sm:=hk.sm,wf:=valF_wf fun nm v hv=>(hwf nm v hv).1}
 have HSA:Hid (∀W,RnAt Q σ W (.slice Ar row.length cr) (.map (some w.heap.size))→W.heap[w.heap.size]? =some (.map #[] 0)→Upd (fun j=>j=Q.D) w W→StAt SQ σ W []):=fun W g gm gu=>by
  subst hSQ
  have g1:=hk.ND
  have g2:=hk.hD
  have g3:=hk.lh
  have hb:Below Q.N w W:=Upd.below gu (fun k e=>by omega) (by omega)
  refine ⟨g.rr,?_,g.rd,g.nd.more (by show Q.N≤w.heap.size;omega),?_,g.tm,(mapi_made _ w).keep (gm.trans (heap_alloc_new w _).symm),fun x hx=>absurd hx List.not_mem_nil⟩
  ·exact (hr3.below hb).more (by show Q.N≤w.heap.size;omega)
  ·exact g.eps.keep (fun p u _ hc=>hide_cell hc) hlt (fun _ _ _ h=>h)
 have HV:Hid (∀W L nm v,StAt SQ σ W L→NI Q.n Q.T row σ nm v→Calls Tryz.prog 46 #[.pointer (some ⟨Q.R,0,none⟩),.pointer (some ⟨Q.D,0,none⟩),.string nm] W fun r W'=>r= .returned (.int .i64 v)∧(∃L',StAt SQ σ W' L')∧Upd (fun j=>j=w.heap.size) W W'):=fun W L nm v g hv=>by
  subst hSQ
  exact value_any hsk hF hv W L g
 have HTU:Hid (∀W L,StAt SQ σ W L→Calls Tryz.prog 47 #[.pointer (some ⟨Q.R,0,none⟩),.pointer (some ⟨Q.D,0,none⟩),.slice none 0 0] W fun r W'=>(∃cs v xs,r= .returned v∧W'.ownsRow (W.heap.size+3) 1 1 v cs.length xs∧ChAt W' (W.heap.size+3) cs xs∧ChI Q.n Q.T row σ (allT Q.T) cs)∧Upd (fun j=>j=w.heap.size) W W'):=fun W L g=>by
  subst hSQ
  exact turn_any hsk hF (ch_all hCI) hN W L g
 have HSN:Hid (∀W L,StAt SQ σ W L→NdAt W w.heap.size Q.n Q.a∧W.cell? ⟨Q.D,2,none⟩=some (.slice Q.a.ao Q.n.outs.length Q.a.co)):=fun W L g=>by
  subst hSQ
  exact ⟨g.nd,(g.rd.cell 2).trans rfl⟩
 have HSX:Hid (∀W W' L,StAt SQ σ W L→w.heap.size<W.heap.size→Below W.heap.size W W'→StAt SQ σ W' L):=fun W W' L g _ hb=>g.below hsk hb
 have HSU:Hid (∀W W' L X,StAt SQ σ W L→w.heap.size<W.heap.size→Upd X W W'→(∀j,X j→w.heap.size<j)→StAt SQ σ W' L):=fun W W' L X g hl hu hX=>by
  have g1:=hk.hR
  have g2:=hk.hD
  have g3:=hk.lh
  refine g.wide hsk (C:=w.heap.size+1) ?_ hu (fun j e=>hX j e) hl
  subst hSQ
  exact ⟨Nat.lt_succ_self _,by show Q.R<_;omega,by show Q.D<_;omega⟩
 have hF0:∀args w,(callFunc 81 args).run Tryz.prog w= .ok (.enter 81 args) w:=enters_of Tryz.func81 (by kernel_rfl) rfl
 clear hSQ hsk hF hwf hr3 h hoa hol hCI hO
 go_enter Tryz.func24,Tryz.ntmps24
 go_wp2_with fail
 refine HFG.out.mono ?_
 rintro r w1 ⟨rfl,h1,hm1,hu1,hl1⟩
 have hst1:=HSA.out w1 h1 hm1 hu1
 have H1:=Lib.hid h1
 have HU1:=Lib.hid hu1
 obtain ⟨hnd,q2⟩:=HSN.out w1 [] hst1
 have hco:=hnd.lo
 have hcm:=hnd.mo
 have hcm':Q.a.co≤9223372036854775807:=by unfold maxLen at hcm;omega
 have HS1:=Lib.hid hst1
 clear h1 hm1 hu1 hst1 hnd hcm HFG HSA
 go_wp2_with fail
 go_loopw[5,18] (fun v5 i wr=>∃(k:Nat) (v:Value),k≤Q.n.outs.length∧i= .int .i64 k∧v=v5∧Hid (wr.ownsRow w1.heap.size 3 1 v k (ints (os.take k)))∧Hid (∃L,StAt SQ σ wr L)∧Hid (Upd (fun j=>j=w.heap.size) w1 wr)) (fun _ i _=>Q.n.outs.length-(intOf i).toNat)
 case atStart=>exact ⟨0,_,Nat.zero_le _,rfl,rfl,World.ownsRow_nil _ _ _ _,⟨[],HS1.out⟩,Upd.refl _ _⟩
 case round=>
  clear HS1 q2
  obtain ⟨k,v,hk,rfl,rfl,HO,HS,HU⟩:=hrel
  obtain ⟨L,hst⟩:=HS.out
  have hsr:=HU.out.size
  by_cases hlt:k<Q.n.outs.length
  rotate_left 1
  ·obtain rfl:k=Q.n.outs.length:=by omega
   have HTT:=Lib.hid (HTU.out wr L hst)
   clear hst HV HS
   have HOF:Hid (wr.ownsRow w1.heap.size 3 1 v os.length (ints os)):=by
    have:=HO.out
    rw[←HOL.out,List.take_length] at this
    exact this
   go_wp2_with fail
   refine HTT.out.mono ?_
   rintro r w3 ⟨⟨cs',vc,xs,rfl,hown,hchs,hci⟩,hu3⟩
   obtain rfl:=ch_det HCI.out hci
   have hs3:=hu3.size
   have hhi:=H1.out.lt
   have hq1:=HQ.out.lh
   have HR3:=Lib.hid ((H1.out.upd HQ.out HU.out (fun j e=>by omega)).upd HQ.out hu3 (fun j e=>by omega))
   have HO3:=Lib.hid (own_updX HOF.out hu3 (fun j e=>by omega))
   have HU3:Hid (Upd (fun j=>j=Q.D∨(Q.lo≤j∧j<Q.hi)) w w3):=((HU1.out.mono (Y:=fun j=>j=Q.D∨j=w.heap.size) (fun j e=>Or.inl e)).trans ((HU.out.trans hu3).mono (fun j e=>Or.inr e))).only (fun j e hj=>by omega)
   have HCH:=Lib.hid hchs
   have HCO:=Lib.hid hown
   obtain ⟨Ac,cc,hvc,hc1,hc2,-⟩:=own_rd hown
   subst hvc
   have hc2':cc≤9223372036854775807:=by unfold maxLen at hc2;omega
   clear hown hchs hu3 hc2 HTT HU HO HOF HU1 H1 HTU HSN HSX HSU HOA
   go_wp2_with fail
   go_loopw[35] (fun i wr=>∃k:Nat,k≤cs.length∧i= .int .i64 k∧Hid (RnAt Q ((cs.take k).foldl setP σ) wr (.slice Ar row.length cr) (.map (some w.heap.size)))∧Hid (Upd (fun j=>Q.lo≤j∧j<Q.hi) w3 wr)) (fun i _=>cs.length-(intOf i).toNat)
   case atStart=>exact ⟨0,Nat.zero_le _,rfl,HR3.out,Upd.refl _ _⟩
   case round=>
    clear HR3
    obtain ⟨k,hk,rfl,HRk,HUk⟩:=hrel
    by_cases hlt2:k<cs.length
    rotate_left 1
    ·obtain rfl:k=cs.length:=by omega
     have HRF:=HRk.out
     rw[List.take_length] at HRF
     have HRF':=Lib.hid HRF
     have HOF:=Lib.hid (own_base (own_updX HO3.out HUk.out (fun j e=>by omega)) (show w.heap.size≤w1.heap.size by omega))
     have HUF:=Lib.hid (HU3.out.trans (HUk.out.mono (fun j e=>Or.inr e)))
     clear HRF HRk
     go_wp2_with fail
     go_ret
     exact ⟨⟨_,rfl,HOF.out⟩,⟨_,HRF'.out⟩,HUF.out⟩
    obtain ⟨c,hcs⟩:∃c,cs[k]? =some c:=⟨cs[k],List.getElem?_eq_getElem hlt2⟩
    have hoq:=own_updX HCO.out HUk.out (fun j e=>by omega)
    obtain ⟨A2,c2,hv2,-,-,hrd⟩:=own_rd hoq
    cases hv2
    obtain ⟨ad,u,rfl,hbl,hu,hcell⟩:=hrd.at1 hlt2
    obtain ⟨p,q,hp1,hq2,rfl,rp,rq⟩:=(HCH.out.upd HUk.out (fun j e=> .inl (by omega))).2 k c u hcs hu
    obtain ⟨t,ht,htb⟩:=ch_at HCI.out hcs
    obtain ⟨⟨l1,l2⟩,At,ct,pt,kt,rt,-⟩:=(HRk.out.at_ ht).row
    rw[htb] at rt l1 l2
    have HC:=Lib.hid (chg1_any wr rp rq rt (by omega) (by omega))
    have i0:(0:Int)≤(k:Int):=by omega
    have i1:(k:Int)<(cs.length:Int):=by omega
    have HTK:=Lib.hid (take_set (σ:=σ) hcs)
    have HNX:Hid (∀W,Chg wr W c.1 c.2→RnAt Q ((cs.take (k+1)).foldl setP σ) W (.slice Ar row.length cr) (.map (some w.heap.size))∧Upd (fun j=>Q.lo≤j∧j<Q.hi) w3 W):=fun W g=>by
     rw[HTK.out]
     exact ⟨HRk.out.chg HQ.out ht htb g,HUk.out.trans (g.upd.mono (fun j e=>by omega))⟩
    clear hoq hrd hu rp rq rt ht htb hcs HRk HTK
    go_wp2_with fail
    refine HC.out.mono ?_
    rintro r w5 ⟨rfl,hch⟩
    obtain ⟨g1,g2⟩:=HNX.out w5 hch
    have G1:=Lib.hid g1
    have G2:=Lib.hid g2
    clear hch g1 g2 hcell
    go_wp2_with fail
    go_roundw
    case rel=>exact ⟨k+1,by omega,by go_num,G1,G2⟩
    case measure=>first|(simp[intOf];omega)|simp[intOf]
  obtain ⟨b,off,x,A',cap',hA,hb,hxk,ok,g1,g2,hxs,d0,d1,d2,d3,d4⟩:=(HSN.out wr L hst).1.so.vr hlt
  obtain ⟨y,hy,hny⟩:=HOA.out k x hxk
  have HY:=Lib.hid hy
  have b2:Below wr.heap.size wr (wr.alloc (.cells (vrArr x A' cap') 103)):=bE
  have rx:=Row.new wr (vrArr x A' cap') 103
  have hst2:=HSX.out wr (wr.alloc (.cells (vrArr x A' cap') 103)) L hst (by omega) b2
  have HC:=Lib.hid (HV.out _ L x.name y hst2 hny)
  have HO2:=Lib.hid (HO.out.alloc (.cells (vrArr x A' cap') 103))
  have i0:(0:Int)≤(k:Int):=by omega
  have i1:(k:Int)<(Q.n.outs.length:Int):=by omega
  rw[hA]
  clear hxk hxs ok hy hny hst
  go_upto_region 6 with (fail)
  change Code.wp _ _ _ _ (wr.alloc (.cells (vrArr x A' cap') 103))
  clear d0 d1 d2 d3 d4
  have hs2:wr.heap.size+1≤(wr.alloc (.cells (vrArr x A' cap') 103)).heap.size:=by simp
  have HU2:=Lib.hid (HU.out.trans ((Upd.refl (fun j=>j=w.heap.size) wr).alloc (.cells (vrArr x A' cap') 103)))
  clear hst2 b2
  generalize wr.alloc (.cells (vrArr x A' cap') 103)=W2 at*
  obtain ⟨z0,z1,z2,z3,z4⟩:=rx.vr
  go_wp2_with fail
  refine HC.out.mono ?_
  rintro r w8 ⟨rfl,hst8,hu8⟩
  have HO8:=Lib.hid (own_updX HO2.out hu8 (fun j e=>by omega))
  have HU8:=Lib.hid (HU2.out.trans hu8)
  have hs8:=hu8.size
  have HTK:Hid (os.take (k+1)=os.take k++ [y]):=by
   show _=_
   rw[List.take_add_one,HY.out]
   rfl
  have hoo:=HOL.out
  obtain ⟨L8,hst8⟩:=hst8
  have HSU8:=Lib.hid (fun W X (hu:Upd X w8 W) (hX:∀j,X j→w.heap.size<j)=>HSU.out w8 W L8 X hst8 (by omega) hu hX)
  have hout:=HQ.out.sm.outs
  clear hst8 hu8 z0 z1 z2 z3 z4 rx HC HO2
  go_wp2_with (at_builtin;refine wpList_append_any _ rfl _ _ 34 rfl w1.heap.size 3 j0 (.int .i64 0) 1 8 Tryz.underlying34 hj0 hy0 hy1 hy2 rfl (by decide) _ _ _ rfl (HO8.out.alloc _) ⟨_,0,none⟩ 1 1 [.int .i64 y] rfl rfl (cells_new5 _ _ _) (by intro u hu;simp at hu;subst hu;rfl) (by unfold maxLen;omega) (by omega) (by first|omega|(simp;omega)|simp) ?_)
  intro v13 w13 hown13 hg13 _
  have u13:Upd (fun j=>v.ownBlock=some j) w8 w13:=(Upd.of_below (bE:Below w8.heap.size w8 (w8.alloc (.cells #[.int .i64 y] 3)))).trans ⟨hg13.os,hg13.tape,hg13.output,hg13.size,fun j hj hX=>hg13.block j hj (fun e=>hX e.symm)⟩
  have HO13:Hid (w13.ownsRow w1.heap.size 3 1 v13 (k+1) (ints (os.take (k+1)))):=by
   show World.ownsRow _ _ _ _ _ _ _
   rw[HTK.out,ints_snoc]
   exact hown13
  have HS13:Hid (∃L,StAt SQ σ w13 L):=⟨L8,HSU8.out w13 _ u13 (fun j e=>by have:=(own_row HO8.out j e).1;omega)⟩
  have HU13:Hid (Upd (fun j=>j=w.heap.size) w1 w13):=((HU8.out.mono (Y:=fun j=>j=w.heap.size∨v.ownBlock=some j) (fun j e=>Or.inl e)).trans (u13.mono (fun j e=>Or.inr e))).only (fun j e hj=>by
   rcases e with e|e
   ·exact e
   ·have:=(own_row HO8.out j e).1;omega)
  clear hown13 hg13 u13 HSU8
  go_wp2_with fail
  go_roundw
  case rel=>exact ⟨k+1,_,by omega,by go_num,rfl,HO13,HS13,HU13⟩
  case measure=>first|(simp[intOf];omega)|simp[intOf]
section
variable {P:Program} {ops:Array Oper} {Q:Exit→Act→World→Prop} {md:Region.Mode} {S:World→Prop} {s:Nat}
def wpAnyL (P:Program) (md:Region.Mode) (ops:Array Oper) (Q:Exit→Act→World→Prop) (S:World→Prop) (s:Nat):Nat→Array Bool→Act→World→Prop
 |0,listed,a,w=>Region.ready md ops listed=[]∧Q .normal a w
 |fuel+1,listed,a,w=>
  (Region.ready md ops listed=[]→Q .normal a w)∧
  ∀i∈Region.ready md ops listed,wpOp P ops Q i (fun a' w'=>(i≠s→S w')∧wpAnyL P md ops Q S s fuel (listed.setIfInBounds i true) a' w') a w
theorem wpAny_of_L:∀(fuel:Nat) (listed:Array Bool) (a:Act) (w:World),wpAnyL P md ops Q S s fuel listed a w→wpAny P md ops Q fuel listed a w
 |0,_,_,_,h=>h
 |fuel+1,_,_,_,h=>⟨h.1,fun i hi=>wpOp_mono (fun a' w' h'=>wpAny_of_L fuel _ a' w' h'.2) (h.2 i hi)⟩
def lastOp (md:Region.Mode) (ops:Array Oper) (s i:Nat):Bool:=
 match ops[s]? with
 |none=>false
 |some o=>o.after.any fun e=>Region.binds md e && e.on==i
theorem last_not {i:Nat} (hl:lastOp md ops s i=true) {listed:Array Bool} (hi:i∈Region.ready md ops listed):s∉Region.ready md ops listed:=fun hs=>by
 obtain ⟨hi0,oi,hoi,_⟩:=mem_ready.1 hi
 obtain ⟨_,o,ho,hall⟩:=mem_ready.1 hs
 unfold lastOp at hl
 rw[ho] at hl
 dsimp only at hl
 rw[Array.any_eq_true'] at hl
 obtain ⟨ed,hed,hb⟩:=hl
 rw[Bool.and_eq_true] at hb
 have h2:=hall ed hed hb.1
 have hon:ed.on=i:=by simpa using hb.2
 rw[hon] at h2
 rcases Nat.lt_or_ge i listed.size with h'|h'
 ·simp[h'] at hi0 h2;rw[hi0] at h2;cases h2
 ·simp[Array.getElem?_eq_none h'] at h2
theorem wpAnyL_first {i:Nat} {oi:Oper} {v:Value} (hl:lastOp md ops s i=true) (hi:ops[i]? =some oi) (hsel:∀(j:Nat) (o:Oper) cs b,ops[j]? =some o→o.op≠ .select cs b)
  (hQ:∀c a w,Q (.panic c) (a.put oi.dst v) w→Q (.panic c) a w):
  ∀(fuel:Nat) (listed:Array Bool) (a:Act) (w:World),
   (∀j oj,ops[j]? =some oj→j≠i→listed.getD j true=false→(∀e∈oj.after,Region.binds md e=true→e.on≠i)→oi.apart ops oj=true)→
   i∈Region.ready md ops listed→YieldsIf P ops S oi v a→S w→
   wpAnyL P md ops Q S s fuel (listed.setIfInBounds i true) (a.put oi.dst v) w→wpAnyL P md ops Q S s (fuel+1) listed a w:=by
 intro fuel
 induction fuel with
 |zero=>
  intro listed a w _ hr hy hS H
  refine ⟨fun h=>(by rw[h] at hr;cases hr),fun j hj=>?_⟩
  by_cases hji:j=i
  ·subst hji;exact hy.wpOp hi hS ⟨fun _=>hS,H⟩
  ·have:=ready_mono hj hji
   rw[H.1] at this
   cases this
 |succ fuel ih=>
  intro listed a w hfree hr hy hS H
  refine ⟨fun h=>(by rw[h] at hr;cases hr),fun j hj=>?_⟩
  by_cases hji:j=i
  ·subst hji;exact hy.wpOp hi hS ⟨fun _=>hS,H⟩
  ·have hjs:j≠s:=fun e=>last_not hl hr (e▸hj)
   have h1:=H.2 j (ready_mono hj hji)
   obtain ⟨hjun,oj,hoj,hall⟩:=mem_ready.1 hj
   have hnot:∀e∈oj.after,Region.binds md e=true→e.on≠i:=fun e he hb heq=>by
    have h1:=hall e he hb
    have h0:=(mem_ready.1 hr).1
    rw[heq] at h1
    rcases Nat.lt_or_ge i listed.size with h'|h'
    ·simp[h'] at h0 h1;rw[h0] at h1;cases h1
    ·simp[Array.getElem?_eq_none h'] at h1
   have h2:=wpOp_putIf hoj (hfree j oj hoj hji hjun hnot) (fun cs b=>hsel i oi cs b hi) (fun cs b=>hsel j oj cs b hoj) hQ hy h1
   have hfree':∀k ok,ops[k]? =some ok→k≠i→(listed.setIfInBounds j true).getD k true=false→
     (∀e∈ok.after,Region.binds md e=true→e.on≠i)→oi.apart ops ok=true:=fun k ok hk hki hun hno=>by
    refine hfree k ok hk hki ?_ hno
    by_cases hjk:j=k
    ·subst hjk;exact hjun
    ·rw[getD_set_ne true hjk] at hun;exact hun
   refine wpOp_mono (fun a' w' h3=>⟨h3.2.1,ih (listed.setIfInBounds j true) a' w' hfree' (ready_mono hr (Ne.symm hji)) h3.1 (h3.2.1 hjs) ?_⟩) h2
   rw[Array.setIfInBounds_comm _ _ hji]
   exact h3.2.2
theorem wpAnyL_done {listed:Array Bool} {a:Act} {w:World} (hr:Region.ready md ops listed=[]) (h:Q .normal a w):∀fuel,wpAnyL P md ops Q S s fuel listed a w
 |0=>⟨hr,h⟩
 |_+1=>⟨fun _=>h,by rw[hr];simp⟩
theorem wp_region_L (s:Nat) {id:Nat} {a:Act} {w:World} (hm:P.follows .mixedOrders=true) (hS:S w.drew) (h:S w.drew→wpAnyL P .any ops Q S s ops.size (Array.replicate ops.size false) a w.drew):(Code.region id ops true).wp P Q a w:=
 wp_region_any hm (wpAny_of_L _ _ _ _ (h hS))
variable {fuel:Nat} {listed:Array Bool} {a a':Act} {w:World} {v:Value} {o:Op} {ty:TypeId} {pos:String} {af:Array Edge} {g:Option (Nat × Bool)}
theorem tkL (i:Nat) (d:Option Tmp) (hi:ops[i]? =some {dst:=d,op:=o,type:=ty,pos:=pos,after:=af,guard:=g}) (h:wpAnyL P md ops Q S s fuel (listed.setIfInBounds i true) a' w)
  (hl:lastOp md ops s i=true:=by kernel_rfl)
  (hs:Region.noSelect ops=true:=by kernel_rfl) (hf:Region.free md ops listed i=true:=by kernel_rfl) (hr:(Region.ready md ops listed).contains i=true:=by kernel_rfl)
  (hw:Region.wanted {dst:=d,op:=o,type:=ty,pos:=pos,after:=af,guard:=g} (yielded ops a.tmps)=true:=by kernel_rfl)
  (hy:∀w,S w→(execOp a.eval {dst:=d,op:=o,type:=ty,pos:=pos,after:=af,guard:=g}).run P w= .ok (.value v) w:=by intro w hSw;(try dsimp only at hSw);go_simp;(try with_reducible rfl))
  (hQ:∀c a w,Q (.panic c) (a.put d v) w→Q (.panic c) a w:=by exact fun _ _ _ h=>h)
  (hS:S w:=by first|assumption|trivial)
  (ha:a.put d v=a':=by (try simp only[Act.put,List.setIfInBounds_toArray,List.set_cons_zero,List.set_cons_succ]);(try exact rfl)):wpAnyL P md ops Q S s (fuel+1) listed a w:=by
 subst ha
 exact wpAnyL_first hl hi (Region.noSelect_spec hs) hQ fuel listed a w (Region.free_spec hi hf) (by simpa using hr) (.inl ⟨hw,hy⟩) hS h
theorem rdL (i:Nat) (d:Option Tmp) (hi:ops[i]? =some {dst:=d,op:=o,type:=ty,pos:=pos,after:=af,guard:=g})
  (h:∀K':Act→World→Prop,Shut (∀a w,S w→(S w→wpAnyL P md ops Q S s fuel (listed.setIfInBounds i true) a w)→K' a w)→if Region.wanted {dst:=d,op:=o,type:=ty,pos:=pos,after:=af,guard:=g} (yielded ops a.tmps)=true then Oper.wp P {dst:=d,op:=o,type:=ty,pos:=pos,after:=af,guard:=g} a w K' Q else K' (a.put d undef) w)
  (hr:Region.ready md ops listed=[i]:=by kernel_rfl):wpAnyL P md ops Q S s (fuel+1) listed a w:=
 ⟨fun h0=>(by rw[hr] at h0;cases h0),fun j hj=>by
  rw[hr] at hj
  obtain rfl:=List.mem_singleton.1 hj
  exact wpOp_step hi (fun K' hK=>h K' (fun a w hS hW=>hK a w ⟨fun _=>hS,hW hS⟩))⟩
theorem rdE (d:Option Tmp) (hi:ops[s]? =some {dst:=d,op:=o,type:=ty,pos:=pos,after:=af,guard:=g})
  (h:∀K':Act→World→Prop,Shut (∀a w,wpAnyL P md ops Q S s fuel (listed.setIfInBounds s true) a w→K' a w)→if Region.wanted {dst:=d,op:=o,type:=ty,pos:=pos,after:=af,guard:=g} (yielded ops a.tmps)=true then Oper.wp P {dst:=d,op:=o,type:=ty,pos:=pos,after:=af,guard:=g} a w K' Q else K' (a.put d undef) w)
  (hr:Region.ready md ops listed=[s]:=by kernel_rfl):wpAnyL P md ops Q S s (fuel+1) listed a w:=
 ⟨fun h0=>(by rw[hr] at h0;cases h0),fun j hj=>by
  rw[hr] at hj
  obtain rfl:=List.mem_singleton.1 hj
  exact wpOp_step hi (fun K' hK=>h K' (fun a w hW=>hK a w ⟨fun g=>absurd rfl g,hW⟩))⟩
end
end Go.Proofs.YtdkgkacnjdnpoaaGreat
