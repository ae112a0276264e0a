/-
  The contract of stream.begin, of a node without calls and clocks.
-/
import Derived.Test.YtdkgkacnjdnpoaaGreatRgQ
import Derived.Test.YtdkgkacnjdnpoaaGreatFndB
import Derived.Test.YtdkgkacnjdnpoaaGreatCauD
import Derived.Deep.DeepCutAuto
set_option maxHeartbeats 4000000
set_option maxRecDepth 100000
namespace Go.Proofs.YtdkgkacnjdnpoaaGreat
open Go.RowKit
attribute [local go_sem ↓] Go.wp_at_zero Go.wp_at_succ
abbrev dnC (n:Nd) (a:NdA) (v kv:Value):Array Value:= #[.string n.name,.slice a.ai n.ins.length a.ci,.slice a.ao n.outs.length a.co,.slice a.av n.vars.length a.cv,.slice a.aq n.eqs.length a.cq,.int .i64 n.line,.int .i64 n.col,.pointer none,.pointer none,v,kv]
abbrev ptrV (t:Tm):Value:= .pointer (some ⟨t.b,0,none⟩)
theorem row_ty {w:World} {b:Nat} {a a':Array Value} {t t':TypeId} (h:Row w b a t) (h':Row w b a' t'):t=t':=by
 have:=h.symm.trans h'
 injection this with this
 injection this
structure BgI (n:Nd) (D:Nat) (W:World) (k:Nat) (v:Value) (T:List Tm):Prop where
 len:T.length=k
 own:W.ownsRow (D+1) 114 1 v k (T.map ptrV)
 is:∀(i:Nat) t,T[i]? =some t→∃q,n.eqs[i]? =some q∧t.is q.right
 tm:∀t∈T,∃lo hi,D+1≤lo∧hi≤W.heap.size∧TmAt σ0 W lo hi t∧∀g,v.ownBlock=some g→g<lo∨hi≤g
section
variable {n:Nd} {D k:Nat} {W w7 w9 w10:World} {v v':Value} {T:List Tm}
theorem BgI.below (h:BgI n D W k v T) (hb:Below W.heap.size W w7):BgI n D w7 k v T:=
 ⟨h.len,own_below h.own hb,h.is,fun t ht=>by
  obtain ⟨lo,hi,h1,h2,h3,h4⟩:=h.tm t ht
  exact ⟨lo,hi,h1,Nat.le_trans h2 hb.size,TmAt.upd (Upd.of_below (X:=fun _=>False) hb) (fun j e=>e.elim) h2 h3,h4⟩⟩
theorem BgI.snoc {t:Tm} {q:Eqn} {lo:Nat} (h:BgI n D w7 k v T) (ht:TmAt σ0 w7 lo w7.heap.size t) (hlo:D+1≤lo) (hv:∀g,v.ownBlock=some g→g<lo) (hq:n.eqs[k]? =some q) (his:t.is q.right) (hown:w9.ownsRow (D+1) 114 1 v' (k+1) (T.map ptrV++ [ptrV t]))
  (ug:Upd (fun j=>v.ownBlock=some j∨w7.heap.size≤j) w7 w9) (hb:v'.ownBlock=v.ownBlock∨∃g,v'.ownBlock=some g∧w7.heap.size≤g) (u10:Upd (fun j=>j=D) w9 w10):BgI n D w10 (k+1) v' (T++ [t]):=by
 have hsz:=ug.size
 have hsz2:=u10.size
 refine ⟨by simp[h.len],?_,?_,?_⟩
 ·rw[List.map_append]
  exact own_updX hown u10 (fun j e=>by omega)
 ·intro i t' hi
  by_cases g:i<T.length
  ·rw[List.getElem?_append_left g] at hi
   exact h.is i t' hi
  ·rw[List.getElem?_append_right (by omega)] at hi
   have h0:i-T.length=0:=by
    have:=(List.getElem?_eq_some_iff.1 hi).1
    simp at this
    omega
   rw[h0] at hi
   simp at hi
   subst hi
   exact ⟨q,by rw[show i=k by have:=h.len;omega];exact hq,his⟩
 ·intro t' ht'
  rcases List.mem_append.1 ht' with g|g
  ·obtain ⟨l,hi,h1,h2,h3,h4⟩:=h.tm t' g
   refine ⟨l,hi,h1,by omega,TmAt.upd u10 (fun j e=>by omega) (by omega) (TmAt.upd ug (fun j e=>by
    rcases e with e|e
    ·exact h4 j e
    ·omega) h2 h3),fun g' hg'=>?_⟩
   rcases hb with e|⟨g2,e,h5⟩
   ·exact h4 g' (by rw[←e];exact hg')
   ·rw[e] at hg';injection hg';omega
  ·rw[List.mem_singleton] at g
   subst g
   refine ⟨lo,w7.heap.size,hlo,by omega,TmAt.upd u10 (fun j e=>by omega) (by omega) (TmAt.upd ug (fun j e=>by
    rcases e with e|e
    ·exact .inl (hv j e)
    ·exact .inr e) (Nat.le_refl _) ht),fun g' hg'=>?_⟩
   rcases hb with e|⟨g2,e,h5⟩
   ·exact .inl (hv g' (by rw[←e];exact hg'))
   ·rw[e] at hg';injection hg';omega
theorem BgI.done {a:NdA} {N R:Nat} {As rv:Value} {A:Option Addr} {c:Nat} (h:BgI n D W n.eqs.length (.slice A n.eqs.length c) T) (hN:N≤R) (hR:R<D) (sm:NdSm n) (rr:Row W R #[As,rv] 73) (rd:Row W D (dnC n a (.slice A n.eqs.length c) (.map none)) 117) (nd:NdAt W N n a):
  ∃Q:RnQ,Q.D=D∧Q.n=n∧Q.N=N∧Q.R=R∧Q.As=As∧RnK Q∧RnAt Q σ0 W rv (.map none)∧TsIs n Q.T:=by
 have hl:=rd.lt
 have hlen:=h.len
 have hA:RnAt {n:=n,a:=a,T:=T,N:=N,lo:=D+1,hi:=W.heap.size,R:=R,D:=D,As:=As,Ae:=A,ce:=c} σ0 W rv (.map none):={
  rr:=rr
  rd:=by
   show Row W D (dnB n a A T.length c (.map none)) _
   rw[hlen]
   exact rd
  nd:=nd
  ep:=by
   have h1:=h.own
   rw[←hlen] at h1
   have h2:T.map ptrV=(T.map Tm.b).map (fun b=>Value.pointer (some ⟨b,0,none⟩)):=by rw[List.map_map];rfl
   rw[h2] at h1
   have h3:=own_ptrs (l:=T.map Tm.b) (lo:=D+1) (by rw[List.length_map];exact h1) (Nat.le_refl _)
   rw[hlen]
   rw[hlen] at h3
   exact h3
  tm:=fun t ht=>by
   obtain ⟨lo,hi,h1,h2,h3,_⟩:=h.tm t ht
   exact h3.wide h1 h2
  lt:=Nat.le_refl _}
 refine ⟨_,rfl,rfl,rfl,rfl,rfl,⟨hN,by show N≤D;omega,by show R<D+1;omega,Nat.lt_succ_self _,by show R≠D;omega,by show D+1≤W.heap.size;omega,sm⟩,hA,⟨hlen,fun i t q ht hq=>?_,hA.far⟩⟩
 obtain ⟨q',hq',his⟩:=h.is i t ht
 rw[hq] at hq'
 cases hq'
 exact his
end
theorem begin_any {s:List Nd} {n:Nd} {A:Option Addr} {cap R N:Nat} {rv:Value} (w:World) (sm:SrcSm s) (h1:s.length≤cap) (h2:cap≤maxLen) (hN:N≤R) (h:Nds w N A s) (hR:Row w R #[.slice A s.length cap,rv] 73) (hn:nodeAt s mainNm=some n) (hmem:mainNm∈s.map Nd.name) (hc:NoClk n) (hq:∀q∈n.eqs,∃nm,q.left=[nm]∧Sh q.right):
  Calls Tryz.prog 23 #[.pointer (some ⟨R,0,none⟩),.string mainNm,.pointer none,.pointer none] w fun r w'=>(∃Q:RnQ,r= .returned (.pointer (some ⟨Q.D,0,none⟩))∧Q.n=n∧Q.N=N∧Q.R=R∧Q.As= .slice A s.length cap∧RnK Q∧RnAt Q σ0 w' rv (.map none)∧TsIs n Q.T)∧Below w.heap.size w w':=by
 obtain ⟨i0,hi0,hz0,hz1,hz2⟩:=info_parts info_ptr
 have hRl:=hR.lt
 have HFD:=Lib.hid (find_anyB N s s.length A cap mainNm w rfl h1 h2 (by omega) h)
 have HSM:Hid (NdSm n):=sm.all n (List.mem_of_find?_eq_some hn)
 have c0:w.cell? ⟨R,0,none⟩=some (.slice A s.length cap):=(hR.cell 0).trans rfl
 have HMN:=Lib.hid hn
 have HQ:=Lib.hid hq
 have HC:=Lib.hid hc
 have HM:=Lib.hid hmem
 have HRR:=Lib.hid hR
 clear h sm hn hq hc hmem
 go_enter Tryz.func23,Tryz.ntmps23
 go_wp2_with fail
 refine HFD.out.mono ?_
 rintro r w2 ⟨⟨m,a,rfl,hm1,-⟩,hb2⟩
 obtain ⟨hma,hat⟩:=hm1.out HM.out
 rw[HMN.out] at hma
 cases hma
 have hs2:=hb2.size
 have b3:Below w2.heap.size w2 ((w2.alloc (.cells (ndArr n a) 58)).alloc (.cells (dnC n a (.slice none 0 0) (.map none)) 117)):=bE
 have rn:=(Row.new w2 (ndArr n a) 58).alloc (.cells (dnC n a (.slice none 0 0) (.map none)) 117)
 have rd:=rowNew2 w2 (.cells (ndArr n a) 58) (dnC n a (.slice none 0 0) (.map none)) 117
 have HAT:=Lib.hid hat
 have HB2:=Lib.hid hb2
 clear hat hm1 hb2 HFD c0
 go_upto_region 3 with (fail)
 change Code.wp _ _ _ _ ((w2.alloc (.cells (ndArr n a) 58)).alloc (.cells (dnC n a (.slice none 0 0) (.map none)) 117))
 have hs3:w2.heap.size+2≤((w2.alloc (.cells (ndArr n a) 58)).alloc (.cells (dnC n a (.slice none 0 0) (.map none)) 117)).heap.size:=by simp
 generalize (w2.alloc (.cells (ndArr n a) 58)).alloc (.cells (dnC n a (.slice none 0 0) (.map none)) 117)=W3 at*
 have hmq:=HAT.out.mq
 have hlq:=HAT.out.lq
 have hne:=HSM.out.eqs
 have hmq':a.cq≤9223372036854775807:=by unfold maxLen at hmq;omega
 have q4:W3.cell? ⟨w2.heap.size,4,none⟩=some (.slice a.aq n.eqs.length a.cq):=(rn.cell 4).trans rfl
 have HI:Hid (BgI n (w2.heap.size+1) W3 0 (.slice none 0 0) []):=⟨rfl,World.ownsRow_nil _ _ _ _,fun i t ht=>by simp at ht,fun t ht=>absurd ht List.not_mem_nil⟩
 have HB3:=Lib.hid b3
 clear b3
 go_wp2_with fail
 go_loopw[33] (fun i wr=>∃(k:Nat) (v:Value) (T:List Tm),k≤n.eqs.length∧i= .int .i64 k∧Hid (BgI n (w2.heap.size+1) wr k v T)∧Row wr (w2.heap.size+1) (dnC n a v (.map none)) 117∧Row wr w2.heap.size (ndArr n a) 58∧Hid (Below w2.heap.size w2 wr)) (fun i _=>n.eqs.length-(intOf i).toNat)
 case atStart=>exact ⟨0,_,[],Nat.zero_le _,rfl,HI,rd,rn,HB3⟩
 case round=>
  clear HI rd rn HB3 q4
  obtain ⟨k,v,T,hk,rfl,HI,rd,rn,HB⟩:=hrel
  have hsr:=HB.out.size
  have hdl:=rd.lt
  by_cases hlt:k<n.eqs.length
  rotate_left 1
  ·obtain rfl:k=n.eqs.length:=by omega
   obtain ⟨Av,cv,rfl,-⟩:=own_rd HI.out.own
   have hBw:Below w.heap.size w wr:=HB2.out.trans (HB.out.mono hs2)
   have HFIN:=Lib.hid (HI.out.done (N:=N) (R:=R) (As:= .slice A s.length cap) (rv:=rv) hN (by omega) HSM.out (HRR.out.below hBw hRl) rd (HAT.out.below (HB.out.mono (by omega))))
   have HBW:=Lib.hid hBw
   clear rd rn HI hBw
   go_wp2_with fail
   go_ret
   obtain ⟨Q,e1,e2⟩:=HFIN.out
   exact ⟨⟨Q,by rw[e1];rfl,e2⟩,HBW.out⟩
  obtain ⟨Av,cv,rfl,-⟩:=own_rd HI.out.own
  have hgb:Hid (∀g,(Value.slice Av k cv).ownBlock=some g→w2.heap.size+2≤g∧g<wr.heap.size):=fun g hg=>HI.out.own.lt g hg
  have hBN:Below N w2 wr:=HB.out.mono (by omega)
  obtain ⟨b,off,q,A1,k1,A2,k2,hA,hb,hqk,okq,l1,m1,s1,l2,m2,s2,d0,d1,d2,d3,d4,d5,d6,d7,d8⟩:=(HAT.out.below hBN).sq.eqn hlt
  obtain ⟨nm,hleft,hsh⟩:=HQ.out q (List.mem_of_getElem? hqk)
  have hl1:0<q.left.length:=by rw[hleft];simp
  obtain ⟨bs,offs,x0,hA1,hbs,hx0,hsx,e0⟩:=s1.str (k:=0) (by omega)
  have hx0':x0=nm:=by
   rw[hleft] at hx0
   simpa using hx0.symm
  subst hx0'
  subst hA1
  clear hleft hx0
  have re:=Row.new wr (eqArr q (some ⟨bs,offs,none⟩) k1 A2 k2) 65
  have bq:Below wr.heap.size wr (wr.alloc (.cells (eqArr q (some ⟨bs,offs,none⟩) k1 A2 k2) 65)):=bE
  rw[hA]
  have HA:=Lib.hid hA
  clear hA
  have i0':(0:Int)≤(k:Int):=by omega
  have i1':(k:Int)<(n.eqs.length:Int):=by omega
  go_upto_region 6 with (fail)
  change Code.wp _ _ _ _ (wr.alloc (.cells (eqArr q (some ⟨bs,offs,none⟩) k1 A2 k2) 65))
  clear d0 d1 d2 d3 d4 d5 d6 d7 d8
  have hs5:wr.heap.size+1≤(wr.alloc (.cells (eqArr q (some ⟨bs,offs,none⟩) k1 A2 k2) 65)).heap.size:=by simp
  have hE:wr.heap.size<(wr.alloc (.cells (eqArr q (some ⟨bs,offs,none⟩) k1 A2 k2) 65)).heap.size:=by omega
  generalize wr.alloc (.cells (eqArr q (some ⟨bs,offs,none⟩) k1 A2 k2) 65)=W5 at*
  have rn5:=rn.below bq rn.lt
  have rd5:=rd.below bq rd.lt
  have e5:W5.cell? ⟨bs,offs,none⟩=some (.string x0):=keeps_of (bq.mono (show N≤wr.heap.size by omega)) _ _ hbs (by simpa using e0)
  have HI5:=Lib.hid (HI.out.below bq)
  have HB5:=Lib.hid (HB.out.trans (bq.mono hsr))
  have HN5:Hid (∀W,Below W5.heap.size W5 W→NdAt W W.heap.size n a):=fun W hW=>(HAT.out.below (HB5.out.mono (by omega)|>.trans (hW.mono (by omega)))).more (by have:=hW.size;omega)
  have HX2:Hid (∀W,Below W5.heap.size W5 W→IsExs W N A2 q.right.args):=fun W hW=>exs_keep s2 (keeps_of ((bq.mono (by omega)).trans (hW.mono (by omega)))) (Nat.le_refl _)
  have HOK:=Lib.hid okq
  have HQK:=Lib.hid hqk
  have HSH:=Lib.hid hsh
  have HVC:Hid (∀W,Below W5.heap.size W5 W→Calls Tryz.prog 43 #[ndV n a,.string x0] W fun r w'=>(∃(x:Vr) (A':Option Addr) (cap':Nat) (bv:Bool),r= .returned (.tuple #[vrV x A' cap',.bool bv])∧Hid (x.clock=[]))∧Below W.heap.size W w'):=fun W hW=>by
   refine (svarC_any n a x0 W (HN5.out W hW) HSM.out).mono ?_
   rintro r w' ⟨⟨x,A',cap',bv,rfl,HCK,-⟩,hb⟩
   exact ⟨⟨x,A',cap',bv,rfl,HCK.out.trans (clock_nil HC.out x0)⟩,hb⟩
  have hl1':(0:Int)<(q.left.length:Int):=by omega
  have hk1:q.left.length≤k1:=l1
  have m1':k1≤9223372036854775807:=by unfold maxLen at m1;omega
  clear e0 hsx s1 s2 okq hqk hsh bq rn rd HI HB m1
  have HK:Hid (∀W,Below W5.heap.size W5 W→(W.cell? ⟨w2.heap.size,0,none⟩=some (.string n.name)∧W.cell? ⟨w2.heap.size,1,none⟩=some (.slice a.ai n.ins.length a.ci)∧W.cell? ⟨w2.heap.size,2,none⟩=some (.slice a.ao n.outs.length a.co)∧W.cell? ⟨w2.heap.size,3,none⟩=some (.slice a.av n.vars.length a.cv)∧W.cell? ⟨w2.heap.size,4,none⟩=some (.slice a.aq n.eqs.length a.cq)∧W.cell? ⟨w2.heap.size,5,none⟩=some (.int .i64 n.line)∧W.cell? ⟨w2.heap.size,6,none⟩=some (.int .i64 n.col))∧W.cell? ⟨wr.heap.size,0,none⟩=some (.slice (some ⟨bs,offs,none⟩) q.left.length k1)∧W.cell? ⟨bs,offs,none⟩=some (.string x0)):=fun W hW=>⟨(rn5.below hW rn5.lt).nd,((re.below hW re.lt).cell 0).trans rfl,keeps_of hW _ _ (show bs<W5.heap.size by omega) e5⟩
  go_cut[14] (fun v14 W=>∃(gv:Nat) (x:Vr) (A':Option Addr) (cap':Nat),v14= .pointer (some ⟨gv,0,none⟩)∧Row W gv (vrArr x A' cap') 103∧Hid (x.clock=[])∧Below W5.heap.size W5 W)
  case first=>
   refine wp_region_held_drew (S:=fun W=>(W.cell? ⟨w2.heap.size,0,none⟩=some (.string n.name)∧W.cell? ⟨w2.heap.size,1,none⟩=some (.slice a.ai n.ins.length a.ci)∧W.cell? ⟨w2.heap.size,2,none⟩=some (.slice a.ao n.outs.length a.co)∧W.cell? ⟨w2.heap.size,3,none⟩=some (.slice a.av n.vars.length a.cv)∧W.cell? ⟨w2.heap.size,4,none⟩=some (.slice a.aq n.eqs.length a.cq)∧W.cell? ⟨w2.heap.size,5,none⟩=some (.int .i64 n.line)∧W.cell? ⟨w2.heap.size,6,none⟩=some (.int .i64 n.col))∧W.cell? ⟨wr.heap.size,0,none⟩=some (.slice (some ⟨bs,offs,none⟩) q.left.length k1)∧W.cell? ⟨bs,offs,none⟩=some (.string x0)) (by kernel_rfl) ?_ (fun hHeld=>?_)
   ·(try dsimp only);(first|(with_reducible exact HK.out _ bE)|exact hHeld|assumption)
   refine tk 0 (some 38) rfl ?_
   refine tk 1 (some 39) rfl ?_
   refine tk 2 (some 40) rfl ?_
   refine tk 3 (some 41) rfl ?_
   refine tk 4 (some 42) rfl ?_
   refine wpAnyH_ready (rs:=[5,9]) (by kernel_rfl) (by simp) ?_
   refine AllReadyH.cons (o:={dst:=some 43,op:=_,type:=_,pos:=_,after:=_,guard:=_}) rfl (fun KK hKK=>?_) (AllReadyH.cons (o:={dst:=some 14,op:=_,type:=_,pos:=_,after:=_,guard:=_}) rfl (fun KK hKK=>?_) AllReadyH.nil)
   ·go_simp
    ((go_at_call 43);(refine (HVC.out _ bE).mono ?_);rintro e w3 ⟨⟨x,A',cap',bv,rfl,HXT⟩,hb3⟩;(try (have r5:Row w3 W5.heap.size vrZ 103:=(by first|(with_reducible exact Row.below (Row.drew (Row.new W5 vrZ 103)) hb3 (by simp))|(with_reducible exact Row.below (Row.new W5.drew vrZ 103) hb3 (by simp)));obtain ⟨⟨x0',x1,x2,x3,x4⟩,g0,g1,g2,g3,g4⟩:=r5.five));(have hb4:Below W5.heap.size W5 w3:=Below.trans bE (hb3.mono lE));(have hs4:=hb4.size))
    (try go_wp2_with fail)
    refine hKK.out _ _ ?_ (fun hHeld=>?_)
    ·(try dsimp only);(first|(with_reducible exact HK.out _ bE)|exact hHeld|assumption)
    clear hKK KK
    try simp only[Act.put,List.setIfInBounds_toArray,List.set_cons_zero,List.set_cons_succ]
    refine tk 6 (some 37) rfl ?_
    refine tk 7 (some 44) rfl ?_
    refine tk 8 (some 45) rfl ?_
    refine rd1 9 (some 14) rfl (fun KK hKK=>?_)
    go_simp
    refine hKK.out _ _ ?_ (fun hHeld=>?_)
    ·(try dsimp only);(first|(with_reducible exact HK.out _ bE)|exact hHeld|assumption)
    clear hKK KK
    try simp only[Act.put,List.setIfInBounds_toArray,List.set_cons_zero,List.set_cons_succ]
    refine rd1 10 none rfl (fun KK hKK=>?_)
    go_simp
    refine hKK.out _ _ ?_ (fun hHeld=>?_)
    ·(try dsimp only);(first|(with_reducible exact HK.out _ bE)|exact hHeld|assumption)
    clear hKK KK
    try simp only[Act.put,List.setIfInBounds_toArray,List.set_cons_zero,List.set_cons_succ]
    refine tk 11 (some 15) rfl ?_
    refine wpAnyH_done (by kernel_rfl) ?_ _
    go_wp2_with fail
    go_meet
    exact ⟨_,x,A',cap',rfl,by first|(with_reducible exact Row.new _ _ _)|(with_reducible exact r5.set5 _ _ _ _ _),HXT,bE⟩
   ·go_simp
    refine hKK.out _ _ ?_ (fun hHeld=>?_)
    ·(try dsimp only);(first|(with_reducible exact HK.out _ bE)|exact hHeld|assumption)
    clear hKK KK
    try simp only[Act.put,List.setIfInBounds_toArray,List.set_cons_zero,List.set_cons_succ]
    refine rd1 5 (some 43) rfl (fun KK hKK=>?_)
    go_simp
    ((go_at_call 43);(refine (HVC.out _ bE).mono ?_);rintro e w3 ⟨⟨x,A',cap',bv,rfl,HXT⟩,hb3⟩;(try (have r5:Row w3 W5.heap.size vrZ 103:=(by first|(with_reducible exact Row.below (Row.drew (Row.new W5 vrZ 103)) hb3 (by simp))|(with_reducible exact Row.below (Row.new W5.drew vrZ 103) hb3 (by simp)));obtain ⟨⟨x0',x1,x2,x3,x4⟩,g0,g1,g2,g3,g4⟩:=r5.five));(have hb4:Below W5.heap.size W5 w3:=Below.trans bE (hb3.mono lE));(have hs4:=hb4.size))
    (try go_wp2_with fail)
    refine hKK.out _ _ ?_ (fun hHeld=>?_)
    ·(try dsimp only);(first|(with_reducible exact HK.out _ bE)|exact hHeld|assumption)
    clear hKK KK
    try simp only[Act.put,List.setIfInBounds_toArray,List.set_cons_zero,List.set_cons_succ]
    refine tk 6 (some 37) rfl ?_
    refine tk 7 (some 44) rfl ?_
    refine tk 8 (some 45) rfl ?_
    refine rd1 10 none rfl (fun KK hKK=>?_)
    go_simp
    refine hKK.out _ _ ?_ (fun hHeld=>?_)
    ·(try dsimp only);(first|(with_reducible exact HK.out _ bE)|exact hHeld|assumption)
    clear hKK KK
    try simp only[Act.put,List.setIfInBounds_toArray,List.set_cons_zero,List.set_cons_succ]
    refine tk 11 (some 15) rfl ?_
    refine wpAnyH_done (by kernel_rfl) ?_ _
    go_wp2_with fail
    go_meet
    exact ⟨_,x,A',cap',rfl,by first|(with_reducible exact Row.new _ _ _)|(with_reducible exact r5.set5 _ _ _ _ _),HXT,bE⟩
  case rest=>
   obtain ⟨gv,x,A',cap',rfl,rvv,HXT,hbc⟩:=hcut
   have hsc:=hbc.size
   have rdc:=rd5.below hbc rd5.lt
   have rec':=re.below hbc re.lt
   have rnc:=rn5.below hbc rn5.lt
   have HIc:=Lib.hid (HI5.out.below hbc)
   have HBc:=Lib.hid (HB5.out.trans (hbc.mono (by omega)))
   have HT:Hid (∀W,Below wc.heap.size wc W→Calls Tryz.prog 44 #[.pointer (some ⟨R,0,none⟩),.pointer (some ⟨w2.heap.size+1,0,none⟩),exV q.right A2 k2,.slice A' 0 cap'] W fun res w'=>(∃t:Tm,res= .returned (.pointer (some ⟨t.b,0,none⟩))∧t.is q.right∧TmAt σ0 w' W.heap.size w'.heap.size t)∧Below W.heap.size W w'):=fun W hW=>
    term_any HSH.out (.pointer (some ⟨R,0,none⟩)) (.pointer (some ⟨w2.heap.size+1,0,none⟩)) (A',cap') A2 k2 W HOK.out.right l2 m2 (exs_keep (HX2.out W (hbc.trans (hW.mono (by omega)))) (fun _ _ _ h=>h) (by have:=hW.size;omega))
   have HMK:Hid (∀W,Row W (w2.heap.size+1) (dnC n a (.slice Av k cv) (.map none)) 117→Row W wr.heap.size (eqArr q (some ⟨bs,offs,none⟩) k1 A2 k2) 65→Row W gv (vrArr x A' cap') 103→W.cell? ⟨w2.heap.size+1,9,none⟩=some (.slice Av k cv)∧W.cell? ⟨wr.heap.size,1,none⟩=some (.int .i64 q.right.op)∧W.cell? ⟨wr.heap.size,2,none⟩=some (.string q.right.name)∧W.cell? ⟨wr.heap.size,3,none⟩=some (.int .i64 q.right.n)∧W.cell? ⟨wr.heap.size,4,none⟩=some (.slice A2 q.right.args.length k2)∧W.cell? ⟨wr.heap.size,5,none⟩=some (.int .i64 q.right.line)∧W.cell? ⟨wr.heap.size,6,none⟩=some (.int .i64 q.right.col)∧W.cell? ⟨gv,2,none⟩=some (.slice A' 0 cap')):=fun W g1 g2 g3=>by
    obtain ⟨-,y1,y2,y3,y4,y5,y6,-,-⟩:=g2.eqn
    exact ⟨(g1.cell 9).trans rfl,y1,y2,y3,y4,y5,y6,by have:=g3.vr.2.2.1;rwa [HXT.out] at this⟩
   have q4:=HMK.out wc rdc rec' rvv
   have hvl:=rvv.lt
   clear HVC HN5 HX2 HK HXT rn5 rd5 re e5 hb HI5 HB5
   go_upto_region 7 with (fail)
   refine wp_region_L 16 (S:=fun W=>W.cell? ⟨w2.heap.size+1,9,none⟩=some (.slice Av k cv)∧W.cell? ⟨wr.heap.size,1,none⟩=some (.int .i64 q.right.op)∧W.cell? ⟨wr.heap.size,2,none⟩=some (.string q.right.name)∧W.cell? ⟨wr.heap.size,3,none⟩=some (.int .i64 q.right.n)∧W.cell? ⟨wr.heap.size,4,none⟩=some (.slice A2 q.right.args.length k2)∧W.cell? ⟨wr.heap.size,5,none⟩=some (.int .i64 q.right.line)∧W.cell? ⟨wr.heap.size,6,none⟩=some (.int .i64 q.right.col)∧W.cell? ⟨gv,2,none⟩=some (.slice A' 0 cap')) (by kernel_rfl) ?_ (fun hHeld=>?_)
   ·(try dsimp only);(first|exact q4|exact q9|exact HS8.out _|exact HS7.out)
   refine tkL 0 (some 46) rfl ?_
   refine tkL 1 (some 47) rfl ?_
   refine tkL 2 (some 48) rfl ?_
   refine tkL 3 (some 49) rfl ?_
   refine tkL 4 (some 50) rfl ?_
   refine tkL 5 (some 51) rfl ?_
   refine tkL 6 (some 52) rfl ?_
   refine tkL 7 (some 53) rfl ?_
   refine tkL 8 (some 54) rfl ?_
   refine tkL 9 (some 55) rfl ?_
   refine tkL 10 (some 56) rfl ?_
   refine rdL 11 (some 57) rfl (fun KK hKK=>?_)
   go_simp
   ((go_at_call 44);(refine Calls.mono (HT.out _ (Below.drew (Below.refl _ _))) ?_);rintro res w7 ⟨⟨t,rfl,hte,hta⟩,hb7⟩;(have hb8:Below wc.heap.size wc w7:=Below.trans bE (hb7.mono lE));(have hs8:=hb8.size);(have HO7:Hid (∀ob:Obj,(w7.alloc ob).ownsRow (w2.heap.size+1+1) 114 1 (.slice Av k cv) k (T.map ptrV)):=fun ob=>(own_below HIc.out.own hb8).alloc ob);(have HB7:Hid (∀ob:Obj,w2.heap.size+1+1≤(w7.alloc ob).heap.size):=fun ob=>by simp;omega);(have rd7:=rdc.below hb8 rdc.lt);(have re7:=rec'.below hb8 rec'.lt);(have rv7:=rvv.below hb8 rvv.lt);(have HGV:Hid (∀g,(Value.slice Av k cv).ownBlock=some g→g≠gv):=fun g hg e=>by subst e;obtain ⟨_,ar,har⟩:=own_row (own_below HIc.out.own hb8) g hg;exact absurd (row_ty rv7 har) (by decide));(have HS7:=Lib.hid (HMK.out w7 rd7 re7 rv7));(have HS8:=Lib.hid (fun ob:Obj=>HMK.out (w7.alloc ob) (rd7.alloc ob) (re7.alloc ob) (rv7.alloc ob))))
   (try go_wp2_with fail)
   refine hKK.out _ _ ?_ (fun hHeld=>?_)
   ·(try dsimp only);(first|exact q4|exact q9|exact HS8.out _|exact HS7.out)
   clear hKK KK
   try simp only[Act.put,List.setIfInBounds_toArray,List.set_cons_zero,List.set_cons_succ]
   refine rdL 12 (some 58) rfl (fun KK hKK=>?_)
   go_simp
   refine hKK.out _ _ ?_ (fun hHeld=>?_)
   ·(try dsimp only);(first|exact q4|exact q9|exact HS8.out _|exact HS7.out)
   clear hKK KK
   try simp only[Act.put,List.setIfInBounds_toArray,List.set_cons_zero,List.set_cons_succ]
   refine rdL 13 (some 59) rfl (fun KK hKK=>?_)
   ((rw[if_pos (by kernel_rfl)]);(refine wp_append_any _ (.tmp 50) (.tmp 58) 115 rfl (w2.heap.size+1+1) 114 i0 _ 1 8 Tryz.underlying115 hi0 hz0 hz1 hz2 rfl (by decide) _ k (T.map ptrV) rfl (HO7.out _) ⟨_,0,none⟩ 1 1 [ptrV t] rfl rfl (cells_new5 _ _ _) (by intro u hu;simp at hu;subst hu;rfl) (by unfold maxLen;omega) (by omega) (HB7.out _) ?_);(intro v9 w9 hown9 hg9 hb9);(have rd9:=Row.ownB (rd7.alloc _) (HO7.out _) (by omega) hg9);(have re9:Row w9 wr.heap.size (eqArr q (some ⟨bs,offs,none⟩) k1 A2 k2) 65:=(hg9.block _ (re7.alloc _).lt (fun e=>by have:=(hgb.out _ e.symm).2;omega)).trans (re7.alloc _));(have rv9:Row w9 gv (vrArr x A' cap') 103:=(hg9.block _ (rv7.alloc _).lt (fun e=>HGV.out gv e.symm rfl)).trans (rv7.alloc _));(have q9:=HMK.out w9 rd9 re9 rv9);(have z9:=rd9.frozen 9);(obtain ⟨A9,c9,hv9,-⟩:=own_rd hown9);subst hv9)
   refine hKK.out _ _ ?_ (fun hHeld=>?_)
   ·(try dsimp only);(first|exact q4|exact q9|exact HS8.out _|exact HS7.out)
   clear hKK KK
   try simp only[Act.put,List.setIfInBounds_toArray,List.set_cons_zero,List.set_cons_succ]
   refine rdL 14 (some 60) rfl (fun KK hKK=>?_)
   go_simp
   refine hKK.out _ _ ?_ (fun hHeld=>?_)
   ·(try dsimp only);(first|exact q4|exact q9|exact HS8.out _|exact HS7.out)
   clear hKK KK
   try simp only[Act.put,List.setIfInBounds_toArray,List.set_cons_zero,List.set_cons_succ]
   refine rdL 15 (some 61) rfl (fun KK hKK=>?_)
   go_simp
   refine hKK.out _ _ ?_ (fun hHeld=>?_)
   ·(try dsimp only);(first|exact q4|exact q9|exact HS8.out _|exact HS7.out)
   clear hKK KK
   try simp only[Act.put,List.setIfInBounds_toArray,List.set_cons_zero,List.set_cons_succ]
   refine rdE none rfl (fun KK hKK=>?_)
   go_simp
   refine hKK.out _ _ ?_
   clear hKK KK
   try simp only[Act.put,List.setIfInBounds_toArray,List.set_cons_zero,List.set_cons_succ]
   refine wpAnyL_done (by kernel_rfl) ?_ _
   have hta':TmAt σ0 w7 wc.heap.size w7.heap.size t:=hta
   have ug:Upd (fun j=>(Value.slice Av k cv).ownBlock=some j∨w7.heap.size≤j) w7 w9:=(Upd.of_below (bE:Below w7.heap.size w7 (w7.alloc (.cells #[ptrV t] 114)))).trans ⟨hg9.os,hg9.tape,hg9.output,hg9.size,fun j hj hX=>hg9.block j hj (fun e=>hX (Or.inl e.symm))⟩
   have u10:Upd (fun j=>j=w2.heap.size+1) w9 (w9.setCell ⟨w2.heap.size+1,9,none⟩ (.slice A9 (k+1) c9)):=(Upd.refl (fun j=>j=w2.heap.size+1) w9).setCell (p:=⟨w2.heap.size+1,9,none⟩) rfl _
   have hbo:(Value.slice A9 (k+1) c9).ownBlock=(Value.slice Av k cv).ownBlock∨∃g,(Value.slice A9 (k+1) c9).ownBlock=some g∧w7.heap.size≤g:=hb9.imp id (fun e=>⟨_,e,by simp⟩)
   have HI10:Hid (BgI n (w2.heap.size+1) (w9.setCell ⟨w2.heap.size+1,9,none⟩ (.slice A9 (k+1) c9)) (k+1) (.slice A9 (k+1) c9) (T++ [t])):=
    BgI.snoc (HIc.out.below hb8) hta' (by omega) (fun g hg=>by have:=(hgb.out g hg).2;omega) HQK.out hte hown9 ug hbo u10
   have rd10:Row (w9.setCell ⟨w2.heap.size+1,9,none⟩ (.slice A9 (k+1) c9)) (w2.heap.size+1) (dnC n a (.slice A9 (k+1) c9) (.map none)) 117:=by
    have:=rd9.set 9 (.slice A9 (k+1) c9)
    simpa using this
   have rn10:=u10.row (ug.row (rnc.below hb8 rnc.lt) (fun e=>by
    rcases e with e|e
    ·have:=(hgb.out _ e).1;omega
    ·omega)) (by omega)
   have HB10:Hid (Below w2.heap.size w2 (w9.setCell ⟨w2.heap.size+1,9,none⟩ (.slice A9 (k+1) c9))):=HBc.out.trans ((hb8.mono (by omega)).trans ((Upd.below ug (fun j e=>by
    rcases e with e|e
    ·have:=(hgb.out _ e).1;omega
    ·omega) (by omega)).trans (Upd.below u10 (fun j e=>by omega) (by have:=ug.size;omega))))
   have hA:=HA.out
   clear ug u10 HS7 HS8 HO7 HB7 HMK hta hta' rd9 re9 rv9 q9 z9 hown9 hg9 hb9 hbo q4 rd7 re7 rv7 rdc rec' rnc rvv HT HIc HBc HGV
   go_wp2_with fail
   go_roundw
   case rel=>exact ⟨k+1,_,_,by omega,by go_num,HI10,rd10,rn10,HB10⟩
   case measure=>first|(simp[intOf];omega)|simp[intOf]
end Go.Proofs.YtdkgkacnjdnpoaaGreat
