/-
  The map from each node to what it calls, and all on which a name hangs: the contracts of calls.all and calls.reach. All on which a name hangs, found from hand to hand: the contract of calls.reach. Which node hangs on itself first: the contract of calls.Check.
-/
import Derived.Test.YtgjfkidbfmbjoaaGreatZz
import Derived.Test.YtgjfkidbfmbjoaaGreatWnS
set_option maxHeartbeats 1000000
set_option maxRecDepth 100000
namespace Go.Proofs.YtgjfkidbfmbjoaaGreat
open Go.RowKit
attribute [local go_sem ↓] Go.wp_at_zero Go.wp_at_succ
theorem cell_kept {w w':World} {b:Nat} (hb:∃o,w.heap[b]? =some o∧∀cs t f,o≠ .cells cs t f) (hg:w.grownBy w' (some b)) {p:Addr} {u:Value} (hc:w.cell? p=some u):w'.cell? p=some u:=
 hg.cell hc (fun e=>by
  injection e with e
  obtain ⟨o,ho,hn⟩:=hb
  simp only[World.cell?] at hc
  rw[←e] at ho
  rw[ho] at hc
  cases o with
  |cells cs t f=>exact hn _ _ _ rfl
  |_=>cases hc)
theorem MapV.isMap {w:World} {b n:Nat} {f:ByteArray→Value} (h:MapV w b n f):∃o,w.heap[b]? =some o∧∀cs t f,o≠ .cells cs t f:=by
 obtain ⟨D,⟨es,clock,h1,_⟩,_⟩:=h
 exact ⟨_,h1,fun _ _ _ e=>by cases e⟩
theorem row_mapv {W W':World} {b c n:Nat} {f:ByteArray→Value} {cs:Array Value} {t:TypeId} (r:Row W c cs t) (h:MapV W b n f) (hg:W.grownBy W' (some b)):Row W' c cs t:=by
 obtain ⟨D,⟨es,clock,hm,_⟩,_⟩:=h
 exact r.own hg (fun r e=>by cases e;exact ⟨_,hm,rfl⟩)
theorem MetS.isO {w:World} {b:Nat} {l:List ByteArray} (h:MetS w b l):∃o,w.heap[b]? =some o∧∀cs t f,o≠ .cells cs t f:=by
 obtain ⟨es,clock,h1⟩:=h.isMap
 exact ⟨_,h1,fun _ _ _ e=>by cases e⟩
open Classical in
noncomputable def usesTo (s:List Nd) (k:Nat) (nm:ByteArray):List ByteArray:=if nm∈(s.map Nd.name).take k then usesAt s nm else []
theorem usesTo_all (s:List Nd) (nm:ByteArray):usesTo s s.length nm=usesAt s nm:=by
 unfold usesTo
 rw[List.take_of_length_le (by simp)]
 split
 ·rfl
 ·rename_i h
  unfold usesAt
  rw[nodeAt_none.2 h]
theorem usesTo_succ {s:List Nd} (h0:(scopeF s).err=0) {k:Nat} {n:Nd} (hk:s[k]? =some n) (nm:ByteArray):(nm=n.name→usesTo s (k+1) nm=usesF n)∧(nm≠n.name→usesTo s (k+1) nm=usesTo s k nm):=by
 have e:(s.map Nd.name).take (k+1)=(s.map Nd.name).take k++ [n.name]:=by
  have h:=map_get Nd.name hk
  refine' zq180
  rw[List.take_succ_eq_append_getElem h1,h2]
 unfold usesTo
 rw[e]
 constructor
 ·rintro rfl
  rw[if_pos (by simp),usesAt_self h0 (List.mem_of_getElem? hk)]
 ·intro hne
  by_cases g:nm∈(s.map Nd.name).take k
  ·rw[if_pos g,if_pos (by simp[g])]
  ·rw[if_neg g,if_neg (by simp[g,hne])]
def UsesM (w:World) (b:Nat) (s:List Nd) (k:Nat):Prop:=∃(n:Nat) (f:ByteArray→Value),MapV w b n f∧n≤k∧∀nm,SlV w w.heap.size 1 isStr (f nm) (usesTo s k nm)
section
variable {w w':World} {b k:Nat} {s:List Nd}
theorem UsesM.lt (h:UsesM w b s k):b<w.heap.size:=by
 obtain ⟨n,f,h1,_⟩:=h
 exact h1.lt
theorem UsesM.below (h:UsesM w b s k) (hb:Below w.heap.size w w'):UsesM w' b s k:=by
 obtain ⟨n,f,h1,h2,h3⟩:=h
 exact ⟨n,f,h1.below hb h1.lt,h2,fun nm=>((h3 nm).below hb).more hb.size⟩
theorem UsesM.grown (h:UsesM w b s k) {b':Nat} (hb:∃o,w.heap[b']? =some o∧∀cs t f,o≠ .cells cs t f) (hg:w.grownBy w' (some b')) (hne:b≠b'):UsesM w' b s k:=by
 obtain ⟨n,f,h1,h2,h3⟩:=h
 exact ⟨n,f,h1.grown hg (fun e=>hne (by injection e)),h2,fun nm=>((h3 nm).keep (fun p u _ hc=>cell_kept hb hg hc) (Nat.le_refl _) (fun _ _ _ h=>h)).more hg.size⟩
theorem usesM_put (h0:(scopeF s).err=0) {n:Nd} (hk:s[k]? =some n) {m:Nat} {f:ByteArray→Value} {v:Value} (hM0:MapV w b m f) (hm:m≤k) (hf:∀nm,SlV w w.heap.size 1 isStr (f nm) (usesTo s k nm)) (hv:SlV w w.heap.size 1 isStr v (usesF n))
  {g:ByteArray→Value} (hg1:∀nm,nm=n.name→g nm=v) (hg2:∀nm,nm≠n.name→g nm=f nm) (hM:MapV w' b (m+1) g) (hg:w.grownBy w' (some b)):UsesM w' b s (k+1):=by
 refine ⟨m+1,g,hM,by omega,fun nm=>?_⟩
 by_cases e:nm=n.name
 ·rw[hg1 nm e,(usesTo_succ h0 hk nm).1 e]
  exact (hv.keep (fun p u _ hc=>cell_kept hM0.isMap hg hc) (Nat.le_refl _) (fun _ _ _ h=>h)).more hg.size
 ·rw[hg2 nm e,(usesTo_succ h0 hk nm).2 e]
  exact ((hf nm).keep (fun p u _ hc=>cell_kept hM0.isMap hg hc) (Nat.le_refl _) (fun _ _ _ h=>h)).more hg.size
theorem UsesM.look (h:UsesM w b s s.length) {nm:ByteArray} (hs:nm.size≤maxLen):∃A c,(Instr.lookup 178 (.map (some b)) (.string nm) false).run Tryz.prog w= .ok (.slice A (usesAt s nm).length c) w∧(usesAt s nm).length≤c∧c≤maxLen∧Sl w w.heap.size 1 isStr A (usesAt s nm):=by
 obtain ⟨n,f,h1,h2,h3⟩:=h
 have hl:=h1.look hs
 obtain ⟨A,c,e,g1,g2,g3⟩:=h3 nm
 rw[usesTo_all] at e g1 g3
 rw[e] at hl
 exact ⟨A,c,hl,g1,g2,g3⟩
end
theorem usesAt_len {s:List Nd} (h0:(scopeF s).err=0) (sm:SrcSm s) (nm:ByteArray):(usesAt s nm).length≤20:=by
 have:=nodup_len (usesAt_rising s nm).nodup (uses_V h0 nm)
 rw[List.length_map] at this
 have:=sm.len
 omega
theorem step_mapv {w:World} {ops:Array Oper} {o:Oper} {a:Act} {K:Act→World→Prop} {Q:Exit→Act→World→Prop} {E:Prop} (hgd:o.guard=none) (m x v:Operand) (hop:o.op=Op.mapUpdate 178 m x v)
  (b n:Nat) (f:ByteArray→Value) (hm:a.eval m= .map (some b)) (h:MapV w b n f) (hn:n<1000000) (nm:ByteArray) (hx:a.eval x= .string nm) (hs:nm.size≤maxLen) (u:Value) (hv:a.eval v=u)
  (hK:∀w' g,MapV w' b (n+1) g→(∀x,x=nm→g x=u)→(∀x,x≠nm→g x=f x)→w.grownBy w' (some b)→K (a.put o.dst undef) w'):
  if Region.wanted o (yielded ops a.tmps)=true then Oper.wp Tryz.prog o a w K Q else E:=by
 have hw:Region.wanted o (yielded ops a.tmps)=true:=by simp[Region.wanted,hgd]
 rw[if_pos hw]
 obtain ⟨w',hrun,r1,r2⟩:=h.put hs hn u
 unfold Oper.wp
 simp[execOp,hop,hm,hx,hv,hrun,Result.andThen]
 exact hK w' _ r1 (fun x e=>if_pos e) (fun x e=>if_neg e) r2
theorem all_calls (s:List Nd) (A:Option Addr) (cap:Nat) (w:World) (h0:(scopeF s).err=0) (sm:SrcSm s) (h1:s.length≤cap) (h2:cap≤maxLen) (h:Nds w w.heap.size A s):
  Calls Tryz.prog 130 #[srcV s A cap] w fun e w'=>(∃b,e= .returned (.map (some b))∧UsesM w' b s s.length∧w.heap.size≤b)∧Below w.heap.size w w':=by
 refine' zq122
 have H0:=Lib.hid h0
 have hmm:= @run_makeMap Tryz.prog
 refine' zq30
 have b1:Below w.heap.size w ((w.alloc (.cells #[.slice A s.length cap] 24)).alloc (.map #[] 0)):=bE
 have m1:UsesM ((w.alloc (.cells #[.slice A s.length cap] 24)).alloc (.map #[] 0)) (w.heap.size+1) s 0:=by
  have h:=mapv_made (w.alloc (.cells #[.slice A s.length cap] 24))
  rw[World.size_alloc] at h
  exact ⟨0,_,h,Nat.le_refl _,fun nm=>by unfold usesTo;rw[if_neg (by simp)];exact SlV.nil⟩
 clear h sm h0
 go_enter Tryz.func130,Tryz.ntmps130
 go_wp2_with fail
 go_loopw[10] (fun i wr=>∃k:Nat,k≤s.length∧i= .int .i64 k∧UsesM wr (w.heap.size+1) s k∧Below w.heap.size w wr) (fun i _=>s.length-(intOf i).toNat)
 case atStart=>exact ⟨0,Nat.zero_le _,rfl,m1,b1⟩
 case round=>
  obtain ⟨k,hk,rfl,hM,hB⟩:=hrel
  have hsB:=hB.size
  by_cases hlt:k<s.length
  rotate_left 1
  ·obtain rfl:k=s.length:=by omega
   go_wp2_with fail
   go_ret
   exact ⟨⟨_,rfl,hM,by omega⟩,hB⟩
  refine' zq68
  have HNS:=Lib.hid (HSM.out.all n (List.mem_of_getElem? hn))
  have HAW:Hid (∀W,Below wr.heap.size wr W→NdAt W W.heap.size n a):=fun W hW=>(hat.below (hW.mono hsB)).more (Nat.le_trans hsB hW.size)
  refine' zq69
  refine' zq133
  have hnm:=hat.name
  clear hn hat
  go_upto_region 5 with (fail)
  clear d0 d1 d2 d3 d4 d5 d6
  generalize hW5:wr.alloc (.cells (ndArr n a) 39)=w5 at*
  clear hW5
  have hM5:=hM.below ba
  have hB5:=hB.trans (ba.mono hsB)
  have hs5:=hB5.size
  have HK:Hid (∀W,Below w5.heap.size w5 W→(W.cell? ⟨wr.heap.size,0,none⟩=some (.string n.name)∧W.cell? ⟨wr.heap.size,1,none⟩=some (.slice a.ai n.ins.length a.ci)∧W.cell? ⟨wr.heap.size,2,none⟩=some (.slice a.ao n.outs.length a.co)∧W.cell? ⟨wr.heap.size,3,none⟩=some (.slice a.av n.vars.length a.cv)∧W.cell? ⟨wr.heap.size,4,none⟩=some (.slice a.aq n.eqs.length a.cq)∧W.cell? ⟨wr.heap.size,5,none⟩=some (.int .i64 n.line)∧W.cell? ⟨wr.heap.size,6,none⟩=some (.int .i64 n.col))):=fun W hW=>(rn1.below hW rn1.lt).nd
  refine wp_region_held_drew (S:=fun W=>(W.cell? ⟨wr.heap.size,0,none⟩=some (.string n.name)∧W.cell? ⟨wr.heap.size,1,none⟩=some (.slice a.ai n.ins.length a.ci)∧W.cell? ⟨wr.heap.size,2,none⟩=some (.slice a.ao n.outs.length a.co)∧W.cell? ⟨wr.heap.size,3,none⟩=some (.slice a.av n.vars.length a.cv)∧W.cell? ⟨wr.heap.size,4,none⟩=some (.slice a.aq n.eqs.length a.cq)∧W.cell? ⟨wr.heap.size,5,none⟩=some (.int .i64 n.line)∧W.cell? ⟨wr.heap.size,6,none⟩=some (.int .i64 n.col))) (by kernel_rfl) ?_ (fun hHeld=>?_)
  ·refine' zq199
  refine tk 0 (some 14) rfl ?_
  refine tk 1 (some 15) rfl ?_
  refine tk 2 (some 16) rfl ?_
  refine tk 3 (some 17) rfl ?_
  refine rd1 4 (some 18) rfl (fun KK hKK=>?_)
  go_simp
  (go_at_call 202;refine Calls.mono (uses_any n a _ HNS.out (HAW.out _ (ba.trans (Below.mono (B:=w5.heap.size) bE ba.size)))) ?_;rintro e w6 ⟨⟨v6,rfl,hv6⟩,hb6⟩;(have hb7:Below w5.heap.size w5 w6:=Below.trans bE (hb6.mono lE));(obtain ⟨m0,f0,hM0,hm0,hf0⟩:=UsesM.below hM5 hb7))
  (try go_wp2_with fail)
  refine hKK.out _ _ ?_ (fun hHeld=>?_)
  ·refine' zq199
  clear hKK KK
  refine' zq6
  refine rd1 5 none rfl (fun KK hKK=>?_)
  (refine step_mapv rfl _ _ _ rfl (w.heap.size+1) m0 f0 rfl hM0 (by have:=HSM.out.len;omega) n.name rfl hnm v6 rfl ?_;intro w8 g8 hM8 hg1 hg2 hg8;have rn8:=row_mapv (rn1.below hb7 rn1.lt) hM0 hg8)
  refine hKK.out _ _ ?_ (fun hHeld=>?_)
  ·refine' zq199
  clear hKK KK
  try simp only[Act.put]
  refine wpAnyH_done (by kernel_rfl) ?_ _
  have hM9:=usesM_put H0.out HX.out hM0 hm0 hf0 hv6 hg1 hg2 hM8 hg8
  have hB9:=(hB5.trans (hb7.mono hs5)).grown hg8 (Nat.le_trans hs5 hb7.size) (fun k e=>by cases e;omega)
  go_wp2_with fail
  go_roundw
  case rel=>exact ⟨k+1,by omega,by go_num,hM9,hB9⟩
  case measure=>first|(simp[intOf];omega)|simp[intOf]
noncomputable def metLen (w:World) (o:Value):Nat:=match (Builtin.len_ #[107] 107 #[o]).run Tryz.prog w with
 | .ok (.int _ n) _=>n.toNat
 |_=>0
theorem metLen_eq {w:World} {b:Nat} {l:List ByteArray} (h:MetS w b l):metLen w (.map (some b))=l.length:=by
 unfold metLen
 rw[h.len]
 simp
def sliceLen:Value→Nat
 | .slice _ n _=>n
 |_=>0
theorem WinS.form {w:World} {base:Nat} {v:Value} {l:List ByteArray} (h:WinS w base v l):∃A c,v= .slice A l.length c:=by
 rcases h with ⟨rfl,rfl⟩|⟨g,off,cap,rfl,_⟩
 ·exact ⟨_,_,rfl⟩
 ·exact ⟨_,_,rfl⟩
theorem fnd_len {s:List Nd} {a:ByteArray} {l wt:List ByteArray} (h0:(scopeF s).err=0) (sm:SrcSm s) (h:Fnd (usesAt s) a l wt):l.length≤20:=by
 have:=nodup_len h.nd fun x hx=>hg_sub (uses_V h0) (h.hg x (.inl hx))
 rw[List.length_map] at this
 have:=sm.len
 omega
theorem fnd_new {s:List Nd} {a x:ByteArray} {l wt:List ByteArray} (h0:(scopeF s).err=0) (sm:SrcSm s) (h:Fnd (usesAt s) a l (x::wt)) (hx:x∉l):l.length<20:=by
 have:=fnd_len h0 sm (h.new hx)
 simp only[List.length_append,List.length_cons,List.length_nil] at this
 omega
theorem reach_any (s:List Nd) (b:Nat) (nm:ByteArray) (w:World) (h0:(scopeF s).err=0) (sm:SrcSm s) (hU:UsesM w b s s.length) (hs:nm.size≤maxLen):
  Calls Tryz.prog 131 #[.map (some b),.string nm] w fun e w'=>(∃b' L,e= .returned (.map (some b'))∧MetS w' b' L∧Hid (∀x,x∈L↔Hg (usesAt s) nm x))∧Below w.heap.size w w':=by
 have HSM:=Lib.hid sm
 have H0:=Lib.hid h0
 have hmm:= @run_makeMap Tryz.prog
 have b1:Below w.heap.size w (w.alloc (.map #[] 0)):=bE
 have m1:=mets_made w
 have hU1:=hU.below b1
 obtain ⟨A0,c0,hlk,g1,g2,g3⟩:=hU1.look hs
 have hl0:=usesAt_len h0 sm nm
 have HC:=Lib.hid (clone_strs (usesAt s nm) A0 c0 (w.alloc (.map #[] 0)) (by omega) g3)
 have hbl:=hU.lt
 clear sm h0 g1 g2 g3
 go_enter Tryz.func131,Tryz.ntmps131
 go_wp2_with fail
 refine Calls.mono HC.out ?_
 rintro e w2 ⟨⟨v2,rfl,hv2⟩,hb2⟩
 have hB2:=b1.trans (hb2.mono b1.size)
 have m2:=m1.below hb2 m1.lt
 have hU2:=hU1.below hb2
 have hs2:=hb2.size
 rw[World.size_alloc] at hv2 hs2
 clear HC hb2 m1 hU1 b1
 go_wp2_with fail
 go_loopw[6,7] (fun wt _ wr=>∃(L W:List ByteArray),MetS wr w.heap.size L∧WinS wr (w.heap.size+1) wt W∧Hid (Fnd (usesAt s) nm L W)∧W.length≤20*(L.length+1)∧Below w.heap.size w wr∧w.heap.size<wr.heap.size∧Hid (∀x∈W,x.size≤maxLen)) (fun wt _ W=>(21-metLen W (.map (some w.heap.size)))*50+sliceLen wt)
 case atStart=>exact ⟨[],usesAt s nm,m2,hv2,Fnd.start nm,by simp;omega,hB2,by omega,by
  obtain ⟨n,f,_,_,h⟩:=hU2
  have:=strsV_size (h nm)
  rw[usesTo_all] at this
  exact this⟩
 case round=>
  obtain ⟨L,W,m3,hW,HF,hWl,hB3,hl3,HZ⟩:=hrel
  have hs3:=hB3.size
  have hU3:=hU.below hB3
  cases W with
  |nil=>
   obtain ⟨A,c,rfl⟩:=hW.form
   have i0:decide ((0:Int)<0)=false:=rfl
   go_wp2_with fail
   go_ret
   exact ⟨⟨_,L,rfl,m3,fun x=>HF.out.end_ x⟩,hB3⟩
  |cons x W=>
   obtain ⟨g,off,cap,rfl,q1,q2,c0,hW'⟩:=hW.head
   have hx:=HZ.out x (by simp)
   have HZ':Hid (∀y∈W,y.size≤maxLen):=fun y hy=>HZ.out y (by simp[hy])
   have q2':cap≤9223372036854775807:=by unfold maxLen at q2;omega
   have i0:(0:Int)<(W.length:Int)+1:=by omega
   have i1:(1:Int)≤(W.length:Int)+1:=by omega
   simp only[List.length_cons] at hWl
   rcases hW' with ⟨hc1,hW'⟩|⟨rfl,rfl,hW'⟩
   ·skip
    by_cases hP:x∈L
    ·have hlk3:=(m3.look hx).1 hP
     have HF':=Lib.hid (HF.out.old hP)
     clear hP HF HZ
     go_wp2_with fail
     go_roundw
     case rel=>exact ⟨L,W,m3,by simpa using hW',HF',by first|omega|(simp;omega)|simp,hB3,hl3,HZ'⟩
     case measure=>simp[sliceLen]
    ·have hlk3:=(m3.look hx).2 hP
     have HF':=Lib.hid (HF.out.new hP)
     have hL:=fnd_new H0.out HSM.out HF.out hP
     have hlx:=usesAt_len H0.out HSM.out x
     have HPN:Hid (putN L x=L++ [x]):=by show _=_;unfold putN;rw[if_neg hP]
     clear hP HF HZ
     go_wp2_with (first
      |(at_mapUpdate;refine wpList_mets rfl _ _ _ rfl w.heap.size L rfl m3 (by omega) x rfl hx rfl ?_;intro w4 m4 hg4;rw[HPN.out] at m4;have hU4:=hU3.grown m3.isO hg4 (by omega);obtain ⟨A4,c4,hlk4,r1,r2,r3⟩:=hU4.look hx;have hZ4:=strs_size r3;have hW4:=hW'.grown hg4 (fun k hk e=>by have:=(hW'.own k hk).1;injection e with e;omega);have hs4:=hg4.size)
      |(at_builtin;refine wpList_append_wins rfl _ _ rfl (w.heap.size+1) W (usesAt s x) _ rfl hW4 A4 c4 rfl r3 (by first|omega|(simp;omega)) (by omega) ?_;intro v5 w5 hW5 hg5))
     have hB4:=hB3.grown hg4 hs3 (fun k e=>by cases e;omega)
     have ob:=hW4.own
     obtain ⟨A5,c5,rfl⟩:=hW5.form
     have m5:=m4.grown hg5 (fun e=>by have:=(ob _ e.symm).1;omega)
     have hB5:=hB4.grown hg5 (Nat.le_trans hs3 hs4) (fun k e=>by have:=(ob k e).1;omega)
     go_roundw
     case rel=>exact ⟨L++ [x],W++usesAt s x,m5,hW5,HF',by simp;omega,hB5,by have:=hg5.size;omega,fun y hy=>by
      rcases List.mem_append.1 hy with hy|hy
      ·exact HZ'.out y hy
      ·exact hZ4 y hy⟩
     case measure=>
      rw[metLen_eq m5,metLen_eq m3]
      simp[sliceLen]
      omega
   ·clear hW
    by_cases hP:x∈L
    ·have hlk3:=(m3.look hx).1 hP
     have HF':=Lib.hid (HF.out.old hP)
     clear hP HF HZ
     go_wp2_with fail
     go_roundw
     case rel=>exact ⟨L,([]:List ByteArray),m3,by simpa using hW',HF',by first|omega|(simp;omega)|simp,hB3,hl3,HZ'⟩
     case measure=>simp[sliceLen]
    ·have hlk3:=(m3.look hx).2 hP
     have HF':=Lib.hid (HF.out.new hP)
     have hL:=fnd_new H0.out HSM.out HF.out hP
     have hlx:=usesAt_len H0.out HSM.out x
     have HPN:Hid (putN L x=L++ [x]):=by show _=_;unfold putN;rw[if_neg hP]
     clear hP HF HZ
     go_wp2_with (first
      |(at_mapUpdate;refine wpList_mets rfl _ _ _ rfl w.heap.size L rfl m3 (by omega) x rfl hx rfl ?_;intro w4 m4 hg4;rw[HPN.out] at m4;have hU4:=hU3.grown m3.isO hg4 (by omega);obtain ⟨A4,c4,hlk4,r1,r2,r3⟩:=hU4.look hx;have hZ4:=strs_size r3;have hW4:=hW'.grown hg4 (fun k hk e=>by have:=(hW'.own k hk).1;injection e with e;omega);have hs4:=hg4.size)
      |(at_builtin;refine wpList_append_wins rfl _ _ rfl (w.heap.size+1) ([]:List ByteArray) (usesAt s x) _ rfl hW4 A4 c4 rfl r3 (by first|omega|(simp;omega)) (by omega) ?_;intro v5 w5 hW5 hg5))
     have hB4:=hB3.grown hg4 hs3 (fun k e=>by cases e;omega)
     have ob:=hW4.own
     obtain ⟨A5,c5,rfl⟩:=hW5.form
     have m5:=m4.grown hg5 (fun e=>by have:=(ob _ e.symm).1;omega)
     have hB5:=hB4.grown hg5 (Nat.le_trans hs3 hs4) (fun k e=>by have:=(ob k e).1;omega)
     go_roundw
     case rel=>exact ⟨L++ [x],([]:List ByteArray)++usesAt s x,m5,hW5,HF',by simp;omega,hB5,by have:=hg5.size;omega,fun y hy=>by
      rcases List.mem_append.1 hy with hy|hy
      ·exact HZ'.out y hy
      ·exact hZ4 y hy⟩
     case measure=>
      rw[metLen_eq m5,metLen_eq m3]
      simp[sliceLen]
      omega
theorem step_look {w:World} {ops:Array Oper} {o:Oper} {a:Act} {K:Act→World→Prop} {Q:Exit→Act→World→Prop} {E:Prop} (hgd:o.guard=none) (m x:Operand) (hop:o.op=Op.lookup 107 m x false)
  (b:Nat) (hm:a.eval m= .map (some b)) (nm:ByteArray) (hx:a.eval x= .string nm) (u:Value) (hrun:(Instr.lookup 107 (.map (some b)) (.string nm) false).run Tryz.prog w= .ok u w) (hK:K (a.put o.dst u) w):
  if Region.wanted o (yielded ops a.tmps)=true then Oper.wp Tryz.prog o a w K Q else E:=by
 have hw:Region.wanted o (yielded ops a.tmps)=true:=by simp[Region.wanted,hgd]
 rw[if_pos hw]
 unfold Oper.wp
 simp[execOp,hop,hm,hx,hrun,Result.andThen]
 exact hK
theorem MetS.val {w:World} {b:Nat} {l:List ByteArray} (h:MetS w b l) {nm:ByteArray} (hs:nm.size≤maxLen) {P:Bool} (hP:P=true↔nm∈l):(Instr.lookup 107 (.map (some b)) (.string nm) false).run Tryz.prog w= .ok (.int .i64 (bif P then 1 else 0)) w:=by
 cases P
 ·exact (h.look hs).2 (fun g=>by have:=hP.2 g;cases this)
 ·exact (h.look hs).1 (hP.1 rfl)
theorem calF_yes {s:List Nd} {k:Nat} {n:Nd} (h:Hg (usesAt s) n.name n.name):calF s k n=⟨29,n.line,n.col⟩:=if_pos h
theorem calF_no {s:List Nd} {k:Nat} {n:Nd} (h:¬Hg (usesAt s) n.name n.name):calF s k n=ft0:=if_neg h
theorem check_calls (s:List Nd) (A:Option Addr) (cap:Nat) (w:World) (sm:SrcSm s) (h1:s.length≤cap) (h2:cap≤maxLen) (h:Nds w w.heap.size A s):
  Calls Tryz.prog 57 #[srcV s A cap] w fun r w'=>r= .returned (ftV (callsF s))∧Below w.heap.size w w':=by
 refine' zq13
 go_enter Tryz.func57,Tryz.ntmps57
 refine' zq112
 refine' zq117
 go_upto_region 5 with (go_at_call 130;refine Calls.mono (all_calls s A cap w4 H0.out HSM.out h1 h2 (nds_keep (HS.out w4 hB4) (fun _ _ _ h=>h) hs4)) ?_;rintro r w5 ⟨⟨bu,rfl,hU5,hbu⟩,hb5⟩)
 have rs5:=rs4.below hb5 rs4.lt
 have rf5:=rf4.below hb5 rf4.lt
 have hB5:=hB4.trans (hb5.mono hs4)
 have hs5:=hB5.size
 clear c0 rs4 rf4 hB4 hb5
 have c0:=rs5.src
 go_wp2_with fail
 go_loopw[18] (fun i wr=>∃k:Nat,k≤s.length∧i= .int .i64 k∧Hid (∀j,j<k→∀x,s[j]? =some x→(calF s j x).err=0)∧Below w5.heap.size w5 wr) (fun i _=>s.length-(intOf i).toNat)
 case atStart=>exact ⟨0,Nat.zero_le _,rfl,fun j h=>absurd h (by omega),Below.refl _ _⟩
 case round=>
  obtain ⟨k,hk,rfl,HN,hbr⟩:=hrel
  have rf:=rf5.below hbr rf5.lt
  have hB:=hB5.trans (hbr.mono hs5)
  refine' zq137
  clear hn hat
  go_upto_region 8 with (fail)
  clear d0 d1 d2 d3 d4 d5 d6
  refine' zq60
  have HU:Hid (∀W,Below w6.heap.size w6 W→UsesM W bu s s.length):=fun W hW=>hU5.below (hbr.trans ((ba.trans (hW.mono hsa)).mono hszr))
  have HK:Hid (∀W,Below w6.heap.size w6 W→(W.cell? ⟨wr.heap.size,0,none⟩=some (.string n.name)∧W.cell? ⟨wr.heap.size,1,none⟩=some (.slice a.ai n.ins.length a.ci)∧W.cell? ⟨wr.heap.size,2,none⟩=some (.slice a.ao n.outs.length a.co)∧W.cell? ⟨wr.heap.size,3,none⟩=some (.slice a.av n.vars.length a.cv)∧W.cell? ⟨wr.heap.size,4,none⟩=some (.slice a.aq n.eqs.length a.cq)∧W.cell? ⟨wr.heap.size,5,none⟩=some (.int .i64 n.line)∧W.cell? ⟨wr.heap.size,6,none⟩=some (.int .i64 n.col))):=fun W hW=>(rn1.below hW rn1.lt).nd
  go_cut[29] (fun v29 W=>v29= .bool P∧Below w6.heap.size w6 W)
  case first=>
   refine wp_region_held_drew (S:=fun W=>(W.cell? ⟨wr.heap.size,0,none⟩=some (.string n.name)∧W.cell? ⟨wr.heap.size,1,none⟩=some (.slice a.ai n.ins.length a.ci)∧W.cell? ⟨wr.heap.size,2,none⟩=some (.slice a.ao n.outs.length a.co)∧W.cell? ⟨wr.heap.size,3,none⟩=some (.slice a.av n.vars.length a.cv)∧W.cell? ⟨wr.heap.size,4,none⟩=some (.slice a.aq n.eqs.length a.cq)∧W.cell? ⟨wr.heap.size,5,none⟩=some (.int .i64 n.line)∧W.cell? ⟨wr.heap.size,6,none⟩=some (.int .i64 n.col))) (by kernel_rfl) ?_ (fun hHeld=>?_)
   ·refine' zq32
   refine tk 0 (some 22) rfl ?_
   refine tk 1 (some 23) rfl ?_
   refine tk 2 (some 24) rfl ?_
   refine tk 4 (some 26) rfl ?_
   refine tk 5 (some 27) rfl ?_
   refine rd1 3 (some 25) rfl (fun KK hKK=>?_)
   go_simp
   (go_at_call 131;refine Calls.mono (reach_any s bu n.name _ H0.out HSM.out (HU.out _ bE) hnm) ?_;rintro e w7 ⟨⟨b7,L7,rfl,hM7,HL7⟩,hb7⟩;(have hb8:Below w6.heap.size w6 w7:=Below.trans bE (hb7.mono lE));have hlv:=MetS.val hM7 hnm (P:=P) (by rw[HL7.out,←HPB.out];exact cB_iff))
   refine' zq25
   refine rd1 6 (some 28) rfl (fun KK hKK=>?_)
   (refine step_look rfl _ _ rfl b7 rfl n.name rfl (.int .i64 (bif P then 1 else 0)) hlv ?_)
   refine hKK.out _ _ ?_ (fun hHeld=>?_)
   ·refine' zq32
   clear hKK KK
   refine' zq6
   refine tk 7 (some 29) rfl ?_
   refine' zq155
   go_meet
   exact ⟨by cases P<;>rfl,bE⟩
  case rest=>
   refine' zq36
end Go.Proofs.YtgjfkidbfmbjoaaGreat
