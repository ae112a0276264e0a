/-
  norm's maker: was, choose, begins. norm's maker: parts of expressions; wires, numbers.
-/
import Derived.Test.YtckognjamlckcaaGreatDoorNoN
set_option maxHeartbeats 4000000
set_option maxRecDepth 100000
namespace Go.Proofs.YtckognjamlckcaaGreatDoor
open Go.RowKit Vf Fo
attribute [local go_sem ↓] Go.wp_at_zero Go.wp_at_succ
theorem vI (w:World):(zeroValue 3).run Tryz.prog w= .ok (.int .i64 0) w:=by kernel_rfl
theorem qH {nm:ByteArray} (hs:nm.size<=maxLen):keyOf Tryz.prog 9 (.string nm)=some (.string nm.data.toList):=_root_.Go.WideMaps.keyOf_string_mk Tryz.underlying9 hs
theorem yx {a b:ByteArray} (h:(Lit.string a.data.toList)= .string b.data.toList):a=b:=by
 injection h with h
 exact WideShapes.bytes_inj h
noncomputable def pN (l:List (List Gd × Int)) (c:List Gd):Option Int:=(l.find? (fun p=>cB (p.1=c))).map (·.2)
structure fx (K:Kw) (w0:World):Prop where
 inj:∀c c',K.ok c->K.ok c'->K.key c=K.key c'->c=c'
 size:∀c,(K.key c).size<=maxLen
 call:∀(W:World) (v:Value) c,K.ok c->Below w0.heap.size w0 W->aI W W.heap.size 2 aW v c->Calls Tryz.prog 106 #[v] W fun r w'=>r= .returned (.string (K.key c))/\Below W.heap.size W w'
section
variable {K:Kw} {W W':World} {P:Nat} {l:List (List Gd × Int)} {c:List Gd}
theorem dh.look (h:dh K W P l) (hs:(K.key c).size<=maxLen) (hc:K.ok c):(Instr.lookup 80 (.map (some P)) (.string (K.key c)) true).run Tryz.prog W= .ok (.tuple #[.int .i64 ((pN l c).getD 0),.bool (pN l c).isSome]) W:=by
 obtain ⟨n,D,h1,h2,h3,h4⟩:=h
 obtain ⟨v,ps,hr,hv⟩:=h1.look_ok (Maps.string_keyed Tryz.underlying9) Tryz.underlying80 (vI W) (plainElem_int (a:=0) Tryz.underlying3 (by decide)) (qH hs)
 obtain ⟨x,rfl,hx,_⟩:=plainElem_int_inv Tryz.underlying3 hv
 obtain ⟨g1,g2⟩:=h4 c hc
 injection hx with hx
 rw[g2] at hx
 injection hx with hx
 injection hx with _ hx
 rw[g1] at hr
 rw[hr,<-hx]
 rfl
theorem dh.put (h:dh K W P l) (hi:∀c',K.ok c'->K.key c'=K.key c->c'=c) (hs:(K.key c).size<=maxLen) (hn:l.length<1000000000) {x:Int} (hx:Wf x):∃W',(Instr.mapUpdate 80 (.map (some P)) (.string (K.key c)) (.int .i64 x)).run Tryz.prog W= .ok () W'/\dh K W' P ((c,x)::l)/\W.grownBy W' (some P):=by
 obtain ⟨n,D,h1,h2,h3,h4⟩:=h
 obtain ⟨W',hr,ho,hg⟩:=h1.update (Maps.string_keyed Tryz.underlying9) Tryz.underlying80 (by unfold maxLen;omega) (qH hs) (plainElem_int (a:=x) Tryz.underlying3 hx)
 refine ⟨W',hr,⟨n+1,_,ho,by simp;omega,h3.put _ _,fun c' hc'=>?_⟩,hg⟩
 by_cases e:c=c'
 ·subst e
  rw[List.find?_cons_of_pos (by simp[cb])]
  exact ⟨(Maps.has_put_same h3 (by trivial) _).trans rfl,Maps.atKey_put_same h3 (by trivial) _ _⟩
 ·have hne:(Lit.string (K.key c').data.toList)≠ .string (K.key c).data.toList:=fun g=>e (hi c' hc' (yx g)).symm
  rw[Maps.has_put_other hne,Maps.atKey_put_other hne,List.find?_cons_of_neg (by simp only[cb];exact e)]
  exact h4 c' hc'
end
section
variable {K:Kw} {w0:World} {D:Nat} {vi vo:Value} {W:World} {q:dH} {s:Mk}
theorem aF.setF {W':World} {l:List (List Gd × Int)} (hlf:l.length<=s.acts.length) (h:aF K w0 D vi vo W q s) (hm:dh K W' q.P l) (hg:W.grownBy W' (some q.P)):aF K w0 D vi vo W' q {s with first:=l}/\aB D q W q W':=by
 have u:ae (fun k=>k=q.P) W W':=⟨hg.os,hg.tape,hg.output,hg.size,fun k hk hX=>hg.block k hk (fun e=>hX (by injection e))⟩
 have m:aB D q W q W':=⟨u.mono (fun k e=> .inr (.inr (.inr (.inr (.inr e))))),fun _ g=> .inl g⟩
 obtain ⟨es,clock,hmp⟩:=h.mp.map
 obtain ⟨css,ho,ha⟩:=h.ow
 have hD:∀{sz n:Nat} {e:TypeId} {v:Value} {xs:List Value},W.ownsRow w0.heap.size e sz v n xs->W'.ownsRow w0.heap.size e sz v n xs:=fun hv=>aN hv u (fun k hk e=>gM hv hmp (e▸hk))
 exact ⟨⟨h.lo,h.bel.trans (u.below (fun k e=>by rw[e];exact h.hP) h.bel.size),u.row h.row (fun e=>jM hmp h.row e.symm),⟨css,hD ho,ha.mono (fun _ _ _ g=>g.fr m)⟩,hD h.oa,hD h.oc,hD h.ok,h.wa,h.wc,h.wk,hm,h.hP,h.lw,h.lc,hlf⟩,m⟩
theorem aF.wire (h:aF K w0 D vi vo W q s) {n:Nat} (hn:n<s.wires.length):∃b off cw,q.vw= .slice (some ⟨b,off,none⟩) s.wires.length cw/\s.wires.length<=cw/\cw<=9223372036854775807/\W.cell? ⟨b,off+n*2,none⟩=some (.int .i64 (s.ty (n:Int)))/\Wf (s.ty (n:Int)):=by
 obtain ⟨css,ho,ha⟩:=h.ow
 obtain ⟨⟨A,cw,hv,h1,h2,hs⟩,_⟩:=fV ho ha (ha.all (p:=fun cs=>cs.length=2) (fun x _ cs g=>by obtain ⟨v,rfl,_⟩:=g;rfl)) (by omega)
 obtain ⟨b,off,x,cs,rfl,_,hx,⟨v,rfl,wx,_⟩,hc⟩:=hs.at_ hn
 have ht:s.ty (n:Int)=x.ty:=by
  unfold Mk.ty
  rw[List.getD_eq_getElem?_getD,Int.toNat_natCast,hx];rfl
 rw[ht]
 exact ⟨b,off,cw,hv,h1,by unfold maxLen at h2;omega,hc 0 _ rfl,wx⟩
theorem cN.trans {W' W2:World} {q':dH} {s':Mk} (m:aB D q W q' W') (h:cN K w0 D vi vo q' W' s' W2):cN K w0 D vi vo q W s' W2:=by
 obtain ⟨q2,h1,h2⟩:=h
 exact ⟨q2,h1,m.trans h2⟩
theorem fq {ty:Int} {c:List Gd}:Wf (s.wire ty c).1:=by
 unfold Mk.wire
 split
 ·exact aT (by dsimp only;omega)
 ·exact aT (by dsimp only;omega)
theorem dG (s:Mk) (ty:Int) (c:List Gd):(s.wire ty c).2.acts=s.acts/\(s.wire ty c).2.cells=s.cells/\(s.wire ty c).2.keeps=s.keeps/\(s.wire ty c).2.first=s.first:=by
 unfold Mk.wire
 split<;>exact ⟨rfl,rfl,rfl,rfl⟩
theorem aV:Wf 0:=aT (by omega)
theorem DG:Wf 27:=aT (by omega)
theorem Bd:Wf 21:=aT (by omega)
theorem qI:Wf 2:=aT (by omega)
theorem oC:Wf 1:=aT (by omega)
theorem jh (h:aF K w0 D vi vo W q s) (a d:Int) (b:Nat) (v:Value) (c:List Gd) (ha:Wf a) (hb:b<s.wires.length) (hd:Wf d) (hc:cF D q W v c) (hl:s.acts.length<=1000000000):
  Calls Tryz.prog 83 #[.pointer (some ⟨D,0,none⟩),.int .i64 a,.int .i64 (b:Int),.int .i64 d,v] W fun r w'=>r= .returned (.int .i64 (s.choose a b d c).1)/\cN K w0 D vi vo q W (s.choose a b d c).2 w':=by
 obtain ⟨b1,off,cw,hv,l1,m1,t0,wt⟩:=h.wire hb
 obtain ⟨d0,d1,d2,d3,d4,d5,d6,d7⟩:=h.cells
 rw[hv] at d0
 have hb':(b:Int)<s.wires.length:=by omega
 have hlw:=h.lw
 have wb:Wf (b:Int):=aT (by omega)
 have HW:=zH (fh h (s.ty (b:Int)) v c wt hc)
 have HA:Hid (∀w1 q1,aF K w0 D vi vo w1 q1 (s.wire (s.ty (b:Int)) c).2->Calls Tryz.prog 41 #[.pointer (some ⟨D,0,none⟩),fT ⟨27,(s.wire (s.ty (b:Int)) c).1,a,b,d,0⟩] w1 fun r w'=>r= .returned (.int .i64 (s.choose a b d c).1)/\cN K w0 D vi vo q1 w1 (s.choose a b d c).2 w'):=fun w1 q1 h1=>
  eY h1 ⟨27,(s.wire (s.ty (b:Int)) c).1,a,b,d,0⟩ ⟨DG,fq,ha,wb,hd,aV⟩ (by rw[(dG s _ c).1];exact hl)
 generalize (s.wire (s.ty (b:Int)) c).2=s1 at*
 generalize (s.wire (s.ty (b:Int)) c).1=r1 at*
 clear h hc ha hd wb
 go_enter Tryz.func83,Tryz.ntmps83
 go_wp2_with fail
 (with_reducible refine HW.o.mono ?_)
 rintro r w1 ⟨rfl,q1,h1,m1⟩
 have HA1:=zH (HA.o w1 q1 h1)
 have HM:=zH m1
 clear h1 m1
 go_wp2_with fail
 (with_reducible refine HA1.o.mono ?_)
 rintro r w2 ⟨rfl,h2⟩
 have HN:=zH (cN.trans HM.o h2)
 clear h2
 go_wp2_with fail
 go_ret
 exact ⟨rfl,HN.o⟩
theorem oW (h:aF K w0 D vi vo W q s) (x:Nat) (k:Int) (v:Value) (c:List Gd) (hx:x<s.wires.length) (hk:Wf k) (hc:cF D q W v c) (hl:s.acts.length+s.keeps.length<=999999999):
  Calls Tryz.prog 81 #[.pointer (some ⟨D,0,none⟩),.int .i64 (x:Int),.int .i64 k,v] W fun r w'=>r= .returned (.int .i64 (s.was x k c).1)/\cN K w0 D vi vo q W (s.was x k c).2 w':=by
 obtain ⟨b1,off,cw,hv,l1,m1,t0,wt⟩:=h.wire hx
 obtain ⟨d0,d1,d2,d3,d4,d5,d6,d7⟩:=h.cells
 rw[hv] at d0
 have hx':(x:Int)<s.wires.length:=by omega
 have hlw:=h.lw
 have wx:Wf (x:Int):=aT (by omega)
 obtain ⟨e1,e2,e3,e4,e5,e6⟩:=kG s (s.ty (x:Int)) k
 have HC:=zH (nC h (s.ty (x:Int)) k wt hk)
 have HK:Hid (∀w1 q1,aF K w0 D vi vo w1 q1 (s.cell (s.ty (x:Int)) k).2->Calls Tryz.prog 105 #[.pointer (some ⟨D,0,none⟩),.int .i64 (s.cell (s.ty (x:Int)) k).1,.int .i64 (x:Int)] w1 fun r w'=>r= .returned (.tuple #[])/\cN K w0 D vi vo q1 w1 ((s.cell (s.ty (x:Int)) k).2.keep (s.cell (s.ty (x:Int)) k).1 x) w'):=fun w1 q1 h1=>
  nO h1 _ _ (aT (by omega)) wx (by rw[e3];omega)
 have HW:Hid (∀w1 q1,aF K w0 D vi vo w1 q1 ((s.cell (s.ty (x:Int)) k).2.keep (s.cell (s.ty (x:Int)) k).1 x)->cF D q1 w1 v c->Calls Tryz.prog 80 #[.pointer (some ⟨D,0,none⟩),.int .i64 (s.ty (x:Int)),v] w1 fun r w'=>r= .returned (.int .i64 (((s.cell (s.ty (x:Int)) k).2.keep (s.cell (s.ty (x:Int)) k).1 x).wire (s.ty (x:Int)) c).1)/\cN K w0 D vi vo q1 w1 (((s.cell (s.ty (x:Int)) k).2.keep (s.cell (s.ty (x:Int)) k).1 x).wire (s.ty (x:Int)) c).2 w'):=fun w1 q1 h1 hc1=>fh h1 _ v c wt hc1
 have HA:Hid (∀w1 q1,aF K w0 D vi vo w1 q1 (((s.cell (s.ty (x:Int)) k).2.keep (s.cell (s.ty (x:Int)) k).1 x).wire (s.ty (x:Int)) c).2->Calls Tryz.prog 41 #[.pointer (some ⟨D,0,none⟩),fT ⟨21,(((s.cell (s.ty (x:Int)) k).2.keep (s.cell (s.ty (x:Int)) k).1 x).wire (s.ty (x:Int)) c).1,0,0,0,(s.cell (s.ty (x:Int)) k).1⟩] w1 fun r w'=>r= .returned (.int .i64 (s.was x k c).1)/\cN K w0 D vi vo q1 w1 (s.was x k c).2 w'):=fun w1 q1 h1=>
  eY h1 _ ⟨Bd,fq,aV,aV,aV,aT (by dsimp only;omega)⟩ (by rw[(dG _ _ c).1];show (s.cell _ _).2.acts.length<=_;rw[e2];omega)
 have HCK:=zH (fun w1 q1 (m:aB D q W q1 w1)=>hc.fr m)
 generalize (((s.cell (s.ty (x:Int)) k).2.keep (s.cell (s.ty (x:Int)) k).1 x).wire (s.ty (x:Int)) c).2=s3 at*
 generalize (((s.cell (s.ty (x:Int)) k).2.keep (s.cell (s.ty (x:Int)) k).1 x).wire (s.ty (x:Int)) c).1=r3 at*
 generalize ((s.cell (s.ty (x:Int)) k).2.keep (s.cell (s.ty (x:Int)) k).1 x)=s2 at*
 clear e1 e2 e3 e4 e5 e6
 generalize (s.cell (s.ty (x:Int)) k).2=s1 at*
 generalize (s.cell (s.ty (x:Int)) k).1=r1 at*
 clear h hc wx
 go_enter Tryz.func81,Tryz.ntmps81
 refine' zq56
 rintro r w1 ⟨rfl,q1,h1,m1⟩
 have HK1:=zH (HK.o w1 q1 h1)
 have HM1:=zH m1
 clear h1 m1
 go_wp2_with fail
 (with_reducible refine HK1.o.mono ?_)
 rintro r w2 ⟨rfl,q2,h2,m2⟩
 have HM2:=zH (HM1.o.trans m2)
 have HW2:=zH (HW.o w2 q2 h2 (HCK.o _ _ HM2.o))
 clear h2 m2
 go_wp2_with fail
 (with_reducible refine HW2.o.mono ?_)
 rintro r w3 ⟨rfl,q3,h3,m3⟩
 have HM3:=zH (HM2.o.trans m3)
 have HA3:=zH (HA.o w3 q3 h3)
 clear h3 m3
 go_wp2_with fail
 (with_reducible refine HA3.o.mono ?_)
 rintro r w4 ⟨rfl,h4⟩
 have HN:=zH (cN.trans HM3.o h4)
 clear h4
 go_wp2_with fail
 go_ret
 exact ⟨rfl,HN.o⟩
def nN (K:Kw) (w0:World) (D:Nat) (vi vo:Value) (s:Mk) (ty:Int) (v:Value) (c:List Gd) (a:Ac) (p:Int × Mk):Prop:=∀w1 q1,aF K w0 D vi vo w1 q1 s->cF D q1 w1 v c->
 Calls Tryz.prog 80 #[.pointer (some ⟨D,0,none⟩),.int .i64 ty,v] w1 fun r w'=>r= .returned (.int .i64 p.1)/\∃q2,aB D q1 w1 q2 w'/\∀W',Below w'.heap.size w' W'->
  Calls Tryz.prog 41 #[.pointer (some ⟨D,0,none⟩),fT {a with dst:=p.1}] W' fun r w2=>r= .returned (.int .i64 p.1)/\cN K w0 D vi vo q1 w1 p.2 w2
theorem nL {ty:Int} {v:Value} {c:List Gd} {a:Ac} (hty:Wf ty) (ha:eP {a with dst:=0}) (hl:s.acts.length<=1000000000):nN K w0 D vi vo s ty v c a (s.put ty c a):=fun w1 q1 h1 hc=>by
 refine (fh h1 ty v c hty hc).mono ?_
 rintro r w2 ⟨rfl,q2,h2,m2⟩
 refine ⟨rfl,q2,m2,fun W' hW=>?_⟩
 refine (eY (h2.below hW) {a with dst:=(s.put ty c a).1} ⟨ha.op,fq,ha.a,ha.b,ha.c,ha.k⟩ (by rw[(dG s ty c).1];exact hl)).mono ?_
 rintro r w3 ⟨rfl,h3⟩
 exact ⟨rfl,cN.trans (m2.trans (aB.of_below hW)) h3⟩
theorem lh (law:fx K w0) (h:aF K w0 D vi vo W q s) (v:Value) (c:List Gd) (hok:K.ok c) (hc:cF D q W v c) (hl:s.acts.length+s.keeps.length<=999999990):
  Calls Tryz.prog 84 #[.pointer (some ⟨D,0,none⟩),v] W fun r w'=>r= .returned (.int .i64 (s.begins c).1)/\cN K w0 D vi vo q W (s.begins c).2 w':=by
 have HKY:Hid (Calls Tryz.prog 106 #[v] W fun r w'=>r= .returned (.string (K.key c))/\Below W.heap.size W w'):=law.call W v c hok h.bel (by
  obtain ⟨A,cap,h1,h2,h3,h4,_⟩:=hc
  exact ⟨A,cap,h1,h2,h3,h4⟩)
 have HHB:=zH (fun W' (hW:Below W.heap.size W W')=>h.below hW)
 have HCB:=zH (fun W' (hW:Below W.heap.size W W')=>hc.fr (aB.of_below (q:=q) (D:=D) hW))
 have HLK:=zH (fun W' (hW:Below W.heap.size W W')=>(h.below hW).mp.look (law.size c) hok)
 have HLO:Hid (s.look c=pN s.first c):=rfl
 have hlf:=h.lf
 clear h hc
 cases hlk:pN s.first c with
 |some x=>
  have HE:Hid (s.begins c=(x,s)):=by
   show _=_
   unfold Mk.begins
   rw[HLO.o,hlk]
  go_enter Tryz.func84,Tryz.ntmps84
  go_wp2_with fail
  (with_reducible refine HKY.o.mono ?_)
  rintro r w1 ⟨rfl,hb1⟩
  have h1:=HHB.o w1 hb1
  have hr:=HLK.o w1 hb1
  rw[hlk] at hr
  obtain ⟨d0,d1,d2,d3,d4,d5,d6,d7⟩:=h1.cells
  have HN:Hid (cN K w0 D vi vo q W s w1):=⟨q,h1,aB.of_below hb1⟩
  clear h1 hb1 hlk
  dsimp only[Option.getD,Option.isSome] at hr
  go_wp2_with fail
  go_ret
  rw[HE.o]
  exact ⟨rfl,HN.o⟩
 |none=>
  obtain ⟨e1,e2,e3,e4,e5,e6⟩:=kG s 2 1
  have HE:Hid (s.begins c=((((s.cell 2 1).2.put 2 c ⟨21,0,0,0,0,(s.cell 2 1).1⟩).1),{(((s.cell 2 1).2.put 2 c ⟨21,0,0,0,0,(s.cell 2 1).1⟩).2.put 2 c ⟨2,0,0,0,0,0⟩).2.keep (s.cell 2 1).1 (((s.cell 2 1).2.put 2 c ⟨21,0,0,0,0,(s.cell 2 1).1⟩).2.put 2 c ⟨2,0,0,0,0,0⟩).1 with first:=(c,((s.cell 2 1).2.put 2 c ⟨21,0,0,0,0,(s.cell 2 1).1⟩).1)::(((s.cell 2 1).2.put 2 c ⟨21,0,0,0,0,(s.cell 2 1).1⟩).2.put 2 c ⟨2,0,0,0,0,0⟩).2.first})):=by
   show _=_
   unfold Mk.begins
   rw[HLO.o,hlk]
  have HC:=zH (fun w1 (h1:aF K w0 D vi vo w1 q s)=>nC h1 2 1 qI oC)
  have HP1:Hid (nN K w0 D vi vo (s.cell 2 1).2 2 v c ⟨21,0,0,0,0,(s.cell 2 1).1⟩ ((s.cell 2 1).2.put 2 c ⟨21,0,0,0,0,(s.cell 2 1).1⟩)):=nL qI ⟨Bd,aV,aV,aV,aV,aT (by dsimp only;omega)⟩ (by rw[e2];omega)
  have ea:((s.cell 2 1).2.put 2 c ⟨21,0,0,0,0,(s.cell 2 1).1⟩).2.acts.length=s.acts.length+1:=by
   simp only[Mk.put,Mk.act,(dG _ _ _).1,e2,List.length_append,List.length_singleton]
  have ek:((s.cell 2 1).2.put 2 c ⟨21,0,0,0,0,(s.cell 2 1).1⟩).2.keeps.length=s.keeps.length:=by
   simp only[Mk.put,Mk.act,(dG _ _ _).2.2.1,e3]
  have ef:((s.cell 2 1).2.put 2 c ⟨21,0,0,0,0,(s.cell 2 1).1⟩).2.first=s.first:=by
   simp only[Mk.put,Mk.act,(dG _ _ _).2.2.2,e4]
  have hw1:Wf ((s.cell 2 1).2.put 2 c ⟨21,0,0,0,0,(s.cell 2 1).1⟩).1:=fq
  have hw0:Wf (s.cell 2 1).1:=aT (by omega)
  clear e1 e2 e3 e4 e5 e6
  generalize (s.cell 2 1).2.put 2 c ⟨21,0,0,0,0,(s.cell 2 1).1⟩=p1 at*
  have HP2:Hid (nN K w0 D vi vo p1.2 2 v c ⟨2,0,0,0,0,0⟩ (p1.2.put 2 c ⟨2,0,0,0,0,0⟩)):=nL qI ⟨qI,aV,aV,aV,aV,aV⟩ (by omega)
  have ea2:(p1.2.put 2 c ⟨2,0,0,0,0,0⟩).2.acts.length=s.acts.length+2:=by
   simp only[Mk.put,Mk.act,(dG _ _ _).1,List.length_append,List.length_singleton,ea]
  have ek2:(p1.2.put 2 c ⟨2,0,0,0,0,0⟩).2.keeps.length=s.keeps.length:=by
   simp only[Mk.put,Mk.act,(dG _ _ _).2.2.1,ek]
  have ef2:(p1.2.put 2 c ⟨2,0,0,0,0,0⟩).2.first=s.first:=by
   simp only[Mk.put,Mk.act,(dG _ _ _).2.2.2,ef]
  have hw2:Wf (p1.2.put 2 c ⟨2,0,0,0,0,0⟩).1:=fq
  generalize p1.2.put 2 c ⟨2,0,0,0,0,0⟩=p2 at*
  generalize (s.cell 2 1).2=s1 at*
  generalize (s.cell 2 1).1=k1 at*
  go_enter Tryz.func84,Tryz.ntmps84
  go_wp2_with fail
  (with_reducible refine HKY.o.mono ?_)
  rintro r w1 ⟨rfl,hb1⟩
  have h1:=HHB.o w1 hb1
  have hr:=HLK.o w1 hb1
  rw[hlk] at hr
  obtain ⟨d0,d1,d2,d3,d4,d5,d6,d7⟩:=h1.cells
  have HC1:=zH (HC.o w1 h1)
  have HCK:=zH (HCB.o w1 hb1)
  have HM1:Hid (aB D q W q w1):=aB.of_below hb1
  clear h1 hb1 hlk
  dsimp only[Option.getD,Option.isSome] at hr
  go_wp2_with fail
  (with_reducible refine HC1.o.mono ?_)
  rintro r w2 ⟨rfl,q2,h2,m2⟩
  have HM2:=zH (HM1.o.trans m2)
  have HK2:=zH (HCK.o.fr m2)
  have HW2:=zH (HP1.o w2 q2 h2 HK2.o)
  clear h2 m2 hr d0 d1 d2 d3 d4 d5 d6 d7
  go_wp2_with fail
  (with_reducible refine HW2.o.mono ?_)
  rintro r w3 ⟨rfl,q3,_,hA3⟩
  have HA3:=zH (hA3 _ (Below.refl _ _))
  clear hA3
  go_wp2_with fail
  (with_reducible refine HA3.o.mono ?_)
  rintro r w4 ⟨rfl,q4,h4,m4⟩
  have HM4:=zH (HM2.o.trans m4)
  have HW4:=zH (HP2.o w4 q4 h4 (HK2.o.fr m4))
  clear h4 m4
  go_wp2_with fail
  (with_reducible refine HW4.o.mono ?_)
  rintro r w5 ⟨rfl,q5,_,hA5⟩
  have HA5:=zH (hA5 _ (Below.refl _ _))
  clear hA5
  go_wp2_with fail
  (with_reducible refine HA5.o.mono ?_)
  rintro r w6 ⟨rfl,q6,h6,m6⟩
  have HM6:=zH (HM4.o.trans m6)
  have HK6:=zH (nO h6 k1 p2.1 hw0 hw2 (by omega))
  clear h6 m6
  go_wp2_with fail
  (with_reducible refine HK6.o.mono ?_)
  rintro r w7 ⟨rfl,q7,h7,m7⟩
  have HM7:=zH (HM6.o.trans m7)
  obtain ⟨w8,hr8,hm8,hg8⟩:=h7.mp.put (c:=c) (x:=p1.1) (fun c' hc' e=>law.inj c' c hc' hok e) (law.size c) (by show p2.2.first.length<_;have:=h7.lf;have:(p2.2.keep k1 p2.1).acts.length=p2.2.acts.length:=rfl;have:(p2.2.keep k1 p2.1).first.length=p2.2.first.length:=rfl;omega) hw1
  have hf8:=h7.setF (l:=(c,p1.1)::p2.2.first) (by show _<=p2.2.acts.length;rw[ea2,ef2,List.length_cons];omega) hm8 hg8
  have HF8:Hid (cN K w0 D vi vo q W {p2.2.keep k1 p2.1 with first:=(c,p1.1)::p2.2.first} w8):=⟨q7,hf8.1,HM7.o.trans hf8.2⟩
  obtain ⟨d0,d1,d2,d3,d4,d5,d6,d7⟩:=h7.cells
  clear h7 m7 hm8 hg8 hf8
  go_wp2_with fail
  go_ret
  rw[HE.o]
  exact ⟨rfl,HF8.o⟩
end
noncomputable def nG (K:Kw):Ex->List Gd->Prop:=Ex.para fun e ps c=>K.ok c/\∀(i:Nat) p,ps[i]? =some p->p (aA e c i)
theorem lj {K:Kw} {e:Ex} {c:List Gd}:nG K e c↔K.ok c/\∀(i:Nat) x,e.args[i]? =some x->nG K x (aA e c i):=by
 have h:nG K e=(fun e (ps:List (List Gd->Prop)) c=>K.ok c/\∀(i:Nat) p,ps[i]? =some p->p (aA e c i)) e (e.args.map (nG K)):=Ex.para_eq _ e
 rw[h]
 dsimp only
 constructor
 ·rintro ⟨h1,h2⟩
  exact ⟨h1,fun i x hx=>h2 i _ (by rw[List.getElem?_map,hx];rfl)⟩
 ·rintro ⟨h1,h2⟩
  refine ⟨h1,fun i p hp=>?_⟩
  rw[List.getElem?_map,Option.map_eq_some_iff] at hp
  obtain ⟨x,hx,rfl⟩:=hp
  exact h2 i x hx
structure fy (f:Fl) (K:Kw) (e:Ex) (c:List Gd) (s:Mk):Prop where
 goes:aE f e c
 ok:nG K e c
 wl:f.wires.length<=s.wires.length
 gs:Gs s
 few:s.acts.length+s.keeps.length+8*ay e<=900000000
 len:c.length+ax e<=100000
def fp (f:Fl) (K:Kw) (w0:World) (D:Nat) (vi vo:Value) (e:Ex) (A:Option Addr) (cap:Nat):Prop:=
 ∀(i:Nat) (n:Int) x,n=i->e.args[i]? =some x->∀(W1:World) q1 s1 v1 c1,aF K w0 D vi vo W1 q1 s1->cF D q1 W1 v1 c1->fy f K x c1 s1->
  Calls Tryz.prog 82 #[.pointer (some ⟨D,0,none⟩),bz e A cap,.int .i64 n,v1] W1 fun r w'=>r= .returned (.int .i64 (ah x c1 s1).1)/\cN K w0 D vi vo q1 W1 (ah x c1 s1).2 w'
def jQ (f:Fl) (K:Kw) (w0:World) (D:Nat) (vi vo:Value) (e:Ex):Prop:=
 ∀(A:Option Addr) (cap:Nat) (W:World) q s v c,aF K w0 D vi vo W q s->cF D q W v c->fy f K e c s->cW e->e.args.length<=cap->cap<=maxLen->aM w0 w0.heap.size A e.args->
  Calls Tryz.prog 40 #[.pointer (some ⟨D,0,none⟩),bz e A cap,v] W fun r w'=>r= .returned (.int .i64 (ah e c s).1)/\cN K w0 D vi vo q W (ah e c s).2 w'
section
variable {f:Fl} {K:Kw} {w0:World} {D:Nat} {vi vo:Value} {W:World} {q:dH} {s:Mk} {e:Ex} {A:Option Addr} {cap:Nat}
theorem rf (ih:∀x∈e.args,jQ f K w0 D vi vo x) (hmax:cap<=maxLen) (hx:aM w0 w0.heap.size A e.args):fp f K w0 D vi vo e A cap:=by
 intro i n x hn hi W1 q1 s1 v1 c1 h1 hc1 hp
 subst hn
 have hil:=(List.getElem?_eq_some_iff.1 hi).1
 have hil':(i:Int)<e.args.length:=by omega
 have hB:=h1.bel.size
 obtain ⟨b,off,x',A',cap',rfl,hbb,hxk,hxm,hok',hcap',hmax',hx',d0,d1,d2,d3,d4,d5⟩:=(hx.below h1.bel).at_ hil
 obtain rfl:x'=x:=by rw[hi] at hxk;injection hxk with g;exact g.symm
 have hx0:aM w0 w0.heap.size A' x'.args:=by
  obtain ⟨b2,off2,x2,A2,cap2,e1,_,hx2,_,_,_,_,hx3,_,_,_,g3,_,_⟩:=hx.at_ hil
  obtain rfl:x2=x':=by rw[hi] at hx2;injection hx2 with g;exact g.symm
  injection e1 with e1
  injection e1 with e1 e2
  subst e1;subst e2
  have:=(h1.bel.cell (p:=⟨b,off+i*6+3,none⟩) hbb).trans g3
  rw[d3] at this
  injection this with this
  injection this with this
  subst this
  exact hx3
 have b1:Below W1.heap.size W1 (W1.alloc (.cells (bi e (some ⟨b,off,none⟩) cap) 75)):=bE
 have rX:=ai.new W1 (bi e (some ⟨b,off,none⟩) cap) 75
 have hm':cap<=9223372036854775807:=by unfold maxLen at hmax;omega
 have HC:=zH (ih x' hxm A' cap' _ q1 s1 v1 c1 (h1.below b1) (hc1.fr (aB.of_below b1)) hp hok' hcap' hmax' hx0)
 have HM:Hid (aB D q1 W1 q1 (W1.alloc (.cells (bi e (some ⟨b,off,none⟩) cap) 75))):=aB.of_below b1
 clear ih h1 hc1 hp hx hxk hok' hx' hx0
 go_enter Tryz.func82,Tryz.ntmps82
 go_upto_region 1 with (fail)
 generalize W1.alloc (.cells (bi e (some ⟨b,off,none⟩) cap) 75)=w2 at*
 obtain ⟨c0,c1',c2,c3,c4,c5⟩:=rX.six'
 replace d0:=(b1.cell (p:=⟨b,off+i*6,none⟩) (by dsimp only;omega)).trans d0
 replace d1:=(b1.cell (p:=⟨b,off+i*6+1,none⟩) (by dsimp only;omega)).trans d1
 replace d2:=(b1.cell (p:=⟨b,off+i*6+2,none⟩) (by dsimp only;omega)).trans d2
 replace d3:=(b1.cell (p:=⟨b,off+i*6+3,none⟩) (by dsimp only;omega)).trans d3
 replace d4:=(b1.cell (p:=⟨b,off+i*6+4,none⟩) (by dsimp only;omega)).trans d4
 replace d5:=(b1.cell (p:=⟨b,off+i*6+5,none⟩) (by dsimp only;omega)).trans d5
 refine' zq56
 rintro r w3 ⟨rfl,h3⟩
 have HN:=zH (cN.trans HM.o h3)
 clear h3
 go_wp2_with fail
 go_ret
 exact ⟨rfl,HN.o⟩
theorem wm {w1:World} (h:aF K w0 D vi vo W q s) (b1:Below W.heap.size W w1) (r:ai w1 W.heap.size (bi e A cap) 75):∀q' W',aB D q w1 q' W'->ai W' W.heap.size (bi e A cap) 75/\W.heap.size<=W'.heap.size:=fun q' W' m=>
 ⟨m.row r (fun e=>by have:=h.row.lt;omega) (fun g=>by have:=(h.ownq g).2.1;omega),Nat.le_trans b1.size m.upd.size⟩
theorem ix (hs:s.spent=true) (h:aF K w0 D vi vo W q s) (v:Value) (c:List Gd):Calls Tryz.prog 40 #[.pointer (some ⟨D,0,none⟩),bz e A cap,v] W fun r w'=>r= .returned (.int .i64 (ah e c s).1)/\cN K w0 D vi vo q W (ah e c s).2 w':=by
 have HE:Hid (ah e c s=(0,s)):=by
  show _=_
  rw[cQ,eh]
  exact if_pos hs
 have b1:Below W.heap.size W (W.alloc (.cells (bi e A cap) 75)):=bE
 have h1:=h.below b1
 refine' zq122
 have HN:Hid (cN K w0 D vi vo q W s (W.alloc (.cells (bi e A cap) 75))):=⟨q,h1,aB.of_below b1⟩
 clear h h1 hs
 refine' zq274
 go_wp2_with fail
 go_ret
 rw[HE.o]
 exact ⟨rfl,HN.o⟩
theorem ph (hs:s.spent=false) (h:aF K w0 D vi vo W q s) (hop:e.op=3) (v:Value) (c:List Gd):Calls Tryz.prog 40 #[.pointer (some ⟨D,0,none⟩),bz e A cap,v] W fun r w'=>r= .returned (.int .i64 (ah e c s).1)/\cN K w0 D vi vo q W (ah e c s).2 w':=by
 have HE:Hid (ah e c s=(e.n,s)):=by
  show _=_
  rw[cQ,eh]
  rw[if_neg (by rw[hs];decide)]
  exact if_pos hop
 refine' zq83
 refine' zq122
 have HN:Hid (cN K w0 D vi vo q W s (W.alloc (.cells (bi e A cap) 75))):=⟨q,h1,aB.of_below b1⟩
 have o3:(e.op==3)=true:=by rw[hop];rfl
 clear h h1 hs hop
 refine' zq274
 obtain ⟨c0,c1,c2,c3,c4,c5⟩:=rX.six'
 go_wp2_with fail
 go_ret
 rw[HE.o]
 exact ⟨rfl,HN.o⟩
theorem nh (hs:s.spent=false) (h:aF K w0 D vi vo W q s) (hop:e.op=1) (v:Value) (c:List Gd) (hc:cF D q W v c) (hp:fy f K e c s) (hok:cW e):Calls Tryz.prog 40 #[.pointer (some ⟨D,0,none⟩),bz e A cap,v] W fun r w'=>r= .returned (.int .i64 (ah e c s).1)/\cN K w0 D vi vo q W (ah e c s).2 w':=by
 have HE:Hid (ah e c s=s.put 1 c ⟨e.op,0,0,0,0,e.n⟩):=by
  show _=_
  rw[cQ,eh]
  rw[if_neg (by rw[hs];decide),if_neg (by omega)]
  exact (if_pos (by omega)).trans (congrArg (fun t=>s.put t c ⟨e.op,0,0,0,0,e.n⟩) hop)
 refine' zq83
 refine' zq155
 have hfew:=hp.few
 have HPU:Hid (nN K w0 D vi vo s 1 v c ⟨e.op,0,0,0,0,e.n⟩ (s.put 1 c ⟨e.op,0,0,0,0,e.n⟩)):=nL oC ⟨hok.op,aV,aV,aV,aV,hok.n⟩ (by omega)
 refine' zq232
 generalize s.put 1 c ⟨e.op,0,0,0,0,e.n⟩=p at*
 have o3:(e.op==3)=false:=by rw[hop];rfl
 have o1:(e.op==1)=true:=by rw[hop];rfl
 clear h h1 hs hop hc hp hok
 refine' zq274
 refine' zq7
 obtain ⟨c0,c1,c2,c3,c4,c5⟩:=rX.six'
 go_upto_region 7 with (fail)
 refine' zq132
 refine tk 0 (some 29) rfl ?_
 refine tk 1 (some 30) rfl ?_
 refine tk 2 (some 31) rfl ?_
 refine tk 3 (some 32) rfl ?_
 refine tk 4 (some 33) rfl ?_
 refine tk 6 (some 35) rfl ?_
 refine tk 7 (some 36) rfl ?_
 refine aH 5 (some 34) rfl (fun KK hKK=>?_)
 refine' zq141
 refine tk 8 (some 37) rfl ?_
 refine aH 9 (some 38) rfl (fun KK hKK=>?_)
 refine' zq86
theorem uy (hs:s.spent=false) (h:aF K w0 D vi vo W q s) (hop:e.op=2) (v:Value) (c:List Gd) (hc:cF D q W v c) (hp:fy f K e c s) (hok:cW e):Calls Tryz.prog 40 #[.pointer (some ⟨D,0,none⟩),bz e A cap,v] W fun r w'=>r= .returned (.int .i64 (ah e c s).1)/\cN K w0 D vi vo q W (ah e c s).2 w':=by
 have HE:Hid (ah e c s=s.put 2 c ⟨e.op,0,0,0,0,e.n⟩):=by
  show _=_
  rw[cQ,eh]
  rw[if_neg (by rw[hs];decide),if_neg (by omega)]
  exact (if_pos (by omega)).trans (congrArg (fun t=>s.put t c ⟨e.op,0,0,0,0,e.n⟩) hop)
 refine' zq83
 refine' zq155
 have hfew:=hp.few
 have HPU:Hid (nN K w0 D vi vo s 2 v c ⟨e.op,0,0,0,0,e.n⟩ (s.put 2 c ⟨e.op,0,0,0,0,e.n⟩)):=nL qI ⟨hok.op,aV,aV,aV,aV,hok.n⟩ (by omega)
 refine' zq232
 generalize s.put 2 c ⟨e.op,0,0,0,0,e.n⟩=p at*
 have o3:(e.op==3)=false:=by rw[hop];rfl
 have o1:(e.op==1)=false:=by rw[hop];rfl
 have o2:(e.op==2)=true:=by rw[hop];rfl
 clear h h1 hs hop hc hp hok
 refine' zq274
 refine' zq7
 obtain ⟨c0,c1,c2,c3,c4,c5⟩:=rX.six'
 go_upto_region 9 with (fail)
 refine' zq132
 refine tk 0 (some 41) rfl ?_
 refine tk 1 (some 42) rfl ?_
 refine tk 2 (some 43) rfl ?_
 refine tk 3 (some 44) rfl ?_
 refine tk 4 (some 45) rfl ?_
 refine tk 6 (some 47) rfl ?_
 refine tk 7 (some 48) rfl ?_
 refine aH 5 (some 46) rfl (fun KK hKK=>?_)
 refine' zq141
 refine tk 8 (some 49) rfl ?_
 refine aH 9 (some 50) rfl (fun KK hKK=>?_)
 refine' zq86
end
end Go.Proofs.YtckognjamlckcaaGreatDoor
