/-
  norm's maker: parts of expressions; wires, numbers. norm's maker: ops with parts (printed by gen_nor.py).
-/
import Derived.Test.YtckognjamlckcaaGreatDoorNoO
namespace Go.Proofs.YtckognjamlckcaaGreatDoor
open Go.RowKit Vf Fo
attribute [local go_sem ↓] Go.wp_at_zero Go.wp_at_succ
noncomputable def okE (K:Kw):Ex→List Gd→Prop:=Ex.para fun e ps c=>K.ok c∧∀(i:Nat) p,ps[i]? =some p→p (pcl e c i)
theorem okE_eq {K:Kw} {e:Ex} {c:List Gd}:okE K e c↔K.ok c∧∀(i:Nat) x,e.args[i]? =some x→okE K x (pcl e c i):=by
 have h:okE K e=(fun e (ps:List (List Gd→Prop)) c=>K.ok c∧∀(i:Nat) p,ps[i]? =some p→p (pcl e c i)) e (e.args.map (okE K)):=Ex.para_eq _ e
 rw[h]
 dsimp only
 constructor
 ·rintro ⟨h1,h2⟩
  exact ⟨h1,fun i x hx=>h2 i _ (by rw[List.getElem?_map,hx];rfl)⟩
 ·rintro ⟨h1,h2⟩
  refine ⟨h1,fun i p hp=>?_⟩
  rw[List.getElem?_map,Option.map_eq_some_iff] at hp
  obtain ⟨x,hx,rfl⟩:=hp
  exact h2 i x hx
structure Pre (f:Fl) (K:Kw) (e:Ex) (c:List Gd) (s:Mk):Prop where
 goes:goesE f e c
 ok:okE K e c
 wl:f.wires.length≤s.wires.length
 gs:Gs s
 few:s.acts.length+s.keeps.length+8*exSize e≤900000000
 len:c.length+exHeight e≤100000
def PartIs (f:Fl) (K:Kw) (w0:World) (D:Nat) (vi vo:Value) (e:Ex) (A:Option Addr) (cap:Nat):Prop:=
 ∀(i:Nat) (n:Int) x,n=i→e.args[i]? =some x→∀(W1:World) q1 s1 v1 c1,MkAt K w0 D vi vo W1 q1 s1→CkAt D q1 W1 v1 c1→Pre f K x c1 s1→
  Calls Tryz.prog 82 #[.pointer (some ⟨D,0,none⟩),exV e A cap,.int .i64 n,v1] W1 fun r w'=>r= .returned (.int .i64 (normE x c1 s1).1)∧NIs K w0 D vi vo q1 W1 (normE x c1 s1).2 w'
def NormIs (f:Fl) (K:Kw) (w0:World) (D:Nat) (vi vo:Value) (e:Ex):Prop:=
 ∀(A:Option Addr) (cap:Nat) (W:World) q s v c,MkAt K w0 D vi vo W q s→CkAt D q W v c→Pre f K e c s→ExOk e→e.args.length≤cap→cap≤maxLen→IsExs w0 w0.heap.size A e.args→
  Calls Tryz.prog 40 #[.pointer (some ⟨D,0,none⟩),exV e A cap,v] W fun r w'=>r= .returned (.int .i64 (normE e c s).1)∧NIs K w0 D vi vo q W (normE e c s).2 w'
section
variable {f:Fl} {K:Kw} {w0:World} {D:Nat} {vi vo:Value} {W:World} {q:MkQ} {s:Mk} {e:Ex} {A:Option Addr} {cap:Nat}
set_option maxRecDepth 100000 in
set_option maxHeartbeats 4000000 in
theorem part_any (ih:∀x∈e.args,NormIs f K w0 D vi vo x) (hmax:cap≤maxLen) (hx:IsExs w0 w0.heap.size A e.args):PartIs f K w0 D vi vo e A cap:=by
 intro i n x hn hi W1 q1 s1 v1 c1 h1 hc1 hp
 subst hn
 have hil:=(List.getElem?_eq_some_iff.1 hi).1
 have hil':(i:Int)<e.args.length:=by omega
 have hB:=h1.bel.size
 obtain ⟨b,off,x',A',cap',rfl,hbb,hxk,hxm,hok',hcap',hmax',hx',d0,d1,d2,d3,d4,d5⟩:=(hx.below h1.bel).at_ hil
 obtain rfl:x'=x:=by rw[hi] at hxk;injection hxk with g;exact g.symm
 have hx0:IsExs w0 w0.heap.size A' x'.args:=by
  obtain ⟨b2,off2,x2,A2,cap2,e1,_,hx2,_,_,_,_,hx3,_,_,_,g3,_,_⟩:=hx.at_ hil
  obtain rfl:x2=x':=by rw[hi] at hx2;injection hx2 with g;exact g.symm
  injection e1 with e1
  injection e1 with e1 e2
  subst e1;subst e2
  have:=(h1.bel.cell (p:=⟨b,off+i*6+3,none⟩) hbb).trans g3
  rw[d3] at this
  injection this with this
  injection this with this
  subst this
  exact hx3
 have b1:Below W1.heap.size W1 (W1.alloc (.cells (exRw e (some ⟨b,off,none⟩) cap) 75)):=bE
 have rX:=Row.new W1 (exRw e (some ⟨b,off,none⟩) cap) 75
 have hm':cap≤9223372036854775807:=by unfold maxLen at hmax;omega
 have HC:=Lib.hid (ih x' hxm A' cap' _ q1 s1 v1 c1 (h1.below b1) (hc1.fr (MFr.of_below b1)) hp hok' hcap' hmax' hx0)
 have HM:Hid (MFr D q1 W1 q1 (W1.alloc (.cells (exRw e (some ⟨b,off,none⟩) cap) 75))):=MFr.of_below b1
 clear ih h1 hc1 hp hx hxk hok' hx' hx0
 go_enter Tryz.func82,Tryz.ntmps82
 go_upto_region 1 with (fail)
 generalize W1.alloc (.cells (exRw e (some ⟨b,off,none⟩) cap) 75)=w2 at*
 obtain ⟨c0,c1',c2,c3,c4,c5⟩:=rX.six'
 replace d0:=(b1.cell (p:=⟨b,off+i*6,none⟩) (by dsimp only;omega)).trans d0
 replace d1:=(b1.cell (p:=⟨b,off+i*6+1,none⟩) (by dsimp only;omega)).trans d1
 replace d2:=(b1.cell (p:=⟨b,off+i*6+2,none⟩) (by dsimp only;omega)).trans d2
 replace d3:=(b1.cell (p:=⟨b,off+i*6+3,none⟩) (by dsimp only;omega)).trans d3
 replace d4:=(b1.cell (p:=⟨b,off+i*6+4,none⟩) (by dsimp only;omega)).trans d4
 replace d5:=(b1.cell (p:=⟨b,off+i*6+5,none⟩) (by dsimp only;omega)).trans d5
 go_wp2_with fail
 (with_reducible refine HC.out.mono ?_)
 rintro r w3 ⟨rfl,h3⟩
 have HN:=Lib.hid (NIs.trans HM.out h3)
 clear h3
 go_wp2_with fail
 go_ret
 exact ⟨rfl,HN.out⟩
theorem box_stays {w1:World} (h:MkAt K w0 D vi vo W q s) (b1:Below W.heap.size W w1) (r:Row w1 W.heap.size (exRw e A cap) 75):∀q' W',MFr D q w1 q' W'→Row W' W.heap.size (exRw e A cap) 75∧W.heap.size≤W'.heap.size:=fun q' W' m=>
 ⟨m.row r (fun e=>by have:=h.row.lt;omega) (fun g=>by have:=(h.ownq g).2.1;omega),Nat.le_trans b1.size m.upd.size⟩
set_option maxRecDepth 100000 in
set_option maxHeartbeats 4000000 in
theorem nexpr_spent (hs:s.spent=true) (h:MkAt K w0 D vi vo W q s) (v:Value) (c:List Gd):Calls Tryz.prog 40 #[.pointer (some ⟨D,0,none⟩),exV e A cap,v] W fun r w'=>r= .returned (.int .i64 (normE e c s).1)∧NIs K w0 D vi vo q W (normE e c s).2 w':=by
 have HE:Hid (normE e c s=(0,s)):=by
  show _=_
  rw[normE_eq,norm1]
  exact if_pos hs
 have b1:Below W.heap.size W (W.alloc (.cells (exRw e A cap) 75)):=bE
 have h1:=h.below b1
 obtain ⟨d0,d1,d2,d3,d4,d5,d6,d7⟩:=h1.cells
 rw[hs] at d7
 have HN:Hid (NIs K w0 D vi vo q W s (W.alloc (.cells (exRw e A cap) 75))):=⟨q,h1,MFr.of_below b1⟩
 clear h h1 hs
 go_enter Tryz.func40,Tryz.ntmps40
 go_upto_region 1 with (fail)
 generalize W.alloc (.cells (exRw e A cap) 75)=w1 at*
 go_wp2_with fail
 go_ret
 rw[HE.out]
 exact ⟨rfl,HN.out⟩
set_option maxRecDepth 100000 in
set_option maxHeartbeats 4000000 in
theorem nexpr_var (hs:s.spent=false) (h:MkAt K w0 D vi vo W q s) (hop:e.op=3) (v:Value) (c:List Gd):Calls Tryz.prog 40 #[.pointer (some ⟨D,0,none⟩),exV e A cap,v] W fun r w'=>r= .returned (.int .i64 (normE e c s).1)∧NIs K w0 D vi vo q W (normE e c s).2 w':=by
 have HE:Hid (normE e c s=(e.n,s)):=by
  show _=_
  rw[normE_eq,norm1]
  rw[if_neg (by rw[hs];decide)]
  exact if_pos hop
 have b1:Below W.heap.size W (W.alloc (.cells (exRw e A cap) 75)):=bE
 have rX:=Row.new W (exRw e A cap) 75
 have h1:=h.below b1
 obtain ⟨d0,d1,d2,d3,d4,d5,d6,d7⟩:=h1.cells
 rw[hs] at d7
 have HN:Hid (NIs K w0 D vi vo q W s (W.alloc (.cells (exRw e A cap) 75))):=⟨q,h1,MFr.of_below b1⟩
 have o3:(e.op==3)=true:=by rw[hop];rfl
 clear h h1 hs hop
 go_enter Tryz.func40,Tryz.ntmps40
 go_upto_region 1 with (fail)
 generalize W.alloc (.cells (exRw e A cap) 75)=w1 at*
 obtain ⟨c0,c1,c2,c3,c4,c5⟩:=rX.six'
 go_wp2_with fail
 go_ret
 rw[HE.out]
 exact ⟨rfl,HN.out⟩
set_option maxRecDepth 100000 in
set_option maxHeartbeats 4000000 in
theorem nexpr_lit1 (hs:s.spent=false) (h:MkAt K w0 D vi vo W q s) (hop:e.op=1) (v:Value) (c:List Gd) (hc:CkAt D q W v c) (hp:Pre f K e c s) (hok:ExOk e):Calls Tryz.prog 40 #[.pointer (some ⟨D,0,none⟩),exV e A cap,v] W fun r w'=>r= .returned (.int .i64 (normE e c s).1)∧NIs K w0 D vi vo q W (normE e c s).2 w':=by
 have HE:Hid (normE e c s=s.put 1 c ⟨e.op,0,0,0,0,e.n⟩):=by
  show _=_
  rw[normE_eq,norm1]
  rw[if_neg (by rw[hs];decide),if_neg (by omega)]
  exact (if_pos (by omega)).trans (congrArg (fun t=>s.put t c ⟨e.op,0,0,0,0,e.n⟩) hop)
 have b1:Below W.heap.size W (W.alloc (.cells (exRw e A cap) 75)):=bE
 have rX:=Row.new W (exRw e A cap) 75
 have h1:=h.below b1
 have HBX:=Lib.hid (box_stays h b1 rX)
 have HM1:Hid (MFr D q W q (W.alloc (.cells (exRw e A cap) 75))):=MFr.of_below b1
 have hfew:=hp.few
 have HPU:Hid (PutIs K w0 D vi vo s 1 v c ⟨e.op,0,0,0,0,e.n⟩ (s.put 1 c ⟨e.op,0,0,0,0,e.n⟩)):=put_is wf_1 ⟨hok.op,wf_zero,wf_zero,wf_zero,wf_zero,hok.n⟩ (by omega)
 have HPW:=Lib.hid (fun W' (hW:Below (W.alloc (.cells (exRw e A cap) 75)).heap.size (W.alloc (.cells (exRw e A cap) 75)) W')=>HPU.out W' q (h1.below hW) (hc.fr (MFr.of_below (b1.trans (hW.mono b1.size)))))
 obtain ⟨d0,d1,d2,d3,d4,d5,d6,d7⟩:=h1.cells
 rw[hs] at d7
 generalize s.put 1 c ⟨e.op,0,0,0,0,e.n⟩=p at*
 have o3:(e.op==3)=false:=by rw[hop];rfl
 have o1:(e.op==1)=true:=by rw[hop];rfl
 clear h h1 hs hop hc hp hok
 go_enter Tryz.func40,Tryz.ntmps40
 go_upto_region 1 with (fail)
 generalize W.alloc (.cells (exRw e A cap) 75)=w1 at*
 have hs1:=b1.size
 generalize hbx:W.heap.size=bx at*
 have HK:Hid (∀q' W',MFr D q w1 q' W'→W'.cell? ⟨bx,0,none⟩=some (.int .i64 e.op)∧W'.cell? ⟨bx,1,none⟩=some (.string e.name)∧W'.cell? ⟨bx,2,none⟩=some (.int .i64 e.n)∧W'.cell? ⟨bx,3,none⟩=some (.slice A e.args.length cap)∧W'.cell? ⟨bx,4,none⟩=some (.int .i64 e.line)∧W'.cell? ⟨bx,5,none⟩=some (.int .i64 e.col)):=fun q' W' m=>(HBX.out q' W' m).1.six'
 obtain ⟨c0,c1,c2,c3,c4,c5⟩:=rX.six'
 go_upto_region 7 with (fail)
 clear d0 d1 d2 d3 d4 d5 d6 d7
 refine wp_region_held_drew (S:=fun W=>W.cell? ⟨bx,0,none⟩=some (.int .i64 e.op)∧W.cell? ⟨bx,1,none⟩=some (.string e.name)∧W.cell? ⟨bx,2,none⟩=some (.int .i64 e.n)∧W.cell? ⟨bx,3,none⟩=some (.slice A e.args.length cap)∧W.cell? ⟨bx,4,none⟩=some (.int .i64 e.line)∧W.cell? ⟨bx,5,none⟩=some (.int .i64 e.col)) (by kernel_rfl) ?_ (fun hHeld=>?_)
 ·(try dsimp only);(first|(with_reducible exact HK6.out _ bE)|(with_reducible exact HK5.out _ bE)|(with_reducible exact HK.out _ _ (MFr.of_below bE)))
 refine tk 0 (some 29) rfl ?_
 refine tk 1 (some 30) rfl ?_
 refine tk 2 (some 31) rfl ?_
 refine tk 3 (some 32) rfl ?_
 refine tk 4 (some 33) rfl ?_
 refine tk 6 (some 35) rfl ?_
 refine tk 7 (some 36) rfl ?_
 refine rd1 5 (some 34) rfl (fun KK hKK=>?_)
 go_simp
 (go_at_call 80;refine Calls.mono (HPW.out _ bE) ?_;rintro r w5 ⟨rfl,q5,m5,hA5⟩;(have HA5:=Lib.hid hA5);(have HK5:=Lib.hid (fun W' (hW:Below w5.heap.size w5 W')=>HK.out _ _ (((MFr.of_below (bE:Below w1.heap.size w1 _)).trans m5).trans (MFr.of_below hW))));clear hA5 m5)
 (try go_wp2_with fail)
 refine hKK.out _ _ ?_ (fun hHeld=>?_)
 ·(try dsimp only);(first|(with_reducible exact HK6.out _ bE)|(with_reducible exact HK5.out _ bE)|(with_reducible exact HK.out _ _ (MFr.of_below bE)))
 clear hKK KK
 try simp only[Act.put,List.setIfInBounds_toArray,List.set_cons_zero,List.set_cons_succ]
 refine tk 8 (some 37) rfl ?_
 refine rd1 9 (some 38) rfl (fun KK hKK=>?_)
 go_simp
 (go_at_call 41;refine Calls.mono (HA5.out _ bE) ?_;rintro r w6 ⟨rfl,h6⟩;(obtain ⟨q6,h6,m6⟩:=h6);(have HK6:=Lib.hid (fun W' (hW:Below w6.heap.size w6 W')=>HK.out _ _ (((MFr.of_below (bE:Below w1.heap.size w1 _)).trans m6).trans (MFr.of_below hW)))))
 (try go_wp2_with fail)
 refine hKK.out _ _ ?_ (fun hHeld=>?_)
 ·(try dsimp only);(first|(with_reducible exact HK6.out _ bE)|(with_reducible exact HK5.out _ bE)|(with_reducible exact HK.out _ _ (MFr.of_below bE)))
 clear hKK KK
 try simp only[Act.put,List.setIfInBounds_toArray,List.set_cons_zero,List.set_cons_succ]
 refine tk 10 (some 6) rfl ?_
 refine wpAnyH_done (by kernel_rfl) ?_ _
 go_wp2_with fail
 go_ret
 rw[HE.out]
 exact ⟨rfl,q6,h6,(HM1.out.trans (MFr.of_below bE)).trans m6⟩
end
end Go.Proofs.YtckognjamlckcaaGreatDoor
namespace Go.Proofs.YtckognjamlckcaaGreatDoor
open Go.RowKit Vf Fo
attribute [local go_sem ↓] Go.wp_at_zero Go.wp_at_succ
theorem pcl_same {e:Ex} {c:List Gd} {i:Nat} (h:e.op≠24∧e.op≠25∧e.op≠26):pcl e c i=c:=by
 unfold pcl
 rw[if_neg (by omega),if_neg (by omega)]
theorem pre_part {f:Fl} {K:Kw} {e x:Ex} {c:List Gd} {s s':Mk} {i:Nat} (hp:Pre f K e c s) (h3:e.op≠3) (hi:e.args[i]? =some x) (g:Gs s') (hw:s.wires.length≤s'.wires.length) (hf:s'.acts.length+s'.keeps.length+8*exSize x≤900000000):Pre f K x (pcl e c i) s':=
 ⟨((goes_other h3).1 hp.goes).2.2 i x hi,(okE_eq.1 hp.ok).2 i x hi,Nat.le_trans hp.wl hw,g,hf,by have:=pcl_len (e:=e) (c:=c) i;have:=exHeight_arg (List.mem_of_getElem? hi);have:=hp.len;omega⟩
section
variable {f:Fl} {K:Kw} {w0:World} {D:Nat} {vi vo:Value} {W:World} {q:MkQ} {s:Mk} {e:Ex} {A:Option Addr} {cap:Nat}
set_option maxRecDepth 100000 in
set_option maxHeartbeats 8000000 in
theorem nexpr_fby (law:KwLaw K w0) (hs:s.spent=false) (h:MkAt K w0 D vi vo W q s) (hpl:plainE f e) (hop:e.op=22) (v:Value) (c:List Gd) (hc:CkAt D q W v c) (hp:Pre f K e c s) (hP:PartIs f K w0 D vi vo e A cap):Calls Tryz.prog 40 #[.pointer (some ⟨D,0,none⟩),exV e A cap,v] W fun r w'=>r= .returned (.int .i64 (normE e c s).1)∧NIs K w0 D vi vo q W (normE e c s).2 w':=by
 obtain ⟨hp1,hp2⟩:=plainE_iff.1 hpl
 have hfew:=hp.few
 have hwl:=hp.wl
 have hokc:K.ok c:=(okE_eq.1 hp.ok).1
 obtain ⟨x,y,ha⟩:=args_two hp1 (by omega)
 have hsz:=exSize_sum e
 rw[ha] at hsz
 simp at hsz
 have hi0:e.args[0]? =some x:=by rw[ha];rfl
 have hm0:x∈e.args:=List.mem_of_getElem? hi0
 have hi1:e.args[1]? =some y:=by rw[ha];rfl
 have hm1:y∈e.args:=List.mem_of_getElem? hi1
 have hlen:e.args.length=2:=by rw[ha];rfl
 clear ha
 have Sa:=normE_sp (f:=f) x (hp2 x hm0) c s hp.gs hp.wl
 have sa1:=Sa.few
 have sa2:=Sa.up
 have Sb:=normE_sp (f:=f) y (hp2 y hm1) c _ Sa.gs (Nat.le_trans hp.wl Sa.up)
 have sb1:=Sb.few
 have sb2:=Sb.up
 have P0:Pre f K x c s:=by have:=pre_part hp (by omega) hi0 hp.gs (Nat.le_refl _) (by omega);rwa [pcl_same (by omega)] at this
 have P1:Pre f K y c (normE x c s).2:=by have:=pre_part hp (by omega) hi1 Sa.gs Sa.up (by omega);rwa [pcl_same (by omega)] at this
 have HE:Hid (normE e c s=((((normE y c (normE x c s).2).2.begins c).2.was (normE y c (normE x c s).2).1 0 c).2.choose ((normE y c (normE x c s).2).2.begins c).1 (normE x c s).1 (((normE y c (normE x c s).2).2.begins c).2.was (normE y c (normE x c s).2).1 0 c).1 c)):=by
  show _=_
  rw[normE_eq,norm1]
  dsimp only
  rw[if_neg (by rw[hs];decide),if_neg (by omega),if_neg (by omega),if_neg (by omega),if_pos hop,part_is hi0,part_is hi1]
 have b1:Below W.heap.size W (W.alloc (.cells (exRw e A cap) 75)):=bE
 have rX:=Row.new W (exRw e A cap) 75
 have h1:=h.below b1
 have hc1:=hc.fr (MFr.of_below (q:=q) (D:=D) b1)
 have HBX:=Lib.hid (box_stays h b1 rX)
 have HM1:Hid (MFr D q W q (W.alloc (.cells (exRw e A cap) 75))):=MFr.of_below b1
 obtain ⟨d0,d1,d2,d3,d4,d5,d6,d7⟩:=h1.cells
 rw[hs] at d7
 have HC0:=Lib.hid (fun W' (hW:Below (W.alloc (.cells (exRw e A cap) 75)).heap.size (W.alloc (.cells (exRw e A cap) 75)) W')=>hP 0 0 x rfl hi0 W' q s v c (h1.below hW) (hc1.fr (MFr.of_below hW)) P0)
 have HC1:=Lib.hid (fun W' q' (m:MFr D q (W.alloc (.cells (exRw e A cap) 75)) q' W') (hk:MkAt K w0 D vi vo W' q' (normE x c s).2)=>hP 1 1 y rfl hi1 W' q' _ v c hk (hc1.fr m) P1)
 have HCK:=Lib.hid (fun q' W' (m:MFr D q (W.alloc (.cells (exRw e A cap) 75)) q' W')=>hc1.fr m)
 have o3:(e.op==3)=false:=by rw[hop];rfl
 have o1:(e.op==1)=false:=by rw[hop];rfl
 have o2:(e.op==2)=false:=by rw[hop];rfl
 have o21:(e.op==21)=false:=by rw[hop];rfl
 have o22:(e.op==22)=true:=by rw[hop];rfl
 have Sf:=begins_sp (c:=c) Sb.gs
 have sf1:=Sf.few
 have sf2:=Sf.up
 clear hi0 hm0 hi1 hm1 P0 P1
 generalize normE x c s=p at*
 obtain ⟨p1,sa⟩:=p
 dsimp only at*
 generalize normE y c sa=p at*
 obtain ⟨p2,sb⟩:=p
 dsimp only at*
 have HFB:Hid (sb.begins c=sb.begins c):=rfl
 have Sy:=was_sp (c:=c) (x:=p2) (n:=0) Sf.gs
 have sy1:=Sy.few
 have sy2:=Sy.up
 obtain ⟨n1,rfl⟩:=Int.eq_ofNat_of_zero_le Sa.lo
 obtain ⟨n2,rfl⟩:=Int.eq_ofNat_of_zero_le Sb.lo
 have hna:(n1:Int)<sa.wires.length:=Sa.hi
 have hnb:(n2:Int)<sb.wires.length:=Sb.hi
 have HBG:=Lib.hid (fun W' q' (hk:MkAt K w0 D vi vo W' q' sb) hc'=>mkbegins_any law hk v c hokc hc' (by omega))
 have HWS:=Lib.hid (fun W' q' (hk:MkAt K w0 D vi vo W' q' (sb.begins c).2) hc'=>mkwas_any hk n2 0 v c (by omega) wf_zero hc' (by omega))
 have HCH:=Lib.hid (fun W' q' (hk:MkAt K w0 D vi vo W' q' ((sb.begins c).2.was n2 0 c).2) hc'=>mkchoose_any hk (sb.begins c).1 ((sb.begins c).2.was n2 0 c).1 n1 v c (wf_of (by have:=hk.lw;have:=Sf.lo;have:=Sf.hi;omega)) (by omega) wf_wire hc' (by omega))
 generalize (sb.begins c).2.was n2 0 c=py at*
 generalize sb.begins c=pf at*
 clear h h1 hs hop hc hp hP hpl hp1 hp2 hc1 hlen Sa Sb Sf Sy hna hnb
 go_enter Tryz.func40,Tryz.ntmps40
 go_upto_region 1 with (fail)
 generalize (W.alloc (.cells (exRw e A cap) 75))=w1 at*
 have hs1:=b1.size
 generalize hbx:W.heap.size=bx at*
 have HK:Hid (∀q' W',MFr D q w1 q' W'→W'.cell? ⟨bx,0,none⟩=some (.int .i64 e.op)∧W'.cell? ⟨bx,1,none⟩=some (.string e.name)∧W'.cell? ⟨bx,2,none⟩=some (.int .i64 e.n)∧W'.cell? ⟨bx,3,none⟩=some (.slice A e.args.length cap)∧W'.cell? ⟨bx,4,none⟩=some (.int .i64 e.line)∧W'.cell? ⟨bx,5,none⟩=some (.int .i64 e.col)):=fun q' W' m=>(HBX.out q' W' m).1.six'
 obtain ⟨c0,c1,c2,c3,c4,c5⟩:=rX.six'
 go_upto_region 13 with (fail)
 clear d0 d1 d2 d3 d4 d5 d6 d7
 refine wp_region_held_drew (S:=fun W=>W.cell? ⟨bx,0,none⟩=some (.int .i64 e.op)∧W.cell? ⟨bx,1,none⟩=some (.string e.name)∧W.cell? ⟨bx,2,none⟩=some (.int .i64 e.n)∧W.cell? ⟨bx,3,none⟩=some (.slice A e.args.length cap)∧W.cell? ⟨bx,4,none⟩=some (.int .i64 e.line)∧W.cell? ⟨bx,5,none⟩=some (.int .i64 e.col)) (by kernel_rfl) ?_ (fun hHeld=>?_)
 ·(try dsimp only);(first|(with_reducible exact HK7.out _ bE)|(with_reducible exact HK6.out _ bE)|(with_reducible exact HK5.out _ bE)|(with_reducible exact HK.out _ _ (MFr.of_below bE)))
 refine tk 0 (some 62) rfl ?_
 refine tk 1 (some 63) rfl ?_
 refine tk 2 (some 64) rfl ?_
 refine tk 4 (some 66) rfl ?_
 refine tk 5 (some 67) rfl ?_
 refine tk 6 (some 68) rfl ?_
 refine rd1 3 (some 65) rfl (fun KK hKK=>?_)
 go_simp
 first|(go_at_call 82;(with_reducible refine Calls.mono (HC0.out _ bE) ?_);rintro r w5 ⟨rfl,q5,h5,m5⟩;(have HM5:=Lib.hid ((MFr.of_below (bE:Below w1.heap.size w1 _)).trans m5));(have HK5:=Lib.hid (fun W' (hW:Below w5.heap.size w5 W')=>HK.out _ _ (HM5.out.trans (MFr.of_below hW))));(have HD6:=Lib.hid (fun W' (hW:Below w5.heap.size w5 W')=>HC1.out W' q5 (HM5.out.trans (MFr.of_below hW)) (h5.below hW)));clear h5 m5)|(go_at_call 82;(with_reducible refine Calls.mono (HD6.out _ bE) ?_);rintro r w6 ⟨rfl,q6,h6,m6⟩;(have HM6:=Lib.hid (HM5.out.trans ((MFr.of_below (bE:Below w5.heap.size w5 _)).trans m6)));(have HK6:=Lib.hid (fun W' (hW:Below w6.heap.size w6 W')=>HK.out _ _ (HM6.out.trans (MFr.of_below hW))));(have H6:=Lib.hid h6);clear h6 m6)
 (try go_wp2_with fail)
 refine hKK.out _ _ ?_ (fun hHeld=>?_)
 ·(try dsimp only);(first|(with_reducible exact HK7.out _ bE)|(with_reducible exact HK6.out _ bE)|(with_reducible exact HK5.out _ bE)|(with_reducible exact HK.out _ _ (MFr.of_below bE)))
 clear hKK KK
 try simp only[Act.put,List.setIfInBounds_toArray,List.set_cons_zero,List.set_cons_succ]
 refine rd1 7 (some 69) rfl (fun KK hKK=>?_)
 go_simp
 first|(go_at_call 82;(with_reducible refine Calls.mono (HC0.out _ bE) ?_);rintro r w5 ⟨rfl,q5,h5,m5⟩;(have HM5:=Lib.hid ((MFr.of_below (bE:Below w1.heap.size w1 _)).trans m5));(have HK5:=Lib.hid (fun W' (hW:Below w5.heap.size w5 W')=>HK.out _ _ (HM5.out.trans (MFr.of_below hW))));(have HD6:=Lib.hid (fun W' (hW:Below w5.heap.size w5 W')=>HC1.out W' q5 (HM5.out.trans (MFr.of_below hW)) (h5.below hW)));clear h5 m5)|(go_at_call 82;(with_reducible refine Calls.mono (HD6.out _ bE) ?_);rintro r w6 ⟨rfl,q6,h6,m6⟩;(have HM6:=Lib.hid (HM5.out.trans ((MFr.of_below (bE:Below w5.heap.size w5 _)).trans m6)));(have HK6:=Lib.hid (fun W' (hW:Below w6.heap.size w6 W')=>HK.out _ _ (HM6.out.trans (MFr.of_below hW))));(have H6:=Lib.hid h6);clear h6 m6)
 (try go_wp2_with fail)
 refine hKK.out _ _ ?_ (fun hHeld=>?_)
 ·(try dsimp only);(first|(with_reducible exact HK7.out _ bE)|(with_reducible exact HK6.out _ bE)|(with_reducible exact HK5.out _ bE)|(with_reducible exact HK.out _ _ (MFr.of_below bE)))
 clear hKK KK
 try simp only[Act.put,List.setIfInBounds_toArray,List.set_cons_zero,List.set_cons_succ]
 refine tk 8 (some 7) rfl ?_
 refine tk 9 (some 8) rfl ?_
 refine wpAnyH_done (by kernel_rfl) ?_ _
 clear hHeld HK5 HK6 HK HBX HD6 c0 c1 c2 c3 c4 c5
 have HX7:=Lib.hid (HBG.out _ _ H6.out (HCK.out _ _ HM6.out))
 go_wp2_with fail
 (with_reducible refine HX7.out.mono ?_)
 rintro r w7 ⟨rfl,q7,h7,m7⟩
 have HM7:=Lib.hid (HM6.out.trans m7)
 have H7:=Lib.hid h7
 clear h7 m7
 have HX8:=Lib.hid (HWS.out _ _ H7.out (HCK.out _ _ HM7.out))
 go_wp2_with fail
 (with_reducible refine HX8.out.mono ?_)
 rintro r w8 ⟨rfl,q8,h8,m8⟩
 have HM8:=Lib.hid (HM7.out.trans m8)
 have H8:=Lib.hid h8
 clear h8 m8
 have HX9:=Lib.hid (HCH.out _ _ H8.out (HCK.out _ _ HM8.out))
 go_wp2_with fail
 (with_reducible refine HX9.out.mono ?_)
 rintro r w9 ⟨rfl,q9,h9,m9⟩
 have HM9:=Lib.hid (HM8.out.trans m9)
 have H9:=Lib.hid h9
 clear h9 m9
 go_wp2_with fail
 go_ret
 rw[HE.out]
 exact ⟨rfl,q9,H9.out,HM1.out.trans HM9.out⟩
end
end Go.Proofs.YtckognjamlckcaaGreatDoor
