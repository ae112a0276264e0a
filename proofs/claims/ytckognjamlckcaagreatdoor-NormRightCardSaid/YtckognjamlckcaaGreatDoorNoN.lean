/-
  norm's maker: wire, act, cell, keep.
-/
import Derived.Test.YtckognjamlckcaaGreatDoorNoM
import Derived.Deep.DeepCutAuto
import Derived.BigQuiet
namespace Go.Proofs.YtckognjamlckcaaGreatDoor
open Go.RowKit Vf Fo
attribute [local go_sem ↓] Go.wp_at_zero Go.wp_at_succ
theorem step_ownB {P:Program} {o:Oper} {a:Act} {w:World} {K:Act→World→Prop} {Q:Exit→Act→World→Prop} (s x:Operand) (t:TypeId) (ho:o.op= .call {callee:= .builtin .append,args:= #[s,x],argTypes:= #[t,t]})
  (base:Nat) (e:TypeId) (i:TypeInfo) (z:Value) (size bytes:Nat) (ht:P.underlying t=some (.slice e)) (hi:P.info? e=some i) (hz:i.zero=some z)
  (hsize:i.size=size) (hby:i.bytes=bytes) (hzs:z.cells.size=size) (hsz:0<size)
  (v:Value) (n:Nat) (xs:List Value) (hs:a.eval s=v) (hown:w.ownsRow base e size v n xs)
  (ad:Addr) (m c:Nat) (news:List Value) (hx:a.eval x= .slice (some ad) m c) (hl:news.length=m*size) (hnews:∀j u,news[j]? =some u→w.cell? (ad.add j)=some u) (h1:∀u∈news,u.oneCell'=true)
  (h63:n+m≤maxLen) (hbytes:(n+m)*bytes≤140737488355328) (hbase:base≤w.heap.size)
  (h:∀v' w',w'.ownsRow base e size v' (n+m) (xs++news)→w.grownBy w' v.ownBlock→(v'.ownBlock=v.ownBlock∨v'.ownBlock=some w.heap.size)→K (a.put o.dst v') w'):Oper.wp P o a w K Q:=by
 obtain ⟨v',w',hr,h2,h3,_,h5⟩:=run_append_own_at (P:=P) (w:=w) base t o.type e i z size bytes ht hi hz hsize hby hzs hsz v n xs hown ad m c news hl hnews h1 h63 hbytes hbase
 unfold Oper.wp execOp
 simp only[ho,resolve,invoke,builtin,Sem.run_bind,Sem.run_pure,Result.andThen_ok,List.map_toArray,List.map_cons,List.map_nil,hs,hx,hr]
 exact h v' w' h2 h3 h5
theorem info_ac9:(Tryz.prog.info? 58).map (fun i=>(i.zero,i.size,i.bytes))=some (some (.agg #[.int .i64 0,.int .i64 0,.int .i64 0,.int .i64 0,.int .i64 0,.int .i64 0]),6,48):=by kernel_rfl
theorem info_wr9:(Tryz.prog.info? 52).map (fun i=>(i.zero,i.size,i.bytes))=some (some (.agg #[.int .i64 0,.slice none 0 0]),2,32):=by kernel_rfl
theorem info_cl9:(Tryz.prog.info? 67).map (fun i=>(i.zero,i.size,i.bytes))=some (some (.agg #[.int .i64 0,.int .i64 0]),2,16):=by kernel_rfl
theorem info_kp9:(Tryz.prog.info? 103).map (fun i=>(i.zero,i.size,i.bytes))=some (some (.agg #[.int .i64 0,.int .i64 0]),2,16):=by kernel_rfl
section
variable {K:Kw} {w0:World} {D:Nat} {vi vo:Value} {W:World} {q:MkQ} {s:Mk}
def NIs (K:Kw) (w0:World) (D:Nat) (vi vo:Value) (q:MkQ) (W:World) (s:Mk) (w':World):Prop:=∃q',MkAt K w0 D vi vo w' q' s∧MFr D q W q' w'
set_option maxRecDepth 100000 in
set_option maxHeartbeats 4000000 in
theorem mkact_any (h:MkAt K w0 D vi vo W q s) (x:Ac) (hi:AcIn x) (hl:s.acts.length≤1000000000):
  Calls Tryz.prog 41 #[.pointer (some ⟨D,0,none⟩),acV x] W fun r w'=>r= .returned (.int .i64 x.dst)∧NIs K w0 D vi vo q W (s.act x) w':=by
 obtain ⟨i0,hi0,hz0,hz1,hz2⟩:=info_parts info_ac9
 obtain ⟨vw,va,vc,vk,P⟩:=q
 obtain ⟨A,c,hva,hnil,_⟩:=own_src h.oa
 dsimp only at hva
 subst hva
 have hB:=h.bel.size
 have hlo:=h.lo
 have hDl:=h.row.lt
 obtain ⟨d0,d1,d2,d3,d4,d5,d6,d7⟩:=h.cells
 dsimp only at d0 d1 d2 d3 d6
 obtain ⟨op,dst,a,b,c',k⟩:=x
 have b1:Below W.heap.size W (W.alloc (.cells #[.int .i64 op,.int .i64 dst,.int .i64 a,.int .i64 b,.int .i64 c',.int .i64 k] 58)):=bE
 have r1:=Row.new W #[.int .i64 op,.int .i64 dst,.int .i64 a,.int .i64 b,.int .i64 c',.int .i64 k] 58
 have HH:=Lib.hid h
 have HI:=Lib.hid hi
 have HNW:Hid (¬OwnQ ⟨vw,.slice A s.acts.length c,vc,vk,P⟩ W.heap.size):=fun g=>by have:=(h.ownq g).2.1;omega
 clear h hi
 have HOA:=Lib.hid (fun W' (hW:Below W.heap.size W W')=>own_below HH.out.oa hW)
 have HBX:=Lib.hid (fun k (hk:(Value.slice A s.acts.length c).ownBlock=some k)=>(HH.out.oa.lt k hk).2)
 have HAD:=Lib.hid (fun Wa W15 v15 (hb:Below W.heap.size W Wa) h1 h2 h3=>HH.out.addA (a:=⟨op,dst,a,b,c',k⟩) (Wa:=Wa) (W15:=W15) (v15:=v15) hb h1 h2 h3 HI.out)
 have HRD:=Lib.hid (fun Wa W15 (hb:Below W.heap.size W Wa) (hg:Wa.grownBy W15 (Value.slice A s.acts.length c).ownBlock)=>(HH.out.grown (i:=1) (v15:=undef) hb hg (fun k hk=> .inr (.inl hk))).2.2)
 go_enter Tryz.func41,Tryz.ntmps41
 go_upto_region 1 with (fail)
 generalize W.alloc (.cells #[.int .i64 op,.int .i64 dst,.int .i64 a,.int .i64 b,.int .i64 c',.int .i64 k] 58)=w1 at*
 have hs1:=b1.size
 have h1l:=r1.lt
 generalize hbx:W.heap.size=bx at*
 have HK:Hid (∀W',Below w1.heap.size w1 W'→W'.cell? ⟨D,1,none⟩=some (.slice A s.acts.length c)∧(W'.cell? ⟨bx,0,none⟩=some (.int .i64 op)∧W'.cell? ⟨bx,1,none⟩=some (.int .i64 dst)∧W'.cell? ⟨bx,2,none⟩=some (.int .i64 a)∧W'.cell? ⟨bx,3,none⟩=some (.int .i64 b)∧W'.cell? ⟨bx,4,none⟩=some (.int .i64 c')∧W'.cell? ⟨bx,5,none⟩=some (.int .i64 k))):=fun W' hW=>
  ⟨((b1.trans (hW.mono hs1)).cell (p:=⟨D,1,none⟩) (by dsimp only;omega)).trans d1,(r1.below hW r1.lt).six'⟩
 clear d0 d1 d2 d3 d4 d5 d6 d7
 refine wp_region_L 12 (S:=fun W=>W.cell? ⟨D,1,none⟩=some (.slice A s.acts.length c)∧(W.cell? ⟨bx,0,none⟩=some (.int .i64 op)∧W.cell? ⟨bx,1,none⟩=some (.int .i64 dst)∧W.cell? ⟨bx,2,none⟩=some (.int .i64 a)∧W.cell? ⟨bx,3,none⟩=some (.int .i64 b)∧W.cell? ⟨bx,4,none⟩=some (.int .i64 c')∧W.cell? ⟨bx,5,none⟩=some (.int .i64 k))) (by kernel_rfl) ?_ (fun hHeld=>?_)
 ·(try dsimp only);(first|exact HS13.out|(with_reducible exact HK.out _ bE))
 refine tkL 0 (some 5) rfl ?_
 refine tkL 1 (some 6) rfl ?_
 refine tkL 2 (some 7) rfl ?_
 refine tkL 3 (some 8) rfl ?_
 refine tkL 4 (some 9) rfl ?_
 refine tkL 5 (some 10) rfl ?_
 refine tkL 6 (some 11) rfl ?_
 refine rdL 7 (some 12) rfl (fun KK hKK=>?_)
 go_simp
 refine hKK.out _ _ ?_ (fun hHeld=>?_)
 ·(try dsimp only);(first|exact HS13.out|(with_reducible exact HK.out _ bE))
 clear hKK KK
 try simp only[Act.put,List.setIfInBounds_toArray,List.set_cons_zero,List.set_cons_succ]
 refine rdL 8 (some 13) rfl (fun KK hKK=>?_)
 (rw[if_pos (by kernel_rfl)];refine step_ownB (.tmp 10) (.tmp 12) 23 rfl w0.heap.size 58 i0 (.agg #[.int .i64 0,.int .i64 0,.int .i64 0,.int .i64 0,.int .i64 0,.int .i64 0]) 6 48 Tryz.underlying23 hi0 hz0 hz1 hz2 rfl (by decide) _ s.acts.length (acF s.acts) rfl (HOA.out _ (b1.trans (Below.mono (bE:Below w1.heap.size w1 _) hs1))) ⟨_,0,none⟩ 1 1 [.int .i64 op,.int .i64 dst,.int .i64 a,.int .i64 b,.int .i64 c',.int .i64 k] rfl rfl (cells_new _ _ _) (by intro u hu;simp at hu;rcases hu with rfl|rfl|rfl|rfl|rfl|rfl<;>rfl) (by unfold maxLen;omega) (by omega) (by first|omega|(simp;omega)) ?_;intro v13 w13 hown13 hg13 hv13;(have HA13:=Lib.hid (HAD.out _ w13 v13 (b1.trans (Below.mono (bE:Below w1.heap.size w1 _) hs1)) hown13 hg13 hv13));(have rD13:=HRD.out _ w13 (b1.trans (Below.mono (bE:Below w1.heap.size w1 _) hs1)) hg13);(have rX13:=(r1.below (bE:Below w1.heap.size w1 _) r1.lt).grownE hg13 (fun e=>by have:=HBX.out _ e;omega));(have q13:=rD13.cell 1);(have z13:=rD13.frozen 1);(have l13:=rD13.lt);(simp only[List.getElem?_toArray,List.getElem?_cons_zero,List.getElem?_cons_succ] at q13);(have HS13:=Lib.hid (And.intro q13 rX13.six'));(obtain ⟨A13,c13,hv13',_⟩:=own_src hown13);subst hv13')
 refine hKK.out _ _ ?_ (fun hHeld=>?_)
 ·(try dsimp only);(first|exact HS13.out|(with_reducible exact HK.out _ bE))
 clear hKK KK
 try simp only[Act.put,List.setIfInBounds_toArray,List.set_cons_zero,List.set_cons_succ]
 refine rdL 9 (some 14) rfl (fun KK hKK=>?_)
 go_simp
 refine hKK.out _ _ ?_ (fun hHeld=>?_)
 ·(try dsimp only);(first|exact HS13.out|(with_reducible exact HK.out _ bE))
 clear hKK KK
 try simp only[Act.put,List.setIfInBounds_toArray,List.set_cons_zero,List.set_cons_succ]
 refine rdL 10 (some 15) rfl (fun KK hKK=>?_)
 go_simp
 refine hKK.out _ _ ?_ (fun hHeld=>?_)
 ·(try dsimp only);(first|exact HS13.out|(with_reducible exact HK.out _ bE))
 clear hKK KK
 try simp only[Act.put,List.setIfInBounds_toArray,List.set_cons_zero,List.set_cons_succ]
 refine rdL 11 (some 16) rfl (fun KK hKK=>?_)
 go_simp
 refine hKK.out _ _ ?_ (fun hHeld=>?_)
 ·(try dsimp only);(first|exact HS13.out|(with_reducible exact HK.out _ bE))
 clear hKK KK
 try simp only[Act.put,List.setIfInBounds_toArray,List.set_cons_zero,List.set_cons_succ]
 refine rdE none rfl (fun KK hKK=>?_)
 go_simp
 refine hKK.out _ _ ?_
 clear hKK KK
 try simp only[Act.put,List.setIfInBounds_toArray,List.set_cons_zero,List.set_cons_succ]
 refine wpAnyL_done (by kernel_rfl) ?_ _
 obtain ⟨e0,e1,e2,e3,e4,e5⟩:=(rX13.far (p:=⟨D,1,none⟩) (by dsimp only;omega) (.slice A13 (s.acts.length+1) c13)).six'
 clear hown13 hg13 hv13 HS13 rX13 rD13 q13 z13 hHeld HAD HRD HOA HBX HK
 go_wp2_with fail
 go_ret
 exact ⟨rfl,_,HA13.out.1,HA13.out.2⟩
set_option maxRecDepth 100000 in
set_option maxHeartbeats 4000000 in
theorem mkwire_any (h:MkAt K w0 D vi vo W q s) (ty:Int) (v:Value) (c:List Gd) (hty:Wf ty) (hc:CkAt D q W v c):
  Calls Tryz.prog 80 #[.pointer (some ⟨D,0,none⟩),.int .i64 ty,v] W fun r w'=>r= .returned (.int .i64 (s.wire ty c).1)∧NIs K w0 D vi vo q W (s.wire ty c).2 w':=by
 obtain ⟨i0,hi0,hz0,hz1,hz2⟩:=info_parts info_wr9
 obtain ⟨vw,va,vc,vk,P⟩:=q
 obtain ⟨css,how,hae⟩:=h.ow
 obtain ⟨A,cw,hva,hnil,_⟩:=own_src how
 dsimp only at hva
 subst hva
 have hcw:cw≤9223372036854775807:=by
  obtain ⟨A',c',he,_,hm,_⟩:=own_rd how
  injection he with _ _ he
  unfold maxLen at hm
  omega
 have hB:=h.bel.size
 have hlo:=h.lo
 have hDl:=h.row.lt
 have hlw:=h.lw
 obtain ⟨d0,d1,d2,d3,d4,d5,d6,d7⟩:=h.cells
 have f0:=h.row.frozen 0
 have f7:=h.row.frozen 7
 dsimp only at d0 d1 d2 d3 d6
 obtain ⟨Ac,cc,rfl,lc,mc,sc,nc⟩:=hc
 have mc':cc≤9223372036854775807:=by unfold maxLen at mc;omega
 have HC:Hid (CkAt D ⟨.slice A s.wires.length cw,va,vc,vk,P⟩ W (.slice Ac c.length cc) c):=⟨Ac,cc,rfl,lc,mc,sc,nc⟩
 clear sc nc
 by_cases hfull:1600≤s.wires.length
 ·have HS:=Lib.hid h.spend
  have HE:Hid (s.wire ty c=(0,{s with spent:=true})):=if_pos hfull
  have g1:decide ((1600:Int)≤(s.wires.length:Int))=true:=by simp;omega
  have rD:=h.row.set 7 (.bool true)
  clear h how hae hfull
  go_enter Tryz.func80,Tryz.ntmps80
  go_wp2_with fail
  go_ret
  rw[HE.out]
  exact ⟨rfl,_,HS.out⟩
 ·have g1:decide ((1600:Int)≤(s.wires.length:Int))=false:=by simp;omega
  have HE:Hid (s.wire ty c=((s.wires.length:Int),{s with wires:=s.wires++ [⟨ty,c⟩]})):=if_neg hfull
  have hfl:s.wires.length<1600:=by omega
  have b1:Below W.heap.size W (W.alloc (.cells #[.int .i64 ty,.slice Ac c.length cc] 52)):=bE
  have HOW:=Lib.hid (own_below how b1)
  have HN:=Lib.hid (cells_new W 52 [.int .i64 ty,.slice Ac c.length cc])
  have HAD:=Lib.hid (fun W15 v15 h1 h2 h3=>h.addW (Wa:=W.alloc (.cells #[.int .i64 ty,.slice Ac c.length cc] 52)) (W15:=W15) (v15:=v15) (vx:= .slice Ac c.length cc) (ty:=ty) (c:=c) b1 how hae h1 h2 h3 HC.out hty hfl)
  have HRD:=Lib.hid (fun W15 (hg:(W.alloc (.cells #[.int .i64 ty,.slice Ac c.length cc] 52)).grownBy W15 (Value.slice A s.wires.length cw).ownBlock)=>(h.grown (i:=0) (v15:=undef) b1 hg (fun k hk=> .inl hk)).2.2)
  clear h how hae hfull
  go_enter Tryz.func80,Tryz.ntmps80
  go_wp2_with (at_builtin;refine wpList_append_own_at _ rfl _ _ 22 rfl w0.heap.size 52 i0 (.agg #[.int .i64 0,.slice none 0 0]) 2 32 Tryz.underlying22 hi0 hz0 hz1 hz2 rfl (by decide) _ _ _ rfl HOW.out ⟨W.heap.size,0,none⟩ 1 1 [.int .i64 ty,.slice Ac c.length cc] rfl ?c0 ?c1 ?c2 ?c3 ?c4 ?c5 ?_)
  all_goals try first|rfl|exact ⟨rfl,rfl⟩|exact HN.out|(intro u hu;simp at hu;rcases hu with rfl|rfl<;>rfl)|(unfold maxLen;omega)|omega|(simp;omega)
  intro v13 w13 hown13 hg13 _ hv13
  have HA13:=Lib.hid (HAD.out w13 v13 hown13 hg13 (by simpa using hv13))
  have rD13:=HRD.out w13 hg13
  have q0:=rD13.cell 0
  have z0:=rD13.frozen 0
  have l13:=rD13.lt
  simp only[List.getElem?_toArray,List.getElem?_cons_zero] at q0
  obtain ⟨A13,c13,hv13',_⟩:=own_src hown13
  subst hv13'
  have q9:=(rD13.set 0 (.slice A13 (s.wires.length+1) c13)).cell 0
  simp at q9
  clear hown13 hg13 hv13 rD13 HAD HRD HOW HN
  go_wp2_with fail
  go_ret
  rw[HE.out]
  exact ⟨by simp,_,HA13.out.1,HA13.out.2⟩
set_option maxRecDepth 100000 in
set_option maxHeartbeats 4000000 in
theorem mkcell_any (h:MkAt K w0 D vi vo W q s) (ty k:Int) (hty:Wf ty) (hk:Wf k):
  Calls Tryz.prog 104 #[.pointer (some ⟨D,0,none⟩),.int .i64 ty,.int .i64 k] W fun r w'=>r= .returned (.int .i64 (s.cell ty k).1)∧NIs K w0 D vi vo q W (s.cell ty k).2 w':=by
 obtain ⟨i0,hi0,hz0,hz1,hz2⟩:=info_parts info_cl9
 obtain ⟨vw,va,vc,vk,P⟩:=q
 have how:=h.oc
 obtain ⟨A,cw,hva,hnil,_⟩:=own_src how
 dsimp only at hva
 subst hva
 have hcw:cw≤9223372036854775807:=by
  obtain ⟨A',c',he,_,hm,_⟩:=own_rd how
  injection he with _ _ he
  unfold maxLen at hm
  omega
 have hB:=h.bel.size
 have hlo:=h.lo
 have hDl:=h.row.lt
 have hlc:=h.lc
 obtain ⟨d0,d1,d2,d3,d4,d5,d6,d7⟩:=h.cells
 have f2:=h.row.frozen 2
 have f7:=h.row.frozen 7
 dsimp only at d0 d1 d2 d3 d6
 by_cases hfull:60≤s.cells.length
 ·have HS:=Lib.hid h.spend
  have HE:Hid (s.cell ty k=(0,{s with spent:=true})):=if_pos hfull
  have g1:decide ((60:Int)≤(s.cells.length:Int))=true:=by simp;omega
  clear h how hfull
  go_enter Tryz.func104,Tryz.ntmps104
  go_wp2_with fail
  go_ret
  rw[HE.out]
  exact ⟨rfl,_,HS.out⟩
 ·have g1:decide ((60:Int)≤(s.cells.length:Int))=false:=by simp;omega
  have HE:Hid (s.cell ty k=((s.cells.length:Int),{s with cells:=s.cells++ [(ty,k)]})):=if_neg hfull
  have hfl:s.cells.length<60:=by omega
  have b1:Below W.heap.size W (W.alloc (.cells #[.int .i64 ty,.int .i64 k] 67)):=bE
  have HOW:=Lib.hid (own_below how b1)
  have HN:=Lib.hid (cells_new W 67 [.int .i64 ty,.int .i64 k])
  have HAD:=Lib.hid (fun W15 v15 h1 h2 h3=>h.addC (Wa:=W.alloc (.cells #[.int .i64 ty,.int .i64 k] 67)) (W15:=W15) (v15:=v15) (x:=(ty,k)) b1 h1 h2 h3 ⟨hty,hk⟩ hfl)
  have HRD:=Lib.hid (fun W15 (hg:(W.alloc (.cells #[.int .i64 ty,.int .i64 k] 67)).grownBy W15 (Value.slice A s.cells.length cw).ownBlock)=>(h.grown (i:=2) (v15:=undef) b1 hg (fun k hk=> .inr (.inr (.inl hk)))).2.2)
  clear h how hfull
  go_enter Tryz.func104,Tryz.ntmps104
  go_wp2_with (at_builtin;refine wpList_append_own_at _ rfl _ _ 24 rfl w0.heap.size 67 i0 (.agg #[.int .i64 0,.int .i64 0]) 2 16 Tryz.underlying24 hi0 hz0 hz1 hz2 rfl (by decide) _ _ _ rfl HOW.out ⟨W.heap.size,0,none⟩ 1 1 [.int .i64 ty,.int .i64 k] rfl ?c0 ?c1 ?c2 ?c3 ?c4 ?c5 ?_)
  all_goals try first|rfl|exact ⟨rfl,rfl⟩|exact HN.out|(intro u hu;simp at hu;rcases hu with rfl|rfl<;>rfl)|(unfold maxLen;omega)|omega|(simp;omega)
  intro v13 w13 hown13 hg13 _ hv13
  have HA13:=Lib.hid (HAD.out w13 v13 hown13 hg13 (by simpa using hv13))
  have rD13:=HRD.out w13 hg13
  have q0:=rD13.cell 2
  have z0:=rD13.frozen 2
  have l13:=rD13.lt
  simp only[List.getElem?_toArray,List.getElem?_cons_zero,List.getElem?_cons_succ] at q0
  obtain ⟨A13,c13,hv13',_⟩:=own_src hown13
  subst hv13'
  have q9:=(rD13.set 2 (.slice A13 (s.cells.length+1) c13)).cell 2
  simp at q9
  clear hown13 hg13 hv13 rD13 HAD HRD HOW HN
  go_wp2_with fail
  go_ret
  rw[HE.out]
  exact ⟨by simp,_,HA13.out.1,HA13.out.2⟩
set_option maxRecDepth 100000 in
set_option maxHeartbeats 4000000 in
theorem mkkeep_any (h:MkAt K w0 D vi vo W q s) (ty k:Int) (hty:Wf ty) (hk:Wf k) (hl:s.keeps.length≤1000000000):
  Calls Tryz.prog 105 #[.pointer (some ⟨D,0,none⟩),.int .i64 ty,.int .i64 k] W fun r w'=>r= .returned (.tuple #[])∧NIs K w0 D vi vo q W (s.keep ty k) w':=by
 obtain ⟨i0,hi0,hz0,hz1,hz2⟩:=info_parts info_kp9
 obtain ⟨vw,va,vc,vk,P⟩:=q
 have how:=h.ok
 obtain ⟨A,cw,hva,hnil,_⟩:=own_src how
 dsimp only at hva
 subst hva
 have hB:=h.bel.size
 have hlo:=h.lo
 have hDl:=h.row.lt
 obtain ⟨d0,d1,d2,d3,d4,d5,d6,d7⟩:=h.cells
 dsimp only at d0 d1 d2 d3 d6
 have b1:Below W.heap.size W (W.alloc (.cells #[.int .i64 ty,.int .i64 k] 103)):=bE
 have HOW:=Lib.hid (own_below how b1)
 have HN:=Lib.hid (cells_new W 103 [.int .i64 ty,.int .i64 k])
 have HAD:=Lib.hid (fun W15 v15 h1 h2 h3=>h.addK (Wa:=W.alloc (.cells #[.int .i64 ty,.int .i64 k] 103)) (W15:=W15) (v15:=v15) (x:=(ty,k)) b1 h1 h2 h3 ⟨hty,hk⟩)
 have HRD:=Lib.hid (fun W15 (hg:(W.alloc (.cells #[.int .i64 ty,.int .i64 k] 103)).grownBy W15 (Value.slice A s.keeps.length cw).ownBlock)=>(h.grown (i:=3) (v15:=undef) b1 hg (fun k hk=> .inr (.inr (.inr (.inl hk))))).2.2)
 clear h how
 go_enter Tryz.func105,Tryz.ntmps105
 go_wp2_with (at_builtin;refine wpList_append_own_at _ rfl _ _ 25 rfl w0.heap.size 103 i0 (.agg #[.int .i64 0,.int .i64 0]) 2 16 Tryz.underlying25 hi0 hz0 hz1 hz2 rfl (by decide) _ _ _ rfl HOW.out ⟨W.heap.size,0,none⟩ 1 1 [.int .i64 ty,.int .i64 k] rfl ?c0 ?c1 ?c2 ?c3 ?c4 ?c5 ?_)
 all_goals try first|rfl|exact ⟨rfl,rfl⟩|exact HN.out|(intro u hu;simp at hu;rcases hu with rfl|rfl<;>rfl)|(unfold maxLen;omega)|omega|(simp;omega)
 intro v13 w13 hown13 hg13 _ hv13
 have HA13:=Lib.hid (HAD.out w13 v13 hown13 hg13 (by simpa using hv13))
 have rD13:=HRD.out w13 hg13
 have q0:=rD13.cell 3
 have z0:=rD13.frozen 3
 have l13:=rD13.lt
 simp only[List.getElem?_toArray,List.getElem?_cons_zero,List.getElem?_cons_succ] at q0
 obtain ⟨A13,c13,hv13',_⟩:=own_src hown13
 subst hv13'
 clear hown13 hg13 hv13 rD13 HAD HRD HOW HN
 go_wp2_with fail
 go_end0
 exact ⟨rfl,_,HA13.out.1,HA13.out.2⟩
end
end Go.Proofs.YtckognjamlckcaaGreatDoor
