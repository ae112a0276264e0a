/-
  The example of layer 25. The example of layer 25: it is right. The walk of the law FoldAgain.
-/
import Derived.Test.YtckognjamlckcaaSemP
import Derived.Test.YtckognjamlckcaaFldU
import Derived.Test.YtckognjamlckcaaFolP
import Derived.Test.YtckognjamlckcaaFolR
import Derived.Test.YtckognjamlckcaaSemC
import Derived.Test.YtckognjamlckcaaSemIJ
namespace Go.Proofs.Ytckognjamlckcaa
open Go.RowKit Vf Fo
attribute [local go_sem ↓] Go.wp_at_zero Go.wp_at_succ
def SumIs (w:World) (e:Ending) (w':World):Prop:=∃v0 v1 v2 v3 v4 v5,e= .returned (fmV v0 v1 v2 v3 v4 v5)∧FmAt w' w'.heap.size fS v0 v1 v2 v3 v4 v5∧Below w.heap.size w w'
structure SmS (w:World) (k:Nat) (v:Value) (W:World):Prop where
 rO:Row W w.heap.size zf6 28
 r0:Row W (w.heap.size+1) #[.int .i64 0] 3
 r4:Row W (w.heap.size+1+1) #[.int .i64 4] 3
 rF:Row W (w.heap.size+1+1+1) #[v,.slice none 0 0,.slice none 0 0,.slice none 0 0,.slice (some ⟨w.heap.size+1,0,none⟩) 1 1,.slice (some ⟨w.heap.size+1+1,0,none⟩) 1 1] 28
 own:W.ownsRow (w.heap.size+4) 44 2 v k ((List.replicate k (wr0 ⟨1,[]⟩)).flatten)
 bel:Below w.heap.size w W
theorem SmS.below {w W W':World} {k:Nat} {v:Value} (h:SmS w k v W) (hb:Below W.heap.size W W'):SmS w k v W':=
 ⟨h.rO.below hb h.rO.lt,h.r0.below hb h.r0.lt,h.r4.below hb h.r4.lt,h.rF.below hb h.rF.lt,own_below h.own hb,h.bel.trans (hb.mono h.bel.size)⟩
theorem SmS.next {w W W':World} {k:Nat} {v v':Value} (h:SmS w k v W) (hg:W.grownBy W' v.ownBlock) (ho:W'.ownsRow (w.heap.size+4) 44 2 v' (k+1) ((List.replicate k (wr0 ⟨1,[]⟩)).flatten++ [.int .i64 1,.slice none 0 0])):
  SmS w (k+1) v' (W'.setCell ⟨w.heap.size+1+1+1,0,none⟩ v')∧W'.cell? ⟨w.heap.size+1+1+1,0,none⟩=some v∧W'.frozen? ⟨w.heap.size+1+1+1,0,none⟩=false:=by
 have gO:=h.rO.grownE hg (own_ne h.own h.rO (by decide))
 have g0:=h.r0.grownE hg (own_ne h.own h.r0 (by decide))
 have g4:=h.r4.grownE hg (own_ne h.own h.r4 (by decide))
 have gF:=h.rF.grownE hg (own_ne h.own h.rF (by decide))
 have u:=Upd.setCell (X:=fun k=>k=w.heap.size+1+1+1) (p:=⟨w.heap.size+1+1+1,0,none⟩) (Upd.refl _ W') rfl v'
 have hb:Below w.heap.size w W':=by
  have:=Upd.grow (X:=fun k=>w.heap.size≤k) (Upd.of_below (X:=fun k=>w.heap.size≤k) h.bel) hg (fun g hg'=>by have:=(h.own.lt g hg').1;omega)
  exact this.below (fun k hk=>hk) (Nat.le_refl _)
 refine ⟨⟨u.row gO (by omega),u.row g0 (by omega),u.row g4 (by omega),?_,?_,hb.trans (u.below (fun k hk=>by omega) hb.size)⟩,(gF.cell 0).trans rfl,gF.frozen 0⟩
 ·have:=gF.set 0 v'
  simpa using this
 ·have h2:=own_updE ho u (fun q hq e=>own_ne ho gF (by decide) (by rw[←e];exact hq))
  have e:(List.replicate (k+1) (wr0 ⟨1,[]⟩)).flatten=(List.replicate k (wr0 ⟨1,[]⟩)).flatten++ [.int .i64 1,.slice none 0 0]:=by
   rw[List.replicate_succ',List.flatten_append]
   rfl
  rw[e]
  exact h2
set_option maxRecDepth 100000 in
set_option maxHeartbeats 8000000 in
theorem sum_any (w:World):Calls Try.prog 19 #[] w (SumIs w):=by
 go_enter Try.func19,Try.ntmps19
 go_upto_region 2 with (fail)
 generalize hW:World.alloc (World.alloc (World.alloc (World.alloc w _) _) _) _=w1
 have HS1:Hid (SmS w 0 (.slice none 0 0) w1):=by
  rw[←hW]
  exact ⟨(((Row.new w _ _).alloc _).alloc _).alloc _,((rowNew2 w _ _ _).alloc _).alloc _,(rowN3 w _ _ _ _).alloc _,rowN4 w _ _ _ _ _,⟨rfl,.inl ⟨rfl,rfl⟩⟩,bE⟩
 clear hW
 go_wp2_with fail
 go_loopw[5] (fun i wr=>∃(k:Nat) (v:Value),k≤5∧i= .int .i64 k∧Hid (SmS w k v wr)) (fun i _=>5-(intOf i).toNat)
 case atStart=>exact ⟨0,_,Nat.zero_le _,rfl,HS1.out⟩
 case round=>
  clear HS1
  obtain ⟨k,v,hk,rfl,HS⟩:=hrel
  by_cases hlt:k<5
  ·have hk':(k:Int)<5:=by omega
   have ha:Below wr.heap.size wr (wr.alloc (.cells #[.int .i64 1,.slice none 0 0] 44)):=bE
   have HSA:=Lib.hid (HS.out.below ha)
   obtain ⟨A,c,hv,hnil,_⟩:=own_src HS.out.own
   subst hv
   have p0:=(HS.out.rF.cell 0).trans (show _=some (Value.slice A k c) from rfl)
   have hFl:=HS.out.rF.lt
   have HN14:Hid (∀j u,[Value.int .i64 1,.slice none 0 0][j]? =some u→(wr.alloc (.cells #[.int .i64 1,.slice none 0 0] 44)).cell? ((⟨wr.heap.size,0,none⟩:Addr).add j)=some u):=cells_new wr 44 [.int .i64 1,.slice none 0 0]
   obtain ⟨i1,hi1,hy0,hy1,hy2⟩:=info_parts info_wr
   go_wp2_with (at_builtin;refine wpList_append_own _ rfl _ _ 22 rfl (w.heap.size+4) 44 i1 (.agg #[.int .i64 0,.slice none 0 0]) 2 32 Try.underlying22 hi1 hy0 hy1 hy2 rfl (by decide) _ _ _ rfl HSA.out.own ⟨wr.heap.size,0,none⟩ 1 1 [.int .i64 1,.slice none 0 0] rfl ?c0 ?c1 ?c2 ?c3 ?c4 ?c5 ?_)
   case c0=>rfl
   case c1=>exact HN14.out
   case c2=>intro u hu;simp at hu;rcases hu with rfl|rfl<;>rfl
   case c3=>unfold maxLen;omega
   case c4=>omega
   case c5=>simp;omega
   intro v15 w15 hown15 hg15 _
   obtain ⟨s1,q0,z0⟩:=HSA.out.next hg15 hown15
   have HS':=Lib.hid s1
   obtain ⟨A15,c15,hv15,_⟩:=own_src hown15
   subst hv15
   clear hown15 hg15 s1 HSA HN14 HS p0 ha
   go_wp2_with fail
   go_roundw
   case rel=>exact ⟨k+1,_,by omega,by go_num,HS'.out⟩
   case measure=>simp[intOf];omega
  obtain rfl:k=5:=by omega
  have ba:Below wr.heap.size wr (wr.alloc (.cells #[.int .i64 1,.int .i64 1,.int .i64 0,.int .i64 0,.int .i64 0,.int .i64 2,.int .i64 1,.int .i64 2,.int .i64 0,.int .i64 0,.int .i64 0,.int .i64 3,.int .i64 9,.int .i64 3,.int .i64 1,.int .i64 2,.int .i64 0,.int .i64 0,.int .i64 7,.int .i64 4,.int .i64 0,.int .i64 3,.int .i64 0,.int .i64 0] 50)):=bE
  have SA:=HS.out.below ba
  obtain ⟨A,c,hv,hnil,_⟩:=own_src HS.out.own
  subst hv
  have rA:=Row.new wr #[.int .i64 1,.int .i64 1,.int .i64 0,.int .i64 0,.int .i64 0,.int .i64 2,.int .i64 1,.int .i64 2,.int .i64 0,.int .i64 0,.int .i64 0,.int .i64 3,.int .i64 9,.int .i64 3,.int .i64 1,.int .i64 2,.int .i64 0,.int .i64 0,.int .i64 7,.int .i64 4,.int .i64 0,.int .i64 3,.int .i64 0,.int .i64 0] 50
  have hFl:=HS.out.rF.lt
  have hsw:=HS.out.bel.size
  have q1:=(SA.rF.cell 1).trans (show _=some (Value.slice none 0 0) from rfl)
  have z1:=SA.rF.frozen 1
  have HSS:=Lib.hid HS.out
  have hswr:=hFl
  clear SA rA ba HS
  go_upto_region 7 with (fail)
  have uF:=Upd.setCell (X:=fun k=>k=w.heap.size+1+1+1) (p:=⟨w.heap.size+1+1+1,1,none⟩) (Upd.refl _ wr) rfl (.slice (some ⟨wr.heap.size,0,none⟩) 4 4)
  have hsz:(wr.setCell ⟨w.heap.size+1+1+1,1,none⟩ (.slice (some ⟨wr.heap.size,0,none⟩) 4 4)).heap.size=wr.heap.size:=by simp[World.setCell]
  have b6:Below (wr.setCell ⟨w.heap.size+1+1+1,1,none⟩ (.slice (some ⟨wr.heap.size,0,none⟩) 4 4)).heap.size (wr.setCell ⟨w.heap.size+1+1+1,1,none⟩ (.slice (some ⟨wr.heap.size,0,none⟩) 4 4)) ((wr.setCell ⟨w.heap.size+1+1+1,1,none⟩ (.slice (some ⟨wr.heap.size,0,none⟩) 4 4)).alloc (.cells #[.int .i64 1,.int .i64 1,.int .i64 0,.int .i64 0,.int .i64 0,.int .i64 2,.int .i64 1,.int .i64 2,.int .i64 0,.int .i64 0,.int .i64 0,.int .i64 3,.int .i64 9,.int .i64 3,.int .i64 1,.int .i64 2,.int .i64 0,.int .i64 0,.int .i64 7,.int .i64 4,.int .i64 0,.int .i64 3,.int .i64 0,.int .i64 0] 50)):=bE
  have s0:=HSS.out.rF.set 1 (.slice (some ⟨wr.heap.size,0,none⟩) 4 4)
  have rF7:=s0.below b6 s0.lt
  have s1:=uF.row HSS.out.rO (by omega)
  have rO7:=s1.below b6 s1.lt
  have s2:=uF.row HSS.out.r0 (by omega)
  have r07:=s2.below b6 s2.lt
  have s3:=uF.row HSS.out.r4 (by omega)
  have r47:=s3.below b6 s3.lt
  have rA7:=Row.new (wr.setCell ⟨w.heap.size+1+1+1,1,none⟩ (.slice (some ⟨wr.heap.size,0,none⟩) 4 4)) #[.int .i64 1,.int .i64 1,.int .i64 0,.int .i64 0,.int .i64 0,.int .i64 2,.int .i64 1,.int .i64 2,.int .i64 0,.int .i64 0,.int .i64 0,.int .i64 3,.int .i64 9,.int .i64 3,.int .i64 1,.int .i64 2,.int .i64 0,.int .i64 0,.int .i64 7,.int .i64 4,.int .i64 0,.int .i64 3,.int .i64 0,.int .i64 0] 50
  rw[hsz] at rA7
  have own7:=own_below (own_updE HSS.out.own uF (fun q hq e=>own_ne HSS.out.own HSS.out.rF (by decide) (by rw[←e];exact hq))) b6
  have b7:=HSS.out.bel.trans ((uF.below (B:=w.heap.size) (fun k hk=>by omega) HSS.out.bel.size).trans (b6.mono (by rw[hsz];exact hsw)))
  clear uF q1 z1 HSS s0 s1 s2 s3 hsz b6
  generalize (wr.setCell ⟨w.heap.size+1+1+1,1,none⟩ (.slice (some ⟨wr.heap.size,0,none⟩) 4 4)).alloc (.cells #[.int .i64 1,.int .i64 1,.int .i64 0,.int .i64 0,.int .i64 0,.int .i64 2,.int .i64 1,.int .i64 2,.int .i64 0,.int .i64 0,.int .i64 0,.int .i64 3,.int .i64 9,.int .i64 3,.int .i64 1,.int .i64 2,.int .i64 0,.int .i64 0,.int .i64 7,.int .i64 4,.int .i64 0,.int .i64 3,.int .i64 0,.int .i64 0] 50)=w7 at*
  have hwr7:=rA7.lt
  have h07:=r07.lt
  have h47:=r47.lt
  have HFM:Hid (FmAt w7 w7.heap.size fS (.slice A 5 c) (.slice (some ⟨wr.heap.size,0,none⟩) 4 4) (.slice none 0 0) (.slice none 0 0) (.slice (some ⟨w.heap.size+1,0,none⟩) 1 1) (.slice (some ⟨w.heap.size+1+1,0,none⟩) 1 1)):=
   ⟨(own_sl (rel:=isWr w7 w7.heap.size) (l:=fS.wires) (css:=fS.wires.map wr0) own7 (Are.map fun x hx=>by simp[fS] at hx;subst hx;exact isWr0 rfl (wf_little (by decide))) (fun cs hcs=>by simp[fS] at hcs;subst hcs;rfl) (by decide)).1,
    row_flat (C:=acC) (l:=fS.acts) rA7 (fun _=>rfl) (fun x hx=>by
     simp[fS] at hx
     rcases hx with rfl|rfl|rfl|rfl
     ·exact ⟨rfl,acIn_small (by decide)⟩
     ·exact ⟨rfl,acIn_small (by decide)⟩
     ·exact ⟨rfl,acIn_small (by decide)⟩
     ·exact ⟨rfl,acIn_small (by decide)⟩) (by omega) (by simp[maxLen,fS]),
    SlV.nil,SlV.nil,ones_row r07 (wf_little (by decide)) (by omega),ones_row r47 (wf_little (by decide)) (by omega)⟩
  clear rA7 own7 r07 r47
  have rF8:Row w7 (w.heap.size+1+1+1) #[.slice A 5 c,.slice (some ⟨wr.heap.size,0,none⟩) 4 4,.slice none 0 0,.slice none 0 0,.slice (some ⟨w.heap.size+1,0,none⟩) 1 1,.slice (some ⟨w.heap.size+1+1,0,none⟩) 1 1] 28:=by simpa using rF7
  obtain ⟨f0,f1,f2,f3,f4,f5⟩:=rF8.six'
  obtain ⟨q0,q1,q2,q3,q4,q5⟩:=Row.six' (x0:= .slice none 0 0) (x1:= .slice none 0 0) (x2:= .slice none 0 0) (x3:= .slice none 0 0) (x4:= .slice none 0 0) (x5:= .slice none 0 0) rO7
  have z0:=rO7.frozen 0
  have z1:=rO7.frozen 1
  have z2:=rO7.frozen 2
  have z3:=rO7.frozen 3
  have z4:=rO7.frozen 4
  have z5:=rO7.frozen 5
  clear rF7 rF8
  go_wp2_with fail
  refine bodyPost_ret (res1 rfl Try.underlying28 rfl (by kernel_rfl) rfl (Row.set6 rO7 _ _ _ _ _ _)) rfl ⟨_,_,_,_,_,_,rfl,?_,?_⟩
  ·refine (fm_keepO HFM.out rO7 (upd_set6 _ _ _ _ _ _) (Nat.le_refl _)).more ?_
   simp[World.setCell]
  ·exact b7.trans ((upd_set6 _ _ _ _ _ _).below (fun k hk=>by omega) b7.size)
end Go.Proofs.Ytckognjamlckcaa
namespace Go.Proofs.Ytckognjamlckcaa
open Go.RowKit Vf Fo
attribute [local go_sem ↓] Go.wp_at_zero Go.wp_at_succ
theorem rows_one (W:World) {n:Int} (hn:Wf n):SlV ((W.alloc (.cells #[.int .i64 n] 3)).alloc (.cells #[.slice (some ⟨W.heap.size,0,none⟩) 1 1] 26)) ((W.alloc (.cells #[.int .i64 n] 3)).alloc (.cells #[.slice (some ⟨W.heap.size,0,none⟩) 1 1] 26)).heap.size 1 (isRw ((W.alloc (.cells #[.int .i64 n] 3)).alloc (.cells #[.slice (some ⟨W.heap.size,0,none⟩) 1 1] 26)) ((W.alloc (.cells #[.int .i64 n] 3)).alloc (.cells #[.slice (some ⟨W.heap.size,0,none⟩) 1 1] 26)).heap.size) (.slice (some ⟨W.heap.size+1,0,none⟩) 1 1) [[n]]:=by
 have r:=rowNew2 W (.cells #[.int .i64 n] 3) #[.slice (some ⟨W.heap.size,0,none⟩) 1 1] 26
 have b:Below (W.alloc (.cells #[.int .i64 n] 3)).heap.size (W.alloc (.cells #[.int .i64 n] 3)) ((W.alloc (.cells #[.int .i64 n] 3)).alloc (.cells #[.slice (some ⟨W.heap.size,0,none⟩) 1 1] 26)):=bE
 have h:=((one_slv (w:=W) hn).more (B':=(W.alloc (.cells #[.int .i64 n] 3)).heap.size) (by simp)).below b
 refine ⟨_,1,rfl,Nat.le_refl _,by simp[maxLen],fun _=>⟨_,_,rfl,by simp,fun i x hx=>?_⟩⟩
 match i,hx with
 |0,hx=>
  simp at hx
  subst hx
  refine ⟨[.slice (some ⟨W.heap.size,0,none⟩) 1 1],fun j u hu=>?_,_,rfl,h.more (by simp)⟩
  match j,hu with
  |0,hu=>simp at hu;subst hu;exact (r.cell 0).trans rfl
  |j+1,hu=>simp at hu
 |i+1,hx=>simp at hx
theorem rows_next {w W:World} {B:Nat} {v:Value} {l:List (List Int)} (h:SlV w B 1 (isRw w B) v l) (hb:Below B w W) (hB:B≤W.heap.size):SlV W W.heap.size 1 (isRw W W.heap.size) v l:=
 (rowsV_below h hb).keep (fun _ _ _ hc=>hc) hB (fun _ _ _ g=>by
  obtain ⟨v,h1,h2⟩:=g
  exact ⟨v,h1,h2.more hB⟩)
set_option maxRecDepth 100000 in
set_option maxHeartbeats 16000000 in
theorem awake25_any (w:World):Calls Try.prog 7 #[] w fun e w'=>e= .returned (.bool true)∧Below w.heap.size w w':=by
 go_enter Try.func7,Try.ntmps7
 go_wp2_with fail
 (with_reducible refine (sum_any _).mono ?_)
 rintro e w1 ⟨v0,v1,v2,v3,v4,v5,rfl,hfm,b1⟩
 have HO:=Lib.hid (fold_any fS _ _ _ _ _ _ w1 hfm fS_ok (by decide))
 obtain ⟨_,_,rfl,_⟩:=hfm.wires
 obtain ⟨_,_,rfl,_⟩:=hfm.acts
 obtain ⟨_,_,rfl,_⟩:=hfm.cells
 obtain ⟨_,_,rfl,_⟩:=hfm.keeps
 obtain ⟨_,_,rfl,_⟩:=hfm.ins
 obtain ⟨_,_,rfl,_⟩:=hfm.outs
 have hs1:=b1.size
 clear hfm
 go_wp2_with fail
 (with_reducible refine HO.out.mono ?_)
 rintro e w2 ⟨R,A,fr,need,cl,x0,x1,x2,x3,x4,x5,hclo,hrea,rfl,hx,hb2⟩
 have b2:=b1.trans (hb2.mono hs1)
 have hs2:=b2.size
 have h1:=fS_acts hclo hrea
 have HXB:=Lib.hid (hclo.bare fS_ok hrea)
 have HXR:=Lib.hid ((fold_says hclo fS_ok [[1]]).trans fS_rows)
 have HXI:Hid ((madeF fS R A fr need cl).ins.length=1):=by show (List.map _ _).length=1;simp[fS]
 generalize madeF fS R A fr need cl=X at*
 have HX:=Lib.hid hx
 obtain ⟨A0,c0,rfl,_⟩:=hx.wires
 obtain ⟨Ax,cx,hx1,_⟩:=hx.acts
 rw[h1] at hx1
 subst hx1
 obtain ⟨A2,c2,rfl,_⟩:=hx.cells
 obtain ⟨A3,c3,rfl,_⟩:=hx.keeps
 obtain ⟨A4,c4,rfl,_⟩:=hx.ins
 obtain ⟨A5,c5,rfl,_⟩:=hx.outs
 have HA:=Lib.hid h1
 have b3:Below w2.heap.size w2 (w2.alloc (.cells #[.slice A0 X.wires.length c0,.slice Ax 2 cx,.slice A2 X.cells.length c2,.slice A3 X.keeps.length c3,.slice A4 X.ins.length c4,.slice A5 X.outs.length c5] 28)):=bE
 have rX:=Row.new w2 #[.slice A0 X.wires.length c0,.slice Ax 2 cx,.slice A2 X.cells.length c2,.slice A3 X.keeps.length c3,.slice A4 X.ins.length c4,.slice A5 X.outs.length c5] 28
 have HF3:=Lib.hid (HX.out.next b3)
 clear hx hclo hrea hb2 HO h1
 go_upto_region 2 with (fail)
 generalize w2.alloc (.cells #[.slice A0 X.wires.length c0,.slice Ax 2 cx,.slice A2 X.cells.length c2,.slice A3 X.keeps.length c3,.slice A4 X.ins.length c4,.slice A5 X.outs.length c5] 28)=w3 at*
 have hs3:=b3.size
 have HB3:=Lib.hid (b2.trans (b3.mono hs2))
 have hXl:=rX.lt
 have HXR':Hid (∀W,Below w3.heap.size w3 W→Row W w2.heap.size #[.slice A0 X.wires.length c0,.slice Ax 2 cx,.slice A2 X.cells.length c2,.slice A3 X.keeps.length c3,.slice A4 X.ins.length c4,.slice A5 X.outs.length c5] 28):=fun W hW=>rX.below hW hXl
 have HFX:=Lib.hid (fun W (hW:Below w3.heap.size w3 W)=>HF3.out.next hW)
 have HBR:Hid (Calls Try.prog 9 #[fmV (.slice A0 X.wires.length c0) (.slice Ax 2 cx) (.slice A2 X.cells.length c2) (.slice A3 X.keeps.length c3) (.slice A4 X.ins.length c4) (.slice A5 X.outs.length c5)] w3 fun e w'=>e= .returned (.bool true)∧Below w3.heap.size w3 w'):=by
  have:=bare_any HF3.out (by rw[HA.out];decide) (by have:=HXB.out.1.2.2.2.1.2.1;omega)
  rwa [cB_true HXB.out] at this
 clear b1 b2 b3
 obtain ⟨f0,f1,f2,f3,f4,f5⟩:=rX.six'
 go_wp2_with fail
 (with_reducible refine HBR.out.mono ?_)
 rintro e w4 ⟨rfl,hb4⟩
 have HB4:=Lib.hid hb4
 have hs4:=hb4.size
 clear f0 f1 f2 f3 f4 f5 HBR rX
 go_wp2_with fail
 (with_reducible refine (sum_any _).mono ?_)
 rintro e w5 ⟨v0,v1,v2,v3,v4,v5,rfl,hfm,b5⟩
 have HBS:=Lib.hid (bare_any hfm (by decide) (by decide))
 rw[cB_false fS_bare] at HBS
 obtain ⟨_,_,rfl,_⟩:=hfm.wires
 obtain ⟨_,_,rfl,_⟩:=hfm.acts
 obtain ⟨_,_,rfl,_⟩:=hfm.cells
 obtain ⟨_,_,rfl,_⟩:=hfm.keeps
 obtain ⟨_,_,rfl,_⟩:=hfm.ins
 obtain ⟨_,_,rfl,_⟩:=hfm.outs
 have hs5:=b5.size
 have hb5:=hb4.trans (b5.mono hs4)
 clear hfm
 go_wp2_with fail
 (with_reducible refine HBS.out.mono ?_)
 rintro e w6 ⟨rfl,b6⟩
 have hb6:=hb5.trans (b6.mono hb5.size)
 have hs6:=hb6.size
 obtain ⟨f0,f1,f2,f3,f4,f5⟩:=(HXR'.out _ hb6).six'
 have b7:Below w6.heap.size w6 ((w6.alloc (.cells #[.int .i64 1] 3)).alloc (.cells #[.slice (some ⟨w6.heap.size,0,none⟩) 1 1] 26)):=bE
 have hb7:=hb6.trans (b7.mono hs6)
 have HRO:=Lib.hid (rows_any X [[1]] _ _ _ _ _ _ _ _ (HFX.out _ hb7) (rows_one w6 (wf_little (by decide))) HXB.out.1 (by rw[HA.out];decide) (fun x hx=>by
  obtain ⟨A,c,_,_,_,s⟩:=HF3.out.cells
  exact ((s.all (P:=fun (x:Int × Int)=>Wf x.1∧Wf x.2) (fun x cs g=>g.2)) x hx).2) (fun x hx=>by simp at hx;subst hx;rw[HXI.out];rfl) (by decide))
 clear b7 b6 b5 hb4 hb5 hb6
 go_wp2_with fail
 (with_reducible refine HRO.out.mono ?_)
 rintro e w8 ⟨v8,rfl,hv8,b8⟩
 rw[HXR.out] at hv8
 obtain ⟨A8,c8,rfl,l8,m8,s8⟩:=id hv8
 have hb8:=hb7.trans (b8.mono hb7.size)
 have hs8:=hb8.size
 have b9:Below w8.heap.size w8 ((w8.alloc (.cells #[.int .i64 7] 3)).alloc (.cells #[.slice (some ⟨w8.heap.size,0,none⟩) 1 1] 26)):=bE
 have hb9:=hb8.trans (b9.mono hs8)
 have HSM:=Lib.hid (rows_same [[7]] _ _ _ _ (rows_next hv8 b9 b9.size) (rows_one w8 (wf_little (by decide))))
 clear f0 f1 f2 f3 f4 f5 HRO hv8 b8 b9 hb7 hb8
 go_wp2_with fail
 refine Calls.mono HSM.out ?_
 rintro e w10 ⟨rfl,n10,rfl⟩
 go_wp2_with fail
 go_ret
 exact ⟨rfl,below_drewN' (HB3.out.trans (hb9.mono (by have:=HB3.out.size;omega))) _⟩
end Go.Proofs.Ytckognjamlckcaa
namespace Go.Proofs.Ytckognjamlckcaa.foldAgain
open Go.RowKit Vf Fo Ar
attribute [local go_sem ↓] Go.wp_at_zero Go.wp_at_succ
set_option maxRecDepth 100000 in
set_option maxHeartbeats 16000000 in
theorem walk0 (f:Fm) (vw va vc vk vi vo:Value) (w:World) (h:FmAt w w.heap.size f vw va vc vk vi vo):
  Calls Try.prog 6 #[fmV vw va vc vk vi vo] w fun e w'=>e= .returned (.bool true)∧Below w.heap.size w w':=by
 have HCW:Hid (∀x∈f.cells,Wf x.2):=fun x hx=>by
  obtain ⟨A,c,_,_,_,s⟩:=h.cells
  exact (s.all (P:=fun (x:Int × Int)=>Wf x.1∧Wf x.2) (fun x cs g=>g.2) x hx).2
 obtain ⟨Aw,cw,rfl,_,_,_⟩:=id h.wires
 obtain ⟨Aa,ca,rfl,_,_,_⟩:=id h.acts
 obtain ⟨Acc,cc,rfl,_,_,_⟩:=id h.cells
 obtain ⟨Akk,ck,rfl,_,_,_⟩:=id h.keeps
 obtain ⟨Ai,ci,rfl,_,_,_⟩:=id h.ins
 obtain ⟨Ao,co,rfl,_,_,_⟩:=id h.outs
 have b1:Below w.heap.size w (w.alloc (.cells #[(.slice Aw f.wires.length cw),(.slice Aa f.acts.length ca),(.slice Acc f.cells.length cc),(.slice Akk f.keeps.length ck),(.slice Ai f.ins.length ci),(.slice Ao f.outs.length co)] 28)):=bE
 have rF:=Row.new w #[(.slice Aw f.wires.length cw),(.slice Aa f.acts.length ca),(.slice Acc f.cells.length cc),(.slice Akk f.keeps.length ck),(.slice Ai f.ins.length ci),(.slice Ao f.outs.length co)] 28
 have HFM:=Lib.hid (fun W (hW:Below w.heap.size w W)=>h.next hW)
 clear h
 go_enter Try.func6,Try.ntmps6
 go_upto_region 1 with (fail)
 generalize w.alloc (.cells #[(.slice Aw f.wires.length cw),(.slice Aa f.acts.length ca),(.slice Acc f.cells.length cc),(.slice Akk f.keeps.length ck),(.slice Ai f.ins.length ci),(.slice Ao f.outs.length co)] 28)=w1 at*
 have hs1:=b1.size
 have hFl:=rF.lt
 have HF6:Hid (∀W,Below w1.heap.size w1 W→W.cell? ⟨w.heap.size,0,none⟩=some (.slice Aw f.wires.length cw)∧W.cell? ⟨w.heap.size,1,none⟩=some (.slice Aa f.acts.length ca)∧W.cell? ⟨w.heap.size,2,none⟩=some (.slice Acc f.cells.length cc)∧W.cell? ⟨w.heap.size,3,none⟩=some (.slice Akk f.keeps.length ck)∧W.cell? ⟨w.heap.size,4,none⟩=some (.slice Ai f.ins.length ci)∧W.cell? ⟨w.heap.size,5,none⟩=some (.slice Ao f.outs.length co)):=fun W hW=>(rF.below hW hFl).six'
 clear rF
 go_wp2_with fail
 refine (awake25_any _).mono ?_
 rintro e w2 ⟨rfl,hb2⟩
 have b2:=b1.trans (hb2.mono hs1)
 obtain ⟨f0,f1,f2,f3,f4,f5⟩:=HF6.out _ hb2
 have HFW:=Lib.hid (few24_any (HFM.out _ b2) (Nat.le_refl _))
 go_wp2_with fail
 (with_reducible refine HFW.out.mono ?_)
 rintro e w3 ⟨⟨b,rfl,HB⟩,hb3⟩
 have b3:=b2.trans (hb3.mono b2.size)
 have hq3:=hb2.trans (hb3.mono hb2.size)
 clear f0 f1 f2 f3 f4 f5 HFW hb2 hb3 b1 b2
 cases b
 ·go_wp2_with fail
  go_ret
  exact ⟨rfl,b3⟩
 obtain ⟨_,_,hla,hlc,_,hli,hlo⟩:=HB.out rfl
 obtain ⟨f0,f1,f2,f3,f4,f5⟩:=HF6.out _ hq3
 have hs3:=b3.size
 have hs3':=hq3.size
 clear HB
 by_cases h3:f.wires.length≤300
 rotate_left 1
 ·have h3':decide ((300:Int)<f.wires.length)=true:=by rw[decide_eq_true_eq];omega
  clear h3
  go_wp2_with fail
  go_ret
  exact ⟨rfl,b3⟩
 have h3':decide ((300:Int)<f.wires.length)=false:=by rw[decide_eq_false_iff_not];omega
 clear h3
 by_cases hf:formOk f
 rotate_left 1
 ·have HFO:=Lib.hid (fold_no f _ _ _ _ _ _ w3 (HFM.out _ b3) (by omega) hf)
  clear hf
  go_wp2_with fail
  (with_reducible refine HFO.out.mono ?_)
  rintro e w4 ⟨rfl,hb4⟩
  unfold fm0
  have hs4:=hb4.size
  have hb5:Below w3.heap.size w3 (w4.alloc (.cells #[.slice none 0 0,.slice none 0 0,.slice none 0 0,.slice none 0 0,.slice none 0 0,.slice none 0 0] 28)):=bE
  have HB7:=Lib.hid (b3.trans (hb5.mono hs3))
  clear f0 f1 f2 f3 f4 f5 HFO
  go_wp2_with fail
  go_ret
  exact ⟨rfl,HB7.out⟩
 have HFO:=Lib.hid (fold_any f _ _ _ _ _ _ w3 (HFM.out _ b3) hf (by omega))
 have HOK:=Lib.hid hf
 clear hf
 go_wp2_with fail
 (with_reducible refine HFO.out.mono ?_)
 rintro e w4 ⟨R,A,fr,need,cl,v0,v1,v2,v3,v4,v5,hclo,hrea,rfl,hx,hb4⟩
 have HBR:=Lib.hid (hclo.bare HOK.out hrea)
 have hsz:=hclo.sizes
 have HAG:Hid (∀{R2 A2 fr2 need2 cl2},Clo (madeF f R A fr need cl) R2 A2 fr2 need2 cl2→_):=fun {R2 A2 fr2 need2 cl2} h2=>hclo.again HOK.out hrea (R2:=R2) (A2:=A2) (fr2:=fr2) (need2:=need2) (cl2:=cl2) h2
 have hxa:(madeF f R A fr need cl).acts.length≤100000:=by have:=hsz.2.2;omega
 generalize madeF f R A fr need cl=X at*
 obtain ⟨B0,d0,rfl,_⟩:=id hx.wires
 obtain ⟨B1,d1,rfl,_⟩:=id hx.acts
 obtain ⟨B2,d2,rfl,_⟩:=id hx.cells
 obtain ⟨B3,d3,rfl,_⟩:=id hx.keeps
 obtain ⟨B4,d4,rfl,_⟩:=id hx.ins
 obtain ⟨B5,d5,rfl,_⟩:=id hx.outs
 have b5:Below w4.heap.size w4 (w4.alloc (.cells #[(.slice B0 X.wires.length d0),(.slice B1 X.acts.length d1),(.slice B2 X.cells.length d2),(.slice B3 X.keeps.length d3),(.slice B4 X.ins.length d4),(.slice B5 X.outs.length d5)] 28)):=bE
 have rX:=Row.new w4 #[(.slice B0 X.wires.length d0),(.slice B1 X.acts.length d1),(.slice B2 X.cells.length d2),(.slice B3 X.keeps.length d3),(.slice B4 X.ins.length d4),(.slice B5 X.outs.length d5)] 28
 have hb5:=hb4.trans (b5.mono hb4.size)
 have HXM:=Lib.hid (hx.next b5)
 have hs4:=hb4.size
 clear f0 f1 f2 f3 f4 f5 HFO hx hclo hrea hsz
 go_upto_region 6 with (fail)
 generalize hw5:w4.alloc (.cells #[(.slice B0 X.wires.length d0),(.slice B1 X.acts.length d1),(.slice B2 X.cells.length d2),(.slice B3 X.keeps.length d3),(.slice B4 X.ins.length d4),(.slice B5 X.outs.length d5)] 28)=w5 at*
 generalize hG:w4.heap.size=G at*
 have hXl:=rX.lt
 have hs5:=hb5.size
 have HFO2:=Lib.hid (fold_any X _ _ _ _ _ _ w5 HXM.out HBR.out.1 hxa)
 obtain ⟨g0,g1,g2,g3,g4,g5⟩:=rX.six'
 go_wp2_with fail
 (with_reducible refine HFO2.out.mono ?_)
 rintro e w6 ⟨R2,A2,fr2,need2,cl2,v0,v1,v2,v3,v4,v5,hclo2,hrea2,rfl,hx2,hb6⟩
 obtain ⟨ag1,ag2,ag3⟩:=HAG.out hclo2
 have rX6:=rX.below hb6 hXl
 have hb7:=hb5.trans (hb6.mono hs5)
 clear HAG hrea2 hclo2
 generalize madeF X R2 A2 fr2 need2 cl2=Y at*
 obtain ⟨C0,y0,rfl,_⟩:=id hx2.wires
 obtain ⟨C1,y1,rfl,_⟩:=id hx2.acts
 obtain ⟨C2,y2,rfl,_⟩:=id hx2.cells
 obtain ⟨C3,y3,rfl,_⟩:=id hx2.keeps
 obtain ⟨C4,y4,rfl,_⟩:=id hx2.ins
 obtain ⟨C5,y5,rfl,_⟩:=id hx2.outs
 have HXY:=Lib.hid (HXM.out.next hb6)
 have b8:Below w6.heap.size w6 (w6.alloc (.cells #[(.slice C0 Y.wires.length y0),(.slice C1 Y.acts.length y1),(.slice C2 Y.cells.length y2),(.slice C3 Y.keeps.length y3),(.slice C4 Y.ins.length y4),(.slice C5 Y.outs.length y5)] 28)):=bE
 have rY:=Row.new w6 #[(.slice C0 Y.wires.length y0),(.slice C1 Y.acts.length y1),(.slice C2 Y.cells.length y2),(.slice C3 Y.keeps.length y3),(.slice C4 Y.ins.length y4),(.slice C5 Y.outs.length y5)] 28
 have hs6:=hb6.size
 have rX8:=rX6.below b8 rX6.lt
 have HX8:=Lib.hid (HXY.out.next b8)
 have hb8:=hb7.trans (b8.mono hb7.size)
 have hX6:=rX6.lt
 rw[ag1,ag2,ag3] at rY
 rw[ag1,ag2,ag3]
 rw[ag1,ag2,ag3] at b8 hb8 rX8 HX8
 clear g0 g1 g2 g3 g4 g5 HFO2 hx2 rX rX6 HXM HXY
 go_upto_region 9 with (fail)
 generalize hw8:w6.alloc _=w8 at*
 generalize hG2:w6.heap.size=G2 at*
 have hY:=rY.lt
 have HB8:=Lib.hid (b3.trans (hb8.mono hs3))
 have HBA:Hid (Calls Try.prog 9 #[fmV (.slice B0 X.wires.length d0) (.slice B1 X.acts.length d1) (.slice B2 X.cells.length d2) (.slice B3 X.keeps.length d3) (.slice B4 X.ins.length d4) (.slice B5 X.outs.length d5)] w8 fun e w'=>e= .returned (.bool true)∧Below w8.heap.size w8 w'):=by
  have:=bare_any HX8.out hxa (by have:=HBR.out.1.2.2.2.1.2.1;omega)
  rwa [cB_true HBR.out] at this
 obtain ⟨g0,g1,g2,g3,g4,g5⟩:=rX8.six'
 go_wp2_with fail
 (with_reducible refine HBA.out.mono ?_)
 rintro e w9 ⟨rfl,hb9⟩
 have rX9:=rX8.below hb9 rX8.lt
 have rY9:=rY.below hb9 hY
 have HB9:=Lib.hid (HB8.out.trans (hb9.mono HB8.out.size))
 clear g0 g1 g2 g3 g4 g5
 obtain ⟨g0,g1,g2,g3,g4,g5⟩:=rX9.six'
 obtain ⟨k0,k1,k2,k3,k4,k5⟩:=rY9.six'
 go_wp2_with fail
 go_ret
 exact ⟨by simp,HB9.out⟩
theorem walk (f:Fm) (v:Value) (w:World) (h:FmIs w f v):Calls Try.prog 6 #[v] w fun e w'=>e= .returned (.bool true)∧Below w.heap.size w w':=by
 obtain ⟨vw,va,vc,vk,vi,vo,rfl,ha⟩:=h
 exact walk0 f vw va vc vk vi vo w ha
end Go.Proofs.Ytckognjamlckcaa.foldAgain
