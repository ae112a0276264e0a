/-
  The example of layer 24: it is right. The walk of the law NormRight.
-/
import Derived.Test.YtckognjamlckcaaGreatDoorNoV
import Derived.Test.YtckognjamlckcaaGreatDoorNoM
import Derived.Test.YtckognjamlckcaaGreatDoorR24F
import Derived.Test.YtckognjamlckcaaGreatDoorSemIJ
import Derived.Test.YtckognjamlckcaaGreatDoorRwA
namespace Go.Proofs.YtckognjamlckcaaGreatDoor
open Go.RowKit Vf Fo
attribute [local go_sem ↓] Go.wp_at_zero Go.wp_at_succ
def K0:Kw:=⟨fun _=>⟨#[]⟩,fun c=>c=[]⟩
set_option maxRecDepth 100000 in
theorem key_none (W:World) (v:Value) (h:SlV W W.heap.size 2 isGd v []):Calls Tryz.prog 106 #[v] W fun r w'=>r= .returned (.string ⟨#[]⟩)∧Below W.heap.size W w':=by
 obtain ⟨A,cap,rfl,_,hm,_⟩:=h
 have hm':cap≤9223372036854775807:=by unfold maxLen at hm;omega
 go_enter Tryz.func106,Tryz.ntmps106
 go_wp2_with fail
 go_loopw[3,8] (fun s i W'=>s= .string ⟨#[]⟩∧i= .int .i64 0∧W=W') (fun _ _ _=>0)
 case atStart=>exact ⟨rfl,rfl,rfl⟩
 case round=>
  obtain ⟨rfl,rfl,rfl⟩:=hrel
  go_wp2_with fail
  go_ret
  exact ⟨rfl,Below.refl _ _⟩
theorem law0 (w0:World):KwLaw K0 w0:=⟨fun c c' h h' _=>h.trans h'.symm,fun c=>Nat.zero_le _,fun W v c hc _ hv=>by
 obtain rfl:c=[]:=hc
 exact key_none W v hv⟩
theorem ok_nx (x:Ex) (h:x.args=[]):okE K0 x []:=okE_eq.2 ⟨rfl,fun i y hy=>by rw[h] at hy;simp at hy⟩
theorem ok_dE:okE K0 dE []:=okE_eq.2 ⟨rfl,fun i x hx=>by
 rw[pcl_same (by decide)]
 rcases i with _|_|i
 ·cases hx;exact ok_nx _ rfl
 ·cases hx;exact ok_nx _ rfl
 ·simp[dE,Ex.args] at hx⟩
section
variable {w0:World} {D:Nat} {vi vo:Value}
theorem norm_nx0:NormIs dF K0 w0 D vi vo nx0:=fun A cap W q s v c h hc hp hok _ _ _=>by
 cases hs:s.spent with
 |true=>exact nexpr_spent hs h v c
 |false=>exact nexpr_lit1 hs h rfl v c hc hp hok
theorem norm_nx1:NormIs dF K0 w0 D vi vo nx1:=fun A cap W q s v c h _ _ _ _ _ _=>by
 cases hs:s.spent with
 |true=>exact nexpr_spent hs h v c
 |false=>exact nexpr_var hs h rfl v c
theorem norm_dE (law:KwLaw K0 w0):NormIs dF K0 w0 D vi vo dE:=fun A cap W q s v c h hc hp _ _ hm hx=>by
 cases hs:s.spent with
 |true=>exact nexpr_spent hs h v c
 |false=>
  refine nexpr_fby law hs h (dF_ok.2.2.2.2.1 (1,dE) (by simp[dF])).1 rfl v c hc hp (part_any (fun x hx'=>?_) hm hx)
  simp only[dE,Ex.args,List.mem_cons,List.not_mem_nil,or_false] at hx'
  rcases hx' with rfl|rfl
  ·exact norm_nx0
  ·exact norm_nx1
end
theorem rows_two {W:World} {a b r:Nat} {n m:Int} (h1:Row W a #[.int .i64 n] 3) (h2:Row W b #[.int .i64 m] 3) (h3:Row W r #[.slice (some ⟨a,0,none⟩) 1 1,.slice (some ⟨b,0,none⟩) 1 1] 26) (hn:Wf n) (hm:Wf m):
  SlV W W.heap.size 1 (isRw W W.heap.size) (.slice (some ⟨r,0,none⟩) 2 2) [[n],[m]]:=by
 have one:∀{a:Nat} {n:Int},Row W a #[.int .i64 n] 3→Wf n→SlV W W.heap.size 1 isInt (.slice (some ⟨a,0,none⟩) 1 1) [n]:=fun {a n} h hn=>⟨_,1,rfl,Nat.le_refl _,by unfold maxLen;omega,row_slN (k:=1) (rel:=isInt) (l:=[n]) (fun n=> [.int .i64 n]) h (fun x=>rfl) (fun x hx=>by simp at hx;subst hx;exact ⟨rfl,hn⟩) h.lt⟩
 refine ⟨_,2,rfl,Nat.le_refl _,by unfold maxLen;omega,fun _=>⟨r,0,rfl,h3.lt,fun i x hx=>?_⟩⟩
 rcases i with _|_|i
 ·cases hx
  refine ⟨[.slice (some ⟨a,0,none⟩) 1 1],fun j u hu=>?_,_,rfl,one h1 hn⟩
  rcases j with _|j
  ·cases hu;exact (h3.cell 0).trans rfl
  ·simp at hu
 ·cases hx
  refine ⟨[.slice (some ⟨b,0,none⟩) 1 1],fun j u hu=>?_,_,rfl,one h2 hm⟩
  rcases j with _|j
  ·cases hu;exact (h3.cell 1).trans rfl
  ·simp at hu
 ·simp at hx
set_option maxRecDepth 100000 in
set_option maxHeartbeats 16000000 in
theorem awake24_any (w:World):Calls Tryz.prog 6 #[] w fun e w'=>e= .returned (.bool true)∧Below w.heap.size w w':=by
 go_enter Tryz.func6,Tryz.ntmps6
 go_wp2_with fail
 (with_reducible refine (delay_any _).mono ?_)
 rintro e w1 ⟨v0,v1,v2,v3,rfl,hfl,b1⟩
 have HO:=Lib.hid (nof_any (K:=K0) hfl (fun d hd=>by simp[dF] at hd;subst hd;show exSize dE≤_;decide) (by decide) (fun w0 _=>law0 w0) (fun _ w0 D vi vo law d hd=>by simp[dF] at hd;subst hd;exact norm_dE law) (fun d hd=>by simp[dF] at hd;subst hd;exact ok_dE))
 obtain ⟨_,_,rfl,_⟩:=hfl.wires
 obtain ⟨_,_,rfl,_⟩:=hfl.defs
 obtain ⟨_,_,rfl,_⟩:=hfl.ins
 obtain ⟨_,_,rfl,_⟩:=hfl.outs
 have hs1:=b1.size
 clear hfl
 go_wp2_with fail
 (with_reducible refine HO.out.mono ?_)
 rintro e w2 ⟨hb2,⟨hno,_⟩|⟨_,hsp,_⟩|⟨_,_,x0,x1,x2,x3,x4,x5,rfl,hx⟩⟩
 ·exact absurd dF_ok hno
 ·rw[dF_made.2] at hsp;cases hsp
 rw[dF_made.1] at hx
 have b2:=b1.trans (hb2.mono hs1)
 have hs2:=b2.size
 have HX:=Lib.hid hx
 obtain ⟨A0,c0,hv0⟩:∃A c,x0= .slice A 7 c:=by obtain ⟨A,c,h,_⟩:=hx.wires;exact ⟨A,c,h⟩
 obtain ⟨A1,c1,hv1⟩:∃A c,x1= .slice A 6 c:=by obtain ⟨A,c,h,_⟩:=hx.acts;exact ⟨A,c,h⟩
 obtain ⟨A2,c2,hv2⟩:∃A c,x2= .slice A 2 c:=by obtain ⟨A,c,h,_⟩:=hx.cells;exact ⟨A,c,h⟩
 obtain ⟨A3,c3,hv3⟩:∃A c,x3= .slice A 2 c:=by obtain ⟨A,c,h,_⟩:=hx.keeps;exact ⟨A,c,h⟩
 obtain ⟨A4,c4,hv4⟩:∃A c,x4= .slice A 1 c:=by obtain ⟨A,c,h,_⟩:=hx.ins;exact ⟨A,c,h⟩
 obtain ⟨A5,c5,hv5⟩:∃A c,x5= .slice A 1 c:=by obtain ⟨A,c,h,_⟩:=hx.outs;exact ⟨A,c,h⟩
 subst hv0 hv1 hv2 hv3 hv4 hv5
 have b3:Below w2.heap.size w2 (w2.alloc (.cells #[.slice A0 7 c0,.slice A1 6 c1,.slice A2 2 c2,.slice A3 2 c3,.slice A4 1 c4,.slice A5 1 c5] 28)):=bE
 have rX:=Row.new w2 #[.slice A0 7 c0,.slice A1 6 c1,.slice A2 2 c2,.slice A3 2 c3,.slice A4 1 c4,.slice A5 1 c5] 28
 have HF3:=Lib.hid (HX.out.next b3)
 clear hx hb2 HO
 go_upto_region 2 with (fail)
 generalize w2.alloc (.cells #[.slice A0 7 c0,.slice A1 6 c1,.slice A2 2 c2,.slice A3 2 c3,.slice A4 1 c4,.slice A5 1 c5] 28)=w3 at*
 have hs3:=b3.size
 have HB3:=Lib.hid (b2.trans (b3.mono hs2))
 have hXl:=rX.lt
 have HXR:Hid (∀W,Below w3.heap.size w3 W→Row W w2.heap.size #[.slice A0 7 c0,.slice A1 6 c1,.slice A2 2 c2,.slice A3 2 c3,.slice A4 1 c4,.slice A5 1 c5] 28):=fun W hW=>rX.below hW hXl
 have HFX:=Lib.hid (fun W (hW:Below w3.heap.size w3 W)=>HF3.out.next hW)
 have HNR:Hid (Calls Tryz.prog 8 #[fmV (.slice A0 7 c0) (.slice A1 6 c1) (.slice A2 2 c2) (.slice A3 2 c3) (.slice A4 1 c4) (.slice A5 1 c5)] w3 fun e w'=>e= .returned (.bool true)∧Below w3.heap.size w3 w'):=by
  have:=nright_any dM _ _ _ _ _ _ w3 HF3.out (by decide)
  rwa [cB_true dM_ok] at this
 have HRR:Hid (∀W,Below w3.heap.size w3 W→Calls Tryz.prog 9 #[fmV (.slice A0 7 c0) (.slice A1 6 c1) (.slice A2 2 c2) (.slice A3 2 c3) (.slice A4 1 c4) (.slice A5 1 c5)] W fun e w'=>e= .returned (.bool true)∧Below W.heap.size W w'):=fun W hW=>by
  have:=rright_any dM _ _ _ _ _ _ W (HFX.out W hW) (by decide) (by decide)
  rwa [cB_true dM_ok] at this
 clear b1 b2 b3 HX
 obtain ⟨f0,f1,f2,f3,f4,f5⟩:=rX.six'
 go_wp2_with fail
 (with_reducible refine HNR.out.mono ?_)
 rintro e w4 ⟨rfl,hb4⟩
 have hs4:=hb4.size
 have HRR4:=Lib.hid (HRR.out _ hb4)
 clear f0 f1 f2 f3 f4 f5 HNR rX
 obtain ⟨f0,f1,f2,f3,f4,f5⟩:=(HXR.out _ hb4).six'
 go_wp2_with fail
 (with_reducible refine HRR4.out.mono ?_)
 rintro e w5 ⟨rfl,hb5⟩
 have hB5:=hb4.trans (hb5.mono hs4)
 have hs5:=hB5.size
 clear f0 f1 f2 f3 f4 f5 HRR4 HRR
 obtain ⟨f0,f1,f2,f3,f4,f5⟩:=(HXR.out _ hB5).six'
 have b7:Below w5.heap.size w5 (((w5.alloc (.cells #[.int .i64 3] 3)).alloc (.cells #[.int .i64 4] 3)).alloc (.cells #[.slice (some ⟨w5.heap.size,0,none⟩) 1 1,.slice (some ⟨w5.heap.size+1,0,none⟩) 1 1] 26)):=bE
 have hb7:=hB5.trans (b7.mono hs5)
 have HRO:=Lib.hid (rows_any dM [[3],[4]] _ _ _ _ _ _ _ _ (HFX.out _ hb7) (rows_two (a:=w5.heap.size) (b:=w5.heap.size+1) (r:=w5.heap.size+1+1) (n:=3) (m:=4) (((row_newE rfl).alloc _).alloc _) ((row_newE (by simp)).alloc _) (row_newE (by simp)) (wf_little (by decide)) (wf_little (by decide))) dM_ok (by decide) (fun x hx=>by simp[dM] at hx;rcases hx with rfl|rfl<;>exact wf_of (by decide)) (fun x hx=>by simp at hx;rcases hx with rfl|rfl<;>rfl) (by decide))
 clear b7
 go_wp2_with fail
 (with_reducible refine HRO.out.mono ?_)
 rintro e w8 ⟨v8,rfl,hv8,b8⟩
 rw[show dM.cells.map (·.2)=[1,0] from rfl,dM_rows] at hv8
 obtain ⟨A8,c8,rfl,l8,m8,s8⟩:=id hv8
 have hb8:=hb7.trans (b8.mono hb7.size)
 have hs8:=hb8.size
 have b9:Below w8.heap.size w8 (((w8.alloc (.cells #[.int .i64 0] 3)).alloc (.cells #[.int .i64 3] 3)).alloc (.cells #[.slice (some ⟨w8.heap.size,0,none⟩) 1 1,.slice (some ⟨w8.heap.size+1,0,none⟩) 1 1] 26)):=bE
 have hb9:=hb8.trans (b9.mono hs8)
 have HSM:=Lib.hid (rows_same [[0],[3]] _ _ _ _ ((rowsV_below hv8 b9).keep (fun _ _ _ hc=>hc) b9.size (fun _ _ _ g=>by
  obtain ⟨v,h1,h2⟩:=g
  exact ⟨v,h1,h2.more b9.size⟩)) (rows_two (a:=w8.heap.size) (b:=w8.heap.size+1) (r:=w8.heap.size+1+1) (n:=0) (m:=3) (((row_newE rfl).alloc _).alloc _) ((row_newE (by simp)).alloc _) (row_newE (by simp)) (wf_little (by decide)) (wf_little (by decide))))
 clear f0 f1 f2 f3 f4 f5 HRO hv8 b8 b9 hb7 hb8
 go_wp2_with fail
 refine Calls.mono HSM.out ?_
 rintro e w10 ⟨rfl,n10,rfl⟩
 go_wp2_with fail
 go_ret
 exact ⟨rfl,below_drewN' (HB3.out.trans (hb9.mono (by have:=HB3.out.size;omega))) _⟩
end Go.Proofs.YtckognjamlckcaaGreatDoor
namespace Go.Proofs.YtckognjamlckcaaGreatDoor.normRight
open Go.RowKit Vf Fo
attribute [local go_sem ↓] Go.wp_at_zero Go.wp_at_succ
set_option maxRecDepth 100000 in
set_option maxHeartbeats 16000000 in
theorem walk0 (f:Fm) (vw va vc vk vi vo:Value) (w:World) (h:FmAt w w.heap.size f vw va vc vk vi vo):
  Calls Tryz.prog 3 #[fmV vw va vc vk vi vo] w fun e w'=>e= .returned (.bool true)∧Below w.heap.size w w':=by
 have HCW:Hid (∀x∈f.cells,Wf x.2):=fun x hx=>by
  obtain ⟨A,c,_,_,_,s⟩:=h.cells
  exact (s.all (P:=fun (x:Int × Int)=>Wf x.1∧Wf x.2) (fun x cs g=>g.2) x hx).2
 obtain ⟨Aw,cw,rfl,_,_,_⟩:=id h.wires
 obtain ⟨Aa,ca,rfl,_,_,_⟩:=id h.acts
 obtain ⟨Acc,cc,rfl,_,_,_⟩:=id h.cells
 obtain ⟨Akk,ck,rfl,_,_,_⟩:=id h.keeps
 obtain ⟨Ai,ci,rfl,_,_,_⟩:=id h.ins
 obtain ⟨Ao,co,rfl,_,_,_⟩:=id h.outs
 have b1:Below w.heap.size w (w.alloc (.cells #[(.slice Aw f.wires.length cw),(.slice Aa f.acts.length ca),(.slice Acc f.cells.length cc),(.slice Akk f.keeps.length ck),(.slice Ai f.ins.length ci),(.slice Ao f.outs.length co)] 28)):=bE
 have rF:=Row.new w #[(.slice Aw f.wires.length cw),(.slice Aa f.acts.length ca),(.slice Acc f.cells.length cc),(.slice Akk f.keeps.length ck),(.slice Ai f.ins.length ci),(.slice Ao f.outs.length co)] 28
 have HFM:=Lib.hid (fun W (hW:Below w.heap.size w W)=>h.next hW)
 clear h
 go_enter Tryz.func3,Tryz.ntmps3
 go_upto_region 1 with (fail)
 generalize w.alloc (.cells #[(.slice Aw f.wires.length cw),(.slice Aa f.acts.length ca),(.slice Acc f.cells.length cc),(.slice Akk f.keeps.length ck),(.slice Ai f.ins.length ci),(.slice Ao f.outs.length co)] 28)=w1 at*
 have hs1:=b1.size
 have hFl:=rF.lt
 have HF6:Hid (∀W,Below w1.heap.size w1 W→W.cell? ⟨w.heap.size,0,none⟩=some (.slice Aw f.wires.length cw)∧W.cell? ⟨w.heap.size,1,none⟩=some (.slice Aa f.acts.length ca)∧W.cell? ⟨w.heap.size,2,none⟩=some (.slice Acc f.cells.length cc)∧W.cell? ⟨w.heap.size,3,none⟩=some (.slice Akk f.keeps.length ck)∧W.cell? ⟨w.heap.size,4,none⟩=some (.slice Ai f.ins.length ci)∧W.cell? ⟨w.heap.size,5,none⟩=some (.slice Ao f.outs.length co)):=fun W hW=>(rF.below hW hFl).six'
 clear rF
 go_wp2_with fail
 refine (awake24_any _).mono ?_
 rintro e w2 ⟨rfl,hb2⟩
 have b2:=b1.trans (hb2.mono hs1)
 obtain ⟨f0,f1,f2,f3,f4,f5⟩:=HF6.out _ hb2
 have HFW:=Lib.hid (few24_any (HFM.out _ b2) (Nat.le_refl _))
 go_wp2_with fail
 (with_reducible refine HFW.out.mono ?_)
 rintro e w3 ⟨⟨b,rfl,HB⟩,hb3⟩
 have b3:=b2.trans (hb3.mono b2.size)
 have hq3:=hb2.trans (hb3.mono hb2.size)
 clear f0 f1 f2 f3 f4 f5 HFW hb2 hb3 b1 b2
 cases b
 ·go_wp2_with fail
  go_ret
  exact ⟨rfl,b3⟩
 obtain ⟨_,_,hla,hlc,_,hli,hlo⟩:=HB.out rfl
 obtain ⟨f0,f1,f2,f3,f4,f5⟩:=HF6.out _ hq3
 have hs3:=b3.size
 have hs3':=hq3.size
 clear HB
 have HBA:=Lib.hid (fun W (hW:Below w3.heap.size w3 W)=>nright_any f _ _ _ _ _ _ W (HFM.out W (b3.trans (hW.mono hs3))) (by omega))
 have HRA:=Lib.hid (fun W (hW:Below w3.heap.size w3 W)=>rright_any f _ _ _ _ _ _ W (HFM.out W (b3.trans (hW.mono hs3))) (by omega) (by omega))
 have HSX:=Lib.hid (fun W (hW:Below w3.heap.size w3 W)=>HF6.out W (hq3.trans (hW.mono hs3')))
 have HB3:=Lib.hid b3
 generalize cB (formOk f)=BN at*
 clear hq3 HF6 HFM b3
 go_upto_region 5 with (fail)
 refine wp_region_held_drew (S:=fun W=>W.cell? ⟨w.heap.size,0,none⟩=some (.slice Aw f.wires.length cw)∧W.cell? ⟨w.heap.size,1,none⟩=some (.slice Aa f.acts.length ca)∧W.cell? ⟨w.heap.size,2,none⟩=some (.slice Acc f.cells.length cc)∧W.cell? ⟨w.heap.size,3,none⟩=some (.slice Akk f.keeps.length ck)∧W.cell? ⟨w.heap.size,4,none⟩=some (.slice Ai f.ins.length ci)∧W.cell? ⟨w.heap.size,5,none⟩=some (.slice Ao f.outs.length co)) (by kernel_rfl) ?_ (fun hHeld=>?_)
 ·(try dsimp only);(first|(with_reducible exact HSX.out _ bE))
 refine tk 0 (some 8) rfl ?_
 refine tk 2 (some 10) rfl ?_
 refine rd1 1 (some 9) rfl (fun KK hKK=>?_)
 go_simp
 (go_at_call 8;refine Calls.mono (HBA.out _ bE) ?_;rintro e w5 ⟨rfl,hb5⟩;(have hb6:Below w3.heap.size w3 w5:=Below.trans bE (hb5.mono lE));(have hs6:=hb6.size))
 (try go_wp2_with fail)
 refine hKK.out _ _ ?_ (fun hHeld=>?_)
 ·(try dsimp only);(first|(with_reducible exact HSX.out _ bE))
 clear hKK KK
 try simp only[Act.put,List.setIfInBounds_toArray,List.set_cons_zero,List.set_cons_succ]
 refine rd1 3 (some 11) rfl (fun KK hKK=>?_)
 go_simp
 (go_at_call 9;refine Calls.mono (HRA.out _ bE) ?_;rintro e w7 ⟨rfl,hb7⟩;(have hb8:Below w3.heap.size w3 w7:=Below.trans bE (hb7.mono lE)))
 (try go_wp2_with fail)
 refine hKK.out _ _ ?_ (fun hHeld=>?_)
 ·(try dsimp only);(first|(with_reducible exact HSX.out _ bE))
 clear hKK KK
 try simp only[Act.put,List.setIfInBounds_toArray,List.set_cons_zero,List.set_cons_succ]
 refine tk 4 (some 12) rfl ?_
 refine tk 5 (some 2) rfl ?_
 refine wpAnyH_done (by kernel_rfl) ?_ _
 cases BN
 all_goals
  go_wp2_with fail
  go_ret
  exact ⟨rfl,HB3.out.trans (Below.mono (B:=w3.heap.size) bE hs3)⟩
theorem walk (f:Fm) (v:Value) (w:World) (h:FmIs w f v):Calls Tryz.prog 3 #[v] w fun e w'=>e= .returned (.bool true)∧Below w.heap.size w w':=by
 obtain ⟨vw,va,vc,vk,vi,vo,rfl,ha⟩:=h
 exact walk0 f vw va vc vk vi vo w ha
end Go.Proofs.YtckognjamlckcaaGreatDoor.normRight
