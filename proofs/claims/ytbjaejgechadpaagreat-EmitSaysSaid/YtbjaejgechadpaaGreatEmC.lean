/-
  A region that draws its order and ends in a store: what is held of the world need not be held behind that store. emit.Of: what is done with the steps of one clock (Of$1); runs.
-/
import Derived.Test.YtbjaejgechadpaaGreatArZ
import Derived.Test.YtbjaejgechadpaaGreatMem
import Derived.Test.YtbjaejgechadpaaGreatEmA
import Derived.Test.YtbjaejgechadpaaGreatPgA
import Derived.Deep.DeepCutAuto
namespace Go.Proofs.YtbjaejgechadpaaGreat
open Go.RowKit Vf Fo
attribute [local go_sem ↓] Go.wp_at_zero Go.wp_at_succ
theorem six6 {w:World} {g:Nat} {t:TypeId} {a b c d e f:Value} (h:Row w g #[a,b,c,d,e,f] t):w.cell? ⟨g,0,none⟩=some a∧w.cell? ⟨g,1,none⟩=some b∧w.cell? ⟨g,2,none⟩=some c∧w.cell? ⟨g,3,none⟩=some d∧w.cell? ⟨g,4,none⟩=some e∧w.cell? ⟨g,5,none⟩=some f:=
 ⟨h.cell 0,h.cell 1,h.cell 2,h.cell 3,h.cell 4,h.cell 5⟩
structure PrA (w:World) (base P:Nat) (vi vo vr vc v4:Value) (code:List In5):Prop where
 row:Row w P #[vi,vo,vr,vc,v4] 37
 own:w.ownsRow base 58 5 v4 code.length (in5F code)
theorem PrA.below {w w':World} {base P:Nat} {vi vo vr vc v4:Value} {code:List In5} (h:PrA w base P vi vo vr vc v4 code) (hb:Below w.heap.size w w'):PrA w' base P vi vo vr vc v4 code:=
 ⟨h.row.below hb h.row.lt,own_below h.own hb⟩
theorem PrA.next {w w':World} {base P:Nat} {vi vo vr vc v4 v5:Value} {code more:List In5} (h:PrA w base P vi vo vr vc v4 code) (hown:w'.ownsRow base 58 5 v5 (code.length+more.length) (in5F code++in5F more)) (hg:w.grownBy w' v4.ownBlock):
  PrA (w'.setCell ⟨P,4,none⟩ v5) base P vi vo vr vc v5 (code++more)∧FrI base P w (w'.setCell ⟨P,4,none⟩ v5):=by
 have hr:=h.row.grownE hg (own_ne h.own h.row (by decide))
 refine ⟨⟨?_,?_⟩,(FrI.grown h.own hg).trans (FrI.set _)⟩
 ·have:=hr.set 4 v5
  simpa using this
 ·have u:=Upd.setCell (X:=fun k=>k=P) (p:=⟨P,4,none⟩) (Upd.refl _ w') rfl v5
  have:=own_updE hown u (fun k hk e=>own_ne hown hr (by decide) (by rw[←e];exact hk))
  rw[List.length_append,in5F_append]
  exact this
theorem in5F_one (l:List In5):∀u∈in5F l,u.oneCell'=true:=flat_one in5C_one l
def Of1Is (w:World) (base P:Nat) (vi vo vr vc:Value) (code:List In5) (e:Ending) (w':World):Prop:=e= .returned (.tuple #[])∧∃v5,PrA w' base P vi vo vr vc v5 code∧FrI base P w w'
set_option maxRecDepth 100000 in
set_option maxHeartbeats 8000000 in
theorem of1_any {w:World} {base P B C:Nat} (vi vo vr vc v4:Value) (code:List In5) (c:List Gd) (vg:Value) (h:List Stv) (vh:Value) (hp:PrA w base P vi vo vr vc v4 code) (hb:base≤w.heap.size)
  (hC:C≤base) (hg:SlV w C 2 isGd vg c) (hh:∀W,FrI base P w W→SlV W B 6 (isStp W C) vh h) (hl:c.length≤1600) (hcl:code.length≤10000000) (hhl:h.length≤100000):
  Calls Tryz.prog 28 #[vg,vh,.pointer (some ⟨P,0,none⟩)] w (Of1Is w base P vi vo vr vc (code++skipsOf c h.length++h.map (·.1.1))):=by
 obtain ⟨i0,hi0,hz0,hz1,hz2⟩:=info_parts info_in5
 have HH:=Lib.hid hh
 obtain ⟨Ah,ch,rfl,lh,mh,_⟩:=hh w (FrI.refl _ _ _)
 have mh':ch≤9223372036854775807:=by unfold maxLen at mh;omega
 have HSK:=Lib.hid (fun W (hW:Below w.heap.size w W)=>skips_any (w:=W) (B:=C) c vg h.length (hg.below (hW.mono (by omega))) (by have:=hW.size;omega) hl hhl)
 have HP:=Lib.hid (fun W (hW:Below w.heap.size w W)=>hp.below hW)
 have HKL:=Lib.hid (fun W (hW:Below w.heap.size w W)=>(hp.below hW).row.cell 4)
 simp only[List.getElem?_toArray,List.getElem?_cons_zero,List.getElem?_cons_succ] at HKL
 have hsb:(skipsOf c (h.length:Int)).length≤1600:=by rw[skipsOf_len];exact hl
 clear hp hh hg
 go_enter Tryz.func28,Tryz.ntmps28
 go_upto_region 0 with (fail)
 refine wp_region_L 8 (S:=fun W=>W.cell? ⟨P,4,none⟩=some v4) (by kernel_rfl) ?_ (fun hHeld=>?_)
 ·(try dsimp only);(first|assumption|(with_reducible exact HKL.out _ bE))
 refine tkL 0 (some 7) rfl ?_
 refine tkL 1 (some 8) rfl ?_
 refine tkL 2 (some 9) rfl ?_
 refine tkL 3 (some 10) rfl ?_
 refine tkL 4 (some 11) rfl ?_
 refine rdL 5 (some 12) rfl (fun KK hKK=>?_)
 go_simp
 (go_at_call 29;refine Calls.mono (HSK.out _ ?hbb) ?_;(case hbb=>exact bE);rintro e w8 ⟨vs,rfl,hos,hb8⟩;(have hb9:Below w.heap.size w w8:=Below.trans bE (hb8.mono lE));(have hs9:=hb9.size);(obtain ⟨As,cs,hvs,hns,hsrc⟩:=own_src hos);subst hvs)
 (try go_wp2_with fail)
 refine hKK.out _ _ ?_ (fun hHeld=>?_)
 ·(try dsimp only);(first|assumption|(with_reducible exact HKL.out _ bE))
 clear hKK KK
 try simp only[Act.put,List.setIfInBounds_toArray,List.set_cons_zero,List.set_cons_succ]
 refine rdL 6 (some 13) rfl (fun KK hKK=>?_)
 (rw[if_pos (by kernel_rfl)];refine step_own (.tmp 8) (.tmp 12) 35 rfl base 58 i0 (.agg zi5) 5 40 Tryz.underlying35 hi0 hz0 hz1 hz2 rfl (by decide) v4 code.length (in5F code) rfl (HP.out _ hb9).own As (skipsOf c h.length).length cs (in5F (skipsOf c h.length)) rfl hns (in5F_len _) hsrc (in5F_one _) (by unfold maxLen;omega) (by omega) (by omega) ?_;intro v13 w13 hown13 hg13;(have hnx:=(HP.out _ hb9).next hown13 hg13);(have hrw:=(HP.out _ hb9).row.grownE hg13 (own_ne (HP.out _ hb9).own (HP.out _ hb9).row (by decide)));(have hq13:=hrw.cell 4);(have hz13:=hrw.frozen 4);(simp only[List.getElem?_toArray,List.getElem?_cons_zero,List.getElem?_cons_succ] at hq13);(obtain ⟨A13,c13,hv13,_⟩:=own_src hown13);subst hv13)
 refine hKK.out _ _ ?_ (fun hHeld=>?_)
 ·(try dsimp only);(first|assumption|(with_reducible exact HKL.out _ bE))
 clear hKK KK
 try simp only[Act.put,List.setIfInBounds_toArray,List.set_cons_zero,List.set_cons_succ]
 refine tkL 7 (some 14) rfl ?_
 refine rdE none rfl (fun KK hKK=>?_)
 go_simp
 refine hKK.out _ _ ?_
 clear hKK KK
 try simp only[Act.put,List.setIfInBounds_toArray,List.set_cons_zero,List.set_cons_succ]
 refine wpAnyL_done (by kernel_rfl) ?_ _
 obtain ⟨hp1,hf1⟩:=hnx
 generalize w13.setCell ⟨P,4,none⟩ (.slice A13 (code.length+(skipsOf c (h.length:Int)).length) c13)=w1 at*
 have HP1:=Lib.hid hp1
 have HF1:=Lib.hid ((FrI.of_below (base:=base) (P:=P) hb9).trans hf1)
 clear hp1 hf1 hz13 hq13 hrw hg13 hown13 hsrc hns hos hb9 hb8 hs9 hHeld HP HKL HSK
 go_wp2_with fail
 go_loopw[17] (fun i wr=>∃(k:Nat) (v5:Value),k≤h.length∧i= .int .i64 k∧Hid (PrA wr base P vi vo vr vc v5 (code++skipsOf c h.length++(h.take k).map (·.1.1)))∧Hid (FrI base P w wr)) (fun i _=>h.length-(intOf i).toNat)
 case atStart=>exact ⟨0,_,Nat.zero_le _,rfl,(by have:=HP1.out;rw[List.take_zero,List.map_nil,List.append_nil];exact this),HF1.out⟩
 case round=>
  clear HP1 HF1
  obtain ⟨k,v5,hk,rfl,HPr,HFr⟩:=hrel
  have hsr:=HFr.out.size
  by_cases hlt:k<h.length
  ·obtain ⟨A',c',hA',_,_,sl⟩:=HH.out _ HFr.out
   injection hA' with hA1 _ hA3
   subst hA1;subst hA3
   obtain ⟨b,off,⟨⟨⟨xo,xa,xb,xc,xk⟩,clk⟩,v⟩,rfl,hbB,hx,_,hv,d0,d1,d2,d3,d4,d5⟩:=sl_stp sl hlt
   dsimp only at hv d0 d1 d2 d3 d4 d5
   obtain ⟨Ag,cg,rfl,_,_,_⟩:=hv
   have hk':(k:Int)<h.length:=by omega
   have rS:=Row.new wr #[.int .i64 xo,.int .i64 xa,.int .i64 xb,.int .i64 xc,.int .i64 xk,.slice Ag clk.length cg] 68
   have b3:Below wr.heap.size wr (wr.alloc (.cells #[.int .i64 xo,.int .i64 xa,.int .i64 xb,.int .i64 xc,.int .i64 xk,.slice Ag clk.length cg] 68)):=bE
   have HP3:=Lib.hid (HPr.out.below b3)
   have HF3:=Lib.hid (HFr.out.trans (FrI.of_below b3))
   have HTK:Hid (code++skipsOf c h.length++(h.take (k+1)).map (·.1.1)=(code++skipsOf c h.length++(h.take k).map (·.1.1))++ [⟨xo,xa,xb,xc,xk⟩]):=by
    show _=_
    rw[take_snoc' hx,List.map_append,←List.append_assoc]
    rfl
   have hll:(code++skipsOf c h.length++(h.take k).map (·.1.1)).length≤20000000:=by
    simp only[List.length_append,List.length_map,List.length_take]
    omega
   go_upto_region 4 with (fail)
   generalize wr.alloc (.cells #[.int .i64 xo,.int .i64 xa,.int .i64 xb,.int .i64 xc,.int .i64 xk,.slice Ag clk.length cg] 68)=w3 at*
   generalize code++skipsOf c h.length++(h.take k).map (·.1.1)=L at*
   obtain ⟨s0,s1,s2,s3,s4,s5⟩:=six6 rS
   have q4:=HP3.out.row.cell 4
   simp only[List.getElem?_toArray,List.getElem?_cons_zero,List.getElem?_cons_succ] at q4
   have hs3:=HF3.out.size
   have hPl:=HP3.out.row.lt
   clear d0 d1 d2 d3 d4 d5 sl hx rS b3 HPr HFr
   go_wp2_with (at_builtin;refine wpList_append_own _ rfl _ _ 35 rfl base 58 i0 (.agg zi5) 5 40 Tryz.underlying35 hi0 hz0 hz1 hz2 rfl (by decide) _ _ _ rfl (HP3.out.own.alloc _) ⟨w3.heap.size,0,none⟩ 1 1 (in5C ⟨xo,xa,xb,xc,xk⟩) rfl rfl (cells_new _ _ _) (in5C_one _) (by unfold maxLen;omega) (by omega) (by simp;omega) ?_)
   intro v' w4 hown hgrow _
   have hp3a:=HP3.out.below ((Below.refl _ w3).alloc (Nat.le_refl _) (.cells #[.int .i64 xo,.int .i64 xa,.int .i64 xb,.int .i64 xc,.int .i64 xk] 58))
   have hown':w4.ownsRow base 58 5 v' (L.length+ [(⟨xo,xa,xb,xc,xk⟩:In5)].length) (in5F L++in5F [⟨xo,xa,xb,xc,xk⟩]):=by simpa[in5F] using hown
   have hnx:=hp3a.next hown' hgrow
   have hrw:=hp3a.row.grownE hgrow (own_ne hp3a.own hp3a.row (by decide))
   have q5:=hrw.cell 4
   have z5:=hrw.frozen 4
   simp only[List.getElem?_toArray,List.getElem?_cons_zero,List.getElem?_cons_succ] at q5
   obtain ⟨A5,c5,hv5,_⟩:=own_src hown
   subst hv5
   have HNX:Hid (PrA (w4.setCell ⟨P,4,none⟩ (.slice A5 (L.length+1) c5)) base P vi vo vr vc (.slice A5 (L.length+1) c5) (code++skipsOf c h.length++(h.take (k+1)).map (·.1.1))):=by
    show PrA _ _ _ _ _ _ _ _ _
    rw[HTK.out];exact hnx.1
   have HFX:=Lib.hid (HF3.out.trans ((FrI.of_below ((Below.refl _ w3).alloc (Nat.le_refl _) (.cells #[.int .i64 xo,.int .i64 xa,.int .i64 xb,.int .i64 xc,.int .i64 xk] 58))).trans hnx.2))
   clear hown hown' hgrow hnx hrw hp3a q4 s0 s1 s2 s3 s4 s5
   go_wp2_with fail
   go_roundw
   case rel=>exact ⟨k+1,_,by omega,by go_num,HNX,HFX⟩
   case measure=>simp[intOf];omega
  ·obtain rfl:k=h.length:=by omega
   go_wp2_with fail
   refine bodyPost_ret (results_none rfl _ _ _) rfl ?_
   exact ⟨rfl,_,(by have:=HPr.out;rw[List.take_length] at this;exact this),HFr.out⟩
def RunsIs (w:World) (base P:Nat) (vi vo vr vc:Value) (code:List In5) (l:List Stv) (e:Ending) (w':World):Prop:=e= .returned (.tuple #[])∧∃body v5,Runs (l.map (·.1)) body∧PrA w' base P vi vo vr vc v5 (code++body)∧FrI base P w w'
theorem runs_len {l:List Stp} {body:List In5} (h:Runs l body) (hc:∀s∈l,s.2.length≤1600):body.length≤l.length*1601:=by
 induction h with
 |nil=>simp
 |cons h t c code hne hcl _ ih=>
  have ih':=ih (fun s hs=>hc s (by simp[hs]))
  cases h with
  |nil=>exact absurd rfl hne
  |cons s0 h=>
   have h1:=hc s0 (by simp)
   rw[hcl s0 (by simp)] at h1
   simp only[List.length_append,skipsOf_len,List.length_map,List.length_cons]
   have e:(h.length+1+t.length)*1601=h.length*1601+1601+t.length*1601:=by rw[Nat.add_mul,Nat.add_mul]
   omega
theorem FrI.setNew {base P L i:Nat} {w w':World} (h:FrI base P w w') (hL:w.heap.size≤L) (v:Value):FrI base P w (w'.setCell ⟨L,i,none⟩ v):=by
 have u:=Upd.setCell (X:=fun k=>k=L) (p:=⟨L,i,none⟩) (Upd.refl _ w') rfl v
 exact ⟨u.os.trans h.os,u.tape.trans h.tape,u.output.trans h.output,Nat.le_trans h.size u.size,fun k hk hP hh=>(u.block k (Nat.lt_of_lt_of_le hk h.size) (by omega)).trans (h.block k hk hP hh)⟩
theorem PrA.upd {w:World} {base P L i:Nat} {vi vo vr vc v4 u:Value} {code:List In5} {cs:Array Value} {t:TypeId} (h:PrA w base P vi vo vr vc v4 code) (r:Row w L cs t) (hL:L≠P) (ht:t≠58):PrA (w.setCell ⟨L,i,none⟩ u) base P vi vo vr vc v4 code:=by
 have up:=Upd.setCell (X:=fun k=>k=L) (p:=⟨L,i,none⟩) (Upd.refl _ w) rfl u
 exact ⟨up.row h.row (fun e=>hL e.symm),own_updE h.own up (fun k hk e=>own_ne h.own r ht (by rw[←e];exact hk))⟩
theorem runs_step {RR:List Stv} {m:Nat} {c:List Gd} {l:List Stp} {body:List In5} (hm:0<m) (hm2:m≤RR.length) (hc:∀j:Nat,j<m→∀s,RR[j]? =some s→s.1.2=c) (hr:∀body',Runs (RR.map (·.1)) body'→Runs l (body++body')):
  ∀body',Runs ((RR.drop m).map (·.1)) body'→Runs l ((body++(skipsOf c (RR.take m).length++(RR.take m).map (·.1.1)))++body'):=by
 intro body' hb
 have h1:=Runs.cons ((RR.take m).map (·.1)) ((RR.drop m).map (·.1)) c body' (by
  intro e
  have:=congrArg List.length e
  rw[List.length_map,List.length_take,List.length_nil] at this
  omega) (fun s hs=>by
  obtain ⟨x,hx,rfl⟩:=List.mem_map.1 hs
  obtain ⟨j,hj⟩:=List.getElem?_of_mem hx
  rw[List.getElem?_take] at hj
  split at hj
  ·exact hc j (by assumption) x hj
  ·cases hj) hb
 rw[←List.map_append,List.take_append_drop] at h1
 have h2:=hr _ h1
 simpa[List.map_map,Function.comp_def] using h2
set_option maxRecDepth 100000 in
set_option maxHeartbeats 8000000 in
theorem runs_any {w:World} {base P C:Nat} (vi vo vr vc v4:Value) (code:List In5) (l:List Stv) (vl:Value) (hp:PrA w base P vi vo vr vc v4 code) (hb:base≤w.heap.size) (hC:C≤base)
  (hh:∀W,FrI base P w W→SlV W w.heap.size 6 (isStp W C) vl l) (hcl:∀s∈l,s.1.2.length≤1600) (hlen:code.length+l.length*1601≤9000000) (hll:l.length≤10000):
  Calls Tryz.prog 27 #[vl,.func (.func 28) #[] #[.pointer (some ⟨P,0,none⟩)]] w (RunsIs w base P vi vo vr vc code l):=by
 have hF:=enters_of Tryz.func28 (by kernel_rfl) rfl
 have hPl:=hp.row.lt
 obtain ⟨Al,cl,rfl,lcl,mcl,_⟩:=hh w (FrI.refl _ _ _)
 have b1:Below w.heap.size w (w.alloc (.cells #[.slice Al l.length cl] 65)):=bE
 have rL:=Row.new w #[.slice Al l.length cl] 65
 have HP0:=Lib.hid (hp.below b1)
 have HH0:=Lib.hid hh
 have HF0:Hid (FrI base P w (w.alloc (.cells #[.slice Al l.length cl] 65))):=FrI.of_below b1
 have HCL:=Lib.hid hcl
 clear hp hh hcl b1
 go_enter Tryz.func27,Tryz.ntmps27
 go_upto_region 1 with (fail)
 generalize w.alloc (.cells #[.slice Al l.length cl] 65)=w1 at*
 have HRL:=Lib.hid rL
 have hLP:w.heap.size≠P:=by omega
 clear rL
 go_loopg [4] (l.length) (fun q v4' wr=>∃(done rest:List Stv) (body:List In5) (v5 vr':Value),q=rest.length∧Hid (l=done++rest)∧Hid (∀body',Runs (rest.map (·.1)) body'→Runs (l.map (·.1)) (body++body'))∧Hid (body.length≤done.length*1601)∧Hid (Row wr w.heap.size #[vr'] 65)∧Hid (PrA wr base P vi vo vr vc v5 (code++body))∧Hid (FrI base P w wr)∧Hid (∀W,FrI base P w W→SlV W w.heap.size 6 (isStp W C) vr' rest))
 case atStart=>exact ⟨[],l,[],v4,.slice Al l.length cl,rfl,rfl,fun _ h=>h,(by show _≤_;simp),HRL.out,(by rw[List.append_nil];exact HP0.out),HF0.out,HH0.out⟩
 case round=>
  clear HP0 HH0 HRL HF0
  obtain ⟨done,rest,body,v5,vr',hq,HL,HRU,HBL,HR,HP,HF,HH⟩:=hrel
  have hsr:=HF.out.size
  have hrl:rest.length≤l.length:=by rw[HL.out];simp
  have hdl:done.length+rest.length=l.length:=by rw[HL.out];simp
  obtain ⟨Ar,cr,hvr,lcr,mcr,sr⟩:=HH.out _ HF.out
  subst hvr
  have mcr':cr≤9223372036854775807:=by unfold maxLen at mcr;omega
  have q0:=HR.out.cell 0
  simp only[List.getElem?_toArray,List.getElem?_cons_zero] at q0
  have hLl:=HR.out.lt
  cases rest with
  |nil=>
   have HX:Hid (Runs (l.map (·.1)) body):=by have:=HRU.out [] Runs.nil;rw[List.append_nil] at this;exact this
   go_wp2_with fail
   refine bodyPost_ret (results_none rfl _ _ _) rfl ?_
   exact ⟨rfl,body,_,HX.out,HP.out,HF.out⟩
  |cons s0 rest=>
   obtain ⟨b,off,s0',rfl,hbB,hx0,wx0,hv0,d0,d1,d2,d3,d4,d5⟩:=sl_stp sr (k:=0) (by simp)
   obtain rfl:s0=s0':=by simpa using hx0
   obtain ⟨⟨x0,clk0⟩,v0⟩:=s0
   dsimp only at hv0 d5
   clear hx0
   have HIX:=Lib.hid (idx_any (w:=wr) (B:=w.heap.size) (C:=C) (((x0,clk0),v0)::rest) ((x0,clk0),v0) _ w.heap.size hsr (by omega) (fun W hW=>HH.out W (HF.out.trans (FrI.of_below hW))) rfl q0)
   obtain ⟨Ag,cg,hv0',lg,mg,sg⟩:=hv0
   subst hv0'
   generalize hRR:((x0,clk0),Value.slice Ag clk0.length cg)::rest=RR at*
   have hRp:0<RR.length:=by rw[←hRR];simp
   have hRp':(0:Int)<RR.length:=by omega
   have HRR:=Lib.hid hRR
   clear hRR d0 d1 d2 d3 d4 sr
   simp only[Nat.zero_mul,Nat.add_zero] at d5
   go_wp2_with fail
   (with_reducible refine HIX.out.mono ?_)
   rintro e w2 ⟨⟨n,rfl,hn1,hn2,hn0,HN⟩,hb2⟩
   have hs2:=hb2.size
   have HF2:=Lib.hid (HF.out.trans (FrI.of_below hb2))
   have HP2:=Lib.hid (HP.out.below hb2)
   have HR2:=Lib.hid (HR.out.below hb2 hLl)
   have HK:Hid (∀W,FrI base P w2 W→W.cell? ⟨w.heap.size,0,none⟩=some (.slice (some ⟨b,off,none⟩) RR.length cr)∧W.cell? ⟨b,off+5,none⟩=some (.slice Ag clk0.length cg)):=fun W hW=>by
    refine ⟨?_,?_⟩
    ·have:=(hW.row HR2.out hLP (by decide)).cell 0
     simpa using this
    ·obtain ⟨A9,c9,hA9,_,_,sl9⟩:=HH.out W (HF2.out.trans hW)
     injection hA9 with hA9 _ _
     subst hA9
     obtain ⟨b9,off9,s9,hA9,_,hx9,_,_,_,_,_,_,_,g5⟩:=sl_stp sl9 (k:=0) hRp
     injection hA9 with hA9
     injection hA9 with hA9 hB9
     subst hA9;subst hB9
     rw[←HRR.out] at hx9
     simp at hx9
     rw[←hx9] at g5
     simpa using g5
   have HG:Hid (SlV w2 C 2 isGd (.slice Ag clk0.length cg) clk0):=⟨_,_,rfl,lg,mg,sg.below (hb2.mono (by omega))⟩
   have HCK:Hid (clk0.length≤1600):=HCL.out ((x0,clk0),.slice Ag clk0.length cg) (by rw[HL.out,←HRR.out];simp)
   have hcb:(code++body).length≤9000000:=by
    have:=HBL.out
    simp only[List.length_append]
    omega
   have HTK:Hid (∀W m,FrI base P w W→m≤RR.length→SlV W w.heap.size 6 (isStp W C) (.slice (some ⟨b,off,none⟩) m cr) (RR.take m)):=fun W m hW hm=>by
    obtain ⟨A9,c9,hA9,hl9,hm9,sl9⟩:=HH.out W hW
    injection hA9 with hA9 _ hB9
    subst hA9;subst hB9
    have e:(RR.take m).length=m:=by rw[List.length_take];omega
    exact ⟨_,_,by rw[e],by omega,hm9,sl9.take m⟩
   have HDR:Hid (∀W m A',FrI base P w W→m≤RR.length→(m<RR.length→A'=some ⟨b,off+m*6,none⟩)→SlV W w.heap.size 6 (isStp W C) (.slice A' (RR.length-m) (cr-m)) (RR.drop m)):=fun W m A' hW hm hA=>by
    obtain ⟨A9,c9,hA9,hl9,hm9,sl9⟩:=HH.out W hW
    injection hA9 with hA9 _ hB9
    subst hA9;subst hB9
    refine ⟨_,_,by rw[List.length_drop],by rw[List.length_drop];omega,by omega,fun hlt=>?_⟩
    rw[List.length_drop] at hlt
    rw[hA (by omega)]
    exact sl9.drop m (by rw[List.length_drop];omega)
   clear hb2 q0 d5 HIX sg lg mg HH
   obtain ⟨q0,d5⟩:=HK.out _ (FrI.refl _ _ _)
   have hs20:=HF2.out.size
   by_cases hneg:n<0
   ·have e0:decide (n<0)=true:=decide_eq_true hneg
    have HM:Hid (∀j:Nat,j<RR.length→∀s,RR[j]? =some s→s.1.2=clk0):=fun j hj s hs=>HN.out j (.inl (by omega)) s hs
    have HRN:=Lib.hid (runs_step (m:=RR.length) (by omega) (by omega) HM.out HRU.out)
    have HLN:Hid (l=(done++RR.take RR.length)++RR.drop RR.length):=by
     show _=_
     rw[List.append_assoc,List.take_append_drop];exact HL.out
    have HBN:Hid ((body++(skipsOf clk0 (RR.take RR.length).length++(RR.take RR.length).map (·.1.1))).length≤(done++RR.take RR.length).length*1601):=by
     show _≤_
     have h1:=HBL.out
     have h2:=HCK.out
     simp only[List.length_append,skipsOf_len,List.length_map,List.length_take]
     rw[Nat.min_eq_left (by omega),Nat.add_mul]
     have:RR.length+1600≤RR.length*1601:=by omega
     omega
    clear HM
    go_upto_region 5 with (fail)
    refine wp_region_held_drew (S:=fun W=>W.cell? ⟨w.heap.size,0,none⟩=some (.slice (some ⟨b,off,none⟩) RR.length cr)∧W.cell? ⟨b,off+5,none⟩=some (.slice Ag clk0.length cg)) (by kernel_rfl) ?_ (fun hHeld=>?_)
    ·(try dsimp only);(first|(with_reducible exact HK.out _ (FrI.of_below (by first|exact Below.refl _ _|exact (Below.refl _ _).drew)))|(with_reducible exact HK.out _ hf9))
    refine tk 0 (some 15) rfl ?_
    refine tk 1 (some 16) rfl ?_
    refine tk 2 (some 17) rfl ?_
    refine tk 3 (some 18) rfl ?_
    refine tk 4 (some 19) rfl ?_
    refine tk 5 (some 20) rfl ?_
    refine tk 6 (some 21) rfl ?_
    refine tk 7 (some 22) rfl ?_
    refine rd1 8 (some 23) rfl (fun KK hKK=>?_)
    go_simp
    (refine Calls.mono (of1_any (w:=w2.drew) (B:=w.heap.size) (C:=C) vi vo vr vc v5 (code++body) clk0 _ (RR.take RR.length) _ (HP2.out.below bE) (by show base≤w2.heap.size;omega) hC (HG.out.below bE) (fun W hW=>HTK.out W _ (HF2.out.trans ((FrI.of_below ((Below.refl _ _).drew)).trans hW)) (by omega)) HCK.out (by omega) (by simp only[List.length_take];omega)) ?_);rintro e w8 ⟨rfl,v9,hp9,hf8⟩;(have hf9:FrI base P w2 w8:=(FrI.of_below ((Below.refl _ _).drew)).trans hf8)
    (try go_wp2_with fail)
    refine hKK.out _ _ ?_ (fun hHeld=>?_)
    ·(try dsimp only);(first|(with_reducible exact HK.out _ (FrI.of_below (by first|exact Below.refl _ _|exact (Below.refl _ _).drew)))|(with_reducible exact HK.out _ hf9))
    clear hKK KK
    try simp only[Act.put,List.setIfInBounds_toArray,List.set_cons_zero,List.set_cons_succ]
    refine wpAnyH_done (by kernel_rfl) ?_ _
    have HP9:Hid (PrA w8 base P vi vo vr vc v9 (code++(body++(skipsOf clk0 (RR.take RR.length).length++(RR.take RR.length).map (·.1.1))))):=by
     show PrA _ _ _ _ _ _ _ _ _
     simpa[List.append_assoc] using hp9
    have HR8:=Lib.hid (hf9.row HR2.out hLP (by decide))
    have HF8:=Lib.hid (HF2.out.trans hf9)
    obtain ⟨q8,_⟩:=HK.out _ hf9
    have z8:=HR8.out.frozen 0
    clear hHeld q0 d5 hf8 hf9 hp9
    have HNR:Hid (∀u,Row (w8.setCell ⟨w.heap.size,0,none⟩ u) w.heap.size #[u] 65):=fun u=>by
     have:=HR8.out.set 0 u
     simpa using this
    have HNP:Hid (∀u,PrA (w8.setCell ⟨w.heap.size,0,none⟩ u) base P vi vo vr vc v9 (code++(body++(skipsOf clk0 (RR.take RR.length).length++(RR.take RR.length).map (·.1.1))))):=fun u=>HP9.out.upd HR8.out hLP (by decide)
    have HNF:Hid (∀u,FrI base P w (w8.setCell ⟨w.heap.size,0,none⟩ u)):=fun u=>HF8.out.setNew (Nat.le_refl _) u
    clear HP9 HR8 HF8 HTK
    go_wp2_with fail
    all_goals
     go_roundg 0
     case measure=>omega
     case rel=>exact ⟨done++RR.take RR.length,RR.drop RR.length,_,v9,_,by simp,HLN,HRN,HBN,HNR.out _,HNP.out _,HNF.out _,fun W hW=>by
      rw[List.drop_length]
      exact ⟨_,_,rfl,Nat.zero_le _,by omega,Sl.nil⟩⟩
   ·have e0:decide (n<0)=false:=decide_eq_false hneg
    obtain ⟨m,rfl⟩:=Int.eq_ofNat_of_zero_le (show 0≤n by omega)
    have hm0:0<m:=by omega
    have hm1:m≤RR.length:=by omega
    have hmi:(m:Int)≤RR.length:=by omega
    have hmc:m≤cr:=by omega
    have hmc':(m:Int)≤cr:=by omega
    clear hneg hn1 hn0
    have HM:Hid (∀j:Nat,j<m→∀s,RR[j]? =some s→s.1.2=clk0):=fun j hj s hs=>HN.out j (.inr (by omega)) s hs
    have HRN:=Lib.hid (runs_step (m:=m) (by omega) (by omega) HM.out HRU.out)
    have HLN:Hid (l=(done++RR.take m)++RR.drop m):=by
     show _=_
     rw[List.append_assoc,List.take_append_drop];exact HL.out
    have HBN:Hid ((body++(skipsOf clk0 (RR.take m).length++(RR.take m).map (·.1.1))).length≤(done++RR.take m).length*1601):=by
     show _≤_
     have h1:=HBL.out
     have h2:=HCK.out
     simp only[List.length_append,skipsOf_len,List.length_map,List.length_take]
     rw[Nat.min_eq_left (by omega),Nat.add_mul]
     have:m+1600≤m*1601:=by omega
     omega
    clear HM
    go_upto_region 5 with (fail)
    refine wp_region_held_drew (S:=fun W=>W.cell? ⟨w.heap.size,0,none⟩=some (.slice (some ⟨b,off,none⟩) RR.length cr)∧W.cell? ⟨b,off+5,none⟩=some (.slice Ag clk0.length cg)) (by kernel_rfl) ?_ (fun hHeld=>?_)
    ·(try dsimp only);(first|(with_reducible exact HK.out _ (FrI.of_below (by first|exact Below.refl _ _|exact (Below.refl _ _).drew)))|(with_reducible exact HK.out _ hf9))
    refine tk 0 (some 15) rfl ?_
    refine tk 1 (some 16) rfl ?_
    refine tk 2 (some 17) rfl ?_
    refine tk 3 (some 18) rfl ?_
    refine tk 4 (some 19) rfl ?_
    refine tk 5 (some 20) rfl ?_
    refine tk 6 (some 21) rfl ?_
    refine tk 7 (some 22) rfl ?_
    refine rd1 8 (some 23) rfl (fun KK hKK=>?_)
    go_simp
    (refine Calls.mono (of1_any (w:=w2.drew) (B:=w.heap.size) (C:=C) vi vo vr vc v5 (code++body) clk0 _ (RR.take m) _ (HP2.out.below bE) (by show base≤w2.heap.size;omega) hC (HG.out.below bE) (fun W hW=>HTK.out W _ (HF2.out.trans ((FrI.of_below ((Below.refl _ _).drew)).trans hW)) (by omega)) HCK.out (by omega) (by simp only[List.length_take];omega)) ?_);rintro e w8 ⟨rfl,v9,hp9,hf8⟩;(have hf9:FrI base P w2 w8:=(FrI.of_below ((Below.refl _ _).drew)).trans hf8)
    (try go_wp2_with fail)
    refine hKK.out _ _ ?_ (fun hHeld=>?_)
    ·(try dsimp only);(first|(with_reducible exact HK.out _ (FrI.of_below (by first|exact Below.refl _ _|exact (Below.refl _ _).drew)))|(with_reducible exact HK.out _ hf9))
    clear hKK KK
    try simp only[Act.put,List.setIfInBounds_toArray,List.set_cons_zero,List.set_cons_succ]
    refine wpAnyH_done (by kernel_rfl) ?_ _
    have HP9:Hid (PrA w8 base P vi vo vr vc v9 (code++(body++(skipsOf clk0 (RR.take m).length++(RR.take m).map (·.1.1))))):=by
     show PrA _ _ _ _ _ _ _ _ _
     simpa[List.append_assoc] using hp9
    have HR8:=Lib.hid (hf9.row HR2.out hLP (by decide))
    have HF8:=Lib.hid (HF2.out.trans hf9)
    obtain ⟨q8,_⟩:=HK.out _ hf9
    have z8:=HR8.out.frozen 0
    clear hHeld q0 d5 hf8 hf9 hp9
    have HNR:Hid (∀u,Row (w8.setCell ⟨w.heap.size,0,none⟩ u) w.heap.size #[u] 65):=fun u=>by
     have:=HR8.out.set 0 u
     simpa using this
    have HNP:Hid (∀u,PrA (w8.setCell ⟨w.heap.size,0,none⟩ u) base P vi vo vr vc v9 (code++(body++(skipsOf clk0 (RR.take m).length++(RR.take m).map (·.1.1))))):=fun u=>HP9.out.upd HR8.out hLP (by decide)
    have HNF:Hid (∀u,FrI base P w (w8.setCell ⟨w.heap.size,0,none⟩ u)):=fun u=>HF8.out.setNew (Nat.le_refl _) u
    clear HP9 HR8 HF8 HTK
    go_wp2_with fail
    all_goals
     go_roundg (RR.length-m)
     case measure=>omega
     case rel=>exact ⟨done++RR.take m,RR.drop m,_,v9,_,by simp,HLN,HRN,HBN,HNR.out _,HNP.out _,HNF.out _,fun W hW=>by
      first
       |exact HDR.out W m _ hW hm1 (fun h=>rfl)
       |exact HDR.out W m _ hW hm1 (fun h=>by omega)
       |(have e:RR.length-m=0:=by omega
         rw[List.drop_eq_nil_of_le (show RR.length≤m by omega)]
         exact ⟨_,_,by rw[e];rfl,Nat.zero_le _,by omega,Sl.nil⟩)⟩
end Go.Proofs.YtbjaejgechadpaaGreat
