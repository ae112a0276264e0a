/-
  What parse.Source reads, plain; the parser's loop over nodes: what holds at its head. The contract of parse.Source.
-/
import Derived.Test.YtdkgkacnjdnpoaaGreatZz
import Derived.Test.YtdkgkacnjdnpoaaGreatPrsN
import Derived.Deep.LoopGhost
set_option maxHeartbeats 1000000
set_option maxRecDepth 100000
namespace Go.Proofs.YtdkgkacnjdnpoaaGreat
open Go.RowKit _root_.Go.Proofs.YtdkgkacnjdnpoaaGreat.Nm
theorem ptext_is {s:ByteArray} {x:List Nd} (h:ptext s=some x):s.size≤4000∧noRem s∧∃P,scnF s (s.size+1) ⟨0,1,1⟩=some P∧pnodes P 17 0 []=some x:=by
 unfold ptext at h
 cases h1:decide (s.size≤4000) && !s.data.toList.contains 35 with
 |false=>rw[h1] at h;cases h
 |true=>
  rw[h1,cond_true] at h
  simp only[Bool.and_eq_true,decide_eq_true_eq,Bool.not_eq_true'] at h1
  obtain ⟨P,hP,h⟩:=Option.bind_eq_some_iff.1 h
  refine ⟨h1.1,fun i hi=>?_,P,hP,h⟩
  have hm:(35:UInt8)∈s.data.toList:=by
   unfold byt at hi
   rw[List.getD_eq_getElem?_getD] at hi
   cases hg:s.data.toList[i]? with
   |none=>rw[hg] at hi;exact absurd hi (by decide)
   |some b=>rw[hg] at hi;rw[←show b=35 from hi];exact List.mem_of_getElem? hg
  have h2:s.data.toList.contains 35=true:=List.contains_iff_mem.2 hm
  rw[h1.2] at h2
  cases h2
theorem scnF_len (s:ByteArray):∀(f:Nat) (c:Sc) (L:List Tok),scnF s f c=some L→L.length≤f
 |0,_,_,h=>by cases h
 |f+1,c,L,h=>by
  unfold scnF at h
  dsimp only at h
  cases hd:(blk s s.size c).i==s.size with
  |true=>rw[hd,cond_true] at h;cases h;simp
  |false=>
   rw[hd,cond_false] at h
   obtain ⟨x,_,h⟩:=Option.bind_eq_some_iff.1 h
   obtain ⟨l,hl,rfl⟩:=Option.map_eq_some_iff.1 h
   have:=scnF_len s f x.2 l hl
   simp;omega
theorem pnodes_is {P:List Tok} {k i:Nat} {l x:List Nd} (h:pnodes P k i l=some x):∃k' y u,k=k'+1∧l.length<16∧pnode P i=some y∧P[y.2]? =some u∧((u.kind=5∧x=l++ [y.1])∨(u.kind≠5∧pnodes P k' y.2 (l++ [y.1])=some x)):=by
 cases k with
 |zero=>cases h
 |succ k=>
  unfold pnodes at h
  cases hl:decide (l.length<16) with
  |false=>rw[hl] at h;cases h
  |true=>
   rw[hl,cond_true] at h
   obtain ⟨y,h1,h⟩:=Option.bind_eq_some_iff.1 h
   obtain ⟨u,h2,h⟩:=Option.bind_eq_some_iff.1 h
   refine ⟨k,y,u,rfl,of_decide_eq_true hl,h1,h2,?_⟩
   cases hs:u.kind==5 with
   |true=>rw[hs,cond_true] at h;cases h;exact .inl ⟨beq_iff_eq.1 hs,rfl⟩
   |false=>rw[hs,cond_false] at h;exact .inr ⟨beq_eq_false_iff_ne.1 hs,h⟩
def NdR (w:World) (B:Nat) (x:Nd) (cs:List Value):Prop:=isNd w B x cs
theorem ndR_keep {W W':World} {B B':Nat} (hk:Keeps B W W') (hB:B≤B') (x:Nd) (cs:List Value) (h:NdR W B x cs):NdR W' B' x cs:=isNd_keep hk hB h
theorem info_nd:(Tryz.prog.info? 58).map (fun i=>(i.zero,i.size,i.bytes))=some (some (.agg ndZ7),7,128):=by kernel_rfl
theorem nd7_one (a b c d e f g:Value) (ha:a.oneCell'=true) (hb:b.oneCell'=true) (hc:c.oneCell'=true) (hd:d.oneCell'=true) (he:e.oneCell'=true) (hf:f.oneCell'=true) (hg:g.oneCell'=true):∀u∈[a,b,c,d,e,f,g],u.oneCell'=true:=by
 intro u hu
 simp only[List.mem_cons,List.not_mem_nil,or_false] at hu
 rcases hu with rfl|rfl|rfl|rfl|rfl|rfl|rfl<;>assumption
attribute [local go_sem] field_tk0 field_tk1 field_tk3
theorem res22 {P:Program} {fn:Func} {p q:Tmp} {ty ty2:TypeId} {d d2:TypeDesc} {cs cs2:Array Value} (h:fn.results= #[.cell p ty,.cell q ty2]) (hu:P.underlying ty=some d) (hd:(match d with| .struct _| .array _ _=>true|_=>false)=true) (hi:(P.info? ty).map (·.size)=some cs.size)
  (hu2:P.underlying ty2=some d2) (hd2:(match d2 with| .struct _| .array _ _=>true|_=>false)=true) (hi2:(P.info? ty2).map (·.size)=some cs2.size)
  {tmps:Array Value} {w:World} {g g2:Nat} {t t2:TypeId} (hp:tmps.getD p undef= .pointer (some ⟨g,0,none⟩)) (hq:tmps.getD q undef= .pointer (some ⟨g2,0,none⟩)) (hg:Row w g cs t) (hg2:Row w g2 cs2 t2):(results fn tmps).run P w= .ok (.tuple #[.agg cs,.agg cs2]) w:=by
 have hp':tmps[p]?.getD undef= .pointer (some ⟨g,0,none⟩):=by simpa using hp
 have hq':tmps[q]?.getD undef= .pointer (some ⟨g2,0,none⟩):=by simpa using hq
 simp[results,h,hp',hq',asAddr,run_loadVar_row w g t ty cs (0,0) d hg hu hd hi,run_loadVar_row w g2 t2 ty2 cs2 (0,0) d2 hg2 hu2 hd2 hi2]
structure SoI (w:World) (o:Nat) (P:Pr) (Z lo:Nat) (x:List Nd) (v:Value) (l:List Nd) (css:List (List Value)) (j k:Nat) (wr:World):Prop where
 pe:pnodes P.l k j l=some x
 rz:Row wr Z #[v] 24
 ro:Row wr o (prA P j) 130
 u:Upd (fun x=>x=o∨w.heap.size≤x) w wr
 own:OwnH NdR wr lo lo 7 58 v l css
 ln:l.length+k=17
 hl:lo≤wr.heap.size
theorem SoI.bel {w wr w':World} {o:Nat} {P:Pr} {Z lo:Nat} {x:List Nd} {v:Value} {l:List Nd} {css:List (List Value)} {j k:Nat} (h:SoI w o P Z lo x v l css j k wr) (hb:Below wr.heap.size wr w'):SoI w o P Z lo x v l css j k w':=
 ⟨h.pe,h.rz.below hb h.rz.lt,h.ro.below hb h.ro.lt,h.u.trans (Upd.of_below hb),h.own.upd ndR_keep (Upd.of_below (X:=fun _=>False) hb) (fun _ e=>e.elim) (fun _ e=>e.elim),h.ln,Nat.le_trans h.hl hb.size⟩
theorem nds_up {X:Nat→Prop} {w w':World} {lo lo':Nat} {v:Value} {l:List Nd} (h:SlV (hide lo w) w.heap.size 7 (NdR (hide lo w) w.heap.size) v l) (hu:Upd X w w') (hX:∀k,X k→k<lo) (hl:lo'≤lo):SlV (hide lo' w') w'.heap.size 7 (isNd (hide lo' w') w'.heap.size) v l:=by
 refine' zq152
 exact SlV.keep h hk hu.size (fun _ _ _ h=>isNd_keep hk hu.size h)
theorem nds_hide {X:Nat→Prop} {w w':World} {lo lo' hi hi':Nat} {A:Option Addr} {l:List Nd} (h:Nds (hide lo w) hi A l) (hu:Upd X w w') (hX:∀k,X k→k<lo∨hi≤k) (hh:hi≤w.heap.size) (hl:lo'≤lo) (h2:hi≤hi'):Nds (hide lo' w') hi' A l:=
 nds_keep h (fun p u hp hc=>hide_more hl hi w' p u hp (keeps_of (hu.bhide hX hh) p u hp hc)) h2
theorem nds_whole {w:World} {lo hi:Nat} {A:Option Addr} {l:List Nd} (h:Nds (hide lo w) hi A l):Nds w hi A l:=nds_keep h (fun _ _ _ hc=>hide_cell hc) (Nat.le_refl _)
theorem psource_any (s:ByteArray) (xs:List Nd) (w:World) (hx:ptext s=some xs):
  Calls Tryz.prog 26 #[.string s] w fun r w'=>(∃A cap,r= .returned (.tuple #[srcV xs A cap,ftV ft0])∧xs.length≤cap∧cap≤maxLen∧Nds (hide w.heap.size w') w'.heap.size A xs)∧Below w.heap.size w w':=by
 obtain ⟨i0,hi0,hz0,hz1,hz2⟩:=info_parts info_nd
 obtain ⟨hs,hr,L,hL,hN⟩:=ptext_is hx
 have hLl:=scnF_len _ _ _ _ hL
 refine' zq136
 have r2:Row ((w.alloc (.cells #[.slice none 0 0] 24)).alloc (.cells ftC0 38)) (w.heap.size+1) ftC0 38:=by
  have:=Row.new (w.alloc (.cells #[.slice none 0 0] 24)) ftC0 38
  simpa using this
 have HN:=Lib.hid hN
 have HSC:=Lib.hid (fun W=>scan_any s L W hs hr hL)
 clear hx hr hL hN
 go_enter Tryz.func26,Tryz.ntmps26
 refine' zq88
 refine (HSC.out W1).mono ?_
 rintro r w2 ⟨⟨v,rfl,hv⟩,hb2⟩
 obtain ⟨At,ct,rfl,hlc,hmc,slt⟩:=hv
 have hs2:=hb2.size
 have rF:=Row.new w2 ftC0 38
 have b3:Below w2.heap.size w2 (w2.alloc (.cells ftC0 38)):=bE
 have hs3:=b3.size
 have hlF:=rF.lt
 obtain ⟨⟨t0,t1,t2⟩,-⟩:=rF.three
 go_upto_region 2 with (fail)
 change Code.wp _ _ _ _ (w2.alloc (.cells ftC0 38))
 generalize w2.alloc (.cells ftC0 38)=W3 at*
 have rO:=Row.new W3 (prA ⟨L,At,ct⟩ 0) 130
 have b4:Below W3.heap.size W3 (W3.alloc (.cells (prA ⟨L,At,ct⟩ 0) 130)):=bE
 have hs4:=b4.size
 have hlO:=rO.lt
 have H4:Hid (PrAt (W3.alloc (.cells (prA ⟨L,At,ct⟩ 0) 130)) W3.heap.size ⟨L,At,ct⟩ 0):=by
  refine ⟨rO,?_,hlc,hmc,by show L.length≤5000;omega⟩
  refine Sl.keep slt (fun p u hp hc=>?_) (by omega) (fun _ _ _ h=>h)
  rw[mask_of (by omega:p.block≠W3.heap.size)]
  exact keeps_of (b3.trans (b4.mono hs3)) p u hp hc
 have bW4:Below w.heap.size w (W3.alloc (.cells (prA ⟨L,At,ct⟩ 0) 130)):=b1.trans ((hb2.trans ((b3.trans (b4.mono hs3)).mono hs2)).mono hs1)
 have r14:=((r1.below hb2 hl1).below b3 (by omega)).below b4 (by omega)
 have r24:=((r2.below hb2 hl2).below b3 (by omega)).below b4 (by omega)
 go_upto_region 5 with (fail)
 change Code.wp _ _ _ _ (W3.alloc (.cells (prA ⟨L,At,ct⟩ 0) 130))
 have HN4:Hid (pnodes (Pr.l ⟨L,At,ct⟩) 17 0 []=some xs):=HN.out
 clear HN slt b1 hb2 b3 b4 r1 r2 rF t0 t1 t2 hlc hmc HSC hs hLl
 generalize (⟨L,At,ct⟩:Pr)=P at*
 generalize W3.alloc (.cells (prA P 0) 130)=W4 at*
 have rZ:=Row.new W4 #[.slice none 0 0] 24
 have b5:Below W4.heap.size W4 (W4.alloc (.cells #[.slice none 0 0] 24)):=bE
 have HNI:Hid (SoI W4 W3.heap.size P W4.heap.size (W4.heap.size+1) xs (.slice none 0 0) [] [] 0 17 (W4.alloc (.cells #[.slice none 0 0] 24))):=
  ⟨HN4.out,rZ,rO.below b5 hlO,Upd.of_below b5,OwnH.nil,rfl,by simp⟩
 clear HN4 rO
 have hoR:w.heap.size+1<W3.heap.size:=by omega
 go_upto_region 6 with (fail)
 change Code.wp _ _ _ _ (W4.alloc (.cells #[.slice none 0 0] 24))
 clear b5 rZ
 generalize W4.alloc (.cells #[.slice none 0 0] 24)=W5 at*
 generalize W3.heap.size=o at*
 generalize hZ:W4.heap.size=Z at*
 go_loopg [] 17 (fun n wr=>∃v l css j,Hid (SoI W4 o P Z (Z+1) xs v l css j n wr))
 case atStart=>exact ⟨_,_,_,_,HNI⟩
 case round=>
  obtain ⟨v,l,css,j,H⟩:=hrel
  obtain ⟨k',y,u,rfl,hl16,hy,hu,hcase⟩:=pnodes_is H.out.pe
  obtain ⟨Av,cv,hv,-⟩:=own_rd H.out.own.own
  subst hv
  have hsw:=H.out.u.size
  have HPA:=Lib.hid (H4.out.step H.out.ro (H.out.u.narrow (fun k hk e=>by omega)))
  have HB:=Lib.hid (pbad_any HPA.out)
  have HND:=Lib.hid (fun (W:World) (hW:Below wr.heap.size wr W)=>pnode_any (HPA.out.bel hW) hy)
  have q4:wr.cell? ⟨Z,0,none⟩=some (.slice Av l.length cv):=(H.out.rz.cell 0).trans rfl
  have h16:((l.length:Int)==16)=false:=by rw[beq_eq_false_iff_ne];omega
  have tk0:wr.heap.size≤wr.heap.size:=Nat.le_refl _
  go_wp2_with fail
  refine HB.out.mono ?_
  rintro r w5 ⟨rfl,rfl⟩
  go_upto_region 9 with (fail)
  refine wp_region_L 7 (S:=fun W=>W.cell? ⟨Z,0,none⟩=some (.slice Av l.length cv)) (by kernel_rfl) ?_ (fun hHeld=>?_)
  ·refine' zq159
  refine tkL 0 (some 37) rfl ?_
  refine tkL 1 (some 38) rfl ?_
  refine tkL 2 (some 39) rfl ?_
  refine rdL 3 (some 40) rfl (fun KK hKK=>?_)
  go_simp
  ((go_at_call 53);(refine Calls.mono (HND.out _ (Below.drew (Below.refl _ _))) ?_);rintro e w7 ⟨⟨a,rfl,hcs⟩,h7⟩;(have r7:=h7.2.row (Row.drew H.out.rz) (by omega));(have HS7:=Lib.hid ((r7.cell 0).trans rfl:w7.cell? ⟨Z,0,none⟩=some (.slice Av l.length cv)));(have HS8:=Lib.hid (fun ob:Obj=>(((r7.alloc ob).cell 0).trans rfl:(w7.alloc ob).cell? ⟨Z,0,none⟩=some (.slice Av l.length cv))));(have HB7:Hid (∀ob:Obj,Z+1≤(w7.alloc ob).heap.size):=fun ob=>(by have h1:=H.out.hl;have h2:=h7.2.size;have h3:wr.drew.heap.size=wr.heap.size:=rfl;simp;omega));(have HO7:=Lib.hid (fun ob:Obj=>(own_updX (own_below H.out.own.own (Below.drew (Below.refl _ wr))) h7.2 (fun k e=>by omega)).alloc ob)))
  (try go_wp2_with fail)
  refine' zq15
  refine rdL 4 (some 41) rfl (fun KK hKK=>?_)
  go_simp
  refine' zq15
  refine rdL 5 (some 42) rfl (fun KK hKK=>?_)
  ((rw[if_pos (by kernel_rfl)]);(refine wp_append_any _ (.tmp 38) (.tmp 41) 22 rfl (Z+1) 58 i0 _ 7 128 Tryz.underlying22 hi0 hz0 hz1 hz2 rfl (by decide) _ l.length css.flatten rfl (HO7.out _) ⟨_,0,none⟩ 1 1 (ndCs y.1 a) rfl rfl (cells_new5 _ _ _) (nd7_one _ _ _ _ _ _ _ rfl rfl rfl rfl rfl rfl rfl) (by unfold maxLen;omega) (by omega) (HB7.out _) ?_);(intro v9 w9 hown9 hg9 hb9);(have r9:=Row.ownB (r7.alloc _) (HO7.out _) (Nat.lt_succ_self _) hg9);(have q9:=((r9.cell 0).trans rfl:w9.cell? ⟨Z,0,none⟩=some (.slice Av l.length cv)));(have z9:=r9.frozen 0);(obtain ⟨A9,c9,hv9,-⟩:=own_rd hown9);subst hv9)
  refine' zq15
  refine rdL 6 (some 43) rfl (fun KK hKK=>?_)
  refine' zq148
  have hgb:∀g,(Value.slice Av l.length cv).ownBlock=some g→Z+1≤g∧g<wr.heap.size:=fun g hg=>H.out.own.own.lt g hg
  have OW7:=(H.out.own.upd ndR_keep Ua (fun k e=>by omega) (fun k e=>by omega)).upd ndR_keep (Upd.of_below (X:=fun _=>False) (bE:Below w7.heap.size w7 (w7.alloc (.cells (ndCs y.1 a).toArray 58)))) (fun k e=>e.elim) (fun k e=>e.elim)
  have hcs':NdR (hmv (Value.slice Av l.length cv).ownBlock (Z+1) (w7.alloc (.cells (ndCs y.1 a).toArray 58))) (w7.alloc (.cells (ndCs y.1 a).toArray 58)).heap.size y.1 (ndCs y.1 a):=
   ndR_keep (keeps_of ((Upd.of_below (X:=fun _=>False) (bE:Below w7.heap.size w7 (w7.alloc (.cells (ndCs y.1 a).toArray 58)))).bhmv (b:=(Value.slice Av l.length cv).ownBlock) (lo:=Z+1) (hi:=w7.heap.size) (fun k e=>e.elim) (Nat.le_refl _))) (by simp) _ _ (ndR_keep (hmv_new (lo':=wr.heap.size) (fun g hg=>(hgb g hg).2) hL0 w7.heap.size) (Nat.le_refl _) _ _ ⟨a,rfl,hcs⟩)
  have OW9:=OW7.snoc ndR_keep hown9 hg9 hb9 rfl hcs'
  have ug:Upd (fun k=>Z+1≤k) (w7.alloc (.cells (ndCs y.1 a).toArray 58)) w9:=⟨hg9.os,hg9.tape,hg9.output,hg9.size,fun k hk hX=>hg9.block k hk (fun e=>hX (hgb k e.symm).1)⟩
  have U9:Upd (fun k=>k=o∨Z+1≤k) wr w9:=((Ua.mono (fun k e=>Or.inl e)).alloc _).trans (ug.mono (fun k e=>Or.inr e))
  have u10:Upd (fun k=>k=Z) w9 (w9.setCell ⟨Z,0,none⟩ (.slice A9 (l.length+1) c9)):=(Upd.refl (fun k=>k=Z) w9).setCell (p:=⟨Z,0,none⟩) rfl _
  have r10:Row (w9.setCell ⟨Z,0,none⟩ (.slice A9 (l.length+1) c9)) Z #[.slice A9 (l.length+1) c9] 24:=by
   have:=r9.set 0 (.slice A9 (l.length+1) c9)
   simpa using this
  have OW10:=OW9.upd ndR_keep u10 (fun k e=>by omega) (fun k e=>by omega)
  have U10:Upd (fun k=>k=o∨Z+1≤k∨k=Z) wr (w9.setCell ⟨Z,0,none⟩ (.slice A9 (l.length+1) c9)):=(U9.mono (fun k e=>by omega)).trans (u10.mono (fun k e=>Or.inr (Or.inr e)))
  have rO9:Row w9 o (prA P y.2) 130:=Row.ownB (h7.1.row.alloc _) (HO7.out _) (by omega) hg9
  have rO10:=u10.row rO9 (by omega)
  have UW10:=H.out.u.trans (U10.mono (Y:=fun x=>x=o∨W4.heap.size≤x) (fun k e=>by omega))
  have hs10:=U10.size
  have HN10:Hid (∀x k,pnodes P.l k y.2 (l++ [y.1])=some x→(l++ [y.1]).length+k=17→SoI W4 o P Z (Z+1) x (.slice A9 (l.length+1) c9) (l++ [y.1]) (css++ [ndCs y.1 a]) y.2 k (w9.setCell ⟨Z,0,none⟩ (.slice A9 (l.length+1) c9))):=fun x k hp hl=>⟨hp,r10,rO10,UW10,OW10,hl,by omega⟩
  have HP10:=Lib.hid (H4.out.step rO10 (UW10.narrow (fun k hk e=>by omega)))
  have HF10:=Lib.hid (And.intro r10 (And.intro UW10 OW10))
  clear OW7 hcs' OW9 ug U9 u10 r10 OW10 U10 rO9 rO10 UW10 Ua HO7 HS7 HS8 HB7 r7 r9 q9 z9 hcs h7 hown9 hg9 hb9 q4
  go_wp2_with fail
  generalize (w9.setCell ⟨Z,0,none⟩ (.slice A9 (l.length+1) c9))=W10 at*
  have HNW:=Lib.hid (now_any HP10.out hu)
  rcases hcase with ⟨hk5,hn⟩|⟨hk5,hn⟩
  ·have e5:(u.kind==5)=true:=beq_iff_eq.2 hk5
   have HX:=Lib.hid hn
   clear hn hk5
   go_wp2_with fail
   refine HNW.out.mono ?_
   rintro r w11 ⟨rfl,hb11⟩
   have hs11:=hb11.size
   have HB11:=Lib.hid (pbad_any (HP10.out.bel hb11))
   have HO11:=Lib.hid (HF10.out.2.2.upd ndR_keep (Upd.of_below (X:=fun _=>False) hb11) (fun _ e=>e.elim) (fun _ e=>e.elim))
   have rZ11:=HF10.out.1.below hb11 HF10.out.1.lt
   have r1:=(HF10.out.2.1.row r14 (by omega)).below hb11 (by omega)
   have r2:=(HF10.out.2.1.row r24 (by omega)).below hb11 (by omega)
   have hB11:=bW4.trans ((Upd.below HF10.out.2.1 (fun k e=>by omega) (by omega)).trans (hb11.mono (by omega)))
   have c0:=rZ11.src
   have d0:=r1.src
   have d1:=r1.frozen 0
   obtain ⟨⟨k0,k1,k2⟩,z0,z1,z2⟩:=r2.three
   have HR1:=Lib.hid r1
   have HR2:=Lib.hid r2
   clear rZ11 r1 r2 HN10 HP10 HNW HB HND HPA hb11 r14 r24
   go_wp2_with fail
   refine HB11.out.mono ?_
   rintro r w12 ⟨rfl,rfl⟩
   go_wp2_with fail
   have u13:Upd (fun k=>k=w.heap.size) w11 (w11.setCell ⟨w.heap.size,0,none⟩ (.slice A9 (l.length+1) c9)):=(Upd.refl (fun k=>k=w.heap.size) w11).setCell (p:=⟨w.heap.size,0,none⟩) rfl _
   have u14:=upd_three (w11.setCell ⟨w.heap.size,0,none⟩ (.slice A9 (l.length+1) c9)) (w.heap.size+1) (.int .i64 0) (.int .i64 0) (.int .i64 0)
   have q1:Row (w11.setCell ⟨w.heap.size,0,none⟩ (.slice A9 (l.length+1) c9)) w.heap.size #[.slice A9 (l.length+1) c9] 24:=by
    have:=HR1.out.set 0 (.slice A9 (l.length+1) c9)
    simpa using this
   have q2:=Row.set3 (u13.row HR2.out (by omega)) (.int .i64 0) (.int .i64 0) (.int .i64 0)
   refine bodyPost_ret (res22 rfl Tryz.underlying24 rfl (by kernel_rfl) Tryz.underlying38 rfl (by kernel_rfl) rfl rfl (u14.row q1 (by omega)) q2) rfl ?_
   have hs13:=u13.size
   have hs14:=u14.size
   obtain ⟨A',c',e,hle,hme,sle⟩:=nds_up (HO11.out.slv ndR_keep (Nat.le_refl _)) ((u13.mono (Y:=fun k=>k=w.heap.size∨k=w.heap.size+1) (fun k e=>Or.inl e)).trans (u14.mono (fun k e=>Or.inr e))) (fun k e=>by omega) (by omega:w.heap.size≤Z+1)
   have hq:=HX.out
   subst hq
   have HE:Hid (Ending.returned (.tuple #[.agg #[.slice A9 (l.length+1) c9],.agg #[.int .i64 0,.int .i64 0,.int .i64 0]])= .returned (.tuple #[srcV (l++ [y.1]) A' c',ftV ft0])):=by
    show _=Ending.returned (.tuple #[.agg #[.slice A' (l++ [y.1]).length c'],ftV ft0])
    rw[←e]
   exact ⟨⟨A',c',HE.out,hle,hme,sle⟩,hB11.trans (Upd.below ((u13.mono (Y:=fun k=>k=w.heap.size∨k=w.heap.size+1) (fun k e=>Or.inl e)).trans (u14.mono (fun k e=>Or.inr e))) (fun k e=>by omega) (by omega))⟩
  ·have e5:(u.kind==5)=false:=beq_eq_false_iff_ne.2 hk5
   have HNN:=Lib.hid (HN10.out xs k' hn (by rw[List.length_append];have:=H.out.ln;simp;omega))
   clear hn hk5 HF10 HN10 HP10 HB HND HPA
   go_wp2_with fail
   refine HNW.out.mono ?_
   rintro r w11 ⟨rfl,hb11⟩
   have HNN2:=Lib.hid (HNN.out.bel hb11)
   clear HNN HNW hb11
   go_wp2_with fail
   go_roundg k'
   case measure=>omega
   case rel=>exact ⟨_,_,_,_,HNN2⟩
end Go.Proofs.YtdkgkacnjdnpoaaGreat
