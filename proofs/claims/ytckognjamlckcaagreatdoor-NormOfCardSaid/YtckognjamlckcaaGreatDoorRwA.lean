/-
  Several texts in one: SemG, SemH. Several texts in one: SemE, SemF, OpenR, RTy.
-/
import Derived.Test.YtckognjamlckcaaGreatDoorZz
import Derived.Test.YtckognjamlckcaaGreatDoorSemC
import Derived.Test.YtckognjamlckcaaGreatDoorRgL
import Derived.Test.YtckognjamlckcaaGreatDoorOrdB
import Derived.Test.YtckognjamlckcaaGreatDoorNormK
import Derived.Test.YtckognjamlckcaaGreatDoorVmZ
import Derived.Test.YtckognjamlckcaaGreatDoorR24A
import Derived.Test.YtckognjamlckcaaGreatDoorNmD
set_option maxHeartbeats 16000000
set_option maxRecDepth 100000
namespace Go.Proofs.YtckognjamlckcaaGreatDoor
open Go.RowKit Vf Fo Ar
attribute [local go_sem ↓] Go.wp_at_zero Go.wp_at_succ
theorem own_nil {w:World} {base size n:Nat} {e:TypeId} {v:Value} {xs:List Value} (h:w.ownsRow base e size v n xs):NilOk v:=by
 obtain ⟨A,c,rfl,hn,_⟩:=own_src h
 exact hn
theorem own_two {w:World} {b1 b2 s1 s2 n1 n2 k:Nat} {e1 e2:TypeId} {v1 v2:Value} {xs1 xs2:List Value} (h1:w.ownsRow b1 e1 s1 v1 n1 xs1) (h2:w.ownsRow b2 e2 s2 v2 n2 xs2) (he:e1≠e2) (hk:v1.ownBlock=some k):v2.ownBlock≠some k:=by
 rcases h1.2 with ⟨h0,_⟩|⟨g,c,cur,h3,h4,h5,_⟩
 ·rw[h0] at hk;cases hk
 ·rw[h3] at hk
  obtain rfl:g=k:=by injection hk
  exact own_ne h2 (show Row w g cur e1 from h5) he
theorem Upd.grown {w w':World} {row:Option Nat} (hg:w.grownBy w' row):Upd (fun k=>row=some k) w w':=⟨hg.os,hg.tape,hg.output,hg.size,fun k hk hX=>hg.block k hk (fun e=>hX e.symm)⟩
theorem own_keep {w w':World} {b B size n:Nat} {e:TypeId} {v:Value} {xs:List Value} (h:w.ownsRow b e size v n xs) (hb:Below B w w') (hv:∀k,v.ownBlock=some k→k<B):w'.ownsRow b e size v n xs:=by
 refine ⟨h.1,?_⟩
 rcases h.2 with h0|⟨g,c,cur,h1,h2,h3,h4⟩
 ·exact .inl h0
 ·exact .inr ⟨g,c,cur,h1,h2,(hb.block g (hv g (by rw[h1];rfl))).trans h3,h4⟩
theorem slv_cut {α:Type} {W:World} {B B' size:Nat} {rel:α→List Value→Prop} {v:Value} {l:List α} (h:SlV W B size rel v l) (hB:∀k,v.ownBlock=some k→k<B'):SlV W B' size rel v l:=by
 obtain ⟨A,c,rfl,h1,h2,h3⟩:=h
 refine ⟨A,c,rfl,h1,h2,fun hl=>?_⟩
 obtain ⟨b,off,rfl,_,h5⟩:=h3 hl
 exact ⟨b,off,rfl,hB b rfl,h5⟩
structure RunI (f:Fm) (cs:List Int) (B R:Nat) (vw va vc vk vi vo vC vP:Value) (W:World):Prop where
 bR:B≤R
 fm:FmAt W B f vw va vc vk vi vo
 c:∃n,W.ownsRow B 3 1 vC n (ints cs)
 cw:∀x∈cs,Wf x
 p:∃n,W.ownsRow B 3 1 vP n (ints (plF f))
 pw:∀x∈plF f,Wf x
 r:∃x7 x8 x9:Value,Row W R #[vw,va,vc,vk,vi,vo,vC,x7,x8,x9,vP] 129
section
variable {f:Fm} {cs:List Int} {B R:Nat} {vw va vc vk vi vo vC vP:Value} {W W':World}
theorem RunI.nil (h:RunI f cs B R vw va vc vk vi vo vC vP W):NilOk vC:=by
 obtain ⟨_,h⟩:=h.c
 exact own_nil h
theorem RunI.rlt (h:RunI f cs B R vw va vc vk vi vo vC vP W):R<W.heap.size:=by
 obtain ⟨_,_,_,h⟩:=h.r
 exact h.lt
theorem own_int {v:Value} {n:Nat} {l:List Int} (h:W.ownsRow B 3 1 v n (ints l)) (hw:∀x∈l,Wf x) {X:Nat→Prop} (u:Upd X W W') (hX:∀k,v.ownBlock=some k→¬X k):SlV W' W.heap.size 1 isInt v l:=by
 have hn:n=l.length:=by
  have:=h.1
  rw[ints_len] at this
  omega
 subst hn
 exact slv_cut (ownI (own_updE h u hX) hw) (fun k hk=>(h.lt k hk).2)
theorem RunI.keep (h:RunI f cs B R vw va vc vk vi vo vC vP W) (W':World) (u:Upd (fun k=>k=R) W W'):FmAt W' W.heap.size f vw va vc vk vi vo∧SlV W' W.heap.size 1 isInt vC cs∧SlV W' W.heap.size 1 isInt vP (plF f):=by
 have hR:=h.rlt
 have hB:=h.bR
 obtain ⟨_,_,_,r⟩:=h.r
 obtain ⟨_,c⟩:=h.c
 obtain ⟨_,p⟩:=h.p
 refine ⟨(h.fm.below (u.below (B:=B) (fun q hq=>by omega) (by omega))).keep (fun _ _ _ hc=>hc) (by omega),own_int c h.cw u (fun q hq e=>own_ne c r (by decide) (by rw[←e];exact hq)),own_int p h.pw u (fun q hq e=>own_ne p r (by decide) (by rw[←e];exact hq))⟩
theorem RunI.upd {X:Nat→Prop} (h:RunI f cs B R vw va vc vk vi vo vC vP W) (u:Upd X W W') (hX:∀k,X k→B≤k) (hR:¬X R) (hc:∀n xs,W.ownsRow B 3 1 vC n xs→∀k,vC.ownBlock=some k→¬X k) (hp:∀n xs,W.ownsRow B 3 1 vP n xs→∀k,vP.ownBlock=some k→¬X k):RunI f cs B R vw va vc vk vi vo vC vP W':=by
 have hl:=h.rlt
 have hB:=h.bR
 obtain ⟨x7,x8,x9,r⟩:=h.r
 obtain ⟨n,c⟩:=h.c
 obtain ⟨m,p⟩:=h.p
 exact ⟨hB,h.fm.below (u.below (B:=B) hX (by omega)),⟨n,own_updE c u (hc _ _ c)⟩,h.cw,⟨m,own_updE p u (hp _ _ p)⟩,h.pw,x7,x8,x9,u.row r hR⟩
end
theorem by_wf {f:Fm} (hla:f.acts.length≤100000) (n:Int):Wf (byR n 0 f.acts):=by
 have:∀(l:List Ac) (i:Nat),i+l.length≤100000→-1≤byR n i l∧byR n i l≤100000:=by
  intro l
  induction l with
  |nil=>intro i _;simp[byR]
  |cons x l ih=>
   intro i h
   simp only[List.length_cons] at h
   simp only[byR]
   split
   ·omega
   ·exact ih (i+1) (by omega)
 have h:=this f.acts 0 (by omega)
 exact wf_of (by omega)
theorem new_any (f:Fm) (vw va vc vk vi vo:Value) (w:World) (h:FmAt w w.heap.size f vw va vc vk vi vo) (hwl:f.wires.length≤1600) (hcl:f.cells.length≤1600) (hla:f.acts.length≤100000) (hcw:∀x∈f.cells,Wf x.2):
  Calls Tryz.prog 53 #[fmV vw va vc vk vi vo] w fun e w'=>∃R vC vP,e= .returned (.pointer (some ⟨R,0,none⟩))∧RunI f (f.cells.map (·.2)) w.heap.size R vw va vc vk vi vo vC vP w'∧Below w.heap.size w w':=by
 refine' zq122
 obtain ⟨Aw,cw,rfl,lw,mw,_⟩:=id h.wires
 obtain ⟨Aa,ca,rfl,_,_,_⟩:=id h.acts
 obtain ⟨Acc,cc,rfl,lc,mc,_⟩:=id h.cells
 obtain ⟨Akk,ck,rfl,_,_,_⟩:=id h.keeps
 obtain ⟨Ai,ci,rfl,_,_,_⟩:=id h.ins
 obtain ⟨Ao,co,rfl,_,_,_⟩:=id h.outs
 refine' zq76
 refine' zq244
 have HFM:=Lib.hid (fun W (hW:Below w.heap.size w W)=>h.below hW)
 clear h
 go_enter Tryz.func53,Tryz.ntmps53
 go_upto_region 2 with (fail)
 generalize hWW:World.alloc (World.alloc w _) _=w1
 have hX:Below w.heap.size w w1∧Row w1 w.heap.size #[.slice Aw f.wires.length cw,.slice Aa f.acts.length ca,.slice Acc f.cells.length cc,.slice Akk f.keeps.length ck,.slice Ai f.ins.length ci,.slice Ao f.outs.length co] 28∧Row w1 (w.heap.size+1) #[.slice Aw f.wires.length cw,.slice Aa f.acts.length ca,.slice Acc f.cells.length cc,.slice Akk f.keeps.length ck,.slice Ai f.ins.length ci,.slice Ao f.outs.length co,.slice none 0 0,.slice none 0 0,.slice none 0 0,.slice none 0 0,.slice none 0 0] 129:=by
  rw[←hWW]
  exact ⟨bE,(Row.new w _ _).alloc _,rowNew2 w _ _ _⟩
 clear hWW
 obtain ⟨b1,rG1,rR1⟩:=hX
 have hs1:=b1.size
 have hR1:=rR1.lt
 have HG1:=Lib.hid rG1
 have HR1:=Lib.hid rR1
 have HB1:=Lib.hid b1
 clear rG1 rR1 b1
 go_wp2_with fail
 go_loopw[4] (fun i wr=>∃(k:Nat) (v6:Value),k≤f.cells.length∧i= .int .i64 k∧Hid (Row wr w.heap.size #[.slice Aw f.wires.length cw,.slice Aa f.acts.length ca,.slice Acc f.cells.length cc,.slice Akk f.keeps.length ck,.slice Ai f.ins.length ci,.slice Ao f.outs.length co] 28)∧Hid (Row wr (w.heap.size+1) #[.slice Aw f.wires.length cw,.slice Aa f.acts.length ca,.slice Acc f.cells.length cc,.slice Akk f.keeps.length ck,.slice Ai f.ins.length ci,.slice Ao f.outs.length co,v6,.slice none 0 0,.slice none 0 0,.slice none 0 0,.slice none 0 0] 129)∧Hid (wr.ownsRow w1.heap.size 3 1 v6 k (ints ((f.cells.take k).map (·.2))))∧Hid (Below w.heap.size w wr)∧Hid (w1.heap.size≤wr.heap.size)) (fun i _=>f.cells.length-(intOf i).toNat)
 case atStart=>exact ⟨0,_,Nat.zero_le _,rfl,HG1.out,HR1.out,World.ownsRow_nil _ _ _ _,HB1.out,Nat.le_refl _⟩
 case round=>
  clear HG1 HR1 HB1
  obtain ⟨k,v6,hk,rfl,HG,HR,HO,HB,HS⟩:=hrel
  have hsr:=HS.out
  have q2:=HG.out.cell 2
  have q6:=HR.out.cell 6
  simp only[List.getElem?_toArray,List.getElem?_cons_zero,List.getElem?_cons_succ] at q2 q6
  by_cases hlt:k<f.cells.length
  ·obtain ⟨A',c',hA',_,_,sl⟩:=(HFM.out _ HB.out).cells
   refine' zq288
   obtain ⟨b,off,⟨ct,T⟩,rfl,hbb,hx,_,_,d0,d1⟩:=sl.cell hlt
   dsimp only at d0 d1
   have hk':(k:Int)<f.cells.length:=by omega
   have HTK:Hid (ints ((f.cells.take (k+1)).map (·.2))=ints ((f.cells.take k).map (·.2))++ [.int .i64 T]):=by
    show _=_
    rw[take_snoc' hx,List.map_append,List.map_singleton,ints_snoc]
   generalize ints ((f.cells.take k).map (·.2))=LL at*
   have HK:Hid (∀W,Below wr.heap.size wr W→W.cell? ⟨w.heap.size+1,6,none⟩=some v6∧W.cell? ⟨w.heap.size,2,none⟩=some (.slice (some ⟨b,off,none⟩) f.cells.length cc)∧W.cell? ⟨b,off+k*2+1,none⟩=some (.int .i64 T)):=fun W hW=>⟨cell_kept q6 hW,cell_kept q2 hW,cell_kept d1 hW⟩
   have hbw:=World.block_lt_of_cell? wr _ d1
   clear sl hx
   go_upto_region 5 with (fail)
   clear d0 q2 q6
   refine wp_region_L 15 (S:=fun W=>W.cell? ⟨w.heap.size+1,6,none⟩=some v6∧W.cell? ⟨w.heap.size,2,none⟩=some (.slice (some ⟨b,off,none⟩) f.cells.length cc)∧W.cell? ⟨b,off+k*2+1,none⟩=some (.int .i64 T)) (by kernel_rfl) ?_ (fun hHeld=>?_)
   ·refine' zq79
   refine tkL 0 (some 16) rfl ?_
   refine tkL 1 (some 17) rfl ?_
   refine tkL 2 (some 18) rfl ?_
   refine tkL 3 (some 19) rfl ?_
   refine tkL 4 (some 20) rfl ?_
   refine tkL 5 (some 21) rfl ?_
   refine tkL 6 (some 22) rfl ?_
   refine tkL 7 (some 23) rfl ?_
   refine tkL 8 (some 24) rfl ?_
   refine tkL 9 (some 25) rfl ?_
   refine tkL 10 (some 26) rfl ?_
   refine rdL 11 (some 27) rfl (fun KK hKK=>?_)
   go_simp
   refine' zq48
   refine rdL 12 (some 28) rfl (fun KK hKK=>?_)
   (rw[if_pos (by kernel_rfl)];refine step_own (.tmp 20) (.tmp 27) 26 rfl w1.heap.size 3 i0 (.int .i64 0) 1 8 Tryz.underlying26 hi0 hz0 hz1 hz2 rfl (by decide) _ k LL rfl (own_below HO.out (bE:Below wr.heap.size wr _)) (some ⟨_,0,none⟩) 1 1 [.int .i64 T] rfl NilOk.some rfl (fun ad he=>by injection he with he;subst he;exact cells_new _ _ _) (by intro u hu;simp at hu;subst hu;rfl) (by unfold maxLen;omega) (by omega) (by first|omega|(simp;omega)|simp) ?_;intro v13 w13 hown13 hg13;(have rr13:=(HR.out.below (bE:Below wr.heap.size wr _) HR.out.lt).grownE hg13 (own_ne (own_below HO.out (bE:Below wr.heap.size wr _)) (HR.out.below (bE:Below wr.heap.size wr _) HR.out.lt) (by decide)));(have rg13:=(HG.out.below (bE:Below wr.heap.size wr _) HG.out.lt).grownE hg13 (own_ne (own_below HO.out (bE:Below wr.heap.size wr _)) (HG.out.below (bE:Below wr.heap.size wr _) HG.out.lt) (by decide)));(have hb13:Below w1.heap.size wr w13:=below_own (Below.mono (bE:Below wr.heap.size wr _) hsr) (own_below HO.out (bE:Below wr.heap.size wr _)) hg13 (by first|omega|(simp;omega)|simp));(have q13:=rr13.cell 6);(have z13:=rr13.frozen 6);(have q14:=rg13.cell 2);(simp only[List.getElem?_toArray,List.getElem?_cons_zero,List.getElem?_cons_succ] at q13 q14);(have q15:=(hb13.cell (p:=⟨b,off+k*2+1,none⟩) (by show b<w1.heap.size;omega)).trans d1);(have HS13:=Lib.hid (And.intro q13 (And.intro q14 q15)));(obtain ⟨A13,c13,hv13,_⟩:=own_src hown13);subst hv13)
   refine' zq48
   refine rdL 13 (some 29) rfl (fun KK hKK=>?_)
   go_simp
   refine' zq48
   refine rdL 14 (some 30) rfl (fun KK hKK=>?_)
   go_simp
   refine' zq48
   refine' zq151
   have u9:=Upd.setCell (X:=fun k=>k=w.heap.size+1) (p:=⟨w.heap.size+1,6,none⟩) (Upd.refl _ w13) rfl (.slice A13 (k+1) c13)
   have HRn:Hid (Row (w13.setCell ⟨w.heap.size+1,6,none⟩ (.slice A13 (k+1) c13)) (w.heap.size+1) #[.slice Aw f.wires.length cw,.slice Aa f.acts.length ca,.slice (some ⟨b,off,none⟩) f.cells.length cc,.slice Akk f.keeps.length ck,.slice Ai f.ins.length ci,.slice Ao f.outs.length co,.slice A13 (k+1) c13,.slice none 0 0,.slice none 0 0,.slice none 0 0,.slice none 0 0] 129):=by
    show Row _ _ _ _
    have:=rr13.set 6 (.slice A13 (k+1) c13)
    simpa using this
   have HGn:=Lib.hid (u9.row rg13 (by omega))
   have HOn:Hid ((w13.setCell ⟨w.heap.size+1,6,none⟩ (.slice A13 (k+1) c13)).ownsRow w1.heap.size 3 1 (.slice A13 (k+1) c13) (k+1) (ints ((f.cells.take (k+1)).map (·.2)))):=by
    show World.ownsRow _ _ _ _ _ _ _
    rw[HTK.out]
    exact own_updE hown13 u9 (fun q hq e=>own_ne hown13 rr13 (by decide) (by rw[←e];exact hq))
   refine' zq321
   have HSn:Hid (w1.heap.size≤(w13.setCell ⟨w.heap.size+1,6,none⟩ (.slice A13 (k+1) c13)).heap.size):=by show _≤_;omega
   clear hown13 hg13 rr13 rg13 hb13 q13 z13 q14 q15 HS13 hHeld u9 d1
   go_wp2_with fail
   go_roundw
   case rel=>exact ⟨k+1,_,by omega,by go_num,HGn,HRn,HOn,HBn,HSn⟩
   case measure=>simp[intOf];omega
  ·obtain rfl:k=f.cells.length:=by omega
   have HC0:Hid (wr.ownsRow w1.heap.size 3 1 v6 f.cells.length (ints (f.cells.map (·.2)))):=by have:=HO.out;rw[List.take_length] at this;exact this
   have HG0:=HG
   have HR0:=HR
   have HB0:=HB
   have hsr0:=HS.out
   have HVB:Hid (∀q,v6.ownBlock=some q→q<wr.heap.size):=fun q hq=>(HC0.out.lt q hq).2
   go_wp2_with fail
   obtain ⟨wo,hwo⟩:∃wo:World,wo=wr:=⟨_,rfl⟩
   subst hwo
   clear HG HR HB HS HO q2 q6
   go_loopw[5] (fun i wr=>∃(k:Nat) (v10:Value),k≤f.wires.length∧i= .int .i64 k∧Hid (Row wr w.heap.size #[.slice Aw f.wires.length cw,.slice Aa f.acts.length ca,.slice Acc f.cells.length cc,.slice Akk f.keeps.length ck,.slice Ai f.ins.length ci,.slice Ao f.outs.length co] 28)∧Hid (Row wr (w.heap.size+1) #[.slice Aw f.wires.length cw,.slice Aa f.acts.length ca,.slice Acc f.cells.length cc,.slice Akk f.keeps.length ck,.slice Ai f.ins.length ci,.slice Ao f.outs.length co,v6,.slice none 0 0,.slice none 0 0,.slice none 0 0,v10] 129)∧Hid (wr.ownsRow wo.heap.size 3 1 v10 k (ints ((plF f).take k)))∧Hid (wr.ownsRow w1.heap.size 3 1 v6 f.cells.length (ints (f.cells.map (·.2))))∧Hid (Below w.heap.size w wr)∧Hid (wo.heap.size≤wr.heap.size)) (fun i _=>f.wires.length-(intOf i).toNat)
   case atStart=>exact ⟨0,_,Nat.zero_le _,rfl,HG0.out,HR0.out,World.ownsRow_nil _ _ _ _,HC0.out,HB0.out,Nat.le_refl _⟩
   case round=>
    clear HG0 HR0 HC0 HB0
    obtain ⟨k,v10,hk,rfl,HG,HR,HP,HC,HB,HS⟩:=hrel
    have hsr:=HS.out
    have hBw:=HB.out.size
    obtain ⟨f0,f1,f2,f3,f4,f5⟩:=HG.out.six'
    have q10:=HR.out.cell 10
    simp only[List.getElem?_toArray,List.getElem?_cons_zero,List.getElem?_cons_succ] at q10
    by_cases hlt:k<f.wires.length
    ·have hk':(k:Int)<f.wires.length:=by omega
     have HTK:Hid (ints ((plF f).take (k+1))=ints ((plF f).take k)++ [.int .i64 (byR (k:Int) 0 f.acts)]):=by
      show _=_
      rw[take_snoc' (plF_get hlt),ints_snoc]
     generalize ints ((plF f).take k)=LL at*
     have HK:Hid (∀W,Below wr.heap.size wr W→W.cell? ⟨w.heap.size+1,10,none⟩=some v10∧W.cell? ⟨w.heap.size,0,none⟩=some (.slice Aw f.wires.length cw)∧W.cell? ⟨w.heap.size,1,none⟩=some (.slice Aa f.acts.length ca)∧W.cell? ⟨w.heap.size,2,none⟩=some (.slice Acc f.cells.length cc)∧W.cell? ⟨w.heap.size,3,none⟩=some (.slice Akk f.keeps.length ck)∧W.cell? ⟨w.heap.size,4,none⟩=some (.slice Ai f.ins.length ci)∧W.cell? ⟨w.heap.size,5,none⟩=some (.slice Ao f.outs.length co)):=fun W hW=>⟨cell_kept q10 hW,cell_kept f0 hW,cell_kept f1 hW,cell_kept f2 hW,cell_kept f3 hW,cell_kept f4 hW,cell_kept f5 hW⟩
     go_upto_region 9 with (fail)
     clear f0 f1 f2 f3 f4 f5 q10
     refine wp_region_L 12 (S:=fun W=>W.cell? ⟨w.heap.size+1,10,none⟩=some v10∧W.cell? ⟨w.heap.size,0,none⟩=some (.slice Aw f.wires.length cw)∧W.cell? ⟨w.heap.size,1,none⟩=some (.slice Aa f.acts.length ca)∧W.cell? ⟨w.heap.size,2,none⟩=some (.slice Acc f.cells.length cc)∧W.cell? ⟨w.heap.size,3,none⟩=some (.slice Akk f.keeps.length ck)∧W.cell? ⟨w.heap.size,4,none⟩=some (.slice Ai f.ins.length ci)∧W.cell? ⟨w.heap.size,5,none⟩=some (.slice Ao f.outs.length co)) (by kernel_rfl) ?_ (fun hHeld=>?_)
     ·refine' zq79
     refine tkL 0 (some 38) rfl ?_
     refine tkL 1 (some 39) rfl ?_
     refine tkL 2 (some 40) rfl ?_
     refine tkL 3 (some 41) rfl ?_
     refine tkL 4 (some 42) rfl ?_
     refine tkL 5 (some 43) rfl ?_
     refine tkL 6 (some 44) rfl ?_
     refine rdL 7 (some 45) rfl (fun KK hKK=>?_)
     go_simp
     (go_at_call 35;refine Calls.mono (rby_any ((HFM.out _ (HB.out.trans (Below.mono (bE:Below wr.heap.size wr _) hBw))).keep (fun _ _ _ hc=>hc) (by first|omega|(simp;omega))) (k:Int)) ?_;rintro e w8 ⟨rfl,hb8⟩;(have hb9:Below wr.heap.size wr w8:=Below.trans bE (hb8.mono lE));(have hs9:=hb9.size))
     (try go_wp2_with fail)
     refine' zq48
     refine rdL 8 (some 46) rfl (fun KK hKK=>?_)
     go_simp
     refine' zq48
     refine rdL 9 (some 47) rfl (fun KK hKK=>?_)
     (rw[if_pos (by kernel_rfl)];refine step_own (.tmp 42) (.tmp 46) 26 rfl wo.heap.size 3 i0 (.int .i64 0) 1 8 Tryz.underlying26 hi0 hz0 hz1 hz2 rfl (by decide) v10 k LL rfl (own_below HP.out (bE:Below wr.heap.size wr _)) (some ⟨_,0,none⟩) 1 1 [.int .i64 (byR (k:Int) 0 f.acts)] rfl NilOk.some rfl (fun ad he=>by injection he with he;subst he;exact cells_new _ _ _) (by intro u hu;simp at hu;subst hu;rfl) (by unfold maxLen;omega) (by omega) (by first|omega|(simp;omega)|simp) ?_;intro v13 w13 hown13 hg13;(have hba:Below wr.heap.size wr (w8.alloc (.cells #[.int .i64 (byR (k:Int) 0 f.acts)] 3)):=bE);(have rr13:=(HR.out.below hba HR.out.lt).grownE hg13 (own_ne (own_below HP.out hba) (HR.out.below hba HR.out.lt) (by decide)));(have rg13:=(HG.out.below hba HG.out.lt).grownE hg13 (own_ne (own_below HP.out hba) (HG.out.below hba HG.out.lt) (by decide)));(have hb13:Below wo.heap.size wr w13:=below_own (Below.mono hba hsr) (own_below HP.out hba) hg13 (by first|omega|(simp;omega)|simp));(have q13:=rr13.cell 10);(have z13:=rr13.frozen 10);(simp only[List.getElem?_toArray,List.getElem?_cons_zero,List.getElem?_cons_succ] at q13);(have HS13:=Lib.hid (And.intro q13 rg13.six'));(obtain ⟨A13,c13,hv13,_⟩:=own_src hown13);subst hv13)
     refine' zq48
     refine rdL 10 (some 48) rfl (fun KK hKK=>?_)
     go_simp
     refine' zq48
     refine rdL 11 (some 49) rfl (fun KK hKK=>?_)
     go_simp
     refine' zq48
     refine' zq151
     have u9:=Upd.setCell (X:=fun k=>k=w.heap.size+1) (p:=⟨w.heap.size+1,10,none⟩) (Upd.refl _ w13) rfl (.slice A13 (k+1) c13)
     have HRn:Hid (Row (w13.setCell ⟨w.heap.size+1,10,none⟩ (.slice A13 (k+1) c13)) (w.heap.size+1) #[.slice Aw f.wires.length cw,.slice Aa f.acts.length ca,.slice Acc f.cells.length cc,.slice Akk f.keeps.length ck,.slice Ai f.ins.length ci,.slice Ao f.outs.length co,v6,.slice none 0 0,.slice none 0 0,.slice none 0 0,.slice A13 (k+1) c13] 129):=by
      show Row _ _ _ _
      have:=rr13.set 10 (.slice A13 (k+1) c13)
      simpa using this
     have HGn:=Lib.hid (u9.row rg13 (by omega))
     have HPn:Hid ((w13.setCell ⟨w.heap.size+1,10,none⟩ (.slice A13 (k+1) c13)).ownsRow wo.heap.size 3 1 (.slice A13 (k+1) c13) (k+1) (ints ((plF f).take (k+1)))):=by
      show World.ownsRow _ _ _ _ _ _ _
      rw[HTK.out]
      exact own_updE hown13 u9 (fun q hq e=>own_ne hown13 rr13 (by decide) (by rw[←e];exact hq))
     have hc13:=own_keep HC.out hb13 HVB.out
     have HCn:=Lib.hid (own_updE hc13 u9 (fun q hq e=>own_ne hc13 rr13 (by decide) (by rw[←e];exact hq)))
     refine' zq321
     have HSn:Hid (wo.heap.size≤(w13.setCell ⟨w.heap.size+1,10,none⟩ (.slice A13 (k+1) c13)).heap.size):=by show _≤_;omega
     clear hown13 hg13 rr13 rg13 hb13 q13 z13 HS13 hHeld u9 hc13
     go_wp2_with fail
     go_roundw
     case rel=>exact ⟨k+1,_,by omega,by go_num,HGn,HRn,HPn,HCn,HBn,HSn⟩
     case measure=>simp[intOf];omega
    ·obtain rfl:k=f.wires.length:=by omega
     have HPF:Hid (wr.ownsRow wo.heap.size 3 1 v10 f.wires.length (ints (plF f))):=by
      have:=HP.out
      rw[show (plF f).take f.wires.length=plF f by rw[←plF_len f,List.take_length]] at this
      exact this
     have HRI:Hid (RunI f (f.cells.map (·.2)) w.heap.size (w.heap.size+1) (.slice Aw f.wires.length cw) (.slice Aa f.acts.length ca) (.slice Acc f.cells.length cc) (.slice Akk f.keeps.length ck) (.slice Ai f.ins.length ci) (.slice Ao f.outs.length co) v6 v10 wr):=by
      refine ⟨by omega,HFM.out _ HB.out,⟨_,own_base HC.out (by omega)⟩,fun x hx=>?_,⟨_,own_base HPF.out (by omega)⟩,fun x hx=>?_,⟨_,_,_,HR.out⟩⟩
      ·obtain ⟨y,hy,rfl⟩:=List.mem_map.1 hx
       exact hcw y hy
      ·obtain ⟨y,_,rfl⟩:=List.mem_map.1 hx
       exact by_wf hla _
     go_wp2_with fail
     go_ret
     exact ⟨_,_,_,rfl,HRI.out,HB.out⟩
theorem upd_mix {R K V:Nat} {W W3 W':World} (u:Upd (fun k=>k=R) W W3) (u':Upd (fun k=>k=K∨k=V) W3 W') (hK:W.heap.size≤K) (hV:W.heap.size≤V):Upd (fun k=>k=R) W W':=
 ⟨u'.os.trans u.os,u'.tape.trans u.tape,u'.output.trans u.output,Nat.le_trans u.size u'.size,fun k hk hR=>(u'.block k (Nat.lt_of_lt_of_le hk u.size) (by omega)).trans (u.block k hk hR)⟩
section
variable {f:Fm} {cs row:List Int} {B R K V:Nat} {vw va vc vk vi vo vC vR vP:Value} {W W3:World}
theorem RunI.start (h:RunI f cs B R vw va vc vk vi vo vC vP W) (hrow:∀W',Upd (fun k=>k=R) W W'→SlV W' W.heap.size 1 isInt vR row) (u:Upd (fun k=>k=R) W W3) (hK:W.heap.size≤K) (hV:W.heap.size≤V) (kv:K≠V) (hR:R<W.heap.size)
  (rr:Row W3 R #[vw,va,vc,vk,vi,vo,vC,vR,.slice (some ⟨K,0,none⟩) f.wires.length f.wires.length,.slice (some ⟨V,0,none⟩) f.wires.length f.wires.length,vP] 129)
  (rk:Row W3 K (bls (List.replicate f.wires.length false)).toArray 4) (rv:Row W3 V (ints (List.replicate f.wires.length 0)).toArray 3):
  RunAt f cs row R K V vw va vc vk vi vo vC vR vP W3 (List.replicate f.wires.length false) (List.replicate f.wires.length 0):=by
 refine ⟨fun W' u'=>?_,rk,rv,kv,by simp,by simp,fun x hx=>?_,fun n hn hd=>?_⟩
 ·have um:=upd_mix u u' hK hV
  obtain ⟨h1,h2,h3⟩:=h.keep W' um
  have hs:=u.size
  exact ⟨h1.keep (fun _ _ _ hc=>hc) hs,h2.more hs,(hrow W' um).more hs,h3.more hs,u'.row rr (by omega)⟩
 ·rw[(List.mem_replicate.1 hx).2]
  exact wf_of (by omega)
 ·exfalso
  unfold bGet at hd
  rw[List.getD_eq_getElem?_getD,List.getElem?_replicate] at hd
  split at hd<;>cases hd
end
open Go.RowKit Vf Fo
theorem nsame_any (l m:List Int) (v1 v2:Value) (B:Nat) (w:World) (h1:SlV w B 1 isInt v1 l) (h2:SlV w B 1 isInt v2 m):
  Calls Tryz.prog 52 #[v1,v2] w fun e w'=>e= .returned (.bool (cB (l=m)))∧∃n,w'=w.drewN n:=by
 refine' zq87
 by_cases hl:l.length=m.length
 rotate_left 1
 ·refine' zq174
  go_enter Tryz.func52,Tryz.ntmps52
  go_wp2_with fail
  go_ret
  exact ⟨ret_bool HF.out.symm,0,rfl⟩
 refine' zq154
 go_enter Tryz.func52,Tryz.ntmps52
 refine' zq41
def isRw (w:World) (B:Nat) (l:List Int) (cs:List Value):Prop:=∃v,cs=[v]∧SlV w B 1 isInt v l
theorem sl_rw {w:World} {B C:Nat} {A:Option Addr} {l:List (List Int)} {k:Nat} (h:Sl w B 1 (isRw w C) A l) (hk:k<l.length):∃b off x Ax cx,A=some ⟨b,off,none⟩∧b<B∧l[k]? =some x∧w.cell? ⟨b,off+k,none⟩=some (.slice Ax x.length cx)∧x.length≤cx∧cx≤maxLen∧Sl w C 1 isInt Ax x:=by
 obtain ⟨b,off,x,cs,h1,h2,h3,⟨v,rfl,Ax,cx,rfl,h4,h6,h7⟩,h5⟩:=h.at_ hk
 have:=h5 0 _ rfl
 rw[Nat.mul_one,Nat.add_zero] at this
 exact ⟨b,off,x,Ax,cx,h1,h2,h3,this,h4,h6,h7⟩
theorem rq_of {P:Program} {f:FuncId} {args:Array Value} {w:World} {q n:Nat} {v:Value}
  (h:Calls P f args (w.drewN (q+n)) fun e w'=>e= .returned v∧∃m,w'=(w.drewN (q+n)).drewN m):Calls P f args (w.drewN (q+n)) fun e w''=>e= .returned v∧∃m,w''=w.drewN (q+m):=
 h.mono fun _ _ ⟨he,m,hm⟩=>⟨he,n+m,by rw[hm,World.drewN_drewN,Nat.add_assoc]⟩
theorem rows_same (l:List (List Int)) (v1 v2:Value) (B:Nat) (w:World) (h1:SlV w B 1 (isRw w B) v1 l) (h2:SlV w B 1 (isRw w B) v2 l):
  Calls Tryz.prog 20 #[v1,v2] w fun e w'=>e= .returned (.bool true)∧∃n,w'=w.drewN n:=by
 refine' zq87
 go_enter Tryz.func20,Tryz.ntmps20
 go_wp2_with fail
 go_loopw[5] (fun i wr=>∃k:Nat,k≤l.length∧i= .int .i64 k∧∃n,wr=w.drewN n) (fun i _=>l.length-(intOf i).toNat)
 case atStart=>exact ⟨0,Nat.zero_le _,rfl,0,rfl⟩
 case round=>
  obtain ⟨k,hk,rfl,n,rfl⟩:=hrel
  by_cases hlt:k<l.length
  ·obtain ⟨b1,o1,x,Ax,cx,rfl,hb1,hx,d0,ly,my,sx⟩:=sl_rw s1 hlt
   obtain ⟨b2,o2,y,Ay,cy,rfl,hb2,hy,e0,lz,mz,sy⟩:=sl_rw s2 hlt
   obtain rfl:x=y:=Option.some.inj (hx.symm.trans hy)
   have hk1:(k:Int)<l.length:=by omega
   have hk0:(0:Int)≤(k:Int):=by omega
   have HC:Hid (∀q,Calls Tryz.prog 52 #[.slice Ax x.length cx,.slice Ay x.length cy] (w.drewN (n+q)) fun e w'=>e= .returned (.bool true)∧∃m,w'=(w.drewN (n+q)).drewN m):=fun q=>by
    have:=nsame_any x x (.slice Ax x.length cx) (.slice Ay x.length cy) B (w.drewN (n+q)) ⟨_,_,rfl,ly,my,sx⟩ ⟨_,_,rfl,lz,mz,sy⟩
    rwa [cB_true rfl] at this
   clear hx hy
   generalize x.length=len at*
   go_wp2_with fail
   go_quiet ((go_at_call 52;exact rq_of (HC.out _)))
   go_wp2_with fail
   go_roundw
   case rel=>exact ⟨k+1,by omega,by go_num,by first|exact ⟨_,rfl⟩|(rw[World.drewN_drewN];exact ⟨_,rfl⟩)⟩
   case measure=>simp[intOf];omega
  ·obtain rfl:k=l.length:=by omega
   go_wp2_with fail
   go_ret
   exact ⟨rfl,n,rfl⟩
open Go.RowKit Vf
section
variable {H:Type} {enc:TypeId × Value→H} {w:World} {spare:Nat→Bool} {held:Bool}
end
theorem rtypes24_any {w:World} {B:Nat} {f:Fm} {vw va vc vk vi vo:Value} (h:FmAt w B f vw va vc vk vi vo) (hB:B≤w.heap.size) (l:List Int) (v:Value) (hv:SlV w B 1 isInt v l) (hl:l.length≤1600) (hw:∀n∈l,isW f n):
  Calls Tryz.prog 16 #[fmV vw va vc vk vi vo,v] w fun e w'=>∃v',e= .returned v'∧SlV w' w'.heap.size 1 isInt v' (l.map (tyOf f))∧Below w.heap.size w w':=by
 refine' zq122
 obtain ⟨Al,cl,rfl,ll,ml,sl⟩:=hv
 have ml':cl≤9223372036854775807:=by unfold maxLen at ml;omega
 have b1:Below w.heap.size w (w.alloc (.cells #[vw,va,vc,vk,vi,vo] 28)):=bE
 have rF1:=Row.new w #[vw,va,vc,vk,vi,vo] 28
 refine' zq330
 obtain ⟨Aw,cw,rfl,lw,mw,_⟩:=h.wires
 refine' zq76
 clear sl h hw
 go_enter Tryz.func16,Tryz.ntmps16
 go_upto_region 1 with (fail)
 generalize w.alloc (.cells #[.slice Aw f.wires.length cw,va,vc,vk,vi,vo] 28)=w1 at*
 refine' zq250
 go_loopw[5,6] (fun v5 i wr=>∃k:Nat,k≤l.length∧i= .int .i64 k∧Hid (wr.ownsRow w1.heap.size 3 1 v5 k (ints ((l.take k).map (tyOf f))))∧Hid (Below w1.heap.size w1 wr)) (fun _ i _=>l.length-(intOf i).toNat)
 case atStart=>exact ⟨0,Nat.zero_le _,rfl,World.ownsRow_nil _ _ _ _,Below.refl _ _⟩
 case round=>
  obtain ⟨k,hk,rfl,HO,HBR⟩:=hrel
  have hszr:=HBR.out.size
  have hb:=b1.trans (HBR.out.mono hs1)
  by_cases hlt:k<l.length
  ·obtain ⟨b,off,n,rfl,hb',hx,wx,d0⟩:=(HSL.out _ hb).int hlt
   obtain ⟨m,b6,off6,cw6,Ag6,cg6,rfl,hm,hvw,_,_,hb6B,wt6,y0,_,_,_,_⟩:=fm_wire (HFM.out _ hb) (HW.out n (List.mem_of_getElem? hx))
   injection hvw with h1 h2 h3
   subst h1;subst h3
   have hm':(m:Int)<f.wires.length:=by omega
   have hk':(k:Int)<l.length:=by omega
   have HTK:Hid (ints ((l.take (k+1)).map (tyOf f))=ints ((l.take k).map (tyOf f))++ [.int .i64 (tyOf f m)]):=by
    show _=_
    rw[take_snoc' hx,List.map_append,List.map_singleton,ints_snoc]
   have f0:=HF6.out _ HBR.out
   have HK:Hid (∀W,Below wr.heap.size wr W→W.cell? ⟨w.heap.size,0,none⟩=some (.slice (some ⟨b6,off6,none⟩) f.wires.length cw)∧W.cell? ⟨b,off+k,none⟩=some (.int .i64 (m:Int))∧W.cell? ⟨b6,off6+m*2,none⟩=some (.int .i64 (tyOf f (m:Int)))):=fun W hW=>⟨cell_kept f0 hW,cell_kept d0 hW,cell_kept y0 hW⟩
   have hbw:b<w1.heap.size:=by omega
   have hb6w:b6<w1.heap.size:=by omega
   have HKL:Hid ((∀W,Below w1.heap.size wr W→W.cell? ⟨b,off+k,none⟩=some (.int .i64 (m:Int)))∧(∀W,Below w1.heap.size wr W→W.cell? ⟨b6,off6+m*2,none⟩=some (.int .i64 (tyOf f (m:Int))))):=⟨fun W hW=>(hW.cell hbw).trans d0,fun W hW=>(hW.cell hb6w).trans y0⟩
   generalize tyOf f (m:Int)=T at*
   generalize ints ((l.take k).map (tyOf f))=LL at*
   clear hx wx wt6 h2 d0 y0 f0
   refine' zq32
   have HO':Hid (w13.ownsRow w1.heap.size 3 1 v13 (k+1) (ints ((l.take (k+1)).map (tyOf f)))):=by
    show World.ownsRow _ _ _ _ _ _ _
    rw[HTK.out];exact hown13
   clear hown13
   go_wp2_with fail
   go_roundw
   case rel=>exact ⟨k+1,by omega,by go_num,HO',HB⟩
   case measure=>simp[intOf];omega
  ·obtain rfl:k=l.length:=by omega
   have HWF:Hid (∀x∈l.map (tyOf f),Wf x):=fun x hx=>by
    obtain ⟨n,hn,rfl⟩:=List.mem_map.1 hx
    obtain ⟨_,_,_,_,_,_,_,_,_,_,_,_,wt,_⟩:=fm_wire (HFM.out _ hb) (HW.out n hn)
    exact wt
   go_wp2_with fail
   go_ret
   refine ⟨_,rfl,?_,hb⟩
   have:=HO.out
   rw[List.take_length] at this
   exact ownI this HWF.out
end Go.Proofs.YtckognjamlckcaaGreatDoor
