/-
  flat's looker: does an expression go by a clock?
-/
import Derived.Test.YtdkgkacnjdnpoaaGreatZz
import Derived.Test.YtdkgkacnjdnpoaaGreatRgL
import Derived.Deep.CutBlock
import Derived.Deep.DeepCutAuto
import Derived.BigQuiet
set_option maxHeartbeats 16000000
set_option maxRecDepth 100000
namespace Go.Proofs.YtdkgkacnjdnpoaaGreat.Q.Fo
open Vf
def pcl (e:Ex) (c:List Gd) (i:Nat):List Gd:=if e.op=24∨e.op=25 then c.dropLast else if e.op=26 then c++ [⟨e.n,i==1⟩] else c
section
variable {f:Fl} {e x:Ex} {c:List Gd}
theorem goes_var (h3:e.op=3):goesE f e c↔clockOf f.fm e.n=c:=by rw[goesE_eq,goes1,if_pos h3]
theorem goes_other (h3:e.op≠3):goesE f e c↔((e.op=24∨e.op=25)→c.getLast? =some ⟨e.n,e.op==25⟩)∧(e.op=26→clockOf f.fm e.n=c)∧∀(i:Nat) x,e.args[i]? =some x→goesE f x (pcl e c i):=by
 have hall:∀c',(∀p∈e.args.map (goesE f),p c')↔∀(i:Nat) x,e.args[i]? =some x→goesE f x c':=fun c'=>by
  constructor
  ·intro h i x hx
   exact h _ (List.mem_map_of_mem (List.mem_of_getElem? hx))
  ·intro h p hp
   obtain ⟨x,hx,rfl⟩:=List.mem_map.1 hp
   obtain ⟨i,hi⟩:=List.getElem?_of_mem hx
   exact h i x hi
 rw[goesE_eq,goes1,if_neg h3]
 unfold pcl
 by_cases h24:e.op=24∨e.op=25
 ·have h26:e.op≠26:=by omega
  simp only[if_pos h24]
  constructor
  ·rintro ⟨c',rfl,h⟩
   refine ⟨fun _=>by simp,fun g=>absurd g h26,?_⟩
   rw[List.dropLast_concat]
   exact (hall c').1 h
  ·rintro ⟨h1,_,h2⟩
   refine ⟨c.dropLast,?_,(hall _).2 h2⟩
   obtain ⟨l,hl⟩:=List.getLast?_eq_some_iff.1 (h1 h24)
   rw[hl,List.dropLast_concat]
 ·simp only[if_neg h24]
  by_cases h26:e.op=26
  ·simp only[if_pos h26]
   constructor
   ·rintro ⟨h1,h2⟩
    refine ⟨fun g=>absurd g h24,fun _=>h1,fun i x hx=>h2 i _ ?_⟩
    rw[List.getElem?_map,hx];rfl
   ·rintro ⟨_,h1,h2⟩
    refine ⟨h1 h26,fun i p hp=>?_⟩
    rw[List.getElem?_map,Option.map_eq_some_iff] at hp
    obtain ⟨x,hx,rfl⟩:=hp
    exact h2 i x hx
  ·simp only[if_neg h26]
   rw[hall]
   exact ⟨fun h=>⟨fun g=>absurd g h24,fun g=>absurd g h26,h⟩,fun h=>h.2.2⟩
theorem exHeight_arg (h:x∈e.args):exHeight x+1≤exHeight e:=by
 have hm:∀(l:List Nat) (x:Nat),x∈l→x≤maxL l:=by
  refine' zq171
 rw[exHeight_eq e]
 have:=hm _ _ (List.mem_map_of_mem (f:=exHeight) h)
 omega
theorem pcl_len (i:Nat):(pcl e c i).length≤c.length+1:=by
 unfold pcl
 split
 ·simp;omega
 ·split<;>simp
end
end Go.Proofs.YtdkgkacnjdnpoaaGreat.Q.Fo
namespace Go.Proofs.YtdkgkacnjdnpoaaGreat.Q
open Go.RowKit Vf Fo
attribute [local go_sem ↓] Go.wp_at_zero Go.wp_at_succ
def GRow (W:World) (R n:Nat) (g:Nat→List Gd):Prop:=∀i,i<n→∃A c,W.cell? ⟨R,i,none⟩=some (.slice A (g i).length c)∧(g i).length≤c∧c≤maxLen∧Sl W W.heap.size 2 isGd A (g i)
theorem GRow.below {W W':World} {R n:Nat} {g:Nat→List Gd} (h:GRow W R n g) (hR:R<W.heap.size) (hb:Below W.heap.size W W'):GRow W' R n g:=fun i hi=>by
 obtain ⟨A,c,h1,h2,h3,h4⟩:=h i hi
 exact ⟨A,c,(hb.cell (p:=⟨R,i,none⟩) hR).trans h1,h2,h3,(h4.below hb).more hb.size⟩
abbrev exRw (e:Ex) (A:Option Addr) (cap:Nat):Array Value:= #[.int .i64 e.op,.string e.name,.int .i64 e.n,.slice A e.args.length cap,.int .i64 e.line,.int .i64 e.col]
structure GCut (f:Fl) (e:Ex) (A:Option Addr) (cap:Nat) (c:List Gd) (w:World) (R:Nat) (W:World):Prop where
 re:Row W w.heap.size (exRw e A cap) 63
 hR:R<W.heap.size
 ck:GRow W R e.args.length (pcl e c)
 ok:goesE f e c↔∀(i:Nat) x,e.args[i]? =some x→goesE f x (pcl e c i)
 bel:Below w.heap.size w W
theorem GCut.drewN {f:Fl} {e:Ex} {A:Option Addr} {cap:Nat} {c:List Gd} {w:World} {R:Nat} {W:World} (h:GCut f e A cap c w R W) (k:Nat):GCut f e A cap c w R (W.drewN k):=
 ⟨h.re,h.hR,h.ck.below h.hR (below_drewN' (Below.refl _ _) k),h.ok,below_drewN' h.bel k⟩
def GoesP (f:Fl) (e:Ex) (c:List Gd) (w:World) (r:Ending) (w':World):Prop:=r= .returned (.bool (cB (goesE f e c)))∧Below w.heap.size w w'
def GoesC (f:Fl) (D:Nat) (x:Ex) (A':Option Addr) (cap':Nat) (c:List Gd) (Ac:Option Addr) (cc:Nat) (W4:World):Prop:=
 ∀W,Below W4.heap.size W4 W→Calls Tryz.prog 115 #[.pointer (some ⟨D,0,none⟩),exV x A' cap',.slice Ac c.length cc] W (GoesP f x c W)
theorem fgoes_any {B D:Nat} {f:Fl} {vw vd vi vo vb:Value} (e:Ex):∀(A:Option Addr) (cap:Nat) (clock:List Gd) (A2:Option Addr) (c2:Nat) (w:World),FkAt w B D f vw vd vi vo vb→ExOk e→e.args.length≤cap→cap≤maxLen→IsExs w w.heap.size A e.args→plainE f e→
  clock.length+exHeight e≤100000→clock.length≤c2→c2≤maxLen→Sl w w.heap.size 2 isGd A2 clock→
  Calls Tryz.prog 115 #[.pointer (some ⟨D,0,none⟩),exV e A cap,.slice A2 clock.length c2] w (GoesP f e clock w):=by
 obtain ⟨i0,hi0,hz0,hz1,hz2⟩:=info_parts info_gd
 induction e using Ex.ind with
 |h e ih=>
  intro A cap clock A2 c2 w h hok hcap hmax hx hp hsz hc2 hm2 hcl
  obtain ⟨hp1,hp2⟩:=plainE_iff.1 hp
  have HP1:=Lib.hid hp1
  have HI:Hid (∀x∈e.args,∀(A:Option Addr) (cap:Nat) (clock:List Gd) (A2:Option Addr) (c2:Nat) (W:World),FkAt W B D f vw vd vi vo vb→ExOk x→x.args.length≤cap→cap≤maxLen→IsExs W W.heap.size A x.args→clock.length+exHeight x≤100000→clock.length≤c2→c2≤maxLen→Sl W W.heap.size 2 isGd A2 clock→Calls Tryz.prog 115 #[.pointer (some ⟨D,0,none⟩),exV x A cap,.slice A2 clock.length c2] W (GoesP f x clock W)):=fun x hx A cap clock A2 c2 W h1 h2 h3 h4 h5 h6 h7 h8 h9=>ih x hx A cap clock A2 c2 W h1 h2 h3 h4 h5 (hp2 x hx) h6 h7 h8 h9
  have hlen:e.args.length≤3:=by
   have:=plain1_parts hp1
   unfold partsZ at this
   repeat' split at this
   all_goals omega
  have HSZ:=Lib.hid hsz
  have hcl5:clock.length≤100000:=by omega
  have HW:Hid (namedB e.op=true→isW f.fm e.n):=fun hn=>plain1_w hp1 hn
  have HPT:=Lib.hid (plain1_parts hp1)
  have b1:Below w.heap.size w (w.alloc (.cells (exRw e A cap) 63)):=bE
  have rX:=Row.new w (exRw e A cap) 63
  have HFK:=Lib.hid (fun W (hW:Below w.heap.size w W)=>h.below hW)
  have HXS:=Lib.hid (fun W (hW:Below w.heap.size w W)=>(hx.below hW).more hW.size)
  have HCL:=Lib.hid (fun W (hW:Below w.heap.size w W)=>(hcl.below hW).more hW.size)
  have HM2:=Lib.hid hm2
  have hm2':c2≤9223372036854775807:=by unfold maxLen at hm2;omega
  have hDl:D<w.heap.size:=h.row.lt
  have h_lo:B≤D:=h.lo
  have hokn:=hok.n
  unfold maxLen at hmax
  clear ih h hx hp hp1 hp2 hcl hm2 hsz hok
  go_enter Tryz.func115,Tryz.ntmps115
  go_upto_region 1 with (fail)
  generalize w.alloc (.cells (exRw e A cap) 63)=w1 at*
  have hXl:=rX.lt
  have hs1:=b1.size
  obtain ⟨c0,c1,c2',c3,c4,c5⟩:=rX.six'
  go_wp2_with fail
  refine (repG_any (.slice A2 clock.length c2) e.args.length w1.heap.size 0 1 (by omega) (w1.alloc (.cells #[.slice A2 clock.length c2] 86)) rfl (by simp) (by simp)).mono ?_
  rintro r W2 ⟨R,rfl,hR1,rr,hb2'⟩
  have hb2:Below w1.heap.size w1 W2:=((Below.refl _ _).alloc (Nat.le_refl _) _).trans (hb2'.mono (by simp))
  have re:=rX.below hb2 rX.lt
  have hB2:=b1.trans (hb2.mono hs1)
  have hlR:=rr.lt
  have hsz2:=hB2.size
  have hR2:w.heap.size+1≤R:=by simp at hR1;omega
  clear rX b1 hb2 hb2' hR1 hs1 hXl c0 c1 c2' c3 c4 c5
  obtain ⟨c0,c1,c2',c3,c4,c5⟩:=re.six'
  have HC2:=Lib.hid (HCL.out _ hB2)
  have hDW:D<W2.heap.size:=by omega
  have q0:=(HFK.out _ hB2).row.cell 0
  have HFW:=Lib.hid (HFK.out _ hB2).fl
  have hBD:=h_lo
  go_upto_block 0 with (fail)
  go_cut[] (fun W=>GCut f e A cap clock w R W)
  case first=>
   have HM:Hid (∀W,Below (w.heap.size+1) W2 W→GRow W R e.args.length (pcl e clock)→(goesE f e clock↔∀(i:Nat) x,e.args[i]? =some x→goesE f x (pcl e clock i))→GCut f e A cap clock w R W):=fun W hW ck ok=>
    ⟨re.below hW (Nat.lt_succ_self _),Nat.lt_of_lt_of_le hlR hW.size,ck,ok,hB2.trans (hW.mono (Nat.le_succ _))⟩
   have HB2:=Lib.hid hB2
   have HRE:=Lib.hid (fun W (hW:Below W2.heap.size W2 W)=>(re.below hW re.lt).six')
   have HRF:=Lib.hid (fun W (hW:Below (w.heap.size+1) W2 W)=>(re.below hW (Nat.lt_succ_self _)).six'.2.2.1)
   by_cases o3:e.op=3
   ·have o3':(e.op==3)=true:=by simp[o3]
    obtain ⟨m,b,off,cw,Ag,cg,hnm,hm,hvw,lw,mw,hbB,d0,d1,lg,mg,sg⟩:=fl_wire HFW.out (HW.out (by rw[o3];rfl))
    subst hvw
    have HF:Hid (cB (goesE f e clock)=cB (clockOf f.fm e.n=clock)):=cB_congr (goes_var o3)
    have HEQ:Hid (∀W,Below W2.heap.size W2 W→Calls Tryz.prog 109 #[.slice Ag (clockOf f.fm e.n).length cg,.slice A2 clock.length c2] W fun r w'=>r= .returned (.bool (cB (clockOf f.fm e.n=clock)))∧∃k,w'=W.drewN k):=fun W hW=>eqGuards_any _ _ _ _ W.heap.size W ⟨_,_,rfl,lg,by unfold maxLen;omega,(sg.below (hW.mono (by omega))).more (by have:=hW.size;omega)⟩ ⟨_,_,rfl,hc2,HM2.out,(HC2.out.below hW).more hW.size⟩
    have HK:Hid (∀W,Below W2.heap.size W2 W→W.cell? ⟨D,0,none⟩=some (.slice (some ⟨b,off,none⟩) f.wires.length cw)∧W.cell? ⟨w.heap.size,2,none⟩=some (.int .i64 m)∧W.cell? ⟨b,off+m*2+1,none⟩=some (.slice Ag (clockOf f.fm e.n).length cg)):=fun W hW=>⟨cell_kept q0 hW,by rw[←hnm];exact (HRE.out W hW).2.2.1,cell_kept d1 hW⟩
    have hm':(m:Int)<f.wires.length:=by omega
    rw[hnm] at c2'
    clear o3 sg hnm
    generalize clockOf f.fm e.n=cl at*
    go_wp2_with fail
    refine wp_region_held_drew (S:=fun W=>W.cell? ⟨D,0,none⟩=some (.slice (some ⟨b,off,none⟩) f.wires.length cw)∧W.cell? ⟨w.heap.size,2,none⟩=some (.int .i64 m)∧W.cell? ⟨b,off+m*2+1,none⟩=some (.slice Ag cl.length cg)) (by kernel_rfl) ?_ (fun hHeld=>?_)
    ·(try dsimp only);(first|(with_reducible exact HK.out _ bE))
    refine tk 0 (some 22) rfl ?_
    refine tk 1 (some 23) rfl ?_
    refine tk 2 (some 24) rfl ?_
    refine tk 3 (some 25) rfl ?_
    refine tk 4 (some 26) rfl ?_
    refine tk 5 (some 27) rfl ?_
    refine tk 6 (some 28) rfl ?_
    refine tk 7 (some 29) rfl ?_
    refine tk 8 (some 30) rfl ?_
    refine tk 9 (some 31) rfl ?_
    refine tk 10 (some 32) rfl ?_
    refine rd1 11 (some 33) rfl (fun KK hKK=>?_)
    go_simp
    go_at_call 109;refine Calls.mono (HEQ.out _ bE) ?_;rintro e w8 ⟨rfl,n8,rfl⟩
    (try go_wp2_with fail)
    refine hKK.out _ _ ?_ (fun hHeld=>?_)
    ·(try dsimp only);(first|(with_reducible exact HK.out _ bE))
    clear hKK KK
    try simp only[Act.put,List.setIfInBounds_toArray,List.set_cons_zero,List.set_cons_succ]
    refine tk 12 (some 6) rfl ?_
    refine wpAnyH_done (by kernel_rfl) ?_ _
    go_wp2_with fail
    go_ret
    exact ⟨ret_bool HF.out.symm,hB2.trans ((bE:Below W2.heap.size W2 _).mono hsz2)⟩
   have o3':(e.op==3)=false:=by simp[o3]
   have HGO:=Lib.hid (goes_other (f:=f) (c:=clock) o3)
   clear o3
   by_cases o26:e.op=26
   ·have o26':(e.op==26)=true:=by simp[o26]
    have o24':(e.op==24)=false:=by simp[o26]
    have o25':(e.op==25)=false:=by simp[o26]
    have ha2:e.args.length=2:=by
     have:=HPT.out
     rw[o26] at this;simp[partsZ] at this;omega
    obtain ⟨m,b,off,cw,Ag,cg,hnm,hm,hvw,lw,mw,hbB,d0,d1,lg,mg,sg⟩:=fl_wire HFW.out (HW.out (by rw[o26];rfl))
    subst hvw
    have HOK:Hid (clockOf f.fm e.n=clock→(goesE f e clock↔∀(i:Nat) x,e.args[i]? =some x→goesE f x (pcl e clock i))):=fun g=>HGO.out.trans ⟨fun g=>g.2.2,fun g'=>⟨fun h=>absurd h (by omega),fun _=>g,g'⟩⟩
    have HNO:Hid (¬clockOf f.fm e.n=clock→cB (goesE f e clock)=false):=fun g=>cB_false (fun q=>g ((HGO.out.1 q).2.1 o26))
    have HPC:Hid (pcl e clock=fun i=>clock++ [⟨e.n,i==1⟩]):=by show _=_;funext i;unfold pcl;rw[if_neg (by omega),if_pos o26]
    have HEQ:Hid (∀W,Below W2.heap.size W2 W→Calls Tryz.prog 109 #[.slice Ag (clockOf f.fm e.n).length cg,.slice A2 clock.length c2] W fun r w'=>r= .returned (.bool (cB (clockOf f.fm e.n=clock)))∧∃k,w'=W.drewN k):=fun W hW=>eqGuards_any _ _ _ _ W.heap.size W ⟨_,_,rfl,lg,by unfold maxLen;omega,(sg.below (hW.mono (by omega))).more (by have:=hW.size;omega)⟩ ⟨_,_,rfl,hc2,HM2.out,(HC2.out.below hW).more hW.size⟩
    have HK:Hid (∀W,Below W2.heap.size W2 W→W.cell? ⟨D,0,none⟩=some (.slice (some ⟨b,off,none⟩) f.wires.length cw)∧W.cell? ⟨w.heap.size,2,none⟩=some (.int .i64 m)∧W.cell? ⟨b,off+m*2+1,none⟩=some (.slice Ag (clockOf f.fm e.n).length cg)):=fun W hW=>⟨cell_kept q0 hW,by rw[←hnm];exact (HRE.out W hW).2.2.1,cell_kept d1 hW⟩
    have hm':(m:Int)<f.wires.length:=by omega
    have HNM:=Lib.hid hnm
    rw[hnm] at c2'
    clear o26 sg hnm
    generalize hcl0:clockOf f.fm e.n=cl at*
    clear hcl0
    have HA2:=Lib.hid ha2
    clear ha2
    go_wp2_with fail
    go_cut[74] (fun v W=>v= .bool (!cB (cl=clock))∧Below W2.heap.size W2 W)
    case first=>
     refine wp_region_held_drew (S:=fun W=>W.cell? ⟨D,0,none⟩=some (.slice (some ⟨b,off,none⟩) f.wires.length cw)∧W.cell? ⟨w.heap.size,2,none⟩=some (.int .i64 m)∧W.cell? ⟨b,off+m*2+1,none⟩=some (.slice Ag cl.length cg)) (by kernel_rfl) ?_ (fun hHeld=>?_)
     ·(try dsimp only);(first|(with_reducible exact HK.out _ bE))
     refine tk 0 (some 62) rfl ?_
     refine tk 1 (some 63) rfl ?_
     refine tk 2 (some 64) rfl ?_
     refine tk 3 (some 65) rfl ?_
     refine tk 4 (some 66) rfl ?_
     refine tk 5 (some 67) rfl ?_
     refine tk 6 (some 68) rfl ?_
     refine tk 7 (some 69) rfl ?_
     refine tk 8 (some 70) rfl ?_
     refine tk 9 (some 71) rfl ?_
     refine tk 10 (some 72) rfl ?_
     refine rd1 11 (some 73) rfl (fun KK hKK=>?_)
     go_simp
     go_at_call 109;refine Calls.mono (HEQ.out _ bE) ?_;rintro e w8 ⟨rfl,n8,rfl⟩
     (try go_wp2_with fail)
     refine hKK.out _ _ ?_ (fun hHeld=>?_)
     ·(try dsimp only);(first|(with_reducible exact HK.out _ bE))
     clear hKK KK
     try simp only[Act.put,List.setIfInBounds_toArray,List.set_cons_zero,List.set_cons_succ]
     refine tk 12 (some 74) rfl ?_
     refine wpAnyH_done (by kernel_rfl) ?_ _
     go_wp2_with fail
     go_meet
     exact ⟨rfl,bE⟩
    case rest=>
     obtain ⟨rfl,hbc⟩:=hcut
     have HBC:=Lib.hid hbc
     have hsc:=hbc.size
     have rrc:=rr.below hbc hlR
     clear HK HEQ c0 c1 c2' c3 c4 c5 q0 d0 d1 rr
     by_cases hq:cl=clock
     rotate_left 1
     ·have HF:=Lib.hid (HNO.out hq)
      rw[cB_false hq]
      clear hq
      go_wp2_with fail
      go_ret
      exact ⟨ret_bool HF.out.symm,hB2.trans (HBC.out.mono hsz2)⟩
     have HOK2:=Lib.hid (HOK.out hq)
     rw[cB_true hq]
     clear hq HOK HNO
     have hBC:=hB2.trans (hbc.mono hsz2)
     have HALL:Hid (∀{q:Bool},∀x∈clock++ [⟨e.n,q⟩],isGd x (gdC x)):=fun x hx=>by
      rcases List.mem_append.1 hx with hx|hx
      ·exact ⟨rfl,HC2.out.all (P:=fun x=>Wf x.wire) (fun x cs h=>h.2) x hx⟩
      ·simp at hx;subst hx;exact ⟨rfl,hokn⟩
     have HRC:=Lib.hid rrc
     clear rrc
     go_wp2_with fail
     go_loopw[77] (fun i wr=>∃(j:Nat) (xs:List Value),j≤e.args.length∧i= .int .i64 j∧Hid (xs.length=e.args.length)∧Hid (Row wr R xs.toArray 86)∧Hid (∀i,i<j→∃v,xs[i]? =some v∧wr.ownsRow w.heap.size 152 2 v (clock.length+1) ((clock.map gdC).flatten++ [.int .i64 e.n,.bool (i==1)]))∧Hid (Below (w.heap.size+1) wc wr)) (fun i _=>e.args.length-(intOf i).toNat)
     case atStart=>exact ⟨0,_,Nat.zero_le _,rfl,List.length_replicate,HRC,(fun i hi=>absurd hi (by omega)),Below.refl _ _⟩
     case round=>
      obtain ⟨j,xs,hj,rfl,HXL,HRW,HOW,HBR⟩:=hrel
      have hbr:=HBR.out
      have hsr:=hbr.size
      have hbw:=hBC.trans (hbr.mono (Nat.le_succ _))
      by_cases hlt:j<e.args.length
      ·obtain ⟨vj,hvj⟩:∃vj,xs[j]? =some vj:=⟨_,List.getElem?_eq_getElem (by rw[HXL.out];exact hlt)⟩
       have hj':(j:Int)<e.args.length:=by omega
       obtain ⟨q,hq⟩:∃q,((j:Int)==1)=q:=⟨_,rfl⟩
       have HQ:Hid (q=(j==1)):=by
        show _=_
        rw[←hq,Bool.eq_iff_iff,beq_iff_eq,beq_iff_eq]
        omega
       have q1:=HRF.out _ ((HBC.out.mono (by omega)).trans hbr)
       have qj:wr.cell? ⟨R,j,none⟩=some vj:=(HRW.out.cell j).trans (by rw[List.getElem?_toArray];exact hvj)
       have zj:=HRW.out.frozen j
       have hRr:=HRW.out.lt
       have hwr1:w.heap.size+1≤wr.heap.size:=by omega
       have HK:Hid (∀W,Below (w.heap.size+1) wr W→W.cell? ⟨w.heap.size,2,none⟩=some (.int .i64 e.n)):=fun W hW=>HRF.out _ ((HBC.out.mono (by omega)).trans (hbr.trans hW))
       have HCR:Hid (∀W,Below wr.heap.size wr W→SlV W W.heap.size 2 isGd (.slice A2 clock.length c2) clock):=fun W hW=>⟨_,_,rfl,hc2,HM2.out,HCL.out _ (hbw.trans (hW.mono hbw.size))⟩
       have HVJ:=Lib.hid hvj
       clear hvj
       have HON:Hid (∀u∈[Value.int .i64 e.n,.bool q],u.oneCell'=true):=flat_one gdC_one [(⟨e.n,q⟩:Gd)]
       have HLN:=Lib.hid (flat_len (size:=2) (l:=clock) gdC_len)
       go_upto_region 17 with (fail)
       go_region_held3 (fun W=>W.cell? ⟨w.heap.size,2,none⟩=some (.int .i64 e.n))
        (first|(with_reducible exact HK.out _ bE)|go_keep)
        (first|((go_at_call 107);(refine (clone_gd clock _ _ (HCR.out _ bE) hcl5).mono ?_);rintro e w5 ⟨v5,rfl,ho5,hb5⟩;(have hb6:Below wr.heap.size wr w5:=Below.trans bE (hb5.mono lE));(have hb6':Below (w.heap.size+1) wr w5:=hb6.mono hwr1);(have hs6:=hb6.size);(have rx5:=HRW.out.below hb6 hRr);(have ho6:w5.ownsRow wr.heap.size 152 2 v5 clock.length (clock.map gdC).flatten:=own_base ho5 lE))|((refine step_append_any _ (by rfl) (.tmp 83) (.tmp 89) 86 (by rfl) wr.heap.size 152 i0 _ 2 16 Tryz.underlying86 hi0 hz0 hz1 hz2 (by rfl) (by decide) v5 clock.length (clock.map gdC).flatten (by rfl) ho6 ⟨wr.heap.size,0,none⟩ 1 1 [.int .i64 e.n,.bool q] (by rfl) (by rfl) (fun j u hu=>Eq.trans (Below.cell hb5 (by rw[add_block];simp)) (cell_two _ _ _ _ j u hu)) HON.out (by unfold maxLen;omega) (by omega) hs6 ?_);(intro v7 w7 ho7 hg7 _hat7);(have hb7:Below wr.heap.size wr w7:=below_own hb6 ho6 hg7 hs6);(have hb7':Below (w.heap.size+1) wr w7:=hb7.mono hwr1);(have hs7:=hb7.size);(have rx7:=rx5.grownE hg7 (own_ne ho6 rx5 (by decide)));(have q7:w7.cell? ⟨R,j,none⟩=some vj:=(rx7.cell j).trans (by rw[List.getElem?_toArray];exact HVJ.out));(have z7:=rx7.frozen j);(obtain ⟨A7,c7,hv7,_⟩:=own_src ho7);(subst hv7))|((refine step_append_any _ (by rfl) (.tmp 83) (.tmp 89) 86 (by rfl) wr.heap.size 152 i0 _ 2 16 Tryz.underlying86 hi0 hz0 hz1 hz2 (by rfl) (by decide) v5 clock.length (clock.map gdC).flatten (by rfl) (ho6.alloc _) ⟨w5.heap.size,0,none⟩ 1 1 [.int .i64 e.n,.bool q] (by rfl) (by rfl) (fun j u hu=>cell_two _ _ _ _ j u hu) HON.out (by unfold maxLen;omega) (by omega) (by simp;omega) ?_);(intro v7 w7 ho7 hg7 _hat7);(have hb7:Below wr.heap.size wr w7:=below_own (hb6.alloc hs6 _) (ho6.alloc _) hg7 (by simp;omega));(have hb7':Below (w.heap.size+1) wr w7:=hb7.mono hwr1);(have hs7:=hb7.size);(have rx7:=(rx5.alloc _).grownE hg7 (own_ne ho6 rx5 (by decide)));(have q7:w7.cell? ⟨R,j,none⟩=some vj:=(rx7.cell j).trans (by rw[List.getElem?_toArray];exact HVJ.out));(have z7:=rx7.frozen j);(obtain ⟨A7,c7,hv7,_⟩:=own_src ho7);(subst hv7)))
       all_goals
        have u9:=Upd.setCell (X:=fun k=>k=R) (p:=⟨R,j,none⟩) (Upd.refl _ w7) rfl (.slice A7 (clock.length+1) c7)
        have HRn:Hid (Row (w7.setCell ⟨R,j,none⟩ (.slice A7 (clock.length+1) c7)) R (xs.set j (.slice A7 (clock.length+1) c7)).toArray 86):=by
         show Row _ _ _ _
         have:=rx7.set j (.slice A7 (clock.length+1) c7)
         simpa using this
        have HOn:Hid (∀i,i<j+1→∃v,(xs.set j (.slice A7 (clock.length+1) c7))[i]? =some v∧(w7.setCell ⟨R,j,none⟩ (.slice A7 (clock.length+1) c7)).ownsRow w.heap.size 152 2 v (clock.length+1) ((clock.map gdC).flatten++ [.int .i64 e.n,.bool (i==1)])):=by
         intro i hi
         rcases Nat.lt_succ_iff_lt_or_eq.1 hi with hi|rfl
         ·obtain ⟨v,h1,h2⟩:=HOW.out i hi
          have h3:=own_below h2 hb7
          exact ⟨v,by rw[List.getElem?_set_ne (by omega)];exact h1,own_updE h3 u9 (fun q hq e=>own_ne h3 rx7 (by decide) (by rw[←e];exact hq))⟩
         ·refine ⟨_,List.getElem?_set_self (by rw[HXL.out];exact hlt),?_⟩
          rw[←HQ.out]
          exact own_base (own_updE ho7 u9 (fun q hq e=>own_ne ho7 rx7 (by decide) (by rw[←e];exact hq))) (by omega)
        have HLn:Hid ((xs.set j (.slice A7 (clock.length+1) c7)).length=e.args.length):=by show _=_;rw[List.length_set];exact HXL.out
        have HBn:Hid (Below (w.heap.size+1) wc (w7.setCell ⟨R,j,none⟩ (.slice A7 (clock.length+1) c7))):=(hbr.trans hb7').setCell (p:=⟨R,j,none⟩) (by show w.heap.size+1≤R;omega) _
        go_wp2_with fail
        go_roundw
        case rel=>
         refine ⟨_,_,_,_,_,_,_,_,_,_,_,_,_,_,_,_,_,And.intro ?_ rfl⟩
         exact ⟨j+1,_,by omega,by go_num,HLn,HRn,HOn,HBn⟩
        case measure=>simp[intOf];omega
      ·obtain rfl:j=e.args.length:=by omega
       have HCK:Hid (GRow wr R e.args.length (pcl e clock)):=by
        show GRow _ _ _ _
        rw[HPC.out]
        intro i hi
        obtain ⟨v,h1,h2⟩:=HOW.out i hi
        obtain ⟨A9,c9,h3,h4,h5,h6⟩:=snoc_sl (g:=⟨e.n,i==1⟩) h2 HALL.out
        subst h3
        exact ⟨A9,c9,(HRW.out.cell i).trans (by rw[List.getElem?_toArray];exact h1),h4,h5,h6⟩
       go_wp2_with fail
       go_meet
       exact HM.out _ ((HBC.out.mono (by omega)).trans hbr) HCK.out HOK2.out
   have o26':(e.op==26)=false:=by simp[o26]
   by_cases o24:e.op=24∨e.op=25
   ·have ha1:e.args.length=1:=by
     have:=HPT.out
     rcases o24 with g|g<;>rw[g] at this<;>simp[partsZ] at this<;>omega
    have HOK1:Hid (clock.getLast? =some ⟨e.n,e.op==25⟩→(goesE f e clock↔∀(i:Nat) x,e.args[i]? =some x→goesE f x (pcl e clock i))):=fun g=>HGO.out.trans ⟨fun g=>g.2.2,fun g'=>⟨fun _=>g,fun h=>absurd h o26,g'⟩⟩
    have HNO:Hid (clock.getLast?≠some ⟨e.n,e.op==25⟩→cB (goesE f e clock)=false):=fun g=>cB_false (fun q=>g ((HGO.out.1 q).1 o24))
    have HPC:Hid (pcl e clock=fun _=>clock.dropLast):=by show _=_;funext i;unfold pcl;rw[if_pos o24]
    have hop:((e.op==24)=true∧(e.op==25)=false)∨((e.op==24)=false∧(e.op==25)=true):=by
     rcases o24 with g|g
     ·exact .inl ⟨by rw[g];rfl,by rw[g];rfl⟩
     ·exact .inr ⟨by rw[g];rfl,by rw[g];rfl⟩
    have HA1:=Lib.hid ha1
    have i1:(0:Int)<(e.args.length:Int):=by omega
    have i3:0<e.args.length:=by omega
    clear o24 o26 ha1
    rcases hop with ⟨o24',o25'⟩|⟨o24',o25'⟩
    all_goals
     rw[o25'] at HOK1 HNO
     by_cases h0:clock.length=0
     ·obtain rfl:clock=[]:=List.eq_nil_of_length_eq_zero h0
      have HF:=Lib.hid (HNO.out (by simp))
      clear h0
      go_wp2_with fail
      go_quiet (fail)
      go_wp2_with fail
      go_ret
      exact ⟨ret_bool HF.out.symm,hB2.trans ((bE:Below W2.heap.size W2 _).mono hsz2)⟩
     obtain ⟨m,hm⟩:∃m,clock.length=m+1:=⟨clock.length-1,by omega⟩
     obtain ⟨b2,o2,y,rfl,hb2,hy,ys,d0,d1⟩:=HC2.out.gd (show m<clock.length by omega)
     have HY:Hid (clock.getLast? =some y):=by show _=_;rw[List.getLast?_eq_getElem?,hm];exact hy
     have hm1:(clock.length:Int)-1=(m:Int):=by omega
     have hm3:m≤c2:=by omega
     have hm4:(m:Int)≤(c2:Int):=by omega
     have hm5:(m:Int)<(clock.length:Int):=by omega
     have hm6:(0:Int)≤(m:Int):=by omega
     have hm7:decide ((m:Int)<0)=false:=by simp
     have hm8:m<clock.length:=by omega
     have HM1:=Lib.hid hm
     clear hm hy h0
     obtain ⟨yn,yb⟩:=y
     dsimp only at d0 d1
     by_cases e1:yn=e.n
     rotate_left 1
     ·have e1':(yn==e.n)=false:=by simp[e1]
      have HF:=Lib.hid (HNO.out (by rw[HY.out];intro g;injection g with g;injection g with g;exact e1 g))
      clear e1
      go_wp2_with fail
      go_quiet (fail)
      go_wp2_with fail
      go_ret
      exact ⟨ret_bool HF.out.symm,hB2.trans ((bE:Below W2.heap.size W2 _).mono hsz2)⟩
     have e1':(yn==e.n)=true:=by simp[e1]
     by_cases e2:yb=(e.op==25)
     rotate_left 1
     ·rw[o25'] at e2
      have HF:=Lib.hid (HNO.out (by rw[HY.out];intro g;injection g with g;injection g with _ g;exact e2 g))
      cases yb
      all_goals first|exact absurd rfl e2|skip
      clear e1 e2
      go_wp2_with fail
      go_quiet (fail)
      go_wp2_with fail
      go_ret
      exact ⟨ret_bool HF.out.symm,hB2.trans ((bE:Below W2.heap.size W2 _).mono hsz2)⟩
     rw[o25'] at e2
     have HOK:=Lib.hid (HOK1.out (by rw[HY.out,e1,e2]))
     have rr8:=rr.set 0 (.slice (some ⟨b2,o2,none⟩) m c2)
     have q00:W2.cell? ⟨R,0,none⟩=some (.slice (some ⟨b2,o2,none⟩) clock.length c2):=(rr.cell 0).trans (by simp[HA1.out])
     have q01:=rr.frozen 0
     have HCUT:Hid (GCut f e A cap clock w R (W2.setCell ⟨R,0,none⟩ (.slice (some ⟨b2,o2,none⟩) m c2))):=by
      have hbl:Below (w.heap.size+1) W2 (W2.setCell ⟨R,0,none⟩ (.slice (some ⟨b2,o2,none⟩) m c2)):=(Below.refl _ _).setCell (p:=⟨R,0,none⟩) (by show w.heap.size+1≤R;omega) _
      refine HM.out _ hbl (fun i hi=>?_) HOK.out
      have hi2:i=0:=by have:=HA1.out;omega
      have hdl:clock.dropLast.length=m:=by simp[HM1.out]
      subst hi2
      rw[HPC.out,hdl]
      refine ⟨some ⟨b2,o2,none⟩,c2,(rr8.cell 0).trans (by simp[HA1.out]),hm3,HM2.out,?_⟩
      rw[List.dropLast_eq_take]
      exact (HCL.out _ (hB2.trans (hbl.mono (Nat.le_succ _)))).take _
     subst e2
     clear e1 rr8
     go_wp2_with fail
     go_quiet (fail)
     go_wp2_with fail
     go_meet
     first|exact HCUT.out|exact HCUT.out.drewN _|exact HCUT.out.drew
   have o24':(e.op==24)=false:=by rw[beq_eq_false_iff_ne];omega
   have o25':(e.op==25)=false:=by rw[beq_eq_false_iff_ne];omega
   have HPC:Hid (pcl e clock=fun _=>clock):=by show _=_;funext i;unfold pcl;rw[if_neg o24,if_neg o26]
   have HCK:Hid (GRow W2 R e.args.length (pcl e clock)):=by
    show GRow _ _ _ _
    rw[HPC.out]
    exact fun i hi=>⟨A2,c2,(rr.cell i).trans (by simp[hi]),hc2,HM2.out,HC2.out⟩
   have HOK:Hid (goesE f e clock↔∀(i:Nat) x,e.args[i]? =some x→goesE f x (pcl e clock i)):=HGO.out.trans ⟨fun g=>g.2.2,fun g=>⟨fun h=>absurd h o24,fun h=>absurd h o26,g⟩⟩
   clear o24 o26
   go_wp2_with fail
   go_meet
   exact HM.out _ bE HCK.out HOK.out
  case rest=>
   obtain ⟨re3,hR3,ck3,ok3,bel3⟩:=hcut
   have HOK:=Lib.hid ok3
   have HCK:=Lib.hid (fun W (hW:Below wc.heap.size wc W)=>ck3.below hR3 hW)
   have hs3:=bel3.size
   have hX3:=re3.lt
   have HRE:=Lib.hid (fun W (hW:Below wc.heap.size wc W)=>(re3.below hW hX3).six')
   have HB3:=Lib.hid bel3
   clear c0 c1 c2' c3 c4 c5 q0 HC2 HFW re rr ok3 ck3 re3 bel3
   obtain ⟨c0,c1,c2',c3,c4,c5⟩:=HRE.out _ (Below.refl _ _)
   go_wp2_with fail
   clear c0 c1 c2' c3 c4 c5
   go_loopw[96] (fun i wr=>∃k:Nat,k≤e.args.length∧i= .int .i64 k∧Hid (∀i,i<k→∀x,e.args[i]? =some x→goesE f x (pcl e clock i))∧Hid (Below wc.heap.size wc wr)) (fun i _=>e.args.length-(intOf i).toNat)
   case atStart=>exact ⟨0,Nat.zero_le _,rfl,(fun i hi=>absurd hi (by omega)),Below.refl _ _⟩
   case round=>
    obtain ⟨k,hk,rfl,HG,HBR⟩:=hrel
    have hb:=HB3.out.trans (HBR.out.mono hs3)
    have hbs:=hb.size
    have hrs:=HBR.out.size
    by_cases hlt:k<e.args.length
    ·obtain ⟨b,off,x,A',cap',rfl,hbb,hxk,hxm,hok',hcap',hmax',hx',d0,d1,d2,d3,d4,d5⟩:=(HXS.out _ hb).at_ hlt
     have hk':(k:Int)<e.args.length:=by omega
     have bx:Below wr.heap.size wr (wr.alloc (.cells (exRw x A' cap') 63)):=bE
     have rx:=Row.new wr (exRw x A' cap') 63
     have HGX:Hid ((goesE f x (pcl e clock k)→∀i,i<k+1→∀x,e.args[i]? =some x→goesE f x (pcl e clock i))∧(¬goesE f x (pcl e clock k)→cB (goesE f e clock)=false)):=by
      refine ⟨fun g i hi y hy=>?_,fun g=>cB_false (fun q=>g (HOK.out.1 q k x hxk))⟩
      rcases Nat.lt_succ_iff_lt_or_eq.1 hi with hi|rfl
      ·exact HG.out i hi y hy
      ·rw[hxk] at hy
       injection hy with hy
       rw[←hy]
       exact g
     obtain ⟨Ac,cc,p0,p1,p2,p3⟩:=HCK.out _ HBR.out k hlt
     have HXC:Hid (GoesC f D x A' cap' (pcl e clock k) Ac cc (wr.alloc (.cells (exRw x A' cap') 63))):=fun W hW=>by
      have hW2:=bx.trans (hW.mono (by simp))
      refine HI.out x hxm A' cap' (pcl e clock k) Ac cc W (HFK.out _ (hb.trans (hW2.mono hbs))) hok' hcap' hmax' ((hx'.below hW2).more hW2.size) ?_ p1 p2 ((p3.below hW2).more hW2.size)
      have h1:=exHeight_arg hxm
      have h2:=pcl_len (e:=e) (c:=clock) k
      have h3:=HSZ.out
      omega
     go_upto_region 22 with (fail)
     generalize wr.alloc (.cells (exRw x A' cap') 63)=w4 at*
     have hs4:=bx.size
     have hr4:=rx.lt
     have HK:Hid (∀W,Below w4.heap.size w4 W→(W.cell? ⟨wr.heap.size,0,none⟩=some (.int .i64 x.op)∧W.cell? ⟨wr.heap.size,1,none⟩=some (.string x.name)∧W.cell? ⟨wr.heap.size,2,none⟩=some (.int .i64 x.n)∧W.cell? ⟨wr.heap.size,3,none⟩=some (.slice A' x.args.length cap')∧W.cell? ⟨wr.heap.size,4,none⟩=some (.int .i64 x.line)∧W.cell? ⟨wr.heap.size,5,none⟩=some (.int .i64 x.col))∧W.cell? ⟨R,k,none⟩=some (.slice Ac (pcl e clock k).length cc)):=fun W hW=>⟨(rx.below hW hr4).six',cell_kept (cell_kept p0 bx) hW⟩
     generalize pcl e clock k=pc at*
     generalize hgb:goesE f x pc=GB at*
     have HXD:Hid (∀W,Below w4.heap.size w4 W→Calls Tryz.prog 115 #[.pointer (some ⟨D,0,none⟩),exV x A' cap',.slice Ac pc.length cc] W fun r w'=>r= .returned (.bool (cB GB))∧Below W.heap.size W w'):=fun W hW=>by have:=HXC.out W hW;unfold GoesP at this;rw[hgb] at this;exact this
     have HBX:=Lib.hid (HBR.out.trans (bx.mono hrs))
     have HBW:=Lib.hid (hb.trans (bx.mono hbs))
     clear hgb HXC hxk hxm hok' hcap' hmax' hx' d0 d1 d2 d3 d4 d5 p0 p1 p2 p3 rx bx hb
     obtain ⟨⟨c0,c1,c2',c3,c4,c5⟩,p0⟩:=HK.out _ (Below.refl _ _)
     go_cut[108] (fun v W=>v= .bool (!cB GB)∧Below w4.heap.size w4 W)
     case first=>
      refine wp_region_held_drew (S:=fun W=>(W.cell? ⟨wr.heap.size,0,none⟩=some (.int .i64 x.op)∧W.cell? ⟨wr.heap.size,1,none⟩=some (.string x.name)∧W.cell? ⟨wr.heap.size,2,none⟩=some (.int .i64 x.n)∧W.cell? ⟨wr.heap.size,3,none⟩=some (.slice A' x.args.length cap')∧W.cell? ⟨wr.heap.size,4,none⟩=some (.int .i64 x.line)∧W.cell? ⟨wr.heap.size,5,none⟩=some (.int .i64 x.col))∧W.cell? ⟨R,k,none⟩=some (.slice Ac pc.length cc)) (by kernel_rfl) ?_ (fun hHeld=>?_)
      ·(try dsimp only);(first|(with_reducible exact HK.out _ bE))
      refine tk 0 (some 101) rfl ?_
      refine tk 1 (some 102) rfl ?_
      refine tk 2 (some 103) rfl ?_
      refine tk 3 (some 104) rfl ?_
      refine tk 4 (some 105) rfl ?_
      refine tk 5 (some 106) rfl ?_
      refine rd1 6 (some 107) rfl (fun KK hKK=>?_)
      go_simp
      go_at_call 115;refine Calls.mono (HXD.out _ bE) ?_;rintro e w8 ⟨rfl,hb8⟩;(have hb9:Below w4.heap.size w4 w8:=Below.trans bE (hb8.mono lE))
      (try go_wp2_with fail)
      refine hKK.out _ _ ?_ (fun hHeld=>?_)
      ·(try dsimp only);(first|(with_reducible exact HK.out _ bE))
      clear hKK KK
      try simp only[Act.put,List.setIfInBounds_toArray,List.set_cons_zero,List.set_cons_succ]
      refine tk 7 (some 108) rfl ?_
      refine wpAnyH_done (by kernel_rfl) ?_ _
      go_wp2_with fail
      go_meet
      exact ⟨rfl,bE⟩
     case rest=>
      rename_i wd
      obtain ⟨rfl,hbc⟩:=hcut
      have HB':=Lib.hid (HBX.out.trans (hbc.mono HBX.out.size))
      have HW':=Lib.hid (HBW.out.trans (hbc.mono HBW.out.size))
      clear c0 c1 c2' c3 c4 c5 p0 HK HXD
      by_cases hg:GB
      ·have HG':=Lib.hid (HGX.out.1 hg)
       rw[cB_true hg]
       clear hg
       go_wp2_with fail
       go_roundw
       case rel=>exact ⟨k+1,by omega,by go_num,HG'.out,HB'.out⟩
       case measure=>simp[intOf];omega
      ·have HF:=Lib.hid (HGX.out.2 hg)
       rw[cB_false hg]
       clear hg
       go_wp2_with fail
       go_ret
       exact ⟨ret_bool HF.out.symm,HW'.out⟩
    ·obtain rfl:k=e.args.length:=by omega
     have HF:Hid (cB (goesE f e clock)=true):=cB_true (HOK.out.2 (fun i x hx=>HG.out i (List.getElem?_eq_some_iff.1 hx).1 x hx))
     go_wp2_with fail
     go_ret
     exact ⟨ret_bool HF.out.symm,hb⟩
end Go.Proofs.YtdkgkacnjdnpoaaGreat.Q
