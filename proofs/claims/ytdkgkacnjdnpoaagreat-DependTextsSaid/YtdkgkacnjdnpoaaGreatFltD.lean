/-
  flat's looker: is a definition right?
-/
import Derived.Test.YtdkgkacnjdnpoaaGreatZz
import Derived.Test.YtdkgkacnjdnpoaaGreatFltS
import Derived.Test.YtdkgkacnjdnpoaaGreatTreeRight
import Derived.Sort.CutIn
set_option maxHeartbeats 8000000
set_option maxRecDepth 100000
namespace Go.Proofs.YtdkgkacnjdnpoaaGreat.Q
open Go.RowKit Go.Shelf Vf Fo
attribute [local go_sem] Oper.semAt_some
attribute [local go_sem ↓] Go.wp_at_zero Go.wp_at_succ
abbrev dfA (d:Int × Ex) (A:Option Addr) (cap:Nat):Array Value:= #[.int .i64 d.1,.int .i64 d.2.op,.string d.2.name,.int .i64 d.2.n,.slice A d.2.args.length cap,.int .i64 d.2.line,.int .i64 d.2.col]
theorem fdef_any {w:World} {B D:Nat} {f:Fl} {vw vd vi vo vb:Value} (h:FkAt w B D f vw vd vi vo vb) (hw:wiresOkL f) (d:Int × Ex) (A:Option Addr) (cap:Nat) (hd:isW f.fm d.1) (hok:ExOk d.2) (hcap:d.2.args.length≤cap) (hmax:cap≤maxLen) (hx:IsExs w w.heap.size A d.2.args) (hs:exSize d.2≤1000000):
  Calls Tryz.prog 68 #[.pointer (some ⟨D,0,none⟩),.agg (dfA d A cap)] w fun r w'=>r= .returned (.bool (cB (defOkL f d)))∧Below w.heap.size w w':=by
 refine (callsIn_wide (n:=9)).1 ?_
 have HE:Hid (defOkL f d↔plainE f d.2∧exHeight d.2≤30∧kindE f d.2=tyOf f.fm d.1∧goesE f d.2 (clockOf f.fm d.1)∧lateE d.2=0):=Iff.rfl
 refine callsIn_of_wp_marks Tryz.func68 rfl trivial ?_ rfl
 simp only[Tryz.ntmps68,List.size_toArray,List.length_cons,List.length_nil,Nat.reduceAdd,Nat.reduceSub,Array.replicate_succ,Array.replicate_zero,List.push_toArray,List.append_toArray,List.nil_append,List.cons_append]
 refine' zq58
 generalize hx0:d.2=e at*
 have hB0:Below w.heap.size w ((((w.alloc (.cells #[.pointer (some ⟨D,0,none⟩)] 145)).alloc (.cells (dfA d A cap) 149)).alloc (.cells #[.bool false] 4)).alloc (.cells #[.int .i64 e.op,.string e.name,.int .i64 e.n,.slice A e.args.length cap,.int .i64 e.line,.int .i64 e.col] 63)):=bE
 have hsz:((((w.alloc (.cells #[.pointer (some ⟨D,0,none⟩)] 145)).alloc (.cells (dfA d A cap) 149)).alloc (.cells #[.bool false] 4)).alloc (.cells #[.int .i64 e.op,.string e.name,.int .i64 e.n,.slice A e.args.length cap,.int .i64 e.line,.int .i64 e.col] 63)).heap.size=w.heap.size+4:=by simp
 have bP:=(((Row.new w #[.pointer (some ⟨D,0,none⟩)] 145).alloc (.cells (dfA d A cap) 149)).alloc (.cells #[.bool false] 4)).alloc (.cells #[.int .i64 e.op,.string e.name,.int .i64 e.n,.slice A e.args.length cap,.int .i64 e.line,.int .i64 e.col] 63)
 have bD:=((Row.new (w.alloc (.cells #[.pointer (some ⟨D,0,none⟩)] 145)) (dfA d A cap) 149).alloc (.cells #[.bool false] 4)).alloc (.cells #[.int .i64 e.op,.string e.name,.int .i64 e.n,.slice A e.args.length cap,.int .i64 e.line,.int .i64 e.col] 63)
 have bR:=(Row.new ((w.alloc (.cells #[.pointer (some ⟨D,0,none⟩)] 145)).alloc (.cells (dfA d A cap) 149)) #[.bool false] 4).alloc (.cells #[.int .i64 e.op,.string e.name,.int .i64 e.n,.slice A e.args.length cap,.int .i64 e.line,.int .i64 e.col] 63)
 have bA:=Row.new (((w.alloc (.cells #[.pointer (some ⟨D,0,none⟩)] 145)).alloc (.cells (dfA d A cap) 149)).alloc (.cells #[.bool false] 4)) #[.int .i64 e.op,.string e.name,.int .i64 e.n,.slice A e.args.length cap,.int .i64 e.line,.int .i64 e.col] 63
 rw[World.size_alloc] at bD
 rw[World.size_alloc,World.size_alloc] at bR
 rw[World.size_alloc,World.size_alloc,World.size_alloc] at bA
 obtain ⟨W0,hW0⟩:∃W0,(((w.alloc (.cells #[.pointer (some ⟨D,0,none⟩)] 145)).alloc (.cells (dfA d A cap) 149)).alloc (.cells #[.bool false] 4)).alloc (.cells #[.int .i64 e.op,.string e.name,.int .i64 e.n,.slice A e.args.length cap,.int .i64 e.line,.int .i64 e.col] 63)=W0:=⟨_,rfl⟩
 rw[hW0] at bP bD bR bA hB0 hsz⊢
 clear hW0
 have HFK:=Lib.hid (fun W (hW:Below w.heap.size w W)=>h.below hW)
 refine wpIn_rangeFunc_ownH rfl (by decide) (gf:=71) (lb:= #[.pointer (some ⟨w.heap.size+3,0,none⟩)]) rfl trivial (enters_of Tryz.func71 (by kernel_rfl) rfl)
  (all_stops _ rfl _ trivial trivial rfl (w.heap.size+3) w.heap.size (fun _=>False) e A cap W0 (fun _ h=>h.elim) hok hcap hmax (by omega) (by omega) (fun j u hu=>by rw[bA.cell];simpa[exCells] using hu) (hx.below hB0))
  (fun h k=>h.trans k) (fun W l o o' _ h ho _=>keepC_putObj W l o o' h ho) (Below.refl _ _) (fun _=>rfl)
  (fun pre W=>((Row W w.heap.size #[.pointer (some ⟨D,0,none⟩)] 145∧Row W (w.heap.size+1) (dfA d A cap) 149∧Row W (w.heap.size+2) #[.bool false] 4)∧Hid (∀x∈pre,plain1 f x.ex))∧Below w.heap.size w W)
  (fun c pre W=>((Row W w.heap.size #[.pointer (some ⟨D,0,none⟩)] 145∧Row W (w.heap.size+1) (dfA d A cap) 149∧Row W (w.heap.size+2) #[.bool false] 4)∧Hid (c= .ret∧∃x∈pre,¬plain1 f x.ex))∧Below w.heap.size w W)
  (OwnFrom.and (OwnFrom.and (OwnFrom.and (fun s X Y row hs hg hr=>hs.own hg (fun r e=>(hr r e).2)) (OwnFrom.and (fun s X Y row hs hg hr=>hs.own hg (fun r e=>(hr r e).2)) (fun s X Y row hs hg hr=>hs.own hg (fun r e=>(hr r e).2)))) (ownFrom_pure _ _)) (ownFrom_below (Nat.le_refl _) (by omega)))
  (fun c=>OwnFrom.and (OwnFrom.and (OwnFrom.and (fun s X Y row hs hg hr=>hs.own hg (fun r e=>(hr r e).2)) (OwnFrom.and (fun s X Y row hs hg hr=>hs.own hg (fun r e=>(hr r e).2)) (fun s X Y row hs hg hr=>hs.own hg (fun r e=>(hr r e).2)))) (ownFrom_pure _ _)) (ownFrom_below (Nat.le_refl _) (by omega)))
  ⟨⟨⟨bP,bD,bR⟩,fun x h=>absurd h (by simp)⟩,hB0⟩
  (fun x a' W=>∃Bx,w.heap.size+2<Bx∧Row W Bx #[.int .i64 x.ex.op,.string x.ex.name,.int .i64 x.ex.n,.slice x.A x.ex.args.length x.cap,.int .i64 x.ex.line,.int .i64 x.ex.col] 63∧a'={tmps:= #[.pointer (some ⟨D,0,none⟩),.agg (dfA d A cap),.pointer (some ⟨w.heap.size,0,none⟩),.pointer (some ⟨w.heap.size+1,0,none⟩),.pointer (some ⟨w.heap.size+2,0,none⟩),.pointer (some ⟨Bx,0,none⟩),undef,undef,undef,.pointer (some ⟨w.heap.size+1,1,none⟩),exV e A cap,.func (.func 71) #[] #[.pointer (some ⟨w.heap.size+3,0,none⟩)],x.v,undef,undef,undef,undef,undef,undef,undef,undef,undef,undef,undef,undef,undef,undef,undef,undef,undef,undef,undef,undef,undef,undef,undef,undef,undef,undef,undef,undef,undef,undef,undef,undef,undef,undef,undef,undef,undef,undef,undef,undef,undef,undef,undef,undef,undef,undef],defers:=[]})
  (fun x a' _ X Y row hs hg hr=>by obtain ⟨Bx,h1,h2,h3⟩:=hs;exact ⟨Bx,h1,h2.own hg (fun r e=>(hr r e).2),h3⟩)
  ?assign ?body ?done ?stop
 case assign=>
  rintro l pre x W K ⟨⟨⟨bP1,bD1,bR1⟩,HP⟩,hB1⟩ hK
  gi_wp2
  exact hK _ _ ((KeepsOthers.alloc _ _).from _) (KeepC.alloc _ _ _) ⟨⟨⟨bP1.alloc _,bD1.alloc _,bR1.alloc _⟩,HP⟩,hB1.alloc hB1.size _⟩ ⟨W.heap.size,bR1.lt,Row.new W _ _,rfl⟩
 case body=>
  rintro l pre x a' W hl _ ⟨⟨⟨bP1,bD1,bR1⟩,HP⟩,hB1⟩ ⟨Bx,hBx,bX,rfl⟩ hlt
  obtain ⟨c0,c1,c2,c3,c4,c5⟩:=bX.six'
  have p0:=bP1.cell 0
  have fR:=bR1.frozen 0
  have cR:=bR1.cell 0
  simp only[List.getElem?_toArray,List.getElem?_cons_zero] at p0 cR
  have HPL:=Lib.hid (fplain_any (HFK.out _ hB1) x.ex x.A x.cap)
  gi_wp2_with (refine ⟨trivial,?_⟩;gi_at_call 112;refine (CallsIn.inRound l (callsIn_wide.2 HPL.out)).mono ?_;rintro r W2 ⟨rfl,hb2⟩;have bR2:=bR1.below hb2 bR1.lt;have fR2:=bR2.frozen 0;have cR2:=bR2.cell 0;simp only[List.getElem?_toArray,List.getElem?_cons_zero] at cR2;generalize hP:cB (plain1 f x.ex)=P at*;have HX:=Lib.hid hP;clear hP;cases P)
  ·refine ⟨((keeps_below hb2).trans (KeepsOthers.setCell _ _ _)).from _,⟨⟨⟨(bP1.below hb2 bP1.lt).far (by simp) _,(bD1.below hb2 bD1.lt).far (by simp) _,bR2.set 0 _⟩,⟨rfl,x,by simp,fun g=>by have:=HX.out;rw[cB_true g] at this;cases this⟩⟩,?_⟩⟩
   exact (hB1.trans (hb2.mono hB1.size)).setCell (p:=⟨w.heap.size+2,0,none⟩) (by simp) _
  ·exact ⟨(keeps_below hb2).from _,KeepC.below hb2,⟨⟨⟨bP1.below hb2 bP1.lt,bD1.below hb2 bD1.lt,bR2⟩,fun y hy=>(List.mem_append.1 hy).elim (HP.out y) (fun h=>by simp at h;rw[h];exact cB_iff.1 HX.out)⟩,hB1.trans (hb2.mono hB1.size)⟩⟩
 case done=>
  rintro DD ys W hD hys ⟨⟨⟨bP1,bD1,bR1⟩,HP⟩,hB1⟩ hK
  have HPE:Hid (plainE f e):=fun y hy=>by
   rw[←hys] at hy
   obtain ⟨x,hx,rfl⟩:=List.mem_map.1 hy
   exact HP.out x hx
  rename_i Q9 K9 a9
  refine a9 _ _ ?_
  refine wpIn_wide.2 ?_
  clear a9 K9
  subst Q9
  dsimp only
  obtain ⟨p0,hD0,hR0⟩:W.cell? ⟨w.heap.size,0,none⟩=some (.pointer (some ⟨D,0,none⟩))∧Row W (w.heap.size+1) (dfA d A cap) 149∧Row W (w.heap.size+2) #[.bool false] 4:=⟨bP1.cell 0,bD1,bR1⟩
  have hFK:=HFK.out _ hB1
  have q0:=hFK.row.cell 0
  obtain ⟨m,b,off,cw,Ag,cg,hnm,hm,hvw,lw,mw,hbB,w0,w1,lg,mg,sg⟩:=fl_wire hFK.fl hd
  subst hvw
  have hm':(m:Int)<f.wires.length:=by omega
  have e0:W.cell? ⟨w.heap.size+1,0,none⟩=some (.int .i64 m):=(hD0.cell 0).trans (by rw[←hnm];rfl)
  have hWl:w.heap.size+2<W.heap.size:=hR0.lt
  have hDD:w.heap.size≤DD:=by omega
  have hlo:=h.lo
  have hrl:=h.row.lt
  have hDW:D<W.heap.size:=by omega
  have hbW:b<W.heap.size:=by omega
  have h0W:w.heap.size<W.heap.size:=by omega
  have h1W:w.heap.size+1<W.heap.size:=by omega
  have HW:=Lib.hid (⟨bP1,bD1,bR1⟩:Row W w.heap.size #[.pointer (some ⟨D,0,none⟩)] 145∧Row W (w.heap.size+1) (dfA d A cap) 149∧Row W (w.heap.size+2) #[.bool false] 4)
  have HNM:=Lib.hid hnm
  have HSG:=Lib.hid sg
  have HB1:=Lib.hid hB1
  have HHP:=Lib.hid hK
  have Hh:=Lib.hid h
  have Hx:=Lib.hid hx
  clear bP1 bD1 bR1 hD0 hR0 hnm sg hFK hK h hx bA bR bD bP hB0 hsz
  go_upto_region 5 with (fail)
  generalize tyOf f.fm d.1=T at*
  generalize hcl:clockOf f.fm d.1=C at*
  go_cut[6] from 17 to 59 (fun v W4=>∃X,v= .pointer (some ⟨X,0,none⟩)∧W.heap.size≤X∧Row W4 X #[.int .i64 T,.slice Ag C.length cg] 141∧Below W.heap.size W W4)
  case first=>
   go_region
   all_goals
    go_wp2_with fail
    go_meet
    refine ⟨W.heap.size,rfl,Nat.le_refl _,?_,?_⟩
    ·exact (Row.new W _ _).drew
    ·exact bE
  case rest=>
   obtain ⟨X,rfl,hX,rX,hb4⟩:=hcut
   have hs4:=hb4.size
   obtain ⟨w4,rfl⟩:∃w4:World,w4=wc:=⟨_,rfl⟩
   have hB4:=HB1.out.trans (hb4.mono HB1.out.size)
   have hBs4:=hB4.size
   have HE4:=Lib.hid (fun W' (hW:Below w4.heap.size w4 W')=>(HW.out.2.1.below (hb4.trans (hW.mono hs4)) h1W))
   have HS6:Hid (∀W,Below w4.heap.size w4 W→W.cell? ⟨w.heap.size,0,none⟩=some (.pointer (some ⟨D,0,none⟩))∧(W.cell? ⟨w.heap.size+1,1,none⟩=some (.int .i64 e.op)∧W.cell? ⟨w.heap.size+1,2,none⟩=some (.string e.name)∧W.cell? ⟨w.heap.size+1,3,none⟩=some (.int .i64 e.n)∧W.cell? ⟨w.heap.size+1,4,none⟩=some (.slice A e.args.length cap)∧W.cell? ⟨w.heap.size+1,5,none⟩=some (.int .i64 e.line)∧W.cell? ⟨w.heap.size+1,6,none⟩=some (.int .i64 e.col))∧W.cell? ⟨X,0,none⟩=some (.int .i64 T)∧W.cell? ⟨X,1,none⟩=some (.slice Ag C.length cg)):=fun W' hW=>⟨(HW.out.1.below (hb4.trans (hW.mono hs4)) h0W).cell 0,⟨by subst hx0;exact (HE4.out _ hW).cell 1,by subst hx0;exact (HE4.out _ hW).cell 2,by subst hx0;exact (HE4.out _ hW).cell 3,by subst hx0;exact (HE4.out _ hW).cell 4,by subst hx0;exact (HE4.out _ hW).cell 5,by subst hx0;exact (HE4.out _ hW).cell 6⟩,(rX.below hW rX.lt).two'⟩
   have HXX:Hid (∀W,Below w4.heap.size w4 W→IsExs W W.heap.size A e.args∧FkAt W B D f (.slice (some ⟨b,off,none⟩) f.wires.length cw) vd vi vo vb):=fun W' hW=>⟨(Hx.out.below (hB4.trans (hW.mono hBs4))).more (hB4.trans (hW.mono hBs4)).size,HFK.out _ (hB4.trans (hW.mono hBs4))⟩
   have HHE:Hid (∀W,Below w4.heap.size w4 W→Calls Tryz.prog 113 #[exV e A cap] W fun r w'=>r= .returned (.int .i64 (exHeight e))∧Below W.heap.size W w'):=fun W' hW=>height_any e A cap W' hcap hmax (HXX.out _ hW).1 hs
   have HKI:Hid (∀W,Below w4.heap.size w4 W→Calls Tryz.prog 114 #[.pointer (some ⟨D,0,none⟩),exV e A cap] W (KindP f e W)):=fun W' hW=>fkind_any hw e A cap W' (HXX.out _ hW).2 hok hcap hmax (HXX.out _ hW).1 HPE.out
   have HKT:Hid (kindE f e=T↔kindE f e=T):=Iff.rfl
   obtain ⟨x0,⟨x1,x2,x3,x4,x5,x6⟩,x7,x8⟩:=HS6.out _ (Below.refl _ _)
   have HPW:=Lib.hid (plainE_iff.1 HPE.out)
   go_upto_region 6 with (fail)
   go_cut[47] from 26 to 59 (fun v W5=>v= .bool (!cB (exHeight e≤30∧kindE f e=T∧goesE f e C))∧Below w4.heap.size w4 W5)
   case first=>
    refine wp_mono (Q:=Exit.then _ (fun _ _ _=>False)) ?_ (fun e a w hq=>by cases e<;>first|exact hq|exact False.elim hq)
    by_cases hh:exHeight e≤30
    rotate_left 1
    ·have g1:decide ((30:Int)<(exHeight e:Int))=true:=by simp;omega
     have HF:=Lib.hid (cB_false (p:=exHeight e≤30∧kindE f e=T∧goesE f e C) (fun g=>hh g.1))
     clear hh
     refine' zq4
     refine sk 5 (some 31) rfl ?_
     refine sk 6 (some 32) rfl ?_
     refine sk 7 (some 33) rfl ?_
     refine sk 8 (some 34) rfl ?_
     refine sk 9 (some 35) rfl ?_
     refine sk 10 (some 36) rfl ?_
     refine sk 11 (some 37) rfl ?_
     refine tk 12 (some 38) rfl ?_
     refine tk 13 (some 39) rfl ?_
     refine' zq96
    have g1:decide ((30:Int)<(exHeight e:Int))=false:=by simp;omega
    by_cases hk:kindE f e=T
    rotate_left 1
    ·have g2:(kindE f e !=T)=true:=by simp[hk]
     have HF:=Lib.hid (cB_false (p:=exHeight e≤30∧kindE f e=T∧goesE f e C) (fun g=>hk g.2.1))
     refine' zq41
     refine' zq96
    have g2:(kindE f e !=T)=false:=by simp[hk]
    have HGO:Hid (∀W,Below w4.heap.size w4 W→Calls Tryz.prog 115 #[.pointer (some ⟨D,0,none⟩),exV e A cap,.slice Ag C.length cg] W (GoesP f e C W)):=fun W' hW=>fgoes_any e A cap C Ag cg W' (HXX.out _ hW).2 hok hcap hmax (HXX.out _ hW).1 HPE.out (by have hq:=clock_len (f:=f.fm) ⟨hw.1,hw.2.1,by have:=hw.2.2;show f.wires.length≤1600;omega⟩ hd;rw[hcl] at hq;omega) lg (by unfold maxLen;omega) ((HSG.out.below (by have:=Hh.out.lo;have:=Hh.out.row.lt;exact (hb4.trans (hW.mono hs4)).mono (by omega))).more (by have:=hW.size;have:=Hh.out.lo;have:=Hh.out.row.lt;omega))
    have HF:Hid (cB (goesE f e C)=cB (exHeight e≤30∧kindE f e=T∧goesE f e C)):=cB_congr ⟨fun g=>⟨hh,hk,g⟩,fun g=>g.2.2⟩
    refine' zq41
    refine tk 14 (some 40) rfl ?_
    refine tk 15 (some 41) rfl ?_
    refine tk 16 (some 42) rfl ?_
    refine tk 17 (some 43) rfl ?_
    refine tk 18 (some 44) rfl ?_
    refine rd1 19 (some 45) rfl (fun KK hKK=>?_)
    go_simp
    (go_at_call 115;refine Calls.mono (HGO.out _ bE) ?_;rintro r w12 ⟨rfl,hb12⟩;(have hb13:Below w4.heap.size w4 w12:=Below.trans bE (hb12.mono lE)))
    refine' zq95
    refine tk 20 (some 46) rfl ?_
    refine tk 21 (some 47) rfl ?_
    refine' zq67
    go_meet
    exact ⟨by rw[HF.out],bE⟩
   case rest=>
    rename_i w6
    obtain ⟨rfl,hb6⟩:=hcut
    have hs6:=hb6.size
    have HL6:=Lib.hid (hb4.trans (hb6.mono hs4))
    have hB6:=Lib.hid (hB4.trans (hb6.mono hBs4))
    have hR6:=HW.out.2.2.below HL6.out hWl
    have hK6:=(keeps_below HL6.out).same DD _ HHP.out rfl
    clear x0 x1 x2 x3 x4 x5 x6 x7 x8
    have r0:=hR6.cell 0
    have fr0:=hR6.frozen 0
    by_cases hg:exHeight e≤30∧kindE f e=T∧goesE f e C
    rotate_left 1
    ·have HF:Hid (cB (defOkL f d)=false):=cB_false (fun g=>hg ⟨(HE.out.1 g).2.1,(HE.out.1 g).2.2.1,(HE.out.1 g).2.2.2.1⟩)
     rw[cB_false hg]
     clear hg
     go_wp2_with fail
     have hK7:(wc.setCell ⟨w.heap.size+2,0,none⟩ (.bool false)).heap[DD]? =some (.deferred (some [])):=(KeepsOthers.setCell wc _ _).same DD _ hK6 rfl
     refine ⟨by simp,.inl ⟨_,_,rfl,run_takeDeferred hK7,?_⟩⟩
     have hc5:=Go.cell_kept ((hR6.set 0 (.bool false)).cell 0) (grownBy_putObj' _ DD (.deferred none)) (fun r e=>by cases e;exact ⟨_,hK7,rfl⟩)
     refine ⟨.bool false,?_,by rw[HF.out],(hB6.out.setCell (p:=⟨w.heap.size+2,0,none⟩) (by simp) _).trans (belowK_b (w:=w) (Nat.le_refl _) _ DD _ _ (by omega) hK7 rfl rfl)⟩
     simp[results,Tryz.f68,go_sem,hc5]
    have HF:Hid (cB (defOkL f d)=cB (lateE e=0)):=cB_congr (HE.out.trans ⟨fun g=>g.2.2.2.2,fun g=>⟨HPE.out,hg.1,hg.2.1,hg.2.2,g⟩⟩)
    rw[cB_true hg]
    have HLT:=Lib.hid (flate_any e A cap wc hok hcap hmax ((Hx.out.below hB6.out).more hB6.out.size))
    have HE6:=HW.out.2.1.below HL6.out h1W
    obtain ⟨y0,y1,y2,y3,y4,y5,y6⟩:wc.cell? ⟨w.heap.size+1,0,none⟩=some (.int .i64 d.1)∧wc.cell? ⟨w.heap.size+1,1,none⟩=some (.int .i64 e.op)∧wc.cell? ⟨w.heap.size+1,2,none⟩=some (.string e.name)∧wc.cell? ⟨w.heap.size+1,3,none⟩=some (.int .i64 e.n)∧wc.cell? ⟨w.heap.size+1,4,none⟩=some (.slice A e.args.length cap)∧wc.cell? ⟨w.heap.size+1,5,none⟩=some (.int .i64 e.line)∧wc.cell? ⟨w.heap.size+1,6,none⟩=some (.int .i64 e.col):=by
     subst hx0
     exact ⟨HE6.cell 0,HE6.cell 1,HE6.cell 2,HE6.cell 3,HE6.cell 4,HE6.cell 5,HE6.cell 6⟩
    clear hg r0 fr0
    go_wp2_with fail
    (with_reducible refine HLT.out.mono ?_)
    rintro r w7 ⟨⟨bb,ok,rfl,h1,h2⟩,hb7⟩
    have HB7:=Lib.hid (hB6.out.trans (hb7.mono hB6.out.size))
    have hR7:=hR6.below hb7 hR6.lt
    have hK8:=(keeps_below hb7).same DD _ hK6 rfl
    have r0:=hR7.cell 0
    have fr0:=hR7.frozen 0
    have HV:Hid (cB (lateE e=0)=(ok && !bb)):=by
     have:=lateE_le e
     show _=_
     rw[Bool.eq_iff_iff,cB_iff]
     cases ok<;>cases bb<;>simp at h1 h2⊢<;>omega
    clear h1 h2 y0 y1 y2 y3 y4 y5 y6
    rw[←HF.out] at HV
    cases ok<;>cases bb
    ·refine' zq19
    ·refine' zq19
    ·go_wp2_with fail
     have hK7:(w7.setCell ⟨w.heap.size+2,0,none⟩ (.bool true)).heap[DD]? =some (.deferred (some [])):=(KeepsOthers.setCell w7 _ _).same DD _ hK8 rfl
     refine ⟨by simp,.inl ⟨_,_,rfl,run_takeDeferred hK7,?_⟩⟩
     have hc5:=Go.cell_kept ((hR7.set 0 (.bool true)).cell 0) (grownBy_putObj' _ DD (.deferred none)) (fun r e=>by cases e;exact ⟨_,hK7,rfl⟩)
     refine ⟨.bool true,?_,by rw[HV.out];rfl,(HB7.out.setCell (p:=⟨w.heap.size+2,0,none⟩) (by simp) _).trans (belowK_b (w:=w) (Nat.le_refl _) _ DD _ _ (by omega) hK7 rfl rfl)⟩
     simp[results,Tryz.f68,go_sem,hc5]
    ·refine' zq19
 case stop=>
  rintro DD c pre W hD hpre ⟨⟨⟨bP1,bD1,bR1⟩,HP⟩,hB1⟩ hK
  obtain ⟨rfl,x,hxp,hxf⟩:=HP.out
  have HF:Hid (cB (defOkL f d)=false):=cB_false (fun g=>hxf ((HE.out.1 g).1 x.ex (hpre.subset (List.mem_map_of_mem hxp))))
  clear HP hxf hxp
  gi_wp2
  refine ⟨by simp,.inl ⟨_,_,rfl,run_takeDeferred hK,?_⟩⟩
  have hc5:=Go.cell_kept (bR1.cell 0) (grownBy_putObj' _ DD (.deferred none)) (fun r e=>by cases e;exact ⟨_,hK,rfl⟩)
  refine ⟨.bool false,?_,by rw[HF.out],hB1.trans (belowK_b (w:=w) (Nat.le_refl _) W DD _ _ (by omega) hK rfl rfl)⟩
  simp[results,Tryz.f68,go_sem,hc5]
end Go.Proofs.YtdkgkacnjdnpoaaGreat.Q
