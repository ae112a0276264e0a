/-
  flat's looker: is a definition right? flat's looker: row.
-/
import Derived.Test.YtckognjamlckcaaGreatDoorTreeRight
set_option maxHeartbeats 16000000
set_option maxRecDepth 100000
namespace Go.Proofs.YtckognjamlckcaaGreatDoor
open Go.RowKit Go.Shelf Vf Fo
attribute [local go_sem] Oper.semAt_some
attribute [local go_sem ↓] Go.wp_at_zero Go.wp_at_succ
abbrev gh (d:Int × Ex) (A:Option Addr) (cap:Nat):Array Value:= #[.int .i64 d.1,.int .i64 d.2.op,.string d.2.name,.int .i64 d.2.n,.slice A d.2.args.length cap,.int .i64 d.2.line,.int .i64 d.2.col]
theorem zO {w:World} {B D:Nat} {f:Fl} {vw vd vi vo vb:Value} (h:dU w B D f vw vd vi vo vb) (hw:de f) (d:Int × Ex) (A:Option Addr) (cap:Nat) (hd:ak f.fm d.1) (hok:cW d.2) (hcap:d.2.args.length<=cap) (hmax:cap<=maxLen) (hx:aM w w.heap.size A d.2.args) (hs:ay d.2<=1000000):
  Calls Tryz.prog 78 #[.pointer (some ⟨D,0,none⟩),.agg (gh d A cap)] w fun r w'=>r= .returned (.bool (cB (gO f d)))/\Below w.heap.size w w':=by
 refine (callsIn_wide (n:=9)).1 ?_
 have HE:Hid (gO f d↔aO f d.2/\ax d.2<=30/\am f d.2=ag f.fm d.1/\aE f d.2 (aa f.fm d.1)/\bf d.2=0):=Iff.rfl
 refine callsIn_of_wp_marks Tryz.func78 rfl trivial ?_ rfl
 simp only[Tryz.ntmps78,List.size_toArray,List.length_cons,List.length_nil,Nat.reduceAdd,Nat.reduceSub,Array.replicate_succ,Array.replicate_zero,List.push_toArray,List.append_toArray,List.nil_append,List.cons_append]
 gi_wp2_with (refine ⟨trivial,?_⟩;gi_at_call 97;refine (CR _ _ trivial rfl _ _ _ _).mono ?_;rintro r w' ⟨rfl,rfl⟩)
 generalize hx0:d.2=e at*
 have hB0:Below w.heap.size w ((((w.alloc (.cells #[.pointer (some ⟨D,0,none⟩)] 115)).alloc (.cells (gh d A cap) 77)).alloc (.cells #[.bool false] 4)).alloc (.cells #[.int .i64 e.op,.string e.name,.int .i64 e.n,.slice A e.args.length cap,.int .i64 e.line,.int .i64 e.col] 75)):=bE
 have hsz:((((w.alloc (.cells #[.pointer (some ⟨D,0,none⟩)] 115)).alloc (.cells (gh d A cap) 77)).alloc (.cells #[.bool false] 4)).alloc (.cells #[.int .i64 e.op,.string e.name,.int .i64 e.n,.slice A e.args.length cap,.int .i64 e.line,.int .i64 e.col] 75)).heap.size=w.heap.size+4:=by simp
 have bP:=(((ai.new w #[.pointer (some ⟨D,0,none⟩)] 115).alloc (.cells (gh d A cap) 77)).alloc (.cells #[.bool false] 4)).alloc (.cells #[.int .i64 e.op,.string e.name,.int .i64 e.n,.slice A e.args.length cap,.int .i64 e.line,.int .i64 e.col] 75)
 have bD:=((ai.new (w.alloc (.cells #[.pointer (some ⟨D,0,none⟩)] 115)) (gh d A cap) 77).alloc (.cells #[.bool false] 4)).alloc (.cells #[.int .i64 e.op,.string e.name,.int .i64 e.n,.slice A e.args.length cap,.int .i64 e.line,.int .i64 e.col] 75)
 have bR:=(ai.new ((w.alloc (.cells #[.pointer (some ⟨D,0,none⟩)] 115)).alloc (.cells (gh d A cap) 77)) #[.bool false] 4).alloc (.cells #[.int .i64 e.op,.string e.name,.int .i64 e.n,.slice A e.args.length cap,.int .i64 e.line,.int .i64 e.col] 75)
 have bA:=ai.new (((w.alloc (.cells #[.pointer (some ⟨D,0,none⟩)] 115)).alloc (.cells (gh d A cap) 77)).alloc (.cells #[.bool false] 4)) #[.int .i64 e.op,.string e.name,.int .i64 e.n,.slice A e.args.length cap,.int .i64 e.line,.int .i64 e.col] 75
 rw[World.size_alloc] at bD
 rw[World.size_alloc,World.size_alloc] at bR
 rw[World.size_alloc,World.size_alloc,World.size_alloc] at bA
 obtain ⟨W0,hW0⟩:∃W0,(((w.alloc (.cells #[.pointer (some ⟨D,0,none⟩)] 115)).alloc (.cells (gh d A cap) 77)).alloc (.cells #[.bool false] 4)).alloc (.cells #[.int .i64 e.op,.string e.name,.int .i64 e.n,.slice A e.args.length cap,.int .i64 e.line,.int .i64 e.col] 75)=W0:=⟨_,rfl⟩
 rw[hW0] at bP bD bR bA hB0 hsz⊢
 clear hW0
 have HFK:=zH (fun W (hW:Below w.heap.size w W)=>h.below hW)
 refine wpIn_rangeFunc_ownH rfl (by decide) (gf:=113) (lb:= #[.pointer (some ⟨w.heap.size+3,0,none⟩)]) rfl trivial (enters_of Tryz.func113 (by kernel_rfl) rfl)
  (xK _ rfl _ trivial trivial rfl (w.heap.size+3) w.heap.size (fun _=>False) e A cap W0 (fun _ h=>h.elim) hok hcap hmax (by omega) (by omega) (fun j u hu=>by rw[bA.cell];simpa[dR] using hu) (hx.below hB0))
  (fun h k=>h.trans k) (fun W l o o' _ h ho _=>rt W l o o' h ho) (Below.refl _ _) (fun _=>rfl)
  (fun pre W=>((ai W w.heap.size #[.pointer (some ⟨D,0,none⟩)] 115/\ai W (w.heap.size+1) (gh d A cap) 77/\ai W (w.heap.size+2) #[.bool false] 4)/\Hid (∀x∈pre,bJ f x.ex))/\Below w.heap.size w W)
  (fun c pre W=>((ai W w.heap.size #[.pointer (some ⟨D,0,none⟩)] 115/\ai W (w.heap.size+1) (gh d A cap) 77/\ai W (w.heap.size+2) #[.bool false] 4)/\Hid (c= .ret/\∃x∈pre,¬bJ f x.ex))/\Below w.heap.size w W)
  (OwnFrom.and (OwnFrom.and (OwnFrom.and (fun s X Y row hs hg hr=>hs.own hg (fun r e=>(hr r e).2)) (OwnFrom.and (fun s X Y row hs hg hr=>hs.own hg (fun r e=>(hr r e).2)) (fun s X Y row hs hg hr=>hs.own hg (fun r e=>(hr r e).2)))) (ownFrom_pure _ _)) (ownFrom_below (Nat.le_refl _) (by omega)))
  (fun c=>OwnFrom.and (OwnFrom.and (OwnFrom.and (fun s X Y row hs hg hr=>hs.own hg (fun r e=>(hr r e).2)) (OwnFrom.and (fun s X Y row hs hg hr=>hs.own hg (fun r e=>(hr r e).2)) (fun s X Y row hs hg hr=>hs.own hg (fun r e=>(hr r e).2)))) (ownFrom_pure _ _)) (ownFrom_below (Nat.le_refl _) (by omega)))
  ⟨⟨⟨bP,bD,bR⟩,fun x h=>absurd h (by simp)⟩,hB0⟩
  (fun x a' W=>∃Bx,w.heap.size+2<Bx/\ai W Bx #[.int .i64 x.ex.op,.string x.ex.name,.int .i64 x.ex.n,.slice x.A x.ex.args.length x.cap,.int .i64 x.ex.line,.int .i64 x.ex.col] 75/\a'={tmps:= #[.pointer (some ⟨D,0,none⟩),.agg (gh d A cap),.pointer (some ⟨w.heap.size,0,none⟩),.pointer (some ⟨w.heap.size+1,0,none⟩),.pointer (some ⟨w.heap.size+2,0,none⟩),.pointer (some ⟨Bx,0,none⟩),undef,undef,undef,.pointer (some ⟨w.heap.size+1,1,none⟩),bz e A cap,.func (.func 113) #[] #[.pointer (some ⟨w.heap.size+3,0,none⟩)],x.v,undef,undef,undef,undef,undef,undef,undef,undef,undef,undef,undef,undef,undef,undef,undef,undef,undef,undef,undef,undef,undef,undef,undef,undef,undef,undef,undef,undef,undef,undef,undef,undef,undef,undef,undef,undef,undef,undef,undef,undef,undef,undef,undef,undef,undef,undef],defers:=[]})
  (fun x a' _ X Y row hs hg hr=>by obtain ⟨Bx,h1,h2,h3⟩:=hs;exact ⟨Bx,h1,h2.own hg (fun r e=>(hr r e).2),h3⟩)
  ?assign ?body ?done ?stop
 case assign=>
  rintro l pre x W K ⟨⟨⟨bP1,bD1,bR1⟩,HP⟩,hB1⟩ hK
  gi_wp2
  exact hK _ _ ((KeepsOthers.alloc _ _).from _) (dc.alloc _ _ _) ⟨⟨⟨bP1.alloc _,bD1.alloc _,bR1.alloc _⟩,HP⟩,hB1.alloc hB1.size _⟩ ⟨W.heap.size,bR1.lt,ai.new W _ _,rfl⟩
 case body=>
  rintro l pre x a' W hl _ ⟨⟨⟨bP1,bD1,bR1⟩,HP⟩,hB1⟩ ⟨Bx,hBx,bX,rfl⟩ hlt
  obtain ⟨c0,c1,c2,c3,c4,c5⟩:=bX.six'
  have p0:=bP1.cell 0
  have fR:=bR1.frozen 0
  have cR:=bR1.cell 0
  simp only[List.getElem?_toArray,List.getElem?_cons_zero] at p0 cR
  have HPL:=zH (uQ (HFK.o _ hB1) x.ex x.A x.cap)
  gi_wp2_with (refine ⟨trivial,?_⟩;gi_at_call 98;refine (CallsIn.inRound l (callsIn_wide.2 HPL.o)).mono ?_;rintro r W2 ⟨rfl,hb2⟩;have bR2:=bR1.below hb2 bR1.lt;have fR2:=bR2.frozen 0;have cR2:=bR2.cell 0;simp only[List.getElem?_toArray,List.getElem?_cons_zero] at cR2;generalize hP:cB (bJ f x.ex)=P at*;have HX:=zH hP;clear hP;cases P)
  ·refine ⟨((ir hb2).trans (KeepsOthers.setCell _ _ _)).from _,⟨⟨⟨(bP1.below hb2 bP1.lt).far (by simp) _,(bD1.below hb2 bD1.lt).far (by simp) _,bR2.set 0 _⟩,⟨rfl,x,by simp,fun g=>by have:=HX.o;rw[aq g] at this;cases this⟩⟩,?_⟩⟩
   exact (hB1.trans (hb2.mono hB1.size)).setCell (p:=⟨w.heap.size+2,0,none⟩) (by simp) _
  ·exact ⟨(ir hb2).from _,dc.below hb2,⟨⟨⟨bP1.below hb2 bP1.lt,bD1.below hb2 bD1.lt,bR2⟩,fun y hy=>(List.mem_append.1 hy).elim (HP.o y) (fun h=>by simp at h;rw[h];exact cb.1 HX.o)⟩,hB1.trans (hb2.mono hB1.size)⟩⟩
 case done=>
  rintro DD ys W hD hys ⟨⟨⟨bP1,bD1,bR1⟩,HP⟩,hB1⟩ hK
  have HPE:Hid (aO f e):=fun y hy=>by
   rw[<-hys] at hy
   obtain ⟨x,hx,rfl⟩:=List.mem_map.1 hy
   exact HP.o x hx
  rename_i Q9 K9 a9
  refine a9 _ _ ?_
  refine wpIn_wide.2 ?_
  clear a9 K9
  subst Q9
  dsimp only
  obtain ⟨p0,hD0,hR0⟩:W.cell? ⟨w.heap.size,0,none⟩=some (.pointer (some ⟨D,0,none⟩))/\ai W (w.heap.size+1) (gh d A cap) 77/\ai W (w.heap.size+2) #[.bool false] 4:=⟨bP1.cell 0,bD1,bR1⟩
  have hFK:=HFK.o _ hB1
  have q0:=hFK.row.cell 0
  obtain ⟨m,b,off,cw,Ag,cg,hnm,hm,hvw,lw,mw,hbB,w0,w1,lg,mg,sg⟩:=dT hFK.fl hd
  subst hvw
  have hm':(m:Int)<f.wires.length:=by omega
  have e0:W.cell? ⟨w.heap.size+1,0,none⟩=some (.int .i64 m):=(hD0.cell 0).trans (by rw[<-hnm];rfl)
  have hWl:w.heap.size+2<W.heap.size:=hR0.lt
  have hDD:w.heap.size<=DD:=by omega
  have hlo:=h.lo
  have hrl:=h.row.lt
  have hDW:D<W.heap.size:=by omega
  have hbW:b<W.heap.size:=by omega
  have h0W:w.heap.size<W.heap.size:=by omega
  have h1W:w.heap.size+1<W.heap.size:=by omega
  have HW:=zH (⟨bP1,bD1,bR1⟩:ai W w.heap.size #[.pointer (some ⟨D,0,none⟩)] 115/\ai W (w.heap.size+1) (gh d A cap) 77/\ai W (w.heap.size+2) #[.bool false] 4)
  have HNM:=zH hnm
  have HSG:=zH sg
  have HB1:=zH hB1
  have HHP:=zH hK
  have Hh:=zH h
  have Hx:=zH hx
  clear bP1 bD1 bR1 hD0 hR0 hnm sg hFK hK h hx bA bR bD bP hB0 hsz
  go_upto_region 5 with (fail)
  generalize ag f.fm d.1=T at*
  generalize hcl:aa f.fm d.1=C at*
  go_cut[6] from 17 to 59 (fun v W4=>∃X,v= .pointer (some ⟨X,0,none⟩)/\W.heap.size<=X/\ai W4 X #[.int .i64 T,.slice Ag C.length cg] 52/\Below W.heap.size W W4)
  case first=>
   go_region
   all_goals
    go_wp2_with fail
    go_meet
    refine ⟨W.heap.size,rfl,Nat.le_refl _,?_,?_⟩
    ·exact (ai.new W _ _).drew
    ·exact bE
  case rest=>
   obtain ⟨X,rfl,hX,rX,hb4⟩:=hcut
   have hs4:=hb4.size
   obtain ⟨w4,rfl⟩:∃w4:World,w4=wc:=⟨_,rfl⟩
   have hB4:=HB1.o.trans (hb4.mono HB1.o.size)
   have hBs4:=hB4.size
   have HE4:=zH (fun W' (hW:Below w4.heap.size w4 W')=>(HW.o.2.1.below (hb4.trans (hW.mono hs4)) h1W))
   have HS6:Hid (∀W,Below w4.heap.size w4 W->W.cell? ⟨w.heap.size,0,none⟩=some (.pointer (some ⟨D,0,none⟩))/\(W.cell? ⟨w.heap.size+1,1,none⟩=some (.int .i64 e.op)/\W.cell? ⟨w.heap.size+1,2,none⟩=some (.string e.name)/\W.cell? ⟨w.heap.size+1,3,none⟩=some (.int .i64 e.n)/\W.cell? ⟨w.heap.size+1,4,none⟩=some (.slice A e.args.length cap)/\W.cell? ⟨w.heap.size+1,5,none⟩=some (.int .i64 e.line)/\W.cell? ⟨w.heap.size+1,6,none⟩=some (.int .i64 e.col))/\W.cell? ⟨X,0,none⟩=some (.int .i64 T)/\W.cell? ⟨X,1,none⟩=some (.slice Ag C.length cg)):=fun W' hW=>⟨(HW.o.1.below (hb4.trans (hW.mono hs4)) h0W).cell 0,⟨by subst hx0;exact (HE4.o _ hW).cell 1,by subst hx0;exact (HE4.o _ hW).cell 2,by subst hx0;exact (HE4.o _ hW).cell 3,by subst hx0;exact (HE4.o _ hW).cell 4,by subst hx0;exact (HE4.o _ hW).cell 5,by subst hx0;exact (HE4.o _ hW).cell 6⟩,(rX.below hW rX.lt).two'⟩
   have HXX:Hid (∀W,Below w4.heap.size w4 W->aM W W.heap.size A e.args/\dU W B D f (.slice (some ⟨b,off,none⟩) f.wires.length cw) vd vi vo vb):=fun W' hW=>⟨(Hx.o.below (hB4.trans (hW.mono hBs4))).more (hB4.trans (hW.mono hBs4)).size,HFK.o _ (hB4.trans (hW.mono hBs4))⟩
   have HHE:Hid (∀W,Below w4.heap.size w4 W->Calls Tryz.prog 99 #[bz e A cap] W fun r w'=>r= .returned (.int .i64 (ax e))/\Below W.heap.size W w'):=fun W' hW=>uB e A cap W' hcap hmax (HXX.o _ hW).1 hs
   have HKI:Hid (∀W,Below w4.heap.size w4 W->Calls Tryz.prog 100 #[.pointer (some ⟨D,0,none⟩),bz e A cap] W (lO f e W)):=fun W' hW=>xN hw e A cap W' (HXX.o _ hW).2 hok hcap hmax (HXX.o _ hW).1 HPE.o
   have HKT:Hid (am f e=T↔am f e=T):=Iff.rfl
   obtain ⟨x0,⟨x1,x2,x3,x4,x5,x6⟩,x7,x8⟩:=HS6.o _ (Below.refl _ _)
   have HPW:=zH (bq.1 HPE.o)
   go_upto_region 6 with (fail)
   go_cut[47] from 26 to 59 (fun v W5=>v= .bool (!cB (ax e<=30/\am f e=T/\aE f e C))/\Below w4.heap.size w4 W5)
   case first=>
    refine wp_mono (Q:=Exit.then _ (fun _ _ _=>False)) ?_ (fun e a w hq=>by cases e<;>first|exact hq|exact False.elim hq)
    by_cases hh:ax e<=30
    rotate_left 1
    ·have g1:decide ((30:Int)<(ax e:Int))=true:=by simp;omega
     have HF:=zH (ab (p:=ax e<=30/\am f e=T/\aE f e C) (fun g=>hh g.1))
     clear hh
     refine' zq24
     refine sk 5 (some 31) rfl ?_
     refine sk 6 (some 32) rfl ?_
     refine sk 7 (some 33) rfl ?_
     refine sk 8 (some 34) rfl ?_
     refine sk 9 (some 35) rfl ?_
     refine sk 10 (some 36) rfl ?_
     refine sk 11 (some 37) rfl ?_
     refine tk 12 (some 38) rfl ?_
     refine tk 13 (some 39) rfl ?_
     refine' zq189
    have g1:decide ((30:Int)<(ax e:Int))=false:=by simp;omega
    by_cases hk:am f e=T
    rotate_left 1
    ·have g2:(am f e !=T)=true:=by simp[hk]
     have HF:=zH (ab (p:=ax e<=30/\am f e=T/\aE f e C) (fun g=>hk g.2.1))
     refine' zq84
     refine' zq189
    have g2:(am f e !=T)=false:=by simp[hk]
    have HGO:Hid (∀W,Below w4.heap.size w4 W->Calls Tryz.prog 101 #[.pointer (some ⟨D,0,none⟩),bz e A cap,.slice Ag C.length cg] W (gr f e C W)):=fun W' hW=>wX e A cap C Ag cg W' (HXX.o _ hW).2 hok hcap hmax (HXX.o _ hW).1 HPE.o (by have hq:=jr (f:=f.fm) ⟨hw.1,hw.2.1,by have:=hw.2.2;show f.wires.length<=1600;omega⟩ hd;rw[hcl] at hq;omega) lg (by unfold maxLen;omega) ((HSG.o.below (by have:=Hh.o.lo;have:=Hh.o.row.lt;exact (hb4.trans (hW.mono hs4)).mono (by omega))).more (by have:=hW.size;have:=Hh.o.lo;have:=Hh.o.row.lt;omega))
    have HF:Hid (cB (aE f e C)=cB (ax e<=30/\am f e=T/\aE f e C)):=bu ⟨fun g=>⟨hh,hk,g⟩,fun g=>g.2.2⟩
    refine' zq84
    refine tk 14 (some 40) rfl ?_
    refine tk 15 (some 41) rfl ?_
    refine tk 16 (some 42) rfl ?_
    refine tk 17 (some 43) rfl ?_
    refine tk 18 (some 44) rfl ?_
    refine aH 19 (some 45) rfl (fun KK hKK=>?_)
    go_simp
    (go_at_call 101;refine Calls.mono (HGO.o _ bE) ?_;rintro r w12 ⟨rfl,hb12⟩;(have hb13:Below w4.heap.size w4 w12:=Below.trans bE (hb12.mono lE)))
    refine' zq202
    refine tk 20 (some 46) rfl ?_
    refine tk 21 (some 47) rfl ?_
    refine' zq26
    go_meet
    exact ⟨by rw[HF.o],bE⟩
   case rest=>
    rename_i w6
    obtain ⟨rfl,hb6⟩:=hcut
    have hs6:=hb6.size
    have HL6:=zH (hb4.trans (hb6.mono hs4))
    have hB6:=zH (hB4.trans (hb6.mono hBs4))
    have hR6:=HW.o.2.2.below HL6.o hWl
    have hK6:=(ir HL6.o).same DD _ HHP.o rfl
    clear x0 x1 x2 x3 x4 x5 x6 x7 x8
    have r0:=hR6.cell 0
    have fr0:=hR6.frozen 0
    by_cases hg:ax e<=30/\am f e=T/\aE f e C
    rotate_left 1
    ·have HF:Hid (cB (gO f d)=false):=ab (fun g=>hg ⟨(HE.o.1 g).2.1,(HE.o.1 g).2.2.1,(HE.o.1 g).2.2.2.1⟩)
     rw[ab hg]
     clear hg
     go_wp2_with fail
     have hK7:(wc.setCell ⟨w.heap.size+2,0,none⟩ (.bool false)).heap[DD]? =some (.deferred (some [])):=(KeepsOthers.setCell wc _ _).same DD _ hK6 rfl
     refine ⟨by simp,.inl ⟨_,_,rfl,run_takeDeferred hK7,?_⟩⟩
     have hc5:=Go.cell_kept ((hR6.set 0 (.bool false)).cell 0) (grownBy_putObj' _ DD (.deferred none)) (fun r e=>by cases e;exact ⟨_,hK7,rfl⟩)
     refine ⟨.bool false,?_,by rw[HF.o],(hB6.out.setCell (p:=⟨w.heap.size+2,0,none⟩) (by simp) _).trans (belowK_b (w:=w) (Nat.le_refl _) _ DD _ _ (by omega) hK7 rfl rfl)⟩
     simp[results,Tryz.f78,go_sem,hc5]
    have HF:Hid (cB (gO f d)=cB (bf e=0)):=bu (HE.o.trans ⟨fun g=>g.2.2.2.2,fun g=>⟨HPE.o,hg.1,hg.2.1,hg.2.2,g⟩⟩)
    rw[aq hg]
    have HLT:=zH (vL e A cap wc hok hcap hmax ((Hx.o.below hB6.out).more hB6.out.size))
    have HE6:=HW.o.2.1.below HL6.o h1W
    obtain ⟨y0,y1,y2,y3,y4,y5,y6⟩:wc.cell? ⟨w.heap.size+1,0,none⟩=some (.int .i64 d.1)/\wc.cell? ⟨w.heap.size+1,1,none⟩=some (.int .i64 e.op)/\wc.cell? ⟨w.heap.size+1,2,none⟩=some (.string e.name)/\wc.cell? ⟨w.heap.size+1,3,none⟩=some (.int .i64 e.n)/\wc.cell? ⟨w.heap.size+1,4,none⟩=some (.slice A e.args.length cap)/\wc.cell? ⟨w.heap.size+1,5,none⟩=some (.int .i64 e.line)/\wc.cell? ⟨w.heap.size+1,6,none⟩=some (.int .i64 e.col):=by
     subst hx0
     exact ⟨HE6.cell 0,HE6.cell 1,HE6.cell 2,HE6.cell 3,HE6.cell 4,HE6.cell 5,HE6.cell 6⟩
    clear hg r0 fr0
    go_wp2_with fail
    (with_reducible refine HLT.o.mono ?_)
    rintro r w7 ⟨⟨bb,ok,rfl,h1,h2⟩,hb7⟩
    have HB7:=zH (hB6.out.trans (hb7.mono hB6.out.size))
    have hR7:=hR6.below hb7 hR6.lt
    have hK8:=(ir hb7).same DD _ hK6 rfl
    have r0:=hR7.cell 0
    have fr0:=hR7.frozen 0
    have HV:Hid (cB (bf e=0)=(ok && !bb)):=by
     have:=sC e
     show _=_
     rw[Bool.eq_iff_iff,cb]
     cases ok<;>cases bb<;>simp at h1 h2⊢<;>omega
    clear h1 h2 y0 y1 y2 y3 y4 y5 y6
    rw[<-HF.o] at HV
    cases ok<;>cases bb
    ·refine' zq48
    ·refine' zq48
    ·go_wp2_with fail
     have hK7:(w7.setCell ⟨w.heap.size+2,0,none⟩ (.bool true)).heap[DD]? =some (.deferred (some [])):=(KeepsOthers.setCell w7 _ _).same DD _ hK8 rfl
     refine ⟨by simp,.inl ⟨_,_,rfl,run_takeDeferred hK7,?_⟩⟩
     have hc5:=Go.cell_kept ((hR7.set 0 (.bool true)).cell 0) (grownBy_putObj' _ DD (.deferred none)) (fun r e=>by cases e;exact ⟨_,hK7,rfl⟩)
     refine ⟨.bool true,?_,by rw[HV.o];rfl,(HB7.o.setCell (p:=⟨w.heap.size+2,0,none⟩) (by simp) _).trans (belowK_b (w:=w) (Nat.le_refl _) _ DD _ _ (by omega) hK7 rfl rfl)⟩
     simp[results,Tryz.f78,go_sem,hc5]
    ·refine' zq48
 case stop=>
  rintro DD c pre W hD hpre ⟨⟨⟨bP1,bD1,bR1⟩,HP⟩,hB1⟩ hK
  obtain ⟨rfl,x,hxp,hxf⟩:=HP.o
  have HF:Hid (cB (gO f d)=false):=ab (fun g=>hxf ((HE.o.1 g).1 x.ex (hpre.subset (List.mem_map_of_mem hxp))))
  clear HP hxf hxp
  gi_wp2
  refine ⟨by simp,.inl ⟨_,_,rfl,run_takeDeferred hK,?_⟩⟩
  have hc5:=Go.cell_kept (bR1.cell 0) (grownBy_putObj' _ DD (.deferred none)) (fun r e=>by cases e;exact ⟨_,hK,rfl⟩)
  refine ⟨.bool false,?_,by rw[HF.o],hB1.trans (belowK_b (w:=w) (Nat.le_refl _) W DD _ _ (by omega) hK rfl rfl)⟩
  simp[results,Tryz.f78,go_sem,hc5]
open Go.RowKit Vf Fo
theorem yP:(Tryz.prog.info? 109).map (fun i=>(i.zero,i.size,i.bytes))=some (some (.slice none 0 0),1,24):=by kernel_rfl
theorem yW (n:Int) (h0:0<=n) (h1:n<=1600) (W:World):(Instr.makeSlice 145 (.int .i64 n) (.int .i64 n)).run Tryz.prog W= .ok (.slice (some ⟨W.heap.size,0,none⟩) n.toNat n.toNat) (W.alloc (.cells (List.replicate n.toNat (.slice none 0 0)).toArray 109)):=by
 obtain ⟨i0,hi0,hz0,hz1,hz2⟩:=info_parts yP
 rw[run_make (P:=Tryz.prog) W 145 109 i0 (.slice none 0 0) rfl hi0 hz0 .i64 .i64 n n h0 (Int.le_refl _) (by rw[hz2];omega) (by omega),hz1,Nat.mul_one,<-nP]
 rfl
structure gV (W:World) (H:Nat) (f:Fl) (k:Nat) (vs:List Value):Prop where
 row:ai W H vs.toArray 109
 len:vs.length=f.wires.length
 ok:∀i:Nat,i<k->∃M hs,vs[i]? =some (.slice (some ⟨M,0,none⟩) f.wires.length f.wires.length)/\H<M/\ai W M (dI hs).toArray 4/\hs.length=f.wires.length/\∀c:Nat,aL hs c=true↔il f i c
theorem gV.zero {W:World} {H:Nat} {f:Fl} {vs:List Value} (h:ai W H vs.toArray 109) (hl:vs.length=f.wires.length):gV W H f 0 vs:=⟨h,hl,fun i hi=>absurd hi (by omega)⟩
theorem gV.upd {W W':World} {H D:Nat} {f:Fl} {k:Nat} {vs:List Value} (h:gV W H f k vs) (hD:W.heap.size<=D) (u:ae (fun x=>x=D) W W'):gV W' H f k vs:=
 ⟨u.row h.row (by have:=h.row.lt;omega),h.len,fun i hi=>by
  obtain ⟨M,hs,h1,h2,h3,h4,h5⟩:=h.ok i hi
  exact ⟨M,hs,h1,h2,u.row h3 (by have:=h3.lt;omega),h4,h5⟩⟩
theorem gV.next {W W':World} {H M:Nat} {f:Fl} {k:Nat} {vs:List Value} {hs:List Bool} (h:gV W H f k vs) (hk:k<f.wires.length) (u:ae (fun x=>x=H) W W') (hH:ai W' H (vs.set k (.slice (some ⟨M,0,none⟩) f.wires.length f.wires.length)).toArray 109) (hM:H<M) (hr:ai W' M (dI hs).toArray 4) (hl:hs.length=f.wires.length) (hc:∀c:Nat,aL hs c=true↔il f k c):
  gV W' H f (k+1) (vs.set k (.slice (some ⟨M,0,none⟩) f.wires.length f.wires.length)):=
 ⟨hH,by rw[List.length_set];exact h.len,fun i hi=>by
  by_cases e:i=k
  ·subst e
   exact ⟨M,hs,by rw[List.getElem?_set_self (by rw[h.len];exact hk)],hM,hr,hl,hc⟩
  ·obtain ⟨M',hs',h1,h2,h3,h4,h5⟩:=h.ok i (by omega)
   exact ⟨M',hs',by rw[List.getElem?_set_ne (fun q=>e q.symm)];exact h1,h2,u.row h3 (by omega),h4,h5⟩⟩
section
variable {f:Fl}
theorem qF {d:Int × Ex} (h:d∈f.defs):(⟨0,d.1,0,0,0,0⟩:Ac)∈f.fm.acts:=List.mem_map.2 ⟨d,h,rfl⟩
theorem pM (h:aR f.fm):∀d∈f.defs,ak f.fm d.1:=fun _ hd=>(h.2.1 _ (qF hd)).1
theorem qR (h:aR f.fm):∀n∈f.ins,∀d∈f.defs,d.1≠n:=fun n hn _ hd e=>(h.2.1 _ (qF hd)).2 (by dsimp only;rw[e];exact hn)
theorem uI (h:aR f.fm):∀d∈f.defs,∀d'∈f.defs,d.1=d'.1->d=d':=fun d hd d' hd' e=>by
 obtain ⟨i,hi⟩:=List.getElem?_of_mem hd
 obtain ⟨j,hj⟩:=List.getElem?_of_mem hd'
 rcases Nat.lt_trichotomy i j with g|g|g
 ·exact absurd e (h.2.2.1 i j _ _ g (jO hi) (jO hj))
 ·subst g;rw[hi] at hj;injection hj
 ·exact absurd e.symm (h.2.2.1 j i _ _ g (jO hj) (jO hi))
theorem xM (h:aR f.fm):CF f:=fun i hi=>(h.2.2.2 i hi).imp id (fun ⟨a,ha,e⟩=>by
 obtain ⟨d,hd,rfl⟩:=List.mem_map.1 ha
 exact ⟨d,hd,e⟩)
theorem Bk (h:aR f.fm) {k:Nat} (hk:(k:Int)∈f.ins) (c:Int):¬il f k c:=fun ⟨d,hd,e,_⟩=>qR h _ hk d hd e
theorem AJ (h:aR f.fm) {k:Nat} {d:Int × Ex} (hd:d∈f.defs) (e:d.1=k) {x:Wr} (hx:f.wires[k]? =some x) (c:Int):il f k c↔c∈aU d.2++x.clock.map (·.wire):=by
 have hc:aa f.fm (k:Int)=x.clock:=by unfold aa;rw[bW (f:=f.fm) hx]
 rw[List.mem_append,List.mem_map]
 constructor
 ·rintro ⟨d',hd',e',h'⟩
  obtain rfl:=uI h d' hd' d hd (e'.trans e.symm)
  rw[hc] at h'
  exact h'
 ·intro h'
  exact ⟨d,hd,e,by rw[hc];exact h'⟩
theorem CT (hw:nU f) {i c:Int} (h:il f i c):ak f.fm c:=by
 obtain ⟨d,hd,e,h|⟨g,hg,h⟩⟩:=h
 ·exact (hw d hd).1 c h
 ·rw[<-h];exact (hw d hd).2 g (by rw[e];exact hg)
end
theorem qT (n:Nat) (c:Int):aL (List.replicate n false) c=false:=by
 simp only[aL,List.getD_eq_getElem?_getD,List.getElem?_replicate]
 split<;>rfl
theorem qE (n:Nat):dI (List.replicate n false)=List.replicate n (.bool false):=by simp[dI]
theorem yZ {w:World} {B D K:Nat} {f:Fl} {vw vd vi vo:Value} {bs:List Int} (h:dU w B D f vw vd vi vo (.slice (some ⟨K,0,none⟩) f.wires.length f.wires.length)) (hK:ai w K (al bs).toArray 3) (hbl:bs.length=f.wires.length) (hby:mB f bs) (hb1:(-1:Int)∉bs) (hwl:f.wires.length<=1600)
  (hpl:∀d∈f.defs,aO f d.2) (hww:nU f) (hdo:aR f.fm) (hin:∀n∈f.ins,ak f.fm n) (hco:de f):
  Calls Tryz.prog 79 #[.pointer (some ⟨D,0,none⟩)] w fun e w'=>e= .returned (.bool (cB (∀n:Nat,n<f.wires.length->dt f n)))/\Below w.heap.size w w':=by
 have hBD:=h.lo
 have hDlt:=h.row.lt
 have hKlt:=hK.lt
 obtain ⟨q0,q1,q2,q3,q4⟩:=h.five
 obtain ⟨Aw,cw,rfl,lw,mw,sw⟩:=h.fl.wires
 obtain ⟨Ad,cd,rfl,ld,md,sd⟩:=h.fl.defs
 refine' zq62
 refine' zq184
 have HFK:=zH (fun W (hW:Below w.heap.size w W)=>h.below hW)
 have HKR:=zH (fun W (hW:Below w.heap.size w W)=>hK.below hW hKlt)
 have HBL:=zH hbl
 have HBY:=zH hby
 have HB1:=zH hb1
 have HPL:=zH hpl
 have HWW:=zH hww
 have HDO:=zH hdo
 have HIN:=zH hin
 have HCO:=zH hco
 have mk1:=yW f.wires.length (by omega) (by omega)
 have mk2:=gQ f.wires.length (by omega) (by omega)
 have b1:Below w.heap.size w (w.alloc (.cells (Array.replicate f.wires.length (.slice none 0 0)) 109)):=bE
 have rH1:ai (w.alloc (.cells (Array.replicate f.wires.length (.slice none 0 0)) 109)) w.heap.size (List.replicate f.wires.length (.slice none 0 0)).toArray 109:=by simpa using ai.new w (Array.replicate f.wires.length (.slice none 0 0)) 109
 clear h hK hbl hby hb1 hpl hww hdo hin hco sw sd
 go_enter Tryz.func79,Tryz.ntmps79
 go_upto_region 3 with (fail)
 generalize w.alloc (.cells (Array.replicate f.wires.length (.slice none 0 0)) 109)=w1 at*
 generalize hH:w.heap.size=H at*
 have hHl1:=rH1.lt
 have HB:Hid (∀W,ae (fun x=>x=H) w1 W->Below H w W):=fun W hW=>b1.trans (hW.below (fun k hk=>by omega) (by omega))
 have HS1:Hid (gV w1 H f 0 (List.replicate f.wires.length (.slice none 0 0))):=gV.zero rH1 (by simp)
 clear q0 q1 q2 q3 q4 rH1
 obtain ⟨q0,q1,q2,q3,q4⟩:=(HFK.o _ b1).five
 go_wp2_with fail
 clear q0 q1 q2 q3 q4 mk1
 go_loopw[29] (fun i wr=>∃(k:Nat) (vs:List Value),k<=f.wires.length/\i= .int .i64 k/\Hid (gV wr H f k vs)/\ae (fun x=>x=H) w1 wr) (fun i _=>f.wires.length-(intOf i).toNat)
 case atStart=>exact ⟨0,_,Nat.zero_le _,rfl,HS1,ae.refl _ _⟩
 case round=>
  clear HS1
  obtain ⟨k,vs,hk,rfl,HS,uH⟩:=hrel
  have hHr:=HS.o.row.lt
  have hrelU:=zH uH
  by_cases hlt:k<f.wires.length
  rotate_left 1
  ·obtain rfl:k=f.wires.length:=by omega
   have rE:=ai.new wr (Array.replicate f.wires.length (.bool false)) 4
   have uE:ae (fun x=>x=wr.heap.size) wr (wr.alloc (.cells (Array.replicate f.wires.length (.bool false)) 4)):=(ae.refl _ _).alloc _
   go_upto_region 16 with (fail)
   generalize hw2:wr.alloc (.cells (Array.replicate f.wires.length (.bool false)) 4)=w2 at*
   clear hw2
   have hA:(Array.replicate f.wires.length (.bool false):Array Value)=(dI (List.replicate f.wires.length false)).toArray:=by rw[qE];simp
   rw[hA] at rE
   clear hA
   have HS2:Hid (∀W,ae (fun x=>x=wr.heap.size) w2 W->gV W H f f.wires.length vs):=fun W hW=>HS.o.upd (Nat.le_refl _) (uE.trans hW)
   have hs1r:=uH.size
   have HFIN:Hid (∀W,ae (fun x=>x=wr.heap.size) w2 W->Below H w W):=fun W hW=>HB.o _ (hrelU.out.trans_new (uE.trans hW) (fun i hi e=>by omega))
   have hEs:H<wr.heap.size:=hHr
   generalize wr.heap.size=E at*
   have HRE:=zH rE
   clear rE uE uH hrelU hlt HS
   go_wp2_with fail
   refine' zq148
   go_loopg [10] (aZ (List.replicate f.wires.length false)+1) (fun q u wr=>∃(ds:List Bool) (bb:Bool),u= .bool bb/\aZ ds+(if bb=true then 1 else 0)<=q/\Hid (kP f ds)/\Hid (bb=false->∀i:Nat,i<f.wires.length->¬dN f ds i)/\ai wr E (dI ds).toArray 4/\ae (fun x=>x=E) w2 wr)
   case atStart=>exact ⟨_,true,rfl,by simp,nz f,(fun h=>by cases h),HRE.o,ae.refl _ _⟩
   case round=>
    clear HRE
    obtain ⟨ds,bb,rfl,hq,HIS,HNR,rE,uE⟩:=hrel
    have HDL:=zH HIS.o.len
    cases bb
    ·have HE:=zH (qW HIN.o (pM HDO.o) (qR HDO.o) (uI HDO.o) HIS.o (HNR.o rfl))
     have HC:Hid (Calls Tryz.prog 69 #[.slice (some ⟨E,0,none⟩) f.wires.length f.wires.length,.bool false] wr fun e w'=>e= .returned (.bool (cB (¬∀b∈ds,b=true)))/\wr=w'):=by
      have:=kM (l:=ds) rE (by rw[HDL.o];exact hwl)
      rw[HDL.o] at this
      exact this
     have HQ:Hid (cB (∀n:Nat,n<f.wires.length->dt f n)= !(cB (¬∀b∈ds,b=true))):=by
      show _=_
      rw[bu HE.o]
      by_cases c:∀b∈ds,b=true
      ·rw[aq c,ab (fun g=>g c)];rfl
      ·rw[ab c,aq c];rfl
     generalize cB (¬∀b∈ds,b=true)=V at*
     clear rE hq
     refine' zq56
     refine' zq163
     exact ⟨aj HQ.o.symm,by rw[hH];exact HFIN.o _ uE⟩
    rw[if_pos rfl] at hq
    have HRr:=zH rE
    have HUr:=zH uE
    clear rE
    go_wp2_with fail
    go_loopw[10,87] (fun u i w3=>∃(j:Nat) (d2:List Bool) (b2:Bool),j<=f.wires.length/\u= .bool b2/\i= .int .i64 j/\Hid (kP f d2)/\Hid (b2=true->aZ d2<aZ ds)/\Hid (b2=false->d2=ds/\∀i:Nat,i<j->¬dN f ds i)/\ai w3 E (dI d2).toArray 4/\ae (fun x=>x=E) w2 w3) (fun _ i _=>f.wires.length-(intOf i).toNat)
    case atStart=>exact ⟨0,ds,false,Nat.zero_le _,rfl,rfl,HIS.o,(fun h=>by cases h),fun _=>⟨rfl,fun i hi=>absurd hi (by omega)⟩,HRr.o,HUr.o⟩
    case round=>
     clear HIS HRr HUr HDL uE HNR
     obtain ⟨j,d2,b2,hj,rfl,rfl,HIS,HT,HF,rE,uE⟩:=hrel
     have HDL:=zH HIS.o.len
     by_cases hlt:j<f.wires.length
     rotate_left 1
     ·refine' zq295
      clear hq
      go_wp2_with fail
      go_roundg (aZ d2+(if b2=true then 1 else 0))
      case measure=>exact HM.o
      case rel=>exact ⟨d2,b2,rfl,Nat.le_refl _,HIS.o,HNR.o,rE,uE⟩
     have hlt':(j:Int)<f.wires.length:=by omega
     have cE:=cU rE (n:=j) (by rw[HDL.o];exact hlt)
     obtain ⟨M,hs,hv,hHM,rM,hml,hmh⟩:=(HS2.o _ uE).ok j hlt
     have cH:wr.cell? ⟨H,j,none⟩=some (.slice (some ⟨M,0,none⟩) f.wires.length f.wires.length):=((HS2.o _ uE).row.cell j).trans (by rw[List.getElem?_toArray];exact hv)
     have HMH:=zH hmh
     have HML:=zH hml
     have HRM:=zH rM
     have HRE:=zH rE
     clear hmh hml rM hv rE
     obtain ⟨rb0,hrb⟩:∃rb0,aL d2 (j:Int)=rb0:=⟨_,rfl⟩
     have HRB:=zH hrb
     rw[hrb] at cE
     clear hrb
     go_wp2_with fail
     obtain ⟨w3,rfl⟩:∃w3:World,w3=wr:=⟨_,rfl⟩
     clear cE cH
     go_loopw[12,100] (fun rv cv w4=>∃(c:Nat) (rb:Bool),c<=f.wires.length/\rv= .bool rb/\cv= .int .i64 c/\Hid (rb=true↔aL d2 (j:Int)=false/\∀c':Nat,c'<c->il f j c'->aL d2 (c':Int)=true)/\w3=w4) (fun _ cv _=>f.wires.length-(intOf cv).toNat)
     case atStart=>exact ⟨0,!rb0,Nat.zero_le _,rfl,rfl,(by show _↔_;rw[HRB.o];cases rb0<;>simp),rfl⟩
     case round=>
      obtain ⟨c,rb,hc,rfl,rfl,HB2,rfl⟩:=hrel
      by_cases hcl:c<f.wires.length
      rotate_left 1
      ·obtain rfl:c=f.wires.length:=by omega
       have HRD:Hid (rb=true↔dN f d2 j):=HB2.o.trans ⟨fun g=>⟨g.1,fun c' hc'=>g.2 c' (by have:=(CT HWW.o hc').2;have h9:(c':Int)<f.wires.length:=this;omega) hc'⟩,fun g=>⟨g.1,fun c' _ hc'=>g.2 c' hc'⟩⟩
       cases rb
       ·have HF':Hid (b2=false->d2=ds/\∀i:Nat,i<j+1->¬dN f ds i):=fun h=>by
         obtain ⟨e,g⟩:=HF.o h
         refine ⟨e,aC g ?_⟩
         rw[<-e]
         exact fun q=>by have:=HRD.o.2 q;cases this
        go_wp2_with fail
        go_roundw
        case rel=>exact ⟨j+1,d2,b2,by omega,rfl,by go_num,HIS.o,HT.o,HF'.o,HRE.o,uE⟩
        case measure=>simp[intOf];omega
       ·have hrd:=HRD.o.1 rfl
        have hjl:(j:Int)<d2.length:=by rw[HDL.o];exact hlt'
        have HIS':Hid (kP f (d2.set j true)):=pC (xM HDO.o) HWW.o HIS.o hlt hrd
        have HT':Hid (aZ (d2.set j true)<aZ ds):=by
         show _<_
         have h1:=nl (ds:=d2) (n:=(j:Int)) (by omega) hjl hrd.1
         simp only[Int.toNat_natCast] at h1
         cases b2
         ·have:=(HF.o rfl).1
          rw[this] at h1⊢
          exact h1
         ·have:=HT.o rfl
          omega
        have fE:=HRE.o.frozen j
        have cE:=cU HRE.o (n:=j) (by rw[HDL.o];exact hlt)
        have rE6:=zH (iH (m:=j) HRE.o true)
        have uE6:=zH (ae.setCell (X:=fun x=>x=E) (p:=⟨E,j,none⟩) uE rfl (.bool true))
        generalize aL d2 (j:Int)=V at cE
        clear hrd hjl
        go_wp2_with fail
        go_roundw
        case rel=>exact ⟨j+1,d2.set j true,true,by omega,rfl,by go_num,HIS'.o,(fun _=>HT'.o),(fun h=>by cases h),rE6.out,uE6.out⟩
        case measure=>simp[intOf];omega
      have hcl':(c:Int)<f.wires.length:=by omega
      have cM:=cU HRM.o (n:=c) (by rw[HML.o];exact hcl)
      have cE:=cU HRE.o (n:=c) (by rw[HDL.o];exact hcl)
      obtain ⟨iv,hiv⟩:∃iv,aL hs (c:Int)=iv:=⟨_,rfl⟩
      obtain ⟨dv,hdv⟩:∃dv,aL d2 (c:Int)=dv:=⟨_,rfl⟩
      have HIV:Hid (il f j c↔iv=true):=by rw[<-hiv];exact (HMH.o c).symm
      have HDV:=zH hdv
      have HN:Hid ((rb && (!iv||dv))=true↔aL d2 (j:Int)=false/\∀c':Nat,c'<c+1->il f j c'->aL d2 (c':Int)=true):=by
       show _↔_
       rw[Bool.and_eq_true,HB2.o]
       constructor
       ·rintro ⟨⟨h1,h2⟩,h3⟩
        refine ⟨h1,aC h2 (fun q=>?_)⟩
        have:=HIV.o.1 q
        rw[this] at h3
        rw[HDV.o]
        simpa using h3
       ·rintro ⟨h1,h2⟩
        refine ⟨⟨h1,fun c' hc'=>h2 c' (by omega)⟩,?_⟩
        cases iv
        ·rfl
        ·have:=h2 c (by omega) (HIV.o.2 rfl)
         rw[HDV.o] at this
         rw[this];rfl
      rw[hiv] at cM
      rw[hdv] at cE
      clear hiv hdv HB2
      cases rb<;>cases iv<;>cases dv
      all_goals
       go_wp2_with fail
       go_roundw
       case rel=>exact ⟨c+1,_,by omega,rfl,by go_num,HN,trivial⟩
       case measure=>simp[intOf];omega
  have hF:=HFK.o _ (HB.o _ uH)
  obtain ⟨q0,q1,q2,q3,q4⟩:=hF.five
  obtain ⟨A',c',he,_,_,sw⟩:=hF.fl.wires
  injection he with he1 he2 he3
  subst he1
  obtain ⟨b,off,x,Ag,cg,hAw,hbB,hx,wx,d0,d1,lg,mg,sg⟩:=sw.wr hlt
  subst hAw
  have HX:=zH hx
  have mg':cg<=9223372036854775807:=by unfold maxLen at mg;omega
  have HSG:=zH sg
  obtain ⟨v0,hv0⟩:∃v,vs[k]? =some v:=⟨_,List.getElem?_eq_getElem (by rw[HS.o.len];exact hlt)⟩
  have r1:=ai.new wr #[.int .i64 x.ty,.slice Ag x.clock.length cg] 52
  have rH:=HS.o.row.alloc (.cells #[.int .i64 x.ty,.slice Ag x.clock.length cg] 52)
  have u4:ae (fun x=>x=H) w1 (wr.alloc (.cells #[.int .i64 x.ty,.slice Ag x.clock.length cg] 52)):=uH.alloc _
  have uw:ae (fun x=>x=H) wr (wr.alloc (.cells #[.int .i64 x.ty,.slice Ag x.clock.length cg] 52)):=(ae.refl _ _).alloc _
  have hHK:K≠H:=by omega
  have hHD:D≠H:=by omega
  clear he2 he3 hx sg sw hF
  go_upto_region 6 with (fail)
  clear d0 d1 q0 q1 q2 q3 q4
  generalize hg:wr.heap.size=g at*
  refine' zq300
  have hgl:=r1.lt
  have hgH:H<g:=by omega
  have hHl4:=rH.lt
  have cH:w4.cell? ⟨H,k,none⟩=some v0:=(rH.cell k).trans (by rw[List.getElem?_toArray];exact hv0)
  have fH:=rH.frozen k
  go_upto_region 7 with (fail)
  have hsz5:(w4.setCell ⟨H,k,none⟩ (.slice (some ⟨w4.heap.size,0,none⟩) f.wires.length f.wires.length)).heap.size=w4.heap.size:=by simp[World.setCell]
  have rM5:=ai.new (w4.setCell ⟨H,k,none⟩ (.slice (some ⟨w4.heap.size,0,none⟩) f.wires.length f.wires.length)) (Array.replicate f.wires.length (.bool false)) 4
  rw[hsz5] at rM5
  have r15:=(r1.far (p:=⟨H,k,none⟩) (by dsimp only;omega) (.slice (some ⟨w4.heap.size,0,none⟩) f.wires.length f.wires.length)).alloc (.cells (Array.replicate f.wires.length (.bool false)) 4)
  have rH5:=(rH.set k (.slice (some ⟨w4.heap.size,0,none⟩) f.wires.length f.wires.length)).alloc (.cells (Array.replicate f.wires.length (.bool false)) 4)
  rw[List.setIfInBounds_toArray] at rH5
  have u5:=(u4.setCell (p:=⟨H,k,none⟩) rfl (.slice (some ⟨w4.heap.size,0,none⟩) f.wires.length f.wires.length)).alloc (.cells (Array.replicate f.wires.length (.bool false)) 4)
  have uw5:=(uw.setCell (p:=⟨H,k,none⟩) rfl (.slice (some ⟨w4.heap.size,0,none⟩) f.wires.length f.wires.length)).alloc (.cells (Array.replicate f.wires.length (.bool false)) 4)
  have hM:H<w4.heap.size:=hHl4
  have hgM:g<w4.heap.size:=hgl
  generalize hw5:(w4.setCell ⟨H,k,none⟩ (.slice (some ⟨w4.heap.size,0,none⟩) f.wires.length f.wires.length)).alloc (.cells (Array.replicate f.wires.length (.bool false)) 4)=w5 at*
  generalize w4.heap.size=M at*
  clear hw5 hsz5 cH fH
  have hwM:wr.heap.size<=M:=by omega
  have hA:(Array.replicate f.wires.length (.bool false):Array Value)=(dI (List.replicate f.wires.length false)).toArray:=by rw[qE];simp
  rw[hA] at rM5
  clear hA
  have hMl:=rM5.lt
  have hF5:=HFK.o _ (HB.o _ u5)
  have cK5:=ik (HKR.o _ (HB.o _ u5)) (m:=k) (by rw[HBL.o];exact hlt)
  obtain ⟨q0,q1,q2,q3,q4⟩:=hF5.five
  have HV:Hid (bs[k]? =some (ao bs (k:Int))):=by
   have hl:k<bs.length:=by rw[HBL.o];exact hlt
   show _=_
   rw[ao,List.getD_eq_getElem?_getD,Int.toNat_natCast,List.getElem?_eq_getElem hl];rfl
  have hby:=HBY.o k _ HV.o
  have HNEG:Hid (ao bs (k:Int)≠-1):=fun e=>HB1.o (by rw[<-e];exact List.mem_of_getElem? HV.o)
  have HUr:Hid (ae (fun x=>x=H) w1 w5):=u5
  have HU5:Hid (∀W,ae (fun x=>x=M) w5 W->ae (fun x=>x=H) wr W):=fun W hW=>uw5.trans_new hW (fun i hi e=>by omega)
  clear uw
  generalize ao bs (k:Int)=V at*
  rcases hby with hv|⟨rfl,hin⟩|⟨j,d,rfl,hd,hdk⟩
  ·exact absurd hv HNEG.o
  ·have HS':Hid (gV w5 H f (k+1) (vs.set k (.slice (some ⟨M,0,none⟩) f.wires.length f.wires.length))):=HS.o.next hlt (HU5.o _ (ae.refl _ _)) rH5 hM rM5 (by simp) (fun c=>⟨fun g=>absurd g (by rw[qT];decide),fun g=>absurd g (Bk HDO.o hin c)⟩)
   clear HV HNEG hin
   go_wp2_with fail
   go_roundw
   case rel=>exact ⟨k+1,_,by omega,by go_num,HS',HUr.o⟩
   case measure=>simp[intOf];omega
  have hjl:=(List.getElem?_eq_some_iff.1 hd).1
  have hjl':(j:Int)<f.defs.length:=by omega
  obtain ⟨A',c',he,_,_,sd⟩:=hF5.fl.defs
  injection he with he1 he2 he3
  subst he1
  obtain ⟨b2,off2,d',A2,c2,hAd,hbB2,hx2,wx2,hok,lg2,mg2,hxs,e0,e1,e2,e3,e4,e5,e6⟩:=sd.df hjl
  obtain rfl:d'=d:=by rw[hd] at hx2;injection hx2 with hx2;exact hx2.symm
  subst hAd
  have hdm:=List.mem_of_getElem? hd
  have HDM:=zH hdm
  have HDK:=zH hdk
  have hmg2:c2<=9223372036854775807:=by unfold maxLen at mg2;omega
  have cH5:w5.cell? ⟨H,k,none⟩=some (.slice (some ⟨M,0,none⟩) f.wires.length f.wires.length):=(rH5.cell k).trans (by rw[List.getElem?_toArray,List.getElem?_set_self (by rw[HS.o.len];exact hlt)])
  have HC:=zH (ug (f:=f) (B:=B) (M:=M) (by omega) d'.2 A2 c2 (List.replicate f.wires.length false) w5.drew (by show B<=w5.heap.size;omega) hok lg2 mg2 (hxs.below ((Below.refl _ _).drew)) (HPL.o _ hdm) (by simp) hwl rM5.drew)
  have hMH:M≠H:=by omega
  have hMg:M≠g:=by omega
  have hMK:M≠K:=by omega
  have hMD:M≠D:=by omega
  clear HV HNEG hd hdk hdm he2 he3 hx2 hok hxs sd hF5 e0
  go_upto_region 8 with (fail)
  go_still_tail 19,(by kernel_rfl)
  change wpList _ _ _ _ _ w5.drew
  refine' zq56
  rintro e w6 ⟨rfl,ms1,hR6,hT6,u6⟩
  have HU6:Hid (ae (fun x=>x=M) w5 w6):=(ae.drew (ae.refl _ w5)).trans u6
  have HR6:=zH hR6
  have HT6:=zH hT6
  have r16:=HU6.o.row r15 (fun q=>hMg q.symm)
  have c16:=r16.two'.2
  have HRH:=zH (fun W (hW:ae (fun x=>x=M) w5 W)=>hW.row rH5 (fun q=>hMH q.symm))
  clear hT6 hR6 u6 rM5 r15 cH5 cK5 q0 q1 q2 q3 q4 e1 e2 e3 e4 e5 e6 uH HUr
  go_wp2_with fail
  clear c16 r16
  refine' zq148
  go_loopw[70] (fun i w7=>∃(m:Nat) (ms2:List Bool),m<=x.clock.length/\i= .int .i64 m/\Hid (ai w7 M (dI ms2).toArray 4)/\Hid (Mt (List.replicate f.wires.length false) (aU d'.2++(x.clock.take m).map (·.wire)) ms2)/\Hid (ae (fun x=>x=M) w5 w7)) (fun i _=>x.clock.length-(intOf i).toNat)
  case atStart=>exact ⟨0,ms1,Nat.zero_le _,rfl,HR6,by simpa using HT6,HU6⟩
  case round=>
   clear HR6 HT6 HU6
   obtain ⟨m,ms2,hm,rfl,HR7,HT7,HU7⟩:=hrel
   have hs7:=HU7.o.size
   by_cases hml:m<x.clock.length
   rotate_left 1
   ·obtain rfl:m=x.clock.length:=by omega
    have HS':Hid (gV wr H f (k+1) (vs.set k (.slice (some ⟨M,0,none⟩) f.wires.length f.wires.length))):=HS.o.next hlt (HU5.o _ HU7.o) (HRH.o _ HU7.o) hM HR7.o (by rw[HT7.o.1];simp) (fun c=>by
     rw[HT7.o.2,qT,AJ HDO.o HDM.o HDK.o HX.o,List.take_length]
     exact ⟨fun g=>g.resolve_left (by decide),.inr⟩)
    have HUr:=zH (hrelU.out.trans (HU5.o _ HU7.o))
    go_wp2_with fail
    go_roundw
    case rel=>exact ⟨k+1,_,by omega,by go_num,HS',HUr.o⟩
    case measure=>simp[intOf];omega
   have hbw:Below B wo wr:=(HU5.o _ HU7.o).below (fun k hk=>by omega) (by omega)
   obtain ⟨bg,og,⟨gw,gno⟩,hAg,hbg,hgg,wg,d0,d1⟩:=(HSG.o.below hbw).gd hml
   subst hAg
   have HGG:=zH hgg
   have hw:=((HCO.o.1 x (List.mem_of_getElem? HX.o)).2 m _ hgg).1
   dsimp only at wg d0 d1 hw
   obtain ⟨n,rfl⟩:=Int.eq_ofNat_of_zero_le hw.1
   have hn:n<f.wires.length:=by have h9:(n:Int)<f.wires.length:=hw.2;omega
   have hn':(n:Int)<f.wires.length:=by omega
   have rg:=ai.new wr #[.int .i64 (n:Int),.bool gno] 61
   have u8:ae (fun x=>x=M) w5 (wr.alloc (.cells #[.int .i64 (n:Int),.bool gno] 61)):=HU7.o.alloc _
   have rM8:=HR7.o.alloc (.cells #[.int .i64 (n:Int),.bool gno] 61)
   clear hgg hw hbw
   go_upto_region 12 with (fail)
   generalize hgz:wr.heap.size=gz at*
   generalize wr.alloc (.cells #[.int .i64 (n:Int),.bool gno] 61)=w8 at*
   clear d0 d1
   obtain ⟨d0,d1⟩:=rg.two'
   have hzl:=rg.lt
   have cH8:w8.cell? ⟨H,k,none⟩=some (.slice (some ⟨M,0,none⟩) f.wires.length f.wires.length):=((HRH.o _ u8).cell k).trans (by rw[List.getElem?_toArray,List.getElem?_set_self (by rw[HS.o.len];exact hlt)])
   have hl2:ms2.length=f.wires.length:=by rw[HT7.o.1];simp
   have cM8:=cU rM8 (n:=n) (by rw[hl2];exact hn)
   have fM8:=rM8.frozen n
   have rM9:=zH (iH (m:=n) rM8 true)
   have u9:=zH (ae.setCell (X:=fun x=>x=M) (p:=⟨M,n,none⟩) u8 rfl (.bool true))
   have HT9:Hid (Mt (List.replicate f.wires.length false) (aU d'.2++(x.clock.take (m+1)).map (·.wire)) (ms2.set n true)):=by
    have:=pV HT7.o (xG (ms:=ms2) (n:=(n:Int)) (by omega) (by rw[hl2];exact hn'))
    rw[bj HGG.o,List.map_append,<-List.append_assoc]
    exact this
   generalize aL ms2 (n:Int)=V at cM8
   clear hl2 rM8 u8
   go_region
   go_wp2_with fail
   go_roundw
   case rel=>exact ⟨m+1,ms2.set n true,by omega,by go_num,rM9.out.drew,HT9,u9.out.drew⟩
   case measure=>simp[intOf];omega
end Go.Proofs.YtckognjamlckcaaGreatDoor
