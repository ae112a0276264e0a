/-
  The typer in memory; what is noted of a fault, and of a name that is to be a Bool's: the contracts of types' bad, need and truth. The type of an expression: the contracts of types' parts, call and of. The type of a call: the contract of types' call.
-/
import Derived.Test.YtdkgkacnjdnpoaaGreatZz
import Derived.Test.YtdkgkacnjdnpoaaGreatTyP
import Derived.Test.YtdkgkacnjdnpoaaGreatScG
import Derived.Deep.RegionHeld3
import Derived.StillTailTactics
set_option maxHeartbeats 1000000
set_option maxRecDepth 100000
namespace Go.Proofs.YtdkgkacnjdnpoaaGreat
open Go.RowKit
attribute [local go_sem ↓] Go.wp_at_zero Go.wp_at_succ
theorem Upd.cellk {X:Nat→Prop} {w w':World} (h:Upd X w w') {p:Addr} (hp:p.block<w.heap.size) (hX:¬X p.block):w'.cell? p=w.cell? p:=World.cell?_of_block (h.block p.block hp hX)
structure Tp where
 s:List Nd
 A:Option Addr
 cap:Nat
 n:Nd
 a:NdA
abbrev tpArr (T:Tp) (f:Ft):Array Value:= #[.slice T.A T.s.length T.cap,.string T.n.name,.slice T.a.ai T.n.ins.length T.a.ci,.slice T.a.ao T.n.outs.length T.a.co,.slice T.a.av T.n.vars.length T.a.cv,.slice T.a.aq T.n.eqs.length T.a.cq,.int .i64 T.n.line,.int .i64 T.n.col,.int .i64 f.err,.int .i64 f.line,.int .i64 f.col]
abbrev TpRow (W:World) (g:Nat) (T:Tp) (f:Ft):Prop:=Row W g (tpArr T f) 180
structure TpAt (W:World) (B g:Nat) (T:Tp) (f:Ft):Prop where
 row:TpRow W g T f
 lo:B≤g
 n:NdAt W B T.n T.a
 s:Nds W B T.A T.s
 hl:(vrs T.n).length≤10000
 lc:T.s.length≤T.cap
 mc:T.cap≤maxLen
 fz:Fz f
def TpL (w:World) (B g:Nat) (T:Tp) (f:Ft) (w':World):Prop:=TpAt w' B g T f∧UpdM g w w'
section
variable {W W':World} {B g:Nat} {T:Tp} {f f':Ft}
theorem TpAt.size (h:TpAt W B g T f):B≤W.heap.size:=by have:=h.row.lt;have:=h.lo;omega
theorem UpdM.bel (h:UpdM g W W') (hB:B≤g) (hs:B≤W.heap.size):Below B W W':=Upd.below h (fun _ e=>e▸hB) hs
theorem TpAt.step (h:TpAt W B g T f) (hr:TpRow W' g T f') (hu:UpdM g W W') (hz:Fz f'):TpAt W' B g T f':=
 have hb:=hu.bel h.lo h.size
 ⟨hr,h.lo,h.n.below hb,nds_keep h.s (keeps_of hb) (Nat.le_refl _),h.hl,h.lc,h.mc,hz⟩
theorem TpAt.bel (h:TpAt W B g T f) (hb:Below W.heap.size W W'):TpAt W' B g T f:=h.step (h.row.below hb h.row.lt) (UpdM.of hb) h.fz
theorem TpAt.ndw (h:TpAt W B g T f):NdAt W W.heap.size T.n T.a:=h.n.more h.size
theorem TpAt.lt (h:TpAt W B g T f):g<W.heap.size:=h.row.lt
theorem Row.upd (hu:UpdM g W W') {b:Nat} {cs:Array Value} {t:TypeId} (hr:Row W b cs t) (hne:b≠g):Row W' b cs t:=Upd.row hu hr hne
theorem Row.tp {t:TypeId} (h:Row W g (tpArr T f) t):(W.cell? ⟨g,0,none⟩=some (.slice T.A T.s.length T.cap)∧W.cell? ⟨g,1,none⟩=some (.string T.n.name)∧W.cell? ⟨g,2,none⟩=some (.slice T.a.ai T.n.ins.length T.a.ci)∧W.cell? ⟨g,3,none⟩=some (.slice T.a.ao T.n.outs.length T.a.co)∧
  W.cell? ⟨g,4,none⟩=some (.slice T.a.av T.n.vars.length T.a.cv)∧W.cell? ⟨g,5,none⟩=some (.slice T.a.aq T.n.eqs.length T.a.cq)∧W.cell? ⟨g,6,none⟩=some (.int .i64 T.n.line)∧W.cell? ⟨g,7,none⟩=some (.int .i64 T.n.col))∧
  (W.cell? ⟨g,8,none⟩=some (.int .i64 f.err)∧W.cell? ⟨g,9,none⟩=some (.int .i64 f.line)∧W.cell? ⟨g,10,none⟩=some (.int .i64 f.col)):=
 ⟨⟨(h.cell 0).trans rfl,(h.cell 1).trans rfl,(h.cell 2).trans rfl,(h.cell 3).trans rfl,(h.cell 4).trans rfl,(h.cell 5).trans rfl,(h.cell 6).trans rfl,(h.cell 7).trans rfl⟩,(h.cell 8).trans rfl,(h.cell 9).trans rfl,(h.cell 10).trans rfl⟩
theorem tp_set {t:TypeId} (h:Row W g (tpArr T f) t) (e l c:Int):Row (((W.setCell ⟨g,8,none⟩ (.int .i64 e)).setCell ⟨g,9,none⟩ (.int .i64 l)).setCell ⟨g,10,none⟩ (.int .i64 c)) g (tpArr T ⟨e,l,c⟩) t:=by
 have:=((h.set 8 (.int .i64 e)).set 9 (.int .i64 l)).set 10 (.int .i64 c)
 simpa using this
theorem upd_set (h:UpdM g W W') (y0 y1 y2:Value):UpdM g W (((W'.setCell ⟨g,8,none⟩ y0).setCell ⟨g,9,none⟩ y1).setCell ⟨g,10,none⟩ y2):=
 Upd.setCell (Upd.setCell (Upd.setCell h (p:=⟨g,8,none⟩) rfl y0) (p:=⟨g,9,none⟩) rfl y1) (p:=⟨g,10,none⟩) rfl y2
end
def badB (f:Ft):Bool:=f.err !=0
theorem bad_any (T:Tp) (f:Ft) (g:Nat) (w:World) (h:TpRow w g T f) (hz:Fz f):
  Calls Tryz.prog 100 #[.pointer (some ⟨g,0,none⟩)] w fun r w'=>r= .returned (.bool (badB f))∧w=w':=by
 obtain ⟨-,t8,t9,t10⟩:=h.tp
 by_cases hf:f.err=0
 ·obtain rfl:=hz hf
  clear hf
  go_enter Tryz.func100,Tryz.ntmps100
  go_wp2_with fail
  go_ret
  exact ⟨rfl,rfl⟩
 ·have hn:=neq_yes hf
  have he:(f.err==0)=false:=by rw[beq_eq_false_iff_ne];exact hf
  have HB:Hid (badB f=true):=hn
  clear hf
  go_enter Tryz.func100,Tryz.ntmps100
  go_wp2_with fail
  go_ret
  exact ⟨ret_bool HB.out.symm,rfl⟩
theorem need_any (T:Tp) (f:Ft) (B g:Nat) (b:Bool) (l c:Int) (w:World) (h:TpAt w B g T f):
  Calls Tryz.prog 142 #[.pointer (some ⟨g,0,none⟩),.bool b,.agg #[.int .i64 l,.int .i64 c]] w fun r w'=>r= .returned (.tuple #[])∧TpL w B g T (ft2 f (needF b l c)) w':=by
 refine' zq52
 have hr:=h.row.below b1 h.row.lt
 have HU:Hid (UpdM g w (w.alloc (.cells #[.int .i64 l,.int .i64 c] 36))):=UpdM.of b1
 have H:=Lib.hid h
 clear h
 cases b
 ·have HBD:=Lib.hid (bad_any T f g _ hr H.out.fz)
  obtain ⟨p0,p1⟩:=(show (w.alloc (.cells #[.int .i64 l,.int .i64 c] 36)).cell? ⟨w.heap.size,0,none⟩=some (.int .i64 l)∧(w.alloc (.cells #[.int .i64 l,.int .i64 c] 36)).cell? ⟨w.heap.size,1,none⟩=some (.int .i64 c) from ⟨(rp.cell 0).trans rfl,(rp.cell 1).trans rfl⟩)
  have z8:=hr.frozen 8
  have z9:=hr.frozen 9
  have z10:=hr.frozen 10
  obtain ⟨-,t8,t9,t10⟩:=hr.tp
  have HS:=Lib.hid (tp_set hr 28 l c)
  have HRW:=Lib.hid hr
  go_enter Tryz.func142,Tryz.ntmps142
  go_upto_region 1 with (fail)
  clear rp b1 hr
  generalize w.alloc (.cells #[.int .i64 l,.int .i64 c] 36)=W1 at*
  by_cases hf:f.err=0
  ·have HE:Hid (ft2 f (needF false l c)=⟨28,l,c⟩):=by show _=_;rw[ft2_0 hf,need_no]
   obtain rfl:=H.out.fz hf
   clear hf
   go_wp2_with fail
   refine HBD.out.mono ?_
   rintro r w2 ⟨rfl,rfl⟩
   go_wp2_with fail
   go_end0
   rw[HE.out]
   exact ⟨rfl,H.out.step HS.out (upd_set HU.out _ _ _) (fun g=>absurd g (by show ¬(28:Int)=0;decide)),upd_set HU.out _ _ _⟩
  ·have HE:Hid (ft2 f (needF false l c)=f):=ft2_1 hf
   have HB:Hid (badB f=true):=neq_yes hf
   clear hf
   go_wp2_with fail
   refine HBD.out.mono ?_
   rintro r w2 ⟨rfl,rfl⟩
   rw[HB.out]
   go_wp2_with fail
   go_end0
   rw[HE.out]
   exact ⟨rfl,H.out.step HRW.out HU.out H.out.fz,HU.out⟩
 ·have HE:Hid (ft2 f (needF true l c)=f):=ft2_zero H.out.fz
  have HR:Hid (TpRow (w.alloc (.cells #[.int .i64 l,.int .i64 c] 36)) g T f):=hr
  go_enter Tryz.func142,Tryz.ntmps142
  go_wp2_with fail
  go_end0
  rw[HE.out]
  exact ⟨rfl,H.out.step HR.out HU.out H.out.fz,HU.out⟩
theorem truth_any (T:Tp) (f:Ft) (B g:Nat) (nm:ByteArray) (l c:Int) (w:World) (h:TpAt w B g T f):
  Calls Tryz.prog 98 #[.pointer (some ⟨g,0,none⟩),.string nm,.agg #[.int .i64 l,.int .i64 c]] w fun r w'=>r= .returned (.tuple #[])∧TpL w B g T (ft2 f (needF (tyOf T.n nm==2) l c)) w':=by
 refine' zq52
 have H1:=Lib.hid (h.bel b1)
 have hl:=h.lt
 clear h
 go_enter Tryz.func98,Tryz.ntmps98
 go_upto_region 1 with (fail)
 generalize w.alloc (.cells #[.int .i64 l,.int .i64 c] 36)=W1 at*
 have hs1:=b1.size
 obtain ⟨⟨t0,t1,t2,t3,t4,t5,t6,t7⟩,-⟩:=H1.out.row.tp
 have HV:=Lib.hid (svar1_any T.n T.a nm W1 H1.out.ndw H1.out.hl)
 go_wp2_with fail
 refine HV.out.mono ?_
 rintro r w2 ⟨⟨x,A',cap',rfl,HY,HNo⟩,hb2⟩
 have HX:Hid (x.ty=tyOf T.n nm):=by
  show _=_
  by_cases hm:nm∈nms (vrs T.n)
  ·obtain ⟨k,h1,h2,_⟩:=HY.out hm
   exact (ty_at h1 h2).symm
  ·obtain ⟨rfl,_,_⟩:=HNo.out hm
   rw[ty_no hm]
 obtain ⟨bv,HBV⟩:∃bv,Hid (cB (nm∈nms (vrs T.n))=bv):=⟨_,rfl⟩
 rw[HBV.out]
 clear HY HNo HBV HV t0 t1 t2 t3 t4 t5 t6 t7
 have H2:=Lib.hid (H1.out.bel hb2)
 have b2:=b1.trans (hb2.mono hs1)
 have hs2:=b2.size
 have rp2:=rp.below hb2 rp.lt
 have bx:Below w2.heap.size w2 (w2.alloc (.cells (vrArr x A' cap') 103)):=(by repeat (first|(with_reducible assumption)|(with_reducible exact Below.refl _ _)|(with_reducible refine Below.drew ?_)|(with_reducible refine below_drewN' ?_ _)|(with_reducible refine Below.alloc ?_ (by first|assumption|omega|(simp;omega)|simp|(simp[World.setCell];omega)|simp[World.setCell]) _)|(with_reducible refine Below.setCell ?_ (by first|assumption|omega|(simp;omega)|simp|(simp[World.setCell];omega)|simp[World.setCell]) _)))
 have rx:=Row.new w2 (vrArr x A' cap') 103
 go_upto_region 2 with (fail)
 generalize w2.alloc (.cells (vrArr x A' cap') 103)=w3 at*
 have H3:=Lib.hid (H2.out.bel bx)
 have b3:=b2.trans (bx.mono hs2)
 have rp3:=rp2.below bx rp2.lt
 obtain ⟨d0,d1,d2,d3,d4⟩:=rx.vr
 have p0:=(rp3.cell 0).trans rfl
 have p1:=(rp3.cell 1).trans rfl
 obtain ⟨bt,HBT⟩:∃bt,Hid ((x.ty==2)=bt):=⟨_,rfl⟩
 have q0:(x.ty==2)=bt:=HBT.out
 have HN:=Lib.hid (need_any T f B g bt l c w3 H3.out)
 have HU:Hid (UpdM g w w3):=UpdM.of b3
 have HE:Hid (bt=(tyOf T.n nm==2)):=by show _=_;rw[←HX.out];exact q0.symm
 go_wp2_with fail
 refine HN.out.mono ?_
 rintro r w4 ⟨rfl,h4⟩
 go_wp2_with fail
 go_end0
 rw[←HE.out]
 exact ⟨rfl,h4.1,Upd.trans HU.out h4.2⟩
def intsV (l:List Int):List Value:=l.map (.int .i64)
theorem intsV_snoc (l:List Int) (x:Int):intsV (l++ [x])=intsV l++ [.int .i64 x]:=by simp[intsV]
theorem own_upd {w w':World} {base g:Nat} {e:TypeId} {size n:Nat} {v:Value} {xs:List Value} (h:w.ownsRow base e size v n xs) (hu:UpdM g w w') (hg:g<base):w'.ownsRow base e size v n xs:=by
 refine ⟨h.1,?_⟩
 rcases h.2 with h0|⟨g',c,cur,h1,h2,h3,h4⟩
 ·exact .inl h0
 ·exact .inr ⟨g',c,cur,h1,h2,(hu.block g' (Array.getElem?_eq_some_iff.1 h3).1 (by omega)).trans h3,h4⟩
theorem upd_own {w w':World} {a:World} {base g:Nat} {e:TypeId} {size n:Nat} {v:Value} {xs:List Value} (h:UpdM g a w) (ho:w.ownsRow base e size v n xs) (hg:w.grownBy w' v.ownBlock) (hb:a.heap.size≤base):UpdM g a w':=
 ⟨hg.os.trans h.os,hg.tape.trans h.tape,hg.output.trans h.output,Nat.le_trans h.size hg.size,fun k hk hX=>(hg.block k (Nat.lt_of_lt_of_le hk h.size) (fun e=>by have:=(ho.lt k e.symm).1;omega)).trans (h.block k hk hX)⟩
def OfR (w:World) (B g:Nat) (T:Tp) (f:Ft) (x:Ex) (r:Ending) (w':World):Prop:=
 (∃k:Int,r= .returned (.int .i64 k)∧Hid ((ft2 f (tyF T.s T.n x)).err=0→k=tyK T.s T.n x))∧TpL w B g T (ft2 f (tyF T.s T.n x)) w'
def OfC (B g:Nat) (T:Tp) (x:Ex):Prop:=∀(f:Ft) (A:Option Addr) (cap:Nat) (w:World),TpAt w B g T f→ExOk x→x.args.length≤cap→cap≤maxLen→IsExs w B A x.args→TyKn T.s T.n x→
 Calls Tryz.prog 143 #[.pointer (some ⟨g,0,none⟩),exV x A cap] w (OfR w B g T f x)
def IntsO (base:Nat) (w:World) (v:Value) (l:List Int):Prop:=w.ownsRow base 3 1 v l.length (intsV l)
theorem fstl_take {l:List Ft} {k:Nat} (h:(fstl (l.take k)).err≠0):fstl l=fstl (l.take k):=by
 conv=>lhs;rw[←List.take_append_drop k l]
 rw[fstl_append,if_neg h]
theorem acc_stop {f:Ft} {l:List Ft} {k:Nat} (h:(accF f l k).err≠0):accF f l k=ft2 f (fstl l):=by
 unfold accF at h⊢
 by_cases hf:f.err=0
 ·rw[ft2_0 hf] at h
  rw[ft2_0 hf,ft2_0 hf,fstl_take h]
 ·rw[ft2_1 hf,ft2_1 hf]
theorem TpAt.low {W W':World} {B C g:Nat} {T:Tp} {f:Ft} (h:TpAt W B g T f) (hb:Below C W W') (hC:g<C):TpAt W' B g T f:=
 have hB:=hb.mono (show B≤C by have:=h.lo;omega)
 ⟨h.row.below hb hC,h.lo,h.n.below hB,nds_keep h.s (keeps_of hB) (Nat.le_refl _),h.hl,h.lc,h.mc,h.fz⟩
theorem make_ints (n:Int) (h0:0≤n) (h1:n≤1600) (W:World):(Instr.makeSlice 34 (.int .i64 n) (.int .i64 n)).run Tryz.prog W= .ok (.slice (some ⟨W.heap.size,0,none⟩) n.toNat n.toNat) (W.alloc (.cells (madeCells (Value.cells (.int .i64 0)) (n.toNat*1)) 3)):=by
 refine' zq125
 rw[run_make (P:=Tryz.prog) W 34 3 i0 (.int .i64 0) rfl hi0 hz0 .i64 .i64 n n h0 (Int.le_refl _) (by rw[hz2];omega) (by omega),hz1]
theorem argKs_len (s:List Nd) (n:Nd) (e:Ex):(argKs s n e).length=e.args.length:=by unfold argKs;exact List.length_map _
theorem argFs_len (s:List Nd) (n:Nd) (e:Ex):(argFs s n e).length=e.args.length:=by unfold argFs;exact List.length_map _
theorem parts_tany (T:Tp) (B g:Nat) (e:Ex) (hi:∀x∈e.args,OfC B g T x) (f:Ft) (A:Option Addr) (cap:Nat) (w:World) (h:TpAt w B g T f) (hm:cap≤maxLen) (hx:IsExs w B A e.args) (hk:TyKn T.s T.n e) (h8:e.args.length≤8):
  Calls Tryz.prog 180 #[.pointer (some ⟨g,0,none⟩),exV e A cap] w fun r w'=>(∃v,r= .returned v∧Hid ((ft2 f (fstl (argFs T.s T.n e))).err=0→IntsO w.heap.size w' v (argKs T.s T.n e)))∧TpL w B g T (ft2 f (fstl (argFs T.s T.n e))) w':=by
 refine' zq125
 refine' zq23
 have H1:=Lib.hid (h.bel b1)
 refine' zq130
 have HFZ:=Lib.hid h.fz
 have HI:=Lib.hid hi
 have HKN:=Lib.hid hk
 have HU1:Hid (UpdM g w (w.alloc (.cells (exA e A cap) 63))):=UpdM.of b1
 have mk:=fun W=>make_ints (e.args.length:Int) (by omega) (by omega) W
 have hm':cap≤9223372036854775807:=by unfold maxLen at hm;omega
 have hsw:(w.alloc (.cells (exA e A cap) 63)).heap.size=w.heap.size+1:=by simp
 clear h hx hi hk
 go_enter Tryz.func180,Tryz.ntmps180
 go_upto_region 2 with (fail)
 generalize w.alloc (.cells (exA e A cap) 63)=W1 at*
 have hs1:=b1.size
 obtain ⟨x0,x1,x2,x3,x4,x5⟩:=re1.ex6
 go_wp2_with fail
 clear x0 x1 x2 x3 x4 x5
 go_loopw[5,11] (fun v i wr=>∃k:Nat,k≤e.args.length∧i= .int .i64 k∧wr.ownsRow (w.heap.size+1) 3 1 v k (intsV ((argKs T.s T.n e).take k))∧Hid (0<k→(accF f (argFs T.s T.n e) k).err=0)∧TpL W1 B g T (accF f (argFs T.s T.n e) k) wr) (fun _ i _=>e.args.length-(intOf i).toNat)
 case atStart=>exact ⟨0,Nat.zero_le _,rfl,World.ownsRow_nil _ _ _ _,fun h=>absurd h (Nat.lt_irrefl 0),by rw[acc_0 HFZ.out];exact H1.out,Upd.refl _ _⟩
 case round=>
  obtain ⟨k,hk,rfl,hown,HZ,ht,hu⟩:=hrel
  refine' zq163
  have re:=Row.upd hu re1 (by omega)
  clear ht hu
  by_cases hlt:k<e.args.length
  ·obtain ⟨b,off,x,A',cap',rfl,hb,hxk,hxm,hok',hcap',hmax',hx',d0,d1,d2,d3,d4,d5⟩:=(HX.out wr (UpdM.bel (Upd.trans HU1.out HU.out) hlo hsB)).at_ hlt
   have bx:Below wr.heap.size wr (wr.alloc (.cells (exA x A' cap') 63)):=(by repeat (first|(with_reducible assumption)|(with_reducible exact Below.refl _ _)|(with_reducible refine Below.drew ?_)|(with_reducible refine below_drewN' ?_ _)|(with_reducible refine Below.alloc ?_ (by first|assumption|omega|(simp;omega)|simp|(simp[World.setCell];omega)|simp[World.setCell]) _)|(with_reducible refine Below.setCell ?_ (by first|assumption|omega|(simp;omega)|simp|(simp[World.setCell];omega)|simp[World.setCell]) _)))
   have ho2:=hown.alloc (.cells (exA x A' cap') 63)
   have HT2:=Lib.hid (HT.out.bel bx)
   have HU2:=Lib.hid (Upd.trans HU.out (UpdM.of (bm:=g) bx))
   have re2:=re.below bx re.lt
   have rx2:=Row.new wr (exA x A' cap') 63
   have HC:=Lib.hid (HI.out x hxm _ A' cap' _ HT2.out hok' hcap' hmax' (hx'.below (bx.mono (by omega))) (HKN.out.sub hxm))
   have HACC:Hid (ft2 (accF f (argFs T.s T.n e) k) (tyF T.s T.n x)=accF f (argFs T.s T.n e) (k+1)):=(acc_succ (by unfold argFs;rw[List.getElem?_map,hxk];rfl) tyF_fz).symm
   have HTK:Hid ((argKs T.s T.n e).take (k+1)=(argKs T.s T.n e).take k++ [tyK T.s T.n x]):=by
    show _=_
    unfold argKs
    rw[List.take_add_one,List.getElem?_map,hxk];rfl
   clear hxk hxm hok' hcap' hx'
   have hsw2:(wr.alloc (.cells (exA x A' cap') 63)).heap.size=wr.heap.size+1:=by simp
   go_upto_region 5 with (fail)
   clear d0 d1 d2 d3 d4 d5
   generalize hW2:wr.alloc (.cells (exA x A' cap') 63)=w2 at*
   clear hW2
   obtain ⟨y0,y1,y2,y3,y4,y5⟩:=rx2.ex6
   go_wp2_with fail
   refine HC.out.mono ?_
   rintro r w3 ⟨⟨k3,rfl,HK3⟩,ht3,hu3⟩
   have hown3:=own_upd ho2 hu3 (by omega)
   rw[HACC.out] at HK3 ht3
   have hs3:=hu3.size
   have re3:=Row.upd hu3 re2 (by omega)
   have HT3:=Lib.hid ht3
   have HU3:=Lib.hid (Upd.trans HU2.out hu3)
   clear ht3 hu3 y0 y1 y2 y3 y4 y5
   go_wp2_with (at_builtin;refine wpList_append_own _ rfl _ _ 34 rfl (w.heap.size+1) 3 i0 (.int .i64 0) 1 8 Tryz.underlying34 hi0 hz0 hz1 hz2 rfl (by decide) _ _ _ rfl (hown3.alloc _) ⟨w3.heap.size,0,none⟩ 1 1 [.int .i64 k3] rfl rfl ?c1 ?c2 ?c3 ?c4 ?c5 ?_)
   case c1=>exact cell_one _ _ _
   case c2=>simp[Value.oneCell']
   case c3=>unfold maxLen;omega
   case c4=>omega
   case c5=>simp;omega
   intro v' w4 hown4 hg4 _
   have hb4:Below (w.heap.size+1) w3 w4:=below_own ((Below.refl _ _).alloc (by omega) _) (hown3.alloc _) hg4 (by simp;omega)
   have HU4:Hid (UpdM g W1 w4):=upd_own (Upd.alloc HU3.out _) (hown3.alloc _) hg4 (by omega)
   have HT4:=Lib.hid (HT3.out.low hb4 (by omega))
   have re4:=re3.below hb4 (by omega)
   clear hown hown3 ho2 hg4 re re2 re3 rx2
   have HBD:=Lib.hid (bad_any T _ g w4 HT4.out.row HT4.out.fz)
   obtain ⟨x0,x1,x2,x3,x4,x5⟩:=re4.ex6
   by_cases hbad:(accF f (argFs T.s T.n e) (k+1)).err=0
   ·have HB:Hid (badB (accF f (argFs T.s T.n e) (k+1))=false):=neq_no hbad
    have HK4:Hid (k3=tyK T.s T.n x):=HK3.out hbad
    have HBB:=Lib.hid hbad
    clear hbad
    go_wp2_with fail
    refine HBD.out.mono ?_
    rintro r w5 ⟨rfl,rfl⟩
    rw[HB.out]
    have hown5:w4.ownsRow (w.heap.size+1) 3 1 v' (k+1) (intsV ((argKs T.s T.n e).take (k+1))):=by rw[HTK.out,intsV_snoc,←HK4.out];exact hown4
    clear x0 x1 x2 x3 x4 x5 hown4
    go_wp2_with fail
    go_roundw
    case rel=>exact ⟨k+1,by omega,by go_num,hown5,fun _=>HBB.out,HT4.out,HU4.out⟩
    case measure=>first|(simp[intOf];omega)|simp[intOf]
   ·have HB:Hid (badB (accF f (argFs T.s T.n e) (k+1))=true):=neq_yes hbad
    have HBB:=Lib.hid hbad
    have HST:=Lib.hid (acc_stop hbad)
    clear hbad
    go_wp2_with fail
    refine HBD.out.mono ?_
    rintro r w5 ⟨rfl,rfl⟩
    rw[HB.out]
    have mk4:=mk w4
    go_wp2_with fail
    go_ret
    rw[←HST.out]
    exact ⟨⟨_,rfl,fun g=>absurd g HBB.out⟩,HT4.out.bel (by first|exact Below.alloc (Below.refl _ _) (Nat.le_refl _) _),Upd.trans HU1.out (Upd.alloc HU4.out _)⟩
  ·obtain rfl:k=e.args.length:=by omega
   have HE:Hid (accF f (argFs T.s T.n e) e.args.length=ft2 f (fstl (argFs T.s T.n e))):=by
    show _=_
    have:=acc_all (f:=f) (l:=argFs T.s T.n e)
    rwa [argFs_len] at this
   go_wp2_with fail
   go_ret
   refine ⟨⟨_,rfl,fun _=>?_⟩,by rw[←HE.out];exact HT.out,Upd.trans HU1.out HU.out⟩
   unfold IntsO
   rw[argKs_len]
   have h2:(argKs T.s T.n e).take e.args.length=argKs T.s T.n e:=List.take_of_length_le (by rw[argKs_len];exact Nat.le_refl _)
   rw[h2] at hown
   exact own_base hown (by omega)
theorem find_lo (s:List Nd) (m:Nat) (A:Option Addr) (cap:Nat) (nm:ByteArray) (w:World) (B:Nat) (hBw:B≤w.heap.size) (hm:s.length=m) (h1:m≤cap) (h2:cap≤maxLen) (h:Nds w B A s):
  Calls Tryz.prog 37 #[.agg #[.slice A m cap],.string nm] w fun e w'=>(∃(n:Nd) (a:NdA),e= .returned (.tuple #[ndV n a,.bool (cB (nm∈s.map Nd.name))])∧Hid (nm∈s.map Nd.name→nodeAt s nm=some n∧NdAt w' B n a)∧Hid (nm∉s.map Nd.name→n=nd0∧a=nda0))∧Below w.heap.size w w':=by
 refine' zq81
 have b1:Below w.heap.size w ((w.alloc (.cells #[.slice A s.length cap] 24)).alloc (.cells ndZ 58)):=(by repeat (first|(with_reducible assumption)|(with_reducible exact Below.refl _ _)|(with_reducible refine Below.drew ?_)|(with_reducible refine below_drewN' ?_ _)|(with_reducible refine Below.alloc ?_ (by first|assumption|omega|(simp;omega)|simp|(simp[World.setCell];omega)|simp[World.setCell]) _)|(with_reducible refine Below.setCell ?_ (by first|assumption|omega|(simp;omega)|simp|(simp[World.setCell];omega)|simp[World.setCell]) _)))
 have HS:=Lib.hid (nds_keep h (keeps_of (b1.mono hBw)) (Nat.le_refl _))
 refine' zq36
 go_loopw[11] (fun i wr=>∃k:Nat,k≤s.length∧i= .int .i64 k∧Hid (∀j,j<k→∀x,s[j]? =some x→x.name≠nm)∧Below W1.heap.size W1 wr) (fun i _=>s.length-(intOf i).toNat)
 case atStart=>exact ⟨0,Nat.zero_le _,rfl,fun j h=>absurd h (by omega),Below.refl _ _⟩
 case round=>
  refine' zq94
  by_cases hlt:k<s.length
  ·obtain ⟨b,off,n,a,rfl,hb,hn,hat,d0,d1,d2,d3,d4,d5,d6⟩:=(nds_keep HS.out (keeps_of ((hbr.mono hs1).mono hBw)) (Nat.le_refl _)).nd hlt
   refine' zq18
  ·refine' zq16
def IntR (w:World) (g q:Nat) (l:List Int):Prop:=g<q∧q<w.heap.size∧∀(i:Nat) x,l[i]? =some x→w.cell? ⟨q,i,none⟩=some (.int .i64 x)
theorem IntR.upd {w w':World} {g q:Nat} {l:List Int} (h:IntR w g q l) (hu:UpdM g w w'):IntR w' g q l:=
 ⟨h.1,Nat.lt_of_lt_of_le h.2.1 hu.size,fun i x hi=>(Upd.cellk hu (p:=⟨q,i,none⟩) h.2.1 (fun e=>by have h1:=h.1;have h2:q=g:=e;omega)).trans (h.2.2 i x hi)⟩
theorem ints_rd {base g:Nat} {w:World} {v:Value} {l:List Int} (h:IntsO base w v l) (hb:g<base) (h1:1≤l.length):∃q c,v= .slice (some ⟨q,0,none⟩) l.length c∧l.length≤c∧c≤maxLen∧IntR w g q l:=by
 obtain ⟨q,c,rfl⟩:=own_some h (by omega)
 obtain ⟨A,c',he,hc,hm,hr⟩:=own_rd h
 injection he with hA hn hcc
 subst hA
 subst hcc
 have hlt:=World.ownsRow.lt h q rfl
 refine ⟨q,c,rfl,hc,hm,by omega,hlt.2,fun i x hi=>?_⟩
 obtain ⟨ad,e,hbk,hc⟩:=hr.2 (by omega)
 injection e with e
 subst e
 have h3:=hc i (.int .i64 x) (by unfold intsV;rw[List.getElem?_map,hi];rfl)
 have h4:(⟨q,0,none⟩:Addr).add i=⟨q,i,none⟩:=by
  by_cases h0:i=0
  ·subst h0;simp[Addr.add]
  ·simp[Addr.add,h0]
 rwa [h4] at h3
theorem node_in {s:List Nd} {nm:ByteArray} {m:Nd} (h:nodeAt s nm=some m):nm∈s.map Nd.name:=Classical.byContradiction fun g=>by
 rw[nodeAt_none.2 g] at h
 cases h
theorem call_tany (T:Tp) (B g:Nat) (e:Ex) (m:Nd) (hm:nodeAt T.s e.name=some m) (hlen:m.ins.length=e.args.length) (hout:1≤m.outs.length) (f:Ft) (A:Option Addr) (cap q c:Nat) (l:List Int) (w:World) (h:TpAt w B g T f)
  (hcap:cap≤maxLen) (hx:IsExs w B A e.args) (hl:l.length=e.args.length) (hc2:c≤maxLen) (hq:IntR w g q l) (h8:e.args.length≤8):
  Calls Tryz.prog 181 #[.pointer (some ⟨g,0,none⟩),exV e A cap,.slice (some ⟨q,0,none⟩) l.length c] w fun r w'=>r= .returned (.int .i64 (outTy m))∧TpL w B g T (ft2 f (fstl (callFs m e l))) w':=by
 refine' zq23
 have H1:=Lib.hid (h.bel b1)
 refine' zq130
 have HFZ:=Lib.hid h.fz
 have HQ:=Lib.hid hq
 have HLEN:=Lib.hid hlen
 have HM:=Lib.hid hm
 have HLL:=Lib.hid hl
 have HU1:Hid (UpdM g w (w.alloc (.cells (exA e A cap) 63))):=UpdM.of b1
 have hcap':cap≤9223372036854775807:=by unfold maxLen at hcap;omega
 have hc2':c≤9223372036854775807:=by unfold maxLen at hc2;omega
 have hmc:=h.mc
 have hlc:=h.lc
 clear h hx hq hm hl hlen
 go_enter Tryz.func181,Tryz.ntmps181
 go_upto_region 1 with (fail)
 generalize w.alloc (.cells (exA e A cap) 63)=W1 at*
 have hs1:=b1.size
 have hsB1:B≤W1.heap.size:=by omega
 obtain ⟨x0,x1,x2,x3,x4,x5⟩:=re1.ex6
 obtain ⟨⟨t0,t1,t2,t3,t4,t5,t6,t7⟩,-⟩:=H1.out.row.tp
 clear t1 t2 t3 t4 t5 t6 t7
 have HFD:Hid (∀W,Below W1.heap.size W1 W→Calls Tryz.prog 37 #[.agg #[.slice T.A T.s.length T.cap],.string e.name] W fun r w'=>(∃am:NdA,r= .returned (.tuple #[ndV m am,.bool true])∧Hid (NdAt w' B m am))∧Below W.heap.size W w'):=fun W hW=>by
  refine (find_lo T.s T.s.length T.A T.cap e.name W B (Nat.le_trans hsB1 hW.size) rfl hlc hmc (H1.out.bel hW).s).mono ?_
  rintro r w' ⟨⟨n,a,rfl,hy,hn⟩,hb⟩
  have hin:=node_in HM.out
  obtain ⟨h5,h6⟩:=hy.out hin
  rw[HM.out] at h5
  injection h5 with h5
  subst h5
  rw[cB_true hin]
  exact ⟨⟨a,rfl,h6⟩,hb⟩
 have HK:Hid (∀W,Below W1.heap.size W1 W→W.cell? ⟨g,0,none⟩=some (.slice T.A T.s.length T.cap)∧W.cell? ⟨w.heap.size,1,none⟩=some (.string e.name)):=fun W hW=>⟨old_cell hW t0,old_cell hW x1⟩
 go_cut[7] (fun v7 W=>∃(gm:Nat) (am:NdA),v7= .pointer (some ⟨gm,0,none⟩)∧W1.heap.size≤gm∧Row W gm (ndArr m am) 58∧Hid (NdAt W B m am)∧Below W1.heap.size W1 W)
 case first=>
  go_region_held3 (fun W=>W.cell? ⟨g,0,none⟩=some (.slice T.A T.s.length T.cap)∧W.cell? ⟨w.heap.size,1,none⟩=some (.string e.name)) (first|(with_reducible exact HK.out _ (by repeat (first|(with_reducible assumption)|(with_reducible exact Below.refl _ _)|(with_reducible refine Below.drew ?_)|(with_reducible refine below_drewN' ?_ _)|(with_reducible refine Below.alloc ?_ (by first|assumption|omega|(simp;omega)|simp|(simp[World.setCell];omega)|simp[World.setCell]) _)|(with_reducible refine Below.setCell ?_ (by first|assumption|omega|(simp;omega)|simp|(simp[World.setCell];omega)|simp[World.setCell]) _))))|go_keep)
   (first|((go_at_call 37);(refine (HFD.out _ (by repeat (first|(with_reducible assumption)|(with_reducible exact Below.refl _ _)|(with_reducible refine Below.drew ?_)|(with_reducible refine below_drewN' ?_ _)|(with_reducible refine Below.alloc ?_ (by first|assumption|omega|(simp;omega)|simp|(simp[World.setCell];omega)|simp[World.setCell]) _)|(with_reducible refine Below.setCell ?_ (by first|assumption|omega|(simp;omega)|simp|(simp[World.setCell];omega)|simp[World.setCell]) _)))).mono ?_);rintro e w3 ⟨⟨am,rfl,HMA⟩,hb3⟩;(try (have r5:Row w3 W1.heap.size ndZ 58:=(by first|(with_reducible exact Row.below (Row.drew (Row.new W1 ndZ 58)) hb3 (by simp))|(with_reducible exact Row.below (Row.new W1.drew ndZ 58) hb3 (by simp)));obtain ⟨⟨x0,x1,x2,x3,x4,x5,x6⟩,g0,g1,g2,g3,g4,g5,g6⟩:=r5.seven));(have hb4:Below W1.heap.size W1 w3:=Below.trans (by repeat (first|(with_reducible assumption)|(with_reducible exact Below.refl _ _)|(with_reducible refine Below.drew ?_)|(with_reducible refine below_drewN' ?_ _)|(with_reducible refine Below.alloc ?_ (by first|assumption|omega|(simp;omega)|simp|(simp[World.setCell];omega)|simp[World.setCell]) _)|(with_reducible refine Below.setCell ?_ (by first|assumption|omega|(simp;omega)|simp|(simp[World.setCell];omega)|simp[World.setCell]) _))) (hb3.mono (by first|exact Nat.le_refl _|simp|(simp;omega)|omega)));(have hs4:=hb4.size)))
  all_goals
   refine' zq24
 case rest=>
  obtain ⟨gm,am,rfl,hgm,rgm,HMA,hbc⟩:=hcut
  obtain ⟨w2,rfl⟩:∃w2:World,w2=wc:=⟨_,rfl⟩
  have HT2:=Lib.hid (H1.out.bel hbc)
  have HU2:Hid (UpdM g w w2):=Upd.trans HU1.out (UpdM.of hbc)
  have re2:=re1.below hbc re1.lt
  have HQ2:=Lib.hid (HQ.out.upd HU2.out)
  have hs2:=hbc.size
  have hwg:=re1.lt
  obtain ⟨c0,c1,cc2,c3,c4,c5,c6⟩:=rgm.nd
  clear x0 x1 x2 x3 x4 x5 t0 HK
  refine' zq137
  go_loopw[24] (fun i wr=>∃k:Nat,k≤m.ins.length∧i= .int .i64 k∧TpL w2 B g T (accF f (callFs m e l) k) wr) (fun i _=>m.ins.length-(intOf i).toNat)
  case atStart=>exact ⟨0,Nat.zero_le _,rfl,by rw[acc_0 HFZ.out];exact HT2.out,Upd.refl _ _⟩
  case round=>
   obtain ⟨k,hk,rfl,ht,hu⟩:=hrel
   refine' zq163
   have hsB2:B≤w2.heap.size:=by omega
   have hbB:=UpdM.bel hu hlo hsB2
   have re:=Row.upd hu re2 (by omega)
   have rm:=Row.upd hu rgm (by omega)
   have HMW:=Lib.hid (HMA.out.below hbB)
   have HQR:=Lib.hid (HQ2.out.upd hu)
   clear ht hu
   by_cases hlt:k<m.ins.length
   ·obtain ⟨b,off,x,A',cap',hA,hb,hxk,ok,g1,g2,hxs,d0,d1,d2,d3,d4⟩:=HMW.out.si.vr hlt
    obtain ⟨b2,off2,y,A2,cap2,rfl,hb2,hyk,hym,hok',hcap',hmax',hy',y0,y1,y2,y3,y4,y5⟩:=(HX.out wr (UpdM.bel (Upd.trans HU2.out HU.out) hlo hsB)).at_ (show k<e.args.length by rw[←HLEN.out];exact hlt)
    obtain ⟨lk,hlk⟩:∃lk,l[k]? =some lk:=⟨_,List.getElem?_eq_getElem (by rw[HLL.out,←HLEN.out];exact hlt)⟩
    rw[hA]
    have q0:=HQR.out.2.2 k lk hlk
    have hqlt:=HQR.out.2.1
    have HCF:Hid ((callFs m e l)[k]? =some (needF (lk==x.ty) y.line y.col)):=by
     show _=_
     unfold callFs
     rw[List.getElem?_mapIdx,hxk,(arg_at hyk).1,(arg_at hyk).2]
     simp[List.getD,hlk]
    have HACC:Hid (ft2 (accF f (callFs m e l) k) (needF (lk==x.ty) y.line y.col)=accF f (callFs m e l) (k+1)):=(acc_succ HCF.out (need_fz _ _ _)).symm
    refine' zq28
    have rx:=Row.new wr (vrArr x A' cap') 103
    have HT4:=Lib.hid (HT.out.bel bx)
    have HU4:=Lib.hid (Upd.trans HU.out (UpdM.of (bm:=g) bx))
    have re4:=re.below bx re.lt
    have hk2:k<e.args.length:=by rw[←HLEN.out];exact hlt
    have hk3:k<l.length:=by rw[HLL.out];exact hk2
    clear hA hxk hyk hym hok' hcap' hy' hxs hlk ok
    go_upto_region 5 with (fail)
    have v4:=old_cell bx y4
    have v5:=old_cell bx y5
    have v0:=old_cell bx q0
    clear d0 d1 d2 d3 d4 y0 y1 y2 y3 y4 y5 q0
    generalize hW4:wr.alloc (.cells (vrArr x A' cap') 103)=w4 at*
    clear hW4
    obtain ⟨z0,z1,z2,z3,z4⟩:=rx.vr
    obtain ⟨x0,x1,x2,x3,x4,x5⟩:=re4.ex6
    have i0:(0:Int)≤(k:Int):=by omega
    have i1:(k:Int)<(e.args.length:Int):=by omega
    have i2:(k:Int)<(l.length:Int):=by omega
    have HN:=Lib.hid (need_any T (accF f (callFs m e l) k) B g (lk==x.ty) y.line y.col w4.drew (HT4.out.bel (by repeat (first|(with_reducible assumption)|(with_reducible exact Below.refl _ _)|(with_reducible refine Below.drew ?_)|(with_reducible refine below_drewN' ?_ _)|(with_reducible refine Below.alloc ?_ (by first|assumption|omega|(simp;omega)|simp|(simp[World.setCell];omega)|simp[World.setCell]) _)|(with_reducible refine Below.setCell ?_ (by first|assumption|omega|(simp;omega)|simp|(simp[World.setCell];omega)|simp[World.setCell]) _)))))
    go_still_tail 14,(by kernel_rfl)
    change wpList _ _ _ _ _ w4.drew
    refine' zq131
    rw[HACC.out] at ht5
    have HT5:=Lib.hid ht5
    have HU5:Hid (UpdM g w2 w5):=Upd.trans (Upd.drew HU4.out) hu5
    clear ht5 hu5 z0 z1 z2 z3 z4 x0 x1 x2 x3 x4 x5 v0 v4 v5
    go_wp2_with fail
    go_roundw
    case rel=>exact ⟨k+1,by omega,by go_num,HT5.out,HU5.out⟩
    case measure=>first|(simp[intOf];omega)|simp[intOf]
   ·obtain rfl:k=m.ins.length:=by omega
    obtain ⟨b,off,x,A',cap',hA,hb,hxk,ok,g1,g2,hxs,d0,d1,d2,d3,d4⟩:=HMW.out.so.vr (show 0<m.outs.length by omega)
    rw[Nat.zero_mul,Nat.add_zero] at d1
    obtain ⟨c0,c1,cc2,c3,c4,c5,c6⟩:=rm.nd
    rw[hA] at cc2
    have hxo:x.ty=outTy m:=by unfold outTy;rw[List.head?_eq_getElem?,hxk];rfl
    have HXO:=Lib.hid hxo
    have HE:Hid (accF f (callFs m e l) m.ins.length=ft2 f (fstl (callFs m e l))):=by
     show _=_
     have:=acc_all (f:=f) (l:=callFs m e l)
     rwa [show (callFs m e l).length=m.ins.length from by unfold callFs;exact List.length_mapIdx] at this
    have p0:0<m.outs.length:=by omega
    have p1:(0:Int)<(m.outs.length:Int):=by omega
    clear hxk hxs ok hA hxo
    go_wp2_with fail
    go_ret
    rw[HXO.out]
    exact ⟨rfl,by rw[←HE.out];exact HT.out,Upd.trans HU2.out HU.out⟩
end Go.Proofs.YtdkgkacnjdnpoaaGreat
