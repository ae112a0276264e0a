/-
  The document's run of a flat: a wire's value. The document's run of a flat: every wire's value, at every tick. The document's run of a flat: two tables of tables, as they are made. The document's run of a flat: New (printed by gen_svg.py).
-/
import Derived.Test.YtckognjamlckcaaGreatDoorSvC
set_option maxHeartbeats 16000000
set_option maxRecDepth 100000
namespace Go.Proofs.YtckognjamlckcaaGreatDoor
open Go.RowKit Vf Fo Ar
attribute [local go_sem ↓] Go.wp_at_zero Go.wp_at_succ
structure Ei (q:Rn) (W:World) (m t:Nat) (Aw:Option Addr) (cw:Nat) (Ad:Option Addr) (cd:Nat) (Ai:Option Addr) (ci:Nat) (vo:Value) (bR oR cR bx ox cx:Nat) (row:List Int):Prop where
 r:∀W',ae q.X W W'->(W'.cell? ⟨q.R,0,none⟩=some (.slice Aw q.f.wires.length cw)/\W'.cell? ⟨q.R,1,none⟩=some (.slice Ad q.f.defs.length cd)/\W'.cell? ⟨q.R,2,none⟩=some (.slice Ai q.f.ins.length ci)/\W'.cell? ⟨q.R,3,none⟩=some vo/\W'.cell? ⟨q.R,4,none⟩=some (.slice (some ⟨bR,oR,none⟩) q.rows.length cR)/\
  W'.cell? ⟨q.R,5,none⟩=some (.slice (some ⟨q.bK,0,none⟩) q.f.wires.length q.cK)/\W'.cell? ⟨q.R,6,none⟩=some (.slice (some ⟨q.bV,0,none⟩) q.f.wires.length q.cV))/\
  W'.cell? ⟨q.bK,m,none⟩=some (.slice (some ⟨q.kb m,0,none⟩) q.rows.length q.rows.length)/\W'.cell? ⟨q.bV,m,none⟩=some (.slice (some ⟨q.vb m,0,none⟩) q.rows.length q.rows.length)/\
  W'.cell? ⟨bR,oR+t,none⟩=some (.slice (some ⟨bx,ox,none⟩) row.length cx)
 wires:∀W',ae q.X W W'->Sl W' q.B 2 (fu W' q.B) Aw q.f.wires
 defs:∀W',ae q.X W W'->Sl W' q.B 7 (gU W' q.B) Ad q.f.defs
 ins:∀W',ae q.X W W'->Sl W' q.B 1 aP Ai q.f.ins
 rc:∀W',ae q.X W W'->∀i,i<row.length->W'.cell? ⟨bx,ox+i,none⟩=some (.int .i64 (ao row (i:Int)))
 rowx:q.rows[t]? =some row
 rwf:∀x∈row,Wf x
 lx:row.length<=cx
 mx:cx<=9223372036854775807
 mR:q.rows.length<=cR/\cR<=9223372036854775807
 mi:q.f.ins.length<=ci/\ci<=9223372036854775807
 md:q.f.defs.length<=cd/\cd<=9223372036854775807
 mw:q.f.wires.length<=cw/\cw<=9223372036854775807
 fl:∀W',ae q.X W W'->cS W' W'.heap.size q.f (.slice Aw q.f.wires.length cw) (.slice Ad q.f.defs.length cd) (.slice Ai q.f.ins.length ci) vo
theorem Bo {q:Rn} {W:World} {K V:Nat->List Int} {m t:Nat} (h:q.At W K V) (hm:m<q.f.wires.length) (ht:t<q.rows.length) (hrl:∀r∈q.rows,0<r.length):
  ∃Aw cw Ad cd Ai ci vo bR oR cR bx ox cx row,Ei q W m t Aw cw Ad cd Ai ci vo bR oR cR bx ox cx row:=by
 have hf:=h.fix
 obtain ⟨Aw,cw,hvw,lw,mw,sw⟩:=hf.fl.wires
 obtain ⟨Ad,cd,hvd,ld,md,sd⟩:=hf.fl.defs
 obtain ⟨Ai,ci,hvi,li,mi,si⟩:=hf.fl.ins
 obtain ⟨AR,cR,hvR,lR,mR,sR⟩:=hf.rw
 obtain ⟨bR,oR,row,Ax,cx,hAR,hbR,hrow,hcell,lx,mx,sx⟩:=lS sR ht
 subst hAR
 have hr0:=hrl row (List.mem_of_getElem? hrow)
 obtain ⟨bx,ox,_,hAx,hbx,_⟩:=sx.int hr0
 subst hAx
 unfold maxLen at mw md mi mR mx
 have hlow:∀W',ae q.X W W'->Below q.B W W':=fun W' u=>h.low u
 refine ⟨Aw,cw,Ad,cd,Ai,ci,q.vo,bR,oR,cR,bx,ox,cx,row,⟨fun W' u=>?_,fun W' u=>?_,fun W' u=>?_,fun W' u=>si.below (hlow W' u),fun W' u i hi=>?_,hrow,fun x hx=>?_,lx,mx,⟨lR,mR⟩,⟨li,mi⟩,⟨ld,md⟩,⟨lw,mw⟩,fun W' u=>?_⟩⟩
 ·have g:=h.keep W' u
  have r0:=g.row.cell 0
  have r1:=g.row.cell 1
  have r2:=g.row.cell 2
  have r4:=g.row.cell 4
  simp only[List.getElem?_toArray,List.getElem?_cons_zero,List.getElem?_cons_succ] at r0 r1 r2 r4
  rw[hvw] at r0
  rw[hvd] at r1
  rw[hvi] at r2
  rw[hvR] at r4
  exact ⟨⟨r0,r1,r2,g.row.cell 3,r4,g.row.cell 5,g.row.cell 6⟩,g.k m hm,g.v m hm,((hlow W' u).cell (p:=⟨bR,oR+t,none⟩) hbR).trans hcell⟩
 ·exact sw.keep (fun _ _ hp hc=>((hlow W' u).cell hp).trans hc) (Nat.le_refl _) (fun _ _ _ g=>g.keep (fun _ _ hp hc=>((hlow W' u).cell hp).trans hc) (Nat.le_refl _))
 ·exact sd.keep (fun _ _ hp hc=>((hlow W' u).cell hp).trans hc) (Nat.le_refl _) (fun _ _ _ g=>g.below (hlow W' u))
 ·obtain ⟨b',o',x,hA,_,hx,_,hc⟩:=sx.int hi
  injection hA with hA
  injection hA with g1 g2
  subst g1;subst g2
  rw[show ao row (i:Int)=x by unfold ao;rw[Int.toNat_natCast,List.getD_eq_getElem?_getD,hx];rfl]
  exact ((hlow W' u).cell (p:=⟨bx,ox+i,none⟩) hbx).trans hc
 ·obtain ⟨i,hi⟩:=List.getElem?_of_mem hx
  obtain ⟨_,_,y,_,_,hy,wy,_⟩:=sx.int (List.getElem?_eq_some_iff.1 hi).1
  rw[hi] at hy
  injection hy with hy
  rw[hy];exact wy
 ·have g:=((h.keep W' u).fl).more (Nat.le_trans h.hB u.size)
  rw[hvw,hvd,hvi] at g
  exact g
theorem wh {q:Rn} {t m:Nat} (hfl:bn q.f) (hsol:AW q.f q.rows q.wv) (ht:t<q.rows.length) (hm:m<q.f.wires.length) (hrl:∀r∈q.rows,r.length=q.f.ins.length)
  (hof:∀d∈q.f.defs,d.1=(m:Int)->ri q t d.2):nj q t m:=by
 intro W K V h
 have hip:=hfl.2.1
 have hid:=hfl.2.2.2.1
 obtain ⟨Aw,cw,Ad,cd,Ai,ci,vo,bR,oR,cR,bx,ox,cx,row,HO0⟩:=Bo h hm ht (fun r hr=>by rw[hrl r hr];exact hip.2.1)
 have HO:=zH HO0
 have H1:=zH h
 have hm':(m:Int)<q.f.wires.length:=by omega
 have ht':(t:Int)<q.rows.length:=by omega
 have hrow:=hrl row (List.mem_of_getElem? HO0.rowx)
 obtain ⟨hmi,hmi'⟩:=HO0.mi
 obtain ⟨hmd,hmd'⟩:=HO0.md
 obtain ⟨hmw,hmw'⟩:=HO0.mw
 obtain ⟨hmR,hmR'⟩:=HO0.mR
 have hmx:=HO0.mx
 have hlx:=HO0.lx
 have hww:q.f.wires.length<=400:=hfl.1.2.2
 have kc:=h.kc hm ht
 have vc:=h.vc hm ht
 have HWF:=zH (h.vwf hm ht)
 have HINV:=zH (h.inv m t hm ht)
 have hms:m<q.f.wires.length:=hm
 have HSO:=zH hsol
 have HOF:=zH hof
 have HFL:=zH hfl
 obtain ⟨⟨r0,r1,r2,r3,r4,r5,r6⟩,kq,vq,xq⟩:=HO0.r W (ae.refl _ _)
 clear h HO0 hof hsol hfl
 by_cases hk:ao (K m) (t:Int)=0
 rotate_left 1
 ·have zk:(ao (K m) (t:Int)==0)=false:=by rw[beq_eq_false_iff_ne];exact hk
  have HV:=zH (HINV.o hk)
  clear hk hip hid
  go_enter Tryz.func56,Tryz.ntmps56
  go_wp2_with fail
  go_ret
  exact ⟨az HV.o,by rw[<-HV.o];exact HWF.o,⟨_,_,H1.o⟩,ae.refl _ _⟩
 have zk:(ao (K m) (t:Int)==0)=true:=by rw[beq_iff_eq];exact hk
 have hcase:(∃(j:Nat) (d:Int × Ex),q.f.defs[j]? =some d/\d.1=(m:Int)/\bO (m:Int) 0 q.f.fm.acts=(j:Int)/\(m:Int)∉q.f.ins)\/((m:Int)∈q.f.ins/\bO (m:Int) 0 q.f.fm.acts= -1):=by
  rcases hid.2.2.2 m hm with g|⟨a,ha,hd⟩
  ·exact .inr ⟨g,mT _ _ _ fun y hy e=>(hid.2.1 y hy).2 (e▸g)⟩
  ·obtain ⟨j,hj⟩:=List.getElem?_of_mem ha
   have hb:=qv q.f.fm.acts 0 j a hj (fun i hi y hy=>hid.2.2.1 i j y a hi hy hj)
   have hj':(q.f.defs.map (fun d:Int × Ex=>(⟨0,d.1,0,0,0,0⟩:Ac)))[j]? =some a:=hj
   rw[List.getElem?_map,Option.map_eq_some_iff] at hj'
   obtain ⟨d,hd1,hd2⟩:=hj'
   rw[hd,Nat.zero_add] at hb
   refine .inl ⟨j,d,hd1,?_,hb,hd▸(hid.2.1 a ha).2⟩
   rw[<-hd,<-hd2]
 have HBY:=zH (mG (HO.o.fl W (ae.refl _ _)) (m:Int))
 have HIN:Hid (∀(k:Nat),q.f.ins[k]? =some (m:Int)->q.wv t m=ao row (k:Int)):=fun k hk=>by
  have g:q.rows.getD t []=row:=by rw[List.getD_eq_getElem?_getD,HO.o.rowx];rfl
  rw[HSO.o.ins t k m hk,g]
  unfold ao
  rw[Int.toNat_natCast]
 clear hk hid hip
 go_enter Tryz.func56,Tryz.ntmps56
 go_wp2_with fail
 (with_reducible refine HBY.o.mono ?_)
 rintro e w2 ⟨rfl,hb2⟩
 have H2:=zH (H1.o.below hb2)
 have U2:Hid (ae q.X W w2):=ae.of_below hb2
 clear r0 r1 r2 r3 r4 r5 r6 kq vq xq kc vc HINV HWF HBY hb2
 obtain ⟨⟨r0,r1,r2,r3,r4,r5,r6⟩,kq,vq,xq⟩:=HO.o.r w2 U2.o
 have vc:=H2.o.vc hm ht
 have fz:=(H2.o.v m hm).frozen t
 obtain ⟨PD,hPD⟩:∃PD:Prop,PD=((m:Int)∉q.f.ins):=⟨_,rfl⟩
 rcases hcase with ⟨j,d,hj,hdm,hby,hni⟩|⟨hin,hby⟩
 case' inl=>
  have hjl:=(List.getElem?_eq_some_iff.1 hj).1
  have hjl':(j:Int)<q.f.defs.length:=by omega
  obtain ⟨b7,off7,d',Ag,cg,hAd,hb7,hx7,wd,hok,hcap,hmax,hxs,d0,d1,d2,d3,d4,d5,d6⟩:=(HO.o.defs W (ae.refl _ _)).df hjl
  obtain rfl:d'=d:=by rw[hj] at hx7;injection hx7 with g;exact g.symm
  obtain ⟨b6,o6,x,Ag6,cg6,hAw,hb6,hx6,wx,w0,w1',lg,mg,sg⟩:=(HO.o.wires W (ae.refl _ _)).wr hm
  subst hAd;subst hAw
  have hdo:=HFL.o.2.2.2.2.1 d' (List.mem_of_getElem? hj)
  have hck:aa q.f.fm d'.1=x.clock:=by
   rw[hdm]
   unfold aa
   rw[bW (f:=q.f.fm) hx6]
  have hcl:=iO HFL.o.1 (n:=d'.1) (by rw[hdm];exact ⟨by omega,by show (m:Int)<q.f.wires.length;omega⟩)
  rw[hck] at hcl
  have hlow:∀W',ae q.X W W'->Below q.B W W':=fun W' u=>H1.o.low u
  have HCALL:Hid (∀W1 K1 V1,q.At W1 K1 V1->ae q.X W W1->Calls Tryz.prog 92 #[.pointer (some ⟨q.R,0,none⟩),bz d'.2 Ag cg,.slice Ag6 x.clock.length cg6,.int .i64 t] W1 (q.Post W1 (q.wv t m))):=fun W1 K1 V1 h1 u=>by
   have g:=HOF.o d' (List.mem_of_getElem? hj) hdm x.clock W1 K1 V1 Ag cg (.slice Ag6 x.clock.length cg6) h1 hok hcap hmax (hxs.below (hlow W1 u))
    (fun W' u'=>⟨Ag6,cg6,rfl,lg,mg,((sg.below (hlow W' (u.trans u'))).more (Nat.le_trans h1.hB u'.size))⟩)
    (fun g hg=>by
     obtain ⟨i,hi⟩:=List.getElem?_of_mem hg
     exact ((HFL.o.1.1 x (List.mem_of_getElem? hx6)).2 i g hi).1) (by rw[<-hck];exact hdo.2.2.2.1) (by have:=hdo.2.1;omega)
   have e:bZ q.wv d'.2 x.clock t=q.wv t m:=by rw[<-hck,<-HSO.o.defs t d' (List.mem_of_getElem? hj),hdm]
   rwa [e] at g
  have HS:Hid (∀W',ae q.X W W'->(W'.cell? ⟨q.R,0,none⟩=some (.slice (some ⟨b6,o6,none⟩) q.f.wires.length cw)/\W'.cell? ⟨q.R,1,none⟩=some (.slice (some ⟨b7,off7,none⟩) q.f.defs.length cd)/\W'.cell? ⟨q.R,6,none⟩=some (.slice (some ⟨q.bV,0,none⟩) q.f.wires.length q.cV)/\W'.cell? ⟨q.bV,m,none⟩=some (.slice (some ⟨q.vb m,0,none⟩) q.rows.length q.rows.length))/\
   (W'.cell? ⟨b7,off7+j*7+1,none⟩=some (.int .i64 d'.2.op)/\W'.cell? ⟨b7,off7+j*7+2,none⟩=some (.string d'.2.name)/\W'.cell? ⟨b7,off7+j*7+3,none⟩=some (.int .i64 d'.2.n)/\W'.cell? ⟨b7,off7+j*7+4,none⟩=some (.slice Ag d'.2.args.length cg)/\W'.cell? ⟨b7,off7+j*7+5,none⟩=some (.int .i64 d'.2.line)/\W'.cell? ⟨b7,off7+j*7+6,none⟩=some (.int .i64 d'.2.col))/\
   W'.cell? ⟨b6,o6+m*2+1,none⟩=some (.slice Ag6 x.clock.length cg6)):=fun W' u=>by
   obtain ⟨⟨g0,g1,_,_,_,_,g6⟩,_,gv,_⟩:=HO.o.r W' u
   have hb:=hlow W' u
   exact ⟨⟨g0,g1,g6,gv⟩,⟨(hb.cell (p:=⟨b7,_,none⟩) hb7).trans d1,(hb.cell (p:=⟨b7,_,none⟩) hb7).trans d2,(hb.cell (p:=⟨b7,_,none⟩) hb7).trans d3,(hb.cell (p:=⟨b7,_,none⟩) hb7).trans d4,(hb.cell (p:=⟨b7,_,none⟩) hb7).trans d5,(hb.cell (p:=⟨b7,_,none⟩) hb7).trans d6⟩,(hb.cell (p:=⟨b6,_,none⟩) hb6).trans w1'⟩
  rw[hby]
  have HPD:Hid PD:=by rw[hPD];exact hni
  clear hPD hni hby hj hdm hx7 wd hok hcap hmax hxs d0 d1 d2 d3 d4 d5 d6 hx6 wx w0 w1' lg mg sg hdo hck hcl hlow hb7 hb6
  clear r0 r1 r2 r3 r4 r5 r6 kq vq xq
  go_upto_region 4 with (fail)
  refine wp_region_held_drew (S:=fun W=>(W.cell? ⟨q.R,0,none⟩=some (.slice (some ⟨b6,o6,none⟩) q.f.wires.length cw)/\W.cell? ⟨q.R,1,none⟩=some (.slice (some ⟨b7,off7,none⟩) q.f.defs.length cd)/\W.cell? ⟨q.R,6,none⟩=some (.slice (some ⟨q.bV,0,none⟩) q.f.wires.length q.cV)/\W.cell? ⟨q.bV,m,none⟩=some (.slice (some ⟨q.vb m,0,none⟩) q.rows.length q.rows.length))/\(W.cell? ⟨b7,off7+j*7+1,none⟩=some (.int .i64 d'.2.op)/\W.cell? ⟨b7,off7+j*7+2,none⟩=some (.string d'.2.name)/\W.cell? ⟨b7,off7+j*7+3,none⟩=some (.int .i64 d'.2.n)/\W.cell? ⟨b7,off7+j*7+4,none⟩=some (.slice Ag d'.2.args.length cg)/\W.cell? ⟨b7,off7+j*7+5,none⟩=some (.int .i64 d'.2.line)/\W.cell? ⟨b7,off7+j*7+6,none⟩=some (.int .i64 d'.2.col))/\W.cell? ⟨b6,o6+m*2+1,none⟩=some (.slice Ag6 x.clock.length cg6)) (by kernel_rfl) ?_ (fun hHeld=>?_)
  ·refine' zq224
  refine tk 0 (some 28) rfl ?_
  refine tk 1 (some 29) rfl ?_
  refine tk 2 (some 30) rfl ?_
  refine tk 3 (some 31) rfl ?_
  refine tk 4 (some 32) rfl ?_
  refine tk 5 (some 33) rfl ?_
  refine tk 6 (some 34) rfl ?_
  refine tk 7 (some 35) rfl ?_
  refine tk 8 (some 36) rfl ?_
  refine tk 9 (some 37) rfl ?_
  refine tk 10 (some 38) rfl ?_
  refine tk 11 (some 39) rfl ?_
  refine tk 12 (some 40) rfl ?_
  refine tk 13 (some 41) rfl ?_
  refine tk 14 (some 42) rfl ?_
  refine tk 15 (some 43) rfl ?_
  refine tk 16 (some 44) rfl ?_
  refine tk 17 (some 45) rfl ?_
  refine tk 18 (some 46) rfl ?_
  refine tk 19 (some 47) rfl ?_
  refine tk 20 (some 48) rfl ?_
  refine tk 21 (some 49) rfl ?_
  refine tk 22 (some 50) rfl ?_
  refine tk 23 (some 51) rfl ?_
  refine tk 24 (some 52) rfl ?_
  refine tk 25 (some 53) rfl ?_
  refine tk 26 (some 54) rfl ?_
  refine tk 27 (some 55) rfl ?_
  refine aH 28 (some 56) rfl (fun KK hKK=>?_)
  go_simp
  (go_at_call 92;refine Calls.mono (HCALL.o _ _ _ (H2.o.below ((Below.refl _ _).drew)) (U2.o.trans (ae.of_below ((Below.refl _ _).drew)))) ?_;rintro e w8 ⟨rfl,hw8,⟨K8,V8,h8⟩,hu8⟩;(have hu8':ae q.X W w8:=(U2.o.trans (ae.of_below ((Below.refl _ _).drew))).trans hu8);(have cv8:=h8.vc hm ht);(have fz8:=(h8.v m hm).frozen t);(have hs9:=h8.setV hm ht hw8);(have hu9:=hu8'.trans hs9.2))
  (try go_wp2_with fail)
  refine hKK.out _ _ ?_ (fun hHeld=>?_)
  ·refine' zq224
  refine' zq4
  refine tk 29 (some 57) rfl ?_
  refine aH 30 none rfl (fun KK hKK=>?_)
  go_simp
  refine hKK.out _ _ ?_ (fun hHeld=>?_)
  ·refine' zq224
  refine' zq4
  refine wpAnyH_done (by kernel_rfl) ?_ _
  obtain ⟨⟨V9,h9,hv9⟩,_⟩:=hs9
  have H4:=zH h9
  have U4:=zH hu9
  have HV4:=zH (fun _:PD=>hv9)
  clear h8 h9 hv9 hu9 hu8 hu8' cv8 fz8 hHeld hw8
  generalize w8.setCell ⟨q.vb m,t,none⟩ (.int .i64 (q.wv t m))=w4 at*
  have HPD2:Hid (PD\/(m:Int)∈q.f.ins):= .inl HPD.o
  obtain ⟨Ka,Va,HAA,HAV⟩:∃Ka Va,Hid (q.At w4 Ka Va)/\Hid (PD->ao (Va m) (t:Int)=q.wv t m):=⟨_,_,H4.o,HV4.o⟩
  clear H4 HV4 HPD HS HCALL hjl hjl' vc fz
 case' inr=>
  rw[hby]
  have HPD2:Hid (PD\/(m:Int)∈q.f.ins):= .inr hin
  have HV4:Hid (PD->ao (V m) (t:Int)=q.wv t m):=fun g=>absurd hin (by rw[hPD] at g;exact g)
  obtain ⟨w4,rfl⟩:∃w4:World,w4=w2:=⟨_,rfl⟩
  obtain ⟨Ka,Va,HAA,HAV⟩:∃Ka Va,Hid (q.At w4 Ka Va)/\Hid (PD->ao (Va m) (t:Int)=q.wv t m):=⟨_,_,H2.o,HV4.o⟩
  have U4:=zH U2.o
  clear HV4 hPD hin hby r0 r1 r2 r3 r4 r5 r6 kq vq xq vc fz
 all_goals
  obtain ⟨⟨r0,r1,r2,r3,r4,r5,r6⟩,kq,vq,xq⟩:=HO.o.r w4 U4.o
  go_wp2_with fail
  clear r0 r1 r2 r3 r4 r5 r6 kq vq xq
  go_loopw[8] (fun i wr=>∃(k:Nat) (K V:Nat->List Int),k<=q.f.ins.length/\i= .int .i64 k/\Hid ((PD\/(m:Int)∈q.f.ins.take k)->ao (V m) (t:Int)=q.wv t m)/\Hid (q.At wr K V)/\Hid (ae q.X W wr)) (fun i _=>q.f.ins.length-(intOf i).toNat)
  case atStart=>
   exact ⟨0,Ka,Va,Nat.zero_le _,rfl,fun g=>HAV.o (by
    rcases g with g|g
    ·exact g
    ·simp at g),HAA.o,U4.o⟩
  case round=>
   clear HAA HAV U4 H2 U2
   obtain ⟨k,K,V,hk,rfl,HN,HA,HU⟩:=hrel
   obtain ⟨⟨r0,r1,r2,r3,r4,r5,r6⟩,kq,vq,xq⟩:=HO.o.r wr HU.o
   by_cases hlt:k<q.f.ins.length
   ·have hlt':(k:Int)<q.f.ins.length:=by omega
    obtain ⟨b5,o5,n,hAi,hb5,hn,wn,d0⟩:=(HO.o.ins wr HU.o).int hlt
    subst hAi
    by_cases he:n=(m:Int)
    ·have HVAL:=zH (HIN.o k (by rw[hn,he]))
     have zz:(n==(m:Int))=true:=by rw[beq_iff_eq];exact he
     have hkr:k<row.length:=by omega
     have hkr':(k:Int)<row.length:=by omega
     have hwv:Wf (q.wv t m):=by
      rw[HVAL.o]
      unfold ao
      rw[Int.toNat_natCast,List.getD_eq_getElem?_getD,List.getElem?_eq_getElem hkr]
      exact HO.o.rwf _ (List.getElem_mem hkr)
     have HS:Hid (∀W',ae q.X W W'->(W'.cell? ⟨q.R,4,none⟩=some (.slice (some ⟨bR,oR,none⟩) q.rows.length cR)/\W'.cell? ⟨q.R,6,none⟩=some (.slice (some ⟨q.bV,0,none⟩) q.f.wires.length q.cV))/\W'.cell? ⟨q.bV,m,none⟩=some (.slice (some ⟨q.vb m,0,none⟩) q.rows.length q.rows.length)/\W'.cell? ⟨bR,oR+t,none⟩=some (.slice (some ⟨bx,ox,none⟩) row.length cx)/\W'.cell? ⟨bx,ox+k,none⟩=some (.int .i64 (q.wv t m))):=fun W' u=>by
      obtain ⟨⟨_,_,_,_,g4,_,g6⟩,_,gv,gx⟩:=HO.o.r W' u
      exact ⟨⟨g4,g6⟩,gv,gx,by rw[HVAL.o];exact HO.o.rc W' u k hkr⟩
     have hA9:=HA.o.below ((Below.refl wr.heap.size wr).drew)
     have hs9:=hA9.setV hm ht hwv
     have hu9:=(HU.o.trans (ae.of_below ((Below.refl wr.heap.size wr).drew))).trans hs9.2
     have cv:=HA.o.vc hm ht
     have fz:=(HA.o.v m hm).frozen t
     have HS9:=zH hs9.1
     have HU9:=zH hu9
     have HWV:=zH hwv
     clear hA9 hs9 hu9 he hn hwv
     go_upto_region 9 with (fail)
     clear r0 r1 r2 r3 r4 r5 r6 kq vq xq d0
     refine wp_region_held_drew (S:=fun W=>(W.cell? ⟨q.R,4,none⟩=some (.slice (some ⟨bR,oR,none⟩) q.rows.length cR)/\W.cell? ⟨q.R,6,none⟩=some (.slice (some ⟨q.bV,0,none⟩) q.f.wires.length q.cV))/\W.cell? ⟨q.bV,m,none⟩=some (.slice (some ⟨q.vb m,0,none⟩) q.rows.length q.rows.length)/\W.cell? ⟨bR,oR+t,none⟩=some (.slice (some ⟨bx,ox,none⟩) row.length cx)/\W.cell? ⟨bx,ox+k,none⟩=some (.int .i64 (q.wv t m))) (by kernel_rfl) ?_ (fun hHeld=>?_)
     ·(try dsimp only);(first|exact HS.o _ HU9.o|exact HS.o _ (HU.o.trans (ae.of_below ((Below.refl _ _).drew))))
     refine tk 0 (some 78) rfl ?_
     refine tk 1 (some 79) rfl ?_
     refine tk 2 (some 80) rfl ?_
     refine tk 3 (some 81) rfl ?_
     refine tk 4 (some 82) rfl ?_
     refine tk 5 (some 83) rfl ?_
     refine tk 6 (some 84) rfl ?_
     refine tk 7 (some 85) rfl ?_
     refine tk 8 (some 86) rfl ?_
     refine tk 9 (some 87) rfl ?_
     refine tk 10 (some 88) rfl ?_
     refine tk 11 (some 89) rfl ?_
     refine tk 12 (some 90) rfl ?_
     refine tk 13 (some 91) rfl ?_
     refine tk 14 (some 92) rfl ?_
     refine tk 15 (some 93) rfl ?_
     refine tk 16 (some 94) rfl ?_
     refine tk 17 (some 95) rfl ?_
     refine tk 18 (some 96) rfl ?_
     refine aH 19 none rfl (fun KK hKK=>?_)
     go_simp
     refine hKK.out _ _ ?_ (fun hHeld=>?_)
     ·(try dsimp only);(first|exact HS.o _ HU9.o|exact HS.o _ (HU.o.trans (ae.of_below ((Below.refl _ _).drew))))
     refine' zq4
     refine wpAnyH_done (by kernel_rfl) ?_ _
     clear hHeld HU9 HS9
     obtain ⟨⟨V9,h9,hv9⟩,hu9⟩:=HA.o.setV hm ht HWV.o
     have HU9:Hid (ae q.X W (wr.setCell ⟨q.vb m,t,none⟩ (.int .i64 (q.wv t m))).drew):=(HU.o.trans hu9).drew
     have HA9:=zH (h9.below ((Below.refl (wr.setCell ⟨q.vb m,t,none⟩ (.int .i64 (q.wv t m))).heap.size (wr.setCell ⟨q.vb m,t,none⟩ (.int .i64 (q.wv t m)))).drew))
     have HN9:Hid ((PD\/(m:Int)∈q.f.ins.take (k+1))->ao (V9 m) (t:Int)=q.wv t m):=fun _=>hv9
     clear h9 hv9 cv fz hu9
     generalize (wr.setCell ⟨q.vb m,t,none⟩ (.int .i64 (q.wv t m))).drew=w9 at*
     go_wp2_with fail
     go_roundw
     case rel=>exact ⟨k+1,_,_,by omega,by go_num,HN9,HA9,HU9⟩
     case measure=>simp[intOf];omega
    ·have zz:(n==(m:Int))=false:=by rw[beq_eq_false_iff_ne];exact he
     have HN9:Hid ((PD\/(m:Int)∈q.f.ins.take (k+1))->ao (V m) (t:Int)=q.wv t m):=fun g=>HN.o (by
      rcases g with g|g
      ·exact .inl g
      ·rw[bj hn] at g
       rcases List.mem_append.1 g with g|g
       ·exact .inr g
       ·exact absurd (List.mem_singleton.1 g).symm he)
     clear he hn
     go_wp2_with fail
     go_roundw
     case rel=>exact ⟨k+1,_,_,by omega,by go_num,HN9,HA,HU⟩
     case measure=>simp[intOf];omega
   ·obtain rfl:k=q.f.ins.length:=by omega
    have hvf:=HN.o (by
     rcases HPD2.o with g|g
     ·exact .inl g
     ·exact .inr (by rw[List.take_length];exact g))
    have hwf:=HA.o.vwf hm ht
    rw[hvf] at hwf
    have HWF:=zH hwf
    have kc:=HA.o.kc hm ht
    have fzk:=(HA.o.k m hm).frozen t
    obtain ⟨⟨K9,h9⟩,hu9⟩:=HA.o.setK hm ht hvf
    have HA9:=zH h9
    have HU9:=zH (HU.o.trans hu9)
    have HR9:=zH (HO.o.r _ HU9.o)
    have hvc:=h9.vc hm ht
    rw[hvf] at hvc
    have HVC:=zH hvc
    generalize ao (K m) (t:Int)=KK at*
    clear hvf hwf h9 hu9 hvc HN
    go_upto_region 11 with (fail)
    clear r0 r1 r2 r3 r4 r5 r6 kq vq xq kc fzk
    obtain ⟨⟨r0,r1,r2,r3,r4,r5,r6⟩,kq,vq,xq⟩:=HR9.o
    have vc:=HVC.o
    generalize wr.setCell ⟨q.kb m,t,none⟩ (.int .i64 1)=w10 at*
    go_wp2_with fail
    go_ret
    exact ⟨rfl,HWF.o,⟨_,_,HA9.o⟩,HU9.o⟩
end Go.Proofs.YtckognjamlckcaaGreatDoor
namespace Go.Proofs.YtckognjamlckcaaGreatDoor.Fo
open Vf
theorem yN {f:Fl} (e:Ex):aO f e->∀m∈aU e,ak f.fm m:=by
 induction e using Ex.ind with
 |h e ih=>
  intro hp m hm
  obtain ⟨hp1,hp2⟩:=bq.1 hp
  have hl:∀l∈e.args.map aU,∀m∈l,ak f.fm m:=fun l hl m hm=>by
   obtain ⟨x,hx,rfl⟩:=List.mem_map.1 hl
   exact ih x hx (hp2 x hx) m hm
  rw[ie,jG] at hm
  rcases List.mem_append.1 hm with hm|hm
  ·split at hm
   ·rename_i hn
    rw[List.mem_singleton.1 hm]
    exact cC hp1 hn
   ·cases hm
  ·split at hm
   ·cases hm
   split at hm
   ·cases he:e.args.map aU with
    |nil=>rw[he] at hm;cases hm
    |cons l r=>
     rw[he] at hm
     exact hl l (by rw[he];simp) m hm
   ·obtain ⟨l,hl1,hl2⟩:=List.mem_flatten.1 hm
    exact hl l hl1 m hl2
end Go.Proofs.YtckognjamlckcaaGreatDoor.Fo
namespace Go.Proofs.YtckognjamlckcaaGreatDoor
open Go.RowKit Vf Fo Ar
theorem DL {q:Rn} (hfl:bn q.f) (hsol:AW q.f q.rows q.wv) (hT:q.rows.length<=1000000) (hrl:∀r∈q.rows,r.length=q.f.ins.length):
  ∀t,t<q.rows.length->(∀n,ak q.f.fm n->nj q t n)/\∀e,aO q.f e->ri q t e:=by
 have hww:∀n,ak q.f.fm n->Wf n:=fun n hn=>aT (by
  have h1:=hn.1
  have h2:n<q.f.wires.length:=hn.2
  have:=hfl.1.2.2
  omega)
 intro t
 induction t using Nat.strongRecOn with
 |ind t ih=>
  intro ht
  have hth:∀s,s<t->∀n,ak q.f.fm n->nj q s n:=fun s hs=>(ih s hs (by omega)).1
  have hof:∀s,s<t->∀e,aO q.f e->ri q s e:=fun s hs=>(ih s hs (by omega)).2
  have hw:∀n,ak q.f.fm n->dt q.f n->nj q t n:=fun n hn hD=>by
   clear hn
   induction hD with
   |ins n h=>
    have hn:=(hfl.2.1.1 n h).1
    obtain ⟨m,rfl⟩:=Int.eq_ofNat_of_zero_le hn.1
    have hm:(m:Int)<q.f.wires.length:=hn.2
    exact wh hfl hsol ht (by omega) hrl (fun d hd hdm=>absurd (by rw[hdm];exact h) (hfl.2.2.2.1.2.1 ⟨0,d.1,0,0,0,0⟩ (List.mem_map_of_mem (f:=fun d:Int × Ex=>(⟨0,d.1,0,0,0,0⟩:Ac)) hd)).2)
   |def_ d hd hw hg ih1 ih2=>
    have hn:ak q.f.fm d.1:=(hfl.2.2.2.1.2.1 ⟨0,d.1,0,0,0,0⟩ (List.mem_map_of_mem (f:=fun d:Int × Ex=>(⟨0,d.1,0,0,0,0⟩:Ac)) hd)).1
    obtain ⟨m,hm0⟩:=Int.eq_ofNat_of_zero_le hn.1
    have hm:d.1<q.f.wires.length:=hn.2
    rw[hm0]
    refine wh hfl hsol ht (by omega) hrl (fun d' hd' hdm=>?_)
    obtain ⟨i,hi⟩:=List.getElem?_of_mem hd
    obtain ⟨j,hj⟩:=List.getElem?_of_mem hd'
    have key:∀(i:Nat) d,q.f.defs[i]? =some d->q.f.fm.acts[i]? =some ⟨0,d.1,0,0,0,0⟩:=fun i d h=>by
     show (q.f.defs.map _)[i]? =_
     rw[List.getElem?_map,h];rfl
    have hij:i=j:=by
     rcases Nat.lt_trichotomy i j with g|g|g
     ·exact absurd (hm0.trans hdm.symm) (hfl.2.2.2.1.2.2.1 i j _ _ g (key i d hi) (key j d' hj))
     ·exact g
     ·exact absurd (hdm.trans hm0.symm) (hfl.2.2.2.1.2.2.1 j i _ _ g (key j d' hj) (key i d hi))
    subst hij
    rw[hi] at hj
    injection hj with hj
    subst hj
    exact CX (by omega) hth hof hww d.2 (hfl.2.2.2.2.1 d hd).1 ih1
  have hw':∀n,ak q.f.fm n->nj q t n:=fun n hn=>by
   obtain ⟨m,rfl⟩:=Int.eq_ofNat_of_zero_le hn.1
   have hm:(m:Int)<q.f.wires.length:=hn.2
   exact hw m hn (hfl.2.2.2.2.2 m (by omega))
  exact ⟨hw',fun e hp=>CX (by omega) hth hof hww e hp (fun m hm=>hw' m (yN e hp m hm))⟩
attribute [local go_sem ↓] Go.wp_at_zero Go.wp_at_succ
structure em (base T:Nat) (W:World) (v:Value) (k:Nat) (b:Nat->Nat):Prop where
 own:W.ownsRow base 26 1 v k ((List.range k).map fun j=>Value.slice (some ⟨b j,0,none⟩) T T)
 lo:∀j,j<k->base<=b j
 row:∀j,j<k->ai W (b j) (al (List.replicate T 0)).toArray 3
 dj:∀i j,i<k->j<k->i≠j->b i≠b j
 none0:k=0->v.ownBlock=none
section
variable {base T k k' R:Nat} {W W2 W':World} {v v' v13:Value} {b b':Nat->Nat}
theorem em.below (h:em base T W v k b) (hb:Below W.heap.size W W'):em base T W' v k b:=
 ⟨aG h.own hb,h.lo,fun j hj=>(h.row j hj).below hb (h.row j hj).lt,h.dj,h.none0⟩
theorem em.ne (h:em base T W v k b) (h':em base T W v' k' b') (hd:∀i j,i<k->j<k'->b i≠b' j):v'.ownBlock=none\/v'.ownBlock≠v.ownBlock:=by
 cases hv:v'.ownBlock with
 |none=>exact .inl rfl
 |some g=>
  refine .inr fun e=>?_
  have hk:0<k:=by
   rcases Nat.eq_zero_or_pos k with g0|g0
   ·rw[h.none0 g0] at e;cases e
   ·exact g0
  have hk':0<k':=by
   rcases Nat.eq_zero_or_pos k' with g0|g0
   ·rw[h'.none0 g0] at hv;cases hv
   ·exact g0
  have c1:=h.own.cells e.symm 0 (Value.slice (some ⟨b 0,0,none⟩) T T) (by simp[hk])
  have c2:=h'.own.cells hv 0 (Value.slice (some ⟨b' 0,0,none⟩) T T) (by simp[hk'])
  rw[c1] at c2
  injection c2 with c2
  injection c2 with c2
  injection c2 with c2
  injection c2 with c2
  exact hd 0 0 hk hk' c2
theorem em.other (h:em base T W v k b) (hg:W.grownBy W' v'.ownBlock) (ho:W.ownsRow base 26 1 v' k' ((List.range k').map fun j=>Value.slice (some ⟨b' j,0,none⟩) T T)) (hne:v.ownBlock=none\/v.ownBlock≠v'.ownBlock):em base T W' v k b:=
 ⟨h.own.kept hg hne,h.lo,fun j hj=>(h.row j hj).grownE hg (bh ho (h.row j hj) (by decide)),h.dj,h.none0⟩
theorem em.snoc (h:em base T W v k b) (hb:Below W.heap.size W W2) (hr:ai W2 W.heap.size (al (List.replicate T 0)).toArray 3) (hbase:base<=W.heap.size) (hg:W2.grownBy W' v.ownBlock)
  (hown:W'.ownsRow base 26 1 v13 (k+1) (((List.range k).map fun j=>Value.slice (some ⟨b j,0,none⟩) T T)++ [Value.slice (some ⟨W.heap.size,0,none⟩) T T])):em base T W' v13 (k+1) (fun j=>if j=k then W.heap.size else b j):=by
 have h2:=h.below hb
 refine ⟨?_,fun j hj=>?_,fun j hj=>?_,fun i j hi hj hij=>?_,fun e=>by omega⟩
 ·have e:((List.range (k+1)).map fun j=>Value.slice (some ⟨(if j=k then W.heap.size else b j),0,none⟩) T T)=((List.range k).map fun j=>Value.slice (some ⟨b j,0,none⟩) T T)++ [Value.slice (some ⟨W.heap.size,0,none⟩) T T]:=by
   rw[List.range_succ,List.map_append,List.map_singleton,if_pos rfl]
   congr 1
   refine List.map_congr_left (fun j hj=>?_)
   rw[if_neg (by have:=List.mem_range.1 hj;omega)]
  rw[e];exact hown
 ·skip
  split
  ·exact hbase
  ·exact h.lo j (by omega)
 ·skip
  split
  ·exact hr.grownE hg (bh h2.own hr (by decide))
  ·have r:=h2.row j (by omega)
   exact r.grownE hg (bh h2.own r (by decide))
 ·skip
  have hl:∀j,j<k->b j<W.heap.size:=fun j hj=>(h.row j hj).lt
  by_cases e1:i=k
  ·rw[if_pos e1,if_neg (by omega)]
   have:=hl j (by omega);omega
  ·rw[if_neg e1]
   by_cases e2:j=k
   ·rw[if_pos e2]
    have:=hl i (by omega);omega
   ·rw[if_neg e2]
    exact h.dj i j (by omega) (by omega) hij
theorem em.set (h:em base T W v k b) {o:Nat} {x:Value} {cs:Array Value} (hr:ai W R cs 132):em base T (W.setCell ⟨R,o,none⟩ x) v k b:=by
 have u:=ae.setCell (X:=fun q=>q=R) (p:=⟨R,o,none⟩) (ae.refl _ W) rfl x
 refine ⟨aN h.own u (fun q hq e=>bh h.own hr (by decide) (by rw[<-e];exact hq)),h.lo,fun j hj=>u.row (h.row j hj) (fun e=>?_),h.dj,h.none0⟩
 have h1:=h.row j hj
 rw[e] at h1
 have:=Option.some.inj (h1.symm.trans hr)
 injection this with _ h3 _
 exact absurd h3 (by decide)
theorem pY (w:World) (n:Nat) (o:Obj):ai ((w.alloc (.cells (Array.replicate n (.int .i64 0)) 3)).alloc o).drew w.heap.size (al (List.replicate n 0)).toArray 3:=by
 have h:=(ai.new w (Array.replicate n (Value.int .i64 0)) 3).alloc o
 rw[show (al (List.replicate n 0)).toArray=Array.replicate n (Value.int .i64 0) by simp[al]]
 exact h
theorem pB (w:World) (o:Obj) (x:Value) (t:TypeId):∀j u,[x][j]? =some u->((w.alloc o).alloc (.cells #[x] t)).drew.cell? ((⟨w.heap.size+1,0,none⟩:Addr).add j)=some u:=by
 have h:=cA (w.alloc o) t [x]
 rw[World.size_alloc] at h
 exact h
end
def DC (f:Fl) (rows:List (List Int)) (w0:Nat) (vw vd vi vo vR:Value) (w:World) (e:Ending) (w':World):Prop:=
 ∃R vK vV kb vb,e= .returned (.pointer (some ⟨R,0,none⟩))/\ai w' R #[vw,vd,vi,vo,vR,vK,vV] 132/\em w0 rows.length w' vK f.wires.length kb/\em w0 rows.length w' vV f.wires.length vb/\(∀i j,i<f.wires.length->j<f.wires.length->kb i≠vb j)/\Below w.heap.size w w'/\w0<=w'.heap.size
theorem Dx {f:Fl} {rows:List (List Int)} {vw vd vi vo vR:Value} {w:World} (h:cS w w.heap.size f vw vd vi vo) (hr:aI w w.heap.size 1 (eF w w.heap.size) vR rows) (hT:rows.length<=1600) (hwl:f.wires.length<=1600):
  Calls Tryz.prog 55 #[eZ vw vd vi vo,vR] w (DC f rows w.heap.size vw vd vi vo vR w):=by
 obtain ⟨i0,hi0,hz0,hz1,hz2⟩:=info_parts oe
 obtain ⟨Aw,cw,rfl,lw,mw,_⟩:=id h.wires
 obtain ⟨AR,cR,rfl,lR,mR,_⟩:=id hr
 refine' zq62
 have mR':cR<=9223372036854775807:=by unfold maxLen at mR;omega
 have mki:=jq rows.length (by omega) (by omega)
 rw[Int.toNat_natCast] at mki
 clear h hr
 go_enter Tryz.func55,Tryz.ntmps55
 go_upto_region 2 with (fail)
 generalize hWW:World.alloc (World.alloc w _) _=w1
 have hX:Below w.heap.size w w1/\ai w1 w.heap.size #[.slice Aw f.wires.length cw,vd,vi,vo] 33/\ai w1 (w.heap.size+1) #[.slice Aw f.wires.length cw,vd,vi,vo,.slice AR rows.length cR,.slice none 0 0,.slice none 0 0] 132:=by
  rw[<-hWW]
  exact ⟨bE,(ai.new w _ _).alloc _,dw w _ _ _⟩
 clear hWW
 obtain ⟨b1,rG1,rR1⟩:=hX
 have HG1:=zH rG1
 have HR1:=zH rR1
 have HB1:=zH b1
 clear rG1 rR1 b1
 go_wp2_with fail
 go_loopw[6] (fun i wr=>∃(k:Nat) (vK vV:Value) (kb vb:Nat->Nat),k<=f.wires.length/\i= .int .i64 k/\Hid (ai wr w.heap.size #[.slice Aw f.wires.length cw,vd,vi,vo] 33)/\Hid (ai wr (w.heap.size+1) #[.slice Aw f.wires.length cw,vd,vi,vo,.slice AR rows.length cR,vK,vV] 132)/\Hid (em w.heap.size rows.length wr vK k kb)/\Hid (em w.heap.size rows.length wr vV k vb)/\Hid (∀i j,i<k->j<k->kb i≠vb j)/\Hid (Below w.heap.size w wr)) (fun i _=>f.wires.length-(intOf i).toNat)
 case atStart=>
  have h0:∀W,em w.heap.size rows.length W (.slice none 0 0) 0 (fun _=>0):=fun W=>⟨World.ownsRow_nil _ _ _ _,fun j hj=>absurd hj (by omega),fun j hj=>absurd hj (by omega),fun i j hi=>absurd hi (by omega),fun _=>rfl⟩
  exact ⟨0,_,_,_,_,Nat.zero_le _,rfl,HG1.o,HR1.o,h0 _,h0 _,fun i j hi=>absurd hi (by omega),HB1.o⟩
 case round=>
  clear HG1 HR1 HB1
  obtain ⟨k,vK,vV,kb,vb,hk,rfl,HG,HR,HK,HV,HD,HB⟩:=hrel
  have hsr:=HB.o.size
  have hR1:=HR.o.lt
  have q0:=HG.o.cell 0
  have q5:=HR.o.cell 5
  have q6:=HR.o.cell 6
  simp only[List.getElem?_toArray,List.getElem?_cons_zero,List.getElem?_cons_succ] at q0 q5 q6
  by_cases hlt:k<f.wires.length
  ·have hk':(k:Int)<f.wires.length:=by omega
   have HS5:Hid (∀W,Below wr.heap.size wr W->W.cell? ⟨w.heap.size+1,5,none⟩=some vK):=fun W hW=>cell_kept q5 hW
   have hlr5:=HR.o.lt
   go_upto_region 5 with (fail)
   clear q0 q5 q6
   refine eN 12 (S:=fun W=>W.cell? ⟨w.heap.size+1,5,none⟩=some vK) (by kernel_rfl) ?_ (fun hHeld=>?_)
   ·refine' zq178
   refine cf 0 (some 18) rfl ?_
   refine cf 1 (some 19) rfl ?_
   refine cf 2 (some 20) rfl ?_
   refine cf 3 (some 21) rfl ?_
   refine cf 4 (some 22) rfl ?_
   refine cf 5 (some 23) rfl ?_
   refine cf 6 (some 24) rfl ?_
   refine eD 7 (some 25) rfl (fun KK hKK=>?_)
   go_simp
   refine' zq117
   refine eD 8 (some 26) rfl (fun KK hKK=>?_)
   go_simp
   refine' zq117
   refine eD 9 (some 27) rfl (fun KK hKK=>?_)
   (rw[if_pos (by kernel_rfl)];refine i' (.tmp 22) (.tmp 26) 43 rfl w.heap.size 26 i0 (.slice none 0 0) 1 24 Tryz.underlying43 hi0 hz0 hz1 hz2 rfl (by decide) _ k _ rfl (aG HK.o.own (bE:Below wr.heap.size wr _)) (some ⟨_,0,none⟩) 1 1 [.slice (some ⟨wr.heap.size,0,none⟩) rows.length rows.length] rfl eK.some rfl (fun ad he=>by injection he with he;subst he;exact pB _ _ _ _) (by intro u hu;simp at hu;subst hu;rfl) (by unfold maxLen;omega) (by omega) (by first|omega|(simp;omega)|simp) ?_;intro v13 w13 hown13 hg13;(have rr13:=(HR.o.below (bE:Below wr.heap.size wr _) HR.o.lt).grownE hg13 (bh (aG HK.o.own (bE:Below wr.heap.size wr _)) (HR.o.below (bE:Below wr.heap.size wr _) HR.o.lt) (by decide)));(have rg13:=(HG.o.below (bE:Below wr.heap.size wr _) HG.o.lt).grownE hg13 (bh (aG HK.o.own (bE:Below wr.heap.size wr _)) (HG.o.below (bE:Below wr.heap.size wr _) HG.o.lt) (by decide)));(have hb13:Below w.heap.size wr w13:=aY (Below.mono (bE:Below wr.heap.size wr _) hsr) (aG HK.o.own (bE:Below wr.heap.size wr _)) hg13 (by first|omega|(simp;omega)|simp));(have tk13:=HK.o.snoc (bE:Below wr.heap.size wr _) (pY _ _ _) (by omega) hg13 hown13);(have tv13:=(HV.o.below (bE:Below wr.heap.size wr _)).other hg13 (aG HK.o.own (bE:Below wr.heap.size wr _)) (HK.o.ne HV.o HD.o));(have q13:=rr13.cell 5);(have z13:=rr13.frozen 5);(simp only[List.getElem?_toArray,List.getElem?_cons_zero,List.getElem?_cons_succ] at q13);(have HS13:=zH q13);(obtain ⟨A13,c13,hv13,_⟩:=bH hown13);subst hv13)
   refine' zq117
   refine eD 10 (some 28) rfl (fun KK hKK=>?_)
   go_simp
   refine' zq117
   refine eD 11 (some 29) rfl (fun KK hKK=>?_)
   go_simp
   refine' zq117
   refine' zq89
   have hR5:ai (w13.setCell ⟨w.heap.size+1,5,none⟩ (.slice A13 (k+1) c13)) (w.heap.size+1) #[.slice Aw f.wires.length cw,vd,vi,vo,.slice AR rows.length cR,.slice A13 (k+1) c13,vV] 132:=by
    have:=rr13.set 5 (.slice A13 (k+1) c13)
    simpa using this
   have u5:=ae.setCell (X:=fun k=>k=w.heap.size+1) (p:=⟨w.heap.size+1,5,none⟩) (ae.refl _ w13) rfl (.slice A13 (k+1) c13)
   have HG5:=zH (u5.row rg13 (by omega))
   have HR5:=zH hR5
   have HT5:=zH (tk13.set (o:=5) (x:= .slice A13 (k+1) c13) rr13)
   have HO5:=zH (tv13.set (o:=5) (x:= .slice A13 (k+1) c13) rr13)
   have hb5:=(hb13.mono (Nat.le_refl _)).trans (u5.below (B:=w.heap.size) (fun q hq=>by omega) (by have:=hb13.size;omega))
   have HB5:=zH (HB.o.trans hb5)
   have hsr5:=HB5.o.size
   have hsx5:=hb5.size
   clear hown13 hg13 rr13 rg13 hb13 q13 z13 HS13 hHeld u5 tk13 tv13 hR5 hb5
   generalize hvK:Value.slice A13 (k+1) c13=vK' at*
   clear hvK
   generalize w13.setCell ⟨w.heap.size+1,5,none⟩ vK'=w5 at*
   have q6:=HR5.o.cell 6
   simp only[List.getElem?_toArray,List.getElem?_cons_zero,List.getElem?_cons_succ] at q6
   have hD5:∀i j,i<k+1->j<k->(if i=k then wr.heap.size else kb i)≠vb j:=fun i j hi hj=>by
    split
    ·have:=(HV.o.row j hj).lt;omega
    ·exact HD.o i j (by omega) hj
   have HD5:=zH (fun (i j:Nat) (hi:i<k) (hj:j<k+1) e=>hD5 j i hj hi (Eq.symm e))
   have hwk:=hsx5
   clear hD5
   have HS6:Hid (∀W,Below w5.heap.size w5 W->W.cell? ⟨w.heap.size+1,6,none⟩=some vV):=fun W hW=>cell_kept q6 hW
   have hlr6:=HR5.o.lt
   go_upto_region 6 with (fail)
   clear q6
   refine eN 12 (S:=fun W=>W.cell? ⟨w.heap.size+1,6,none⟩=some vV) (by kernel_rfl) ?_ (fun hHeld=>?_)
   ·refine' zq179
   refine cf 0 (some 30) rfl ?_
   refine cf 1 (some 31) rfl ?_
   refine cf 2 (some 32) rfl ?_
   refine cf 3 (some 33) rfl ?_
   refine cf 4 (some 34) rfl ?_
   refine cf 5 (some 35) rfl ?_
   refine cf 6 (some 36) rfl ?_
   refine eD 7 (some 37) rfl (fun KK hKK=>?_)
   go_simp
   refine' zq118
   refine eD 8 (some 38) rfl (fun KK hKK=>?_)
   go_simp
   refine' zq118
   refine eD 9 (some 39) rfl (fun KK hKK=>?_)
   (rw[if_pos (by kernel_rfl)];refine i' (.tmp 34) (.tmp 38) 43 rfl w.heap.size 26 i0 (.slice none 0 0) 1 24 Tryz.underlying43 hi0 hz0 hz1 hz2 rfl (by decide) _ k _ rfl (aG HO5.o.own (bE:Below w5.heap.size w5 _)) (some ⟨_,0,none⟩) 1 1 [.slice (some ⟨w5.heap.size,0,none⟩) rows.length rows.length] rfl eK.some rfl (fun ad he=>by injection he with he;subst he;exact pB _ _ _ _) (by intro u hu;simp at hu;subst hu;rfl) (by unfold maxLen;omega) (by omega) (by first|omega|(simp;omega)|simp) ?_;intro v13 w13 hown13 hg13;(have rr13:=(HR5.o.below (bE:Below w5.heap.size w5 _) HR5.o.lt).grownE hg13 (bh (aG HO5.o.own (bE:Below w5.heap.size w5 _)) (HR5.o.below (bE:Below w5.heap.size w5 _) HR5.o.lt) (by decide)));(have rg13:=(HG5.o.below (bE:Below w5.heap.size w5 _) HG5.o.lt).grownE hg13 (bh (aG HO5.o.own (bE:Below w5.heap.size w5 _)) (HG5.o.below (bE:Below w5.heap.size w5 _) HG5.o.lt) (by decide)));(have hb13:Below w.heap.size w5 w13:=aY (Below.mono (bE:Below w5.heap.size w5 _) hsr5) (aG HO5.o.own (bE:Below w5.heap.size w5 _)) hg13 (by first|omega|(simp;omega)|simp));(have tk13:=HO5.o.snoc (bE:Below w5.heap.size w5 _) (pY _ _ _) (by omega) hg13 hown13);(have tv13:=(HT5.o.below (bE:Below w5.heap.size w5 _)).other hg13 (aG HO5.o.own (bE:Below w5.heap.size w5 _)) (HO5.o.ne HT5.o HD5.o));(have q13:=rr13.cell 6);(have z13:=rr13.frozen 6);(simp only[List.getElem?_toArray,List.getElem?_cons_zero,List.getElem?_cons_succ] at q13);(have HS13:=zH q13);(obtain ⟨A13,c13,hv13,_⟩:=bH hown13);subst hv13)
   refine' zq118
   refine eD 10 (some 40) rfl (fun KK hKK=>?_)
   go_simp
   refine' zq118
   refine eD 11 (some 41) rfl (fun KK hKK=>?_)
   go_simp
   refine' zq118
   refine' zq89
   have hR6:ai (w13.setCell ⟨w.heap.size+1,6,none⟩ (.slice A13 (k+1) c13)) (w.heap.size+1) #[.slice Aw f.wires.length cw,vd,vi,vo,.slice AR rows.length cR,vK',.slice A13 (k+1) c13] 132:=by
    have:=rr13.set 6 (.slice A13 (k+1) c13)
    simpa using this
   have u6:=ae.setCell (X:=fun k=>k=w.heap.size+1) (p:=⟨w.heap.size+1,6,none⟩) (ae.refl _ w13) rfl (.slice A13 (k+1) c13)
   have HG6:=zH (u6.row rg13 (by omega))
   have HR6:=zH hR6
   have HT6:=zH (tk13.set (o:=6) (x:= .slice A13 (k+1) c13) rr13)
   have HO6:=zH (tv13.set (o:=6) (x:= .slice A13 (k+1) c13) rr13)
   have hb6:=(hb13.mono (Nat.le_refl _)).trans (u6.below (B:=w.heap.size) (fun q hq=>by omega) (by have:=hb13.size;omega))
   have HB6:=zH (HB5.o.trans hb6)
   have hsr6:=HB6.o.size
   have hsx6:=hb6.size
   clear hown13 hg13 rr13 rg13 hb13 q13 z13 HS13 hHeld u6 tk13 tv13 hR6 hb6
   generalize hvV:Value.slice A13 (k+1) c13=vV' at*
   clear hvV
   have hD6:Hid (∀i j,i<k+1->j<k+1->(if i=k then wr.heap.size else kb i)≠(if j=k then w5.heap.size else vb j)):=fun i j hi hj=>by
    by_cases e:j=k
    ·rw[if_pos e]
     have:=(HT5.o.row i hi).lt
     omega
    ·rw[if_neg e]
     exact fun g=>HD5.o j i (by omega) hi g.symm
   generalize w13.setCell ⟨w.heap.size+1,6,none⟩ vV'=w6 at*
   go_wp2_with fail
   go_roundw
   case rel=>exact ⟨k+1,_,_,_,_,by omega,by go_num,HG6,HR6,HO6,HT6,hD6,HB6⟩
   case measure=>simp[intOf];omega
  ·obtain rfl:k=f.wires.length:=by omega
   have hs:=HB.o.size
   go_wp2_with fail
   go_ret
   exact ⟨_,vK,vV,kb,vb,rfl,HR.o,HK.o,HV.o,HD.o,HB.o,hs⟩
end Go.Proofs.YtckognjamlckcaaGreatDoor
