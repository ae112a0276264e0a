/-
  emit: instr, skips, types. emit: steps of one clock, side by side.
-/
import Derived.Test.YtbjaejgechadpaaGreatOrdA
import Derived.Test.YtbjaejgechadpaaGreatPlainA
import Derived.Test.YtbjaejgechadpaaGreatNmA
import Derived.Shelf.Abstract
namespace Go.Proofs.YtbjaejgechadpaaGreat.Fo
open Vf
theorem skips_get:∀(c:List Gd) (n:Int) (k:Nat) (g:Gd),c[k]? =some g→(skipsOf c n)[k]? =some ⟨if g.no=true then 31 else 30,g.wire,0,0,(c.length:Int)-1-k+n⟩
 | [],n,k,g,h=>by simp at h
 |x::c,n,0,g,h=>by
  simp at h;subst h
  simp[skipsOf]
 |x::c,n,k+1,g,h=>by
  simp only[List.getElem?_cons_succ] at h
  simp only[skipsOf,List.getElem?_cons_succ]
  rw[skips_get c n k g h]
  simp
  omega
end Go.Proofs.YtbjaejgechadpaaGreat.Fo
namespace Go.Proofs.YtbjaejgechadpaaGreat
open Go.RowKit Vf Fo
attribute [local go_sem ↓] Go.wp_at_zero Go.wp_at_succ
def inV (x:In5):Value:= .agg #[.int .i64 x.op,.int .i64 x.a,.int .i64 x.b,.int .i64 x.c,.int .i64 x.k]
def in5F (l:List In5):List Value:=(l.map in5C).flatten
theorem in5F_append (l m:List In5):in5F (l++m)=in5F l++in5F m:=by simp[in5F]
theorem in5F_len (l:List In5):(in5F l).length=l.length*5:=by
 unfold in5F
 rw[flatten_len (k:=5) (by intro cs h;obtain ⟨x,_,rfl⟩:=List.mem_map.1 h;rfl),List.length_map]
theorem own_low {w:World} {base base' size n:Nat} {e:TypeId} {v:Value} {xs:List Value} (h:w.ownsRow base e size v n xs) (hb:base'≤base):w.ownsRow base' e size v n xs:=by
 refine ⟨h.1,?_⟩
 rcases h.2 with h0|⟨g,c,cur,h1,h2,h3⟩
 ·exact .inl h0
 ·exact .inr ⟨g,c,cur,h1,Nat.le_trans hb h2,h3⟩
theorem own_in5 {w:World} {base:Nat} {e:TypeId} {v:Value} {n:Nat} {l:List In5} (h:w.ownsRow base e 5 v n (in5F l)) (hi:∀x∈l,In5Ok x):SlV w w.heap.size 5 isIn5 v l:=by
 refine (own_sl (rel:=isIn5) (l:=l) h ⟨by simp,fun i x cs hx hc=>?_⟩ (fun cs hcs=>?_) (by decide)).1
 ·simp only[List.getElem?_map,hx,Option.map_some,Option.some.injEq] at hc
  exact ⟨hc.symm,hi x (List.mem_of_getElem? hx)⟩
 ·obtain ⟨x,_,rfl⟩:=List.mem_map.1 hcs
  rfl
theorem Row.set5' {W:World} {b:Nat} {t:TypeId} {y0 y1 y2 y3 y4:Value} (h:Row W b #[y0,y1,y2,y3,y4] t) (x0 x1 x2 x3 x4:Value):Row (((((W.setCell ⟨b,0,none⟩ x0).setCell ⟨b,1,none⟩ x1).setCell ⟨b,2,none⟩ x2).setCell ⟨b,3,none⟩ x3).setCell ⟨b,4,none⟩ x4) b #[x0,x1,x2,x3,x4] t:=by
 have:=((((h.set 0 x0).set 1 x1).set 2 x2).set 3 x3).set 4 x4
 simpa using this
theorem upd_set5 {W:World} {b:Nat} (x0 x1 x2 x3 x4:Value):Upd (fun k=>k=b) W (((((W.setCell ⟨b,0,none⟩ x0).setCell ⟨b,1,none⟩ x1).setCell ⟨b,2,none⟩ x2).setCell ⟨b,3,none⟩ x3).setCell ⟨b,4,none⟩ x4):=
 (((((Upd.refl (fun k=>k=b) W).setCell (X:=fun k=>k=b) (p:=⟨b,0,none⟩) rfl x0).setCell (X:=fun k=>k=b) (p:=⟨b,1,none⟩) rfl x1).setCell (X:=fun k=>k=b) (p:=⟨b,2,none⟩) rfl x2).setCell (X:=fun k=>k=b) (p:=⟨b,3,none⟩) rfl x3).setCell (X:=fun k=>k=b) (p:=⟨b,4,none⟩) rfl x4
theorem Row.five' {W:World} {b:Nat} {t:TypeId} {y0 y1 y2 y3 y4:Value} (h:Row W b #[y0,y1,y2,y3,y4] t):W.cell? ⟨b,0,none⟩=some y0∧W.cell? ⟨b,1,none⟩=some y1∧W.cell? ⟨b,2,none⟩=some y2∧W.cell? ⟨b,3,none⟩=some y3∧W.cell? ⟨b,4,none⟩=some y4:=
 ⟨h.cell 0,h.cell 1,h.cell 2,h.cell 3,h.cell 4⟩
def zi5:Array Value:= #[.int .i64 0,.int .i64 0,.int .i64 0,.int .i64 0,.int .i64 0]
theorem info_in5:(Tryz.prog.info? 58).map (fun i=>(i.zero,i.size,i.bytes))=some (some (.agg zi5),5,40):=by kernel_rfl
theorem ret_in {x y:In5} (h:x=y):(Ending.returned (inV x))= .returned (inV y):=by rw[h]
set_option maxRecDepth 100000 in
set_option maxHeartbeats 8000000 in
theorem einstr_any (x:Ac) (w:World):Calls Tryz.prog 26 #[acV x] w fun e w'=>e= .returned (inV (instrOf x))∧Below w.heap.size w w':=by
 obtain ⟨op,dst,a,b,c,k⟩:=x
 have b1:Below w.heap.size w ((w.alloc (.cells #[.int .i64 op,.int .i64 dst,.int .i64 a,.int .i64 b,.int .i64 c,.int .i64 k] 56)).alloc (.cells zi5 58)):=bE
 have rX:Row ((w.alloc (.cells #[.int .i64 op,.int .i64 dst,.int .i64 a,.int .i64 b,.int .i64 c,.int .i64 k] 56)).alloc (.cells zi5 58)) w.heap.size #[.int .i64 op,.int .i64 dst,.int .i64 a,.int .i64 b,.int .i64 c,.int .i64 k] 56:=(Row.new w _ _).alloc _
 have rR:Row ((w.alloc (.cells #[.int .i64 op,.int .i64 dst,.int .i64 a,.int .i64 b,.int .i64 c,.int .i64 k] 56)).alloc (.cells zi5 58)) (w.heap.size+1) zi5 58:=rowNew2 w _ _ _
 go_enter Tryz.func26,Tryz.ntmps26
 go_upto_region 1 with (fail)
 change Code.wp _ _ _ _ ((w.alloc (.cells #[.int .i64 op,.int .i64 dst,.int .i64 a,.int .i64 b,.int .i64 c,.int .i64 k] 56)).alloc (.cells zi5 58))
 generalize (w.alloc (.cells #[.int .i64 op,.int .i64 dst,.int .i64 a,.int .i64 b,.int .i64 c,.int .i64 k] 56)).alloc (.cells zi5 58)=w1 at*
 obtain ⟨c0,c1,c2,c3,c4,c5⟩:=ac_six rX
 obtain ⟨z0,z1,z2,z3,z4⟩:=Row.five' (y0:= .int .i64 0) (y1:= .int .i64 0) (y2:= .int .i64 0) (y3:= .int .i64 0) (y4:= .int .i64 0) rR
 have y0:=rR.frozen 0
 have y1:=rR.frozen 1
 have y2:=rR.frozen 2
 have y3:=rR.frozen 3
 have y4:=rR.frozen 4
 have HB:Hid (∀x0 x1 x2 x3 x4:Value,Below w.heap.size w (((((w1.setCell ⟨w.heap.size+1,0,none⟩ x0).setCell ⟨w.heap.size+1,1,none⟩ x1).setCell ⟨w.heap.size+1,2,none⟩ x2).setCell ⟨w.heap.size+1,3,none⟩ x3).setCell ⟨w.heap.size+1,4,none⟩ x4)):=fun _ _ _ _ _=>b1.trans ((upd_set5 _ _ _ _ _).below (fun k hk=>by omega) b1.size)
 have HR:Hid (Row w1 (w.heap.size+1) #[.int .i64 0,.int .i64 0,.int .i64 0,.int .i64 0,.int .i64 0] 58):=rR
 clear rX rR b1
 by_cases q24:op=24
 ·subst q24
  go_wp2_with fail
  exact bodyPost_ret (res1 rfl Tryz.underlying58 rfl (by kernel_rfl) rfl (HR.out.set5' _ _ _ _ _)) rfl ⟨ret_in (x:=⟨3,dst,a,0,0⟩) (y:=instrOf ⟨24,dst,a,b,c,k⟩) (by simp[instrOf]),HB.out _ _ _ _ _⟩
 have e24:(op==24)=false:=by simp[q24]
 by_cases q3:op=3
 ·subst q3
  go_wp2_with fail
  exact bodyPost_ret (res1 rfl Tryz.underlying58 rfl (by kernel_rfl) rfl (HR.out.set5' _ _ _ _ _)) rfl ⟨ret_in (x:=⟨3,dst,a,0,0⟩) (y:=instrOf ⟨3,dst,a,b,c,k⟩) (by simp[instrOf]),HB.out _ _ _ _ _⟩
 have e3:(op==3)=false:=by simp[q3]
 by_cases q26:op=26
 ·subst q26
  go_wp2_with fail
  exact bodyPost_ret (res1 rfl Tryz.underlying58 rfl (by kernel_rfl) rfl (HR.out.set5' _ _ _ _ _)) rfl ⟨ret_in (x:=⟨27,dst,a,b,c⟩) (y:=instrOf ⟨26,dst,a,b,c,k⟩) (by simp[instrOf]),HB.out _ _ _ _ _⟩
 have e26:(op==26)=false:=by simp[q26]
 by_cases q27:op=27
 ·subst q27
  go_wp2_with fail
  exact bodyPost_ret (res1 rfl Tryz.underlying58 rfl (by kernel_rfl) rfl (HR.out.set5' _ _ _ _ _)) rfl ⟨ret_in (x:=⟨27,dst,a,b,c⟩) (y:=instrOf ⟨27,dst,a,b,c,k⟩) (by simp[instrOf]),HB.out _ _ _ _ _⟩
 have e27:(op==27)=false:=by simp[q27]
 by_cases q1:op=1
 ·subst q1
  go_wp2_with fail
  exact bodyPost_ret (res1 rfl Tryz.underlying58 rfl (by kernel_rfl) rfl (HR.out.set5' _ _ _ _ _)) rfl ⟨ret_in (x:=⟨1,dst,0,0,k⟩) (y:=instrOf ⟨1,dst,a,b,c,k⟩) (by simp[instrOf]),HB.out _ _ _ _ _⟩
 have e1:(op==1)=false:=by simp[q1]
 by_cases q2:op=2
 ·subst q2
  go_wp2_with fail
  exact bodyPost_ret (res1 rfl Tryz.underlying58 rfl (by kernel_rfl) rfl (HR.out.set5' _ _ _ _ _)) rfl ⟨ret_in (x:=⟨2,dst,0,0,k⟩) (y:=instrOf ⟨2,dst,a,b,c,k⟩) (by simp[instrOf]),HB.out _ _ _ _ _⟩
 have e2:(op==2)=false:=by simp[q2]
 by_cases q21:op=21
 ·subst q21
  go_wp2_with fail
  exact bodyPost_ret (res1 rfl Tryz.underlying58 rfl (by kernel_rfl) rfl (HR.out.set5' _ _ _ _ _)) rfl ⟨ret_in (x:=⟨21,dst,0,0,k⟩) (y:=instrOf ⟨21,dst,a,b,c,k⟩) (by simp[instrOf]),HB.out _ _ _ _ _⟩
 have e21:(op==21)=false:=by simp[q21]
 have HI:Hid (instrOf ⟨op,dst,a,b,c,k⟩=⟨op,dst,a,b,0⟩):=by
  show _=_
  simp[instrOf,q24,q3,q26,q27,q1,q2,q21]
 clear q24 q3 q26 q27 q1 q2 q21
 go_wp2_with fail
 exact bodyPost_ret (res1 rfl Tryz.underlying58 rfl (by kernel_rfl) rfl (HR.out.set5' _ _ _ _ _)) rfl ⟨ret_in (x:=⟨op,dst,a,b,0⟩) HI.out.symm,HB.out _ _ _ _ _⟩
theorem gd_two {x:Gd} {w:World} {g:Nat} {t:TypeId} (h:Row w g #[.int .i64 x.wire,.bool x.no] t):w.cell? ⟨g,0,none⟩=some (.int .i64 x.wire)∧w.cell? ⟨g,1,none⟩=some (.bool x.no):=⟨h.cell 0,h.cell 1⟩
set_option maxRecDepth 100000 in
set_option maxHeartbeats 8000000 in
theorem skips_any {w:World} {B:Nat} (clock:List Gd) (v:Value) (n:Nat) (h:SlV w B 2 isGd v clock) (hB:B≤w.heap.size) (hl:clock.length≤1600) (hn:n≤100000):
  Calls Tryz.prog 29 #[v,.int .i64 (n:Int)] w fun e w'=>∃v',e= .returned v'∧w'.ownsRow w.heap.size 58 5 v' (skipsOf clock n).length (in5F (skipsOf clock n))∧Below w.heap.size w w':=by
 obtain ⟨i0,hi0,hz0,hz1,hz2⟩:=info_parts info_in5
 obtain ⟨Ag,cg,rfl,lg,mg,sg⟩:=h
 have mg':cg≤9223372036854775807:=by unfold maxLen at mg;omega
 have HSL:=Lib.hid (fun W (hW:Below w.heap.size w W)=>sg.below (hW.mono hB))
 have HLN:=Lib.hid (skipsOf_len clock n)
 clear sg
 go_enter Tryz.func29,Tryz.ntmps29
 go_wp2_with fail
 go_loopw[5,11] (fun v5 i wr=>∃k:Nat,k≤clock.length∧i= .int .i64 k∧wr.ownsRow w.heap.size 58 5 v5 k (in5F ((skipsOf clock n).take k))∧Below w.heap.size w wr) (fun _ i _=>clock.length-(intOf i).toNat)
 case atStart=>exact ⟨0,Nat.zero_le _,rfl,World.ownsRow_nil _ _ _ _,Below.refl _ _⟩
 case round=>
  obtain ⟨k,hk,rfl,ho,hb⟩:=hrel
  have hsr:=hb.size
  by_cases hlt:k<clock.length
  ·obtain ⟨b,off,⟨gw,gn⟩,rfl,hb',hx,wx,d0,d1⟩:=(HSL.out _ hb).gd hlt
   have HX:=Lib.hid hx
   dsimp only at d0 d1
   clear hx
   have rX:=Row.new wr #[.int .i64 gw,.bool gn] 86
   have b3:Below wr.heap.size wr (wr.alloc (.cells #[.int .i64 gw,.bool gn] 86)):=bE
   go_upto_region 5 with (fail)
   generalize wr.alloc (.cells #[.int .i64 gw,.bool gn] 86)=w3 at*
   have hs3:=b3.size
   have HO:=Lib.hid (own_below ho b3)
   have HB3:=Lib.hid (hb.trans (b3.mono hsr))
   have hs3':=HB3.out.size
   obtain ⟨g0,g1⟩:=gd_two (x:=⟨gw,gn⟩) rX
   dsimp only at g0 g1
   have hov:((clock.length:Int)-1-k+n)≤200000:=by omega
   have HTK:Hid (in5F ((skipsOf clock n).take (k+1))=in5F ((skipsOf clock n).take k)++in5C ⟨if gn=true then 31 else 30,gw,0,0,(clock.length:Int)-1-k+n⟩):=by
    show _=_
    rw[take_snoc' (skips_get clock n k ⟨gw,gn⟩ HX.out),in5F_append]
    simp[in5F]
   generalize in5F ((skipsOf clock n).take k)=LL at*
   clear d0 d1 rX ho b3
   have HK:=HO
   cases gn
   ·go_wp2_with (at_builtin;refine wpList_append_own _ rfl _ _ 35 rfl w.heap.size 58 i0 (.agg zi5) 5 40 Tryz.underlying35 hi0 hz0 hz1 hz2 rfl (by decide) _ _ _ rfl (HO.out.alloc _) ⟨w3.heap.size,0,none⟩ 1 1 (in5C ⟨30,gw,0,0,(clock.length:Int)-1-k+n⟩) rfl rfl (cells_new _ _ _) (in5C_one _) (by unfold maxLen;omega) (by omega) (by simp;omega) ?_)
    intro v' w4 hown hgrow _
    have HB:=Lib.hid (HB3.out.trans (below_own ((Below.refl w.heap.size w3).alloc hs3' _) (HO.out.alloc _) hgrow (by simp;omega)))
    have HO':Hid (w4.ownsRow w.heap.size 58 5 v' (k+1) (in5F ((skipsOf clock n).take (k+1)))):=by
     show World.ownsRow _ _ _ _ _ _ _
     rw[HTK.out];exact hown
    clear hown hgrow
    go_wp2_with fail
    go_roundw
    case rel=>exact ⟨k+1,by omega,by go_num,HO'.out,HB.out⟩
    case measure=>simp[intOf];omega
   ·go_wp2_with (at_builtin;refine wpList_append_own _ rfl _ _ 35 rfl w.heap.size 58 i0 (.agg zi5) 5 40 Tryz.underlying35 hi0 hz0 hz1 hz2 rfl (by decide) _ _ _ rfl (HO.out.alloc _) ⟨w3.heap.size,0,none⟩ 1 1 (in5C ⟨31,gw,0,0,(clock.length:Int)-1-k+n⟩) rfl rfl (cells_new _ _ _) (in5C_one _) (by unfold maxLen;omega) (by omega) (by simp;omega) ?_)
    intro v' w4 hown hgrow _
    have HB:=Lib.hid (HB3.out.trans (below_own ((Below.refl w.heap.size w3).alloc hs3' _) (HO.out.alloc _) hgrow (by simp;omega)))
    have HO':Hid (w4.ownsRow w.heap.size 58 5 v' (k+1) (in5F ((skipsOf clock n).take (k+1)))):=by
     show World.ownsRow _ _ _ _ _ _ _
     rw[HTK.out];exact hown
    clear hown hgrow
    go_wp2_with fail
    go_roundw
    case rel=>exact ⟨k+1,by omega,by go_num,HO'.out,HB.out⟩
    case measure=>simp[intOf];omega
  ·obtain rfl:k=clock.length:=by omega
   have HO:=Lib.hid ho
   clear ho
   go_wp2_with fail
   go_ret
   refine ⟨_,rfl,?_,hb⟩
   have:=HO.out
   rw[←HLN.out,List.take_length] at this
   exact this
set_option maxRecDepth 100000 in
set_option maxHeartbeats 8000000 in
theorem types_any {w:World} {B:Nat} {f:Fm} {vw va vc vk vi vo:Value} (h:FmAt w B f vw va vc vk vi vo) (hB:B≤w.heap.size) (l:List Int) (v:Value) (hv:SlV w B 1 isInt v l) (hl:l.length≤1600) (hw:∀n∈l,isW f n):
  Calls Tryz.prog 24 #[fmV vw va vc vk vi vo,v] w fun e w'=>∃v',e= .returned v'∧w'.ownsRow w.heap.size 3 1 v' l.length (ints (l.map (tyOf f)))∧(∀x∈l.map (tyOf f),Wf x)∧Below w.heap.size w w':=by
 obtain ⟨i0,hi0,hz0,hz1,hz2⟩:=info_parts info_int
 obtain ⟨Al,cl,rfl,ll,ml,sl⟩:=hv
 have ml':cl≤9223372036854775807:=by unfold maxLen at ml;omega
 have b1:Below w.heap.size w (w.alloc (.cells #[vw,va,vc,vk,vi,vo] 28)):=bE
 have rF1:=Row.new w #[vw,va,vc,vk,vi,vo] 28
 have HSL:=Lib.hid (fun W (hW:Below w.heap.size w W)=>sl.below (hW.mono hB))
 have HFM:=Lib.hid (fun W (hW:Below w.heap.size w W)=>h.below (hW.mono hB))
 have HW:=Lib.hid hw
 obtain ⟨Aw,cw,rfl,lw,mw,_⟩:=h.wires
 have mw':cw≤9223372036854775807:=by unfold maxLen at mw;omega
 clear sl h hw
 go_enter Tryz.func24,Tryz.ntmps24
 go_upto_region 1 with (fail)
 generalize w.alloc (.cells #[.slice Aw f.wires.length cw,va,vc,vk,vi,vo] 28)=w1 at*
 have hs1:=b1.size
 have hGl:=rF1.lt
 have HF6:Hid (∀W,Below w1.heap.size w1 W→W.cell? ⟨w.heap.size,0,none⟩=some (.slice Aw f.wires.length cw)):=fun W hW=>(rF1.below hW hGl).cell 0
 have f0:=HF6.out _ (Below.refl _ _)
 go_wp2_with fail
 clear f0
 go_loopw[5,10] (fun v5 i wr=>∃k:Nat,k≤l.length∧i= .int .i64 k∧wr.ownsRow w1.heap.size 3 1 v5 k (ints ((l.take k).map (tyOf f)))∧Below w1.heap.size w1 wr) (fun _ i _=>l.length-(intOf i).toNat)
 case atStart=>exact ⟨0,Nat.zero_le _,rfl,World.ownsRow_nil _ _ _ _,Below.refl _ _⟩
 case round=>
  obtain ⟨k,hk,rfl,ho,hbr⟩:=hrel
  have hszr:=hbr.size
  have hb:=b1.trans (hbr.mono hs1)
  by_cases hlt:k<l.length
  ·obtain ⟨b,off,n,rfl,hb',hx,wx,d0⟩:=(HSL.out _ hb).int hlt
   obtain ⟨m,b6,off6,cw6,Ag6,cg6,rfl,hm,hvw,_,_,_,wt6,y0,_,_,_,_⟩:=fm_wire (HFM.out _ hb) (HW.out n (List.mem_of_getElem? hx))
   injection hvw with h1 h2 h3
   subst h1;subst h3
   have hm':(m:Int)<f.wires.length:=by omega
   have HTK:Hid (ints ((l.take (k+1)).map (tyOf f))=ints ((l.take k).map (tyOf f))++ [.int .i64 (tyOf f m)]):=by
    show _=_
    rw[take_snoc' hx,List.map_append,List.map_singleton,ints_snoc]
   have f0:=HF6.out _ hbr
   generalize tyOf f (m:Int)=T at*
   generalize ints ((l.take k).map (tyOf f))=LL at*
   have HO:=Lib.hid ho
   clear hx wx wt6 ho h2
   go_wp2_with (at_builtin;refine wpList_append_own _ rfl _ _ 26 rfl w1.heap.size 3 i0 (.int .i64 0) 1 8 Tryz.underlying26 hi0 hz0 hz1 hz2 rfl (by decide) _ _ _ rfl (HO.out.alloc _) ⟨wr.heap.size,0,none⟩ 1 1 [.int .i64 T] rfl rfl (cells_new _ _ _) (by intro u hu;simp at hu;subst hu;rfl) (by unfold maxLen;omega) (by omega) (by simp;omega) ?_)
   intro v' w4 hown hgrow _
   have HB:=Lib.hid (hbr.trans (below_own ((Below.refl w1.heap.size wr).alloc hszr _) (HO.out.alloc _) hgrow (by simp;omega)))
   have HO':Hid (w4.ownsRow w1.heap.size 3 1 v' (k+1) (ints ((l.take (k+1)).map (tyOf f)))):=by
    show World.ownsRow _ _ _ _ _ _ _
    rw[HTK.out];exact hown
   clear hown hgrow
   go_wp2_with fail
   go_roundw
   case rel=>exact ⟨k+1,by omega,by go_num,HO'.out,HB.out⟩
   case measure=>simp[intOf];omega
  ·obtain rfl:k=l.length:=by omega
   have HWF:Hid (∀x∈l.map (tyOf f),Wf x):=fun x hx=>by
    obtain ⟨n,hn,rfl⟩:=List.mem_map.1 hx
    obtain ⟨_,_,_,_,_,_,_,_,_,_,_,_,wt,_⟩:=fm_wire (HFM.out _ hb) (HW.out n hn)
    exact wt
   have HO:=Lib.hid ho
   clear ho
   go_wp2_with fail
   go_ret
   refine ⟨_,rfl,?_,HWF.out,hb⟩
   have:=HO.out
   rw[List.take_length] at this
   exact own_low this hs1
end Go.Proofs.YtbjaejgechadpaaGreat
namespace Go.Proofs.YtbjaejgechadpaaGreat
open Go.RowKit Vf Fo
attribute [local go_sem ↓] Go.wp_at_zero Go.wp_at_succ
theorem quiet_of1 {P:Program} {f:FuncId} {args:Array Value} {w:World} {n:Nat} {v:Value}
  (h:Calls P f args (w.drewN n) fun e w'=>e= .returned v∧∃m,w'=(w.drewN n).drewN m):Calls P f args (w.drewN n) fun e w''=>e= .returned v∧∃m,w''=w.drewN m:=
 h.mono fun _ _ ⟨he,m,hm⟩=>⟨he,n+m,by rw[hm,World.drewN_drewN]⟩
structure FrI (base P:Nat) (w w':World):Prop where
 os:w'.os=w.os
 tape:w'.tape=w.tape
 output:w'.output=w.output
 size:w.heap.size≤w'.heap.size
 block:∀k,k<w.heap.size→k≠P→(k<base∨∀cur fz,w.heap[k]?≠some (.cells cur 58 fz))→w'.heap[k]? =w.heap[k]?
section
variable {base P:Nat} {a w w':World}
theorem FrI.refl (base P:Nat) (w:World):FrI base P w w:=⟨rfl,rfl,rfl,Nat.le_refl _,fun _ _ _ _=>rfl⟩
theorem FrI.trans (h:FrI base P a w) (g:FrI base P w w'):FrI base P a w':=
 ⟨g.os.trans h.os,g.tape.trans h.tape,g.output.trans h.output,Nat.le_trans h.size g.size,fun k hk hP hh=>by
  have e:=h.block k hk hP hh
  exact (g.block k (Nat.lt_of_lt_of_le hk h.size) hP (hh.imp id fun q cur fz=>by rw[e];exact q cur fz)).trans e⟩
theorem FrI.of_below (h:Below w.heap.size w w'):FrI base P w w':=⟨h.os,h.tape,h.output,h.size,fun k hk _ _=>h.block k hk⟩
theorem FrI.below (h:FrI base P w w') (hb:base≤P) (hw:base≤w.heap.size):Below base w w':=⟨h.os,h.tape,h.output,h.size,fun k hk=>h.block k (by omega) (by omega) (.inl hk)⟩
theorem FrI.set {i:Nat} (v:Value):FrI base P w (w.setCell ⟨P,i,none⟩ v):=by
 have u:=Upd.setCell (X:=fun k=>k=P) (p:=⟨P,i,none⟩) (Upd.refl _ w) rfl v
 exact ⟨u.os,u.tape,u.output,u.size,fun k hk hP _=>u.block k hk hP⟩
theorem FrI.grown {v:Value} {n size:Nat} {xs:List Value} (ho:w.ownsRow base 58 size v n xs) (hg:w.grownBy w' v.ownBlock):FrI base P w w':=by
 refine ⟨hg.os,hg.tape,hg.output,hg.size,fun k hk hP hh=>hg.block k hk fun e=>?_⟩
 rcases ho.2 with ⟨h0,_⟩|⟨g,c,cur,h1,h2,h3,_⟩
 ·subst h0;cases e
 ·subst h1
  have e':k=g:=by injection e
  subst e'
  rcases hh with hh|hh
  ·omega
  ·exact hh cur (0,0) h3
theorem FrI.row {b:Nat} {cs:Array Value} {t:TypeId} (h:FrI base P w w') (r:Row w b cs t) (hb:b≠P) (ht:t≠58):Row w' b cs t:=
 (h.block b r.lt hb (.inr fun cur fz e=>by
  have e2:=r
  unfold Row at e2
  rw[e] at e2
  injection e2 with e2
  injection e2 with _ e2 _
  exact ht e2.symm)).trans r
theorem FrI.own {b size n:Nat} {e:TypeId} {v:Value} {xs:List Value} (h:FrI base P w w') (ho:w.ownsRow b e size v n xs) (he:e≠58) (hP:∀k,v.ownBlock=some k→k≠P):w'.ownsRow b e size v n xs:=by
 refine ⟨ho.1,?_⟩
 rcases ho.2 with h0|⟨g,c,cur,h1,h2,h3,h4⟩
 ·exact .inl h0
 ·exact .inr ⟨g,c,cur,h1,h2,(h.block g (Array.getElem?_eq_some_iff.1 h3).1 (hP g (by rw[h1];rfl)) (.inr fun cur' fz q=>by
   rw[q] at h3
   injection h3 with h3
   injection h3 with _ h3 _
   exact he h3.symm)).trans h3,h4⟩
end
abbrev stV (x:In5) (v:Value):Value:= .agg #[.int .i64 x.op,.int .i64 x.a,.int .i64 x.b,.int .i64 x.c,.int .i64 x.k,v]
abbrev Stv:=Stp × Value
def isStp (w:World) (B:Nat) (s:Stv) (cs:List Value):Prop:=cs=[.int .i64 s.1.1.op,.int .i64 s.1.1.a,.int .i64 s.1.1.b,.int .i64 s.1.1.c,.int .i64 s.1.1.k,s.2]∧In5Ok s.1.1∧SlV w B 2 isGd s.2 s.1.2
theorem sl_stp {w:World} {B C:Nat} {A:Option Addr} {l:List Stv} {k:Nat} (h:Sl w B 6 (isStp w C) A l) (hk:k<l.length):∃b off s,A=some ⟨b,off,none⟩∧b<B∧l[k]? =some s∧In5Ok s.1.1∧SlV w C 2 isGd s.2 s.1.2∧
  w.cell? ⟨b,off+k*6,none⟩=some (.int .i64 s.1.1.op)∧w.cell? ⟨b,off+k*6+1,none⟩=some (.int .i64 s.1.1.a)∧w.cell? ⟨b,off+k*6+2,none⟩=some (.int .i64 s.1.1.b)∧
  w.cell? ⟨b,off+k*6+3,none⟩=some (.int .i64 s.1.1.c)∧w.cell? ⟨b,off+k*6+4,none⟩=some (.int .i64 s.1.1.k)∧w.cell? ⟨b,off+k*6+5,none⟩=some s.2:=by
 obtain ⟨b,off,x,cs,h1,h2,h3,⟨rfl,h4,h6⟩,h5⟩:=h.at_ hk
 exact ⟨b,off,x,h1,h2,h3,h4,h6,h5 0 _ rfl,h5 1 _ rfl,h5 2 _ rfl,h5 3 _ rfl,h5 4 _ rfl,h5 5 _ rfl⟩
set_option maxRecDepth 100000 in
set_option maxHeartbeats 8000000 in
theorem runs1_any {w:World} {B C:Nat} (s s0:Stv) (rest:List Stv) (vl:Value) (L:Nat) (_hB:B≤w.heap.size) (hC:C≤w.heap.size) (hv:SlV w C 2 isGd s.2 s.1.2) (hl:SlV w B 6 (isStp w C) vl rest) (h0:rest[0]? =some s0) (hL:w.cell? ⟨L,0,none⟩=some vl):
  Calls Tryz.prog 54 #[stV s.1.1 s.2,.pointer (some ⟨L,0,none⟩)] w fun e w'=>e= .returned (.bool (!cB (s.1.2=s0.1.2)))∧Below w.heap.size w w':=by
 obtain ⟨⟨⟨xo,xa,xb,xc,xk⟩,clk⟩,v⟩:=s
 dsimp only at hv⊢
 obtain ⟨Al,cl,rfl,ll,ml,sl⟩:=hl
 have hpos:0<rest.length:=(List.getElem?_eq_some_iff.1 h0).1
 obtain ⟨b,off,⟨⟨x0,clk0⟩,v0⟩,rfl,hbB,h0',_,hv0,d0,d1,d2,d3,d4,d5⟩:=sl_stp sl hpos
 obtain rfl:((x0,clk0),v0)=s0:=Option.some.inj (h0'.symm.trans h0)
 dsimp only at hv0 d5⊢
 simp only[Nat.zero_mul,Nat.add_zero] at d5
 have b1:Below w.heap.size w (w.alloc (.cells #[.int .i64 xo,.int .i64 xa,.int .i64 xb,.int .i64 xc,.int .i64 xk,v] 68)):=bE
 have rS:=Row.new w #[.int .i64 xo,.int .i64 xa,.int .i64 xb,.int .i64 xc,.int .i64 xk,v] 68
 have hL1:=cell_kept hL b1
 have d51:=cell_kept d5 b1
 obtain ⟨Ag,cg,rfl,lg,mg,sg⟩:=hv
 obtain ⟨Ag0,cg0,rfl,lg0,mg0,sg0⟩:=hv0
 have q5:=rS.cell 5
 simp only[List.getElem?_toArray,List.getElem?_cons_zero,List.getElem?_cons_succ] at q5
 have HC:=Lib.hid (fun W (hW:Below w.heap.size w W) k=>eqGuards_any clk clk0 (.slice Ag clk.length cg) (.slice Ag0 clk0.length cg0) C (W.drewN k) ⟨_,_,rfl,lg,mg,sg.below ((below_drewN' hW k).mono hC)⟩ ⟨_,_,rfl,lg0,mg0,sg0.below ((below_drewN' hW k).mono hC)⟩)
 have ml':cl≤9223372036854775807:=by unfold maxLen at ml;omega
 have hpos':(0:Int)<rest.length:=by omega
 obtain ⟨Q,hQ⟩:∃Q:Bool,Q=cB (clk=clk0):=⟨_,rfl⟩
 rw[←hQ] at HC⊢
 clear sl h0 h0' hL d0 d1 d2 d3 d4 d5 sg sg0 hQ
 go_enter Tryz.func54,Tryz.ntmps54
 go_upto_region 1 with (fail)
 generalize w.alloc (.cells #[.int .i64 xo,.int .i64 xa,.int .i64 xb,.int .i64 xc,.int .i64 xk,.slice Ag clk.length cg] 68)=w1 at*
 have HB1:=Lib.hid b1
 generalize clk0.length=len0 at*
 generalize clk.length=len1 at*
 go_wp2_with fail
 go_quiet ((go_at_call 55;exact quiet_of1 (HC.out _ HB1.out _)))
 go_wp2_with fail
 go_ret
 exact ⟨rfl,by first|exact HB1.out|exact below_drewN' HB1.out _⟩
set_option maxRecDepth 100000 in
set_option maxHeartbeats 8000000 in
theorem idx_any {w:World} {B C:Nat} (rest:List Stv) (s0:Stv) (vl:Value) (L:Nat) (hB:B≤w.heap.size) (hC:C≤w.heap.size) (hl:∀W,Below w.heap.size w W→SlV W B 6 (isStp W C) vl rest) (h0:rest[0]? =some s0) (hL:w.cell? ⟨L,0,none⟩=some vl):
  Calls Tryz.prog 53 #[vl,.func (.func 54) #[] #[.pointer (some ⟨L,0,none⟩)]] w fun e w'=>(∃n:Int,e= .returned (.int .i64 n)∧-1≤n∧n≤rest.length∧n≠0∧Hid (∀j:Nat,(n= -1∨(j:Int)<n)→∀s,rest[j]? =some s→s.1.2=s0.1.2))∧Below w.heap.size w w':=by
 have hF:=enters_of Tryz.func54 (by kernel_rfl) rfl
 have HS:=Lib.hid hl
 have H0:=Lib.hid h0
 have HLL:=Lib.hid hL
 obtain ⟨Al,cl,rfl,ll,ml,_⟩:=hl w (Below.refl _ _)
 have ml':cl≤9223372036854775807:=by unfold maxLen at ml;omega
 clear hl h0 hL
 go_enter Tryz.func53,Tryz.ntmps53
 go_wp2_with fail
 go_loopw[8] (fun i wr=>∃j:Nat,j≤rest.length∧i= .int .i64 j∧Hid (∀q:Nat,q<j→∀s,rest[q]? =some s→s.1.2=s0.1.2)∧Below w.heap.size w wr) (fun i _=>rest.length-(intOf i).toNat)
 case atStart=>exact ⟨0,Nat.zero_le _,rfl,fun q h=>absurd h (by omega),Below.refl _ _⟩
 case round=>
  obtain ⟨j,hj,rfl,HN,hbr⟩:=hrel
  have hszr:=hbr.size
  by_cases hlt:j<rest.length
  ·obtain ⟨A',c',hA',_,_,sl⟩:=HS.out wr hbr
   injection hA' with hA1 _ hA3
   subst hA1;subst hA3
   obtain ⟨b,off,⟨⟨⟨xo,xa,xb,xc,xk⟩,clk⟩,v⟩,rfl,hbB,hx,_,hv,d0,d1,d2,d3,d4,d5⟩:=sl_stp sl hlt
   dsimp only at hv d0 d1 d2 d3 d4 d5
   have HC:=Lib.hid (runs1_any ⟨⟨⟨xo,xa,xb,xc,xk⟩,clk⟩,v⟩ s0 rest _ L (Nat.le_trans hB hszr) (Nat.le_trans hC hszr) hv (HS.out wr hbr) H0.out (cell_kept HLL.out hbr))
   have HX:=Lib.hid hx
   have H00:Hid (j=0→clk=s0.1.2):=fun g=>by
    subst g
    have:=HX.out.symm.trans H0.out
    injection this with this
    rw[←this]
   have hj':(j:Int)<rest.length:=by omega
   clear hx hv sl
   by_cases hq:clk=s0.1.2
   ·have HQ:=Lib.hid (cB_true hq)
    have HN':=Lib.hid (upto_succ HN.out (fun s hs=>by rw[HX.out] at hs;injection hs with hs;rw[←hs];exact hq))
    dsimp only at HC
    rw[HQ.out] at HC
    clear hq
    go_wp2_with fail
    refine HC.out.mono ?_
    rintro r w3 ⟨rfl,hb3⟩
    have hB3:=hbr.trans (hb3.mono hszr)
    clear d0 d1 d2 d3 d4 d5
    go_wp2_with fail
    go_roundw
    case rel=>exact ⟨j+1,by omega,by go_num,HN',hB3⟩
    case measure=>first|(simp[intOf];omega)|simp[intOf]
   ·have HQ:=Lib.hid (cB_false hq)
    have hjn:j≠0:=fun g=>hq (H00.out g)
    dsimp only at HC
    rw[HQ.out] at HC
    clear hq
    go_wp2_with fail
    refine HC.out.mono ?_
    rintro r w3 ⟨rfl,hb3⟩
    have hB3:=hbr.trans (hb3.mono hszr)
    clear d0 d1 d2 d3 d4 d5
    go_wp2_with fail
    go_ret
    exact ⟨⟨j,rfl,by omega,by omega,by omega,fun q hq s hs=>HN.out q (by omega) s hs⟩,hB3⟩
  ·obtain rfl:j=rest.length:=by omega
   go_wp2_with fail
   go_ret
   exact ⟨⟨-1,rfl,by omega,by omega,by omega,fun q _ s hs=>HN.out q (List.getElem?_eq_some_iff.1 hs).1 s hs⟩,hbr⟩
end Go.Proofs.YtbjaejgechadpaaGreat
