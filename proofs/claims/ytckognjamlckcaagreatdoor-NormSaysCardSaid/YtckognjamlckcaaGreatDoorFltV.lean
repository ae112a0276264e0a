/-
  flat.late: is an expression late, and is nothing in it wrong? flat's looker: ports and wires. flat's looker: wires.
-/
import Derived.Test.YtckognjamlckcaaGreatDoorFltG
set_option maxHeartbeats 8000000
set_option maxRecDepth 100000
namespace Go.Proofs.YtckognjamlckcaaGreatDoor.Fo
open Vf
section
variable {e x:Ex}
theorem yo {l:List Nat} (h:∀x∈l,x<=1):dz l=if (l.any (·==1))=true then 1 else 0:=by
 induction l with
 |nil=>rfl
 |cons z l ih=>
  have h1:=h z (by simp)
  have h2:=ih (fun x hx=>h x (List.mem_cons_of_mem _ hx))
  have:z=0\/z=1:=by omega
  simp only[dz,List.any_cons,Bool.or_eq_true,beq_iff_eq]
  rw[h2]
  rcases this with rfl|rfl
  ·simp
  ·simp only[true_or,if_true]
   split<;>rfl
theorem sC (e:Ex):bf e<=2:=by
 induction e using Ex.ind with
 |h e ih=>
  rw[jb]
  unfold jA
  split
  ·omega
  rename_i h2
  have h1:∀y∈e.args.map bf,y<=1:=fun y hy=>by
   obtain ⟨x,hx,rfl⟩:=List.mem_map.1 hy
   have:=ih x hx
   have h3:bf x≠2:=fun g=>h2 (by rw[<-g];exact hy)
   omega
  have h3:dz (e.args.map bf)<=1:=iW h1
  have h4:(e.args.map bf).headD 0<=1:=by
   cases q:e.args.map bf with
   |nil=>simp
   |cons y l=>exact h1 y (by rw[q];simp)
  repeat' split
  all_goals omega
noncomputable def jH (e:Ex) (k:Nat):Bool:=((e.args.take k).map bf).any (·==1)
noncomputable def jy (e:Ex) (k:Nat):Bool:=((e.args.take k).map bf).headD 0==1
theorem xn {k:Nat} (h:e.args[k]? =some x):jH e (k+1)=(jH e k||(bf x==1)):=by
 unfold jH;rw[dy bf h];simp
theorem uT {k:Nat} (h:e.args[k]? =some x):jy e (k+1)=(jy e k||((bf x==1) && ((k:Int)==0))):=by
 unfold jy
 rw[dy bf h]
 cases k with
 |zero=>simp
 |succ k=>
  have hl:0<e.args.length:=by have:=(List.getElem?_eq_some_iff.1 h).1;omega
  cases ha:e.args with
  |nil=>rw[ha] at hl;simp at hl
  |cons y l=>
   have:(((k+1:Nat):Int)==0)=false:=by rw[beq_eq_false_iff_ne];omega
   rw[this]
   simp
theorem wj {k:Nat} (h:e.args[k]? =some x) (h2:bf x=2):bf e=2:=by
 rw[jb,jA,if_pos]
 rw[<-h2]
 exact List.mem_map_of_mem (List.mem_of_getElem? h)
theorem zS (h:∀i,i<e.args.length->∀x,e.args[i]? =some x->bf x≠2):bf e=if e.op=21 then (if jH e e.args.length=true then 2 else 1) else if e.op=22\/e.op=26 then (if jH e e.args.length=true then 2 else 0) else if e.op=23 then (if jy e e.args.length=true then 2 else 0) else if jH e e.args.length=true then 1 else 0:=by
 have h1:∀y∈e.args.map bf,y<=1:=fun y hy=>by
  obtain ⟨x,hx,rfl⟩:=List.mem_map.1 hy
  obtain ⟨i,hi⟩:=List.getElem?_of_mem hx
  have:=h i (List.getElem?_eq_some_iff.1 hi).1 x hi
  have:=sC x
  omega
 rw[jb,jA,if_neg (fun g=>by have:=h1 2 g;omega),yo h1]
 unfold jH jy
 rw[List.take_length]
 have h4:(e.args.map bf).headD 0<=1:=by
  cases q:e.args.map bf with
  |nil=>simp
  |cons y l=>exact h1 y (by rw[q];simp)
 generalize (e.args.map bf).headD 0=hd at*
 generalize (e.args.map bf).any (·==1)=an
 have:hd=0\/hd=1:=by omega
 rcases this with rfl|rfl<;>cases an<;>simp
end
end Go.Proofs.YtckognjamlckcaaGreatDoor.Fo
namespace Go.Proofs.YtckognjamlckcaaGreatDoor
open Go.RowKit Vf Fo
attribute [local go_sem ↓] Go.wp_at_zero Go.wp_at_succ
def DO (e:Ex) (w:World) (r:Ending) (w':World):Prop:=(∃b ok:Bool,r= .returned (.tuple #[.bool b,.bool ok])/\(ok=true↔bf e≠2)/\(ok=true->(b=true↔bf e=1)))/\Below w.heap.size w w'
theorem vL (e:Ex):∀(A:Option Addr) (cap:Nat) (w:World),cW e->e.args.length<=cap->cap<=maxLen->aM w w.heap.size A e.args->
  Calls Tryz.prog 102 #[bz e A cap] w (DO e w):=by
 induction e using Ex.ind with
 |h e ih=>
  intro A cap w hok hcap hmax hx
  have HI:=zH ih
  have b1:Below w.heap.size w (w.alloc (.cells (bi e A cap) 75)):=bE
  have rX:=ai.new w (bi e A cap) 75
  have HXS:=zH (fun W (hW:Below w.heap.size w W)=>(hx.below hW).more hW.size)
  have hcm:e.args.length<=9223372036854775807:=by unfold maxLen at hmax;omega
  unfold maxLen at hmax
  clear ih hx hok
  go_enter Tryz.func102,Tryz.ntmps102
  go_upto_region 2 with (fail)
  generalize w.alloc (.cells (bi e A cap) 75)=w1 at*
  have hXl:=rX.lt
  have hs1:=b1.size
  have HRE:=zH (fun W (hW:Below w1.heap.size w1 W)=>(rX.below hW hXl).six')
  obtain ⟨c0,c1,c2',c3,c4,c5⟩:=rX.six'
  clear rX
  go_wp2_with fail
  clear c0 c1 c2' c3 c4 c5
  go_loopw[2,4,12] (fun v2 v4 i wr=>∃k:Nat,k<=e.args.length/\i= .int .i64 k/\v2= .bool (jH e k)/\v4= .bool (jy e k)/\Hid (∀i,i<k->∀x,e.args[i]? =some x->bf x≠2)/\Hid (Below w1.heap.size w1 wr)) (fun _ _ i _=>e.args.length-(intOf i).toNat)
  case atStart=>exact ⟨0,Nat.zero_le _,rfl,rfl,rfl,(fun i hi=>absurd hi (by omega)),Below.refl _ _⟩
  case round=>
   obtain ⟨k,hk,rfl,rfl,rfl,HG,HBR⟩:=hrel
   have hb:=b1.trans (HBR.o.mono hs1)
   have hbs:=hb.size
   have hrs:=HBR.o.size
   by_cases hlt:k<e.args.length
   ·obtain ⟨b,off,x,A',cap',rfl,hbb,hxk,hxm,hok',hcap',hmax',hx',d0,d1,d2,d3,d4,d5⟩:=(HXS.o _ hb).at_ hlt
    have hk':(k:Int)<e.args.length:=by omega
    have bx:Below wr.heap.size wr (wr.alloc (.cells (bi x A' cap') 75)):=bE
    have HC:=zH (HI.o x hxm A' cap' _ hok' hcap' hmax' ((hx'.below bx).more bx.size))
    have HS1:=zH (xn hxk)
    have HS2:=zH (uT hxk)
    have HST:=zH (fun g=>wj hxk g)
    have HXK:=zH hxk
    have HB4:=zH (HBR.o.trans (bx.mono hrs))
    have HW4:=zH (hb.trans (bx.mono hbs))
    clear hxk hxm hok' hcap' hmax' hx' hb
    go_wp2_with fail
    (with_reducible refine HC.o.mono ?_)
    rintro r w6 ⟨⟨bb,ok,rfl,h1,h2⟩,hb6⟩
    have HB6:=zH (HB4.o.trans (hb6.mono HB4.o.size))
    have HW6:=zH (HW4.o.trans (hb6.mono HW4.o.size))
    clear d0 d1 d2 d3 d4 d5 HC bx hb6
    cases ok
    ·have HF:Hid (bf e=2):=HST.o (Decidable.byContradiction fun g=>by cases h1.2 g)
     clear h1 h2
     go_wp2_with fail
     go_ret2
     exact ⟨⟨_,_,rfl,by rw[HF.o];decide,by simp⟩,HW6.o⟩
    ·have HG':Hid (∀i,i<k+1->∀x,e.args[i]? =some x->bf x≠2):=fun i hi y hy=>by
      rcases Nat.lt_succ_iff_lt_or_eq.1 hi with hi|rfl
      ·exact HG.o i hi y hy
      ·rw[HXK.o] at hy
       injection hy with hy
       rw[<-hy]
       exact h1.1 rfl
     have hbb:bb=(bf x==1):=by rw[Bool.eq_iff_iff,beq_iff_eq];exact h2 rfl
     have H1:=zH HS1.o
     have H2:=zH HS2.o
     rw[<-hbb] at H1 H2
     obtain ⟨q,hq⟩:∃q,((k:Int)==0)=q:=⟨_,rfl⟩
     rw[hq] at H2
     clear hbb h1 h2 HS1 HS2 HST
     generalize jH e k=i0 at*
     generalize jy e k=f0 at*
     cases i0<;>cases f0<;>cases bb<;>cases q
     all_goals
      go_wp2_with fail
      go_roundw
      case rel=>exact ⟨k+1,by omega,by go_num,by rw[H1.o];rfl,by rw[H2.o];rfl,HG',HB6⟩
      case measure=>simp[intOf];omega
   ·obtain rfl:k=e.args.length:=by omega
    have HF:=zH (zS HG.o)
    obtain ⟨c0,c1,c2',c3,c4,c5⟩:=HRE.o _ HBR.o
    have HB:=zH hb
    generalize jH e e.args.length=i0 at*
    generalize jy e e.args.length=f0 at*
    by_cases o21:e.op=21
    ·have o21':(e.op==21)=true:=by simp[o21]
     have HN:=zH (HF.o.trans (if_pos o21))
     clear o21 HF
     cases i0
     all_goals
      go_wp2_with fail
      go_ret2
      exact ⟨⟨_,_,rfl,by rw[HN.o];decide,by rw[HN.o];decide⟩,HB.o⟩
    have o21':(e.op==21)=false:=by simp[o21]
    have HF2:=zH (HF.o.trans (if_neg o21))
    clear o21 HF
    by_cases o22:e.op=22\/e.op=26
    ·have HN:=zH (HF2.o.trans (if_pos o22))
     have hop:(e.op==22)=true\/((e.op==22)=false/\(e.op==26)=true):=by
      rcases o22 with g|g
      ·exact .inl (by rw[g];rfl)
      ·exact .inr ⟨by rw[g];rfl,by rw[g];rfl⟩
     clear o22 HF2
     rcases hop with h22|⟨h22,h26⟩<;>cases i0
     all_goals
      go_wp2_with fail
      go_ret2
      exact ⟨⟨_,_,rfl,by rw[HN.o];decide,by rw[HN.o];decide⟩,HB.o⟩
    have o22':(e.op==22)=false:=by rw[beq_eq_false_iff_ne];omega
    have o26':(e.op==26)=false:=by rw[beq_eq_false_iff_ne];omega
    have HF3:=zH (HF2.o.trans (if_neg o22))
    clear o22 HF2
    by_cases o23:e.op=23
    ·have o23':(e.op==23)=true:=by simp[o23]
     have HN:=zH (HF3.o.trans (if_pos o23))
     clear o23 HF3
     cases f0
     all_goals
      go_wp2_with fail
      go_ret2
      exact ⟨⟨_,_,rfl,by rw[HN.o];decide,by rw[HN.o];decide⟩,HB.o⟩
    have o23':(e.op==23)=false:=by simp[o23]
    have HN:=zH (HF3.o.trans (if_neg o23))
    clear o23 HF3
    cases i0
    all_goals
     go_wp2_with fail
     go_ret2
     exact ⟨⟨_,_,rfl,by rw[HN.o];decide,by rw[HN.o];decide⟩,HB.o⟩
theorem tW {w:World} {B D:Nat} {f:Fl} {vw vd vi vo vb:Value} (h:dU w B D f vw vd vi vo vb) (l:List Int) (v:Value) (hv:aI w B 1 aP v l):
  Calls Tryz.prog 76 #[.pointer (some ⟨D,0,none⟩),v] w fun e w'=>e= .returned (.bool (cB (bG f.fm l)))/\w=w':=by
 refine' zq207
 have HFK:=zH h
 have q0:=h.row.cell 0
 have HSV:=zH sv
 clear h sv
 go_enter Tryz.func76,Tryz.ntmps76
 go_wp2_with fail
 go_loopw[9] (fun i wr=>∃k:Nat,k<=l.length/\i= .int .i64 k/\Hid (∀j,j<k->∀n,l[j]? =some n->jW f.fm n)/\w=wr) (fun i _=>l.length-(intOf i).toNat)
 case atStart=>exact ⟨0,Nat.zero_le _,rfl,(fun j h=>absurd h (by omega)),rfl⟩
 case round=>
  obtain ⟨k,hk,rfl,HN,rfl⟩:=hrel
  by_cases hlt:k<l.length
  ·obtain ⟨b,off,n,rfl,hbb,hn,wn,d⟩:=HSV.o.int hlt
   have HK:=zH hn
   clear hn
   have HC:=zH (lK HFK.o n)
   by_cases hw:ak f.fm n
   ·rw[aq hw] at HC
    obtain ⟨m,b',off',cw,Ag,cg,hnm,hm,hvw,lw,mw,hbB,d0,d1,lg,mg,sg⟩:=dT HFK.o.fl hw
    subst hvw
    refine' zq288
    clear hw sg
    generalize (aa f.fm m).length=L at*
    by_cases hg:0<L
    ·have HF:=zH (ab (gB (f:=f.fm) HK.o (fun g=>by have:=HPA.o.1 g;omega)))
     have hg':decide ((0:Int)<(L:Int))=true:=by simp;omega
     refine' zq56
     refine' zq163
     exact ⟨aj HF.o.symm,rfl⟩
    ·have HN':=zH (aC HN.o (fun n' hn'=>by rw[HK.o] at hn';injection hn' with hn';rw[<-hn'];exact HPA.o.2 (by omega)))
     have hg':decide ((0:Int)<(L:Int))=false:=by simp;omega
     refine' zq56
     rintro e w' ⟨rfl,rfl⟩
     go_wp2_with fail
     go_roundw
     case rel=>exact ⟨k+1,by omega,by go_num,HN'.o,trivial⟩
     case measure=>simp[intOf];omega
   ·rw[ab hw] at HC
    have HF:=zH (ab (gB (f:=f.fm) HK.o (fun g=>hw g.1)))
    clear hw
    refine' zq56
    refine' zq163
    exact ⟨aj HF.o.symm,rfl⟩
  ·obtain rfl:k=l.length:=by omega
   have HF:=zH (bu (lD HN.o))
   go_wp2_with fail
   all_goals
    go_ret
    refine ⟨aj ?_,rfl⟩
    rw[HF.o,Bool.eq_iff_iff,cb]
    simp
    try omega
theorem jF {f:Fl} {k:Nat} {x:Wr} (h:f.wires[k]? =some x) (hn:¬eL f.fm x):¬de f:=fun g=>hn (g.1 x (List.mem_of_getElem? h))
theorem ur {f:Fl} (h:∀j,j<f.wires.length->∀x,f.wires[j]? =some x->eL f.fm x):de f↔1<=f.wires.length/\f.wires.length<=400:=by
 refine ⟨fun g=>g.2,fun g=>⟨fun x hx=>?_,g⟩⟩
 obtain ⟨j,hj⟩:=List.getElem?_of_mem hx
 exact h j (List.getElem?_eq_some_iff.1 hj).1 x hj
theorem tT {w:World} {B D:Nat} {f:Fl} {vw vd vi vo vb:Value} (h:dU w B D f vw vd vi vo vb):
  Calls Tryz.prog 75 #[.pointer (some ⟨D,0,none⟩)] w fun e w'=>e= .returned (.bool (cB (de f)))/\Below w.heap.size w w':=by
 obtain ⟨Aw,cw,rfl,lw,mw,sw⟩:=h.fl.wires
 refine' zq62
 have HFK:=zH (fun W (hW:Below w.heap.size w W)=>h.below hW)
 have hBD:B<=D:=h.lo
 have hDl:D<w.heap.size:=h.row.lt
 have HW:Hid (∀W,Below w.heap.size w W->Sl W B 2 (fu W B) Aw f.wires):=fun W hW=>by
  obtain ⟨A',c',he,_,_,s'⟩:=(h.below hW).fl.wires
  injection he with he1
  subst he1
  exact s'
 have HR:Hid (∀W,Below w.heap.size w W->W.cell? ⟨D,0,none⟩=some (.slice Aw f.wires.length cw)):=fun W hW=>(h.below hW).row.cell 0
 have c0:=HR.o w (Below.refl _ _)
 clear h sw
 go_enter Tryz.func75,Tryz.ntmps75
 go_wp2_with fail
 clear c0
 go_loopw[13] (fun i wr=>∃k:Nat,k<=f.wires.length/\i= .int .i64 k/\Hid (∀j,j<k->∀x,f.wires[j]? =some x->eL f.fm x)/\Below w.heap.size w wr) (fun i _=>f.wires.length-(intOf i).toNat)
 case atStart=>exact ⟨0,Nat.zero_le _,rfl,fun j h=>absurd h (by omega),Below.refl _ _⟩
 case round=>
  obtain ⟨k,hk,rfl,HN,hb⟩:=hrel
  have hsb:=hb.size
  by_cases hlt:k<f.wires.length
  rotate_left 1
  ·obtain rfl:k=f.wires.length:=by omega
   have c0:=HR.o wr hb
   have HF:=zH (bu (ur HN.o))
   refine' zq246
  refine' zq73
  by_cases ht:x.ty=1\/x.ty=2
  rotate_left 1
  ·have t1:(x.ty !=1)=true:=by rw[bne_iff_ne];omega
   have t2:(x.ty !=2)=true:=by rw[bne_iff_ne];omega
   have HF:=zH (ab (jF HX.o (fun g=>ht g.1)))
   clear ht
   go_wp2_with fail
   go_ret
   exact ⟨aj HF.o.symm,hB1⟩
  have HTO:=zH ht
  have hts:(x.ty !=1)=false\/((x.ty !=1)=true/\(x.ty !=2)=false):=by
   rcases ht with g|g
   ·exact .inl (by rw[g];rfl)
   ·exact .inr ⟨by rw[g];rfl,by rw[g];rfl⟩
  clear ht
  go_cut[24] (fun v W=>v= .bool false/\W=w1)
  case first=>
   rcases hts with g|⟨g,g'⟩
   all_goals
    go_wp2_with fail
    go_meet
    exact ⟨rfl,rfl⟩
  case rest=>
  obtain ⟨rfl,hwc⟩:=hcut
  subst hwc
  go_wp2_with fail
  clear c0 c1 hts
  refine' zq148
  go_loopw[28] (fun i w2=>∃m:Nat,m<=x.clock.length/\i= .int .i64 m/\Hid (∀j,j<m->∀g,x.clock[j]? =some g->ob f.fm x j g)/\Below wc.heap.size wc w2) (fun i _=>x.clock.length-(intOf i).toNat)
  case atStart=>exact ⟨0,Nat.zero_le _,rfl,fun j h=>absurd h (by omega),Below.refl _ _⟩
  case round=>
   obtain ⟨m,hm,rfl,HM,hb2⟩:=hrel
   obtain ⟨w2,rfl⟩:∃w2:World,w2=wr:=⟨_,rfl⟩
   have hs2:=hb2.size
   have hB2:=hB1.trans (hb2.mono hsB1)
   by_cases hml:m<x.clock.length
   rotate_left 1
   ·obtain rfl:m=x.clock.length:=by omega
    have HN':=zH (aC HN.o (fun y hy=>by rw[HX.o] at hy;injection hy with hy;rw[<-hy];exact (⟨HTO.o,fun i g hg=>HM.o i (List.getElem?_eq_some_iff.1 hg).1 g hg⟩:eL f.fm x)))
    go_wp2_with fail
    go_roundw
    case rel=>exact ⟨k+1,by omega,by go_num,HN',hB2⟩
    case measure=>simp[intOf];omega
   refine' zq97
   have hl3:w2.heap.size<w3.heap.size:=rg.lt
   have hl1:wo.heap.size<w3.heap.size:=r3.lt
   have HS:Hid (∀W,Below w3.heap.size w3 W->W.cell? ⟨D,0,none⟩=some (.slice (some ⟨b,off,none⟩) f.wires.length cw)/\W.cell? ⟨w2.heap.size,0,none⟩=some (.int .i64 gw)/\W.cell? ⟨wo.heap.size,1,none⟩=some (.slice (some ⟨bg,og,none⟩) x.clock.length cg)):=fun W hW=>⟨HR.o W (hB3.trans (hW.mono hsB3)),(rg.below hW hl3).two'.1,(r3.below hW hl1).two'.2⟩
   have HI:Hid (∀W V,Below w3.heap.size w3 W->cB (ak f.fm gw)=V->Calls Tryz.prog 96 #[.pointer (some ⟨D,0,none⟩),.int .i64 gw] W fun e w'=>e= .returned (.bool V)/\W=w'):=fun W V hW hV=>by
    have:=lK (HFK.o W (hB3.trans (hW.mono hsB3))) gw
    rw[hV] at this
    exact this
   by_cases hw:ak f.fm gw
   rotate_left 1
   ·have hV:=zH (ab hw)
    have HF:=zH (ab (jF HX.o (iU HGG.o (fun q=>hw q.1))))
    refine' zq259
    refine tk 0 (some 33) rfl ?_
    refine tk 1 (some 34) rfl ?_
    refine tk 2 (some 35) rfl ?_
    refine aH 3 (some 36) rfl (fun KK hKK=>?_)
    go_simp
    go_at_call 96;refine Calls.mono (HI.o _ _ bE hV.out) ?_;rintro e w5 ⟨rfl,rfl⟩
    (try go_wp2_with fail)
    refine' zq237
    refine tk 4 (some 37) rfl ?_
    refine tk 5 (some 38) rfl ?_
    refine sk 6 (some 39) rfl ?_
    refine sk 7 (some 40) rfl ?_
    refine sk 8 (some 41) rfl ?_
    refine sk 9 (some 42) rfl ?_
    refine sk 10 (some 43) rfl ?_
    refine sk 11 (some 44) rfl ?_
    refine sk 12 (some 45) rfl ?_
    refine sk 13 (some 46) rfl ?_
    refine sk 14 (some 47) rfl ?_
    refine sk 15 (some 48) rfl ?_
    refine sk 16 (some 49) rfl ?_
    refine' zq91
   refine' zq173
   have HY:Hid (ag f.fm n=y.ty/\aa f.fm n=y.clock):=by
    show _/\_
    unfold ag aa
    rw[show jZ f.fm (n:Int)=y from bW hy]
    exact ⟨rfl,rfl⟩
   clear hy
   have my':cy<=9223372036854775807:=by unfold maxLen at my;omega
   have HSY:Hid (∀W,Below w3.heap.size w3 W->W.cell? ⟨D,0,none⟩=some (.slice (some ⟨b,off,none⟩) f.wires.length cw)/\W.cell? ⟨w2.heap.size,0,none⟩=some (.int .i64 (n:Int))/\W.cell? ⟨wo.heap.size,1,none⟩=some (.slice (some ⟨bg,og,none⟩) x.clock.length cg)/\W.cell? ⟨b,off+n*2,none⟩=some (.int .i64 y.ty)/\W.cell? ⟨b,off+n*2+1,none⟩=some (.slice Ay y.clock.length cy)):=fun W hW=>⟨(HS.o W hW).1,(HS.o W hW).2.1,(HS.o W hW).2.2,cell_kept y0 hW,cell_kept y1 hW⟩
   by_cases ht:y.ty=2
   rotate_left 1
   ·have ht':(y.ty !=2)=true:=by simp[ht]
    have HF:=zH (ab (jF HX.o (iU HGG.o (fun q=>ht (by rw[<-HY.o.1];exact q.2.1)))))
    clear ht hw y0 y1
    refine' zq88
    go_at_call 96;refine Calls.mono (HI.o _ _ bE hV.out) ?_;rintro e w5 ⟨rfl,rfl⟩
    refine' zq144
    refine' zq91
   refine' zq74
   obtain ⟨V2,hV2⟩:∃V2,cB (y.clock=x.clock.take m)=V2:=⟨_,rfl⟩
   have HV2:=zH hV2
   clear hV2
   have h9:Below wc.heap.size wc w3:=hb2.trans (bb.mono hs2)
   have h99:=h9.size
   go_cut[68] (fun v W=>v= .bool (!V2)/\Below w3.heap.size w3 W)
   case first=>
    refine' zq88
    (go_at_call 96;refine Calls.mono (HI.o _ _ bE hV.out) ?_;rintro e w5 ⟨rfl,rfl⟩)
    refine' zq144
    refine tk 17 (some 50) rfl ?_
    refine tk 18 (some 51) rfl ?_
    refine tk 19 (some 52) rfl ?_
    refine tk 20 (some 53) rfl ?_
    refine tk 21 (some 54) rfl ?_
    refine tk 22 (some 55) rfl ?_
    refine tk 23 (some 56) rfl ?_
    refine tk 24 (some 57) rfl ?_
    refine tk 25 (some 58) rfl ?_
    refine tk 26 (some 59) rfl ?_
    refine tk 27 (some 60) rfl ?_
    refine tk 28 (some 61) rfl ?_
    refine tk 29 (some 62) rfl ?_
    refine tk 30 (some 63) rfl ?_
    refine tk 31 (some 64) rfl ?_
    refine tk 32 (some 65) rfl ?_
    refine aH 33 (some 66) rfl (fun KK hKK=>?_)
    go_simp
    (go_at_call 59;refine Calls.mono (HE.o _ _ ?hbb HV2.o) ?_;(case hbb=>exact bE);rintro e w6 ⟨rfl,q,rfl⟩)
    refine' zq85
    refine tk 34 (some 67) rfl ?_
    refine tk 35 (some 68) rfl ?_
    refine' zq26
    go_meet
    exact ⟨rfl,bE⟩
   case rest=>
   obtain ⟨rfl,hbd⟩:=hcut
   have HBD:=zH (h9.trans (hbd.mono h99))
   have HBW:=zH (hB3.trans (hbd.mono hsB3))
   cases V2
   ·have hc:¬y.clock=x.clock.take m:=fun q=>by have h:=HV2.o;rw[aq q] at h;cases h
    have HF:=zH (ab (jF HX.o (iU HGG.o (fun q=>hc (HY.o.2.symm.trans q.2.2)))))
    clear hc
    go_wp2_with fail
    go_ret
    exact ⟨aj HF.o.symm,HBW.o⟩
   ·have hc:=cb.1 HV2.o
    have HM':=zH (aC HM.o (fun g' hg'=>by rw[HGG.o] at hg';injection hg' with hg';rw[<-hg'];exact (⟨hW.out,HY.o.1.trans HTY.o,HY.o.2.trans hc⟩:ob f.fm x m ⟨n,gno⟩)))
    clear hc
    go_wp2_with fail
    go_roundw
    case rel=>exact ⟨m+1,by omega,by go_num,HM',HBD.o⟩
    case measure=>simp[intOf];omega
end Go.Proofs.YtckognjamlckcaaGreatDoor
