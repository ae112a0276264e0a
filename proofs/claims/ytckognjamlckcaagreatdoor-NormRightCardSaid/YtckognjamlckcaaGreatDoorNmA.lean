/-
  Forms in memory. norm's looker in memory; its small methods. norm's looker: ports. slices.Contains of a row of numbers. tompionref01.Ints. Arguments that read as data, opened: forms.
-/
import Derived.Test.YtckognjamlckcaaGreatDoorPlainA
import Derived.Test.YtckognjamlckcaaGreatDoorLookA
import Derived.Test.YtckognjamlckcaaGreatDoorMem
import Derived.Laws.StructEq
import Derived.Deep.DrawnRows
namespace Go.Proofs.YtckognjamlckcaaGreatDoor
open Go.RowKit Vf Fo
def isGd (g:Gd) (cs:List Value):Prop:=cs=[.int .i64 g.wire,.bool g.no]∧Wf g.wire
def isWr (w:World) (B:Nat) (x:Wr) (cs:List Value):Prop:=∃v,cs=[.int .i64 x.ty,v]∧Wf x.ty∧SlV w B 2 isGd v x.clock
structure AcIn (x:Ac):Prop where
 op:Wf x.op
 dst:Wf x.dst
 a:Wf x.a
 b:Wf x.b
 c:Wf x.c
 k:Wf x.k
def isAc (x:Ac) (cs:List Value):Prop:=cs=[.int .i64 x.op,.int .i64 x.dst,.int .i64 x.a,.int .i64 x.b,.int .i64 x.c,.int .i64 x.k]∧AcIn x
abbrev acV (x:Ac):Value:= .agg #[.int .i64 x.op,.int .i64 x.dst,.int .i64 x.a,.int .i64 x.b,.int .i64 x.c,.int .i64 x.k]
theorem isWr.keep {w w':World} {B B':Nat} {x:Wr} {cs:List Value} (h:isWr w B x cs) (hk:∀(p:Addr) (u:Value),p.block<B→w.cell? p=some u→w'.cell? p=some u) (hB:B≤B'):isWr w' B' x cs:=by
 obtain ⟨v,h1,h2,h3⟩:=h
 exact ⟨v,h1,h2,h3.keep hk hB (fun _ _ _ h=>h)⟩
structure FmAt (w:World) (B:Nat) (f:Fm) (vw va vc vk vi vo:Value):Prop where
 wires:SlV w B 2 (isWr w B) vw f.wires
 acts:SlV w B 6 isAc va f.acts
 cells:SlV w B 2 isCell vc f.cells
 keeps:SlV w B 2 isCell vk f.keeps
 ins:SlV w B 1 isInt vi f.ins
 outs:SlV w B 1 isInt vo f.outs
abbrev fmV (vw va vc vk vi vo:Value):Value:= .agg #[vw,va,vc,vk,vi,vo]
section
variable {w w':World} {B B':Nat} {f:Fm} {vw va vc vk vi vo:Value}
theorem FmAt.keep (h:FmAt w B f vw va vc vk vi vo) (hk:∀(p:Addr) (u:Value),p.block<B→w.cell? p=some u→w'.cell? p=some u) (hB:B≤B'):FmAt w' B' f vw va vc vk vi vo:=
 ⟨h.wires.keep hk hB (fun _ _ _ g=>g.keep hk hB),h.acts.keep hk hB (fun _ _ _ g=>g),h.cells.keep hk hB (fun _ _ _ g=>g),h.keeps.keep hk hB (fun _ _ _ g=>g),h.ins.keep hk hB (fun _ _ _ g=>g),h.outs.keep hk hB (fun _ _ _ g=>g)⟩
theorem FmAt.below (h:FmAt w B f vw va vc vk vi vo) (hb:Below B w w'):FmAt w' B f vw va vc vk vi vo:=h.keep (fun _ _ hp hc=>(hb.cell hp).trans hc) (Nat.le_refl _)
theorem FmAt.next (h:FmAt w w.heap.size f vw va vc vk vi vo) (hb:Below w.heap.size w w'):FmAt w' w'.heap.size f vw va vc vk vi vo:=h.keep (fun _ _ hp hc=>(hb.cell hp).trans hc) hb.size
end
theorem Sl.gd {w:World} {B:Nat} {A:Option Addr} {l:List Gd} {k:Nat} (h:Sl w B 2 isGd A l) (hk:k<l.length):∃b off x,A=some ⟨b,off,none⟩∧b<B∧l[k]? =some x∧Wf x.wire∧
  w.cell? ⟨b,off+k*2,none⟩=some (.int .i64 x.wire)∧w.cell? ⟨b,off+k*2+1,none⟩=some (.bool x.no):=by
 obtain ⟨b,off,x,cs,h1,h2,h3,⟨rfl,h4⟩,h5⟩:=h.at_ hk
 exact ⟨b,off,x,h1,h2,h3,h4,h5 0 _ rfl,h5 1 _ rfl⟩
theorem Sl.wr {w:World} {B:Nat} {A:Option Addr} {l:List Wr} {k:Nat} (h:Sl w B 2 (isWr w B) A l) (hk:k<l.length):∃b off x Ag cg,A=some ⟨b,off,none⟩∧b<B∧l[k]? =some x∧Wf x.ty∧
  w.cell? ⟨b,off+k*2,none⟩=some (.int .i64 x.ty)∧w.cell? ⟨b,off+k*2+1,none⟩=some (.slice Ag x.clock.length cg)∧x.clock.length≤cg∧cg≤maxLen∧Sl w B 2 isGd Ag x.clock:=by
 obtain ⟨b,off,x,cs,h1,h2,h3,⟨v,rfl,h4,Ag,cg,rfl,h6,h7,h8⟩,h5⟩:=h.at_ hk
 exact ⟨b,off,x,Ag,cg,h1,h2,h3,h4,h5 0 _ rfl,h5 1 _ rfl,h6,h7,h8⟩
theorem Sl.ac {w:World} {B:Nat} {A:Option Addr} {l:List Ac} {k:Nat} (h:Sl w B 6 isAc A l) (hk:k<l.length):∃b off x,A=some ⟨b,off,none⟩∧b<B∧l[k]? =some x∧AcIn x∧
  w.cell? ⟨b,off+k*6,none⟩=some (.int .i64 x.op)∧w.cell? ⟨b,off+k*6+1,none⟩=some (.int .i64 x.dst)∧w.cell? ⟨b,off+k*6+2,none⟩=some (.int .i64 x.a)∧
  w.cell? ⟨b,off+k*6+3,none⟩=some (.int .i64 x.b)∧w.cell? ⟨b,off+k*6+4,none⟩=some (.int .i64 x.c)∧w.cell? ⟨b,off+k*6+5,none⟩=some (.int .i64 x.k):=by
 obtain ⟨b,off,x,cs,h1,h2,h3,⟨rfl,h4⟩,h5⟩:=h.at_ hk
 exact ⟨b,off,x,h1,h2,h3,h4,h5 0 _ rfl,h5 1 _ rfl,h5 2 _ rfl,h5 3 _ rfl,h5 4 _ rfl,h5 5 _ rfl⟩
end Go.Proofs.YtckognjamlckcaaGreatDoor
namespace Go.Proofs.YtckognjamlckcaaGreatDoor
open Go.RowKit Vf Fo
attribute [local go_sem ↓] Go.wp_at_zero Go.wp_at_succ
theorem gd_ext {x y:Gd} (h1:x.wire=y.wire) (h2:x.no=y.no):x=y:=by cases x;cases y;simp_all
theorem gds_eq {l m:List Gd} (hl:l.length=m.length) (h:∀j,j<l.length→∀x y,l[j]? =some x→m[j]? =some y→x=y):l=m:=by
 apply List.ext_getElem hl
 intro i h1 h2
 exact h i h1 _ _ (List.getElem?_eq_getElem h1) (List.getElem?_eq_getElem h2)
theorem ntruth_any (kind n:Int) (w:World):
  Calls Tryz.prog 57 #[.int .i64 kind,.int .i64 n] w fun e w'=>e= .returned (.bool (cB (valueOk kind n)))∧w=w':=by
 go_enter Tryz.func57,Tryz.ntmps57
 go_wp2
 all_goals
  go_ret
  refine ⟨ret_bool ?_,rfl⟩
  rw[Bool.eq_iff_iff,cB_iff]
  simp[valueOk]
  omega
set_option maxRecDepth 100000 in
set_option maxHeartbeats 2000000 in
theorem eqGuards_any (l m:List Gd) (v1 v2:Value) (B:Nat) (w:World) (h1:SlV w B 2 isGd v1 l) (h2:SlV w B 2 isGd v2 m):
  Calls Tryz.prog 59 #[v1,v2] w fun e w'=>e= .returned (.bool (cB (l=m)))∧∃n,w'=w.drewN n:=by
 obtain ⟨A1,c1,rfl,l1,m1,s1⟩:=h1
 obtain ⟨A2,c2,rfl,l2,m2,s2⟩:=h2
 have m1':c1≤9223372036854775807:=by unfold maxLen at m1;omega
 have m2':c2≤9223372036854775807:=by unfold maxLen at m2;omega
 by_cases hl:l.length=m.length
 rotate_left 1
 ·have HF:=Lib.hid (cB_false (fun g:l=m=>hl (by rw[g])))
  have hl':((l.length:Int) !=(m.length:Int))=true:=by rw[bne_iff_ne];omega
  clear hl
  go_enter Tryz.func59,Tryz.ntmps59
  go_wp2_with fail
  go_ret
  exact ⟨ret_bool HF.out.symm,0,rfl⟩
 have hl':((l.length:Int) !=(m.length:Int))=false:=by rw[bne_eq_false_iff_eq];omega
 have HL:=Lib.hid hl
 have hle1:l.length≤m.length:=by omega
 clear hl
 go_enter Tryz.func59,Tryz.ntmps59
 go_wp2_with fail
 go_loopw[13] (fun i wr=>∃k:Nat,k≤l.length∧i= .int .i64 k∧Hid (∀j,j<k→∀x y,l[j]? =some x→m[j]? =some y→x=y)∧∃n,wr=w.drewN n) (fun i _=>l.length-(intOf i).toNat)
 case atStart=>exact ⟨0,Nat.zero_le _,rfl,fun j h=>absurd h (by omega),0,rfl⟩
 case round=>
  obtain ⟨k,hk,rfl,HN,n,rfl⟩:=hrel
  by_cases hlt:k<l.length
  ·obtain ⟨b1,o1,x,rfl,hb1,hx,wx,d1,d1'⟩:=s1.gd hlt
   obtain ⟨b2,o2,y,rfl,hb2,hy,wy,d2,d2'⟩:=s2.gd (show k<m.length by omega)
   have HX:=Lib.hid hx
   have HY:=Lib.hid hy
   clear hx hy
   have hk1:(k:Int)<l.length:=by omega
   have hk2:(k:Int)<m.length:=by omega
   have hk0:(0:Int)≤(k:Int):=by omega
   by_cases e1:x.wire=y.wire
   ·have e1':(x.wire==y.wire)=true:=by simp[e1]
    by_cases e2:x.no=y.no
    ·have e2':(x.no==y.no)=true:=by simp[e2]
     have HN':=Lib.hid (upto_succ HN.out (fun x' y' hx' hy'=>by rw[HX.out] at hx';rw[HY.out] at hy';injection hx' with hx';injection hy' with hy';rw[←hx',←hy'];exact gd_ext e1 e2))
     clear e1 e2
     go_wp2_with fail
     go_quiet (fail)
     go_wp2_with fail
     go_roundw
     case rel=>exact ⟨k+1,by omega,by go_num,HN',by first|exact ⟨_,rfl⟩|(rw[World.drewN_drewN];exact ⟨_,rfl⟩)⟩
     case measure=>simp[intOf];omega
    ·have e2':(x.no==y.no)=false:=by simp[e2]
     have HF:=Lib.hid (cB_false (fun g:l=m=>e2 (by have:=HX.out;rw[g,HY.out] at this;injection this with this;rw[this])))
     clear e1 e2
     go_wp2_with fail
     go_quiet (fail)
     go_wp2_with fail
     go_ret
     exact ⟨ret_bool HF.out.symm,by first|exact ⟨_,rfl⟩|(rw[World.drewN_drewN];exact ⟨_,rfl⟩)⟩
   ·have e1':(x.wire==y.wire)=false:=by simp[e1]
    have HF:=Lib.hid (cB_false (fun g:l=m=>e1 (by have:=HX.out;rw[g,HY.out] at this;injection this with this;rw[this])))
    clear e1
    go_wp2_with fail
    go_quiet (fail)
    go_wp2_with fail
    go_ret
    exact ⟨ret_bool HF.out.symm,by first|exact ⟨_,rfl⟩|(rw[World.drewN_drewN];exact ⟨_,rfl⟩)⟩
  ·obtain rfl:k=l.length:=by omega
   have HF:=Lib.hid (cB_true (gds_eq HL.out HN.out))
   go_wp2_with fail
   go_ret
   exact ⟨ret_bool HF.out.symm,by first|exact ⟨_,rfl⟩|(rw[World.drewN_drewN];exact ⟨_,rfl⟩)⟩
structure NkAt (w:World) (B L:Nat) (f:Fm) (vw va vc vk vi vo vb ve:Value):Prop where
 row:Row w L #[vw,va,vc,vk,vi,vo,vb,ve] 55
 fm:FmAt w B f vw va vc vk vi vo
def allW (f:Fm) (l:List Int):Prop:=∀n∈l,isW f n
theorem allW_no {f:Fm} {l:List Int} {k:Nat} {n:Int} (h:l[k]? =some n) (hn:¬isW f n):¬allW f l:=fun g=>hn (g n (List.mem_of_getElem? h))
theorem allW_yes {f:Fm} {l:List Int} (h:∀j,j<l.length→∀n,l[j]? =some n→isW f n):allW f l:=fun n hn=>by
 obtain ⟨j,hj⟩:=List.getElem?_of_mem hn
 exact h j (List.getElem?_eq_some_iff.1 hj).1 n hj
set_option maxRecDepth 100000 in
set_option maxHeartbeats 2000000 in
theorem nis_any {w:World} {B L:Nat} {f:Fm} {vw va vc vk vi vo vb ve:Value} (h:NkAt w B L f vw va vc vk vi vo vb ve) (l:List Int) (v:Value) (B':Nat) (hv:SlV w B' 1 isInt v l):
  Calls Tryz.prog 58 #[.pointer (some ⟨L,0,none⟩),v] w fun e w'=>e= .returned (.bool (cB (allW f l)))∧w=w':=by
 have q0:w.cell? ⟨L,0,none⟩=some vw:=h.row.cell 0
 obtain ⟨Aw,cw,rfl,lw,mw,sw⟩:=h.fm.wires
 obtain ⟨Av,cv,rfl,lv,mv,sv⟩:=hv
 have mv':cv≤9223372036854775807:=by unfold maxLen at mv;omega
 clear h sw
 go_enter Tryz.func58,Tryz.ntmps58
 go_wp2_with fail
 go_loop[9] (fun i=>∃k:Nat,k≤l.length∧i= .int .i64 k∧Hid (∀j,j<k→∀n,l[j]? =some n→isW f n)) (fun i=>l.length-(intOf i).toNat)
 case atStart=>exact ⟨0,Nat.zero_le _,rfl,fun j h=>absurd h (by omega)⟩
 case round=>
  obtain ⟨k,hk,rfl,HN⟩:=hrel
  by_cases hlt:k<l.length
  ·obtain ⟨b,off,n,rfl,hb,hn,wn,d⟩:=sv.int hlt
   have HK:=Lib.hid hn
   clear hn
   by_cases hw:isW f n
   ·have HN':=Lib.hid (upto_succ HN.out (fun n' hn'=>by rw[HK.out] at hn';injection hn' with hn';rw[←hn'];exact hw))
    have hw1:0≤n:=hw.1
    have hw2:n<f.wires.length:=hw.2
    clear hw
    go_wp2_with fail
    go_round
    case rel=>exact ⟨k+1,by omega,by go_num,HN'⟩
    case measure=>simp[intOf];omega
   ·have HF:=Lib.hid (cB_false (allW_no HK.out hw))
    have hw':n<0∨(0≤n∧(f.wires.length:Int)≤n):=by unfold isW at hw;omega
    clear hw
    rcases hw' with hw|⟨hw,hw2⟩
    all_goals
     go_wp2_with fail
     go_ret
     exact ⟨ret_bool HF.out.symm,rfl⟩
  ·obtain rfl:k=l.length:=by omega
   have HF:=Lib.hid (cB_true (allW_yes HN.out))
   go_wp2_with fail
   go_ret
   exact ⟨ret_bool HF.out.symm,rfl⟩
end Go.Proofs.YtckognjamlckcaaGreatDoor
namespace Go.Proofs.YtckognjamlckcaaGreatDoor
open Go.RowKit Vf Fo
attribute [local go_sem ↓] Go.wp_at_zero Go.wp_at_succ
theorem NkAt.below {w w':World} {B L:Nat} {f:Fm} {vw va vc vk vi vo vb ve:Value} (h:NkAt w B L f vw va vc vk vi vo vb ve) (hB:B≤w.heap.size) (hb:Below w.heap.size w w'):NkAt w' B L f vw va vc vk vi vo vb ve:=⟨h.row.below hb h.row.lt,h.fm.below (hb.mono hB)⟩
theorem wAt_some {f:Fm} {n:Nat} {x:Wr} (h:f.wires[n]? =some x):wAt f n=x:=by simp[wAt,List.getD_eq_getElem?_getD,h]
def portAt (f:Fm) (n:Int):Prop:=isW f n∧clockOf f n=[]
theorem ports_no {f:Fm} {l:List Int} {k:Nat} {n:Int} (h:l[k]? =some n) (hn:¬portAt f n):¬portsOk f l:=fun g=>hn (g.1 n (List.mem_of_getElem? h))
theorem ports_yes {f:Fm} {l:List Int} (h:∀j,j<l.length→∀n,l[j]? =some n→portAt f n):portsOk f l↔1≤l.length∧l.length≤8:=by
 refine ⟨fun g=>g.2,fun g=>⟨fun n hn=>?_,g⟩⟩
 obtain ⟨j,hj⟩:=List.getElem?_of_mem hn
 exact h j (List.getElem?_eq_some_iff.1 hj).1 n hj
theorem one_slv {w:World} {n:Int} (hn:Wf n):SlV (w.alloc (.cells #[.int .i64 n] 3)) (w.heap.size+1) 1 isInt (.slice (some ⟨w.heap.size,0,none⟩) 1 1) [n]:=by
 refine ⟨_,_,rfl,Nat.le_refl _,by unfold maxLen;omega,fun _=>⟨_,_,rfl,by omega,fun i x hx=>?_⟩⟩
 match i,hx with
 |0,hx=>
  simp at hx
  subst hx
  refine ⟨[.int .i64 n],fun j u hu=>?_,rfl,hn⟩
  match j,hu with
  |0,hu=>
   simp at hu
   subst hu
   exact (Row.new w #[.int .i64 n] 3).cell 0
theorem allW_one {f:Fm} {n:Int}:allW f [n]↔isW f n:=⟨fun h=>h n (by simp),fun h m hm=>by simp at hm;rw[hm];exact h⟩
set_option maxRecDepth 100000 in
set_option maxHeartbeats 2000000 in
theorem nports_any {w:World} {B L:Nat} {f:Fm} {vw va vc vk vi vo vb ve:Value} (h:NkAt w B L f vw va vc vk vi vo vb ve) (hB:B≤w.heap.size) (l:List Int) (v:Value) (hv:SlV w B 1 isInt v l):
  Calls Tryz.prog 25 #[.pointer (some ⟨L,0,none⟩),v] w fun e w'=>e= .returned (.bool (cB (portsOk f l)))∧Below w.heap.size w w':=by
 have HK0:=Lib.hid h
 obtain ⟨Aw,cw,rfl,lw,mw,sw⟩:=h.fm.wires
 obtain ⟨Av,cv,rfl,lv,mv,sv⟩:=hv
 have mv':cv≤9223372036854775807:=by unfold maxLen at mv;omega
 have mw':cw≤9223372036854775807:=by unfold maxLen at mw;omega
 clear h sw
 go_enter Tryz.func25,Tryz.ntmps25
 go_wp2_with fail
 go_loopw[9] (fun i wr=>∃k:Nat,k≤l.length∧i= .int .i64 k∧Hid (∀j,j<k→∀n,l[j]? =some n→portAt f n)∧Below w.heap.size w wr) (fun i _=>l.length-(intOf i).toNat)
 case atStart=>exact ⟨0,Nat.zero_le _,rfl,fun j h=>absurd h (by omega),Below.refl _ _⟩
 case round=>
  obtain ⟨k,hk,rfl,HN,hb⟩:=hrel
  by_cases hlt:k<l.length
  ·obtain ⟨b,off,n,rfl,hbb,hn,wn,d⟩:=(sv.below (hb.mono hB)).int hlt
   have HK:=Lib.hid hn
   clear hn
   have hbA:=hb.alloc hb.size (.cells #[.int .i64 n] 3)
   have hKA:=HK0.out.below hB hbA
   have HC:=Lib.hid (nis_any hKA [n] _ _ (one_slv wn))
   rw[cB_congr allW_one] at HC
   by_cases hw:isW f n
   ·rw[cB_true hw] at HC
    obtain ⟨m,hm⟩:=Int.eq_ofNat_of_zero_le hw.1
    subst hm
    have hml:m<f.wires.length:=by have:=hw.2;omega
    have hml':(m:Int)<f.wires.length:=by omega
    obtain ⟨Aw',cw',he,_,_,sw⟩:=hKA.fm.wires
    injection he with he1 he2 he3
    clear he2 he3
    subst he1
    obtain ⟨b',off',x,Ag,cg,rfl,hbb',hx,wx,c0,c1,lg,mg,sg⟩:=sw.wr hml
    have mg':cg≤9223372036854775807:=by unfold maxLen at mg;omega
    have q0:=hKA.row.cell 0
    simp only[List.getElem?_toArray,List.getElem?_cons_zero] at q0
    have HX:=Lib.hid (show clockOf f m=x.clock by unfold clockOf;rw[wAt_some hx])
    have HW:=Lib.hid hw
    clear hx hw hKA
    by_cases hg:0<x.clock.length
    ·have HF:=Lib.hid (cB_false (ports_no (f:=f) HK.out (fun g=>by have:=g.2;rw[HX.out] at this;rw[this] at hg;simp at hg)))
     go_wp2_with fail
     refine HC.out.mono ?_
     rintro e w' ⟨rfl,rfl⟩
     go_wp2_with fail
     go_ret
     exact ⟨ret_bool HF.out.symm,hbA⟩
    ·have HN':=Lib.hid (upto_succ HN.out (fun n' hn'=>by rw[HK.out] at hn';injection hn' with hn';rw[←hn'];exact ⟨HW.out,by rw[HX.out];exact List.eq_nil_of_length_eq_zero (by omega)⟩))
     go_wp2_with fail
     refine HC.out.mono ?_
     rintro e w' ⟨rfl,rfl⟩
     go_wp2_with fail
     go_roundw
     case rel=>first|exact ⟨k+1,by omega,by go_num,HN',hbA⟩|((repeat apply Exists.intro);exact ⟨⟨k+1,by omega,by go_num,HN',hbA⟩,rfl⟩)
     case measure=>simp[intOf];omega
   ·rw[cB_false hw] at HC
    have HF:=Lib.hid (cB_false (ports_no (f:=f) HK.out (fun g=>hw g.1)))
    clear hw hKA
    go_wp2_with fail
    refine HC.out.mono ?_
    rintro e w' ⟨rfl,rfl⟩
    go_wp2_with fail
    go_ret
    exact ⟨ret_bool HF.out.symm,hbA⟩
  ·obtain rfl:k=l.length:=by omega
   have HF:=Lib.hid (cB_congr (ports_yes HN.out))
   go_wp2_with fail
   all_goals
    go_ret
    refine ⟨ret_bool ?_,hb⟩
    rw[HF.out,Bool.eq_iff_iff,cB_iff]
    simp
    try omega
end Go.Proofs.YtckognjamlckcaaGreatDoor
namespace Go.Proofs.YtckognjamlckcaaGreatDoor
open Go.RowKit Vf Fo
set_option maxRecDepth 100000 in
set_option maxHeartbeats 4000000 in
theorem index_int {w:World} {O:Nat} {l:List Int} {t:TypeId} (h:Row w O (l.map (Value.int .i64)).toArray t) (hl:l.length≤1600) (x:Int):
  Calls Tryz.prog 94 #[.slice (some ⟨O,0,none⟩) l.length l.length,.int .i64 x] w fun e w'=>(∃r:Int,e= .returned (.int .i64 r)∧(0≤r↔x∈l))∧w=w':=by
 go_enter Tryz.func94,Tryz.ntmps94
 go_wp2_with fail
 go_loopw[8] (fun i wr=>∃k:Nat,k≤l.length∧i= .int .i64 k∧Hid (∀j,j<k→∀y,l[j]? =some y→y≠x)∧w=wr) (fun i _=>l.length-(intOf i).toNat)
 case atStart=>exact ⟨0,Nat.zero_le _,rfl,fun j h=>absurd h (by omega),rfl⟩
 case round=>
  obtain ⟨k,hk,rfl,HN,rfl⟩:=hrel
  by_cases hlt:k<l.length
  ·have c0:=kind_cell h hlt
   have HG:=Lib.hid (show l[k]? =some (getI l k) by simp[getI,List.getD_eq_getElem?_getD,List.getElem?_eq_getElem hlt])
   generalize getI l (k:Int)=V at*
   by_cases e:x=V
   ·have e':(x==V)=true:=by simp[e]
    have e'':(V==x)=true:=by simp[e]
    have HE:=Lib.hid e
    clear e
    go_wp2_with fail
    go_ret
    refine ⟨⟨_,rfl,?_⟩,rfl⟩
    exact ⟨fun _=>by rw[HE.out];exact List.mem_of_getElem? HG.out,fun _=>by omega⟩
   ·have e':(x==V)=false:=by simp[e]
    have e'':(V==x)=false:=by simp;exact fun g=>e g.symm
    have HN':=Lib.hid (upto_succ HN.out (fun y hy=>by rw[HG.out] at hy;injection hy with hy;rw[←hy];exact fun g=>e g.symm))
    clear e
    go_wp2_with fail
    go_roundw
    case rel=>exact ⟨k+1,by omega,by go_num,HN',trivial⟩
    case measure=>simp[intOf];omega
  ·obtain rfl:k=l.length:=by omega
   go_wp2_with fail
   go_ret
   refine ⟨⟨_,rfl,?_⟩,rfl⟩
   refine ⟨fun h0=>absurd h0 (by decide),fun hn=>?_⟩
   obtain ⟨j,hj⟩:=List.getElem?_of_mem hn
   exact absurd rfl (HN.out j (List.getElem?_eq_some_iff.1 hj).1 x hj)
set_option maxRecDepth 100000 in
theorem contains_int {w:World} {O:Nat} {l:List Int} {t:TypeId} (h:Row w O (l.map (Value.int .i64)).toArray t) (hl:l.length≤1600) (x:Int):
  Calls Tryz.prog 61 #[.slice (some ⟨O,0,none⟩) l.length l.length,.int .i64 x] w fun e w'=>e= .returned (.bool (cB (x∈l)))∧w=w':=by
 have HI:=Lib.hid (index_int h hl x)
 clear h
 go_enter Tryz.func61,Tryz.ntmps61
 go_wp2_with fail
 refine HI.out.mono ?_
 rintro e w' ⟨⟨r,rfl,hr⟩,rfl⟩
 have HR:=Lib.hid hr
 clear hr
 go_wp2_with fail
 go_ret
 exact ⟨ret_bool (by rw[←cB_congr HR.out];by_cases c:0≤r<;>simp[cB,c]),rfl⟩
end Go.Proofs.YtckognjamlckcaaGreatDoor
namespace Go.Proofs.YtckognjamlckcaaGreatDoor
open Go.RowKit Vf Fo
attribute [local go_sem ↓] Go.wp_at_zero Go.wp_at_succ
theorem flist_eq {l m:List Int} (hl:l.length=m.length) (h:∀j,j<l.length→∀x y,l[j]? =some x→m[j]? =some y→x=y):l=m:=by
 apply List.ext_getElem hl
 intro i h1 h2
 exact h i h1 _ _ (List.getElem?_eq_getElem h1) (List.getElem?_eq_getElem h2)
end Go.Proofs.YtckognjamlckcaaGreatDoor
namespace Go.Proofs.YtckognjamlckcaaGreatDoor
open Go.RowKit Vf Fo
theorem list6 {α:Type} {l:List α} (h:l.length=6):∃a b c d e f,l=[a,b,c,d,e,f]:=by
 match l,h with
 | [a,b,c,d,e,f],_=>exact ⟨a,b,c,d,e,f,rfl⟩
section
variable {H:Type} {enc:TypeId × Value→H} {w:World} {spare:Nat→Bool} {held:Bool}
theorem cells_boolF:Tryz.prog.cellsOf 4=1:=by kernel_rfl
theorem cells_gd:Tryz.prog.cellsOf 61=2:=by kernel_rfl
theorem cells_gds:Tryz.prog.cellsOf 50=1:=by kernel_rfl
theorem cells_wr:Tryz.prog.cellsOf 52=2:=by kernel_rfl
theorem cells_wrs:Tryz.prog.cellsOf 22=1:=by kernel_rfl
theorem cells_ac:Tryz.prog.cellsOf 58=6:=by kernel_rfl
theorem cells_acs:Tryz.prog.cellsOf 23=1:=by kernel_rfl
theorem cells_kp:Tryz.prog.cellsOf 103=2:=by kernel_rfl
theorem cells_kps:Tryz.prog.cellsOf 25=1:=by kernel_rfl
theorem cells_fm:Tryz.prog.cellsOf 28=6:=by kernel_rfl
theorem isGd_len (y:Gd) (cs:List Value) (h:isGd y cs):cs.length=2:=by rw[h.1];rfl
theorem isWr_len (y:Wr) (cs:List Value) (h:isWr w w.heap.size y cs):cs.length=2:=by obtain ⟨v,rfl,_⟩:=h;rfl
theorem isAc_len (y:Ac) (cs:List Value) (h:isAc y cs):cs.length=6:=by rw[h.1];rfl
set_option maxRecDepth 100000 in
theorem open_gd (fuel:Nat) (cs:List Value) (x:DataW H × List MemPlace) (h:DataW.trod enc Tryz.prog w 0 spare held fuel 61 cs=some x):∃g,isGd g cs:=by
 obtain ⟨xs,n,_,_,hlen,hxl,hf⟩:=DataW.trod_struct Tryz.underlying61 h
 rw[cells_gd] at hlen
 obtain ⟨c0,c1,rfl⟩:=list2 hlen
 have hx:xs.length=2:=hxl
 have e0:xs[0]? =some (xs[0]'(by omega)):=List.getElem?_eq_getElem (by omega)
 have e1:xs[1]? =some (xs[1]'(by omega)):=List.getElem?_eq_getElem (by omega)
 have h0:DataW.trod enc Tryz.prog w 0 spare held n 3 (([c0,c1].drop 0).take (Tryz.prog.cellsOf 3))=some xs[0]:=(hf 0 _ rfl).trans e0
 have h1:DataW.trod enc Tryz.prog w 0 spare held n 4 (([c0,c1].drop 1).take (Tryz.prog.cellsOf 4))=some xs[1]:=(hf 1 _ rfl).trans e1
 rw[cells_int] at h0
 rw[cells_boolF] at h1
 simp only[List.drop_zero,List.drop_succ_cons,List.take_succ_cons,List.take_zero] at h0 h1
 obtain ⟨a,ha,_,wa⟩:=DataW.trod_int Tryz.underlying3 h0
 obtain ⟨b,hb,_⟩:=DataW.trod_bool Tryz.underlying4 h1
 simp at ha hb
 subst ha;subst hb
 exact ⟨⟨a,b⟩,rfl,wa⟩
set_option maxRecDepth 100000 in
theorem open_wr (fuel:Nat) (cs:List Value) (x:DataW H × List MemPlace) (h:DataW.trod enc Tryz.prog w 0 spare held fuel 52 cs=some x):∃x,isWr w w.heap.size x cs:=by
 obtain ⟨xs,n,_,_,hlen,hxl,hf⟩:=DataW.trod_struct Tryz.underlying52 h
 rw[cells_wr] at hlen
 obtain ⟨c0,c1,rfl⟩:=list2 hlen
 have hx:xs.length=2:=hxl
 have e0:xs[0]? =some (xs[0]'(by omega)):=List.getElem?_eq_getElem (by omega)
 have e1:xs[1]? =some (xs[1]'(by omega)):=List.getElem?_eq_getElem (by omega)
 have h0:DataW.trod enc Tryz.prog w 0 spare held n 3 (([c0,c1].drop 0).take (Tryz.prog.cellsOf 3))=some xs[0]:=(hf 0 _ rfl).trans e0
 have h1:DataW.trod enc Tryz.prog w 0 spare held n 50 (([c0,c1].drop 1).take (Tryz.prog.cellsOf 50))=some xs[1]:=(hf 1 _ rfl).trans e1
 rw[cells_int] at h0
 rw[cells_gds] at h1
 simp only[List.drop_zero,List.drop_succ_cons,List.take_succ_cons,List.take_zero] at h0 h1
 obtain ⟨a,ha,_,wa⟩:=DataW.trod_int Tryz.underlying3 h0
 obtain ⟨l,hl⟩:=open_sl Tryz.underlying50 cells_gd (by decide) n (fun k _ cs x h=>open_gd k cs x h) isGd_len ⟨0,false⟩ h1
 simp at ha
 subst ha
 exact ⟨⟨a,l⟩,c1,rfl,wa,hl⟩
set_option maxRecDepth 100000 in
theorem open_ac (fuel:Nat) (cs:List Value) (x:DataW H × List MemPlace) (h:DataW.trod enc Tryz.prog w 0 spare held fuel 58 cs=some x):∃g,isAc g cs:=by
 obtain ⟨xs,n,_,_,hlen,hxl,hf⟩:=DataW.trod_struct Tryz.underlying58 h
 rw[cells_ac] at hlen
 obtain ⟨c0,c1,c2,c3,c4,c5,rfl⟩:=list6 hlen
 have hx:xs.length=6:=hxl
 have e0:xs[0]? =some (xs[0]'(by omega)):=List.getElem?_eq_getElem (by omega)
 have e1:xs[1]? =some (xs[1]'(by omega)):=List.getElem?_eq_getElem (by omega)
 have e2:xs[2]? =some (xs[2]'(by omega)):=List.getElem?_eq_getElem (by omega)
 have e3:xs[3]? =some (xs[3]'(by omega)):=List.getElem?_eq_getElem (by omega)
 have e4:xs[4]? =some (xs[4]'(by omega)):=List.getElem?_eq_getElem (by omega)
 have e5:xs[5]? =some (xs[5]'(by omega)):=List.getElem?_eq_getElem (by omega)
 have h0:DataW.trod enc Tryz.prog w 0 spare held n 3 (([c0,c1,c2,c3,c4,c5].drop 0).take (Tryz.prog.cellsOf 3))=some xs[0]:=(hf 0 _ rfl).trans e0
 have h1:DataW.trod enc Tryz.prog w 0 spare held n 3 (([c0,c1,c2,c3,c4,c5].drop 1).take (Tryz.prog.cellsOf 3))=some xs[1]:=(hf 1 _ rfl).trans e1
 have h2:DataW.trod enc Tryz.prog w 0 spare held n 3 (([c0,c1,c2,c3,c4,c5].drop 2).take (Tryz.prog.cellsOf 3))=some xs[2]:=(hf 2 _ rfl).trans e2
 have h3:DataW.trod enc Tryz.prog w 0 spare held n 3 (([c0,c1,c2,c3,c4,c5].drop 3).take (Tryz.prog.cellsOf 3))=some xs[3]:=(hf 3 _ rfl).trans e3
 have h4:DataW.trod enc Tryz.prog w 0 spare held n 3 (([c0,c1,c2,c3,c4,c5].drop 4).take (Tryz.prog.cellsOf 3))=some xs[4]:=(hf 4 _ rfl).trans e4
 have h5:DataW.trod enc Tryz.prog w 0 spare held n 3 (([c0,c1,c2,c3,c4,c5].drop 5).take (Tryz.prog.cellsOf 3))=some xs[5]:=(hf 5 _ rfl).trans e5
 rw[cells_int] at h0
 rw[cells_int] at h1
 rw[cells_int] at h2
 rw[cells_int] at h3
 rw[cells_int] at h4
 rw[cells_int] at h5
 simp only[List.drop_zero,List.drop_succ_cons,List.take_succ_cons,List.take_zero] at h0 h1 h2 h3 h4 h5
 obtain ⟨a0,ha0,_,w0⟩:=DataW.trod_int Tryz.underlying3 h0
 obtain ⟨a1,ha1,_,w1⟩:=DataW.trod_int Tryz.underlying3 h1
 obtain ⟨a2,ha2,_,w2⟩:=DataW.trod_int Tryz.underlying3 h2
 obtain ⟨a3,ha3,_,w3⟩:=DataW.trod_int Tryz.underlying3 h3
 obtain ⟨a4,ha4,_,w4⟩:=DataW.trod_int Tryz.underlying3 h4
 obtain ⟨a5,ha5,_,w5⟩:=DataW.trod_int Tryz.underlying3 h5
 simp at ha0 ha1 ha2 ha3 ha4 ha5
 subst ha0;subst ha1;subst ha2;subst ha3;subst ha4;subst ha5
 exact ⟨⟨a0,a1,a2,a3,a4,a5⟩,rfl,w0,w1,w2,w3,w4,w5⟩
set_option maxRecDepth 100000 in
theorem open_kp (fuel:Nat) (cs:List Value) (x:DataW H × List MemPlace) (h:DataW.trod enc Tryz.prog w 0 spare held fuel 103 cs=some x):∃c,isCell c cs:=by
 obtain ⟨xs,n,_,_,hlen,hxl,hf⟩:=DataW.trod_struct Tryz.underlying103 h
 rw[cells_kp] at hlen
 obtain ⟨c0,c1,rfl⟩:=list2 hlen
 have hx:xs.length=2:=hxl
 have e0:xs[0]? =some (xs[0]'(by omega)):=List.getElem?_eq_getElem (by omega)
 have e1:xs[1]? =some (xs[1]'(by omega)):=List.getElem?_eq_getElem (by omega)
 have h0:DataW.trod enc Tryz.prog w 0 spare held n 3 (([c0,c1].drop 0).take (Tryz.prog.cellsOf 3))=some xs[0]:=(hf 0 _ rfl).trans e0
 have h1:DataW.trod enc Tryz.prog w 0 spare held n 3 (([c0,c1].drop 1).take (Tryz.prog.cellsOf 3))=some xs[1]:=(hf 1 _ rfl).trans e1
 rw[cells_int] at h0
 rw[cells_int] at h1
 simp only[List.drop_zero,List.drop_succ_cons,List.take_succ_cons,List.take_zero] at h0 h1
 obtain ⟨a,ha,_,wa⟩:=DataW.trod_int Tryz.underlying3 h0
 obtain ⟨b,hb,_,wb⟩:=DataW.trod_int Tryz.underlying3 h1
 simp at ha hb
 subst ha;subst hb
 exact ⟨(a,b),rfl,wa,wb⟩
set_option maxRecDepth 100000 in
theorem open_fm (fuel:Nat) (cs:List Value) (x:DataW H × List MemPlace) (h:DataW.trod enc Tryz.prog w 0 spare held fuel 28 cs=some x):∃f vw va vc vk vi vo,cs=[vw,va,vc,vk,vi,vo]∧FmAt w w.heap.size f vw va vc vk vi vo:=by
 obtain ⟨xs,n,_,_,hlen,hxl,hf⟩:=DataW.trod_struct Tryz.underlying28 h
 rw[cells_fm] at hlen
 obtain ⟨c0,c1,c2,c3,c4,c5,rfl⟩:=list6 hlen
 have hx:xs.length=6:=hxl
 have e0:xs[0]? =some (xs[0]'(by omega)):=List.getElem?_eq_getElem (by omega)
 have e1:xs[1]? =some (xs[1]'(by omega)):=List.getElem?_eq_getElem (by omega)
 have e2:xs[2]? =some (xs[2]'(by omega)):=List.getElem?_eq_getElem (by omega)
 have e3:xs[3]? =some (xs[3]'(by omega)):=List.getElem?_eq_getElem (by omega)
 have e4:xs[4]? =some (xs[4]'(by omega)):=List.getElem?_eq_getElem (by omega)
 have e5:xs[5]? =some (xs[5]'(by omega)):=List.getElem?_eq_getElem (by omega)
 have h0:DataW.trod enc Tryz.prog w 0 spare held n 22 (([c0,c1,c2,c3,c4,c5].drop 0).take (Tryz.prog.cellsOf 22))=some xs[0]:=(hf 0 _ rfl).trans e0
 have h1:DataW.trod enc Tryz.prog w 0 spare held n 23 (([c0,c1,c2,c3,c4,c5].drop 1).take (Tryz.prog.cellsOf 23))=some xs[1]:=(hf 1 _ rfl).trans e1
 have h2:DataW.trod enc Tryz.prog w 0 spare held n 24 (([c0,c1,c2,c3,c4,c5].drop 2).take (Tryz.prog.cellsOf 24))=some xs[2]:=(hf 2 _ rfl).trans e2
 have h3:DataW.trod enc Tryz.prog w 0 spare held n 25 (([c0,c1,c2,c3,c4,c5].drop 3).take (Tryz.prog.cellsOf 25))=some xs[3]:=(hf 3 _ rfl).trans e3
 have h4:DataW.trod enc Tryz.prog w 0 spare held n 26 (([c0,c1,c2,c3,c4,c5].drop 4).take (Tryz.prog.cellsOf 26))=some xs[4]:=(hf 4 _ rfl).trans e4
 have h5:DataW.trod enc Tryz.prog w 0 spare held n 26 (([c0,c1,c2,c3,c4,c5].drop 5).take (Tryz.prog.cellsOf 26))=some xs[5]:=(hf 5 _ rfl).trans e5
 rw[cells_wrs] at h0
 rw[cells_acs] at h1
 rw[cells_cells] at h2
 rw[cells_kps] at h3
 rw[cells_ints] at h4
 rw[cells_ints] at h5
 simp only[List.drop_zero,List.drop_succ_cons,List.take_succ_cons,List.take_zero] at h0 h1 h2 h3 h4 h5
 obtain ⟨l0,k0⟩:=open_sl Tryz.underlying22 cells_wr (by decide) n (fun k _ cs x h=>open_wr k cs x h) isWr_len ⟨0,[]⟩ h0
 obtain ⟨l1,k1⟩:=open_sl Tryz.underlying23 cells_ac (by decide) n (fun k _ cs x h=>open_ac k cs x h) isAc_len ⟨0,0,0,0,0,0⟩ h1
 obtain ⟨l2,k2⟩:=open_sl Tryz.underlying24 cells_cell (by decide) n (fun k _ cs x h=>open_cell k cs x h) isCell_len (0,0) h2
 obtain ⟨l3,k3⟩:=open_sl Tryz.underlying25 cells_kp (by decide) n (fun k _ cs x h=>open_kp k cs x h) isCell_len (0,0) h3
 obtain ⟨l4,k4⟩:=open_ints h4
 obtain ⟨l5,k5⟩:=open_ints h5
 exact ⟨⟨l0,l1,l2,l3,l4,l5⟩,c0,c1,c2,c3,c4,c5,rfl,k0,k1,k2,k3,k4,k5⟩
def FmIs (w:World) (f:Fm) (v:Value):Prop:=∃vw va vc vk vi vo,v=fmV vw va vc vk vi vo∧FmAt w w.heap.size f vw va vc vk vi vo
set_option maxRecDepth 100000 in
theorem open_formV {base:Nat} {v:Value} {d:DataW H} {p:List MemPlace} {r:Reach} (hv:Value.okWide Tryz.prog w r base 28 v) (h:DataW.Trod enc Tryz.prog w 0 spare held 28 v d p):∃q,FmIs w q v:=by
 obtain ⟨cs,rfl,hsz⟩:=WideShapes.okWide_struct Tryz.underlying28 hv
 obtain ⟨fuel,hf⟩:=h
 obtain ⟨f,vw,va,vc,vk,vi,vo,hc,ha⟩:=open_fm fuel _ _ hf
 refine ⟨f,vw,va,vc,vk,vi,vo,?_,ha⟩
 obtain ⟨l⟩:=cs
 have:l=[vw,va,vc,vk,vi,vo]:=hc
 rw[this]
end
end Go.Proofs.YtckognjamlckcaaGreatDoor
