/-
  Forms in memory. norm's looker in memory; its small methods. norm's looker: ports. slices.Contains of a row of numbers. tompionref01.Ints. Arguments that read as data, opened: forms. bits.Mul of one and a small number. The looker looks at an instruction that reckons; and at whatever instruction. slices.Contains of a row of bools. clear, of a row that holds zeros: it stays as it was. verify's look. verify.Right slices.Repeat of one number. A tick of a machine, as plain data. A tick's state in memory. slices.Clone at three dQ; small readers of rows of numbers.
-/
import Derived.Test.YtckognjamlckcaaGreatDoorLookA
set_option maxHeartbeats 4000000
set_option maxRecDepth 100000
namespace Go.Proofs.YtckognjamlckcaaGreatDoor
open Go.RowKit Vf Fo
def aW (g:Gd) (cs:List Value):Prop:=cs=[.int .i64 g.wire,.bool g.no]/\Wf g.wire
def fu (w:World) (B:Nat) (x:Wr) (cs:List Value):Prop:=∃v,cs=[.int .i64 x.ty,v]/\Wf x.ty/\aI w B 2 aW v x.clock
structure eP (x:Ac):Prop where
 op:Wf x.op
 dst:Wf x.dst
 a:Wf x.a
 b:Wf x.b
 c:Wf x.c
 k:Wf x.k
def yf (x:Ac) (cs:List Value):Prop:=cs=[.int .i64 x.op,.int .i64 x.dst,.int .i64 x.a,.int .i64 x.b,.int .i64 x.c,.int .i64 x.k]/\eP x
abbrev fT (x:Ac):Value:= .agg #[.int .i64 x.op,.int .i64 x.dst,.int .i64 x.a,.int .i64 x.b,.int .i64 x.c,.int .i64 x.k]
theorem fu.keep {w w':World} {B B':Nat} {x:Wr} {cs:List Value} (h:fu w B x cs) (hk:∀(p:Addr) (u:Value),p.block<B->w.cell? p=some u->w'.cell? p=some u) (hB:B<=B'):fu w' B' x cs:=by
 obtain ⟨v,h1,h2,h3⟩:=h
 exact ⟨v,h1,h2,h3.keep hk hB (fun _ _ _ h=>h)⟩
structure bQ (w:World) (B:Nat) (f:Fm) (vw va vc vk vi vo:Value):Prop where
 wires:aI w B 2 (fu w B) vw f.wires
 acts:aI w B 6 yf va f.acts
 cells:aI w B 2 lu vc f.cells
 keeps:aI w B 2 lu vk f.keeps
 ins:aI w B 1 aP vi f.ins
 outs:aI w B 1 aP vo f.outs
abbrev dp (vw va vc vk vi vo:Value):Value:= .agg #[vw,va,vc,vk,vi,vo]
section
variable {w w':World} {B B':Nat} {f:Fm} {vw va vc vk vi vo:Value}
theorem bQ.keep (h:bQ w B f vw va vc vk vi vo) (hk:∀(p:Addr) (u:Value),p.block<B->w.cell? p=some u->w'.cell? p=some u) (hB:B<=B'):bQ w' B' f vw va vc vk vi vo:=
 ⟨h.wires.keep hk hB (fun _ _ _ g=>g.keep hk hB),h.acts.keep hk hB (fun _ _ _ g=>g),h.cells.keep hk hB (fun _ _ _ g=>g),h.keeps.keep hk hB (fun _ _ _ g=>g),h.ins.keep hk hB (fun _ _ _ g=>g),h.outs.keep hk hB (fun _ _ _ g=>g)⟩
theorem bQ.below (h:bQ w B f vw va vc vk vi vo) (hb:Below B w w'):bQ w' B f vw va vc vk vi vo:=h.keep (fun _ _ hp hc=>(hb.cell hp).trans hc) (Nat.le_refl _)
theorem bQ.next (h:bQ w w.heap.size f vw va vc vk vi vo) (hb:Below w.heap.size w w'):bQ w' w'.heap.size f vw va vc vk vi vo:=h.keep (fun _ _ hp hc=>(hb.cell hp).trans hc) hb.size
end
theorem Sl.gd {w:World} {B:Nat} {A:Option Addr} {l:List Gd} {k:Nat} (h:Sl w B 2 aW A l) (hk:k<l.length):∃b off x,A=some ⟨b,off,none⟩/\b<B/\l[k]? =some x/\Wf x.wire/\
  w.cell? ⟨b,off+k*2,none⟩=some (.int .i64 x.wire)/\w.cell? ⟨b,off+k*2+1,none⟩=some (.bool x.no):=by
 obtain ⟨b,off,x,cs,h1,h2,h3,⟨rfl,h4⟩,h5⟩:=h.at_ hk
 exact ⟨b,off,x,h1,h2,h3,h4,h5 0 _ rfl,h5 1 _ rfl⟩
theorem Sl.wr {w:World} {B:Nat} {A:Option Addr} {l:List Wr} {k:Nat} (h:Sl w B 2 (fu w B) A l) (hk:k<l.length):∃b off x Ag cg,A=some ⟨b,off,none⟩/\b<B/\l[k]? =some x/\Wf x.ty/\
  w.cell? ⟨b,off+k*2,none⟩=some (.int .i64 x.ty)/\w.cell? ⟨b,off+k*2+1,none⟩=some (.slice Ag x.clock.length cg)/\x.clock.length<=cg/\cg<=maxLen/\Sl w B 2 aW Ag x.clock:=by
 obtain ⟨b,off,x,cs,h1,h2,h3,⟨v,rfl,h4,Ag,cg,rfl,h6,h7,h8⟩,h5⟩:=h.at_ hk
 exact ⟨b,off,x,Ag,cg,h1,h2,h3,h4,h5 0 _ rfl,h5 1 _ rfl,h6,h7,h8⟩
theorem Sl.ac {w:World} {B:Nat} {A:Option Addr} {l:List Ac} {k:Nat} (h:Sl w B 6 yf A l) (hk:k<l.length):∃b off x,A=some ⟨b,off,none⟩/\b<B/\l[k]? =some x/\eP x/\
  w.cell? ⟨b,off+k*6,none⟩=some (.int .i64 x.op)/\w.cell? ⟨b,off+k*6+1,none⟩=some (.int .i64 x.dst)/\w.cell? ⟨b,off+k*6+2,none⟩=some (.int .i64 x.a)/\
  w.cell? ⟨b,off+k*6+3,none⟩=some (.int .i64 x.b)/\w.cell? ⟨b,off+k*6+4,none⟩=some (.int .i64 x.c)/\w.cell? ⟨b,off+k*6+5,none⟩=some (.int .i64 x.k):=by
 obtain ⟨b,off,x,cs,h1,h2,h3,⟨rfl,h4⟩,h5⟩:=h.at_ hk
 exact ⟨b,off,x,h1,h2,h3,h4,h5 0 _ rfl,h5 1 _ rfl,h5 2 _ rfl,h5 3 _ rfl,h5 4 _ rfl,h5 5 _ rfl⟩
attribute [local go_sem ↓] Go.wp_at_zero Go.wp_at_succ
theorem Df {x y:Gd} (h1:x.wire=y.wire) (h2:x.no=y.no):x=y:=by cases x;cases y;simp_all
theorem wC {l m:List Gd} (hl:l.length=m.length) (h:∀j,j<l.length->∀x y,l[j]? =some x->m[j]? =some y->x=y):l=m:=by
 apply List.ext_getElem hl
 intro i h1 h2
 exact h i h1 _ _ (List.getElem?_eq_getElem h1) (List.getElem?_eq_getElem h2)
theorem gP (kind n:Int) (w:World):
  Calls Tryz.prog 57 #[.int .i64 kind,.int .i64 n] w fun e w'=>e= .returned (.bool (cB (bN kind n)))/\w=w':=by
 go_enter Tryz.func57,Tryz.ntmps57
 go_wp2
 all_goals
  go_ret
  refine ⟨aj ?_,rfl⟩
  rw[Bool.eq_iff_iff,cb]
  simp[bN]
  omega
theorem hI (l m:List Gd) (v1 v2:Value) (B:Nat) (w:World) (h1:aI w B 2 aW v1 l) (h2:aI w B 2 aW v2 m):
  Calls Tryz.prog 59 #[v1,v2] w fun e w'=>e= .returned (.bool (cB (l=m)))/\∃n,w'=w.drewN n:=by
 refine' zq72
 by_cases hl:l.length=m.length
 rotate_left 1
 ·refine' zq217
  go_enter Tryz.func59,Tryz.ntmps59
  go_wp2_with fail
  go_ret
  exact ⟨aj HF.o.symm,0,rfl⟩
 refine' zq197
 go_enter Tryz.func59,Tryz.ntmps59
 go_wp2_with fail
 go_loopw[13] (fun i wr=>∃k:Nat,k<=l.length/\i= .int .i64 k/\Hid (∀j,j<k->∀x y,l[j]? =some x->m[j]? =some y->x=y)/\∃n,wr=w.drewN n) (fun i _=>l.length-(intOf i).toNat)
 case atStart=>exact ⟨0,Nat.zero_le _,rfl,fun j h=>absurd h (by omega),0,rfl⟩
 case round=>
  obtain ⟨k,hk,rfl,HN,n,rfl⟩:=hrel
  by_cases hlt:k<l.length
  ·refine' zq37
  ·obtain rfl:k=l.length:=by omega
   have HF:=zH (aq (wC HL.o HN.o))
   refine' zq66
structure bI (w:World) (B L:Nat) (f:Fm) (vw va vc vk vi vo vb ve:Value):Prop where
 row:ai w L #[vw,va,vc,vk,vi,vo,vb,ve] 55
 fm:bQ w B f vw va vc vk vi vo
def oF (f:Fm) (l:List Int):Prop:=∀n∈l,ak f n
theorem Cx {f:Fm} {l:List Int} {k:Nat} {n:Int} (h:l[k]? =some n) (hn:¬ak f n):¬oF f l:=fun g=>hn (g n (List.mem_of_getElem? h))
theorem AA {f:Fm} {l:List Int} (h:∀j,j<l.length->∀n,l[j]? =some n->ak f n):oF f l:=fun n hn=>by
 obtain ⟨j,hj⟩:=List.getElem?_of_mem hn
 exact h j (List.getElem?_eq_some_iff.1 hj).1 n hj
theorem oq {w:World} {B L:Nat} {f:Fm} {vw va vc vk vi vo vb ve:Value} (h:bI w B L f vw va vc vk vi vo vb ve) (l:List Int) (v:Value) (B':Nat) (hv:aI w B' 1 aP v l):
  Calls Tryz.prog 58 #[.pointer (some ⟨L,0,none⟩),v] w fun e w'=>e= .returned (.bool (cB (oF f l)))/\w=w':=by
 have q0:w.cell? ⟨L,0,none⟩=some vw:=h.row.cell 0
 obtain ⟨Aw,cw,rfl,lw,mw,sw⟩:=h.fm.wires
 refine' zq207
 clear h sw
 go_enter Tryz.func58,Tryz.ntmps58
 go_wp2_with fail
 go_loop[9] (fun i=>∃k:Nat,k<=l.length/\i= .int .i64 k/\Hid (∀j,j<k->∀n,l[j]? =some n->ak f n)) (fun i=>l.length-(intOf i).toNat)
 case atStart=>exact ⟨0,Nat.zero_le _,rfl,fun j h=>absurd h (by omega)⟩
 case round=>
  obtain ⟨k,hk,rfl,HN⟩:=hrel
  by_cases hlt:k<l.length
  ·obtain ⟨b,off,n,rfl,hb,hn,wn,d⟩:=sv.int hlt
   have HK:=zH hn
   clear hn
   by_cases hw:ak f n
   ·have HN':=zH (aC HN.o (fun n' hn'=>by rw[HK.o] at hn';injection hn' with hn';rw[<-hn'];exact hw))
    have hw1:0<=n:=hw.1
    have hw2:n<f.wires.length:=hw.2
    clear hw
    go_wp2_with fail
    go_round
    case rel=>exact ⟨k+1,by omega,by go_num,HN'⟩
    case measure=>simp[intOf];omega
   ·have HF:=zH (ab (Cx HK.o hw))
    have hw':n<0\/(0<=n/\(f.wires.length:Int)<=n):=by unfold ak at hw;omega
    clear hw
    rcases hw' with hw|⟨hw,hw2⟩
    all_goals
     go_wp2_with fail
     go_ret
     exact ⟨aj HF.o.symm,rfl⟩
  ·obtain rfl:k=l.length:=by omega
   have HF:=zH (aq (AA HN.o))
   go_wp2_with fail
   go_ret
   exact ⟨aj HF.o.symm,rfl⟩
theorem bI.below {w w':World} {B L:Nat} {f:Fm} {vw va vc vk vi vo vb ve:Value} (h:bI w B L f vw va vc vk vi vo vb ve) (hB:B<=w.heap.size) (hb:Below w.heap.size w w'):bI w' B L f vw va vc vk vi vo vb ve:=⟨h.row.below hb h.row.lt,h.fm.below (hb.mono hB)⟩
theorem bW {f:Fm} {n:Nat} {x:Wr} (h:f.wires[n]? =some x):jZ f n=x:=by simp[jZ,List.getD_eq_getElem?_getD,h]
def jW (f:Fm) (n:Int):Prop:=ak f n/\aa f n=[]
theorem gB {f:Fm} {l:List Int} {k:Nat} {n:Int} (h:l[k]? =some n) (hn:¬jW f n):¬bG f l:=fun g=>hn (g.1 n (List.mem_of_getElem? h))
theorem lD {f:Fm} {l:List Int} (h:∀j,j<l.length->∀n,l[j]? =some n->jW f n):bG f l↔1<=l.length/\l.length<=8:=by
 refine ⟨fun g=>g.2,fun g=>⟨fun n hn=>?_,g⟩⟩
 obtain ⟨j,hj⟩:=List.getElem?_of_mem hn
 exact h j (List.getElem?_eq_some_iff.1 hj).1 n hj
theorem oH {w:World} {n:Int} (hn:Wf n):aI (w.alloc (.cells #[.int .i64 n] 3)) (w.heap.size+1) 1 aP (.slice (some ⟨w.heap.size,0,none⟩) 1 1) [n]:=by
 refine ⟨_,_,rfl,Nat.le_refl _,by unfold maxLen;omega,fun _=>⟨_,_,rfl,by omega,fun i x hx=>?_⟩⟩
 match i,hx with
 |0,hx=>
  simp at hx
  subst hx
  refine ⟨[.int .i64 n],fun j u hu=>?_,rfl,hn⟩
  match j,hu with
  |0,hu=>
   simp at hu
   subst hu
   exact (ai.new w #[.int .i64 n] 3).cell 0
theorem qQ {f:Fm} {n:Int}:oF f [n]↔ak f n:=⟨fun h=>h n (by simp),fun h m hm=>by simp at hm;rw[hm];exact h⟩
theorem nT {w:World} {B L:Nat} {f:Fm} {vw va vc vk vi vo vb ve:Value} (h:bI w B L f vw va vc vk vi vo vb ve) (hB:B<=w.heap.size) (l:List Int) (v:Value) (hv:aI w B 1 aP v l):
  Calls Tryz.prog 25 #[.pointer (some ⟨L,0,none⟩),v] w fun e w'=>e= .returned (.bool (cB (bG f l)))/\Below w.heap.size w w':=by
 have HK0:=zH h
 obtain ⟨Aw,cw,rfl,lw,mw,sw⟩:=h.fm.wires
 refine' zq207
 refine' zq62
 clear h sw
 go_enter Tryz.func25,Tryz.ntmps25
 go_wp2_with fail
 go_loopw[9] (fun i wr=>∃k:Nat,k<=l.length/\i= .int .i64 k/\Hid (∀j,j<k->∀n,l[j]? =some n->jW f n)/\Below w.heap.size w wr) (fun i _=>l.length-(intOf i).toNat)
 case atStart=>exact ⟨0,Nat.zero_le _,rfl,fun j h=>absurd h (by omega),Below.refl _ _⟩
 case round=>
  obtain ⟨k,hk,rfl,HN,hb⟩:=hrel
  by_cases hlt:k<l.length
  ·obtain ⟨b,off,n,rfl,hbb,hn,wn,d⟩:=(sv.below (hb.mono hB)).int hlt
   have HK:=zH hn
   clear hn
   have hbA:=hb.alloc hb.size (.cells #[.int .i64 n] 3)
   have hKA:=HK0.o.below hB hbA
   have HC:=zH (oq hKA [n] _ _ (oH wn))
   rw[bu qQ] at HC
   by_cases hw:ak f n
   ·rw[aq hw] at HC
    obtain ⟨m,hm⟩:=Int.eq_ofNat_of_zero_le hw.1
    subst hm
    have hml:m<f.wires.length:=by have:=hw.2;omega
    have hml':(m:Int)<f.wires.length:=by omega
    obtain ⟨Aw',cw',he,_,_,sw⟩:=hKA.fm.wires
    injection he with he1 he2 he3
    clear he2 he3
    subst he1
    obtain ⟨b',off',x,Ag,cg,rfl,hbb',hx,wx,c0,c1,lg,mg,sg⟩:=sw.wr hml
    have mg':cg<=9223372036854775807:=by unfold maxLen at mg;omega
    have q0:=hKA.row.cell 0
    simp only[List.getElem?_toArray,List.getElem?_cons_zero] at q0
    have HX:=zH (show aa f m=x.clock by unfold aa;rw[bW hx])
    have HW:=zH hw
    clear hx hw hKA
    by_cases hg:0<x.clock.length
    ·have HF:=zH (ab (gB (f:=f) HK.o (fun g=>by have:=g.2;rw[HX.o] at this;rw[this] at hg;simp at hg)))
     go_wp2_with fail
     refine HC.o.mono ?_
     refine' zq163
     exact ⟨aj HF.o.symm,hbA⟩
    ·have HN':=zH (aC HN.o (fun n' hn'=>by rw[HK.o] at hn';injection hn' with hn';rw[<-hn'];exact ⟨HW.o,by rw[HX.o];exact List.eq_nil_of_length_eq_zero (by omega)⟩))
     go_wp2_with fail
     refine HC.o.mono ?_
     rintro e w' ⟨rfl,rfl⟩
     go_wp2_with fail
     go_roundw
     case rel=>first|exact ⟨k+1,by omega,by go_num,HN',hbA⟩|((repeat apply Exists.intro);exact ⟨⟨k+1,by omega,by go_num,HN',hbA⟩,rfl⟩)
     case measure=>simp[intOf];omega
   ·rw[ab hw] at HC
    have HF:=zH (ab (gB (f:=f) HK.o (fun g=>hw g.1)))
    clear hw hKA
    go_wp2_with fail
    refine HC.o.mono ?_
    refine' zq163
    exact ⟨aj HF.o.symm,hbA⟩
  ·obtain rfl:k=l.length:=by omega
   have HF:=zH (bu (lD HN.o))
   refine' zq246
theorem xA {w:World} {O:Nat} {l:List Int} {t:TypeId} (h:ai w O (l.map (Value.int .i64)).toArray t) (hl:l.length<=1600) (x:Int):
  Calls Tryz.prog 94 #[.slice (some ⟨O,0,none⟩) l.length l.length,.int .i64 x] w fun e w'=>(∃r:Int,e= .returned (.int .i64 r)/\(0<=r↔x∈l))/\w=w':=by
 go_enter Tryz.func94,Tryz.ntmps94
 go_wp2_with fail
 go_loopw[8] (fun i wr=>∃k:Nat,k<=l.length/\i= .int .i64 k/\Hid (∀j,j<k->∀y,l[j]? =some y->y≠x)/\w=wr) (fun i _=>l.length-(intOf i).toNat)
 case atStart=>exact ⟨0,Nat.zero_le _,rfl,fun j h=>absurd h (by omega),rfl⟩
 case round=>
  obtain ⟨k,hk,rfl,HN,rfl⟩:=hrel
  by_cases hlt:k<l.length
  ·have c0:=vT h hlt
   have HG:=zH (show l[k]? =some (ao l k) by simp[ao,List.getD_eq_getElem?_getD,List.getElem?_eq_getElem hlt])
   generalize ao l (k:Int)=V at*
   by_cases e:x=V
   ·have e':(x==V)=true:=by simp[e]
    have e'':(V==x)=true:=by simp[e]
    have HE:=zH e
    clear e
    go_wp2_with fail
    go_ret
    refine ⟨⟨_,rfl,?_⟩,rfl⟩
    exact ⟨fun _=>by rw[HE.o];exact List.mem_of_getElem? HG.o,fun _=>by omega⟩
   ·have e':(x==V)=false:=by simp[e]
    have e'':(V==x)=false:=by simp;exact fun g=>e g.symm
    have HN':=zH (aC HN.o (fun y hy=>by rw[HG.o] at hy;injection hy with hy;rw[<-hy];exact fun g=>e g.symm))
    clear e
    refine' zq256
  ·obtain rfl:k=l.length:=by omega
   go_wp2_with fail
   go_ret
   refine ⟨⟨_,rfl,?_⟩,rfl⟩
   refine ⟨fun h0=>absurd h0 (by decide),fun hn=>?_⟩
   obtain ⟨j,hj⟩:=List.getElem?_of_mem hn
   exact absurd rfl (HN.o j (List.getElem?_eq_some_iff.1 hj).1 x hj)
theorem kU {w:World} {O:Nat} {l:List Int} {t:TypeId} (h:ai w O (l.map (Value.int .i64)).toArray t) (hl:l.length<=1600) (x:Int):
  Calls Tryz.prog 61 #[.slice (some ⟨O,0,none⟩) l.length l.length,.int .i64 x] w fun e w'=>e= .returned (.bool (cB (x∈l)))/\w=w':=by
 have HI:=zH (xA h hl x)
 clear h
 go_enter Tryz.func61,Tryz.ntmps61
 refine' zq260
theorem yp {l m:List Int} (hl:l.length=m.length) (h:∀j,j<l.length->∀x y,l[j]? =some x->m[j]? =some y->x=y):l=m:=by
 apply List.ext_getElem hl
 intro i h1 h2
 exact h i h1 _ _ (List.getElem?_eq_getElem h1) (List.getElem?_eq_getElem h2)
theorem DB {α:Type} {l:List α} (h:l.length=6):∃a b c d e f,l=[a,b,c,d,e,f]:=by
 match l,h with
 | [a,b,c,d,e,f],_=>exact ⟨a,b,c,d,e,f,rfl⟩
section
variable {H:Type} {enc:TypeId × Value->H} {w:World} {spare:Nat->Bool} {held:Bool}
theorem sG:Tryz.prog.cellsOf 4=1:=by kernel_rfl
theorem ss:Tryz.prog.cellsOf 61=2:=by kernel_rfl
theorem wI:Tryz.prog.cellsOf 50=1:=by kernel_rfl
theorem qr:Tryz.prog.cellsOf 52=2:=by kernel_rfl
theorem vZ:Tryz.prog.cellsOf 22=1:=by kernel_rfl
theorem AI (y:Gd) (cs:List Value) (h:aW y cs):cs.length=2:=by rw[h.1];rfl
theorem zG (y:Wr) (cs:List Value) (h:fu w w.heap.size y cs):cs.length=2:=by obtain ⟨v,rfl,_⟩:=h;rfl
theorem Bw (fuel:Nat) (cs:List Value) (x:DataW H × List MemPlace) (h:DataW.trod enc Tryz.prog w 0 spare held fuel 61 cs=some x):∃g,aW g cs:=by
 obtain ⟨xs,n,_,_,hlen,hxl,hf⟩:=DataW.trod_struct Tryz.underlying61 h
 rw[ss] at hlen
 obtain ⟨c0,c1,rfl⟩:=ue hlen
 have hx:xs.length=2:=hxl
 have e0:xs[0]? =some (xs[0]'(by omega)):=List.getElem?_eq_getElem (by omega)
 have e1:xs[1]? =some (xs[1]'(by omega)):=List.getElem?_eq_getElem (by omega)
 refine' zq204
 have h1:DataW.trod enc Tryz.prog w 0 spare held n 4 (([c0,c1].drop 1).take (Tryz.prog.cellsOf 4))=some xs[1]:=(hf 1 _ rfl).trans e1
 rw[gJ] at h0
 rw[sG] at h1
 refine' zq190
 obtain ⟨b,hb,_⟩:=DataW.trod_bool Tryz.underlying4 h1
 simp at ha hb
 subst ha;subst hb
 exact ⟨⟨a,b⟩,rfl,wa⟩
theorem Cs (fuel:Nat) (cs:List Value) (x:DataW H × List MemPlace) (h:DataW.trod enc Tryz.prog w 0 spare held fuel 52 cs=some x):∃x,fu w w.heap.size x cs:=by
 obtain ⟨xs,n,_,_,hlen,hxl,hf⟩:=DataW.trod_struct Tryz.underlying52 h
 rw[qr] at hlen
 obtain ⟨c0,c1,rfl⟩:=ue hlen
 have hx:xs.length=2:=hxl
 have e0:xs[0]? =some (xs[0]'(by omega)):=List.getElem?_eq_getElem (by omega)
 have e1:xs[1]? =some (xs[1]'(by omega)):=List.getElem?_eq_getElem (by omega)
 refine' zq204
 have h1:DataW.trod enc Tryz.prog w 0 spare held n 50 (([c0,c1].drop 1).take (Tryz.prog.cellsOf 50))=some xs[1]:=(hf 1 _ rfl).trans e1
 rw[gJ] at h0
 rw[wI] at h1
 refine' zq190
 obtain ⟨l,hl⟩:=jT Tryz.underlying50 ss (by decide) n (fun k _ cs x h=>Bw k cs x h) AI ⟨0,false⟩ h1
 simp at ha
 subst ha
 exact ⟨⟨a,l⟩,c1,rfl,wa,hl⟩
end
open Go.RowKit
theorem uZ (a:Nat) (ha:a<=100000):bits .and .u64 (a:Int) 4294967295=(a:Int):=by
 have h:=bits_and_u64_nat a 4294967295 (by omega) (by omega)
 have e:a &&& 4294967295=a:=by rw[show (4294967295:Nat)=2 ^ 32-1 by rfl,Nat.and_two_pow_sub_one_eq_mod];exact Nat.mod_eq_of_lt (by omega)
 rw[e] at h
 exact h
theorem yR:bits .and .u64 1 4294967295=1:=by decide
theorem wO:bits .and .u64 0 4294967295=0:=by decide
theorem vA (y:Nat) (hy:y<=100000) (w:World):
  Calls Tryz.prog 112 #[.int .u64 1,.int .u64 y] w fun e w'=>e= .returned (.tuple #[.int .u64 0,.int .u64 y])/\w=w':=by
 have k1:=uZ y hy
 have k2:=yR
 have k3:=wO
 have hd:(y:Int)/4294967296=0:=by omega
 go_enter Tryz.func112,Tryz.ntmps112
 go_wp2
 go_ret2
 exact ⟨rfl,rfl⟩
theorem mul_one (y:Nat) (hy:y<=100000) (w:World):
  Calls Tryz.prog 93 #[.int .u64 1,.int .u64 y] w fun e w'=>e= .returned (.tuple #[.int .u64 0,.int .u64 y])/\w=w':=by
 go_enter Tryz.func93,Tryz.ntmps93
 go_wp2_with (go_at_call 112;refine (vA _ hy _).mono ?_;rintro e w' ⟨rfl,rfl⟩)
 go_ret2
 exact ⟨rfl,rfl⟩
open Go.RowKit Vf
theorem tY {w:World} {O:Nat} {l:List Bool} {t:TypeId} (h:ai w O (l.map Value.bool).toArray t) (hl:l.length<=1600):
  Calls Tryz.prog 95 #[.slice (some ⟨O,0,none⟩) l.length l.length,.bool false] w fun e w'=>(∃r:Int,e= .returned (.int .i64 r)/\(0<=r↔¬∀b∈l,b=true))/\w=w':=by
 go_enter Tryz.func95,Tryz.ntmps95
 go_wp2_with fail
 go_loopw[8] (fun i wr=>∃k:Nat,k<=l.length/\i= .int .i64 k/\Hid (∀j,j<k->l.getD j false=true)/\w=wr) (fun i _=>l.length-(intOf i).toNat)
 case atStart=>exact ⟨0,Nat.zero_le _,rfl,fun j h=>absurd h (by omega),rfl⟩
 case round=>
  obtain ⟨k,hk,rfl,HN,rfl⟩:=hrel
  by_cases hlt:k<l.length
  ·have c0:=qC h hlt
   generalize hV:l.getD k false=V at*
   have HV:=zH hV
   have HM:=zH (List.getElem_mem hlt)
   have HG:=zH (show l.getD k false=l[k] by rw[List.getD_eq_getElem?_getD,List.getElem?_eq_getElem hlt];rfl)
   clear hV
   cases V
   ·go_wp2_with fail
    go_ret
    refine ⟨⟨_,rfl,?_⟩,rfl⟩
    refine ⟨fun _ ha=>?_,fun _=>by omega⟩
    have:=ha _ HM.o
    rw[<-HG.o,HV.o] at this
    exact absurd this (by decide)
   ·have HN':=zH (show ∀j,j<k+1->l.getD j false=true from fun j hj=>by
     by_cases e:j=k
     ·rw[e];exact HV.o
     ·exact HN.o j (by omega))
    refine' zq256
  ·obtain rfl:k=l.length:=by omega
   go_wp2_with fail
   go_ret
   refine ⟨⟨_,rfl,?_⟩,rfl⟩
   refine ⟨fun h0=>absurd h0 (by decide),fun hn=>absurd (fun b hb=>?_) hn⟩
   obtain ⟨j,hj,rfl⟩:=List.getElem_of_mem hb
   have:=HN.o j hj
   rwa [List.getD_eq_getElem?_getD,List.getElem?_eq_getElem hj] at this
theorem kM {w:World} {O:Nat} {l:List Bool} {t:TypeId} (h:ai w O (l.map Value.bool).toArray t) (hl:l.length<=1600):
  Calls Tryz.prog 69 #[.slice (some ⟨O,0,none⟩) l.length l.length,.bool false] w fun e w'=>e= .returned (.bool (cB (¬∀b∈l,b=true)))/\w=w':=by
 have HI:=zH (tY h hl)
 clear h
 go_enter Tryz.func69,Tryz.ntmps69
 refine' zq260
section
variable {w w':World} {B L K O:Nat} {vi vo vc vd:Value}
end
theorem rh (z:Value) (n:Nat):madeCells #[z] n=(List.replicate n z).toArray:=by
 apply Array.ext
 ·simp[madeCells]
 ·intro i h1 h2
  simp[madeCells,Nat.mod_one]
theorem xD:(Tryz.prog.info? 4).map (fun i=>(i.zero,i.size,i.bytes))=some (some (.bool false),1,1):=by kernel_rfl
theorem jq (n:Int) (h0:0<=n) (h1:n<=1600) (W:World):(Instr.makeSlice 26 (.int .i64 n) (.int .i64 n)).run Tryz.prog W= .ok (.slice (some ⟨W.heap.size,0,none⟩) n.toNat n.toNat) (W.alloc (.cells (List.replicate n.toNat (.int .i64 0)).toArray 3)):=by
 refine' zq106
 rw[run_make (P:=Tryz.prog) W 26 3 i0 (.int .i64 0) rfl hi0 hz0 .i64 .i64 n n h0 (Int.le_refl _) (by rw[hz2];omega) (by omega),hz1,Nat.mul_one,<-rh]
 rfl
theorem gQ (n:Int) (h0:0<=n) (h1:n<=1600) (W:World):(Instr.makeSlice 109 (.int .i64 n) (.int .i64 n)).run Tryz.prog W= .ok (.slice (some ⟨W.heap.size,0,none⟩) n.toNat n.toNat) (W.alloc (.cells (List.replicate n.toNat (.bool false)).toArray 4)):=by
 obtain ⟨i0,hi0,hz0,hz1,hz2⟩:=info_parts xD
 rw[run_make (P:=Tryz.prog) W 109 4 i0 (.bool false) rfl hi0 hz0 .i64 .i64 n n h0 (Int.le_refl _) (by rw[hz2];omega) (by omega),hz1,Nat.mul_one,<-rh]
 rfl
def ft (x:Int) (n c:Nat):List Value:=List.replicate n (.int .i64 x)++List.replicate (c-n) (.int .i64 0)
theorem rI {x:Int} {n c:Nat} (h:n<=c):(ft x n c).length=c:=by simp[ft];omega
theorem lY {x:Int} {n m c:Nat}:splice (ft x n c) n (List.replicate m (.int .i64 x))=ft x (n+m) c:=by
 unfold splice ft
 rw[List.take_left' (by simp),List.length_replicate,show n+m=(List.replicate n (Value.int .i64 x)).length+m by simp,List.drop_length_add_append,List.drop_replicate,List.length_replicate,<-List.append_assoc,List.replicate_append_replicate,show c-n-m=c-(n+m) by omega]
theorem zP {x:Int} {n c j:Nat} (h:j<n):(ft x n c)[j]? =some (.int .i64 x):=by
 unfold ft
 rw[List.getElem?_append_left (by simpa using h),List.getElem?_replicate,if_pos h]
theorem xQ (x:Int) (c:Nat):ft x 0 c=List.replicate c (.int .i64 0):=by simp[ft]
theorem ww (x:Int) (c:Nat):ft x c c=List.replicate c (.int .i64 x):=by simp[ft]
def tZ (x:Int) (c:Nat) (w:World) (e:Ending) (w':World):Prop:=∃R,e= .returned (.slice (some ⟨R,0,none⟩) c c)/\w.heap.size<=R/\ai w' R (List.replicate c (.int .i64 x)).toArray 3/\Below w.heap.size w w'
theorem uo (x:Int) (c b off cap:Nat) (hc:c<=1600) (hc1:1<=c) (w:World) (hb:b<w.heap.size) (hx:w.cell? ⟨b,off,none⟩=some (.int .i64 x)):
  Calls Tryz.prog 60 #[.slice (some ⟨b,off,none⟩) 1 cap,.int .i64 c] w (tZ x c w):=by
 have mk:=jq c (by omega) (by omega)
 have e1:IntKind.u64.wrap (c:Int)=(c:Int):=by rw[IntKind.wrap_u64];omega
 have hsz1:(Tryz.prog.info? 3).map (·.size)=some 1:=by kernel_rfl
 have b1:=(Below.refl w.heap.size w).alloc (Nat.le_refl _) (.cells (Array.replicate c (.int .i64 0)) 3)
 have r1:=ai.new w (Array.replicate c (.int .i64 0)) 3
 have hx1:(w.alloc (.cells (Array.replicate c (.int .i64 0)) 3)).cell? ⟨b,off,none⟩=some (.int .i64 x):=(World.cell?_alloc_lt w _ _ hb).trans hx
 have R1:Hid ((w.alloc (.cells (Array.replicate c (.int .i64 0)) 3)).heap[w.heap.size]? =some (.cells (ft x 0 c).toArray 3 (0,0))):=by show _=_;rw[xQ];simpa[ai] using r1
 clear r1
 go_enter Tryz.func60,Tryz.ntmps60
 go_wp2_with fail
 refine (mul_one c (by omega) _).mono ?_
 rintro e w' ⟨rfl,rfl⟩
 go_upto_region 7 with (fail)
 go_wp2_with (refine wpList_copy_splice rfl (.tmp 31) (.tmp 32) 26 26 rfl 3 Tryz.underlying26 hsz1 _ _ _ _ _ _ rfl rfl w.heap.size 0 (ft x 0 c) 3 R1.o [.int .i64 x] ?c1 ?c2 ?c3 ?c4 w.heap.size w b1 (Nat.le_refl _) ?_)
 case c1=>exact (Nat.min_eq_left hc1).symm
 case c2=>
  intro j v hv
  match j,hv with
  |0,hv=>simp at hv;subst hv;simpa using hx
 case c3=>rw[rI (Nat.zero_le _)];simpa using hc1
 case c4=>intro v hv;simp at hv;subst hv;rfl
 intro w2 hR2 hb2
 have R2:Hid (ai w2 w.heap.size (ft x 1 c).toArray 3):=by
  have:=hR2.out
  rw[show [Value.int .i64 x]=List.replicate 1 (.int .i64 x) from rfl,lY] at this
  exact this
 clear hR2 R1 b1 hx1 mk
 go_wp2_with fail
 go_loopw[8] (fun i wr=>∃n:Nat,1<=n/\n<=c/\i= .int .i64 n/\Hid (ai wr w.heap.size (ft x n c).toArray 3)/\Below w.heap.size w wr) (fun i _=>c-(intOf i).toNat)
 case atStart=>exact ⟨1,by omega,hc1,rfl,R2,hb2⟩
 case round=>
  clear R2 hb2
  obtain ⟨n,hn1,hnc,rfl,HR,hbr⟩:=hrel
  by_cases hlt:n<c
  ·have hi0:(0:Int)<=(n:Int):=by omega
   have hi1:(n:Int)<=(c:Int):=by omega
   have hne:¬(c=n):=by omega
   have hm:min n (c-n)<=c:=by omega
   have HM:Hid (∀v∈List.replicate (min n (c-n)) (Value.int .i64 x),v.oneCell'=true):=fun v hv=>by rw[(List.mem_replicate.1 hv).2];rfl
   have HC:Hid (∀j v,(List.replicate (min n (c-n)) (Value.int .i64 x))[j]? =some v->wr.drew.cell? ((⟨w.heap.size,0,none⟩:Addr).add j)=some v):=by
    intro j v hv
    rw[List.getElem?_replicate] at hv
    split at hv
    ·rename_i hj
     injection hv with hv
     subst hv
     rw[Addr.add_lit,Nat.zero_add]
     refine (ai.cell HR.o.drew j).trans ?_
     rw[List.getElem?_toArray]
     exact zP (by omega)
    ·cases hv
   have HL:Hid ((ft x n c).length=c):=rI hnc
   go_wp2_with fail
   go_region_held3 (fun _=>True) (first|trivial) (first|((refine step_copy_splice (by rfl) (.tmp 41) (.tmp 44) 26 26 (by rfl) 3 Tryz.underlying26 hsz1 (some ⟨w.heap.size,n,none⟩) (some ⟨w.heap.size,0,none⟩) (c-n) (c-n) n c (by rfl) (by rfl) w.heap.size n (ft x n c) 3 HR.o.drew (List.replicate (min n (c-n)) (.int .i64 x)) (by simp) (fun _=>⟨rfl,_,rfl,HC.o⟩) (by rw[HL.o];simp;omega) HM.o w.heap.size w hbr.drew (Nat.le_refl _) ?_);intro w3 hR3 hb3))
   have R3:Hid (ai w3 w.heap.size (ft x (n+min n (c-n)) c).toArray 3):=by
    have:=hR3.out
    rw[lY] at this
    exact this
   have hlen:(List.replicate (min n (c-n)) (Value.int .i64 x)).length=min n (c-n):=by simp
   refine' zq159
  ·obtain rfl:n=c:=by omega
   go_wp2_with fail
   go_ret
   exact ⟨w.heap.size,rfl,Nat.le_refl _,by rw[<-ww];exact HR.o,hbr⟩
theorem sV (x:Int) (b off cap:Nat) (w:World):
  Calls Tryz.prog 60 #[.slice (some ⟨b,off,none⟩) 1 cap,.int .i64 0] w (tZ x 0 w):=by
 have mk:=jq 0 (by omega) (by omega)
 have e1:IntKind.u64.wrap 0=0:=by decide
 have hsz1:(Tryz.prog.info? 3).map (·.size)=some 1:=by kernel_rfl
 have b1:=zH ((Below.refl w.heap.size w).alloc (Nat.le_refl _) (.cells (Array.replicate (0:Int).toNat (.int .i64 0)) 3))
 have r1:=zH (ai.new w (Array.replicate (0:Int).toNat (.int .i64 0)) 3)
 go_enter Tryz.func60,Tryz.ntmps60
 go_wp2_with fail
 refine (mul_one 0 (by omega) _).mono ?_
 rintro e w' ⟨rfl,rfl⟩
 go_upto_region 7 with (fail)
 go_wp2_with (refine wpList_copy_nothing rfl (.tmp 31) (.tmp 32) 26 26 rfl 3 Tryz.underlying26 hsz1 _ _ _ _ _ _ rfl rfl rfl ?_)
 go_wp2_with fail
 go_loopw[8] (fun i wr=>i= .int .i64 0/\Hid (ai wr w.heap.size (Array.replicate (0:Int).toNat (.int .i64 0)) 3/\Below w.heap.size w wr)) (fun i _=>0)
 case atStart=>exact ⟨rfl,r1.out,b1.out⟩
 case round=>
  obtain ⟨rfl,HR⟩:=hrel
  go_wp2_with fail
  go_ret
  exact ⟨w.heap.size,rfl,Nat.le_refl _,HR.o.1,HR.o.2⟩
theorem nJ (x:Int) (c b off cap:Nat) (hc:c<=1600) (w:World) (hb:b<w.heap.size) (hx:w.cell? ⟨b,off,none⟩=some (.int .i64 x)):
  Calls Tryz.prog 60 #[.slice (some ⟨b,off,none⟩) 1 cap,.int .i64 c] w (tZ x c w):=by
 rcases Nat.eq_zero_or_pos c with rfl|h0
 ·exact sV x b off cap w
 ·exact uo x c b off cap hc h0 w hb hx
end Go.Proofs.YtckognjamlckcaaGreatDoor
namespace Go.Proofs.YtckognjamlckcaaGreatDoor.Vf
end Go.Proofs.YtckognjamlckcaaGreatDoor.Vf
namespace Go.Proofs.YtckognjamlckcaaGreatDoor
open Go.RowKit Vf
theorem As (l:List Int) (n:Nat) (v:Int):(al l).set n (.int .i64 v)=al (l.set n v):=by simp[al,List.map_set]
section
variable {w w':World} {C T R O:Nat} {vc vn vi:Value} {cells inn:List Int}
end
attribute [local go_sem ↓] Go.wp_at_zero Go.wp_at_succ
theorem Sl.flatA {α:Type} {w:World} {B size:Nat} {rel:α->List Value->Prop} {ad:Addr} {l:List α} {f:α->List Value} (h:Sl w B size rel (some ad) l) (hf:∀x cs,rel x cs->cs=f x) (hl:∀x,(f x).length=size):
  ∀j u,((l.map f).flatten)[j]? =some u->w.cell? (ad.add j)=some u:=by
 rcases Nat.eq_zero_or_pos l.length with h0|h0
 ·have:l=[]:=List.eq_nil_of_length_eq_zero h0
  subst this
  intro j u hu
  simp at hu
 ·obtain ⟨b,off,hA,_⟩:=h h0
  injection hA with hA
  subst hA
  exact h.flat hf hl
theorem Sl.none {α:Type} {w:World} {B size:Nat} {rel:α->List Value->Prop} {l:List α} (h:Sl w B size rel none l):l=[]:=by
 rcases Nat.eq_zero_or_pos l.length with h0|h0
 ·exact List.eq_nil_of_length_eq_zero h0
 ·obtain ⟨b,off,hA,_⟩:=h h0
  cases hA
def Bn {α:Type} (E:TypeId) (size:Nat) (f:α->List Value) (l:List α) (w:World) (e:Ending) (w':World):Prop:=∃v',e= .returned v'/\w'.ownsRow w.heap.size E size v' l.length (l.map f).flatten/\Below w.heap.size w w'
def zA (x:Int):List Value:=[.int .i64 x]
theorem Cf (x:Int) (cs:List Value) (h:aP x cs):cs=zA x:=h.1
theorem zB (x:Int):(zA x).length=1:=rfl
theorem wN (l:List Int):(l.map zA).flatten=al l:=by
 induction l with
 |nil=>rfl
 |cons x l ih=>rw[List.map_cons,List.flatten_cons,ih];rfl
theorem mM {α:Type} {f:α->List Value} (hf:∀x,∀u∈f x,u.oneCell'=true) (l:List α):∀u∈(l.map f).flatten,u.oneCell'=true:=by
 intro u hu
 obtain ⟨cs,hcs,hu⟩:=List.mem_flatten.1 hu
 obtain ⟨x,_,rfl⟩:=List.mem_map.1 hcs
 exact hf x u hu
end Go.Proofs.YtckognjamlckcaaGreatDoor
