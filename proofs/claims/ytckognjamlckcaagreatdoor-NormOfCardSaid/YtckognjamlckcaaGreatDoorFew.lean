/-
  The document's words on flats: the wires that an expression wants at once. The document's words on flats: how many wires can be put in a row. What the document asks of a flat, in its own order, is what makes it right. norm.Of, for any flat. tompionref23.Types: the types of some wires of a flat. Few parts: the contract of tompionlaw12.Few.
-/
import Derived.Test.YtckognjamlckcaaGreatDoorZz
import Derived.Test.YtckognjamlckcaaGreatDoorFrF
import Derived.Test.YtckognjamlckcaaGreatDoorTreeRight
import Derived.Test.YtckognjamlckcaaGreatDoorR24E
import Derived.Test.YtckognjamlckcaaGreatDoorNormK
import Derived.Test.YtckognjamlckcaaGreatDoorNpC
import Derived.Test.YtckognjamlckcaaGreatDoorFrD
import Derived.Test.YtckognjamlckcaaGreatDoorRgL
import Derived.Test.YtckognjamlckcaaGreatDoorFltA
set_option maxHeartbeats 16000000
set_option maxRecDepth 100000
namespace Go.Proofs.YtckognjamlckcaaGreatDoor.Fo
open Vf
theorem wflat_le:∀(l:List Ex),(∀x∈l,(wantE x).length≤exSize x)→((l.map wantE).flatten).length≤sumL (l.map exSize):=by
 intro l
 induction l with
 |nil=>intro _;simp[sumL]
 |cons y l ih=>
  intro h
  simp only[List.map_cons,List.flatten_cons,List.length_append,sumL]
  have h1:=h y (by simp)
  have h2:=ih (fun x hx=>h x (by simp[hx]))
  omega
theorem whead_le:∀(l:List Ex),(∀x∈l,(wantE x).length≤exSize x)→((l.map wantE).headD []).length≤sumL (l.map exSize):=by
 intro l h
 cases l with
 |nil=>simp[sumL]
 |cons y l=>
  simp only[List.map_cons,List.headD_cons,sumL]
  have h1:=h y (by simp)
  omega
theorem sumL_take (k:Nat):∀(l:List Ex),sumL ((l.take k).map exSize)≤sumL (l.map exSize):=by
 induction k with
 |zero=>intro l;simp[sumL]
 |succ k ih=>
  intro l
  cases l with
  |nil=>simp[sumL]
  |cons y l=>simp only[List.take_succ_cons,List.map_cons,sumL];have:=ih l;omega
theorem wantE_len (e:Ex):(wantE e).length≤exSize e∧∀k,(wantTo e k).length≤exSize e:=by
 induction e using Ex.ind with
 |h e ih=>
  have hk:∀k,(wantTo e k).length≤exSize e:=fun k=>by
   have h1:=wflat_le (e.args.take k) (fun x hx=>(ih x (List.mem_of_mem_take hx)).1)
   have h2:=whead_le (e.args.take k) (fun x hx=>(ih x (List.mem_of_mem_take hx)).1)
   have h3:=sumL_take k e.args
   rw[exSize_eq]
   unfold wantTo
   rw[List.length_append]
   have h4:(if namedB e.op=true then [e.n] else []).length≤1:=by split<;>simp
   have h5:(if e.op=21 then [] else if e.op=22 then ((e.args.take k).map wantE).headD [] else ((e.args.take k).map wantE).flatten).length≤sumL (e.args.map exSize):=by
    split
    ·simp
    ·split<;>omega
   omega
  exact ⟨by rw[←want_fin];exact hk _,hk⟩
end Go.Proofs.YtckognjamlckcaaGreatDoor.Fo
namespace Go.Proofs.YtckognjamlckcaaGreatDoor
open Go.RowKit Vf Fo
attribute [local go_sem ↓] Go.wp_at_zero Go.wp_at_succ
def RWantP (e:Ex) (w:World) (r:Ending) (w':World):Prop:=∃v,r= .returned v∧w'.ownsRow w.heap.size 3 1 v (wantE e).length (ints (wantE e))∧Below w.heap.size w w'
theorem ints_app (l m:List Int):ints (l++m)=ints l++ints m:=by simp[ints]
theorem ints_cellOne (l:List Int):∀u∈ints l,u.oneCell'=true:=fun u hu=>by
 obtain ⟨x,_,rfl⟩:=List.mem_map.1 hu
 rfl
theorem rfwants_any (e:Ex):∀(A:Option Addr) (cap:Nat) (w:World),ExOk e→e.args.length≤cap→cap≤maxLen→IsExs w w.heap.size A e.args→exSize e≤1000000→
  Calls Tryz.prog 89 #[exV e A cap] w (RWantP e w):=by
 refine' zq122
 induction e using Ex.ind with
 |h e ih=>
  intro A cap w hok hcap hmax hx hsz
  have HI:Hid (∀x∈e.args,∀(A:Option Addr) (cap:Nat) (W:World),ExOk x→x.args.length≤cap→cap≤maxLen→IsExs W W.heap.size A x.args→Calls Tryz.prog 89 #[exV x A cap] W (RWantP x W)):=fun x hx A cap W q1 q2 q3 q4=>ih x hx A cap W q1 q2 q3 q4 (by have:=exSize_arg hx;omega)
  have HLE:Hid (∀k,(wantTo e k).length≤1000000):=fun k=>Nat.le_trans ((wantE_len e).2 k) hsz
  have HFI:=Lib.hid (want_fin (e:=e))
  have HZ:=Lib.hid (want_zero (e:=e))
  have b1:Below w.heap.size w (w.alloc (.cells (exRw e A cap) 75)):=bE
  have rX:=Row.new w (exRw e A cap) 75
  have HXS:=Lib.hid (fun W (hW:Below w.heap.size w W)=>(hx.below hW).more hW.size)
  have HNM:=Lib.hid (rfnamed_any e.op)
  unfold maxLen at hmax
  clear ih hx hok hsz
  go_enter Tryz.func89,Tryz.ntmps89
  go_upto_region 1 with (fail)
  generalize w.alloc (.cells (exRw e A cap) 75)=w1 at*
  have hXl:=rX.lt
  have hs1:=b1.size
  have HX:Hid (∀W,Below w1.heap.size w1 W→W.cell? ⟨w.heap.size,0,none⟩=some (.int .i64 e.op)∧W.cell? ⟨w.heap.size,1,none⟩=some (.string e.name)∧W.cell? ⟨w.heap.size,2,none⟩=some (.int .i64 e.n)∧W.cell? ⟨w.heap.size,3,none⟩=some (.slice A e.args.length cap)∧W.cell? ⟨w.heap.size,4,none⟩=some (.int .i64 e.line)∧W.cell? ⟨w.heap.size,5,none⟩=some (.int .i64 e.col)):=fun W hW=>(rX.below hW hXl).six'
  clear rX
  obtain ⟨e0,e1,e2,e3,e4,e5⟩:=HX.out _ (Below.refl _ _)
  by_cases hn:namedB e.op=true
  case' pos=>
   rw[hn] at HNM
   have HZ1:Hid (ints (wantTo e 0)=[.int .i64 e.n]∧(wantTo e 0).length=1):=by
    show _∧_
    rw[HZ.out,if_pos hn]
    exact ⟨rfl,rfl⟩
   have ha:Below w1.heap.size w1 (w1.alloc (.cells #[.int .i64 e.n] 3)):=bE
   have HN14:Hid (∀j u,[Value.int .i64 e.n][j]? =some u→(w1.alloc (.cells #[.int .i64 e.n] 3)).cell? ((⟨w1.heap.size,0,none⟩:Addr).add j)=some u):=cell_one w1 3 (.int .i64 e.n)
   have HOA:Hid ((w1.alloc (.cells #[.int .i64 e.n] 3)).ownsRow w1.heap.size 3 1 (.slice none 0 0) 0 []):=World.ownsRow_nil _ _ _ _
   clear hn HZ
   go_wp2_with fail
   (with_reducible refine (HNM.out _).mono ?_)
   rintro r w8 ⟨rfl,rfl⟩
   go_wp2_with (at_builtin;refine wpList_append_own _ rfl _ _ 26 rfl w1.heap.size 3 i0 (.int .i64 0) 1 8 Tryz.underlying26 hi0 hz0 hz1 hz2 rfl (by decide) _ _ _ rfl HOA.out ⟨w1.heap.size,0,none⟩ 1 1 [.int .i64 e.n] rfl ?c0 ?c1 ?c2 ?c3 ?c4 ?c5 ?_)
   case' c0=>rfl
   case' c1=>exact HN14.out
   case' c2=>intro u hu;simp at hu;subst hu;rfl
   case' c3=>unfold maxLen;omega
   case' c4=>omega
   case' c5=>simp
   intro v15 w15 hown15 hg15 _
   have HB0:Hid (Below w1.heap.size w1 w15):=below_own ha HOA.out hg15 (by simp)
   have HO0:Hid (w15.ownsRow w1.heap.size 3 1 v15 (wantTo e 0).length (ints (wantTo e 0))):=by
    show w15.ownsRow _ _ _ _ _ _
    rw[HZ1.out.1,HZ1.out.2];exact hown15
   clear hown15 hg15 HOA HN14 ha HZ1
   go_wp2_with fail
  case' neg=>
   have hn':namedB e.op=false:=by simpa using hn
   rw[hn'] at HNM
   have HZ1:Hid (wantTo e 0=[]):=by show _=_;rw[HZ.out,if_neg hn]
   have HB0:Hid (Below w1.heap.size w1 w1):=Below.refl _ _
   have HO0:Hid (w1.ownsRow w1.heap.size 3 1 (.slice none 0 0) (wantTo e 0).length (ints (wantTo e 0))):=by
    show w1.ownsRow _ _ _ _ _ _
    rw[HZ1.out];exact World.ownsRow_nil _ _ _ _
   clear hn hn' HZ HZ1
   go_wp2_with fail
   (with_reducible refine (HNM.out _).mono ?_)
   rintro r w8 ⟨rfl,rfl⟩
   go_wp2_with fail
  all_goals
   clear e0 e1 e2 e3 e4 e5 HNM
   go_loopw[3,4] (fun v3 i wr=>∃k:Nat,k≤e.args.length∧i= .int .i64 k∧Hid (wr.ownsRow w1.heap.size 3 1 v3 (wantTo e k).length (ints (wantTo e k)))∧Hid (Below w1.heap.size w1 wr)) (fun _ i _=>e.args.length-(intOf i).toNat)
   case atStart=>exact ⟨0,Nat.zero_le _,rfl,HO0.out,HB0.out⟩
   case round=>
    clear HO0 HB0
    obtain ⟨k,hk,rfl,HO,HBR⟩:=hrel
    rename_i wr
    have hszr:=HBR.out.size
    have hb:=b1.trans (HBR.out.mono hs1)
    have hbs:=hb.size
    obtain ⟨e0,e1,e2,e3,e4,e5⟩:=HX.out _ HBR.out
    by_cases hlt:k<e.args.length
    ·obtain ⟨b,off,x,A',cap',rfl,hbb,hxk,hxm,hok',hcap',hmax',hx',d0,d1,d2,d3,d4,d5⟩:=(HXS.out _ hb).at_ hlt
     have hk':(k:Int)<e.args.length:=by omega
     by_cases hs:e.op=21∨(e.op=22∧k≠0)
     ·have HO1:=HO.out
      rw[←want_no hxk hs] at HO1
      have HO':=Lib.hid HO1
      clear HO1
      clear HO hxk
      rcases hs with hs|⟨hs,h0⟩
      ·have q21:(e.op !=21)=false:=by simp[hs]
       clear hs
       go_wp2_with fail
       go_roundw
       case rel=>exact ⟨k+1,by omega,by go_num,HO'.out,HBR.out⟩
       case measure=>simp[intOf];omega
      ·have q21:(e.op !=21)=true:=by simp[hs]
       have q22:(e.op !=22)=false:=by simp[hs]
       have q0:((k:Int)==0)=false:=by simp[h0]
       clear hs h0
       go_wp2_with fail
       go_roundw
       case rel=>exact ⟨k+1,by omega,by go_num,HO'.out,HBR.out⟩
       case measure=>simp[intOf];omega
     have h21:e.op≠21:=fun g=>hs (.inl g)
     have h22:e.op≠22∨k=0:=by
      by_cases g:e.op=22
      ·exact .inr (Classical.byContradiction fun g0=>hs (.inr ⟨g,g0⟩))
      ·exact .inl g
     have HWY:=Lib.hid (want_yes hxk h21 h22)
     have HC:=Lib.hid (HI.out x hxm A' cap' wr hok' hcap' hmax' (hx'.more (by omega)))
     have HL1:=Lib.hid (HLE.out (k+1))
     have q21:(e.op !=21)=true:=by simp[h21]
     have hq:(e.op !=22)=true∨((e.op !=22)=false∧((k:Int)==0)=true):=by
      by_cases g:e.op=22
      ·exact .inr ⟨by simp[g],by rcases h22 with g2|g2;exact absurd g g2;simp[g2]⟩
      ·exact .inl (by simp[g])
     rw[HWY.out] at HL1
     clear hs h21 h22 hxk hxm hok' hcap' hmax' hx'
     rcases hq with hq|⟨hq,hq0⟩
     all_goals
      go_wp2_with fail
      (with_reducible refine HC.out.mono ?_)
      rintro r w6 ⟨v6,rfl,ho6,hb6⟩
      obtain ⟨A6,c6,rfl,hnil6,hc6⟩:=own_src ho6
      have HO6:=Lib.hid (own_below HO.out hb6)
      have HB6:=Lib.hid (HBR.out.trans (hb6.mono hszr))
      have HN6:=Lib.hid hnil6
      have HC6:=Lib.hid hc6
      have hl:=HL1.out
      rw[List.length_append] at hl
      have HLN:=Lib.hid (ints_len (wantE x))
      have HAP:=Lib.hid (ints_app (wantTo e k) (wantE x))
      have HLA:Hid ((wantTo e k++wantE x).length=(wantTo e k).length+(wantE x).length):=List.length_append
      have HON:=Lib.hid (ints_cellOne (wantE x))
      have HSZ6:=Lib.hid HB6.out.size
      clear hnil6 hc6 ho6 hb6 HO HC HL1
      generalize ints (wantE x)=LX at*
      generalize (wantE x).length=mx at*
      go_wp2_with (at_builtin;refine wpList_append_opt _ rfl _ _ 26 rfl w1.heap.size 3 i0 (.int .i64 0) 1 8 Tryz.underlying26 hi0 hz0 hz1 hz2 rfl (by decide) _ _ _ rfl HO6.out A6 mx c6 LX rfl HN6.out ?k0 HC6.out HON.out ?k3 ?k4 ?k5 ?_)
      case k0=>rw[HLN.out];omega
      case k3=>unfold maxLen;omega
      case k4=>omega
      case k5=>exact HSZ6.out
      intro v7 w7 ho7 hb7
      have HB7:=Lib.hid (HB6.out.trans hb7)
      have HO7:Hid (w7.ownsRow w1.heap.size 3 1 v7 (wantTo e (k+1)).length (ints (wantTo e (k+1)))):=by
       show w7.ownsRow _ _ _ _ _ _
       rw[HWY.out,HAP.out,HLA.out]
       exact ho7
      clear ho7 hb7 HO6 HC6
      go_wp2_with fail
      go_roundw
      case rel=>exact ⟨k+1,by omega,by go_num,HO7.out,HB7.out⟩
      case measure=>simp[intOf];omega
    obtain rfl:k=e.args.length:=by omega
    rw[HFI.out] at HO
    have HO':=Lib.hid (own_base HO.out (show w.heap.size≤w1.heap.size by omega))
    go_wp2_with fail
    go_ret
    exact ⟨_,rfl,HO'.out,hb⟩
end Go.Proofs.YtckognjamlckcaaGreatDoor
namespace Go.Proofs.YtckognjamlckcaaGreatDoor.Fo
open Vf
theorem byR_cases {n:Int}:∀(l:List Ac) (i:Nat),(byR n i l= -1∧∀x∈l,x.dst≠n)∨∃k x,byR n i l=((i+k:Nat):Int)∧l[k]? =some x∧x.dst=n
 | [],i=> .inl ⟨rfl,fun x hx=>by cases hx⟩
 |y::l,i=>by
  rw[byR]
  by_cases e:y.dst=n
  ·rw[if_pos e]
   exact .inr ⟨0,y,by simp,rfl,e⟩
  ·rw[if_neg e]
   rcases byR_cases l (i+1) with ⟨h1,h2⟩|⟨k,x,h1,h2,h3⟩
   ·refine .inl ⟨h1,fun x hx=>?_⟩
    rcases List.mem_cons.1 hx with rfl|hx
    ·exact e
    ·exact h2 x hx
   ·exact .inr ⟨k+1,x,by rw[h1];congr 1;omega,h2,h3⟩
structure RowQ (f:Fl):Prop where
 w400:f.wires.length≤400
 ins:∀n∈f.ins,isW f.fm n
 defs:∀d∈f.defs,isW f.fm d.1
 apart:∀n∈f.ins,∀d∈f.defs,d.1≠n
 once:∀d∈f.defs,∀d'∈f.defs,d.1=d'.1→d=d'
 cov:Cov f
 want:WantW f
 size:∀d∈f.defs,exSize d.2≤1000000
 clk:∀i:Nat,i<f.wires.length→(clockOf f.fm i).length≤400∧∀g∈clockOf f.fm i,isW f.fm g.wire
theorem hang_iff {f:Fl} (hq:RowQ f) {i:Int} {d:Int × Ex} (hd:d∈f.defs) (he:d.1=i) (c:Int):Hang f i c↔c∈wantE d.2++(clockOf f.fm i).map (·.wire):=by
 rw[List.mem_append,List.mem_map]
 constructor
 ·rintro ⟨d',hd',e,h⟩
  rw[hq.once d hd d' hd' (he.trans e.symm)]
  exact h
 ·intro h
  exact ⟨d,hd,he,h⟩
theorem hang_none {f:Fl} {i c:Int} (h:∀d∈f.defs,d.1≠i):¬Hang f i c:=fun ⟨d,hd,e,_⟩=>h d hd e
structure RowM (f:Fl) (n:Nat) (ds:List Bool):Prop where
 st:RowS f ds
 cnt:n+notYet ds=f.wires.length
theorem rowM_step {f:Fl} (hq:RowQ f) {n m:Nat} {ds:List Bool} (h:RowM f n ds) (hm:m<f.wires.length) (hr:readyS f ds m):RowM f (n+1) (ds.set m true)∧notYet (ds.set m true)+1=notYet ds:=by
 have h1:=notYet_one (ds:=ds) (n:=(m:Int)) (by omega) (by rw[h.st.len];omega) hr.1
 rw[Int.toNat_natCast] at h1
 exact ⟨⟨rows_step hq.cov hq.want h.st hm hr,by have:=h.cnt;omega⟩,h1⟩
theorem rowM_end {f:Fl} (hq:RowQ f) {n:Nat} {ds:List Bool} (h:RowM f n ds) (hn:∀i:Nat,i<f.wires.length→¬readyS f ds i):n=f.wires.length↔∀n:Nat,n<f.wires.length→DoneL f n:=by
 rw[rows_end hq.ins hq.defs hq.apart hq.once h.st hn,←notYet_zero]
 have:=h.cnt
 omega
theorem ready_list {f:Fl} {ds:List Bool} {i:Int} {l:List Int} (hb:bGet ds i=false) (hl:∀c,Hang f i c↔c∈l) (h0:∀c∈l,0≤c):readyS f ds i↔∀c∈l,bGet ds c=true:=by
 constructor
 ·intro h c hc
  obtain ⟨m,rfl⟩:=Int.eq_ofNat_of_zero_le (h0 c hc)
  exact h.2 m ((hl _).2 hc)
 ·intro h
  exact ⟨hb,fun c hc=>h _ ((hl _).1 hc)⟩
theorem take_mapW {cl:List Gd} {q:Nat} {g:Gd} (h:cl[q]? =some g) (l:List Int):ints (l++(cl.take (q+1)).map (·.wire))=ints (l++(cl.take q).map (·.wire))++ [.int .i64 g.wire]:=by
 rw[List.take_add_one,h,Option.toList_some,List.map_append,List.map_singleton,←List.append_assoc,ints_snoc]
end Go.Proofs.YtckognjamlckcaaGreatDoor.Fo
namespace Go.Proofs.YtckognjamlckcaaGreatDoor
open Go.RowKit Vf Fo
attribute [local go_sem ↓] Go.wp_at_zero Go.wp_at_succ
theorem Upd.far2 {X:Nat→Prop} {a w w':World} (u:Upd X a w) (hb:Below a.heap.size w w'):Upd X a w':=
 ⟨hb.os.trans u.os,hb.tape.trans u.tape,hb.output.trans u.output,Nat.le_trans u.size hb.size,fun k hk hX=>(hb.block k hk).trans (u.block k hk hX)⟩
def RRowF (f:Fl) (w:World) (e:Ending) (w':World):Prop:=∃n:Nat,e= .returned (.int .i64 n)∧n≤f.wires.length∧(n=f.wires.length↔∀n:Nat,n<f.wires.length→DoneL f n)∧Below w.heap.size w w'
structure RowJ (f:Fl) (ds:List Bool) (D:Nat) (w1:World) (v4 v5 v6:Value) (w3:World) (j:Nat) (d2:List Bool) (n2:Nat) (b2:Bool):Prop where
 hj:j≤f.wires.length
 e4:v4= .int .i64 n2
 e5:v5= .bool b2
 e6:v6= .int .i64 j
 hin:RowM f n2 d2
 ht:b2=true→notYet d2<notYet ds
 hf:b2=false→d2=ds∧∀i:Nat,i<j→¬readyS f ds i
 row:Row w3 D (bls d2).toArray 4
 upd:Upd (fun k=>k=D) w1 w3
def RowI (f:Fl) (ds:List Bool) (D:Nat) (w1:World) (v4 v5 v6:Value) (w3:World):Prop:=∃(j:Nat) (d2:List Bool) (n2:Nat) (b2:Bool),RowJ f ds D w1 v4 v5 v6 w3 j d2 n2 b2
theorem rfrow_any {w:World} {f:Fl} {vw vd vi vo:Value} (h:FlAt w w.heap.size f vw vd vi vo) (hq:RowQ f):
  Calls Tryz.prog 49 #[flV vw vd vi vo] w (RRowF f w):=by
 refine' zq122
 obtain ⟨Aw,cw,rfl,lw,mw,_⟩:=h.wires
 refine' zq76
 obtain ⟨Ad,cd,rfl,ld,md,_⟩:=h.defs
 refine' zq186
 have hwl:=hq.w400
 have mk:=make_bools f.wires.length (by omega) (by omega)
 have HFL:=Lib.hid (fun W (hW:Below w.heap.size w W)=>h.next hW)
 have HQ:=Lib.hid hq
 refine' zq294
 clear h hq
 go_enter Tryz.func49,Tryz.ntmps49
 go_upto_region 2 with (fail)
 have b1:Below w.heap.size w ((w.alloc (.cells #[.slice Aw f.wires.length cw,.slice Ad f.defs.length cd,vi,vo] 33)).alloc (.cells (Array.replicate f.wires.length (.bool false)) 4)):=bE
 have rF1:Row ((w.alloc (.cells #[.slice Aw f.wires.length cw,.slice Ad f.defs.length cd,vi,vo] 33)).alloc (.cells (Array.replicate f.wires.length (.bool false)) 4)) w.heap.size #[.slice Aw f.wires.length cw,.slice Ad f.defs.length cd,vi,vo] 33:=(Row.new w _ _).alloc _
 have rD1:Row ((w.alloc (.cells #[.slice Aw f.wires.length cw,.slice Ad f.defs.length cd,vi,vo] 33)).alloc (.cells (Array.replicate f.wires.length (.bool false)) 4)) (w.heap.size+1) (bls (List.replicate f.wires.length false)).toArray 4:=by
  have:=rowNew2 w (.cells #[.slice Aw f.wires.length cw,.slice Ad f.defs.length cd,vi,vo] 33) (Array.replicate f.wires.length (.bool false)) 4
  simpa[bls] using this
 generalize (w.alloc (.cells #[.slice Aw f.wires.length cw,.slice Ad f.defs.length cd,vi,vo] 33)).alloc (.cells (Array.replicate f.wires.length (.bool false)) 4)=w1 at*
 refine' zq211
 have HF4:Hid (∀W,Upd (fun k=>k=D) w1 W→W.cell? ⟨G,0,none⟩=some (.slice Aw f.wires.length cw)∧W.cell? ⟨G,1,none⟩=some (.slice Ad f.defs.length cd)∧W.cell? ⟨G,2,none⟩=some vi∧W.cell? ⟨G,3,none⟩=some vo):=fun W hW=>(hW.row rF1 hGD).four'
 have HRD:=Lib.hid rD1
 clear rF1 rD1 b1 mk hD
 go_wp2_with fail
 go_loopg [4,5] (notYet (List.replicate f.wires.length false)+1) (fun q v4 v5 wr=>∃(ds:List Bool) (n:Nat) (bb:Bool),v4= .int .i64 n∧v5= .bool bb∧notYet ds+(if bb=true then 1 else 0)≤q∧Hid (RowM f n ds)∧Hid (bb=false→∀i:Nat,i<f.wires.length→¬readyS f ds i)∧Row wr D (bls ds).toArray 4∧Upd (fun k=>k=D) w1 wr)
 case atStart=>exact ⟨List.replicate f.wires.length false,0,true,rfl,rfl,by simp,⟨rows_start f,by rw[notYet_rep];omega⟩,(fun h=>by cases h),HRD.out,Upd.refl _ _⟩
 case round=>
  clear HRD
  obtain ⟨ds,n,bb,rfl,rfl,hqq,HIN,HNR,rD,uD⟩:=hrel
  obtain ⟨f0,f1,f2,f3⟩:=HF4.out _ uD
  have HDL:=Lib.hid HIN.out.st.len
  have hnw:n≤f.wires.length:=by have:=HIN.out.cnt;omega
  cases bb
  ·have HE:=Lib.hid (rowM_end HQ.out HIN.out (HNR.out rfl))
   clear hqq rD
   go_wp2_with fail
   go_ret
   exact ⟨n,rfl,hnw,HE.out,by rw[hG];exact HFI.out _ uD⟩
  rw[if_pos rfl] at hqq
  have HRr:=Lib.hid rD
  have HUr:=Lib.hid uD
  clear rD
  go_wp2_with fail
  clear f0 f1 f2 f3
  refine' zq177
  go_loopw[4,5,6] (fun v4 v5 i w3=>RowI f ds D w1 v4 v5 i w3) (fun _ _ i _=>f.wires.length-(intOf i).toNat)
  case atStart=>exact ⟨0,ds,n,false,⟨Nat.zero_le _,rfl,rfl,rfl,HIN.out,(fun h=>by cases h),fun _=>⟨rfl,fun i hi=>absurd hi (by omega)⟩,HRr.out,HUr.out⟩⟩
  case round=>
   clear HIN HRr HUr HDL uD hnw
   obtain ⟨j,d2,n2,b2,⟨hj,rfl,rfl,rfl,hin0,ht0,hf0,rD,uD⟩⟩:=hrel
   have HIN:=Lib.hid hin0
   have HT:=Lib.hid ht0
   have HF:=Lib.hid hf0
   clear hin0 ht0 hf0
   obtain ⟨f0,f1,f2,f3⟩:=HF4.out _ uD
   have HDL:=Lib.hid HIN.out.st.len
   have hn2:n2≤400:=by have:=HIN.out.cnt;omega
   by_cases hlt:j<f.wires.length
   rotate_left 1
   ·refine' zq319
    clear hqq
    go_wp2_with fail
    go_roundg (notYet d2+(if b2=true then 1 else 0))
    case measure=>exact HM.out
    case rel=>exact ⟨d2,n2,b2,rfl,rfl,Nat.le_refl _,HIN.out,HNR.out,rD,uD⟩
   have hlt':(j:Int)<f.wires.length:=by omega
   have cD0:=ds_cell rD (n:=j) (by rw[HDL.out];exact hlt)
   have HFS:Hid (∀{r:Bool},(r=true→readyS f d2 j)→(r=false→¬readyS f d2 j)→(r=false→b2=false→d2=ds∧∀i:Nat,i<j+1→¬readyS f ds i)∧(r=true→RowM f (n2+1) (d2.set j true)∧notYet (d2.set j true)<notYet ds)):=fun {r} h1 h2=>by
    refine ⟨fun hr hb=>?_,fun hr=>?_⟩
    ·obtain ⟨e,g⟩:=HF.out hb
     refine ⟨e,fun i hi=>?_⟩
     rcases Nat.lt_succ_iff_lt_or_eq.1 hi with hi|rfl
     ·exact g i hi
     ·rw[←e];exact h2 hr
    ·obtain ⟨q1,q2⟩:=rowM_step HQ.out HIN.out hlt (h1 hr)
     refine ⟨q1,?_⟩
     cases b2
     ·have:=(HF.out rfl).1;rw[←this];omega
     ·have:=HT.out rfl;omega
   have hDr:=rD.lt
   cases hV0:bGet d2 (j:Int)
   rotate_left 1
   ·have HF':=Lib.hid ((HFS.out (r:=false) (fun h=>by cases h) (fun _ g=>by have:=g.1;rw[hV0] at this;cases this)).1 rfl)
    rw[hV0] at cD0
    clear hV0
    go_wp2_with fail
    go_roundw
    case rel=>exact ⟨j+1,d2,n2,b2,⟨by omega,rfl,rfl,by go_num,HIN.out,HT.out,HF'.out,rD,uD⟩⟩
    case measure=>simp[intOf];omega
   have HV0:=Lib.hid hV0
   rw[hV0] at cD0
   have b4:=HFI.out _ uD
   have HBY:=Lib.hid (rfby_any ((hG▸HFL).out _ (hG▸b4)) (j:Int))
   have hby:=byR_cases (n:=(j:Int)) f.fm.acts 0
   have HRD:=Lib.hid rD
   have HUD:=Lib.hid uD
   clear hV0 rD
   rcases hby with ⟨hby,hno⟩|⟨k,y,hby,hy,hyd⟩
   ·have HRT:=Lib.hid ((HFS.out (r:=true) (fun _=>⟨HV0.out,fun c hc=>absurd hc (hang_none (fun d hd e=>hno ⟨0,d.1,0,0,0,0⟩ (List.mem_map.2 ⟨d,hd,rfl⟩) e))⟩) (fun h=>by cases h)).2 rfl)
    rw[hby] at HBY
    clear hno hby
    refine' zq322
    clear hb5 HRD HUD f0 f1 f2 f3 cD0
    obtain ⟨f0,f1,f2,f3⟩:=HF4.out _ HU5.out
    have cD0:=ds_cell HR5.out (n:=j) (by rw[HDL.out];exact hlt)
    rw[HV0.out] at cD0
    have fD:=HR5.out.frozen j
    go_wp2_with fail
    go_roundw
    case rel=>exact ⟨j+1,d2.set j true,n2+1,true,⟨by omega,by go_num,rfl,by go_num,HRT.out.1,(fun _=>HRT.out.2),(fun h=>by cases h),ds_set HR5.out true,Upd.setCell (X:=fun k=>k=D) (p:=⟨D,j,none⟩) HU5.out rfl (.bool true)⟩⟩
    case measure=>simp[intOf];omega
   obtain ⟨d,hd,hdy⟩:∃d,f.defs[k]? =some d∧d.1=(j:Int):=by
    cases hd:f.defs[k]? with
    |none=>
     have:f.fm.acts[k]? =none:=by rw[List.getElem?_eq_none_iff] at hd⊢;rw[fm_acts_len];exact hd
     rw[this] at hy;cases hy
    |some d=>
     have:=fm_acts_get hd
     rw[this] at hy
     injection hy with hy
     exact ⟨d,rfl,by rw[←hyd,←hy]⟩
   have hkl:k<f.defs.length:=(List.getElem?_eq_some_iff.1 hd).1
   have hdm:=List.mem_of_getElem? hd
   have HDD:=Lib.hid hd
   have HSZ:=Lib.hid (HQ.out.size d hdm)
   have HHG:=Lib.hid (hang_iff HQ.out hdm hdy)
   have HWW:=Lib.hid (HQ.out.want d hdm)
   obtain ⟨hcl4,hclw⟩:=HQ.out.clk j hlt
   have HCLW:=Lib.hid hclw
   rw[Nat.zero_add] at hby
   rw[hby] at HBY
   have hk1:(k:Int)<f.defs.length:=by omega
   have hk2:(0:Int)≤(k:Int):=by omega
   have hk3:decide ((0:Int)≤(k:Int))=true:=decide_eq_true hk2
   have hcd:k<cd:=by omega
   clear hy hyd hby hd hdm hclw
   refine' zq322
   clear hb5 HRD HUD f0 f1 f2 f3 cD0 b4 HBY
   obtain ⟨f0,f1,f2,f3⟩:=HF4.out _ HU5.out
   have b5:=HFI.out _ HU5.out
   obtain ⟨bd,offd,dx,Ag,cg,hAd,hbd,hdx,wd,hokd,hcapd,hmaxd,hxd,d0,d1,d2',d3,d4,d5,d6⟩:=(HSD.out _ b5).df hkl
   rw[HDD.out] at hdx
   injection hdx with hdx
   subst hdx hAd
   have HWT:=Lib.hid (rfwants_any d.2 Ag cg w5 hokd hcapd hmaxd hxd HSZ.out)
   clear hdy wd hokd hcapd hmaxd hxd hbd
   go_wp2_with fail
   (with_reducible refine HWT.out.mono ?_)
   rintro r w6 ⟨v6,rfl,ho6,hb6⟩
   have HU6:=Lib.hid (HU5.out.trans (Upd.of_below hb6))
   have HR6:=Lib.hid (HR5.out.below hb6 HR5.out.lt)
   have hs5:w1.heap.size≤w5.heap.size:=HU5.out.size
   have HD5:Hid (D<w5.heap.size):=HR5.out.lt
   have hs56:=hb6.size
   have HO6:=Lib.hid ho6
   have HB56:=Lib.hid hb6
   clear ho6 hb6 HWT f0 f1 f2 f3 d0 d1 d2' d3 d4 d5 d6
   obtain ⟨m,b7,off7,cw7,Agj,cgj,hjm,hm,hvw,_,_,hb7,y0,y1,lg,mg,sg⟩:=fl_wire (HFL.out _ (HFI.out _ HU5.out)) (show isW f.fm (j:Int) from ⟨by omega,hlt'⟩)
   obtain rfl:j=m:=by omega
   injection hvw with hv1 _ _
   subst hv1
   have HY1:Hid (∀W,Below w5.heap.size w5 W→W.cell? ⟨b7,off7+j*2+1,none⟩=some (.slice Agj (clockOf f.fm (j:Int)).length cgj)):=fun W hW=>cell_kept y1 hW
   have HSG:Hid (∀W,Below w5.heap.size w5 W→Sl W W.heap.size 2 isGd Agj (clockOf f.fm (j:Int))):=fun W hW=>(sg.below hW).more hW.size
   clear hjm y0 y1 sg hb7 hm
   generalize clockOf f.fm (j:Int)=cl at*
   have HWE:Hid (∀n∈wantE d.2++cl.map (·.wire),isW f.fm n):=fun n hn=>by
    rcases List.mem_append.1 hn with hn|hn
    ·exact HWW.out.1 n hn
    ·obtain ⟨g,hg,rfl⟩:=List.mem_map.1 hn
     exact HCLW.out g hg
   have HWL:Hid ((wantE d.2).length≤1000000):=Nat.le_trans (wantE_len d.2).1 HSZ.out
   generalize wantE d.2=WE at*
   have HO60:Hid (w6.ownsRow w5.heap.size 3 1 v6 (WE.length+0) (ints (WE++(cl.take 0).map (·.wire)))):=by
    show w6.ownsRow _ _ _ _ _ _
    simpa using HO6.out
   clear HO6
   go_wp2_with fail
   go_loopw[9,10] (fun v9 i w7=>∃q:Nat,q≤cl.length∧i= .int .i64 q∧Hid (w7.ownsRow w5.heap.size 3 1 v9 (WE.length+q) (ints (WE++(cl.take q).map (·.wire))))∧Hid (Below w5.heap.size w6 w7)) (fun _ i _=>cl.length-(intOf i).toNat)
   case atStart=>exact ⟨0,Nat.zero_le _,rfl,HO60.out,Below.refl _ _⟩
   case round=>
    clear HO60
    obtain ⟨q,hq,rfl,HO,HBR⟩:=hrel
    obtain ⟨w7,rfl⟩:∃w7:World,w7=wr:=⟨_,rfl⟩
    have HU7:=Lib.hid (HU6.out.far2 (HBR.out.mono hs5))
    obtain ⟨f0,f1,f2,f3⟩:=HF4.out _ HU7.out
    have HB7:=Lib.hid (HB56.out.trans HBR.out)
    have y1:=HY1.out _ HB7.out
    have hsz7:=HBR.out.size
    by_cases hlt3:q<cl.length
    ·obtain ⟨b8,off8,g,rfl,hb8,hg,wg,g0,g1⟩:=(HSG.out _ HB7.out).gd hlt3
     have hlt3':(q:Int)<cl.length:=by omega
     have HTK:=Lib.hid (take_mapW hg WE)
     have ha:Below w7.heap.size w7 (w7.alloc (.cells #[.int .i64 g.wire] 3)):=bE
     have HOA:=Lib.hid (own_below HO.out ha)
     have HN14:Hid (∀j u,[Value.int .i64 g.wire][j]? =some u→(w7.alloc (.cells #[.int .i64 g.wire] 3)).cell? ((⟨w7.heap.size,0,none⟩:Addr).add j)=some u):=cell_one w7 3 (.int .i64 g.wire)
     have hWL:=HWL.out
     clear hg
     generalize ints (WE++(cl.take q).map (·.wire))=LL at*
     go_wp2_with (at_builtin;refine wpList_append_own _ rfl _ _ 26 rfl w5.heap.size 3 i0 (.int .i64 0) 1 8 Tryz.underlying26 hi0 hz0 hz1 hz2 rfl (by decide) _ _ _ rfl HOA.out ⟨w7.heap.size,0,none⟩ 1 1 [.int .i64 g.wire] rfl ?c0 ?c1 ?c2 ?c3 ?c4 ?c5 ?_)
     case c0=>rfl
     case c1=>exact HN14.out
     case c2=>intro u hu;simp at hu;subst hu;rfl
     case c3=>unfold maxLen;omega
     case c4=>omega
     case c5=>simp;omega
     intro v15 w15 hown15 hg15 _
     have HB15:Hid (Below w5.heap.size w6 w15):=below_own (HBR.out.trans (ha.mono (by omega))) HOA.out hg15 (by simp;omega)
     have HO15:Hid (w15.ownsRow w5.heap.size 3 1 v15 (WE.length+(q+1)) (ints (WE++(cl.take (q+1)).map (·.wire)))):=by
      show w15.ownsRow _ _ _ _ _ _
      rw[HTK.out];exact hown15
     clear hown15 hg15 HOA HN14 ha HTK HO
     go_wp2_with fail
     go_roundw
     case rel=>exact ⟨q+1,by omega,by go_num,HO15.out,HB15.out⟩
     case measure=>simp[intOf];omega
    obtain rfl:q=cl.length:=by omega
    have hOL:=HO.out
    rw[List.take_length] at hOL
    have hWl:=HWE.out
    obtain ⟨A9,cp9,hv9,l9,m9,sl9⟩:=ownK hOL (fun z hz=>wf_of (by have h1:=(hWl z hz).1;have h2:z<f.wires.length:=(hWl z hz).2;omega))
    subst hv9
    have m9':cp9≤9223372036854775807:=by unfold maxLen at m9;omega
    have HSL:=Lib.hid sl9
    have HR7:=Lib.hid (HR6.out.below HBR.out HD5.out)
    clear sl9 hOL m9 HO hWl hlt3 hq
    generalize hL:WE++cl.map (·.wire)=L at*
    clear hL
    go_wp2_with fail
    clear f0 f1 f2 f3 y1
    obtain ⟨wo2,rfl⟩:∃wo2:World,wo2=w7:=⟨_,rfl⟩
    have rD5:=HR7.out
    go_loopw[7,11] (fun v7 i wr=>∃(q:Nat) (r:Bool),q≤L.length∧v7= .bool r∧i= .int .i64 q∧Hid (r=true↔∀i,i<q→∀n,L[i]? =some n→bGet d2 n=true)∧wo2=wr) (fun _ i _=>L.length-(intOf i).toNat)
    case atStart=>exact ⟨0,true,Nat.zero_le _,rfl,rfl,(by show _↔_;simp),rfl⟩
    case round=>
     obtain ⟨q,r,hq',rfl,rfl,HRR,rfl⟩:=hrel
     by_cases hlt2:q<L.length
     ·obtain ⟨b3,off3,n,rfl,hb3,hn,wn,e0⟩:=HSL.out.int hlt2
      have hWn:=HWE.out n (List.mem_of_getElem? hn)
      have HNn:=Lib.hid hn
      obtain ⟨p,rfl⟩:=Int.eq_ofNat_of_zero_le hWn.1
      have hpl':(p:Int)<f.wires.length:=hWn.2
      have hpl:p<f.wires.length:=by omega
      have y0:=ds_cell rD5 (n:=p) (by rw[HDL.out];exact hpl)
      generalize hV:bGet d2 (p:Int)=V at y0
      have HV':=Lib.hid hV
      clear hn hWn hV
      have HRR':Hid ((r && V)=true↔∀i,i<q+1→∀n,L[i]? =some n→bGet d2 n=true):=by
       show _↔_
       rw[Bool.and_eq_true,HRR.out]
       constructor
       ·rintro ⟨g2,g3⟩
        exact upto_succ g2 (fun n' hn'=>by rw[HNn.out] at hn';injection hn' with hn';rw[←hn',HV'.out];exact g3)
       ·intro g2
        exact ⟨fun i hi=>g2 i (by omega),by rw[←HV'.out];exact g2 q (by omega) _ HNn.out⟩
      cases r
      all_goals
       go_wp2_with fail
       go_roundw
       case rel=>exact ⟨q+1,_,by omega,rfl,by go_num,by have:=HRR'.out;(first|rw[Bool.false_and] at this|rw[Bool.true_and] at this);exact this,trivial⟩
       case measure=>simp[intOf];omega
     obtain rfl:q=L.length:=by omega
     clear hlt2
     have HRQ0:Hid (r=true↔readyS f d2 j):=by
      show _↔_
      rw[ready_list HV0.out HHG.out (fun c hc=>(HWE.out c hc).1),HRR.out]
      exact ⟨fun g=>all_upto g,fun g i _ n hn=>g n (List.mem_of_getElem? hn)⟩
     have HRQ:=Lib.hid (HFS.out (r:=r) HRQ0.out.1 (fun h g=>by have:=HRQ0.out.2 g;rw[h] at this;cases this))
     cases r
     ·have HF':=Lib.hid (HRQ.out.1 rfl)
      go_wp2_with fail
      go_roundw
      case rel=>(repeat apply Exists.intro);(first|(refine And.intro ?_ rfl)|(refine ⟨?_,rfl,rfl,rfl⟩));exact ⟨j+1,d2,n2,b2,⟨by omega,rfl,rfl,by go_num,HIN.out,HT.out,HF'.out,rD5,HU7.out⟩⟩
      case measure=>simp[intOf];omega
     have HRT:=Lib.hid (HRQ.out.2 rfl)
     have cD0:=ds_cell HR7.out (n:=j) (by rw[HDL.out];exact hlt)
     rw[HV0.out] at cD0
     have fD:=HR7.out.frozen j
     go_wp2_with fail
     go_roundw
     case rel=>(repeat apply Exists.intro);(first|(refine And.intro ?_ rfl)|(refine ⟨?_,rfl,rfl,rfl⟩));exact ⟨j+1,d2.set j true,n2+1,true,⟨by omega,by go_num,rfl,by go_num,HRT.out.1,(fun _=>HRT.out.2),(fun h=>by cases h),ds_set HR7.out true,Upd.setCell (X:=fun k=>k=D) (p:=⟨D,j,none⟩) HU7.out rfl (.bool true)⟩⟩
     case measure=>simp[intOf];omega
end Go.Proofs.YtckognjamlckcaaGreatDoor
namespace Go.Proofs.YtckognjamlckcaaGreatDoor.Fo
open Vf
theorem by_defined {f:Fm} (hc:f.acts.length+f.ins.length=f.wires.length) (hi:∀n∈f.ins,isW f n) (h4:D4 f) (h6:∀(i:Nat) x,f.acts[i]? =some x→isW f x.dst∧x.dst∉f.ins∧byR x.dst 0 f.acts=i):definedOk f:=by
 have hp:(f.acts.map (·.dst)).Nodup:=nodup_of (fun i j x y hij hx hy e=>by
  have a1:=(h6 j y hy).2.2
  have a2:=by_same (i:=0) (n:=y.dst) hx e
  rw[a1] at a2
  omega)
 refine' zq238
 refine defined_iff.2 ⟨hnd,fun a ha=>?_,fun n hn=>?_⟩
 ·obtain ⟨i,hi'⟩:=List.getElem?_of_mem ha
  exact (h6 i a hi').1
 ·refine sub_full (dsts f f.acts) (rangeI f.wires.length) hnd (fun m hm=>?_) ?_ n (rangeI_mem.2 ⟨by omega,by omega⟩)
  ·refine' zq310
  ·rw[rangeI_len]
   simp[dsts]
   omega
theorem defined_by {f:Fm} (hi:∀n∈f.ins,isW f n) (hd:definedOk f):f.acts.length+f.ins.length=f.wires.length∧D4 f∧∀(i:Nat) x,f.acts[i]? =some x→isW f x.dst∧x.dst∉f.ins∧byR x.dst 0 f.acts=i:=by
 have hd':=defined_iff.1 hd
 refine ⟨?_,d4_pair.2 hd.1,fun i x hx=>?_⟩
 ·have l1:=nodup_len _ (rangeI f.wires.length) hd'.1 (fun n hn=>by
   rcases List.mem_append.1 hn with h|h
   ·exact rangeI_mem.2 (hi n h)
   ·obtain ⟨x,hx,rfl⟩:=List.mem_map.1 h
    exact rangeI_mem.2 (hd'.2.1 x hx))
  refine' zq241
 ·have hxm:=List.mem_of_getElem? hx
  refine ⟨(hd.2.1 x hxm).1,(hd.2.1 x hxm).2,?_⟩
  have:=by_first (pair_of hd.2.2.1) (i:=0) hx
  rw[this];simp
def F5 (f:Fl) (i:Nat) (d:Int × Ex):Prop:=(isW f.fm d.1∧d.1∉f.ins∧byR d.1 0 f.fm.acts=i)∧plainE f d.2∧exHeight d.2≤30∧kindE f d.2=tyOf f.fm d.1∧goesE f d.2 (clockOf f.fm d.1)∧lateE d.2=0
structure FlD (f:Fl):Prop where
 wires:wiresOkL f
 ins:portsOk f.fm f.ins
 outs:portsOk f.fm f.outs
 cnt:f.defs.length+f.ins.length=f.wires.length
 d4:D4 f.fm
section
variable {f:Fl}
theorem flat_d (h:flatOk f):FlD f∧∀(i:Nat) d,f.defs[i]? =some d→F5 f i d:=by
 obtain ⟨h1,h2,h3,h4,h5,_⟩:=h
 obtain ⟨c1,c2,c3⟩:=defined_by (fun n hn=>(h2.1 n hn).1) h4
 refine ⟨⟨h1,h2,h3,by rw[←fm_acts_len];exact c1,c2⟩,fun i d hd=>⟨?_,h5 d (List.mem_of_getElem? hd)⟩⟩
 exact c3 i _ (fm_acts_get hd)
theorem fl_defined (h:FlD f) (h5:∀(i:Nat) d,f.defs[i]? =some d→F5 f i d):definedOk f.fm:=
 by_defined (by rw[fm_acts_len];exact h.cnt) (fun n hn=>(h.ins.1 n hn).1) h.d4 (fun i x hx=>by
  have hl:i<f.defs.length:=by rw[←fm_acts_len];exact (List.getElem?_eq_some_iff.1 hx).1
  have hd:=List.getElem?_eq_getElem hl
  have q:=fm_acts_get hd
  rw[hx] at q
  injection q with q
  rw[q]
  exact (h5 i _ hd).1)
theorem clock_lenL (hw:wiresOkL f) {n:Int} (hn:isW f.fm n):(clockOf f.fm n).length≤400:=by
 refine' zq93
 have hok:=hw.1 _ (List.mem_of_getElem? hx)
 unfold clockOf
 rw[wAt_some (f:=f.fm) hx]
 refine' zq132
 have:=nodup_len _ (rangeI f.wires.length) hnd (fun n hn=>by
  obtain ⟨g,hg,rfl⟩:=List.mem_map.1 hn
  obtain ⟨i,hi⟩:=List.getElem?_of_mem hg
  exact rangeI_mem.2 (hok.2 i g hi).1)
 rw[List.length_map,rangeI_len] at this
 have:=hw.2.2
 omega
theorem fl_rowq (h:FlD f) (h5:∀(i:Nat) d,f.defs[i]? =some d→F5 f i d) (hs:∀d∈f.defs,exSize d.2≤1000000):RowQ f:=by
 have hd:=fl_defined h h5
 have h5':∀d∈f.defs,isW f.fm d.1∧plainE f d.2:=fun d hm=>by
  obtain ⟨i,hi⟩:=List.getElem?_of_mem hm
  exact ⟨(h5 i d hi).1.1,(h5 i d hi).2.1⟩
 refine ⟨h.wires.2.2,fun n hn=>(h.ins.1 n hn).1,fun d hm=>(h5' d hm).1,fl_hni hd,fl_hu hd,fl_cov hd,flat_wants h.wires (fun d hm=>(h5' d hm).1) (fun d hm=>(h5' d hm).2),hs,fun i hi=>?_⟩
 have hw:isW f.fm (i:Int):=⟨by omega,by show (i:Int)<f.wires.length;omega⟩
 refine ⟨clock_lenL h.wires hw,fun g hg=>?_⟩
 have hx:f.wires[i]? =some f.wires[i]:=List.getElem?_eq_getElem hi
 have hc:clockOf f.fm (i:Int)=f.wires[i].clock:=by unfold clockOf;rw[wAt_some (f:=f.fm) hx]
 rw[hc] at hg
 obtain ⟨k,hk⟩:=List.getElem?_of_mem hg
 exact ((h.wires.1 _ (List.getElem_mem hi)).2 k g hk).1
theorem flat_of (h:FlD f) (h5:∀(i:Nat) d,f.defs[i]? =some d→F5 f i d) (h6:∀n:Nat,n<f.wires.length→DoneL f n):flatOk f:=
 ⟨h.wires,h.ins,h.outs,fl_defined h h5,fun d hm=>by
  obtain ⟨i,hi⟩:=List.getElem?_of_mem hm
  exact (h5 i d hi).2,h6⟩
end
end Go.Proofs.YtckognjamlckcaaGreatDoor.Fo
namespace Go.Proofs.YtckognjamlckcaaGreatDoor
open Go.RowKit Vf Fo
def CkK (c:List Gd):Prop:=∀g∈c,Wf g.wire∧0≤g.wire
theorem ok_all {f:Fl} (hw:f.wires.length≤400) (e:Ex):plainE f e→∀c,CkK c→c.length+exHeight e≤100000→okE kwN e c:=by
 induction e using Ex.ind with
 |h e ih=>
  intro hp c hc hl
  obtain ⟨hp1,hp2⟩:=plainE_iff.1 hp
  refine okE_eq.2 ⟨⟨by omega,hc⟩,fun i x hx=>?_⟩
  have hm:=List.mem_of_getElem? hx
  have h1:=exHeight_arg hm
  have h2:=pcl_len (e:=e) (c:=c) i
  refine ih x hm (hp2 x hm) _ ?_ (by omega)
  unfold pcl
  split
  ·exact fun g hg=>hc g (by rw[List.dropLast_eq_take] at hg;exact List.mem_of_mem_take hg)
  ·split
   ·intro g hg
    rcases List.mem_append.1 hg with hg|hg
    ·exact hc g hg
    ·simp at hg
     subst hg
     have:=plain1_w hp1 (show namedB e.op=true by rw[‹e.op=26›];rfl)
     have h3:e.n<f.wires.length:=this.2
     show Wf e.n∧0≤e.n
     exact ⟨wf_of (by have:=this.1;omega),this.1⟩
   ·exact hc
theorem ck_wires {f:Fl} (hw:wiresOkL f) {n:Int} (hn:isW f.fm n):CkK (clockOf f.fm n)∧(clockOf f.fm n).length≤400:=by
 have hwl:=hw.2.2
 refine' zq93
 have hok:=hw.1 _ (List.mem_of_getElem? hx)
 refine ⟨fun g hg=>?_,clock_lenL hw hn⟩
 have hc:clockOf f.fm (m:Int)=f.wires[m].clock:=by unfold clockOf;rw[wAt_some (f:=f.fm) hx]
 rw[hc] at hg
 obtain ⟨k,hk⟩:=List.getElem?_of_mem hg
 have h1:=(hok.2 k g hk).1
 have h2:g.wire<f.wires.length:=h1.2
 exact ⟨wf_of (by have:=h1.1;omega),h1.1⟩
theorem nof_all {w:World} {f:Fl} {vw vd vi vo:Value} (h:FlAt w w.heap.size f vw vd vi vo) (ht:Tab w) (hsz:∀d∈f.defs,exSize d.2≤1000000) (hsum:(f.defs.map (fun d=>8*exSize d.2+1)).sum≤800000000):
  Calls Tryz.prog 11 #[flV vw vd vi vo] w (NOfIs f w):=
 nof_any (K:=kwN) h hsz hsum (fun w0 hb=>kwN_law (ht.keep hb)) (fun hok w0 D vi vo law d hd=>norm_is law d.2 (hok.2.2.2.2.1 d hd).1) (fun hok d hd=>by
  have hdo:=hok.2.2.2.2.1 d hd
  have hdw:isW f.fm d.1:=by
   have:=(hok.2.2.2.1.2.1 ⟨0,d.1,0,0,0,0⟩ (List.mem_map.2 ⟨d,hd,rfl⟩)).1
   exact this
  obtain ⟨q1,q2⟩:=ck_wires hok.1 hdw
  exact ok_all hok.1.2.2 d.2 hdo.1 _ q1 (by have:=hdo.2.1;omega))
attribute [local go_sem ↓] Go.wp_at_zero Go.wp_at_succ
theorem rtypes23_any {w:World} {B:Nat} {f:Fl} {vw vd vi vo:Value} (h:FlAt w B f vw vd vi vo) (hB:B≤w.heap.size) (l:List Int) (v:Value) (hv:SlV w B 1 isInt v l) (hl:l.length≤1600) (hw:∀n∈l,isW f.fm n) (hty:∀n∈l,Wf (tyOf f.fm n)):
  Calls Tryz.prog 17 #[flV vw vd vi vo,v] w fun e w'=>∃v',e= .returned v'∧SlV w' w'.heap.size 1 isInt v' (l.map (tyOf f.fm))∧Below w.heap.size w w':=by
 refine' zq122
 obtain ⟨Al,cl,rfl,ll,ml,sl⟩:=hv
 have ml':cl≤9223372036854775807:=by unfold maxLen at ml;omega
 have b1:Below w.heap.size w (w.alloc (.cells #[vw,vd,vi,vo] 33)):=bE
 have rF1:=Row.new w #[vw,vd,vi,vo] 33
 refine' zq330
 have HTY:=Lib.hid hty
 obtain ⟨Aw,cw,rfl,lw,mw,_⟩:=h.wires
 refine' zq76
 clear sl h hw
 go_enter Tryz.func17,Tryz.ntmps17
 go_upto_region 1 with (fail)
 generalize w.alloc (.cells #[.slice Aw f.wires.length cw,vd,vi,vo] 33)=w1 at*
 refine' zq250
 go_loopw[5,6] (fun v5 i wr=>∃k:Nat,k≤l.length∧i= .int .i64 k∧Hid (wr.ownsRow w1.heap.size 3 1 v5 k (ints ((l.take k).map (tyOf f.fm))))∧Hid (Below w1.heap.size w1 wr)) (fun _ i _=>l.length-(intOf i).toNat)
 case atStart=>exact ⟨0,Nat.zero_le _,rfl,World.ownsRow_nil _ _ _ _,Below.refl _ _⟩
 case round=>
  obtain ⟨k,hk,rfl,HO,HBR⟩:=hrel
  have hszr:=HBR.out.size
  have hb:=b1.trans (HBR.out.mono hs1)
  by_cases hlt:k<l.length
  ·obtain ⟨b,off,n,rfl,hb',hx,wx,d0⟩:=(HSL.out _ hb).int hlt
   obtain ⟨m,b6,off6,cw6,Ag6,cg6,rfl,hm,hvw,_,_,hb6B,y0,_,_,_,_⟩:=fl_wire (HFM.out _ hb) (HW.out n (List.mem_of_getElem? hx))
   injection hvw with h1 h2 h3
   subst h1;subst h3
   have hm':(m:Int)<f.wires.length:=by omega
   have hk':(k:Int)<l.length:=by omega
   have HTK:Hid (ints ((l.take (k+1)).map (tyOf f.fm))=ints ((l.take k).map (tyOf f.fm))++ [.int .i64 (tyOf f.fm m)]):=by
    show _=_
    rw[take_snoc' hx,List.map_append,List.map_singleton,ints_snoc]
   have f0:=HF6.out _ HBR.out
   have HK:Hid (∀W,Below wr.heap.size wr W→W.cell? ⟨w.heap.size,0,none⟩=some (.slice (some ⟨b6,off6,none⟩) f.wires.length cw)∧W.cell? ⟨b,off+k,none⟩=some (.int .i64 (m:Int))∧W.cell? ⟨b6,off6+m*2,none⟩=some (.int .i64 (tyOf f.fm (m:Int)))):=fun W hW=>⟨cell_kept f0 hW,cell_kept d0 hW,cell_kept y0 hW⟩
   have hbw:b<w1.heap.size:=by omega
   have hb6w:b6<w1.heap.size:=by omega
   have HKL:Hid ((∀W,Below w1.heap.size wr W→W.cell? ⟨b,off+k,none⟩=some (.int .i64 (m:Int)))∧(∀W,Below w1.heap.size wr W→W.cell? ⟨b6,off6+m*2,none⟩=some (.int .i64 (tyOf f.fm (m:Int))))):=⟨fun W hW=>(hW.cell hbw).trans d0,fun W hW=>(hW.cell hb6w).trans y0⟩
   generalize tyOf f.fm (m:Int)=T at*
   generalize ints ((l.take k).map (tyOf f.fm))=LL at*
   clear hx wx h2 d0 y0 f0
   refine' zq32
   have HO':Hid (w13.ownsRow w1.heap.size 3 1 v13 (k+1) (ints ((l.take (k+1)).map (tyOf f.fm)))):=by
    show World.ownsRow _ _ _ _ _ _ _
    rw[HTK.out];exact hown13
   clear hown13
   go_wp2_with fail
   go_roundw
   case rel=>exact ⟨k+1,by omega,by go_num,HO',HB⟩
   case measure=>simp[intOf];omega
  ·obtain rfl:k=l.length:=by omega
   have HWF:Hid (∀x∈l.map (tyOf f.fm),Wf x):=fun x hx=>by
    obtain ⟨n,hn,rfl⟩:=List.mem_map.1 hx
    exact HTY.out n hn
   go_wp2_with fail
   go_ret
   refine ⟨_,rfl,?_,hb⟩
   have:=HO.out
   rw[List.take_length] at this
   exact ownI this HWF.out
open Go.RowKit _root_.Go.Proofs.YtckognjamlckcaaGreatDoor.Nm
theorem room_list {l:List Ex} (ih:∀x∈l,∀a d,0≤roomZ x a d→roomZ x a d=a-exSize x∧∀y∈exList x,y.name.size≤30):
  ∀a d,0≤roomL (l.map roomZ) a d→roomL (l.map roomZ) a d=a-sumL (l.map exSize)∧∀x∈l,∀y∈exList x,y.name.size≤30:=by
 induction l with
 |nil=>intro a d _;exact ⟨by simp[roomL,sumL],fun x hx=>absurd hx List.not_mem_nil⟩
 |cons x l ihl=>
  intro a d h
  simp only[List.map_cons,roomL] at h⊢
  by_cases ha:a<0
  ·rw[if_pos ha] at h;omega
  ·rw[if_neg ha] at h⊢
   have h2:=ihl (fun y hy=>ih y (by simp[hy])) _ _ h
   have hx0:0≤roomZ x a d:=by rw[h2.1] at h;omega
   have h1:=ih x (by simp) a d hx0
   refine ⟨by rw[h2.1,h1.1];simp only[sumL];omega,fun y hy=>?_⟩
   rcases List.mem_cons.1 hy with rfl|hy
   ·exact h1.2
   ·exact h2.2 y hy
theorem room_small (e:Ex):∀a d,0≤roomZ e a d→roomZ e a d=a-exSize e∧∀y∈exList e,y.name.size≤30:=by
 induction e using Ex.ind with
 |h e ih=>
  intro a d h
  rw[roomZ_eq] at h⊢
  by_cases hc:d=0∨30<e.name.size
  ·rw[if_pos hc] at h;omega
  ·rw[if_neg hc] at h⊢
   have:=room_list ih _ _ h
   refine ⟨by rw[this.1,exSize_eq];omega,fun y hy=>?_⟩
   rw[exList_eq] at hy
   rcases List.mem_cons.1 hy with rfl|hy
   ·omega
   ·obtain ⟨l,hl,hy⟩:=List.mem_flatten.1 hy
    obtain ⟨x,hx,rfl⟩:=List.mem_map.1 hl
    exact this.2 x hx y hy
noncomputable def fewB (e:Ex):Bool:=decide (0≤roomZ e 200 50)
theorem few_small {e:Ex} (h:fewB e=true):Small e∧exSize e≤200:=by
 have h0:0≤roomZ e 200 50:=by simpa[fewB] using h
 have:=room_small e 200 50 h0
 exact ⟨⟨by omega,this.2⟩,by omega⟩
theorem few_any (e:Ex) (A:Option Addr) (cap:Nat) (w:World) (hok:ExOk e) (hcap:e.args.length≤cap) (hmax:cap≤maxLen) (hx:IsExs w w.heap.size A e.args):
  Calls Tryz.prog 38 #[exV e A cap] w fun r w'=>r= .returned (.bool (fewB e))∧Below w.heap.size w w':=by
 have hB0:Below w.heap.size w (w.alloc (.cells #[.int .i64 e.op,.string e.name,.int .i64 e.n,.slice A e.args.length cap,.int .i64 e.line,.int .i64 e.col] 75)):=(Below.refl _ _).alloc (Nat.le_refl _) _
 go_enter Tryz.func38,Tryz.ntmps38
 go_wp2_with fail
 refine (room_any e A cap 200 50 _ hok hcap hmax ((hx.below hB0).more (by simp)) (by omega) (by omega) (by omega) (by omega)).mono ?_
 rintro r w1 ⟨rfl,hb1⟩
 go_wp2_with fail
 go_ret
 exact ⟨rfl,hB0.trans (hb1.mono (by simp))⟩
end Go.Proofs.YtckognjamlckcaaGreatDoor
