/-
  The document's words on flats: the wires that an expression wants at once. The document's words on flats: how many wires can be put in a row.
-/
import Derived.Test.YtckognjamlckcaaGreatDoorFrF
import Derived.Test.YtckognjamlckcaaGreatDoorR24E
set_option maxHeartbeats 16000000
set_option maxRecDepth 100000
namespace Go.Proofs.YtckognjamlckcaaGreatDoor.Fo
open Vf
theorem AQ:∀(l:List Ex),(∀x∈l,(aU x).length<=ay x)->((l.map aU).flatten).length<=eE (l.map ay):=by
 intro l
 induction l with
 |nil=>intro _;simp[eE]
 |cons y l ih=>
  intro h
  simp only[List.map_cons,List.flatten_cons,List.length_append,eE]
  have h1:=h y (by simp)
  have h2:=ih (fun x hx=>h x (by simp[hx]))
  omega
theorem yK:∀(l:List Ex),(∀x∈l,(aU x).length<=ay x)->((l.map aU).headD []).length<=eE (l.map ay):=by
 intro l h
 cases l with
 |nil=>simp[eE]
 |cons y l=>
  simp only[List.map_cons,List.headD_cons,eE]
  have h1:=h y (by simp)
  omega
theorem vh (k:Nat):∀(l:List Ex),eE ((l.take k).map ay)<=eE (l.map ay):=by
 induction k with
 |zero=>intro l;simp[eE]
 |succ k ih=>
  intro l
  cases l with
  |nil=>simp[eE]
  |cons y l=>simp only[List.take_succ_cons,List.map_cons,eE];have:=ih l;omega
theorem oP (e:Ex):(aU e).length<=ay e/\∀k,(bF e k).length<=ay e:=by
 induction e using Ex.ind with
 |h e ih=>
  have hk:∀k,(bF e k).length<=ay e:=fun k=>by
   have h1:=AQ (e.args.take k) (fun x hx=>(ih x (List.mem_of_mem_take hx)).1)
   have h2:=yK (e.args.take k) (fun x hx=>(ih x (List.mem_of_mem_take hx)).1)
   have h3:=vh k e.args
   rw[iI]
   unfold bF
   rw[List.length_append]
   have h4:(if aJ e.op=true then [e.n] else []).length<=1:=by split<;>simp
   have h5:(if e.op=21 then [] else if e.op=22 then ((e.args.take k).map aU).headD [] else ((e.args.take k).map aU).flatten).length<=eE (e.args.map ay):=by
    split
    ·simp
    ·split<;>omega
   omega
  exact ⟨by rw[<-mL];exact hk _,hk⟩
end Go.Proofs.YtckognjamlckcaaGreatDoor.Fo
namespace Go.Proofs.YtckognjamlckcaaGreatDoor
open Go.RowKit Vf Fo
attribute [local go_sem ↓] Go.wp_at_zero Go.wp_at_succ
def vu (e:Ex) (w:World) (r:Ending) (w':World):Prop:=∃v,r= .returned v/\w'.ownsRow w.heap.size 3 1 v (aU e).length (al (aU e))/\Below w.heap.size w w'
theorem zp (l m:List Int):al (l++m)=al l++al m:=by simp[al]
theorem qV (l:List Int):∀u∈al l,u.oneCell'=true:=fun u hu=>by
 obtain ⟨x,_,rfl⟩:=List.mem_map.1 hu
 rfl
theorem sW (e:Ex):∀(A:Option Addr) (cap:Nat) (w:World),cW e->e.args.length<=cap->cap<=maxLen->aM w w.heap.size A e.args->ay e<=1000000->
  Calls Tryz.prog 89 #[bz e A cap] w (vu e w):=by
 refine' zq106
 induction e using Ex.ind with
 |h e ih=>
  intro A cap w hok hcap hmax hx hsz
  have HI:Hid (∀x∈e.args,∀(A:Option Addr) (cap:Nat) (W:World),cW x->x.args.length<=cap->cap<=maxLen->aM W W.heap.size A x.args->Calls Tryz.prog 89 #[bz x A cap] W (vu x W)):=fun x hx A cap W q1 q2 q3 q4=>ih x hx A cap W q1 q2 q3 q4 (by have:=iP hx;omega)
  have HLE:Hid (∀k,(bF e k).length<=1000000):=fun k=>Nat.le_trans ((oP e).2 k) hsz
  have HFI:=zH (mL (e:=e))
  have HZ:=zH (pD (e:=e))
  have b1:Below w.heap.size w (w.alloc (.cells (bi e A cap) 75)):=bE
  have rX:=ai.new w (bi e A cap) 75
  have HXS:=zH (fun W (hW:Below w.heap.size w W)=>(hx.below hW).more hW.size)
  have HNM:=zH (jI e.op)
  unfold maxLen at hmax
  clear ih hx hok hsz
  go_enter Tryz.func89,Tryz.ntmps89
  go_upto_region 1 with (fail)
  generalize w.alloc (.cells (bi e A cap) 75)=w1 at*
  have hXl:=rX.lt
  have hs1:=b1.size
  have HX:Hid (∀W,Below w1.heap.size w1 W->W.cell? ⟨w.heap.size,0,none⟩=some (.int .i64 e.op)/\W.cell? ⟨w.heap.size,1,none⟩=some (.string e.name)/\W.cell? ⟨w.heap.size,2,none⟩=some (.int .i64 e.n)/\W.cell? ⟨w.heap.size,3,none⟩=some (.slice A e.args.length cap)/\W.cell? ⟨w.heap.size,4,none⟩=some (.int .i64 e.line)/\W.cell? ⟨w.heap.size,5,none⟩=some (.int .i64 e.col)):=fun W hW=>(rX.below hW hXl).six'
  clear rX
  obtain ⟨e0,e1,e2,e3,e4,e5⟩:=HX.o _ (Below.refl _ _)
  by_cases hn:aJ e.op=true
  case' pos=>
   rw[hn] at HNM
   have HZ1:Hid (al (bF e 0)=[.int .i64 e.n]/\(bF e 0).length=1):=by
    show _/\_
    rw[HZ.o,if_pos hn]
    exact ⟨rfl,rfl⟩
   have ha:Below w1.heap.size w1 (w1.alloc (.cells #[.int .i64 e.n] 3)):=bE
   have HN14:Hid (∀j u,[Value.int .i64 e.n][j]? =some u->(w1.alloc (.cells #[.int .i64 e.n] 3)).cell? ((⟨w1.heap.size,0,none⟩:Addr).add j)=some u):=fe w1 3 (.int .i64 e.n)
   have HOA:Hid ((w1.alloc (.cells #[.int .i64 e.n] 3)).ownsRow w1.heap.size 3 1 (.slice none 0 0) 0 []):=World.ownsRow_nil _ _ _ _
   clear hn HZ
   go_wp2_with fail
   (with_reducible refine (HNM.o _).mono ?_)
   rintro r w8 ⟨rfl,rfl⟩
   go_wp2_with (at_builtin;refine wpList_append_own _ rfl _ _ 26 rfl w1.heap.size 3 i0 (.int .i64 0) 1 8 Tryz.underlying26 hi0 hz0 hz1 hz2 rfl (by decide) _ _ _ rfl HOA.o ⟨w1.heap.size,0,none⟩ 1 1 [.int .i64 e.n] rfl ?c0 ?c1 ?c2 ?c3 ?c4 ?c5 ?_)
   case' c0=>rfl
   case' c1=>exact HN14.o
   case' c2=>intro u hu;simp at hu;subst hu;rfl
   case' c3=>unfold maxLen;omega
   case' c4=>omega
   case' c5=>simp
   intro v15 w15 hown15 hg15 _
   have HB0:Hid (Below w1.heap.size w1 w15):=aY ha HOA.o hg15 (by simp)
   have HO0:Hid (w15.ownsRow w1.heap.size 3 1 v15 (bF e 0).length (al (bF e 0))):=by
    show w15.ownsRow _ _ _ _ _ _
    rw[HZ1.o.1,HZ1.o.2];exact hown15
   clear hown15 hg15 HOA HN14 ha HZ1
   go_wp2_with fail
  case' neg=>
   have hn':aJ e.op=false:=by simpa using hn
   rw[hn'] at HNM
   have HZ1:Hid (bF e 0=[]):=by show _=_;rw[HZ.o,if_neg hn]
   have HB0:Hid (Below w1.heap.size w1 w1):=Below.refl _ _
   have HO0:Hid (w1.ownsRow w1.heap.size 3 1 (.slice none 0 0) (bF e 0).length (al (bF e 0))):=by
    show w1.ownsRow _ _ _ _ _ _
    rw[HZ1.o];exact World.ownsRow_nil _ _ _ _
   clear hn hn' HZ HZ1
   go_wp2_with fail
   (with_reducible refine (HNM.o _).mono ?_)
   rintro r w8 ⟨rfl,rfl⟩
   go_wp2_with fail
  all_goals
   clear e0 e1 e2 e3 e4 e5 HNM
   go_loopw[3,4] (fun v3 i wr=>∃k:Nat,k<=e.args.length/\i= .int .i64 k/\Hid (wr.ownsRow w1.heap.size 3 1 v3 (bF e k).length (al (bF e k)))/\Hid (Below w1.heap.size w1 wr)) (fun _ i _=>e.args.length-(intOf i).toNat)
   case atStart=>exact ⟨0,Nat.zero_le _,rfl,HO0.o,HB0.o⟩
   case round=>
    clear HO0 HB0
    obtain ⟨k,hk,rfl,HO,HBR⟩:=hrel
    rename_i wr
    have hszr:=HBR.o.size
    have hb:=b1.trans (HBR.o.mono hs1)
    have hbs:=hb.size
    obtain ⟨e0,e1,e2,e3,e4,e5⟩:=HX.o _ HBR.o
    by_cases hlt:k<e.args.length
    ·obtain ⟨b,off,x,A',cap',rfl,hbb,hxk,hxm,hok',hcap',hmax',hx',d0,d1,d2,d3,d4,d5⟩:=(HXS.o _ hb).at_ hlt
     have hk':(k:Int)<e.args.length:=by omega
     by_cases hs:e.op=21\/(e.op=22/\k≠0)
     ·have HO1:=HO.o
      rw[<-tc hxk hs] at HO1
      have HO':=zH HO1
      clear HO1
      clear HO hxk
      rcases hs with hs|⟨hs,h0⟩
      ·have q21:(e.op !=21)=false:=by simp[hs]
       clear hs
       go_wp2_with fail
       go_roundw
       case rel=>exact ⟨k+1,by omega,by go_num,HO'.o,HBR.o⟩
       case measure=>simp[intOf];omega
      ·have q21:(e.op !=21)=true:=by simp[hs]
       have q22:(e.op !=22)=false:=by simp[hs]
       have q0:((k:Int)==0)=false:=by simp[h0]
       clear hs h0
       go_wp2_with fail
       go_roundw
       case rel=>exact ⟨k+1,by omega,by go_num,HO'.o,HBR.o⟩
       case measure=>simp[intOf];omega
     have h21:e.op≠21:=fun g=>hs (.inl g)
     have h22:e.op≠22\/k=0:=by
      by_cases g:e.op=22
      ·exact .inr (Classical.byContradiction fun g0=>hs (.inr ⟨g,g0⟩))
      ·exact .inl g
     have HWY:=zH (pW hxk h21 h22)
     have HC:=zH (HI.o x hxm A' cap' wr hok' hcap' hmax' (hx'.more (by omega)))
     have HL1:=zH (HLE.o (k+1))
     have q21:(e.op !=21)=true:=by simp[h21]
     have hq:(e.op !=22)=true\/((e.op !=22)=false/\((k:Int)==0)=true):=by
      by_cases g:e.op=22
      ·exact .inr ⟨by simp[g],by rcases h22 with g2|g2;exact absurd g g2;simp[g2]⟩
      ·exact .inl (by simp[g])
     rw[HWY.o] at HL1
     clear hs h21 h22 hxk hxm hok' hcap' hmax' hx'
     rcases hq with hq|⟨hq,hq0⟩
     all_goals
      go_wp2_with fail
      (with_reducible refine HC.o.mono ?_)
      rintro r w6 ⟨v6,rfl,ho6,hb6⟩
      obtain ⟨A6,c6,rfl,hnil6,hc6⟩:=bH ho6
      have HO6:=zH (aG HO.o hb6)
      have HB6:=zH (HBR.o.trans (hb6.mono hszr))
      have HN6:=zH hnil6
      have HC6:=zH hc6
      have hl:=HL1.o
      rw[List.length_append] at hl
      have HLN:=zH (fF (aU x))
      have HAP:=zH (zp (bF e k) (aU x))
      have HLA:Hid ((bF e k++aU x).length=(bF e k).length+(aU x).length):=List.length_append
      have HON:=zH (qV (aU x))
      have HSZ6:=zH HB6.o.size
      clear hnil6 hc6 ho6 hb6 HO HC HL1
      generalize al (aU x)=LX at*
      generalize (aU x).length=mx at*
      go_wp2_with (at_builtin;refine gi _ rfl _ _ 26 rfl w1.heap.size 3 i0 (.int .i64 0) 1 8 Tryz.underlying26 hi0 hz0 hz1 hz2 rfl (by decide) _ _ _ rfl HO6.o A6 mx c6 LX rfl HN6.o ?k0 HC6.o HON.o ?k3 ?k4 ?k5 ?_)
      case k0=>rw[HLN.o];omega
      case k3=>unfold maxLen;omega
      case k4=>omega
      case k5=>exact HSZ6.o
      intro v7 w7 ho7 hb7
      have HB7:=zH (HB6.o.trans hb7)
      have HO7:Hid (w7.ownsRow w1.heap.size 3 1 v7 (bF e (k+1)).length (al (bF e (k+1)))):=by
       show w7.ownsRow _ _ _ _ _ _
       rw[HWY.o,HAP.o,HLA.o]
       exact ho7
      clear ho7 hb7 HO6 HC6
      go_wp2_with fail
      go_roundw
      case rel=>exact ⟨k+1,by omega,by go_num,HO7.o,HB7.o⟩
      case measure=>simp[intOf];omega
    obtain rfl:k=e.args.length:=by omega
    rw[HFI.o] at HO
    have HO':=zH (dg HO.o (show w.heap.size<=w1.heap.size by omega))
    go_wp2_with fail
    go_ret
    exact ⟨_,rfl,HO'.o,hb⟩
end Go.Proofs.YtckognjamlckcaaGreatDoor
namespace Go.Proofs.YtckognjamlckcaaGreatDoor.Fo
open Vf
theorem pb {n:Int}:∀(l:List Ac) (i:Nat),(bO n i l= -1/\∀x∈l,x.dst≠n)\/∃k x,bO n i l=((i+k:Nat):Int)/\l[k]? =some x/\x.dst=n
 | [],i=> .inl ⟨rfl,fun x hx=>by cases hx⟩
 |y::l,i=>by
  rw[bO]
  by_cases e:y.dst=n
  ·rw[if_pos e]
   exact .inr ⟨0,y,by simp,rfl,e⟩
  ·rw[if_neg e]
   rcases pb l (i+1) with ⟨h1,h2⟩|⟨k,x,h1,h2,h3⟩
   ·refine .inl ⟨h1,fun x hx=>?_⟩
    rcases List.mem_cons.1 hx with rfl|hx
    ·exact e
    ·exact h2 x hx
   ·exact .inr ⟨k+1,x,by rw[h1];congr 1;omega,h2,h3⟩
structure rC (f:Fl):Prop where
 w400:f.wires.length<=400
 ins:∀n∈f.ins,ak f.fm n
 defs:∀d∈f.defs,ak f.fm d.1
 apart:∀n∈f.ins,∀d∈f.defs,d.1≠n
 once:∀d∈f.defs,∀d'∈f.defs,d.1=d'.1->d=d'
 cov:CF f
 want:nU f
 size:∀d∈f.defs,ay d.2<=1000000
 clk:∀i:Nat,i<f.wires.length->(aa f.fm i).length<=400/\∀g∈aa f.fm i,ak f.fm g.wire
theorem yM {f:Fl} (hq:rC f) {i:Int} {d:Int × Ex} (hd:d∈f.defs) (he:d.1=i) (c:Int):il f i c↔c∈aU d.2++(aa f.fm i).map (·.wire):=by
 rw[List.mem_append,List.mem_map]
 constructor
 ·rintro ⟨d',hd',e,h⟩
  rw[hq.once d hd d' hd' (he.trans e.symm)]
  exact h
 ·intro h
  exact ⟨d,hd,he,h⟩
theorem xH {f:Fl} {i c:Int} (h:∀d∈f.defs,d.1≠i):¬il f i c:=fun ⟨d,hd,e,_⟩=>h d hd e
structure oG (f:Fl) (n:Nat) (ds:List Bool):Prop where
 st:kP f ds
 cnt:n+aZ ds=f.wires.length
theorem xF {f:Fl} (hq:rC f) {n m:Nat} {ds:List Bool} (h:oG f n ds) (hm:m<f.wires.length) (hr:dN f ds m):oG f (n+1) (ds.set m true)/\aZ (ds.set m true)+1=aZ ds:=by
 have h1:=kL (ds:=ds) (n:=(m:Int)) (by omega) (by rw[h.st.len];omega) hr.1
 rw[Int.toNat_natCast] at h1
 exact ⟨⟨pC hq.cov hq.want h.st hm hr,by have:=h.cnt;omega⟩,h1⟩
theorem zl {f:Fl} (hq:rC f) {n:Nat} {ds:List Bool} (h:oG f n ds) (hn:∀i:Nat,i<f.wires.length->¬dN f ds i):n=f.wires.length↔∀n:Nat,n<f.wires.length->dt f n:=by
 rw[qW hq.ins hq.defs hq.apart hq.once h.st hn,<-Fo.mt]
 have:=h.cnt
 omega
theorem uP {f:Fl} {ds:List Bool} {i:Int} {l:List Int} (hb:aL ds i=false) (hl:∀c,il f i c↔c∈l) (h0:∀c∈l,0<=c):dN f ds i↔∀c∈l,aL ds c=true:=by
 constructor
 ·intro h c hc
  obtain ⟨m,rfl⟩:=Int.eq_ofNat_of_zero_le (h0 c hc)
  exact h.2 m ((hl _).2 hc)
 ·intro h
  exact ⟨hb,fun c hc=>h _ ((hl _).1 hc)⟩
theorem wL {cl:List Gd} {q:Nat} {g:Gd} (h:cl[q]? =some g) (l:List Int):al (l++(cl.take (q+1)).map (·.wire))=al (l++(cl.take q).map (·.wire))++ [.int .i64 g.wire]:=by
 rw[List.take_add_one,h,Option.toList_some,List.map_append,List.map_singleton,<-List.append_assoc,bS]
end Go.Proofs.YtckognjamlckcaaGreatDoor.Fo
namespace Go.Proofs.YtckognjamlckcaaGreatDoor
open Go.RowKit Vf Fo
attribute [local go_sem ↓] Go.wp_at_zero Go.wp_at_succ
theorem ae.far2 {X:Nat->Prop} {a w w':World} (u:ae X a w) (hb:Below a.heap.size w w'):ae X a w':=
 ⟨hb.os.trans u.os,hb.tape.trans u.tape,hb.output.trans u.output,Nat.le_trans u.size hb.size,fun k hk hX=>(hb.block k hk).trans (u.block k hk hX)⟩
def DF (f:Fl) (w:World) (e:Ending) (w':World):Prop:=∃n:Nat,e= .returned (.int .i64 n)/\n<=f.wires.length/\(n=f.wires.length↔∀n:Nat,n<f.wires.length->dt f n)/\Below w.heap.size w w'
structure Ed (f:Fl) (ds:List Bool) (D:Nat) (w1:World) (v4 v5 v6:Value) (w3:World) (j:Nat) (d2:List Bool) (n2:Nat) (b2:Bool):Prop where
 hj:j<=f.wires.length
 e4:v4= .int .i64 n2
 e5:v5= .bool b2
 e6:v6= .int .i64 j
 hin:oG f n2 d2
 ht:b2=true->aZ d2<aZ ds
 hf:b2=false->d2=ds/\∀i:Nat,i<j->¬dN f ds i
 row:ai w3 D (dI d2).toArray 4
 upd:ae (fun k=>k=D) w1 w3
def D' (f:Fl) (ds:List Bool) (D:Nat) (w1:World) (v4 v5 v6:Value) (w3:World):Prop:=∃(j:Nat) (d2:List Bool) (n2:Nat) (b2:Bool),Ed f ds D w1 v4 v5 v6 w3 j d2 n2 b2
theorem wu {w:World} {f:Fl} {vw vd vi vo:Value} (h:cS w w.heap.size f vw vd vi vo) (hq:rC f):
  Calls Tryz.prog 49 #[eZ vw vd vi vo] w (DF f w):=by
 refine' zq106
 obtain ⟨Aw,cw,rfl,lw,mw,_⟩:=h.wires
 refine' zq62
 obtain ⟨Ad,cd,rfl,ld,md,_⟩:=h.defs
 refine' zq184
 have hwl:=hq.w400
 have mk:=gQ f.wires.length (by omega) (by omega)
 have HFL:=zH (fun W (hW:Below w.heap.size w W)=>h.next hW)
 have HQ:=zH hq
 refine' zq269
 clear h hq
 go_enter Tryz.func49,Tryz.ntmps49
 go_upto_region 2 with (fail)
 have b1:Below w.heap.size w ((w.alloc (.cells #[.slice Aw f.wires.length cw,.slice Ad f.defs.length cd,vi,vo] 33)).alloc (.cells (Array.replicate f.wires.length (.bool false)) 4)):=bE
 have rF1:ai ((w.alloc (.cells #[.slice Aw f.wires.length cw,.slice Ad f.defs.length cd,vi,vo] 33)).alloc (.cells (Array.replicate f.wires.length (.bool false)) 4)) w.heap.size #[.slice Aw f.wires.length cw,.slice Ad f.defs.length cd,vi,vo] 33:=(ai.new w _ _).alloc _
 have rD1:ai ((w.alloc (.cells #[.slice Aw f.wires.length cw,.slice Ad f.defs.length cd,vi,vo] 33)).alloc (.cells (Array.replicate f.wires.length (.bool false)) 4)) (w.heap.size+1) (dI (List.replicate f.wires.length false)).toArray 4:=by
  have:=dw w (.cells #[.slice Aw f.wires.length cw,.slice Ad f.defs.length cd,vi,vo] 33) (Array.replicate f.wires.length (.bool false)) 4
  simpa[dI] using this
 generalize (w.alloc (.cells #[.slice Aw f.wires.length cw,.slice Ad f.defs.length cd,vi,vo] 33)).alloc (.cells (Array.replicate f.wires.length (.bool false)) 4)=w1 at*
 refine' zq185
 have HF4:Hid (∀W,ae (fun k=>k=D) w1 W->W.cell? ⟨G,0,none⟩=some (.slice Aw f.wires.length cw)/\W.cell? ⟨G,1,none⟩=some (.slice Ad f.defs.length cd)/\W.cell? ⟨G,2,none⟩=some vi/\W.cell? ⟨G,3,none⟩=some vo):=fun W hW=>(hW.row rF1 hGD).four'
 have HRD:=zH rD1
 clear rF1 rD1 b1 mk hD
 go_wp2_with fail
 go_loopg [4,5] (aZ (List.replicate f.wires.length false)+1) (fun q v4 v5 wr=>∃(ds:List Bool) (n:Nat) (bb:Bool),v4= .int .i64 n/\v5= .bool bb/\aZ ds+(if bb=true then 1 else 0)<=q/\Hid (oG f n ds)/\Hid (bb=false->∀i:Nat,i<f.wires.length->¬dN f ds i)/\ai wr D (dI ds).toArray 4/\ae (fun k=>k=D) w1 wr)
 case atStart=>exact ⟨List.replicate f.wires.length false,0,true,rfl,rfl,by simp,⟨nz f,by rw[nD];omega⟩,(fun h=>by cases h),HRD.o,ae.refl _ _⟩
 case round=>
  clear HRD
  obtain ⟨ds,n,bb,rfl,rfl,hqq,HIN,HNR,rD,uD⟩:=hrel
  obtain ⟨f0,f1,f2,f3⟩:=HF4.o _ uD
  have HDL:=zH HIN.o.st.len
  have hnw:n<=f.wires.length:=by have:=HIN.o.cnt;omega
  cases bb
  ·have HE:=zH (zl HQ.o HIN.o (HNR.o rfl))
   clear hqq rD
   go_wp2_with fail
   go_ret
   exact ⟨n,rfl,hnw,HE.o,by rw[hG];exact HFI.o _ uD⟩
  rw[if_pos rfl] at hqq
  have HRr:=zH rD
  have HUr:=zH uD
  clear rD
  go_wp2_with fail
  clear f0 f1 f2 f3
  refine' zq148
  go_loopw[4,5,6] (fun v4 v5 i w3=>D' f ds D w1 v4 v5 i w3) (fun _ _ i _=>f.wires.length-(intOf i).toNat)
  case atStart=>exact ⟨0,ds,n,false,⟨Nat.zero_le _,rfl,rfl,rfl,HIN.o,(fun h=>by cases h),fun _=>⟨rfl,fun i hi=>absurd hi (by omega)⟩,HRr.o,HUr.o⟩⟩
  case round=>
   clear HIN HRr HUr HDL uD hnw
   obtain ⟨j,d2,n2,b2,⟨hj,rfl,rfl,rfl,hin0,ht0,hf0,rD,uD⟩⟩:=hrel
   have HIN:=zH hin0
   have HT:=zH ht0
   have HF:=zH hf0
   clear hin0 ht0 hf0
   obtain ⟨f0,f1,f2,f3⟩:=HF4.o _ uD
   have HDL:=zH HIN.o.st.len
   have hn2:n2<=400:=by have:=HIN.o.cnt;omega
   by_cases hlt:j<f.wires.length
   rotate_left 1
   ·refine' zq295
    clear hqq
    go_wp2_with fail
    go_roundg (aZ d2+(if b2=true then 1 else 0))
    case measure=>exact HM.o
    case rel=>exact ⟨d2,n2,b2,rfl,rfl,Nat.le_refl _,HIN.o,HNR.o,rD,uD⟩
   have hlt':(j:Int)<f.wires.length:=by omega
   have cD0:=cU rD (n:=j) (by rw[HDL.o];exact hlt)
   have HFS:Hid (∀{r:Bool},(r=true->dN f d2 j)->(r=false->¬dN f d2 j)->(r=false->b2=false->d2=ds/\∀i:Nat,i<j+1->¬dN f ds i)/\(r=true->oG f (n2+1) (d2.set j true)/\aZ (d2.set j true)<aZ ds)):=fun {r} h1 h2=>by
    refine ⟨fun hr hb=>?_,fun hr=>?_⟩
    ·obtain ⟨e,g⟩:=HF.o hb
     refine ⟨e,fun i hi=>?_⟩
     rcases Nat.lt_succ_iff_lt_or_eq.1 hi with hi|rfl
     ·exact g i hi
     ·rw[<-e];exact h2 hr
    ·obtain ⟨q1,q2⟩:=xF HQ.o HIN.o hlt (h1 hr)
     refine ⟨q1,?_⟩
     cases b2
     ·have:=(HF.o rfl).1;rw[<-this];omega
     ·have:=HT.o rfl;omega
   have hDr:=rD.lt
   cases hV0:aL d2 (j:Int)
   rotate_left 1
   ·have HF':=zH ((HFS.o (r:=false) (fun h=>by cases h) (fun _ g=>by have:=g.1;rw[hV0] at this;cases this)).1 rfl)
    rw[hV0] at cD0
    clear hV0
    go_wp2_with fail
    go_roundw
    case rel=>exact ⟨j+1,d2,n2,b2,⟨by omega,rfl,rfl,by go_num,HIN.o,HT.o,HF'.o,rD,uD⟩⟩
    case measure=>simp[intOf];omega
   have HV0:=zH hV0
   rw[hV0] at cD0
   have b4:=HFI.o _ uD
   have HBY:=zH (mG ((hG▸HFL).out _ (hG▸b4)) (j:Int))
   have hby:=pb (n:=(j:Int)) f.fm.acts 0
   have HRD:=zH rD
   have HUD:=zH uD
   clear hV0 rD
   rcases hby with ⟨hby,hno⟩|⟨k,y,hby,hy,hyd⟩
   ·have HRT:=zH ((HFS.o (r:=true) (fun _=>⟨HV0.o,fun c hc=>absurd hc (xH (fun d hd e=>hno ⟨0,d.1,0,0,0,0⟩ (List.mem_map.2 ⟨d,hd,rfl⟩) e))⟩) (fun h=>by cases h)).2 rfl)
    rw[hby] at HBY
    clear hno hby
    refine' zq298
    clear hb5 HRD HUD f0 f1 f2 f3 cD0
    obtain ⟨f0,f1,f2,f3⟩:=HF4.o _ HU5.o
    have cD0:=cU HR5.o (n:=j) (by rw[HDL.o];exact hlt)
    rw[HV0.o] at cD0
    have fD:=HR5.o.frozen j
    go_wp2_with fail
    go_roundw
    case rel=>exact ⟨j+1,d2.set j true,n2+1,true,⟨by omega,by go_num,rfl,by go_num,HRT.o.1,(fun _=>HRT.o.2),(fun h=>by cases h),iH HR5.o true,ae.setCell (X:=fun k=>k=D) (p:=⟨D,j,none⟩) HU5.o rfl (.bool true)⟩⟩
    case measure=>simp[intOf];omega
   obtain ⟨d,hd,hdy⟩:∃d,f.defs[k]? =some d/\d.1=(j:Int):=by
    cases hd:f.defs[k]? with
    |none=>
     have:f.fm.acts[k]? =none:=by rw[List.getElem?_eq_none_iff] at hd⊢;rw[gq];exact hd
     rw[this] at hy;cases hy
    |some d=>
     have:=iu hd
     rw[this] at hy
     injection hy with hy
     exact ⟨d,rfl,by rw[<-hyd,<-hy]⟩
   have hkl:k<f.defs.length:=(List.getElem?_eq_some_iff.1 hd).1
   have hdm:=List.mem_of_getElem? hd
   have HDD:=zH hd
   have HSZ:=zH (HQ.o.size d hdm)
   have HHG:=zH (yM HQ.o hdm hdy)
   have HWW:=zH (HQ.o.want d hdm)
   obtain ⟨hcl4,hclw⟩:=HQ.o.clk j hlt
   have HCLW:=zH hclw
   rw[Nat.zero_add] at hby
   rw[hby] at HBY
   have hk1:(k:Int)<f.defs.length:=by omega
   have hk2:(0:Int)<=(k:Int):=by omega
   have hk3:decide ((0:Int)<=(k:Int))=true:=decide_eq_true hk2
   have hcd:k<cd:=by omega
   clear hy hyd hby hd hdm hclw
   refine' zq298
   clear hb5 HRD HUD f0 f1 f2 f3 cD0 b4 HBY
   obtain ⟨f0,f1,f2,f3⟩:=HF4.o _ HU5.o
   have b5:=HFI.o _ HU5.o
   obtain ⟨bd,offd,dx,Ag,cg,hAd,hbd,hdx,wd,hokd,hcapd,hmaxd,hxd,d0,d1,d2',d3,d4,d5,d6⟩:=(HSD.o _ b5).df hkl
   rw[HDD.o] at hdx
   injection hdx with hdx
   subst hdx hAd
   have HWT:=zH (sW d.2 Ag cg w5 hokd hcapd hmaxd hxd HSZ.o)
   clear hdy wd hokd hcapd hmaxd hxd hbd
   go_wp2_with fail
   (with_reducible refine HWT.o.mono ?_)
   rintro r w6 ⟨v6,rfl,ho6,hb6⟩
   have HU6:=zH (HU5.o.trans (ae.of_below hb6))
   have HR6:=zH (HR5.o.below hb6 HR5.o.lt)
   have hs5:w1.heap.size<=w5.heap.size:=HU5.o.size
   have HD5:Hid (D<w5.heap.size):=HR5.o.lt
   have hs56:=hb6.size
   have HO6:=zH ho6
   have HB56:=zH hb6
   clear ho6 hb6 HWT f0 f1 f2 f3 d0 d1 d2' d3 d4 d5 d6
   obtain ⟨m,b7,off7,cw7,Agj,cgj,hjm,hm,hvw,_,_,hb7,y0,y1,lg,mg,sg⟩:=dT (HFL.o _ (HFI.o _ HU5.o)) (show ak f.fm (j:Int) from ⟨by omega,hlt'⟩)
   obtain rfl:j=m:=by omega
   injection hvw with hv1 _ _
   subst hv1
   have HY1:Hid (∀W,Below w5.heap.size w5 W->W.cell? ⟨b7,off7+j*2+1,none⟩=some (.slice Agj (aa f.fm (j:Int)).length cgj)):=fun W hW=>cell_kept y1 hW
   have HSG:Hid (∀W,Below w5.heap.size w5 W->Sl W W.heap.size 2 aW Agj (aa f.fm (j:Int))):=fun W hW=>(sg.below hW).more hW.size
   clear hjm y0 y1 sg hb7 hm
   generalize aa f.fm (j:Int)=cl at*
   have HWE:Hid (∀n∈aU d.2++cl.map (·.wire),ak f.fm n):=fun n hn=>by
    rcases List.mem_append.1 hn with hn|hn
    ·exact HWW.o.1 n hn
    ·obtain ⟨g,hg,rfl⟩:=List.mem_map.1 hn
     exact HCLW.o g hg
   have HWL:Hid ((aU d.2).length<=1000000):=Nat.le_trans (oP d.2).1 HSZ.o
   generalize aU d.2=WE at*
   have HO60:Hid (w6.ownsRow w5.heap.size 3 1 v6 (WE.length+0) (al (WE++(cl.take 0).map (·.wire)))):=by
    show w6.ownsRow _ _ _ _ _ _
    simpa using HO6.o
   clear HO6
   go_wp2_with fail
   go_loopw[9,10] (fun v9 i w7=>∃q:Nat,q<=cl.length/\i= .int .i64 q/\Hid (w7.ownsRow w5.heap.size 3 1 v9 (WE.length+q) (al (WE++(cl.take q).map (·.wire))))/\Hid (Below w5.heap.size w6 w7)) (fun _ i _=>cl.length-(intOf i).toNat)
   case atStart=>exact ⟨0,Nat.zero_le _,rfl,HO60.o,Below.refl _ _⟩
   case round=>
    clear HO60
    obtain ⟨q,hq,rfl,HO,HBR⟩:=hrel
    obtain ⟨w7,rfl⟩:∃w7:World,w7=wr:=⟨_,rfl⟩
    have HU7:=zH (HU6.o.far2 (HBR.o.mono hs5))
    obtain ⟨f0,f1,f2,f3⟩:=HF4.o _ HU7.o
    have HB7:=zH (HB56.o.trans HBR.o)
    have y1:=HY1.o _ HB7.o
    have hsz7:=HBR.o.size
    by_cases hlt3:q<cl.length
    ·obtain ⟨b8,off8,g,rfl,hb8,hg,wg,g0,g1⟩:=(HSG.o _ HB7.o).gd hlt3
     have hlt3':(q:Int)<cl.length:=by omega
     have HTK:=zH (wL hg WE)
     have ha:Below w7.heap.size w7 (w7.alloc (.cells #[.int .i64 g.wire] 3)):=bE
     have HOA:=zH (aG HO.o ha)
     have HN14:Hid (∀j u,[Value.int .i64 g.wire][j]? =some u->(w7.alloc (.cells #[.int .i64 g.wire] 3)).cell? ((⟨w7.heap.size,0,none⟩:Addr).add j)=some u):=fe w7 3 (.int .i64 g.wire)
     have hWL:=HWL.o
     clear hg
     generalize al (WE++(cl.take q).map (·.wire))=LL at*
     go_wp2_with (at_builtin;refine wpList_append_own _ rfl _ _ 26 rfl w5.heap.size 3 i0 (.int .i64 0) 1 8 Tryz.underlying26 hi0 hz0 hz1 hz2 rfl (by decide) _ _ _ rfl HOA.o ⟨w7.heap.size,0,none⟩ 1 1 [.int .i64 g.wire] rfl ?c0 ?c1 ?c2 ?c3 ?c4 ?c5 ?_)
     case c0=>rfl
     case c1=>exact HN14.o
     case c2=>intro u hu;simp at hu;subst hu;rfl
     case c3=>unfold maxLen;omega
     case c4=>omega
     case c5=>simp;omega
     intro v15 w15 hown15 hg15 _
     have HB15:Hid (Below w5.heap.size w6 w15):=aY (HBR.o.trans (ha.mono (by omega))) HOA.o hg15 (by simp;omega)
     have HO15:Hid (w15.ownsRow w5.heap.size 3 1 v15 (WE.length+(q+1)) (al (WE++(cl.take (q+1)).map (·.wire)))):=by
      show w15.ownsRow _ _ _ _ _ _
      rw[HTK.o];exact hown15
     clear hown15 hg15 HOA HN14 ha HTK HO
     go_wp2_with fail
     go_roundw
     case rel=>exact ⟨q+1,by omega,by go_num,HO15.o,HB15.o⟩
     case measure=>simp[intOf];omega
    obtain rfl:q=cl.length:=by omega
    have hOL:=HO.o
    rw[List.take_length] at hOL
    have hWl:=HWE.o
    obtain ⟨A9,cp9,hv9,l9,m9,sl9⟩:=yw hOL (fun z hz=>aT (by have h1:=(hWl z hz).1;have h2:z<f.wires.length:=(hWl z hz).2;omega))
    subst hv9
    have m9':cp9<=9223372036854775807:=by unfold maxLen at m9;omega
    have HSL:=zH sl9
    have HR7:=zH (HR6.o.below HBR.o HD5.o)
    clear sl9 hOL m9 HO hWl hlt3 hq
    generalize hL:WE++cl.map (·.wire)=L at*
    clear hL
    go_wp2_with fail
    clear f0 f1 f2 f3 y1
    obtain ⟨wo2,rfl⟩:∃wo2:World,wo2=w7:=⟨_,rfl⟩
    have rD5:=HR7.o
    go_loopw[7,11] (fun v7 i wr=>∃(q:Nat) (r:Bool),q<=L.length/\v7= .bool r/\i= .int .i64 q/\Hid (r=true↔∀i,i<q->∀n,L[i]? =some n->aL d2 n=true)/\wo2=wr) (fun _ i _=>L.length-(intOf i).toNat)
    case atStart=>exact ⟨0,true,Nat.zero_le _,rfl,rfl,(by show _↔_;simp),rfl⟩
    case round=>
     obtain ⟨q,r,hq',rfl,rfl,HRR,rfl⟩:=hrel
     by_cases hlt2:q<L.length
     ·obtain ⟨b3,off3,n,rfl,hb3,hn,wn,e0⟩:=HSL.o.int hlt2
      have hWn:=HWE.o n (List.mem_of_getElem? hn)
      have HNn:=zH hn
      obtain ⟨p,rfl⟩:=Int.eq_ofNat_of_zero_le hWn.1
      have hpl':(p:Int)<f.wires.length:=hWn.2
      have hpl:p<f.wires.length:=by omega
      have y0:=cU rD5 (n:=p) (by rw[HDL.o];exact hpl)
      generalize hV:aL d2 (p:Int)=V at y0
      have HV':=zH hV
      clear hn hWn hV
      have HRR':Hid ((r && V)=true↔∀i,i<q+1->∀n,L[i]? =some n->aL d2 n=true):=by
       show _↔_
       rw[Bool.and_eq_true,HRR.o]
       constructor
       ·rintro ⟨g2,g3⟩
        exact aC g2 (fun n' hn'=>by rw[HNn.o] at hn';injection hn' with hn';rw[<-hn',HV'.o];exact g3)
       ·intro g2
        exact ⟨fun i hi=>g2 i (by omega),by rw[<-HV'.o];exact g2 q (by omega) _ HNn.o⟩
      cases r
      all_goals
       go_wp2_with fail
       go_roundw
       case rel=>exact ⟨q+1,_,by omega,rfl,by go_num,by have:=HRR'.o;(first|rw[Bool.false_and] at this|rw[Bool.true_and] at this);exact this,trivial⟩
       case measure=>simp[intOf];omega
     obtain rfl:q=L.length:=by omega
     clear hlt2
     have HRQ0:Hid (r=true↔dN f d2 j):=by
      show _↔_
      rw[uP HV0.o HHG.o (fun c hc=>(HWE.o c hc).1),HRR.o]
      exact ⟨fun g=>dY g,fun g i _ n hn=>g n (List.mem_of_getElem? hn)⟩
     have HRQ:=zH (HFS.o (r:=r) HRQ0.o.1 (fun h g=>by have:=HRQ0.o.2 g;rw[h] at this;cases this))
     cases r
     ·have HF':=zH (HRQ.o.1 rfl)
      go_wp2_with fail
      go_roundw
      case rel=>(repeat apply Exists.intro);(first|(refine And.intro ?_ rfl)|(refine ⟨?_,rfl,rfl,rfl⟩));exact ⟨j+1,d2,n2,b2,⟨by omega,rfl,rfl,by go_num,HIN.o,HT.o,HF'.o,rD5,HU7.o⟩⟩
      case measure=>simp[intOf];omega
     have HRT:=zH (HRQ.o.2 rfl)
     have cD0:=cU HR7.o (n:=j) (by rw[HDL.o];exact hlt)
     rw[HV0.o] at cD0
     have fD:=HR7.o.frozen j
     go_wp2_with fail
     go_roundw
     case rel=>(repeat apply Exists.intro);(first|(refine And.intro ?_ rfl)|(refine ⟨?_,rfl,rfl,rfl⟩));exact ⟨j+1,d2.set j true,n2+1,true,⟨by omega,by go_num,rfl,by go_num,HRT.o.1,(fun _=>HRT.o.2),(fun h=>by cases h),iH HR7.o true,ae.setCell (X:=fun k=>k=D) (p:=⟨D,j,none⟩) HU7.o rfl (.bool true)⟩⟩
     case measure=>simp[intOf];omega
end Go.Proofs.YtckognjamlckcaaGreatDoor
