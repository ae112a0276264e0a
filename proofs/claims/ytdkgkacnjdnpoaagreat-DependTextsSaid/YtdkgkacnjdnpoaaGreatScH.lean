/-
  The clock of a name: the contracts of clock.Of, tompionref18.Of; clocks with one more condition. Clocks with one more condition: the contracts of clock.more, tompionref18.With; the document's clock of a name. What is wrong with an expression, but for what is within it: the contract of scope.one; scope.Var in one form.
-/
import Derived.Test.YtdkgkacnjdnpoaaGreatZz
import Derived.Test.YtdkgkacnjdnpoaaGreatFewM
import Derived.Deep.RegionHeld3
import Derived.IntWalk
import Derived.Deep.RegionLawGrows
import Derived.Test.YtdkgkacnjdnpoaaGreatMet
set_option maxHeartbeats 4000000
set_option maxRecDepth 100000
namespace Go.Proofs.YtdkgkacnjdnpoaaGreat
open Go.RowKit
theorem info_lit:(Tryz.prog.info? 105).map (fun i=>(i.zero,i.size,i.bytes))=some (some (.agg #[.string ⟨#[]⟩,.bool false]),2,24):=by kernel_rfl
theorem isLit_one {x:Lt} {cs:List Value} (h:isLit x cs):cs.length=2∧∀u∈cs,u.oneCell'=true:=by
 obtain ⟨rfl,_⟩:=h
 refine ⟨rfl,fun u hu=>?_⟩
 simp only[List.mem_cons,List.not_mem_nil,or_false] at hu
 rcases hu with rfl|rfl<;>rfl
def LitsV (w:World) (l:List Lt) (v:Value):Prop:=∃A cap,v= .slice A l.length cap∧l.length≤cap∧cap≤maxLen∧Sl w w.heap.size 2 isLit A l
theorem lits_own {w:World} {base n:Nat} {v:Value} {l:List Lt} {css:List (List Value)} (h:w.ownsRow base 105 2 v n css.flatten) (ha:Are isLit l css):LitsV w l v:=by
 obtain ⟨⟨A,cap,e1,e2,e3,e4⟩,_⟩:=own_sl h ha (ha.all (fun _ _ _ h=>(isLit_one h).1)) (by decide)
 exact ⟨A,cap,e1,e2,e3,e4⟩
def LitsO (B:Nat) (w:World) (l:List Lt) (v:Value):Prop:=∃A cap,v= .slice A l.length cap∧l.length≤cap∧cap≤maxLen∧Sl w w.heap.size 2 isLit A l∧∀ad,A=some ad→B≤ad.block
theorem lits_ownO {w:World} {B base n:Nat} {v:Value} {l:List Lt} {css:List (List Value)} (h:w.ownsRow base 105 2 v n css.flatten) (ha:Are isLit l css) (hB:B≤base):LitsO B w l v:=by
 obtain ⟨⟨A,cap,e1,e2,e3,e4⟩,_⟩:=own_sl h ha (ha.all (fun _ _ _ h=>(isLit_one h).1)) (by decide)
 exact ⟨A,cap,e1,e2,e3,e4,fun ad hA=>by
  subst hA;subst e1
  exact Nat.le_trans hB (h.lt ad.block rfl).1⟩
theorem sl_far {W:World} {B:Nat} {A:Option Addr} {l:List Lt} (h:Sl W B 2 isLit A l) {p:Addr} (hp:∀ad,A=some ad→ad.block≠p.block) (u:Value):Sl (W.setCell p u) B 2 isLit A l:=fun hn=>by
 obtain ⟨b,off,rfl,hb,hx⟩:=h hn
 refine ⟨b,off,rfl,hb,fun i x hi=>?_⟩
 obtain ⟨cs,hc,hr⟩:=hx i x hi
 exact ⟨cs,fun j v hv=>(World.cell?_of_block (a:=⟨b,off+i*2+j,none⟩) (Below.heap_setCell W p u b (hp _ rfl))).trans (hc j v hv),hr⟩
theorem clone_lits (l:List Lt) (A:Option Addr) (cap:Nat) (w:World) (h0:l.length≤1000) (h:Sl w w.heap.size 2 isLit A l):
  Calls Tryz.prog 74 #[.slice A l.length cap] w fun e w'=>(∃v,e= .returned v∧LitsV w' l v)∧Below w.heap.size w w':=by
 obtain ⟨i0,hi0,hz0,hz1,hz2⟩:=info_parts info_lit
 cases A with
 |none=>
  have hl:l=[]:=by
   rcases Nat.eq_zero_or_pos l.length with h1|h1
   ·exact List.eq_nil_of_length_eq_zero h1
   ·obtain ⟨_,_,h,_⟩:=h h1
    cases h
  subst hl
  clear h
  have en:=Lib.run_eql_slice_nil (P:=Tryz.prog)
  go_enter Tryz.func74,Tryz.ntmps74
  go_wp2_with fail
  go_ret
  exact ⟨⟨_,rfl,none,0,rfl,Nat.le_refl _,Nat.zero_le _,Sl.nil⟩,Below.refl _ _⟩
 |some ad=>
  have en:=Lib.run_eql_slice_nil (P:=Tryz.prog)
  have HS:=Lib.hid (h.keep (keeps_of ((Below.refl _ w).alloc (Nat.le_refl _) (.cells #[] 105))) (Nat.le_refl _) (fun _ _ _ h=>h))
  have ho:=own_empty w 105 2
  clear h
  go_enter Tryz.func74,Tryz.ntmps74
  go_wp2_with (at_builtin;refine wpList_append_sl rfl _ _ 101 rfl w.heap.size 105 i0 _ 2 24 Tryz.underlying101 hi0 hz0 hz1 hz2 rfl (by decide) _ _ _ rfl ho (some ad) l cap rfl HS.out (fun _ _ h=>isLit_one h) ?c3 ?c4 ?c5 ?_)
  case c3=>unfold maxLen;omega
  case c4=>omega
  case c5=>simp
  intro v' w3 css' hown' hare' hb3 _
  have HO:=Lib.hid hown'
  have HA:=Lib.hid hare'
  clear hown' hare'
  go_wp2_with fail
  go_ret
  refine ⟨⟨_,rfl,lits_own (base:=w.heap.size) (n:=0+l.length) (css:=css') ?_ HA.out⟩,((Below.refl _ _).alloc (Nat.le_refl _) _).trans hb3⟩
  simpa using HO.out
def clockOf (n:Nd) (nm:ByteArray):List Lt:=if 0≤varIdx n nm then (((vrs n)[(varIdx n nm).toNat]?).map Vr.clock).getD [] else []
theorem clock_at {n:Nd} {nm:ByteArray} {k:Nat} {x:Vr} (h:varIdx n nm=k) (hx:(vrs n)[k]? =some x):clockOf n nm=x.clock:=by
 unfold clockOf
 rw[h,if_pos (by omega)]
 simp[hx]
theorem clock_no {n:Nd} {nm:ByteArray} (h:varIdx n nm= -1):clockOf n nm=[]:=by unfold clockOf;rw[h];rfl
theorem var_cases (n:Nd) (nm:ByteArray):(∃(k:Nat) (x:Vr),varIdx n nm=k∧(vrs n)[k]? =some x∧x.name=nm)∨varIdx n nm= -1:=by
 rcases idx_cases ((vrs n).map (·.name)) nm with ⟨k,h1,h2,_⟩|⟨h1,_⟩
 ·rw[List.getElem?_map,Option.map_eq_some_iff] at h2
  obtain ⟨x,h3,h4⟩:=h2
  exact .inl ⟨k,x,h1,h3,h4⟩
 ·exact .inr h1
theorem clock_small {n:Nd} (h:NdSm n) (nm:ByteArray):(clockOf n nm).length≤6:=by
 rcases var_cases n nm with ⟨k,x,h1,h2,_⟩|h1
 ·rw[clock_at h1 h2];exact (h.all x (List.mem_of_getElem? h2)).clock
 ·rw[clock_no h1];simp
def OfRes (n:Nd) (nm:ByteArray) (w:World) (e:Ending) (w':World):Prop:=(∃A cap,e= .returned (.tuple #[.slice A (clockOf n nm).length cap,.bool (cB (0≤varIdx n nm))])∧(clockOf n nm).length≤cap∧cap≤maxLen∧Sl w' w'.heap.size 2 isLit A (clockOf n nm))∧Below w.heap.size w w'
theorem of_any (n:Nd) (a:NdA) (nm:ByteArray) (w:World) (h:NdAt w w.heap.size n a) (hs:NdSm n):
  Calls Tryz.prog 147 #[ndV n a,.string nm] w (OfRes n nm w):=by
 have b1:Below w.heap.size w (w.alloc (.cells (ndArr n a) 58)):=(Below.refl _ _).alloc (Nat.le_refl _) _
 have H:=Lib.hid (h.next b1)
 have HL:=Lib.hid hs
 clear h hs
 go_enter Tryz.func147,Tryz.ntmps147
 go_wp2_with fail
 refine (svar_any n a nm _ H.out (by have:=HL.out.len;omega)).mono ?_
 rintro e w2 ⟨(⟨k,x,A,cap,hk,hx,rfl,ok,g1,g2,hsl⟩|⟨hk,rfl⟩),hb2⟩
 ·have hB:Below w.heap.size w w2:=b1.trans (hb2.mono (by simp))
  have HK:=Lib.hid hk
  have HC:=Lib.hid (clock_at hk hx)
  have hsz2:=hb2.size
  have hcl:x.clock.length≤1000:=by have:=(HL.out.all x (List.mem_of_getElem? hx)).clock;omega
  have b3:Below w2.heap.size w2 (w2.alloc (.cells (vrArr x A cap) 103)):=(Below.refl _ _).alloc (Nat.le_refl _) _
  have HSL:=Lib.hid (lits_keep (lits_keep hsl (fun _ _ _ h=>h) hsz2) (keeps_of b3) (show w2.heap.size≤(w2.alloc (.cells (vrArr x A cap) 103)).heap.size by simp))
  clear hk hx hsl
  go_wp2_with fail
  refine (clone_lits x.clock A cap _ hcl HSL.out).mono ?_
  rintro e w4 ⟨⟨v,rfl,A4,cap4,rfl,l4,m4,s4⟩,hb4⟩
  go_wp2_with fail
  go_ret2
  unfold OfRes
  rw[HC.out]
  exact ⟨⟨A4,cap4,by rw[cB_true (by rw[HK.out];omega)];rfl,l4,m4,s4⟩,hB.trans ((b3.mono hB.size).trans (hb4.mono (by simp;have:=hB.size;omega)))⟩
 ·have hB:Below w.heap.size w w2:=b1.trans (hb2.mono (by simp))
  have HK:=Lib.hid hk
  have HC:=Lib.hid (clock_no hk)
  clear hk
  go_wp2_with fail
  go_ret2
  unfold OfRes
  rw[HC.out]
  exact ⟨⟨none,0,by rw[cB_false (by rw[HK.out];decide)];rfl,Nat.le_refl _,Nat.zero_le _,Sl.nil⟩,hB.alloc hB.size _⟩
theorem old_cell {w W:World} (hb:Below w.heap.size w W) {p:Addr} {u:Value} (h:w.cell? p=some u):W.cell? p=some u:=(hb.cell (block_lt_of_cell h)).trans h
theorem Row.two {W:World} {g:Nat} {x0 x1:Value} {t:TypeId} (h:Row W g #[x0,x1] t) {j:Nat} {u:Value} (hu: [x0,x1][j]? =some u):W.cell? ((⟨g,0,none⟩:Addr).add j)=some u:=by
 rw[Addr.add_lit,Nat.zero_add]
 exact (h.cell j).trans (by simpa using hu)
theorem more_any (l:List Lt) (x:Lt) (A:Option Addr) (cap:Nat) (w:World) (h0:l.length≤1000) (hx:x.name.size≤maxLen) (hc:l.length≤cap) (hm:cap≤maxLen) (h:Sl w w.heap.size 2 isLit A l):
  Calls Tryz.prog 185 #[.slice A l.length cap,.agg #[.string x.name,.bool x.no]] w fun e w'=>(∃v,e= .returned v∧LitsO w.heap.size w' (l++ [x]) v)∧Below w.heap.size w w':=by
 obtain ⟨i0,hi0,hz0,hz1,hz2⟩:=info_parts info_lit
 have hm':cap≤9223372036854775807:=by unfold maxLen at hm;omega
 obtain ⟨css,hare,hcs⟩:=h.css (fun x cs h=>(isLit_one h).1)
 have HA:=Lib.hid hare
 have HL:=Lib.hid (hare.len (fun x cs h=>(isLit_one h).1))
 have HC:=Lib.hid hcs
 have i1:(0:Int)≤(l.length:Int):=by omega
 have i2:(l.length:Int)≤(cap:Int):=by omega
 have i3:(l.length:Int)≤(l.length:Int):=Int.le_refl _
 have c0:(w.alloc (.cells #[.string x.name,.bool x.no] 105)).cell? ⟨w.heap.size,0,none⟩=some (.string x.name):=by simp
 have c1:(w.alloc (.cells #[.string x.name,.bool x.no] 105)).cell? ⟨w.heap.size,1,none⟩=some (.bool x.no):=by simp
 have hA:A=none→l.length=0∧l.length=0:=fun e=>by
  subst e
  rcases Nat.eq_zero_or_pos l.length with h1|h1
  ·exact ⟨h1,h1⟩
  ·obtain ⟨_,_,h,_⟩:=h h1
   cases h
 have HN:=Lib.hid hA
 clear h hare hcs hA
 go_enter Tryz.func185,Tryz.ntmps185
 go_wp2_with fail
 cases A with
 |none=>
  go_region_held3 (fun w'=>w'.cell? ⟨w.heap.size,0,none⟩=some (.string x.name)∧w'.cell? ⟨w.heap.size,1,none⟩=some (.bool x.no)) (first|exact kk|go_keep)
   (first|((refine step_append_grows (by rfl) (.tmp 10) (.tmp 12) 101 (by rfl) 105 i0 _ 2 24 Tryz.underlying101 hi0 hz0 hz1 hz2 rfl (by decide) none l.length l.length css.flatten (by rfl) HN.out HL.out (fun b e=>by cases e) ⟨w.heap.size+1,0,none⟩ 1 1 [.string x.name,.bool x.no] (by rfl) rfl (fun j u hu=>(show Row _ _ #[_,_] 105 from rowNew2 _ _ _ _).two hu) (fun u hu=>by simp at hu;rcases hu with rfl|rfl<;>rfl) (by omega) (by unfold maxLen;omega) (by omega) ?_);intro v3 w3 ho3 hg3;have kk:w3.cell? ⟨w.heap.size,0,none⟩=some (.string x.name)∧w3.cell? ⟨w.heap.size,1,none⟩=some (.bool x.no):=⟨(World.cell?_of_block (a:=⟨w.heap.size,0,none⟩) (hg3.block w.heap.size (by first|(simp;omega)|simp) (fun e=>by cases e))).trans (by simp),(World.cell?_of_block (a:=⟨w.heap.size,1,none⟩) (hg3.block w.heap.size (by first|(simp;omega)|simp) (fun e=>by cases e))).trans (by simp)⟩))
  all_goals
   have HO:=Lib.hid ho3
   have hb3:=(Below.refl w.heap.size _).grown hg3 (by simp;omega) (fun k hk=>by cases hk)
   clear ho3 hg3
   go_wp2_with fail
   go_ret
   refine ⟨⟨_,rfl,lits_ownO (n:=l.length+1) (v:=v3) (css:=css++ [[.string x.name,.bool x.no]]) (by rw[List.flatten_append];exact HO.out) (HA.out.append (Are.one ⟨rfl,hx⟩)) (by first|(simp;omega)|simp)⟩,Below.trans ?_ hb3⟩
   repeat (first|exact Below.refl _ _|refine Below.drew ?_|refine Below.alloc ?_ (by simp) _)
 |some ad=>
  go_region_held3 (fun w'=>w'.cell? ⟨w.heap.size,0,none⟩=some (.string x.name)∧w'.cell? ⟨w.heap.size,1,none⟩=some (.bool x.no)) (first|exact kk|go_keep)
   (first|((refine step_append_grows (by rfl) (.tmp 10) (.tmp 12) 101 (by rfl) 105 i0 _ 2 24 Tryz.underlying101 hi0 hz0 hz1 hz2 rfl (by decide) (some ad) l.length l.length css.flatten (by rfl) HN.out HL.out (fun b e j u hu=>old_cell (by repeat (first|exact Below.refl _ _|refine Below.drew ?_|refine Below.alloc ?_ (by simp) _)) (HC.out b e j u hu)) ⟨w.heap.size+1,0,none⟩ 1 1 [.string x.name,.bool x.no] (by rfl) rfl (fun j u hu=>(show Row _ _ #[_,_] 105 from rowNew2 _ _ _ _).two hu) (fun u hu=>by simp at hu;rcases hu with rfl|rfl<;>rfl) (by omega) (by unfold maxLen;omega) (by omega) ?_);intro v3 w3 ho3 hg3;have kk:w3.cell? ⟨w.heap.size,0,none⟩=some (.string x.name)∧w3.cell? ⟨w.heap.size,1,none⟩=some (.bool x.no):=⟨(World.cell?_of_block (a:=⟨w.heap.size,0,none⟩) (hg3.block w.heap.size (by first|(simp;omega)|simp) (fun e=>by cases e))).trans (by simp),(World.cell?_of_block (a:=⟨w.heap.size,1,none⟩) (hg3.block w.heap.size (by first|(simp;omega)|simp) (fun e=>by cases e))).trans (by simp)⟩))
  all_goals
   have HO:=Lib.hid ho3
   have hb3:=(Below.refl w.heap.size _).grown hg3 (by simp;omega) (fun k hk=>by cases hk)
   clear ho3 hg3
   go_wp2_with fail
   go_ret
   refine ⟨⟨_,rfl,lits_ownO (n:=l.length+1) (v:=v3) (css:=css++ [[.string x.name,.bool x.no]]) (by rw[List.flatten_append];exact HO.out) (HA.out.append (Are.one ⟨rfl,hx⟩)) (by first|(simp;omega)|simp)⟩,Below.trans ?_ hb3⟩
   repeat (first|exact Below.refl _ _|refine Below.drew ?_|refine Below.alloc ?_ (by simp) _)
def Var1 (n:Nd) (nm:ByteArray) (w:World) (e:Ending) (w':World):Prop:=
 (∃(x:Vr) (A:Option Addr) (cap:Nat),e= .returned (.tuple #[vrV x A cap,.bool (cB (nm∈nms (vrs n)))])∧Hid (nm∈nms (vrs n)→∃k:Nat,varIdx n nm=k∧(vrs n)[k]? =some x∧VrOk x∧x.clock.length≤cap∧cap≤maxLen∧Sl w' w.heap.size 2 isLit A x.clock)∧Hid (nm∉nms (vrs n)→x=vr0∧A=none∧cap=0))∧Below w.heap.size w w'
theorem svar1_any (n:Nd) (a:NdA) (nm:ByteArray) (w:World) (h:NdAt w w.heap.size n a) (hl:(vrs n).length≤10000):
  Calls Tryz.prog 43 #[ndV n a,.string nm] w (Var1 n nm w):=by
 refine (svar_any n a nm w h hl).mono fun e w' hr=>?_
 obtain ⟨⟨k,x,A,cap,h1,h2,rfl,h3,h4,h5,h6⟩|⟨h1,rfl⟩,hb⟩:=hr
 ·have hm:nm∈nms (vrs n):=var_mem.1 (by rw[h1];omega)
  exact ⟨⟨x,A,cap,by rw[cB_true hm],fun _=>⟨k,h1,h2,h3,h4,h5,h6⟩,fun g=>absurd hm g⟩,hb⟩
 ·have hm:nm∉nms (vrs n):=var_neg.1 (by rw[h1];decide)
  exact ⟨⟨vr0,none,0,by rw[cB_false hm],fun g=>absurd g hm,fun _=>⟨rfl,rfl,rfl⟩⟩,hb⟩
theorem names_four {op:Int} (h:namesB op=true):op=3∨op=24∨op=25∨op=26:=by simpa[namesB] using h
theorem names_not {op:Int} (h:namesB op=false):op≠3∧op≠24∧op≠25∧op≠26:=by
 have h:¬(op=3∨op=24∨op=25∨op=26):=by simpa[namesB] using h
 omega
theorem one_any (s:List Nd) (A:Option Addr) (cap:Nat) (n:Nd) (a:NdA) (e:Ex) (A2:Option Addr) (cap2:Nat) (outs:Int) (w:World) (h1:s.length≤cap) (h2:cap≤maxLen) (hl:(vrs n).length≤10000) (hm2:cap2≤maxLen)
  (hs:Nds w w.heap.size A s) (hn:NdAt w w.heap.size n a):
  Calls Tryz.prog 179 #[srcV s A cap,ndV n a,exV e A2 cap2,.int .i64 outs] w fun r w'=>r= .returned (ftV (oneF s n outs e))∧Below w.heap.size w w':=by
 have rs1:=(((Row.new w #[.slice A s.length cap] 24).alloc (.cells (ndArr n a) 58)).alloc (.cells (exA e A2 cap2) 63)).alloc (.cells ftC0 38)
 have rn1:=((rowNew2 w (.cells #[.slice A s.length cap] 24) (ndArr n a) 58).alloc (.cells (exA e A2 cap2) 63)).alloc (.cells ftC0 38)
 have re1:=(rowNew3 w (.cells #[.slice A s.length cap] 24) (.cells (ndArr n a) 58) (exA e A2 cap2) 63).alloc (.cells ftC0 38)
 have rf1:=rowNewD w (.cells #[.slice A s.length cap] 24) (.cells (ndArr n a) 58) (.cells (exA e A2 cap2) 63) ftC0 38
 have b1:Below w.heap.size w ((((w.alloc (.cells #[.slice A s.length cap] 24)).alloc (.cells (ndArr n a) 58)).alloc (.cells (exA e A2 cap2) 63)).alloc (.cells ftC0 38)):=bE
 have HS:Hid (∀W,Below w.heap.size w W→Nds W w.heap.size A s):=fun W hW=>nds_keep hs (keeps_of hW) (Nat.le_refl _)
 have HN:Hid (∀W,Below w.heap.size w W→NdAt W w.heap.size n a):=fun W hW=>hn.below hW
 have HL:=Lib.hid hl
 refine' zq50
 have hm2':cap2≤9223372036854775807:=by unfold maxLen at hm2;omega
 clear hs hn hl
 go_enter Tryz.func179,Tryz.ntmps179
 go_upto_region 1 with (fail)
 generalize (((w.alloc (.cells #[.slice A s.length cap] 24)).alloc (.cells (ndArr n a) 58)).alloc (.cells (exA e A2 cap2) 63)).alloc (.cells ftC0 38)=W1 at*
 have hs1:=b1.size
 obtain ⟨x0,x1,x2,x3,x4,x5⟩:=re1.ex6
 obtain ⟨c0,c1,cc2,c3,c4,c5,c6⟩:=rn1.nd
 have z0:=rs1.src
 by_cases hnb:namesB e.op=true
 ·have hcs:(e.op==3)=true∨((e.op==3)=false∧(e.op==24)=true)∨((e.op==3)=false∧(e.op==24)=false∧(e.op==25)=true)∨((e.op==3)=false∧(e.op==24)=false∧(e.op==25)=false∧(e.op==26)=true):=by
   rcases names_four hnb with g|g|g|g
   ·exact .inl (eq_yes g)
   ·exact .inr (.inl ⟨eq_no (by omega),eq_yes g⟩)
   ·exact .inr (.inr (.inl ⟨eq_no (by omega),eq_no (by omega),eq_yes g⟩))
   ·exact .inr (.inr (.inr ⟨eq_no (by omega),eq_no (by omega),eq_no (by omega),eq_yes g⟩))
  have HR:=Lib.hid (svar1_any n a e.name W1 ((HN.out W1 b1).more hs1) HL.out)
  by_cases hin:e.name∈nms (vrs n)
  ·have HB:=Lib.hid (cB_true hin)
   have HF:Hid (oneF s n outs e=ft0):=by show _=_;unfold oneF;rw[if_pos hnb,if_neg (fun g=>g hin)]
   clear hnb hin
   rcases hcs with o3|⟨o3,o24⟩|⟨o3,o24,o25⟩|⟨o3,o24,o25,o26⟩
   all_goals
    refine' zq107
    refine' zq60
    have hB2:=b1.trans (hb2.mono hs1)
    have hs2:=hB2.size
    have hl2:=rf2.lt
    have hl2':w.heap.size+1+1+1<w2.heap.size:=hl2
    refine' zq147
    refine' zq9
  ·have HB:=Lib.hid (cB_false hin)
   have HF:Hid (oneF s n outs e=⟨24,e.line,e.col⟩):=by show _=_;unfold oneF;rw[if_pos hnb,if_pos hin]
   clear hnb hin
   rcases hcs with o3|⟨o3,o24⟩|⟨o3,o24,o25⟩|⟨o3,o24,o25,o26⟩
   all_goals
    refine' zq107
    refine' zq60
    have re2:=re1.below hb2 re1.lt
    have hB2:=b1.trans (hb2.mono hs1)
    obtain ⟨y0,y1,y2,y3,y4,y5⟩:=re2.ex6
    refine' zq32
 ·have HNB:=Lib.hid (bool_no hnb)
  obtain ⟨n3,n24,n25,n26⟩:=names_not HNB.out
  have o3:=eq_no n3
  have o24:=eq_no n24
  have o25:=eq_no n25
  have o26:=eq_no n26
  clear n3 n24 n25 n26
  by_cases h4:e.op=4
  ·have HO4:=Lib.hid h4
   have o4:=eq_yes h4
   have HR:=Lib.hid (find_any s s.length A cap e.name W1 rfl h1 h2 (nds_keep (HS.out W1 b1) (fun _ _ _ h=>h) hs1))
   clear h4 hnb
   by_cases hin:e.name∈s.map Nd.name
   ·have HB:=Lib.hid (cB_true hin)
    have HIN:=Lib.hid hin
    clear hin
    go_wp2_with fail
    refine HR.out.mono ?_
    rintro r w2 ⟨⟨m,am,rfl,hm1,hm0⟩,hb2⟩
    rw[HB.out]
    obtain ⟨hat,hma⟩:=hm1.out HIN.out
    have gi:=hma.mi
    have go:=hma.mo
    refine' zq60
    have re2:=re1.below hb2 re1.lt
    have hB2:=b1.trans (hb2.mono hs1)
    have hs2:=hB2.size
    have hl2:=rf2.lt
    have hl2':w.heap.size+1+1+1<w2.heap.size:=hl2
    have HAT:=Lib.hid hat
    clear hat hma x0 x1 x2 x3 x4 x5 c0 c1 cc2 c3 c4 c5 c6 z0
    obtain ⟨y0,y1,y2,y3,y4,y5⟩:=re2.ex6
    refine' zq147
    by_cases q1:m.ins.length=e.args.length
    ·have q1':((m.ins.length:Int) !=(e.args.length:Int))=false:=neq_no (by omega)
     by_cases q2:(m.outs.length:Int)=outs
     ·have q2':((m.outs.length:Int) !=outs)=false:=neq_no q2
      have HF:Hid (oneF s n outs e=ft0):=by
       show _=_
       unfold oneF
       rw[if_neg (by rw[HNB.out];decide),if_pos HO4.out,HAT.out]
       simp only
       rw[if_neg (by rintro (g|g);exact g q1;exact g q2)]
      clear q1 q2
      refine' zq9
     ·have q2':((m.outs.length:Int) !=outs)=true:=neq_yes q2
      have HF:Hid (oneF s n outs e=⟨25,e.line,e.col⟩):=by
       show _=_
       unfold oneF
       rw[if_neg (by rw[HNB.out];decide),if_pos HO4.out,HAT.out]
       simp only
       rw[if_pos (.inr q2)]
      clear q1 q2
      refine' zq32
    ·have q1':((m.ins.length:Int) !=(e.args.length:Int))=true:=neq_yes (by omega)
     have HF:Hid (oneF s n outs e=⟨25,e.line,e.col⟩):=by
      show _=_
      unfold oneF
      rw[if_neg (by rw[HNB.out];decide),if_pos HO4.out,HAT.out]
      simp only
      rw[if_pos (.inl q1)]
     clear q1
     refine' zq32
   ·have HB:=Lib.hid (cB_false hin)
    have HF:Hid (oneF s n outs e=⟨24,e.line,e.col⟩):=by
     show _=_
     unfold oneF
     rw[if_neg (by rw[HNB.out];decide),if_pos HO4.out,nodeAt_none.2 hin]
    clear hin
    go_wp2_with fail
    refine HR.out.mono ?_
    rintro r w2 ⟨⟨m,am,rfl,hm1,hm0⟩,hb2⟩
    rw[HB.out]
    refine' zq60
    have re2:=re1.below hb2 re1.lt
    have hB2:=b1.trans (hb2.mono hs1)
    clear x0 x1 x2 x3 x4 x5
    obtain ⟨y0,y1,y2,y3,y4,y5⟩:=re2.ex6
    refine' zq32
  ·have o4:=eq_no h4
   have HF:Hid (oneF s n outs e=ft0):=by show _=_;unfold oneF;rw[if_neg hnb,if_neg h4]
   clear h4 hnb
   obtain ⟨⟨k0,k1,k2⟩,g0,g1,g2⟩:=rf1.three
   go_wp2_with fail
   exact bodyPost_ret (res1 rfl Tryz.underlying38 rfl (by kernel_rfl) rfl (rf1.set3 _ _ _)) rfl ⟨(congrArg (fun f=>Ending.returned (ftV f)) HF.out).symm,below_set3 b1 (by first|omega|(simp;omega)|simp) _ _ _⟩
end Go.Proofs.YtdkgkacnjdnpoaaGreat
