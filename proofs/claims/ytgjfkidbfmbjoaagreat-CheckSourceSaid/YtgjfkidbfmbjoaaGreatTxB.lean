/-
  The contracts of tompionref01.Ints, check.kinds and tompionref21.Types. The contracts of check.Ports and tompionref21.Main. Sources of examples have no fault: what suffices for calls, clocks and causes; the source of the check chapter's example. Plain. The source of the check chapter's example has no fault. Plain.
-/
import Derived.Test.YtgjfkidbfmbjoaaGreatZz
import Derived.Test.YtgjfkidbfmbjoaaGreatScnF
import Derived.Test.YtgjfkidbfmbjoaaGreatTyC
import Derived.Laws.StructEq
import Derived.Deep.DrawnRows
import Derived.Deep.QuietTactic
import Derived.Test.YtgjfkidbfmbjoaaGreatChS
import Derived.Test.YtgjfkidbfmbjoaaGreatRfK
import Derived.Test.YtgjfkidbfmbjoaaGreatPrsM
import Derived.Test.YtgjfkidbfmbjoaaGreatScnD
import Derived.Test.YtgjfkidbfmbjoaaGreatCauC
import Derived.Test.YtgjfkidbfmbjoaaGreatWnS
import Derived.Test.YtgjfkidbfmbjoaaGreatTyP
import Derived.Test.YtgjfkidbfmbjoaaGreatOnsC
import Derived.Test.YtgjfkidbfmbjoaaGreatFewM
set_option maxHeartbeats 2000000
set_option maxRecDepth 100000
namespace Go.Proofs.YtgjfkidbfmbjoaaGreat
open Go.RowKit
attribute [local go_sem ↓] Go.wp_at_zero Go.wp_at_succ
theorem ilist_eq {l m:List Int} (hl:l.length=m.length) (h:∀j,j<l.length→∀x y,l[j]? =some x→m[j]? =some y→x=y):l=m:=by
 apply List.ext_getElem hl
 intro i h1 h2
 exact h i h1 _ _ (List.getElem?_eq_getElem h1) (List.getElem?_eq_getElem h2)
theorem rints_any (l m:List Int) (v1 v2:Value) (B:Nat) (w:World) (h1:SlV w B 1 isInt v1 l) (h2:SlV w B 1 isInt v2 m):
  Calls Tryz.prog 21 #[v1,v2] w fun e w'=>e= .returned (.bool (cB (l=m)))∧∃n,w'=w.drewN n:=by
 obtain ⟨A1,c1,rfl,l1,m1,s1⟩:=h1
 obtain ⟨A2,c2,rfl,l2,m2,s2⟩:=h2
 refine' zq189
 by_cases hl:l.length=m.length
 rotate_left 1
 ·refine' zq176
  go_enter Tryz.func21,Tryz.ntmps21
  go_wp2_with fail
  go_ret
  exact ⟨ret_bool HF.out.symm,0,rfl⟩
 refine' zq160
 go_enter Tryz.func21,Tryz.ntmps21
 go_wp2_with fail
 go_loopw[5] (fun i wr=>∃k:Nat,k≤l.length∧i= .int .i64 k∧Hid (∀j,j<k→∀x y,l[j]? =some x→m[j]? =some y→x=y)∧∃n,wr=w.drewN n) (fun i _=>l.length-(intOf i).toNat)
 case atStart=>exact ⟨0,Nat.zero_le _,rfl,fun j h=>absurd h (by omega),0,rfl⟩
 case round=>
  obtain ⟨k,hk,rfl,HN,n,rfl⟩:=hrel
  by_cases hlt:k<l.length
  ·obtain ⟨b1,o1,x,rfl,hb1,hx,wx,d1⟩:=s1.int hlt
   obtain ⟨b2,o2,y,rfl,hb2,hy,wy,d2⟩:=s2.int (show k<m.length by omega)
   have HX:=Lib.hid hx
   have HY:=Lib.hid hy
   clear hx hy
   have hk1:(k:Int)<l.length:=by omega
   have hk2:(k:Int)<m.length:=by omega
   have hk0:(0:Int)≤(k:Int):=by omega
   go_wp2_with fail
   go_quiet (fail)
   by_cases e:x=y
   ·have e':(x !=y)=false:=by simp[e]
    have HN':=Lib.hid (upto_succ HN.out (fun x' y' hx' hy'=>by rw[HX.out] at hx';rw[HY.out] at hy';injection hx' with hx';injection hy' with hy';rw[←hx',←hy'];exact e))
    clear e
    refine' zq243
   ·have e':(x !=y)=true:=by simp[e]
    have HF:=Lib.hid (cB_false (fun g:l=m=>e (by have:=HX.out;rw[g,HY.out] at this;injection this with this;exact this.symm)))
    clear e
    refine' zq62
  ·obtain rfl:k=l.length:=by omega
   have HF:=Lib.hid (cB_true (ilist_eq HL.out HN.out))
   refine' zq62
theorem ints_sl {base:Nat} {w:World} {v:Value} {l:List Int} (h:IntsO base w v l) (hw:∀x∈l,Wf x):SlV w w.heap.size 1 isInt v l:=by
 have e:intsV l=(l.map fun x=> [Value.int .i64 x]).flatten:=by
  clear h hw
  unfold intsV
  induction l with
  |nil=>rfl
  |cons x l ih=>rw[List.map_cons,List.map_cons,List.flatten_cons,ih];rfl
 unfold IntsO at h
 rw[e] at h
 refine (own_sl h ⟨by simp,fun k x cs h1 h2=>?_⟩ (fun cs hcs=>by obtain ⟨x,_,rfl⟩:=List.mem_map.1 hcs;rfl) (by decide)).1
 rw[List.getElem?_map,h1] at h2
 cases h2
 exact ⟨rfl,hw x (List.mem_of_getElem? h1)⟩
def tysOf (l:List Vr):List Int:=l.map Vr.ty
theorem tys_take {l:List Vr} {k:Nat} {x:Vr} (h:l[k]? =some x):tysOf (l.take (k+1))=tysOf (l.take k)++ [x.ty]:=by
 unfold tysOf
 rw[List.take_add_one,h];simp
theorem kinds_any (l:List Vr) (A:Option Addr) (cap:Nat) (w:World) (h2:cap≤maxLen) (hl:l.length≤50) (h:Sl w w.heap.size 5 (isVr w w.heap.size) A l):
  Calls Tryz.prog 54 #[.slice A l.length cap] w fun r w'=>(∃v,r= .returned v∧IntsO w.heap.size w' v (tysOf l))∧Below w.heap.size w w':=by
 refine' zq206
 go_enter Tryz.func54,Tryz.ntmps54
 go_wp2_with fail
 go_loopw[3,8] (fun v i wr=>∃(k:Nat) (v0:Value),k≤l.length∧i= .int .i64 k∧v0=v∧wr.ownsRow w.heap.size 3 1 v0 k (intsV (tysOf (l.take k)))∧Below w.heap.size w wr) (fun _ i _=>l.length-(intOf i).toNat)
 case atStart=>exact ⟨0,_,Nat.zero_le _,rfl,rfl,World.ownsRow_nil _ _ _ _,Below.refl _ _⟩
 case round=>
  obtain ⟨k,v,hk,rfl,rfl,hown,hbr⟩:=hrel
  have hszr:=hbr.size
  by_cases hlt:k<l.length
  ·obtain ⟨b,off,x,A',cap',hA,hb,hxk,ok,g1,g2,hxs,d0,d1,d2,d3,d4⟩:=(HV.out wr hbr).vr hlt
   rw[hA]
   have HTK:=Lib.hid (tys_take hxk)
   have bx:Below wr.heap.size wr (wr.alloc (.cells (vrArr x A' cap') 89)):=bE
   refine' zq196
   go_upto_region 5 with (fail)
   refine' zq254
   go_wp2_with (at_builtin;refine wpList_append_own _ rfl _ _ 33 rfl w.heap.size 3 i0 (.int .i64 0) 1 8 Tryz.underlying33 hi0 hz0 hz1 hz2 rfl (by decide) _ _ _ rfl (ho2.alloc _) ⟨w5.heap.size,0,none⟩ 1 1 [.int .i64 x.ty] rfl rfl ?c1 ?c2 ?c3 ?c4 ?c5 ?_)
   case c1=>exact cell_one _ _ _
   case c2=>simp[Value.oneCell']
   case c3=>unfold maxLen;omega
   case c4=>omega
   case c5=>simp;omega
   intro v' w6 hown6 hg6 _
   have hb6:Below w.heap.size w w6:=below_own (hb5.alloc (by omega) _) (ho2.alloc _) hg6 (by simp;omega)
   have hown7:w6.ownsRow w.heap.size 3 1 v' (k+1) (intsV (tysOf (l.take (k+1)))):=by rw[HTK.out,intsV_snoc];exact hown6
   clear hown ho2 hown6 hg6 z0 z1 z2 z3 z4
   refine' zq171
  ·refine' zq179
theorem rtypes_any (l:List Vr) (A:Option Addr) (cap:Nat) (w:World) (h2:cap≤maxLen) (hl:l.length≤50) (h:Sl w w.heap.size 5 (isVr w w.heap.size) A l):
  Calls Tryz.prog 22 #[.slice A l.length cap] w fun r w'=>(∃v,r= .returned v∧IntsO w.heap.size w' v (tysOf l))∧Below w.heap.size w w':=by
 refine' zq206
 go_enter Tryz.func22,Tryz.ntmps22
 go_wp2_with fail
 go_loopw[3,4] (fun v i wr=>∃(k:Nat) (v0:Value),k≤l.length∧i= .int .i64 k∧v0=v∧wr.ownsRow w.heap.size 3 1 v0 k (intsV (tysOf (l.take k)))∧Below w.heap.size w wr) (fun _ i _=>l.length-(intOf i).toNat)
 case atStart=>exact ⟨0,_,Nat.zero_le _,rfl,rfl,World.ownsRow_nil _ _ _ _,Below.refl _ _⟩
 case round=>
  obtain ⟨k,v,hk,rfl,rfl,hown,hbr⟩:=hrel
  have hszr:=hbr.size
  by_cases hlt:k<l.length
  ·obtain ⟨b,off,x,A',cap',hA,hb,hxk,ok,g1,g2,hxs,d0,d1,d2,d3,d4⟩:=(HV.out wr hbr).vr hlt
   rw[hA]
   have HTK:=Lib.hid (tys_take hxk)
   have hk0:(0:Int)≤(k:Int):=by omega
   have hk1:(k:Int)<l.length:=by omega
   clear hA hxk ok hxs
   go_wp2_with (at_builtin;refine wpList_append_own _ rfl _ _ 33 rfl w.heap.size 3 i0 (.int .i64 0) 1 8 Tryz.underlying33 hi0 hz0 hz1 hz2 rfl (by decide) _ _ _ rfl (hown.alloc _) ⟨wr.heap.size,0,none⟩ 1 1 [.int .i64 x.ty] rfl rfl ?c1 ?c2 ?c3 ?c4 ?c5 ?_)
   case c1=>exact cell_one _ _ _
   case c2=>simp[Value.oneCell']
   case c3=>unfold maxLen;omega
   case c4=>omega
   case c5=>simp;omega
   intro v' w6 hown6 hg6 _
   have hb6:Below w.heap.size w w6:=below_own (hbr.alloc (by omega) _) (hown.alloc _) hg6 (by simp;omega)
   have hown7:w6.ownsRow w.heap.size 3 1 v' (k+1) (intsV (tysOf (l.take (k+1)))):=by rw[HTK.out,intsV_snoc];exact hown6
   clear hown hown6 hg6 d0 d1 d2 d3 d4
   refine' zq171
  ·refine' zq179
theorem field_flt (f:Ft) (W:World):(Instr.field 31 (.agg #[.int .i64 f.err,.int .i64 f.line,.int .i64 f.col]) 0).run Tryz.prog W= .ok (.int .i64 f.err) W:=by kernel_rfl
attribute [local go_sem] field_flt
theorem res3t {P:Program} {fn:Func} {p q s:Tmp} (h:fn.results= #[.tmp p,.tmp q,.tmp s]) {tmps:Array Value} {w:World} {u v x:Value} (hp:tmps.getD p undef=u) (hq:tmps.getD q undef=v) (hs:tmps.getD s undef=x):(results fn tmps).run P w= .ok (.tuple #[u,v,x]) w:=by
 have hp':tmps[p]?.getD undef=u:=by simpa using hp
 have hq':tmps[q]?.getD undef=v:=by simpa using hq
 have hs':tmps[s]?.getD undef=x:=by simpa using hs
 simp[results,h,hp',hq',hs']
theorem check_scope {s:List Nd} (h:(checkF s).err=0):(scopeF s).err=0:=fstl_ok h _ (by simp)
theorem check_main {s:List Nd} (h:(checkF s).err=0):mainNm∈s.map Nd.name:=by
 have h1:=check_scope h
 rw[scopeF_rt (scope_rt h1)] at h1
 refine Classical.byContradiction fun g=>?_
 have h2:=(ft2_ok (ft2_ok h1).2).2
 unfold mainF at h2
 rw[if_pos g] at h2
 exact absurd h2 (by show ¬(27:Int)=0;decide)
def PortsR (s:List Nd) (w:World) (r:Ending) (w':World):Prop:=
 (∃v1 v2 b,r= .returned (.tuple #[v1,v2,.bool b])∧Hid (b=decide ((checkF s).err=0))∧Hid (b=false→v1= .slice none 0 0∧v2= .slice none 0 0)∧
  Hid (b=true→∃n,nodeAt s mainNm=some n∧SlV w' w'.heap.size 1 isInt v1 (tysOf n.ins)∧SlV w' w'.heap.size 1 isInt v2 (tysOf n.outs)))∧Below w.heap.size w w'
theorem tys_wf {w:World} {B:Nat} {A:Option Addr} {l:List Vr} (h:Sl w B 5 (isVr w B) A l):∀x∈tysOf l,Wf x:=by
 intro x hx
 obtain ⟨v,hv,rfl⟩:=List.mem_map.1 hx
 obtain ⟨k,hk⟩:=List.getElem?_of_mem hv
 obtain ⟨_,_,y,_,_,_,_,hy,ok,_⟩:=h.vr (List.getElem?_eq_some_iff.1 hk).1
 rw[hk] at hy;cases hy
 exact ok.ty
theorem ints_up {w w':World} {v:Value} {l:List Int} {B:Nat} (h:SlV w B 1 isInt v l) (hb:Below B w w') (hB:B≤w'.heap.size):SlV w' w'.heap.size 1 isInt v l:=SlV.keep h (keeps_of hb) hB (fun _ _ _ h=>h)
theorem ports_chk (s:List Nd) (A:Option Addr) (cap:Nat) (w:World) (sm:SrcSm s) (h1:s.length≤cap) (h2:cap≤maxLen) (h:Nds w w.heap.size A s):
  Calls Tryz.prog 18 #[srcV s A cap] w (PortsR s w):=by
 refine' zq159
 refine' zq218
 obtain ⟨f,HF⟩:∃f,Hid (checkF s=f):=⟨_,rfl⟩
 have HC:Hid (∀W,Below w.heap.size w W→Calls Tryz.prog 19 #[srcV s A cap] W fun r w'=>r= .returned (ftV f)∧Below W.heap.size W w'):=fun W hW=>by rw[←HF.out];exact csource_any s A cap W sm h1 h2 (HS.out W hW)
 have HD:Hid (∀W,Below w.heap.size w W→Calls Tryz.prog 53 #[srcV s A cap,.string mainNm] W (FindRes s mainNm W)):=fun W hW=>find_any s s.length A cap mainNm W rfl h1 h2 (HS.out W hW)
 have HSM:=Lib.hid sm
 clear h sm
 go_enter Tryz.func18,Tryz.ntmps18
 refine' zq103
 have c0:=rs1.src
 go_wp2_with fail
 refine (HC.out _ b1).mono ?_
 rintro r w2 ⟨rfl,hb2⟩
 have rs2:=rs1.below hb2 rs1.lt
 refine' zq153
 clear c0 rs1 b1 hb2 hs1
 by_cases he:f.err=0
 rotate_left 1
 ·have e1:(f.err !=0)=true:=neq_yes he
  have HE:Hid (false=decide ((checkF s).err=0)):=by show _=_;rw[HF.out,decide_eq_false he]
  clear he
  go_wp2_with fail
  refine bodyPost_ret (res3t rfl rfl rfl rfl) rfl ?_
  exact ⟨⟨_,_,false,rfl,HE,(fun _=>⟨rfl,rfl⟩),(fun g=>by cases g)⟩,hB2⟩
 have e1:(f.err !=0)=false:=neq_no he
 have HE:Hid (true=decide ((checkF s).err=0)):=by show _=_;rw[HF.out,decide_eq_true he]
 have HM:Hid (mainNm∈s.map Nd.name):=check_main (by rw[HF.out];exact he)
 clear he
 have c0:=rs2.src
 go_wp2_with fail
 refine (HD.out _ hB2).mono ?_
 rintro r w3 ⟨⟨n,a,rfl,HN,-⟩,hb3⟩
 obtain ⟨HNA,hat⟩:=HN.out HM.out
 have HNA':=Lib.hid HNA
 have HNS:Hid (NdSm n):=HSM.out.all n (List.mem_of_find?_eq_some HNA)
 have HMC:Hid (cB (mainNm∈s.map Nd.name)=true):=cB_true HM.out
 rw[HMC.out]
 have hB3:=hB2.trans (hb3.mono hs2)
 have hs3:=hb3.size
 have rn:=Row.new w3 (ndArr n a) 39
 have ba:Below w3.heap.size w3 (w3.alloc (.cells (ndArr n a) 39)):=bE
 have hsa:=ba.size
 have HAT:Hid (∀W,Below w3.heap.size w3 W→NdAt W W.heap.size n a):=fun W hW=>(hat.below (hW.mono hs3)).more (Nat.le_trans hs3 hW.size)
 clear HN hat HNA c0 hb3
 go_upto_region 4 with (fail)
 change Code.wp _ _ _ _ (w3.alloc (.cells (ndArr n a) 39))
 have HB4:=Lib.hid (hB3.trans (ba.mono (Nat.le_trans hs2 hs3)))
 generalize hW4:w3.alloc (.cells (ndArr n a) 39)=w4 at*
 clear hW4
 obtain ⟨d0,d1,d2,d3,d4,d5,d6⟩:=rn.nd
 have HK1:Hid (∀W,Below w4.heap.size w4 W→Calls Tryz.prog 54 #[.slice a.ai n.ins.length a.ci] W fun r w'=>(∃v,r= .returned v∧SlV w' w'.heap.size 1 isInt v (tysOf n.ins))∧Below W.heap.size W w'):=fun W hW=>by
  have g:=HAT.out W (ba.trans (hW.mono hsa))
  refine (kinds_any n.ins a.ai a.ci W g.mi HNS.out.ins g.si).mono ?_
  rintro r w' ⟨⟨v,rfl,hv⟩,hb⟩
  exact ⟨⟨v,rfl,ints_sl hv (tys_wf g.si)⟩,hb⟩
 have HK2:Hid (∀W,Below w4.heap.size w4 W→Calls Tryz.prog 54 #[.slice a.ao n.outs.length a.co] W fun r w'=>(∃v,r= .returned v∧SlV w' w'.heap.size 1 isInt v (tysOf n.outs))∧Below W.heap.size W w'):=fun W hW=>by
  have g:=HAT.out W (ba.trans (hW.mono hsa))
  refine (kinds_any n.outs a.ao a.co W g.mo HNS.out.outs g.so).mono ?_
  rintro r w' ⟨⟨v,rfl,hv⟩,hb⟩
  exact ⟨⟨v,rfl,ints_sl hv (tys_wf g.so)⟩,hb⟩
 have HKK:Hid (∀W,Below w4.heap.size w4 W→W.cell? ⟨w3.heap.size,1,none⟩=some (.slice a.ai n.ins.length a.ci)∧W.cell? ⟨w3.heap.size,2,none⟩=some (.slice a.ao n.outs.length a.co)):=fun W hW=>by
  have g:=(rn.below hW rn.lt).nd
  exact ⟨g.2.1,g.2.2.1⟩
 have HB4s:=HB4.out.size
 clear d0 d3 d4 d5 d6
 go_region_held3 (fun W=>W.cell? ⟨w3.heap.size,1,none⟩=some (.slice a.ai n.ins.length a.ci)∧W.cell? ⟨w3.heap.size,2,none⟩=some (.slice a.ao n.outs.length a.co)) (first|(with_reducible exact HKK.out _ bE)|go_keep)
  (first
   |((go_at_call 54);(with_reducible refine (HK1.out _ ?hbb).mono ?_);(case hbb=>exact bE);rintro e wi ⟨⟨vi,rfl,hvi⟩,hbi'⟩;(have hbi:Below w4.heap.size w4 wi:=Below.trans bE (hbi'.mono lE));(have hsi:=hbi.size))
   |((go_at_call 54);(with_reducible refine (HK2.out _ ?hbb).mono ?_);(case hbb=>exact bE);rintro e wo ⟨⟨vo,rfl,hvo⟩,hbo'⟩;(have hbo:Below w4.heap.size w4 wo:=Below.trans bE (hbo'.mono lE));(have hso:=hbo.size)))
 all_goals
  go_wp2_with fail
  refine bodyPost_ret (res3t rfl rfl rfl rfl) rfl ?_
  refine ⟨⟨vi,vo,true,rfl,HE,(fun g=>by cases g),(fun _=>⟨n,HNA'.out,?_,?_⟩)⟩,?_⟩
  ·first|exact hvi|exact ints_up hvi hbo' hbo'.size|exact ints_up (w:=wi.drew) hvi hbo' hbo'.size
  ·first|exact hvo|exact ints_up hvo hbi' hbi'.size|exact ints_up (w:=wo.drew) hvo hbi' hbi'.size
  ·first|exact HB4.out.trans (hbo.mono HB4s)|exact HB4.out.trans (hbi.mono HB4s)|exact (HB4.out.trans (hbo.mono HB4s)).drew|exact (HB4.out.trans (hbi.mono HB4s)).drew
theorem rmain_any (s:List Nd) (A:Option Addr) (cap:Nat) (w:World) (n:Nd) (k:Nat) (hk:nodeIdx s mainNm=k) (hn:s[k]? =some n) (h1:s.length≤cap) (h2:cap≤maxLen) (h:Nds w w.heap.size A s):
  Calls Tryz.prog 20 #[srcV s A cap] w fun r w'=>(∃a,r= .returned (ndV n a)∧NdAt w' w.heap.size n a)∧Below w.heap.size w w':=by
 have hlt:=(List.getElem?_eq_some_iff.1 hn).1
 obtain ⟨b,off,-,-,rfl,-⟩:=h.nd hlt
 have HS:Hid (∀W,Below w.heap.size w W→Nds W W.heap.size (some ⟨b,off,none⟩) s):=fun W hW=>nds_keep h (keeps_of hW) hW.size
 have HN:Hid (∀W,Below w.heap.size w W→∃a,NdAt W w.heap.size n a∧W.cell? ⟨b,off+k*7,none⟩=some (.string n.name)∧W.cell? ⟨b,off+k*7+1,none⟩=some (.slice a.ai n.ins.length a.ci)∧W.cell? ⟨b,off+k*7+2,none⟩=some (.slice a.ao n.outs.length a.co)∧
   W.cell? ⟨b,off+k*7+3,none⟩=some (.slice a.av n.vars.length a.cv)∧W.cell? ⟨b,off+k*7+4,none⟩=some (.slice a.aq n.eqs.length a.cq)∧W.cell? ⟨b,off+k*7+5,none⟩=some (.int .i64 n.line)∧W.cell? ⟨b,off+k*7+6,none⟩=some (.int .i64 n.col)):=fun W hW=>by
  obtain ⟨b2,off2,n2,a2,hA2,_,hn2,hat,d⟩:=(nds_keep h (keeps_of hW) (Nat.le_refl _):Nds W w.heap.size (some ⟨b,off,none⟩) s).nd hlt
  cases hA2
  rw[hn] at hn2
  cases hn2
  exact ⟨a2,hat,d⟩
 have HC:Hid (∀W,Below w.heap.size w W→Calls Tryz.prog 61 #[srcV s (some ⟨b,off,none⟩) cap,.string mainNm] W fun r w'=>r= .returned (.int .i64 k)∧Below W.heap.size W w'):=fun W hW=>by rw[←hk];exact rnode_any s _ cap mainNm W h1 h2 (HS.out W hW)
 have b1:Below w.heap.size w ((w.alloc (.cells #[.slice (some ⟨b,off,none⟩) s.length cap] 24)).alloc (.cells ndZ 39)):=bE
 have rs1:=(Row.new w #[.slice (some ⟨b,off,none⟩) s.length cap] 24).alloc (.cells ndZ 39)
 have rr1:=rowNew2 w (.cells #[.slice (some ⟨b,off,none⟩) s.length cap] 24) ndZ 39
 refine' zq69
 refine' zq30
 clear h hn hk
 go_enter Tryz.func20,Tryz.ntmps20
 go_upto_region 1 with (fail)
 change Code.wp _ _ _ _ ((w.alloc (.cells #[.slice (some ⟨b,off,none⟩) s.length cap] 24)).alloc (.cells ndZ 39))
 generalize (w.alloc (.cells #[.slice (some ⟨b,off,none⟩) s.length cap] 24)).alloc (.cells ndZ 39)=W1 at*
 have hs1:=b1.size
 have c0:=rs1.src
 have HK:Hid (∀W,Below W1.heap.size W1 W→W.cell? ⟨w.heap.size,0,none⟩=some (.slice (some ⟨b,off,none⟩) s.length cap)):=fun W hW=>(rs1.below hW rs1.lt).src
 refine wp_region_L 6 (S:=fun W=>W.cell? ⟨w.heap.size,0,none⟩=some (.slice (some ⟨b,off,none⟩) s.length cap)) (by kernel_rfl) ?_ (fun hHeld=>?_)
 ·(try dsimp only);(first|(with_reducible exact HK.out _ bE)|exact hHeld)
 refine tkL 0 (some 3) rfl ?_
 refine tkL 1 (some 4) rfl ?_
 refine tkL 2 (some 5) rfl ?_
 refine rdL 3 (some 6) rfl (fun KK hKK=>?_)
 go_simp
 ((go_at_call 61);(refine Calls.mono (HC.out _ (b1.trans (Below.mono bE hs1))) ?_);rintro e w3 ⟨rfl,hb3⟩;(have hb4:Below W1.heap.size W1 w3:=Below.trans bE (hb3.mono lE));(have hs4:=hb4.size);(have rr3:=rr1.below hb4 rr1.lt);(obtain ⟨a,hat,d0,d1,d2,d3,d4,d5,d6⟩:=HN.out w3 (b1.trans (hb4.mono hs1)));(obtain ⟨⟨k0,k1,k2,k3,k4,k5,k6⟩,g0,g1,g2,g3,g4,g5,g6⟩:=Row.seven rr3))
 (try go_wp2_with fail)
 refine' zq175
 refine rdL 4 (some 7) rfl (fun KK hKK=>?_)
 go_simp
 refine' zq175
 refine rdL 5 (some 8) rfl (fun KK hKK=>?_)
 go_simp
 refine' zq175
 refine rdE none rfl (fun KK hKK=>?_)
 go_simp
 refine hKK.out _ _ ?_
 clear hKK KK
 refine' zq6
 refine wpAnyL_done (by kernel_rfl) ?_ _
 have hsw:w.heap.size≤w3.heap.size:=Nat.le_trans hs1 hs4
 have hB3:=b1.trans (hb4.mono hs1)
 have hBW:Below w.heap.size w3 w3:=Below.refl _ _
 have hHA:=Lib.hid hat
 have hRR:=Lib.hid rr3
 clear hat rr3
 go_wp2_with fail
 refine bodyPost_ret (res1 rfl Tryz.underlying39 rfl (by kernel_rfl) rfl (hRR.out.set7 _ _ _ _ _ _ _)) rfl ?_
 exact ⟨⟨a,rfl,hHA.out.below bE⟩,hB3.trans bE⟩
open Nm
theorem hg_rank {U:ByteArray→List ByteArray} {r:ByteArray→Nat} (h:∀x y,y∈U x→r y<r x) {a b:ByteArray} (g:Hg U a b):r b<r a:=by
 induction g with
 |one h1=>exact h _ _ h1
 |more _ h2 ih=>exact Nat.lt_trans (h _ _ h2) ih
open Classical in
theorem calls_free {s:List Nd} (hs:scopeF s=ft0) (h:∀n∈s,∀y∈usesF n,usesAt s y=[]):callsF s=ft0:=by
 have hr:∀x y,y∈usesAt s x→(if usesAt s y=[] then 0 else 1)<(if usesAt s x=[] then 0 else 1):=fun x y hy=>by
  have hx:usesAt s x≠[]:=fun g=>by rw[g] at hy;exact absurd hy List.not_mem_nil
  have hy0:usesAt s y=[]:=by
   unfold usesAt at hy
   cases hm:nodeAt s x with
   |none=>rw[hm] at hy;exact absurd hy List.not_mem_nil
   |some m=>rw[hm] at hy;exact h m (List.mem_of_find?_eq_some hm) y hy
  rw[if_pos hy0,if_neg hx];decide
 unfold callsF
 rw[ft2_0 (by rw[hs])]
 refine fstL_end fun j _ n _=>?_
 unfold calF
 rw[if_neg (fun g=>Nat.lt_irrefl _ (hg_rank hr g))]
def NoClk (n:Nd):Prop:=∀v∈vrs n,v.clock=[]
theorem clock_nil {n:Nd} (h:NoClk n) (nm:ByteArray):clockOf n nm=[]:=by
 rcases var_cases n nm with ⟨k,x,h1,h2,_⟩|h1
 ·rw[clock_at h1 h2];exact h x (List.mem_of_getElem? h2)
 ·exact clock_no h1
theorem fits_free {n:Nd} (h:NoClk n):∀e:Ex,(∀x∈exList e,x.op≠24∧x.op≠25∧x.op≠26)→fitsP n e []=ft0:=by
 refine Ex.ind fun e ih he=>?_
 have h0:=he e (exList_self e)
 have hb:¬badClock n e []:=by
  unfold badClock
  rintro (⟨_,g⟩|⟨g,_⟩)
  ·exact g (clock_nil h _)
  ·omega
 have hl:∀(l:List Ex) (i:Nat),(∀x∈l,x∈e.args)→fitsL e [] (l.map (fitsP n)) i=ft0:=fun l=>by
  induction l with
  |nil=>intro i _;rfl
  |cons x l ihl=>
   intro i hx
   have hp:partClock e [] i=[]:=by unfold partClock;rw[if_neg (by omega),if_neg (by omega)]
   have hxe:=hx x (by simp)
   have hf:fitsP n x []=ft0:=ih x hxe fun y hy=>he y (exList_sub hxe hy)
   rw[List.map_cons]
   show (if (fitsP n x (partClock e [] i)).err≠0 then _ else _)=ft0
   rw[hp,hf,if_neg (by intro g;exact g rfl)]
   exact ihl (i+1) fun y hy=>hx y (by simp[hy])
 rw[fitsP_ok hb]
 exact hl e.args 0 fun x hx=>hx
theorem clock_free {s:List Nd} (hs:scopeF s=ft0) (h:∀n∈s,NoClk n∧n.vars=[]∧∀q∈n.eqs,∀x∈exList q.right,x.op≠24∧x.op≠25∧x.op≠26):clockF s=ft0:=by
 unfold clockF
 rw[ft2_0 (by rw[hs])]
 refine fstL_end fun j _ n hn=>?_
 obtain ⟨h1,h2,h3⟩:=h n (List.mem_of_getElem? hn)
 unfold clkNF
 rw[h2]
 have:fstL (clkQF n) n.eqs=ft0:=by
  refine fstL_end fun i _ q hq=>?_
  have hq0:clkQF n i q=fitsP n q.right (eqClk n q):=clkQF_ok fun nm _=>by unfold eqClk;rw[clock_nil h1,clock_nil h1]
  rw[hq0]
  unfold eqClk
  rw[clock_nil h1,fits_free h1 _ (h3 q (List.mem_of_getElem? hq))]
 rw[this]
 rfl
open Classical in
theorem cause_free {s:List Nd} (hs:scopeF s=ft0) (h:∀n∈s,NoClk n∧∀q∈n.eqs,∀y∈wantsL q.right,y∉lefts n.eqs):causeF s=ft0:=by
 unfold causeF
 rw[ft2_0 (by rw[hs])]
 refine fstL_end fun j _ n hn=>?_
 obtain ⟨h1,h2⟩:=h n (List.mem_of_getElem? hn)
 have hr:∀x y,y∈hangsF n x→(if y∈lefts n.eqs then 1 else 0)<(if x∈lefts n.eqs then 1 else 0):=fun x y hy=>by
  rw[hangsF_mem] at hy
  unfold hangsL at hy
  cases hf:n.eqs.find? (fun q=>cB (x∈q.left)) with
  |none=>rw[hf] at hy;exact absurd hy List.not_mem_nil
  |some q=>
   rw[hf] at hy
   dsimp only at hy
   rw[clock_nil h1,List.map_nil,List.append_nil] at hy
   have hq:=List.mem_of_find?_eq_some hf
   have hx:x∈q.left:=by
    have:=List.find?_some hf
    exact Classical.byContradiction fun g=>by rw[cB_false g] at this;cases this
   have hxl:x∈lefts n.eqs:=List.mem_flatten.2 ⟨q.left,List.mem_map.2 ⟨q,hq,rfl⟩,hx⟩
   rw[if_neg (h2 q hq y hy),if_pos hxl];decide
 have h0:cauNF j n=ft0:=by
  unfold cauNF
  refine fstL_end fun i _ q _=>?_
  have hq0:cauQF n i q=ft0:=by
   unfold cauQF
   refine fstL_end fun k _ nm _=>?_
   unfold cauF
   rw[if_neg (fun g=>Nat.lt_irrefl _ (hg_rank hr g))]
  rw[hq0]
 rw[h0]
abbrev exT:Ex:=⟨3,⟨#[97]⟩,0,[],1,45⟩
abbrev ndT:Nd:=⟨⟨#[109,97,105,110]⟩,[⟨⟨#[97]⟩,1,[],1,11⟩],[⟨⟨#[98]⟩,1,[],1,28⟩],[],[⟨[⟨#[98]⟩],exT,1,41⟩],1,6⟩
theorem srA_eq:srA=[ndT]:=rfl
theorem exT_list:exList exT=[exT]:=by rw[exList_eq];rfl
theorem exT_rt:exRight exT=true:=by
 unfold exRight
 rw[exT_list]
 simp[plainB,plainK,Ex.op,Ex.args,Ex.name,Ex.n,partsZ,namesB,ByteArray.toList_eq,exHeight,Ex.para_eq,maxL]
 decide
theorem srA_rt:SrcRt srA:=by
 have h1:nameB [98]=true:=by decide
 have h2:nameB [97]=true:=by decide
 have h3:nameB [109,97,105,110]=true:=by decide
 rw[srA_eq]
 unfold SrcRt NdRt EqnRt VrsRt VrRt
 simp[ByteArray.toList_eq,h1,h2,h3,exT_rt]
theorem srA_scope:scopeF srA=ft0:=by
 unfold scopeF
 rw[if_neg (fun g=>g srA_rt),srA_eq]
 simp[fstL,fstl,ft2,nameF,nodeF,variablesF,varF,equationsF,eqnF,leftF,leftNF,countF,exprF,oneF,defF,mainF,metTo,lefts,nms,vrs,mainNm,namesB,ft0,Ex.op,Ex.args,Ex.name]
theorem srA_ty:tyR srA ndT exT=(ft0,1):=by
 have h1:tyOf ndT ⟨#[97]⟩=1:=by kernel_rfl
 rw[tyR_eq]
 simp[tyStep,opF,opTy,fstl,ft2,Ex.op,Ex.args,Ex.name,signB,h1,ft0]
theorem srA_types:typesF srA=ft0:=by
 unfold typesF
 rw[srA_scope]
 have h1:tyOf ndT ⟨#[98]⟩=1:=by kernel_rfl
 have h:nodeTF srA ndT=ft0:=by
  simp[nodeTF,eqnTF,leftTs,comeOf,tyF,tyK,srA_ty,Ex.op,h1,fstl,ft2,needF,ft0]
 rw[srA_eq] at h⊢
 simp[fstL,fstl,ft2,h,ft0]
theorem srA_calls:callsF srA=ft0:=by
 refine calls_free srA_scope fun n hn y hy=>?_
 rw[srA_eq,List.mem_singleton] at hn
 subst hn
 exfalso
 unfold usesF at hy
 rw[insAll_mem] at hy
 simp[callTo,callsOf,exT_list,cB_false,Ex.op] at hy
theorem srA_noclk:NoClk ndT:=by
 intro v hv
 simp[vrs] at hv
 rcases hv with rfl|rfl<;>rfl
theorem srA_clock:clockF srA=ft0:=by
 refine clock_free srA_scope fun n hn=>?_
 rw[srA_eq,List.mem_singleton] at hn
 subst hn
 refine ⟨srA_noclk,rfl,fun q hq x hx=>?_⟩
 simp at hq
 subst hq
 dsimp only at hx
 rw[exT_list,List.mem_singleton] at hx
 subst hx
 simp[Ex.op]
theorem srA_ons:onsF srA=ft0:=by
 unfold onsF
 rw[srA_scope]
 have h:lateR exT=(false,⟨0,0,0⟩):=by rw[lateR_eq];simp[lateC,lateEnd,Ex.op,Ex.args]
 rw[srA_eq]
 simp[fstL,fstl,ft2,onsN,onsQ,h,ft0]
theorem srA_cause:causeF srA=ft0:=by
 refine cause_free srA_scope fun n hn=>?_
 rw[srA_eq,List.mem_singleton] at hn
 subst hn
 refine ⟨srA_noclk,fun q hq y hy=>?_⟩
 simp at hq
 subst hq
 have h:wantsL exT=[⟨#[97]⟩]:=by unfold wantsL;rw[Ex.para_eq];simp[ownW,keepP,namesB,Ex.op,Ex.args,Ex.name]
 dsimp only at hy
 rw[h,List.mem_singleton] at hy
 subst hy
 simp[lefts]
theorem srA_check:fstl [scopeF srA,typesF srA,callsF srA,clockF srA,onsF srA,causeF srA]=ft0:=by
 rw[srA_scope,srA_types,srA_calls,srA_clock,srA_ons,srA_cause]
 simp[fstl,ft0]
theorem srA_main:nodeAt srA mainNm=some ndT:=by simp[srA_eq,nodeAt,mainNm]
theorem srA_sm:SrcSm srA:=by
 refine ⟨by decide,fun n hn=>?_⟩
 rw[srA_eq,List.mem_singleton] at hn
 subst hn
 refine ⟨by decide,by decide,by decide,by decide,by decide,fun v hv=>?_,fun q hq=>?_⟩
 ·simp[vrs] at hv
  rcases hv with rfl|rfl<;>exact ⟨by decide,by decide,fun c hc=>absurd hc List.not_mem_nil⟩
 ·simp at hq
  subst hq
  refine ⟨by decide,fun x hx=>?_,⟨?_,fun x hx=>?_⟩⟩
  ·simp at hx;subst hx;decide
  ·rw[exSize_eq];simp[Ex.args,sumL]
  ·dsimp only at hx
   rw[exT_list,List.mem_singleton] at hx
   subst hx
   decide
end Go.Proofs.YtgjfkidbfmbjoaaGreat
