/-
  Values of rows of ints, plain: they are ints of Go's; how many terms there are. Rows of the call's own in a row. The contracts of tompionref01.Ints, check.kinds and tompionref21.Types. The contracts of check.Ports and tompionref21.Main. The contract of stream.Size.
-/
import Derived.Test.YtdkgkacnjdnpoaaGreatStrW
import Derived.Test.YtdkgkacnjdnpoaaGreatRwS
import Derived.Test.YtdkgkacnjdnpoaaGreatMet
import Derived.Test.YtdkgkacnjdnpoaaGreatTyB
import Derived.Laws.StructEq
import Derived.Deep.DrawnRows
import Derived.Deep.QuietTactic
import Derived.Test.YtdkgkacnjdnpoaaGreatChS
import Derived.Test.YtdkgkacnjdnpoaaGreatCalB
import Derived.Test.YtdkgkacnjdnpoaaGreatStrP
import Derived.Test.YtdkgkacnjdnpoaaGreatRgQ
import Derived.Test.YtdkgkacnjdnpoaaGreatStzW
set_option maxHeartbeats 1000000
set_option maxRecDepth 100000
namespace Go.Proofs.YtdkgkacnjdnpoaaGreat
open Go.RowKit Nm
theorem Tm.sub_ok:∀t:Tm,t.ok→(∀x∈exList t.e,Wf x.n)→∀u∈t.all,u.ok∧∀x∈exList u.e,Wf x.n
 | .l b e,h,hw,u,hu=>by
  simp only[Tm.all,List.mem_singleton] at hu
  subst hu
  exact ⟨h,hw⟩
 | .o b e x,h,hw,u,hu=>by
  simp only[Tm.all,List.mem_cons] at hu
  rcases hu with rfl|hu
  ·exact ⟨h,hw⟩
  ·exact Tm.sub_ok x h.2 (fun y hy=>hw y (exList_sub (show x.e∈e.args by rw[h.1];simp) hy)) u hu
 | .p b e x y,h,hw,u,hu=>by
  simp only[Tm.all,List.mem_cons,List.mem_append] at hu
  rcases hu with rfl|hu|hu
  ·exact ⟨h,hw⟩
  ·exact Tm.sub_ok x h.2.1 (fun z hz=>hw z (exList_sub (show x.e∈e.args by rw[h.1];simp) hz)) u hu
  ·exact Tm.sub_ok y h.2.2 (fun z hz=>hw z (exList_sub (show y.e∈e.args by rw[h.1];simp) hz)) u hu
theorem Tm.all_len:∀t:Tm,t.ok→t.all.length=(exList t.e).length
 | .l b e,h=>by
  have h:e.args=[]:=h
  rw[exList_eq]
  show 1=(e::(e.args.map exList).flatten).length
  rw[h]
  simp
 | .o b e x,h=>by
  have h1:=Tm.all_len x h.2
  rw[exList_eq]
  show (Tm.o b e x::x.all).length=(e::(e.args.map exList).flatten).length
  rw[h.1]
  simp[h1]
 | .p b e x y,h=>by
  have h1:=Tm.all_len x h.2.1
  have h2:=Tm.all_len y h.2.2
  rw[exList_eq]
  show (Tm.p b e x y::(x.all++y.all)).length=(e::(e.args.map exList).flatten).length
  rw[h.1]
  simp[h1,h2]
theorem Tm.ok_p {b:Nat} {e:Ex} {x y:Tm} (h:(Tm.p b e x y).ok):x.e∈(Tm.p b e x y).e.args∧y.e∈(Tm.p b e x y).e.args:=by
 show x.e∈e.args∧y.e∈e.args
 rw[h.1]
 simp
theorem Tm.ok_o {b:Nat} {e:Ex} {x:Tm} (h:(Tm.o b e x).ok):x.e∈(Tm.o b e x).e.args:=by
 show x.e∈e.args
 rw[h.1]
 simp
section
variable {n:Nd} {T:List Tm} {row:List Int} {σ:Past}
theorem TsIs.at_ (hT:TsIs n T) {t:Tm} (ht:t∈T):∃q∈n.eqs,t.is q.right:=by
 obtain ⟨i,hi⟩:=List.getElem?_of_mem ht
 have hl:=(List.getElem?_eq_some_iff.1 hi).1
 have hq:n.eqs[i]? =some (n.eqs[i]'(by have:=hT.len;omega)):=List.getElem?_eq_getElem _
 exact ⟨_,List.mem_of_getElem? hq,hT.is i t _ hi hq⟩
theorem TsIs.all_ok (hT:TsIs n T) (hn:∀q∈n.eqs,∀x∈exList q.right,Wf x.n):∀t∈allT T,t.ok∧∀x∈exList t.e,Wf x.n:=fun t ht=>by
 unfold allT at ht
 rw[List.mem_flatten] at ht
 obtain ⟨l,hl,ht⟩:=ht
 obtain ⟨u,hu,rfl⟩:=List.mem_map.1 hl
 obtain ⟨q,hq,his⟩:=hT.at_ hu
 exact Tm.sub_ok u his.2 (by rw[his.1];exact hn q hq) t ht
theorem flat_bound {T:List Tm} {M:Nat} (h:∀t∈T,t.all.length≤M):(allT T).length≤M*T.length:=by
 unfold allT
 induction T with
 |nil=>simp
 |cons t T ih=>
  have h1:=h t (by simp)
  have h2:=ih fun u hu=>h u (by simp[hu])
  simp only[List.map_cons,List.flatten_cons,List.length_append,List.length_cons,Nat.mul_add,Nat.mul_one]
  omega
theorem TsIs.few (hT:TsIs n T) (sm:NdSm n):(allT T).length≤1000000:=by
 have h:=flat_bound (T:=T) (M:=900) fun t ht=>by
  obtain ⟨q,hq,his⟩:=hT.at_ ht
  rw[Tm.all_len t his.2,his.1]
  exact (sm.eq q hq).right.size
 have h1:=hT.len
 have h2:=sm.eqs
 have:900*T.length≤900*60:=Nat.mul_le_mul_left _ (by omega)
 omega
theorem EI.wf (hT:TsIs n T) (hn:∀q∈n.eqs,∀x∈exList q.right,Wf x.n) (hr:∀v∈row,Wf v) (hs:∀b,Wf (σ b).2) {t:Tm} {v:Int} (h:EI n T row σ t v):t.ok→(∀x∈exList t.e,Wf x.n)→Wf v:=by
 induction h with
 |num _=>intro _ hw;exact hw _ (exList_self _)
 |inp _ _ hv=>intro _ _;exact hr _ (List.mem_of_getElem? hv)
 |eqn _ _ hq _ _ ht _ ih=>
  intro _ _
  have his:=hT.is _ _ _ ht hq
  exact ih his.2 (by rw[his.1];exact hn _ (List.mem_of_getElem? hq))
 |pre _=>intro _ _;exact hs _
 |fby1 _ _=>intro _ _;exact hs _
 |fby0 _ _ _ ih=>intro ho hw;exact ih ho.2.1 fun z hz=>hw z (exList_sub (Tm.ok_p ho).1 hz)
 |arr1 _ _ _ ih=>intro ho hw;exact ih ho.2.2 fun z hz=>hw z (exList_sub (Tm.ok_p ho).2 hz)
 |arr0 _ _ _ ih=>intro ho hw;exact ih ho.2.1 fun z hz=>hw z (exList_sub (Tm.ok_p ho).1 hz)
theorem NI.wf (hT:TsIs n T) (hn:∀q∈n.eqs,∀x∈exList q.right,Wf x.n) (hr:∀v∈row,Wf v) (hs:∀b,Wf (σ b).2) {nm:ByteArray} {v:Int} (h:NI n T row σ nm v):Wf v:=by
 rcases h with ⟨i,_,hv⟩|⟨_,i,q,t,hq,_,_,ht,hv⟩
 ·exact hr _ (List.mem_of_getElem? hv)
 ·have his:=hT.is _ _ _ ht hq
  exact hv.wf hT hn hr hs his.2 (by rw[his.1];exact hn _ (List.mem_of_getElem? hq))
theorem NI.name (sm:NdSm n) (hl:∀q∈n.eqs,∀nm∈q.left,nm∈nms (vrs n)) {nm:ByteArray} {v:Int} (h:NI n T row σ nm v):nm.size≤maxLen∧nm∈nms (vrs n):=by
 have hm:nm∈nms (vrs n):=by
  rcases h with ⟨i,hi,_⟩|⟨_,i,q,t,hq,hq2,_⟩
  ·have:nm∈nms n.ins:=idx_mem.1 (by omega)
   simp only[nms,vrs,List.map_append,List.mem_append] at this⊢
   exact .inl (.inl this)
  ·exact hl q (List.mem_of_getElem? hq) nm (by rw[hq2];simp)
 refine ⟨?_,hm⟩
 obtain ⟨x,hx,rfl⟩:=List.mem_map.1 hm
 have:=(sm.all x hx).name
 unfold maxLen
 omega
theorem LI.wf (hT:TsIs n T) (hn:∀q∈n.eqs,∀x∈exList q.right,Wf x.n) (hr:∀v∈row,Wf v) (hs:∀b,Wf (σ b).2) {t:Tm} {v:Int} (h:LI n T row σ t v) (ho:t.ok) (hw:∀x∈exList t.e,Wf x.n):Wf v:=by
 cases h with
 |l _=>exact wf_of ⟨by decide,by decide⟩
 |pre _ h=>exact h.wf hT hn hr hs ho.2 fun z hz=>hw z (exList_sub (Tm.ok_o ho) hz)
 |fby _ h=>exact h.wf hT hn hr hs ho.2.2 fun z hz=>hw z (exList_sub (Tm.ok_p ho).2 hz)
 |arr _=>exact wf_of ⟨by decide,by decide⟩
theorem ChI.wf (hT:TsIs n T) (hn:∀q∈n.eqs,∀x∈exList q.right,Wf x.n) (hr:∀v∈row,Wf v) (hs:∀b,Wf (σ b).2) {l:List Tm} {cs:List (Nat × Int)} (h:ChI n T row σ l cs) (hl:∀t∈l,t.ok∧∀x∈exList t.e,Wf x.n):∀c∈cs,Wf c.2:=by
 induction h with
 |nil=>intro c hc;cases hc
 |cons h1 _ ih=>
  intro c hc
  rcases List.mem_cons.1 hc with rfl|hc
  ·exact h1.wf hT hn hr hs (hl _ (by simp)).1 (hl _ (by simp)).2
  ·exact ih (fun t ht=>hl t (by simp[ht])) c hc
theorem set_wf {cs:List (Nat × Int)} {σ:Past} (hs:∀b,Wf (σ b).2) (hc:∀c∈cs,Wf c.2):∀b,Wf (cs.foldl setP σ b).2:=by
 induction cs generalizing σ with
 |nil=>exact hs
 |cons c cs ih=>
  refine ih (fun b=>?_) fun d hd=>hc d (by simp[hd])
  unfold setP
  split
  ·exact hc c (by simp)
  ·exact hs b
theorem TickI.wf (hT:TsIs n T) (hn:∀q∈n.eqs,∀x∈exList q.right,Wf x.n) (hr:∀v∈row,Wf v) (hs:∀b,Wf (σ b).2) {os:List Int} {σ':Past} (h:TickI n T row σ os σ'):(∀y∈os,Wf y)∧∀b,Wf (σ' b).2:=by
 obtain ⟨hO,cs,hC,rfl⟩:=h
 refine ⟨?_,set_wf hs (hC.wf hT hn hr hs (hT.all_ok hn))⟩
 clear hC
 revert hO
 generalize n.outs=l
 intro hO
 induction hO with
 |nil=>intro y hy;cases hy
 |cons h1 _ ih=>
  intro y hy
  rcases List.mem_cons.1 hy with rfl|hy
  ·exact h1.wf hT hn hr hs
  ·exact ih y hy
end
theorem own_updG {X:Nat→Prop} {W W':World} {base size n:Nat} {e:TypeId} {v:Value} {xs:List Value} (h:W.ownsRow base e size v n xs) (hu:Upd X W W') (hX:∀k,v.ownBlock=some k→¬X k):W'.ownsRow base e size v n xs:=by
 refine ⟨h.1,?_⟩
 rcases h.2 with h0|⟨g,c,cur,h1,h2,h3,h4⟩
 ·exact .inl h0
 ·exact .inr ⟨g,c,cur,h1,h2,(hu.block g (Array.getElem?_eq_some_iff.1 h3).1 (hX g (by rw[h1];rfl))).trans h3,h4⟩
theorem ints_flat:∀l:List Int,ints l=(l.map fun x=> [Value.int .i64 x]).flatten
 | []=>rfl
 |x::l=>by
  show .int .i64 x::ints l=_
  rw[ints_flat l]
  rfl
theorem own_ints {w:World} {base n:Nat} {v:Value} {l:List Int} (h:w.ownsRow base 3 1 v n (ints l)) (hw:∀x∈l,Wf x):SlV w w.heap.size 1 isInt v l:=by
 rw[ints_flat] at h
 exact (own_sl h (Are.map fun x hx=>⟨rfl,hw x hx⟩) (fun cs hcs=>by obtain ⟨_,_,rfl⟩:=List.mem_map.1 hcs;rfl) (by decide)).1
open Go.RowKit
attribute [local go_sem ↓] Go.wp_at_zero Go.wp_at_succ
theorem ints_sl {base:Nat} {w:World} {v:Value} {l:List Int} (h:IntsO base w v l) (hw:∀x∈l,Wf x):SlV w w.heap.size 1 isInt v l:=by
 have e:intsV l=(l.map fun x=> [Value.int .i64 x]).flatten:=by
  clear h hw
  unfold intsV
  induction l with
  |nil=>rfl
  |cons x l ih=>rw[List.map_cons,List.map_cons,List.flatten_cons,ih];rfl
 unfold IntsO at h
 rw[e] at h
 refine (own_sl h ⟨by simp,fun k x cs h1 h2=>?_⟩ (fun cs hcs=>by obtain ⟨x,_,rfl⟩:=List.mem_map.1 hcs;rfl) (by decide)).1
 rw[List.getElem?_map,h1] at h2
 cases h2
 exact ⟨rfl,hw x (List.mem_of_getElem? h1)⟩
def tysOf (l:List Vr):List Int:=l.map Vr.ty
theorem tys_take {l:List Vr} {k:Nat} {x:Vr} (h:l[k]? =some x):tysOf (l.take (k+1))=tysOf (l.take k)++ [x.ty]:=by
 unfold tysOf
 rw[List.take_add_one,h];simp
theorem kinds_any (l:List Vr) (A:Option Addr) (cap:Nat) (w:World) (h2:cap≤maxLen) (hl:l.length≤50) (h:Sl w w.heap.size 5 (isVr w w.heap.size) A l):
  Calls Tryz.prog 38 #[.slice A l.length cap] w fun r w'=>(∃v,r= .returned v∧IntsO w.heap.size w' v (tysOf l))∧Below w.heap.size w w':=by
 obtain ⟨i0,hi0,hz0,hz1,hz2⟩:=info_parts info_int
 have HV:Hid (∀W,Below w.heap.size w W→Sl W w.heap.size 5 (isVr W w.heap.size) A l):=fun W hW=>vrs_keep h (keeps_of hW) (Nat.le_refl _)
 have h2':cap≤9223372036854775807:=by unfold maxLen at h2;omega
 clear h
 go_enter Tryz.func38,Tryz.ntmps38
 go_wp2_with fail
 go_loopw[3,8] (fun v i wr=>∃(k:Nat) (v0:Value),k≤l.length∧i= .int .i64 k∧v0=v∧wr.ownsRow w.heap.size 3 1 v0 k (intsV (tysOf (l.take k)))∧Below w.heap.size w wr) (fun _ i _=>l.length-(intOf i).toNat)
 case atStart=>exact ⟨0,_,Nat.zero_le _,rfl,rfl,World.ownsRow_nil _ _ _ _,Below.refl _ _⟩
 case round=>
  obtain ⟨k,v,hk,rfl,rfl,hown,hbr⟩:=hrel
  have hszr:=hbr.size
  by_cases hlt:k<l.length
  ·obtain ⟨b,off,x,A',cap',hA,hb,hxk,ok,g1,g2,hxs,d0,d1,d2,d3,d4⟩:=(HV.out wr hbr).vr hlt
   rw[hA]
   have HTK:=Lib.hid (tys_take hxk)
   have bx:Below wr.heap.size wr (wr.alloc (.cells (vrArr x A' cap') 103)):=bE
   have rx:=Row.new wr (vrArr x A' cap') 103
   have ho2:=hown.alloc (.cells (vrArr x A' cap') 103)
   have hsx:wr.heap.size+1≤(wr.alloc (.cells (vrArr x A' cap') 103)).heap.size:=by simp
   clear hA hxk ok hxs
   go_upto_region 5 with (fail)
   clear d0 d1 d2 d3 d4
   generalize hW5:wr.alloc (.cells (vrArr x A' cap') 103)=w5 at*
   clear hW5
   obtain ⟨z0,z1,z2,z3,z4⟩:=rx.vr
   have hb5:=hbr.trans (bx.mono hszr)
   go_wp2_with (at_builtin;refine wpList_append_own _ rfl _ _ 34 rfl w.heap.size 3 i0 (.int .i64 0) 1 8 Tryz.underlying34 hi0 hz0 hz1 hz2 rfl (by decide) _ _ _ rfl (ho2.alloc _) ⟨w5.heap.size,0,none⟩ 1 1 [.int .i64 x.ty] rfl rfl ?c1 ?c2 ?c3 ?c4 ?c5 ?_)
   case c1=>exact cell_one _ _ _
   case c2=>simp[Value.oneCell']
   case c3=>unfold maxLen;omega
   case c4=>omega
   case c5=>simp;omega
   intro v' w6 hown6 hg6 _
   have hb6:Below w.heap.size w w6:=below_own (hb5.alloc (by omega) _) (ho2.alloc _) hg6 (by simp;omega)
   have hown7:w6.ownsRow w.heap.size 3 1 v' (k+1) (intsV (tysOf (l.take (k+1)))):=by rw[HTK.out,intsV_snoc];exact hown6
   clear hown ho2 hown6 hg6 z0 z1 z2 z3 z4
   go_wp2_with fail
   go_roundw
   case rel=>exact ⟨k+1,_,by omega,by go_num,rfl,hown7,hb6⟩
   case measure=>first|(simp[intOf];omega)|simp[intOf]
  ·obtain rfl:k=l.length:=by omega
   have hown7:IntsO w.heap.size wr v (tysOf l):=by
    have e:(tysOf l).length=l.length:=by simp[tysOf]
    rw[List.take_length] at hown
    unfold IntsO
    rw[e]
    exact hown
   go_wp2_with fail
   go_ret
   exact ⟨⟨_,rfl,hown7⟩,hbr⟩
theorem field_flt (f:Ft) (W:World):(Instr.field 38 (.agg #[.int .i64 f.err,.int .i64 f.line,.int .i64 f.col]) 0).run Tryz.prog W= .ok (.int .i64 f.err) W:=by kernel_rfl
attribute [local go_sem] field_flt
theorem res3t {P:Program} {fn:Func} {p q s:Tmp} (h:fn.results= #[.tmp p,.tmp q,.tmp s]) {tmps:Array Value} {w:World} {u v x:Value} (hp:tmps.getD p undef=u) (hq:tmps.getD q undef=v) (hs:tmps.getD s undef=x):(results fn tmps).run P w= .ok (.tuple #[u,v,x]) w:=by
 have hp':tmps[p]?.getD undef=u:=by simpa using hp
 have hq':tmps[q]?.getD undef=v:=by simpa using hq
 have hs':tmps[s]?.getD undef=x:=by simpa using hs
 simp[results,h,hp',hq',hs']
theorem check_scope {s:List Nd} (h:(checkF s).err=0):(scopeF s).err=0:=fstl_ok h _ (by simp)
theorem check_main {s:List Nd} (h:(checkF s).err=0):mainNm∈s.map Nd.name:=by
 have h1:=check_scope h
 rw[scopeF_rt (scope_rt h1)] at h1
 refine Classical.byContradiction fun g=>?_
 have h2:=(ft2_ok (ft2_ok h1).2).2
 unfold mainF at h2
 rw[if_pos g] at h2
 exact absurd h2 (by show ¬(27:Int)=0;decide)
def PortsR (s:List Nd) (w:World) (r:Ending) (w':World):Prop:=
 (∃v1 v2 b,r= .returned (.tuple #[v1,v2,.bool b])∧Hid (b=decide ((checkF s).err=0))∧Hid (b=false→v1= .slice none 0 0∧v2= .slice none 0 0)∧
  Hid (b=true→∃n,nodeAt s mainNm=some n∧SlV w' w'.heap.size 1 isInt v1 (tysOf n.ins)∧SlV w' w'.heap.size 1 isInt v2 (tysOf n.outs)))∧Below w.heap.size w w'
theorem tys_wf {w:World} {B:Nat} {A:Option Addr} {l:List Vr} (h:Sl w B 5 (isVr w B) A l):∀x∈tysOf l,Wf x:=by
 intro x hx
 obtain ⟨v,hv,rfl⟩:=List.mem_map.1 hx
 obtain ⟨k,hk⟩:=List.getElem?_of_mem hv
 obtain ⟨_,_,y,_,_,_,_,hy,ok,_⟩:=h.vr (List.getElem?_eq_some_iff.1 hk).1
 rw[hk] at hy;cases hy
 exact ok.ty
theorem ints_up {w w':World} {v:Value} {l:List Int} {B:Nat} (h:SlV w B 1 isInt v l) (hb:Below B w w') (hB:B≤w'.heap.size):SlV w' w'.heap.size 1 isInt v l:=SlV.keep h (keeps_of hb) hB (fun _ _ _ h=>h)
theorem ports_chk (s:List Nd) (A:Option Addr) (cap:Nat) (w:World) (sm:SrcSm s) (h1:s.length≤cap) (h2:cap≤maxLen) (h:Nds w w.heap.size A s):
  Calls Tryz.prog 20 #[srcV s A cap] w (PortsR s w):=by
 have rs1:=Row.new w #[.slice A s.length cap] 24
 have b1:Below w.heap.size w (w.alloc (.cells #[.slice A s.length cap] 24)):=bE
 have HS:Hid (∀W,Below w.heap.size w W→Nds W W.heap.size A s):=fun W hW=>nds_keep h (keeps_of hW) hW.size
 obtain ⟨f,HF⟩:∃f,Hid (checkF s=f):=⟨_,rfl⟩
 have HC:Hid (∀W,Below w.heap.size w W→Calls Tryz.prog 27 #[srcV s A cap] W fun r w'=>r= .returned (ftV f)∧Below W.heap.size W w'):=fun W hW=>by rw[←HF.out];exact csource_any s A cap W sm h1 h2 (HS.out W hW)
 have HD:Hid (∀W,Below w.heap.size w W→Calls Tryz.prog 37 #[srcV s A cap,.string mainNm] W (FindRes s mainNm W)):=fun W hW=>find_any s s.length A cap mainNm W rfl h1 h2 (HS.out W hW)
 have HSM:=Lib.hid sm
 clear h sm
 go_enter Tryz.func20,Tryz.ntmps20
 go_upto_region 1 with (fail)
 generalize w.alloc (.cells #[.slice A s.length cap] 24)=W1 at*
 have hs1:=b1.size
 have c0:=rs1.src
 go_wp2_with fail
 refine (HC.out _ b1).mono ?_
 rintro r w2 ⟨rfl,hb2⟩
 have rs2:=rs1.below hb2 rs1.lt
 have hB2:=b1.trans (hb2.mono hs1)
 have hs2:=hB2.size
 clear c0 rs1 b1 hb2 hs1
 by_cases he:f.err=0
 rotate_left 1
 ·have e1:(f.err !=0)=true:=neq_yes he
  have HE:Hid (false=decide ((checkF s).err=0)):=by show _=_;rw[HF.out,decide_eq_false he]
  clear he
  go_wp2_with fail
  refine bodyPost_ret (res3t rfl rfl rfl rfl) rfl ?_
  exact ⟨⟨_,_,false,rfl,HE,(fun _=>⟨rfl,rfl⟩),(fun g=>by cases g)⟩,hB2⟩
 have e1:(f.err !=0)=false:=neq_no he
 have HE:Hid (true=decide ((checkF s).err=0)):=by show _=_;rw[HF.out,decide_eq_true he]
 have HM:Hid (mainNm∈s.map Nd.name):=check_main (by rw[HF.out];exact he)
 clear he
 have c0:=rs2.src
 go_wp2_with fail
 refine (HD.out _ hB2).mono ?_
 rintro r w3 ⟨⟨n,a,rfl,HN,-⟩,hb3⟩
 obtain ⟨HNA,hat⟩:=HN.out HM.out
 have HNA':=Lib.hid HNA
 have HNS:Hid (NdSm n):=HSM.out.all n (List.mem_of_find?_eq_some HNA)
 have HMC:Hid (cB (mainNm∈s.map Nd.name)=true):=cB_true HM.out
 rw[HMC.out]
 have hB3:=hB2.trans (hb3.mono hs2)
 have hs3:=hb3.size
 have rn:=Row.new w3 (ndArr n a) 58
 have ba:Below w3.heap.size w3 (w3.alloc (.cells (ndArr n a) 58)):=bE
 have hsa:=ba.size
 have HAT:Hid (∀W,Below w3.heap.size w3 W→NdAt W W.heap.size n a):=fun W hW=>(hat.below (hW.mono hs3)).more (Nat.le_trans hs3 hW.size)
 clear HN hat HNA c0 hb3
 go_upto_region 4 with (fail)
 change Code.wp _ _ _ _ (w3.alloc (.cells (ndArr n a) 58))
 have HB4:=Lib.hid (hB3.trans (ba.mono (Nat.le_trans hs2 hs3)))
 generalize hW4:w3.alloc (.cells (ndArr n a) 58)=w4 at*
 clear hW4
 obtain ⟨d0,d1,d2,d3,d4,d5,d6⟩:=rn.nd
 have HK1:Hid (∀W,Below w4.heap.size w4 W→Calls Tryz.prog 38 #[.slice a.ai n.ins.length a.ci] W fun r w'=>(∃v,r= .returned v∧SlV w' w'.heap.size 1 isInt v (tysOf n.ins))∧Below W.heap.size W w'):=fun W hW=>by
  have g:=HAT.out W (ba.trans (hW.mono hsa))
  refine (kinds_any n.ins a.ai a.ci W g.mi HNS.out.ins g.si).mono ?_
  rintro r w' ⟨⟨v,rfl,hv⟩,hb⟩
  exact ⟨⟨v,rfl,ints_sl hv (tys_wf g.si)⟩,hb⟩
 have HK2:Hid (∀W,Below w4.heap.size w4 W→Calls Tryz.prog 38 #[.slice a.ao n.outs.length a.co] W fun r w'=>(∃v,r= .returned v∧SlV w' w'.heap.size 1 isInt v (tysOf n.outs))∧Below W.heap.size W w'):=fun W hW=>by
  have g:=HAT.out W (ba.trans (hW.mono hsa))
  refine (kinds_any n.outs a.ao a.co W g.mo HNS.out.outs g.so).mono ?_
  rintro r w' ⟨⟨v,rfl,hv⟩,hb⟩
  exact ⟨⟨v,rfl,ints_sl hv (tys_wf g.so)⟩,hb⟩
 have HKK:Hid (∀W,Below w4.heap.size w4 W→W.cell? ⟨w3.heap.size,1,none⟩=some (.slice a.ai n.ins.length a.ci)∧W.cell? ⟨w3.heap.size,2,none⟩=some (.slice a.ao n.outs.length a.co)):=fun W hW=>by
  have g:=(rn.below hW rn.lt).nd
  exact ⟨g.2.1,g.2.2.1⟩
 have HB4s:=HB4.out.size
 clear d0 d3 d4 d5 d6
 go_region_held3 (fun W=>W.cell? ⟨w3.heap.size,1,none⟩=some (.slice a.ai n.ins.length a.ci)∧W.cell? ⟨w3.heap.size,2,none⟩=some (.slice a.ao n.outs.length a.co)) (first|(with_reducible exact HKK.out _ bE)|go_keep)
  (first
   |((go_at_call 38);(with_reducible refine (HK1.out _ ?hbb).mono ?_);(case hbb=>exact bE);rintro e wi ⟨⟨vi,rfl,hvi⟩,hbi'⟩;(have hbi:Below w4.heap.size w4 wi:=Below.trans bE (hbi'.mono lE));(have hsi:=hbi.size))
   |((go_at_call 38);(with_reducible refine (HK2.out _ ?hbb).mono ?_);(case hbb=>exact bE);rintro e wo ⟨⟨vo,rfl,hvo⟩,hbo'⟩;(have hbo:Below w4.heap.size w4 wo:=Below.trans bE (hbo'.mono lE));(have hso:=hbo.size)))
 all_goals
  go_wp2_with fail
  refine bodyPost_ret (res3t rfl rfl rfl rfl) rfl ?_
  refine ⟨⟨vi,vo,true,rfl,HE,(fun g=>by cases g),(fun _=>⟨n,HNA'.out,?_,?_⟩)⟩,?_⟩
  ·first|exact hvi|exact ints_up hvi hbo' hbo'.size|exact ints_up (w:=wi.drew) hvi hbo' hbo'.size
  ·first|exact hvo|exact ints_up hvo hbi' hbi'.size|exact ints_up (w:=wo.drew) hvo hbi' hbi'.size
  ·first|exact HB4.out.trans (hbo.mono HB4s)|exact HB4.out.trans (hbi.mono HB4s)|exact (HB4.out.trans (hbo.mono HB4s)).drew|exact (HB4.out.trans (hbi.mono HB4s)).drew
theorem size1_all {F:ByteArray→Nat} {s:List Nd} {A:Option Addr} {cap N0 S X Z M:Nat} (hk:SzK F s A cap N0 S X Z M) (hsc:(scopeF s).err=0) (hF:∀x v,SzIs s x v→F x=v) {x:ByteArray} {v:Nat} (h:SzIs s x v):x∈s.map Nd.name→SzC F s A cap N0 S X Z M x:=by
 induction h with
 |node g hn h ih=>
  intro hx
  have hns:=List.mem_of_find?_eq_some hn
  exact size1_step hk hn hx ((hF _ _ (SzIs.node g hn h)).trans (szOf_congr fun c hc=>(hF c _ (h c hc)).symm)) fun c hc=>ih c hc (calls_known hsc hns hc)
open Classical in
noncomputable def sizeF (s:List Nd) (x:ByteArray):Nat:=if h:∃v,SzIs s x v then Classical.choose h else 0
theorem sizeF_is {s:List Nd} {x:ByteArray} {v:Nat} (h:SzIs s x v):sizeF s x=v:=by
 unfold sizeF
 have h':∃v,SzIs s x v:=⟨v,h⟩
 rw[dif_pos h']
 exact (Classical.choose_spec h').det h
theorem sizeF_le (s:List Nd) (x:ByteArray):sizeF s x≤401:=by
 unfold sizeF
 split
 ·rename_i h;exact (Classical.choose_spec h).le
 ·omega
open Classical in
noncomputable def sizeS (s:List Nd):Nat:=if (checkF s).err=0 then sizeF s mainNm else 0
theorem check_calls0 {s:List Nd} (h:(checkF s).err=0):(callsF s).err=0:=fstl_ok h _ (by simp)
theorem size_any (s:List Nd) (A:Option Addr) (cap:Nat) (w:World) (sm:SrcSm s) (h1:s.length≤cap) (h2:cap≤maxLen) (h:Nds w w.heap.size A s):
  Calls Tryz.prog 21 #[srcV s A cap] w fun r w'=>r= .returned (.int .i64 (sizeS s))∧Below w.heap.size w w':=by
 have rs1:=Row.new w #[.slice A s.length cap] 24
 have b1:Below w.heap.size w (w.alloc (.cells #[.slice A s.length cap] 24)):=bE
 have HS:Hid (∀W,Below w.heap.size w W→Nds W W.heap.size A s):=fun W hW=>nds_keep h (keeps_of hW) hW.size
 have HS0:Hid (∀W,Below w.heap.size w W→Nds W w.heap.size A s):=fun W hW=>nds_keep h (keeps_of hW) (Nat.le_refl _)
 obtain ⟨f,HF⟩:∃f,Hid (checkF s=f):=⟨_,rfl⟩
 have HC:Hid (∀W,Below w.heap.size w W→Calls Tryz.prog 27 #[srcV s A cap] W fun r w'=>r= .returned (ftV f)∧Below W.heap.size W w'):=fun W hW=>by rw[←HF.out];exact csource_any s A cap W sm h1 h2 (HS.out W hW)
 have HSM:=Lib.hid sm
 clear h sm
 go_enter Tryz.func21,Tryz.ntmps21
 go_upto_region 1 with (fail)
 generalize w.alloc (.cells #[.slice A s.length cap] 24)=W1 at*
 have hs1:=b1.size
 have c0:=rs1.src
 go_wp2_with fail
 refine (HC.out _ b1).mono ?_
 rintro r w2 ⟨rfl,hb2⟩
 have rs2:=rs1.below hb2 rs1.lt
 have hB2:=b1.trans (hb2.mono hs1)
 have hs2:=hB2.size
 clear c0 b1 hb2
 by_cases he:f.err=0
 rotate_left 1
 ·have e1:(f.err !=0)=true:=neq_yes he
  have HE:Hid (sizeS s=0):=by show _=_;unfold sizeS;rw[HF.out,if_neg he]
  clear he
  go_wp2_with fail
  go_ret
  exact ⟨by rw[HE.out];rfl,hB2⟩
 have e1:(f.err !=0)=false:=neq_no he
 have hce:(checkF s).err=0:=by rw[HF.out];exact he
 have HE:Hid (sizeS s=sizeF s mainNm):=by show _=_;unfold sizeS;rw[if_pos hce]
 obtain ⟨v,hv⟩:=sz_some (check_calls0 hce) (check_main hce)
 have hmm:= @run_makeMap Tryz.prog
 have hlS:=rs2.lt
 have hk:SzK (sizeF s) s A cap w.heap.size w.heap.size (w2.heap.size+1) (w2.heap.size+1+1) w2.heap.size:=⟨h1,h2,HSM.out,by have:=rs1.lt;omega,by omega,by omega,hs2,sizeF_le s⟩
 have HC1:=Lib.hid (size1_all hk (check_scope hce) (fun x v=>sizeF_is) hv (check_main hce))
 clear he hce hk hv
 go_upto_region 6 with (fail)
 change Code.wp _ _ _ _ (((w2.alloc (.map #[] 0)).alloc (.cells #[.map (some w2.heap.size)] 85)).alloc (.cells #[.func (.func 39) #[] #[.pointer (some ⟨w2.heap.size+1,0,none⟩),.pointer (some ⟨w.heap.size,0,none⟩),.pointer (some ⟨w2.heap.size+1+1,0,none⟩)]] 108))
 have b4:Below w2.heap.size w2 (((w2.alloc (.map #[] 0)).alloc (.cells #[.map (some w2.heap.size)] 85)).alloc (.cells #[.func (.func 39) #[] #[.pointer (some ⟨w2.heap.size+1,0,none⟩),.pointer (some ⟨w.heap.size,0,none⟩),.pointer (some ⟨w2.heap.size+1+1,0,none⟩)]] 108)):=bE
 have sz0:SzAt (sizeF s) s A cap w.heap.size w.heap.size (w2.heap.size+1) (w2.heap.size+1+1) w2.heap.size (((w2.alloc (.map #[] 0)).alloc (.cells #[.map (some w2.heap.size)] 85)).alloc (.cells #[.func (.func 39) #[] #[.pointer (some ⟨w2.heap.size+1,0,none⟩),.pointer (some ⟨w.heap.size,0,none⟩),.pointer (some ⟨w2.heap.size+1+1,0,none⟩)]] 108)) []:=
  ⟨rs2.below b4 hlS,(rowNew2 w2 (.map #[] 0) #[.map (some w2.heap.size)] 85).alloc _,rowNew3 w2 _ _ _ _,((mapn_made (sizeF s) w2).alloc _).alloc _,fun x hx=>absurd hx List.not_mem_nil,HS0.out _ (hB2.trans (b4.mono hs2))⟩
 have HB4:=Lib.hid (hB2.trans (b4.mono hs2))
 have hs4:=b4.size
 clear b4
 generalize (((w2.alloc (.map #[] 0)).alloc (.cells #[.map (some w2.heap.size)] 85)).alloc (.cells #[.func (.func 39) #[] #[.pointer (some ⟨w2.heap.size+1,0,none⟩),.pointer (some ⟨w.heap.size,0,none⟩),.pointer (some ⟨w2.heap.size+1+1,0,none⟩)]] 108))=W5 at*
 have cz:W5.cell? ⟨w2.heap.size+1+1,0,none⟩=some (.func (.func 39) #[] #[.pointer (some ⟨w2.heap.size+1,0,none⟩),.pointer (some ⟨w.heap.size,0,none⟩),.pointer (some ⟨w2.heap.size+1+1,0,none⟩)]):=(sz0.rz.cell 0).trans rfl
 have HC5:=Lib.hid (HC1.out W5 [] sz0)
 clear sz0 HC1
 go_wp2_with fail
 refine HC5.out.mono ?_
 rintro r w6 ⟨rfl,-,hu⟩
 have HB6:=Lib.hid (HB4.out.trans (Upd.below hu (fun k e=>by omega) (by omega)))
 go_wp2_with fail
 go_ret
 exact ⟨by rw[HE.out];rfl,HB6.out⟩
end Go.Proofs.YtdkgkacnjdnpoaaGreat
