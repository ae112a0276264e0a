/-
  Sources of examples have no fault: what suffices for calls, clocks and causes; the source of the check chapter's example. Plain. The sources of the stream chapter's examples have no fault. Plain. Rows of ints in memory: which fit types (row.Fits); whether two lists of rows are the same (tompionref22.Same). The contract of scope.Find, of a source that lies below any place. The contracts of tompionref01.Ints, check.kinds and tompionref21.Types. The contracts of check.Ports and tompionref21.Main. The contract of stream.Size. The maker of flats in memory, of what has no conditions: the contract of flat.maker.wire. A place where a node is done, in memory: the contracts of flat.place.guards (no conditions) and of flat.place.list. The contract of flat.place.list.
-/
import Derived.Test.YtdkgkacnjdnpoaaGreatZz
import Derived.Test.YtdkgkacnjdnpoaaGreatScnD
import Derived.Test.YtdkgkacnjdnpoaaGreatCauA
import Derived.Test.YtdkgkacnjdnpoaaGreatStzP
import Derived.Test.YtdkgkacnjdnpoaaGreatSrt
import Derived.Test.YtdkgkacnjdnpoaaGreatTyP
import Derived.Test.YtdkgkacnjdnpoaaGreatFewM
import Derived.Test.YtdkgkacnjdnpoaaGreatExMem
import Derived.Test.YtdkgkacnjdnpoaaGreatTreePlain
import Derived.Test.YtdkgkacnjdnpoaaGreatMet
import Derived.Test.YtdkgkacnjdnpoaaGreatTyC
import Derived.Laws.StructEq
import Derived.Deep.DrawnRows
import Derived.Deep.QuietTactic
import Derived.Test.YtdkgkacnjdnpoaaGreatStzW
import Derived.Test.YtdkgkacnjdnpoaaGreatCalB
import Derived.Test.YtdkgkacnjdnpoaaGreatRgL
import Derived.Test.YtdkgkacnjdnpoaaGreatStzM
import Derived.Deep.RegionHeld3
import Derived.BigQuiet
import Derived.Test.YtdkgkacnjdnpoaaGreatCauD
import Derived.Deep.DeepCutAuto
import Derived.WalkSpells
import Derived.Test.YtdkgkacnjdnpoaaGreatCkB
set_option maxHeartbeats 1000000
set_option maxRecDepth 100000
namespace Go.Proofs.YtdkgkacnjdnpoaaGreat
open _root_.Go.Proofs.YtdkgkacnjdnpoaaGreat.Nm
theorem hg_rank {U:ByteArray→List ByteArray} {r:ByteArray→Nat} (h:∀x y,y∈U x→r y<r x) {a b:ByteArray} (g:Hg U a b):r b<r a:=by
 induction g with
 |one h1=>exact h _ _ h1
 |more _ h2 ih=>exact Nat.lt_trans (h _ _ h2) ih
open Classical in
theorem calls_free {s:List Nd} (hs:scopeF s=ft0) (h:∀n∈s,∀y∈usesF n,usesAt s y=[]):callsF s=ft0:=by
 have hr:∀x y,y∈usesAt s x→(if usesAt s y=[] then 0 else 1)<(if usesAt s x=[] then 0 else 1):=fun x y hy=>by
  have hx:usesAt s x≠[]:=fun g=>by rw[g] at hy;exact absurd hy List.not_mem_nil
  have hy0:usesAt s y=[]:=by
   unfold usesAt at hy
   cases hm:nodeAt s x with
   |none=>rw[hm] at hy;exact absurd hy List.not_mem_nil
   |some m=>rw[hm] at hy;exact h m (List.mem_of_find?_eq_some hm) y hy
  rw[if_pos hy0,if_neg hx];decide
 unfold callsF
 rw[ft2_0 (by rw[hs])]
 refine fstL_end fun j _ n _=>?_
 unfold calF
 rw[if_neg (fun g=>Nat.lt_irrefl _ (hg_rank hr g))]
def NoClk (n:Nd):Prop:=∀v∈vrs n,v.clock=[]
theorem clock_nil {n:Nd} (h:NoClk n) (nm:ByteArray):clockOf n nm=[]:=by
 rcases var_cases n nm with ⟨k,x,h1,h2,_⟩|h1
 ·rw[clock_at h1 h2];exact h x (List.mem_of_getElem? h2)
 ·exact clock_no h1
theorem fits_free {n:Nd} (h:NoClk n):∀e:Ex,(∀x∈exList e,x.op≠24∧x.op≠25∧x.op≠26)→fitsP n e []=ft0:=by
 refine Ex.ind fun e ih he=>?_
 have h0:=he e (exList_self e)
 have hb:¬badClock n e []:=by
  unfold badClock
  rintro (⟨_,g⟩|⟨g,_⟩)
  ·exact g (clock_nil h _)
  ·omega
 have hl:∀(l:List Ex) (i:Nat),(∀x∈l,x∈e.args)→fitsL e [] (l.map (fitsP n)) i=ft0:=fun l=>by
  induction l with
  |nil=>intro i _;rfl
  |cons x l ihl=>
   intro i hx
   have hp:partClock e [] i=[]:=by unfold partClock;rw[if_neg (by omega),if_neg (by omega)]
   have hxe:=hx x (by simp)
   have hf:fitsP n x []=ft0:=ih x hxe fun y hy=>he y (exList_sub hxe hy)
   rw[List.map_cons]
   show (if (fitsP n x (partClock e [] i)).err≠0 then _ else _)=ft0
   rw[hp,hf,if_neg (by intro g;exact g rfl)]
   exact ihl (i+1) fun y hy=>hx y (by simp[hy])
 rw[fitsP_ok hb]
 exact hl e.args 0 fun x hx=>hx
theorem clock_free {s:List Nd} (hs:scopeF s=ft0) (h:∀n∈s,NoClk n∧n.vars=[]∧∀q∈n.eqs,∀x∈exList q.right,x.op≠24∧x.op≠25∧x.op≠26):clockF s=ft0:=by
 unfold clockF
 rw[ft2_0 (by rw[hs])]
 refine fstL_end fun j _ n hn=>?_
 obtain ⟨h1,h2,h3⟩:=h n (List.mem_of_getElem? hn)
 unfold clkNF
 rw[h2]
 have:fstL (clkQF n) n.eqs=ft0:=by
  refine fstL_end fun i _ q hq=>?_
  have hq0:clkQF n i q=fitsP n q.right (eqClk n q):=clkQF_ok fun nm _=>by unfold eqClk;rw[clock_nil h1,clock_nil h1]
  rw[hq0]
  unfold eqClk
  rw[clock_nil h1,fits_free h1 _ (h3 q (List.mem_of_getElem? hq))]
 rw[this]
 rfl
open Classical in
theorem cause_free {s:List Nd} (hs:scopeF s=ft0) (h:∀n∈s,NoClk n∧∀q∈n.eqs,∀y∈wantsL q.right,y∉lefts n.eqs):causeF s=ft0:=by
 unfold causeF
 rw[ft2_0 (by rw[hs])]
 refine fstL_end fun j _ n hn=>?_
 obtain ⟨h1,h2⟩:=h n (List.mem_of_getElem? hn)
 have hr:∀x y,y∈hangsF n x→(if y∈lefts n.eqs then 1 else 0)<(if x∈lefts n.eqs then 1 else 0):=fun x y hy=>by
  rw[hangsF_mem] at hy
  unfold hangsL at hy
  cases hf:n.eqs.find? (fun q=>cB (x∈q.left)) with
  |none=>rw[hf] at hy;exact absurd hy List.not_mem_nil
  |some q=>
   rw[hf] at hy
   dsimp only at hy
   rw[clock_nil h1,List.map_nil,List.append_nil] at hy
   have hq:=List.mem_of_find?_eq_some hf
   have hx:x∈q.left:=by
    have:=List.find?_some hf
    exact Classical.byContradiction fun g=>by rw[cB_false g] at this;cases this
   have hxl:x∈lefts n.eqs:=List.mem_flatten.2 ⟨q.left,List.mem_map.2 ⟨q,hq,rfl⟩,hx⟩
   rw[if_neg (h2 q hq y hy),if_pos hxl];decide
 have h0:cauNF j n=ft0:=by
  unfold cauNF
  refine fstL_end fun i _ q _=>?_
  have hq0:cauQF n i q=ft0:=by
   unfold cauQF
   refine fstL_end fun k _ nm _=>?_
   unfold cauF
   rw[if_neg (fun g=>Nat.lt_irrefl _ (hg_rank hr g))]
  rw[hq0]
 rw[h0]
theorem one_calls {n:Nd} (hs:scopeF [n]=ft0) (h:∀q∈n.eqs,∀x∈exList q.right,x.op≠4):callsF [n]=ft0:=by
 refine calls_free hs fun m hm y hy=>?_
 rw[List.mem_singleton] at hm
 subst hm
 obtain ⟨q,hq,x,hx,h4,_⟩:=usesF_mem.1 hy
 exact absurd h4 (h q hq x hx)
theorem one_clock {n:Nd} (hs:scopeF [n]=ft0) (hc:NoClk n) (hv:n.vars=[]) (h:∀q∈n.eqs,∀x∈exList q.right,x.op≠24∧x.op≠25∧x.op≠26):clockF [n]=ft0:=by
 refine clock_free hs fun m hm=>?_
 rw[List.mem_singleton] at hm
 subst hm
 exact ⟨hc,hv,h⟩
theorem one_cause {n:Nd} (hs:scopeF [n]=ft0) (hc:NoClk n) (h:∀q∈n.eqs,∀y∈wantsL q.right,y∉lefts n.eqs):causeF [n]=ft0:=by
 refine cause_free hs fun m hm=>?_
 rw[List.mem_singleton] at hm
 subst hm
 exact ⟨hc,h⟩
open Go.RowKit _root_.Go.Proofs.YtdkgkacnjdnpoaaGreat.Nm
def isRw (w:World) (B:Nat) (l:List Int) (cs:List Value):Prop:=∃v,cs=[v]∧SlV w B 1 isInt v l
theorem sl_rw {w:World} {B C:Nat} {A:Option Addr} {l:List (List Int)} {k:Nat} (h:Sl w B 1 (isRw w C) A l) (hk:k<l.length):∃b off x Ax cx,A=some ⟨b,off,none⟩∧b<B∧l[k]? =some x∧w.cell? ⟨b,off+k,none⟩=some (.slice Ax x.length cx)∧x.length≤cx∧cx≤maxLen∧Sl w C 1 isInt Ax x:=by
 refine' zq164
attribute [local go_sem ↓] Go.wp_at_zero Go.wp_at_succ
def FindB (B:Nat) (s:List Nd) (nm:ByteArray) (w:World) (e:Ending) (w':World):Prop:=
 (∃(n:Nd) (a:NdA),e= .returned (.tuple #[ndV n a,.bool (cB (nm∈s.map Nd.name))])∧Hid (nm∈s.map Nd.name→nodeAt s nm=some n∧NdAt w' B n a)∧Hid (nm∉s.map Nd.name→n=nd0∧a=nda0))∧Below w.heap.size w w'
theorem find_anyB (B:Nat) (s:List Nd) (m:Nat) (A:Option Addr) (cap:Nat) (nm:ByteArray) (w:World) (hm:s.length=m) (h1:m≤cap) (h2:cap≤maxLen) (hBw:B≤w.heap.size) (h:Nds w B A s):
  Calls Tryz.prog 37 #[.agg #[.slice A m cap],.string nm] w (FindB B s nm w):=by
 refine' zq81
 have b1:Below w.heap.size w ((w.alloc (.cells #[.slice A s.length cap] 24)).alloc (.cells ndZ 58)):=bE
 have HS:=Lib.hid (nds_keep h (keeps_of (b1.mono hBw)) (Nat.le_refl _))
 refine' zq36
 go_loopw[11] (fun i wr=>∃k:Nat,k≤s.length∧i= .int .i64 k∧Hid (∀j,j<k→∀x,s[j]? =some x→x.name≠nm)∧Below W1.heap.size W1 wr) (fun i _=>s.length-(intOf i).toNat)
 case atStart=>exact ⟨0,Nat.zero_le _,rfl,fun j h=>absurd h (by omega),Below.refl _ _⟩
 case round=>
  refine' zq94
  by_cases hlt:k<s.length
  ·obtain ⟨b,off,n,a,rfl,hb,hn,hat,d0,d1,d2,d3,d4,d5,d6⟩:=(nds_keep HS.out (keeps_of (hbr.mono (Nat.le_trans hBw hs1))) (Nat.le_refl _)).nd hlt
   refine' zq18
  ·refine' zq16
open Go.RowKit
def tysOf (l:List Vr):List Int:=l.map Vr.ty
theorem tys_take {l:List Vr} {k:Nat} {x:Vr} (h:l[k]? =some x):tysOf (l.take (k+1))=tysOf (l.take k)++ [x.ty]:=by
 unfold tysOf
 rw[List.take_add_one,h];simp
theorem field_flt (f:Ft) (W:World):(Instr.field 38 (.agg #[.int .i64 f.err,.int .i64 f.line,.int .i64 f.col]) 0).run Tryz.prog W= .ok (.int .i64 f.err) W:=by kernel_rfl
attribute [local go_sem] field_flt
theorem check_scope {s:List Nd} (h:(checkF s).err=0):(scopeF s).err=0:=fstl_ok h _ (by simp)
theorem check_main {s:List Nd} (h:(checkF s).err=0):mainNm∈s.map Nd.name:=by
 have h1:=check_scope h
 rw[scopeF_rt (scope_rt h1)] at h1
 refine Classical.byContradiction fun g=>?_
 have h2:=(ft2_ok (ft2_ok h1).2).2
 unfold mainF at h2
 rw[if_pos g] at h2
 exact absurd h2 (by show ¬(27:Int)=0;decide)
theorem size1_all {F:ByteArray→Nat} {s:List Nd} {A:Option Addr} {cap N0 S X Z M:Nat} (hk:SzK F s A cap N0 S X Z M) (hsc:(scopeF s).err=0) (hF:∀x v,SzIs s x v→F x=v) {x:ByteArray} {v:Nat} (h:SzIs s x v):x∈s.map Nd.name→SzC F s A cap N0 S X Z M x:=by
 induction h with
 |node g hn h ih=>
  intro hx
  have hns:=List.mem_of_find?_eq_some hn
  exact size1_step hk hn hx ((hF _ _ (SzIs.node g hn h)).trans (szOf_congr fun c hc=>(hF c _ (h c hc)).symm)) fun c hc=>ih c hc (calls_known hsc hns hc)
open Classical in
noncomputable def sizeF (s:List Nd) (x:ByteArray):Nat:=if h:∃v,SzIs s x v then Classical.choose h else 0
theorem sizeF_is {s:List Nd} {x:ByteArray} {v:Nat} (h:SzIs s x v):sizeF s x=v:=by
 unfold sizeF
 have h':∃v,SzIs s x v:=⟨v,h⟩
 rw[dif_pos h']
 exact (Classical.choose_spec h').det h
theorem sizeF_le (s:List Nd) (x:ByteArray):sizeF s x≤401:=by
 unfold sizeF
 split
 ·rename_i h;exact (Classical.choose_spec h).le
 ·omega
open Classical in
noncomputable def sizeS (s:List Nd):Nat:=if (checkF s).err=0 then sizeF s mainNm else 0
theorem check_calls0 {s:List Nd} (h:(checkF s).err=0):(callsF s).err=0:=fstl_ok h _ (by simp)
theorem size_any (s:List Nd) (A:Option Addr) (cap:Nat) (w:World) (sm:SrcSm s) (h1:s.length≤cap) (h2:cap≤maxLen) (h:Nds w w.heap.size A s):
  Calls Tryz.prog 21 #[srcV s A cap] w fun r w'=>r= .returned (.int .i64 (sizeS s))∧Below w.heap.size w w':=by
 have rs1:=Row.new w #[.slice A s.length cap] 24
 have b1:Below w.heap.size w (w.alloc (.cells #[.slice A s.length cap] 24)):=bE
 have HS:Hid (∀W,Below w.heap.size w W→Nds W W.heap.size A s):=fun W hW=>nds_keep h (keeps_of hW) hW.size
 have HS0:Hid (∀W,Below w.heap.size w W→Nds W w.heap.size A s):=fun W hW=>nds_keep h (keeps_of hW) (Nat.le_refl _)
 obtain ⟨f,HF⟩:∃f,Hid (checkF s=f):=⟨_,rfl⟩
 have HC:Hid (∀W,Below w.heap.size w W→Calls Tryz.prog 27 #[srcV s A cap] W fun r w'=>r= .returned (ftV f)∧Below W.heap.size W w'):=fun W hW=>by rw[←HF.out];exact csource_any s A cap W sm h1 h2 (HS.out W hW)
 have HSM:=Lib.hid sm
 clear h sm
 go_enter Tryz.func21,Tryz.ntmps21
 go_upto_region 1 with (fail)
 generalize w.alloc (.cells #[.slice A s.length cap] 24)=W1 at*
 have hs1:=b1.size
 have c0:=rs1.src
 go_wp2_with fail
 refine (HC.out _ b1).mono ?_
 rintro r w2 ⟨rfl,hb2⟩
 have rs2:=rs1.below hb2 rs1.lt
 have hB2:=b1.trans (hb2.mono hs1)
 have hs2:=hB2.size
 clear c0 b1 hb2
 by_cases he:f.err=0
 rotate_left 1
 ·have e1:(f.err !=0)=true:=neq_yes he
  have HE:Hid (sizeS s=0):=by show _=_;unfold sizeS;rw[HF.out,if_neg he]
  clear he
  go_wp2_with fail
  go_ret
  exact ⟨by rw[HE.out];rfl,hB2⟩
 have e1:(f.err !=0)=false:=neq_no he
 have hce:(checkF s).err=0:=by rw[HF.out];exact he
 have HE:Hid (sizeS s=sizeF s mainNm):=by show _=_;unfold sizeS;rw[if_pos hce]
 obtain ⟨v,hv⟩:=sz_some (check_calls0 hce) (check_main hce)
 have hmm:= @run_makeMap Tryz.prog
 have hlS:=rs2.lt
 have hk:SzK (sizeF s) s A cap w.heap.size w.heap.size (w2.heap.size+1) (w2.heap.size+1+1) w2.heap.size:=⟨h1,h2,HSM.out,by have:=rs1.lt;omega,by omega,by omega,hs2,sizeF_le s⟩
 have HC1:=Lib.hid (size1_all hk (check_scope hce) (fun x v=>sizeF_is) hv (check_main hce))
 clear he hce hk hv
 go_upto_region 6 with (fail)
 change Code.wp _ _ _ _ (((w2.alloc (.map #[] 0)).alloc (.cells #[.map (some w2.heap.size)] 85)).alloc (.cells #[.func (.func 39) #[] #[.pointer (some ⟨w2.heap.size+1,0,none⟩),.pointer (some ⟨w.heap.size,0,none⟩),.pointer (some ⟨w2.heap.size+1+1,0,none⟩)]] 108))
 have b4:Below w2.heap.size w2 (((w2.alloc (.map #[] 0)).alloc (.cells #[.map (some w2.heap.size)] 85)).alloc (.cells #[.func (.func 39) #[] #[.pointer (some ⟨w2.heap.size+1,0,none⟩),.pointer (some ⟨w.heap.size,0,none⟩),.pointer (some ⟨w2.heap.size+1+1,0,none⟩)]] 108)):=bE
 have sz0:SzAt (sizeF s) s A cap w.heap.size w.heap.size (w2.heap.size+1) (w2.heap.size+1+1) w2.heap.size (((w2.alloc (.map #[] 0)).alloc (.cells #[.map (some w2.heap.size)] 85)).alloc (.cells #[.func (.func 39) #[] #[.pointer (some ⟨w2.heap.size+1,0,none⟩),.pointer (some ⟨w.heap.size,0,none⟩),.pointer (some ⟨w2.heap.size+1+1,0,none⟩)]] 108)) []:=
  ⟨rs2.below b4 hlS,(rowNew2 w2 (.map #[] 0) #[.map (some w2.heap.size)] 85).alloc _,rowNew3 w2 _ _ _ _,((mapn_made (sizeF s) w2).alloc _).alloc _,fun x hx=>absurd hx List.not_mem_nil,HS0.out _ (hB2.trans (b4.mono hs2))⟩
 have HB4:=Lib.hid (hB2.trans (b4.mono hs2))
 have hs4:=b4.size
 clear b4
 generalize (((w2.alloc (.map #[] 0)).alloc (.cells #[.map (some w2.heap.size)] 85)).alloc (.cells #[.func (.func 39) #[] #[.pointer (some ⟨w2.heap.size+1,0,none⟩),.pointer (some ⟨w.heap.size,0,none⟩),.pointer (some ⟨w2.heap.size+1+1,0,none⟩)]] 108))=W5 at*
 have cz:W5.cell? ⟨w2.heap.size+1+1,0,none⟩=some (.func (.func 39) #[] #[.pointer (some ⟨w2.heap.size+1,0,none⟩),.pointer (some ⟨w.heap.size,0,none⟩),.pointer (some ⟨w2.heap.size+1+1,0,none⟩)]):=(sz0.rz.cell 0).trans rfl
 have HC5:=Lib.hid (HC1.out W5 [] sz0)
 clear sz0 HC1
 go_wp2_with fail
 refine HC5.out.mono ?_
 rintro r w6 ⟨rfl,-,hu⟩
 have HB6:=Lib.hid (HB4.out.trans (Upd.below hu (fun k e=>by omega) (by omega)))
 go_wp2_with fail
 go_ret
 exact ⟨by rw[HE.out];rfl,HB6.out⟩
def wiresC (tys:List Int):List Value:=(tys.map fun t=> [Value.int .i64 t,.slice none 0 0]).flatten
theorem wiresC_snoc (tys:List Int) (t:Int):wiresC (tys++ [t])=wiresC tys++ [.int .i64 t,.slice none 0 0]:=by unfold wiresC;simp
theorem info_wire:(Tryz.prog.info? 141).map (fun i=>(i.zero,i.size,i.bytes))=some (some (.agg #[.int .i64 0,.slice none 0 0]),2,32):=by kernel_rfl
structure McAt (M:Nat) (As:Value) (base:Nat) (w:World) (tys:List Int) (vw vd vi vo:Value):Prop where
 row:Row w M #[As,vw,vd,vi,vo] 80
 own:w.ownsRow base 141 2 vw tys.length (wiresC tys)
 lt:M<base
 hb:base≤w.heap.size
theorem McAt.below {M base:Nat} {As vw vd vi vo:Value} {w w':World} {tys:List Int} (h:McAt M As base w tys vw vd vi vo) (hb:Below w.heap.size w w'):McAt M As base w' tys vw vd vi vo:=
 ⟨h.row.below hb h.row.lt,own_below h.own hb,h.lt,Nat.le_trans h.hb hb.size⟩
theorem fwire_any {M base:Nat} {As vw vd vi vo:Value} {tys:List Int} (ty:Int) (w:World) (h:McAt M As base w tys vw vd vi vo) (hl:tys.length<1000):
  Calls Tryz.prog 29 #[.pointer (some ⟨M,0,none⟩),.int .i64 ty,.slice none 0 0] w fun r w'=>r= .returned (.int .i64 tys.length)∧(∃vw',McAt M As base w' (tys++ [ty]) vw' vd vi vo∧(vw'.ownBlock=vw.ownBlock∨∃g,vw'.ownBlock=some g∧w.heap.size≤g))∧Upd (fun j=>j=M∨vw.ownBlock=some j) w w':=by
 obtain ⟨i0,hi0,hz0,hz1,hz2⟩:=info_parts info_wire
 obtain ⟨Aw,cw,rfl,-⟩:=own_rd h.own
 have HH:=Lib.hid h
 have hlt:=h.lt
 have hbb:=h.hb
 have c1:w.cell? ⟨M,1,none⟩=some (.slice Aw tys.length cw):=(h.row.cell 1).trans rfl
 have HO:=Lib.hid h.own
 clear h
 go_enter Tryz.func29,Tryz.ntmps29
 go_wp2_with (at_builtin;refine wpList_append_any _ rfl _ _ 45 rfl base 141 i0 (.agg #[.int .i64 0,.slice none 0 0]) 2 32 Tryz.underlying45 hi0 hz0 hz1 hz2 rfl (by decide) _ _ _ rfl (HO.out.alloc _) ⟨_,0,none⟩ 1 1 [.int .i64 ty,.slice none 0 0] rfl rfl (cells_new5 _ _ _) (by intro u hu;simp at hu;rcases hu with rfl|rfl<;>rfl) (by unfold maxLen;omega) (by omega) (by first|omega|(simp;omega)|simp) ?_)
 intro v9 w9 hown9 hg9 hb9
 obtain ⟨A9,c9,hv9,-⟩:=own_rd hown9
 subst hv9
 have hMl:=HH.out.row.lt
 have hgb:∀g,(Value.slice Aw tys.length cw).ownBlock=some g→base≤g:=fun g hg=>(HO.out.lt g hg).1
 have r9:=Row.ownB (HH.out.row.alloc _) (HO.out.alloc _) hlt hg9
 have f9:=r9.frozen 1
 have g9:=(r9.cell 1).trans rfl
 have u9:Upd (fun j=>(Value.slice Aw tys.length cw).ownBlock=some j) w w9:=(Upd.of_below (bE:Below w.heap.size w (w.alloc (.cells #[.int .i64 ty,.slice none 0 0] 141)))).trans ⟨hg9.os,hg9.tape,hg9.output,hg9.size,fun j hj hX=>hg9.block j hj (fun e=>hX e.symm)⟩
 have u10:Upd (fun j=>j=M) w9 (w9.setCell ⟨M,1,none⟩ (.slice A9 (tys.length+1) c9)):=(Upd.refl (fun j=>j=M) w9).setCell (p:=⟨M,1,none⟩) rfl _
 have r10:Row (w9.setCell ⟨M,1,none⟩ (.slice A9 (tys.length+1) c9)) M #[As,.slice A9 (tys.length+1) c9,vd,vi,vo] 80:=by
  have:=r9.set 1 (.slice A9 (tys.length+1) c9)
  simpa using this
 have q10:(w9.setCell ⟨M,1,none⟩ (.slice A9 (tys.length+1) c9)).cell? ⟨M,1,none⟩=some (.slice A9 (tys.length+1) c9):=(r10.cell 1).trans rfl
 have HFIN:Hid (McAt M As base (w9.setCell ⟨M,1,none⟩ (.slice A9 (tys.length+1) c9)) (tys++ [ty]) (.slice A9 (tys.length+1) c9) vd vi vo):={
  row:=r10
  own:=by
   rw[wiresC_snoc,List.length_append]
   exact own_updX hown9 u10 (fun j e=>by omega)
  lt:=hlt
  hb:=by have:=u9.size;have:=u10.size;omega}
 have HU:Hid (Upd (fun j=>j=M∨(Value.slice Aw tys.length cw).ownBlock=some j) w (w9.setCell ⟨M,1,none⟩ (.slice A9 (tys.length+1) c9))):=(u9.mono (fun j e=>Or.inr e)).trans (u10.mono (fun j e=>Or.inl e))
 have HVB:Hid ((Value.slice A9 (tys.length+1) c9).ownBlock=(Value.slice Aw tys.length cw).ownBlock∨∃g,(Value.slice A9 (tys.length+1) c9).ownBlock=some g∧w.heap.size≤g):=hb9.imp id (fun e=>⟨_,e,by simp⟩)
 clear hown9 hg9 hb9 r9 u9 u10 r10 hgb
 go_wp2_with fail
 go_ret
 exact ⟨rfl,⟨_,HFIN.out,HVB.out⟩,HU.out⟩
abbrev plA (n:Nd) (a:NdA) (K:Nat):Array Value:= #[.string n.name,.slice a.ai n.ins.length a.ci,.slice a.ao n.outs.length a.co,.slice a.av n.vars.length a.cv,.slice a.aq n.eqs.length a.cq,.int .i64 n.line,.int .i64 n.col,.map (some K),.slice none 0 0]
theorem clone_no (w:World):Calls Tryz.prog 107 #[.slice none 0 0] w fun r w'=>r= .returned (.slice none 0 0)∧w'=w:=by
 have hq:=fun (w:World) (a:Option Addr) (n c:Nat)=>Lib.run_eql_slice_nil (P:=Tryz.prog) w 86 152 a n c 0 0 Tryz.underlying86
 refine' zq108
 go_wp2_with fail
 go_ret
 exact ⟨rfl,rfl⟩
theorem guards_no (P:Nat) (K:Option Addr) (c:Nat) (w:World) (hp:w.cell? ⟨P,8,none⟩=some (.slice none 0 0)):
  Calls Tryz.prog 61 #[.pointer (some ⟨P,0,none⟩),.slice K 0 c] w fun r w'=>r= .returned (.slice none 0 0)∧w'=w:=by
 have HC:=Lib.hid (clone_no w)
 go_enter Tryz.func61,Tryz.ntmps61
 go_wp2_with fail
 refine HC.out.mono ?_
 rintro r w' ⟨rfl,rfl⟩
 go_wp2_with fail
 go_loopw[5,15] (fun v5 i wr=> .slice none 0 0=v5∧i= .int .i64 0∧w'=wr) (fun _ _ _=>0)
 case atStart=>exact ⟨rfl,rfl,rfl⟩
 case round=>
  obtain ⟨rfl,rfl,rfl⟩:=hrel
  go_wp2_with fail
  go_ret
  exact ⟨rfl,rfl⟩
theorem guards_zero (P:Nat) (K:Option Addr) (m c:Nat) (w:World) (hm:m=0) (hp:w.cell? ⟨P,8,none⟩=some (.slice none 0 0)):
  Calls Tryz.prog 61 #[.pointer (some ⟨P,0,none⟩),.slice K m c] w fun r w'=>r= .returned (.slice none 0 0)∧w'=w:=by
 subst hm
 exact guards_no P K c w hp
def nosF (F:ByteArray→Int) (l:List Vr):List Int:=l.map fun v=>F v.name
theorem nosF_take {F:ByteArray→Int} {l:List Vr} {k:Nat} {x:Vr} (h:l[k]? =some x):nosF F (l.take (k+1))=nosF F (l.take k)++ [F x.name]:=by
 unfold nosF
 rw[List.take_add_one,h];simp
structure PlAt (w:World) (P K N:Nat) (n:Nd) (a:NdA) (F:ByteArray→Int) (L:List ByteArray):Prop where
 row:Row w P (plA n a K) 88
 nd:NdAt w N n a
 map:MapI F w K L
 hP:N≤P
 hK:N≤K
 ne:P≠K
theorem PlAt.below {w w':World} {P K N:Nat} {n:Nd} {a:NdA} {F:ByteArray→Int} {L:List ByteArray} (h:PlAt w P K N n a F L) (hb:Below w.heap.size w w'):PlAt w' P K N n a F L:=
 ⟨h.row.below hb h.row.lt,h.nd.keep (keeps_of (hb.mono (Nat.le_trans h.hP (Nat.le_of_lt h.row.lt)))) (Nat.le_refl _),h.map.below hb h.map.lt,h.hP,h.hK,h.ne⟩
theorem list_any {P K N:Nat} {n:Nd} {a:NdA} {F:ByteArray→Int} {L:List ByteArray} (w:World) (H:PlAt w P K N n a F L) (l:List Vr) (A:Option Addr) (cap:Nat) (h2:cap≤maxLen) (hl:l.length≤50) (h:Sl w w.heap.size 5 (isVr w w.heap.size) A l) (hm:∀x∈l,x.name.size≤maxLen∧x.name∈L):
  Calls Tryz.prog 30 #[.pointer (some ⟨P,0,none⟩),.slice A l.length cap] w fun r w'=>(∃v,r= .returned v∧IntsO w.heap.size w' v (nosF F l))∧Below w.heap.size w w':=by
 refine' zq125
 have HV:Hid (∀W,Below w.heap.size w W→Sl W w.heap.size 5 (isVr W w.heap.size) A l):=fun W hW=>vrs_keep h (keeps_of hW) (Nat.le_refl _)
 refine' zq50
 have HH:=Lib.hid H
 have HM:=Lib.hid hm
 clear h H hm
 go_enter Tryz.func30,Tryz.ntmps30
 go_wp2_with fail
 go_loopw[5,10] (fun v i wr=>∃(k:Nat) (v0:Value),k≤l.length∧i= .int .i64 k∧v0=v∧wr.ownsRow w.heap.size 3 1 v0 k (intsV (nosF F (l.take k)))∧Below w.heap.size w wr) (fun _ i _=>l.length-(intOf i).toNat)
 case atStart=>exact ⟨0,_,Nat.zero_le _,rfl,rfl,World.ownsRow_nil _ _ _ _,Below.refl _ _⟩
 case round=>
  obtain ⟨k,v,hk,rfl,rfl,hown,hbr⟩:=hrel
  have hszr:=hbr.size
  by_cases hlt:k<l.length
  ·obtain ⟨b,off,x,A',cap',hA,hb,hxk,ok,g1,g2,hxs,d0,d1,d2,d3,d4⟩:=(HV.out wr hbr).vr hlt
   rw[hA]
   have HTK:=Lib.hid (nosF_take (F:=F) hxk)
   have HX:=Lib.hid (HM.out x (List.mem_of_getElem? hxk))
   have bx:Below wr.heap.size wr (wr.alloc (.cells (vrArr x A' cap') 103)):=bE
   refine' zq128
   go_upto_region 5 with (fail)
   clear d0 d1 d2 d3 d4
   generalize hW5:wr.alloc (.cells (vrArr x A' cap') 103)=w5 at*
   clear hW5
   have hb5:=hbr.trans (bx.mono hszr)
   have HS:Hid (∀W,Below w5.heap.size w5 W→W.cell? ⟨P,7,none⟩=some (.map (some K))∧W.cell? ⟨wr.heap.size,0,none⟩=some (.string x.name)∧(Instr.lookup 85 (.map (some K)) (.string x.name) false).run Tryz.prog W= .ok (.int .i64 (F x.name)) W):=fun W hW=>by
    have p1:=HH.out.below (hb5.trans (hW.mono hb5.size))
    exact ⟨(p1.row.cell 7).trans rfl,((rx.below hW hsx).cell 0).trans rfl,p1.map.look HX.out.1 HX.out.2⟩
   refine wp_region_held_drew (S:=fun W=>W.cell? ⟨P,7,none⟩=some (.map (some K))∧W.cell? ⟨wr.heap.size,0,none⟩=some (.string x.name)∧(Instr.lookup 85 (.map (some K)) (.string x.name) false).run Tryz.prog W= .ok (.int .i64 (F x.name)) W) (by kernel_rfl) ?_ (fun hHeld=>?_)
   ·(try dsimp only);(first|exact HS13.out|(with_reducible exact HS.out _ bE))
   refine tk 0 (some 14) rfl ?_
   refine tk 1 (some 15) rfl ?_
   refine tk 2 (some 16) rfl ?_
   refine tk 3 (some 17) rfl ?_
   refine tk 4 (some 18) rfl ?_
   refine tk 5 (some 19) rfl ?_
   refine tk 6 (some 20) rfl ?_
   refine rd1 7 (some 21) rfl (fun KK hKK=>?_)
   refine' zq12
   refine rd1 8 (some 22) rfl (fun KK hKK=>?_)
   go_simp
   refine hKK.out _ _ ?_ (fun hHeld=>?_)
   ·(try dsimp only);(first|exact HS13.out|(with_reducible exact HS.out _ bE))
   clear hKK KK
   refine' zq1
   refine rd1 9 (some 23) rfl (fun KK hKK=>?_)
   refine' zq12
   refine tk 10 (some 5) rfl ?_
   refine wpAnyH_done (by kernel_rfl) ?_ _
   have hown7:w13.ownsRow w.heap.size 3 1 v13 (k+1) (intsV (nosF F (l.take (k+1)))):=by rw[HTK.out,intsV_snoc];exact hown13
   clear hown ho2 hown13 hg13
   go_wp2_with fail
   go_roundw
   case rel=>exact ⟨k+1,_,by omega,by go_num,rfl,hown7,hb13⟩
   case measure=>first|(simp[intOf];omega)|simp[intOf]
  ·obtain rfl:k=l.length:=by omega
   have hown7:IntsO w.heap.size wr v (nosF F l):=by
    have e:(nosF F l).length=l.length:=by simp[nosF]
    rw[List.take_length] at hown
    unfold IntsO
    rw[e]
    exact hown
   go_wp2_with fail
   go_ret
   exact ⟨⟨_,rfl,hown7⟩,hbr⟩
end Go.Proofs.YtdkgkacnjdnpoaaGreat
