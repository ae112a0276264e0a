/-
  What the examples' sources are to stream.Run. Plain. The source of the depend chapter's example has no fault. Plain. The contract of flat.maker.expr for expressions without calls and clocks. The contract of flat.maker.expr at a name; the contract of all its shapes. The contract of flat.maker.define.
-/
import Derived.Test.YtdkgkacnjdnpoaaGreatZz
import Derived.Test.YtdkgkacnjdnpoaaGreatStzP
import Derived.Test.YtdkgkacnjdnpoaaGreatStzM
import Derived.Test.YtdkgkacnjdnpoaaGreatStzW
import Derived.Deep.RegionHeld3
import Derived.Test.YtdkgkacnjdnpoaaGreatFoL
import Derived.Test.YtdkgkacnjdnpoaaGreatExMem
import Derived.Test.YtdkgkacnjdnpoaaGreatTreePlain
import Derived.BigQuiet
import Derived.Test.YtdkgkacnjdnpoaaGreatRgL
import Derived.Test.YtdkgkacnjdnpoaaGreatCauD
import Derived.Deep.DeepCutAuto
import Derived.Test.YtdkgkacnjdnpoaaGreatDnR
import Derived.Test.YtdkgkacnjdnpoaaGreatCkB
set_option maxHeartbeats 4000000
set_option maxRecDepth 100000
namespace Go.Proofs.YtdkgkacnjdnpoaaGreat
open _root_.Go.Proofs.YtdkgkacnjdnpoaaGreat.Nm
theorem size_free {s:List Nd} {n:Nd} (hn:nodeAt s mainNm=some n) (h:∀q∈n.eqs,∀x∈exList q.right,x.op≠4) (hv:(vrs n).length≤400):sizeS s≤400:=by
 have hu:∀c,c∉usesF n:=fun c hc=>by
  obtain ⟨q,hq,x,hx,h4,_⟩:=usesF_mem.1 hc
  exact h q hq x hx h4
 have hs:SzIs s mainNm (szOf n (fun _=>0)):= .node _ hn fun c hc=>absurd hc (hu c)
 have hc:calleesOf n=[]:=List.eq_nil_iff_forall_not_mem.2 fun c hc=>hu c (callees_mem.1 hc)
 unfold sizeS
 split
 ·rw[sizeF_is hs]
  unfold szOf
  rw[hc]
  unfold capZ
  simp only[List.map_nil,List.sum_nil]
  omega
 ·omega
abbrev xE:Ex:=⟨3,⟨#[97]⟩,0,[],1,51⟩
abbrev xF0:Ex:=⟨3,⟨#[100]⟩,0,[],1,58⟩
abbrev xF1:Ex:=⟨3,⟨#[99]⟩,0,[],1,64⟩
abbrev xF:Ex:=⟨22,⟨#[]⟩,0,[xF0,xF1],1,60⟩
abbrev ndE:Nd:=⟨⟨#[109,97,105,110]⟩,[⟨⟨#[97]⟩,1,[],1,11⟩,⟨⟨#[100]⟩,1,[],1,14⟩],[⟨⟨#[98]⟩,1,[],1,31⟩,⟨⟨#[99]⟩,1,[],1,34⟩],[],[⟨[⟨#[98]⟩],xE,1,47⟩,⟨[⟨#[99]⟩],xF,1,54⟩],1,6⟩
abbrev srE:List Nd:=[ndE]
def txE:ByteArray:=⟨#[110,111,100,101,32,109,97,105,110,40,97,44,32,100,58,32,105,110,116,41,32,114,101,116,117,114,110,115,32,40,98,44,32,99,58,32,105,110,116,41,59,32,108,101,116,32,98,32,61,32,97,59,32,99,32,61,32,100,32,102,98,121,32,99,59,32,116,101,108]⟩
theorem txE_is:ptext txE=some srE:=by kernel_rfl
theorem xE_list:exList xE=[xE]:=by rw[exList_eq];simp[Ex.args]
theorem xF0_list:exList xF0=[xF0]:=by rw[exList_eq];simp[Ex.args]
theorem xF1_list:exList xF1=[xF1]:=by rw[exList_eq];simp[Ex.args]
theorem xF_list:exList xF=[xF,xF0,xF1]:=by rw[exList_eq];simp[Ex.args,xF0_list,xF1_list]
theorem xE_rt:exRight xE=true:=by
 unfold exRight
 rw[xE_list]
 simp[plainB,plainK,Ex.op,Ex.args,Ex.name,Ex.n,partsZ,namesB,ByteArray.toList_eq,exHeight,Ex.para_eq,maxL]
 try decide
theorem xF_rt:exRight xF=true:=by
 unfold exRight
 rw[xF_list]
 simp[plainB,plainK,Ex.op,Ex.args,Ex.name,Ex.n,partsZ,namesB,ByteArray.toList_eq,exHeight,Ex.para_eq,maxL]
 try decide
theorem srE_rt:SrcRt srE:=by
 have h0:nameB [109,97,105,110]=true:=by decide
 have h1:nameB [97]=true:=by decide
 have h2:nameB [98]=true:=by decide
 have h3:nameB [99]=true:=by decide
 have h4:nameB [100]=true:=by decide
 unfold SrcRt NdRt EqnRt VrsRt VrRt
 simp[ByteArray.toList_eq,h0,h1,h2,h3,h4,xE_rt,xF_rt]
theorem srE_scope:scopeF srE=ft0:=by
 unfold scopeF
 rw[if_neg (fun g=>g srE_rt)]
 simp[fstL,fstl,ft2,nameF,nodeF,variablesF,varF,equationsF,eqnF,leftF,leftNF,countF,exprF,subF,Ex.para_eq,oneF,defF,mainF,metTo,lefts,nms,vrs,mainNm,namesB,ft0,Ex.op,Ex.args,Ex.name]
theorem ndE_ta:tyOf ndE ⟨#[97]⟩=1:=by kernel_rfl
theorem ndE_tc:tyOf ndE ⟨#[99]⟩=1:=by kernel_rfl
theorem ndE_td:tyOf ndE ⟨#[100]⟩=1:=by kernel_rfl
theorem xE_ty:tyR srE ndE xE=(ft0,1):=by
 rw[tyR_eq]
 simp[tyStep,opF,opTy,fstl,ft2,Ex.op,Ex.args,Ex.name,signB,ft0,ndE_ta]
theorem xF0_ty:tyR srE ndE xF0=(ft0,1):=by
 rw[tyR_eq]
 simp[tyStep,opF,opTy,fstl,ft2,Ex.op,Ex.args,Ex.name,signB,ft0,ndE_td]
theorem xF1_ty:tyR srE ndE xF1=(ft0,1):=by
 rw[tyR_eq]
 simp[tyStep,opF,opTy,fstl,ft2,Ex.op,Ex.args,Ex.name,signB,ft0,ndE_tc]
theorem xF_ty:tyR srE ndE xF=(ft0,1):=by
 rw[tyR_eq]
 simp[tyStep,opF,opTy,fstl,ft2,needF,Ex.op,Ex.args,signB,ft0,xF0_ty,xF1_ty]
theorem srE_types:typesF srE=ft0:=by
 unfold typesF
 rw[srE_scope]
 have h1:tyOf ndE ⟨#[98]⟩=1:=by kernel_rfl
 have h:nodeTF srE ndE=ft0:=by
  simp[nodeTF,eqnTF,leftTs,comeOf,tyF,tyK,Ex.op,fstl,ft2,needF,ft0,h1,ndE_tc,xE_ty,xF_ty]
 simp[fstL,fstl,ft2,h,ft0]
theorem ndE_ops:∀q∈ndE.eqs,∀x∈exList q.right,x.op≠4∧x.op≠24∧x.op≠25∧x.op≠26:=by
 intro q hq x hx
 simp at hq
 rcases hq with rfl|rfl
 all_goals
  dsimp only at hx
  simp only[xE_list,xF_list] at hx
  simp at hx
  (try rcases hx with rfl|rfl|rfl|rfl)<;>(try rcases hx with rfl|rfl|rfl)<;>simp[Ex.op]
theorem ndE_noclk:NoClk ndE:=by
 intro v hv
 simp[vrs] at hv
 rcases hv with rfl|rfl|rfl|rfl<;>rfl
theorem srE_ons:onsF srE=ft0:=by
 unfold onsF
 rw[srE_scope]
 have l_xE:lateR xE=(false,⟨0,0,0⟩):=by rw[lateR_eq];simp[lateC,lateEnd,Ex.op,Ex.args]
 have l_xF0:lateR xF0=(false,⟨0,0,0⟩):=by rw[lateR_eq];simp[lateC,lateEnd,Ex.op,Ex.args]
 have l_xF1:lateR xF1=(false,⟨0,0,0⟩):=by rw[lateR_eq];simp[lateC,lateEnd,Ex.op,Ex.args]
 have l_xF:lateR xF=(false,⟨0,0,0⟩):=by rw[lateR_eq];simp[lateC,lateEnd,Ex.op,Ex.args,l_xF0,l_xF1]
 simp[fstL,fstl,ft2,onsN,onsQ,l_xE,l_xF,ft0]
theorem xE_wants:∀z∈wantsL xE,z=(⟨#[97]⟩:ByteArray):=by
 intro z hz
 unfold wantsL at hz
 simp[Ex.para_eq,ownW,keepP,namesB,Ex.op,Ex.args,Ex.name] at hz
 exact hz
theorem xF_wants:∀z∈wantsL xF,z=(⟨#[100]⟩:ByteArray):=by
 intro z hz
 unfold wantsL at hz
 simp[Ex.para_eq,ownW,keepP,namesB,Ex.op,Ex.args,Ex.name] at hz
 exact hz
theorem srE_cause:causeF srE=ft0:=by
 refine one_cause srE_scope ndE_noclk fun q hq y hy=>?_
 simp at hq
 rcases hq with rfl|rfl
 ·dsimp only at hy
  rw[xE_wants y hy]
  simp[lefts]
 ·dsimp only at hy
  rw[xF_wants y hy]
  simp[lefts]
theorem srE_check:fstl [scopeF srE,typesF srE,callsF srE,clockF srE,onsF srE,causeF srE]=ft0:=by
 rw[srE_scope,srE_types,one_calls srE_scope (fun q hq x hx=>(ndE_ops q hq x hx).1),one_clock srE_scope ndE_noclk rfl (fun q hq x hx=>(ndE_ops q hq x hx).2),srE_ons,srE_cause]
 simp[fstl,ft0]
theorem srE_main:nodeAt srE mainNm=some ndE:=by simp[nodeAt,mainNm]
theorem srE_sm:SrcSm srE:=by
 refine ⟨by decide,fun n hn=>?_⟩
 rw[List.mem_singleton] at hn
 subst hn
 refine ⟨by decide,by decide,by decide,by decide,by decide,fun v hv=>?_,fun q hq=>?_⟩
 ·simp[vrs] at hv
  rcases hv with rfl|rfl|rfl|rfl<;>exact ⟨by decide,by decide,fun c hc=>absurd hc List.not_mem_nil⟩
 ·simp at hq
  rcases hq with rfl|rfl
  all_goals
   refine ⟨by decide,fun x hx=>?_,⟨?_,fun x hx=>?_⟩⟩
   ·simp at hx;subst hx;decide
   ·first|(show (exList xE).length≤900;rw[xE_list];decide)|(show (exList xF).length≤900;rw[xF_list];decide)
   ·dsimp only at hx
    simp only[xE_list,xF_list] at hx
    simp at hx
    (try rcases hx with rfl|rfl|rfl|rfl)<;>(try rcases hx with rfl|rfl|rfl)<;>decide
open Go.RowKit
attribute [local go_sem ↓] Go.wp_at_zero Go.wp_at_succ
def exF (F:ByteArray→Int) (e:Ex) (l:List Ex):Ex:=⟨e.op,⟨#[]⟩,if e.op=3 then F e.name else e.n,l,0,0⟩
inductive Fw (F:ByteArray→Int) (L:List ByteArray):Ex→Ex→Prop
 |num {e:Ex} (ho:e.op=1) (ha:e.args=[]):Fw F L e (exF F e [])
 |var {e:Ex} (ho:e.op=3) (ha:e.args=[]) (hm:e.name∈L):Fw F L e (exF F e [])
 |pre {e x y:Ex} (ho:e.op=21∨e.op=22∨e.op=23) (ha:e.args=[x]) (hx:Fw F L x y):Fw F L e (exF F e [y])
 |two {e x0 x1 y0 y1:Ex} (ho:e.op=21∨e.op=22∨e.op=23) (ha:e.args=[x0,x1]) (hx:Fw F L x0 y0) (hy:Fw F L x1 y1):Fw F L e (exF F e [y0,y1])
abbrev ouA (e:Ex) (k:Int) (v:Value):Array Value:= #[.int .i64 e.op,.string ⟨#[]⟩,.int .i64 k,v,.int .i64 0,.int .i64 0]
abbrev zeA:Array Value:= #[.int .i64 0,.string ⟨#[]⟩,.int .i64 0,.slice none 0 0,.int .i64 0,.int .i64 0]
def FwC (F:ByteArray→Int) (L:List ByteArray) (e e':Ex):Prop:=∀(P K N:Nat) (n:Nd) (a:NdA) (m vc:Value) (A:Option Addr) (cap:Nat) (w:World),PlAt w P K N n a F L→(∀x,Wf (F x))→ExOk e→e.args.length≤cap→cap≤maxLen→IsExs w w.heap.size A e.args→
 Calls Tryz.prog 64 #[m,.pointer (some ⟨P,0,none⟩),exV e A cap,vc] w fun r w'=>(∃A' c',r= .returned (exV e' A' c')∧ExH w' w.heap.size w'.heap.size e' A' c')∧Below w.heap.size w w'
theorem fexpr_step {e e':Ex} {P K N:Nat} {n:Nd} {a:NdA} {F:ByteArray→Int} {L:List ByteArray} (m vc:Value) (A:Option Addr) (cap:Nat) (w:World) (hP:PlAt w P K N n a F L) (he:e.op=1∨e.op=21∨e.op=22∨e.op=23) (hn:e.args.length≤2) (l':List Ex) (hl:l'.length=e.args.length) (heq:e'=exF F e l') (hih:∀(i:Nat) x y,e.args[i]? =some x→l'[i]? =some y→FwC F L x y) (hF:∀x,Wf (F x)) (ok:ExOk e) (hc:e.args.length≤cap) (hm:cap≤maxLen) (hx:IsExs w w.heap.size A e.args):
  Calls Tryz.prog 64 #[m,.pointer (some ⟨P,0,none⟩),exV e A cap,vc] w fun r w'=>(∃A' c',r= .returned (exV e' A' c')∧ExH w' w.heap.size w'.heap.size e' A' c')∧Below w.heap.size w w':=by
 obtain ⟨i0,hi0,hz0,hz1,hz2⟩:=info_parts info_expr
 have HX:Hid (∀W,Below w.heap.size w W→IsExs W w.heap.size A e.args):=fun W hW=>exs_keep hx (keeps_of hW) (Nat.le_refl _)
 have HIH:=Lib.hid hih
 have HP:=Lib.hid hP
 have HO:=Lib.hid ok
 have HE:=Lib.hid heq
 have HF:=Lib.hid hF
 have HL:=Lib.hid hl
 have hop:(e.op==24)=false∧(e.op==25)=false∧(e.op==26)=false∧(e.op==4)=false∧(e.op==3)=false:=by simp only[beq_eq_false_iff_ne];omega
 obtain ⟨o24,o25,o26,o4,o3⟩:=hop
 have hm':cap≤9223372036854775807:=by unfold maxLen at hm;omega
 clear hx hih hP ok heq hF hl
 refine' zq10
 go_wp2_with fail
 clear x0 x1 x2 x3 x4 x5
 go_loopw[46] (fun i wr=>∃(k:Nat) (v:Value) (T:List FT),k≤e.args.length∧i= .int .i64 k∧Row wr w.heap.size (exA e A cap) 63∧Row wr (w.heap.size+1) zeA 63∧Row wr (w.heap.size+1+1) (ouA e e.n v) 63∧Hid (FxI wr (w.heap.size+3) 63 0 v T)∧Hid (T.length=k∧T.map FT.e=l'.take k)∧Below w.heap.size w wr∧w.heap.size+3≤wr.heap.size) (fun i _=>e.args.length-(intOf i).toNat)
 case atStart=>exact ⟨0,_,[],Nat.zero_le _,rfl,rE,rR,rO,FxI.nil,⟨rfl,by simp⟩,b1,hs1⟩
 case round=>
  obtain ⟨k,v,T,hk,rfl,rE,rR,rO,HT,HTL,hB,hsw⟩:=hrel
  obtain ⟨x0,x1,x2,x3,x4,x5⟩:=rE.ex6
  by_cases hlt:k<e.args.length
  rotate_left 1
  ·obtain rfl:k=e.args.length:=by omega
   obtain ⟨A',c',hv',hc1,hc2,hI⟩:=HT.out.exs (B:=w.heap.size+3) (Nat.le_refl _)
   subst hv'
   have hTl:T.map FT.e=l':=by rw[HTL.out.2,←HL.out,List.take_length]
   have hTn:T.length=l'.length:=by rw[HTL.out.1,HL.out]
   rw[hTl] at hI
   rw[hTn] at hc1 rO
   have hn3:e.op≠3:=by simpa using o3
   have HOK:Hid (ExOk (exF F e l')):=⟨HO.out.op,Nat.zero_le _,by show Wf (if e.op=3 then F e.name else e.n);rw[if_neg hn3];exact HO.out.n,wf_of (n:=0) ⟨by decide,by decide⟩,wf_of (n:=0) ⟨by decide,by decide⟩⟩
   have HX9:Hid (ExH wr (w.heap.size+3) wr.heap.size (exF F e l') A' c'):=IsEx.mk' HOK.out hc1 hc2 hI
   have HN3:Hid ((exF F e l').n=e.n):=if_neg hn3
   obtain ⟨⟨q0,q1,q2,q3,q4,q5⟩,-⟩:=Row.e6 rO
   obtain ⟨⟨r0,r1,r2,r3,r4,r5⟩,f0,f1,f2,f3,f4,f5⟩:=Row.e6 rR
   have HB:=Lib.hid hB
   clear x1 x2 x3 x4 x5 hI hTl hTn hc1 hB hn3
   go_wp2_with fail
   have u9:=upd_six wr (w.heap.size+1) (.int .i64 e.op) (.string ⟨#[]⟩) (.int .i64 e.n) (.slice A' l'.length c') (.int .i64 0) (.int .i64 0)
   have hs9:=u9.size
   refine bodyPost_ret (res1 rfl Tryz.underlying63 rfl (by kernel_rfl) rfl (Row.e6set rR (.int .i64 e.op) (.string ⟨#[]⟩) (.int .i64 e.n) (.slice A' l'.length c') (.int .i64 0) (.int .i64 0))) rfl ⟨⟨A',c',?_,?_⟩,?_⟩
   ·rw[HE.out]
    show _=Ending.returned (.agg #[.int .i64 e.op,.string ⟨#[]⟩,.int .i64 (exF F e l').n,.slice A' l'.length c',.int .i64 0,.int .i64 0])
    rw[HN3.out]
   ·rw[HE.out]
    exact (HX9.out.upd u9 (fun j e=>by omega) (Nat.le_refl _)).wide (by omega) hs9
   ·exact HB.out.trans (u9.below (fun j e=>by omega) HB.out.size)
  obtain ⟨b,off,x,A',cap',hA,hb,hxk,hxm,hok',hcap',hmax',hx',d0,d1,d2,d3,d4,d5⟩:=(HX.out wr hB).at_ hlt
  obtain ⟨y,hy⟩:∃y,l'[k]? =some y:=⟨l'[k]'(by rw[HL.out];exact hlt),List.getElem?_eq_getElem _⟩
  have hiy:=HIH.out k x y hxk hy
  have bX:Below wr.heap.size wr (wr.alloc (.cells (exA x A' cap') 63)):=bE
  have rX:=Row.new wr (exA x A' cap') 63
  have HTC:=Lib.hid (fun (W:World) (hW:Below wr.heap.size wr W)=>hiy _ _ _ _ _ m vc A' cap' W (HP.out.below (hB.trans (hW.mono hB.size))) HF.out hok' hcap' hmax' (exs_keep hx' (keeps_of (hW.mono (Nat.le_trans (Nat.le_add_right _ 3) hsw))) (Nat.le_trans (Nat.le_trans (Nat.le_add_right _ 3) hsw) hW.size)))
  have HTK:Hid (l'.take (k+1)=l'.take k++ [y]):=by
   show _=_
   rw[List.take_add_one,hy];rfl
  subst hA
  clear x1 x2 x3 x4 x5 hiy hy hxk hxm hok' hcap' hx'
  go_upto_region 14 with (fail)
  change Code.wp _ _ _ _ (wr.alloc (.cells (exA x A' cap') 63))
  clear d0 d1 d2 d3 d4 d5 x0
  have rE2:=rE.below bX rE.lt
  have rR2:=rR.below bX rR.lt
  have rO2:=rO.below bX rO.lt
  have hs2:=bX.size
  have hxl:=rX.lt
  generalize wr.alloc (.cells (exA x A' cap') 63)=W2 at*
  obtain ⟨x0,-⟩:=rE2.ex6
  have hTk:=HTL.out.1
  obtain ⟨Av,cv,hv,-⟩:=own_rd HT.out.own
  rw[hTk] at hv
  subst hv
  have HTN:=Lib.hid hTk
  clear hTk
  go_upto_region 20 with (fail)
  have HMK:Hid (∀W,Row W (w.heap.size+1+1) (ouA e e.n (.slice Av k cv)) 63→Row W wr.heap.size (exA x A' cap') 63→W.cell? ⟨w.heap.size+1+1,3,none⟩=some (.slice Av k cv)∧W.cell? ⟨wr.heap.size,0,none⟩=some (.int .i64 x.op)∧W.cell? ⟨wr.heap.size,1,none⟩=some (.string x.name)∧W.cell? ⟨wr.heap.size,2,none⟩=some (.int .i64 x.n)∧W.cell? ⟨wr.heap.size,3,none⟩=some (.slice A' x.args.length cap')∧W.cell? ⟨wr.heap.size,4,none⟩=some (.int .i64 x.line)∧W.cell? ⟨wr.heap.size,5,none⟩=some (.int .i64 x.col)):=fun W g1 g2=>⟨(g1.cell 3).trans rfl,g2.ex6⟩
  have q4:=HMK.out W2 rO2 rX
  have hgb:Hid (∀g,(Value.slice Av k cv).ownBlock=some g→w.heap.size+3≤g∧g<wr.heap.size):=fun g hg=>HT.out.own.lt g hg
  have HTO:Hid (wr.ownsRow (w.heap.size+3) 63 6 (.slice Av k cv) k (T.map FT.cells).flatten):=by
   have:=HT.out.own
   rw[HTN.out] at this
   exact this
  refine wp_region_L 10 (S:=fun W=>W.cell? ⟨w.heap.size+1+1,3,none⟩=some (.slice Av k cv)∧W.cell? ⟨wr.heap.size,0,none⟩=some (.int .i64 x.op)∧W.cell? ⟨wr.heap.size,1,none⟩=some (.string x.name)∧W.cell? ⟨wr.heap.size,2,none⟩=some (.int .i64 x.n)∧W.cell? ⟨wr.heap.size,3,none⟩=some (.slice A' x.args.length cap')∧W.cell? ⟨wr.heap.size,4,none⟩=some (.int .i64 x.line)∧W.cell? ⟨wr.heap.size,5,none⟩=some (.int .i64 x.col)) (by kernel_rfl) ?_ (fun hHeld=>?_)
  ·refine' zq159
  refine tkL 0 (some 73) rfl ?_
  refine tkL 1 (some 74) rfl ?_
  refine tkL 2 (some 75) rfl ?_
  refine tkL 3 (some 76) rfl ?_
  refine tkL 4 (some 77) rfl ?_
  refine tkL 5 (some 78) rfl ?_
  refine rdL 6 (some 79) rfl (fun KK hKK=>?_)
  go_simp
  ((go_at_call 64);(refine Calls.mono (HTC.out _ (Below.drew bX)) ?_);rintro res w7 ⟨⟨Ay,cy,rfl,hey⟩,hb7⟩;(have hb8:Below W2.heap.size W2 w7:=Below.trans bE (hb7.mono lE));(have hs8:=hb8.size);(have hbr:=bX.trans (hb8.mono bX.size));(have HO7:Hid (∀ob:Obj,(w7.alloc ob).ownsRow (w.heap.size+3) 63 6 (.slice Av k cv) k (T.map FT.cells).flatten):=fun ob=>(own_below HTO.out hbr).alloc ob);(have HB7:Hid (∀ob:Obj,w.heap.size+3≤(w7.alloc ob).heap.size):=fun ob=>by simp;omega);(have rO7:=rO2.below hb8 rO2.lt);(have rX7:=rX.below hb8 rX.lt);(have HS7:=Lib.hid (HMK.out w7 rO7 rX7));(have HS8:=Lib.hid (fun ob:Obj=>HMK.out (w7.alloc ob) (rO7.alloc ob) (rX7.alloc ob))))
  (try go_wp2_with fail)
  refine' zq15
  refine rdL 7 (some 80) rfl (fun KK hKK=>?_)
  go_simp
  refine' zq15
  refine rdL 8 (some 81) rfl (fun KK hKK=>?_)
  ((rw[if_pos (by kernel_rfl)]);(refine wp_append_any _ (.tmp 74) (.tmp 80) 61 rfl (w.heap.size+3) 63 i0 _ 6 72 Tryz.underlying61 hi0 hz0 hz1 hz2 rfl (by decide) _ k (T.map FT.cells).flatten rfl (HO7.out _) ⟨_,0,none⟩ 1 1 (exCells y Ay cy) rfl rfl (cells_new5 _ _ _) (by intro u hu;simp[exCells] at hu;rcases hu with rfl|rfl|rfl|rfl|rfl|rfl<;>rfl) (by unfold maxLen;omega) (by omega) (HB7.out _) ?_);(intro v9 w9 hown9 hg9 hb9);(have r9:=Row.ownB (rO7.alloc _) (HO7.out _) (by omega) hg9);(have x9:Row w9 wr.heap.size (exA x A' cap') 63:=(hg9.block _ (rX7.alloc _).lt (fun e=>by have:=(hgb.out _ e.symm).2;omega)).trans (rX7.alloc _));(have q9:=HMK.out w9 r9 x9);(have z9:=r9.frozen 3);(obtain ⟨A9,c9,hv9,-⟩:=own_rd hown9);subst hv9)
  refine' zq15
  refine rdL 9 (some 82) rfl (fun KK hKK=>?_)
  go_simp
  refine' zq15
  refine' zq37
  have ug:Upd (fun j=>(Value.slice Av k cv).ownBlock=some j∨w7.heap.size≤j) w7 w9:=(Upd.of_below (bE:Below w7.heap.size w7 (w7.alloc (.cells #[.int .i64 y.op,.string y.name,.int .i64 y.n,.slice Ay y.args.length cy,.int .i64 y.line,.int .i64 y.col] 63)))).trans ⟨hg9.os,hg9.tape,hg9.output,hg9.size,fun j hj hX=>hg9.block j hj (fun e=>hX (Or.inl e.symm))⟩
  have u10:Upd (fun j=>j=w.heap.size+1+1) w9 (w9.setCell ⟨w.heap.size+1+1,3,none⟩ (.slice A9 (k+1) c9)):=(Upd.refl (fun j=>j=w.heap.size+1+1) w9).setCell (p:=⟨w.heap.size+1+1,3,none⟩) rfl _
  have U:Upd (fun j=>(j=w.heap.size+1+1∨(Value.slice Av k cv).ownBlock=some j)∨w7.heap.size≤j) w7 (w9.setCell ⟨w.heap.size+1+1,3,none⟩ (.slice A9 (k+1) c9)):=(ug.mono (fun j e=>e.elim (fun e=>Or.inl (Or.inr e)) Or.inr)).trans (u10.mono (fun j e=>Or.inl (Or.inl e)))
  have r10:Row (w9.setCell ⟨w.heap.size+1+1,3,none⟩ (.slice A9 (k+1) c9)) (w.heap.size+1+1) (ouA e e.n (.slice A9 (k+1) c9)) 63:=by
   have:=r9.set 3 (.slice A9 (k+1) c9)
   simpa using this
  have hsg:=ug.size
  have hsU:=U.size
  have hgb9:=hgb.out
  have hnot:∀b0,b0<w.heap.size+1+1→¬((b0=w.heap.size+1+1∨(Value.slice Av k cv).ownBlock=some b0)∨w7.heap.size≤b0):=fun b0 hb0 e=>by
   rcases e with (e|e)|e
   ·omega
   ·have:=hgb9 b0 e;omega
   ·omega
  have rE10:=U.row (rE2.below hb8 rE2.lt) (hnot _ (by omega))
  have rR10:=U.row (rR2.below hb8 rR2.lt) (hnot _ (by omega))
  have hsn:FxI w9 (w.heap.size+3) 63 0 (.slice A9 (k+1) c9) (T++ [⟨[],y,Ay,cy⟩]):=FxI.snoc (t:=⟨[],y,Ay,cy⟩) (HT.out.below hbr) hey (by first|omega|(simp;omega)) (Nat.le_refl _) (fun g hg=>Or.inl (by have:=hgb9 g hg;first|omega|(simp;omega))) rfl (by rw[HTN.out];exact hown9) ug (hb9.imp id (fun e=>⟨_,e,by simp⟩))
  have HT10:=Lib.hid (hsn.upd u10 (fun j e=>Or.inl (by omega)))
  have HL10:Hid ((T++ [(⟨[],y,Ay,cy⟩:FT)]).length=k+1∧(T++ [(⟨[],y,Ay,cy⟩:FT)]).map FT.e=l'.take (k+1)):=⟨by rw[List.length_append,HTN.out];rfl,by rw[HTK.out,List.map_append,HTL.out.2];rfl⟩
  have hB10:=(hB.trans (hbr.mono (by omega))).trans (U.below (B:=w.heap.size) (fun j e=>by
   rcases e with (e|e)|e
   ·omega
   ·have:=hgb9 j e;omega
   ·omega) (by omega))
  have hs10:w.heap.size+3≤(w9.setCell ⟨w.heap.size+1+1,3,none⟩ (.slice A9 (k+1) c9)).heap.size:=by omega
  clear ug u10 U HS7 HS8 HO7 HB7 HMK hey r9 x9 q9 z9 hown9 hg9 hb9 q4 rO7 rX7 rX hnot hsn HTC HTK hgb9 hsg hsU
  go_wp2_with fail
  go_roundw
  case rel=>exact ⟨k+1,_,_,by omega,by go_num,rE10,rR10,r10,HT10,HL10,hB10,hs10⟩
  case measure=>first|(simp[intOf];omega)|simp[intOf]
theorem fexpr_var {e:Ex} {P K N:Nat} {n:Nd} {a:NdA} {F:ByteArray→Int} {L:List ByteArray} (m vc:Value) (A:Option Addr) (cap:Nat) (w:World) (hP:PlAt w P K N n a F L) (he:e.op=3) (ha:e.args=[]) (hv:e.name∈L) (hF:∀x,Wf (F x)) (ok:ExOk e):
  Calls Tryz.prog 64 #[m,.pointer (some ⟨P,0,none⟩),exV e A cap,vc] w fun r w'=>(∃A' c',r= .returned (exV (exF F e []) A' c')∧ExH w' w.heap.size w'.heap.size (exF F e []) A' c')∧Below w.heap.size w w':=by
 have HP:=Lib.hid hP
 have HO:=Lib.hid ok
 have HV:=Lib.hid hv
 have HF:=Lib.hid hF
 have hPl:=hP.row.lt
 have o3:(e.op==3)=true:=by rw[he];rfl
 have o4:(e.op==4)=false:=by rw[he];rfl
 have hl0:e.args.length=0:=by rw[ha];rfl
 have HL0:=Lib.hid hl0
 have HE:=Lib.hid he
 clear hP ok hv hF he ha hl0
 refine' zq10
 rw[HL0.out] at x3
 go_upto_region 9 with (fail)
 have HS:Hid (∀W,Below W1.heap.size W1 W→W.cell? ⟨P,7,none⟩=some (.map (some K))∧W.cell? ⟨w.heap.size,1,none⟩=some (.string e.name)∧(Instr.lookup 85 (.map (some K)) (.string e.name) false).run Tryz.prog W= .ok (.int .i64 (F e.name)) W):=fun W hW=>by
  have p1:=HP.out.below (b1.trans (hW.mono b1.size))
  exact ⟨(p1.row.cell 7).trans rfl,((rE.below hW rE.lt).cell 1).trans rfl,p1.map.look HO.out.name HV.out⟩
 have HSL:=Lib.hid ((HS.out W1.drew bE).2.2)
 obtain ⟨⟨q0,q1,q2,q3,q4,q5⟩,e0,e1,e2,e3,e4,e5⟩:=Row.e6 rO
 clear x0 x1 x2 x4 x5
 refine wp_region_L 8 (S:=fun W=>W.cell? ⟨P,7,none⟩=some (.map (some K))∧W.cell? ⟨w.heap.size,1,none⟩=some (.string e.name)∧(Instr.lookup 85 (.map (some K)) (.string e.name) false).run Tryz.prog W= .ok (.int .i64 (F e.name)) W) (by kernel_rfl) ?_ (fun hHeld=>?_)
 ·(try dsimp only);(first|(with_reducible exact HS.out _ bE))
 refine tkL 0 (some 35) rfl ?_
 refine tkL 1 (some 36) rfl ?_
 refine tkL 2 (some 37) rfl ?_
 refine tkL 3 (some 38) rfl ?_
 refine tkL 4 (some 39) rfl ?_
 refine tkL 5 (some 40) rfl ?_
 refine rdL 6 (some 41) rfl (fun KK hKK=>?_)
 (refine step_look rfl _ _ rfl K rfl e.name rfl (.int .i64 (F e.name)) HSL.out ?_)
 refine hKK.out _ _ ?_ (fun hHeld=>?_)
 ·(try dsimp only);(first|(with_reducible exact HS.out _ bE))
 clear hKK KK
 refine' zq1
 refine rdL 7 (some 42) rfl (fun KK hKK=>?_)
 go_simp
 refine hKK.out _ _ ?_ (fun hHeld=>?_)
 ·(try dsimp only);(first|(with_reducible exact HS.out _ bE))
 clear hKK KK
 refine' zq1
 refine' zq37
 have u2:Upd (fun j=>j=w.heap.size+1+1) W1 (W1.setCell ⟨w.heap.size+1+1,2,none⟩ (.int .i64 (F e.name))).drew:=((Upd.refl (fun j=>j=w.heap.size+1+1) W1).setCell (p:=⟨w.heap.size+1+1,2,none⟩) rfl _).trans (Upd.of_below (bE:Below (W1.setCell ⟨w.heap.size+1+1,2,none⟩ (.int .i64 (F e.name))).heap.size (W1.setCell ⟨w.heap.size+1+1,2,none⟩ (.int .i64 (F e.name))) (W1.setCell ⟨w.heap.size+1+1,2,none⟩ (.int .i64 (F e.name))).drew))
 have rO2:Row (W1.setCell ⟨w.heap.size+1+1,2,none⟩ (.int .i64 (F e.name))).drew (w.heap.size+1+1) (ouA e (F e.name) (.slice none 0 0)) 63:=by
  have:=(rO.set 2 (.int .i64 (F e.name))).drew
  simpa using this
 have rE2:=u2.row rE (by omega)
 have rR2:=u2.row rR (by omega)
 have hsu:=u2.size
 have hB2:=b1.trans (u2.below (B:=w.heap.size) (fun j e=>by omega) (by omega))
 clear q0 q1 q2 q3 q4 q5 e0 e1 e2 e3 e4 e5 x3 HS HSL u2 rO rE rR b1
 generalize (W1.setCell ⟨w.heap.size+1+1,2,none⟩ (.int .i64 (F e.name))).drew=W2 at*
 simp only[Exit.inBlock,Exit.then]
 obtain ⟨x0,x1,x2,x3,x4,x5⟩:=rE2.ex6
 rw[HL0.out] at x3
 rename_i hKK g1 g2
 refine hKK _ _ ?_
 clear g1 g2 hHeld hKK
 have HOK:Hid (ExOk (exF F e [])):=⟨HO.out.op,Nat.zero_le _,by show Wf (if e.op=3 then F e.name else e.n);rw[if_pos HE.out];exact HF.out _,wf_of (n:=0) ⟨by decide,by decide⟩,wf_of (n:=0) ⟨by decide,by decide⟩⟩
 have HN3:Hid ((exF F e []).n=F e.name):=if_pos HE.out
 obtain ⟨⟨q0,q1,q2,q3,q4,q5⟩,-⟩:=Row.e6 rO2
 obtain ⟨⟨r0,r1,r2,r3,r4,r5⟩,f0,f1,f2,f3,f4,f5⟩:=Row.e6 rR2
 have HB:=Lib.hid hB2
 clear x1 x2 x4 x5 hB2
 go_wp2_with fail
 go_loopw[46] (fun i wr=>i= .int .i64 0∧wr=W2) (fun _ _=>0)
 case atStart=>exact ⟨rfl,rfl⟩
 case round=>
  obtain ⟨rfl,rfl⟩:=hrel
  go_wp2_with fail
  have u9:=upd_six wr (w.heap.size+1) (.int .i64 e.op) (.string ⟨#[]⟩) (.int .i64 (F e.name)) (.slice none 0 0) (.int .i64 0) (.int .i64 0)
  have hs9:=u9.size
  refine bodyPost_ret (res1 rfl Tryz.underlying63 rfl (by kernel_rfl) rfl (Row.e6set rR2 (.int .i64 e.op) (.string ⟨#[]⟩) (.int .i64 (F e.name)) (.slice none 0 0) (.int .i64 0) (.int .i64 0))) rfl ⟨⟨none,0,?_,?_⟩,?_⟩
  ·show _=Ending.returned (.agg #[.int .i64 e.op,.string ⟨#[]⟩,.int .i64 (exF F e []).n,.slice none 0 0,.int .i64 0,.int .i64 0])
   rw[HN3.out]
  ·exact IsEx.mk' HOK.out (Nat.le_refl _) (Nat.zero_le _) (fun g=>absurd g (by simp[exF,Ex.args]))
  ·exact HB.out.trans (u9.below (fun j e=>by omega) HB.out.size)
theorem fexpr_any {F:ByteArray→Int} {L:List ByteArray} {e e':Ex} (h:Fw F L e e'):FwC F L e e':=by
 induction h with
 |num ho ha=>
  intro P K N n a m vc A cap w hP hF ok hc hm hx
  exact fexpr_step m vc A cap w hP (by omega) (by rw[ha];simp) [] (by rw[ha]) rfl (fun i x y _ g=>by simp at g) hF ok hc hm hx
 |var ho ha hv=>
  intro P K N n a m vc A cap w hP hF ok hc hm hx
  exact fexpr_var m vc A cap w hP ho ha hv hF ok
 |pre ho ha hx1 ih=>
  intro P K N n a m vc A cap w hP hF ok hc hm hx
  exact fexpr_step m vc A cap w hP (by omega) (by rw[ha];simp) _ (by rw[ha];rfl) rfl (fun i x y g g2=>by
   rw[ha] at g
   match i,g,g2 with
   |0,g,g2=>cases g;cases g2;exact ih) hF ok hc hm hx
 |two ho ha hx1 hx2 ih1 ih2=>
  intro P K N n a m vc A cap w hP hF ok hc hm hx
  exact fexpr_step m vc A cap w hP (by omega) (by rw[ha];simp) _ (by rw[ha];rfl) rfl (fun i x y g g2=>by
   rw[ha] at g
   match i,g,g2 with
   |0,g,g2=>cases g;cases g2;exact ih1
   |1,g,g2=>cases g;cases g2;exact ih2) hF ok hc hm hx
theorem info_defO:(Tryz.prog.info? 149).map (fun i=>(i.zero,i.size,i.bytes))=some (some (.agg #[.int .i64 0,.int .i64 0,.string ⟨#[]⟩,.int .i64 0,.slice none 0 0,.int .i64 0,.int .i64 0]),7,80):=by kernel_rfl
theorem fdef_any {M base lo:Nat} {As vw vd vi vo:Value} {tys:List Int} {T:List FT} (q:Int) (e:Ex) (A:Option Addr) (c:Nat) (w:World) (h:McAt M As base w tys vw vd vi vo) (hx:FxI w base 149 1 vd T) (hne:∀g,vw.ownBlock=some g→vd.ownBlock≠some g) (he:ExH w lo w.heap.size e A c) (hlo:base≤lo) (hvl:∀g,vd.ownBlock=some g→g<lo) (hT:T.length<1000):
  Calls Tryz.prog 63 #[.pointer (some ⟨M,0,none⟩),.int .i64 q,exV e A c] w fun r w'=>r= .returned (.tuple #[])∧(∃vd',McAt M As base w' tys vw vd' vi vo∧FxI w' base 149 1 vd' (T++ [⟨[.int .i64 q],e,A,c⟩])∧(vd'.ownBlock=vd.ownBlock∨∃g,vd'.ownBlock=some g∧w.heap.size≤g))∧Upd (fun j=>j=M∨vd.ownBlock=some j) w w':=by
 obtain ⟨i0,hi0,hz0,hz1,hz2⟩:=info_parts info_defO
 obtain ⟨Ad,cd,rfl,-⟩:=own_rd hx.own
 have HH:=Lib.hid h
 have HX:=Lib.hid hx
 have HE:=Lib.hid he
 have hlt:=h.lt
 have hbb:=h.hb
 have bX:Below w.heap.size w (w.alloc (.cells (exA e A c) 63)):=bE
 have rX:=Row.new w (exA e A c) 63
 have rM:=h.row.alloc (.cells (exA e A c) 63)
 clear h hx he
 go_enter Tryz.func63,Tryz.ntmps63
 go_upto_region 1 with (fail)
 change Code.wp _ _ _ _ (w.alloc (.cells (exA e A c) 63))
 have hs2:=bX.size
 have hxl:=rX.lt
 have hMl:=HH.out.row.lt
 generalize w.alloc (.cells (exA e A c) 63)=W2 at*
 have HMK:Hid (∀W,Row W M #[As,vw,.slice Ad T.length cd,vi,vo] 80→Row W w.heap.size (exA e A c) 63→W.cell? ⟨M,2,none⟩=some (.slice Ad T.length cd)∧W.cell? ⟨w.heap.size,0,none⟩=some (.int .i64 e.op)∧W.cell? ⟨w.heap.size,1,none⟩=some (.string e.name)∧W.cell? ⟨w.heap.size,2,none⟩=some (.int .i64 e.n)∧W.cell? ⟨w.heap.size,3,none⟩=some (.slice A e.args.length c)∧W.cell? ⟨w.heap.size,4,none⟩=some (.int .i64 e.line)∧W.cell? ⟨w.heap.size,5,none⟩=some (.int .i64 e.col)):=fun W g1 g2=>⟨(g1.cell 2).trans rfl,g2.ex6⟩
 have q4:=HMK.out W2 rM rX
 have hgb:Hid (∀g,(Value.slice Ad T.length cd).ownBlock=some g→base≤g∧g<w.heap.size):=fun g hg=>HX.out.own.lt g hg
 have HO7:Hid (∀ob:Obj,(W2.drew.alloc ob).ownsRow base 149 7 (.slice Ad T.length cd) T.length (T.map FT.cells).flatten):=fun ob=>(own_below HX.out.own (bX.drew)).alloc ob
 have HS8:=Lib.hid (fun ob:Obj=>HMK.out (W2.drew.alloc ob) (rM.drew.alloc ob) (rX.drew.alloc ob))
 refine wp_region_L 14 (S:=fun W=>W.cell? ⟨M,2,none⟩=some (.slice Ad T.length cd)∧W.cell? ⟨w.heap.size,0,none⟩=some (.int .i64 e.op)∧W.cell? ⟨w.heap.size,1,none⟩=some (.string e.name)∧W.cell? ⟨w.heap.size,2,none⟩=some (.int .i64 e.n)∧W.cell? ⟨w.heap.size,3,none⟩=some (.slice A e.args.length c)∧W.cell? ⟨w.heap.size,4,none⟩=some (.int .i64 e.line)∧W.cell? ⟨w.heap.size,5,none⟩=some (.int .i64 e.col)) (by kernel_rfl) ?_ (fun hHeld=>?_)
 ·(try dsimp only);(first|exact q4|exact q9|exact HS8.out _)
 refine tkL 0 (some 6) rfl ?_
 refine tkL 1 (some 7) rfl ?_
 refine tkL 2 (some 8) rfl ?_
 refine tkL 3 (some 9) rfl ?_
 refine tkL 4 (some 10) rfl ?_
 refine tkL 5 (some 11) rfl ?_
 refine tkL 6 (some 12) rfl ?_
 refine tkL 7 (some 13) rfl ?_
 refine tkL 8 (some 14) rfl ?_
 refine rdL 9 (some 15) rfl (fun KK hKK=>?_)
 go_simp
 refine' zq64
 refine rdL 10 (some 16) rfl (fun KK hKK=>?_)
 ((rw[if_pos (by kernel_rfl)]);(refine wp_append_any _ (.tmp 11) (.tmp 15) 46 rfl base 149 i0 _ 7 80 Tryz.underlying46 hi0 hz0 hz1 hz2 rfl (by decide) _ T.length (T.map FT.cells).flatten rfl (HO7.out _) ⟨_,0,none⟩ 1 1 (FT.cells ⟨[.int .i64 q],e,A,c⟩) rfl rfl (cells_new5 _ _ _) (by intro u hu;simp[FT.cells,exCells] at hu;rcases hu with rfl|rfl|rfl|rfl|rfl|rfl|rfl<;>rfl) (by unfold maxLen;omega) (by omega) (by first|omega|(simp;omega)) ?_);(intro v9 w9 hown9 hg9 hb9);(have r9:=Row.ownB (rM.drew.alloc _) (HO7.out _) (by omega) hg9);(have x9:Row w9 w.heap.size (exA e A c) 63:=(hg9.block _ (rX.drew.alloc _).lt (fun e=>by have:=(hgb.out _ e.symm).2;omega)).trans (rX.drew.alloc _));(have q9:=HMK.out w9 r9 x9);(have z9:=r9.frozen 2);(obtain ⟨A9,c9,hv9,-⟩:=own_rd hown9);subst hv9)
 refine' zq64
 refine rdL 11 (some 17) rfl (fun KK hKK=>?_)
 go_simp
 refine' zq64
 refine rdL 12 (some 18) rfl (fun KK hKK=>?_)
 go_simp
 refine' zq64
 refine rdL 13 (some 19) rfl (fun KK hKK=>?_)
 go_simp
 refine' zq64
 refine' zq37
 have ob0:Below w.heap.size w (W2.drew.alloc (.cells (FT.cells ⟨[.int .i64 q],e,A,c⟩).toArray 149)):=(bX.drew).alloc (by first|omega|(simp;omega)) _
 have ug:Upd (fun j=>(Value.slice Ad T.length cd).ownBlock=some j∨w.heap.size≤j) w w9:=(Upd.of_below ob0).trans ⟨hg9.os,hg9.tape,hg9.output,hg9.size,fun j hj hX=>hg9.block j hj (fun e=>hX (Or.inl e.symm))⟩
 have u10:Upd (fun j=>j=M) w9 (w9.setCell ⟨M,2,none⟩ (.slice A9 (T.length+1) c9)):=(Upd.refl (fun j=>j=M) w9).setCell (p:=⟨M,2,none⟩) rfl _
 have r10:Row (w9.setCell ⟨M,2,none⟩ (.slice A9 (T.length+1) c9)) M #[As,vw,.slice A9 (T.length+1) c9,vi,vo] 80:=by
  have:=r9.set 2 (.slice A9 (T.length+1) c9)
  simpa using this
 have hsg:=ug.size
 have hs10:=u10.size
 have hwv:∀g,vw.ownBlock=some g→base≤g∧g<w.heap.size:=fun g hg=>HH.out.own.lt g hg
 have hown10:=own_updM (own_updM HH.out.own ug (fun g hg e=>by
  rcases e with e|e
  ·exact hne g hg e
  ·have:=hwv g hg;omega)) u10 (fun g hg e=>by have:=hwv g hg;omega)
 have hsn:FxI w9 base 149 1 (.slice A9 (T.length+1) c9) (T++ [⟨[.int .i64 q],e,A,c⟩]):=FxI.snoc (t:=⟨[.int .i64 q],e,A,c⟩) HX.out HE.out hlo (Nat.le_refl _) (fun g hg=>Or.inl (hvl g hg)) rfl hown9 ug (hb9.imp id (fun e=>⟨_,e,by first|omega|(simp;omega)⟩))
 have h10:=hsn.upd u10 (fun j e=>Or.inl (by omega))
 refine bodyPost_end (results_none rfl _ _ _) rfl ⟨rfl,⟨_,⟨r10,hown10,hlt,by omega⟩,h10,hb9.imp id (fun e=>⟨_,e,by first|omega|(simp;omega)⟩)⟩,?_⟩
 exact Upd.narrow (X:=fun j=>j=M∨(Value.slice Ad T.length cd).ownBlock=some j) ((ug.mono (Y:=fun j=>(j=M∨(Value.slice Ad T.length cd).ownBlock=some j)∨w.heap.size≤j) (fun j e=>e.elim (fun e=>Or.inl (Or.inr e)) Or.inr)).trans (u10.mono (fun j e=>Or.inl (Or.inl e)))) (fun j hj e=>e.elim id (fun e=>by omega))
end Go.Proofs.YtdkgkacnjdnpoaaGreat
