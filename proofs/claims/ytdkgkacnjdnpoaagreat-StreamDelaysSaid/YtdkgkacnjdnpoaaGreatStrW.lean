/-
  Sources of examples have no fault: what suffices for calls, clocks and causes; the source of the check chapter's example. Plain. The sources of the stream chapter's examples have no fault. Plain. A tick, plain: what comes out of it, and what terms have behind it; the examples' sources as machines. What is done between two ticks, in memory; what a tick's end stores.
-/
import Derived.Test.YtdkgkacnjdnpoaaGreatScnD
import Derived.Test.YtdkgkacnjdnpoaaGreatCauA
import Derived.Test.YtdkgkacnjdnpoaaGreatStrP
import Derived.Test.YtdkgkacnjdnpoaaGreatHgP
import Derived.Test.YtdkgkacnjdnpoaaGreatOnsC
import Derived.Test.YtdkgkacnjdnpoaaGreatTyP
import Derived.Test.YtdkgkacnjdnpoaaGreatTreeRight
import Derived.Test.YtdkgkacnjdnpoaaGreatStrX
import Derived.Test.YtdkgkacnjdnpoaaGreatStrO
namespace Go.Proofs.YtdkgkacnjdnpoaaGreat
open Nm
theorem hg_rank {U:ByteArray→List ByteArray} {r:ByteArray→Nat} (h:∀x y,y∈U x→r y<r x) {a b:ByteArray} (g:Hg U a b):r b<r a:=by
 induction g with
 |one h1=>exact h _ _ h1
 |more _ h2 ih=>exact Nat.lt_trans (h _ _ h2) ih
open Classical in
theorem calls_free {s:List Nd} (hs:scopeF s=ft0) (h:∀n∈s,∀y∈usesF n,usesAt s y=[]):callsF s=ft0:=by
 have hr:∀x y,y∈usesAt s x→(if usesAt s y=[] then 0 else 1)<(if usesAt s x=[] then 0 else 1):=fun x y hy=>by
  have hx:usesAt s x≠[]:=fun g=>by rw[g] at hy;exact absurd hy List.not_mem_nil
  have hy0:usesAt s y=[]:=by
   unfold usesAt at hy
   cases hm:nodeAt s x with
   |none=>rw[hm] at hy;exact absurd hy List.not_mem_nil
   |some m=>rw[hm] at hy;exact h m (List.mem_of_find?_eq_some hm) y hy
  rw[if_pos hy0,if_neg hx];decide
 unfold callsF
 rw[ft2_0 (by rw[hs])]
 refine fstL_end fun j _ n _=>?_
 unfold calF
 rw[if_neg (fun g=>Nat.lt_irrefl _ (hg_rank hr g))]
def NoClk (n:Nd):Prop:=∀v∈vrs n,v.clock=[]
theorem clock_nil {n:Nd} (h:NoClk n) (nm:ByteArray):clockOf n nm=[]:=by
 rcases var_cases n nm with ⟨k,x,h1,h2,_⟩|h1
 ·rw[clock_at h1 h2];exact h x (List.mem_of_getElem? h2)
 ·exact clock_no h1
theorem fits_free {n:Nd} (h:NoClk n):∀e:Ex,(∀x∈exList e,x.op≠24∧x.op≠25∧x.op≠26)→fitsP n e []=ft0:=by
 refine Ex.ind fun e ih he=>?_
 have h0:=he e (exList_self e)
 have hb:¬badClock n e []:=by
  unfold badClock
  rintro (⟨_,g⟩|⟨g,_⟩)
  ·exact g (clock_nil h _)
  ·omega
 have hl:∀(l:List Ex) (i:Nat),(∀x∈l,x∈e.args)→fitsL e [] (l.map (fitsP n)) i=ft0:=fun l=>by
  induction l with
  |nil=>intro i _;rfl
  |cons x l ihl=>
   intro i hx
   have hp:partClock e [] i=[]:=by unfold partClock;rw[if_neg (by omega),if_neg (by omega)]
   have hxe:=hx x (by simp)
   have hf:fitsP n x []=ft0:=ih x hxe fun y hy=>he y (exList_sub hxe hy)
   rw[List.map_cons]
   show (if (fitsP n x (partClock e [] i)).err≠0 then _ else _)=ft0
   rw[hp,hf,if_neg (by intro g;exact g rfl)]
   exact ihl (i+1) fun y hy=>hx y (by simp[hy])
 rw[fitsP_ok hb]
 exact hl e.args 0 fun x hx=>hx
theorem clock_free {s:List Nd} (hs:scopeF s=ft0) (h:∀n∈s,NoClk n∧n.vars=[]∧∀q∈n.eqs,∀x∈exList q.right,x.op≠24∧x.op≠25∧x.op≠26):clockF s=ft0:=by
 unfold clockF
 rw[ft2_0 (by rw[hs])]
 refine fstL_end fun j _ n hn=>?_
 obtain ⟨h1,h2,h3⟩:=h n (List.mem_of_getElem? hn)
 unfold clkNF
 rw[h2]
 have:fstL (clkQF n) n.eqs=ft0:=by
  refine fstL_end fun i _ q hq=>?_
  have hq0:clkQF n i q=fitsP n q.right (eqClk n q):=clkQF_ok fun nm _=>by unfold eqClk;rw[clock_nil h1,clock_nil h1]
  rw[hq0]
  unfold eqClk
  rw[clock_nil h1,fits_free h1 _ (h3 q (List.mem_of_getElem? hq))]
 rw[this]
 rfl
open Classical in
theorem cause_free {s:List Nd} (hs:scopeF s=ft0) (h:∀n∈s,NoClk n∧∀q∈n.eqs,∀y∈wantsL q.right,y∉lefts n.eqs):causeF s=ft0:=by
 unfold causeF
 rw[ft2_0 (by rw[hs])]
 refine fstL_end fun j _ n hn=>?_
 obtain ⟨h1,h2⟩:=h n (List.mem_of_getElem? hn)
 have hr:∀x y,y∈hangsF n x→(if y∈lefts n.eqs then 1 else 0)<(if x∈lefts n.eqs then 1 else 0):=fun x y hy=>by
  rw[hangsF_mem] at hy
  unfold hangsL at hy
  cases hf:n.eqs.find? (fun q=>cB (x∈q.left)) with
  |none=>rw[hf] at hy;exact absurd hy List.not_mem_nil
  |some q=>
   rw[hf] at hy
   dsimp only at hy
   rw[clock_nil h1,List.map_nil,List.append_nil] at hy
   have hq:=List.mem_of_find?_eq_some hf
   have hx:x∈q.left:=by
    have:=List.find?_some hf
    exact Classical.byContradiction fun g=>by rw[cB_false g] at this;cases this
   have hxl:x∈lefts n.eqs:=List.mem_flatten.2 ⟨q.left,List.mem_map.2 ⟨q,hq,rfl⟩,hx⟩
   rw[if_neg (h2 q hq y hy),if_pos hxl];decide
 have h0:cauNF j n=ft0:=by
  unfold cauNF
  refine fstL_end fun i _ q _=>?_
  have hq0:cauQF n i q=ft0:=by
   unfold cauQF
   refine fstL_end fun k _ nm _=>?_
   unfold cauF
   rw[if_neg (fun g=>Nat.lt_irrefl _ (hg_rank hr g))]
  rw[hq0]
 rw[h0]
theorem one_calls {n:Nd} (hs:scopeF [n]=ft0) (h:∀q∈n.eqs,∀x∈exList q.right,x.op≠4):callsF [n]=ft0:=by
 refine calls_free hs fun m hm y hy=>?_
 rw[List.mem_singleton] at hm
 subst hm
 obtain ⟨q,hq,x,hx,h4,_⟩:=usesF_mem.1 hy
 exact absurd h4 (h q hq x hx)
theorem one_clock {n:Nd} (hs:scopeF [n]=ft0) (hc:NoClk n) (hv:n.vars=[]) (h:∀q∈n.eqs,∀x∈exList q.right,x.op≠24∧x.op≠25∧x.op≠26):clockF [n]=ft0:=by
 refine clock_free hs fun m hm=>?_
 rw[List.mem_singleton] at hm
 subst hm
 exact ⟨hc,hv,h⟩
theorem one_cause {n:Nd} (hs:scopeF [n]=ft0) (hc:NoClk n) (h:∀q∈n.eqs,∀y∈wantsL q.right,y∉lefts n.eqs):causeF [n]=ft0:=by
 refine cause_free hs fun m hm=>?_
 rw[List.mem_singleton] at hm
 subst hm
 exact ⟨hc,h⟩
abbrev xB0:Ex:=⟨1,⟨#[]⟩,0,[],1,45⟩
abbrev xB1:Ex:=⟨3,⟨#[97]⟩,0,[],1,51⟩
abbrev xB:Ex:=⟨22,⟨#[]⟩,0,[xB0,xB1],1,47⟩
abbrev ndB:Nd:=⟨⟨#[109,97,105,110]⟩,[⟨⟨#[97]⟩,1,[],1,11⟩],[⟨⟨#[98]⟩,1,[],1,28⟩],[],[⟨[⟨#[98]⟩],xB,1,41⟩],1,6⟩
abbrev srB:List Nd:=[ndB]
def txB:ByteArray:=⟨#[110,111,100,101,32,109,97,105,110,40,97,58,32,105,110,116,41,32,114,101,116,117,114,110,115,32,40,98,58,32,105,110,116,41,59,32,108,101,116,32,98,32,61,32,48,32,102,98,121,32,97,59,32,116,101,108]⟩
theorem txB_is:ptext txB=some srB:=by kernel_rfl
theorem xB0_list:exList xB0=[xB0]:=by rw[exList_eq];simp[Ex.args]
theorem xB1_list:exList xB1=[xB1]:=by rw[exList_eq];simp[Ex.args]
theorem xB_list:exList xB=[xB,xB0,xB1]:=by rw[exList_eq];simp[Ex.args,xB0_list,xB1_list]
theorem xB_rt:exRight xB=true:=by
 unfold exRight
 rw[xB_list]
 simp[plainB,plainK,Ex.op,Ex.args,Ex.name,Ex.n,partsZ,namesB,ByteArray.toList_eq,exHeight,Ex.para_eq,maxL]
 try decide
theorem srB_rt:SrcRt srB:=by
 have h0:nameB [109,97,105,110]=true:=by decide
 have h1:nameB [97]=true:=by decide
 have h2:nameB [98]=true:=by decide
 unfold SrcRt NdRt EqnRt VrsRt VrRt
 simp[ByteArray.toList_eq,h0,h1,h2,xB_rt]
theorem srB_scope:scopeF srB=ft0:=by
 unfold scopeF
 rw[if_neg (fun g=>g srB_rt)]
 simp[fstL,fstl,ft2,nameF,nodeF,variablesF,varF,equationsF,eqnF,leftF,leftNF,countF,exprF,subF,Ex.para_eq,oneF,defF,mainF,metTo,lefts,nms,vrs,mainNm,namesB,ft0,Ex.op,Ex.args,Ex.name]
theorem ndB_ta:tyOf ndB ⟨#[97]⟩=1:=by kernel_rfl
theorem xB0_ty:tyR srB ndB xB0=(ft0,1):=by
 rw[tyR_eq]
 simp[tyStep,opF,opTy,fstl,ft2,Ex.op,Ex.args,signB,ft0]
theorem xB1_ty:tyR srB ndB xB1=(ft0,1):=by
 rw[tyR_eq]
 simp[tyStep,opF,opTy,fstl,ft2,Ex.op,Ex.args,Ex.name,signB,ft0,ndB_ta]
theorem xB_ty:tyR srB ndB xB=(ft0,1):=by
 rw[tyR_eq]
 simp[tyStep,opF,opTy,fstl,ft2,needF,Ex.op,Ex.args,signB,ft0,xB0_ty,xB1_ty]
theorem srB_types:typesF srB=ft0:=by
 unfold typesF
 rw[srB_scope]
 have h1:tyOf ndB ⟨#[98]⟩=1:=by kernel_rfl
 have h:nodeTF srB ndB=ft0:=by
  simp[nodeTF,eqnTF,leftTs,comeOf,tyF,tyK,Ex.op,fstl,ft2,needF,ft0,h1,xB_ty]
 simp[fstL,fstl,ft2,h,ft0]
theorem ndB_ops:∀q∈ndB.eqs,∀x∈exList q.right,x.op≠4∧x.op≠24∧x.op≠25∧x.op≠26:=by
 intro q hq x hx
 simp at hq
 subst hq
 all_goals
  dsimp only at hx
  simp only[xB_list] at hx
  simp at hx
  (try rcases hx with rfl|rfl|rfl|rfl)<;>(try rcases hx with rfl|rfl|rfl)<;>simp[Ex.op]
theorem ndB_noclk:NoClk ndB:=by
 intro v hv
 simp[vrs] at hv
 rcases hv with rfl|rfl<;>rfl
theorem srB_ons:onsF srB=ft0:=by
 unfold onsF
 rw[srB_scope]
 have l_xB0:lateR xB0=(false,⟨0,0,0⟩):=by rw[lateR_eq];simp[lateC,lateEnd,Ex.op,Ex.args]
 have l_xB1:lateR xB1=(false,⟨0,0,0⟩):=by rw[lateR_eq];simp[lateC,lateEnd,Ex.op,Ex.args]
 have l_xB:lateR xB=(false,⟨0,0,0⟩):=by rw[lateR_eq];simp[lateC,lateEnd,Ex.op,Ex.args,l_xB0,l_xB1]
 simp[fstL,fstl,ft2,onsN,onsQ,l_xB,ft0]
theorem xB_wants:∀z∈wantsL xB,z=(⟨#[97]⟩:ByteArray):=by
 intro z hz
 unfold wantsL at hz
 simp[Ex.para_eq,ownW,keepP,namesB,Ex.op,Ex.args,Ex.name] at hz
theorem srB_cause:causeF srB=ft0:=by
 refine one_cause srB_scope ndB_noclk fun q hq y hy=>?_
 simp at hq
 subst hq
 dsimp only at hy
 rw[xB_wants y hy]
 simp[lefts]
theorem srB_check:fstl [scopeF srB,typesF srB,callsF srB,clockF srB,onsF srB,causeF srB]=ft0:=by
 rw[srB_scope,srB_types,one_calls srB_scope (fun q hq x hx=>(ndB_ops q hq x hx).1),one_clock srB_scope ndB_noclk rfl (fun q hq x hx=>(ndB_ops q hq x hx).2),srB_ons,srB_cause]
 simp[fstl,ft0]
theorem srB_main:nodeAt srB mainNm=some ndB:=by simp[nodeAt,mainNm]
theorem srB_sm:SrcSm srB:=by
 refine ⟨by decide,fun n hn=>?_⟩
 rw[List.mem_singleton] at hn
 subst hn
 refine ⟨by decide,by decide,by decide,by decide,by decide,fun v hv=>?_,fun q hq=>?_⟩
 ·simp[vrs] at hv
  rcases hv with rfl|rfl<;>exact ⟨by decide,by decide,fun c hc=>absurd hc List.not_mem_nil⟩
 ·simp at hq
  subst hq
  all_goals
   refine ⟨by decide,fun x hx=>?_,⟨?_,fun x hx=>?_⟩⟩
   ·simp at hx;subst hx;decide
   ·show (exList xB).length≤900
    rw[xB_list]
    decide
   ·dsimp only at hx
    simp only[xB_list] at hx
    simp at hx
    (try rcases hx with rfl|rfl|rfl|rfl)<;>(try rcases hx with rfl|rfl|rfl)<;>decide
abbrev xC0:Ex:=⟨1,⟨#[]⟩,0,[],1,48⟩
abbrev xC1:Ex:=⟨3,⟨#[97]⟩,0,[],1,54⟩
abbrev xC:Ex:=⟨22,⟨#[]⟩,0,[xC0,xC1],1,50⟩
abbrev xD0:Ex:=⟨3,⟨#[97]⟩,0,[],1,61⟩
abbrev xD2:Ex:=⟨3,⟨#[97]⟩,0,[],1,70⟩
abbrev xD1:Ex:=⟨21,⟨#[]⟩,0,[xD2],1,66⟩
abbrev xD:Ex:=⟨23,⟨#[]⟩,0,[xD0,xD1],1,63⟩
abbrev ndC:Nd:=⟨⟨#[109,97,105,110]⟩,[⟨⟨#[97]⟩,1,[],1,11⟩],[⟨⟨#[98]⟩,1,[],1,28⟩,⟨⟨#[99]⟩,1,[],1,31⟩],[],[⟨[⟨#[98]⟩],xC,1,44⟩,⟨[⟨#[99]⟩],xD,1,57⟩],1,6⟩
abbrev srC:List Nd:=[ndC]
def txC:ByteArray:=⟨#[110,111,100,101,32,109,97,105,110,40,97,58,32,105,110,116,41,32,114,101,116,117,114,110,115,32,40,98,44,32,99,58,32,105,110,116,41,59,32,108,101,116,32,98,32,61,32,48,32,102,98,121,32,97,59,32,99,32,61,32,97,32,45,62,32,112,114,101,32,97,59,32,116,101,108]⟩
theorem txC_is:ptext txC=some srC:=by kernel_rfl
theorem xC0_list:exList xC0=[xC0]:=by rw[exList_eq];simp[Ex.args]
theorem xC1_list:exList xC1=[xC1]:=by rw[exList_eq];simp[Ex.args]
theorem xC_list:exList xC=[xC,xC0,xC1]:=by rw[exList_eq];simp[Ex.args,xC0_list,xC1_list]
theorem xC_rt:exRight xC=true:=by
 unfold exRight
 rw[xC_list]
 simp[plainB,plainK,Ex.op,Ex.args,Ex.name,Ex.n,partsZ,namesB,ByteArray.toList_eq,exHeight,Ex.para_eq,maxL]
 try decide
theorem xD0_list:exList xD0=[xD0]:=by rw[exList_eq];simp[Ex.args]
theorem xD2_list:exList xD2=[xD2]:=by rw[exList_eq];simp[Ex.args]
theorem xD1_list:exList xD1=[xD1,xD2]:=by rw[exList_eq];simp[Ex.args,xD2_list]
theorem xD_list:exList xD=[xD,xD0,xD1,xD2]:=by rw[exList_eq];simp[Ex.args,xD0_list,xD1_list]
theorem xD_rt:exRight xD=true:=by
 unfold exRight
 rw[xD_list]
 simp[plainB,plainK,Ex.op,Ex.args,Ex.name,Ex.n,partsZ,namesB,ByteArray.toList_eq,exHeight,Ex.para_eq,maxL]
 try decide
theorem srC_rt:SrcRt srC:=by
 have h0:nameB [109,97,105,110]=true:=by decide
 have h1:nameB [97]=true:=by decide
 have h2:nameB [98]=true:=by decide
 have h3:nameB [99]=true:=by decide
 unfold SrcRt NdRt EqnRt VrsRt VrRt
 simp[ByteArray.toList_eq,h0,h1,h2,h3,xC_rt,xD_rt]
theorem srC_scope:scopeF srC=ft0:=by
 unfold scopeF
 rw[if_neg (fun g=>g srC_rt)]
 simp[fstL,fstl,ft2,nameF,nodeF,variablesF,varF,equationsF,eqnF,leftF,leftNF,countF,exprF,subF,Ex.para_eq,oneF,defF,mainF,metTo,lefts,nms,vrs,mainNm,namesB,ft0,Ex.op,Ex.args,Ex.name]
theorem ndC_ta:tyOf ndC ⟨#[97]⟩=1:=by kernel_rfl
theorem xC0_ty:tyR srC ndC xC0=(ft0,1):=by
 rw[tyR_eq]
 simp[tyStep,opF,opTy,fstl,ft2,Ex.op,Ex.args,signB,ft0]
theorem xC1_ty:tyR srC ndC xC1=(ft0,1):=by
 rw[tyR_eq]
 simp[tyStep,opF,opTy,fstl,ft2,Ex.op,Ex.args,Ex.name,signB,ft0,ndC_ta]
theorem xC_ty:tyR srC ndC xC=(ft0,1):=by
 rw[tyR_eq]
 simp[tyStep,opF,opTy,fstl,ft2,needF,Ex.op,Ex.args,signB,ft0,xC0_ty,xC1_ty]
theorem xD0_ty:tyR srC ndC xD0=(ft0,1):=by
 rw[tyR_eq]
 simp[tyStep,opF,opTy,fstl,ft2,Ex.op,Ex.args,Ex.name,signB,ft0,ndC_ta]
theorem xD2_ty:tyR srC ndC xD2=(ft0,1):=by
 rw[tyR_eq]
 simp[tyStep,opF,opTy,fstl,ft2,Ex.op,Ex.args,Ex.name,signB,ft0,ndC_ta]
theorem xD1_ty:tyR srC ndC xD1=(ft0,1):=by
 rw[tyR_eq]
 simp[tyStep,opF,opTy,fstl,ft2,Ex.op,Ex.args,signB,ft0,xD2_ty]
theorem xD_ty:tyR srC ndC xD=(ft0,1):=by
 rw[tyR_eq]
 simp[tyStep,opF,opTy,fstl,ft2,needF,Ex.op,Ex.args,signB,ft0,xD0_ty,xD1_ty]
theorem srC_types:typesF srC=ft0:=by
 unfold typesF
 rw[srC_scope]
 have h1:tyOf ndC ⟨#[98]⟩=1:=by kernel_rfl
 have h2:tyOf ndC ⟨#[99]⟩=1:=by kernel_rfl
 have h:nodeTF srC ndC=ft0:=by
  simp[nodeTF,eqnTF,leftTs,comeOf,tyF,tyK,Ex.op,fstl,ft2,needF,ft0,h1,h2,xC_ty,xD_ty]
 simp[fstL,fstl,ft2,h,ft0]
theorem ndC_ops:∀q∈ndC.eqs,∀x∈exList q.right,x.op≠4∧x.op≠24∧x.op≠25∧x.op≠26:=by
 intro q hq x hx
 simp at hq
 rcases hq with rfl|rfl
 all_goals
  dsimp only at hx
  simp only[xC_list,xD_list] at hx
  simp at hx
  (try rcases hx with rfl|rfl|rfl|rfl)<;>(try rcases hx with rfl|rfl|rfl)<;>simp[Ex.op]
theorem ndC_noclk:NoClk ndC:=by
 intro v hv
 simp[vrs] at hv
 rcases hv with rfl|rfl|rfl<;>rfl
theorem srC_ons:onsF srC=ft0:=by
 unfold onsF
 rw[srC_scope]
 have l_xC0:lateR xC0=(false,⟨0,0,0⟩):=by rw[lateR_eq];simp[lateC,lateEnd,Ex.op,Ex.args]
 have l_xC1:lateR xC1=(false,⟨0,0,0⟩):=by rw[lateR_eq];simp[lateC,lateEnd,Ex.op,Ex.args]
 have l_xC:lateR xC=(false,⟨0,0,0⟩):=by rw[lateR_eq];simp[lateC,lateEnd,Ex.op,Ex.args,l_xC0,l_xC1]
 have l_xD0:lateR xD0=(false,⟨0,0,0⟩):=by rw[lateR_eq];simp[lateC,lateEnd,Ex.op,Ex.args]
 have l_xD2:lateR xD2=(false,⟨0,0,0⟩):=by rw[lateR_eq];simp[lateC,lateEnd,Ex.op,Ex.args]
 have l_xD1:lateR xD1=(true,⟨0,0,0⟩):=by rw[lateR_eq];simp[lateC,lateEnd,Ex.op,Ex.args,l_xD2]
 have l_xD:lateR xD=(false,⟨0,0,0⟩):=by rw[lateR_eq];simp[lateC,lateEnd,headB,Ex.op,Ex.args,l_xD0,l_xD1]
 simp[fstL,fstl,ft2,onsN,onsQ,l_xC,l_xD,ft0]
theorem xC_wants:∀z∈wantsL xC,z=(⟨#[97]⟩:ByteArray):=by
 intro z hz
 unfold wantsL at hz
 simp[Ex.para_eq,ownW,keepP,namesB,Ex.op,Ex.args,Ex.name] at hz
theorem xD_wants:∀z∈wantsL xD,z=(⟨#[97]⟩:ByteArray):=by
 intro z hz
 unfold wantsL at hz
 simp[Ex.para_eq,ownW,keepP,namesB,Ex.op,Ex.args,Ex.name] at hz
 exact hz
theorem srC_cause:causeF srC=ft0:=by
 refine one_cause srC_scope ndC_noclk fun q hq y hy=>?_
 simp at hq
 rcases hq with rfl|rfl
 ·dsimp only at hy
  rw[xC_wants y hy]
  simp[lefts]
 ·dsimp only at hy
  rw[xD_wants y hy]
  simp[lefts]
theorem srC_check:fstl [scopeF srC,typesF srC,callsF srC,clockF srC,onsF srC,causeF srC]=ft0:=by
 rw[srC_scope,srC_types,one_calls srC_scope (fun q hq x hx=>(ndC_ops q hq x hx).1),one_clock srC_scope ndC_noclk rfl (fun q hq x hx=>(ndC_ops q hq x hx).2),srC_ons,srC_cause]
 simp[fstl,ft0]
theorem srC_main:nodeAt srC mainNm=some ndC:=by simp[nodeAt,mainNm]
theorem srC_sm:SrcSm srC:=by
 refine ⟨by decide,fun n hn=>?_⟩
 rw[List.mem_singleton] at hn
 subst hn
 refine ⟨by decide,by decide,by decide,by decide,by decide,fun v hv=>?_,fun q hq=>?_⟩
 ·simp[vrs] at hv
  rcases hv with rfl|rfl|rfl<;>exact ⟨by decide,by decide,fun c hc=>absurd hc List.not_mem_nil⟩
 ·simp at hq
  rcases hq with rfl|rfl
  all_goals
   refine ⟨by decide,fun x hx=>?_,⟨?_,fun x hx=>?_⟩⟩
   ·simp at hx;subst hx;decide
   ·first|(show (exList xC).length≤900;rw[xC_list];decide)|(show (exList xD).length≤900;rw[xD_list];decide)
   ·dsimp only at hx
    simp only[xC_list,xD_list] at hx
    simp at hx
    (try rcases hx with rfl|rfl|rfl|rfl)<;>(try rcases hx with rfl|rfl|rfl)<;>decide
inductive LI (n:Nd) (T:List Tm) (row:List Int) (σ:Past):Tm→Int→Prop
 |l {b:Nat} {e:Ex}:e.op=1∨e.op=3→LI n T row σ (.l b e) 0
 |pre {b:Nat} {e:Ex} {x:Tm} {v:Int}:e.op=21→EI n T row σ x v→LI n T row σ (.o b e x) v
 |fby {b:Nat} {e:Ex} {x y:Tm} {v:Int}:e.op=22→EI n T row σ y v→LI n T row σ (.p b e x y) v
 |arr {b:Nat} {e:Ex} {x y:Tm}:e.op=23→LI n T row σ (.p b e x y) 0
def setP (σ:Past) (c:Nat × Int):Past:=fun b=>if b=c.1 then (true,c.2) else σ b
inductive ChI (n:Nd) (T:List Tm) (row:List Int) (σ:Past):List Tm→List (Nat × Int)→Prop
 |nil:ChI n T row σ [] []
 |cons {t:Tm} {v:Int} {l:List Tm} {cs:List (Nat × Int)}:LI n T row σ t v→ChI n T row σ l cs→ChI n T row σ (t::l) ((t.b,v)::cs)
inductive OutI (n:Nd) (T:List Tm) (row:List Int) (σ:Past):List Vr→List Int→Prop
 |nil:OutI n T row σ [] []
 |cons {x:Vr} {v:Int} {l:List Vr} {os:List Int}:NI n T row σ x.name v→OutI n T row σ l os→OutI n T row σ (x::l) (v::os)
def allT (T:List Tm):List Tm:=(T.map Tm.all).flatten
def TickI (n:Nd) (T:List Tm) (row:List Int) (σ:Past) (os:List Int) (σ':Past):Prop:=
 OutI n T row σ n.outs os∧∃cs,ChI n T row σ (allT T) cs∧σ'=cs.foldl setP σ
structure TsIs (n:Nd) (T:List Tm):Prop where
 len:T.length=n.eqs.length
 is:∀(i:Nat) (t:Tm) (q:Eqn),T[i]? =some t→n.eqs[i]? =some q→t.is q.right
 far:∀t∈allT T,∀u∈allT T,t.b=u.b→t.e.op=u.e.op
structure Mach (n:Nd) where
 out:List (List Int)→List Int→List Int
 G:List Tm→Past→List (List Int)→Prop
 init:∀T,TsIs n T→G T (fun _=>(false,0)) []
 step:∀T σ h row,TsIs n T→G T σ h→row.length=n.ins.length→∃σ',TickI n T row σ (out h row) σ'∧G T σ' (h++ [row])
def Mach.all {n:Nd} (M:Mach n) (rows:List (List Int)):List (List Int):=rows.mapIdx fun i row=>M.out (rows.take i) row
theorem Mach.all_len {n:Nd} (M:Mach n) (rows:List (List Int)):(M.all rows).length=rows.length:=by unfold Mach.all;simp
theorem Mach.all_at {n:Nd} (M:Mach n) {rows:List (List Int)} {i:Nat} {row:List Int} (h:rows[i]? =some row):(M.all rows)[i]? =some (M.out (rows.take i) row):=by
 unfold Mach.all
 rw[List.getElem?_mapIdx,h]
 rfl
theorem LI.det {n:Nd} {T:List Tm} {row:List Int} {σ:Past} {t:Tm} {v v':Int} (h:LI n T row σ t v) (h':LI n T row σ t v'):v=v':=by
 cases h with
 |l _=>cases h';rfl
 |pre _ h=>cases h' with|pre _ h'=>exact h.det h'
 |fby ho h=>cases h' with
  |fby _ h'=>exact h.det h'
  |arr ho'=>omega
 |arr ho=>cases h' with
  |fby ho' _=>omega
  |arr _=>rfl
theorem two_is {t:Tm} {e x y:Ex} (h:t.is e) (ha:e.args=[x,y]):∃b u v,t= .p b e u v∧u.is x∧v.is y:=by
 obtain ⟨rfl,h⟩:=h
 cases t with
 |l b e=>have h:e.args=[]:=h;rw[show (Tm.l b e).e=e from rfl,h] at ha;cases ha
 |o b e u=>obtain ⟨h,_⟩:=h;rw[show (Tm.o b e u).e=e from rfl,h] at ha;cases ha
 |p b e u v=>
  obtain ⟨h,h1,h2⟩:=h
  rw[show (Tm.p b e u v).e=e from rfl,h] at ha
  cases ha
  exact ⟨b,u,v,rfl,⟨rfl,h1⟩,⟨rfl,h2⟩⟩
theorem one_is {t:Tm} {e x:Ex} (h:t.is e) (ha:e.args=[x]):∃b u,t= .o b e u∧u.is x:=by
 obtain ⟨rfl,h⟩:=h
 cases t with
 |l b e=>have h:e.args=[]:=h;rw[show (Tm.l b e).e=e from rfl,h] at ha;cases ha
 |o b e u=>
  obtain ⟨h,h1⟩:=h
  rw[show (Tm.o b e u).e=e from rfl,h] at ha
  cases ha
  exact ⟨b,u,rfl,⟨rfl,h1⟩⟩
 |p b e u v=>obtain ⟨h,_⟩:=h;rw[show (Tm.p b e u v).e=e from rfl,h] at ha;cases ha
theorem no_is {t:Tm} {e:Ex} (h:t.is e) (ha:e.args=[]):∃b,t= .l b e:=by
 obtain ⟨rfl,h⟩:=h
 cases t with
 |l b e=>exact ⟨b,rfl⟩
 |o b e u=>obtain ⟨h,_⟩:=h;rw[show (Tm.o b e u).e=e from rfl,h] at ha;cases ha
 |p b e u v=>obtain ⟨h,_⟩:=h;rw[show (Tm.p b e u v).e=e from rfl,h] at ha;cases ha
def lastOf (h:List (List Int)):Int:=match h.getLast? with
 |some r=>r.getD 0 0
 |none=>0
theorem last_snoc (h:List (List Int)) (r:List Int):lastOf (h++ [r])=r.getD 0 0:=by unfold lastOf;simp
theorem row_one {row:List Int} (h:row.length=1):∃a,row=[a]:=by
 match row,h with
 | [a],_=>exact ⟨a,rfl⟩
theorem ts_one {n:Nd} {T:List Tm} {q:Eqn} (h:TsIs n T) (hn:n.eqs=[q]):∃t,T=[t]∧t.is q.right:=by
 have hl:=h.len
 rw[hn] at hl
 match T,hl,h with
 | [t],_,h=>exact ⟨t,rfl,h.is 0 t q rfl (by rw[hn];rfl)⟩
theorem ts_two {n:Nd} {T:List Tm} {q r:Eqn} (h:TsIs n T) (hn:n.eqs=[q,r]):∃t u,T=[t,u]∧t.is q.right∧u.is r.right:=by
 have hl:=h.len
 rw[hn] at hl
 match T,hl,h with
 | [t,u],_,h=>exact ⟨t,u,rfl,h.is 0 t q rfl (by rw[hn];rfl),h.is 1 u r rfl (by rw[hn];rfl)⟩
theorem idx_a {n:Nd} (h:n.ins.map Vr.name=[(⟨#[97]⟩:ByteArray)]):idxOf (nms n.ins) ⟨#[97]⟩=(0:Nat):=by
 show idxOf (n.ins.map Vr.name) _=_
 rw[h]
 exact idx_at (k:=0) (fun j hj=>absurd hj (by omega)) rfl
open Classical in
noncomputable def machB:Mach ndB where
 out:=fun h _=> [lastOf h]
 G:=fun T σ h=>∀b x u v,T=[.p b x u v]→(σ b).1=decide (h≠[])∧(σ b).2=lastOf h
 init:=fun T _ b x u v _=>⟨by simp,rfl⟩
 step:=fun T σ h row hT hG hr=>by
  obtain ⟨t,rfl,ht⟩:=ts_one hT rfl
  obtain ⟨b,u,v,rfl,hu,hv⟩:=two_is ht rfl
  obtain ⟨b1,rfl⟩:=no_is hu rfl
  obtain ⟨b2,rfl⟩:=no_is hv rfl
  obtain ⟨a,rfl⟩:=row_one hr
  obtain ⟨g1,g2⟩:=hG b _ _ _ rfl
  have hf:=hT.far
  have f1:b1≠b:=fun e=>absurd (hf (.l b1 xB0) (by simp[allT,Tm.all]) (.p b xB (.l b1 xB0) (.l b2 xB1)) (by simp[allT,Tm.all]) e) (by simp[Tm.e,Ex.op])
  have f2:b2≠b:=fun e=>absurd (hf (.l b2 xB1) (by simp[allT,Tm.all]) (.p b xB (.l b1 xB0) (.l b2 xB1)) (by simp[allT,Tm.all]) e) (by simp[Tm.e,Ex.op])
  have ha:EI ndB [.p b xB (.l b1 xB0) (.l b2 xB1)] [a] σ (.l b2 xB1) a:= .inp (i:=0) rfl (idx_a rfl) rfl
  have hb:EI ndB [.p b xB (.l b1 xB0) (.l b2 xB1)] [a] σ (.p b xB (.l b1 xB0) (.l b2 xB1)) (lastOf h):=by
   by_cases g:h=[]
   ·subst g
    exact .fby0 rfl (g1.trans (by simp)) (.num rfl)
   ·rw[←g2]
    exact .fby1 rfl (g1.trans (by simp[g]))
  refine ⟨_,⟨.cons (.inr ⟨by simp,0,_,_,rfl,rfl,fun j hj=>absurd hj (by omega),rfl,hb⟩) .nil,[(b,a),(b1,0),(b2,0)],.cons (.fby rfl ha) (.cons (.l (.inl rfl)) (.cons (.l (.inr rfl)) .nil)),rfl⟩,?_⟩
  rintro b' x' u' v' e
  cases e
  have h1:([(b,a),(b1,0),(b2,0)]:List (Nat × Int)).foldl setP σ b=(true,a):=by
   simp only[List.foldl_cons,List.foldl_nil,setP]
   rw[if_neg (Ne.symm f2),if_neg (Ne.symm f1),if_pos trivial]
  rw[h1]
  exact ⟨by simp,(last_snoc h [a]).symm⟩
def outC (h:List (List Int)) (row:List Int):List Int:=[lastOf h,if h=[] then row.getD 0 0 else lastOf h]
open Classical in
noncomputable def machC:Mach ndC where
 out:=outC
 G:=fun T σ h=>∀b x u v c y p d z q,T=[.p b x u v,.p c y p (.o d z q)]→((σ b).1=decide (h≠[])∧(σ b).2=lastOf h)∧(σ c).1=decide (h≠[])∧(σ d).2=lastOf h
 init:=fun T _ b x u v c y p d z q _=>⟨⟨by simp,rfl⟩,by simp,rfl⟩
 step:=fun T σ h row hT hG hr=>by
  obtain ⟨t,t',rfl,ht,ht'⟩:=ts_two hT rfl
  obtain ⟨b,u,v,rfl,hu,hv⟩:=two_is ht rfl
  obtain ⟨b1,rfl⟩:=no_is hu rfl
  obtain ⟨b2,rfl⟩:=no_is hv rfl
  obtain ⟨c,p,w,rfl,hp,hw⟩:=two_is ht' rfl
  obtain ⟨c1,rfl⟩:=no_is hp rfl
  obtain ⟨d,q,rfl,hq⟩:=one_is hw rfl
  obtain ⟨d1,rfl⟩:=no_is hq rfl
  obtain ⟨a,rfl⟩:=row_one hr
  obtain ⟨⟨g1,g2⟩,g3,g4⟩:=hG b _ _ _ c _ _ d _ _ rfl
  have hf:=hT.far
  generalize hTT:([.p b xC (.l b1 xC0) (.l b2 xC1),.p c xD (.l c1 xD0) (.o d xD1 (.l d1 xD2))]:List Tm)=TT at hf
  have hA:allT TT=[.p b xC (.l b1 xC0) (.l b2 xC1),.l b1 xC0,.l b2 xC1,.p c xD (.l c1 xD0) (.o d xD1 (.l d1 xD2)),.l c1 xD0,.o d xD1 (.l d1 xD2),.l d1 xD2]:=by rw[←hTT];rfl
  rw[hA] at hf
  have ne:∀x y:Tm,x∈[Tm.p b xC (.l b1 xC0) (.l b2 xC1),.l b1 xC0,.l b2 xC1,.p c xD (.l c1 xD0) (.o d xD1 (.l d1 xD2)),.l c1 xD0,.o d xD1 (.l d1 xD2),.l d1 xD2]→y∈[Tm.p b xC (.l b1 xC0) (.l b2 xC1),.l b1 xC0,.l b2 xC1,.p c xD (.l c1 xD0) (.o d xD1 (.l d1 xD2)),.l c1 xD0,.o d xD1 (.l d1 xD2),.l d1 xD2]→x.e.op≠y.e.op→x.b≠y.b:=fun x y hx hy h e=>h (hf x hx y hy e)
  have nb:∀y:Tm,y∈[Tm.l b1 xC0,.l b2 xC1,.p c xD (.l c1 xD0) (.o d xD1 (.l d1 xD2)),.l c1 xD0,.o d xD1 (.l d1 xD2),.l d1 xD2]→b≠y.b:=fun y hy=>ne (.p b xC (.l b1 xC0) (.l b2 xC1)) y (by simp) (by simp at hy⊢;exact .inr hy) (by
   simp at hy
   rcases hy with rfl|rfl|rfl|rfl|rfl|rfl<;>simp[Tm.e,Ex.op])
  have k1:b≠b1:=nb (.l b1 xC0) (by simp)
  have k2:b≠b2:=nb (.l b2 xC1) (by simp)
  have k3:b≠c:=nb (.p c xD (.l c1 xD0) (.o d xD1 (.l d1 xD2))) (by simp)
  have k4:b≠c1:=nb (.l c1 xD0) (by simp)
  have k5:b≠d:=nb (.o d xD1 (.l d1 xD2)) (by simp)
  have k6:b≠d1:=nb (.l d1 xD2) (by simp)
  have m1:d≠d1:=ne (.o d xD1 (.l d1 xD2)) (.l d1 xD2) (by simp) (by simp) (by simp[Tm.e,Ex.op])
  have m2:c≠d1:=ne (.p c xD (.l c1 xD0) (.o d xD1 (.l d1 xD2))) (.l d1 xD2) (by simp) (by simp) (by simp[Tm.e,Ex.op])
  have m3:c≠d:=ne (.p c xD (.l c1 xD0) (.o d xD1 (.l d1 xD2))) (.o d xD1 (.l d1 xD2)) (by simp) (by simp) (by simp[Tm.e,Ex.op])
  have m4:c≠c1:=ne (.p c xD (.l c1 xD0) (.o d xD1 (.l d1 xD2))) (.l c1 xD0) (by simp) (by simp) (by simp[Tm.e,Ex.op])
  have ha:∀(B:Nat) (e:Ex),e.op=3→e.name=⟨#[97]⟩→EI ndC TT [a] σ (.l B e) a:=fun B e h1 h2=> .inp (i:=0) h1 (by rw[h2];exact idx_a rfl) rfl
  have hb:EI ndC TT [a] σ (.p b xC (.l b1 xC0) (.l b2 xC1)) (lastOf h):=by
   by_cases g:h=[]
   ·subst g
    exact .fby0 rfl (g1.trans (by simp)) (.num rfl)
   ·rw[←g2]
    exact .fby1 rfl (g1.trans (by simp[g]))
  have hc:EI ndC TT [a] σ (.p c xD (.l c1 xD0) (.o d xD1 (.l d1 xD2))) (if h=[] then a else lastOf h):=by
   by_cases g:h=[]
   ·rw[if_pos g]
    exact .arr0 rfl (g3.trans (by simp[g])) (ha _ _ rfl rfl)
   ·rw[if_neg g,←g4]
    exact .arr1 rfl (g3.trans (by simp[g])) (.pre rfl)
  refine ⟨_,⟨.cons (.inr ⟨by simp,0,_,_,rfl,rfl,fun j hj=>absurd hj (by omega),by rw[←hTT];rfl,hb⟩) (.cons (.inr ⟨by simp,1,_,_,rfl,rfl,fun j hj r hr=>?_,by rw[←hTT];rfl,hc⟩) .nil),[(b,a),(b1,0),(b2,0),(c,0),(c1,0),(d,a),(d1,0)],?_,rfl⟩,?_⟩
  ·obtain rfl:j=0:=by omega
   cases hr
   simp
  ·rw[hA]
   exact .cons (.fby rfl (ha _ _ rfl rfl)) (.cons (.l (.inl rfl)) (.cons (.l (.inr rfl)) (.cons (.arr rfl) (.cons (.l (.inr rfl)) (.cons (.pre rfl (ha _ _ rfl rfl)) (.cons (.l (.inr rfl)) .nil))))))
  rintro b' x' u' v' c' y' p' d' z' q' e
  rw[←hTT] at e
  cases e
  have hl:=(last_snoc h [a]).symm
  have h1:([(b,a),(b1,0),(b2,0),(c,0),(c1,0),(d,a),(d1,0)]:List (Nat × Int)).foldl setP σ b=(true,a):=by simp[setP,k1,k2,k3,k4,k5,k6]
  have h2:([(b,a),(b1,0),(b2,0),(c,0),(c1,0),(d,a),(d1,0)]:List (Nat × Int)).foldl setP σ c=(true,0):=by simp[setP,m2,m3,m4]
  have h3:([(b,a),(b1,0),(b2,0),(c,0),(c1,0),(d,a),(d1,0)]:List (Nat × Int)).foldl setP σ d=(true,a):=by simp[setP,m1]
  rw[h1,h2,h3]
  exact ⟨⟨by simp,hl⟩,by simp,hl⟩
open Go.RowKit
theorem Tm.all_self:∀t:Tm,t∈t.all
 | .l _ _=>by simp[Tm.all]
 | .o _ _ _=>by simp[Tm.all]
 | .p _ _ _ _=>by simp[Tm.all]
theorem TmAt.sub {σ:Past} {w:World} {lo hi:Nat}:∀{t:Tm},TmAt σ w lo hi t→∀u∈t.all,TmAt σ w lo hi u
 | .l b e,h,u,hu=>by
  simp only[Tm.all,List.mem_singleton] at hu
  subst hu
  exact h
 | .o b e x,h,u,hu=>by
  simp only[Tm.all,List.mem_cons] at hu
  rcases hu with rfl|hu
  ·exact h
  ·exact TmAt.sub h.2 u hu
 | .p b e x y,h,u,hu=>by
  simp only[Tm.all,List.mem_cons,List.mem_append] at hu
  rcases hu with rfl|hu|hu
  ·exact h
  ·exact TmAt.sub h.2.1 u hu
  ·exact TmAt.sub h.2.2 u hu
theorem tm_op {σ:Past} {w:World} {lo hi lo' hi':Nat} {t u:Tm} (h:TmAt σ w lo hi t) (h':TmAt σ w lo' hi' u) (e:t.b=u.b):t.e.op=u.e.op:=by
 obtain ⟨_,A,c,pa,kc,r,_⟩:=h.row
 obtain ⟨_,A',c',pa',kc',r',_⟩:=h'.row
 rw[←e] at r'
 have h1:some (Value.int .i64 t.e.op)=some (Value.int .i64 u.e.op):=(r.cell 0).symm.trans (r'.cell 0)
 injection h1 with h1
 injection h1
theorem ptrs_keep {w w':World} {B B':Nat} {v:Value} {l:List Nat} (h:SlV w B 1 isPtr v l) (hB:B≤B') (hk:∀(b i x:Nat),w.cell? ⟨b,i,none⟩=some (.pointer (some ⟨x,0,none⟩))→w'.cell? ⟨b,i,none⟩=some (.pointer (some ⟨x,0,none⟩))):SlV w' B' 1 isPtr v l:=by
 obtain ⟨A,cap,h1,h2,h3,h4⟩:=h
 refine ⟨A,cap,h1,h2,h3,fun hn=>?_⟩
 obtain ⟨b,off,hA,hb,hx⟩:=h4 hn
 refine ⟨b,off,hA,by omega,fun i x hi=>?_⟩
 obtain ⟨cs,hc,hr⟩:=hx i x hi
 have hr':cs=[.pointer (some ⟨x,0,none⟩)]:=hr
 subst hr'
 refine ⟨_,fun j u hu=>?_,rfl⟩
 have hj:j=0:=by
  cases j with
  |zero=>rfl
  |succ j=>simp at hu
 subst hj
 have hu':u= .pointer (some ⟨x,0,none⟩):=by simpa using hu.symm
 subst hu'
 exact hk _ _ _ (hc 0 _ rfl)
structure Chg (w w':World) (b:Nat) (v:Int):Prop where
 far:∀k,k≠b→w'.heap[k]? =w.heap[k]?
 row:∀(e:Ex) (A:Option Addr) (cap:Nat) (pa:Value) (s:Bool × Int) (kc:Option Addr × Nat),Row w b (tmA e A cap pa s kc) 158→Row w' b (tmA e A cap pa (true,v) kc) 158
 size:w'.heap.size=w.heap.size
 upd:Upd (fun j=>j=b) w w'
section
variable {σ:Past} {w w':World} {lo hi b cap:Nat} {e:Ex} {A:Option Addr} {pa:Value} {s:Bool × Int} {kc:Option Addr × Nat} {v:Int}
theorem chg_10:Chg w ((w.setCell ⟨b,10,none⟩ (.int .i64 v)).setCell ⟨b,9,none⟩ (.bool true)) b v where
 far:=fun k h=>by rw[Below.heap_setCell _ _ _ k (by exact h),Below.heap_setCell _ _ _ k (by exact h)]
 row:=fun e A cap pa s kc h=>by
  have:=(h.set 10 (.int .i64 v)).set 9 (.bool true)
  simpa using this
 size:=by simp[World.setCell]
 upd:=((Upd.refl (fun j=>j=b) w).setCell (p:=⟨b,10,none⟩) rfl _).setCell (p:=⟨b,9,none⟩) rfl _
theorem Chg.drew (h:Chg w w' b v):Chg w w'.drew b v:=⟨h.far,h.row,h.size,h.upd.drew⟩
theorem Chg.ptr (hc:Chg w w' b v) (h:Row w b (tmA e A cap pa s kc) 158) {k i x:Nat} (hp:w.cell? ⟨k,i,none⟩=some (.pointer (some ⟨x,0,none⟩))):w'.cell? ⟨k,i,none⟩=some (.pointer (some ⟨x,0,none⟩)):=by
 by_cases hk:k=b
 ·subst hk
  rw[h.cell i] at hp
  rw[(hc.row _ _ _ _ _ _ h).cell i]
  match i,hp with
  |0,hp=>simp at hp
  |1,hp=>simp at hp
  |2,hp=>simp at hp
  |3,hp=>simp at hp
  |4,hp=>simp at hp
  |5,hp=>simp at hp
  |6,hp=>simp at hp
  |7,hp=>simpa using hp
  |8,hp=>simp at hp
  |9,hp=>simp at hp
  |10,hp=>simp at hp
  |n+11,hp=>simp at hp
 ·rw[←hp]
  exact World.cell?_of_block (hc.far k hk)
theorem hide_ge {B:Nat} {p:Addr} {u:Value} (h:(hide B w).cell? p=some u):B≤p.block:=by
 refine Classical.byContradiction fun hp=>?_
 simp only[World.cell?,hide,Array.getElem?_mapIdx] at h
 cases hk:w.heap[p.block]? with
 |none=>rw[hk] at h;cases h
 |some o=>rw[hk] at h;simp only[Option.map_some] at h;rw[if_pos (by omega)] at h;cases h
theorem Chg.hptr (hc:Chg w w' b v) (h:Row w b (tmA e A cap pa s kc) 158) {B k i x:Nat} (hp:(hide B w).cell? ⟨k,i,none⟩=some (.pointer (some ⟨x,0,none⟩))):(hide B w').cell? ⟨k,i,none⟩=some (.pointer (some ⟨x,0,none⟩)):=by
 have hg:B≤k:=hide_ge hp
 rw[←hc.ptr h (hide_cell hp)]
 exact World.cell?_of_block (hide_block hg)
theorem TmRow.chg (hc:Chg w w' b v) (h:Row w b (tmA e A cap pa s kc) 158) {k:Nat} {x:Ex} {l:List Nat} (g:TmRow σ w lo hi k x l):TmRow (setP σ (b,v)) w' lo hi k x l:=by
 obtain ⟨hb,A',cap',pa',kc',r,hp⟩:=g
 refine ⟨hb,A',cap',pa',kc',?_,ptrs_keep hp (Nat.le_refl _) fun _ _ _ hq=>hc.hptr h hq⟩
 by_cases hk:k=b
 ·subst hk
  rw[show setP σ (k,v) k=(true,v) from if_pos rfl]
  exact hc.row _ _ _ _ _ _ r
 ·rw[show setP σ (b,v) k=σ k from if_neg hk]
  exact (hc.far k hk).trans r
theorem TmAt.chg (hc:Chg w w' b v) (h:Row w b (tmA e A cap pa s kc) 158):∀{t:Tm},TmAt σ w lo hi t→TmAt (setP σ (b,v)) w' lo hi t
 | .l _ _,g=>TmRow.chg hc h g
 | .o _ _ _,g=>⟨TmRow.chg hc h g.1,TmAt.chg hc h g.2⟩
 | .p _ _ _ _,g=>⟨TmRow.chg hc h g.1,TmAt.chg hc h g.2.1,TmAt.chg hc h g.2.2⟩
end
abbrev dnB (n:Nd) (a:NdA) (Ae:Option Addr) (m ce:Nat) (kv:Value):Array Value:= #[.string n.name,.slice a.ai n.ins.length a.ci,.slice a.ao n.outs.length a.co,.slice a.av n.vars.length a.cv,.slice a.aq n.eqs.length a.cq,.int .i64 n.line,.int .i64 n.col,.pointer none,.pointer none,.slice Ae m ce,kv]
structure RnQ where
 n:Nd
 a:NdA
 T:List Tm
 N:Nat
 lo:Nat
 hi:Nat
 R:Nat
 D:Nat
 As:Value
 Ae:Option Addr
 ce:Nat
structure RnAt (Q:RnQ) (σ:Past) (w:World) (rv kv:Value):Prop where
 rr:Row w Q.R #[Q.As,rv] 73
 rd:Row w Q.D (dnB Q.n Q.a Q.Ae Q.T.length Q.ce kv) 117
 nd:NdAt w Q.N Q.n Q.a
 ep:SlV (hide Q.lo w) Q.hi 1 isPtr (.slice Q.Ae Q.T.length Q.ce) (Q.T.map Tm.b)
 tm:∀t∈Q.T,TmAt σ w Q.lo Q.hi t
 lt:Q.hi≤w.heap.size
structure RnK (Q:RnQ):Prop where
 NR:Q.N≤Q.R
 ND:Q.N≤Q.D
 hR:Q.R<Q.lo
 hD:Q.D<Q.lo
 RD:Q.R≠Q.D
 lh:Q.lo≤Q.hi
 sm:NdSm Q.n
section
variable {Q:RnQ} {σ:Past} {w w':World} {rv kv rv' kv':Value}
theorem RnAt.len (h:RnAt Q σ w rv kv):Q.T.length≤Q.ce∧Q.ce≤maxLen:=by
 obtain ⟨A,c,h1,h2,h3,_⟩:=h.ep
 rw[List.length_map] at h1 h2
 cases h1
 exact ⟨h2,h3⟩
theorem RnAt.eps (h:RnAt Q σ w rv kv):Sl (hide Q.lo w) Q.hi 1 isPtr Q.Ae (Q.T.map Tm.b):=by
 obtain ⟨A,c,h1,h2,h3,h4⟩:=h.ep
 rw[List.length_map] at h1
 cases h1
 exact h4
theorem RnAt.at_ (h:RnAt Q σ w rv kv) {t:Tm} (ht:t∈allT Q.T):TmAt σ w Q.lo Q.hi t:=by
 unfold allT at ht
 rw[List.mem_flatten] at ht
 obtain ⟨l,hl,ht⟩:=ht
 obtain ⟨u,hu,rfl⟩:=List.mem_map.1 hl
 exact (h.tm u hu).sub t ht
theorem RnAt.far (h:RnAt Q σ w rv kv):∀t∈allT Q.T,∀u∈allT Q.T,t.b=u.b→t.e.op=u.e.op:=fun _ ht _ hu e=>tm_op (h.at_ ht) (h.at_ hu) e
theorem RnAt.turn {X:Nat→Prop} (h:RnAt Q σ w rv kv) (hk:RnK Q) (hu:Upd X w w') (hX:∀k,X k→k=Q.D∨k=Q.R∨Q.hi≤k) (r1:Row w' Q.R #[Q.As,rv'] 73) (r2:Row w' Q.D (dnB Q.n Q.a Q.Ae Q.T.length Q.ce kv') 117):RnAt Q σ w' rv' kv':=by
 have hlt:=h.lt
 have h1:=hk.hR
 have h2:=hk.hD
 have h3:=hk.lh
 have h4:=hk.NR
 have h5:=hk.ND
 have hX':∀k,X k→k<Q.lo∨Q.hi≤k:=fun k e=>by rcases hX k e with rfl|rfl|g<;>omega
 have hb:Below Q.N w w':=Upd.below hu (fun k e=>by rcases hX k e with rfl|rfl|g<;>omega) (by omega)
 exact ⟨r1,r2,h.nd.keep (keeps_of hb) (Nat.le_refl _),SlV.keep h.ep (keeps_of (hu.bhide hX' hlt)) (Nat.le_refl _) (fun _ _ _ g=>g),fun t ht=>TmAt.upd hu hX' hlt (h.tm t ht),by have:=hu.size;omega⟩
theorem RnAt.upd {X:Nat→Prop} (h:RnAt Q σ w rv kv) (hk:RnK Q) (hu:Upd X w w') (hX:∀k,X k→Q.hi≤k):RnAt Q σ w' rv kv:=by
 have h1:=hk.hR
 have h2:=hk.hD
 have h3:=hk.lh
 exact h.turn hk hu (fun k e=> .inr (.inr (hX k e))) (hu.row h.rr fun e=>by have:=hX _ e;omega) (hu.row h.rd fun e=>by have:=hX _ e;omega)
theorem RnAt.known (h:RnAt Q σ w rv kv) (hk:RnK Q) (v:Value):RnAt Q σ (w.setCell ⟨Q.D,10,none⟩ v) rv v:=by
 have u:Upd (fun j=>j=Q.D) w (w.setCell ⟨Q.D,10,none⟩ v):=(Upd.refl (fun j=>j=Q.D) w).setCell (p:=⟨Q.D,10,none⟩) rfl _
 refine h.turn hk u (fun k e=> .inl e) (u.row h.rr hk.RD) ?_
 have:=h.rd.set 10 v
 simpa using this
theorem RnAt.fed (h:RnAt Q σ w rv kv) (hk:RnK Q) (v:Value):RnAt Q σ (w.setCell ⟨Q.R,1,none⟩ v) v kv:=by
 have u:Upd (fun j=>j=Q.R) w (w.setCell ⟨Q.R,1,none⟩ v):=(Upd.refl (fun j=>j=Q.R) w).setCell (p:=⟨Q.R,1,none⟩) rfl _
 refine h.turn hk u (fun k e=> .inr (.inl e)) ?_ (u.row h.rd hk.RD.symm)
 have:=h.rr.set 1 v
 simpa using this
theorem RnAt.chg {b:Nat} {v:Int} (h:RnAt Q σ w rv kv) (hk:RnK Q) {t:Tm} (ht:t∈allT Q.T) (hb:t.b=b) (hc:Chg w w' b v):RnAt Q (setP σ (b,v)) w' rv kv:=by
 subst hb
 obtain ⟨⟨g1,g2⟩,A,c,pa,kc,r,_⟩:=(h.at_ ht).row
 have h1:=hk.hR
 have h2:=hk.hD
 have h3:=hk.NR
 have hK:Keeps Q.N w w':=fun p u hp hx=>by rw[←hx];exact World.cell?_of_block (hc.far _ (by omega))
 exact ⟨(hc.far _ (by omega)).trans h.rr,(hc.far _ (by omega)).trans h.rd,h.nd.keep hK (Nat.le_refl _),ptrs_keep h.ep (Nat.le_refl _) fun _ _ _ hx=>hc.hptr r hx,fun u hu=>TmAt.chg hc r (h.tm u hu),by rw[hc.size];exact h.lt⟩
end
end Go.Proofs.YtdkgkacnjdnpoaaGreat
