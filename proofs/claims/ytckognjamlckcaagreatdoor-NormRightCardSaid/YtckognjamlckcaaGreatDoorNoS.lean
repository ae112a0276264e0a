/-
  A region that draws its order and holds late stores: what is held till the first of them (S1), and what is held throughout (S0). A region that draws its order, with late stores and steps that make memory ahead of them. norm.Of: what lies in memory at first, and at the end.
-/
import Derived.Test.YtckognjamlckcaaGreatDoorRgL
import Derived.Test.YtckognjamlckcaaGreatDoorNoR
namespace Go.Proofs.YtckognjamlckcaaGreatDoor
open Go.RowKit
section
variable {P:Program} {ops:Array Oper} {Q:Exit→Act→World→Prop} {md:Region.Mode} {S0 S1:World→Prop} {T:List Nat}
def SM (S0 S1:World→Prop) (T:List Nat) (listed:Array Bool) (w:World):Prop:=S0 w∧((∀t∈T,listed.getD t true=false)→S1 w)
def wpAnyM (P:Program) (md:Region.Mode) (ops:Array Oper) (Q:Exit→Act→World→Prop) (S0 S1:World→Prop) (T:List Nat):Nat→Array Bool→Act→World→Prop
 |0,listed,a,w=>Region.ready md ops listed=[]∧Q .normal a w
 |fuel+1,listed,a,w=>
  (Region.ready md ops listed=[]→Q .normal a w)∧
  ∀i∈Region.ready md ops listed,wpOp P ops Q i (fun a' w'=>SM S0 S1 T (listed.setIfInBounds i true) w'∧wpAnyM P md ops Q S0 S1 T fuel (listed.setIfInBounds i true) a' w') a w
theorem wpAny_of_M:∀(fuel:Nat) (listed:Array Bool) (a:Act) (w:World),wpAnyM P md ops Q S0 S1 T fuel listed a w→wpAny P md ops Q fuel listed a w
 |0,_,_,_,h=>h
 |fuel+1,_,_,_,h=>⟨h.1,fun i hi=>wpOp_mono (fun a' w' h'=>wpAny_of_M fuel _ a' w' h'.2) (h.2 i hi)⟩
theorem unl_set {listed:Array Bool} {i t:Nat} (h:i≠t):(listed.setIfInBounds i true).getD t true=listed.getD t true:=getD_set_ne true h
theorem SM.set {listed:Array Bool} {i:Nat} {w:World} (hi:i∉T):SM S0 S1 T (listed.setIfInBounds i true) w↔SM S0 S1 T listed w:=by
 have e:(∀t∈T,(listed.setIfInBounds i true).getD t true=false)↔∀t∈T,listed.getD t true=false:=
  forall_congr' fun t=>forall_congr' fun ht=>by
   have hne:i≠t:=fun g=>hi (by rw[g];exact ht)
   rw[unl_set hne]
 unfold SM
 rw[e]
theorem wpAnyM_first {b:Bool} {i:Nat} {oi:Oper} {v:Value} (hiT:i∉T) (hl:b=true→∀t∈T,lastOp md ops t i=true) (hi:ops[i]? =some oi) (hsel:∀(j:Nat) (o:Oper) cs c,ops[j]? =some o→o.op≠ .select cs c)
  (hQ:∀c a w,Q (.panic c) (a.put oi.dst v) w→Q (.panic c) a w):
  ∀(fuel:Nat) (listed:Array Bool) (a:Act) (w:World),
   (∀j oj,ops[j]? =some oj→j≠i→listed.getD j true=false→(∀e∈oj.after,Region.binds md e=true→e.on≠i)→oi.apart ops oj=true)→
   i∈Region.ready md ops listed→YieldsIf P ops (fun w=>S0 w∧(b=true→S1 w)) oi v a→SM S0 S1 T listed w→(b=true→∀t∈T,listed.getD t true=false)→
   wpAnyM P md ops Q S0 S1 T fuel (listed.setIfInBounds i true) (a.put oi.dst v) w→wpAnyM P md ops Q S0 S1 T (fuel+1) listed a w:=by
 intro fuel
 induction fuel with
 |zero=>
  intro listed a w _ hr hy hS hT H
  refine ⟨fun h=>(by rw[h] at hr;cases hr),fun j hj=>?_⟩
  by_cases hji:j=i
  ·subst hji;exact hy.wpOp hi ⟨hS.1,fun g=>hS.2 (hT g)⟩ ⟨(SM.set hiT).2 hS,H⟩
  ·have:=ready_mono hj hji
   rw[H.1] at this
   cases this
 |succ fuel ih=>
  intro listed a w hfree hr hy hS hT H
  refine ⟨fun h=>(by rw[h] at hr;cases hr),fun j hj=>?_⟩
  by_cases hji:j=i
  ·subst hji;exact hy.wpOp hi ⟨hS.1,fun g=>hS.2 (hT g)⟩ ⟨(SM.set hiT).2 hS,H⟩
  ·have h1:=H.2 j (ready_mono hj hji)
   obtain ⟨hjun,oj,hoj,hall⟩:=mem_ready.1 hj
   have hnot:∀e∈oj.after,Region.binds md e=true→e.on≠i:=fun e he hb heq=>by
    have h1:=hall e he hb
    have h0:=(mem_ready.1 hr).1
    rw[heq] at h1
    rcases Nat.lt_or_ge i listed.size with h'|h'
    ·simp[h'] at h0 h1;rw[h0] at h1;cases h1
    ·simp[Array.getElem?_eq_none h'] at h1
   have h2:=wpOp_putIf hoj (hfree j oj hoj hji hjun hnot) (fun cs c=>hsel i oi cs c hi) (fun cs c=>hsel j oj cs c hoj) hQ hy h1
   have hfree':∀k ok,ops[k]? =some ok→k≠i→(listed.setIfInBounds j true).getD k true=false→
     (∀e∈ok.after,Region.binds md e=true→e.on≠i)→oi.apart ops ok=true:=fun k ok hk hki hun hno=>by
    refine hfree k ok hk hki ?_ hno
    by_cases hjk:j=k
    ·subst hjk;exact hjun
    ·rw[getD_set_ne true hjk] at hun;exact hun
   have hT':b=true→∀t∈T,(listed.setIfInBounds j true).getD t true=false:=fun g t ht=>by
    have hjt:j≠t:=fun e=>last_not (hl g t ht) hr (e▸hj)
    rw[unl_set hjt]
    exact hT g t ht
   have hSM:∀w',SM S0 S1 T ((listed.setIfInBounds i true).setIfInBounds j true) w'→SM S0 S1 T (listed.setIfInBounds j true) w':=fun w' g=>by
    rw[Array.setIfInBounds_comm _ _ (Ne.symm hji)] at g
    exact (SM.set hiT).1 g
   refine wpOp_mono (fun a' w' h3=>⟨hSM w' h3.2.1,ih (listed.setIfInBounds j true) a' w' hfree' (ready_mono hr (Ne.symm hji)) h3.1 (hSM w' h3.2.1) hT' ?_⟩) h2
   rw[Array.setIfInBounds_comm _ _ hji]
   exact h3.2.2
theorem wpAnyM_done {listed:Array Bool} {a:Act} {w:World} (hr:Region.ready md ops listed=[]) (h:Q .normal a w):∀fuel,wpAnyM P md ops Q S0 S1 T fuel listed a w
 |0=>⟨hr,h⟩
 |_+1=>⟨fun _=>h,by rw[hr];simp⟩
theorem wp_region_M (T:List Nat) {id:Nat} {a:Act} {w:World} (hm:P.follows .mixedOrders=true) (hS:S0 w.drew∧S1 w.drew) (h:S0 w.drew∧S1 w.drew→wpAnyM P .any ops Q S0 S1 T ops.size (Array.replicate ops.size false) a w.drew):(Code.region id ops true).wp P Q a w:=
 wp_region_any hm (wpAny_of_M _ _ _ _ (h hS))
variable {fuel:Nat} {listed:Array Bool} {a a':Act} {w:World} {v:Value} {o:Op} {ty:TypeId} {pos:String} {af:Array Edge} {g:Option (Nat × Bool)}
theorem tk_core (b:Bool) (i:Nat) (d:Option Tmp) (hi:ops[i]? =some {dst:=d,op:=o,type:=ty,pos:=pos,after:=af,guard:=g}) (h:wpAnyM P md ops Q S0 S1 T fuel (listed.setIfInBounds i true) (a.put d v) w)
  (hl:(T.contains i==false && (!b||T.all fun t=>lastOp md ops t i && (listed.getD t true==false)))=true)
  (hs:Region.noSelect ops=true) (hf:Region.free md ops listed i=true) (hr:(Region.ready md ops listed).contains i=true)
  (hw:Region.wanted {dst:=d,op:=o,type:=ty,pos:=pos,after:=af,guard:=g} (yielded ops a.tmps)=true)
  (hy:∀w,S0 w→(b=true→S1 w)→(execOp a.eval {dst:=d,op:=o,type:=ty,pos:=pos,after:=af,guard:=g}).run P w= .ok (.value v) w)
  (hQ:∀c a w,Q (.panic c) (a.put d v) w→Q (.panic c) a w) (hS:SM S0 S1 T listed w):wpAnyM P md ops Q S0 S1 T (fuel+1) listed a w:=by
 rw[Bool.and_eq_true] at hl
 have hiT:i∉T:=fun h=>by
  have:=List.contains_iff_mem.2 h
  rw[this] at hl
  exact absurd hl.1 (by decide)
 have hb:b=true→∀t∈T,lastOp md ops t i=true∧listed.getD t true=false:=fun g t ht=>by
  have h2:=hl.2
  rw[g] at h2
  simp only[Bool.not_true,Bool.false_or,List.all_eq_true,Bool.and_eq_true,beq_iff_eq] at h2
  exact h2 t ht
 exact wpAnyM_first (b:=b) hiT (fun g t ht=>(hb g t ht).1) hi (Region.noSelect_spec hs) hQ fuel listed a w (Region.free_spec hi hf) (by simpa using hr) (.inl ⟨hw,fun w h=>hy w h.1 h.2⟩) hS (fun g t ht=>(hb g t ht).2) h
theorem tkN (i:Nat) (d:Option Tmp) (hi:ops[i]? =some {dst:=d,op:=o,type:=ty,pos:=pos,after:=af,guard:=g}) (h:wpAnyM P md ops Q S0 S1 T fuel (listed.setIfInBounds i true) a' w)
  (hl:(T.contains i==false && (!true||T.all fun t=>lastOp md ops t i && (listed.getD t true==false)))=true:=by kernel_rfl)
  (hs:Region.noSelect ops=true:=by kernel_rfl) (hf:Region.free md ops listed i=true:=by kernel_rfl) (hr:(Region.ready md ops listed).contains i=true:=by kernel_rfl)
  (hw:Region.wanted {dst:=d,op:=o,type:=ty,pos:=pos,after:=af,guard:=g} (yielded ops a.tmps)=true:=by kernel_rfl)
  (hy:∀w,S0 w→S1 w→(execOp a.eval {dst:=d,op:=o,type:=ty,pos:=pos,after:=af,guard:=g}).run P w= .ok (.value v) w:=by intro w hSw hSw1;(try dsimp only at hSw hSw1);go_simp;(try with_reducible rfl))
  (hQ:∀c a w,Q (.panic c) (a.put d v) w→Q (.panic c) a w:=by exact fun _ _ _ h=>h)
  (hS:S0 w∧S1 w:=by first|assumption|trivial)
  (ha:a.put d v=a':=by (try simp only[Act.put,List.setIfInBounds_toArray,List.set_cons_zero,List.set_cons_succ]);(try exact rfl)):wpAnyM P md ops Q S0 S1 T (fuel+1) listed a w:=by
 subst ha
 exact tk_core true i d hi h hl hs hf hr hw (fun w h0 h1=>hy w h0 (h1 rfl)) hQ ⟨hS.1,fun _=>hS.2⟩
theorem tkB (i:Nat) (d:Option Tmp) (hi:ops[i]? =some {dst:=d,op:=o,type:=ty,pos:=pos,after:=af,guard:=g}) (h:wpAnyM P md ops Q S0 S1 T fuel (listed.setIfInBounds i true) a' w)
  (hl:(T.contains i==false && (!false||T.all fun t=>lastOp md ops t i && (listed.getD t true==false)))=true:=by kernel_rfl)
  (hs:Region.noSelect ops=true:=by kernel_rfl) (hf:Region.free md ops listed i=true:=by kernel_rfl) (hr:(Region.ready md ops listed).contains i=true:=by kernel_rfl)
  (hw:Region.wanted {dst:=d,op:=o,type:=ty,pos:=pos,after:=af,guard:=g} (yielded ops a.tmps)=true:=by kernel_rfl)
  (hy:∀w,S0 w→(execOp a.eval {dst:=d,op:=o,type:=ty,pos:=pos,after:=af,guard:=g}).run P w= .ok (.value v) w:=by intro w hSw;(try dsimp only at hSw);go_simp;(try with_reducible rfl))
  (hQ:∀c a w,Q (.panic c) (a.put d v) w→Q (.panic c) a w:=by exact fun _ _ _ h=>h)
  (hS:S0 w∧S1 w:=by first|assumption|trivial)
  (ha:a.put d v=a':=by (try simp only[Act.put,List.setIfInBounds_toArray,List.set_cons_zero,List.set_cons_succ]);(try exact rfl)):wpAnyM P md ops Q S0 S1 T (fuel+1) listed a w:=by
 subst ha
 exact tk_core false i d hi h hl hs hf hr hw (fun w h0 _=>hy w h0) hQ ⟨hS.1,fun _=>hS.2⟩
theorem tkA (i:Nat) (d:Option Tmp) (hi:ops[i]? =some {dst:=d,op:=o,type:=ty,pos:=pos,after:=af,guard:=g}) (h:wpAnyM P md ops Q S0 S1 T fuel (listed.setIfInBounds i true) a' w)
  (hl:(T.contains i==false && (!false||T.all fun t=>lastOp md ops t i && (listed.getD t true==false)))=true:=by kernel_rfl)
  (hs:Region.noSelect ops=true:=by kernel_rfl) (hf:Region.free md ops listed i=true:=by kernel_rfl) (hr:(Region.ready md ops listed).contains i=true:=by kernel_rfl)
  (hw:Region.wanted {dst:=d,op:=o,type:=ty,pos:=pos,after:=af,guard:=g} (yielded ops a.tmps)=true:=by kernel_rfl)
  (hy:∀w,S0 w→(execOp a.eval {dst:=d,op:=o,type:=ty,pos:=pos,after:=af,guard:=g}).run P w= .ok (.value v) w:=by intro w hSw;(try dsimp only at hSw);go_simp;(try with_reducible rfl))
  (hQ:∀c a w,Q (.panic c) (a.put d v) w→Q (.panic c) a w:=by exact fun _ _ _ h=>h)
  (hT:(T.any fun t=>listed.getD t true)=true:=by kernel_rfl)
  (hS:S0 w:=by first|assumption|trivial)
  (ha:a.put d v=a':=by (try simp only[Act.put,List.setIfInBounds_toArray,List.set_cons_zero,List.set_cons_succ]);(try exact rfl)):wpAnyM P md ops Q S0 S1 T (fuel+1) listed a w:=by
 subst ha
 refine tk_core false i d hi h hl hs hf hr hw (fun w h0 _=>hy w h0) hQ ⟨hS,fun q=>?_⟩
 obtain ⟨t,ht,e⟩:=List.any_eq_true.1 hT
 rw[q t ht] at e
 cases e
theorem rdM (i:Nat) (d:Option Tmp) (hi:ops[i]? =some {dst:=d,op:=o,type:=ty,pos:=pos,after:=af,guard:=g})
  (h:∀K':Act→World→Prop,Shut (∀a w,S0 w→(S0 w→wpAnyM P md ops Q S0 S1 T fuel (listed.setIfInBounds i true) a w)→K' a w)→if Region.wanted {dst:=d,op:=o,type:=ty,pos:=pos,after:=af,guard:=g} (yielded ops a.tmps)=true then Oper.wp P {dst:=d,op:=o,type:=ty,pos:=pos,after:=af,guard:=g} a w K' Q else K' (a.put d undef) w)
  (hr:Region.ready md ops listed=[i]:=by kernel_rfl) (ht:(T.contains i && decide (i<listed.size))=true:=by kernel_rfl):wpAnyM P md ops Q S0 S1 T (fuel+1) listed a w:=
 ⟨fun h0=>(by rw[hr] at h0;cases h0),fun j hj=>by
  rw[hr] at hj
  obtain rfl:=List.mem_singleton.1 hj
  rw[Bool.and_eq_true] at ht
  exact wpOp_step hi (fun K' hK=>h K' (fun a w hS hW=>hK a w ⟨⟨hS,fun g=>by
   have:=g j (List.contains_iff_mem.1 ht.1)
   have hs:j<listed.size:=of_decide_eq_true ht.2
   simp[hs] at this⟩,hW hS⟩))⟩
end
end Go.Proofs.YtckognjamlckcaaGreatDoor
namespace Go.Proofs.YtckognjamlckcaaGreatDoor
open Go.RowKit
section
variable {P:Program} {ops:Array Oper} {Q:Exit→Act→World→Prop} {md:Region.Mode} {S0 S1:World→Prop} {T:List Nat}
variable {fuel:Nat} {listed:Array Bool} {a a':Act} {w:World} {v:Value} {o:Op} {ty:TypeId} {pos:String} {af:Array Edge} {g:Option (Nat × Bool)}
theorem rdMe (i:Nat) (d:Option Tmp) (hi:ops[i]? =some {dst:=d,op:=o,type:=ty,pos:=pos,after:=af,guard:=g})
  (h:∀K':Act→World→Prop,Shut (∀a w,S0 w∧S1 w→(S0 w∧S1 w→wpAnyM P md ops Q S0 S1 T fuel (listed.setIfInBounds i true) a w)→K' a w)→if Region.wanted {dst:=d,op:=o,type:=ty,pos:=pos,after:=af,guard:=g} (yielded ops a.tmps)=true then Oper.wp P {dst:=d,op:=o,type:=ty,pos:=pos,after:=af,guard:=g} a w K' Q else K' (a.put d undef) w)
  (hr:Region.ready md ops listed=[i]:=by kernel_rfl):wpAnyM P md ops Q S0 S1 T (fuel+1) listed a w:=
 ⟨fun h0=>(by rw[hr] at h0;cases h0),fun j hj=>by
  rw[hr] at hj
  obtain rfl:=List.mem_singleton.1 hj
  exact wpOp_step hi (fun K' hK=>h K' (fun a w hS hW=>hK a w ⟨⟨hS.1,fun _=>hS.2⟩,hW hS⟩))⟩
end
end Go.Proofs.YtckognjamlckcaaGreatDoor
namespace Go.Proofs.YtckognjamlckcaaGreatDoor
open Go.RowKit Vf Fo
theorem ints_flatN (l:List Int):ints l=(l.map (fun n=> [Value.int .i64 n])).flatten:=by
 induction l with
 |nil=>rfl
 |cons x l ih=>
  rw[List.map_cons,List.flatten_cons,←ih]
  rfl
theorem own_grownN {w w':World} {base size n:Nat} {e:TypeId} {v:Value} {xs:List Value} {row:Option Nat} (h:w.ownsRow base e size v n xs) (hg:w.grownBy w' row) (hne:∀k,v.ownBlock=some k→row≠some k):w'.ownsRow base e size v n xs:=by
 refine ⟨h.1,?_⟩
 rcases h.2 with h0|⟨g,c,cur,h1,h2,h3,h4⟩
 ·exact .inl h0
 ·have hgl:g<w.heap.size:=(Array.getElem?_eq_some_iff.1 h3).1
  exact .inr ⟨g,c,cur,h1,h2,(hg.block g hgl (fun e=>hne g (by rw[h1];rfl) e.symm)).trans h3,h4⟩
section
variable {f:Fl} {K:Kw} {w0:World} {D:Nat} {vi vo:Value} {W W':World} {q q':MkQ} {s:Mk}
theorem MkAt.other (h:MkAt K w0 D vi vo W q s) (m:MFr D q W q' W') {v:Value} {n:Nat} {xs:List Value} (ho:W.ownsRow w0.heap.size 3 1 v n xs):W'.ownsRow w0.heap.size 3 1 v n xs:=by
 obtain ⟨css,how,_⟩:=h.ow
 obtain ⟨es,clock,hm⟩:=h.mp.map
 refine own_updE ho m.upd (fun k hk e=>?_)
 rcases e with e|e|e|e|e|e
 ·exact own_ne ho h.row (by decide) (e▸hk)
 ·exact own_apartE how ho (by decide) k e hk
 ·exact own_apartE h.oa ho (by decide) k e hk
 ·exact own_apartE h.oc ho (by decide) k e hk
 ·exact own_apartE h.ok ho (by decide) k e hk
 ·exact own_mapne ho hm (e▸hk)
theorem wk_of {B:Nat} {x:Wr} {cs:List Value} (hD:B≤D) (hq:∀k,OwnQ q k→B≤k) (hB:B≤W.heap.size) (h:isWr W B x cs):isWk D q W x cs:=by
 obtain ⟨v,rfl,h1,A,cap,rfl,h2,h3,h4⟩:=h
 refine ⟨_,rfl,h1,A,cap,rfl,h2,h3,h4.more hB,fun hl a ha=>?_⟩
 obtain ⟨b,off,rfl,hb,_⟩:=h4 hl
 cases ha
 exact ⟨by dsimp only;omega,fun g=>by have:=hq _ g;dsimp only at this;omega⟩
theorem FirstAt.none (hp:W.ownsMap Tryz.prog 9 (plainElem (H:=Unit) Tryz.prog 3) q.P 0 (.map [])):FirstAt K W q.P []:=⟨0,.map [],hp,Nat.le_refl _,⟨[],rfl⟩,fun _ _=>⟨rfl,rfl⟩⟩
theorem ck_of {B:Nat} {v:Value} {c:List Gd} (hD:B≤D) (hq:∀k,OwnQ q k→B≤k) (hB:B≤W.heap.size) (h:SlV W B 2 isGd v c):CkAt D q W v c:=by
 obtain ⟨A,cap,rfl,h2,h3,h4⟩:=h
 refine ⟨A,cap,rfl,h2,h3,h4.more hB,fun hl a ha=>?_⟩
 obtain ⟨b,off,rfl,hb,_⟩:=h4 hl
 cases ha
 exact ⟨by dsimp only;omega,fun g=>by have:=hq _ g;dsimp only at this;omega⟩
theorem wk_upd {Z:Nat} {cs:Array Value} {t:TypeId} {x:Wr} {ys:List Value} (h:isWk D q W x ys) (r:Row W Z cs t) (hcs:∀(i:Nat) (n:Int),cs[i]?≠some (Value.int .i64 n)) (u:Upd (fun k=>k=Z) W W'):isWr W' W'.heap.size x ys:=by
 obtain ⟨v,rfl,h1,A,cap,rfl,h2,h3,h4,_⟩:=h
 refine ⟨_,rfl,h1,A,cap,rfl,h2,h3,fun hl=>?_⟩
 obtain ⟨b,off,rfl,hb,hx⟩:=h4 hl
 have hne:b≠Z:=fun e=>by
  subst e
  obtain ⟨cs',hc,rfl,_⟩:=hx 0 _ (List.getElem?_eq_getElem hl)
  have:=hc 0 _ rfl
  rw[r.cell] at this
  exact hcs _ _ this
 exact sl_block h4 (u.block b hb hne) (Nat.lt_of_lt_of_le hb u.size) hl
theorem MkAt.form (h:MkAt K w0 D vi vo W q s) {Z:Nat} {zs:Array Value} {t:TypeId} (hZ:Z<w0.heap.size) (r:Row W Z zs t) (hzs:∀(i:Nat) (n:Int),zs[i]?≠some (Value.int .i64 n)) (u:Upd (fun k=>k=Z) W W')
  {ins outs:List Int} (hi:W.ownsRow w0.heap.size 3 1 vi ins.length (ints ins)) (hwi:∀n∈ins,Wf n) (ho:W.ownsRow w0.heap.size 3 1 vo outs.length (ints outs)) (hwo:∀n∈outs,Wf n):
  FmAt W' W'.heap.size ⟨s.wires,s.acts,s.cells,s.keeps,ins,outs⟩ q.vw q.va q.vc q.vk vi vo:=by
 obtain ⟨css,how,ha⟩:=h.ow
 have tr:∀{sz n:Nat} {e:TypeId} {v:Value} {xs:List Value},W.ownsRow w0.heap.size e sz v n xs→W'.ownsRow w0.heap.size e sz v n xs:=fun g=>own_updE g u (fun k hk e=>by have:=(g.lt k hk).1;omega)
 have i1:∀{l:List Int} {v:Value},W'.ownsRow w0.heap.size 3 1 v l.length (ints l)→(∀n∈l,Wf n)→SlV W' W'.heap.size 1 isInt v l:=fun {l v} g hw=>
  (own_sl (css:=l.map (fun n=> [Value.int .i64 n])) (by rw[←ints_flatN];exact g) (Are.map (f:=fun n=> [Value.int .i64 n]) (fun n hn=>⟨rfl,hw n hn⟩)) (fun cs hcs=>by obtain ⟨n,_,rfl⟩:=List.mem_map.1 hcs;rfl) (by omega)).1
 refine ⟨?_,?_,?_,?_,i1 (tr hi) hwi,i1 (tr ho) hwo⟩
 ·exact (own_sl (tr how) (ha.mono (fun _ _ _ g=>wk_upd g r hzs u)) (ha.all (p:=fun cs=>cs.length=2) (fun x _ cs g=>by obtain ⟨v,rfl,_⟩:=g;rfl)) (by omega)).1
 ·exact (own_sl (rel:=isAc) (l:=s.acts) (tr h.oa) (Are.map (f:=acC) (fun a g=>⟨rfl,h.wa a g⟩)) (fun cs hcs=>by obtain ⟨n,_,rfl⟩:=List.mem_map.1 hcs;rfl) (by omega)).1
 ·exact (own_sl (rel:=isCell) (l:=s.cells) (tr h.oc) (Are.map (f:=prC) (fun a g=>⟨rfl,h.wc a g⟩)) (fun cs hcs=>by obtain ⟨n,_,rfl⟩:=List.mem_map.1 hcs;rfl) (by omega)).1
 ·exact (own_sl (rel:=isCell) (l:=s.keeps) (tr h.ok) (Are.map (f:=prC) (fun a g=>⟨rfl,h.wk a g⟩)) (fun cs hcs=>by obtain ⟨n,_,rfl⟩:=List.mem_map.1 hcs;rfl) (by omega)).1
end
end Go.Proofs.YtckognjamlckcaaGreatDoor
