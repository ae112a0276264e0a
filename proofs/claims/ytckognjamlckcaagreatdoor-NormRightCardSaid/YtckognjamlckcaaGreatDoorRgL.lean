/-
  slices.Repeat of one row of guards. A region that draws its order and ends in a store: what is held of the world need not be held behind that store.
-/
import Derived.Test.YtckognjamlckcaaGreatDoorVmZ
import Derived.Test.YtckognjamlckcaaGreatDoorFltK
import Derived.Deep.DeepCutAuto
import Derived.Laws.MakeOwn
import Derived.Laws.CopyOwn
import Derived.Deep.RegionHeld3
import Derived.IntWalk
import Derived.Test.YtckognjamlckcaaGreatDoorLookA
namespace Go.Proofs.YtckognjamlckcaaGreatDoor
open Go.RowKit
def rgN (x:Value) (n c:Nat):List Value:=List.replicate n x++List.replicate (c-n) (.slice none 0 0)
theorem rgN_len {x:Value} {n c:Nat} (h:n≤c):(rgN x n c).length=c:=by simp[rgN];omega
theorem rgN_splice {x:Value} {n m c:Nat}:splice (rgN x n c) n (List.replicate m x)=rgN x (n+m) c:=by
 unfold splice rgN
 rw[List.take_left' (by simp),List.length_replicate,show n+m=(List.replicate n x).length+m by simp,List.drop_length_add_append,List.drop_replicate,List.length_replicate,←List.append_assoc,List.replicate_append_replicate,show c-n-m=c-(n+m) by omega]
theorem rgN_get {x:Value} {n c j:Nat} (h:j<n):(rgN x n c)[j]? =some x:=by
 unfold rgN
 rw[List.getElem?_append_left (by simpa using h),List.getElem?_replicate,if_pos h]
theorem rgN_zero (x:Value) (c:Nat):rgN x 0 c=List.replicate c (.slice none 0 0):=by simp[rgN]
theorem rgN_full (x:Value) (c:Nat):rgN x c c=List.replicate c x:=by simp[rgN]
theorem made_one_g (z:Value) (n:Nat):madeCells #[z] n=(List.replicate n z).toArray:=by
 apply Array.ext
 ·simp[madeCells]
 ·intro i h1 h2
  simp[madeCells,Nat.mod_one]
theorem info_gds:(Tryz.prog.info? 50).map (fun i=>(i.zero,i.size,i.bytes))=some (some (.slice none 0 0),1,24):=by kernel_rfl
set_option maxRecDepth 100000 in
theorem make_gds (n:Int) (h0:0≤n) (h1:n≤1600) (W:World):(Instr.makeSlice 160 (.int .i64 n) (.int .i64 n)).run Tryz.prog W= .ok (.slice (some ⟨W.heap.size,0,none⟩) n.toNat n.toNat) (W.alloc (.cells (List.replicate n.toNat (.slice none 0 0)).toArray 50)):=by
 obtain ⟨i0,hi0,hz0,hz1,hz2⟩:=info_parts info_gds
 rw[run_make (P:=Tryz.prog) W 160 50 i0 (.slice none 0 0) rfl hi0 hz0 .i64 .i64 n n h0 (Int.le_refl _) (by rw[hz2];omega) (by omega),hz1,Nat.mul_one,←made_one_g]
 rfl
def RpG (x:Value) (c:Nat) (w:World) (e:Ending) (w':World):Prop:=∃R,e= .returned (.slice (some ⟨R,0,none⟩) c c)∧w.heap.size≤R∧Row w' R (List.replicate c x).toArray 50∧Below w.heap.size w w'
set_option maxRecDepth 100000 in
set_option maxHeartbeats 2000000 in
theorem repG_pos (x:Value) (c b off cap:Nat) (hc:c≤1600) (hc1:1≤c) (w:World) (hv:x.oneCell'=true) (hb:b<w.heap.size) (hx:w.cell? ⟨b,off,none⟩=some x):
  Calls Tryz.prog 117 #[.slice (some ⟨b,off,none⟩) 1 cap,.int .i64 c] w (RpG x c w):=by
 have mk:=make_gds c (by omega) (by omega)
 have e1:IntKind.u64.wrap (c:Int)=(c:Int):=by rw[IntKind.wrap_u64];omega
 have hsz1:(Tryz.prog.info? 50).map (·.size)=some 1:=by kernel_rfl
 have b1:=(Below.refl w.heap.size w).alloc (Nat.le_refl _) (.cells (Array.replicate c (.slice none 0 0)) 50)
 have r1:=Row.new w (Array.replicate c (.slice none 0 0)) 50
 have hx1:(w.alloc (.cells (Array.replicate c (.slice none 0 0)) 50)).cell? ⟨b,off,none⟩=some x:=(World.cell?_alloc_lt w _ _ hb).trans hx
 have R1:Hid ((w.alloc (.cells (Array.replicate c (.slice none 0 0)) 50)).heap[w.heap.size]? =some (.cells (rgN x 0 c).toArray 50 (0,0))):=by show _=_;rw[rgN_zero];simpa[Row] using r1
 clear r1
 go_enter Tryz.func117,Tryz.ntmps117
 go_wp2_with fail
 refine (mul_one c (by omega) _).mono ?_
 rintro e w' ⟨rfl,rfl⟩
 go_upto_region 7 with (fail)
 go_wp2_with (refine wpList_copy_splice rfl (.tmp 31) (.tmp 32) 160 160 rfl 50 Tryz.underlying160 hsz1 _ _ _ _ _ _ rfl rfl w.heap.size 0 (rgN x 0 c) 50 R1.out [x] ?c1 ?c2 ?c3 ?c4 w.heap.size w b1 (Nat.le_refl _) ?_)
 case c1=>exact (Nat.min_eq_left hc1).symm
 case c2=>
  intro j v hv
  match j,hv with
  |0,hv=>simp at hv;subst hv;simpa using hx
 case c3=>rw[rgN_len (Nat.zero_le _)];simpa using hc1
 case c4=>intro v hw;simp at hw;subst hw;exact hv
 intro w2 hR2 hb2
 have R2:Hid (Row w2 w.heap.size (rgN x 1 c).toArray 50):=by
  have:=hR2.out
  rw[show [x]=List.replicate 1 x from rfl,rgN_splice] at this
  exact this
 clear hR2 R1 b1 hx1 mk
 go_wp2_with fail
 go_loopw[8] (fun i wr=>∃n:Nat,1≤n∧n≤c∧i= .int .i64 n∧Hid (Row wr w.heap.size (rgN x n c).toArray 50)∧Below w.heap.size w wr) (fun i _=>c-(intOf i).toNat)
 case atStart=>exact ⟨1,by omega,hc1,rfl,R2,hb2⟩
 case round=>
  clear R2 hb2
  obtain ⟨n,hn1,hnc,rfl,HR,hbr⟩:=hrel
  by_cases hlt:n<c
  ·have hi0:(0:Int)≤(n:Int):=by omega
   have hi1:(n:Int)≤(c:Int):=by omega
   have hne:¬(c=n):=by omega
   have hm:min n (c-n)≤c:=by omega
   have HM:Hid (∀v∈List.replicate (min n (c-n)) x,v.oneCell'=true):=fun v hw=>by rw[(List.mem_replicate.1 hw).2];exact hv
   have HC:Hid (∀j v,(List.replicate (min n (c-n)) x)[j]? =some v→wr.drew.cell? ((⟨w.heap.size,0,none⟩:Addr).add j)=some v):=by
    intro j v hv
    rw[List.getElem?_replicate] at hv
    split at hv
    ·rename_i hj
     injection hv with hv
     subst hv
     rw[Addr.add_lit,Nat.zero_add]
     refine (Row.cell HR.out.drew j).trans ?_
     rw[List.getElem?_toArray]
     exact rgN_get (by omega)
    ·cases hv
   have HL:Hid ((rgN x n c).length=c):=rgN_len hnc
   go_wp2_with fail
   go_region_held3 (fun _=>True) (first|trivial) (first|((refine step_copy_splice (by rfl) (.tmp 41) (.tmp 44) 160 160 (by rfl) 50 Tryz.underlying160 hsz1 (some ⟨w.heap.size,n,none⟩) (some ⟨w.heap.size,0,none⟩) (c-n) (c-n) n c (by rfl) (by rfl) w.heap.size n (rgN x n c) 50 HR.out.drew (List.replicate (min n (c-n)) x) (by simp) (fun _=>⟨rfl,_,rfl,HC.out⟩) (by rw[HL.out];simp;omega) HM.out w.heap.size w hbr.drew (Nat.le_refl _) ?_);intro w3 hR3 hb3))
   have R3:Hid (Row w3 w.heap.size (rgN x (n+min n (c-n)) c).toArray 50):=by
    have:=hR3.out
    rw[rgN_splice] at this
    exact this
   have hlen:(List.replicate (min n (c-n)) x).length=min n (c-n):=by simp
   have e2:IntKind.i64.wrap ((n:Int)+((min n (c-n):Nat):Int))=(n:Int)+((min n (c-n):Nat):Int):=IntWalk.i64_in _ (by omega)
   generalize hM:min n (c-n)=mm at*
   have hmm:1≤mm:=by omega
   have hmc:n+mm≤c:=by omega
   have HMM:=Lib.hid hM
   clear hM
   go_wp2_with fail
   go_roundw
   case rel=>exact ⟨n+mm,by omega,hmc,by go_num,R3,hb3⟩
   case measure=>simp[intOf];omega
  ·obtain rfl:n=c:=by omega
   go_wp2_with fail
   go_ret
   exact ⟨w.heap.size,rfl,Nat.le_refl _,by rw[←rgN_full];exact HR.out,hbr⟩
set_option maxRecDepth 100000 in
set_option maxHeartbeats 2000000 in
theorem repG_zero (x:Value) (b off cap:Nat) (w:World):
  Calls Tryz.prog 117 #[.slice (some ⟨b,off,none⟩) 1 cap,.int .i64 0] w (RpG x 0 w):=by
 have mk:=make_gds 0 (by omega) (by omega)
 have hsz1:(Tryz.prog.info? 50).map (·.size)=some 1:=by kernel_rfl
 have b1:=(Below.refl w.heap.size w).alloc (Nat.le_refl _) (.cells #[] 50)
 have R1:Hid ((w.alloc (.cells #[] 50)).heap[w.heap.size]? =some (.cells ([]:List Value).toArray 50 (0,0))):=Row.new w #[] 50
 go_enter Tryz.func117,Tryz.ntmps117
 go_wp2_with fail
 refine (mul_one 0 (by omega) _).mono ?_
 rintro e w' ⟨rfl,rfl⟩
 go_upto_region 7 with (fail)
 go_wp2_with (refine wpList_copy_splice rfl (.tmp 31) (.tmp 32) 160 160 rfl 50 Tryz.underlying160 hsz1 _ _ _ _ _ _ rfl rfl w.heap.size 0 [] 50 R1.out [] ?c1 (fun h=>absurd h (by simp)) ?c3 ?c4 w.heap.size w b1 (Nat.le_refl _) ?_)
 case c1=>rfl
 case c3=>simp
 case c4=>intro v hw;simp at hw
 intro w2 hR2 hb2
 clear R1 mk b1
 go_wp2_with fail
 go_loop[8] (fun i=>i= .int .i64 0) (fun _=>0)
 case atStart=>exact rfl
 case round=>
  obtain rfl:=hrel
  go_wp2_with fail
  go_ret
  exact ⟨w.heap.size,rfl,Nat.le_refl _,hR2.out,hb2⟩
theorem repG_any (x:Value) (c b off cap:Nat) (hc:c≤1600) (w:World) (hv:x.oneCell'=true) (hb:b<w.heap.size) (hx:w.cell? ⟨b,off,none⟩=some x):
  Calls Tryz.prog 117 #[.slice (some ⟨b,off,none⟩) 1 cap,.int .i64 c] w (RpG x c w):=by
 rcases Nat.eq_zero_or_pos c with rfl|h
 ·exact repG_zero x b off cap w
 ·exact repG_pos x c b off cap hc h w hv hb hx
end Go.Proofs.YtckognjamlckcaaGreatDoor
namespace Go.Proofs.YtckognjamlckcaaGreatDoor
open Go.RowKit
section
variable {P:Program} {ops:Array Oper} {Q:Exit→Act→World→Prop} {md:Region.Mode} {S:World→Prop} {s:Nat}
def wpAnyL (P:Program) (md:Region.Mode) (ops:Array Oper) (Q:Exit→Act→World→Prop) (S:World→Prop) (s:Nat):Nat→Array Bool→Act→World→Prop
 |0,listed,a,w=>Region.ready md ops listed=[]∧Q .normal a w
 |fuel+1,listed,a,w=>
  (Region.ready md ops listed=[]→Q .normal a w)∧
  ∀i∈Region.ready md ops listed,wpOp P ops Q i (fun a' w'=>(i≠s→S w')∧wpAnyL P md ops Q S s fuel (listed.setIfInBounds i true) a' w') a w
theorem wpAny_of_L:∀(fuel:Nat) (listed:Array Bool) (a:Act) (w:World),wpAnyL P md ops Q S s fuel listed a w→wpAny P md ops Q fuel listed a w
 |0,_,_,_,h=>h
 |fuel+1,_,_,_,h=>⟨h.1,fun i hi=>wpOp_mono (fun a' w' h'=>wpAny_of_L fuel _ a' w' h'.2) (h.2 i hi)⟩
def lastOp (md:Region.Mode) (ops:Array Oper) (s i:Nat):Bool:=
 match ops[s]? with
 |none=>false
 |some o=>o.after.any fun e=>Region.binds md e && e.on==i
theorem last_not {i:Nat} (hl:lastOp md ops s i=true) {listed:Array Bool} (hi:i∈Region.ready md ops listed):s∉Region.ready md ops listed:=fun hs=>by
 obtain ⟨hi0,oi,hoi,_⟩:=mem_ready.1 hi
 obtain ⟨_,o,ho,hall⟩:=mem_ready.1 hs
 unfold lastOp at hl
 rw[ho] at hl
 dsimp only at hl
 rw[Array.any_eq_true'] at hl
 obtain ⟨ed,hed,hb⟩:=hl
 rw[Bool.and_eq_true] at hb
 have h2:=hall ed hed hb.1
 have hon:ed.on=i:=by simpa using hb.2
 rw[hon] at h2
 rcases Nat.lt_or_ge i listed.size with h'|h'
 ·simp[h'] at hi0 h2;rw[hi0] at h2;cases h2
 ·simp[Array.getElem?_eq_none h'] at h2
theorem wpAnyL_first {i:Nat} {oi:Oper} {v:Value} (hl:lastOp md ops s i=true) (hi:ops[i]? =some oi) (hsel:∀(j:Nat) (o:Oper) cs b,ops[j]? =some o→o.op≠ .select cs b)
  (hQ:∀c a w,Q (.panic c) (a.put oi.dst v) w→Q (.panic c) a w):
  ∀(fuel:Nat) (listed:Array Bool) (a:Act) (w:World),
   (∀j oj,ops[j]? =some oj→j≠i→listed.getD j true=false→(∀e∈oj.after,Region.binds md e=true→e.on≠i)→oi.apart ops oj=true)→
   i∈Region.ready md ops listed→YieldsIf P ops S oi v a→S w→
   wpAnyL P md ops Q S s fuel (listed.setIfInBounds i true) (a.put oi.dst v) w→wpAnyL P md ops Q S s (fuel+1) listed a w:=by
 intro fuel
 induction fuel with
 |zero=>
  intro listed a w _ hr hy hS H
  refine ⟨fun h=>(by rw[h] at hr;cases hr),fun j hj=>?_⟩
  by_cases hji:j=i
  ·subst hji;exact hy.wpOp hi hS ⟨fun _=>hS,H⟩
  ·have:=ready_mono hj hji
   rw[H.1] at this
   cases this
 |succ fuel ih=>
  intro listed a w hfree hr hy hS H
  refine ⟨fun h=>(by rw[h] at hr;cases hr),fun j hj=>?_⟩
  by_cases hji:j=i
  ·subst hji;exact hy.wpOp hi hS ⟨fun _=>hS,H⟩
  ·have hjs:j≠s:=fun e=>last_not hl hr (e▸hj)
   have h1:=H.2 j (ready_mono hj hji)
   obtain ⟨hjun,oj,hoj,hall⟩:=mem_ready.1 hj
   have hnot:∀e∈oj.after,Region.binds md e=true→e.on≠i:=fun e he hb heq=>by
    have h1:=hall e he hb
    have h0:=(mem_ready.1 hr).1
    rw[heq] at h1
    rcases Nat.lt_or_ge i listed.size with h'|h'
    ·simp[h'] at h0 h1;rw[h0] at h1;cases h1
    ·simp[Array.getElem?_eq_none h'] at h1
   have h2:=wpOp_putIf hoj (hfree j oj hoj hji hjun hnot) (fun cs b=>hsel i oi cs b hi) (fun cs b=>hsel j oj cs b hoj) hQ hy h1
   have hfree':∀k ok,ops[k]? =some ok→k≠i→(listed.setIfInBounds j true).getD k true=false→
     (∀e∈ok.after,Region.binds md e=true→e.on≠i)→oi.apart ops ok=true:=fun k ok hk hki hun hno=>by
    refine hfree k ok hk hki ?_ hno
    by_cases hjk:j=k
    ·subst hjk;exact hjun
    ·rw[getD_set_ne true hjk] at hun;exact hun
   refine wpOp_mono (fun a' w' h3=>⟨h3.2.1,ih (listed.setIfInBounds j true) a' w' hfree' (ready_mono hr (Ne.symm hji)) h3.1 (h3.2.1 hjs) ?_⟩) h2
   rw[Array.setIfInBounds_comm _ _ hji]
   exact h3.2.2
theorem wpAnyL_done {listed:Array Bool} {a:Act} {w:World} (hr:Region.ready md ops listed=[]) (h:Q .normal a w):∀fuel,wpAnyL P md ops Q S s fuel listed a w
 |0=>⟨hr,h⟩
 |_+1=>⟨fun _=>h,by rw[hr];simp⟩
theorem wp_region_L (s:Nat) {id:Nat} {a:Act} {w:World} (hm:P.follows .mixedOrders=true) (hS:S w.drew) (h:S w.drew→wpAnyL P .any ops Q S s ops.size (Array.replicate ops.size false) a w.drew):(Code.region id ops true).wp P Q a w:=
 wp_region_any hm (wpAny_of_L _ _ _ _ (h hS))
variable {fuel:Nat} {listed:Array Bool} {a a':Act} {w:World} {v:Value} {o:Op} {ty:TypeId} {pos:String} {af:Array Edge} {g:Option (Nat × Bool)}
theorem tkL (i:Nat) (d:Option Tmp) (hi:ops[i]? =some {dst:=d,op:=o,type:=ty,pos:=pos,after:=af,guard:=g}) (h:wpAnyL P md ops Q S s fuel (listed.setIfInBounds i true) a' w)
  (hl:lastOp md ops s i=true:=by kernel_rfl)
  (hs:Region.noSelect ops=true:=by kernel_rfl) (hf:Region.free md ops listed i=true:=by kernel_rfl) (hr:(Region.ready md ops listed).contains i=true:=by kernel_rfl)
  (hw:Region.wanted {dst:=d,op:=o,type:=ty,pos:=pos,after:=af,guard:=g} (yielded ops a.tmps)=true:=by kernel_rfl)
  (hy:∀w,S w→(execOp a.eval {dst:=d,op:=o,type:=ty,pos:=pos,after:=af,guard:=g}).run P w= .ok (.value v) w:=by intro w hSw;(try dsimp only at hSw);go_simp;(try with_reducible rfl))
  (hQ:∀c a w,Q (.panic c) (a.put d v) w→Q (.panic c) a w:=by exact fun _ _ _ h=>h)
  (hS:S w:=by first|assumption|trivial)
  (ha:a.put d v=a':=by (try simp only[Act.put,List.setIfInBounds_toArray,List.set_cons_zero,List.set_cons_succ]);(try exact rfl)):wpAnyL P md ops Q S s (fuel+1) listed a w:=by
 subst ha
 exact wpAnyL_first hl hi (Region.noSelect_spec hs) hQ fuel listed a w (Region.free_spec hi hf) (by simpa using hr) (.inl ⟨hw,hy⟩) hS h
theorem rdL (i:Nat) (d:Option Tmp) (hi:ops[i]? =some {dst:=d,op:=o,type:=ty,pos:=pos,after:=af,guard:=g})
  (h:∀K':Act→World→Prop,Shut (∀a w,S w→(S w→wpAnyL P md ops Q S s fuel (listed.setIfInBounds i true) a w)→K' a w)→if Region.wanted {dst:=d,op:=o,type:=ty,pos:=pos,after:=af,guard:=g} (yielded ops a.tmps)=true then Oper.wp P {dst:=d,op:=o,type:=ty,pos:=pos,after:=af,guard:=g} a w K' Q else K' (a.put d undef) w)
  (hr:Region.ready md ops listed=[i]:=by kernel_rfl):wpAnyL P md ops Q S s (fuel+1) listed a w:=
 ⟨fun h0=>(by rw[hr] at h0;cases h0),fun j hj=>by
  rw[hr] at hj
  obtain rfl:=List.mem_singleton.1 hj
  exact wpOp_step hi (fun K' hK=>h K' (fun a w hS hW=>hK a w ⟨fun _=>hS,hW hS⟩))⟩
theorem rdE (d:Option Tmp) (hi:ops[s]? =some {dst:=d,op:=o,type:=ty,pos:=pos,after:=af,guard:=g})
  (h:∀K':Act→World→Prop,Shut (∀a w,wpAnyL P md ops Q S s fuel (listed.setIfInBounds s true) a w→K' a w)→if Region.wanted {dst:=d,op:=o,type:=ty,pos:=pos,after:=af,guard:=g} (yielded ops a.tmps)=true then Oper.wp P {dst:=d,op:=o,type:=ty,pos:=pos,after:=af,guard:=g} a w K' Q else K' (a.put d undef) w)
  (hr:Region.ready md ops listed=[s]:=by kernel_rfl):wpAnyL P md ops Q S s (fuel+1) listed a w:=
 ⟨fun h0=>(by rw[hr] at h0;cases h0),fun j hj=>by
  rw[hr] at hj
  obtain rfl:=List.mem_singleton.1 hj
  exact wpOp_step hi (fun K' hK=>h K' (fun a w hW=>hK a w ⟨fun g=>absurd rfl g,hW⟩))⟩
end
end Go.Proofs.YtckognjamlckcaaGreatDoor
namespace Go.Proofs.YtckognjamlckcaaGreatDoor
open Go.RowKit
theorem own_updE {W W':World} {X:Nat→Prop} {base size n:Nat} {e:TypeId} {v:Value} {xs:List Value} (h:W.ownsRow base e size v n xs) (hu:Upd X W W') (hX:∀k,v.ownBlock=some k→¬X k):W'.ownsRow base e size v n xs:=by
 refine ⟨h.1,?_⟩
 rcases h.2 with h0|⟨g,c,cur,h1,h2,h3,h4⟩
 ·exact .inl h0
 ·exact .inr ⟨g,c,cur,h1,h2,(hu.block g (Array.getElem?_eq_some_iff.1 h3).1 (hX g (by rw[h1];rfl))).trans h3,h4⟩
theorem Row.grownE {w w':World} {b:Nat} {cs:Array Value} {t:TypeId} {row:Option Nat} (h:Row w b cs t) (hg:w.grownBy w' row) (hne:row≠some b):Row w' b cs t:=
 (hg.block b h.lt (fun e=>hne e.symm)).trans h
theorem own_ne {w:World} {base b size n:Nat} {e t:TypeId} {v:Value} {xs:List Value} {cs:Array Value} (h:w.ownsRow base e size v n xs) (r:Row w b cs t) (ht:t≠e):v.ownBlock≠some b:=by
 rcases h.2 with ⟨h0,_⟩|⟨g,c,cur,h1,h2,h3,_⟩
 ·subst h0;intro q;cases q
 ·subst h1
  intro q
  have e':g=b:=by injection q
  subst e'
  unfold Row at r
  rw[h3] at r
  injection r with r
  injection r with _ r _
  exact ht r.symm
theorem own_src {w:World} {base:Nat} {e:TypeId} {size:Nat} {v:Value} {n:Nat} {xs:List Value} (h:w.ownsRow base e size v n xs):∃A c,v= .slice A n c∧NilOk (.slice A n c)∧∀ad,A=some ad→∀j u,xs[j]? =some u→w.cell? (ad.add j)=some u:=by
 rcases h.2 with ⟨rfl,rfl⟩|⟨g,c,cur,rfl,_⟩
 ·exact ⟨none,0,rfl,NilOk.nil,fun _ h=>by cases h⟩
 ·exact ⟨some ⟨g,0,none⟩,c,rfl,NilOk.some,fun ad he=>by injection he with he;subst he;exact h.cells rfl⟩
theorem step_own {P:Program} {o:Oper} {a:Act} {w:World} {K:Act→World→Prop} {Q:Exit→Act→World→Prop} (s x:Operand) (t:TypeId) (ho:o.op= .call {callee:= .builtin .append,args:= #[s,x],argTypes:= #[t,t]})
  (base:Nat) (e:TypeId) (i:TypeInfo) (z:Value) (size bytes:Nat) (ht:P.underlying t=some (.slice e)) (hi:P.info? e=some i) (hz:i.zero=some z)
  (hsize:i.size=size) (hby:i.bytes=bytes) (hzs:z.cells.size=size) (hsz:0<size)
  (v:Value) (n:Nat) (xs:List Value) (hs:a.eval s=v) (hown:w.ownsRow base e size v n xs)
  (A:Option Addr) (m c:Nat) (news:List Value) (hx:a.eval x= .slice A m c) (hnil:NilOk (.slice A m c)) (hl:news.length=m*size) (hnews:∀ad,A=some ad→∀j u,news[j]? =some u→w.cell? (ad.add j)=some u) (h1:∀u∈news,u.oneCell'=true)
  (h63:n+m≤maxLen) (hbytes:(n+m)*bytes≤140737488355328) (hbase:base≤w.heap.size)
  (h:∀v' w',w'.ownsRow base e size v' (n+m) (xs++news)→w.grownBy w' v.ownBlock→K (a.put o.dst v') w'):Oper.wp P o a w K Q:=by
 cases A with
 |none=>
  obtain ⟨rfl,rfl⟩:=hnil m c rfl
  have hn:news=[]:=List.eq_nil_of_length_eq_zero (by omega)
  subst hn
  have hrun:=run_append_owned_none (P:=P) (w:=w) base t o.type e i size ht hi v n xs hown
  unfold Oper.wp
  simp[execOp,ho,resolve,invoke,builtin,hs,hx,hrun,Result.andThen]
  exact h v w (by rw[List.append_nil,Nat.add_zero];exact hown) ⟨rfl,rfl,rfl,Nat.le_refl _,fun _ _ _=>rfl⟩
 |some ad=>
  obtain ⟨v',w',hr,h2,h3,_,_⟩:=run_append_own_at (P:=P) (w:=w) base t o.type e i z size bytes ht hi hz hsize hby hzs hsz v n xs hown ad m c news hl (hnews ad rfl) h1 h63 hbytes hbase
  unfold Oper.wp execOp
  simp only[ho,resolve,invoke,builtin,Sem.run_bind,Sem.run_pure,Result.andThen_ok,List.map_toArray,List.map_cons,List.map_nil,hs,hx,hr]
  exact h v' w' h2 h3
end Go.Proofs.YtckognjamlckcaaGreatDoor
