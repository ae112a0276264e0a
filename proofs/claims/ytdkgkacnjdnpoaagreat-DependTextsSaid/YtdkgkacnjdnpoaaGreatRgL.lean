/-
  slices.Repeat of one row of guards. A region that draws its order and ends in a store: what is held of the world need not be held behind that store. A region that draws its order and ends in a store: what is held of the world need not be held behind that store.
-/
import Derived.Test.YtdkgkacnjdnpoaaGreatZz
import Derived.Test.YtdkgkacnjdnpoaaGreatExMem
import Derived.Test.YtdkgkacnjdnpoaaGreatFltK
import Derived.Deep.DeepCutAuto
import Derived.Laws.MakeOwn
import Derived.Laws.CopyOwn
import Derived.Deep.RegionHeld3
import Derived.IntWalk
import Derived.Test.YtdkgkacnjdnpoaaGreatMem
import Derived.Test.YtdkgkacnjdnpoaaGreatLookZ
set_option maxHeartbeats 2000000
set_option maxRecDepth 100000
namespace Go.Proofs.YtdkgkacnjdnpoaaGreat.Q
open Go.RowKit
def rgN (x:Value) (n c:Nat):List Value:=List.replicate n x++List.replicate (c-n) (.slice none 0 0)
theorem rgN_len {x:Value} {n c:Nat} (h:n≤c):(rgN x n c).length=c:=by simp[rgN];omega
theorem rgN_splice {x:Value} {n m c:Nat}:splice (rgN x n c) n (List.replicate m x)=rgN x (n+m) c:=by
 unfold splice rgN
 refine' zq114
theorem rgN_get {x:Value} {n c j:Nat} (h:j<n):(rgN x n c)[j]? =some x:=by
 unfold rgN
 rw[List.getElem?_append_left (by simpa using h),List.getElem?_replicate,if_pos h]
theorem rgN_zero (x:Value) (c:Nat):rgN x 0 c=List.replicate c (.slice none 0 0):=by simp[rgN]
theorem rgN_full (x:Value) (c:Nat):rgN x c c=List.replicate c x:=by simp[rgN]
theorem made_one_g (z:Value) (n:Nat):madeCells #[z] n=(List.replicate n z).toArray:=by
 apply Array.ext
 ·simp[madeCells]
 ·intro i h1 h2
  simp[madeCells,Nat.mod_one]
theorem info_gds:(Tryz.prog.info? 86).map (fun i=>(i.zero,i.size,i.bytes))=some (some (.slice none 0 0),1,24):=by kernel_rfl
theorem make_gds (n:Int) (h0:0≤n) (h1:n≤1600) (W:World):(Instr.makeSlice 236 (.int .i64 n) (.int .i64 n)).run Tryz.prog W= .ok (.slice (some ⟨W.heap.size,0,none⟩) n.toNat n.toNat) (W.alloc (.cells (List.replicate n.toNat (.slice none 0 0)).toArray 86)):=by
 obtain ⟨i0,hi0,hz0,hz1,hz2⟩:=info_parts info_gds
 rw[run_make (P:=Tryz.prog) W 236 86 i0 (.slice none 0 0) rfl hi0 hz0 .i64 .i64 n n h0 (Int.le_refl _) (by rw[hz2];omega) (by omega),hz1,Nat.mul_one,←made_one_g]
 rfl
def RpG (x:Value) (c:Nat) (w:World) (e:Ending) (w':World):Prop:=∃R,e= .returned (.slice (some ⟨R,0,none⟩) c c)∧w.heap.size≤R∧Row w' R (List.replicate c x).toArray 86∧Below w.heap.size w w'
theorem repG_pos (x:Value) (c b off cap:Nat) (hc:c≤1600) (hc1:1≤c) (w:World) (hv:x.oneCell'=true) (hb:b<w.heap.size) (hx:w.cell? ⟨b,off,none⟩=some x):
  Calls Tryz.prog 157 #[.slice (some ⟨b,off,none⟩) 1 cap,.int .i64 c] w (RpG x c w):=by
 have mk:=make_gds c (by omega) (by omega)
 have e1:IntKind.u64.wrap (c:Int)=(c:Int):=by rw[IntKind.wrap_u64];omega
 have hsz1:(Tryz.prog.info? 86).map (·.size)=some 1:=by kernel_rfl
 have b1:=(Below.refl w.heap.size w).alloc (Nat.le_refl _) (.cells (Array.replicate c (.slice none 0 0)) 86)
 have r1:=Row.new w (Array.replicate c (.slice none 0 0)) 86
 have hx1:(w.alloc (.cells (Array.replicate c (.slice none 0 0)) 86)).cell? ⟨b,off,none⟩=some x:=(World.cell?_alloc_lt w _ _ hb).trans hx
 have R1:Hid ((w.alloc (.cells (Array.replicate c (.slice none 0 0)) 86)).heap[w.heap.size]? =some (.cells (rgN x 0 c).toArray 86 (0,0))):=by show _=_;rw[rgN_zero];simpa[Row] using r1
 clear r1
 go_enter Tryz.func157,Tryz.ntmps157
 refine' zq142
 go_wp2_with (refine wpList_copy_splice rfl (.tmp 31) (.tmp 32) 236 236 rfl 86 Tryz.underlying236 hsz1 _ _ _ _ _ _ rfl rfl w.heap.size 0 (rgN x 0 c) 86 R1.out [x] ?c1 ?c2 ?c3 ?c4 w.heap.size w b1 (Nat.le_refl _) ?_)
 case c1=>exact (Nat.min_eq_left hc1).symm
 case c2=>
  intro j v hv
  match j,hv with
  |0,hv=>simp at hv;subst hv;simpa using hx
 case c3=>rw[rgN_len (Nat.zero_le _)];simpa using hc1
 case c4=>intro v hw;simp at hw;subst hw;exact hv
 intro w2 hR2 hb2
 have R2:Hid (Row w2 w.heap.size (rgN x 1 c).toArray 86):=by
  have:=hR2.out
  rw[show [x]=List.replicate 1 x from rfl,rgN_splice] at this
  exact this
 clear hR2 R1 b1 hx1 mk
 go_wp2_with fail
 go_loopw[8] (fun i wr=>∃n:Nat,1≤n∧n≤c∧i= .int .i64 n∧Hid (Row wr w.heap.size (rgN x n c).toArray 86)∧Below w.heap.size w wr) (fun i _=>c-(intOf i).toNat)
 case atStart=>exact ⟨1,by omega,hc1,rfl,R2,hb2⟩
 case round=>
  clear R2 hb2
  obtain ⟨n,hn1,hnc,rfl,HR,hbr⟩:=hrel
  by_cases hlt:n<c
  ·refine' zq112
   have HC:Hid (∀j v,(List.replicate (min n (c-n)) x)[j]? =some v→wr.drew.cell? ((⟨w.heap.size,0,none⟩:Addr).add j)=some v):=by
    intro j v hv
    rw[List.getElem?_replicate] at hv
    split at hv
    ·refine' zq109
     exact rgN_get (by omega)
    ·cases hv
   have HL:Hid ((rgN x n c).length=c):=rgN_len hnc
   go_wp2_with fail
   go_region_held3 (fun _=>True) (first|trivial) (first|((refine step_copy_splice (by rfl) (.tmp 41) (.tmp 44) 236 236 (by rfl) 86 Tryz.underlying236 hsz1 (some ⟨w.heap.size,n,none⟩) (some ⟨w.heap.size,0,none⟩) (c-n) (c-n) n c (by rfl) (by rfl) w.heap.size n (rgN x n c) 86 HR.out.drew (List.replicate (min n (c-n)) x) (by simp) (fun _=>⟨rfl,_,rfl,HC.out⟩) (by rw[HL.out];simp;omega) HM.out w.heap.size w hbr.drew (Nat.le_refl _) ?_);intro w3 hR3 hb3))
   have R3:Hid (Row w3 w.heap.size (rgN x (n+min n (c-n)) c).toArray 86):=by
    have:=hR3.out
    rw[rgN_splice] at this
    exact this
   have hlen:(List.replicate (min n (c-n)) x).length=min n (c-n):=by simp
   refine' zq39
  ·obtain rfl:n=c:=by omega
   go_wp2_with fail
   go_ret
   exact ⟨w.heap.size,rfl,Nat.le_refl _,by rw[←rgN_full];exact HR.out,hbr⟩
theorem repG_zero (x:Value) (b off cap:Nat) (w:World):
  Calls Tryz.prog 157 #[.slice (some ⟨b,off,none⟩) 1 cap,.int .i64 0] w (RpG x 0 w):=by
 have mk:=make_gds 0 (by omega) (by omega)
 have hsz1:(Tryz.prog.info? 86).map (·.size)=some 1:=by kernel_rfl
 have b1:=(Below.refl w.heap.size w).alloc (Nat.le_refl _) (.cells #[] 86)
 have R1:Hid ((w.alloc (.cells #[] 86)).heap[w.heap.size]? =some (.cells ([]:List Value).toArray 86 (0,0))):=Row.new w #[] 86
 go_enter Tryz.func157,Tryz.ntmps157
 refine' zq143
 go_wp2_with (refine wpList_copy_splice rfl (.tmp 31) (.tmp 32) 236 236 rfl 86 Tryz.underlying236 hsz1 _ _ _ _ _ _ rfl rfl w.heap.size 0 [] 86 R1.out [] ?c1 (fun h=>absurd h (by simp)) ?c3 ?c4 w.heap.size w b1 (Nat.le_refl _) ?_)
 case c1=>rfl
 case c3=>simp
 case c4=>intro v hw;simp at hw
 refine' zq123
theorem repG_any (x:Value) (c b off cap:Nat) (hc:c≤1600) (w:World) (hv:x.oneCell'=true) (hb:b<w.heap.size) (hx:w.cell? ⟨b,off,none⟩=some x):
  Calls Tryz.prog 157 #[.slice (some ⟨b,off,none⟩) 1 cap,.int .i64 c] w (RpG x c w):=by
 rcases Nat.eq_zero_or_pos c with rfl|h
 ·exact repG_zero x b off cap w
 ·exact repG_pos x c b off cap hc h w hv hb hx
end Go.Proofs.YtdkgkacnjdnpoaaGreat.Q
namespace Go.Proofs.YtdkgkacnjdnpoaaGreat
open Go.RowKit
section
variable {P:Program} {ops:Array Oper} {Q:Exit→Act→World→Prop} {md:Region.Mode} {S:World→Prop} {s:Nat}
def wpAnyL (P:Program) (md:Region.Mode) (ops:Array Oper) (Q:Exit→Act→World→Prop) (S:World→Prop) (s:Nat):Nat→Array Bool→Act→World→Prop
 |0,listed,a,w=>Region.ready md ops listed=[]∧Q .normal a w
 |fuel+1,listed,a,w=>
  (Region.ready md ops listed=[]→Q .normal a w)∧
  ∀i∈Region.ready md ops listed,wpOp P ops Q i (fun a' w'=>(i≠s→S w')∧wpAnyL P md ops Q S s fuel (listed.setIfInBounds i true) a' w') a w
theorem wpAny_of_L:∀(fuel:Nat) (listed:Array Bool) (a:Act) (w:World),wpAnyL P md ops Q S s fuel listed a w→wpAny P md ops Q fuel listed a w
 |0,_,_,_,h=>h
 |fuel+1,_,_,_,h=>⟨h.1,fun i hi=>wpOp_mono (fun a' w' h'=>wpAny_of_L fuel _ a' w' h'.2) (h.2 i hi)⟩
def lastOp (md:Region.Mode) (ops:Array Oper) (s i:Nat):Bool:=
 match ops[s]? with
 |none=>false
 |some o=>o.after.any fun e=>Region.binds md e && e.on==i
theorem last_not {i:Nat} (hl:lastOp md ops s i=true) {listed:Array Bool} (hi:i∈Region.ready md ops listed):s∉Region.ready md ops listed:=fun hs=>by
 obtain ⟨hi0,oi,hoi,_⟩:=mem_ready.1 hi
 obtain ⟨_,o,ho,hall⟩:=mem_ready.1 hs
 unfold lastOp at hl
 rw[ho] at hl
 dsimp only at hl
 rw[Array.any_eq_true'] at hl
 obtain ⟨ed,hed,hb⟩:=hl
 rw[Bool.and_eq_true] at hb
 have h2:=hall ed hed hb.1
 have hon:ed.on=i:=by simpa using hb.2
 rw[hon] at h2
 rcases Nat.lt_or_ge i listed.size with h'|h'
 ·simp[h'] at hi0 h2;rw[hi0] at h2;cases h2
 ·simp[Array.getElem?_eq_none h'] at h2
theorem wpAnyL_first {i:Nat} {oi:Oper} {v:Value} (hl:lastOp md ops s i=true) (hi:ops[i]? =some oi) (hsel:∀(j:Nat) (o:Oper) cs b,ops[j]? =some o→o.op≠ .select cs b)
  (hQ:∀c a w,Q (.panic c) (a.put oi.dst v) w→Q (.panic c) a w):
  ∀(fuel:Nat) (listed:Array Bool) (a:Act) (w:World),
   (∀j oj,ops[j]? =some oj→j≠i→listed.getD j true=false→(∀e∈oj.after,Region.binds md e=true→e.on≠i)→oi.apart ops oj=true)→
   i∈Region.ready md ops listed→YieldsIf P ops S oi v a→S w→
   wpAnyL P md ops Q S s fuel (listed.setIfInBounds i true) (a.put oi.dst v) w→wpAnyL P md ops Q S s (fuel+1) listed a w:=by
 refine' zq8
theorem wpAnyL_done {listed:Array Bool} {a:Act} {w:World} (hr:Region.ready md ops listed=[]) (h:Q .normal a w):∀fuel,wpAnyL P md ops Q S s fuel listed a w
 |0=>⟨hr,h⟩
 |_+1=>⟨fun _=>h,by rw[hr];simp⟩
theorem wp_region_L (s:Nat) {id:Nat} {a:Act} {w:World} (hm:P.follows .mixedOrders=true) (hS:S w.drew) (h:S w.drew→wpAnyL P .any ops Q S s ops.size (Array.replicate ops.size false) a w.drew):(Code.region id ops true).wp P Q a w:=
 wp_region_any hm (wpAny_of_L _ _ _ _ (h hS))
variable {fuel:Nat} {listed:Array Bool} {a a':Act} {w:World} {v:Value} {o:Op} {ty:TypeId} {pos:String} {af:Array Edge} {g:Option (Nat × Bool)}
theorem tkL (i:Nat) (d:Option Tmp) (hi:ops[i]? =some {dst:=d,op:=o,type:=ty,pos:=pos,after:=af,guard:=g}) (h:wpAnyL P md ops Q S s fuel (listed.setIfInBounds i true) a' w)
  (hl:lastOp md ops s i=true:=by kernel_rfl)
  (hs:Region.noSelect ops=true:=by kernel_rfl) (hf:Region.free md ops listed i=true:=by kernel_rfl) (hr:(Region.ready md ops listed).contains i=true:=by kernel_rfl)
  (hw:Region.wanted {dst:=d,op:=o,type:=ty,pos:=pos,after:=af,guard:=g} (yielded ops a.tmps)=true:=by kernel_rfl)
  (hy:∀w,S w→(execOp a.eval {dst:=d,op:=o,type:=ty,pos:=pos,after:=af,guard:=g}).run P w= .ok (.value v) w:=by intro w hSw;(try dsimp only at hSw);go_simp;(try with_reducible rfl))
  (hQ:∀c a w,Q (.panic c) (a.put d v) w→Q (.panic c) a w:=by exact fun _ _ _ h=>h)
  (hS:S w:=by first|assumption|trivial)
  (ha:a.put d v=a':=by (try simp only[Act.put,List.setIfInBounds_toArray,List.set_cons_zero,List.set_cons_succ]);(try exact rfl)):wpAnyL P md ops Q S s (fuel+1) listed a w:=by
 subst ha
 exact wpAnyL_first hl hi (Region.noSelect_spec hs) hQ fuel listed a w (Region.free_spec hi hf) (by simpa using hr) (.inl ⟨hw,hy⟩) hS h
theorem rdL (i:Nat) (d:Option Tmp) (hi:ops[i]? =some {dst:=d,op:=o,type:=ty,pos:=pos,after:=af,guard:=g})
  (h:∀K':Act→World→Prop,Shut (∀a w,S w→(S w→wpAnyL P md ops Q S s fuel (listed.setIfInBounds i true) a w)→K' a w)→if Region.wanted {dst:=d,op:=o,type:=ty,pos:=pos,after:=af,guard:=g} (yielded ops a.tmps)=true then Oper.wp P {dst:=d,op:=o,type:=ty,pos:=pos,after:=af,guard:=g} a w K' Q else K' (a.put d undef) w)
  (hr:Region.ready md ops listed=[i]:=by kernel_rfl):wpAnyL P md ops Q S s (fuel+1) listed a w:=
 ⟨fun h0=>(by rw[hr] at h0;cases h0),fun j hj=>by
  rw[hr] at hj
  obtain rfl:=List.mem_singleton.1 hj
  exact wpOp_step hi (fun K' hK=>h K' (fun a w hS hW=>hK a w ⟨fun _=>hS,hW hS⟩))⟩
theorem rdE (d:Option Tmp) (hi:ops[s]? =some {dst:=d,op:=o,type:=ty,pos:=pos,after:=af,guard:=g})
  (h:∀K':Act→World→Prop,Shut (∀a w,wpAnyL P md ops Q S s fuel (listed.setIfInBounds s true) a w→K' a w)→if Region.wanted {dst:=d,op:=o,type:=ty,pos:=pos,after:=af,guard:=g} (yielded ops a.tmps)=true then Oper.wp P {dst:=d,op:=o,type:=ty,pos:=pos,after:=af,guard:=g} a w K' Q else K' (a.put d undef) w)
  (hr:Region.ready md ops listed=[s]:=by kernel_rfl):wpAnyL P md ops Q S s (fuel+1) listed a w:=
 ⟨fun h0=>(by rw[hr] at h0;cases h0),fun j hj=>by
  rw[hr] at hj
  obtain rfl:=List.mem_singleton.1 hj
  exact wpOp_step hi (fun K' hK=>h K' (fun a w hW=>hK a w ⟨fun g=>absurd rfl g,hW⟩))⟩
end
theorem Row.grownE {w w':World} {b:Nat} {cs:Array Value} {t:TypeId} {row:Option Nat} (h:Row w b cs t) (hg:w.grownBy w' row) (hne:row≠some b):Row w' b cs t:=
 (hg.block b h.lt (fun e=>hne e.symm)).trans h
theorem own_ne {w:World} {base b size n:Nat} {e t:TypeId} {v:Value} {xs:List Value} {cs:Array Value} (h:w.ownsRow base e size v n xs) (r:Row w b cs t) (ht:t≠e):v.ownBlock≠some b:=by
 refine' zq122
end Go.Proofs.YtdkgkacnjdnpoaaGreat
namespace Go.Proofs.YtdkgkacnjdnpoaaGreat.Q
open Go.RowKit
section
variable {P:Program} {ops:Array Oper} {Q:Exit→Act→World→Prop} {md:Region.Mode} {S:World→Prop} {s:Nat}
def wpAnyL (P:Program) (md:Region.Mode) (ops:Array Oper) (Q:Exit→Act→World→Prop) (S:World→Prop) (s:Nat):Nat→Array Bool→Act→World→Prop
 |0,listed,a,w=>Region.ready md ops listed=[]∧Q .normal a w
 |fuel+1,listed,a,w=>
  (Region.ready md ops listed=[]→Q .normal a w)∧
  ∀i∈Region.ready md ops listed,wpOp P ops Q i (fun a' w'=>(i≠s→S w')∧wpAnyL P md ops Q S s fuel (listed.setIfInBounds i true) a' w') a w
theorem wpAny_of_L:∀(fuel:Nat) (listed:Array Bool) (a:Act) (w:World),wpAnyL P md ops Q S s fuel listed a w→wpAny P md ops Q fuel listed a w
 |0,_,_,_,h=>h
 |fuel+1,_,_,_,h=>⟨h.1,fun i hi=>wpOp_mono (fun a' w' h'=>wpAny_of_L fuel _ a' w' h'.2) (h.2 i hi)⟩
def lastOp (md:Region.Mode) (ops:Array Oper) (s i:Nat):Bool:=
 match ops[s]? with
 |none=>false
 |some o=>o.after.any fun e=>Region.binds md e && e.on==i
theorem last_not {i:Nat} (hl:lastOp md ops s i=true) {listed:Array Bool} (hi:i∈Region.ready md ops listed):s∉Region.ready md ops listed:=fun hs=>by
 obtain ⟨hi0,oi,hoi,_⟩:=mem_ready.1 hi
 obtain ⟨_,o,ho,hall⟩:=mem_ready.1 hs
 unfold lastOp at hl
 rw[ho] at hl
 dsimp only at hl
 rw[Array.any_eq_true'] at hl
 obtain ⟨ed,hed,hb⟩:=hl
 rw[Bool.and_eq_true] at hb
 have h2:=hall ed hed hb.1
 have hon:ed.on=i:=by simpa using hb.2
 rw[hon] at h2
 rcases Nat.lt_or_ge i listed.size with h'|h'
 ·simp[h'] at hi0 h2;rw[hi0] at h2;cases h2
 ·simp[Array.getElem?_eq_none h'] at h2
theorem wpAnyL_first {i:Nat} {oi:Oper} {v:Value} (hl:lastOp md ops s i=true) (hi:ops[i]? =some oi) (hsel:∀(j:Nat) (o:Oper) cs b,ops[j]? =some o→o.op≠ .select cs b)
  (hQ:∀c a w,Q (.panic c) (a.put oi.dst v) w→Q (.panic c) a w):
  ∀(fuel:Nat) (listed:Array Bool) (a:Act) (w:World),
   (∀j oj,ops[j]? =some oj→j≠i→listed.getD j true=false→(∀e∈oj.after,Region.binds md e=true→e.on≠i)→oi.apart ops oj=true)→
   i∈Region.ready md ops listed→YieldsIf P ops S oi v a→S w→
   wpAnyL P md ops Q S s fuel (listed.setIfInBounds i true) (a.put oi.dst v) w→wpAnyL P md ops Q S s (fuel+1) listed a w:=by
 refine' zq8
theorem wpAnyL_done {listed:Array Bool} {a:Act} {w:World} (hr:Region.ready md ops listed=[]) (h:Q .normal a w):∀fuel,wpAnyL P md ops Q S s fuel listed a w
 |0=>⟨hr,h⟩
 |_+1=>⟨fun _=>h,by rw[hr];simp⟩
theorem wp_region_L (s:Nat) {id:Nat} {a:Act} {w:World} (hm:P.follows .mixedOrders=true) (hS:S w.drew) (h:S w.drew→wpAnyL P .any ops Q S s ops.size (Array.replicate ops.size false) a w.drew):(Code.region id ops true).wp P Q a w:=
 wp_region_any hm (wpAny_of_L _ _ _ _ (h hS))
variable {fuel:Nat} {listed:Array Bool} {a a':Act} {w:World} {v:Value} {o:Op} {ty:TypeId} {pos:String} {af:Array Edge} {g:Option (Nat × Bool)}
theorem tkL (i:Nat) (d:Option Tmp) (hi:ops[i]? =some {dst:=d,op:=o,type:=ty,pos:=pos,after:=af,guard:=g}) (h:wpAnyL P md ops Q S s fuel (listed.setIfInBounds i true) a' w)
  (hl:lastOp md ops s i=true:=by kernel_rfl)
  (hs:Region.noSelect ops=true:=by kernel_rfl) (hf:Region.free md ops listed i=true:=by kernel_rfl) (hr:(Region.ready md ops listed).contains i=true:=by kernel_rfl)
  (hw:Region.wanted {dst:=d,op:=o,type:=ty,pos:=pos,after:=af,guard:=g} (yielded ops a.tmps)=true:=by kernel_rfl)
  (hy:∀w,S w→(execOp a.eval {dst:=d,op:=o,type:=ty,pos:=pos,after:=af,guard:=g}).run P w= .ok (.value v) w:=by intro w hSw;(try dsimp only at hSw);go_simp;(try with_reducible rfl))
  (hQ:∀c a w,Q (.panic c) (a.put d v) w→Q (.panic c) a w:=by exact fun _ _ _ h=>h)
  (hS:S w:=by first|assumption|trivial)
  (ha:a.put d v=a':=by (try simp only[Act.put,List.setIfInBounds_toArray,List.set_cons_zero,List.set_cons_succ]);(try exact rfl)):wpAnyL P md ops Q S s (fuel+1) listed a w:=by
 subst ha
 exact wpAnyL_first hl hi (Region.noSelect_spec hs) hQ fuel listed a w (Region.free_spec hi hf) (by simpa using hr) (.inl ⟨hw,hy⟩) hS h
theorem rdL (i:Nat) (d:Option Tmp) (hi:ops[i]? =some {dst:=d,op:=o,type:=ty,pos:=pos,after:=af,guard:=g})
  (h:∀K':Act→World→Prop,Shut (∀a w,S w→(S w→wpAnyL P md ops Q S s fuel (listed.setIfInBounds i true) a w)→K' a w)→if Region.wanted {dst:=d,op:=o,type:=ty,pos:=pos,after:=af,guard:=g} (yielded ops a.tmps)=true then Oper.wp P {dst:=d,op:=o,type:=ty,pos:=pos,after:=af,guard:=g} a w K' Q else K' (a.put d undef) w)
  (hr:Region.ready md ops listed=[i]:=by kernel_rfl):wpAnyL P md ops Q S s (fuel+1) listed a w:=
 ⟨fun h0=>(by rw[hr] at h0;cases h0),fun j hj=>by
  rw[hr] at hj
  obtain rfl:=List.mem_singleton.1 hj
  exact wpOp_step hi (fun K' hK=>h K' (fun a w hS hW=>hK a w ⟨fun _=>hS,hW hS⟩))⟩
theorem rdE (d:Option Tmp) (hi:ops[s]? =some {dst:=d,op:=o,type:=ty,pos:=pos,after:=af,guard:=g})
  (h:∀K':Act→World→Prop,Shut (∀a w,wpAnyL P md ops Q S s fuel (listed.setIfInBounds s true) a w→K' a w)→if Region.wanted {dst:=d,op:=o,type:=ty,pos:=pos,after:=af,guard:=g} (yielded ops a.tmps)=true then Oper.wp P {dst:=d,op:=o,type:=ty,pos:=pos,after:=af,guard:=g} a w K' Q else K' (a.put d undef) w)
  (hr:Region.ready md ops listed=[s]:=by kernel_rfl):wpAnyL P md ops Q S s (fuel+1) listed a w:=
 ⟨fun h0=>(by rw[hr] at h0;cases h0),fun j hj=>by
  rw[hr] at hj
  obtain rfl:=List.mem_singleton.1 hj
  exact wpOp_step hi (fun K' hK=>h K' (fun a w hW=>hK a w ⟨fun g=>absurd rfl g,hW⟩))⟩
end
theorem own_updE {W W':World} {X:Nat→Prop} {base size n:Nat} {e:TypeId} {v:Value} {xs:List Value} (h:W.ownsRow base e size v n xs) (hu:Upd X W W') (hX:∀k,v.ownBlock=some k→¬X k):W'.ownsRow base e size v n xs:=by
 refine' zq151
theorem own_ne {w:World} {base b size n:Nat} {e t:TypeId} {v:Value} {xs:List Value} {cs:Array Value} (h:w.ownsRow base e size v n xs) (r:Row w b cs t) (ht:t≠e):v.ownBlock≠some b:=by
 refine' zq122
theorem own_src {w:World} {base:Nat} {e:TypeId} {size:Nat} {v:Value} {n:Nat} {xs:List Value} (h:w.ownsRow base e size v n xs):∃A c,v= .slice A n c∧NilOk (.slice A n c)∧∀ad,A=some ad→∀j u,xs[j]? =some u→w.cell? (ad.add j)=some u:=by
 rcases h.2 with ⟨rfl,rfl⟩|⟨g,c,cur,rfl,_⟩
 ·exact ⟨none,0,rfl,NilOk.nil,fun _ h=>by cases h⟩
 ·exact ⟨some ⟨g,0,none⟩,c,rfl,NilOk.some,fun ad he=>by injection he with he;subst he;exact h.cells rfl⟩
end Go.Proofs.YtdkgkacnjdnpoaaGreat.Q
