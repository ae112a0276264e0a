/-
  A region that draws its order and ends in a store: what is held of the world need not be held behind that store. The contracts of package arith: each call returns the number that its text says, wrapped to 64 bits, and leaves the world as it was. Plain facts on numbers of 64 bits that go round: sums, products, quotients, remainders. No program in sight. The contracts of arith.Flag, One, Do, Sign. The contract of tompionref03.Sign.
-/
import Derived.Test.YtbjaejgechadpaaGreatPgA
import Derived.Test.YtbjaejgechadpaaGreatChecked
import Derived.WalkKit
import Derived.Lib.Hide
import Derived.RowKit3
import Derived.Test.YtbjaejgechadpaaGreatMem
namespace Go.Proofs.YtbjaejgechadpaaGreat
open Go.RowKit
section
variable {P:Program} {ops:Array Oper} {Q:Exit→Act→World→Prop} {md:Region.Mode} {S:World→Prop} {s:Nat}
def wpAnyL (P:Program) (md:Region.Mode) (ops:Array Oper) (Q:Exit→Act→World→Prop) (S:World→Prop) (s:Nat):Nat→Array Bool→Act→World→Prop
 |0,listed,a,w=>Region.ready md ops listed=[]∧Q .normal a w
 |fuel+1,listed,a,w=>
  (Region.ready md ops listed=[]→Q .normal a w)∧
  ∀i∈Region.ready md ops listed,wpOp P ops Q i (fun a' w'=>(i≠s→S w')∧wpAnyL P md ops Q S s fuel (listed.setIfInBounds i true) a' w') a w
theorem wpAny_of_L:∀(fuel:Nat) (listed:Array Bool) (a:Act) (w:World),wpAnyL P md ops Q S s fuel listed a w→wpAny P md ops Q fuel listed a w
 |0,_,_,_,h=>h
 |fuel+1,_,_,_,h=>⟨h.1,fun i hi=>wpOp_mono (fun a' w' h'=>wpAny_of_L fuel _ a' w' h'.2) (h.2 i hi)⟩
def lastOp (md:Region.Mode) (ops:Array Oper) (s i:Nat):Bool:=
 match ops[s]? with
 |none=>false
 |some o=>o.after.any fun e=>Region.binds md e && e.on==i
theorem last_not {i:Nat} (hl:lastOp md ops s i=true) {listed:Array Bool} (hi:i∈Region.ready md ops listed):s∉Region.ready md ops listed:=fun hs=>by
 obtain ⟨hi0,oi,hoi,_⟩:=mem_ready.1 hi
 obtain ⟨_,o,ho,hall⟩:=mem_ready.1 hs
 unfold lastOp at hl
 rw[ho] at hl
 dsimp only at hl
 rw[Array.any_eq_true'] at hl
 obtain ⟨ed,hed,hb⟩:=hl
 rw[Bool.and_eq_true] at hb
 have h2:=hall ed hed hb.1
 have hon:ed.on=i:=by simpa using hb.2
 rw[hon] at h2
 rcases Nat.lt_or_ge i listed.size with h'|h'
 ·simp[h'] at hi0 h2;rw[hi0] at h2;cases h2
 ·simp[Array.getElem?_eq_none h'] at h2
theorem wpAnyL_first {i:Nat} {oi:Oper} {v:Value} (hl:lastOp md ops s i=true) (hi:ops[i]? =some oi) (hsel:∀(j:Nat) (o:Oper) cs b,ops[j]? =some o→o.op≠ .select cs b)
  (hQ:∀c a w,Q (.panic c) (a.put oi.dst v) w→Q (.panic c) a w):
  ∀(fuel:Nat) (listed:Array Bool) (a:Act) (w:World),
   (∀j oj,ops[j]? =some oj→j≠i→listed.getD j true=false→(∀e∈oj.after,Region.binds md e=true→e.on≠i)→oi.apart ops oj=true)→
   i∈Region.ready md ops listed→YieldsIf P ops S oi v a→S w→
   wpAnyL P md ops Q S s fuel (listed.setIfInBounds i true) (a.put oi.dst v) w→wpAnyL P md ops Q S s (fuel+1) listed a w:=by
 intro fuel
 induction fuel with
 |zero=>
  intro listed a w _ hr hy hS H
  refine ⟨fun h=>(by rw[h] at hr;cases hr),fun j hj=>?_⟩
  by_cases hji:j=i
  ·subst hji;exact hy.wpOp hi hS ⟨fun _=>hS,H⟩
  ·have:=ready_mono hj hji
   rw[H.1] at this
   cases this
 |succ fuel ih=>
  intro listed a w hfree hr hy hS H
  refine ⟨fun h=>(by rw[h] at hr;cases hr),fun j hj=>?_⟩
  by_cases hji:j=i
  ·subst hji;exact hy.wpOp hi hS ⟨fun _=>hS,H⟩
  ·have hjs:j≠s:=fun e=>last_not hl hr (e▸hj)
   have h1:=H.2 j (ready_mono hj hji)
   obtain ⟨hjun,oj,hoj,hall⟩:=mem_ready.1 hj
   have hnot:∀e∈oj.after,Region.binds md e=true→e.on≠i:=fun e he hb heq=>by
    have h1:=hall e he hb
    have h0:=(mem_ready.1 hr).1
    rw[heq] at h1
    rcases Nat.lt_or_ge i listed.size with h'|h'
    ·simp[h'] at h0 h1;rw[h0] at h1;cases h1
    ·simp[Array.getElem?_eq_none h'] at h1
   have h2:=wpOp_putIf hoj (hfree j oj hoj hji hjun hnot) (fun cs b=>hsel i oi cs b hi) (fun cs b=>hsel j oj cs b hoj) hQ hy h1
   have hfree':∀k ok,ops[k]? =some ok→k≠i→(listed.setIfInBounds j true).getD k true=false→
     (∀e∈ok.after,Region.binds md e=true→e.on≠i)→oi.apart ops ok=true:=fun k ok hk hki hun hno=>by
    refine hfree k ok hk hki ?_ hno
    by_cases hjk:j=k
    ·subst hjk;exact hjun
    ·rw[getD_set_ne true hjk] at hun;exact hun
   refine wpOp_mono (fun a' w' h3=>⟨h3.2.1,ih (listed.setIfInBounds j true) a' w' hfree' (ready_mono hr (Ne.symm hji)) h3.1 (h3.2.1 hjs) ?_⟩) h2
   rw[Array.setIfInBounds_comm _ _ hji]
   exact h3.2.2
theorem wpAnyL_done {listed:Array Bool} {a:Act} {w:World} (hr:Region.ready md ops listed=[]) (h:Q .normal a w):∀fuel,wpAnyL P md ops Q S s fuel listed a w
 |0=>⟨hr,h⟩
 |_+1=>⟨fun _=>h,by rw[hr];simp⟩
theorem wp_region_L (s:Nat) {id:Nat} {a:Act} {w:World} (hm:P.follows .mixedOrders=true) (hS:S w.drew) (h:S w.drew→wpAnyL P .any ops Q S s ops.size (Array.replicate ops.size false) a w.drew):(Code.region id ops true).wp P Q a w:=
 wp_region_any hm (wpAny_of_L _ _ _ _ (h hS))
variable {fuel:Nat} {listed:Array Bool} {a a':Act} {w:World} {v:Value} {o:Op} {ty:TypeId} {pos:String} {af:Array Edge} {g:Option (Nat × Bool)}
theorem tkL (i:Nat) (d:Option Tmp) (hi:ops[i]? =some {dst:=d,op:=o,type:=ty,pos:=pos,after:=af,guard:=g}) (h:wpAnyL P md ops Q S s fuel (listed.setIfInBounds i true) a' w)
  (hl:lastOp md ops s i=true:=by kernel_rfl)
  (hs:Region.noSelect ops=true:=by kernel_rfl) (hf:Region.free md ops listed i=true:=by kernel_rfl) (hr:(Region.ready md ops listed).contains i=true:=by kernel_rfl)
  (hw:Region.wanted {dst:=d,op:=o,type:=ty,pos:=pos,after:=af,guard:=g} (yielded ops a.tmps)=true:=by kernel_rfl)
  (hy:∀w,S w→(execOp a.eval {dst:=d,op:=o,type:=ty,pos:=pos,after:=af,guard:=g}).run P w= .ok (.value v) w:=by intro w hSw;(try dsimp only at hSw);go_simp;(try with_reducible rfl))
  (hQ:∀c a w,Q (.panic c) (a.put d v) w→Q (.panic c) a w:=by exact fun _ _ _ h=>h)
  (hS:S w:=by first|assumption|trivial)
  (ha:a.put d v=a':=by (try simp only[Act.put,List.setIfInBounds_toArray,List.set_cons_zero,List.set_cons_succ]);(try exact rfl)):wpAnyL P md ops Q S s (fuel+1) listed a w:=by
 subst ha
 exact wpAnyL_first hl hi (Region.noSelect_spec hs) hQ fuel listed a w (Region.free_spec hi hf) (by simpa using hr) (.inl ⟨hw,hy⟩) hS h
theorem rdL (i:Nat) (d:Option Tmp) (hi:ops[i]? =some {dst:=d,op:=o,type:=ty,pos:=pos,after:=af,guard:=g})
  (h:∀K':Act→World→Prop,Shut (∀a w,S w→(S w→wpAnyL P md ops Q S s fuel (listed.setIfInBounds i true) a w)→K' a w)→if Region.wanted {dst:=d,op:=o,type:=ty,pos:=pos,after:=af,guard:=g} (yielded ops a.tmps)=true then Oper.wp P {dst:=d,op:=o,type:=ty,pos:=pos,after:=af,guard:=g} a w K' Q else K' (a.put d undef) w)
  (hr:Region.ready md ops listed=[i]:=by kernel_rfl):wpAnyL P md ops Q S s (fuel+1) listed a w:=
 ⟨fun h0=>(by rw[hr] at h0;cases h0),fun j hj=>by
  rw[hr] at hj
  obtain rfl:=List.mem_singleton.1 hj
  exact wpOp_step hi (fun K' hK=>h K' (fun a w hS hW=>hK a w ⟨fun _=>hS,hW hS⟩))⟩
theorem rdE (d:Option Tmp) (hi:ops[s]? =some {dst:=d,op:=o,type:=ty,pos:=pos,after:=af,guard:=g})
  (h:∀K':Act→World→Prop,Shut (∀a w,wpAnyL P md ops Q S s fuel (listed.setIfInBounds s true) a w→K' a w)→if Region.wanted {dst:=d,op:=o,type:=ty,pos:=pos,after:=af,guard:=g} (yielded ops a.tmps)=true then Oper.wp P {dst:=d,op:=o,type:=ty,pos:=pos,after:=af,guard:=g} a w K' Q else K' (a.put d undef) w)
  (hr:Region.ready md ops listed=[s]:=by kernel_rfl):wpAnyL P md ops Q S s (fuel+1) listed a w:=
 ⟨fun h0=>(by rw[hr] at h0;cases h0),fun j hj=>by
  rw[hr] at hj
  obtain rfl:=List.mem_singleton.1 hj
  exact wpOp_step hi (fun K' hK=>h K' (fun a w hW=>hK a w ⟨fun g=>absurd rfl g,hW⟩))⟩
end
end Go.Proofs.YtbjaejgechadpaaGreat
namespace Go.Proofs.YtbjaejgechadpaaGreat
open Go.RowKit
theorem own_updE {W W':World} {X:Nat→Prop} {base size n:Nat} {e:TypeId} {v:Value} {xs:List Value} (h:W.ownsRow base e size v n xs) (hu:Upd X W W') (hX:∀k,v.ownBlock=some k→¬X k):W'.ownsRow base e size v n xs:=by
 refine ⟨h.1,?_⟩
 rcases h.2 with h0|⟨g,c,cur,h1,h2,h3,h4⟩
 ·exact .inl h0
 ·exact .inr ⟨g,c,cur,h1,h2,(hu.block g (Array.getElem?_eq_some_iff.1 h3).1 (hX g (by rw[h1];rfl))).trans h3,h4⟩
theorem Row.grownE {w w':World} {b:Nat} {cs:Array Value} {t:TypeId} {row:Option Nat} (h:Row w b cs t) (hg:w.grownBy w' row) (hne:row≠some b):Row w' b cs t:=
 (hg.block b h.lt (fun e=>hne e.symm)).trans h
theorem own_ne {w:World} {base b size n:Nat} {e t:TypeId} {v:Value} {xs:List Value} {cs:Array Value} (h:w.ownsRow base e size v n xs) (r:Row w b cs t) (ht:t≠e):v.ownBlock≠some b:=by
 rcases h.2 with ⟨h0,_⟩|⟨g,c,cur,h1,h2,h3,_⟩
 ·subst h0;intro q;cases q
 ·subst h1
  intro q
  have e':g=b:=by injection q
  subst e'
  unfold Row at r
  rw[h3] at r
  injection r with r
  injection r with _ r _
  exact ht r.symm
theorem own_src {w:World} {base:Nat} {e:TypeId} {size:Nat} {v:Value} {n:Nat} {xs:List Value} (h:w.ownsRow base e size v n xs):∃A c,v= .slice A n c∧NilOk (.slice A n c)∧∀ad,A=some ad→∀j u,xs[j]? =some u→w.cell? (ad.add j)=some u:=by
 rcases h.2 with ⟨rfl,rfl⟩|⟨g,c,cur,rfl,_⟩
 ·exact ⟨none,0,rfl,NilOk.nil,fun _ h=>by cases h⟩
 ·exact ⟨some ⟨g,0,none⟩,c,rfl,NilOk.some,fun ad he=>by injection he with he;subst he;exact h.cells rfl⟩
theorem step_own {P:Program} {o:Oper} {a:Act} {w:World} {K:Act→World→Prop} {Q:Exit→Act→World→Prop} (s x:Operand) (t:TypeId) (ho:o.op= .call {callee:= .builtin .append,args:= #[s,x],argTypes:= #[t,t]})
  (base:Nat) (e:TypeId) (i:TypeInfo) (z:Value) (size bytes:Nat) (ht:P.underlying t=some (.slice e)) (hi:P.info? e=some i) (hz:i.zero=some z)
  (hsize:i.size=size) (hby:i.bytes=bytes) (hzs:z.cells.size=size) (hsz:0<size)
  (v:Value) (n:Nat) (xs:List Value) (hs:a.eval s=v) (hown:w.ownsRow base e size v n xs)
  (A:Option Addr) (m c:Nat) (news:List Value) (hx:a.eval x= .slice A m c) (hnil:NilOk (.slice A m c)) (hl:news.length=m*size) (hnews:∀ad,A=some ad→∀j u,news[j]? =some u→w.cell? (ad.add j)=some u) (h1:∀u∈news,u.oneCell'=true)
  (h63:n+m≤maxLen) (hbytes:(n+m)*bytes≤140737488355328) (hbase:base≤w.heap.size)
  (h:∀v' w',w'.ownsRow base e size v' (n+m) (xs++news)→w.grownBy w' v.ownBlock→K (a.put o.dst v') w'):Oper.wp P o a w K Q:=by
 cases A with
 |none=>
  obtain ⟨rfl,rfl⟩:=hnil m c rfl
  have hn:news=[]:=List.eq_nil_of_length_eq_zero (by omega)
  subst hn
  have hrun:=run_append_owned_none (P:=P) (w:=w) base t o.type e i size ht hi v n xs hown
  unfold Oper.wp
  simp[execOp,ho,resolve,invoke,builtin,hs,hx,hrun,Result.andThen]
  exact h v w (by rw[List.append_nil,Nat.add_zero];exact hown) ⟨rfl,rfl,rfl,Nat.le_refl _,fun _ _ _=>rfl⟩
 |some ad=>
  obtain ⟨v',w',hr,h2,h3,_,_⟩:=run_append_own_at (P:=P) (w:=w) base t o.type e i z size bytes ht hi hz hsize hby hzs hsz v n xs hown ad m c news hl (hnews ad rfl) h1 h63 hbytes hbase
  unfold Oper.wp execOp
  simp only[ho,resolve,invoke,builtin,Sem.run_bind,Sem.run_pure,Result.andThen_ok,List.map_toArray,List.map_cons,List.map_nil,hs,hx,hr]
  exact h v' w' h2 h3
end Go.Proofs.YtbjaejgechadpaaGreat
namespace Go.Proofs.YtbjaejgechadpaaGreat.Ar
open Go.RowKit
def addZ (a b:Int):Int:=wrap64 (a+b)
def subZ (a b:Int):Int:=wrap64 (a-b)
def mulZ (a b:Int):Int:=wrap64 (a*b)
def negZ (a:Int):Int:=wrap64 (-a)
def divZ (a b:Int):Int:=if b=0 then 0 else if b= -1 then wrap64 (-a) else wrap64 (a.tdiv b)
def modZ (a b:Int):Int:=subZ a (mulZ (divZ a b) b)
def flagZ (b:Bool):Int:=if b then 1 else 0
end Go.Proofs.YtbjaejgechadpaaGreat.Ar
namespace Go.Proofs.YtbjaejgechadpaaGreat.Z
open Go.RowKit Ar
theorem wrap_bmod (n:Int):wrap64 n=Int.bmod n 18446744073709551616:=by
 unfold wrap64
 rw[Int.bmod_def]
 split<;>omega
theorem wrap_lo (n:Int): -9223372036854775808≤wrap64 n∧wrap64 n≤9223372036854775807:=by
 unfold wrap64;omega
theorem wrap_in {n:Int} (h: -9223372036854775808≤n∧n≤9223372036854775807):wrap64 n=n:=by
 unfold wrap64;omega
def In (n:Int):Prop:= -9223372036854775808≤n∧n≤9223372036854775807
theorem in_add (a b:Int):In (addZ a b):=wrap_lo _
theorem in_neg (a:Int):In (negZ a):=wrap_lo _
theorem in_sub (a b:Int):In (subZ a b):=wrap_lo _
theorem in_mul (a b:Int):In (mulZ a b):=wrap_lo _
theorem in_mod (a b:Int):In (modZ a b):=wrap_lo _
theorem in_div (a b:Int):In (divZ a b):=by
 unfold divZ
 split
 ·unfold In;omega
 ·split
  ·exact wrap_lo _
  ·exact wrap_lo _
theorem sub_eq (a b:Int):subZ a b=addZ a (negZ b):=by
 simp only[subZ,addZ,negZ,wrap_bmod,Int.add_bmod_bmod,Int.sub_eq_add_neg]
theorem div_zero (a:Int):divZ a 0=0:=by simp[divZ]
theorem mod_zero {a:Int} (h:In a):modZ a 0=a:=by
 simp only[modZ,subZ,mulZ,divZ,if_true,Int.mul_zero]
 rw[wrap_in (n:=0) (by omega),Int.sub_zero];exact wrap_in h
end Go.Proofs.YtbjaejgechadpaaGreat.Z
namespace Go.Proofs.YtbjaejgechadpaaGreat.Ar
open Go.RowKit
def cmpB (op a b:Int):Bool:=
 if op=12 then a==b else if op=13 then a !=b else if op=14 then decide (a<b) else if op=15 then decide (a≤b) else if op=16 then decide (b<a) else decide (b≤a)
def logB (op:Int) (a b:Bool):Bool:=if op=18 then a && b else if op=19 then a||b else a !=b
def oneV (op a:Int):Int:=if op=5 then negZ a else if op=6 then flagZ (a==0) else 0
def oneB (op:Int):Bool:=op==5||op==6
def doV (op a b:Int):Int:=
 if op=7 then addZ a b else if op=8 then subZ a b else if op=9 then mulZ a b else if op=10 then divZ a b else if op=11 then modZ a b
 else if 12≤op∧op≤17 then flagZ (cmpB op a b) else if 18≤op∧op≤20 then flagZ (logB op (a !=0) (b !=0)) else 0
def doB (op:Int):Bool:=decide (7≤op) && decide (op≤20)
def signIn (op:Int):Int:=if op=12∨op=13 then 0 else if op=6∨op=18∨op=19∨op=20 then 2 else if 5≤op∧op≤17 then 1 else 0
def signOut (op:Int):Int:=if op=6∨(12≤op∧op≤20) then 2 else if 5≤op∧op≤11 then 1 else 0
def signB (op:Int):Bool:=decide (5≤op) && decide (op≤20)
theorem sign_any (op:Int) (w:World):
  Calls Tryz.prog 78 #[.int .i64 op] w fun e w'=>e= .returned (.tuple #[.int .i64 (signIn op),.int .i64 (signOut op),.bool (signB op)])∧w=w':=by
 by_cases h:5≤op∧op≤20
 ·rcases (by omega:op=5∨op=6∨op=7∨op=8∨op=9∨op=10∨op=11∨op=12∨op=13∨op=14∨op=15∨op=16∨op=17∨op=18∨op=19∨op=20) with rfl|rfl|rfl|rfl|rfl|rfl|rfl|rfl|rfl|rfl|rfl|rfl|rfl|rfl|rfl|rfl
  all_goals
   clear h
   go_enter Tryz.func78,Tryz.ntmps78
   go_wp2
   go_ret3
   exact ⟨rfl,rfl⟩
 ·have H1:=Lib.hid (show signIn op=0 from by unfold signIn;rw[if_neg (by omega),if_neg (by omega),if_neg (by omega)])
  have H2:=Lib.hid (show signOut op=0 from by unfold signOut;rw[if_neg (by omega),if_neg (by omega)])
  have H3:=Lib.hid (show signB op=false from by simp[signB];omega)
  by_cases hlt:op<5
  ·clear h
   go_enter Tryz.func78,Tryz.ntmps78
   go_wp2
   go_ret3
   exact ⟨by rw[H1.out,H2.out,H3.out];rfl,rfl⟩
  ·have hgt:20<op:=by omega
   clear h hlt
   go_enter Tryz.func78,Tryz.ntmps78
   go_wp2
   go_ret3
   exact ⟨by rw[H1.out,H2.out,H3.out];rfl,rfl⟩
end Go.Proofs.YtbjaejgechadpaaGreat.Ar
namespace Go.Proofs.YtbjaejgechadpaaGreat
open Go.RowKit Ar Z
theorem rsign_no (op:Int) (w:World) (h:op<5∨20<op):
  Calls Tryz.prog 66 #[.int .i64 op] w fun e w'=>e= .returned (.tuple #[.int .i64 0,.int .i64 0,.bool false])∧Below w.heap.size w w':=by
 rcases h with h|h
 ·go_enter Tryz.func66,Tryz.ntmps66
  go_wp2
  go_ret3
  exact ⟨rfl,Below.refl _ _⟩
 ·have h':¬op<5:=by omega
  go_enter Tryz.func66,Tryz.ntmps66
  go_wp2
  go_ret3
  exact ⟨rfl,Below.refl _ _⟩
set_option maxHeartbeats 4000000 in
theorem rsign_yes (op:Int) (w:World) (h:5≤op∧op≤20):
  Calls Tryz.prog 66 #[.int .i64 op] w fun e w'=>e= .returned (.tuple #[.int .i64 (signIn op),.int .i64 (signOut op),.bool true])∧Below w.heap.size w w':=by
 rcases (by omega:op=5∨op=6∨op=7∨op=8∨op=9∨op=10∨op=11∨op=12∨op=13∨op=14∨op=15∨op=16∨op=17∨op=18∨op=19∨op=20) with rfl|rfl|rfl|rfl|rfl|rfl|rfl|rfl|rfl|rfl|rfl|rfl|rfl|rfl|rfl|rfl
 all_goals
  clear h
  go_enter Tryz.func66,Tryz.ntmps66
  go_wp2
  go_quiet (fail)
  go_wp2
  go_ret3
  exact ⟨rfl,below_drewN' (((Below.refl _ _).alloc (Nat.le_refl _) _).alloc (by simp) _) _⟩
end Go.Proofs.YtbjaejgechadpaaGreat
