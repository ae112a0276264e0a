/-
  bits.Mul of one and a small number. The looker looks at an instruction that reckons; and at whatever instruction. slices.Contains of a row of bools. clear, of a row that holds zeros: it stays as it was. verify's look. verify.Right slices.Repeat of one number. A tick of a machine, as plain data. A tick's state in memory. slices.Clone at three types; small readers of rows of numbers.
-/
import Derived.Test.YtckognjamlckcaaGreatDoorMem
import Derived.Laws.Bits64b
import Derived.Test.YtckognjamlckcaaGreatDoorLookA
import Derived.Deep.RegionHeld3
import Derived.IntWalk
import Derived.Lib.SliceRun
import Derived.Laws.CopyOwn
import Derived.Test.YtckognjamlckcaaGreatDoorPlainA
import Derived.Deep.DrawnRows
namespace Go.Proofs.YtckognjamlckcaaGreatDoor
open Go.RowKit
theorem mask_small (a:Nat) (ha:a≤100000):bits .and .u64 (a:Int) 4294967295=(a:Int):=by
 have h:=bits_and_u64_nat a 4294967295 (by omega) (by omega)
 have e:a &&& 4294967295=a:=by rw[show (4294967295:Nat)=2 ^ 32-1 by rfl,Nat.and_two_pow_sub_one_eq_mod];exact Nat.mod_eq_of_lt (by omega)
 rw[e] at h
 exact h
theorem mask_one:bits .and .u64 1 4294967295=1:=by decide
theorem mask_zero:bits .and .u64 0 4294967295=0:=by decide
set_option maxHeartbeats 1000000 in
theorem mul64_one (y:Nat) (hy:y≤100000) (w:World):
  Calls Tryz.prog 112 #[.int .u64 1,.int .u64 y] w fun e w'=>e= .returned (.tuple #[.int .u64 0,.int .u64 y])∧w=w':=by
 have k1:=mask_small y hy
 have k2:=mask_one
 have k3:=mask_zero
 have hd:(y:Int)/4294967296=0:=by omega
 go_enter Tryz.func112,Tryz.ntmps112
 go_wp2
 go_ret2
 exact ⟨rfl,rfl⟩
set_option maxHeartbeats 1000000 in
theorem mul_one (y:Nat) (hy:y≤100000) (w:World):
  Calls Tryz.prog 93 #[.int .u64 1,.int .u64 y] w fun e w'=>e= .returned (.tuple #[.int .u64 0,.int .u64 y])∧w=w':=by
 go_enter Tryz.func93,Tryz.ntmps93
 go_wp2_with (go_at_call 112;refine (mul64_one _ hy _).mono ?_;rintro e w' ⟨rfl,rfl⟩)
 go_ret2
 exact ⟨rfl,rfl⟩
end Go.Proofs.YtckognjamlckcaaGreatDoor
namespace Go.Proofs.YtckognjamlckcaaGreatDoor
open Go.RowKit Vf
end Go.Proofs.YtckognjamlckcaaGreatDoor
namespace Go.Proofs.YtckognjamlckcaaGreatDoor
open Go.RowKit Vf
set_option maxRecDepth 100000 in
set_option maxHeartbeats 4000000 in
theorem index_bool {w:World} {O:Nat} {l:List Bool} {t:TypeId} (h:Row w O (l.map Value.bool).toArray t) (hl:l.length≤1600):
  Calls Tryz.prog 95 #[.slice (some ⟨O,0,none⟩) l.length l.length,.bool false] w fun e w'=>(∃r:Int,e= .returned (.int .i64 r)∧(0≤r↔¬∀b∈l,b=true))∧w=w':=by
 go_enter Tryz.func95,Tryz.ntmps95
 go_wp2_with fail
 go_loopw[8] (fun i wr=>∃k:Nat,k≤l.length∧i= .int .i64 k∧Hid (∀j,j<k→l.getD j false=true)∧w=wr) (fun i _=>l.length-(intOf i).toNat)
 case atStart=>exact ⟨0,Nat.zero_le _,rfl,fun j h=>absurd h (by omega),rfl⟩
 case round=>
  obtain ⟨k,hk,rfl,HN,rfl⟩:=hrel
  by_cases hlt:k<l.length
  ·have c0:=out_cell h hlt
   generalize hV:l.getD k false=V at*
   have HV:=Lib.hid hV
   have HM:=Lib.hid (List.getElem_mem hlt)
   have HG:=Lib.hid (show l.getD k false=l[k] by rw[List.getD_eq_getElem?_getD,List.getElem?_eq_getElem hlt];rfl)
   clear hV
   cases V
   ·go_wp2_with fail
    go_ret
    refine ⟨⟨_,rfl,?_⟩,rfl⟩
    refine ⟨fun _ ha=>?_,fun _=>by omega⟩
    have:=ha _ HM.out
    rw[←HG.out,HV.out] at this
    exact absurd this (by decide)
   ·have HN':=Lib.hid (show ∀j,j<k+1→l.getD j false=true from fun j hj=>by
     by_cases e:j=k
     ·rw[e];exact HV.out
     ·exact HN.out j (by omega))
    go_wp2_with fail
    go_roundw
    case rel=>exact ⟨k+1,by omega,by go_num,HN',trivial⟩
    case measure=>simp[intOf];omega
  ·obtain rfl:k=l.length:=by omega
   go_wp2_with fail
   go_ret
   refine ⟨⟨_,rfl,?_⟩,rfl⟩
   refine ⟨fun h0=>absurd h0 (by decide),fun hn=>absurd (fun b hb=>?_) hn⟩
   obtain ⟨j,hj,rfl⟩:=List.getElem_of_mem hb
   have:=HN.out j hj
   rwa [List.getD_eq_getElem?_getD,List.getElem?_eq_getElem hj] at this
set_option maxRecDepth 100000 in
theorem contains_bool {w:World} {O:Nat} {l:List Bool} {t:TypeId} (h:Row w O (l.map Value.bool).toArray t) (hl:l.length≤1600):
  Calls Tryz.prog 69 #[.slice (some ⟨O,0,none⟩) l.length l.length,.bool false] w fun e w'=>e= .returned (.bool (cB (¬∀b∈l,b=true)))∧w=w':=by
 have HI:=Lib.hid (index_bool h hl)
 clear h
 go_enter Tryz.func69,Tryz.ntmps69
 go_wp2_with fail
 refine HI.out.mono ?_
 rintro e w' ⟨⟨r,rfl,hr⟩,rfl⟩
 have HR:=Lib.hid hr
 clear hr
 go_wp2_with fail
 go_ret
 exact ⟨ret_bool (by rw[←cB_congr HR.out];by_cases c:0≤r<;>simp[cB,c]),rfl⟩
end Go.Proofs.YtckognjamlckcaaGreatDoor
namespace Go.Proofs.YtckognjamlckcaaGreatDoor
open Go.RowKit Vf
end Go.Proofs.YtckognjamlckcaaGreatDoor
namespace Go.Proofs.YtckognjamlckcaaGreatDoor
open Go.RowKit Vf
section
variable {w w':World} {B L K O:Nat} {vi vo vc vd:Value}
end
end Go.Proofs.YtckognjamlckcaaGreatDoor
namespace Go.Proofs.YtckognjamlckcaaGreatDoor
open Go.RowKit Vf
theorem made_one (z:Value) (n:Nat):madeCells #[z] n=(List.replicate n z).toArray:=by
 apply Array.ext
 ·simp[madeCells]
 ·intro i h1 h2
  simp[madeCells,Nat.mod_one]
theorem info_bool:(Tryz.prog.info? 4).map (fun i=>(i.zero,i.size,i.bytes))=some (some (.bool false),1,1):=by kernel_rfl
set_option maxRecDepth 100000 in
theorem make_ints (n:Int) (h0:0≤n) (h1:n≤1600) (W:World):(Instr.makeSlice 26 (.int .i64 n) (.int .i64 n)).run Tryz.prog W= .ok (.slice (some ⟨W.heap.size,0,none⟩) n.toNat n.toNat) (W.alloc (.cells (List.replicate n.toNat (.int .i64 0)).toArray 3)):=by
 obtain ⟨i0,hi0,hz0,hz1,hz2⟩:=info_parts info_int
 rw[run_make (P:=Tryz.prog) W 26 3 i0 (.int .i64 0) rfl hi0 hz0 .i64 .i64 n n h0 (Int.le_refl _) (by rw[hz2];omega) (by omega),hz1,Nat.mul_one,←made_one]
 rfl
set_option maxRecDepth 100000 in
theorem make_bools (n:Int) (h0:0≤n) (h1:n≤1600) (W:World):(Instr.makeSlice 109 (.int .i64 n) (.int .i64 n)).run Tryz.prog W= .ok (.slice (some ⟨W.heap.size,0,none⟩) n.toNat n.toNat) (W.alloc (.cells (List.replicate n.toNat (.bool false)).toArray 4)):=by
 obtain ⟨i0,hi0,hz0,hz1,hz2⟩:=info_parts info_bool
 rw[run_make (P:=Tryz.prog) W 109 4 i0 (.bool false) rfl hi0 hz0 .i64 .i64 n n h0 (Int.le_refl _) (by rw[hz2];omega) (by omega),hz1,Nat.mul_one,←made_one]
 rfl
end Go.Proofs.YtckognjamlckcaaGreatDoor
namespace Go.Proofs.YtckognjamlckcaaGreatDoor
open Go.RowKit
def repN (x:Int) (n c:Nat):List Value:=List.replicate n (.int .i64 x)++List.replicate (c-n) (.int .i64 0)
theorem repN_len {x:Int} {n c:Nat} (h:n≤c):(repN x n c).length=c:=by simp[repN];omega
theorem repN_splice {x:Int} {n m c:Nat}:splice (repN x n c) n (List.replicate m (.int .i64 x))=repN x (n+m) c:=by
 unfold splice repN
 rw[List.take_left' (by simp),List.length_replicate,show n+m=(List.replicate n (Value.int .i64 x)).length+m by simp,List.drop_length_add_append,List.drop_replicate,List.length_replicate,←List.append_assoc,List.replicate_append_replicate,show c-n-m=c-(n+m) by omega]
theorem repN_get {x:Int} {n c j:Nat} (h:j<n):(repN x n c)[j]? =some (.int .i64 x):=by
 unfold repN
 rw[List.getElem?_append_left (by simpa using h),List.getElem?_replicate,if_pos h]
theorem repN_zero (x:Int) (c:Nat):repN x 0 c=List.replicate c (.int .i64 0):=by simp[repN]
theorem repN_full (x:Int) (c:Nat):repN x c c=List.replicate c (.int .i64 x):=by simp[repN]
def RepIs (x:Int) (c:Nat) (w:World) (e:Ending) (w':World):Prop:=∃R,e= .returned (.slice (some ⟨R,0,none⟩) c c)∧w.heap.size≤R∧Row w' R (List.replicate c (.int .i64 x)).toArray 3∧Below w.heap.size w w'
set_option maxRecDepth 100000 in
set_option maxHeartbeats 2000000 in
theorem repeat_one (x:Int) (c b off cap:Nat) (hc:c≤1600) (hc1:1≤c) (w:World) (hb:b<w.heap.size) (hx:w.cell? ⟨b,off,none⟩=some (.int .i64 x)):
  Calls Tryz.prog 60 #[.slice (some ⟨b,off,none⟩) 1 cap,.int .i64 c] w (RepIs x c w):=by
 have mk:=make_ints c (by omega) (by omega)
 have e1:IntKind.u64.wrap (c:Int)=(c:Int):=by rw[IntKind.wrap_u64];omega
 have hsz1:(Tryz.prog.info? 3).map (·.size)=some 1:=by kernel_rfl
 have b1:=(Below.refl w.heap.size w).alloc (Nat.le_refl _) (.cells (Array.replicate c (.int .i64 0)) 3)
 have r1:=Row.new w (Array.replicate c (.int .i64 0)) 3
 have hx1:(w.alloc (.cells (Array.replicate c (.int .i64 0)) 3)).cell? ⟨b,off,none⟩=some (.int .i64 x):=(World.cell?_alloc_lt w _ _ hb).trans hx
 have R1:Hid ((w.alloc (.cells (Array.replicate c (.int .i64 0)) 3)).heap[w.heap.size]? =some (.cells (repN x 0 c).toArray 3 (0,0))):=by show _=_;rw[repN_zero];simpa[Row] using r1
 clear r1
 go_enter Tryz.func60,Tryz.ntmps60
 go_wp2_with fail
 refine (mul_one c (by omega) _).mono ?_
 rintro e w' ⟨rfl,rfl⟩
 go_upto_region 7 with (fail)
 go_wp2_with (refine wpList_copy_splice rfl (.tmp 31) (.tmp 32) 26 26 rfl 3 Tryz.underlying26 hsz1 _ _ _ _ _ _ rfl rfl w.heap.size 0 (repN x 0 c) 3 R1.out [.int .i64 x] ?c1 ?c2 ?c3 ?c4 w.heap.size w b1 (Nat.le_refl _) ?_)
 case c1=>exact (Nat.min_eq_left hc1).symm
 case c2=>
  intro j v hv
  match j,hv with
  |0,hv=>simp at hv;subst hv;simpa using hx
 case c3=>rw[repN_len (Nat.zero_le _)];simpa using hc1
 case c4=>intro v hv;simp at hv;subst hv;rfl
 intro w2 hR2 hb2
 have R2:Hid (Row w2 w.heap.size (repN x 1 c).toArray 3):=by
  have:=hR2.out
  rw[show [Value.int .i64 x]=List.replicate 1 (.int .i64 x) from rfl,repN_splice] at this
  exact this
 clear hR2 R1 b1 hx1 mk
 go_wp2_with fail
 go_loopw[8] (fun i wr=>∃n:Nat,1≤n∧n≤c∧i= .int .i64 n∧Hid (Row wr w.heap.size (repN x n c).toArray 3)∧Below w.heap.size w wr) (fun i _=>c-(intOf i).toNat)
 case atStart=>exact ⟨1,by omega,hc1,rfl,R2,hb2⟩
 case round=>
  clear R2 hb2
  obtain ⟨n,hn1,hnc,rfl,HR,hbr⟩:=hrel
  by_cases hlt:n<c
  ·have hi0:(0:Int)≤(n:Int):=by omega
   have hi1:(n:Int)≤(c:Int):=by omega
   have hne:¬(c=n):=by omega
   have hm:min n (c-n)≤c:=by omega
   have HM:Hid (∀v∈List.replicate (min n (c-n)) (Value.int .i64 x),v.oneCell'=true):=fun v hv=>by rw[(List.mem_replicate.1 hv).2];rfl
   have HC:Hid (∀j v,(List.replicate (min n (c-n)) (Value.int .i64 x))[j]? =some v→wr.drew.cell? ((⟨w.heap.size,0,none⟩:Addr).add j)=some v):=by
    intro j v hv
    rw[List.getElem?_replicate] at hv
    split at hv
    ·rename_i hj
     injection hv with hv
     subst hv
     rw[Addr.add_lit,Nat.zero_add]
     refine (Row.cell HR.out.drew j).trans ?_
     rw[List.getElem?_toArray]
     exact repN_get (by omega)
    ·cases hv
   have HL:Hid ((repN x n c).length=c):=repN_len hnc
   go_wp2_with fail
   go_region_held3 (fun _=>True) (first|trivial) (first|((refine step_copy_splice (by rfl) (.tmp 41) (.tmp 44) 26 26 (by rfl) 3 Tryz.underlying26 hsz1 (some ⟨w.heap.size,n,none⟩) (some ⟨w.heap.size,0,none⟩) (c-n) (c-n) n c (by rfl) (by rfl) w.heap.size n (repN x n c) 3 HR.out.drew (List.replicate (min n (c-n)) (.int .i64 x)) (by simp) (fun _=>⟨rfl,_,rfl,HC.out⟩) (by rw[HL.out];simp;omega) HM.out w.heap.size w hbr.drew (Nat.le_refl _) ?_);intro w3 hR3 hb3))
   have R3:Hid (Row w3 w.heap.size (repN x (n+min n (c-n)) c).toArray 3):=by
    have:=hR3.out
    rw[repN_splice] at this
    exact this
   have hlen:(List.replicate (min n (c-n)) (Value.int .i64 x)).length=min n (c-n):=by simp
   have e2:IntKind.i64.wrap ((n:Int)+((min n (c-n):Nat):Int))=(n:Int)+((min n (c-n):Nat):Int):=IntWalk.i64_in _ (by omega)
   generalize hM:min n (c-n)=mm at*
   have hmm:1≤mm:=by omega
   have hmc:n+mm≤c:=by omega
   have HMM:=Lib.hid hM
   clear hM
   go_wp2_with fail
   go_roundw
   case rel=>exact ⟨n+mm,by omega,hmc,by go_num,R3,hb3⟩
   case measure=>simp[intOf];omega
  ·obtain rfl:n=c:=by omega
   go_wp2_with fail
   go_ret
   exact ⟨w.heap.size,rfl,Nat.le_refl _,by rw[←repN_full];exact HR.out,hbr⟩
set_option maxRecDepth 100000 in
set_option maxHeartbeats 2000000 in
theorem repeat_zero (x:Int) (b off cap:Nat) (w:World):
  Calls Tryz.prog 60 #[.slice (some ⟨b,off,none⟩) 1 cap,.int .i64 0] w (RepIs x 0 w):=by
 have mk:=make_ints 0 (by omega) (by omega)
 have e1:IntKind.u64.wrap 0=0:=by decide
 have hsz1:(Tryz.prog.info? 3).map (·.size)=some 1:=by kernel_rfl
 have b1:=Lib.hid ((Below.refl w.heap.size w).alloc (Nat.le_refl _) (.cells (Array.replicate (0:Int).toNat (.int .i64 0)) 3))
 have r1:=Lib.hid (Row.new w (Array.replicate (0:Int).toNat (.int .i64 0)) 3)
 go_enter Tryz.func60,Tryz.ntmps60
 go_wp2_with fail
 refine (mul_one 0 (by omega) _).mono ?_
 rintro e w' ⟨rfl,rfl⟩
 go_upto_region 7 with (fail)
 go_wp2_with (refine wpList_copy_nothing rfl (.tmp 31) (.tmp 32) 26 26 rfl 3 Tryz.underlying26 hsz1 _ _ _ _ _ _ rfl rfl rfl ?_)
 go_wp2_with fail
 go_loopw[8] (fun i wr=>i= .int .i64 0∧Hid (Row wr w.heap.size (Array.replicate (0:Int).toNat (.int .i64 0)) 3∧Below w.heap.size w wr)) (fun i _=>0)
 case atStart=>exact ⟨rfl,r1.out,b1.out⟩
 case round=>
  obtain ⟨rfl,HR⟩:=hrel
  go_wp2_with fail
  go_ret
  exact ⟨w.heap.size,rfl,Nat.le_refl _,HR.out.1,HR.out.2⟩
theorem repeat_any (x:Int) (c b off cap:Nat) (hc:c≤1600) (w:World) (hb:b<w.heap.size) (hx:w.cell? ⟨b,off,none⟩=some (.int .i64 x)):
  Calls Tryz.prog 60 #[.slice (some ⟨b,off,none⟩) 1 cap,.int .i64 c] w (RepIs x c w):=by
 rcases Nat.eq_zero_or_pos c with rfl|h0
 ·exact repeat_zero x b off cap w
 ·exact repeat_one x c b off cap hc h0 w hb hx
end Go.Proofs.YtckognjamlckcaaGreatDoor
namespace Go.Proofs.YtckognjamlckcaaGreatDoor.Vf
end Go.Proofs.YtckognjamlckcaaGreatDoor.Vf
namespace Go.Proofs.YtckognjamlckcaaGreatDoor
open Go.RowKit Vf
theorem ints_set (l:List Int) (n:Nat) (v:Int):(ints l).set n (.int .i64 v)=ints (l.set n v):=by simp[ints,List.map_set]
section
variable {w w':World} {C T R O:Nat} {vc vn vi:Value} {cells inn:List Int}
end
end Go.Proofs.YtckognjamlckcaaGreatDoor
namespace Go.Proofs.YtckognjamlckcaaGreatDoor
open Go.RowKit Vf
attribute [local go_sem ↓] Go.wp_at_zero Go.wp_at_succ
theorem Sl.flatA {α:Type} {w:World} {B size:Nat} {rel:α→List Value→Prop} {ad:Addr} {l:List α} {f:α→List Value} (h:Sl w B size rel (some ad) l) (hf:∀x cs,rel x cs→cs=f x) (hl:∀x,(f x).length=size):
  ∀j u,((l.map f).flatten)[j]? =some u→w.cell? (ad.add j)=some u:=by
 rcases Nat.eq_zero_or_pos l.length with h0|h0
 ·have:l=[]:=List.eq_nil_of_length_eq_zero h0
  subst this
  intro j u hu
  simp at hu
 ·obtain ⟨b,off,hA,_⟩:=h h0
  injection hA with hA
  subst hA
  exact h.flat hf hl
theorem Sl.none {α:Type} {w:World} {B size:Nat} {rel:α→List Value→Prop} {l:List α} (h:Sl w B size rel none l):l=[]:=by
 rcases Nat.eq_zero_or_pos l.length with h0|h0
 ·exact List.eq_nil_of_length_eq_zero h0
 ·obtain ⟨b,off,hA,_⟩:=h h0
  cases hA
def CloneIs {α:Type} (E:TypeId) (size:Nat) (f:α→List Value) (l:List α) (w:World) (e:Ending) (w':World):Prop:=∃v',e= .returned v'∧w'.ownsRow w.heap.size E size v' l.length (l.map f).flatten∧Below w.heap.size w w'
def intC (x:Int):List Value:=[.int .i64 x]
theorem intC_of (x:Int) (cs:List Value) (h:isInt x cs):cs=intC x:=h.1
theorem intC_len (x:Int):(intC x).length=1:=rfl
theorem intC_flat (l:List Int):(l.map intC).flatten=ints l:=by
 induction l with
 |nil=>rfl
 |cons x l ih=>rw[List.map_cons,List.flatten_cons,ih];rfl
theorem flat_one {α:Type} {f:α→List Value} (hf:∀x,∀u∈f x,u.oneCell'=true) (l:List α):∀u∈(l.map f).flatten,u.oneCell'=true:=by
 intro u hu
 obtain ⟨cs,hcs,hu⟩:=List.mem_flatten.1 hu
 obtain ⟨x,_,rfl⟩:=List.mem_map.1 hcs
 exact hf x u hu
end Go.Proofs.YtckognjamlckcaaGreatDoor
