/-
  slices.Concat of lists of variables; scope.all. A node's variables: the contracts of scope.all, Var and of tompionref15.Vars, Var, Node. A node's variable of a name, a source's node of a name: the contracts of tompionref15.Var, Node and scope.Var, Find. What is right of sources, and what is wrong first with their names: plain.
-/
import Derived.Test.YtdkgkacnjdnpoaaGreatExMem
import Derived.Test.YtdkgkacnjdnpoaaGreatMem
import Derived.Test.YtdkgkacnjdnpoaaGreatRefRight
import Derived.Outline
import Derived.Deep.DeepCutAuto
set_option maxHeartbeats 2000000
set_option maxRecDepth 100000
namespace Go.Proofs.YtdkgkacnjdnpoaaGreat
open Go.RowKit
theorem info_var:(Tryz.prog.info? 103).map (fun i=>(i.zero,i.size,i.bytes))=some (some (.agg #[.string ⟨#[]⟩,.int .i64 0,.slice none 0 0,.int .i64 0,.int .i64 0]),5,64):=by kernel_rfl
theorem isVr_one {w:World} {B:Nat} {x:Vr} {cs:List Value} (h:isVr w B x cs):cs.length=5∧∀u∈cs,u.oneCell'=true:=by
 obtain ⟨A,cap,rfl,_⟩:=h
 refine ⟨rfl,fun u hu=>?_⟩
 simp only[List.mem_cons,List.not_mem_nil,or_false] at hu
 rcases hu with rfl|rfl|rfl|rfl|rfl<;>rfl
theorem grow_var (n:Nat) (w:World) (hn:n≤100000):
  Calls Tryz.prog 106 #[.slice none 0 0,.int .i64 n] w fun e w'=>(∃v,e= .returned v∧w'.ownsRow w.heap.size 103 5 v 0 [])∧Below w.heap.size w w':=by
 obtain ⟨i0,hi0,hz0,hz1,hz2⟩:=info_parts info_var
 rcases Nat.eq_zero_or_pos n with h0|h0
 ·subst h0
  go_enter Tryz.func106,Tryz.ntmps106
  go_wp2_with fail
  go_ret
  exact ⟨⟨_,rfl,by simp,.inl ⟨rfl,rfl⟩⟩,Below.refl _ _⟩
 ·have hp:decide ((0:Int)<(n:Int))=true:=by simpa using h0
  have hg:=grownCap_ge w n 0 103
  have hm:=grownCap_le_maxLen w n 0 103 (by unfold maxLen;omega)
  have hr:=Lib.run_append_nil_zeros (P:=Tryz.prog) w 55 3 55 103 i0 _ .i64 .i64 Tryz.underlying55 Tryz.underlying3 hi0 hz0 n h0 (by omega) (by omega) (by rw[hz2];omega)
  have HR:=Lib.hid hr
  clear hr
  generalize grownCap w n 0 103=gc at*
  have hm':gc≤9223372036854775807:=by unfold maxLen at hm;omega
  have HS:Hid ((Builtin.zeroCells (Value.agg #[.string ⟨#[]⟩,.int .i64 0,.slice none 0 0,.int .i64 0,.int .i64 0]).cells n++Builtin.zeroCells (Value.agg #[.string ⟨#[]⟩,.int .i64 0,.slice none 0 0,.int .i64 0,.int .i64 0]).cells (gc-n)).size=gc*5):=by
   show _=_
   simp[Builtin.zeroCells,Value.cells]
   omega
  generalize Builtin.zeroCells (Value.agg #[.string ⟨#[]⟩,.int .i64 0,.slice none 0 0,.int .i64 0,.int .i64 0]).cells n++Builtin.zeroCells (Value.agg #[.string ⟨#[]⟩,.int .i64 0,.slice none 0 0,.int .i64 0,.int .i64 0]).cells (gc-n)=Z at*
  go_enter Tryz.func106,Tryz.ntmps106
  go_wp2_with (at_builtin;refine Lib.wpList_append_run w rfl _ _ 55 3 rfl _ _ rfl rfl _ _ HR.out ?_)
  go_ret
  exact ⟨⟨_,rfl,by simp,.inr ⟨w.heap.size,gc,Z,rfl,Nat.le_refl _,heap_alloc_new w.drew _,Nat.zero_le _,hm,HS.out,by simp⟩⟩,(Below.refl _ _).drew.alloc (Nat.le_refl _) _⟩
structure Vsl where
 A:Option Addr
 cap:Nat
 l:List Vr
noncomputable def catTo (ss:List Vsl) (k:Nat):List Vr:=((ss.take k).map (·.l)).flatten
theorem catTo_succ {ss:List Vsl} {k:Nat} {s:Vsl} (h:ss[k]? =some s):catTo ss (k+1)=catTo ss k++s.l:=by
 unfold catTo;rw[take_succ_map _ h];simp
theorem catTo_le (ss:List Vsl) (k:Nat):(catTo ss k).length≤(catTo ss ss.length).length:=by
 unfold catTo
 conv=>rhs;rw[List.take_length,←List.take_append_drop k ss]
 rw[List.map_append,List.flatten_append,List.length_append];omega
theorem concat_var (ss:List Vsl) (b B cap:Nat) (w:World) (hl:ss.length≤cap) (hcap:cap≤10) (hlen:(catTo ss ss.length).length≤10000) (hb:b<w.heap.size) (hB:B≤w.heap.size)
  (hrow:∀(k:Nat) (s:Vsl),ss[k]? =some s→w.cell? ⟨b,k,none⟩=some (.slice s.A s.l.length s.cap)) (hss:∀(k:Nat) (s:Vsl),ss[k]? =some s→Vrs w B s.A s.l):
  Calls Tryz.prog 60 #[.slice (some ⟨b,0,none⟩) ss.length cap] w fun e w'=>∃v css,e= .returned v∧w'.ownsRow w.heap.size 103 5 v (catTo ss ss.length).length css.flatten∧Are (isVr w' B) (catTo ss ss.length) css∧Below w.heap.size w w':=by
 obtain ⟨i0,hi0,hz0,hz1,hz2⟩:=info_parts info_var
 have HR:=Lib.hid hrow
 have HS:=Lib.hid hss
 have HC:=Lib.hid (catTo_le ss)
 have HL:=Lib.hid hlen
 have hsl:ss.length≤10:=by omega
 clear hrow hss hlen
 go_enter Tryz.func60,Tryz.ntmps60
 go_wp2_with fail
 go_loop[3,11] (fun t i=>∃k:Nat,k≤ss.length∧i= .int .i64 k∧t= .int .i64 ((catTo ss k).length:Int)) (fun _ i=>ss.length-(intOf i).toNat)
 case atStart=>exact ⟨0,Nat.zero_le _,rfl,rfl⟩
 case round=>
  obtain ⟨k,hk,rfl,rfl⟩:=hrel
  have h1:=HC.out k
  have h2:=HL.out
  have h3:(catTo ss k).length≤10000:=by omega
  clear h1 h2
  by_cases hlt:k<ss.length
  ·have hg:=List.getElem?_eq_getElem hlt
   have c0:=HR.out k _ hg
   have HT:=Lib.hid (catTo_succ hg)
   have h4:(catTo ss k).length+ss[k].l.length≤10000:=by
    have h1:=HC.out (k+1)
    have h2:=HL.out
    rw[HT.out,List.length_append] at h1
    omega
   clear hg
   generalize ss[k]=s at*
   have HT2:Hid ((catTo ss (k+1)).length=(catTo ss k).length+s.l.length):=by show _=_;rw[HT.out,List.length_append]
   clear HT
   generalize (catTo ss k).length=n at*
   have hnn:decide ((n:Int)+(s.l.length:Int)<0)=false:=by simp;omega
   go_wp2_with fail
   go_round
   case rel=>exact ⟨k+1,by omega,by go_num,by rw[HT2.out];go_num⟩
   case measure=>simp[intOf];omega
  ·obtain rfl:k=ss.length:=by omega
   go_wp2_with fail
   refine (grow_var _ _ (by omega)).mono ?_
   rintro e w1 ⟨⟨v1,rfl,ho1⟩,hb1⟩
   have hw1:=hb1.size
   go_wp2_with fail
   go_loopw[6,27] (fun v i wr=>∃(k:Nat) (css:List (List Value)),k≤ss.length∧i= .int .i64 k∧wr.ownsRow w.heap.size 103 5 v (catTo ss k).length css.flatten∧Hid (Are (isVr wr B) (catTo ss k) css)∧Below w.heap.size w wr) (fun _ i _=>ss.length-(intOf i).toNat)
   case atStart=>exact ⟨0,[],Nat.zero_le _,rfl,ho1,Are.nil,hb1⟩
   case round=>
    obtain ⟨k,css,hk,rfl,hown,HA,hbr⟩:=hrel
    have hszr:=hbr.size
    by_cases hlt:k<ss.length
    ·have hg:=List.getElem?_eq_getElem hlt
     have c0:wr.cell? ⟨b,k,none⟩=_:=(hbr.cell (p:=⟨b,k,none⟩) hb).trans (HR.out k _ hg)
     have hs:=vrs_keep (HS.out k _ hg) (keeps_of (hbr.mono hB)) (Nat.le_refl _)
     have HSS:=Lib.hid hs
     have HT:=Lib.hid (catTo_succ hg)
     have h4:(catTo ss k).length+ss[k].l.length≤10000:=by
      have h1:=HC.out (k+1)
      have h2:=HL.out
      rw[HT.out,List.length_append] at h1
      omega
     clear hg hs
     generalize ss[k]=s at*
     go_wp2_with (at_builtin;refine wpList_append_sl rfl _ _ 55 rfl w.heap.size 103 i0 _ 5 64 Tryz.underlying55 hi0 hz0 hz1 hz2 rfl (by decide) _ _ _ rfl hown s.A s.l s.cap rfl HSS.out (fun _ _ h=>isVr_one h) ?c3 ?c4 hszr ?_)
     case c3=>unfold maxLen;omega
     case c4=>omega
     intro v' w3 css' hown' hare' hb3 _
     have hown4:w3.ownsRow w.heap.size 103 5 v' (catTo ss (k+1)).length (css++css').flatten:=by
      rw[HT.out,List.length_append,List.flatten_append];exact hown'
     have hb4:=hbr.trans hb3
     have HA4:Hid (Are (isVr w3 B) (catTo ss (k+1)) (css++css')):=by
      show Are _ _ _
      rw[HT.out]
      exact (HA.out.append hare').mono (fun x _ cs h=>isVr_keep (keeps_of (hb3.mono hB)) (Nat.le_refl _) h)
     clear hown' hare' hown HA
     go_wp2_with fail
     go_roundw
     case rel=>exact ⟨k+1,_,by omega,by go_num,hown4,HA4,hb4⟩
     case measure=>simp[intOf];omega
    ·obtain rfl:k=ss.length:=by omega
     go_wp2_with fail
     go_ret
     exact ⟨_,css,rfl,hown,HA.out,hbr⟩
def idxZ (o:Option Nat):Int:=match o with
 |some k=>(k:Int)
 |none=> -1
def idxOf (l:List ByteArray) (nm:ByteArray):Int:=idxZ (l.findIdx? (fun x=>decide (x=nm)))
theorem idx_at {l:List ByteArray} {nm:ByteArray} {k:Nat} (h:∀j,j<k→∀x,l[j]? =some x→x≠nm) (hk:l[k]? =some nm):idxOf l nm=k:=by
 have:l.findIdx? (fun x=>decide (x=nm))=some k:=by
  rw[List.findIdx?_eq_some_iff_getElem]
  obtain ⟨hl,he⟩:=List.getElem?_eq_some_iff.1 hk
  refine ⟨hl,by simp[he],fun j hj=>?_⟩
  have:=h j hj _ (List.getElem?_eq_getElem (by omega))
  simpa using this
 rw[idxOf,this];rfl
theorem idx_none {l:List ByteArray} {nm:ByteArray} (h:∀j,j<l.length→∀x,l[j]? =some x→x≠nm):idxOf l nm= -1:=by
 have:l.findIdx? (fun x=>decide (x=nm))=none:=by
  rw[List.findIdx?_eq_none_iff]
  intro x hx
  obtain ⟨j,hj⟩:=List.getElem?_of_mem hx
  have:=h j (List.getElem?_eq_some_iff.1 hj).1 x hj
  simpa using this
 rw[idxOf,this];rfl
theorem idx_cases (l:List ByteArray) (nm:ByteArray):(∃k:Nat,idxOf l nm=k∧l[k]? =some nm∧∀j,j<k→∀x,l[j]? =some x→x≠nm)∨(idxOf l nm= -1∧nm∉l):=by
 cases h:l.findIdx? (fun x=>decide (x=nm)) with
 |none=>
  refine .inr ⟨by rw[idxOf,h];rfl,fun hm=>?_⟩
  rw[List.findIdx?_eq_none_iff] at h
  have:=h nm hm
  simp at this
 |some k=>
  refine .inl ⟨k,by rw[idxOf,h];rfl,?_⟩
  obtain ⟨hl,he,hj⟩:=List.findIdx?_eq_some_iff_getElem.1 h
  refine ⟨by rw[List.getElem?_eq_getElem hl];congr 1;simpa using he,fun j hj' x hx=>?_⟩
  obtain ⟨hl',rfl⟩:=List.getElem?_eq_some_iff.1 hx
  have:=hj j hj'
  simpa using this
theorem idx_mem {l:List ByteArray} {nm:ByteArray}:0≤idxOf l nm↔nm∈l:=by
 rcases idx_cases l nm with ⟨k,h1,h2,_⟩|⟨h1,h2⟩
 ·rw[h1];exact ⟨fun _=>List.mem_of_getElem? h2,fun _=>by omega⟩
 ·rw[h1];exact ⟨fun h=>absurd h (by decide),fun h=>absurd h h2⟩
def varIdx (n:Nd) (nm:ByteArray):Int:=idxOf ((vrs n).map (·.name)) nm
structure VrSm (x:Vr):Prop where
 name:x.name.size≤30
 clock:x.clock.length≤6
 names:∀c∈x.clock,c.name.size≤30
structure EqnSm (q:Eqn):Prop where
 left:q.left.length≤12
 names:∀x∈q.left,x.size≤30
 right:Small q.right
structure NdSm (n:Nd):Prop where
 name:n.name.size≤30
 ins:n.ins.length≤50
 outs:n.outs.length≤50
 vars:n.vars.length≤50
 eqs:n.eqs.length≤60
 all:∀v∈vrs n,VrSm v
 eq:∀q∈n.eqs,EqnSm q
theorem NdSm.len {n:Nd} (h:NdSm n):(vrs n).length≤150:=by
 have:=h.ins;have:=h.outs;have:=h.vars
 simp only[vrs,List.length_append];omega
section
variable {W:World} {b:Nat}
abbrev ndArr (n:Nd) (a:NdA):Array Value:= #[.string n.name,.slice a.ai n.ins.length a.ci,.slice a.ao n.outs.length a.co,.slice a.av n.vars.length a.cv,.slice a.aq n.eqs.length a.cq,.int .i64 n.line,.int .i64 n.col]
theorem Row.nd {n:Nd} {a:NdA} {t:TypeId} (h:Row W b (ndArr n a) t):W.cell? ⟨b,0,none⟩=some (.string n.name)∧W.cell? ⟨b,1,none⟩=some (.slice a.ai n.ins.length a.ci)∧W.cell? ⟨b,2,none⟩=some (.slice a.ao n.outs.length a.co)∧
  W.cell? ⟨b,3,none⟩=some (.slice a.av n.vars.length a.cv)∧W.cell? ⟨b,4,none⟩=some (.slice a.aq n.eqs.length a.cq)∧W.cell? ⟨b,5,none⟩=some (.int .i64 n.line)∧W.cell? ⟨b,6,none⟩=some (.int .i64 n.col):=
 ⟨(h.cell 0).trans rfl,(h.cell 1).trans rfl,(h.cell 2).trans rfl,(h.cell 3).trans rfl,(h.cell 4).trans rfl,(h.cell 5).trans rfl,(h.cell 6).trans rfl⟩
abbrev vrArr (x:Vr) (A:Option Addr) (cap:Nat):Array Value:= #[.string x.name,.int .i64 x.ty,.slice A x.clock.length cap,.int .i64 x.line,.int .i64 x.col]
abbrev vrV (x:Vr) (A:Option Addr) (cap:Nat):Value:= .agg #[.string x.name,.int .i64 x.ty,.slice A x.clock.length cap,.int .i64 x.line,.int .i64 x.col]
theorem Row.vr {x:Vr} {A:Option Addr} {cap:Nat} {t:TypeId} (h:Row W b (vrArr x A cap) t):W.cell? ⟨b,0,none⟩=some (.string x.name)∧W.cell? ⟨b,1,none⟩=some (.int .i64 x.ty)∧W.cell? ⟨b,2,none⟩=some (.slice A x.clock.length cap)∧
  W.cell? ⟨b,3,none⟩=some (.int .i64 x.line)∧W.cell? ⟨b,4,none⟩=some (.int .i64 x.col):=
 ⟨(h.cell 0).trans rfl,(h.cell 1).trans rfl,(h.cell 2).trans rfl,(h.cell 3).trans rfl,(h.cell 4).trans rfl⟩
theorem Row.five {x0 x1 x2 x3 x4:Value} {t:TypeId} (h:Row W b #[x0,x1,x2,x3,x4] t):(W.cell? ⟨b,0,none⟩=some x0∧W.cell? ⟨b,1,none⟩=some x1∧W.cell? ⟨b,2,none⟩=some x2∧W.cell? ⟨b,3,none⟩=some x3∧W.cell? ⟨b,4,none⟩=some x4)∧
  (W.frozen? ⟨b,0,none⟩=false∧W.frozen? ⟨b,1,none⟩=false∧W.frozen? ⟨b,2,none⟩=false∧W.frozen? ⟨b,3,none⟩=false∧W.frozen? ⟨b,4,none⟩=false):=
 ⟨⟨(h.cell 0).trans rfl,(h.cell 1).trans rfl,(h.cell 2).trans rfl,(h.cell 3).trans rfl,(h.cell 4).trans rfl⟩,h.frozen 0,h.frozen 1,h.frozen 2,h.frozen 3,h.frozen 4⟩
end
def VrsOwn (B:Nat) (w w':World) (l:List Vr) (v:Value):Prop:=∃css,w'.ownsRow w.heap.size 103 5 v l.length css.flatten∧Are (isVr w' B) l css
theorem VrsOwn.sl {B:Nat} {w w':World} {l:List Vr} {v:Value} (h:VrsOwn B w w' l v):∃A cap,v= .slice A l.length cap∧l.length≤cap∧cap≤maxLen∧Sl w' w'.heap.size 5 (isVr w' B) A l:=by
 obtain ⟨css,h1,h2⟩:=h
 obtain ⟨⟨A,cap,e1,e2,e3,e4⟩,_⟩:=own_sl h1 h2 (h2.all (fun _ _ _ h=>(isVr_one h).1)) (by decide)
 exact ⟨A,cap,e1,e2,e3,e4⟩
theorem all_any (B:Nat) (n:Nd) (a:NdA) (w:World) (hB:B≤w.heap.size) (h:NdAt w B n a) (hl:(vrs n).length≤10000):
  Calls Tryz.prog 73 #[ndV n a] w fun e w'=>(∃v,e= .returned v∧VrsOwn B w w' (vrs n) v)∧Below w.heap.size w w':=by
 have hcat:catTo [⟨a.ai,a.ci,n.ins⟩,⟨a.ao,a.co,n.outs⟩,⟨a.av,a.cv,n.vars⟩] 3=vrs n:=by simp[catTo,vrs]
 have HC:=Lib.hid hcat
 have H:=Lib.hid h
 clear h hcat
 go_enter Tryz.func73,Tryz.ntmps73
 go_wp2_with fail
 have hb1:Below w.heap.size w ((w.alloc (.cells (ndArr n a) 58)).alloc (.cells #[.slice a.ai n.ins.length a.ci,.slice a.ao n.outs.length a.co,.slice a.av n.vars.length a.cv] 55)):=((Below.refl _ _).alloc (Nat.le_refl _) _).alloc (by simp) _
 refine (concat_var [⟨a.ai,a.ci,n.ins⟩,⟨a.ao,a.co,n.outs⟩,⟨a.av,a.cv,n.vars⟩] (w.heap.size+1) B 3 _ (Nat.le_refl _) (by decide) (by rw[show [(⟨a.ai,a.ci,n.ins⟩:Vsl),⟨a.ao,a.co,n.outs⟩,⟨a.av,a.cv,n.vars⟩].length=3 from rfl,HC.out];exact hl) (by simp) (by simp;omega) ?_ ?_).mono ?_
 ·intro k s hs
  match k,hs with
  |0,hs=>simp at hs;subst hs;simp
  |1,hs=>simp at hs;subst hs;simp
  |2,hs=>simp at hs;subst hs;simp
 ·intro k s hs
  match k,hs with
  |0,hs=>simp at hs;subst hs;exact vrs_keep H.out.si (keeps_of (hb1.mono hB)) (Nat.le_refl _)
  |1,hs=>simp at hs;subst hs;exact vrs_keep H.out.so (keeps_of (hb1.mono hB)) (Nat.le_refl _)
  |2,hs=>simp at hs;subst hs;exact vrs_keep H.out.sv (keeps_of (hb1.mono hB)) (Nat.le_refl _)
 rintro e w2 ⟨v,css,rfl,ho,ha,hb2⟩
 rw[show [(⟨a.ai,a.ci,n.ins⟩:Vsl),⟨a.ao,a.co,n.outs⟩,⟨a.av,a.cv,n.vars⟩].length=3 from rfl,HC.out] at ho ha
 go_wp2_with fail
 go_ret
 exact ⟨⟨v,rfl,css,own_base ho (by simp;omega),ha⟩,hb1.trans (hb2.mono (by simp;omega))⟩
theorem ba_inj {a b:ByteArray} (h:a.toList=b.toList):a=b:=WideShapes.bytes_inj (by rw[←ByteArray.toList_eq,←ByteArray.toList_eq];exact h)
theorem beq_yes {a b:ByteArray} (h:a=b):(a.toList==b.toList)=true:=by rw[h];simp
theorem beq_no {a b:ByteArray} (h:a≠b):(a.toList==b.toList)=false:=by rw[beq_eq_false_iff_ne];exact fun g=>h (ba_inj g)
theorem map_get {α β:Type} {l:List α} {k:Nat} {x:α} (f:α→β) (h:l[k]? =some x):(l.map f)[k]? =some (f x):=by rw[List.getElem?_map,h];rfl
theorem map_upto {α β:Type} {l:List α} {k:Nat} {f:α→β} {P:β→Prop} (h:∀j,j<k→∀x,l[j]? =some x→P (f x)):∀j,j<k→∀y,(l.map f)[j]? =some y→P y:=fun j hj y hy=>by
 rw[List.getElem?_map,Option.map_eq_some_iff] at hy
 obtain ⟨x,h1,rfl⟩:=hy
 exact h j hj x h1
theorem step_upto {α:Type} {l:List α} {k:Nat} {x:α} {P:α→Prop} (h:∀j,j<k→∀y,l[j]? =some y→P y) (hk:l[k]? =some x) (hx:P x):∀j,j<k+1→∀y,l[j]? =some y→P y:=
 upto_succ h (fun y hy=>by rw[hk] at hy;injection hy with hy;rw[←hy];exact hx)
abbrev vr0:Vr:=⟨⟨#[]⟩,0,[],0,0⟩
abbrev srcV (s:List Nd) (A:Option Addr) (cap:Nat):Value:= .agg #[.slice A s.length cap]
def VarRes (n:Nd) (nm:ByteArray) (w:World) (e:Ending) (w':World):Prop:=
 ((∃(k:Nat) (x:Vr) (A:Option Addr) (cap:Nat),varIdx n nm=k∧(vrs n)[k]? =some x∧e= .returned (.tuple #[vrV x A cap,.bool true])∧VrOk x∧x.clock.length≤cap∧cap≤maxLen∧Sl w' w.heap.size 2 isLit A x.clock)∨
  (varIdx n nm= -1∧e= .returned (.tuple #[vrV vr0 none 0,.bool false])))∧Below w.heap.size w w'
theorem svar_any (n:Nd) (a:NdA) (nm:ByteArray) (w:World) (h:NdAt w w.heap.size n a) (hl:(vrs n).length≤10000):
  Calls Tryz.prog 43 #[ndV n a,.string nm] w (VarRes n nm w):=by
 have b1:Below w.heap.size w ((w.alloc (.cells (ndArr n a) 58)).alloc (.cells (vrArr vr0 none 0) 103)):=((Below.refl _ _).alloc (Nat.le_refl _) _).alloc (by simp) _
 have r1:=rowNew2 w (.cells (ndArr n a) 58) (vrArr vr0 none 0) 103
 have H:=Lib.hid (h.below b1)
 have HL:=Lib.hid hl
 clear h hl
 go_enter Tryz.func43,Tryz.ntmps43
 go_wp2_with fail
 refine (all_any w.heap.size n a _ (by simp;omega) H.out HL.out).mono ?_
 rintro e w2 ⟨⟨v,rfl,ho⟩,hb2⟩
 obtain ⟨A,cap,rfl,hl1,hl2,hs⟩:=ho.sl
 have hB:Below w.heap.size w w2:=b1.trans (hb2.mono (by simp;omega))
 have r2:=r1.below hb2 (by simp)
 have hl3:cap≤9223372036854775807:=by unfold maxLen at hl2;omega
 have HS:=Lib.hid hs
 have hl4:=HL.out
 have hsz2:=hB.size
 clear ho hs hb2 r1 b1 H
 have HV:Hid (varIdx n nm=idxOf ((vrs n).map (·.name)) nm):=rfl
 have HW:∃L,L=vrs n∧Hid (∀(k:Nat) x,L[k]? =some x→(vrs n)[k]? =some x):=⟨_,rfl,fun _ _ h=>h⟩
 have HV:Hid (varIdx n nm=idxOf ((vrs n).map (·.name)) nm):=rfl
 obtain ⟨l,hll,HW⟩:=HW
 rw[←hll] at hl1 hl4 HV HS⊢
 clear hll
 go_wp2_with fail
 go_loopw[11] (fun i wr=>∃k:Nat,k≤l.length∧i= .int .i64 k∧Hid (∀j,j<k→∀x,l[j]? =some x→x.name≠nm)∧Below w2.heap.size w2 wr) (fun i _=>l.length-(intOf i).toNat)
 case atStart=>exact ⟨0,Nat.zero_le _,rfl,fun j h=>absurd h (by omega),Below.refl _ _⟩
 case round=>
  obtain ⟨k,hk,rfl,HN,hbr⟩:=hrel
  have rr:=r2.below hbr r2.lt
  have hszr:=hbr.size
  have hlr:=rr.lt
  obtain ⟨⟨z0,z1,z2,z3,z4⟩,f0,f1,f2,f3,f4⟩:=rr.five
  have hB3:=hB.trans (hbr.mono hsz2)
  by_cases hlt:k<l.length
  ·obtain ⟨b,off,x,A',cap',rfl,hb,hx,ok,h1,h2,h3,c0,c1,c2,c3,c4⟩:=(vrs_keep2 HS.out hbr hsz2).vr hlt
   have HX:=Lib.hid hx
   have H3:=Lib.hid h3
   clear hx h3
   by_cases e:x.name=nm
   ·have e1:=beq_yes e
    have HF:=Lib.hid (show varIdx n nm=k by rw[HV.out];exact idx_at (map_upto (P:=(·≠nm)) HN.out) (by rw[map_get _ HX.out,e]))
    clear e
    go_wp2_with fail
    have bb:Below w.heap.size wr ((((((wr.setCell ⟨w.heap.size+1,0,none⟩ (.string x.name)).setCell ⟨w.heap.size+1,1,none⟩ (.int .i64 x.ty)).setCell ⟨w.heap.size+1,2,none⟩ (.slice A' x.clock.length cap')).setCell ⟨w.heap.size+1,3,none⟩ (.int .i64 x.line)).setCell ⟨w.heap.size+1,4,none⟩ (.int .i64 x.col)).alloc (.cells (vrArr x A' cap') 103)):=by
     refine Below.alloc ?_ (by simp[World.setCell];omega) _
     repeat (first|exact Below.refl _ _|refine Below.setCell ?_ (by simp) _)
    exact bodyPost_ret (v:= .tuple #[vrV x A' cap',.bool true]) (res2 rfl Tryz.underlying103 rfl (by kernel_rfl) rfl rfl ((rr.set5 _ _ _ _ _).alloc _)) rfl ⟨.inl ⟨k,x,A',cap',HF.out,HW.out k x HX.out,rfl,ok,h1,h2,H3.out.below bb⟩,hB3.trans bb⟩
   ·have HN':=Lib.hid (step_upto (P:=fun x=>x.name≠nm) HN.out HX.out e)
    have e1:=beq_no e
    clear e
    go_wp2_with fail
    go_roundw
    case rel=>exact ⟨k+1,by omega,by go_num,HN',hbr.alloc hszr _⟩
    case measure=>simp[intOf];omega
  ·obtain rfl:k=l.length:=by omega
   have HF:=Lib.hid (show varIdx n nm= -1 by rw[HV.out];exact idx_none (by rw[List.length_map];exact map_upto (P:=(·≠nm)) HN.out))
   go_wp2_with fail
   refine bodyPost_ret (v:= .tuple #[vrV vr0 none 0,.bool false]) (res2 rfl Tryz.underlying103 rfl (by kernel_rfl) rfl rfl (rr.set5 _ _ _ _ _)) rfl ⟨.inr ⟨HF.out,rfl⟩,?_⟩
   repeat (first|exact hB3|refine Below.setCell ?_ (by simp) _)
open Nm
def fstl:List Ft→Ft
 | []=>ft0
 |f::l=>if f.err=0 then fstl l else f
theorem fstl_cons0 {f:Ft} {l:List Ft} (h:f.err=0):fstl (f::l)=fstl l:=if_pos h
theorem fstl_cons1 {f:Ft} {l:List Ft} (h:f.err≠0):fstl (f::l)=f:=if_neg h
theorem fstl_none {l:List Ft} (h:∀f∈l,f.err=0):fstl l=ft0:=by
 induction l with
 |nil=>rfl
 |cons f l ih=>rw[fstl_cons0 (h f (by simp))];exact ih fun g hg=>h g (by simp[hg])
theorem fstl_append (l m:List Ft):fstl (l++m)=if (fstl l).err=0 then fstl m else fstl l:=by
 induction l with
 |nil=>rfl
 |cons f l ih=>
  by_cases h:f.err=0
  ·rw[List.cons_append,fstl_cons0 h,fstl_cons0 h,ih]
  ·rw[List.cons_append,fstl_cons1 h,fstl_cons1 h,if_neg h]
theorem fstl_ok {l:List Ft} (h:(fstl l).err=0):∀f∈l,f.err=0:=by
 induction l with
 |nil=>intro f hf;cases hf
 |cons g l ih=>
  by_cases hg:g.err=0
  ·rw[fstl_cons0 hg] at h
   intro f hf
   rcases List.mem_cons.1 hf with rfl|hf
   ·exact hg
   ·exact ih h f hf
  ·rw[fstl_cons1 hg] at h;exact absurd h hg
theorem fstl_zero {l:List Ft} (h:(fstl l).err=0):fstl l=ft0:=fstl_none (fstl_ok h)
theorem fstl_stop {l:List Ft} {k:Nat} {f:Ft} (h:∀j,j<k→∀g,l[j]? =some g→g.err=0) (hf:l[k]? =some f) (hne:f.err≠0):fstl l=f:=by
 induction l generalizing k with
 |nil=>simp at hf
 |cons g l ih=>
  cases k with
  |zero=>simp at hf;subst hf;exact fstl_cons1 hne
  |succ k=>
   rw[fstl_cons0 (h 0 (by omega) g rfl)]
   exact ih (k:=k) (fun j hj g' hg'=>h (j+1) (by omega) g' (by simpa using hg')) (by simpa using hf)
theorem fstl_flatten (L:List (List Ft)):fstl L.flatten=fstl (L.map fstl):=by
 induction L with
 |nil=>rfl
 |cons l L ih=>
  rw[List.flatten_cons,List.map_cons,fstl_append]
  by_cases h:(fstl l).err=0
  ·rw[if_pos h,fstl_cons0 h,ih]
  ·rw[if_neg h,fstl_cons1 h]
def fstL {α:Type} (f:Nat→α→Ft) (l:List α):Ft:=fstl (l.mapIdx f)
section
variable {α:Type} {f g:Nat→α→Ft} {l:List α} {k:Nat} {x:α}
theorem fstL_stop (h:∀j,j<k→∀y,l[j]? =some y→(f j y).err=0) (hx:l[k]? =some x) (hne:(f k x).err≠0):fstL f l=f k x:=by
 refine fstl_stop (k:=k) ?_ (by rw[List.getElem?_mapIdx,hx];rfl) hne
 intro j hj g hg
 rw[List.getElem?_mapIdx,Option.map_eq_some_iff] at hg
 obtain ⟨y,hy,rfl⟩:=hg
 exact h j hj y hy
theorem fstL_end (h:∀j,j<l.length→∀y,l[j]? =some y→(f j y).err=0):fstL f l=ft0:=by
 refine fstl_none fun g hg=>?_
 obtain ⟨j,hj⟩:=List.getElem?_of_mem hg
 rw[List.getElem?_mapIdx,Option.map_eq_some_iff] at hj
 obtain ⟨y,hy,rfl⟩:=hj
 exact h j (List.getElem?_eq_some_iff.1 hy).1 y hy
theorem fstL_ok (h:(fstL f l).err=0):∀(j:Nat) y,l[j]? =some y→(f j y).err=0:=fun j y hy=>
 fstl_ok h _ (List.mem_of_getElem? (i:=j) (by rw[List.getElem?_mapIdx,hy];rfl))
theorem fstL_zero (h:(fstL f l).err=0):fstL f l=ft0:=fstl_zero h
theorem step_uptoI {P:Nat→α→Prop} (h:∀j,j<k→∀y,l[j]? =some y→P j y) (hk:l[k]? =some x) (hx:P k x):∀j,j<k+1→∀y,l[j]? =some y→P j y:=
 upto_succ h (fun y hy=>by rw[hk] at hy;injection hy with hy;rw[←hy];exact hx)
end
def ft2 (a b:Ft):Ft:=if a.err=0 then b else a
theorem ft2_0 {a b:Ft} (h:a.err=0):ft2 a b=b:=if_pos h
theorem ft2_1 {a b:Ft} (h:a.err≠0):ft2 a b=a:=if_neg h
theorem ft2_ok {a b:Ft} (h:(ft2 a b).err=0):a.err=0∧b.err=0:=by
 by_cases ha:a.err=0
 ·rw[ft2_0 ha] at h;exact ⟨ha,h⟩
 ·rw[ft2_1 ha] at h;exact absurd h ha
def VrRt (x:Vr):Prop:=(∀c∈x.clock,nameB c.name.toList=true)∧nameB x.name.toList=true∧(x.ty=1∨x.ty=2)∧x.clock.length≤4
def VrsRt (l:List Vr) (lo hi:Int):Prop:=(∀v∈l,VrRt v)∧lo≤l.length∧l.length≤hi
def EqnRt (q:Eqn):Prop:=(∀s∈q.left,nameB s.toList=true)∧1≤q.left.length∧q.left.length≤8∧exRight q.right=true
def NdRt (n:Nd):Prop:=(∀q∈n.eqs,EqnRt q)∧nameB n.name.toList=true∧1≤n.eqs.length∧n.eqs.length≤48∧VrsRt n.ins 1 8∧VrsRt n.outs 1 8∧VrsRt n.vars 0 40
def SrcRt (s:List Nd):Prop:=(∀n∈s,NdRt n)∧1≤s.length∧s.length≤16
abbrev nms (l:List Vr):List ByteArray:=l.map Vr.name
def lefts (l:List Eqn):List ByteArray:=(l.map Eqn.left).flatten
open Classical in
noncomputable def nameF (s:List Nd) (i:Nat) (n:Nd):Ft:=if n.name∈(s.map Nd.name).take i then ⟨23,n.line,n.col⟩ else ft0
open Classical in
noncomputable def varF (n:Nd) (i:Nat) (v:Vr):Ft:=
 if v.name∈(nms (vrs n)).take i then ⟨23,v.line,v.col⟩ else if i<n.ins.length+n.outs.length∧0<v.clock.length then ⟨30,v.line,v.col⟩ else ft0
open Classical in
noncomputable def condF (n:Nd) (v:Vr) (_:Nat) (c:Lt):Ft:=if c.name∉nms (vrs n) then ⟨24,v.line,v.col⟩ else ft0
noncomputable def clkF (n:Nd) (_:Nat) (v:Vr):Ft:=fstL (condF n v) v.clock
noncomputable def variablesF (n:Nd):Ft:=ft2 (fstL (varF n) (vrs n)) (fstL (clkF n) n.vars)
open Classical in
noncomputable def leftNF (n:Nd) (met:List ByteArray) (q:Eqn) (k:Nat) (nm:ByteArray):Ft:=
 if nm∉nms (vrs n) then ⟨24,q.line,q.col⟩ else if nm∈met++q.left.take k then ⟨23,q.line,q.col⟩ else ft0
open Classical in
noncomputable def countF (q:Eqn):Ft:=if 1<q.left.length∧q.right.op≠4 then ⟨25,q.line,q.col⟩ else ft0
noncomputable def leftF (n:Nd) (met:List ByteArray) (q:Eqn):Ft:=ft2 (fstL (leftNF n met q) q.left) (countF q)
def nodeAt (s:List Nd) (nm:ByteArray):Option Nd:=s.find? (fun m=>decide (m.name=nm))
open Classical in
noncomputable def oneF (s:List Nd) (n:Nd) (outs:Int) (e:Ex):Ft:=
 if namesB e.op=true then (if e.name∉nms (vrs n) then ⟨24,e.line,e.col⟩ else ft0)
 else if e.op=4 then (match nodeAt s e.name with
  |none=>⟨24,e.line,e.col⟩
  |some m=>if m.ins.length≠e.args.length∨(m.outs.length:Int)≠outs then ⟨25,e.line,e.col⟩ else ft0)
 else ft0
noncomputable def subF (s:List Nd) (n:Nd):Ex→Ft:=Ex.para fun e fs=>ft2 (oneF s n 1 e) (fstl fs)
noncomputable def exprF (s:List Nd) (n:Nd) (outs:Int) (e:Ex):Ft:=ft2 (oneF s n outs e) (fstL (fun _ x=>subF s n x) e.args)
theorem mapIdx_const {α β:Type} (f:α→β) (l:List α):l.mapIdx (fun _ x=>f x)=l.map f:=by
 refine List.ext_getElem? fun j=>?_
 rw[List.getElem?_mapIdx,List.getElem?_map]
theorem subF_eq (s:List Nd) (n:Nd) (e:Ex):subF s n e=exprF s n 1 e:=by
 unfold exprF fstL
 rw[mapIdx_const]
 exact Ex.para_eq _ e
noncomputable def stepF (s:List Nd) (n:Nd) (outs:Int) (i:Nat) (e:Ex):Ft:=oneF s n (if i=0 then outs else 1) e
theorem subF_list (s:List Nd) (n:Nd) (e:Ex):fstl ((exList e).map (oneF s n 1))=subF s n e:=by
 induction e using Ex.ind with
 |h e ih=>
  rw[exList_eq,List.map_cons,subF_eq]
  unfold exprF fstL
  rw[mapIdx_const,List.map_flatten,List.map_map]
  have:fstl ((e.args.map (List.map (oneF s n 1) ∘ exList)).flatten)=fstl (e.args.map (subF s n)):=by
   rw[fstl_flatten,List.map_map]
   congr 1
   exact List.map_congr_left fun x hx=>ih x hx
  show (if _ then _ else _)=ft2 _ _
  rw[this]
  rfl
theorem exprF_list (s:List Nd) (n:Nd) (outs:Int) (e:Ex):fstL (stepF s n outs) (exList e)=exprF s n outs e:=by
 unfold fstL
 rw[exList_eq,List.mapIdx_cons]
 have h1:(e.args.map exList).flatten.mapIdx (fun i=>stepF s n outs (i+1))=(e.args.map exList).flatten.map (oneF s n 1):=by
  have:(fun i=>stepF s n outs (i+1))=fun _ x=>oneF s n 1 x:=by funext i x;simp[stepF]
  rw[this,mapIdx_const]
 have h2:fstl ((e.args.map exList).flatten.map (oneF s n 1))=fstl (e.args.map (subF s n)):=by
  rw[List.map_flatten,List.map_map,fstl_flatten,List.map_map]
  congr 1
  exact List.map_congr_left fun x _=>subF_list s n x
 rw[h1]
 unfold exprF fstL
 rw[mapIdx_const]
 show (if _ then _ else _)=ft2 _ _
 rw[h2]
 rfl
def metTo (n:Nd) (i:Nat):List ByteArray:=nms n.ins++lefts (n.eqs.take i)
noncomputable def eqnF (s:List Nd) (n:Nd) (i:Nat) (q:Eqn):Ft:=ft2 (leftF n (metTo n i) q) (exprF s n q.left.length q.right)
open Classical in
noncomputable def defF (n:Nd) (_:Nat) (v:Vr):Ft:=if v.name∉metTo n n.eqs.length then ⟨26,v.line,v.col⟩ else ft0
noncomputable def equationsF (s:List Nd) (n:Nd):Ft:=ft2 (fstL (eqnF s n) n.eqs) (fstL (defF n) (n.outs++n.vars))
noncomputable def nodeF (s:List Nd) (_:Nat) (n:Nd):Ft:=ft2 (variablesF n) (equationsF s n)
abbrev mainNm:ByteArray:=⟨#[109,97,105,110]⟩
open Classical in
noncomputable def mainF (s:List Nd):Ft:=if mainNm∉s.map Nd.name then ⟨27,0,0⟩ else ft0
open Classical in
noncomputable def scopeF (s:List Nd):Ft:=if ¬SrcRt s then ⟨2,0,0⟩ else ft2 (fstL (nameF s) s) (ft2 (fstL (nodeF s) s) (mainF s))
theorem var_mem {n:Nd} {nm:ByteArray}:0≤varIdx n nm↔nm∈nms (vrs n):=idx_mem
theorem var_neg {n:Nd} {nm:ByteArray}:varIdx n nm<0↔nm∉nms (vrs n):=by rw[←var_mem];omega
def DefAt (n:Nd) (nm:ByteArray) (i k:Nat):Prop:=∃q,n.eqs[i]? =some q∧q.left[k]? =some nm∧(∀j,j<i→∀q',n.eqs[j]? =some q'→nm∉q'.left)∧∀j,j<k→∀x,q.left[j]? =some x→x≠nm
def NoDef (n:Nd) (nm:ByteArray):Prop:=∀q∈n.eqs,nm∉q.left
theorem mem_take {α:Type} {l:List α} {i:Nat} {x:α}:x∈l.take i↔∃j,j<i∧l[j]? =some x:=by
 constructor
 ·intro h
  obtain ⟨j,hj⟩:=List.getElem?_of_mem h
  rw[List.getElem?_take] at hj
  split at hj
  ·exact ⟨j,‹_›,hj⟩
  ·cases hj
 ·rintro ⟨j,hj,h⟩
  exact List.mem_of_getElem? (i:=j) (by rw[List.getElem?_take,if_pos hj];exact h)
end Go.Proofs.YtdkgkacnjdnpoaaGreat
