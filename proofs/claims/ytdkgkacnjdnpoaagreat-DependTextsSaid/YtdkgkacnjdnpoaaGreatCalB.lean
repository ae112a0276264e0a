/-
  A window of a row of the call's own (what is left of a slice behind s[1:]), and append of one cell onto it. A slice of names of the call's own, wherever in its row it begins (what is left behind s[1:]), and append of names onto it; slices.Clone. The map from each node to what it calls, and all on which a name hangs: the contracts of calls.all and calls.reach. All on which a name hangs, found from hand to hand: the contract of calls.reach.
-/
import Derived.Test.YtdkgkacnjdnpoaaGreatZz
import Derived.Test.YtdkgkacnjdnpoaaGreatMem
import Derived.ArgAppend
import Derived.Deep.RegionLaw
import Derived.Test.YtdkgkacnjdnpoaaGreatSrt
import Derived.Test.YtdkgkacnjdnpoaaGreatRepL
import Derived.Test.YtdkgkacnjdnpoaaGreatStzP
set_option maxHeartbeats 1000000
set_option maxRecDepth 100000
namespace Go.Proofs.YtdkgkacnjdnpoaaGreat
open Go.RowKit
def Win (w:World) (base:Nat) (e:TypeId) (g off n cap:Nat) (xs:List Value):Prop:=
 xs.length=n∧base≤g∧n≤cap∧cap≤maxLen∧∃cur,w.heap[g]? =some (.cells cur e (0,0))∧off+cap≤cur.size∧(cur.toList.drop off).take n=xs
section
variable {w w':World} {base:Nat} {e:TypeId} {g off n cap:Nat} {xs:List Value}
theorem Win.lt (h:Win w base e g off n cap xs):g<w.heap.size:=by
 obtain ⟨_,_,_,_,cur,hh,_⟩:=h
 rcases Nat.lt_or_ge g w.heap.size with hlt|hge
 ·exact hlt
 ·rw[Array.getElem?_eq_none hge] at hh;cases hh
theorem Win.block (h:Win w base e g off n cap xs) (hb:w'.heap[g]? =w.heap[g]?):Win w' base e g off n cap xs:=by
 obtain ⟨h1,h2,h3,h4,cur,hh,h5⟩:=h
 exact ⟨h1,h2,h3,h4,cur,hb.trans hh,h5⟩
theorem Win.cell (h:Win w base e g off n cap xs) (j:Nat) (hj:j<cap):∃u,w.cell? ⟨g,off+j,none⟩=some u:=by
 obtain ⟨h1,h2,h3,h4,cur,hh,h5,h6⟩:=h
 refine ⟨cur[off+j]'(by omega),?_⟩
 rw[cell_of_row w g (off+j) cur e (0,0) hh]
 exact Array.getElem?_eq_getElem (by omega)
theorem Win.frozen (h:Win w base e g off n cap xs) (j:Nat):w.frozen? ⟨g,j,none⟩=false:=by
 obtain ⟨h1,h2,h3,h4,cur,hh,h5,h6⟩:=h
 simp[World.frozen?,hh]
theorem Win.cells (h:Win w base e g off n cap xs):∀j u,xs[j]? =some u→w.cell? ⟨g,off+j,none⟩=some u:=by
 obtain ⟨h1,h2,h3,h4,cur,hh,h5,h6⟩:=h
 intro j u hu
 have hj:j<n:=by rw[←h1];exact (List.getElem?_eq_some_iff.1 hu).1
 rw[cell_of_row w g (off+j) cur e (0,0) hh]
 rw[←h6,List.getElem?_take_of_lt hj,List.getElem?_drop] at hu
 simpa using hu
theorem win_of_own {n:Nat} (h:w.ownsRow base e 1 (.slice (some ⟨g,0,none⟩) n cap) n xs):Win w base e g 0 n cap xs:=by
 obtain ⟨hl,h⟩:=h
 rcases h with ⟨h,_⟩|⟨g',cap',cur,h,hb,hh,hnc,hcm,hcs,ht⟩
 ·cases h
 ·simp only[Value.slice.injEq,Option.some.injEq,Addr.mk.injEq,and_true,true_and] at h
  obtain ⟨rfl,rfl⟩:=h
  exact ⟨by omega,hb,hnc,hcm,cur,hh,by omega,by simpa using ht⟩
theorem Win.tail {x:Value} (h:Win w base e g off (n+1) cap (x::xs)):Win w base e g (off+1) n (cap-1) xs:=by
 obtain ⟨h1,h2,h3,h4,cur,hh,h5,h6⟩:=h
 refine ⟨by simpa using h1,h2,by omega,by omega,cur,hh,by omega,?_⟩
 have hlt:off<cur.toList.length:=by simp;omega
 rw[List.drop_eq_getElem_cons hlt,List.take_succ_cons] at h6
 exact (List.cons.inj h6).2
end
attribute [local go_sem ↓] Go.wp_at_zero Go.wp_at_succ
theorem flat_strs (l:List ByteArray):(l.map fun x=> [Value.string x]).flatten=l.map Value.string:=by
 induction l with
 |nil=>rfl
 |cons x l ih=>rw[List.map_cons,List.flatten_cons,ih];rfl
theorem strs_css {l:List ByteArray} {css:List (List Value)} (h:Are isStr l css):css.flatten=l.map Value.string:=by
 rw[←flat_strs]
 congr 1
 refine List.ext_getElem? fun i=>?_
 rw[List.getElem?_map]
 cases hi:l[i]? with
 |none=>
  rw[Option.map_none]
  exact List.getElem?_eq_none (by rw[h.1];exact List.getElem?_eq_none_iff.1 hi)
 |some x=>
  have hl:i<css.length:=by rw[h.1];exact (List.getElem?_eq_some_iff.1 hi).1
  rw[Option.map_some,List.getElem?_eq_getElem hl]
  have:=h.2 i x _ hi (List.getElem?_eq_getElem hl)
  rw[this.1]
theorem strs_size {w:World} {B:Nat} {A:Option Addr} {l:List ByteArray} (h:Sl w B 1 isStr A l):∀x∈l,x.size≤maxLen:=h.all fun _ _ g=>g.2
theorem strsV_size {w:World} {B:Nat} {v:Value} {l:List ByteArray} (h:SlV w B 1 isStr v l):∀x∈l,x.size≤maxLen:=by
 obtain ⟨A,c,_,_,_,h⟩:=h
 exact strs_size h
theorem heap_setCells (g:Nat) (e:TypeId):∀(vs:List Value) (o:Nat) (w:World) (cur:Array Value),w.heap[g]? =some (.cells cur e (0,0))→o+vs.length≤cur.size→
  ∃cur',(w.setCells g o vs).heap[g]? =some (.cells cur' e (0,0))∧cur'.size=cur.size∧cur'.toList=cur.toList.take o++vs++cur.toList.drop (o+vs.length)
 | [],o,w,cur,h,hl=>⟨cur,h,rfl,by simp⟩
 |v::vs,o,w,cur,h,hl=>by
  simp only[List.length_cons] at hl
  have h1:(w.setCell ⟨g,o,none⟩ v).heap[g]? =some (.cells (cur.setIfInBounds o v) e (0,0)):=by
   simp[World.setCell,Array.getElem?_modify,h]
  obtain ⟨cur',h2,h3,h4⟩:=heap_setCells g e vs (o+1) _ _ h1 (by simp;omega)
  refine ⟨cur',h2,by rw[h3];simp,?_⟩
  rw[h4,Array.toList_setIfInBounds,List.drop_set,if_pos (by omega)]
  have e1:(cur.toList.set o v).take (o+1)=cur.toList.take o++ [v]:=by
   rw[List.take_add_one,List.getElem?_set_self (by simp;omega),List.take_set,List.set_eq_of_length_le (by simp;omega)]
   rfl
  rw[e1]
  simp[Nat.add_comm,Nat.add_left_comm]
theorem grown_setCells (g:Nat):∀(vs:List Value) (o:Nat) (w:World),w.grownBy (w.setCells g o vs) (some g)
 | [],_,w=>⟨rfl,rfl,rfl,Nat.le_refl _,fun _ _ _=>rfl⟩
 |v::vs,o,w=>by
  have h:=grown_setCells g vs (o+1) (w.setCell ⟨g,o,none⟩ v)
  have hs:(w.setCell ⟨g,o,none⟩ v).heap.size=w.heap.size:=by simp[World.setCell]
  exact ⟨h.os,h.tape,h.output,by rw[←hs];exact h.size,fun k hk hne=>(h.block k (by rw[hs];exact hk) hne).trans (Below.heap_setCell w _ _ k (by intro he;apply hne;simp[he]))⟩
section
variable {w w':World} {base:Nat} {e:TypeId} {g off n cap:Nat} {xs:List Value}
theorem run_append_wins {P:Program} (t ty:TypeId) (i:TypeInfo) (z:Value) (bytes:Nat) (ht:P.underlying t=some (.slice e)) (hi:P.info? e=some i) (hz:i.zero=some z)
  (hsize:i.size=1) (hby:i.bytes=bytes) (hzs:z.cells.size=1) (h:Win w base e g off n cap xs)
  (ad:Addr) (m c:Nat) (news:List Value) (hl:news.length=m) (hnews:∀j u,news[j]? =some u→w.cell? (ad.add j)=some u) (h1:∀u∈news,u.oneCell'=true) (h63:n+m≤maxLen) (hbytes:(n+m)*bytes≤140737488355328) (hbase:base≤w.heap.size):
  ∃g' off' cap' w',(Builtin.append_ #[t,t] ty #[.slice (some ⟨g,off,none⟩) n cap,.slice (some ad) m c]).run P w= .ok (.slice (some ⟨g',off',none⟩) (n+m) cap') w'∧
   Win w' base e g' off' (n+m) cap' (xs++news)∧w.grownBy w' (some g):=by
 by_cases hr:n+m≤cap
 ·have hf:=fun j=>h.frozen j
  have hc:=fun j hj=>h.cell (n+j) (by omega:n+j<cap)
  have hrun:=run_append_room_cells (P:=P) w t ty e i ht hi g off n cap ad m c news (by simp[hsize,hl]) hnews h1 hr
   (fun j hj=>by
    obtain ⟨u,hu⟩:=hc j (by omega)
    rw[←Nat.add_assoc] at hu
    simp[hsize,hu]) (fun j _=>hf _)
  refine ⟨g,off,cap,_,hrun,?_,grown_setCells g news _ w⟩
  obtain ⟨k1,k2,k3,k4,cur,hh,k5,k6⟩:=h
  obtain ⟨cur',q1,q2,q3⟩:=heap_setCells g e news (off+n*i.size) w cur hh (by rw[hsize];omega)
  refine ⟨by simp[k1,hl],k2,hr,k4,cur',q1,by rw[q2];exact k5,?_⟩
  rw[q3,hsize,Nat.mul_one,List.append_assoc,List.drop_append_of_le_length (by simp;omega),List.drop_take,show off+n-off=n by omega,k6,←List.append_assoc]
  rw[List.take_append_of_le_length (by simp[k1,hl])]
  exact List.take_of_length_le (by simp[k1,hl])
 ·obtain ⟨v',w',hrun,hown,hg⟩:=run_append_arg_grows (P:=P) w t ty e i z 1 bytes ht hi hz hsize hby hzs (by omega) ⟨g,off,none⟩ n cap xs (by rw[h.1];omega) (fun j u hu=>by rw[Addr.add_lit];exact h.cells j u hu) ad m c news (by simp[hl]) hnews (by omega) h63 hbytes
  obtain ⟨g',cap',rfl⟩:∃g' cap',v'= .slice (some ⟨g',0,none⟩) (n+m) cap':=by
   rcases hown.2 with ⟨_,h0⟩|⟨g',cap',_,h,_⟩
   ·omega
   ·exact ⟨g',cap',h⟩
  exact ⟨g',0,cap',w',hrun,win_of_own (own_base hown hbase),⟨hg.os,hg.tape,hg.output,hg.size,fun k hk _=>hg.block k hk (by simp)⟩⟩
end
def WinS (w:World) (base:Nat) (v:Value) (l:List ByteArray):Prop:=
 (v= .slice none 0 0∧l=[])∨∃g off cap,v= .slice (some ⟨g,off,none⟩) l.length cap∧Win w base 9 g off l.length cap (l.map Value.string)
section
variable {w w':World} {base:Nat} {v:Value} {l:List ByteArray}
theorem WinS.of_own {n:Nat} (h:w.ownsRow base 9 1 v n (l.map Value.string)):WinS w base v l:=by
 have hn:l.length=n:=by have:=h.1;simpa using this
 subst hn
 rcases h.2 with ⟨rfl,h0⟩|⟨g,cap,cur,rfl,_⟩
 ·exact .inl ⟨rfl,List.eq_nil_of_length_eq_zero h0⟩
 ·exact .inr ⟨g,0,cap,rfl,win_of_own h⟩
theorem WinS.own (h:WinS w base v l):∀k,v.ownBlock=some k→base≤k∧k<w.heap.size:=fun k hk=>by
 rcases h with ⟨rfl,_⟩|⟨g,off,cap,rfl,h⟩
 ·cases hk
 ·simp only[Value.ownBlock,Option.some.injEq] at hk
  subst hk
  exact ⟨h.2.1,h.lt⟩
theorem WinS.grown {row:Option Nat} (h:WinS w base v l) (hg:w.grownBy w' row) (hne:∀k,v.ownBlock=some k→row≠some k):WinS w' base v l:=by
 rcases h with h|⟨g,off,cap,rfl,h⟩
 ·exact .inl h
 ·exact .inr ⟨g,off,cap,rfl,h.block (hg.block g h.lt (fun e=>hne g rfl e.symm))⟩
theorem WinS.head {x:ByteArray} (h:WinS w base v (x::l)):∃g off cap,v= .slice (some ⟨g,off,none⟩) (l.length+1) cap∧l.length+1≤cap∧cap≤maxLen∧w.cell? ⟨g,off,none⟩=some (.string x)∧
  ((cap≠1∧WinS w base (.slice (some ⟨g,off+1,none⟩) l.length (cap-1)) l)∨(cap=1∧l=[]∧WinS w base (.slice (some ⟨g,off,none⟩) 0 0) [])):=by
 rcases h with ⟨_,h⟩|⟨g,off,cap,rfl,h⟩
 ·cases h
 ·refine ⟨g,off,cap,rfl,h.2.2.1,h.2.2.2.1,by simpa using h.cells 0 (.string x) rfl,?_⟩
  by_cases hc:cap=1
  ·have:=h.2.2.1
   simp only[List.length_cons] at this
   obtain rfl:l=[]:=List.eq_nil_of_length_eq_zero (by omega)
   obtain ⟨k1,k2,k3,k4,cur,hh,k5,k6⟩:=h
   exact .inr ⟨hc,rfl,.inr ⟨g,off,0,rfl,rfl,k2,Nat.le_refl _,Nat.zero_le _,cur,hh,by omega,by simp⟩⟩
  ·exact .inl ⟨hc,.inr ⟨g,off+1,cap-1,rfl,h.tail⟩⟩
theorem run_append_slice_nil {P:Program} (t ty e:TypeId) (i:TypeInfo) (ht:P.underlying t=some (.slice e)) (hi:P.info? e=some i) (ad:Addr) (n cap c:Nat) (hn:n≤cap):
  (Builtin.append_ #[t,t] ty #[.slice (some ad) n cap,.slice none 0 c]).run P w= .ok (.slice (some ad) n cap) w:=by
 simp[Builtin.append_,run_underlying ht,sizeOf,typeInfo,hi,Builtin.lenOf,Builtin.firstCells,hn,storeCells]
theorem wpList_append_wins {B:Nat} {ops:Array Oper} {rest:List Oper} {o:Oper} {a:Act} {Q:Exit→Act→World→Prop} (hgd:o.guard=none) (s x:Operand)
  (ho:o.op= .call {callee:= .builtin .append,args:= #[s,x],argTypes:= #[60,60]})
  (base:Nat) (l l2:List ByteArray) (v:Value) (hs:a.eval s=v) (h:WinS w base v l) (A:Option Addr) (c:Nat) (hx:a.eval x= .slice A l2.length c) (hsl:Sl w B 1 isStr A l2)
  (hl:l.length+l2.length<1000000) (hbase:base≤w.heap.size)
  (hK:∀v' w',WinS w' base v' (l++l2)→w.grownBy w' v.ownBlock→wpList Tryz.prog ops Q rest (a.put o.dst v') w'):wpList Tryz.prog ops Q (o::rest) a w:=by
 obtain ⟨i0,hi0,hz⟩:=Option.map_eq_some_iff.1 info_str
 injection hz with hz0 hz
 injection hz with hz1 hz2
 rcases h with ⟨rfl,rfl⟩|⟨g,off,cap,rfl,h⟩
 ·refine wpList_append_sl hgd s x 60 ho base 9 i0 (.string ⟨#[]⟩) 1 16 Tryz.underlying60 hi0 hz0 hz1 hz2 rfl (by decide) _ 0 [] hs (World.ownsRow_nil _ _ _ _) A l2 c hx hsl (fun _ _ h=>isStr_one h) (by unfold maxLen;omega) (by omega) hbase ?_
  intro v' w' css h1 h2 _ h4
  refine hK v' w' ?_ h4
  rw[List.nil_append,strs_css h2] at h1
  exact WinS.of_own h1
 ·obtain ⟨css,hare,hc⟩:=hsl.css (fun x cs h=>(isStr_one h).1)
  rw[strs_css hare] at hc
  refine wpList_plain hgd fun K' hK'=>?_
  unfold Oper.wp
  cases A with
  |none=>
   have hl0:l2=[]:=by
    rcases Nat.eq_zero_or_pos l2.length with h0|h0
    ·exact List.eq_nil_of_length_eq_zero h0
    ·obtain ⟨_,_,h,_⟩:=hsl h0
     cases h
   subst hl0
   have hrun:=run_append_slice_nil (P:=Tryz.prog) (w:=w) 60 o.type 9 i0 Tryz.underlying60 hi0 ⟨g,off,none⟩ l.length cap c h.2.2.1
   simp only[List.length_nil] at hx
   simp[execOp,ho,resolve,invoke,builtin,hs,hx,hrun,Result.andThen]
   refine hK' _ _ (hK _ w ?_ ⟨rfl,rfl,rfl,Nat.le_refl _,fun _ _ _=>rfl⟩)
   rw[List.append_nil]
   exact .inr ⟨g,off,cap,rfl,h⟩
  |some ad=>
   obtain ⟨g',off',cap',w',hrun,hw,hg⟩:=run_append_wins (P:=Tryz.prog) 60 o.type i0 (.string ⟨#[]⟩) 16 Tryz.underlying60 hi0 hz0 hz1 hz2 rfl h ad l2.length c (l2.map Value.string) (by simp) (hc ad rfl) (by
    intro u hu
    obtain ⟨y,_,rfl⟩:=List.mem_map.1 hu
    rfl) (by unfold maxLen;omega) (by omega) hbase
   simp[execOp,ho,resolve,invoke,builtin,hs,hx,hrun,Result.andThen]
   refine hK' _ _ (hK _ w' (.inr ⟨g',off',cap',?_,?_⟩) hg)
   ·simp
   ·simpa using hw
end
theorem clone_strs (l:List ByteArray) (A:Option Addr) (cap:Nat) (w:World) (h0:l.length≤1000) (h:Sl w w.heap.size 1 isStr A l):
  Calls Tryz.prog 145 #[.slice A l.length cap] w fun e w'=>(∃v,e= .returned v∧WinS w' w.heap.size v l)∧Below w.heap.size w w':=by
 obtain ⟨i0,hi0,hz⟩:=Option.map_eq_some_iff.1 info_str
 injection hz with hz0 hz
 injection hz with hz1 hz2
 cases A with
 |none=>
  have hl:l=[]:=by
   rcases Nat.eq_zero_or_pos l.length with h1|h1
   ·exact List.eq_nil_of_length_eq_zero h1
   ·obtain ⟨_,_,h,_⟩:=h h1
    cases h
  subst hl
  clear h
  have en:=Lib.run_eql_slice_nil (P:=Tryz.prog)
  go_enter Tryz.func145,Tryz.ntmps145
  go_wp2_with fail
  go_ret
  exact ⟨⟨_,rfl,.inl ⟨rfl,rfl⟩⟩,Below.refl _ _⟩
 |some ad=>
  have en:=Lib.run_eql_slice_nil (P:=Tryz.prog)
  have HS:=Lib.hid (h.keep (keeps_of ((Below.refl _ w).alloc (Nat.le_refl _) (.cells #[] 9))) (Nat.le_refl _) (fun _ _ _ h=>h))
  have ho:=own_empty w 9 1
  clear h
  go_enter Tryz.func145,Tryz.ntmps145
  go_wp2_with (at_builtin;refine wpList_append_sl rfl _ _ 60 rfl w.heap.size 9 i0 _ 1 16 Tryz.underlying60 hi0 hz0 hz1 hz2 rfl (by decide) _ _ _ rfl ho (some ad) l cap rfl HS.out (fun _ _ h=>isStr_one h) ?c3 ?c4 ?c5 ?_)
  case c3=>unfold maxLen;omega
  case c4=>omega
  case c5=>simp
  intro v' w3 css' hown' hare' hb3 _
  have HO:=Lib.hid hown'
  have HA:=Lib.hid hare'
  clear hown' hare'
  go_wp2_with fail
  go_ret
  refine ⟨⟨_,rfl,WinS.of_own (n:=0+l.length) ?_⟩,((Below.refl _ _).alloc (Nat.le_refl _) _).trans hb3⟩
  have:=HO.out
  rw[strs_css HA.out] at this
  simpa using this
theorem cell_kept {w w':World} {b:Nat} (hb:∃o,w.heap[b]? =some o∧∀cs t f,o≠ .cells cs t f) (hg:w.grownBy w' (some b)) {p:Addr} {u:Value} (hc:w.cell? p=some u):w'.cell? p=some u:=
 hg.cell hc (fun e=>by
  injection e with e
  obtain ⟨o,ho,hn⟩:=hb
  simp only[World.cell?] at hc
  rw[←e] at ho
  rw[ho] at hc
  cases o with
  |cells cs t f=>exact hn _ _ _ rfl
  |_=>cases hc)
theorem MapV.isMap {w:World} {b n:Nat} {f:ByteArray→Value} (h:MapV w b n f):∃o,w.heap[b]? =some o∧∀cs t f,o≠ .cells cs t f:=by
 obtain ⟨D,⟨es,clock,h1,_⟩,_⟩:=h
 exact ⟨_,h1,fun _ _ _ e=>by cases e⟩
theorem row_mapv {W W':World} {b c n:Nat} {f:ByteArray→Value} {cs:Array Value} {t:TypeId} (r:Row W c cs t) (h:MapV W b n f) (hg:W.grownBy W' (some b)):Row W' c cs t:=by
 obtain ⟨D,⟨es,clock,hm,_⟩,_⟩:=h
 exact r.own hg (fun r e=>by cases e;exact ⟨_,hm,rfl⟩)
theorem MetS.isO {w:World} {b:Nat} {l:List ByteArray} (h:MetS w b l):∃o,w.heap[b]? =some o∧∀cs t f,o≠ .cells cs t f:=by
 obtain ⟨es,clock,h1⟩:=h.isMap
 exact ⟨_,h1,fun _ _ _ e=>by cases e⟩
open Classical in
noncomputable def usesTo (s:List Nd) (k:Nat) (nm:ByteArray):List ByteArray:=if nm∈(s.map Nd.name).take k then usesAt s nm else []
theorem usesTo_all (s:List Nd) (nm:ByteArray):usesTo s s.length nm=usesAt s nm:=by
 unfold usesTo
 rw[List.take_of_length_le (by simp)]
 split
 ·rfl
 ·rename_i h
  unfold usesAt
  rw[nodeAt_none.2 h]
theorem usesTo_succ {s:List Nd} (h0:(scopeF s).err=0) {k:Nat} {n:Nd} (hk:s[k]? =some n) (nm:ByteArray):(nm=n.name→usesTo s (k+1) nm=usesF n)∧(nm≠n.name→usesTo s (k+1) nm=usesTo s k nm):=by
 have e:(s.map Nd.name).take (k+1)=(s.map Nd.name).take k++ [n.name]:=by
  have h:=map_get Nd.name hk
  refine' zq183
 unfold usesTo
 rw[e]
 constructor
 ·rintro rfl
  rw[if_pos (by simp),usesAt_self h0 (List.mem_of_getElem? hk)]
 ·intro hne
  by_cases g:nm∈(s.map Nd.name).take k
  ·rw[if_pos g,if_pos (by simp[g])]
  ·rw[if_neg g,if_neg (by simp[g,hne])]
def UsesM (w:World) (b:Nat) (s:List Nd) (k:Nat):Prop:=∃(n:Nat) (f:ByteArray→Value),MapV w b n f∧n≤k∧∀nm,SlV w w.heap.size 1 isStr (f nm) (usesTo s k nm)
section
variable {w w':World} {b k:Nat} {s:List Nd}
theorem UsesM.lt (h:UsesM w b s k):b<w.heap.size:=by
 obtain ⟨n,f,h1,_⟩:=h
 exact h1.lt
theorem UsesM.below (h:UsesM w b s k) (hb:Below w.heap.size w w'):UsesM w' b s k:=by
 obtain ⟨n,f,h1,h2,h3⟩:=h
 exact ⟨n,f,h1.below hb h1.lt,h2,fun nm=>((h3 nm).below hb).more hb.size⟩
theorem UsesM.grown (h:UsesM w b s k) {b':Nat} (hb:∃o,w.heap[b']? =some o∧∀cs t f,o≠ .cells cs t f) (hg:w.grownBy w' (some b')) (hne:b≠b'):UsesM w' b s k:=by
 obtain ⟨n,f,h1,h2,h3⟩:=h
 exact ⟨n,f,h1.grown hg (fun e=>hne (by injection e)),h2,fun nm=>((h3 nm).keep (fun p u _ hc=>cell_kept hb hg hc) (Nat.le_refl _) (fun _ _ _ h=>h)).more hg.size⟩
theorem usesM_put (h0:(scopeF s).err=0) {n:Nd} (hk:s[k]? =some n) {m:Nat} {f:ByteArray→Value} {v:Value} (hM0:MapV w b m f) (hm:m≤k) (hf:∀nm,SlV w w.heap.size 1 isStr (f nm) (usesTo s k nm)) (hv:SlV w w.heap.size 1 isStr v (usesF n))
  {g:ByteArray→Value} (hg1:∀nm,nm=n.name→g nm=v) (hg2:∀nm,nm≠n.name→g nm=f nm) (hM:MapV w' b (m+1) g) (hg:w.grownBy w' (some b)):UsesM w' b s (k+1):=by
 refine ⟨m+1,g,hM,by omega,fun nm=>?_⟩
 by_cases e:nm=n.name
 ·rw[hg1 nm e,(usesTo_succ h0 hk nm).1 e]
  exact (hv.keep (fun p u _ hc=>cell_kept hM0.isMap hg hc) (Nat.le_refl _) (fun _ _ _ h=>h)).more hg.size
 ·rw[hg2 nm e,(usesTo_succ h0 hk nm).2 e]
  exact ((hf nm).keep (fun p u _ hc=>cell_kept hM0.isMap hg hc) (Nat.le_refl _) (fun _ _ _ h=>h)).more hg.size
theorem UsesM.look (h:UsesM w b s s.length) {nm:ByteArray} (hs:nm.size≤maxLen):∃A c,(Instr.lookup 183 (.map (some b)) (.string nm) false).run Tryz.prog w= .ok (.slice A (usesAt s nm).length c) w∧(usesAt s nm).length≤c∧c≤maxLen∧Sl w w.heap.size 1 isStr A (usesAt s nm):=by
 obtain ⟨n,f,h1,h2,h3⟩:=h
 have hl:=h1.look hs
 obtain ⟨A,c,e,g1,g2,g3⟩:=h3 nm
 rw[usesTo_all] at e g1 g3
 rw[e] at hl
 exact ⟨A,c,hl,g1,g2,g3⟩
end
theorem usesAt_len {s:List Nd} (h0:(scopeF s).err=0) (sm:SrcSm s) (nm:ByteArray):(usesAt s nm).length≤20:=by
 have:=nodup_len (usesAt_rising s nm).nodup (uses_V h0 nm)
 rw[List.length_map] at this
 have:=sm.len
 omega
theorem step_mapv {w:World} {ops:Array Oper} {o:Oper} {a:Act} {K:Act→World→Prop} {Q:Exit→Act→World→Prop} {E:Prop} (hgd:o.guard=none) (m x v:Operand) (hop:o.op=Op.mapUpdate 183 m x v)
  (b n:Nat) (f:ByteArray→Value) (hm:a.eval m= .map (some b)) (h:MapV w b n f) (hn:n<1000000) (nm:ByteArray) (hx:a.eval x= .string nm) (hs:nm.size≤maxLen) (u:Value) (hv:a.eval v=u)
  (hK:∀w' g,MapV w' b (n+1) g→(∀x,x=nm→g x=u)→(∀x,x≠nm→g x=f x)→w.grownBy w' (some b)→K (a.put o.dst undef) w'):
  if Region.wanted o (yielded ops a.tmps)=true then Oper.wp Tryz.prog o a w K Q else E:=by
 refine' zq121
 obtain ⟨w',hrun,r1,r2⟩:=h.put hs hn u
 unfold Oper.wp
 simp[execOp,hop,hm,hx,hv,hrun,Result.andThen]
 exact hK w' _ r1 (fun x e=>if_pos e) (fun x e=>if_neg e) r2
theorem all_calls (s:List Nd) (A:Option Addr) (cap:Nat) (w:World) (h0:(scopeF s).err=0) (sm:SrcSm s) (h1:s.length≤cap) (h2:cap≤maxLen) (h:Nds w w.heap.size A s):
  Calls Tryz.prog 101 #[srcV s A cap] w fun e w'=>(∃b,e= .returned (.map (some b))∧UsesM w' b s s.length∧w.heap.size≤b)∧Below w.heap.size w w':=by
 refine' zq87
 have HSM:=Lib.hid sm
 have H0:=Lib.hid h0
 have hmm:= @run_makeMap Tryz.prog
 refine' zq50
 have b1:Below w.heap.size w ((w.alloc (.cells #[.slice A s.length cap] 24)).alloc (.map #[] 0)):=bE
 have m1:UsesM ((w.alloc (.cells #[.slice A s.length cap] 24)).alloc (.map #[] 0)) (w.heap.size+1) s 0:=by
  have h:=mapv_made (w.alloc (.cells #[.slice A s.length cap] 24))
  rw[World.size_alloc] at h
  exact ⟨0,_,h,Nat.le_refl _,fun nm=>by unfold usesTo;rw[if_neg (by simp)];exact SlV.nil⟩
 clear h sm h0
 go_enter Tryz.func101,Tryz.ntmps101
 go_wp2_with fail
 go_loopw[10] (fun i wr=>∃k:Nat,k≤s.length∧i= .int .i64 k∧UsesM wr (w.heap.size+1) s k∧Below w.heap.size w wr) (fun i _=>s.length-(intOf i).toNat)
 case atStart=>exact ⟨0,Nat.zero_le _,rfl,m1,b1⟩
 case round=>
  obtain ⟨k,hk,rfl,hM,hB⟩:=hrel
  have hsB:=hB.size
  by_cases hlt:k<s.length
  rotate_left 1
  ·obtain rfl:k=s.length:=by omega
   go_wp2_with fail
   go_ret
   exact ⟨⟨_,rfl,hM,by omega⟩,hB⟩
  refine' zq73
  subst hA
  have HX:=Lib.hid hn
  have HNS:=Lib.hid (HSM.out.all n (List.mem_of_getElem? hn))
  have HAW:Hid (∀W,Below wr.heap.size wr W→NdAt W W.heap.size n a):=fun W hW=>(hat.below (hW.mono hsB)).more (Nat.le_trans hsB hW.size)
  refine' zq153
  have rn1:=Row.new wr (ndArr n a) 58
  refine' zq106
  have hnm:=hat.name
  clear hn hat
  go_upto_region 5 with (fail)
  clear d0 d1 d2 d3 d4 d5 d6
  generalize hW5:wr.alloc (.cells (ndArr n a) 58)=w5 at*
  clear hW5
  have hM5:=hM.below ba
  have hB5:=hB.trans (ba.mono hsB)
  have hs5:=hB5.size
  have HK:Hid (∀W,Below w5.heap.size w5 W→(W.cell? ⟨wr.heap.size,0,none⟩=some (.string n.name)∧W.cell? ⟨wr.heap.size,1,none⟩=some (.slice a.ai n.ins.length a.ci)∧W.cell? ⟨wr.heap.size,2,none⟩=some (.slice a.ao n.outs.length a.co)∧W.cell? ⟨wr.heap.size,3,none⟩=some (.slice a.av n.vars.length a.cv)∧W.cell? ⟨wr.heap.size,4,none⟩=some (.slice a.aq n.eqs.length a.cq)∧W.cell? ⟨wr.heap.size,5,none⟩=some (.int .i64 n.line)∧W.cell? ⟨wr.heap.size,6,none⟩=some (.int .i64 n.col))):=fun W hW=>(rn1.below hW rn1.lt).nd
  refine wp_region_held_drew (S:=fun W=>(W.cell? ⟨wr.heap.size,0,none⟩=some (.string n.name)∧W.cell? ⟨wr.heap.size,1,none⟩=some (.slice a.ai n.ins.length a.ci)∧W.cell? ⟨wr.heap.size,2,none⟩=some (.slice a.ao n.outs.length a.co)∧W.cell? ⟨wr.heap.size,3,none⟩=some (.slice a.av n.vars.length a.cv)∧W.cell? ⟨wr.heap.size,4,none⟩=some (.slice a.aq n.eqs.length a.cq)∧W.cell? ⟨wr.heap.size,5,none⟩=some (.int .i64 n.line)∧W.cell? ⟨wr.heap.size,6,none⟩=some (.int .i64 n.col))) (by kernel_rfl) ?_ (fun hHeld=>?_)
  ·refine' zq132
  refine tk 0 (some 14) rfl ?_
  refine tk 1 (some 15) rfl ?_
  refine tk 2 (some 16) rfl ?_
  refine tk 3 (some 17) rfl ?_
  refine rd1 4 (some 18) rfl (fun KK hKK=>?_)
  go_simp
  (go_at_call 144;refine Calls.mono (uses_any n a _ HNS.out (HAW.out _ (ba.trans (Below.mono (B:=w5.heap.size) bE ba.size)))) ?_;rintro e w6 ⟨⟨v6,rfl,hv6⟩,hb6⟩;(have hb7:Below w5.heap.size w5 w6:=Below.trans bE (hb6.mono lE));(obtain ⟨m0,f0,hM0,hm0,hf0⟩:=UsesM.below hM5 hb7))
  (try go_wp2_with fail)
  refine hKK.out _ _ ?_ (fun hHeld=>?_)
  ·refine' zq132
  clear hKK KK
  refine' zq1
  refine rd1 5 none rfl (fun KK hKK=>?_)
  (refine step_mapv rfl _ _ _ rfl (w.heap.size+1) m0 f0 rfl hM0 (by have:=HSM.out.len;omega) n.name rfl hnm v6 rfl ?_;intro w8 g8 hM8 hg1 hg2 hg8;have rn8:=row_mapv (rn1.below hb7 rn1.lt) hM0 hg8)
  refine hKK.out _ _ ?_ (fun hHeld=>?_)
  ·refine' zq132
  clear hKK KK
  try simp only[Act.put]
  refine wpAnyH_done (by kernel_rfl) ?_ _
  have hM9:=usesM_put H0.out HX.out hM0 hm0 hf0 hv6 hg1 hg2 hM8 hg8
  have hB9:=(hB5.trans (hb7.mono hs5)).grown hg8 (Nat.le_trans hs5 hb7.size) (fun k e=>by cases e;omega)
  go_wp2_with fail
  go_roundw
  case rel=>exact ⟨k+1,by omega,by go_num,hM9,hB9⟩
  case measure=>first|(simp[intOf];omega)|simp[intOf]
noncomputable def metLen (w:World) (o:Value):Nat:=match (Builtin.len_ #[85] 85 #[o]).run Tryz.prog w with
 | .ok (.int _ n) _=>n.toNat
 |_=>0
theorem metLen_eq {w:World} {b:Nat} {l:List ByteArray} (h:MetS w b l):metLen w (.map (some b))=l.length:=by
 unfold metLen
 rw[h.len]
 simp
def sliceLen:Value→Nat
 | .slice _ n _=>n
 |_=>0
theorem WinS.form {w:World} {base:Nat} {v:Value} {l:List ByteArray} (h:WinS w base v l):∃A c,v= .slice A l.length c:=by
 rcases h with ⟨rfl,rfl⟩|⟨g,off,cap,rfl,_⟩
 ·exact ⟨_,_,rfl⟩
 ·exact ⟨_,_,rfl⟩
theorem fnd_len {s:List Nd} {a:ByteArray} {l wt:List ByteArray} (h0:(scopeF s).err=0) (sm:SrcSm s) (h:Fnd (usesAt s) a l wt):l.length≤20:=by
 have:=nodup_len h.nd fun x hx=>hg_sub (uses_V h0) (h.hg x (.inl hx))
 rw[List.length_map] at this
 have:=sm.len
 omega
theorem fnd_new {s:List Nd} {a x:ByteArray} {l wt:List ByteArray} (h0:(scopeF s).err=0) (sm:SrcSm s) (h:Fnd (usesAt s) a l (x::wt)) (hx:x∉l):l.length<20:=by
 have:=fnd_len h0 sm (h.new hx)
 simp only[List.length_append,List.length_cons,List.length_nil] at this
 omega
theorem reach_any (s:List Nd) (b:Nat) (nm:ByteArray) (w:World) (h0:(scopeF s).err=0) (sm:SrcSm s) (hU:UsesM w b s s.length) (hs:nm.size≤maxLen):
  Calls Tryz.prog 102 #[.map (some b),.string nm] w fun e w'=>(∃b' L,e= .returned (.map (some b'))∧MetS w' b' L∧Hid (∀x,x∈L↔Hg (usesAt s) nm x))∧Below w.heap.size w w':=by
 have HSM:=Lib.hid sm
 have H0:=Lib.hid h0
 have hmm:= @run_makeMap Tryz.prog
 have b1:Below w.heap.size w (w.alloc (.map #[] 0)):=bE
 have m1:=mets_made w
 have hU1:=hU.below b1
 obtain ⟨A0,c0,hlk,g1,g2,g3⟩:=hU1.look hs
 have hl0:=usesAt_len h0 sm nm
 have HC:=Lib.hid (clone_strs (usesAt s nm) A0 c0 (w.alloc (.map #[] 0)) (by omega) g3)
 have hbl:=hU.lt
 clear sm h0 g1 g2 g3
 go_enter Tryz.func102,Tryz.ntmps102
 go_wp2_with fail
 refine Calls.mono HC.out ?_
 rintro e w2 ⟨⟨v2,rfl,hv2⟩,hb2⟩
 have hB2:=b1.trans (hb2.mono b1.size)
 have m2:=m1.below hb2 m1.lt
 have hU2:=hU1.below hb2
 have hs2:=hb2.size
 rw[World.size_alloc] at hv2 hs2
 clear HC hb2 m1 hU1 b1
 go_wp2_with fail
 go_loopw[6,7] (fun wt _ wr=>∃(L W:List ByteArray),MetS wr w.heap.size L∧WinS wr (w.heap.size+1) wt W∧Hid (Fnd (usesAt s) nm L W)∧W.length≤20*(L.length+1)∧Below w.heap.size w wr∧w.heap.size<wr.heap.size∧Hid (∀x∈W,x.size≤maxLen)) (fun wt _ W=>(21-metLen W (.map (some w.heap.size)))*50+sliceLen wt)
 case atStart=>exact ⟨[],usesAt s nm,m2,hv2,Fnd.start nm,by simp;omega,hB2,by omega,by
  obtain ⟨n,f,_,_,h⟩:=hU2
  have:=strsV_size (h nm)
  rw[usesTo_all] at this
  exact this⟩
 case round=>
  obtain ⟨L,W,m3,hW,HF,hWl,hB3,hl3,HZ⟩:=hrel
  have hs3:=hB3.size
  have hU3:=hU.below hB3
  cases W with
  |nil=>
   obtain ⟨A,c,rfl⟩:=hW.form
   have i0:decide ((0:Int)<0)=false:=rfl
   go_wp2_with fail
   go_ret
   exact ⟨⟨_,L,rfl,m3,fun x=>HF.out.end_ x⟩,hB3⟩
  |cons x W=>
   obtain ⟨g,off,cap,rfl,q1,q2,c0,hW'⟩:=hW.head
   have hx:=HZ.out x (by simp)
   have HZ':Hid (∀y∈W,y.size≤maxLen):=fun y hy=>HZ.out y (by simp[hy])
   have q2':cap≤9223372036854775807:=by unfold maxLen at q2;omega
   have i0:(0:Int)<(W.length:Int)+1:=by omega
   have i1:(1:Int)≤(W.length:Int)+1:=by omega
   simp only[List.length_cons] at hWl
   rcases hW' with ⟨hc1,hW'⟩|⟨rfl,rfl,hW'⟩
   ·skip
    by_cases hP:x∈L
    ·have hlk3:=(m3.look hx).1 hP
     have HF':=Lib.hid (HF.out.old hP)
     clear hP HF HZ
     go_wp2_with fail
     go_roundw
     case rel=>exact ⟨L,W,m3,by simpa using hW',HF',by first|omega|(simp;omega)|simp,hB3,hl3,HZ'⟩
     case measure=>simp[sliceLen]
    ·have hlk3:=(m3.look hx).2 hP
     have HF':=Lib.hid (HF.out.new hP)
     have hL:=fnd_new H0.out HSM.out HF.out hP
     have hlx:=usesAt_len H0.out HSM.out x
     have HPN:Hid (putN L x=L++ [x]):=by show _=_;unfold putN;rw[if_neg hP]
     clear hP HF HZ
     go_wp2_with (first
      |(at_mapUpdate;refine wpList_mets rfl _ _ _ rfl w.heap.size L rfl m3 (by omega) x rfl hx rfl ?_;intro w4 m4 hg4;rw[HPN.out] at m4;have hU4:=hU3.grown m3.isO hg4 (by omega);obtain ⟨A4,c4,hlk4,r1,r2,r3⟩:=hU4.look hx;have hZ4:=strs_size r3;have hW4:=hW'.grown hg4 (fun k hk e=>by have:=(hW'.own k hk).1;injection e with e;omega);have hs4:=hg4.size)
      |(at_builtin;refine wpList_append_wins rfl _ _ rfl (w.heap.size+1) W (usesAt s x) _ rfl hW4 A4 c4 rfl r3 (by first|omega|(simp;omega)) (by omega) ?_;intro v5 w5 hW5 hg5))
     have hB4:=hB3.grown hg4 hs3 (fun k e=>by cases e;omega)
     have ob:=hW4.own
     obtain ⟨A5,c5,rfl⟩:=hW5.form
     have m5:=m4.grown hg5 (fun e=>by have:=(ob _ e.symm).1;omega)
     have hB5:=hB4.grown hg5 (Nat.le_trans hs3 hs4) (fun k e=>by have:=(ob k e).1;omega)
     go_roundw
     case rel=>exact ⟨L++ [x],W++usesAt s x,m5,hW5,HF',by simp;omega,hB5,by have:=hg5.size;omega,fun y hy=>by
      rcases List.mem_append.1 hy with hy|hy
      ·exact HZ'.out y hy
      ·exact hZ4 y hy⟩
     case measure=>
      rw[metLen_eq m5,metLen_eq m3]
      simp[sliceLen]
      omega
   ·clear hW
    by_cases hP:x∈L
    ·have hlk3:=(m3.look hx).1 hP
     have HF':=Lib.hid (HF.out.old hP)
     clear hP HF HZ
     go_wp2_with fail
     go_roundw
     case rel=>exact ⟨L,([]:List ByteArray),m3,by simpa using hW',HF',by first|omega|(simp;omega)|simp,hB3,hl3,HZ'⟩
     case measure=>simp[sliceLen]
    ·have hlk3:=(m3.look hx).2 hP
     have HF':=Lib.hid (HF.out.new hP)
     have hL:=fnd_new H0.out HSM.out HF.out hP
     have hlx:=usesAt_len H0.out HSM.out x
     have HPN:Hid (putN L x=L++ [x]):=by show _=_;unfold putN;rw[if_neg hP]
     clear hP HF HZ
     go_wp2_with (first
      |(at_mapUpdate;refine wpList_mets rfl _ _ _ rfl w.heap.size L rfl m3 (by omega) x rfl hx rfl ?_;intro w4 m4 hg4;rw[HPN.out] at m4;have hU4:=hU3.grown m3.isO hg4 (by omega);obtain ⟨A4,c4,hlk4,r1,r2,r3⟩:=hU4.look hx;have hZ4:=strs_size r3;have hW4:=hW'.grown hg4 (fun k hk e=>by have:=(hW'.own k hk).1;injection e with e;omega);have hs4:=hg4.size)
      |(at_builtin;refine wpList_append_wins rfl _ _ rfl (w.heap.size+1) ([]:List ByteArray) (usesAt s x) _ rfl hW4 A4 c4 rfl r3 (by first|omega|(simp;omega)) (by omega) ?_;intro v5 w5 hW5 hg5))
     have hB4:=hB3.grown hg4 hs3 (fun k e=>by cases e;omega)
     have ob:=hW4.own
     obtain ⟨A5,c5,rfl⟩:=hW5.form
     have m5:=m4.grown hg5 (fun e=>by have:=(ob _ e.symm).1;omega)
     have hB5:=hB4.grown hg5 (Nat.le_trans hs3 hs4) (fun k e=>by have:=(ob k e).1;omega)
     go_roundw
     case rel=>exact ⟨L++ [x],([]:List ByteArray)++usesAt s x,m5,hW5,HF',by simp;omega,hB5,by have:=hg5.size;omega,fun y hy=>by
      rcases List.mem_append.1 hy with hy|hy
      ·exact HZ'.out y hy
      ·exact hZ4 y hy⟩
     case measure=>
      rw[metLen_eq m5,metLen_eq m3]
      simp[sliceLen]
      omega
end Go.Proofs.YtdkgkacnjdnpoaaGreat
