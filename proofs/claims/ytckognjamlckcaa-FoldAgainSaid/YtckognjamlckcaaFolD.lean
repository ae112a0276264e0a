/-
  fold: the folder in memory; the number of a wire; an act turned to a number. fold: an act turned to a number; an act of numbers done. fold: an act with just its parts; a choice that is clear.
-/
import Derived.Test.YtckognjamlckcaaFolA
import Derived.Test.YtckognjamlckcaaSemB
import Derived.Deep.DeepCutAuto
namespace Go.Proofs.Ytckognjamlckcaa.Fo
open Vf Ar
theorem act_of_idx {f:Fm} {A:List Ac} (hd:definedOk f) (hA:dstsOf A=dstsOf f.acts) {i:Nat} {x:Ac} (hx:f.acts[i]? =some x):∃y,A[i]? =some y∧y.dst=x.dst∧actAt A x.dst=some y:=by
 have h1:(dstsOf A)[i]? =some x.dst:=by rw[hA];simp[dstsOf,hx]
 simp only[dstsOf,List.getElem?_map,Option.map_eq_some_iff] at h1
 obtain ⟨y,hy,e⟩:=h1
 refine ⟨y,hy,e,?_⟩
 rw[←e]
 exact actAt_mem (by rw[hA];exact dsts_nodup hd) (List.mem_of_getElem? hy)
theorem numAt_in {f:Fm} {A:List Ac} (hd:definedOk f) (hA:dstsOf A=dstsOf f.acts) {n:Int} (hn:n∈f.ins):numAt A n=none:=by
 unfold numAt
 rw[actAt_none]
 rw[hA]
 intro hm
 obtain ⟨x,hx,e⟩:=List.mem_map.1 hm
 exact (hd.2.1 x hx).2 (by rw[e];exact hn)
theorem numAt_act {A:List Ac} {n:Int} {y:Ac} (h:actAt A n=some y):numAt A n=if y.op=1∨y.op=2 then some y.k else none:=by unfold numAt;rw[h]
def recF (f:Fm) (A:List Ac) (i:Nat) (y:Ac):List Ac:=match numAt A y.a with
 |none=>A
 |some p=>if y.op=5∨y.op=6 then A.set i (turnAc f y.dst (oneV y.op p)) else
  match numAt A y.b with
  |none=>A
  |some q=>A.set i (turnAc f y.dst (doV y.op p q))
def chF (R:List Int) (A:List Ac) (w:Int) (y:Ac):List Int:=match numAt A y.a with
 |some k=>if k≠0∨y.b=y.c then R.set w.toNat y.b else R.set w.toNat y.c
 |none=>if y.b=y.c then R.set w.toNat y.b else R
end Go.Proofs.Ytckognjamlckcaa.Fo
namespace Go.Proofs.Ytckognjamlckcaa
open Go.RowKit Vf Fo Ar
attribute [local go_sem ↓] Go.wp_at_zero Go.wp_at_succ
structure FoQ where
 D:Nat
 R:Nat
 A:Nat
 N:Nat
 E:Nat
 C:Nat
 F:Nat
 vw:Value
 va:Value
 vc:Value
 vk:Value
 vi:Value
 vo:Value
 vb:Value
 vx:Value
 cap:Nat
 B:Nat
 M:Nat
 xa:Option Addr
def foX (q:FoQ) (k:Nat):Prop:=k=q.R∨k=q.A∨k=q.N∨k=q.E∨k=q.C∨k=q.F
def foY (q:FoQ) (k:Nat):Prop:=foX q k∨q.B≤k
def foCs (f:Fm) (q:FoQ):Array Value:= #[q.vw,q.va,q.vc,q.vk,q.vi,q.vo,q.vb,.slice (some ⟨q.R,0,none⟩) f.wires.length f.wires.length,q.vx,.slice (some ⟨q.N,0,none⟩) f.wires.length f.wires.length,.slice (some ⟨q.E,0,none⟩) f.wires.length f.wires.length,.slice (some ⟨q.C,0,none⟩) f.cells.length f.cells.length,.slice (some ⟨q.F,0,none⟩) f.cells.length f.cells.length]
structure FoF (f:Fm) (L:List Int) (q:FoQ) (B:Nat) (W:World):Prop where
 fm:FmAt W B f q.vw q.va q.vc q.vk q.vi q.vo
 lb:SlV W B 1 isInt q.vb L
 row:Row W q.D (foCs f q) 60
def acB (W:World) (q:FoQ) (A:List Ac):Prop:=0<A.length→(q.vx= .slice (some ⟨q.A,0,none⟩) A.length q.cap∧A.length≤q.cap∧q.cap≤maxLen)∧∃cur:List Value,Row W q.A cur.toArray 50∧A.length*6≤cur.length∧cur.take (A.length*6)=acF A
structure FoAt (f:Fm) (L:List Int) (q:FoQ) (W:World) (R:List Int) (A:List Ac) (ds need cl:List Bool) (fr:List Int):Prop where
 keep:∀W',Upd (foY q) W W'→FoF f L q q.B W'
 bB:q.B≤W.heap.size
 xb:∀k,foX q k→k<q.B
 db:q.D<q.B
 xs:q.vx= .slice q.xa f.acts.length q.cap∧f.acts.length≤q.cap∧q.cap≤maxLen
 mX:∀k,foX q k→q.M≤k
 fm:FmAt W q.M f q.vw q.va q.vc q.vk q.vi q.vo
 ne: [q.R,q.A,q.N,q.E,q.C,q.F].Nodup
 r:Row W q.R (ints R).toArray 3
 a:acB W q A
 n:Row W q.N (bls ds).toArray 4
 e:Row W q.E (bls need).toArray 4
 c:Row W q.C (bls cl).toArray 4
 fb:Row W q.F (ints fr).toArray 3
 rl:R.length=f.wires.length
 al:A.length=f.acts.length
 nl:ds.length=f.wires.length
 el:need.length=f.wires.length
 kl:cl.length=f.cells.length
 fl:fr.length=f.cells.length
 wR:∀x∈R,Wf x
 wA:∀x∈A,AcIn x
 wF:∀x∈fr,Wf x
section
variable {f:Fm} {L:List Int} {q:FoQ} {W W':World} {R R':List Int} {A A':List Ac} {ds ds' need need' cl cl':List Bool} {fr fr':List Int}
theorem acB.upd {X:Nat→Prop} (h:acB W q A) (u:Upd X W W') (hX:¬X q.A):acB W' q A:=fun h0=>by
 obtain ⟨h1,cur,h2,h3⟩:=h h0
 exact ⟨h1,cur,u.row h2 hX,h3⟩
theorem FoAt.mB (h:FoAt f L q W R A ds need cl fr):q.M≤q.B:=by
 have h1:=h.mX _ (.inl rfl)
 have h2:=h.xb _ (.inl rfl)
 omega
theorem FoAt.low (h:FoAt f L q W R A ds need cl fr) (u:Upd (foY q) W W'):Below q.M W W':=u.below (fun k hk=>by
 have:=h.mB
 rcases hk with hk|hk
 ·exact h.mX k hk
 ·omega) (Nat.le_trans h.mB h.bB)
theorem FoAt.upd (h:FoAt f L q W R A ds need cl fr) (u:Upd (foY q) W W') (hr:Row W' q.R (ints R').toArray 3) (ha:acB W' q A') (hn:Row W' q.N (bls ds').toArray 4) (he:Row W' q.E (bls need').toArray 4) (hc:Row W' q.C (bls cl').toArray 4) (hf:Row W' q.F (ints fr').toArray 3)
  (e1:R'.length=R.length) (e2:A'.length=A.length) (e3:ds'.length=ds.length) (e4:need'.length=need.length) (e5:cl'.length=cl.length) (e6:fr'.length=fr.length) (w1:∀x∈R',Wf x) (w2:∀x∈A',AcIn x) (w3:∀x∈fr',Wf x):FoAt f L q W' R' A' ds' need' cl' fr':=
 ⟨fun W2 u2=>h.keep W2 (u.trans u2),Nat.le_trans h.bB u.size,h.xb,h.db,h.xs,h.mX,h.fm.below (h.low u),h.ne,hr,ha,hn,he,hc,hf,e1.trans h.rl,e2.trans h.al,e3.trans h.nl,e4.trans h.el,e5.trans h.kl,e6.trans h.fl,w1,w2,w3⟩
theorem FoAt.below (h:FoAt f L q W R A ds need cl fr) (hb:Below W.heap.size W W'):FoAt f L q W' R A ds need cl fr:=
 h.upd (Upd.of_below hb) (h.r.below hb h.r.lt) (h.a.upd (X:=fun _=>False) (Upd.of_below hb) (fun g=>g)) (h.n.below hb h.n.lt) (h.e.below hb h.e.lt) (h.c.below hb h.c.lt) (h.fb.below hb h.fb.lt) rfl rfl rfl rfl rfl rfl h.wR h.wA h.wF
theorem FoAt.nes (h:FoAt f L q W R A ds need cl fr):(q.R≠q.A∧q.R≠q.N∧q.R≠q.E∧q.R≠q.C∧q.R≠q.F)∧(q.A≠q.N∧q.A≠q.E∧q.A≠q.C∧q.A≠q.F)∧(q.N≠q.E∧q.N≠q.C∧q.N≠q.F)∧(q.E≠q.C∧q.E≠q.F)∧q.C≠q.F:=by
 have:=h.ne
 simpa[and_assoc] using this
theorem FoAt.box (h:FoAt f L q W R A ds need cl fr) (u:Upd (fun k=>q.B≤k) W W'):FoAt f L q W' R A ds need cl fr:=by
 have x:=fun {k} (hk:foX q k)=>(fun (g:q.B≤k)=>by have:=h.xb k hk;omega:¬q.B≤k)
 exact h.upd (u.mono (fun k e=> .inr e)) (u.row h.r (x (.inl rfl))) (h.a.upd u (x (.inr (.inl rfl)))) (u.row h.n (x (.inr (.inr (.inl rfl))))) (u.row h.e (x (.inr (.inr (.inr (.inl rfl)))))) (u.row h.c (x (.inr (.inr (.inr (.inr (.inl rfl))))))) (u.row h.fb (x (.inr (.inr (.inr (.inr (.inr rfl))))))) rfl rfl rfl rfl rfl rfl h.wR h.wA h.wF
theorem FoAt.xlt (h:FoAt f L q W R A ds need cl fr):∀k,foX q k→k<W.heap.size:=fun k hk=>Nat.lt_of_lt_of_le (h.xb k hk) h.bB
theorem FoAt.setR (h:FoAt f L q W R A ds need cl fr) (m:Nat) {x:Int} (hx:Wf x):FoAt f L q (W.setCell ⟨q.R,m,none⟩ (.int .i64 x)) (R.set m x) A ds need cl fr∧Upd (fun k=>k=q.R) W (W.setCell ⟨q.R,m,none⟩ (.int .i64 x)):=by
 obtain ⟨⟨n1,n2,n3,n4,n5⟩,_⟩:=h.nes
 have u:=Upd.setCell (X:=fun k=>k=q.R) (p:=⟨q.R,m,none⟩) (Upd.refl _ W) rfl (.int .i64 x)
 exact ⟨h.upd (u.mono (fun k e=> .inl (.inl e))) (vs_set h.r m x) (h.a.upd u (Ne.symm n1)) (u.row h.n (Ne.symm n2)) (u.row h.e (Ne.symm n3)) (u.row h.c (Ne.symm n4)) (u.row h.fb (Ne.symm n5)) (by simp) rfl rfl rfl rfl rfl (wf_set h.wR hx) h.wA h.wF,u⟩
theorem FoAt.setN (h:FoAt f L q W R A ds need cl fr) (m:Nat):FoAt f L q (W.setCell ⟨q.N,m,none⟩ (.bool true)) R A (ds.set m true) need cl fr∧Upd (fun k=>k=q.N) W (W.setCell ⟨q.N,m,none⟩ (.bool true)):=by
 obtain ⟨⟨_,n1,_⟩,⟨n2,_⟩,⟨n3,n4,n5⟩,_⟩:=h.nes
 have u:=Upd.setCell (X:=fun k=>k=q.N) (p:=⟨q.N,m,none⟩) (Upd.refl _ W) rfl (.bool true)
 exact ⟨h.upd (u.mono (fun k e=> .inl (.inr (.inr (.inl e))))) (u.row h.r n1) (h.a.upd u n2) (ds_set (m:=m) h.n true) (u.row h.e (Ne.symm n3)) (u.row h.c (Ne.symm n4)) (u.row h.fb (Ne.symm n5)) rfl rfl (by simp) rfl rfl rfl h.wR h.wA h.wF,u⟩
theorem FoAt.setE (h:FoAt f L q W R A ds need cl fr) (m:Nat):FoAt f L q (W.setCell ⟨q.E,m,none⟩ (.bool true)) R A ds (need.set m true) cl fr∧Upd (fun k=>k=q.E) W (W.setCell ⟨q.E,m,none⟩ (.bool true)):=by
 obtain ⟨⟨_,_,n1,_⟩,⟨_,n2,_⟩,⟨n3,_⟩,⟨n4,n5⟩,_⟩:=h.nes
 have u:=Upd.setCell (X:=fun k=>k=q.E) (p:=⟨q.E,m,none⟩) (Upd.refl _ W) rfl (.bool true)
 exact ⟨h.upd (u.mono (fun k e=> .inl (.inr (.inr (.inr (.inl e)))))) (u.row h.r n1) (h.a.upd u n2) (u.row h.n n3) (ds_set (m:=m) h.e true) (u.row h.c (Ne.symm n4)) (u.row h.fb (Ne.symm n5)) rfl rfl rfl (by simp) rfl rfl h.wR h.wA h.wF,u⟩
theorem FoAt.setC (h:FoAt f L q W R A ds need cl fr) (m:Nat):FoAt f L q (W.setCell ⟨q.C,m,none⟩ (.bool true)) R A ds need (cl.set m true) fr∧Upd (fun k=>k=q.C) W (W.setCell ⟨q.C,m,none⟩ (.bool true)):=by
 obtain ⟨⟨_,_,_,n1,_⟩,⟨_,_,n2,_⟩,⟨_,n3,_⟩,⟨n4,_⟩,n5⟩:=h.nes
 have u:=Upd.setCell (X:=fun k=>k=q.C) (p:=⟨q.C,m,none⟩) (Upd.refl _ W) rfl (.bool true)
 exact ⟨h.upd (u.mono (fun k e=> .inl (.inr (.inr (.inr (.inr (.inl e))))))) (u.row h.r n1) (h.a.upd u n2) (u.row h.n n3) (u.row h.e n4) (ds_set (m:=m) h.c true) (u.row h.fb (Ne.symm n5)) rfl rfl rfl rfl (by simp) rfl h.wR h.wA h.wF,u⟩
theorem FoAt.setF (h:FoAt f L q W R A ds need cl fr) (m:Nat) {x:Int} (hx:Wf x):FoAt f L q (W.setCell ⟨q.F,m,none⟩ (.int .i64 x)) R A ds need cl (fr.set m x)∧Upd (fun k=>k=q.F) W (W.setCell ⟨q.F,m,none⟩ (.int .i64 x)):=by
 obtain ⟨⟨_,_,_,_,n1⟩,⟨_,_,_,n2⟩,⟨_,_,n3⟩,⟨_,n4⟩,n5⟩:=h.nes
 have u:=Upd.setCell (X:=fun k=>k=q.F) (p:=⟨q.F,m,none⟩) (Upd.refl _ W) rfl (.int .i64 x)
 exact ⟨h.upd (u.mono (fun k e=> .inl (.inr (.inr (.inr (.inr (.inr e))))))) (u.row h.r n1) (h.a.upd u n2) (u.row h.n n3) (u.row h.e n4) (u.row h.c n5) (vs_set h.fb m x) rfl rfl rfl rfl rfl (by simp) h.wR h.wA (wf_set h.wF hx),u⟩
theorem acF_get {l:List Ac} {i:Nat} {x:Ac} (h:l[i]? =some x) {j:Nat} (hj:j<6):(acF l)[i*6+j]? =(acC x)[j]? :=by
 unfold acF
 exact flatten_get (k:=6) (fun cs h=>by obtain ⟨x,_,rfl⟩:=List.mem_map.1 h;rfl) (by rw[List.getElem?_map,h];rfl) hj
theorem acB.cell (h:acB W q A) {i:Nat} {x:Ac} (hx:A[i]? =some x) {j:Nat} {u:Value} (hu:(acC x)[j]? =some u):W.cell? ⟨q.A,i*6+j,none⟩=some u∧W.frozen? ⟨q.A,i*6+j,none⟩=false:=by
 have hi:=(List.getElem?_eq_some_iff.1 hx).1
 obtain ⟨_,cur,h1,h2,h3⟩:=h (by omega)
 have hj:j<6:=(List.getElem?_eq_some_iff.1 hu).1
 refine ⟨?_,h1.frozen _⟩
 rw[h1.cell,List.getElem?_toArray]
 have:(cur.take (A.length*6))[i*6+j]? =some u:=by rw[h3,acF_get hx hj];exact hu
 rwa [List.getElem?_take_of_lt (by omega)] at this
theorem acB.six (h:acB W q A) {i:Nat} {x:Ac} (hx:A[i]? =some x):(W.cell? ⟨q.A,i*6,none⟩=some (.int .i64 x.op)∧W.cell? ⟨q.A,i*6+1,none⟩=some (.int .i64 x.dst)∧W.cell? ⟨q.A,i*6+2,none⟩=some (.int .i64 x.a)∧W.cell? ⟨q.A,i*6+3,none⟩=some (.int .i64 x.b)∧W.cell? ⟨q.A,i*6+4,none⟩=some (.int .i64 x.c)∧W.cell? ⟨q.A,i*6+5,none⟩=some (.int .i64 x.k))∧
  (W.frozen? ⟨q.A,i*6,none⟩=false∧W.frozen? ⟨q.A,i*6+1,none⟩=false∧W.frozen? ⟨q.A,i*6+2,none⟩=false∧W.frozen? ⟨q.A,i*6+3,none⟩=false∧W.frozen? ⟨q.A,i*6+4,none⟩=false∧W.frozen? ⟨q.A,i*6+5,none⟩=false):=by
 have c:=fun {j u} g=>h.cell (j:=j) (u:=u) hx g
 exact ⟨⟨(c (j:=0) rfl).1,(c (j:=1) rfl).1,(c (j:=2) rfl).1,(c (j:=3) rfl).1,(c (j:=4) rfl).1,(c (j:=5) rfl).1⟩,(c (j:=0) rfl).2,(c (j:=1) rfl).2,(c (j:=2) rfl).2,(c (j:=3) rfl).2,(c (j:=4) rfl).2,(c (j:=5) rfl).2⟩
def setAc (W:World) (K i:Nat) (y:Ac):World:=(((((W.setCell ⟨K,i*6,none⟩ (.int .i64 y.op)).setCell ⟨K,i*6+1,none⟩ (.int .i64 y.dst)).setCell ⟨K,i*6+2,none⟩ (.int .i64 y.a)).setCell ⟨K,i*6+3,none⟩ (.int .i64 y.b)).setCell ⟨K,i*6+4,none⟩ (.int .i64 y.c)).setCell ⟨K,i*6+5,none⟩ (.int .i64 y.k)
theorem setAc_cells (W:World) (K i:Nat) (y:Ac):setAc W K i y=W.setCells K (i*6) (acC y):=rfl
theorem acF_set {l:List Ac} {i:Nat} {y:Ac} (hi:i<l.length):acF (l.set i y)=(acF l).take (i*6)++acC y++(acF l).drop (i*6+6):=by
 have e:l=l.take i++l[i]::l.drop (i+1):=by rw[List.getElem_cons_drop,List.take_append_drop]
 have h1:l.set i y=l.take i++y::l.drop (i+1):=by rw[List.set_eq_take_append_cons_drop,if_pos hi]
 have hl:(acF (l.take i)).length=i*6:=by rw[acF_len,List.length_take,Nat.min_eq_left (by omega)]
 have h2:acF l=acF (l.take i)++(acC l[i]++acF (l.drop (i+1))):=by
  conv=>lhs;rw[e]
  rw[acF_append]
  rfl
 rw[h1,acF_append,show acF (y::l.drop (i+1))=acC y++acF (l.drop (i+1)) from rfl,h2]
 have t1:(acF (l.take i)++(acC l[i]++acF (l.drop (i+1)))).take (i*6)=acF (l.take i):=by rw[←hl];exact List.take_left ..
 have t2:(acF (l.take i)++(acC l[i]++acF (l.drop (i+1)))).drop (i*6+6)=acF (l.drop (i+1)):=by
  rw[←List.append_assoc,show i*6+6=(acF (l.take i)++acC l[i]).length by rw[List.length_append,hl,acC_len]]
  exact List.drop_left ..
 rw[t1,t2,List.append_assoc]
theorem FoAt.setA (h:FoAt f L q W R A ds need cl fr) {i:Nat} (hi:i<A.length) {y:Ac} (hy:AcIn y):FoAt f L q (setAc W q.A i y) R (A.set i y) ds need cl fr∧Upd (fun k=>k=q.A) W (setAc W q.A i y):=by
 obtain ⟨⟨n1,_⟩,⟨n2,n3,n4,n5⟩,_⟩:=h.nes
 have u:Upd (fun k=>k=q.A) W (setAc W q.A i y):=by rw[setAc_cells];exact upd_setCells _ _ _ (Upd.refl _ _)
 refine ⟨h.upd (u.mono (fun k e=> .inl (.inr (.inl e)))) (u.row h.r n1) (fun _=>?_) (u.row h.n (Ne.symm n2)) (u.row h.e (Ne.symm n3)) (u.row h.c (Ne.symm n4)) (u.row h.fb (Ne.symm n5)) rfl (by simp) rfl rfl rfl rfl h.wR (fun x hx=>?_) h.wF,u⟩
 ·obtain ⟨h1,cur,h2,h3,h4⟩:=h.a (by omega)
  have hr:=row_setCells (acC y) (i*6) W cur (by rw[acC_len];omega) h2
  rw[←setAc_cells,acC_len] at hr
  refine ⟨by rw[List.length_set];exact h1,_,hr,?_,?_⟩
  ·simp only[List.length_set,List.length_append,List.length_take,List.length_drop,acC_len];omega
  ·rw[List.length_set,acF_set hi,←h4]
   have l1:(cur.take (i*6)++acC y).length=i*6+6:=by rw[List.length_append,List.length_take,acC_len];omega
   rw[List.take_append,l1,List.take_of_length_le (by rw[l1];omega),List.take_take,Nat.min_eq_left (by omega),List.drop_take]
 ·rcases List.mem_or_eq_of_mem_set hx with hx|hx
  ·exact h.wA x hx
  ·rw[hx];exact hy
theorem FoAt.cells (h:FoAt f L q W R A ds need cl fr):W.cell? ⟨q.D,0,none⟩=some q.vw∧W.cell? ⟨q.D,1,none⟩=some q.va∧W.cell? ⟨q.D,2,none⟩=some q.vc∧W.cell? ⟨q.D,3,none⟩=some q.vk∧W.cell? ⟨q.D,4,none⟩=some q.vi∧W.cell? ⟨q.D,5,none⟩=some q.vo∧W.cell? ⟨q.D,6,none⟩=some q.vb∧W.cell? ⟨q.D,7,none⟩=some (.slice (some ⟨q.R,0,none⟩) f.wires.length f.wires.length)∧W.cell? ⟨q.D,8,none⟩=some q.vx∧
  W.cell? ⟨q.D,9,none⟩=some (.slice (some ⟨q.N,0,none⟩) f.wires.length f.wires.length)∧W.cell? ⟨q.D,10,none⟩=some (.slice (some ⟨q.E,0,none⟩) f.wires.length f.wires.length)∧W.cell? ⟨q.D,11,none⟩=some (.slice (some ⟨q.C,0,none⟩) f.cells.length f.cells.length)∧W.cell? ⟨q.D,12,none⟩=some (.slice (some ⟨q.F,0,none⟩) f.cells.length f.cells.length):=by
 have r:=(h.keep W (Upd.refl _ _)).row
 exact ⟨r.cell 0,r.cell 1,r.cell 2,r.cell 3,r.cell 4,r.cell 5,r.cell 6,r.cell 7,r.cell 8,r.cell 9,r.cell 10,r.cell 11,r.cell 12⟩
theorem FoAt.at_ (h:FoAt f L q W R A ds need cl fr) (hL:ByL f L) {m:Nat} (hm:m<f.wires.length):∃b off cb,q.vb= .slice (some ⟨b,off,none⟩) f.wires.length cb∧cb≤9223372036854775807∧f.wires.length≤cb∧W.cell? ⟨b,off+m,none⟩=some (.int .i64 (getI L (m:Int))):=by
 obtain ⟨Ab,cb,e,h1,h2,s⟩:=(h.keep W (Upd.refl _ _)).lb
 obtain ⟨b,off,x,rfl,_,hx,_,hc⟩:=s.int (k:=m) (by rw[hL.1];exact hm)
 rw[hL.1] at e h1
 refine ⟨b,off,cb,e,by unfold maxLen at h2;omega,h1,?_⟩
 rw[hc]
 simp[getI,List.getD_eq_getElem?_getD,hx]
end
def optV:Option Int→Value
 |some k=> .tuple #[.int .i64 k,.bool true]
 |none=> .tuple #[.int .i64 0,.bool false]
section
variable {f:Fm} {L:List Int} {q:FoQ} {W:World} {R:List Int} {A:List Ac} {ds need cl:List Bool} {fr:List Int}
set_option maxRecDepth 100000 in
set_option maxHeartbeats 4000000 in
theorem fnum_any (h:FoAt f L q W R A ds need cl fr) (hL:ByL f L) (hd:definedOk f) (hA:Fo.dstsOf A=Fo.dstsOf f.acts) {n:Int} (hn:isW f n):
  Calls Try.prog 58 #[.pointer (some ⟨q.D,0,none⟩),.int .i64 n] W fun e w'=>e= .returned (optV (numAt A n))∧Below W.heap.size W w':=by
 obtain ⟨m,rfl⟩:=Int.eq_ofNat_of_zero_le hn.1
 have hm:m<f.wires.length:=by have:=hn.2;omega
 have hm':(m:Int)<f.wires.length:=by omega
 obtain ⟨b,off,cb,hvb,mb,lb,hc⟩:=h.at_ hL hm
 obtain ⟨d0,d1,d2,d3,d4,d5,d6,d7,d8,d9,d10,d11,d12⟩:=h.cells
 rw[hvb] at d6
 rcases hL.2.2 _ hn with ⟨hi,e⟩|⟨i,x,hx,hxd,e⟩
 ·have HN:=Lib.hid (numAt_in hd hA hi)
  rw[e] at hc
  clear h hL hd hA hn hi e hvb
  go_enter Try.func58,Try.ntmps58
  go_wp2_with fail
  go_ret2
  exact ⟨by rw[HN.out];rfl,Below.refl _ _⟩
 ·obtain ⟨y,hy,hyd,hya⟩:=act_of_idx hd hA hx
  rw[hxd] at hya
  have hil:=(List.getElem?_eq_some_iff.1 hy).1
  obtain ⟨⟨hvx,lx,mx⟩,_⟩:=h.a (by omega)
  rw[hvx] at d8
  have mx':q.cap≤9223372036854775807:=by unfold maxLen at mx;omega
  obtain ⟨⟨c0,c1,c2,c3,c4,c5⟩,_⟩:=h.a.six hy
  have hil':(i:Int)<A.length:=by omega
  have hi0:(0:Int)≤(i:Int):=by omega
  have hi1:((i:Int)<0)=False:=by simp
  have HN:=Lib.hid (numAt_act hya)
  have HP:=Lib.hid (plain_any y W)
  have HD8:Hid (∀W',Below W.heap.size W W'→W'.cell? ⟨q.D,8,none⟩=some (.slice (some ⟨q.A,0,none⟩) A.length q.cap)∧W'.cell? ⟨q.A,i*6+5,none⟩=some (.int .i64 y.k)):=fun W' hW=>⟨cell_kept d8 hW,cell_kept c5 hW⟩
  rw[e] at hc
  clear h hL hd hA hn hx hxd e hvb hvx hya hy hyd mx hi1
  obtain ⟨op,dst,a,b',c,k⟩:=y
  dsimp only at c0 c1 c2 c3 c4 c5 HD8 HN
  have HV:Hid (optV (numAt A (m:Int))=if decide (op=1∨op=2)=true then .tuple #[.int .i64 k,.bool true] else .tuple #[.int .i64 0,.bool false]):=by
   show _=_
   rw[HN.out]
   by_cases g:op=1∨op=2<;>simp[g,optV]
  clear HN
  generalize decide (op=1∨op=2)=pb at*
  go_enter Try.func58,Try.ntmps58
  go_wp2_with fail
  (with_reducible refine HP.out.mono ?_)
  rintro e w1 ⟨rfl,hb1⟩
  obtain ⟨g1,g2⟩:=HD8.out w1 hb1
  clear HP
  cases pb
  ·go_wp2_with fail
   go_ret2
   exact ⟨by rw[HV.out];rfl,hb1⟩
  ·go_wp2_with fail
   go_ret2
   exact ⟨by rw[HV.out];rfl,hb1⟩
end
end Go.Proofs.Ytckognjamlckcaa
namespace Go.Proofs.Ytckognjamlckcaa
open Go.RowKit Vf Fo Ar
attribute [local go_sem ↓] Go.wp_at_zero Go.wp_at_succ
section
variable {f:Fm} {L:List Int} {q:FoQ} {W:World} {R:List Int} {A:List Ac} {ds need cl:List Bool} {fr:List Int}
theorem FoAt.wire (h:FoAt f L q W R A ds need cl fr) {m:Nat} (hm:m<f.wires.length):∃b off cw Ag cg,q.vw= .slice (some ⟨b,off,none⟩) f.wires.length cw∧cw≤9223372036854775807∧f.wires.length≤cw∧Wf (tyOf f (m:Int))∧W.cell? ⟨b,off+m*2,none⟩=some (.int .i64 (tyOf f (m:Int)))∧W.cell? ⟨b,off+m*2+1,none⟩=some (.slice Ag (clockOf f (m:Int)).length cg)∧(clockOf f (m:Int)).length≤cg∧cg≤maxLen∧Sl W q.B 2 isGd Ag (clockOf f (m:Int)):=by
 obtain ⟨Aw,cw,e,h1,h2,s⟩:=(h.keep W (Upd.refl _ _)).fm.wires
 obtain ⟨b,off,x,Ag,cg,rfl,_,hx,wt,c0,c1,l1,m1,sg⟩:=s.wr (k:=m) hm
 have hw:wAt f (m:Int)=x:=wAt_some hx
 refine ⟨b,off,cw,Ag,cg,e,by unfold maxLen at h2;omega,h1,?_⟩
 unfold tyOf clockOf
 rw[hw]
 exact ⟨wt,c0,c1,l1,m1,sg⟩
theorem FoAt.acts (h:FoAt f L q W R A ds need cl fr) {i:Nat} {y:Ac} (hy:A[i]? =some y):q.vx= .slice (some ⟨q.A,0,none⟩) A.length q.cap∧A.length≤q.cap∧q.cap≤9223372036854775807:=by
 have hi:=(List.getElem?_eq_some_iff.1 hy).1
 obtain ⟨⟨h1,h2,h3⟩,_⟩:=h.a (by omega)
 exact ⟨h1,h2,by unfold maxLen at h3;omega⟩
set_option maxRecDepth 100000 in
set_option maxHeartbeats 4000000 in
theorem turn_any (h:FoAt f L q W R A ds need cl fr) {i:Nat} {y:Ac} (hy:A[i]? =some y) (hd:isW f y.dst) {k:Int} (hk:Wf k):
  Calls Try.prog 59 #[.pointer (some ⟨q.D,0,none⟩),.int .i64 i,.int .i64 k] W fun e w'=>e= .returned (.tuple #[])∧FoAt f L q w' R (A.set i (turnAc f y.dst k)) ds need cl fr∧Upd (fun k=>k=q.A) W w':=by
 obtain ⟨op,dst,a,b',c,k0⟩:=y
 dsimp only at hd⊢
 obtain ⟨m,rfl⟩:=Int.eq_ofNat_of_zero_le hd.1
 have hm:m<f.wires.length:=by have:=hd.2;omega
 have hm':(m:Int)<f.wires.length:=by omega
 have hil:=(List.getElem?_eq_some_iff.1 hy).1
 have hil':(i:Int)<A.length:=by omega
 obtain ⟨hvx,lx,mx⟩:=h.acts hy
 obtain ⟨b,off,cw,Ag,cg,hvw,mw,lw,wt,t0,_⟩:=h.wire hm
 obtain ⟨d0,d1,d2,d3,d4,d5,d6,d7,d8,d9,d10,d11,d12⟩:=h.cells
 obtain ⟨⟨c0,c1,c2,c3,c4,c5⟩,z0,z1,z2,z3,z4,z5⟩:=h.a.six hy
 rw[hvx] at d8
 rw[hvw] at d0
 have H1:=Lib.hid (h.setA hil (y:=turnAc f (m:Int) k) ⟨wt,wf_of (by dsimp only[turnAc];omega),wf_of (by dsimp only[turnAc];omega),wf_of (by dsimp only[turnAc];omega),wf_of (by dsimp only[turnAc];omega),hk⟩)
 dsimp only at c0 c1 c2 c3 c4 c5
 clear h hy hd hvx hvw hk
 go_enter Try.func59,Try.ntmps59
 go_wp2_with fail
 go_region
 go_wp2_with fail
 go_end0
 exact ⟨rfl,H1.out.1.below ((Below.refl _ _).drew),H1.out.2.drew⟩
theorem optV_is (o:Option Int):(o=none∧optV o= .tuple #[.int .i64 0,.bool false])∨∃k,o=some k∧optV o= .tuple #[.int .i64 k,.bool true]:=by
 cases o with
 |none=>exact .inl ⟨rfl,rfl⟩
 |some k=>exact .inr ⟨k,rfl,rfl⟩
set_option maxRecDepth 100000 in
set_option maxHeartbeats 8000000 in
theorem reckon_any (h:FoAt f L q W R A ds need cl fr) (hL:ByL f L) (hd:definedOk f) (hA:Fo.dstsOf A=Fo.dstsOf f.acts) {i:Nat} {y:Ac} (hy:A[i]? =some y) (hdst:isW f y.dst) (ha:isW f y.a) (hb:isW f y.b) (hop:5≤y.op∧y.op≤20):
  Calls Try.prog 60 #[.pointer (some ⟨q.D,0,none⟩),.int .i64 i] W fun e w'=>e= .returned (.tuple #[])∧FoAt f L q w' R (recF f A i y) ds need cl fr∧Upd (fun k=>k=q.A) W w':=by
 have hil:=(List.getElem?_eq_some_iff.1 hy).1
 have hil':(i:Int)<A.length:=by omega
 obtain ⟨hvx,lx,mx⟩:=h.acts hy
 obtain ⟨d0,d1,d2,d3,d4,d5,d6,d7,d8,d9,d10,d11,d12⟩:=h.cells
 rw[hvx] at d8
 obtain ⟨⟨c0,c1,c2,c3,c4,c5⟩,_⟩:=h.a.six hy
 have HB:=Lib.hid (fun W' (hW:Below W.heap.size W W')=>h.below hW)
 have HN:=Lib.hid (fun W' (hW:Below W.heap.size W W')=>fnum_any (h.below hW) hL hd hA ha)
 have HN2:=Lib.hid (fun W' (hW:Below W.heap.size W W')=>fnum_any (h.below hW) hL hd hA hb)
 have HT:=Lib.hid (fun W' (hW:Below W.heap.size W W') k (hk:Wf k)=>turn_any (h.below hW) hy hdst hk)
 obtain ⟨op,dst,a,b,c,k⟩:=y
 dsimp only at c0 c1 c2 c3 c4 c5 hop ha hb hdst
 have HRN:Hid (numAt A a=none→recF f A i ⟨op,dst,a,b,c,k⟩=A):=fun e=>by unfold recF;rw[e]
 have HR1:Hid (∀p,numAt A a=some p→(op=5∨op=6)→recF f A i ⟨op,dst,a,b,c,k⟩=A.set i (turnAc f dst (oneV op p))):=fun p e g=>by unfold recF;rw[e];exact if_pos g
 have HR2:Hid (∀p,numAt A a=some p→¬(op=5∨op=6)→numAt A b=none→recF f A i ⟨op,dst,a,b,c,k⟩=A):=fun p e g e2=>by unfold recF;rw[e];dsimp only;rw[if_neg g,e2]
 have HR3:Hid (∀p,numAt A a=some p→¬(op=5∨op=6)→∀r,numAt A b=some r→recF f A i ⟨op,dst,a,b,c,k⟩=A.set i (turnAc f dst (doV op p r))):=fun p e g r e2=>by unfold recF;rw[e];dsimp only;rw[if_neg g,e2]
 have b1:Below W.heap.size W (W.alloc (.cells #[.int .i64 op,.int .i64 dst,.int .i64 a,.int .i64 b,.int .i64 c,.int .i64 k] 50)):=bE
 have r6:=Row.new W #[.int .i64 op,.int .i64 dst,.int .i64 a,.int .i64 b,.int .i64 c,.int .i64 k] 50
 clear h hL hd hA hy hvx hdst ha hb
 go_enter Try.func60,Try.ntmps60
 go_upto_region 1 with (fail)
 generalize W.alloc (.cells #[.int .i64 op,.int .i64 dst,.int .i64 a,.int .i64 b,.int .i64 c,.int .i64 k] 50)=w1 at*
 clear d0 d1 d2 d3 d4 d5 d6 d7 d8 d9 d10 d11 d12 c0 c1 c2 c3 c4 c5
 obtain ⟨e0,e1,e2,e3,e4,e5⟩:=r6.six'
 have hs1:=b1.size
 have HNa:=Lib.hid (HN.out _ b1)
 go_wp2_with fail
 (with_reducible refine HNa.out.mono ?_)
 rintro e w2 ⟨rfl,hb2⟩
 have b2:=b1.trans (hb2.mono hs1)
 have r62:=r6.below hb2 r6.lt
 clear e0 e1 e2 e3 e4 e5 HNa
 obtain ⟨e0,e1,e2,e3,e4,e5⟩:=r62.six'
 rcases optV_is (numAt A a) with ⟨hn,hv⟩|⟨p,hn,hv⟩
 ·have HE:=Lib.hid (HRN.out hn)
  rw[hv]
  clear hn hv
  go_wp2_with fail
  (try simp only[Exit.inBlock,Exit.then]);refine bodyPost_ret (results_none rfl _ _ _) rfl ?_
  exact ⟨rfl,by rw[HE.out];exact HB.out _ b2,Upd.of_below b2⟩
 rw[hv]
 have HNA:=Lib.hid hn
 have HO:=Lib.hid (one_any op p w2)
 clear hn hv
 by_cases h1:op=5∨op=6
 ·have HE:=Lib.hid (HR1.out p HNA.out h1)
  have hob:oneB op=true:=by rcases h1 with rfl|rfl<;>rfl
  rw[hob] at HO
  have HTT:=Lib.hid (HT.out _ b2 (oneV op p) (one_wf op p))
  clear h1 hob
  go_wp2_with fail
  (with_reducible refine HO.out.mono ?_)
  rintro e _ ⟨rfl,rfl⟩
  go_wp2_with fail
  (with_reducible refine HTT.out.mono ?_)
  rintro e w3 ⟨rfl,h3,u3⟩
  go_wp2_with fail
  (try simp only[Exit.inBlock,Exit.then]);refine bodyPost_ret (results_none rfl _ _ _) rfl ?_
  exact ⟨rfl,by rw[HE.out];exact h3,(Upd.of_below b2).trans u3⟩
 ·have hob:oneB op=false:=by unfold oneB;simp;omega
  rw[hob] at HO
  have H1:=Lib.hid h1
  have HN2':=Lib.hid (HN2.out _ b2)
  clear h1 hob
  go_wp2_with fail
  (with_reducible refine HO.out.mono ?_)
  rintro e _ ⟨rfl,rfl⟩
  go_wp2_with fail
  (with_reducible refine HN2'.out.mono ?_)
  rintro e w3 ⟨rfl,hb3⟩
  have b3:=b2.trans (hb3.mono b2.size)
  have r63:=r62.below hb3 r62.lt
  clear e0 e1 e2 e3 e4 e5 HN2'
  obtain ⟨e0,e1,e2,e3,e4,e5⟩:=r63.six'
  rcases optV_is (numAt A b) with ⟨hn,hv⟩|⟨r,hn,hv⟩
  ·have HE:=Lib.hid (HR2.out p HNA.out H1.out hn)
   rw[hv]
   clear hn hv
   go_wp2_with fail
   go_end0
   exact ⟨rfl,by rw[HE.out];exact HB.out _ b3,Upd.of_below b3⟩
  rw[hv]
  have HE:=Lib.hid (HR3.out p HNA.out H1.out r hn)
  have HD:=Lib.hid (do_any op p r w3)
  have HTT:=Lib.hid (HT.out _ b3 (doV op p r) (do_wf op p r))
  clear hn hv
  go_wp2_with fail
  (with_reducible refine HD.out.mono ?_)
  rintro e _ ⟨rfl,rfl⟩
  go_wp2_with fail
  (with_reducible refine HTT.out.mono ?_)
  rintro e w4 ⟨rfl,h4,u4⟩
  go_wp2_with fail
  go_end0
  exact ⟨rfl,by rw[HE.out];exact h4,(Upd.of_below b3).trans u4⟩
end
end Go.Proofs.Ytckognjamlckcaa
namespace Go.Proofs.Ytckognjamlckcaa
open Go.RowKit Vf Fo Ar
attribute [local go_sem ↓] Go.wp_at_zero Go.wp_at_succ
theorem Row.set6a {W:World} {b:Nat} {t:TypeId} {z0 z1 z2 z3 z4 z5:Value} (h:Row W b #[z0,z1,z2,z3,z4,z5] t) (x0 x1 x2 x3 x4 x5:Value):Row ((((((W.setCell ⟨b,0,none⟩ x0).setCell ⟨b,1,none⟩ x1).setCell ⟨b,2,none⟩ x2).setCell ⟨b,3,none⟩ x3).setCell ⟨b,4,none⟩ x4).setCell ⟨b,5,none⟩ x5) b #[x0,x1,x2,x3,x4,x5] t:=by
 have:=(((((h.set 0 x0).set 1 x1).set 2 x2).set 3 x3).set 4 x4).set 5 x5
 simpa using this
theorem below_set6 {B b:Nat} {a w:World} (h:Below B a w) (hb:B≤b) (y0 y1 y2 y3 y4 y5:Value):Below B a ((((((w.setCell ⟨b,0,none⟩ y0).setCell ⟨b,1,none⟩ y1).setCell ⟨b,2,none⟩ y2).setCell ⟨b,3,none⟩ y3).setCell ⟨b,4,none⟩ y4).setCell ⟨b,5,none⟩ y5):=
 (((((h.setCell hb _).setCell hb _).setCell hb _).setCell hb _).setCell hb _).setCell hb _
theorem wants_le3 (x:Ac):(wants x).length≤3:=by
 unfold wants
 repeat' split
 all_goals simp
def onlyAc (x:Ac):Ac:=⟨x.op,x.dst,x.a,if (wants x).length<2 then 0 else x.b,if (wants x).length<3 then 0 else x.c,x.k⟩
theorem only_in {x:Ac} (h:AcIn x):AcIn (onlyAc x):=by
 refine ⟨h.op,h.dst,h.a,?_,?_,h.k⟩
 ·show Wf (if (wants x).length<2 then 0 else x.b)
  split
  ·exact wf_of (by omega)
  ·exact h.b
 ·show Wf (if (wants x).length<3 then 0 else x.c)
  split
  ·exact wf_of (by omega)
  ·exact h.c
set_option maxRecDepth 100000 in
set_option maxHeartbeats 4000000 in
theorem only_any (D:Value) (x:Ac) (hx:AcIn x) (hu:0≤uses x.op) (w:World):Calls Try.prog 56 #[D,acV x] w fun e w'=>e= .returned (acV (onlyAc x))∧Below w.heap.size w w':=by
 have HP:=Lib.hid (fun w=>parts_any x hx hu w)
 have HE:Hid (∀n,(wants x).length=n→onlyAc x=⟨x.op,x.dst,x.a,if n<2 then 0 else x.b,if n<3 then 0 else x.c,x.k⟩):=fun n e=>by unfold onlyAc;rw[e]
 have hl3:=wants_le3 x
 obtain ⟨op,dst,a,b,c,k⟩:=x
 dsimp only at HE
 have b1:Below w.heap.size w ((w.alloc (.cells #[.int .i64 op,.int .i64 dst,.int .i64 a,.int .i64 b,.int .i64 c,.int .i64 k] 50)).alloc (.cells #[.int .i64 0,.int .i64 0,.int .i64 0,.int .i64 0,.int .i64 0,.int .i64 0] 50)):=bE
 have rX:=(Row.new w #[.int .i64 op,.int .i64 dst,.int .i64 a,.int .i64 b,.int .i64 c,.int .i64 k] 50).alloc (.cells #[.int .i64 0,.int .i64 0,.int .i64 0,.int .i64 0,.int .i64 0,.int .i64 0] 50)
 have rR:=rowNew2 w (.cells #[.int .i64 op,.int .i64 dst,.int .i64 a,.int .i64 b,.int .i64 c,.int .i64 k] 50) #[.int .i64 0,.int .i64 0,.int .i64 0,.int .i64 0,.int .i64 0,.int .i64 0] 50
 clear hx hu
 go_enter Try.func56,Try.ntmps56
 go_upto_region 1 with (fail)
 generalize (w.alloc (.cells #[.int .i64 op,.int .i64 dst,.int .i64 a,.int .i64 b,.int .i64 c,.int .i64 k] 50)).alloc (.cells #[.int .i64 0,.int .i64 0,.int .i64 0,.int .i64 0,.int .i64 0,.int .i64 0] 50)=w1 at*
 have hs1:=b1.size
 obtain ⟨e0,e1,e2,e3,e4,e5⟩:=rX.six'
 go_wp2_with fail
 (with_reducible refine (HP.out _).mono ?_)
 rintro e w2 ⟨v,rfl,⟨Av,cv,rfl,lv,mv,sv⟩,_,hb2⟩
 have b2:=b1.trans (hb2.mono hs1)
 have rX2:=rX.below hb2 rX.lt
 have rR2:=rR.below hb2 rR.lt
 have hRl:=rR2.lt
 have mv':cv≤9223372036854775807:=by unfold maxLen at mv;omega
 have HE':=Lib.hid (HE.out _ rfl)
 clear e0 e1 e2 e3 e4 e5 rX rR hb2 b1 sv HE HP mv
 generalize (wants ⟨op,dst,a,b,c,k⟩).length=n at*
 obtain ⟨e0,e1,e2,e3,e4,e5⟩:=rX2.six'
 obtain ⟨r0,r1,r2,r3,r4,r5⟩:=rR2.six'
 have fX:=fun i=>rX2.frozen i
 have fR:=fun i=>rR2.frozen i
 have z3:=fX 3
 have z4:=fX 4
 have y0:=fR 0
 have y1:=fR 1
 have y2:=fR 2
 have y3:=fR 3
 have y4:=fR 4
 have y5:=fR 5
 clear fX fR
 generalize hG:w.heap.size=G at*
 have hG1:G≠G+1:=by omega
 have h3:n=3∨n=2∨n≤1:=by omega
 rcases h3 with rfl|rfl|h3
 ·have HV:Hid (onlyAc ⟨op,dst,a,b,c,k⟩=⟨op,dst,a,b,c,k⟩):=HE'.out
  clear HE'
  go_wp2_with fail
  exact bodyPost_ret (res1 rfl Try.underlying50 rfl (by kernel_rfl) rfl (rR2.set6a _ _ _ _ _ _)) rfl ⟨by rw[HV.out],by rw[hG];exact below_set6 b2 (by omega) _ _ _ _ _ _⟩
 ·have HV:Hid (onlyAc ⟨op,dst,a,b,c,k⟩=⟨op,dst,a,b,0,k⟩):=HE'.out
  clear HE'
  go_wp2_with fail
  exact bodyPost_ret (res1 rfl Try.underlying50 rfl (by kernel_rfl) rfl ((rR2.far (p:=⟨G,4,none⟩) (by simp) _).set6a _ _ _ _ _ _)) rfl ⟨by rw[HV.out],by rw[hG];exact below_set6 (b2.setCell (p:=⟨G,4,none⟩) (Nat.le_refl _) _) (by omega) _ _ _ _ _ _⟩
 ·have HV:Hid (onlyAc ⟨op,dst,a,b,c,k⟩=⟨op,dst,a,0,0,k⟩):=by
   show _=_
   rw[HE'.out,if_pos (by omega),if_pos (by omega)]
  have q1:((n:Int)<3):=by omega
  have q2:((n:Int)<2):=by omega
  clear HE'
  go_wp2_with fail
  exact bodyPost_ret (res1 rfl Try.underlying50 rfl (by kernel_rfl) rfl (((rR2.far (p:=⟨G,4,none⟩) (by simp) _).far (p:=⟨G,3,none⟩) (by simp) _).set6a _ _ _ _ _ _)) rfl ⟨by rw[HV.out],by rw[hG];exact below_set6 ((b2.setCell (p:=⟨G,4,none⟩) (Nat.le_refl _) _).setCell (p:=⟨G,3,none⟩) (Nat.le_refl _) _) (by omega) _ _ _ _ _ _⟩
section
variable {f:Fm} {L:List Int} {q:FoQ} {W:World} {R:List Int} {A:List Ac} {ds need cl:List Bool} {fr:List Int}
set_option maxRecDepth 100000 in
set_option maxHeartbeats 8000000 in
theorem choose_any (h:FoAt f L q W R A ds need cl fr) (hL:ByL f L) (hd:definedOk f) (hA:Fo.dstsOf A=Fo.dstsOf f.acts) {n:Int} (hn:isW f n) (y:Ac) (hy:AcIn y) (ha:isW f y.a):
  Calls Try.prog 57 #[.pointer (some ⟨q.D,0,none⟩),.int .i64 n,acV y] W fun e w'=>e= .returned (.tuple #[])∧FoAt f L q w' (chF R A n y) A ds need cl fr∧Upd (fun k=>k=q.R) W w':=by
 obtain ⟨m,rfl⟩:=Int.eq_ofNat_of_zero_le hn.1
 have hm:m<f.wires.length:=by have:=hn.2;omega
 have hm':(m:Int)<f.wires.length:=by omega
 have hmR:m<R.length:=by rw[h.rl];exact hm
 have HB:=Lib.hid (fun W' (hW:Below W.heap.size W W')=>h.below hW)
 have HN:=Lib.hid (fun W' (hW:Below W.heap.size W W')=>fnum_any (h.below hW) hL hd hA ha)
 obtain ⟨op,dst,a,b,c,k⟩:=y
 have hwb:Wf b:=hy.b
 have hwc:Wf c:=hy.c
 have H1:Hid (∀p,numAt A a=some p→(p≠0∨b=c)→chF R A (m:Int) ⟨op,dst,a,b,c,k⟩=R.set m b):=fun p e g=>by unfold chF;rw[e];exact if_pos g
 have H2:Hid (∀p,numAt A a=some p→¬(p≠0∨b=c)→chF R A (m:Int) ⟨op,dst,a,b,c,k⟩=R.set m c):=fun p e g=>by unfold chF;rw[e];exact if_neg g
 have H3:Hid (numAt A a=none→b=c→chF R A (m:Int) ⟨op,dst,a,b,c,k⟩=R.set m b):=fun e g=>by unfold chF;rw[e];exact if_pos g
 have H4:Hid (numAt A a=none→b≠c→chF R A (m:Int) ⟨op,dst,a,b,c,k⟩=R):=fun e g=>by unfold chF;rw[e];exact if_neg g
 have b1:Below W.heap.size W (W.alloc (.cells #[.int .i64 op,.int .i64 dst,.int .i64 a,.int .i64 b,.int .i64 c,.int .i64 k] 50)):=bE
 have rX:=Row.new W #[.int .i64 op,.int .i64 dst,.int .i64 a,.int .i64 b,.int .i64 c,.int .i64 k] 50
 clear h hL hd hA hn hy ha
 go_enter Try.func57,Try.ntmps57
 go_upto_region 1 with (fail)
 generalize W.alloc (.cells #[.int .i64 op,.int .i64 dst,.int .i64 a,.int .i64 b,.int .i64 c,.int .i64 k] 50)=w1 at*
 have hs1:=b1.size
 obtain ⟨e0,e1,e2,e3,e4,e5⟩:=rX.six'
 go_wp2_with fail
 (with_reducible refine (HN.out _ b1).mono ?_)
 rintro e w2 ⟨rfl,hb2⟩
 have b2:=b1.trans (hb2.mono hs1)
 have rX2:=rX.below hb2 rX.lt
 clear e0 e1 e2 e3 e4 e5 rX hb2 HN
 obtain ⟨e0,e1,e2,e3,e4,e5⟩:=rX2.six'
 have hF:=HB.out _ b2
 obtain ⟨d0,d1,d2,d3,d4,d5,d6,d7,d8,d9,d10,d11,d12⟩:=hF.cells
 have cR:=vs_cell hF.r (n:=m) hmR
 have fR:=hF.r.frozen m
 have HS1:=Lib.hid (hF.setR m hwb)
 have HS2:=Lib.hid (hF.setR m hwc)
 clear d0 d1 d2 d3 d4 d5 d6 d8 d9 d10 d11 d12 e0 e1 e2 e5 rX2
 rcases optV_is (numAt A a) with ⟨hn,hv⟩|⟨p,hn,hv⟩
 ·by_cases hbc:b=c
  ·have HE:=Lib.hid (H3.out hn hbc)
   have hbc':(b==c)=true:=by simp[hbc]
   rw[hv]
   clear hn hv hbc H1 H2 H3 H4
   go_wp2_with fail
   go_region
   go_wp2_with fail
   go_end0
   exact ⟨rfl,by rw[HE.out];exact HS1.out.1.below ((Below.refl _ _).drew),((Upd.of_below b2).trans HS1.out.2).drew⟩
  ·have HE:=Lib.hid (H4.out hn hbc)
   have hbc':(b==c)=false:=by simp[hbc]
   have HFF:=Lib.hid hF
   rw[hv]
   clear hn hv hbc H1 H2 H3 H4 hF
   go_wp2_with fail
   go_end0
   exact ⟨rfl,by rw[HE.out];exact HFF.out,Upd.of_below b2⟩
 ·by_cases hp:p=0
  ·by_cases hbc:b=c
   ·have HE:=Lib.hid (H1.out p hn (.inr hbc))
    have hbc':(b==c)=true:=by simp[hbc]
    have hp':(p !=0)=false:=by simp[hp]
    rw[hv]
    clear hn hv hbc H1 H2 H3 H4 hp
    go_wp2_with fail
    go_region
    go_wp2_with fail
    go_end0
    exact ⟨rfl,by rw[HE.out];exact HS1.out.1.below ((Below.refl _ _).drew),((Upd.of_below b2).trans HS1.out.2).drew⟩
   ·have HE:=Lib.hid (H2.out p hn (fun g=>by rcases g with g|g<;>contradiction))
    have hbc':(b==c)=false:=by simp[hbc]
    have hp':(p !=0)=false:=by simp[hp]
    rw[hv]
    clear hn hv hbc H1 H2 H3 H4 hp
    go_wp2_with fail
    go_region
    go_wp2_with fail
    go_end0
    exact ⟨rfl,by rw[HE.out];exact HS2.out.1.below ((Below.refl _ _).drew),((Upd.of_below b2).trans HS2.out.2).drew⟩
  ·have HE:=Lib.hid (H1.out p hn (.inl hp))
   have hp':(p !=0)=true:=by simp[hp]
   rw[hv]
   clear hn hv H1 H2 H3 H4 hp
   go_wp2_with fail
   go_region
   go_wp2_with fail
   go_end0
   exact ⟨rfl,by rw[HE.out];exact HS1.out.1.below ((Below.refl _ _).drew),((Upd.of_below b2).trans HS1.out.2).drew⟩
end
end Go.Proofs.Ytckognjamlckcaa
