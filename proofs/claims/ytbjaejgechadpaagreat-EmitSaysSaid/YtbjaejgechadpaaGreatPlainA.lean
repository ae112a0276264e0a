/-
  Machines that can't go wrong, as plain data: the looker's and the document's answers are one. A right machine's program without an instruction whose register is taken is not right (plain). Forms, as plain data. What emit makes of a form in order, as plain data; it is a right machine. What emit makes of a form in order is a right machine: the law. Forms, plain laws: cells and keeps; what defines wires; what can be put in a row. Forms, plain laws: when an act is right, op by op. The order of acts, as plain data. The order of acts, as the document has it: the same.
-/
import Derived.Below
namespace Go.Proofs.YtbjaejgechadpaaGreat.Vf
structure In5 where
 op:Int
 a:Int
 b:Int
 c:Int
 k:Int
structure Pg where
 ins:List Int
 outs:List Int
 regs:Int
 cells:List (Int × Int)
 code:List In5
def signIn (op:Int):Int:=if op=12∨op=13 then 0 else if op=6∨op=18∨op=19∨op=20 then 2 else if 5≤op∧op≤17 then 1 else 0
def signOut (op:Int):Int:=if op=6∨(12≤op∧op≤20) then 2 else if 5≤op∧op≤11 then 1 else 0
def typesOk (l:List Int):Prop:=(∀t∈l,t=1∨t=2)∧1≤l.length∧l.length≤8
def valueOk (kind n:Int):Prop:=kind=1∨(kind=2∧(n=0∨n=1))
def hasA (op:Int):Prop:=op=1∨op=2∨op=21∨(28≤op∧op≤32)
def hasAB (op:Int):Prop:=op=3∨op=5∨op=6
def hasABC (op:Int):Prop:=7≤op∧op≤20
def instrOk (x:In5):Prop:=
 (hasA x.op∨hasAB x.op∨hasABC x.op∨x.op=27)∧0≤x.a∧0≤x.b∧0≤x.c∧(hasA x.op→x.b=0)∧(hasA x.op∨hasAB x.op→x.c=0)∧(hasAB x.op∨hasABC x.op→x.k=0)
def mayOk (p:Pg):Prop:=
 (∀c∈p.cells,valueOk c.1 c.2)∧(∀x∈p.code,instrOk x)∧typesOk p.ins∧typesOk p.outs∧0≤p.regs∧p.regs≤1600∧p.cells.length≤60∧p.code.length≤2048
structure LS where
 kinds:List Int
 outs:List Bool
 past:Int
 bad:Bool
def getI (l:List Int) (n:Int):Int:=l.getD n.toNat 0
def LS.need (s:LS) (b:Bool):LS:={s with bad:=s.bad|| !b}
def LS.no (s:LS):LS:={s with bad:=true}
def has (l:List Int) (n:Int):Prop:=0≤n∧n<l.length
instance (l:List Int) (n:Int):Decidable (has l n):=by unfold has;exact inferInstance
def LS.takes (s:LS) (n:Int):Int × LS:=if has s.kinds n∧getI s.kinds n≠0 then (getI s.kinds n,s) else (0,s.no)
def LS.gives (s:LS) (n kind:Int):LS:=if has s.kinds n∧getI s.kinds n=0 then {s with kinds:=s.kinds.set n.toNat kind} else s.no
def LS.one (s:LS) (l:List Int) (n:Int):Int × LS:=if has l n then (getI l n,s) else (0,s.no)
def types (l:List (Int × Int)):List Int:=l.map (·.1)
def LS.reckons (s:LS) (x:In5) (i o:Int):LS:=
 let (kind,s1):=s.takes x.b
 let s2:=s1.need (i==0||kind==i)
 let s3:=if x.op≠5∧x.op≠6 then (let (k2,s'):=s2.takes x.c;s'.need (k2==kind)) else s2
 s3.gives x.a o
def LS.instr (p:Pg) (s:LS) (i:Int) (x:In5):LS:=
 if 5≤x.op∧x.op≤20 then s.reckons x (signIn x.op) (signOut x.op)
 else if x.op=1 then s.gives x.a 1
 else if x.op=2 then (s.need (x.k==0||x.k==1)).gives x.a 2
 else if x.op=3 then (s.takes x.b).2.gives x.a (s.takes x.b).1
 else if x.op=27 then
  let s1:=(s.takes x.b).2.need ((s.takes x.b).1==2)
  let s2:=(s1.takes x.c).2
  let kind:=(s1.takes x.c).1
  ((s2.takes x.k).2.need ((s2.takes x.k).1==kind)).gives x.a kind
 else if x.op=21 then (s.one (types p.cells) x.k).2.gives x.a (s.one (types p.cells) x.k).1
 else if x.op=28 then (s.one p.ins x.k).2.gives x.a (s.one p.ins x.k).1
 else if x.op=29 then
  let s1:=(s.takes x.a).2
  let s2:=(s1.one p.outs x.k).2.need ((s.takes x.a).1==(s1.one p.outs x.k).1)
  let s3:=s2.need (decide (s2.past≤i))
  if s3.bad=true then s3 else {s3.need (!(s3.outs.getD x.k.toNat false)) with outs:=s3.outs.set x.k.toNat true}
 else if x.op=32 then
  let s1:=(s.takes x.a).2
  (s1.one (types p.cells) x.k).2.need ((s.takes x.a).1==(s1.one (types p.cells) x.k).1)
 else
  let s1:=(s.takes x.a).2.need ((s.takes x.a).1==2 && (decide (0≤x.k) && decide (x.k≤(p.code.length:Int)-1-i)))
  {s1 with past:=max s1.past (i+1+min x.k p.code.length)}
def init (p:Pg):LS:=⟨List.replicate p.regs.toNat 0,List.replicate p.outs.length false,0,false⟩
def stTo (p:Pg):Nat→LS
 |0=>init p
 |k+1=>match p.code[k]? with
  |some x=>(stTo p k).instr p k x
  |none=>stTo p k
def lookOk (p:Pg):Prop:=(∀k,k≤p.code.length→(stTo p k).bad=false)∧∀b∈(stTo p p.code.length).outs,b=true
def kindAcc:List (In5 × Int)→Int→Int→Int
 | [],_,out=>out
 |(x,g)::l,reg,out=>if 29≤x.op∨x.a≠reg then kindAcc l reg out else if out≠0 then 9 else kindAcc l reg g
def taken (p:Pg) (l:List (In5 × Int)) (reg:Int):Int:=if reg<0∨p.regs≤reg then 0 else kindAcc l reg 0
def givesOf (p:Pg) (l:List (In5 × Int)) (x:In5):Int:=
 if 5≤x.op∧x.op≤20 then signOut x.op
 else if x.op≤2 then x.op
 else if x.op=3 then taken p l x.b
 else if x.op=27 then taken p l x.c
 else if x.op=21∧has (types p.cells) x.k then getI (types p.cells) x.k
 else if x.op=28∧has p.ins x.k then getI p.ins x.k
 else 0
def pairs (p:Pg):Nat→List (In5 × Int)
 |0=> []
 |n+1=>match p.code[n]? with
  |some x=>pairs p n++ [(x,givesOf p (pairs p n) x)]
  |none=>pairs p n
def takesOk (p:Pg) (l:List (In5 × Int)) (i:Int) (x:In5):Prop:=
 if 5≤x.op∧x.op≤20 then taken p l x.b≠0∧(signIn x.op=0∨taken p l x.b=signIn x.op)∧(x.op≤6∨taken p l x.c=taken p l x.b)
 else if x.op=2 then x.k=0∨x.k=1
 else if x.op=3 then taken p l x.b≠0
 else if x.op=27 then taken p l x.b=2∧taken p l x.c≠0∧taken p l x.k=taken p l x.c
 else if x.op=29 then has p.outs x.k∧taken p l x.a=getI p.outs x.k
 else if x.op=32 then has (types p.cells) x.k∧taken p l x.a=getI (types p.cells) x.k
 else if x.op=30∨x.op=31 then 0≤x.k∧x.k≤(p.code.length:Int)-1-i∧taken p l x.a=2
 else True
def skipped (p:Pg) (i:Nat):Prop:=∃k x,k<i∧p.code[k]? =some x∧(x.op=30∨x.op=31)∧(i:Int)-k≤x.k
def instrRight (p:Pg) (i:Nat) (x:In5):Prop:=
 takesOk p (pairs p i) i x∧(x.op<29→x.a<p.regs∧kindAcc (pairs p i) x.a 0=0∧(givesOf p (pairs p i) x=1∨givesOf p (pairs p i) x=2))∧(x.op=29→¬skipped p i)
def outCount (p:Pg) (o:Int):List In5→Nat
 | []=>0
 |x::l=>(if x.op=29∧x.k=o then 1 else 0)+outCount p o l
def rightOk (p:Pg):Prop:=mayOk p∧(∀i x,p.code[i]? =some x→instrRight p i x)∧∀o:Nat,o<p.outs.length→outCount p o p.code=1
theorem has_iff {l:List Int} {n:Int}:has l n↔0≤n∧n<l.length:=Iff.rfl
theorem kindAcc_snoc (l:List (In5 × Int)) (x:In5) (g reg:Int):∀out,kindAcc l reg out≠9∨True→kindAcc (l++ [(x,g)]) reg out=kindAcc l reg out∨(x.op<29∧x.a=reg):=by
 induction l with
 |nil=>
  intro out _
  simp only[List.nil_append,kindAcc]
  by_cases h:29≤x.op∨x.a≠reg
  ·rw[if_pos h];exact .inl rfl
  ·exact .inr (by omega)
 |cons y l ih=>
  obtain ⟨y,gy⟩:=y
  intro out _
  simp only[List.cons_append,kindAcc]
  by_cases h:29≤y.op∨y.a≠reg
  ·rw[if_pos h,if_pos h];exact ih out (.inr trivial)
  ·rw[if_neg h,if_neg h]
   by_cases ho:out≠0
   ·rw[if_pos ho,if_pos ho];exact .inl rfl
   ·rw[if_neg ho,if_neg ho];exact ih gy (.inr trivial)
theorem kindAcc_other {l:List (In5 × Int)} {x:In5} {g reg:Int} (h:29≤x.op∨x.a≠reg) (out:Int):kindAcc (l++ [(x,g)]) reg out=kindAcc l reg out:=
 (kindAcc_snoc l x g reg out (.inr trivial)).resolve_right (by omega)
theorem kindAcc_zero {l:List (In5 × Int)} {x:In5} {g reg:Int} (h:x.op<29) (ha:x.a=reg):∀out,kindAcc l reg out=0→kindAcc (l++ [(x,g)]) reg out=g:=by
 induction l with
 |nil=>
  intro out h0
  simp only[kindAcc] at h0
  simp only[List.nil_append,kindAcc]
  rw[if_neg (by omega),if_neg (by omega)]
 |cons y l ih=>
  obtain ⟨y,gy⟩:=y
  intro out h0
  simp only[kindAcc] at h0
  simp only[List.cons_append,kindAcc]
  by_cases hy:29≤y.op∨y.a≠reg
  ·rw[if_pos hy] at h0⊢;exact ih out h0
  ·rw[if_neg hy] at h0⊢
   by_cases ho:out≠0
   ·rw[if_pos ho] at h0;omega
   ·rw[if_neg ho] at h0⊢;exact ih gy h0
structure Inv (p:Pg) (k:Nat) (s:LS):Prop where
 len:s.kinds.length=p.regs.toNat
 kinds:∀r,0≤r→r<p.regs→getI s.kinds r=kindAcc (pairs p k) r 0
 three:∀r,0≤r→r<p.regs→getI s.kinds r=0∨getI s.kinds r=1∨getI s.kinds r=2
 olen:s.outs.length=p.outs.length
 outs:∀o:Nat,o<p.outs.length→(s.outs.getD o false=true↔∃i x,i<k∧p.code[i]? =some x∧x.op=29∧x.k=o)
 past:∀i:Int,0≤i→(i<s.past↔∃j x,j<k∧p.code[j]? =some x∧(x.op=30∨x.op=31)∧i-(j:Int)≤x.k)
theorem getI_rep (n:Nat) (r:Int):getI (List.replicate n 0) r=0:=by
 unfold getI
 rw[List.getD_eq_getElem?_getD]
 by_cases h:r.toNat<n
 ·rw[List.getElem?_replicate_of_lt h];rfl
 ·rw[List.getElem?_eq_none (by simpa using h)];rfl
theorem inv_init (p:Pg):Inv p 0 (init p):=by
 refine ⟨by simp[init],fun r _ _=>by rw[show (init p).kinds=List.replicate p.regs.toNat 0 from rfl,getI_rep];rfl,fun r _ _=> .inl (getI_rep _ _),by simp[init],fun o ho=>?_,fun i hi=>?_⟩
 ·have:(init p).outs.getD o false=false:=by
   rw[show (init p).outs=List.replicate p.outs.length false from rfl,List.getD_eq_getElem?_getD,List.getElem?_replicate_of_lt ho];rfl
  rw[this]
  constructor
  ·intro h;cases h
  ·rintro ⟨i,_,h,_⟩;omega
 ·constructor
  ·intro h;simp[init] at h;omega
  ·rintro ⟨j,_,h,_⟩;omega
def LS.wb (s:LS) (c:Bool):LS:={s with bad:=s.bad||c}
theorem LS.wb_wb (s:LS) (a b:Bool):(s.wb a).wb b=s.wb (a||b):=by simp[LS.wb,Bool.or_assoc]
theorem LS.need_wb (s:LS) (b:Bool):s.need b=s.wb (!b):=rfl
theorem LS.no_wb (s:LS):s.no=s.wb true:=by simp[LS.no,LS.wb]
theorem LS.wb_bad (s:LS) (c:Bool):(s.wb c).bad=(s.bad||c):=rfl
theorem LS.wb_false (s:LS):s.wb false=s:=by simp[LS.wb]
theorem Inv.wb {p:Pg} {k:Nat} {s:LS} (h:Inv p k s) (c:Bool):Inv p k (s.wb c):=⟨h.len,h.kinds,h.three,h.olen,h.outs,h.past⟩
theorem one_eq (s:LS) (l:List Int) (n:Int):s.one l n=(if has l n then getI l n else 0,s.wb (!decide (has l n))):=by
 unfold LS.one
 by_cases h:has l n
 ·rw[if_pos h,if_pos h];simp[h,LS.wb]
 ·rw[if_neg h,if_neg h];simp[h,LS.wb,LS.no]
section
variable {p:Pg} {k:Nat} {s:LS} (hI:Inv p k s) (hr:0≤p.regs)
include hI hr
theorem has_kinds (n:Int):has s.kinds n↔0≤n∧n<p.regs:=by rw[has_iff,hI.len];omega
theorem takes_eq (n:Int):s.takes n=(taken p (pairs p k) n,s.wb (taken p (pairs p k) n==0)):=by
 unfold LS.takes taken
 by_cases h:0≤n∧n<p.regs
 ·rw[hI.kinds n h.1 h.2]
  have h1:¬(n<0∨p.regs≤n):=by omega
  have h2:=(has_kinds hI hr n).2 h
  rw[if_neg h1]
  by_cases h0:kindAcc (pairs p k) n 0=0
  ·rw[if_neg (fun h=>h.2 h0),h0,LS.no_wb];rfl
  ·rw[if_pos ⟨h2,h0⟩,show (kindAcc (pairs p k) n 0==0)=false by simp[h0],LS.wb_false]
 ·have h1:n<0∨p.regs≤n:=by omega
  have h2:¬has s.kinds n:=fun h'=>h ((has_kinds hI hr n).1 h')
  rw[if_neg (fun h=>h2 h.1),if_pos h1,LS.no_wb];rfl
def free (p:Pg) (k:Nat) (n:Int):Prop:=n<p.regs∧kindAcc (pairs p k) n 0=0
omit hI hr in
theorem free_dec (p:Pg) (k:Nat) (n:Int):free p k n∨¬free p k n:=Classical.em _
theorem gives_yes {n kind:Int} (hn:0≤n) (h:free p k n):s.gives n kind={s with kinds:=s.kinds.set n.toNat kind}:=by
 unfold LS.gives
 rw[if_pos ⟨(has_kinds hI hr n).2 ⟨hn,h.1⟩,by rw[hI.kinds n hn h.1];exact h.2⟩]
theorem gives_no {n kind:Int} (hn:0≤n) (h:¬free p k n):s.gives n kind=s.wb true:=by
 unfold LS.gives
 rw[if_neg ?_,LS.no_wb]
 rintro ⟨h1,h2⟩
 have h3:=(has_kinds hI hr n).1 h1
 exact h ⟨h3.2,by rw[←hI.kinds n hn h3.2];exact h2⟩
theorem gives_bad {n kind:Int} (hn:0≤n):(s.gives n kind).bad=false↔s.bad=false∧free p k n:=by
 rcases free_dec p k n with h|h
 ·rw[gives_yes hI hr hn h];simp[h]
 ·rw[gives_no hI hr hn h];simp[LS.wb,h]
end
theorem inv_gives {p:Pg} {k:Nat} {s:LS} {x:In5} (hI:Inv p k s) (hr:0≤p.regs) (hx:p.code[k]? =some x) (hop:x.op<29) (ha:0≤x.a) (hf:free p k x.a)
  (hg:givesOf p (pairs p k) x=1∨givesOf p (pairs p k) x=2):Inv p (k+1) {s with kinds:=s.kinds.set x.a.toNat (givesOf p (pairs p k) x)}:=by
 have hp:pairs p (k+1)=pairs p k++ [(x,givesOf p (pairs p k) x)]:=by simp[pairs,hx]
 have hl:=hI.len
 have key:∀r,0≤r→r<p.regs→getI (s.kinds.set x.a.toNat (givesOf p (pairs p k) x)) r=if r=x.a then givesOf p (pairs p k) x else getI s.kinds r:=by
  intro r h0 h1
  unfold getI
  rw[List.getD_eq_getElem?_getD,List.getD_eq_getElem?_getD,List.getElem?_set]
  by_cases he:r=x.a
  ·subst he;rw[if_pos rfl,if_pos (by omega),if_pos rfl];rfl
  ·rw[if_neg (by omega),if_neg he]
 refine ⟨by simpa using hl,fun r h0 h1=>?_,fun r h0 h1=>?_,hI.olen,fun o ho=>?_,fun i hi=>?_⟩
 ·rw[key r h0 h1,hp]
  by_cases he:r=x.a
  ·rw[if_pos he,he,kindAcc_zero hop rfl 0 hf.2]
  ·rw[if_neg he,kindAcc_other (.inr (fun h=>he h.symm)),hI.kinds r h0 h1]
 ·rw[key r h0 h1]
  by_cases he:r=x.a
  ·rw[if_pos he];omega
  ·rw[if_neg he];exact hI.three r h0 h1
 ·rw[hI.outs o ho]
  constructor
  ·rintro ⟨i,y,h1,h2⟩;exact ⟨i,y,by omega,h2⟩
  ·rintro ⟨i,y,h1,h2,h3,h4⟩
   refine ⟨i,y,?_,h2,h3,h4⟩
   rcases Nat.lt_or_ge i k with h|h
   ·exact h
   ·obtain rfl:i=k:=by omega
    rw[hx] at h2;injection h2 with h2;subst h2;omega
 ·rw[hI.past i hi]
  constructor
  ·rintro ⟨j,y,h1,h2⟩;exact ⟨j,y,by omega,h2⟩
  ·rintro ⟨j,y,h1,h2,h3,h4⟩
   refine ⟨j,y,?_,h2,h3,h4⟩
   rcases Nat.lt_or_ge j k with h|h
   ·exact h
   ·obtain rfl:j=k:=by omega
    rw[hx] at h2;injection h2 with h2;subst h2;omega
theorem inv_kinds {p:Pg} {k:Nat} {s:LS} {x:In5} (hI:Inv p k s) (hx:p.code[k]? =some x) (hop:29≤x.op):∀r,0≤r→r<p.regs→getI s.kinds r=kindAcc (pairs p (k+1)) r 0:=by
 intro r h0 h1
 have hp:pairs p (k+1)=pairs p k++ [(x,givesOf p (pairs p k) x)]:=by simp[pairs,hx]
 rw[hp,kindAcc_other (.inl hop),hI.kinds r h0 h1]
def fresh (p:Pg) (k:Nat) (o:Int):Prop:=¬∃i x,i<k∧p.code[i]? =some x∧x.op=29∧x.k=o
def stepOk (p:Pg) (k:Nat) (x:In5):Prop:=instrRight p k x∧(x.op=29→fresh p k x.k)
theorem signOut_two {op:Int} (h:5≤op∧op≤20):signOut op=1∨signOut op=2:=by
 unfold signOut
 by_cases h1:op=6∨12≤op∧op≤20
 ·rw[if_pos h1];omega
 ·rw[if_neg h1,if_pos (by omega)];omega
theorem in_two {l:List Int} (h:∀t∈l,t=1∨t=2) {n:Int} (hn:has l n):getI l n=1∨getI l n=2:=by
 unfold getI
 obtain ⟨h0,h1⟩:=hn
 rw[List.getD_eq_getElem?_getD,List.getElem?_eq_getElem (by omega)]
 exact h _ (List.getElem_mem _)
theorem types_two {p:Pg} (h:mayOk p):∀t∈types p.cells,t=1∨t=2:=by
 intro t ht
 obtain ⟨c,hc,rfl⟩:=List.mem_map.1 ht
 rcases h.1 c hc with h|⟨h,_⟩
 ·exact .inl h
 ·exact .inr h
theorem taken_three {p:Pg} {k:Nat} {s:LS} (hI:Inv p k s) (n:Int):taken p (pairs p k) n=0∨taken p (pairs p k) n=1∨taken p (pairs p k) n=2:=by
 unfold taken
 split
 ·exact .inl rfl
 ·have h:0≤n∧n<p.regs:=by omega
  have:=hI.three n h.1 h.2
  rwa [hI.kinds n h.1 h.2] at this
theorem step {p:Pg} {k:Nat} {s:LS} {x:In5} (hm:mayOk p) (hI:Inv p k s) (hb:s.bad=false) (hx:p.code[k]? =some x):
  ((s.instr p k x).bad=false↔stepOk p k x)∧((s.instr p k x).bad=false→Inv p (k+1) (s.instr p k x)):=by
 have hr:0≤p.regs:=hm.2.2.2.2.1
 obtain ⟨hop,ha,hbb,hc,hz1,hz2,hz3⟩:=hm.2.1 x (List.mem_of_getElem? hx)
 have hT:=taken_three hI
 have hW:=fun c=>hI.wb (s:=s) c
 have tk:∀(c:Bool) (n:Int),(s.wb c).takes n=(taken p (pairs p k) n,s.wb (c||(taken p (pairs p k) n==0))):=fun c n=>by rw[takes_eq (hW c) hr,LS.wb_wb]
 have tk0:∀(n:Int),s.takes n=(taken p (pairs p k) n,s.wb (taken p (pairs p k) n==0)):=fun n=>takes_eq hI hr n
 have gb:∀(c:Bool) (kind:Int),((s.wb c).gives x.a kind).bad=false↔c=false∧free p k x.a:=fun c kind=>by rw[gives_bad (hW c) hr ha,LS.wb_bad,hb];simp
 have gi:∀(c:Bool),x.op<29→(givesOf p (pairs p k) x=1∨givesOf p (pairs p k) x=2)→((s.wb c).gives x.a (givesOf p (pairs p k) x)).bad=false→Inv p (k+1) ((s.wb c).gives x.a (givesOf p (pairs p k) x)):=fun c h29 hg h=>by
  have hf:=((gb c _).1 h).2
  rw[gives_yes (hW c) hr ha hf]
  exact inv_gives (hW c) hr hx h29 ha hf hg
 have close:∀C:Bool,s.instr p k x=(s.wb C).gives x.a (givesOf p (pairs p k) x)→x.op<29→(C=false↔takesOk p (pairs p k) k x∧(givesOf p (pairs p k) x=1∨givesOf p (pairs p k) x=2)∨(C=false∧False))→
   ((s.instr p k x).bad=false↔stepOk p k x)∧((s.instr p k x).bad=false→Inv p (k+1) (s.instr p k x)):=by
  intro C e h29 hC
  have hC':C=false↔takesOk p (pairs p k) k x∧(givesOf p (pairs p k) x=1∨givesOf p (pairs p k) x=2):=by rw[hC];simp
  rw[e]
  refine ⟨?_,fun h=>gi C h29 (hC'.1 ((gb C _).1 h).1).2 h⟩
  rw[gb]
  unfold stepOk instrRight free
  constructor
  ·rintro ⟨h1,h2⟩
   have:=hC'.1 h1
   exact ⟨⟨this.1,fun _=>⟨h2.1,h2.2,this.2⟩,fun h=>by omega⟩,fun h=>by omega⟩
  ·rintro ⟨⟨h1,h2,_⟩,_⟩
   have:=h2 h29
   exact ⟨hC'.2 ⟨h1,this.2.2⟩,this.1,this.2.1⟩
 by_cases hsg:5≤x.op∧x.op≤20
 ·have hg:givesOf p (pairs p k) x=signOut x.op:=by unfold givesOf;rw[if_pos hsg]
  have ht:takesOk p (pairs p k) k x↔taken p (pairs p k) x.b≠0∧(signIn x.op=0∨taken p (pairs p k) x.b=signIn x.op)∧(x.op≤6∨taken p (pairs p k) x.c=taken p (pairs p k) x.b):=by unfold takesOk;rw[if_pos hsg]
  by_cases h56:x.op≠5∧x.op≠6
  ·refine close (((taken p (pairs p k) x.b==0)|| !(signIn x.op==0||taken p (pairs p k) x.b==signIn x.op)||(taken p (pairs p k) x.c==0))|| !(taken p (pairs p k) x.c==taken p (pairs p k) x.b)) ?_ (by omega) ?_
   ·unfold LS.instr LS.reckons
    rw[if_pos hsg,hg]
    simp only[tk0,if_pos h56,LS.need_wb,LS.wb_wb,tk]
   ·rw[ht,hg]
    have h2:=signOut_two hsg
    simp only[h2,and_true,and_false,or_false,Bool.or_eq_false_iff,Bool.not_eq_false',Bool.or_eq_true,beq_iff_eq,beq_eq_false_iff_ne]
    constructor
    ·rintro ⟨⟨⟨h1,h2⟩,h3⟩,h4⟩;exact ⟨h1,h2,.inr h4⟩
    ·rintro ⟨h1,h2,h3⟩
     have h3':=h3.resolve_left (by omega)
     exact ⟨⟨⟨h1,h2⟩,by rw[h3'];exact h1⟩,h3'⟩
  ·refine close ((taken p (pairs p k) x.b==0)|| !(signIn x.op==0||taken p (pairs p k) x.b==signIn x.op)) ?_ (by omega) ?_
   ·unfold LS.instr LS.reckons
    rw[if_pos hsg,hg]
    simp only[tk0,if_neg h56,LS.need_wb,LS.wb_wb]
   ·rw[ht,hg]
    have h2:=signOut_two hsg
    simp only[h2,and_true,and_false,or_false,Bool.or_eq_false_iff,Bool.not_eq_false',Bool.or_eq_true,beq_iff_eq,beq_eq_false_iff_ne]
    constructor
    ·rintro ⟨h1,h2⟩;exact ⟨h1,h2,.inl (by omega)⟩
    ·rintro ⟨h1,h2,_⟩;exact ⟨h1,h2⟩
 have hgo:∀y:Int,(x.op≤2→y=x.op)→(x.op=3→y=taken p (pairs p k) x.b)→(x.op=27→y=taken p (pairs p k) x.c)→(x.op=21→y=if has (types p.cells) x.k then getI (types p.cells) x.k else 0)→(x.op=28→y=if has p.ins x.k then getI p.ins x.k else 0)→(x.op≤2∨x.op=3∨x.op=27∨x.op=21∨x.op=28)→givesOf p (pairs p k) x=y:=by
  intro y g1 g2 g3 g4 g5 g6
  unfold givesOf
  rw[if_neg hsg]
  by_cases c1:x.op≤2
  ·rw[if_pos c1,g1 c1]
  ·rw[if_neg c1]
   by_cases c2:x.op=3
   ·rw[if_pos c2,g2 c2]
   ·rw[if_neg c2]
    by_cases c3:x.op=27
    ·rw[if_pos c3,g3 c3]
    ·rw[if_neg c3]
     by_cases c4:x.op=21
     ·rw[g4 c4]
      by_cases h:has (types p.cells) x.k
      ·rw[if_pos ⟨c4,h⟩,if_pos h]
      ·rw[if_neg (fun h'=>h h'.2),if_neg (by omega),if_neg h]
     ·rw[if_neg (fun h=>c4 h.1)]
      have c5:x.op=28:=by omega
      rw[g5 c5]
      by_cases h:has p.ins x.k
      ·rw[if_pos ⟨c5,h⟩,if_pos h]
      ·rw[if_neg (fun h'=>h h'.2),if_neg h]
 have hsg':¬(5≤x.op∧x.op≤20):=hsg
 by_cases h1:x.op=1
 ·have hg:givesOf p (pairs p k) x=1:=hgo 1 (fun _=>h1.symm) (by omega) (by omega) (by omega) (by omega) (by omega)
  refine close false ?_ (by omega) ?_
  ·unfold LS.instr;rw[if_neg hsg,if_pos h1,hg,LS.wb_false]
  ·rw[hg];unfold takesOk
   rw[if_neg hsg,if_neg (by omega),if_neg (by omega),if_neg (by omega),if_neg (by omega),if_neg (by omega),if_neg (by omega)];simp
 by_cases h2:x.op=2
 ·have hg:givesOf p (pairs p k) x=2:=hgo 2 (fun _=>h2.symm) (by omega) (by omega) (by omega) (by omega) (by omega)
  refine close (!(x.k==0||x.k==1)) ?_ (by omega) ?_
  ·unfold LS.instr;rw[if_neg hsg,if_neg h1,if_pos h2,hg,LS.need_wb]
  ·rw[hg];unfold takesOk
   rw[if_neg hsg,if_pos h2];simp;omega
 by_cases h3:x.op=3
 ·have hg:givesOf p (pairs p k) x=taken p (pairs p k) x.b:=hgo _ (by omega) (fun _=>rfl) (by omega) (by omega) (by omega) (by omega)
  refine close (taken p (pairs p k) x.b==0) ?_ (by omega) ?_
  ·unfold LS.instr;rw[if_neg hsg,if_neg h1,if_neg h2,if_pos h3,hg,tk0]
  ·rw[hg];unfold takesOk
   rw[if_neg hsg,if_neg h2,if_pos h3]
   have:=hT x.b
   simp only[beq_eq_false_iff_ne,and_false,or_false]
   constructor
   ·intro h;exact ⟨h,this.resolve_left h⟩
   ·exact fun h=>h.1
 by_cases h27:x.op=27
 ·have hg:givesOf p (pairs p k) x=taken p (pairs p k) x.c:=hgo _ (by omega) (by omega) (fun _=>rfl) (by omega) (by omega) (by omega)
  refine close ((((taken p (pairs p k) x.b==0)|| !(taken p (pairs p k) x.b==2))||(taken p (pairs p k) x.c==0)||(taken p (pairs p k) x.k==0))|| !(taken p (pairs p k) x.k==taken p (pairs p k) x.c)) ?_ (by omega) ?_
  ·unfold LS.instr;rw[if_neg hsg,if_neg h1,if_neg h2,if_neg h3,if_pos h27,hg]
   simp only[tk0,tk,LS.need_wb,LS.wb_wb]
  ·rw[hg];unfold takesOk
   rw[if_neg hsg,if_neg h2,if_neg h3,if_pos h27]
   have:=hT x.c
   simp only[and_false,or_false,Bool.or_eq_false_iff,Bool.not_eq_false',beq_iff_eq,beq_eq_false_iff_ne]
   constructor
   ·rintro ⟨⟨⟨⟨a1,a2⟩,a3⟩,a4⟩,a5⟩;exact ⟨⟨a2,a3,a5⟩,this.resolve_left a3⟩
   ·rintro ⟨⟨a1,a2,a3⟩,_⟩;exact ⟨⟨⟨⟨by omega,a1⟩,a2⟩,by rw[a3];exact a2⟩,a3⟩
 by_cases h21:x.op=21
 ·have hg:givesOf p (pairs p k) x=if has (types p.cells) x.k then getI (types p.cells) x.k else 0:=hgo _ (by omega) (by omega) (by omega) (fun _=>rfl) (by omega) (by omega)
  refine close (!decide (has (types p.cells) x.k)) ?_ (by omega) ?_
  ·unfold LS.instr;rw[if_neg hsg,if_neg h1,if_neg h2,if_neg h3,if_neg h27,if_pos h21,hg,one_eq]
  ·rw[hg];unfold takesOk
   rw[if_neg hsg,if_neg h2,if_neg h3,if_neg h27,if_neg (by omega),if_neg (by omega),if_neg (by omega)]
   by_cases h:has (types p.cells) x.k
   ·have:=in_two (types_two hm) h
    simp[h,this]
   ·simp[h]
 by_cases h28:x.op=28
 ·have hg:givesOf p (pairs p k) x=if has p.ins x.k then getI p.ins x.k else 0:=hgo _ (by omega) (by omega) (by omega) (by omega) (fun _=>rfl) (by omega)
  refine close (!decide (has p.ins x.k)) ?_ (by omega) ?_
  ·unfold LS.instr;rw[if_neg hsg,if_neg h1,if_neg h2,if_neg h3,if_neg h27,if_neg h21,if_pos h28,hg,one_eq]
  ·rw[hg];unfold takesOk
   rw[if_neg hsg,if_neg h2,if_neg h3,if_neg h27,if_neg (by omega),if_neg (by omega),if_neg (by omega)]
   by_cases h:has p.ins x.k
   ·have:=in_two hm.2.2.1.1 h
    simp[h,this]
   ·simp[h]
 have h29:29≤x.op:=by
  unfold hasA hasAB hasABC at hop;omega
 clear close gi gb hgo
 have hkinds:=inv_kinds hI hx h29
 have hv:¬x.op<29:=by omega
 by_cases o29:x.op=29
 ·have e:s.instr p k x=(if (s.wb ((((taken p (pairs p k) x.a==0)|| !decide (has p.outs x.k))|| !(taken p (pairs p k) x.a==(if has p.outs x.k then getI p.outs x.k else 0)))|| !decide (s.past≤k))).bad=true
    then s.wb ((((taken p (pairs p k) x.a==0)|| !decide (has p.outs x.k))|| !(taken p (pairs p k) x.a==(if has p.outs x.k then getI p.outs x.k else 0)))|| !decide (s.past≤k))
    else {(s.wb ((((taken p (pairs p k) x.a==0)|| !decide (has p.outs x.k))|| !(taken p (pairs p k) x.a==(if has p.outs x.k then getI p.outs x.k else 0)))|| !decide (s.past≤k))).need (!(s.outs.getD x.k.toNat false)) with outs:=s.outs.set x.k.toNat true}):=by
   unfold LS.instr
   rw[if_neg hsg,if_neg h1,if_neg h2,if_neg h3,if_neg h27,if_neg h21,if_neg h28,if_pos o29]
   simp only[tk0,one_eq,LS.need_wb,LS.wb_wb]
   rfl
  generalize hC:((((taken p (pairs p k) x.a==0)|| !decide (has p.outs x.k))|| !(taken p (pairs p k) x.a==(if has p.outs x.k then getI p.outs x.k else 0)))|| !decide (s.past≤k))=C at e
  have hC':C=false↔(has p.outs x.k∧taken p (pairs p k) x.a=getI p.outs x.k)∧s.past≤k:=by
   rw[←hC]
   by_cases h:has p.outs x.k
   ·have:=in_two hm.2.2.2.1.1 h
    simp only[h,decide_true,Bool.not_true,Bool.or_false,if_true,Bool.or_eq_false_iff,Bool.not_eq_false',beq_iff_eq,beq_eq_false_iff_ne,decide_eq_true_eq,true_and]
    constructor
    ·rintro ⟨⟨_,a2⟩,a3⟩;exact ⟨a2,a3⟩
    ·rintro ⟨a2,a3⟩;exact ⟨⟨by omega,a2⟩,a3⟩
   ·simp[h]
  have ho:has p.outs x.k→(s.outs.getD x.k.toNat false=false↔fresh p k x.k):=by
   intro h
   have h0:=h.1
   have hl:x.k.toNat<p.outs.length:=by have:=h.2;omega
   have hk:((x.k.toNat:Nat):Int)=x.k:=by omega
   have:=hI.outs x.k.toNat hl
   rw[hk] at this
   unfold fresh
   rw[←this];simp
  have hsk:¬skipped p k↔s.past≤k:=by
   have:=hI.past k (by omega)
   unfold skipped
   rw[←Int.not_lt]
   exact not_congr this.symm
  have hbad:(s.instr p k x).bad=false↔C=false∧s.outs.getD x.k.toNat false=false:=by
   rw[e]
   cases C
   ·simp[LS.wb,LS.need,hb]
   ·simp[LS.wb,hb]
  refine ⟨?_,fun h=>?_⟩
  ·rw[hbad,hC']
   unfold stepOk instrRight takesOk
   rw[if_neg hsg,if_neg h2,if_neg h3,if_neg h27,if_pos o29]
   constructor
   ·rintro ⟨⟨a1,a2⟩,a3⟩
    exact ⟨⟨a1,fun h=>absurd h hv,fun _=>hsk.2 a2⟩,fun _=>(ho a1.1).1 a3⟩
   ·rintro ⟨⟨a1,_,a2⟩,a3⟩
    exact ⟨⟨a1,hsk.1 (a2 o29)⟩,(ho a1.1).2 (a3 o29)⟩
  ·obtain ⟨c1,c2⟩:=hbad.1 h
   subst c1
   rw[e,if_neg (by simp[LS.wb,hb])]
   have hh:=(hC'.1 rfl).1.1
   refine ⟨hI.len,hkinds,hI.three,by simpa using hI.olen,fun o ho'=>?_,fun i hi=>?_⟩
   ·show (s.outs.set x.k.toNat true).getD o false=true↔_
    rw[List.getD_eq_getElem?_getD,List.getElem?_set]
    by_cases hoe:x.k.toNat=o
    ·rw[if_pos hoe,if_pos (by rw[hI.olen];omega)]
     exact ⟨fun _=>⟨k,x,by omega,hx,o29,by have:=hh.1;omega⟩,fun _=>rfl⟩
    ·rw[if_neg hoe,←List.getD_eq_getElem?_getD,hI.outs o ho']
     constructor
     ·rintro ⟨i,y,a1,a2⟩;exact ⟨i,y,by omega,a2⟩
     ·rintro ⟨i,y,a1,a2,a3,a4⟩
      refine ⟨i,y,?_,a2,a3,a4⟩
      rcases Nat.lt_or_ge i k with h'|h'
      ·exact h'
      ·obtain rfl:i=k:=by omega
       rw[hx] at a2;injection a2 with a2;subst a2;have:=hh.1;omega
   ·show i<s.past↔_
    rw[hI.past i hi]
    constructor
    ·rintro ⟨j,y,a1,a2⟩;exact ⟨j,y,by omega,a2⟩
    ·rintro ⟨j,y,a1,a2,a3,a4⟩
     refine ⟨j,y,?_,a2,a3,a4⟩
     rcases Nat.lt_or_ge j k with h'|h'
     ·exact h'
     ·obtain rfl:j=k:=by omega
      rw[hx] at a2;injection a2 with a2;subst a2;omega
 have houts:∀o:Nat,o<p.outs.length→(s.outs.getD o false=true↔∃i x,i<k+1∧p.code[i]? =some x∧x.op=29∧x.k=o):=fun o ho'=>by
  rw[hI.outs o ho']
  constructor
  ·rintro ⟨i,y,a1,a2⟩;exact ⟨i,y,by omega,a2⟩
  ·rintro ⟨i,y,a1,a2,a3,a4⟩
   refine ⟨i,y,?_,a2,a3,a4⟩
   rcases Nat.lt_or_ge i k with h'|h'
   ·exact h'
   ·obtain rfl:i=k:=by omega
    rw[hx] at a2;injection a2 with a2;subst a2;omega
 by_cases o32:x.op=32
 ·have e:s.instr p k x=s.wb (((taken p (pairs p k) x.a==0)|| !decide (has (types p.cells) x.k))|| !(taken p (pairs p k) x.a==(if has (types p.cells) x.k then getI (types p.cells) x.k else 0))):=by
   unfold LS.instr
   rw[if_neg hsg,if_neg h1,if_neg h2,if_neg h3,if_neg h27,if_neg h21,if_neg h28,if_neg o29,if_pos o32]
   simp only[tk0,one_eq,LS.need_wb,LS.wb_wb]
  rw[e]
  refine ⟨?_,fun h=>?_⟩
  ·unfold stepOk instrRight takesOk
   rw[if_neg hsg,if_neg h2,if_neg h3,if_neg h27,if_neg o29,if_pos o32,LS.wb_bad,hb]
   simp only[hv,o29,false_implies,and_true,Bool.false_or]
   by_cases h:has (types p.cells) x.k
   ·have:=in_two (types_two hm) h
    simp only[h,decide_true,Bool.not_true,Bool.or_false,if_true,Bool.or_eq_false_iff,Bool.not_eq_false',beq_iff_eq,beq_eq_false_iff_ne,true_and]
    constructor
    ·exact fun a=>a.2
    ·exact fun a=>⟨by omega,a⟩
   ·simp[h]
  ·refine ⟨hI.len,hkinds,hI.three,hI.olen,houts,fun i hi=>?_⟩
   show i<s.past↔_
   rw[hI.past i hi]
   constructor
   ·rintro ⟨j,y,a1,a2⟩;exact ⟨j,y,by omega,a2⟩
   ·rintro ⟨j,y,a1,a2,a3,a4⟩
    refine ⟨j,y,?_,a2,a3,a4⟩
    rcases Nat.lt_or_ge j k with h'|h'
    ·exact h'
    ·obtain rfl:j=k:=by omega
     rw[hx] at a2;injection a2 with a2;subst a2;omega
 have o30:x.op=30∨x.op=31:=by unfold hasA hasAB hasABC at hop;omega
 have hkl:k<p.code.length:=(List.getElem?_eq_some_iff.1 hx).1
 have e:s.instr p k x={s.wb ((taken p (pairs p k) x.a==0)|| !(taken p (pairs p k) x.a==2 && (decide (0≤x.k) && decide (x.k≤(p.code.length:Int)-1-k)))) with past:=max s.past (k+1+min x.k p.code.length)}:=by
  unfold LS.instr
  rw[if_neg hsg,if_neg h1,if_neg h2,if_neg h3,if_neg h27,if_neg h21,if_neg h28,if_neg o29,if_neg o32]
  simp only[tk0,LS.need_wb,LS.wb_wb]
  rfl
 have hbad:(s.instr p k x).bad=false↔0≤x.k∧x.k≤(p.code.length:Int)-1-k∧taken p (pairs p k) x.a=2:=by
  rw[e]
  simp only[LS.wb,hb,Bool.false_or,Bool.or_eq_false_iff,Bool.not_eq_false',Bool.and_eq_true,beq_iff_eq,beq_eq_false_iff_ne,decide_eq_true_eq]
  constructor
  ·rintro ⟨_,a1,a2,a3⟩;exact ⟨a2,a3,a1⟩
  ·rintro ⟨a2,a3,a1⟩;exact ⟨by omega,a1,a2,a3⟩
 refine ⟨?_,fun h=>?_⟩
 ·rw[hbad]
  unfold stepOk instrRight takesOk
  rw[if_neg hsg,if_neg h2,if_neg h3,if_neg h27,if_neg o29,if_neg o32,if_pos o30]
  simp only[hv,o29,false_implies,and_true]
 ·obtain ⟨c1,c2,c3⟩:=hbad.1 h
  rw[e]
  refine ⟨hI.len,hkinds,hI.three,hI.olen,houts,fun i hi=>?_⟩
  show i<max s.past (k+1+min x.k p.code.length)↔_
  have hp:=hI.past i hi
  have hmin:min x.k (p.code.length:Int)=x.k:=by omega
  rw[hmin]
  constructor
  ·intro h'
   by_cases hi':i<s.past
   ·obtain ⟨j,y,a1,a2⟩:=hp.1 hi'
    exact ⟨j,y,by omega,a2⟩
   ·exact ⟨k,x,by omega,hx,o30,by omega⟩
  ·rintro ⟨j,y,a1,a2,a3,a4⟩
   rcases Nat.lt_or_ge j k with h'|h'
   ·have:=hp.2 ⟨j,y,h',a2,a3,a4⟩;omega
   ·obtain rfl:j=k:=by omega
    rw[hx] at a2;injection a2 with a2;subst a2;omega
theorem look_inv {p:Pg} (hm:mayOk p):∀k,k≤p.code.length→(∀j,j≤k→(stTo p j).bad=false)→Inv p k (stTo p k):=by
 intro k
 induction k with
 |zero=>intro _ _;exact inv_init p
 |succ k ih=>
  intro hk hb
  have hI:=ih (by omega) (fun j hj=>hb j (by omega))
  have hx:p.code[k]? =some p.code[k]:=List.getElem?_eq_getElem (by omega)
  have e:stTo p (k+1)=(stTo p k).instr p k p.code[k]:=by simp only[stTo,hx]
  have h1:=hb (k+1) (Nat.le_refl _)
  rw[e] at h1⊢
  exact (step hm hI (hb k (by omega)) hx).2 h1
theorem look_steps {p:Pg} (hm:mayOk p):(∀k,k≤p.code.length→(stTo p k).bad=false)↔∀i x,p.code[i]? =some x→stepOk p i x:=by
 constructor
 ·intro h i x hx
  have hi:=(List.getElem?_eq_some_iff.1 hx).1
  have hI:=look_inv hm i (by omega) (fun j hj=>h j (by omega))
  have h1:=h (i+1) (by omega)
  have e:stTo p (i+1)=(stTo p i).instr p i x:=by simp only[stTo,hx]
  rw[e] at h1
  exact (step hm hI (h i (by omega)) hx).1.1 h1
 ·intro h k
  induction k using Nat.strongRecOn with
  |ind k ih=>
   intro hk
   cases k with
   |zero=>rfl
   |succ k=>
    have hI:=look_inv hm k (by omega) (fun j hj=>ih j (by omega) (by omega))
    have hx:p.code[k]? =some p.code[k]:=List.getElem?_eq_getElem (by omega)
    have e:stTo p (k+1)=(stTo p k).instr p k p.code[k]:=by simp only[stTo,hx]
    rw[e]
    exact (step hm hI (ih k (by omega) (by omega)) hx).1.2 (h k _ hx)
theorem outCount_pos {p:Pg} {o:Int} {l:List In5}:outCount p o l≠0↔∃x∈l,x.op=29∧x.k=o:=by
 induction l with
 |nil=>simp[outCount]
 |cons x l ih=>
  simp only[outCount]
  by_cases h:x.op=29∧x.k=o
  ·rw[if_pos h]
   exact ⟨fun _=>⟨x,by simp,h⟩,fun _=>by omega⟩
  ·rw[if_neg h,Nat.zero_add,ih]
   constructor
   ·rintro ⟨y,hy,h'⟩;exact ⟨y,by simp[hy],h'⟩
   ·rintro ⟨y,hy,h'⟩
    rcases List.mem_cons.1 hy with rfl|hy
    ·exact absurd h' h
    ·exact ⟨y,hy,h'⟩
theorem outCount_one {p:Pg} {o:Int} {l:List In5}:outCount p o l≤1↔∀(i j:Nat) (x y:In5),i<j→l[i]? =some x→l[j]? =some y→(x.op=29∧x.k=o)→¬(y.op=29∧y.k=o):=by
 induction l with
 |nil=>simp[outCount]
 |cons x l ih=>
  simp only[outCount]
  by_cases h:x.op=29∧x.k=o
  ·rw[if_pos h]
   constructor
   ·intro h0 i j a b hij ha hb ha' hb'
    have hz:outCount p o l=0:=by omega
    obtain ⟨j',rfl⟩:∃j',j=j'+1:=⟨j-1,by omega⟩
    rw[List.getElem?_cons_succ] at hb
    exact outCount_pos.2 ⟨b,List.mem_of_getElem? hb,hb'⟩ hz
   ·intro h0
    have:outCount p o l=0:=by
     rcases Nat.eq_zero_or_pos (outCount p o l) with hz|hz
     ·exact hz
     ·obtain ⟨y,hy,h'⟩:=outCount_pos.1 (by omega:outCount p o l≠0)
      obtain ⟨j,hj⟩:=List.getElem?_of_mem hy
      exact absurd h' (h0 0 (j+1) x y (by omega) rfl (by simpa using hj) h)
    omega
  ·rw[if_neg h,Nat.zero_add,ih]
   constructor
   ·intro h0 i j a b hij ha hb ha'
    obtain ⟨j',rfl⟩:∃j',j=j'+1:=⟨j-1,by omega⟩
    rw[List.getElem?_cons_succ] at hb
    cases i with
    |zero=>simp at ha;subst ha;exact absurd ha' h
    |succ i=>rw[List.getElem?_cons_succ] at ha;exact h0 i j' a b (by omega) ha hb ha'
   ·intro h0 i j a b hij ha hb ha'
    exact h0 (i+1) (j+1) a b (by omega) (by simpa using ha) (by simpa using hb) ha'
theorem verify_is (p:Pg):mayOk p∧lookOk p↔rightOk p:=by
 unfold lookOk rightOk
 constructor
 ·rintro ⟨hm,hl,ho⟩
  have hs:=(look_steps hm).1 hl
  refine ⟨hm,fun i x hx=>(hs i x hx).1,fun o hol=>?_⟩
  have hI:=look_inv hm p.code.length (Nat.le_refl _) hl
  have h1:outCount p o p.code≤1:=outCount_one.2 fun i j x y hij hx hy hx' hy'=>(hs j y hy).2 hy'.1 ⟨i,x,hij,hx,hx'.1,by rw[hx'.2,hy'.2]⟩
  have h2:outCount p o p.code≠0:=outCount_pos.2 (by
   have hb:(stTo p p.code.length).outs.getD o false=true:=by
    rw[List.getD_eq_getElem?_getD,List.getElem?_eq_getElem (by rw[hI.olen];exact hol)]
    exact ho _ (List.getElem_mem _)
   obtain ⟨i,x,_,hx,hx'⟩:=(hI.outs o hol).1 hb
   exact ⟨x,List.mem_of_getElem? hx,hx'⟩)
  omega
 ·rintro ⟨hm,hi,hc⟩
  have hs:∀i x,p.code[i]? =some x→stepOk p i x:=fun i x hx=>by
   refine ⟨hi i x hx,fun h29=>?_⟩
   rintro ⟨j,y,hj,hy,hy1,hy2⟩
   have ht:=(hi i x hx).1
   unfold takesOk at ht
   rw[if_neg (by omega),if_neg (by omega),if_neg (by omega),if_neg (by omega),if_pos h29] at ht
   have hh:=ht.1
   have hcount:=hc x.k.toNat (by have:=hh.1;have:=hh.2;omega)
   have:((x.k.toNat:Nat):Int)=x.k:=by have:=hh.1;omega
   rw[this] at hcount
   exact outCount_one.1 (by omega:outCount p x.k p.code≤1) j i y x hj hy hx ⟨hy1,hy2⟩ ⟨h29,rfl⟩
  have hl:=(look_steps hm).2 hs
  refine ⟨hm,hl,fun b hb=>?_⟩
  have hI:=look_inv hm p.code.length (Nat.le_refl _) hl
  obtain ⟨o,ho⟩:=List.getElem?_of_mem hb
  have hol:o<p.outs.length:=by rw[←hI.olen];exact (List.getElem?_eq_some_iff.1 ho).1
  obtain ⟨x,hx,hx'⟩:=outCount_pos.1 (by rw[hc o hol];omega:outCount p o p.code≠0)
  obtain ⟨i,hi'⟩:=List.getElem?_of_mem hx
  have:=(hI.outs o hol).2 ⟨i,x,(List.getElem?_eq_some_iff.1 hi').1,hi',hx'⟩
  rw[List.getD_eq_getElem?_getD,ho] at this
  exact this
end Go.Proofs.YtbjaejgechadpaaGreat.Vf
namespace Go.Proofs.YtbjaejgechadpaaGreat.Vf
theorem pairs_mem {p:Pg} {q:In5 × Int}:∀{n:Nat},q∈pairs p n↔∃j,j<n∧p.code[j]? =some q.1∧q.2=givesOf p (pairs p j) q.1
 |0=>⟨(fun h=>by cases h),fun ⟨j,h,_⟩=>absurd h (by omega)⟩
 |n+1=>by
  rw[pairs]
  cases hc:p.code[n]? with
  |none=>
   simp only
   rw[pairs_mem]
   refine ⟨fun ⟨j,h1,h2⟩=>⟨j,by omega,h2⟩,fun ⟨j,h1,h2,h3⟩=>?_⟩
   by_cases e:j=n
   ·subst e;rw[hc] at h2;cases h2
   ·exact ⟨j,by omega,h2,h3⟩
  |some x=>
   simp only[List.mem_append,List.mem_singleton]
   rw[pairs_mem]
   constructor
   ·rintro (⟨j,h1,h2⟩|rfl)
    ·exact ⟨j,by omega,h2⟩
    ·exact ⟨n,by omega,hc,rfl⟩
   ·rintro ⟨j,h1,h2,h3⟩
    by_cases e:j=n
    ·subst e
     rw[hc] at h2
     injection h2 with h2
     refine .inr ?_
     obtain ⟨q1,q2⟩:=q
     simp only at h2 h3
     subst h2
     rw[h3]
    ·exact .inl ⟨j,by omega,h2,h3⟩
theorem taken_acc {p:Pg} {l:List (In5 × Int)} {reg:Int} (h:taken p l reg≠0):kindAcc l reg 0≠0:=by
 unfold taken at h
 split at h
 ·exact absurd rfl h
 ·exact h
end Go.Proofs.YtbjaejgechadpaaGreat.Vf
namespace Go.Proofs.YtbjaejgechadpaaGreat.Fo
open Vf
structure Gd where
 wire:Int
 no:Bool
structure Wr where
 ty:Int
 clock:List Gd
structure Ac where
 op:Int
 dst:Int
 a:Int
 b:Int
 c:Int
 k:Int
structure Fm where
 wires:List Wr
 acts:List Ac
 cells:List (Int × Int)
 keeps:List (Int × Int)
 ins:List Int
 outs:List Int
def isW (f:Fm) (n:Int):Prop:=0≤n∧n<f.wires.length
def wAt (f:Fm) (n:Int):Wr:=f.wires.getD n.toNat ⟨0,[]⟩
def tyOf (f:Fm) (n:Int):Int:=(wAt f n).ty
def clockOf (f:Fm) (n:Int):List Gd:=(wAt f n).clock
def wireOk (f:Fm) (w:Wr):Prop:=(w.ty=1∨w.ty=2)∧∀(i:Nat) g,w.clock[i]? =some g→isW f g.wire∧tyOf f g.wire=2∧clockOf f g.wire=w.clock.take i
def wiresOk (f:Fm):Prop:=(∀w∈f.wires,wireOk f w)∧1≤f.wires.length∧f.wires.length≤1600
def portsOk (f:Fm) (l:List Int):Prop:=(∀n∈l,isW f n∧clockOf f n=[])∧1≤l.length∧l.length≤8
def kept (f:Fm) (c:Int):Option Int:=(f.keeps.find? (fun k=>k.1==c)).map (·.2)
def cellsOk (f:Fm):Prop:=
 (∀c∈f.cells,valueOk c.1 c.2)∧f.cells.length≤60∧
 (∀k∈f.keeps,0≤k.1∧k.1<f.cells.length∧isW f k.2∧tyOf f k.2=getI (types f.cells) k.1)∧
 (∀(i j:Nat) x y,i<j→f.keeps[i]? =some x→f.keeps[j]? =some y→x.1≠y.1)∧
 ∀c:Nat,c<f.cells.length→∃k∈f.keeps,k.1=c
def definedOk (f:Fm):Prop:=
 (∀(i j:Nat) x y,i<j→f.ins[i]? =some x→f.ins[j]? =some y→x≠y)∧
 (∀a∈f.acts,isW f a.dst∧a.dst∉f.ins)∧
 (∀(i j:Nat) x y,i<j→f.acts[i]? =some x→f.acts[j]? =some y→x.dst≠y.dst)∧
 ∀n:Nat,n<f.wires.length→(n:Int)∈f.ins∨∃a∈f.acts,a.dst=n
def uses (op:Int):Int:=if op=1∨op=2∨op=21 then 0 else if op=3∨op=5∨op=6∨op=24 then 1 else if 7≤op∧op≤20 then 2 else if op=26∨op=27 then 3 else-1
def actOk (f:Fm) (x:Ac):Prop:=
 isW f x.a∧isW f x.b∧isW f x.c∧0≤uses x.op∧(uses x.op<1→x.a=0)∧(uses x.op<2→x.b=0)∧(uses x.op<3→x.c=0)∧(0<uses x.op→x.k=0)∧
 (if x.op=1 then tyOf f x.dst=1
  else if x.op=2 then tyOf f x.dst=2∧(x.k=0∨x.k=1)
  else if x.op=21 then 0≤x.k∧x.k<f.cells.length∧tyOf f x.dst=getI (types f.cells) x.k∧∃n,kept f x.k=some n∧clockOf f x.dst=clockOf f n
  else if x.op=24 then ∃g,clockOf f x.dst=clockOf f x.a++ [g]∧tyOf f x.dst=tyOf f x.a
  else if x.op=26 then clockOf f x.dst=clockOf f x.a∧tyOf f x.a=2∧tyOf f x.dst=tyOf f x.b∧tyOf f x.dst=tyOf f x.c∧clockOf f x.b=clockOf f x.dst++ [⟨x.a,false⟩]∧clockOf f x.c=clockOf f x.dst++ [⟨x.a,true⟩]
  else if x.op=3 then clockOf f x.dst=clockOf f x.a∧tyOf f x.dst=tyOf f x.a
  else if x.op=27 then clockOf f x.dst=clockOf f x.a∧clockOf f x.dst=clockOf f x.b∧clockOf f x.dst=clockOf f x.c∧tyOf f x.a=2∧tyOf f x.b=tyOf f x.c∧tyOf f x.dst=tyOf f x.b
  else clockOf f x.dst=clockOf f x.a∧(1<uses x.op→clockOf f x.dst=clockOf f x.b∧tyOf f x.a=tyOf f x.b)∧tyOf f x.dst=signOut x.op∧(signIn x.op=0∨tyOf f x.a=signIn x.op))
def wants (x:Ac):List Int:=if uses x.op≤0 then [] else if uses x.op=1 then [x.a] else if uses x.op=2 then [x.a,x.b] else [x.a,x.b,x.c]
inductive Done (f:Fm):Int→Prop where
 |ins (n:Int) (h:n∈f.ins):Done f n
 |act (x:Ac) (hx:x∈f.acts) (hw:∀n∈wants x,Done f n) (hg:∀g∈clockOf f x.dst,Done f g.wire):Done f x.dst
def rowOk (f:Fm):Prop:=∀n:Nat,n<f.wires.length→Done f n
def formOk (f:Fm):Prop:=wiresOk f∧portsOk f f.ins∧portsOk f f.outs∧cellsOk f∧definedOk f∧(∀x∈f.acts,actOk f x)∧rowOk f
end Go.Proofs.YtbjaejgechadpaaGreat.Fo
namespace Go.Proofs.YtbjaejgechadpaaGreat.Fo
open Vf
def readyOk (f:Fm) (H:List Int) (x:Ac):Prop:=(∀n∈wants x,n∈H)∧∀g∈clockOf f x.dst,g.wire∈H
def ordFrom (f:Fm):List Int→List Ac→Prop
 |_,[]=>True
 |H,x::l=>readyOk f H x∧ordFrom f (x.dst::H) l
def orderedOk (f:Fm):Prop:=formOk f∧ordFrom f f.ins f.acts
def instrOf (x:Ac):In5:=
 if x.op=24∨x.op=3 then ⟨3,x.dst,x.a,0,0⟩
 else if x.op=26∨x.op=27 then ⟨27,x.dst,x.a,x.b,x.c⟩
 else if x.op=1∨x.op=2∨x.op=21 then ⟨x.op,x.dst,0,0,x.k⟩
 else ⟨x.op,x.dst,x.a,x.b,0⟩
def skipsOf:List Gd→Int→List In5
 | [],_=> []
 |g::l,n=>⟨if g.no=true then 31 else 30,g.wire,0,0,l.length+n⟩::skipsOf l n
abbrev Stp:=In5 × List Gd
inductive Runs:List Stp→List In5→Prop where
 |nil:Runs [] []
 |cons (h t:List Stp) (c:List Gd) (code:List In5) (hne:h≠[]) (hc:∀s∈h,s.2=c) (ht:Runs t code):Runs (h++t) (skipsOf c h.length++h.map (·.1)++code)
def portsC (op:Int):Nat→List Int→List In5
 |_,[]=> []
 |i,n::l=>⟨op,n,0,0,i⟩::portsC op (i+1) l
def actStp (f:Fm) (x:Ac):Stp:=(instrOf x,clockOf f x.dst)
def keepStp (f:Fm) (k:Int × Int):Stp:=(⟨32,k.2,0,0,k.1⟩,clockOf f k.2)
def stepsOf (f:Fm):List Stp:=f.acts.map (actStp f)++f.keeps.map (keepStp f)
def Emits (f:Fm) (code:List In5):Prop:=∃body,Runs (stepsOf f) body∧code=portsC 28 0 f.ins++body++portsC 29 0 f.outs
def progOf (f:Fm) (code:List In5):Pg:=⟨f.ins.map (tyOf f),f.outs.map (tyOf f),f.wires.length,f.cells,code⟩
def stRun (p:Pg):LS→Nat→List In5→LS
 |s,_,[]=>s
 |s,i,x::l=>stRun p (s.instr p i x) (i+1) l
theorem stRun_append (p:Pg):∀(l m:List In5) (s:LS) (i:Nat),stRun p s i (l++m)=stRun p (stRun p s i l) (i+l.length) m
 | [],m,s,i=>by simp[stRun]
 |x::l,m,s,i=>by
  simp only[List.cons_append,stRun,List.length_cons]
  rw[stRun_append p l m,show i+1+l.length=i+(l.length+1) by omega]
theorem stTo_run (p:Pg):∀k,k≤p.code.length→stTo p k=stRun p (init p) 0 (p.code.take k)
 |0,_=>by simp[stTo,stRun]
 |k+1,h=>by
  have hx:p.code[k]? =some p.code[k]:=List.getElem?_eq_getElem (by omega)
  rw[stTo,hx,stTo_run p k (by omega),List.take_add_one,hx,Option.toList_some,stRun_append]
  simp[stRun,Nat.min_eq_left (show k≤p.code.length by omega)]
structure St (f:Fm) (H:List Int) (s:LS):Prop where
 bad:s.bad=false
 len:s.kinds.length=f.wires.length
 kinds:∀n,isW f n→getI s.kinds n=if n∈H then tyOf f n else 0
def tyTwo (f:Fm):Prop:=∀n,isW f n→tyOf f n=1∨tyOf f n=2
section
variable {f:Fm} {H:List Int} {s:LS} {p:Pg}
theorem St.has (h:St f H s) {n:Int} (hn:isW f n):has s.kinds n:=⟨hn.1,by rw[h.len];exact hn.2⟩
theorem St.takes (h:St f H s) (ht:tyTwo f) {n:Int} (hn:isW f n) (hm:n∈H):s.takes n=(tyOf f n,s):=by
 have hk:=h.kinds n hn
 rw[if_pos hm] at hk
 have h2:=ht n hn
 unfold LS.takes
 rw[if_pos ⟨h.has hn,by rw[hk];omega⟩,hk]
theorem St.gives (h:St f H s) {n k:Int} (hn:isW f n) (hm:n∉H) (hk:k=tyOf f n):St f (n::H) (s.gives n k)∧(s.gives n k).past=s.past∧(s.gives n k).outs=s.outs:=by
 have h0:=h.kinds n hn
 rw[if_neg hm] at h0
 unfold LS.gives
 rw[if_pos ⟨h.has hn,h0⟩]
 refine ⟨⟨h.bad,by simp[h.len],fun m hm'=>?_⟩,rfl,rfl⟩
 have hl:n.toNat<s.kinds.length:=by have:=h.len;have:=hn.1;have:=hn.2;omega
 by_cases e:m=n
 ·subst e
  rw[if_pos (by simp)]
  simp[getI,List.getD_eq_getElem?_getD,hl,hk]
 ·have e':n.toNat≠m.toNat:=by have:=hn.1;have:=hm'.1;omega
  have hkm:=h.kinds m hm'
  simp only[getI,List.getD_eq_getElem?_getD,List.getElem?_set_ne e'] at hkm⊢
  rw[hkm]
  simp[e]
theorem need_true (s:LS):s.need true=s:=by simp[LS.need]
theorem reckons_ok {x:In5} {K i o:Int} (hb:s.takes x.b=(K,s)) (hk:i=0∨K=i) (hc:x.op≠5∧x.op≠6→s.takes x.c=(K,s)):s.reckons x i o=s.gives x.a o:=by
 have e1:(i==0||K==i)=true:=by rcases hk with h|h<;>simp[h]
 unfold LS.reckons
 simp only[hb,e1,need_true]
 by_cases h5:x.op≠5∧x.op≠6
 ·rw[if_pos h5,hc h5]
  simp[need_true]
 ·rw[if_neg h5]
theorem one_ok {l:List Int} {n:Int} (h:has l n):s.one l n=(getI l n,s):=by unfold LS.one;rw[if_pos h]
theorem uses_cases {op:Int} (h:0≤uses op):op=1∨op=2∨op=21∨op=3∨op=24∨op=26∨op=27∨(5≤op∧op≤6)∨(7≤op∧op≤20):=by
 unfold uses at h
 by_cases h1:op=1∨op=2∨op=21
 ·omega
 ·rw[if_neg h1] at h
  by_cases h2:op=3∨op=5∨op=6∨op=24
  ·omega
  ·rw[if_neg h2] at h
   by_cases h3:7≤op∧op≤20
   ·omega
   ·rw[if_neg h3] at h
    by_cases h4:op=26∨op=27
    ·omega
    ·rw[if_neg h4] at h
     omega
def Same2 (s s':LS):Prop:=s'.past=s.past∧s'.outs=s.outs
theorem act_step {x:Ac} {i:Int} (hp:p.cells=f.cells) (ht:tyTwo f) (hs:St f H s) (ha:actOk f x) (hd:isW f x.dst) (hn:x.dst∉H) (hw:∀n∈wants x,n∈H):
  St f (x.dst::H) (s.instr p i (instrOf x))∧Same2 s (s.instr p i (instrOf x)):=by
 obtain ⟨wa,wb,wc,hu,_,_,_,_,hr⟩:=ha
 obtain ⟨op,dst,a,b,c,k⟩:=x
 dsimp only at*
 unfold Same2
 rcases uses_cases hu with h|h|h|h|h|h|h|h|h
 ·subst h
  simp only[if_true] at hr
  simp[instrOf,LS.instr]
  exact hs.gives hd hn hr.symm
 ·subst h
  simp at hr
  have e:(k==0||k==1)=true:=by rcases hr.2 with h|h<;>simp[h]
  simp[instrOf,LS.instr]
  have e':(k==0||k==1)=true:=e
  rw[e',need_true]
  exact hs.gives hd hn hr.1.symm
 ·subst h
  simp at hr
  obtain ⟨h0,h1,h2,_⟩:=hr
  have hh:Vf.has (types p.cells) k:=⟨h0,by rw[hp];simpa[types] using h1⟩
  simp[instrOf,LS.instr,one_ok hh]
  exact hs.gives hd hn (by rw[hp];exact h2.symm)
 ·subst h
  simp at hr
  have hm:=hw a (by simp[wants,uses])
  simp[instrOf,LS.instr,hs.takes ht wa hm]
  exact hs.gives hd hn hr.2.symm
 ·subst h
  simp at hr
  obtain ⟨_,hr⟩:=hr
  have hm:=hw a (by simp[wants,uses])
  simp[instrOf,LS.instr,hs.takes ht wa hm]
  exact hs.gives hd hn hr.symm
 ·subst h
  simp at hr
  obtain ⟨_,h2,h3,h4,_⟩:=hr
  have hma:=hw a (by simp[wants,uses])
  have hmb:=hw b (by simp[wants,uses])
  have hmc:=hw c (by simp[wants,uses])
  have e2:(tyOf f a==2)=true:=by simp[h2]
  have e3:(tyOf f c==tyOf f b)=true:=by simp[←h3,←h4]
  simp only[instrOf,LS.instr]
  simp[hs.takes ht wa hma,hs.takes ht wb hmb,hs.takes ht wc hmc,h2,e3,need_true]
  exact hs.gives hd hn h3.symm
 ·subst h
  simp at hr
  obtain ⟨_,_,_,h2,h3,h4⟩:=hr
  have hma:=hw a (by simp[wants,uses])
  have hmb:=hw b (by simp[wants,uses])
  have hmc:=hw c (by simp[wants,uses])
  have e3:(tyOf f c==tyOf f b)=true:=by simp[←h3]
  simp only[instrOf,LS.instr]
  simp[hs.takes ht wa hma,hs.takes ht wb hmb,hs.takes ht wc hmc,h2,e3,need_true]
  exact hs.gives hd hn h4.symm
 ·have hu1:uses op=1:=by unfold uses;rw[if_neg (by omega),if_pos (by omega)]
  have hma:=hw a (by simp[wants,hu1])
  rw[if_neg (by omega),if_neg (by omega),if_neg (by omega),if_neg (by omega),if_neg (by omega),if_neg (by omega),if_neg (by omega)] at hr
  have e0:instrOf ⟨op,dst,a,b,c,k⟩=⟨op,dst,a,b,0⟩:=by simp only[instrOf];rw[if_neg (by omega),if_neg (by omega),if_neg (by omega)]
  rw[e0]
  simp only[LS.instr]
  rw[if_pos (by omega),reckons_ok (hs.takes ht wa hma) hr.2.2.2 (fun g=>absurd g (by dsimp only;omega))]
  exact hs.gives hd hn hr.2.2.1.symm
 ·have hu1:uses op=2:=by unfold uses;rw[if_neg (by omega),if_neg (by omega),if_pos (by omega)]
  have hma:=hw a (by simp[wants,hu1])
  have hmb:=hw b (by simp[wants,hu1])
  rw[if_neg (by omega),if_neg (by omega),if_neg (by omega),if_neg (by omega),if_neg (by omega),if_neg (by omega),if_neg (by omega)] at hr
  have e0:instrOf ⟨op,dst,a,b,c,k⟩=⟨op,dst,a,b,0⟩:=by simp only[instrOf];rw[if_neg (by omega),if_neg (by omega),if_neg (by omega)]
  rw[e0]
  simp only[LS.instr]
  rw[if_pos (by omega),reckons_ok (hs.takes ht wa hma) hr.2.2.2 (fun g=>by dsimp only;rw[hs.takes ht wb hmb,(hr.2.1 (by omega)).2])]
  exact hs.gives hd hn hr.2.2.1.symm
theorem keep_step {k:Int × Int} {i:Int} (hp:p.cells=f.cells) (ht:tyTwo f) (hs:St f H s) (h0:0≤k.1) (h1:k.1<f.cells.length) (hw:isW f k.2) (hty:tyOf f k.2=getI (types f.cells) k.1) (hm:k.2∈H):
  s.instr p i ⟨32,k.2,0,0,k.1⟩=s:=by
 have hh:Vf.has (types p.cells) k.1:=⟨h0,by rw[hp];simpa[types] using h1⟩
 have e:(tyOf f k.2==getI (types p.cells) k.1)=true:=by rw[hp];simp[hty]
 simp[LS.instr,hs.takes ht hw hm,one_ok hh,e,need_true]
theorem skip_step {op n k:Int} {i:Nat} (ho:op=30∨op=31) (ht:tyTwo f) (hs:St f H s) (hw:isW f n) (hty:tyOf f n=2) (hm:n∈H) (h0:0≤k) (h1:(i:Int)+1+k≤p.code.length):
  s.instr p i ⟨op,n,0,0,k⟩={s with past:=max s.past (i+1+k)}:=by
 have e:(tyOf f n==2 && (decide (0≤k) && decide (k≤(p.code.length:Int)-1-i)))=true:=by simp[hty];omega
 have em:min k (p.code.length:Int)=k:=by omega
 simp only[LS.instr]
 rw[if_neg (by omega),if_neg (by omega),if_neg (by omega),if_neg (by omega),if_neg (by omega),if_neg (by omega),if_neg (by omega),if_neg (by omega),if_neg (by omega)]
 simp only[hs.takes ht hw hm,e,need_true,em]
theorem St.past (h:St f H s) (q:Int):St f H {s with past:=q}:=⟨h.bad,h.len,h.kinds⟩
theorem skips_run (ht:tyTwo f) {E:Int} (hE:E≤p.code.length):∀(c:List Gd) (m:Nat) (s:LS) (i:Nat),St f H s→(∀g∈c,isW f g.wire∧tyOf f g.wire=2∧g.wire∈H)→(i:Int)+c.length+m≤E→s.past≤E→
  St f H (stRun p s i (skipsOf c m))∧(stRun p s i (skipsOf c m)).past≤E∧(stRun p s i (skipsOf c m)).outs=s.outs
 | [],m,s,i,hs,_,_,hp=>⟨hs,hp,rfl⟩
 |g::c,m,s,i,hs,hg,hi,hp=>by
  obtain ⟨g1,g2,g3⟩:=hg g (by simp)
  simp only[List.length_cons] at hi
  simp only[skipsOf,stRun]
  rw[skip_step (by split<;>simp) ht hs g1 g2 g3 (by omega) (by omega)]
  exact skips_run ht hE c m _ (i+1) (hs.past _) (fun g h=>hg g (by simp[h])) (by omega) (by dsimp only;omega)
theorem skipsOf_len:∀(c:List Gd) (m:Int),(skipsOf c m).length=c.length
 | [],_=>rfl
 |g::c,m=>by simp[skipsOf,skipsOf_len c m]
def okStep (p:Pg) (f:Fm) (H:List Int) (x:In5) (H':List Int):Prop:=∀(s:LS) (i:Int),St f H s→St f H' (s.instr p i x)∧Same2 s (s.instr p i x)
inductive Chain (p:Pg) (f:Fm):List Int→List Stp→List Int→Prop where
 |nil (H:List Int):Chain p f H [] H
 |cons (H H1 H2:List Int) (x:In5) (c:List Gd) (l:List Stp) (hg:∀g∈c,isW f g.wire∧tyOf f g.wire=2∧g.wire∈H) (hx:okStep p f H x H1) (hl:Chain p f H1 l H2):Chain p f H ((x,c)::l) H2
theorem chain_append {H H':List Int}:∀{l m:List Stp},Chain p f H (l++m) H'→∃H1,Chain p f H l H1∧Chain p f H1 m H'
 | [],m,h=>⟨H,.nil H,h⟩
 |(x,c)::l,m,h=>by
  cases h with
  |cons _ H1 _ _ _ _ hg hx hl=>
   obtain ⟨H2,h1,h2⟩:=chain_append hl
   exact ⟨H2,.cons _ _ _ _ _ _ hg hx h1,h2⟩
theorem chain_join {H H1 H':List Int} {l m:List Stp} (h1:Chain p f H l H1) (h2:Chain p f H1 m H'):Chain p f H (l++m) H':=by
 induction h1 with
 |nil=>exact h2
 |cons _ _ _ _ _ _ hg hx _ ih=>exact .cons _ _ _ _ _ _ hg hx (ih h2)
theorem chain_run {H H':List Int} {l:List Stp} (h:Chain p f H l H'):∀(s:LS) (i:Nat),St f H s→St f H' (stRun p s i (l.map (·.1)))∧Same2 s (stRun p s i (l.map (·.1))):=by
 induction h with
 |nil=>exact fun s i hs=>⟨hs,rfl,rfl⟩
 |cons _ _ _ _ _ _ hg hx _ ih=>
  intro s i hs
  obtain ⟨h1,h2,h3⟩:=hx s i hs
  obtain ⟨h4,h5,h6⟩:=ih _ (i+1) h1
  exact ⟨h4,h5.trans h2,h6.trans h3⟩
theorem runs_run (ht:tyTwo f) {l:List Stp} {code:List In5} (hr:Runs l code):∀(H H':List Int) (s:LS) (i:Nat),Chain p f H l H'→St f H s→i+code.length≤p.code.length→s.past≤i→
  St f H' (stRun p s i code)∧(stRun p s i code).past≤i+code.length∧(stRun p s i code).outs=s.outs:=by
 induction hr with
 |nil=>
  intro H H' s i hc hs _ hp
  cases hc
  exact ⟨hs,by simpa[stRun] using hp,rfl⟩
 |cons h t c code hne hcl _ ih=>
  intro H H' s i hc hs hi hp
  obtain ⟨H1,c1,c2⟩:=chain_append hc
  simp only[List.length_append,skipsOf_len,List.length_map] at hi⊢
  have hg:∀g∈c,isW f g.wire∧tyOf f g.wire=2∧g.wire∈H:=by
   cases c1 with
   |nil=>exact absurd rfl hne
   |cons _ _ _ x c' l hg _ _=>
    have:c'=c:=hcl (x,c') (by simp)
    rw[←this]
    exact hg
  have hE:((i+(c.length+h.length):Nat):Int)≤p.code.length:=by omega
  obtain ⟨s1,s2,s3⟩:=skips_run (p:=p) ht (E:=((i+(c.length+h.length):Nat):Int)) hE c h.length s i hs hg (by omega) (by omega)
  rw[stRun_append,stRun_append,skipsOf_len]
  obtain ⟨r1,r2,r3⟩:=chain_run c1 _ (i+c.length) s1
  simp only[List.length_append,skipsOf_len,List.length_map]
  obtain ⟨q1,q2,q3⟩:=ih H1 H' _ (i+(c.length+h.length)) c2 r1 (by omega) (by rw[r2];exact s2)
  exact ⟨q1,by omega,q3.trans (r3.trans s3)⟩
end
end Go.Proofs.YtbjaejgechadpaaGreat.Fo
namespace Go.Proofs.YtbjaejgechadpaaGreat.Fo
open Vf
theorem need_bad {s:LS} {b:Bool} (h:(s.need b).bad=false):s.bad=false:=by
 simp[LS.need] at h
 exact h.1
theorem takes_bad {s:LS} {n:Int} (h:(s.takes n).2.bad=false):s.bad=false:=by
 unfold LS.takes at h
 split at h
 ·exact h
 ·simp[LS.no] at h
theorem one_bad {s:LS} {l:List Int} {n:Int} (h:(s.one l n).2.bad=false):s.bad=false:=by
 unfold LS.one at h
 split at h
 ·exact h
 ·simp[LS.no] at h
theorem gives_bad' {s:LS} {n k:Int} (h:(s.gives n k).bad=false):s.bad=false:=by
 unfold LS.gives at h
 split at h
 ·exact h
 ·simp[LS.no] at h
theorem reckons_bad {s:LS} {x:In5} {i o:Int} (h:(s.reckons x i o).bad=false):s.bad=false:=by
 unfold LS.reckons at h
 dsimp only at h
 have h1:=gives_bad' h
 split at h1
 ·exact takes_bad (need_bad (takes_bad (need_bad h1)))
 ·exact takes_bad (need_bad h1)
theorem instr_bad {p:Pg} {s:LS} {i:Int} {x:In5} (h:(s.instr p i x).bad=false):s.bad=false:=by
 unfold LS.instr at h
 dsimp only at h
 split at h
 ·exact reckons_bad h
 split at h
 ·exact gives_bad' h
 split at h
 ·exact need_bad (gives_bad' h)
 split at h
 ·exact takes_bad (gives_bad' h)
 split at h
 ·exact takes_bad (need_bad (takes_bad (takes_bad (need_bad (gives_bad' h)))))
 split at h
 ·exact one_bad (gives_bad' h)
 split at h
 ·exact one_bad (gives_bad' h)
 split at h
 ·split at h
  ·exact takes_bad (one_bad (need_bad (need_bad h)))
  ·exact takes_bad (one_bad (need_bad (need_bad (need_bad h))))
 split at h
 ·exact takes_bad (one_bad (need_bad h))
 ·exact takes_bad (need_bad h)
theorem stTo_bad {p:Pg}:∀(d k:Nat),(stTo p (k+d)).bad=false→(stTo p k).bad=false
 |0,k,h=>h
 |d+1,k,h=>by
  refine stTo_bad d k ?_
  rw[show k+(d+1)=(k+d)+1 by omega,stTo] at h
  split at h
  ·exact instr_bad h
  ·exact h
theorem look_of {p:Pg} (h:(stRun p (init p) 0 p.code).bad=false) (ho:∀b∈(stRun p (init p) 0 p.code).outs,b=true):lookOk p:=by
 have e:stTo p p.code.length=stRun p (init p) 0 p.code:=by rw[stTo_run p _ (Nat.le_refl _),List.take_length]
 refine ⟨fun k hk=>?_,by rw[e];exact ho⟩
 obtain ⟨d,hd⟩:=Nat.exists_eq_add_of_le hk
 refine stTo_bad d k ?_
 rw[←hd,e]
 exact h
section
variable {f:Fm} {H:List Int} {s:LS} {p:Pg}
theorem St.congr {H':List Int} (h:St f H s) (hh:∀n,n∈H↔n∈H'):St f H' s:=⟨h.bad,h.len,fun n hn=>by rw[h.kinds n hn];simp[hh n]⟩
theorem ins_run:∀(l:List Int) (j:Nat) (s:LS) (i:Nat) (H:List Int),St f H s→(∀k n,l[k]? =some n→isW f n∧Vf.has p.ins ((j+k:Nat):Int)∧getI p.ins ((j+k:Nat):Int)=tyOf f n)→l.Nodup→(∀n∈l,n∉H)→
  ∃H',(∀n,n∈H'↔n∈l∨n∈H)∧St f H' (stRun p s i (portsC 28 j l))∧Same2 s (stRun p s i (portsC 28 j l))
 | [],j,s,i,H,hs,_,_,_=>⟨H,by simp,hs,rfl,rfl⟩
 |n::l,j,s,i,H,hs,hp,hd,hn=>by
  obtain ⟨h1,h2,h3⟩:=hp 0 n rfl
  simp only[Nat.add_zero] at h2 h3
  rw[List.nodup_cons] at hd
  have e:s.instr p i ⟨28,n,0,0,(j:Int)⟩=s.gives n (getI p.ins j):=by simp[LS.instr,one_ok h2]
  simp only[portsC,stRun]
  rw[e]
  obtain ⟨g1,g2,g3⟩:=hs.gives h1 (hn n (by simp)) h3
  obtain ⟨H',q1,q2,q3,q4⟩:=ins_run l (j+1) _ (i+1) (n::H) g1 (fun k m hk=>by
   have:=hp (k+1) m (by simpa using hk)
   rw[show j+1+k=j+(k+1) by omega]
   exact this) hd.2 (fun m hm=>by
    simp only[List.mem_cons,not_or]
    exact ⟨fun g=>hd.1 (g▸hm),hn m (by simp[hm])⟩)
  refine ⟨H',fun m=>?_,q2,q3.trans g2,q4.trans g3⟩
  rw[q1 m]
  simp only[List.mem_cons]
  constructor
  ·rintro (h|h|h)
   ·exact .inl (.inr h)
   ·exact .inl (.inl h)
   ·exact .inr h
  ·rintro ((h|h)|h)
   ·exact .inr (.inl h)
   ·exact .inl h
   ·exact .inr (.inr h)
theorem outs_run (ht:tyTwo f):∀(l:List Int) (j:Nat) (s:LS) (i:Nat),St f H s→(∀k n,l[k]? =some n→isW f n∧n∈H∧Vf.has p.outs ((j+k:Nat):Int)∧getI p.outs ((j+k:Nat):Int)=tyOf f n)→s.past≤i→
  (∀k:Nat,j≤k→s.outs.getD k false=false)→(∀k:Nat,k<j→s.outs.getD k false=true)→s.outs.length=j+l.length→
  (stRun p s i (portsC 29 j l)).bad=false∧∀b∈(stRun p s i (portsC 29 j l)).outs,b=true
 | [],j,s,i,hs,_,_,_,h1,hl=>⟨hs.bad,fun b hb=>by
   obtain ⟨k,hk⟩:=List.getElem?_of_mem hb
   have hk':=(List.getElem?_eq_some_iff.1 hk).1
   simp only[stRun,portsC] at hk hk'
   have:=h1 k (by simp at hl;omega)
   rw[List.getD_eq_getElem?_getD,hk] at this
   simpa using this⟩
 |n::l,j,s,i,hs,hp,hq,h0,h1,hl=>by
  obtain ⟨w1,w2,w3,w4⟩:=hp 0 n rfl
  simp only[Nat.add_zero] at w3 w4
  have e1:(tyOf f n==getI p.outs j)=true:=by simp[w4]
  have e2:decide (s.past≤(i:Int))=true:=by simpa using hq
  have e3:=h0 j (Nat.le_refl _)
  have e:s.instr p i ⟨29,n,0,0,(j:Int)⟩={s with outs:=s.outs.set j true}:=by
   simp only[LS.instr]
   rw[if_neg (by omega),if_neg (by omega),if_neg (by omega),if_neg (by omega),if_neg (by omega),if_neg (by omega),if_neg (by omega)]
   simp only[if_true,hs.takes ht w1 w2,one_ok w3,e1,need_true,e2,hs.bad,Bool.false_eq_true,if_false,Int.toNat_natCast,e3,Bool.not_false]
  simp only[portsC,stRun]
  rw[e]
  have hlen:j<s.outs.length:=by simp at hl;omega
  refine outs_run ht l (j+1) _ (i+1) ⟨hs.bad,hs.len,hs.kinds⟩ (fun k m hk=>by
   have:=hp (k+1) m (by simpa using hk)
   rw[show j+1+k=j+(k+1) by omega]
   exact this) (by dsimp only;omega) (fun k hk=>?_) (fun k hk=>?_) (by simp at hl⊢;omega)
  ·dsimp only
   rw[List.getD_eq_getElem?_getD,List.getElem?_set_ne (by omega),←List.getD_eq_getElem?_getD]
   exact h0 k (by omega)
  ·dsimp only
   by_cases ek:k=j
   ·subst ek
    rw[List.getD_eq_getElem?_getD,List.getElem?_set_self hlen]
    rfl
   ·rw[List.getD_eq_getElem?_getD,List.getElem?_set_ne (by omega),←List.getD_eq_getElem?_getD]
    exact h1 k (by omega)
end
theorem portsC_len (op:Int):∀(l:List Int) (j:Nat),(portsC op j l).length=l.length
 | [],_=>rfl
 |n::l,j=>by simp[portsC,portsC_len op l]
theorem ty_two {f:Fm} (h:wiresOk f):tyTwo f:=fun n hn=>by
 have hl:n.toNat<f.wires.length:=by have:=hn.1;have:=hn.2;omega
 have e:wAt f n=f.wires[n.toNat]:=by simp[wAt,List.getD_eq_getElem?_getD,hl]
 unfold tyOf
 rw[e]
 exact (h.1 _ (List.getElem_mem hl)).1
theorem clock_ok {f:Fm} (h:wiresOk f) {n:Int} (hn:isW f n):∀g∈clockOf f n,isW f g.wire∧tyOf f g.wire=2:=fun g hg=>by
 have hl:n.toNat<f.wires.length:=by have:=hn.1;have:=hn.2;omega
 have e:wAt f n=f.wires[n.toNat]:=by simp[wAt,List.getD_eq_getElem?_getD,hl]
 unfold clockOf at hg
 rw[e] at hg
 obtain ⟨i,hi⟩:=List.getElem?_of_mem hg
 obtain ⟨h1,h2,_⟩:=(h.1 _ (List.getElem_mem hl)).2 i g hi
 exact ⟨h1,h2⟩
theorem nodup_of {α β:Type} {l:List α} {g:α→β} (h:∀(i j:Nat) x y,i<j→l[i]? =some x→l[j]? =some y→g x≠g y):(l.map g).Nodup:=by
 rw[List.nodup_iff_pairwise_ne,List.pairwise_map,List.pairwise_iff_getElem]
 intro i j hi hj hij
 exact h i j _ _ hij (List.getElem?_eq_getElem hi) (List.getElem?_eq_getElem hj)
theorem acts_chain {f:Fm} {p:Pg} (hp:p.cells=f.cells) (hw:wiresOk f):∀(l:List Ac) (H:List Int),(∀x∈l,actOk f x∧isW f x.dst∧x.dst∉H)→(l.map (·.dst)).Nodup→ordFrom f H l→
  ∃H',(∀n,n∈H'↔(∃x∈l,x.dst=n)∨n∈H)∧Chain p f H (l.map (actStp f)) H'
 | [],H,_,_,_=>⟨H,by simp,.nil H⟩
 |x::l,H,hx,hd,ho=>by
  obtain ⟨a1,a2,a3⟩:=hx x (by simp)
  simp only[List.map_cons,List.nodup_cons] at hd
  obtain ⟨⟨o1,o2⟩,o3⟩:=ho
  obtain ⟨H',q1,q2⟩:=acts_chain hp hw l (x.dst::H) (fun y hy=>⟨(hx y (by simp[hy])).1,(hx y (by simp[hy])).2.1,by
   simp only[List.mem_cons,not_or]
   exact ⟨fun g=>hd.1 (List.mem_map.2 ⟨y,hy,g⟩),(hx y (by simp[hy])).2.2⟩⟩) hd.2 o3
  refine ⟨H',fun n=>?_,.cons _ (x.dst::H) _ _ _ _ (fun g hg=>⟨(clock_ok hw a2 g hg).1,(clock_ok hw a2 g hg).2,o2 g hg⟩) (fun s i hs=>act_step hp (ty_two hw) hs a1 a2 a3 o1) q2⟩
  rw[q1 n]
  simp only[List.mem_cons]
  constructor
  ·rintro (⟨y,hy,e⟩|rfl|h)
   ·exact .inl ⟨y,.inr hy,e⟩
   ·exact .inl ⟨x,.inl rfl,rfl⟩
   ·exact .inr h
  ·rintro (⟨y,rfl|hy,e⟩|h)
   ·exact .inr (.inl e.symm)
   ·exact .inl ⟨y,hy,e⟩
   ·exact .inr (.inr h)
theorem keeps_chain {f:Fm} {p:Pg} {H:List Int} (hp:p.cells=f.cells) (hw:wiresOk f) (hH:∀n,isW f n→n∈H):∀(l:List (Int × Int)),(∀k∈l,0≤k.1∧k.1<f.cells.length∧isW f k.2∧tyOf f k.2=getI (types f.cells) k.1)→Chain p f H (l.map (keepStp f)) H
 | [],_=> .nil H
 |k::l,hk=>by
  obtain ⟨k0,k1,k2,k3⟩:=hk k (by simp)
  refine .cons _ H _ _ _ _ (fun g hg=>⟨(clock_ok hw k2 g hg).1,(clock_ok hw k2 g hg).2,hH _ (clock_ok hw k2 g hg).1⟩) (fun s i hs=>?_) (keeps_chain hp hw hH l (fun k' h'=>hk k' (by simp[h'])))
  rw[keep_step hp (ty_two hw) hs k0 k1 k2 k3 (hH _ k2)]
  exact ⟨hs,rfl,rfl⟩
theorem runs_mem {l:List Stp} {code:List In5} (h:Runs l code):∀x∈code,(∃s∈l,s.1=x)∨((x.op=30∨x.op=31)∧x.b=0∧x.c=0∧∃s∈l,∃g∈s.2,x.a=g.wire):=by
 induction h with
 |nil=>intro x hx;simp at hx
 |cons h t c code hne hc _ ih=>
  intro x hx
  simp only[List.mem_append,List.mem_map] at hx
  rcases hx with (hx|⟨s,hs,e⟩)|hx
  ·have:∀(c':List Gd) (m:Int),x∈skipsOf c' m→(x.op=30∨x.op=31)∧x.b=0∧x.c=0∧∃g∈c',x.a=g.wire:=by
    intro c'
    induction c' with
    |nil=>intro m hm;simp[skipsOf] at hm
    |cons g c' ih'=>
     intro m hm
     simp only[skipsOf,List.mem_cons] at hm
     rcases hm with rfl|hm
     ·exact ⟨by dsimp only;split<;>simp,rfl,rfl,g,by simp,rfl⟩
     ·obtain ⟨a1,a2,a3,g',hg',e⟩:=ih' m hm
      exact ⟨a1,a2,a3,g',by simp[hg'],e⟩
   obtain ⟨a1,a2,a3,g,hg,e⟩:=this c _ hx
   cases h with
   |nil=>exact absurd rfl hne
   |cons s0 h=>
    exact .inr ⟨a1,a2,a3,s0,by simp,g,by rw[hc s0 (by simp)];exact hg,e⟩
  ·exact .inl ⟨s,by simp[hs],e⟩
  ·rcases ih x hx with ⟨s,hs,e⟩|⟨a1,a2,a3,s,hs,g,hg,e⟩
   ·exact .inl ⟨s,by simp[hs],e⟩
   ·exact .inr ⟨a1,a2,a3,s,by simp[hs],g,hg,e⟩
theorem portsC_mem {op:Int} {x:In5}:∀{l:List Int} {j:Nat},x∈portsC op j l→x.op=op∧x.b=0∧x.c=0∧x.a∈l
 | [],_,h=>by simp[portsC] at h
 |n::l,j,h=>by
  simp only[portsC,List.mem_cons] at h
  rcases h with rfl|h
  ·exact ⟨rfl,rfl,rfl,by simp⟩
  ·obtain ⟨a1,a2,a3,a4⟩:=portsC_mem h
   exact ⟨a1,a2,a3,by simp[a4]⟩
theorem instr_ok {f:Fm} {x:Ac} (ha:actOk f x) (hd:isW f x.dst):instrOk (instrOf x):=by
 obtain ⟨wa,wb,wc,hu,u1,u2,u3,u4,hr⟩:=ha
 have ha0:=wa.1
 have hb0:=wb.1
 have hc0:=wc.1
 have hd0:=hd.1
 obtain ⟨op,dst,a,b,c,k⟩:=x
 dsimp only at*
 unfold instrOk hasA hasAB hasABC
 rcases uses_cases hu with h|h|h|h|h|h|h|h|h
 ·subst h;simp[instrOf];omega
 ·subst h;simp[instrOf];omega
 ·subst h;simp[instrOf];omega
 ·subst h;simp[instrOf];omega
 ·subst h;simp[instrOf];omega
 ·subst h;simp[instrOf];omega
 ·subst h;simp[instrOf];omega
 ·have hu1:uses op=1:=by unfold uses;rw[if_neg (by omega),if_pos (by omega)]
  have e0:instrOf ⟨op,dst,a,b,c,k⟩=⟨op,dst,a,b,0⟩:=by simp only[instrOf];rw[if_neg (by omega),if_neg (by omega),if_neg (by omega)]
  rw[e0]
  have:=u2 (by omega)
  dsimp only
  omega
 ·have e0:instrOf ⟨op,dst,a,b,c,k⟩=⟨op,dst,a,b,0⟩:=by simp only[instrOf];rw[if_neg (by omega),if_neg (by omega),if_neg (by omega)]
  rw[e0]
  dsimp only
  omega
theorem types_ok {f:Fm} (hw:wiresOk f) {l:List Int} (h:portsOk f l):typesOk (l.map (tyOf f)):=by
 refine ⟨fun t ht=>?_,by simpa using h.2.1,by simpa using h.2.2⟩
 obtain ⟨n,hn,rfl⟩:=List.mem_map.1 ht
 exact ty_two hw n (h.1 n hn).1
theorem ins_at {f:Fm} {l:List Int} {k:Nat} {n:Int} (h:l[k]? =some n):Vf.has (l.map (tyOf f)) (k:Int)∧getI (l.map (tyOf f)) (k:Int)=tyOf f n:=by
 have hk:=(List.getElem?_eq_some_iff.1 h).1
 refine ⟨⟨by omega,by simp;omega⟩,?_⟩
 simp[getI,List.getD_eq_getElem?_getD,h]
theorem emit_may {f:Fm} (hf:formOk f) {code:List In5} (he:Emits f code) (hl:code.length≤2048):mayOk (progOf f code):=by
 obtain ⟨hw,hi,ho,hc,hd,ha,_⟩:=hf
 obtain ⟨body,hr,rfl⟩:=he
 refine ⟨hc.1,fun x hx=>?_,types_ok hw hi,types_ok hw ho,by simp[progOf],by have:=hw.2.2;simp[progOf];omega,hc.2.1,hl⟩
 simp only[progOf,List.mem_append] at hx
 rcases hx with (hx|hx)|hx
 ·obtain ⟨a1,a2,a3,a4⟩:=portsC_mem hx
  have:=(hi.1 _ a4).1.1
  unfold instrOk hasA hasAB hasABC
  omega
 ·rcases runs_mem hr x hx with ⟨s,hs,rfl⟩|⟨a1,a2,a3,s,hs,g,hg,e⟩
  ·simp only[stepsOf,List.mem_append,List.mem_map] at hs
   rcases hs with ⟨y,hy,rfl⟩|⟨k,hk,rfl⟩
   ·exact instr_ok (ha y hy) (hd.2.1 y hy).1
   ·have:=(hc.2.2.1 k hk).2.2.1.1
    unfold instrOk hasA hasAB hasABC keepStp
    dsimp only
    omega
  ·have hg':isW f g.wire:=by
    simp only[stepsOf,List.mem_append,List.mem_map] at hs
    rcases hs with ⟨y,hy,rfl⟩|⟨k,hk,rfl⟩
    ·exact (clock_ok hw (hd.2.1 y hy).1 g hg).1
    ·exact (clock_ok hw (hc.2.2.1 k hk).2.2.1 g hg).1
   have:=hg'.1
   unfold instrOk hasA hasAB hasABC
   omega
 ·obtain ⟨a1,a2,a3,a4⟩:=portsC_mem hx
  have:=(ho.1 _ a4).1.1
  unfold instrOk hasA hasAB hasABC
  omega
theorem emit_right {f:Fm} (hf:orderedOk f) {code:List In5} (he:Emits f code) (hl:code.length≤2048):rightOk (progOf f code):=by
 obtain ⟨hf,hord⟩:=hf
 have hm:=emit_may hf he hl
 refine (verify_is _).1 ⟨hm,?_⟩
 obtain ⟨hw,hi,ho,hc,hd,ha,_⟩:=hf
 obtain ⟨body,hr,hcode⟩:=he
 have ht:=ty_two hw
 have hcd:(progOf f code).code=portsC 28 0 f.ins++body++portsC 29 0 f.outs:=hcode
 have s0:St f [] (init (progOf f code)):=⟨rfl,by simp[init,progOf],fun n _=>by rw[if_neg (by simp)];exact getI_rep _ _⟩
 have hnd:f.ins.Nodup:=by simpa using nodup_of (g:=id) hd.1
 obtain ⟨H1,e1,s1,p1,o1⟩:=ins_run (p:=progOf f code) f.ins 0 _ 0 [] s0 (fun k n hk=>⟨(hi.1 n (List.mem_of_getElem? hk)).1,by rw[Nat.zero_add];exact (ins_at hk).1,by rw[Nat.zero_add];exact (ins_at hk).2⟩) hnd (fun n _=>by simp)
 have s1':St f f.ins _:=s1.congr (fun n=>by rw[e1 n];simp)
 obtain ⟨H2,e2,c2⟩:=acts_chain (p:=progOf f code) rfl hw f.acts f.ins (fun x hx=>⟨ha x hx,(hd.2.1 x hx).1,(hd.2.1 x hx).2⟩) (nodup_of hd.2.2.1) hord
 have hH2:∀n,isW f n→n∈H2:=fun n hn=>by
  have hl':n.toNat<f.wires.length:=by have:=hn.1;have:=hn.2;omega
  have en:((n.toNat:Nat):Int)=n:=by have:=hn.1;omega
  have:=hd.2.2.2 n.toNat hl'
  rw[en] at this
  rw[e2 n]
  exact this.symm
 have c3:=keeps_chain (p:=progOf f code) rfl hw hH2 f.keeps (fun k hk=>hc.2.2.1 k hk)
 have hlen:(portsC 28 0 f.ins).length+body.length+(portsC 29 0 f.outs).length=(progOf f code).code.length:=by rw[hcd];simp;omega
 obtain ⟨s2,p2,o2⟩:=runs_run ht hr _ _ _ (0+(portsC 28 0 f.ins).length) (chain_join c2 c3) s1' (by omega) (by rw[p1];simp[init])
 have ho0:(stRun (progOf f code) (stRun (progOf f code) (init (progOf f code)) 0 (portsC 28 0 f.ins)) (0+(portsC 28 0 f.ins).length) body).outs=List.replicate f.outs.length false:=by rw[o2,o1];simp[init,progOf]
 obtain ⟨r1,r2⟩:=outs_run (p:=progOf f code) ht f.outs 0 _ (0+(portsC 28 0 f.ins).length+body.length) s2 (fun k n hk=>⟨(ho.1 n (List.mem_of_getElem? hk)).1,hH2 n (ho.1 n (List.mem_of_getElem? hk)).1,by rw[Nat.zero_add];exact (ins_at hk).1,by rw[Nat.zero_add];exact (ins_at hk).2⟩) (by push_cast at p2⊢;omega) (fun k _=>by rw[ho0];simp[List.getD_eq_getElem?_getD,List.getElem?_replicate];split<;>rfl) (fun k hk=>absurd hk (by omega)) (by rw[ho0];simp)
 have hrun:stRun (progOf f code) (init (progOf f code)) 0 (progOf f code).code=stRun (progOf f code) (stRun (progOf f code) (stRun (progOf f code) (init (progOf f code)) 0 (portsC 28 0 f.ins)) (0+(portsC 28 0 f.ins).length) body) (0+(portsC 28 0 f.ins).length+body.length) (portsC 29 0 f.outs):=by
  rw[hcd,stRun_append,stRun_append,List.length_append,Nat.zero_add,Nat.zero_add]
 exact look_of (by rw[hrun];exact r1) (by rw[hrun];exact r2)
end Go.Proofs.YtbjaejgechadpaaGreat.Fo
namespace Go.Proofs.YtbjaejgechadpaaGreat.Fo
open Vf
def keepOk (f:Fm) (k:Int × Int):Prop:=0≤k.1∧k.1<f.cells.length∧isW f k.2∧tyOf f k.2=getI (types f.cells) k.1
def keptIn (l:List (Int × Int)) (c:Int):Option Int:=(l.find? (fun k=>k.1==c)).map (·.2)
structure KeepSt (f:Fm) (j:Nat) (ks:List Int):Prop where
 len:ks.length=f.cells.length
 ok:∀k∈f.keeps.take j,keepOk f k
 val:∀c:Nat,c<f.cells.length→getI ks c=(keptIn (f.keeps.take j) c).getD (-1)
 dist:(f.keeps.take j).Pairwise (fun x y=>x.1≠y.1)
theorem keptIn_none {l:List (Int × Int)} {c:Int}:keptIn l c=none↔∀k∈l,k.1≠c:=by
 simp[keptIn]
theorem keptIn_some {l:List (Int × Int)} {c n:Int} (h:keptIn l c=some n):(c,n)∈l:=by
 simp only[keptIn,Option.map_eq_some_iff] at h
 obtain ⟨k,h1,h2⟩:=h
 have h3:=List.mem_of_find?_eq_some h1
 have h4:=List.find?_some h1
 simp at h4
 rw[←h4,←h2]
 exact h3
theorem keptIn_snoc {l:List (Int × Int)} {x:Int × Int} {c:Int}:keptIn (l++ [x]) c=(keptIn l c).or (if x.1=c then some x.2 else none):=by
 unfold keptIn
 rw[List.find?_append]
 cases l.find? (fun k=>k.1==c) with
 |some y=>simp
 |none=>
  by_cases h:x.1=c
  ·simp[h]
  ·simp[h]
theorem take_snoc' {α:Type} {l:List α} {j:Nat} {x:α} (h:l[j]? =some x):l.take (j+1)=l.take j++ [x]:=by
 rw[List.take_add_one,h];rfl
theorem getI_set {ks:List Int} {i:Int} {v:Int} {c:Nat} (h0:0≤i) (h1:i<ks.length):getI (ks.set i.toNat v) c=if i=c then v else getI ks c:=by
 simp only[getI,List.getD_eq_getElem?_getD,Int.toNat_natCast,List.getElem?_set]
 by_cases h:i=c
 ·subst h
  simp
  rw[if_pos (by omega)]
  rfl
 ·rw[if_neg (by omega),if_neg h]
theorem keep_start (f:Fm):KeepSt f 0 (List.replicate f.cells.length (-1)):=
 ⟨by simp,by simp,fun c hc=>by simp[getI,List.getD_eq_getElem?_getD,hc,keptIn],by simp⟩
theorem keep_free {f:Fm} {j:Nat} {ks:List Int} (h:KeepSt f j ks) {c:Nat} (hc:c<f.cells.length):getI ks c= -1↔∀k∈f.keeps.take j,k.1≠c:=by
 rw[h.val c hc]
 constructor
 ·intro hn
  cases hk:keptIn (f.keeps.take j) c with
  |none=>exact keptIn_none.1 hk
  |some n=>
   rw[hk] at hn
   have:=(h.ok _ (keptIn_some hk)).2.2.1.1
   simp at hn
   dsimp only at this
   omega
 ·intro hn
  rw[keptIn_none.2 hn]
  rfl
theorem keep_step' {f:Fm} {j:Nat} {ks:List Int} (h:KeepSt f j ks) {x:Int × Int} (hx:f.keeps[j]? =some x) (hk:keepOk f x) (hf:getI ks x.1= -1):KeepSt f (j+1) (ks.set x.1.toNat x.2):=by
 obtain ⟨m,hm⟩:=Int.eq_ofNat_of_zero_le hk.1
 have hml:m<f.cells.length:=by have:=hk.2.1;omega
 have hfree:=(keep_free h hml).1 (by rw[←hm];exact hf)
 refine ⟨by simp[h.len],?_,fun c hc=>?_,?_⟩
 ·rw[take_snoc' hx]
  intro k hk'
  rcases List.mem_append.1 hk' with h'|h'
  ·exact h.ok k h'
  ·simp at h';rw[h'];exact hk
 ·rw[getI_set hk.1 (by rw[h.len];exact hk.2.1),take_snoc' hx,keptIn_snoc]
  by_cases hc':x.1=c
  ·rw[if_pos hc',if_pos hc']
   have:keptIn (f.keeps.take j) c=none:=keptIn_none.2 (fun k hk'=>by rw[←hc',hm];exact hfree k hk')
   rw[this]
   rfl
  ·rw[if_neg hc',if_neg hc',h.val c hc]
   simp
 ·rw[take_snoc' hx,List.pairwise_append]
  refine ⟨h.dist,by simp,fun a ha b hb=>?_⟩
  simp at hb
  rw[hb,hm]
  exact hfree a ha
theorem pair_of {α:Type} {R:α→α→Prop} {l:List α} (h:∀(i j:Nat) x y,i<j→l[i]? =some x→l[j]? =some y→R x y):l.Pairwise R:=by
 rw[List.pairwise_iff_getElem]
 intro i j hi hj hij
 exact h i j _ _ hij (List.getElem?_eq_getElem hi) (List.getElem?_eq_getElem hj)
theorem of_pair {α:Type} {R:α→α→Prop} {l:List α} (h:l.Pairwise R):∀(i j:Nat) x y,i<j→l[i]? =some x→l[j]? =some y→R x y:=by
 intro i j x y hij hx hy
 rw[List.pairwise_iff_getElem] at h
 obtain ⟨hi,rfl⟩:=List.getElem?_eq_some_iff.1 hx
 obtain ⟨hj,rfl⟩:=List.getElem?_eq_some_iff.1 hy
 exact h i j hi hj hij
theorem cells_no_keep {f:Fm} {j:Nat} {ks:List Int} (h:KeepSt f j ks) {x:Int × Int} (hx:f.keeps[j]? =some x) (hn:¬(keepOk f x∧getI ks x.1= -1)):¬cellsOk f:=by
 rintro ⟨_,_,h3,h4,_⟩
 have hk:keepOk f x:=h3 x (List.mem_of_getElem? hx)
 refine hn ⟨hk,?_⟩
 obtain ⟨m,hm⟩:=Int.eq_ofNat_of_zero_le hk.1
 have hml:m<f.cells.length:=by have:=hk.2.1;omega
 rw[hm,keep_free h hml]
 intro k hk' e
 obtain ⟨i,hi⟩:=List.getElem?_of_mem hk'
 rw[List.getElem?_take] at hi
 split at hi
 ·rename_i hij
  exact h4 i j k x hij hi hx (by rw[e,hm])
 ·cases hi
theorem cells_no_cell {f:Fm} {x:Int × Int} {k:Nat} (hx:f.cells[k]? =some x) (hn:¬valueOk x.1 x.2):¬cellsOk f:=fun h=>hn (h.1 x (List.mem_of_getElem? hx))
theorem cells_end {f:Fm} {ks:List Int} (hv:∀j,j<f.cells.length→∀x,f.cells[j]? =some x→valueOk x.1 x.2) (h:KeepSt f f.keeps.length ks):cellsOk f↔f.cells.length≤60∧¬(-1:Int)∈ks:=by
 have hok:=h.ok
 have hd:=h.dist
 rw[List.take_length] at hok hd
 have hfree:(-1:Int)∈ks↔∃c:Nat,c<f.cells.length∧getI ks c= -1:=by
  constructor
  ·intro hm
   obtain ⟨i,hi,e⟩:=List.getElem_of_mem hm
   refine ⟨i,by rw[←h.len];exact hi,?_⟩
   simp[getI,List.getD_eq_getElem?_getD,List.getElem?_eq_getElem hi,e]
  ·rintro ⟨c,hc,e⟩
   have hc':c<ks.length:=by rw[h.len];exact hc
   simp only[getI,List.getD_eq_getElem?_getD,Int.toNat_natCast,List.getElem?_eq_getElem hc',Option.getD_some] at e
   rw[←e]
   exact List.getElem_mem _
 constructor
 ·rintro ⟨_,h2,_,_,h5⟩
  refine ⟨h2,fun hm=>?_⟩
  obtain ⟨c,hc,e⟩:=hfree.1 hm
  obtain ⟨k,hk,e'⟩:=h5 c hc
  have:=(keep_free h hc).1 e
  rw[List.take_length] at this
  exact this k hk e'
 ·rintro ⟨h2,hn⟩
  refine ⟨fun c hc=>?_,h2,fun k hk=>hok k hk,of_pair hd,fun c hc=>?_⟩
  ·obtain ⟨i,hi⟩:=List.getElem?_of_mem hc
   exact hv i (List.getElem?_eq_some_iff.1 hi).1 c hi
  ·apply Classical.byContradiction
   intro hno
   refine hn (hfree.2 ⟨c,hc,(keep_free h hc).2 ?_⟩)
   rw[List.take_length]
   exact fun k hk e=>hno ⟨k,hk,e⟩
theorem kept_end {f:Fm} {ks:List Int} (h:KeepSt f f.keeps.length ks) {c:Nat} (hc:c<f.cells.length):getI ks c=(kept f c).getD (-1):=by
 have:=h.val c hc
 rw[List.take_length] at this
 exact this
theorem kept_isW {f:Fm} (h:cellsOk f) {c:Nat} (hc:c<f.cells.length):∃n,kept f c=some n∧isW f n∧tyOf f n=getI (types f.cells) c:=by
 obtain ⟨k,hk,e⟩:=h.2.2.2.2 c hc
 cases hkc:kept f c with
 |none=>exact absurd e (keptIn_none.1 hkc k hk)
 |some n=>
  have hm:=keptIn_some (l:=f.keeps) hkc
  obtain ⟨_,_,h3,h4⟩:=h.2.2.1 _ hm
  exact ⟨n,rfl,h3,h4⟩
structure DefSt (f:Fm) (S:List Int) (bs:List Int):Prop where
 len:bs.length=f.wires.length
 val:∀m:Nat,m<f.wires.length→(getI bs m= -1↔(m:Int)∉S)
 nodup:S.Nodup
theorem def_start (f:Fm):DefSt f [] (List.replicate f.wires.length (-1)):=⟨by simp,fun m hm=>by simp[getI,List.getD_eq_getElem?_getD,hm],List.nodup_nil⟩
theorem def_step {f:Fm} {S bs:List Int} (h:DefSt f S bs) {n v:Int} (hn:isW f n) (hf:getI bs n= -1) (hv:v≠-1):DefSt f (S++ [n]) (bs.set n.toNat v):=by
 obtain ⟨m,rfl⟩:=Int.eq_ofNat_of_zero_le hn.1
 have hm:m<f.wires.length:=by have:=hn.2;omega
 refine ⟨by simp[h.len],fun c hc=>?_,?_⟩
 ·rw[getI_set hn.1 (by rw[h.len];exact hn.2)]
  by_cases e:(m:Int)=c
  ·rw[if_pos e];simp[hv,e]
  ·rw[if_neg e,h.val c hc]
   simp only[List.mem_append,List.mem_singleton,not_or]
   exact ⟨fun g=>⟨g,fun q=>e q.symm⟩,fun g=>g.1⟩
 ·rw[List.nodup_append]
  refine ⟨h.nodup,by simp,fun a ha b hb=>?_⟩
  simp at hb
  rw[hb]
  intro e
  exact (h.val m hm).1 hf (e▸ha)
def dsts (f:Fm) (l:List Ac):List Int:=f.ins++l.map (·.dst)
theorem defined_iff {f:Fm}:definedOk f↔(dsts f f.acts).Nodup∧(∀a∈f.acts,isW f a.dst)∧∀n:Nat,n<f.wires.length→(n:Int)∈dsts f f.acts:=by
 unfold definedOk dsts
 rw[List.nodup_append]
 constructor
 ·rintro ⟨h1,h2,h3,h4⟩
  refine ⟨⟨pair_of h1,?_,?_⟩,fun a ha=>(h2 a ha).1,fun n hn=>?_⟩
  ·exact List.pairwise_map.2 (pair_of h3)
  ·intro a ha b hb e
   obtain ⟨x,hx,rfl⟩:=List.mem_map.1 hb
   exact (h2 x hx).2 (e▸ha)
  ·rcases h4 n hn with h|⟨a,ha,e⟩
   ·simp[h]
   ·exact List.mem_append_right _ (List.mem_map.2 ⟨a,ha,e⟩)
 ·rintro ⟨⟨h1,h2,h3⟩,h4,h5⟩
  refine ⟨of_pair h1,fun a ha=>⟨h4 a ha,fun hi=>h3 _ hi _ (List.mem_map.2 ⟨a,ha,rfl⟩) rfl⟩,of_pair (List.pairwise_map.1 h2),fun n hn=>?_⟩
  rcases List.mem_append.1 (h5 n hn) with h|h
  ·exact .inl h
  ·obtain ⟨a,ha,e⟩:=List.mem_map.1 h
   exact .inr ⟨a,ha,e⟩
theorem def_no {f:Fm} {S bs:List Int} (h:DefSt f S bs) {n:Int} (hn:isW f n) {r:List Int} (hS:dsts f f.acts=S++n::r) (hf:getI bs n≠-1):¬definedOk f:=fun hd=>by
 obtain ⟨m,rfl⟩:=Int.eq_ofNat_of_zero_le hn.1
 have hm:m<f.wires.length:=by have:=hn.2;omega
 have hmem:(m:Int)∈S:=Classical.byContradiction fun g=>hf ((h.val m hm).2 g)
 have hnd:=(defined_iff.1 hd).1
 rw[hS,List.nodup_append] at hnd
 exact hnd.2.2 _ hmem _ (by simp) rfl
theorem def_end {f:Fm} {bs:List Int} (h:DefSt f (dsts f f.acts) bs) (ha:∀j,j<f.acts.length→∀x,f.acts[j]? =some x→isW f x.dst):definedOk f↔¬(-1:Int)∈bs:=by
 rw[defined_iff]
 have hfree:(-1:Int)∈bs↔∃c:Nat,c<f.wires.length∧getI bs c= -1:=by
  constructor
  ·intro hm
   obtain ⟨i,hi,e⟩:=List.getElem_of_mem hm
   refine ⟨i,by rw[←h.len];exact hi,?_⟩
   simp[getI,List.getD_eq_getElem?_getD,List.getElem?_eq_getElem hi,e]
  ·rintro ⟨c,hc,e⟩
   have hc':c<bs.length:=by rw[h.len];exact hc
   simp only[getI,List.getD_eq_getElem?_getD,Int.toNat_natCast,List.getElem?_eq_getElem hc',Option.getD_some] at e
   rw[←e]
   exact List.getElem_mem _
 constructor
 ·rintro ⟨_,_,h3⟩ hm
  obtain ⟨c,hc,e⟩:=hfree.1 hm
  exact (h.val c hc).1 e (h3 c hc)
 ·intro hn
  refine ⟨h.nodup,fun a ha'=>?_,fun c hc=>Classical.byContradiction fun g=>hn (hfree.2 ⟨c,hc,(h.val c hc).2 g⟩)⟩
  obtain ⟨i,hi⟩:=List.getElem?_of_mem ha'
  exact ha i (List.getElem?_eq_some_iff.1 hi).1 a hi
structure RowSt (f:Fm) (ds:List Bool):Prop where
 len:ds.length=f.wires.length
 done:∀m:Nat,ds.getD m false=true→Done f m
def bGet (ds:List Bool) (n:Int):Bool:=ds.getD n.toNat false
def readyB (f:Fm) (ds:List Bool) (x:Ac):Prop:=(∀n∈wants x,bGet ds n=true)∧(∀g∈clockOf f x.dst,bGet ds g.wire=true)∧bGet ds x.dst=false
theorem bGet_set {ds:List Bool} {n:Int} {c:Nat} (h0:0≤n) (h1:n<ds.length):(ds.set n.toNat true).getD c false=if n=c then true else ds.getD c false:=by
 simp only[List.getD_eq_getElem?_getD,List.getElem?_set]
 by_cases h:n=c
 ·subst h
  rw[if_pos (by simp),if_pos (by simp;omega),if_pos rfl]
  rfl
 ·rw[if_neg (by omega),if_neg h]
theorem row_step {f:Fm} {ds:List Bool} (h:RowSt f ds) {x:Ac} (hx:x∈f.acts) (hd:isW f x.dst) (hw:∀n∈wants x,isW f n) (hg:∀g∈clockOf f x.dst,isW f g.wire) (hr:readyB f ds x):RowSt f (ds.set x.dst.toNat true):=by
 refine ⟨by simp[h.len],fun m hm=>?_⟩
 rw[bGet_set hd.1 (by rw[h.len];exact hd.2)] at hm
 by_cases e:x.dst=m
 ·rw[←e]
  refine Done.act x hx (fun n hn=>?_) (fun g hg'=>?_)
  ·have h1:=hr.1 n hn
   have h0:=(hw n hn).1
   have:=h.done n.toNat h1
   rwa [show ((n.toNat:Nat):Int)=n by omega] at this
  ·have h1:=hr.2.1 g hg'
   have h0:=(hg g hg').1
   have:=h.done g.wire.toNat h1
   rwa [show ((g.wire.toNat:Nat):Int)=g.wire by omega] at this
 ·rw[if_neg e] at hm
  exact h.done m hm
theorem row_closed {f:Fm} {ds:List Bool} (hi:∀n∈f.ins,bGet ds n=true) (hn:∀x∈f.acts,¬readyB f ds x) {n:Int} (h:Done f n):bGet ds n=true:=by
 induction h with
 |ins n h=>exact hi n h
 |act x hx _ _ ih1 ih2=>
  cases hb:bGet ds x.dst with
  |true=>rfl
  |false=>exact absurd ⟨ih1,ih2,hb⟩ (hn x hx)
theorem row_end {f:Fm} {ds:List Bool} (h:RowSt f ds) (hi:∀n∈f.ins,bGet ds n=true) (hn:∀x∈f.acts,¬readyB f ds x):rowOk f↔∀b∈ds,b=true:=by
 constructor
 ·intro hr b hb
  obtain ⟨i,hi',e⟩:=List.getElem_of_mem hb
  have:=row_closed hi hn (hr i (by rw[←h.len];exact hi'))
  simp only[bGet,List.getD_eq_getElem?_getD,Int.toNat_natCast,List.getElem?_eq_getElem hi',Option.getD_some] at this
  rw[←e];exact this
 ·intro ha n hn'
  refine h.done n ?_
  have hl:n<ds.length:=by rw[h.len];exact hn'
  rw[List.getD_eq_getElem?_getD,List.getElem?_eq_getElem hl]
  exact ha _ (List.getElem_mem hl)
def notYet (ds:List Bool):Nat:=ds.countP (fun b=>!b)
theorem notYet_set {ds:List Bool} {n:Int} (h0:0≤n) (h1:n<ds.length) (hf:bGet ds n=false):notYet (ds.set n.toNat true)<notYet ds:=by
 unfold notYet
 have hl:n.toNat<ds.length:=by omega
 simp only[bGet,List.getD_eq_getElem?_getD,List.getElem?_eq_getElem hl,Option.getD_some] at hf
 have hp:0<ds.countP (fun b=>!b):=List.countP_pos_iff.2 ⟨ds[n.toNat],List.getElem_mem hl,by simp[hf]⟩
 rw[List.countP_set hl,hf,Bool.not_false,if_pos rfl,Bool.not_true,if_neg (by decide)]
 omega
end Go.Proofs.YtbjaejgechadpaaGreat.Fo
namespace Go.Proofs.YtbjaejgechadpaaGreat.Fo
open Vf
section
variable {f:Fm} {op dst a b c k:Int}
def allW3 (f:Fm) (a b c:Int):Prop:=isW f a∧isW f b∧isW f c
theorem act_no3 (h:¬allW3 f a b c):¬actOk f ⟨op,dst,a,b,c,k⟩:=fun g=>h ⟨g.1,g.2.1,g.2.2.1⟩
theorem act_iff1 (hop:op=1) (h:allW3 f a b c):actOk f ⟨op,dst,a,b,c,k⟩↔(a=0∧b=0∧c=0)∧tyOf f dst=1:=by
 subst hop
 obtain ⟨h1,h2,h3⟩:=h
 simp[actOk,uses,h1,h2,h3,and_assoc]
theorem act_iff2 (hop:op=2) (h:allW3 f a b c):actOk f ⟨op,dst,a,b,c,k⟩↔(a=0∧b=0∧c=0)∧tyOf f dst=2∧valueOk 2 k:=by
 subst hop
 obtain ⟨h1,h2,h3⟩:=h
 simp[actOk,uses,h1,h2,h3,and_assoc,valueOk]
theorem act_iff3 (hop:op=3) (h:allW3 f a b c):actOk f ⟨op,dst,a,b,c,k⟩↔(b=0∧c=0∧k=0)∧clockOf f dst=clockOf f a∧tyOf f dst=tyOf f a:=by
 subst hop
 obtain ⟨h1,h2,h3⟩:=h
 simp[actOk,uses,h1,h2,h3,and_assoc]
theorem act_iff27 (hop:op=27) (h:allW3 f a b c):actOk f ⟨op,dst,a,b,c,k⟩↔k=0∧(clockOf f dst=clockOf f a∧clockOf f dst=clockOf f b∧clockOf f dst=clockOf f c)∧tyOf f a=2∧tyOf f b=tyOf f c∧tyOf f dst=tyOf f b:=by
 subst hop
 obtain ⟨h1,h2,h3⟩:=h
 simp[actOk,uses,h1,h2,h3,and_assoc]
theorem act_iff24 (hop:op=24) (h:allW3 f a b c):actOk f ⟨op,dst,a,b,c,k⟩↔(b=0∧c=0∧k=0)∧(∃g,clockOf f dst=clockOf f a++ [g])∧tyOf f dst=tyOf f a:=by
 subst hop
 obtain ⟨h1,h2,h3⟩:=h
 simp[actOk,uses,h1,h2,h3,and_assoc]
theorem act_iff26 (hop:op=26) (h:allW3 f a b c):actOk f ⟨op,dst,a,b,c,k⟩↔k=0∧tyOf f a=2∧clockOf f dst=clockOf f a∧tyOf f dst=tyOf f b∧tyOf f dst=tyOf f c∧clockOf f b=clockOf f dst++ [⟨a,false⟩]∧clockOf f c=clockOf f dst++ [⟨a,true⟩]:=by
 subst hop
 obtain ⟨h1,h2,h3⟩:=h
 simp only[actOk,uses,h1,h2,h3]
 simp
 intro _
 exact ⟨fun ⟨x1,x2,x3⟩=>⟨x2,x1,x3⟩,fun ⟨x1,x2,x3⟩=>⟨x2,x1,x3⟩⟩
theorem act_iff21 (hop:op=21) (h:allW3 f a b c):actOk f ⟨op,dst,a,b,c,k⟩↔(a=0∧b=0∧c=0)∧(0≤k∧k<f.cells.length)∧tyOf f dst=getI (types f.cells) k∧∃n,kept f k=some n∧clockOf f dst=clockOf f n:=by
 subst hop
 obtain ⟨h1,h2,h3⟩:=h
 simp[actOk,uses,h1,h2,h3,and_assoc]
theorem act_iffOne (hop:op=5∨op=6) (h:allW3 f a b c):actOk f ⟨op,dst,a,b,c,k⟩↔b=0∧c=0∧k=0∧clockOf f dst=clockOf f a∧tyOf f a=signIn op∧tyOf f dst=signOut op:=by
 obtain ⟨h1,h2,h3⟩:=h
 have hi:¬signIn op=0:=by rcases hop with rfl|rfl<;>decide
 rcases hop with rfl|rfl
 all_goals
  simp[actOk,uses,h1,h2,h3,hi]
  intro _ _ _ _
  exact ⟨fun ⟨x,y⟩=>⟨y,x⟩,fun ⟨x,y⟩=>⟨y,x⟩⟩
theorem act_iffTwo (hop:7≤op∧op≤20) (h:allW3 f a b c):actOk f ⟨op,dst,a,b,c,k⟩↔c=0∧k=0∧(clockOf f dst=clockOf f a∧clockOf f dst=clockOf f b)∧tyOf f dst=signOut op∧tyOf f a=tyOf f b∧(signIn op=0∨tyOf f a=signIn op):=by
 obtain ⟨h1,h2,h3⟩:=h
 have hu:uses op=2:=by unfold uses;rw[if_neg (by omega),if_neg (by omega),if_pos (by omega)]
 simp only[actOk,hu,h1,h2,h3]
 rw[if_neg (by omega),if_neg (by omega),if_neg (by omega),if_neg (by omega),if_neg (by omega),if_neg (by omega),if_neg (by omega)]
 constructor
 ·rintro ⟨_,_,_,_,_,_,x3,x4,x5,x6,x7,x8⟩
  exact ⟨x3 (by omega),x4 (by omega),⟨x5,(x6 (by omega)).1⟩,x7,(x6 (by omega)).2,x8⟩
 ·rintro ⟨x3,x4,⟨x5,x6⟩,x7,x9,x8⟩
  exact ⟨trivial,trivial,trivial,by omega,by omega,by omega,fun _=>x3,fun _=>x4,x5,fun _=>⟨x6,x9⟩,x7,x8⟩
theorem act_none (hop:uses op<0):¬actOk f ⟨op,dst,a,b,c,k⟩:=fun g=>by have:=g.2.2.2.1;dsimp only at this;omega
theorem nodup_len:∀(H D:List Int),H.Nodup→(∀n∈H,n∈D)→H.length≤D.length
 | [],D,_,_=>Nat.zero_le _
 |x::H,D,hd,hs=>by
  rw[List.nodup_cons] at hd
  have hx:x∈D:=hs x (by simp)
  have hle:(D.erase x).length=D.length-1:=List.length_erase_of_mem hx
  have:=nodup_len H (D.erase x) hd.2 (fun m hm=>(List.mem_erase_of_ne (fun (g:m=x)=>hd.1 (g▸hm))).2 (hs m (by simp[hm])))
  have h1:0<D.length:=List.length_pos_of_mem hx
  simp
  omega
theorem clock_len (hw:wiresOk f) {n:Int} (hn:isW f n):(clockOf f n).length≤1600:=by
 obtain ⟨m,rfl⟩:=Int.eq_ofNat_of_zero_le hn.1
 have hm:m<f.wires.length:=by have:=hn.2;omega
 have hx:f.wires[m]? =some f.wires[m]:=List.getElem?_eq_getElem hm
 have e:wAt f m=f.wires[m]:=by simp[wAt,List.getD_eq_getElem?_getD,hx]
 have hok:=hw.1 _ (List.mem_of_getElem? hx)
 unfold clockOf
 rw[e]
 generalize f.wires[m]=x at*
 have hnd:(x.clock.map (·.wire)).Nodup:=by
  have hp:(x.clock.map (·.wire)).Pairwise (fun a b=>a≠b):=by
   rw[List.pairwise_map]
   refine pair_of fun i j p q hij hp hq heq=>?_
   have h1:=(hok.2 i p hp).2.2
   have h2:=(hok.2 j q hq).2.2
   rw[heq,h2] at h1
   have hl:=congrArg List.length h1
   have hi:=(List.getElem?_eq_some_iff.1 hp).1
   have hj:=(List.getElem?_eq_some_iff.1 hq).1
   rw[List.length_take,List.length_take] at hl
   omega
  exact hp
 have:=nodup_len _ ((List.range f.wires.length).map (fun (i:Nat)=>(i:Int))) hnd (fun n hn=>by
  obtain ⟨g,hg,rfl⟩:=List.mem_map.1 hn
  obtain ⟨i,hi⟩:=List.getElem?_of_mem hg
  have hwg:=(hok.2 i g hi).1
  have h0:=hwg.1
  have h1:=hwg.2
  exact List.mem_map.2 ⟨g.wire.toNat,List.mem_range.2 (by omega),by omega⟩)
 simp at this
 have:=hw.2.2
 omega
end
end Go.Proofs.YtbjaejgechadpaaGreat.Fo
namespace Go.Proofs.YtbjaejgechadpaaGreat.Fo
open Vf
section
variable {f:Fm} {H:List Int}
end
end Go.Proofs.YtbjaejgechadpaaGreat.Fo
namespace Go.Proofs.YtbjaejgechadpaaGreat.Fo
open Vf
theorem sub_full:∀(H D:List Int),H.Nodup→(∀n∈H,n∈D)→D.length≤H.length→∀n∈D,n∈H
 | [],D,_,_,hl,n,hn=>by
  have:D=[]:=List.eq_nil_of_length_eq_zero (by simpa using hl)
  rw[this] at hn;exact hn
 |a::H,D,hd,hs,hl,n,hn=>by
  rw[List.nodup_cons] at hd
  have ha:a∈D:=hs a (by simp)
  have hle:(D.erase a).length=D.length-1:=List.length_erase_of_mem ha
  by_cases e:n=a
  ·simp[e]
  ·refine List.mem_cons_of_mem _ (sub_full H (D.erase a) hd.2 (fun m hm=>?_) (by simp at hl;omega) n ((List.mem_erase_of_ne e).2 hn))
   have hma:m≠a:=fun g=>hd.1 (g▸hm)
   exact (List.mem_erase_of_ne hma).2 (hs m (by simp[hm]))
end Go.Proofs.YtbjaejgechadpaaGreat.Fo
