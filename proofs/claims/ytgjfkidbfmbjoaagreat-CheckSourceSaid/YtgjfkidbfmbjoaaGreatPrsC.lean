/-
  The parser in memory; the contracts of its small steps: bad, now, is, take, want, name, kind, clock. The contracts of the parser: kind; clock, where no condition comes. What lies in the blocks from one on; the contracts of show.Strength and of the parser: compare, infix, made.
-/
import Derived.Test.YtgjfkidbfmbjoaaGreatZz
import Derived.Test.YtgjfkidbfmbjoaaGreatScnF
set_option maxHeartbeats 1000000
set_option maxRecDepth 100000
namespace Go.Proofs.YtgjfkidbfmbjoaaGreat
open Go.RowKit Nm
structure Pr where
 l:List Tok
 A:Option Addr
 c:Nat
abbrev prA (P:Pr) (i:Nat):Array Value:= #[.slice P.A P.l.length P.c,.int .i64 i,.int .i64 0,.int .i64 0,.int .i64 0]
structure PrAt (w:World) (o:Nat) (P:Pr) (i:Nat):Prop where
 row:Row w o (prA P i) 188
 l:Sl (mask o w) w.heap.size 5 isTok P.A P.l
 lc:P.l.length≤P.c
 mc:P.c≤maxLen
 len:P.l.length≤5000
def PrL (w:World) (o:Nat) (P:Pr) (i:Nat) (w':World):Prop:=PrAt w' o P i∧Upd (fun x=>x=o) w w'
structure TokOk (x:Tok):Prop where
 text:x.text.size≤5000
 n:Wf x.n
 kind:0≤x.kind∧x.kind≤5
 line:0≤x.line∧x.line≤5000
 col:0≤x.col∧x.col≤5000
section
variable {w w' w2:World} {o:Nat} {P:Pr} {i j:Nat}
theorem PrAt.lt (h:PrAt w o P i):o<w.heap.size:=h.row.lt
theorem PrAt.step (h:PrAt w o P i) (hr:Row w' o (prA P j) 188) (hu:Upd (fun x=>x=o) w w'):PrAt w' o P j:=
 ⟨hr,h.l.keep hu.keepm hu.size (fun _ _ _ h=>h),h.lc,h.mc,h.len⟩
theorem PrAt.bel (h:PrAt w o P i) (hb:Below w.heap.size w w'):PrAt w' o P i:=h.step (h.row.below hb h.row.lt) (Upd.of_below hb)
theorem PrAt.fin (h:PrAt w o P i) (hr:Row w' o (prA P j) 188) (hu:Upd (fun x=>x=o) w w'):PrL w o P j w':=⟨h.step hr hu,hu⟩
theorem PrL.trans (h:PrL w o P i w') (k:PrL w' o P j w2):PrL w o P j w2:=⟨k.1,h.2.trans k.2⟩
theorem PrL.bel (h:PrL w o P i w') (hb:Below w'.heap.size w' w2):PrL w o P i w2:=⟨h.1.bel hb,h.2.trans (Upd.of_below hb)⟩
theorem PrAt.self (h:PrAt w o P i) (hb:Below w.heap.size w w'):PrL w o P i w':=⟨h.bel hb,Upd.of_below hb⟩
theorem PrAt.tok (h:PrAt w o P i) {t:Tok} (ht:P.l[i]? =some t):∃b off,P.A=some ⟨b,off,none⟩∧i<P.l.length∧TokOk t∧
  (w.cell? ⟨b,off+i*5,none⟩=some (.int .i64 t.kind)∧w.cell? ⟨b,off+i*5+1,none⟩=some (.string t.text)∧w.cell? ⟨b,off+i*5+2,none⟩=some (.int .i64 t.n)∧w.cell? ⟨b,off+i*5+3,none⟩=some (.int .i64 t.line)∧w.cell? ⟨b,off+i*5+4,none⟩=some (.int .i64 t.col)):=by
 have hi:=(List.getElem?_eq_some_iff.1 ht).1
 obtain ⟨b,off,x,cs,hA,hb,hx,⟨rfl,g⟩,hc⟩:=h.l.at_ hi
 rw[ht] at hx;cases hx
 exact ⟨b,off,hA,hi,⟨g.1,g.2.1,g.2.2.1,g.2.2.2.1,g.2.2.2.2⟩,mask_cell (hc 0 _ rfl),mask_cell (hc 1 _ rfl),mask_cell (hc 2 _ rfl),mask_cell (hc 3 _ rfl),mask_cell (hc 4 _ rfl)⟩
theorem PrAt.cells (h:PrAt w o P i):w.cell? ⟨o,0,none⟩=some (.slice P.A P.l.length P.c)∧w.cell? ⟨o,1,none⟩=some (.int .i64 i)∧w.cell? ⟨o,2,none⟩=some (.int .i64 0)∧w.cell? ⟨o,3,none⟩=some (.int .i64 0)∧w.cell? ⟨o,4,none⟩=some (.int .i64 0)∧w.frozen? ⟨o,1,none⟩=false:=
 ⟨(h.row.cell 0).trans rfl,(h.row.cell 1).trans rfl,(h.row.cell 2).trans rfl,(h.row.cell 3).trans rfl,(h.row.cell 4).trans rfl,h.row.frozen 1⟩
end
theorem pbad_any {P:Pr} {o i:Nat} {w:World} (h:PrAt w o P i):
  Calls Tryz.prog 136 #[.pointer (some ⟨o,0,none⟩)] w fun r w'=>r= .returned (.bool false)∧w=w':=by
 obtain ⟨-,-,t2,-⟩:=h.cells
 go_enter Tryz.func136,Tryz.ntmps136
 go_wp2_with fail
 go_ret
 exact ⟨rfl,rfl⟩
theorem now_any {P:Pr} {o i:Nat} {w:World} (h:PrAt w o P i) {t:Tok} (ht:P.l[i]? =some t):
  Calls Tryz.prog 139 #[.pointer (some ⟨o,0,none⟩)] w fun r w'=>r= .returned (tokV t)∧Below w.heap.size w w':=by
 have b1:Below w.heap.size w (w.alloc (.cells tkZ 191)):=bE
 have rA:=Row.new w tkZ 191
 have h1:=h.bel b1
 obtain ⟨b,off,hA,hi,tk,c0,c1,c2,c3,c4⟩:=h1.tok ht
 obtain ⟨t0,t1,-⟩:=h1.cells
 rw[hA] at t0
 have hl:=h.len
 have hlc:=h.lc
 have hmc:=h.mc
 unfold maxLen at hmc
 clear h h1
 go_enter Tryz.func139,Tryz.ntmps139
 go_upto_region 1 with (fail)
 change Code.wp _ _ _ _ (w.alloc (.cells tkZ 191))
 generalize w.alloc (.cells tkZ 191)=W1 at*
 obtain ⟨⟨y0,y1,y2,y3,y4⟩,z0,z1,z2,z3,z4⟩:=rA.tk5
 go_region
 have u5:=(upd_five W1 w.heap.size (.int .i64 t.kind) (.string t.text) (.int .i64 t.n) (.int .i64 t.line) (.int .i64 t.col)).drew
 have rB:=(rA.set5 (.int .i64 t.kind) (.string t.text) (.int .i64 t.n) (.int .i64 t.line) (.int .i64 t.col)).drew
 go_wp2_with fail
 refine bodyPost_ret (res1 rfl Tryz.underlying191 rfl (by kernel_rfl) rfl rB) rfl ⟨rfl,?_⟩
 exact b1.trans (Upd.below u5 (fun k e=>by omega) b1.size)
theorem isS_eq (t:Tok) (s:ByteArray):isS t s.data.toList=((t.kind==3||t.kind==4) && t.text.toList==s.toList):=by
 unfold isS;rw[ByteArray.toList_eq,ByteArray.toList_eq]
theorem is_any {P:Pr} {o i:Nat} {w:World} (h:PrAt w o P i) {t:Tok} (ht:P.l[i]? =some t) (s:ByteArray):
  Calls Tryz.prog 137 #[.pointer (some ⟨o,0,none⟩),.string s] w fun r w'=>r= .returned (.bool (isS t s.data.toList))∧Below w.heap.size w w':=by
 have HN:=Lib.hid (now_any h ht)
 have HE:=Lib.hid (isS_eq t s)
 have H:=Lib.hid h
 clear h
 go_enter Tryz.func137,Tryz.ntmps137
 go_wp2_with fail
 refine HN.out.mono ?_
 rintro r w2 ⟨rfl,hb2⟩
 have b3:Below w.heap.size w (w2.alloc (.cells (tokA t) 191)):=hb2.alloc hb2.size _
 have rT:=Row.new w2 (tokA t) 191
 have HB:=Lib.hid (pbad_any (H.out.bel b3))
 have hs2:=hb2.size
 go_upto_region 2 with (fail)
 change Code.wp _ _ _ _ (w2.alloc (.cells (tokA t) 191))
 generalize w2.alloc (.cells (tokA t) 191)=W3 at*
 obtain ⟨⟨y0,y1,y2,y3,y4⟩,-⟩:=rT.tk5
 obtain ⟨B1,h1⟩:∃B,(t.kind==3)=B:=⟨_,rfl⟩
 obtain ⟨B2,h2⟩:∃B,(t.kind==4)=B:=⟨_,rfl⟩
 obtain ⟨B3,h3⟩:∃B,(t.text.toList==s.toList)=B:=⟨_,rfl⟩
 have HE2:Hid (isS t s.data.toList=((B1||B2) && B3)):=by show _=_;rw[HE.out,h1,h2,h3]
 clear HE
 cases B1<;>cases B2<;>cases B3
 all_goals
  go_wp2_with fail
  refine HB.out.mono ?_
  rintro r w3 ⟨rfl,rfl⟩
  go_wp2_with fail
  go_ret
  exact ⟨ret_bool HE2.out.symm,b3⟩
theorem pr_set {W:World} {o i:Nat} {P:Pr} {t:TypeId} (h:Row W o (prA P i) t):Row (W.setCell ⟨o,1,none⟩ (.int .i64 (i+1))) o (prA P (i+1)) t:=by
 have e:(prA P i).setIfInBounds 1 (.int .i64 (i+1))=prA P (i+1):=by simp[prA]
 rw[←e]
 exact h.set 1 _
theorem take_any {P:Pr} {o i:Nat} {w:World} (h:PrAt w o P i) {t:Tok} (ht:P.l[i]? =some t) (s:ByteArray):
  Calls Tryz.prog 217 #[.pointer (some ⟨o,0,none⟩),.string s] w fun r w'=>r= .returned (.bool (isS t s.data.toList))∧PrL w o P (bif isS t s.data.toList then i+1 else i) w':=by
 obtain ⟨B,hB⟩:∃B,isS t s.data.toList=B:=⟨_,rfl⟩
 have HI:=is_any h ht s
 rw[hB] at HI⊢
 clear hB
 have HI:=Lib.hid HI
 have H:=Lib.hid h
 have hi:i<5000:=by have:=(List.getElem?_eq_some_iff.1 ht).1;have:=h.len;omega
 clear h
 go_enter Tryz.func217,Tryz.ntmps217
 go_wp2_with fail
 refine HI.out.mono ?_
 rintro r w2 ⟨rfl,hb2⟩
 have H2:=Lib.hid (H.out.self hb2)
 cases B
 ·go_wp2_with fail
  go_ret
  exact ⟨rfl,H2.out⟩
 ·obtain ⟨-,t1,-,-,-,z1⟩:=H2.out.1.cells
  have HR:=Lib.hid (pr_set H2.out.1.row)
  have HU:Hid (Upd (fun x=>x=o) w2 (w2.setCell ⟨o,1,none⟩ (.int .i64 (i+1)))):=(Upd.refl (fun x=>x=o) w2).setCell (p:=⟨o,1,none⟩) rfl _
  go_wp2_with fail
  go_ret
  exact ⟨rfl,H2.out.1.step HR.out HU.out,H2.out.2.trans HU.out⟩
theorem take_yes {P:Pr} {o i:Nat} {w:World} (h:PrAt w o P i) {t:Tok} (ht:P.l[i]? =some t) (s:ByteArray) (hs:isS t s.data.toList=true):
  Calls Tryz.prog 217 #[.pointer (some ⟨o,0,none⟩),.string s] w fun r w'=>r= .returned (.bool true)∧PrL w o P (i+1) w':=by
 have:=take_any h ht s
 rw[hs] at this
 exact this
theorem take_no {P:Pr} {o i:Nat} {w:World} (h:PrAt w o P i) {t:Tok} (ht:P.l[i]? =some t) (s:ByteArray) (hs:isS t s.data.toList=false):
  Calls Tryz.prog 217 #[.pointer (some ⟨o,0,none⟩),.string s] w fun r w'=>r= .returned (.bool false)∧PrL w o P i w':=by
 have:=take_any h ht s
 rw[hs] at this
 exact this
theorem pwant_is {P:List Tok} {s:List UInt8} {i j:Nat} (h:pwant P s i=some j):∃t,P[i]? =some t∧isS t s=true∧j=i+1:=by
 obtain ⟨t,h1,h2⟩:=Option.bind_eq_some_iff.1 h
 cases hs:isS t s with
 |false=>rw[hs] at h2;cases h2
 |true=>rw[hs] at h2;cases h2;exact ⟨t,h1,hs,rfl⟩
theorem pnot_is {P:List Tok} {s:List UInt8} {i:Nat} {u:Unit} (h:pnot P s i=some u):∃t,P[i]? =some t∧isS t s=false:=by
 obtain ⟨t,h1,h2⟩:=Option.bind_eq_some_iff.1 h
 cases hs:isS t s with
 |true=>rw[hs] at h2;cases h2
 |false=>exact ⟨t,h1,hs⟩
theorem pname_is {P:List Tok} {i:Nat} {x:Tok × Nat} (h:pname P i=some x):P[i]? =some x.1∧x.1.kind=1∧x.2=i+1:=by
 obtain ⟨t,h1,h2⟩:=Option.bind_eq_some_iff.1 h
 cases hs:t.kind==1 with
 |false=>rw[hs] at h2;cases h2
 |true=>rw[hs] at h2;cases h2;exact ⟨h1,beq_iff_eq.1 hs,rfl⟩
theorem want_any {P:Pr} {o i j:Nat} {w:World} (h:PrAt w o P i) (s:ByteArray) (hw:pwant P.l s.data.toList i=some j):
  Calls Tryz.prog 212 #[.pointer (some ⟨o,0,none⟩),.string s] w fun r w'=>r= .returned (.tuple #[])∧PrL w o P j w':=by
 obtain ⟨t,ht,hs,rfl⟩:=pwant_is hw
 have HT:=Lib.hid (take_yes h ht s hs)
 clear h
 go_enter Tryz.func212,Tryz.ntmps212
 refine' zq212
 go_wp2_with fail
 go_end0
 exact ⟨rfl,h2⟩
theorem pname_any {P:Pr} {o i:Nat} {x:Tok × Nat} {w:World} (h:PrAt w o P i) (n most:Nat) (hn:n<most) (hx:pname P.l i=some x):
  Calls Tryz.prog 213 #[.pointer (some ⟨o,0,none⟩),.int .i64 n,.int .i64 most] w fun r w'=>r= .returned (tokV x.1)∧PrL w o P x.2 w':=by
 obtain ⟨ht,hk,h2⟩:=pname_is hx
 obtain ⟨t,j⟩:=x
 obtain rfl:j=i+1:=h2
 dsimp only at ht hk⊢
 have HKD:=Lib.hid hk
 clear hk
 have b1:Below w.heap.size w (w.alloc (.cells tkZ 191)):=bE
 have rA:=Row.new w tkZ 191
 have H1:=Lib.hid (h.bel b1)
 have hi:i<5000:=by have:=(List.getElem?_eq_some_iff.1 ht).1;have:=h.len;omega
 have hol:=h.lt
 have H0:=Lib.hid h
 clear h
 go_enter Tryz.func213,Tryz.ntmps213
 go_upto_region 1 with (fail)
 change Code.wp _ _ _ _ (w.alloc (.cells tkZ 191))
 generalize w.alloc (.cells tkZ 191)=W1 at*
 have HN:=Lib.hid (now_any H1.out ht)
 go_wp2_with fail
 refine HN.out.mono ?_
 rintro r w2 ⟨rfl,hb2⟩
 have rA2:=rA.below hb2 rA.lt
 have b3:Below W1.heap.size W1 (w2.alloc (.cells (tokA t) 191)):=hb2.alloc hb2.size _
 have rT:=Row.new w2 (tokA t) 191
 have rA3:=rA2.alloc (.cells (tokA t) 191)
 have H3:=Lib.hid (H1.out.bel b3)
 have hs1:=b1.size
 have hs2:=hb2.size
 have hlA:=rA.lt
 go_upto_region 2 with (fail)
 change Code.wp _ _ _ _ (w2.alloc (.cells (tokA t) 191))
 generalize w2.alloc (.cells (tokA t) 191)=W3 at*
 have HB:=Lib.hid (pbad_any H3.out)
 obtain ⟨⟨y0,y1,y2,y3,y4⟩,-⟩:=rT.tk5
 have hk1:(t.kind !=1)=false:=by rw[HKD.out];rfl
 have hnm:decide ((most:Int)≤(n:Int))=false:=decide_eq_false (by omega)
 go_wp2_with fail
 refine HB.out.mono ?_
 rintro r w4 ⟨rfl,rfl⟩
 obtain ⟨-,t1,-,-,-,z1⟩:=H3.out.cells
 have HR:=Lib.hid (pr_set H3.out.row)
 have HU:Hid (Upd (fun x=>x=o) W3 (W3.setCell ⟨o,1,none⟩ (.int .i64 (i+1)))):=(Upd.refl (fun x=>x=o) W3).setCell (p:=⟨o,1,none⟩) rfl _
 go_upto_region 8 with (fail)
 have rA5:=HU.out.row rA3 (by omega)
 have rT5:=HU.out.row rT (by omega)
 have H5:=Lib.hid (H3.out.step HR.out HU.out)
 clear t1 z1 y0 y1 y2 y3 y4 HR
 generalize W3.setCell ⟨o,1,none⟩ (.int .i64 (i+1))=W5 at*
 obtain ⟨⟨y0,y1,y2,y3,y4⟩,-⟩:=rT5.tk5
 obtain ⟨⟨x0,x1,x2,x3,x4⟩,e0,e1,e2,e3,e4⟩:=rA5.tk5
 go_wp2_with fail
 have u5:=upd_five W5 w.heap.size (.int .i64 t.kind) (.string t.text) (.int .i64 t.n) (.int .i64 t.line) (.int .i64 t.col)
 have rB:=rA5.set5 (.int .i64 t.kind) (.string t.text) (.int .i64 t.n) (.int .i64 t.line) (.int .i64 t.col)
 refine bodyPost_ret (res1 rfl Tryz.underlying191 rfl (by kernel_rfl) rfl rB) rfl ⟨rfl,?_⟩
 have u6:Upd (fun x=>x=o∨w.heap.size≤x) W1 W5:=(Upd.of_below b3).trans (HU.out.mono (fun k e=>Or.inl e))
 exact H0.out.fin (u5.row H5.out.row (by omega)) (Upd.narrow ((Upd.of_below b1).trans (u6.trans (u5.mono (fun k e=>Or.inr (by omega))))) (fun k hk e=>by omega))
theorem pkind_is {P:List Tok} {i:Nat} {x:Int × Nat} (h:pkind P i=some x):∃t,P[i]? =some t∧x.2=i+1∧((isS t [105,110,116]=true∧x.1=1)∨(isS t [105,110,116]=false∧isS t [98,111,111,108]=true∧x.1=2)):=by
 obtain ⟨t,h1,h2⟩:=Option.bind_eq_some_iff.1 h
 cases hs:isS t [105,110,116] with
 |true=>rw[hs] at h2;cases h2;exact ⟨t,h1,rfl,.inl ⟨hs,rfl⟩⟩
 |false=>
  cases hb:isS t [98,111,111,108] with
  |true=>rw[hs,hb] at h2;cases h2;exact ⟨t,h1,rfl,.inr ⟨hs,hb,rfl⟩⟩
  |false=>rw[hs,hb] at h2;cases h2
theorem pkind_any {P:Pr} {o i:Nat} {x:Int × Nat} {w:World} (h:PrAt w o P i) (hx:pkind P.l i=some x):
  Calls Tryz.prog 306 #[.pointer (some ⟨o,0,none⟩)] w fun r w'=>r= .returned (.int .i64 x.1)∧PrL w o P x.2 w':=by
 obtain ⟨t,ht,h2,hc⟩:=pkind_is hx
 obtain ⟨k,j⟩:=x
 obtain rfl:j=i+1:=h2
 dsimp only at hc⊢
 rcases hc with ⟨hs,rfl⟩|⟨hs,hs2,rfl⟩
 ·have HT:=Lib.hid (take_yes h ht ⟨#[105,110,116]⟩ hs)
  clear h
  go_enter Tryz.func306,Tryz.ntmps306
  refine' zq212
  go_wp2_with fail
  go_ret
  exact ⟨rfl,h2⟩
 ·have HT:=Lib.hid (take_no h ht ⟨#[105,110,116]⟩ hs)
  clear h
  go_enter Tryz.func306,Tryz.ntmps306
  refine' zq212
  have HT2:=Lib.hid (take_yes h2.1 ht ⟨#[98,111,111,108]⟩ hs2)
  go_wp2_with fail
  refine HT2.out.mono ?_
  rintro r w3 ⟨rfl,h3⟩
  go_wp2_with fail
  go_ret
  exact ⟨rfl,h2.trans h3⟩
theorem pclock_any {P:Pr} {o i:Nat} {u:Unit} {w:World} (h:PrAt w o P i) (hx:pnot P.l [119,104,101,110] i=some u):
  Calls Tryz.prog 307 #[.pointer (some ⟨o,0,none⟩)] w fun r w'=>r= .returned (.slice none 0 0)∧Below w.heap.size w w':=by
 obtain ⟨t,ht,hs⟩:=pnot_is hx
 have HI:=is_any h ht ⟨#[119,104,101,110]⟩
 rw[show isS t (⟨#[119,104,101,110]⟩:ByteArray).data.toList=false from hs] at HI
 have HI:=Lib.hid HI
 clear h
 go_enter Tryz.func307,Tryz.ntmps307
 go_wp2_with fail
 go_loopw[3] (fun v wr=>v= .slice none 0 0∧wr=w) (fun _ _=>0)
 case atStart=>exact ⟨rfl,rfl⟩
 case round=>
  obtain ⟨rfl,rfl⟩:=hrel
  go_wp2_with fail
  refine HI.out.mono ?_
  rintro r w2 ⟨rfl,hb2⟩
  go_wp2_with fail
  go_ret
  exact ⟨rfl,hb2⟩
def hide (B:Nat) (w:World):World:={w with heap:=(w.heap.mapIdx fun i o=>if i<B then .map #[] 0 else o)}
section
variable {B B' hi:Nat} {w w':World}
theorem hide_size:(hide B w).heap.size=w.heap.size:=by simp[hide]
theorem hide_block {k:Nat} (h:B≤k):(hide B w).heap[k]? =w.heap[k]? :=by
 simp only[hide,Array.getElem?_mapIdx]
 cases hk:w.heap[k]? with
 |none=>rfl
 |some o=>simp only[Option.map_some];rw[if_neg (by omega)]
theorem hide_cell {p:Addr} {u:Value} (h:(hide B w).cell? p=some u):w.cell? p=some u:=by
 by_cases hp:B≤p.block
 ·rw[←h];exact (World.cell?_of_block (hide_block hp)).symm
 ·simp only[World.cell?,hide,Array.getElem?_mapIdx] at h
  cases hk:w.heap[p.block]? with
  |none=>rw[hk] at h;cases h
  |some o=>rw[hk] at h;simp only[Option.map_some] at h;rw[if_pos (by omega)] at h;cases h
theorem hide_more (hB:B'≤B) (hi:Nat) (w:World):Keeps hi (hide B w) (hide B' w):=fun p u _ h=>by
 by_cases hp:B≤p.block
 ·rw[←h]
  exact (World.cell?_of_block ((hide_block (Nat.le_trans hB hp)).trans (hide_block hp).symm))
 ·exfalso
  simp only[World.cell?,hide,Array.getElem?_mapIdx] at h
  cases hk:w.heap[p.block]? with
  |none=>rw[hk] at h;cases h
  |some o=>rw[hk] at h;simp only[Option.map_some] at h;rw[if_pos (by omega)] at h;cases h
theorem Upd.bhide {X:Nat→Prop} (h:Upd X w w') (hX:∀k,X k→k<B∨hi≤k) (hh:hi≤w.heap.size):Below hi (hide B w) (hide B w'):=by
 refine ⟨h.os,h.tape,h.output,by rw[hide_size,hide_size];exact h.size,fun k hk=>?_⟩
 by_cases hB:B≤k
 ·rw[hide_block hB,hide_block hB]
  exact h.block k (by omega) (fun hx=>by have:=hX k hx;omega)
 ·simp only[hide,Array.getElem?_mapIdx]
  rw[Array.getElem?_eq_getElem (show k<w.heap.size by omega),Array.getElem?_eq_getElem (show k<w'.heap.size by have:=h.size;omega)]
  simp only[Option.map_some]
  rw[if_pos (by omega),if_pos (by omega)]
end
abbrev ExH (w:World) (lo hi:Nat) (e:Ex) (A:Option Addr) (cap:Nat):Prop:=IsEx (hide lo w) hi e (exCells e A cap)
theorem ExH.upd {X:Nat→Prop} {w w':World} {lo hi:Nat} {e:Ex} {A:Option Addr} {cap:Nat} (h:ExH w lo hi e A cap) (hu:Upd X w w') (hX:∀k,X k→k<lo∨hi≤k) (hh:hi≤w.heap.size):ExH w' lo hi e A cap:=IsEx.below h (hu.bhide hX hh)
theorem ExH.wide {w:World} {lo lo' hi hi':Nat} {e:Ex} {A:Option Addr} {cap:Nat} (h:ExH w lo hi e A cap) (hl:lo'≤lo) (hh:hi≤hi'):ExH w lo' hi' e A cap:=IsEx.more hh (IsEx.keepS (hide_more hl hi w) h)
theorem str_any (op:Int) (hop:op=0∨op=23∨op=22∨op=7) (w:World):Calls Tryz.prog 311 #[.int .i64 op] w fun r w'=>r= .returned (.int .i64 (pstr op))∧w=w':=by
 rcases hop with rfl|rfl|rfl|rfl
 all_goals
  go_enter Tryz.func311,Tryz.ntmps311
  go_wp2_with fail
  go_ret
  exact ⟨rfl,rfl⟩
theorem cmp_any (s:ByteArray) (w:World) (h:∀x∈([[61],[60,62],[60],[60,61],[62],[62,61]]:List (List UInt8)),(s.toList==x)=false):
  Calls Tryz.prog 337 #[.string s] w fun r w'=>r= .returned (.int .i64 0)∧w=w':=by
 have h1:=h [61] (by simp)
 have h2:=h [60,62] (by simp)
 have h3:=h [60] (by simp)
 have h4:=h [60,61] (by simp)
 have h5:=h [62] (by simp)
 have h6:=h [62,61] (by simp)
 go_enter Tryz.func337,Tryz.ntmps337
 go_wp2_with fail
 go_ret
 exact ⟨rfl,rfl⟩
theorem pinf_is {t:Tok} {op:Int} (h:pinf t=some op):((t.kind==3||t.kind==4)=false∧op=0)∨((t.kind==3||t.kind==4)=true∧((t.text.toList=[45,62]∧op=23)∨(t.text.toList=[102,98,121]∧op=22)∨(t.text.toList=[43]∧op=7)∨
  ((∀x∈[45,62]:: [102,98,121]:: [43]::popN,(t.text.toList==x)=false)∧op=0))):=by
 unfold pinf at h
 rw[←ByteArray.toList_eq] at h
 cases hk:(t.kind==3||t.kind==4) with
 |false=>rw[hk] at h;cases h;exact .inl ⟨rfl,rfl⟩
 |true=>
  rw[hk,cond_true] at h
  refine .inr ⟨rfl,?_⟩
  cases h1:t.text.toList==[45,62] with
  |true=>rw[h1] at h;cases h;exact .inl ⟨beq_iff_eq.1 h1,rfl⟩
  |false=>
   cases h2:t.text.toList==[102,98,121] with
   |true=>rw[h1,h2] at h;cases h;exact .inr (.inl ⟨beq_iff_eq.1 h2,rfl⟩)
   |false=>
    cases h3:t.text.toList==[43] with
    |true=>rw[h1,h2,h3] at h;cases h;exact .inr (.inr (.inl ⟨beq_iff_eq.1 h3,rfl⟩))
    |false=>
     cases h4:popN.contains t.text.toList with
     |true=>rw[h1,h2,h3,h4] at h;cases h
     |false=>
      rw[h1,h2,h3,h4] at h;cases h
      refine .inr (.inr (.inr ⟨fun x hx=>?_,rfl⟩))
      rcases List.mem_cons.1 hx with rfl|hx
      ·exact h1
      rcases List.mem_cons.1 hx with rfl|hx
      ·exact h2
      rcases List.mem_cons.1 hx with rfl|hx
      ·exact h3
      rw[beq_eq_false_iff_ne]
      rintro e
      rw[e] at h4
      have:popN.contains x=true:=List.contains_iff_mem.2 hx
      rw[this] at h4;cases h4
theorem field_tk0 (t:Tok) (W:World):(Instr.field 191 (.agg #[.int .i64 t.kind,.string t.text,.int .i64 t.n,.int .i64 t.line,.int .i64 t.col]) 0).run Tryz.prog W= .ok (.int .i64 t.kind) W:=by kernel_rfl
theorem field_tk1 (t:Tok) (W:World):(Instr.field 191 (.agg #[.int .i64 t.kind,.string t.text,.int .i64 t.n,.int .i64 t.line,.int .i64 t.col]) 1).run Tryz.prog W= .ok (.string t.text) W:=by kernel_rfl
theorem field_tk3 (t:Tok) (W:World):(Instr.field 191 (.agg #[.int .i64 t.kind,.string t.text,.int .i64 t.n,.int .i64 t.line,.int .i64 t.col]) 3).run Tryz.prog W= .ok (.agg #[.int .i64 t.line,.int .i64 t.col]) W:=by kernel_rfl
attribute [local go_sem] field_tk0 field_tk1 field_tk3
theorem pinf_any {P:Pr} {o i:Nat} {w:World} (h:PrAt w o P i) {t:Tok} (ht:P.l[i]? =some t) {op:Int} (hop:pinf t=some op):
  Calls Tryz.prog 310 #[.pointer (some ⟨o,0,none⟩)] w fun r w'=>r= .returned (.tuple #[.int .i64 op,.int .i64 (pneed op)])∧Below w.heap.size w w':=by
 have HN:Hid (∀W,Below w.heap.size w W→Calls Tryz.prog 139 #[.pointer (some ⟨o,0,none⟩)] W fun r w'=>r= .returned (tokV t)∧Below W.heap.size W w'):=fun W hW=>now_any (h.bel hW) ht
 have hb0:Below w.heap.size w w:=Below.refl _ _
 have HT:=pinf_is hop
 clear h hop
 obtain ⟨B1,h1⟩:∃B,(t.kind==3)=B:=⟨_,rfl⟩
 obtain ⟨B2,h2⟩:∃B,(t.kind==4)=B:=⟨_,rfl⟩
 rw[h1,h2] at HT
 have h1':(t.kind !=3)= !B1:=by rw[bne,h1]
 have h2':(t.kind !=4)= !B2:=by rw[bne,h2]
 clear h1 h2
 rcases HT with ⟨hk,rfl⟩|⟨hk,hc⟩
 ·obtain ⟨rfl,rfl⟩:=Bool.or_eq_false_iff.1 hk
  refine' zq247
  go_wp2_with (first|((go_at_call 139);(refine (HN.out _ (by assumption)).mono ?_);(rintro r w2 ⟨rfl,hb2⟩);(have hb3:=Below.trans (by assumption:Below w.heap.size w _) (hb2.mono (by assumption:Below w.heap.size w _).size));clear hb2))
  go_ret2
  exact ⟨rfl,by assumption⟩
 ·rcases hc with ⟨ht,rfl⟩|⟨ht,rfl⟩|⟨ht,rfl⟩|⟨ht,rfl⟩
  case inr.inr.inr=>
   have HC:Hid (∀W,Calls Tryz.prog 337 #[.string t.text] W fun r w'=>r= .returned (.int .i64 0)∧W=w'):=fun W=>cmp_any t.text W (fun x hx=>ht x (by
    have:∀x∈([[61],[60,62],[60],[60,61],[62],[62,61]]:List (List UInt8)),x∈[45,62]:: [102,98,121]:: [43]::popN:=by decide
    exact this x hx))
   have n0:=ht [45,62] (by decide)
   have n1:=ht [102,98,121] (by decide)
   have n2:=ht [43] (by decide)
   have n3:=ht [119,104,101,110] (by decide)
   have n4:=ht [111,114] (by decide)
   have n5:=ht [120,111,114] (by decide)
   have n6:=ht [97,110,100] (by decide)
   have n7:=ht [45] (by decide)
   have n8:=ht [42] (by decide)
   have n9:=ht [47] (by decide)
   have n10:=ht [37] (by decide)
   clear ht
   cases B1
   ·obtain rfl:B2=true:=hk
    refine' zq77
   ·refine' zq77
  all_goals
   have hp1:((pstr 23:Nat):Int)=1:=rfl
   have hp2:((pstr 22:Nat):Int)=2:=rfl
   cases B1
   ·obtain rfl:B2=true:=hk
    refine' zq96
   ·refine' zq96
abbrev exZ6:Array Value:= #[.int .i64 0,.string ⟨#[]⟩,.int .i64 0,.slice none 0 0,.int .i64 0,.int .i64 0]
theorem Row.e6 {W:World} {b:Nat} {x0 x1 x2 x3 x4 x5:Value} {t:TypeId} (h:Row W b #[x0,x1,x2,x3,x4,x5] t):(W.cell? ⟨b,0,none⟩=some x0∧W.cell? ⟨b,1,none⟩=some x1∧W.cell? ⟨b,2,none⟩=some x2∧W.cell? ⟨b,3,none⟩=some x3∧W.cell? ⟨b,4,none⟩=some x4∧W.cell? ⟨b,5,none⟩=some x5)∧
  (W.frozen? ⟨b,0,none⟩=false∧W.frozen? ⟨b,1,none⟩=false∧W.frozen? ⟨b,2,none⟩=false∧W.frozen? ⟨b,3,none⟩=false∧W.frozen? ⟨b,4,none⟩=false∧W.frozen? ⟨b,5,none⟩=false):=
 ⟨⟨(h.cell 0).trans rfl,(h.cell 1).trans rfl,(h.cell 2).trans rfl,(h.cell 3).trans rfl,(h.cell 4).trans rfl,(h.cell 5).trans rfl⟩,h.frozen 0,h.frozen 1,h.frozen 2,h.frozen 3,h.frozen 4,h.frozen 5⟩
theorem Row.e6set {W:World} {b:Nat} {t:TypeId} {z0 z1 z2 z3 z4 z5:Value} (h:Row W b #[z0,z1,z2,z3,z4,z5] t) (x0 x1 x2 x3 x4 x5:Value):Row ((((((W.setCell ⟨b,0,none⟩ x0).setCell ⟨b,1,none⟩ x1).setCell ⟨b,2,none⟩ x2).setCell ⟨b,3,none⟩ x3).setCell ⟨b,4,none⟩ x4).setCell ⟨b,5,none⟩ x5) b #[x0,x1,x2,x3,x4,x5] t:=by
 have:=(((((h.set 0 x0).set 1 x1).set 2 x2).set 3 x3).set 4 x4).set 5 x5
 simpa using this
theorem upd_six (w:World) (g:Nat) (y0 y1 y2 y3 y4 y5:Value):Upd (fun x=>x=g) w ((((((w.setCell ⟨g,0,none⟩ y0).setCell ⟨g,1,none⟩ y1).setCell ⟨g,2,none⟩ y2).setCell ⟨g,3,none⟩ y3).setCell ⟨g,4,none⟩ y4).setCell ⟨g,5,none⟩ y5):=
 (upd_five w g y0 y1 y2 y3 y4).setCell (p:=⟨g,5,none⟩) rfl y5
theorem phgt_snoc (l:List Nat) (n:Nat):phgt (l++ [n])=max (phgt l) (n+1):=by simp[phgt]
theorem made_any (o:Nat) (e:Ex) (A:Option Addr) (cap:Nat) (hs:List Nat) (v:Value) (w:World) (hv:SlV w w.heap.size 1 isInt v (hs.map fun n:Nat=>(n:Int))) (hh:phgt hs≤30) (hb:∀n∈hs,n≤100):
  Calls Tryz.prog 312 #[.pointer (some ⟨o,0,none⟩),exV e A cap,v] w fun r w'=>r= .returned (.tuple #[exV e A cap,.int .i64 (phgt hs)])∧Below w.heap.size w w':=by
 obtain ⟨Ah,ch,rfl,hl,hm,hsl⟩:=hv
 have b1:Below w.heap.size w ((w.alloc (.cells (exA e A cap) 79)).alloc (.cells exZ6 79)):=bE
 have rE:=(Row.new w (exA e A cap) 79).alloc (.cells exZ6 79)
 have rZ:Row ((w.alloc (.cells (exA e A cap) 79)).alloc (.cells exZ6 79)) (w.heap.size+1) exZ6 79:=by
  have:=Row.new (w.alloc (.cells (exA e A cap) 79)) exZ6 79
  simpa using this
 have HS:=Lib.hid (hsl.below b1)
 rw[List.length_map] at hl⊢
 unfold maxLen at hm
 clear hsl
 go_enter Tryz.func312,Tryz.ntmps312
 go_upto_region 1 with (fail)
 change Code.wp _ _ _ _ ((w.alloc (.cells (exA e A cap) 79)).alloc (.cells exZ6 79))
 generalize (w.alloc (.cells (exA e A cap) 79)).alloc (.cells exZ6 79)=W1 at*
 obtain ⟨⟨q0,q1,q2,q3,q4,q5⟩,-⟩:=Row.e6 rE
 obtain ⟨⟨x0,x1,x2,x3,x4,x5⟩,z0,z1,z2,z3,z4,z5⟩:=Row.e6 rZ
 have hhb:∀k,k≤hs.length→phgt (hs.take k)≤101:=by
  intro k _
  have:∀(l:List Nat),(∀n∈l,n≤100)→∀a,a≤101→l.foldl (fun h n=>max h (n+1)) a≤101:=by
   intro l
   induction l with
   |nil=>intro _ a ha;exact ha
   |cons x l ih=>intro h a ha;exact ih (fun n hn=>h n (by simp[hn])) _ (by have:=h x (by simp);show max a (x+1)≤101;omega)
  exact this _ (fun n hn=>hb n (List.mem_of_mem_take hn)) 1 (by omega)
 have HHB:=Lib.hid hhb
 have HBN:=Lib.hid hb
 clear hhb hb
 go_wp2_with fail
 go_loopw[8,13] (fun v i wr=>∃k:Nat,k≤hs.length∧v= .int .i64 (phgt (hs.take k))∧i= .int .i64 k∧wr=W1) (fun _ i _=>hs.length-(intOf i).toNat)
 case atStart=>exact ⟨0,Nat.zero_le _,rfl,rfl,rfl⟩
 case round=>
  obtain ⟨k,hk,rfl,rfl,rfl⟩:=hrel
  by_cases hlt:k<hs.length
  ·obtain ⟨b,off,x,rfl,hbb,hx,-,d0⟩:=HS.out.int (k:=k) (by simpa using hlt)
   have hx':x=(hs[k]:Int):=by
    rw[List.getElem?_map,List.getElem?_eq_getElem hlt] at hx
    exact (Option.some.inj hx).symm
   subst hx'
   have hn:=HBN.out hs[k] (List.getElem_mem hlt)
   have HT:Hid (phgt (hs.take (k+1))=max (phgt (hs.take k)) (hs[k]+1)):=by
    show _=_
    rw[List.take_add_one,List.getElem?_eq_getElem hlt]
    exact phgt_snoc _ _
   have hq:=HHB.out k hk
   generalize hs[k]=m at*
   generalize phgt (hs.take k)=h0 at*
   go_wp2_with fail
   go_roundw
   case rel=>exact ⟨k+1,by omega,by rw[HT.out];exact congrArg (Value.int .i64) (by omega),by go_num,trivial⟩
   case measure=>simp[intOf];omega
  ·obtain rfl:k=hs.length:=by omega
   rw[List.take_length]
   have h30:decide ((30:Int)<(phgt hs:Int))=false:=decide_eq_false (by omega)
   go_wp2_with fail
   have u6:=upd_six wr (w.heap.size+1) (.int .i64 e.op) (.string e.name) (.int .i64 e.n) (.slice A e.args.length cap) (.int .i64 e.line) (.int .i64 e.col)
   have rF:=Row.e6set rZ (.int .i64 e.op) (.string e.name) (.int .i64 e.n) (.slice A e.args.length cap) (.int .i64 e.line) (.int .i64 e.col)
   refine bodyPost_ret (res2 (p:=6) (q:=7) (u:= .int .i64 (phgt hs)) rfl Tryz.underlying79 rfl (by kernel_rfl) rfl rfl rF) rfl ⟨rfl,?_⟩
   exact b1.trans (Upd.below u6 (fun k e=>by omega) b1.size)
end Go.Proofs.YtgjfkidbfmbjoaaGreat
