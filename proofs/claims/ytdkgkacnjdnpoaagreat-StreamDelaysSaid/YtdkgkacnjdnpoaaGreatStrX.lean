/-
  The contracts of the parser's locals, where there are none, and left, of one name. The contract of the parser's group: names, a type, no conditions. The contracts of the parser's ports and equation. Terms in memory. Which input a name is: the contract of slices.IndexFunc with stream.find's closure.
-/
import Derived.Test.YtdkgkacnjdnpoaaGreatPrsH
import Derived.Test.YtdkgkacnjdnpoaaGreatStrP
set_option maxHeartbeats 1000000
set_option maxRecDepth 100000
namespace Go.Proofs.YtdkgkacnjdnpoaaGreat
open Go.RowKit Nm
attribute [local go_sem] field_tk0 field_tk1 field_tk3
theorem locals_any {P:Pr} {o i:Nat} {u:Unit} {w:World} (h:PrAt w o P i) (hx:pnot P.l [118,97,114] i=some u):
  Calls Tryz.prog 87 #[.pointer (some ⟨o,0,none⟩)] w fun r w'=>r= .returned (.slice none 0 0)∧PrL w o P i w':=by
 obtain ⟨t,ht,hs⟩:=pnot_is hx
 have HT:=Lib.hid (take_no h ht ⟨#[118,97,114]⟩ hs)
 clear h
 go_enter Tryz.func87,Tryz.ntmps87
 go_wp2_with fail
 refine HT.out.mono ?_
 rintro r w2 ⟨rfl,h2⟩
 go_wp2_with fail
 go_ret
 exact ⟨rfl,h2⟩
theorem sl_hide {α:Type} {rel:α→List Value→Prop} {W:World} {lo g size:Nat} {l:List α} {css:List (List Value)} {t:TypeId} (hr:Row W g css.flatten.toArray t) (hg:lo≤g) (hx:Are rel l css) (hs:∀cs∈css,cs.length=size) (hl:l.length≤1000):SlV (hide lo W) W.heap.size size rel (.slice (some ⟨g,0,none⟩) l.length l.length) l:=by
 refine ⟨_,_,rfl,Nat.le_refl _,by unfold maxLen;omega,fun _=>⟨g,0,rfl,hr.lt,fun i x hi'=>?_⟩⟩
 have hil:i<css.length:=by rw[hx.1];exact (List.getElem?_eq_some_iff.1 hi').1
 refine ⟨css[i],fun j u hu=>?_,hx.2 i x _ hi' (List.getElem?_eq_getElem hil)⟩
 have hj:j<size:=by rw[←hs css[i] (List.getElem_mem hil)];exact (List.getElem?_eq_some_iff.1 hu).1
 rw[World.cell?_of_block (show (hide lo W).heap[(⟨g,0+i*size+j,none⟩:Addr).block]? =W.heap[g]? from hide_block hg),hr.cell,List.getElem?_toArray,Nat.zero_add,flatten_get hs (List.getElem?_eq_getElem hil) hj]
 exact hu
theorem pleft_any {P:Pr} {o i:Nat} {x:Tok × Nat} {w:World} (h:PrAt w o P i) (hx:pname P.l i=some x):
  Calls Tryz.prog 135 #[.pointer (some ⟨o,0,none⟩)] w fun r w'=>(∃v,r= .returned v∧SlV (hide w.heap.size w') w'.heap.size 1 isStr v [x.1.text])∧PrL w o P x.2 w':=by
 obtain ⟨ht,hk,-⟩:=pname_is hx
 have htk:=(h.tok ht).choose_spec.choose_spec.2.2.1
 have HT:=Lib.hid (take_no h ht ⟨#[40]⟩ (isS_name hk _))
 clear h hk
 go_enter Tryz.func135,Tryz.ntmps135
 go_wp2_with fail
 refine HT.out.mono ?_
 rintro r w2 ⟨rfl,h2⟩
 have HN:Hid (Calls Tryz.prog 85 #[.pointer (some ⟨o,0,none⟩),.int .i64 0,.int .i64 1] w2 fun r w'=>r= .returned (tokV x.1)∧PrL w2 o P x.2 w'):=pname_any h2.1 0 1 (by omega) hx
 go_wp2_with fail
 refine HN.out.mono ?_
 rintro r w3 ⟨rfl,h3⟩
 have hs2:=h2.2.size
 have hs3:=h3.2.size
 have b4:Below w3.heap.size w3 (w3.alloc (.cells #[.string x.1.text] 9)):=bE
 have HR:=Lib.hid (Row.new w3 #[.string x.1.text] 9)
 have HF:=Lib.hid ((h2.trans h3).bel b4)
 go_wp2_with fail
 go_ret
 exact ⟨⟨_,rfl,sl_hide (css:=[[.string x.1.text]]) HR.out (by omega) (Are.one ⟨rfl,Nat.le_trans htk.text (by unfold maxLen;omega)⟩) (by simp) (by simp)⟩,HF.out⟩
theorem own_put {w:World} {base n size g cap j:Nat} {e:TypeId} {xs:List Value} (h:w.ownsRow base e size (.slice (some ⟨g,0,none⟩) n cap) n xs) (u:Value):(w.setCell ⟨g,j,none⟩ u).ownsRow base e size (.slice (some ⟨g,0,none⟩) n cap) n (xs.set j u):=by
 refine ⟨by rw[List.length_set];exact h.1,?_⟩
 rcases h.2 with ⟨h0,_⟩|⟨g',cap',cur,h1,h2,h3,h4,h5,h6,h7⟩
 ·cases h0
 ·cases h1
  refine .inr ⟨g,cap,cur.setIfInBounds j u,rfl,h2,Row.set h3 j u,h4,h5,by simpa using h6,?_⟩
  rw[←h7]
  simp[List.take_set]
theorem own_at {w:World} {base n size g cap j:Nat} {e:TypeId} {xs:List Value} (h:w.ownsRow base e size (.slice (some ⟨g,0,none⟩) n cap) n xs) (hj:j<n*size):(∃u,w.cell? ⟨g,j,none⟩=some u∧xs[j]? =some u)∧w.frozen? ⟨g,j,none⟩=false:=by
 rcases h.2 with ⟨h0,_⟩|⟨g',cap',cur,h1,h2,h3,h4,h5,h6,h7⟩
 ·cases h0
 ·cases h1
  have hl:j<xs.length:=by rw[h.1];exact hj
  refine ⟨⟨xs[j],?_,List.getElem?_eq_getElem hl⟩,Row.frozen h3 j⟩
  rw[Row.cell h3 j,←List.getElem?_eq_getElem hl,←h7,List.getElem?_take_of_lt hj]
  simp
theorem own_slx {α:Type} {rel:α→List Value→Prop} {w:World} {base lo n size:Nat} {v:Value} {e:TypeId} {l:List α} {xs:List Value} (h:w.ownsRow base e size v n xs) (hl:lo≤base) (hn:n=l.length) (hr:∀i x,l[i]? =some x→∃cs:List Value,cs.length=size∧(∀j,j<size→cs[j]? =xs[i*size+j]?)∧rel x cs):SlV (hide lo w) w.heap.size size rel v l:=by
 subst hn
 rcases h.2 with ⟨rfl,h0⟩|⟨g,cap,cur,rfl,h2,h3,h4,h5,h6,h7⟩
 ·rw[List.eq_nil_of_length_eq_zero h0];exact SlV.nil
 ·refine ⟨_,_,rfl,h4,h5,fun _=>⟨g,0,rfl,Row.lt h3,fun i x hx=>?_⟩⟩
  obtain ⟨cs,c1,c2,c3⟩:=hr i x hx
  refine ⟨cs,fun j u hu=>?_,c3⟩
  have hj:j<size:=by rw[←c1];exact (List.getElem?_eq_some_iff.1 hu).1
  have hi:i<l.length:=(List.getElem?_eq_some_iff.1 hx).1
  have hlt:i*size+j<l.length*size:=by
   have:(i+1)*size≤l.length*size:=Nat.mul_le_mul_right _ hi
   rw[Nat.add_mul] at this;omega
  rw[c2 j hj,←h7,List.getElem?_take_of_lt hlt] at hu
  rw[World.cell?_of_block (show (hide lo w).heap[(⟨g,0+i*size+j,none⟩:Addr).block]? =w.heap[g]? from hide_block (Nat.le_trans hl h2)),Row.cell h3,Nat.zero_add]
  simpa using hu
def vrC (t:Tok):List Value:=[.string t.text,.int .i64 0,.slice none 0 0,.int .i64 t.line,.int .i64 t.col]
def vrsC (l:List Tok):List Value:=(l.map vrC).flatten
theorem vrsC_snoc (l:List Tok) (t:Tok):vrsC (l++ [t])=vrsC l++vrC t:=by simp[vrsC]
theorem vrC_one (t:Tok):∀u∈vrC t,u.oneCell'=true:=by
 intro u hu
 simp only[vrC,List.mem_cons,List.not_mem_nil,or_false] at hu
 rcases hu with rfl|rfl|rfl|rfl|rfl<;>rfl
theorem info_vr:(Tryz.prog.info? 103).map (fun i=>(i.zero,i.size,i.bytes))=some (some (.agg #[.string ⟨#[]⟩,.int .i64 0,.slice none 0 0,.int .i64 0,.int .i64 0]),5,64):=by kernel_rfl
theorem pnames_is {P:List Tok} {k i:Nat} {l:List Tok} {x:List Tok × Nat} (h:pnames P k i l=some x):∃k' y u,k=k'+1∧pname P i=some y∧l.length<8∧P[y.2]? =some u∧
  ((isS u [44]=true∧pnames P k' (y.2+1) (l++ [y.1])=some x)∨(isS u [44]=false∧x=(l++ [y.1],y.2))):=by
 cases k with
 |zero=>cases h
 |succ k=>
  obtain ⟨y,h1,h⟩:=Option.bind_eq_some_iff.1 h
  cases hd:decide (l.length<8) with
  |false=>rw[hd] at h;cases h
  |true=>
   rw[hd,cond_true] at h
   obtain ⟨u,h2,h⟩:=Option.bind_eq_some_iff.1 h
   refine ⟨k,y,u,rfl,h1,of_decide_eq_true hd,h2,?_⟩
   cases hs:isS u [44] with
   |true=>rw[hs,cond_true] at h;exact .inl ⟨rfl,h⟩
   |false=>rw[hs,cond_false] at h;cases h;exact .inr ⟨rfl,rfl⟩
structure GrI (w:World) (o:Nat) (P:Pr) (x:List Tok × Nat) (v:Value) (l:List Tok) (j k:Nat) (wr:World):Prop where
 pn:pnames P.l k j l=some x
 pa:PrL w o P j wr
 own:wr.ownsRow w.heap.size 103 5 v l.length (vrsC l)
 ok:∀t∈l,TokOk t
structure Gr2 (w:World) (o:Nat) (P:Pr) (T:List Tok) (g c:Nat) (kd:Int) (j k:Nat) (xs:List Value) (wr:World):Prop where
 pa:PrL w o P j wr
 own:wr.ownsRow w.heap.size 103 5 (.slice (some ⟨g,0,none⟩) T.length c) T.length xs
 base:∀i t,T[i]? =some t→xs[i*5]? =some (.string t.text)∧xs[i*5+3]? =some (.int .i64 t.line)∧xs[i*5+4]? =some (.int .i64 t.col)
 done:∀i,i<k→xs[i*5+1]? =some (.int .i64 kd)∧∃b,xs[i*5+2]? =some (.slice (some ⟨b,0,none⟩) 0 0)
theorem vrsC_at {T:List Tok} {i:Nat} {t:Tok} (h:T[i]? =some t) {j:Nat} (hj:j<5):(vrsC T)[i*5+j]? =(vrC t)[j]? :=by
 unfold vrsC
 refine flatten_get (fun cs hcs=>?_) (by rw[List.getElem?_map,h];rfl) hj
 obtain ⟨x,_,rfl⟩:=List.mem_map.1 hcs
 rfl
theorem gr2_done {w:World} {o g c j:Nat} {P:Pr} {T:List Tok} {kd:Int} {xs:List Value} {wr:World} (h:Gr2 w o P T g c kd j T.length xs wr) (hk:Wf kd) (ht:∀t∈T,TokOk t):
  SlV (hide w.heap.size wr) wr.heap.size 5 (isVr (hide w.heap.size wr) wr.heap.size) (.slice (some ⟨g,0,none⟩) T.length c) (T.map (varT kd)):=by
 refine own_slx h.own (Nat.le_refl _) (by simp) (fun i x hx=>?_)
 rw[List.getElem?_map] at hx
 obtain ⟨t,ht',rfl⟩:=Option.map_eq_some_iff.1 hx
 have hi:=(List.getElem?_eq_some_iff.1 ht').1
 obtain ⟨b0,b3,b4⟩:=h.base i t ht'
 obtain ⟨d1,b,d2⟩:=h.done i hi
 have tk:=ht t (List.mem_of_getElem? ht')
 refine ⟨[.string t.text,.int .i64 kd,.slice (some ⟨b,0,none⟩) 0 0,.int .i64 t.line,.int .i64 t.col],rfl,fun j hj=>?_,?_⟩
 ·match j,hj with
  |0,_=>exact b0.symm
  |1,_=>exact d1.symm
  |2,_=>exact d2.symm
  |3,_=>exact b3.symm
  |4,_=>exact b4.symm
 ·refine ⟨_,0,rfl,⟨Nat.le_trans tk.text (by unfold maxLen;omega),hk,?_,?_⟩,Nat.le_refl _,Nat.zero_le _,fun hn=>absurd hn (by simp[varT])⟩
  ·exact wf_of ⟨by have:=tk.line;show _≤t.line;omega,by have:=tk.line;show t.line≤_;omega⟩
  ·exact wf_of ⟨by have:=tk.col;show _≤t.col;omega,by have:=tk.col;show t.col≤_;omega⟩
theorem info_lt:(Tryz.prog.info? 105).map (fun i=>(i.zero,i.size,i.bytes))=some (some (.agg #[.string ⟨#[]⟩,.bool false]),2,24):=by kernel_rfl
theorem pgroup_is {P:List Tok} {i:Nat} {x:List Vr × Nat} (h:pgroup P i=some x):∃ts j1 j2 k,pnames P 8 i []=some (ts,j1)∧pwant P [58] j1=some j2∧pkind P j2=some (k,x.2)∧pnot P [119,104,101,110] x.2=some ()∧x.1=ts.map (varT k):=by
 obtain ⟨a,h1,h⟩:=Option.bind_eq_some_iff.1 h
 obtain ⟨b,h2,h⟩:=Option.bind_eq_some_iff.1 h
 obtain ⟨c,h3,h⟩:=Option.bind_eq_some_iff.1 h
 obtain ⟨_,h4,h⟩:=Option.bind_eq_some_iff.1 h
 cases h
 exact ⟨a.1,a.2,b,c.1,h1,h2,h3,h4,rfl⟩
theorem group_any {P:Pr} {o i:Nat} {x:List Vr × Nat} {w:World} (h:PrAt w o P i) (hx:pgroup P.l i=some x):
  Calls Tryz.prog 134 #[.pointer (some ⟨o,0,none⟩),.slice none 0 0,.int .i64 8] w fun r w'=>(∃v,r= .returned v∧SlV (hide w.heap.size w') w'.heap.size 5 (isVr (hide w.heap.size w') w'.heap.size) v x.1)∧PrL w o P x.2 w':=by
 obtain ⟨ts,j1,j2,kd,hp1,hp2,hp3,hp4,hx1⟩:=pgroup_is hx
 obtain ⟨i0,hi0,hz0,hz1,hz2⟩:=info_parts info_vr
 obtain ⟨l0,hl0,hv0,hv1,hv2⟩:=info_parts info_lt
 have hol:=h.lt
 have HG0:Hid (GrI w o P (ts,j1) (.slice none 0 0) [] i 8 w):=⟨hp1,⟨h,Upd.refl _ _⟩,World.ownsRow_nil _ _ _ _,fun t ht=>absurd ht List.not_mem_nil⟩
 have HP2:=Lib.hid hp2
 have HP3:=Lib.hid hp3
 have HP4:=Lib.hid hp4
 have HX1:=Lib.hid hx1
 clear h hx hp1 hp2 hp3 hp4 hx1
 go_enter Tryz.func134,Tryz.ntmps134
 go_wp2_with fail
 go_loopg [1] 8 (fun q v wr=>∃l j,Hid (GrI w o P (ts,j1) v l j q wr))
 case atStart=>exact ⟨_,_,HG0⟩
 case round=>
  obtain ⟨l,j,H⟩:=hrel
  obtain ⟨k',y,u,rfl,hy,hl8,hu,hcase⟩:=pnames_is H.out.pn
  obtain ⟨A0,c0,hv,-⟩:=own_rd H.out.own
  subst hv
  have hsw:=H.out.pa.2.size
  have HN:Hid (Calls Tryz.prog 85 #[.pointer (some ⟨o,0,none⟩),.int .i64 l.length,.int .i64 8] wr fun r w'=>r= .returned (tokV y.1)∧PrL wr o P y.2 w'):=pname_any H.out.pa.1 l.length 8 hl8 hy
  have htk:=(H.out.pa.1.tok (pname_is hy).1).choose_spec.choose_spec.2.2.1
  go_wp2_with fail
  refine HN.out.mono ?_
  rintro r w2 ⟨rfl,h2⟩
  have hs2:=h2.2.size
  have b3:Below w2.heap.size w2 (w2.alloc (.cells (tokA y.1) 134)):=bE
  have rT:=Row.new w2 (tokA y.1) 134
  have H3:=Lib.hid ((H.out.pa.trans h2).bel b3)
  have HO3:=Lib.hid (own_below (own_updX H.out.own h2.2 (fun k e=>by omega)) b3)
  have HB:=Lib.hid (pbad_any H3.out.1)
  have hs3:=b3.size
  go_upto_region 3 with (fail)
  change Code.wp _ _ _ _ (w2.alloc (.cells (tokA y.1) 134))
  generalize w2.alloc (.cells (tokA y.1) 134)=W3 at*
  obtain ⟨⟨y0,y1,y2,y3,y4⟩,-⟩:=rT.tk5
  go_wp2_with (first|((go_at_call 49);(refine HB.out.mono ?_);(rintro r w4 ⟨rfl,rfl⟩))|(at_builtin;refine wpList_append_own _ rfl _ _ 55 rfl w.heap.size 103 i0 (.agg #[.string ⟨#[]⟩,.int .i64 0,.slice none 0 0,.int .i64 0,.int .i64 0]) 5 64 Tryz.underlying55 hi0 hz0 hz1 hz2 rfl (by decide) _ _ _ rfl (HO3.out.alloc _) ⟨_,0,none⟩ 1 1 (vrC y.1) rfl rfl (cells_new5 _ _ (vrC y.1)) (vrC_one _) (by unfold maxLen;omega) (by omega) (by simp;omega) ?_))
  intro v' w5 hown hg _
  have hO:=HO3.out.alloc (.cells #[.string y.1.text,.int .i64 0,.slice none 0 0,.int .i64 y.1.line,.int .i64 y.1.col] 103)
  have hL5:Hid (PrL w o P y.2 w5):=HG0.out.pa.1.fin (Row.ownB (H3.out.1.row.alloc (.cells #[.string y.1.text,.int .i64 0,.slice none 0 0,.int .i64 y.1.line,.int .i64 y.1.col] 103)) hO hol hg) (Upd.ownB (H3.out.2.alloc (.cells #[.string y.1.text,.int .i64 0,.slice none 0 0,.int .i64 y.1.line,.int .i64 y.1.col] 103)) hO hg)
  have HO5:Hid (w5.ownsRow w.heap.size 103 5 v' (l++ [y.1]).length (vrsC (l++ [y.1]))):=by
   show World.ownsRow _ _ _ _ _ _ _
   rw[vrsC_snoc];simpa using hown
  have HOK:Hid (∀t∈l++ [y.1],TokOk t):=fun t ht=>by
   rcases List.mem_append.1 ht with ht|ht
   ·exact H.out.ok t ht
   ·rw[List.mem_singleton.1 ht];exact htk
  clear hown hg hO
  rcases hcase with ⟨hs,hn⟩|⟨hs,hn⟩
  ·have HT:=Lib.hid (take_yes hL5.out.1 hu ⟨#[44]⟩ hs)
   have HPN:=Lib.hid hn
   clear hn
   go_wp2_with fail
   refine HT.out.mono ?_
   rintro r w6 ⟨rfl,h6⟩
   have HN6:Hid (GrI w o P (ts,j1) v' (l++ [y.1]) (y.2+1) k' w6):=⟨HPN.out,hL5.out.trans h6,own_updX HO5.out h6.2 (fun k e=>by omega),HOK.out⟩
   go_wp2_with fail
   go_roundg k'
   case measure=>omega
   case rel=>exact ⟨_,_,HN6⟩
  ·have HT:=Lib.hid (take_no hL5.out.1 hu ⟨#[44]⟩ hs)
   cases hn
   go_wp2_with fail
   refine HT.out.mono ?_
   rintro r w6 ⟨rfl,h6⟩
   have HL6:=Lib.hid (hL5.out.trans h6)
   have HO6:=Lib.hid (own_updX HO5.out h6.2 (fun k e=>by omega))
   have HW:=Lib.hid (want_any HL6.out.1 ⟨#[58]⟩ HP2.out)
   clear HT HB HN h6 h2
   go_wp2_with fail
   refine HW.out.mono ?_
   rintro r w7 ⟨rfl,h7⟩
   have HK:=Lib.hid (pkind_any h7.1 HP3.out)
   go_wp2_with fail
   refine HK.out.mono ?_
   rintro r w8 ⟨rfl,h8⟩
   have HC:=Lib.hid (pclock_any h8.1 HP4.out)
   go_wp2_with fail
   refine HC.out.mono ?_
   rintro r w9 ⟨rfl,hb9⟩
   have HL9:=Lib.hid (((HL6.out.trans h7).trans h8).bel hb9)
   have HO9:=Lib.hid (own_below (own_updX (own_updX HO6.out h7.2 (fun k e=>by omega)) h8.2 (fun k e=>by omega)) hb9)
   have hkd:Hid (Wf kd):=by
    obtain ⟨_,_,_,⟨_,rfl⟩|⟨_,_,rfl⟩⟩:=pkind_is HP3.out<;>exact wf_of ⟨by decide,by decide⟩
   have hTl:(l++ [y.1]).length≤8:=by simp;omega
   have hTp:0<(l++ [y.1]).length:=by simp
   generalize l++ [y.1]=T at*
   obtain ⟨g,c,hv⟩:=own_some HO9.out hTp
   subst hv
   have hgl:=(HO9.out.lt g rfl)
   have HG2:Hid (Gr2 w o P T g c kd x.2 0 (vrsC T) w9):=⟨HL9.out,HO9.out,fun i t ht=>by
    refine ⟨?_,?_,?_⟩
    ·have:=vrsC_at ht (j:=0) (by omega);rw[Nat.add_zero] at this;rw[this];rfl
    ·rw[vrsC_at ht (by omega)];rfl
    ·rw[vrsC_at ht (by omega)];rfl,fun i hi=>absurd hi (Nat.not_lt_zero _)⟩
   have hs9w:=HL9.out.2.size
   clear HK HC HW h7 h8 hb9 HL6 HO6 hL5 HO5 H3 HO3 HL9 HO9
   go_wp2_with fail
   go_loopw[11] (fun v wr=>∃k xs,k≤T.length∧v= .int .i64 ((k:Nat):Int)∧Hid (Gr2 w o P T g c kd x.2 k xs wr)) (fun i _=>T.length-(intOf i).toNat)
   case atStart=>exact ⟨0,_,Nat.zero_le _,rfl,HG2⟩
   case round=>
    obtain ⟨k,xs,hk,rfl,HR⟩:=hrel
    have hsr:=HR.out.pa.2.size
    by_cases hlt:k<T.length
    ·have bA:Below wr.heap.size wr (wr.alloc (.cells #[] 105)):=bE
     have HOA:=Lib.hid (own_below HR.out.own bA)
     have HEM:=Lib.hid (own_empty wr 105 2)
     have h51:k*5+1<T.length*5:=by omega
     have h52:k*5+2<T.length*5:=by omega
     obtain ⟨⟨u1,c1,-⟩,z1⟩:=own_at HOA.out h51
     obtain ⟨⟨u2,c2,-⟩,z2⟩:=own_at HOA.out h52
     clear bA
     go_wp2_with (at_builtin;refine wpList_append_own_none rfl _ _ 101 rfl wr.heap.size 105 l0 2 Tryz.underlying101 hl0 _ 0 [] rfl HEM.out rfl ?_)
     have HN2:Hid (Gr2 w o P T g c kd x.2 (k+1) ((xs.set (k*5+1) (.int .i64 kd)).set (k*5+2) (.slice (some ⟨wr.heap.size,0,none⟩) 0 0)) (((wr.alloc (.cells #[] 105)).setCell ⟨g,k*5+1,none⟩ (.int .i64 kd)).setCell ⟨g,k*5+2,none⟩ (.slice (some ⟨wr.heap.size,0,none⟩) 0 0))):=by
      have ug:Upd (fun x=>x=g) wr (((wr.alloc (.cells #[] 105)).setCell ⟨g,k*5+1,none⟩ (.int .i64 kd)).setCell ⟨g,k*5+2,none⟩ (.slice (some ⟨wr.heap.size,0,none⟩) 0 0)):=((((Upd.refl (fun x=>x=g) wr).alloc _).setCell (p:=⟨g,k*5+1,none⟩) rfl _).setCell (p:=⟨g,k*5+2,none⟩) rfl _)
      have hxl:xs.length=T.length*5:=HR.out.own.1
      refine ⟨HG0.out.pa.1.fin (ug.row HR.out.pa.1.row (by omega)) (Upd.narrow (Y:=fun x=>x=o∨x=g) ((HR.out.pa.2.mono (fun k e=>Or.inl e)).trans (ug.mono (fun k e=>Or.inr e))) (fun k hk e=>by omega)),own_put (own_put HOA.out _) _,fun i t ht=>?_,fun i hi=>?_⟩
      ·obtain ⟨a0,a3,a4⟩:=HR.out.base i t ht
       refine ⟨?_,?_,?_⟩
       ·rw[List.getElem?_set_ne (by omega),List.getElem?_set_ne (by omega)];exact a0
       ·rw[List.getElem?_set_ne (by omega),List.getElem?_set_ne (by omega)];exact a3
       ·rw[List.getElem?_set_ne (by omega),List.getElem?_set_ne (by omega)];exact a4
      ·by_cases hik:i=k
       ·subst hik
        refine ⟨?_,wr.heap.size,?_⟩
        ·rw[List.getElem?_set_ne (by omega),List.getElem?_set_self (by omega)]
        ·rw[List.getElem?_set_self (by rw[List.length_set];omega)]
       ·obtain ⟨d1,b,d2⟩:=HR.out.done i (by omega)
        refine ⟨?_,b,?_⟩
        ·rw[List.getElem?_set_ne (by omega),List.getElem?_set_ne (by omega)];exact d1
        ·rw[List.getElem?_set_ne (by omega),List.getElem?_set_ne (by omega)];exact d2
     go_roundw
     case rel=>exact ⟨k+1,_,by omega,by go_num,HN2⟩
     case measure=>simp[intOf];omega
    ·obtain rfl:k=T.length:=by omega
     have HSL:=Lib.hid (gr2_done HR.out hkd.out HOK.out)
     go_wp2_with fail
     go_ret
     exact ⟨⟨_,rfl,by rw[HX1.out];exact HSL.out⟩,HR.out.pa⟩
abbrev VrH (w:World) (lo hi:Nat) (v:Value) (l:List Vr):Prop:=SlV (hide lo w) hi 5 (isVr (hide lo w) hi) v l
theorem VrH.upd {X:Nat→Prop} {w w':World} {lo hi:Nat} {v:Value} {l:List Vr} (h:VrH w lo hi v l) (hu:Upd X w w') (hX:∀k,X k→k<lo∨hi≤k) (hh:hi≤w.heap.size):VrH w' lo hi v l:=
 SlV.keep h (keeps_of (hu.bhide hX hh)) (Nat.le_refl _) (fun _ _ _ h=>isVr_keep (keeps_of (hu.bhide hX hh)) (Nat.le_refl _) h)
theorem VrH.wide {w:World} {lo lo' hi hi':Nat} {v:Value} {l:List Vr} (h:VrH w lo hi v l) (hl:lo'≤lo) (hh:hi≤hi'):VrH w lo' hi' v l:=
 SlV.keep h (hide_more hl hi w) hh (fun _ _ _ h=>isVr_keep (hide_more hl hi w) hh h)
theorem pports_is {P:List Tok} {i:Nat} {x:List Vr × Nat} (h:pports P i=some x):∃i1 y,pwant P [40] i=some i1∧pgroup P i1=some y∧pnot P [59] y.2=some ()∧pwant P [41] y.2=some x.2∧x.1=y.1:=by
 obtain ⟨i1,h1,h⟩:=Option.bind_eq_some_iff.1 h
 obtain ⟨y,h2,h⟩:=Option.bind_eq_some_iff.1 h
 obtain ⟨_,h3,h⟩:=Option.bind_eq_some_iff.1 h
 obtain ⟨i3,h4,h⟩:=Option.bind_eq_some_iff.1 h
 cases h
 exact ⟨i1,y,h1,h2,h3,h4,rfl⟩
theorem ports_any {P:Pr} {o i:Nat} {x:List Vr × Nat} {w:World} (h:PrAt w o P i) (hx:pports P.l i=some x):
  Calls Tryz.prog 86 #[.pointer (some ⟨o,0,none⟩)] w fun r w'=>(∃v,r= .returned v∧VrH w' w.heap.size w'.heap.size v x.1)∧PrL w o P x.2 w':=by
 obtain ⟨i1,y,h1,h2,h3,h4,hx1⟩:=pports_is hx
 have hol:=h.lt
 have HW:=Lib.hid (want_any h ⟨#[40]⟩ h1)
 have HX1:=Lib.hid hx1
 have HG:=Lib.hid h2
 have HN:=Lib.hid h3
 have HW2:=Lib.hid h4
 clear h hx hx1 h1 h2 h3 h4
 go_enter Tryz.func86,Tryz.ntmps86
 go_wp2_with fail
 refine HW.out.mono ?_
 rintro r w2 ⟨rfl,q2⟩
 have hs2:=q2.2.size
 go_wp2_with fail
 go_loopw[3] (fun v wr=>v= .slice none 0 0∧wr=w2) (fun _ _=>0)
 case atStart=>exact ⟨rfl,rfl⟩
 case round=>
  obtain ⟨rfl,rfl⟩:=hrel
  have HC:=Lib.hid (group_any q2.1 HG.out)
  go_wp2_with fail
  refine HC.out.mono ?_
  rintro r w3 ⟨⟨v,rfl,hv⟩,q3⟩
  have hs3:=q3.2.size
  obtain ⟨t,ht,hn⟩:=pnot_is HN.out
  have HT:=Lib.hid (take_no q3.1 ht ⟨#[59]⟩ hn)
  have HV:=Lib.hid hv
  clear hv
  go_wp2_with fail
  refine HT.out.mono ?_
  rintro r w4 ⟨rfl,q4⟩
  have hs4:=q4.2.size
  have HW3:=Lib.hid (want_any q4.1 ⟨#[41]⟩ HW2.out)
  go_wp2_with fail
  refine HW3.out.mono ?_
  rintro r w5 ⟨rfl,q5⟩
  have hs5:=q5.2.size
  have HV5:Hid (VrH w5 w.heap.size w5.heap.size v x.1):=by
   show VrH _ _ _ _ _
   rw[HX1.out]
   exact (VrH.upd HV.out (q4.2.trans q5.2) (fun k e=>by omega) (Nat.le_refl _)).wide (by omega) (by omega)
  go_wp2_with fail
  go_ret
  exact ⟨⟨_,rfl,HV5.out⟩,((q2.trans q3).trans q4).trans q5⟩
theorem peqn_is {P:List Tok} {n i:Nat} {x:Eqn × Nat} (h:peqn P n i=some x):∃a j y,pname P i=some a∧n≠48∧pwant P [61] a.2=some j∧pexpr P 40 0 1 j=some y∧pwant P [59] y.2.2=some x.2∧x.1=⟨[a.1.text],y.1,a.1.line,a.1.col⟩:=by
 obtain ⟨a,h1,h⟩:=Option.bind_eq_some_iff.1 h
 cases hn:n==48 with
 |true=>rw[hn] at h;cases h
 |false=>
  rw[hn,cond_false] at h
  obtain ⟨j,h2,h⟩:=Option.bind_eq_some_iff.1 h
  obtain ⟨y,h3,h⟩:=Option.bind_eq_some_iff.1 h
  obtain ⟨k,h4,h⟩:=Option.bind_eq_some_iff.1 h
  cases h
  exact ⟨a,j,y,h1,beq_eq_false_iff_ne.1 hn,h2,h3,h4,rfl⟩
open Go.RowKit
theorem def_once {eqs:List Eqn} {nm:ByteArray} {i i':Nat} {q q':Eqn} (hq:eqs[i]? =some q) (hl:q.left=[nm]) (hj:∀j,j<i→∀r,eqs[j]? =some r→nm∉r.left) (hq':eqs[i']? =some q') (hl':q'.left=[nm]) (hj':∀j,j<i'→∀r,eqs[j]? =some r→nm∉r.left):i=i':=by
 rcases Nat.lt_trichotomy i i' with h|h|h
 ·exact absurd (by rw[hl];simp) (hj' i h q hq)
 ·exact h
 ·exact absurd (by rw[hl'];simp) (hj i' h q' hq')
theorem EI.det {n:Nd} {T:List Tm} {row:List Int} {σ:Past} {t:Tm} {v v':Int} (h:EI n T row σ t v) (h':EI n T row σ t v'):v=v':=by
 induction h generalizing v' with
 |num ho=>cases h' with
  |num=>rfl
  |inp ho'=>omega
  |eqn ho'=>omega
 |inp ho hi hr=>cases h' with
  |num ho'=>omega
  |inp _ hi' hr'=>
   have:(_:Nat)=_:=Int.ofNat.inj (hi.symm.trans hi')
   subst this
   rw[hr] at hr';exact Option.some.inj hr'
  |eqn _ hn=>exact absurd (idx_mem.1 (by omega)) hn
 |eqn ho hn hq hl hj ht _ ih=>cases h' with
  |num ho'=>omega
  |inp _ hi'=>exact absurd (idx_mem.1 (by omega)) hn
  |eqn _ _ hq' hl' hj' ht' hv'=>
   have e:=def_once hq hl hj hq' hl' hj'
   subst e
   rw[ht] at ht';cases ht'
   exact ih hv'
 |pre ho=>cases h';rfl
 |fby1 ho hs=>cases h' with
  |fby1=>rfl
  |fby0 _ hs'=>rw[hs] at hs';cases hs'
  |arr1 ho'=>omega
  |arr0 ho'=>omega
 |fby0 ho hs _ ih=>cases h' with
  |fby1 _ hs'=>rw[hs] at hs';cases hs'
  |fby0 _ _ hv=>exact ih hv
  |arr1 ho'=>omega
  |arr0 ho'=>omega
 |arr1 ho hs _ ih=>cases h' with
  |fby1 ho'=>omega
  |fby0 ho'=>omega
  |arr1 _ _ hv=>exact ih hv
  |arr0 _ hs'=>rw[hs] at hs';cases hs'
 |arr0 ho hs _ ih=>cases h' with
  |fby1 ho'=>omega
  |fby0 ho'=>omega
  |arr1 _ hs'=>rw[hs] at hs';cases hs'
  |arr0 _ _ hv=>exact ih hv
abbrev tmA (e:Ex) (A:Option Addr) (cap:Nat) (pa:Value) (s:Bool × Int) (kc:Option Addr × Nat):Array Value:= #[.int .i64 e.op,.string e.name,.int .i64 e.n,.slice A e.args.length cap,.int .i64 e.line,.int .i64 e.col,.slice kc.1 0 kc.2,pa,.pointer none,.bool s.1,.int .i64 s.2]
def isPtr (b:Nat) (cs:List Value):Prop:=cs=[.pointer (some ⟨b,0,none⟩)]
def TmRow (σ:Past) (w:World) (lo hi b:Nat) (e:Ex) (l:List Nat):Prop:=
 (lo≤b∧b<hi)∧∃A cap pa kc,Row w b (tmA e A cap pa (σ b) kc) 158∧SlV (hide lo w) hi 1 isPtr pa l
def TmAt (σ:Past) (w:World) (lo hi:Nat):Tm→Prop
 | .l b e=>TmRow σ w lo hi b e []
 | .o b e x=>TmRow σ w lo hi b e [x.b]∧TmAt σ w lo hi x
 | .p b e x y=>TmRow σ w lo hi b e [x.b,y.b]∧TmAt σ w lo hi x∧TmAt σ w lo hi y
section
variable {σ:Past} {w w':World} {lo lo' hi hi':Nat}
theorem TmRow.upd {X:Nat→Prop} {b:Nat} {e:Ex} {l:List Nat} (h:TmRow σ w lo hi b e l) (hu:Upd X w w') (hX:∀k,X k→k<lo∨hi≤k) (hh:hi≤w.heap.size):TmRow σ w' lo hi b e l:=by
 obtain ⟨hb,A,cap,pa,kc,r,hp⟩:=h
 exact ⟨hb,A,cap,pa,kc,hu.row r (fun hx=>by have:=hX _ hx;omega),SlV.keep hp (keeps_of (hu.bhide hX hh)) (Nat.le_refl _) (fun _ _ _ h=>h)⟩
theorem TmRow.wide {b:Nat} {e:Ex} {l:List Nat} (h:TmRow σ w lo hi b e l) (hl:lo'≤lo) (hh:hi≤hi'):TmRow σ w lo' hi' b e l:=by
 obtain ⟨hb,A,cap,pa,kc,r,hp⟩:=h
 exact ⟨⟨by omega,by omega⟩,A,cap,pa,kc,r,SlV.keep hp (hide_more hl hi w) hh (fun _ _ _ h=>h)⟩
theorem TmAt.upd {X:Nat→Prop} (hu:Upd X w w') (hX:∀k,X k→k<lo∨hi≤k) (hh:hi≤w.heap.size):∀{t:Tm},TmAt σ w lo hi t→TmAt σ w' lo hi t
 | .l _ _,h=>TmRow.upd h hu hX hh
 | .o _ _ _,h=>⟨h.1.upd hu hX hh,TmAt.upd hu hX hh h.2⟩
 | .p _ _ _ _,h=>⟨h.1.upd hu hX hh,TmAt.upd hu hX hh h.2.1,TmAt.upd hu hX hh h.2.2⟩
theorem TmAt.wide (hl:lo'≤lo) (hh:hi≤hi'):∀{t:Tm},TmAt σ w lo hi t→TmAt σ w lo' hi' t
 | .l _ _,h=>TmRow.wide h hl hh
 | .o _ _ _,h=>⟨h.1.wide hl hh,TmAt.wide hl hh h.2⟩
 | .p _ _ _ _,h=>⟨h.1.wide hl hh,TmAt.wide hl hh h.2.1,TmAt.wide hl hh h.2.2⟩
end
attribute [local go_sem ↓] Go.wp_at_zero Go.wp_at_succ
theorem find1_any (x:Vr) (A:Option Addr) (cap:Nat) (p:Nat) (nm:ByteArray) (w:World) (hp:w.cell? ⟨p,0,none⟩=some (.string nm)) (hl:p<w.heap.size):
  Calls Tryz.prog 121 #[.agg #[.string x.name,.int .i64 x.ty,.slice A x.clock.length cap,.int .i64 x.line,.int .i64 x.col],.pointer (some ⟨p,0,none⟩)] w fun e w'=>e= .returned (.bool (cB (x.name=nm)))∧Below w.heap.size w w':=by
 obtain ⟨P,HP⟩:∃P:Bool,Hid (cB (x.name=nm)=P):=⟨_,rfl⟩
 have hq:(x.name.toList==nm.toList)=P:=by
  rw[←HP.out]
  by_cases e:x.name=nm
  ·rw[cB_true e,e];simp
  ·rw[cB_false e];exact beq_no e
 rw[HP.out]
 have b1:Below w.heap.size w (w.alloc (.cells (vrArr x A cap) 103)):=bE
 have rx:=Row.new w (vrArr x A cap) 103
 have hp1:(w.alloc (.cells (vrArr x A cap) 103)).cell? ⟨p,0,none⟩=some (.string nm):=keeps_of b1 _ _ hl hp
 go_enter Tryz.func121,Tryz.ntmps121
 go_upto_region 1 with (fail)
 change Code.wp _ _ _ _ (w.alloc (.cells (vrArr x A cap) 103))
 generalize w.alloc (.cells (vrArr x A cap) 103)=W1 at*
 obtain ⟨z0,z1,z2,z3,z4⟩:=rx.vr
 go_wp2_with fail
 go_ret
 exact ⟨by cases P<;>rfl,b1⟩
theorem inIdx_any (l:List Vr) (A:Option Addr) (cap p:Nat) (nm:ByteArray) (w:World) (h1:l.length≤cap) (h2:cap≤maxLen) (h:Sl w w.heap.size 5 (isVr w w.heap.size) A l) (hp:w.cell? ⟨p,0,none⟩=some (.string nm)) (hl:p<w.heap.size):
  Calls Tryz.prog 120 #[.slice A l.length cap,.func (.func 121) #[] #[.pointer (some ⟨p,0,none⟩)]] w fun e w'=>e= .returned (.int .i64 (idxOf (nms l) nm))∧Below w.heap.size w w':=by
 have HV:Hid (∀W,Below w.heap.size w W→Sl W w.heap.size 5 (isVr W w.heap.size) A l):=fun W hW=>vrs_keep h (keeps_of hW) (Nat.le_refl _)
 have HO:Hid (∀(W:World) (x:Vr) (A':Option Addr) (cap':Nat),Below w.heap.size w W→Calls Tryz.prog 121 #[.agg #[.string x.name,.int .i64 x.ty,.slice A' x.clock.length cap',.int .i64 x.line,.int .i64 x.col],.pointer (some ⟨p,0,none⟩)] W fun e w'=>e= .returned (.bool (cB (x.name=nm)))∧Below W.heap.size W w'):=fun W x A' cap' hW=>find1_any x A' cap' p nm W (keeps_of hW _ _ hl hp) (Nat.lt_of_lt_of_le hl hW.size)
 have hF:∀args w,(callFunc 121 args).run Tryz.prog w= .ok (.enter 121 args) w:=enters_of Tryz.func121 (by kernel_rfl) rfl
 have h2':cap≤9223372036854775807:=by unfold maxLen at h2;omega
 clear h hp
 go_enter Tryz.func120,Tryz.ntmps120
 go_wp2_with fail
 go_loopw[8] (fun i wr=>∃k:Nat,k≤l.length∧i= .int .i64 k∧Below w.heap.size w wr∧Hid (∀j,j<k→∀y,(nms l)[j]? =some y→y≠nm)) (fun i _=>l.length-(intOf i).toNat)
 case atStart=>exact ⟨0,Nat.zero_le _,rfl,Below.refl _ _,fun j h=>absurd h (by omega)⟩
 case round=>
  obtain ⟨k,hk,rfl,hB,HN⟩:=hrel
  have hsB:=hB.size
  by_cases hlt:k<l.length
  rotate_left 1
  ·obtain rfl:k=l.length:=by omega
   have HE:Hid (idxOf (nms l) nm= -1):=by
    rcases idx_cases (nms l) nm with ⟨k,h1,h2,_⟩|⟨h1,_⟩
    ·exact absurd rfl (HN.out k (by have:=(List.getElem?_eq_some_iff.1 h2).1;simpa using this) nm h2)
    ·exact h1
   go_wp2_with fail
   go_ret
   exact ⟨by rw[HE.out];rfl,hB⟩
  obtain ⟨b,off,x,A',cap',hA,hb,hxk,ok,g1,g2,hxs,d0,d1,d2,d3,d4⟩:=(HV.out wr hB).vr hlt
  rw[hA]
  have HX:Hid ((nms l)[k]? =some x.name):=by
   show _=_
   rw[List.getElem?_map,hxk];rfl
  have i0:(0:Int)≤(k:Int):=by omega
  have i1:(k:Int)<(l.length:Int):=by omega
  have HC:=Lib.hid (HO.out wr x A' cap' hB)
  obtain ⟨P,HP⟩:∃P:Bool,Hid (cB (x.name=nm)=P):=⟨_,rfl⟩
  rw[HP.out] at HC
  clear hA hxk ok hxs
  cases P
  ·have HN':Hid (∀j,j<k+1→∀y,(nms l)[j]? =some y→y≠nm):=step_upto (P:=fun y=>y≠nm) HN.out HX.out (cB_not.1 HP.out)
   go_wp2_with fail
   refine Calls.mono HC.out ?_
   rintro e w2 ⟨rfl,hb2⟩
   have hB2:=hB.trans (hb2.mono hsB)
   clear d0 d1 d2 d3 d4
   go_wp2_with fail
   go_roundw
   case rel=>exact ⟨k+1,by omega,by go_num,hB2,HN'⟩
   case measure=>first|(simp[intOf];omega)|simp[intOf]
  ·have HE:Hid (idxOf (nms l) nm=k):=idx_at (fun j hj y hy=>HN.out j hj y hy) (by rw[HX.out,cB_iff.1 HP.out])
   go_wp2_with fail
   refine Calls.mono HC.out ?_
   rintro e w2 ⟨rfl,hb2⟩
   have hB2:=hB.trans (hb2.mono hsB)
   clear d0 d1 d2 d3 d4
   go_wp2_with fail
   go_ret
   exact ⟨by rw[HE.out];rfl,hB2⟩
end Go.Proofs.YtdkgkacnjdnpoaaGreat
