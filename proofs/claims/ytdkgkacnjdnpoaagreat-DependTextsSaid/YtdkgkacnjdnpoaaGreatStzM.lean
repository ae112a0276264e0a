/-
  The contracts of the parser's locals, where there are none, and left, of one name. The contract of the parser's group: names, a type, no conditions. The contracts of the parser's ports and equation. A map from names to whole numbers that are told by one function; the operations on it (StzM's, of any numbers). A map from names to numbers that are told by one function; the operations on it.
-/
import Derived.Test.YtdkgkacnjdnpoaaGreatZz
import Derived.Test.YtdkgkacnjdnpoaaGreatPrsH
import Derived.Test.YtdkgkacnjdnpoaaGreatStzP
import Derived.Maps.OwnSet
set_option maxHeartbeats 1000000
set_option maxRecDepth 100000
namespace Go.Proofs.YtdkgkacnjdnpoaaGreat
open Go.RowKit _root_.Go.Proofs.YtdkgkacnjdnpoaaGreat.Nm
attribute [local go_sem] field_tk0 field_tk1 field_tk3
theorem locals_any {P:Pr} {o i:Nat} {u:Unit} {w:World} (h:PrAt w o P i) (hx:pnot P.l [118,97,114] i=some u):
  Calls Tryz.prog 87 #[.pointer (some ⟨o,0,none⟩)] w fun r w'=>r= .returned (.slice none 0 0)∧PrL w o P i w':=by
 obtain ⟨t,ht,hs⟩:=pnot_is hx
 have HT:=Lib.hid (take_no h ht ⟨#[118,97,114]⟩ hs)
 clear h
 go_enter Tryz.func87,Tryz.ntmps87
 refine' zq144
 go_wp2_with fail
 go_ret
 exact ⟨rfl,h2⟩
theorem sl_hide {α:Type} {rel:α→List Value→Prop} {W:World} {lo g size:Nat} {l:List α} {css:List (List Value)} {t:TypeId} (hr:Row W g css.flatten.toArray t) (hg:lo≤g) (hx:Are rel l css) (hs:∀cs∈css,cs.length=size) (hl:l.length≤1000):SlV (hide lo W) W.heap.size size rel (.slice (some ⟨g,0,none⟩) l.length l.length) l:=by
 refine ⟨_,_,rfl,Nat.le_refl _,by unfold maxLen;omega,fun _=>⟨g,0,rfl,hr.lt,fun i x hi'=>?_⟩⟩
 have hil:i<css.length:=by rw[hx.1];exact (List.getElem?_eq_some_iff.1 hi').1
 refine ⟨css[i],fun j u hu=>?_,hx.2 i x _ hi' (List.getElem?_eq_getElem hil)⟩
 have hj:j<size:=by rw[←hs css[i] (List.getElem_mem hil)];exact (List.getElem?_eq_some_iff.1 hu).1
 rw[World.cell?_of_block (show (hide lo W).heap[(⟨g,0+i*size+j,none⟩:Addr).block]? =W.heap[g]? from hide_block hg),hr.cell,List.getElem?_toArray,Nat.zero_add,flatten_get hs (List.getElem?_eq_getElem hil) hj]
 exact hu
theorem pleft_any {P:Pr} {o i:Nat} {x:Tok × Nat} {w:World} (h:PrAt w o P i) (hx:pname P.l i=some x):
  Calls Tryz.prog 135 #[.pointer (some ⟨o,0,none⟩)] w fun r w'=>(∃v,r= .returned v∧SlV (hide w.heap.size w') w'.heap.size 1 isStr v [x.1.text])∧PrL w o P x.2 w':=by
 obtain ⟨ht,hk,-⟩:=pname_is hx
 have htk:=(h.tok ht).choose_spec.choose_spec.2.2.1
 have HT:=Lib.hid (take_no h ht ⟨#[40]⟩ (isS_name hk _))
 clear h hk
 go_enter Tryz.func135,Tryz.ntmps135
 refine' zq144
 have HN:Hid (Calls Tryz.prog 85 #[.pointer (some ⟨o,0,none⟩),.int .i64 0,.int .i64 1] w2 fun r w'=>r= .returned (tokV x.1)∧PrL w2 o P x.2 w'):=pname_any h2.1 0 1 (by omega) hx
 go_wp2_with fail
 refine HN.out.mono ?_
 rintro r w3 ⟨rfl,h3⟩
 have hs2:=h2.2.size
 have hs3:=h3.2.size
 have b4:Below w3.heap.size w3 (w3.alloc (.cells #[.string x.1.text] 9)):=bE
 have HR:=Lib.hid (Row.new w3 #[.string x.1.text] 9)
 have HF:=Lib.hid ((h2.trans h3).bel b4)
 go_wp2_with fail
 go_ret
 exact ⟨⟨_,rfl,sl_hide (css:=[[.string x.1.text]]) HR.out (by omega) (Are.one ⟨rfl,Nat.le_trans htk.text (by unfold maxLen;omega)⟩) (by simp) (by simp)⟩,HF.out⟩
theorem own_put {w:World} {base n size g cap j:Nat} {e:TypeId} {xs:List Value} (h:w.ownsRow base e size (.slice (some ⟨g,0,none⟩) n cap) n xs) (u:Value):(w.setCell ⟨g,j,none⟩ u).ownsRow base e size (.slice (some ⟨g,0,none⟩) n cap) n (xs.set j u):=by
 refine ⟨by rw[List.length_set];exact h.1,?_⟩
 rcases h.2 with ⟨h0,_⟩|⟨g',cap',cur,h1,h2,h3,h4,h5,h6,h7⟩
 ·cases h0
 ·cases h1
  refine .inr ⟨g,cap,cur.setIfInBounds j u,rfl,h2,Row.set h3 j u,h4,h5,by simpa using h6,?_⟩
  rw[←h7]
  simp[List.take_set]
theorem own_at {w:World} {base n size g cap j:Nat} {e:TypeId} {xs:List Value} (h:w.ownsRow base e size (.slice (some ⟨g,0,none⟩) n cap) n xs) (hj:j<n*size):(∃u,w.cell? ⟨g,j,none⟩=some u∧xs[j]? =some u)∧w.frozen? ⟨g,j,none⟩=false:=by
 rcases h.2 with ⟨h0,_⟩|⟨g',cap',cur,h1,h2,h3,h4,h5,h6,h7⟩
 ·cases h0
 ·cases h1
  have hl:j<xs.length:=by rw[h.1];exact hj
  refine ⟨⟨xs[j],?_,List.getElem?_eq_getElem hl⟩,Row.frozen h3 j⟩
  rw[Row.cell h3 j,←List.getElem?_eq_getElem hl,←h7,List.getElem?_take_of_lt hj]
  simp
theorem own_slx {α:Type} {rel:α→List Value→Prop} {w:World} {base lo n size:Nat} {v:Value} {e:TypeId} {l:List α} {xs:List Value} (h:w.ownsRow base e size v n xs) (hl:lo≤base) (hn:n=l.length) (hr:∀i x,l[i]? =some x→∃cs:List Value,cs.length=size∧(∀j,j<size→cs[j]? =xs[i*size+j]?)∧rel x cs):SlV (hide lo w) w.heap.size size rel v l:=by
 subst hn
 rcases h.2 with ⟨rfl,h0⟩|⟨g,cap,cur,rfl,h2,h3,h4,h5,h6,h7⟩
 ·rw[List.eq_nil_of_length_eq_zero h0];exact SlV.nil
 ·refine ⟨_,_,rfl,h4,h5,fun _=>⟨g,0,rfl,Row.lt h3,fun i x hx=>?_⟩⟩
  obtain ⟨cs,c1,c2,c3⟩:=hr i x hx
  refine ⟨cs,fun j u hu=>?_,c3⟩
  have hj:j<size:=by rw[←c1];exact (List.getElem?_eq_some_iff.1 hu).1
  have hi:i<l.length:=(List.getElem?_eq_some_iff.1 hx).1
  have hlt:i*size+j<l.length*size:=by
   have:(i+1)*size≤l.length*size:=Nat.mul_le_mul_right _ hi
   rw[Nat.add_mul] at this;omega
  rw[c2 j hj,←h7,List.getElem?_take_of_lt hlt] at hu
  rw[World.cell?_of_block (show (hide lo w).heap[(⟨g,0+i*size+j,none⟩:Addr).block]? =w.heap[g]? from hide_block (Nat.le_trans hl h2)),Row.cell h3,Nat.zero_add]
  simpa using hu
def vrC (t:Tok):List Value:=[.string t.text,.int .i64 0,.slice none 0 0,.int .i64 t.line,.int .i64 t.col]
def vrsC (l:List Tok):List Value:=(l.map vrC).flatten
theorem vrsC_snoc (l:List Tok) (t:Tok):vrsC (l++ [t])=vrsC l++vrC t:=by simp[vrsC]
theorem vrC_one (t:Tok):∀u∈vrC t,u.oneCell'=true:=by
 intro u hu
 simp only[vrC,List.mem_cons,List.not_mem_nil,or_false] at hu
 rcases hu with rfl|rfl|rfl|rfl|rfl<;>rfl
theorem info_vr:(Tryz.prog.info? 103).map (fun i=>(i.zero,i.size,i.bytes))=some (some (.agg #[.string ⟨#[]⟩,.int .i64 0,.slice none 0 0,.int .i64 0,.int .i64 0]),5,64):=by kernel_rfl
theorem pnames_is {P:List Tok} {k i:Nat} {l:List Tok} {x:List Tok × Nat} (h:pnames P k i l=some x):∃k' y u,k=k'+1∧pname P i=some y∧l.length<8∧P[y.2]? =some u∧
  ((isS u [44]=true∧pnames P k' (y.2+1) (l++ [y.1])=some x)∨(isS u [44]=false∧x=(l++ [y.1],y.2))):=by
 cases k with
 |zero=>cases h
 |succ k=>
  obtain ⟨y,h1,h⟩:=Option.bind_eq_some_iff.1 h
  cases hd:decide (l.length<8) with
  |false=>rw[hd] at h;cases h
  |true=>
   rw[hd,cond_true] at h
   obtain ⟨u,h2,h⟩:=Option.bind_eq_some_iff.1 h
   refine ⟨k,y,u,rfl,h1,of_decide_eq_true hd,h2,?_⟩
   cases hs:isS u [44] with
   |true=>rw[hs,cond_true] at h;exact .inl ⟨rfl,h⟩
   |false=>rw[hs,cond_false] at h;cases h;exact .inr ⟨rfl,rfl⟩
structure GrI (w:World) (o:Nat) (P:Pr) (x:List Tok × Nat) (v:Value) (l:List Tok) (j k:Nat) (wr:World):Prop where
 pn:pnames P.l k j l=some x
 pa:PrL w o P j wr
 own:wr.ownsRow w.heap.size 103 5 v l.length (vrsC l)
 ok:∀t∈l,TokOk t
structure Gr2 (w:World) (o:Nat) (P:Pr) (T:List Tok) (g c:Nat) (kd:Int) (j k:Nat) (xs:List Value) (wr:World):Prop where
 pa:PrL w o P j wr
 own:wr.ownsRow w.heap.size 103 5 (.slice (some ⟨g,0,none⟩) T.length c) T.length xs
 base:∀i t,T[i]? =some t→xs[i*5]? =some (.string t.text)∧xs[i*5+3]? =some (.int .i64 t.line)∧xs[i*5+4]? =some (.int .i64 t.col)
 done:∀i,i<k→xs[i*5+1]? =some (.int .i64 kd)∧∃b,xs[i*5+2]? =some (.slice (some ⟨b,0,none⟩) 0 0)
theorem vrsC_at {T:List Tok} {i:Nat} {t:Tok} (h:T[i]? =some t) {j:Nat} (hj:j<5):(vrsC T)[i*5+j]? =(vrC t)[j]? :=by
 unfold vrsC
 refine flatten_get (fun cs hcs=>?_) (by rw[List.getElem?_map,h];rfl) hj
 obtain ⟨x,_,rfl⟩:=List.mem_map.1 hcs
 rfl
theorem gr2_done {w:World} {o g c j:Nat} {P:Pr} {T:List Tok} {kd:Int} {xs:List Value} {wr:World} (h:Gr2 w o P T g c kd j T.length xs wr) (hk:Wf kd) (ht:∀t∈T,TokOk t):
  SlV (hide w.heap.size wr) wr.heap.size 5 (isVr (hide w.heap.size wr) wr.heap.size) (.slice (some ⟨g,0,none⟩) T.length c) (T.map (varT kd)):=by
 refine own_slx h.own (Nat.le_refl _) (by simp) (fun i x hx=>?_)
 rw[List.getElem?_map] at hx
 obtain ⟨t,ht',rfl⟩:=Option.map_eq_some_iff.1 hx
 have hi:=(List.getElem?_eq_some_iff.1 ht').1
 obtain ⟨b0,b3,b4⟩:=h.base i t ht'
 obtain ⟨d1,b,d2⟩:=h.done i hi
 have tk:=ht t (List.mem_of_getElem? ht')
 refine ⟨[.string t.text,.int .i64 kd,.slice (some ⟨b,0,none⟩) 0 0,.int .i64 t.line,.int .i64 t.col],rfl,fun j hj=>?_,?_⟩
 ·match j,hj with
  |0,_=>exact b0.symm
  |1,_=>exact d1.symm
  |2,_=>exact d2.symm
  |3,_=>exact b3.symm
  |4,_=>exact b4.symm
 ·refine ⟨_,0,rfl,⟨Nat.le_trans tk.text (by unfold maxLen;omega),hk,?_,?_⟩,Nat.le_refl _,Nat.zero_le _,fun hn=>absurd hn (by simp[varT])⟩
  ·exact wf_of ⟨by have:=tk.line;show _≤t.line;omega,by have:=tk.line;show t.line≤_;omega⟩
  ·exact wf_of ⟨by have:=tk.col;show _≤t.col;omega,by have:=tk.col;show t.col≤_;omega⟩
theorem info_lt:(Tryz.prog.info? 105).map (fun i=>(i.zero,i.size,i.bytes))=some (some (.agg #[.string ⟨#[]⟩,.bool false]),2,24):=by kernel_rfl
theorem pgroup_is {P:List Tok} {i:Nat} {x:List Vr × Nat} (h:pgroup P i=some x):∃ts j1 j2 k,pnames P 8 i []=some (ts,j1)∧pwant P [58] j1=some j2∧pkind P j2=some (k,x.2)∧pnot P [119,104,101,110] x.2=some ()∧x.1=ts.map (varT k):=by
 obtain ⟨a,h1,h⟩:=Option.bind_eq_some_iff.1 h
 obtain ⟨b,h2,h⟩:=Option.bind_eq_some_iff.1 h
 obtain ⟨c,h3,h⟩:=Option.bind_eq_some_iff.1 h
 obtain ⟨_,h4,h⟩:=Option.bind_eq_some_iff.1 h
 cases h
 exact ⟨a.1,a.2,b,c.1,h1,h2,h3,h4,rfl⟩
theorem group_any {P:Pr} {o i:Nat} {x:List Vr × Nat} {w:World} (h:PrAt w o P i) (hx:pgroup P.l i=some x):
  Calls Tryz.prog 134 #[.pointer (some ⟨o,0,none⟩),.slice none 0 0,.int .i64 8] w fun r w'=>(∃v,r= .returned v∧SlV (hide w.heap.size w') w'.heap.size 5 (isVr (hide w.heap.size w') w'.heap.size) v x.1)∧PrL w o P x.2 w':=by
 obtain ⟨ts,j1,j2,kd,hp1,hp2,hp3,hp4,hx1⟩:=pgroup_is hx
 obtain ⟨i0,hi0,hz0,hz1,hz2⟩:=info_parts info_vr
 obtain ⟨l0,hl0,hv0,hv1,hv2⟩:=info_parts info_lt
 have hol:=h.lt
 have HG0:Hid (GrI w o P (ts,j1) (.slice none 0 0) [] i 8 w):=⟨hp1,⟨h,Upd.refl _ _⟩,World.ownsRow_nil _ _ _ _,fun t ht=>absurd ht List.not_mem_nil⟩
 have HP2:=Lib.hid hp2
 have HP3:=Lib.hid hp3
 have HP4:=Lib.hid hp4
 have HX1:=Lib.hid hx1
 clear h hx hp1 hp2 hp3 hp4 hx1
 go_enter Tryz.func134,Tryz.ntmps134
 go_wp2_with fail
 go_loopg [1] 8 (fun q v wr=>∃l j,Hid (GrI w o P (ts,j1) v l j q wr))
 case atStart=>exact ⟨_,_,HG0⟩
 case round=>
  obtain ⟨l,j,H⟩:=hrel
  obtain ⟨k',y,u,rfl,hy,hl8,hu,hcase⟩:=pnames_is H.out.pn
  obtain ⟨A0,c0,hv,-⟩:=own_rd H.out.own
  subst hv
  have hsw:=H.out.pa.2.size
  have HN:Hid (Calls Tryz.prog 85 #[.pointer (some ⟨o,0,none⟩),.int .i64 l.length,.int .i64 8] wr fun r w'=>r= .returned (tokV y.1)∧PrL wr o P y.2 w'):=pname_any H.out.pa.1 l.length 8 hl8 hy
  have htk:=(H.out.pa.1.tok (pname_is hy).1).choose_spec.choose_spec.2.2.1
  go_wp2_with fail
  refine HN.out.mono ?_
  rintro r w2 ⟨rfl,h2⟩
  have hs2:=h2.2.size
  have b3:Below w2.heap.size w2 (w2.alloc (.cells (tokA y.1) 134)):=bE
  have rT:=Row.new w2 (tokA y.1) 134
  have H3:=Lib.hid ((H.out.pa.trans h2).bel b3)
  have HO3:=Lib.hid (own_below (own_updX H.out.own h2.2 (fun k e=>by omega)) b3)
  have HB:=Lib.hid (pbad_any H3.out.1)
  have hs3:=b3.size
  go_upto_region 3 with (fail)
  change Code.wp _ _ _ _ (w2.alloc (.cells (tokA y.1) 134))
  generalize w2.alloc (.cells (tokA y.1) 134)=W3 at*
  obtain ⟨⟨y0,y1,y2,y3,y4⟩,-⟩:=rT.tk5
  go_wp2_with (first|((go_at_call 49);(refine HB.out.mono ?_);(rintro r w4 ⟨rfl,rfl⟩))|(at_builtin;refine wpList_append_own _ rfl _ _ 55 rfl w.heap.size 103 i0 (.agg #[.string ⟨#[]⟩,.int .i64 0,.slice none 0 0,.int .i64 0,.int .i64 0]) 5 64 Tryz.underlying55 hi0 hz0 hz1 hz2 rfl (by decide) _ _ _ rfl (HO3.out.alloc _) ⟨_,0,none⟩ 1 1 (vrC y.1) rfl rfl (cells_new5 _ _ (vrC y.1)) (vrC_one _) (by unfold maxLen;omega) (by omega) (by simp;omega) ?_))
  intro v' w5 hown hg _
  have hO:=HO3.out.alloc (.cells #[.string y.1.text,.int .i64 0,.slice none 0 0,.int .i64 y.1.line,.int .i64 y.1.col] 103)
  have hL5:Hid (PrL w o P y.2 w5):=HG0.out.pa.1.fin (Row.ownB (H3.out.1.row.alloc (.cells #[.string y.1.text,.int .i64 0,.slice none 0 0,.int .i64 y.1.line,.int .i64 y.1.col] 103)) hO hol hg) (Upd.ownB (H3.out.2.alloc (.cells #[.string y.1.text,.int .i64 0,.slice none 0 0,.int .i64 y.1.line,.int .i64 y.1.col] 103)) hO hg)
  have HO5:Hid (w5.ownsRow w.heap.size 103 5 v' (l++ [y.1]).length (vrsC (l++ [y.1]))):=by
   show World.ownsRow _ _ _ _ _ _ _
   rw[vrsC_snoc];simpa using hown
  have HOK:Hid (∀t∈l++ [y.1],TokOk t):=fun t ht=>by
   rcases List.mem_append.1 ht with ht|ht
   ·exact H.out.ok t ht
   ·rw[List.mem_singleton.1 ht];exact htk
  clear hown hg hO
  rcases hcase with ⟨hs,hn⟩|⟨hs,hn⟩
  ·have HT:=Lib.hid (take_yes hL5.out.1 hu ⟨#[44]⟩ hs)
   have HPN:=Lib.hid hn
   clear hn
   go_wp2_with fail
   refine HT.out.mono ?_
   rintro r w6 ⟨rfl,h6⟩
   have HN6:Hid (GrI w o P (ts,j1) v' (l++ [y.1]) (y.2+1) k' w6):=⟨HPN.out,hL5.out.trans h6,own_updX HO5.out h6.2 (fun k e=>by omega),HOK.out⟩
   go_wp2_with fail
   go_roundg k'
   case measure=>omega
   case rel=>exact ⟨_,_,HN6⟩
  ·have HT:=Lib.hid (take_no hL5.out.1 hu ⟨#[44]⟩ hs)
   cases hn
   go_wp2_with fail
   refine HT.out.mono ?_
   rintro r w6 ⟨rfl,h6⟩
   have HL6:=Lib.hid (hL5.out.trans h6)
   have HO6:=Lib.hid (own_updX HO5.out h6.2 (fun k e=>by omega))
   have HW:=Lib.hid (want_any HL6.out.1 ⟨#[58]⟩ HP2.out)
   clear HT HB HN h6 h2
   go_wp2_with fail
   refine HW.out.mono ?_
   rintro r w7 ⟨rfl,h7⟩
   have HK:=Lib.hid (pkind_any h7.1 HP3.out)
   go_wp2_with fail
   refine HK.out.mono ?_
   rintro r w8 ⟨rfl,h8⟩
   have HC:=Lib.hid (pclock_any h8.1 HP4.out)
   go_wp2_with fail
   refine HC.out.mono ?_
   rintro r w9 ⟨rfl,hb9⟩
   have HL9:=Lib.hid (((HL6.out.trans h7).trans h8).bel hb9)
   have HO9:=Lib.hid (own_below (own_updX (own_updX HO6.out h7.2 (fun k e=>by omega)) h8.2 (fun k e=>by omega)) hb9)
   have hkd:Hid (Wf kd):=by
    obtain ⟨_,_,_,⟨_,rfl⟩|⟨_,_,rfl⟩⟩:=pkind_is HP3.out<;>exact wf_of ⟨by decide,by decide⟩
   have hTl:(l++ [y.1]).length≤8:=by simp;omega
   have hTp:0<(l++ [y.1]).length:=by simp
   generalize l++ [y.1]=T at*
   obtain ⟨g,c,hv⟩:=own_some HO9.out hTp
   subst hv
   have hgl:=(HO9.out.lt g rfl)
   have HG2:Hid (Gr2 w o P T g c kd x.2 0 (vrsC T) w9):=⟨HL9.out,HO9.out,fun i t ht=>by
    refine ⟨?_,?_,?_⟩
    ·have:=vrsC_at ht (j:=0) (by omega);rw[Nat.add_zero] at this;rw[this];rfl
    ·rw[vrsC_at ht (by omega)];rfl
    ·rw[vrsC_at ht (by omega)];rfl,fun i hi=>absurd hi (Nat.not_lt_zero _)⟩
   have hs9w:=HL9.out.2.size
   clear HK HC HW h7 h8 hb9 HL6 HO6 hL5 HO5 H3 HO3 HL9 HO9
   go_wp2_with fail
   go_loopw[11] (fun v wr=>∃k xs,k≤T.length∧v= .int .i64 ((k:Nat):Int)∧Hid (Gr2 w o P T g c kd x.2 k xs wr)) (fun i _=>T.length-(intOf i).toNat)
   case atStart=>exact ⟨0,_,Nat.zero_le _,rfl,HG2⟩
   case round=>
    obtain ⟨k,xs,hk,rfl,HR⟩:=hrel
    have hsr:=HR.out.pa.2.size
    by_cases hlt:k<T.length
    ·have bA:Below wr.heap.size wr (wr.alloc (.cells #[] 105)):=bE
     have HOA:=Lib.hid (own_below HR.out.own bA)
     have HEM:=Lib.hid (own_empty wr 105 2)
     have h51:k*5+1<T.length*5:=by omega
     have h52:k*5+2<T.length*5:=by omega
     obtain ⟨⟨u1,c1,-⟩,z1⟩:=own_at HOA.out h51
     obtain ⟨⟨u2,c2,-⟩,z2⟩:=own_at HOA.out h52
     clear bA
     go_wp2_with (at_builtin;refine wpList_append_own_none rfl _ _ 101 rfl wr.heap.size 105 l0 2 Tryz.underlying101 hl0 _ 0 [] rfl HEM.out rfl ?_)
     have HN2:Hid (Gr2 w o P T g c kd x.2 (k+1) ((xs.set (k*5+1) (.int .i64 kd)).set (k*5+2) (.slice (some ⟨wr.heap.size,0,none⟩) 0 0)) (((wr.alloc (.cells #[] 105)).setCell ⟨g,k*5+1,none⟩ (.int .i64 kd)).setCell ⟨g,k*5+2,none⟩ (.slice (some ⟨wr.heap.size,0,none⟩) 0 0))):=by
      have ug:Upd (fun x=>x=g) wr (((wr.alloc (.cells #[] 105)).setCell ⟨g,k*5+1,none⟩ (.int .i64 kd)).setCell ⟨g,k*5+2,none⟩ (.slice (some ⟨wr.heap.size,0,none⟩) 0 0)):=((((Upd.refl (fun x=>x=g) wr).alloc _).setCell (p:=⟨g,k*5+1,none⟩) rfl _).setCell (p:=⟨g,k*5+2,none⟩) rfl _)
      have hxl:xs.length=T.length*5:=HR.out.own.1
      refine ⟨HG0.out.pa.1.fin (ug.row HR.out.pa.1.row (by omega)) (Upd.narrow (Y:=fun x=>x=o∨x=g) ((HR.out.pa.2.mono (fun k e=>Or.inl e)).trans (ug.mono (fun k e=>Or.inr e))) (fun k hk e=>by omega)),own_put (own_put HOA.out _) _,fun i t ht=>?_,fun i hi=>?_⟩
      ·obtain ⟨a0,a3,a4⟩:=HR.out.base i t ht
       refine ⟨?_,?_,?_⟩
       ·rw[List.getElem?_set_ne (by omega),List.getElem?_set_ne (by omega)];exact a0
       ·rw[List.getElem?_set_ne (by omega),List.getElem?_set_ne (by omega)];exact a3
       ·rw[List.getElem?_set_ne (by omega),List.getElem?_set_ne (by omega)];exact a4
      ·by_cases hik:i=k
       ·subst hik
        refine ⟨?_,wr.heap.size,?_⟩
        ·rw[List.getElem?_set_ne (by omega),List.getElem?_set_self (by omega)]
        ·rw[List.getElem?_set_self (by rw[List.length_set];omega)]
       ·obtain ⟨d1,b,d2⟩:=HR.out.done i (by omega)
        refine ⟨?_,b,?_⟩
        ·rw[List.getElem?_set_ne (by omega),List.getElem?_set_ne (by omega)];exact d1
        ·rw[List.getElem?_set_ne (by omega),List.getElem?_set_ne (by omega)];exact d2
     go_roundw
     case rel=>exact ⟨k+1,_,by omega,by go_num,HN2⟩
     case measure=>simp[intOf];omega
    ·obtain rfl:k=T.length:=by omega
     have HSL:=Lib.hid (gr2_done HR.out hkd.out HOK.out)
     go_wp2_with fail
     go_ret
     exact ⟨⟨_,rfl,by rw[HX1.out];exact HSL.out⟩,HR.out.pa⟩
abbrev VrH (w:World) (lo hi:Nat) (v:Value) (l:List Vr):Prop:=SlV (hide lo w) hi 5 (isVr (hide lo w) hi) v l
theorem VrH.upd {X:Nat→Prop} {w w':World} {lo hi:Nat} {v:Value} {l:List Vr} (h:VrH w lo hi v l) (hu:Upd X w w') (hX:∀k,X k→k<lo∨hi≤k) (hh:hi≤w.heap.size):VrH w' lo hi v l:=
 SlV.keep h (keeps_of (hu.bhide hX hh)) (Nat.le_refl _) (fun _ _ _ h=>isVr_keep (keeps_of (hu.bhide hX hh)) (Nat.le_refl _) h)
theorem VrH.wide {w:World} {lo lo' hi hi':Nat} {v:Value} {l:List Vr} (h:VrH w lo hi v l) (hl:lo'≤lo) (hh:hi≤hi'):VrH w lo' hi' v l:=
 SlV.keep h (hide_more hl hi w) hh (fun _ _ _ h=>isVr_keep (hide_more hl hi w) hh h)
theorem pports_is {P:List Tok} {i:Nat} {x:List Vr × Nat} (h:pports P i=some x):∃i1 y,pwant P [40] i=some i1∧pgroup P i1=some y∧pnot P [59] y.2=some ()∧pwant P [41] y.2=some x.2∧x.1=y.1:=by
 obtain ⟨i1,h1,h⟩:=Option.bind_eq_some_iff.1 h
 obtain ⟨y,h2,h⟩:=Option.bind_eq_some_iff.1 h
 obtain ⟨_,h3,h⟩:=Option.bind_eq_some_iff.1 h
 obtain ⟨i3,h4,h⟩:=Option.bind_eq_some_iff.1 h
 cases h
 exact ⟨i1,y,h1,h2,h3,h4,rfl⟩
theorem ports_any {P:Pr} {o i:Nat} {x:List Vr × Nat} {w:World} (h:PrAt w o P i) (hx:pports P.l i=some x):
  Calls Tryz.prog 86 #[.pointer (some ⟨o,0,none⟩)] w fun r w'=>(∃v,r= .returned v∧VrH w' w.heap.size w'.heap.size v x.1)∧PrL w o P x.2 w':=by
 obtain ⟨i1,y,h1,h2,h3,h4,hx1⟩:=pports_is hx
 have hol:=h.lt
 have HW:=Lib.hid (want_any h ⟨#[40]⟩ h1)
 have HX1:=Lib.hid hx1
 have HG:=Lib.hid h2
 have HN:=Lib.hid h3
 have HW2:=Lib.hid h4
 clear h hx hx1 h1 h2 h3 h4
 go_enter Tryz.func86,Tryz.ntmps86
 go_wp2_with fail
 refine HW.out.mono ?_
 rintro r w2 ⟨rfl,q2⟩
 have hs2:=q2.2.size
 go_wp2_with fail
 go_loopw[3] (fun v wr=>v= .slice none 0 0∧wr=w2) (fun _ _=>0)
 case atStart=>exact ⟨rfl,rfl⟩
 case round=>
  obtain ⟨rfl,rfl⟩:=hrel
  have HC:=Lib.hid (group_any q2.1 HG.out)
  go_wp2_with fail
  refine HC.out.mono ?_
  rintro r w3 ⟨⟨v,rfl,hv⟩,q3⟩
  have hs3:=q3.2.size
  obtain ⟨t,ht,hn⟩:=pnot_is HN.out
  have HT:=Lib.hid (take_no q3.1 ht ⟨#[59]⟩ hn)
  have HV:=Lib.hid hv
  clear hv
  go_wp2_with fail
  refine HT.out.mono ?_
  rintro r w4 ⟨rfl,q4⟩
  have hs4:=q4.2.size
  have HW3:=Lib.hid (want_any q4.1 ⟨#[41]⟩ HW2.out)
  go_wp2_with fail
  refine HW3.out.mono ?_
  rintro r w5 ⟨rfl,q5⟩
  have hs5:=q5.2.size
  have HV5:Hid (VrH w5 w.heap.size w5.heap.size v x.1):=by
   show VrH _ _ _ _ _
   rw[HX1.out]
   exact (VrH.upd HV.out (q4.2.trans q5.2) (fun k e=>by omega) (Nat.le_refl _)).wide (by omega) (by omega)
  go_wp2_with fail
  go_ret
  exact ⟨⟨_,rfl,HV5.out⟩,((q2.trans q3).trans q4).trans q5⟩
theorem peqn_is {P:List Tok} {n i:Nat} {x:Eqn × Nat} (h:peqn P n i=some x):∃a j y,pname P i=some a∧n≠48∧pwant P [61] a.2=some j∧pexpr P 40 0 1 j=some y∧pwant P [59] y.2.2=some x.2∧x.1=⟨[a.1.text],y.1,a.1.line,a.1.col⟩:=by
 obtain ⟨a,h1,h⟩:=Option.bind_eq_some_iff.1 h
 cases hn:n==48 with
 |true=>rw[hn] at h;cases h
 |false=>
  rw[hn,cond_false] at h
  obtain ⟨j,h2,h⟩:=Option.bind_eq_some_iff.1 h
  obtain ⟨y,h3,h⟩:=Option.bind_eq_some_iff.1 h
  obtain ⟨k,h4,h⟩:=Option.bind_eq_some_iff.1 h
  cases h
  exact ⟨a,j,y,h1,beq_eq_false_iff_ne.1 hn,h2,h3,h4,rfl⟩
open Go.RowKit Go.Shelf
def MapI (F:ByteArray→Int) (w:World) (b:Nat) (l:List ByteArray):Prop:=
 l.Nodup∧∃D:DataW Unit,w.ownsMap Tryz.prog 9 (plainElem Tryz.prog 3) b l.length D∧Maps.size D=l.length∧∀nm:ByteArray,Maps.has D (keyN nm)=cB (nm∈l)∧(nm∈l→D.atKey (keyN nm) (.lit (.int .i64 0))= .lit (.int .i64 (F nm)))
section
variable {F:ByteArray→Int} {w w':World} {b:Nat} {l:List ByteArray}
theorem MapI.lt (h:MapI F w b l):b<w.heap.size:=by
 obtain ⟨_,D,h1,_⟩:=h
 exact h1.lt
theorem MapI.keep (h:MapI F w b l) (hk:w'.heap[b]? =w.heap[b]?):MapI F w' b l:=by
 refine' zq173
theorem MapI.below {B:Nat} (h:MapI F w b l) (hb:Below B w w') (hB:b<B):MapI F w' b l:=h.keep (hb.block b hB)
theorem MapI.upd {X:Nat→Prop} (h:MapI F w b l) (hu:Upd X w w') (hX:¬X b):MapI F w' b l:=h.keep (hu.block b h.lt hX)
theorem MapI.alloc (h:MapI F w b l) (o:Obj):MapI F (w.alloc o) b l:=h.below ((Below.refl _ _).alloc (Nat.le_refl _) _) h.lt
theorem mapi_made (F:ByteArray→Int) (w:World):MapI F (w.alloc (.map #[] 0)) w.heap.size []:=
 ⟨List.nodup_nil,.map [],World.ownsMap_made w _ _ _,rfl,fun nm=>⟨(cB_false (by simp)).symm,fun h=>absurd h (by simp)⟩⟩
theorem MapI.look (h:MapI F w b l) {nm:ByteArray} (hs:nm.size≤maxLen) (g:nm∈l):(Instr.lookup 85 (.map (some b)) (.string nm) false).run Tryz.prog w= .ok (.int .i64 (F nm)) w:=by
 refine' zq79
 rw[(h3 nm).2 g] at ha
 refine' zq103
theorem MapI.put (h:MapI F w b l) {nm:ByteArray} (hs:nm.size≤maxLen) (hn:l.length<1000000) (hF:Wf (F nm)):∃w',(Instr.mapUpdate 85 (.map (some b)) (.string nm) (.int .i64 (F nm))).run Tryz.prog w= .ok () w'∧MapI F w' b (putN l nm)∧w.grownBy w' (some b):=by
 obtain ⟨h0,D,h1,h2,h3⟩:=h
 have ht:=mets_tidy h1
 obtain ⟨w',hr,ho,hg⟩:=h1.update (Maps.string_keyed Tryz.underlying9) Tryz.underlying85 (by unfold maxLen;omega) (keyN_of hs) (plainElem_int (a:=F nm) Tryz.underlying3 hF)
 refine' zq117
end
def MapN (F:ByteArray→Nat) (w:World) (b:Nat) (l:List ByteArray):Prop:=
 l.Nodup∧∃D:DataW Unit,w.ownsMap Tryz.prog 9 (plainElem Tryz.prog 3) b l.length D∧Maps.size D=l.length∧∀nm:ByteArray,Maps.has D (keyN nm)=cB (nm∈l)∧(nm∈l→D.atKey (keyN nm) (.lit (.int .i64 0))= .lit (.int .i64 (F nm)))
section
variable {F:ByteArray→Nat} {w w':World} {b:Nat} {l:List ByteArray}
theorem MapN.lt (h:MapN F w b l):b<w.heap.size:=by
 obtain ⟨_,D,h1,_⟩:=h
 exact h1.lt
theorem MapN.keep (h:MapN F w b l) (hk:w'.heap[b]? =w.heap[b]?):MapN F w' b l:=by
 refine' zq173
theorem MapN.below {B:Nat} (h:MapN F w b l) (hb:Below B w w') (hB:b<B):MapN F w' b l:=h.keep (hb.block b hB)
theorem MapN.upd {X:Nat→Prop} (h:MapN F w b l) (hu:Upd X w w') (hX:¬X b):MapN F w' b l:=h.keep (hu.block b h.lt hX)
theorem MapN.alloc (h:MapN F w b l) (o:Obj):MapN F (w.alloc o) b l:=h.below ((Below.refl _ _).alloc (Nat.le_refl _) _) h.lt
theorem MapN.isMap (h:MapN F w b l):∃es clock,w.heap[b]? =some (.map es clock):=by
 obtain ⟨_,D,⟨es,clock,h1,_⟩,_⟩:=h
 exact ⟨es,clock,h1⟩
theorem mapn_made (F:ByteArray→Nat) (w:World):MapN F (w.alloc (.map #[] 0)) w.heap.size []:=
 ⟨List.nodup_nil,.map [],World.ownsMap_made w _ _ _,rfl,fun nm=>⟨(cB_false (by simp)).symm,fun h=>absurd h (by simp)⟩⟩
theorem MapN.lookOk (h:MapN F w b l) {nm:ByteArray} (hs:nm.size≤maxLen):(nm∈l→(Instr.lookup 85 (.map (some b)) (.string nm) true).run Tryz.prog w= .ok (.tuple #[.int .i64 (F nm),.bool true]) w)∧(nm∉l→(Instr.lookup 85 (.map (some b)) (.string nm) true).run Tryz.prog w= .ok (.tuple #[.int .i64 0,.bool false]) w):=by
 obtain ⟨h0,D,h1,h2,h3⟩:=h
 obtain ⟨v,ps,hr,hv⟩:=h1.look_ok (Maps.string_keyed Tryz.underlying9) Tryz.underlying85 (zero_int w) (plainElem_int (a:=0) Tryz.underlying3 (by decide)) (keyN_of hs)
 obtain ⟨c,rfl,hc,hw⟩:=plainElem_int_inv Tryz.underlying3 hv
 have hc':=congrArg Prod.fst hc
 constructor
 ·intro g
  rw[(h3 nm).1,cB_true g] at hr
  have h4:D.atKey (keyN nm) (.lit (.int .i64 0))= .lit (.int .i64 (F nm)):=(h3 nm).2 g
  have h5:=h4.symm.trans hc'
  have h6:=(Lit.int.inj (DataW.lit.inj h5)).2
  rw[←h6] at hr
  exact hr
 ·intro g
  rw[(h3 nm).1,cB_false g] at hr
  have h4:=Maps.atKey_of_not_has ((h3 nm).1.trans (cB_false g)) (z:=DataW.lit (.int .i64 0))
  have h5:=h4.symm.trans hc'
  have h6:=(Lit.int.inj (DataW.lit.inj h5)).2
  rw[←h6] at hr
  exact hr
theorem MapN.look (h:MapN F w b l) {nm:ByteArray} (hs:nm.size≤maxLen) (g:nm∈l):(Instr.lookup 85 (.map (some b)) (.string nm) false).run Tryz.prog w= .ok (.int .i64 (F nm)) w:=by
 refine' zq79
 rw[(h3 nm).2 g] at ha
 refine' zq103
theorem MapN.put (h:MapN F w b l) {nm:ByteArray} (hs:nm.size≤maxLen) (hn:l.length<1000000) (hF:F nm≤401):∃w',(Instr.mapUpdate 85 (.map (some b)) (.string nm) (.int .i64 (F nm))).run Tryz.prog w= .ok () w'∧MapN F w' b (putN l nm)∧w.grownBy w' (some b):=by
 obtain ⟨h0,D,h1,h2,h3⟩:=h
 have ht:=mets_tidy h1
 obtain ⟨w',hr,ho,hg⟩:=h1.update (Maps.string_keyed Tryz.underlying9) Tryz.underlying85 (by unfold maxLen;omega) (keyN_of hs) (plainElem_int (a:=(F nm:Int)) Tryz.underlying3 (wf_of ⟨by omega,by omega⟩))
 refine' zq117
end
end Go.Proofs.YtdkgkacnjdnpoaaGreat
