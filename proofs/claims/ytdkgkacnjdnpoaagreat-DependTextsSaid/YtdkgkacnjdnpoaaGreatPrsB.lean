/-
  The contract of token.Scan: the lexemes of a text that is read well. The parser in memory; the contracts of its small steps: bad, now, is, take, want, name, kind, clock. The contracts of the parser: kind; clock, where no condition comes.
-/
import Derived.Test.YtdkgkacnjdnpoaaGreatZz
import Derived.Test.YtdkgkacnjdnpoaaGreatScnE
import Derived.Test.YtdkgkacnjdnpoaaGreatMet
import Derived.Laws.AppendOwnNone
import Derived.OwnWalk
set_option maxHeartbeats 1000000
set_option maxRecDepth 100000
namespace Go.Proofs.YtdkgkacnjdnpoaaGreat
open Go.RowKit _root_.Go.Proofs.YtdkgkacnjdnpoaaGreat.Nm
theorem Row.ownB {W W':World} {b B n size:Nat} {xs:List Value} {ca:Array Value} {t e:TypeId} {v:Value} (h:Row W b ca t) (ho:W.ownsRow B e size v n xs) (hb:b<B) (hg:W.grownBy W' v.ownBlock):Row W' b ca t:=
 (hg.block b h.lt (fun e=>by have:=(ho.lt b e.symm).1;omega)).trans h
theorem Upd.ownB {X:Nat→Prop} {a w w':World} {n size:Nat} {xs:List Value} {e:TypeId} {v:Value} (h:Upd X a w) (ho:w.ownsRow a.heap.size e size v n xs) (hg:w.grownBy w' v.ownBlock):Upd X a w':=
 ⟨hg.os.trans h.os,hg.tape.trans h.tape,hg.output.trans h.output,Nat.le_trans h.size hg.size,fun k hk hX=>(hg.block k (Nat.lt_of_lt_of_le hk h.size) (fun e=>by have:=(ho.lt k e.symm).1;omega)).trans (h.block k hk hX)⟩
theorem own_updX {X:Nat→Prop} {w w':World} {base:Nat} {e:TypeId} {v:Value} {n size:Nat} {xs:List Value} (h:w.ownsRow base e size v n xs) (hu:Upd X w w') (hX:∀k,X k→k<base):w'.ownsRow base e size v n xs:=by
 refine ⟨h.1,?_⟩
 have hlt:=h.lt
 rcases h.2 with h0|⟨g,c,cur,h1,h2,h3,h4⟩
 ·exact .inl h0
 ·have hg:=hlt g (by rw[h1];rfl)
  exact .inr ⟨g,c,cur,h1,h2,(hu.block g hg.2 (fun hx=>by have:=hX g hx;omega)).trans h3,h4⟩
def tokC (t:Tok):List Value:=[.int .i64 t.kind,.string t.text,.int .i64 t.n,.int .i64 t.line,.int .i64 t.col]
def toksC (l:List Tok):List Value:=(l.map tokC).flatten
def TkOk (x:Tok):Prop:=x.text.size≤5000∧Wf x.n∧(0≤x.kind∧x.kind≤5)∧(0≤x.line∧x.line≤5000)∧0≤x.col∧x.col≤5000
theorem toks_are {l:List Tok} (h:∀x∈l,TkOk x):Are isTok l (l.map tokC):=by
 refine ⟨by simp,fun i x cs hx hc=>?_⟩
 rw[List.getElem?_map,hx] at hc
 cases hc
 exact ⟨rfl,h x (List.mem_of_getElem? hx)⟩
theorem toksC_snoc (l:List Tok) (t:Tok):toksC (l++ [t])=toksC l++tokC t:=by simp[toksC]
theorem run_pos {p:UInt8→Bool} {s:ByteArray} {i:Nat} (h:i<s.size) (hp:p (byt s i)=true):1≤runN p s i:=by
 unfold runN
 rw[drop_at h,List.takeWhile_cons,hp]
 simp
theorem skp_lc {s:ByteArray} {c:Sc} (h:ScOk s c):(0≤(c.line:Int)∧(c.line:Int)≤5000)∧0≤(c.col:Int)∧(c.col:Int)≤5000:=by
 obtain ⟨h1,h2,h3,h4⟩:=h
 omega
theorem nextF_ok {s:ByteArray} {c c':Sc} {t:Tok} (h:ScOk s c) (hi:c.i<s.size) (hx:nextF s c=some (t,c')):TkOk t∧c.i<c'.i:=by
 have hlc:=skp_lc h
 have hs:=h.size
 cases hL:letterB (byt s c.i).toNat with
 |true=>
  obtain ⟨h1,rfl,rfl⟩:=nextF_l hx hL
  have hp:=run_pos (p:=alnum) hi (by unfold alnum;rw[hL];rfl)
  have hl:=runN_le (p:=alnum) h.i
  refine ⟨⟨by show (cutB _ _ _).size≤5000;rw[cut_size hl];omega,show Wf 0 from wf_of ⟨by decide,by decide⟩,?_,hlc⟩,by rw[skp_i];omega⟩
  show 0≤(bif wordB (cutB s c.i (runN alnum s c.i)).data.toList then (4:Int) else 1)∧(bif wordB (cutB s c.i (runN alnum s c.i)).data.toList then (4:Int) else 1)≤5
  cases wordB (cutB s c.i (runN alnum s c.i)).data.toList
  ·rw[cond_false];omega
  ·rw[cond_true];omega
 |false=>
  cases hD:digitB (byt s c.i).toNat with
  |true=>
   obtain ⟨N,hN,rfl,rfl⟩:=nextF_d hx hL hD
   have hp:=run_pos (p:=fun b=>digitB b.toNat) hi hD
   have hl:=runN_le (p:=fun b=>digitB b.toNat) h.i
   have hN9:N≤9223372036854775807:=by
    unfold numF at hN
    cases hc:(decide (1<(cutB s c.i (runN (fun b=>digitB b.toNat) s c.i)).data.toList.length) && (cutB s c.i (runN (fun b=>digitB b.toNat) s c.i)).data.toList.getD 0 0==48) with
    |true=>rw[hc] at hN;cases hN
    |false=>
     rw[hc] at hN
     refine numG_le hN (by omega) (fun b hb=>?_)
     obtain ⟨j,hj⟩:=List.getElem?_of_mem hb
     have hjl:j<(cutB s c.i (runN (fun b=>digitB b.toNat) s c.i)).size:=by have:=(List.getElem?_eq_some_iff.1 hj).1;simpa using this
     rw[byt_get hjl] at hj
     rw[cut_size hl] at hjl
     cases hj
     rw[cut_byt hjl]
     have:=dig_le (runN_all (p:=fun b=>digitB b.toNat) hjl (by omega))
     omega
   exact ⟨⟨by show (cutB _ _ _).size≤5000;rw[cut_size hl];omega,wf_of ⟨by show-9223372036854775808≤(N:Int);omega,by show (N:Int)≤9223372036854775807;omega⟩,show 0≤(2:Int)∧(2:Int)≤5 by decide,hlc⟩,by rw[skp_i];omega⟩
  |false=>
   obtain ⟨h0,rfl,rfl⟩:=nextF_s hx hL hD
   have hl:c.i+sgnF (s.data.toList.drop c.i)≤s.size:=by
    have hz:(s.extract c.i s.size).size=s.size-c.i:=by rw[ByteArray.size_extract];omega
    have:=sgn_le (s:=s.extract c.i s.size) (by omega)
    rw[show (s.extract c.i s.size).data.toList=s.data.toList.drop c.i from by rw[ByteArray.data_extract,Array.toList_extract];exact List.take_of_length_le (by simp)] at this
    omega
   exact ⟨⟨by show (cutB _ _ _).size≤5000;rw[cut_size hl];omega,show Wf 0 from wf_of ⟨by decide,by decide⟩,show 0≤(3:Int)∧(3:Int)≤5 by decide,hlc⟩,by rw[skp_i];omega⟩
theorem blk_i {s:ByteArray}:∀(f:Nat) (c:Sc),ScOk s c→ScOk s (blk s f c)∧c.i≤(blk s f c).i
 |0,c,h=>⟨h,Nat.le_refl _⟩
 |f+1,c,h=>by
  by_cases hc:c.i<s.size
  ·cases hb:isBl (byt s c.i) with
   |true=>
    rw[blk_more hc hb]
    have:=blk_i f (stpS s c) (stp_ok h hc)
    rw[stp_i] at this
    exact ⟨this.1,by omega⟩
   |false=>rw[blk_end (fun _=>hb)];exact ⟨h,Nat.le_refl _⟩
  ·rw[blk_end (fun h=>absurd h hc)];exact ⟨h,Nat.le_refl _⟩
structure ScnI (s:ByteArray) (L:List Tok) (W1:World) (o:Nat) (v:Value) (l l':List Tok) (d:Sc) (g:Nat) (wr:World):Prop where
 g:scnF s g d=some l'
 e:l++l'=L
 n:l.length≤d.i
 a:ScAt wr o s d
 own:wr.ownsRow W1.heap.size 134 5 v l.length (toksC l)
 ok:∀x∈l,TkOk x
 u:Upd (fun x=>x=o) W1 wr
theorem info_tok:(Tryz.prog.info? 134).map (fun i=>(i.zero,i.size,i.bytes))=some (some (.agg tkZ),5,48):=by kernel_rfl
theorem scn_step {s:ByteArray} {g:Nat} {c:Sc} {l:List Tok} (h:scnF s g c=some l):∃g',g=g'+1∧
  (((blk s s.size c).i=s.size∧l=[⟨5,⟨#[]⟩,0,(blk s s.size c).line,(blk s s.size c).col⟩])∨((blk s s.size c).i≠s.size∧∃t d l',nextF s (blk s s.size c)=some (t,d)∧scnF s g' d=some l'∧l=t::l')):=by
 cases g with
 |zero=>cases h
 |succ g=>
  refine ⟨g,rfl,?_⟩
  unfold scnF at h
  dsimp only at h
  generalize blk s s.size c=d at*
  cases hd:(d.i==s.size) with
  |true=>rw[hd] at h;cases h;exact .inl ⟨beq_iff_eq.1 hd,rfl⟩
  |false=>
   rw[hd,cond_false] at h
   obtain ⟨⟨t,e⟩,h1,h2⟩:=Option.bind_eq_some_iff.1 h
   obtain ⟨l',h3,h4⟩:=Option.map_eq_some_iff.1 h2
   exact .inr ⟨beq_eq_false_iff_ne.1 hd,t,e,l',h1,h3,h4.symm⟩
theorem cells_new5 (w:World) (t:TypeId) (l:List Value):∀j u,l[j]? =some u→(w.alloc (.cells l.toArray t)).cell? ((⟨w.heap.size,0,none⟩:Addr).add j)=some u:=by
 intro j u h
 rw[Addr.add_lit,(Row.new w l.toArray t).cell (0+j)]
 simpa using h
theorem tok_one (t:Tok):∀u∈tokC t,u.oneCell'=true:=by
 intro u hu
 simp only[tokC,List.mem_cons,List.not_mem_nil,or_false] at hu
 rcases hu with rfl|rfl|rfl|rfl|rfl<;>rfl
theorem res2c {P:Program} {fn:Func} {p q:Tmp} {ty:TypeId} {d:TypeDesc} {cs:Array Value} (h:fn.results= #[.tmp q,.cell p ty]) (hu:P.underlying ty=some d) (hd:(match d with| .struct _| .array _ _=>true|_=>false)=true) (hi:(P.info? ty).map (·.size)=some cs.size)
  {tmps:Array Value} {w:World} {g:Nat} {t:TypeId} {u:Value} (hp:tmps.getD p undef= .pointer (some ⟨g,0,none⟩)) (hq:tmps.getD q undef=u) (hg:Row w g cs t):(results fn tmps).run P w= .ok (.tuple #[u,.agg cs]) w:=by
 refine' zq120
 simp[results,h,hp',hq',asAddr,run_loadVar_row w g t ty cs (0,0) d hg hu hd hi]
theorem tok_sl {w:World} {base n:Nat} {v:Value} {l:List Tok} (h:w.ownsRow base 134 5 v n (toksC l)) (hl:∀x∈l,TkOk x):SlV w w.heap.size 5 isTok v l:=
 (own_sl h (toks_are hl) (fun cs hcs=>by obtain ⟨x,_,rfl⟩:=List.mem_map.1 hcs;rfl) (by decide)).1
theorem upd_three (w:World) (g:Nat) (y0 y1 y2:Value):Upd (fun x=>x=g) w (((w.setCell ⟨g,0,none⟩ y0).setCell ⟨g,1,none⟩ y1).setCell ⟨g,2,none⟩ y2):=by
 have h0:Upd (fun x=>x=g) w w:=Upd.refl _ _
 exact ((h0.setCell (p:=⟨g,0,none⟩) rfl y0).setCell (p:=⟨g,1,none⟩) rfl y1).setCell (p:=⟨g,2,none⟩) rfl y2
theorem scan_any (s:ByteArray) (L:List Tok) (w:World) (hs:s.size≤4000) (hr:noRem s) (hL:scnF s (s.size+1) ⟨0,1,1⟩=some L):
  Calls Tryz.prog 48 #[.string s] w fun r w'=>(∃v,r= .returned (.tuple #[v,ftV ft0])∧SlV w' w'.heap.size 5 isTok v L)∧Below w.heap.size w w':=by
 obtain ⟨i0,hi0,hz0,hz1,hz2⟩:=info_parts info_tok
 have b1:Below w.heap.size w ((w.alloc (.cells ftC0 38)).alloc (.cells (scA s ⟨0,1,1⟩) 166)):=bE
 have rF:=(Row.new w ftC0 38).alloc (.cells (scA s ⟨0,1,1⟩) 166)
 have rS:Row ((w.alloc (.cells ftC0 38)).alloc (.cells (scA s ⟨0,1,1⟩) 166)) (w.heap.size+1) (scA s ⟨0,1,1⟩) 166:=by
  have:=Row.new (w.alloc (.cells ftC0 38)) (scA s ⟨0,1,1⟩) 166
  simpa using this
 have HL:=Lib.hid hL
 have HR:=Lib.hid hr
 clear hL hr
 go_enter Tryz.func48,Tryz.ntmps48
 go_upto_region 2 with (fail)
 change Code.wp _ _ _ _ ((w.alloc (.cells ftC0 38)).alloc (.cells (scA s ⟨0,1,1⟩) 166))
 generalize (w.alloc (.cells ftC0 38)).alloc (.cells (scA s ⟨0,1,1⟩) 166)=W1 at*
 have hs1:=b1.size
 have hFl:=rF.lt
 have hSl:=rS.lt
 go_wp2_with fail
 have HI0:Hid (ScnI s L W1 (w.heap.size+1) (.slice none 0 0) [] L ⟨0,1,1⟩ (s.size+1) W1):=
  ⟨HL.out,rfl,Nat.le_refl _,⟨rS,⟨Nat.zero_le _,Nat.le_refl _,Nat.le_refl _,hs⟩⟩,World.ownsRow_nil _ _ _ _,fun x hx=>absurd hx List.not_mem_nil,Upd.refl _ _⟩
 go_loopw[5] (fun v wr=>∃l l' d g,Hid (ScnI s L W1 (w.heap.size+1) v l l' d g wr)) (fun _ wr=>s.size+1-(intOf ((wr.cell? ⟨w.heap.size+1,1,none⟩).getD (.int .i64 0))).toNat)
 case atStart=>exact ⟨_,_,_,_,HI0⟩
 case round=>
  obtain ⟨l,l',d,g,H⟩:=hrel
  have HBL:=Lib.hid (blanks_any s d (w.heap.size+1) wr H.out.a HR.out)
  obtain ⟨g',rfl,hcase⟩:=scn_step H.out.g
  obtain ⟨ok2,le2⟩:=blk_i s.size d H.out.a.ok
  have hl4:l.length≤4000:=by have:=H.out.n;have:=H.out.a.ok.i;omega
  have hln:l.length≤(blk s s.size d).i:=Nat.le_trans H.out.n le2
  have HQ:Hid (wr.cell? ⟨w.heap.size+1,1,none⟩=some (.int .i64 d.i)):=H.out.a.row.four.1.2.1
  have HDI:Hid (d.i≤(blk s s.size d).i):=le2
  clear le2
  go_wp2_with fail
  refine HBL.out.mono ?_
  rintro r w2 ⟨rfl,ha2,hu2⟩
  generalize blk s s.size d=d2 at*
  have HO2:=Lib.hid (own_updX H.out.own hu2 (fun k e=>by omega))
  have HU2:=Lib.hid (H.out.u.trans hu2)
  have hsz2:=HU2.out.size
  have rF2:=HU2.out.row rF (by omega)
  obtain ⟨⟨q0,q1,q2,q3⟩,-⟩:=ha2.row.four
  have HA2:=Lib.hid ha2
  clear ha2 hu2 HBL
  by_cases hend:d2.i=s.size
  ·have hb:((d2.i:Int)==(s.size:Int))=true:=by rw[hend];simp
   go_wp2_with (at_builtin;refine wpList_append_own _ rfl _ _ 125 rfl W1.heap.size 134 i0 (.agg tkZ) 5 48 Tryz.underlying125 hi0 hz0 hz1 hz2 rfl (by decide) _ _ _ rfl (HO2.out.alloc _) ⟨w2.heap.size,0,none⟩ 1 1 (tokC ⟨5,⟨#[]⟩,0,d2.line,d2.col⟩) rfl rfl (cells_new5 _ _ _) (tok_one _) (by unfold maxLen;omega) (by omega) (by simp;omega) ?_)
   intro v' w4 hown hgrow _
   have rF4:=(rF2.alloc (.cells (tokA ⟨5,⟨#[]⟩,0,d2.line,d2.col⟩) 134)).ownB (HO2.out.alloc _) hFl hgrow
   have HU4:=Lib.hid (Upd.ownB (HU2.out.alloc (.cells (tokA ⟨5,⟨#[]⟩,0,d2.line,d2.col⟩) 134)) (HO2.out.alloc _) hgrow)
   have HOW:=Lib.hid hown
   have HLE:Hid (l++ [⟨5,⟨#[]⟩,0,d2.line,d2.col⟩]=L∧TkOk ⟨5,⟨#[]⟩,0,d2.line,d2.col⟩):=by
    refine ⟨?_,⟨Nat.zero_le _,wf_of ⟨show (-9223372036854775808:Int)≤0 by decide,show (0:Int)≤9223372036854775807 by decide⟩,⟨show (0:Int)≤5 by decide,show (5:Int)≤5 by decide⟩,skp_lc HA2.out.ok⟩⟩
    rcases hcase with ⟨_,rfl⟩|⟨hn,_⟩
    ·exact H.out.e
    ·exact absurd hend hn
   clear hown hgrow
   obtain ⟨⟨k0,k1,k2⟩,z0,z1,z2⟩:=rF4.three
   go_wp2_with fail
   have u5:=upd_three w4 w.heap.size (.int .i64 0) (.int .i64 0) (.int .i64 0)
   refine bodyPost_ret (res2c (p:=3) (q:=2) (u:=v') rfl Tryz.underlying38 rfl (by kernel_rfl) rfl rfl (Row.set3 rF4 _ _ _)) rfl ⟨⟨v',rfl,?_⟩,?_⟩
   ·rw[←HLE.out.1]
    refine tok_sl (base:=W1.heap.size) (n:=l.length+1) ?_ (fun x hx=>?_)
    ·rw[toksC_snoc];exact own_updX HOW.out u5 (fun k e=>by omega)
    ·rcases List.mem_append.1 hx with hx|hx
     ·exact H.out.ok x hx
     ·rw[List.mem_singleton.1 hx];exact HLE.out.2
   ·exact b1.trans (Upd.below (X:=fun k=>w.heap.size≤k) (Upd.trans (HU4.out.mono (fun k e=>by omega)) (u5.mono (fun k e=>by omega))) (fun k hk=>hk) hs1)
  ·have hb:((d2.i:Int)==(s.size:Int))=false:=by rw[beq_eq_false_iff_ne];omega
   have hb2:((l.length:Int)==4096)=false:=by rw[beq_eq_false_iff_ne];omega
   have hdi:d2.i<s.size:=by have:=ok2.i;omega
   rcases hcase with ⟨h1,_⟩|⟨_,t,d3,l'',hnx,hg',rfl⟩
   ·exact absurd h1 hend
   obtain ⟨tok,hlt⟩:=nextF_ok ok2 hdi hnx
   have HNX:=Lib.hid (next_any s d2 d3 t (w.heap.size+1) w2 HA2.out hdi hnx)
   obtain ⟨Av,cv,hv,-⟩:=own_rd HO2.out
   subst hv
   go_wp2_with fail
   refine HNX.out.mono ?_
   rintro r w3 ⟨rfl,ha3,hu3⟩
   have HA3:=Lib.hid ha3
   have HU3:=Lib.hid (HU2.out.trans hu3)
   have HO3:=Lib.hid (own_updX HO2.out hu3 (fun k e=>by omega))
   have hsz3:=HU3.out.size
   have HCN:Hid (∀j u,(tokC t)[j]? =some u→((w3.alloc (.cells (tokA t) 134)).alloc (.cells (tokA t) 134)).cell? ((⟨w3.heap.size+1,0,none⟩:Addr).add j)=some u):=by
    have:=cells_new5 (w3.alloc (.cells (tokA t) 134)) 134 (tokC t)
    rw[show (tokC t).toArray=tokA t from rfl] at this
    refine Lib.hid ?_
    simpa using this
   clear ha3 hu3 HNX
   go_wp2_with (at_builtin;refine wpList_append_own _ rfl _ _ 125 rfl W1.heap.size 134 i0 (.agg tkZ) 5 48 Tryz.underlying125 hi0 hz0 hz1 hz2 rfl (by decide) _ _ _ rfl (own_below HO3.out bE) ⟨_,0,none⟩ 1 1 (tokC t) rfl rfl HCN.out (tok_one _) (by unfold maxLen;omega) (by omega) (by simp;omega) ?_)
   intro v' w4 hown hgrow _
   have hO:=(HO3.out.alloc (.cells (tokA t) 134)).alloc (.cells (tokA t) 134)
   have HN:Hid (ScnI s L W1 (w.heap.size+1) v' (l++ [t]) l'' d3 g' w4):=by
    refine ⟨hg',?_,?_,⟨Row.ownB ((HA3.out.row.alloc _).alloc _) hO hSl hgrow,HA3.out.ok⟩,?_,?_,Upd.ownB ((HU3.out.alloc _).alloc _) hO hgrow⟩
    ·rw[←H.out.e];simp
    ·simp;omega
    ·rw[toksC_snoc];simpa using hown
    ·intro x hx
     rcases List.mem_append.1 hx with hx|hx
     ·exact H.out.ok x hx
     ·rw[List.mem_singleton.1 hx];exact tok
   have HQ4:Hid (w4.cell? ⟨w.heap.size+1,1,none⟩=some (.int .i64 d3.i)):=HN.out.a.row.four.1.2.1
   have hd3:d3.i≤s.size:=HA3.out.ok.i
   clear hown hgrow hO
   go_wp2_with fail
   go_roundw
   case rel=>exact ⟨_,_,_,_,HN⟩
   case measure=>
    rw[HQ.out,HQ4.out]
    simp only[Option.getD_some,intOf]
    have:=HDI.out
    omega
structure Pr where
 l:List Tok
 A:Option Addr
 c:Nat
abbrev prA (P:Pr) (i:Nat):Array Value:= #[.slice P.A P.l.length P.c,.int .i64 i,.int .i64 0,.int .i64 0,.int .i64 0]
structure PrAt (w:World) (o:Nat) (P:Pr) (i:Nat):Prop where
 row:Row w o (prA P i) 130
 l:Sl (mask o w) w.heap.size 5 isTok P.A P.l
 lc:P.l.length≤P.c
 mc:P.c≤maxLen
 len:P.l.length≤5000
def PrL (w:World) (o:Nat) (P:Pr) (i:Nat) (w':World):Prop:=PrAt w' o P i∧Upd (fun x=>x=o) w w'
structure TokOk (x:Tok):Prop where
 text:x.text.size≤5000
 n:Wf x.n
 kind:0≤x.kind∧x.kind≤5
 line:0≤x.line∧x.line≤5000
 col:0≤x.col∧x.col≤5000
section
variable {w w' w2:World} {o:Nat} {P:Pr} {i j:Nat}
theorem PrAt.lt (h:PrAt w o P i):o<w.heap.size:=h.row.lt
theorem PrAt.step (h:PrAt w o P i) (hr:Row w' o (prA P j) 130) (hu:Upd (fun x=>x=o) w w'):PrAt w' o P j:=
 ⟨hr,h.l.keep hu.keepm hu.size (fun _ _ _ h=>h),h.lc,h.mc,h.len⟩
theorem PrAt.bel (h:PrAt w o P i) (hb:Below w.heap.size w w'):PrAt w' o P i:=h.step (h.row.below hb h.row.lt) (Upd.of_below hb)
theorem PrAt.fin (h:PrAt w o P i) (hr:Row w' o (prA P j) 130) (hu:Upd (fun x=>x=o) w w'):PrL w o P j w':=⟨h.step hr hu,hu⟩
theorem PrL.trans (h:PrL w o P i w') (k:PrL w' o P j w2):PrL w o P j w2:=⟨k.1,h.2.trans k.2⟩
theorem PrL.bel (h:PrL w o P i w') (hb:Below w'.heap.size w' w2):PrL w o P i w2:=⟨h.1.bel hb,h.2.trans (Upd.of_below hb)⟩
theorem PrAt.self (h:PrAt w o P i) (hb:Below w.heap.size w w'):PrL w o P i w':=⟨h.bel hb,Upd.of_below hb⟩
theorem PrAt.tok (h:PrAt w o P i) {t:Tok} (ht:P.l[i]? =some t):∃b off,P.A=some ⟨b,off,none⟩∧i<P.l.length∧TokOk t∧
  (w.cell? ⟨b,off+i*5,none⟩=some (.int .i64 t.kind)∧w.cell? ⟨b,off+i*5+1,none⟩=some (.string t.text)∧w.cell? ⟨b,off+i*5+2,none⟩=some (.int .i64 t.n)∧w.cell? ⟨b,off+i*5+3,none⟩=some (.int .i64 t.line)∧w.cell? ⟨b,off+i*5+4,none⟩=some (.int .i64 t.col)):=by
 have hi:=(List.getElem?_eq_some_iff.1 ht).1
 obtain ⟨b,off,x,cs,hA,hb,hx,⟨rfl,g⟩,hc⟩:=h.l.at_ hi
 rw[ht] at hx;cases hx
 exact ⟨b,off,hA,hi,⟨g.1,g.2.1,g.2.2.1,g.2.2.2.1,g.2.2.2.2⟩,mask_cell (hc 0 _ rfl),mask_cell (hc 1 _ rfl),mask_cell (hc 2 _ rfl),mask_cell (hc 3 _ rfl),mask_cell (hc 4 _ rfl)⟩
theorem PrAt.cells (h:PrAt w o P i):w.cell? ⟨o,0,none⟩=some (.slice P.A P.l.length P.c)∧w.cell? ⟨o,1,none⟩=some (.int .i64 i)∧w.cell? ⟨o,2,none⟩=some (.int .i64 0)∧w.cell? ⟨o,3,none⟩=some (.int .i64 0)∧w.cell? ⟨o,4,none⟩=some (.int .i64 0)∧w.frozen? ⟨o,1,none⟩=false:=
 ⟨(h.row.cell 0).trans rfl,(h.row.cell 1).trans rfl,(h.row.cell 2).trans rfl,(h.row.cell 3).trans rfl,(h.row.cell 4).trans rfl,h.row.frozen 1⟩
end
theorem pbad_any {P:Pr} {o i:Nat} {w:World} (h:PrAt w o P i):
  Calls Tryz.prog 49 #[.pointer (some ⟨o,0,none⟩)] w fun r w'=>r= .returned (.bool false)∧w=w':=by
 obtain ⟨-,-,t2,-⟩:=h.cells
 go_enter Tryz.func49,Tryz.ntmps49
 go_wp2_with fail
 go_ret
 exact ⟨rfl,rfl⟩
theorem now_any {P:Pr} {o i:Nat} {w:World} (h:PrAt w o P i) {t:Tok} (ht:P.l[i]? =some t):
  Calls Tryz.prog 52 #[.pointer (some ⟨o,0,none⟩)] w fun r w'=>r= .returned (tokV t)∧Below w.heap.size w w':=by
 have b1:Below w.heap.size w (w.alloc (.cells tkZ 134)):=bE
 have rA:=Row.new w tkZ 134
 have h1:=h.bel b1
 obtain ⟨b,off,hA,hi,tk,c0,c1,c2,c3,c4⟩:=h1.tok ht
 obtain ⟨t0,t1,-⟩:=h1.cells
 rw[hA] at t0
 have hl:=h.len
 have hlc:=h.lc
 have hmc:=h.mc
 unfold maxLen at hmc
 clear h h1
 go_enter Tryz.func52,Tryz.ntmps52
 go_upto_region 1 with (fail)
 change Code.wp _ _ _ _ (w.alloc (.cells tkZ 134))
 generalize w.alloc (.cells tkZ 134)=W1 at*
 obtain ⟨⟨y0,y1,y2,y3,y4⟩,z0,z1,z2,z3,z4⟩:=rA.tk5
 go_region
 have u5:=(upd_five W1 w.heap.size (.int .i64 t.kind) (.string t.text) (.int .i64 t.n) (.int .i64 t.line) (.int .i64 t.col)).drew
 have rB:=(rA.set5 (.int .i64 t.kind) (.string t.text) (.int .i64 t.n) (.int .i64 t.line) (.int .i64 t.col)).drew
 go_wp2_with fail
 refine bodyPost_ret (res1 rfl Tryz.underlying134 rfl (by kernel_rfl) rfl rB) rfl ⟨rfl,?_⟩
 exact b1.trans (Upd.below u5 (fun k e=>by omega) b1.size)
theorem isS_eq (t:Tok) (s:ByteArray):isS t s.data.toList=((t.kind==3||t.kind==4) && t.text.toList==s.toList):=by
 unfold isS;rw[ByteArray.toList_eq,ByteArray.toList_eq]
theorem is_any {P:Pr} {o i:Nat} {w:World} (h:PrAt w o P i) {t:Tok} (ht:P.l[i]? =some t) (s:ByteArray):
  Calls Tryz.prog 50 #[.pointer (some ⟨o,0,none⟩),.string s] w fun r w'=>r= .returned (.bool (isS t s.data.toList))∧Below w.heap.size w w':=by
 have HN:=Lib.hid (now_any h ht)
 have HE:=Lib.hid (isS_eq t s)
 have H:=Lib.hid h
 clear h
 go_enter Tryz.func50,Tryz.ntmps50
 go_wp2_with fail
 refine HN.out.mono ?_
 rintro r w2 ⟨rfl,hb2⟩
 have b3:Below w.heap.size w (w2.alloc (.cells (tokA t) 134)):=hb2.alloc hb2.size _
 have rT:=Row.new w2 (tokA t) 134
 have HB:=Lib.hid (pbad_any (H.out.bel b3))
 have hs2:=hb2.size
 go_upto_region 2 with (fail)
 change Code.wp _ _ _ _ (w2.alloc (.cells (tokA t) 134))
 generalize w2.alloc (.cells (tokA t) 134)=W3 at*
 obtain ⟨⟨y0,y1,y2,y3,y4⟩,-⟩:=rT.tk5
 obtain ⟨B1,h1⟩:∃B,(t.kind==3)=B:=⟨_,rfl⟩
 obtain ⟨B2,h2⟩:∃B,(t.kind==4)=B:=⟨_,rfl⟩
 obtain ⟨B3,h3⟩:∃B,(t.text.toList==s.toList)=B:=⟨_,rfl⟩
 have HE2:Hid (isS t s.data.toList=((B1||B2) && B3)):=by show _=_;rw[HE.out,h1,h2,h3]
 clear HE
 cases B1<;>cases B2<;>cases B3
 all_goals
  go_wp2_with fail
  refine HB.out.mono ?_
  rintro r w3 ⟨rfl,rfl⟩
  go_wp2_with fail
  go_ret
  exact ⟨ret_bool HE2.out.symm,b3⟩
theorem pr_set {W:World} {o i:Nat} {P:Pr} {t:TypeId} (h:Row W o (prA P i) t):Row (W.setCell ⟨o,1,none⟩ (.int .i64 (i+1))) o (prA P (i+1)) t:=by
 have e:(prA P i).setIfInBounds 1 (.int .i64 (i+1))=prA P (i+1):=by simp[prA]
 rw[←e]
 exact h.set 1 _
theorem take_any {P:Pr} {o i:Nat} {w:World} (h:PrAt w o P i) {t:Tok} (ht:P.l[i]? =some t) (s:ByteArray):
  Calls Tryz.prog 89 #[.pointer (some ⟨o,0,none⟩),.string s] w fun r w'=>r= .returned (.bool (isS t s.data.toList))∧PrL w o P (bif isS t s.data.toList then i+1 else i) w':=by
 obtain ⟨B,hB⟩:∃B,isS t s.data.toList=B:=⟨_,rfl⟩
 have HI:=is_any h ht s
 rw[hB] at HI⊢
 clear hB
 have HI:=Lib.hid HI
 have H:=Lib.hid h
 have hi:i<5000:=by have:=(List.getElem?_eq_some_iff.1 ht).1;have:=h.len;omega
 clear h
 go_enter Tryz.func89,Tryz.ntmps89
 go_wp2_with fail
 refine HI.out.mono ?_
 rintro r w2 ⟨rfl,hb2⟩
 have H2:=Lib.hid (H.out.self hb2)
 cases B
 ·go_wp2_with fail
  go_ret
  exact ⟨rfl,H2.out⟩
 ·obtain ⟨-,t1,-,-,-,z1⟩:=H2.out.1.cells
  have HR:=Lib.hid (pr_set H2.out.1.row)
  have HU:Hid (Upd (fun x=>x=o) w2 (w2.setCell ⟨o,1,none⟩ (.int .i64 (i+1)))):=(Upd.refl (fun x=>x=o) w2).setCell (p:=⟨o,1,none⟩) rfl _
  go_wp2_with fail
  go_ret
  exact ⟨rfl,H2.out.1.step HR.out HU.out,H2.out.2.trans HU.out⟩
theorem take_yes {P:Pr} {o i:Nat} {w:World} (h:PrAt w o P i) {t:Tok} (ht:P.l[i]? =some t) (s:ByteArray) (hs:isS t s.data.toList=true):
  Calls Tryz.prog 89 #[.pointer (some ⟨o,0,none⟩),.string s] w fun r w'=>r= .returned (.bool true)∧PrL w o P (i+1) w':=by
 have:=take_any h ht s
 rw[hs] at this
 exact this
theorem take_no {P:Pr} {o i:Nat} {w:World} (h:PrAt w o P i) {t:Tok} (ht:P.l[i]? =some t) (s:ByteArray) (hs:isS t s.data.toList=false):
  Calls Tryz.prog 89 #[.pointer (some ⟨o,0,none⟩),.string s] w fun r w'=>r= .returned (.bool false)∧PrL w o P i w':=by
 have:=take_any h ht s
 rw[hs] at this
 exact this
theorem pwant_is {P:List Tok} {s:List UInt8} {i j:Nat} (h:pwant P s i=some j):∃t,P[i]? =some t∧isS t s=true∧j=i+1:=by
 obtain ⟨t,h1,h2⟩:=Option.bind_eq_some_iff.1 h
 cases hs:isS t s with
 |false=>rw[hs] at h2;cases h2
 |true=>rw[hs] at h2;cases h2;exact ⟨t,h1,hs,rfl⟩
theorem pnot_is {P:List Tok} {s:List UInt8} {i:Nat} {u:Unit} (h:pnot P s i=some u):∃t,P[i]? =some t∧isS t s=false:=by
 obtain ⟨t,h1,h2⟩:=Option.bind_eq_some_iff.1 h
 cases hs:isS t s with
 |true=>rw[hs] at h2;cases h2
 |false=>exact ⟨t,h1,hs⟩
theorem pname_is {P:List Tok} {i:Nat} {x:Tok × Nat} (h:pname P i=some x):P[i]? =some x.1∧x.1.kind=1∧x.2=i+1:=by
 obtain ⟨t,h1,h2⟩:=Option.bind_eq_some_iff.1 h
 cases hs:t.kind==1 with
 |false=>rw[hs] at h2;cases h2
 |true=>rw[hs] at h2;cases h2;exact ⟨h1,beq_iff_eq.1 hs,rfl⟩
theorem want_any {P:Pr} {o i j:Nat} {w:World} (h:PrAt w o P i) (s:ByteArray) (hw:pwant P.l s.data.toList i=some j):
  Calls Tryz.prog 84 #[.pointer (some ⟨o,0,none⟩),.string s] w fun r w'=>r= .returned (.tuple #[])∧PrL w o P j w':=by
 obtain ⟨t,ht,hs,rfl⟩:=pwant_is hw
 have HT:=Lib.hid (take_yes h ht s hs)
 clear h
 go_enter Tryz.func84,Tryz.ntmps84
 refine' zq144
 go_wp2_with fail
 go_end0
 exact ⟨rfl,h2⟩
theorem pname_any {P:Pr} {o i:Nat} {x:Tok × Nat} {w:World} (h:PrAt w o P i) (n most:Nat) (hn:n<most) (hx:pname P.l i=some x):
  Calls Tryz.prog 85 #[.pointer (some ⟨o,0,none⟩),.int .i64 n,.int .i64 most] w fun r w'=>r= .returned (tokV x.1)∧PrL w o P x.2 w':=by
 obtain ⟨ht,hk,h2⟩:=pname_is hx
 obtain ⟨t,j⟩:=x
 obtain rfl:j=i+1:=h2
 dsimp only at ht hk⊢
 have HKD:=Lib.hid hk
 clear hk
 have b1:Below w.heap.size w (w.alloc (.cells tkZ 134)):=bE
 have rA:=Row.new w tkZ 134
 have H1:=Lib.hid (h.bel b1)
 have hi:i<5000:=by have:=(List.getElem?_eq_some_iff.1 ht).1;have:=h.len;omega
 have hol:=h.lt
 have H0:=Lib.hid h
 clear h
 go_enter Tryz.func85,Tryz.ntmps85
 go_upto_region 1 with (fail)
 change Code.wp _ _ _ _ (w.alloc (.cells tkZ 134))
 generalize w.alloc (.cells tkZ 134)=W1 at*
 have HN:=Lib.hid (now_any H1.out ht)
 go_wp2_with fail
 refine HN.out.mono ?_
 rintro r w2 ⟨rfl,hb2⟩
 have rA2:=rA.below hb2 rA.lt
 have b3:Below W1.heap.size W1 (w2.alloc (.cells (tokA t) 134)):=hb2.alloc hb2.size _
 have rT:=Row.new w2 (tokA t) 134
 have rA3:=rA2.alloc (.cells (tokA t) 134)
 have H3:=Lib.hid (H1.out.bel b3)
 have hs1:=b1.size
 have hs2:=hb2.size
 have hlA:=rA.lt
 go_upto_region 2 with (fail)
 change Code.wp _ _ _ _ (w2.alloc (.cells (tokA t) 134))
 generalize w2.alloc (.cells (tokA t) 134)=W3 at*
 have HB:=Lib.hid (pbad_any H3.out)
 obtain ⟨⟨y0,y1,y2,y3,y4⟩,-⟩:=rT.tk5
 have hk1:(t.kind !=1)=false:=by rw[HKD.out];rfl
 have hnm:decide ((most:Int)≤(n:Int))=false:=decide_eq_false (by omega)
 go_wp2_with fail
 refine HB.out.mono ?_
 rintro r w4 ⟨rfl,rfl⟩
 obtain ⟨-,t1,-,-,-,z1⟩:=H3.out.cells
 have HR:=Lib.hid (pr_set H3.out.row)
 have HU:Hid (Upd (fun x=>x=o) W3 (W3.setCell ⟨o,1,none⟩ (.int .i64 (i+1)))):=(Upd.refl (fun x=>x=o) W3).setCell (p:=⟨o,1,none⟩) rfl _
 go_upto_region 8 with (fail)
 have rA5:=HU.out.row rA3 (by omega)
 have rT5:=HU.out.row rT (by omega)
 have H5:=Lib.hid (H3.out.step HR.out HU.out)
 clear t1 z1 y0 y1 y2 y3 y4 HR
 generalize W3.setCell ⟨o,1,none⟩ (.int .i64 (i+1))=W5 at*
 obtain ⟨⟨y0,y1,y2,y3,y4⟩,-⟩:=rT5.tk5
 obtain ⟨⟨x0,x1,x2,x3,x4⟩,e0,e1,e2,e3,e4⟩:=rA5.tk5
 go_wp2_with fail
 have u5:=upd_five W5 w.heap.size (.int .i64 t.kind) (.string t.text) (.int .i64 t.n) (.int .i64 t.line) (.int .i64 t.col)
 have rB:=rA5.set5 (.int .i64 t.kind) (.string t.text) (.int .i64 t.n) (.int .i64 t.line) (.int .i64 t.col)
 refine bodyPost_ret (res1 rfl Tryz.underlying134 rfl (by kernel_rfl) rfl rB) rfl ⟨rfl,?_⟩
 have u6:Upd (fun x=>x=o∨w.heap.size≤x) W1 W5:=(Upd.of_below b3).trans (HU.out.mono (fun k e=>Or.inl e))
 exact H0.out.fin (u5.row H5.out.row (by omega)) (Upd.narrow ((Upd.of_below b1).trans (u6.trans (u5.mono (fun k e=>Or.inr (by omega))))) (fun k hk e=>by omega))
theorem pkind_is {P:List Tok} {i:Nat} {x:Int × Nat} (h:pkind P i=some x):∃t,P[i]? =some t∧x.2=i+1∧((isS t [105,110,116]=true∧x.1=1)∨(isS t [105,110,116]=false∧isS t [98,111,111,108]=true∧x.1=2)):=by
 obtain ⟨t,h1,h2⟩:=Option.bind_eq_some_iff.1 h
 cases hs:isS t [105,110,116] with
 |true=>rw[hs] at h2;cases h2;exact ⟨t,h1,rfl,.inl ⟨hs,rfl⟩⟩
 |false=>
  cases hb:isS t [98,111,111,108] with
  |true=>rw[hs,hb] at h2;cases h2;exact ⟨t,h1,rfl,.inr ⟨hs,hb,rfl⟩⟩
  |false=>rw[hs,hb] at h2;cases h2
theorem pkind_any {P:Pr} {o i:Nat} {x:Int × Nat} {w:World} (h:PrAt w o P i) (hx:pkind P.l i=some x):
  Calls Tryz.prog 169 #[.pointer (some ⟨o,0,none⟩)] w fun r w'=>r= .returned (.int .i64 x.1)∧PrL w o P x.2 w':=by
 obtain ⟨t,ht,h2,hc⟩:=pkind_is hx
 obtain ⟨k,j⟩:=x
 obtain rfl:j=i+1:=h2
 dsimp only at hc⊢
 rcases hc with ⟨hs,rfl⟩|⟨hs,hs2,rfl⟩
 ·have HT:=Lib.hid (take_yes h ht ⟨#[105,110,116]⟩ hs)
  clear h
  go_enter Tryz.func169,Tryz.ntmps169
  refine' zq144
  go_wp2_with fail
  go_ret
  exact ⟨rfl,h2⟩
 ·have HT:=Lib.hid (take_no h ht ⟨#[105,110,116]⟩ hs)
  clear h
  go_enter Tryz.func169,Tryz.ntmps169
  refine' zq144
  have HT2:=Lib.hid (take_yes h2.1 ht ⟨#[98,111,111,108]⟩ hs2)
  go_wp2_with fail
  refine HT2.out.mono ?_
  rintro r w3 ⟨rfl,h3⟩
  go_wp2_with fail
  go_ret
  exact ⟨rfl,h2.trans h3⟩
theorem pclock_any {P:Pr} {o i:Nat} {u:Unit} {w:World} (h:PrAt w o P i) (hx:pnot P.l [119,104,101,110] i=some u):
  Calls Tryz.prog 170 #[.pointer (some ⟨o,0,none⟩)] w fun r w'=>r= .returned (.slice none 0 0)∧Below w.heap.size w w':=by
 obtain ⟨t,ht,hs⟩:=pnot_is hx
 have HI:=is_any h ht ⟨#[119,104,101,110]⟩
 rw[show isS t (⟨#[119,104,101,110]⟩:ByteArray).data.toList=false from hs] at HI
 have HI:=Lib.hid HI
 clear h
 go_enter Tryz.func170,Tryz.ntmps170
 go_wp2_with fail
 go_loopw[3] (fun v wr=>v= .slice none 0 0∧wr=w) (fun _ _=>0)
 case atStart=>exact ⟨rfl,rfl⟩
 case round=>
  obtain ⟨rfl,rfl⟩:=hrel
  go_wp2_with fail
  refine HI.out.mono ?_
  rintro r w2 ⟨rfl,hb2⟩
  go_wp2_with fail
  go_ret
  exact ⟨rfl,hb2⟩
end Go.Proofs.YtdkgkacnjdnpoaaGreat
