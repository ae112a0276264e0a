/-
  The contract of check.Text at a text that is read and accepted; the awake of the check chapter. An argument that reads as data, opened: expressions. Arguments that read as data, opened: conditions, variables, equations, nodes. Arguments that read as data, opened: sources.
-/
import Derived.Test.YtgjfkidbfmbjoaaGreatZz
import Derived.Test.YtgjfkidbfmbjoaaGreatPrsR
import Derived.Test.YtgjfkidbfmbjoaaGreatTxB
import Derived.Test.YtgjfkidbfmbjoaaGreatExMem
import Derived.OpenShut
import Derived.DataReads
set_option maxHeartbeats 1000000
set_option maxRecDepth 100000
namespace Go.Proofs.YtgjfkidbfmbjoaaGreat
open Go.RowKit Nm
attribute [local go_sem ↓] Go.wp_at_zero Go.wp_at_succ
theorem text_any (s:ByteArray) (xs:List Nd) (w:World) (hx:ptext s=some xs) (sm:SrcSm xs) (hc:checkF xs=ft0):
  Calls Tryz.prog 23 #[.string s] w fun r w'=>(∃A cap,r= .returned (.tuple #[srcV xs A cap,ftV ft0])∧xs.length≤cap∧cap≤maxLen∧Nds (hide w.heap.size w') w'.heap.size A xs)∧Below w.heap.size w w':=by
 refine' zq204
 have r2:=rowNew2 w (.cells #[.slice none 0 0] 24) ftC0 31
 have HP:=Lib.hid (fun W=>psource_any s xs W hx)
 have HC:=Lib.hid (fun (W:World) (A:Option Addr) (cap:Nat) (h1:xs.length≤cap) (h2:cap≤maxLen) (h:Nds W W.heap.size A xs)=>csource_any xs A cap W sm h1 h2 h)
 rw[hc] at HC
 clear hx hc
 go_enter Tryz.func23,Tryz.ntmps23
 refine' zq144
 refine (HP.out W1).mono ?_
 rintro r w2 ⟨⟨A,cap,rfl,h1,h2,hn⟩,hb2⟩
 have hs2:=hb2.size
 have hB2:=b1.trans (hb2.mono hs1)
 have b3:Below w2.heap.size w2 ((w2.alloc (.cells #[.slice A xs.length cap] 24)).alloc (.cells ftC0 31)):=bE
 have rx:=(Row.new w2 #[.slice A xs.length cap] 24).alloc (.cells ftC0 31)
 have rf:=rowNew2 w2 (.cells #[.slice A xs.length cap] 24) ftC0 31
 have hs3:=b3.size
 have HN:Hid (∀W,Below w2.heap.size w2 W→Nds W W.heap.size A xs):=fun W hW=>nds_keep (nds_whole hn) (keeps_of hW) hW.size
 have HN2:=Lib.hid hn
 clear hn
 obtain ⟨⟨t0,t1,t2⟩,-⟩:=rf.three
 have c0:=rx.src
 go_upto_region 2 with (fail)
 change Code.wp _ _ _ _ ((w2.alloc (.cells #[.slice A xs.length cap] 24)).alloc (.cells ftC0 31))
 have r13:=(r1.below hb2 hl1).below b3 (by omega)
 have r23:=(r2.below hb2 hl2).below b3 (by omega)
 have hB3:=hB2.trans (b3.mono (by omega))
 have hl3:w.heap.size+1<w2.heap.size:=by omega
 clear r1 r2 b1 hb2 hB2
 generalize (w2.alloc (.cells #[.slice A xs.length cap] 24)).alloc (.cells ftC0 31)=W3 at*
 go_wp2_with fail
 refine (HC.out W3 A cap h1 h2 (HN.out W3 b3)).mono ?_
 rintro r w4 ⟨rfl,hb4⟩
 clear c0 t0 t1 t2
 have rx4:=rx.below hb4 rx.lt
 have rf4:=rf.below hb4 rf.lt
 have r14:=r13.below hb4 r13.lt
 have r24:=r23.below hb4 r23.lt
 have hB4:=hB3.trans (hb4.mono hB3.size)
 have hs4:=hb4.size
 have hN4:=b3.trans (hb4.mono hs3)
 obtain ⟨⟨t0,t1,t2⟩,z0,z1,z2⟩:=rf4.three
 have u5:=upd_three w4 (w2.heap.size+1) (.int .i64 0) (.int .i64 0) (.int .i64 0)
 have rf5:=rf4.set3 (.int .i64 0) (.int .i64 0) (.int .i64 0)
 go_upto_region 4 with (fail)
 change Code.wp _ _ _ _ (((w4.setCell ⟨w2.heap.size+1,0,none⟩ (.int .i64 0)).setCell ⟨w2.heap.size+1,1,none⟩ (.int .i64 0)).setCell ⟨w2.heap.size+1,2,none⟩ (.int .i64 0))
 clear t0 t1 t2 z0 z1 z2
 have rx5:=u5.row rx4 (by omega)
 have r15:=u5.row r14 (by omega)
 have r25:=u5.row r24 (by omega)
 have hB5:=hB4.trans (Upd.below u5 (fun k e=>by omega) (by have:=hB4.size;omega))
 have hN5:=hN4.trans (Upd.below u5 (fun k e=>by omega) (by omega))
 generalize ((w4.setCell ⟨w2.heap.size+1,0,none⟩ (.int .i64 0)).setCell ⟨w2.heap.size+1,1,none⟩ (.int .i64 0)).setCell ⟨w2.heap.size+1,2,none⟩ (.int .i64 0)=W5 at*
 have c0:=rx5.src
 obtain ⟨⟨t0,t1,t2⟩,-⟩:=rf5.three
 have d0:=r15.src
 have d1:=r15.frozen 0
 obtain ⟨⟨k0,k1,k2⟩,z0,z1,z2⟩:=r25.three
 have hs5:=hB5.size
 have HR1:=Lib.hid r15
 have HR2:=Lib.hid r25
 have HN5:=Lib.hid (Upd.of_below (X:=fun k=>k<W1.heap.size∨w2.heap.size≤k) hN5)
 have HB5:=Lib.hid hB5
 clear rf4 rx4 r14 r24 r15 r25 rx5 rf5 rx rf r13 r23 hb4 hN4 hB4 hB3 b3 u5 hN5
 go_upto_region 6 with (fail)
 go_region
 go_wp2_with fail
 have u6:Upd (fun k=>k=w.heap.size) W5 (W5.setCell ⟨w.heap.size,0,none⟩ (.slice A xs.length cap)):=(Upd.refl (fun k=>k=w.heap.size) W5).setCell (p:=⟨w.heap.size,0,none⟩) rfl _
 have u7:=(upd_three (W5.setCell ⟨w.heap.size,0,none⟩ (.slice A xs.length cap)) (w.heap.size+1) (.int .i64 0) (.int .i64 0) (.int .i64 0)).drew
 have q1:Row (W5.setCell ⟨w.heap.size,0,none⟩ (.slice A xs.length cap)) w.heap.size #[.slice A xs.length cap] 24:=by
  have:=HR1.out.set 0 (.slice A xs.length cap)
  simpa using this
 have q2:=(Row.set3 (u6.row HR2.out (by omega)) (.int .i64 0) (.int .i64 0) (.int .i64 0)).drew
 refine bodyPost_ret (res22 rfl Tryz.underlying24 rfl (by kernel_rfl) Tryz.underlying31 rfl (by kernel_rfl) rfl rfl (u7.row q1 (by omega)) q2) rfl ?_
 have U67:=(u6.mono (Y:=fun k=>k<W1.heap.size∨w2.heap.size≤k) (fun k e=>Or.inl (by omega))).trans (u7.mono (fun k e=>Or.inl (by omega)))
 have U:=HN5.out.trans U67
 exact ⟨⟨A,cap,rfl,h1,h2,nds_hide HN2.out U (fun k e=>e) (Nat.le_refl _) (by omega) U.size⟩,HB5.out.trans (Upd.below ((u6.mono (Y:=fun k=>w.heap.size≤k) (fun k e=>by omega)).trans (u7.mono (fun k e=>by omega))) (fun k e=>e) (by omega))⟩
theorem chkA:checkF srA=ft0:=srA_check
theorem ints_one {v:Value} {w:World} (h:SlV w w.heap.size 1 isInt v [1]):Calls Tryz.prog 21 #[v,.slice (some ⟨w.heap.size,0,none⟩) 1 1] (w.alloc (.cells #[.int .i64 1] 3)) fun e w'=>e= .returned (.bool true)∧∃n,w'=(w.alloc (.cells #[.int .i64 1] 3)).drewN n:=by
 have b5:Below w.heap.size w (w.alloc (.cells #[.int .i64 1] 3)):=bE
 have g1:=ints_up h b5 b5.size
 have g2:SlV (w.alloc (.cells #[.int .i64 1] 3)) (w.alloc (.cells #[.int .i64 1] 3)).heap.size 1 isInt (.slice (some ⟨w.heap.size,0,none⟩) 1 1) [1]:=sl_ints (l:=[1]) (Row.new w #[.int .i64 1] 3) (by decide) (fun x hx=>by rw[List.mem_singleton.1 hx];exact wf_of ⟨by decide,by decide⟩)
 have:=rints_any [1] [1] _ _ _ _ g1 g2
 rw[cB_true rfl] at this
 exact this
theorem tysA:tysOf ndT.ins=[1]∧tysOf ndT.outs=[1]:=⟨rfl,rfl⟩
theorem awake21_any (w:World):
  Calls Tryz.prog 15 #[] w fun r w'=>r= .returned (.bool true)∧Below w.heap.size w w':=by
 have HT:=Lib.hid (text_any txA srA w txA_is srA_sm chkA)
 have HP:=Lib.hid (fun (W:World) (A:Option Addr) (cap:Nat) (h1:srA.length≤cap) (h2:cap≤maxLen) (h:Nds W W.heap.size A srA)=>ports_chk srA A cap W srA_sm h1 h2 h)
 go_enter Tryz.func15,Tryz.ntmps15
 go_wp2_with fail
 refine HT.out.mono ?_
 rintro r w2 ⟨⟨A,cap,rfl,h1,h2,hn⟩,hb2⟩
 have hs2:=hb2.size
 have b3:Below w2.heap.size w2 ((w2.alloc (.cells #[.slice A srA.length cap] 24)).alloc (.cells ftC0 31)):=bE
 have rx:=(Row.new w2 #[.slice A srA.length cap] 24).alloc (.cells ftC0 31)
 have rf:=rowNew2 w2 (.cells #[.slice A srA.length cap] 24) ftC0 31
 have HN:Hid (∀W,Below w2.heap.size w2 W→Nds W W.heap.size A srA):=fun W hW=>nds_keep (nds_whole hn) (keeps_of hW) hW.size
 clear hn
 go_upto_region 2 with (fail)
 change Code.wp _ _ _ _ ((w2.alloc (.cells #[.slice A srA.length cap] 24)).alloc (.cells ftC0 31))
 have hB3:=hb2.trans (b3.mono hs2)
 have hs3:=b3.size
 generalize (w2.alloc (.cells #[.slice A srA.length cap] 24)).alloc (.cells ftC0 31)=W3 at*
 have c0:=rx.src
 go_wp2_with fail
 refine (HP.out W3 A cap h1 h2 (HN.out W3 b3)).mono ?_
 rintro r w4 ⟨⟨v1,v2,b,rfl,HPb,-,HPy⟩,hb4⟩
 have hbt:b=true:=by have:=HPb.out;rw[chkA] at this;exact this
 subst hbt
 obtain ⟨n,hnA,hv1,hv2⟩:=HPy.out rfl
 rw[srA_main] at hnA
 cases hnA
 rw[tysA.1] at hv1
 rw[tysA.2] at hv2
 have hs4:=hb4.size
 have rf4:=rf.below hb4 rf.lt
 have hB4:=hB3.trans (hb4.mono hB3.size)
 obtain ⟨⟨t0,t1,t2⟩,-⟩:=rf4.three
 have b5:Below w4.heap.size w4 (w4.alloc (.cells #[.int .i64 1] 3)):=bE
 have HI1:=Lib.hid (ints_one hv1)
 have HV2:=Lib.hid hv2
 have HB4:=Lib.hid hB4
 clear hv1 hv2 HPb HPy HP HT HN c0
 go_wp2_with fail
 refine HI1.out.mono ?_
 rintro r w6 ⟨rfl,n6,rfl⟩
 have b6:Below w4.heap.size w4 ((w4.alloc (.cells #[.int .i64 1] 3)).drewN n6):=below_drewN' b5 _
 clear HI1 b5 t0 t1 t2
 generalize (w4.alloc (.cells #[.int .i64 1] 3)).drewN n6=w6 at*
 have b7:Below w6.heap.size w6 (w6.alloc (.cells #[.int .i64 1] 3)):=bE
 have HI2:=Lib.hid (ints_one (ints_up HV2.out b6 b6.size))
 have HBF:=Lib.hid (HB4.out.trans ((b6.trans (b7.mono b6.size)).mono HB4.out.size))
 go_wp2_with fail
 refine HI2.out.mono ?_
 rintro r w8 ⟨rfl,n8,rfl⟩
 go_wp2_with fail
 go_ret
 exact ⟨rfl,below_drewN' HBF.out _⟩
open Go.RowKit
theorem list2 {α:Type} {l:List α} (h:l.length=2):∃a b,l=[a,b]:=by
 match l,h with
 | [a,b],_=>exact ⟨a,b,rfl⟩
theorem list6 {α:Type} {l:List α} (h:l.length=6):∃a b c d e f,l=[a,b,c,d,e,f]:=by
 match l,h with
 | [a,b,c,d,e,f],_=>exact ⟨a,b,c,d,e,f,rfl⟩
section
variable {H:Type} {enc:TypeId × Value→H} {w:World} {spare:Nat→Bool} {held:Bool}
theorem cells_ex:Tryz.prog.cellsOf 79=6:=by kernel_rfl
theorem cells_pos:Tryz.prog.cellsOf 29=2:=by kernel_rfl
theorem cells_int:Tryz.prog.cellsOf 3=1:=by kernel_rfl
theorem cells_string:Tryz.prog.cellsOf 9=1:=by kernel_rfl
theorem cells_exs:Tryz.prog.cellsOf 77=1:=by kernel_rfl
theorem open_pos {fuel:Nat} {cs:List Value} {x:DataW H × List MemPlace} (h:DataW.trod enc Tryz.prog w 0 spare held fuel 29 cs=some x):∃l c:Int,cs=[.int .i64 l,.int .i64 c]∧Wf l∧Wf c:=by
 obtain ⟨xs,n,_,_,hlen,hxl,hf⟩:=DataW.trod_struct Tryz.underlying29 h
 rw[cells_pos] at hlen
 obtain ⟨c0,c1,rfl⟩:=list2 hlen
 ·have hx:xs.length=2:=hxl
  have e0:xs[0]? =some (xs[0]'(by omega)):=List.getElem?_eq_getElem (by omega)
  have e1:xs[1]? =some (xs[1]'(by omega)):=List.getElem?_eq_getElem (by omega)
  have h0:DataW.trod enc Tryz.prog w 0 spare held n 3 (([c0,c1].drop 0).take (Tryz.prog.cellsOf 3))=some xs[0]:=(hf 0 _ rfl).trans e0
  have h1:DataW.trod enc Tryz.prog w 0 spare held n 3 (([c0,c1].drop 1).take (Tryz.prog.cellsOf 3))=some xs[1]:=(hf 1 _ rfl).trans e1
  obtain ⟨l,hl,_,wl⟩:=DataW.trod_int Tryz.underlying3 h0
  obtain ⟨c,hc,_,wc⟩:=DataW.trod_int Tryz.underlying3 h1
  rw[cells_int] at hl hc
  simp at hl hc
  subst hl;subst hc
  exact ⟨l,c,rfl,wl,wc⟩
theorem open_ex:∀(fuel:Nat) (cs:List Value) (x:DataW H × List MemPlace),DataW.trod enc Tryz.prog w 0 spare held fuel 79 cs=some x→∃e,IsEx w w.heap.size e cs:=by
 intro fuel
 induction fuel using Nat.strongRecOn with
 |ind fuel ih=>
  intro cs x h
  obtain ⟨xs,n,hn,_,hlen,hxl,hf⟩:=DataW.trod_struct Tryz.underlying79 h
  rw[cells_ex] at hlen
  obtain ⟨c0,c1,c2,c3,c4,c5,rfl⟩:=list6 hlen
  ·have hx:xs.length=5:=hxl
   have e0:xs[0]? =some (xs[0]'(by omega)):=List.getElem?_eq_getElem (by omega)
   have e1:xs[1]? =some (xs[1]'(by omega)):=List.getElem?_eq_getElem (by omega)
   have e2:xs[2]? =some (xs[2]'(by omega)):=List.getElem?_eq_getElem (by omega)
   have e3:xs[3]? =some (xs[3]'(by omega)):=List.getElem?_eq_getElem (by omega)
   have e4:xs[4]? =some (xs[4]'(by omega)):=List.getElem?_eq_getElem (by omega)
   have h0:DataW.trod enc Tryz.prog w 0 spare held n 3 (([c0,c1,c2,c3,c4,c5].drop 0).take (Tryz.prog.cellsOf 3))=some xs[0]:=(hf 0 _ rfl).trans e0
   have h1:DataW.trod enc Tryz.prog w 0 spare held n 9 (([c0,c1,c2,c3,c4,c5].drop 1).take (Tryz.prog.cellsOf 9))=some xs[1]:=(hf 1 _ rfl).trans e1
   have h2:DataW.trod enc Tryz.prog w 0 spare held n 3 (([c0,c1,c2,c3,c4,c5].drop 2).take (Tryz.prog.cellsOf 3))=some xs[2]:=(hf 2 _ rfl).trans e2
   have h3:DataW.trod enc Tryz.prog w 0 spare held n 77 (([c0,c1,c2,c3,c4,c5].drop 3).take (Tryz.prog.cellsOf 77))=some xs[3]:=(hf 3 _ rfl).trans e3
   have h4:DataW.trod enc Tryz.prog w 0 spare held n 29 (([c0,c1,c2,c3,c4,c5].drop 4).take (Tryz.prog.cellsOf 29))=some xs[4]:=(hf 4 _ rfl).trans e4
   clear e0 e1 e2 e3 e4 hf
   obtain ⟨op,g0,_,w0⟩:=DataW.trod_int Tryz.underlying3 h0
   obtain ⟨nm,g1,_,w1⟩:=DataW.trod_string Tryz.underlying9 h1
   obtain ⟨m,g2,_,w2⟩:=DataW.trod_int Tryz.underlying3 h2
   obtain ⟨l,c,g4,wl,wc⟩:=open_pos h4
   rw[cells_int] at g0 g2
   rw[cells_string] at g1
   rw[cells_pos] at g4
   simp at g0 g1 g2 g4
   obtain ⟨rfl,rfl⟩:=g4
   subst g0;subst g1;subst g2
   rw[cells_exs] at h3
   have h3':DataW.trod enc Tryz.prog w 0 spare held n 77 [c3]=some xs[3]:=h3
   clear h0 h1 h2 h3 h4
   rcases DataW.trod_slice Tryz.underlying77 h3' with ⟨hc,_⟩|⟨a,len,cap,elems,rest,k,hk,hc,_,_,hlc,hcm,hel,hr,_⟩
   ·simp at hc;subst hc
    exact ⟨.mk op nm m [] l c,IsEx.mk' (e:= .mk op nm m [] l c) ⟨w0,w1,w2,wl,wc⟩ (Nat.le_refl _) (Nat.zero_le _) (fun h=>absurd h (by simp[Ex.args]))⟩
   ·simp at hc;subst hc
    have key:∀i,i<len→∃e cs',(w.cells? 0 (a.add (i*6)) 6=some cs')∧IsEx w w.heap.size e cs':=by
     intro i hi
     have h:=hr i hi
     rw[cells_ex,List.getElem?_eq_getElem (by omega),Option.bind_eq_some_iff] at h
     obtain ⟨cs',h1,h2⟩:=h
     obtain ⟨e,he⟩:=ih k (by omega) cs' _ h2
     exact ⟨e,cs',h1,he⟩
    obtain ⟨f,hfn⟩:∃f:Nat→Ex,∀i,i<len→∃cs',(w.cells? 0 (a.add (i*6)) 6=some cs')∧IsEx w w.heap.size (f i) cs':=
     ⟨fun i=>if h:i<len then Classical.choose (key i h) else .mk 0 nm 0 [] 0 0,fun i hi=>by simp only[dif_pos hi];exact Classical.choose_spec (key i hi)⟩
    have hlen':((List.range len).map f).length=len:=by simp
    refine ⟨.mk op nm m ((List.range len).map f) l c,?_⟩
    have hA:IsExs w w.heap.size (some a) ((List.range len).map f):=fun hp=>by
     rw[hlen'] at hp
     obtain ⟨cs0,hc0,hx0⟩:=hfn 0 hp
     have hcell:=(World.cells?_some hc0).2.2 0 (by omega)
     have hl0:cs0.length=6:=hx0.len
     rw[List.getElem?_eq_getElem (by omega)] at hcell
     have hspot:=spot_none hcell
     have hblk:a.block<w.heap.size:=by
      have:((a.add (0*6)).add 0).block<w.heap.size:=by
       simp only[World.cell?] at hcell
       rcases Nat.lt_or_ge ((a.add (0*6)).add 0).block w.heap.size with h|h
       ·exact h
       ·rw[Array.getElem?_eq_none h] at hcell;cases hcell
      rwa [add_block,add_block] at this
     obtain ⟨b,off,spot⟩:=a
     have:spot=none:=by simpa[Addr.add] using hspot
     subst this
     refine ⟨b,off,rfl,hblk,fun i x hi=>?_⟩
     have hil:i<len:=by have:=(List.getElem?_eq_some_iff.1 hi).1;rwa [hlen'] at this
     obtain ⟨cs',hc',hx'⟩:=hfn i hil
     have hxe:x=f i:=by rw[List.getElem?_map,List.getElem?_range hil] at hi;simpa using hi.symm
     subst hxe
     refine ⟨cs',fun j u hu=>?_,hx'⟩
     have hj:j<6:=by rw[←hx'.len];exact (List.getElem?_eq_some_iff.1 hu).1
     have:=(World.cells?_some hc').2.2 j hj
     rw[hu,Addr.add_lit,Addr.add_lit] at this
     exact this
    have:=IsEx.mk' (w:=w) (B:=w.heap.size) (e:= .mk op nm m ((List.range len).map f) l c) (A:=some a) (cap:=cap) ⟨w0,w1,w2,wl,wc⟩ (by show ((List.range len).map f).length≤cap;rw[hlen'];exact hlc) hcm hA
    rw[show exCells (.mk op nm m ((List.range len).map f) l c) (some a) cap=[.int .i64 op,.string nm,.int .i64 m,.slice (some a) len cap,.int .i64 l,.int .i64 c] from by simp[exCells,Ex.op,Ex.name,Ex.n,Ex.args,Ex.line,Ex.col]] at this
    exact this
end
theorem list5 {α:Type} {l:List α} (h:l.length=5):∃a b c d e,l=[a,b,c,d,e]:=by
 match l,h with
 | [a,b,c,d,e],_=>exact ⟨a,b,c,d,e,rfl⟩
theorem list7 {α:Type} {l:List α} (h:l.length=7):∃a b c d e f g,l=[a,b,c,d,e,f,g]:=by
 match l,h with
 | [a,b,c,d,e,f,g],_=>exact ⟨a,b,c,d,e,f,g,rfl⟩
theorem list9 {α:Type} {l:List α} (h:l.length=9):∃a b c d e f g x y,l=[a,b,c,d,e,f,g,x,y]:=by
 match l,h with
 | [a,b,c,d,e,f,g,x,y],_=>exact ⟨a,b,c,d,e,f,g,x,y,rfl⟩
section
variable {H:Type} {enc:TypeId × Value→H} {w:World} {spare:Nat→Bool} {held:Bool}
theorem cells_lit:Tryz.prog.cellsOf 158=2:=by kernel_rfl
theorem cells_bool:Tryz.prog.cellsOf 4=1:=by kernel_rfl
theorem cells_lits:Tryz.prog.cellsOf 87=1:=by kernel_rfl
theorem cells_var:Tryz.prog.cellsOf 89=5:=by kernel_rfl
theorem cells_vars:Tryz.prog.cellsOf 36=1:=by kernel_rfl
theorem cells_eqn:Tryz.prog.cellsOf 81=9:=by kernel_rfl
theorem cells_eqns:Tryz.prog.cellsOf 37=1:=by kernel_rfl
theorem cells_strs:Tryz.prog.cellsOf 76=1:=by kernel_rfl
theorem cells_node:Tryz.prog.cellsOf 39=7:=by kernel_rfl
theorem isLit_len (y:Lt) (cs:List Value) (h:isLit y cs):cs.length=2:=by rw[h.1];rfl
theorem isStr_len (y:ByteArray) (cs:List Value) (h:isStr y cs):cs.length=1:=by rw[h.1];rfl
theorem isVr_len (y:Vr) (cs:List Value) (h:isVr w w.heap.size y cs):cs.length=5:=by obtain ⟨A,cap,rfl,_⟩:=h;rfl
theorem isEqn_len (y:Eqn) (cs:List Value) (h:isEqn w w.heap.size y cs):cs.length=9:=by obtain ⟨A,cap,A',cap',rfl,_⟩:=h;rfl
theorem isNd_len (y:Nd) (cs:List Value) (h:isNd w w.heap.size y cs):cs.length=7:=by obtain ⟨a,rfl,_⟩:=h;rfl
theorem open_lit (fuel:Nat) (cs:List Value) (x:DataW H × List MemPlace) (h:DataW.trod enc Tryz.prog w 0 spare held fuel 158 cs=some x):∃c,isLit c cs:=by
 obtain ⟨xs,n,_,_,hlen,hxl,hf⟩:=DataW.trod_struct Tryz.underlying158 h
 rw[cells_lit] at hlen
 obtain ⟨c0,c1,rfl⟩:=list2 hlen
 have hx:xs.length=2:=hxl
 have e0:xs[0]? =some (xs[0]'(by omega)):=List.getElem?_eq_getElem (by omega)
 have e1:xs[1]? =some (xs[1]'(by omega)):=List.getElem?_eq_getElem (by omega)
 have h0:DataW.trod enc Tryz.prog w 0 spare held n 9 (([c0,c1].drop 0).take (Tryz.prog.cellsOf 9))=some xs[0]:=(hf 0 _ rfl).trans e0
 have h1:DataW.trod enc Tryz.prog w 0 spare held n 4 (([c0,c1].drop 1).take (Tryz.prog.cellsOf 4))=some xs[1]:=(hf 1 _ rfl).trans e1
 obtain ⟨a,ha,_,wa⟩:=DataW.trod_string Tryz.underlying9 h0
 obtain ⟨b,hb,_⟩:=DataW.trod_bool Tryz.underlying4 h1
 rw[cells_string] at ha
 rw[cells_bool] at hb
 simp at ha hb
 subst ha;subst hb
 exact ⟨⟨a,b⟩,rfl,wa⟩
theorem open_lits {fuel:Nat} {c:Value} {x:DataW H × List MemPlace} (h:DataW.trod enc Tryz.prog w 0 spare held fuel 87 [c]=some x):∃l,SlV w w.heap.size 2 isLit c l:=
 open_sl Tryz.underlying87 cells_lit (by decide) fuel (fun n _ cs x h=>open_lit n cs x h) isLit_len ⟨⟨#[]⟩,false⟩ h
theorem open_strs {fuel:Nat} {c:Value} {x:DataW H × List MemPlace} (h:DataW.trod enc Tryz.prog w 0 spare held fuel 76 [c]=some x):∃l,SlV w w.heap.size 1 isStr c l:=
 open_sl Tryz.underlying76 cells_string (by decide) fuel (fun n _ cs x h=>open_isStr Tryz.underlying9 n cs x h) isStr_len ⟨#[]⟩ h
theorem open_vr (fuel:Nat) (cs:List Value) (x:DataW H × List MemPlace) (h:DataW.trod enc Tryz.prog w 0 spare held fuel 89 cs=some x):∃v,isVr w w.heap.size v cs:=by
 obtain ⟨xs,n,_,_,hlen,hxl,hf⟩:=DataW.trod_struct Tryz.underlying89 h
 rw[cells_var] at hlen
 obtain ⟨c0,c1,c2,c3,c4,rfl⟩:=list5 hlen
 have hx:xs.length=4:=hxl
 have e0:xs[0]? =some (xs[0]'(by omega)):=List.getElem?_eq_getElem (by omega)
 have e1:xs[1]? =some (xs[1]'(by omega)):=List.getElem?_eq_getElem (by omega)
 have e2:xs[2]? =some (xs[2]'(by omega)):=List.getElem?_eq_getElem (by omega)
 have e3:xs[3]? =some (xs[3]'(by omega)):=List.getElem?_eq_getElem (by omega)
 have h0:DataW.trod enc Tryz.prog w 0 spare held n 9 (([c0,c1,c2,c3,c4].drop 0).take (Tryz.prog.cellsOf 9))=some xs[0]:=(hf 0 _ rfl).trans e0
 have h1:DataW.trod enc Tryz.prog w 0 spare held n 3 (([c0,c1,c2,c3,c4].drop 1).take (Tryz.prog.cellsOf 3))=some xs[1]:=(hf 1 _ rfl).trans e1
 have h2:DataW.trod enc Tryz.prog w 0 spare held n 87 (([c0,c1,c2,c3,c4].drop 2).take (Tryz.prog.cellsOf 87))=some xs[2]:=(hf 2 _ rfl).trans e2
 have h3:DataW.trod enc Tryz.prog w 0 spare held n 29 (([c0,c1,c2,c3,c4].drop 3).take (Tryz.prog.cellsOf 29))=some xs[3]:=(hf 3 _ rfl).trans e3
 rw[cells_string] at h0
 rw[cells_int] at h1
 rw[cells_lits] at h2
 rw[cells_pos] at h3
 simp only[List.drop_zero,List.drop_succ_cons,List.take_succ_cons,List.take_zero] at h0 h1 h2 h3
 obtain ⟨nm,g0,_,w0⟩:=DataW.trod_string Tryz.underlying9 h0
 obtain ⟨ty,g1,_,w1⟩:=DataW.trod_int Tryz.underlying3 h1
 obtain ⟨l,A,cap,g2,l2,m2,s2⟩:=open_lits h2
 obtain ⟨li,co,g3,w3,w4⟩:=open_pos h3
 simp at g0 g1 g3
 obtain ⟨rfl,rfl⟩:=g3
 subst g0;subst g1;subst g2
 exact ⟨⟨nm,ty,l,li,co⟩,A,cap,rfl,⟨w0,w1,w3,w4⟩,l2,m2,s2⟩
theorem open_vrs {fuel:Nat} {c:Value} {x:DataW H × List MemPlace} (h:DataW.trod enc Tryz.prog w 0 spare held fuel 36 [c]=some x):∃l,SlV w w.heap.size 5 (isVr w w.heap.size) c l:=
 open_sl Tryz.underlying36 cells_var (by decide) fuel (fun n _ cs x h=>open_vr n cs x h) isVr_len ⟨⟨#[]⟩,0,[],0,0⟩ h
theorem open_eqn (fuel:Nat) (cs:List Value) (x:DataW H × List MemPlace) (h:DataW.trod enc Tryz.prog w 0 spare held fuel 81 cs=some x):∃v,isEqn w w.heap.size v cs:=by
 obtain ⟨xs,n,_,_,hlen,hxl,hf⟩:=DataW.trod_struct Tryz.underlying81 h
 rw[cells_eqn] at hlen
 obtain ⟨c0,c1,c2,c3,c4,c5,c6,c7,c8,rfl⟩:=list9 hlen
 have hx:xs.length=3:=hxl
 have e0:xs[0]? =some (xs[0]'(by omega)):=List.getElem?_eq_getElem (by omega)
 have e1:xs[1]? =some (xs[1]'(by omega)):=List.getElem?_eq_getElem (by omega)
 have e2:xs[2]? =some (xs[2]'(by omega)):=List.getElem?_eq_getElem (by omega)
 have h0:DataW.trod enc Tryz.prog w 0 spare held n 76 (([c0,c1,c2,c3,c4,c5,c6,c7,c8].drop 0).take (Tryz.prog.cellsOf 76))=some xs[0]:=(hf 0 _ rfl).trans e0
 have h1:DataW.trod enc Tryz.prog w 0 spare held n 79 (([c0,c1,c2,c3,c4,c5,c6,c7,c8].drop 1).take (Tryz.prog.cellsOf 79))=some xs[1]:=(hf 1 _ rfl).trans e1
 have h2:DataW.trod enc Tryz.prog w 0 spare held n 29 (([c0,c1,c2,c3,c4,c5,c6,c7,c8].drop 7).take (Tryz.prog.cellsOf 29))=some xs[2]:=(hf 2 _ rfl).trans e2
 rw[cells_strs] at h0
 rw[cells_ex] at h1
 rw[cells_pos] at h2
 simp only[List.drop_zero,List.drop_succ_cons,List.take_succ_cons,List.take_zero] at h0 h1 h2
 obtain ⟨l,A,cap,g0,l0,m0,s0⟩:=open_strs h0
 obtain ⟨e,he⟩:=open_ex _ _ _ h1
 obtain ⟨A',cap',g1,ok,l1,m1,s1⟩:=he.open
 obtain ⟨li,co,g2,w3,w4⟩:=open_pos h2
 simp only[exCells,List.cons.injEq,and_true] at g1 g2
 obtain ⟨rfl,rfl,rfl,rfl,rfl,rfl⟩:=g1
 obtain ⟨rfl,rfl⟩:=g2
 subst g0
 exact ⟨⟨l,e,li,co⟩,A,cap,A',cap',rfl,⟨ok,w3,w4⟩,l0,m0,s0,l1,m1,s1⟩
theorem open_eqns {fuel:Nat} {c:Value} {x:DataW H × List MemPlace} (h:DataW.trod enc Tryz.prog w 0 spare held fuel 37 [c]=some x):∃l,SlV w w.heap.size 9 (isEqn w w.heap.size) c l:=
 open_sl Tryz.underlying37 cells_eqn (by decide) fuel (fun n _ cs x h=>open_eqn n cs x h) isEqn_len ⟨[],.mk 0 ⟨#[]⟩ 0 [] 0 0,0,0⟩ h
theorem open_nd (fuel:Nat) (cs:List Value) (x:DataW H × List MemPlace) (h:DataW.trod enc Tryz.prog w 0 spare held fuel 39 cs=some x):∃v,isNd w w.heap.size v cs:=by
 obtain ⟨xs,n,_,_,hlen,hxl,hf⟩:=DataW.trod_struct Tryz.underlying39 h
 rw[cells_node] at hlen
 obtain ⟨c0,c1,c2,c3,c4,c5,c6,rfl⟩:=list7 hlen
 have hx:xs.length=6:=hxl
 have e0:xs[0]? =some (xs[0]'(by omega)):=List.getElem?_eq_getElem (by omega)
 have e1:xs[1]? =some (xs[1]'(by omega)):=List.getElem?_eq_getElem (by omega)
 have e2:xs[2]? =some (xs[2]'(by omega)):=List.getElem?_eq_getElem (by omega)
 have e3:xs[3]? =some (xs[3]'(by omega)):=List.getElem?_eq_getElem (by omega)
 have e4:xs[4]? =some (xs[4]'(by omega)):=List.getElem?_eq_getElem (by omega)
 have e5:xs[5]? =some (xs[5]'(by omega)):=List.getElem?_eq_getElem (by omega)
 have h0:DataW.trod enc Tryz.prog w 0 spare held n 9 (([c0,c1,c2,c3,c4,c5,c6].drop 0).take (Tryz.prog.cellsOf 9))=some xs[0]:=(hf 0 _ rfl).trans e0
 have h1:DataW.trod enc Tryz.prog w 0 spare held n 36 (([c0,c1,c2,c3,c4,c5,c6].drop 1).take (Tryz.prog.cellsOf 36))=some xs[1]:=(hf 1 _ rfl).trans e1
 have h2:DataW.trod enc Tryz.prog w 0 spare held n 36 (([c0,c1,c2,c3,c4,c5,c6].drop 2).take (Tryz.prog.cellsOf 36))=some xs[2]:=(hf 2 _ rfl).trans e2
 have h3:DataW.trod enc Tryz.prog w 0 spare held n 36 (([c0,c1,c2,c3,c4,c5,c6].drop 3).take (Tryz.prog.cellsOf 36))=some xs[3]:=(hf 3 _ rfl).trans e3
 have h4:DataW.trod enc Tryz.prog w 0 spare held n 37 (([c0,c1,c2,c3,c4,c5,c6].drop 4).take (Tryz.prog.cellsOf 37))=some xs[4]:=(hf 4 _ rfl).trans e4
 have h5:DataW.trod enc Tryz.prog w 0 spare held n 29 (([c0,c1,c2,c3,c4,c5,c6].drop 5).take (Tryz.prog.cellsOf 29))=some xs[5]:=(hf 5 _ rfl).trans e5
 rw[cells_string] at h0
 rw[cells_vars] at h1 h2 h3
 rw[cells_eqns] at h4
 rw[cells_pos] at h5
 simp only[List.drop_zero,List.drop_succ_cons,List.take_succ_cons,List.take_zero] at h0 h1 h2 h3 h4 h5
 obtain ⟨nm,g0,_,w0⟩:=DataW.trod_string Tryz.underlying9 h0
 obtain ⟨li,Ai,ci,g1,l1,m1,s1⟩:=open_vrs h1
 obtain ⟨lo,Ao,co,g2,l2,m2,s2⟩:=open_vrs h2
 obtain ⟨lv,Av,cv,g3,l3,m3,s3⟩:=open_vrs h3
 obtain ⟨lq,Aq,cq,g4,l4,m4,s4⟩:=open_eqns h4
 obtain ⟨ln,cl,g5,w5,w6⟩:=open_pos h5
 simp at g0 g5
 obtain ⟨rfl,rfl⟩:=g5
 subst g0;subst g1;subst g2;subst g3;subst g4
 exact ⟨⟨nm,li,lo,lv,lq,ln,cl⟩,⟨Ai,ci,Ao,co,Av,cv,Aq,cq⟩,rfl,⟨w0,w5,w6,l1,m1,s1,l2,m2,s2,l3,m3,s3,l4,m4,s4⟩⟩
end
section
variable {H:Type} {enc:TypeId × Value→H} {w:World} {spare:Nat→Bool} {held:Bool}
theorem cells_source:Tryz.prog.cellsOf 24=1:=by kernel_rfl
theorem cells_nodes:Tryz.prog.cellsOf 22=1:=by kernel_rfl
theorem list1 {α:Type} {l:List α} (h:l.length=1):∃a,l=[a]:=by
 match l,h with
 | [a],_=>exact ⟨a,rfl⟩
theorem open_nds {fuel:Nat} {c:Value} {x:DataW H × List MemPlace} (h:DataW.trod enc Tryz.prog w 0 spare held fuel 22 [c]=some x):∃l,SlV w w.heap.size 7 (isNd w w.heap.size) c l:=
 open_sl Tryz.underlying22 cells_node (by decide) fuel (fun n _ cs x h=>open_nd n cs x h) isNd_len ⟨⟨#[]⟩,[],[],[],[],0,0⟩ h
def SrcIs (w:World) (s:List Nd) (v:Value):Prop:=∃A cap,v= .agg #[.slice A s.length cap]∧s.length≤cap∧cap≤maxLen∧Nds w w.heap.size A s
theorem open_sourceV {base:Nat} {v:Value} {d:DataW H} {p:List MemPlace} {r:Reach} (hv:Value.okWide Tryz.prog w r base 24 v) (h:DataW.Trod enc Tryz.prog w 0 spare held 24 v d p):∃s,SrcIs w s v:=by
 obtain ⟨cs,rfl,hsz⟩:=WideShapes.okWide_struct Tryz.underlying24 hv
 obtain ⟨fuel,hf⟩:=h
 have hf':DataW.trod enc Tryz.prog w 0 spare held fuel 24 cs.toList=some (d,p):=hf
 obtain ⟨xs,n,_,_,hlen,hxl,hi⟩:=DataW.trod_struct Tryz.underlying24 hf'
 rw[cells_source] at hlen
 obtain ⟨ll⟩:=cs
 obtain ⟨c0,hll⟩:=list1 (l:=ll) hlen
 subst hll
 have hx:xs.length=1:=hxl
 have e0:xs[0]? =some (xs[0]'(by omega)):=List.getElem?_eq_getElem (by omega)
 have h0:DataW.trod enc Tryz.prog w 0 spare held n 22 (([c0].drop 0).take (Tryz.prog.cellsOf 22))=some xs[0]:=(hi 0 _ rfl).trans e0
 rw[cells_nodes] at h0
 simp only[List.drop_zero,List.take_succ_cons,List.take_zero] at h0
 obtain ⟨l,A,cap,rfl,l1,m1,s1⟩:=open_nds h0
 exact ⟨l,A,cap,rfl,l1,m1,s1⟩
end
end Go.Proofs.YtgjfkidbfmbjoaaGreat
