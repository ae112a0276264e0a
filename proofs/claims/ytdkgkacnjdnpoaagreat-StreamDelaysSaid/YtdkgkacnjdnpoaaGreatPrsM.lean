/-
  The contract of stream.Run, of a source that is right, without calls and clocks. What the examples' sources are to stream.Run. Plain. The contract of the parser's equation. Rows that grow while what their elements point to lies elsewhere: the world without the row's own block.
-/
import Derived.Test.YtdkgkacnjdnpoaaGreatStrD
import Derived.Test.YtdkgkacnjdnpoaaGreatStzS
import Derived.Test.YtdkgkacnjdnpoaaGreatStrX
import Derived.Test.YtdkgkacnjdnpoaaGreatRgQ
set_option maxHeartbeats 4000000
set_option maxRecDepth 100000
namespace Go.Proofs.YtdkgkacnjdnpoaaGreat
open Go.RowKit
attribute [local go_sem ↓] Go.wp_at_zero Go.wp_at_succ
def RowsB (base:Nat) (w:World) (l:List (List Int)) (vs:List Value):Prop:=vs.length=l.length∧∀(i:Nat) x,l[i]? =some x→(∀y∈x,Wf y)∧∃v,vs[i]? =some v∧∃n,w.ownsRow base 3 1 v n (ints x)
theorem RowsB.upd {base:Nat} {w w':World} {X:Nat→Prop} {l:List (List Int)} {vs:List Value} (h:RowsB base w l vs) (u:Upd X w w') (hX:∀k,X k→k<base∨∃a t,Row w k a t∧t≠3):RowsB base w' l vs:=
 ⟨h.1,fun i x hi=>by
  obtain ⟨hw,v,hv,n,ho⟩:=h.2 i x hi
  refine ⟨hw,v,hv,n,own_updG ho u fun k hk hx=>?_⟩
  obtain ⟨g1,a,g2⟩:=own_row ho k hk
  rcases hX k hx with e|⟨a',t,e,ne⟩
  ·omega
  ·exact ne (row_ty e g2)⟩
theorem RowsB.snoc {base:Nat} {w:World} {l:List (List Int)} {vs:List Value} (h:RowsB base w l vs) {v:Value} {n:Nat} {x:List Int} (hw:∀y∈x,Wf y) (ho:w.ownsRow base 3 1 v n (ints x)):RowsB base w (l++ [x]) (vs++ [v]):=by
 refine ⟨by simp[h.1],fun i y hi=>?_⟩
 by_cases hl:i<l.length
 ·rw[List.getElem?_append_left hl] at hi
  obtain ⟨h1,u,hu,h2⟩:=h.2 i y hi
  exact ⟨h1,u,by rw[List.getElem?_append_left (by rw[h.1];exact hl)];exact hu,h2⟩
 ·rw[List.getElem?_append_right (by omega)] at hi
  have h0:i-l.length=0:=by
   have:=(List.getElem?_eq_some_iff.1 hi).1
   simp at this
   omega
  rw[h0] at hi
  simp at hi
  subst hi
  exact ⟨hw,v,by rw[List.getElem?_append_right (by rw[h.1];omega),h.1,h0];rfl,n,ho⟩
theorem flat_one1:∀(vs:List Value),(vs.map (fun v=> [v])).flatten=vs
 | []=>rfl
 |v::vs=>by rw[List.map_cons,List.flatten_cons,flat_one1 vs];rfl
theorem RowsB.sl {base:Nat} {w:World} {B n:Nat} {l:List (List Int)} {vs:List Value} {v:Value} (h:RowsB base w l vs) (ho:w.ownsRow B 34 1 v n vs):SlV w w.heap.size 1 (isRw w w.heap.size) v l:=by
 rw[←flat_one1 vs] at ho
 refine (own_sl ho ⟨by rw[List.length_map,h.1],fun i x cs hi hc=>?_⟩ (fun cs hcs=>by obtain ⟨_,_,rfl⟩:=List.mem_map.1 hcs;rfl) (by decide)).1
 obtain ⟨hw,u,hu,m,hm⟩:=h.2 i x hi
 rw[List.getElem?_map,hu] at hc
 injection hc with hc
 subst hc
 exact ⟨u,rfl,own_ints hm hw⟩
theorem rw_keep {w w':World} {N:Nat} {v:Value} {l:List (List Int)} (h:SlV w N 1 (isRw w N) v l) (hb:Below N w w'):SlV w' N 1 (isRw w' N) v l:=by
 refine SlV.keep h (fun p u hp hc=>(hb.cell hp).trans hc) (Nat.le_refl _) fun x _ cs hx=>?_
 obtain ⟨u,rfl,hu⟩:=hx
 exact ⟨u,rfl,hu.below hb⟩
theorem info_ints:(Tryz.prog.info? 34).map (fun i=>(i.zero,i.size,i.bytes))=some (some (.slice none 0 0),1,24):=by kernel_rfl
def RnS {n:Nd} (M:Mach n) (N R D Bs:Nat) (As:Value) (w:World) (h:List (List Int)):Prop:=∃(Q:RnQ) (σ:Past) (rv kv:Value),Q.D=D∧Q.n=n∧Q.N=N∧Q.R=R∧Q.As=As∧RnK Q∧RnAt Q σ w rv kv∧TsIs n Q.T∧M.G Q.T σ h∧(∀b,Wf (σ b).2)∧Q.hi≤Bs
theorem RnS.row {n:Nd} {M:Mach n} {N R D Bs:Nat} {As:Value} {w:World} {h:List (List Int)} (g:RnS M N R D Bs As w h):(∃rv,Row w R #[As,rv] 73)∧N≤R∧R<Bs∧D<Bs:=by
 obtain ⟨Q,σ,rv,kv,rfl,rfl,rfl,rfl,rfl,hk,ha,_,_,_,hB⟩:=g
 have h1:=hk.hR
 have h2:=hk.hD
 have h3:=hk.lh
 exact ⟨⟨rv,ha.rr⟩,hk.NR,by omega,by omega⟩
theorem RnS.upd {n:Nd} {M:Mach n} {N R D Bs:Nat} {As:Value} {w w':World} {h:List (List Int)} {X:Nat→Prop} (g:RnS M N R D Bs As w h) (hu:Upd X w w') (hX:∀k,X k→Bs≤k):RnS M N R D Bs As w' h:=by
 obtain ⟨Q,σ,rv,kv,h1,h2,h3,h4,h5,hk,ha,h6,h7,h8,hB⟩:=g
 exact ⟨Q,σ,rv,kv,h1,h2,h3,h4,h5,hk,ha.upd hk hu (fun k e=>Nat.le_trans hB (hX k e)),h6,h7,h8,hB⟩
theorem rns_tick {n:Nd} {M:Mach n} {N R D Bs:Nat} {As:Value} {W:World} {hist:List (List Int)} {x:List Int} {Ax:Option Addr} {cx:Nat} (h:RnS M N R D Bs As W hist) (hw:∀q∈n.eqs,∀x∈exList q.right,Wf x.n) (hl:∀q∈n.eqs,∀nm∈q.left,nm∈nms (vrs n)) (sm:NdSm n) (hx:x.length=n.ins.length) (lx:x.length≤cx) (mx:cx≤maxLen) (sx:Sl W N 1 isInt Ax x):
  Calls Tryz.prog 24 #[.pointer (some ⟨R,0,none⟩),.pointer (some ⟨D,0,none⟩)] (W.setCell ⟨R,1,none⟩ (.slice Ax x.length cx)) fun r w'=>(∃v,r= .returned v∧w'.ownsRow W.heap.size 3 1 v (M.out hist x).length (ints (M.out hist x)))∧(∀y∈M.out hist x,Wf y)∧RnS M N R D Bs As w' (hist++ [x])∧Upd (fun j=>N≤j∧j<Bs) W w':=by
 obtain ⟨Q,σ,rv,kv,rfl,rfl,rfl,rfl,rfl,hk,ha,hT,hG,hs,hB⟩:=h
 obtain ⟨σ',ht,hG'⟩:=M.step Q.T σ hist x hT hG hx
 have hr:∀v∈x,Wf v:=sx.all fun v cs hv=>hv.2
 obtain ⟨hy,hs'⟩:=ht.wf hT hw hr hs
 have h1:=hk.hR
 have h2:=hk.hD
 have h3:=hk.lh
 have h4:=hk.NR
 have h5:=hk.ND
 have u1:Upd (fun j=>j=Q.R) W (W.setCell ⟨Q.R,1,none⟩ (.slice Ax x.length cx)):=(Upd.refl (fun j=>j=Q.R) W).setCell (p:=⟨Q.R,1,none⟩) rfl _
 have z1:(W.setCell ⟨Q.R,1,none⟩ (.slice Ax x.length cx)).heap.size=W.heap.size:=by simp[World.setCell]
 have hlt:=ha.lt
 refine Calls.mono (tick_any hk _ (ha.fed hk (.slice Ax x.length cx)) lx mx (sx.below (Upd.below u1 (fun k e=>by omega) (by omega))) ht (fun nm v hv=>⟨hv.wf hT hw hr hs,hv.name sm hl⟩) (hT.few sm)) ?_
 rintro r w' ⟨⟨v,rfl,hv⟩,⟨kv',ha'⟩,hu⟩
 rw[z1] at hv
 exact ⟨⟨v,rfl,hv⟩,hy,⟨Q,σ',_,kv',rfl,rfl,rfl,rfl,rfl,hk,ha',hT,hG',hs',hB⟩,(u1.mono (fun j e=>by omega)).trans (hu.mono (fun j e=>by omega))⟩
theorem srun_any {s:List Nd} {n:Nd} (M:Mach n) {A:Option Addr} {cap:Nat} {vr:Value} {rows:List (List Int)} (w:World) (sm:SrcSm s) (h1:s.length≤cap) (h2:cap≤maxLen) (h:Nds w w.heap.size A s) (hck:checkF s=ft0) (hn:nodeAt s mainNm=some n) (hc:NoClk n) (hq:∀q∈n.eqs,∃nm,q.left=[nm]∧Sh q.right)
  (hw:∀q∈n.eqs,∀x∈exList q.right,Wf x.n) (hl:∀q∈n.eqs,∀nm∈q.left,nm∈nms (vrs n)) (hz:sizeS s≤400) (hr:SlV w w.heap.size 1 (isRw w w.heap.size) vr rows) (hf:∀row∈rows,fitsOk (tysOf n.ins) row) (hrl:rows.length≤1000):
  Calls Tryz.prog 10 #[srcV s A cap,vr] w fun r w'=>(∃v,r= .returned (.tuple #[v,.int .i64 0])∧SlV w' w'.heap.size 1 (isRw w' w'.heap.size) v (M.all rows))∧Below w.heap.size w w':=by
 obtain ⟨i0,hi0,hz0,hz1,hz2⟩:=info_parts info_ints
 obtain ⟨Av,cv,rfl,lv,mv,sv⟩:=hr
 have rs1:=Row.new w #[.slice A s.length cap] 24
 have b1:Below w.heap.size w (w.alloc (.cells #[.slice A s.length cap] 24)):=bE
 have HS:Hid (∀W,Below w.heap.size w W→Nds W w.heap.size A s):=fun W hW=>nds_keep h (keeps_of hW) (Nat.le_refl _)
 have HP:Hid (∀W,Below w.heap.size w W→Calls Tryz.prog 20 #[srcV s A cap] W fun r w'=>(∃v1 v2,r= .returned (.tuple #[v1,v2,.bool true])∧SlV w' w'.heap.size 1 isInt v1 (tysOf n.ins))∧Below W.heap.size W w'):=fun W hW=>by
  refine Calls.mono (ports_chk s A cap W sm h1 h2 (nds_keep h (keeps_of hW) hW.size)) ?_
  rintro r w' ⟨⟨v1,v2,b,rfl,hb,-,hy⟩,hbw⟩
  have hbt:b=true:=by have:=hb.out;rw[hck] at this;exact this
  subst hbt
  obtain ⟨m,hm,hv,_⟩:=hy.out rfl
  rw[hn] at hm
  cases hm
  exact ⟨⟨v1,v2,rfl,hv⟩,hbw⟩
 have HZ:Hid (∀W,Below w.heap.size w W→Calls Tryz.prog 21 #[srcV s A cap] W fun r w'=>r= .returned (.int .i64 (sizeS s))∧Below W.heap.size W w'):=fun W hW=>size_any s A cap W sm h1 h2 (nds_keep h (keeps_of hW) hW.size)
 have hmem:mainNm∈s.map Nd.name:=check_main (by rw[hck])
 have HB:Hid (∀(W:World) (R:Nat) (rv:Value),Below w.heap.size w W→w.heap.size≤R→Row W R #[.slice A s.length cap,rv] 73→Calls Tryz.prog 23 #[.pointer (some ⟨R,0,none⟩),.string mainNm,.pointer none,.pointer none] W fun r w'=>(∃D,r= .returned (.pointer (some ⟨D,0,none⟩))∧RnS M w.heap.size R D w'.heap.size (.slice A s.length cap) w' [])∧Below W.heap.size W w'):=fun W R rv hW hR rr=>by
  refine Calls.mono (begin_any W sm h1 h2 hR (nds_keep h (keeps_of hW) (Nat.le_refl _)) rr hn hmem hc hq) ?_
  rintro r w' ⟨⟨Q,rfl,e1,e2,e3,e4,e5,e6,e7⟩,hb⟩
  exact ⟨⟨Q.D,rfl,Q,σ0,_,_,rfl,e1,e2,e3,e4,e5,e6,e7,M.init Q.T e7,fun b=>(wf_of ⟨by decide,by decide⟩:Wf 0),e6.lt⟩,hb⟩
 have HSV:Hid (∀W,Below w.heap.size w W→Sl W w.heap.size 1 (isRw W w.heap.size) Av rows):=fun W hW=>by
  obtain ⟨A',c',e,_,_,g⟩:=rw_keep ⟨Av,cv,rfl,lv,mv,sv⟩ hW
  cases e
  exact g
 have hle:¬(sizeS s>400):=by omega
 have hsz:((sizeS s:Nat):Int)≤400:=by omega
 have hsz':decide ((sizeS s:Int)>400)=false:=by rw[decide_eq_false_iff_not];omega
 obtain ⟨Z,hZ⟩:∃Z:Int,((sizeS s:Nat):Int)=Z:=⟨_,rfl⟩
 rw[hZ] at HZ hsz hsz'
 have HF:=Lib.hid hf
 have HSMn:Hid (NdSm n):=sm.all n (List.mem_of_find?_eq_some hn)
 have HW:=Lib.hid hw
 have HL:=Lib.hid hl
 have mv':cv≤9223372036854775807:=by unfold maxLen at mv;omega
 clear h sm hck hn hc hq hmem hZ hle hz sv mv hf hw hl
 go_enter Tryz.func10,Tryz.ntmps10
 go_upto_region 1 with (fail)
 change Code.wp _ _ _ _ (w.alloc (.cells #[.slice A s.length cap] 24))
 generalize w.alloc (.cells #[.slice A s.length cap] 24)=W1 at*
 have hs1:=b1.size
 have c0:=rs1.src
 go_wp2_with fail
 refine (HP.out _ b1).mono ?_
 rintro r w2 ⟨⟨v1,v2,rfl,hv1⟩,hb2⟩
 have rs2:=rs1.below hb2 rs1.lt
 have hB2:=b1.trans (hb2.mono hs1)
 have hs2:=hB2.size
 have c0:=rs2.src
 clear c0 rs1 b1 hb2
 have c0:=rs2.src
 go_wp2_with fail
 refine (HZ.out _ hB2).mono ?_
 rintro r w3 ⟨rfl,hb3⟩
 have rs3:=rs2.below hb3 rs2.lt
 have hB3:=hB2.trans (hb3.mono hs2)
 have hs3:=hB3.size
 obtain ⟨At,ct,rfl,lt,mt,st⟩:=hv1
 have HTS:=Lib.hid (st.below hb3)
 have hsb3:=hb3.size
 clear c0 rs2 hb3 hB2 st HP HZ
 have mt':ct≤9223372036854775807:=by unfold maxLen at mt;omega
 go_wp2_with fail
 go_loopw[31] (fun i wr=>∃k:Nat,k≤rows.length∧i= .int .i64 k∧Hid (Below w3.heap.size w3 wr)) (fun i _=>rows.length-(intOf i).toNat)
 case atStart=>exact ⟨0,Nat.zero_le _,rfl,Below.refl _ _⟩
 case round=>
  obtain ⟨k,hk,rfl,HBr⟩:=hrel
  have hsr:=HBr.out.size
  have hB:=hB3.trans (HBr.out.mono hs3)
  by_cases hlt:k<rows.length
  ·obtain ⟨b,off,x,Ax,cx,hA,hb,hx,d0,lx,mx,sx⟩:=sl_rw (HSV.out wr hB) hlt
   have HFT:=Lib.hid (rowFits_any (tysOf n.ins) x At Ax ct cx wr.heap.size wr lt (by unfold maxLen;omega) lx mx ((HTS.out.below (HBr.out.mono hsb3)).more (by omega)) (sx.more (by omega)))
   rw[cB_true (HF.out x (List.mem_of_getElem? hx))] at HFT
   have i0':(0:Int)≤(k:Int):=by omega
   have i1':(k:Int)<(rows.length:Int):=by omega
   have HA:=Lib.hid hA
   rw[hA]
   clear hA hx sx
   go_wp2_with fail
   refine HFT.out.mono ?_
   rintro r w' ⟨rfl,rfl⟩
   clear d0
   have hA:=HA.out
   go_wp2_with fail
   go_roundw
   case rel=>exact ⟨k+1,by omega,by go_num,HBr⟩
   case measure=>first|(simp[intOf];omega)|simp[intOf]
  obtain rfl:k=rows.length:=by omega
  have rs4:=rs3.below HBr.out rs3.lt
  have hB4:=Lib.hid hB
  have c0:=rs4.src
  have b4:Below wr.heap.size wr (wr.alloc (.cells #[.slice A s.length cap,.slice none 0 0] 73)):=bE
  have rR:=Row.new wr #[.slice A s.length cap,.slice none 0 0] 73
  have HBG:=Lib.hid (HB.out (wr.alloc (.cells #[.slice A s.length cap,.slice none 0 0] 73)) wr.heap.size (.slice none 0 0) (hB.trans (b4.mono (by omega))) (by omega) rR)
  clear HB HTS hB
  go_upto_region 13 with (fail)
  change Code.wp _ _ _ _ (wr.alloc (.cells #[.slice A s.length cap,.slice none 0 0] 73))
  have HB5:=Lib.hid (hB4.out.trans (b4.mono (by omega)))
  have hs5:=b4.size
  clear c0 b4 rR rs3 rs4
  generalize hRR:wr.heap.size=R at*
  generalize wr.alloc (.cells #[.slice A s.length cap,.slice none 0 0] 73)=W5 at*
  go_wp2_with fail
  refine HBG.out.mono ?_
  rintro r w6 ⟨⟨D,rfl,hrn⟩,hb6⟩
  have HR6:=Lib.hid hrn
  have hs6:=hb6.size
  have HB6:=Lib.hid (HB5.out.trans (hb6.mono HB5.out.size))
  clear hrn hb6 HBG
  go_wp2_with fail
  go_loopw[13,47] (fun v13 i wr=>∃(k:Nat) (v:Value) (vs:List Value),k≤rows.length∧i= .int .i64 k∧v=v13∧Hid (RnS M w.heap.size R D w6.heap.size (.slice A s.length cap) wr (rows.take k))∧Hid (wr.ownsRow w6.heap.size 34 1 v k vs)∧Hid (RowsB w6.heap.size wr ((M.all rows).take k) vs)∧Hid (Below w.heap.size w wr)∧Hid (w6.heap.size≤wr.heap.size)) (fun _ i _=>rows.length-(intOf i).toNat)
  case atStart=>exact ⟨0,_,[],Nat.zero_le _,rfl,rfl,by rw[List.take_zero];exact HR6,World.ownsRow_nil _ _ _ _,⟨rfl,fun i x hi=>by simp at hi⟩,HB6,Nat.le_refl _⟩
  case round=>
   clear HR6 HB6
   obtain ⟨k,v,vs,hk,rfl,rfl,HRN,HO,HRB,HBr,HSr⟩:=hrel
   have hsr:=HBr.out.size
   by_cases hlt:k<rows.length
   rotate_left 1
   ·obtain rfl:k=rows.length:=by omega
    have hfin:=HRB.out.sl HO.out
    rw[List.take_of_length_le (by rw[M.all_len];exact Nat.le_refl _)] at hfin
    have HFIN:=Lib.hid hfin
    clear hfin HRN HO HRB
    go_wp2_with fail
    go_ret2
    exact ⟨⟨_,rfl,HFIN.out⟩,HBr.out⟩
   obtain ⟨b,off,x,Ax,cx,hA,hb,hx,d0,lx,mx,sx⟩:=sl_rw (HSV.out wr HBr.out) hlt
   obtain ⟨⟨rv,rr⟩,hNR,hRB,hDB⟩:=HRN.out.row
   have hss:=HSr.out
   have hxl:x.length=n.ins.length:=by
    have:=(HF.out x (List.mem_of_getElem? hx)).2.1
    rwa [tysOf,List.length_map] at this
   have HTK:=Lib.hid (rns_tick HRN.out HW.out HL.out HSMn.out hxl lx mx sx)
   have f1:=rr.frozen 1
   have c1:wr.cell? ⟨R,1,none⟩=some rv:=(rr.cell 1).trans rfl
   have HX:=Lib.hid hx
   have i0':(0:Int)≤(k:Int):=by omega
   have i1':(k:Int)<(rows.length:Int):=by omega
   have HA:=Lib.hid hA
   rw[hA]
   clear hA hx sx hxl HRN rr
   go_wp2_with fail
   refine HTK.out.mono ?_
   rintro r w8 ⟨⟨u,rfl,hou⟩,hwf,hrn8,hu8⟩
   obtain ⟨Au,cu,rfl,-⟩:=own_rd hou
   have hs8:=hu8.size
   have HO8:=Lib.hid (own_updX HO.out hu8 (fun j e=>e.2))
   have HRB8:=Lib.hid ((HRB.out.upd hu8 (fun j e=> .inl e.2)).snoc hwf (own_base hou hss))
   have HRN8:=Lib.hid hrn8
   have HBr8:=Lib.hid (HBr.out.trans ((Upd.below hu8 (fun j e=>e.1) (by omega)).mono (Nat.le_refl _)))
   have HT1:Hid ((M.all rows).take (k+1)=(M.all rows).take k++ [M.out (rows.take k) x]):=by
    show _=_
    rw[List.take_add_one,M.all_at HX.out]
    rfl
   have HT2:Hid (rows.take (k+1)=rows.take k++ [x]):=by
    show _=_
    rw[List.take_add_one,HX.out]
    rfl
   clear hou hwf hrn8 hu8 HO HRB HTK f1 c1 d0
   generalize (M.out (List.take k rows) x).length=len at*
   go_wp2_with (at_builtin;refine wpList_append_any _ rfl _ _ 25 rfl w6.heap.size 34 i0 (.slice none 0 0) 1 24 Tryz.underlying25 hi0 hz0 hz1 hz2 rfl (by decide) _ _ _ rfl (HO8.out.alloc _) ⟨_,0,none⟩ 1 1 [.slice Au len cu] rfl rfl (cells_new5 _ _ _) (by intro u hu;simp at hu;subst hu;rfl) (by unfold maxLen;omega) (by omega) (by first|omega|(simp;omega)|simp) ?_)
   intro v13 w13 hown13 hg13 _
   have u13:Upd (fun j=>v.ownBlock=some j) w8 w13:=(Upd.of_below (bE:Below w8.heap.size w8 (w8.alloc (.cells #[.slice Au len cu] 34)))).trans ⟨hg13.os,hg13.tape,hg13.output,hg13.size,fun j hj hX=>hg13.block j hj (fun e=>hX e.symm)⟩
   have HRN13:=Lib.hid (HRN8.out.upd u13 (fun j e=>(own_row HO8.out j e).1))
   have HRB13:=Lib.hid (HRB8.out.upd u13 (fun j e=>by
    obtain ⟨_,a,ha⟩:=own_row HO8.out j e
    exact .inr ⟨a,_,ha,by decide⟩))
   have HB13:=Lib.hid (HBr8.out.trans (Upd.below u13 (fun j e=>by have:=(own_row HO8.out j e).1;omega) (by omega)))
   have HS13:Hid (w6.heap.size≤w13.heap.size):=by have:=u13.size;show _≤_;omega
   rw[←HT1.out] at HRB13
   rw[←HT2.out] at HRN13
   have HO13:=Lib.hid hown13
   clear hown13 hg13 u13
   have hA:=HA.out
   go_wp2_with fail
   go_roundw
   case rel=>exact ⟨k+1,_,_,by omega,by go_num,rfl,HRN13,HO13,HRB13,HB13,HS13⟩
   case measure=>first|(simp[intOf];omega)|simp[intOf]
open Nm
theorem size_free {s:List Nd} {n:Nd} (hn:nodeAt s mainNm=some n) (h:∀q∈n.eqs,∀x∈exList q.right,x.op≠4) (hv:(vrs n).length≤400):sizeS s≤400:=by
 have hu:∀c,c∉usesF n:=fun c hc=>by
  obtain ⟨q,hq,x,hx,h4,_⟩:=usesF_mem.1 hc
  exact h q hq x hx h4
 have hs:SzIs s mainNm (szOf n (fun _=>0)):= .node _ hn fun c hc=>absurd hc (hu c)
 have hc:calleesOf n=[]:=List.eq_nil_iff_forall_not_mem.2 fun c hc=>hu c (callees_mem.1 hc)
 unfold sizeS
 split
 ·rw[sizeF_is hs]
  unfold szOf
  rw[hc]
  unfold capZ
  simp only[List.map_nil,List.sum_nil]
  omega
 ·omega
theorem fits_one {l:List Int} (h:l.length=1):fitsOk [1] l:=by
 refine ⟨⟨fun t ht=> .inl (by simpa using ht),by decide,by decide⟩,h,fun i t v ht _ h2=>?_⟩
 match i,ht with
 |0,ht=>simp at ht;omega
 |i+1,ht=>simp at ht
theorem wf0:Wf 0:=wf_of ⟨by decide,by decide⟩
theorem ndB_q:∀q∈ndB.eqs,∃nm,q.left=[nm]∧Sh q.right:=by
 intro q hq
 simp at hq
 subst hq
 exact ⟨_,rfl,.two (.inl rfl) rfl (.num rfl rfl) (.var rfl rfl)⟩
theorem ndB_wf:∀q∈ndB.eqs,∀x∈exList q.right,Wf x.n:=by
 intro q hq x hx
 simp at hq
 subst hq
 dsimp only at hx
 rw[xB_list] at hx
 simp at hx
 rcases hx with rfl|rfl|rfl<;>exact wf0
theorem ndB_left:∀q∈ndB.eqs,∀nm∈q.left,nm∈nms (vrs ndB):=by
 intro q hq nm hnm
 simp at hq
 subst hq
 simp at hnm
 subst hnm
 simp[vrs]
theorem srB_size:sizeS srB≤400:=size_free srB_main (fun q hq x hx=>(ndB_ops q hq x hx).1) (by decide)
theorem ndC_q:∀q∈ndC.eqs,∃nm,q.left=[nm]∧Sh q.right:=by
 intro q hq
 simp at hq
 rcases hq with rfl|rfl
 ·exact ⟨_,rfl,.two (.inl rfl) rfl (.num rfl rfl) (.var rfl rfl)⟩
 ·exact ⟨_,rfl,.two (.inr rfl) rfl (.var rfl rfl) (.pre rfl rfl (.var rfl rfl))⟩
theorem ndC_wf:∀q∈ndC.eqs,∀x∈exList q.right,Wf x.n:=by
 intro q hq x hx
 simp at hq
 rcases hq with rfl|rfl
 ·dsimp only at hx
  rw[xC_list] at hx
  simp at hx
  rcases hx with rfl|rfl|rfl<;>exact wf0
 ·dsimp only at hx
  rw[xD_list] at hx
  simp at hx
  rcases hx with rfl|rfl|rfl|rfl<;>exact wf0
theorem ndC_left:∀q∈ndC.eqs,∀nm∈q.left,nm∈nms (vrs ndC):=by
 intro q hq nm hnm
 simp at hq
 rcases hq with rfl|rfl
 ·simp at hnm
  subst hnm
  simp[vrs]
 ·simp at hnm
  subst hnm
  simp[vrs]
theorem srC_size:sizeS srC≤400:=size_free srC_main (fun q hq x hx=>(ndC_ops q hq x hx).1) (by decide)
theorem chkB:checkF srB=ft0:=srB_check
theorem chkC:checkF srC=ft0:=srC_check
theorem delay_out:machB.all [[3],[4],[5]]=[[0],[3],[4]]:=rfl
theorem machC_at {l:List Int} {i:Nat} (hi:i<l.length):(machC.all (l.map fun x=> [x]))[i]? =some [if i=0 then 0 else l.getD (i-1) 0,if i=0 then l.getD 0 0 else l.getD (i-1) 0]:=by
 have hr:(l.map fun x=> [x])[i]? =some [l[i]]:=by rw[List.getElem?_map,List.getElem?_eq_getElem hi];rfl
 rw[machC.all_at hr]
 show some (outC _ _)=_
 unfold outC
 by_cases h0:i=0
 ·subst h0
  cases l with
  |nil=>simp at hi
  |cons a l=>rfl
 ·have hne:¬((l.map fun x=> [x]).take i=[]):=by
   intro g
   have:=congrArg List.length g
   rw[List.length_take,List.length_map,List.length_nil] at this
   omega
  have hlast:lastOf ((l.map fun x=> [x]).take i)=l.getD (i-1) 0:=by
   have e:(l.map fun x=> [x]).take i=(l.map fun x=> [x]).take (i-1)++ [[l.getD (i-1) 0]]:=by
    obtain ⟨j,rfl⟩:∃j,i=j+1:=⟨i-1,by omega⟩
    rw[List.take_add_one,List.getElem?_map]
    have hj:l[j]? =some l[j]:=List.getElem?_eq_getElem (by omega)
    simp[hj]
   rw[e,last_snoc]
   rfl
  rw[if_neg hne,if_neg h0,if_neg h0,hlast]
open Go.RowKit Nm
attribute [local go_sem] field_tk0 field_tk1 field_tk3
abbrev eq9 (v0 v1 v2 v3 v4 v5 v6 v7 v8:Value):Array Value:= #[v0,v1,v2,v3,v4,v5,v6,v7,v8]
section
variable {W:World} {b:Nat} {v0 v1 v2 v3 v4 v5 v6 v7 v8:Value} {t:TypeId}
theorem Row.e9 (h:Row W b (eq9 v0 v1 v2 v3 v4 v5 v6 v7 v8) t):(W.cell? ⟨b,0,none⟩=some v0∧W.cell? ⟨b,1,none⟩=some v1∧W.cell? ⟨b,2,none⟩=some v2∧W.cell? ⟨b,3,none⟩=some v3∧W.cell? ⟨b,4,none⟩=some v4∧W.cell? ⟨b,5,none⟩=some v5∧W.cell? ⟨b,6,none⟩=some v6∧W.cell? ⟨b,7,none⟩=some v7∧W.cell? ⟨b,8,none⟩=some v8)∧
  (W.frozen? ⟨b,0,none⟩=false∧W.frozen? ⟨b,1,none⟩=false∧W.frozen? ⟨b,2,none⟩=false∧W.frozen? ⟨b,3,none⟩=false∧W.frozen? ⟨b,4,none⟩=false∧W.frozen? ⟨b,5,none⟩=false∧W.frozen? ⟨b,6,none⟩=false∧W.frozen? ⟨b,7,none⟩=false∧W.frozen? ⟨b,8,none⟩=false):=
 ⟨⟨(h.cell 0).trans rfl,(h.cell 1).trans rfl,(h.cell 2).trans rfl,(h.cell 3).trans rfl,(h.cell 4).trans rfl,(h.cell 5).trans rfl,(h.cell 6).trans rfl,(h.cell 7).trans rfl,(h.cell 8).trans rfl⟩,h.frozen 0,h.frozen 1,h.frozen 2,h.frozen 3,h.frozen 4,h.frozen 5,h.frozen 6,h.frozen 7,h.frozen 8⟩
theorem Row.e9six (h:Row W b (eq9 v0 v1 v2 v3 v4 v5 v6 v7 v8) t) (x1 x2 x3 x4 x5 x6:Value):Row ((((((W.setCell ⟨b,1,none⟩ x1).setCell ⟨b,2,none⟩ x2).setCell ⟨b,3,none⟩ x3).setCell ⟨b,4,none⟩ x4).setCell ⟨b,5,none⟩ x5).setCell ⟨b,6,none⟩ x6) b (eq9 v0 x1 x2 x3 x4 x5 x6 v7 v8) t:=by
 have:=(((((h.set 1 x1).set 2 x2).set 3 x3).set 4 x4).set 5 x5).set 6 x6
 simpa using this
theorem Row.e9all (h:Row W b (eq9 v0 v1 v2 v3 v4 v5 v6 v7 v8) t) (x0 x1 x2 x3 x4 x5 x6 x7 x8:Value):Row (((((((((W.setCell ⟨b,0,none⟩ x0).setCell ⟨b,1,none⟩ x1).setCell ⟨b,2,none⟩ x2).setCell ⟨b,3,none⟩ x3).setCell ⟨b,4,none⟩ x4).setCell ⟨b,5,none⟩ x5).setCell ⟨b,6,none⟩ x6).setCell ⟨b,7,none⟩ x7).setCell ⟨b,8,none⟩ x8) b (eq9 x0 x1 x2 x3 x4 x5 x6 x7 x8) t:=by
 have:=((((((((h.set 0 x0).set 1 x1).set 2 x2).set 3 x3).set 4 x4).set 5 x5).set 6 x6).set 7 x7).set 8 x8
 simpa using this
theorem upd_e9six (w:World) (g:Nat) (y1 y2 y3 y4 y5 y6:Value):Upd (fun x=>x=g) w ((((((w.setCell ⟨g,1,none⟩ y1).setCell ⟨g,2,none⟩ y2).setCell ⟨g,3,none⟩ y3).setCell ⟨g,4,none⟩ y4).setCell ⟨g,5,none⟩ y5).setCell ⟨g,6,none⟩ y6):=by
 have h0:Upd (fun x=>x=g) w w:=Upd.refl _ _
 exact (((((h0.setCell (p:=⟨g,1,none⟩) rfl y1).setCell (p:=⟨g,2,none⟩) rfl y2).setCell (p:=⟨g,3,none⟩) rfl y3).setCell (p:=⟨g,4,none⟩) rfl y4).setCell (p:=⟨g,5,none⟩) rfl y5).setCell (p:=⟨g,6,none⟩) rfl y6
theorem upd_e9all (w:World) (g:Nat) (y0 y1 y2 y3 y4 y5 y6 y7 y8:Value):Upd (fun x=>x=g) w (((((((((w.setCell ⟨g,0,none⟩ y0).setCell ⟨g,1,none⟩ y1).setCell ⟨g,2,none⟩ y2).setCell ⟨g,3,none⟩ y3).setCell ⟨g,4,none⟩ y4).setCell ⟨g,5,none⟩ y5).setCell ⟨g,6,none⟩ y6).setCell ⟨g,7,none⟩ y7).setCell ⟨g,8,none⟩ y8):=by
 have h0:=upd_six w g y0 y1 y2 y3 y4 y5
 exact ((h0.setCell (p:=⟨g,6,none⟩) rfl y6).setCell (p:=⟨g,7,none⟩) rfl y7).setCell (p:=⟨g,8,none⟩) rfl y8
end
abbrev EqH (w:World) (lo hi:Nat) (x:Eqn) (cs:List Value):Prop:=isEqn (hide lo w) hi x cs
theorem EqH.upd {X:Nat→Prop} {w w':World} {lo hi:Nat} {x:Eqn} {cs:List Value} (h:EqH w lo hi x cs) (hu:Upd X w w') (hX:∀k,X k→k<lo∨hi≤k) (hh:hi≤w.heap.size):EqH w' lo hi x cs:=isEqn_keep (keeps_of (hu.bhide hX hh)) (Nat.le_refl _) h
theorem EqH.wide {w:World} {lo lo' hi hi':Nat} {x:Eqn} {cs:List Value} (h:EqH w lo hi x cs) (hl:lo'≤lo) (hh:hi≤hi'):EqH w lo' hi' x cs:=isEqn_keep (hide_more hl hi w) hh h
theorem ExH.parts {w:World} {lo hi:Nat} {e:Ex} {A:Option Addr} {cap:Nat} (h:ExH w lo hi e A cap):ExOk e∧e.args.length≤cap∧cap≤maxLen∧IsExs (hide lo w) hi A e.args:=by
 obtain ⟨A',cap',h1,h2,h3,h4,h5⟩:=IsEx.open h
 simp only[exCells,List.cons.injEq,Value.slice.injEq,true_and,and_true] at h1
 obtain ⟨rfl,rfl⟩:=h1
 exact ⟨h2,h3,h4,h5⟩
theorem eqn_any {P:Pr} {o i n:Nat} {x:Eqn × Nat} {w:World} (h:PrAt w o P i) (hx:peqn P.l n i=some x):
  Calls Tryz.prog 88 #[.pointer (some ⟨o,0,none⟩),.int .i64 n] w fun r w'=>(∃cs,r= .returned (.agg cs.toArray)∧EqH w' w.heap.size w'.heap.size x.1 cs)∧PrL w o P x.2 w':=by
 obtain ⟨a,j,y,h1,h48,h2,h3,h4,hx1⟩:=peqn_is hx
 obtain ⟨ht,hk,-⟩:=pname_is h1
 have htk:=(h.tok ht).choose_spec.choose_spec.2.2.1
 have hol:=h.lt
 have b1:Below w.heap.size w (w.alloc (.cells (eq9 (.slice none 0 0) (.int .i64 0) (.string ⟨#[]⟩) (.int .i64 0) (.slice none 0 0) (.int .i64 0) (.int .i64 0) (.int .i64 0) (.int .i64 0)) 65)):=bE
 have rZ:=Row.new w (eq9 (.slice none 0 0) (.int .i64 0) (.string ⟨#[]⟩) (.int .i64 0) (.slice none 0 0) (.int .i64 0) (.int .i64 0) (.int .i64 0) (.int .i64 0)) 65
 have H0:=Lib.hid h
 have HN:=Lib.hid (fun (W:World) (hW:Below w.heap.size w W)=>now_any (h.bel hW) ht)
 have HL:=Lib.hid h1
 have HW:=Lib.hid h2
 have HE:=Lib.hid h3
 have HW2:=Lib.hid h4
 have HX1:=Lib.hid hx1
 have hk1:(a.1.kind !=1)=false:=by rw[hk];rfl
 have hn48:((n:Int)==48)=false:=by rw[beq_eq_false_iff_ne];omega
 have hs1:=b1.size
 have hlZ:=rZ.lt
 clear h hx hx1 h1 h2 h3 h4 hk
 go_enter Tryz.func88,Tryz.ntmps88
 go_upto_region 1 with (fail)
 change Code.wp _ _ _ _ (w.alloc (.cells (eq9 (.slice none 0 0) (.int .i64 0) (.string ⟨#[]⟩) (.int .i64 0) (.slice none 0 0) (.int .i64 0) (.int .i64 0) (.int .i64 0) (.int .i64 0)) 65))
 generalize w.alloc (.cells (eq9 (.slice none 0 0) (.int .i64 0) (.string ⟨#[]⟩) (.int .i64 0) (.slice none 0 0) (.int .i64 0) (.int .i64 0) (.int .i64 0) (.int .i64 0)) 65)=W1 at*
 go_wp2_with fail
 refine (HN.out _ b1).mono ?_
 rintro r w2 ⟨rfl,hb2⟩
 have hs2:=hb2.size
 have rQ:=Row.new w2 (eq9 (.slice none 0 0) (.int .i64 0) (.string ⟨#[]⟩) (.int .i64 0) (.slice none 0 0) (.int .i64 0) (.int .i64 0) (.int .i64 a.1.line) (.int .i64 a.1.col)) 65
 have b3:Below w2.heap.size w2 (w2.alloc (.cells (eq9 (.slice none 0 0) (.int .i64 0) (.string ⟨#[]⟩) (.int .i64 0) (.slice none 0 0) (.int .i64 0) (.int .i64 0) (.int .i64 a.1.line) (.int .i64 a.1.col)) 65)):=bE
 have hs3:=b3.size
 have hlQ:=rQ.lt
 have rZ3:=(rZ.below hb2 hlZ).below b3 (by omega)
 have b13:=b1.trans ((hb2.trans (b3.mono hs2)).mono hs1)
 go_upto_region 2 with (fail)
 change Code.wp _ _ _ _ (w2.alloc (.cells (eq9 (.slice none 0 0) (.int .i64 0) (.string ⟨#[]⟩) (.int .i64 0) (.slice none 0 0) (.int .i64 0) (.int .i64 0) (.int .i64 a.1.line) (.int .i64 a.1.col)) 65))
 generalize w2.alloc (.cells (eq9 (.slice none 0 0) (.int .i64 0) (.string ⟨#[]⟩) (.int .i64 0) (.slice none 0 0) (.int .i64 0) (.int .i64 0) (.int .i64 a.1.line) (.int .i64 a.1.col)) 65)=W3 at*
 go_wp2_with fail
 refine (HN.out _ b13).mono ?_
 rintro r w4 ⟨rfl,hb4⟩
 have hs4:=hb4.size
 have HLE:=Lib.hid (pleft_any (H0.out.bel (b13.trans (hb4.mono b13.size))) HL.out)
 go_wp2_with fail
 refine HLE.out.mono ?_
 rintro r w5 ⟨⟨v,rfl,hv⟩,q5⟩
 obtain ⟨Av,cv,rfl,hlv,hmv,slv⟩:=hv
 have hs5:=q5.2.size
 have rQ5:=q5.2.row (rQ.below hb4 (by omega)) (by omega)
 have rZ5:=q5.2.row (rZ3.below hb4 (by omega)) (by omega)
 have rQ6:Row (w5.setCell ⟨w2.heap.size,0,none⟩ (.slice Av 1 cv)) w2.heap.size (eq9 (.slice Av 1 cv) (.int .i64 0) (.string ⟨#[]⟩) (.int .i64 0) (.slice none 0 0) (.int .i64 0) (.int .i64 0) (.int .i64 a.1.line) (.int .i64 a.1.col)) 65:=by
  have:=rQ5.set 0 (.slice Av 1 cv)
  simpa using this
 have u6:Upd (fun x=>x=w2.heap.size) w5 (w5.setCell ⟨w2.heap.size,0,none⟩ (.slice Av 1 cv)):=(Upd.refl (fun x=>x=w2.heap.size) w5).setCell (p:=⟨w2.heap.size,0,none⟩) rfl _
 have UW5:Upd (fun x=>x=o∨w.heap.size≤x) w w5:=(Upd.of_below (b13.trans (hb4.mono b13.size))).trans (q5.2.mono (fun k e=>Or.inl e))
 obtain ⟨⟨c0,-⟩,z0,-⟩:=Row.e9 rQ5
 go_upto_region 7 with (fail)
 have rO6:=u6.row q5.1.row (by omega)
 have rZ6:=u6.row rZ5 (by omega)
 have UW6:=UW5.trans (u6.mono (Y:=fun x=>x=o∨w.heap.size≤x) (fun k e=>Or.inr (by omega)))
 have hs6:=u6.size
 clear c0 z0
 change Code.wp _ _ _ _ (w5.setCell ⟨w2.heap.size,0,none⟩ (.slice Av 1 cv))
 generalize w5.setCell ⟨w2.heap.size,0,none⟩ (.slice Av 1 cv)=W6 at*
 have HWA:=Lib.hid (want_any (H0.out.step rO6 (UW6.narrow (fun k hk e=>by omega))) ⟨#[61]⟩ HW.out)
 go_wp2_with fail
 refine HWA.out.mono ?_
 rintro r w7 ⟨rfl,q7⟩
 have hs7:=q7.2.size
 have HXA:Hid (Calls Tryz.prog 136 #[.pointer (some ⟨o,0,none⟩),.int .i64 0,.int .i64 1] w7 (ExRes w7 o P y.1 y.2.1 y.2.2)):=expr_any 40 P o j 0 1 w7 y.1 y.2.1 y.2.2 q7.1 HE.out (by omega) (by omega)
 go_wp2_with fail
 refine HXA.out.mono ?_
 rintro r w8 ⟨A2,cap2,rfl,hx8,h30,q8⟩
 have hs8:=q8.2.size
 have rQ8:=q8.2.row (q7.2.row rQ6 (by omega)) (by omega)
 have rZ8:=q8.2.row (q7.2.row rZ6 (by omega)) (by omega)
 have rQ9:=Row.e9six rQ8 (.int .i64 y.1.op) (.string y.1.name) (.int .i64 y.1.n) (.slice A2 y.1.args.length cap2) (.int .i64 y.1.line) (.int .i64 y.1.col)
 have u9:=upd_e9six w8 w2.heap.size (.int .i64 y.1.op) (.string y.1.name) (.int .i64 y.1.n) (.slice A2 y.1.args.length cap2) (.int .i64 y.1.line) (.int .i64 y.1.col)
 obtain ⟨⟨-,c1,c2,c3,c4,c5,c6,-,-⟩,-,z1,z2,z3,z4,z5,z6,-,-⟩:=Row.e9 rQ8
 go_upto_region 9 with (fail)
 change Code.wp _ _ _ _ ((((((w8.setCell ⟨w2.heap.size,1,none⟩ (.int .i64 y.1.op)).setCell ⟨w2.heap.size,2,none⟩ (.string y.1.name)).setCell ⟨w2.heap.size,3,none⟩ (.int .i64 y.1.n)).setCell ⟨w2.heap.size,4,none⟩ (.slice A2 y.1.args.length cap2)).setCell ⟨w2.heap.size,5,none⟩ (.int .i64 y.1.line)).setCell ⟨w2.heap.size,6,none⟩ (.int .i64 y.1.col))
 clear c1 c2 c3 c4 c5 c6 z1 z2 z3 z4 z5 z6
 generalize (((((w8.setCell ⟨w2.heap.size,1,none⟩ (.int .i64 y.1.op)).setCell ⟨w2.heap.size,2,none⟩ (.string y.1.name)).setCell ⟨w2.heap.size,3,none⟩ (.int .i64 y.1.n)).setCell ⟨w2.heap.size,4,none⟩ (.slice A2 y.1.args.length cap2)).setCell ⟨w2.heap.size,5,none⟩ (.int .i64 y.1.line)).setCell ⟨w2.heap.size,6,none⟩ (.int .i64 y.1.col)=W9 at*
 have hs9:=u9.size
 have rO9:=u9.row q8.1.row (by omega)
 have rZ9:=u9.row rZ8 (by omega)
 have UW9:=UW6.trans (((q7.2.trans q8.2).mono (Y:=fun x=>x=o∨w.heap.size≤x) (fun k e=>Or.inl e)).trans (u9.mono (fun k e=>Or.inr (by omega))))
 have HWB:=Lib.hid (want_any (H0.out.step rO9 (UW9.narrow (fun k hk e=>by omega))) ⟨#[59]⟩ HW2.out)
 go_wp2_with fail
 refine HWB.out.mono ?_
 rintro r w10 ⟨rfl,q10⟩
 have hs10:=q10.2.size
 have rQ10:=q10.2.row rQ9 (by omega)
 have rZ10:=q10.2.row rZ9 (by omega)
 obtain ⟨⟨p0,p1,p2,p3,p4,p5,p6,p7,p8⟩,-⟩:=Row.e9 rQ10
 obtain ⟨⟨x0,x1,x2,x3,x4,x5,x6,x7,x8⟩,e0,e1,e2,e3,e4,e5,e6,e7,e8⟩:=Row.e9 rZ10
 have HZ10:=Lib.hid rZ10
 have UW10:=Lib.hid (UW9.trans (q10.2.mono (Y:=fun x=>x=o∨w.heap.size≤x) (fun k e=>Or.inl e)))
 have HS10:Hid (Sl (hide W3.heap.size w10) w8.heap.size 1 isStr Av [a.1.text]):=by
  have u:Upd (fun k=>k<W3.heap.size) w5 w10:=(u6.mono (fun k e=>by omega)).trans ((((q7.2.trans q8.2).mono (fun k e=>by omega)).trans (u9.mono (fun k e=>by omega))).trans (q10.2.mono (fun k e=>by omega)))
  refine Sl.keep slv (fun p u' hp hc=>?_) (by omega) (fun _ _ _ h=>h)
  exact keeps_of (u.bhide (B:=W3.heap.size) (hi:=w5.heap.size) (fun k hk=>Or.inl hk) (Nat.le_refl _)) p u' hp (hide_more (by omega) w5.heap.size w5 p u' hp hc)
 have HX10:=Lib.hid ((hx8.upd ((u9.mono (Y:=fun k=>k<W3.heap.size) (fun k e=>by omega)).trans (q10.2.mono (fun k e=>by omega))) (fun k e=>Or.inl (by omega)) (Nat.le_refl _)).wide (lo':=W3.heap.size) (by omega) (Nat.le_refl _))
 go_wp2_with fail
 have u11:=upd_e9all w10 w.heap.size (.slice Av 1 cv) (.int .i64 y.1.op) (.string y.1.name) (.int .i64 y.1.n) (.slice A2 y.1.args.length cap2) (.int .i64 y.1.line) (.int .i64 y.1.col) (.int .i64 a.1.line) (.int .i64 a.1.col)
 refine bodyPost_ret (res1 rfl Tryz.underlying65 rfl (by kernel_rfl) rfl (Row.e9all HZ10.out (.slice Av 1 cv) (.int .i64 y.1.op) (.string y.1.name) (.int .i64 y.1.n) (.slice A2 y.1.args.length cap2) (.int .i64 y.1.line) (.int .i64 y.1.col) (.int .i64 a.1.line) (.int .i64 a.1.col))) rfl ⟨⟨[.slice Av 1 cv,.int .i64 y.1.op,.string y.1.name,.int .i64 y.1.n,.slice A2 y.1.args.length cap2,.int .i64 y.1.line,.int .i64 y.1.col,.int .i64 a.1.line,.int .i64 a.1.col],rfl,?_⟩,?_⟩
 ·obtain ⟨k1,k2,k3,k4⟩:=ExH.parts HX10.out
  have hs11:=u11.size
  rw[HX1.out]
  have h10:EqH w10 W3.heap.size w8.heap.size ⟨[a.1.text],y.1,a.1.line,a.1.col⟩ [.slice Av 1 cv,.int .i64 y.1.op,.string y.1.name,.int .i64 y.1.n,.slice A2 y.1.args.length cap2,.int .i64 y.1.line,.int .i64 y.1.col,.int .i64 a.1.line,.int .i64 a.1.col]:=by
   refine ⟨Av,cv,A2,cap2,rfl,⟨k1,?_,?_⟩,hlv,hmv,HS10.out,k2,k3,k4⟩
   ·exact wf_of ⟨by have:=htk.line;show _≤a.1.line;omega,by have:=htk.line;show a.1.line≤_;omega⟩
   ·exact wf_of ⟨by have:=htk.col;show _≤a.1.col;omega,by have:=htk.col;show a.1.col≤_;omega⟩
  exact (h10.upd u11 (fun k e=>Or.inl (by omega)) (by omega)).wide (by omega) (by omega)
 ·exact H0.out.fin (u11.row q10.1.row (by omega)) ((UW10.out.trans (u11.mono (fun k e=>Or.inr (by omega)))).narrow (fun k hk e=>by omega))
def hmv (b:Option Nat) (lo:Nat) (w:World):World:=match b with
 |some g=>hm g lo w
 |none=>hide lo w
section
variable {b b':Option Nat} {lo lo' hi:Nat} {w w':World}
theorem Upd.bhmv {X:Nat→Prop} (h:Upd X w w') (hX:∀k,X k→k<lo∨hi≤k∨b=some k) (hh:hi≤w.heap.size):Below hi (hmv b lo w) (hmv b lo w'):=by
 cases b with
 |none=>exact h.bhide (fun k hk=>by rcases hX k hk with h|h|h<;>first|omega|cases h) hh
 |some g=>exact h.bhm (fun k hk=>by rcases hX k hk with h|h|h<;>first|omega|(cases h;omega)) hh
theorem hmv_to (hi:Nat):Keeps hi (hmv b lo w) (hide lo w):=by
 cases b with
 |none=>exact fun _ _ _ h=>h
 |some g=>exact hm_to hi
theorem hmv_turn {g:Nat} (hb:b'=b∨b'=some g) (hg:hi≤g):Keeps hi (hmv b lo w) (hmv b' lo w):=by
 rcases hb with rfl|rfl
 ·exact fun _ _ _ h=>h
 ·exact fun p u hp h=>hm_of hg p u hp (hmv_to hi p u hp h)
theorem hmv_new (hb:∀g,b=some g→g<lo') (hl:lo≤lo') (hi:Nat):Keeps hi (hide lo' w) (hmv b lo w):=by
 cases b with
 |none=>exact hide_more hl hi w
 |some g=>
  intro p u hp h
  have hgl:=hb g rfl
  by_cases hp':p.block=g
  ·exfalso
   simp only[World.cell?,hide,Array.getElem?_mapIdx] at h
   cases hk:w.heap[p.block]? with
   |none=>rw[hk] at h;cases h
   |some o=>rw[hk] at h;simp only[Option.map_some] at h;rw[if_pos (by omega)] at h;cases h
  ·exact (mask_of (w:=hide lo w) hp').trans (hide_more hl hi w p u hp h)
end
structure OwnH {α:Type} (rel:World→Nat→α→List Value→Prop) (w:World) (base lo size:Nat) (e:TypeId) (v:Value) (l:List α) (css:List (List Value)):Prop where
 own:w.ownsRow base e size v l.length css.flatten
 len:css.length=l.length
 six:∀cs∈css,cs.length=size
 rel:∀(i:Nat) x cs,l[i]? =some x→css[i]? =some cs→rel (hmv v.ownBlock lo w) w.heap.size x cs
section
variable {α:Type} {rel:World→Nat→α→List Value→Prop} {w w':World} {base lo lo' size:Nat} {e:TypeId} {v v':Value} {l:List α} {css:List (List Value)} {x:α} {cs:List Value}
theorem OwnH.nil:OwnH rel w base lo size e (.slice none 0 0) [] []:=⟨World.ownsRow_nil _ _ _ _,rfl,fun _ h=>absurd h List.not_mem_nil,fun i x cs h=>absurd h (by simp)⟩
theorem OwnH.upd (hk:∀{W W':World} {B B':Nat},Keeps B W W'→B≤B'→∀x cs,rel W B x cs→rel W' B' x cs) {X:Nat→Prop} (h:OwnH rel w base lo size e v l css) (hu:Upd X w w') (hX:∀k,X k→k<lo) (hb:∀k,X k→k<base):OwnH rel w' base lo size e v l css:=
 ⟨own_updX h.own hu hb,h.len,h.six,fun i x cs h1 h2=>hk (keeps_of (hu.bhmv (hi:=w.heap.size) (fun k hk=>Or.inl (hX k hk)) (Nat.le_refl _))) hu.size x cs (h.rel i x cs h1 h2)⟩
theorem OwnH.snoc (hk:∀{W W':World} {B B':Nat},Keeps B W W'→B≤B'→∀x cs,rel W B x cs→rel W' B' x cs) (h:OwnH rel w base lo size e v l css) (ho:w'.ownsRow base e size v' (l.length+1) (css.flatten++cs)) (hg:w.grownBy w' v.ownBlock)
  (hb:v'.ownBlock=v.ownBlock∨v'.ownBlock=some w.heap.size) (hc:cs.length=size) (hx:rel (hmv v.ownBlock lo w) w.heap.size x cs):OwnH rel w' base lo size e v' (l++ [x]) (css++ [cs]):=by
 have hu:Upd (fun k=>v.ownBlock=some k) w w':=⟨hg.os,hg.tape,hg.output,hg.size,fun k hk hX=>hg.block k hk (fun e=>hX e.symm)⟩
 have hkk:∀y cy,rel (hmv v.ownBlock lo w) w.heap.size y cy→rel (hmv v'.ownBlock lo w') w'.heap.size y cy:=fun y cy hy=>
  hk (hmv_turn hb (Nat.le_refl _)) hg.size y cy (hk (keeps_of (hu.bhmv (hi:=w.heap.size) (fun k hk=>Or.inr (Or.inr hk)) (Nat.le_refl _))) (Nat.le_refl _) y cy hy)
 refine ⟨by simpa using ho,by simp[h.len],fun c hc'=>?_,fun i y cy h1 h2=>?_⟩
 ·rcases List.mem_append.1 hc' with h'|h'
  ·exact h.six c h'
  ·rw[List.mem_singleton.1 h'];exact hc
 ·rcases Nat.lt_or_ge i l.length with hi|hi
  ·rw[List.getElem?_append_left hi] at h1
   rw[List.getElem?_append_left (by rw[h.len];exact hi)] at h2
   exact hkk y cy (h.rel i y cy h1 h2)
  ·rw[List.getElem?_append_right hi] at h1
   rw[List.getElem?_append_right (by rw[h.len];exact hi),h.len] at h2
   have hil:i-l.length=0:=by
    have:=(List.getElem?_eq_some_iff.1 h1).1
    simp at this;omega
   rw[hil] at h1 h2
   cases h1;cases h2
   exact hkk x cs hx
theorem OwnH.slv (hk:∀{W W':World} {B B':Nat},Keeps B W W'→B≤B'→∀x cs,rel W B x cs→rel W' B' x cs) (h:OwnH rel w base lo size e v l css) (hl:lo≤base):SlV (hide lo w) w.heap.size size (rel (hide lo w) w.heap.size) v l:=by
 refine own_slx h.own hl rfl (fun i x hx=>?_)
 have hi:i<css.length:=by rw[h.len];exact (List.getElem?_eq_some_iff.1 hx).1
 refine ⟨css[i],h.six _ (List.getElem_mem hi),fun j hj=>?_,hk (hmv_to _) (Nat.le_refl _) x _ (h.rel i x _ hx (List.getElem?_eq_getElem hi))⟩
 exact (flatten_get h.six (List.getElem?_eq_getElem hi) hj).symm
end
end Go.Proofs.YtdkgkacnjdnpoaaGreat
