/-
  A tick of what is emitted is a tick of the form, and its cells fit again: plain. The walk of the law EmitSays.
-/
import Derived.Test.YtbjaejgechadpaaGreatEmR
import Derived.Test.YtbjaejgechadpaaGreatEmE
import Derived.Test.YtbjaejgechadpaaGreatRefTickO
import Derived.Test.YtbjaejgechadpaaGreatEmW
import Derived.Test.YtbjaejgechadpaaGreatRwA
import Derived.Test.YtbjaejgechadpaaGreatNmA
import Derived.Test.YtbjaejgechadpaaGreatSemIJ
import Derived.Test.YtbjaejgechadpaaGreatLookZ
namespace Go.Proofs.YtbjaejgechadpaaGreat
open Go.RowKit Vf Fo Z
theorem tick_emit {f:Fm} {code:List In5} (hf:orderedOk f) (he:Emits f code) (cs row:List Int):(tick (progOf f code) cs row).1.out=outF f cs row∧(tick (progOf f code) cs row).1.next=nextF f cs row f.keeps cs:=by
 have h:=emit_tick hf.1 (cs:=cs) (row:=row) hf.2 he
 have e:tk0 (progOf f code) cs=⟨List.replicate f.wires.length 0,cs,List.replicate f.outs.length 0⟩:=by simp[tk0,progOf]
 unfold tick
 rw[e]
 exact h
def MachOk (f:Fm) (code:List In5) (cs:List Int):Prop:=machFits (progOf f code) cs∧AllIn cs∧cs.length=f.cells.length
theorem mach_start {f:Fm} {code:List In5} (hr:rightOk (progOf f code)) (hc:∀x∈f.cells,Wf x.2):MachOk f code (f.cells.map (·.2)):=
 ⟨first_fits (p:=progOf f code) hr.1,fun v hv=>by
  obtain ⟨x,hx,rfl⟩:=List.mem_map.1 hv
  exact wf_In (hc x hx),by simp⟩
theorem mach_next {f:Fm} {code:List In5} {cs row:List Int} (hf:orderedOk f) (he:Emits f code) (hr:rightOk (progOf f code)) (hk:codeIn (progOf f code)) (h:MachOk f code cs) (hi:insFit (progOf f code).ins row) (hiI:AllIn row):MachOk f code (nextF f cs row f.keeps cs):=by
 have ht:=tick_inv hr h.1 hi h.2.1 hiI hk
 rw[←(tick_emit hf he cs row).2]
 exact ⟨⟨ht.nlen,ht.nfit⟩,ht.nin,ht.nlen⟩
theorem ins_fit {f:Fm} {code:List In5} {row:List Int} (hr:rightOk (progOf f code)) (hl:row.length=f.ins.length) (h:∀(j:Nat) x y,(f.ins.map (tyOf f))[j]? =some x→row[j]? =some y→x=2→y=0∨y=1):fitsOk (progOf f code).ins row:=
 ⟨hr.1.2.2.1,by rw[hl];simp[progOf],h⟩
end Go.Proofs.YtbjaejgechadpaaGreat
namespace Go.Proofs.YtbjaejgechadpaaGreat.emitSays
open Go.RowKit Vf Fo Ar
attribute [local go_sem ↓] Go.wp_at_zero Go.wp_at_succ
def RowFit (f:Fm) (x:List Int):Prop:=x.length=f.ins.length∧∀(j:Nat) t y,(f.ins.map (tyOf f))[j]? =some t→x[j]? =some y→t=2→y=0∨y=1
theorem upd_below {B R:Nat} {W W':World} (u:Upd (fun k=>k=R) W W') (hR:B≤R) (hB:B≤W.heap.size):Below B W W':=u.below (fun k e=>by omega) hB
theorem sl_upd {R B:Nat} {W W':World} {v:Value} {l:List Int} (h:SlV W B 1 isInt v l) (u:Upd (fun k=>k=R) W W') (hB:B≤W.heap.size) (hv:∀k,v.ownBlock=some k→k≠R):SlV W' B 1 isInt v l:=by
 obtain ⟨A,c,rfl,h1,h2,h3⟩:=h
 refine ⟨A,c,rfl,h1,h2,fun hn=>?_⟩
 obtain ⟨b,off,rfl,hb,hx⟩:=h3 hn
 refine ⟨b,off,rfl,hb,fun i x hi=>?_⟩
 obtain ⟨cs,q1,q2⟩:=hx i x hi
 refine ⟨cs,fun j v hv'=>?_,q2⟩
 have hne:=hv b rfl
 have:=u.block b (by omega) hne
 have g:=q1 j v hv'
 simp only[World.cell?] at g⊢
 rw[this]
 exact g
theorem rows_next {w W:World} {B:Nat} {v:Value} {l:List (List Int)} (h:SlV w B 1 (isRw w B) v l) (hb:Below B w W) (hB:B≤W.heap.size):SlV W W.heap.size 1 (isRw W W.heap.size) v l:=
 (rowsV_below h hb).keep (fun _ _ _ hc=>hc) hB (fun _ _ _ g=>by
  obtain ⟨v,h1,h2⟩:=g
  exact ⟨v,h1,h2.more hB⟩)
set_option maxRecDepth 100000 in
set_option maxHeartbeats 16000000 in
theorem walk0 (f:Fm) (rows:List (List Int)) (vw va vc vk vi vo v1:Value) (w:World) (h:FmAt w w.heap.size f vw va vc vk vi vo) (h1:RowsIs w rows v1):
  Calls Tryz.prog 3 #[fmV vw va vc vk vi vo,v1] w fun e w'=>e= .returned (.bool true)∧Below w.heap.size w w':=by
 have hcw:∀x∈f.cells,Wf x.2:=fun x hx=>by
  obtain ⟨A,c,_,_,_,s⟩:=h.cells
  exact (s.all (P:=fun (x:Int × Int)=>Wf x.1∧Wf x.2) (fun x cs g=>g.2) x hx).2
 have HCW:=Lib.hid hcw
 obtain ⟨Aw,cw,rfl,_,_,_⟩:=id h.wires
 obtain ⟨Aa,ca,rfl,_,_,_⟩:=id h.acts
 obtain ⟨Acc,cc,rfl,_,_,_⟩:=id h.cells
 obtain ⟨Akk,ck,rfl,_,_,_⟩:=id h.keeps
 obtain ⟨Ai,ci,rfl,li,mi,_⟩:=id h.ins
 obtain ⟨Ao,co,rfl,_,_,_⟩:=id h.outs
 have HRW:=Lib.hid (fun W (hW:Below w.heap.size w W)=>rows_next h1 hW hW.size)
 obtain ⟨Ar,cr,rfl,lr,mr,_⟩:=id h1
 have mr':cr≤9223372036854775807:=by unfold maxLen at mr;omega
 have b1:Below w.heap.size w (w.alloc (.cells #[(.slice Aw f.wires.length cw),(.slice Aa f.acts.length ca),(.slice Acc f.cells.length cc),(.slice Akk f.keeps.length ck),(.slice Ai f.ins.length ci),(.slice Ao f.outs.length co)] 28)):=bE
 have rF:=Row.new w #[(.slice Aw f.wires.length cw),(.slice Aa f.acts.length ca),(.slice Acc f.cells.length cc),(.slice Akk f.keeps.length ck),(.slice Ai f.ins.length ci),(.slice Ao f.outs.length co)] 28
 have HFM:=Lib.hid (fun W (hW:Below w.heap.size w W)=>(h.below hW).more hW.size)
 have HRB:=Lib.hid (fun W (hW:Below w.heap.size w W)=>rowsV_below h1 hW)
 clear h h1 hcw
 go_enter Tryz.func3,Tryz.ntmps3
 go_upto_region 1 with (fail)
 generalize w.alloc (.cells #[(.slice Aw f.wires.length cw),(.slice Aa f.acts.length ca),(.slice Acc f.cells.length cc),(.slice Akk f.keeps.length ck),(.slice Ai f.ins.length ci),(.slice Ao f.outs.length co)] 28)=w1 at*
 have hs1:=b1.size
 have HF6:Hid (∀W,Below w1.heap.size w1 W→W.cell? ⟨w.heap.size,0,none⟩=some (.slice Aw f.wires.length cw)∧W.cell? ⟨w.heap.size,1,none⟩=some (.slice Aa f.acts.length ca)∧W.cell? ⟨w.heap.size,2,none⟩=some (.slice Acc f.cells.length cc)∧W.cell? ⟨w.heap.size,3,none⟩=some (.slice Akk f.keeps.length ck)∧W.cell? ⟨w.heap.size,4,none⟩=some (.slice Ai f.ins.length ci)∧W.cell? ⟨w.heap.size,5,none⟩=some (.slice Ao f.outs.length co)):=fun W hW=>(rF.below hW rF.lt).six'
 clear rF
 go_wp2_with fail
 refine (awake30_any _).mono ?_
 rintro e w2 ⟨rfl,hb2⟩
 have b2:=b1.trans (hb2.mono hs1)
 obtain ⟨f0,f1,f2,f3,f4,f5⟩:=HF6.out _ hb2
 have HFW:=Lib.hid (few30_any (HFM.out _ b2) (Nat.le_refl _))
 go_wp2_with fail
 (with_reducible refine HFW.out.mono ?_)
 rintro e w3 ⟨⟨b,rfl,HB⟩,hb3⟩
 have b3:=b2.trans (hb3.mono b2.size)
 have hq3:=hb2.trans (hb3.mono hb2.size)
 clear f0 f1 f2 f3 f4 f5 HFW hb2 hb3 b1 b2
 cases b
 ·go_wp2_with fail
  go_ret
  exact ⟨rfl,b3⟩
 obtain ⟨⟨_,_,hla,hlc,_,hli,hlo⟩,_⟩:=HB.out rfl
 obtain ⟨f0,f1,f2,f3,f4,f5⟩:=HF6.out _ hq3
 have hs3:=b3.size
 have hs3':=hq3.size
 clear HB
 have HF2:=Lib.hid (few22_any rows _ _ w3 (HRW.out _ b3))
 have HRT:=Lib.hid (rordered_any f _ _ _ _ _ _ w3 (HFM.out _ b3) (by omega) (by omega))
 go_wp2_with fail
 (with_reducible refine HF2.out.mono ?_)
 rintro e _ ⟨⟨b,rfl,HB⟩,rfl⟩
 cases b
 ·go_wp2_with fail
  go_ret
  exact ⟨rfl,b3⟩
 obtain ⟨hr12,_⟩:=HB.out rfl
 clear HF2 HB
 by_cases hf:orderedOk f
 rotate_left 1
 ·rw[cB_false hf] at HRT
  go_wp2_with fail
  (with_reducible refine HRT.out.mono ?_)
  rintro e w4 ⟨rfl,hb4⟩
  have b4:=b3.trans (hb4.mono hs3)
  go_wp2_with fail
  go_ret
  exact ⟨rfl,b4⟩
 rw[cB_true hf] at HRT
 have HOK:=Lib.hid hf
 have HIW:=Lib.hid (fun n hn=>(hf.1.2.1.1 n hn).1)
 clear hf
 go_wp2_with fail
 (with_reducible refine HRT.out.mono ?_)
 rintro e w4 ⟨rfl,hb4⟩
 have b4:=Lib.hid (b3.trans (hb4.mono hs3))
 have hq4:=Lib.hid (hq3.trans (hb4.mono hs3'))
 clear f0 f1 f2 f3 f4 f5 HRT b3 hq3 hs3 hs3' hb4
 go_wp2_with fail
 go_loopw[35] (fun i wr=>∃k:Nat,k≤rows.length∧i= .int .i64 k∧Hid (∀j,j<k→∀x,rows[j]? =some x→RowFit f x)∧Hid (Below w4.heap.size w4 wr)) (fun i _=>rows.length-(intOf i).toNat)
 case atStart=>exact ⟨0,Nat.zero_le _,rfl,fun j hj=>absurd hj (by omega),Below.refl _ _⟩
 case round=>
  obtain ⟨k,hk,rfl,HN,HBR⟩:=hrel
  have hbr:=b4.out.trans (HBR.out.mono b4.out.size)
  have hqr:=hq4.out.trans (HBR.out.mono hq4.out.size)
  by_cases hlt:k<rows.length
  ·obtain ⟨A',c',hA',_,_,sl⟩:=HRW.out _ hbr
   injection hA' with hA1 _ hA3
   subst hA1;subst hA3
   obtain ⟨b,off,x,Ax,cx,rfl,hbb,hx,d0,lx,mx,sx⟩:=sl_rw sl hlt
   have hk':(k:Int)<rows.length:=by omega
   have HX:=Lib.hid hx
   have HSX:=Lib.hid (fun W (hW:Below wr.heap.size wr W)=>(sx.below hW).more hW.size)
   have HTY:=Lib.hid (rtypes24_any (HFM.out _ hbr) (Nat.le_refl _) f.ins _ (HFM.out _ hbr).ins (by omega) HIW.out)
   have HLX:=Lib.hid (And.intro lx mx)
   obtain ⟨f0,f1,f2,f3,f4,f5⟩:=HF6.out _ hqr
   have hsr:=hbr.size
   have hsr':=HBR.out.size
   clear hx sl sx lx mx
   go_wp2_with fail
   (with_reducible refine HTY.out.mono ?_)
   rintro e w5 ⟨vt,rfl,hst,hb5⟩
   have HFT:=Lib.hid (fits04_any (f.ins.map (tyOf f)) x vt _ _ w5 hst ⟨_,_,rfl,HLX.out.1,HLX.out.2,HSX.out _ hb5⟩)
   have hbn:=hbr.trans (hb5.mono hsr)
   have HBN:=Lib.hid (HBR.out.trans (hb5.mono hsr'))
   clear f0 f1 f2 f3 f4 f5 HTY hst
   go_wp2_with fail
   (with_reducible refine HFT.out.mono ?_)
   rintro e _ ⟨⟨b,rfl,HBB⟩,rfl⟩
   cases b
   ·go_wp2_with fail
    go_ret
    exact ⟨rfl,hbn⟩
   have HN':=Lib.hid (upto_succ HN.out (fun x' hx'=>by rw[HX.out] at hx';injection hx' with hx';rw[←hx'];exact ⟨by rw[(HBB.out rfl).1,List.length_map],(HBB.out rfl).2⟩))
   clear HFT HBB
   go_wp2_with fail
   go_roundw
   case rel=>exact ⟨k+1,by omega,by go_num,HN',HBN⟩
   case measure=>simp[intOf];omega
  ·obtain rfl:k=rows.length:=by omega
   have HRL:Hid (∀x∈rows,RowFit f x):=fun x hx=>by
    obtain ⟨j,hj⟩:=List.getElem?_of_mem hx
    exact HN.out j (List.getElem?_eq_some_iff.1 hj).1 x hj
   have HO:=Lib.hid (emit_any f _ _ _ _ _ _ wr (HFM.out _ hbr) (by omega))
   obtain ⟨f0,f1,f2,f3,f4,f5⟩:=HF6.out _ hqr
   clear HN
   go_wp2_with fail
   (with_reducible refine HO.out.mono ?_)
   rintro e w5 ⟨hout,hb5⟩
   have b5:=hbr.trans (hb5.mono hbr.size)
   have hq5:=hqr.trans (hb5.mono hqr.size)
   have hs5:=b5.size
   have hs5':=hq5.size
   clear f0 f1 f2 f3 f4 f5 HO hb5
   unfold EmOut pg0V at hout
   rcases hout with ⟨hno,rfl⟩|⟨_,code,hem,⟨_,rfl⟩|⟨hle,vi',vo',vc',vd',rfl,hpg⟩⟩
   ·exact (hno HOK.out).elim
   ·have b6:Below w5.heap.size w5 (w5.alloc (.cells #[.slice none 0 0,.slice none 0 0,.int .i64 0,.slice none 0 0,.slice none 0 0] 37)):=bE
    clear hem
    go_wp2_with fail
    go_ret
    exact ⟨rfl,b5.trans (b6.mono hs5)⟩
   have HRO:=Lib.hid (emit_right HOK.out hem hle)
   have HEM:=Lib.hid hem
   obtain ⟨A0,c0,hv0,_,_,_⟩:=id hpg.ins
   obtain ⟨A1,c1,hv1,_,_,_⟩:=id hpg.outs
   obtain ⟨A3,c3,hv3,_,_,_⟩:=id hpg.cells
   obtain ⟨A4,c4,hv4,_,_,_⟩:=id hpg.code
   have e0:(progOf f code).ins.length=f.ins.length:=List.length_map ..
   have e1:(progOf f code).outs.length=f.outs.length:=List.length_map ..
   rw[e0] at hv0
   rw[e1] at hv1
   change vc'= .slice A3 f.cells.length c3 at hv3
   change vd'= .slice A4 code.length c4 at hv4
   subst hv0;subst hv1;subst hv3;subst hv4
   have HPG0:=Lib.hid (fun W (hW:Below w5.heap.size w5 W)=>hpg.next hW)
   have HCI:=Lib.hid (pg_in hpg)
   have b6:Below w5.heap.size w5 (w5.alloc (.cells #[(.slice A0 f.ins.length c0),(.slice A1 f.outs.length c1),(.int .i64 (progOf f code).regs),(.slice A3 f.cells.length c3),(.slice A4 code.length c4)] 37)):=bE
   have rP:=Row.new w5 #[(.slice A0 f.ins.length c0),(.slice A1 f.outs.length c1),(.int .i64 (progOf f code).regs),(.slice A3 f.cells.length c3),(.slice A4 code.length c4)] 37
   clear hem hle hpg e0 e1
   go_upto_region 12 with (fail)
   generalize w5.alloc (.cells #[(.slice A0 f.ins.length c0),(.slice A1 f.outs.length c1),(.int .i64 (progOf f code).regs),(.slice A3 f.cells.length c3),(.slice A4 code.length c4)] 37)=w6 at*
   have hs56:=b6.size
   have b7:=b5.trans (b6.mono hs5)
   have hq7:=hq5.trans (b6.mono hs5')
   have hs7:=b7.size
   have hs7':=hq7.size
   have HPG:=Lib.hid (fun W (hW:Below w6.heap.size w6 W)=>HPG0.out W (b6.trans (hW.mono hs56)))
   have HF:=Lib.hid (fun W (hW:Below w6.heap.size w6 W)=>HFM.out W (b7.trans (hW.mono hs7)))
   have HRR:=Lib.hid (fun W (hW:Below w6.heap.size w6 W)=>HRW.out W (b7.trans (hW.mono hs7)))
   have HF66:=Lib.hid (fun W (hW:Below w6.heap.size w6 W)=>HF6.out W (hq7.trans (hW.mono hs7')))
   have HBB:=Lib.hid (fun W (hW:Below w6.heap.size w6 W)=>b7.trans (hW.mono hs7))
   clear HPG0 HFM HRW HF6 b5 hq5 hs5 hs5' b6 b7 hq7 hs7 hs7' hs56 hbr hqr
   obtain ⟨p0,p1,p2,p3,p4⟩:=rP.five'
   have HVR:Hid (Calls Tryz.prog 11 #[.agg #[(.slice A0 f.ins.length c0),(.slice A1 f.outs.length c1),(.int .i64 (progOf f code).regs),(.slice A3 f.cells.length c3),(.slice A4 code.length c4)]] w6 fun e w'=>e= .returned (.bool true)∧Below w6.heap.size w6 w'):=by
    have:=vright_any (progOf f code) _ _ _ _ w6 (HPG.out _ (Below.refl _ _))
    rw[cB_true HRO.out] at this
    exact this
   go_wp2_with fail
   (with_reducible refine HVR.out.mono ?_)
   rintro e w7 ⟨rfl,hb7⟩
   have hs67:=hb7.size
   have rP7:=rP.below hb7 rP.lt
   obtain ⟨f0,f1,f2,f3,f4,f5⟩:=HF66.out _ hb7
   have HNW:=Lib.hid (new_any f _ _ _ _ _ _ w7 (HF.out _ hb7) (by omega) (by omega) (by omega) HCW.out)
   clear p0 p1 p2 p3 p4 HVR
   go_wp2_with fail
   (with_reducible refine HNW.out.mono ?_)
   rintro e w8 ⟨R,vC,vP,rfl,hrun,hb8⟩
   have hb68:=hb7.trans (hb8.mono hs67)
   have hs68:=hb68.size
   have rP8:=rP7.below hb8 rP7.lt
   obtain ⟨p0,p1,p2,p3,p4⟩:=rP8.five'
   have HFI:=Lib.hid (rfirst_any (progOf f code) _ _ _ _ w8 (HPG.out _ hb68) (by show f.cells.length≤100000;omega))
   have hRlt:=hrun.rlt
   have hRB:=hrun.bR
   clear f0 f1 f2 f3 f4 f5 HNW hb7 hb8
   go_wp2_with fail
   (with_reducible refine HFI.out.mono ?_)
   rintro e w9 ⟨v9,rfl,hown9,hb9⟩
   have hb69:=hb68.trans (hb9.mono hs68)
   have hs69:=hb69.size
   have HRUN9:Hid (RunI f (f.cells.map (·.2)) w7.heap.size R (.slice Aw f.wires.length cw) (.slice Aa f.acts.length ca) (.slice Acc f.cells.length cc) (.slice Akk f.keeps.length ck) (.slice Ai f.ins.length ci) (.slice Ao f.outs.length co) vC vP w9):=hrun.upd (X:=fun _=>False) (Upd.of_below hb9) (fun _ h=>h.elim) (fun h=>h) (fun _ _ _ _ _ h=>h) (fun _ _ _ _ _ h=>h)
   have hnil9:=own_nilOk hown9
   have hv9:SlV w9 w9.heap.size 1 isInt v9 (f.cells.map (·.2)):=own_ints hown9 (fun x hx=>by
    obtain ⟨y,hy,rfl⟩:=List.mem_map.1 hx
    exact wf_In (HCW.out y hy))
   have hR9:R<w9.heap.size:=by have:=hb9.size;omega
   have hn9:∀k,v9.ownBlock=some k→k≠R:=fun k hk e=>by have:=(hown9.lt k hk).1;omega
   have HM9:=Lib.hid (mach_start HRO.out HCW.out)
   clear p0 p1 p2 p3 p4 HFI hrun hown9 hb9 hb68 hs68
   have hwB:w.heap.size≤w6.heap.size:=(HBB.out w6 (Below.refl _ _)).size
   go_wp2_with fail
   go_loopw[10,67] (fun c i wr=>∃(k:Nat) (cs:List Int),k≤rows.length∧i= .int .i64 k∧SlV wr wr.heap.size 1 isInt c cs∧NilOk c∧Hid (∀b,c.ownBlock=some b→b≠R)∧Hid (MachOk f code cs)∧Hid (∃vC',RunI f cs w7.heap.size R (.slice Aw f.wires.length cw) (.slice Aa f.acts.length ca) (.slice Acc f.cells.length cc) (.slice Akk f.keeps.length ck) (.slice Ai f.ins.length ci) (.slice Ao f.outs.length co) vC' vP wr)∧Below w6.heap.size w6 wr∧R<wr.heap.size) (fun _ i _=>rows.length-(intOf i).toNat)
   case atStart=>exact ⟨0,_,Nat.zero_le _,rfl,hv9,hnil9,hn9,HM9.out,⟨vC,HRUN9.out⟩,hb69,hR9⟩
   case round=>
    clear hv9 hnil9
    obtain ⟨k,cs,hk,rfl,hvc,hnil,HNE,HMO,HRN,hbr,hRl⟩:=hrel
    have hbw:=HBB.out _ hbr
    have hsr:=hbr.size
    by_cases hlt:k<rows.length
    rotate_left 1
    ·obtain rfl:k=rows.length:=by omega
     go_wp2_with fail
     go_ret
     exact ⟨rfl,hbw⟩
    obtain ⟨A',c',hA',_,_,sl⟩:=HRB.out _ hbw
    injection hA' with hA1 _ hA3
    subst hA1;subst hA3
    obtain ⟨b,off,x,Ax,cx,rfl,hbb,hx,d0,lx,mx,sx⟩:=sl_rw sl hlt
    have hk0:(0:Int)≤(k:Int):=by omega
    have hk':(k:Int)<rows.length:=by omega
    have hfit:=HRL.out x (List.mem_of_getElem? hx)
    have HFIT:=Lib.hid (ins_fit (code:=code) HRO.out hfit.1 hfit.2)
    have HSX:=Lib.hid (fun W (hW:Below w.heap.size wr W)=>sx.below hW)
    have HIX:Hid (AllIn x):=fun v hv=>wf_In (sx.all (P:=fun v=>Wf v) (fun v cs g=>g.2) v hv)
    obtain ⟨vC1,hrun⟩:=HRN.out
    have HT:=Lib.hid (tick_any HOK.out.1 HMO.out.2.2 hfit.1 hrun (fun W' u=>⟨Ax,cx,rfl,lx,mx,(HSX.out W' (upd_below u (by omega) (by omega))).more (by omega)⟩))
    have HLX:=Lib.hid (And.intro lx mx)
    clear hx sl sx lx mx hfit hrun HRN
    go_wp2_with fail
    (with_reducible refine HT.out.mono ?_)
    rintro e w10 ⟨v13,vC2,rfl,hown,hwf,hrun2,u10⟩
    have hb10:Below w6.heap.size w6 w10:=hbr.trans (upd_below u10 (by omega) hsr)
    have hs10:=u10.size
    have hsb10:=hb10.size
    have hvc10:=(sl_upd hvc u10 (Nat.le_refl _) HNE.out).more hs10
    have hvx10:SlV w10 w10.heap.size 1 isInt (.slice Ax x.length cx) x:=⟨Ax,cx,rfl,HLX.out.1,HLX.out.2,(HSX.out w10 (upd_below u10 (by omega) (by omega))).more (by omega)⟩
    have hwant:=ownI hown hwf
    have rP10:=rP.below hb10 rP.lt
    obtain ⟨p0,p1,p2,p3,p4⟩:=rP10.five'
    have hcl:cs.length≤100000:=by have:=HMO.out.2.2;omega
    have HX:=Lib.hid (rtick_any (progOf f code) HRO.out _ _ _ _ w10 (HPG.out _ hb10) cs x _ _ ⟨hvc10,hnil⟩ hvx10 hcl)
    clear HT hown hvc hvc10 hvx10 u10
    go_wp2_with fail
    (with_reducible refine HX.out.mono ?_)
    rintro e w11 ⟨hb11,⟨_,_,vn,vo,rfl,hnx,hou,hnil',hown'⟩|⟨hno,_⟩⟩
    rotate_left 1
    ·exact (hno ⟨HMO.out.1,HFIT.out⟩).elim
    rw[(tick_emit HOK.out HEM.out cs x).2] at hnx
    rw[(tick_emit HOK.out HEM.out cs x).1] at hou
    generalize (tick (progOf f code) cs x).2=ticks at*
    have hs11:=hb11.size
    have hb611:=hb10.trans (hb11.mono hsb10)
    have hwant11:=(hwant.below hb11).more hb11.size
    have hrun3:=hrun2.upd (X:=fun _=>False) (Upd.of_below hb11) (fun _ h=>h.elim) (fun h=>h) (fun _ _ _ _ _ h=>h) (fun _ _ _ _ _ h=>h)
    have HI1:=Lib.hid (fints_any (outF f cs x) (outF f cs x) vo v13 _ w11 hou hwant11)
    rw[cB_true rfl] at HI1
    have HMN:=Lib.hid (mach_next HOK.out HEM.out HRO.out HCI.out HMO.out (fits_ins HFIT.out) HIX.out)
    clear p0 p1 p2 p3 p4 HX hwant hwant11 hou hwf hrun2
    go_wp2_with fail
    (with_reducible refine HI1.out.mono ?_)
    rintro e w12' ⟨rfl,n12,rfl⟩
    have hb12:Below w11.heap.size w11 (w11.drewN n12):=below_drewN' (Below.refl _ _) n12
    generalize w11.drewN n12=w12 at*
    have hs12:=hb12.size
    have hrun4:=hrun3.upd (X:=fun _=>False) (Upd.of_below hb12) (fun _ h=>h.elim) (fun h=>h) (fun _ _ _ _ _ h=>h) (fun _ _ _ _ _ h=>h)
    have hnx12:=(hnx.below hb12).more hs12
    have hb612:=hb611.trans (hb12.mono hb611.size)
    obtain ⟨x7,x8,x9,hrow⟩:=id hrun4.r
    have q6:w12.cell? ⟨R,6,none⟩=some vC2:=(hrow.cell 6).trans rfl
    obtain ⟨nC,hC⟩:=id hrun4.c
    have HI2:=Lib.hid (fints_any (nextF f cs x f.keeps cs) (nextF f cs x f.keeps cs) vn vC2 _ w12 hnx12 (ownI hC hrun4.cw))
    rw[cB_true rfl] at HI2
    clear HI1 hnx hrun3 hrow hC
    go_wp2_with fail
    (with_reducible refine HI2.out.mono ?_)
    rintro e w13' ⟨rfl,n13,rfl⟩
    have hb13:Below w12.heap.size w12 (w12.drewN n13):=below_drewN' (Below.refl _ _) n13
    generalize w12.drewN n13=w13 at*
    have hs13:=hb13.size
    have hrun5:=hrun4.upd (X:=fun _=>False) (Upd.of_below hb13) (fun _ h=>h.elim) (fun h=>h) (fun _ _ _ _ _ h=>h) (fun _ _ _ _ _ h=>h)
    clear q6 HI2
    go_wp2_with fail
    go_roundw
    case rel=>exact ⟨k+1,_,by omega,by go_num,(hnx12.below hb13).more hs13,hnil',(fun b hb e=>by have:=hown' b hb;omega),HMN.out,⟨vC2,hrun5⟩,hb612.trans (hb13.mono hb612.size),by omega⟩
    case measure=>simp[intOf];omega
theorem walk (f:Fm) (v:Value) (rows:List (List Int)) (v1:Value) (w:World) (h:FmIs w f v) (h1:RowsIs w rows v1):Calls Tryz.prog 3 #[v,v1] w fun e w'=>e= .returned (.bool true)∧Below w.heap.size w w':=by
 obtain ⟨vw,va,vc,vk,vi,vo,rfl,ha⟩:=h
 exact walk0 f rows vw va vc vk vi vo v1 w ha h1
end Go.Proofs.YtbjaejgechadpaaGreat.emitSays
