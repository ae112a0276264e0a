/-
  fold: which wires, and which cells, are wanted.
-/
import Derived.Test.YtckognjamlckcaaFolO
import Derived.Test.YtckognjamlckcaaFolL
import Derived.Deep.DeepCutAuto
namespace Go.Proofs.Ytckognjamlckcaa.Fo
open Vf Ar
structure WaI (f:Fm) (ws:List Bool) (P:Int→Prop):Prop where
 len:ws.length=f.wires.length
 snd:∀v,nd ws v→wantedW f v
 cmp:∀v,P v→nd ws v
structure CaI (f:Fm) (cs:List Bool) (k:Nat):Prop where
 len:cs.length=f.cells.length
 snd:∀c,nd cs c→∃x∈f.acts,x.op=21∧x.k=c
 cmp:∀j x,j<k→f.acts[j]? =some x→x.op=21→nd cs x.k
theorem nd_put {l:List Bool} {m:Nat} (hm:m<l.length) {v:Int}:nd (l.set m true) v↔nd l v∨v=m:=by
 unfold nd bGet
 rw[List.getD_eq_getElem?_getD,List.getD_eq_getElem?_getD,List.getElem?_set]
 constructor
 ·rintro ⟨h0,h1⟩
  by_cases e:m=v.toNat
  ·exact .inr (by omega)
  ·rw[if_neg e] at h1
   exact .inl ⟨h0,h1⟩
 ·rintro (⟨h0,h1⟩|rfl)
  ·refine ⟨h0,?_⟩
   by_cases e:m=v.toNat
   ·rw[if_pos e,if_pos hm];rfl
   ·rw[if_neg e];exact h1
  ·exact ⟨by omega,by rw[if_pos (by simp),if_pos hm];rfl⟩
theorem WaI.start (f:Fm):WaI f (List.replicate f.wires.length false) (fun _=>False):=⟨by simp,fun _ h=>(by have:=h.2;simp[bGet,List.getD_eq_getElem?_getD,List.getElem?_replicate] at this;split at this<;>simp at this),fun _ h=>h.elim⟩
theorem CaI.start (f:Fm):CaI f (List.replicate f.cells.length false) 0:=⟨by simp,fun _ h=>(by have:=h.2;simp[bGet,List.getD_eq_getElem?_getD,List.getElem?_replicate] at this;split at this<;>simp at this),fun _ _ h=>absurd h (by omega)⟩
theorem WaI.put {f:Fm} {ws:List Bool} {P P':Int→Prop} (h:WaI f ws P) {m:Nat} (hm:m<f.wires.length) (hw:wantedW f (m:Int)) (hP:∀v,P' v→P v∨v=m):WaI f (ws.set m true) P':=
 ⟨by simp[h.len],fun v hv=>((nd_put (by rw[h.len];exact hm)).1 hv).elim (h.snd v) (fun e=>e▸hw),fun v hv=>(nd_put (by rw[h.len];exact hm)).2 ((hP v hv).imp (h.cmp v) id)⟩
theorem WaI.mono {f:Fm} {ws:List Bool} {P P':Int→Prop} (h:WaI f ws P) (hP:∀v,P' v→P v):WaI f ws P':=⟨h.len,h.snd,fun v hv=>h.cmp v (hP v hv)⟩
theorem CaI.put {f:Fm} {cs:List Bool} {k:Nat} (h:CaI f cs k) {x:Ac} (hx:f.acts[k]? =some x) (ho:x.op=21) {m:Nat} (hk:x.k=m) (hm:m<f.cells.length):CaI f (cs.set m true) (k+1):=
 ⟨by simp[h.len],fun v hv=>((nd_put (by rw[h.len];exact hm)).1 hv).elim (h.snd v) (fun e=>⟨x,List.mem_of_getElem? hx,ho,by rw[hk,e]⟩),fun j y hj hy hoy=>by
  refine (nd_put (by rw[h.len];exact hm)).2 ?_
  rcases Nat.lt_or_ge j k with q|q
  ·exact .inl (h.cmp j y q hy hoy)
  ·obtain rfl:j=k:=by omega
   rw[hx] at hy
   injection hy with hy
   subst hy
   exact .inr hk⟩
theorem CaI.skip {f:Fm} {cs:List Bool} {k:Nat} (h:CaI f cs k) {x:Ac} (hx:f.acts[k]? =some x) (ho:x.op≠21):CaI f cs (k+1):=
 ⟨h.len,h.snd,fun j y hj hy hoy=>by
  rcases Nat.lt_or_ge j k with q|q
  ·exact h.cmp j y q hy hoy
  ·obtain rfl:j=k:=by omega
   rw[hx] at hy
   injection hy with hy
   subst hy
   exact absurd hoy ho⟩
theorem snoc_or {α:Type} {l:List α} {k:Nat} {x:α} (hx:l[k]? =some x) {Q:α→Prop} (h:∃j y,j<k+1∧l[j]? =some y∧Q y):(∃j y,j<k∧l[j]? =some y∧Q y)∨Q x:=by
 obtain ⟨j,y,hj,hy,hq⟩:=h
 rcases Nat.lt_or_ge j k with q|q
 ·exact .inl ⟨j,y,q,hy,hq⟩
 ·obtain rfl:j=k:=by omega
  rw[hx] at hy
  injection hy with hy
  subst hy
  exact .inr hq
theorem all_ex {α:Type} {l:List α} {Q:α→Prop} (h:∃x∈l,Q x):∃j y,j<l.length∧l[j]? =some y∧Q y:=by
 obtain ⟨x,hx,hq⟩:=h
 obtain ⟨j,hj⟩:=List.getElem?_of_mem hx
 exact ⟨j,x,(List.getElem?_eq_some_iff.1 hj).1,hj,hq⟩
end Go.Proofs.Ytckognjamlckcaa.Fo
namespace Go.Proofs.Ytckognjamlckcaa
open Go.RowKit Vf Fo
attribute [local go_sem ↓] Go.wp_at_zero Go.wp_at_succ
structure WaS (wc:World) (KW KC:Nat) (ws cs:List Bool) (W:World):Prop where
 rw:Row W KW (bls ws).toArray 4
 rc:Row W KC (bls cs).toArray 4
 upd:Upd (fun k=>k=KW∨k=KC) wc W
section
variable {wc W W':World} {KW KC:Nat} {ws cs:List Bool}
theorem WaS.below (h:WaS wc KW KC ws cs W) (hb:Below W.heap.size W W'):WaS wc KW KC ws cs W':=⟨h.rw.below hb h.rw.lt,h.rc.below hb h.rc.lt,h.upd.trans (Upd.of_below hb)⟩
theorem WaS.setW (h:WaS wc KW KC ws cs W) (hne:KW≠KC) (m:Nat):WaS wc KW KC (ws.set m true) cs (W.setCell ⟨KW,m,none⟩ (.bool true)):=
 ⟨ds_set h.rw true,(Upd.setCell (X:=fun k=>k=KW) (p:=⟨KW,m,none⟩) (Upd.refl _ W) rfl _).row h.rc (Ne.symm hne),Upd.setCell (X:=fun k=>k=KW∨k=KC) (p:=⟨KW,m,none⟩) h.upd (.inl rfl) _⟩
theorem WaS.setC (h:WaS wc KW KC ws cs W) (hne:KW≠KC) (m:Nat):WaS wc KW KC ws (cs.set m true) (W.setCell ⟨KC,m,none⟩ (.bool true)):=
 ⟨(Upd.setCell (X:=fun k=>k=KC) (p:=⟨KC,m,none⟩) (Upd.refl _ W) rfl _).row h.rw hne,ds_set h.rc true,Upd.setCell (X:=fun k=>k=KW∨k=KC) (p:=⟨KC,m,none⟩) h.upd (.inr rfl) _⟩
end
def WantIs (f:Fm) (w:World) (e:Ending) (w':World):Prop:=∃KW KC ws cs,e= .returned (.tuple #[.slice (some ⟨KW,0,none⟩) f.wires.length f.wires.length,.slice (some ⟨KC,0,none⟩) f.cells.length f.cells.length])∧Row w' KW (bls ws).toArray 4∧Row w' KC (bls cs).toArray 4∧ws.length=f.wires.length∧cs.length=f.cells.length∧(∀v,nd ws v↔wantedW f v)∧(∀c,nd cs c↔∃x∈f.acts,x.op=21∧x.k=c)∧Below w.heap.size w w'
set_option maxRecDepth 100000 in
set_option maxHeartbeats 32000000 in
theorem wanted_any {w:World} {f:Fm} {vw va vc vk vi vo:Value} (h:FmAt w w.heap.size f vw va vc vk vi vo) (hf:formOk f):
  Calls Try.prog 22 #[fmV vw va vc vk vi vo] w (WantIs f w):=by
 obtain ⟨Aw,cw,rfl,lw,mw,sw⟩:=h.wires
 obtain ⟨Aa,ca,rfl,la,ma,sa⟩:=h.acts
 obtain ⟨Acl,cc,rfl,lc,mc,_⟩:=h.cells
 obtain ⟨Ak,ck,rfl,lk,mk,sk⟩:=h.keeps
 obtain ⟨Ao,co,rfl,lo,mo,so⟩:=h.outs
 have mw':cw≤9223372036854775807:=by unfold maxLen at mw;omega
 have ma':ca≤9223372036854775807:=by unfold maxLen at ma;omega
 have mc':cc≤9223372036854775807:=by unfold maxLen at mc;omega
 have mk':ck≤9223372036854775807:=by unfold maxLen at mk;omega
 have mo':co≤9223372036854775807:=by unfold maxLen at mo;omega
 have hwl:=hf.1.2.2
 have hcl:=hf.2.2.2.1.2.1
 have HSW:=Lib.hid (fun W (hW:Below w.heap.size w W)=>(sw.keep (w':=W) (B':=w.heap.size) (rel':=isWr W w.heap.size) (fun p u hp hc=>(hW.cell hp).trans hc) (Nat.le_refl _) (fun _ _ _ g=>g.keep (fun p u hp hc=>(hW.cell hp).trans hc) (Nat.le_refl _))))
 have HSA:=Lib.hid (fun W (hW:Below w.heap.size w W)=>sa.below hW)
 have HSK:=Lib.hid (fun W (hW:Below w.heap.size w W)=>sk.below hW)
 have HSO:=Lib.hid (fun W (hW:Below w.heap.size w W)=>so.below hW)
 have b1:Below w.heap.size w (w.alloc (.cells #[.slice Aw f.wires.length cw,.slice Aa f.acts.length ca,.slice Acl f.cells.length cc,.slice Ak f.keeps.length ck,vi,.slice Ao f.outs.length co] 28)):=bE
 have rF:=Row.new w #[.slice Aw f.wires.length cw,.slice Aa f.acts.length ca,.slice Acl f.cells.length cc,.slice Ak f.keeps.length ck,vi,.slice Ao f.outs.length co] 28
 have HOK:=Lib.hid hf
 have mkW:=make_bools f.wires.length (by omega) (by omega)
 have mkC:=make_bools f.cells.length (by omega) (by omega)
 clear h sw sa sk so hf
 go_enter Try.func22,Try.ntmps22
 go_upto_region 1 with (fail)
 generalize w.alloc (.cells #[.slice Aw f.wires.length cw,.slice Aa f.acts.length ca,.slice Acl f.cells.length cc,.slice Ak f.keeps.length ck,vi,.slice Ao f.outs.length co] 28)=w1 at*
 have hs1:=b1.size
 have hFl:=rF.lt
 obtain ⟨f0,f1,f2,f3,f4,f5⟩:=rF.six'
 have f0':∀o:Obj,(w1.drew.alloc o).cell? ⟨w.heap.size,0,none⟩=some (.slice Aw f.wires.length cw):=fun o=>(rF.drew.alloc o).six'.1
 have f2':∀o:Obj,(w1.drew.alloc o).cell? ⟨w.heap.size,2,none⟩=some (.slice Acl f.cells.length cc):=fun o=>(rF.drew.alloc o).six'.2.2.1
 have HRF:=Lib.hid rF
 have HB1:=Lib.hid b1
 go_cut[2,3] (fun v2 v3 W=>∃KW KC,v2= .slice (some ⟨KW,0,none⟩) f.wires.length f.wires.length∧v3= .slice (some ⟨KC,0,none⟩) f.cells.length f.cells.length∧KW≠KC∧w1.heap.size≤KW∧w1.heap.size≤KC∧Hid (WaS W KW KC (List.replicate f.wires.length false) (List.replicate f.cells.length false) W)∧Below w1.heap.size w1 W)
 case first=>
  have rb:∀n,(Array.replicate n (Value.bool false))=(bls (List.replicate n false)).toArray:=fun n=>by simp[bls]
  have p1:=(Row.new w1.drew (Array.replicate f.wires.length (.bool false)) 4).alloc (.cells (Array.replicate f.cells.length (.bool false)) 4)
  have p2:=rowNew2 w1.drew (.cells (Array.replicate f.wires.length (.bool false)) 4) (Array.replicate f.cells.length (.bool false)) 4
  have p3:=(Row.new w1.drew (Array.replicate f.cells.length (.bool false)) 4).alloc (.cells (Array.replicate f.wires.length (.bool false)) 4)
  have p4:=rowNew2 w1.drew (.cells (Array.replicate f.cells.length (.bool false)) 4) (Array.replicate f.wires.length (.bool false)) 4
  have HP1:=Lib.hid p1
  have HP2:=Lib.hid p2
  have HP3:=Lib.hid p3
  have HP4:=Lib.hid p4
  have HRB:=Lib.hid rb
  clear p1 p2 p3 p4 rb
  go_region
  ·go_wp2_with fail
   go_meet
   exact ⟨_,_,rfl,rfl,by omega,by omega,by omega,⟨by rw[←HRB.out];exact HP1.out,by rw[←HRB.out];exact HP2.out,Upd.refl _ _⟩,bE⟩
  ·go_wp2_with fail
   go_meet
   exact ⟨_,_,rfl,rfl,by omega,by omega,by omega,⟨by rw[←HRB.out];exact HP4.out,by rw[←HRB.out];exact HP3.out,Upd.refl _ _⟩,bE⟩
 case rest=>
  clear mkW mkC f0' f2' f0 f1 f2 f3 f4 f5 rF
  obtain ⟨KW,KC,rfl,rfl,hne,hKW,hKC,HWS,hbc⟩:=hcut
  have HRG:Hid (∀W,Upd (fun k=>k=KW∨k=KC) wc W→Row W w.heap.size #[.slice Aw f.wires.length cw,.slice Aa f.acts.length ca,.slice Acl f.cells.length cc,.slice Ak f.keeps.length ck,vi,.slice Ao f.outs.length co] 28):=fun W u=>u.row (HRF.out.below hbc hFl) (fun g=>by omega)
  have HBB:Hid (∀W,Upd (fun k=>k=KW∨k=KC) wc W→Below w.heap.size w W):=fun W u=>b1.trans ((hbc.trans (u.below (fun k hk=>by omega) hbc.size)).mono hs1)
  clear hbc HRF HB1
  obtain ⟨f0,f1,f2,f3,f4,f5⟩:=(HRG.out _ HWS.out.upd).six'
  go_wp2_with fail
  clear f0 f1 f2 f3 f4 f5
  go_loopw[27] (fun i wr=>∃(k:Nat) (ws:List Bool),k≤f.outs.length∧i= .int .i64 k∧Hid (WaS wc KW KC ws (List.replicate f.cells.length false) wr)∧Hid (WaI f ws (fun v=>∃j y,j<k∧f.outs[j]? =some y∧y=v))) (fun i _=>f.outs.length-(intOf i).toNat)
  case atStart=>exact ⟨0,_,Nat.zero_le _,rfl,HWS.out,(WaI.start f).mono (fun v ⟨j,y,hj,_⟩=>absurd hj (by omega))⟩
  case round=>
   clear HWS
   obtain ⟨k,ws,hk,rfl,HWS,HWA⟩:=hrel
   by_cases hlt:k<f.outs.length
   ·have hk':(k:Int)<f.outs.length:=by omega
    obtain ⟨b,off,n,rfl,hbb,hx,wx,d0⟩:=(HSO.out _ (HBB.out _ HWS.out.upd)).int hlt
    have hn:=(HOK.out.2.2.1.1 n (List.mem_of_getElem? hx)).1
    obtain ⟨m,rfl⟩:=Int.eq_ofNat_of_zero_le hn.1
    have hm:m<f.wires.length:=by have:=hn.2;omega
    have hm':(m:Int)<f.wires.length:=by omega
    have cW:=ds_cell HWS.out.rw (n:=m) (by rw[HWA.out.len];exact hm)
    have fW:=HWS.out.rw.frozen m
    have HWA':Hid (WaI f (ws.set m true) (fun v=>∃j y,j<k+1∧f.outs[j]? =some y∧y=v)):=HWA.out.put hm (.inl (List.mem_of_getElem? hx)) (fun v q=>(snoc_or hx q).imp id (fun e=>e.symm))
    have HWS':=Lib.hid (HWS.out.setW hne m)
    generalize bGet ws (m:Int)=V at cW
    clear hx wx hn
    go_wp2_with fail
    go_roundw
    case rel=>exact ⟨k+1,_,by omega,by go_num,HWS'.out,HWA'.out⟩
    case measure=>simp[intOf];omega
   obtain rfl:k=f.outs.length:=by omega
   have HWA1:Hid (WaI f ws (fun v=>v∈f.outs)):=HWA.out.mono (fun v q=>all_ex (Q:=fun y=>y=v) ⟨v,q,rfl⟩)
   clear hlt hk HWA
   obtain ⟨f0,f1,f2,f3,f4,f5⟩:=(HRG.out _ HWS.out.upd).six'
   go_wp2_with fail
   clear f0 f1 f2 f3 f4 f5
   go_loopw[38] (fun i wr=>∃(k:Nat) (ws:List Bool),k≤f.wires.length∧i= .int .i64 k∧Hid (WaS wc KW KC ws (List.replicate f.cells.length false) wr)∧Hid (WaI f ws (fun v=>v∈f.outs∨∃j y,j<k∧f.wires[j]? =some y∧∃g∈y.clock,g.wire=v))) (fun i _=>f.wires.length-(intOf i).toNat)
   case atStart=>exact ⟨0,_,Nat.zero_le _,rfl,HWS.out,HWA1.out.mono (fun v q=>q.elim id (fun ⟨j,y,hj,_⟩=>absurd hj (by omega)))⟩
   case round=>
    clear HWS HWA1
    obtain ⟨k,ws,hk,rfl,HWS,HWA⟩:=hrel
    by_cases hlt:k<f.wires.length
    ·have hk':(k:Int)<f.wires.length:=by omega
     obtain ⟨b,off,x,Ag,cg,rfl,hbb,hx,wt,d0,d1,lg,mg,sg⟩:=(HSW.out _ (HBB.out _ HWS.out.upd)).wr hlt
     have mg':cg≤9223372036854775807:=by unfold maxLen at mg;omega
     have HX:=Lib.hid hx
     have b4:Below wr.heap.size wr (wr.alloc (.cells #[.int .i64 x.ty,.slice Ag x.clock.length cg] 44)):=bE
     have rX:=Row.new wr #[.int .i64 x.ty,.slice Ag x.clock.length cg] 44
     have HWS4:=Lib.hid (HWS.out.below b4)
     have HSG:Hid (∀W,Upd (fun k=>k=KW∨k=KC) wr W→Sl W w.heap.size 2 isGd Ag x.clock):=fun W u=>sg.below (u.below (fun k hk=>by omega) (HBB.out _ HWS.out.upd).size)
     have HUW:=Lib.hid (Upd.of_below (X:=fun k=>k=KW∨k=KC) b4)
     have hkw:=HWS.out.rw.lt
     have hkc:=HWS.out.rc.lt
     have hwi:∀g∈x.clock,isW f g.wire:=fun g hg=>by
      have e:clockOf f (k:Int)=x.clock:=by unfold clockOf;rw[wAt_some hx]
      exact (clock_ok HOK.out.1 (n:=(k:Int)) ⟨by omega,hk'⟩ g (by rw[e];exact hg)).1
     have HWI:=Lib.hid hwi
     clear hx wt sg hwi
     go_upto_region 10 with (fail)
     generalize hG:wr.heap.size=G at*
     generalize wr.alloc (.cells #[.int .i64 x.ty,.slice Ag x.clock.length cg] 44)=w4 at*
     obtain ⟨e0,e1⟩:=rX.two'
     clear d0 d1 b4
     go_wp2_with fail
     clear e0 e1
     go_loopw[45] (fun i wr=>∃(j:Nat) (ws:List Bool),j≤x.clock.length∧i= .int .i64 j∧Hid (WaS wc KW KC ws (List.replicate f.cells.length false) wr)∧Hid (WaI f ws (fun v=>(v∈f.outs∨∃j y,j<k∧f.wires[j]? =some y∧∃g∈y.clock,g.wire=v)∨∃i g,i<j∧x.clock[i]? =some g∧g.wire=v))∧Hid (Upd (fun k=>k=KW∨k=KC) w4 wr)) (fun i _=>x.clock.length-(intOf i).toNat)
     case atStart=>exact ⟨0,_,Nat.zero_le _,rfl,HWS4.out,HWA.out.mono (fun v q=>q.elim id (fun ⟨i,g,hi,_⟩=>absurd hi (by omega))),Upd.refl _ _⟩
     case round=>
      clear HWS4
      obtain ⟨j,ws2,hj,rfl,HWS2,HWA2,HU2⟩:=hrel
      by_cases hlt2:j<x.clock.length
      ·have hj':(j:Int)<x.clock.length:=by omega
       obtain ⟨b2,off2,g,rfl,hb2,hg,wg,g0,g1⟩:=(HSG.out _ (HUW.out.trans HU2.out)).gd hlt2
       have hn:=HWI.out g (List.mem_of_getElem? hg)
       have HWT:Hid (wantedW f g.wire):= .inr (.inl ⟨x,List.mem_of_getElem? HX.out,g,List.mem_of_getElem? hg,rfl⟩)
       have HG:=Lib.hid hg
       obtain ⟨gw,gn⟩:=g
       dsimp only at hn g0 g1
       obtain ⟨m,rfl⟩:=Int.eq_ofNat_of_zero_le hn.1
       have hm:m<f.wires.length:=by have:=hn.2;omega
       have hm':(m:Int)<f.wires.length:=by omega
       have b5:Below wr.heap.size wr (wr.alloc (.cells #[.int .i64 (m:Int),.bool gn] 65)):=bE
       have rY:=Row.new wr #[.int .i64 (m:Int),.bool gn] 65
       have HWS5:=Lib.hid (HWS2.out.below b5)
       have HU5:=Lib.hid (HU2.out.trans (Upd.of_below b5))
       have hkw2:=HWS2.out.rw.lt
       clear hn wg hg
       go_upto_region 13 with (fail)
       generalize wr.alloc (.cells #[.int .i64 (m:Int),.bool gn] 65)=w5 at*
       obtain ⟨e0,e1⟩:=rY.two'
       clear g0 g1 b5
       have cW:=ds_cell HWS5.out.rw (n:=m) (by rw[HWA2.out.len];exact hm)
       have fW:=HWS5.out.rw.frozen m
       have HWA':Hid (WaI f (ws2.set m true) (fun v=>(v∈f.outs∨∃j y,j<k∧f.wires[j]? =some y∧∃g∈y.clock,g.wire=v)∨∃i g,i<j+1∧x.clock[i]? =some g∧g.wire=v)):=HWA2.out.put hm HWT.out (fun v q=>by
        rcases q with q|q
        ·exact .inl (.inl q)
        ·exact (snoc_or HG.out (Q:=fun (g:Gd)=>g.wire=v) q).imp .inr (fun e=>e.symm))
       have HWS':=Lib.hid (HWS5.out.setW hne m)
       have HU':=Lib.hid (HU5.out.setCell (p:=⟨KW,m,none⟩) (.inl rfl) (.bool true))
       generalize bGet ws2 (m:Int)=V at cW
       clear HWT
       go_wp2_with fail
       go_roundw
       case rel=>exact ⟨j+1,_,by omega,by go_num,HWS'.out,HWA'.out,HU'.out⟩
       case measure=>simp[intOf];omega
      obtain rfl:j=x.clock.length:=by omega
      have HWA':Hid (WaI f ws2 (fun v=>v∈f.outs∨∃j y,j<k+1∧f.wires[j]? =some y∧∃g∈y.clock,g.wire=v)):=HWA2.out.mono (fun v q=>by
       rcases q with q|q
       ·exact .inl (.inl q)
       ·rcases snoc_or HX.out q with q|q
        ·exact .inl (.inr q)
        ·exact .inr (all_ex (Q:=fun (g:Gd)=>g.wire=v) q))
      go_wp2_with fail
      go_roundw
      case rel=>exact ⟨k+1,_,by omega,by go_num,HWS2.out,HWA'.out⟩
      case measure=>simp[intOf];omega
    obtain rfl:k=f.wires.length:=by omega
    have HWA2:Hid (WaI f ws (fun v=>v∈f.outs∨∃y∈f.wires,∃g∈y.clock,g.wire=v)):=HWA.out.mono (fun v q=>q.imp id (fun q=>all_ex (Q:=fun (y:Wr)=>∃g∈y.clock,g.wire=v) q))
    clear hlt hk HWA
    obtain ⟨f0,f1,f2,f3,f4,f5⟩:=(HRG.out _ HWS.out.upd).six'
    go_wp2_with fail
    clear f0 f1 f2 f3 f4 f5
    go_loopw[58] (fun i wr=>∃(k:Nat) (ws:List Bool),k≤f.keeps.length∧i= .int .i64 k∧Hid (WaS wc KW KC ws (List.replicate f.cells.length false) wr)∧Hid (WaI f ws (fun v=>(v∈f.outs∨∃y∈f.wires,∃g∈y.clock,g.wire=v)∨∃j y,j<k∧f.keeps[j]? =some y∧y.2=v))) (fun i _=>f.keeps.length-(intOf i).toNat)
    case atStart=>exact ⟨0,_,Nat.zero_le _,rfl,HWS.out,HWA2.out.mono (fun v q=>q.elim id (fun ⟨j,y,hj,_⟩=>absurd hj (by omega)))⟩
    case round=>
     clear HWS HWA2
     obtain ⟨k,ws,hk,rfl,HWS,HWA⟩:=hrel
     by_cases hlt:k<f.keeps.length
     ·have hk':(k:Int)<f.keeps.length:=by omega
      obtain ⟨b,off,⟨c0,fr⟩,rfl,hbb,hx,wx1,wx2,d0,d1⟩:=(HSK.out _ (HBB.out _ HWS.out.upd)).cell hlt
      have hn:isW f fr:=(HOK.out.2.2.2.1.2.2.1 _ (List.mem_of_getElem? hx)).2.2.1
      have HX:=Lib.hid hx
      dsimp only at d0 d1
      obtain ⟨m,rfl⟩:=Int.eq_ofNat_of_zero_le hn.1
      have hm:m<f.wires.length:=by have:=hn.2;omega
      have hm':(m:Int)<f.wires.length:=by omega
      have b5:Below wr.heap.size wr (wr.alloc (.cells #[.int .i64 c0,.int .i64 (m:Int)] 63)):=bE
      have rY:=Row.new wr #[.int .i64 c0,.int .i64 (m:Int)] 63
      have HWS5:=Lib.hid (HWS.out.below b5)
      have hkw2:=HWS.out.rw.lt
      clear hn wx1 wx2 hx
      go_upto_region 19 with (fail)
      generalize wr.alloc (.cells #[.int .i64 c0,.int .i64 (m:Int)] 63)=w5 at*
      obtain ⟨e0,e1⟩:=rY.two'
      clear d0 d1 b5
      have cW:=ds_cell HWS5.out.rw (n:=m) (by rw[HWA.out.len];exact hm)
      have fW:=HWS5.out.rw.frozen m
      have HWA':Hid (WaI f (ws.set m true) (fun v=>(v∈f.outs∨∃y∈f.wires,∃g∈y.clock,g.wire=v)∨∃j y,j<k+1∧f.keeps[j]? =some y∧y.2=v)):=HWA.out.put hm (.inr (.inr (.inl ⟨_,List.mem_of_getElem? HX.out,rfl⟩))) (fun v q=>by
       rcases q with q|q
       ·exact .inl (.inl q)
       ·exact (snoc_or HX.out (Q:=fun (y:Int × Int)=>y.2=v) q).imp .inr (fun e=>e.symm))
      have HWS':=Lib.hid (HWS5.out.setW hne m)
      generalize bGet ws (m:Int)=V at cW
      go_wp2_with fail
      go_roundw
      case rel=>exact ⟨k+1,_,by omega,by go_num,HWS'.out,HWA'.out⟩
      case measure=>simp[intOf];omega
     obtain rfl:k=f.keeps.length:=by omega
     have HWA3:Hid (WaI f ws (fun v=>v∈f.outs∨(∃y∈f.wires,∃g∈y.clock,g.wire=v)∨∃y∈f.keeps,y.2=v)):=HWA.out.mono (fun v q=>by
      rcases q with q|q|q
      ·exact .inl (.inl q)
      ·exact .inl (.inr q)
      ·exact .inr (all_ex (Q:=fun (y:Int × Int)=>y.2=v) q))
     clear hlt hk HWA
     obtain ⟨f0,f1,f2,f3,f4,f5⟩:=(HRG.out _ HWS.out.upd).six'
     go_wp2_with fail
     clear f0 f1 f2 f3 f4 f5
     go_loopw[70] (fun i wr=>∃(k:Nat) (ws cs:List Bool),k≤f.acts.length∧i= .int .i64 k∧Hid (WaS wc KW KC ws cs wr)∧Hid (WaI f ws (fun v=>(v∈f.outs∨(∃y∈f.wires,∃g∈y.clock,g.wire=v)∨∃y∈f.keeps,y.2=v)∨∃j y,j<k∧f.acts[j]? =some y∧v∈wants y))∧Hid (CaI f cs k)) (fun i _=>f.acts.length-(intOf i).toNat)
     case atStart=>exact ⟨0,_,_,Nat.zero_le _,rfl,HWS.out,HWA3.out.mono (fun v q=>q.elim id (fun ⟨j,y,hj,_⟩=>absurd hj (by omega))),CaI.start f⟩
     case round=>
      clear HWS HWA3
      obtain ⟨k,ws,cs,hk,rfl,HWS,HWA,HCA⟩:=hrel
      by_cases hlt:k<f.acts.length
      ·have hk':(k:Int)<f.acts.length:=by omega
       obtain ⟨b,off,x,rfl,hbb,hx,wx,d0,d1,d2,d3,d4,d5⟩:=(HSA.out _ (HBB.out _ HWS.out.upd)).ac hlt
       have hok:=HOK.out.2.2.2.2.2.1 x (List.mem_of_getElem? hx)
       have HX:=Lib.hid hx
       have HP:=Lib.hid (fun W=>parts_any x wx hok.2.2.2.1 W)
       have HWI:Hid (∀n∈wants x,isW f n):=fun n hn=>by
        obtain ⟨_,q⟩:=wants_uses hok.2.2.2.1 hn
        rcases q with rfl|⟨_,rfl⟩|⟨_,rfl⟩
        ·exact hok.1
        ·exact hok.2.1
        ·exact hok.2.2.1
       have HK21:Hid (x.op=21→0≤x.k∧x.k<f.cells.length):=fun ho=>by
        have:=hok.2.2.2.2.2.2.2.2
        rw[if_neg (by omega),if_neg (by omega),if_pos ho] at this
        exact ⟨this.1,this.2.1⟩
       clear hx wx hok
       obtain ⟨xo,xd,xa,xb,xc,xk⟩:=x
       dsimp only at d0 d1 d2 d3 d4 d5 HK21
       have b4:Below wr.heap.size wr (wr.alloc (.cells #[.int .i64 xo,.int .i64 xd,.int .i64 xa,.int .i64 xb,.int .i64 xc,.int .i64 xk] 50)):=bE
       have rX:=Row.new wr #[.int .i64 xo,.int .i64 xd,.int .i64 xa,.int .i64 xb,.int .i64 xc,.int .i64 xk] 50
       have HWS4:=Lib.hid (HWS.out.below b4)
       have hkw:=HWS.out.rw.lt
       have hkc:=HWS.out.rc.lt
       go_upto_region 24 with (fail)
       generalize hG:wr.heap.size=G at*
       generalize wr.alloc (.cells #[.int .i64 xo,.int .i64 xd,.int .i64 xa,.int .i64 xb,.int .i64 xc,.int .i64 xk] 50)=w4 at*
       have hGl:=rX.lt
       obtain ⟨e0,e1,e2,e3,e4,e5⟩:=rX.six'
       clear d0 d1 d2 d3 d4 d5 b4
       go_wp2_with fail
       (with_reducible refine (HP.out w4).mono ?_)
       rintro e w6 ⟨v,rfl,hv,hvo,hb6⟩
       have rX6:=rX.below hb6 hGl
       have HWS6:=Lib.hid (HWS4.out.below hb6)
       obtain ⟨Av,cv,rfl,lv,mv,_⟩:=id hv
       have mv':cv≤9223372036854775807:=by unfold maxLen at mv;omega
       have HSV:Hid (∀W,Upd (fun k=>k=KW∨k=KC) w6 W→SlV W w6.heap.size 1 isInt (.slice Av (wants ⟨xo,xd,xa,xb,xc,xk⟩).length cv) (wants ⟨xo,xd,xa,xb,xc,xk⟩)):=fun W u=>sl_updX hv u (Nat.le_refl _) (fun k hk g=>by
        have:=hvo k hk
        have h1:=HWS4.out.rw.lt
        have h2:=HWS4.out.rc.lt
        omega)
       have HRX:Hid (∀W,Upd (fun k=>k=KW∨k=KC) w6 W→Row W G #[.int .i64 xo,.int .i64 xd,.int .i64 xa,.int .i64 xb,.int .i64 xc,.int .i64 xk] 50):=fun W u=>u.row rX6 (fun g=>by omega)
       clear hv hvo e0 e1 e2 e3 e4 e5 HP HWS4 hb6
       generalize hwl:wants ⟨xo,xd,xa,xb,xc,xk⟩=wl at*
       have HWL:=Lib.hid hwl
       clear hwl
       go_wp2_with fail
       go_loopw[77] (fun i wr=>∃(j:Nat) (ws:List Bool),j≤wl.length∧i= .int .i64 j∧Hid (WaS wc KW KC ws cs wr)∧Hid (WaI f ws (fun v=>((v∈f.outs∨(∃y∈f.wires,∃g∈y.clock,g.wire=v)∨∃y∈f.keeps,y.2=v)∨∃j y,j<k∧f.acts[j]? =some y∧v∈wants y)∨∃i g,i<j∧wl[i]? =some g∧g=v))∧Hid (Upd (fun k=>k=KW∨k=KC) w6 wr)) (fun i _=>wl.length-(intOf i).toNat)
       case atStart=>exact ⟨0,_,Nat.zero_le _,rfl,HWS6.out,HWA.out.mono (fun v q=>q.elim id (fun ⟨i,g,hi,_⟩=>absurd hi (by omega))),Upd.refl _ _⟩
       case round=>
        clear HWS6
        obtain ⟨j,ws2,hj,rfl,HWS2,HWA2,HU2⟩:=hrel
        by_cases hlt2:j<wl.length
        ·have hj':(j:Int)<wl.length:=by omega
         obtain ⟨A',c',hA',_,_,sl⟩:=HSV.out _ HU2.out
         injection hA' with hA1 _ hA3
         subst hA1;subst hA3
         obtain ⟨b5,off5,n,rfl,hb5,hg,wg,g0⟩:=sl.int hlt2
         have hn:=HWI.out n (List.mem_of_getElem? hg)
         have HWT:Hid (wantedW f n):= .inr (.inr (.inr ⟨_,List.mem_of_getElem? HX.out,by rw[HWL.out];exact List.mem_of_getElem? hg⟩))
         have HG:=Lib.hid hg
         obtain ⟨m,rfl⟩:=Int.eq_ofNat_of_zero_le hn.1
         have hm:m<f.wires.length:=by have:=hn.2;omega
         have hm':(m:Int)<f.wires.length:=by omega
         have cW:=ds_cell HWS2.out.rw (n:=m) (by rw[HWA2.out.len];exact hm)
         have fW:=HWS2.out.rw.frozen m
         have HWA':Hid (WaI f (ws2.set m true) (fun v=>((v∈f.outs∨(∃y∈f.wires,∃g∈y.clock,g.wire=v)∨∃y∈f.keeps,y.2=v)∨∃j y,j<k∧f.acts[j]? =some y∧v∈wants y)∨∃i g,i<j+1∧wl[i]? =some g∧g=v)):=HWA2.out.put hm HWT.out (fun v q=>by
          rcases q with q|q
          ·exact .inl (.inl q)
          ·exact (snoc_or HG.out (Q:=fun (g:Int)=>g=v) q).imp .inr (fun e=>e.symm))
         have HWS':=Lib.hid (HWS2.out.setW hne m)
         have HU':=Lib.hid (HU2.out.setCell (p:=⟨KW,m,none⟩) (.inl rfl) (.bool true))
         generalize bGet ws2 (m:Int)=V at cW
         clear HWT hn hg wg sl
         go_wp2_with fail
         go_roundw
         case rel=>exact ⟨j+1,_,by omega,by go_num,HWS'.out,HWA'.out,HU'.out⟩
         case measure=>simp[intOf];omega
        obtain rfl:j=wl.length:=by omega
        have HWA':Hid (WaI f ws2 (fun v=>(v∈f.outs∨(∃y∈f.wires,∃g∈y.clock,g.wire=v)∨∃y∈f.keeps,y.2=v)∨∃j y,j<k+1∧f.acts[j]? =some y∧v∈wants y)):=HWA2.out.mono (fun v q=>by
         rcases q with q|q
         ·exact .inl (.inl q)
         ·rcases snoc_or HX.out q with q|q
          ·exact .inl (.inr q)
          ·rw[HWL.out] at q
           exact .inr (all_ex (Q:=fun (g:Int)=>g=v) ⟨v,q,rfl⟩))
        obtain ⟨e0,e1,e2,e3,e4,e5⟩:=(HRX.out _ HU2.out).six'
        by_cases ho:xo=21
        rotate_left 1
        ·have ho':(xo==21)=false:=by simp[ho]
         have HCA':=Lib.hid (HCA.out.skip HX.out ho)
         clear ho
         go_wp2_with fail
         go_roundw
         case rel=>exact ⟨k+1,_,_,by omega,by go_num,HWS2.out,HWA'.out,HCA'.out⟩
         case measure=>simp[intOf];omega
        have ho':(xo==21)=true:=by simp[ho]
        have hkk:=HK21.out ho
        obtain ⟨m,rfl⟩:=Int.eq_ofNat_of_zero_le hkk.1
        have hm:m<f.cells.length:=by omega
        have hm':(m:Int)<f.cells.length:=by omega
        have cW:=ds_cell HWS2.out.rc (n:=m) (by rw[HCA.out.len];exact hm)
        have fW:=HWS2.out.rc.frozen m
        have HCA':=Lib.hid (HCA.out.put HX.out ho rfl hm)
        have HWS':=Lib.hid (HWS2.out.setC hne m)
        generalize bGet cs (m:Int)=V at cW
        clear ho hkk
        go_wp2_with fail
        go_roundw
        case rel=>exact ⟨k+1,_,_,by omega,by go_num,HWS'.out,HWA'.out,HCA'.out⟩
        case measure=>simp[intOf];omega
      obtain rfl:k=f.acts.length:=by omega
      have HE:Hid (WantIs f w (.returned (.tuple #[.slice (some ⟨KW,0,none⟩) f.wires.length f.wires.length,.slice (some ⟨KC,0,none⟩) f.cells.length f.cells.length])) wr):=
       ⟨KW,KC,ws,cs,rfl,HWS.out.rw,HWS.out.rc,HWA.out.len,HCA.out.len,fun v=>⟨HWA.out.snd v,fun q=>HWA.out.cmp v (by
        rcases q with q|q|q|q
        ·exact .inl (.inl q)
        ·exact .inl (.inr (.inl q))
        ·exact .inl (.inr (.inr q))
        ·exact .inr (all_ex (Q:=fun (y:Ac)=>v∈wants y) q))⟩,fun c=>⟨HCA.out.snd c,fun ⟨x,hx,ho,hk⟩=>by
        obtain ⟨j,hj⟩:=List.getElem?_of_mem hx
        have:=HCA.out.cmp j x (List.getElem?_eq_some_iff.1 hj).1 hj ho
        rwa [hk] at this⟩,HBB.out _ HWS.out.upd⟩
      go_wp2_with fail
      go_ret2
      exact HE.out
end Go.Proofs.Ytckognjamlckcaa
