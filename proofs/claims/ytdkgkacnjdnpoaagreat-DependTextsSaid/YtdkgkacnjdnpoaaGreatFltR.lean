/-
  flat's looker: row.
-/
import Derived.Test.YtdkgkacnjdnpoaaGreatZz
import Derived.Test.YtdkgkacnjdnpoaaGreatFltS
import Derived.Test.YtdkgkacnjdnpoaaGreatFltD
set_option maxHeartbeats 16000000
set_option maxRecDepth 100000
namespace Go.Proofs.YtdkgkacnjdnpoaaGreat.Q
open Go.RowKit Vf Fo
attribute [local go_sem ↓] Go.wp_at_zero Go.wp_at_succ
theorem info_bls:(Tryz.prog.info? 53).map (fun i=>(i.zero,i.size,i.bytes))=some (some (.slice none 0 0),1,24):=by kernel_rfl
theorem make_bls (n:Int) (h0:0≤n) (h1:n≤1600) (W:World):(Instr.makeSlice 42 (.int .i64 n) (.int .i64 n)).run Tryz.prog W= .ok (.slice (some ⟨W.heap.size,0,none⟩) n.toNat n.toNat) (W.alloc (.cells (List.replicate n.toNat (.slice none 0 0)).toArray 53)):=by
 obtain ⟨i0,hi0,hz0,hz1,hz2⟩:=info_parts info_bls
 rw[run_make (P:=Tryz.prog) W 42 53 i0 (.slice none 0 0) rfl hi0 hz0 .i64 .i64 n n h0 (Int.le_refl _) (by rw[hz2];omega) (by omega),hz1,Nat.mul_one,←made_one_g]
 rfl
structure HsAt (W:World) (H:Nat) (f:Fl) (k:Nat) (vs:List Value):Prop where
 row:Row W H vs.toArray 53
 len:vs.length=f.wires.length
 ok:∀i:Nat,i<k→∃M hs,vs[i]? =some (.slice (some ⟨M,0,none⟩) f.wires.length f.wires.length)∧H<M∧Row W M (bls hs).toArray 4∧hs.length=f.wires.length∧∀c:Nat,bGet hs c=true↔Hang f i c
theorem HsAt.zero {W:World} {H:Nat} {f:Fl} {vs:List Value} (h:Row W H vs.toArray 53) (hl:vs.length=f.wires.length):HsAt W H f 0 vs:=⟨h,hl,fun i hi=>absurd hi (by omega)⟩
theorem HsAt.upd {W W':World} {H D:Nat} {f:Fl} {k:Nat} {vs:List Value} (h:HsAt W H f k vs) (hD:W.heap.size≤D) (u:Upd (fun x=>x=D) W W'):HsAt W' H f k vs:=
 ⟨u.row h.row (by have:=h.row.lt;omega),h.len,fun i hi=>by
  obtain ⟨M,hs,h1,h2,h3,h4,h5⟩:=h.ok i hi
  exact ⟨M,hs,h1,h2,u.row h3 (by have:=h3.lt;omega),h4,h5⟩⟩
theorem HsAt.next {W W':World} {H M:Nat} {f:Fl} {k:Nat} {vs:List Value} {hs:List Bool} (h:HsAt W H f k vs) (hk:k<f.wires.length) (u:Upd (fun x=>x=H) W W') (hH:Row W' H (vs.set k (.slice (some ⟨M,0,none⟩) f.wires.length f.wires.length)).toArray 53) (hM:H<M) (hr:Row W' M (bls hs).toArray 4) (hl:hs.length=f.wires.length) (hc:∀c:Nat,bGet hs c=true↔Hang f k c):
  HsAt W' H f (k+1) (vs.set k (.slice (some ⟨M,0,none⟩) f.wires.length f.wires.length)):=
 ⟨hH,by rw[List.length_set];exact h.len,fun i hi=>by
  by_cases e:i=k
  ·subst e
   exact ⟨M,hs,by rw[List.getElem?_set_self (by rw[h.len];exact hk)],hM,hr,hl,hc⟩
  ·obtain ⟨M',hs',h1,h2,h3,h4,h5⟩:=h.ok i (by omega)
   exact ⟨M',hs',by rw[List.getElem?_set_ne (fun q=>e q.symm)];exact h1,h2,u.row h3 (by omega),h4,h5⟩⟩
section
variable {f:Fl}
theorem acts_mem {d:Int × Ex} (h:d∈f.defs):(⟨0,d.1,0,0,0,0⟩:Ac)∈f.fm.acts:=List.mem_map.2 ⟨d,h,rfl⟩
theorem fl_hd (h:definedOk f.fm):∀d∈f.defs,isW f.fm d.1:=fun _ hd=>(h.2.1 _ (acts_mem hd)).1
theorem fl_hni (h:definedOk f.fm):∀n∈f.ins,∀d∈f.defs,d.1≠n:=fun n hn _ hd e=>(h.2.1 _ (acts_mem hd)).2 (by dsimp only;rw[e];exact hn)
theorem fl_hu (h:definedOk f.fm):∀d∈f.defs,∀d'∈f.defs,d.1=d'.1→d=d':=fun d hd d' hd' e=>by
 obtain ⟨i,hi⟩:=List.getElem?_of_mem hd
 obtain ⟨j,hj⟩:=List.getElem?_of_mem hd'
 rcases Nat.lt_trichotomy i j with g|g|g
 ·exact absurd e (h.2.2.1 i j _ _ g (acts_at hi) (acts_at hj))
 ·subst g;rw[hi] at hj;injection hj
 ·exact absurd e.symm (h.2.2.1 j i _ _ g (acts_at hj) (acts_at hi))
theorem fl_cov (h:definedOk f.fm):Cov f:=fun i hi=>(h.2.2.2 i hi).imp id (fun ⟨a,ha,e⟩=>by
 obtain ⟨d,hd,rfl⟩:=List.mem_map.1 ha
 exact ⟨d,hd,e⟩)
theorem hang_no (h:definedOk f.fm) {k:Nat} (hk:(k:Int)∈f.ins) (c:Int):¬Hang f k c:=fun ⟨d,hd,e,_⟩=>fl_hni h _ hk d hd e
theorem hang_yes (h:definedOk f.fm) {k:Nat} {d:Int × Ex} (hd:d∈f.defs) (e:d.1=k) {x:Wr} (hx:f.wires[k]? =some x) (c:Int):Hang f k c↔c∈wantE d.2++x.clock.map (·.wire):=by
 have hc:clockOf f.fm (k:Int)=x.clock:=by unfold clockOf;rw[wAt_some (f:=f.fm) hx]
 rw[List.mem_append,List.mem_map]
 constructor
 ·rintro ⟨d',hd',e',h'⟩
  obtain rfl:=fl_hu h d' hd' d hd (e'.trans e.symm)
  rw[hc] at h'
  exact h'
 ·intro h'
  exact ⟨d,hd,e,by rw[hc];exact h'⟩
theorem hang_w (hw:WantW f) {i c:Int} (h:Hang f i c):isW f.fm c:=by
 obtain ⟨d,hd,e,h|⟨g,hg,h⟩⟩:=h
 ·exact (hw d hd).1 c h
 ·rw[←h];exact (hw d hd).2 g (by rw[e];exact hg)
end
theorem bGet_rep (n:Nat) (c:Int):bGet (List.replicate n false) c=false:=by
 simp only[bGet,List.getD_eq_getElem?_getD,List.getElem?_replicate]
 split<;>rfl
theorem bls_zero (n:Nat):bls (List.replicate n false)=List.replicate n (.bool false):=by simp[bls]
theorem frow_any {w:World} {B D K:Nat} {f:Fl} {vw vd vi vo:Value} {bs:List Int} (h:FkAt w B D f vw vd vi vo (.slice (some ⟨K,0,none⟩) f.wires.length f.wires.length)) (hK:Row w K (ints bs).toArray 3) (hbl:bs.length=f.wires.length) (hby:ByS f bs) (hb1:(-1:Int)∉bs) (hwl:f.wires.length≤1600)
  (hpl:∀d∈f.defs,plainE f d.2) (hww:WantW f) (hdo:definedOk f.fm) (hin:∀n∈f.ins,isW f.fm n) (hco:wiresOkL f):
  Calls Tryz.prog 69 #[.pointer (some ⟨D,0,none⟩)] w fun e w'=>e= .returned (.bool (cB (∀n:Nat,n<f.wires.length→DoneL f n)))∧Below w.heap.size w w':=by
 have hBD:=h.lo
 have hDlt:=h.row.lt
 have hKlt:=hK.lt
 obtain ⟨q0,q1,q2,q3,q4⟩:=h.five
 obtain ⟨Aw,cw,rfl,lw,mw,sw⟩:=h.fl.wires
 obtain ⟨Ad,cd,rfl,ld,md,sd⟩:=h.fl.defs
 have mw':cw≤9223372036854775807:=by unfold maxLen at mw;omega
 have md':cd≤9223372036854775807:=by unfold maxLen at md;omega
 have HFK:=Lib.hid (fun W (hW:Below w.heap.size w W)=>h.below hW)
 have HKR:=Lib.hid (fun W (hW:Below w.heap.size w W)=>hK.below hW hKlt)
 have HBL:=Lib.hid hbl
 have HBY:=Lib.hid hby
 have HB1:=Lib.hid hb1
 have HPL:=Lib.hid hpl
 have HWW:=Lib.hid hww
 have HDO:=Lib.hid hdo
 have HIN:=Lib.hid hin
 have HCO:=Lib.hid hco
 have mk1:=make_bls f.wires.length (by omega) (by omega)
 have mk2:=make_bools f.wires.length (by omega) (by omega)
 have b1:Below w.heap.size w (w.alloc (.cells (Array.replicate f.wires.length (.slice none 0 0)) 53)):=bE
 have rH1:Row (w.alloc (.cells (Array.replicate f.wires.length (.slice none 0 0)) 53)) w.heap.size (List.replicate f.wires.length (.slice none 0 0)).toArray 53:=by simpa using Row.new w (Array.replicate f.wires.length (.slice none 0 0)) 53
 clear h hK hbl hby hb1 hpl hww hdo hin hco sw sd
 go_enter Tryz.func69,Tryz.ntmps69
 go_upto_region 3 with (fail)
 generalize w.alloc (.cells (Array.replicate f.wires.length (.slice none 0 0)) 53)=w1 at*
 generalize hH:w.heap.size=H at*
 have hHl1:=rH1.lt
 have HB:Hid (∀W,Upd (fun x=>x=H) w1 W→Below H w W):=fun W hW=>b1.trans (hW.below (fun k hk=>by omega) (by omega))
 have HS1:Hid (HsAt w1 H f 0 (List.replicate f.wires.length (.slice none 0 0))):=HsAt.zero rH1 (by simp)
 clear q0 q1 q2 q3 q4 rH1
 obtain ⟨q0,q1,q2,q3,q4⟩:=(HFK.out _ b1).five
 go_wp2_with fail
 clear q0 q1 q2 q3 q4 mk1
 go_loopw[29] (fun i wr=>∃(k:Nat) (vs:List Value),k≤f.wires.length∧i= .int .i64 k∧Hid (HsAt wr H f k vs)∧Upd (fun x=>x=H) w1 wr) (fun i _=>f.wires.length-(intOf i).toNat)
 case atStart=>exact ⟨0,_,Nat.zero_le _,rfl,HS1,Upd.refl _ _⟩
 case round=>
  clear HS1
  obtain ⟨k,vs,hk,rfl,HS,uH⟩:=hrel
  have hHr:=HS.out.row.lt
  have hrelU:=Lib.hid uH
  by_cases hlt:k<f.wires.length
  rotate_left 1
  ·obtain rfl:k=f.wires.length:=by omega
   have rE:=Row.new wr (Array.replicate f.wires.length (.bool false)) 4
   have uE:Upd (fun x=>x=wr.heap.size) wr (wr.alloc (.cells (Array.replicate f.wires.length (.bool false)) 4)):=(Upd.refl _ _).alloc _
   go_upto_region 16 with (fail)
   generalize hw2:wr.alloc (.cells (Array.replicate f.wires.length (.bool false)) 4)=w2 at*
   clear hw2
   have hA:(Array.replicate f.wires.length (.bool false):Array Value)=(bls (List.replicate f.wires.length false)).toArray:=by rw[bls_zero];simp
   rw[hA] at rE
   clear hA
   have HS2:Hid (∀W,Upd (fun x=>x=wr.heap.size) w2 W→HsAt W H f f.wires.length vs):=fun W hW=>HS.out.upd (Nat.le_refl _) (uE.trans hW)
   have hs1r:=uH.size
   have HFIN:Hid (∀W,Upd (fun x=>x=wr.heap.size) w2 W→Below H w W):=fun W hW=>HB.out _ (hrelU.out.trans_new (uE.trans hW) (fun i hi e=>by omega))
   have hEs:H<wr.heap.size:=hHr
   generalize wr.heap.size=E at*
   have HRE:=Lib.hid rE
   clear rE uE uH hrelU hlt HS
   go_wp2_with fail
   refine' zq97
   go_loopg [10] (notYet (List.replicate f.wires.length false)+1) (fun q u wr=>∃(ds:List Bool) (bb:Bool),u= .bool bb∧notYet ds+(if bb=true then 1 else 0)≤q∧Hid (RowS f ds)∧Hid (bb=false→∀i:Nat,i<f.wires.length→¬readyS f ds i)∧Row wr E (bls ds).toArray 4∧Upd (fun x=>x=E) w2 wr)
   case atStart=>exact ⟨_,true,rfl,by simp,rows_start f,(fun h=>by cases h),HRE.out,Upd.refl _ _⟩
   case round=>
    clear HRE
    obtain ⟨ds,bb,rfl,hq,HIS,HNR,rE,uE⟩:=hrel
    have HDL:=Lib.hid HIS.out.len
    cases bb
    ·have HE:=Lib.hid (rows_end HIN.out (fl_hd HDO.out) (fl_hni HDO.out) (fl_hu HDO.out) HIS.out (HNR.out rfl))
     have HC:Hid (Calls Tryz.prog 118 #[.slice (some ⟨E,0,none⟩) f.wires.length f.wires.length,.bool false] wr fun e w'=>e= .returned (.bool (cB (¬∀b∈ds,b=true)))∧wr=w'):=by
      have:=contains_bool (l:=ds) rE (by rw[HDL.out];exact hwl)
      rw[HDL.out] at this
      exact this
     have HQ:Hid (cB (∀n:Nat,n<f.wires.length→DoneL f n)= !(cB (¬∀b∈ds,b=true))):=by
      show _=_
      rw[cB_congr HE.out]
      by_cases c:∀b∈ds,b=true
      ·rw[cB_true c,cB_false (fun g=>g c)];rfl
      ·rw[cB_false c,cB_true c];rfl
     generalize cB (¬∀b∈ds,b=true)=V at*
     clear rE hq
     refine' zq69
     rintro e w' ⟨rfl,rfl⟩
     go_wp2_with fail
     go_ret
     exact ⟨ret_bool HQ.out.symm,by rw[hH];exact HFIN.out _ uE⟩
    rw[if_pos rfl] at hq
    have HRr:=Lib.hid rE
    have HUr:=Lib.hid uE
    clear rE
    go_wp2_with fail
    go_loopw[10,87] (fun u i w3=>∃(j:Nat) (d2:List Bool) (b2:Bool),j≤f.wires.length∧u= .bool b2∧i= .int .i64 j∧Hid (RowS f d2)∧Hid (b2=true→notYet d2<notYet ds)∧Hid (b2=false→d2=ds∧∀i:Nat,i<j→¬readyS f ds i)∧Row w3 E (bls d2).toArray 4∧Upd (fun x=>x=E) w2 w3) (fun _ i _=>f.wires.length-(intOf i).toNat)
    case atStart=>exact ⟨0,ds,false,Nat.zero_le _,rfl,rfl,HIS.out,(fun h=>by cases h),fun _=>⟨rfl,fun i hi=>absurd hi (by omega)⟩,HRr.out,HUr.out⟩
    case round=>
     clear HIS HRr HUr HDL uE HNR
     obtain ⟨j,d2,b2,hj,rfl,rfl,HIS,HT,HF,rE,uE⟩:=hrel
     have HDL:=Lib.hid HIS.out.len
     by_cases hlt:j<f.wires.length
     rotate_left 1
     ·obtain rfl:j=f.wires.length:=by omega
      have HM:Hid (notYet d2+(if b2=true then 1 else 0)<gk):=by
       show _<_
       cases b2
       ·rw[(HF.out rfl).1];simp;omega
       ·have:=HT.out rfl;simp;omega
      have HNR:Hid (b2=false→∀i:Nat,i<f.wires.length→¬readyS f d2 i):=fun h=>by
       obtain ⟨e,g⟩:=HF.out h
       rw[e]
       exact g
      clear hq
      go_wp2_with fail
      go_roundg (notYet d2+(if b2=true then 1 else 0))
      case measure=>exact HM.out
      case rel=>exact ⟨d2,b2,rfl,Nat.le_refl _,HIS.out,HNR.out,rE,uE⟩
     have hlt':(j:Int)<f.wires.length:=by omega
     have cE:=ds_cell rE (n:=j) (by rw[HDL.out];exact hlt)
     obtain ⟨M,hs,hv,hHM,rM,hml,hmh⟩:=(HS2.out _ uE).ok j hlt
     have cH:wr.cell? ⟨H,j,none⟩=some (.slice (some ⟨M,0,none⟩) f.wires.length f.wires.length):=((HS2.out _ uE).row.cell j).trans (by rw[List.getElem?_toArray];exact hv)
     have HMH:=Lib.hid hmh
     have HML:=Lib.hid hml
     have HRM:=Lib.hid rM
     have HRE:=Lib.hid rE
     clear hmh hml rM hv rE
     obtain ⟨rb0,hrb⟩:∃rb0,bGet d2 (j:Int)=rb0:=⟨_,rfl⟩
     have HRB:=Lib.hid hrb
     rw[hrb] at cE
     clear hrb
     go_wp2_with fail
     obtain ⟨w3,rfl⟩:∃w3:World,w3=wr:=⟨_,rfl⟩
     clear cE cH
     go_loopw[12,100] (fun rv cv w4=>∃(c:Nat) (rb:Bool),c≤f.wires.length∧rv= .bool rb∧cv= .int .i64 c∧Hid (rb=true↔bGet d2 (j:Int)=false∧∀c':Nat,c'<c→Hang f j c'→bGet d2 (c':Int)=true)∧w3=w4) (fun _ cv _=>f.wires.length-(intOf cv).toNat)
     case atStart=>exact ⟨0,!rb0,Nat.zero_le _,rfl,rfl,(by show _↔_;rw[HRB.out];cases rb0<;>simp),rfl⟩
     case round=>
      obtain ⟨c,rb,hc,rfl,rfl,HB2,rfl⟩:=hrel
      by_cases hcl:c<f.wires.length
      rotate_left 1
      ·obtain rfl:c=f.wires.length:=by omega
       have HRD:Hid (rb=true↔readyS f d2 j):=HB2.out.trans ⟨fun g=>⟨g.1,fun c' hc'=>g.2 c' (by have:=(hang_w HWW.out hc').2;have h9:(c':Int)<f.wires.length:=this;omega) hc'⟩,fun g=>⟨g.1,fun c' _ hc'=>g.2 c' hc'⟩⟩
       cases rb
       ·have HF':Hid (b2=false→d2=ds∧∀i:Nat,i<j+1→¬readyS f ds i):=fun h=>by
         obtain ⟨e,g⟩:=HF.out h
         refine ⟨e,upto_succ g ?_⟩
         rw[←e]
         exact fun q=>by have:=HRD.out.2 q;cases this
        go_wp2_with fail
        go_roundw
        case rel=>exact ⟨j+1,d2,b2,by omega,rfl,by go_num,HIS.out,HT.out,HF'.out,HRE.out,uE⟩
        case measure=>simp[intOf];omega
       ·have hrd:=HRD.out.1 rfl
        have hjl:(j:Int)<d2.length:=by rw[HDL.out];exact hlt'
        have HIS':Hid (RowS f (d2.set j true)):=rows_step (fl_cov HDO.out) HWW.out HIS.out hlt hrd
        have HT':Hid (notYet (d2.set j true)<notYet ds):=by
         show _<_
         have h1:=notYet_set (ds:=d2) (n:=(j:Int)) (by omega) hjl hrd.1
         simp only[Int.toNat_natCast] at h1
         cases b2
         ·have:=(HF.out rfl).1
          rw[this] at h1⊢
          exact h1
         ·have:=HT.out rfl
          omega
        have fE:=HRE.out.frozen j
        have cE:=ds_cell HRE.out (n:=j) (by rw[HDL.out];exact hlt)
        have rE6:=Lib.hid (ds_set (m:=j) HRE.out true)
        have uE6:=Lib.hid (Upd.setCell (X:=fun x=>x=E) (p:=⟨E,j,none⟩) uE rfl (.bool true))
        generalize bGet d2 (j:Int)=V at cE
        clear hrd hjl
        go_wp2_with fail
        go_roundw
        case rel=>exact ⟨j+1,d2.set j true,true,by omega,rfl,by go_num,HIS'.out,(fun _=>HT'.out),(fun h=>by cases h),rE6.out,uE6.out⟩
        case measure=>simp[intOf];omega
      have hcl':(c:Int)<f.wires.length:=by omega
      have cM:=ds_cell HRM.out (n:=c) (by rw[HML.out];exact hcl)
      have cE:=ds_cell HRE.out (n:=c) (by rw[HDL.out];exact hcl)
      obtain ⟨iv,hiv⟩:∃iv,bGet hs (c:Int)=iv:=⟨_,rfl⟩
      obtain ⟨dv,hdv⟩:∃dv,bGet d2 (c:Int)=dv:=⟨_,rfl⟩
      have HIV:Hid (Hang f j c↔iv=true):=by rw[←hiv];exact (HMH.out c).symm
      have HDV:=Lib.hid hdv
      have HN:Hid ((rb && (!iv||dv))=true↔bGet d2 (j:Int)=false∧∀c':Nat,c'<c+1→Hang f j c'→bGet d2 (c':Int)=true):=by
       show _↔_
       rw[Bool.and_eq_true,HB2.out]
       constructor
       ·rintro ⟨⟨h1,h2⟩,h3⟩
        refine ⟨h1,upto_succ h2 (fun q=>?_)⟩
        have:=HIV.out.1 q
        rw[this] at h3
        rw[HDV.out]
        simpa using h3
       ·rintro ⟨h1,h2⟩
        refine ⟨⟨h1,fun c' hc'=>h2 c' (by omega)⟩,?_⟩
        cases iv
        ·rfl
        ·have:=h2 c (by omega) (HIV.out.2 rfl)
         rw[HDV.out] at this
         rw[this];rfl
      rw[hiv] at cM
      rw[hdv] at cE
      clear hiv hdv HB2
      cases rb<;>cases iv<;>cases dv
      all_goals
       go_wp2_with fail
       go_roundw
       case rel=>exact ⟨c+1,_,by omega,rfl,by go_num,HN,trivial⟩
       case measure=>simp[intOf];omega
  have hF:=HFK.out _ (HB.out _ uH)
  obtain ⟨q0,q1,q2,q3,q4⟩:=hF.five
  obtain ⟨A',c',he,_,_,sw⟩:=hF.fl.wires
  injection he with he1 he2 he3
  subst he1
  obtain ⟨b,off,x,Ag,cg,hAw,hbB,hx,wx,d0,d1,lg,mg,sg⟩:=sw.wr hlt
  subst hAw
  have HX:=Lib.hid hx
  have mg':cg≤9223372036854775807:=by unfold maxLen at mg;omega
  have HSG:=Lib.hid sg
  obtain ⟨v0,hv0⟩:∃v,vs[k]? =some v:=⟨_,List.getElem?_eq_getElem (by rw[HS.out.len];exact hlt)⟩
  have r1:=Row.new wr #[.int .i64 x.ty,.slice Ag x.clock.length cg] 141
  have rH:=HS.out.row.alloc (.cells #[.int .i64 x.ty,.slice Ag x.clock.length cg] 141)
  have u4:Upd (fun x=>x=H) w1 (wr.alloc (.cells #[.int .i64 x.ty,.slice Ag x.clock.length cg] 141)):=uH.alloc _
  have uw:Upd (fun x=>x=H) wr (wr.alloc (.cells #[.int .i64 x.ty,.slice Ag x.clock.length cg] 141)):=(Upd.refl _ _).alloc _
  have hHK:K≠H:=by omega
  have hHD:D≠H:=by omega
  clear he2 he3 hx sg sw hF
  go_upto_region 6 with (fail)
  clear d0 d1 q0 q1 q2 q3 q4
  generalize hg:wr.heap.size=g at*
  generalize wr.alloc (.cells #[.int .i64 x.ty,.slice Ag x.clock.length cg] 141)=w4 at*
  have hgl:=r1.lt
  have hgH:H<g:=by omega
  have hHl4:=rH.lt
  have cH:w4.cell? ⟨H,k,none⟩=some v0:=(rH.cell k).trans (by rw[List.getElem?_toArray];exact hv0)
  have fH:=rH.frozen k
  go_upto_region 7 with (fail)
  have hsz5:(w4.setCell ⟨H,k,none⟩ (.slice (some ⟨w4.heap.size,0,none⟩) f.wires.length f.wires.length)).heap.size=w4.heap.size:=by simp[World.setCell]
  have rM5:=Row.new (w4.setCell ⟨H,k,none⟩ (.slice (some ⟨w4.heap.size,0,none⟩) f.wires.length f.wires.length)) (Array.replicate f.wires.length (.bool false)) 4
  rw[hsz5] at rM5
  have r15:=(r1.far (p:=⟨H,k,none⟩) (by dsimp only;omega) (.slice (some ⟨w4.heap.size,0,none⟩) f.wires.length f.wires.length)).alloc (.cells (Array.replicate f.wires.length (.bool false)) 4)
  have rH5:=(rH.set k (.slice (some ⟨w4.heap.size,0,none⟩) f.wires.length f.wires.length)).alloc (.cells (Array.replicate f.wires.length (.bool false)) 4)
  rw[List.setIfInBounds_toArray] at rH5
  have u5:=(u4.setCell (p:=⟨H,k,none⟩) rfl (.slice (some ⟨w4.heap.size,0,none⟩) f.wires.length f.wires.length)).alloc (.cells (Array.replicate f.wires.length (.bool false)) 4)
  have uw5:=(uw.setCell (p:=⟨H,k,none⟩) rfl (.slice (some ⟨w4.heap.size,0,none⟩) f.wires.length f.wires.length)).alloc (.cells (Array.replicate f.wires.length (.bool false)) 4)
  have hM:H<w4.heap.size:=hHl4
  have hgM:g<w4.heap.size:=hgl
  generalize hw5:(w4.setCell ⟨H,k,none⟩ (.slice (some ⟨w4.heap.size,0,none⟩) f.wires.length f.wires.length)).alloc (.cells (Array.replicate f.wires.length (.bool false)) 4)=w5 at*
  generalize w4.heap.size=M at*
  clear hw5 hsz5 cH fH
  have hwM:wr.heap.size≤M:=by omega
  have hA:(Array.replicate f.wires.length (.bool false):Array Value)=(bls (List.replicate f.wires.length false)).toArray:=by rw[bls_zero];simp
  rw[hA] at rM5
  clear hA
  have hMl:=rM5.lt
  have hF5:=HFK.out _ (HB.out _ u5)
  have cK5:=ks_cell (HKR.out _ (HB.out _ u5)) (m:=k) (by rw[HBL.out];exact hlt)
  obtain ⟨q0,q1,q2,q3,q4⟩:=hF5.five
  have HV:Hid (bs[k]? =some (getI bs (k:Int))):=by
   have hl:k<bs.length:=by rw[HBL.out];exact hlt
   show _=_
   rw[getI,List.getD_eq_getElem?_getD,Int.toNat_natCast,List.getElem?_eq_getElem hl];rfl
  have hby:=HBY.out k _ HV.out
  have HNEG:Hid (getI bs (k:Int)≠-1):=fun e=>HB1.out (by rw[←e];exact List.mem_of_getElem? HV.out)
  have HUr:Hid (Upd (fun x=>x=H) w1 w5):=u5
  have HU5:Hid (∀W,Upd (fun x=>x=M) w5 W→Upd (fun x=>x=H) wr W):=fun W hW=>uw5.trans_new hW (fun i hi e=>by omega)
  clear uw
  generalize getI bs (k:Int)=V at*
  rcases hby with hv|⟨rfl,hin⟩|⟨j,d,rfl,hd,hdk⟩
  ·exact absurd hv HNEG.out
  ·have HS':Hid (HsAt w5 H f (k+1) (vs.set k (.slice (some ⟨M,0,none⟩) f.wires.length f.wires.length))):=HS.out.next hlt (HU5.out _ (Upd.refl _ _)) rH5 hM rM5 (by simp) (fun c=>⟨fun g=>absurd g (by rw[bGet_rep];decide),fun g=>absurd g (hang_no HDO.out hin c)⟩)
   clear HV HNEG hin
   go_wp2_with fail
   go_roundw
   case rel=>exact ⟨k+1,_,by omega,by go_num,HS',HUr.out⟩
   case measure=>simp[intOf];omega
  have hjl:=(List.getElem?_eq_some_iff.1 hd).1
  have hjl':(j:Int)<f.defs.length:=by omega
  obtain ⟨A',c',he,_,_,sd⟩:=hF5.fl.defs
  injection he with he1 he2 he3
  subst he1
  obtain ⟨b2,off2,d',A2,c2,hAd,hbB2,hx2,wx2,hok,lg2,mg2,hxs,e0,e1,e2,e3,e4,e5,e6⟩:=sd.df hjl
  obtain rfl:d'=d:=by rw[hd] at hx2;injection hx2 with hx2;exact hx2.symm
  subst hAd
  have hdm:=List.mem_of_getElem? hd
  have HDM:=Lib.hid hdm
  have HDK:=Lib.hid hdk
  have hmg2:c2≤9223372036854775807:=by unfold maxLen at mg2;omega
  have cH5:w5.cell? ⟨H,k,none⟩=some (.slice (some ⟨M,0,none⟩) f.wires.length f.wires.length):=(rH5.cell k).trans (by rw[List.getElem?_toArray,List.getElem?_set_self (by rw[HS.out.len];exact hlt)])
  have HC:=Lib.hid (fwants_any (f:=f) (B:=B) (M:=M) (by omega) d'.2 A2 c2 (List.replicate f.wires.length false) w5.drew (by show B≤w5.heap.size;omega) hok lg2 mg2 (hxs.below ((Below.refl _ _).drew)) (HPL.out _ hdm) (by simp) hwl rM5.drew)
  have hMH:M≠H:=by omega
  have hMg:M≠g:=by omega
  have hMK:M≠K:=by omega
  have hMD:M≠D:=by omega
  clear HV HNEG hd hdk hdm he2 he3 hx2 hok hxs sd hF5 e0
  go_upto_region 8 with (fail)
  go_still_tail 19,(by kernel_rfl)
  change wpList _ _ _ _ _ w5.drew
  refine' zq69
  rintro e w6 ⟨rfl,ms1,hR6,hT6,u6⟩
  have HU6:Hid (Upd (fun x=>x=M) w5 w6):=(Upd.drew (Upd.refl _ w5)).trans u6
  have HR6:=Lib.hid hR6
  have HT6:=Lib.hid hT6
  have r16:=HU6.out.row r15 (fun q=>hMg q.symm)
  have c16:=r16.two'.2
  have HRH:=Lib.hid (fun W (hW:Upd (fun x=>x=M) w5 W)=>hW.row rH5 (fun q=>hMH q.symm))
  clear hT6 hR6 u6 rM5 r15 cH5 cK5 q0 q1 q2 q3 q4 e1 e2 e3 e4 e5 e6 uH HUr
  go_wp2_with fail
  clear c16 r16
  refine' zq97
  go_loopw[70] (fun i w7=>∃(m:Nat) (ms2:List Bool),m≤x.clock.length∧i= .int .i64 m∧Hid (Row w7 M (bls ms2).toArray 4)∧Hid (Mt (List.replicate f.wires.length false) (wantE d'.2++(x.clock.take m).map (·.wire)) ms2)∧Hid (Upd (fun x=>x=M) w5 w7)) (fun i _=>x.clock.length-(intOf i).toNat)
  case atStart=>exact ⟨0,ms1,Nat.zero_le _,rfl,HR6,by simpa using HT6,HU6⟩
  case round=>
   clear HR6 HT6 HU6
   obtain ⟨m,ms2,hm,rfl,HR7,HT7,HU7⟩:=hrel
   have hs7:=HU7.out.size
   by_cases hml:m<x.clock.length
   rotate_left 1
   ·obtain rfl:m=x.clock.length:=by omega
    have HS':Hid (HsAt wr H f (k+1) (vs.set k (.slice (some ⟨M,0,none⟩) f.wires.length f.wires.length))):=HS.out.next hlt (HU5.out _ HU7.out) (HRH.out _ HU7.out) hM HR7.out (by rw[HT7.out.1];simp) (fun c=>by
     rw[HT7.out.2,bGet_rep,hang_yes HDO.out HDM.out HDK.out HX.out,List.take_length]
     exact ⟨fun g=>g.resolve_left (by decide),.inr⟩)
    have HUr:=Lib.hid (hrelU.out.trans (HU5.out _ HU7.out))
    go_wp2_with fail
    go_roundw
    case rel=>exact ⟨k+1,_,by omega,by go_num,HS',HUr.out⟩
    case measure=>simp[intOf];omega
   have hbw:Below B wo wr:=(HU5.out _ HU7.out).below (fun k hk=>by omega) (by omega)
   obtain ⟨bg,og,⟨gw,gno⟩,hAg,hbg,hgg,wg,d0,d1⟩:=(HSG.out.below hbw).gd hml
   subst hAg
   have HGG:=Lib.hid hgg
   have hw:=((HCO.out.1 x (List.mem_of_getElem? HX.out)).2 m _ hgg).1
   dsimp only at wg d0 d1 hw
   obtain ⟨n,rfl⟩:=Int.eq_ofNat_of_zero_le hw.1
   have hn:n<f.wires.length:=by have h9:(n:Int)<f.wires.length:=hw.2;omega
   have hn':(n:Int)<f.wires.length:=by omega
   have rg:=Row.new wr #[.int .i64 (n:Int),.bool gno] 152
   have u8:Upd (fun x=>x=M) w5 (wr.alloc (.cells #[.int .i64 (n:Int),.bool gno] 152)):=HU7.out.alloc _
   have rM8:=HR7.out.alloc (.cells #[.int .i64 (n:Int),.bool gno] 152)
   clear hgg hw hbw
   go_upto_region 12 with (fail)
   generalize hgz:wr.heap.size=gz at*
   generalize wr.alloc (.cells #[.int .i64 (n:Int),.bool gno] 152)=w8 at*
   clear d0 d1
   obtain ⟨d0,d1⟩:=rg.two'
   have hzl:=rg.lt
   have cH8:w8.cell? ⟨H,k,none⟩=some (.slice (some ⟨M,0,none⟩) f.wires.length f.wires.length):=((HRH.out _ u8).cell k).trans (by rw[List.getElem?_toArray,List.getElem?_set_self (by rw[HS.out.len];exact hlt)])
   have hl2:ms2.length=f.wires.length:=by rw[HT7.out.1];simp
   have cM8:=ds_cell rM8 (n:=n) (by rw[hl2];exact hn)
   have fM8:=rM8.frozen n
   have rM9:=Lib.hid (ds_set (m:=n) rM8 true)
   have u9:=Lib.hid (Upd.setCell (X:=fun x=>x=M) (p:=⟨M,n,none⟩) u8 rfl (.bool true))
   have HT9:Hid (Mt (List.replicate f.wires.length false) (wantE d'.2++(x.clock.take (m+1)).map (·.wire)) (ms2.set n true)):=by
    have:=mt_trans HT7.out (mt_one (ms:=ms2) (n:=(n:Int)) (by omega) (by rw[hl2];exact hn'))
    rw[take_snoc' HGG.out,List.map_append,←List.append_assoc]
    exact this
   generalize bGet ms2 (n:Int)=V at cM8
   clear hl2 rM8 u8
   go_region
   go_wp2_with fail
   go_roundw
   case rel=>exact ⟨m+1,ms2.set n true,by omega,by go_num,rM9.out.drew,HT9,u9.out.drew⟩
   case measure=>simp[intOf];omega
end Go.Proofs.YtdkgkacnjdnpoaaGreat.Q
