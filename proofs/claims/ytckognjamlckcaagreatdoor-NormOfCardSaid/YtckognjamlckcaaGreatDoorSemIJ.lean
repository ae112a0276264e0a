/-
  Several texts in one: SemI, SemJ.
-/
import Derived.Test.YtckognjamlckcaaGreatDoorZz
import Derived.Test.YtckognjamlckcaaGreatDoorRwA
set_option maxHeartbeats 16000000
set_option maxRecDepth 100000
namespace Go.Proofs.YtckognjamlckcaaGreatDoor
open Go.RowKit Vf Fo Ar
attribute [local go_sem ↓] Go.wp_at_zero Go.wp_at_succ
section
variable {f:Fm} {cs row:List Int} {R K V:Nat} {vw va vc vk vi vo vC vR vP:Value} {a w w' w3 w8 w13:World} {ds ds3:List Bool} {vs vs3:List Int}
theorem Upd.far {X:Nat→Prop} (u:Upd X a w) (hb:Below a.heap.size w w'):Upd X a w':=
 ⟨hb.os.trans u.os,hb.tape.trans u.tape,hb.output.trans u.output,Nat.le_trans u.size hb.size,fun k hk hX=>(hb.block k hk).trans (u.block k hk hX)⟩
theorem RunAt.far (h3:RunAt f cs row R K V vw va vc vk vi vo vC vR vP w3 ds3 vs3) (u:Upd (fun k=>k=K∨k=V) w3 w8) (h8:RunAt f cs row R K V vw va vc vk vi vo vC vR vP w8 ds vs) (hb:Below w3.heap.size w8 w13):RunAt f cs row R K V vw va vc vk vi vo vC vR vP w13 ds vs:=
 h3.upd (u.far hb) (h8.k.below hb h3.k.lt) (h8.v.below hb h3.v.lt) h8.dl h8.vl h8.wf h8.inv
theorem own_run {base size n:Nat} {e:TypeId} {v:Value} {xs:List Value} (ho:w.ownsRow base e size v n xs) (u:Upd (fun k=>k=K∨k=V) w w') (hK:K<base) (hV:V<base):w'.ownsRow base e size v n xs:=
 own_updE ho u (fun q hq e=>by have:=(ho.lt q hq).1;omega)
end
section
variable {f:Fm} {cs row:List Int} {B R:Nat} {vw va vc vk vi vo vC vR vP:Value} {W:World}
theorem next_take {k:Nat} {x:Int × Int} {ns:List Int} (h:f.keeps[k]? =some x):nextF f cs row (f.keeps.take (k+1)) ns=if thF f cs row (clockOf f x.2)=true then (nextF f cs row (f.keeps.take k) ns).set x.1.toNat (valF f cs row x.2) else nextF f cs row (f.keeps.take k) ns:=by
 unfold nextF
 rw[take_snoc' h,List.foldl_append]
 rfl
theorem tick_any (hf:formOk f) (hcs:cs.length=f.cells.length) (hrl:row.length=f.ins.length) (h:RunI f cs B R vw va vc vk vi vo vC vP W) (hrow:∀W',Upd (fun k=>k=R) W W'→SlV W' W.heap.size 1 isInt vR row):
  Calls Tryz.prog 54 #[.pointer (some ⟨R,0,none⟩),vR] W fun e W'=>∃v vC',e= .returned v∧W'.ownsRow W.heap.size 3 1 v f.outs.length (ints (outF f cs row))∧(∀x∈outF f cs row,Wf x)∧RunI f (nextF f cs row f.keeps cs) B R vw va vc vk vi vo vC' vP W'∧Upd (fun k=>k=R) W W':=by
 have HI:=Lib.hid h
 have HRW:=Lib.hid hrow
 have HFB:=Lib.hid h.fm
 have HBR:=Lib.hid h.bR
 have HNIL:=Lib.hid h.nil
 have HCW:=Lib.hid h.cw
 have HPW:=Lib.hid h.pw
 have HPK:Hid (∀W',Upd (fun k=>k=R) W W'→∃n,W'.ownsRow B 3 1 vP n (ints (plF f))):=fun W' u=>by
  obtain ⟨n,p⟩:=h.p
  obtain ⟨_,_,_,r⟩:=h.r
  exact ⟨n,own_updE p u (fun q hq e=>own_ne p r (by decide) (by rw[←e];exact hq))⟩
 obtain ⟨Ar',cr,rfl,_,_,_⟩:=hrow W (Upd.refl _ _)
 obtain ⟨hfm,hvc,_⟩:=h.keep W (Upd.refl _ _)
 obtain ⟨Aw,cw,rfl,lw,mw,_⟩:=id hfm.wires
 obtain ⟨Ao,co,rfl,lo,mo,_⟩:=id hfm.outs
 obtain ⟨Akk,ck,rfl,lk,mk,_⟩:=id hfm.keeps
 obtain ⟨Ac,cc,rfl,lc,mc,_⟩:=id hvc
 have mo':co≤9223372036854775807:=by unfold maxLen at mo;omega
 have mk':ck≤9223372036854775807:=by unfold maxLen at mk;omega
 refine' zq244
 have HPO:=Lib.hid hf.2.2.1.1
 have HOL:=Lib.hid hf.2.2.1.2.2
 have HCL:=Lib.hid hf.2.2.2.1.2.1
 have HKP:=Lib.hid hf.2.2.2.1.2.2.1
 have HWK:=Lib.hid hf.1
 obtain ⟨x7,x8,x9,rR⟩:=h.r
 have hwl:=hf.1.2.2
 have mkb:=make_bools f.wires.length (by omega) (by omega)
 have mki:=make_ints f.wires.length (by omega) (by omega)
 have HRL:=Lib.hid hrl
 have HCS:=Lib.hid hcs
 have HOK:=Lib.hid hf
 obtain ⟨r0,r1,r2,r3,r4,r5,r6,r7,r8,r9,r10⟩:=run11 rR
 have z7:=rR.frozen 7
 have z8:=rR.frozen 8
 have z9:=rR.frozen 9
 have hRl:=rR.lt
 clear h hrow hfm hvc hrl hcs hf
 go_enter Tryz.func54,Tryz.ntmps54
 go_upto_region 4 with (fail)
 generalize hW0:World.setCell (World.setCell (World.setCell W _ _) _ _) _ _=w0
 have hX:Upd (fun k=>k=R) W w0∧w0.heap.size=W.heap.size∧Row w0 R #[.slice Aw f.wires.length cw,va,vc,.slice Akk f.keeps.length ck,vi,.slice Ao f.outs.length co,.slice Ac cs.length cc,.slice Ar' row.length cr,.slice (some ⟨W.heap.size,0,none⟩) f.wires.length f.wires.length,.slice (some ⟨W.heap.size+1,0,none⟩) f.wires.length f.wires.length,vP] 129:=by
  rw[←hW0]
  refine ⟨(((Upd.refl (fun k=>k=R) W).setCell (X:=fun k=>k=R) (p:=⟨R,7,none⟩) rfl _).setCell (X:=fun k=>k=R) (p:=⟨R,8,none⟩) rfl _).setCell (X:=fun k=>k=R) (p:=⟨R,9,none⟩) rfl _,by simp[World.setCell],?_⟩
  have:=((rR.set 7 (.slice Ar' row.length cr)).set 8 (.slice (some ⟨W.heap.size,0,none⟩) f.wires.length f.wires.length)).set 9 (.slice (some ⟨W.heap.size+1,0,none⟩) f.wires.length f.wires.length)
  simpa using this
 clear hW0
 obtain ⟨u0,hs0,rr0⟩:=hX
 have rk:Row ((w0.alloc (.cells (Array.replicate f.wires.length (.bool false)) 4)).alloc (.cells (Array.replicate f.wires.length (.int .i64 0)) 3)) W.heap.size (bls (List.replicate f.wires.length false)).toArray 4:=by
  have:=(Row.new w0 (Array.replicate f.wires.length (.bool false)) 4).alloc (.cells (Array.replicate f.wires.length (.int .i64 0)) 3)
  rw[hs0] at this
  simpa[bls] using this
 have rv:Row ((w0.alloc (.cells (Array.replicate f.wires.length (.bool false)) 4)).alloc (.cells (Array.replicate f.wires.length (.int .i64 0)) 3)) (W.heap.size+1) (ints (List.replicate f.wires.length 0)).toArray 3:=by
  have:=rowNew2 w0 (.cells (Array.replicate f.wires.length (.bool false)) 4) (Array.replicate f.wires.length (.int .i64 0)) 3
  rw[hs0] at this
  simpa[ints] using this
 have HRA:=Lib.hid (HI.out.start (row:=row) HRW.out ((u0.alloc (.cells (Array.replicate f.wires.length (.bool false)) 4)).alloc (.cells (Array.replicate f.wires.length (.int .i64 0)) 3)) (Nat.le_refl _) (Nat.le_succ _) (by omega) hRl ((rr0.alloc _).alloc _) rk rv)
 have HU:=Lib.hid ((u0.alloc (.cells (Array.replicate f.wires.length (.bool false)) 4)).alloc (.cells (Array.replicate f.wires.length (.int .i64 0)) 3))
 clear rk rv rr0 u0 hs0 rR r0 r1 r2 r3 r4 r5 r6 r7 r8 r9 r10 z7 z8 z9 mkb mki
 generalize (w0.alloc (.cells (Array.replicate f.wires.length (.bool false)) 4)).alloc (.cells (Array.replicate f.wires.length (.int .i64 0)) 3)=w3 at*
 have hBW:B≤W.heap.size:=by have:=HBR.out;omega
 have HBW:Hid (∀W',Upd (fun k=>k=W.heap.size∨k=W.heap.size+1) w3 W'→Below B W W'):=fun W' u=>(upd_mix HU.out u (Nat.le_refl _) (Nat.le_succ _)).below (fun q hq=>by rw[hq];exact HBR.out) hBW
 have HKV:Hid (W.heap.size<w3.heap.size∧W.heap.size+1<w3.heap.size):=⟨HRA.out.k.lt,HRA.out.v.lt⟩
 have HWI:Hid (∀n,isW f n→∀w ds vs,RunAt f cs row R W.heap.size (W.heap.size+1) (.slice Aw f.wires.length cw) va vc (.slice Akk f.keeps.length ck) vi (.slice Ao f.outs.length co) (.slice Ac cs.length cc) (.slice Ar' row.length cr) vP w ds vs→Calls Tryz.prog 90 #[.pointer (some ⟨R,0,none⟩),.int .i64 n] w fun e w'=>
  e= .returned (.int .i64 (valF f cs row n))∧Wf (valF f cs row n)∧(∃ds' vs',RunAt f cs row R W.heap.size (W.heap.size+1) (.slice Aw f.wires.length cw) va vc (.slice Akk f.keeps.length ck) vi (.slice Ao f.outs.length co) (.slice Ac cs.length cc) (.slice Ar' row.length cr) vP w' ds' vs')∧Upd (fun k=>k=W.heap.size∨k=W.heap.size+1) w w'):=fun n hn=>wire_any HOK.out HRL.out HCS.out hn
 have HTR:Hid (∀(c:List Gd) (v:Value),(∀W',Upd (fun k=>k=W.heap.size∨k=W.heap.size+1) w3 W'→SlV W' B 2 isGd v c)→(∀g∈c,isW f g.wire)→∀w ds vs,RunAt f cs row R W.heap.size (W.heap.size+1) (.slice Aw f.wires.length cw) va vc (.slice Akk f.keeps.length ck) vi (.slice Ao f.outs.length co) (.slice Ac cs.length cc) (.slice Ar' row.length cr) vP w ds vs→Upd (fun k=>k=W.heap.size∨k=W.heap.size+1) w3 w→Calls Tryz.prog 91 #[.pointer (some ⟨R,0,none⟩),v] w fun e w'=>
  e= .returned (.bool (thF f cs row c))∧(∃ds' vs',RunAt f cs row R W.heap.size (W.heap.size+1) (.slice Aw f.wires.length cw) va vc (.slice Akk f.keeps.length ck) vi (.slice Ao f.outs.length co) (.slice Ac cs.length cc) (.slice Ar' row.length cr) vP w' ds' vs')∧Upd (fun k=>k=W.heap.size∨k=W.heap.size+1) w w'):=fun c v hv hc w ds vs h u=>there_run HOK.out HRL.out HCS.out c v B w ds vs h (fun W' u'=>hv W' (u.trans u')) hc
 refine' zq122
 go_wp2_with fail
 go_loopw[5,6] (fun v5 i wr=>∃(k:Nat) (o:Value) (ds:List Bool) (vs:List Int),k≤f.outs.length∧i= .int .i64 k∧o=v5∧Hid (RunAt f cs row R W.heap.size (W.heap.size+1) (.slice Aw f.wires.length cw) va vc (.slice Akk f.keeps.length ck) vi (.slice Ao f.outs.length co) (.slice Ac cs.length cc) (.slice Ar' row.length cr) vP wr ds vs)∧Hid (wr.ownsRow w3.heap.size 3 1 o k (ints ((outF f cs row).take k)))∧Hid (∀x∈(outF f cs row).take k,Wf x)∧Hid (Upd (fun k=>k=W.heap.size∨k=W.heap.size+1) w3 wr)) (fun _ i _=>f.outs.length-(intOf i).toNat)
 case atStart=>exact ⟨0,_,_,_,Nat.zero_le _,rfl,rfl,HRA.out,World.ownsRow_nil _ _ _ _,fun x hx=>by simp at hx,Upd.refl _ _⟩
 case round=>
  obtain ⟨k,o,ds,vs,hk,rfl,rfl,HR,HO,HW,HX⟩:=hrel
  have hsr:=HX.out.size
  have hol:=HOL.out
  have hkv:=HKV.out
  obtain ⟨fm,sc,_,_,rr⟩:=HR.out.keep _ (Upd.refl _ _)
  have q5:=(run11 rr).2.2.2.2.2.1
  have q6:=(run11 rr).2.2.2.2.2.2.1
  by_cases hlt:k<f.outs.length
  ·obtain ⟨A',c',hA',_,_,sl⟩:=fm.outs
   refine' zq288
   obtain ⟨b,off,n,rfl,hbb,hx,wx,d0⟩:=sl.int hlt
   have hk':(k:Int)<f.outs.length:=by omega
   have HN:Hid (isW f n):=(HPO.out n (List.mem_of_getElem? hx)).1
   have HTK:Hid (ints ((outF f cs row).take (k+1))=ints ((outF f cs row).take k)++ [.int .i64 (valF f cs row n)]):=by
    show _=_
    rw[take_snoc' (show (outF f cs row)[k]? =some (valF f cs row n) by simp[outF,hx]),ints_snoc]
   have HWK':Hid (Wf (valF f cs row n)→∀x∈(outF f cs row).take (k+1),Wf x):=fun hw x hx1=>by
    rw[take_snoc' (show (outF f cs row)[k]? =some (valF f cs row n) by simp[outF,hx])] at hx1
    rcases List.mem_append.1 hx1 with h1|h1
    ·exact HW.out x h1
    ·rw[List.mem_singleton.1 h1];exact hw
   generalize ints ((outF f cs row).take k)=LL at*
   clear sl hx fm rr wx sc q6
   go_wp2_with fail
   refine (HWI.out n HN.out _ _ _ HR.out).mono ?_
   rintro e w8 ⟨rfl,hw8,⟨ds',vs',h8⟩,hu8⟩
   have HR8:=Lib.hid h8
   have HW8:=Lib.hid (HWK'.out hw8)
   have HU8:=Lib.hid hu8
   have hs8:=hu8.size
   have HO8:=Lib.hid (own_run HO.out hu8 hkv.1 hkv.2)
   clear h8 hu8 q5 d0 hw8
   go_wp2_with (at_builtin;refine wpList_append_opt _ rfl _ _ 26 rfl w3.heap.size 3 i0 (.int .i64 0) 1 8 Tryz.underlying26 hi0 hz0 hz1 hz2 rfl (by decide) _ _ _ rfl (HO8.out.alloc _) (some ⟨_,0,none⟩) 1 1 [.int .i64 (valF f cs row n)] rfl NilOk.some rfl (fun ad he=>by injection he with he;subst he;exact cells_new _ _ _) (by intro u hu;simp at hu;subst hu;rfl) (by unfold maxLen;omega) (by omega) (by first|omega|(simp;omega)|simp) ?_)
   intro v13 w13 hown13 hb13
   have hb14:Below w3.heap.size w8 w13:=((Below.refl w3.heap.size w8).alloc (by omega) _).trans hb13
   have HR13:=Lib.hid (HRA.out.far (HX.out.trans HU8.out) HR8.out hb14)
   have HX13:=Lib.hid ((HX.out.trans HU8.out).far hb14)
   have HO13:Hid (w13.ownsRow w3.heap.size 3 1 v13 (k+1) (ints ((outF f cs row).take (k+1)))):=by
    show World.ownsRow _ _ _ _ _ _ _
    rw[HTK.out]
    exact hown13
   clear hown13 hb13 hb14
   go_wp2_with fail
   go_roundw
   case rel=>exact ⟨k+1,_,_,_,by omega,by go_num,rfl,HR13,HO13,HW8,HX13⟩
   case measure=>simp[intOf];omega
  ·obtain rfl:k=f.outs.length:=by omega
   have HO1:Hid (wr.ownsRow w3.heap.size 3 1 o f.outs.length (ints (outF f cs row))):=by
    have:=HO.out
    rw[List.take_of_length_le (by simp[outF])] at this
    exact this
   have HW1:Hid (∀x∈outF f cs row,Wf x):=by
    have:=HW.out
    rw[List.take_of_length_le (by simp[outF])] at this
    exact this
   have hcs:cs.length≤60:=by rw[HCS.out];exact HCL.out
   obtain ⟨wo,hwo⟩:∃wo:World,wo=wr:=⟨_,rfl⟩
   subst hwo
   have HOB:Hid (∀q,o.ownBlock=some q→q<wo.heap.size):=fun q hq=>(HO1.out.lt q hq).2
   have hRw:R<wo.heap.size:=rr.lt
   have bA:Below wo.heap.size wo (wo.alloc (.cells #[] 3)):=(Below.refl _ _).alloc (Nat.le_refl _) _
   have SC:Hid (∀ad,Ac=some ad→∀j u,(ints cs)[j]? =some u→(wo.alloc (.cells #[] 3)).cell? (ad.add j)=some u):=by
    obtain ⟨A',c',hA',_,_,sl⟩:=sc.below bA
    refine' zq288
    rintro ad rfl j u hu
    rw[←intC_flat] at hu
    exact sl.flatA intC_of intC_len j u hu
   clear HO HW fm rr sc
   go_wp2_with (at_builtin;refine wpList_append_opt _ rfl _ _ 26 rfl wo.heap.size 3 i0 (.int .i64 0) 1 8 Tryz.underlying26 hi0 hz0 hz1 hz2 rfl (by decide) _ _ _ rfl (own_empty wo 3 1) Ac cs.length cc (ints cs) rfl ?c0 ?c1 ?c2 ?c3 ?c4 ?c5 ?c6 ?_)
   case c0=>exact HNIL.out
   case c1=>rw[ints_len];omega
   case c2=>exact SC.out
   case c3=>intro u hu;obtain ⟨x,_,rfl⟩:=List.mem_map.1 hu;rfl
   case c4=>unfold maxLen;omega
   case c5=>omega
   case c6=>simp
   intro v7 w9 hown9 hb9
   (try simp only[Nat.zero_add,List.nil_append] at hown9)
   have hb9':Below wo.heap.size wo w9:=bA.trans hb9
   have HR9:=Lib.hid (HR.out.below hb9')
   have HX9:=Lib.hid (HX.out.trans (Upd.of_below hb9'))
   have HO9:=Lib.hid (own_below HO1.out hb9')
   have HS9:Hid (wo.heap.size≤w9.heap.size):=hb9'.size
   have HN9:=Lib.hid hown9
   obtain ⟨An,cn,hv7,_,_⟩:=own_src hown9
   subst hv7
   clear hown9 hb9 hb9' bA SC HR HX q5 q6 HO1
   go_wp2_with fail
   go_loopw[8] (fun i wr=>∃(k:Nat) (ds:List Bool) (vs:List Int),k≤f.keeps.length∧i= .int .i64 k∧Hid (RunAt f cs row R W.heap.size (W.heap.size+1) (.slice Aw f.wires.length cw) va vc (.slice Akk f.keeps.length ck) vi (.slice Ao f.outs.length co) (.slice Ac cs.length cc) (.slice Ar' row.length cr) vP wr ds vs)∧Hid (wr.ownsRow w3.heap.size 3 1 o f.outs.length (ints (outF f cs row)))∧Hid (wr.ownsRow wo.heap.size 3 1 (.slice An cs.length cn) cs.length (ints (nextF f cs row (f.keeps.take k) cs)))∧Hid (∀x∈nextF f cs row (f.keeps.take k) cs,Wf x)∧Hid (Upd (fun k=>k=W.heap.size∨k=W.heap.size+1) w3 wr)∧Hid (wo.heap.size≤wr.heap.size)) (fun i _=>f.keeps.length-(intOf i).toNat)
   case atStart=>exact ⟨0,_,_,Nat.zero_le _,rfl,HR9.out,HO9.out,HN9.out,HCW.out,HX9.out,HS9.out⟩
   case round=>
    clear HR9 HO9 HN9 HX9 HS9
    obtain ⟨k,ds,vs,hk,rfl,HR,HO,HN,HW,HX,HS⟩:=hrel
    have hsr:=HX.out.size
    have hso:=HS.out
    have hkv:=HKV.out
    obtain ⟨fm,_,_,_,rr⟩:=HR.out.keep _ (Upd.refl _ _)
    have q3:=(run11 rr).2.2.2.1
    by_cases hlt:k<f.keeps.length
    ·obtain ⟨A',c',hA',_,_,sl⟩:=fm.keeps
     refine' zq288
     obtain ⟨b,off,⟨kc,kf⟩,rfl,hbb,hx,_,_,d0,d1⟩:=sl.cell hlt
     dsimp only at d0 d1
     have hk':(k:Int)<f.keeps.length:=by omega
     obtain ⟨hk0,hk1,hk2,_⟩:=HKP.out _ (List.mem_of_getElem? hx)
     dsimp only at hk0 hk1 hk2
     obtain ⟨j,rfl⟩:=Int.eq_ofNat_of_zero_le hk0
     obtain ⟨m,rfl⟩:=Int.eq_ofNat_of_zero_le hk2.1
     have HWM:=Lib.hid hk2
     have hm:m<f.wires.length:=by have:=hk2.2;omega
     have hm':(m:Int)<f.wires.length:=by omega
     have hj:j<cs.length:=by have:=HCS.out;omega
     have hj':(j:Int)<cs.length:=by omega
     have HTK:=Lib.hid (next_take (f:=f) (cs:=cs) (row:=row) (ns:=cs) hx)
     dsimp only at HTK
     obtain ⟨g,cg0,hg⟩:=own_some HN.out (by omega)
     injection hg with hg1 _ hg3
     subst hg1;subst hg3
     obtain ⟨_,_,hA2,_,_,sw⟩:=HFB.out.wires
     injection hA2 with hA1 _ hA3
     subst hA1;subst hA3
     obtain ⟨b2,off2,x,Ag,cg,rfl,hb2,hx2,_,_,e1,lg,mg,sg⟩:=sw.wr hm
     have HCK:Hid (∀W',Upd (fun k=>k=W.heap.size∨k=W.heap.size+1) w3 W'→W'.cell? ⟨b2,off2+m*2+1,none⟩=some (.slice Ag x.clock.length cg)∧SlV W' B 2 isGd (.slice Ag x.clock.length cg) x.clock):=fun W' u=>⟨((HBW.out W' u).cell (p:=⟨b2,off2+m*2+1,none⟩) hb2).trans e1,⟨_,_,rfl,lg,mg,sg.below (HBW.out W' u)⟩⟩
     have HTM:=Lib.hid (HTR.out x.clock _ (fun W' u=>(HCK.out W' u).2) (fun g hg=>by
      obtain ⟨i,hi⟩:=List.getElem?_of_mem hg
      exact ((HWK.out.1 x (List.mem_of_getElem? hx2)).2 i g hi).1))
     rw[show x.clock=clockOf f (m:Int) by unfold clockOf;rw[wAt_some hx2]] at HTM HCK
     generalize (clockOf f (m:Int)).length=cl at*
     have hbk:Below wr.heap.size wr (wr.alloc (.cells #[.int .i64 (j:Int),.int .i64 (m:Int)] 103)):=bE
     have rK:=Row.new wr #[.int .i64 (j:Int),.int .i64 (m:Int)] 103
     have HRk:=Lib.hid (HR.out.below hbk)
     have HOk:=Lib.hid (own_below HO.out hbk)
     have HNk:=Lib.hid (own_below HN.out hbk)
     have HXk:=Lib.hid (HX.out.trans (Upd.of_below hbk))
     have HSk:=Lib.hid hbk.size
     have hgl:=(HN.out.lt g rfl).2
     clear sl hx sw hx2 e1 sg fm rr HR HO HN HX HS
     go_upto_region 14 with (fail)
     generalize wr.alloc (.cells #[.int .i64 (j:Int),.int .i64 (m:Int)] 103)=wk at*
     have HKk:Hid (∀W1,Upd (fun k=>k=W.heap.size∨k=W.heap.size+1) wk W1→W1.cell? ⟨R,0,none⟩=some (.slice (some ⟨b2,off2,none⟩) f.wires.length cw)∧W1.cell? ⟨wr.heap.size,0,none⟩=some (.int .i64 (j:Int))∧W1.cell? ⟨wr.heap.size,1,none⟩=some (.int .i64 (m:Int))∧W1.cell? ⟨b2,off2+m*2+1,none⟩=some (.slice Ag cl cg)):=fun W1 u=>⟨(run11 (HRk.out.keep W1 u).2.2.2.2).1,(u.row rK (by omega)).cell 0,(u.row rK (by omega)).cell 1,(HCK.out W1 (HXk.out.trans u)).1⟩
     clear rK hbk q3 d0 d1
     refine wp_region_held_drew (S:=fun W=>W.cell? ⟨R,0,none⟩=some (.slice (some ⟨b2,off2,none⟩) f.wires.length cw)∧W.cell? ⟨wr.heap.size,0,none⟩=some (.int .i64 (j:Int))∧W.cell? ⟨wr.heap.size,1,none⟩=some (.int .i64 (m:Int))∧W.cell? ⟨b2,off2+m*2+1,none⟩=some (.slice Ag cl cg)) (by kernel_rfl) ?_ (fun hHeld=>?_)
     ·(try dsimp only);(first|exact HKk.out _ hu8'|exact HKk.out _ (Upd.of_below ((Below.refl _ _).drew)))
     refine tk 0 (some 81) rfl ?_
     refine tk 1 (some 82) rfl ?_
     refine tk 2 (some 83) rfl ?_
     refine tk 3 (some 84) rfl ?_
     refine tk 4 (some 85) rfl ?_
     refine tk 5 (some 86) rfl ?_
     refine tk 6 (some 87) rfl ?_
     refine tk 7 (some 88) rfl ?_
     refine tk 8 (some 89) rfl ?_
     refine tk 9 (some 90) rfl ?_
     refine tk 10 (some 91) rfl ?_
     refine rd1 11 (some 92) rfl (fun KK hKK=>?_)
     go_simp
     (go_at_call 91;refine Calls.mono (HTM.out _ _ _ (HRk.out.below ((Below.refl _ _).drew)) (HXk.out.trans (Upd.of_below ((Below.refl _ _).drew)))) ?_;rintro e w8 ⟨rfl,⟨ds8,vs8,hr8⟩,hu8⟩;(have hu8':Upd (fun k=>k=W.heap.size∨k=W.heap.size+1) wk w8:=(Upd.of_below ((Below.refl _ _).drew)).trans hu8))
     (try go_wp2_with fail)
     refine hKK.out _ _ ?_ (fun hHeld=>?_)
     ·(try dsimp only);(first|exact HKk.out _ hu8'|exact HKk.out _ (Upd.of_below ((Below.refl _ _).drew)))
     refine' zq4
     refine wpAnyH_done (by kernel_rfl) ?_ _
     have HR8:=Lib.hid hr8
     have HX8:=Lib.hid (HXk.out.trans hu8')
     have HK8:Hid (∀W1,Upd (fun k=>k=W.heap.size∨k=W.heap.size+1) w8 W1→W1.cell? ⟨R,0,none⟩=some (.slice (some ⟨b2,off2,none⟩) f.wires.length cw)∧W1.cell? ⟨wr.heap.size,0,none⟩=some (.int .i64 (j:Int))∧W1.cell? ⟨wr.heap.size,1,none⟩=some (.int .i64 (m:Int))∧W1.cell? ⟨b2,off2+m*2+1,none⟩=some (.slice Ag cl cg)):=fun W1 u=>HKk.out W1 (hu8'.trans u)
     have HO8:=Lib.hid (own_run HOk.out hu8' hkv.1 hkv.2)
     have HN8:=Lib.hid (own_run HNk.out hu8' (by omega) (by omega))
     have HS8:Hid (wo.heap.size≤w8.heap.size):=by have:=HSk.out;have:=hu8'.size;show _≤_;omega
     clear hr8 hu8 hu8' hHeld HKk HRk HXk HOk HNk
     obtain ⟨BB,hbb⟩:∃BB:Bool,thF f cs row (clockOf f (m:Int))=BB:=⟨_,rfl⟩
     have HBB:=Lib.hid hbb
     rw[hbb]
     clear hbb
     cases BB
     ·have HN':Hid (w8.ownsRow wo.heap.size 3 1 (.slice (some ⟨g,0,none⟩) cs.length cn) cs.length (ints (nextF f cs row (f.keeps.take (k+1)) cs))):=by
       show World.ownsRow _ _ _ _ _ _ _
       rw[HTK.out,HBB.out,if_neg Bool.false_ne_true]
       exact HN8.out
      have HW':Hid (∀x∈nextF f cs row (f.keeps.take (k+1)) cs,Wf x):=by
       show ∀x∈_,_
       rw[HTK.out,HBB.out,if_neg Bool.false_ne_true]
       exact HW.out
      go_wp2_with fail
      go_roundw
      case rel=>exact ⟨k+1,_,_,by omega,by go_num,HR8,HO8,HN',HW',HX8,HS8⟩
      case measure=>simp[intOf];omega
     ·go_upto_region 15 with (fail)
      refine wp_region_L 8 (S:=fun W=>W.cell? ⟨R,0,none⟩=some (.slice (some ⟨b2,off2,none⟩) f.wires.length cw)∧W.cell? ⟨wr.heap.size,0,none⟩=some (.int .i64 (j:Int))∧W.cell? ⟨wr.heap.size,1,none⟩=some (.int .i64 (m:Int))∧W.cell? ⟨b2,off2+m*2+1,none⟩=some (.slice Ag cl cg)) (by kernel_rfl) ?_ (fun hHeld=>?_)
      ·refine' zq315
      refine tkL 0 (some 93) rfl ?_
      refine tkL 1 (some 94) rfl ?_
      refine tkL 2 (some 95) rfl ?_
      refine tkL 3 (some 96) rfl ?_
      refine tkL 4 (some 97) rfl ?_
      refine tkL 5 (some 98) rfl ?_
      refine rdL 6 (some 99) rfl (fun KK hKK=>?_)
      go_simp
      (go_at_call 90;refine Calls.mono (HWI.out m HWM.out _ _ _ (HR8.out.below ((Below.refl _ _).drew))) ?_;rintro e w9 ⟨rfl,hw9,⟨ds9,vs9,hr9⟩,hu9⟩;(have hu9':Upd (fun k=>k=W.heap.size∨k=W.heap.size+1) w8 w9:=(Upd.of_below ((Below.refl _ _).drew)).trans hu9);(have HN9:=Lib.hid (own_run HN8.out hu9' (by omega) (by omega)));(obtain ⟨u9,c9⟩:∃u9,w9.cell? ⟨g,j,none⟩=some u9:=⟨_,(HN9.out.cellAt j (by omega)).trans (List.getElem?_eq_getElem (by have:=HN9.out.1;omega))⟩);(have z9:=HN9.out.frozenAt j))
      (try go_wp2_with fail)
      refine hKK.out _ _ ?_ (fun hHeld=>?_)
      ·refine' zq315
      refine' zq4
      refine rdL 7 (some 100) rfl (fun KK hKK=>?_)
      go_simp
      refine hKK.out _ _ ?_ (fun hHeld=>?_)
      ·refine' zq315
      refine' zq4
      refine' zq151
      have HR9:=Lib.hid hr9
      have HX9:=Lib.hid (HX8.out.trans hu9')
      have HO9:=Lib.hid (own_run HO8.out hu9' hkv.1 hkv.2)
      have hgo:wo.heap.size≤g:=(HN9.out.lt g rfl).1
      have hwo3:w3.heap.size≤wo.heap.size:=by omega
      have hs9:wo.heap.size≤w9.heap.size:=by have:=HS8.out;have:=hu9'.size;omega
      have st:=(HN9.out.stored j (.int .i64 (valF f cs row (m:Int)))).1
      rw[ints_set] at st
      have hb9:Below w3.heap.size w9 (w9.setCell ⟨g,j,none⟩ (.int .i64 (valF f cs row (m:Int)))):=(Below.refl _ _).setCell (by show w3.heap.size≤g;omega) _
      have hbo:Below wo.heap.size w9 (w9.setCell ⟨g,j,none⟩ (.int .i64 (valF f cs row (m:Int)))):=(Below.refl _ _).setCell hgo _
      have HRn:=Lib.hid (HRA.out.far HX9.out HR9.out hb9)
      have HXn:=Lib.hid (HX9.out.far hb9)
      have HOn:=Lib.hid (own_keep HO9.out hbo HOB.out)
      have HNn:Hid ((w9.setCell ⟨g,j,none⟩ (.int .i64 (valF f cs row (m:Int)))).ownsRow wo.heap.size 3 1 (.slice (some ⟨g,0,none⟩) cs.length cn) cs.length (ints (nextF f cs row (f.keeps.take (k+1)) cs))):=by
       show World.ownsRow _ _ _ _ _ _ _
       rw[HTK.out,HBB.out,if_pos rfl]
       exact st
      have HWn:Hid (∀x∈nextF f cs row (f.keeps.take (k+1)) cs,Wf x):=by
       show ∀x∈_,_
       rw[HTK.out,HBB.out,if_pos rfl]
       intro x hx
       rcases List.mem_or_eq_of_mem_set hx with hx|hx
       ·exact HW.out x hx
       ·rw[hx];exact hw9
      have HSn:Hid (wo.heap.size≤(w9.setCell ⟨g,j,none⟩ (.int .i64 (valF f cs row (m:Int)))).heap.size):=by show _≤_;simpa[World.setCell] using hs9
      clear hr9 hu9 hu9' hw9 st hb9 hbo c9 z9 hHeld
      go_wp2_with fail
      go_roundw
      case rel=>exact ⟨k+1,_,_,by omega,by go_num,HRn,HOn,HNn,HWn,HXn,HSn⟩
      case measure=>simp[intOf];omega
    ·obtain rfl:k=f.keeps.length:=by omega
     have HN1:Hid (wr.ownsRow wo.heap.size 3 1 (.slice An cs.length cn) cs.length (ints (nextF f cs row f.keeps cs))):=by have:=HN.out;rw[List.take_length] at this;exact this
     have HW2:Hid (∀x∈nextF f cs row f.keeps cs,Wf x):=by have:=HW.out;rw[List.take_length] at this;exact this
     have z6:=rr.frozen 6
     have q6:=(run11 rr).2.2.2.2.2.2.1
     have u9:=Upd.setCell (X:=fun k=>k=R) (p:=⟨R,6,none⟩) (Upd.refl _ wr) rfl (.slice An cs.length cn)
     have HUF:=Lib.hid ((upd_mix HU.out HX.out (Nat.le_refl _) (Nat.le_succ _)).trans u9)
     have HRF:Hid (Row (wr.setCell ⟨R,6,none⟩ (.slice An cs.length cn)) R #[.slice Aw f.wires.length cw,va,vc,.slice Akk f.keeps.length ck,vi,.slice Ao f.outs.length co,.slice An cs.length cn,.slice Ar' row.length cr,.slice (some ⟨W.heap.size,0,none⟩) f.wires.length f.wires.length,.slice (some ⟨W.heap.size+1,0,none⟩) f.wires.length f.wires.length,vP] 129):=by
      show Row _ _ _ _
      have:=rr.set 6 (.slice An cs.length cn)
      simpa using this
     have hB3:W.heap.size≤w3.heap.size:=HU.out.size
     have HOF:=Lib.hid (own_base (own_updE HO.out u9 (fun q hq e=>own_ne HO.out rr (by decide) (by rw[←e];exact hq))) hB3)
     have HNF:=Lib.hid (own_base (base':=B) (own_updE HN1.out u9 (fun q hq e=>own_ne HN1.out rr (by decide) (by rw[←e];exact hq))) (by omega))
     have HRI:Hid (RunI f (nextF f cs row f.keeps cs) B R (.slice Aw f.wires.length cw) va vc (.slice Akk f.keeps.length ck) vi (.slice Ao f.outs.length co) (.slice An cs.length cn) vP (wr.setCell ⟨R,6,none⟩ (.slice An cs.length cn))):=⟨HBR.out,HFB.out.below (HUF.out.below (fun q hq=>by rw[hq];exact HBR.out) hBW),⟨_,HNF.out⟩,HW2.out,HPK.out _ HUF.out,HPW.out,_,_,_,HRF.out⟩
     clear fm rr u9
     go_wp2_with fail
     go_ret
     exact ⟨_,_,rfl,HOF.out,HW1.out,HRI.out,HUF.out⟩
end
end Go.Proofs.YtckognjamlckcaaGreatDoor
namespace Go.Proofs.YtckognjamlckcaaGreatDoor.Fo
open Vf Ar
noncomputable def stF (f:Fm):List Int→List (List Int)→List Int
 |cs,[]=>cs
 |cs,row::l=>stF f (nextF f cs row f.keeps cs) l
theorem rowsF_snoc (f:Fm) (row:List Int):∀(l:List (List Int)) (cs:List Int),rowsF f cs (l++ [row])=rowsF f cs l++ [outF f (stF f cs l) row]∧stF f cs (l++ [row])=nextF f (stF f cs l) row f.keeps (stF f cs l)
 | [],cs=>⟨rfl,rfl⟩
 |x::l,cs=>by
  obtain ⟨h1,h2⟩:=rowsF_snoc f row l (nextF f cs x f.keeps cs)
  exact ⟨by rw[List.cons_append,rowsF,rowsF,h1,List.cons_append];rfl,by rw[List.cons_append,stF,stF,h2]⟩
theorem nextF_len (f:Fm) (cs row:List Int):∀(ks:List (Int × Int)) (ns:List Int),(nextF f cs row ks ns).length=ns.length
 | [],_=>rfl
 |k::ks,ns=>by
  have h:=nextF_len f cs row ks
  unfold nextF at h⊢
  rw[List.foldl_cons,h]
  split<;>simp
theorem stF_len (f:Fm):∀(l:List (List Int)) (cs:List Int),(stF f cs l).length=cs.length
 | [],_=>rfl
 |x::l,cs=>by rw[stF,stF_len f l,nextF_len]
end Go.Proofs.YtckognjamlckcaaGreatDoor.Fo
namespace Go.Proofs.YtckognjamlckcaaGreatDoor
open Go.RowKit Vf Fo Ar
attribute [local go_sem ↓] Go.wp_at_zero Go.wp_at_succ
theorem info_rw:(Tryz.prog.info? 26).map (fun i=>(i.zero,i.size,i.bytes))=some (some (.slice none 0 0),1,24):=by kernel_rfl
def RowsOwn (w:World) (l:List (List Int)) (vs:List Value):Prop:=vs.length=l.length∧∀(i:Nat) x,l[i]? =some x→(∀y∈x,Wf y)∧∃v,vs[i]? =some v∧∃n,w.ownsRow 0 3 1 v n (ints x)
theorem RowsOwn.upd {w w':World} {X:Nat→Prop} {l:List (List Int)} {vs:List Value} (h:RowsOwn w l vs) (u:Upd X w w') (hX:∀v n xs,w.ownsRow 0 3 1 v n xs→∀k,v.ownBlock=some k→¬X k):RowsOwn w' l vs:=
 ⟨h.1,fun i x hi=>by
  obtain ⟨hw,v,hv,n,ho⟩:=h.2 i x hi
  exact ⟨hw,v,hv,n,own_updE ho u (hX _ _ _ ho)⟩⟩
theorem RowsOwn.snoc {w:World} {l:List (List Int)} {vs:List Value} (h:RowsOwn w l vs) {v:Value} {n:Nat} {x:List Int} (hw:∀y∈x,Wf y) (ho:w.ownsRow 0 3 1 v n (ints x)):RowsOwn w (l++ [x]) (vs++ [v]):=by
 refine ⟨by simp[h.1],fun i y hi=>?_⟩
 rcases Nat.lt_or_ge i l.length with hl|hl
 ·rw[List.getElem?_append_left hl] at hi
  obtain ⟨h1,u,h2,h3⟩:=h.2 i y hi
  exact ⟨h1,u,by rw[List.getElem?_append_left (by rw[h.1];exact hl)];exact h2,h3⟩
 ·rw[List.getElem?_append_right hl] at hi
  match e:i-l.length,hi with
  |0,hi=>
   simp at hi
   subst hi
   exact ⟨hw,v,by rw[List.getElem?_append_right (by rw[h.1];exact hl),h.1,e];rfl,n,ho⟩
  |q+1,hi=>simp at hi
theorem flat_one1:∀(vs:List Value),(vs.map (fun v=> [v])).flatten=vs
 | []=>rfl
 |v::vs=>by rw[List.map_cons,List.flatten_cons,flat_one1 vs];rfl
theorem RowsOwn.sl {w:World} {B n:Nat} {l:List (List Int)} {vs:List Value} {v:Value} (h:RowsOwn w l vs) (ho:w.ownsRow B 26 1 v n vs):SlV w w.heap.size 1 (isRw w w.heap.size) v l:=by
 rw[←flat_one1 vs] at ho
 refine (own_sl ho ⟨by rw[List.length_map,h.1],fun i x cs hi hc=>?_⟩ (fun cs hcs=>by obtain ⟨_,_,rfl⟩:=List.mem_map.1 hcs;rfl) (by decide)).1
 obtain ⟨hw,u,hu,m,hm⟩:=h.2 i x hi
 rw[List.getElem?_map,hu] at hc
 injection hc with hc
 subst hc
 exact ⟨u,rfl,own_int hm hw (Upd.refl (fun _=>False) w) (fun _ _ g=>g)⟩
theorem rowsV_below {w W:World} {B:Nat} {v:Value} {l:List (List Int)} (h:SlV w B 1 (isRw w B) v l) (hb:Below B w W):SlV W B 1 (isRw W B) v l:=
 h.keep (fun _ _ hp hc=>(hb.cell hp).trans hc) (Nat.le_refl _) (fun _ _ _ g=>by
  obtain ⟨v,h1,h2⟩:=g
  exact ⟨v,h1,h2.below hb⟩)
theorem rows_any (f:Fm) (rows:List (List Int)) (vw va vc vk vi vo v1:Value) (w:World) (h:FmAt w w.heap.size f vw va vc vk vi vo) (h1:SlV w w.heap.size 1 (isRw w w.heap.size) v1 rows) (hf:formOk f) (hla:f.acts.length≤100000) (hcw:∀x∈f.cells,Wf x.2) (hrl:∀x∈rows,x.length=f.ins.length) (hr12:rows.length≤12):
  Calls Tryz.prog 21 #[fmV vw va vc vk vi vo,v1] w fun e w'=>∃v,e= .returned v∧SlV w' w'.heap.size 1 (isRw w' w'.heap.size) v (rowsF f (f.cells.map (·.2)) rows)∧Below w.heap.size w w':=by
 obtain ⟨i0,hi0,hz0,hz1,hz2⟩:=info_parts info_rw
 have HN:=Lib.hid (fun W (hW:Below w.heap.size w W)=>new_any f vw va vc vk vi vo W ((h.below hW).keep (fun _ _ _ hc=>hc) hW.size) hf.1.2.2 (by have:=hf.2.2.2.1.2.1;omega) hla hcw)
 have HV:=Lib.hid h1
 have HRL:=Lib.hid hrl
 have HOK:=Lib.hid hf
 obtain ⟨Aw,cw,rfl,_,_,_⟩:=id h.wires
 obtain ⟨Aa,ca,rfl,_,_,_⟩:=id h.acts
 obtain ⟨Acc,cc,rfl,_,_,_⟩:=id h.cells
 obtain ⟨Akk,ck,rfl,_,_,_⟩:=id h.keeps
 obtain ⟨Ai,ci,rfl,_,_,_⟩:=id h.ins
 obtain ⟨Ao,co,rfl,_,_,_⟩:=id h.outs
 obtain ⟨Ar,cr,rfl,lr,mr,_⟩:=id h1
 have mr':cr≤9223372036854775807:=by unfold maxLen at mr;omega
 have b1:Below w.heap.size w (w.alloc (.cells #[.slice Aw f.wires.length cw,.slice Aa f.acts.length ca,.slice Acc f.cells.length cc,.slice Akk f.keeps.length ck,.slice Ai f.ins.length ci,.slice Ao f.outs.length co] 28)):=bE
 obtain ⟨f0,f1,f2,f3,f4,f5⟩:=(Row.new w #[.slice Aw f.wires.length cw,.slice Aa f.acts.length ca,.slice Acc f.cells.length cc,.slice Akk f.keeps.length ck,.slice Ai f.ins.length ci,.slice Ao f.outs.length co] 28).six'
 clear h h1 hf hcw hrl
 go_enter Tryz.func21,Tryz.ntmps21
 go_upto_region 1 with (fail)
 generalize w.alloc (.cells #[.slice Aw f.wires.length cw,.slice Aa f.acts.length ca,.slice Acc f.cells.length cc,.slice Akk f.keeps.length ck,.slice Ai f.ins.length ci,.slice Ao f.outs.length co] 28)=w1 at*
 have hs1:=b1.size
 go_wp2_with fail
 refine (HN.out _ b1).mono ?_
 rintro e w2 ⟨R,vC,vP,rfl,hRI,hb2⟩
 have b2:=Lib.hid (b1.trans (hb2.mono hs1))
 have HRI:=Lib.hid hRI
 have hs2:w1.heap.size≤w2.heap.size:=hb2.size
 have hR1:w1.heap.size≤R:=hRI.bR
 clear f0 f1 f2 f3 f4 f5 HN hRI hb2
 go_wp2_with fail
 go_loopw[6,7] (fun v6 i wr=>∃(k:Nat) (o vC:Value) (vs:List Value),k≤rows.length∧i= .int .i64 k∧o=v6∧Hid (RunI f (stF f (f.cells.map (·.2)) (rows.take k)) w1.heap.size R (.slice Aw f.wires.length cw) (.slice Aa f.acts.length ca) (.slice Acc f.cells.length cc) (.slice Akk f.keeps.length ck) (.slice Ai f.ins.length ci) (.slice Ao f.outs.length co) vC vP wr)∧Hid (wr.ownsRow w2.heap.size 26 1 o k vs)∧Hid (RowsOwn wr (rowsF f (f.cells.map (·.2)) (rows.take k)) vs)∧Hid (Below w.heap.size w wr)∧Hid (w2.heap.size≤wr.heap.size)) (fun _ i _=>rows.length-(intOf i).toNat)
 case atStart=>exact ⟨0,_,_,[],Nat.zero_le _,rfl,rfl,HRI.out,World.ownsRow_nil _ _ _ _,⟨rfl,fun i x hi=>by simp[rowsF] at hi⟩,b2.out,Nat.le_refl _⟩
 case round=>
  clear HRI b2
  obtain ⟨k,o,vC,vs,hk,rfl,rfl,HR,HO,HRO,HB,HS⟩:=hrel
  by_cases hlt:k<rows.length
  ·have hsr:=HS.out
   have hsb:=HB.out.size
   obtain ⟨A',c',hA',_,_,sl⟩:=rowsV_below HV.out HB.out
   refine' zq288
   obtain ⟨b,off,x,Ax,cx,rfl,hbb,hx,d0,lx,mx,sx⟩:=sl_rw sl hlt
   have hk':(k:Int)<rows.length:=by omega
   have HT:=Lib.hid (tick_any HOK.out (by rw[stF_len,List.length_map]) (HRL.out x (List.mem_of_getElem? hx)) HR.out (fun W' u=>⟨Ax,cx,rfl,lx,mx,(sx.below (u.below (B:=w.heap.size) (fun q hq=>by omega) hsb)).more hsb⟩))
   obtain ⟨t1,t2⟩:=rowsF_snoc f x (rows.take k) (f.cells.map (·.2))
   rw[←take_snoc' hx] at t1 t2
   have HT1:=Lib.hid t1
   have HT2:=Lib.hid t2
   clear t1 t2 sl hx lx mx sx
   generalize x.length=len at*
   go_wp2_with fail
   refine HT.out.mono ?_
   rintro e w8 ⟨v,vC',rfl,hown,hwf,hri,hu⟩
   obtain ⟨Av,cv,hv,_,_⟩:=own_src hown
   subst hv
   obtain ⟨_,_,_,rR⟩:=HR.out.r
   have HO8:=Lib.hid (own_updE HO.out hu (fun q hq e=>own_ne HO.out rR (by decide) (by rw[←e];exact hq)))
   have HRO8:=Lib.hid ((HRO.out.upd hu (fun v n xs ho q hq e=>own_ne ho rR (by decide) (by rw[←e];exact hq))).snoc hwf (own_base hown (Nat.zero_le _)))
   have HB8:=Lib.hid (hu.below (B:=w.heap.size) (fun q hq=>by omega) hsb)
   have HRI8:=Lib.hid hri
   have hs8:=hu.size
   clear HR HO HRO hown hwf hri hu rR HT
   go_wp2_with (at_builtin;refine wpList_append_any _ rfl _ _ 43 rfl w2.heap.size 26 i0 (.slice none 0 0) 1 24 Tryz.underlying43 hi0 hz0 hz1 hz2 rfl (by decide) _ _ _ rfl (HO8.out.alloc _) ⟨_,0,none⟩ 1 1 [.slice Av f.outs.length cv] rfl rfl (cells_new _ _ _) (by intro u hu;simp at hu;subst hu;rfl) (by unfold maxLen;omega) (by omega) (by first|omega|(simp;omega)|simp) ?_)
   intro v13 w13 hown13 hg13 _
   obtain ⟨_,_,_,rR8⟩:=HRI8.out.r
   have u13:Upd (fun q=>o.ownBlock=some q) w8 w13:=((Upd.refl _ w8).alloc _).trans (Upd.grown hg13)
   have HRI13:=Lib.hid (HRI8.out.upd u13 (fun q hq=>by have:=(HO8.out.lt q hq).1;omega) (own_ne HO8.out rR8 (by decide)) (fun n xs h q hq e=>own_two h HO8.out (by decide) hq e) (fun n xs h q hq e=>own_two h HO8.out (by decide) hq e))
   have HRO13:=Lib.hid (HRO8.out.upd u13 (fun v n xs h q hq e=>own_two h HO8.out (by decide) hq e))
   have HB13:=Lib.hid (HB.out.trans (HB8.out.trans (u13.below (B:=w.heap.size) (fun q hq=>by have:=(HO8.out.lt q hq).1;omega) (by omega))))
   have HS13:Hid (w2.heap.size≤w13.heap.size):=by have:=u13.size;show _≤_;omega
   rw[←HT1.out] at HRO13
   rw[←HT2.out] at HRI13
   have HO13:=Lib.hid hown13
   clear hown13 hg13 u13 rR8
   go_wp2_with fail
   go_roundw
   case rel=>exact ⟨k+1,_,_,_,by omega,by go_num,rfl,HRI13,HO13,HRO13,HB13,HS13⟩
   case measure=>simp[intOf];omega
  ·obtain rfl:k=rows.length:=by omega
   have HRF:=Lib.hid (HRO.out.sl HO.out)
   rw[List.take_length] at HRF
   clear HR HO HRO
   go_wp2_with fail
   go_ret
   exact ⟨_,rfl,HRF.out,HB.out⟩
end Go.Proofs.YtckognjamlckcaaGreatDoor
