/-
  Several texts in one: SemI, SemJ.
-/
import Derived.Test.YtckognjamlckcaaGreatDoorRwA
set_option maxHeartbeats 16000000
set_option maxRecDepth 100000
namespace Go.Proofs.YtckognjamlckcaaGreatDoor
open Go.RowKit Vf Fo Ar
attribute [local go_sem ↓] Go.wp_at_zero Go.wp_at_succ
section
variable {f:Fm} {cs row:List Int} {R K V:Nat} {vw va vc vk vi vo vC vR vP:Value} {a w w' w3 w8 w13:World} {ds ds3:List Bool} {vs vs3:List Int}
theorem ae.far {X:Nat->Prop} (u:ae X a w) (hb:Below a.heap.size w w'):ae X a w':=
 ⟨hb.os.trans u.os,hb.tape.trans u.tape,hb.output.trans u.output,Nat.le_trans u.size hb.size,fun k hk hX=>(hb.block k hk).trans (u.block k hk hX)⟩
theorem cz.far (h3:cz f cs row R K V vw va vc vk vi vo vC vR vP w3 ds3 vs3) (u:ae (fun k=>k=K\/k=V) w3 w8) (h8:cz f cs row R K V vw va vc vk vi vo vC vR vP w8 ds vs) (hb:Below w3.heap.size w8 w13):cz f cs row R K V vw va vc vk vi vo vC vR vP w13 ds vs:=
 h3.upd (u.far hb) (h8.k.below hb h3.k.lt) (h8.v.below hb h3.v.lt) h8.dl h8.vl h8.wf h8.inv
theorem jR {base size n:Nat} {e:TypeId} {v:Value} {xs:List Value} (ho:w.ownsRow base e size v n xs) (u:ae (fun k=>k=K\/k=V) w w') (hK:K<base) (hV:V<base):w'.ownsRow base e size v n xs:=
 aN ho u (fun q hq e=>by have:=(ho.lt q hq).1;omega)
end
section
variable {f:Fm} {cs row:List Int} {B R:Nat} {vw va vc vk vi vo vC vR vP:Value} {W:World}
theorem xv {k:Nat} {x:Int × Int} {ns:List Int} (h:f.keeps[k]? =some x):cu f cs row (f.keeps.take (k+1)) ns=if fC f cs row (aa f x.2)=true then (cu f cs row (f.keeps.take k) ns).set x.1.toNat (aK f cs row x.2) else cu f cs row (f.keeps.take k) ns:=by
 unfold cu
 rw[bj h,List.foldl_append]
 rfl
theorem yT (hf:bm f) (hcs:cs.length=f.cells.length) (hrl:row.length=f.ins.length) (h:fU f cs B R vw va vc vk vi vo vC vP W) (hrow:∀W',ae (fun k=>k=R) W W'->aI W' W.heap.size 1 aP vR row):
  Calls Tryz.prog 54 #[.pointer (some ⟨R,0,none⟩),vR] W fun e W'=>∃v vC',e= .returned v/\W'.ownsRow W.heap.size 3 1 v f.outs.length (al (eO f cs row))/\(∀x∈eO f cs row,Wf x)/\fU f (cu f cs row f.keeps cs) B R vw va vc vk vi vo vC' vP W'/\ae (fun k=>k=R) W W':=by
 have HI:=zH h
 have HRW:=zH hrow
 have HFB:=zH h.fm
 have HBR:=zH h.bR
 have HNIL:=zH h.nil
 have HCW:=zH h.cw
 have HPW:=zH h.pw
 have HPK:Hid (∀W',ae (fun k=>k=R) W W'->∃n,W'.ownsRow B 3 1 vP n (al (iE f))):=fun W' u=>by
  obtain ⟨n,p⟩:=h.p
  obtain ⟨_,_,_,r⟩:=h.r
  exact ⟨n,aN p u (fun q hq e=>bh p r (by decide) (by rw[<-e];exact hq))⟩
 obtain ⟨Ar',cr,rfl,_,_,_⟩:=hrow W (ae.refl _ _)
 obtain ⟨hfm,hvc,_⟩:=h.keep W (ae.refl _ _)
 obtain ⟨Aw,cw,rfl,lw,mw,_⟩:=id hfm.wires
 obtain ⟨Ao,co,rfl,lo,mo,_⟩:=id hfm.outs
 obtain ⟨Akk,ck,rfl,lk,mk,_⟩:=id hfm.keeps
 obtain ⟨Ac,cc,rfl,lc,mc,_⟩:=id hvc
 have mo':co<=9223372036854775807:=by unfold maxLen at mo;omega
 have mk':ck<=9223372036854775807:=by unfold maxLen at mk;omega
 refine' zq220
 have HPO:=zH hf.2.2.1.1
 have HOL:=zH hf.2.2.1.2.2
 have HCL:=zH hf.2.2.2.1.2.1
 have HKP:=zH hf.2.2.2.1.2.2.1
 have HWK:=zH hf.1
 obtain ⟨x7,x8,x9,rR⟩:=h.r
 have hwl:=hf.1.2.2
 have mkb:=gQ f.wires.length (by omega) (by omega)
 have mki:=jq f.wires.length (by omega) (by omega)
 have HRL:=zH hrl
 have HCS:=zH hcs
 have HOK:=zH hf
 obtain ⟨r0,r1,r2,r3,r4,r5,r6,r7,r8,r9,r10⟩:=ff rR
 have z7:=rR.frozen 7
 have z8:=rR.frozen 8
 have z9:=rR.frozen 9
 have hRl:=rR.lt
 clear h hrow hfm hvc hrl hcs hf
 go_enter Tryz.func54,Tryz.ntmps54
 go_upto_region 4 with (fail)
 generalize hW0:World.setCell (World.setCell (World.setCell W _ _) _ _) _ _=w0
 have hX:ae (fun k=>k=R) W w0/\w0.heap.size=W.heap.size/\ai w0 R #[.slice Aw f.wires.length cw,va,vc,.slice Akk f.keeps.length ck,vi,.slice Ao f.outs.length co,.slice Ac cs.length cc,.slice Ar' row.length cr,.slice (some ⟨W.heap.size,0,none⟩) f.wires.length f.wires.length,.slice (some ⟨W.heap.size+1,0,none⟩) f.wires.length f.wires.length,vP] 129:=by
  rw[<-hW0]
  refine ⟨(((ae.refl (fun k=>k=R) W).setCell (X:=fun k=>k=R) (p:=⟨R,7,none⟩) rfl _).setCell (X:=fun k=>k=R) (p:=⟨R,8,none⟩) rfl _).setCell (X:=fun k=>k=R) (p:=⟨R,9,none⟩) rfl _,by simp[World.setCell],?_⟩
  have:=((rR.set 7 (.slice Ar' row.length cr)).set 8 (.slice (some ⟨W.heap.size,0,none⟩) f.wires.length f.wires.length)).set 9 (.slice (some ⟨W.heap.size+1,0,none⟩) f.wires.length f.wires.length)
  simpa using this
 clear hW0
 obtain ⟨u0,hs0,rr0⟩:=hX
 have rk:ai ((w0.alloc (.cells (Array.replicate f.wires.length (.bool false)) 4)).alloc (.cells (Array.replicate f.wires.length (.int .i64 0)) 3)) W.heap.size (dI (List.replicate f.wires.length false)).toArray 4:=by
  have:=(ai.new w0 (Array.replicate f.wires.length (.bool false)) 4).alloc (.cells (Array.replicate f.wires.length (.int .i64 0)) 3)
  rw[hs0] at this
  simpa[dI] using this
 have rv:ai ((w0.alloc (.cells (Array.replicate f.wires.length (.bool false)) 4)).alloc (.cells (Array.replicate f.wires.length (.int .i64 0)) 3)) (W.heap.size+1) (al (List.replicate f.wires.length 0)).toArray 3:=by
  have:=dw w0 (.cells (Array.replicate f.wires.length (.bool false)) 4) (Array.replicate f.wires.length (.int .i64 0)) 3
  rw[hs0] at this
  simpa[al] using this
 have HRA:=zH (HI.o.start (row:=row) HRW.o ((u0.alloc (.cells (Array.replicate f.wires.length (.bool false)) 4)).alloc (.cells (Array.replicate f.wires.length (.int .i64 0)) 3)) (Nat.le_refl _) (Nat.le_succ _) (by omega) hRl ((rr0.alloc _).alloc _) rk rv)
 have HU:=zH ((u0.alloc (.cells (Array.replicate f.wires.length (.bool false)) 4)).alloc (.cells (Array.replicate f.wires.length (.int .i64 0)) 3))
 clear rk rv rr0 u0 hs0 rR r0 r1 r2 r3 r4 r5 r6 r7 r8 r9 r10 z7 z8 z9 mkb mki
 generalize (w0.alloc (.cells (Array.replicate f.wires.length (.bool false)) 4)).alloc (.cells (Array.replicate f.wires.length (.int .i64 0)) 3)=w3 at*
 have hBW:B<=W.heap.size:=by have:=HBR.o;omega
 have HBW:Hid (∀W',ae (fun k=>k=W.heap.size\/k=W.heap.size+1) w3 W'->Below B W W'):=fun W' u=>(oz HU.o u (Nat.le_refl _) (Nat.le_succ _)).below (fun q hq=>by rw[hq];exact HBR.o) hBW
 have HKV:Hid (W.heap.size<w3.heap.size/\W.heap.size+1<w3.heap.size):=⟨HRA.o.k.lt,HRA.o.v.lt⟩
 have HWI:Hid (∀n,ak f n->∀w ds vs,cz f cs row R W.heap.size (W.heap.size+1) (.slice Aw f.wires.length cw) va vc (.slice Akk f.keeps.length ck) vi (.slice Ao f.outs.length co) (.slice Ac cs.length cc) (.slice Ar' row.length cr) vP w ds vs->Calls Tryz.prog 90 #[.pointer (some ⟨R,0,none⟩),.int .i64 n] w fun e w'=>
  e= .returned (.int .i64 (aK f cs row n))/\Wf (aK f cs row n)/\(∃ds' vs',cz f cs row R W.heap.size (W.heap.size+1) (.slice Aw f.wires.length cw) va vc (.slice Akk f.keeps.length ck) vi (.slice Ao f.outs.length co) (.slice Ac cs.length cc) (.slice Ar' row.length cr) vP w' ds' vs')/\ae (fun k=>k=W.heap.size\/k=W.heap.size+1) w w'):=fun n hn=>qZ HOK.o HRL.o HCS.o hn
 have HTR:Hid (∀(c:List Gd) (v:Value),(∀W',ae (fun k=>k=W.heap.size\/k=W.heap.size+1) w3 W'->aI W' B 2 aW v c)->(∀g∈c,ak f g.wire)->∀w ds vs,cz f cs row R W.heap.size (W.heap.size+1) (.slice Aw f.wires.length cw) va vc (.slice Akk f.keeps.length ck) vi (.slice Ao f.outs.length co) (.slice Ac cs.length cc) (.slice Ar' row.length cr) vP w ds vs->ae (fun k=>k=W.heap.size\/k=W.heap.size+1) w3 w->Calls Tryz.prog 91 #[.pointer (some ⟨R,0,none⟩),v] w fun e w'=>
  e= .returned (.bool (fC f cs row c))/\(∃ds' vs',cz f cs row R W.heap.size (W.heap.size+1) (.slice Aw f.wires.length cw) va vc (.slice Akk f.keeps.length ck) vi (.slice Ao f.outs.length co) (.slice Ac cs.length cc) (.slice Ar' row.length cr) vP w' ds' vs')/\ae (fun k=>k=W.heap.size\/k=W.heap.size+1) w w'):=fun c v hv hc w ds vs h u=>wK HOK.o HRL.o HCS.o c v B w ds vs h (fun W' u'=>hv W' (u.trans u')) hc
 refine' zq106
 go_wp2_with fail
 go_loopw[5,6] (fun v5 i wr=>∃(k:Nat) (o:Value) (ds:List Bool) (vs:List Int),k<=f.outs.length/\i= .int .i64 k/\o=v5/\Hid (cz f cs row R W.heap.size (W.heap.size+1) (.slice Aw f.wires.length cw) va vc (.slice Akk f.keeps.length ck) vi (.slice Ao f.outs.length co) (.slice Ac cs.length cc) (.slice Ar' row.length cr) vP wr ds vs)/\Hid (wr.ownsRow w3.heap.size 3 1 o k (al ((eO f cs row).take k)))/\Hid (∀x∈(eO f cs row).take k,Wf x)/\Hid (ae (fun k=>k=W.heap.size\/k=W.heap.size+1) w3 wr)) (fun _ i _=>f.outs.length-(intOf i).toNat)
 case atStart=>exact ⟨0,_,_,_,Nat.zero_le _,rfl,rfl,HRA.o,World.ownsRow_nil _ _ _ _,fun x hx=>by simp at hx,ae.refl _ _⟩
 case round=>
  obtain ⟨k,o,ds,vs,hk,rfl,rfl,HR,HO,HW,HX⟩:=hrel
  have hsr:=HX.o.size
  have hol:=HOL.o
  have hkv:=HKV.o
  obtain ⟨fm,sc,_,_,rr⟩:=HR.o.keep _ (ae.refl _ _)
  have q5:=(ff rr).2.2.2.2.2.1
  have q6:=(ff rr).2.2.2.2.2.2.1
  by_cases hlt:k<f.outs.length
  ·obtain ⟨A',c',hA',_,_,sl⟩:=fm.outs
   refine' zq169
   obtain ⟨b,off,n,rfl,hbb,hx,wx,d0⟩:=sl.int hlt
   have hk':(k:Int)<f.outs.length:=by omega
   have HN:Hid (ak f n):=(HPO.o n (List.mem_of_getElem? hx)).1
   have HTK:Hid (al ((eO f cs row).take (k+1))=al ((eO f cs row).take k)++ [.int .i64 (aK f cs row n)]):=by
    show _=_
    rw[bj (show (eO f cs row)[k]? =some (aK f cs row n) by simp[eO,hx]),bS]
   have HWK':Hid (Wf (aK f cs row n)->∀x∈(eO f cs row).take (k+1),Wf x):=fun hw x hx1=>by
    rw[bj (show (eO f cs row)[k]? =some (aK f cs row n) by simp[eO,hx])] at hx1
    rcases List.mem_append.1 hx1 with h1|h1
    ·exact HW.o x h1
    ·rw[List.mem_singleton.1 h1];exact hw
   generalize al ((eO f cs row).take k)=LL at*
   clear sl hx fm rr wx sc q6
   go_wp2_with fail
   refine (HWI.o n HN.o _ _ _ HR.o).mono ?_
   rintro e w8 ⟨rfl,hw8,⟨ds',vs',h8⟩,hu8⟩
   have HR8:=zH h8
   have HW8:=zH (HWK'.o hw8)
   have HU8:=zH hu8
   have hs8:=hu8.size
   have HO8:=zH (jR HO.o hu8 hkv.1 hkv.2)
   clear h8 hu8 q5 d0 hw8
   go_wp2_with (at_builtin;refine gi _ rfl _ _ 26 rfl w3.heap.size 3 i0 (.int .i64 0) 1 8 Tryz.underlying26 hi0 hz0 hz1 hz2 rfl (by decide) _ _ _ rfl (HO8.o.alloc _) (some ⟨_,0,none⟩) 1 1 [.int .i64 (aK f cs row n)] rfl eK.some rfl (fun ad he=>by injection he with he;subst he;exact cA _ _ _) (by intro u hu;simp at hu;subst hu;rfl) (by unfold maxLen;omega) (by omega) (by first|omega|(simp;omega)|simp) ?_)
   intro v13 w13 hown13 hb13
   have hb14:Below w3.heap.size w8 w13:=((Below.refl w3.heap.size w8).alloc (by omega) _).trans hb13
   have HR13:=zH (HRA.o.far (HX.o.trans HU8.o) HR8.o hb14)
   have HX13:=zH ((HX.o.trans HU8.o).far hb14)
   have HO13:Hid (w13.ownsRow w3.heap.size 3 1 v13 (k+1) (al ((eO f cs row).take (k+1)))):=by
    show World.ownsRow _ _ _ _ _ _ _
    rw[HTK.o]
    exact hown13
   clear hown13 hb13 hb14
   go_wp2_with fail
   go_roundw
   case rel=>exact ⟨k+1,_,_,_,by omega,by go_num,rfl,HR13,HO13,HW8,HX13⟩
   case measure=>simp[intOf];omega
  ·obtain rfl:k=f.outs.length:=by omega
   have HO1:Hid (wr.ownsRow w3.heap.size 3 1 o f.outs.length (al (eO f cs row))):=by
    have:=HO.o
    rw[List.take_of_length_le (by simp[eO])] at this
    exact this
   have HW1:Hid (∀x∈eO f cs row,Wf x):=by
    have:=HW.o
    rw[List.take_of_length_le (by simp[eO])] at this
    exact this
   have hcs:cs.length<=60:=by rw[HCS.o];exact HCL.o
   obtain ⟨wo,hwo⟩:∃wo:World,wo=wr:=⟨_,rfl⟩
   subst hwo
   have HOB:Hid (∀q,o.ownBlock=some q->q<wo.heap.size):=fun q hq=>(HO1.o.lt q hq).2
   have hRw:R<wo.heap.size:=rr.lt
   have bA:Below wo.heap.size wo (wo.alloc (.cells #[] 3)):=(Below.refl _ _).alloc (Nat.le_refl _) _
   have SC:Hid (∀ad,Ac=some ad->∀j u,(al cs)[j]? =some u->(wo.alloc (.cells #[] 3)).cell? (ad.add j)=some u):=by
    obtain ⟨A',c',hA',_,_,sl⟩:=sc.below bA
    refine' zq169
    rintro ad rfl j u hu
    rw[<-wN] at hu
    exact sl.flatA Cf zB j u hu
   clear HO HW fm rr sc
   go_wp2_with (at_builtin;refine gi _ rfl _ _ 26 rfl wo.heap.size 3 i0 (.int .i64 0) 1 8 Tryz.underlying26 hi0 hz0 hz1 hz2 rfl (by decide) _ _ _ rfl (fG wo 3 1) Ac cs.length cc (al cs) rfl ?c0 ?c1 ?c2 ?c3 ?c4 ?c5 ?c6 ?_)
   case c0=>exact HNIL.o
   case c1=>rw[fF];omega
   case c2=>exact SC.o
   case c3=>intro u hu;obtain ⟨x,_,rfl⟩:=List.mem_map.1 hu;rfl
   case c4=>unfold maxLen;omega
   case c5=>omega
   case c6=>simp
   intro v7 w9 hown9 hb9
   (try simp only[Nat.zero_add,List.nil_append] at hown9)
   have hb9':Below wo.heap.size wo w9:=bA.trans hb9
   have HR9:=zH (HR.o.below hb9')
   have HX9:=zH (HX.o.trans (ae.of_below hb9'))
   have HO9:=zH (aG HO1.o hb9')
   have HS9:Hid (wo.heap.size<=w9.heap.size):=hb9'.size
   have HN9:=zH hown9
   obtain ⟨An,cn,hv7,_,_⟩:=bH hown9
   subst hv7
   clear hown9 hb9 hb9' bA SC HR HX q5 q6 HO1
   go_wp2_with fail
   go_loopw[8] (fun i wr=>∃(k:Nat) (ds:List Bool) (vs:List Int),k<=f.keeps.length/\i= .int .i64 k/\Hid (cz f cs row R W.heap.size (W.heap.size+1) (.slice Aw f.wires.length cw) va vc (.slice Akk f.keeps.length ck) vi (.slice Ao f.outs.length co) (.slice Ac cs.length cc) (.slice Ar' row.length cr) vP wr ds vs)/\Hid (wr.ownsRow w3.heap.size 3 1 o f.outs.length (al (eO f cs row)))/\Hid (wr.ownsRow wo.heap.size 3 1 (.slice An cs.length cn) cs.length (al (cu f cs row (f.keeps.take k) cs)))/\Hid (∀x∈cu f cs row (f.keeps.take k) cs,Wf x)/\Hid (ae (fun k=>k=W.heap.size\/k=W.heap.size+1) w3 wr)/\Hid (wo.heap.size<=wr.heap.size)) (fun i _=>f.keeps.length-(intOf i).toNat)
   case atStart=>exact ⟨0,_,_,Nat.zero_le _,rfl,HR9.o,HO9.o,HN9.o,HCW.o,HX9.o,HS9.o⟩
   case round=>
    clear HR9 HO9 HN9 HX9 HS9
    obtain ⟨k,ds,vs,hk,rfl,HR,HO,HN,HW,HX,HS⟩:=hrel
    have hsr:=HX.o.size
    have hso:=HS.o
    have hkv:=HKV.o
    obtain ⟨fm,_,_,_,rr⟩:=HR.o.keep _ (ae.refl _ _)
    have q3:=(ff rr).2.2.2.1
    by_cases hlt:k<f.keeps.length
    ·obtain ⟨A',c',hA',_,_,sl⟩:=fm.keeps
     refine' zq169
     obtain ⟨b,off,⟨kc,kf⟩,rfl,hbb,hx,_,_,d0,d1⟩:=sl.cell hlt
     dsimp only at d0 d1
     have hk':(k:Int)<f.keeps.length:=by omega
     obtain ⟨hk0,hk1,hk2,_⟩:=HKP.o _ (List.mem_of_getElem? hx)
     dsimp only at hk0 hk1 hk2
     obtain ⟨j,rfl⟩:=Int.eq_ofNat_of_zero_le hk0
     obtain ⟨m,rfl⟩:=Int.eq_ofNat_of_zero_le hk2.1
     have HWM:=zH hk2
     have hm:m<f.wires.length:=by have:=hk2.2;omega
     have hm':(m:Int)<f.wires.length:=by omega
     have hj:j<cs.length:=by have:=HCS.o;omega
     have hj':(j:Int)<cs.length:=by omega
     have HTK:=zH (xv (f:=f) (cs:=cs) (row:=row) (ns:=cs) hx)
     dsimp only at HTK
     obtain ⟨g,cg0,hg⟩:=mQ HN.o (by omega)
     injection hg with hg1 _ hg3
     subst hg1;subst hg3
     obtain ⟨_,_,hA2,_,_,sw⟩:=HFB.o.wires
     injection hA2 with hA1 _ hA3
     subst hA1;subst hA3
     obtain ⟨b2,off2,x,Ag,cg,rfl,hb2,hx2,_,_,e1,lg,mg,sg⟩:=sw.wr hm
     have HCK:Hid (∀W',ae (fun k=>k=W.heap.size\/k=W.heap.size+1) w3 W'->W'.cell? ⟨b2,off2+m*2+1,none⟩=some (.slice Ag x.clock.length cg)/\aI W' B 2 aW (.slice Ag x.clock.length cg) x.clock):=fun W' u=>⟨((HBW.o W' u).cell (p:=⟨b2,off2+m*2+1,none⟩) hb2).trans e1,⟨_,_,rfl,lg,mg,sg.below (HBW.o W' u)⟩⟩
     have HTM:=zH (HTR.o x.clock _ (fun W' u=>(HCK.o W' u).2) (fun g hg=>by
      obtain ⟨i,hi⟩:=List.getElem?_of_mem hg
      exact ((HWK.o.1 x (List.mem_of_getElem? hx2)).2 i g hi).1))
     rw[show x.clock=aa f (m:Int) by unfold aa;rw[bW hx2]] at HTM HCK
     generalize (aa f (m:Int)).length=cl at*
     have hbk:Below wr.heap.size wr (wr.alloc (.cells #[.int .i64 (j:Int),.int .i64 (m:Int)] 103)):=bE
     have rK:=ai.new wr #[.int .i64 (j:Int),.int .i64 (m:Int)] 103
     have HRk:=zH (HR.o.below hbk)
     have HOk:=zH (aG HO.o hbk)
     have HNk:=zH (aG HN.o hbk)
     have HXk:=zH (HX.o.trans (ae.of_below hbk))
     have HSk:=zH hbk.size
     have hgl:=(HN.o.lt g rfl).2
     clear sl hx sw hx2 e1 sg fm rr HR HO HN HX HS
     go_upto_region 14 with (fail)
     generalize wr.alloc (.cells #[.int .i64 (j:Int),.int .i64 (m:Int)] 103)=wk at*
     have HKk:Hid (∀W1,ae (fun k=>k=W.heap.size\/k=W.heap.size+1) wk W1->W1.cell? ⟨R,0,none⟩=some (.slice (some ⟨b2,off2,none⟩) f.wires.length cw)/\W1.cell? ⟨wr.heap.size,0,none⟩=some (.int .i64 (j:Int))/\W1.cell? ⟨wr.heap.size,1,none⟩=some (.int .i64 (m:Int))/\W1.cell? ⟨b2,off2+m*2+1,none⟩=some (.slice Ag cl cg)):=fun W1 u=>⟨(ff (HRk.o.keep W1 u).2.2.2.2).1,(u.row rK (by omega)).cell 0,(u.row rK (by omega)).cell 1,(HCK.o W1 (HXk.o.trans u)).1⟩
     clear rK hbk q3 d0 d1
     refine wp_region_held_drew (S:=fun W=>W.cell? ⟨R,0,none⟩=some (.slice (some ⟨b2,off2,none⟩) f.wires.length cw)/\W.cell? ⟨wr.heap.size,0,none⟩=some (.int .i64 (j:Int))/\W.cell? ⟨wr.heap.size,1,none⟩=some (.int .i64 (m:Int))/\W.cell? ⟨b2,off2+m*2+1,none⟩=some (.slice Ag cl cg)) (by kernel_rfl) ?_ (fun hHeld=>?_)
     ·(try dsimp only);(first|exact HKk.o _ hu8'|exact HKk.o _ (ae.of_below ((Below.refl _ _).drew)))
     refine tk 0 (some 81) rfl ?_
     refine tk 1 (some 82) rfl ?_
     refine tk 2 (some 83) rfl ?_
     refine tk 3 (some 84) rfl ?_
     refine tk 4 (some 85) rfl ?_
     refine tk 5 (some 86) rfl ?_
     refine tk 6 (some 87) rfl ?_
     refine tk 7 (some 88) rfl ?_
     refine tk 8 (some 89) rfl ?_
     refine tk 9 (some 90) rfl ?_
     refine tk 10 (some 91) rfl ?_
     refine aH 11 (some 92) rfl (fun KK hKK=>?_)
     go_simp
     (go_at_call 91;refine Calls.mono (HTM.o _ _ _ (HRk.o.below ((Below.refl _ _).drew)) (HXk.o.trans (ae.of_below ((Below.refl _ _).drew)))) ?_;rintro e w8 ⟨rfl,⟨ds8,vs8,hr8⟩,hu8⟩;(have hu8':ae (fun k=>k=W.heap.size\/k=W.heap.size+1) wk w8:=(ae.of_below ((Below.refl _ _).drew)).trans hu8))
     (try go_wp2_with fail)
     refine hKK.out _ _ ?_ (fun hHeld=>?_)
     ·(try dsimp only);(first|exact HKk.o _ hu8'|exact HKk.o _ (ae.of_below ((Below.refl _ _).drew)))
     refine' zq4
     refine wpAnyH_done (by kernel_rfl) ?_ _
     have HR8:=zH hr8
     have HX8:=zH (HXk.o.trans hu8')
     have HK8:Hid (∀W1,ae (fun k=>k=W.heap.size\/k=W.heap.size+1) w8 W1->W1.cell? ⟨R,0,none⟩=some (.slice (some ⟨b2,off2,none⟩) f.wires.length cw)/\W1.cell? ⟨wr.heap.size,0,none⟩=some (.int .i64 (j:Int))/\W1.cell? ⟨wr.heap.size,1,none⟩=some (.int .i64 (m:Int))/\W1.cell? ⟨b2,off2+m*2+1,none⟩=some (.slice Ag cl cg)):=fun W1 u=>HKk.o W1 (hu8'.trans u)
     have HO8:=zH (jR HOk.o hu8' hkv.1 hkv.2)
     have HN8:=zH (jR HNk.o hu8' (by omega) (by omega))
     have HS8:Hid (wo.heap.size<=w8.heap.size):=by have:=HSk.o;have:=hu8'.size;show _<=_;omega
     clear hr8 hu8 hu8' hHeld HKk HRk HXk HOk HNk
     obtain ⟨BB,hbb⟩:∃BB:Bool,fC f cs row (aa f (m:Int))=BB:=⟨_,rfl⟩
     have HBB:=zH hbb
     rw[hbb]
     clear hbb
     cases BB
     ·have HN':Hid (w8.ownsRow wo.heap.size 3 1 (.slice (some ⟨g,0,none⟩) cs.length cn) cs.length (al (cu f cs row (f.keeps.take (k+1)) cs))):=by
       show World.ownsRow _ _ _ _ _ _ _
       rw[HTK.o,HBB.o,if_neg Bool.false_ne_true]
       exact HN8.o
      have HW':Hid (∀x∈cu f cs row (f.keeps.take (k+1)) cs,Wf x):=by
       show ∀x∈_,_
       rw[HTK.o,HBB.o,if_neg Bool.false_ne_true]
       exact HW.o
      go_wp2_with fail
      go_roundw
      case rel=>exact ⟨k+1,_,_,by omega,by go_num,HR8,HO8,HN',HW',HX8,HS8⟩
      case measure=>simp[intOf];omega
     ·go_upto_region 15 with (fail)
      refine eN 8 (S:=fun W=>W.cell? ⟨R,0,none⟩=some (.slice (some ⟨b2,off2,none⟩) f.wires.length cw)/\W.cell? ⟨wr.heap.size,0,none⟩=some (.int .i64 (j:Int))/\W.cell? ⟨wr.heap.size,1,none⟩=some (.int .i64 (m:Int))/\W.cell? ⟨b2,off2+m*2+1,none⟩=some (.slice Ag cl cg)) (by kernel_rfl) ?_ (fun hHeld=>?_)
      ·refine' zq290
      refine cf 0 (some 93) rfl ?_
      refine cf 1 (some 94) rfl ?_
      refine cf 2 (some 95) rfl ?_
      refine cf 3 (some 96) rfl ?_
      refine cf 4 (some 97) rfl ?_
      refine cf 5 (some 98) rfl ?_
      refine eD 6 (some 99) rfl (fun KK hKK=>?_)
      go_simp
      (go_at_call 90;refine Calls.mono (HWI.o m HWM.o _ _ _ (HR8.o.below ((Below.refl _ _).drew))) ?_;rintro e w9 ⟨rfl,hw9,⟨ds9,vs9,hr9⟩,hu9⟩;(have hu9':ae (fun k=>k=W.heap.size\/k=W.heap.size+1) w8 w9:=(ae.of_below ((Below.refl _ _).drew)).trans hu9);(have HN9:=zH (jR HN8.o hu9' (by omega) (by omega)));(obtain ⟨u9,c9⟩:∃u9,w9.cell? ⟨g,j,none⟩=some u9:=⟨_,(HN9.o.cellAt j (by omega)).trans (List.getElem?_eq_getElem (by have:=HN9.o.1;omega))⟩);(have z9:=HN9.o.frozenAt j))
      (try go_wp2_with fail)
      refine hKK.out _ _ ?_ (fun hHeld=>?_)
      ·refine' zq290
      refine' zq4
      refine eD 7 (some 100) rfl (fun KK hKK=>?_)
      go_simp
      refine hKK.out _ _ ?_ (fun hHeld=>?_)
      ·refine' zq290
      refine' zq4
      refine' zq89
      have HR9:=zH hr9
      have HX9:=zH (HX8.o.trans hu9')
      have HO9:=zH (jR HO8.o hu9' hkv.1 hkv.2)
      have hgo:wo.heap.size<=g:=(HN9.o.lt g rfl).1
      have hwo3:w3.heap.size<=wo.heap.size:=by omega
      have hs9:wo.heap.size<=w9.heap.size:=by have:=HS8.o;have:=hu9'.size;omega
      have st:=(HN9.o.stored j (.int .i64 (aK f cs row (m:Int)))).1
      rw[As] at st
      have hb9:Below w3.heap.size w9 (w9.setCell ⟨g,j,none⟩ (.int .i64 (aK f cs row (m:Int)))):=(Below.refl _ _).setCell (by show w3.heap.size<=g;omega) _
      have hbo:Below wo.heap.size w9 (w9.setCell ⟨g,j,none⟩ (.int .i64 (aK f cs row (m:Int)))):=(Below.refl _ _).setCell hgo _
      have HRn:=zH (HRA.o.far HX9.o HR9.o hb9)
      have HXn:=zH (HX9.o.far hb9)
      have HOn:=zH (qS HO9.o hbo HOB.o)
      have HNn:Hid ((w9.setCell ⟨g,j,none⟩ (.int .i64 (aK f cs row (m:Int)))).ownsRow wo.heap.size 3 1 (.slice (some ⟨g,0,none⟩) cs.length cn) cs.length (al (cu f cs row (f.keeps.take (k+1)) cs))):=by
       show World.ownsRow _ _ _ _ _ _ _
       rw[HTK.o,HBB.o,if_pos rfl]
       exact st
      have HWn:Hid (∀x∈cu f cs row (f.keeps.take (k+1)) cs,Wf x):=by
       show ∀x∈_,_
       rw[HTK.o,HBB.o,if_pos rfl]
       intro x hx
       rcases List.mem_or_eq_of_mem_set hx with hx|hx
       ·exact HW.o x hx
       ·rw[hx];exact hw9
      have HSn:Hid (wo.heap.size<=(w9.setCell ⟨g,j,none⟩ (.int .i64 (aK f cs row (m:Int)))).heap.size):=by show _<=_;simpa[World.setCell] using hs9
      clear hr9 hu9 hu9' hw9 st hb9 hbo c9 z9 hHeld
      go_wp2_with fail
      go_roundw
      case rel=>exact ⟨k+1,_,_,by omega,by go_num,HRn,HOn,HNn,HWn,HXn,HSn⟩
      case measure=>simp[intOf];omega
    ·obtain rfl:k=f.keeps.length:=by omega
     have HN1:Hid (wr.ownsRow wo.heap.size 3 1 (.slice An cs.length cn) cs.length (al (cu f cs row f.keeps cs))):=by have:=HN.o;rw[List.take_length] at this;exact this
     have HW2:Hid (∀x∈cu f cs row f.keeps cs,Wf x):=by have:=HW.o;rw[List.take_length] at this;exact this
     have z6:=rr.frozen 6
     have q6:=(ff rr).2.2.2.2.2.2.1
     have u9:=ae.setCell (X:=fun k=>k=R) (p:=⟨R,6,none⟩) (ae.refl _ wr) rfl (.slice An cs.length cn)
     have HUF:=zH ((oz HU.o HX.o (Nat.le_refl _) (Nat.le_succ _)).trans u9)
     have HRF:Hid (ai (wr.setCell ⟨R,6,none⟩ (.slice An cs.length cn)) R #[.slice Aw f.wires.length cw,va,vc,.slice Akk f.keeps.length ck,vi,.slice Ao f.outs.length co,.slice An cs.length cn,.slice Ar' row.length cr,.slice (some ⟨W.heap.size,0,none⟩) f.wires.length f.wires.length,.slice (some ⟨W.heap.size+1,0,none⟩) f.wires.length f.wires.length,vP] 129):=by
      show ai _ _ _ _
      have:=rr.set 6 (.slice An cs.length cn)
      simpa using this
     have hB3:W.heap.size<=w3.heap.size:=HU.o.size
     have HOF:=zH (dg (aN HO.o u9 (fun q hq e=>bh HO.o rr (by decide) (by rw[<-e];exact hq))) hB3)
     have HNF:=zH (dg (base':=B) (aN HN1.o u9 (fun q hq e=>bh HN1.o rr (by decide) (by rw[<-e];exact hq))) (by omega))
     have HRI:Hid (fU f (cu f cs row f.keeps cs) B R (.slice Aw f.wires.length cw) va vc (.slice Akk f.keeps.length ck) vi (.slice Ao f.outs.length co) (.slice An cs.length cn) vP (wr.setCell ⟨R,6,none⟩ (.slice An cs.length cn))):=⟨HBR.o,HFB.o.below (HUF.o.below (fun q hq=>by rw[hq];exact HBR.o) hBW),⟨_,HNF.o⟩,HW2.o,HPK.o _ HUF.o,HPW.o,_,_,_,HRF.o⟩
     clear fm rr u9
     go_wp2_with fail
     go_ret
     exact ⟨_,_,rfl,HOF.o,HW1.o,HRI.o,HUF.o⟩
end
end Go.Proofs.YtckognjamlckcaaGreatDoor
namespace Go.Proofs.YtckognjamlckcaaGreatDoor.Fo
open Vf Ar
noncomputable def mD (f:Fm):List Int->List (List Int)->List Int
 |cs,[]=>cs
 |cs,row::l=>mD f (cu f cs row f.keeps cs) l
theorem nw (f:Fm) (row:List Int):∀(l:List (List Int)) (cs:List Int),fA f cs (l++ [row])=fA f cs l++ [eO f (mD f cs l) row]/\mD f cs (l++ [row])=cu f (mD f cs l) row f.keeps (mD f cs l)
 | [],cs=>⟨rfl,rfl⟩
 |x::l,cs=>by
  obtain ⟨h1,h2⟩:=nw f row l (cu f cs x f.keeps cs)
  exact ⟨by rw[List.cons_append,fA,fA,h1,List.cons_append];rfl,by rw[List.cons_append,mD,mD,h2]⟩
theorem oI (f:Fm) (cs row:List Int):∀(ks:List (Int × Int)) (ns:List Int),(cu f cs row ks ns).length=ns.length
 | [],_=>rfl
 |k::ks,ns=>by
  have h:=oI f cs row ks
  unfold cu at h⊢
  rw[List.foldl_cons,h]
  split<;>simp
theorem tt (f:Fm):∀(l:List (List Int)) (cs:List Int),(mD f cs l).length=cs.length
 | [],_=>rfl
 |x::l,cs=>by rw[mD,tt f l,oI]
end Go.Proofs.YtckognjamlckcaaGreatDoor.Fo
namespace Go.Proofs.YtckognjamlckcaaGreatDoor
open Go.RowKit Vf Fo Ar
attribute [local go_sem ↓] Go.wp_at_zero Go.wp_at_succ
theorem oe:(Tryz.prog.info? 26).map (fun i=>(i.zero,i.size,i.bytes))=some (some (.slice none 0 0),1,24):=by kernel_rfl
def fs (w:World) (l:List (List Int)) (vs:List Value):Prop:=vs.length=l.length/\∀(i:Nat) x,l[i]? =some x->(∀y∈x,Wf y)/\∃v,vs[i]? =some v/\∃n,w.ownsRow 0 3 1 v n (al x)
theorem fs.upd {w w':World} {X:Nat->Prop} {l:List (List Int)} {vs:List Value} (h:fs w l vs) (u:ae X w w') (hX:∀v n xs,w.ownsRow 0 3 1 v n xs->∀k,v.ownBlock=some k->¬X k):fs w' l vs:=
 ⟨h.1,fun i x hi=>by
  obtain ⟨hw,v,hv,n,ho⟩:=h.2 i x hi
  exact ⟨hw,v,hv,n,aN ho u (hX _ _ _ ho)⟩⟩
theorem fs.snoc {w:World} {l:List (List Int)} {vs:List Value} (h:fs w l vs) {v:Value} {n:Nat} {x:List Int} (hw:∀y∈x,Wf y) (ho:w.ownsRow 0 3 1 v n (al x)):fs w (l++ [x]) (vs++ [v]):=by
 refine' zq115
theorem oS:∀(vs:List Value),(vs.map (fun v=> [v])).flatten=vs
 | []=>rfl
 |v::vs=>by rw[List.map_cons,List.flatten_cons,oS vs];rfl
theorem fs.sl {w:World} {B n:Nat} {l:List (List Int)} {vs:List Value} {v:Value} (h:fs w l vs) (ho:w.ownsRow B 26 1 v n vs):aI w w.heap.size 1 (eF w w.heap.size) v l:=by
 rw[<-oS vs] at ho
 refine (fV ho ⟨by rw[List.length_map,h.1],fun i x cs hi hc=>?_⟩ (fun cs hcs=>by obtain ⟨_,_,rfl⟩:=List.mem_map.1 hcs;rfl) (by decide)).1
 obtain ⟨hw,u,hu,m,hm⟩:=h.2 i x hi
 rw[List.getElem?_map,hu] at hc
 injection hc with hc
 subst hc
 exact ⟨u,rfl,nZ hm hw (ae.refl (fun _=>False) w) (fun _ _ g=>g)⟩
theorem iw {w W:World} {B:Nat} {v:Value} {l:List (List Int)} (h:aI w B 1 (eF w B) v l) (hb:Below B w W):aI W B 1 (eF W B) v l:=
 h.keep (fun _ _ hp hc=>(hb.cell hp).trans hc) (Nat.le_refl _) (fun _ _ _ g=>by
  obtain ⟨v,h1,h2⟩:=g
  exact ⟨v,h1,h2.below hb⟩)
theorem rB (f:Fm) (rows:List (List Int)) (vw va vc vk vi vo v1:Value) (w:World) (h:bQ w w.heap.size f vw va vc vk vi vo) (h1:aI w w.heap.size 1 (eF w w.heap.size) v1 rows) (hf:bm f) (hla:f.acts.length<=100000) (hcw:∀x∈f.cells,Wf x.2) (hrl:∀x∈rows,x.length=f.ins.length) (hr12:rows.length<=12):
  Calls Tryz.prog 21 #[dp vw va vc vk vi vo,v1] w fun e w'=>∃v,e= .returned v/\aI w' w'.heap.size 1 (eF w' w'.heap.size) v (fA f (f.cells.map (·.2)) rows)/\Below w.heap.size w w':=by
 obtain ⟨i0,hi0,hz0,hz1,hz2⟩:=info_parts oe
 have HN:=zH (fun W (hW:Below w.heap.size w W)=>Ct f vw va vc vk vi vo W ((h.below hW).keep (fun _ _ _ hc=>hc) hW.size) hf.1.2.2 (by have:=hf.2.2.2.1.2.1;omega) hla hcw)
 have HV:=zH h1
 have HRL:=zH hrl
 have HOK:=zH hf
 obtain ⟨Aw,cw,rfl,_,_,_⟩:=id h.wires
 obtain ⟨Aa,ca,rfl,_,_,_⟩:=id h.acts
 obtain ⟨Acc,cc,rfl,_,_,_⟩:=id h.cells
 obtain ⟨Akk,ck,rfl,_,_,_⟩:=id h.keeps
 obtain ⟨Ai,ci,rfl,_,_,_⟩:=id h.ins
 obtain ⟨Ao,co,rfl,_,_,_⟩:=id h.outs
 obtain ⟨Ar,cr,rfl,lr,mr,_⟩:=id h1
 have mr':cr<=9223372036854775807:=by unfold maxLen at mr;omega
 have b1:Below w.heap.size w (w.alloc (.cells #[.slice Aw f.wires.length cw,.slice Aa f.acts.length ca,.slice Acc f.cells.length cc,.slice Akk f.keeps.length ck,.slice Ai f.ins.length ci,.slice Ao f.outs.length co] 28)):=bE
 obtain ⟨f0,f1,f2,f3,f4,f5⟩:=(ai.new w #[.slice Aw f.wires.length cw,.slice Aa f.acts.length ca,.slice Acc f.cells.length cc,.slice Akk f.keeps.length ck,.slice Ai f.ins.length ci,.slice Ao f.outs.length co] 28).six'
 clear h h1 hf hcw hrl
 go_enter Tryz.func21,Tryz.ntmps21
 go_upto_region 1 with (fail)
 generalize w.alloc (.cells #[.slice Aw f.wires.length cw,.slice Aa f.acts.length ca,.slice Acc f.cells.length cc,.slice Akk f.keeps.length ck,.slice Ai f.ins.length ci,.slice Ao f.outs.length co] 28)=w1 at*
 have hs1:=b1.size
 go_wp2_with fail
 refine (HN.o _ b1).mono ?_
 rintro e w2 ⟨R,vC,vP,rfl,hRI,hb2⟩
 have b2:=zH (b1.trans (hb2.mono hs1))
 have HRI:=zH hRI
 have hs2:w1.heap.size<=w2.heap.size:=hb2.size
 have hR1:w1.heap.size<=R:=hRI.bR
 clear f0 f1 f2 f3 f4 f5 HN hRI hb2
 go_wp2_with fail
 go_loopw[6,7] (fun v6 i wr=>∃(k:Nat) (o vC:Value) (vs:List Value),k<=rows.length/\i= .int .i64 k/\o=v6/\Hid (fU f (mD f (f.cells.map (·.2)) (rows.take k)) w1.heap.size R (.slice Aw f.wires.length cw) (.slice Aa f.acts.length ca) (.slice Acc f.cells.length cc) (.slice Akk f.keeps.length ck) (.slice Ai f.ins.length ci) (.slice Ao f.outs.length co) vC vP wr)/\Hid (wr.ownsRow w2.heap.size 26 1 o k vs)/\Hid (fs wr (fA f (f.cells.map (·.2)) (rows.take k)) vs)/\Hid (Below w.heap.size w wr)/\Hid (w2.heap.size<=wr.heap.size)) (fun _ i _=>rows.length-(intOf i).toNat)
 case atStart=>exact ⟨0,_,_,[],Nat.zero_le _,rfl,rfl,HRI.o,World.ownsRow_nil _ _ _ _,⟨rfl,fun i x hi=>by simp[fA] at hi⟩,b2.out,Nat.le_refl _⟩
 case round=>
  clear HRI b2
  obtain ⟨k,o,vC,vs,hk,rfl,rfl,HR,HO,HRO,HB,HS⟩:=hrel
  by_cases hlt:k<rows.length
  ·have hsr:=HS.o
   have hsb:=HB.o.size
   obtain ⟨A',c',hA',_,_,sl⟩:=iw HV.o HB.o
   refine' zq169
   obtain ⟨b,off,x,Ax,cx,rfl,hbb,hx,d0,lx,mx,sx⟩:=lS sl hlt
   have hk':(k:Int)<rows.length:=by omega
   have HT:=zH (yT HOK.o (by rw[tt,List.length_map]) (HRL.o x (List.mem_of_getElem? hx)) HR.o (fun W' u=>⟨Ax,cx,rfl,lx,mx,(sx.below (u.below (B:=w.heap.size) (fun q hq=>by omega) hsb)).more hsb⟩))
   obtain ⟨t1,t2⟩:=nw f x (rows.take k) (f.cells.map (·.2))
   rw[<-bj hx] at t1 t2
   have HT1:=zH t1
   have HT2:=zH t2
   clear t1 t2 sl hx lx mx sx
   generalize x.length=len at*
   go_wp2_with fail
   refine HT.o.mono ?_
   rintro e w8 ⟨v,vC',rfl,hown,hwf,hri,hu⟩
   obtain ⟨Av,cv,hv,_,_⟩:=bH hown
   subst hv
   obtain ⟨_,_,_,rR⟩:=HR.o.r
   have HO8:=zH (aN HO.o hu (fun q hq e=>bh HO.o rR (by decide) (by rw[<-e];exact hq)))
   have HRO8:=zH ((HRO.o.upd hu (fun v n xs ho q hq e=>bh ho rR (by decide) (by rw[<-e];exact hq))).snoc hwf (dg hown (Nat.zero_le _)))
   have HB8:=zH (hu.below (B:=w.heap.size) (fun q hq=>by omega) hsb)
   have HRI8:=zH hri
   have hs8:=hu.size
   clear HR HO HRO hown hwf hri hu rR HT
   go_wp2_with (at_builtin;refine eU _ rfl _ _ 43 rfl w2.heap.size 26 i0 (.slice none 0 0) 1 24 Tryz.underlying43 hi0 hz0 hz1 hz2 rfl (by decide) _ _ _ rfl (HO8.o.alloc _) ⟨_,0,none⟩ 1 1 [.slice Av f.outs.length cv] rfl rfl (cA _ _ _) (by intro u hu;simp at hu;subst hu;rfl) (by unfold maxLen;omega) (by omega) (by first|omega|(simp;omega)|simp) ?_)
   intro v13 w13 hown13 hg13 _
   obtain ⟨_,_,_,rR8⟩:=HRI8.o.r
   have u13:ae (fun q=>o.ownBlock=some q) w8 w13:=((ae.refl _ w8).alloc _).trans (ae.grown hg13)
   have HRI13:=zH (HRI8.o.upd u13 (fun q hq=>by have:=(HO8.o.lt q hq).1;omega) (bh HO8.o rR8 (by decide)) (fun n xs h q hq e=>lI h HO8.o (by decide) hq e) (fun n xs h q hq e=>lI h HO8.o (by decide) hq e))
   have HRO13:=zH (HRO8.o.upd u13 (fun v n xs h q hq e=>lI h HO8.o (by decide) hq e))
   have HB13:=zH (HB.o.trans (HB8.o.trans (u13.below (B:=w.heap.size) (fun q hq=>by have:=(HO8.o.lt q hq).1;omega) (by omega))))
   have HS13:Hid (w2.heap.size<=w13.heap.size):=by have:=u13.size;show _<=_;omega
   rw[<-HT1.o] at HRO13
   rw[<-HT2.o] at HRI13
   have HO13:=zH hown13
   clear hown13 hg13 u13 rR8
   go_wp2_with fail
   go_roundw
   case rel=>exact ⟨k+1,_,_,_,by omega,by go_num,rfl,HRI13,HO13,HRO13,HB13,HS13⟩
   case measure=>simp[intOf];omega
  ·obtain rfl:k=rows.length:=by omega
   have HRF:=zH (HRO.o.sl HO.o)
   rw[List.take_length] at HRF
   clear HR HO HRO
   go_wp2_with fail
   go_ret
   exact ⟨_,rfl,HRF.o,HB.o⟩
end Go.Proofs.YtckognjamlckcaaGreatDoor
