/-
  The contract of tompionref29.Tick.
-/
import Derived.Test.YtbjaejgechadpaaGreatVmFitsB
namespace Go.Proofs.YtbjaejgechadpaaGreat
open Go.RowKit Vf
attribute [local go_sem ↓] Go.wp_at_zero Go.wp_at_succ
def TickO (p:Pg) (cells inn:List Int) (w:World) (e:Ending) (w':World):Prop:=Below w.heap.size w w'∧
 ((machFits p cells∧fitsOk p.ins inn∧∃vn vo,e= .returned (.tuple #[vn,vo,.int .i64 ((tick p cells inn).2:Nat),.int .i64 0])∧SlV w' w'.heap.size 1 isInt vn (tick p cells inn).1.next∧SlV w' w'.heap.size 1 isInt vo (tick p cells inn).1.out∧NilOk vn∧∀k,vn.ownBlock=some k→w.heap.size≤k)∨
  (¬(machFits p cells∧fitsOk p.ins inn)∧e= .returned (.tuple #[.slice none 0 0,.slice none 0 0,.int .i64 0,.int .i64 41])))
structure RkAt (w:World) (C R O:Nat) (vn:Value) (s:Tk):Prop where
 regs:Row w R (s.regs.map (Value.int .i64)).toArray 3
 out:Row w O (s.out.map (Value.int .i64)).toArray 3
 next:w.ownsRow C 3 1 vn s.next.length (ints s.next)
 bR:C≤R
 bO:C≤O
 RO:R≠O
 nn:∀k,vn.ownBlock=some k→k≠R∧k≠O
section
variable {w w':World} {C R O:Nat} {vn:Value} {s:Tk}
theorem RkAt.below (h:RkAt w C R O vn s) (hb:Below w.heap.size w w'):RkAt w' C R O vn s:=
 ⟨h.regs.below hb h.regs.lt,h.out.below hb h.out.lt,own_below h.next hb,h.bR,h.bO,h.RO,h.nn⟩
theorem RkAt.alloc (h:RkAt w C R O vn s) (o:Obj):RkAt (w.alloc o) C R O vn s:=h.below ((Below.refl _ _).alloc (Nat.le_refl _) _)
theorem RkAt.drew (h:RkAt w C R O vn s):RkAt w.drew C R O vn s:=h.below ((Below.refl _ _).drew)
theorem RkAt.setReg (h:RkAt w C R O vn s) (n:Nat) (v:Int):RkAt (w.setCell ⟨R,n,none⟩ (.int .i64 v)) C R O vn {s with regs:=s.regs.set n v}:=by
 refine ⟨?_,h.out.far (Ne.symm h.RO) _,own_far h.next (fun k hk=>(h.nn k hk).1) _,h.bR,h.bO,h.RO,h.nn⟩
 have:=h.regs.set n (.int .i64 v)
 rw[map_set] at this
 exact this
theorem RkAt.setOut (h:RkAt w C R O vn s) (n:Nat) (v:Int):RkAt (w.setCell ⟨O,n,none⟩ (.int .i64 v)) C R O vn {s with out:=s.out.set n v}:=by
 refine ⟨h.regs.far h.RO _,?_,own_far h.next (fun k hk=>(h.nn k hk).2) _,h.bR,h.bO,h.RO,h.nn⟩
 have:=h.out.set n (.int .i64 v)
 rw[map_set] at this
 exact this
theorem RkAt.setNext {N c:Nat} (h:RkAt w C R O (.slice (some ⟨N,0,none⟩) s.next.length c) s) (n:Nat) (v:Int):RkAt (w.setCell ⟨N,n,none⟩ (.int .i64 v)) C R O (.slice (some ⟨N,0,none⟩) s.next.length c) {s with next:=s.next.set n v}:=by
 have hN:=h.nn N rfl
 refine ⟨h.regs.far (Ne.symm hN.1) _,h.out.far (Ne.symm hN.2) _,?_,h.bR,h.bO,h.RO,h.nn⟩
 have:=(h.next.stored n (.int .i64 v)).1
 rw[ints_set] at this
 simpa using this
end
theorem rep_row {W:World} {R n:Nat} {t:TypeId} (h:Row W R (Array.replicate n (.int .i64 0)) t):Row W R ((List.replicate n (0:Int)).map (Value.int .i64)).toArray t:=by rw[map_rep] at h;exact h
structure RLoop (p:Pg) (cells inn:List Int) (k over n:Nat) (s:Tk):Prop where
 ti:TI p k s
 st:(trun cells inn (p.code.drop k) over s).1=(tick p cells inn).1
 nn:(trun cells inn (p.code.drop k) over s).2+n=(tick p cells inn).2
section
variable {p:Pg} {cells inn:List Int} {k over n:Nat} {s:Tk} {x:In5}
theorem rloop_start (hc:machFits p cells) (hcI:AllIn cells):RLoop p cells inn 0 0 0 (tk0 p cells):=
 ⟨tk0_inv hc hcI,by rw[List.drop_zero];rfl,by rw[List.drop_zero];rfl⟩
theorem rloop_pass (hr:rightOk p) (hx:p.code[k]? =some x) (h:RLoop p cells inn k (over+1) n s):RLoop p cells inn (k+1) over n s:=by
 obtain ⟨hl,e⟩:=List.getElem?_eq_some_iff.1 hx
 have h1:=h.st
 have h2:=h.nn
 rw[List.drop_eq_getElem_cons hl,trun] at h1 h2
 exact ⟨h.ti.pass hr hx,h1,h2⟩
theorem rloop_exec (hr:rightOk p) (hx:p.code[k]? =some x) (hc:machFits p cells) (hi:insFit p.ins inn) (hcI:AllIn cells) (hiI:AllIn inn) (hk:codeIn p) (h:RLoop p cells inn k 0 n s):RLoop p cells inn (k+1) (tskip s x).toNat (n+1) (texec cells inn s x):=by
 obtain ⟨hl,e⟩:=List.getElem?_eq_some_iff.1 hx
 have h1:=h.st
 have h2:=h.nn
 rw[List.drop_eq_getElem_cons hl,e,trun] at h1 h2
 exact ⟨h.ti.step hr hx hc hi hcI hiI (hk x (List.mem_of_getElem? hx)),h1,by simp only at h2;omega⟩
theorem rloop_end (h:RLoop p cells inn k over n s) (hk:¬k<p.code.length):s=(tick p cells inn).1∧n=(tick p cells inn).2:=by
 have h1:=h.st
 have h2:=h.nn
 rw[List.drop_eq_nil_of_le (by omega),show trun cells inn [] over s=(s,0) by cases over<;>rfl] at h1 h2
 exact ⟨h1,by simp only at h2;omega⟩
end
set_option maxRecDepth 100000 in
set_option maxHeartbeats 16000000 in
theorem rtick_any (p:Pg) (hr:rightOk p) (vi vo vc vd:Value) (w:World) (h:PgAt w w.heap.size p vi vo vc vd) (cells inn:List Int) (v1 v2:Value) (h1:IntsIs w cells v1) (h2:SlV w w.heap.size 1 isInt v2 inn) (hcl:cells.length≤100000):
  Calls Tryz.prog 15 #[pgV p vi vo vc vd,v1,v2] w (TickO p cells inn w):=by
 have HR:=Lib.hid hr
 have HP:=Lib.hid h
 have HC1:=Lib.hid (slv_in h1.1)
 have HC2:=Lib.hid (slv_in h2)
 have HCd:=Lib.hid (pg_in h)
 have hr0:=hr.1.2.2.2.2.1
 have hr1:=hr.1.2.2.2.2.2.1
 have ho1:=hr.1.2.2.2.1.2.2
 have hdl:=hr.1.2.2.2.2.2.2.2
 have H1:=Lib.hid h1.1
 have H2:=Lib.hid h2
 have b0:Below w.heap.size w (w.alloc (.cells #[vi,vo,.int .i64 p.regs,vc,vd] 37)):=(Below.refl _ _).alloc (Nat.le_refl _) _
 have HF:=Lib.hid (rfits29_any p hr.1 vi vo vc vd _ (h.next b0) cells v1 ((h1.1.below b0).more b0.size))
 obtain ⟨⟨Ai,ci,rfl,li,mi,si⟩,⟨Ao,co,rfl,lo,mo,so⟩,_,⟨Ac,cc,rfl,_⟩,⟨Ad,cd,rfl,ld,md,sd⟩⟩:=h
 have md':cd≤9223372036854775807:=by unfold maxLen at md;omega
 have hn1:=Lib.hid h1.2
 obtain ⟨A1,c1,rfl,l1,m1,s1⟩:=h1.1
 obtain ⟨A2,c2,rfl,l2,m2,s2⟩:=h2
 have m1':c1≤9223372036854775807:=by unfold maxLen at m1;omega
 have m2':c2≤9223372036854775807:=by unfold maxLen at m2;omega
 clear hr h1 so b0
 go_enter Tryz.func15,Tryz.ntmps15
 go_wp2_with fail
 refine HF.out.mono ?_
 rintro e w1 ⟨rfl,hb1⟩
 have hbox1:Below (w.heap.size+1) (w.alloc (.cells #[.slice Ai p.ins.length ci,.slice Ao p.outs.length co,.int .i64 p.regs,.slice Ac p.cells.length cc,.slice Ad p.code.length cd] 37)) w1:=by simpa using hb1
 obtain ⟨⟨q0,q1,q2,q3,q4⟩,hbel1,hsz1⟩:=pgBox hbox1
 generalize hV:cB (machFits p cells)=V at*
 have HV:=Lib.hid hV
 clear hV hb1
 cases V
 ·go_wp2_with fail
  refine bodyPost_ret (results_tmp4 rfl _ _ _) rfl ?_
  exact ⟨hbel1,.inr ⟨fun g=>cB_not.1 HV.out g.1,rfl⟩⟩
 have HFc:=Lib.hid (cB_iff.1 HV.out)
 clear HV HF
 go_wp2_with fail
 refine (rfits04_any p.ins inn Ai A2 ci c2 w.heap.size _ li mi l2 m2 (si.below hbel1) (s2.below hbel1)).mono ?_
 rintro e w' ⟨rfl,rfl⟩
 generalize hV:cB (fitsOk p.ins inn)=V at*
 have HV:=Lib.hid hV
 clear hV
 cases V
 ·go_wp2_with fail
  refine bodyPost_ret (results_tmp4 rfl _ _ _) rfl ?_
  exact ⟨hbel1,.inr ⟨fun g=>cB_not.1 HV.out g.2,rfl⟩⟩
 have HFi:=Lib.hid (cB_iff.1 HV.out)
 clear HV
 have mk1:=make_ints p.regs hr0 hr1
 have mk2:=make_ints p.outs.length (by omega) (by omega)
 obtain ⟨i0,hi0,hz0,hz1,hz2⟩:=info_parts info_int
 have bR:=Row.new w1 (Array.replicate p.regs.toNat (.int .i64 0)) 3
 have hbox2:=hbox1.alloc hsz1 (.cells (Array.replicate p.regs.toNat (.int .i64 0)) 3)
 have hz2':(w1.alloc (.cells (Array.replicate p.regs.toNat (.int .i64 0)) 3)).heap.size=w1.heap.size+1:=World.size_alloc _ _
 go_upto_region 4 with (fail)
 generalize w1.alloc (.cells (Array.replicate p.regs.toNat (.int .i64 0)) 3)=w2 at*
 have HZ2:=Lib.hid hz2'
 have hRlt:=bR.lt
 generalize w1.heap.size=R at*
 clear hz2' q0 q1 q2 q3 q4 hbel1 hbox1
 obtain ⟨⟨q0,q1,q2,q3,q4⟩,hbel2,hsz2⟩:=pgBox hbox2
 have b3:=(Below.refl w2.heap.size w2).alloc (Nat.le_refl _) (.cells #[] 3)
 have S3:=Lib.hid (s1.below (hbel2.trans (b3.mono hbel2.size)))
 go_wp2_with (at_builtin;refine wpList_append_opt _ rfl _ _ 26 rfl w2.heap.size 3 i0 (.int .i64 0) 1 8 Tryz.underlying26 hi0 hz0 hz1 hz2 rfl (by decide) _ _ _ rfl (own_empty w2 3 1) A1 cells.length c1 (ints cells) rfl ?c0 ?c1 ?c2 ?c3 ?c4 ?c5 ?c6 ?_)
 case c0=>exact hn1.out
 case c1=>rw[ints_len];omega
 case c2=>rintro ad rfl j u hu;rw[←intC_flat] at hu;exact S3.out.flatA intC_of intC_len j u hu
 case c3=>intro u hu;obtain ⟨x,_,rfl⟩:=List.mem_map.1 hu;rfl
 case c4=>unfold maxLen;omega
 case c5=>omega
 case c6=>simp
 intro vn w4 hown4 hb4
 (try simp only[Nat.zero_add,List.nil_append] at hown4)
 have b4:=b3.trans hb4
 have bR4:=bR.below b4 hRlt
 have hbox4:=hbox2.trans (b4.mono hsz2)
 obtain ⟨An,cn,hvn,hcn1,hcn2,_⟩:=own_rd hown4
 subst hvn
 clear q0 q1 q2 q3 q4 hbel2 hbox2 b3 S3 hb4 bR
 obtain ⟨⟨q0,q1,q2,q3,q4⟩,hbel4,hsz4⟩:=pgBox hbox4
 have bO:=Row.new w4 (Array.replicate p.outs.length (.int .i64 0)) 3
 have bR5:=bR4.alloc (.cells (Array.replicate p.outs.length (.int .i64 0)) 3)
 have hbox5:=hbox4.alloc hsz4 (.cells (Array.replicate p.outs.length (.int .i64 0)) 3)
 have hown5:=hown4.alloc (.cells (Array.replicate p.outs.length (.int .i64 0)) 3)
 have hlt4:=hown4.lt
 have hz4:=b4.size
 have HZ4:Hid (w2.heap.size≤w4.heap.size):=hz4
 go_upto_region 6 with (fail)
 have HK0:Hid (RkAt (w4.alloc (.cells (Array.replicate p.outs.length (.int .i64 0)) 3)) (w.heap.size+1) R w4.heap.size (.slice An cells.length cn) (tk0 p cells)):=by
  refine ⟨rep_row bR5,rep_row bO,own_base hown5 (by omega),hsz1,by omega,by omega,fun k hk=>?_⟩
  have:=hlt4 k hk
  omega
 generalize w4.alloc (.cells (Array.replicate p.outs.length (.int .i64 0)) 3)=w5 at*
 generalize w4.heap.size=O at*
 have HC5:cn≤9223372036854775807:=by unfold maxLen at hcn2;omega
 clear bO bR5 bR4 hown4 hown5 hlt4 q0 q1 q2 q3 q4 hbel4 hbox4 hsz4 b4 hz4 mk1 mk2
 go_wp2_with fail
 go_loopw[13,14,15] (fun st ov i wr=>∃(k over n:Nat) (s:Tk),i= .int .i64 k∧st= .int .i64 n∧ov= .int .i64 over∧k≤p.code.length∧n≤k∧over≤p.code.length∧Hid (RLoop p cells inn k over n s)∧RkAt wr (w.heap.size+1) R O (.slice An cells.length cn) s∧Below (w.heap.size+1) (w.alloc (.cells #[.slice Ai p.ins.length ci,.slice Ao p.outs.length co,.int .i64 p.regs,.slice Ac p.cells.length cc,.slice Ad p.code.length cd] 37)) wr) (fun _ _ i _=>p.code.length-(intOf i).toNat)
 case atStart=>exact ⟨0,0,0,_,rfl,rfl,rfl,Nat.zero_le _,Nat.le_refl _,Nat.zero_le _,rloop_start HFc.out HC1.out,HK0.out,hbox5⟩
 case round=>
  clear HK0 hbox5
  obtain ⟨k,over,n,s,rfl,rfl,rfl,hkl,hnk,hov,HN,hK,hbox⟩:=hrel
  obtain ⟨⟨q0,q1,q2,q3,q4⟩,hb,hsz⟩:=pgBox hbox
  by_cases hlt:k<p.code.length
  rotate_left 1
  ·obtain ⟨he1,he2⟩:=rloop_end HN.out hlt
   have hti:=HN.out.ti
   have S1:=Lib.hid (own_ints hK.next hti.nin)
   have HON:=Lib.hid (own_nilOk hK.next)
   have HOW:Hid (∀k,(Value.slice An cells.length cn).ownBlock=some k→w.heap.size≤k):=fun k hk=>by have:=(hK.next.lt k hk).1;omega
   have S2:=Lib.hid (row_slvT hK.out hK.out.lt (by rw[hti.olen];omega) hti.oin)
   rw[hti.olen] at S2
   have HE1:=Lib.hid he1
   have HE2:=Lib.hid he2
   clear he1 he2 hti hK HN
   go_wp2_with fail
   refine bodyPost_ret (results_tmp4 rfl _ _ _) rfl ?_
   refine ⟨hb,.inl ⟨HFc.out,HFi.out,.slice An cells.length cn,.slice (some ⟨O,0,none⟩) p.outs.length p.outs.length,by rw[←HE2.out];rfl,?_,?_,HON.out,HOW.out⟩⟩
   ·rw[←HE1.out];exact S1.out
   ·rw[←HE1.out];exact S2.out
  obtain ⟨b,off,x,rfl,hbb,hxk,hok,d0,d1,d2,d3,d4⟩:=(sd.below hb).in5 hlt
  have HKx:=Lib.hid hxk
  have hkl':(k:Int)<p.code.length:=by omega
  clear hxk
  have bX:=Row.new wr #[.int .i64 x.op,.int .i64 x.a,.int .i64 x.b,.int .i64 x.c,.int .i64 x.k] 58
  have hK0:=hK.alloc (.cells #[.int .i64 x.op,.int .i64 x.a,.int .i64 x.b,.int .i64 x.c,.int .i64 x.k] 58)
  have hbox0:=hbox.alloc hsz (.cells #[.int .i64 x.op,.int .i64 x.a,.int .i64 x.b,.int .i64 x.c,.int .i64 x.k] 58)
  have hgR:wr.heap.size≠R:=by have:=hK.regs.lt;omega
  have hgO:wr.heap.size≠O:=by have:=hK.out.lt;omega
  have hbw0:=hb.alloc hb.size (.cells #[.int .i64 x.op,.int .i64 x.a,.int .i64 x.b,.int .i64 x.c,.int .i64 x.k] 58)
  by_cases hov0:0<over
  ·obtain ⟨ov,rfl⟩:∃ov,over=ov+1:=⟨over-1,by omega⟩
   have HN':=Lib.hid (rloop_pass HR.out HKx.out HN.out)
   have e1:(((ov+1:Nat):Int))-1=(ov:Int):=by omega
   clear HN
   go_wp2_with fail
   go_roundw
   case rel=>exact ⟨k+1,ov,n,s,by go_num,rfl,by go_num,by omega,by omega,by omega,HN',hK0,hbox0⟩
   case measure=>simp[intOf];omega
  obtain rfl:over=0:=by omega
  have HN':=Lib.hid (rloop_exec HR.out HKx.out HFc.out (fits_ins HFi.out) HC1.out HC2.out HCd.out HN.out)
  have HS:=Lib.hid (right_safe HR.out HKx.out)
  have HTI:=Lib.hid HN.out.ti
  have hsk:=tskip_in (s:=s) HS.out hlt
  clear HN hov hov0
  go_upto_region 15 with (fail)
  generalize wr.alloc (.cells #[.int .i64 x.op,.int .i64 x.a,.int .i64 x.b,.int .i64 x.c,.int .i64 x.k] 58)=W at*
  clear d0 d1 d2 d3 d4 q0 q1 q2 q3 q4
  obtain ⟨x0,x1,x2,x3,x4⟩:=in5x bX
  have hrl:s.regs.length=p.regs.toNat:=HTI.out.rlen
  have HRL:=Lib.hid hrl
  have hop:=HS.out.op
  have hsa:=HS.out.a
  obtain ⟨na,hna⟩:=Int.eq_ofNat_of_zero_le hsa.1
  have hla:na<p.regs.toNat:=by omega
  have hla':(na:Int)<p.regs.toNat:=by omega
  have hza':(0:Int)≤(na:Int):=by omega
  have HNa:=Lib.hid hna
  rw[hna] at x1
  have ca:=kind_cell hK0.regs (n:=na) (by omega)
  have fa:=hK0.regs.frozen na
  clear hrl hsa
  by_cases e21:x.op=21
  ·obtain ⟨rk0,rk1⟩:=HS.out.k21 (.inl e21)
   obtain ⟨nk,hnk⟩:=Int.eq_ofNat_of_zero_le rk0
   have hlk:nk<cells.length:=by have:=HFc.out.1;omega
   have hlk':(nk:Int)<cells.length:=by omega
   have hzk':(0:Int)≤(nk:Int):=by omega
   obtain ⟨bb,o',cap',he,_,_,hbb',ck⟩:=sl_int (H1.out.below hbw0) hlk
   injection he with he1 he2 he3
   clear he2 he3
   subst he1
   have hbR:bb≠R:=by have:=hK0.bR;omega
   rw[hnk] at x4
   have HE:=Lib.hid (show texec cells inn s x={s with regs:=s.regs.set na (getI cells nk)} by unfold texec vgive setI;rw[if_neg (by omega),if_neg (by omega),if_neg (by omega),if_neg (by omega),if_neg (by omega),if_neg (by omega),if_neg (by omega),if_pos e21,hna,hnk];rfl)
   have HT0:=Lib.hid (show tskip s x=0 by unfold tskip;rw[if_neg (by omega)])
   have HN2:=HN'
   rw[HE.out,HT0.out] at HN2
   have o21:(x.op==21)=true:=by rw[beq_iff_eq];omega
   have o28:(x.op==28)=false:=by rw[beq_eq_false_iff_ne];omega
   have o29:(x.op==29)=false:=by rw[beq_eq_false_iff_ne];omega
   have o32:(x.op==32)=false:=by rw[beq_eq_false_iff_ne];omega
   have o30:(x.op==30)=false:=by rw[beq_eq_false_iff_ne];omega
   have o31:(x.op==31)=false:=by rw[beq_eq_false_iff_ne];omega
   clear hnk hna e21 hop hsk HN' rk0 rk1
   generalize getI cells nk=vb at*
   generalize getI s.regs na=va at*
   go_wp2_with fail
   go_region
   all_goals
    go_wp2_with fail
    go_roundw
    case rel=>first|exact ⟨k+1,0,n+1,_,by go_num,by go_num,rfl,by omega,by omega,by omega,HN2,(hK0.setReg na vb).drew,(hbox0.setCell (p:=⟨R,na,none⟩) hK0.bR _).drew⟩|((repeat apply Exists.intro);exact ⟨⟨k+1,0,n+1,_,by go_num,by go_num,rfl,by omega,by omega,by omega,HN2,(hK0.setReg na vb).drew,(hbox0.setCell (p:=⟨R,na,none⟩) hK0.bR _).drew⟩,rfl⟩)
    case measure=>simp[intOf];omega
  by_cases e28:x.op=28
  ·obtain ⟨rk0,rk1⟩:=HS.out.k28 e28
   obtain ⟨nk,hnk⟩:=Int.eq_ofNat_of_zero_le rk0
   have hlk:nk<inn.length:=by have:=HFi.out.2.1;omega
   have hlk':(nk:Int)<inn.length:=by omega
   have hzk':(0:Int)≤(nk:Int):=by omega
   obtain ⟨bb,o',cap',he,_,_,hbb',ck⟩:=sl_int (H2.out.below hbw0) hlk
   injection he with he1 he2 he3
   clear he2 he3
   subst he1
   have hbR:bb≠R:=by have:=hK0.bR;omega
   rw[hnk] at x4
   have HE:=Lib.hid (show texec cells inn s x={s with regs:=s.regs.set na (getI inn nk)} by unfold texec vgive setI;rw[if_neg (by omega),if_neg (by omega),if_neg (by omega),if_neg (by omega),if_neg (by omega),if_neg (by omega),if_neg (by omega),if_neg (by omega),if_pos e28,hna,hnk];rfl)
   have HT0:=Lib.hid (show tskip s x=0 by unfold tskip;rw[if_neg (by omega)])
   have HN2:=HN'
   rw[HE.out,HT0.out] at HN2
   have o21:(x.op==21)=false:=by rw[beq_eq_false_iff_ne];omega
   have o28:(x.op==28)=true:=by rw[beq_iff_eq];omega
   have o29:(x.op==29)=false:=by rw[beq_eq_false_iff_ne];omega
   have o32:(x.op==32)=false:=by rw[beq_eq_false_iff_ne];omega
   have o30:(x.op==30)=false:=by rw[beq_eq_false_iff_ne];omega
   have o31:(x.op==31)=false:=by rw[beq_eq_false_iff_ne];omega
   clear hnk hna e28 hop hsk HN' rk0 rk1
   generalize getI inn nk=vb at*
   generalize getI s.regs na=va at*
   go_wp2_with fail
   go_region
   all_goals
    go_wp2_with fail
    go_roundw
    case rel=>first|exact ⟨k+1,0,n+1,_,by go_num,by go_num,rfl,by omega,by omega,by omega,HN2,(hK0.setReg na vb).drew,(hbox0.setCell (p:=⟨R,na,none⟩) hK0.bR _).drew⟩|((repeat apply Exists.intro);exact ⟨⟨k+1,0,n+1,_,by go_num,by go_num,rfl,by omega,by omega,by omega,HN2,(hK0.setReg na vb).drew,(hbox0.setCell (p:=⟨R,na,none⟩) hK0.bR _).drew⟩,rfl⟩)
    case measure=>simp[intOf];omega
  by_cases e29:x.op=29
  ·obtain ⟨rk0,rk1⟩:=HS.out.k29 e29
   obtain ⟨nk,hnk⟩:=Int.eq_ofNat_of_zero_le rk0
   have hlk:nk<p.outs.length:=by omega
   have hlk':(nk:Int)<p.outs.length:=by omega
   have hzk':(0:Int)≤(nk:Int):=by omega
   have ck:=kind_cell hK0.out (n:=nk) (by rw[HTI.out.olen];exact hlk)
   have fk:=hK0.out.frozen nk
   have hRO:=hK0.RO
   rw[hnk] at x4
   have HE:=Lib.hid (show texec cells inn s x={s with out:=s.out.set nk (getI s.regs na)} by unfold texec setI;rw[if_pos e29,hna,hnk];rfl)
   have HT0:=Lib.hid (show tskip s x=0 by unfold tskip;rw[if_neg (by omega)])
   have HN2:=HN'
   rw[HE.out,HT0.out] at HN2
   have o21:(x.op==21)=false:=by rw[beq_eq_false_iff_ne];omega
   have o28:(x.op==28)=false:=by rw[beq_eq_false_iff_ne];omega
   have o29:(x.op==29)=true:=by rw[beq_iff_eq];omega
   have o32:(x.op==32)=false:=by rw[beq_eq_false_iff_ne];omega
   have o30:(x.op==30)=false:=by rw[beq_eq_false_iff_ne];omega
   have o31:(x.op==31)=false:=by rw[beq_eq_false_iff_ne];omega
   clear hnk hna e29 hop hsk HN' rk0 rk1
   generalize getI s.out nk=vk at*
   generalize getI s.regs na=va at*
   go_wp2_with fail
   go_region
   all_goals
    go_wp2_with fail
    go_roundw
    case rel=>first|exact ⟨k+1,0,n+1,_,by go_num,by go_num,rfl,by omega,by omega,by omega,HN2,(hK0.setOut nk va).drew,(hbox0.setCell (p:=⟨O,nk,none⟩) hK0.bO _).drew⟩|((repeat apply Exists.intro);exact ⟨⟨k+1,0,n+1,_,by go_num,by go_num,rfl,by omega,by omega,by omega,HN2,(hK0.setOut nk va).drew,(hbox0.setCell (p:=⟨O,nk,none⟩) hK0.bO _).drew⟩,rfl⟩)
    case measure=>simp[intOf];omega
  by_cases e32:x.op=32
  ·obtain ⟨rk0,rk1⟩:=HS.out.k21 (.inr e32)
   obtain ⟨nk,hnk⟩:=Int.eq_ofNat_of_zero_le rk0
   have hnl:=HTI.out.nlen
   have hcl2:=HFc.out.1
   have hlk:nk<cells.length:=by omega
   have hlk':(nk:Int)<cells.length:=by omega
   have hzk':(0:Int)≤(nk:Int):=by omega
   have hnc:s.next.length=cells.length:=by omega
   have hKn:=hK0
   rw[←hnc] at hKn
   obtain ⟨NB,cap,hv⟩:=own_some hKn.next (by omega)
   injection hv with hv1 hv2 hv3
   clear hv2 hv3
   subst hv1
   have hNR:=(hKn.nn NB rfl).1
   have hNO:=(hKn.nn NB rfl).2
   have bN:w.heap.size+1≤NB:=(hKn.next.lt NB rfl).1
   have ck:W.cell? ⟨NB,nk,none⟩=some (.int .i64 (getI s.next nk)):=by
    rw[hKn.next.cellAt nk (by omega)]
    simp[ints,getI,List.getD_eq_getElem?_getD,List.getElem?_eq_getElem (show nk<s.next.length by omega)]
   have fk:=hKn.next.frozenAt nk
   have hK1:=hKn.setNext nk (getI s.regs na)
   rw[hnc] at hK1
   rw[hnk] at x4
   have HE:=Lib.hid (show texec cells inn s x={s with next:=s.next.set nk (getI s.regs na)} by unfold texec setI;rw[if_neg (by omega),if_pos e32,hna,hnk];rfl)
   have HT0:=Lib.hid (show tskip s x=0 by unfold tskip;rw[if_neg (by omega)])
   have HN2:=HN'
   rw[HE.out,HT0.out] at HN2
   have o21:(x.op==21)=false:=by rw[beq_eq_false_iff_ne];omega
   have o28:(x.op==28)=false:=by rw[beq_eq_false_iff_ne];omega
   have o29:(x.op==29)=false:=by rw[beq_eq_false_iff_ne];omega
   have o32:(x.op==32)=true:=by rw[beq_iff_eq];omega
   have o30:(x.op==30)=false:=by rw[beq_eq_false_iff_ne];omega
   have o31:(x.op==31)=false:=by rw[beq_eq_false_iff_ne];omega
   clear hnk hna e32 hop hsk HN' rk0 rk1 hnl hcl2 hnc hKn
   generalize getI s.next nk=vk at*
   generalize getI s.regs na=va at*
   go_wp2_with fail
   go_region
   all_goals
    go_wp2_with fail
    go_roundw
    case rel=>first|exact ⟨k+1,0,n+1,_,by go_num,by go_num,rfl,by omega,by omega,by omega,HN2,hK1.drew,(hbox0.setCell (p:=⟨NB,nk,none⟩) bN _).drew⟩|((repeat apply Exists.intro);exact ⟨⟨k+1,0,n+1,_,by go_num,by go_num,rfl,by omega,by omega,by omega,HN2,hK1.drew,(hbox0.setCell (p:=⟨NB,nk,none⟩) bN _).drew⟩,rfl⟩)
    case measure=>simp[intOf];omega
  by_cases e30:x.op=30
  ·obtain ⟨rk0,rk1⟩:=HS.out.k30 (by omega)
   obtain ⟨nk,hnk⟩:=Int.eq_ofNat_of_zero_le rk0
   rw[hnk] at x4
   have HE:=Lib.hid (show texec cells inn s x=s by unfold texec;rw[if_neg (by omega),if_neg (by omega),if_pos (by omega)])
   have hnl:nk≤p.code.length:=by omega
   have HS2:Hid (∀v,getI s.regs na=v→tskip s x=if v=0 then (nk:Int) else 0):=by
    intro v hv
    unfold tskip
    rw[hna,hv,hnk]
    by_cases h0:v=0
    ·simp[h0,e30]
    ·simp[h0,e30]
   have o21:(x.op==21)=false:=by rw[beq_eq_false_iff_ne];omega
   have o28:(x.op==28)=false:=by rw[beq_eq_false_iff_ne];omega
   have o29:(x.op==29)=false:=by rw[beq_eq_false_iff_ne];omega
   have o32:(x.op==32)=false:=by rw[beq_eq_false_iff_ne];omega
   have o30:(x.op==30)=true:=by rw[beq_iff_eq];omega
   have o31:(x.op==31)=false:=by rw[beq_eq_false_iff_ne];omega
   clear hnk hna e30 hop hsk rk0 rk1
   generalize hva:getI s.regs na=va at*
   have HV:=Lib.hid (HS2.out va rfl)
   clear hva HS2
   by_cases hv0:va=0
   ·have g0:(va==0)=true:=by simp[hv0]
    have HT0:=Lib.hid (show tskip s x=(nk:Int) by rw[HV.out];simp[hv0])
    have HN2:=HN'
    rw[HE.out,HT0.out,Int.toNat_natCast] at HN2
    clear hv0 HV HN'
    go_wp2_with fail
    go_roundw
    case rel=>first|exact ⟨k+1,nk,n+1,_,by go_num,by go_num,by go_num,by omega,by omega,by omega,HN2,hK0,hbox0⟩|((repeat apply Exists.intro);exact ⟨⟨k+1,nk,n+1,_,by go_num,by go_num,by go_num,by omega,by omega,by omega,HN2,hK0,hbox0⟩,rfl⟩)
    case measure=>simp[intOf];omega
   ·have g0:(va==0)=false:=by simp[hv0]
    have HT0:=Lib.hid (show tskip s x=0 by rw[HV.out];simp[hv0])
    have HN2:=HN'
    rw[HE.out,HT0.out] at HN2
    clear hv0 HV HN'
    go_wp2_with fail
    go_roundw
    case rel=>first|exact ⟨k+1,0,n+1,_,by go_num,by go_num,rfl,by omega,by omega,by omega,HN2,hK0,hbox0⟩|((repeat apply Exists.intro);exact ⟨⟨k+1,0,n+1,_,by go_num,by go_num,rfl,by omega,by omega,by omega,HN2,hK0,hbox0⟩,rfl⟩)
    case measure=>simp[intOf];omega
  by_cases e31:x.op=31
  ·obtain ⟨rk0,rk1⟩:=HS.out.k30 (by omega)
   obtain ⟨nk,hnk⟩:=Int.eq_ofNat_of_zero_le rk0
   rw[hnk] at x4
   have HE:=Lib.hid (show texec cells inn s x=s by unfold texec;rw[if_neg (by omega),if_neg (by omega),if_pos (by omega)])
   have hnl:nk≤p.code.length:=by omega
   have HS2:Hid (∀v,getI s.regs na=v→tskip s x=if v≠0 then (nk:Int) else 0):=by
    intro v hv
    unfold tskip
    rw[hna,hv,hnk]
    by_cases h0:v=0
    ·simp[h0,e31]
    ·simp[h0,e31]
   have o21:(x.op==21)=false:=by rw[beq_eq_false_iff_ne];omega
   have o28:(x.op==28)=false:=by rw[beq_eq_false_iff_ne];omega
   have o29:(x.op==29)=false:=by rw[beq_eq_false_iff_ne];omega
   have o32:(x.op==32)=false:=by rw[beq_eq_false_iff_ne];omega
   have o30:(x.op==30)=false:=by rw[beq_eq_false_iff_ne];omega
   have o31:(x.op==31)=true:=by rw[beq_iff_eq];omega
   clear hnk hna e31 hop hsk rk0 rk1
   generalize hva:getI s.regs na=va at*
   have HV:=Lib.hid (HS2.out va rfl)
   clear hva HS2
   by_cases hv0:va=0
   ·have g0:(va !=0)=false:=by simp[hv0]
    have HT0:=Lib.hid (show tskip s x=0 by rw[HV.out];simp[hv0])
    have HN2:=HN'
    rw[HE.out,HT0.out] at HN2
    clear hv0 HV HN'
    go_wp2_with fail
    go_roundw
    case rel=>first|exact ⟨k+1,0,n+1,_,by go_num,by go_num,rfl,by omega,by omega,by omega,HN2,hK0,hbox0⟩|((repeat apply Exists.intro);exact ⟨⟨k+1,0,n+1,_,by go_num,by go_num,rfl,by omega,by omega,by omega,HN2,hK0,hbox0⟩,rfl⟩)
    case measure=>simp[intOf];omega
   ·have g0:(va !=0)=true:=by simp[hv0]
    have HT0:=Lib.hid (show tskip s x=(nk:Int) by rw[HV.out];simp[hv0])
    have HN2:=HN'
    rw[HE.out,HT0.out,Int.toNat_natCast] at HN2
    clear hv0 HV HN'
    go_wp2_with fail
    go_roundw
    case rel=>first|exact ⟨k+1,nk,n+1,_,by go_num,by go_num,by go_num,by omega,by omega,by omega,HN2,hK0,hbox0⟩|((repeat apply Exists.intro);exact ⟨⟨k+1,nk,n+1,_,by go_num,by go_num,by go_num,by omega,by omega,by omega,HN2,hK0,hbox0⟩,rfl⟩)
    case measure=>simp[intOf];omega
  have hgo:(x.op=1∨x.op=2∨x.op=3∨x.op=27)∨(5≤x.op∧x.op≤20):=by omega
  have HE:=Lib.hid (show texec cells inn s x={s with regs:=s.regs.set na (vgive cells inn s.regs x)} by unfold texec setI;rw[if_neg (by omega),if_neg (by omega),if_neg (by omega),hna];rfl)
  have HT0:=Lib.hid (show tskip s x=0 by unfold tskip;rw[if_neg (by omega)])
  have HN2:=HN'
  rw[HE.out,HT0.out] at HN2
  have HC:Hid (Calls Tryz.prog 36 #[.agg #[.int .i64 x.op,.int .i64 (na:Int),.int .i64 x.b,.int .i64 x.c,.int .i64 x.k],.slice (some ⟨R,0,none⟩) p.regs.toNat p.regs.toNat] W.drew fun e w'=>e= .returned (.int .i64 (vgive cells inn s.regs x))∧Below W.drew.heap.size W.drew w'):=by
   have:=reckon_any W.drew R cells inn s.regs p k x hgo hK0.drew.regs HTI.out.rin HS.out (by rw[HRL.out];omega) (by rw[HRL.out];omega)
   rw[HRL.out] at this
   rw[←HNa.out]
   exact this
  have o21:(x.op==21)=false:=by rw[beq_eq_false_iff_ne];omega
  have o28:(x.op==28)=false:=by rw[beq_eq_false_iff_ne];omega
  have o29:(x.op==29)=false:=by rw[beq_eq_false_iff_ne];omega
  have o32:(x.op==32)=false:=by rw[beq_eq_false_iff_ne];omega
  have o30:(x.op==30)=false:=by rw[beq_eq_false_iff_ne];omega
  have o31:(x.op==31)=false:=by rw[beq_eq_false_iff_ne];omega
  have hWlt:=bX.lt
  have hla2:(na:Int)<max p.regs 0:=by omega
  clear hna e21 e28 e29 e32 e30 e31 hop hsk HN' hgo ca fa
  generalize vgive cells inn s.regs x=vg at*
  go_wp2_with fail
  go_region_held3 (fun w'=>w'.cell? ⟨wr.heap.size,0,none⟩=some (.int .i64 x.op)∧w'.cell? ⟨wr.heap.size,1,none⟩=some (.int .i64 (na:Int))∧w'.cell? ⟨wr.heap.size,2,none⟩=some (.int .i64 x.b)∧w'.cell? ⟨wr.heap.size,3,none⟩=some (.int .i64 x.c)∧w'.cell? ⟨wr.heap.size,4,none⟩=some (.int .i64 x.k))
   (first|exact ⟨z0,z1,z2,z3,z4⟩|exact ⟨y0,y1,y2,y3,y4⟩|exact ⟨x0,x1,x2,x3,x4⟩)
   (first|(go_at_call 36;refine HC.out.mono ?_;rintro e w6 ⟨rfl,hb6⟩;have bX6:=bX.drew.below hb6 hWlt;obtain ⟨y0,y1,y2,y3,y4⟩:=in5x bX6;rw[HNa.out] at y1;have hK6:=hK0.drew.below hb6;have hbox6:=hbox0.drew.trans (hb6.mono (show w.heap.size+1≤W.drew.heap.size from Nat.le_trans hsz (Nat.le_of_lt hWlt)));have bX7:=bX6.far (p:=⟨R,na,none⟩) hgR (.int .i64 vg);obtain ⟨z0,z1,z2,z3,z4⟩:=in5x bX7;rw[HNa.out] at z1;have ca6:=kind_cell hK6.regs (n:=na) (by rw[HRL.out];exact hla);have fa6:=hK6.regs.frozen na))
  all_goals
   go_wp2_with fail
   go_roundw
   case rel=>first|exact ⟨k+1,0,n+1,_,by go_num,by go_num,rfl,by omega,by omega,by omega,HN2,hK6.setReg na vg,hbox6.setCell (p:=⟨R,na,none⟩) hK0.bR _⟩|((repeat apply Exists.intro);exact ⟨⟨k+1,0,n+1,_,by go_num,by go_num,rfl,by omega,by omega,by omega,HN2,hK6.setReg na vg,hbox6.setCell (p:=⟨R,na,none⟩) hK0.bR _⟩,rfl⟩)
   case measure=>simp[intOf];omega
end Go.Proofs.YtbjaejgechadpaaGreat
