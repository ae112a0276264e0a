/-
  Which name hangs on itself first: the contracts of cause.round, Wants and Check. Types by the document: the contracts of tompionref16's wrong, name and Expr.
-/
import Derived.Test.YtgjfkidbfmbjoaaGreatZz
import Derived.Test.YtgjfkidbfmbjoaaGreatCauC
import Derived.Test.YtgjfkidbfmbjoaaGreatTyDz
set_option maxHeartbeats 1000000
set_option maxRecDepth 100000
namespace Go.Proofs.YtgjfkidbfmbjoaaGreat
open Go.RowKit
attribute [local go_sem ↓] Go.wp_at_zero Go.wp_at_succ
theorem rowAt4 (w:World) (o1 o2 o3:Obj) (cs:Array Value) (t:TypeId):Row ((((w.alloc o1).alloc o2).alloc o3).alloc (.cells cs t)) (w.heap.size+3) cs t:=by
 have h:=Row.new (((w.alloc o1).alloc o2).alloc o3) cs t
 simpa using h
theorem met_val {w:World} {b:Nat} {l:List ByteArray} (h:MetS w b l) {nm:ByteArray} (hs:nm.size≤maxLen) {P:Bool} (hP:P=true↔nm∈l):(Instr.lookup 107 (.map (some b)) (.string nm) false).run Tryz.prog w= .ok (.int .i64 (bif P then 1 else 0)) w:=by
 cases P
 ·exact (h.look hs).2 (fun g=>by have:=hP.2 g;cases this)
 ·exact (h.look hs).1 (hP.1 rfl)
theorem cauF_yes {n:Nd} {q:Eqn} {j:Nat} {nm:ByteArray} (h:Hg (hangsF n) nm nm):cauF n q j nm=⟨32,q.line,q.col⟩:=if_pos h
theorem cauF_no {n:Nd} {q:Eqn} {j:Nat} {nm:ByteArray} (h:¬Hg (hangsF n) nm nm):cauF n q j nm=ft0:=if_neg h
theorem cround_any (n:Nd) (a:NdA) (nm:ByteArray) (w:World) (sm:NdSm n) (hn:NdAt w w.heap.size n a) (hV:∀x,∀y∈hangsF n x,y∈nms (vrs n)) (hs:nm.size≤maxLen):
  Calls Tryz.prog 134 #[ndV n a,.string nm] w fun r w'=>r= .returned (.bool (cB (Hg (hangsF n) nm nm)))∧Below w.heap.size w w':=by
 obtain ⟨P,HPB⟩:∃P:Bool,Hid (cB (Hg (hangsF n) nm nm)=P):=⟨_,rfl⟩
 rw[HPB.out]
 have hmm:= @run_makeMap Tryz.prog
 have HN:Hid (∀W,Below w.heap.size w W→NdAt W W.heap.size n a):=fun W hW=>(hn.below hW).more hW.size
 have HSM:=Lib.hid sm
 have HV:=Lib.hid hV
 obtain ⟨W4,hW4⟩:∃W4,(((w.alloc (.cells (ndArr n a) 39)).alloc (.map #[] 0)).alloc (.cells #[.map (some (w.heap.size+1))] 107)).alloc (.cells #[rF w.heap.size (w.heap.size+2) (w.heap.size+3)] 255)=W4:=⟨_,rfl⟩
 have b4:Below w.heap.size w W4:=by rw[←hW4];exact bE
 have rn4:Row W4 w.heap.size (ndArr n a) 39:=by rw[←hW4];exact (((Row.new w _ _).alloc _).alloc _).alloc _
 have rp4:Row W4 (w.heap.size+2) #[.map (some (w.heap.size+1))] 107:=by rw[←hW4];exact (rowNew3 w _ _ _ _).alloc _
 have rf4:Row W4 (w.heap.size+3) #[rF w.heap.size (w.heap.size+2) (w.heap.size+3)] 255:=by rw[←hW4];exact rowAt4 w _ _ _ _ _
 have m4:MetS W4 (w.heap.size+1) []:=by
  have h:=mets_made (w.alloc (.cells (ndArr n a) 39))
  rw[World.size_alloc] at h
  rw[←hW4]
  exact (h.alloc _).alloc _
 have hF:∀args w,(callFunc 208 args).run Tryz.prog w= .ok (.enter 208 args) w:=enters_of Tryz.func208 (by kernel_rfl) rfl
 clear hn sm hV
 go_enter Tryz.func134,Tryz.ntmps134
 go_upto_region 4 with (fail)
 clear hW4
 have hs4:=b4.size
 have f4:W4.cell? ⟨w.heap.size+1+1+1,0,none⟩=some (rF w.heap.size (w.heap.size+1+1) (w.heap.size+1+1+1)):=(rf4.cell 0).trans rfl
 go_wp2_with fail
 refine (round1_any n a w.heap.size (w.heap.size+2) (w.heap.size+3) (w.heap.size+1) 255 HSM.out HV.out _ nm [] W4 (Nat.le_refl _) (fun y hy=>by cases hy) (HN.out W4 b4) rn4 rp4 rf4 m4).mono ?_
 rintro r w5 ⟨rfl,⟨L5,m5,HD⟩,u5⟩
 have rp5:=mupd_row u5 m4 rp4
 have p5:w5.cell? ⟨w.heap.size+1+1,0,none⟩=some (.map (some (w.heap.size+1))):=(rp5.cell 0).trans rfl
 have hlk:=met_val m5 hs (P:=P) (by rw[HD.out.all,←HPB.out];exact cB_iff)
 have hB5:Below w.heap.size w w5:=b4.trans (u5.below (fun k e=>by omega) hs4)
 clear f4
 go_wp2_with fail
 go_ret
 exact ⟨by cases P<;>rfl,hB5⟩
theorem cacheck_any (s:List Nd) (A:Option Addr) (cap:Nat) (w:World) (sm:SrcSm s) (h1:s.length≤cap) (h2:cap≤maxLen) (h:Nds w w.heap.size A s):
  Calls Tryz.prog 60 #[srcV s A cap] w fun r w'=>r= .returned (ftV (causeF s))∧Below w.heap.size w w':=by
 refine' zq13
 go_enter Tryz.func60,Tryz.ntmps60
 refine' zq112
 refine' zq108
 go_loopw[19] (fun i wr=>∃k:Nat,k≤s.length∧i= .int .i64 k∧Hid (∀j,j<k→∀x,s[j]? =some x→(cauNF j x).err=0)∧Below w4.heap.size w4 wr) (fun i _=>s.length-(intOf i).toNat)
 case atStart=>exact ⟨0,Nat.zero_le _,rfl,fun j h=>absurd h (by omega),Below.refl _ _⟩
 case round=>
  obtain ⟨k,hk,rfl,HK,hbr⟩:=hrel
  have rf:=rf4.below hbr rf4.lt
  refine' zq48
  go_upto_region 7 with (fail)
  clear d0 d1 d2 d3 d4 d5 d6
  refine' zq60
  refine' zq118
  obtain ⟨c0,c1,cc2,c3,c4,c5,c6⟩:=rn1.nd
  refine' zq121
  go_loopw[26] (fun i wr=>∃p:Nat,p≤n.eqs.length∧i= .int .i64 p∧Hid (∀j,j<p→∀x,n.eqs[j]? =some x→(cauQF n j x).err=0)∧Below w6.heap.size w6 wr) (fun i _=>n.eqs.length-(intOf i).toNat)
  case atStart=>exact ⟨0,Nat.zero_le _,rfl,fun j h=>absurd h (by omega),Below.refl _ _⟩
  case round=>
   refine' zq116
   refine' zq95
   rw[hA']
   refine' zq84
   refine' zq192
   have bq:Below wr.heap.size wr (wr.alloc (.cells (eqArr q A1 k1 A2 k2) 81)):=bE
   clear hA' hq ok sl1 sl2
   go_upto_region 10 with (fail)
   clear d0 d1 d2 d3 d4 d5 d6 d7 d8
   generalize hW9:wr.alloc (.cells (eqArr q A1 k1 A2 k2) 81)=w9 at*
   clear hW9
   have hsq:=bq.size
   have rn9:=rn7.below bq rn7.lt
   have rf9:=rf7.below bq rf7.lt
   have hB9:=hB7.trans (bq.mono hsB7)
   have hs9:=hB9.size
   obtain ⟨wp,rfl⟩:∃wp:World,wp=wr:=⟨_,rfl⟩
   obtain ⟨d0,d1,d2,d3,d4,d5,d6,d7,d8⟩:=re.eqn
   go_wp2_with fail
   clear d0 d1 d2 d3 d4 d5 d6 d7 d8
   go_loopw[33] (fun i wr=>∃m:Nat,m≤q.left.length∧i= .int .i64 m∧Hid (∀j,j<m→∀x,q.left[j]? =some x→(cauF n q j x).err=0)∧Below w9.heap.size w9 wr) (fun i _=>q.left.length-(intOf i).toNat)
   case atStart=>exact ⟨0,Nat.zero_le _,rfl,fun j h=>absurd h (by omega),Below.refl _ _⟩
   case round=>
    obtain ⟨m,hm,rfl,HM,hbm⟩:=hrel
    have hszm:=hbm.size
    have rn10:=rn9.below hbm rn9.lt
    have rf10:=rf9.below hbm rf9.lt
    have re10:=re.below hbm re.lt
    have hB10:=hB9.trans (hbm.mono hs9)
    have hsB10:=hB10.size
    have b10:=bq.trans (hbm.mono hsq)
    by_cases hlm:m<q.left.length
    rotate_left 1
    ·refine' zq228
     go_roundw
     case rel=>exact ⟨p+1,by omega,by go_num,HP',hbq.trans (b10.mono hszq)⟩
     case measure=>first|(simp[intOf];omega)|simp[intOf]
    obtain ⟨bs,offs,x,hAs,hbs,hx,hsx,e0⟩:=(HS1.out wr b10).str hlm
    subst hAs
    have HXL:=Lib.hid hx
    have i2:(0:Int)≤(m:Int):=by omega
    have i3:(m:Int)<(q.left.length:Int):=by omega
    have HR:=Lib.hid (cround_any n a x wr HNS.out (((HAT.out wr (b07.trans (b10.mono b07.size)))).more hsB10) HV.out hsx)
    obtain ⟨P,HPB⟩:∃P:Bool,Hid (cB (Hg (hangsF n) x x)=P):=⟨_,rfl⟩
    rw[HPB.out] at HR
    obtain ⟨c0,c1,cc2,c3,c4,c5,c6⟩:=rn10.nd
    clear hx
    go_wp2_with fail
    refine HR.out.mono ?_
    rintro r w11 ⟨rfl,hb11⟩
    have rf11:=rf10.below hb11 rf10.lt
    have re11:=re10.below hb11 re10.lt
    have hB11:=hB10.trans (hb11.mono hsB10)
    clear c0 c1 cc2 c3 c4 c5 c6 e0
    cases P
    ·have hq:=cB_not.1 HPB.out
     have HM':=Lib.hid (step_uptoI (P:=fun j x=>(cauF n q j x).err=0) HM.out HXL.out (by rw[cauF_no hq]))
     clear hq
     go_wp2_with fail
     go_roundw
     case rel=>exact ⟨m+1,by omega,by go_num,HM',hbm.trans (hb11.mono hszm)⟩
     case measure=>first|(simp[intOf];omega)|simp[intOf]
    ·refine' zq134
     obtain ⟨d0,d1,d2,d3,d4,d5,d6,d7,d8⟩:=re11.eqn
     refine' zq157
theorem res2b {P:Program} {fn:Func} {p q:Tmp} {ty:TypeId} {d:TypeDesc} {cs:Array Value} (h:fn.results= #[.tmp q,.cell p ty]) (hu:P.underlying ty=some d) (hd:(match d with| .struct _| .array _ _=>true|_=>false)=true) (hi:(P.info? ty).map (·.size)=some cs.size)
  {tmps:Array Value} {w:World} {g:Nat} {t:TypeId} {u:Value} (hp:tmps.getD p undef= .pointer (some ⟨g,0,none⟩)) (hq:tmps.getD q undef=u) (hg:Row w g cs t):(results fn tmps).run P w= .ok (.tuple #[u,.agg cs]) w:=by
 refine' zq115
theorem rwrong16_at (l c:Int) (w:World):
  Calls Tryz.prog 188 #[.agg #[.int .i64 l,.int .i64 c]] w fun r w'=>r= .returned (ftV ⟨28,l,c⟩)∧Below w.heap.size w w':=by
 go_enter Tryz.func188,Tryz.ntmps188
 go_wp2_with fail
 exact bodyPost_ret (v:=ftV ⟨28,l,c⟩) (by simp[results,Tryz.results188,go_sem]) rfl ⟨rfl,(by repeat (first|(with_reducible assumption)|(with_reducible exact Below.refl _ _)|(with_reducible refine Below.drew ?_)|(with_reducible refine below_drewN' ?_ _)|(with_reducible refine Below.alloc ?_ (by first|assumption|omega|(simp;omega)|simp|(simp[World.setCell];omega)|simp[World.setCell]) _)|(with_reducible refine Below.setCell ?_ (by first|assumption|omega|(simp;omega)|simp|(simp[World.setCell];omega)|simp[World.setCell]) _)))⟩
set_option linter.unusedSimpArgs false in
theorem rty_any (n:Nd) (a:NdA) (nm:ByteArray) (w:World) (h:NdAt w w.heap.size n a) (hl:(vrs n).length≤10000) (hm:nm∈nms (vrs n)):
  Calls Tryz.prog 187 #[ndV n a,.string nm] w fun r w'=>r= .returned (.int .i64 (tyOf n nm))∧Below w.heap.size w w':=by
 have r1:=Row.new w (ndArr n a) 39
 refine' zq45
 have HN:Hid (∀W,Below w.heap.size w W→NdAt W W.heap.size n a):=fun W hW=>(h.below hW).more hW.size
 have HL:=Lib.hid hl
 obtain ⟨k',x,hki,hkx,hxn⟩|hneg:=var_cases n nm
 rotate_left 1
 ·exact absurd hm (var_neg.1 (by omega))
 have HTY:=Lib.hid (ty_at hki hkx)
 have hkl:=(List.getElem?_eq_some_iff.1 hkx).1
 obtain ⟨M,HLM⟩:∃M,Hid ((vrs n).length=M):=⟨_,rfl⟩
 have hkl2:k'<M:=by rw[←HLM.out];exact hkl
 have HKX:=Lib.hid hkx
 have HKI:=Lib.hid hki
 clear h hl hm hkx hki hxn
 go_enter Tryz.func187,Tryz.ntmps187
 refine' zq63
 have HV:Hid (∀W,Below W1.heap.size W1 W→Calls Tryz.prog 68 #[ndV n a] W fun e w'=>(∃b3 off3 cap3:Nat,e= .returned (.slice (some ⟨b3,off3,none⟩) M cap3)∧w'.cell? ⟨b3,off3+k'*5+1,none⟩=some (.int .i64 x.ty))∧Below W.heap.size W w'):=fun W hW=>by
  refine (rvars_any W.heap.size n a W (Nat.le_refl _) (HN.out W (b1.trans (hW.mono hs1))) HL.out).mono ?_
  rintro e w' ⟨⟨v,rfl,ho⟩,hb⟩
  obtain ⟨A3,c3,rfl,_,_,hsl⟩:=ho.sl
  obtain ⟨b3,off3,y,A4,c4,rfl,_,hy,_,_,_,_,y0,y1,y2,y3,y4⟩:=hsl.vr hkl
  obtain rfl:x=y:=Option.some.inj (HKX.out.symm.trans hy)
  rw[HLM.out]
  exact ⟨⟨b3,off3,c3,rfl,y1⟩,hb⟩
 have HM:Hid (∀W,Below W1.heap.size W1 W→Calls Tryz.prog 157 #[ndV n a,.string nm] W fun e w'=>e= .returned (.int .i64 (k':Int))∧Below W.heap.size W w'):=fun W hW=>by
  have:=rvar_any n a nm W (HN.out W (b1.trans (hW.mono hs1))) HL.out
  rw[HKI.out] at this
  exact this
 have k1:(0:Int)≤(k':Int):=by omega
 have k2:(k':Int)<(M:Int):=by omega
 have HK:Hid (∀W,Below W1.heap.size W1 W→(W.cell? ⟨w.heap.size,0,none⟩=some (.string n.name)∧W.cell? ⟨w.heap.size,1,none⟩=some (.slice a.ai n.ins.length a.ci)∧W.cell? ⟨w.heap.size,2,none⟩=some (.slice a.ao n.outs.length a.co)∧W.cell? ⟨w.heap.size,3,none⟩=some (.slice a.av n.vars.length a.cv)∧W.cell? ⟨w.heap.size,4,none⟩=some (.slice a.aq n.eqs.length a.cq)∧W.cell? ⟨w.heap.size,5,none⟩=some (.int .i64 n.line)∧W.cell? ⟨w.heap.size,6,none⟩=some (.int .i64 n.col))):=fun W hW=>(r1.below hW r1.lt).nd
 clear hkl
 refine wp_region_held_drew (S:=fun W=>(W.cell? ⟨w.heap.size,0,none⟩=some (.string n.name)∧W.cell? ⟨w.heap.size,1,none⟩=some (.slice a.ai n.ins.length a.ci)∧W.cell? ⟨w.heap.size,2,none⟩=some (.slice a.ao n.outs.length a.co)∧W.cell? ⟨w.heap.size,3,none⟩=some (.slice a.av n.vars.length a.cv)∧W.cell? ⟨w.heap.size,4,none⟩=some (.slice a.aq n.eqs.length a.cq)∧W.cell? ⟨w.heap.size,5,none⟩=some (.int .i64 n.line)∧W.cell? ⟨w.heap.size,6,none⟩=some (.int .i64 n.col))) (by kernel_rfl) ?_ (fun hHeld=>?_)
 ·refine' zq47
 refine wpAnyH_take (i:=0) (oi:={dst:=some 5,op:=_,type:=_,pos:=_,after:=_,guard:=_}) (v:= ?_) rfl (by kernel_rfl) (by kernel_rfl) (by kernel_rfl) (fun _ _ _ h=>h) (Or.inl ⟨by kernel_rfl,?_⟩) (by first|assumption|trivial) ?_
 rotate_left 1
 ·refine' zq22
 refine' zq6
 refine wpAnyH_take (i:=2) (oi:={dst:=some 7,op:=_,type:=_,pos:=_,after:=_,guard:=_}) (v:= ?_) rfl (by kernel_rfl) (by kernel_rfl) (by kernel_rfl) (fun _ _ _ h=>h) (Or.inl ⟨by kernel_rfl,?_⟩) (by first|assumption|trivial) ?_
 rotate_left 1
 ·refine' zq22
 refine' zq6
 refine wpAnyH_take (i:=3) (oi:={dst:=some 8,op:=_,type:=_,pos:=_,after:=_,guard:=_}) (v:= ?_) rfl (by kernel_rfl) (by kernel_rfl) (by kernel_rfl) (fun _ _ _ h=>h) (Or.inl ⟨by kernel_rfl,?_⟩) (by first|assumption|trivial) ?_
 rotate_left 1
 ·refine' zq22
 refine' zq6
 refine wpAnyH_ready (rs:=[1]) (by kernel_rfl) (by simp) ?_
 refine AllReadyH.cons (o:={dst:=some 6,op:=_,type:=_,pos:=_,after:=_,guard:=_}) rfl (fun KK hKK=>?_) AllReadyH.nil
 refine' zq14
 refine' zq6
 refine wpAnyH_ready (rs:=[4]) (by kernel_rfl) (by simp) ?_
 refine AllReadyH.cons (o:={dst:=some 9,op:=_,type:=_,pos:=_,after:=_,guard:=_}) rfl (fun KK hKK=>?_) AllReadyH.nil
 refine' zq14
 refine' zq6
 refine wpAnyH_take (i:=5) (oi:={dst:=some 10,op:=_,type:=_,pos:=_,after:=_,guard:=_}) (v:= ?_) rfl (by kernel_rfl) (by kernel_rfl) (by kernel_rfl) (fun _ _ _ h=>h) (Or.inl ⟨by kernel_rfl,?_⟩) (by first|assumption|trivial) ?_
 rotate_left 1
 ·refine' zq22
 refine' zq6
 refine wpAnyH_take (i:=6) (oi:={dst:=some 11,op:=_,type:=_,pos:=_,after:=_,guard:=_}) (v:= ?_) rfl (by kernel_rfl) (by kernel_rfl) (by kernel_rfl) (fun _ _ _ h=>h) (Or.inl ⟨by kernel_rfl,?_⟩) (by first|assumption|trivial) ?_
 rotate_left 1
 ·refine' zq22
 refine' zq6
 refine wpAnyH_ready (rs:=[7]) (by kernel_rfl) (by simp) ?_
 refine AllReadyH.cons (o:={dst:=some 12,op:=_,type:=_,pos:=_,after:=_,guard:=_}) rfl (fun KK hKK=>?_) AllReadyH.nil
 go_simp
 refine hKK.out _ _ ?_ (fun hHeld=>?_)
 ·refine' zq47
 clear hKK KK
 refine' zq6
 refine wpAnyH_take (i:=8) (oi:={dst:=some 4,op:=_,type:=_,pos:=_,after:=_,guard:=_}) (v:= ?_) rfl (by kernel_rfl) (by kernel_rfl) (by kernel_rfl) (fun _ _ _ h=>h) (Or.inl ⟨by kernel_rfl,?_⟩) (by first|assumption|trivial) ?_
 rotate_left 1
 ·refine' zq22
 refine' zq6
 refine' zq155
 go_ret
 rw[HTY.out]
 exact ⟨rfl,b1.trans (hb6.mono hs1)⟩
theorem args_zero {s:List Nd} {n:Nd} {e:Ex} (h:∀j,j<e.args.length→∀x,e.args[j]? =some x→(tyF s n x).err=0):fstl (argFs s n e)=ft0:=by
 unfold argFs
 rw[←fstL_map]
 exact fstL_end h
theorem IntR.bel {w w':World} {g q:Nat} {l:List Int} (h:IntR w g q l) (hb:Below w.heap.size w w'):IntR w' g q l:=h.upd (UpdM.of hb)
theorem fs_step {l:List Ft} {k:Nat} {f:Ft} (h:∀j,j<k→∀g,l[j]? =some g→g.err=0) (hk:l[k]? =some f) (hf:f.err=0):∀j,j<k+1→∀g,l[j]? =some g→g.err=0:=
 step_uptoI (P:=fun _ g=>g.err=0) h hk hf
theorem fs_stop {l:List Ft} {k:Nat} {f:Ft} (h:∀j,j<k→∀g,l[j]? =some g→g.err=0) (hk:l[k]? =some f) (hf:f.err≠0):fstl l=f:=fstl_stop h hk hf
theorem fs_end {l:List Ft} (h:∀j,j<l.length→∀g,l[j]? =some g→g.err=0):fstl l=ft0:=fstl_none fun g hg=>by
 obtain ⟨j,hj⟩:=List.getElem?_of_mem hg
 exact h j (List.getElem?_eq_some_iff.1 hj).1 g hj
end Go.Proofs.YtgjfkidbfmbjoaaGreat
