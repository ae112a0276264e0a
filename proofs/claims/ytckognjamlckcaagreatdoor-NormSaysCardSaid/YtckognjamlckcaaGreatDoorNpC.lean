/-
  The example of layer 24: it is right. Numbers and truths as texts: the contracts of strconv.Itoa and strconv.FormatBool. norm.key: a clock as a text. Clocks' texts are apart.
-/
import Derived.Shelf.Small.Wraps
import Derived.Shelf.LaysM
import Derived.Shelf.Strconv.Itoa3
import Derived.Lib.ItoaLen
import Derived.Test.YtckognjamlckcaaGreatDoorNtN
import Derived.Test.YtckognjamlckcaaGreatDoorR24F
import Derived.Test.YtckognjamlckcaaGreatDoorSemIJ
set_option maxHeartbeats 16000000
set_option maxRecDepth 100000
namespace Go.Proofs.YtckognjamlckcaaGreatDoor
open Go.RowKit Vf Fo
attribute [local go_sem ↓] Go.wp_at_zero Go.wp_at_succ
def K0:Kw:=⟨fun _=>⟨#[]⟩,fun c=>c=[]⟩
theorem zT (W:World) (v:Value) (h:aI W W.heap.size 2 aW v []):Calls Tryz.prog 106 #[v] W fun r w'=>r= .returned (.string ⟨#[]⟩)/\Below W.heap.size W w':=by
 obtain ⟨A,cap,rfl,_,hm,_⟩:=h
 have hm':cap<=9223372036854775807:=by unfold maxLen at hm;omega
 go_enter Tryz.func106,Tryz.ntmps106
 go_wp2_with fail
 go_loopw[3,8] (fun s i W'=>s= .string ⟨#[]⟩/\i= .int .i64 0/\W=W') (fun _ _ _=>0)
 case atStart=>exact ⟨rfl,rfl,rfl⟩
 case round=>
  obtain ⟨rfl,rfl,rfl⟩:=hrel
  go_wp2_with fail
  go_ret
  exact ⟨rfl,Below.refl _ _⟩
theorem Ef (w0:World):fx K0 w0:=⟨fun c c' h h' _=>h.trans h'.symm,fun c=>Nat.zero_le _,fun W v c hc _ hv=>by
 obtain rfl:c=[]:=hc
 exact zT W v hv⟩
theorem AX (x:Ex) (h:x.args=[]):nG K0 x []:=lj.2 ⟨rfl,fun i y hy=>by rw[h] at hy;simp at hy⟩
theorem DJ:nG K0 dE []:=lj.2 ⟨rfl,fun i x hx=>by
 rw[jd (by decide)]
 rcases i with _|_|i
 ·cases hx;exact AX _ rfl
 ·cases hx;exact AX _ rfl
 ·simp[dE,Ex.args] at hx⟩
section
variable {w0:World} {D:Nat} {vi vo:Value}
theorem zt:jQ dF K0 w0 D vi vo tN:=fun A cap W q s v c h hc hp hok _ _ _=>by
 cases hs:s.spent with
 |true=>exact ix hs h v c
 |false=>exact nh hs h rfl v c hc hp hok
theorem AN:jQ dF K0 w0 D vi vo vN:=fun A cap W q s v c h _ _ _ _ _ _=>by
 cases hs:s.spent with
 |true=>exact ix hs h v c
 |false=>exact ph hs h rfl v c
theorem Cp (law:fx K0 w0):jQ dF K0 w0 D vi vo dE:=fun A cap W q s v c h hc hp _ _ hm hx=>by
 cases hs:s.spent with
 |true=>exact ix hs h v c
 |false=>
  refine oX law hs h (Be.2.2.2.2.1 (1,dE) (by simp[dF])).1 rfl v c hc hp (rf (fun x hx'=>?_) hm hx)
  simp only[dE,Ex.args,List.mem_cons,List.not_mem_nil,or_false] at hx'
  rcases hx' with rfl|rfl
  ·exact zt
  ·exact AN
end
theorem qi {W:World} {a b r:Nat} {n m:Int} (h1:ai W a #[.int .i64 n] 3) (h2:ai W b #[.int .i64 m] 3) (h3:ai W r #[.slice (some ⟨a,0,none⟩) 1 1,.slice (some ⟨b,0,none⟩) 1 1] 26) (hn:Wf n) (hm:Wf m):
  aI W W.heap.size 1 (eF W W.heap.size) (.slice (some ⟨r,0,none⟩) 2 2) [[n],[m]]:=by
 have one:∀{a:Nat} {n:Int},ai W a #[.int .i64 n] 3->Wf n->aI W W.heap.size 1 aP (.slice (some ⟨a,0,none⟩) 1 1) [n]:=fun {a n} h hn=>⟨_,1,rfl,Nat.le_refl _,by unfold maxLen;omega,iS (k:=1) (rel:=aP) (l:=[n]) (fun n=> [.int .i64 n]) h (fun x=>rfl) (fun x hx=>by simp at hx;subst hx;exact ⟨rfl,hn⟩) h.lt⟩
 refine ⟨_,2,rfl,Nat.le_refl _,by unfold maxLen;omega,fun _=>⟨r,0,rfl,h3.lt,fun i x hx=>?_⟩⟩
 rcases i with _|_|i
 ·cases hx
  refine ⟨[.slice (some ⟨a,0,none⟩) 1 1],fun j u hu=>?_,_,rfl,one h1 hn⟩
  rcases j with _|j
  ·cases hu;exact (h3.cell 0).trans rfl
  ·simp at hu
 ·cases hx
  refine ⟨[.slice (some ⟨b,0,none⟩) 1 1],fun j u hu=>?_,_,rfl,one h2 hm⟩
  rcases j with _|j
  ·cases hu;exact (h3.cell 1).trans rfl
  ·simp at hu
 ·simp at hx
theorem sN (w:World):Calls Tryz.prog 6 #[] w fun e w'=>e= .returned (.bool true)/\Below w.heap.size w w':=by
 go_enter Tryz.func6,Tryz.ntmps6
 go_wp2_with fail
 (with_reducible refine (xU _).mono ?_)
 rintro e w1 ⟨v0,v1,v2,v3,rfl,hfl,b1⟩
 have HO:=zH (tM (K:=K0) hfl (fun d hd=>by simp[dF] at hd;subst hd;show ay dE<=_;decide) (by decide) (fun w0 _=>Ef w0) (fun _ w0 D vi vo law d hd=>by simp[dF] at hd;subst hd;exact Cp law) (fun _ d hd=>by simp[dF] at hd;subst hd;exact DJ))
 obtain ⟨_,_,rfl,_⟩:=hfl.wires
 obtain ⟨_,_,rfl,_⟩:=hfl.defs
 obtain ⟨_,_,rfl,_⟩:=hfl.ins
 obtain ⟨_,_,rfl,_⟩:=hfl.outs
 have hs1:=b1.size
 clear hfl
 go_wp2_with fail
 (with_reducible refine HO.o.mono ?_)
 rintro e w2 ⟨hb2,⟨hno,_⟩|⟨_,hsp,_⟩|⟨_,_,x0,x1,x2,x3,x4,x5,rfl,hx⟩⟩
 ·exact absurd Be hno
 ·rw[tQ.2] at hsp;cases hsp
 rw[tQ.1] at hx
 have b2:=b1.trans (hb2.mono hs1)
 have hs2:=b2.size
 have HX:=zH hx
 obtain ⟨A0,c0,hv0⟩:∃A c,x0= .slice A 7 c:=by obtain ⟨A,c,h,_⟩:=hx.wires;exact ⟨A,c,h⟩
 obtain ⟨A1,c1,hv1⟩:∃A c,x1= .slice A 6 c:=by obtain ⟨A,c,h,_⟩:=hx.acts;exact ⟨A,c,h⟩
 obtain ⟨A2,c2,hv2⟩:∃A c,x2= .slice A 2 c:=by obtain ⟨A,c,h,_⟩:=hx.cells;exact ⟨A,c,h⟩
 obtain ⟨A3,c3,hv3⟩:∃A c,x3= .slice A 2 c:=by obtain ⟨A,c,h,_⟩:=hx.keeps;exact ⟨A,c,h⟩
 obtain ⟨A4,c4,hv4⟩:∃A c,x4= .slice A 1 c:=by obtain ⟨A,c,h,_⟩:=hx.ins;exact ⟨A,c,h⟩
 obtain ⟨A5,c5,hv5⟩:∃A c,x5= .slice A 1 c:=by obtain ⟨A,c,h,_⟩:=hx.outs;exact ⟨A,c,h⟩
 subst hv0 hv1 hv2 hv3 hv4 hv5
 have b3:Below w2.heap.size w2 (w2.alloc (.cells #[.slice A0 7 c0,.slice A1 6 c1,.slice A2 2 c2,.slice A3 2 c3,.slice A4 1 c4,.slice A5 1 c5] 28)):=bE
 have rX:=ai.new w2 #[.slice A0 7 c0,.slice A1 6 c1,.slice A2 2 c2,.slice A3 2 c3,.slice A4 1 c4,.slice A5 1 c5] 28
 have HF3:=zH (HX.o.next b3)
 clear hx hb2 HO
 go_upto_region 2 with (fail)
 generalize w2.alloc (.cells #[.slice A0 7 c0,.slice A1 6 c1,.slice A2 2 c2,.slice A3 2 c3,.slice A4 1 c4,.slice A5 1 c5] 28)=w3 at*
 have hs3:=b3.size
 have HB3:=zH (b2.trans (b3.mono hs2))
 have hXl:=rX.lt
 have HXR:Hid (∀W,Below w3.heap.size w3 W->ai W w2.heap.size #[.slice A0 7 c0,.slice A1 6 c1,.slice A2 2 c2,.slice A3 2 c3,.slice A4 1 c4,.slice A5 1 c5] 28):=fun W hW=>rX.below hW hXl
 have HFX:=zH (fun W (hW:Below w3.heap.size w3 W)=>HF3.o.next hW)
 have HNR:Hid (Calls Tryz.prog 8 #[dp (.slice A0 7 c0) (.slice A1 6 c1) (.slice A2 2 c2) (.slice A3 2 c3) (.slice A4 1 c4) (.slice A5 1 c5)] w3 fun e w'=>e= .returned (.bool true)/\Below w3.heap.size w3 w'):=by
  have:=zQ dM _ _ _ _ _ _ w3 HF3.o (by decide) ng (fun x hx=>by simp[dM] at hx;rcases hx with rfl|rfl|rfl|rfl|rfl|rfl<;>simp[rN,tm,rq,tx,tp,sj,rp])
  rwa [aq ng] at this
 have HRR:Hid (∀W,Below w3.heap.size w3 W->Calls Tryz.prog 9 #[dp (.slice A0 7 c0) (.slice A1 6 c1) (.slice A2 2 c2) (.slice A3 2 c3) (.slice A4 1 c4) (.slice A5 1 c5)] W fun e w'=>e= .returned (.bool true)/\Below W.heap.size W w'):=fun W hW=>by
  have:=nF dM _ _ _ _ _ _ W (HFX.o W hW) (by decide) (by decide)
  rwa [aq ng] at this
 clear b1 b2 b3 HX
 obtain ⟨f0,f1,f2,f3,f4,f5⟩:=rX.six'
 go_wp2_with fail
 (with_reducible refine HNR.o.mono ?_)
 rintro e w4 ⟨rfl,hb4⟩
 have hs4:=hb4.size
 have HRR4:=zH (HRR.o _ hb4)
 clear f0 f1 f2 f3 f4 f5 HNR rX
 obtain ⟨f0,f1,f2,f3,f4,f5⟩:=(HXR.o _ hb4).six'
 go_wp2_with fail
 (with_reducible refine HRR4.o.mono ?_)
 rintro e w5 ⟨rfl,hb5⟩
 have hB5:=hb4.trans (hb5.mono hs4)
 have hs5:=hB5.size
 clear f0 f1 f2 f3 f4 f5 HRR4 HRR
 obtain ⟨f0,f1,f2,f3,f4,f5⟩:=(HXR.o _ hB5).six'
 have b7:Below w5.heap.size w5 (((w5.alloc (.cells #[.int .i64 3] 3)).alloc (.cells #[.int .i64 4] 3)).alloc (.cells #[.slice (some ⟨w5.heap.size,0,none⟩) 1 1,.slice (some ⟨w5.heap.size+1,0,none⟩) 1 1] 26)):=bE
 have hb7:=hB5.trans (b7.mono hs5)
 have HRO:=zH (rB dM [[3],[4]] _ _ _ _ _ _ _ _ (HFX.o _ hb7) (qi (a:=w5.heap.size) (b:=w5.heap.size+1) (r:=w5.heap.size+1+1) (n:=3) (m:=4) (((dV rfl).alloc _).alloc _) ((dV (by simp)).alloc _) (dV (by simp)) (jz (by decide)) (jz (by decide))) ng (by decide) (fun x hx=>by simp[dM] at hx;rcases hx with rfl|rfl<;>exact aT (by decide)) (fun x hx=>by simp at hx;rcases hx with rfl|rfl<;>rfl) (by decide))
 clear b7
 go_wp2_with fail
 (with_reducible refine HRO.o.mono ?_)
 rintro e w8 ⟨v8,rfl,hv8,b8⟩
 rw[show dM.cells.map (·.2)=[1,0] from rfl,Br] at hv8
 obtain ⟨A8,c8,rfl,l8,m8,s8⟩:=id hv8
 have hb8:=hb7.trans (b8.mono hb7.size)
 have hs8:=hb8.size
 have b9:Below w8.heap.size w8 (((w8.alloc (.cells #[.int .i64 0] 3)).alloc (.cells #[.int .i64 3] 3)).alloc (.cells #[.slice (some ⟨w8.heap.size,0,none⟩) 1 1,.slice (some ⟨w8.heap.size+1,0,none⟩) 1 1] 26)):=bE
 have hb9:=hb8.trans (b9.mono hs8)
 have HSM:=zH (pa [[0],[3]] _ _ _ _ ((iw hv8 b9).keep (fun _ _ _ hc=>hc) b9.size (fun _ _ _ g=>by
  obtain ⟨v,h1,h2⟩:=g
  exact ⟨v,h1,h2.more b9.size⟩)) (qi (a:=w8.heap.size) (b:=w8.heap.size+1) (r:=w8.heap.size+1+1) (n:=0) (m:=3) (((dV rfl).alloc _).alloc _) ((dV (by simp)).alloc _) (dV (by simp)) (jz (by decide)) (jz (by decide))))
 clear f0 f1 f2 f3 f4 f5 HRO hv8 b8 b9 hb7 hb8
 go_wp2_with fail
 refine Calls.mono HSM.o ?_
 rintro e w10 ⟨rfl,n10,rfl⟩
 go_wp2_with fail
 go_ret
 exact ⟨rfl,ap (HB3.o.trans (hb9.mono (by have:=HB3.o.size;omega))) _⟩
open Go.Shelf
def pH:Go.Shelf.Ren:=⟨fun|121=>119|214=>128|n=>n,fun|4=>4|9=>9|n=>n,fun|n=>n⟩
theorem xJ:Go.Proofs.Lays.n121 Tryz.prog pH:={
 mixed:=by kernel_rfl
 f121:=Tryz.func119.trans (congrArg some (by kernel_rfl))
 f214:=Tryz.func128.trans (congrArg some (by kernel_rfl))
 t4:=Tryz.underlying4
 a4:=Tryz.isAgg4
 z4:=Tryz.sizeOf4
 v4:=Tryz.zeroValue4
 t9:=Tryz.underlying9
 a9:=Tryz.isAgg9
 z9:=Tryz.sizeOf9
 v9:=Tryz.zeroValue9}
def sB:Go.Shelf.Ren:=⟨fun|171=>118|243=>127|246=>134|283=>136|284=>137|285=>138|286=>139|129=>141|317=>140|318=>142|319=>143|320=>144|337=>145|338=>146|n=>n,fun|3=>3|9=>9|2=>2|4=>4|171=>170|0=>0|53=>156|37=>173|5=>5|173=>174|212=>176|51=>153|20=>20|213=>177|46=>134|232=>180|233=>181|n=>n,fun|17=>0|18=>1|19=>2|n=>n⟩
theorem yt:Go.Proofs.LaysM.n171 Tryz.prog sB:={
 mixed:=by kernel_rfl
 f129:=Tryz.func141.trans (congrArg some (by kernel_rfl))
 f171:=Tryz.func118.trans (congrArg some (by kernel_rfl))
 f243:=Tryz.func127.trans (congrArg some (by kernel_rfl))
 f246:=Tryz.func134.trans (congrArg some (by kernel_rfl))
 f283:=Tryz.func136.trans (congrArg some (by kernel_rfl))
 f284:=Tryz.func137.trans (congrArg some (by kernel_rfl))
 f285:=Tryz.func138.trans (congrArg some (by kernel_rfl))
 f286:=Tryz.func139.trans (congrArg some (by kernel_rfl))
 f317:=Tryz.func140.trans (congrArg some (by kernel_rfl))
 f318:=Tryz.func142.trans (congrArg some (by kernel_rfl))
 f319:=Tryz.func143.trans (congrArg some (by kernel_rfl))
 f320:=Tryz.func144.trans (congrArg some (by kernel_rfl))
 f337:=Tryz.func145.trans (congrArg some (by kernel_rfl))
 f338:=Tryz.func146.trans (congrArg some (by kernel_rfl))
 t0:=Tryz.underlying0
 a0:=Tryz.isAgg0
 z0:=Tryz.sizeOf0
 v0:=Tryz.zeroValue0
 t2:=Tryz.underlying2
 a2:=Tryz.isAgg2
 z2:=Tryz.sizeOf2
 v2:=Tryz.zeroValue2
 t3:=Tryz.underlying3
 a3:=Tryz.isAgg3
 z3:=Tryz.sizeOf3
 v3:=Tryz.zeroValue3
 t4:=Tryz.underlying4
 a4:=Tryz.isAgg4
 z4:=Tryz.sizeOf4
 v4:=Tryz.zeroValue4
 t5:=Tryz.underlying5
 a5:=Tryz.isAgg5
 z5:=Tryz.sizeOf5
 v5:=Tryz.zeroValue5
 t9:=Tryz.underlying9
 a9:=Tryz.isAgg9
 z9:=Tryz.sizeOf9
 v9:=Tryz.zeroValue9
 t20:=Tryz.underlying20
 a20:=Tryz.isAgg20
 z20:=Tryz.sizeOf20
 v20:=Tryz.zeroValue20
 t37:=Tryz.underlying173
 a37:=Tryz.isAgg173
 z37:=Tryz.sizeOf173
 v37:=Tryz.zeroValue173
 t46:=Tryz.underlying134
 a46:=Tryz.isAgg134
 z46:=Tryz.sizeOf134
 v46:=Tryz.zeroValue134
 t51:=Tryz.underlying153
 a51:=Tryz.isAgg153
 z51:=Tryz.sizeOf153
 v51:=Tryz.zeroValue153
 t53:=Tryz.underlying156
 a53:=Tryz.isAgg156
 z53:=Tryz.sizeOf156
 v53:=Tryz.zeroValue156
 t171:=Tryz.underlying170
 a171:=Tryz.isAgg170
 z171:=Tryz.sizeOf170
 v171:=Tryz.zeroValue170
 t173:=Tryz.underlying174
 a173:=Tryz.isAgg174
 z173:=Tryz.sizeOf174
 v173:=Tryz.zeroValue174
 t212:=Tryz.underlying176
 a212:=Tryz.isAgg176
 z212:=Tryz.sizeOf176
 v212:=Tryz.zeroValue176
 t213:=Tryz.underlying177
 a213:=Tryz.isAgg177
 z213:=Tryz.sizeOf177
 t232:=Tryz.underlying180
 a232:=Tryz.isAgg180
 z232:=Tryz.sizeOf180
 v232:=Tryz.zeroValue180
 t233:=Tryz.underlying181
 a233:=Tryz.isAgg181
 z233:=Tryz.sizeOf181
 v233:=Tryz.zeroValue181
 g17:=by kernel_rfl
 g18:=by kernel_rfl
 g19:=by kernel_rfl
 i0:=by kernel_rfl
 i2:=by kernel_rfl
 i3:=by kernel_rfl
 i4:=by kernel_rfl
 i5:=by kernel_rfl
 i9:=by kernel_rfl
 i20:=by kernel_rfl
 i37:=by kernel_rfl
 i46:=by kernel_rfl
 i51:=by kernel_rfl
 i53:=by kernel_rfl
 i171:=by kernel_rfl
 i173:=by kernel_rfl
 i212:=by kernel_rfl
 i232:=by kernel_rfl
 i233:=by kernel_rfl
 m17:=by kernel_rfl
 m18:=by kernel_rfl
 m19:=by kernel_rfl}
theorem sY (w:World) (k:Nat) (os:Array Obj):Go.RowKit.Below w.heap.size w (Go.Sort.grow (w.drewN k) os):=
 ⟨rfl,rfl,rfl,by show w.heap.size<=(w.heap++os).size;rw[Array.size_append];omega,fun i hi=>by
  show ((w.drewN k).heap++os)[i]? =_
  rw[Array.getElem?_append_left (by show i<w.heap.size;omega)]
  rfl⟩
theorem yk (n:Int) (h0: -9223372036854775808<=n) (h1:n<=9223372036854775807) (w:World) (htab:Lib.TabIs Tryz.prog w "internal/strconv.uint64pow10" .u64 Lib.pow10Tab):
  Calls Tryz.prog 118 #[.int .i64 n] w fun e w'=>e= .returned (.string ⟨(Lib.itoa n).toArray⟩)/\Go.RowKit.Below w.heap.size w w':=
 (Any.strconv_Itoa yt n h0 h1 w htab).mono (by rintro e w' ⟨h,k,os,rfl⟩;exact ⟨h,sY w k os⟩)
theorem vG (b:Bool) (w:World):
  Calls Tryz.prog 119 #[.bool b] w fun e w'=>e= .returned (.string ⟨(Lib.formatBool b).toArray⟩)/\w=w':=
 (Any.strconv_FormatBool xJ b w).mono (by rintro e w' ⟨h,rfl⟩;exact ⟨h,rfl⟩)
def sf (g:Gd):ByteArray:=⟨(Lib.itoa g.wire).toArray⟩++⟨(Lib.formatBool g.no).toArray⟩++⟨#[32]⟩
def jf:List Gd->ByteArray:=fun l=>l.foldl (fun s g=>s++sf g) ⟨#[]⟩
def mu (w:World):Prop:=Lib.TabIs Tryz.prog w "internal/strconv.uint64pow10" .u64 Lib.pow10Tab
theorem mu.keep {w w':World} (h:mu w) (hb:Below w.heap.size w w'):mu w':=by
 unfold mu Lib.TabIs World.var? at*
 cases hg:Program.globalNamed Tryz.prog "internal/strconv.uint64pow10" with
 |none=>rw[hg] at h;cases h
 |some g=>
  rw[hg] at h
  rw[Option.bind_some] at h⊢
  have hl:g<w.heap.size:=by
   rcases Nat.lt_or_ge g w.heap.size with hl|hl
   ·exact hl
   ·rw[Array.getElem?_eq_none hl] at h;cases h
  rw[hb.block g hl];exact h
theorem pg {l:List Gd} {k:Nat} {g:Gd} (h:l[k]? =some g):jf (l.take (k+1))=jf (l.take k)++sf g:=by
 unfold jf
 rw[List.take_add_one,h,Option.toList_some,List.foldl_append];rfl
theorem xY (b:Bool):(Lib.formatBool b).length<=5:=by cases b<;>decide
theorem zg {g:Gd} (h:Wf g.wire):(sf g).size<=100:=by
 have h1:=Lib.itoa_length_le g.wire h.le.1 h.le.2
 have h2:=xY g.no
 have e:(sf g).size=(Lib.itoa g.wire).length+(Lib.formatBool g.no).length+1:=by
  unfold sf
  rw[ByteArray.size_append,ByteArray.size_append]
  rfl
 omega
theorem pF {l:List Gd} (h:∀g∈l,Wf g.wire):∀k,k<=l.length->(jf (l.take k)).size<=100*k:=by
 intro k
 induction k with
 |zero=>intro _;exact Nat.le_refl _
 |succ k ih=>
  intro hk
  have hg:=List.getElem?_eq_getElem (show k<l.length by omega)
  rw[pg hg,ByteArray.size_append]
  have h1:=ih (by omega)
  have h2:=zg (h _ (List.getElem_mem (show k<l.length by omega)))
  omega
theorem BF (w:World) (v:Value) (c:List Gd) (hs:aI w w.heap.size 2 aW v c) (hl:c.length<=100000) (ht:mu w):
  Calls Tryz.prog 106 #[v] w fun r w'=>r= .returned (.string (jf c))/\Below w.heap.size w w':=by
 obtain ⟨A,cap,rfl,l1,m1,s1⟩:=hs
 have m1':cap<=9223372036854775807:=by unfold maxLen at m1;omega
 have HS:=zH (fun W (hW:Below w.heap.size w W)=>(s1.below hW).more hW.size)
 have HT:=zH (fun W (hW:Below w.heap.size w W)=>ht.keep hW)
 clear s1 ht m1
 go_enter Tryz.func106,Tryz.ntmps106
 go_wp2_with fail
 go_loopw[3,8] (fun v3 i wr=>∃k:Nat,k<=c.length/\i= .int .i64 k/\v3= .string (jf (c.take k))/\Hid (Below w.heap.size w wr)) (fun _ i _=>c.length-(intOf i).toNat)
 case atStart=>exact ⟨0,Nat.zero_le _,rfl,rfl,Below.refl _ _⟩
 case round=>
  obtain ⟨k,hk,rfl,rfl,HB⟩:=hrel
  have hb:=HB.o
  have hsz:=hb.size
  by_cases hlt:k<c.length
  ·obtain ⟨b,off,⟨gw,gn⟩,rfl,hbb,hg,wg,d0,d1⟩:=(HS.o _ hb).gd hlt
   have hlt':(k:Int)<c.length:=by omega
   have HK:=zH (pg hg)
   dsimp only at wg d0 d1
   have hw1:=wg.le
   have hn1:=Lib.itoa_length_le gw hw1.1 hw1.2
   have hn2:=xY gn
   have hn3:=pF (l:=c) (fun g hg=>(HS.o _ (Below.refl _ _)).all (P:=fun x=>Wf x.wire) (fun x cs h=>h.2) g hg) k (by omega)
   have hq2:¬9223372036854775807<(Lib.itoa gw).length+(Lib.formatBool gn).length+1:=by omega
   have hq3:¬9223372036854775807<(jf (c.take k)).size+((Lib.itoa gw).length+(Lib.formatBool gn).length+1):=by omega
   have hq1:¬9223372036854775807<(Lib.itoa gw).length+(Lib.formatBool gn).length:=by omega
   have ba:Below wr.heap.size wr (wr.alloc (.cells #[.int .i64 gw,.bool gn] 61)):=bE
   have r4:=ai.new wr #[.int .i64 gw,.bool gn] 61
   clear hg
   go_upto_region 5 with (fail)
   have hb4:=hb.trans (ba.mono hsz)
   generalize hg4:wr.heap.size=g4 at*
   generalize wr.alloc (.cells #[.int .i64 gw,.bool gn] 61)=w4 at*
   have hgl:=r4.lt
   have hs4:=hb4.size
   have HSS:Hid (∀W,Below w4.heap.size w4 W->W.cell? ⟨g4,0,none⟩=some (.int .i64 gw)/\W.cell? ⟨g4,1,none⟩=some (.bool gn)):=fun W hW=>(r4.below hW hgl).two'
   have HIT:=zH (fun W (hW:Below w4.heap.size w4 W)=>yk gw hw1.1 hw1.2 W (HT.o W (hb4.trans (hW.mono hs4))))
   have HFB:=zH (vG gn)
   clear d0 d1 r4 ba hg4
   generalize jf (c.take k)=KT at*
   refine wp_region_held_drew (S:=fun W=>W.cell? ⟨g4,0,none⟩=some (.int .i64 gw)/\W.cell? ⟨g4,1,none⟩=some (.bool gn)) (by kernel_rfl) ?_ (fun hHeld=>?_)
   ·(try dsimp only);(first|(with_reducible exact HSS.o _ bE))
   refine tk 0 (some 12) rfl ?_
   refine tk 1 (some 13) rfl ?_
   refine tk 2 (some 14) rfl ?_
   refine tk 4 (some 16) rfl ?_
   refine tk 5 (some 17) rfl ?_
   refine aH 3 (some 15) rfl (fun KK hKK=>?_)
   go_simp
   (go_at_call 118;(with_reducible refine Calls.mono (HIT.o _ bE) ?_);rintro r w6 ⟨rfl,hb6⟩;(have hb7:Below w4.heap.size w4 w6:=Below.trans bE (hb6.mono lE)))
   (try go_wp2_with fail)
   refine hKK.out _ _ ?_ (fun hHeld=>?_)
   ·(try dsimp only);(first|(with_reducible exact HSS.o _ bE))
   refine' zq4
   refine aH 6 (some 18) rfl (fun KK hKK=>?_)
   go_simp
   (go_at_call 119;(with_reducible refine Calls.mono (HFB.o _) ?_);rintro r w8 ⟨rfl,rfl⟩)
   (try go_wp2_with fail)
   refine hKK.out _ _ ?_ (fun hHeld=>?_)
   ·(try dsimp only);(first|(with_reducible exact HSS.o _ bE))
   refine' zq4
   refine tk 7 (some 19) rfl ?_
   refine tk 8 (some 20) rfl ?_
   refine tk 9 (some 21) rfl ?_
   refine tk 10 (some 3) rfl ?_
   refine' zq26
   go_roundw
   case rel=>exact ⟨k+1,by omega,by go_num,by rw[HK.o];rfl,hb4.trans ((bE:Below w4.heap.size w4 _).mono hs4)⟩
   case measure=>simp[intOf];omega
  obtain rfl:k=c.length:=by omega
  rw[List.take_length]
  go_wp2_with fail
  go_ret
  refine ⟨?_,hb⟩
  rfl
def jv (x:UInt8):Bool:=48<=x.toNat && x.toNat<=57
theorem AY (u:Nat):Lib.decDigits u=if u<10 then [UInt8.ofNat (48+u)] else Lib.decDigits (u/10)++ [UInt8.ofNat (48+u % 10)]:=by
 rw[Lib.decDigits];split<;>rfl
theorem qm {d:Nat} (h:d<10):(UInt8.ofNat (48+d)).toNat=48+d:=by
 rw[UInt8.toNat_ofNat'];omega
theorem ra (u:Nat):∀x∈Lib.decDigits u,jv x=true:=by
 induction u using Nat.strongRecOn with
 |ind u ih=>
  intro x hx
  rw[AY] at hx
  have key:∀d,d<10->jv (UInt8.ofNat (48+d))=true:=fun d hd=>by
   unfold jv;rw[qm hd];simp;omega
  split at hx
  ·rw[List.mem_singleton] at hx;subst hx;exact key u ‹_›
  ·rcases List.mem_append.1 hx with hx|hx
   ·exact ih (u/10) (by omega) x hx
   ·rw[List.mem_singleton] at hx;subst hx;exact key _ (by omega)
def tS (l:List UInt8):Nat:=l.foldl (fun a x=>10*a+(x.toNat-48)) 0
theorem xw (u:Nat):tS (Lib.decDigits u)=u:=by
 induction u using Nat.strongRecOn with
 |ind u ih=>
  rw[AY]
  split
  ·unfold tS
   simp only[List.foldl_cons,List.foldl_nil]
   rw[qm ‹_›];omega
  ·have:=ih (u/10) (by omega)
   unfold tS at this⊢
   rw[List.foldl_append,this]
   simp only[List.foldl_cons,List.foldl_nil]
   rw[qm (by omega)];omega
theorem CJ {u v:Nat} (h:Lib.decDigits u=Lib.decDigits v):u=v:=by rw[<-xw u,h,xw]
theorem BA {A B A' B':List UInt8} (hA:∀x∈A,jv x=true) (hA':∀x∈A',jv x=true) (hB:∀x,B.head? =some x->jv x=false) (hB':∀x,B'.head? =some x->jv x=false) (h:A++B=A'++B'):A=A'/\B=B':=by
 induction A generalizing A' with
 |nil=>
  cases A' with
  |nil=>exact ⟨rfl,h⟩
  |cons y A'=>
   have h1:=hB y (by simp at h;rw[h];rfl)
   rw[hA' y (by simp)] at h1;cases h1
 |cons x A ih=>
  cases A' with
  |nil=>
   have h1:=hB' x (by simp at h;rw[<-h];rfl)
   rw[hA x (by simp)] at h1;cases h1
  |cons y A'=>
   simp only[List.cons_append,List.cons.injEq] at h
   obtain ⟨q1,q2⟩:=ih (fun z hz=>hA z (by simp[hz])) (fun z hz=>hA' z (by simp[hz])) h.2
   exact ⟨by rw[h.1,q1],q2⟩
def mC (g:Gd):List UInt8:=Lib.itoa g.wire++(Lib.formatBool g.no++ [32])
theorem tK:Lib.formatBool true=[116,114,117,101]:=by decide
theorem ru:Lib.formatBool false=[102,97,108,115,101]:=by decide
theorem te (b:Bool) (r:List UInt8):∀x,(Lib.formatBool b++([32]++r)).head? =some x->jv x=false:=fun x hx=>by
 cases b
 ·rw[ru] at hx;simp at hx;subst hx;rfl
 ·rw[tK] at hx;simp at hx;subst hx;rfl
theorem Bf {g g':Gd} {r r':List UInt8} (h0:0<=g.wire) (h0':0<=g'.wire) (h:mC g++r=mC g'++r'):g=g'/\r=r':=by
 obtain ⟨w,b⟩:=g
 obtain ⟨w',b'⟩:=g'
 dsimp only at h0 h0'
 unfold mC Lib.itoa at h
 dsimp only at h
 rw[if_neg (by omega),if_neg (by omega)] at h
 simp only[List.append_assoc] at h
 obtain ⟨q1,q2⟩:=BA (ra _) (ra _) (te b r) (te b' r') h
 have e:=CJ q1
 obtain rfl:w=w':=by omega
 cases b<;>cases b'<;>simp[tK,ru] at q2
 ·exact ⟨rfl,q2⟩
 ·exact ⟨rfl,q2⟩
theorem sA:∀{l l':List Gd},(∀g∈l,0<=g.wire)->(∀g∈l',0<=g.wire)->(l.map mC).flatten=(l'.map mC).flatten->l=l'
 | [],[],_,_,_=>rfl
 | [],g::l',_,_,h=>by
  simp[mC] at h
 |g::l,[],_,_,h=>by
  simp[mC] at h
 |g::l,g'::l',h1,h2,h=>by
  simp only[List.map_cons,List.flatten_cons] at h
  obtain ⟨q1,q2⟩:=Bf (h1 g (by simp)) (h2 g' (by simp)) h
  rw[q1,sA (fun x hx=>h1 x (by simp[hx])) (fun x hx=>h2 x (by simp[hx])) q2]
theorem wR (l:List Gd):(jf l).data.toList=(l.map mC).flatten:=by
 have:∀(s:ByteArray),(l.foldl (fun s g=>s++sf g) s).data.toList=s.data.toList++(l.map mC).flatten:=by
  induction l with
  |nil=>intro s;simp
  |cons g l ih=>
   intro s
   rw[List.foldl_cons,ih]
   simp[sf,mC,ByteArray.data_append]
 unfold jf
 rw[this];rfl
def tD (c:List Gd):Prop:=c.length<=100000/\∀g∈c,Wf g.wire/\0<=g.wire
open Classical in
noncomputable def qz:Kw:=⟨fun c=>if tD c then jf c else ⟨#[]⟩,tD⟩
theorem Ck {w0:World} (ht:mu w0):fx qz w0 where
 inj:=fun c c' h h' e=>by
  have h:tD c:=h
  have h':tD c':=h'
  simp only[qz,if_pos h,if_pos h'] at e
  have:=congrArg (fun s:ByteArray=>s.data.toList) e
  simp only[wR] at this
  exact sA (fun g hg=>(h.2 g hg).2) (fun g hg=>(h'.2 g hg).2) this
 size:=fun c=>by
  by_cases h:tD c
  ·simp only[qz,if_pos h]
   have:=pF (fun g hg=>(h.2 g hg).1) c.length (Nat.le_refl _)
   rw[List.take_length] at this
   have:=h.1
   unfold maxLen;omega
  ·simp only[qz,if_neg h]
   exact Nat.zero_le _
 call:=fun W v c hc hb hs=>by
  have h:tD c:=hc
  simp only[qz,if_pos h]
  exact BF W v c hs h.1 (ht.keep hb)
end Go.Proofs.YtckognjamlckcaaGreatDoor
