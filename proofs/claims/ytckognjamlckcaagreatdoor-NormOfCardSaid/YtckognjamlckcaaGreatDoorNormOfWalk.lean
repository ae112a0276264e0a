/-
  Arguments that read as data, opened: flats. The walk of the law NormOf.
-/
import Derived.Test.YtckognjamlckcaaGreatDoorZz
import Derived.Test.YtckognjamlckcaaGreatDoorLookA
import Derived.Test.YtckognjamlckcaaGreatDoorVmZ
import Derived.Test.YtckognjamlckcaaGreatDoorFltA
import Derived.OpenShut
import Derived.DataReads
import Derived.Test.YtckognjamlckcaaGreatDoorNpC
import Derived.Test.YtckognjamlckcaaGreatDoorFew
import Derived.Test.YtckognjamlckcaaGreatDoorNpI
import Derived.Test.YtckognjamlckcaaGreatDoorNpV
import Derived.Test.YtckognjamlckcaaGreatDoorFrJ
import Derived.Test.YtckognjamlckcaaGreatDoorNoV
set_option maxHeartbeats 16000000
set_option maxRecDepth 100000
namespace Go.Proofs.YtckognjamlckcaaGreatDoor
open Go.RowKit Vf Fo
section
variable {H:Type} {enc:TypeId × Value→H} {w:World} {spare:Nat→Bool} {held:Bool}
theorem cells_ex:Tryz.prog.cellsOf 75=6:=by kernel_rfl
theorem cells_pos:Tryz.prog.cellsOf 73=2:=by kernel_rfl
theorem cells_string:Tryz.prog.cellsOf 9=1:=by kernel_rfl
theorem cells_exs:Tryz.prog.cellsOf 71=1:=by kernel_rfl
theorem open_pos {fuel:Nat} {cs:List Value} {x:DataW H × List MemPlace} (h:DataW.trod enc Tryz.prog w 0 spare held fuel 73 cs=some x):∃l c:Int,cs=[.int .i64 l,.int .i64 c]∧Wf l∧Wf c:=by
 obtain ⟨xs,n,_,_,hlen,hxl,hf⟩:=DataW.trod_struct Tryz.underlying73 h
 rw[cells_pos] at hlen
 obtain ⟨c0,c1,rfl⟩:=list2 hlen
 ·have hx:xs.length=2:=hxl
  have e0:xs[0]? =some (xs[0]'(by omega)):=List.getElem?_eq_getElem (by omega)
  have e1:xs[1]? =some (xs[1]'(by omega)):=List.getElem?_eq_getElem (by omega)
  refine' zq224
  have h1:DataW.trod enc Tryz.prog w 0 spare held n 3 (([c0,c1].drop 1).take (Tryz.prog.cellsOf 3))=some xs[1]:=(hf 1 _ rfl).trans e1
  obtain ⟨l,hl,_,wl⟩:=DataW.trod_int Tryz.underlying3 h0
  obtain ⟨c,hc,_,wc⟩:=DataW.trod_int Tryz.underlying3 h1
  rw[cells_int] at hl hc
  simp at hl hc
  subst hl;subst hc
  exact ⟨l,c,rfl,wl,wc⟩
theorem open_ex:∀(fuel:Nat) (cs:List Value) (x:DataW H × List MemPlace),DataW.trod enc Tryz.prog w 0 spare held fuel 75 cs=some x→∃e,IsEx w w.heap.size e cs:=by
 intro fuel
 induction fuel using Nat.strongRecOn with
 |ind fuel ih=>
  intro cs x h
  obtain ⟨xs,n,hn,_,hlen,hxl,hf⟩:=DataW.trod_struct Tryz.underlying75 h
  rw[cells_ex] at hlen
  obtain ⟨c0,c1,c2,c3,c4,c5,rfl⟩:=list6 hlen
  ·have hx:xs.length=5:=hxl
   have e0:xs[0]? =some (xs[0]'(by omega)):=List.getElem?_eq_getElem (by omega)
   have e1:xs[1]? =some (xs[1]'(by omega)):=List.getElem?_eq_getElem (by omega)
   have e2:xs[2]? =some (xs[2]'(by omega)):=List.getElem?_eq_getElem (by omega)
   have e3:xs[3]? =some (xs[3]'(by omega)):=List.getElem?_eq_getElem (by omega)
   have e4:xs[4]? =some (xs[4]'(by omega)):=List.getElem?_eq_getElem (by omega)
   have h0:DataW.trod enc Tryz.prog w 0 spare held n 3 (([c0,c1,c2,c3,c4,c5].drop 0).take (Tryz.prog.cellsOf 3))=some xs[0]:=(hf 0 _ rfl).trans e0
   have h1:DataW.trod enc Tryz.prog w 0 spare held n 9 (([c0,c1,c2,c3,c4,c5].drop 1).take (Tryz.prog.cellsOf 9))=some xs[1]:=(hf 1 _ rfl).trans e1
   have h2:DataW.trod enc Tryz.prog w 0 spare held n 3 (([c0,c1,c2,c3,c4,c5].drop 2).take (Tryz.prog.cellsOf 3))=some xs[2]:=(hf 2 _ rfl).trans e2
   have h3:DataW.trod enc Tryz.prog w 0 spare held n 71 (([c0,c1,c2,c3,c4,c5].drop 3).take (Tryz.prog.cellsOf 71))=some xs[3]:=(hf 3 _ rfl).trans e3
   have h4:DataW.trod enc Tryz.prog w 0 spare held n 73 (([c0,c1,c2,c3,c4,c5].drop 4).take (Tryz.prog.cellsOf 73))=some xs[4]:=(hf 4 _ rfl).trans e4
   clear e0 e1 e2 e3 e4 hf
   obtain ⟨op,g0,_,w0⟩:=DataW.trod_int Tryz.underlying3 h0
   obtain ⟨nm,g1,_,w1⟩:=DataW.trod_string Tryz.underlying9 h1
   obtain ⟨m,g2,_,w2⟩:=DataW.trod_int Tryz.underlying3 h2
   obtain ⟨l,c,g4,wl,wc⟩:=open_pos h4
   rw[cells_int] at g0 g2
   rw[cells_string] at g1
   rw[cells_pos] at g4
   simp at g0 g1 g2 g4
   obtain ⟨rfl,rfl⟩:=g4
   subst g0;subst g1;subst g2
   rw[cells_exs] at h3
   have h3':DataW.trod enc Tryz.prog w 0 spare held n 71 [c3]=some xs[3]:=h3
   clear h0 h1 h2 h3 h4
   rcases DataW.trod_slice Tryz.underlying71 h3' with ⟨hc,_⟩|⟨a,len,cap,elems,rest,k,hk,hc,_,_,hlc,hcm,hel,hr,_⟩
   ·simp at hc;subst hc
    exact ⟨.mk op nm m [] l c,IsEx.mk' (e:= .mk op nm m [] l c) ⟨w0,w1,w2,wl,wc⟩ (Nat.le_refl _) (Nat.zero_le _) (fun h=>absurd h (by simp[Ex.args]))⟩
   ·simp at hc;subst hc
    have key:∀i,i<len→∃e cs',(w.cells? 0 (a.add (i*6)) 6=some cs')∧IsEx w w.heap.size e cs':=by
     intro i hi
     have h:=hr i hi
     rw[cells_ex,List.getElem?_eq_getElem (by omega),Option.bind_eq_some_iff] at h
     obtain ⟨cs',h1,h2⟩:=h
     obtain ⟨e,he⟩:=ih k (by omega) cs' _ h2
     exact ⟨e,cs',h1,he⟩
    obtain ⟨f,hfn⟩:∃f:Nat→Ex,∀i,i<len→∃cs',(w.cells? 0 (a.add (i*6)) 6=some cs')∧IsEx w w.heap.size (f i) cs':=
     ⟨fun i=>if h:i<len then Classical.choose (key i h) else .mk 0 nm 0 [] 0 0,fun i hi=>by simp only[dif_pos hi];exact Classical.choose_spec (key i hi)⟩
    have hlen':((List.range len).map f).length=len:=by simp
    refine ⟨.mk op nm m ((List.range len).map f) l c,?_⟩
    have hA:IsExs w w.heap.size (some a) ((List.range len).map f):=fun hp=>by
     rw[hlen'] at hp
     obtain ⟨cs0,hc0,hx0⟩:=hfn 0 hp
     have hcell:=(World.cells?_some hc0).2.2 0 (by omega)
     have hl0:cs0.length=6:=hx0.len
     rw[List.getElem?_eq_getElem (by omega)] at hcell
     have hspot:=spot_none hcell
     have hblk:a.block<w.heap.size:=by
      have:((a.add (0*6)).add 0).block<w.heap.size:=by
       simp only[World.cell?] at hcell
       rcases Nat.lt_or_ge ((a.add (0*6)).add 0).block w.heap.size with h|h
       ·exact h
       ·rw[Array.getElem?_eq_none h] at hcell;cases hcell
      rwa [add_block,add_block] at this
     obtain ⟨b,off,spot⟩:=a
     have:spot=none:=by simpa[Addr.add] using hspot
     subst this
     refine ⟨b,off,rfl,hblk,fun i x hi=>?_⟩
     have hil:i<len:=by have:=(List.getElem?_eq_some_iff.1 hi).1;rwa [hlen'] at this
     obtain ⟨cs',hc',hx'⟩:=hfn i hil
     have hxe:x=f i:=by rw[List.getElem?_map,List.getElem?_range hil] at hi;simpa using hi.symm
     subst hxe
     refine ⟨cs',fun j u hu=>?_,hx'⟩
     have hj:j<6:=by rw[←hx'.len];exact (List.getElem?_eq_some_iff.1 hu).1
     have:=(World.cells?_some hc').2.2 j hj
     rw[hu,Addr.add_lit,Addr.add_lit] at this
     exact this
    have:=IsEx.mk' (w:=w) (B:=w.heap.size) (e:= .mk op nm m ((List.range len).map f) l c) (A:=some a) (cap:=cap) ⟨w0,w1,w2,wl,wc⟩ (by show ((List.range len).map f).length≤cap;rw[hlen'];exact hlc) hcm hA
    rw[show exCells (.mk op nm m ((List.range len).map f) l c) (some a) cap=[.int .i64 op,.string nm,.int .i64 m,.slice (some a) len cap,.int .i64 l,.int .i64 c] from by simp[exCells,Ex.op,Ex.name,Ex.n,Ex.args,Ex.line,Ex.col]] at this
    exact this
end
theorem list4 {α:Type} {l:List α} (h:l.length=4):∃a b c d,l=[a,b,c,d]:=by
 match l,h with
 | [a,b,c,d],_=>exact ⟨a,b,c,d,rfl⟩
theorem list7' {α:Type} {l:List α} (h:l.length=7):∃a b c d e f g,l=[a,b,c,d,e,f,g]:=by
 match l,h with
 | [a,b,c,d,e,f,g],_=>exact ⟨a,b,c,d,e,f,g,rfl⟩
section
variable {H:Type} {enc:TypeId × Value→H} {w:World} {spare:Nat→Bool} {held:Bool}
theorem cells_df:Tryz.prog.cellsOf 77=7:=by kernel_rfl
theorem cells_dfs:Tryz.prog.cellsOf 31=1:=by kernel_rfl
theorem cells_fl:Tryz.prog.cellsOf 33=4:=by kernel_rfl
theorem isDf_len (y:Int × Ex) (cs:List Value) (h:isDf w w.heap.size y cs):cs.length=7:=by
 obtain ⟨_,cs',rfl,h⟩:=h
 simp[h.len]
theorem open_df (fuel:Nat) (cs:List Value) (x:DataW H × List MemPlace) (h:DataW.trod enc Tryz.prog w 0 spare held fuel 77 cs=some x):∃d,isDf w w.heap.size d cs:=by
 obtain ⟨xs,n,_,_,hlen,hxl,hf⟩:=DataW.trod_struct Tryz.underlying77 h
 rw[cells_df] at hlen
 obtain ⟨c0,c1,c2,c3,c4,c5,c6,rfl⟩:=list7' hlen
 have hx:xs.length=2:=hxl
 have e0:xs[0]? =some (xs[0]'(by omega)):=List.getElem?_eq_getElem (by omega)
 have e1:xs[1]? =some (xs[1]'(by omega)):=List.getElem?_eq_getElem (by omega)
 have h0:DataW.trod enc Tryz.prog w 0 spare held n 3 (([c0,c1,c2,c3,c4,c5,c6].drop 0).take (Tryz.prog.cellsOf 3))=some xs[0]:=(hf 0 _ rfl).trans e0
 have h1:DataW.trod enc Tryz.prog w 0 spare held n 75 (([c0,c1,c2,c3,c4,c5,c6].drop 1).take (Tryz.prog.cellsOf 75))=some xs[1]:=(hf 1 _ rfl).trans e1
 rw[cells_int] at h0
 rw[cells_ex] at h1
 refine' zq215
 obtain ⟨e,he⟩:=open_ex n _ _ h1
 simp at ha
 subst ha
 exact ⟨(a,e),wa,_,rfl,he⟩
theorem open_fl (fuel:Nat) (cs:List Value) (x:DataW H × List MemPlace) (h:DataW.trod enc Tryz.prog w 0 spare held fuel 33 cs=some x):∃f vw vd vi vo,cs=[vw,vd,vi,vo]∧FlAt w w.heap.size f vw vd vi vo:=by
 obtain ⟨xs,n,_,_,hlen,hxl,hf⟩:=DataW.trod_struct Tryz.underlying33 h
 rw[cells_fl] at hlen
 obtain ⟨c0,c1,c2,c3,rfl⟩:=list4 hlen
 have hx:xs.length=4:=hxl
 have e0:xs[0]? =some (xs[0]'(by omega)):=List.getElem?_eq_getElem (by omega)
 have e1:xs[1]? =some (xs[1]'(by omega)):=List.getElem?_eq_getElem (by omega)
 have e2:xs[2]? =some (xs[2]'(by omega)):=List.getElem?_eq_getElem (by omega)
 have e3:xs[3]? =some (xs[3]'(by omega)):=List.getElem?_eq_getElem (by omega)
 have h0:DataW.trod enc Tryz.prog w 0 spare held n 22 (([c0,c1,c2,c3].drop 0).take (Tryz.prog.cellsOf 22))=some xs[0]:=(hf 0 _ rfl).trans e0
 have h1:DataW.trod enc Tryz.prog w 0 spare held n 31 (([c0,c1,c2,c3].drop 1).take (Tryz.prog.cellsOf 31))=some xs[1]:=(hf 1 _ rfl).trans e1
 have h2:DataW.trod enc Tryz.prog w 0 spare held n 26 (([c0,c1,c2,c3].drop 2).take (Tryz.prog.cellsOf 26))=some xs[2]:=(hf 2 _ rfl).trans e2
 have h3:DataW.trod enc Tryz.prog w 0 spare held n 26 (([c0,c1,c2,c3].drop 3).take (Tryz.prog.cellsOf 26))=some xs[3]:=(hf 3 _ rfl).trans e3
 rw[cells_wrs] at h0
 rw[cells_dfs] at h1
 rw[cells_ints] at h2
 rw[cells_ints] at h3
 simp only[List.drop_zero,List.drop_succ_cons,List.take_succ_cons,List.take_zero] at h0 h1 h2 h3
 obtain ⟨l0,k0⟩:=open_sl Tryz.underlying22 cells_wr (by decide) n (fun k _ cs x h=>open_wr k cs x h) isWr_len ⟨0,[]⟩ h0
 obtain ⟨l1,k1⟩:=open_sl Tryz.underlying31 cells_df (by decide) n (fun k _ cs x h=>open_df k cs x h) isDf_len (0,.mk 0 ⟨#[]⟩ 0 [] 0 0) h1
 obtain ⟨l2,k2⟩:=open_ints h2
 obtain ⟨l3,k3⟩:=open_ints h3
 exact ⟨⟨l0,l1,l2,l3⟩,c0,c1,c2,c3,rfl,k0,k1,k2,k3⟩
def FlIs (w:World) (f:Fl) (v:Value):Prop:=∃vw vd vi vo,v=flV vw vd vi vo∧FlAt w w.heap.size f vw vd vi vo
theorem open_flatV {base:Nat} {v:Value} {d:DataW H} {p:List MemPlace} {r:Reach} (hv:Value.okWide Tryz.prog w r base 33 v) (h:DataW.Trod enc Tryz.prog w 0 spare held 33 v d p):∃q,FlIs w q v:=by
 obtain ⟨cs,rfl,hsz⟩:=WideShapes.okWide_struct Tryz.underlying33 hv
 obtain ⟨fuel,hf⟩:=h
 obtain ⟨f,vw,vd,vi,vo,hc,ha⟩:=open_fl fuel _ _ hf
 refine ⟨f,vw,vd,vi,vo,?_,ha⟩
 obtain ⟨l⟩:=cs
 have:l=[vw,vd,vi,vo]:=hc
 rw[this]
end
end Go.Proofs.YtckognjamlckcaaGreatDoor
namespace Go.Proofs.YtckognjamlckcaaGreatDoor.normOf
open Go.RowKit Vf Fo
attribute [local go_sem ↓] Go.wp_at_zero Go.wp_at_succ
theorem walk0 (f:Fl) (vw vd vi vo:Value) (w:World) (h:FlAt w w.heap.size f vw vd vi vo) (ht:Tab w):
  Calls Tryz.prog 4 #[flV vw vd vi vo] w fun e w'=>e= .returned (.bool true)∧Below w.heap.size w w':=by
 have HTB:=Lib.hid ht
 obtain ⟨Aw,cw,rfl,_,_,_⟩:=id h.wires
 obtain ⟨Ad,cd,rfl,_,_,_⟩:=id h.defs
 obtain ⟨Ai,ci,rfl,_,_,_⟩:=id h.ins
 obtain ⟨Ao,co,rfl,_,_,_⟩:=id h.outs
 refine' zq110
 have HFM:=Lib.hid (fun W (hW:Below w.heap.size w W)=>h.next hW)
 clear h ht
 go_enter Tryz.func4,Tryz.ntmps4
 refine' zq150
 refine' zq90
 go_wp2_with fail
 refine (awake24_any _).mono ?_
 rintro e w2 ⟨rfl,hb2⟩
 have b2:=b1.trans (hb2.mono hs1)
 obtain ⟨f0,f1,f2,f3⟩:=HF4.out _ hb2
 have HFW:=Lib.hid (few23_any (HFM.out _ b2))
 go_wp2_with fail
 (with_reducible refine HFW.out.mono ?_)
 rintro e w3 ⟨⟨b,rfl,HB⟩,hb3⟩
 have b3:=b2.trans (hb3.mono b2.size)
 have hq3:=hb2.trans (hb3.mono hb2.size)
 clear f0 f1 f2 f3 HFW hb2 hb3 b1 b2
 cases b
 ·go_wp2_with fail
  go_ret
  exact ⟨rfl,b3⟩
 obtain ⟨hfx,hfw,hfd,hfi,hfo⟩:=HB.out rfl
 obtain ⟨f0,f1,f2,f3⟩:=HF4.out _ hq3
 have hs3:=b3.size
 have hs3':=hq3.size
 have hsz:∀d∈f.defs,exSize d.2≤1000000:=fun d hd=>by have:=hfx d hd;omega
 have hsum1:(f.defs.map (fun d=>exSize d.2)).sum≤100000000:=by
  have:=sum_le_mul (B:=200) f.defs hfx
  omega
 have hsum8:(f.defs.map (fun d=>8*exSize d.2+1)).sum≤800000000:=by
  have:=sum_le_mul (g:=fun d:Int × Ex=>8*exSize d.2+1) (B:=1601) f.defs (fun d hd=>by have:=hfx d hd;omega)
  omega
 have HNO:=Lib.hid (nof_all (HFM.out _ b3) (HTB.out.keep b3) hsz hsum8)
 have HRT:=Lib.hid (fun W (hW:Below w3.heap.size w3 W)=>rfright_any (HFM.out W (b3.trans (hW.mono hs3))) hsz (by omega) (by omega))
 have HMO:=Lib.hid (fun W (hW:Below w3.heap.size w3 W)=>rmostF_any (HFM.out W (b3.trans (hW.mono hs3))) (by omega) hsum1 hsz)
 clear HB hfx hsz hsum1 hsum8
 go_wp2_with fail
 (with_reducible refine HNO.out.mono ?_)
 rintro e w4 ⟨hb4,⟨hno,rfl⟩|⟨hok,hsp,rfl⟩|⟨hok,hsp,v0,v1,v2,v3,v4,v5,rfl,hx⟩⟩
 ·rw[cB_false hno] at HRT
  have hs4:=hb4.size
  refine' zq210
  clear f0 f1 f2 f3 HNO HMO hno
  refine' zq167
  obtain ⟨g0,g1,g2,g3,g4,g5⟩:=(rX.below hb6 hXl).six'
  have HB7:=Lib.hid (b3.trans (hb7.mono hs3))
  have HNN:=Lib.hid (none_any w6)
  clear f0 f1 f2 f3 rX hb6 hb5 hb7
  go_wp2_with fail
  (with_reducible refine HNN.out.mono ?_)
  rintro e w8 ⟨rfl,hb8⟩
  have HB8:=Lib.hid (HB7.out.trans (hb8.mono HB7.out.size))
  go_wp2_with fail
  go_ret
  exact ⟨rfl,HB8.out⟩
 ·rw[cB_true hok] at HRT
  have hs4:=hb4.size
  have hcap:=spent_more hok hsp
  generalize mwTo f f.defs.length=MW at*
  generalize mcTo f f.defs.length=MC at*
  refine' zq210
  clear f0 f1 f2 f3 HNO hok hsp
  refine' zq167
  refine' zq328
  have hb9:=hb7.trans (hb8.mono hb7.size)
  obtain ⟨g0,g1,g2,g3,g4,g5⟩:=(rX.below (hb6.trans (hb8.mono hb6.size)) hXl).six'
  have HB7:=Lib.hid (b3.trans (hb9.mono hs3))
  have HNN:=Lib.hid (none_any w7)
  have hcap':decide ((1600:Int)<MW)=true∨decide ((1600:Int)<MW)=false∧decide ((60:Int)<MC)=true:=by
   simp only[decide_eq_true_eq,decide_eq_false_iff_not]
   omega
  clear f0 f1 f2 f3 rX hb6 hb5 hb7 hb8 hb9 hcap
  go_wp2_with fail
  (with_reducible refine HNN.out.mono ?_)
  rintro e w8 ⟨rfl,hb8⟩
  have HB8:=Lib.hid (HB7.out.trans (hb8.mono HB7.out.size))
  rcases hcap' with z1|⟨z1,z2⟩
  ·go_wp2_with fail
   go_ret
   exact ⟨rfl,HB8.out⟩
  ·go_wp2_with fail
   go_ret
   exact ⟨rfl,HB8.out⟩
 rw[cB_true hok] at HRT
 have HOK:=Lib.hid hok
 have HMD:=Lib.hid (made_ok hok hsp)
 clear hok hsp
 generalize formN f (normS f)=X at*
 obtain ⟨B0,d0,rfl,_⟩:=id hx.wires
 obtain ⟨B1,d1,rfl,_⟩:=id hx.acts
 obtain ⟨B2,d2,rfl,_⟩:=id hx.cells
 obtain ⟨B3,d3,rfl,_⟩:=id hx.keeps
 obtain ⟨B4,d4,rfl,_⟩:=id hx.ins
 obtain ⟨B5,d5,rfl,_⟩:=id hx.outs
 have b5:Below w4.heap.size w4 (w4.alloc (.cells #[(.slice B0 X.wires.length d0),(.slice B1 X.acts.length d1),(.slice B2 X.cells.length d2),(.slice B3 X.keeps.length d3),(.slice B4 X.ins.length d4),(.slice B5 X.outs.length d5)] 28)):=bE
 have rX:=Row.new w4 #[(.slice B0 X.wires.length d0),(.slice B1 X.acts.length d1),(.slice B2 X.cells.length d2),(.slice B3 X.keeps.length d3),(.slice B4 X.ins.length d4),(.slice B5 X.outs.length d5)] 28
 have hb5:=hb4.trans (b5.mono hb4.size)
 have HXM:=Lib.hid (hx.next b5)
 have hs4:=hb4.size
 have z1:decide (mwTo f f.defs.length<X.wires.length)=false:=by rw[decide_eq_false_iff_not];have:=HMD.out.wires;omega
 have z2:decide (mcTo f f.defs.length<X.cells.length)=false:=by rw[decide_eq_false_iff_not];have:=HMD.out.cells;omega
 generalize mwTo f f.defs.length=MW at*
 generalize mcTo f f.defs.length=MC at*
 clear f0 f1 f2 f3 HNO hx
 obtain ⟨f0,f1,f2,f3⟩:=HF4.out _ (hq3.trans (hb5.mono hs3'))
 go_upto_region 6 with (fail)
 generalize hw5:w4.alloc (.cells #[(.slice B0 X.wires.length d0),(.slice B1 X.acts.length d1),(.slice B2 X.cells.length d2),(.slice B3 X.keeps.length d3),(.slice B4 X.ins.length d4),(.slice B5 X.outs.length d5)] 28)=w5 at*
 generalize hG:w4.heap.size=G at*
 have hXl:=rX.lt
 have hs5:=hb5.size
 go_wp2_with fail
 (with_reducible refine (HRT.out _ hb5).mono ?_)
 rintro e w6 ⟨rfl,hb6⟩
 have hb7:=hb5.trans (hb6.mono hs5)
 have hs6:=hb6.size
 refine' zq328
 have hb67:=hb6.trans (hb8.mono hs6)
 have hs7:=hb67.size
 have HX5:Hid (∀W,Below w5.heap.size w5 W→(W.cell? ⟨w.heap.size,0,none⟩=some (.slice Aw f.wires.length cw)∧W.cell? ⟨w.heap.size,1,none⟩=some (.slice Ad f.defs.length cd)∧W.cell? ⟨w.heap.size,2,none⟩=some (.slice Ai f.ins.length ci)∧W.cell? ⟨w.heap.size,3,none⟩=some (.slice Ao f.outs.length co))∧W.cell? ⟨G,0,none⟩=some (.slice B0 X.wires.length d0)∧W.cell? ⟨G,1,none⟩=some (.slice B1 X.acts.length d1)∧W.cell? ⟨G,2,none⟩=some (.slice B2 X.cells.length d2)∧W.cell? ⟨G,3,none⟩=some (.slice B3 X.keeps.length d3)∧W.cell? ⟨G,4,none⟩=some (.slice B4 X.ins.length d4)∧W.cell? ⟨G,5,none⟩=some (.slice B5 X.outs.length d5)):=fun W hW=>⟨HF4.out W (hq3.trans ((hb5.trans (hW.mono hs5)).mono hs3')),(rX.below hW hXl).six'⟩
 have HXN:=Lib.hid (fun W (hW:Below w5.heap.size w5 W)=>HXM.out.next hW)
 have HFN:=Lib.hid (fun W (hW:Below w5.heap.size w5 W)=>HFM.out W (b3.trans ((hb5.trans (hW.mono hs5)).mono hs3)))
 have HRR:Hid (∀W,Below w5.heap.size w5 W→Calls Tryz.prog 9 #[fmV (.slice B0 X.wires.length d0) (.slice B1 X.acts.length d1) (.slice B2 X.cells.length d2) (.slice B3 X.keeps.length d3) (.slice B4 X.ins.length d4) (.slice B5 X.outs.length d5)] W fun e w'=>e= .returned (.bool true)∧Below W.heap.size W w'):=fun W hW=>by
  have:=rright_any X _ _ _ _ _ _ W (HXN.out W hW) (by have:=HMD.out.acts;omega) (by have:=HMD.out.ok.2.1.2.2;omega)
  rwa [cB_true HMD.out.ok] at this
 have HNR:Hid (∀W,Below w5.heap.size w5 W→Calls Tryz.prog 8 #[fmV (.slice B0 X.wires.length d0) (.slice B1 X.acts.length d1) (.slice B2 X.cells.length d2) (.slice B3 X.keeps.length d3) (.slice B4 X.ins.length d4) (.slice B5 X.outs.length d5)] W fun e w'=>e= .returned (.bool true)∧Below W.heap.size W w'):=fun W hW=>by
  have:=nright_any X _ _ _ _ _ _ W (HXN.out W hW) (by have:=HMD.out.ok.2.2.2.1.2.1;omega)
  rwa [cB_true HMD.out.ok] at this
 have HB5:=Lib.hid (b3.trans (hb5.mono hs3))
 clear f0 f1 f2 f3 rX HXM HF4 HFM HRT HMO hb4 b5 b3 hq3 hb7 hb5 hb8 hb6 hs6
 obtain ⟨⟨f0,f1,f2,f3⟩,g0,g1,g2,g3,g4,g5⟩:=HX5.out w7 hb67
 go_wp2_with fail
 (with_reducible refine (HRR.out _ hb67).mono ?_)
 rintro e w8 ⟨rfl,hb8⟩
 have hb58:=hb67.trans (hb8.mono hs7)
 have hs8:=hb58.size
 clear f0 f1 f2 f3 g0 g1 g2 g3 g4 g5 hb8
 obtain ⟨⟨f0,f1,f2,f3⟩,g0,g1,g2,g3,g4,g5⟩:=HX5.out w8 hb58
 go_wp2_with fail
 (with_reducible refine (HNR.out _ hb58).mono ?_)
 rintro e w9 ⟨rfl,hb9⟩
 have hb59:=hb58.trans (hb9.mono hs8)
 have hs9:=hb59.size
 clear f0 f1 f2 f3 g0 g1 g2 g3 g4 g5 hb9 hb58 hs8 hb67 hs7
 obtain ⟨⟨f0,f1,f2,f3⟩,g0,g1,g2,g3,g4,g5⟩:=HX5.out w9 hb59
 have HT1:=Lib.hid (fun W (hW:Below w5.heap.size w5 W)=>rtypes24_any (HXN.out W hW) (Nat.le_refl _) X.ins _ (HXN.out W hW).ins (by have:=HMD.out.ok.2.1.2.2;omega) (fun n hn=>(HMD.out.ok.2.1.1 n hn).1))
 have HT2:=Lib.hid (fun W (hW:Below w5.heap.size w5 W)=>rtypes23_any (HFN.out W hW) (Nat.le_refl _) f.ins _ (HFN.out W hW).ins (by omega) (fun n hn=>(HOK.out.2.1.1 n hn).1) (fun n hn=>wf_of (by have:=flat_tys HOK.out (HOK.out.2.1.1 n hn).1;omega)))
 have HT3:=Lib.hid (fun W (hW:Below w5.heap.size w5 W)=>rtypes24_any (HXN.out W hW) (Nat.le_refl _) X.outs _ (HXN.out W hW).outs (by have:=HMD.out.ok.2.2.1.2.2;omega) (fun n hn=>(HMD.out.ok.2.2.1.1 n hn).1))
 have HT4:=Lib.hid (fun W (hW:Below w5.heap.size w5 W)=>rtypes23_any (HFN.out W hW) (Nat.le_refl _) f.outs _ (HFN.out W hW).outs (by omega) (fun n hn=>(HOK.out.2.2.1.1 n hn).1) (fun n hn=>wf_of (by have:=flat_tys HOK.out (HOK.out.2.2.1.1 n hn).1;omega)))
 have HI1:Hid (∀W v v',SlV W W.heap.size 1 isInt v (X.ins.map (tyOf X))→SlV W W.heap.size 1 isInt v' (f.ins.map (tyOf f.fm))→Calls Tryz.prog 15 #[v,v'] W fun e w'=>e= .returned (.bool true)∧∃n,w'=W.drewN n):=fun W v v' hv hv'=>by
  have:=fints_any _ _ v v' _ W hv hv'
  rwa [cB_true HMD.out.ins] at this
 have HI2:Hid (∀W v v',SlV W W.heap.size 1 isInt v (X.outs.map (tyOf X))→SlV W W.heap.size 1 isInt v' (f.outs.map (tyOf f.fm))→Calls Tryz.prog 15 #[v,v'] W fun e w'=>e= .returned (.bool true)∧∃n,w'=W.drewN n):=fun W v v' hv hv'=>by
  have:=fints_any _ _ v v' _ W hv hv'
  rwa [cB_true HMD.out.outs] at this
 clear HXN HFN HRR HNR
 go_upto_region 13 with (fail)
 refine wp_region_held_drew (S:=fun W=>(W.cell? ⟨w.heap.size,0,none⟩=some (.slice Aw f.wires.length cw)∧W.cell? ⟨w.heap.size,1,none⟩=some (.slice Ad f.defs.length cd)∧W.cell? ⟨w.heap.size,2,none⟩=some (.slice Ai f.ins.length ci)∧W.cell? ⟨w.heap.size,3,none⟩=some (.slice Ao f.outs.length co))∧W.cell? ⟨G,0,none⟩=some (.slice B0 X.wires.length d0)∧W.cell? ⟨G,1,none⟩=some (.slice B1 X.acts.length d1)∧W.cell? ⟨G,2,none⟩=some (.slice B2 X.cells.length d2)∧W.cell? ⟨G,3,none⟩=some (.slice B3 X.keeps.length d3)∧W.cell? ⟨G,4,none⟩=some (.slice B4 X.ins.length d4)∧W.cell? ⟨G,5,none⟩=some (.slice B5 X.outs.length d5)) (by kernel_rfl) ?_ (fun hHeld=>?_)
 ·(try dsimp only);(first|(with_reducible exact HX5.out _ bE))
 refine tk 0 (some 69) rfl ?_
 refine tk 1 (some 70) rfl ?_
 refine tk 2 (some 71) rfl ?_
 refine tk 4 (some 73) rfl ?_
 refine tk 5 (some 74) rfl ?_
 refine tk 6 (some 75) rfl ?_
 refine rd1 3 (some 72) rfl (fun KK hKK=>?_)
 refine' zq138
 refine' zq112
 refine rd1 7 (some 76) rfl (fun KK hKK=>?_)
 refine' zq97
 refine rd1 8 (some 77) rfl (fun KK hKK=>?_)
 refine' zq230
 refine tk 9 (some 78) rfl ?_
 refine tk 10 (some 79) rfl ?_
 refine tk 11 (some 80) rfl ?_
 refine tk 12 (some 81) rfl ?_
 refine tk 14 (some 83) rfl ?_
 refine tk 15 (some 84) rfl ?_
 refine tk 16 (some 85) rfl ?_
 refine rd1 13 (some 82) rfl (fun KK hKK=>?_)
 refine' zq138
 refine' zq112
 refine rd1 17 (some 86) rfl (fun KK hKK=>?_)
 refine' zq97
 refine rd1 18 (some 87) rfl (fun KK hKK=>?_)
 refine' zq230
 refine tk 19 (some 88) rfl ?_
 refine tk 20 (some 2) rfl ?_
 refine' zq25
 go_ret
 exact ⟨rfl,HB5.out.trans (Below.mono (B:=w5.heap.size) bE HB5.out.size)⟩
theorem walk (f:Fl) (v:Value) (w:World) (h:FlIs w f v) (ht:Tab w):Calls Tryz.prog 4 #[v] w fun e w'=>e= .returned (.bool true)∧Below w.heap.size w w':=by
 obtain ⟨vw,vd,vi,vo,rfl,ha⟩:=h
 exact walk0 f vw vd vi vo w ha ht
end Go.Proofs.YtckognjamlckcaaGreatDoor.normOf
