/-
  flat's looker: an expression's type. slices.Repeat of one row of guards. A region that draws its order and ends in a store: what is held of the world need not be held behind that store.
-/
import Derived.Test.YtckognjamlckcaaGreatDoorFltA
set_option maxHeartbeats 16000000
set_option maxRecDepth 100000
namespace Go.Proofs.YtckognjamlckcaaGreatDoor
open Go.RowKit Vf Fo
attribute [local go_sem ↓] Go.wp_at_zero Go.wp_at_succ
theorem dT {w:World} {B:Nat} {f:Fl} {vw vd vi vo:Value} (h:cS w B f vw vd vi vo) {n:Int} (hn:ak f.fm n):∃(m:Nat) (b off cw:Nat) (Ag:Option Addr) (cg:Nat),n=m/\m<f.wires.length/\vw= .slice (some ⟨b,off,none⟩) f.wires.length cw/\f.wires.length<=cw/\cw<=9223372036854775807/\b<B/\
  w.cell? ⟨b,off+m*2,none⟩=some (.int .i64 (ag f.fm n))/\w.cell? ⟨b,off+m*2+1,none⟩=some (.slice Ag (aa f.fm n).length cg)/\(aa f.fm n).length<=cg/\cg<=9223372036854775807/\Sl w B 2 aW Ag (aa f.fm n):=by
 obtain ⟨m,rfl⟩:=Int.eq_ofNat_of_zero_le hn.1
 have hm:m<f.wires.length:=by have h2:(m:Int)<f.wires.length:=hn.2;omega
 obtain ⟨Aw,cw,e,h1,h2,s⟩:=h.wires
 obtain ⟨b,off,x,Ag,cg,rfl,hb,hx,wt,c0,c1,l1,m1,sg⟩:=s.wr (k:=m) hm
 have hw:jZ f.fm (m:Int)=x:=bW hx
 unfold maxLen at h2 m1
 refine ⟨m,b,off,cw,Ag,cg,rfl,hm,e,h1,h2,hb,?_⟩
 unfold ag aa
 rw[hw]
 exact ⟨c0,c1,l1,m1,sg⟩
theorem yw {w:World} {base n:Nat} {e:TypeId} {v:Value} {l:List Int} (h:w.ownsRow base e 1 v n (al l)) (hi:∀x∈l,Wf x):aI w w.heap.size 1 aP v l:=by
 have he:al l=(l.map (fun x=> [Value.int .i64 x])).flatten:=by
  clear h hi
  induction l with
  |nil=>rfl
  |cons a l ih=>
   simp only[al,List.map_cons,List.flatten_cons,List.cons_append,List.nil_append] at ih⊢
   rw[ih]
 rw[he] at h
 exact (fV (rel:=aP) (l:=l) h (ep.map fun x hx=>⟨rfl,hi x hx⟩) (fun cs hcs=>by obtain ⟨x,_,rfl⟩:=List.mem_map.1 hcs;rfl) (by decide)).1
theorem BO {w:World} {B b off:Nat} {l:List Int} (h:Sl w B 1 aP (some ⟨b,off,none⟩) l):Sl w B 1 aP (some ⟨b,off+1,none⟩) l.tail:=fun hn=>by
 rw[List.length_tail] at hn
 obtain ⟨b',off',e,h1,h2⟩:=h (by omega)
 injection e with e
 injection e with e1 e2
 subst e1;subst e2
 refine ⟨b,off+1,rfl,h1,fun i x hi=>?_⟩
 rw[List.getElem?_tail] at hi
 obtain ⟨cs,h3,h4⟩:=h2 (i+1) x hi
 exact ⟨cs,fun j u hj=>by have:=h3 j u hj;rwa [show off+1+i*1+j=off+(i+1)*1+j by omega],h4⟩
def lO (f:Fl) (e:Ex) (w:World) (r:Ending) (w':World):Prop:=r= .returned (.int .i64 (am f e))/\Below w.heap.size w w'
theorem xN {B D:Nat} {f:Fl} {vw vd vi vo vb:Value} (hw:de f) (e:Ex):∀(A:Option Addr) (cap:Nat) (w:World),dU w B D f vw vd vi vo vb->cW e->e.args.length<=cap->cap<=maxLen->aM w w.heap.size A e.args->aO f e->
  Calls Tryz.prog 100 #[.pointer (some ⟨D,0,none⟩),bz e A cap] w (lO f e w):=by
 refine' zq106
 induction e using Ex.ind with
 |h e ih=>
  intro A cap w h hok hcap hmax hx hp
  obtain ⟨hp1,hp2⟩:=bq.1 hp
  have HP1:=zH hp1
  have HP:=zH hp
  have HWO:=zH hw
  have HI:Hid (∀x∈e.args,∀(A:Option Addr) (cap:Nat) (W:World),dU W B D f vw vd vi vo vb->cW x->x.args.length<=cap->cap<=maxLen->aM W W.heap.size A x.args->Calls Tryz.prog 100 #[.pointer (some ⟨D,0,none⟩),bz x A cap] W (lO f x W)):=fun x hx A cap W h1 h2 h3 h4 h5=>ih x hx A cap W h1 h2 h3 h4 h5 (hp2 x hx)
  have hlen:e.args.length<=3:=by
   have:=bU hp1
   unfold aX at this
   repeat' split at this
   all_goals omega
  have b1:Below w.heap.size w (w.alloc (.cells #[.int .i64 e.op,.string e.name,.int .i64 e.n,.slice A e.args.length cap,.int .i64 e.line,.int .i64 e.col] 75)):=bE
  have rX:=ai.new w #[.int .i64 e.op,.string e.name,.int .i64 e.n,.slice A e.args.length cap,.int .i64 e.line,.int .i64 e.col] 75
  have HFK:=zH (fun W (hW:Below w.heap.size w W)=>h.below hW)
  have HXS:=zH (fun W (hW:Below w.heap.size w W)=>(hx.below hW).more hW.size)
  unfold maxLen at hmax
  clear ih h hx hp hp1 hp2 hw hok
  go_enter Tryz.func100,Tryz.ntmps100
  go_upto_region 1 with (fail)
  generalize w.alloc (.cells #[.int .i64 e.op,.string e.name,.int .i64 e.n,.slice A e.args.length cap,.int .i64 e.line,.int .i64 e.col] 75)=w1 at*
  have hXl:=rX.lt
  have hs1:=b1.size
  have HX:Hid (∀W,Below w1.heap.size w1 W->W.cell? ⟨w.heap.size,0,none⟩=some (.int .i64 e.op)/\W.cell? ⟨w.heap.size,1,none⟩=some (.string e.name)/\W.cell? ⟨w.heap.size,2,none⟩=some (.int .i64 e.n)/\W.cell? ⟨w.heap.size,3,none⟩=some (.slice A e.args.length cap)/\W.cell? ⟨w.heap.size,4,none⟩=some (.int .i64 e.line)/\W.cell? ⟨w.heap.size,5,none⟩=some (.int .i64 e.col)):=fun W hW=>(rX.below hW hXl).six'
  obtain ⟨c0,c1,c2,c3,c4,c5⟩:=rX.six'
  clear rX
  go_wp2_with fail
  clear c0 c1 c2 c3 c4 c5
  go_loopw[5,17] (fun v5 i wr=>∃k:Nat,k<=e.args.length/\i= .int .i64 k/\Hid (wr.ownsRow w1.heap.size 3 1 v5 k (al (cT f e k)))/\Hid (∀z∈cT f e k,z≠0)/\Hid (Below w1.heap.size w1 wr)) (fun _ i _=>e.args.length-(intOf i).toNat)
  case atStart=>exact ⟨0,Nat.zero_le _,rfl,World.ownsRow_nil _ _ _ _,(fun z hz=>by cases hz),Below.refl _ _⟩
  case round=>
   obtain ⟨k,hk,rfl,HO,HNZ,HBR⟩:=hrel
   have hszr:=HBR.o.size
   have hb:=b1.trans (HBR.o.mono hs1)
   have hbs:=hb.size
   by_cases hlt:k<e.args.length
   ·obtain ⟨b,off,x,A',cap',rfl,hbb,hxk,hxm,hok',hcap',hmax',hx',d0,d1,d2,d3,d4,d5⟩:=(HXS.o _ hb).at_ hlt
    have hk':(k:Int)<e.args.length:=by omega
    have b4:Below wr.heap.size wr (wr.alloc (.cells #[.int .i64 x.op,.string x.name,.int .i64 x.n,.slice A' x.args.length cap',.int .i64 x.line,.int .i64 x.col] 75)):=bE
    have HC:=zH (HI.o x hxm A' cap' _ (HFK.o _ (hb.trans (b4.mono hbs))) hok' hcap' hmax' ((hx'.below b4).more b4.size))
    have HTS:=zH (mh (f:=f) hxk)
    have HKZ:=zH (fun h0=>oZ (f:=f) hxk h0)
    have HB4:=zH (HBR.o.trans (b4.mono hszr))
    have HO4:=zH (aG HO.o b4)
    have hs4:=b4.size
    clear hxk hxm hok' hcap' hmax' hx' HO
    go_wp2_with fail
    (with_reducible refine HC.o.mono ?_)
    rintro r w6 ⟨rfl,hb6⟩
    have HB6:=zH (HB4.o.trans (hb6.mono HB4.o.size))
    have HO6:=zH (aG HO4.o hb6)
    have HBW:=zH (b1.trans (HB6.o.mono hs1))
    have hs6:=HB6.o.size
    clear d0 d1 d2 d3 d4 d5 HC HO4 HB4 b4 hs4 hb6
    by_cases h0:am f x=0
    ·have HF:=zH (HKZ.o h0)
     have h0':(am f x==0)=true:=by simp[h0]
     generalize am f x=T at*
     clear h0
     go_wp2_with fail
     go_ret
     exact ⟨az HF.o.symm,HBW.o⟩
    have h0':(am f x==0)=false:=by simp[h0]
    have HNZ':Hid (∀z∈cT f e (k+1),z≠0):=by
     show ∀z∈cT f e (k+1),z≠0
     rw[HTS.o]
     intro z hz
     rcases List.mem_append.1 hz with hz|hz
     ·exact HNZ.o z hz
     ·rw[List.mem_singleton.1 hz];exact h0
    have HTK:Hid (al (cT f e (k+1))=al (cT f e k)++ [.int .i64 (am f x)]):=by
     show _=_
     rw[HTS.o,bS]
    generalize am f x=T at*
    generalize al (cT f e k)=LL at*
    have ha:Below w6.heap.size w6 (w6.alloc (.cells #[.int .i64 T] 3)):=bE
    have HOA:=zH (aG HO6.o ha)
    have HN14:Hid (∀j u,[Value.int .i64 T][j]? =some u->(w6.alloc (.cells #[.int .i64 T] 3)).cell? ((⟨w6.heap.size,0,none⟩:Addr).add j)=some u):=fe w6 3 (.int .i64 T)
    clear h0 HKZ HTS
    go_wp2_with (at_builtin;refine wpList_append_own _ rfl _ _ 26 rfl w1.heap.size 3 i0 (.int .i64 0) 1 8 Tryz.underlying26 hi0 hz0 hz1 hz2 rfl (by decide) _ _ _ rfl HOA.o ⟨w6.heap.size,0,none⟩ 1 1 [.int .i64 T] rfl ?c0 ?c1 ?c2 ?c3 ?c4 ?c5 ?_)
    case c0=>rfl
    case c1=>exact HN14.o
    case c2=>intro u hu;simp at hu;subst hu;rfl
    case c3=>unfold maxLen;omega
    case c4=>omega
    case c5=>simp;omega
    intro v15 w15 hown15 hg15 _
    have HB15:Hid (Below w1.heap.size w1 w15):=aY (HB6.o.trans (ha.mono hs6)) HOA.o hg15 (by have:=(HB6.o.trans (ha.mono hs6)).size;omega)
    have HO15:Hid (w15.ownsRow w1.heap.size 3 1 v15 (k+1) (al (cT f e (k+1)))):=by
     show w15.ownsRow _ _ _ _ _ _
     rw[HTK.o];exact hown15
    clear hown15 hg15 HOA HN14 ha HO6
    go_wp2_with fail
    go_roundw
    case rel=>exact ⟨k+1,by omega,by go_num,HO15.o,HNZ'.o,HB15.o⟩
    case measure=>simp[intOf];omega
   obtain rfl:k=e.args.length:=by omega
   have HKS:Hid (cT f e e.args.length=e.args.map (am f)):=nK
   have HAL:Hid (∀z∈e.args.map (am f),0<=z/\z<=2):=fun z hz=>by
    obtain ⟨x,hx,rfl⟩:=List.mem_map.1 hz
    exact qJ HWO.o x ((bq.1 HP.o).2 x hx)
   have hO5:=HO.o
   rw[HKS.o] at hO5
   have hSL:=yw hO5 (fun z hz=>aT (by have:=HAL.o z hz;omega))
   obtain ⟨A5,cp5,hv5,l5,m5,_⟩:=id hSL
   subst hv5
   have HSL:=zH hSL
   clear hSL hO5
   have HNN:Hid (0∉e.args.map (am f)):=fun g=>by rw[<-HKS.o] at g;exact HNZ.o 0 g rfl
   have HKE:Hid (am f e=eV f e (e.args.map (am f))):=dW f e
   have HLN:Hid ((e.args.map (am f)).length=e.args.length):=List.length_map ..
   clear HKS HNZ HO HI HXS hlt hk
   generalize e.args.map (am f)=ks at*
   obtain ⟨c0,c1,c2,c3,c4,c5⟩:=HX.o _ HBR.o
   have HNM:=zH (kz e.op)
   have HC2:Hid (∀W,Below wr.heap.size wr W->W.cell? ⟨w.heap.size,0,none⟩=some (.int .i64 e.op)/\W.cell? ⟨w.heap.size,2,none⟩=some (.int .i64 e.n)):=fun W hW=>⟨cell_kept c0 hW,cell_kept c2 hW⟩
   go_upto_region 10 with (fail)
   go_cut[51] (fun v W=>v= .bool (aJ e.op && (e.op !=3) && (ag f.fm e.n !=2))/\Below wr.heap.size wr W)
   case first=>
    by_cases hnb:aJ e.op=true
    rotate_left 1
    ·have hnb':aJ e.op=false:=by simpa using hnb
     rw[hnb'] at HNM
     have HNB:=zH hnb'
     clear hnb hnb'
     refine wp_region_held_drew (S:=fun W=>W.cell? ⟨w.heap.size,0,none⟩=some (.int .i64 e.op)/\W.cell? ⟨w.heap.size,2,none⟩=some (.int .i64 e.n)) (by kernel_rfl) ?_ (fun hHeld=>?_)
     ·(try dsimp only);(first|(with_reducible exact HC2.o _ bE))
     refine tk 0 (some 31) rfl ?_
     refine tk 1 (some 32) rfl ?_
     refine aH 2 (some 33) rfl (fun KK hKK=>?_)
     go_simp
     go_at_call 116;refine Calls.mono (HNM.o _) ?_;rintro r w8 ⟨rfl,rfl⟩
     (try go_wp2_with fail)
     refine hKK.out _ _ ?_ (fun hHeld=>?_)
     ·(try dsimp only);(first|(with_reducible exact HC2.o _ bE))
     clear hKK KK
     try simp only[Act.put,List.setIfInBounds_toArray,List.set_cons_zero,List.set_cons_succ]
     refine tk 3 (some 34) rfl ?_
     refine sk 4 (some 35) rfl ?_
     refine sk 5 (some 36) rfl ?_
     refine sk 6 (some 37) rfl ?_
     refine tk 7 (some 38) rfl ?_
     refine tk 8 (some 39) rfl ?_
     refine sk 9 (some 40) rfl ?_
     refine sk 10 (some 41) rfl ?_
     refine sk 11 (some 42) rfl ?_
     refine sk 12 (some 43) rfl ?_
     refine sk 13 (some 44) rfl ?_
     refine sk 14 (some 45) rfl ?_
     refine sk 15 (some 46) rfl ?_
     refine sk 16 (some 47) rfl ?_
     refine sk 17 (some 48) rfl ?_
     refine sk 18 (some 49) rfl ?_
     refine sk 19 (some 50) rfl ?_
     refine tk 20 (some 51) rfl ?_
     refine wpAnyH_done (by kernel_rfl) ?_ _
     go_wp2_with fail
     go_meet
     exact ⟨by rw[HNB.o];rfl,bE⟩
    obtain ⟨m,b6,off6,cw,Ag,cg,hem,hm,hvw,hcw1,hcw2,hb6,y0,y1,_,_,_⟩:=dT (HFK.o _ hb).fl (cC HP1.o hnb)
    subst hvw
    rw[hnb] at HNM
    have HNB:=zH hnb
    have hm':(m:Int)<f.wires.length:=by omega
    have q0:wr.cell? ⟨D,0,none⟩=some (.slice (some ⟨b6,off6,none⟩) f.wires.length cw):=(HFK.o _ hb).row.cell 0
    by_cases h3:e.op=3
    ·have h3':(e.op !=3)=false:=by simp[h3]
     have H3:=zH h3'
     clear hnb h3
     refine wp_region_held_drew (S:=fun W=>W.cell? ⟨w.heap.size,0,none⟩=some (.int .i64 e.op)/\W.cell? ⟨w.heap.size,2,none⟩=some (.int .i64 e.n)) (by kernel_rfl) ?_ (fun hHeld=>?_)
     ·(try dsimp only);(first|(with_reducible exact HC2.o _ bE))
     refine tk 0 (some 31) rfl ?_
     refine tk 1 (some 32) rfl ?_
     refine aH 2 (some 33) rfl (fun KK hKK=>?_)
     go_simp
     go_at_call 116;refine Calls.mono (HNM.o _) ?_;rintro r w8 ⟨rfl,rfl⟩
     (try go_wp2_with fail)
     refine hKK.out _ _ ?_ (fun hHeld=>?_)
     ·(try dsimp only);(first|(with_reducible exact HC2.o _ bE))
     clear hKK KK
     try simp only[Act.put,List.setIfInBounds_toArray,List.set_cons_zero,List.set_cons_succ]
     refine tk 3 (some 34) rfl ?_
     refine tk 4 (some 35) rfl ?_
     refine tk 5 (some 36) rfl ?_
     refine tk 6 (some 37) rfl ?_
     refine tk 7 (some 38) rfl ?_
     refine tk 8 (some 39) rfl ?_
     refine sk 9 (some 40) rfl ?_
     refine sk 10 (some 41) rfl ?_
     refine sk 11 (some 42) rfl ?_
     refine sk 12 (some 43) rfl ?_
     refine sk 13 (some 44) rfl ?_
     refine sk 14 (some 45) rfl ?_
     refine sk 15 (some 46) rfl ?_
     refine sk 16 (some 47) rfl ?_
     refine sk 17 (some 48) rfl ?_
     refine sk 18 (some 49) rfl ?_
     refine sk 19 (some 50) rfl ?_
     refine tk 20 (some 51) rfl ?_
     refine wpAnyH_done (by kernel_rfl) ?_ _
     go_wp2_with fail
     go_meet
     exact ⟨by rw[HNB.o,H3.o];rfl,bE⟩
    have h3':(e.op !=3)=true:=by simp[h3]
    have H3:=zH h3'
    have HEM:=zH hem
    rw[hem] at HC2 c2
    have HC5:Hid (∀W,Below wr.heap.size wr W->(W.cell? ⟨w.heap.size,0,none⟩=some (.int .i64 e.op)/\W.cell? ⟨w.heap.size,2,none⟩=some (.int .i64 (m:Int)))/\W.cell? ⟨D,0,none⟩=some (.slice (some ⟨b6,off6,none⟩) f.wires.length cw)/\W.cell? ⟨b6,off6+m*2,none⟩=some (.int .i64 (ag f.fm (m:Int)))):=fun W hW=>⟨HC2.o W hW,cell_kept q0 hW,by rw[<-hem];exact cell_kept y0 hW⟩
    have HT:Hid (ag f.fm e.n=ag f.fm (m:Int)):=by show _=_;rw[hem]
    generalize ag f.fm (m:Int)=T at*
    clear hnb h3 y0 y1
    refine wp_region_held_drew (S:=fun W=>(W.cell? ⟨w.heap.size,0,none⟩=some (.int .i64 e.op)/\W.cell? ⟨w.heap.size,2,none⟩=some (.int .i64 (m:Int)))/\W.cell? ⟨D,0,none⟩=some (.slice (some ⟨b6,off6,none⟩) f.wires.length cw)/\W.cell? ⟨b6,off6+m*2,none⟩=some (.int .i64 T)) (by kernel_rfl) ?_ (fun hHeld=>?_)
    ·(try dsimp only);(first|(with_reducible exact HC5.o _ bE))
    refine tk 0 (some 31) rfl ?_
    refine tk 1 (some 32) rfl ?_
    refine aH 2 (some 33) rfl (fun KK hKK=>?_)
    go_simp
    go_at_call 116;refine Calls.mono (HNM.o _) ?_;rintro r w8 ⟨rfl,rfl⟩
    (try go_wp2_with fail)
    refine hKK.out _ _ ?_ (fun hHeld=>?_)
    ·(try dsimp only);(first|(with_reducible exact HC5.o _ bE))
    clear hKK KK
    try simp only[Act.put,List.setIfInBounds_toArray,List.set_cons_zero,List.set_cons_succ]
    refine tk 3 (some 34) rfl ?_
    refine tk 4 (some 35) rfl ?_
    refine tk 5 (some 36) rfl ?_
    refine tk 6 (some 37) rfl ?_
    refine tk 7 (some 38) rfl ?_
    refine tk 8 (some 39) rfl ?_
    refine tk 9 (some 40) rfl ?_
    refine tk 10 (some 41) rfl ?_
    refine tk 11 (some 42) rfl ?_
    refine tk 12 (some 43) rfl ?_
    refine tk 13 (some 44) rfl ?_
    refine tk 14 (some 45) rfl ?_
    refine tk 15 (some 46) rfl ?_
    refine tk 16 (some 47) rfl ?_
    refine tk 17 (some 48) rfl ?_
    refine tk 18 (some 49) rfl ?_
    refine tk 19 (some 50) rfl ?_
    refine tk 20 (some 51) rfl ?_
    refine wpAnyH_done (by kernel_rfl) ?_ _
    go_wp2_with fail
    go_meet
    exact ⟨by rw[HNB.o,H3.o,HT.o];rfl,bE⟩
   case rest=>
    obtain ⟨hv51,hbc⟩:=hcut
    generalize hBQ:(aJ e.op && (e.op !=3) && (ag f.fm e.n !=2))=BQ at hv51
    subst hv51
    have HBQ:=zH hBQ
    have hb2:=hb.trans (hbc.mono hbs)
    have HB2:=zH hb2
    have hbr2:=HBR.o.trans (hbc.mono hszr)
    have HSC:=zH ((HSL.o.below hbc).more hbc.size)
    clear c0 c1 c2 c3 c4 c5 hBQ HSL
    obtain ⟨c0,c1,c2,c3,c4,c5⟩:=HX.o _ hbr2
    cases BQ
    rotate_left 1
    ·have HF:Hid (am f e=0):=by
      show _=_
      have h2:=HBQ.o
      simp only[Bool.and_eq_true,bne_iff_ne] at h2
      rw[HKE.o,eV,if_neg HNN.o,if_pos ⟨h2.1.1,h2.1.2,h2.2⟩]
     go_wp2_with fail
     go_ret
     exact ⟨az HF.o.symm,HB2.o⟩
    have HK1:Hid (am f e=if e.op=1 then 1 else if e.op=2 then 2 else if e.op=3 then ag f.fm e.n else if e.op=27 then (if ao ks 0≠2 then 0 else dJ e.op ks.tail) else dJ e.op ks):=by
     show _=_
     have h2:=HBQ.o
     rw[HKE.o,eV,if_neg HNN.o,if_neg (fun g=>by
      have:(aJ e.op && (e.op !=3) && (ag f.fm e.n !=2))=true:=by simp only[Bool.and_eq_true,bne_iff_ne];exact ⟨⟨g.1,g.2.1⟩,g.2.2⟩
      rw[this] at h2
      cases h2)]
    clear HKE HNN HBQ
    by_cases o1:e.op=1
    ·have o1':(e.op==1)=true:=by simp[o1]
     have HF:Hid (am f e=1):=HK1.o.trans (by rw[if_pos o1])
     clear o1
     go_wp2_with fail
     go_ret
     exact ⟨az HF.o.symm,HB2.o⟩
    have o1':(e.op==1)=false:=by simp[o1]
    by_cases o2:e.op=2
    ·have o2':(e.op==2)=true:=by simp[o2]
     have HF:Hid (am f e=2):=HK1.o.trans (by rw[if_neg o1,if_pos o2])
     clear o1 o2
     go_wp2_with fail
     go_ret
     exact ⟨az HF.o.symm,HB2.o⟩
    have o2':(e.op==2)=false:=by simp[o2]
    by_cases o3:e.op=3
    ·have o3':(e.op==3)=true:=by simp[o3]
     have HF:Hid (am f e=ag f.fm e.n):=HK1.o.trans (by rw[if_neg o1,if_neg o2,if_pos o3])
     obtain ⟨m,b6,off6,cw,Ag,cg,hem,hm,hvw,hcw1,hcw2,hb6,y0,y1,_,_,_⟩:=dT (HFK.o _ hb2).fl (cC HP1.o (dK.2 (.inl o3)))
     subst hvw
     have hm':(m:Int)<f.wires.length:=by omega
     have q0:wc.cell? ⟨D,0,none⟩=some (.slice (some ⟨b6,off6,none⟩) f.wires.length cw):=(HFK.o _ hb2).row.cell 0
     rw[hem] at c2
     have HEM:=zH hem
     have HC5:Hid (∀W,Below wc.heap.size wc W->W.cell? ⟨w.heap.size,2,none⟩=some (.int .i64 (m:Int))/\W.cell? ⟨D,0,none⟩=some (.slice (some ⟨b6,off6,none⟩) f.wires.length cw)/\W.cell? ⟨b6,off6+m*2,none⟩=some (.int .i64 (ag f.fm e.n))):=fun W hW=>⟨cell_kept c2 hW,cell_kept q0 hW,cell_kept y0 hW⟩
     generalize ag f.fm e.n=T at*
     clear o1 o2 o3 y0 y1 hem
     go_upto_region 18 with (fail)
     refine wp_region_held_drew (S:=fun W=>W.cell? ⟨w.heap.size,2,none⟩=some (.int .i64 (m:Int))/\W.cell? ⟨D,0,none⟩=some (.slice (some ⟨b6,off6,none⟩) f.wires.length cw)/\W.cell? ⟨b6,off6+m*2,none⟩=some (.int .i64 T)) (by kernel_rfl) ?_ (fun hHeld=>?_)
     ·(try dsimp only);(first|(with_reducible exact HC5.o _ bE))
     refine tk 0 (some 60) rfl ?_
     refine tk 1 (some 61) rfl ?_
     refine tk 2 (some 62) rfl ?_
     refine tk 3 (some 63) rfl ?_
     refine tk 4 (some 64) rfl ?_
     refine tk 5 (some 65) rfl ?_
     refine tk 6 (some 66) rfl ?_
     refine tk 7 (some 67) rfl ?_
     refine tk 8 (some 68) rfl ?_
     refine tk 9 (some 69) rfl ?_
     refine tk 10 (some 4) rfl ?_
     refine wpAnyH_done (by kernel_rfl) ?_ _
     go_wp2_with fail
     go_ret
     exact ⟨az HF.o.symm,HB2.o.trans (Below.mono (B:=wc.heap.size) bE HB2.o.size)⟩
    have o3':(e.op==3)=false:=by simp[o3]
    have HSG:=zH (fun W=>Ar.sign_any e.op W)
    have HOPS:Hid (Ar.signB e.op=false->0<ks.length):=fun g=>by
     rw[HLN.o]
     have h1:=bU HP1.o
     have h2:=dq HP1.o
     have h3:¬(5<=e.op/\e.op<=20):=fun q=>by unfold Ar.signB at g;simp at g;omega
     unfold aX at h1
     repeat' split at h1
     all_goals omega
    have H27L:Hid (e.op=27->ks.length=3):=fun g=>by
     rw[HLN.o]
     have h1:=bU HP1.o
     rw[g] at h1
     have:aX 27=3:=by decide
     omega
    have HAL2:=zH HAL.o
    by_cases o27:e.op=27
    rotate_left 1
    ·have o27':(e.op==27)=false:=by simp[o27]
     have HF:Hid (am f e=dJ e.op ks):=HK1.o.trans (by rw[if_neg o1,if_neg o2,if_neg o3,if_neg o27])
     have hmv:cp5<=9223372036854775807:=by unfold maxLen at m5;omega
     obtain ⟨A',c',hA',_,_,sl⟩:=HSC.o
     injection hA' with hA1 hA2 hA3
     subst hA1;subst hA3
     have HSV:=zH sl
     have HPO:=HOPS
     clear o1 o2 o3 o27 HK1 H27L sl HSC HOPS hA2
     generalize ks=l at*
     go_wp2_with fail
     (with_reducible refine (HSG.o _).mono ?_)
     rintro r _ ⟨rfl,rfl⟩
     go_wp2_with fail
     go_loopw[87] (fun i wq=>∃j:Nat,j<=l.length/\i= .int .i64 j/\Hid (∀i,i<j->∀z,l[i]? =some z->(z==ao l 0 && (!(Ar.signB e.op)||Ar.signIn e.op==0||z==Ar.signIn e.op))=true)/\wc=wq) (fun i _=>l.length-(intOf i).toNat)
     case atStart=>exact ⟨0,Nat.zero_le _,rfl,fun j hj=>absurd hj (by omega),rfl⟩
     case round=>
      obtain ⟨j,hj,rfl,HJ,rfl⟩:=hrel
      by_cases hlt:j<l.length
      ·obtain ⟨b7,off7,z,rfl,hb7,hz,wz,g0⟩:=HSV.o.int hlt
       obtain ⟨b8,off8,z0,he8,_,hz0,_,g1⟩:=HSV.o.int (k:=0) (by omega)
       injection he8 with he8
       injection he8 with he9 he10
       subst he9;subst he10
       have hj':(j:Int)<l.length:=by omega
       have hl0':(0:Int)<l.length:=by omega
       have hg0:ao l 0=z0:=by simp[ao,List.getD_eq_getElem?_getD,hz0]
       have HZ:=zH hz
       have HNOK:Hid (¬(z==z0 && (!(Ar.signB e.op)||Ar.signIn e.op==0||z==Ar.signIn e.op))=true->am f e=0):=fun g=>by
        rw[HF.o,dJ,if_neg]
        intro q
        rw[List.all_eq_true] at q
        have:=q z (List.mem_of_getElem? HZ.o)
        rw[hg0] at this
        exact g this
       have HOKK:Hid ((z==z0 && (!(Ar.signB e.op)||Ar.signIn e.op==0||z==Ar.signIn e.op))=true->∀i,i<j+1->∀z,l[i]? =some z->(z==ao l 0 && (!(Ar.signB e.op)||Ar.signIn e.op==0||z==Ar.signIn e.op))=true):=fun g=>aC HJ.o (fun z' hz'=>by rw[HZ.o] at hz';injection hz' with hz';rw[<-hz',hg0];exact g)
       clear hz wz hz0 hg0
       rw[Nat.add_zero] at g1
       generalize Ar.signIn e.op=SI at*
       generalize Ar.signB e.op=SB at*
       by_cases q1:z=z0
       rotate_left 1
       ·have q1':(z !=z0)=true:=by simp[q1]
        have HF0:=zH (HNOK.o (by simp[q1]))
        clear q1
        go_wp2_with fail
        go_ret
        exact ⟨az HF0.o.symm,HB2.o⟩
       have q1':(z !=z0)=false:=by simp[q1]
       cases SB
       ·have HJ':=zH (HOKK.o (by simp[q1]))
        clear q1
        go_wp2_with fail
        go_roundw
        case rel=>exact ⟨j+1,by omega,by go_num,HJ'.o,trivial⟩
        case measure=>simp[intOf];omega
       by_cases q2:SI=0
       ·have q2':(SI !=0)=false:=by simp[q2]
        have HJ':=zH (HOKK.o (by simp[q1,q2]))
        clear q1 q2
        go_wp2_with fail
        go_roundw
        case rel=>exact ⟨j+1,by omega,by go_num,HJ'.o,trivial⟩
        case measure=>simp[intOf];omega
       have q2':(SI !=0)=true:=by simp[q2]
       by_cases q3:z=SI
       ·have q3':(z !=SI)=false:=by simp[q3]
        have HJ':=zH (HOKK.o (by rw[q1] at q3;simp[q1,q3]))
        clear q1 q2 q3
        go_wp2_with fail
        go_roundw
        case rel=>exact ⟨j+1,by omega,by go_num,HJ'.o,trivial⟩
        case measure=>simp[intOf];omega
       ·have q3':(z !=SI)=true:=by simp[q3]
        have HF0:=zH (HNOK.o (by simp[q2,q3]))
        clear q1 q2 q3
        go_wp2_with fail
        go_ret
        exact ⟨az HF0.o.symm,HB2.o⟩
      obtain rfl:j=l.length:=by omega
      have HFA:Hid (am f e=if Ar.signB e.op=true then Ar.signOut e.op else ao l 0):=by
       show _=_
       rw[HF.o,dJ,if_pos]
       rw[List.all_eq_true]
       intro z hz
       obtain ⟨i,hi⟩:=List.getElem?_of_mem hz
       exact HJ.o i (List.getElem?_eq_some_iff.1 hi).1 z hi
      clear HJ hlt hj
      by_cases qs:Ar.signB e.op=true
      ·have HF0:=zH (HFA.o.trans (if_pos qs))
       rw[qs]
       clear qs
       go_wp2_with fail
       go_ret
       exact ⟨az HF0.o.symm,HB2.o⟩
      have qs':Ar.signB e.op=false:=by simpa using qs
      have hpos:=HPO.o qs'
      obtain ⟨b8,off8,z0,rfl,_,hz0,_,g1⟩:=HSV.o.int (k:=0) hpos
      have hl0':(0:Int)<l.length:=by omega
      rw[Nat.add_zero] at g1
      have HF0:Hid (am f e=z0):=HFA.o.trans (by rw[if_neg qs];simp[ao,List.getD_eq_getElem?_getD,hz0])
      rw[qs']
      clear qs qs' hz0
      go_wp2_with fail
      go_ret
      exact ⟨az HF0.o.symm,HB2.o⟩
    have o27':(e.op==27)=true:=by simp[o27]
    have hl3:=H27L.o o27
    have hmv:cp5<=9223372036854775807:=by unfold maxLen at m5;omega
    obtain ⟨A',c',hA',lA,mA,sl⟩:=HSC.o
    injection hA' with hA1 hA2 hA3
    subst hA1;subst hA3
    obtain ⟨b5,off5,k0,rfl,hb5,hx0,wx0,d0⟩:=sl.int (k:=0) (by omega)
    rw[Nat.add_zero] at d0
    have hg0:ao ks 0=k0:=by simp[ao,List.getD_eq_getElem?_getD,hx0]
    have HK2:=zH (HK1.o.trans (by rw[if_neg o1,if_neg o2,if_neg o3,if_pos o27,hg0]))
    have hl0:(0:Int)<ks.length:=by omega
    have hl1:(1:Int)<=ks.length:=by omega
    have hl1':(1:Int)<=cp5:=by omega
    have hl1n:1<=ks.length:=by omega
    have HL3:=zH hl3
    clear hl3
    clear o1 o2 o3 o27 HK1 hx0 hg0 hA2 HSC
    by_cases hk2:k0=2
    rotate_left 1
    ·have hk2':(k0 !=2)=true:=by simp[hk2]
     have HF0:=zH (HK2.o.trans (if_pos hk2))
     clear hk2
     go_wp2_with fail
     go_ret
     exact ⟨az HF0.o.symm,HB2.o⟩
    have hk2':(k0 !=2)=false:=by simp[hk2]
    have HF:Hid (am f e=dJ e.op ks.tail):=HK2.o.trans (if_neg (fun g=>g hk2))
    clear hk2 HK2
    have HPO:Hid (Ar.signB e.op=false->0<ks.tail.length):=fun _=>by rw[List.length_tail];have:=HL3.o;omega
    have HSV:=zH (BO sl)
    go_upto_region 23 with (fail)
    rw[if_neg (show ¬cp5=1 by have:=HL3.o;omega),show ks.length-1=ks.tail.length by simp]
    have hmv9:cp5-1<=9223372036854775807:=by omega
    have hle9:ks.tail.length<=cp5-1:=by simp;omega
    clear sl HOPS H27L hl0 hl1 hl1' hl1n d0 lA mA l5 m5
    generalize cp5-1=c9 at*
    generalize ks.tail=l at*
    go_wp2_with fail
    (with_reducible refine (HSG.o _).mono ?_)
    rintro r _ ⟨rfl,rfl⟩
    go_wp2_with fail
    go_loopw[87] (fun i wq=>∃j:Nat,j<=l.length/\i= .int .i64 j/\Hid (∀i,i<j->∀z,l[i]? =some z->(z==ao l 0 && (!(Ar.signB e.op)||Ar.signIn e.op==0||z==Ar.signIn e.op))=true)/\wc=wq) (fun i _=>l.length-(intOf i).toNat)
    case atStart=>exact ⟨0,Nat.zero_le _,rfl,fun j hj=>absurd hj (by omega),rfl⟩
    case round=>
     obtain ⟨j,hj,rfl,HJ,rfl⟩:=hrel
     by_cases hlt:j<l.length
     ·obtain ⟨b7,off7,z,he7,hb7,hz,wz,g0⟩:=HSV.o.int hlt
      injection he7 with he7
      injection he7 with he71 he72
      subst he71;subst he72
      obtain ⟨b8,off8,z0,he8,_,hz0,_,g1⟩:=HSV.o.int (k:=0) (by omega)
      injection he8 with he8
      injection he8 with he9 he10
      subst he9;subst he10
      have hj':(j:Int)<l.length:=by omega
      have hl0':(0:Int)<l.length:=by omega
      have hg0:ao l 0=z0:=by simp[ao,List.getD_eq_getElem?_getD,hz0]
      have HZ:=zH hz
      have HNOK:Hid (¬(z==z0 && (!(Ar.signB e.op)||Ar.signIn e.op==0||z==Ar.signIn e.op))=true->am f e=0):=fun g=>by
       rw[HF.o,dJ,if_neg]
       intro q
       rw[List.all_eq_true] at q
       have:=q z (List.mem_of_getElem? HZ.o)
       rw[hg0] at this
       exact g this
      have HOKK:Hid ((z==z0 && (!(Ar.signB e.op)||Ar.signIn e.op==0||z==Ar.signIn e.op))=true->∀i,i<j+1->∀z,l[i]? =some z->(z==ao l 0 && (!(Ar.signB e.op)||Ar.signIn e.op==0||z==Ar.signIn e.op))=true):=fun g=>aC HJ.o (fun z' hz'=>by rw[HZ.o] at hz';injection hz' with hz';rw[<-hz',hg0];exact g)
      clear hz wz hz0 hg0
      rw[Nat.add_zero] at g1
      generalize Ar.signIn e.op=SI at*
      generalize Ar.signB e.op=SB at*
      by_cases q1:z=z0
      rotate_left 1
      ·have q1':(z !=z0)=true:=by simp[q1]
       have HF0:=zH (HNOK.o (by simp[q1]))
       clear q1
       go_wp2_with fail
       go_ret
       exact ⟨az HF0.o.symm,HB2.o⟩
      have q1':(z !=z0)=false:=by simp[q1]
      cases SB
      ·have HJ':=zH (HOKK.o (by simp[q1]))
       clear q1
       go_wp2_with fail
       go_roundw
       case rel=>exact ⟨j+1,by omega,by go_num,HJ'.o,trivial⟩
       case measure=>simp[intOf];omega
      by_cases q2:SI=0
      ·have q2':(SI !=0)=false:=by simp[q2]
       have HJ':=zH (HOKK.o (by simp[q1,q2]))
       clear q1 q2
       go_wp2_with fail
       go_roundw
       case rel=>exact ⟨j+1,by omega,by go_num,HJ'.o,trivial⟩
       case measure=>simp[intOf];omega
      have q2':(SI !=0)=true:=by simp[q2]
      by_cases q3:z=SI
      ·have q3':(z !=SI)=false:=by simp[q3]
       have HJ':=zH (HOKK.o (by rw[q1] at q3;simp[q1,q3]))
       clear q1 q2 q3
       go_wp2_with fail
       go_roundw
       case rel=>exact ⟨j+1,by omega,by go_num,HJ'.o,trivial⟩
       case measure=>simp[intOf];omega
      ·have q3':(z !=SI)=true:=by simp[q3]
       have HF0:=zH (HNOK.o (by simp[q2,q3]))
       clear q1 q2 q3
       go_wp2_with fail
       go_ret
       exact ⟨az HF0.o.symm,HB2.o⟩
     obtain rfl:j=l.length:=by omega
     have HFA:Hid (am f e=if Ar.signB e.op=true then Ar.signOut e.op else ao l 0):=by
      show _=_
      rw[HF.o,dJ,if_pos]
      rw[List.all_eq_true]
      intro z hz
      obtain ⟨i,hi⟩:=List.getElem?_of_mem hz
      exact HJ.o i (List.getElem?_eq_some_iff.1 hi).1 z hi
     clear HJ hlt hj
     by_cases qs:Ar.signB e.op=true
     ·have HF0:=zH (HFA.o.trans (if_pos qs))
      rw[qs]
      clear qs
      go_wp2_with fail
      go_ret
      exact ⟨az HF0.o.symm,HB2.o⟩
     have qs':Ar.signB e.op=false:=by simpa using qs
     have hpos:=HPO.o qs'
     obtain ⟨b8,off8,z0,he8,_,hz0,_,g1⟩:=HSV.o.int (k:=0) hpos
     injection he8 with he8
     injection he8 with he81 he82
     subst he81;subst he82
     have hl0':(0:Int)<l.length:=by omega
     rw[Nat.add_zero] at g1
     have HF0:Hid (am f e=z0):=HFA.o.trans (by rw[if_neg qs];simp[ao,List.getD_eq_getElem?_getD,hz0])
     rw[qs']
     clear qs qs' hz0
     go_wp2_with fail
     go_ret
     exact ⟨az HF0.o.symm,HB2.o⟩
open Go.RowKit
def ib (x:Value) (n c:Nat):List Value:=List.replicate n x++List.replicate (c-n) (.slice none 0 0)
theorem tw {x:Value} {n c:Nat} (h:n<=c):(ib x n c).length=c:=by simp[ib];omega
theorem np {x:Value} {n m c:Nat}:splice (ib x n c) n (List.replicate m x)=ib x (n+m) c:=by
 unfold splice ib
 rw[List.take_left' (by simp),List.length_replicate,show n+m=(List.replicate n x).length+m by simp,List.drop_length_add_append,List.drop_replicate,List.length_replicate,<-List.append_assoc,List.replicate_append_replicate,show c-n-m=c-(n+m) by omega]
theorem Ce {x:Value} {n c j:Nat} (h:j<n):(ib x n c)[j]? =some x:=by
 unfold ib
 rw[List.getElem?_append_left (by simpa using h),List.getElem?_replicate,if_pos h]
theorem AD (x:Value) (c:Nat):ib x 0 c=List.replicate c (.slice none 0 0):=by simp[ib]
theorem zf (x:Value) (c:Nat):ib x c c=List.replicate c x:=by simp[ib]
theorem nP (z:Value) (n:Nat):madeCells #[z] n=(List.replicate n z).toArray:=by
 apply Array.ext
 ·simp[madeCells]
 ·intro i h1 h2
  simp[madeCells,Nat.mod_one]
theorem zC:(Tryz.prog.info? 50).map (fun i=>(i.zero,i.size,i.bytes))=some (some (.slice none 0 0),1,24):=by kernel_rfl
theorem p' (n:Int) (h0:0<=n) (h1:n<=1600) (W:World):(Instr.makeSlice 160 (.int .i64 n) (.int .i64 n)).run Tryz.prog W= .ok (.slice (some ⟨W.heap.size,0,none⟩) n.toNat n.toNat) (W.alloc (.cells (List.replicate n.toNat (.slice none 0 0)).toArray 50)):=by
 obtain ⟨i0,hi0,hz0,hz1,hz2⟩:=info_parts zC
 rw[run_make (P:=Tryz.prog) W 160 50 i0 (.slice none 0 0) rfl hi0 hz0 .i64 .i64 n n h0 (Int.le_refl _) (by rw[hz2];omega) (by omega),hz1,Nat.mul_one,<-nP]
 rfl
def Ds (x:Value) (c:Nat) (w:World) (e:Ending) (w':World):Prop:=∃R,e= .returned (.slice (some ⟨R,0,none⟩) c c)/\w.heap.size<=R/\ai w' R (List.replicate c x).toArray 50/\Below w.heap.size w w'
theorem yd (x:Value) (c b off cap:Nat) (hc:c<=1600) (hc1:1<=c) (w:World) (hv:x.oneCell'=true) (hb:b<w.heap.size) (hx:w.cell? ⟨b,off,none⟩=some x):
  Calls Tryz.prog 117 #[.slice (some ⟨b,off,none⟩) 1 cap,.int .i64 c] w (Ds x c w):=by
 have mk:=p' c (by omega) (by omega)
 have e1:IntKind.u64.wrap (c:Int)=(c:Int):=by rw[IntKind.wrap_u64];omega
 have hsz1:(Tryz.prog.info? 50).map (·.size)=some 1:=by kernel_rfl
 have b1:=(Below.refl w.heap.size w).alloc (Nat.le_refl _) (.cells (Array.replicate c (.slice none 0 0)) 50)
 have r1:=ai.new w (Array.replicate c (.slice none 0 0)) 50
 have hx1:(w.alloc (.cells (Array.replicate c (.slice none 0 0)) 50)).cell? ⟨b,off,none⟩=some x:=(World.cell?_alloc_lt w _ _ hb).trans hx
 have R1:Hid ((w.alloc (.cells (Array.replicate c (.slice none 0 0)) 50)).heap[w.heap.size]? =some (.cells (ib x 0 c).toArray 50 (0,0))):=by show _=_;rw[AD];simpa[ai] using r1
 clear r1
 go_enter Tryz.func117,Tryz.ntmps117
 go_wp2_with fail
 refine (mul_one c (by omega) _).mono ?_
 rintro e w' ⟨rfl,rfl⟩
 go_upto_region 7 with (fail)
 go_wp2_with (refine wpList_copy_splice rfl (.tmp 31) (.tmp 32) 160 160 rfl 50 Tryz.underlying160 hsz1 _ _ _ _ _ _ rfl rfl w.heap.size 0 (ib x 0 c) 50 R1.o [x] ?c1 ?c2 ?c3 ?c4 w.heap.size w b1 (Nat.le_refl _) ?_)
 case c1=>exact (Nat.min_eq_left hc1).symm
 case c2=>
  intro j v hv
  match j,hv with
  |0,hv=>simp at hv;subst hv;simpa using hx
 case c3=>rw[tw (Nat.zero_le _)];simpa using hc1
 case c4=>intro v hw;simp at hw;subst hw;exact hv
 intro w2 hR2 hb2
 have R2:Hid (ai w2 w.heap.size (ib x 1 c).toArray 50):=by
  have:=hR2.out
  rw[show [x]=List.replicate 1 x from rfl,np] at this
  exact this
 clear hR2 R1 b1 hx1 mk
 go_wp2_with fail
 go_loopw[8] (fun i wr=>∃n:Nat,1<=n/\n<=c/\i= .int .i64 n/\Hid (ai wr w.heap.size (ib x n c).toArray 50)/\Below w.heap.size w wr) (fun i _=>c-(intOf i).toNat)
 case atStart=>exact ⟨1,by omega,hc1,rfl,R2,hb2⟩
 case round=>
  clear R2 hb2
  obtain ⟨n,hn1,hnc,rfl,HR,hbr⟩:=hrel
  by_cases hlt:n<c
  ·have hi0:(0:Int)<=(n:Int):=by omega
   have hi1:(n:Int)<=(c:Int):=by omega
   have hne:¬(c=n):=by omega
   have hm:min n (c-n)<=c:=by omega
   have HM:Hid (∀v∈List.replicate (min n (c-n)) x,v.oneCell'=true):=fun v hw=>by rw[(List.mem_replicate.1 hw).2];exact hv
   have HC:Hid (∀j v,(List.replicate (min n (c-n)) x)[j]? =some v->wr.drew.cell? ((⟨w.heap.size,0,none⟩:Addr).add j)=some v):=by
    intro j v hv
    rw[List.getElem?_replicate] at hv
    split at hv
    ·rename_i hj
     injection hv with hv
     subst hv
     rw[Addr.add_lit,Nat.zero_add]
     refine (ai.cell HR.o.drew j).trans ?_
     rw[List.getElem?_toArray]
     exact Ce (by omega)
    ·cases hv
   have HL:Hid ((ib x n c).length=c):=tw hnc
   go_wp2_with fail
   go_region_held3 (fun _=>True) (first|trivial) (first|((refine step_copy_splice (by rfl) (.tmp 41) (.tmp 44) 160 160 (by rfl) 50 Tryz.underlying160 hsz1 (some ⟨w.heap.size,n,none⟩) (some ⟨w.heap.size,0,none⟩) (c-n) (c-n) n c (by rfl) (by rfl) w.heap.size n (ib x n c) 50 HR.o.drew (List.replicate (min n (c-n)) x) (by simp) (fun _=>⟨rfl,_,rfl,HC.o⟩) (by rw[HL.o];simp;omega) HM.o w.heap.size w hbr.drew (Nat.le_refl _) ?_);intro w3 hR3 hb3))
   have R3:Hid (ai w3 w.heap.size (ib x (n+min n (c-n)) c).toArray 50):=by
    have:=hR3.out
    rw[np] at this
    exact this
   have hlen:(List.replicate (min n (c-n)) x).length=min n (c-n):=by simp
   refine' zq159
  ·obtain rfl:n=c:=by omega
   go_wp2_with fail
   go_ret
   exact ⟨w.heap.size,rfl,Nat.le_refl _,by rw[<-zf];exact HR.o,hbr⟩
theorem vp (x:Value) (b off cap:Nat) (w:World):
  Calls Tryz.prog 117 #[.slice (some ⟨b,off,none⟩) 1 cap,.int .i64 0] w (Ds x 0 w):=by
 have mk:=p' 0 (by omega) (by omega)
 have hsz1:(Tryz.prog.info? 50).map (·.size)=some 1:=by kernel_rfl
 have b1:=(Below.refl w.heap.size w).alloc (Nat.le_refl _) (.cells #[] 50)
 have R1:Hid ((w.alloc (.cells #[] 50)).heap[w.heap.size]? =some (.cells ([]:List Value).toArray 50 (0,0))):=ai.new w #[] 50
 go_enter Tryz.func117,Tryz.ntmps117
 go_wp2_with fail
 refine (mul_one 0 (by omega) _).mono ?_
 rintro e w' ⟨rfl,rfl⟩
 go_upto_region 7 with (fail)
 go_wp2_with (refine wpList_copy_splice rfl (.tmp 31) (.tmp 32) 160 160 rfl 50 Tryz.underlying160 hsz1 _ _ _ _ _ _ rfl rfl w.heap.size 0 [] 50 R1.o [] ?c1 (fun h=>absurd h (by simp)) ?c3 ?c4 w.heap.size w b1 (Nat.le_refl _) ?_)
 case c1=>rfl
 case c3=>simp
 case c4=>intro v hw;simp at hw
 intro w2 hR2 hb2
 clear R1 mk b1
 go_wp2_with fail
 go_loop[8] (fun i=>i= .int .i64 0) (fun _=>0)
 case atStart=>exact rfl
 case round=>
  obtain rfl:=hrel
  go_wp2_with fail
  go_ret
  exact ⟨w.heap.size,rfl,Nat.le_refl _,hR2.out,hb2⟩
theorem zi (x:Value) (c b off cap:Nat) (hc:c<=1600) (w:World) (hv:x.oneCell'=true) (hb:b<w.heap.size) (hx:w.cell? ⟨b,off,none⟩=some x):
  Calls Tryz.prog 117 #[.slice (some ⟨b,off,none⟩) 1 cap,.int .i64 c] w (Ds x c w):=by
 rcases Nat.eq_zero_or_pos c with rfl|h
 ·exact vp x b off cap w
 ·exact yd x c b off cap hc h w hv hb hx
section
variable {P:Program} {ops:Array Oper} {Q:Exit->Act->World->Prop} {md:Region.Mode} {S:World->Prop} {s:Nat}
def fo (P:Program) (md:Region.Mode) (ops:Array Oper) (Q:Exit->Act->World->Prop) (S:World->Prop) (s:Nat):Nat->Array Bool->Act->World->Prop
 |0,listed,a,w=>Region.ready md ops listed=[]/\Q .normal a w
 |fuel+1,listed,a,w=>
  (Region.ready md ops listed=[]->Q .normal a w)/\
  ∀i∈Region.ready md ops listed,wpOp P ops Q i (fun a' w'=>(i≠s->S w')/\fo P md ops Q S s fuel (listed.setIfInBounds i true) a' w') a w
theorem nB:∀(fuel:Nat) (listed:Array Bool) (a:Act) (w:World),fo P md ops Q S s fuel listed a w->wpAny P md ops Q fuel listed a w
 |0,_,_,_,h=>h
 |fuel+1,_,_,_,h=>⟨h.1,fun i hi=>wpOp_mono (fun a' w' h'=>nB fuel _ a' w' h'.2) (h.2 i hi)⟩
def gp (md:Region.Mode) (ops:Array Oper) (s i:Nat):Bool:=
 match ops[s]? with
 |none=>false
 |some o=>o.after.any fun e=>Region.binds md e && e.on==i
theorem qt {i:Nat} (hl:gp md ops s i=true) {listed:Array Bool} (hi:i∈Region.ready md ops listed):s∉Region.ready md ops listed:=fun hs=>by
 obtain ⟨hi0,oi,hoi,_⟩:=mem_ready.1 hi
 obtain ⟨_,o,ho,hall⟩:=mem_ready.1 hs
 unfold gp at hl
 rw[ho] at hl
 dsimp only at hl
 rw[Array.any_eq_true'] at hl
 obtain ⟨ed,hed,hb⟩:=hl
 rw[Bool.and_eq_true] at hb
 have h2:=hall ed hed hb.1
 have hon:ed.on=i:=by simpa using hb.2
 rw[hon] at h2
 rcases Nat.lt_or_ge i listed.size with h'|h'
 ·simp[h'] at hi0 h2;rw[hi0] at h2;cases h2
 ·simp[Array.getElem?_eq_none h'] at h2
theorem qh {i:Nat} {oi:Oper} {v:Value} (hl:gp md ops s i=true) (hi:ops[i]? =some oi) (hsel:∀(j:Nat) (o:Oper) cs b,ops[j]? =some o->o.op≠ .select cs b)
  (hQ:∀c a w,Q (.panic c) (a.put oi.dst v) w->Q (.panic c) a w):
  ∀(fuel:Nat) (listed:Array Bool) (a:Act) (w:World),
   (∀j oj,ops[j]? =some oj->j≠i->listed.getD j true=false->(∀e∈oj.after,Region.binds md e=true->e.on≠i)->oi.apart ops oj=true)->
   i∈Region.ready md ops listed->YieldsIf P ops S oi v a->S w->
   fo P md ops Q S s fuel (listed.setIfInBounds i true) (a.put oi.dst v) w->fo P md ops Q S s (fuel+1) listed a w:=by
 intro fuel
 induction fuel with
 |zero=>
  intro listed a w _ hr hy hS H
  refine ⟨fun h=>(by rw[h] at hr;cases hr),fun j hj=>?_⟩
  by_cases hji:j=i
  ·subst hji;exact hy.wpOp hi hS ⟨fun _=>hS,H⟩
  ·have:=ready_mono hj hji
   rw[H.1] at this
   cases this
 |succ fuel ih=>
  intro listed a w hfree hr hy hS H
  refine ⟨fun h=>(by rw[h] at hr;cases hr),fun j hj=>?_⟩
  by_cases hji:j=i
  ·subst hji;exact hy.wpOp hi hS ⟨fun _=>hS,H⟩
  ·have hjs:j≠s:=fun e=>qt hl hr (e▸hj)
   have h1:=H.2 j (ready_mono hj hji)
   obtain ⟨hjun,oj,hoj,hall⟩:=mem_ready.1 hj
   have hnot:∀e∈oj.after,Region.binds md e=true->e.on≠i:=fun e he hb heq=>by
    have h1:=hall e he hb
    have h0:=(mem_ready.1 hr).1
    rw[heq] at h1
    rcases Nat.lt_or_ge i listed.size with h'|h'
    ·simp[h'] at h0 h1;rw[h0] at h1;cases h1
    ·simp[Array.getElem?_eq_none h'] at h1
   have h2:=wpOp_putIf hoj (hfree j oj hoj hji hjun hnot) (fun cs b=>hsel i oi cs b hi) (fun cs b=>hsel j oj cs b hoj) hQ hy h1
   have hfree':∀k ok,ops[k]? =some ok->k≠i->(listed.setIfInBounds j true).getD k true=false->
     (∀e∈ok.after,Region.binds md e=true->e.on≠i)->oi.apart ops ok=true:=fun k ok hk hki hun hno=>by
    refine hfree k ok hk hki ?_ hno
    by_cases hjk:j=k
    ·subst hjk;exact hjun
    ·rw[getD_set_ne true hjk] at hun;exact hun
   refine wpOp_mono (fun a' w' h3=>⟨h3.2.1,ih (listed.setIfInBounds j true) a' w' hfree' (ready_mono hr (Ne.symm hji)) h3.1 (h3.2.1 hjs) ?_⟩) h2
   rw[Array.setIfInBounds_comm _ _ hji]
   exact h3.2.2
theorem tb {listed:Array Bool} {a:Act} {w:World} (hr:Region.ready md ops listed=[]) (h:Q .normal a w):∀fuel,fo P md ops Q S s fuel listed a w
 |0=>⟨hr,h⟩
 |_+1=>⟨fun _=>h,by rw[hr];simp⟩
theorem eN (s:Nat) {id:Nat} {a:Act} {w:World} (hm:P.follows .mixedOrders=true) (hS:S w.drew) (h:S w.drew->fo P .any ops Q S s ops.size (Array.replicate ops.size false) a w.drew):(Code.region id ops true).wp P Q a w:=
 wp_region_any hm (nB _ _ _ _ (h hS))
variable {fuel:Nat} {listed:Array Bool} {a a':Act} {w:World} {v:Value} {o:Op} {ty:TypeId} {pos:String} {af:Array Edge} {g:Option (Nat × Bool)}
theorem cf (i:Nat) (d:Option Tmp) (hi:ops[i]? =some {dst:=d,op:=o,type:=ty,pos:=pos,after:=af,guard:=g}) (h:fo P md ops Q S s fuel (listed.setIfInBounds i true) a' w)
  (hl:gp md ops s i=true:=by kernel_rfl)
  (hs:Region.noSelect ops=true:=by kernel_rfl) (hf:Region.free md ops listed i=true:=by kernel_rfl) (hr:(Region.ready md ops listed).contains i=true:=by kernel_rfl)
  (hw:Region.wanted {dst:=d,op:=o,type:=ty,pos:=pos,after:=af,guard:=g} (yielded ops a.tmps)=true:=by kernel_rfl)
  (hy:∀w,S w->(execOp a.eval {dst:=d,op:=o,type:=ty,pos:=pos,after:=af,guard:=g}).run P w= .ok (.value v) w:=by intro w hSw;(try dsimp only at hSw);go_simp;(try with_reducible rfl))
  (hQ:∀c a w,Q (.panic c) (a.put d v) w->Q (.panic c) a w:=by exact fun _ _ _ h=>h)
  (hS:S w:=by first|assumption|trivial)
  (ha:a.put d v=a':=by (try simp only[Act.put,List.setIfInBounds_toArray,List.set_cons_zero,List.set_cons_succ]);(try exact rfl)):fo P md ops Q S s (fuel+1) listed a w:=by
 subst ha
 exact qh hl hi (Region.noSelect_spec hs) hQ fuel listed a w (Region.free_spec hi hf) (by simpa using hr) (.inl ⟨hw,hy⟩) hS h
theorem eD (i:Nat) (d:Option Tmp) (hi:ops[i]? =some {dst:=d,op:=o,type:=ty,pos:=pos,after:=af,guard:=g})
  (h:∀K':Act->World->Prop,Shut (∀a w,S w->(S w->fo P md ops Q S s fuel (listed.setIfInBounds i true) a w)->K' a w)->if Region.wanted {dst:=d,op:=o,type:=ty,pos:=pos,after:=af,guard:=g} (yielded ops a.tmps)=true then Oper.wp P {dst:=d,op:=o,type:=ty,pos:=pos,after:=af,guard:=g} a w K' Q else K' (a.put d undef) w)
  (hr:Region.ready md ops listed=[i]:=by kernel_rfl):fo P md ops Q S s (fuel+1) listed a w:=
 ⟨fun h0=>(by rw[hr] at h0;cases h0),fun j hj=>by
  rw[hr] at hj
  obtain rfl:=List.mem_singleton.1 hj
  exact wpOp_step hi (fun K' hK=>h K' (fun a w hS hW=>hK a w ⟨fun _=>hS,hW hS⟩))⟩
theorem Eh (d:Option Tmp) (hi:ops[s]? =some {dst:=d,op:=o,type:=ty,pos:=pos,after:=af,guard:=g})
  (h:∀K':Act->World->Prop,Shut (∀a w,fo P md ops Q S s fuel (listed.setIfInBounds s true) a w->K' a w)->if Region.wanted {dst:=d,op:=o,type:=ty,pos:=pos,after:=af,guard:=g} (yielded ops a.tmps)=true then Oper.wp P {dst:=d,op:=o,type:=ty,pos:=pos,after:=af,guard:=g} a w K' Q else K' (a.put d undef) w)
  (hr:Region.ready md ops listed=[s]:=by kernel_rfl):fo P md ops Q S s (fuel+1) listed a w:=
 ⟨fun h0=>(by rw[hr] at h0;cases h0),fun j hj=>by
  rw[hr] at hj
  obtain rfl:=List.mem_singleton.1 hj
  exact wpOp_step hi (fun K' hK=>h K' (fun a w hW=>hK a w ⟨fun g=>absurd rfl g,hW⟩))⟩
end
theorem aN {W W':World} {X:Nat->Prop} {base size n:Nat} {e:TypeId} {v:Value} {xs:List Value} (h:W.ownsRow base e size v n xs) (hu:ae X W W') (hX:∀k,v.ownBlock=some k->¬X k):W'.ownsRow base e size v n xs:=by
 refine ⟨h.1,?_⟩
 rcases h.2 with h0|⟨g,c,cur,h1,h2,h3,h4⟩
 ·exact .inl h0
 ·exact .inr ⟨g,c,cur,h1,h2,(hu.block g (Array.getElem?_eq_some_iff.1 h3).1 (hX g (by rw[h1];rfl))).trans h3,h4⟩
theorem ai.grownE {w w':World} {b:Nat} {cs:Array Value} {t:TypeId} {row:Option Nat} (h:ai w b cs t) (hg:w.grownBy w' row) (hne:row≠some b):ai w' b cs t:=
 (hg.block b h.lt (fun e=>hne e.symm)).trans h
theorem bh {w:World} {base b size n:Nat} {e t:TypeId} {v:Value} {xs:List Value} {cs:Array Value} (h:w.ownsRow base e size v n xs) (r:ai w b cs t) (ht:t≠e):v.ownBlock≠some b:=by
 rcases h.2 with ⟨h0,_⟩|⟨g,c,cur,h1,h2,h3,_⟩
 ·subst h0;intro q;cases q
 ·subst h1
  intro q
  have e':g=b:=by injection q
  subst e'
  unfold ai at r
  rw[h3] at r
  injection r with r
  injection r with _ r _
  exact ht r.symm
theorem bH {w:World} {base:Nat} {e:TypeId} {size:Nat} {v:Value} {n:Nat} {xs:List Value} (h:w.ownsRow base e size v n xs):∃A c,v= .slice A n c/\eK (.slice A n c)/\∀ad,A=some ad->∀j u,xs[j]? =some u->w.cell? (ad.add j)=some u:=by
 rcases h.2 with ⟨rfl,rfl⟩|⟨g,c,cur,rfl,_⟩
 ·exact ⟨none,0,rfl,eK.nil,fun _ h=>by cases h⟩
 ·exact ⟨some ⟨g,0,none⟩,c,rfl,eK.some,fun ad he=>by injection he with he;subst he;exact h.cells rfl⟩
theorem i' {P:Program} {o:Oper} {a:Act} {w:World} {K:Act->World->Prop} {Q:Exit->Act->World->Prop} (s x:Operand) (t:TypeId) (ho:o.op= .call {callee:= .builtin .append,args:= #[s,x],argTypes:= #[t,t]})
  (base:Nat) (e:TypeId) (i:TypeInfo) (z:Value) (size bytes:Nat) (ht:P.underlying t=some (.slice e)) (hi:P.info? e=some i) (hz:i.zero=some z)
  (hsize:i.size=size) (hby:i.bytes=bytes) (hzs:z.cells.size=size) (hsz:0<size)
  (v:Value) (n:Nat) (xs:List Value) (hs:a.eval s=v) (hown:w.ownsRow base e size v n xs)
  (A:Option Addr) (m c:Nat) (news:List Value) (hx:a.eval x= .slice A m c) (hnil:eK (.slice A m c)) (hl:news.length=m*size) (hnews:∀ad,A=some ad->∀j u,news[j]? =some u->w.cell? (ad.add j)=some u) (h1:∀u∈news,u.oneCell'=true)
  (h63:n+m<=maxLen) (hbytes:(n+m)*bytes<=140737488355328) (hbase:base<=w.heap.size)
  (h:∀v' w',w'.ownsRow base e size v' (n+m) (xs++news)->w.grownBy w' v.ownBlock->K (a.put o.dst v') w'):Oper.wp P o a w K Q:=by
 cases A with
 |none=>
  obtain ⟨rfl,rfl⟩:=hnil m c rfl
  have hn:news=[]:=List.eq_nil_of_length_eq_zero (by omega)
  subst hn
  have hrun:=run_append_owned_none (P:=P) (w:=w) base t o.type e i size ht hi v n xs hown
  unfold Oper.wp
  simp[execOp,ho,resolve,invoke,builtin,hs,hx,hrun,Result.andThen]
  exact h v w (by rw[List.append_nil,Nat.add_zero];exact hown) ⟨rfl,rfl,rfl,Nat.le_refl _,fun _ _ _=>rfl⟩
 |some ad=>
  obtain ⟨v',w',hr,h2,h3,_,_⟩:=run_append_own_at (P:=P) (w:=w) base t o.type e i z size bytes ht hi hz hsize hby hzs hsz v n xs hown ad m c news hl (hnews ad rfl) h1 h63 hbytes hbase
  unfold Oper.wp execOp
  simp only[ho,resolve,invoke,builtin,Sem.run_bind,Sem.run_pure,Result.andThen_ok,List.map_toArray,List.map_cons,List.map_nil,hs,hx,hr]
  exact h v' w' h2 h3
end Go.Proofs.YtckognjamlckcaaGreatDoor
