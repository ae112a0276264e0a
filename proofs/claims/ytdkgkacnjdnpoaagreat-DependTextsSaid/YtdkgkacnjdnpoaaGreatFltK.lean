/-
  flat's looker: an expression's type.
-/
import Derived.Test.YtdkgkacnjdnpoaaGreatZz
import Derived.Test.YtdkgkacnjdnpoaaGreatFltQ
import Derived.Laws.AppendOwnNone
set_option maxHeartbeats 16000000
set_option maxRecDepth 100000
namespace Go.Proofs.YtdkgkacnjdnpoaaGreat.Q
open Go.RowKit Vf Fo
attribute [local go_sem ↓] Go.wp_at_zero Go.wp_at_succ
theorem fl_wire {w:World} {B:Nat} {f:Fl} {vw vd vi vo:Value} (h:FlAt w B f vw vd vi vo) {n:Int} (hn:isW f.fm n):∃(m:Nat) (b off cw:Nat) (Ag:Option Addr) (cg:Nat),n=m∧m<f.wires.length∧vw= .slice (some ⟨b,off,none⟩) f.wires.length cw∧f.wires.length≤cw∧cw≤9223372036854775807∧b<B∧
  w.cell? ⟨b,off+m*2,none⟩=some (.int .i64 (tyOf f.fm n))∧w.cell? ⟨b,off+m*2+1,none⟩=some (.slice Ag (clockOf f.fm n).length cg)∧(clockOf f.fm n).length≤cg∧cg≤9223372036854775807∧Sl w B 2 isGd Ag (clockOf f.fm n):=by
 obtain ⟨m,rfl⟩:=Int.eq_ofNat_of_zero_le hn.1
 have hm:m<f.wires.length:=by have h2:(m:Int)<f.wires.length:=hn.2;omega
 obtain ⟨Aw,cw,e,h1,h2,s⟩:=h.wires
 obtain ⟨b,off,x,Ag,cg,rfl,hb,hx,wt,c0,c1,l1,m1,sg⟩:=s.wr (k:=m) hm
 have hw:wAt f.fm (m:Int)=x:=wAt_some hx
 unfold maxLen at h2 m1
 refine ⟨m,b,off,cw,Ag,cg,rfl,hm,e,h1,h2,hb,?_⟩
 unfold tyOf clockOf
 rw[hw]
 exact ⟨c0,c1,l1,m1,sg⟩
theorem ownK {w:World} {base n:Nat} {e:TypeId} {v:Value} {l:List Int} (h:w.ownsRow base e 1 v n (ints l)) (hi:∀x∈l,Wf x):SlV w w.heap.size 1 isInt v l:=by
 have he:ints l=(l.map (fun x=> [Value.int .i64 x])).flatten:=by
  clear h hi
  induction l with
  |nil=>rfl
  |cons a l ih=>
   simp only[ints,List.map_cons,List.flatten_cons,List.cons_append,List.nil_append] at ih⊢
   rw[ih]
 rw[he] at h
 exact (own_sl (rel:=isInt) (l:=l) h (Are.map fun x hx=>⟨rfl,hi x hx⟩) (fun cs hcs=>by obtain ⟨x,_,rfl⟩:=List.mem_map.1 hcs;rfl) (by decide)).1
theorem sl_tail {w:World} {B b off:Nat} {l:List Int} (h:Sl w B 1 isInt (some ⟨b,off,none⟩) l):Sl w B 1 isInt (some ⟨b,off+1,none⟩) l.tail:=fun hn=>by
 rw[List.length_tail] at hn
 obtain ⟨b',off',e,h1,h2⟩:=h (by omega)
 injection e with e
 injection e with e1 e2
 subst e1;subst e2
 refine ⟨b,off+1,rfl,h1,fun i x hi=>?_⟩
 rw[List.getElem?_tail] at hi
 obtain ⟨cs,h3,h4⟩:=h2 (i+1) x hi
 exact ⟨cs,fun j u hj=>by have:=h3 j u hj;rwa [show off+1+i*1+j=off+(i+1)*1+j by omega],h4⟩
def KindP (f:Fl) (e:Ex) (w:World) (r:Ending) (w':World):Prop:=r= .returned (.int .i64 (kindE f e))∧Below w.heap.size w w'
theorem fkind_any {B D:Nat} {f:Fl} {vw vd vi vo vb:Value} (hw:wiresOkL f) (e:Ex):∀(A:Option Addr) (cap:Nat) (w:World),FkAt w B D f vw vd vi vo vb→ExOk e→e.args.length≤cap→cap≤maxLen→IsExs w w.heap.size A e.args→plainE f e→
  Calls Tryz.prog 114 #[.pointer (some ⟨D,0,none⟩),exV e A cap] w (KindP f e w):=by
 refine' zq125
 induction e using Ex.ind with
 |h e ih=>
  intro A cap w h hok hcap hmax hx hp
  obtain ⟨hp1,hp2⟩:=plainE_iff.1 hp
  have HP1:=Lib.hid hp1
  have HP:=Lib.hid hp
  have HWO:=Lib.hid hw
  have HI:Hid (∀x∈e.args,∀(A:Option Addr) (cap:Nat) (W:World),FkAt W B D f vw vd vi vo vb→ExOk x→x.args.length≤cap→cap≤maxLen→IsExs W W.heap.size A x.args→Calls Tryz.prog 114 #[.pointer (some ⟨D,0,none⟩),exV x A cap] W (KindP f x W)):=fun x hx A cap W h1 h2 h3 h4 h5=>ih x hx A cap W h1 h2 h3 h4 h5 (hp2 x hx)
  have hlen:e.args.length≤3:=by
   have:=plain1_parts hp1
   unfold partsZ at this
   repeat' split at this
   all_goals omega
  have b1:Below w.heap.size w (w.alloc (.cells #[.int .i64 e.op,.string e.name,.int .i64 e.n,.slice A e.args.length cap,.int .i64 e.line,.int .i64 e.col] 63)):=bE
  have rX:=Row.new w #[.int .i64 e.op,.string e.name,.int .i64 e.n,.slice A e.args.length cap,.int .i64 e.line,.int .i64 e.col] 63
  have HFK:=Lib.hid (fun W (hW:Below w.heap.size w W)=>h.below hW)
  have HXS:=Lib.hid (fun W (hW:Below w.heap.size w W)=>(hx.below hW).more hW.size)
  unfold maxLen at hmax
  clear ih h hx hp hp1 hp2 hw hok
  go_enter Tryz.func114,Tryz.ntmps114
  go_upto_region 1 with (fail)
  generalize w.alloc (.cells #[.int .i64 e.op,.string e.name,.int .i64 e.n,.slice A e.args.length cap,.int .i64 e.line,.int .i64 e.col] 63)=w1 at*
  have hXl:=rX.lt
  have hs1:=b1.size
  have HX:Hid (∀W,Below w1.heap.size w1 W→W.cell? ⟨w.heap.size,0,none⟩=some (.int .i64 e.op)∧W.cell? ⟨w.heap.size,1,none⟩=some (.string e.name)∧W.cell? ⟨w.heap.size,2,none⟩=some (.int .i64 e.n)∧W.cell? ⟨w.heap.size,3,none⟩=some (.slice A e.args.length cap)∧W.cell? ⟨w.heap.size,4,none⟩=some (.int .i64 e.line)∧W.cell? ⟨w.heap.size,5,none⟩=some (.int .i64 e.col)):=fun W hW=>(rX.below hW hXl).six'
  obtain ⟨c0,c1,c2,c3,c4,c5⟩:=rX.six'
  clear rX
  go_wp2_with fail
  clear c0 c1 c2 c3 c4 c5
  go_loopw[5,17] (fun v5 i wr=>∃k:Nat,k≤e.args.length∧i= .int .i64 k∧Hid (wr.ownsRow w1.heap.size 3 1 v5 k (ints (kindTo f e k)))∧Hid (∀z∈kindTo f e k,z≠0)∧Hid (Below w1.heap.size w1 wr)) (fun _ i _=>e.args.length-(intOf i).toNat)
  case atStart=>exact ⟨0,Nat.zero_le _,rfl,World.ownsRow_nil _ _ _ _,(fun z hz=>by cases hz),Below.refl _ _⟩
  case round=>
   obtain ⟨k,hk,rfl,HO,HNZ,HBR⟩:=hrel
   have hszr:=HBR.out.size
   have hb:=b1.trans (HBR.out.mono hs1)
   have hbs:=hb.size
   by_cases hlt:k<e.args.length
   ·obtain ⟨b,off,x,A',cap',rfl,hbb,hxk,hxm,hok',hcap',hmax',hx',d0,d1,d2,d3,d4,d5⟩:=(HXS.out _ hb).at_ hlt
    have hk':(k:Int)<e.args.length:=by omega
    have b4:Below wr.heap.size wr (wr.alloc (.cells #[.int .i64 x.op,.string x.name,.int .i64 x.n,.slice A' x.args.length cap',.int .i64 x.line,.int .i64 x.col] 63)):=bE
    have HC:=Lib.hid (HI.out x hxm A' cap' _ (HFK.out _ (hb.trans (b4.mono hbs))) hok' hcap' hmax' ((hx'.below b4).more b4.size))
    have HTS:=Lib.hid (kindTo_succ (f:=f) hxk)
    have HKZ:=Lib.hid (fun h0=>kind_zero (f:=f) hxk h0)
    have HB4:=Lib.hid (HBR.out.trans (b4.mono hszr))
    have HO4:=Lib.hid (own_below HO.out b4)
    have hs4:=b4.size
    clear hxk hxm hok' hcap' hmax' hx' HO
    go_wp2_with fail
    (with_reducible refine HC.out.mono ?_)
    rintro r w6 ⟨rfl,hb6⟩
    have HB6:=Lib.hid (HB4.out.trans (hb6.mono HB4.out.size))
    have HO6:=Lib.hid (own_below HO4.out hb6)
    have HBW:=Lib.hid (b1.trans (HB6.out.mono hs1))
    have hs6:=HB6.out.size
    clear d0 d1 d2 d3 d4 d5 HC HO4 HB4 b4 hs4 hb6
    by_cases h0:kindE f x=0
    ·have HF:=Lib.hid (HKZ.out h0)
     have h0':(kindE f x==0)=true:=by simp[h0]
     generalize kindE f x=T at*
     clear h0
     go_wp2_with fail
     go_ret
     exact ⟨ret_int HF.out.symm,HBW.out⟩
    have h0':(kindE f x==0)=false:=by simp[h0]
    have HNZ':Hid (∀z∈kindTo f e (k+1),z≠0):=by
     show ∀z∈kindTo f e (k+1),z≠0
     rw[HTS.out]
     intro z hz
     rcases List.mem_append.1 hz with hz|hz
     ·exact HNZ.out z hz
     ·rw[List.mem_singleton.1 hz];exact h0
    have HTK:Hid (ints (kindTo f e (k+1))=ints (kindTo f e k)++ [.int .i64 (kindE f x)]):=by
     show _=_
     rw[HTS.out,ints_snoc]
    generalize kindE f x=T at*
    generalize ints (kindTo f e k)=LL at*
    have ha:Below w6.heap.size w6 (w6.alloc (.cells #[.int .i64 T] 3)):=bE
    have HOA:=Lib.hid (own_below HO6.out ha)
    have HN14:Hid (∀j u,[Value.int .i64 T][j]? =some u→(w6.alloc (.cells #[.int .i64 T] 3)).cell? ((⟨w6.heap.size,0,none⟩:Addr).add j)=some u):=cell_one w6 3 (.int .i64 T)
    clear h0 HKZ HTS
    go_wp2_with (at_builtin;refine wpList_append_own _ rfl _ _ 34 rfl w1.heap.size 3 i0 (.int .i64 0) 1 8 Tryz.underlying34 hi0 hz0 hz1 hz2 rfl (by decide) _ _ _ rfl HOA.out ⟨w6.heap.size,0,none⟩ 1 1 [.int .i64 T] rfl ?c0 ?c1 ?c2 ?c3 ?c4 ?c5 ?_)
    case c0=>rfl
    case c1=>exact HN14.out
    case c2=>intro u hu;simp at hu;subst hu;rfl
    case c3=>unfold maxLen;omega
    case c4=>omega
    case c5=>simp;omega
    intro v15 w15 hown15 hg15 _
    have HB15:Hid (Below w1.heap.size w1 w15):=below_own (HB6.out.trans (ha.mono hs6)) HOA.out hg15 (by have:=(HB6.out.trans (ha.mono hs6)).size;omega)
    have HO15:Hid (w15.ownsRow w1.heap.size 3 1 v15 (k+1) (ints (kindTo f e (k+1)))):=by
     show w15.ownsRow _ _ _ _ _ _
     rw[HTK.out];exact hown15
    clear hown15 hg15 HOA HN14 ha HO6
    go_wp2_with fail
    go_roundw
    case rel=>exact ⟨k+1,by omega,by go_num,HO15.out,HNZ'.out,HB15.out⟩
    case measure=>simp[intOf];omega
   obtain rfl:k=e.args.length:=by omega
   have HKS:Hid (kindTo f e e.args.length=e.args.map (kindE f)):=kindTo_end
   have HAL:Hid (∀z∈e.args.map (kindE f),0≤z∧z≤2):=fun z hz=>by
    obtain ⟨x,hx,rfl⟩:=List.mem_map.1 hz
    exact kindE_le HWO.out x ((plainE_iff.1 HP.out).2 x hx)
   have hO5:=HO.out
   rw[HKS.out] at hO5
   have hSL:=ownK hO5 (fun z hz=>wf_of (by have:=HAL.out z hz;omega))
   obtain ⟨A5,cp5,hv5,l5,m5,_⟩:=id hSL
   subst hv5
   have HSL:=Lib.hid hSL
   clear hSL hO5
   have HNN:Hid (0∉e.args.map (kindE f)):=fun g=>by rw[←HKS.out] at g;exact HNZ.out 0 g rfl
   have HKE:Hid (kindE f e=kind1 f e (e.args.map (kindE f))):=kindE_eq f e
   have HLN:Hid ((e.args.map (kindE f)).length=e.args.length):=List.length_map ..
   clear HKS HNZ HO HI HXS hlt hk
   generalize e.args.map (kindE f)=ks at*
   obtain ⟨c0,c1,c2,c3,c4,c5⟩:=HX.out _ HBR.out
   have HNM:=Lib.hid (fnamed_any e.op)
   have HC2:Hid (∀W,Below wr.heap.size wr W→W.cell? ⟨w.heap.size,0,none⟩=some (.int .i64 e.op)∧W.cell? ⟨w.heap.size,2,none⟩=some (.int .i64 e.n)):=fun W hW=>⟨cell_kept c0 hW,cell_kept c2 hW⟩
   go_upto_region 10 with (fail)
   go_cut[51] (fun v W=>v= .bool (namedB e.op && (e.op !=3) && (tyOf f.fm e.n !=2))∧Below wr.heap.size wr W)
   case first=>
    by_cases hnb:namedB e.op=true
    rotate_left 1
    ·have hnb':namedB e.op=false:=by simpa using hnb
     rw[hnb'] at HNM
     have HNB:=Lib.hid hnb'
     clear hnb hnb'
     refine wp_region_held_drew (S:=fun W=>W.cell? ⟨w.heap.size,0,none⟩=some (.int .i64 e.op)∧W.cell? ⟨w.heap.size,2,none⟩=some (.int .i64 e.n)) (by kernel_rfl) ?_ (fun hHeld=>?_)
     ·(try dsimp only);(first|(with_reducible exact HC2.out _ bE))
     refine tk 0 (some 31) rfl ?_
     refine tk 1 (some 32) rfl ?_
     refine rd1 2 (some 33) rfl (fun KK hKK=>?_)
     go_simp
     go_at_call 155;refine Calls.mono (HNM.out _) ?_;rintro r w8 ⟨rfl,rfl⟩
     (try go_wp2_with fail)
     refine hKK.out _ _ ?_ (fun hHeld=>?_)
     ·(try dsimp only);(first|(with_reducible exact HC2.out _ bE))
     clear hKK KK
     try simp only[Act.put,List.setIfInBounds_toArray,List.set_cons_zero,List.set_cons_succ]
     refine tk 3 (some 34) rfl ?_
     refine sk 4 (some 35) rfl ?_
     refine sk 5 (some 36) rfl ?_
     refine sk 6 (some 37) rfl ?_
     refine tk 7 (some 38) rfl ?_
     refine tk 8 (some 39) rfl ?_
     refine sk 9 (some 40) rfl ?_
     refine sk 10 (some 41) rfl ?_
     refine sk 11 (some 42) rfl ?_
     refine sk 12 (some 43) rfl ?_
     refine sk 13 (some 44) rfl ?_
     refine sk 14 (some 45) rfl ?_
     refine sk 15 (some 46) rfl ?_
     refine sk 16 (some 47) rfl ?_
     refine sk 17 (some 48) rfl ?_
     refine sk 18 (some 49) rfl ?_
     refine sk 19 (some 50) rfl ?_
     refine tk 20 (some 51) rfl ?_
     refine wpAnyH_done (by kernel_rfl) ?_ _
     go_wp2_with fail
     go_meet
     exact ⟨by rw[HNB.out];rfl,bE⟩
    obtain ⟨m,b6,off6,cw,Ag,cg,hem,hm,hvw,hcw1,hcw2,hb6,y0,y1,_,_,_⟩:=fl_wire (HFK.out _ hb).fl (plain1_w HP1.out hnb)
    subst hvw
    rw[hnb] at HNM
    have HNB:=Lib.hid hnb
    have hm':(m:Int)<f.wires.length:=by omega
    have q0:wr.cell? ⟨D,0,none⟩=some (.slice (some ⟨b6,off6,none⟩) f.wires.length cw):=(HFK.out _ hb).row.cell 0
    by_cases h3:e.op=3
    ·have h3':(e.op !=3)=false:=by simp[h3]
     have H3:=Lib.hid h3'
     clear hnb h3
     refine wp_region_held_drew (S:=fun W=>W.cell? ⟨w.heap.size,0,none⟩=some (.int .i64 e.op)∧W.cell? ⟨w.heap.size,2,none⟩=some (.int .i64 e.n)) (by kernel_rfl) ?_ (fun hHeld=>?_)
     ·(try dsimp only);(first|(with_reducible exact HC2.out _ bE))
     refine tk 0 (some 31) rfl ?_
     refine tk 1 (some 32) rfl ?_
     refine rd1 2 (some 33) rfl (fun KK hKK=>?_)
     go_simp
     go_at_call 155;refine Calls.mono (HNM.out _) ?_;rintro r w8 ⟨rfl,rfl⟩
     (try go_wp2_with fail)
     refine hKK.out _ _ ?_ (fun hHeld=>?_)
     ·(try dsimp only);(first|(with_reducible exact HC2.out _ bE))
     clear hKK KK
     try simp only[Act.put,List.setIfInBounds_toArray,List.set_cons_zero,List.set_cons_succ]
     refine tk 3 (some 34) rfl ?_
     refine tk 4 (some 35) rfl ?_
     refine tk 5 (some 36) rfl ?_
     refine tk 6 (some 37) rfl ?_
     refine tk 7 (some 38) rfl ?_
     refine tk 8 (some 39) rfl ?_
     refine sk 9 (some 40) rfl ?_
     refine sk 10 (some 41) rfl ?_
     refine sk 11 (some 42) rfl ?_
     refine sk 12 (some 43) rfl ?_
     refine sk 13 (some 44) rfl ?_
     refine sk 14 (some 45) rfl ?_
     refine sk 15 (some 46) rfl ?_
     refine sk 16 (some 47) rfl ?_
     refine sk 17 (some 48) rfl ?_
     refine sk 18 (some 49) rfl ?_
     refine sk 19 (some 50) rfl ?_
     refine tk 20 (some 51) rfl ?_
     refine wpAnyH_done (by kernel_rfl) ?_ _
     go_wp2_with fail
     go_meet
     exact ⟨by rw[HNB.out,H3.out];rfl,bE⟩
    have h3':(e.op !=3)=true:=by simp[h3]
    have H3:=Lib.hid h3'
    have HEM:=Lib.hid hem
    rw[hem] at HC2 c2
    have HC5:Hid (∀W,Below wr.heap.size wr W→(W.cell? ⟨w.heap.size,0,none⟩=some (.int .i64 e.op)∧W.cell? ⟨w.heap.size,2,none⟩=some (.int .i64 (m:Int)))∧W.cell? ⟨D,0,none⟩=some (.slice (some ⟨b6,off6,none⟩) f.wires.length cw)∧W.cell? ⟨b6,off6+m*2,none⟩=some (.int .i64 (tyOf f.fm (m:Int)))):=fun W hW=>⟨HC2.out W hW,cell_kept q0 hW,by rw[←hem];exact cell_kept y0 hW⟩
    have HT:Hid (tyOf f.fm e.n=tyOf f.fm (m:Int)):=by show _=_;rw[hem]
    generalize tyOf f.fm (m:Int)=T at*
    clear hnb h3 y0 y1
    refine wp_region_held_drew (S:=fun W=>(W.cell? ⟨w.heap.size,0,none⟩=some (.int .i64 e.op)∧W.cell? ⟨w.heap.size,2,none⟩=some (.int .i64 (m:Int)))∧W.cell? ⟨D,0,none⟩=some (.slice (some ⟨b6,off6,none⟩) f.wires.length cw)∧W.cell? ⟨b6,off6+m*2,none⟩=some (.int .i64 T)) (by kernel_rfl) ?_ (fun hHeld=>?_)
    ·(try dsimp only);(first|(with_reducible exact HC5.out _ bE))
    refine tk 0 (some 31) rfl ?_
    refine tk 1 (some 32) rfl ?_
    refine rd1 2 (some 33) rfl (fun KK hKK=>?_)
    go_simp
    go_at_call 155;refine Calls.mono (HNM.out _) ?_;rintro r w8 ⟨rfl,rfl⟩
    (try go_wp2_with fail)
    refine hKK.out _ _ ?_ (fun hHeld=>?_)
    ·(try dsimp only);(first|(with_reducible exact HC5.out _ bE))
    clear hKK KK
    try simp only[Act.put,List.setIfInBounds_toArray,List.set_cons_zero,List.set_cons_succ]
    refine tk 3 (some 34) rfl ?_
    refine tk 4 (some 35) rfl ?_
    refine tk 5 (some 36) rfl ?_
    refine tk 6 (some 37) rfl ?_
    refine tk 7 (some 38) rfl ?_
    refine tk 8 (some 39) rfl ?_
    refine tk 9 (some 40) rfl ?_
    refine tk 10 (some 41) rfl ?_
    refine tk 11 (some 42) rfl ?_
    refine tk 12 (some 43) rfl ?_
    refine tk 13 (some 44) rfl ?_
    refine tk 14 (some 45) rfl ?_
    refine tk 15 (some 46) rfl ?_
    refine tk 16 (some 47) rfl ?_
    refine tk 17 (some 48) rfl ?_
    refine tk 18 (some 49) rfl ?_
    refine tk 19 (some 50) rfl ?_
    refine tk 20 (some 51) rfl ?_
    refine wpAnyH_done (by kernel_rfl) ?_ _
    go_wp2_with fail
    go_meet
    exact ⟨by rw[HNB.out,H3.out,HT.out];rfl,bE⟩
   case rest=>
    obtain ⟨hv51,hbc⟩:=hcut
    generalize hBQ:(namedB e.op && (e.op !=3) && (tyOf f.fm e.n !=2))=BQ at hv51
    subst hv51
    have HBQ:=Lib.hid hBQ
    have hb2:=hb.trans (hbc.mono hbs)
    have HB2:=Lib.hid hb2
    have hbr2:=HBR.out.trans (hbc.mono hszr)
    have HSC:=Lib.hid ((HSL.out.below hbc).more hbc.size)
    clear c0 c1 c2 c3 c4 c5 hBQ HSL
    obtain ⟨c0,c1,c2,c3,c4,c5⟩:=HX.out _ hbr2
    cases BQ
    rotate_left 1
    ·have HF:Hid (kindE f e=0):=by
      show _=_
      have h2:=HBQ.out
      simp only[Bool.and_eq_true,bne_iff_ne] at h2
      rw[HKE.out,kind1,if_neg HNN.out,if_pos ⟨h2.1.1,h2.1.2,h2.2⟩]
     go_wp2_with fail
     go_ret
     exact ⟨ret_int HF.out.symm,HB2.out⟩
    have HK1:Hid (kindE f e=if e.op=1 then 1 else if e.op=2 then 2 else if e.op=3 then tyOf f.fm e.n else if e.op=27 then (if getI ks 0≠2 then 0 else kindR e.op ks.tail) else kindR e.op ks):=by
     show _=_
     have h2:=HBQ.out
     rw[HKE.out,kind1,if_neg HNN.out,if_neg (fun g=>by
      have:(namedB e.op && (e.op !=3) && (tyOf f.fm e.n !=2))=true:=by simp only[Bool.and_eq_true,bne_iff_ne];exact ⟨⟨g.1,g.2.1⟩,g.2.2⟩
      rw[this] at h2
      cases h2)]
    clear HKE HNN HBQ
    by_cases o1:e.op=1
    ·have o1':(e.op==1)=true:=by simp[o1]
     have HF:Hid (kindE f e=1):=HK1.out.trans (by rw[if_pos o1])
     clear o1
     go_wp2_with fail
     go_ret
     exact ⟨ret_int HF.out.symm,HB2.out⟩
    have o1':(e.op==1)=false:=by simp[o1]
    by_cases o2:e.op=2
    ·have o2':(e.op==2)=true:=by simp[o2]
     have HF:Hid (kindE f e=2):=HK1.out.trans (by rw[if_neg o1,if_pos o2])
     clear o1 o2
     go_wp2_with fail
     go_ret
     exact ⟨ret_int HF.out.symm,HB2.out⟩
    have o2':(e.op==2)=false:=by simp[o2]
    by_cases o3:e.op=3
    ·have o3':(e.op==3)=true:=by simp[o3]
     have HF:Hid (kindE f e=tyOf f.fm e.n):=HK1.out.trans (by rw[if_neg o1,if_neg o2,if_pos o3])
     obtain ⟨m,b6,off6,cw,Ag,cg,hem,hm,hvw,hcw1,hcw2,hb6,y0,y1,_,_,_⟩:=fl_wire (HFK.out _ hb2).fl (plain1_w HP1.out (named_iff.2 (.inl o3)))
     subst hvw
     have hm':(m:Int)<f.wires.length:=by omega
     have q0:wc.cell? ⟨D,0,none⟩=some (.slice (some ⟨b6,off6,none⟩) f.wires.length cw):=(HFK.out _ hb2).row.cell 0
     rw[hem] at c2
     have HEM:=Lib.hid hem
     have HC5:Hid (∀W,Below wc.heap.size wc W→W.cell? ⟨w.heap.size,2,none⟩=some (.int .i64 (m:Int))∧W.cell? ⟨D,0,none⟩=some (.slice (some ⟨b6,off6,none⟩) f.wires.length cw)∧W.cell? ⟨b6,off6+m*2,none⟩=some (.int .i64 (tyOf f.fm e.n))):=fun W hW=>⟨cell_kept c2 hW,cell_kept q0 hW,cell_kept y0 hW⟩
     generalize tyOf f.fm e.n=T at*
     clear o1 o2 o3 y0 y1 hem
     go_upto_region 18 with (fail)
     refine wp_region_held_drew (S:=fun W=>W.cell? ⟨w.heap.size,2,none⟩=some (.int .i64 (m:Int))∧W.cell? ⟨D,0,none⟩=some (.slice (some ⟨b6,off6,none⟩) f.wires.length cw)∧W.cell? ⟨b6,off6+m*2,none⟩=some (.int .i64 T)) (by kernel_rfl) ?_ (fun hHeld=>?_)
     ·(try dsimp only);(first|(with_reducible exact HC5.out _ bE))
     refine tk 0 (some 60) rfl ?_
     refine tk 1 (some 61) rfl ?_
     refine tk 2 (some 62) rfl ?_
     refine tk 3 (some 63) rfl ?_
     refine tk 4 (some 64) rfl ?_
     refine tk 5 (some 65) rfl ?_
     refine tk 6 (some 66) rfl ?_
     refine tk 7 (some 67) rfl ?_
     refine tk 8 (some 68) rfl ?_
     refine tk 9 (some 69) rfl ?_
     refine tk 10 (some 4) rfl ?_
     refine wpAnyH_done (by kernel_rfl) ?_ _
     go_wp2_with fail
     go_ret
     exact ⟨ret_int HF.out.symm,HB2.out.trans (Below.mono (B:=wc.heap.size) bE HB2.out.size)⟩
    have o3':(e.op==3)=false:=by simp[o3]
    have HSG:=Lib.hid (fun W=>Ar.sign_any e.op W)
    have HOPS:Hid (Ar.signB e.op=false→0<ks.length):=fun g=>by
     rw[HLN.out]
     have h1:=plain1_parts HP1.out
     have h2:=plain1_ops HP1.out
     have h3:¬(5≤e.op∧e.op≤20):=fun q=>by unfold Ar.signB at g;simp at g;omega
     unfold partsZ at h1
     repeat' split at h1
     all_goals omega
    have H27L:Hid (e.op=27→ks.length=3):=fun g=>by
     rw[HLN.out]
     have h1:=plain1_parts HP1.out
     rw[g] at h1
     have:partsZ 27=3:=by decide
     omega
    have HAL2:=Lib.hid HAL.out
    by_cases o27:e.op=27
    rotate_left 1
    ·have o27':(e.op==27)=false:=by simp[o27]
     have HF:Hid (kindE f e=kindR e.op ks):=HK1.out.trans (by rw[if_neg o1,if_neg o2,if_neg o3,if_neg o27])
     have hmv:cp5≤9223372036854775807:=by unfold maxLen at m5;omega
     obtain ⟨A',c',hA',_,_,sl⟩:=HSC.out
     injection hA' with hA1 hA2 hA3
     subst hA1;subst hA3
     have HSV:=Lib.hid sl
     have HPO:=HOPS
     clear o1 o2 o3 o27 HK1 H27L sl HSC HOPS hA2
     generalize ks=l at*
     go_wp2_with fail
     (with_reducible refine (HSG.out _).mono ?_)
     rintro r _ ⟨rfl,rfl⟩
     go_wp2_with fail
     go_loopw[87] (fun i wq=>∃j:Nat,j≤l.length∧i= .int .i64 j∧Hid (∀i,i<j→∀z,l[i]? =some z→(z==getI l 0 && (!(Ar.signB e.op)||Ar.signIn e.op==0||z==Ar.signIn e.op))=true)∧wc=wq) (fun i _=>l.length-(intOf i).toNat)
     case atStart=>exact ⟨0,Nat.zero_le _,rfl,fun j hj=>absurd hj (by omega),rfl⟩
     case round=>
      obtain ⟨j,hj,rfl,HJ,rfl⟩:=hrel
      by_cases hlt:j<l.length
      ·obtain ⟨b7,off7,z,rfl,hb7,hz,wz,g0⟩:=HSV.out.int hlt
       obtain ⟨b8,off8,z0,he8,_,hz0,_,g1⟩:=HSV.out.int (k:=0) (by omega)
       injection he8 with he8
       injection he8 with he9 he10
       subst he9;subst he10
       have hj':(j:Int)<l.length:=by omega
       have hl0':(0:Int)<l.length:=by omega
       have hg0:getI l 0=z0:=by simp[getI,List.getD_eq_getElem?_getD,hz0]
       have HZ:=Lib.hid hz
       have HNOK:Hid (¬(z==z0 && (!(Ar.signB e.op)||Ar.signIn e.op==0||z==Ar.signIn e.op))=true→kindE f e=0):=fun g=>by
        rw[HF.out,kindR,if_neg]
        intro q
        rw[List.all_eq_true] at q
        have:=q z (List.mem_of_getElem? HZ.out)
        rw[hg0] at this
        exact g this
       have HOKK:Hid ((z==z0 && (!(Ar.signB e.op)||Ar.signIn e.op==0||z==Ar.signIn e.op))=true→∀i,i<j+1→∀z,l[i]? =some z→(z==getI l 0 && (!(Ar.signB e.op)||Ar.signIn e.op==0||z==Ar.signIn e.op))=true):=fun g=>upto_succ HJ.out (fun z' hz'=>by rw[HZ.out] at hz';injection hz' with hz';rw[←hz',hg0];exact g)
       clear hz wz hz0 hg0
       rw[Nat.add_zero] at g1
       generalize Ar.signIn e.op=SI at*
       generalize Ar.signB e.op=SB at*
       by_cases q1:z=z0
       rotate_left 1
       ·have q1':(z !=z0)=true:=by simp[q1]
        have HF0:=Lib.hid (HNOK.out (by simp[q1]))
        clear q1
        go_wp2_with fail
        go_ret
        exact ⟨ret_int HF0.out.symm,HB2.out⟩
       have q1':(z !=z0)=false:=by simp[q1]
       cases SB
       ·have HJ':=Lib.hid (HOKK.out (by simp[q1]))
        clear q1
        go_wp2_with fail
        go_roundw
        case rel=>exact ⟨j+1,by omega,by go_num,HJ'.out,trivial⟩
        case measure=>simp[intOf];omega
       by_cases q2:SI=0
       ·have q2':(SI !=0)=false:=by simp[q2]
        have HJ':=Lib.hid (HOKK.out (by simp[q1,q2]))
        clear q1 q2
        go_wp2_with fail
        go_roundw
        case rel=>exact ⟨j+1,by omega,by go_num,HJ'.out,trivial⟩
        case measure=>simp[intOf];omega
       have q2':(SI !=0)=true:=by simp[q2]
       by_cases q3:z=SI
       ·have q3':(z !=SI)=false:=by simp[q3]
        have HJ':=Lib.hid (HOKK.out (by rw[q1] at q3;simp[q1,q3]))
        clear q1 q2 q3
        go_wp2_with fail
        go_roundw
        case rel=>exact ⟨j+1,by omega,by go_num,HJ'.out,trivial⟩
        case measure=>simp[intOf];omega
       ·have q3':(z !=SI)=true:=by simp[q3]
        have HF0:=Lib.hid (HNOK.out (by simp[q2,q3]))
        clear q1 q2 q3
        go_wp2_with fail
        go_ret
        exact ⟨ret_int HF0.out.symm,HB2.out⟩
      obtain rfl:j=l.length:=by omega
      have HFA:Hid (kindE f e=if Ar.signB e.op=true then Ar.signOut e.op else getI l 0):=by
       show _=_
       rw[HF.out,kindR,if_pos]
       rw[List.all_eq_true]
       intro z hz
       obtain ⟨i,hi⟩:=List.getElem?_of_mem hz
       exact HJ.out i (List.getElem?_eq_some_iff.1 hi).1 z hi
      clear HJ hlt hj
      by_cases qs:Ar.signB e.op=true
      ·have HF0:=Lib.hid (HFA.out.trans (if_pos qs))
       rw[qs]
       clear qs
       go_wp2_with fail
       go_ret
       exact ⟨ret_int HF0.out.symm,HB2.out⟩
      have qs':Ar.signB e.op=false:=by simpa using qs
      have hpos:=HPO.out qs'
      obtain ⟨b8,off8,z0,rfl,_,hz0,_,g1⟩:=HSV.out.int (k:=0) hpos
      have hl0':(0:Int)<l.length:=by omega
      rw[Nat.add_zero] at g1
      have HF0:Hid (kindE f e=z0):=HFA.out.trans (by rw[if_neg qs];simp[getI,List.getD_eq_getElem?_getD,hz0])
      rw[qs']
      clear qs qs' hz0
      go_wp2_with fail
      go_ret
      exact ⟨ret_int HF0.out.symm,HB2.out⟩
    have o27':(e.op==27)=true:=by simp[o27]
    have hl3:=H27L.out o27
    have hmv:cp5≤9223372036854775807:=by unfold maxLen at m5;omega
    obtain ⟨A',c',hA',lA,mA,sl⟩:=HSC.out
    injection hA' with hA1 hA2 hA3
    subst hA1;subst hA3
    obtain ⟨b5,off5,k0,rfl,hb5,hx0,wx0,d0⟩:=sl.int (k:=0) (by omega)
    rw[Nat.add_zero] at d0
    have hg0:getI ks 0=k0:=by simp[getI,List.getD_eq_getElem?_getD,hx0]
    have HK2:=Lib.hid (HK1.out.trans (by rw[if_neg o1,if_neg o2,if_neg o3,if_pos o27,hg0]))
    have hl0:(0:Int)<ks.length:=by omega
    have hl1:(1:Int)≤ks.length:=by omega
    have hl1':(1:Int)≤cp5:=by omega
    have hl1n:1≤ks.length:=by omega
    have HL3:=Lib.hid hl3
    clear hl3
    clear o1 o2 o3 o27 HK1 hx0 hg0 hA2 HSC
    by_cases hk2:k0=2
    rotate_left 1
    ·have hk2':(k0 !=2)=true:=by simp[hk2]
     have HF0:=Lib.hid (HK2.out.trans (if_pos hk2))
     clear hk2
     go_wp2_with fail
     go_ret
     exact ⟨ret_int HF0.out.symm,HB2.out⟩
    have hk2':(k0 !=2)=false:=by simp[hk2]
    have HF:Hid (kindE f e=kindR e.op ks.tail):=HK2.out.trans (if_neg (fun g=>g hk2))
    clear hk2 HK2
    have HPO:Hid (Ar.signB e.op=false→0<ks.tail.length):=fun _=>by rw[List.length_tail];have:=HL3.out;omega
    have HSV:=Lib.hid (sl_tail sl)
    go_upto_region 23 with (fail)
    rw[if_neg (show ¬cp5=1 by have:=HL3.out;omega),show ks.length-1=ks.tail.length by simp]
    have hmv9:cp5-1≤9223372036854775807:=by omega
    have hle9:ks.tail.length≤cp5-1:=by simp;omega
    clear sl HOPS H27L hl0 hl1 hl1' hl1n d0 lA mA l5 m5
    generalize cp5-1=c9 at*
    generalize ks.tail=l at*
    go_wp2_with fail
    (with_reducible refine (HSG.out _).mono ?_)
    rintro r _ ⟨rfl,rfl⟩
    go_wp2_with fail
    go_loopw[87] (fun i wq=>∃j:Nat,j≤l.length∧i= .int .i64 j∧Hid (∀i,i<j→∀z,l[i]? =some z→(z==getI l 0 && (!(Ar.signB e.op)||Ar.signIn e.op==0||z==Ar.signIn e.op))=true)∧wc=wq) (fun i _=>l.length-(intOf i).toNat)
    case atStart=>exact ⟨0,Nat.zero_le _,rfl,fun j hj=>absurd hj (by omega),rfl⟩
    case round=>
     obtain ⟨j,hj,rfl,HJ,rfl⟩:=hrel
     by_cases hlt:j<l.length
     ·obtain ⟨b7,off7,z,he7,hb7,hz,wz,g0⟩:=HSV.out.int hlt
      injection he7 with he7
      injection he7 with he71 he72
      subst he71;subst he72
      obtain ⟨b8,off8,z0,he8,_,hz0,_,g1⟩:=HSV.out.int (k:=0) (by omega)
      injection he8 with he8
      injection he8 with he9 he10
      subst he9;subst he10
      have hj':(j:Int)<l.length:=by omega
      have hl0':(0:Int)<l.length:=by omega
      have hg0:getI l 0=z0:=by simp[getI,List.getD_eq_getElem?_getD,hz0]
      have HZ:=Lib.hid hz
      have HNOK:Hid (¬(z==z0 && (!(Ar.signB e.op)||Ar.signIn e.op==0||z==Ar.signIn e.op))=true→kindE f e=0):=fun g=>by
       rw[HF.out,kindR,if_neg]
       intro q
       rw[List.all_eq_true] at q
       have:=q z (List.mem_of_getElem? HZ.out)
       rw[hg0] at this
       exact g this
      have HOKK:Hid ((z==z0 && (!(Ar.signB e.op)||Ar.signIn e.op==0||z==Ar.signIn e.op))=true→∀i,i<j+1→∀z,l[i]? =some z→(z==getI l 0 && (!(Ar.signB e.op)||Ar.signIn e.op==0||z==Ar.signIn e.op))=true):=fun g=>upto_succ HJ.out (fun z' hz'=>by rw[HZ.out] at hz';injection hz' with hz';rw[←hz',hg0];exact g)
      clear hz wz hz0 hg0
      rw[Nat.add_zero] at g1
      generalize Ar.signIn e.op=SI at*
      generalize Ar.signB e.op=SB at*
      by_cases q1:z=z0
      rotate_left 1
      ·have q1':(z !=z0)=true:=by simp[q1]
       have HF0:=Lib.hid (HNOK.out (by simp[q1]))
       clear q1
       go_wp2_with fail
       go_ret
       exact ⟨ret_int HF0.out.symm,HB2.out⟩
      have q1':(z !=z0)=false:=by simp[q1]
      cases SB
      ·have HJ':=Lib.hid (HOKK.out (by simp[q1]))
       clear q1
       go_wp2_with fail
       go_roundw
       case rel=>exact ⟨j+1,by omega,by go_num,HJ'.out,trivial⟩
       case measure=>simp[intOf];omega
      by_cases q2:SI=0
      ·have q2':(SI !=0)=false:=by simp[q2]
       have HJ':=Lib.hid (HOKK.out (by simp[q1,q2]))
       clear q1 q2
       go_wp2_with fail
       go_roundw
       case rel=>exact ⟨j+1,by omega,by go_num,HJ'.out,trivial⟩
       case measure=>simp[intOf];omega
      have q2':(SI !=0)=true:=by simp[q2]
      by_cases q3:z=SI
      ·have q3':(z !=SI)=false:=by simp[q3]
       have HJ':=Lib.hid (HOKK.out (by rw[q1] at q3;simp[q1,q3]))
       clear q1 q2 q3
       go_wp2_with fail
       go_roundw
       case rel=>exact ⟨j+1,by omega,by go_num,HJ'.out,trivial⟩
       case measure=>simp[intOf];omega
      ·have q3':(z !=SI)=true:=by simp[q3]
       have HF0:=Lib.hid (HNOK.out (by simp[q2,q3]))
       clear q1 q2 q3
       go_wp2_with fail
       go_ret
       exact ⟨ret_int HF0.out.symm,HB2.out⟩
     obtain rfl:j=l.length:=by omega
     have HFA:Hid (kindE f e=if Ar.signB e.op=true then Ar.signOut e.op else getI l 0):=by
      show _=_
      rw[HF.out,kindR,if_pos]
      rw[List.all_eq_true]
      intro z hz
      obtain ⟨i,hi⟩:=List.getElem?_of_mem hz
      exact HJ.out i (List.getElem?_eq_some_iff.1 hi).1 z hi
     clear HJ hlt hj
     by_cases qs:Ar.signB e.op=true
     ·have HF0:=Lib.hid (HFA.out.trans (if_pos qs))
      rw[qs]
      clear qs
      go_wp2_with fail
      go_ret
      exact ⟨ret_int HF0.out.symm,HB2.out⟩
     have qs':Ar.signB e.op=false:=by simpa using qs
     have hpos:=HPO.out qs'
     obtain ⟨b8,off8,z0,he8,_,hz0,_,g1⟩:=HSV.out.int (k:=0) hpos
     injection he8 with he8
     injection he8 with he81 he82
     subst he81;subst he82
     have hl0':(0:Int)<l.length:=by omega
     rw[Nat.add_zero] at g1
     have HF0:Hid (kindE f e=z0):=HFA.out.trans (by rw[if_neg qs];simp[getI,List.getD_eq_getElem?_getD,hz0])
     rw[qs']
     clear qs qs' hz0
     go_wp2_with fail
     go_ret
     exact ⟨ret_int HF0.out.symm,HB2.out⟩
end Go.Proofs.YtdkgkacnjdnpoaaGreat.Q
