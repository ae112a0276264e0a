/-
  norm's maker: any expression that is plain. The document's words on flats: named, By, ports. The document's words on flats: Late. The document's words on flats: plain. The document's words on flats: Kind as plain data.
-/
import Derived.Test.YtckognjamlckcaaGreatDoorNoZ
import Derived.Test.YtckognjamlckcaaGreatDoorR24A
set_option maxHeartbeats 8000000
set_option maxRecDepth 100000
namespace Go.Proofs.YtckognjamlckcaaGreatDoor
open Go.RowKit Vf Fo
theorem Bv {f:Fl} {K:Kw} {w0:World} {D:Nat} {vi vo:Value} (law:fx K w0) (e:Ex):aO f e->jQ f K w0 D vi vo e:=by
 induction e using Ex.ind with
 |h e ih=>
  intro hpl A cap W q s v c h hc hp hok hcap hmax hx
  obtain ⟨hp1,hp2⟩:=bq.1 hpl
  have hP:fp f K w0 D vi vo e A cap:=rf (fun x hx=>ih x hx (hp2 x hx)) hmax hx
  have ho:=dq hp1
  cases hs:s.spent with
  |true=>exact ix hs h v c
  |false=>
   by_cases h3:e.op=3
   ·exact ph hs h h3 v c
   by_cases h1:e.op=1
   ·exact nh hs h h1 v c hc hp hok
   by_cases h2:e.op=2
   ·exact uy hs h h2 v c hc hp hok
   by_cases h21:e.op=21
   ·exact we law hs h hpl h21 v c hc hp hP
   by_cases h22:e.op=22
   ·exact oX law hs h hpl h22 v c hc hp hP
   by_cases h23:e.op=23
   ·exact sX law hs h hpl h23 v c hc hp hP
   by_cases h24:e.op=24
   ·exact rA law hs h hpl h24 v c hc hp hP
   by_cases h25:e.op=25
   ·exact qg law hs h hpl h25 v c hc hp hP
   by_cases h26:e.op=26
   ·exact sK law hs h hpl h26 v c hc hp hok.n hP
   by_cases h27:e.op=27
   ·exact AE law hs h hpl h27 v c hc hp hP
   exact t' hs h hpl (by omega) v c hc hp hok.op hP
attribute [local go_sem ↓] Go.wp_at_zero Go.wp_at_succ
theorem jI (op:Int) (w:World):Calls Tryz.prog 88 #[.int .i64 op] w fun e w'=>e= .returned (.bool (aJ op))/\w=w':=by
 go_enter Tryz.func88,Tryz.ntmps88
 go_wp2
 all_goals
  go_ret
  refine ⟨aj ?_,rfl⟩
  unfold aJ
  rw[Bool.eq_iff_iff]
  simp only[Bool.or_eq_true,beq_iff_eq,decide_eq_true_eq,true_iff]
  omega
theorem iu {f:Fl} {k:Nat} {d:Int × Ex} (h:f.defs[k]? =some d):f.fm.acts[k]? =some ⟨0,d.1,0,0,0,0⟩:=by
 show (f.defs.map _)[k]? =_
 rw[List.getElem?_map,h]
 rfl
theorem gq {f:Fl}:f.fm.acts.length=f.defs.length:=List.length_map _
theorem mG {w:World} {f:Fl} {vw vd vi vo:Value} (h:cS w w.heap.size f vw vd vi vo) (n:Int):
  Calls Tryz.prog 43 #[eZ vw vd vi vo,.int .i64 n] w fun e w'=>e= .returned (.int .i64 (bO n 0 f.fm.acts))/\Below w.heap.size w w':=by
 have b1:Below w.heap.size w (w.alloc (.cells #[vw,vd,vi,vo] 33)):=bE
 have HFL:=zH (h.below b1)
 have rF:=ai.new w #[vw,vd,vi,vo] 33
 obtain ⟨Ad,cd,rfl,ld,md,sd⟩:=h.defs
 refine' zq184
 clear h sd
 go_enter Tryz.func43,Tryz.ntmps43
 go_upto_region 1 with (fail)
 generalize w.alloc (.cells #[vw,.slice Ad f.defs.length cd,vi,vo] 33)=w1 at*
 have f1:=rF.cell 1
 simp only[List.getElem?_toArray,List.getElem?_cons_succ,List.getElem?_cons_zero] at f1
 clear rF
 have HSD:Hid (∀k,k<f.defs.length->∃b off d,Ad=some ⟨b,off,none⟩/\b<w.heap.size/\f.defs[k]? =some d/\Wf d.1/\w1.cell? ⟨b,off+k*7,none⟩=some (.int .i64 d.1)):=fun k hk=>by
  obtain ⟨A',c',e,_,_,sd⟩:=HFL.o.defs
  injection e with e1 e2 e3
  subst e1
  obtain ⟨b,off,d,Ag,cg,h1,h2,h3,h4,_,_,_,_,h5,_⟩:=sd.df hk
  exact ⟨b,off,d,h1,h2,h3,h4,h5⟩
 clear HFL
 go_wp2_with fail
 go_loopw[5] (fun i wr=>∃(k:Nat),k<=f.defs.length/\i= .int .i64 k/\Hid (bO n 0 f.fm.acts=bO n k (f.fm.acts.drop k))/\w1=wr) (fun i _=>f.defs.length-(intOf i).toNat)
 case atStart=>exact ⟨0,Nat.zero_le _,rfl,(by rw[List.drop_zero];exact rfl),rfl⟩
 case round=>
  obtain ⟨k,hk,rfl,HR,rfl⟩:=hrel
  by_cases hlt:k<f.defs.length
  ·obtain ⟨b,off,⟨xd,xe⟩,hAd,hbb,hx,wx,d0⟩:=HSD.o k hlt
   subst hAd
   dsimp only at d0 wx
   have HE:=zH (show bO n k (f.fm.acts.drop k)=_ by rw[km (iu hx),bO])
   clear hx
   by_cases e1:xd=n
   ·have e1':(xd==n)=true:=by simp[e1]
    have HF:Hid (bO n 0 f.fm.acts=k):=by
     show _=_
     rw[HR.o,HE.o,if_pos e1]
    clear e1
    refine' zq245
   ·have e1':(xd==n)=false:=by simp[e1]
    have HR':Hid (bO n 0 f.fm.acts=bO n (k+1) (f.fm.acts.drop (k+1))):=by
     show _=_
     rw[HR.o,HE.o,if_neg e1]
    clear e1
    go_wp2_with fail
    go_roundw
    case rel=>exact ⟨k+1,by omega,by go_num,HR'.o,trivial⟩
    case measure=>first|(simp[intOf];omega)|simp[intOf]
  ·obtain rfl:k=f.defs.length:=by omega
   have HF:Hid (bO n 0 f.fm.acts= -1):=by show _=_;rw[HR.o,<-gq,List.drop_length,bO]
   refine' zq245
theorem mj {w:World} {f:Fl} {vw vd vi vo:Value} (h:cS w w.heap.size f vw vd vi vo) (l:List Int) (v:Value) (hl:aI w w.heap.size 1 aP v l):
  Calls Tryz.prog 42 #[eZ vw vd vi vo,v] w fun e w'=>e= .returned (.bool (cB (bG f.fm l)))/\Below w.heap.size w w':=by
 obtain ⟨A,c,rfl,l1,m1,s1⟩:=hl
 have m1':c<=9223372036854775807:=by unfold maxLen at m1;omega
 have b1:Below w.heap.size w (w.alloc (.cells #[vw,vd,vi,vo] 33)):=bE
 have HFL:=zH (h.below b1)
 have HSL:=zH (s1.below b1)
 have rF:=ai.new w #[vw,vd,vi,vo] 33
 obtain ⟨Aw,cw,rfl,lw,mw,sw⟩:=h.wires
 refine' zq62
 clear h s1 sw
 go_enter Tryz.func42,Tryz.ntmps42
 go_upto_region 1 with (fail)
 generalize w.alloc (.cells #[.slice Aw f.wires.length cw,vd,vi,vo] 33)=w1 at*
 have f0:=rF.cell 0
 simp only[List.getElem?_toArray,List.getElem?_cons_zero] at f0
 clear rF
 have HB1:=zH b1
 clear b1
 go_wp2_with fail
 go_loopw[5] (fun i wr=>∃(k n:Nat),k<=l.length/\i= .int .i64 k/\Hid (∀j,j<k->∀n,l[j]? =some n->jW f.fm n)/\wr=w1.drewN n) (fun i _=>l.length-(intOf i).toNat)
 case atStart=>exact ⟨0,0,Nat.zero_le _,rfl,(fun j h=>absurd h (by omega)),rfl⟩
 case round=>
  obtain ⟨k,n0,hk,rfl,HP,rfl⟩:=hrel
  by_cases hlt:k<l.length
  ·obtain ⟨b,off,n,rfl,hbb,hn,wx,d⟩:=HSL.o.int hlt
   have HX:=zH hn
   have hk':(k:Int)<l.length:=by omega
   clear hn
   by_cases h0:n<0
   ·have HF:=zH (ab (gB (f:=f.fm) HX.o (fun g=>by have h2:0<=n:=g.1.1;omega)))
    have e0:decide (n<0)=true:=decide_eq_true h0
    clear h0
    refine' zq308
   have e0:decide (n<0)=false:=decide_eq_false h0
   by_cases h1:(f.wires.length:Int)<=n
   ·have HF:=zH (ab (gB (f:=f.fm) HX.o (fun g=>by have h2:n<f.wires.length:=g.1.2;omega)))
    have e1:decide ((f.wires.length:Int)<=n)=true:=decide_eq_true h1
    clear h0 h1
    refine' zq308
   have e1:decide ((f.wires.length:Int)<=n)=false:=decide_eq_false h1
   have hw:ak f.fm n:=⟨by omega,(show n<f.wires.length by omega)⟩
   obtain ⟨m,b',off',cw',Ag,cg,hnm,hm,hvw,lw',mw2,hbB,d0,d1,lg,mg,sg⟩:=dT HFL.o hw
   injection hvw with hv1 hv2 hv3
   subst hv1
   refine' zq288
   clear hw sg h0 h1 d0 lw' mw2 hv3
   generalize (aa f.fm m).length=L at*
   by_cases hg:0<L
   ·have HF:=zH (ab (gB (f:=f.fm) HX.o (fun g=>by have:=HPA.o.1 g;omega)))
    have hg':decide ((0:Int)<(L:Int))=true:=by simp;omega
    refine' zq308
   ·have HN':=zH (aC HP.o (fun n' hn'=>by rw[HX.o] at hn';injection hn' with hn';rw[<-hn'];exact HPA.o.2 (by omega)))
    have hg':decide ((0:Int)<(L:Int))=false:=by simp;omega
    refine' zq199
    go_roundw
    case rel=>exact ⟨k+1,_,by omega,by go_num,HN',by first|rfl|(rw[World.drewN_drewN])⟩
    case measure=>simp[intOf];omega
  ·obtain rfl:k=l.length:=by omega
   have HY:=zH (lD (f:=f.fm) HP.o)
   generalize hL:l.length=L at*
   by_cases q1:0<L
   ·by_cases q8:L<=8
    ·have HF:=zH (aq (HY.o.2 ⟨by omega,by omega⟩))
     have e1:decide ((0:Int)<(L:Int))=true:=decide_eq_true (by omega)
     have e2:decide ((L:Int)<=8)=true:=decide_eq_true (by omega)
     go_wp2_with fail
     go_ret
     exact ⟨aj HF.o.symm,ap HB1.o _⟩
    ·have HF:=zH (ab (fun g=>q8 (HY.o.1 g).2))
     have e1:decide ((0:Int)<(L:Int))=true:=decide_eq_true (by omega)
     have e2:decide ((L:Int)<=8)=false:=decide_eq_false (by omega)
     go_wp2_with fail
     go_ret
     exact ⟨aj HF.o.symm,ap HB1.o _⟩
   ·have HF:=zH (ab (fun g=>q1 (HY.o.1 g).1))
    have e1:decide ((0:Int)<(L:Int))=false:=decide_eq_false (by omega)
    go_wp2_with fail
    go_ret
    exact ⟨aj HF.o.symm,ap HB1.o _⟩
theorem qo {l:List Nat} {b:Nat} (h:∀x∈l,x<=b) (hb:0<b):dz l=b↔b∈l:=by
 induction l with
 |nil=>simp[dz];omega
 |cons x l ih=>
  have h1:=h x (by simp)
  have h2:=iW (l:=l) (b:=b) (fun y hy=>h y (by simp[hy]))
  have h3:=ih (fun y hy=>h y (by simp[hy]))
  simp only[dz,List.mem_cons,<-h3]
  omega
theorem ye (e:Ex) (ls:List Nat) (h:∀x∈ls,x<=2):jA e ls<=2:=by
 have h2:=iW h
 have h3:=qo h (by omega)
 unfold jA
 by_cases h4:2∈ls
 ·rw[if_pos h4]
  omega
 ·have h5:ls.headD 0<=dz ls:=by
   cases ls with
   |nil=>simp
   |cons x l=>simp only[List.headD_cons,dz];omega
  rw[<-h3] at h4
  split<;>(try split)<;>(try split)<;>(try split)<;>omega
theorem kO (e:Ex):bf e<=2:=by
 induction e using Ex.ind with
 |h e ih=>
  rw[jb]
  exact ye _ _ (fun x hx=>by obtain ⟨y,hy,rfl⟩:=List.mem_map.1 hx;exact ih y hy)
noncomputable def jn (e:Ex) (k:Nat):Nat:=dz ((e.args.take k).map bf)
noncomputable def kt (e:Ex) (k:Nat):Nat:=((e.args.take k).map bf).headD 0
theorem vE {e x:Ex} {k:Nat} (h:e.args[k]? =some x):jn e (k+1)=max (jn e k) (bf x):=by
 unfold jn;rw[dy bf h,pu]
theorem xX {e x:Ex} {k:Nat} (h:e.args[k]? =some x):kt e (k+1)=if k=0 then bf x else kt e k:=by
 unfold kt;rw[dy bf h]
 by_cases h0:k=0
 ·subst h0;rw[if_pos rfl];rfl
 ·rw[if_neg h0]
  have:((e.args.take k).map bf)≠[]:=by
   intro g
   have g2:=congrArg List.length g
   have g3:=(List.getElem?_eq_some_iff.1 h).1
   rw[List.length_map,List.length_take,List.length_nil] at g2
   omega
  cases hq:((e.args.take k).map bf) with
  |nil=>exact absurd hq this
  |cons y l=>rfl
theorem Ca (e:Ex) (k:Nat):jn e k<=2:=iW (fun x hx=>by obtain ⟨y,_,rfl⟩:=List.mem_map.1 hx;exact kO y)
theorem CB (e:Ex) (k:Nat):kt e k<=2:=by
 unfold kt
 cases hq:((e.args.take k).map bf) with
 |nil=>simp
 |cons y l=>
  have:y∈((e.args.take k).map bf):=by rw[hq];simp
  obtain ⟨z,_,rfl⟩:=List.mem_map.1 this
  exact kO z
theorem yG (e:Ex):bf e=if jn e e.args.length=2 then 2 else if e.op=21 then 1+jn e e.args.length else if e.op=22\/e.op=26 then 2*jn e e.args.length else if e.op=23 then 2*kt e e.args.length else jn e e.args.length:=by
 rw[jb]
 unfold jn kt jA
 rw[List.take_length]
 have:=qo (l:=e.args.map bf) (b:=2) (fun x hx=>by obtain ⟨y,_,rfl⟩:=List.mem_map.1 hx;exact kO y) (by omega)
 by_cases h:2∈e.args.map bf
 ·rw[if_pos h,if_pos (this.2 h)]
 ·rw[if_neg h,if_neg (fun g=>h (this.1 g))]
theorem uG (e:Ex):∀(A:Option Addr) (cap:Nat) (w:World),e.args.length<=cap->cap<=maxLen->aM w w.heap.size A e.args->
  Calls Tryz.prog 48 #[bz e A cap] w fun r w'=>r= .returned (.int .i64 (bf e))/\Below w.heap.size w w':=by
 induction e using Ex.ind with
 |h e ih=>
  intro A cap w hcap hmax hx
  have HI:=zH ih
  clear ih
  have HE:=zH (yG e)
  unfold maxLen at hmax
  go_enter Tryz.func48,Tryz.ntmps48
  go_wp2_with fail
  go_loopw[3,4,5] (fun v u i wr=>∃k:Nat,k<=e.args.length/\i= .int .i64 k/\v= .int .i64 (jn e k)/\u= .int .i64 (kt e k)/\Below (w.heap.size+1) (w.alloc (.cells #[.int .i64 e.op,.string e.name,.int .i64 e.n,.slice A e.args.length cap,.int .i64 e.line,.int .i64 e.col] 75)) wr) (fun _ _ i _=>e.args.length-(intOf i).toNat)
  case atStart=>exact ⟨0,Nat.zero_le _,rfl,rfl,rfl,by simpa using Below.refl _ _⟩
  case round=>
   obtain ⟨k,hk,rfl,rfl,rfl,hbox⟩:=hrel
   obtain ⟨⟨hc0,_,_,hc3,_,_⟩,hbel,hsz⟩:=uR hbox
   have hm:=Ca e k
   have hf:=CB e k
   by_cases hlt:k<e.args.length
   ·obtain ⟨b,off,x,A',cap',rfl,hb,hxk,hxm,hok',hcap',hmax',hx',c0,c1,c2,c3,c4,c5⟩:=(hx.below hbel).at_ hlt
    have HT:=zH (vE hxk)
    have HF:=zH (xX hxk)
    have HM:=zH hxm
    clear hxk hxm
    go_wp2_with fail
    refine (HI.o x HM.o A' cap' _ hcap' hmax' (hx'.more (by omega))).mono ?_
    rintro r w2 ⟨rfl,hb2⟩
    have hb3:=hbox.trans (hb2.mono hsz)
    clear hbox
    by_cases h0:k=0
    ·have e0:((k:Int)==0)=true:=by simp[h0]
     have HF':=zH (HF.o.trans (if_pos h0))
     clear h0
     go_wp2_with fail
     ·go_roundw
      case rel=>exact ⟨k+1,by omega,by go_num,by rw[HT.o,Nat.max_eq_right (by omega)],by rw[HF'.o],hb3⟩
      case measure=>simp[intOf];omega
     ·go_roundw
      case rel=>exact ⟨k+1,by omega,by go_num,by rw[HT.o,Nat.max_eq_left (by omega)],by rw[HF'.o],hb3⟩
      case measure=>simp[intOf];omega
    ·have e0:((k:Int)==0)=false:=by simp[h0]
     have HF':=zH (HF.o.trans (if_neg h0))
     clear h0
     go_wp2_with fail
     ·go_roundw
      case rel=>exact ⟨k+1,by omega,by go_num,by rw[HT.o,Nat.max_eq_right (by omega)],by rw[HF'.o],hb3⟩
      case measure=>simp[intOf];omega
     ·go_roundw
      case rel=>exact ⟨k+1,by omega,by go_num,by rw[HT.o,Nat.max_eq_left (by omega)],by rw[HF'.o],hb3⟩
      case measure=>simp[intOf];omega
   ·obtain rfl:k=e.args.length:=by omega
    generalize jn e e.args.length=M at*
    generalize kt e e.args.length=F at*
    clear hx
    go_wp2_with fail
    all_goals
     go_ret
     refine ⟨az ?_,hbel⟩
     rw[HE.o]
     (try simp only[beq_iff_eq,beq_eq_false_iff_ne] at*)
     repeat' split
     all_goals omega
theorem uz {f:Fl} {x:Ex}:bJ f x↔x.name.toList.isEmpty=true/\x.op≠4/\aX x.op=x.args.length/\0<=x.n/\(aJ x.op=true->x.n<f.wires.length)/\(aJ x.op=false->x.op≠1->(x.op≠2\/1<x.n)->x.n=0):=by
 unfold bJ
 refine and_congr_right fun _=>and_congr_right fun _=>and_congr_right fun _=>?_
 have hw:ak f.fm x.n↔0<=x.n/\x.n<f.wires.length:=Iff.rfl
 cases hN:aJ x.op
 ·rw[if_neg (by simp)]
  simp only[reduceCtorEq,false_implies,true_implies,true_and]
  by_cases h1:x.op=1
  ·rw[if_pos h1];exact ⟨fun g=>⟨g,fun h=>absurd h1 h⟩,fun g=>g.1⟩
  rw[if_neg h1]
  by_cases h2:x.op=2
  ·rw[if_pos h2];omega
  rw[if_neg h2];omega
 ·rw[if_pos rfl,hw]
  simp only[reduceCtorEq,false_implies,true_implies,and_true]
theorem xl {f:Fl} {e x:Ex} {k:Nat} (h:(bC e)[k]? =some x) (hn:¬bJ f x):¬aO f e:=fun g=>hn (g x (List.mem_of_getElem? h))
theorem uV {f:Fl} {e:Ex} (h:∀j,j<(bC e).length->∀x,(bC e)[j]? =some x->bJ f x):aO f e:=fun x hx=>by
 obtain ⟨j,hj⟩:=List.getElem?_of_mem hx
 exact h j (List.getElem?_eq_some_iff.1 hj).1 x hj
theorem sE {w:World} {f:Fl} {vw vd vi vo:Value} (h:cS w w.heap.size f vw vd vi vo) (e:Ex) (A:Option Addr) (cap:Nat) (hok:cW e) (hcap:e.args.length<=cap) (hmax:cap<=maxLen) (hx:aM w w.heap.size A e.args) (hs:ay e<=1000000):
  Calls Tryz.prog 44 #[eZ vw vd vi vo,bz e A cap] w fun r w'=>r= .returned (.bool (cB (aO f e)))/\Below w.heap.size w w':=by
 have b1:Below w.heap.size w ((w.alloc (.cells #[vw,vd,vi,vo] 33)).alloc (.cells #[.int .i64 e.op,.string e.name,.int .i64 e.n,.slice A e.args.length cap,.int .i64 e.line,.int .i64 e.col] 75)):=bE
 have rF:=(ai.new w #[vw,vd,vi,vo] 33).alloc (.cells #[.int .i64 e.op,.string e.name,.int .i64 e.n,.slice A e.args.length cap,.int .i64 e.line,.int .i64 e.col] 75)
 obtain ⟨Aw,cw,rfl,lw,mw,sw⟩:=h.wires
 refine' zq62
 have HL:=zH (Am w.heap.size e A cap _ hok hcap hmax b1.size (hx.below b1) hs)
 clear h sw hx
 go_enter Tryz.func44,Tryz.ntmps44
 go_upto_region 1 with (fail)
 go_wp2_with fail
 (with_reducible refine HL.o.mono ?_)
 rintro r w2 ⟨v,css,rfl,own,hcs,hb2⟩
 have HB2:=zH (b1.trans (hb2.mono b1.size))
 have hF2:=rF.below hb2 rF.lt
 obtain ⟨Al,cl,rfl,hn0,hl1,hl2,hxs⟩:=Bh own hcs (by have:=b1.size;have:=hb2.size;omega)
 have hl2':cl<=9223372036854775807:=by unfold maxLen at hl2;omega
 have HXS:=zH hxs
 clear own hcs hxs HL rF b1 hb2 hn0
 have HF4:=zH (fun W (hW:Below w2.heap.size w2 W)=>(hF2.below hW hF2.lt).four')
 have hFl:=hF2.lt
 clear hF2
 generalize hLL:(bC e).length=L at*
 have HLL:=zH hLL
 clear hLL
 go_wp2_with fail
 go_loopw[6] (fun i wr=>∃(k:Nat),k<=L/\i= .int .i64 k/\Hid (∀j,j<k->∀x,(bC e)[j]? =some x->bJ f x)/\Below w2.heap.size w2 wr) (fun i _=>L-(intOf i).toNat)
 case atStart=>exact ⟨0,Nat.zero_le _,rfl,(fun j h=>absurd h (by omega)),Below.refl _ _⟩
 case round=>
  obtain ⟨k,hk,rfl,HP,hbr⟩:=hrel
  have hsr:=hbr.size
  by_cases hlt:k<L
  ·obtain ⟨b,off,x,A',cap',rfl,hbb,hxk,_,hok',hcap',hmax',_,c0,c1,c2,c3,c4,c5⟩:=(HXS.o.below hbr).at_ (show k<(bC e).length by rw[HLL.o];exact hlt)
   have HK:=zH hxk
   have HNO:=zH (fun g=>ab (xl (f:=f) hxk g))
   have hk':(k:Int)<L:=by omega
   have hmax2:cap'<=9223372036854775807:=by unfold maxLen at hmax';omega
   clear hxk
   have bX:Below wr.heap.size wr (wr.alloc (.cells #[.int .i64 x.op,.string x.name,.int .i64 x.n,.slice A' x.args.length cap',.int .i64 x.line,.int .i64 x.col] 75)):=bE
   have rX:=ai.new wr #[.int .i64 x.op,.string x.name,.int .i64 x.n,.slice A' x.args.length cap',.int .i64 x.line,.int .i64 x.col] 75
   have HD:=zH (uz (f:=f) (x:=x))
   have HPT:=zH (uL x.op)
   have HNM:=zH (jI x.op)
   go_upto_region 6 with (fail)
   generalize wr.alloc (.cells #[.int .i64 x.op,.string x.name,.int .i64 x.n,.slice A' x.args.length cap',.int .i64 x.line,.int .i64 x.col] 75)=wx at*
   have hXl:=rX.lt
   have hsx:=bX.size
   have HX:Hid (∀W,Below wx.heap.size wx W->W.cell? ⟨wr.heap.size,0,none⟩=some (.int .i64 x.op)/\W.cell? ⟨wr.heap.size,1,none⟩=some (.string x.name)/\W.cell? ⟨wr.heap.size,2,none⟩=some (.int .i64 x.n)/\W.cell? ⟨wr.heap.size,3,none⟩=some (.slice A' x.args.length cap')/\W.cell? ⟨wr.heap.size,4,none⟩=some (.int .i64 x.line)/\W.cell? ⟨wr.heap.size,5,none⟩=some (.int .i64 x.col)):=fun W hW=>(rX.below hW hXl).six'
   have HBX:=zH (fun W (hW:Below wx.heap.size wx W)=>HB2.o.trans ((hbr.trans ((bX.trans (hW.mono hsx)).mono hsr)).mono HB2.o.size))
   have HBR:=zH (fun W (hW:Below wx.heap.size wx W)=>hbr.trans ((bX.trans (hW.mono hsx)).mono hsr))
   have HF0:=zH (fun W (hW:Below wx.heap.size wx W)=>(HF4.o W (HBR.o W hW)).1)
   obtain ⟨c0,c1,c2,c3,c4,c5⟩:=rX.six'
   clear rX
   generalize hn:x.name.toList.isEmpty=E0 at*
   have HE0:=zH hn
   cases E0
   ·have HF:=zH (HNO.o (fun g=>by have:=(HD.o.1 g).1;cases this))
    go_quiet (fail)
    go_wp2_with fail
    go_ret
    exact ⟨aj HF.o.symm,HBX.o _ bE⟩
   by_cases h4:x.op=4
   ·have h4':(x.op==4)=true:=by simp[h4]
    have HF:=zH (HNO.o (fun g=>(HD.o.1 g).2.1 h4))
    clear h4
    go_quiet (fail)
    go_wp2_with fail
    go_ret
    exact ⟨aj HF.o.symm,HBX.o _ bE⟩
   have h4':(x.op==4)=false:=by simp[h4]
   have H4:=zH h4
   clear h4
   by_cases hp:aX x.op=x.args.length
   rotate_left 1
   ·have hp':((aX x.op) !=(x.args.length:Int))=true:=by simp[hp]
    have HF:=zH (HNO.o (fun g=>hp (HD.o.1 g).2.2.1))
    generalize aX x.op=PZ at*
    clear hp
    refine' zq19
    refine sk 18 (some 38) rfl ?_
    refine sk 19 (some 39) rfl ?_
    refine sk 20 (some 40) rfl ?_
    refine tk 21 (some 41) rfl ?_
    refine' zq26
    go_ret
    exact ⟨aj HF.o.symm,HBX.o _ bE⟩
   have hp':((aX x.op) !=(x.args.length:Int))=false:=by simp[hp]
   have HPP:=zH hp
   clear hp
   generalize aX x.op=PZ at*
   by_cases hn0:x.n<0
   ·have hn0':decide (x.n<0)=true:=decide_eq_true hn0
    have HF:=zH (HNO.o (fun g=>by have:=(HD.o.1 g).2.2.2.1;omega))
    clear hn0
    refine' zq19
    refine tk 18 (some 38) rfl ?_
    refine tk 19 (some 39) rfl ?_
    refine tk 20 (some 40) rfl ?_
    refine tk 21 (some 41) rfl ?_
    refine' zq26
    go_ret
    exact ⟨aj HF.o.symm,HBX.o _ bE⟩
   have hn0':decide (x.n<0)=false:=decide_eq_false hn0
   have HN0:=zH hn0
   clear hn0
   go_cut[41] from 10 to 76 (fun v W=>v= .bool false/\Below wx.heap.size wx W)
   case first=>
    refine wp_mono (Q:=Exit.then _ (fun _ _ _=>False)) ?_ (fun e a w hq=>by cases e<;>first|exact hq|exact False.elim hq)
    refine' zq19
    refine tk 18 (some 38) rfl ?_
    refine tk 19 (some 39) rfl ?_
    refine tk 20 (some 40) rfl ?_
    refine tk 21 (some 41) rfl ?_
    refine' zq26
    go_meet
    exact ⟨rfl,bE⟩
   case rest=>
    obtain ⟨rfl,hbc⟩:=hcut
    clear c0 c1 c2 c3 c4 c5
    obtain ⟨c0,c1,c2,c3,c4,c5⟩:=HX.o _ hbc
    have f0:=HF0.o _ hbc
    have HBC:=zH (HBX.o _ hbc)
    have HBD:=zH (HBR.o _ hbc)
    have hDD:=HD.o.trans ⟨fun g=>g.2.2.2.2,fun g=>⟨rfl,H4.o,HPP.o,by have:=HN0.o;omega,g⟩⟩
    have HDD:=zH hDD
    clear hDD HX HF0 HBX HBR
    generalize aJ x.op=NB at*
    cases NB
    ·by_cases hbad:x.op≠1/\(x.op≠2\/1<x.n)/\x.n≠0
     ·have HF:=zH (HNO.o (fun g=>hbad.2.2 ((HDD.o.1 g).2 rfl hbad.1 hbad.2.1)))
      obtain ⟨q1,q2,q3⟩:=hbad
      have q1':(x.op !=1)=true:=by simp[q1]
      have q3':(x.n !=0)=true:=by simp[q3]
      by_cases q4:x.op=2
      ·have q4':(x.op !=2)=false:=by simp[q4]
       have q5:decide (1<x.n)=true:=decide_eq_true (by omega)
       clear q1 q2 q3 q4
       refine' zq98
       refine' zq98
       refine' zq157
      ·have q4':(x.op !=2)=true:=by simp[q4]
       clear q1 q2 q3 q4
       refine' zq98
       refine' zq98
       refine' zq157
     ·have HP':=zH (aC HP.o (fun y hy=>by rw[HK.o] at hy;injection hy with hy;rw[<-hy];exact HDD.o.2 ⟨(fun g=>by cases g),fun _ a b=>by by_cases c:x.n=0;exact c;exact absurd ⟨a,b,c⟩ hbad⟩))
      have HBAD:=zH hbad
      clear hbad
      refine' zq98
      refine' zq98
      by_cases q1:x.op=1
      ·have q1':(x.op !=1)=false:=by simp[q1]
       clear q1
       refine' zq109
      have q1':(x.op !=1)=true:=by simp[q1]
      by_cases q3:x.n=0
      ·have q3':(x.n !=0)=false:=by simp[q3]
       by_cases q4:x.op=2
       ·have q4':(x.op !=2)=false:=by simp[q4]
        have q5:decide (1<x.n)=false:=decide_eq_false (by omega)
        clear q1 q3 q4
        refine' zq109
       ·have q4':(x.op !=2)=true:=by simp[q4]
        clear q1 q3 q4
        refine' zq109
      have q3':(x.n !=0)=true:=by simp[q3]
      have q4:x.op=2:=by by_cases c:x.op=2;exact c;exact absurd ⟨q1,.inl c,q3⟩ HBAD.o
      have q5:decide (1<x.n)=false:=decide_eq_false (fun c=>HBAD.o ⟨q1,.inr c,q3⟩)
      have q4':(x.op !=2)=false:=by simp[q4]
      clear q1 q3 q4
      refine' zq109
    ·by_cases hln:x.n<f.wires.length
     ·have e2:decide ((f.wires.length:Int)<=x.n)=false:=decide_eq_false (by omega)
      have HP':=zH (aC HP.o (fun y hy=>by rw[HK.o] at hy;injection hy with hy;rw[<-hy];exact HDD.o.2 ⟨fun _=>hln,fun g=>by cases g⟩))
      clear hln
      refine' zq98
      refine' zq98
      refine' zq109
     ·have e2:decide ((f.wires.length:Int)<=x.n)=true:=decide_eq_true (by omega)
      have HF:=zH (HNO.o (fun g=>hln ((HDD.o.1 g).1 rfl)))
      clear hln
      refine' zq98
      refine' zq157
  ·obtain rfl:k=L:=by omega
   have HF:=zH (aq (uV (f:=f) (e:=e) (by rw[HLL.o];exact HP.o)))
   go_wp2_with fail
   go_ret
   exact ⟨aj HF.o.symm,HB2.o.trans (hbr.mono HB2.o.size)⟩
end Go.Proofs.YtckognjamlckcaaGreatDoor
namespace Go.Proofs.YtckognjamlckcaaGreatDoor.Fo
open Vf
def ko (f:Fl) (e:Ex) (l:List Int):Int:=
 if 0∈l then 0 else if e.op<=2 then e.op else if e.op=3 then ag f.fm e.n
 else if Ar.signB e.op=true then (if (Ar.signIn e.op≠0/\ao l 0≠Ar.signIn e.op)\/(l.length=2/\ao l 0≠ao l 1) then 0 else Ar.signOut e.op)
 else if aJ e.op=true/\ag f.fm e.n≠2 then 0
 else if e.op=27/\ao l 0≠2 then 0
 else if 1<l.length/\ao l ((l.length-1:Nat):Int)≠ao l ((l.length-2:Nat):Int) then 0 else ao l ((l.length-1:Nat):Int)
theorem iK (a:Int) (l:List Int):ao (a::l) 0=a:=rfl
theorem kN (a b:Int) (l:List Int):ao (a::b::l) 1=b:=rfl
theorem xm (a b c:Int) (l:List Int):ao (a::b::c::l) 2=c:=rfl
theorem AO {f:Fl} {e:Ex} {l:List Int} (hp:bJ f e) (hl:l.length=e.args.length):ko f e l=eV f e l:=by
 obtain ⟨_,h4,hq,_⟩:=hp
 rw[<-hl] at hq
 unfold ko eV
 by_cases h0:0∈l
 ·rw[if_pos h0,if_pos h0]
 rw[if_neg h0,if_neg h0]
 generalize ag f.fm e.n=T
 generalize e.op=op at*
 have hop:1<=op/\op<=27:=by
  by_cases c1:1<=op/\op<=27
  ·exact c1
  ·rw[show aX op= -2 by unfold aX;rw[if_neg (by omega),if_neg (by omega),if_neg (by omega),if_neg (by omega),if_neg (by omega)]] at hq
   omega
 have hcs:op=1\/op=2\/op=3\/op=5\/op=6\/op=7\/op=8\/op=9\/op=10\/op=11\/op=12\/op=13\/op=14\/op=15\/op=16\/op=17\/op=18\/op=19\/op=20\/op=21\/op=22\/op=23\/op=24\/op=25\/op=26\/op=27:=by omega
 rcases l with _|⟨a,_|⟨b,_|⟨c,_|⟨d,l⟩⟩⟩⟩
 ·rcases hcs with rfl|rfl|rfl|rfl|rfl|rfl|rfl|rfl|rfl|rfl|rfl|rfl|rfl|rfl|rfl|rfl|rfl|rfl|rfl|rfl|rfl|rfl|rfl|rfl|rfl|rfl<;>simp[aX] at hq<;>simp[aJ]
 ·rcases hcs with rfl|rfl|rfl|rfl|rfl|rfl|rfl|rfl|rfl|rfl|rfl|rfl|rfl|rfl|rfl|rfl|rfl|rfl|rfl|rfl|rfl|rfl|rfl|rfl|rfl|rfl<;>simp[aX] at hq<;>simp[aJ,dJ,Ar.signB,Ar.signIn,Ar.signOut,iK]
 ·simp only[List.mem_cons,List.not_mem_nil,or_false,not_or] at h0
  rcases hcs with rfl|rfl|rfl|rfl|rfl|rfl|rfl|rfl|rfl|rfl|rfl|rfl|rfl|rfl|rfl|rfl|rfl|rfl|rfl|rfl|rfl|rfl|rfl|rfl|rfl|rfl<;>simp[aX] at hq<;>simp[aJ,dJ,Ar.signB,Ar.signIn,Ar.signOut,iK,kN]
  all_goals (repeat' split)<;>omega
 ·rcases hcs with rfl|rfl|rfl|rfl|rfl|rfl|rfl|rfl|rfl|rfl|rfl|rfl|rfl|rfl|rfl|rfl|rfl|rfl|rfl|rfl|rfl|rfl|rfl|rfl|rfl|rfl<;>simp[aX] at hq<;>simp[aJ,dJ,Ar.signB,Ar.signIn,iK,kN,xm]
  all_goals (repeat' split)<;>omega
 ·simp[aX] at hq
  omega
end Go.Proofs.YtckognjamlckcaaGreatDoor.Fo
