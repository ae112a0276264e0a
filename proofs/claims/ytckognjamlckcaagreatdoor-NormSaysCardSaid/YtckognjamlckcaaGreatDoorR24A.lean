/-
  The document's words on forms: is, ports, Guards, In, Kept, By, Uses. The document's With: a clock with one guard more. The document's words on forms: Kept, By, ports, Wants. The document's act: ops that name no parts.
-/
import Derived.Test.YtckognjamlckcaaGreatDoorOrdB
set_option maxHeartbeats 8000000
set_option maxRecDepth 100000
namespace Go.Proofs.YtckognjamlckcaaGreatDoor
open Go.RowKit Vf Fo
attribute [local go_sem ↓] Go.wp_at_zero Go.wp_at_succ
theorem fY {w:World} {B:Nat} {f:Fm} {vw va vc vk vi vo:Value} (h:bQ w B f vw va vc vk vi vo) (n:Int):
  Calls Tryz.prog 30 #[dp vw va vc vk vi vo,.int .i64 n] w fun e w'=>e= .returned (.bool (cB (ak f n)))/\Below w.heap.size w w':=by
 obtain ⟨Aw,cw,rfl,lw,mw,sw⟩:=h.wires
 refine' zq62
 clear h sw
 have b1:Below w.heap.size w (w.alloc (.cells #[.slice Aw f.wires.length cw,va,vc,vk,vi,vo] 28)):=bE
 by_cases h0:0<=n
 ·have e0:decide (0<=n)=true:=decide_eq_true h0
  by_cases h1:n<f.wires.length
  ·have HF:=zH (aq (show ak f n from ⟨h0,h1⟩))
   have e1:decide (n<(f.wires.length:Int))=true:=decide_eq_true h1
   clear h0 h1
   refine' zq203
  ·have HF:=zH (ab (fun g:ak f n=>h1 g.2))
   have e1:decide (n<(f.wires.length:Int))=false:=decide_eq_false h1
   clear h0 h1
   refine' zq203
 ·have HF:=zH (ab (fun g:ak f n=>h0 g.1))
  have e0:decide (0<=n)=false:=decide_eq_false h0
  clear h0
  refine' zq203
theorem da (l m:List Gd) (v1 v2:Value) (B:Nat) (w:World) (h1:aI w B 2 aW v1 l) (h2:aI w B 2 aW v2 m):
  Calls Tryz.prog 31 #[v1,v2] w fun e w'=>e= .returned (.bool (cB (l=m)))/\∃n,w'=w.drewN n:=by
 refine' zq72
 by_cases hl:l.length=m.length
 rotate_left 1
 ·refine' zq217
  go_enter Tryz.func31,Tryz.ntmps31
  go_wp2_with fail
  go_ret
  exact ⟨aj HF.o.symm,0,rfl⟩
 refine' zq197
 go_enter Tryz.func31,Tryz.ntmps31
 go_wp2_with fail
 go_loopw[5] (fun i wr=>∃k:Nat,k<=l.length/\i= .int .i64 k/\Hid (∀j,j<k->∀x y,l[j]? =some x->m[j]? =some y->x=y)/\∃n,wr=w.drewN n) (fun i _=>l.length-(intOf i).toNat)
 case atStart=>exact ⟨0,Nat.zero_le _,rfl,fun j h=>absurd h (by omega),0,rfl⟩
 case round=>
  obtain ⟨k,hk,rfl,HN,n,rfl⟩:=hrel
  by_cases hlt:k<l.length
  ·refine' zq37
  ·obtain rfl:k=l.length:=by omega
   have HF:=zH (aq (wC HL.o HN.o))
   go_wp2_with fail
   go_ret
   exact ⟨aj HF.o.symm,n,rfl⟩
theorem DK {l:List Int} {n:Int}:n∈l↔∃j,j<l.length/\l[j]? =some n:=by
 constructor
 ·intro h
  obtain ⟨j,hj⟩:=List.getElem?_of_mem h
  exact ⟨j,(List.getElem?_eq_some_iff.1 hj).1,hj⟩
 ·rintro ⟨j,_,hj⟩
  exact List.mem_of_getElem? hj
theorem lG (l:List Int) (n:Int) (v:Value) (B:Nat) (w:World) (h:aI w B 1 aP v l):
  Calls Tryz.prog 33 #[v,.int .i64 n] w fun e w'=>e= .returned (.bool (cB (n∈l)))/\w=w':=by
 obtain ⟨A,c,rfl,l1,m1,s1⟩:=h
 have m1':c<=9223372036854775807:=by unfold maxLen at m1;omega
 go_enter Tryz.func33,Tryz.ntmps33
 go_wp2_with fail
 go_loopw[5] (fun i wr=>∃k:Nat,k<=l.length/\i= .int .i64 k/\Hid (∀j,j<k->∀x,l[j]? =some x->x≠n)/\w=wr) (fun i _=>l.length-(intOf i).toNat)
 case atStart=>exact ⟨0,Nat.zero_le _,rfl,fun j h=>absurd h (by omega),rfl⟩
 case round=>
  obtain ⟨k,hk,rfl,HN,rfl⟩:=hrel
  by_cases hlt:k<l.length
  ·obtain ⟨b1,o1,x,rfl,hb1,hx,wx,d1⟩:=s1.int hlt
   have HX:=zH hx
   clear hx
   by_cases e:x=n
   ·have HF:=zH (aq (show n∈l from e▸List.mem_of_getElem? HX.o))
    have e':(x==n)=true:=by simp[e]
    clear e
    go_wp2_with fail
    go_ret
    exact ⟨aj HF.o.symm,rfl⟩
   ·have HN':=zH (aC HN.o (fun y hy=>by rw[HX.o] at hy;injection hy with hy;rw[<-hy];exact e))
    have e':(x==n)=false:=by simp[e]
    clear e
    go_wp2_with fail
    go_roundw
    case rel=>exact ⟨k+1,by omega,by go_num,HN',trivial⟩
    case measure=>first|(simp[intOf];omega)|simp[intOf]
  ·obtain rfl:k=l.length:=by omega
   have HF:=zH (ab (fun g:n∈l=>by obtain ⟨j,hj,hx⟩:=DK.1 g;exact HN.o j hj _ hx rfl))
   go_wp2_with fail
   go_ret
   exact ⟨aj HF.o.symm,rfl⟩
theorem xE (op:Int) (w:World):
  Calls Tryz.prog 70 #[.int .i64 op] w fun e w'=>e= .returned (.int .i64 (bl op))/\w=w':=by
 go_enter Tryz.func70,Tryz.ntmps70
 go_wp2
 all_goals
  go_ret
  refine ⟨az ?_,rfl⟩
  unfold bl
  simp_all
  try omega
section
theorem nb {P:Program} {w:World} (base:Nat) (t ty e:TypeId) (i:TypeInfo) (size:Nat) (ht:P.underlying t=some (.slice e)) (hi:P.info? e=some i)
  (v:Value) (n:Nat) (xs:List Value) (hown:w.ownsRow base e size v n xs) (c:Nat):
  (Builtin.append_ #[t,t] ty #[v,.slice none 0 c]).run P w= .ok v w:=by
 refine' zq208
theorem kZ {P:Program} {w:World} {ops:Array Oper} {rest:List Oper} {o:Oper} {a:Act} {Q:Exit->Act->World->Prop} (hgd:o.guard=none) (s x:Operand) (t:TypeId)
  (ho:o.op= .call {callee:= .builtin .append,args:= #[s,x],argTypes:= #[t,t]})
  (base:Nat) (e:TypeId) (i:TypeInfo) (size:Nat) (ht:P.underlying t=some (.slice e)) (hi:P.info? e=some i)
  (v:Value) (n:Nat) (xs:List Value) (hs:a.eval s=v) (hown:w.ownsRow base e size v n xs) (c:Nat) (hx:a.eval x= .slice none 0 c)
  (h:wpList P ops Q rest (a.put o.dst v) w):wpList P ops Q (o::rest) a w:=by
 refine wpList_plain hgd fun K hK=>?_
 have hrun:=nb (P:=P) (w:=w) base t o.type e i size ht hi v n xs hown c
 unfold Oper.wp
 simp[execOp,ho,resolve,invoke,builtin,hs,hx,hrun,Result.andThen]
 exact hK _ _ h
end
def vy (l:List Gd) (g:Gd) (w:World) (e:Ending) (w':World):Prop:=∃v,e= .returned v/\aI w' w'.heap.size 2 aW v (l++ [g])/\Below w.heap.size w w'
def qe (l:List Gd) (g:Gd) (w:World) (e:Ending) (w':World):Prop:=∃v,e= .returned v/\(∃n cs,w'.ownsRow w.heap.size 61 2 v n cs/\∀W,W.ownsRow w.heap.size 61 2 v n cs->aI W W.heap.size 2 aW v (l++ [g]))/\Below w.heap.size w w'
theorem mY (l:List Gd) (v:Value) (w:World) (h:aI w w.heap.size 2 aW v l) (hl:l.length<=1600) (g:Gd) (wg:Wf g.wire):
  Calls Tryz.prog 71 #[v,.int .i64 g.wire,.bool g.no] w (qe l g w):=by
 obtain ⟨A,cap,rfl,h1,h2,h3⟩:=h
 obtain ⟨i0,hi0,hz0,hz1,hz2⟩:=info_parts lN
 have HA:Hid (∀x∈l++ [g],aW x (fk x)):=by
  intro x hx
  rcases List.mem_append.1 hx with hx|hx
  ·obtain ⟨i,hi⟩:=List.getElem?_of_mem hx
   obtain ⟨_,_,y,_,_,hy,wy,_⟩:=h3.gd (List.getElem?_eq_some_iff.1 hi).1
   rw[hi] at hy
   injection hy with hy
   exact ⟨rfl,hy▸wy⟩
  ·simp at hx
   rw[hx]
   exact ⟨rfl,wg⟩
 have hend:Hid (∀W v',W.ownsRow w.heap.size 61 2 v' (l.length+1) ((l.map fk).flatten++ [.int .i64 g.wire,.bool g.no])->aI W W.heap.size 2 aW v' (l++ [g])):=fun W v' ho=>tg ho HA.o
 obtain ⟨gw,gn⟩:=g
 dsimp only at wg
 rcases A with _|ad
 ·have h0:=h3.none
  subst h0
  have HC1:Hid (∀j u,[Value.int .i64 gw,.bool gn][j]? =some u->((w.alloc (.cells #[] 61)).alloc (.cells #[.int .i64 gw,.bool gn] 61)).cell? ((⟨w.heap.size+1,0,none⟩:Addr).add j)=some u):=by
   have:=iq (w.alloc (.cells #[] 61)) 61 (.int .i64 gw) (.bool gn)
   rwa [World.size_alloc] at this
  have HC2:Hid (∀u∈[Value.int .i64 gw,.bool gn],u.oneCell'=true):=by intro u hu;simp at hu;rcases hu with rfl|rfl<;>rfl
  clear h3
  go_enter Tryz.func71,Tryz.ntmps71
  go_wp2_with (at_builtin;first|(refine kZ rfl _ _ 50 rfl w.heap.size 61 i0 2 Tryz.underlying50 hi0 _ _ _ rfl (fG w 61 2) cap rfl ?_)|(refine wpList_append_own _ rfl _ _ 50 rfl w.heap.size 61 i0 (.agg #[.int .i64 0,.bool false]) 2 16 Tryz.underlying50 hi0 hz0 hz1 hz2 rfl (by decide) _ _ _ rfl ((fG w 61 2).alloc _) ⟨w.heap.size+1,0,none⟩ 1 1 [.int .i64 gw,.bool gn] rfl rfl HC1.o HC2.o (by unfold maxLen;omega) (by omega) (by simp;omega) ?_))
  intro v' w1 hown hgrow _
  have bb:=aY (((Below.refl w.heap.size w).alloc (Nat.le_refl _) (.cells #[] 61)).alloc (by simp) (.cells #[.int .i64 gw,.bool gn] 61)) ((fG w 61 2).alloc _) hgrow (by simp;omega)
  have HO:=zH hown
  clear hown hgrow
  go_wp2_with fail
  go_ret
  exact ⟨_,rfl,⟨_,_,(by simpa using HO.o),fun W ho=>hend.out W _ ho⟩,bb⟩
 ·refine' zq270
  have HN:=zH hN
  have HC2:Hid (∀u∈[Value.int .i64 gw,.bool gn],u.oneCell'=true):=by intro u hu;simp at hu;rcases hu with rfl|rfl<;>rfl
  clear h3 hN
  go_enter Tryz.func71,Tryz.ntmps71
  go_wp2_with (at_builtin;refine wpList_append_own _ rfl _ _ 50 rfl w.heap.size 61 i0 (.agg #[.int .i64 0,.bool false]) 2 16 Tryz.underlying50 hi0 hz0 hz1 hz2 rfl (by decide) _ _ _ rfl (fG w 61 2) ad l.length cap (l.map fk).flatten rfl HL.o HN.o HO.o (by unfold maxLen;omega) (by omega) (by simp) ?_)
  refine' zq250
  clear hgrow
  have hs1:=bb.size
  go_wp2_with (at_builtin;refine wpList_append_own _ rfl _ _ 50 rfl w.heap.size 61 i0 (.agg #[.int .i64 0,.bool false]) 2 16 Tryz.underlying50 hi0 hz0 hz1 hz2 rfl (by decide) _ _ _ rfl (hown.alloc _) ⟨w1.heap.size,0,none⟩ 1 1 [.int .i64 gw,.bool gn] rfl rfl (iq _ _ _ _) HC2.o (by unfold maxLen;omega) (by omega) (by simp;omega) ?_)
  intro v2 w2 hown2 hgrow2 _
  have b2:=aY (bb.alloc hs1 (.cells #[.int .i64 gw,.bool gn] 61)) (hown.alloc _) hgrow2 (by simp;omega)
  have HO2:=zH hown2
  clear hown hown2 hgrow2
  go_wp2_with fail
  go_ret
  exact ⟨_,rfl,⟨_,_,HO2.o,fun W ho=>hend.out W _ ho⟩,b2⟩
theorem oN (l:List Gd) (v:Value) (w:World) (h:aI w w.heap.size 2 aW v l) (hl:l.length<=1600) (g:Gd) (wg:Wf g.wire):
  Calls Tryz.prog 71 #[v,.int .i64 g.wire,.bool g.no] w (vy l g w):=
 (mY l v w h hl g wg).mono (fun _ _ ⟨u,h1,⟨_,_,h2,h3⟩,h4⟩=>⟨u,h1,h3 _ h2,h4⟩)
end Go.Proofs.YtckognjamlckcaaGreatDoor
namespace Go.Proofs.YtckognjamlckcaaGreatDoor.Fo
open Vf
def rk (c:Int):Int->List (Int × Int)->Int
 |o,[]=>o
 |o,k::l=>if k.1=c then (if o≠-1 then-2 else rk c k.2 l) else rk c o l
def bO (n:Int):Nat->List Ac->Int
 |_,[]=> -1
 |i,x::l=>if x.dst=n then (i:Int) else bO n (i+1) l
end Go.Proofs.YtckognjamlckcaaGreatDoor.Fo
namespace Go.Proofs.YtckognjamlckcaaGreatDoor
open Go.RowKit Vf Fo
attribute [local go_sem ↓] Go.wp_at_zero Go.wp_at_succ
theorem km {α:Type} {l:List α} {k:Nat} {x:α} (h:l[k]? =some x):l.drop k=x::l.drop (k+1):=by
 obtain ⟨hk,rfl⟩:=List.getElem?_eq_some_iff.1 h
 exact List.drop_eq_getElem_cons hk
theorem oK {w:World} {f:Fm} {vw va vc vk vi vo:Value} (h:bQ w w.heap.size f vw va vc vk vi vo) (c:Int):
  Calls Tryz.prog 34 #[dp vw va vc vk vi vo,.int .i64 c] w fun e w'=>e= .returned (.int .i64 (rk c (-1) f.keeps))/\Below w.heap.size w w':=by
 obtain ⟨Ak,ck,rfl,lk,mk,sk⟩:=h.keeps
 have mk':ck<=9223372036854775807:=by unfold maxLen at mk;omega
 have b1:Below w.heap.size w (w.alloc (.cells #[vw,va,vc,.slice Ak f.keeps.length ck,vi,vo] 28)):=bE
 have HSK:=zH (sk.below b1)
 have rF:=ai.new w #[vw,va,vc,.slice Ak f.keeps.length ck,vi,vo] 28
 clear h sk
 go_enter Tryz.func34,Tryz.ntmps34
 go_upto_region 1 with (fail)
 generalize w.alloc (.cells #[vw,va,vc,.slice Ak f.keeps.length ck,vi,vo] 28)=w1 at*
 have f3:=rF.cell 3
 simp only[List.getElem?_toArray,List.getElem?_cons_succ,List.getElem?_cons_zero] at f3
 clear rF
 go_wp2_with fail
 go_loopw[5,6] (fun o i wr=>∃(k:Nat) (q:Int),k<=f.keeps.length/\o= .int .i64 q/\i= .int .i64 k/\Hid (rk c (-1) f.keeps=rk c q (f.keeps.drop k))/\w1=wr) (fun _ i _=>f.keeps.length-(intOf i).toNat)
 case atStart=>exact ⟨0,-1,Nat.zero_le _,rfl,rfl,(by rw[List.drop_zero];exact rfl),rfl⟩
 case round=>
  obtain ⟨k,q,hk,rfl,rfl,HR,rfl⟩:=hrel
  by_cases hlt:k<f.keeps.length
  ·obtain ⟨b,off,⟨c0,fr⟩,hAk,hbb,hx,wx1,wx2,d0,d1⟩:=HSK.o.cell hlt
   subst hAk
   dsimp only at d0 d1
   have HX:=zH hx
   have HE:=zH (show rk c q (f.keeps.drop k)=_ by rw[km hx,rk])
   clear hx
   by_cases e1:c0=c
   ·have e1':(c0==c)=true:=by simp[e1]
    by_cases e2:q= -1
    ·have e2':(q != -1)=false:=by simp[e2]
     have HR':Hid (rk c (-1) f.keeps=rk c fr (f.keeps.drop (k+1))):=by
      show _=_
      rw[HR.o,HE.o,if_pos e1,if_neg (fun g=>g e2)]
     clear e1 e2
     go_wp2_with fail
     go_roundw
     case rel=>exact ⟨k+1,fr,by omega,rfl,by go_num,HR'.o,trivial⟩
     case measure=>simp[intOf];omega
    ·have e2':(q != -1)=true:=by simp[e2]
     have HF:Hid (rk c (-1) f.keeps= -2):=by
      show _=_
      rw[HR.o,HE.o,if_pos e1,if_pos e2]
     clear e1 e2
     refine' zq245
   ·have e1':(c0==c)=false:=by simp[e1]
    have HR':Hid (rk c (-1) f.keeps=rk c q (f.keeps.drop (k+1))):=by
     show _=_
     rw[HR.o,HE.o,if_neg e1]
    clear e1
    go_wp2_with fail
    go_roundw
    case rel=>exact ⟨k+1,q,by omega,rfl,by go_num,HR'.o,trivial⟩
    case measure=>simp[intOf];omega
  ·obtain rfl:k=f.keeps.length:=by omega
   have HF:Hid (rk c (-1) f.keeps=q):=by show _=_;rw[HR.o,List.drop_length,rk]
   refine' zq245
theorem tA {w:World} {f:Fm} {vw va vc vk vi vo:Value} (h:bQ w w.heap.size f vw va vc vk vi vo) (n:Int):
  Calls Tryz.prog 35 #[dp vw va vc vk vi vo,.int .i64 n] w fun e w'=>e= .returned (.int .i64 (bO n 0 f.acts))/\Below w.heap.size w w':=by
 obtain ⟨Aa,ca,rfl,la,ma,sa⟩:=h.acts
 have ma':ca<=9223372036854775807:=by unfold maxLen at ma;omega
 have b1:Below w.heap.size w (w.alloc (.cells #[vw,.slice Aa f.acts.length ca,vc,vk,vi,vo] 28)):=bE
 have HSA:=zH (sa.below b1)
 have rF:=ai.new w #[vw,.slice Aa f.acts.length ca,vc,vk,vi,vo] 28
 clear h sa
 go_enter Tryz.func35,Tryz.ntmps35
 go_upto_region 1 with (fail)
 generalize w.alloc (.cells #[vw,.slice Aa f.acts.length ca,vc,vk,vi,vo] 28)=w1 at*
 have f1:=rF.cell 1
 simp only[List.getElem?_toArray,List.getElem?_cons_succ,List.getElem?_cons_zero] at f1
 clear rF
 go_wp2_with fail
 go_loopw[5] (fun i wr=>∃(k:Nat),k<=f.acts.length/\i= .int .i64 k/\Hid (bO n 0 f.acts=bO n k (f.acts.drop k))/\w1=wr) (fun i _=>f.acts.length-(intOf i).toNat)
 case atStart=>exact ⟨0,Nat.zero_le _,rfl,(by rw[List.drop_zero];exact rfl),rfl⟩
 case round=>
  obtain ⟨k,hk,rfl,HR,rfl⟩:=hrel
  by_cases hlt:k<f.acts.length
  ·obtain ⟨b,off,⟨xo,xd,xa,xb,xc,xk⟩,hAa,hbb,hx,wx,d0,d1,d2,d3,d4,d5⟩:=HSA.o.ac hlt
   subst hAa
   dsimp only at d0 d1 d2 d3 d4 d5
   have HE:=zH (show bO n k (f.acts.drop k)=_ by rw[km hx,bO])
   clear hx
   by_cases e1:xd=n
   ·have e1':(xd==n)=true:=by simp[e1]
    have HF:Hid (bO n 0 f.acts=k):=by
     show _=_
     rw[HR.o,HE.o,if_pos e1]
    clear e1
    refine' zq245
   ·have e1':(xd==n)=false:=by simp[e1]
    have HR':Hid (bO n 0 f.acts=bO n (k+1) (f.acts.drop (k+1))):=by
     show _=_
     rw[HR.o,HE.o,if_neg e1]
    clear e1
    go_wp2_with fail
    go_roundw
    case rel=>exact ⟨k+1,by omega,by go_num,HR'.o,trivial⟩
    case measure=>first|(simp[intOf];omega)|simp[intOf]
  ·obtain rfl:k=f.acts.length:=by omega
   have HF:Hid (bO n 0 f.acts= -1):=by show _=_;rw[HR.o,List.drop_length,bO]
   refine' zq245
theorem pe {f:Fm} {l:List Int} {k:Nat} {n:Int} (h:l[k]? =some n) (hn:¬(ak f n/\aa f n=[])):¬bG f l:=fun g=>hn (g.1 n (List.mem_of_getElem? h))
theorem nR {w:World} {f:Fm} {vw va vc vk vi vo:Value} (h:bQ w w.heap.size f vw va vc vk vi vo) (l:List Int) (v:Value) (hl:aI w w.heap.size 1 aP v l):
  Calls Tryz.prog 32 #[dp vw va vc vk vi vo,v] w fun e w'=>e= .returned (.bool (cB (bG f l)))/\Below w.heap.size w w':=by
 obtain ⟨A,c,rfl,l1,m1,s1⟩:=hl
 have m1':c<=9223372036854775807:=by unfold maxLen at m1;omega
 have b1:Below w.heap.size w (w.alloc (.cells #[vw,va,vc,vk,vi,vo] 28)):=bE
 have HFM:=zH (fun W (hW:Below w.heap.size w W)=>h.below hW)
 have HSL:=zH (fun W (hW:Below w.heap.size w W)=>s1.below hW)
 have rF:=ai.new w #[vw,va,vc,vk,vi,vo] 28
 clear h s1
 go_enter Tryz.func32,Tryz.ntmps32
 go_upto_region 1 with (fail)
 generalize w.alloc (.cells #[vw,va,vc,vk,vi,vo] 28)=w1 at*
 have hFl:=rF.lt
 have hs1:=b1.size
 have HF6:Hid (∀W,Below w1.heap.size w1 W->W.cell? ⟨w.heap.size,0,none⟩=some vw/\W.cell? ⟨w.heap.size,1,none⟩=some va/\W.cell? ⟨w.heap.size,2,none⟩=some vc/\W.cell? ⟨w.heap.size,3,none⟩=some vk/\W.cell? ⟨w.heap.size,4,none⟩=some vi/\W.cell? ⟨w.heap.size,5,none⟩=some vo):=fun W hW=>(rF.below hW hFl).six'
 refine' zq123
 clear rF
 go_wp2_with fail
 go_loopw[5] (fun i wr=>∃(k:Nat),k<=l.length/\i= .int .i64 k/\Hid (∀j,j<k->∀n,l[j]? =some n->ak f n/\aa f n=[])/\Below w1.heap.size w1 wr) (fun i _=>l.length-(intOf i).toNat)
 case atStart=>exact ⟨0,Nat.zero_le _,rfl,fun j hj=>absurd hj (by omega),Below.refl _ _⟩
 case round=>
  obtain ⟨k,hk,rfl,HP,hb⟩:=hrel
  have hbw:=HBW.o _ hb
  have hsr:=hb.size
  have hsw:=hbw.size
  by_cases hlt:k<l.length
  ·obtain ⟨b,off,n,rfl,hbb,hx,wx,d0⟩:=(HSL.o _ hbw).int hlt
   have HX:=zH hx
   have hk':(k:Int)<l.length:=by omega
   have HS:Hid (∀W,Below wr.heap.size wr W->W.cell? ⟨w.heap.size,0,none⟩=some vw/\W.cell? ⟨w.heap.size,1,none⟩=some va/\W.cell? ⟨w.heap.size,2,none⟩=some vc/\W.cell? ⟨w.heap.size,3,none⟩=some vk/\W.cell? ⟨w.heap.size,4,none⟩=some vi/\W.cell? ⟨w.heap.size,5,none⟩=some vo/\W.cell? ⟨b,off+k,none⟩=some (.int .i64 n)):=fun W hW=>by
    obtain ⟨a0,a1,a2,a3,a4,a5⟩:=HF6.o W (hb.trans (hW.mono hsr))
    exact ⟨a0,a1,a2,a3,a4,a5,cell_kept d0 hW⟩
   have HI:Hid (∀W V,Below wr.heap.size wr W->cB (ak f n)=V->Calls Tryz.prog 30 #[dp vw va vc vk vi vo,.int .i64 n] W fun e w'=>e= .returned (.bool V)/\Below W.heap.size W w'):=fun W V hW hV=>by
    have:=fY (HFM.o W (hbw.trans (hW.mono hsw))) n
    rw[hV] at this
    exact this
   have HB5:Hid (∀W,Below wr.heap.size wr W->Below w1.heap.size w1 W/\Below w.heap.size w W):=fun W hW=>⟨hb.trans (hW.mono hsr),hbw.trans (hW.mono hsw)⟩
   clear hx d0
   go_upto_region 4 with (fail)
   by_cases hw:ak f n
   rotate_left 1
   ·have HF:=zH (ab (pe HX.o (fun g=>hw g.1)))
    have hV:=zH (ab hw)
    clear hw
    refine wp_region_held_drew (S:=fun W=>W.cell? ⟨w.heap.size,0,none⟩=some vw/\W.cell? ⟨w.heap.size,1,none⟩=some va/\W.cell? ⟨w.heap.size,2,none⟩=some vc/\W.cell? ⟨w.heap.size,3,none⟩=some vk/\W.cell? ⟨w.heap.size,4,none⟩=some vi/\W.cell? ⟨w.heap.size,5,none⟩=some vo/\W.cell? ⟨b,off+k,none⟩=some (.int .i64 n)) (by kernel_rfl) ?_ (fun hHeld=>?_)
    ·refine' zq21
    refine' zq145
    refine' zq13
    refine tk 6 (some 18) rfl ?_
    refine tk 7 (some 19) rfl ?_
    refine sk 8 (some 20) rfl ?_
    refine sk 9 (some 21) rfl ?_
    refine sk 10 (some 22) rfl ?_
    refine sk 11 (some 23) rfl ?_
    refine sk 12 (some 24) rfl ?_
    refine sk 13 (some 25) rfl ?_
    refine sk 14 (some 26) rfl ?_
    refine sk 15 (some 27) rfl ?_
    refine sk 16 (some 28) rfl ?_
    refine sk 17 (some 29) rfl ?_
    refine sk 18 (some 30) rfl ?_
    refine tk 19 (some 31) rfl ?_
    refine' zq26
    go_ret
    exact ⟨aj HF.o.symm,(HB5.o _ bE).2⟩
   have hV:=zH (aq hw)
   have HW:=zH hw
   obtain ⟨m,b2,off2,cw2,Ag2,cg2,rfl,hm,hv2,_,mw2,hb2,wt2,y0,y1,lg2,mg2,_⟩:=fW (HFM.o _ hbw) hw
   subst hv2
   have hm':(m:Int)<f.wires.length:=by omega
   have HS2:Hid (∀W,Below wr.heap.size wr W->W.cell? ⟨w.heap.size,0,none⟩=some (.slice (some ⟨b2,off2,none⟩) f.wires.length cw2)/\W.cell? ⟨w.heap.size,1,none⟩=some va/\W.cell? ⟨w.heap.size,2,none⟩=some vc/\W.cell? ⟨w.heap.size,3,none⟩=some vk/\W.cell? ⟨w.heap.size,4,none⟩=some vi/\W.cell? ⟨w.heap.size,5,none⟩=some vo/\W.cell? ⟨b,off+k,none⟩=some (.int .i64 (m:Int))/\W.cell? ⟨b2,off2+m*2+1,none⟩=some (.slice Ag2 (aa f (m:Int)).length cg2)):=fun W hW=>by
    obtain ⟨a0,a1,a2,a3,a4,a5,a6⟩:=HS.o W hW
    exact ⟨a0,a1,a2,a3,a4,a5,a6,cell_kept y1 hW⟩
   have hcg2:cg2<=9223372036854775807:=by unfold maxLen at mg2;omega
   clear hw y0 y1 wt2
   generalize hcl:(aa f (m:Int)).length=len at*
   have HCL:=zH hcl
   clear hcl
   by_cases hz:0<len
   ·have HF:=zH (ab (pe HX.o (fun g=>by have:=HCL.o;rw[g.2] at this;simp at this;omega)))
    have e1:decide ((0:Int)<(len:Int))=true:=decide_eq_true (by omega)
    have e2:decide (0<len)=true:=decide_eq_true (by omega)
    refine wp_region_held_drew (S:=fun W=>W.cell? ⟨w.heap.size,0,none⟩=some (.slice (some ⟨b2,off2,none⟩) f.wires.length cw2)/\W.cell? ⟨w.heap.size,1,none⟩=some va/\W.cell? ⟨w.heap.size,2,none⟩=some vc/\W.cell? ⟨w.heap.size,3,none⟩=some vk/\W.cell? ⟨w.heap.size,4,none⟩=some vi/\W.cell? ⟨w.heap.size,5,none⟩=some vo/\W.cell? ⟨b,off+k,none⟩=some (.int .i64 (m:Int))/\W.cell? ⟨b2,off2+m*2+1,none⟩=some (.slice Ag2 len cg2)) (by kernel_rfl) ?_ (fun hHeld=>?_)
    ·refine' zq172
    refine' zq61
    go_ret
    exact ⟨aj HF.o.symm,(HB5.o _ bE).2⟩
   have HP':=zH (aC HP.o (fun y hy=>by rw[HX.o] at hy;injection hy with hy;rw[<-hy];exact ⟨HW.o,List.eq_nil_of_length_eq_zero (by have:=HCL.o;omega)⟩))
   obtain rfl:len=0:=by omega
   clear hz
   refine wp_region_held_drew (S:=fun W=>W.cell? ⟨w.heap.size,0,none⟩=some (.slice (some ⟨b2,off2,none⟩) f.wires.length cw2)/\W.cell? ⟨w.heap.size,1,none⟩=some va/\W.cell? ⟨w.heap.size,2,none⟩=some vc/\W.cell? ⟨w.heap.size,3,none⟩=some vk/\W.cell? ⟨w.heap.size,4,none⟩=some vi/\W.cell? ⟨w.heap.size,5,none⟩=some vo/\W.cell? ⟨b,off+k,none⟩=some (.int .i64 (m:Int))/\W.cell? ⟨b2,off2+m*2+1,none⟩=some (.slice Ag2 0 cg2)) (by kernel_rfl) ?_ (fun hHeld=>?_)
   ·refine' zq172
   refine' zq61
   go_roundw
   case rel=>exact ⟨k+1,by omega,by go_num,HP'.o,(HB5.o _ bE).1⟩
   case measure=>simp[intOf];omega
  ·obtain rfl:k=l.length:=by omega
   by_cases hz:1<=l.length/\l.length<=8
   ·have HF:=zH (aq (show bG f l from ⟨dY HP.o,hz.1,hz.2⟩))
    have e1:decide ((0:Int)<(l.length:Int))=true:=decide_eq_true (by omega)
    have e1':decide (0<l.length)=true:=decide_eq_true (by omega)
    have e2:decide ((l.length:Int)<=8)=true:=decide_eq_true (by omega)
    have e2':decide (l.length<=8)=true:=decide_eq_true (by omega)
    clear hz
    go_wp2_with fail
    go_ret
    exact ⟨aj HF.o.symm,hbw⟩
   ·have HF:=zH (ab (fun g:bG f l=>hz ⟨g.2.1,g.2.2⟩))
    by_cases hz0:1<=l.length
    ·have e1:decide ((0:Int)<(l.length:Int))=true:=decide_eq_true (by omega)
     have e1':decide (0<l.length)=true:=decide_eq_true (by omega)
     have e2:decide ((l.length:Int)<=8)=false:=decide_eq_false (by omega)
     have e2':decide (l.length<=8)=false:=decide_eq_false (by omega)
     clear hz hz0
     go_wp2_with fail
     go_ret
     exact ⟨aj HF.o.symm,hbw⟩
    ·have e1:decide ((0:Int)<(l.length:Int))=false:=decide_eq_false (by omega)
     have e1':decide (0<l.length)=false:=decide_eq_false (by omega)
     clear hz hz0
     go_wp2_with fail
     go_ret
     exact ⟨aj HF.o.symm,hbw⟩
theorem rU {w:World} {f:Fm} {vw va vc vk vi vo:Value} (h:bQ w w.heap.size f vw va vc vk vi vo) (op dst a b c k:Int) (hn:bl op<0\/¬cm f a b c):
  Calls Tryz.prog 36 #[dp vw va vc vk vi vo,fT ⟨op,dst,a,b,c,k⟩] w fun e w'=>e= .returned (.bool (cB (au f ⟨op,dst,a,b,c,k⟩)))/\Below w.heap.size w w':=by
 have b1:Below w.heap.size w ((w.alloc (.cells #[vw,va,vc,vk,vi,vo] 28)).alloc (.cells #[.int .i64 op,.int .i64 dst,.int .i64 a,.int .i64 b,.int .i64 c,.int .i64 k] 58)):=bE
 have rF:ai ((w.alloc (.cells #[vw,va,vc,vk,vi,vo] 28)).alloc (.cells #[.int .i64 op,.int .i64 dst,.int .i64 a,.int .i64 b,.int .i64 c,.int .i64 k] 58)) w.heap.size #[vw,va,vc,vk,vi,vo] 28:=(ai.new w _ _).alloc _
 have rX:ai ((w.alloc (.cells #[vw,va,vc,vk,vi,vo] 28)).alloc (.cells #[.int .i64 op,.int .i64 dst,.int .i64 a,.int .i64 b,.int .i64 c,.int .i64 k] 58)) (w.heap.size+1) #[.int .i64 op,.int .i64 dst,.int .i64 a,.int .i64 b,.int .i64 c,.int .i64 k] 58:=dw w _ _ _
 have HFM:=zH (fun W (hW:Below w.heap.size w W)=>h.next hW)
 have hs1a:w.heap.size+1+1<=((w.alloc (.cells #[vw,va,vc,vk,vi,vo] 28)).alloc (.cells #[.int .i64 op,.int .i64 dst,.int .i64 a,.int .i64 b,.int .i64 c,.int .i64 k] 58)).heap.size:=by simp
 obtain ⟨Aw,cw,hvw,lw,mw,_⟩:=h.wires
 refine' zq62
 subst hvw
 have HN:=zH hn
 clear hn
 clear h
 go_enter Tryz.func36,Tryz.ntmps36
 go_upto_region 1 with (fail)
 generalize ((w.alloc (.cells #[.slice Aw f.wires.length cw,va,vc,vk,vi,vo] 28)).alloc (.cells #[.int .i64 op,.int .i64 dst,.int .i64 a,.int .i64 b,.int .i64 c,.int .i64 k] 58))=w1 at*
 have hXl:=rX.lt
 have hs1:=b1.size
 refine' zq123
 have HCX:Hid (∀W,Below w1.heap.size w1 W->(W.cell? ⟨w.heap.size,0,none⟩=some (.slice Aw f.wires.length cw)/\W.cell? ⟨w.heap.size,1,none⟩=some va/\W.cell? ⟨w.heap.size,2,none⟩=some vc/\W.cell? ⟨w.heap.size,3,none⟩=some vk/\W.cell? ⟨w.heap.size,4,none⟩=some vi/\W.cell? ⟨w.heap.size,5,none⟩=some vo)/\
   (W.cell? ⟨w.heap.size+1,0,none⟩=some (.int .i64 op)/\W.cell? ⟨w.heap.size+1,1,none⟩=some (.int .i64 dst)/\W.cell? ⟨w.heap.size+1,2,none⟩=some (.int .i64 a)/\W.cell? ⟨w.heap.size+1,3,none⟩=some (.int .i64 b)/\W.cell? ⟨w.heap.size+1,4,none⟩=some (.int .i64 c)/\W.cell? ⟨w.heap.size+1,5,none⟩=some (.int .i64 k))):=fun W hW=>
  ⟨(rF.below hW (by omega)).six',(rX.below hW hXl).six'⟩
 have HI:Hid (∀W n V,Below w1.heap.size w1 W->cB (ak f n)=V->Calls Tryz.prog 30 #[dp (.slice Aw f.wires.length cw) va vc vk vi vo,.int .i64 n] W fun e w'=>e= .returned (.bool V)/\Below W.heap.size W w'):=fun W n V hW hV=>by
  have:=fY (HFM.o W (HBW.o W hW)) n
  rw[hV] at this
  exact this
 clear rF rX
 obtain ⟨⟨f0,f1,f2,f3,f4,f5⟩,c0,c1,c2,c3,c4,c5⟩:=HCX.o w1 (Below.refl _ _)
 refine' zq215
 rintro e w1' ⟨rfl,rfl⟩
 generalize hu:bl op=u at*
 have HU:=zH hu
 clear hu
 by_cases h0:u<0
 ·have HF:=zH (ab (fun g:au f ⟨op,dst,a,b,c,k⟩=>by have:=g.2.2.2.1;dsimp only at this;rw[HU.o] at this;omega))
  have e0:decide (u<0)=true:=decide_eq_true h0
  refine' zq112
 have e0:decide (u<0)=false:=decide_eq_false h0
 have HF:Hid (cB (au f ⟨op,dst,a,b,c,k⟩)=false):=ab (fun g=>by
  rcases HN.o with h|h
  ·exact h0 h
  ·exact h ⟨g.1,g.2.1,g.2.2.1⟩)
 have hnn:¬cm f a b c:=by
  rcases HN.o with h|h
  ·exact absurd h h0
  ·exact h
 clear h0
 by_cases ha:ak f a
 rotate_left 1
 ·have HVa:=zH (ab ha)
  clear ha hnn
  go_wp2_with fail
  (with_reducible refine (HI.o _ a _ (Below.refl _ _) HVa.o).mono ?_)
  refine' zq165
  go_wp2_with fail
  go_ret
  exact ⟨aj HF.o.symm,HBW.o _ bw2⟩
 have HVa:=zH (aq ha)
 go_wp2_with fail
 (with_reducible refine (HI.o _ a _ (Below.refl _ _) HVa.o).mono ?_)
 refine' zq165
 by_cases hb:ak f b
 rotate_left 1
 ·have HVb:=zH (ab hb)
  clear ha hb hnn
  go_wp2_with fail
  (with_reducible refine (HI.o _ b _ bw2 HVb.o).mono ?_)
  refine' zq146
  go_wp2_with fail
  go_ret
  exact ⟨aj HF.o.symm,HBW.o _ bw3⟩
 have HVb:=zH (aq hb)
 go_wp2_with fail
 (with_reducible refine (HI.o _ b _ bw2 HVb.o).mono ?_)
 refine' zq146
 have HVc:=zH (ab (fun g:ak f c=>hnn ⟨ha,hb,g⟩))
 clear ha hb hnn
 go_wp2_with fail
 (with_reducible refine (HI.o _ c _ bw3 HVc.o).mono ?_)
 refine' zq266
 refine' zq196
end Go.Proofs.YtckognjamlckcaaGreatDoor
