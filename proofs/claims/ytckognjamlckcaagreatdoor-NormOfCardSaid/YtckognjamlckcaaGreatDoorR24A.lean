/-
  The document's words on forms: is, ports, Guards, In, Kept, By, Uses. The document's With: a clock with one guard more. The document's words on forms: Kept, By, ports, Wants. The document's act: ops that name no parts.
-/
import Derived.Test.YtckognjamlckcaaGreatDoorZz
import Derived.Test.YtckognjamlckcaaGreatDoorOrdB
import Derived.Deep.RegionHeld3
import Derived.Test.YtckognjamlckcaaGreatDoorNmD
import Derived.Test.YtckognjamlckcaaGreatDoorLookA
set_option maxHeartbeats 8000000
set_option maxRecDepth 100000
namespace Go.Proofs.YtckognjamlckcaaGreatDoor
open Go.RowKit Vf Fo
attribute [local go_sem ↓] Go.wp_at_zero Go.wp_at_succ
theorem ris_any {w:World} {B:Nat} {f:Fm} {vw va vc vk vi vo:Value} (h:FmAt w B f vw va vc vk vi vo) (n:Int):
  Calls Tryz.prog 30 #[fmV vw va vc vk vi vo,.int .i64 n] w fun e w'=>e= .returned (.bool (cB (isW f n)))∧Below w.heap.size w w':=by
 obtain ⟨Aw,cw,rfl,lw,mw,sw⟩:=h.wires
 refine' zq76
 clear h sw
 have b1:Below w.heap.size w (w.alloc (.cells #[.slice Aw f.wires.length cw,va,vc,vk,vi,vo] 28)):=bE
 by_cases h0:0≤n
 ·have e0:decide (0≤n)=true:=decide_eq_true h0
  by_cases h1:n<f.wires.length
  ·have HF:=Lib.hid (cB_true (show isW f n from ⟨h0,h1⟩))
   have e1:decide (n<(f.wires.length:Int))=true:=decide_eq_true h1
   clear h0 h1
   refine' zq225
  ·have HF:=Lib.hid (cB_false (fun g:isW f n=>h1 g.2))
   have e1:decide (n<(f.wires.length:Int))=false:=decide_eq_false h1
   clear h0 h1
   refine' zq225
 ·have HF:=Lib.hid (cB_false (fun g:isW f n=>h0 g.1))
  have e0:decide (0≤n)=false:=decide_eq_false h0
  clear h0
  refine' zq225
theorem rguards_any (l m:List Gd) (v1 v2:Value) (B:Nat) (w:World) (h1:SlV w B 2 isGd v1 l) (h2:SlV w B 2 isGd v2 m):
  Calls Tryz.prog 31 #[v1,v2] w fun e w'=>e= .returned (.bool (cB (l=m)))∧∃n,w'=w.drewN n:=by
 refine' zq87
 by_cases hl:l.length=m.length
 rotate_left 1
 ·refine' zq174
  go_enter Tryz.func31,Tryz.ntmps31
  go_wp2_with fail
  go_ret
  exact ⟨ret_bool HF.out.symm,0,rfl⟩
 refine' zq154
 go_enter Tryz.func31,Tryz.ntmps31
 go_wp2_with fail
 go_loopw[5] (fun i wr=>∃k:Nat,k≤l.length∧i= .int .i64 k∧Hid (∀j,j<k→∀x y,l[j]? =some x→m[j]? =some y→x=y)∧∃n,wr=w.drewN n) (fun i _=>l.length-(intOf i).toNat)
 case atStart=>exact ⟨0,Nat.zero_le _,rfl,fun j h=>absurd h (by omega),0,rfl⟩
 case round=>
  obtain ⟨k,hk,rfl,HN,n,rfl⟩:=hrel
  by_cases hlt:k<l.length
  ·refine' zq44
  ·obtain rfl:k=l.length:=by omega
   have HF:=Lib.hid (cB_true (gds_eq HL.out HN.out))
   go_wp2_with fail
   go_ret
   exact ⟨ret_bool HF.out.symm,n,rfl⟩
theorem in_at {l:List Int} {n:Int}:n∈l↔∃j,j<l.length∧l[j]? =some n:=by
 constructor
 ·intro h
  obtain ⟨j,hj⟩:=List.getElem?_of_mem h
  exact ⟨j,(List.getElem?_eq_some_iff.1 hj).1,hj⟩
 ·rintro ⟨j,_,hj⟩
  exact List.mem_of_getElem? hj
theorem rin_any (l:List Int) (n:Int) (v:Value) (B:Nat) (w:World) (h:SlV w B 1 isInt v l):
  Calls Tryz.prog 33 #[v,.int .i64 n] w fun e w'=>e= .returned (.bool (cB (n∈l)))∧w=w':=by
 obtain ⟨A,c,rfl,l1,m1,s1⟩:=h
 have m1':c≤9223372036854775807:=by unfold maxLen at m1;omega
 go_enter Tryz.func33,Tryz.ntmps33
 go_wp2_with fail
 go_loopw[5] (fun i wr=>∃k:Nat,k≤l.length∧i= .int .i64 k∧Hid (∀j,j<k→∀x,l[j]? =some x→x≠n)∧w=wr) (fun i _=>l.length-(intOf i).toNat)
 case atStart=>exact ⟨0,Nat.zero_le _,rfl,fun j h=>absurd h (by omega),rfl⟩
 case round=>
  obtain ⟨k,hk,rfl,HN,rfl⟩:=hrel
  by_cases hlt:k<l.length
  ·obtain ⟨b1,o1,x,rfl,hb1,hx,wx,d1⟩:=s1.int hlt
   have HX:=Lib.hid hx
   clear hx
   by_cases e:x=n
   ·have HF:=Lib.hid (cB_true (show n∈l from e▸List.mem_of_getElem? HX.out))
    have e':(x==n)=true:=by simp[e]
    clear e
    go_wp2_with fail
    go_ret
    exact ⟨ret_bool HF.out.symm,rfl⟩
   ·have HN':=Lib.hid (upto_succ HN.out (fun y hy=>by rw[HX.out] at hy;injection hy with hy;rw[←hy];exact e))
    have e':(x==n)=false:=by simp[e]
    clear e
    go_wp2_with fail
    go_roundw
    case rel=>exact ⟨k+1,by omega,by go_num,HN',trivial⟩
    case measure=>first|(simp[intOf];omega)|simp[intOf]
  ·obtain rfl:k=l.length:=by omega
   have HF:=Lib.hid (cB_false (fun g:n∈l=>by obtain ⟨j,hj,hx⟩:=in_at.1 g;exact HN.out j hj _ hx rfl))
   go_wp2_with fail
   go_ret
   exact ⟨ret_bool HF.out.symm,rfl⟩
theorem ruses_any (op:Int) (w:World):
  Calls Tryz.prog 70 #[.int .i64 op] w fun e w'=>e= .returned (.int .i64 (uses op))∧w=w':=by
 go_enter Tryz.func70,Tryz.ntmps70
 go_wp2
 all_goals
  go_ret
  refine ⟨ret_int ?_,rfl⟩
  unfold uses
  simp_all
  try omega
section
theorem run_append_nilc {P:Program} {w:World} (base:Nat) (t ty e:TypeId) (i:TypeInfo) (size:Nat) (ht:P.underlying t=some (.slice e)) (hi:P.info? e=some i)
  (v:Value) (n:Nat) (xs:List Value) (hown:w.ownsRow base e size v n xs) (c:Nat):
  (Builtin.append_ #[t,t] ty #[v,.slice none 0 c]).run P w= .ok v w:=by
 refine' zq228
theorem wpList_append_nilc {P:Program} {w:World} {ops:Array Oper} {rest:List Oper} {o:Oper} {a:Act} {Q:Exit→Act→World→Prop} (hgd:o.guard=none) (s x:Operand) (t:TypeId)
  (ho:o.op= .call {callee:= .builtin .append,args:= #[s,x],argTypes:= #[t,t]})
  (base:Nat) (e:TypeId) (i:TypeInfo) (size:Nat) (ht:P.underlying t=some (.slice e)) (hi:P.info? e=some i)
  (v:Value) (n:Nat) (xs:List Value) (hs:a.eval s=v) (hown:w.ownsRow base e size v n xs) (c:Nat) (hx:a.eval x= .slice none 0 c)
  (h:wpList P ops Q rest (a.put o.dst v) w):wpList P ops Q (o::rest) a w:=by
 refine wpList_plain hgd fun K hK=>?_
 have hrun:=run_append_nilc (P:=P) (w:=w) base t o.type e i size ht hi v n xs hown c
 unfold Oper.wp
 simp[execOp,ho,resolve,invoke,builtin,hs,hx,hrun,Result.andThen]
 exact hK _ _ h
end
def WithIs (l:List Gd) (g:Gd) (w:World) (e:Ending) (w':World):Prop:=∃v,e= .returned v∧SlV w' w'.heap.size 2 isGd v (l++ [g])∧Below w.heap.size w w'
theorem rwith_any (l:List Gd) (v:Value) (w:World) (h:SlV w w.heap.size 2 isGd v l) (hl:l.length≤1600) (g:Gd) (wg:Wf g.wire):
  Calls Tryz.prog 71 #[v,.int .i64 g.wire,.bool g.no] w (WithIs l g w):=by
 obtain ⟨A,cap,rfl,h1,h2,h3⟩:=h
 obtain ⟨i0,hi0,hz0,hz1,hz2⟩:=info_parts info_gd
 have HA:Hid (∀x∈l++ [g],isGd x (gdC x)):=by
  intro x hx
  rcases List.mem_append.1 hx with hx|hx
  ·obtain ⟨i,hi⟩:=List.getElem?_of_mem hx
   obtain ⟨_,_,y,_,_,hy,wy,_⟩:=h3.gd (List.getElem?_eq_some_iff.1 hi).1
   rw[hi] at hy
   injection hy with hy
   exact ⟨rfl,hy▸wy⟩
  ·simp at hx
   rw[hx]
   exact ⟨rfl,wg⟩
 have hend:Hid (∀W v',W.ownsRow w.heap.size 61 2 v' (l.length+1) ((l.map gdC).flatten++ [.int .i64 g.wire,.bool g.no])→SlV W W.heap.size 2 isGd v' (l++ [g])):=fun W v' ho=>snoc_sl ho HA.out
 obtain ⟨gw,gn⟩:=g
 dsimp only at wg
 rcases A with _|ad
 ·have h0:=h3.none
  subst h0
  have HC1:Hid (∀j u,[Value.int .i64 gw,.bool gn][j]? =some u→((w.alloc (.cells #[] 61)).alloc (.cells #[.int .i64 gw,.bool gn] 61)).cell? ((⟨w.heap.size+1,0,none⟩:Addr).add j)=some u):=by
   have:=cell_two (w.alloc (.cells #[] 61)) 61 (.int .i64 gw) (.bool gn)
   rwa [World.size_alloc] at this
  have HC2:Hid (∀u∈[Value.int .i64 gw,.bool gn],u.oneCell'=true):=by intro u hu;simp at hu;rcases hu with rfl|rfl<;>rfl
  clear h3
  go_enter Tryz.func71,Tryz.ntmps71
  go_wp2_with (at_builtin;first|(refine wpList_append_nilc rfl _ _ 50 rfl w.heap.size 61 i0 2 Tryz.underlying50 hi0 _ _ _ rfl (own_empty w 61 2) cap rfl ?_)|(refine wpList_append_own _ rfl _ _ 50 rfl w.heap.size 61 i0 (.agg #[.int .i64 0,.bool false]) 2 16 Tryz.underlying50 hi0 hz0 hz1 hz2 rfl (by decide) _ _ _ rfl ((own_empty w 61 2).alloc _) ⟨w.heap.size+1,0,none⟩ 1 1 [.int .i64 gw,.bool gn] rfl rfl HC1.out HC2.out (by unfold maxLen;omega) (by omega) (by simp;omega) ?_))
  intro v' w1 hown hgrow _
  have bb:=below_own (((Below.refl w.heap.size w).alloc (Nat.le_refl _) (.cells #[] 61)).alloc (by simp) (.cells #[.int .i64 gw,.bool gn] 61)) ((own_empty w 61 2).alloc _) hgrow (by simp;omega)
  have HO:=Lib.hid hown
  clear hown hgrow
  go_wp2_with fail
  go_ret
  exact ⟨_,rfl,hend.out _ _ (by simpa using HO.out),bb⟩
 ·refine' zq295
  have HN:=Lib.hid hN
  have HC2:Hid (∀u∈[Value.int .i64 gw,.bool gn],u.oneCell'=true):=by intro u hu;simp at hu;rcases hu with rfl|rfl<;>rfl
  clear h3 hN
  go_enter Tryz.func71,Tryz.ntmps71
  go_wp2_with (at_builtin;refine wpList_append_own _ rfl _ _ 50 rfl w.heap.size 61 i0 (.agg #[.int .i64 0,.bool false]) 2 16 Tryz.underlying50 hi0 hz0 hz1 hz2 rfl (by decide) _ _ _ rfl (own_empty w 61 2) ad l.length cap (l.map gdC).flatten rfl HL.out HN.out HO.out (by unfold maxLen;omega) (by omega) (by simp) ?_)
  refine' zq277
  clear hgrow
  have hs1:=bb.size
  go_wp2_with (at_builtin;refine wpList_append_own _ rfl _ _ 50 rfl w.heap.size 61 i0 (.agg #[.int .i64 0,.bool false]) 2 16 Tryz.underlying50 hi0 hz0 hz1 hz2 rfl (by decide) _ _ _ rfl (hown.alloc _) ⟨w1.heap.size,0,none⟩ 1 1 [.int .i64 gw,.bool gn] rfl rfl (cell_two _ _ _ _) HC2.out (by unfold maxLen;omega) (by omega) (by simp;omega) ?_)
  intro v2 w2 hown2 hgrow2 _
  have b2:=below_own (bb.alloc hs1 (.cells #[.int .i64 gw,.bool gn] 61)) (hown.alloc _) hgrow2 (by simp;omega)
  have HO2:=Lib.hid hown2
  clear hown hown2 hgrow2
  go_wp2_with fail
  go_ret
  exact ⟨_,rfl,hend.out _ _ HO2.out,b2⟩
end Go.Proofs.YtckognjamlckcaaGreatDoor
namespace Go.Proofs.YtckognjamlckcaaGreatDoor.Fo
open Vf
def rk (c:Int):Int→List (Int × Int)→Int
 |o,[]=>o
 |o,k::l=>if k.1=c then (if o≠-1 then-2 else rk c k.2 l) else rk c o l
def byR (n:Int):Nat→List Ac→Int
 |_,[]=> -1
 |i,x::l=>if x.dst=n then (i:Int) else byR n (i+1) l
end Go.Proofs.YtckognjamlckcaaGreatDoor.Fo
namespace Go.Proofs.YtckognjamlckcaaGreatDoor
open Go.RowKit Vf Fo
attribute [local go_sem ↓] Go.wp_at_zero Go.wp_at_succ
theorem getI_drop2 {α:Type} {l:List α} {k:Nat} {x:α} (h:l[k]? =some x):l.drop k=x::l.drop (k+1):=by
 obtain ⟨hk,rfl⟩:=List.getElem?_eq_some_iff.1 h
 exact List.drop_eq_getElem_cons hk
theorem rkept_any {w:World} {f:Fm} {vw va vc vk vi vo:Value} (h:FmAt w w.heap.size f vw va vc vk vi vo) (c:Int):
  Calls Tryz.prog 34 #[fmV vw va vc vk vi vo,.int .i64 c] w fun e w'=>e= .returned (.int .i64 (rk c (-1) f.keeps))∧Below w.heap.size w w':=by
 obtain ⟨Ak,ck,rfl,lk,mk,sk⟩:=h.keeps
 have mk':ck≤9223372036854775807:=by unfold maxLen at mk;omega
 have b1:Below w.heap.size w (w.alloc (.cells #[vw,va,vc,.slice Ak f.keeps.length ck,vi,vo] 28)):=bE
 have HSK:=Lib.hid (sk.below b1)
 have rF:=Row.new w #[vw,va,vc,.slice Ak f.keeps.length ck,vi,vo] 28
 clear h sk
 go_enter Tryz.func34,Tryz.ntmps34
 go_upto_region 1 with (fail)
 generalize w.alloc (.cells #[vw,va,vc,.slice Ak f.keeps.length ck,vi,vo] 28)=w1 at*
 have f3:=rF.cell 3
 simp only[List.getElem?_toArray,List.getElem?_cons_succ,List.getElem?_cons_zero] at f3
 clear rF
 go_wp2_with fail
 go_loopw[5,6] (fun o i wr=>∃(k:Nat) (q:Int),k≤f.keeps.length∧o= .int .i64 q∧i= .int .i64 k∧Hid (rk c (-1) f.keeps=rk c q (f.keeps.drop k))∧w1=wr) (fun _ i _=>f.keeps.length-(intOf i).toNat)
 case atStart=>exact ⟨0,-1,Nat.zero_le _,rfl,rfl,(by rw[List.drop_zero];exact rfl),rfl⟩
 case round=>
  obtain ⟨k,q,hk,rfl,rfl,HR,rfl⟩:=hrel
  by_cases hlt:k<f.keeps.length
  ·obtain ⟨b,off,⟨c0,fr⟩,hAk,hbb,hx,wx1,wx2,d0,d1⟩:=HSK.out.cell hlt
   subst hAk
   dsimp only at d0 d1
   have HX:=Lib.hid hx
   have HE:=Lib.hid (show rk c q (f.keeps.drop k)=_ by rw[getI_drop2 hx,rk])
   clear hx
   by_cases e1:c0=c
   ·have e1':(c0==c)=true:=by simp[e1]
    by_cases e2:q= -1
    ·have e2':(q != -1)=false:=by simp[e2]
     have HR':Hid (rk c (-1) f.keeps=rk c fr (f.keeps.drop (k+1))):=by
      show _=_
      rw[HR.out,HE.out,if_pos e1,if_neg (fun g=>g e2)]
     clear e1 e2
     go_wp2_with fail
     go_roundw
     case rel=>exact ⟨k+1,fr,by omega,rfl,by go_num,HR'.out,trivial⟩
     case measure=>simp[intOf];omega
    ·have e2':(q != -1)=true:=by simp[e2]
     have HF:Hid (rk c (-1) f.keeps= -2):=by
      show _=_
      rw[HR.out,HE.out,if_pos e1,if_pos e2]
     clear e1 e2
     refine' zq272
   ·have e1':(c0==c)=false:=by simp[e1]
    have HR':Hid (rk c (-1) f.keeps=rk c q (f.keeps.drop (k+1))):=by
     show _=_
     rw[HR.out,HE.out,if_neg e1]
    clear e1
    go_wp2_with fail
    go_roundw
    case rel=>exact ⟨k+1,q,by omega,rfl,by go_num,HR'.out,trivial⟩
    case measure=>simp[intOf];omega
  ·obtain rfl:k=f.keeps.length:=by omega
   have HF:Hid (rk c (-1) f.keeps=q):=by show _=_;rw[HR.out,List.drop_length,rk]
   refine' zq272
theorem rby_any {w:World} {f:Fm} {vw va vc vk vi vo:Value} (h:FmAt w w.heap.size f vw va vc vk vi vo) (n:Int):
  Calls Tryz.prog 35 #[fmV vw va vc vk vi vo,.int .i64 n] w fun e w'=>e= .returned (.int .i64 (byR n 0 f.acts))∧Below w.heap.size w w':=by
 obtain ⟨Aa,ca,rfl,la,ma,sa⟩:=h.acts
 have ma':ca≤9223372036854775807:=by unfold maxLen at ma;omega
 have b1:Below w.heap.size w (w.alloc (.cells #[vw,.slice Aa f.acts.length ca,vc,vk,vi,vo] 28)):=bE
 have HSA:=Lib.hid (sa.below b1)
 have rF:=Row.new w #[vw,.slice Aa f.acts.length ca,vc,vk,vi,vo] 28
 clear h sa
 go_enter Tryz.func35,Tryz.ntmps35
 go_upto_region 1 with (fail)
 generalize w.alloc (.cells #[vw,.slice Aa f.acts.length ca,vc,vk,vi,vo] 28)=w1 at*
 have f1:=rF.cell 1
 simp only[List.getElem?_toArray,List.getElem?_cons_succ,List.getElem?_cons_zero] at f1
 clear rF
 go_wp2_with fail
 go_loopw[5] (fun i wr=>∃(k:Nat),k≤f.acts.length∧i= .int .i64 k∧Hid (byR n 0 f.acts=byR n k (f.acts.drop k))∧w1=wr) (fun i _=>f.acts.length-(intOf i).toNat)
 case atStart=>exact ⟨0,Nat.zero_le _,rfl,(by rw[List.drop_zero];exact rfl),rfl⟩
 case round=>
  obtain ⟨k,hk,rfl,HR,rfl⟩:=hrel
  by_cases hlt:k<f.acts.length
  ·obtain ⟨b,off,⟨xo,xd,xa,xb,xc,xk⟩,hAa,hbb,hx,wx,d0,d1,d2,d3,d4,d5⟩:=HSA.out.ac hlt
   subst hAa
   dsimp only at d0 d1 d2 d3 d4 d5
   have HE:=Lib.hid (show byR n k (f.acts.drop k)=_ by rw[getI_drop2 hx,byR])
   clear hx
   by_cases e1:xd=n
   ·have e1':(xd==n)=true:=by simp[e1]
    have HF:Hid (byR n 0 f.acts=k):=by
     show _=_
     rw[HR.out,HE.out,if_pos e1]
    clear e1
    refine' zq272
   ·have e1':(xd==n)=false:=by simp[e1]
    have HR':Hid (byR n 0 f.acts=byR n (k+1) (f.acts.drop (k+1))):=by
     show _=_
     rw[HR.out,HE.out,if_neg e1]
    clear e1
    go_wp2_with fail
    go_roundw
    case rel=>exact ⟨k+1,by omega,by go_num,HR'.out,trivial⟩
    case measure=>first|(simp[intOf];omega)|simp[intOf]
  ·obtain rfl:k=f.acts.length:=by omega
   have HF:Hid (byR n 0 f.acts= -1):=by show _=_;rw[HR.out,List.drop_length,byR]
   refine' zq272
theorem rports_no {f:Fm} {l:List Int} {k:Nat} {n:Int} (h:l[k]? =some n) (hn:¬(isW f n∧clockOf f n=[])):¬portsOk f l:=fun g=>hn (g.1 n (List.mem_of_getElem? h))
theorem rports_any {w:World} {f:Fm} {vw va vc vk vi vo:Value} (h:FmAt w w.heap.size f vw va vc vk vi vo) (l:List Int) (v:Value) (hl:SlV w w.heap.size 1 isInt v l):
  Calls Tryz.prog 32 #[fmV vw va vc vk vi vo,v] w fun e w'=>e= .returned (.bool (cB (portsOk f l)))∧Below w.heap.size w w':=by
 obtain ⟨A,c,rfl,l1,m1,s1⟩:=hl
 have m1':c≤9223372036854775807:=by unfold maxLen at m1;omega
 have b1:Below w.heap.size w (w.alloc (.cells #[vw,va,vc,vk,vi,vo] 28)):=bE
 have HFM:=Lib.hid (fun W (hW:Below w.heap.size w W)=>h.below hW)
 have HSL:=Lib.hid (fun W (hW:Below w.heap.size w W)=>s1.below hW)
 have rF:=Row.new w #[vw,va,vc,vk,vi,vo] 28
 clear h s1
 go_enter Tryz.func32,Tryz.ntmps32
 go_upto_region 1 with (fail)
 generalize w.alloc (.cells #[vw,va,vc,vk,vi,vo] 28)=w1 at*
 have hFl:=rF.lt
 have hs1:=b1.size
 have HF6:Hid (∀W,Below w1.heap.size w1 W→W.cell? ⟨w.heap.size,0,none⟩=some vw∧W.cell? ⟨w.heap.size,1,none⟩=some va∧W.cell? ⟨w.heap.size,2,none⟩=some vc∧W.cell? ⟨w.heap.size,3,none⟩=some vk∧W.cell? ⟨w.heap.size,4,none⟩=some vi∧W.cell? ⟨w.heap.size,5,none⟩=some vo):=fun W hW=>(rF.below hW hFl).six'
 refine' zq144
 clear rF
 go_wp2_with fail
 go_loopw[5] (fun i wr=>∃(k:Nat),k≤l.length∧i= .int .i64 k∧Hid (∀j,j<k→∀n,l[j]? =some n→isW f n∧clockOf f n=[])∧Below w1.heap.size w1 wr) (fun i _=>l.length-(intOf i).toNat)
 case atStart=>exact ⟨0,Nat.zero_le _,rfl,fun j hj=>absurd hj (by omega),Below.refl _ _⟩
 case round=>
  obtain ⟨k,hk,rfl,HP,hb⟩:=hrel
  have hbw:=HBW.out _ hb
  have hsr:=hb.size
  have hsw:=hbw.size
  by_cases hlt:k<l.length
  ·obtain ⟨b,off,n,rfl,hbb,hx,wx,d0⟩:=(HSL.out _ hbw).int hlt
   have HX:=Lib.hid hx
   have hk':(k:Int)<l.length:=by omega
   have HS:Hid (∀W,Below wr.heap.size wr W→W.cell? ⟨w.heap.size,0,none⟩=some vw∧W.cell? ⟨w.heap.size,1,none⟩=some va∧W.cell? ⟨w.heap.size,2,none⟩=some vc∧W.cell? ⟨w.heap.size,3,none⟩=some vk∧W.cell? ⟨w.heap.size,4,none⟩=some vi∧W.cell? ⟨w.heap.size,5,none⟩=some vo∧W.cell? ⟨b,off+k,none⟩=some (.int .i64 n)):=fun W hW=>by
    obtain ⟨a0,a1,a2,a3,a4,a5⟩:=HF6.out W (hb.trans (hW.mono hsr))
    exact ⟨a0,a1,a2,a3,a4,a5,cell_kept d0 hW⟩
   have HI:Hid (∀W V,Below wr.heap.size wr W→cB (isW f n)=V→Calls Tryz.prog 30 #[fmV vw va vc vk vi vo,.int .i64 n] W fun e w'=>e= .returned (.bool V)∧Below W.heap.size W w'):=fun W V hW hV=>by
    have:=ris_any (HFM.out W (hbw.trans (hW.mono hsw))) n
    rw[hV] at this
    exact this
   have HB5:Hid (∀W,Below wr.heap.size wr W→Below w1.heap.size w1 W∧Below w.heap.size w W):=fun W hW=>⟨hb.trans (hW.mono hsr),hbw.trans (hW.mono hsw)⟩
   clear hx d0
   go_upto_region 4 with (fail)
   by_cases hw:isW f n
   rotate_left 1
   ·have HF:=Lib.hid (cB_false (rports_no HX.out (fun g=>hw g.1)))
    have hV:=Lib.hid (cB_false hw)
    clear hw
    refine wp_region_held_drew (S:=fun W=>W.cell? ⟨w.heap.size,0,none⟩=some vw∧W.cell? ⟨w.heap.size,1,none⟩=some va∧W.cell? ⟨w.heap.size,2,none⟩=some vc∧W.cell? ⟨w.heap.size,3,none⟩=some vk∧W.cell? ⟨w.heap.size,4,none⟩=some vi∧W.cell? ⟨w.heap.size,5,none⟩=some vo∧W.cell? ⟨b,off+k,none⟩=some (.int .i64 n)) (by kernel_rfl) ?_ (fun hHeld=>?_)
    ·refine' zq15
    refine' zq163
    refine' zq11
    refine tk 6 (some 18) rfl ?_
    refine tk 7 (some 19) rfl ?_
    refine sk 8 (some 20) rfl ?_
    refine sk 9 (some 21) rfl ?_
    refine sk 10 (some 22) rfl ?_
    refine sk 11 (some 23) rfl ?_
    refine sk 12 (some 24) rfl ?_
    refine sk 13 (some 25) rfl ?_
    refine sk 14 (some 26) rfl ?_
    refine sk 15 (some 27) rfl ?_
    refine sk 16 (some 28) rfl ?_
    refine sk 17 (some 29) rfl ?_
    refine sk 18 (some 30) rfl ?_
    refine tk 19 (some 31) rfl ?_
    refine' zq25
    go_ret
    exact ⟨ret_bool HF.out.symm,(HB5.out _ bE).2⟩
   have hV:=Lib.hid (cB_true hw)
   have HW:=Lib.hid hw
   obtain ⟨m,b2,off2,cw2,Ag2,cg2,rfl,hm,hv2,_,mw2,hb2,wt2,y0,y1,lg2,mg2,_⟩:=fm_wire (HFM.out _ hbw) hw
   subst hv2
   have hm':(m:Int)<f.wires.length:=by omega
   have HS2:Hid (∀W,Below wr.heap.size wr W→W.cell? ⟨w.heap.size,0,none⟩=some (.slice (some ⟨b2,off2,none⟩) f.wires.length cw2)∧W.cell? ⟨w.heap.size,1,none⟩=some va∧W.cell? ⟨w.heap.size,2,none⟩=some vc∧W.cell? ⟨w.heap.size,3,none⟩=some vk∧W.cell? ⟨w.heap.size,4,none⟩=some vi∧W.cell? ⟨w.heap.size,5,none⟩=some vo∧W.cell? ⟨b,off+k,none⟩=some (.int .i64 (m:Int))∧W.cell? ⟨b2,off2+m*2+1,none⟩=some (.slice Ag2 (clockOf f (m:Int)).length cg2)):=fun W hW=>by
    obtain ⟨a0,a1,a2,a3,a4,a5,a6⟩:=HS.out W hW
    exact ⟨a0,a1,a2,a3,a4,a5,a6,cell_kept y1 hW⟩
   have hcg2:cg2≤9223372036854775807:=by unfold maxLen at mg2;omega
   clear hw y0 y1 wt2
   generalize hcl:(clockOf f (m:Int)).length=len at*
   have HCL:=Lib.hid hcl
   clear hcl
   by_cases hz:0<len
   ·have HF:=Lib.hid (cB_false (rports_no HX.out (fun g=>by have:=HCL.out;rw[g.2] at this;simp at this;omega)))
    have e1:decide ((0:Int)<(len:Int))=true:=decide_eq_true (by omega)
    have e2:decide (0<len)=true:=decide_eq_true (by omega)
    refine wp_region_held_drew (S:=fun W=>W.cell? ⟨w.heap.size,0,none⟩=some (.slice (some ⟨b2,off2,none⟩) f.wires.length cw2)∧W.cell? ⟨w.heap.size,1,none⟩=some va∧W.cell? ⟨w.heap.size,2,none⟩=some vc∧W.cell? ⟨w.heap.size,3,none⟩=some vk∧W.cell? ⟨w.heap.size,4,none⟩=some vi∧W.cell? ⟨w.heap.size,5,none⟩=some vo∧W.cell? ⟨b,off+k,none⟩=some (.int .i64 (m:Int))∧W.cell? ⟨b2,off2+m*2+1,none⟩=some (.slice Ag2 len cg2)) (by kernel_rfl) ?_ (fun hHeld=>?_)
    ·refine' zq125
    refine' zq77
    go_ret
    exact ⟨ret_bool HF.out.symm,(HB5.out _ bE).2⟩
   have HP':=Lib.hid (upto_succ HP.out (fun y hy=>by rw[HX.out] at hy;injection hy with hy;rw[←hy];exact ⟨HW.out,List.eq_nil_of_length_eq_zero (by have:=HCL.out;omega)⟩))
   obtain rfl:len=0:=by omega
   clear hz
   refine wp_region_held_drew (S:=fun W=>W.cell? ⟨w.heap.size,0,none⟩=some (.slice (some ⟨b2,off2,none⟩) f.wires.length cw2)∧W.cell? ⟨w.heap.size,1,none⟩=some va∧W.cell? ⟨w.heap.size,2,none⟩=some vc∧W.cell? ⟨w.heap.size,3,none⟩=some vk∧W.cell? ⟨w.heap.size,4,none⟩=some vi∧W.cell? ⟨w.heap.size,5,none⟩=some vo∧W.cell? ⟨b,off+k,none⟩=some (.int .i64 (m:Int))∧W.cell? ⟨b2,off2+m*2+1,none⟩=some (.slice Ag2 0 cg2)) (by kernel_rfl) ?_ (fun hHeld=>?_)
   ·refine' zq125
   refine' zq77
   go_roundw
   case rel=>exact ⟨k+1,by omega,by go_num,HP'.out,(HB5.out _ bE).1⟩
   case measure=>simp[intOf];omega
  ·obtain rfl:k=l.length:=by omega
   by_cases hz:1≤l.length∧l.length≤8
   ·have HF:=Lib.hid (cB_true (show portsOk f l from ⟨all_upto HP.out,hz.1,hz.2⟩))
    have e1:decide ((0:Int)<(l.length:Int))=true:=decide_eq_true (by omega)
    have e1':decide (0<l.length)=true:=decide_eq_true (by omega)
    have e2:decide ((l.length:Int)≤8)=true:=decide_eq_true (by omega)
    have e2':decide (l.length≤8)=true:=decide_eq_true (by omega)
    clear hz
    go_wp2_with fail
    go_ret
    exact ⟨ret_bool HF.out.symm,hbw⟩
   ·have HF:=Lib.hid (cB_false (fun g:portsOk f l=>hz ⟨g.2.1,g.2.2⟩))
    by_cases hz0:1≤l.length
    ·have e1:decide ((0:Int)<(l.length:Int))=true:=decide_eq_true (by omega)
     have e1':decide (0<l.length)=true:=decide_eq_true (by omega)
     have e2:decide ((l.length:Int)≤8)=false:=decide_eq_false (by omega)
     have e2':decide (l.length≤8)=false:=decide_eq_false (by omega)
     clear hz hz0
     go_wp2_with fail
     go_ret
     exact ⟨ret_bool HF.out.symm,hbw⟩
    ·have e1:decide ((0:Int)<(l.length:Int))=false:=decide_eq_false (by omega)
     have e1':decide (0<l.length)=false:=decide_eq_false (by omega)
     clear hz hz0
     go_wp2_with fail
     go_ret
     exact ⟨ret_bool HF.out.symm,hbw⟩
theorem ract_neg {w:World} {f:Fm} {vw va vc vk vi vo:Value} (h:FmAt w w.heap.size f vw va vc vk vi vo) (op dst a b c k:Int) (hn:uses op<0∨¬allW3 f a b c):
  Calls Tryz.prog 36 #[fmV vw va vc vk vi vo,acV ⟨op,dst,a,b,c,k⟩] w fun e w'=>e= .returned (.bool (cB (actOk f ⟨op,dst,a,b,c,k⟩)))∧Below w.heap.size w w':=by
 have b1:Below w.heap.size w ((w.alloc (.cells #[vw,va,vc,vk,vi,vo] 28)).alloc (.cells #[.int .i64 op,.int .i64 dst,.int .i64 a,.int .i64 b,.int .i64 c,.int .i64 k] 58)):=bE
 have rF:Row ((w.alloc (.cells #[vw,va,vc,vk,vi,vo] 28)).alloc (.cells #[.int .i64 op,.int .i64 dst,.int .i64 a,.int .i64 b,.int .i64 c,.int .i64 k] 58)) w.heap.size #[vw,va,vc,vk,vi,vo] 28:=(Row.new w _ _).alloc _
 have rX:Row ((w.alloc (.cells #[vw,va,vc,vk,vi,vo] 28)).alloc (.cells #[.int .i64 op,.int .i64 dst,.int .i64 a,.int .i64 b,.int .i64 c,.int .i64 k] 58)) (w.heap.size+1) #[.int .i64 op,.int .i64 dst,.int .i64 a,.int .i64 b,.int .i64 c,.int .i64 k] 58:=rowNew2 w _ _ _
 have HFM:=Lib.hid (fun W (hW:Below w.heap.size w W)=>h.next hW)
 have hs1a:w.heap.size+1+1≤((w.alloc (.cells #[vw,va,vc,vk,vi,vo] 28)).alloc (.cells #[.int .i64 op,.int .i64 dst,.int .i64 a,.int .i64 b,.int .i64 c,.int .i64 k] 58)).heap.size:=by simp
 obtain ⟨Aw,cw,hvw,lw,mw,_⟩:=h.wires
 refine' zq76
 subst hvw
 have HN:=Lib.hid hn
 clear hn
 clear h
 go_enter Tryz.func36,Tryz.ntmps36
 go_upto_region 1 with (fail)
 generalize ((w.alloc (.cells #[.slice Aw f.wires.length cw,va,vc,vk,vi,vo] 28)).alloc (.cells #[.int .i64 op,.int .i64 dst,.int .i64 a,.int .i64 b,.int .i64 c,.int .i64 k] 58))=w1 at*
 have hXl:=rX.lt
 have hs1:=b1.size
 refine' zq144
 have HCX:Hid (∀W,Below w1.heap.size w1 W→(W.cell? ⟨w.heap.size,0,none⟩=some (.slice Aw f.wires.length cw)∧W.cell? ⟨w.heap.size,1,none⟩=some va∧W.cell? ⟨w.heap.size,2,none⟩=some vc∧W.cell? ⟨w.heap.size,3,none⟩=some vk∧W.cell? ⟨w.heap.size,4,none⟩=some vi∧W.cell? ⟨w.heap.size,5,none⟩=some vo)∧
   (W.cell? ⟨w.heap.size+1,0,none⟩=some (.int .i64 op)∧W.cell? ⟨w.heap.size+1,1,none⟩=some (.int .i64 dst)∧W.cell? ⟨w.heap.size+1,2,none⟩=some (.int .i64 a)∧W.cell? ⟨w.heap.size+1,3,none⟩=some (.int .i64 b)∧W.cell? ⟨w.heap.size+1,4,none⟩=some (.int .i64 c)∧W.cell? ⟨w.heap.size+1,5,none⟩=some (.int .i64 k))):=fun W hW=>
  ⟨(rF.below hW (by omega)).six',(rX.below hW hXl).six'⟩
 have HI:Hid (∀W n V,Below w1.heap.size w1 W→cB (isW f n)=V→Calls Tryz.prog 30 #[fmV (.slice Aw f.wires.length cw) va vc vk vi vo,.int .i64 n] W fun e w'=>e= .returned (.bool V)∧Below W.heap.size W w'):=fun W n V hW hV=>by
  have:=ris_any (HFM.out W (HBW.out W hW)) n
  rw[hV] at this
  exact this
 clear rF rX
 obtain ⟨⟨f0,f1,f2,f3,f4,f5⟩,c0,c1,c2,c3,c4,c5⟩:=HCX.out w1 (Below.refl _ _)
 refine' zq237
 rintro e w1' ⟨rfl,rfl⟩
 generalize hu:uses op=u at*
 have HU:=Lib.hid hu
 clear hu
 by_cases h0:u<0
 ·have HF:=Lib.hid (cB_false (fun g:actOk f ⟨op,dst,a,b,c,k⟩=>by have:=g.2.2.2.1;dsimp only at this;rw[HU.out] at this;omega))
  have e0:decide (u<0)=true:=decide_eq_true h0
  refine' zq133
 have e0:decide (u<0)=false:=decide_eq_false h0
 have HF:Hid (cB (actOk f ⟨op,dst,a,b,c,k⟩)=false):=cB_false (fun g=>by
  rcases HN.out with h|h
  ·exact h0 h
  ·exact h ⟨g.1,g.2.1,g.2.2.1⟩)
 have hnn:¬allW3 f a b c:=by
  rcases HN.out with h|h
  ·exact absurd h h0
  ·exact h
 clear h0
 by_cases ha:isW f a
 rotate_left 1
 ·have HVa:=Lib.hid (cB_false ha)
  clear ha hnn
  go_wp2_with fail
  (with_reducible refine (HI.out _ a _ (Below.refl _ _) HVa.out).mono ?_)
  refine' zq188
  go_wp2_with fail
  go_ret
  exact ⟨ret_bool HF.out.symm,HBW.out _ bw2⟩
 have HVa:=Lib.hid (cB_true ha)
 go_wp2_with fail
 (with_reducible refine (HI.out _ a _ (Below.refl _ _) HVa.out).mono ?_)
 refine' zq188
 by_cases hb:isW f b
 rotate_left 1
 ·have HVb:=Lib.hid (cB_false hb)
  clear ha hb hnn
  go_wp2_with fail
  (with_reducible refine (HI.out _ b _ bw2 HVb.out).mono ?_)
  refine' zq164
  go_wp2_with fail
  go_ret
  exact ⟨ret_bool HF.out.symm,HBW.out _ bw3⟩
 have HVb:=Lib.hid (cB_true hb)
 go_wp2_with fail
 (with_reducible refine (HI.out _ b _ bw2 HVb.out).mono ?_)
 refine' zq164
 have HVc:=Lib.hid (cB_false (fun g:isW f c=>hnn ⟨ha,hb,g⟩))
 clear ha hb hnn
 go_wp2_with fail
 (with_reducible refine (HI.out _ c _ bw3 HVc.out).mono ?_)
 refine' zq291
 refine' zq264
end Go.Proofs.YtckognjamlckcaaGreatDoor
