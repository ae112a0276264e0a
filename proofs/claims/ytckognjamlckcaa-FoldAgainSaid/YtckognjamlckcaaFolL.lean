/-
  fold: the form of what is needed: the walk.
-/
import Derived.Test.YtckognjamlckcaaFolF
import Derived.Test.YtckognjamlckcaaSemP
import Derived.Test.YtckognjamlckcaaFolI
import Derived.Shelf.Abstract
namespace Go.Proofs.Ytckognjamlckcaa
open Go.RowKit Vf Fo Ar
attribute [local go_sem ↓] Go.wp_at_zero Go.wp_at_succ
theorem below_set {B b:Nat} {a w:World} (h:Below B a w) (hb:B≤b) (u:Value):Below B a (w.setCell ⟨b,0,none⟩ u):=h.setCell hb _
theorem Row.set1 {W:World} {b:Nat} {t:TypeId} {x:Value} (h:Row W b #[x] t) (u:Value):Row (W.setCell ⟨b,0,none⟩ u) b #[u] t:=by
 have:=h.set 0 u
 simpa using this
theorem Clo.fr_in {f:Fm} {R:List Int} {A:List Ac} {fr:List Int} {need cl:List Bool} (h:Clo f R A fr need cl) (hf:formOk f) {k:Nat} (hk:k<f.cells.length):isW f (getI fr (k:Int)):=by
 have hc:cellsOk f:=hf.2.2.2.1
 obtain ⟨kk,h1,h2⟩:=hc.2.2.2.2 k hk
 have h3:=(hc.2.2.1 kk h1).2.2.1
 have h4:=h.fk kk h1
 rw[h2] at h4
 rw[h4]
 exact h3
theorem int_atV {W:World} {B n c:Nat} {v:Value} {A:Option Addr} {l:List Int} (h:SlV W B 1 isInt v l) (hv:v= .slice A n c) {k:Nat} {x:Int} (hx:l[k]? =some x):∃b off,A=some ⟨b,off,none⟩∧W.cell? ⟨b,off+k,none⟩=some (.int .i64 x):=by
 obtain ⟨A',c',e,_,_,s⟩:=h
 rw[hv] at e
 injection e with e1 e2 e3
 subst e1
 obtain ⟨b,off,y,h1,_,h3,_,h5⟩:=s.int (List.getElem?_eq_some_iff.1 hx).1
 rw[hx] at h3
 injection h3 with h3
 subst h3
 exact ⟨b,off,h1,h5⟩
theorem cells_at {W:World} {T:TypeId} {xs:List Value} {b:Nat} (hb:b=W.heap.size):∀(j:Nat) (u:Value),xs[j]? =some u→(W.alloc (.cells xs.toArray T)).cell? ((⟨b,0,none⟩:Addr).add j)=some u:=by
 subst hb;exact cells_new W T xs
section
variable {f:Fm} {L:List Int} {q:FoQ} {W:World} {R:List Int} {A:List Ac} {ds need cl:List Bool} {fr:List Int}
def MadeIs (f:Fm) (R:List Int) (A:List Ac) (need cl:List Bool) (fr:List Int) (w:World) (e:Ending) (w':World):Prop:=∃v0 v1 v2 v3 v4 v5,e= .returned (fmV v0 v1 v2 v3 v4 v5)∧FmAt w' w'.heap.size (madeF f R A fr need cl) v0 v1 v2 v3 v4 v5∧Below w.heap.size w w'
set_option maxRecDepth 100000 in
set_option maxHeartbeats 64000000 in
theorem made_any (h:FoAt f L q W R A ds need cl fr) (hc:Clo f R A fr need cl) (hf:formOk f) (hfl:f.acts.length≤100000):
  Calls Try.prog 33 #[.pointer (some ⟨q.D,0,none⟩)] W (MadeIs f R A need cl fr W):=by
 have hwl:=hf.1.2.2
 have hcl:=hf.2.2.2.1.2.1
 have HC:=Lib.hid hc
 have HOK:=Lib.hid hf
 have hqW:=h.bB
 have b1:Below W.heap.size W (((W.alloc (.cells #[.pointer (some ⟨q.D,0,none⟩)] 57)).alloc (.cells #[.slice none 0 0,.slice none 0 0,.slice none 0 0,.slice none 0 0,.slice none 0 0,.slice none 0 0] 28)).alloc (.cells #[.slice none 0 0,.slice none 0 0,.slice none 0 0,.slice none 0 0,.slice none 0 0,.slice none 0 0] 28)):=bE
 have rD:=((Row.new W #[.pointer (some ⟨q.D,0,none⟩)] 57).alloc (.cells #[.slice none 0 0,.slice none 0 0,.slice none 0 0,.slice none 0 0,.slice none 0 0,.slice none 0 0] 28)).alloc (.cells #[.slice none 0 0,.slice none 0 0,.slice none 0 0,.slice none 0 0,.slice none 0 0,.slice none 0 0] 28)
 have rS:=(rowNew2 W (.cells #[.pointer (some ⟨q.D,0,none⟩)] 57) #[.slice none 0 0,.slice none 0 0,.slice none 0 0,.slice none 0 0,.slice none 0 0,.slice none 0 0] 28).alloc (.cells #[.slice none 0 0,.slice none 0 0,.slice none 0 0,.slice none 0 0,.slice none 0 0,.slice none 0 0] 28)
 have rO:=rowN3 W (.cells #[.pointer (some ⟨q.D,0,none⟩)] 57) (.cells #[.slice none 0 0,.slice none 0 0,.slice none 0 0,.slice none 0 0,.slice none 0 0,.slice none 0 0] 28) #[.slice none 0 0,.slice none 0 0,.slice none 0 0,.slice none 0 0,.slice none 0 0,.slice none 0 0] 28
 have HF1:=Lib.hid (h.below b1)
 clear h hc hf
 go_enter Try.func33,Try.ntmps33
 go_upto_region 2 with (fail)
 generalize (((W.alloc (.cells #[.pointer (some ⟨q.D,0,none⟩)] 57)).alloc (.cells #[.slice none 0 0,.slice none 0 0,.slice none 0 0,.slice none 0 0,.slice none 0 0,.slice none 0 0] 28)).alloc (.cells #[.slice none 0 0,.slice none 0 0,.slice none 0 0,.slice none 0 0,.slice none 0 0,.slice none 0 0] 28))=w1 at*
 have hs1:=b1.size
 have hOl:=rO.lt
 have HB1:=Lib.hid b1
 generalize hDp:W.heap.size=Dp at*
 have HD1:=Lib.hid rD
 have HS1:=Lib.hid rS
 have HO1:=Lib.hid rO
 have HDP:=Lib.hid hDp
 clear rD rS rO b1 hDp
 have HN1:Hid (∀W',Below w1.heap.size w1 W'→Calls Try.prog 61 #[.slice (some ⟨q.E,0,none⟩) f.wires.length f.wires.length] W' fun e w'=>∃K,e= .returned (.slice (some ⟨K,0,none⟩) f.wires.length f.wires.length)∧W'.heap.size≤K∧Row w' K (ints (numTo need need.length)).toArray 3∧Below W'.heap.size W' w'):=fun W' hW=>by
  have hF:=HF1.out.below hW
  have:=numbered_any need q.E W' hF.e (by rw[hF.el];exact hwl)
  unfold NumIs at this
  rw[hF.el] at this
  rwa [hF.el]
 have HN2:Hid (∀W',Below w1.heap.size w1 W'→Calls Try.prog 61 #[.slice (some ⟨q.C,0,none⟩) f.cells.length f.cells.length] W' fun e w'=>∃K,e= .returned (.slice (some ⟨K,0,none⟩) f.cells.length f.cells.length)∧W'.heap.size≤K∧Row w' K (ints (numTo cl cl.length)).toArray 3∧Below W'.heap.size W' w'):=fun W' hW=>by
  have hF:=HF1.out.below hW
  have:=numbered_any cl q.C W' hF.c (by rw[hF.kl];omega)
  unfold NumIs at this
  rw[hF.kl] at this
  rwa [hF.kl]
 have HEL:=Lib.hid (And.intro HF1.out.el HF1.out.kl)
 have HK:Hid (∀W',Below w1.heap.size w1 W'→W'.cell? ⟨Dp,0,none⟩=some (.pointer (some ⟨q.D,0,none⟩))∧W'.cell? ⟨q.D,10,none⟩=some (.slice (some ⟨q.E,0,none⟩) f.wires.length f.wires.length)∧W'.cell? ⟨q.D,11,none⟩=some (.slice (some ⟨q.C,0,none⟩) f.cells.length f.cells.length)):=fun W' hW=>by
  obtain ⟨_,_,_,_,_,_,_,_,_,_,k10,k11,_⟩:=(HF1.out.below hW).cells
  exact ⟨((HD1.out.below hW HD1.out.lt).cell 0).trans rfl,k10,k11⟩
 go_cut[4,5] (fun v4 v5 W'=>MdS f need cl w1 v4 v5 W')
 case first=>
  clear HC HOK HB1 HS1 HO1
  refine wp_region_held_drew (S:=fun W=>W.cell? ⟨Dp,0,none⟩=some (.pointer (some ⟨q.D,0,none⟩))∧W.cell? ⟨q.D,10,none⟩=some (.slice (some ⟨q.E,0,none⟩) f.wires.length f.wires.length)∧W.cell? ⟨q.D,11,none⟩=some (.slice (some ⟨q.C,0,none⟩) f.cells.length f.cells.length)) (by kernel_rfl) ?_ (fun hHeld=>?_)
  ·(try dsimp only);(with_reducible exact HK.out _ bE)
  refine tk 0 (some 21) rfl ?_
  refine tk 1 (some 22) rfl ?_
  refine tk 2 (some 23) rfl ?_
  refine tk 3 (some 24) rfl ?_
  refine tk 5 (some 26) rfl ?_
  refine tk 6 (some 27) rfl ?_
  refine tk 7 (some 28) rfl ?_
  refine tk 8 (some 29) rfl ?_
  refine wpAnyH_ready (rs:=[4,10]) (by kernel_rfl) (by simp) ?_
  refine AllReadyH.cons (o:={dst:=some 25,op:=_,type:=_,pos:=_,after:=_,guard:=_}) rfl (fun KK hKK=>?_) (AllReadyH.cons (o:={dst:=some 4,op:=_,type:=_,pos:=_,after:=_,guard:=_}) rfl (fun KK hKK=>?_) AllReadyH.nil)
  ·go_simp
   first|((go_at_call 61);(with_reducible refine Calls.mono (HN1.out _ bE) ?_);rintro e w3 ⟨K1,rfl,hK1,rK1,hb3⟩;(have hx3:Below w1.heap.size w1 w3:=Below.trans bE (hb3.mono lE));(have hz3:=hb3.size);(have hl3:=rK1.lt);(have hq3:=hx3.size);(try (have rP3:Row w3 w1.heap.size #[.slice none 0 0] 26:=Row.below (by first|(with_reducible exact Row.new _ _ _)|(with_reducible exact (Row.new _ _ _).drew)) hb3 (by simp))))|((go_at_call 61);(with_reducible refine Calls.mono (HN2.out _ bE) ?_);rintro e w4 ⟨K2,rfl,hK2,rK2,hb4⟩;(have hx4:Below w1.heap.size w1 w4:=Below.trans bE (hb4.mono lE));(have hz4:=hb4.size);(have hl4:=rK2.lt);(have hq4:=hx4.size);(try (have rP4:Row w4 w1.heap.size #[.slice none 0 0] 26:=rP3.below hb4 rP3.lt));(try (have rP4:Row w4 w3.heap.size #[.slice none 0 0] 26:=Row.below (by first|(with_reducible exact Row.new _ _ _)|(with_reducible exact (Row.new _ _ _).drew)) hb4 (by simp)));(try have cP:=(rP4.cell 0).trans rfl);(try have fP:=rP4.frozen 0))
   (try go_wp2_with fail)
   refine hKK.out _ _ ?_ (fun hHeld=>?_)
   ·(try dsimp only);(with_reducible exact HK.out _ bE)
   clear hKK KK
   try simp only[Act.put,List.setIfInBounds_toArray,List.set_cons_zero,List.set_cons_succ]
   refine wpAnyH_ready (rs:=[9,10]) (by kernel_rfl) (by simp) ?_
   refine AllReadyH.cons (o:={dst:=some 30,op:=_,type:=_,pos:=_,after:=_,guard:=_}) rfl (fun KK hKK=>?_) (AllReadyH.cons (o:={dst:=some 4,op:=_,type:=_,pos:=_,after:=_,guard:=_}) rfl (fun KK hKK=>?_) AllReadyH.nil)
   ·go_simp
    first|((go_at_call 61);(with_reducible refine Calls.mono (HN1.out _ bE) ?_);rintro e w3 ⟨K1,rfl,hK1,rK1,hb3⟩;(have hx3:Below w1.heap.size w1 w3:=Below.trans bE (hb3.mono lE));(have hz3:=hb3.size);(have hl3:=rK1.lt);(have hq3:=hx3.size);(try (have rP3:Row w3 w1.heap.size #[.slice none 0 0] 26:=Row.below (by first|(with_reducible exact Row.new _ _ _)|(with_reducible exact (Row.new _ _ _).drew)) hb3 (by simp))))|((go_at_call 61);(with_reducible refine Calls.mono (HN2.out _ bE) ?_);rintro e w4 ⟨K2,rfl,hK2,rK2,hb4⟩;(have hx4:Below w1.heap.size w1 w4:=Below.trans bE (hb4.mono lE));(have hz4:=hb4.size);(have hl4:=rK2.lt);(have hq4:=hx4.size);(try (have rP4:Row w4 w1.heap.size #[.slice none 0 0] 26:=rP3.below hb4 rP3.lt));(try (have rP4:Row w4 w3.heap.size #[.slice none 0 0] 26:=Row.below (by first|(with_reducible exact Row.new _ _ _)|(with_reducible exact (Row.new _ _ _).drew)) hb4 (by simp)));(try have cP:=(rP4.cell 0).trans rfl);(try have fP:=rP4.frozen 0))
    (try go_wp2_with fail)
    refine hKK.out _ _ ?_ (fun hHeld=>?_)
    ·(try dsimp only);(with_reducible exact HK.out _ bE)
    clear hKK KK
    try simp only[Act.put,List.setIfInBounds_toArray,List.set_cons_zero,List.set_cons_succ]
    refine rd1 10 (some 4) rfl (fun KK hKK=>?_)
    go_simp
    refine hKK.out _ _ ?_ (fun hHeld=>?_)
    ·(try dsimp only);(with_reducible exact HK.out _ bE)
    clear hKK KK
    try simp only[Act.put,List.setIfInBounds_toArray,List.set_cons_zero,List.set_cons_succ]
    refine rd1 11 none rfl (fun KK hKK=>?_)
    go_simp
    refine hKK.out _ _ ?_ (fun hHeld=>?_)
    ·(try dsimp only);(with_reducible exact HK.out _ bE)
    clear hKK KK
    try simp only[Act.put,List.setIfInBounds_toArray,List.set_cons_zero,List.set_cons_succ]
    refine tk 12 (some 5) rfl ?_
    refine wpAnyH_done (by kernel_rfl) ?_ _
    go_wp2_with fail
    go_meet
    (first|exact ⟨_,_,_,rfl,rfl,Row.new _ _ _,(rK1.below hb4 rK1.lt).alloc _,rK2.alloc _,(by first|omega|((try simp at hK1);(try simp at hK2);omega)),(by first|omega|((try simp at hK1);(try simp at hK2);omega)),(by first|omega|((try simp at hK1);(try simp at hK2);omega)),bE⟩|exact ⟨_,_,_,rfl,rfl,rP4.set1 _,((rK1.alloc _).below hb4 (by simp;omega)).far (by dsimp only;first|omega|((try simp at hK1);(try simp at hK2);omega)) _,rK2.far (by dsimp only;first|omega|((try simp at hK1);(try simp at hK2);omega)) _,(by first|omega|((try simp at hK1);(try simp at hK2);omega)),(by first|omega|((try simp at hK1);(try simp at hK2);omega)),(by first|omega|((try simp at hK1);(try simp at hK2);omega)),below_set hx4 (by first|omega|((try simp at hK1);(try simp at hK2);omega)) _⟩|exact ⟨_,_,_,rfl,rfl,rP4.set1 _,(rK1.below hb4 rK1.lt).far (by dsimp only;first|omega|((try simp at hK1);(try simp at hK2);omega)) _,rK2.far (by dsimp only;first|omega|((try simp at hK1);(try simp at hK2);omega)) _,(by first|omega|((try simp at hK1);(try simp at hK2);omega)),(by first|omega|((try simp at hK1);(try simp at hK2);omega)),(by first|omega|((try simp at hK1);(try simp at hK2);omega)),below_set hx4 (by first|omega|((try simp at hK1);(try simp at hK2);omega)) _⟩)
   ·go_simp
    refine hKK.out _ _ ?_ (fun hHeld=>?_)
    ·(try dsimp only);(with_reducible exact HK.out _ bE)
    clear hKK KK
    try simp only[Act.put,List.setIfInBounds_toArray,List.set_cons_zero,List.set_cons_succ]
    refine rd1 9 (some 30) rfl (fun KK hKK=>?_)
    go_simp
    first|((go_at_call 61);(with_reducible refine Calls.mono (HN1.out _ bE) ?_);rintro e w3 ⟨K1,rfl,hK1,rK1,hb3⟩;(have hx3:Below w1.heap.size w1 w3:=Below.trans bE (hb3.mono lE));(have hz3:=hb3.size);(have hl3:=rK1.lt);(have hq3:=hx3.size);(try (have rP3:Row w3 w1.heap.size #[.slice none 0 0] 26:=Row.below (by first|(with_reducible exact Row.new _ _ _)|(with_reducible exact (Row.new _ _ _).drew)) hb3 (by simp))))|((go_at_call 61);(with_reducible refine Calls.mono (HN2.out _ bE) ?_);rintro e w4 ⟨K2,rfl,hK2,rK2,hb4⟩;(have hx4:Below w1.heap.size w1 w4:=Below.trans bE (hb4.mono lE));(have hz4:=hb4.size);(have hl4:=rK2.lt);(have hq4:=hx4.size);(try (have rP4:Row w4 w1.heap.size #[.slice none 0 0] 26:=rP3.below hb4 rP3.lt));(try (have rP4:Row w4 w3.heap.size #[.slice none 0 0] 26:=Row.below (by first|(with_reducible exact Row.new _ _ _)|(with_reducible exact (Row.new _ _ _).drew)) hb4 (by simp)));(try have cP:=(rP4.cell 0).trans rfl);(try have fP:=rP4.frozen 0))
    (try go_wp2_with fail)
    refine hKK.out _ _ ?_ (fun hHeld=>?_)
    ·(try dsimp only);(with_reducible exact HK.out _ bE)
    clear hKK KK
    try simp only[Act.put,List.setIfInBounds_toArray,List.set_cons_zero,List.set_cons_succ]
    refine rd1 11 none rfl (fun KK hKK=>?_)
    go_simp
    refine hKK.out _ _ ?_ (fun hHeld=>?_)
    ·(try dsimp only);(with_reducible exact HK.out _ bE)
    clear hKK KK
    try simp only[Act.put,List.setIfInBounds_toArray,List.set_cons_zero,List.set_cons_succ]
    refine tk 12 (some 5) rfl ?_
    refine wpAnyH_done (by kernel_rfl) ?_ _
    go_wp2_with fail
    go_meet
    (first|exact ⟨_,_,_,rfl,rfl,Row.new _ _ _,(rK1.below hb4 rK1.lt).alloc _,rK2.alloc _,(by first|omega|((try simp at hK1);(try simp at hK2);omega)),(by first|omega|((try simp at hK1);(try simp at hK2);omega)),(by first|omega|((try simp at hK1);(try simp at hK2);omega)),bE⟩|exact ⟨_,_,_,rfl,rfl,rP4.set1 _,((rK1.alloc _).below hb4 (by simp;omega)).far (by dsimp only;first|omega|((try simp at hK1);(try simp at hK2);omega)) _,rK2.far (by dsimp only;first|omega|((try simp at hK1);(try simp at hK2);omega)) _,(by first|omega|((try simp at hK1);(try simp at hK2);omega)),(by first|omega|((try simp at hK1);(try simp at hK2);omega)),(by first|omega|((try simp at hK1);(try simp at hK2);omega)),below_set hx4 (by first|omega|((try simp at hK1);(try simp at hK2);omega)) _⟩|exact ⟨_,_,_,rfl,rfl,rP4.set1 _,(rK1.below hb4 rK1.lt).far (by dsimp only;first|omega|((try simp at hK1);(try simp at hK2);omega)) _,rK2.far (by dsimp only;first|omega|((try simp at hK1);(try simp at hK2);omega)) _,(by first|omega|((try simp at hK1);(try simp at hK2);omega)),(by first|omega|((try simp at hK1);(try simp at hK2);omega)),(by first|omega|((try simp at hK1);(try simp at hK2);omega)),below_set hx4 (by first|omega|((try simp at hK1);(try simp at hK2);omega)) _⟩)
  ·go_simp
   refine hKK.out _ _ ?_ (fun hHeld=>?_)
   ·(try dsimp only);(with_reducible exact HK.out _ bE)
   clear hKK KK
   try simp only[Act.put,List.setIfInBounds_toArray,List.set_cons_zero,List.set_cons_succ]
   refine rd1 4 (some 25) rfl (fun KK hKK=>?_)
   go_simp
   first|((go_at_call 61);(with_reducible refine Calls.mono (HN1.out _ bE) ?_);rintro e w3 ⟨K1,rfl,hK1,rK1,hb3⟩;(have hx3:Below w1.heap.size w1 w3:=Below.trans bE (hb3.mono lE));(have hz3:=hb3.size);(have hl3:=rK1.lt);(have hq3:=hx3.size);(try (have rP3:Row w3 w1.heap.size #[.slice none 0 0] 26:=Row.below (by first|(with_reducible exact Row.new _ _ _)|(with_reducible exact (Row.new _ _ _).drew)) hb3 (by simp))))|((go_at_call 61);(with_reducible refine Calls.mono (HN2.out _ bE) ?_);rintro e w4 ⟨K2,rfl,hK2,rK2,hb4⟩;(have hx4:Below w1.heap.size w1 w4:=Below.trans bE (hb4.mono lE));(have hz4:=hb4.size);(have hl4:=rK2.lt);(have hq4:=hx4.size);(try (have rP4:Row w4 w1.heap.size #[.slice none 0 0] 26:=rP3.below hb4 rP3.lt));(try (have rP4:Row w4 w3.heap.size #[.slice none 0 0] 26:=Row.below (by first|(with_reducible exact Row.new _ _ _)|(with_reducible exact (Row.new _ _ _).drew)) hb4 (by simp)));(try have cP:=(rP4.cell 0).trans rfl);(try have fP:=rP4.frozen 0))
   (try go_wp2_with fail)
   refine hKK.out _ _ ?_ (fun hHeld=>?_)
   ·(try dsimp only);(with_reducible exact HK.out _ bE)
   clear hKK KK
   try simp only[Act.put,List.setIfInBounds_toArray,List.set_cons_zero,List.set_cons_succ]
   refine rd1 9 (some 30) rfl (fun KK hKK=>?_)
   go_simp
   first|((go_at_call 61);(with_reducible refine Calls.mono (HN1.out _ bE) ?_);rintro e w3 ⟨K1,rfl,hK1,rK1,hb3⟩;(have hx3:Below w1.heap.size w1 w3:=Below.trans bE (hb3.mono lE));(have hz3:=hb3.size);(have hl3:=rK1.lt);(have hq3:=hx3.size);(try (have rP3:Row w3 w1.heap.size #[.slice none 0 0] 26:=Row.below (by first|(with_reducible exact Row.new _ _ _)|(with_reducible exact (Row.new _ _ _).drew)) hb3 (by simp))))|((go_at_call 61);(with_reducible refine Calls.mono (HN2.out _ bE) ?_);rintro e w4 ⟨K2,rfl,hK2,rK2,hb4⟩;(have hx4:Below w1.heap.size w1 w4:=Below.trans bE (hb4.mono lE));(have hz4:=hb4.size);(have hl4:=rK2.lt);(have hq4:=hx4.size);(try (have rP4:Row w4 w1.heap.size #[.slice none 0 0] 26:=rP3.below hb4 rP3.lt));(try (have rP4:Row w4 w3.heap.size #[.slice none 0 0] 26:=Row.below (by first|(with_reducible exact Row.new _ _ _)|(with_reducible exact (Row.new _ _ _).drew)) hb4 (by simp)));(try have cP:=(rP4.cell 0).trans rfl);(try have fP:=rP4.frozen 0))
   (try go_wp2_with fail)
   refine hKK.out _ _ ?_ (fun hHeld=>?_)
   ·(try dsimp only);(with_reducible exact HK.out _ bE)
   clear hKK KK
   try simp only[Act.put,List.setIfInBounds_toArray,List.set_cons_zero,List.set_cons_succ]
   refine rd1 11 none rfl (fun KK hKK=>?_)
   go_simp
   refine hKK.out _ _ ?_ (fun hHeld=>?_)
   ·(try dsimp only);(with_reducible exact HK.out _ bE)
   clear hKK KK
   try simp only[Act.put,List.setIfInBounds_toArray,List.set_cons_zero,List.set_cons_succ]
   refine tk 12 (some 5) rfl ?_
   refine wpAnyH_done (by kernel_rfl) ?_ _
   go_wp2_with fail
   go_meet
   (first|exact ⟨_,_,_,rfl,rfl,Row.new _ _ _,(rK1.below hb4 rK1.lt).alloc _,rK2.alloc _,(by first|omega|((try simp at hK1);(try simp at hK2);omega)),(by first|omega|((try simp at hK1);(try simp at hK2);omega)),(by first|omega|((try simp at hK1);(try simp at hK2);omega)),bE⟩|exact ⟨_,_,_,rfl,rfl,rP4.set1 _,((rK1.alloc _).below hb4 (by simp;omega)).far (by dsimp only;first|omega|((try simp at hK1);(try simp at hK2);omega)) _,rK2.far (by dsimp only;first|omega|((try simp at hK1);(try simp at hK2);omega)) _,(by first|omega|((try simp at hK1);(try simp at hK2);omega)),(by first|omega|((try simp at hK1);(try simp at hK2);omega)),(by first|omega|((try simp at hK1);(try simp at hK2);omega)),below_set hx4 (by first|omega|((try simp at hK1);(try simp at hK2);omega)) _⟩|exact ⟨_,_,_,rfl,rfl,rP4.set1 _,(rK1.below hb4 rK1.lt).far (by dsimp only;first|omega|((try simp at hK1);(try simp at hK2);omega)) _,rK2.far (by dsimp only;first|omega|((try simp at hK1);(try simp at hK2);omega)) _,(by first|omega|((try simp at hK1);(try simp at hK2);omega)),(by first|omega|((try simp at hK1);(try simp at hK2);omega)),(by first|omega|((try simp at hK1);(try simp at hK2);omega)),below_set hx4 (by first|omega|((try simp at hK1);(try simp at hK2);omega)) _⟩)
 case rest=>
  unfold MdS at hcut
  obtain ⟨P,K1,K2,rfl,rfl,rP,rK1,rK2,hP,hK1,hK2,hbc⟩:=hcut
  have hsc:=hbc.size
  have HMX:Hid (MdX f L q R A ds need cl fr Dp P K1 K2 (Dp+1+1) wc):=⟨HF1.out.below hbc,HD1.out.below hbc HD1.out.lt,rP,rK1,rK2,by omega,by omega,by omega,by omega,by omega⟩
  have HOc:=Lib.hid (HO1.out.below hbc HO1.out.lt)
  have HSc:=Lib.hid (HS1.out.below hbc HS1.out.lt)
  have HBc:Hid (Below Dp W wc):=by
   have:=HB1.out.trans (hbc.mono (by have:=HB1.out.size;have:=HDP.out;omega))
   exact this
  have hF:=enters_of Try.func62 (by kernel_rfl) rfl
  have hSO:Dp+1≠Dp+1+1:=by omega
  have hDO:Dp≤Dp+1+1:=by omega
  clear rP rK1 rK2 hK1 hK2 hP HK HN1 HN2 HF1 HD1 HS1 HO1 HB1 hbc
  generalize Dp+1+1=O at*
  obtain ⟨d0,d1,d2,d3,d4,d5,d6,d7,d8,d9,d10,d11,d12⟩:=HMX.out.fo.cells
  have cDp:=(HMX.out.d.cell 0).trans rfl
  simp only[List.getElem?_toArray,List.getElem?_cons_zero] at cDp
  have hOl2:=HOc.out.lt
  go_wp2_with fail
  go_loopw[37] (fun i wr=>∃(k:Nat) (v0:Value),k≤f.wires.length∧i= .int .i64 k∧Hid (Lp1 f R need O wc k v0 wr)) (fun i _=>f.wires.length-(intOf i).toNat)
  case atStart=>exact ⟨0,_,Nat.zero_le _,rfl,⟨HOc.out,⟨[],World.ownsRow_nil _ _ _ _,Are.nil⟩,Upd.refl _ _⟩⟩
  case round=>
   clear d0 d1 d2 d3 d4 d5 d6 d7 d8 d9 d10 d11 d12 cDp
   obtain ⟨k,v0,hk,rfl,HL⟩:=hrel
   have HMr:=Lib.hid (HMX.out.upd HL.out.upd)
   obtain ⟨d0,d1,d2,d3,d4,d5,d6,d7,d8,d9,d10,d11,d12⟩:=HMr.out.fo.cells
   have cDp:=(HMr.out.d.cell 0).trans rfl
   simp only[List.getElem?_toArray,List.getElem?_cons_zero] at cDp
   have hwr:=HL.out.upd.size
   by_cases hlt:k<f.wires.length
   rotate_left 1
   ·obtain rfl:k=f.wires.length:=by omega
    have HW2:Hid (∀W',Upd (fun x=>x=O) wr W'→∃css:List (List Value),W'.ownsRow wc.heap.size 44 2 v0 (cntF need f.wires.length) css.flatten∧Are (isWrO W' wc.heap.size) (pickN need (fun i=>wireM f R need (i:Nat)) f.wires.length) css):=fun W' u=>by
     obtain ⟨css,h1,h2⟩:=HL.out.own
     refine ⟨css,own_updE h1 u (fun q hq e=>own_ne h1 HL.out.row (by decide) (by rw[←e];exact hq)),h2.mono (fun x _ cs g=>g.upd u (fun k c t z hk hh=>?_))⟩
     have:=HL.out.row
     unfold Row at this
     rw[←hk,hh] at this
     injection this with this
     injection this with _ this _
     rw[this]
     decide
    have HO2:=Lib.hid HL.out.row
    have HU2:=Lib.hid HL.out.upd
    have HM2:=HMr
    have hOl3:=HO2.out.lt
    clear HL hlt hwr HMX hsc hs1 hOl hOl2 HOc
    obtain ⟨c6,hc6⟩:∃x:World,x=wc:=⟨_,rfl⟩
    obtain ⟨w2,hw2⟩:∃x:World,x=wr:=⟨_,rfl⟩
    subst hw2
    clear hc6 c6
    have hxs:=HM2.out.fo.xs
    rw[←HM2.out.fo.al] at hxs
    obtain ⟨hvx,lx,mx⟩:=hxs
    have mx':q.cap≤9223372036854775807:=by unfold maxLen at mx;omega
    rw[hvx] at d8
    have HVX:=Lib.hid hvx
    clear hvx mx
    have hM2l:w2.heap.size≤w2.heap.size:=Nat.le_refl _
    go_wp2_with fail
    go_loopw[93] (fun i wr=>∃(k:Nat) (v1:Value),k≤A.length∧i= .int .i64 k∧Hid (Lp2 R A need cl O v0 w2 k v1 wr)) (fun i _=>A.length-(intOf i).toNat)
    case atStart=>exact ⟨0,_,Nat.zero_le _,rfl,⟨HO2.out,by rw[List.take_zero];exact World.ownsRow_nil _ _ _ _,Upd.refl _ _⟩⟩
    case round=>
     clear d0 d1 d2 d3 d4 d5 d6 d7 d8 d9 d10 d11 d12 cDp
     obtain ⟨k,v1,hk,rfl,HL⟩:=hrel
     have HMr:=Lib.hid (HM2.out.upd HL.out.upd)
     have hwr:=HL.out.upd.size
     obtain ⟨d0,d1,d2,d3,d4,d5,d6,d7,d8,d9,d10,d11,d12⟩:=HMr.out.fo.cells
     rw[HVX.out] at d8
     have cDp:=(HMr.out.d.cell 0).trans rfl
     simp only[List.getElem?_toArray,List.getElem?_cons_zero] at cDp
     by_cases hlt:k<A.length
     rotate_left 1
     ·obtain rfl:k=A.length:=by omega
      have HA3:Hid (∀W',Upd (fun x=>x=O) wr W'→W'.ownsRow w2.heap.size 50 6 v1 (actsM R need cl A).length (acF (actsM R need cl A))):=fun W' u=>by
       have h1:=HL.out.own
       rw[List.take_length] at h1
       exact own_updE h1 u (fun q hq e=>own_ne h1 HL.out.row (by decide) (by rw[←e];exact hq))
      have HW3:Hid (∀W',Upd (fun x=>x=O) wr W'→∃css:List (List Value),W'.ownsRow wc.heap.size 44 2 v0 (cntF need f.wires.length) css.flatten∧Are (isWrO W' wc.heap.size) (pickN need (fun i=>wireM f R need (i:Nat)) f.wires.length) css):=fun W' u=>HW2.out W' (HL.out.upd.trans u)
      have HU3:Hid (Upd (fun x=>x=O) wc wr):=HU2.out.trans HL.out.upd
      have HO3:=Lib.hid HL.out.row
      have HM3:=HMr
      have hw2r:=HL.out.upd.size
      have hwcr:=HU3.out.size
      clear HL hlt hwr HM2 HW2 HU2 HO2 hM2l hOl3
      obtain ⟨w3,hw3⟩:∃x:World,x=wr:=⟨_,rfl⟩
      subst hw3
      obtain ⟨Ax,cc,hvc,lc,mc,_⟩:=HM3.out.fo.fm.cells
      have mc':cc≤9223372036854775807:=by unfold maxLen at mc;omega
      rw[hvc] at d2
      have HVC:=Lib.hid hvc
      clear hvc mc
      have hM3l:w3.heap.size≤w3.heap.size:=Nat.le_refl _
      go_wp2_with fail
      go_loopw[158] (fun i wr=>∃(k:Nat) (v2 v3:Value),k≤f.cells.length∧i= .int .i64 k∧Hid (LpP O v0 v1 w3 (pickN cl (fun i=>f.cells.getD i (0,0)) k) (pickN cl (fun i=>(numV cl (i:Nat),numV need (getI R (getI fr (i:Nat))))) k) v2 v3 wr)) (fun i _=>f.cells.length-(intOf i).toNat)
      case atStart=>exact ⟨0,_,_,Nat.zero_le _,rfl,⟨HO3.out,World.ownsRow_nil _ _ _ _,World.ownsRow_nil _ _ _ _,Upd.refl _ _⟩⟩
      case round=>
       clear d0 d1 d2 d3 d4 d5 d6 d7 d8 d9 d10 d11 d12 cDp
       obtain ⟨k,v2,v3,hk,rfl,HL⟩:=hrel
       have HMr:=Lib.hid (HM3.out.upd HL.out.upd)
       have hwr:=HL.out.upd.size
       obtain ⟨d0,d1,d2,d3,d4,d5,d6,d7,d8,d9,d10,d11,d12⟩:=HMr.out.fo.cells
       rw[HVC.out] at d2
       have cDp:=(HMr.out.d.cell 0).trans rfl
       simp only[List.getElem?_toArray,List.getElem?_cons_zero] at cDp
       by_cases hlt:k<f.cells.length
       rotate_left 1
       ·obtain rfl:k=f.cells.length:=by omega
        have HC4:Hid (∀W',Upd (fun x=>x=O) wr W'→W'.ownsRow w3.heap.size 70 2 v2 (madeF f R A fr need cl).cells.length (prF (madeF f R A fr need cl).cells)∧W'.ownsRow w3.heap.size 63 2 v3 (madeF f R A fr need cl).keeps.length (prF (madeF f R A fr need cl).keeps)):=fun W' u=>
         ⟨own_updE HL.out.own2 u (fun q hq e=>own_ne HL.out.own2 HL.out.row (by decide) (by rw[←e];exact hq)),own_updE HL.out.own3 u (fun q hq e=>own_ne HL.out.own3 HL.out.row (by decide) (by rw[←e];exact hq))⟩
        have HA4:Hid (∀W',Upd (fun x=>x=O) wr W'→W'.ownsRow w2.heap.size 50 6 v1 (actsM R need cl A).length (acF (actsM R need cl A))):=fun W' u=>HA3.out W' (HL.out.upd.trans u)
        have HW4:Hid (∀W',Upd (fun x=>x=O) wr W'→∃css:List (List Value),W'.ownsRow wc.heap.size 44 2 v0 (cntF need f.wires.length) css.flatten∧Are (isWrO W' wc.heap.size) (pickN need (fun i=>wireM f R need (i:Nat)) f.wires.length) css):=fun W' u=>HW3.out W' (HL.out.upd.trans u)
        have HU4:Hid (Upd (fun x=>x=O) wc wr):=HU3.out.trans HL.out.upd
        have HO4:=Lib.hid HL.out.row
        have HM4:=HMr
        have hw3r:=HL.out.upd.size
        clear HL hlt hwr HM3 HW3 HA3 HU3 HO3 hM3l
        obtain ⟨w4,hw4⟩:∃x:World,x=wr:=⟨_,rfl⟩
        subst hw4
        obtain ⟨Ai,ci,hvi,li,mi,_⟩:=HM4.out.fo.fm.ins
        have mi':ci≤9223372036854775807:=by unfold maxLen at mi;omega
        rw[hvi] at d4
        have HVI:=Lib.hid hvi
        have hil:f.ins.length≤100000:=by have:=HOK.out.2.1.2.2;omega
        clear hvi mi
        have hM4l:w4.heap.size≤w4.heap.size:=Nat.le_refl _
        go_wp2_with fail
        go_loopw[202] (fun i wr=>∃(k:Nat) (v4:Value),k≤f.ins.length∧i= .int .i64 k∧Hid (LpI O 4 (fun v=> #[v0,v1,v2,v3,v,.slice none 0 0]) w4 ((f.ins.take k).map (numV need)) v4 wr)) (fun i _=>f.ins.length-(intOf i).toNat)
        case atStart=>exact ⟨0,_,Nat.zero_le _,rfl,⟨HO4.out,World.ownsRow_nil _ _ _ _,Upd.refl _ _⟩⟩
        case round=>
         clear d0 d1 d2 d3 d4 d5 d6 d7 d8 d9 d10 d11 d12 cDp
         obtain ⟨k,v4,hk,rfl,HL⟩:=hrel
         have HMr:=Lib.hid (HM4.out.upd HL.out.upd)
         have hwr:=HL.out.upd.size
         obtain ⟨d0,d1,d2,d3,d4,d5,d6,d7,d8,d9,d10,d11,d12⟩:=HMr.out.fo.cells
         rw[HVI.out] at d4
         have cDp:=(HMr.out.d.cell 0).trans rfl
         simp only[List.getElem?_toArray,List.getElem?_cons_zero] at cDp
         by_cases hlt:k<f.ins.length
         rotate_left 1
         ·obtain rfl:k=f.ins.length:=by omega
          have HI5:Hid (∀W',Upd (fun x=>x=O) wr W'→W'.ownsRow w4.heap.size 3 1 v4 (madeF f R A fr need cl).ins.length (ints (madeF f R A fr need cl).ins)):=fun W' u=>by
           have h1:=HL.out.own
           rw[List.take_length] at h1
           exact own_updE h1 u (fun q hq e=>own_ne h1 HL.out.row (by decide) (by rw[←e];exact hq))
          have HC5:Hid (∀W',Upd (fun x=>x=O) wr W'→W'.ownsRow w3.heap.size 70 2 v2 (madeF f R A fr need cl).cells.length (prF (madeF f R A fr need cl).cells)∧W'.ownsRow w3.heap.size 63 2 v3 (madeF f R A fr need cl).keeps.length (prF (madeF f R A fr need cl).keeps)):=fun W' u=>HC4.out W' (HL.out.upd.trans u)
          have HA5:Hid (∀W',Upd (fun x=>x=O) wr W'→W'.ownsRow w2.heap.size 50 6 v1 (actsM R need cl A).length (acF (actsM R need cl A))):=fun W' u=>HA4.out W' (HL.out.upd.trans u)
          have HW5:Hid (∀W',Upd (fun x=>x=O) wr W'→∃css:List (List Value),W'.ownsRow wc.heap.size 44 2 v0 (cntF need f.wires.length) css.flatten∧Are (isWrO W' wc.heap.size) (pickN need (fun i=>wireM f R need (i:Nat)) f.wires.length) css):=fun W' u=>HW4.out W' (HL.out.upd.trans u)
          have HU5:Hid (Upd (fun x=>x=O) wc wr):=HU4.out.trans HL.out.upd
          have HO5:=Lib.hid HL.out.row
          have HM5:=HMr
          have hw4r:=HL.out.upd.size
          clear HL hlt hwr HM4 HW4 HA4 HU4 HC4 HO4 hM4l
          obtain ⟨w5,hw5⟩:∃x:World,x=wr:=⟨_,rfl⟩
          subst hw5
          obtain ⟨Ao,co,hvo,lo,mo,_⟩:=HM5.out.fo.fm.outs
          have mo':co≤9223372036854775807:=by unfold maxLen at mo;omega
          rw[hvo] at d5
          have HVO:=Lib.hid hvo
          have hol:f.outs.length≤100000:=by have:=HOK.out.2.2.1.2.2;omega
          clear hvo mo
          have hM5l:w5.heap.size≤w5.heap.size:=Nat.le_refl _
          go_wp2_with fail
          go_loopw[222] (fun i wr=>∃(k:Nat) (v5:Value),k≤f.outs.length∧i= .int .i64 k∧Hid (LpI O 5 (fun v=> #[v0,v1,v2,v3,v4,v]) w5 ((f.outs.take k).map (fun n=>numV need (getI R n))) v5 wr)) (fun i _=>f.outs.length-(intOf i).toNat)
          case atStart=>exact ⟨0,_,Nat.zero_le _,rfl,⟨HO5.out,World.ownsRow_nil _ _ _ _,Upd.refl _ _⟩⟩
          case round=>
           clear d0 d1 d2 d3 d4 d5 d6 d7 d8 d9 d10 d11 d12 cDp
           obtain ⟨k,v5,hk,rfl,HL⟩:=hrel
           have HMr:=Lib.hid (HM5.out.upd HL.out.upd)
           have hwr:=HL.out.upd.size
           obtain ⟨d0,d1,d2,d3,d4,d5,d6,d7,d8,d9,d10,d11,d12⟩:=HMr.out.fo.cells
           rw[HVO.out] at d5
           have cDp:=(HMr.out.d.cell 0).trans rfl
           simp only[List.getElem?_toArray,List.getElem?_cons_zero] at cDp
           by_cases hlt:k<f.outs.length
           rotate_left 1
           ·obtain rfl:k=f.outs.length:=by omega
            have hUl:=HU5.out.trans HL.out.upd
            have rS:=hUl.row HSc.out hSO
            have rO:Row wr O #[v0,v1,v2,v3,v4,v5] 28:=HL.out.row
            obtain ⟨o0,o1,o2,o3,o4,o5⟩:=rO.six'
            obtain ⟨s0,s1,s2,s3,s4,s5⟩:=rS.six'
            have z0:=rS.frozen 0
            have z1:=rS.frozen 1
            have z2:=rS.frozen 2
            have z3:=rS.frozen 3
            have z4:=rS.frozen 4
            have z5:=rS.frozen 5
            have HRS:=Lib.hid rS
            have HUL:=Lib.hid hUl
            have HOI:=Lib.hid (show wr.ownsRow w5.heap.size 3 1 v5 (madeF f R A fr need cl).outs.length (ints (madeF f R A fr need cl).outs) by
             have h1:=HL.out.own
             rw[List.take_length] at h1
             exact h1)
            have HUO:=Lib.hid HL.out.upd
            have x5:=HUO.out
            obtain ⟨css,h1,_⟩:=HW5.out wr x5
            obtain ⟨B0,t0,hv0,_⟩:=own_src h1
            obtain ⟨B1,t1,hv1,_⟩:=own_src (HA5.out wr x5)
            obtain ⟨B2,t2,hv2,_⟩:=own_src (HC5.out wr x5).1
            obtain ⟨B3,t3,hv3,_⟩:=own_src (HC5.out wr x5).2
            obtain ⟨B4,t4,hv4,_⟩:=own_src (HI5.out wr x5)
            obtain ⟨B5,t5,hv5,_⟩:=own_src HOI.out
            subst hv0 hv1 hv2 hv3 hv4 hv5
            clear rS rO hUl HL h1 x5
            go_wp2_with fail
            have rF:=(((((HRS.out.set 0 (Value.slice B0 (cntF need f.wires.length) t0)).set 1 (Value.slice B1 (actsM R need cl A).length t1)).set 2 (Value.slice B2 (madeF f R A fr need cl).cells.length t2)).set 3 (Value.slice B3 (madeF f R A fr need cl).keeps.length t3)).set 4 (Value.slice B4 (madeF f R A fr need cl).ins.length t4)).set 5 (Value.slice B5 (madeF f R A fr need cl).outs.length t5)
            have uF:=((((((Upd.setCell (X:=fun k=>k=Dp+1) (p:=⟨Dp+1,0,none⟩) (Upd.refl _ wr) rfl (Value.slice B0 (cntF need f.wires.length) t0)).setCell (p:=⟨Dp+1,1,none⟩) rfl (Value.slice B1 (actsM R need cl A).length t1)).setCell (p:=⟨Dp+1,2,none⟩) rfl (Value.slice B2 (madeF f R A fr need cl).cells.length t2)).setCell (p:=⟨Dp+1,3,none⟩) rfl (Value.slice B3 (madeF f R A fr need cl).keeps.length t3)).setCell (p:=⟨Dp+1,4,none⟩) rfl (Value.slice B4 (madeF f R A fr need cl).ins.length t4)).setCell (p:=⟨Dp+1,5,none⟩) rfl (Value.slice B5 (madeF f R A fr need cl).outs.length t5))
            have hDl:W.heap.size≤wr.heap.size:=by have:=HBc.out.size;have:=HUL.out.size;omega
            have hB1:Below W.heap.size W wr:=by
             have:=HBc.out.trans (HUL.out.below (B:=Dp) (fun k hk=>by rw[hk];exact hDO) (by have:=HBc.out.size;have:=HDP.out;omega))
             rw[HDP.out]
             exact this
            have hB2:=hB1.trans (uF.below (B:=W.heap.size) (fun k hk=>by have:=HDP.out;omega) hDl)
            have hfm:=HM5.out.fo
            have x5:=HUO.out
            obtain ⟨css,g1,g2⟩:=HW5.out wr x5
            have g3:=HA5.out wr x5
            have g4:=HC5.out wr x5
            have g5:=HI5.out wr x5
            have mvO:∀{b n s:Nat} {e:TypeId} {v:Value} {xs:List Value},wr.ownsRow b e s v n xs→28≠e→World.ownsRow _ b e s v n xs:=fun h he=>own_updE h uF (fun q hq e=>own_ne h HRS.out he (by rw[←e];exact hq))
            refine bodyPost_ret (res1 rfl Try.underlying28 rfl (by kernel_rfl) rfl rF) rfl ⟨_,_,_,_,_,_,rfl,made_at (by have:=HEL.out.1;omega) (by have:=HEL.out.2;omega) hfm.wA (fun x hx=>?_) ⟨css,mvO g1 (by decide),g2.mono (fun x _ cs g=>g.upd uF (fun k c t z hk hh=>?_))⟩ (mvO g3 (by decide)) (mvO g4.1 (by decide)) (mvO g4.2 (by decide)) (mvO g5 (by decide)) (mvO HOI.out (by decide)),hB2⟩
            ·obtain ⟨A',c',_,_,_,s⟩:=hfm.fm.cells
             obtain ⟨j,hj⟩:=List.getElem?_of_mem hx
             obtain ⟨b,off,_,_,hxs⟩:=s (List.length_pos_of_mem hx)
             obtain ⟨cs,_,_,hw⟩:=hxs j x hj
             exact hw
            ·have:=HRS.out
             unfold Row at this
             rw[←hk,hh] at this
             injection this with this
             injection this with _ this _
             rw[this]
             decide
           have hlt':(k:Int)<f.outs.length:=by omega
           obtain ⟨n,hy⟩:∃n,f.outs[k]? =some n:=⟨_,List.getElem?_eq_getElem hlt⟩
           obtain ⟨b,off,hAo,c0⟩:=int_atV HMr.out.fo.fm.outs HVO.out hy
           subst hAo
           have hmem:=List.mem_of_getElem? hy
           have hnw:=(HOK.out.2.2.1.1 n hmem).1
           have hnr:=HC.out.isW (HC.out.outs n hmem)
           have HAT:Hid (∀W',Below wr.heap.size wr W'→Calls Try.prog 62 #[.int .i64 n,.pointer (some ⟨P,0,none⟩),.pointer (some ⟨Dp,0,none⟩)] W' fun e w'=>e= .returned (.int .i64 (numV need (getI R n)))∧∃k,w'=W'.drewN k):=fun W' hW=>(HMr.out.below hW).at_ hnw hnr
           have HTK:Hid ((f.outs.take (k+1)).map (fun n=>numV need (getI R n))=(f.outs.take k).map (fun n=>numV need (getI R n))++ [numV need (getI R n)]):=by
            show _=_
            rw[take_snoc' hy,List.map_append]
            rfl
           have hlen5:((f.outs.take k).map (fun n=>numV need (getI R n))).length≤100000:=by rw[List.length_map,List.length_take];omega
           generalize numV need (getI R n)=nm at*
           generalize (f.outs.take k).map (fun n=>numV need (getI R n))=l5 at*
           obtain ⟨i4,hi4,hz0,hz1,hz2⟩:=info_parts info_int
           clear hy hmem hnw hnr
           go_upto_region 47 with (fail)
           clear c0 d0 d1 d2 d3 d4 d5 d6 d7 d8 d9 d10 d11 d12 cDp
           have HK2:Hid (∀W,Below wr.heap.size wr W→W.cell? ⟨O,5,none⟩=some v5):=fun W hW=>(((HL.out.row.below hW HL.out.row.lt).cell 5).trans rfl)
           have HO5b:=Lib.hid HL.out.own
           have tk16:wr.heap.size≤wr.heap.size:=Nat.le_refl _
           refine wp_region_L 8 (S:=fun W=>W.cell? ⟨O,5,none⟩=some v5) (by kernel_rfl) ?_ (fun hHeld=>?_)
           ·(try dsimp only);(first|exact HS13.out|(with_reducible exact HK2.out _ bE))
           refine tkL 0 (some 226) rfl ?_
           refine tkL 1 (some 227) rfl ?_
           refine tkL 2 (some 228) rfl ?_
           refine tkL 3 (some 229) rfl ?_
           refine rdL 4 (some 230) rfl (fun KK hKK=>?_)
           go_simp
           first|((go_at_call 62);(with_reducible refine Calls.mono (HAT.out _ bE) ?_);rintro e w8 ⟨rfl,n8,rfl⟩)|((rw[if_pos (by kernel_rfl)]);(refine step_own (.tmp 227) (.tmp 231) 26 rfl w5.heap.size 3 i4 (.int .i64 0) 1 8 Try.underlying26 hi4 hz0 hz1 hz2 rfl (by decide) _ l5.length (ints l5) rfl (own_below HO5b.out (bE:Below wr.heap.size wr _)) (some ⟨_,0,none⟩) 1 1 [.int .i64 nm] rfl NilOk.some rfl (fun ad he=>by injection he with he;subst he;exact cells_new _ _ _) (by intro u hu;simp at hu;subst hu;rfl) (by unfold maxLen;omega) (by omega) (by first|omega|(simp;omega)|simp) ?_);(intro v13 w13 hown13 hg13);(obtain ⟨hL13,q13,z13,hu13⟩:=HL.out.app (x:=nm) (fun _=>rfl) rfl hg13 (bE:Below wr.heap.size wr _) hown13);(have HS13:=Lib.hid q13);(have HL13:=Lib.hid hL13);(clear hL13 hu13);(obtain ⟨A13,c13,hv13,_⟩:=own_src hown13);subst hv13)
           (try go_wp2_with fail)
           refine hKK.out _ _ ?_ (fun hHeld=>?_)
           ·(try dsimp only);(first|exact HS13.out|(with_reducible exact HK2.out _ bE))
           clear hKK KK
           try simp only[Act.put,List.setIfInBounds_toArray,List.set_cons_zero,List.set_cons_succ]
           refine rdL 5 (some 231) rfl (fun KK hKK=>?_)
           go_simp
           refine hKK.out _ _ ?_ (fun hHeld=>?_)
           ·(try dsimp only);(first|exact HS13.out|(with_reducible exact HK2.out _ bE))
           clear hKK KK
           try simp only[Act.put,List.setIfInBounds_toArray,List.set_cons_zero,List.set_cons_succ]
           refine rdL 6 (some 232) rfl (fun KK hKK=>?_)
           ((rw[if_pos (by kernel_rfl)]);(refine step_own (.tmp 227) (.tmp 231) 26 rfl w5.heap.size 3 i4 (.int .i64 0) 1 8 Try.underlying26 hi4 hz0 hz1 hz2 rfl (by decide) _ l5.length (ints l5) rfl (own_below HO5b.out (bE:Below wr.heap.size wr _)) (some ⟨_,0,none⟩) 1 1 [.int .i64 nm] rfl NilOk.some rfl (fun ad he=>by injection he with he;subst he;exact cells_new _ _ _) (by intro u hu;simp at hu;subst hu;rfl) (by unfold maxLen;omega) (by omega) (by first|omega|(simp;omega)|simp) ?_);(intro v13 w13 hown13 hg13);(obtain ⟨hL13,q13,z13,hu13⟩:=HL.out.app (x:=nm) (fun _=>rfl) rfl hg13 (bE:Below wr.heap.size wr _) hown13);(have HS13:=Lib.hid q13);(have HL13:=Lib.hid hL13);(clear hL13 hu13);(obtain ⟨A13,c13,hv13,_⟩:=own_src hown13);subst hv13)
           refine hKK.out _ _ ?_ (fun hHeld=>?_)
           ·(try dsimp only);(first|exact HS13.out|(with_reducible exact HK2.out _ bE))
           clear hKK KK
           try simp only[Act.put,List.setIfInBounds_toArray,List.set_cons_zero,List.set_cons_succ]
           refine rdL 7 (some 233) rfl (fun KK hKK=>?_)
           go_simp
           refine hKK.out _ _ ?_ (fun hHeld=>?_)
           ·(try dsimp only);(first|exact HS13.out|(with_reducible exact HK2.out _ bE))
           clear hKK KK
           try simp only[Act.put,List.setIfInBounds_toArray,List.set_cons_zero,List.set_cons_succ]
           refine rdE none rfl (fun KK hKK=>?_)
           go_simp
           refine hKK.out _ _ ?_
           clear hKK KK
           try simp only[Act.put,List.setIfInBounds_toArray,List.set_cons_zero,List.set_cons_succ]
           refine wpAnyL_done (by kernel_rfl) ?_ _
           have HLn:Hid (LpI O 5 (fun v=> #[v0,v1,v2,v3,v4,v]) w5 ((f.outs.take (k+1)).map (fun n=>numV need (getI R n))) (.slice A13 (l5.length+1) c13) (w13.setCell ⟨O,5,none⟩ (.slice A13 (l5.length+1) c13))):=by
            show LpI _ _ _ _ _ _ _
            rw[HTK.out]
            exact HL13.out
           clear hown13 hg13 q13 z13 HS13 HL13 HK2 HO5b HAT
           go_wp2_with fail
           go_roundw
           case rel=>exact ⟨k+1,_,by omega,by go_num,HLn.out⟩
           case measure=>simp[intOf];omega
         have hlt':(k:Int)<f.ins.length:=by omega
         obtain ⟨n,hy⟩:∃n,f.ins[k]? =some n:=⟨_,List.getElem?_eq_getElem hlt⟩
         obtain ⟨b,off,hAi,c0⟩:=int_atV HMr.out.fo.fm.ins HVI.out hy
         subst hAi
         have hnd:=HC.out.isW (HC.out.ins n (List.mem_of_getElem? hy))
         obtain ⟨mn,hmn⟩:=Int.eq_ofNat_of_zero_le hnd.1
         subst hmn
         have hml:mn<f.wires.length:=by have:=hnd.2;omega
         have hml':(mn:Int)<f.wires.length:=by omega
         have HTK:Hid ((f.ins.take (k+1)).map (numV need)=(f.ins.take k).map (numV need)++ [numV need (mn:Int)]):=by
          show _=_
          rw[take_snoc' hy,List.map_append]
          rfl
         have hlen4:((f.ins.take k).map (numV need)).length≤100000:=by rw[List.length_map,List.length_take];omega
         have HK:Hid (∀W,Upd (fun x=>x=O) w4 W→W.cell? ⟨P,0,none⟩=some (.slice (some ⟨K1,0,none⟩) f.wires.length f.wires.length)∧W.cell? ⟨K1,mn,none⟩=some (.int .i64 (numV need (mn:Int)))):=fun W hW=>by
          have hM:=HM4.out.upd hW
          have g4:=vs_cell hM.k1 (n:=mn) (by rw[numTo_len,hM.fo.el];exact hml)
          rw[numTo_get need (by omega)] at g4
          exact ⟨(hM.p.cell 0).trans rfl,g4⟩
         generalize numV need (mn:Int)=nm at*
         generalize (f.ins.take k).map (numV need)=l4 at*
         obtain ⟨i4,hi4,hz0,hz1,hz2⟩:=info_parts info_int
         clear hy hnd
         go_upto_region 42 with (fail)
         clear c0 d0 d1 d2 d3 d4 d5 d6 d7 d8 d9 d10 d11 d12 cDp
         have HK2:Hid (∀W,Below wr.heap.size wr W→W.cell? ⟨O,4,none⟩=some v4∧W.cell? ⟨P,0,none⟩=some (.slice (some ⟨K1,0,none⟩) f.wires.length f.wires.length)∧W.cell? ⟨K1,mn,none⟩=some (.int .i64 nm)):=fun W hW=>⟨(((HL.out.row.below hW HL.out.row.lt).cell 4).trans rfl),HK.out W (HL.out.upd.trans (Upd.of_below hW))⟩
         have HO4b:=Lib.hid HL.out.own
         have tk16:wr.heap.size≤wr.heap.size:=Nat.le_refl _
         refine wp_region_L 9 (S:=fun W=>W.cell? ⟨O,4,none⟩=some v4∧W.cell? ⟨P,0,none⟩=some (.slice (some ⟨K1,0,none⟩) f.wires.length f.wires.length)∧W.cell? ⟨K1,mn,none⟩=some (.int .i64 nm)) (by kernel_rfl) ?_ (fun hHeld=>?_)
         ·(try dsimp only);(first|exact HS13.out|(with_reducible exact HK2.out _ bE))
         refine tkL 0 (some 206) rfl ?_
         refine tkL 1 (some 207) rfl ?_
         refine tkL 2 (some 208) rfl ?_
         refine tkL 3 (some 209) rfl ?_
         refine tkL 4 (some 210) rfl ?_
         refine tkL 5 (some 211) rfl ?_
         refine rdL 6 (some 212) rfl (fun KK hKK=>?_)
         go_simp
         refine hKK.out _ _ ?_ (fun hHeld=>?_)
         ·(try dsimp only);(first|exact HS13.out|(with_reducible exact HK2.out _ bE))
         clear hKK KK
         try simp only[Act.put,List.setIfInBounds_toArray,List.set_cons_zero,List.set_cons_succ]
         refine rdL 7 (some 213) rfl (fun KK hKK=>?_)
         (rw[if_pos (by kernel_rfl)]);(refine step_own (.tmp 207) (.tmp 212) 26 rfl w4.heap.size 3 i4 (.int .i64 0) 1 8 Try.underlying26 hi4 hz0 hz1 hz2 rfl (by decide) _ l4.length (ints l4) rfl (own_below HO4b.out (bE:Below wr.heap.size wr _)) (some ⟨_,0,none⟩) 1 1 [.int .i64 nm] rfl NilOk.some rfl (fun ad he=>by injection he with he;subst he;exact cells_new _ _ _) (by intro u hu;simp at hu;subst hu;rfl) (by unfold maxLen;omega) (by omega) (by first|omega|(simp;omega)|simp) ?_);(intro v13 w13 hown13 hg13);(obtain ⟨hL13,q13,z13,hu13⟩:=HL.out.app (x:=nm) (fun _=>rfl) rfl hg13 (bE:Below wr.heap.size wr _) hown13);(have HS13:=Lib.hid (And.intro q13 (HK.out _ hu13)));(have HL13:=Lib.hid hL13);(clear hL13 hu13);(obtain ⟨A13,c13,hv13,_⟩:=own_src hown13);subst hv13
         refine hKK.out _ _ ?_ (fun hHeld=>?_)
         ·(try dsimp only);(first|exact HS13.out|(with_reducible exact HK2.out _ bE))
         clear hKK KK
         try simp only[Act.put,List.setIfInBounds_toArray,List.set_cons_zero,List.set_cons_succ]
         refine rdL 8 (some 214) rfl (fun KK hKK=>?_)
         go_simp
         refine hKK.out _ _ ?_ (fun hHeld=>?_)
         ·(try dsimp only);(first|exact HS13.out|(with_reducible exact HK2.out _ bE))
         clear hKK KK
         try simp only[Act.put,List.setIfInBounds_toArray,List.set_cons_zero,List.set_cons_succ]
         refine rdE none rfl (fun KK hKK=>?_)
         go_simp
         refine hKK.out _ _ ?_
         clear hKK KK
         try simp only[Act.put,List.setIfInBounds_toArray,List.set_cons_zero,List.set_cons_succ]
         refine wpAnyL_done (by kernel_rfl) ?_ _
         have HLn:Hid (LpI O 4 (fun v=> #[v0,v1,v2,v3,v,.slice none 0 0]) w4 ((f.ins.take (k+1)).map (numV need)) (.slice A13 (l4.length+1) c13) (w13.setCell ⟨O,4,none⟩ (.slice A13 (l4.length+1) c13))):=by
          show LpI _ _ _ _ _ _ _
          rw[HTK.out]
          exact HL13.out
         clear hown13 hg13 q13 z13 HS13 HL13 HK HK2 HO4b
         go_wp2_with fail
         go_roundw
         case rel=>exact ⟨k+1,_,by omega,by go_num,HLn.out⟩
         case measure=>simp[intOf];omega
       have hlt':(k:Int)<f.cells.length:=by omega
       obtain ⟨y,hy⟩:∃y,f.cells[k]? =some y:=⟨_,List.getElem?_eq_getElem hlt⟩
       obtain ⟨b,off,hAx,c0,c1⟩:=cell_at HMr.out.fo.fm.cells HVC.out hy
       subst hAx
       have hgd:f.cells.getD k (0,0)=y:=by rw[List.getD_eq_getElem?_getD,hy];rfl
       obtain ⟨y0,y1⟩:=y
       have HGD:=Lib.hid hgd
       dsimp only at c0 c1
       have HFI:=Lib.hid (Clo.fr_in HC.out HOK.out hlt)
       have hbn:k<fr.length:=by rw[HMr.out.fo.fl];exact hlt
       have HBN:=Lib.hid hbn
       have HMW:=Lib.hid (fun W' (hW:Below wr.heap.size wr W')=>HMr.out.below hW)
       have rG:=Row.new wr #[.int .i64 y0,.int .i64 y1] 70
       have b4:Below wr.heap.size wr (wr.alloc (.cells #[.int .i64 y0,.int .i64 y1] 70)):=bE
       clear hy hgd hbn
       go_upto_region 35 with (fail)
       clear c0 c1 d0 d1 d2 d3 d4 d5 d6 d7 d8 d9 d10 d11 d12 cDp
       have hGl:=rG.lt
       generalize wr.alloc (.cells #[.int .i64 y0,.int .i64 y1] 70)=w4 at*
       have hs4:=b4.size
       obtain ⟨d0,d1,d2,d3,d4,d5,d6,d7,d8,d9,d10,d11,d12⟩:=(HMW.out _ b4).fo.cells
       have cDp:=((HMW.out _ b4).d.cell 0).trans rfl
       simp only[List.getElem?_toArray,List.getElem?_cons_zero] at cDp
       obtain ⟨e0,e1⟩:=rG.two'
       have cC:=ds_cell (HMW.out _ b4).fo.c (n:=k) (by rw[(HMW.out _ b4).fo.kl];exact hlt)
       have hbg:bGet cl (k:Int)=cl.getD k false:=by simp[bGet]
       rw[hbg] at cC
       generalize hB:cl.getD k false=B0 at cC
       cases B0
       ·have HL':Hid (LpP O v0 v1 w3 (pickN cl (fun i=>f.cells.getD i (0,0)) (k+1)) (pickN cl (fun i=>(numV cl (i:Nat),numV need (getI R (getI fr (i:Nat))))) (k+1)) v2 v3 w4):=by
         show LpP _ _ _ _ _ _ _ _ _
         rw[pick_skip hB,pick_skip hB]
         exact HL.out.below b4
        clear hB hbg
        go_wp2_with fail
        go_roundw
        case rel=>exact ⟨k+1,v2,v3,by omega,by go_num,HL'.out⟩
        case measure=>simp[intOf];omega
       have HBT:=Lib.hid hB
       clear hB hbg
       have HP2:Hid (pickN cl (fun i=>f.cells.getD i (0,0)) (k+1)=pickN cl (fun i=>f.cells.getD i (0,0)) k++ [(y0,y1)]):=by
        show _=_
        rw[pick_next HBT.out]
        show pickN cl (fun i=>f.cells.getD i (0,0)) k++ [f.cells.getD k (0,0)]=_
        rw[HGD.out]
       have HP3:Hid (pickN cl (fun i=>(numV cl (i:Nat),numV need (getI R (getI fr (i:Nat))))) (k+1)=pickN cl (fun i=>(numV cl (i:Nat),numV need (getI R (getI fr (i:Nat))))) k++ [(numV cl (k:Int),numV need (getI R (getI fr (k:Int))))]):=pick_next HBT.out
       have hlen2:(pickN cl (fun i=>f.cells.getD i (0,0)) k).length≤60:=by rw[pick_len];have:=cnt_le cl k;omega
       have hlen3:(pickN cl (fun i=>(numV cl (i:Nat),numV need (getI R (getI fr (i:Nat))))) k).length≤60:=by rw[pick_len];have:=cnt_le cl k;omega
       generalize pickN cl (fun i=>f.cells.getD i (0,0)) k=l2 at*
       generalize pickN cl (fun i=>(numV cl (i:Nat),numV need (getI R (getI fr (i:Nat))))) k=l3 at*
       have q2:=((HL.out.row.below b4 HL.out.row.lt).cell 2).trans rfl
       simp only[List.getElem?_toArray,List.getElem?_cons_zero,List.getElem?_cons_succ] at q2
       have hOG:O≠wr.heap.size:=by have:=HL.out.row.lt;omega
       obtain ⟨i2,hi2,hx0,hx1,hx2⟩:=info_parts info_cellT
       obtain ⟨i3,hi3,hz0,hz1,hz2⟩:=info_parts info_keepT
       have HO2:=Lib.hid HL.out.own2
       clear rG
       go_wp2_with (at_builtin;refine wpList_append_own _ rfl _ _ 24 rfl w3.heap.size 70 i2 (.agg #[.int .i64 0,.int .i64 0]) 2 16 Try.underlying24 hi2 hx0 hx1 hx2 rfl (by decide) _ _ _ rfl (own_below HO2.out bE) ⟨_,0,none⟩ 1 1 [.int .i64 y0,.int .i64 y1] rfl ?c0 ?c1 ?c2 ?c3 ?c4 ?c5 ?_)
       case c0=>rfl
       case c1=>refine cells_at ?_;simp
       case c2=>intro u hu;simp at hu;rcases hu with rfl|rfl<;>rfl
       case c3=>unfold maxLen;omega
       case c4=>omega
       case c5=>simp;omega
       intro v15 w15 hown15 hg15 _
       obtain ⟨hL15,q15,z15,_⟩:=HL.out.app2 (x:=(y0,y1)) hg15 bE hown15
       obtain ⟨A15,c15,hv15,_⟩:=own_src hown15
       subst hv15
       have HL15:=Lib.hid hL15
       clear hL15 hown15 hg15 q2 e0 e1 d0 d1 d2 d3 d4 d5 d6 d7 d8 d9 d10 d11 d12 cDp cC HO2
       go_upto_region 37 with (fail)
       generalize w15.setCell ⟨O,2,none⟩ (.slice A15 (l2.length+1) c15)=w16 at*
       clear q15 z15
       have HM16:=Lib.hid (HM3.out.upd HL15.out.upd)
       have hw16:=HL15.out.upd.size
       have HAT:Hid (∀W',Below w16.heap.size w16 W'→Calls Try.prog 62 #[.int .i64 (getI fr (k:Int)),.pointer (some ⟨P,0,none⟩),.pointer (some ⟨Dp,0,none⟩)] W' fun e w'=>e= .returned (.int .i64 (numV need (getI R (getI fr (k:Int)))))∧∃k,w'=W'.drewN k):=fun W' hW=>(HM16.out.below hW).at_ HFI.out (HC.out.isW (HC.out.ce _ (nd_nat HBT.out)))
       have HK:Hid (∀W,Upd (fun x=>x=O) w3 W→W.cell? ⟨Dp,0,none⟩=some (.pointer (some ⟨q.D,0,none⟩))∧W.cell? ⟨q.D,12,none⟩=some (.slice (some ⟨q.F,0,none⟩) f.cells.length f.cells.length)∧W.cell? ⟨q.F,k,none⟩=some (.int .i64 (getI fr (k:Int)))∧W.cell? ⟨K2,k,none⟩=some (.int .i64 (numV cl (k:Int)))):=fun W hW=>by
        have hM:=HM3.out.upd hW
        obtain ⟨_,_,_,_,_,_,_,_,_,_,_,_,g12⟩:=hM.fo.cells
        have g3:=vs_cell hM.fo.fb (n:=k) HBN.out
        have g4:=vs_cell hM.k2 (n:=k) (by rw[numTo_len,hM.fo.kl];exact hlt)
        rw[numTo_get cl (by omega)] at g4
        exact ⟨(hM.d.cell 0).trans rfl,g12,g3,g4⟩
       generalize numV need (getI R (getI fr (k:Int)))=nm at*
       generalize getI fr (k:Int)=mm at*
       generalize numV cl (k:Int)=nk at*
       have HK2:Hid (∀W,Below w16.heap.size w16 W→W.cell? ⟨O,3,none⟩=some v3∧W.cell? ⟨Dp,0,none⟩=some (.pointer (some ⟨q.D,0,none⟩))∧W.cell? ⟨q.D,12,none⟩=some (.slice (some ⟨q.F,0,none⟩) f.cells.length f.cells.length)∧W.cell? ⟨q.F,k,none⟩=some (.int .i64 mm)∧W.cell? ⟨K2,k,none⟩=some (.int .i64 nk)):=fun W hW=>⟨(((HL15.out.row.below hW HL15.out.row.lt).cell 3).trans rfl),HK.out W (HL15.out.upd.trans (Upd.of_below hW))⟩
       have HO3b:=Lib.hid HL15.out.own3
       have tk16:w16.heap.size≤w16.heap.size:=Nat.le_refl _
       refine wp_region_L 19 (S:=fun W=>W.cell? ⟨O,3,none⟩=some v3∧W.cell? ⟨Dp,0,none⟩=some (.pointer (some ⟨q.D,0,none⟩))∧W.cell? ⟨q.D,12,none⟩=some (.slice (some ⟨q.F,0,none⟩) f.cells.length f.cells.length)∧W.cell? ⟨q.F,k,none⟩=some (.int .i64 mm)∧W.cell? ⟨K2,k,none⟩=some (.int .i64 nk)) (by kernel_rfl) ?_ (fun hHeld=>?_)
       ·(try dsimp only);(first|exact HS13.out|(with_reducible exact HK2.out _ bE))
       refine tkL 0 (some 176) rfl ?_
       refine tkL 1 (some 177) rfl ?_
       refine tkL 2 (some 178) rfl ?_
       refine tkL 3 (some 179) rfl ?_
       refine tkL 4 (some 180) rfl ?_
       refine tkL 5 (some 181) rfl ?_
       refine tkL 6 (some 182) rfl ?_
       refine tkL 7 (some 183) rfl ?_
       refine tkL 8 (some 184) rfl ?_
       refine tkL 9 (some 185) rfl ?_
       refine tkL 10 (some 186) rfl ?_
       refine tkL 11 (some 187) rfl ?_
       refine tkL 12 (some 188) rfl ?_
       refine tkL 13 (some 189) rfl ?_
       refine rdL 14 (some 190) rfl (fun KK hKK=>?_)
       go_simp
       first|((go_at_call 62);(with_reducible refine Calls.mono (HAT.out _ bE) ?_);rintro e w8 ⟨rfl,n8,rfl⟩)|((rw[if_pos (by kernel_rfl)]);(refine step_own (.tmp 177) (.tmp 192) 25 rfl w3.heap.size 63 i3 (.agg #[.int .i64 0,.int .i64 0]) 2 16 Try.underlying25 hi3 hz0 hz1 hz2 rfl (by decide) _ l3.length (prF l3) rfl (own_below HO3b.out (bE:Below w16.heap.size w16 _)) (some ⟨_,0,none⟩) 1 1 [.int .i64 nk,.int .i64 nm] rfl NilOk.some rfl (fun ad he=>by injection he with he;subst he;exact cells_new _ _ _) (by intro u hu;simp at hu;rcases hu with rfl|rfl<;>rfl) (by unfold maxLen;omega) (by omega) (by first|omega|(simp;omega)|simp) ?_);(intro v13 w13 hown13 hg13);(obtain ⟨hL13,q13,z13,hu13⟩:=HL15.out.app3 (x:=(nk,nm)) hg13 (bE:Below w16.heap.size w16 _) hown13);(have HS13:=Lib.hid (And.intro q13 (HK.out _ hu13)));(have HL13:=Lib.hid hL13);(clear hL13 hu13);(obtain ⟨A13,c13,hv13,_⟩:=own_src hown13);subst hv13)
       (try go_wp2_with fail)
       refine hKK.out _ _ ?_ (fun hHeld=>?_)
       ·(try dsimp only);(first|exact HS13.out|(with_reducible exact HK2.out _ bE))
       clear hKK KK
       try simp only[Act.put,List.setIfInBounds_toArray,List.set_cons_zero,List.set_cons_succ]
       refine tkL 15 (some 191) rfl ?_
       refine rdL 16 (some 192) rfl (fun KK hKK=>?_)
       go_simp
       refine hKK.out _ _ ?_ (fun hHeld=>?_)
       ·(try dsimp only);(first|exact HS13.out|(with_reducible exact HK2.out _ bE))
       clear hKK KK
       try simp only[Act.put,List.setIfInBounds_toArray,List.set_cons_zero,List.set_cons_succ]
       refine rdL 17 (some 193) rfl (fun KK hKK=>?_)
       ((rw[if_pos (by kernel_rfl)]);(refine step_own (.tmp 177) (.tmp 192) 25 rfl w3.heap.size 63 i3 (.agg #[.int .i64 0,.int .i64 0]) 2 16 Try.underlying25 hi3 hz0 hz1 hz2 rfl (by decide) _ l3.length (prF l3) rfl (own_below HO3b.out (bE:Below w16.heap.size w16 _)) (some ⟨_,0,none⟩) 1 1 [.int .i64 nk,.int .i64 nm] rfl NilOk.some rfl (fun ad he=>by injection he with he;subst he;exact cells_new _ _ _) (by intro u hu;simp at hu;rcases hu with rfl|rfl<;>rfl) (by unfold maxLen;omega) (by omega) (by first|omega|(simp;omega)|simp) ?_);(intro v13 w13 hown13 hg13);(obtain ⟨hL13,q13,z13,hu13⟩:=HL15.out.app3 (x:=(nk,nm)) hg13 (bE:Below w16.heap.size w16 _) hown13);(have HS13:=Lib.hid (And.intro q13 (HK.out _ hu13)));(have HL13:=Lib.hid hL13);(clear hL13 hu13);(obtain ⟨A13,c13,hv13,_⟩:=own_src hown13);subst hv13)
       refine hKK.out _ _ ?_ (fun hHeld=>?_)
       ·(try dsimp only);(first|exact HS13.out|(with_reducible exact HK2.out _ bE))
       clear hKK KK
       try simp only[Act.put,List.setIfInBounds_toArray,List.set_cons_zero,List.set_cons_succ]
       refine rdL 18 (some 194) rfl (fun KK hKK=>?_)
       go_simp
       refine hKK.out _ _ ?_ (fun hHeld=>?_)
       ·(try dsimp only);(first|exact HS13.out|(with_reducible exact HK2.out _ bE))
       clear hKK KK
       try simp only[Act.put,List.setIfInBounds_toArray,List.set_cons_zero,List.set_cons_succ]
       refine rdE none rfl (fun KK hKK=>?_)
       go_simp
       refine hKK.out _ _ ?_
       clear hKK KK
       try simp only[Act.put,List.setIfInBounds_toArray,List.set_cons_zero,List.set_cons_succ]
       refine wpAnyL_done (by kernel_rfl) ?_ _
       have HLn:Hid (LpP O v0 v1 w3 (pickN cl (fun i=>f.cells.getD i (0,0)) (k+1)) (pickN cl (fun i=>(numV cl (i:Nat),numV need (getI R (getI fr (i:Nat))))) (k+1)) (.slice A15 (l2.length+1) c15) (.slice A13 (l3.length+1) c13) (w13.setCell ⟨O,3,none⟩ (.slice A13 (l3.length+1) c13))):=by
        show LpP _ _ _ _ _ _ _ _ _
        rw[HP2.out,HP3.out]
        exact HL13.out
       clear hown13 hg13 q13 z13 HS13 HL13 HK HK2 HAT HO3b
       go_wp2_with fail
       go_roundw
       case rel=>exact ⟨k+1,_,_,by omega,by go_num,HLn.out⟩
       case measure=>simp[intOf];omega
     have hlt':(k:Int)<A.length:=by omega
     obtain ⟨y,hy⟩:∃y,A[k]? =some y:=⟨_,List.getElem?_eq_getElem hlt⟩
     have hacts:=(HMr.out.fo.acts hy).1
     have hxa:q.xa=some ⟨q.A,0,none⟩:=by
      rw[HVX.out] at hacts
      injection hacts
     obtain ⟨⟨c0,c1,c2,c3,c4,c5⟩,_⟩:=HMr.out.fo.a.six hy
     have hyin:=HMr.out.fo.wA _ (List.mem_of_getElem? hy)
     have hya:actAt A y.dst=some y:=actAt_mem (HC.out.inv.nodup HOK.out.2.2.2.2.1) (List.mem_of_getElem? hy)
     have hdw:isW f y.dst:=by
      have hm:y.dst∈Fo.dstsOf f.acts:=by rw[←HC.out.inv.ad];exact List.mem_map.2 ⟨y,List.mem_of_getElem? hy,rfl⟩
      obtain ⟨x,hx,e⟩:=List.mem_map.1 hm
      rw[←e]
      exact (HOK.out.2.2.2.2.1.2.1 x hx).1
     have hfac:=HC.out.inv.ac_facts HOK.out hdw hya
     obtain ⟨op,dst,a,bb,c,kk⟩:=y
     dsimp only at c0 c1 c2 c3 c4 c5 hfac hdw hya
     have HY:=Lib.hid hy
     have HYA:=Lib.hid hya
     have HFK:=Lib.hid hfac.2
     have HPT:=Lib.hid (fun W'=>parts_any (⟨op,dst,a,bb,c,kk⟩:Ac) hyin hfac.1 W')
     have HUS:=Lib.hid hfac.1
     have HLU:=Lib.hid (wants_len (x:=(⟨op,dst,a,bb,c,kk⟩:Ac)) hfac.1)
     obtain ⟨md,hmd⟩:=Int.eq_ofNat_of_zero_le hdw.1
     have hmdl:md<f.wires.length:=by have:=hdw.2;omega
     subst hmd
     have hmdl':(md:Int)<f.wires.length:=by omega
     have HMW:=Lib.hid (fun W' (hW:Below wr.heap.size wr W')=>HMr.out.below hW)
     have rG:=Row.new wr #[.int .i64 op,.int .i64 (md:Int),.int .i64 a,.int .i64 bb,.int .i64 c,.int .i64 kk] 50
     have b4:Below wr.heap.size wr (wr.alloc (.cells #[.int .i64 op,.int .i64 (md:Int),.int .i64 a,.int .i64 bb,.int .i64 c,.int .i64 kk] 50)):=bE
     clear hy hacts hyin hya hfac hdw
     go_upto_region 19 with (fail)
     clear c0 c1 c2 c3 c4 c5 d0 d1 d2 d3 d4 d5 d6 d7 d8 d9 d10 d11 d12 cDp hxa
     have hGl:=rG.lt
     generalize wr.alloc (.cells #[.int .i64 op,.int .i64 (md:Int),.int .i64 a,.int .i64 bb,.int .i64 c,.int .i64 kk] 50)=w4 at*
     have hs4:=b4.size
     obtain ⟨d0,d1,d2,d3,d4,d5,d6,d7,d8,d9,d10,d11,d12⟩:=(HMW.out _ b4).fo.cells
     have cDp:=((HMW.out _ b4).d.cell 0).trans rfl
     simp only[List.getElem?_toArray,List.getElem?_cons_zero] at cDp
     obtain ⟨e0,e1,e2,e3,e4,e5⟩:=rG.six'
     have cE:=ds_cell (HMW.out _ b4).fo.e (n:=md) (by rw[(HMW.out _ b4).fo.el];exact hmdl)
     generalize hB:bGet need (md:Int)=B0 at cE
     go_quiet (fail)
     rename_i nq
     have b5:=below_drewN' b4 nq
     have rG5:=rG.drewN nq
     clear e0 e1 e2 e3 e4 e5 cE d0 d1 d2 d3 d4 d5 d6 d7 d8 d9 d10 d11 d12 cDp b4 rG hGl hs4
     generalize w4.drewN nq=w5 at*
     have hs5:=b5.size
     cases B0
     ·have HL':=Lib.hid ((HL.out.below b5).skip HY.out hB)
      clear hB
      go_wp2_with fail
      go_roundw
      case rel=>exact ⟨k+1,v1,by omega,by go_num,HL'.out⟩
      case measure=>simp[intOf];omega
     have HBT:=Lib.hid hB
     have HND:Hid (nd need (md:Int)):=⟨by omega,HBT.out⟩
     clear hB
     obtain ⟨e0,e1,e2,e3,e4,e5⟩:=rG5.six'
     go_wp2_with fail
     (with_reducible refine (HPT.out _).mono ?_)
     rintro e w6 ⟨v,rfl,hv,_,hb6⟩
     obtain ⟨Av,cv,rfl,lv,mv,_⟩:=hv
     have mv':cv≤9223372036854775807:=by unfold maxLen at mv;omega
     have b6:=b5.trans (hb6.mono hs5)
     have hs6:=b6.size
     have rG6:=rG5.below hb6 rG5.lt
     have hM6:=HMW.out _ b6
     clear e0 e1 e2 e3 e4 e5 hb6 rG5 b5 hs5 mv
     obtain ⟨e0,e1,e2,e3,e4,e5⟩:=rG6.six'
     have p0:=(hM6.p.cell 0).trans rfl
     simp only[List.getElem?_toArray,List.getElem?_cons_zero] at p0
     have k1c:=vs_cell hM6.k1 (n:=md) (by rw[numTo_len,hM6.fo.el];exact hmdl)
     rw[numTo_get need (by omega)] at k1c
     have z1:=rG6.frozen 1
     have hG6:=rG6.lt
     generalize hnum:numV need (md:Int)=nm at*
     have HNM:=Lib.hid hnum
     clear hnum
     generalize hwl:(wants (⟨op,(md:Int),a,bb,c,kk⟩:Ac)).length=n at*
     have HWL:=Lib.hid hwl
     clear hwl
     have hn3:n≤3:=by rw[←HWL.out];exact wants_le3 _
     have hnu:(n:Int)=uses op:=by rw[←HLU.out]
     have hcase:(n=0∧op≠21)∨(n=0∧op=21)∨(n=1∧op≠21)∨(n=2∧op≠21)∨(n=3∧op≠21):=by
      by_cases g:op=21
      ·have:uses op=0:=uses0 (.inr (.inr g))
       exact .inr (.inl ⟨by omega,g⟩)
      ·omega
     have HNU:=Lib.hid hnu
     have HPN:Hid (∀p∈wants (⟨op,(md:Int),a,bb,c,kk⟩:Ac),isW f p∧isW f (getI R p)):=fun p hp=>by
      have h1:=(HC.out.pt _ HND.out _ HYA.out).1 p hp
      have h2:=HC.out.isW h1
      rw[HC.out.rt p h1]
      exact ⟨h2,h2⟩
     have HAT:Hid (∀p,p∈wants (⟨op,(md:Int),a,bb,c,kk⟩:Ac)→∀W',Below wr.heap.size wr W'→Calls Try.prog 62 #[.int .i64 p,.pointer (some ⟨P,0,none⟩),.pointer (some ⟨Dp,0,none⟩)] W' fun e w'=>e= .returned (.int .i64 (numV need (getI R p)))∧∃k,w'=W'.drewN k):=fun p hp W' hW=>(HMW.out W' hW).at_ (HPN.out p hp).1 (HPN.out p hp).2
     have HLO:=Lib.hid HL.out.own
     have hal:(actsM R need cl (A.take k)).length≤100000:=by
      have h1:(actsM R need cl (A.take k)).length≤(A.take k).length:=List.length_filterMap_le ..
      have h2:(A.take k).length≤A.length:=by simp;omega
      have h3:=HM2.out.fo.al
      omega
     obtain ⟨p1,p1x⟩:∃x:Value,x=v1:=⟨_,rfl⟩
     have q1:=((HL.out.row.below b6 HL.out.row.lt).cell 1).trans rfl
     simp only[List.getElem?_toArray,List.getElem?_cons_zero,List.getElem?_cons_succ] at q1
     have hOG:O≠wr.heap.size:=by have:=HL.out.row.lt;omega
     obtain ⟨i2,hi2,hx0,hx1,hx2⟩:=info_parts info_ac
     generalize hLLn:(actsM R need cl (A.take k)).length=LN at*
     generalize hLLf:acF (actsM R need cl (A.take k))=LF at*
     have HLLn:=Lib.hid hLLn
     have HLLf:=Lib.hid hLLf
     have z2:=rG6.frozen 2
     have z3:=rG6.frozen 3
     have z4:=rG6.frozen 4
     have z5:=rG6.frozen 5
     clear hn3 hnu hLLn hLLf p1x p1 rG6
     rcases hcase with ⟨hn,ho⟩|⟨hn,ho⟩|⟨hn,ho⟩|⟨hn,ho⟩|⟨hn,ho⟩
     ·have HU:Hid (uses op=0):=by show _=_;rw[←HNU.out,hn];rfl
      have g0:¬0<n:=by omega
      have g1:¬(1:Int)<(n:Int):=by omega
      have g2:¬(2:Int)<(n:Int):=by omega
      have o21:(op==21)=false:=by simp[ho]
      have HZE:Hid (acC (actM R need cl (⟨op,(md:Int),a,bb,c,kk⟩:Ac))=[.int .i64 op,.int .i64 nm,.int .i64 a,.int .i64 bb,.int .i64 c,.int .i64 kk]):=by
       show _=_
       unfold acC actM
       dsimp only
       rw[HU.out,HNM.out]
       rw[if_neg ho]
       rfl
      clear hn ho
      go_wp2_with (at_builtin;refine wpList_append_own _ rfl _ _ 23 rfl w2.heap.size 50 i2 (.agg #[.int .i64 0,.int .i64 0,.int .i64 0,.int .i64 0,.int .i64 0,.int .i64 0]) 6 48 Try.underlying23 hi2 hx0 hx1 hx2 rfl (by decide) _ _ _ rfl (own_below HLO.out bE) ⟨_,0,none⟩ 1 1 [.int .i64 op,.int .i64 nm,.int .i64 a,.int .i64 bb,.int .i64 c,.int .i64 kk] rfl ?c0 ?c1 ?c2 ?c3 ?c4 ?c5 ?_)
      case c0=>rfl
      case c1=>refine cells_at ?_;simp
      case c2=>intro u hu;simp at hu;rcases hu with rfl|rfl|rfl|rfl|rfl|rfl<;>rfl
      case c3=>unfold maxLen;omega
      case c4=>omega
      case c5=>simp[World.setCell];omega
      intro v15 w15 hown15 hg15 _
      obtain ⟨hL15,q15,z15⟩:=HL.out.app hg15 bE HY.out HBT.out HZE.out (by rw[HLLn.out,HLLf.out];exact hown15)
      have HL15:=Lib.hid hL15
      obtain ⟨A15,c15,hv15,_⟩:=own_src hown15
      subst hv15
      clear hL15 hown15 hg15
      go_wp2_with fail
      go_roundw
      case rel=>exact ⟨k+1,_,by omega,by go_num,HL15.out⟩
      case measure=>simp[intOf];omega
     ·have HU:Hid (uses op=0):=by show _=_;rw[←HNU.out,hn];rfl
      have g0:¬0<n:=by omega
      have g1:¬(1:Int)<(n:Int):=by omega
      have g2:¬(2:Int)<(n:Int):=by omega
      have o21:(op==21)=true:=by simp[ho]
      obtain ⟨mk,hmk⟩:=Int.eq_ofNat_of_zero_le (HFK.out ho).1
      have hmkl:=(HFK.out ho).2
      subst hmk
      have hmkl2:mk<f.cells.length:=by omega
      have hK2G:K2≠wr.heap.size:=by have:=(HMW.out wr (Below.refl _ _)).k2.lt;omega
      have k2c:=vs_cell hM6.k2 (n:=mk) (by rw[numTo_len,hM6.fo.kl];exact hmkl2)
      rw[numTo_get cl (by omega)] at k2c
      generalize hnk:numV cl (mk:Int)=nk at*
      have HNK:=Lib.hid hnk
      clear hnk
      have HZE:Hid (acC (actM R need cl (⟨op,(md:Int),a,bb,c,(mk:Int)⟩:Ac))=[.int .i64 op,.int .i64 nm,.int .i64 a,.int .i64 bb,.int .i64 c,.int .i64 nk]):=by
       show _=_
       unfold acC actM
       dsimp only
       rw[HU.out,HNM.out]
       rw[if_pos ho,HNK.out]
       rfl
      clear hn ho
      go_wp2_with (at_builtin;refine wpList_append_own _ rfl _ _ 23 rfl w2.heap.size 50 i2 (.agg #[.int .i64 0,.int .i64 0,.int .i64 0,.int .i64 0,.int .i64 0,.int .i64 0]) 6 48 Try.underlying23 hi2 hx0 hx1 hx2 rfl (by decide) _ _ _ rfl (own_below HLO.out bE) ⟨_,0,none⟩ 1 1 [.int .i64 op,.int .i64 nm,.int .i64 a,.int .i64 bb,.int .i64 c,.int .i64 nk] rfl ?c0 ?c1 ?c2 ?c3 ?c4 ?c5 ?_)
      case c0=>rfl
      case c1=>refine cells_at ?_;simp
      case c2=>intro u hu;simp at hu;rcases hu with rfl|rfl|rfl|rfl|rfl|rfl<;>rfl
      case c3=>unfold maxLen;omega
      case c4=>omega
      case c5=>simp[World.setCell];omega
      intro v15 w15 hown15 hg15 _
      obtain ⟨hL15,q15,z15⟩:=HL.out.app hg15 bE HY.out HBT.out HZE.out (by rw[HLLn.out,HLLf.out];exact hown15)
      have HL15:=Lib.hid hL15
      obtain ⟨A15,c15,hv15,_⟩:=own_src hown15
      subst hv15
      clear hL15 hown15 hg15
      go_wp2_with fail
      go_roundw
      case rel=>exact ⟨k+1,_,by omega,by go_num,HL15.out⟩
      case measure=>simp[intOf];omega
     ·have HU:Hid (uses op=1):=by show _=_;rw[←HNU.out,hn];rfl
      have g0:0<n:=by omega
      have g1:¬(1:Int)<(n:Int):=by omega
      have g2:¬(2:Int)<(n:Int):=by omega
      have o21:(op==21)=false:=by simp[ho]
      have Hna:=Lib.hid (HAT.out a (wants_a (x:=(⟨op,(md:Int),a,bb,c,kk⟩:Ac)) (by show 1≤uses op;have:=HU.out;omega)))
      generalize hna:numV need (getI R a)=na at*
      have HNna:=Lib.hid hna
      clear hna
      have HZE:Hid (acC (actM R need cl (⟨op,(md:Int),a,bb,c,kk⟩:Ac))=[.int .i64 op,.int .i64 nm,.int .i64 na,.int .i64 bb,.int .i64 c,.int .i64 kk]):=by
       show _=_
       unfold acC actM
       dsimp only
       rw[HU.out,HNM.out]
       rw[HNna.out]
       rw[if_neg ho]
       rfl
      clear hn ho
      go_wp2_with fail
      refine Calls.mono (Hna.out _ bE) ?_
      rintro e _ ⟨rfl,n7,rfl⟩
      go_wp2_with (at_builtin;refine wpList_append_own _ rfl _ _ 23 rfl w2.heap.size 50 i2 (.agg #[.int .i64 0,.int .i64 0,.int .i64 0,.int .i64 0,.int .i64 0,.int .i64 0]) 6 48 Try.underlying23 hi2 hx0 hx1 hx2 rfl (by decide) _ _ _ rfl (own_below HLO.out bE) ⟨_,0,none⟩ 1 1 [.int .i64 op,.int .i64 nm,.int .i64 na,.int .i64 bb,.int .i64 c,.int .i64 kk] rfl ?c0 ?c1 ?c2 ?c3 ?c4 ?c5 ?_)
      case c0=>rfl
      case c1=>refine cells_at ?_;simp
      case c2=>intro u hu;simp at hu;rcases hu with rfl|rfl|rfl|rfl|rfl|rfl<;>rfl
      case c3=>unfold maxLen;omega
      case c4=>omega
      case c5=>simp[World.setCell];omega
      intro v15 w15 hown15 hg15 _
      obtain ⟨hL15,q15,z15⟩:=HL.out.app hg15 bE HY.out HBT.out HZE.out (by rw[HLLn.out,HLLf.out];exact hown15)
      have HL15:=Lib.hid hL15
      obtain ⟨A15,c15,hv15,_⟩:=own_src hown15
      subst hv15
      clear hL15 hown15 hg15
      go_wp2_with fail
      go_roundw
      case rel=>exact ⟨k+1,_,by omega,by go_num,HL15.out⟩
      case measure=>simp[intOf];omega
     ·have HU:Hid (uses op=2):=by show _=_;rw[←HNU.out,hn];rfl
      have g0:0<n:=by omega
      have g1:(1:Int)<(n:Int):=by omega
      have g2:¬(2:Int)<(n:Int):=by omega
      have o21:(op==21)=false:=by simp[ho]
      have Hna:=Lib.hid (HAT.out a (wants_a (x:=(⟨op,(md:Int),a,bb,c,kk⟩:Ac)) (by show 1≤uses op;have:=HU.out;omega)))
      have Hnb:=Lib.hid (HAT.out bb (wants_b (x:=(⟨op,(md:Int),a,bb,c,kk⟩:Ac)) (by show 2≤uses op;have:=HU.out;omega)))
      generalize hna:numV need (getI R a)=na at*
      have HNna:=Lib.hid hna
      clear hna
      generalize hnb:numV need (getI R bb)=nb at*
      have HNnb:=Lib.hid hnb
      clear hnb
      have HZE:Hid (acC (actM R need cl (⟨op,(md:Int),a,bb,c,kk⟩:Ac))=[.int .i64 op,.int .i64 nm,.int .i64 na,.int .i64 nb,.int .i64 c,.int .i64 kk]):=by
       show _=_
       unfold acC actM
       dsimp only
       rw[HU.out,HNM.out]
       rw[HNna.out]
       rw[HNnb.out]
       rw[if_neg ho]
       rfl
      clear hn ho
      go_wp2_with fail
      refine Calls.mono (Hna.out _ bE) ?_
      rintro e _ ⟨rfl,n7,rfl⟩
      go_wp2_with fail
      refine Calls.mono (Hnb.out _ bE) ?_
      rintro e _ ⟨rfl,n8,rfl⟩
      go_wp2_with (at_builtin;refine wpList_append_own _ rfl _ _ 23 rfl w2.heap.size 50 i2 (.agg #[.int .i64 0,.int .i64 0,.int .i64 0,.int .i64 0,.int .i64 0,.int .i64 0]) 6 48 Try.underlying23 hi2 hx0 hx1 hx2 rfl (by decide) _ _ _ rfl (own_below HLO.out bE) ⟨_,0,none⟩ 1 1 [.int .i64 op,.int .i64 nm,.int .i64 na,.int .i64 nb,.int .i64 c,.int .i64 kk] rfl ?c0 ?c1 ?c2 ?c3 ?c4 ?c5 ?_)
      case c0=>rfl
      case c1=>refine cells_at ?_;simp
      case c2=>intro u hu;simp at hu;rcases hu with rfl|rfl|rfl|rfl|rfl|rfl<;>rfl
      case c3=>unfold maxLen;omega
      case c4=>omega
      case c5=>simp[World.setCell];omega
      intro v15 w15 hown15 hg15 _
      obtain ⟨hL15,q15,z15⟩:=HL.out.app hg15 bE HY.out HBT.out HZE.out (by rw[HLLn.out,HLLf.out];exact hown15)
      have HL15:=Lib.hid hL15
      obtain ⟨A15,c15,hv15,_⟩:=own_src hown15
      subst hv15
      clear hL15 hown15 hg15
      go_wp2_with fail
      go_roundw
      case rel=>exact ⟨k+1,_,by omega,by go_num,HL15.out⟩
      case measure=>simp[intOf];omega
     ·have HU:Hid (uses op=3):=by show _=_;rw[←HNU.out,hn];rfl
      have g0:0<n:=by omega
      have g1:(1:Int)<(n:Int):=by omega
      have g2:(2:Int)<(n:Int):=by omega
      have o21:(op==21)=false:=by simp[ho]
      have Hna:=Lib.hid (HAT.out a (wants_a (x:=(⟨op,(md:Int),a,bb,c,kk⟩:Ac)) (by show 1≤uses op;have:=HU.out;omega)))
      have Hnb:=Lib.hid (HAT.out bb (wants_b (x:=(⟨op,(md:Int),a,bb,c,kk⟩:Ac)) (by show 2≤uses op;have:=HU.out;omega)))
      have Hnc:=Lib.hid (HAT.out c (wants_c (x:=(⟨op,(md:Int),a,bb,c,kk⟩:Ac)) (by show uses op=3;exact HU.out)))
      generalize hna:numV need (getI R a)=na at*
      have HNna:=Lib.hid hna
      clear hna
      generalize hnb:numV need (getI R bb)=nb at*
      have HNnb:=Lib.hid hnb
      clear hnb
      generalize hnc:numV need (getI R c)=nc at*
      have HNnc:=Lib.hid hnc
      clear hnc
      have HZE:Hid (acC (actM R need cl (⟨op,(md:Int),a,bb,c,kk⟩:Ac))=[.int .i64 op,.int .i64 nm,.int .i64 na,.int .i64 nb,.int .i64 nc,.int .i64 kk]):=by
       show _=_
       unfold acC actM
       dsimp only
       rw[HU.out,HNM.out]
       rw[HNna.out]
       rw[HNnb.out]
       rw[HNnc.out]
       rw[if_neg ho]
       rfl
      clear hn ho
      go_wp2_with fail
      refine Calls.mono (Hna.out _ bE) ?_
      rintro e _ ⟨rfl,n7,rfl⟩
      go_wp2_with fail
      refine Calls.mono (Hnb.out _ bE) ?_
      rintro e _ ⟨rfl,n8,rfl⟩
      go_wp2_with fail
      refine Calls.mono (Hnc.out _ bE) ?_
      rintro e _ ⟨rfl,n9,rfl⟩
      go_wp2_with (at_builtin;refine wpList_append_own _ rfl _ _ 23 rfl w2.heap.size 50 i2 (.agg #[.int .i64 0,.int .i64 0,.int .i64 0,.int .i64 0,.int .i64 0,.int .i64 0]) 6 48 Try.underlying23 hi2 hx0 hx1 hx2 rfl (by decide) _ _ _ rfl (own_below HLO.out bE) ⟨_,0,none⟩ 1 1 [.int .i64 op,.int .i64 nm,.int .i64 na,.int .i64 nb,.int .i64 nc,.int .i64 kk] rfl ?c0 ?c1 ?c2 ?c3 ?c4 ?c5 ?_)
      case c0=>rfl
      case c1=>refine cells_at ?_;simp
      case c2=>intro u hu;simp at hu;rcases hu with rfl|rfl|rfl|rfl|rfl|rfl<;>rfl
      case c3=>unfold maxLen;omega
      case c4=>omega
      case c5=>simp[World.setCell];omega
      intro v15 w15 hown15 hg15 _
      obtain ⟨hL15,q15,z15⟩:=HL.out.app hg15 bE HY.out HBT.out HZE.out (by rw[HLLn.out,HLLf.out];exact hown15)
      have HL15:=Lib.hid hL15
      obtain ⟨A15,c15,hv15,_⟩:=own_src hown15
      subst hv15
      clear hL15 hown15 hg15
      go_wp2_with fail
      go_roundw
      case rel=>exact ⟨k+1,_,by omega,by go_num,HL15.out⟩
      case measure=>simp[intOf];omega
   have hlt':(k:Int)<f.wires.length:=by omega
   have cE:=ds_cell HMr.out.fo.e (n:=k) (by rw[HMr.out.fo.el];exact hlt)
   have hbg:bGet need (k:Int)=need.getD k false:=by simp[bGet]
   rw[hbg] at cE
   generalize hB:need.getD k false=B0 at cE
   cases B0
   ·have HL':=Lib.hid (HL.out.skip hB)
    clear hB hbg
    go_wp2_with fail
    go_roundw
    case rel=>exact ⟨k+1,v0,by omega,by go_num,HL'.out⟩
    case measure=>simp[intOf];omega
   have HBT:=Lib.hid hB
   obtain ⟨b,off,cw,Ag,cg,hvw,mw,lw,hg0,lg,mg⟩:=HMr.out.fo.guards hlt
   rw[hvw] at d0
   have HG:=Lib.hid (fun W' (hW:Below wr.heap.size wr W')=>hg0 W' (Upd.of_below hW))
   obtain ⟨c0,c1,_⟩:=HG.out wr (Below.refl _ _)
   have HVW:=Lib.hid hvw
   have b4:Below wr.heap.size wr (wr.alloc (.cells #[.int .i64 (tyOf f (k:Int)),.slice none 0 0] 44)):=bE
   have rX:=Row.new wr #[.int .i64 (tyOf f (k:Int)),.slice none 0 0] 44
   have HBT2:Hid (Wf (tyOf f (k:Int))):=by
    have:=act_two HOK.out.1 (HC.out.isW (nd_nat HBT.out))
    exact wf_of (by omega)
   have HCW:Hid (∀g∈clockOf f (k:Int),isW f g.wire∧isW f (getI R g.wire)):=fun g hg=>by
    have hw:=HC.out.isW (nd_nat HBT.out)
    have h1:=(clock_ok HOK.out.1 hw g hg).1
    exact ⟨h1,(HC.out.inv.rt HOK.out h1).1⟩
   clear hB hbg hg0 hvw
   go_upto_region 9 with (fail)
   have hXl:=rX.lt
   have HX0:=Lib.hid rX
   have HB4:=Lib.hid b4
   generalize wr.alloc (.cells #[.int .i64 (tyOf f (k:Int)),.slice none 0 0] 44)=wa at*
   generalize hXX:wr.heap.size=X at*
   have hMa:=HMr.out.below (by rw[hXX];exact b4)
   clear d0 d1 d2 d3 d4 d5 d6 d7 d8 d9 d10 d11 d12 cDp cE c0 c1 rX
   obtain ⟨d0,d1,d2,d3,d4,d5,d6,d7,d8,d9,d10,d11,d12⟩:=hMa.fo.cells
   rw[HVW.out] at d0
   have cDp:=(hMa.d.cell 0).trans rfl
   simp only[List.getElem?_toArray,List.getElem?_cons_zero] at cDp
   obtain ⟨c0,c1,_⟩:=HG.out wa b4
   have HXX:=Lib.hid hXX
   have hs4:=b4.size
   have hl1600:(clockOf f (k:Int)).length≤1600:=clock_len HOK.out.1 (HC.out.isW (nd_nat HBT.out))
   clear hXX hMa b4
   generalize hclk:clockOf f (k:Int)=clk at*
   have HCL:=Lib.hid hclk
   clear hclk
   obtain ⟨i0,hi0,hz0,hz1,hz2⟩:=info_parts info_gd
   go_wp2_with fail
   obtain ⟨wo,hwo⟩:∃wo:World,wo=wr:=⟨_,rfl⟩
   subst hwo
   go_loopw[64] (fun i wi=>∃(j:Nat) (vx:Value),j≤clk.length∧i= .int .i64 j∧Hid (Row wi X #[.int .i64 (tyOf f (k:Int)),vx] 44)∧Hid (wi.ownsRow X 65 2 vx j (((clk.take j).map (gdM R need)).map gdC).flatten)∧Hid (Below X wo wi)∧X<wi.heap.size) (fun i _=>clk.length-(intOf i).toNat)
   case atStart=>exact ⟨0,_,Nat.zero_le _,rfl,HX0.out,World.ownsRow_nil _ _ _ _,HB4.out,hXl⟩
   case round=>
    clear d0 d1 d2 d3 d4 d5 d6 d7 d8 d9 d10 d11 d12 cDp c0 c1 HX0
    obtain ⟨j,vx,hj,rfl,HXR,HO,HBI,hXi⟩:=hrel
    have hwri:=HBI.out.size
    have hXle:X≤wr.heap.size:=by omega
    have HMi:Hid (MdX f L q R A ds need cl fr Dp P K1 K2 O wr):=HMr.out.below (by rw[HXX.out];exact HBI.out)
    have q1:=HXR.out.cell 1
    simp only[List.getElem?_toArray,List.getElem?_cons_zero,List.getElem?_cons_succ] at q1
    by_cases hlj:j<clk.length
    ·obtain ⟨b5,off5,⟨gw,gn⟩,rfl,hb5,hg,wg,e0,e1⟩:=((HG.out _ HBI.out).2.2).gd hlj
     have hgw:=HCW.out _ (List.mem_of_getElem? hg)
     dsimp only at e0 e1 hgw
     obtain ⟨mg',hmg⟩:=Int.eq_ofNat_of_zero_le hgw.1.1
     subst hmg
     have hlj':(j:Int)<clk.length:=by omega
     have HAT:Hid (∀W',Below wr.heap.size wr W'→Calls Try.prog 62 #[.int .i64 (mg':Int),.pointer (some ⟨P,0,none⟩),.pointer (some ⟨Dp,0,none⟩)] W' fun e w'=>e= .returned (.int .i64 (numV need (getI R (mg':Int))))∧∃k,w'=W'.drewN k):=fun W' hW=>(HMi.out.below hW).at_ hgw.1 hgw.2
     have HTK:Hid ((((clk.take (j+1)).map (gdM R need)).map gdC).flatten=(((clk.take j).map (gdM R need)).map gdC).flatten++ [.int .i64 (numV need (getI R (mg':Int))),.bool gn]):=by
      show _=_
      rw[take_snoc' hg]
      simp[gdC,gdM]
     generalize (((clk.take j).map (gdM R need)).map gdC).flatten=LL at*
     generalize numV need (getI R (mg':Int))=nm at*
     have rG:=Row.new wr #[.int .i64 (mg':Int),.bool gn] 65
     have bg:Below wr.heap.size wr (wr.alloc (.cells #[.int .i64 (mg':Int),.bool gn] 65)):=bE
     clear hg wg hgw
     go_upto_region 12 with (fail)
     generalize wr.alloc (.cells #[.int .i64 (mg':Int),.bool gn] 65)=wg at*
     have hsg:=bg.size
     have HK:Hid (∀W,Below wg.heap.size wg W→W.cell? ⟨X,1,none⟩=some vx∧W.cell? ⟨wr.heap.size,0,none⟩=some (.int .i64 (mg':Int))∧W.cell? ⟨wr.heap.size,1,none⟩=some (.bool gn)):=fun W hW=>⟨cell_kept (cell_kept q1 bg) hW,(rG.below hW rG.lt).two'⟩
     clear e0 e1 q1
     refine wp_region_L 12 (S:=fun W=>W.cell? ⟨X,1,none⟩=some vx∧W.cell? ⟨wr.heap.size,0,none⟩=some (.int .i64 (mg':Int))∧W.cell? ⟨wr.heap.size,1,none⟩=some (.bool gn)) (by kernel_rfl) ?_ (fun hHeld=>?_)
     ·(try dsimp only);(first|exact HS13.out|(with_reducible exact HK.out _ bE))
     refine tkL 0 (some 68) rfl ?_
     refine tkL 1 (some 69) rfl ?_
     refine tkL 2 (some 70) rfl ?_
     refine tkL 3 (some 71) rfl ?_
     refine tkL 4 (some 72) rfl ?_
     refine tkL 6 (some 74) rfl ?_
     refine tkL 7 (some 75) rfl ?_
     refine rdL 5 (some 73) rfl (fun KK hKK=>?_)
     go_simp
     first|((go_at_call 62);(with_reducible refine Calls.mono (HAT.out _ bE) ?_);rintro e w8 ⟨rfl,n8,rfl⟩)|((rw[if_pos (by kernel_rfl)]);(refine step_own (.tmp 69) (.tmp 77) 42 rfl X 65 i0 (.agg #[.int .i64 0,.bool false]) 2 16 Try.underlying42 hi0 hz0 hz1 hz2 rfl (by decide) _ j LL rfl (own_below HO.out (bE:Below wr.heap.size wr _)) (some ⟨_,0,none⟩) 1 1 [.int .i64 nm,.bool gn] rfl NilOk.some rfl (fun ad he=>by injection he with he;subst he;exact cells_new _ _ _) (by intro u hu;simp at hu;rcases hu with rfl|rfl<;>rfl) (by unfold maxLen;omega) (by omega) (by first|omega|(simp;omega)|simp) ?_);(intro v13 w13 hown13 hg13);(have rx13:=(HXR.out.below (bE:Below wr.heap.size wr _) HXR.out.lt).grownE hg13 (own_ne (own_below HO.out (bE:Below wr.heap.size wr _)) (HXR.out.below (bE:Below wr.heap.size wr _) HXR.out.lt) (by decide)));(have rg13:=(rG.below (bE:Below wg.heap.size wg _) rG.lt).grownE hg13 (fun e=>by have:=(HO.out.lt _ e).2;omega));(have hb13:Below X wo w13:=below_own (HBI.out.trans (Below.mono (bE:Below wr.heap.size wr _) hXle)) (own_below HO.out (bE:Below wr.heap.size wr _)) hg13 (by first|omega|(simp;omega)));(have q13:=rx13.cell 1);(have z13:=rx13.frozen 1);(have g13:=rg13.two');(simp only[List.getElem?_toArray,List.getElem?_cons_zero,List.getElem?_cons_succ] at q13);(have HS13:=Lib.hid (And.intro q13 g13));(obtain ⟨A13,c13,hv13,_⟩:=own_src hown13);subst hv13)
     (try go_wp2_with fail)
     refine hKK.out _ _ ?_ (fun hHeld=>?_)
     ·(try dsimp only);(first|exact HS13.out|(with_reducible exact HK.out _ bE))
     clear hKK KK
     try simp only[Act.put,List.setIfInBounds_toArray,List.set_cons_zero,List.set_cons_succ]
     refine tkL 8 (some 76) rfl ?_
     refine rdL 9 (some 77) rfl (fun KK hKK=>?_)
     go_simp
     refine hKK.out _ _ ?_ (fun hHeld=>?_)
     ·(try dsimp only);(first|exact HS13.out|(with_reducible exact HK.out _ bE))
     clear hKK KK
     try simp only[Act.put,List.setIfInBounds_toArray,List.set_cons_zero,List.set_cons_succ]
     refine rdL 10 (some 78) rfl (fun KK hKK=>?_)
     ((rw[if_pos (by kernel_rfl)]);(refine step_own (.tmp 69) (.tmp 77) 42 rfl X 65 i0 (.agg #[.int .i64 0,.bool false]) 2 16 Try.underlying42 hi0 hz0 hz1 hz2 rfl (by decide) _ j LL rfl (own_below HO.out (bE:Below wr.heap.size wr _)) (some ⟨_,0,none⟩) 1 1 [.int .i64 nm,.bool gn] rfl NilOk.some rfl (fun ad he=>by injection he with he;subst he;exact cells_new _ _ _) (by intro u hu;simp at hu;rcases hu with rfl|rfl<;>rfl) (by unfold maxLen;omega) (by omega) (by first|omega|(simp;omega)|simp) ?_);(intro v13 w13 hown13 hg13);(have rx13:=(HXR.out.below (bE:Below wr.heap.size wr _) HXR.out.lt).grownE hg13 (own_ne (own_below HO.out (bE:Below wr.heap.size wr _)) (HXR.out.below (bE:Below wr.heap.size wr _) HXR.out.lt) (by decide)));(have rg13:=(rG.below (bE:Below wg.heap.size wg _) rG.lt).grownE hg13 (fun e=>by have:=(HO.out.lt _ e).2;omega));(have hb13:Below X wo w13:=below_own (HBI.out.trans (Below.mono (bE:Below wr.heap.size wr _) hXle)) (own_below HO.out (bE:Below wr.heap.size wr _)) hg13 (by first|omega|(simp;omega)));(have q13:=rx13.cell 1);(have z13:=rx13.frozen 1);(have g13:=rg13.two');(simp only[List.getElem?_toArray,List.getElem?_cons_zero,List.getElem?_cons_succ] at q13);(have HS13:=Lib.hid (And.intro q13 g13));(obtain ⟨A13,c13,hv13,_⟩:=own_src hown13);subst hv13)
     refine hKK.out _ _ ?_ (fun hHeld=>?_)
     ·(try dsimp only);(first|exact HS13.out|(with_reducible exact HK.out _ bE))
     clear hKK KK
     try simp only[Act.put,List.setIfInBounds_toArray,List.set_cons_zero,List.set_cons_succ]
     refine rdL 11 (some 79) rfl (fun KK hKK=>?_)
     go_simp
     refine hKK.out _ _ ?_ (fun hHeld=>?_)
     ·(try dsimp only);(first|exact HS13.out|(with_reducible exact HK.out _ bE))
     clear hKK KK
     try simp only[Act.put,List.setIfInBounds_toArray,List.set_cons_zero,List.set_cons_succ]
     refine rdE none rfl (fun KK hKK=>?_)
     go_simp
     refine hKK.out _ _ ?_
     clear hKK KK
     try simp only[Act.put,List.setIfInBounds_toArray,List.set_cons_zero,List.set_cons_succ]
     refine wpAnyL_done (by kernel_rfl) ?_ _
     have u9:=Upd.setCell (X:=fun k=>k=X) (p:=⟨X,1,none⟩) (Upd.refl _ w13) rfl (.slice A13 (j+1) c13)
     have HRn:Hid (Row (w13.setCell ⟨X,1,none⟩ (.slice A13 (j+1) c13)) X #[.int .i64 (tyOf f (k:Int)),.slice A13 (j+1) c13] 44):=by
      show Row _ _ _ _
      have:=rx13.set 1 (.slice A13 (j+1) c13)
      simpa using this
     have HOn:Hid ((w13.setCell ⟨X,1,none⟩ (.slice A13 (j+1) c13)).ownsRow X 65 2 (.slice A13 (j+1) c13) (j+1) (((clk.take (j+1)).map (gdM R need)).map gdC).flatten):=by
      show World.ownsRow _ _ _ _ _ _ _
      rw[HTK.out]
      exact own_updE hown13 u9 (fun q hq e=>own_ne hown13 rx13 (by decide) (by rw[←e];exact hq))
     have HBn:Hid (Below X wo (w13.setCell ⟨X,1,none⟩ (.slice A13 (j+1) c13))):=hb13.setCell (p:=⟨X,1,none⟩) (Nat.le_refl _) _
     have hXn:X<(w13.setCell ⟨X,1,none⟩ (.slice A13 (j+1) c13)).heap.size:=HRn.out.lt
     clear hown13 hg13 rx13 rg13 hb13 q13 z13 g13 HS13 hHeld u9 rG bg HK HAT
     go_wp2_with fail
     go_roundw
     case rel=>exact ⟨j+1,_,by omega,by go_num,HRn,HOn,HBn,hXn⟩
     case measure=>simp[intOf];omega
    obtain rfl:j=clk.length:=by omega
    have hO:=HO.out
    rw[List.take_length] at hO
    obtain ⟨Ax,cx,hvx,_⟩:=own_src hO
    subst hvx
    have HXI:Hid (isWrO wr wc.heap.size (wireM f R need (k:Nat)) [.int .i64 (tyOf f (k:Nat)),.slice Ax clk.length cx]):=by
     refine ⟨_,rfl,HBT2.out,?_,fun g hg=>?_⟩
     ·have h2:=own_base hO (base':=wc.heap.size) (by have:=HXX.out;omega)
      show wr.ownsRow _ _ 2 _ ((clockOf f (k:Int)).map (gdM R need)).length (((clockOf f (k:Int)).map (gdM R need)).map gdC).flatten
      rw[HCL.out,List.length_map]
      exact h2
     ·obtain ⟨g0,_,rfl⟩:=List.mem_map.1 hg
      exact num_wf need _ (by rw[HMi.out.fo.el];omega)
    have hbo:Below wo.heap.size wo wr:=by rw[HXX.out];exact HBI.out
    obtain ⟨css,h1,h2w⟩:=HL.out.own
    have H1W:=Lib.hid (And.intro h1 h2w)
    clear h2w
    have h1i:=own_below h1 hbo
    have rOi:=HL.out.row.below hbo HL.out.row.lt
    have p0:=rOi.cell 0
    simp only[List.getElem?_toArray,List.getElem?_cons_zero] at p0
    obtain ⟨x0,x1⟩:=HXR.out.two'
    have hcs:cntF need k≤1600:=by have:=cnt_le need k;have:=HOK.out.1.2.2;omega
    obtain ⟨i1,hi1,hy0,hy1,hy2⟩:=info_parts info_wr
    have ha:Below wr.heap.size wr (wr.alloc (.cells #[.int .i64 (tyOf f (k:Int)),.slice Ax clk.length cx] 44)):=bE
    have H1A:=Lib.hid (own_below h1i ha)
    have HOA:=Lib.hid (rOi.below ha rOi.lt)
    have HN14:Hid (∀j u,[Value.int .i64 (tyOf f (k:Int)),.slice Ax clk.length cx][j]? =some u→(wr.alloc (.cells #[.int .i64 (tyOf f (k:Int)),.slice Ax clk.length cx] 44)).cell? ((⟨wr.heap.size,0,none⟩:Addr).add j)=some u):=cells_new wr 44 [.int .i64 (tyOf f (k:Int)),.slice Ax clk.length cx]
    clear hO h1i rOi h1 q1 HO
    go_wp2_with (at_builtin;refine wpList_append_own _ rfl _ _ 22 rfl wc.heap.size 44 i1 (.agg #[.int .i64 0,.slice none 0 0]) 2 32 Try.underlying22 hi1 hy0 hy1 hy2 rfl (by decide) _ _ _ rfl H1A.out ⟨wr.heap.size,0,none⟩ 1 1 [.int .i64 (tyOf f (k:Int)),.slice Ax clk.length cx] rfl ?c0 ?c1 ?c2 ?c3 ?c4 ?c5 ?_)
    case c0=>rfl
    case c1=>exact HN14.out
    case c2=>intro u hu;simp at hu;rcases hu with rfl|rfl<;>rfl
    case c3=>unfold maxLen;omega
    case c4=>omega
    case c5=>simp;omega
    intro v15 w15 hown15 hg15 _
    have HL15:Hid (Lp1 f R need O wc (k+1) v15 (w15.setCell ⟨O,0,none⟩ v15)):=HL.out.next H1W.out.1 H1W.out.2 HBT.out (hbo.trans (ha.mono hbo.size)) (HXI.out.below ha) hown15 hg15
    have rO15:=HOA.out.grownE hg15 (own_ne H1A.out HOA.out (by decide))
    have q0:=rO15.cell 0
    have z0:=rO15.frozen 0
    simp only[List.getElem?_toArray,List.getElem?_cons_zero] at q0
    obtain ⟨A15,c15,hv15,_⟩:=own_src hown15
    subst hv15
    clear hown15 hg15 rO15 H1A HOA HN14 HXI ha p0 x0 x1
    go_wp2_with fail
    go_roundw
    case rel=>exact ⟨k+1,_,by omega,by go_num,HL15.out⟩
    case measure=>simp[intOf];omega
end
end Go.Proofs.Ytckognjamlckcaa
