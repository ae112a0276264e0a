/-
  The program of a form says what the form says: one tick of its code (plain).
-/
import Derived.Test.YtbjaejgechadpaaGreatSemA
import Derived.Test.YtbjaejgechadpaaGreatVmZ
namespace Go.Proofs.YtbjaejgechadpaaGreat.Fo
open Vf Ar
section
variable {f:Fm} {cs row:List Int}
theorem th_append:∀(c d:List Gd),thF f cs row (c++d)=(thF f cs row c && thF f cs row d)
 | [],d=>by simp[thF]
 |g::c,d=>by
  rw[List.cons_append,thF,thF,th_append c d]
  split<;>simp
def GR (f:Fm) (cs row:List Int) (regs:List Int):List Gd→Prop
 | []=>True
 |g::c=>getI regs g.wire=valF f cs row g.wire∧((decide (valF f cs row g.wire≠0))≠g.no→GR f cs row regs c)
theorem skip_len:∀(c:List Gd) (m:Int),(skipsOf c m).length=c.length
 | [],_=>rfl
 |g::c,m=>by simp[skipsOf,skip_len c m]
theorem skips_tr:∀(c:List Gd) (ms rest:List In5) (s:Tk),GR f cs row s.regs c→
  (trun cs row (skipsOf c ms.length++ms++rest) 0 s).1=if thF f cs row c=true then (trun cs row (ms++rest) 0 s).1 else (trun cs row rest 0 s).1
 | [],ms,rest,s,_=>by simp[skipsOf,thF]
 |g::c,ms,rest,s,h=>by
  obtain ⟨h1,h2⟩:=h
  have hx:texec cs row s ⟨if g.no=true then 31 else 30,g.wire,0,0,c.length+ms.length⟩=s:=by
   unfold texec
   cases g.no<;>simp
  simp only[skipsOf,List.cons_append,trun,hx]
  by_cases hg:(decide (valF f cs row g.wire≠0))=g.no
  ·have ht:tskip s ⟨if g.no=true then 31 else 30,g.wire,0,0,c.length+ms.length⟩=c.length+ms.length:=by
    unfold tskip
    dsimp only
    rw[h1,←hg]
    by_cases hz:valF f cs row g.wire=0<;>simp[hz]
   rw[ht,trun_over,thF,if_pos hg,if_neg Bool.false_ne_true]
   congr 2
   rw[show ((c.length:Int)+ms.length).toNat=(skipsOf c ms.length++ms).length by rw[List.length_append,skip_len];omega,List.drop_left]
  ·have ht:tskip s ⟨if g.no=true then 31 else 30,g.wire,0,0,c.length+ms.length⟩=0:=by
    unfold tskip
    dsimp only
    rw[h1]
    by_cases hz:valF f cs row g.wire=0<;>cases hn:g.no<;>simp[hz,hn] at hg⊢
   rw[ht,thF,if_neg hg]
   exact skips_tr c ms rest s (h2 hg)
noncomputable def ex1 (f:Fm) (cs row:List Int) (s:Tk) (st:Stp):Tk:=if thF f cs row st.2=true then texec cs row s st.1 else s
def noSkip (x:In5):Prop:=x.op≠30∧x.op≠31
theorem tskip_no {x:In5} (h:noSkip x) (s:Tk):(tskip s x).toNat=0:=by
 unfold tskip
 rw[if_neg (by have:=h.1;have:=h.2;omega)]
 rfl
theorem group_tr (rest:List In5):∀(h:List Stp) (s:Tk),(∀st∈h,noSkip st.1∧thF f cs row st.2=true)→(trun cs row (h.map (·.1)++rest) 0 s).1=(trun cs row rest 0 (h.foldl (ex1 f cs row) s)).1
 | [],s,_=>rfl
 |st::h,s,g=>by
  obtain ⟨g1,g2⟩:=g st (by simp)
  rw[List.map_cons,List.cons_append,trun,tskip_no g1,List.foldl_cons,show ex1 f cs row s st=texec cs row s st.1 by unfold ex1;rw[if_pos g2]]
  exact group_tr rest h _ (fun x hx=>g x (by simp[hx]))
theorem group_no:∀(h:List Stp) (s:Tk),(∀st∈h,¬thF f cs row st.2=true)→h.foldl (ex1 f cs row) s=s
 | [],s,_=>rfl
 |st::h,s,g=>by
  rw[List.foldl_cons,show ex1 f cs row s st=s by unfold ex1;rw[if_neg (g st (by simp))]]
  exact group_no h s (fun x hx=>g x (by simp[hx]))
def GoodS (f:Fm) (cs row:List Int):Tk→List Stp→Prop
 |_,[]=>True
 |s,st::l=>(GR f cs row s.regs st.2∧noSkip st.1)∧GoodS f cs row (ex1 f cs row s st) l
theorem good_split:∀(h t:List Stp) (s:Tk),GoodS f cs row s (h++t)→GoodS f cs row s h∧GoodS f cs row (h.foldl (ex1 f cs row) s) t
 | [],_,_,g=>⟨trivial,g⟩
 |_::h,t,_,g=>by
  obtain ⟨g1,g2⟩:=good_split h t _ g.2
  exact ⟨⟨g.1,g1⟩,g2⟩
theorem good_join:∀(h t:List Stp) (s:Tk),GoodS f cs row s h→GoodS f cs row (h.foldl (ex1 f cs row) s) t→GoodS f cs row s (h++t)
 | [],_,_,_,g=>g
 |_::h,t,_,g,g'=>⟨g.1,good_join h t _ g.2 g'⟩
theorem good_no:∀(l:List Stp) (s:Tk),GoodS f cs row s l→∀st∈l,noSkip st.1
 | [],_,_=>fun _ h=>by cases h
 |st::l,s,g=>fun x hx=>by
  rcases List.mem_cons.1 hx with rfl|hx
  ·exact g.1.2
  ·exact good_no l _ g.2 x hx
theorem runs_tr {l:List Stp} {body:List In5} (hr:Runs l body) (rest:List In5):∀(s:Tk),GoodS f cs row s l→(trun cs row (body++rest) 0 s).1=(trun cs row rest 0 (l.foldl (ex1 f cs row) s)).1:=by
 induction hr with
 |nil=>exact fun s _=>rfl
 |cons h t c code hne hc _ ih=>
  intro s hg
  obtain ⟨g1,g2⟩:=good_split h t s hg
  have hgr:GR f cs row s.regs c:=by
   cases h with
   |nil=>exact absurd rfl hne
   |cons st h=>
    have:=g1.1.1
    rwa [hc st (by simp)] at this
  have hns:=good_no h s g1
  rw[show h.length=(h.map (·.1)).length by simp,List.append_assoc,skips_tr c (h.map (·.1)) (code++rest) s hgr,List.foldl_append]
  by_cases ht:thF f cs row c=true
  ·rw[if_pos ht,group_tr (code++rest) h s (fun st hs=>⟨hns st hs,by rw[hc st hs];exact ht⟩)]
   exact ih _ g2
  ·rw[if_neg ht]
   have:=ih _ g2
   rw[group_no h s (fun st hs=>by rw[hc st hs];exact ht)] at this⊢
   exact this
def Iv (f:Fm) (cs row:List Int) (H:List Int) (s:Tk):Prop:=s.regs.length=f.wires.length∧∀n,isW f n→n∈H→thF f cs row (clockOf f n)=true→getI s.regs n=valF f cs row n
theorem iv_more {H:List Int} {s:Tk} (h:Iv f cs row H s) {n v:Int} (hn:isW f n) (hv:thF f cs row (clockOf f n)=true→v=valF f cs row n):Iv f cs row (n::H) {s with regs:=setI s.regs n v}:=by
 refine ⟨by simp[setI,h.1],fun m hm hmem ht=>?_⟩
 have hl:=h.1
 obtain ⟨a,rfl⟩:=Int.eq_ofNat_of_zero_le hn.1
 obtain ⟨b,rfl⟩:=Int.eq_ofNat_of_zero_le hm.1
 have ha:a<s.regs.length:=by have:=hn.2;omega
 by_cases e:(b:Int)=a
 ·obtain rfl:b=a:=by omega
  simp[getI,setI,List.getD_eq_getElem?_getD,ha]
  exact hv ht
 ·have e':a≠b:=by omega
  have h2:=h.2 b hm (by simpa[e] using hmem) ht
  simp only[getI,setI,List.getD_eq_getElem?_getD,Int.toNat_natCast] at h2⊢
  rw[List.getElem?_set_ne e']
  exact h2
theorem iv_skip {H:List Int} {s:Tk} (h:Iv f cs row H s) {n:Int} (hn:¬thF f cs row (clockOf f n)=true):Iv f cs row (n::H) s:=by
 refine ⟨h.1,fun m hm hmem ht=>?_⟩
 rcases List.mem_cons.1 hmem with rfl|hmem
 ·exact absurd ht hn
 ·exact h.2 m hm hmem ht
theorem gr_of {H:List Int} {s:Tk} (h:Iv f cs row H s) {c:List Gd} (hc:∀(i:Nat) g,c[i]? =some g→isW f g.wire∧clockOf f g.wire=c.take i) (hH:∀g∈c,g.wire∈H):
  ∀(suf pre:List Gd),c=pre++suf→thF f cs row pre=true→GR f cs row s.regs suf
 | [],_,_,_=>trivial
 |g::suf,pre,he,hp=>by
  have hi:c[pre.length]? =some g:=by rw[he];simp
  obtain ⟨w1,w2⟩:=hc _ g hi
  have hk:c.take pre.length=pre:=by rw[he];simp
  refine ⟨h.2 _ w1 (hH g (List.mem_of_getElem? hi)) (by rw[w2,hk];exact hp),fun hg=>gr_of h hc hH suf (pre++ [g]) (by rw[he];simp) ?_⟩
  rw[th_append,hp]
  simp only[thF]
  rw[if_neg hg]
  rfl
theorem outs_tr {H:List Int} (hH:∀n,isW f n→n∈H):∀(l:List Int) (i:Nat) (s:Tk) (pre r:List Int),(∀n∈l,isW f n∧clockOf f n=[])→Iv f cs row H s→s.out=pre++r→pre.length=i→r.length=l.length→
  (trun cs row (portsC 29 i l) 0 s).1.out=pre++l.map (valF f cs row)∧(trun cs row (portsC 29 i l) 0 s).1.next=s.next
 | [],_,s,pre,r,_,_,ho,_,hr=>by
  have:r=[]:=List.eq_nil_of_length_eq_zero hr
  subst this
  exact ⟨by rw[portsC,trun,ho];simp,rfl⟩
 |n::l,i,s,pre,r,hm,h,ho,hp,hr=>by
  obtain ⟨hn,hc⟩:=hm n (by simp)
  have hv:getI s.regs n=valF f cs row n:=h.2 n hn (hH n hn) (by rw[hc];rfl)
  cases r with
  |nil=>simp at hr
  |cons y r=>
   have ho':setI s.out i (valF f cs row n)=(pre++ [valF f cs row n])++r:=by
    rw[ho]
    subst hp
    simp[setI]
   obtain ⟨h1,h2⟩:=outs_tr hH l (i+1) {s with out:=setI s.out i (valF f cs row n)} (pre++ [valF f cs row n]) r (fun m hm'=>hm m (by simp[hm'])) h ho' (by simp[hp]) (by simpa using hr)
   rw[portsC,trun,tskip_no (by unfold noSkip;dsimp only;omega)]
   have ht:texec cs row s ⟨29,n,0,0,i⟩={s with out:=setI s.out i (valF f cs row n)}:=by simp[texec,hv]
   rw[ht]
   exact ⟨by rw[h1];simp,h2⟩
theorem mem_fold_dst:∀(l:List Ac) (H:List Int) (n:Int),n∈l.foldl (fun H x=>x.dst::H) H↔n∈H∨∃x∈l,x.dst=n
 | [],H,n=>by simp
 |x::l,H,n=>by
  rw[List.foldl_cons,mem_fold_dst l]
  simp[or_assoc,or_left_comm,eq_comm]
theorem mem_fold_ins:∀(l H:List Int) (n:Int),n∈l.foldl (fun H n=>n::H) H↔n∈H∨n∈l
 | [],H,n=>by simp
 |x::l,H,n=>by
  rw[List.foldl_cons,mem_fold_ins l]
  simp[or_assoc,or_left_comm]
end
section
variable {f:Fm} (hf:formOk f) {cs row:List Int}
include hf
theorem done_w {n:Int} (h:isW f n):Done f n:=by
 obtain ⟨m,rfl⟩:=Int.eq_ofNat_of_zero_le h.1
 exact hf.2.2.2.2.2.2 m (by have:=h.2;omega)
theorem clock_at {n:Int} (h:isW f n) (i:Nat) (g:Gd) (hg:(clockOf f n)[i]? =some g):isW f g.wire∧clockOf f g.wire=(clockOf f n).take i:=by
 obtain ⟨m,rfl⟩:=Int.eq_ofNat_of_zero_le h.1
 have hm:m<f.wires.length:=by have:=h.2;omega
 have e:wAt f (m:Int)=f.wires[m]:=by simp[wAt,List.getD_eq_getElem?_getD,hm]
 have:=(hf.1.1 f.wires[m] (List.getElem_mem hm)).2 i g (by unfold clockOf at hg;rw[e] at hg;exact hg)
 unfold clockOf at this⊢
 rw[e]
 exact ⟨this.1,this.2.2⟩
theorem act_val {H:List Int} {s:Tk} (h:Iv f cs row H s) {x:Ac} (hx:x∈f.acts) (hr:readyOk f H x) (ht:thF f cs row (clockOf f x.dst)=true):
  noSkip (instrOf x)∧texec cs row s (instrOf x)={s with regs:=setI s.regs x.dst (valF f cs row x.dst)}:=by
 obtain ⟨wa,wb,wc,hu,_,_,_,_,hr2⟩:=hf.2.2.2.2.2.1 x hx
 have ra:1≤uses x.op→thF f cs row (clockOf f x.a)=true→getI s.regs x.a=valF f cs row x.a:=fun hu ht=>h.2 _ wa (hr.1 _ (wants_a hu)) ht
 have rb:2≤uses x.op→thF f cs row (clockOf f x.b)=true→getI s.regs x.b=valF f cs row x.b:=fun hu ht=>h.2 _ wb (hr.1 _ (wants_b hu)) ht
 have rc:uses x.op=3→thF f cs row (clockOf f x.c)=true→getI s.regs x.c=valF f cs row x.c:=fun hu ht=>h.2 _ wc (hr.1 _ (wants_c hu)) ht
 have da:=done_w hf wa
 have db:=done_w hf wb
 have dc:=done_w hf wc
 rcases uses_cases hu with q|q|q|q|q|q|q|q|q
 ·rw[val_const hf cs row hx (by omega)]
  simp[instrOf,q,noSkip,texec,vgive]
 ·rw[val_const hf cs row hx (by omega)]
  simp[instrOf,q,noSkip,texec,vgive]
 ·rw[val_pre hf cs row hx q]
  simp[instrOf,q,noSkip,texec,vgive]
 ·simp[q] at hr2
  rw[val_copy hf cs row hx (.inl q) da,←ra (by rw[uses1 (by omega)];omega) (by rw[←hr2.1];exact ht)]
  simp[instrOf,q,noSkip,texec,vgive]
 ·simp[q] at hr2
  obtain ⟨⟨g,hg⟩,_⟩:=hr2
  rw[hg,th_append,Bool.and_eq_true] at ht
  rw[val_copy hf cs row hx (.inr q) da,←ra (by rw[uses1 (by omega)];omega) ht.1]
  simp[instrOf,q,noSkip,texec,vgive]
 ·simp[q] at hr2
  obtain ⟨h1,_,_,_,h5,h6⟩:=hr2
  have hu3:=uses3 (op:=x.op) (by omega)
  have e1:=ra (by omega) (by rw[←h1];exact ht)
  have e0:instrOf x=⟨27,x.dst,x.a,x.b,x.c⟩:=by simp[instrOf,q]
  by_cases hz:valF f cs row x.a=0
  ·have e3:=rc hu3 (by rw[h6,th_append,ht];simp[thF,hz])
   rw[val_no hf cs row hx (by omega) da hz dc,←e3,e0]
   simp[noSkip,texec,vgive,e1,hz]
  ·have e2:=rb (by omega) (by rw[h5,th_append,ht];simp[thF,hz])
   rw[val_yes hf cs row hx (by omega) da hz db,←e2,e0]
   simp[noSkip,texec,vgive,e1,hz]
 ·simp[q] at hr2
  obtain ⟨h1,h2,h3,_⟩:=hr2
  have hu3:=uses3 (op:=x.op) (by omega)
  have e1:=ra (by omega) (by rw[←h1];exact ht)
  have e2:=rb (by omega) (by rw[←h2];exact ht)
  have e3:=rc hu3 (by rw[←h3];exact ht)
  have e0:instrOf x=⟨27,x.dst,x.a,x.b,x.c⟩:=by simp[instrOf,q]
  by_cases hz:valF f cs row x.a=0
  ·rw[val_no hf cs row hx (by omega) da hz dc,←e3,e0]
   simp[noSkip,texec,vgive,e1,hz]
  ·rw[val_yes hf cs row hx (by omega) da hz db,←e2,e0]
   simp[noSkip,texec,vgive,e1,hz]
 ·rw[if_neg (by omega),if_neg (by omega),if_neg (by omega),if_neg (by omega),if_neg (by omega),if_neg (by omega),if_neg (by omega)] at hr2
  have e1:=ra (by rw[uses1 (by omega)];omega) (by rw[←hr2.1];exact ht)
  rw[val_one hf cs row hx (by omega) da,←e1]
  have e0:instrOf x=⟨x.op,x.dst,x.a,x.b,0⟩:=by unfold instrOf;rw[if_neg (by omega),if_neg (by omega),if_neg (by omega)]
  rw[e0]
  unfold noSkip texec vgive
  dsimp only
  rw[if_neg (by omega),if_neg (by omega),if_neg (by omega),if_neg (by omega),if_neg (by omega),if_pos (by omega)]
  exact ⟨⟨by omega,by omega⟩,rfl⟩
 ·rw[if_neg (by omega),if_neg (by omega),if_neg (by omega),if_neg (by omega),if_neg (by omega),if_neg (by omega),if_neg (by omega)] at hr2
  have hu2:=uses2 q
  have e1:=ra (by omega) (by rw[←hr2.1];exact ht)
  have e2:=rb (by omega) (by rw[←(hr2.2.1 (by omega)).1];exact ht)
  rw[val_two hf cs row hx q da db,←e1,←e2]
  have e0:instrOf x=⟨x.op,x.dst,x.a,x.b,0⟩:=by unfold instrOf;rw[if_neg (by omega),if_neg (by omega),if_neg (by omega)]
  rw[e0]
  unfold noSkip texec vgive
  dsimp only
  rw[if_neg (by omega),if_neg (by omega),if_neg (by omega),if_neg (by omega),if_neg (by omega),if_neg (by omega),if_neg (by omega),if_neg (by omega),if_neg (by omega)]
  exact ⟨⟨by omega,by omega⟩,rfl⟩
theorem acts_tr:∀(l:List Ac) (H:List Int) (s:Tk),(∀x∈l,x∈f.acts)→ordFrom f H l→Iv f cs row H s→
  GoodS f cs row s (l.map (actStp f))∧Iv f cs row (l.foldl (fun H x=>x.dst::H) H) ((l.map (actStp f)).foldl (ex1 f cs row) s)∧((l.map (actStp f)).foldl (ex1 f cs row) s).next=s.next∧((l.map (actStp f)).foldl (ex1 f cs row) s).out=s.out
 | [],_,_,_,_,h=>⟨trivial,h,rfl,rfl⟩
 |x::l,H,s,hm,ho,h=>by
  have hx:=hm x (by simp)
  have hd:=(hf.2.2.2.2.1.2.1 x hx).1
  have hgr:GR f cs row s.regs (clockOf f x.dst):=gr_of h (fun i g=>clock_at hf hd i g) ho.1.2 _ [] rfl rfl
  have hns:noSkip (instrOf x):=by
   have hu:=(hf.2.2.2.2.2.1 x hx).2.2.2.1
   rcases uses_cases hu with q|q|q|q|q|q|q|q|q<;>unfold instrOf noSkip
   all_goals
    repeat' split
    all_goals dsimp only;omega
  have hs:Iv f cs row (x.dst::H) (ex1 f cs row s (actStp f x))∧(ex1 f cs row s (actStp f x)).next=s.next∧(ex1 f cs row s (actStp f x)).out=s.out:=by
   unfold ex1 actStp
   dsimp only
   by_cases ht:thF f cs row (clockOf f x.dst)=true
   ·rw[if_pos ht,(act_val hf h hx ho.1 ht).2]
    exact ⟨iv_more h hd (fun _=>rfl),rfl,rfl⟩
   ·rw[if_neg ht]
    exact ⟨iv_skip h ht,rfl,rfl⟩
  obtain ⟨h1,h2,h3,h4⟩:=acts_tr l (x.dst::H) _ (fun y hy=>hm y (by simp[hy])) ho.2 hs.1
  exact ⟨⟨⟨hgr,hns⟩,h1⟩,h2,h3.trans hs.2.1,h4.trans hs.2.2⟩
theorem keeps_tr {H:List Int} (hH:∀n,isW f n→n∈H):∀(l:List (Int × Int)) (s:Tk),(∀k∈l,isW f k.2)→Iv f cs row H s→
  GoodS f cs row s (l.map (keepStp f))∧((l.map (keepStp f)).foldl (ex1 f cs row) s).regs=s.regs∧((l.map (keepStp f)).foldl (ex1 f cs row) s).next=nextF f cs row l s.next∧((l.map (keepStp f)).foldl (ex1 f cs row) s).out=s.out
 | [],_,_,_=>⟨trivial,rfl,rfl,rfl⟩
 |k::l,s,hm,h=>by
  have hk:=hm k (by simp)
  have hgr:GR f cs row s.regs (clockOf f k.2):=gr_of h (fun i g=>clock_at hf hk i g) (fun g hg=>by
   obtain ⟨i,hi⟩:=List.getElem?_of_mem hg
   exact hH _ (clock_at hf hk i g hi).1) _ [] rfl rfl
  have hns:noSkip (keepStp f k).1:=by unfold noSkip keepStp;dsimp only;omega
  have hs:(ex1 f cs row s (keepStp f k)).regs=s.regs∧(ex1 f cs row s (keepStp f k)).next=(if thF f cs row (clockOf f k.2)=true then s.next.set k.1.toNat (valF f cs row k.2) else s.next)∧(ex1 f cs row s (keepStp f k)).out=s.out:=by
   unfold ex1 keepStp
   dsimp only
   by_cases ht:thF f cs row (clockOf f k.2)=true
   ·rw[if_pos ht,if_pos ht,←h.2 k.2 hk (hH _ hk) ht]
    simp[texec,setI]
   ·rw[if_neg ht,if_neg ht]
    exact ⟨rfl,rfl,rfl⟩
  have h':Iv f cs row H (ex1 f cs row s (keepStp f k)):=by
   unfold Iv
   rw[hs.1]
   exact h
  obtain ⟨h1,h2,h3,h4⟩:=keeps_tr hH l _ (fun y hy=>hm y (by simp[hy])) h'
  refine ⟨⟨⟨hgr,hns⟩,h1⟩,h2.trans hs.1,?_,h4.trans hs.2.2⟩
  rw[List.map_cons,List.foldl_cons,h3,hs.2.1]
  rfl
theorem ins_tr (rest:List In5):∀(l:List Int) (i:Nat) (H:List Int) (s:Tk),(∀(j:Nat) n,l[j]? =some n→f.ins[i+j]? =some n)→Iv f cs row H s→
  ∃s',(trun cs row (portsC 28 i l++rest) 0 s).1=(trun cs row rest 0 s').1∧Iv f cs row (l.foldl (fun H n=>n::H) H) s'∧s'.next=s.next∧s'.out=s.out
 | [],_,_,s,_,h=>⟨s,rfl,h,rfl,rfl⟩
 |n::l,i,H,s,hm,h=>by
  have hi:=hm 0 n rfl
  have hn:=(hf.2.1.1 n (List.mem_of_getElem? hi)).1
  obtain ⟨s',h1,h2,h3,h4⟩:=ins_tr rest l (i+1) (n::H) _ (fun j m hj=>by
   have:=hm (j+1) m hj
   rwa [show i+(j+1)=i+1+j by omega] at this) (iv_more h hn (v:=getI row (i:Int)) (fun _=>by rw[val_inp hf cs row (i:=i) hi];simp[getI]))
  refine ⟨s',?_,h2,h3,h4⟩
  rw[←h1,portsC,List.cons_append,trun,tskip_no (by unfold noSkip;dsimp only;omega)]
  simp[texec,vgive]
theorem emit_tick {code:List In5} (ho:ordFrom f f.ins f.acts) (he:Emits f code):
  (trun cs row code 0 ⟨List.replicate f.wires.length 0,cs,List.replicate f.outs.length 0⟩).1.out=outF f cs row∧
  (trun cs row code 0 ⟨List.replicate f.wires.length 0,cs,List.replicate f.outs.length 0⟩).1.next=nextF f cs row f.keeps cs:=by
 obtain ⟨body,hr,rfl⟩:=he
 have h0:Iv f cs row [] ⟨List.replicate f.wires.length 0,cs,List.replicate f.outs.length 0⟩:=⟨by simp,fun n _ hn=>by cases hn⟩
 obtain ⟨s1,e1,i1,n1,o1⟩:=ins_tr hf (body++portsC 29 0 f.outs) f.ins 0 [] _ (fun j n hj=>by rwa [Nat.zero_add]) h0
 rw[List.append_assoc,e1]
 have i1':Iv f cs row f.ins s1:=⟨i1.1,fun n hw hn ht=>i1.2 n hw ((mem_fold_ins f.ins [] n).2 (.inr hn)) ht⟩
 obtain ⟨g2,i2,n2,o2⟩:=acts_tr hf f.acts f.ins s1 (fun _ h=>h) ho i1'
 have hH:∀n,isW f n→n∈f.acts.foldl (fun H x=>x.dst::H) f.ins:=fun n hn=>by
  obtain ⟨m,rfl⟩:=Int.eq_ofNat_of_zero_le hn.1
  rw[mem_fold_dst]
  exact hf.2.2.2.2.1.2.2.2 m (by have:=hn.2;omega)
 obtain ⟨g3,r3,n3,o3⟩:=keeps_tr hf hH f.keeps _ (fun k hk=>(hf.2.2.2.1.2.2.1 k hk).2.2.1) i2
 have hg:=good_join _ _ _ g2 g3
 rw[runs_tr hr _ s1 hg,stepsOf,List.foldl_append]
 have i3:Iv f cs row (f.acts.foldl (fun H x=>x.dst::H) f.ins) ((f.keeps.map (keepStp f)).foldl (ex1 f cs row) ((f.acts.map (actStp f)).foldl (ex1 f cs row) s1)):=by
  unfold Iv
  rw[r3]
  exact i2
 obtain ⟨q1,q2⟩:=outs_tr hH f.outs 0 _ [] (List.replicate f.outs.length 0) hf.2.2.1.1 i3 (by rw[o3,o2,o1];rfl) rfl (by simp)
 exact ⟨by rw[q1];rfl,by rw[q2,n3,n2,n1]⟩
end
end Go.Proofs.YtbjaejgechadpaaGreat.Fo
