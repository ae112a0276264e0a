/-
  A source's node of a name, the names of nodes, where a name is defined: the contracts of package scope and of tompionref15. The contract of token.Scan: the lexemes of a text that is read well.
-/
import Derived.Test.YtgjfkidbfmbjoaaGreatZz
import Derived.Test.YtgjfkidbfmbjoaaGreatRfS
import Derived.Deep.RegionHeld3
import Derived.Test.YtgjfkidbfmbjoaaGreatTreeList
import Derived.Laws.AppendOwnNone
import Derived.OwnWalk
set_option maxHeartbeats 1000000
set_option maxRecDepth 100000
namespace Go.Proofs.YtgjfkidbfmbjoaaGreat
open Go.RowKit
attribute [local go_sem ↓] Go.wp_at_zero Go.wp_at_succ
abbrev ftC (f:Ft):Array Value:= #[.int .i64 f.err,.int .i64 f.line,.int .i64 f.col]
abbrev ftC0:Array Value:= #[.int .i64 0,.int .i64 0,.int .i64 0]
theorem fault_any (e l c:Int) (w:World):
  Calls Tryz.prog 120 #[.int .i64 e,.agg #[.int .i64 l,.int .i64 c]] w fun r w'=>r= .returned (ftV ⟨e,l,c⟩)∧Below w.heap.size w w':=by
 go_enter Tryz.func120,Tryz.ntmps120
 go_wp2_with fail
 exact bodyPost_ret (v:=ftV ⟨e,l,c⟩) (by simp[results,Tryz.results120,go_sem]) rfl ⟨rfl,bE⟩
theorem rwrong_at (e l c:Int) (w:World):
  Calls Tryz.prog 107 #[.int .i64 e,.agg #[.int .i64 l,.int .i64 c]] w fun r w'=>r= .returned (ftV ⟨e,l,c⟩)∧Below w.heap.size w w':=by
 go_enter Tryz.func107,Tryz.ntmps107
 go_wp2_with fail
 exact bodyPost_ret (v:=ftV ⟨e,l,c⟩) (by simp[results,Tryz.results107,go_sem]) rfl ⟨rfl,bE⟩
section
variable {B b:Nat} {a w:World}
theorem below_set3 (h:Below B a w) (hb:B≤b) (y0 y1 y2:Value):Below B a (((w.setCell ⟨b,0,none⟩ y0).setCell ⟨b,1,none⟩ y1).setCell ⟨b,2,none⟩ y2):=
 ((h.setCell (p:=⟨b,0,none⟩) hb y0).setCell (p:=⟨b,1,none⟩) hb y1).setCell (p:=⟨b,2,none⟩) hb y2
theorem below_set5 (h:Below B a w) (hb:B≤b) (y0 y1 y2 y3 y4:Value):Below B a (((((w.setCell ⟨b,0,none⟩ y0).setCell ⟨b,1,none⟩ y1).setCell ⟨b,2,none⟩ y2).setCell ⟨b,3,none⟩ y3).setCell ⟨b,4,none⟩ y4):=
 ((below_set3 h hb y0 y1 y2).setCell (p:=⟨b,3,none⟩) hb y3).setCell (p:=⟨b,4,none⟩) hb y4
theorem below_set7 (h:Below B a w) (hb:B≤b) (y0 y1 y2 y3 y4 y5 y6:Value):Below B a (((((((w.setCell ⟨b,0,none⟩ y0).setCell ⟨b,1,none⟩ y1).setCell ⟨b,2,none⟩ y2).setCell ⟨b,3,none⟩ y3).setCell ⟨b,4,none⟩ y4).setCell ⟨b,5,none⟩ y5).setCell ⟨b,6,none⟩ y6):=
 ((below_set5 h hb y0 y1 y2 y3 y4).setCell (p:=⟨b,5,none⟩) hb y5).setCell (p:=⟨b,6,none⟩) hb y6
end
section
variable {W:World} {b g:Nat} {cs:Array Value} {t:TypeId}
theorem Row.far3 (h:Row W b cs t) (hne:b≠g) (y0 y1 y2:Value):Row (((W.setCell ⟨g,0,none⟩ y0).setCell ⟨g,1,none⟩ y1).setCell ⟨g,2,none⟩ y2) b cs t:=
 ((h.far (p:=⟨g,0,none⟩) hne y0).far (p:=⟨g,1,none⟩) hne y1).far (p:=⟨g,2,none⟩) hne y2
theorem Row.far5 (h:Row W b cs t) (hne:b≠g) (y0 y1 y2 y3 y4:Value):Row (((((W.setCell ⟨g,0,none⟩ y0).setCell ⟨g,1,none⟩ y1).setCell ⟨g,2,none⟩ y2).setCell ⟨g,3,none⟩ y3).setCell ⟨g,4,none⟩ y4) b cs t:=
 ((h.far3 hne y0 y1 y2).far (p:=⟨g,3,none⟩) hne y3).far (p:=⟨g,4,none⟩) hne y4
theorem Row.far7 (h:Row W b cs t) (hne:b≠g) (y0 y1 y2 y3 y4 y5 y6:Value):Row (((((((W.setCell ⟨g,0,none⟩ y0).setCell ⟨g,1,none⟩ y1).setCell ⟨g,2,none⟩ y2).setCell ⟨g,3,none⟩ y3).setCell ⟨g,4,none⟩ y4).setCell ⟨g,5,none⟩ y5).setCell ⟨g,6,none⟩ y6) b cs t:=
 ((h.far5 hne y0 y1 y2 y3 y4).far (p:=⟨g,5,none⟩) hne y5).far (p:=⟨g,6,none⟩) hne y6
end
abbrev exA (e:Ex) (A:Option Addr) (cap:Nat):Array Value:= #[.int .i64 e.op,.string e.name,.int .i64 e.n,.slice A e.args.length cap,.int .i64 e.line,.int .i64 e.col]
theorem Row.ex6 {W:World} {b:Nat} {e:Ex} {A:Option Addr} {cap:Nat} {t:TypeId} (h:Row W b (exA e A cap) t):W.cell? ⟨b,0,none⟩=some (.int .i64 e.op)∧W.cell? ⟨b,1,none⟩=some (.string e.name)∧W.cell? ⟨b,2,none⟩=some (.int .i64 e.n)∧
  W.cell? ⟨b,3,none⟩=some (.slice A e.args.length cap)∧W.cell? ⟨b,4,none⟩=some (.int .i64 e.line)∧W.cell? ⟨b,5,none⟩=some (.int .i64 e.col):=
 ⟨(h.cell 0).trans rfl,(h.cell 1).trans rfl,(h.cell 2).trans rfl,(h.cell 3).trans rfl,(h.cell 4).trans rfl,(h.cell 5).trans rfl⟩
theorem rowNewD (W:World) (o o' o'':Obj) (cs:Array Value) (t:TypeId):Row ((((W.alloc o).alloc o').alloc o'').alloc (.cells cs t)) (W.heap.size+3) cs t:=by
 have:=Row.new (((W.alloc o).alloc o').alloc o'') cs t
 rwa [World.size_alloc,World.size_alloc,World.size_alloc] at this
theorem names_yes {op:Int} (h:namesB op=true):(op==3)=true∨((op==3)=false∧decide (24≤op)=true∧decide (op≤26)=true):=by
 have h:op=3∨op=24∨op=25∨op=26:=by simpa[namesB] using h
 rcases h with h|h
 ·exact .inl (eq_yes h)
 ·exact .inr ⟨eq_no (by omega),dec_yes (by omega),dec_yes (by omega)⟩
theorem names_no {op:Int} (h:namesB op=false):(op==3)=false∧(decide (24≤op)=false∨(decide (24≤op)=true∧decide (op≤26)=false)):=by
 have h:¬(op=3∨op=24∨op=25∨op=26):=by simpa[namesB] using h
 refine ⟨eq_no (by omega),?_⟩
 by_cases h24:24≤op
 ·exact .inr ⟨dec_yes h24,dec_no (by omega)⟩
 ·exact .inl (dec_no h24)
theorem names_4 {op:Int} (h:op=4):namesB op=false:=by subst h;rfl
def TstP (P:Bool) (p:Prop):Prop:=(P=true→p)∧(p→P=true)
theorem TstP.yes {p:Prop} (h:p):TstP true p:=⟨fun _=>h,fun _=>rfl⟩
theorem TstP.no {p:Prop} (h:¬p):TstP false p:=⟨fun g=>Bool.noConfusion g,fun g=>absurd g h⟩
abbrev nd0:Nd:=⟨⟨#[]⟩,[],[],[],[],0,0⟩
abbrev nda0:NdA:=⟨none,0,none,0,none,0,none,0⟩
abbrev ndZ:Array Value:= #[.string ⟨#[]⟩,.slice none 0 0,.slice none 0 0,.slice none 0 0,.slice none 0 0,.int .i64 0,.int .i64 0]
theorem nodeAt_at {s:List Nd} {nm:ByteArray} {k:Nat} {n:Nd} (h:∀j,j<k→∀x,s[j]? =some x→x.name≠nm) (hk:s[k]? =some n) (he:n.name=nm):nodeAt s nm=some n:=by
 obtain ⟨hl,hm⟩:=List.getElem?_eq_some_iff.1 hk
 unfold nodeAt
 rw[List.find?_eq_some_iff_getElem]
 refine ⟨by simpa using he,k,hl,hm,fun j hj=>?_⟩
 have:=h j hj _ (List.getElem?_eq_getElem (by omega))
 simpa using this
theorem nodeAt_mem {s:List Nd} {nm:ByteArray} {n:Nd} (h:nodeAt s nm=some n):n∈s∧n.name=nm:=by
 unfold nodeAt at h
 exact ⟨List.mem_of_find?_eq_some h,by simpa using List.find?_some h⟩
theorem nodeAt_none {s:List Nd} {nm:ByteArray}:nodeAt s nm=none↔nm∉s.map Nd.name:=by
 unfold nodeAt
 rw[List.find?_eq_none]
 constructor
 ·intro h hm
  obtain ⟨n,hn,he⟩:=List.mem_map.1 hm
  have:=h n hn
  simp at this
  exact this he
 ·intro h n hn he
  have:n.name=nm:=by simpa using he
  exact h (by rw[←this];exact List.mem_map_of_mem hn)
def FindRes (s:List Nd) (nm:ByteArray) (w:World) (e:Ending) (w':World):Prop:=
 (∃(n:Nd) (a:NdA),e= .returned (.tuple #[ndV n a,.bool (cB (nm∈s.map Nd.name))])∧Hid (nm∈s.map Nd.name→nodeAt s nm=some n∧NdAt w' w.heap.size n a)∧Hid (nm∉s.map Nd.name→n=nd0∧a=nda0))∧Below w.heap.size w w'
theorem find_any (s:List Nd) (m:Nat) (A:Option Addr) (cap:Nat) (nm:ByteArray) (w:World) (hm:s.length=m) (h1:m≤cap) (h2:cap≤maxLen) (h:Nds w w.heap.size A s):
  Calls Tryz.prog 53 #[.agg #[.slice A m cap],.string nm] w (FindRes s nm w):=by
 refine' zq229
 have b1:Below w.heap.size w ((w.alloc (.cells #[.slice A s.length cap] 24)).alloc (.cells ndZ 39)):=bE
 refine' zq233
 refine' zq146
 go_loopw[11] (fun i wr=>∃k:Nat,k≤s.length∧i= .int .i64 k∧Hid (∀j,j<k→∀x,s[j]? =some x→x.name≠nm)∧Below W1.heap.size W1 wr) (fun i _=>s.length-(intOf i).toNat)
 case atStart=>exact ⟨0,Nat.zero_le _,rfl,fun j h=>absurd h (by omega),Below.refl _ _⟩
 case round=>
  refine' zq56
  have rr:=rf1.below hbr l1
  have lr:=rr.lt
  have hB:=b1.trans (hbr.mono hs1)
  obtain ⟨⟨z0,z1,z2,z3,z4,z5,z6⟩,f0,f1,f2,f3,f4,f5,f6⟩:=rr.seven
  by_cases hlt:k<s.length
  ·refine' zq164
   have HAT:=Lib.hid hat
   clear hn hat
   by_cases e:n.name=nm
   ·refine' zq71
    exact bodyPost_ret (v:= .tuple #[ndV n a,.bool true]) (res2 rfl Tryz.underlying39 rfl (by kernel_rfl) rfl rfl ((rr.set7 _ _ _ _ _ _ _).alloc _)) rfl ⟨⟨n,a,HQ.out,fun _=>⟨HF.out,HAT.out.below bb⟩,fun g=>absurd HM.out g⟩,hB.trans bb⟩
   ·refine' zq185
  ·refine' zq72
open Go.RowKit Nm
theorem Row.ownB {W W':World} {b B n size:Nat} {xs:List Value} {ca:Array Value} {t e:TypeId} {v:Value} (h:Row W b ca t) (ho:W.ownsRow B e size v n xs) (hb:b<B) (hg:W.grownBy W' v.ownBlock):Row W' b ca t:=
 (hg.block b h.lt (fun e=>by have:=(ho.lt b e.symm).1;omega)).trans h
theorem Upd.ownB {X:Nat→Prop} {a w w':World} {n size:Nat} {xs:List Value} {e:TypeId} {v:Value} (h:Upd X a w) (ho:w.ownsRow a.heap.size e size v n xs) (hg:w.grownBy w' v.ownBlock):Upd X a w':=
 ⟨hg.os.trans h.os,hg.tape.trans h.tape,hg.output.trans h.output,Nat.le_trans h.size hg.size,fun k hk hX=>(hg.block k (Nat.lt_of_lt_of_le hk h.size) (fun e=>by have:=(ho.lt k e.symm).1;omega)).trans (h.block k hk hX)⟩
theorem own_updX {X:Nat→Prop} {w w':World} {base:Nat} {e:TypeId} {v:Value} {n size:Nat} {xs:List Value} (h:w.ownsRow base e size v n xs) (hu:Upd X w w') (hX:∀k,X k→k<base):w'.ownsRow base e size v n xs:=by
 refine ⟨h.1,?_⟩
 have hlt:=h.lt
 rcases h.2 with h0|⟨g,c,cur,h1,h2,h3,h4⟩
 ·exact .inl h0
 ·have hg:=hlt g (by rw[h1];rfl)
  exact .inr ⟨g,c,cur,h1,h2,(hu.block g hg.2 (fun hx=>by have:=hX g hx;omega)).trans h3,h4⟩
def tokC (t:Tok):List Value:=[.int .i64 t.kind,.string t.text,.int .i64 t.n,.int .i64 t.line,.int .i64 t.col]
def toksC (l:List Tok):List Value:=(l.map tokC).flatten
def TkOk (x:Tok):Prop:=x.text.size≤5000∧Wf x.n∧(0≤x.kind∧x.kind≤5)∧(0≤x.line∧x.line≤5000)∧0≤x.col∧x.col≤5000
theorem toks_are {l:List Tok} (h:∀x∈l,TkOk x):Are isTok l (l.map tokC):=by
 refine ⟨by simp,fun i x cs hx hc=>?_⟩
 rw[List.getElem?_map,hx] at hc
 cases hc
 exact ⟨rfl,h x (List.mem_of_getElem? hx)⟩
theorem toksC_snoc (l:List Tok) (t:Tok):toksC (l++ [t])=toksC l++tokC t:=by simp[toksC]
theorem run_pos {p:UInt8→Bool} {s:ByteArray} {i:Nat} (h:i<s.size) (hp:p (byt s i)=true):1≤runN p s i:=by
 unfold runN
 rw[drop_at h,List.takeWhile_cons,hp]
 simp
theorem skp_lc {s:ByteArray} {c:Sc} (h:ScOk s c):(0≤(c.line:Int)∧(c.line:Int)≤5000)∧0≤(c.col:Int)∧(c.col:Int)≤5000:=by
 obtain ⟨h1,h2,h3,h4⟩:=h
 omega
theorem nextF_ok {s:ByteArray} {c c':Sc} {t:Tok} (h:ScOk s c) (hi:c.i<s.size) (hx:nextF s c=some (t,c')):TkOk t∧c.i<c'.i:=by
 have hlc:=skp_lc h
 have hs:=h.size
 cases hL:letterB (byt s c.i).toNat with
 |true=>
  obtain ⟨h1,rfl,rfl⟩:=nextF_l hx hL
  have hp:=run_pos (p:=alnum) hi (by unfold alnum;rw[hL];rfl)
  have hl:=runN_le (p:=alnum) h.i
  refine ⟨⟨by show (cutB _ _ _).size≤5000;rw[cut_size hl];omega,show Wf 0 from wf_of ⟨by decide,by decide⟩,?_,hlc⟩,by rw[skp_i];omega⟩
  show 0≤(bif wordB (cutB s c.i (runN alnum s c.i)).data.toList then (4:Int) else 1)∧(bif wordB (cutB s c.i (runN alnum s c.i)).data.toList then (4:Int) else 1)≤5
  cases wordB (cutB s c.i (runN alnum s c.i)).data.toList
  ·rw[cond_false];omega
  ·rw[cond_true];omega
 |false=>
  cases hD:digitB (byt s c.i).toNat with
  |true=>
   obtain ⟨N,hN,rfl,rfl⟩:=nextF_d hx hL hD
   have hp:=run_pos (p:=fun b=>digitB b.toNat) hi hD
   have hl:=runN_le (p:=fun b=>digitB b.toNat) h.i
   have hN9:N≤9223372036854775807:=by
    unfold numF at hN
    cases hc:(decide (1<(cutB s c.i (runN (fun b=>digitB b.toNat) s c.i)).data.toList.length) && (cutB s c.i (runN (fun b=>digitB b.toNat) s c.i)).data.toList.getD 0 0==48) with
    |true=>rw[hc] at hN;cases hN
    |false=>
     rw[hc] at hN
     refine numG_le hN (by omega) (fun b hb=>?_)
     obtain ⟨j,hj⟩:=List.getElem?_of_mem hb
     have hjl:j<(cutB s c.i (runN (fun b=>digitB b.toNat) s c.i)).size:=by have:=(List.getElem?_eq_some_iff.1 hj).1;simpa using this
     rw[byt_get hjl] at hj
     rw[cut_size hl] at hjl
     cases hj
     rw[cut_byt hjl]
     have:=dig_le (runN_all (p:=fun b=>digitB b.toNat) hjl (by omega))
     omega
   exact ⟨⟨by show (cutB _ _ _).size≤5000;rw[cut_size hl];omega,wf_of ⟨by show-9223372036854775808≤(N:Int);omega,by show (N:Int)≤9223372036854775807;omega⟩,show 0≤(2:Int)∧(2:Int)≤5 by decide,hlc⟩,by rw[skp_i];omega⟩
  |false=>
   obtain ⟨h0,rfl,rfl⟩:=nextF_s hx hL hD
   have hl:c.i+sgnF (s.data.toList.drop c.i)≤s.size:=by
    have hz:(s.extract c.i s.size).size=s.size-c.i:=by rw[ByteArray.size_extract];omega
    have:=sgn_le (s:=s.extract c.i s.size) (by omega)
    rw[show (s.extract c.i s.size).data.toList=s.data.toList.drop c.i from by rw[ByteArray.data_extract,Array.toList_extract];exact List.take_of_length_le (by simp)] at this
    omega
   exact ⟨⟨by show (cutB _ _ _).size≤5000;rw[cut_size hl];omega,show Wf 0 from wf_of ⟨by decide,by decide⟩,show 0≤(3:Int)∧(3:Int)≤5 by decide,hlc⟩,by rw[skp_i];omega⟩
theorem blk_i {s:ByteArray}:∀(f:Nat) (c:Sc),ScOk s c→ScOk s (blk s f c)∧c.i≤(blk s f c).i
 |0,c,h=>⟨h,Nat.le_refl _⟩
 |f+1,c,h=>by
  by_cases hc:c.i<s.size
  ·cases hb:isBl (byt s c.i) with
   |true=>
    rw[blk_more hc hb]
    have:=blk_i f (stpS s c) (stp_ok h hc)
    rw[stp_i] at this
    exact ⟨this.1,by omega⟩
   |false=>rw[blk_end (fun _=>hb)];exact ⟨h,Nat.le_refl _⟩
  ·rw[blk_end (fun h=>absurd h hc)];exact ⟨h,Nat.le_refl _⟩
structure ScnI (s:ByteArray) (L:List Tok) (W1:World) (o:Nat) (v:Value) (l l':List Tok) (d:Sc) (g:Nat) (wr:World):Prop where
 g:scnF s g d=some l'
 e:l++l'=L
 n:l.length≤d.i
 a:ScAt wr o s d
 own:wr.ownsRow W1.heap.size 191 5 v l.length (toksC l)
 ok:∀x∈l,TkOk x
 u:Upd (fun x=>x=o) W1 wr
theorem info_tok:(Tryz.prog.info? 191).map (fun i=>(i.zero,i.size,i.bytes))=some (some (.agg tkZ),5,48):=by kernel_rfl
theorem scn_step {s:ByteArray} {g:Nat} {c:Sc} {l:List Tok} (h:scnF s g c=some l):∃g',g=g'+1∧
  (((blk s s.size c).i=s.size∧l=[⟨5,⟨#[]⟩,0,(blk s s.size c).line,(blk s s.size c).col⟩])∨((blk s s.size c).i≠s.size∧∃t d l',nextF s (blk s s.size c)=some (t,d)∧scnF s g' d=some l'∧l=t::l')):=by
 cases g with
 |zero=>cases h
 |succ g=>
  refine ⟨g,rfl,?_⟩
  unfold scnF at h
  dsimp only at h
  generalize blk s s.size c=d at*
  cases hd:(d.i==s.size) with
  |true=>rw[hd] at h;cases h;exact .inl ⟨beq_iff_eq.1 hd,rfl⟩
  |false=>
   rw[hd,cond_false] at h
   obtain ⟨⟨t,e⟩,h1,h2⟩:=Option.bind_eq_some_iff.1 h
   obtain ⟨l',h3,h4⟩:=Option.map_eq_some_iff.1 h2
   exact .inr ⟨beq_eq_false_iff_ne.1 hd,t,e,l',h1,h3,h4.symm⟩
theorem cells_new5 (w:World) (t:TypeId) (l:List Value):∀j u,l[j]? =some u→(w.alloc (.cells l.toArray t)).cell? ((⟨w.heap.size,0,none⟩:Addr).add j)=some u:=by
 intro j u h
 rw[Addr.add_lit,(Row.new w l.toArray t).cell (0+j)]
 simpa using h
theorem tok_one (t:Tok):∀u∈tokC t,u.oneCell'=true:=by
 intro u hu
 simp only[tokC,List.mem_cons,List.not_mem_nil,or_false] at hu
 rcases hu with rfl|rfl|rfl|rfl|rfl<;>rfl
theorem res2c {P:Program} {fn:Func} {p q:Tmp} {ty:TypeId} {d:TypeDesc} {cs:Array Value} (h:fn.results= #[.tmp q,.cell p ty]) (hu:P.underlying ty=some d) (hd:(match d with| .struct _| .array _ _=>true|_=>false)=true) (hi:(P.info? ty).map (·.size)=some cs.size)
  {tmps:Array Value} {w:World} {g:Nat} {t:TypeId} {u:Value} (hp:tmps.getD p undef= .pointer (some ⟨g,0,none⟩)) (hq:tmps.getD q undef=u) (hg:Row w g cs t):(results fn tmps).run P w= .ok (.tuple #[u,.agg cs]) w:=by
 refine' zq115
theorem tok_sl {w:World} {base n:Nat} {v:Value} {l:List Tok} (h:w.ownsRow base 191 5 v n (toksC l)) (hl:∀x∈l,TkOk x):SlV w w.heap.size 5 isTok v l:=
 (own_sl h (toks_are hl) (fun cs hcs=>by obtain ⟨x,_,rfl⟩:=List.mem_map.1 hcs;rfl) (by decide)).1
theorem upd_three (w:World) (g:Nat) (y0 y1 y2:Value):Upd (fun x=>x=g) w (((w.setCell ⟨g,0,none⟩ y0).setCell ⟨g,1,none⟩ y1).setCell ⟨g,2,none⟩ y2):=by
 have h0:Upd (fun x=>x=g) w w:=Upd.refl _ _
 exact ((h0.setCell (p:=⟨g,0,none⟩) rfl y0).setCell (p:=⟨g,1,none⟩) rfl y1).setCell (p:=⟨g,2,none⟩) rfl y2
theorem scan_any (s:ByteArray) (L:List Tok) (w:World) (hs:s.size≤4000) (hr:noRem s) (hL:scnF s (s.size+1) ⟨0,1,1⟩=some L):
  Calls Tryz.prog 135 #[.string s] w fun r w'=>(∃v,r= .returned (.tuple #[v,ftV ft0])∧SlV w' w'.heap.size 5 isTok v L)∧Below w.heap.size w w':=by
 obtain ⟨i0,hi0,hz0,hz1,hz2⟩:=info_parts info_tok
 have b1:Below w.heap.size w ((w.alloc (.cells ftC0 31)).alloc (.cells (scA s ⟨0,1,1⟩) 258)):=bE
 have rF:=(Row.new w ftC0 31).alloc (.cells (scA s ⟨0,1,1⟩) 258)
 have rS:Row ((w.alloc (.cells ftC0 31)).alloc (.cells (scA s ⟨0,1,1⟩) 258)) (w.heap.size+1) (scA s ⟨0,1,1⟩) 258:=by
  have:=Row.new (w.alloc (.cells ftC0 31)) (scA s ⟨0,1,1⟩) 258
  simpa using this
 have HL:=Lib.hid hL
 have HR:=Lib.hid hr
 clear hL hr
 go_enter Tryz.func135,Tryz.ntmps135
 go_upto_region 2 with (fail)
 change Code.wp _ _ _ _ ((w.alloc (.cells ftC0 31)).alloc (.cells (scA s ⟨0,1,1⟩) 258))
 generalize (w.alloc (.cells ftC0 31)).alloc (.cells (scA s ⟨0,1,1⟩) 258)=W1 at*
 have hs1:=b1.size
 have hFl:=rF.lt
 have hSl:=rS.lt
 go_wp2_with fail
 have HI0:Hid (ScnI s L W1 (w.heap.size+1) (.slice none 0 0) [] L ⟨0,1,1⟩ (s.size+1) W1):=
  ⟨HL.out,rfl,Nat.le_refl _,⟨rS,⟨Nat.zero_le _,Nat.le_refl _,Nat.le_refl _,hs⟩⟩,World.ownsRow_nil _ _ _ _,fun x hx=>absurd hx List.not_mem_nil,Upd.refl _ _⟩
 go_loopw[5] (fun v wr=>∃l l' d g,Hid (ScnI s L W1 (w.heap.size+1) v l l' d g wr)) (fun _ wr=>s.size+1-(intOf ((wr.cell? ⟨w.heap.size+1,1,none⟩).getD (.int .i64 0))).toNat)
 case atStart=>exact ⟨_,_,_,_,HI0⟩
 case round=>
  obtain ⟨l,l',d,g,H⟩:=hrel
  have HBL:=Lib.hid (blanks_any s d (w.heap.size+1) wr H.out.a HR.out)
  obtain ⟨g',rfl,hcase⟩:=scn_step H.out.g
  obtain ⟨ok2,le2⟩:=blk_i s.size d H.out.a.ok
  have hl4:l.length≤4000:=by have:=H.out.n;have:=H.out.a.ok.i;omega
  have hln:l.length≤(blk s s.size d).i:=Nat.le_trans H.out.n le2
  have HQ:Hid (wr.cell? ⟨w.heap.size+1,1,none⟩=some (.int .i64 d.i)):=H.out.a.row.four.1.2.1
  have HDI:Hid (d.i≤(blk s s.size d).i):=le2
  clear le2
  go_wp2_with fail
  refine HBL.out.mono ?_
  rintro r w2 ⟨rfl,ha2,hu2⟩
  generalize blk s s.size d=d2 at*
  have HO2:=Lib.hid (own_updX H.out.own hu2 (fun k e=>by omega))
  have HU2:=Lib.hid (H.out.u.trans hu2)
  have hsz2:=HU2.out.size
  have rF2:=HU2.out.row rF (by omega)
  obtain ⟨⟨q0,q1,q2,q3⟩,-⟩:=ha2.row.four
  have HA2:=Lib.hid ha2
  clear ha2 hu2 HBL
  by_cases hend:d2.i=s.size
  ·have hb:((d2.i:Int)==(s.size:Int))=true:=by rw[hend];simp
   go_wp2_with (at_builtin;refine wpList_append_own _ rfl _ _ 183 rfl W1.heap.size 191 i0 (.agg tkZ) 5 48 Tryz.underlying183 hi0 hz0 hz1 hz2 rfl (by decide) _ _ _ rfl (HO2.out.alloc _) ⟨w2.heap.size,0,none⟩ 1 1 (tokC ⟨5,⟨#[]⟩,0,d2.line,d2.col⟩) rfl rfl (cells_new5 _ _ _) (tok_one _) (by unfold maxLen;omega) (by omega) (by simp;omega) ?_)
   intro v' w4 hown hgrow _
   have rF4:=(rF2.alloc (.cells (tokA ⟨5,⟨#[]⟩,0,d2.line,d2.col⟩) 191)).ownB (HO2.out.alloc _) hFl hgrow
   have HU4:=Lib.hid (Upd.ownB (HU2.out.alloc (.cells (tokA ⟨5,⟨#[]⟩,0,d2.line,d2.col⟩) 191)) (HO2.out.alloc _) hgrow)
   have HOW:=Lib.hid hown
   have HLE:Hid (l++ [⟨5,⟨#[]⟩,0,d2.line,d2.col⟩]=L∧TkOk ⟨5,⟨#[]⟩,0,d2.line,d2.col⟩):=by
    refine ⟨?_,⟨Nat.zero_le _,wf_of ⟨show (-9223372036854775808:Int)≤0 by decide,show (0:Int)≤9223372036854775807 by decide⟩,⟨show (0:Int)≤5 by decide,show (5:Int)≤5 by decide⟩,skp_lc HA2.out.ok⟩⟩
    rcases hcase with ⟨_,rfl⟩|⟨hn,_⟩
    ·exact H.out.e
    ·exact absurd hend hn
   clear hown hgrow
   obtain ⟨⟨k0,k1,k2⟩,z0,z1,z2⟩:=rF4.three
   go_wp2_with fail
   have u5:=upd_three w4 w.heap.size (.int .i64 0) (.int .i64 0) (.int .i64 0)
   refine bodyPost_ret (res2c (p:=3) (q:=2) (u:=v') rfl Tryz.underlying31 rfl (by kernel_rfl) rfl rfl (Row.set3 rF4 _ _ _)) rfl ⟨⟨v',rfl,?_⟩,?_⟩
   ·rw[←HLE.out.1]
    refine tok_sl (base:=W1.heap.size) (n:=l.length+1) ?_ (fun x hx=>?_)
    ·rw[toksC_snoc];exact own_updX HOW.out u5 (fun k e=>by omega)
    ·rcases List.mem_append.1 hx with hx|hx
     ·exact H.out.ok x hx
     ·rw[List.mem_singleton.1 hx];exact HLE.out.2
   ·exact b1.trans (Upd.below (X:=fun k=>w.heap.size≤k) (Upd.trans (HU4.out.mono (fun k e=>by omega)) (u5.mono (fun k e=>by omega))) (fun k hk=>hk) hs1)
  ·have hb:((d2.i:Int)==(s.size:Int))=false:=by rw[beq_eq_false_iff_ne];omega
   have hb2:((l.length:Int)==4096)=false:=by rw[beq_eq_false_iff_ne];omega
   have hdi:d2.i<s.size:=by have:=ok2.i;omega
   rcases hcase with ⟨h1,_⟩|⟨_,t,d3,l'',hnx,hg',rfl⟩
   ·exact absurd h1 hend
   obtain ⟨tok,hlt⟩:=nextF_ok ok2 hdi hnx
   have HNX:=Lib.hid (next_any s d2 d3 t (w.heap.size+1) w2 HA2.out hdi hnx)
   obtain ⟨Av,cv,hv,-⟩:=own_rd HO2.out
   subst hv
   go_wp2_with fail
   refine HNX.out.mono ?_
   rintro r w3 ⟨rfl,ha3,hu3⟩
   have HA3:=Lib.hid ha3
   have HU3:=Lib.hid (HU2.out.trans hu3)
   have HO3:=Lib.hid (own_updX HO2.out hu3 (fun k e=>by omega))
   have hsz3:=HU3.out.size
   have HCN:Hid (∀j u,(tokC t)[j]? =some u→((w3.alloc (.cells (tokA t) 191)).alloc (.cells (tokA t) 191)).cell? ((⟨w3.heap.size+1,0,none⟩:Addr).add j)=some u):=by
    have:=cells_new5 (w3.alloc (.cells (tokA t) 191)) 191 (tokC t)
    rw[show (tokC t).toArray=tokA t from rfl] at this
    refine Lib.hid ?_
    simpa using this
   clear ha3 hu3 HNX
   go_wp2_with (at_builtin;refine wpList_append_own _ rfl _ _ 183 rfl W1.heap.size 191 i0 (.agg tkZ) 5 48 Tryz.underlying183 hi0 hz0 hz1 hz2 rfl (by decide) _ _ _ rfl (own_below HO3.out bE) ⟨_,0,none⟩ 1 1 (tokC t) rfl rfl HCN.out (tok_one _) (by unfold maxLen;omega) (by omega) (by simp;omega) ?_)
   intro v' w4 hown hgrow _
   have hO:=(HO3.out.alloc (.cells (tokA t) 191)).alloc (.cells (tokA t) 191)
   have HN:Hid (ScnI s L W1 (w.heap.size+1) v' (l++ [t]) l'' d3 g' w4):=by
    refine ⟨hg',?_,?_,⟨Row.ownB ((HA3.out.row.alloc _).alloc _) hO hSl hgrow,HA3.out.ok⟩,?_,?_,Upd.ownB ((HU3.out.alloc _).alloc _) hO hgrow⟩
    ·rw[←H.out.e];simp
    ·simp;omega
    ·rw[toksC_snoc];simpa using hown
    ·intro x hx
     rcases List.mem_append.1 hx with hx|hx
     ·exact H.out.ok x hx
     ·rw[List.mem_singleton.1 hx];exact tok
   have HQ4:Hid (w4.cell? ⟨w.heap.size+1,1,none⟩=some (.int .i64 d3.i)):=HN.out.a.row.four.1.2.1
   have hd3:d3.i≤s.size:=HA3.out.ok.i
   clear hown hgrow hO
   go_wp2_with fail
   go_roundw
   case rel=>exact ⟨_,_,_,_,HN⟩
   case measure=>
    rw[HQ.out,HQ4.out]
    simp only[Option.getD_some,intOf]
    have:=HDI.out
    omega
end Go.Proofs.YtgjfkidbfmbjoaaGreat
