/-
  Machines in memory; the contracts of vm.New and of a machine's is. Ticks of right machines: values are of their types (plain). The contracts of a machine's First and Fits, of tompionref01.Ints, and of does at whatever instruction. The contract of a machine's Tick. For the law VmTicks: machines that are none; a machine's Program; tompionref29's First and Fits; tompionref27.Same of one program.
-/
import Derived.Test.YtbjaejgechadpaaGreatVmZ
import Derived.Deep.RegionHeld3
import Derived.Test.YtbjaejgechadpaaGreatArZ
import Derived.Deep.DrawnRows
import Derived.StillTailTactics
import Derived.Test.YtbjaejgechadpaaGreatEmW
import Derived.Test.YtbjaejgechadpaaGreatLookZ
import Derived.Test.YtbjaejgechadpaaGreatPgA
import Derived.Laws.StructEq
namespace Go.Proofs.YtbjaejgechadpaaGreat
open Go.RowKit Vf
attribute [local go_sem ↓] Go.wp_at_zero Go.wp_at_succ
theorem own_slv {α:Type} {w:World} {base:Nat} {e:TypeId} {size:Nat} {v:Value} {n:Nat} {rel:α→List Value→Prop} {f:α→List Value} {l:List α} (h:w.ownsRow base e size v n (l.map f).flatten) (hf:∀x∈l,rel x (f x)) (hl:∀x,(f x).length=size) (hs:0<size):SlV w w.heap.size size rel v l:=
 (own_sl h (Are.map hf) (fun cs hcs=>by obtain ⟨y,_,rfl⟩:=List.mem_map.1 hcs;exact hl y) hs).1
end Go.Proofs.YtbjaejgechadpaaGreat
namespace Go.Proofs.YtbjaejgechadpaaGreat.Vf
open Z
theorem getI_set_same {l:List Int} {n:Nat} {v:Int} (h:n<l.length):getI (l.set n v) (n:Int)=v:=by
 simp[getI,List.getD_eq_getElem?_getD,h]
theorem getI_set_ne {l:List Int} {n m:Nat} {v:Int} (h:n≠m):getI (l.set n v) (m:Int)=getI l (m:Int):=by
 simp[getI,List.getD_eq_getElem?_getD,List.getElem?_set_ne h]
theorem in_one (op a:Int):In (Ar.oneV op a):=by
 unfold Ar.oneV
 split
 ·exact in_neg _
 ·split
  ·unfold Ar.flagZ;split<;>(unfold In;omega)
  ·unfold In;omega
theorem in_flag (b:Bool):In (Ar.flagZ b):=by unfold Ar.flagZ;split<;>(unfold In;omega)
theorem in_do (op a b:Int):In (Ar.doV op a b):=by
 unfold Ar.doV
 split
 ·exact in_add _ _
 split
 ·exact in_sub _ _
 split
 ·exact in_mul _ _
 split
 ·exact in_div _ _
 split
 ·exact in_mod _ _
 split
 ·exact in_flag _
 split
 ·exact in_flag _
 ·unfold In;omega
theorem flag_two (b:Bool):Ar.flagZ b=0∨Ar.flagZ b=1:=by unfold Ar.flagZ;split<;>simp
def machFits (p:Pg) (cells:List Int):Prop:=cells.length=p.cells.length∧∀j:Nat,j<p.cells.length→getI (types p.cells) j=2→getI cells j=0∨getI cells j=1
def insFit (ts vs:List Int):Prop:=vs.length=ts.length∧∀j:Nat,j<ts.length→getI ts j=2→getI vs j=0∨getI vs j=1
def AllIn (l:List Int):Prop:=∀v∈l,In v
theorem AllIn.get {l:List Int} (h:AllIn l) (n:Int):In (getI l n):=by
 unfold getI
 rw[List.getD_eq_getElem?_getD]
 cases hg:l[n.toNat]? with
 |none=>show In 0;unfold In;omega
 |some v=>exact h v (List.mem_of_getElem? hg)
theorem AllIn.set {l:List Int} (h:AllIn l) (n:Nat) {v:Int} (hv:In v):AllIn (l.set n v):=fun u hu=>by
 rcases List.mem_or_eq_of_mem_set hu with g|g
 ·exact h u g
 ·rw[g];exact hv
structure TI (p:Pg) (i:Nat) (s:Tk):Prop where
 rlen:s.regs.length=p.regs.toNat
 nlen:s.next.length=p.cells.length
 olen:s.out.length=p.outs.length
 rin:AllIn s.regs
 nin:AllIn s.next
 oin:AllIn s.out
 k0:∀r:Nat,r<p.regs.toNat→kindAcc (pairs p i) r 0=0→getI s.regs r=0
 k2:∀r:Nat,r<p.regs.toNat→kindAcc (pairs p i) r 0=2→getI s.regs r=0∨getI s.regs r=1
 nfit:∀j:Nat,j<p.cells.length→getI (types p.cells) j=2→getI s.next j=0∨getI s.next j=1
 ofit:∀j:Nat,j<p.outs.length→getI p.outs j=2→getI s.out j=0∨getI s.out j=1
theorem pairs_succ {p:Pg} {i:Nat} {x:In5} (hx:p.code[i]? =some x):pairs p (i+1)=pairs p i++ [(x,givesOf p (pairs p i) x)]:=by rw[pairs,hx]
section
variable {p:Pg} {cells inn:List Int} {i:Nat} {s:Tk} {x:In5}
theorem TI.pass (hr:rightOk p) (hx:p.code[i]? =some x) (h:TI p i s):TI p (i+1) s:=by
 refine ⟨h.rlen,h.nlen,h.olen,h.rin,h.nin,h.oin,fun r hr' hk=>?_,fun r hr' hk=>?_,h.nfit,h.ofit⟩
 all_goals
  rw[pairs_succ hx] at hk
  by_cases hg:29≤x.op∨x.a≠r
  ·rw[kindAcc_other hg] at hk
   first|exact h.k0 r hr' hk|exact h.k2 r hr' hk
  ·have ha:x.a=r:=by omega
   have h0:=((hr.2.1 i x hx).2.1 (by omega)).2.1
   rw[ha] at h0
   have:=h.k0 r hr' h0
   first|exact this|exact .inl this
theorem TI.taken2 (h:TI p i s) {r:Int} (ht:taken p (pairs p i) r=2):getI s.regs r=0∨getI s.regs r=1:=by
 have hin:=taken_in (p:=p) (l:=pairs p i) (reg:=r) (by rw[ht];decide)
 obtain ⟨n,rfl⟩:=Int.eq_ofNat_of_zero_le hin.1
 refine h.k2 n (by omega) ?_
 unfold taken at ht
 rwa [if_neg (by omega)] at ht
theorem give_in (h:TI p i s) (hc:AllIn cells) (hi:AllIn inn) (hk:In x.k):In (vgive cells inn s.regs x):=by
 unfold vgive
 split
 ·exact hk
 split
 ·exact h.rin.get _
 split
 ·exact in_one _ _
 split
 ·split
  ·exact h.rin.get _
  ·exact h.rin.get _
 split
 ·exact hc.get _
 split
 ·exact hi.get _
 ·exact in_do _ _ _
theorem give_two (hr:rightOk p) (hx:p.code[i]? =some x) (h:TI p i s) (hc:machFits p cells) (hi:insFit p.ins inn) (hop:x.op<29) (hg:givesOf p (pairs p i) x=2):vgive cells inn s.regs x=0∨vgive cells inn s.regs x=1:=by
 obtain ⟨ht,_,_⟩:=hr.2.1 i x hx
 have hs:=right_safe hr hx
 have ho:=hs.op
 unfold takesOk at ht
 unfold givesOf at hg
 unfold vgive
 by_cases hS:5≤x.op∧x.op≤20
 ·rw[if_pos hS] at hg
  by_cases h56:x.op=5∨x.op=6
  ·rw[if_neg (by omega),if_neg (by omega),if_pos h56]
   by_cases h5:x.op=5
   ·rw[h5] at hg;simp[signOut] at hg
   ·have h6:x.op=6:=by omega
    rw[h6]
    show Ar.oneV 6 _=0∨Ar.oneV 6 _=1
    simp only[Ar.oneV]
    exact flag_two _
  ·rw[if_neg (by omega),if_neg (by omega),if_neg h56,if_neg (by omega),if_neg (by omega),if_neg (by omega)]
   have h12:12≤x.op:=by
    unfold signOut at hg
    split at hg
    ·omega
    ·split at hg<;>omega
   unfold Ar.doV
   rw[if_neg (by omega),if_neg (by omega),if_neg (by omega),if_neg (by omega),if_neg (by omega)]
   split
   ·exact flag_two _
   ·rw[if_pos (by omega)];exact flag_two _
 ·rw[if_neg hS] at hg ht
  by_cases h12:x.op=1∨x.op=2
  ·rw[if_pos h12]
   rw[if_pos (by omega)] at hg
   rw[if_pos hg] at ht
   exact ht
  ·rw[if_neg h12]
   rw[if_neg (by omega)] at hg
   by_cases h3:x.op=3
   ·rw[if_pos h3]
    rw[if_pos h3] at hg
    exact h.taken2 hg
   ·rw[if_neg h3,if_neg (by omega)]
    rw[if_neg h3] at hg
    by_cases h27:x.op=27
    ·rw[if_pos h27]
     rw[if_pos h27] at hg
     rw[if_neg (by omega),if_neg (by omega),if_pos h27] at ht
     split
     ·exact h.taken2 hg
     ·exact h.taken2 (by rw[ht.2.2];exact hg)
    ·rw[if_neg h27]
     rw[if_neg h27] at hg
     by_cases h21:x.op=21
     ·rw[if_pos h21]
      have hk:=hs.k21 (.inl h21)
      obtain ⟨n,hn⟩:=Int.eq_ofNat_of_zero_le hk.1
      have hty:(types p.cells).length=p.cells.length:=by simp[types]
      rw[if_pos ⟨h21,by unfold has;rw[hty];exact hk⟩] at hg
      rw[hn] at hg⊢
      exact hc.2 n (by omega) hg
     ·rw[if_neg h21]
      rw[if_neg (fun g=>h21 g.1)] at hg
      have h28:x.op=28:=by omega
      rw[if_pos h28]
      have hk:=hs.k28 h28
      obtain ⟨n,hn⟩:=Int.eq_ofNat_of_zero_le hk.1
      rw[if_pos ⟨h28,hk⟩] at hg
      rw[hn] at hg⊢
      exact hi.2 n (by omega) hg
theorem TI.step (hr:rightOk p) (hx:p.code[i]? =some x) (hc:machFits p cells) (hi:insFit p.ins inn) (hcI:AllIn cells) (hiI:AllIn inn) (hk:In x.k) (h:TI p i s):TI p (i+1) (texec cells inn s x):=by
 have hs:=right_safe hr hx
 have hR:=hr.2.1 i x hx
 have hm:=hr.1
 have hP:=h.pass hr hx
 obtain ⟨na,hna⟩:=Int.eq_ofNat_of_zero_le hs.a.1
 have hal:=hs.a.2
 unfold texec setI
 by_cases h29:x.op=29
 ·rw[if_pos h29]
  have ht:=hR.1
  unfold takesOk at ht
  rw[if_neg (by omega),if_neg (by omega),if_neg (by omega),if_neg (by omega),if_pos h29] at ht
  obtain ⟨nk,hnk⟩:=Int.eq_ofNat_of_zero_le ht.1.1
  refine ⟨hP.rlen,hP.nlen,by simpa using hP.olen,hP.rin,hP.nin,hP.oin.set _ (h.rin.get _),hP.k0,hP.k2,hP.nfit,fun j hj h2=>?_⟩
  show getI (s.out.set x.k.toNat (getI s.regs x.a)) j=0∨_
  rw[hnk,Int.toNat_natCast]
  by_cases e:nk=j
  ·subst e
   rw[getI_set_same (by rw[h.olen];exact hj)]
   exact h.taken2 (by rw[ht.2,hnk];exact h2)
  ·rw[getI_set_ne e]
   exact hP.ofit j hj h2
 ·rw[if_neg h29]
  by_cases h32:x.op=32
  ·rw[if_pos h32]
   have ht:=hR.1
   unfold takesOk at ht
   rw[if_neg (by omega),if_neg (by omega),if_neg (by omega),if_neg (by omega),if_neg (by omega),if_pos h32] at ht
   obtain ⟨nk,hnk⟩:=Int.eq_ofNat_of_zero_le ht.1.1
   refine ⟨hP.rlen,by simpa using hP.nlen,hP.olen,hP.rin,hP.nin.set _ (h.rin.get _),hP.oin,hP.k0,hP.k2,fun j hj h2=>?_,hP.ofit⟩
   show getI (s.next.set x.k.toNat (getI s.regs x.a)) j=0∨_
   rw[hnk,Int.toNat_natCast]
   by_cases e:nk=j
   ·subst e
    rw[getI_set_same (by rw[h.nlen];exact hj)]
    exact h.taken2 (by rw[ht.2,hnk];exact h2)
   ·rw[getI_set_ne e]
    exact hP.nfit j hj h2
  ·rw[if_neg h32]
   by_cases h30:x.op=30∨x.op=31
   ·rw[if_pos h30];exact hP
   ·rw[if_neg h30]
    have hop:x.op<29:=by have:=hs.op;omega
    have hg:=(hR.2.1 hop).2
    refine ⟨by simpa using hP.rlen,hP.nlen,hP.olen,hP.rin.set _ (give_in h hcI hiI hk),hP.nin,hP.oin,fun r hr' hk=>?_,fun r hr' hk=>?_,hP.nfit,hP.ofit⟩
    ·show getI (s.regs.set x.a.toNat (vgive cells inn s.regs x)) r=0
     rw[pairs_succ hx] at hk
     rw[hna,Int.toNat_natCast]
     by_cases e:na=r
     ·subst e
      rw[kindAcc_zero hop hna 0 (by rw[←hna];exact hg.1)] at hk
      have:=hg.2
      omega
     ·rw[kindAcc_other (.inr (by omega))] at hk
      rw[getI_set_ne e]
      exact h.k0 r hr' hk
    ·show getI (s.regs.set x.a.toNat (vgive cells inn s.regs x)) r=0∨getI (s.regs.set x.a.toNat (vgive cells inn s.regs x)) r=1
     rw[pairs_succ hx] at hk
     rw[hna,Int.toNat_natCast]
     by_cases e:na=r
     ·subst e
      rw[kindAcc_zero hop hna 0 (by rw[←hna];exact hg.1)] at hk
      rw[getI_set_same (by rw[h.rlen];exact hr')]
      exact give_two hr hx h hc hi hop hk
     ·rw[kindAcc_other (.inr (by omega))] at hk
      rw[getI_set_ne e]
      exact h.k2 r hr' hk
def codeIn (p:Pg):Prop:=∀x∈p.code,In x.k
theorem trun_inv (hr:rightOk p) (hc:machFits p cells) (hi:insFit p.ins inn) (hcI:AllIn cells) (hiI:AllIn inn) (hk:codeIn p):
  ∀(n i over:Nat) (s:Tk),p.code.length=i+n→TI p i s→TI p p.code.length (trun cells inn (p.code.drop i) over s).1
 |0,i,over,s,hn,h=>by
  rw[List.drop_eq_nil_of_le (by omega),show trun cells inn [] over s=(s,0) by cases over<;>rfl,hn]
  exact h
 |n+1,i,over,s,hn,h=>by
  have hil:i<p.code.length:=by omega
  have hx:p.code[i]? =some p.code[i]:=List.getElem?_eq_getElem hil
  rw[List.drop_eq_getElem_cons hil]
  cases over with
  |zero=>exact trun_inv hr hc hi hcI hiI hk n (i+1) _ _ (by omega) (h.step hr hx hc hi hcI hiI (hk _ (List.getElem_mem hil)))
  |succ over=>exact trun_inv hr hc hi hcI hiI hk n (i+1) over s (by omega) (h.pass hr hx)
end
def tk0 (p:Pg) (cells:List Int):Tk:=⟨List.replicate p.regs.toNat 0,cells,List.replicate p.outs.length 0⟩
def tick (p:Pg) (cells inn:List Int):Tk × Nat:=trun cells inn p.code 0 (tk0 p cells)
theorem in_zero:In 0:=by unfold In;omega
theorem tk0_inv {p:Pg} {cells:List Int} (hc:machFits p cells) (hcI:AllIn cells):TI p 0 (tk0 p cells):=by
 have hz:∀(n:Nat) (r:Int),getI (List.replicate n 0) r=0:=fun n r=>by
  unfold getI
  rw[List.getD_eq_getElem?_getD,List.getElem?_replicate]
  split<;>rfl
 refine ⟨by simp[tk0],hc.1,by simp[tk0],fun v hv=>?_,hcI,fun v hv=>?_,fun r _ _=>hz _ _,fun r _ _=> .inl (hz _ _),hc.2,fun j _ _=> .inl (hz _ _)⟩
 ·rw[(List.mem_replicate.1 hv).2];exact in_zero
 ·rw[(List.mem_replicate.1 hv).2];exact in_zero
theorem tick_inv {p:Pg} {cells inn:List Int} (hr:rightOk p) (hc:machFits p cells) (hi:insFit p.ins inn) (hcI:AllIn cells) (hiI:AllIn inn) (hk:codeIn p):TI p p.code.length (tick p cells inn).1:=by
 have:=trun_inv hr hc hi hcI hiI hk p.code.length 0 0 (tk0 p cells) (by omega) (tk0_inv hc hcI)
 rwa [List.drop_zero] at this
def firstZ (p:Pg):List Int:=p.cells.map (·.2)
theorem first_fits {p:Pg} (hm:mayOk p):machFits p (firstZ p):=by
 refine ⟨by simp[firstZ],fun j hj h2=>?_⟩
 have hv:=hm.1 p.cells[j] (List.getElem_mem hj)
 have e1:getI (types p.cells) j=p.cells[j].1:=by simp[getI,types,List.getD_eq_getElem?_getD,hj]
 have e2:getI (firstZ p) j=p.cells[j].2:=by simp[getI,firstZ,List.getD_eq_getElem?_getD,hj]
 rw[e1] at h2
 rw[e2]
 unfold valueOk at hv
 omega
end Go.Proofs.YtbjaejgechadpaaGreat.Vf
namespace Go.Proofs.YtbjaejgechadpaaGreat
open Go.RowKit Vf
attribute [local go_sem ↓] Go.wp_at_zero Go.wp_at_succ
def FirstIs (l:List Int) (w:World) (e:Ending) (w':World):Prop:=∃v',e= .returned v'∧w'.ownsRow w.heap.size 3 1 v' l.length (ints l)∧Below w.heap.size w w'
theorem take_snoc {α:Type} {l:List α} {k:Nat} {x:α} (h:l[k]? =some x):l.take (k+1)=l.take k++ [x]:=by
 obtain ⟨hl,e⟩:=List.getElem?_eq_some_iff.1 h
 rw[List.take_succ_eq_append_getElem hl,e]
theorem getI_some {l:List Int} {k:Nat} {x:Int} (h:l[k]? =some x):getI l k=x:=by simp[getI,List.getD_eq_getElem?_getD,h]
theorem types_some {p:Pg} {k:Nat} {c:Int × Int} (h:p.cells[k]? =some c):getI (types p.cells) k=c.1:=by simp[getI,types,List.getD_eq_getElem?_getD,h]
end Go.Proofs.YtbjaejgechadpaaGreat
namespace Go.Proofs.YtbjaejgechadpaaGreat
open Go.RowKit Vf
attribute [local go_sem ↓] Go.wp_at_zero Go.wp_at_succ
theorem results_tmp4 {fn:Func} {t u v x:Tmp} (h:fn.results= #[.tmp t,.tmp u,.tmp v,.tmp x]) (tmps:Array Value) (P:Program) (w:World):
  (results fn tmps).run P w= .ok (.tuple #[tmps.getD t undef,tmps.getD u undef,tmps.getD v undef,tmps.getD x undef]) w:=by simp[results,h]
theorem fits_ins {ts vs:List Int} (h:fitsOk ts vs):insFit ts vs:=⟨h.2.1,fun j hj h2=>by
 have hv:j<vs.length:=by rw[h.2.1];exact hj
 have e1:getI ts j=ts[j]:=getI_some (List.getElem?_eq_getElem hj)
 have e2:getI vs j=vs[j]:=getI_some (List.getElem?_eq_getElem hv)
 rw[e2]
 exact h.2.2 j _ _ (List.getElem?_eq_getElem hj) (List.getElem?_eq_getElem hv) (e1.symm.trans h2)⟩
theorem wf_In {n:Int} (h:Wf n):Z.In n:=h.le
theorem slv_in {w:World} {B:Nat} {v:Value} {l:List Int} (h:SlV w B 1 isInt v l):AllIn l:=by
 obtain ⟨A,c,_,_,_,s⟩:=h
 exact s.all (fun x cs h=>wf_In h.2)
theorem pg_in {w:World} {B:Nat} {p:Pg} {vi vo vc vd:Value} (h:PgAt w B p vi vo vc vd):codeIn p:=by
 obtain ⟨A,c,_,_,_,s⟩:=h.code
 exact s.all (fun x cs h=>wf_In h.2.k)
theorem tskip_in {p:Pg} {s:Tk} {i:Nat} {x:In5} (hs:Vf.Safe p i x) (hi:i<p.code.length):0≤tskip s x∧tskip s x≤(p.code.length:Int)-1-i:=by
 unfold tskip
 split
 ·rename_i h
  exact hs.k30 (by omega)
 ·omega
theorem in_Wf {n:Int} (h:Z.In n):Wf n:=wf_of h
theorem row_slvT {w:World} {O B:Nat} {l:List Int} {t:TypeId} (r:Row w O (l.map (Value.int .i64)).toArray t) (hB:O<B) (hl:l.length≤1600) (hi:AllIn l):SlV w B 1 isInt (.slice (some ⟨O,0,none⟩) l.length l.length) l:=by
 refine ⟨_,_,rfl,Nat.le_refl _,by unfold maxLen;omega,fun _=>⟨O,0,rfl,hB,fun i x hx=>⟨[.int .i64 x],fun j u hu=>?_,rfl,in_Wf (hi x (List.mem_of_getElem? hx))⟩⟩⟩
 match j,hu with
 |0,hu=>
  simp at hu
  rw[r.cell]
  simp[hx,hu]
theorem own_ints {w:World} {base:Nat} {e:TypeId} {v:Value} {n:Nat} {l:List Int} (h:w.ownsRow base e 1 v n (ints l)) (hi:AllIn l):SlV w w.heap.size 1 isInt v l:=by
 rw[←intC_flat] at h
 exact own_slv (rel:=isInt) h (fun x hx=>⟨rfl,in_Wf (hi x hx)⟩) intC_len (by decide)
end Go.Proofs.YtbjaejgechadpaaGreat
namespace Go.Proofs.YtbjaejgechadpaaGreat
open Go.RowKit Vf
attribute [local go_sem ↓] Go.wp_at_zero Go.wp_at_succ
set_option maxRecDepth 100000 in
set_option maxHeartbeats 2000000 in
theorem rfirst_any (p:Pg) (vi vo vc vd:Value) (w:World) (h:PgAt w w.heap.size p vi vo vc vd) (hl:p.cells.length≤100000):
  Calls Tryz.prog 13 #[pgV p vi vo vc vd] w (FirstIs (firstZ p) w):=by
 obtain ⟨⟨Ai,ci,rfl,_⟩,⟨Ao,co,rfl,_⟩,_,⟨Ac,cc,rfl,lc,mc,sc⟩,⟨Ad,cd,rfl,_⟩⟩:=h
 have mc':cc≤9223372036854775807:=by unfold maxLen at mc;omega
 have HF:=Lib.hid (show (firstZ p).length=p.cells.length by simp[firstZ])
 obtain ⟨i0,hi0,hz0,hz1,hz2⟩:=info_parts info_int
 go_enter Tryz.func13,Tryz.ntmps13
 go_wp2_with fail
 go_loopw[3,4] (fun v i wr=>∃k:Nat,k≤p.cells.length∧i= .int .i64 k∧wr.ownsRow (w.heap.size+1) 3 1 v k (ints ((firstZ p).take k))∧Below (w.heap.size+1) (w.alloc (.cells #[.slice Ai p.ins.length ci,.slice Ao p.outs.length co,.int .i64 p.regs,.slice Ac p.cells.length cc,.slice Ad p.code.length cd] 37)) wr) (fun _ i _=>p.cells.length-(intOf i).toNat)
 case atStart=>exact ⟨0,Nat.zero_le _,rfl,⟨by simp[ints],.inl ⟨rfl,rfl⟩⟩,by simpa using Below.refl _ _⟩
 case round=>
  obtain ⟨k,hk,rfl,hown,hbox⟩:=hrel
  obtain ⟨⟨q0,q1,q2,q3,q4⟩,hb,hsz⟩:=pgBox hbox
  by_cases hlt:k<p.cells.length
  ·obtain ⟨b,off,c,rfl,hbb,hck,wc1,wc2,d0,d1⟩:=(sc.below hb).cell hlt
   have HS:=Lib.hid (show ints ((firstZ p).take (k+1))=ints ((firstZ p).take k)++ [.int .i64 c.2] by
    rw[take_snoc (x:=c.2) (by simp[firstZ,hck]),ints_snoc])
   clear hck
   have hkl:(k:Int)<p.cells.length:=by omega
   generalize ints ((firstZ p).take k)=L at*
   go_wp2_with (at_builtin;refine wpList_append_own _ rfl _ _ 26 rfl (w.heap.size+1) 3 i0 (.int .i64 0) 1 8 Tryz.underlying26 hi0 hz0 hz1 hz2 rfl (by decide) _ _ _ rfl (hown.alloc _) ⟨wr.heap.size,0,none⟩ 1 1 [.int .i64 c.2] rfl rfl ?c1 ?c2 ?c3 ?c4 ?c5 ?_)
   case c1=>exact cell_one _ _ _
   case c2=>intro u hu;simp at hu;subst hu;rfl
   case c3=>unfold maxLen;omega
   case c4=>omega
   case c5=>simp;omega
   intro v' w1 hown1 hgrow _
   have HB:=Lib.hid (below_own (hbox.alloc hsz _) (hown.alloc _) hgrow (by simp;omega))
   have HO:=Lib.hid hown1
   clear hown hown1 hgrow
   go_wp2_with fail
   go_roundw
   case rel=>exact ⟨k+1,by omega,by go_num,by rw[HS.out];exact HO.out,HB.out⟩
   case measure=>simp[intOf];omega
  ·obtain rfl:k=p.cells.length:=by omega
   have HO:Hid (wr.ownsRow w.heap.size 3 1 u3 (firstZ p).length (ints (firstZ p))):=by
    rw[HF.out]
    have:=hown
    rw[←HF.out,List.take_length,HF.out] at this
    exact own_base this (by omega)
   clear hown
   go_wp2_with fail
   go_ret
   exact ⟨_,rfl,HO.out,hb⟩
def rAt (p:Pg) (cells:List Int) (j:Nat):Prop:=∀c v,p.cells[j]? =some c→cells[j]? =some v→valueOk c.1 v
theorem rAt_m {p:Pg} {cells:List Int} (hl:cells.length=p.cells.length) (h:∀j,j<cells.length→rAt p cells j):machFits p cells:=⟨hl,fun j hj h2=>by
 have hc:p.cells[j]? =some p.cells[j]:=List.getElem?_eq_getElem hj
 have hv:cells[j]? =some (cells[j]'(by omega)):=List.getElem?_eq_getElem (by omega)
 have:=h j (by omega) _ _ hc hv
 rw[types_some hc] at h2
 rw[getI_some hv]
 unfold valueOk at this
 omega⟩
theorem m_rAt {p:Pg} (hm:mayOk p) {cells:List Int} {k:Nat} {c:Int × Int} {v:Int} (hc:p.cells[k]? =some c) (hv:cells[k]? =some v) (h:¬valueOk c.1 v):¬machFits p cells:=fun g=>h (by
 have h1:=hm.1 c (List.mem_of_getElem? hc)
 have h2:=g.2 k (List.getElem?_eq_some_iff.1 hc).1
 rw[types_some hc,getI_some hv] at h2
 unfold valueOk at h1⊢
 omega)
set_option maxRecDepth 100000 in
set_option maxHeartbeats 2000000 in
theorem rfits29_any (p:Pg) (hm:mayOk p) (vi vo vc vd:Value) (w:World) (h:PgAt w w.heap.size p vi vo vc vd) (cells:List Int) (v:Value) (hv:SlV w w.heap.size 1 isInt v cells):
  Calls Tryz.prog 35 #[pgV p vi vo vc vd,v] w fun e w'=>e= .returned (.bool (cB (machFits p cells)))∧Below w.heap.size w w':=by
 obtain ⟨⟨Ai,ci,rfl,_⟩,⟨Ao,co,rfl,_⟩,_,⟨Ac,cc,rfl,lc,mc,sc⟩,⟨Ad,cd,rfl,_⟩⟩:=h
 obtain ⟨Av,cv,rfl,lv,mv,sv⟩:=hv
 have HM:=Lib.hid hm
 clear hm
 have mc':cc≤9223372036854775807:=by unfold maxLen at mc;omega
 have mv':cv≤9223372036854775807:=by unfold maxLen at mv;omega
 have b0:Below w.heap.size w (w.alloc (.cells #[.slice Ai p.ins.length ci,.slice Ao p.outs.length co,.int .i64 p.regs,.slice Ac p.cells.length cc,.slice Ad p.code.length cd] 37)):=(Below.refl _ _).alloc (Nat.le_refl _) _
 by_cases hl:cells.length=p.cells.length
 rotate_left 1
 ·have HF:=Lib.hid (cB_false (fun g:machFits p cells=>hl g.1))
  have hl':((cells.length:Int) !=(p.cells.length:Int))=true:=by rw[bne_iff_ne];omega
  clear hl
  go_enter Tryz.func35,Tryz.ntmps35
  go_wp2_with fail
  go_ret
  exact ⟨ret_bool HF.out.symm,b0⟩
 have hl':((cells.length:Int) !=(p.cells.length:Int))=false:=by rw[bne_eq_false_iff_eq];omega
 have HL:=Lib.hid hl
 have hle1:cells.length≤p.cells.length:=by omega
 clear hl b0
 go_enter Tryz.func35,Tryz.ntmps35
 go_wp2_with fail
 go_loopw[5] (fun i wr=>∃k:Nat,k≤cells.length∧i= .int .i64 k∧Hid (∀j,j<k→rAt p cells j)∧Below (w.heap.size+1) (w.alloc (.cells #[.slice Ai p.ins.length ci,.slice Ao p.outs.length co,.int .i64 p.regs,.slice Ac p.cells.length cc,.slice Ad p.code.length cd] 37)) wr) (fun i _=>cells.length-(intOf i).toNat)
 case atStart=>exact ⟨0,Nat.zero_le _,rfl,fun j h=>absurd h (by omega),by simpa using Below.refl _ _⟩
 case round=>
  obtain ⟨k,hk,rfl,HN,hbox⟩:=hrel
  obtain ⟨⟨q0,q1,q2,q3,q4⟩,hb,hsz⟩:=pgBox hbox
  by_cases hlt:k<cells.length
  ·obtain ⟨b,off,c,rfl,hbb,hck,wc1,wc2,d0,d1⟩:=(sc.below hb).cell (show k<p.cells.length by omega)
   obtain ⟨b2,off2,u,rfl,hbb2,huk,wu,e0⟩:=(sv.below hb).int hlt
   have HCk:=Lib.hid hck
   have HUk:=Lib.hid huk
   clear hck huk
   have hk0:(0:Int)≤(k:Int):=by omega
   have hk1:(k:Int)<cells.length:=by omega
   have hk2:(k:Int)<p.cells.length:=by omega
   go_wp2_with fail
   go_quiet ((go_at_call 62;exact Calls.quiet_of_same (rvalue_any _ _ _)))
   generalize hV3:cB (valueOk c.1 u)=V at*
   have HV3:=Lib.hid hV3
   clear hV3
   cases V
   ·have HF:=Lib.hid (cB_false (m_rAt HM.out HCk.out HUk.out (cB_not.1 HV3.out)))
    go_wp2_with fail
    go_ret
    exact ⟨ret_bool HF.out.symm,below_drewN' hb _⟩
   ·have HN':=Lib.hid (upto_succ HN.out (show rAt p cells k from fun c' v' hc' hv'=>by rw[HCk.out] at hc';rw[HUk.out] at hv';injection hc' with hc';injection hv' with hv';rw[←hc',←hv'];exact cB_iff.1 HV3.out))
    go_wp2_with fail
    go_roundw
    case rel=>exact ⟨k+1,by omega,by go_num,HN',below_drewN' hbox _⟩
    case measure=>simp[intOf];omega
  ·obtain rfl:k=cells.length:=by omega
   have HF:=Lib.hid (cB_true (rAt_m HL.out HN.out))
   go_wp2_with fail
   go_ret
   exact ⟨ret_bool HF.out.symm,hb⟩
end Go.Proofs.YtbjaejgechadpaaGreat
