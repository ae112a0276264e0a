/-
  What is wrong first with clocks, plain; what holds in a source whose names are right.
-/
import Derived.Test.YtolabbnchmmckaaScQ
import Derived.Test.YtolabbnchmmckaaClkE
import Derived.Test.YtolabbnchmmckaaClkF
namespace Go.Proofs.Ytolabbnchmmckaa
/-- a node's names are all its own -/
structure NdKn (n : Nd) : Prop where
  rt : NdRt n
  conds : ∀ v ∈ n.vars, ∀ c ∈ v.clock, c.name ∈ nms (vrs n)
  lefts : ∀ q ∈ n.eqs, ∀ nm ∈ q.left, nm ∈ nms (vrs n)
  exprs : ∀ q ∈ n.eqs, ∀ x ∈ exList q.right, namesB x.op = true → x.name ∈ nms (vrs n)
theorem scope_rt {s : List Nd} (h : (scopeF s).err = 0) : SrcRt s := Classical.byContradiction fun g => by
  rw [scopeF_2 g] at h
  exact absurd h (by show ¬ (2 : Int) = 0; decide)
theorem scope_nodes {s : List Nd} (h : (scopeF s).err = 0) : ∀ n ∈ s, (variablesF n).err = 0 ∧ (equationsF s n).err = 0 := by
  have hr := scope_rt h
  rw [scopeF_rt hr] at h
  intro n hn
  obtain ⟨i, hi⟩ := List.getElem?_of_mem hn
  exact ft2_ok (fstL_ok (ft2_ok (ft2_ok h).2).1 i n hi)
theorem eqn_ok {s : List Nd} {n : Nd} (h : (equationsF s n).err = 0) : ∀ (i : Nat) q, n.eqs[i]? = some q → (leftF n (metTo n i) q).err = 0 ∧ (exprF s n q.left.length q.right).err = 0 := fun i q hq =>
  ft2_ok (fstL_ok (ft2_ok h).1 i q hq)
theorem expr_ok {s : List Nd} {n : Nd} {outs : Int} {e : Ex} (h : (exprF s n outs e).err = 0) : ∀ (i : Nat) x, (exList e)[i]? = some x → (oneF s n (if i = 0 then outs else 1) x).err = 0 := by
  rw [← exprF_list] at h
  exact fstL_ok h
theorem one_name {s : List Nd} {n : Nd} {outs : Int} {x : Ex} (h : (oneF s n outs x).err = 0) (hb : namesB x.op = true) : x.name ∈ nms (vrs n) := Classical.byContradiction fun g => by
  unfold oneF at h
  rw [if_pos hb, if_pos g] at h
  exact absurd h (by show ¬ (24 : Int) = 0; decide)
theorem scope_kn {s : List Nd} (h : (scopeF s).err = 0) : ∀ n ∈ s, NdKn n := by
  intro n hn
  obtain ⟨hv, he⟩ := scope_nodes h n hn
  refine ⟨(scope_rt h).1 n hn, fun v hvm c hc => ?_, fun q hq nm hnm => ?_, fun q hq x hx hb => ?_⟩
  · obtain ⟨i, hi⟩ := List.getElem?_of_mem hvm
    obtain ⟨j, hj⟩ := List.getElem?_of_mem hc
    have h1 : (condF n v j c).err = 0 := fstL_ok (f := condF n v) (fstL_ok (f := clkF n) (ft2_ok hv).2 i v hi) j c hj
    refine Classical.byContradiction fun g => ?_
    unfold condF at h1
    rw [if_pos g] at h1
    exact absurd h1 (by show ¬ (24 : Int) = 0; decide)
  · obtain ⟨i, hi⟩ := List.getElem?_of_mem hq
    obtain ⟨j, hj⟩ := List.getElem?_of_mem hnm
    have h1 := fstL_ok (ft2_ok (eqn_ok he i q hi).1).1 j nm hj
    refine Classical.byContradiction fun g => ?_
    unfold leftNF at h1
    rw [if_pos g] at h1
    exact absurd h1 (by show ¬ (24 : Int) = 0; decide)
  · obtain ⟨i, hi⟩ := List.getElem?_of_mem hq
    obtain ⟨j, hj⟩ := List.getElem?_of_mem hx
    exact one_name (expr_ok (eqn_ok he i q hi).2 j x hj) hb
theorem kn_args {n : Nd} (h : NdKn n) {q : Eqn} (hq : q ∈ n.eqs) : ∀ x ∈ exList q.right, ArgsOk x := by
  have hr := (h.rt.1 q hq).2.2.2
  simp only [exRight, Bool.and_eq_true, List.all_eq_true] at hr
  exact fun x hx => args_of_plain (hr.1 x hx)
theorem kn_known {n : Nd} (h : NdKn n) {q : Eqn} (hq : q ∈ n.eqs) : ∀ x ∈ exList q.right, Known n x := fun x hx =>
  ⟨kn_args h hq x hx, fun ho => var_mem.2 (h.exprs q hq x hx (by simp only [namesB, decide_eq_true_eq]; omega))⟩

/-! ### clocks -/
def RightClk (n : Nd) (clock : List Lt) : Prop := ∀ (i : Nat) l, clock[i]? = some l → clockOf n l.name = clock.take i
open Classical in
noncomputable def clkVF (n : Nd) (_ : Nat) (v : Vr) : Ft := if ¬ RightClk n v.clock then ⟨30, v.line, v.col⟩ else ft0
/-- the clock of an equation -/
noncomputable def eqClk (n : Nd) (q : Eqn) : List Lt := clockOf n (q.left.headD ⟨#[]⟩)
open Classical in
noncomputable def clkQF (n : Nd) (_ : Nat) (q : Eqn) : Ft := if ∃ nm ∈ q.left, clockOf n nm ≠ eqClk n q then ⟨30, q.line, q.col⟩ else fitsP n q.right (eqClk n q)
noncomputable def clkNF (_ : Nat) (n : Nd) : Ft := ft2 (fstL (clkVF n) n.vars) (fstL (clkQF n) n.eqs)
noncomputable def clockF (s : List Nd) : Ft := ft2 (scopeF s) (fstL clkNF s)
theorem clkVF_yes {n : Nd} {i : Nat} {v : Vr} (h : RightClk n v.clock) : clkVF n i v = ft0 := if_neg (fun g => g h)
theorem clkVF_no {n : Nd} {i : Nat} {v : Vr} (h : ¬ RightClk n v.clock) : clkVF n i v = ⟨30, v.line, v.col⟩ := if_pos h
theorem clkQF_bad {n : Nd} {i : Nat} {q : Eqn} {nm : ByteArray} (h : nm ∈ q.left) (h' : clockOf n nm ≠ eqClk n q) : clkQF n i q = ⟨30, q.line, q.col⟩ := if_pos ⟨nm, h, h'⟩
theorem clkQF_ok {n : Nd} {i : Nat} {q : Eqn} (h : ∀ nm ∈ q.left, clockOf n nm = eqClk n q) : clkQF n i q = fitsP n q.right (eqClk n q) := if_neg (fun ⟨nm, hm, g⟩ => g (h nm hm))
theorem eqClk_head {n : Nd} {q : Eqn} {nm : ByteArray} (h : q.left[0]? = some nm) : eqClk n q = clockOf n nm := by
  unfold eqClk
  cases hq : q.left with
  | nil => rw [hq] at h; simp at h
  | cons a l => rw [hq] at h; simp at h; subst h; rfl
theorem clkNF_zero {n : Nd} {i : Nat} (h : (clkNF i n).err = 0) : clkNF i n = ft0 := by
  unfold clkNF at h ⊢
  obtain ⟨h1, h2⟩ := ft2_ok h
  rw [ft2_0 h1]
  exact fstL_zero h2
end Go.Proofs.Ytolabbnchmmckaa
