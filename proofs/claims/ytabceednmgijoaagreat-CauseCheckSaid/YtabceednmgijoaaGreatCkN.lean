/-
  What holds in a source whose names are right.
-/
import Derived.Test.YtabceednmgijoaaGreatScQ
namespace Go.Proofs.YtabceednmgijoaaGreat
/-- a node's names are all its own -/
structure NdKn (n : Nd) : Prop where
  rt : NdRt n
  conds : ∀ v ∈ n.vars, ∀ c ∈ v.clock, c.name ∈ nms (vrs n)
  lefts : ∀ q ∈ n.eqs, ∀ nm ∈ q.left, nm ∈ nms (vrs n)
  exprs : ∀ q ∈ n.eqs, ∀ x ∈ exList q.right, namesB x.op = true → x.name ∈ nms (vrs n)
theorem scope_rt {s : List Nd} (h : (scopeF s).err = 0) : SrcRt s := Classical.byContradiction fun g => by
  rw [scopeF_2 g] at h
  exact absurd h (by show ¬ (2 : Int) = 0; decide)
theorem scope_nodes {s : List Nd} (h : (scopeF s).err = 0) : ∀ n ∈ s, (variablesF n).err = 0 ∧ (equationsF s n).err = 0 := by
  have hr := scope_rt h
  rw [scopeF_rt hr] at h
  intro n hn
  obtain ⟨i, hi⟩ := List.getElem?_of_mem hn
  exact ft2_ok (fstL_ok (ft2_ok (ft2_ok h).2).1 i n hi)
theorem eqn_ok {s : List Nd} {n : Nd} (h : (equationsF s n).err = 0) : ∀ (i : Nat) q, n.eqs[i]? = some q → (leftF n (metTo n i) q).err = 0 ∧ (exprF s n q.left.length q.right).err = 0 := fun i q hq =>
  ft2_ok (fstL_ok (ft2_ok h).1 i q hq)
theorem expr_ok {s : List Nd} {n : Nd} {outs : Int} {e : Ex} (h : (exprF s n outs e).err = 0) : ∀ (i : Nat) x, (exList e)[i]? = some x → (oneF s n (if i = 0 then outs else 1) x).err = 0 := by
  rw [← exprF_list] at h
  exact fstL_ok h
theorem one_name {s : List Nd} {n : Nd} {outs : Int} {x : Ex} (h : (oneF s n outs x).err = 0) (hb : namesB x.op = true) : x.name ∈ nms (vrs n) := Classical.byContradiction fun g => by
  unfold oneF at h
  rw [if_pos hb, if_pos g] at h
  exact absurd h (by show ¬ (24 : Int) = 0; decide)
theorem scope_kn {s : List Nd} (h : (scopeF s).err = 0) : ∀ n ∈ s, NdKn n := by
  intro n hn
  obtain ⟨hv, he⟩ := scope_nodes h n hn
  refine ⟨(scope_rt h).1 n hn, fun v hvm c hc => ?_, fun q hq nm hnm => ?_, fun q hq x hx hb => ?_⟩
  · obtain ⟨i, hi⟩ := List.getElem?_of_mem hvm
    obtain ⟨j, hj⟩ := List.getElem?_of_mem hc
    have h1 : (condF n v j c).err = 0 := fstL_ok (f := condF n v) (fstL_ok (f := clkF n) (ft2_ok hv).2 i v hi) j c hj
    refine Classical.byContradiction fun g => ?_
    unfold condF at h1
    rw [if_pos g] at h1
    exact absurd h1 (by show ¬ (24 : Int) = 0; decide)
  · obtain ⟨i, hi⟩ := List.getElem?_of_mem hq
    obtain ⟨j, hj⟩ := List.getElem?_of_mem hnm
    have h1 := fstL_ok (ft2_ok (eqn_ok he i q hi).1).1 j nm hj
    refine Classical.byContradiction fun g => ?_
    unfold leftNF at h1
    rw [if_pos g] at h1
    exact absurd h1 (by show ¬ (24 : Int) = 0; decide)
  · obtain ⟨i, hi⟩ := List.getElem?_of_mem hq
    obtain ⟨j, hj⟩ := List.getElem?_of_mem hx
    exact one_name (expr_ok (eqn_ok he i q hi).2 j x hj) hb
end Go.Proofs.YtabceednmgijoaaGreat
