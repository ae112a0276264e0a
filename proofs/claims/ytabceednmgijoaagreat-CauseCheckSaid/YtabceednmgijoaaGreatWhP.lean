/-
  In a source with nothing wrong each name is somebody's: plain.
-/
import Derived.Test.YtabceednmgijoaaGreatCkN
namespace Go.Proofs.YtabceednmgijoaaGreat
theorem nodup_le {α : Type} : ∀ {l m : List α}, (∀ (i j : Nat) (x : α), l[i]? = some x → l[j]? = some x → i = j) → (∀ x ∈ l, x ∈ m) → l.length ≤ m.length
  | [], _, _, _ => Nat.zero_le _
  | a :: l, m, hd, hs => by
    obtain ⟨m1, m2, rfl⟩ := List.append_of_mem (hs a (by simp))
    have h := nodup_le (l := l) (m := m1 ++ m2) (fun i j x hi hj => by
      have := hd (i + 1) (j + 1) x (by simpa using hi) (by simpa using hj)
      omega) (fun x hx => by
      have hne : x ≠ a := fun e => by
        subst e
        obtain ⟨i, hi⟩ := List.getElem?_of_mem hx
        have := hd 0 (i + 1) x rfl (by simpa using hi)
        omega
      have := hs x (by simp [hx])
      simp only [List.mem_append, List.mem_cons] at this ⊢
      rcases this with h | h | h
      · exact .inl h
      · exact absurd h hne
      · exact .inr h)
    simp only [List.length_cons, List.length_append] at h ⊢
    omega
/-- no name stands twice -/
def Once (l : List ByteArray) : Prop := ∀ (i j : Nat) x, l[i]? = some x → l[j]? = some x → i = j
theorem once_of {l : List ByteArray} (h : ∀ (i : Nat) x, l[i]? = some x → x ∉ l.take i) : Once l := fun i j x hi hj => by
  rcases Nat.lt_trichotomy i j with g | g | g
  · exact absurd (mem_take.2 ⟨i, g, hi⟩) (h j x hj)
  · exact g
  · exact absurd (mem_take.2 ⟨j, g, hj⟩) (h i x hi)
theorem lefts_at {l : List Eqn} : ∀ {p : Nat} {nm : ByteArray}, (lefts l)[p]? = some nm → ∃ (i k : Nat) (q : Eqn), l[i]? = some q ∧ q.left[k]? = some nm ∧ ∀ x, x ∈ (lefts l).take p ↔ x ∈ lefts (l.take i) ++ q.left.take k := by
  induction l with
  | nil => intro p nm h; simp [lefts] at h
  | cons q l ih =>
    intro p nm h
    have e : lefts (q :: l) = q.left ++ lefts l := by simp [lefts]
    rw [e] at h ⊢
    rcases Nat.lt_or_ge p q.left.length with hp | hp
    · rw [List.getElem?_append_left hp] at h
      refine ⟨0, p, q, rfl, h, fun x => ?_⟩
      rw [List.take_append_of_le_length (by omega)]
      simp [lefts]
    · rw [List.getElem?_append_right hp] at h
      obtain ⟨i, k, q', h1, h2, h3⟩ := ih h
      refine ⟨i + 1, k, q', h1, h2, fun x => ?_⟩
      rw [List.take_append, List.take_of_length_le hp, List.mem_append, h3]
      have e2 : lefts ((q :: l).take (i + 1)) = q.left ++ lefts (l.take i) := by simp [lefts]
      rw [e2]
      simp only [List.mem_append]
      constructor
      · rintro (h | h | h)
        · exact .inl (.inl h)
        · exact .inl (.inr h)
        · exact .inr h
      · rintro ((h | h) | h)
        · exact .inl h
        · exact .inr (.inl h)
        · exact .inr (.inr h)
section
variable {s : List Nd} {n : Nd}
theorem vars_once (hv : (variablesF n).err = 0) : Once (nms (vrs n)) := once_of fun i x hx => by
  rw [List.getElem?_map, Option.map_eq_some_iff] at hx
  obtain ⟨v, hvi, rfl⟩ := hx
  have h := fstL_ok (f := varF n) (ft2_ok hv).1 i v hvi
  intro g
  unfold varF at h
  rw [if_pos g] at h
  exact absurd h (by show ¬ (23 : Int) = 0; decide)
theorem ports_bare (hv : (variablesF n).err = 0) {i : Nat} {v : Vr} (hi : (vrs n)[i]? = some v) (hp : i < n.ins.length + n.outs.length) : v.clock = [] := by
  have h := fstL_ok (f := varF n) (ft2_ok hv).1 i v hi
  unfold varF at h
  split at h
  · exact absurd h (by show ¬ (23 : Int) = 0; decide)
  · split at h
    · exact absurd h (by show ¬ (30 : Int) = 0; decide)
    · rename_i g
      exact List.eq_nil_of_length_eq_zero (by
        rcases Nat.eq_zero_or_pos v.clock.length with g0 | g0
        · exact g0
        · exact absurd ⟨hp, g0⟩ g)
theorem left_new (he : (equationsF s n).err = 0) {i k : Nat} {q : Eqn} {nm : ByteArray} (hq : n.eqs[i]? = some q) (hk : q.left[k]? = some nm) : nm ∈ nms (vrs n) ∧ nm ∉ metTo n i ++ q.left.take k := by
  have h := fstL_ok (f := leftNF n (metTo n i) q) (ft2_ok (eqn_ok he i q hq).1).1 k nm hk
  unfold leftNF at h
  split at h
  · exact absurd h (by show ¬ (24 : Int) = 0; decide)
  · rename_i g1
    split at h
    · exact absurd h (by show ¬ (23 : Int) = 0; decide)
    · rename_i g2
      exact ⟨Classical.not_not.1 g1, g2⟩
theorem lefts_once (he : (equationsF s n).err = 0) : Once (lefts n.eqs) := once_of fun p x hx => by
  obtain ⟨i, k, q, h1, h2, h3⟩ := lefts_at hx
  rw [h3]
  have h := (left_new he h1 h2).2
  intro g
  refine h ?_
  unfold metTo
  rw [List.append_assoc]
  exact List.mem_append_right _ g
theorem lefts_mem (he : (equationsF s n).err = 0) : ∀ x ∈ lefts n.eqs, x ∈ nms (vrs n) ∧ x ∉ nms n.ins := fun x hx => by
  obtain ⟨p, hp⟩ := List.getElem?_of_mem hx
  obtain ⟨i, k, q, h1, h2, _⟩ := lefts_at hp
  have h := left_new he h1 h2
  exact ⟨h.1, fun g => h.2 (List.mem_append_left _ (List.mem_append_left _ g))⟩
theorem nms_vrs (n : Nd) : nms (vrs n) = nms n.ins ++ nms (n.outs ++ n.vars) := by
  simp [vrs, nms]
theorem outs_def (he : (equationsF s n).err = 0) : ∀ v ∈ n.outs ++ n.vars, v.name ∈ metTo n n.eqs.length := fun v hv => by
  obtain ⟨i, hi⟩ := List.getElem?_of_mem hv
  have h := fstL_ok (f := defF n) (ft2_ok he).2 i v hi
  refine Classical.byContradiction fun g => ?_
  unfold defF at h
  rw [if_pos g] at h
  exact absurd h (by show ¬ (26 : Int) = 0; decide)
theorem ins_not (hv : (variablesF n).err = 0) {i : Nat} {v : Vr} (hi : (vrs n)[i]? = some v) (hp : n.ins.length ≤ i) : v.name ∉ nms n.ins := fun g => by
  obtain ⟨j, hj⟩ := List.getElem?_of_mem g
  have h1 : (nms (vrs n))[j]? = some v.name := by
    rw [nms_vrs, List.getElem?_append_left (List.getElem?_eq_some_iff.1 hj).1]; exact hj
  have h2 : (nms (vrs n))[i]? = some v.name := map_get Vr.name hi
  have := vars_once hv j i _ h1 h2
  have := (List.getElem?_eq_some_iff.1 hj).1
  simp at this
  omega
theorem def_iff2 (hv : (variablesF n).err = 0) (he : (equationsF s n).err = 0) {i : Nat} {v : Vr} (hi : (vrs n)[i]? = some v) : v.name ∈ lefts n.eqs ↔ n.ins.length ≤ i := by
  constructor
  · intro g
    refine Classical.byContradiction fun hlt => ?_
    have hlt : i < n.ins.length := by omega
    have h1 : v ∈ n.ins := by
      rw [vrs, List.append_assoc, List.getElem?_append_left hlt] at hi
      exact List.mem_of_getElem? hi
    exact (lefts_mem he _ g).2 (List.mem_map_of_mem h1)
  · intro g
    have h1 : v ∈ n.outs ++ n.vars := by
      rw [vrs, List.append_assoc, List.getElem?_append_right g] at hi
      exact List.mem_of_getElem? hi
    have h2 := outs_def he v h1
    unfold metTo at h2
    rw [List.take_length] at h2
    rcases List.mem_append.1 h2 with h | h
    · exact absurd h (ins_not hv hi g)
    · exact h
theorem times_is (hv : (variablesF n).err = 0) (he : (equationsF s n).err = 0) : (lefts n.eqs).length = n.outs.length + n.vars.length := by
  have e : n.outs.length + n.vars.length = (nms (n.outs ++ n.vars)).length := by simp
  have ho : Once (nms (n.outs ++ n.vars)) := fun i j x hi hj => by
    have h := vars_once hv (n.ins.length + i) (n.ins.length + j) x
    rw [nms_vrs, List.getElem?_append_right (by simp), List.getElem?_append_right (by simp)] at h
    have := h (by simpa using hi) (by simpa using hj)
    omega
  rw [e]
  refine Nat.le_antisymm (nodup_le (lefts_once he) fun x hx => ?_) (nodup_le ho fun x hx => ?_)
  · have h := lefts_mem he x hx
    rw [nms_vrs] at h
    exact (List.mem_append.1 h.1).resolve_left h.2
  · obtain ⟨v, hvm, rfl⟩ := List.mem_map.1 hx
    obtain ⟨i, hi⟩ := List.getElem?_of_mem hvm
    exact (def_iff2 hv he (i := n.ins.length + i) (by rw [← vrs_drop]; exact hi)).2 (by omega)
theorem var_at (hv : (variablesF n).err = 0) {i : Nat} {v : Vr} (hi : (vrs n)[i]? = some v) : varIdx n v.name = i := by
  rcases idx_cases (nms (vrs n)) v.name with ⟨k, h1, h2, _⟩ | ⟨_, h2⟩
  · have := vars_once hv k i _ h2 (map_get Vr.name hi)
    rw [← this]; exact h1
  · exact absurd (List.mem_of_getElem? (map_get Vr.name hi)) h2
theorem call_ok {outs : Int} {x : Ex} (h : (oneF s n outs x).err = 0) (h4 : x.op = 4) : ∃ m, nodeAt s x.name = some m ∧ m.ins.length = x.args.length := by
  unfold oneF at h
  rw [if_neg (by rw [h4]; decide), if_pos h4] at h
  cases hm : nodeAt s x.name with
  | none => rw [hm] at h; exact absurd h (by show ¬ (24 : Int) = 0; decide)
  | some m =>
    rw [hm] at h
    simp only at h
    refine ⟨m, rfl, Classical.byContradiction fun g => ?_⟩
    rw [if_pos (.inl g)] at h
    exact absurd h (by show ¬ (25 : Int) = 0; decide)
end
theorem main_ok {s : List Nd} (h : (scopeF s).err = 0) : mainNm ∈ s.map Nd.name := Classical.byContradiction fun g => by
  have hr := scope_rt h
  rw [scopeF_rt hr] at h
  have h2 := (ft2_ok (ft2_ok h).2).2
  unfold mainF at h2
  rw [if_pos g] at h2
  exact absurd h2 (by show ¬ (27 : Int) = 0; decide)
theorem conds_all {s : List Nd} (h : (scopeF s).err = 0) {n : Nd} (hn : n ∈ s) {i : Nat} {v : Vr} (hi : (vrs n)[i]? = some v) : ∀ c ∈ v.clock, c.name ∈ nms (vrs n) := by
  have hv := (scope_nodes h n hn).1
  by_cases hp : i < n.ins.length + n.outs.length
  · rw [ports_bare hv hi hp]; intro c hc; cases hc
  · have hm : v ∈ n.vars := by
      rw [vrs, List.getElem?_append_right (by simp; omega)] at hi
      exact List.mem_of_getElem? hi
    exact (scope_kn h n hn).conds v hm
end Go.Proofs.YtabceednmgijoaaGreat
