/-
  Which node hangs on itself first, and an order of nodes in which each stands behind those it calls: plain.
-/
import Derived.Test.YtabceednmgijoaaGreatUsA
namespace Go.Proofs.YtabceednmgijoaaGreat
/-- what the node of a name calls -/
noncomputable def usesAt (s : List Nd) (nm : ByteArray) : List ByteArray := match nodeAt s nm with
  | some n => usesF n
  | none => []
open Classical in
noncomputable def calF (s : List Nd) (_ : Nat) (n : Nd) : Ft := if Hg (usesAt s) n.name n.name then ⟨29, n.line, n.col⟩ else ft0
/-- which node hangs on itself first -/
noncomputable def callsF (s : List Nd) : Ft := ft2 (scopeF s) (fstL (calF s) s)
theorem usesF_mem {n : Nd} {y : ByteArray} : y ∈ usesF n ↔ ∃ q ∈ n.eqs, ∃ x ∈ exList q.right, x.op = 4 ∧ x.name = y := by
  unfold usesF
  rw [insAll_mem]
  unfold callTo callsOf
  rw [List.take_length]
  simp only [List.not_mem_nil, false_or, List.mem_flatten, List.mem_map]
  constructor
  · rintro ⟨l, ⟨q, hq, rfl⟩, hy⟩
    obtain ⟨x, hx, rfl⟩ := List.mem_map.1 hy
    obtain ⟨h1, h2⟩ := List.mem_filter.1 hx
    exact ⟨q, hq, x, h1, cB_iff.1 h2, rfl⟩
  · rintro ⟨q, hq, x, hx, h4, rfl⟩
    exact ⟨_, ⟨q, hq, rfl⟩, List.mem_map.2 ⟨x, List.mem_filter.2 ⟨hx, cB_iff.2 h4⟩, rfl⟩⟩
theorem usesF_rising (n : Nd) : Rising (usesF n) := insAll_rising List.Pairwise.nil
theorem usesAt_rising (s : List Nd) (x : ByteArray) : Rising (usesAt s x) := by
  unfold usesAt
  split
  · exact usesF_rising _
  · exact List.Pairwise.nil
section
variable {s : List Nd}
theorem names_once (h : (scopeF s).err = 0) : Once (s.map Nd.name) := once_of fun i x hx => by
  rw [List.getElem?_map, Option.map_eq_some_iff] at hx
  obtain ⟨n, hn, rfl⟩ := hx
  have hr := scope_rt h
  rw [scopeF_rt hr] at h
  have h1 := fstL_ok (f := nameF s) (ft2_ok h).1 i n hn
  intro g
  unfold nameF at h1
  rw [if_pos g] at h1
  exact absurd h1 (by show ¬ (23 : Int) = 0; decide)
theorem node_self (h : (scopeF s).err = 0) {n : Nd} (hn : n ∈ s) : nodeAt s n.name = some n := by
  obtain ⟨k, hk⟩ := List.getElem?_of_mem hn
  refine nodeAt_at (k := k) (fun j hj x hx e => ?_) hk rfl
  have := names_once h j k n.name (by rw [← e]; exact map_get Nd.name hx) (map_get Nd.name hk)
  omega
theorem usesAt_self (h : (scopeF s).err = 0) {n : Nd} (hn : n ∈ s) : usesAt s n.name = usesF n := by unfold usesAt; rw [node_self h hn]
theorem calls_known (h : (scopeF s).err = 0) {n : Nd} (hn : n ∈ s) {y : ByteArray} (hy : y ∈ usesF n) : y ∈ s.map Nd.name := by
  obtain ⟨q, hq, x, hx, h4, rfl⟩ := usesF_mem.1 hy
  obtain ⟨i, hi⟩ := List.getElem?_of_mem hq
  obtain ⟨j, hj⟩ := List.getElem?_of_mem hx
  obtain ⟨m, hm, _⟩ := call_ok (expr_ok (eqn_ok (scope_nodes h n hn).2 i q hi).2 j x hj) h4
  have := nodeAt_mem hm
  exact this.2 ▸ List.mem_map_of_mem this.1
theorem uses_V (h : (scopeF s).err = 0) : ∀ x, ∀ y ∈ usesAt s x, y ∈ s.map Nd.name := fun x y hy => by
  unfold usesAt at hy
  split at hy
  · rename_i n hn
    exact calls_known h (nodeAt_mem hn).1 hy
  · cases hy
theorem callsF_ok (h : (callsF s).err = 0) : (scopeF s).err = 0 ∧ ∀ n ∈ s, ¬ Hg (usesAt s) n.name n.name := by
  refine ⟨(ft2_ok h).1, fun n hn g => ?_⟩
  obtain ⟨k, hk⟩ := List.getElem?_of_mem hn
  have := fstL_ok (f := calF s) (ft2_ok h).2 k n hk
  unfold calF at this
  rw [if_pos g] at this
  exact absurd this (by show ¬ (29 : Int) = 0; decide)
theorem callsF_zero (h : (callsF s).err = 0) : callsF s = ft0 := by
  have := ft2_ok h
  unfold callsF
  rw [ft2_0 this.1, fstL_zero this.2]
theorem callsF_1 (h : (scopeF s).err ≠ 0) : callsF s = scopeF s := ft2_1 h
theorem callsF_0 (h : (scopeF s).err = 0) : callsF s = fstL (calF s) s := ft2_0 h
end
/-- the first node that may stand behind these -/
def Ready (out : List ByteArray) (n : Nd) : Prop := n.name ∉ out ∧ ∀ y ∈ usesF n, y ∈ out
noncomputable def pick (s : List Nd) (out : List ByteArray) : Option Nd := s.find? fun n => cB (Ready out n)
noncomputable def ordTo (s : List Nd) : Nat → List ByteArray
  | 0 => []
  | k + 1 => match pick s (ordTo s k) with
    | some n => ordTo s k ++ [n.name]
    | none => ordTo s k
noncomputable def orderF (s : List Nd) : List ByteArray := ordTo s s.length
theorem pick_at {s : List Nd} {out : List ByteArray} {k : Nat} {n : Nd} (h : ∀ j, j < k → ∀ x, s[j]? = some x → ¬ Ready out x) (hk : s[k]? = some n) (hr : Ready out n) : pick s out = some n := by
  unfold pick
  induction s generalizing k with
  | nil => cases hk
  | cons a s ih =>
    cases k with
    | zero =>
      obtain rfl : a = n := by simpa using hk
      exact List.find?_cons_of_pos (p := fun n => cB (Ready out n)) (cB_iff.2 hr)
    | succ k =>
      rw [List.find?_cons_of_neg (p := fun n => cB (Ready out n)) (by rw [cB_iff]; exact h 0 (by omega) a rfl)]
      exact ih (k := k) (fun j hj x hx => h (j + 1) (by omega) x (by simpa using hx)) (by simpa using hk)
theorem pick_ok {s : List Nd} {out : List ByteArray} {n : Nd} (h : pick s out = some n) : n ∈ s ∧ Ready out n := ⟨List.mem_of_find?_eq_some h, cB_iff.1 (List.find?_some (p := fun n => cB (Ready out n)) h)⟩
theorem pick_none {s : List Nd} {out : List ByteArray} (h : ∀ j, j < s.length → ∀ x, s[j]? = some x → ¬ Ready out x) : pick s out = none := by
  unfold pick
  rw [List.find?_eq_none]
  intro x hx
  rw [cB_iff]
  obtain ⟨j, hj⟩ := List.getElem?_of_mem hx
  exact h j (List.getElem?_eq_some_iff.1 hj).1 x hj
section
variable {s : List Nd}
theorem pick_some (hc : (callsF s).err = 0) {out : List ByteArray} (hn : out.length < s.length) : ∃ n, pick s out = some n := by
  obtain ⟨h0, h1⟩ := callsF_ok hc
  have hx : ∃ a, a ∈ s.map Nd.name ∧ a ∉ out := Classical.byContradiction fun g => by
    have := nodup_len (l := s.map Nd.name) (m := out) (once_nodup (names_once h0)) fun x hx => Classical.byContradiction fun g' => g ⟨x, hx, g'⟩
    rw [List.length_map] at this
    omega
  obtain ⟨a, ha⟩ := hx
  obtain ⟨x, ⟨hx, hxo⟩, hu⟩ := least (uses_V h0) (usesAt_rising s) (P := fun x => x ∈ s.map Nd.name ∧ x ∉ out) (fun x hx => by
    obtain ⟨n, hn, rfl⟩ := List.mem_map.1 hx.1
    exact h1 n hn) ha
  obtain ⟨n, hn, rfl⟩ := List.mem_map.1 hx
  rw [usesAt_self h0 hn] at hu
  have hr : Ready out n := ⟨hxo, fun y hy => Classical.byContradiction fun g => hu y hy ⟨calls_known h0 hn hy, g⟩⟩
  cases hp : pick s out with
  | some m => exact ⟨m, rfl⟩
  | none =>
    unfold pick at hp
    exact absurd (cB_iff.2 hr) (List.find?_eq_none.1 hp n hn)
theorem ordTo_succ {k : Nat} {n : Nd} (h : pick s (ordTo s k) = some n) : ordTo s (k + 1) = ordTo s k ++ [n.name] := by
  show (match pick s (ordTo s k) with | some n => _ | none => _) = _
  rw [h]
theorem ord_len (hc : (callsF s).err = 0) : ∀ k, k ≤ s.length → (ordTo s k).length = k
  | 0, _ => rfl
  | k + 1, h => by
    have ih := ord_len hc k (by omega)
    obtain ⟨n, hp⟩ := pick_some hc (out := ordTo s k) (by omega)
    rw [ordTo_succ hp]
    simp [ih]
theorem ord_in (hc : (callsF s).err = 0) : ∀ k, k ≤ s.length → (ordTo s k).Nodup ∧ (∀ x ∈ ordTo s k, x ∈ s.map Nd.name) ∧ ∀ (i : Nat) (n : Nd), n ∈ s → (ordTo s k)[i]? = some n.name → ∀ y ∈ usesF n, y ∈ (ordTo s k).take i
  | 0, _ => ⟨List.nodup_nil, (fun x h => absurd h (by simp [ordTo])), (fun i n _ h => absurd h (by simp [ordTo]))⟩
  | k + 1, h => by
    have hl := ord_len hc k (by omega)
    obtain ⟨i1, i2, i3⟩ := ord_in hc k (by omega)
    obtain ⟨n, hp⟩ := pick_some hc (out := ordTo s k) (by omega)
    obtain ⟨hn, hr1, hr2⟩ := pick_ok hp
    rw [ordTo_succ hp]
    refine ⟨?_, fun x hx => ?_, fun i m hm hi y hy => ?_⟩
    · rw [List.nodup_append]
      exact ⟨i1, by simp, fun a ha b hb e => by simp at hb; subst hb; subst e; exact hr1 ha⟩
    · rcases List.mem_append.1 hx with hx | hx
      · exact i2 x hx
      · rw [List.mem_singleton.1 hx]; exact List.mem_map_of_mem hn
    · rcases Nat.lt_trichotomy i k with g | g | g
      · rw [List.getElem?_append_left (by omega)] at hi
        rw [List.take_append_of_le_length (by omega)]
        exact i3 i m hm hi y hy
      · rw [List.getElem?_append_right (by omega)] at hi
        have e : n.name = m.name := by simpa [hl, g] using hi
        have h0 := (callsF_ok hc).1
        have e2 : n = m := by
          have h1 := node_self h0 hn
          rw [e, node_self h0 hm] at h1
          injection h1 with h1
          exact h1.symm
        subst e2
        rw [List.take_append_of_le_length (by omega), List.take_of_length_le (by omega)]
        exact hr2 y hy
      · have := (List.getElem?_eq_some_iff.1 hi).1
        simp at this
        omega
/-- all of them stand in it -/
theorem ord_all (hc : (callsF s).err = 0) {x : ByteArray} (hx : x ∈ s.map Nd.name) : x ∈ orderF s := Classical.byContradiction fun g => by
  have h1 := ord_in hc s.length (Nat.le_refl _)
  have h2 := nodup_len (l := x :: orderF s) (m := s.map Nd.name) (List.nodup_cons.2 ⟨g, h1.1⟩) fun y hy => by
    rcases List.mem_cons.1 hy with rfl | hy
    · exact hx
    · exact h1.2.1 y hy
  have h3 : (orderF s).length = s.length := ord_len hc s.length (Nat.le_refl _)
  simp only [List.length_cons, List.length_map] at h2
  omega
end
end Go.Proofs.YtabceednmgijoaaGreat
