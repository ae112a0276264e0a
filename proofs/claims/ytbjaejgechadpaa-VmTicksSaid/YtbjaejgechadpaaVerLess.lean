/-
  A right machine's program without an instruction whose register is taken is not right (plain).
-/
import Derived.Test.YtbjaejgechadpaaVer
namespace Go.Proofs.Ytbjaejgechadpaa.Vf
theorem kindAcc_some : ∀ (l : List (In5 × Int)) (reg out : Int), kindAcc l reg out ≠ out → ∃ q ∈ l, q.1.op < 29 ∧ q.1.a = reg
  | [], _, _, h => absurd rfl h
  | (x, g) :: l, reg, out, h => by
    simp only [kindAcc] at h
    by_cases hx : 29 ≤ x.op ∨ x.a ≠ reg
    · rw [if_pos hx] at h
      obtain ⟨q, hq, h1⟩ := kindAcc_some l reg out h
      exact ⟨q, by simp [hq], h1⟩
    · exact ⟨(x, g), by simp, by show x.op < 29; omega, by show x.a = reg; omega⟩
theorem kindAcc_pos : ∀ (l : List (In5 × Int)) (reg out : Int), (∀ q ∈ l, q.1.op < 29 → q.2 ≠ 0) → (out ≠ 0 ∨ ∃ q ∈ l, q.1.op < 29 ∧ q.1.a = reg) → kindAcc l reg out ≠ 0
  | [], reg, out, _, h => by
    rcases h with h | ⟨q, hq, _⟩
    · exact h
    · cases hq
  | (x, g) :: l, reg, out, hg, h => by
    simp only [kindAcc]
    by_cases hx : 29 ≤ x.op ∨ x.a ≠ reg
    · rw [if_pos hx]
      refine kindAcc_pos l reg out (fun q hq => hg q (by simp [hq])) ?_
      rcases h with h | ⟨q, hq, h1, h2⟩
      · exact .inl h
      · rcases List.mem_cons.1 hq with rfl | hq
        · exact absurd hx (by simp only at h1 h2; omega)
        · exact .inr ⟨q, hq, h1, h2⟩
    · rw [if_neg hx]
      by_cases ho : out ≠ 0
      · rw [if_pos ho]; decide
      · rw [if_neg ho]
        exact kindAcc_pos l reg g (fun q hq => hg q (by simp [hq])) (.inl (hg (x, g) (by simp) (by show x.op < 29; omega)))
theorem pairs_mem {p : Pg} {q : In5 × Int} : ∀ {n : Nat}, q ∈ pairs p n ↔ ∃ j, j < n ∧ p.code[j]? = some q.1 ∧ q.2 = givesOf p (pairs p j) q.1
  | 0 => ⟨(fun h => by cases h), fun ⟨j, h, _⟩ => absurd h (by omega)⟩
  | n + 1 => by
    rw [pairs]
    cases hc : p.code[n]? with
    | none =>
      simp only
      rw [pairs_mem]
      refine ⟨fun ⟨j, h1, h2⟩ => ⟨j, by omega, h2⟩, fun ⟨j, h1, h2, h3⟩ => ?_⟩
      by_cases e : j = n
      · subst e; rw [hc] at h2; cases h2
      · exact ⟨j, by omega, h2, h3⟩
    | some x =>
      simp only [List.mem_append, List.mem_singleton]
      rw [pairs_mem]
      constructor
      · rintro (⟨j, h1, h2⟩ | rfl)
        · exact ⟨j, by omega, h2⟩
        · exact ⟨n, by omega, hc, rfl⟩
      · rintro ⟨j, h1, h2, h3⟩
        by_cases e : j = n
        · subst e
          rw [hc] at h2
          injection h2 with h2
          refine .inr ?_
          obtain ⟨q1, q2⟩ := q
          simp only at h2 h3
          subst h2
          rw [h3]
        · exact .inl ⟨j, by omega, h2, h3⟩
/-- no register is given twice -/
theorem right_once {p : Pg} (hr : rightOk p) {i j : Nat} {x y : In5} (hij : i < j) (hx : p.code[i]? = some x) (hy : p.code[j]? = some y) (ox : x.op < 29) (oy : y.op < 29) : x.a ≠ y.a := by
  intro e
  have h := ((hr.2.1 j y hy).2.1 oy).2.1
  refine kindAcc_pos (pairs p j) y.a 0 (fun q hq ho => ?_) (.inr ⟨(x, givesOf p (pairs p i) x), pairs_mem.2 ⟨i, hij, hx, rfl⟩, ox, e⟩) h
  obtain ⟨k, hk, hqk, hg⟩ := pairs_mem.1 hq
  have := ((hr.2.1 k q.1 hqk).2.1 ho).2.2
  omega
def takes3 (x y : In5) : Prop := (y.op = 3 ∧ y.b = x.a) ∨ (5 ≤ y.op ∧ y.op ≤ 20 ∧ y.b = x.a) ∨ (29 ≤ y.op ∧ y.a = x.a)
theorem taken_acc {p : Pg} {l : List (In5 × Int)} {reg : Int} (h : taken p l reg ≠ 0) : kindAcc l reg 0 ≠ 0 := by
  unfold taken at h
  split at h
  · exact absurd rfl h
  · exact h
def less (p : Pg) (i : Nat) : Pg := { p with code := p.code.take i ++ p.code.drop (i + 1) }
theorem less_low {p : Pg} {i m : Nat} (hm : m < i) (hi : i < p.code.length) : (less p i).code[m]? = p.code[m]? := by
  show (p.code.take i ++ p.code.drop (i + 1))[m]? = _
  rw [List.getElem?_append_left (by simp; omega), List.getElem?_take, if_pos hm]
theorem less_high {p : Pg} {i m : Nat} (hm : i ≤ m) (hi : i < p.code.length) : (less p i).code[m]? = p.code[m + 1]? := by
  show (p.code.take i ++ p.code.drop (i + 1))[m]? = _
  rw [List.getElem?_append_right (by simp; omega), List.getElem?_drop, List.length_take, Nat.min_eq_left (by omega)]
  congr 1
  omega
theorem less_wrong {p : Pg} (hr : rightOk p) {i j : Nat} {x y : In5} (hij : i < j) (hx : p.code[i]? = some x) (hy : p.code[j]? = some y) (ox : x.op < 29) (ht : takes3 x y) : ¬ rightOk (less p i) := by
  intro hl
  have hi : i < p.code.length := (List.getElem?_eq_some_iff.1 hx).1
  have hy' : (less p i).code[j - 1]? = some y := by rw [less_high (by omega) hi, show j - 1 + 1 = j by omega]; exact hy
  have h1 := (hl.2.1 (j - 1) y hy').1
  have hm := hl.1
  have hyo := hm.2.1 y (List.mem_of_getElem? hy')
  have key : kindAcc (pairs (less p i) (j - 1)) x.a 0 ≠ 0 := by
    unfold takesOk at h1
    unfold instrOk hasA hasAB hasABC at hyo
    rcases ht with ⟨h3, hb⟩ | ⟨h5, h20, hb⟩ | ⟨h29, ha⟩
    · rw [if_neg (by omega), if_neg (by omega), if_pos h3, hb] at h1
      exact taken_acc h1
    · rw [if_pos ⟨h5, h20⟩, hb] at h1
      exact taken_acc h1.1
    · rw [ha] at h1
      by_cases e29 : y.op = 29
      · rw [if_neg (by omega), if_neg (by omega), if_neg (by omega), if_neg (by omega), if_pos e29] at h1
        refine taken_acc (p := Vf.less p i) ?_
        rw [h1.2]
        have := in_two hm.2.2.2.1.1 h1.1
        omega
      · by_cases e32 : y.op = 32
        · rw [if_neg (by omega), if_neg (by omega), if_neg (by omega), if_neg (by omega), if_neg (by omega), if_pos e32] at h1
          refine taken_acc (p := Vf.less p i) ?_
          rw [h1.2]
          have := in_two (types_two hm) h1.1
          omega
        · rw [if_neg (by omega), if_neg (by omega), if_neg (by omega), if_neg (by omega), if_neg (by omega), if_neg (by omega), if_pos (by omega)] at h1
          refine taken_acc (p := Vf.less p i) ?_
          rw [h1.2.2]
          decide
  obtain ⟨q, hq, ho, ha⟩ := kindAcc_some _ _ _ key
  obtain ⟨m, hm1, hm2, _⟩ := pairs_mem.1 hq
  by_cases hmi : m < i
  · rw [less_low hmi hi] at hm2
    exact right_once hr hmi hm2 hx ho ox ha
  · rw [less_high (by omega) hi] at hm2
    exact right_once hr (by omega : i < m + 1) hx hm2 ox ho ha.symm
end Go.Proofs.Ytbjaejgechadpaa.Vf
