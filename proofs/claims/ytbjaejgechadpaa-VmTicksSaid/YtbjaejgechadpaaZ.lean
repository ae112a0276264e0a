/-
  Plain facts on numbers of 64 bits that go round: sums, products, quotients, remainders. No program in sight.
-/
import Derived.Test.YtbjaejgechadpaaArith
namespace Go.Proofs.Ytbjaejgechadpaa.Z
open Go.RowKit Ar

theorem wrap_bmod (n : Int) : wrap64 n = Int.bmod n 18446744073709551616 := by
  unfold wrap64
  rw [Int.bmod_def]
  split <;> omega
theorem wrap_lo (n : Int) : -9223372036854775808 ≤ wrap64 n ∧ wrap64 n ≤ 9223372036854775807 := by
  unfold wrap64; omega
theorem wrap_in {n : Int} (h : -9223372036854775808 ≤ n ∧ n ≤ 9223372036854775807) : wrap64 n = n := by
  unfold wrap64; omega
def In (n : Int) : Prop := -9223372036854775808 ≤ n ∧ n ≤ 9223372036854775807
theorem wf_in {n : Int} (h : (Lit.int .i64 n).wf = true) : In n := by
  simpa [In, Lit.wf, IntKind.min, IntKind.max, IntKind.signed, IntKind.bits] using h
theorem in_add (a b : Int) : In (addZ a b) := wrap_lo _
theorem in_neg (a : Int) : In (negZ a) := wrap_lo _
theorem in_sub (a b : Int) : In (subZ a b) := wrap_lo _
theorem in_mul (a b : Int) : In (mulZ a b) := wrap_lo _
theorem in_mod (a b : Int) : In (modZ a b) := wrap_lo _
theorem in_div (a b : Int) : In (divZ a b) := by
  unfold divZ
  split
  · unfold In; omega
  · split
    · exact wrap_lo _
    · exact wrap_lo _

theorem add_comm (a b : Int) : addZ a b = addZ b a := by simp only [addZ, Int.add_comm]
theorem mul_comm (a b : Int) : mulZ a b = mulZ b a := by simp only [mulZ, Int.mul_comm]
theorem add_assoc (a b c : Int) : addZ (addZ a b) c = addZ a (addZ b c) := by
  simp only [addZ, wrap_bmod, Int.bmod_add_bmod, Int.add_bmod_bmod, Int.add_assoc]
theorem mul_assoc (a b c : Int) : mulZ (mulZ a b) c = mulZ a (mulZ b c) := by
  simp only [mulZ, wrap_bmod, Int.bmod_mul_bmod, Int.mul_bmod_bmod, Int.mul_assoc]
theorem mul_add (a b c : Int) : mulZ a (addZ b c) = addZ (mulZ a b) (mulZ a c) := by
  simp only [mulZ, addZ, wrap_bmod, Int.mul_bmod_bmod, Int.bmod_add_bmod, Int.add_bmod_bmod, Int.mul_add]
theorem sub_eq (a b : Int) : subZ a b = addZ a (negZ b) := by
  simp only [subZ, addZ, negZ, wrap_bmod, Int.add_bmod_bmod, Int.sub_eq_add_neg]
theorem add_neg (a : Int) : addZ a (negZ a) = 0 := by
  simp only [addZ, negZ, wrap_bmod, Int.add_bmod_bmod, Int.add_right_neg]; rfl
theorem mul_one {a : Int} (h : In a) : mulZ a 1 = a := by
  unfold mulZ; rw [Int.mul_one]; exact wrap_in h
theorem mul_neg_one (a : Int) : mulZ a (-1) = negZ a := by
  unfold mulZ negZ; rw [Int.mul_neg, Int.mul_one]

/-- the number is its quotient times the divisor and its remainder together -/
theorem div_mod {a : Int} (b : Int) (h : In a) : addZ (mulZ (divZ a b) b) (modZ a b) = a := by
  unfold modZ subZ addZ
  rw [wrap_bmod, wrap_bmod, Int.add_bmod_bmod]
  rw [show mulZ (divZ a b) b + (a - mulZ (divZ a b) b) = a from by omega, ← wrap_bmod]
  exact wrap_in h
theorem div_zero (a : Int) : divZ a 0 = 0 := by simp [divZ]
theorem mod_zero {a : Int} (h : In a) : modZ a 0 = a := by
  simp only [modZ, subZ, mulZ, divZ, if_true, Int.mul_zero]
  rw [wrap_in (n := 0) (by omega), Int.sub_zero]; exact wrap_in h

theorem tdiv_bound (a b : Int) : (a.tdiv b).natAbs ≤ a.natAbs := by
  rw [Int.natAbs_tdiv]; exact Nat.div_le_self _ _
theorem tmod_eq (a b : Int) : a.tdiv b * b = a - a.tmod b := by
  have := Int.tdiv_mul_add_tmod a b; omega
theorem mod_tmod {a b : Int} (ha : In a) (h0 : b ≠ 0) : modZ a b = a.tmod b := by
  unfold In at ha
  by_cases h1 : b = -1
  · subst h1
    have e : divZ a (-1) = wrap64 (-a) := rfl
    have z : a.tmod (-1) = 0 := by simp
    rw [z, modZ, e, mulZ, subZ]
    unfold wrap64
    omega
  · have hb := tdiv_bound a b
    have e : divZ a b = a.tdiv b := by
      simp only [divZ, h0, h1, if_false]
      have h2 : a.tdiv b ≠ 9223372036854775808 := by
        intro hq
        have hm : (a.tdiv b).natAbs * b.natAbs ≤ a.natAbs := by
          rw [Int.natAbs_tdiv]; exact Nat.div_mul_le_self _ _
        have hb2 : 2 ≤ b.natAbs ∨ b = 1 := by omega
        rcases hb2 with hb2 | hb2
        · rw [hq] at hm
          have := Nat.mul_le_mul_left (Int.natAbs 9223372036854775808) hb2
          omega
        · subst hb2; simp at hq; omega
      exact wrap_in (by omega)
    have hm : (a.tdiv b * b).natAbs ≤ a.natAbs := by
      rw [Int.natAbs_mul, Int.natAbs_tdiv]; exact Nat.div_mul_le_self _ _
    have hs := tmod_eq a b
    have hbd : (a.tmod b).natAbs ≤ a.natAbs := by
      rw [Int.natAbs_tmod]; exact Nat.mod_le _ _
    have hne : a.tdiv b * b ≠ 9223372036854775808 := by
      rw [hs]; intro hc
      have hsg : 0 ≤ a → 0 ≤ a.tmod b := fun h => Int.tmod_nonneg _ h
      have hsg2 : a ≤ 0 → a.tmod b ≤ 0 := fun h => by
        have := Int.tmod_nonneg b (a := -a) (by omega); rw [Int.neg_tmod] at this; omega
      omega
    rw [modZ, e, mulZ, wrap_in (by omega), subZ, hs, wrap_in (by omega)]; omega
theorem mod_lt {a b : Int} (ha : In a) (h0 : b ≠ 0) : (modZ a b).natAbs < b.natAbs := by
  rw [mod_tmod ha h0, Int.natAbs_tmod]; exact Nat.mod_lt _ (by omega)
theorem mod_sign {a b : Int} (ha : In a) (h0 : b ≠ 0) (hm : modZ a b ≠ 0) : (modZ a b < 0 ↔ a < 0) := by
  rw [mod_tmod ha h0] at hm ⊢
  have hsg : 0 ≤ a → 0 ≤ a.tmod b := fun h => Int.tmod_nonneg _ h
  have hsg2 : a ≤ 0 → a.tmod b ≤ 0 := fun h => by
    have := Int.tmod_nonneg b (a := -a) (by omega); rw [Int.neg_tmod] at this; omega
  omega
end Go.Proofs.Ytbjaejgechadpaa.Z
