/-
  Plain facts on bits: lists of 0 and 1, the lowest first, and what they are worth. No program in sight.
-/
import Derived.Test.YtjifapbgelckkaaZ
namespace Go.Proofs.Ytjifapbgelckkaa.Bz
open Go.RowKit Ar Z

def half (n : Int) : Nat → Int
  | 0 => n
  | k + 1 => half n k / 2
theorem half_in {n : Int} (h : In n) (k : Nat) : In (half n k) := by
  induction k with
  | zero => exact h
  | succ k ih => unfold In at *; simp only [half]; omega
def bitZ (n : Int) (k : Nat) : Int := half n k % 2
theorem bit_01 (n : Int) (k : Nat) : bitZ n k = 0 ∨ bitZ n k = 1 := by unfold bitZ; omega
def bitsTo (n : Int) (k : Nat) : List Int := (List.range k).map (bitZ n)
theorem bitsTo_len (n : Int) (k : Nat) : (bitsTo n k).length = k := by simp [bitsTo]
theorem bitsTo_succ (n : Int) (k : Nat) : bitsTo n (k + 1) = bitsTo n k ++ [bitZ n k] := by simp [bitsTo, List.range_succ]
theorem bitsTo_get {n : Int} {k j : Nat} (h : j < k) : (bitsTo n k)[j]? = some (bitZ n j) := by simp [bitsTo, h]

/-- lists of 0 and 1 -/
def Is01 (l : List Int) : Prop := ∀ x ∈ l, x = 0 ∨ x = 1
theorem is01_bits (n : Int) (k : Nat) : Is01 (bitsTo n k) := by
  intro x hx
  simp only [bitsTo, List.mem_map] at hx
  obtain ⟨j, _, rfl⟩ := hx
  exact bit_01 n j
theorem is01_nil : Is01 [] := fun _ h => by cases h
theorem is01_snoc {l : List Int} {x : Int} (h : Is01 l) (hx : x = 0 ∨ x = 1) : Is01 (l ++ [x]) := by
  intro y hy
  rcases List.mem_append.1 hy with hy | hy
  · exact h y hy
  · rw [List.mem_singleton.1 hy]; exact hx
theorem is01_get {l : List Int} {j : Nat} {x : Int} (h : Is01 l) (hx : l[j]? = some x) : x = 0 ∨ x = 1 := h x (List.mem_of_getElem? hx)

/-- what they are worth, the lowest first -/
def uval : List Int → Int
  | [] => 0
  | x :: l => x + 2 * uval l
def pow2 : Nat → Int
  | 0 => 1
  | k + 1 => 2 * pow2 k
theorem pow2_pos (k : Nat) : 0 < pow2 k := by
  induction k with
  | zero => decide
  | succ k ih => simp only [pow2]; omega
theorem uval_snoc (l : List Int) (x : Int) : uval (l ++ [x]) = uval l + x * pow2 l.length := by
  induction l with
  | nil => simp [uval, pow2]
  | cons y l ih =>
    simp only [List.cons_append, uval, ih, List.length_cons, pow2]
    rw [Int.mul_add, ← Int.mul_assoc, Int.mul_comm 2 x, Int.mul_assoc]; omega
theorem uval_bound {l : List Int} (h : Is01 l) : 0 ≤ uval l ∧ uval l < pow2 l.length := by
  induction l with
  | nil => simp [uval, pow2]
  | cons y l ih =>
    have := ih (fun x hx => h x (List.mem_cons_of_mem _ hx))
    have hy := h y (by simp)
    simp only [uval, List.length_cons, pow2]; omega
/-- the bits of a number below the k-th: what is left behind -/
theorem uval_bits (n : Int) (k : Nat) : n = uval (bitsTo n k) + half n k * pow2 k := by
  induction k with
  | zero => simp [bitsTo, uval, half, pow2]
  | succ k ih =>
    rw [bitsTo_succ, uval_snoc, bitsTo_len]
    simp only [half, bitZ, pow2]
    have e : half n k = half n k % 2 + 2 * (half n k / 2) := by omega
    have e2 : half n k * pow2 k = (half n k % 2) * pow2 k + half n k / 2 * (2 * pow2 k) := by
      rw [← Int.mul_assoc, ← Int.add_mul]
      congr 1; omega
    omega
theorem wrap_add_mul (a b : Int) : wrap64 (a + b * 18446744073709551616) = wrap64 a := by
  unfold wrap64; omega
theorem pow2_64 : pow2 64 = 18446744073709551616 := by decide +kernel
theorem wrap_uval_bits {n : Int} (h : In n) : wrap64 (uval (bitsTo n 64)) = n := by
  have e := uval_bits n 64
  rw [pow2_64] at e
  have e2 := wrap_add_mul (uval (bitsTo n 64)) (half n 64)
  rw [← e] at e2
  rw [← e2]; exact wrap_in h
end Go.Proofs.Ytjifapbgelckkaa.Bz
