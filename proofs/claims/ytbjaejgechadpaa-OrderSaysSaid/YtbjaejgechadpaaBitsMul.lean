/-
  bits.Mul of one and a small number.
-/
import Derived.Test.YtbjaejgechadpaaMem
import Derived.Laws.Bits64b
namespace Go.Proofs.Ytbjaejgechadpaa
open Go.RowKit
theorem mask_small (a : Nat) (ha : a ≤ 100000) : bits .and .u64 (a : Int) 4294967295 = (a : Int) := by
  have h := bits_and_u64_nat a 4294967295 (by omega) (by omega)
  have e : a &&& 4294967295 = a := by rw [show (4294967295 : Nat) = 2 ^ 32 - 1 by rfl, Nat.and_two_pow_sub_one_eq_mod]; exact Nat.mod_eq_of_lt (by omega)
  rw [e] at h
  exact h
theorem mask_one : bits .and .u64 1 4294967295 = 1 := by decide
theorem mask_zero : bits .and .u64 0 4294967295 = 0 := by decide
set_option maxHeartbeats 1000000 in
theorem mul64_one (y : Nat) (hy : y ≤ 100000) (w : World) :
    Calls Try.prog 159 #[.int .u64 1, .int .u64 y] w fun e w' => e = .returned (.tuple #[.int .u64 0, .int .u64 y]) ∧ w = w' := by
  have k1 := mask_small y hy
  have k2 := mask_one
  have k3 := mask_zero
  have hd : (y : Int) / 4294967296 = 0 := by omega
  go_enter Try.func159, Try.ntmps159
  go_wp2
  go_ret2
  exact ⟨rfl, rfl⟩
set_option maxHeartbeats 1000000 in
theorem mul_one (y : Nat) (hy : y ≤ 100000) (w : World) :
    Calls Try.prog 150 #[.int .u64 1, .int .u64 y] w fun e w' => e = .returned (.tuple #[.int .u64 0, .int .u64 y]) ∧ w = w' := by
  go_enter Try.func150, Try.ntmps150
  go_wp2_with (go_at_call 159; refine (mul64_one _ hy _).mono ?_; rintro e w' ⟨rfl, rfl⟩)
  go_ret2
  exact ⟨rfl, rfl⟩
end Go.Proofs.Ytbjaejgechadpaa
