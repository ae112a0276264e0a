/-
  The walk of the law ArithRing.
-/
import Derived.Test.YtjifapbgelckkaaArithDividesWalk
namespace Go.Proofs.Ytjifapbgelckkaa
open Go.RowKit Ar Z
namespace arithRing
theorem walk (a0 : Int) (a1 : Int) (a2 : Int) (w0 : (Lit.int .i64 a0).wf = true) (_w1 : (Lit.int .i64 a1).wf = true) (_w2 : (Lit.int .i64 a2).wf = true) (w : World) :
    Calls Try.prog 4 #[.int .i64 a0, .int .i64 a1, .int .i64 a2] w fun e w' => e = .returned (.bool true) ∧ Grown w w' := by
  have i0 := wf_in w0
  have q1 : (addZ a0 a1 != addZ a1 a0) = false := by simp [add_comm a0 a1]
  have q2 : (mulZ a0 a1 != mulZ a1 a0) = false := by simp [mul_comm a0 a1]
  have q3 : (addZ (addZ a0 a1) a2 != addZ a0 (addZ a1 a2)) = false := by simp [add_assoc]
  have q4 : (mulZ (mulZ a0 a1) a2 != mulZ a0 (mulZ a1 a2)) = false := by simp [mul_assoc]
  have q5 : (mulZ a0 (addZ a1 a2) != addZ (mulZ a0 a1) (mulZ a0 a2)) = false := by simp [mul_add]
  have q6 : (subZ a0 a1 == addZ a0 (negZ a1)) = true := by simp [sub_eq]
  have q7 : (addZ a0 (negZ a0) == 0) = true := by simp [add_neg]
  have q8 : (mulZ a0 1 == a0) = true := by simp [mul_one i0]
  have q9 : (mulZ a0 (-1) == negZ a0) = true := by simp [mul_neg_one]
  clear i0 w0
  go_enter Try.func4, Try.ntmps4
  go_wp2_with (first | (go_at_call 7; refine (awake_any _).mono ?_; rintro e w' ⟨rfl, rfl⟩) | (go_at_call 13; refine (sub_any _ _ _).mono ?_; rintro e w' ⟨rfl, rfl⟩) | (go_at_call 11; refine (mul_any _ _ _).mono ?_; rintro e w' ⟨rfl, rfl⟩) | (go_at_call 10; refine (add_any _ _ _).mono ?_; rintro e w' ⟨rfl, rfl⟩) | (go_at_call 12; refine (neg_any _ _).mono ?_; rintro e w' ⟨rfl, rfl⟩))
  go_ret
  exact ⟨rfl, Grown.refl _⟩
end arithRing
end Go.Proofs.Ytjifapbgelckkaa
