/-
  The contracts of package arith: each call returns the number that its text says, wrapped to 64 bits, and leaves the world as it was.
-/
import Derived.Test.YtbjaejgechadpaaChecked
import Derived.WalkKit
import Derived.Lib.Hide
namespace Go.Proofs.Ytbjaejgechadpaa.Ar
open Go.RowKit

def addZ (a b : Int) : Int := wrap64 (a + b)
def subZ (a b : Int) : Int := wrap64 (a - b)
def mulZ (a b : Int) : Int := wrap64 (a * b)
def negZ (a : Int) : Int := wrap64 (-a)
def divZ (a b : Int) : Int := if b = 0 then 0 else if b = -1 then wrap64 (-a) else wrap64 (a.tdiv b)
def modZ (a b : Int) : Int := subZ a (mulZ (divZ a b) b)
def flagZ (b : Bool) : Int := if b then 1 else 0

theorem add_any (a b : Int) (w : World) :
    Calls Try.prog 126 #[.int .i64 a, .int .i64 b] w fun e w' => e = .returned (.int .i64 (addZ a b)) ∧ w = w' := by
  go_enter Try.func126, Try.ntmps126
  go_wp2
  go_ret
  exact ⟨rfl, rfl⟩
theorem mul_any (a b : Int) (w : World) :
    Calls Try.prog 128 #[.int .i64 a, .int .i64 b] w fun e w' => e = .returned (.int .i64 (mulZ a b)) ∧ w = w' := by
  go_enter Try.func128, Try.ntmps128
  go_wp2
  go_ret
  exact ⟨rfl, rfl⟩
theorem neg_any (a : Int) (w : World) :
    Calls Try.prog 124 #[.int .i64 a] w fun e w' => e = .returned (.int .i64 (negZ a)) ∧ w = w' := by
  go_enter Try.func124, Try.ntmps124
  go_wp2
  go_ret
  exact ⟨rfl, rfl⟩
theorem sub_any (a b : Int) (w : World) :
    Calls Try.prog 127 #[.int .i64 a, .int .i64 b] w fun e w' => e = .returned (.int .i64 (subZ a b)) ∧ w = w' := by
  go_enter Try.func127, Try.ntmps127
  go_wp2
  go_ret
  exact ⟨rfl, rfl⟩
theorem div_any (a b : Int) (w : World) :
    Calls Try.prog 129 #[.int .i64 a, .int .i64 b] w fun e w' => e = .returned (.int .i64 (divZ a b)) ∧ w = w' := by
  by_cases h0 : b = 0
  · subst h0
    go_enter Try.func129, Try.ntmps129
    go_wp2
    go_ret
    exact ⟨rfl, rfl⟩
  · by_cases h1 : b = -1
    · subst h1
      go_enter Try.func129, Try.ntmps129
      go_wp2
      go_ret
      exact ⟨rfl, rfl⟩
    · have e0 : (b == 0) = false := by simp [h0]
      have e1 : (b == -1) = false := by simp [h1]
      have hf : divZ a b = wrap64 (a.tdiv b) := by simp [divZ, h0, h1]
      have HF := Lib.hid hf
      clear hf
      go_enter Try.func129, Try.ntmps129
      go_wp2
      go_ret
      exact ⟨by rw [HF.out]; rfl, rfl⟩
end Go.Proofs.Ytbjaejgechadpaa.Ar
