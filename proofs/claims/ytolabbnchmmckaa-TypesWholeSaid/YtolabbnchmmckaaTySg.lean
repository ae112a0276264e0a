/-
  The contracts of arith.Sign and tompionref03.Sign.
-/
import Derived.RowKit3
import Derived.Test.YtolabbnchmmckaaMem
namespace Go.Proofs.Ytolabbnchmmckaa
open Go.RowKit
def signIn (op : Int) : Int := if op = 12 ∨ op = 13 then 0 else if op = 6 ∨ op = 18 ∨ op = 19 ∨ op = 20 then 2 else if 5 ≤ op ∧ op ≤ 17 then 1 else 0
def signOut (op : Int) : Int := if op = 6 ∨ (12 ≤ op ∧ op ≤ 20) then 2 else if 5 ≤ op ∧ op ≤ 11 then 1 else 0
def signB (op : Int) : Bool := decide (5 ≤ op) && decide (op ≤ 20)
theorem sign_any (op : Int) (w : World) :
    Calls Try.prog 122 #[.int .i64 op] w fun e w' => e = .returned (.tuple #[.int .i64 (signIn op), .int .i64 (signOut op), .bool (signB op)]) ∧ w = w' := by
  by_cases h : 5 ≤ op ∧ op ≤ 20
  · rcases (by omega : op = 5 ∨ op = 6 ∨ op = 7 ∨ op = 8 ∨ op = 9 ∨ op = 10 ∨ op = 11 ∨ op = 12 ∨ op = 13 ∨ op = 14 ∨ op = 15 ∨ op = 16 ∨ op = 17 ∨ op = 18 ∨ op = 19 ∨ op = 20) with rfl | rfl | rfl | rfl | rfl | rfl | rfl | rfl | rfl | rfl | rfl | rfl | rfl | rfl | rfl | rfl
    all_goals
      clear h
      go_enter Try.func122, Try.ntmps122
      go_wp2
      go_ret3
      exact ⟨rfl, rfl⟩
  · have H1 := Lib.hid (show signIn op = 0 from by unfold signIn; rw [if_neg (by omega), if_neg (by omega), if_neg (by omega)])
    have H2 := Lib.hid (show signOut op = 0 from by unfold signOut; rw [if_neg (by omega), if_neg (by omega)])
    have H3 := Lib.hid (show signB op = false from by simp [signB]; omega)
    by_cases hlt : op < 5
    · clear h
      go_enter Try.func122, Try.ntmps122
      go_wp2
      go_ret3
      exact ⟨by rw [H1.out, H2.out, H3.out]; rfl, rfl⟩
    · have hgt : 20 < op := by omega
      clear h hlt
      go_enter Try.func122, Try.ntmps122
      go_wp2
      go_ret3
      exact ⟨by rw [H1.out, H2.out, H3.out]; rfl, rfl⟩
theorem rsign_no (op : Int) (w : World) (h : op < 5 ∨ 20 < op) :
    Calls Try.prog 51 #[.int .i64 op] w fun e w' => e = .returned (.tuple #[.int .i64 0, .int .i64 0, .bool false]) ∧ Below w.heap.size w w' := by
  rcases h with h | h
  · go_enter Try.func51, Try.ntmps51
    go_wp2
    go_ret3
    exact ⟨rfl, Below.refl _ _⟩
  · have h' : ¬ op < 5 := by omega
    go_enter Try.func51, Try.ntmps51
    go_wp2
    go_ret3
    exact ⟨rfl, Below.refl _ _⟩
set_option maxHeartbeats 4000000 in
theorem rsign_yes (op : Int) (w : World) (h : 5 ≤ op ∧ op ≤ 20) :
    Calls Try.prog 51 #[.int .i64 op] w fun e w' => e = .returned (.tuple #[.int .i64 (signIn op), .int .i64 (signOut op), .bool true]) ∧ Below w.heap.size w w' := by
  rcases (by omega : op = 5 ∨ op = 6 ∨ op = 7 ∨ op = 8 ∨ op = 9 ∨ op = 10 ∨ op = 11 ∨ op = 12 ∨ op = 13 ∨ op = 14 ∨ op = 15 ∨ op = 16 ∨ op = 17 ∨ op = 18 ∨ op = 19 ∨ op = 20) with rfl | rfl | rfl | rfl | rfl | rfl | rfl | rfl | rfl | rfl | rfl | rfl | rfl | rfl | rfl | rfl
  all_goals
    clear h
    go_enter Try.func51, Try.ntmps51
    go_wp2
    go_quiet (fail)
    go_wp2
    go_ret3
    exact ⟨rfl, below_drewN' (((Below.refl _ _).alloc (Nat.le_refl _) _).alloc (by simp) _) _⟩

end Go.Proofs.Ytolabbnchmmckaa
