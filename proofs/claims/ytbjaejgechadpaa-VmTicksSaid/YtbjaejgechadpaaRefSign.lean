/-
  The contract of tompionref03.Sign.
-/
import Derived.Test.YtbjaejgechadpaaArithOps
import Derived.Test.YtbjaejgechadpaaMem
namespace Go.Proofs.Ytbjaejgechadpaa
open Go.RowKit Ar Z

theorem rsign_no (op : Int) (w : World) (h : op < 5 ∨ 20 < op) :
    Calls Try.prog 93 #[.int .i64 op] w fun e w' => e = .returned (.tuple #[.int .i64 0, .int .i64 0, .bool false]) ∧ Below w.heap.size w w' := by
  rcases h with h | h
  · go_enter Try.func93, Try.ntmps93
    go_wp2
    go_ret3
    exact ⟨rfl, Below.refl _ _⟩
  · have h' : ¬ op < 5 := by omega
    go_enter Try.func93, Try.ntmps93
    go_wp2
    go_ret3
    exact ⟨rfl, Below.refl _ _⟩
set_option maxHeartbeats 4000000 in
theorem rsign_yes (op : Int) (w : World) (h : 5 ≤ op ∧ op ≤ 20) :
    Calls Try.prog 93 #[.int .i64 op] w fun e w' => e = .returned (.tuple #[.int .i64 (signIn op), .int .i64 (signOut op), .bool true]) ∧ Below w.heap.size w w' := by
  rcases (by omega : op = 5 ∨ op = 6 ∨ op = 7 ∨ op = 8 ∨ op = 9 ∨ op = 10 ∨ op = 11 ∨ op = 12 ∨ op = 13 ∨ op = 14 ∨ op = 15 ∨ op = 16 ∨ op = 17 ∨ op = 18 ∨ op = 19 ∨ op = 20) with rfl | rfl | rfl | rfl | rfl | rfl | rfl | rfl | rfl | rfl | rfl | rfl | rfl | rfl | rfl | rfl
  all_goals
    clear h
    go_enter Try.func93, Try.ntmps93
    go_wp2
    go_quiet (fail)
    go_wp2
    go_ret3
    exact ⟨rfl, below_drewN' (((Below.refl _ _).alloc (Nat.le_refl _) _).alloc (by simp) _) _⟩

end Go.Proofs.Ytbjaejgechadpaa
