/-
  What is one with itself, wherever it lies: the contracts of tompionref12.Texts, sameVars, Same and Equal.
-/
import Derived.Test.YtabceednmgijoaaGreatScQ
namespace Go.Proofs.YtabceednmgijoaaGreat
open Go.RowKit
attribute [local go_sem ↓] Go.wp_at_zero Go.wp_at_succ
theorem same_some {α : Type} {l : List α} {k : Nat} {x y : α} (h : l[k]? = some x) (h' : l[k]? = some y) : y = x := by rw [h] at h'; injection h' with h'; exact h'.symm
set_option maxRecDepth 100000 in
set_option maxHeartbeats 1000000 in
theorem texts_self (l : List ByteArray) (m : Nat) (A1 A2 : Option Addr) (c1 c2 : Nat) (w : World) (hm : l.length = m) (h1 : m ≤ c1) (m1 : c1 ≤ maxLen) (s1 : Sl w w.heap.size 1 isStr A1 l) (h2 : m ≤ c2) (m2 : c2 ≤ maxLen) (s2 : Sl w w.heap.size 1 isStr A2 l) :
    Calls Tryz.prog 11 #[.slice A1 m c1, .slice A2 m c2] w fun r w' => r = .returned (.bool true) ∧ ∃ n, w' = w.drewN n := by
  subst hm
  have H1 := Lib.hid s1
  have H2 := Lib.hid s2
  have m1' : c1 ≤ 9223372036854775807 := by unfold maxLen at m1; omega
  have m2' : c2 ≤ 9223372036854775807 := by unfold maxLen at m2; omega
  have e0 : ((l.length : Int) != (l.length : Int)) = false := neq_no rfl
  clear s1 s2
  go_enter Tryz.func11, Tryz.ntmps11
  go_wp2_with fail
  go_loopw [5] (fun i wr => ∃ k : Nat, k ≤ l.length ∧ i = .int .i64 k ∧ ∃ n, wr = w.drewN n) (fun i _ => l.length - (intOf i).toNat)
  case atStart => exact ⟨0, Nat.zero_le _, rfl, 0, rfl⟩
  case round =>
    obtain ⟨k, hk, rfl, nn, hwr⟩ := hrel
    by_cases hlt : k < l.length
    · have K1 : Sl wr w.heap.size 1 isStr A1 l := by rw [hwr]; exact H1.out
      have K2 : Sl wr w.heap.size 1 isStr A2 l := by rw [hwr]; exact H2.out
      obtain ⟨b, off, x, rfl, hb, hx, hsx, c0⟩ := K1.str hlt
      obtain ⟨b', off', y, rfl, hb', hy, hsy, d0⟩ := K2.str hlt
      obtain rfl := same_some hx hy
      have i0 : (0 : Int) ≤ (k : Int) := by omega
      have i1 : (k : Int) < (l.length : Int) := by omega
      have HW := Lib.hid hwr
      clear hx hy hwr K1 K2
      go_wp2_with fail
      go_quiet (fail)
      go_wp2_with fail
      go_roundw
      case rel => exact ⟨k + 1, by omega, by go_num, by rw [HW.out, World.drewN_drewN]; exact ⟨_, rfl⟩⟩
      case measure => first | (simp [intOf]; omega) | simp [intOf]
    · obtain rfl : k = l.length := by omega
      have HW := Lib.hid hwr
      clear hwr
      go_wp2_with fail
      go_ret
      exact ⟨rfl, nn, HW.out⟩
end Go.Proofs.YtabceednmgijoaaGreat
