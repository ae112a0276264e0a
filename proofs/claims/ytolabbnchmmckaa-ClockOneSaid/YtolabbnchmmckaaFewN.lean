/-
  Few nodes: the contracts of tompionlaw12.fewVars and FewNodes.
-/
import Derived.Test.YtolabbnchmmckaaScD
import Derived.Test.YtolabbnchmmckaaFew
namespace Go.Proofs.Ytolabbnchmmckaa
open Go.RowKit
def FvRes (l : List Vr) (w : World) (e : Ending) (w' : World) : Prop := (∃ b, e = .returned (.bool b) ∧ Hid (b = true → l.length ≤ 50 ∧ ∀ v ∈ l, VrSm v)) ∧ Below w.heap.size w w'
theorem FvRes.no {l : List Vr} {w w' : World} (h : Below w.heap.size w w') : FvRes l w (.returned (.bool false)) w' := ⟨⟨false, rfl, fun g => by cases g⟩, h⟩
theorem mem_upto {α : Type} {l : List α} {P : α → Prop} (h : ∀ j, j < l.length → ∀ x, l[j]? = some x → P x) : ∀ x ∈ l, P x := fun x hx => by
  obtain ⟨j, hj⟩ := List.getElem?_of_mem hx
  exact h j (List.getElem?_eq_some_iff.1 hj).1 x hj
set_option maxRecDepth 100000 in
set_option maxHeartbeats 2000000 in
theorem fewVars_any (l : List Vr) (A : Option Addr) (cap : Nat) (w : World) (h1 : l.length ≤ cap) (h2 : cap ≤ maxLen) (h : Vrs w w.heap.size A l) :
    Calls Try.prog 57 #[.slice A l.length cap] w (FvRes l w) := by
  have HS := Lib.hid h
  have hl3 : cap ≤ 9223372036854775807 := by unfold maxLen at h2; omega
  clear h
  go_enter Try.func57, Try.ntmps57
  go_wp2_with fail
  go_loopw [9] (fun i wr => ∃ k : Nat, k ≤ l.length ∧ i = .int .i64 k ∧ Hid (∀ j, j < k → ∀ x, l[j]? = some x → VrSm x) ∧ Below w.heap.size w wr) (fun i _ => l.length - (intOf i).toNat)
  case atStart => exact ⟨0, Nat.zero_le _, rfl, fun j h => absurd h (by omega), Below.refl _ _⟩
  case round =>
    obtain ⟨k, hk, rfl, HN, hbr⟩ := hrel
    have hszr := hbr.size
    by_cases hlt : k < l.length
    · obtain ⟨b, off, x, A', cap', rfl, hb, hx, ok, g1, g2, hsl, c0, c1, c2, c3, c4⟩ := (vrs_keep HS.out (keeps_of hbr) (Nat.le_refl _)).vr hlt
      have HX := Lib.hid hx
      have HSL := Lib.hid hsl
      have g3 : cap' ≤ 9223372036854775807 := by unfold maxLen at g2; omega
      clear hx hsl
      by_cases e1 : 30 < x.name.size
      · have e1' : decide (30 < (x.name.size : Int)) = true := by simp; omega
        go_wp2_with fail
        go_ret
        exact FvRes.no (hbr.alloc hszr _)
      have e1' : decide (30 < (x.name.size : Int)) = false := by simp; omega
      by_cases e2 : 6 < x.clock.length
      · have e2' : decide (6 < (x.clock.length : Int)) = true := by simp; omega
        go_wp2_with fail
        go_ret
        exact FvRes.no (hbr.alloc hszr _)
      have e2' : decide (6 < (x.clock.length : Int)) = false := by simp; omega
      go_wp2_with fail
      obtain ⟨wo, rfl⟩ : ∃ wo : World, wo = wr := ⟨_, rfl⟩
      go_loopw [26] (fun i wr => ∃ k : Nat, k ≤ x.clock.length ∧ i = .int .i64 k ∧ Hid (∀ j, j < k → ∀ c, x.clock[j]? = some c → c.name.size ≤ 30) ∧ Below wo.heap.size wo wr) (fun i _ => x.clock.length - (intOf i).toNat)
      case atStart => exact ⟨0, Nat.zero_le _, rfl, fun j h => absurd h (by omega), (Below.refl _ _).alloc (Nat.le_refl _) _⟩
      case round =>
        obtain ⟨q, hq, rfl, HQ, hbq⟩ := hrel
        have hszq := hbq.size
        have hBq := hbr.trans (hbq.mono hszr)
        by_cases hlq : q < x.clock.length
        · obtain ⟨b', off', y, rfl, hb', hy, ys, d0, d1⟩ := (lits_keep HSL.out (keeps_of (hbq.mono hszr)) (Nat.le_refl _)).lit hlq
          have HY := Lib.hid hy
          clear hy
          by_cases e3 : 30 < y.name.size
          · have e3' : decide (30 < (y.name.size : Int)) = true := by simp; omega
            go_wp2_with fail
            go_ret
            exact FvRes.no (hBq.alloc (by omega) _)
          have e3' : decide (30 < (y.name.size : Int)) = false := by simp; omega
          have HQ' := Lib.hid (step_upto (P := fun c : Lt => c.name.size ≤ 30) HQ.out HY.out (by omega))
          go_wp2_with fail
          go_roundw
          case rel => exact ⟨q + 1, by omega, by go_num, HQ', hbq.alloc hszq _⟩
          case measure => simp [intOf]; omega
        · obtain rfl : q = x.clock.length := by omega
          have HN' := Lib.hid (step_upto (P := VrSm) HN.out HX.out ⟨by omega, by omega, mem_upto HQ.out⟩)
          go_wp2_with fail
          go_roundw
          case rel => exact ⟨k + 1, by omega, by go_num, HN', hBq⟩
          case measure => simp [intOf]; omega
    · obtain rfl : k = l.length := by omega
      go_wp2_with fail
      go_ret
      exact ⟨⟨_, rfl, fun g => ⟨by simp at g; omega, mem_upto HN.out⟩⟩, hbr⟩
end Go.Proofs.Ytolabbnchmmckaa
