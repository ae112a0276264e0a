/-
  The walk of the law ArithDivides, and of 'awake'.
-/
import Derived.Test.YtjifapbgelckkaaZ
import Derived.RowKit3
namespace Go.Proofs.Ytjifapbgelckkaa
open Go.RowKit Ar Z

theorem mod_any (a b : Int) (w : World) :
    Calls Try.prog 9 #[.int .i64 a, .int .i64 b] w fun e w' => e = .returned (.int .i64 (modZ a b)) ∧ w = w' := by
  go_enter Try.func9, Try.ntmps9
  go_wp2_with (go_at_call 8; refine (div_any _ _ _).mono ?_; rintro e w' ⟨rfl, rfl⟩)
  go_ret
  exact ⟨rfl, rfl⟩

theorem awake_any (w : World) :
    Calls Try.prog 7 #[] w fun e w' => e = .returned (.bool true) ∧ w = w' := by
  have e1 : divZ (-7) 2 = -3 := by decide +kernel
  have e2 : modZ (-7) 2 = -1 := by decide +kernel
  have e3 : divZ 5 0 = 0 := by decide +kernel
  have e4 : modZ 5 0 = 5 := by decide +kernel
  go_enter Try.func7, Try.ntmps7
  go_wp2_with (first | (go_at_call 8; refine (div_any _ _ _).mono ?_; rintro e w' ⟨rfl, rfl⟩) | (go_at_call 9; refine (mod_any _ _ _).mono ?_; rintro e w' ⟨rfl, rfl⟩))
  go_ret
  exact ⟨rfl, rfl⟩

namespace arithDivides
theorem core (a b q m s : Int) (w : World) (hq : divZ a b = q) (hm : modZ a b = m) (hs : addZ (mulZ q b) m = a) (hn : negZ b = s)
    (h0 : b = 0 → q = 0 ∧ m = a) (h1 : 0 < b → m < b ∧ s < m) (h2 : b < 0 → b < m ∧ (b = -9223372036854775808 ∨ m < s)) (h3 : b ≠ 0 → m ≠ 0 → (m < 0 ↔ a < 0)) :
    Calls Try.prog 3 #[.int .i64 a, .int .i64 b] w fun e w' => e = .returned (.bool true) ∧ Grown w w' := by
  rcases Int.lt_trichotomy b 0 with hb | hb | hb
  · obtain ⟨g1, g2⟩ := h2 hb
    have g3 := h3 (by omega)
    clear h0 h1 h2 h3
    have b0 : (b == 0) = false := by simp; omega
    have b1 : decide (b < 0) = true := by simp [hb]
    have b2 : decide (0 < b) = false := by simp; omega
    by_cases hz : m = 0
    · subst hz
      clear g3
      go_enter Try.func3, Try.ntmps3
      go_wp2_with (first | (go_at_call 7; refine (awake_any _).mono ?_; rintro e w' ⟨rfl, rfl⟩) | (go_at_call 8; refine (div_any _ _ _).mono ?_; rintro e w' ⟨rfl, rfl⟩) | (go_at_call 9; refine (mod_any _ _ _).mono ?_; rintro e w' ⟨rfl, rfl⟩) | (go_at_call 11; refine (mul_any _ _ _).mono ?_; rintro e w' ⟨rfl, rfl⟩) | (go_at_call 10; refine (add_any _ _ _).mono ?_; rintro e w' ⟨rfl, rfl⟩) | (go_at_call 12; refine (neg_any _ _).mono ?_; rintro e w' ⟨rfl, rfl⟩))
      go_ret
      exact ⟨rfl, Grown.refl _⟩
    · have z0 : (m == 0) = false := by simp [hz]
      have z1 : decide (b < m) = true := by simp [g1]
      have z2 : (decide (m < 0) == decide (a < 0)) = true := by simp [g3 hz]
      clear g3
      by_cases hl : b = -9223372036854775808
      · have l0 : (b == -9223372036854775808) = true := by simp [hl]
        have HL := Lib.hid hl
        clear hl g2
        go_enter Try.func3, Try.ntmps3
        go_wp2_with (first | (go_at_call 7; refine (awake_any _).mono ?_; rintro e w' ⟨rfl, rfl⟩) | (go_at_call 8; refine (div_any _ _ _).mono ?_; rintro e w' ⟨rfl, rfl⟩) | (go_at_call 9; refine (mod_any _ _ _).mono ?_; rintro e w' ⟨rfl, rfl⟩) | (go_at_call 11; refine (mul_any _ _ _).mono ?_; rintro e w' ⟨rfl, rfl⟩) | (go_at_call 10; refine (add_any _ _ _).mono ?_; rintro e w' ⟨rfl, rfl⟩) | (go_at_call 12; refine (neg_any _ _).mono ?_; rintro e w' ⟨rfl, rfl⟩))
        go_ret
        exact ⟨rfl, Grown.refl _⟩
      · have l0 : (b == -9223372036854775808) = false := by simp [hl]
        have l1 : decide (m < s) = true := by simp; omega
        go_enter Try.func3, Try.ntmps3
        go_wp2_with (first | (go_at_call 7; refine (awake_any _).mono ?_; rintro e w' ⟨rfl, rfl⟩) | (go_at_call 8; refine (div_any _ _ _).mono ?_; rintro e w' ⟨rfl, rfl⟩) | (go_at_call 9; refine (mod_any _ _ _).mono ?_; rintro e w' ⟨rfl, rfl⟩) | (go_at_call 11; refine (mul_any _ _ _).mono ?_; rintro e w' ⟨rfl, rfl⟩) | (go_at_call 10; refine (add_any _ _ _).mono ?_; rintro e w' ⟨rfl, rfl⟩) | (go_at_call 12; refine (neg_any _ _).mono ?_; rintro e w' ⟨rfl, rfl⟩))
        go_ret
        exact ⟨rfl, Grown.refl _⟩
  · subst hb
    obtain ⟨rfl, rfl⟩ := h0 rfl
    clear h0 h1 h2 h3
    go_enter Try.func3, Try.ntmps3
    go_wp2_with (first | (go_at_call 7; refine (awake_any _).mono ?_; rintro e w' ⟨rfl, rfl⟩) | (go_at_call 8; refine (div_any _ _ _).mono ?_; rintro e w' ⟨rfl, rfl⟩) | (go_at_call 9; refine (mod_any _ _ _).mono ?_; rintro e w' ⟨rfl, rfl⟩) | (go_at_call 11; refine (mul_any _ _ _).mono ?_; rintro e w' ⟨rfl, rfl⟩) | (go_at_call 10; refine (add_any _ _ _).mono ?_; rintro e w' ⟨rfl, rfl⟩) | (go_at_call 12; refine (neg_any _ _).mono ?_; rintro e w' ⟨rfl, rfl⟩))
    go_ret
    exact ⟨rfl, Grown.refl _⟩
  · obtain ⟨g1, g2⟩ := h1 hb
    have g3 := h3 (by omega)
    clear h0 h1 h2 h3
    have b0 : (b == 0) = false := by simp; omega
    have b1 : decide (b < 0) = false := by simp; omega
    have b2 : decide (0 < b) = true := by simp; omega
    by_cases hz : m = 0
    · subst hz
      clear g3
      go_enter Try.func3, Try.ntmps3
      go_wp2_with (first | (go_at_call 7; refine (awake_any _).mono ?_; rintro e w' ⟨rfl, rfl⟩) | (go_at_call 8; refine (div_any _ _ _).mono ?_; rintro e w' ⟨rfl, rfl⟩) | (go_at_call 9; refine (mod_any _ _ _).mono ?_; rintro e w' ⟨rfl, rfl⟩) | (go_at_call 11; refine (mul_any _ _ _).mono ?_; rintro e w' ⟨rfl, rfl⟩) | (go_at_call 10; refine (add_any _ _ _).mono ?_; rintro e w' ⟨rfl, rfl⟩) | (go_at_call 12; refine (neg_any _ _).mono ?_; rintro e w' ⟨rfl, rfl⟩))
      go_ret
      exact ⟨rfl, Grown.refl _⟩
    · have z0 : (m == 0) = false := by simp [hz]
      have z1 : decide (m < b) = true := by simp [g1]
      have z3 : decide (s < m) = true := by simp [g2]
      have z2 : (decide (m < 0) == decide (a < 0)) = true := by simp [g3 hz]
      clear g3
      go_enter Try.func3, Try.ntmps3
      go_wp2_with (first | (go_at_call 7; refine (awake_any _).mono ?_; rintro e w' ⟨rfl, rfl⟩) | (go_at_call 8; refine (div_any _ _ _).mono ?_; rintro e w' ⟨rfl, rfl⟩) | (go_at_call 9; refine (mod_any _ _ _).mono ?_; rintro e w' ⟨rfl, rfl⟩) | (go_at_call 11; refine (mul_any _ _ _).mono ?_; rintro e w' ⟨rfl, rfl⟩) | (go_at_call 10; refine (add_any _ _ _).mono ?_; rintro e w' ⟨rfl, rfl⟩) | (go_at_call 12; refine (neg_any _ _).mono ?_; rintro e w' ⟨rfl, rfl⟩))
      go_ret
      exact ⟨rfl, Grown.refl _⟩
theorem walk (a0 : Int) (a1 : Int) (w0 : (Lit.int .i64 a0).wf = true) (w1 : (Lit.int .i64 a1).wf = true) (w : World) :
    Calls Try.prog 3 #[.int .i64 a0, .int .i64 a1] w fun e w' => e = .returned (.bool true) ∧ Grown w w' := by
  have i0 := wf_in w0
  have i1 := wf_in w1
  refine core a0 a1 _ _ _ w rfl rfl (div_mod a1 i0) rfl ?_ ?_ ?_ ?_
  · rintro rfl; exact ⟨div_zero _, mod_zero i0⟩
  · intro h; have := mod_lt i0 (b := a1) (by omega)
    unfold In at i1
    have e : negZ a1 = -a1 := wrap_in (by omega)
    rw [e]; omega
  · intro h; have := mod_lt i0 (b := a1) (by omega)
    unfold In at i1
    refine ⟨by omega, ?_⟩
    by_cases hl : a1 = -9223372036854775808
    · exact .inl hl
    · have e : negZ a1 = -a1 := wrap_in (by omega)
      rw [e]; omega
  · intro h h'; exact mod_sign i0 h h'
end arithDivides
end Go.Proofs.Ytjifapbgelckkaa
