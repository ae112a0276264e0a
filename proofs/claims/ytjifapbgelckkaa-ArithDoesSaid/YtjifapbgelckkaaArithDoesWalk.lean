/-
  The contracts of tompionref03.One and Do, and the walk of the law ArithDoes.
-/
import Derived.Test.YtjifapbgelckkaaRefDiv
import Derived.Test.YtjifapbgelckkaaArithDo
namespace Go.Proofs.Ytjifapbgelckkaa
open Go.RowKit Ar Z Bz

theorem flag_01 (b : Bool) : flagZ b = 0 ∨ flagZ b = 1 := by cases b <;> simp [flagZ]
theorem rflag_any (b : Bool) (w : World) :
    Calls Try.prog 22 #[.bool b] w fun e w' => e = .returned (.int .i64 (flagZ b)) ∧ w = w' := by
  cases b <;>
  · go_enter Try.func22, Try.ntmps22
    go_wp2
    go_ret
    exact ⟨rfl, rfl⟩
theorem ret_two {x y : Int} {b c : Bool} (h : x = y) (h' : b = c) : Ending.returned (.tuple #[.int .i64 x, .bool b]) = .returned (.tuple #[.int .i64 y, .bool c]) := by rw [h, h']
theorem rone_any (op a : Int) (w : World) (ha : In a) :
    Calls Try.prog 15 #[.int .i64 op, .int .i64 a] w fun e w' => e = .returned (.tuple #[.int .i64 (oneV op a), .bool (oneB op)]) ∧ Below w.heap.size w w' := by
  by_cases h5 : op = 5
  · subst h5
    go_enter Try.func15, Try.ntmps15
    go_wp2_with fail
    refine (rneg_any a _ ha).mono ?_
    rintro e w1 ⟨rfl, hb1⟩
    go_wp2_with fail
    go_ret2
    exact ⟨rfl, hb1⟩
  · by_cases h6 : op = 6
    · subst h6
      clear h5
      go_enter Try.func15, Try.ntmps15
      go_wp2_with (go_at_call 22; refine (rflag_any _ _).mono ?_; rintro e w' ⟨rfl, rfl⟩)
      go_ret2
      exact ⟨rfl, Below.refl _ _⟩
    · have e5 : (op == 5) = false := by simp [h5]
      have e6 : (op == 6) = false := by simp [h6]
      have HF := Lib.hid (show oneV op a = 0 from by simp [oneV, h5, h6])
      have HB := Lib.hid (show oneB op = false from by simp [oneB, h5, h6])
      clear h5 h6
      go_enter Try.func15, Try.ntmps15
      go_wp2_with fail
      go_ret2
      exact ⟨by rw [HF.out, HB.out]; rfl, Below.refl _ _⟩

theorem rdo_cmp (op a b : Int) (w : World) (h : 12 ≤ op ∧ op ≤ 17) :
    Calls Try.prog 17 #[.int .i64 op, .int .i64 a, .int .i64 b] w fun e w' => e = .returned (.tuple #[.int .i64 (doV op a b), .bool (doB op)]) ∧ Below w.heap.size w w' := by
  have k15 : flagZ (decide (a ≤ b)) = flagZ (!decide (b < a)) := by rw [show decide (a ≤ b) = !decide (b < a) from by by_cases h : a ≤ b <;> simp [h] <;> omega]
  have k17 : flagZ (decide (b ≤ a)) = flagZ (!decide (a < b)) := by rw [show decide (b ≤ a) = !decide (a < b) from by by_cases h : b ≤ a <;> simp [h] <;> omega]
  have K15 := Lib.hid k15
  have K17 := Lib.hid k17
  clear k15 k17
  rcases (by omega : op = 12 ∨ op = 13 ∨ op = 14 ∨ op = 15 ∨ op = 16 ∨ op = 17) with rfl | rfl | rfl | rfl | rfl | rfl
  all_goals
    clear h
    go_enter Try.func17, Try.ntmps17
    go_wp2_with (go_at_call 22; refine (rflag_any _ _).mono ?_; rintro e w' ⟨rfl, rfl⟩)
    go_ret2
    exact ⟨by first | rfl | exact (ret_two K15.out rfl).symm | exact (ret_two K17.out rfl).symm, Below.refl _ _⟩
theorem log_val (a b : Bool) : flagZ (logB 18 a b) = wrap64 (flagZ a * flagZ b) ∧ flagZ (logB 19 a b) = flagZ (decide (0 < wrap64 (flagZ a + flagZ b))) ∧ flagZ (logB 20 a b) = flagZ (wrap64 (flagZ a + flagZ b) == 1) := by
  cases a <;> cases b <;> decide +kernel
set_option maxHeartbeats 1000000 in
theorem rdo_log (op a b : Int) (w : World) (h : 18 ≤ op ∧ op ≤ 20) :
    Calls Try.prog 17 #[.int .i64 op, .int .i64 a, .int .i64 b] w fun e w' => e = .returned (.tuple #[.int .i64 (doV op a b), .bool (doB op)]) ∧ Below w.heap.size w w' := by
  have hl := Lib.hid (log_val (a != 0) (b != 0))
  have hfa := flag_01 (a != 0)
  have hfb := flag_01 (b != 0)
  have HD : (doV 18 a b = flagZ (logB 18 (a != 0) (b != 0))) ∧ (doV 19 a b = flagZ (logB 19 (a != 0) (b != 0))) ∧ (doV 20 a b = flagZ (logB 20 (a != 0) (b != 0))) := ⟨rfl, rfl, rfl⟩
  have HD' := Lib.hid HD
  clear HD
  rcases (by omega : op = 18 ∨ op = 19 ∨ op = 20) with rfl | rfl | rfl
  all_goals
    clear h
    go_enter Try.func17, Try.ntmps17
    go_wp2_with fail
    refine (rflag_any _ _).mono ?_
    rintro e w' ⟨rfl, rfl⟩
    go_wp2_with fail
    refine (rflag_any _ _).mono ?_
    rintro e w' ⟨rfl, rfl⟩
    generalize hA : flagZ (a != 0) = A at *
    generalize hB : flagZ (b != 0) = B at *
    clear hA hB
    rcases hfa with rfl | rfl <;> rcases hfb with rfl | rfl
    all_goals
      go_wp2_with (go_at_call 22; refine (rflag_any _ _).mono ?_; rintro e w' ⟨rfl, rfl⟩)
      go_ret2
      refine ⟨?_, Below.refl _ _⟩
      first
        | exact ret_two (by rw [HD'.out.1, hl.out.1]; decide +kernel) rfl
        | exact ret_two (by rw [HD'.out.2.1, hl.out.2.1]; decide +kernel) rfl
        | exact ret_two (by rw [HD'.out.2.2, hl.out.2.2]; decide +kernel) rfl
theorem rdo_num (op a b : Int) (w : World) (ha : In a) (hb : In b) (h : 7 ≤ op ∧ op ≤ 11) :
    Calls Try.prog 17 #[.int .i64 op, .int .i64 a, .int .i64 b] w fun e w' => e = .returned (.tuple #[.int .i64 (doV op a b), .bool (doB op)]) ∧ Below w.heap.size w w' := by
  rcases (by omega : op = 7 ∨ op = 8 ∨ op = 9 ∨ op = 10 ∨ op = 11) with rfl | rfl | rfl | rfl | rfl
  · go_enter Try.func17, Try.ntmps17
    go_wp2_with fail
    refine (radd_any a b _ ha hb).mono ?_
    rintro e w1 ⟨rfl, hb1⟩
    go_wp2_with fail
    go_ret2
    exact ⟨rfl, hb1⟩
  · have HS := Lib.hid (sub_eq a b)
    go_enter Try.func17, Try.ntmps17
    go_wp2_with fail
    refine (rneg_any b _ hb).mono ?_
    rintro e w1 ⟨rfl, hb1⟩
    have h1 := hb1.size
    go_wp2_with fail
    refine (radd_any a (negZ b) _ ha (in_neg _)).mono ?_
    rintro e w2 ⟨rfl, hb2⟩
    have hb02 := hb1.trans (hb2.mono h1)
    go_wp2_with fail
    go_ret2
    exact ⟨ret_two HS.out.symm rfl, hb02⟩
  · go_enter Try.func17, Try.ntmps17
    go_wp2_with fail
    refine (rmul_any a b _ ha hb).mono ?_
    rintro e w1 ⟨rfl, hb1⟩
    go_wp2_with fail
    go_ret2
    exact ⟨rfl, hb1⟩
  · go_enter Try.func17, Try.ntmps17
    go_wp2_with fail
    refine (rdiv_any a b _ ha hb).mono ?_
    rintro e w1 ⟨rfl, hb1⟩
    go_wp2_with fail
    go_ret2
    exact ⟨rfl, hb1⟩
  · go_enter Try.func17, Try.ntmps17
    go_wp2_with fail
    refine (rmod_any a b _ ha hb).mono ?_
    rintro e w1 ⟨rfl, hb1⟩
    go_wp2_with fail
    go_ret2
    exact ⟨rfl, hb1⟩
theorem rdo_no (op a b : Int) (w : World) (h : op < 7 ∨ 20 < op) :
    Calls Try.prog 17 #[.int .i64 op, .int .i64 a, .int .i64 b] w fun e w' => e = .returned (.tuple #[.int .i64 (doV op a b), .bool (doB op)]) ∧ Below w.heap.size w w' := by
  have HF := Lib.hid (show doV op a b = 0 from by
      unfold doV
      rw [if_neg (by omega), if_neg (by omega), if_neg (by omega), if_neg (by omega), if_neg (by omega), if_neg (by omega), if_neg (by omega)])
  have HB := Lib.hid (show doB op = false from by simp [doB]; omega)
  rcases h with h | h
  all_goals
    go_enter Try.func17, Try.ntmps17
    go_wp2_with (go_at_call 22; refine (rflag_any _ _).mono ?_; rintro e w' ⟨rfl, rfl⟩)
    go_ret2
    exact ⟨by rw [HF.out, HB.out]; rfl, Below.refl _ _⟩
theorem rdo_any (op a b : Int) (w : World) (ha : In a) (hb : In b) :
    Calls Try.prog 17 #[.int .i64 op, .int .i64 a, .int .i64 b] w fun e w' => e = .returned (.tuple #[.int .i64 (doV op a b), .bool (doB op)]) ∧ Below w.heap.size w w' := by
  by_cases h1 : 7 ≤ op ∧ op ≤ 11
  · exact rdo_num op a b w ha hb h1
  · by_cases h2 : 12 ≤ op ∧ op ≤ 17
    · exact rdo_cmp op a b w h2
    · by_cases h3 : 18 ≤ op ∧ op ≤ 20
      · exact rdo_log op a b w h3
      · exact rdo_no op a b w (by omega)

namespace arithDoes
theorem walk (a0 : Int) (a1 : Int) (a2 : Int) (_w0 : (Lit.int .i64 a0).wf = true) (w1 : (Lit.int .i64 a1).wf = true) (w2 : (Lit.int .i64 a2).wf = true) (w : World) :
    Calls Try.prog 5 #[.int .i64 a0, .int .i64 a1, .int .i64 a2] w fun e w' => e = .returned (.bool true) ∧ Below w.heap.size w w' := by
  have i1 := wf_in w1
  have i2 := wf_in w2
  clear w1 w2
  go_enter Try.func5, Try.ntmps5
  go_wp2_with fail
  refine (awake_any _).mono ?_
  rintro e w' ⟨rfl, rfl⟩
  go_wp2_with fail
  refine (one_any a0 a1 _).mono ?_
  rintro e w' ⟨rfl, rfl⟩
  go_wp2_with fail
  refine (rone_any a0 a1 _ i1).mono ?_
  rintro e w1 ⟨rfl, hb1⟩
  have h1 := hb1.size
  go_wp2_with fail
  refine (do_any a0 a1 a2 _).mono ?_
  rintro e w' ⟨rfl, rfl⟩
  go_wp2_with fail
  refine (rdo_any a0 a1 a2 _ i1 i2).mono ?_
  rintro e w2 ⟨rfl, hb2⟩
  have hb02 := hb1.trans (hb2.mono h1)
  clear hb1 hb2 h1 i1 i2
  generalize oneV a0 a1 = x
  generalize doV a0 a1 a2 = y
  have f1 : flagZ true = 1 := rfl
  have f2 : flagZ false = 0 := rfl
  generalize oneB a0 = p
  generalize doB a0 = q
  go_wp2_with (go_at_call 18; refine (flag_any _ _).mono ?_; rintro e w' ⟨rfl, rfl⟩)
  go_ret
  exact ⟨rfl, hb02⟩
end arithDoes
end Go.Proofs.Ytjifapbgelckkaa
