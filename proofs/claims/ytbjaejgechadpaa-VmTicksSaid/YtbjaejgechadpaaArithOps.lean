/-
  The contracts of arith.Flag, One, Do, Sign.
-/
import Derived.Test.YtbjaejgechadpaaZ
import Derived.RowKit3
namespace Go.Proofs.Ytbjaejgechadpaa.Ar
open Go.RowKit

theorem mod_any (a b : Int) (w : World) :
    Calls Try.prog 130 #[.int .i64 a, .int .i64 b] w fun e w' => e = .returned (.int .i64 (modZ a b)) ∧ w = w' := by
  go_enter Try.func130, Try.ntmps130
  go_wp2_with (go_at_call 129; refine (div_any _ _ _).mono ?_; rintro e w' ⟨rfl, rfl⟩)
  go_ret
  exact ⟨rfl, rfl⟩

def cmpB (op a b : Int) : Bool :=
  if op = 12 then a == b else if op = 13 then a != b else if op = 14 then decide (a < b) else if op = 15 then decide (a ≤ b) else if op = 16 then decide (b < a) else decide (b ≤ a)
def logB (op : Int) (a b : Bool) : Bool := if op = 18 then a && b else if op = 19 then a || b else a != b
def oneV (op a : Int) : Int := if op = 5 then negZ a else if op = 6 then flagZ (a == 0) else 0
def oneB (op : Int) : Bool := op == 5 || op == 6
def doV (op a b : Int) : Int :=
  if op = 7 then addZ a b else if op = 8 then subZ a b else if op = 9 then mulZ a b else if op = 10 then divZ a b else if op = 11 then modZ a b
  else if 12 ≤ op ∧ op ≤ 17 then flagZ (cmpB op a b) else if 18 ≤ op ∧ op ≤ 20 then flagZ (logB op (a != 0) (b != 0)) else 0
def doB (op : Int) : Bool := decide (7 ≤ op) && decide (op ≤ 20)
def signIn (op : Int) : Int := if op = 12 ∨ op = 13 then 0 else if op = 6 ∨ op = 18 ∨ op = 19 ∨ op = 20 then 2 else if 5 ≤ op ∧ op ≤ 17 then 1 else 0
def signOut (op : Int) : Int := if op = 6 ∨ (12 ≤ op ∧ op ≤ 20) then 2 else if 5 ≤ op ∧ op ≤ 11 then 1 else 0
def signB (op : Int) : Bool := decide (5 ≤ op) && decide (op ≤ 20)

theorem flag_any (b : Bool) (w : World) :
    Calls Try.prog 125 #[.bool b] w fun e w' => e = .returned (.int .i64 (flagZ b)) ∧ w = w' := by
  cases b <;>
  · go_enter Try.func125, Try.ntmps125
    go_wp2
    go_ret
    exact ⟨rfl, rfl⟩

theorem compare_any (op a b : Int) (w : World) (h : 12 ≤ op ∧ op ≤ 17) :
    Calls Try.prog 131 #[.int .i64 op, .int .i64 a, .int .i64 b] w fun e w' => e = .returned (.bool (cmpB op a b)) ∧ w = w' := by
  rcases (by omega : op = 12 ∨ op = 13 ∨ op = 14 ∨ op = 15 ∨ op = 16 ∨ op = 17) with rfl | rfl | rfl | rfl | rfl | rfl
  all_goals
    clear h
    go_enter Try.func131, Try.ntmps131
    go_wp2
    go_ret
    exact ⟨rfl, rfl⟩

theorem logic_any (op : Int) (a b : Bool) (w : World) (h : 18 ≤ op ∧ op ≤ 20) :
    Calls Try.prog 132 #[.int .i64 op, .bool a, .bool b] w fun e w' => e = .returned (.bool (logB op a b)) ∧ w = w' := by
  rcases (by omega : op = 18 ∨ op = 19 ∨ op = 20) with rfl | rfl | rfl
  all_goals
    clear h
    cases a <;> cases b <;>
    · go_enter Try.func132, Try.ntmps132
      go_wp2
      go_ret
      exact ⟨rfl, rfl⟩

theorem one_any (op a : Int) (w : World) :
    Calls Try.prog 96 #[.int .i64 op, .int .i64 a] w fun e w' => e = .returned (.tuple #[.int .i64 (oneV op a), .bool (oneB op)]) ∧ w = w' := by
  by_cases h5 : op = 5
  · subst h5
    go_enter Try.func96, Try.ntmps96
    go_wp2_with (go_at_call 124; refine (neg_any _ _).mono ?_; rintro e w' ⟨rfl, rfl⟩)
    go_ret2
    exact ⟨rfl, rfl⟩
  · by_cases h6 : op = 6
    · subst h6
      clear h5
      go_enter Try.func96, Try.ntmps96
      go_wp2_with (go_at_call 125; refine (flag_any _ _).mono ?_; rintro e w' ⟨rfl, rfl⟩)
      go_ret2
      exact ⟨rfl, rfl⟩
    · have e5 : (op == 5) = false := by simp [h5]
      have e6 : (op == 6) = false := by simp [h6]
      have HF := Lib.hid (show oneV op a = 0 from by simp [oneV, h5, h6])
      have HB := Lib.hid (show oneB op = false from by simp [oneB, h5, h6])
      clear h5 h6
      go_enter Try.func96, Try.ntmps96
      go_wp2_with fail
      go_ret2
      exact ⟨by rw [HF.out, HB.out]; rfl, rfl⟩

theorem do_any (op a b : Int) (w : World) :
    Calls Try.prog 97 #[.int .i64 op, .int .i64 a, .int .i64 b] w fun e w' => e = .returned (.tuple #[.int .i64 (doV op a b), .bool (doB op)]) ∧ w = w' := by
  by_cases h : 7 ≤ op ∧ op ≤ 20
  · by_cases hc : op ≤ 11
    · rcases (by omega : op = 7 ∨ op = 8 ∨ op = 9 ∨ op = 10 ∨ op = 11) with rfl | rfl | rfl | rfl | rfl
      all_goals
        clear h hc
        go_enter Try.func97, Try.ntmps97
        go_wp2_with (first | (go_at_call 126; refine (add_any _ _ _).mono ?_; rintro e w' ⟨rfl, rfl⟩) | (go_at_call 127; refine (sub_any _ _ _).mono ?_; rintro e w' ⟨rfl, rfl⟩) | (go_at_call 128; refine (mul_any _ _ _).mono ?_; rintro e w' ⟨rfl, rfl⟩) | (go_at_call 129; refine (div_any _ _ _).mono ?_; rintro e w' ⟨rfl, rfl⟩) | (go_at_call 130; refine (mod_any _ _ _).mono ?_; rintro e w' ⟨rfl, rfl⟩))
        go_ret2
        exact ⟨rfl, rfl⟩
    · by_cases hl : op ≤ 17
      · rcases (by omega : op = 12 ∨ op = 13 ∨ op = 14 ∨ op = 15 ∨ op = 16 ∨ op = 17) with rfl | rfl | rfl | rfl | rfl | rfl
        all_goals
          clear h hc hl
          go_enter Try.func97, Try.ntmps97
          go_wp2_with (first | (go_at_call 131; refine (compare_any _ _ _ _ (by omega)).mono ?_; rintro e w' ⟨rfl, rfl⟩) | (go_at_call 125; refine (flag_any _ _).mono ?_; rintro e w' ⟨rfl, rfl⟩))
          go_ret2
          exact ⟨rfl, rfl⟩
      · rcases (by omega : op = 18 ∨ op = 19 ∨ op = 20) with rfl | rfl | rfl
        all_goals
          clear h hc hl
          go_enter Try.func97, Try.ntmps97
          go_wp2_with (first | (go_at_call 132; refine (logic_any _ _ _ _ (by omega)).mono ?_; rintro e w' ⟨rfl, rfl⟩) | (go_at_call 125; refine (flag_any _ _).mono ?_; rintro e w' ⟨rfl, rfl⟩))
          go_ret2
          exact ⟨rfl, rfl⟩
  · have HF := Lib.hid (show doV op a b = 0 from by
      unfold doV
      rw [if_neg (by omega), if_neg (by omega), if_neg (by omega), if_neg (by omega), if_neg (by omega), if_neg (by omega), if_neg (by omega)])
    have HB := Lib.hid (show doB op = false from by simp [doB]; omega)
    by_cases hlt : op < 7
    · clear h
      go_enter Try.func97, Try.ntmps97
      go_wp2_with fail
      go_ret2
      exact ⟨by rw [HF.out, HB.out]; rfl, rfl⟩
    · have hgt : 20 < op := by omega
      clear h hlt
      go_enter Try.func97, Try.ntmps97
      go_wp2_with fail
      go_ret2
      exact ⟨by rw [HF.out, HB.out]; rfl, rfl⟩

theorem sign_any (op : Int) (w : World) :
    Calls Try.prog 116 #[.int .i64 op] w fun e w' => e = .returned (.tuple #[.int .i64 (signIn op), .int .i64 (signOut op), .bool (signB op)]) ∧ w = w' := by
  by_cases h : 5 ≤ op ∧ op ≤ 20
  · rcases (by omega : op = 5 ∨ op = 6 ∨ op = 7 ∨ op = 8 ∨ op = 9 ∨ op = 10 ∨ op = 11 ∨ op = 12 ∨ op = 13 ∨ op = 14 ∨ op = 15 ∨ op = 16 ∨ op = 17 ∨ op = 18 ∨ op = 19 ∨ op = 20) with rfl | rfl | rfl | rfl | rfl | rfl | rfl | rfl | rfl | rfl | rfl | rfl | rfl | rfl | rfl | rfl
    all_goals
      clear h
      go_enter Try.func116, Try.ntmps116
      go_wp2
      go_ret3
      exact ⟨rfl, rfl⟩
  · have H1 := Lib.hid (show signIn op = 0 from by unfold signIn; rw [if_neg (by omega), if_neg (by omega), if_neg (by omega)])
    have H2 := Lib.hid (show signOut op = 0 from by unfold signOut; rw [if_neg (by omega), if_neg (by omega)])
    have H3 := Lib.hid (show signB op = false from by simp [signB]; omega)
    by_cases hlt : op < 5
    · clear h
      go_enter Try.func116, Try.ntmps116
      go_wp2
      go_ret3
      exact ⟨by rw [H1.out, H2.out, H3.out]; rfl, rfl⟩
    · have hgt : 20 < op := by omega
      clear h hlt
      go_enter Try.func116, Try.ntmps116
      go_wp2
      go_ret3
      exact ⟨by rw [H1.out, H2.out, H3.out]; rfl, rfl⟩
end Go.Proofs.Ytbjaejgechadpaa.Ar
