/-
  The contracts of package arith: each call returns the number that its text says, wrapped to 64 bits, and leaves the world as it was. Plain facts on numbers of 64 bits that go round: sums, products, quotients, remainders. No program in sight. The contracts of arith.Flag, One, Do, Sign. The contract of tompionref03.Sign.
-/
import Derived.Test.YtbjaejgechadpaaChecked
import Derived.WalkKit
import Derived.Lib.Hide
import Derived.RowKit3
import Derived.Test.YtbjaejgechadpaaMem
namespace Go.Proofs.Ytbjaejgechadpaa.Ar
open Go.RowKit

def addZ (a b : Int) : Int := wrap64 (a + b)
def subZ (a b : Int) : Int := wrap64 (a - b)
def mulZ (a b : Int) : Int := wrap64 (a * b)
def negZ (a : Int) : Int := wrap64 (-a)
def divZ (a b : Int) : Int := if b = 0 then 0 else if b = -1 then wrap64 (-a) else wrap64 (a.tdiv b)
def modZ (a b : Int) : Int := subZ a (mulZ (divZ a b) b)
def flagZ (b : Bool) : Int := if b then 1 else 0

theorem add_any (a b : Int) (w : World) :
    Calls Try.prog 126 #[.int .i64 a, .int .i64 b] w fun e w' => e = .returned (.int .i64 (addZ a b)) ∧ w = w' := by
  go_enter Try.func126, Try.ntmps126
  go_wp2
  go_ret
  exact ⟨rfl, rfl⟩
theorem mul_any (a b : Int) (w : World) :
    Calls Try.prog 128 #[.int .i64 a, .int .i64 b] w fun e w' => e = .returned (.int .i64 (mulZ a b)) ∧ w = w' := by
  go_enter Try.func128, Try.ntmps128
  go_wp2
  go_ret
  exact ⟨rfl, rfl⟩
theorem neg_any (a : Int) (w : World) :
    Calls Try.prog 124 #[.int .i64 a] w fun e w' => e = .returned (.int .i64 (negZ a)) ∧ w = w' := by
  go_enter Try.func124, Try.ntmps124
  go_wp2
  go_ret
  exact ⟨rfl, rfl⟩
theorem sub_any (a b : Int) (w : World) :
    Calls Try.prog 127 #[.int .i64 a, .int .i64 b] w fun e w' => e = .returned (.int .i64 (subZ a b)) ∧ w = w' := by
  go_enter Try.func127, Try.ntmps127
  go_wp2
  go_ret
  exact ⟨rfl, rfl⟩
theorem div_any (a b : Int) (w : World) :
    Calls Try.prog 129 #[.int .i64 a, .int .i64 b] w fun e w' => e = .returned (.int .i64 (divZ a b)) ∧ w = w' := by
  by_cases h0 : b = 0
  · subst h0
    go_enter Try.func129, Try.ntmps129
    go_wp2
    go_ret
    exact ⟨rfl, rfl⟩
  · by_cases h1 : b = -1
    · subst h1
      go_enter Try.func129, Try.ntmps129
      go_wp2
      go_ret
      exact ⟨rfl, rfl⟩
    · have e0 : (b == 0) = false := by simp [h0]
      have e1 : (b == -1) = false := by simp [h1]
      have hf : divZ a b = wrap64 (a.tdiv b) := by simp [divZ, h0, h1]
      have HF := Lib.hid hf
      clear hf
      go_enter Try.func129, Try.ntmps129
      go_wp2
      go_ret
      exact ⟨by rw [HF.out]; rfl, rfl⟩
end Go.Proofs.Ytbjaejgechadpaa.Ar
namespace Go.Proofs.Ytbjaejgechadpaa.Z
open Go.RowKit Ar

theorem wrap_bmod (n : Int) : wrap64 n = Int.bmod n 18446744073709551616 := by
  unfold wrap64
  rw [Int.bmod_def]
  split <;> omega
theorem wrap_lo (n : Int) : -9223372036854775808 ≤ wrap64 n ∧ wrap64 n ≤ 9223372036854775807 := by
  unfold wrap64; omega
theorem wrap_in {n : Int} (h : -9223372036854775808 ≤ n ∧ n ≤ 9223372036854775807) : wrap64 n = n := by
  unfold wrap64; omega
def In (n : Int) : Prop := -9223372036854775808 ≤ n ∧ n ≤ 9223372036854775807
theorem wf_in {n : Int} (h : (Lit.int .i64 n).wf = true) : In n := by
  simpa [In, Lit.wf, IntKind.min, IntKind.max, IntKind.signed, IntKind.bits] using h
theorem in_add (a b : Int) : In (addZ a b) := wrap_lo _
theorem in_neg (a : Int) : In (negZ a) := wrap_lo _
theorem in_sub (a b : Int) : In (subZ a b) := wrap_lo _
theorem in_mul (a b : Int) : In (mulZ a b) := wrap_lo _
theorem in_mod (a b : Int) : In (modZ a b) := wrap_lo _
theorem in_div (a b : Int) : In (divZ a b) := by
  unfold divZ
  split
  · unfold In; omega
  · split
    · exact wrap_lo _
    · exact wrap_lo _

theorem add_comm (a b : Int) : addZ a b = addZ b a := by simp only [addZ, Int.add_comm]
theorem mul_comm (a b : Int) : mulZ a b = mulZ b a := by simp only [mulZ, Int.mul_comm]
theorem add_assoc (a b c : Int) : addZ (addZ a b) c = addZ a (addZ b c) := by
  simp only [addZ, wrap_bmod, Int.bmod_add_bmod, Int.add_bmod_bmod, Int.add_assoc]
theorem mul_assoc (a b c : Int) : mulZ (mulZ a b) c = mulZ a (mulZ b c) := by
  simp only [mulZ, wrap_bmod, Int.bmod_mul_bmod, Int.mul_bmod_bmod, Int.mul_assoc]
theorem mul_add (a b c : Int) : mulZ a (addZ b c) = addZ (mulZ a b) (mulZ a c) := by
  simp only [mulZ, addZ, wrap_bmod, Int.mul_bmod_bmod, Int.bmod_add_bmod, Int.add_bmod_bmod, Int.mul_add]
theorem sub_eq (a b : Int) : subZ a b = addZ a (negZ b) := by
  simp only [subZ, addZ, negZ, wrap_bmod, Int.add_bmod_bmod, Int.sub_eq_add_neg]
theorem add_neg (a : Int) : addZ a (negZ a) = 0 := by
  simp only [addZ, negZ, wrap_bmod, Int.add_bmod_bmod, Int.add_right_neg]; rfl
theorem mul_one {a : Int} (h : In a) : mulZ a 1 = a := by
  unfold mulZ; rw [Int.mul_one]; exact wrap_in h
theorem mul_neg_one (a : Int) : mulZ a (-1) = negZ a := by
  unfold mulZ negZ; rw [Int.mul_neg, Int.mul_one]

/-- the number is its quotient times the divisor and its remainder together -/
theorem div_mod {a : Int} (b : Int) (h : In a) : addZ (mulZ (divZ a b) b) (modZ a b) = a := by
  unfold modZ subZ addZ
  rw [wrap_bmod, wrap_bmod, Int.add_bmod_bmod]
  rw [show mulZ (divZ a b) b + (a - mulZ (divZ a b) b) = a from by omega, ← wrap_bmod]
  exact wrap_in h
theorem div_zero (a : Int) : divZ a 0 = 0 := by simp [divZ]
theorem mod_zero {a : Int} (h : In a) : modZ a 0 = a := by
  simp only [modZ, subZ, mulZ, divZ, if_true, Int.mul_zero]
  rw [wrap_in (n := 0) (by omega), Int.sub_zero]; exact wrap_in h

theorem tdiv_bound (a b : Int) : (a.tdiv b).natAbs ≤ a.natAbs := by
  rw [Int.natAbs_tdiv]; exact Nat.div_le_self _ _
theorem tmod_eq (a b : Int) : a.tdiv b * b = a - a.tmod b := by
  have := Int.tdiv_mul_add_tmod a b; omega
theorem mod_tmod {a b : Int} (ha : In a) (h0 : b ≠ 0) : modZ a b = a.tmod b := by
  unfold In at ha
  by_cases h1 : b = -1
  · subst h1
    have e : divZ a (-1) = wrap64 (-a) := rfl
    have z : a.tmod (-1) = 0 := by simp
    rw [z, modZ, e, mulZ, subZ]
    unfold wrap64
    omega
  · have hb := tdiv_bound a b
    have e : divZ a b = a.tdiv b := by
      simp only [divZ, h0, h1, if_false]
      have h2 : a.tdiv b ≠ 9223372036854775808 := by
        intro hq
        have hm : (a.tdiv b).natAbs * b.natAbs ≤ a.natAbs := by
          rw [Int.natAbs_tdiv]; exact Nat.div_mul_le_self _ _
        have hb2 : 2 ≤ b.natAbs ∨ b = 1 := by omega
        rcases hb2 with hb2 | hb2
        · rw [hq] at hm
          have := Nat.mul_le_mul_left (Int.natAbs 9223372036854775808) hb2
          omega
        · subst hb2; simp at hq; omega
      exact wrap_in (by omega)
    have hm : (a.tdiv b * b).natAbs ≤ a.natAbs := by
      rw [Int.natAbs_mul, Int.natAbs_tdiv]; exact Nat.div_mul_le_self _ _
    have hs := tmod_eq a b
    have hbd : (a.tmod b).natAbs ≤ a.natAbs := by
      rw [Int.natAbs_tmod]; exact Nat.mod_le _ _
    have hne : a.tdiv b * b ≠ 9223372036854775808 := by
      rw [hs]; intro hc
      have hsg : 0 ≤ a → 0 ≤ a.tmod b := fun h => Int.tmod_nonneg _ h
      have hsg2 : a ≤ 0 → a.tmod b ≤ 0 := fun h => by
        have := Int.tmod_nonneg b (a := -a) (by omega); rw [Int.neg_tmod] at this; omega
      omega
    rw [modZ, e, mulZ, wrap_in (by omega), subZ, hs, wrap_in (by omega)]; omega
theorem mod_lt {a b : Int} (ha : In a) (h0 : b ≠ 0) : (modZ a b).natAbs < b.natAbs := by
  rw [mod_tmod ha h0, Int.natAbs_tmod]; exact Nat.mod_lt _ (by omega)
theorem mod_sign {a b : Int} (ha : In a) (h0 : b ≠ 0) (hm : modZ a b ≠ 0) : (modZ a b < 0 ↔ a < 0) := by
  rw [mod_tmod ha h0] at hm ⊢
  have hsg : 0 ≤ a → 0 ≤ a.tmod b := fun h => Int.tmod_nonneg _ h
  have hsg2 : a ≤ 0 → a.tmod b ≤ 0 := fun h => by
    have := Int.tmod_nonneg b (a := -a) (by omega); rw [Int.neg_tmod] at this; omega
  omega
end Go.Proofs.Ytbjaejgechadpaa.Z
namespace Go.Proofs.Ytbjaejgechadpaa.Ar
open Go.RowKit

theorem mod_any (a b : Int) (w : World) :
    Calls Try.prog 130 #[.int .i64 a, .int .i64 b] w fun e w' => e = .returned (.int .i64 (modZ a b)) ∧ w = w' := by
  go_enter Try.func130, Try.ntmps130
  go_wp2_with (go_at_call 129; refine (div_any _ _ _).mono ?_; rintro e w' ⟨rfl, rfl⟩)
  go_ret
  exact ⟨rfl, rfl⟩

def cmpB (op a b : Int) : Bool :=
  if op = 12 then a == b else if op = 13 then a != b else if op = 14 then decide (a < b) else if op = 15 then decide (a ≤ b) else if op = 16 then decide (b < a) else decide (b ≤ a)
def logB (op : Int) (a b : Bool) : Bool := if op = 18 then a && b else if op = 19 then a || b else a != b
def oneV (op a : Int) : Int := if op = 5 then negZ a else if op = 6 then flagZ (a == 0) else 0
def oneB (op : Int) : Bool := op == 5 || op == 6
def doV (op a b : Int) : Int :=
  if op = 7 then addZ a b else if op = 8 then subZ a b else if op = 9 then mulZ a b else if op = 10 then divZ a b else if op = 11 then modZ a b
  else if 12 ≤ op ∧ op ≤ 17 then flagZ (cmpB op a b) else if 18 ≤ op ∧ op ≤ 20 then flagZ (logB op (a != 0) (b != 0)) else 0
def doB (op : Int) : Bool := decide (7 ≤ op) && decide (op ≤ 20)
def signIn (op : Int) : Int := if op = 12 ∨ op = 13 then 0 else if op = 6 ∨ op = 18 ∨ op = 19 ∨ op = 20 then 2 else if 5 ≤ op ∧ op ≤ 17 then 1 else 0
def signOut (op : Int) : Int := if op = 6 ∨ (12 ≤ op ∧ op ≤ 20) then 2 else if 5 ≤ op ∧ op ≤ 11 then 1 else 0
def signB (op : Int) : Bool := decide (5 ≤ op) && decide (op ≤ 20)

theorem flag_any (b : Bool) (w : World) :
    Calls Try.prog 125 #[.bool b] w fun e w' => e = .returned (.int .i64 (flagZ b)) ∧ w = w' := by
  cases b <;>
  · go_enter Try.func125, Try.ntmps125
    go_wp2
    go_ret
    exact ⟨rfl, rfl⟩

theorem compare_any (op a b : Int) (w : World) (h : 12 ≤ op ∧ op ≤ 17) :
    Calls Try.prog 131 #[.int .i64 op, .int .i64 a, .int .i64 b] w fun e w' => e = .returned (.bool (cmpB op a b)) ∧ w = w' := by
  rcases (by omega : op = 12 ∨ op = 13 ∨ op = 14 ∨ op = 15 ∨ op = 16 ∨ op = 17) with rfl | rfl | rfl | rfl | rfl | rfl
  all_goals
    clear h
    go_enter Try.func131, Try.ntmps131
    go_wp2
    go_ret
    exact ⟨rfl, rfl⟩

theorem logic_any (op : Int) (a b : Bool) (w : World) (h : 18 ≤ op ∧ op ≤ 20) :
    Calls Try.prog 132 #[.int .i64 op, .bool a, .bool b] w fun e w' => e = .returned (.bool (logB op a b)) ∧ w = w' := by
  rcases (by omega : op = 18 ∨ op = 19 ∨ op = 20) with rfl | rfl | rfl
  all_goals
    clear h
    cases a <;> cases b <;>
    · go_enter Try.func132, Try.ntmps132
      go_wp2
      go_ret
      exact ⟨rfl, rfl⟩

theorem one_any (op a : Int) (w : World) :
    Calls Try.prog 96 #[.int .i64 op, .int .i64 a] w fun e w' => e = .returned (.tuple #[.int .i64 (oneV op a), .bool (oneB op)]) ∧ w = w' := by
  by_cases h5 : op = 5
  · subst h5
    go_enter Try.func96, Try.ntmps96
    go_wp2_with (go_at_call 124; refine (neg_any _ _).mono ?_; rintro e w' ⟨rfl, rfl⟩)
    go_ret2
    exact ⟨rfl, rfl⟩
  · by_cases h6 : op = 6
    · subst h6
      clear h5
      go_enter Try.func96, Try.ntmps96
      go_wp2_with (go_at_call 125; refine (flag_any _ _).mono ?_; rintro e w' ⟨rfl, rfl⟩)
      go_ret2
      exact ⟨rfl, rfl⟩
    · have e5 : (op == 5) = false := by simp [h5]
      have e6 : (op == 6) = false := by simp [h6]
      have HF := Lib.hid (show oneV op a = 0 from by simp [oneV, h5, h6])
      have HB := Lib.hid (show oneB op = false from by simp [oneB, h5, h6])
      clear h5 h6
      go_enter Try.func96, Try.ntmps96
      go_wp2_with fail
      go_ret2
      exact ⟨by rw [HF.out, HB.out]; rfl, rfl⟩

theorem do_any (op a b : Int) (w : World) :
    Calls Try.prog 97 #[.int .i64 op, .int .i64 a, .int .i64 b] w fun e w' => e = .returned (.tuple #[.int .i64 (doV op a b), .bool (doB op)]) ∧ w = w' := by
  by_cases h : 7 ≤ op ∧ op ≤ 20
  · by_cases hc : op ≤ 11
    · rcases (by omega : op = 7 ∨ op = 8 ∨ op = 9 ∨ op = 10 ∨ op = 11) with rfl | rfl | rfl | rfl | rfl
      all_goals
        clear h hc
        go_enter Try.func97, Try.ntmps97
        go_wp2_with (first | (go_at_call 126; refine (add_any _ _ _).mono ?_; rintro e w' ⟨rfl, rfl⟩) | (go_at_call 127; refine (sub_any _ _ _).mono ?_; rintro e w' ⟨rfl, rfl⟩) | (go_at_call 128; refine (mul_any _ _ _).mono ?_; rintro e w' ⟨rfl, rfl⟩) | (go_at_call 129; refine (div_any _ _ _).mono ?_; rintro e w' ⟨rfl, rfl⟩) | (go_at_call 130; refine (mod_any _ _ _).mono ?_; rintro e w' ⟨rfl, rfl⟩))
        go_ret2
        exact ⟨rfl, rfl⟩
    · by_cases hl : op ≤ 17
      · rcases (by omega : op = 12 ∨ op = 13 ∨ op = 14 ∨ op = 15 ∨ op = 16 ∨ op = 17) with rfl | rfl | rfl | rfl | rfl | rfl
        all_goals
          clear h hc hl
          go_enter Try.func97, Try.ntmps97
          go_wp2_with (first | (go_at_call 131; refine (compare_any _ _ _ _ (by omega)).mono ?_; rintro e w' ⟨rfl, rfl⟩) | (go_at_call 125; refine (flag_any _ _).mono ?_; rintro e w' ⟨rfl, rfl⟩))
          go_ret2
          exact ⟨rfl, rfl⟩
      · rcases (by omega : op = 18 ∨ op = 19 ∨ op = 20) with rfl | rfl | rfl
        all_goals
          clear h hc hl
          go_enter Try.func97, Try.ntmps97
          go_wp2_with (first | (go_at_call 132; refine (logic_any _ _ _ _ (by omega)).mono ?_; rintro e w' ⟨rfl, rfl⟩) | (go_at_call 125; refine (flag_any _ _).mono ?_; rintro e w' ⟨rfl, rfl⟩))
          go_ret2
          exact ⟨rfl, rfl⟩
  · have HF := Lib.hid (show doV op a b = 0 from by
      unfold doV
      rw [if_neg (by omega), if_neg (by omega), if_neg (by omega), if_neg (by omega), if_neg (by omega), if_neg (by omega), if_neg (by omega)])
    have HB := Lib.hid (show doB op = false from by simp [doB]; omega)
    by_cases hlt : op < 7
    · clear h
      go_enter Try.func97, Try.ntmps97
      go_wp2_with fail
      go_ret2
      exact ⟨by rw [HF.out, HB.out]; rfl, rfl⟩
    · have hgt : 20 < op := by omega
      clear h hlt
      go_enter Try.func97, Try.ntmps97
      go_wp2_with fail
      go_ret2
      exact ⟨by rw [HF.out, HB.out]; rfl, rfl⟩

theorem sign_any (op : Int) (w : World) :
    Calls Try.prog 116 #[.int .i64 op] w fun e w' => e = .returned (.tuple #[.int .i64 (signIn op), .int .i64 (signOut op), .bool (signB op)]) ∧ w = w' := by
  by_cases h : 5 ≤ op ∧ op ≤ 20
  · rcases (by omega : op = 5 ∨ op = 6 ∨ op = 7 ∨ op = 8 ∨ op = 9 ∨ op = 10 ∨ op = 11 ∨ op = 12 ∨ op = 13 ∨ op = 14 ∨ op = 15 ∨ op = 16 ∨ op = 17 ∨ op = 18 ∨ op = 19 ∨ op = 20) with rfl | rfl | rfl | rfl | rfl | rfl | rfl | rfl | rfl | rfl | rfl | rfl | rfl | rfl | rfl | rfl
    all_goals
      clear h
      go_enter Try.func116, Try.ntmps116
      go_wp2
      go_ret3
      exact ⟨rfl, rfl⟩
  · have H1 := Lib.hid (show signIn op = 0 from by unfold signIn; rw [if_neg (by omega), if_neg (by omega), if_neg (by omega)])
    have H2 := Lib.hid (show signOut op = 0 from by unfold signOut; rw [if_neg (by omega), if_neg (by omega)])
    have H3 := Lib.hid (show signB op = false from by simp [signB]; omega)
    by_cases hlt : op < 5
    · clear h
      go_enter Try.func116, Try.ntmps116
      go_wp2
      go_ret3
      exact ⟨by rw [H1.out, H2.out, H3.out]; rfl, rfl⟩
    · have hgt : 20 < op := by omega
      clear h hlt
      go_enter Try.func116, Try.ntmps116
      go_wp2
      go_ret3
      exact ⟨by rw [H1.out, H2.out, H3.out]; rfl, rfl⟩
end Go.Proofs.Ytbjaejgechadpaa.Ar
namespace Go.Proofs.Ytbjaejgechadpaa
open Go.RowKit Ar Z

theorem rsign_no (op : Int) (w : World) (h : op < 5 ∨ 20 < op) :
    Calls Try.prog 93 #[.int .i64 op] w fun e w' => e = .returned (.tuple #[.int .i64 0, .int .i64 0, .bool false]) ∧ Below w.heap.size w w' := by
  rcases h with h | h
  · go_enter Try.func93, Try.ntmps93
    go_wp2
    go_ret3
    exact ⟨rfl, Below.refl _ _⟩
  · have h' : ¬ op < 5 := by omega
    go_enter Try.func93, Try.ntmps93
    go_wp2
    go_ret3
    exact ⟨rfl, Below.refl _ _⟩
set_option maxHeartbeats 4000000 in
theorem rsign_yes (op : Int) (w : World) (h : 5 ≤ op ∧ op ≤ 20) :
    Calls Try.prog 93 #[.int .i64 op] w fun e w' => e = .returned (.tuple #[.int .i64 (signIn op), .int .i64 (signOut op), .bool true]) ∧ Below w.heap.size w w' := by
  rcases (by omega : op = 5 ∨ op = 6 ∨ op = 7 ∨ op = 8 ∨ op = 9 ∨ op = 10 ∨ op = 11 ∨ op = 12 ∨ op = 13 ∨ op = 14 ∨ op = 15 ∨ op = 16 ∨ op = 17 ∨ op = 18 ∨ op = 19 ∨ op = 20) with rfl | rfl | rfl | rfl | rfl | rfl | rfl | rfl | rfl | rfl | rfl | rfl | rfl | rfl | rfl | rfl
  all_goals
    clear h
    go_enter Try.func93, Try.ntmps93
    go_wp2
    go_quiet (fail)
    go_wp2
    go_ret3
    exact ⟨rfl, below_drewN' (((Below.refl _ _).alloc (Nat.le_refl _) _).alloc (by simp) _) _⟩

end Go.Proofs.Ytbjaejgechadpaa
