/-
  The walk of the law ArithSigns.
-/
import Derived.Test.YtjifapbgelckkaaArithDo
import Derived.RegionTactic
import Derived.Deep.QuietTactic
import Derived.BigQuiet
namespace Go.Proofs.Ytjifapbgelckkaa
open Go.RowKit Ar Z

theorem below_drewN' {B : Nat} {a w : World} (h : Below B a w) (n : Nat) : Below B a (w.drewN n) := ⟨h.os, h.tape, h.output, h.size, h.block⟩

theorem rsign_no (op : Int) (w : World) (h : op < 5 ∨ 20 < op) :
    Calls Try.prog 20 #[.int .i64 op] w fun e w' => e = .returned (.tuple #[.int .i64 0, .int .i64 0, .bool false]) ∧ Below w.heap.size w w' := by
  rcases h with h | h
  · go_enter Try.func20, Try.ntmps20
    go_wp2
    go_ret3
    exact ⟨rfl, Below.refl _ _⟩
  · have h' : ¬ op < 5 := by omega
    go_enter Try.func20, Try.ntmps20
    go_wp2
    go_ret3
    exact ⟨rfl, Below.refl _ _⟩
set_option maxHeartbeats 4000000 in
theorem rsign_yes (op : Int) (w : World) (h : 5 ≤ op ∧ op ≤ 20) :
    Calls Try.prog 20 #[.int .i64 op] w fun e w' => e = .returned (.tuple #[.int .i64 (signIn op), .int .i64 (signOut op), .bool true]) ∧ Below w.heap.size w w' := by
  rcases (by omega : op = 5 ∨ op = 6 ∨ op = 7 ∨ op = 8 ∨ op = 9 ∨ op = 10 ∨ op = 11 ∨ op = 12 ∨ op = 13 ∨ op = 14 ∨ op = 15 ∨ op = 16 ∨ op = 17 ∨ op = 18 ∨ op = 19 ∨ op = 20) with rfl | rfl | rfl | rfl | rfl | rfl | rfl | rfl | rfl | rfl | rfl | rfl | rfl | rfl | rfl | rfl
  all_goals
    clear h
    go_enter Try.func20, Try.ntmps20
    go_wp2
    go_quiet (fail)
    go_wp2
    go_ret3
    exact ⟨rfl, below_drewN' (((Below.refl _ _).alloc (Nat.le_refl _) _).alloc (by simp) _) _⟩

theorem flag_01 (b : Bool) : flagZ b = 0 ∨ flagZ b = 1 := by cases b <;> simp [flagZ]

namespace arithSigns

set_option maxHeartbeats 1000000 in
theorem core_no (op a b : Int) (w : World) (h : op < 5 ∨ 20 < op) :
    Calls Try.prog 6 #[.int .i64 op, .int .i64 a, .int .i64 b] w fun e w' => e = .returned (.bool true) ∧ Below w.heap.size w w' := by
  have e1 : signIn op = 0 := by unfold signIn; rw [if_neg (by omega), if_neg (by omega), if_neg (by omega)]
  have e2 : signOut op = 0 := by unfold signOut; rw [if_neg (by omega), if_neg (by omega)]
  have e3 : signB op = false := by simp [signB]; omega
  have e4 : doV op a b = 0 := by
    unfold doV
    rw [if_neg (by omega), if_neg (by omega), if_neg (by omega), if_neg (by omega), if_neg (by omega), if_neg (by omega), if_neg (by omega)]
  have e5 : doB op = false := by simp [doB]; omega
  have e6 : oneV op a = 0 := by unfold oneV; rw [if_neg (by omega), if_neg (by omega)]
  have e7 : oneB op = false := by simp [oneB]; omega
  have H := Lib.hid h
  clear h
  go_enter Try.func6, Try.ntmps6
  go_wp2_with (first | (go_at_call 7; refine (awake_any _).mono ?_; rintro e w' ⟨rfl, rfl⟩) | (go_at_call 19; refine (sign_any _ _).mono ?_; rintro e w' ⟨rfl, rfl⟩) | (go_at_call 20; refine (rsign_no _ _ H.out).mono ?_; rintro e w' ⟨rfl, hbel⟩) | (go_at_call 16; refine (do_any _ _ _ _).mono ?_; rintro e w' ⟨rfl, rfl⟩) | (go_at_call 14; refine (one_any _ _ _).mono ?_; rintro e w' ⟨rfl, rfl⟩))
  go_ret
  exact ⟨rfl, hbel⟩
set_option maxHeartbeats 1000000 in
theorem core_yes (op a b i o v u : Int) (d n : Bool) (w : World) (h : 5 ≤ op ∧ op ≤ 20) (e1 : signIn op = i) (e2 : signOut op = o) (e3 : signB op = true) (e4 : doV op a b = v) (e5 : doB op = d) (e6 : oneV op a = u) (e7 : oneB op = n)
    (e8 : (d == n) = false) (e9 : o = 1 ∨ ((v = 0 ∨ v = 1) ∧ (u = 0 ∨ u = 1))) :
    Calls Try.prog 6 #[.int .i64 op, .int .i64 a, .int .i64 b] w fun e w' => e = .returned (.bool true) ∧ Below w.heap.size w w' := by
  have H := Lib.hid h
  clear h
  have HD : d = !n := by cases d <;> cases n <;> simp_all
  subst HD
  clear e8
  cases n
  all_goals
    by_cases ho : o = 1
    · subst ho
      clear e9
      go_enter Try.func6, Try.ntmps6
      go_wp2_with (first | (go_at_call 7; refine (awake_any _).mono ?_; rintro e w' ⟨rfl, rfl⟩) | (go_at_call 19; refine (sign_any _ _).mono ?_; rintro e w' ⟨rfl, rfl⟩) | (go_at_call 20; refine (rsign_yes _ _ H.out).mono ?_; rintro e w' ⟨rfl, hbel⟩) | (go_at_call 16; refine (do_any _ _ _ _).mono ?_; rintro e w' ⟨rfl, rfl⟩) | (go_at_call 14; refine (one_any _ _ _).mono ?_; rintro e w' ⟨rfl, rfl⟩))
      go_ret
      exact ⟨rfl, hbel⟩
    · have ho' : (o == 1) = false := by simp [ho]
      have e10 := e9.resolve_left ho
      clear e9 ho
      rcases e10 with ⟨rfl | rfl, rfl | rfl⟩
      all_goals
        go_enter Try.func6, Try.ntmps6
        go_wp2_with (first | (go_at_call 7; refine (awake_any _).mono ?_; rintro e w' ⟨rfl, rfl⟩) | (go_at_call 19; refine (sign_any _ _).mono ?_; rintro e w' ⟨rfl, rfl⟩) | (go_at_call 20; refine (rsign_yes _ _ H.out).mono ?_; rintro e w' ⟨rfl, hbel⟩) | (go_at_call 16; refine (do_any _ _ _ _).mono ?_; rintro e w' ⟨rfl, rfl⟩) | (go_at_call 14; refine (one_any _ _ _).mono ?_; rintro e w' ⟨rfl, rfl⟩))
        go_ret
        exact ⟨rfl, hbel⟩
theorem out_or (op a b : Int) (h : 5 ≤ op ∧ op ≤ 20) : signOut op = 1 ∨ ((doV op a b = 0 ∨ doV op a b = 1) ∧ (oneV op a = 0 ∨ oneV op a = 1)) := by
  by_cases h1 : op = 5 ∨ (7 ≤ op ∧ op ≤ 11)
  · left; unfold signOut; rw [if_neg (by omega), if_pos (by omega)]
  · right
    by_cases h6 : op = 6
    · subst h6; exact ⟨.inl rfl, flag_01 _⟩
    · constructor
      · unfold doV
        rw [if_neg (by omega), if_neg (by omega), if_neg (by omega), if_neg (by omega), if_neg (by omega)]
        split
        · exact flag_01 _
        · rw [if_pos (by omega)]; exact flag_01 _
      · left; unfold oneV; rw [if_neg (by omega), if_neg (by omega)]
theorem walk (a0 : Int) (a1 : Int) (a2 : Int) (_w0 : (Lit.int .i64 a0).wf = true) (_w1 : (Lit.int .i64 a1).wf = true) (_w2 : (Lit.int .i64 a2).wf = true) (w : World) :
    Calls Try.prog 6 #[.int .i64 a0, .int .i64 a1, .int .i64 a2] w fun e w' => e = .returned (.bool true) ∧ Below w.heap.size w w' := by
  by_cases h : 5 ≤ a0 ∧ a0 ≤ 20
  · refine core_yes a0 a1 a2 _ _ _ _ _ _ w h rfl rfl (by simp [signB]; omega) rfl rfl rfl rfl ?_ (out_or _ _ _ h)
    by_cases h1 : a0 ≤ 6
    · have e1 : doB a0 = false := by simp [doB]; omega
      have e2 : oneB a0 = true := by simp [oneB]; omega
      rw [e1, e2]; rfl
    · have e1 : doB a0 = true := by simp [doB]; omega
      have e2 : oneB a0 = false := by simp [oneB]; omega
      rw [e1, e2]; rfl
  · exact core_no _ _ _ _ (by omega)
end arithSigns
end Go.Proofs.Ytjifapbgelckkaa
