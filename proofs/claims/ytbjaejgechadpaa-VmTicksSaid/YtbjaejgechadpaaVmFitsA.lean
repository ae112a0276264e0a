/-
  The contract of row.Fits.
-/
import Derived.Test.YtbjaejgechadpaaVmA
namespace Go.Proofs.Ytbjaejgechadpaa
open Go.RowKit Vf
attribute [local go_sem ↓] Go.wp_at_zero Go.wp_at_succ
set_option maxRecDepth 100000 in
set_option maxHeartbeats 2000000 in
theorem rowFits_any (ts vs : List Int) (A1 A2 : Option Addr) (c1 c2 B : Nat) (w : World) (hc1 : ts.length ≤ c1) (hm1 : c1 ≤ maxLen) (_hc2 : vs.length ≤ c2) (hm2 : c2 ≤ maxLen) (h1 : Sl w B 1 isInt A1 ts) (h2 : Sl w B 1 isInt A2 vs) :
    Calls Try.prog 58 #[.slice A1 ts.length c1, .slice A2 vs.length c2] w fun e w' => e = .returned (.bool (cB (fitsOk ts vs))) ∧ w = w' := by
  have hm1' : c1 ≤ 9223372036854775807 := by unfold maxLen at hm1; omega
  have hm2' : c2 ≤ 9223372036854775807 := by unfold maxLen at hm2; omega
  go_enter Try.func58, Try.ntmps58
  go_wp2_with fail
  refine (rowRight_any ts A1 c1 B _ hc1 hm1 h1).mono ?_
  rintro e w' ⟨rfl, rfl⟩
  generalize hV : cB (typesOk ts) = V at *
  have HV := Lib.hid hV
  clear hV
  cases V
  · have HF := Lib.hid (cB_false (fun g : fitsOk ts vs => cB_not.1 HV.out g.1))
    go_wp2_with fail
    go_ret
    exact ⟨ret_bool HF.out.symm, rfl⟩
  by_cases hl : vs.length = ts.length
  rotate_left 1
  · have HF := Lib.hid (cB_false (fun g : fitsOk ts vs => hl g.2.1))
    have hl' : ((ts.length : Int) != (vs.length : Int)) = true := by rw [bne_iff_ne]; omega
    have hl'' : ((vs.length : Int) != (ts.length : Int)) = true := by rw [bne_iff_ne]; omega
    clear hl
    go_wp2_with fail
    go_ret
    exact ⟨ret_bool HF.out.symm, rfl⟩
  have hl' : ((ts.length : Int) != (vs.length : Int)) = false := by rw [bne_eq_false_iff_eq]; omega
  have hl'' : ((vs.length : Int) != (ts.length : Int)) = false := by rw [bne_eq_false_iff_eq]; omega
  have HL := Lib.hid hl
  have hle : vs.length ≤ ts.length := by omega
  have hle' : ts.length ≤ vs.length := by omega
  clear hl
  go_wp2_with fail
  go_loop [19] (fun s => ∃ k : Nat, k ≤ ts.length ∧ s = .int .i64 k ∧ Hid (∀ j, j < k → fitsAt ts vs j)) (fun s => ts.length - (intOf s).toNat)
  case atStart => exact ⟨0, Nat.zero_le _, rfl, fun j h => absurd h (by omega)⟩
  case round =>
    obtain ⟨k, hk, rfl, HN⟩ := hrel
    by_cases hlt : k < ts.length
    · obtain ⟨b1, o1, t, rfl, hb1, ht, hwt, d1⟩ := h1.int (show k < ts.length by omega)
      obtain ⟨b2, o2, v, rfl, hb2, hv, hwv, d2⟩ := h2.int (show k < vs.length by omega)
      have HTk := Lib.hid ht
      have HVk := Lib.hid hv
      clear ht hv
      have hk1 : (k : Int) < ts.length := by omega
      have hk2 : (k : Int) < vs.length := by omega
      by_cases e2 : t = 2
      · have e2' : (t == 2) = true := by simp [e2]
        by_cases ev : v = 0 ∨ v = 1
        · have HN' := Lib.hid (upto_succ HN.out (fitsAt_mk HTk.out HVk.out (fun _ => ev)))
          have HC := Lib.hid (truth_any v w)
          rw [cB_true ev] at HC
          clear e2 ev
          go_wp2_with fail
          refine HC.out.mono ?_
          rintro e w' ⟨rfl, rfl⟩
          go_wp2_with fail
          go_round
          case rel => exact ⟨k + 1, by omega, by go_num, HN'⟩
          case measure => simp [intOf]; omega
        · have HF := Lib.hid (cB_false (fits_no HTk.out HVk.out e2 ev))
          have HC := Lib.hid (truth_any v w)
          rw [cB_false ev] at HC
          clear e2 ev
          go_wp2_with fail
          refine HC.out.mono ?_
          rintro e w' ⟨rfl, rfl⟩
          go_wp2_with fail
          go_ret
          exact ⟨ret_bool HF.out.symm, rfl⟩
      · have e2' : (t == 2) = false := by simp [e2]
        have HN' := Lib.hid (upto_succ HN.out (fitsAt_mk HTk.out HVk.out (fun g => absurd g e2)))
        clear e2
        go_wp2_with fail
        go_round
        case rel => exact ⟨k + 1, by omega, by go_num, HN'⟩
        case measure => simp [intOf]; omega
    · obtain rfl : k = ts.length := by omega
      have HF := Lib.hid (cB_true (fits_yes (cB_iff.1 HV.out) HL.out (by rw [HL.out]; exact HN.out)))
      go_wp2_with fail
      go_ret
      exact ⟨ret_bool HF.out.symm, rfl⟩
end Go.Proofs.Ytbjaejgechadpaa
