/-
  What is plain of an expression, by the document: the contract of tompionref12.plain.
-/
import Derived.Test.YtolabbnchmmckaaTreePlain
namespace Go.Proofs.Ytolabbnchmmckaa
open Go.RowKit Nm

theorem plainR_else {e : Ex} (hne : ¬ (namesB e.op = true ∨ e.op = 4)) (hE : e.name.toList.isEmpty = true) (hn : ¬ e.n < 0) : plainR (namesB e.op) e = ((e.op == 1 || e.n == 0) || (e.op == 2 && e.n == 1)) := by
  unfold plainR
  rw [if_neg hne, hE, show decide (0 ≤ e.n) = true by simp; omega]
  by_cases h1 : e.op = 1
  · rw [if_pos h1, show (e.op == 1) = true by simp [h1]]; simp
  · rw [if_neg h1, show (e.op == 1) = false by simp [h1]]
    by_cases h2 : e.op = 2
    · rw [if_pos h2, show (e.op == 2) = true by simp [h2]]; simp
    · rw [if_neg h2, show (e.op == 2) = false by simp [h2]]; simp
set_option maxHeartbeats 8000000 in
theorem rplain_any (e : Ex) (A : Option Addr) (cap : Nat) (w : World) (hnm : e.name.size ≤ 1000000) (hl : e.args.length ≤ maxLen) :
    Calls Try.prog 55 #[exV e A cap] w fun r w' => r = .returned (.bool (plainB e)) ∧ Below w.heap.size w w' := by
  unfold maxLen at hl
  have HE := Lib.hid (show plainB e = plainK (partsZ e.op) (namesB e.op) e from rfl)
  have hK := partsZ_lo e.op
  go_enter Try.func55, Try.ntmps55
  go_wp2_with fail
  refine (rparts_any e.op _).mono ?_
  rintro r w1 ⟨rfl, hb1⟩
  obtain ⟨⟨c0, c1, c2, c3, _, _⟩, hbel, hsz⟩ := exBox (w := w) (wr := w1) (e := e) (A := A) (cap := cap) (by simpa using hb1)
  generalize partsZ e.op = K at *
  clear hb1
  by_cases hk2 : K = -2
  · subst hk2
    go_wp2_with fail
    go_ret
    exact ⟨ret_bool (by rw [HE.out]; rfl), hbel⟩
  · have q2 : (K == -2) = false := by rw [beq_eq_false_iff_ne]; omega
    by_cases h1 : K = -1 ∧ (e.args.length < 1 ∨ 8 < e.args.length)
    · have HF := Lib.hid (HE.out.trans (plainK_no1 h1))
      obtain ⟨rfl, h1⟩ := h1
      clear hK HE
      rcases h1 with h1 | h1
      all_goals
        go_wp2_with fail
        go_ret
        exact ⟨ret_bool HF.out.symm, hbel⟩
    · by_cases h2 : 0 ≤ K ∧ (e.args.length : Int) ≠ K
      · have HF := Lib.hid (HE.out.trans (plainK_no2 h2))
        obtain ⟨h2, h3⟩ := h2
        have h3' : (((e.args.length : Int)) != K) = true := by rw [bne_iff_ne]; exact h3
        clear hK HE h3 h1 hk2
        go_wp2_with fail
        go_ret
        exact ⟨ret_bool HF.out.symm, hbel⟩
      · have HF := Lib.hid (HE.out.trans (plainK_go hk2 h1 h2))
        have HG : Hid ((K = -1 ∧ 1 ≤ e.args.length ∧ e.args.length ≤ 8) ∨ (0 ≤ K ∧ (e.args.length : Int) = K)) := by
          show _ ∨ _
          omega
        clear hK HE hk2 h1 h2
        rcases HG.out with ⟨rfl, h1, h8⟩ | ⟨h0, h3⟩
        rotate_left
        · have hk1 : (K == -1) = false := by rw [beq_eq_false_iff_ne]; omega
          have h3' : (((e.args.length : Int)) != K) = false := by rw [bne_eq_false_iff_eq]; exact h3
          clear h3 HG
          by_cases h3 : e.op = 3 ∨ e.op = 4 ∨ (24 ≤ e.op ∧ e.op ≤ 26)
          · have HR := Lib.hid (HF.out.trans (show plainR (namesB e.op) e = (nameB e.name.toList && e.n == 0) by unfold plainR; rw [if_pos (by simp only [namesB, decide_eq_true_eq]; omega)]))
            clear HF
            have HP : Hid (Calls Try.prog 98 #[.string e.name] w1 fun r w' => r = .returned (.bool (nameB e.name.toList)) ∧ w1 = w') := rname_any e.name _ hnm
            rcases h3 with h3 | h3 | ⟨h3, h3'⟩
            · have k3 : (e.op == 3) = true := by simp [h3]
              clear h3
              go_wp2_with fail
              refine HP.out.mono ?_
              rintro r w' ⟨rfl, rfl⟩
              generalize nameB e.name.toList = N at *
              cases N
              all_goals
                go_wp2_with fail
                go_ret
                exact ⟨ret_bool HR.out.symm, hbel⟩
            · have k3 : (e.op == 3) = false := by simp [h3]
              have k4 : (e.op == 4) = true := by simp [h3]
              clear h3
              go_wp2_with fail
              refine HP.out.mono ?_
              rintro r w' ⟨rfl, rfl⟩
              generalize nameB e.name.toList = N at *
              cases N
              all_goals
                go_wp2_with fail
                go_ret
                exact ⟨ret_bool HR.out.symm, hbel⟩
            · have k3 : (e.op == 3) = false := by rw [beq_eq_false_iff_ne]; omega
              have k4 : (e.op == 4) = false := by rw [beq_eq_false_iff_ne]; omega
              go_wp2_with fail
              refine HP.out.mono ?_
              rintro r w' ⟨rfl, rfl⟩
              generalize nameB e.name.toList = N at *
              cases N
              all_goals
                go_wp2_with fail
                go_ret
                exact ⟨ret_bool HR.out.symm, hbel⟩
          · have k3 : (e.op == 3) = false := by rw [beq_eq_false_iff_ne]; omega
            have k4 : (e.op == 4) = false := by rw [beq_eq_false_iff_ne]; omega
            have k5 : decide (24 ≤ e.op) = false ∨ (decide (24 ≤ e.op) = true ∧ decide (e.op ≤ 26) = false) := by simp; omega
            have hne : ¬ (namesB e.op = true ∨ e.op = 4) := by simp only [namesB, decide_eq_true_eq]; omega
            clear h3
            cases hE : e.name.toList.isEmpty
            · have HR := Lib.hid (HF.out.trans (show plainR (namesB e.op) e = false by unfold plainR; rw [if_neg hne, hE]; simp))
              clear HF hne
              rcases k5 with k5 | ⟨k5, k6⟩
              all_goals
                go_wp2_with fail
                go_ret
                exact ⟨ret_bool HR.out.symm, hbel⟩
            · by_cases hn : e.n < 0
              · have HR := Lib.hid (HF.out.trans (show plainR (namesB e.op) e = false by
                  unfold plainR; rw [if_neg hne, hE]
                  have g1 : decide (0 ≤ e.n) = false := by simp; omega
                  have g2 : (e.n == 0) = false := by rw [beq_eq_false_iff_ne]; omega
                  have g3 : (e.n == 1) = false := by rw [beq_eq_false_iff_ne]; omega
                  rw [g1, g2, g3]; simp))
                clear HF hne
                rcases k5 with k5 | ⟨k5, k6⟩
                all_goals
                  go_wp2_with fail
                  go_ret
                  exact ⟨ret_bool HR.out.symm, hbel⟩
              · have HR := Lib.hid (HF.out.trans (plainR_else hne hE hn))
                clear HF hne
                rcases k5 with k5 | ⟨k5, k6⟩
                all_goals
                  go_wp2_with fail
                  all_goals
                    go_ret
                    refine ⟨ret_bool ?_, hbel⟩
                    rw [HR.out]
                    simp_all
        · clear HG
          by_cases h3 : e.op = 3 ∨ e.op = 4 ∨ (24 ≤ e.op ∧ e.op ≤ 26)
          · have HR := Lib.hid (HF.out.trans (show plainR (namesB e.op) e = (nameB e.name.toList && e.n == 0) by unfold plainR; rw [if_pos (by simp only [namesB, decide_eq_true_eq]; omega)]))
            clear HF
            have HP : Hid (Calls Try.prog 98 #[.string e.name] w1 fun r w' => r = .returned (.bool (nameB e.name.toList)) ∧ w1 = w') := rname_any e.name _ hnm
            rcases h3 with h3 | h3 | ⟨h3, h3'⟩
            · have k3 : (e.op == 3) = true := by simp [h3]
              clear h3
              go_wp2_with fail
              refine HP.out.mono ?_
              rintro r w' ⟨rfl, rfl⟩
              generalize nameB e.name.toList = N at *
              cases N
              all_goals
                go_wp2_with fail
                go_ret
                exact ⟨ret_bool HR.out.symm, hbel⟩
            · have k3 : (e.op == 3) = false := by simp [h3]
              have k4 : (e.op == 4) = true := by simp [h3]
              clear h3
              go_wp2_with fail
              refine HP.out.mono ?_
              rintro r w' ⟨rfl, rfl⟩
              generalize nameB e.name.toList = N at *
              cases N
              all_goals
                go_wp2_with fail
                go_ret
                exact ⟨ret_bool HR.out.symm, hbel⟩
            · have k3 : (e.op == 3) = false := by rw [beq_eq_false_iff_ne]; omega
              have k4 : (e.op == 4) = false := by rw [beq_eq_false_iff_ne]; omega
              go_wp2_with fail
              refine HP.out.mono ?_
              rintro r w' ⟨rfl, rfl⟩
              generalize nameB e.name.toList = N at *
              cases N
              all_goals
                go_wp2_with fail
                go_ret
                exact ⟨ret_bool HR.out.symm, hbel⟩
          · have k3 : (e.op == 3) = false := by rw [beq_eq_false_iff_ne]; omega
            have k4 : (e.op == 4) = false := by rw [beq_eq_false_iff_ne]; omega
            have k5 : decide (24 ≤ e.op) = false ∨ (decide (24 ≤ e.op) = true ∧ decide (e.op ≤ 26) = false) := by simp; omega
            have hne : ¬ (namesB e.op = true ∨ e.op = 4) := by simp only [namesB, decide_eq_true_eq]; omega
            clear h3
            cases hE : e.name.toList.isEmpty
            · have HR := Lib.hid (HF.out.trans (show plainR (namesB e.op) e = false by unfold plainR; rw [if_neg hne, hE]; simp))
              clear HF hne
              rcases k5 with k5 | ⟨k5, k6⟩
              all_goals
                go_wp2_with fail
                go_ret
                exact ⟨ret_bool HR.out.symm, hbel⟩
            · by_cases hn : e.n < 0
              · have HR := Lib.hid (HF.out.trans (show plainR (namesB e.op) e = false by
                  unfold plainR; rw [if_neg hne, hE]
                  have g1 : decide (0 ≤ e.n) = false := by simp; omega
                  have g2 : (e.n == 0) = false := by rw [beq_eq_false_iff_ne]; omega
                  have g3 : (e.n == 1) = false := by rw [beq_eq_false_iff_ne]; omega
                  rw [g1, g2, g3]; simp))
                clear HF hne
                rcases k5 with k5 | ⟨k5, k6⟩
                all_goals
                  go_wp2_with fail
                  go_ret
                  exact ⟨ret_bool HR.out.symm, hbel⟩
              · have HR := Lib.hid (HF.out.trans (plainR_else hne hE hn))
                clear HF hne
                rcases k5 with k5 | ⟨k5, k6⟩
                all_goals
                  go_wp2_with fail
                  all_goals
                    go_ret
                    refine ⟨ret_bool ?_, hbel⟩
                    rw [HR.out]
                    simp_all
end Go.Proofs.Ytolabbnchmmckaa
