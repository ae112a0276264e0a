/-
  The contracts of tree.Parts, names and of tompionref12.Parts. What is plain of an expression: the contract of tree.plain.
-/
import Derived.Test.YtabceednmgijoaaGreatExMem
import Derived.Test.YtabceednmgijoaaGreatToken
namespace Go.Proofs.YtabceednmgijoaaGreat
open Go.RowKit Nm

def partsZ (op : Int) : Int :=
  if op = 1 ∨ op = 2 ∨ op = 3 then 0 else if op = 4 then -1 else if op = 5 ∨ op = 6 ∨ op = 21 ∨ op = 24 ∨ op = 25 then 1
  else if 7 ≤ op ∧ op ≤ 20 ∨ op = 22 ∨ op = 23 ∨ op = 26 then 2 else if op = 27 then 3 else -2
theorem ret_i64 {a b : Int} (h : a = b) : Ending.returned (.int .i64 a) = .returned (.int .i64 b) := by rw [h]
set_option maxHeartbeats 4000000 in
theorem parts_any (op : Int) (w : World) :
    Calls Tryz.prog 123 #[.int .i64 op] w fun e w' => e = .returned (.int .i64 (partsZ op)) ∧ w = w' := by
  go_enter Tryz.func123, Tryz.ntmps123
  go_wp2
  all_goals
    go_ret
    refine ⟨ret_i64 ?_, rfl⟩
    (try simp only [beq_iff_eq, beq_eq_false_iff_ne] at *)
    unfold partsZ
    repeat' split
    all_goals omega
def partsL : List Int := [0, 0, 0, -1, 1, 1, 2, 2, 2, 2, 2, 2, 2, 2, 2, 2, 2, 2, 2, 2, 1, 2, 2, 1, 1, 2, 3]
theorem partsL_eq (op : Int) (h1 : 1 ≤ op) (h2 : op ≤ 27) : partsL[(op - 1).toNat]? = some (partsZ op) := by
  rcases (by omega : op = 1 ∨ op = 2 ∨ op = 3 ∨ op = 4 ∨ op = 5 ∨ op = 6 ∨ op = 7 ∨ op = 8 ∨ op = 9 ∨ op = 10 ∨ op = 11 ∨ op = 12 ∨ op = 13 ∨ op = 14 ∨ op = 15 ∨ op = 16 ∨ op = 17 ∨ op = 18 ∨ op = 19 ∨ op = 20 ∨ op = 21 ∨ op = 22 ∨ op = 23 ∨ op = 24 ∨ op = 25 ∨ op = 26 ∨ op = 27) with rfl | rfl | rfl | rfl | rfl | rfl | rfl | rfl | rfl | rfl | rfl | rfl | rfl | rfl | rfl | rfl | rfl | rfl | rfl | rfl | rfl | rfl | rfl | rfl | rfl | rfl | rfl
  all_goals decide +kernel
theorem parts_cell (op : Int) (h1 : 1 ≤ op) (h2 : op ≤ 27) : (partsL.map (Value.int .i64))[op.toNat - 1]? = some (.int .i64 (partsZ op)) := by
  rw [List.getElem?_map, show op.toNat - 1 = (op - 1).toNat by omega, partsL_eq op h1 h2]
  rfl
theorem rparts_any (op : Int) (w : World) :
    Calls Tryz.prog 121 #[.int .i64 op] w fun e w' => e = .returned (.int .i64 (partsZ op)) ∧ Below w.heap.size w w' := by
  by_cases h1 : 1 ≤ op ∧ op ≤ 27
  · obtain ⟨h1, h2⟩ := h1
    have hc : [Value.int .i64 0, Value.int .i64 0, Value.int .i64 0, Value.int .i64 (-1), Value.int .i64 1, Value.int .i64 1, Value.int .i64 2, Value.int .i64 2, Value.int .i64 2, Value.int .i64 2, Value.int .i64 2, Value.int .i64 2, Value.int .i64 2, Value.int .i64 2, Value.int .i64 2, Value.int .i64 2, Value.int .i64 2, Value.int .i64 2, Value.int .i64 2, Value.int .i64 2, Value.int .i64 1, Value.int .i64 2, Value.int .i64 2, Value.int .i64 1, Value.int .i64 1, Value.int .i64 2, Value.int .i64 3][op.toNat - 1]? = some (.int .i64 (partsZ op)) := parts_cell op h1 h2
    go_enter Tryz.func121, Tryz.ntmps121
    go_wp2
    go_ret
    exact ⟨rfl, (Below.refl _ _).alloc (Nat.le_refl _) _⟩
  · have HE := Lib.hid (show partsZ op = -2 from by unfold partsZ; repeat' split; all_goals omega)
    go_enter Tryz.func121, Tryz.ntmps121
    go_wp2
    all_goals
      first | (exfalso; omega) | (go_ret; exact ⟨ret_i64 HE.out.symm, Below.refl _ _⟩)
def namesB (op : Int) : Bool := decide (op = 3 ∨ op = 24 ∨ op = 25 ∨ op = 26)
theorem names_any (op : Int) (w : World) :
    Calls Tryz.prog 124 #[.int .i64 op] w fun e w' => e = .returned (.bool (namesB op)) ∧ w = w' := by
  go_enter Tryz.func124, Tryz.ntmps124
  go_wp2
  all_goals
    go_ret
    refine ⟨ret_bool ?_, rfl⟩
    rw [Bool.eq_iff_iff]
    simp [namesB]
    omega
end Go.Proofs.YtabceednmgijoaaGreat
namespace Go.Proofs.YtabceednmgijoaaGreat
open Go.RowKit Nm

/-- has an expression what its op says, but for what is within it? -/
def plainK (K : Int) (nb : Bool) (e : Ex) : Bool :=
  if K = -2 then false
  else if K = -1 ∧ (e.args.length < 1 ∨ 8 < e.args.length) then false
  else if 0 ≤ K ∧ (e.args.length : Int) ≠ K then false
  else if nb = true ∨ e.op = 4 then (nameB e.name.toList && e.n == 0)
  else if e.op = 1 then (e.name.toList.isEmpty && decide (0 ≤ e.n))
  else if e.op = 2 then (e.name.toList.isEmpty && (e.n == 0 || e.n == 1))
  else (e.name.toList.isEmpty && e.n == 0)
def plainB (e : Ex) : Bool := plainK (partsZ e.op) (namesB e.op) e
theorem partsZ_lo (op : Int) : partsZ op = -2 ∨ partsZ op = -1 ∨ (0 ≤ partsZ op ∧ partsZ op ≤ 3) := by unfold partsZ; repeat' split; all_goals omega
def plainR (nb : Bool) (e : Ex) : Bool :=
  if nb = true ∨ e.op = 4 then (nameB e.name.toList && e.n == 0)
  else if e.op = 1 then (e.name.toList.isEmpty && decide (0 ≤ e.n))
  else if e.op = 2 then (e.name.toList.isEmpty && (e.n == 0 || e.n == 1))
  else (e.name.toList.isEmpty && e.n == 0)
theorem plainK_no1 {K : Int} {nb : Bool} {e : Ex} (h : K = -1 ∧ (e.args.length < 1 ∨ 8 < e.args.length)) : plainK K nb e = false := by
  unfold plainK; rw [if_neg (by omega), if_pos h]
theorem plainK_no2 {K : Int} {nb : Bool} {e : Ex} (h : 0 ≤ K ∧ (e.args.length : Int) ≠ K) : plainK K nb e = false := by
  unfold plainK; rw [if_neg (by omega), if_neg (by omega), if_pos h]
theorem plainK_go {K : Int} {nb : Bool} {e : Ex} (h : K ≠ -2) (h1 : ¬ (K = -1 ∧ (e.args.length < 1 ∨ 8 < e.args.length))) (h2 : ¬ (0 ≤ K ∧ (e.args.length : Int) ≠ K)) : plainK K nb e = plainR nb e := by
  unfold plainK; rw [if_neg h, if_neg h1, if_neg h2]; rfl
set_option maxHeartbeats 4000000 in
theorem plain_any (e : Ex) (A : Option Addr) (cap : Nat) (w : World) (hok : ExOk e) (hl : e.args.length ≤ maxLen) :
    Calls Tryz.prog 116 #[exV e A cap] w fun r w' => r = .returned (.bool (plainB e)) ∧ Below w.heap.size w w' := by
  have hnm := hok.name
  unfold maxLen at hl
  have HE := Lib.hid (show plainB e = plainK (partsZ e.op) (namesB e.op) e from rfl)
  have hK := partsZ_lo e.op
  have hB : Below w.heap.size w (w.alloc (.cells #[.int .i64 e.op, .string e.name, .int .i64 e.n, .slice A e.args.length cap, .int .i64 e.line, .int .i64 e.col] 45)) := (Below.refl _ _).alloc (Nat.le_refl _) _
  go_enter Tryz.func116, Tryz.ntmps116
  go_wp2_with fail
  refine (parts_any e.op _).mono ?_
  rintro r w' ⟨rfl, rfl⟩
  generalize partsZ e.op = K at *
  by_cases hk2 : K = -2
  · subst hk2
    go_wp2_with fail
    go_ret
    exact ⟨ret_bool (by rw [HE.out]; rfl), hB⟩
  · by_cases h1 : K = -1 ∧ (e.args.length < 1 ∨ 8 < e.args.length)
    · have HF := Lib.hid (HE.out.trans (plainK_no1 h1))
      obtain ⟨rfl, h1⟩ := h1
      clear hK HE
      rcases h1 with h1 | h1
      all_goals
        go_wp2_with fail
        go_ret
        exact ⟨ret_bool HF.out.symm, hB⟩
    · by_cases h2 : 0 ≤ K ∧ (e.args.length : Int) ≠ K
      · have HF := Lib.hid (HE.out.trans (plainK_no2 h2))
        obtain ⟨h2, h3⟩ := h2
        have h3' : (((e.args.length : Int)) != K) = true := by rw [bne_iff_ne]; exact h3
        have hk1 : (K == -1) = false := by rw [beq_eq_false_iff_ne]; omega
        have hk2' : (K == -2) = false := by rw [beq_eq_false_iff_ne]; omega
        clear hK HE h3 h1 hk2
        go_wp2_with fail
        go_ret
        exact ⟨ret_bool HF.out.symm, hB⟩
      · have HF := Lib.hid (HE.out.trans (plainK_go hk2 h1 h2))
        have HG : Hid ((K = -1 ∧ 1 ≤ e.args.length ∧ e.args.length ≤ 8) ∨ (0 ≤ K ∧ (e.args.length : Int) = K)) := by
          show _ ∨ _
          omega
        clear hK HE hk2 h1 h2
        generalize hnb : namesB e.op = nb at *
        have HNB := Lib.hid hnb
        clear hnb
        have hk : (K == -2) = false := by rw [beq_eq_false_iff_ne]; have := HG.out; omega
        have HW : Hid (∀ w1, Below (w.heap.size + 1) (w.alloc (.cells #[.int .i64 e.op, .string e.name, .int .i64 e.n, .slice A e.args.length cap, .int .i64 e.line, .int .i64 e.col] 45)) w1 → Below w.heap.size w w1 ∧ w1.cell? ⟨w.heap.size, 2, none⟩ = some (.int .i64 e.n)) := fun w1 hb1 =>
          ⟨hB.trans (hb1.mono (by omega)), by rw [hb1.cell (p := ⟨w.heap.size, 2, none⟩) (Nat.lt_succ_self _)]; simp⟩
        rcases HG.out with ⟨rfl, h1, h8⟩ | ⟨h0, h3⟩
        rotate_left
        · have hk1 : (K == -1) = false := by rw [beq_eq_false_iff_ne]; omega
          have h3' : (((e.args.length : Int)) != K) = false := by rw [bne_eq_false_iff_eq]; exact h3
          clear h3
          go_wp2_with fail
          refine (names_any e.op _).mono ?_
          rintro r w' ⟨rfl, rfl⟩
          rw [HNB.out]
          clear HNB HG
          cases nb
          · by_cases h4 : e.op = 4
            · have HR := Lib.hid (HF.out.trans (show plainR false e = (nameB e.name.toList && e.n == 0) by unfold plainR; rw [if_pos (.inr h4)]))
              have h4' : (e.op == 4) = true := by simp [h4]
              clear h4 HF
              go_wp2_with fail
              refine (name_any e.name _ hnm).mono ?_
              rintro r w1 ⟨rfl, hb1⟩
              obtain ⟨hb2, hc⟩ := HW.out w1 (by simpa using hb1)
              generalize nameB e.name.toList = N at *
              cases N
              all_goals
                go_wp2_with fail
                go_ret
                exact ⟨ret_bool HR.out.symm, hb2⟩
            · have h4' : (e.op == 4) = false := by simp [h4]
              cases hE : e.name.toList.isEmpty
              · have HR := Lib.hid (HF.out.trans (show plainR false e = false by unfold plainR; rw [if_neg (by simp [h4]), hE]; simp))
                clear h4 HF
                go_wp2_with fail
                all_goals (go_ret; exact ⟨ret_bool HR.out.symm, hB⟩)
              · by_cases h1 : e.op = 1
                · have HR := Lib.hid (HF.out.trans (show plainR false e = decide (0 ≤ e.n) by unfold plainR; rw [if_neg (by simp [h4]), if_pos h1, hE]; rfl))
                  have h1' : (e.op == 1) = true := by simp [h1]
                  clear h4 HF h1
                  go_wp2_with fail
                  all_goals (go_ret; exact ⟨ret_bool HR.out.symm, hB⟩)
                · have h1' : (e.op == 1) = false := by simp [h1]
                  by_cases h2 : e.op = 2
                  · have HR := Lib.hid (HF.out.trans (show plainR false e = (e.n == 0 || e.n == 1) by unfold plainR; rw [if_neg (by simp [h4]), if_neg h1, if_pos h2, hE]; rfl))
                    have h2' : (e.op == 2) = true := by simp [h2]
                    clear h4 HF h1 h2
                    cases hn : (e.n == 0)
                    all_goals
                      go_wp2_with fail
                      go_ret
                      exact ⟨ret_bool (by rw [HR.out, hn]; rfl), hB⟩
                  · have HR := Lib.hid (HF.out.trans (show plainR false e = (e.n == 0) by unfold plainR; rw [if_neg (by simp [h4]), if_neg h1, if_neg h2, hE]; rfl))
                    have h2' : (e.op == 2) = false := by simp [h2]
                    clear h4 HF h1 h2
                    go_wp2_with fail
                    all_goals (go_ret; exact ⟨ret_bool HR.out.symm, hB⟩)
          · have HR := Lib.hid (HF.out.trans (show plainR true e = (nameB e.name.toList && e.n == 0) by unfold plainR; rw [if_pos (.inl rfl)]))
            clear HF
            go_wp2_with fail
            refine (name_any e.name _ hnm).mono ?_
            rintro r w1 ⟨rfl, hb1⟩
            obtain ⟨hb2, hc⟩ := HW.out w1 (by simpa using hb1)
            generalize nameB e.name.toList = N at *
            cases N
            all_goals
              go_wp2_with fail
              go_ret
              exact ⟨ret_bool HR.out.symm, hb2⟩
        · go_wp2_with fail
          refine (names_any e.op _).mono ?_
          rintro r w' ⟨rfl, rfl⟩
          rw [HNB.out]
          clear HNB HG
          cases nb
          · by_cases h4 : e.op = 4
            · have HR := Lib.hid (HF.out.trans (show plainR false e = (nameB e.name.toList && e.n == 0) by unfold plainR; rw [if_pos (.inr h4)]))
              have h4' : (e.op == 4) = true := by simp [h4]
              clear h4 HF
              go_wp2_with fail
              refine (name_any e.name _ hnm).mono ?_
              rintro r w1 ⟨rfl, hb1⟩
              obtain ⟨hb2, hc⟩ := HW.out w1 (by simpa using hb1)
              generalize nameB e.name.toList = N at *
              cases N
              all_goals
                go_wp2_with fail
                go_ret
                exact ⟨ret_bool HR.out.symm, hb2⟩
            · have h4' : (e.op == 4) = false := by simp [h4]
              cases hE : e.name.toList.isEmpty
              · have HR := Lib.hid (HF.out.trans (show plainR false e = false by unfold plainR; rw [if_neg (by simp [h4]), hE]; simp))
                clear h4 HF
                go_wp2_with fail
                all_goals (go_ret; exact ⟨ret_bool HR.out.symm, hB⟩)
              · by_cases h1 : e.op = 1
                · have HR := Lib.hid (HF.out.trans (show plainR false e = decide (0 ≤ e.n) by unfold plainR; rw [if_neg (by simp [h4]), if_pos h1, hE]; rfl))
                  have h1' : (e.op == 1) = true := by simp [h1]
                  clear h4 HF h1
                  go_wp2_with fail
                  all_goals (go_ret; exact ⟨ret_bool HR.out.symm, hB⟩)
                · have h1' : (e.op == 1) = false := by simp [h1]
                  by_cases h2 : e.op = 2
                  · have HR := Lib.hid (HF.out.trans (show plainR false e = (e.n == 0 || e.n == 1) by unfold plainR; rw [if_neg (by simp [h4]), if_neg h1, if_pos h2, hE]; rfl))
                    have h2' : (e.op == 2) = true := by simp [h2]
                    clear h4 HF h1 h2
                    cases hn : (e.n == 0)
                    all_goals
                      go_wp2_with fail
                      go_ret
                      exact ⟨ret_bool (by rw [HR.out, hn]; rfl), hB⟩
                  · have HR := Lib.hid (HF.out.trans (show plainR false e = (e.n == 0) by unfold plainR; rw [if_neg (by simp [h4]), if_neg h1, if_neg h2, hE]; rfl))
                    have h2' : (e.op == 2) = false := by simp [h2]
                    clear h4 HF h1 h2
                    go_wp2_with fail
                    all_goals (go_ret; exact ⟨ret_bool HR.out.symm, hB⟩)
          · have HR := Lib.hid (HF.out.trans (show plainR true e = (nameB e.name.toList && e.n == 0) by unfold plainR; rw [if_pos (.inl rfl)]))
            clear HF
            go_wp2_with fail
            refine (name_any e.name _ hnm).mono ?_
            rintro r w1 ⟨rfl, hb1⟩
            obtain ⟨hb2, hc⟩ := HW.out w1 (by simpa using hb1)
            generalize nameB e.name.toList = N at *
            cases N
            all_goals
              go_wp2_with fail
              go_ret
              exact ⟨ret_bool HR.out.symm, hb2⟩
end Go.Proofs.YtabceednmgijoaaGreat
