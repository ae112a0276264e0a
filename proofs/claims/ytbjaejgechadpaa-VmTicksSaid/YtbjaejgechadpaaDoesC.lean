/-
  The contract of a machine's tick's does: its parts Out, Keep, Skip, SkipNot.
-/
import Derived.Test.YtbjaejgechadpaaVmMem
import Derived.Deep.DrawnRows
import Derived.Deep.RegionHeld3
import Derived.StillTailTactics
namespace Go.Proofs.Ytbjaejgechadpaa
open Go.RowKit Vf
attribute [local go_sem ↓] Go.wp_at_zero Go.wp_at_succ
set_option maxRecDepth 100000 in
set_option maxHeartbeats 2000000 in
theorem does_out : DoesC (fun op => op = 29) := by
  intro w C T R O vc vn vi cells inn s p i x hop h hs hrl hol hnl hcl hil
  have hgT : w.heap.size ≠ T := by have := h.row.lt; omega
  have hgR : w.heap.size ≠ R := by have := h.regs.lt; omega
  have hgO : w.heap.size ≠ O := by have := h.out.lt; omega
  have bX := Row.new w #[.int .i64 x.op, .int .i64 x.a, .int .i64 x.b, .int .i64 x.c, .int .i64 x.k] 30
  have h0 := h.alloc (.cells #[.int .i64 x.op, .int .i64 x.a, .int .i64 x.b, .int .i64 x.c, .int .i64 x.k] 30)
  have u0 : Upd (tkX R O vn) w (w.alloc (.cells #[.int .i64 x.op, .int .i64 x.a, .int .i64 x.b, .int .i64 x.c, .int .i64 x.k] 30)) := (Upd.refl _ _).alloc _
  have hso := hs.op
  have o1 : (x.op == 1) = false := by rw [beq_eq_false_iff_ne]; omega
  have o2 : (x.op == 2) = false := by rw [beq_eq_false_iff_ne]; omega
  have o3 : (x.op == 3) = false := by rw [beq_eq_false_iff_ne]; omega
  have o5 : (x.op == 5) = false := by rw [beq_eq_false_iff_ne]; omega
  have o6 : (x.op == 6) = false := by rw [beq_eq_false_iff_ne]; omega
  have o27 : (x.op == 27) = false := by rw [beq_eq_false_iff_ne]; omega
  have o21 : (x.op == 21) = false := by rw [beq_eq_false_iff_ne]; omega
  have o28 : (x.op == 28) = false := by rw [beq_eq_false_iff_ne]; omega
  have o29 : (x.op == 29) = true := by rw [beq_iff_eq]; omega
  have o32 : (x.op == 32) = false := by rw [beq_eq_false_iff_ne]; omega
  have o30 : (x.op == 30) = false := by rw [beq_eq_false_iff_ne]; omega
  have o31 : (x.op == 31) = false := by rw [beq_eq_false_iff_ne]; omega
  obtain ⟨ra0, ra1⟩ := hs.a
  obtain ⟨na, hna⟩ := Int.eq_ofNat_of_zero_le ra0
  obtain ⟨rk0, rk1⟩ := hs.k29 hop
  obtain ⟨nk, hnk⟩ := Int.eq_ofNat_of_zero_le rk0
  have HT := Lib.hid (show tskip s x = 0 by unfold tskip; rw [if_neg (by omega)])
  have HE := Lib.hid (show texec cells inn s x = { s with out := s.out.set nk (getI s.regs na) } by unfold texec setI; rw [if_pos hop, hna, hnk]; rfl)
  have hlk : nk < s.out.length := by omega
  have hlk' : (nk : Int) < s.out.length := by omega
  have hzk' : (0 : Int) ≤ (nk : Int) := by omega
  have ck := kind_cell h0.out hlk
  have hRO := h0.RO
  have hla : na < s.regs.length := by omega
  have hla' : (na : Int) < s.regs.length := by omega
  have hza' : (0 : Int) ≤ (na : Int) := by omega
  have HNa := Lib.hid hna
  clear hna ra0 ra1
  have HNk := Lib.hid hnk
  clear hnk rk0 rk1
  clear h hop hso hrl hol hnl hcl hil hs
  go_enter Try.func59, Try.ntmps59
  go_upto_region 1 with (fail)
  generalize w.alloc (.cells #[.int .i64 x.op, .int .i64 x.a, .int .i64 x.b, .int .i64 x.c, .int .i64 x.k] 30) = W at *
  generalize w.heap.size = gx at *
  obtain ⟨x0, x1, x2, x3, x4⟩ := in5x bX
  rw [HNa.out] at x1
  rw [HNk.out] at x4
  have l0 := h0.row.cell 0
  have l1 := h0.row.cell 1
  have l2 := h0.row.cell 2
  have l3 := h0.row.cell 3
  have l4 := h0.row.cell 4
  simp only [List.getElem?_toArray, List.getElem?_cons_zero, List.getElem?_cons_succ] at l0 l1 l2 l3 l4
  have ca := kind_cell h0.regs hla
  have rl := h0.rl
  have ol := h0.ol
  have fk := h0.out.frozen nk
  clear bX
  generalize getI s.out nk = vk at *
  generalize getI s.regs na = va at *
  go_wp2_with fail
  go_region
  all_goals
    go_wp2_with fail
    go_ret
    exact ⟨ret_i64 HT.out.symm, by rw [HE.out]; exact (h0.setOut nk va).drew, (u0.setCell (.inr (.inl rfl)) _).drew⟩
set_option maxRecDepth 100000 in
set_option maxHeartbeats 2000000 in
theorem does_keep : DoesC (fun op => op = 32) := by
  intro w C T R O vc vn vi cells inn s p i x hop h hs hrl hol hnl hcl hil
  have hgT : w.heap.size ≠ T := by have := h.row.lt; omega
  have hgR : w.heap.size ≠ R := by have := h.regs.lt; omega
  have hgO : w.heap.size ≠ O := by have := h.out.lt; omega
  have bX := Row.new w #[.int .i64 x.op, .int .i64 x.a, .int .i64 x.b, .int .i64 x.c, .int .i64 x.k] 30
  have h0 := h.alloc (.cells #[.int .i64 x.op, .int .i64 x.a, .int .i64 x.b, .int .i64 x.c, .int .i64 x.k] 30)
  have u0 : Upd (tkX R O vn) w (w.alloc (.cells #[.int .i64 x.op, .int .i64 x.a, .int .i64 x.b, .int .i64 x.c, .int .i64 x.k] 30)) := (Upd.refl _ _).alloc _
  have hso := hs.op
  have o1 : (x.op == 1) = false := by rw [beq_eq_false_iff_ne]; omega
  have o2 : (x.op == 2) = false := by rw [beq_eq_false_iff_ne]; omega
  have o3 : (x.op == 3) = false := by rw [beq_eq_false_iff_ne]; omega
  have o5 : (x.op == 5) = false := by rw [beq_eq_false_iff_ne]; omega
  have o6 : (x.op == 6) = false := by rw [beq_eq_false_iff_ne]; omega
  have o27 : (x.op == 27) = false := by rw [beq_eq_false_iff_ne]; omega
  have o21 : (x.op == 21) = false := by rw [beq_eq_false_iff_ne]; omega
  have o28 : (x.op == 28) = false := by rw [beq_eq_false_iff_ne]; omega
  have o29 : (x.op == 29) = false := by rw [beq_eq_false_iff_ne]; omega
  have o32 : (x.op == 32) = true := by rw [beq_iff_eq]; omega
  have o30 : (x.op == 30) = false := by rw [beq_eq_false_iff_ne]; omega
  have o31 : (x.op == 31) = false := by rw [beq_eq_false_iff_ne]; omega
  obtain ⟨ra0, ra1⟩ := hs.a
  obtain ⟨na, hna⟩ := Int.eq_ofNat_of_zero_le ra0
  obtain ⟨rk0, rk1⟩ := hs.k21 (.inr hop)
  obtain ⟨nk, hnk⟩ := Int.eq_ofNat_of_zero_le rk0
  have HT := Lib.hid (show tskip s x = 0 by unfold tskip; rw [if_neg (by omega)])
  have HE := Lib.hid (show texec cells inn s x = { s with next := s.next.set nk (getI s.regs na) } by unfold texec setI; rw [if_neg (by omega), if_pos hop, hna, hnk]; rfl)
  have hlk : nk < s.next.length := by omega
  have hlk' : (nk : Int) < s.next.length := by omega
  have hzk' : (0 : Int) ≤ (nk : Int) := by omega
  obtain ⟨NB, cap, rfl⟩ := h0.nextAt (by omega)
  obtain ⟨_, cap', he, hcap1, hcap2, _⟩ := own_rd h0.next
  have hcap3 : cap ≤ 9223372036854775807 := by injection he with _ _ e3; unfold maxLen at hcap2; omega
  have hcap4 : s.next.length ≤ cap := by injection he with _ _ e3; omega
  have hNR := h0.nn NB rfl
  have hNT := hNR.1
  have hNO := hNR.2.2
  have hNR := hNR.2.1
  have ck : (w.alloc (.cells #[.int .i64 x.op, .int .i64 x.a, .int .i64 x.b, .int .i64 x.c, .int .i64 x.k] 30)).cell? ⟨NB, nk, none⟩ = some (.int .i64 (getI s.next nk)) := by
    rw [h0.next.cellAt nk (by omega)]
    simp [ints, getI, List.getD_eq_getElem?_getD, List.getElem?_eq_getElem hlk]
  have fk := h0.next.frozenAt nk
  clear he hcap2
  have hla : na < s.regs.length := by omega
  have hla' : (na : Int) < s.regs.length := by omega
  have hza' : (0 : Int) ≤ (na : Int) := by omega
  have HNa := Lib.hid hna
  clear hna ra0 ra1
  have HNk := Lib.hid hnk
  clear hnk rk0 rk1
  clear h hop hso hrl hol hnl hcl hil hs
  go_enter Try.func59, Try.ntmps59
  go_upto_region 1 with (fail)
  generalize w.alloc (.cells #[.int .i64 x.op, .int .i64 x.a, .int .i64 x.b, .int .i64 x.c, .int .i64 x.k] 30) = W at *
  generalize w.heap.size = gx at *
  obtain ⟨x0, x1, x2, x3, x4⟩ := in5x bX
  rw [HNa.out] at x1
  rw [HNk.out] at x4
  have l0 := h0.row.cell 0
  have l1 := h0.row.cell 1
  have l2 := h0.row.cell 2
  have l3 := h0.row.cell 3
  have l4 := h0.row.cell 4
  simp only [List.getElem?_toArray, List.getElem?_cons_zero, List.getElem?_cons_succ] at l0 l1 l2 l3 l4
  have ca := kind_cell h0.regs hla
  have rl := h0.rl
  have ol := h0.ol
  clear bX
  generalize getI s.next nk = vk at *
  generalize getI s.regs na = va at *
  go_wp2_with fail
  go_region
  all_goals
    go_wp2_with fail
    go_ret
    exact ⟨ret_i64 HT.out.symm, by rw [HE.out]; exact (h0.setNext nk va).drew, (u0.setCell (p := ⟨NB, nk, none⟩) (.inr (.inr rfl)) _).drew⟩
set_option maxRecDepth 100000 in
set_option maxHeartbeats 2000000 in
theorem does_skip : DoesC (fun op => op = 30) := by
  intro w C T R O vc vn vi cells inn s p i x hop h hs hrl hol hnl hcl hil
  have hgT : w.heap.size ≠ T := by have := h.row.lt; omega
  have hgR : w.heap.size ≠ R := by have := h.regs.lt; omega
  have hgO : w.heap.size ≠ O := by have := h.out.lt; omega
  have bX := Row.new w #[.int .i64 x.op, .int .i64 x.a, .int .i64 x.b, .int .i64 x.c, .int .i64 x.k] 30
  have h0 := h.alloc (.cells #[.int .i64 x.op, .int .i64 x.a, .int .i64 x.b, .int .i64 x.c, .int .i64 x.k] 30)
  have u0 : Upd (tkX R O vn) w (w.alloc (.cells #[.int .i64 x.op, .int .i64 x.a, .int .i64 x.b, .int .i64 x.c, .int .i64 x.k] 30)) := (Upd.refl _ _).alloc _
  have hso := hs.op
  have o1 : (x.op == 1) = false := by rw [beq_eq_false_iff_ne]; omega
  have o2 : (x.op == 2) = false := by rw [beq_eq_false_iff_ne]; omega
  have o3 : (x.op == 3) = false := by rw [beq_eq_false_iff_ne]; omega
  have o5 : (x.op == 5) = false := by rw [beq_eq_false_iff_ne]; omega
  have o6 : (x.op == 6) = false := by rw [beq_eq_false_iff_ne]; omega
  have o27 : (x.op == 27) = false := by rw [beq_eq_false_iff_ne]; omega
  have o21 : (x.op == 21) = false := by rw [beq_eq_false_iff_ne]; omega
  have o28 : (x.op == 28) = false := by rw [beq_eq_false_iff_ne]; omega
  have o29 : (x.op == 29) = false := by rw [beq_eq_false_iff_ne]; omega
  have o32 : (x.op == 32) = false := by rw [beq_eq_false_iff_ne]; omega
  have o30 : (x.op == 30) = true := by rw [beq_iff_eq]; omega
  have o31 : (x.op == 31) = false := by rw [beq_eq_false_iff_ne]; omega
  obtain ⟨ra0, ra1⟩ := hs.a
  obtain ⟨na, hna⟩ := Int.eq_ofNat_of_zero_le ra0
  have HE := Lib.hid (show texec cells inn s x = s by unfold texec; rw [if_neg (by omega), if_neg (by omega), if_pos (by omega)])
  have HS : Hid (∀ v, getI s.regs na = v → tskip s x = if v = 0 then x.k else 0) := by
    intro v hv
    unfold tskip
    rw [hna, hv]
    by_cases h0 : v = 0
    · simp [h0, hop]
    · simp [h0, hop]
  have hla : na < s.regs.length := by omega
  have hla' : (na : Int) < s.regs.length := by omega
  have hza' : (0 : Int) ≤ (na : Int) := by omega
  have HNa := Lib.hid hna
  clear hna ra0 ra1
  clear h hop hso hrl hol hnl hcl hil hs
  go_enter Try.func59, Try.ntmps59
  go_upto_region 1 with (fail)
  generalize w.alloc (.cells #[.int .i64 x.op, .int .i64 x.a, .int .i64 x.b, .int .i64 x.c, .int .i64 x.k] 30) = W at *
  generalize w.heap.size = gx at *
  obtain ⟨x0, x1, x2, x3, x4⟩ := in5x bX
  rw [HNa.out] at x1
  have l0 := h0.row.cell 0
  have l1 := h0.row.cell 1
  have l2 := h0.row.cell 2
  have l3 := h0.row.cell 3
  have l4 := h0.row.cell 4
  simp only [List.getElem?_toArray, List.getElem?_cons_zero, List.getElem?_cons_succ] at l0 l1 l2 l3 l4
  have ca := kind_cell h0.regs hla
  have rl := h0.rl
  have ol := h0.ol
  clear bX
  generalize hva : getI s.regs na = va at *
  have HV := Lib.hid (HS.out va rfl)
  clear hva HS
  by_cases h0v : va = 0
  · have e0 : (va == 0) = true := by simp [h0v]
    have HT := Lib.hid (show tskip s x = x.k by rw [HV.out]; simp [h0v])
    clear h0v HV
    go_wp2_with fail
    go_quiet (fail)
    go_wp2_with fail
    go_ret
    exact ⟨ret_i64 HT.out.symm, by rw [HE.out]; exact h0.drewN _, u0.drewN _⟩
  · have e0 : (va == 0) = false := by simp [h0v]
    have HT := Lib.hid (show tskip s x = 0 by rw [HV.out]; simp [h0v])
    clear h0v HV
    go_wp2_with fail
    go_quiet (fail)
    go_wp2_with fail
    go_ret
    exact ⟨ret_i64 HT.out.symm, by rw [HE.out]; exact h0.drewN _, u0.drewN _⟩
set_option maxRecDepth 100000 in
set_option maxHeartbeats 2000000 in
theorem does_skipNot : DoesC (fun op => op = 31) := by
  intro w C T R O vc vn vi cells inn s p i x hop h hs hrl hol hnl hcl hil
  have hgT : w.heap.size ≠ T := by have := h.row.lt; omega
  have hgR : w.heap.size ≠ R := by have := h.regs.lt; omega
  have hgO : w.heap.size ≠ O := by have := h.out.lt; omega
  have bX := Row.new w #[.int .i64 x.op, .int .i64 x.a, .int .i64 x.b, .int .i64 x.c, .int .i64 x.k] 30
  have h0 := h.alloc (.cells #[.int .i64 x.op, .int .i64 x.a, .int .i64 x.b, .int .i64 x.c, .int .i64 x.k] 30)
  have u0 : Upd (tkX R O vn) w (w.alloc (.cells #[.int .i64 x.op, .int .i64 x.a, .int .i64 x.b, .int .i64 x.c, .int .i64 x.k] 30)) := (Upd.refl _ _).alloc _
  have hso := hs.op
  have o1 : (x.op == 1) = false := by rw [beq_eq_false_iff_ne]; omega
  have o2 : (x.op == 2) = false := by rw [beq_eq_false_iff_ne]; omega
  have o3 : (x.op == 3) = false := by rw [beq_eq_false_iff_ne]; omega
  have o5 : (x.op == 5) = false := by rw [beq_eq_false_iff_ne]; omega
  have o6 : (x.op == 6) = false := by rw [beq_eq_false_iff_ne]; omega
  have o27 : (x.op == 27) = false := by rw [beq_eq_false_iff_ne]; omega
  have o21 : (x.op == 21) = false := by rw [beq_eq_false_iff_ne]; omega
  have o28 : (x.op == 28) = false := by rw [beq_eq_false_iff_ne]; omega
  have o29 : (x.op == 29) = false := by rw [beq_eq_false_iff_ne]; omega
  have o32 : (x.op == 32) = false := by rw [beq_eq_false_iff_ne]; omega
  have o30 : (x.op == 30) = false := by rw [beq_eq_false_iff_ne]; omega
  have o31 : (x.op == 31) = true := by rw [beq_iff_eq]; omega
  obtain ⟨ra0, ra1⟩ := hs.a
  obtain ⟨na, hna⟩ := Int.eq_ofNat_of_zero_le ra0
  have HE := Lib.hid (show texec cells inn s x = s by unfold texec; rw [if_neg (by omega), if_neg (by omega), if_pos (by omega)])
  have HS : Hid (∀ v, getI s.regs na = v → tskip s x = if v ≠ 0 then x.k else 0) := by
    intro v hv
    unfold tskip
    rw [hna, hv]
    by_cases h0 : v = 0
    · simp [h0, hop]
    · simp [h0, hop]
  have hla : na < s.regs.length := by omega
  have hla' : (na : Int) < s.regs.length := by omega
  have hza' : (0 : Int) ≤ (na : Int) := by omega
  have HNa := Lib.hid hna
  clear hna ra0 ra1
  clear h hop hso hrl hol hnl hcl hil hs
  go_enter Try.func59, Try.ntmps59
  go_upto_region 1 with (fail)
  generalize w.alloc (.cells #[.int .i64 x.op, .int .i64 x.a, .int .i64 x.b, .int .i64 x.c, .int .i64 x.k] 30) = W at *
  generalize w.heap.size = gx at *
  obtain ⟨x0, x1, x2, x3, x4⟩ := in5x bX
  rw [HNa.out] at x1
  have l0 := h0.row.cell 0
  have l1 := h0.row.cell 1
  have l2 := h0.row.cell 2
  have l3 := h0.row.cell 3
  have l4 := h0.row.cell 4
  simp only [List.getElem?_toArray, List.getElem?_cons_zero, List.getElem?_cons_succ] at l0 l1 l2 l3 l4
  have ca := kind_cell h0.regs hla
  have rl := h0.rl
  have ol := h0.ol
  clear bX
  generalize hva : getI s.regs na = va at *
  have HV := Lib.hid (HS.out va rfl)
  clear hva HS
  by_cases h0v : va = 0
  · have e0 : (va == 0) = true := by simp [h0v]
    have HT := Lib.hid (show tskip s x = 0 by rw [HV.out]; simp [h0v])
    clear h0v HV
    go_wp2_with fail
    go_quiet (fail)
    go_wp2_with fail
    go_ret
    exact ⟨ret_i64 HT.out.symm, by rw [HE.out]; exact h0.drewN _, u0.drewN _⟩
  · have e0 : (va == 0) = false := by simp [h0v]
    have HT := Lib.hid (show tskip s x = x.k by rw [HV.out]; simp [h0v])
    clear h0v HV
    go_wp2_with fail
    go_quiet (fail)
    go_wp2_with fail
    go_ret
    exact ⟨ret_i64 HT.out.symm, by rw [HE.out]; exact h0.drewN _, u0.drewN _⟩
end Go.Proofs.Ytbjaejgechadpaa
