/-
  The contract of a machine's tick's does: its parts Var, Int, Bool, Neg, Not.
-/
import Derived.Test.YtbjaejgechadpaaVmMem
import Derived.Deep.DrawnRows
import Derived.Deep.RegionHeld3
import Derived.StillTailTactics
namespace Go.Proofs.Ytbjaejgechadpaa
open Go.RowKit Vf
attribute [local go_sem ↓] Go.wp_at_zero Go.wp_at_succ
set_option maxRecDepth 100000 in
set_option maxHeartbeats 2000000 in
theorem does_var : DoesC (fun op => op = 3) := by
  intro w C T R O vc vn vi cells inn s p i x hop h hs hrl hol hnl hcl hil
  have hgT : w.heap.size ≠ T := by have := h.row.lt; omega
  have hgR : w.heap.size ≠ R := by have := h.regs.lt; omega
  have hgO : w.heap.size ≠ O := by have := h.out.lt; omega
  have bX := Row.new w #[.int .i64 x.op, .int .i64 x.a, .int .i64 x.b, .int .i64 x.c, .int .i64 x.k] 30
  have h0 := h.alloc (.cells #[.int .i64 x.op, .int .i64 x.a, .int .i64 x.b, .int .i64 x.c, .int .i64 x.k] 30)
  have u0 : Upd (tkX R O vn) w (w.alloc (.cells #[.int .i64 x.op, .int .i64 x.a, .int .i64 x.b, .int .i64 x.c, .int .i64 x.k] 30)) := (Upd.refl _ _).alloc _
  have hso := hs.op
  have o1 : (x.op == 1) = false := by rw [beq_eq_false_iff_ne]; omega
  have o2 : (x.op == 2) = false := by rw [beq_eq_false_iff_ne]; omega
  have o3 : (x.op == 3) = true := by rw [beq_iff_eq]; omega
  have o5 : (x.op == 5) = false := by rw [beq_eq_false_iff_ne]; omega
  have o6 : (x.op == 6) = false := by rw [beq_eq_false_iff_ne]; omega
  have o27 : (x.op == 27) = false := by rw [beq_eq_false_iff_ne]; omega
  have o21 : (x.op == 21) = false := by rw [beq_eq_false_iff_ne]; omega
  have o28 : (x.op == 28) = false := by rw [beq_eq_false_iff_ne]; omega
  have o29 : (x.op == 29) = false := by rw [beq_eq_false_iff_ne]; omega
  have o32 : (x.op == 32) = false := by rw [beq_eq_false_iff_ne]; omega
  have o30 : (x.op == 30) = false := by rw [beq_eq_false_iff_ne]; omega
  have o31 : (x.op == 31) = false := by rw [beq_eq_false_iff_ne]; omega
  obtain ⟨ra0, ra1⟩ := hs.a
  obtain ⟨na, hna⟩ := Int.eq_ofNat_of_zero_le ra0
  obtain ⟨rb0, rb1⟩ := hs.b (.inl hop)
  obtain ⟨nb, hnb⟩ := Int.eq_ofNat_of_zero_le rb0
  have HT := Lib.hid (show tskip s x = 0 by unfold tskip; rw [if_neg (by omega)])
  have HE := Lib.hid (show texec cells inn s x = { s with regs := s.regs.set na (getI s.regs nb) } by unfold texec vgive setI; rw [if_neg (by omega), if_neg (by omega), if_neg (by omega), if_neg (by omega), if_pos hop, hna, hnb]; rfl)
  have hla : na < s.regs.length := by omega
  have hla' : (na : Int) < s.regs.length := by omega
  have hza' : (0 : Int) ≤ (na : Int) := by omega
  have hlb : nb < s.regs.length := by omega
  have hlb' : (nb : Int) < s.regs.length := by omega
  have hzb' : (0 : Int) ≤ (nb : Int) := by omega
  have HNa := Lib.hid hna
  clear hna ra0 ra1
  have HNb := Lib.hid hnb
  clear hnb rb0 rb1
  clear h hop hso hrl hol hnl hcl hil hs
  go_enter Try.func59, Try.ntmps59
  go_upto_region 1 with (fail)
  generalize w.alloc (.cells #[.int .i64 x.op, .int .i64 x.a, .int .i64 x.b, .int .i64 x.c, .int .i64 x.k] 30) = W at *
  generalize w.heap.size = gx at *
  obtain ⟨x0, x1, x2, x3, x4⟩ := in5x bX
  rw [HNa.out] at x1
  rw [HNb.out] at x2
  have l0 := h0.row.cell 0
  have l1 := h0.row.cell 1
  have l2 := h0.row.cell 2
  have l3 := h0.row.cell 3
  have l4 := h0.row.cell 4
  simp only [List.getElem?_toArray, List.getElem?_cons_zero, List.getElem?_cons_succ] at l0 l1 l2 l3 l4
  have ca := kind_cell h0.regs hla
  have cb := kind_cell h0.regs hlb
  have rl := h0.rl
  have ol := h0.ol
  have fa := h0.regs.frozen na
  clear bX
  generalize getI s.regs nb = vb at *
  generalize getI s.regs na = va at *
  go_wp2_with fail
  go_region
  all_goals
    go_wp2_with fail
    go_ret
    exact ⟨ret_i64 HT.out.symm, by rw [HE.out]; exact (h0.setReg na (vb)).drew, (u0.setCell (.inl rfl) _).drew⟩
set_option maxRecDepth 100000 in
set_option maxHeartbeats 2000000 in
theorem does_int : DoesC (fun op => op = 1) := by
  intro w C T R O vc vn vi cells inn s p i x hop h hs hrl hol hnl hcl hil
  have hgT : w.heap.size ≠ T := by have := h.row.lt; omega
  have hgR : w.heap.size ≠ R := by have := h.regs.lt; omega
  have hgO : w.heap.size ≠ O := by have := h.out.lt; omega
  have bX := Row.new w #[.int .i64 x.op, .int .i64 x.a, .int .i64 x.b, .int .i64 x.c, .int .i64 x.k] 30
  have h0 := h.alloc (.cells #[.int .i64 x.op, .int .i64 x.a, .int .i64 x.b, .int .i64 x.c, .int .i64 x.k] 30)
  have u0 : Upd (tkX R O vn) w (w.alloc (.cells #[.int .i64 x.op, .int .i64 x.a, .int .i64 x.b, .int .i64 x.c, .int .i64 x.k] 30)) := (Upd.refl _ _).alloc _
  have hso := hs.op
  have o1 : (x.op == 1) = true := by rw [beq_iff_eq]; omega
  have o2 : (x.op == 2) = false := by rw [beq_eq_false_iff_ne]; omega
  have o3 : (x.op == 3) = false := by rw [beq_eq_false_iff_ne]; omega
  have o5 : (x.op == 5) = false := by rw [beq_eq_false_iff_ne]; omega
  have o6 : (x.op == 6) = false := by rw [beq_eq_false_iff_ne]; omega
  have o27 : (x.op == 27) = false := by rw [beq_eq_false_iff_ne]; omega
  have o21 : (x.op == 21) = false := by rw [beq_eq_false_iff_ne]; omega
  have o28 : (x.op == 28) = false := by rw [beq_eq_false_iff_ne]; omega
  have o29 : (x.op == 29) = false := by rw [beq_eq_false_iff_ne]; omega
  have o32 : (x.op == 32) = false := by rw [beq_eq_false_iff_ne]; omega
  have o30 : (x.op == 30) = false := by rw [beq_eq_false_iff_ne]; omega
  have o31 : (x.op == 31) = false := by rw [beq_eq_false_iff_ne]; omega
  obtain ⟨ra0, ra1⟩ := hs.a
  obtain ⟨na, hna⟩ := Int.eq_ofNat_of_zero_le ra0
  have HT := Lib.hid (show tskip s x = 0 by unfold tskip; rw [if_neg (by omega)])
  have HE := Lib.hid (show texec cells inn s x = { s with regs := s.regs.set na (x.k) } by unfold texec vgive setI; rw [if_neg (by omega), if_neg (by omega), if_neg (by omega), if_pos (by omega), hna]; rfl)
  have hla : na < s.regs.length := by omega
  have hla' : (na : Int) < s.regs.length := by omega
  have hza' : (0 : Int) ≤ (na : Int) := by omega
  have HNa := Lib.hid hna
  clear hna ra0 ra1
  clear h hop hso hrl hol hnl hcl hil hs
  go_enter Try.func59, Try.ntmps59
  go_upto_region 1 with (fail)
  generalize w.alloc (.cells #[.int .i64 x.op, .int .i64 x.a, .int .i64 x.b, .int .i64 x.c, .int .i64 x.k] 30) = W at *
  generalize w.heap.size = gx at *
  obtain ⟨x0, x1, x2, x3, x4⟩ := in5x bX
  rw [HNa.out] at x1
  have l0 := h0.row.cell 0
  have l1 := h0.row.cell 1
  have l2 := h0.row.cell 2
  have l3 := h0.row.cell 3
  have l4 := h0.row.cell 4
  simp only [List.getElem?_toArray, List.getElem?_cons_zero, List.getElem?_cons_succ] at l0 l1 l2 l3 l4
  have ca := kind_cell h0.regs hla
  have rl := h0.rl
  have ol := h0.ol
  have fa := h0.regs.frozen na
  clear bX
  generalize getI s.regs na = va at *
  go_wp2_with fail
  go_ret
  exact ⟨ret_i64 HT.out.symm, by rw [HE.out]; exact (h0.setReg na (x.k)), (u0.setCell (.inl rfl) _)⟩
set_option maxRecDepth 100000 in
set_option maxHeartbeats 2000000 in
theorem does_bool : DoesC (fun op => op = 2) := by
  intro w C T R O vc vn vi cells inn s p i x hop h hs hrl hol hnl hcl hil
  have hgT : w.heap.size ≠ T := by have := h.row.lt; omega
  have hgR : w.heap.size ≠ R := by have := h.regs.lt; omega
  have hgO : w.heap.size ≠ O := by have := h.out.lt; omega
  have bX := Row.new w #[.int .i64 x.op, .int .i64 x.a, .int .i64 x.b, .int .i64 x.c, .int .i64 x.k] 30
  have h0 := h.alloc (.cells #[.int .i64 x.op, .int .i64 x.a, .int .i64 x.b, .int .i64 x.c, .int .i64 x.k] 30)
  have u0 : Upd (tkX R O vn) w (w.alloc (.cells #[.int .i64 x.op, .int .i64 x.a, .int .i64 x.b, .int .i64 x.c, .int .i64 x.k] 30)) := (Upd.refl _ _).alloc _
  have hso := hs.op
  have o1 : (x.op == 1) = false := by rw [beq_eq_false_iff_ne]; omega
  have o2 : (x.op == 2) = true := by rw [beq_iff_eq]; omega
  have o3 : (x.op == 3) = false := by rw [beq_eq_false_iff_ne]; omega
  have o5 : (x.op == 5) = false := by rw [beq_eq_false_iff_ne]; omega
  have o6 : (x.op == 6) = false := by rw [beq_eq_false_iff_ne]; omega
  have o27 : (x.op == 27) = false := by rw [beq_eq_false_iff_ne]; omega
  have o21 : (x.op == 21) = false := by rw [beq_eq_false_iff_ne]; omega
  have o28 : (x.op == 28) = false := by rw [beq_eq_false_iff_ne]; omega
  have o29 : (x.op == 29) = false := by rw [beq_eq_false_iff_ne]; omega
  have o32 : (x.op == 32) = false := by rw [beq_eq_false_iff_ne]; omega
  have o30 : (x.op == 30) = false := by rw [beq_eq_false_iff_ne]; omega
  have o31 : (x.op == 31) = false := by rw [beq_eq_false_iff_ne]; omega
  obtain ⟨ra0, ra1⟩ := hs.a
  obtain ⟨na, hna⟩ := Int.eq_ofNat_of_zero_le ra0
  have HT := Lib.hid (show tskip s x = 0 by unfold tskip; rw [if_neg (by omega)])
  have HE := Lib.hid (show texec cells inn s x = { s with regs := s.regs.set na (x.k) } by unfold texec vgive setI; rw [if_neg (by omega), if_neg (by omega), if_neg (by omega), if_pos (by omega), hna]; rfl)
  have hla : na < s.regs.length := by omega
  have hla' : (na : Int) < s.regs.length := by omega
  have hza' : (0 : Int) ≤ (na : Int) := by omega
  have HNa := Lib.hid hna
  clear hna ra0 ra1
  clear h hop hso hrl hol hnl hcl hil hs
  go_enter Try.func59, Try.ntmps59
  go_upto_region 1 with (fail)
  generalize w.alloc (.cells #[.int .i64 x.op, .int .i64 x.a, .int .i64 x.b, .int .i64 x.c, .int .i64 x.k] 30) = W at *
  generalize w.heap.size = gx at *
  obtain ⟨x0, x1, x2, x3, x4⟩ := in5x bX
  rw [HNa.out] at x1
  have l0 := h0.row.cell 0
  have l1 := h0.row.cell 1
  have l2 := h0.row.cell 2
  have l3 := h0.row.cell 3
  have l4 := h0.row.cell 4
  simp only [List.getElem?_toArray, List.getElem?_cons_zero, List.getElem?_cons_succ] at l0 l1 l2 l3 l4
  have ca := kind_cell h0.regs hla
  have rl := h0.rl
  have ol := h0.ol
  have fa := h0.regs.frozen na
  clear bX
  generalize getI s.regs na = va at *
  go_wp2_with fail
  go_ret
  exact ⟨ret_i64 HT.out.symm, by rw [HE.out]; exact (h0.setReg na (x.k)), (u0.setCell (.inl rfl) _)⟩
set_option maxRecDepth 100000 in
set_option maxHeartbeats 2000000 in
theorem does_neg : DoesC (fun op => op = 5) := by
  intro w C T R O vc vn vi cells inn s p i x hop h hs hrl hol hnl hcl hil
  have hgT : w.heap.size ≠ T := by have := h.row.lt; omega
  have hgR : w.heap.size ≠ R := by have := h.regs.lt; omega
  have hgO : w.heap.size ≠ O := by have := h.out.lt; omega
  have bX := Row.new w #[.int .i64 x.op, .int .i64 x.a, .int .i64 x.b, .int .i64 x.c, .int .i64 x.k] 30
  have h0 := h.alloc (.cells #[.int .i64 x.op, .int .i64 x.a, .int .i64 x.b, .int .i64 x.c, .int .i64 x.k] 30)
  have u0 : Upd (tkX R O vn) w (w.alloc (.cells #[.int .i64 x.op, .int .i64 x.a, .int .i64 x.b, .int .i64 x.c, .int .i64 x.k] 30)) := (Upd.refl _ _).alloc _
  have hso := hs.op
  have o1 : (x.op == 1) = false := by rw [beq_eq_false_iff_ne]; omega
  have o2 : (x.op == 2) = false := by rw [beq_eq_false_iff_ne]; omega
  have o3 : (x.op == 3) = false := by rw [beq_eq_false_iff_ne]; omega
  have o5 : (x.op == 5) = true := by rw [beq_iff_eq]; omega
  have o6 : (x.op == 6) = false := by rw [beq_eq_false_iff_ne]; omega
  have o27 : (x.op == 27) = false := by rw [beq_eq_false_iff_ne]; omega
  have o21 : (x.op == 21) = false := by rw [beq_eq_false_iff_ne]; omega
  have o28 : (x.op == 28) = false := by rw [beq_eq_false_iff_ne]; omega
  have o29 : (x.op == 29) = false := by rw [beq_eq_false_iff_ne]; omega
  have o32 : (x.op == 32) = false := by rw [beq_eq_false_iff_ne]; omega
  have o30 : (x.op == 30) = false := by rw [beq_eq_false_iff_ne]; omega
  have o31 : (x.op == 31) = false := by rw [beq_eq_false_iff_ne]; omega
  obtain ⟨ra0, ra1⟩ := hs.a
  obtain ⟨na, hna⟩ := Int.eq_ofNat_of_zero_le ra0
  obtain ⟨rb0, rb1⟩ := hs.b (.inr (.inl (by omega)))
  obtain ⟨nb, hnb⟩ := Int.eq_ofNat_of_zero_le rb0
  have hab : na ≠ nb := by have := hs.ab (.inr (.inl (by omega))); omega
  have HT := Lib.hid (show tskip s x = 0 by unfold tskip; rw [if_neg (by omega)])
  have HE := Lib.hid (show texec cells inn s x = { s with regs := s.regs.set na (Ar.oneV x.op (getI s.regs nb)) } by unfold texec vgive setI; rw [if_neg (by omega), if_neg (by omega), if_neg (by omega), if_neg (by omega), if_neg (by omega), if_pos (by omega), hna, hnb]; rfl)
  have hla : na < s.regs.length := by omega
  have hla' : (na : Int) < s.regs.length := by omega
  have hza' : (0 : Int) ≤ (na : Int) := by omega
  have hlb : nb < s.regs.length := by omega
  have hlb' : (nb : Int) < s.regs.length := by omega
  have hzb' : (0 : Int) ≤ (nb : Int) := by omega
  have HNa := Lib.hid hna
  clear hna ra0 ra1
  have HNb := Lib.hid hnb
  clear hnb rb0 rb1
  clear h hop hso hrl hol hnl hcl hil hs
  go_enter Try.func59, Try.ntmps59
  go_upto_region 1 with (fail)
  generalize w.alloc (.cells #[.int .i64 x.op, .int .i64 x.a, .int .i64 x.b, .int .i64 x.c, .int .i64 x.k] 30) = W at *
  generalize w.heap.size = gx at *
  obtain ⟨x0, x1, x2, x3, x4⟩ := in5x bX
  rw [HNa.out] at x1
  rw [HNb.out] at x2
  have l0 := h0.row.cell 0
  have l1 := h0.row.cell 1
  have l2 := h0.row.cell 2
  have l3 := h0.row.cell 3
  have l4 := h0.row.cell 4
  simp only [List.getElem?_toArray, List.getElem?_cons_zero, List.getElem?_cons_succ] at l0 l1 l2 l3 l4
  have ca := kind_cell h0.regs hla
  have cb := kind_cell h0.regs hlb
  have rl := h0.rl
  have ol := h0.ol
  have fa := h0.regs.frozen na
  generalize hvb : getI s.regs nb = vb at *
  have HVB := Lib.hid hvb
  clear hvb
  generalize getI s.regs na = va at *
  have HC := Lib.hid (Ar.one_any x.op vb W.drew)
  generalize Ar.oneV x.op vb = vo at *
  have bX1 := (bX.far (p := ⟨R, na, none⟩) hgR (.int .i64 vo)).drew
  obtain ⟨y0, y1, y2, y3, y4⟩ := in5x bX1
  rw [HNa.out] at y1
  rw [HNb.out] at y2
  have h1 := (h0.setReg na vo).drew
  have cb1 := kind_cell h1.regs (n := nb) (show nb < (s.regs.set na vo).length by simpa using hlb)
  rw [show getI (s.regs.set na vo) nb = vb by rw [← HVB.out]; simp [getI, List.getD_eq_getElem?_getD, List.getElem?_set_ne hab]] at cb1
  clear bX1 h1 bX
  go_wp2_with fail
  go_region_held3 (fun w' => w'.cell? ⟨gx, 0, none⟩ = some (.int .i64 x.op) ∧ w'.cell? ⟨gx, 1, none⟩ = some (.int .i64 (na : Int)) ∧ w'.cell? ⟨gx, 2, none⟩ = some (.int .i64 (nb : Int)) ∧ w'.cell? ⟨R, nb, none⟩ = some (.int .i64 vb))
    (first | exact ⟨x0, x1, x2, cb⟩ | exact ⟨y0, y1, y2, cb1⟩)
    (first | (go_at_call 96; refine HC.out.mono ?_; rintro e w' ⟨rfl, rfl⟩))
  all_goals
    go_wp2_with fail
    go_ret
    exact ⟨ret_i64 HT.out.symm, by rw [HE.out]; exact (h0.setReg na (vo)).drew, (u0.setCell (.inl rfl) _).drew⟩
set_option maxRecDepth 100000 in
set_option maxHeartbeats 2000000 in
theorem does_not : DoesC (fun op => op = 6) := by
  intro w C T R O vc vn vi cells inn s p i x hop h hs hrl hol hnl hcl hil
  have hgT : w.heap.size ≠ T := by have := h.row.lt; omega
  have hgR : w.heap.size ≠ R := by have := h.regs.lt; omega
  have hgO : w.heap.size ≠ O := by have := h.out.lt; omega
  have bX := Row.new w #[.int .i64 x.op, .int .i64 x.a, .int .i64 x.b, .int .i64 x.c, .int .i64 x.k] 30
  have h0 := h.alloc (.cells #[.int .i64 x.op, .int .i64 x.a, .int .i64 x.b, .int .i64 x.c, .int .i64 x.k] 30)
  have u0 : Upd (tkX R O vn) w (w.alloc (.cells #[.int .i64 x.op, .int .i64 x.a, .int .i64 x.b, .int .i64 x.c, .int .i64 x.k] 30)) := (Upd.refl _ _).alloc _
  have hso := hs.op
  have o1 : (x.op == 1) = false := by rw [beq_eq_false_iff_ne]; omega
  have o2 : (x.op == 2) = false := by rw [beq_eq_false_iff_ne]; omega
  have o3 : (x.op == 3) = false := by rw [beq_eq_false_iff_ne]; omega
  have o5 : (x.op == 5) = false := by rw [beq_eq_false_iff_ne]; omega
  have o6 : (x.op == 6) = true := by rw [beq_iff_eq]; omega
  have o27 : (x.op == 27) = false := by rw [beq_eq_false_iff_ne]; omega
  have o21 : (x.op == 21) = false := by rw [beq_eq_false_iff_ne]; omega
  have o28 : (x.op == 28) = false := by rw [beq_eq_false_iff_ne]; omega
  have o29 : (x.op == 29) = false := by rw [beq_eq_false_iff_ne]; omega
  have o32 : (x.op == 32) = false := by rw [beq_eq_false_iff_ne]; omega
  have o30 : (x.op == 30) = false := by rw [beq_eq_false_iff_ne]; omega
  have o31 : (x.op == 31) = false := by rw [beq_eq_false_iff_ne]; omega
  obtain ⟨ra0, ra1⟩ := hs.a
  obtain ⟨na, hna⟩ := Int.eq_ofNat_of_zero_le ra0
  obtain ⟨rb0, rb1⟩ := hs.b (.inr (.inl (by omega)))
  obtain ⟨nb, hnb⟩ := Int.eq_ofNat_of_zero_le rb0
  have hab : na ≠ nb := by have := hs.ab (.inr (.inl (by omega))); omega
  have HT := Lib.hid (show tskip s x = 0 by unfold tskip; rw [if_neg (by omega)])
  have HE := Lib.hid (show texec cells inn s x = { s with regs := s.regs.set na (Ar.oneV x.op (getI s.regs nb)) } by unfold texec vgive setI; rw [if_neg (by omega), if_neg (by omega), if_neg (by omega), if_neg (by omega), if_neg (by omega), if_pos (by omega), hna, hnb]; rfl)
  have hla : na < s.regs.length := by omega
  have hla' : (na : Int) < s.regs.length := by omega
  have hza' : (0 : Int) ≤ (na : Int) := by omega
  have hlb : nb < s.regs.length := by omega
  have hlb' : (nb : Int) < s.regs.length := by omega
  have hzb' : (0 : Int) ≤ (nb : Int) := by omega
  have HNa := Lib.hid hna
  clear hna ra0 ra1
  have HNb := Lib.hid hnb
  clear hnb rb0 rb1
  clear h hop hso hrl hol hnl hcl hil hs
  go_enter Try.func59, Try.ntmps59
  go_upto_region 1 with (fail)
  generalize w.alloc (.cells #[.int .i64 x.op, .int .i64 x.a, .int .i64 x.b, .int .i64 x.c, .int .i64 x.k] 30) = W at *
  generalize w.heap.size = gx at *
  obtain ⟨x0, x1, x2, x3, x4⟩ := in5x bX
  rw [HNa.out] at x1
  rw [HNb.out] at x2
  have l0 := h0.row.cell 0
  have l1 := h0.row.cell 1
  have l2 := h0.row.cell 2
  have l3 := h0.row.cell 3
  have l4 := h0.row.cell 4
  simp only [List.getElem?_toArray, List.getElem?_cons_zero, List.getElem?_cons_succ] at l0 l1 l2 l3 l4
  have ca := kind_cell h0.regs hla
  have cb := kind_cell h0.regs hlb
  have rl := h0.rl
  have ol := h0.ol
  have fa := h0.regs.frozen na
  generalize hvb : getI s.regs nb = vb at *
  have HVB := Lib.hid hvb
  clear hvb
  generalize getI s.regs na = va at *
  have HC := Lib.hid (Ar.one_any x.op vb W.drew)
  generalize Ar.oneV x.op vb = vo at *
  have bX1 := (bX.far (p := ⟨R, na, none⟩) hgR (.int .i64 vo)).drew
  obtain ⟨y0, y1, y2, y3, y4⟩ := in5x bX1
  rw [HNa.out] at y1
  rw [HNb.out] at y2
  have h1 := (h0.setReg na vo).drew
  have cb1 := kind_cell h1.regs (n := nb) (show nb < (s.regs.set na vo).length by simpa using hlb)
  rw [show getI (s.regs.set na vo) nb = vb by rw [← HVB.out]; simp [getI, List.getD_eq_getElem?_getD, List.getElem?_set_ne hab]] at cb1
  clear bX1 h1 bX
  go_wp2_with fail
  go_region_held3 (fun w' => w'.cell? ⟨gx, 0, none⟩ = some (.int .i64 x.op) ∧ w'.cell? ⟨gx, 1, none⟩ = some (.int .i64 (na : Int)) ∧ w'.cell? ⟨gx, 2, none⟩ = some (.int .i64 (nb : Int)) ∧ w'.cell? ⟨R, nb, none⟩ = some (.int .i64 vb))
    (first | exact ⟨x0, x1, x2, cb⟩ | exact ⟨y0, y1, y2, cb1⟩)
    (first | (go_at_call 96; refine HC.out.mono ?_; rintro e w' ⟨rfl, rfl⟩))
  all_goals
    go_wp2_with fail
    go_ret
    exact ⟨ret_i64 HT.out.symm, by rw [HE.out]; exact (h0.setReg na (vo)).drew, (u0.setCell (.inl rfl) _).drew⟩
end Go.Proofs.Ytbjaejgechadpaa
