/-
  The contract of a machine's tick's does: its parts Do, If, Pre, In.
-/
import Derived.Test.YtbjaejgechadpaaVmMem
import Derived.Deep.DrawnRows
import Derived.Deep.RegionHeld3
import Derived.StillTailTactics
namespace Go.Proofs.Ytbjaejgechadpaa
open Go.RowKit Vf
attribute [local go_sem ↓] Go.wp_at_zero Go.wp_at_succ
set_option maxRecDepth 100000 in
set_option maxHeartbeats 2000000 in
theorem does_do : DoesC (fun op => 7 ≤ op ∧ op ≤ 20) := by
  intro w C T R O vc vn vi cells inn s p i x hop h hs hrl hol hnl hcl hil
  have hgT : w.heap.size ≠ T := by have := h.row.lt; omega
  have hgR : w.heap.size ≠ R := by have := h.regs.lt; omega
  have hgO : w.heap.size ≠ O := by have := h.out.lt; omega
  have bX := Row.new w #[.int .i64 x.op, .int .i64 x.a, .int .i64 x.b, .int .i64 x.c, .int .i64 x.k] 30
  have h0 := h.alloc (.cells #[.int .i64 x.op, .int .i64 x.a, .int .i64 x.b, .int .i64 x.c, .int .i64 x.k] 30)
  have u0 : Upd (tkX R O vn) w (w.alloc (.cells #[.int .i64 x.op, .int .i64 x.a, .int .i64 x.b, .int .i64 x.c, .int .i64 x.k] 30)) := (Upd.refl _ _).alloc _
  have hso := hs.op
  have o1 : (x.op == 1) = false := by rw [beq_eq_false_iff_ne]; omega
  have o2 : (x.op == 2) = false := by rw [beq_eq_false_iff_ne]; omega
  have o3 : (x.op == 3) = false := by rw [beq_eq_false_iff_ne]; omega
  have o5 : (x.op == 5) = false := by rw [beq_eq_false_iff_ne]; omega
  have o6 : (x.op == 6) = false := by rw [beq_eq_false_iff_ne]; omega
  have o27 : (x.op == 27) = false := by rw [beq_eq_false_iff_ne]; omega
  have o21 : (x.op == 21) = false := by rw [beq_eq_false_iff_ne]; omega
  have o28 : (x.op == 28) = false := by rw [beq_eq_false_iff_ne]; omega
  have o29 : (x.op == 29) = false := by rw [beq_eq_false_iff_ne]; omega
  have o32 : (x.op == 32) = false := by rw [beq_eq_false_iff_ne]; omega
  have o30 : (x.op == 30) = false := by rw [beq_eq_false_iff_ne]; omega
  have o31 : (x.op == 31) = false := by rw [beq_eq_false_iff_ne]; omega
  obtain ⟨ra0, ra1⟩ := hs.a
  obtain ⟨na, hna⟩ := Int.eq_ofNat_of_zero_le ra0
  obtain ⟨rb0, rb1⟩ := hs.b (.inr (.inl (by omega)))
  obtain ⟨nb, hnb⟩ := Int.eq_ofNat_of_zero_le rb0
  obtain ⟨rc0, rc1⟩ := hs.c (.inl hop)
  obtain ⟨nc, hnc⟩ := Int.eq_ofNat_of_zero_le rc0
  have hab : na ≠ nb := by have := hs.ab (.inr (.inl (by omega))); omega
  have hac : na ≠ nc := by have := hs.ac (.inl hop); omega
  have HT := Lib.hid (show tskip s x = 0 by unfold tskip; rw [if_neg (by omega)])
  have HE := Lib.hid (show texec cells inn s x = { s with regs := s.regs.set na (Ar.doV x.op (getI s.regs nb) (getI s.regs nc)) } by unfold texec vgive setI; rw [if_neg (by omega), if_neg (by omega), if_neg (by omega), if_neg (by omega), if_neg (by omega), if_neg (by omega), if_neg (by omega), if_neg (by omega), if_neg (by omega), hna, hnb, hnc]; rfl)
  have hla : na < s.regs.length := by omega
  have hla' : (na : Int) < s.regs.length := by omega
  have hza' : (0 : Int) ≤ (na : Int) := by omega
  have hlb : nb < s.regs.length := by omega
  have hlb' : (nb : Int) < s.regs.length := by omega
  have hzb' : (0 : Int) ≤ (nb : Int) := by omega
  have hlc : nc < s.regs.length := by omega
  have hlc' : (nc : Int) < s.regs.length := by omega
  have hzc' : (0 : Int) ≤ (nc : Int) := by omega
  have HNa := Lib.hid hna
  clear hna ra0 ra1
  have HNb := Lib.hid hnb
  clear hnb rb0 rb1
  have HNc := Lib.hid hnc
  clear hnc rc0 rc1
  clear h hop hso hrl hol hnl hcl hil hs
  go_enter Try.func59, Try.ntmps59
  go_upto_region 1 with (fail)
  generalize w.alloc (.cells #[.int .i64 x.op, .int .i64 x.a, .int .i64 x.b, .int .i64 x.c, .int .i64 x.k] 30) = W at *
  generalize w.heap.size = gx at *
  obtain ⟨x0, x1, x2, x3, x4⟩ := in5x bX
  rw [HNa.out] at x1
  rw [HNb.out] at x2
  rw [HNc.out] at x3
  have l0 := h0.row.cell 0
  have l1 := h0.row.cell 1
  have l2 := h0.row.cell 2
  have l3 := h0.row.cell 3
  have l4 := h0.row.cell 4
  simp only [List.getElem?_toArray, List.getElem?_cons_zero, List.getElem?_cons_succ] at l0 l1 l2 l3 l4
  have ca := kind_cell h0.regs hla
  have cb := kind_cell h0.regs hlb
  have cc := kind_cell h0.regs hlc
  have rl := h0.rl
  have ol := h0.ol
  have fa := h0.regs.frozen na
  generalize hvb : getI s.regs nb = vb at *
  have HVB := Lib.hid hvb
  clear hvb
  generalize hvd : getI s.regs nc = vd at *
  have HVD := Lib.hid hvd
  clear hvd
  generalize getI s.regs na = va at *
  have HC := Lib.hid (Ar.do_any x.op vb vd W.drew)
  generalize Ar.doV x.op vb vd = vo at *
  have bX1 := (bX.far (p := ⟨R, na, none⟩) hgR (.int .i64 vo)).drew
  obtain ⟨y0, y1, y2, y3, y4⟩ := in5x bX1
  rw [HNa.out] at y1
  rw [HNb.out] at y2
  rw [HNc.out] at y3
  have h1 := (h0.setReg na vo).drew
  have cb1 := kind_cell h1.regs (n := nb) (show nb < (s.regs.set na vo).length by simpa using hlb)
  rw [show getI (s.regs.set na vo) nb = vb by rw [← HVB.out]; simp [getI, List.getD_eq_getElem?_getD, List.getElem?_set_ne hab]] at cb1
  have cc1 := kind_cell h1.regs (n := nc) (show nc < (s.regs.set na vo).length by simpa using hlc)
  rw [show getI (s.regs.set na vo) nc = vd by rw [← HVD.out]; simp [getI, List.getD_eq_getElem?_getD, List.getElem?_set_ne hac]] at cc1
  clear bX1 h1 bX
  go_wp2_with fail
  go_region_held3 (fun w' => w'.cell? ⟨gx, 0, none⟩ = some (.int .i64 x.op) ∧ w'.cell? ⟨gx, 1, none⟩ = some (.int .i64 (na : Int)) ∧ w'.cell? ⟨gx, 2, none⟩ = some (.int .i64 (nb : Int)) ∧ w'.cell? ⟨gx, 3, none⟩ = some (.int .i64 (nc : Int)) ∧ w'.cell? ⟨R, nb, none⟩ = some (.int .i64 vb) ∧ w'.cell? ⟨R, nc, none⟩ = some (.int .i64 vd))
    (first | exact ⟨x0, x1, x2, x3, cb, cc⟩ | exact ⟨y0, y1, y2, y3, cb1, cc1⟩)
    (first | (go_at_call 97; refine HC.out.mono ?_; rintro e w' ⟨rfl, rfl⟩))
  all_goals
    go_wp2_with fail
    go_ret
    exact ⟨ret_i64 HT.out.symm, by rw [HE.out]; exact (h0.setReg na (vo)).drew, (u0.setCell (.inl rfl) _).drew⟩
set_option maxRecDepth 100000 in
set_option maxHeartbeats 2000000 in
theorem does_if : DoesC (fun op => op = 27) := by
  intro w C T R O vc vn vi cells inn s p i x hop h hs hrl hol hnl hcl hil
  have hgT : w.heap.size ≠ T := by have := h.row.lt; omega
  have hgR : w.heap.size ≠ R := by have := h.regs.lt; omega
  have hgO : w.heap.size ≠ O := by have := h.out.lt; omega
  have bX := Row.new w #[.int .i64 x.op, .int .i64 x.a, .int .i64 x.b, .int .i64 x.c, .int .i64 x.k] 30
  have h0 := h.alloc (.cells #[.int .i64 x.op, .int .i64 x.a, .int .i64 x.b, .int .i64 x.c, .int .i64 x.k] 30)
  have u0 : Upd (tkX R O vn) w (w.alloc (.cells #[.int .i64 x.op, .int .i64 x.a, .int .i64 x.b, .int .i64 x.c, .int .i64 x.k] 30)) := (Upd.refl _ _).alloc _
  have hso := hs.op
  have o1 : (x.op == 1) = false := by rw [beq_eq_false_iff_ne]; omega
  have o2 : (x.op == 2) = false := by rw [beq_eq_false_iff_ne]; omega
  have o3 : (x.op == 3) = false := by rw [beq_eq_false_iff_ne]; omega
  have o5 : (x.op == 5) = false := by rw [beq_eq_false_iff_ne]; omega
  have o6 : (x.op == 6) = false := by rw [beq_eq_false_iff_ne]; omega
  have o27 : (x.op == 27) = true := by rw [beq_iff_eq]; omega
  have o21 : (x.op == 21) = false := by rw [beq_eq_false_iff_ne]; omega
  have o28 : (x.op == 28) = false := by rw [beq_eq_false_iff_ne]; omega
  have o29 : (x.op == 29) = false := by rw [beq_eq_false_iff_ne]; omega
  have o32 : (x.op == 32) = false := by rw [beq_eq_false_iff_ne]; omega
  have o30 : (x.op == 30) = false := by rw [beq_eq_false_iff_ne]; omega
  have o31 : (x.op == 31) = false := by rw [beq_eq_false_iff_ne]; omega
  obtain ⟨ra0, ra1⟩ := hs.a
  obtain ⟨na, hna⟩ := Int.eq_ofNat_of_zero_le ra0
  obtain ⟨rb0, rb1⟩ := hs.b (.inr (.inr hop))
  obtain ⟨nb, hnb⟩ := Int.eq_ofNat_of_zero_le rb0
  obtain ⟨rc0, rc1⟩ := hs.c (.inr hop)
  obtain ⟨nc, hnc⟩ := Int.eq_ofNat_of_zero_le rc0
  obtain ⟨rk0, rk1⟩ := hs.k27 hop
  obtain ⟨nk, hnk⟩ := Int.eq_ofNat_of_zero_le rk0
  have HT := Lib.hid (show tskip s x = 0 by unfold tskip; rw [if_neg (by omega)])
  have hab : na ≠ nb := by have := hs.ab (.inr (.inr hop)); omega
  have hac : na ≠ nc := by have := hs.ac (.inr hop); omega
  have HE := Lib.hid (show texec cells inn s x = { s with regs := s.regs.set na (if getI s.regs nb ≠ 0 then getI s.regs nc else getI s.regs nk) } by unfold texec vgive setI; rw [if_neg (by omega), if_neg (by omega), if_neg (by omega), if_neg (by omega), if_neg (by omega), if_neg (by omega), if_pos hop, hna, hnb, hnc, hnk]; rfl)
  have hla : na < s.regs.length := by omega
  have hla' : (na : Int) < s.regs.length := by omega
  have hza' : (0 : Int) ≤ (na : Int) := by omega
  have hlb : nb < s.regs.length := by omega
  have hlb' : (nb : Int) < s.regs.length := by omega
  have hzb' : (0 : Int) ≤ (nb : Int) := by omega
  have hlc : nc < s.regs.length := by omega
  have hlc' : (nc : Int) < s.regs.length := by omega
  have hzc' : (0 : Int) ≤ (nc : Int) := by omega
  have hlk : nk < s.regs.length := by omega
  have hlk' : (nk : Int) < s.regs.length := by omega
  have hzk' : (0 : Int) ≤ (nk : Int) := by omega
  have HNa := Lib.hid hna
  clear hna ra0 ra1
  have HNb := Lib.hid hnb
  clear hnb rb0 rb1
  have HNc := Lib.hid hnc
  clear hnc rc0 rc1
  have HNk := Lib.hid hnk
  clear hnk rk0 rk1
  clear h hop hso hrl hol hnl hcl hil hs
  go_enter Try.func59, Try.ntmps59
  go_upto_region 1 with (fail)
  generalize w.alloc (.cells #[.int .i64 x.op, .int .i64 x.a, .int .i64 x.b, .int .i64 x.c, .int .i64 x.k] 30) = W at *
  generalize w.heap.size = gx at *
  obtain ⟨x0, x1, x2, x3, x4⟩ := in5x bX
  rw [HNa.out] at x1
  rw [HNb.out] at x2
  rw [HNc.out] at x3
  rw [HNk.out] at x4
  have l0 := h0.row.cell 0
  have l1 := h0.row.cell 1
  have l2 := h0.row.cell 2
  have l3 := h0.row.cell 3
  have l4 := h0.row.cell 4
  simp only [List.getElem?_toArray, List.getElem?_cons_zero, List.getElem?_cons_succ] at l0 l1 l2 l3 l4
  have ca := kind_cell h0.regs hla
  have cb := kind_cell h0.regs hlb
  have cc := kind_cell h0.regs hlc
  have ck := kind_cell h0.regs hlk
  have rl := h0.rl
  have ol := h0.ol
  have fa := h0.regs.frozen na
  generalize hvb : getI s.regs nb = vb at *
  generalize hvd : getI s.regs nc = vd at *
  have HVB := Lib.hid hvb
  have HVD := Lib.hid hvd
  clear hvb hvd
  generalize getI s.regs nk = vk at *
  generalize getI s.regs na = va at *
  by_cases hb0 : vb = 0
  · have e0 : (vb != 0) = false := by simp [hb0]
    have HE' := Lib.hid (show texec cells inn s x = { s with regs := s.regs.set na vk } by rw [HE.out, if_neg (fun g => g hb0)])
    clear HE hb0
    go_wp2_with fail
    go_region
    all_goals
      go_wp2_with fail
      go_ret
      exact ⟨ret_i64 HT.out.symm, by rw [HE'.out]; exact (h0.setReg na vk).drew, (u0.setCell (.inl rfl) _).drew⟩
  · have e0 : (vb != 0) = true := by simp [hb0]
    have HE' := Lib.hid (show texec cells inn s x = { s with regs := s.regs.set na vd } by rw [HE.out, if_pos hb0])
    clear HE hb0
    go_wp2_with fail
    go_region
    all_goals
      have h1 := (h0.setReg na vk).drew
      have u1 := (u0.setCell (p := ⟨R, na, none⟩) (.inl rfl) (.int .i64 vk)).drew
      have bX1 := (bX.far (p := ⟨R, na, none⟩) hgR (.int .i64 vk)).drew
      have cb1 := kind_cell h1.regs (n := nb) (show nb < (s.regs.set na vk).length by simpa using hlb)
      have cc1 := kind_cell h1.regs (n := nc) (show nc < (s.regs.set na vk).length by simpa using hlc)
      have ca1 := kind_cell h1.regs (n := na) (show na < (s.regs.set na vk).length by simpa using hla)
      have fa1 := h1.regs.frozen na
      rw [show getI (s.regs.set na vk) nb = vb by rw [← HVB.out]; simp [getI, List.getD_eq_getElem?_getD, List.getElem?_set_ne hab]] at cb1
      rw [show getI (s.regs.set na vk) nc = vd by rw [← HVD.out]; simp [getI, List.getD_eq_getElem?_getD, List.getElem?_set_ne hac]] at cc1
      have HE2 := Lib.hid (show (s.regs.set na vk).set na vd = s.regs.set na vd by simp)
      generalize getI (s.regs.set na vk) na = va1 at *
      generalize (W.setCell ⟨R, na, none⟩ (.int .i64 vk)).drew = W1 at *
      clear l0 l1 l2 l3 l4 x0 x1 x2 x3 x4 ca cb cc ck fa bX
      obtain ⟨x0, x1, x2, x3, x4⟩ := in5x bX1
      rw [HNa.out] at x1
      rw [HNb.out] at x2
      rw [HNc.out] at x3
      clear bX1
      go_wp2_with fail
      go_region
      all_goals
        go_wp2_with fail
        go_ret
        exact ⟨ret_i64 HT.out.symm, by rw [HE'.out, ← HE2.out]; exact (h1.setReg na vd).drew, (u1.setCell (.inl rfl) _).drew⟩
set_option maxRecDepth 100000 in
set_option maxHeartbeats 2000000 in
theorem does_pre : DoesC (fun op => op = 21) := by
  intro w C T R O vc vn vi cells inn s p i x hop h hs hrl hol hnl hcl hil
  have hgT : w.heap.size ≠ T := by have := h.row.lt; omega
  have hgR : w.heap.size ≠ R := by have := h.regs.lt; omega
  have hgO : w.heap.size ≠ O := by have := h.out.lt; omega
  have bX := Row.new w #[.int .i64 x.op, .int .i64 x.a, .int .i64 x.b, .int .i64 x.c, .int .i64 x.k] 30
  have h0 := h.alloc (.cells #[.int .i64 x.op, .int .i64 x.a, .int .i64 x.b, .int .i64 x.c, .int .i64 x.k] 30)
  have u0 : Upd (tkX R O vn) w (w.alloc (.cells #[.int .i64 x.op, .int .i64 x.a, .int .i64 x.b, .int .i64 x.c, .int .i64 x.k] 30)) := (Upd.refl _ _).alloc _
  have hso := hs.op
  have o1 : (x.op == 1) = false := by rw [beq_eq_false_iff_ne]; omega
  have o2 : (x.op == 2) = false := by rw [beq_eq_false_iff_ne]; omega
  have o3 : (x.op == 3) = false := by rw [beq_eq_false_iff_ne]; omega
  have o5 : (x.op == 5) = false := by rw [beq_eq_false_iff_ne]; omega
  have o6 : (x.op == 6) = false := by rw [beq_eq_false_iff_ne]; omega
  have o27 : (x.op == 27) = false := by rw [beq_eq_false_iff_ne]; omega
  have o21 : (x.op == 21) = true := by rw [beq_iff_eq]; omega
  have o28 : (x.op == 28) = false := by rw [beq_eq_false_iff_ne]; omega
  have o29 : (x.op == 29) = false := by rw [beq_eq_false_iff_ne]; omega
  have o32 : (x.op == 32) = false := by rw [beq_eq_false_iff_ne]; omega
  have o30 : (x.op == 30) = false := by rw [beq_eq_false_iff_ne]; omega
  have o31 : (x.op == 31) = false := by rw [beq_eq_false_iff_ne]; omega
  obtain ⟨ra0, ra1⟩ := hs.a
  obtain ⟨na, hna⟩ := Int.eq_ofNat_of_zero_le ra0
  obtain ⟨rk0, rk1⟩ := hs.k21 (.inl hop)
  obtain ⟨nk, hnk⟩ := Int.eq_ofNat_of_zero_le rk0
  have HT := Lib.hid (show tskip s x = 0 by unfold tskip; rw [if_neg (by omega)])
  have HE := Lib.hid (show texec cells inn s x = { s with regs := s.regs.set na (getI cells nk) } by unfold texec vgive setI; rw [if_neg (by omega), if_neg (by omega), if_neg (by omega), if_neg (by omega), if_neg (by omega), if_neg (by omega), if_neg (by omega), if_pos hop, hna, hnk]; rfl)
  have hlk : nk < cells.length := by omega
  have hlk' : (nk : Int) < cells.length := by omega
  have hzk' : (0 : Int) ≤ (nk : Int) := by omega
  obtain ⟨bb, off, cap, rfl, hcap1, hcap2, hbb, ck⟩ := sl_int h0.cells hlk
  have hbR : bb ≠ R := by have := h0.bR; omega
  have hla : na < s.regs.length := by omega
  have hla' : (na : Int) < s.regs.length := by omega
  have hza' : (0 : Int) ≤ (na : Int) := by omega
  have HNa := Lib.hid hna
  clear hna ra0 ra1
  have HNk := Lib.hid hnk
  clear hnk rk0 rk1
  clear h hop hso hrl hol hnl hcl hil hs
  go_enter Try.func59, Try.ntmps59
  go_upto_region 1 with (fail)
  generalize w.alloc (.cells #[.int .i64 x.op, .int .i64 x.a, .int .i64 x.b, .int .i64 x.c, .int .i64 x.k] 30) = W at *
  generalize w.heap.size = gx at *
  obtain ⟨x0, x1, x2, x3, x4⟩ := in5x bX
  rw [HNa.out] at x1
  rw [HNk.out] at x4
  have l0 := h0.row.cell 0
  have l1 := h0.row.cell 1
  have l2 := h0.row.cell 2
  have l3 := h0.row.cell 3
  have l4 := h0.row.cell 4
  simp only [List.getElem?_toArray, List.getElem?_cons_zero, List.getElem?_cons_succ] at l0 l1 l2 l3 l4
  have ca := kind_cell h0.regs hla
  have rl := h0.rl
  have ol := h0.ol
  have fa := h0.regs.frozen na
  clear bX
  generalize getI cells nk = vb at *
  generalize getI s.regs na = va at *
  go_wp2_with fail
  go_region
  all_goals
    go_wp2_with fail
    go_ret
    exact ⟨ret_i64 HT.out.symm, by rw [HE.out]; exact (h0.setReg na (vb)).drew, (u0.setCell (.inl rfl) _).drew⟩
set_option maxRecDepth 100000 in
set_option maxHeartbeats 2000000 in
theorem does_in : DoesC (fun op => op = 28) := by
  intro w C T R O vc vn vi cells inn s p i x hop h hs hrl hol hnl hcl hil
  have hgT : w.heap.size ≠ T := by have := h.row.lt; omega
  have hgR : w.heap.size ≠ R := by have := h.regs.lt; omega
  have hgO : w.heap.size ≠ O := by have := h.out.lt; omega
  have bX := Row.new w #[.int .i64 x.op, .int .i64 x.a, .int .i64 x.b, .int .i64 x.c, .int .i64 x.k] 30
  have h0 := h.alloc (.cells #[.int .i64 x.op, .int .i64 x.a, .int .i64 x.b, .int .i64 x.c, .int .i64 x.k] 30)
  have u0 : Upd (tkX R O vn) w (w.alloc (.cells #[.int .i64 x.op, .int .i64 x.a, .int .i64 x.b, .int .i64 x.c, .int .i64 x.k] 30)) := (Upd.refl _ _).alloc _
  have hso := hs.op
  have o1 : (x.op == 1) = false := by rw [beq_eq_false_iff_ne]; omega
  have o2 : (x.op == 2) = false := by rw [beq_eq_false_iff_ne]; omega
  have o3 : (x.op == 3) = false := by rw [beq_eq_false_iff_ne]; omega
  have o5 : (x.op == 5) = false := by rw [beq_eq_false_iff_ne]; omega
  have o6 : (x.op == 6) = false := by rw [beq_eq_false_iff_ne]; omega
  have o27 : (x.op == 27) = false := by rw [beq_eq_false_iff_ne]; omega
  have o21 : (x.op == 21) = false := by rw [beq_eq_false_iff_ne]; omega
  have o28 : (x.op == 28) = true := by rw [beq_iff_eq]; omega
  have o29 : (x.op == 29) = false := by rw [beq_eq_false_iff_ne]; omega
  have o32 : (x.op == 32) = false := by rw [beq_eq_false_iff_ne]; omega
  have o30 : (x.op == 30) = false := by rw [beq_eq_false_iff_ne]; omega
  have o31 : (x.op == 31) = false := by rw [beq_eq_false_iff_ne]; omega
  obtain ⟨ra0, ra1⟩ := hs.a
  obtain ⟨na, hna⟩ := Int.eq_ofNat_of_zero_le ra0
  obtain ⟨rk0, rk1⟩ := hs.k28 hop
  obtain ⟨nk, hnk⟩ := Int.eq_ofNat_of_zero_le rk0
  have HT := Lib.hid (show tskip s x = 0 by unfold tskip; rw [if_neg (by omega)])
  have HE := Lib.hid (show texec cells inn s x = { s with regs := s.regs.set na (getI inn nk) } by unfold texec vgive setI; rw [if_neg (by omega), if_neg (by omega), if_neg (by omega), if_neg (by omega), if_neg (by omega), if_neg (by omega), if_neg (by omega), if_neg (by omega), if_pos hop, hna, hnk]; rfl)
  have hlk : nk < inn.length := by omega
  have hlk' : (nk : Int) < inn.length := by omega
  have hzk' : (0 : Int) ≤ (nk : Int) := by omega
  obtain ⟨bb, off, cap, rfl, hcap1, hcap2, hbb, ck⟩ := sl_int h0.inn hlk
  have hbR : bb ≠ R := by have := h0.bR; omega
  have hla : na < s.regs.length := by omega
  have hla' : (na : Int) < s.regs.length := by omega
  have hza' : (0 : Int) ≤ (na : Int) := by omega
  have HNa := Lib.hid hna
  clear hna ra0 ra1
  have HNk := Lib.hid hnk
  clear hnk rk0 rk1
  clear h hop hso hrl hol hnl hcl hil hs
  go_enter Try.func59, Try.ntmps59
  go_upto_region 1 with (fail)
  generalize w.alloc (.cells #[.int .i64 x.op, .int .i64 x.a, .int .i64 x.b, .int .i64 x.c, .int .i64 x.k] 30) = W at *
  generalize w.heap.size = gx at *
  obtain ⟨x0, x1, x2, x3, x4⟩ := in5x bX
  rw [HNa.out] at x1
  rw [HNk.out] at x4
  have l0 := h0.row.cell 0
  have l1 := h0.row.cell 1
  have l2 := h0.row.cell 2
  have l3 := h0.row.cell 3
  have l4 := h0.row.cell 4
  simp only [List.getElem?_toArray, List.getElem?_cons_zero, List.getElem?_cons_succ] at l0 l1 l2 l3 l4
  have ca := kind_cell h0.regs hla
  have rl := h0.rl
  have ol := h0.ol
  have fa := h0.regs.frozen na
  clear bX
  generalize getI inn nk = vb at *
  generalize getI s.regs na = va at *
  go_wp2_with fail
  go_region
  all_goals
    go_wp2_with fail
    go_ret
    exact ⟨ret_i64 HT.out.symm, by rw [HE.out]; exact (h0.setReg na (vb)).drew, (u0.setCell (.inl rfl) _).drew⟩
end Go.Proofs.Ytbjaejgechadpaa
