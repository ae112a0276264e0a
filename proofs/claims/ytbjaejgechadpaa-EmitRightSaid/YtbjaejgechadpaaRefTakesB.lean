/-
  The contract of tompionref28.Takes.
-/
import Derived.Test.YtbjaejgechadpaaRefTakesA
import Derived.Deep.RegionHeld3
import Derived.Deep.DrawnRows
namespace Go.Proofs.Ytbjaejgechadpaa
open Go.RowKit Vf
attribute [local go_sem ↓] Go.wp_at_zero Go.wp_at_succ

section
variable {p : Pg} {vi vo vc vd : Value}
set_option maxRecDepth 100000 in
set_option maxHeartbeats 8000000 in
theorem takes_30 {i : Nat} (hi : i ≤ p.code.length) : TakesC p vi vo vc vd i (fun x => x.op = 30 ∨ x.op = 31) := by
  intro x w hx h hc
  have HT := Lib.hid (taken_all (vi := vi) (vo := vo) (vc := vc) (vd := vd) hi)
  have b0 : Below w.heap.size w (w.alloc (.cells #[vi, vo, .int .i64 p.regs, vc, vd] 26)) := (Below.refl _ _).alloc (Nat.le_refl _) _
  have bP := (Row.new w #[vi, vo, .int .i64 p.regs, vc, vd] 26).alloc (.cells #[.int .i64 x.op, .int .i64 x.a, .int .i64 x.b, .int .i64 x.c, .int .i64 x.k] 30)
  have bX := rowNew2 w (.cells #[vi, vo, .int .i64 p.regs, vc, vd] 26) #[.int .i64 x.op, .int .i64 x.a, .int .i64 x.b, .int .i64 x.c, .int .i64 x.k] 30
  have b1 : Below w.heap.size w ((w.alloc (.cells #[vi, vo, .int .i64 p.regs, vc, vd] 26)).alloc (.cells #[.int .i64 x.op, .int .i64 x.a, .int .i64 x.b, .int .i64 x.c, .int .i64 x.k] 30)) := b0.alloc (by simp) _
  have h1 := h.next b1
  have hi : i < p.code.length := (List.getElem?_eq_some_iff.1 hx).1
  obtain ⟨⟨Ai, ci, rfl, li, mi, si⟩, ⟨Ao, co, rfl, lo, mo, so⟩, hreg, ⟨Ac, cc, rfl, lc, mc, sc⟩, ⟨Ad, cd, rfl, ld, md, sd⟩⟩ := h
  have mc' : cc ≤ 9223372036854775807 := by unfold maxLen at mc; omega
  have md' : cd ≤ 9223372036854775807 := by unfold maxLen at md; omega
  obtain ⟨b, off, x', rfl, hb, hxk, hok, c0, c1, c2, c3, c4⟩ := (sd.below b0).in5 hi
  obtain rfl : x' = x := by rw [hx] at hxk; injection hxk with h; exact h.symm
  clear hxk hx
  have hil : (i : Int) < p.code.length := by omega
  have ns : ¬ (5 ≤ x'.op ∧ x'.op ≤ 20) := by omega
  go_enter Try.func50, Try.ntmps50
  go_wp2_with fail
  refine (rsign_no x'.op _ (by omega)).mono ?_
  rintro e w2 ⟨rfl, hb2⟩
  have b2 := b1.trans (hb2.mono b1.size)
  have h2 := h1.next hb2
  have bP2 := bP.below hb2 bP.lt
  have bX2 := bX.below hb2 bX.lt
  have so2 := so.below b2
  have sc2 := sc.below b2
  have hz2 : w.heap.size ≤ w2.heap.size := b2.size
  clear hb2 bP bX h1 b1 b0 c0 c1 c2 c3 c4 si so sc sd
  have q0 := bP2.cell 0
  have q1 := bP2.cell 1
  have q2 := bP2.cell 2
  have q3 := bP2.cell 3
  have q4 := bP2.cell 4
  have x0 := bX2.cell 0
  have x1 := bX2.cell 1
  have x2 := bX2.cell 2
  have x3 := bX2.cell 3
  have x4 := bX2.cell 4
  simp only [List.getElem?_toArray, List.getElem?_cons_zero, List.getElem?_cons_succ] at q0 q1 q2 q3 q4 x0 x1 x2 x3 x4
  have HR := Lib.hid (show takesOk p (pairs p i) i x' ↔ 0 ≤ x'.k ∧ x'.k ≤ (p.code.length : Int) - 1 - i ∧ taken p (pairs p i) x'.a = 2 by unfold takesOk; rw [if_neg ns, if_neg (by omega), if_neg (by omega), if_neg (by omega), if_neg (by omega), if_neg (by omega), if_pos hc])
  have o2 : (x'.op == 2) = false := by simp; omega
  have o3 : (x'.op == 3) = false := by simp; omega
  have o27 : (x'.op == 27) = false := by simp; omega
  have o29 : (x'.op == 29) = false := by simp; omega
  have o32 : (x'.op == 32) = false := by simp; omega
  clear ns
  by_cases hk : 0 ≤ x'.k ∧ x'.k ≤ (p.code.length : Int) - 1 - i
  · have HR7 := Lib.hid (show takesOk p (pairs p i) i x' ↔ taken p (pairs p i) x'.a = 2 by rw [HR.out]; exact ⟨fun g => g.2.2, fun g => ⟨hk.1, hk.2, g⟩⟩)
    obtain ⟨hk0, hk1⟩ := hk
    clear HR
    rcases hc with hc | hc
    · have o30 : (x'.op == 30) = true := by simp [hc]
      clear hc
      go_wp2_with fail
      refine (HT.out x'.a _ h2).mono ?_
      rintro e w3 ⟨rfl, hb3⟩
      have HB := Lib.hid (b2.trans (hb3.mono b2.size))
      clear hb3
      generalize taken p (pairs p i) x'.a = T2 at *
      go_wp2_with fail
      go_ret
      exact ⟨ret_bool (by rw [Bool.eq_iff_iff, cB_iff, HR7.out]; simp; try omega), HB.out⟩
    · have o30 : (x'.op == 30) = false := by simp [hc]
      have o31 : (x'.op == 31) = true := by simp [hc]
      clear hc
      go_wp2_with fail
      refine (HT.out x'.a _ h2).mono ?_
      rintro e w3 ⟨rfl, hb3⟩
      have HB := Lib.hid (b2.trans (hb3.mono b2.size))
      clear hb3
      generalize taken p (pairs p i) x'.a = T2 at *
      go_wp2_with fail
      go_ret
      exact ⟨ret_bool (by rw [Bool.eq_iff_iff, cB_iff, HR7.out]; simp; try omega), HB.out⟩
  · have HF := Lib.hid (cB_false (fun g => hk ⟨(HR.out.1 g).1, (HR.out.1 g).2.1⟩))
    have hk2 : x'.k < 0 ∨ (0 ≤ x'.k ∧ (p.code.length : Int) - 1 - i < x'.k) := by omega
    clear hk HR
    rcases hk2 with hk2 | ⟨hk2, hk3⟩ <;> rcases hc with hc | hc
    all_goals
      (first
        | (have o30 : (x'.op == 30) = true := by simp [hc])
        | ((have o30 : (x'.op == 30) = false := by simp [hc]); (have o31 : (x'.op == 31) = true := by simp [hc])))
      clear hc
      go_wp2_with fail
      go_ret
      exact ⟨ret_bool HF.out.symm, b2⟩
set_option maxRecDepth 100000 in
set_option maxHeartbeats 8000000 in
theorem takes_29 {i : Nat} (hi : i ≤ p.code.length) : TakesC p vi vo vc vd i (fun x => x.op = 29) := by
  intro x w hx h hc
  have HT := Lib.hid (taken_all (vi := vi) (vo := vo) (vc := vc) (vd := vd) hi)
  have b0 : Below w.heap.size w (w.alloc (.cells #[vi, vo, .int .i64 p.regs, vc, vd] 26)) := (Below.refl _ _).alloc (Nat.le_refl _) _
  have bP := (Row.new w #[vi, vo, .int .i64 p.regs, vc, vd] 26).alloc (.cells #[.int .i64 x.op, .int .i64 x.a, .int .i64 x.b, .int .i64 x.c, .int .i64 x.k] 30)
  have bX := rowNew2 w (.cells #[vi, vo, .int .i64 p.regs, vc, vd] 26) #[.int .i64 x.op, .int .i64 x.a, .int .i64 x.b, .int .i64 x.c, .int .i64 x.k] 30
  have b1 : Below w.heap.size w ((w.alloc (.cells #[vi, vo, .int .i64 p.regs, vc, vd] 26)).alloc (.cells #[.int .i64 x.op, .int .i64 x.a, .int .i64 x.b, .int .i64 x.c, .int .i64 x.k] 30)) := b0.alloc (by simp) _
  have h1 := h.next b1
  have hi : i < p.code.length := (List.getElem?_eq_some_iff.1 hx).1
  obtain ⟨⟨Ai, ci, rfl, li, mi, si⟩, ⟨Ao, co, rfl, lo, mo, so⟩, hreg, ⟨Ac, cc, rfl, lc, mc, sc⟩, ⟨Ad, cd, rfl, ld, md, sd⟩⟩ := h
  have mc' : cc ≤ 9223372036854775807 := by unfold maxLen at mc; omega
  have md' : cd ≤ 9223372036854775807 := by unfold maxLen at md; omega
  obtain ⟨b, off, x', rfl, hb, hxk, hok, c0, c1, c2, c3, c4⟩ := (sd.below b0).in5 hi
  obtain rfl : x' = x := by rw [hx] at hxk; injection hxk with h; exact h.symm
  clear hxk hx
  have hil : (i : Int) < p.code.length := by omega
  have ns : ¬ (5 ≤ x'.op ∧ x'.op ≤ 20) := by omega
  have HC := Lib.hid hc
  have hns : x'.op < 5 ∨ 20 < x'.op := by omega
  clear hc ns
  go_enter Try.func50, Try.ntmps50
  go_wp2_with fail
  refine (rsign_no x'.op _ hns).mono ?_
  rintro e w2 ⟨rfl, hb2⟩
  have b2 := b1.trans (hb2.mono b1.size)
  have h2 := h1.next hb2
  have bP2 := bP.below hb2 bP.lt
  have bX2 := bX.below hb2 bX.lt
  have so2 := so.below b2
  have sc2 := sc.below b2
  have hz2 : w.heap.size ≤ w2.heap.size := b2.size
  clear hb2 bP bX h1 b1 b0 c0 c1 c2 c3 c4 si so sc sd
  have q0 := bP2.cell 0
  have q1 := bP2.cell 1
  have q2 := bP2.cell 2
  have q3 := bP2.cell 3
  have q4 := bP2.cell 4
  have x0 := bX2.cell 0
  have x1 := bX2.cell 1
  have x2 := bX2.cell 2
  have x3 := bX2.cell 3
  have x4 := bX2.cell 4
  simp only [List.getElem?_toArray, List.getElem?_cons_zero, List.getElem?_cons_succ] at q0 q1 q2 q3 q4 x0 x1 x2 x3 x4
  have hc := HC.out
  have ns : ¬ (5 ≤ x'.op ∧ x'.op ≤ 20) := by omega
  have HR := Lib.hid (show takesOk p (pairs p i) i x' ↔ has p.outs x'.k ∧ taken p (pairs p i) x'.a = getI p.outs x'.k by unfold takesOk; rw [if_neg ns, if_neg (by omega), if_neg (by omega), if_neg (by omega), if_pos hc])
  have o2 : (x'.op == 2) = false := by simp; omega
  have o3 : (x'.op == 3) = false := by simp; omega
  have o27 : (x'.op == 27) = false := by simp; omega
  have o29 : (x'.op == 29) = true := by simp; omega
  have o32 : (x'.op == 32) = false := by simp; omega
  clear ns hc
  have hty : p.outs.length = p.outs.length := rfl
  by_cases hh : has p.outs x'.k
  · obtain ⟨n, hn⟩ := Int.eq_ofNat_of_zero_le hh.1
    have hnl : n < p.outs.length := by have := hh.2; rw [hn] at this; omega
    obtain ⟨b', off', c, rfl, hb', hck, wc1, d0⟩ := so2.int hnl
    have HR7 := Lib.hid (show takesOk p (pairs p i) i x' ↔ taken p (pairs p i) x'.a = c by
      rw [HR.out]
      have : getI p.outs x'.k = c := by rw [hn]; simp [getI, List.getD_eq_getElem?_getD, hck]
      rw [this]
      exact ⟨fun g => g.2, fun g => ⟨hh, g⟩⟩)
    rw [hn] at x4 bX2
    clear hck hh HR hn hty
    have hnl' : (n : Int) < p.outs.length := by omega
    have hn0 : (0 : Int) ≤ (n : Int) := by omega
    go_wp2_with fail
    go_region_held3 (fun w' => w'.cell? ⟨w.heap.size + 1, 1, none⟩ = some (.int .i64 x'.a) ∧ w'.cell? ⟨w.heap.size + 1, 4, none⟩ = some (.int .i64 (n : Int)) ∧ w'.cell? ⟨w.heap.size, 0, none⟩ = some (.slice Ai p.ins.length ci) ∧ w'.cell? ⟨w.heap.size, 1, none⟩ = some (.slice (some ⟨b', off', none⟩) p.outs.length co) ∧ w'.cell? ⟨w.heap.size, 2, none⟩ = some (.int .i64 p.regs) ∧ w'.cell? ⟨w.heap.size, 3, none⟩ = some (.slice Ac p.cells.length cc) ∧ w'.cell? ⟨w.heap.size, 4, none⟩ = some (.slice (some ⟨b, off, none⟩) p.code.length cd) ∧ w'.cell? ⟨b', off' + n, none⟩ = some (.int .i64 c))
      (first | exact ⟨bX3.cell 1, bX3.cell 4, bP3.cell 0, bP3.cell 1, bP3.cell 2, bP3.cell 3, bP3.cell 4, hd3⟩ | go_keep)
      (first | (go_at_call 94; refine (HT.out x'.a _ (h2.next (Below.refl _ _).drew)).mono ?_; rintro e w3 ⟨rfl, hb3⟩; have b3 := b2.drew.trans (hb3.mono b2.size); have bP3 := bP2.drew.below hb3 bP2.lt; have bX3 := bX2.drew.below hb3 bX2.lt; have hd3 : w3.cell? ⟨b', off' + n, none⟩ = some (.int .i64 c) := (hb3.cell (p := ⟨b', off' + n, none⟩) (Nat.lt_of_lt_of_le hb' hz2)).trans d0))
    all_goals
      generalize taken p (pairs p i) x'.a = T2 at *
      go_wp2_with fail
      go_ret
      exact ⟨ret_bool (by rw [Bool.eq_iff_iff, cB_iff, HR7.out]; simp), b3⟩
  · have HF := Lib.hid (cB_false (fun g => hh (HR.out.1 g).1))
    have hk2 : x'.k < 0 ∨ (0 ≤ x'.k ∧ (p.outs.length : Int) ≤ x'.k) := by unfold has at hh; omega
    clear hh HR
    rcases hk2 with hk2 | ⟨hk2, hk3⟩
    · have hd : decide (0 ≤ x'.k) = false := by simp; omega
      go_wp2_with fail
      go_quiet (fail)
      go_wp2_with fail
      go_ret
      exact ⟨ret_bool HF.out.symm, below_drewN' b2 _⟩
    · have hd : decide (0 ≤ x'.k) = true := by simp; omega
      have hd2 : decide (x'.k < (p.outs.length : Int)) = false := by simp; omega
      go_wp2_with fail
      go_quiet (fail)
      go_wp2_with fail
      go_ret
      exact ⟨ret_bool HF.out.symm, below_drewN' b2 _⟩
set_option maxRecDepth 100000 in
set_option maxHeartbeats 8000000 in
theorem takes_32 {i : Nat} (hi : i ≤ p.code.length) : TakesC p vi vo vc vd i (fun x => x.op = 32) := by
  intro x w hx h hc
  have HT := Lib.hid (taken_all (vi := vi) (vo := vo) (vc := vc) (vd := vd) hi)
  have b0 : Below w.heap.size w (w.alloc (.cells #[vi, vo, .int .i64 p.regs, vc, vd] 26)) := (Below.refl _ _).alloc (Nat.le_refl _) _
  have bP := (Row.new w #[vi, vo, .int .i64 p.regs, vc, vd] 26).alloc (.cells #[.int .i64 x.op, .int .i64 x.a, .int .i64 x.b, .int .i64 x.c, .int .i64 x.k] 30)
  have bX := rowNew2 w (.cells #[vi, vo, .int .i64 p.regs, vc, vd] 26) #[.int .i64 x.op, .int .i64 x.a, .int .i64 x.b, .int .i64 x.c, .int .i64 x.k] 30
  have b1 : Below w.heap.size w ((w.alloc (.cells #[vi, vo, .int .i64 p.regs, vc, vd] 26)).alloc (.cells #[.int .i64 x.op, .int .i64 x.a, .int .i64 x.b, .int .i64 x.c, .int .i64 x.k] 30)) := b0.alloc (by simp) _
  have h1 := h.next b1
  have hi : i < p.code.length := (List.getElem?_eq_some_iff.1 hx).1
  obtain ⟨⟨Ai, ci, rfl, li, mi, si⟩, ⟨Ao, co, rfl, lo, mo, so⟩, hreg, ⟨Ac, cc, rfl, lc, mc, sc⟩, ⟨Ad, cd, rfl, ld, md, sd⟩⟩ := h
  have mc' : cc ≤ 9223372036854775807 := by unfold maxLen at mc; omega
  have md' : cd ≤ 9223372036854775807 := by unfold maxLen at md; omega
  obtain ⟨b, off, x', rfl, hb, hxk, hok, c0, c1, c2, c3, c4⟩ := (sd.below b0).in5 hi
  obtain rfl : x' = x := by rw [hx] at hxk; injection hxk with h; exact h.symm
  clear hxk hx
  have hil : (i : Int) < p.code.length := by omega
  have ns : ¬ (5 ≤ x'.op ∧ x'.op ≤ 20) := by omega
  have HC := Lib.hid hc
  have hns : x'.op < 5 ∨ 20 < x'.op := by omega
  clear hc ns
  go_enter Try.func50, Try.ntmps50
  go_wp2_with fail
  refine (rsign_no x'.op _ hns).mono ?_
  rintro e w2 ⟨rfl, hb2⟩
  have b2 := b1.trans (hb2.mono b1.size)
  have h2 := h1.next hb2
  have bP2 := bP.below hb2 bP.lt
  have bX2 := bX.below hb2 bX.lt
  have so2 := so.below b2
  have sc2 := sc.below b2
  have hz2 : w.heap.size ≤ w2.heap.size := b2.size
  clear hb2 bP bX h1 b1 b0 c0 c1 c2 c3 c4 si so sc sd
  have q0 := bP2.cell 0
  have q1 := bP2.cell 1
  have q2 := bP2.cell 2
  have q3 := bP2.cell 3
  have q4 := bP2.cell 4
  have x0 := bX2.cell 0
  have x1 := bX2.cell 1
  have x2 := bX2.cell 2
  have x3 := bX2.cell 3
  have x4 := bX2.cell 4
  simp only [List.getElem?_toArray, List.getElem?_cons_zero, List.getElem?_cons_succ] at q0 q1 q2 q3 q4 x0 x1 x2 x3 x4
  have hc := HC.out
  have ns : ¬ (5 ≤ x'.op ∧ x'.op ≤ 20) := by omega
  have HR := Lib.hid (show takesOk p (pairs p i) i x' ↔ has (types p.cells) x'.k ∧ taken p (pairs p i) x'.a = getI (types p.cells) x'.k by unfold takesOk; rw [if_neg ns, if_neg (by omega), if_neg (by omega), if_neg (by omega), if_neg (by omega), if_pos hc])
  have o2 : (x'.op == 2) = false := by simp; omega
  have o3 : (x'.op == 3) = false := by simp; omega
  have o27 : (x'.op == 27) = false := by simp; omega
  have o29 : (x'.op == 29) = false := by simp; omega
  have o32 : (x'.op == 32) = true := by simp; omega
  clear ns hc
  have hty : (types p.cells).length = p.cells.length := by simp [types]
  by_cases hh : has (types p.cells) x'.k
  · obtain ⟨n, hn⟩ := Int.eq_ofNat_of_zero_le hh.1
    have hnl : n < p.cells.length := by have := hh.2; rw [hn, hty] at this; omega
    obtain ⟨b', off', c, rfl, hb', hck, wc1, wc2, d0, d1⟩ := sc2.cell hnl
    have HR7 := Lib.hid (show takesOk p (pairs p i) i x' ↔ taken p (pairs p i) x'.a = c.1 by
      rw [HR.out]
      have : getI (types p.cells) x'.k = c.1 := by rw [hn]; simp [getI, types, List.getD_eq_getElem?_getD, hck]
      rw [this]
      exact ⟨fun g => g.2, fun g => ⟨hh, g⟩⟩)
    rw [hn] at x4 bX2
    clear hck hh HR hn hty
    have hnl' : (n : Int) < p.cells.length := by omega
    have hn0 : (0 : Int) ≤ (n : Int) := by omega
    go_wp2_with fail
    go_region_held3 (fun w' => w'.cell? ⟨w.heap.size + 1, 1, none⟩ = some (.int .i64 x'.a) ∧ w'.cell? ⟨w.heap.size + 1, 4, none⟩ = some (.int .i64 (n : Int)) ∧ w'.cell? ⟨w.heap.size, 0, none⟩ = some (.slice Ai p.ins.length ci) ∧ w'.cell? ⟨w.heap.size, 1, none⟩ = some (.slice Ao p.outs.length co) ∧ w'.cell? ⟨w.heap.size, 2, none⟩ = some (.int .i64 p.regs) ∧ w'.cell? ⟨w.heap.size, 3, none⟩ = some (.slice (some ⟨b', off', none⟩) p.cells.length cc) ∧ w'.cell? ⟨w.heap.size, 4, none⟩ = some (.slice (some ⟨b, off, none⟩) p.code.length cd) ∧ w'.cell? ⟨b', off' + n * 2, none⟩ = some (.int .i64 c.1))
      (first | exact ⟨bX3.cell 1, bX3.cell 4, bP3.cell 0, bP3.cell 1, bP3.cell 2, bP3.cell 3, bP3.cell 4, hd3⟩ | go_keep)
      (first | (go_at_call 94; refine (HT.out x'.a _ (h2.next (Below.refl _ _).drew)).mono ?_; rintro e w3 ⟨rfl, hb3⟩; have b3 := b2.drew.trans (hb3.mono b2.size); have bP3 := bP2.drew.below hb3 bP2.lt; have bX3 := bX2.drew.below hb3 bX2.lt; have hd3 : w3.cell? ⟨b', off' + n * 2, none⟩ = some (.int .i64 c.1) := (hb3.cell (p := ⟨b', off' + n * 2, none⟩) (Nat.lt_of_lt_of_le hb' hz2)).trans d0))
    all_goals
      generalize taken p (pairs p i) x'.a = T2 at *
      go_wp2_with fail
      go_ret
      exact ⟨ret_bool (by rw [Bool.eq_iff_iff, cB_iff, HR7.out]; simp), b3⟩
  · have HF := Lib.hid (cB_false (fun g => hh (HR.out.1 g).1))
    have hk2 : x'.k < 0 ∨ (0 ≤ x'.k ∧ (p.cells.length : Int) ≤ x'.k) := by unfold has at hh; rw [hty] at hh; omega
    clear hh HR
    rcases hk2 with hk2 | ⟨hk2, hk3⟩
    · have hd : decide (0 ≤ x'.k) = false := by simp; omega
      go_wp2_with fail
      go_quiet (fail)
      go_wp2_with fail
      go_ret
      exact ⟨ret_bool HF.out.symm, below_drewN' b2 _⟩
    · have hd : decide (0 ≤ x'.k) = true := by simp; omega
      have hd2 : decide (x'.k < (p.cells.length : Int)) = false := by simp; omega
      go_wp2_with fail
      go_quiet (fail)
      go_wp2_with fail
      go_ret
      exact ⟨ret_bool HF.out.symm, below_drewN' b2 _⟩
end
end Go.Proofs.Ytbjaejgechadpaa
