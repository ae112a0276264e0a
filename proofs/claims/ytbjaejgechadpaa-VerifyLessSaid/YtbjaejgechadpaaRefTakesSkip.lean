/-
  The contract of tompionref28.Takes.
-/
import Derived.Test.YtbjaejgechadpaaRefTakesC
import Derived.Deep.RegionHeld3
import Derived.Deep.DrawnRows
namespace Go.Proofs.Ytbjaejgechadpaa
open Go.RowKit Vf
attribute [local go_sem ↓] Go.wp_at_zero Go.wp_at_succ

section
variable {p : Pg} {vi vo vc vd : Value}
set_option maxRecDepth 100000 in
set_option maxHeartbeats 8000000 in
theorem takes_30 {i : Nat} (hi : i ≤ p.code.length) : TakesC p vi vo vc vd i (fun x => x.op = 30 ∨ x.op = 31) := by
  intro x w hx h hc
  have HT := Lib.hid (taken_all (vi := vi) (vo := vo) (vc := vc) (vd := vd) hi)
  have b0 : Below w.heap.size w (w.alloc (.cells #[vi, vo, .int .i64 p.regs, vc, vd] 26)) := (Below.refl _ _).alloc (Nat.le_refl _) _
  have bP := (Row.new w #[vi, vo, .int .i64 p.regs, vc, vd] 26).alloc (.cells #[.int .i64 x.op, .int .i64 x.a, .int .i64 x.b, .int .i64 x.c, .int .i64 x.k] 30)
  have bX := rowNew2 w (.cells #[vi, vo, .int .i64 p.regs, vc, vd] 26) #[.int .i64 x.op, .int .i64 x.a, .int .i64 x.b, .int .i64 x.c, .int .i64 x.k] 30
  have b1 : Below w.heap.size w ((w.alloc (.cells #[vi, vo, .int .i64 p.regs, vc, vd] 26)).alloc (.cells #[.int .i64 x.op, .int .i64 x.a, .int .i64 x.b, .int .i64 x.c, .int .i64 x.k] 30)) := b0.alloc (by simp) _
  have h1 := h.next b1
  have hi : i < p.code.length := (List.getElem?_eq_some_iff.1 hx).1
  obtain ⟨⟨Ai, ci, rfl, li, mi, si⟩, ⟨Ao, co, rfl, lo, mo, so⟩, hreg, ⟨Ac, cc, rfl, lc, mc, sc⟩, ⟨Ad, cd, rfl, ld, md, sd⟩⟩ := h
  have mc' : cc ≤ 9223372036854775807 := by unfold maxLen at mc; omega
  have md' : cd ≤ 9223372036854775807 := by unfold maxLen at md; omega
  obtain ⟨b, off, x', rfl, hb, hxk, hok, c0, c1, c2, c3, c4⟩ := (sd.below b0).in5 hi
  obtain rfl : x' = x := by rw [hx] at hxk; injection hxk with h; exact h.symm
  clear hxk hx
  have hil : (i : Int) < p.code.length := by omega
  have ns : ¬ (5 ≤ x'.op ∧ x'.op ≤ 20) := by omega
  go_enter Try.func50, Try.ntmps50
  go_wp2_with fail
  refine (rsign_no x'.op _ (by omega)).mono ?_
  rintro e w2 ⟨rfl, hb2⟩
  have b2 := b1.trans (hb2.mono b1.size)
  have h2 := h1.next hb2
  have bP2 := bP.below hb2 bP.lt
  have bX2 := bX.below hb2 bX.lt
  have so2 := so.below b2
  have sc2 := sc.below b2
  have hz2 : w.heap.size ≤ w2.heap.size := b2.size
  clear hb2 bP bX h1 b1 b0 c0 c1 c2 c3 c4 si so sc sd
  have q0 := bP2.cell 0
  have q1 := bP2.cell 1
  have q2 := bP2.cell 2
  have q3 := bP2.cell 3
  have q4 := bP2.cell 4
  have x0 := bX2.cell 0
  have x1 := bX2.cell 1
  have x2 := bX2.cell 2
  have x3 := bX2.cell 3
  have x4 := bX2.cell 4
  simp only [List.getElem?_toArray, List.getElem?_cons_zero, List.getElem?_cons_succ] at q0 q1 q2 q3 q4 x0 x1 x2 x3 x4
  have HR := Lib.hid (show takesOk p (pairs p i) i x' ↔ 0 ≤ x'.k ∧ x'.k ≤ (p.code.length : Int) - 1 - i ∧ taken p (pairs p i) x'.a = 2 by unfold takesOk; rw [if_neg ns, if_neg (by omega), if_neg (by omega), if_neg (by omega), if_neg (by omega), if_neg (by omega), if_pos hc])
  have o2 : (x'.op == 2) = false := by simp; omega
  have o3 : (x'.op == 3) = false := by simp; omega
  have o27 : (x'.op == 27) = false := by simp; omega
  have o29 : (x'.op == 29) = false := by simp; omega
  have o32 : (x'.op == 32) = false := by simp; omega
  clear ns
  by_cases hk : 0 ≤ x'.k ∧ x'.k ≤ (p.code.length : Int) - 1 - i
  · have HR7 := Lib.hid (show takesOk p (pairs p i) i x' ↔ taken p (pairs p i) x'.a = 2 by rw [HR.out]; exact ⟨fun g => g.2.2, fun g => ⟨hk.1, hk.2, g⟩⟩)
    obtain ⟨hk0, hk1⟩ := hk
    clear HR
    rcases hc with hc | hc
    · have o30 : (x'.op == 30) = true := by simp [hc]
      clear hc
      go_wp2_with fail
      refine (HT.out x'.a _ h2).mono ?_
      rintro e w3 ⟨rfl, hb3⟩
      have HB := Lib.hid (b2.trans (hb3.mono b2.size))
      clear hb3
      generalize taken p (pairs p i) x'.a = T2 at *
      go_wp2_with fail
      go_ret
      exact ⟨ret_bool (by rw [Bool.eq_iff_iff, cB_iff, HR7.out]; simp; try omega), HB.out⟩
    · have o30 : (x'.op == 30) = false := by simp [hc]
      have o31 : (x'.op == 31) = true := by simp [hc]
      clear hc
      go_wp2_with fail
      refine (HT.out x'.a _ h2).mono ?_
      rintro e w3 ⟨rfl, hb3⟩
      have HB := Lib.hid (b2.trans (hb3.mono b2.size))
      clear hb3
      generalize taken p (pairs p i) x'.a = T2 at *
      go_wp2_with fail
      go_ret
      exact ⟨ret_bool (by rw [Bool.eq_iff_iff, cB_iff, HR7.out]; simp; try omega), HB.out⟩
  · have HF := Lib.hid (cB_false (fun g => hk ⟨(HR.out.1 g).1, (HR.out.1 g).2.1⟩))
    have hk2 : x'.k < 0 ∨ (0 ≤ x'.k ∧ (p.code.length : Int) - 1 - i < x'.k) := by omega
    clear hk HR
    rcases hk2 with hk2 | ⟨hk2, hk3⟩ <;> rcases hc with hc | hc
    all_goals
      (first
        | (have o30 : (x'.op == 30) = true := by simp [hc])
        | ((have o30 : (x'.op == 30) = false := by simp [hc]); (have o31 : (x'.op == 31) = true := by simp [hc])))
      clear hc
      go_wp2_with fail
      go_ret
      exact ⟨ret_bool HF.out.symm, b2⟩
end
end Go.Proofs.Ytbjaejgechadpaa
