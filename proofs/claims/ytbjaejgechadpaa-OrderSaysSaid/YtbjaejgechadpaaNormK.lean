/-
  norm's looker: act, wires that are none; ops that are reckoned.
-/
import Derived.Test.YtbjaejgechadpaaNormI
import Derived.Test.YtbjaejgechadpaaPlainA
namespace Go.Proofs.Ytbjaejgechadpaa
open Go.RowKit Vf Fo
attribute [local go_sem ↓] Go.wp_at_zero Go.wp_at_succ
section
variable {w : World} {B L : Nat} {f : Fm} {vw va vc vk vi vo vb ve : Value}

theorem allW_three {a b c : Int} : allW f [a, b, c] ↔ isW f a ∧ isW f b ∧ isW f c := by simp [allW]
theorem is3_b {a b c : Int} {V : Bool} (h : NkAt w B L f vw va vc vk vi vo vb ve) (hB : B ≤ w.heap.size) (wa : Wf a) (wb : Wf b) (wc : Wf c) (hV : cB (isW f a ∧ isW f b ∧ isW f c) = V) {W : World} (hW : Below w.heap.size w W) :
    Calls Try.prog 134 #[.pointer (some ⟨L, 0, none⟩), .slice (some ⟨W.heap.size, 0, none⟩) 3 3] (W.alloc (.cells #[.int .i64 a, .int .i64 b, .int .i64 c] 3)) fun e w' => e = .returned (.bool V) ∧ Below W.heap.size W w' := by
  have hK : NkAt (W.alloc (.cells #[.int .i64 a, .int .i64 b, .int .i64 c] 3)) B L f vw va vc vk vi vo vb ve := h.below hB (hW.alloc hW.size _)
  have := nis_any hK [a, b, c] _ _ (three_slv wa wb wc)
  rw [cB_congr allW_three, hV] at this
  exact this.mono fun e w' ⟨he, hk⟩ => ⟨he, by rw [← hk]; exact (Below.refl _ _).alloc (Nat.le_refl _) _⟩
set_option maxRecDepth 100000 in
set_option maxHeartbeats 2000000 in
theorem nact_no (h : NkAt w B L f vw va vc vk vi vo vb ve) (hB : B ≤ w.heap.size) (op dst a b c k : Int) (wx : AcIn ⟨op, dst, a, b, c, k⟩) (hall : ¬ allW3 f a b c) :
    Calls Try.prog 102 #[.pointer (some ⟨L, 0, none⟩), .agg #[.int .i64 op, .int .i64 dst, .int .i64 a, .int .i64 b, .int .i64 c, .int .i64 k]] w fun e w' => e = .returned (.bool (cB (actOk f ⟨op, dst, a, b, c, k⟩))) ∧ Below w.heap.size w w' := by
  have HH := Lib.hid h
  have hBw := hB
  obtain ⟨wop, wd, wa, wb, wc, wk⟩ := wx
  dsimp only at wop wd wa wb wc wk
  clear h hB
  have HF := Lib.hid (cB_false (act_no3 (op := op) (dst := dst) (k := k) hall))
  have HV3 : Hid (cB (isW f a ∧ isW f b ∧ isW f c) = false) := cB_false hall
  generalize cB (actOk f ⟨op, dst, a, b, c, k⟩) = R at *
  have bX := Row.new w #[.int .i64 op, .int .i64 dst, .int .i64 a, .int .i64 b, .int .i64 c, .int .i64 k] 91
  have b1 : Below w.heap.size w (w.alloc (.cells #[.int .i64 op, .int .i64 dst, .int .i64 a, .int .i64 b, .int .i64 c, .int .i64 k] 91)) := bE
  have hg1 := bX.lt
  go_enter Try.func102, Try.ntmps102
  go_upto_region 1 with (fail)
  generalize hW1 : w.alloc (.cells #[.int .i64 op, .int .i64 dst, .int .i64 a, .int .i64 b, .int .i64 c, .int .i64 k] 91) = w1 at *
  clear hW1
  obtain ⟨c0, c1, c2, c3, c4, c5⟩ := bX.six'
  go_wp2_with fail
  (with_reducible refine (is3_b HH.out hBw wa wb wc HV3.out b1).mono ?_)
  rintro e w5 ⟨rfl, hb5⟩
  have hb15 := b1.trans (hb5.mono b1.size)
  have bX5 := bX.below hb5 hg1
  have hg5 : w.heap.size < w5.heap.size := bX5.lt
  clear c0 c1 c2 c3 c4 c5 hb5 bX b1
  obtain ⟨c0, c1, c2, c3, c4, c5⟩ := bX5.six'
  go_wp2_with fail
  go_ret
  exact ⟨ret_bool HF.out.symm, hb15⟩
set_option maxRecDepth 100000 in
set_option maxHeartbeats 2000000 in
theorem nact_one (h : NkAt w B L f vw va vc vk vi vo vb ve) (hB : B ≤ w.heap.size) (op dst a b c k : Int) (wx : AcIn ⟨op, dst, a, b, c, k⟩) (hd : isW f dst) (hop : op = 5 ∨ op = 6) (hall : allW3 f a b c) :
    Calls Try.prog 102 #[.pointer (some ⟨L, 0, none⟩), .agg #[.int .i64 op, .int .i64 dst, .int .i64 a, .int .i64 b, .int .i64 c, .int .i64 k]] w fun e w' => e = .returned (.bool (cB (actOk f ⟨op, dst, a, b, c, k⟩))) ∧ Below w.heap.size w w' := by
  have HH := Lib.hid h
  have hBw := hB
  obtain ⟨wop, wd, wa, wb, wc, wk⟩ := wx
  dsimp only at wop wd wa wb wc wk
  clear h hB
  have HIFF : Hid (cB (actOk f ⟨op, dst, a, b, c, k⟩) = cB (b = 0 ∧ c = 0 ∧ k = 0 ∧ clockOf f dst = clockOf f a ∧ tyOf f a = Ar.signIn op ∧ tyOf f dst = Ar.signOut op)) := cB_congr (act_iffOne hop hall)
  have sg : Ar.signB op = true := by simp [Ar.signB]; omega
  have HOP := Lib.hid (hop)
  clear hop
  generalize cB (actOk f ⟨op, dst, a, b, c, k⟩) = R at *
  have HV3 : Hid (cB (isW f a ∧ isW f b ∧ isW f c) = true) := cB_true hall
  have bX := Row.new w #[.int .i64 op, .int .i64 dst, .int .i64 a, .int .i64 b, .int .i64 c, .int .i64 k] 91
  have b1 : Below w.heap.size w (w.alloc (.cells #[.int .i64 op, .int .i64 dst, .int .i64 a, .int .i64 b, .int .i64 c, .int .i64 k] 91)) := bE
  have hg1 := bX.lt
  go_enter Try.func102, Try.ntmps102
  go_upto_region 1 with (fail)
  generalize hW1 : w.alloc (.cells #[.int .i64 op, .int .i64 dst, .int .i64 a, .int .i64 b, .int .i64 c, .int .i64 k] 91) = w1 at *
  clear hW1
  obtain ⟨c0, c1, c2, c3, c4, c5⟩ := bX.six'
  go_wp2_with fail
  (with_reducible refine (is3_b HH.out hBw wa wb wc HV3.out b1).mono ?_)
  rintro e w5 ⟨rfl, hb5⟩
  have hb15 := b1.trans (hb5.mono b1.size)
  have bX5 := bX.below hb5 hg1
  have hg5 : w.heap.size < w5.heap.size := bX5.lt
  clear c0 c1 c2 c3 c4 c5 hb5 bX b1
  obtain ⟨c0, c1, c2, c3, c4, c5⟩ := bX5.six'
  go_wp2_with fail
  (with_reducible refine (Ar.sign_any op _).mono ?_)
  rintro e w' ⟨rfl, rfl⟩
  rw [sg]
  have HC := Lib.hid (nreck_one (HH.out.below hBw hb15) (Nat.le_trans hBw hb15.size) op dst a b c k (Ar.signIn op) (Ar.signOut op) HOP.out wd wa hd hall.1)
  generalize Ar.signIn op = si at *
  generalize Ar.signOut op = so at *
  clear sg
  go_wp2_with fail
  (with_reducible refine HC.out.mono ?_)
  rintro e w' ⟨rfl, hb7⟩
  have hb17 := hb15.trans (hb7.mono hb15.size)
  go_wp2_with fail
  go_ret
  exact ⟨ret_bool (by rw [HIFF.out]), hb17⟩
set_option maxRecDepth 100000 in
set_option maxHeartbeats 2000000 in
theorem nact_two (h : NkAt w B L f vw va vc vk vi vo vb ve) (hB : B ≤ w.heap.size) (op dst a b c k : Int) (wx : AcIn ⟨op, dst, a, b, c, k⟩) (hd : isW f dst) (hop : 7 ≤ op ∧ op ≤ 20) (hall : allW3 f a b c) :
    Calls Try.prog 102 #[.pointer (some ⟨L, 0, none⟩), .agg #[.int .i64 op, .int .i64 dst, .int .i64 a, .int .i64 b, .int .i64 c, .int .i64 k]] w fun e w' => e = .returned (.bool (cB (actOk f ⟨op, dst, a, b, c, k⟩))) ∧ Below w.heap.size w w' := by
  have HH := Lib.hid h
  have hBw := hB
  obtain ⟨wop, wd, wa, wb, wc, wk⟩ := wx
  dsimp only at wop wd wa wb wc wk
  clear h hB
  have HIFF : Hid (cB (actOk f ⟨op, dst, a, b, c, k⟩) = cB (c = 0 ∧ k = 0 ∧ (clockOf f dst = clockOf f a ∧ clockOf f dst = clockOf f b) ∧ tyOf f dst = Ar.signOut op ∧ tyOf f a = tyOf f b ∧ (Ar.signIn op = 0 ∨ tyOf f a = Ar.signIn op))) := cB_congr (act_iffTwo hop hall)
  have sg : Ar.signB op = true := by simp [Ar.signB]; omega
  have HOP := Lib.hid ((by omega : op ≠ 5 ∧ op ≠ 6))
  clear hop
  generalize cB (actOk f ⟨op, dst, a, b, c, k⟩) = R at *
  have HV3 : Hid (cB (isW f a ∧ isW f b ∧ isW f c) = true) := cB_true hall
  have bX := Row.new w #[.int .i64 op, .int .i64 dst, .int .i64 a, .int .i64 b, .int .i64 c, .int .i64 k] 91
  have b1 : Below w.heap.size w (w.alloc (.cells #[.int .i64 op, .int .i64 dst, .int .i64 a, .int .i64 b, .int .i64 c, .int .i64 k] 91)) := bE
  have hg1 := bX.lt
  go_enter Try.func102, Try.ntmps102
  go_upto_region 1 with (fail)
  generalize hW1 : w.alloc (.cells #[.int .i64 op, .int .i64 dst, .int .i64 a, .int .i64 b, .int .i64 c, .int .i64 k] 91) = w1 at *
  clear hW1
  obtain ⟨c0, c1, c2, c3, c4, c5⟩ := bX.six'
  go_wp2_with fail
  (with_reducible refine (is3_b HH.out hBw wa wb wc HV3.out b1).mono ?_)
  rintro e w5 ⟨rfl, hb5⟩
  have hb15 := b1.trans (hb5.mono b1.size)
  have bX5 := bX.below hb5 hg1
  have hg5 : w.heap.size < w5.heap.size := bX5.lt
  clear c0 c1 c2 c3 c4 c5 hb5 bX b1
  obtain ⟨c0, c1, c2, c3, c4, c5⟩ := bX5.six'
  go_wp2_with fail
  (with_reducible refine (Ar.sign_any op _).mono ?_)
  rintro e w' ⟨rfl, rfl⟩
  rw [sg]
  have HC := Lib.hid (nreck_two (HH.out.below hBw hb15) (Nat.le_trans hBw hb15.size) op dst a b c k (Ar.signIn op) (Ar.signOut op) HOP.out wd wa wb hd hall.1 hall.2.1)
  generalize Ar.signIn op = si at *
  generalize Ar.signOut op = so at *
  clear sg
  go_wp2_with fail
  (with_reducible refine HC.out.mono ?_)
  rintro e w' ⟨rfl, hb7⟩
  have hb17 := hb15.trans (hb7.mono hb15.size)
  go_wp2_with fail
  go_ret
  exact ⟨ret_bool (by rw [HIFF.out]), hb17⟩
end
end Go.Proofs.Ytbjaejgechadpaa
