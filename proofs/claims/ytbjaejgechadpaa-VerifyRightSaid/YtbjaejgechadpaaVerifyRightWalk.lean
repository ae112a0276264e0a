/-
  The walk of the law VerifyRight.
-/
import Derived.Test.YtbjaejgechadpaaVLaw
import Derived.Test.YtbjaejgechadpaaOpenP
namespace Go.Proofs.Ytbjaejgechadpaa.verifyRight
open Go.RowKit Vf
attribute [local go_sem ↓] Go.wp_at_zero Go.wp_at_succ
set_option maxRecDepth 100000 in
set_option maxHeartbeats 4000000 in
theorem walk0 (p : Pg) (vi vo vc vd : Value) (w : World) (h : PgAt w w.heap.size p vi vo vc vd) :
    Calls Try.prog 3 #[pgV p vi vo vc vd] w fun e w' => e = .returned (.bool true) ∧ Below w.heap.size w w' := by
  have b0 : Below w.heap.size w (w.alloc (.cells #[vi, vo, .int .i64 p.regs, vc, vd] 26)) := (Below.refl _ _).alloc (Nat.le_refl _) _
  have bP := Row.new w #[vi, vo, .int .i64 p.regs, vc, vd] 26
  have h0 := h.next b0
  clear h
  go_enter Try.func3, Try.ntmps3
  go_wp2_with fail
  refine (awake28_any _).mono ?_
  rintro e w1 ⟨rfl, hb1⟩
  have b1 := b0.trans (hb1.mono b0.size)
  have bP1 := bP.below hb1 bP.lt
  have h1 := h0.next hb1
  clear hb1 h0 bP b0
  have q0 := bP1.cell 0
  have q1 := bP1.cell 1
  have q2 := bP1.cell 2
  have q3 := bP1.cell 3
  have q4 := bP1.cell 4
  simp only [List.getElem?_toArray, List.getElem?_cons_zero, List.getElem?_cons_succ] at q0 q1 q2 q3 q4
  go_wp2_with fail
  refine (few_any p vi vo vc vd _ h1).mono ?_
  rintro e w2 ⟨rfl, hb2⟩
  have b2 := b1.trans (hb2.mono b1.size)
  have bPx := (bP1.below hb2 bP1.lt).drew
  have hPx := (h1.next hb2).next (Below.refl _ _).drew
  have bx := b2.drew
  clear hb2 h1 bP1 b1 q0 q1 q2 q3 q4
  generalize cB (fewOk p) = V at *
  cases V
  · go_wp2_with fail
    go_ret
    exact ⟨rfl, b2⟩
  have q0 := bPx.cell 0
  have q1 := bPx.cell 1
  have q2 := bPx.cell 2
  have q3 := bPx.cell 3
  have q4 := bPx.cell 4
  simp only [List.getElem?_toArray, List.getElem?_cons_zero, List.getElem?_cons_succ] at q0 q1 q2 q3 q4
  go_wp2_with fail
  go_region_held3 (fun w' => w'.cell? ⟨w.heap.size, 0, none⟩ = some vi ∧ w'.cell? ⟨w.heap.size, 1, none⟩ = some vo ∧ w'.cell? ⟨w.heap.size, 2, none⟩ = some (.int .i64 p.regs) ∧ w'.cell? ⟨w.heap.size, 3, none⟩ = some vc ∧ w'.cell? ⟨w.heap.size, 4, none⟩ = some vd)
    (exact ⟨bPx.cell 0, bPx.cell 1, bPx.cell 2, bPx.cell 3, bPx.cell 4⟩)
    (first | (go_at_call 15; refine (vright_any p vi vo vc vd _ hPx).mono ?_; rintro e w3 ⟨rfl, hb3⟩; have bx := bx.trans (hb3.mono bx.size); have bPx := bPx.below hb3 bPx.lt; have hPx := hPx.next hb3) | (go_at_call 16; refine (rright_any _ hPx).mono ?_; rintro e w4 ⟨rfl, hb4⟩; have bx := bx.trans (hb4.mono bx.size); have bPx := bPx.below hb4 bPx.lt; have hPx := hPx.next hb4))
  all_goals
    generalize cB (rightOk p) = V at *
    go_wp2_with fail
    go_ret
    exact ⟨by simp, bx⟩
theorem walk (p : Pg) (v : Value) (w : World) (h : PgIs w p v) : Calls Try.prog 3 #[v] w fun e w' => e = .returned (.bool true) ∧ Below w.heap.size w w' := by
  obtain ⟨vi, vo, vc, vd, rfl, ha⟩ := h
  exact walk0 p vi vo vc vd w ha
end Go.Proofs.Ytbjaejgechadpaa.verifyRight
