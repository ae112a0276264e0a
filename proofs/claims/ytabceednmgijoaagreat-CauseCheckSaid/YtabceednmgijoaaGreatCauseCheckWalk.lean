/-
  CauseCheck: the walk.
-/
import Derived.Test.YtabceednmgijoaaGreatAwE
import Derived.Test.YtabceednmgijoaaGreatRf20
import Derived.Test.YtabceednmgijoaaGreatOpenN
import Derived.Test.YtabceednmgijoaaGreatFewM
import Derived.Deep.RegionHeld3
namespace Go.Proofs.YtabceednmgijoaaGreat.causeCheck
open Go.RowKit
attribute [local go_sem ↓] Go.wp_at_zero Go.wp_at_succ
set_option maxRecDepth 100000 in
set_option maxHeartbeats 1000000 in
theorem walk (s : List Nd) (v : Value) (w : World) (h : SrcIs w s v) :
    Calls Tryz.prog 3 #[v] w fun r w' => r = .returned (.bool true) ∧ Below w.heap.size w w' := by
  obtain ⟨A, cap, rfl, h1, h2, hn⟩ := h
  have rs1 := Row.new w #[.slice A s.length cap] 24
  have b1 : Below w.heap.size w (w.alloc (.cells #[.slice A s.length cap] 24)) := bE
  have HS : Hid (∀ W, Below w.heap.size w W → Nds W w.heap.size A s) := fun W hW => nds_keep hn (keeps_of hW) (Nat.le_refl _)
  have HSW : Hid (∀ W, Below w.heap.size w W → Nds W W.heap.size A s) := fun W hW => nds_keep hn (keeps_of hW) hW.size
  have h2' : cap ≤ 9223372036854775807 := by unfold maxLen at h2; omega
  clear hn
  go_enter Tryz.func3, Tryz.ntmps3
  go_upto_region 1 with (fail)
  generalize w.alloc (.cells #[.slice A s.length cap] 24) = W1 at *
  have hs1 := b1.size
  go_wp2_with fail
  refine (awake20_any W1).mono ?_
  rintro r w2 ⟨rfl, hb2⟩
  have rs2 := rs1.below hb2 rs1.lt
  have hB2 := b1.trans (hb2.mono hs1)
  have hs2 := hB2.size
  have c0 := rs2.src
  go_wp2_with fail
  refine (fewNodes_any s A cap w2 h1 h2 (HSW.out w2 hB2)).mono ?_
  rintro r w3 ⟨⟨bf, rfl, HFN⟩, hb3⟩
  have rs3 := rs2.below hb3 rs2.lt
  have hB3 := hB2.trans (hb3.mono hs2)
  have hs3 := hB3.size
  clear c0 rs1 rs2 b1 hb2 hb3 hB2 hs1 hs2
  cases bf
  · go_wp2_with fail
    go_ret
    exact ⟨rfl, hB3⟩
  have HSM : Hid (SrcSm s) := HFN.out (by first | rfl | trivial)
  clear HFN
  obtain ⟨f, HFX⟩ : ∃ f, Hid (causeF s = f) := ⟨_, rfl⟩
  have HC1 : Hid (∀ W, Below w3.heap.size w3 W → Calls Tryz.prog 8 #[srcV s A cap] W fun r w' => r = .returned (ftV f) ∧ Below W.heap.size W w') := fun W hW => by
    rw [← HFX.out]
    exact ccheck_any s A cap W HSM.out h1 h2 (HSW.out W (hB3.trans (hW.mono hs3)))
  have HC2 : Hid (∀ W, Below w3.heap.size w3 W → Calls Tryz.prog 9 #[srcV s A cap] W fun r w' => r = .returned (ftV f) ∧ Below W.heap.size W w') := fun W hW => by
    rw [← HFX.out]
    exact rcheck20_any s A cap W HSM.out h1 h2 (HSW.out W (hB3.trans (hW.mono hs3)))
  have e0 : (f.err == f.err) = true := by simp
  have e1 : (f.line == f.line) = true := by simp
  have e2 : (f.col == f.col) = true := by simp
  have HK : Hid (∀ W, Below w3.heap.size w3 W → W.cell? ⟨w.heap.size, 0, none⟩ = some (.slice A s.length cap)) := fun W hW => (rs3.below hW rs3.lt).src
  have HBF : Hid (∀ W, Below w3.heap.size w3 W → Below w.heap.size w W) := fun W hW => hB3.trans (hW.mono hs3)
  have c0 := rs3.src
  go_upto_region 5 with (fail)
  go_region_held3 (fun W => W.cell? ⟨w.heap.size, 0, none⟩ = some (.slice A s.length cap)) (first | (with_reducible exact HK.out _ bE) | go_keep)
    (first
      | ((go_at_call 8); (refine (HC1.out _ bE).mono ?_); rintro e w4 ⟨rfl, hb4'⟩; (have hb4 : Below w3.heap.size w3 w4 := Below.trans bE (hb4'.mono lE)); (have hs4 := hb4.size); clear hb4')
      | ((go_at_call 9); (refine (HC2.out _ bE).mono ?_); rintro e w4 ⟨rfl, hb4'⟩; (have hb4 : Below w3.heap.size w3 w4 := Below.trans bE (hb4'.mono lE)); (have hs4 := hb4.size); clear hb4'))
  all_goals
    go_wp2_with fail
    go_ret
    exact ⟨by first | rfl | simp, by first | exact HBF.out _ hb4 | exact (HBF.out _ hb4).drew⟩
end Go.Proofs.YtabceednmgijoaaGreat.causeCheck
