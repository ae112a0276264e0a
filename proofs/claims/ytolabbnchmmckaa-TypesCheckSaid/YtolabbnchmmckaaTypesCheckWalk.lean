/-
  TypesCheck: the walk.
-/
import Derived.Test.YtolabbnchmmckaaTyV
import Derived.Test.YtolabbnchmmckaaRfW
import Derived.Test.YtolabbnchmmckaaOpenN
import Derived.Deep.RegionHeld3
namespace Go.Proofs.Ytolabbnchmmckaa.typesCheck
open Go.RowKit
attribute [local go_sem ↓] Go.wp_at_zero Go.wp_at_succ
set_option maxRecDepth 100000 in
set_option maxHeartbeats 1000000 in
theorem walk (s : List Nd) (v : Value) (w : World) (h : SrcIs w s v) :
    Calls Try.prog 10 #[v] w fun r w' => r = .returned (.bool true) ∧ Below w.heap.size w w' := by
  obtain ⟨A, cap, rfl, h1, h2, hn⟩ := h
  have rs1 := Row.new w #[.slice A s.length cap] 45
  have b1 : Below w.heap.size w (w.alloc (.cells #[.slice A s.length cap] 45)) := (by repeat (first | (with_reducible assumption) | (with_reducible exact Below.refl _ _) | (with_reducible refine Below.drew ?_) | (with_reducible refine below_drewN' ?_ _) | (with_reducible refine Below.alloc ?_ (by first | assumption | omega | (simp; omega) | simp | (simp [World.setCell]; omega) | simp [World.setCell]) _) | (with_reducible refine Below.setCell ?_ (by first | assumption | omega | (simp; omega) | simp | (simp [World.setCell]; omega) | simp [World.setCell]) _)))
  have HS : Hid (∀ W, Below w.heap.size w W → Nds W W.heap.size A s) := fun W hW => nds_keep hn (keeps_of hW) hW.size
  clear hn
  go_enter Try.func10, Try.ntmps10
  go_upto_region 1 with (fail)
  generalize w.alloc (.cells #[.slice A s.length cap] 45) = W1 at *
  have hs1 := b1.size
  go_wp2_with fail
  refine (awake16_any W1).mono ?_
  rintro r w2 ⟨rfl, hb2⟩
  have rs2 := rs1.below hb2 rs1.lt
  have hB2 := b1.trans (hb2.mono hs1)
  have hs2 := hB2.size
  have c0 := rs2.src
  go_wp2_with fail
  refine (fewNodes_any s A cap w2 h1 h2 (HS.out w2 hB2)).mono ?_
  rintro r w3 ⟨⟨bf, rfl, HFN⟩, hb3⟩
  have rs3 := rs2.below hb3 rs2.lt
  have hB3 := hB2.trans (hb3.mono hs2)
  have hs3 := hB3.size
  clear c0 rs1 rs2 b1 hb2 hb3 hB2 hs1 hs2
  cases bf
  · go_wp2_with fail
    go_ret
    exact ⟨rfl, hB3⟩
  have HSM : Hid (SrcSm s) := HFN.out (by first | rfl | trivial)
  clear HFN
  obtain ⟨f, HFX⟩ : ∃ f, Hid (typesF s = f) := ⟨_, rfl⟩
  have HC1 : Hid (∀ W, Below w3.heap.size w3 W → Calls Try.prog 43 #[srcV s A cap] W fun r w' => r = .returned (ftV f) ∧ Below W.heap.size W w') := fun W hW => by
    rw [← HFX.out]
    exact tcheck_any s A cap W HSM.out h1 h2 (HS.out W (hB3.trans (hW.mono hs3)))
  have HC2 : Hid (∀ W, Below w3.heap.size w3 W → Calls Try.prog 44 #[srcV s A cap] W fun r w' => r = .returned (ftV f) ∧ Below W.heap.size W w') := fun W hW => by
    rw [← HFX.out]
    exact rtcheck_any s A cap W HSM.out h1 h2 (HS.out W (hB3.trans (hW.mono hs3)))
  have HK : Hid (∀ W, Below w3.heap.size w3 W → W.cell? ⟨w.heap.size, 0, none⟩ = some (.slice A s.length cap)) := fun W hW => (rs3.below hW rs3.lt).src
  have c0 := rs3.src
  have e0 : (f.err == f.err) = true := by simp
  have e1 : (f.line == f.line) = true := by simp
  have e2 : (f.col == f.col) = true := by simp
  go_upto_region 5 with (fail)
  go_region_held3 (fun W => W.cell? ⟨w.heap.size, 0, none⟩ = some (.slice A s.length cap)) (first | (with_reducible exact HK.out _ (by repeat (first | (with_reducible assumption) | (with_reducible exact Below.refl _ _) | (with_reducible refine Below.drew ?_) | (with_reducible refine below_drewN' ?_ _) | (with_reducible refine Below.alloc ?_ (by first | assumption | omega | (simp; omega) | simp | (simp [World.setCell]; omega) | simp [World.setCell]) _) | (with_reducible refine Below.setCell ?_ (by first | assumption | omega | (simp; omega) | simp | (simp [World.setCell]; omega) | simp [World.setCell]) _)))) | go_keep)
    (first
      | ((go_at_call 43); (refine (HC1.out _ (by repeat (first | (with_reducible assumption) | (with_reducible exact Below.refl _ _) | (with_reducible refine Below.drew ?_) | (with_reducible refine below_drewN' ?_ _) | (with_reducible refine Below.alloc ?_ (by first | assumption | omega | (simp; omega) | simp | (simp [World.setCell]; omega) | simp [World.setCell]) _) | (with_reducible refine Below.setCell ?_ (by first | assumption | omega | (simp; omega) | simp | (simp [World.setCell]; omega) | simp [World.setCell]) _)))).mono ?_); rintro e w4 ⟨rfl, hb4'⟩; (have hb4 : Below w3.heap.size w3 w4 := Below.trans (by repeat (first | (with_reducible assumption) | (with_reducible exact Below.refl _ _) | (with_reducible refine Below.drew ?_) | (with_reducible refine below_drewN' ?_ _) | (with_reducible refine Below.alloc ?_ (by first | assumption | omega | (simp; omega) | simp | (simp [World.setCell]; omega) | simp [World.setCell]) _) | (with_reducible refine Below.setCell ?_ (by first | assumption | omega | (simp; omega) | simp | (simp [World.setCell]; omega) | simp [World.setCell]) _))) (hb4'.mono (by first | exact Nat.le_refl _ | simp | (simp; omega) | omega))); (have hs4 := hb4.size); clear hb4')
      | ((go_at_call 44); (refine (HC2.out _ (by repeat (first | (with_reducible assumption) | (with_reducible exact Below.refl _ _) | (with_reducible refine Below.drew ?_) | (with_reducible refine below_drewN' ?_ _) | (with_reducible refine Below.alloc ?_ (by first | assumption | omega | (simp; omega) | simp | (simp [World.setCell]; omega) | simp [World.setCell]) _) | (with_reducible refine Below.setCell ?_ (by first | assumption | omega | (simp; omega) | simp | (simp [World.setCell]; omega) | simp [World.setCell]) _)))).mono ?_); rintro e w4 ⟨rfl, hb4'⟩; (have hb4 : Below w3.heap.size w3 w4 := Below.trans (by repeat (first | (with_reducible assumption) | (with_reducible exact Below.refl _ _) | (with_reducible refine Below.drew ?_) | (with_reducible refine below_drewN' ?_ _) | (with_reducible refine Below.alloc ?_ (by first | assumption | omega | (simp; omega) | simp | (simp [World.setCell]; omega) | simp [World.setCell]) _) | (with_reducible refine Below.setCell ?_ (by first | assumption | omega | (simp; omega) | simp | (simp [World.setCell]; omega) | simp [World.setCell]) _))) (hb4'.mono (by first | exact Nat.le_refl _ | simp | (simp; omega) | omega))); (have hs4 := hb4.size); clear hb4'))
  all_goals
    go_wp2_with fail
    go_ret
    exact ⟨by first | rfl | simp, by first | exact hB3.trans (hb4.mono hs3) | exact (hB3.trans (hb4.mono hs3)).drew⟩
end Go.Proofs.Ytolabbnchmmckaa.typesCheck
