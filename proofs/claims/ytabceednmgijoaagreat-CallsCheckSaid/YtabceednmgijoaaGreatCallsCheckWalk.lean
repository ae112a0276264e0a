/-
  CallsCheck: the walk.
-/
import Derived.Test.YtabceednmgijoaaGreatAwD
import Derived.Test.YtabceednmgijoaaGreatRfK
import Derived.Test.YtabceednmgijoaaGreatOpenN
import Derived.Test.YtabceednmgijoaaGreatFewM
import Derived.Deep.RegionHeld3
namespace Go.Proofs.YtabceednmgijoaaGreat.callsCheck
open Go.RowKit
attribute [local go_sem ↓] Go.wp_at_zero Go.wp_at_succ
set_option maxRecDepth 100000 in
set_option maxHeartbeats 1000000 in
theorem walk (s : List Nd) (v : Value) (w : World) (h : SrcIs w s v) :
    Calls Tryz.prog 4 #[v] w fun r w' => r = .returned (.bool true) ∧ Below w.heap.size w w' := by
  obtain ⟨A, cap, rfl, h1, h2, hn⟩ := h
  have rs1 := Row.new w #[.slice A s.length cap] 24
  have b1 : Below w.heap.size w (w.alloc (.cells #[.slice A s.length cap] 24)) := bE
  have HS : Hid (∀ W, Below w.heap.size w W → Nds W w.heap.size A s) := fun W hW => nds_keep hn (keeps_of hW) (Nat.le_refl _)
  have HSW : Hid (∀ W, Below w.heap.size w W → Nds W W.heap.size A s) := fun W hW => nds_keep hn (keeps_of hW) hW.size
  have h2' : cap ≤ 9223372036854775807 := by unfold maxLen at h2; omega
  clear hn
  go_enter Tryz.func4, Tryz.ntmps4
  go_upto_region 1 with (fail)
  generalize w.alloc (.cells #[.slice A s.length cap] 24) = W1 at *
  have hs1 := b1.size
  go_wp2_with fail
  refine (awake17_any W1).mono ?_
  rintro r w2 ⟨rfl, hb2⟩
  have rs2 := rs1.below hb2 rs1.lt
  have hB2 := b1.trans (hb2.mono hs1)
  have hs2 := hB2.size
  have c0 := rs2.src
  go_wp2_with fail
  refine (fewNodes_any s A cap w2 h1 h2 (HSW.out w2 hB2)).mono ?_
  rintro r w3 ⟨⟨bf, rfl, HFN⟩, hb3⟩
  have rs3 := rs2.below hb3 rs2.lt
  have hB3 := hB2.trans (hb3.mono hs2)
  have hs3 := hB3.size
  clear c0 rs1 rs2 b1 hb2 hb3 hB2 hs1 hs2
  cases bf
  · go_wp2_with fail
    go_ret
    exact ⟨rfl, hB3⟩
  have HSM : Hid (SrcSm s) := HFN.out (by first | rfl | trivial)
  clear HFN
  obtain ⟨f, HFX⟩ : ∃ f, Hid (callsF s = f) := ⟨_, rfl⟩
  have HC1 : Hid (∀ W, Below w3.heap.size w3 W → Calls Tryz.prog 14 #[srcV s A cap] W fun r w' => r = .returned (ftV f) ∧ Below W.heap.size W w') := fun W hW => by
    rw [← HFX.out]
    exact check_calls s A cap W HSM.out h1 h2 (HSW.out W (hB3.trans (hW.mono hs3)))
  have HC2 : Hid (∀ W, Below w3.heap.size w3 W → Calls Tryz.prog 15 #[srcV s A cap] W fun r w' => r = .returned (ftV f) ∧ Below W.heap.size W w') := fun W hW => by
    rw [← HFX.out]
    exact rcheck17_any s A cap W HSM.out h1 h2 (HSW.out W (hB3.trans (hW.mono hs3)))
  have e0 : (f.err == f.err) = true := by simp
  have e1 : (f.line == f.line) = true := by simp
  have e2 : (f.col == f.col) = true := by simp
  have c0 := rs3.src
  go_wp2_with fail
  clear c0
  go_loopw [13] (fun i wr => ∃ k : Nat, k ≤ s.length ∧ i = .int .i64 k ∧ Below w3.heap.size w3 wr) (fun i _ => s.length - (intOf i).toNat)
  case atStart => exact ⟨0, Nat.zero_le _, rfl, Below.refl _ _⟩
  case round =>
    obtain ⟨k, hk, rfl, hbr⟩ := hrel
    have hB := hB3.trans (hbr.mono hs3)
    have hsB := hB.size
    have hszr := hbr.size
    by_cases hlt : k < s.length
    rotate_left 1
    · obtain rfl : k = s.length := by omega
      have HT3 : Hid (∀ W, Below wr.heap.size wr W → Below w3.heap.size w3 W) := fun W hW => hbr.trans (hW.mono hszr)
      have HK : Hid (∀ W, Below wr.heap.size wr W → W.cell? ⟨w.heap.size, 0, none⟩ = some (.slice A s.length cap)) := fun W hW => (rs3.below (HT3.out W hW) rs3.lt).src
      have HBF : Hid (∀ W, Below wr.heap.size wr W → Below w.heap.size w W) := fun W hW => hB.trans (hW.mono hsB)
      have c0 := HK.out wr (Below.refl _ _)
      go_upto_region 11 with (fail)
      go_region_held3 (fun W => W.cell? ⟨w.heap.size, 0, none⟩ = some (.slice A s.length cap)) (first | (with_reducible exact HK.out _ bE) | go_keep)
        (first
          | ((go_at_call 14); (refine (HC1.out _ (HT3.out _ bE)).mono ?_); rintro e w4 ⟨rfl, hb4'⟩; (have hb4 : Below wr.heap.size wr w4 := Below.trans bE (hb4'.mono lE)); (have hs4 := hb4.size); clear hb4')
          | ((go_at_call 15); (refine (HC2.out _ (HT3.out _ bE)).mono ?_); rintro e w4 ⟨rfl, hb4'⟩; (have hb4 : Below wr.heap.size wr w4 := Below.trans bE (hb4'.mono lE)); (have hs4 := hb4.size); clear hb4'))
      all_goals
        go_wp2_with fail
        go_ret
        exact ⟨by first | rfl | simp, by first | exact HBF.out _ hb4 | exact (HBF.out _ hb4).drew⟩
    obtain ⟨b, off, n, a, hA, hb, hn, hat, d0, d1, d2, d3, d4, d5, d6⟩ := (HS.out wr hB).nd hlt
    have HNS := Lib.hid (HSM.out.all n (List.mem_of_getElem? hn))
    have HAW : Hid (∀ W, Below wr.heap.size wr W → NdAt W W.heap.size n a) := fun W hW => (hat.below (hW.mono hsB)).more (Nat.le_trans hsB hW.size)
    have i0 : (0 : Int) ≤ (k : Int) := by omega
    have i1 : (k : Int) < (s.length : Int) := by omega
    have rn1 := Row.new wr (ndArr n a) 36
    have ba : Below wr.heap.size wr (wr.alloc (.cells (ndArr n a) 36)) := bE
    rw [hA]
    clear hn hat hA
    go_upto_region 8 with (fail)
    clear d0 d1 d2 d3 d4 d5 d6
    generalize hW6 : wr.alloc (.cells (ndArr n a) 36) = w6 at *
    clear hW6
    have hsa := ba.size
    have HK6 : Hid (∀ W, Below w6.heap.size w6 W → (W.cell? ⟨wr.heap.size, 0, none⟩ = some (.string n.name) ∧ W.cell? ⟨wr.heap.size, 1, none⟩ = some (.slice a.ai n.ins.length a.ci) ∧ W.cell? ⟨wr.heap.size, 2, none⟩ = some (.slice a.ao n.outs.length a.co) ∧ W.cell? ⟨wr.heap.size, 3, none⟩ = some (.slice a.av n.vars.length a.cv) ∧ W.cell? ⟨wr.heap.size, 4, none⟩ = some (.slice a.aq n.eqs.length a.cq) ∧ W.cell? ⟨wr.heap.size, 5, none⟩ = some (.int .i64 n.line) ∧ W.cell? ⟨wr.heap.size, 6, none⟩ = some (.int .i64 n.col))) := fun W hW => (rn1.below hW rn1.lt).nd
    have HU1 : Hid (∀ W, Below w6.heap.size w6 W → Calls Tryz.prog 12 #[ndV n a] W fun r w' => (∃ v, r = .returned v ∧ SlV w' w'.heap.size 1 isStr v (usesF n)) ∧ Below W.heap.size W w') := fun W hW => uses_any n a W HNS.out (HAW.out W (ba.trans (hW.mono hsa)))
    have HU2 : Hid (∀ W, Below w6.heap.size w6 W → Calls Tryz.prog 13 #[ndV n a] W fun r w' => (∃ v, r = .returned v ∧ SlV w' w'.heap.size 1 isStr v (usesF n)) ∧ Below W.heap.size W w') := fun W hW => ruses_any n a W HNS.out (HAW.out W (ba.trans (hW.mono hsa)))
    go_cut [22] (fun v22 W => v22 = .bool false ∧ Below w6.heap.size w6 W)
    case first =>
      refine wp_region_held_drew (S := fun W => (W.cell? ⟨wr.heap.size, 0, none⟩ = some (.string n.name) ∧ W.cell? ⟨wr.heap.size, 1, none⟩ = some (.slice a.ai n.ins.length a.ci) ∧ W.cell? ⟨wr.heap.size, 2, none⟩ = some (.slice a.ao n.outs.length a.co) ∧ W.cell? ⟨wr.heap.size, 3, none⟩ = some (.slice a.av n.vars.length a.cv) ∧ W.cell? ⟨wr.heap.size, 4, none⟩ = some (.slice a.aq n.eqs.length a.cq) ∧ W.cell? ⟨wr.heap.size, 5, none⟩ = some (.int .i64 n.line) ∧ W.cell? ⟨wr.heap.size, 6, none⟩ = some (.int .i64 n.col))) (by kernel_rfl) ?_ (fun hHeld => ?_)
      · (try dsimp only); (first | (with_reducible exact HK6.out _ bE) | exact hHeld | assumption | trivial)
      refine tk 0 (some 17) rfl ?_
      refine tk 2 (some 19) rfl ?_
      refine rd1 1 (some 18) rfl (fun KK hKK => ?_)
      go_simp
      (go_at_call 12; refine Calls.mono (HU1.out _ bE) ?_; rintro e w7 ⟨⟨v7, rfl, hv7⟩, hb7⟩; (have hb8 : Below w6.heap.size w6 w7 := Below.trans bE (hb7.mono lE)); (have hs8 := hb8.size); (obtain ⟨A7, c7, rfl, g1, g2, g3⟩ := hv7))
      (try go_wp2_with fail)
      refine hKK.out _ _ ?_ (fun hHeld => ?_)
      · (try dsimp only); (first | (with_reducible exact HK6.out _ bE) | exact hHeld | assumption | trivial)
      clear hKK KK
      try simp only [Act.put, List.setIfInBounds_toArray, List.set_cons_zero, List.set_cons_succ]
      refine rd1 3 (some 20) rfl (fun KK hKK => ?_)
      go_simp
      (go_at_call 13; refine Calls.mono (HU2.out _ bE) ?_; rintro e w9 ⟨⟨v9, rfl, hv9⟩, hb9⟩; (have g4 := by first | exact (g3.below hb9).more hb9.size | exact (Sl.below (w := w7.drew) g3 hb9).more hb9.size); (have hb10 : Below w6.heap.size w6 w9 := Below.trans bE (hb9.mono (by first | exact hs8 | (simp; exact hs8)))); (have hs10 := hb10.size); (obtain ⟨A9, c9, rfl, q1, q2, q3⟩ := hv9))
      (try go_wp2_with fail)
      refine hKK.out _ _ ?_ (fun hHeld => ?_)
      · (try dsimp only); (first | (with_reducible exact HK6.out _ bE) | exact hHeld | assumption | trivial)
      clear hKK KK
      try simp only [Act.put, List.setIfInBounds_toArray, List.set_cons_zero, List.set_cons_succ]
      refine rd1 4 (some 21) rfl (fun KK hKK => ?_)
      go_simp
      (go_at_call 11; refine Calls.mono (texts_self (usesF n) _ A7 A9 c7 c9 _ rfl g1 g2 (by first | exact g4 | exact (g4 : Sl w9 _ _ _ _ _)) q1 q2 q3) ?_; rintro e w11 ⟨rfl, nn, rfl⟩)
      (try go_wp2_with fail)
      refine hKK.out _ _ ?_ (fun hHeld => ?_)
      · (try dsimp only); (first | (with_reducible exact HK6.out _ bE) | exact hHeld | assumption | trivial)
      clear hKK KK
      try simp only [Act.put, List.setIfInBounds_toArray, List.set_cons_zero, List.set_cons_succ]
      refine tk 5 (some 22) rfl ?_
      refine wpAnyH_done (by kernel_rfl) ?_ _
      go_wp2_with fail
      go_meet
      exact ⟨rfl, by first | exact below_drewN' hb10 _ | exact (below_drewN' hb10 _).drew | exact below_drewN' hb10.drew _⟩
    case rest =>
      obtain ⟨rfl, hbc⟩ := hcut
      go_wp2_with fail
      go_roundw
      case rel => exact ⟨k + 1, by omega, by go_num, hbr.trans ((ba.trans (hbc.mono hsa)).mono hszr)⟩
      case measure => first | (simp [intOf]; omega) | simp [intOf]
end Go.Proofs.YtabceednmgijoaaGreat.callsCheck
