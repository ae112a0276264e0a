/-
  The walk of the law OrderActs.
-/
import Derived.Test.YtbjaejgechadpaaAwF
import Derived.Test.YtbjaejgechadpaaNmA
import Derived.Test.YtbjaejgechadpaaR26B
import Derived.Test.YtbjaejgechadpaaR26C
import Derived.Deep.RegionHeld3
namespace Go.Proofs.Ytbjaejgechadpaa.orderActs
open Go.RowKit Vf Fo
attribute [local go_sem ↓] Go.wp_at_zero Go.wp_at_succ
set_option maxRecDepth 100000 in
set_option maxHeartbeats 8000000 in
theorem walk0 (f : Fm) (vw va vc vk vi vo : Value) (w : World) (h : FmAt w w.heap.size f vw va vc vk vi vo) :
    Calls Try.prog 7 #[fmV vw va vc vk vi vo] w fun e w' => e = .returned (.bool true) ∧ Below w.heap.size w w' := by
  obtain ⟨Aw, cw, hvw, _, _, _⟩ := h.wires
  obtain ⟨Acc, cc, hvc, _, _, _⟩ := h.cells
  obtain ⟨Akk, ck, hvk, _, _, _⟩ := h.keeps
  obtain ⟨Ai, ci, hvi, _, _, _⟩ := h.ins
  obtain ⟨Ao, co, hvo, _, _, _⟩ := h.outs
  subst hvw
  subst hvc
  subst hvk
  subst hvi
  subst hvo
  have b1 : Below w.heap.size w (w.alloc (.cells #[(.slice Aw f.wires.length cw), va, (.slice Acc f.cells.length cc), (.slice Akk f.keeps.length ck), (.slice Ai f.ins.length ci), (.slice Ao f.outs.length co)] 48)) := bE
  have rF := Row.new w #[(.slice Aw f.wires.length cw), va, (.slice Acc f.cells.length cc), (.slice Akk f.keeps.length ck), (.slice Ai f.ins.length ci), (.slice Ao f.outs.length co)] 48
  have HFM := Lib.hid (fun W (hW : Below w.heap.size w W) => (h.below hW).more hW.size)
  clear h
  go_enter Try.func7, Try.ntmps7
  go_upto_region 1 with (fail)
  generalize w.alloc (.cells #[(.slice Aw f.wires.length cw), va, (.slice Acc f.cells.length cc), (.slice Akk f.keeps.length ck), (.slice Ai f.ins.length ci), (.slice Ao f.outs.length co)] 48) = w1 at *
  have hs1 := b1.size
  have HF6 : Hid (∀ W, Below w1.heap.size w1 W → W.cell? ⟨w.heap.size, 0, none⟩ = some (.slice Aw f.wires.length cw) ∧ W.cell? ⟨w.heap.size, 1, none⟩ = some va ∧ W.cell? ⟨w.heap.size, 2, none⟩ = some (.slice Acc f.cells.length cc) ∧ W.cell? ⟨w.heap.size, 3, none⟩ = some (.slice Akk f.keeps.length ck) ∧ W.cell? ⟨w.heap.size, 4, none⟩ = some (.slice Ai f.ins.length ci) ∧ W.cell? ⟨w.heap.size, 5, none⟩ = some (.slice Ao f.outs.length co)) := fun W hW => (rF.below hW rF.lt).six'
  clear rF
  go_wp2_with fail
  refine (awake26_any _).mono ?_
  rintro e w2 ⟨rfl, hb2⟩
  have b2 := b1.trans (hb2.mono hs1)
  obtain ⟨f0, f1, f2, f3, f4, f5⟩ := HF6.out _ hb2
  have HFW := Lib.hid (few26_any (HFM.out _ b2) (Nat.le_refl _))
  go_wp2_with fail
  (with_reducible refine HFW.out.mono ?_)
  rintro e w3 ⟨⟨b, rfl, HB⟩, hb3⟩
  have b3 := b2.trans (hb3.mono b2.size)
  have hq3 := hb2.trans (hb3.mono hb2.size)
  clear f0 f1 f2 f3 f4 f5 HFW hb2 hb3 b1 b2
  cases b
  · go_wp2_with fail
    go_ret
    exact ⟨rfl, b3⟩
  obtain ⟨⟨_, _, hla, hlc, _, hli, hlo⟩, _⟩ := HB.out rfl
  obtain ⟨f0, f1, f2, f3, f4, f5⟩ := HF6.out _ hq3
  have hs3 := b3.size
  have hs3' := hq3.size
  clear HB
  by_cases hf : formOk f
  · have HO := Lib.hid (order_any f _ _ _ _ _ _ w3 (HFM.out _ b3) (by omega) hf)
    have HOK := Lib.hid hf
    clear hf
    go_wp2_with fail
    (with_reducible refine HO.out.mono ?_)
    rintro e w4 ⟨va', out, rfl, hord, hsl, hb4⟩
    obtain ⟨Aq, cq, hvq, _, _, _⟩ := id hsl
    subst hvq
    have b4 := b3.trans (hb4.mono hs3)
    have hq4 := hq3.trans (hb4.mono hs3')
    have HORD := Lib.hid hord
    have b5 : Below w4.heap.size w4 (w4.alloc (.cells #[(.slice Aw f.wires.length cw), (.slice Aq out.length cq), (.slice Acc f.cells.length cc), (.slice Akk f.keeps.length ck), (.slice Ai f.ins.length ci), (.slice Ao f.outs.length co)] 48)) := bE
    have rX := Row.new w4 #[(.slice Aw f.wires.length cw), (.slice Aq out.length cq), (.slice Acc f.cells.length cc), (.slice Akk f.keeps.length ck), (.slice Ai f.ins.length ci), (.slice Ao f.outs.length co)] 48
    have HSL := Lib.hid (fun W (hW : Below w4.heap.size w4 W) => (hsl.below hW).more hW.size)
    clear f0 f1 f2 f3 f4 f5 HO hord hsl hb4 b3 hq3 hs3 hs3'
    have hs4 := b4.size
    have hs4' := hq4.size
    obtain ⟨f0, f1, f2, f3, f4, f5⟩ := HF6.out _ (hq4.trans (b5.mono hs4'))
    go_upto_region 6 with (fail)
    generalize w4.alloc (.cells #[(.slice Aw f.wires.length cw), (.slice Aq out.length cq), (.slice Acc f.cells.length cc), (.slice Akk f.keeps.length ck), (.slice Ai f.ins.length ci), (.slice Ao f.outs.length co)] 48) = w5 at *
    have b6 := b4.trans (b5.mono hs4)
    have hq5 := hq4.trans (b5.mono hs4')
    have hs5 := b6.size
    have hs5' := hq5.size
    have hs45 := b5.size
    have HX6 : Hid (∀ W, Below w5.heap.size w5 W → W.cell? ⟨w.heap.size, 0, none⟩ = some (.slice Aw f.wires.length cw) ∧ W.cell? ⟨w.heap.size, 1, none⟩ = some va ∧ W.cell? ⟨w.heap.size, 2, none⟩ = some (.slice Acc f.cells.length cc) ∧ W.cell? ⟨w.heap.size, 3, none⟩ = some (.slice Akk f.keeps.length ck) ∧ W.cell? ⟨w.heap.size, 4, none⟩ = some (.slice Ai f.ins.length ci) ∧ W.cell? ⟨w.heap.size, 5, none⟩ = some (.slice Ao f.outs.length co) ∧
      W.cell? ⟨w4.heap.size, 0, none⟩ = some (.slice Aw f.wires.length cw) ∧ W.cell? ⟨w4.heap.size, 1, none⟩ = some (.slice Aq out.length cq) ∧ W.cell? ⟨w4.heap.size, 2, none⟩ = some (.slice Acc f.cells.length cc) ∧ W.cell? ⟨w4.heap.size, 3, none⟩ = some (.slice Akk f.keeps.length ck) ∧ W.cell? ⟨w4.heap.size, 4, none⟩ = some (.slice Ai f.ins.length ci) ∧ W.cell? ⟨w4.heap.size, 5, none⟩ = some (.slice Ao f.outs.length co)) := fun W hW => by
      obtain ⟨g0, g1, g2, g3, g4, g5⟩ := HF6.out _ (hq5.trans (hW.mono hs5'))
      obtain ⟨k0, k1, k2, k3, k4, k5⟩ := (rX.below hW rX.lt).six'
      exact ⟨g0, g1, g2, g3, g4, g5, k0, k1, k2, k3, k4, k5⟩
    have HFM5 := Lib.hid (fun W (hW : Below w5.heap.size w5 W) => HFM.out W (b6.trans (hW.mono hs5)))
    have HSL5 := Lib.hid (fun W (hW : Below w5.heap.size w5 W) => HSL.out W (b5.trans (hW.mono hs45)))
    have HBB := Lib.hid (fun W (hW : Below w5.heap.size w5 W) => b6.trans (hW.mono hs5))
    clear HFM HSL b4 b5 b6 hq4 hq5 hs4 hs4' hs5 hs5' hs45 HF6 rX f0 f1 f2 f3 f4 f5
    have HO1 := Lib.hid (fun W (hW : Below w5.heap.size w5 W) => ordered_any f _ _ _ _ _ _ W (HFM5.out W hW) (by omega))
    have HO2 := Lib.hid (fun W (hW : Below w5.heap.size w5 W) => rordered_any f _ _ _ _ _ _ W (HFM5.out W hW) (by omega) (by omega))
    have HRT := Lib.hid (fun W (hW : Below w5.heap.size w5 W) => rright_any f _ _ _ _ _ _ W (HFM5.out W hW) (by omega) (by omega))
    rw [cB_true HOK.out] at HRT
    have HAC : Hid (∀ W, Below w5.heap.size w5 W → Calls Try.prog 31 #[fmV (.slice Aw f.wires.length cw) va (.slice Acc f.cells.length cc) (.slice Akk f.keeps.length ck) (.slice Ai f.ins.length ci) (.slice Ao f.outs.length co)] W fun e w' => ∃ v, e = .returned v ∧ SlV w' w'.heap.size 6 isAc v out ∧ Below W.heap.size W w') := fun W hW =>
      (racts_any f _ _ _ _ _ _ W (HFM5.out W hW) HOK.out).mono (fun e w' ⟨v, out', he, h1, h2, h3⟩ => ⟨v, he, (rord_uniq HOK.out h1 HORD.out) ▸ h2, h3⟩)
    have HI1 : Hid (∀ W, Below w5.heap.size w5 W → Calls Try.prog 20 #[(.slice Ai f.ins.length ci), (.slice Ai f.ins.length ci)] W fun e w' => e = .returned (.bool true) ∧ ∃ n, w' = W.drewN n) := fun W hW => by
      have := fints_any f.ins f.ins (.slice Ai f.ins.length ci) (.slice Ai f.ins.length ci) _ W (HFM5.out W hW).ins (HFM5.out W hW).ins
      rwa [cB_true rfl] at this
    have HI2 : Hid (∀ W, Below w5.heap.size w5 W → Calls Try.prog 20 #[(.slice Ao f.outs.length co), (.slice Ao f.outs.length co)] W fun e w' => e = .returned (.bool true) ∧ ∃ n, w' = W.drewN n) := fun W hW => by
      have := fints_any f.outs f.outs (.slice Ao f.outs.length co) (.slice Ao f.outs.length co) _ W (HFM5.out W hW).outs (HFM5.out W hW).outs
      rwa [cB_true rfl] at this
    generalize cB (orderedOk f) = VO at *
    go_cut [19] (fun v19 W => v19 = .bool false ∧ Below w5.heap.size w5 W)
    case first =>
      refine wp_region_held_drew (S := fun W => W.cell? ⟨w.heap.size, 0, none⟩ = some (.slice Aw f.wires.length cw) ∧ W.cell? ⟨w.heap.size, 1, none⟩ = some va ∧ W.cell? ⟨w.heap.size, 2, none⟩ = some (.slice Acc f.cells.length cc) ∧ W.cell? ⟨w.heap.size, 3, none⟩ = some (.slice Akk f.keeps.length ck) ∧ W.cell? ⟨w.heap.size, 4, none⟩ = some (.slice Ai f.ins.length ci) ∧ W.cell? ⟨w.heap.size, 5, none⟩ = some (.slice Ao f.outs.length co) ∧ W.cell? ⟨w4.heap.size, 0, none⟩ = some (.slice Aw f.wires.length cw) ∧ W.cell? ⟨w4.heap.size, 1, none⟩ = some (.slice Aq out.length cq) ∧ W.cell? ⟨w4.heap.size, 2, none⟩ = some (.slice Acc f.cells.length cc) ∧ W.cell? ⟨w4.heap.size, 3, none⟩ = some (.slice Akk f.keeps.length ck) ∧ W.cell? ⟨w4.heap.size, 4, none⟩ = some (.slice Ai f.ins.length ci) ∧ W.cell? ⟨w4.heap.size, 5, none⟩ = some (.slice Ao f.outs.length co)) (by kernel_rfl) ?_ (fun hHeld => ?_)
      · (try dsimp only); (first | (with_reducible exact HX6.out _ bE) | go_keep)
      refine tk 0 (some 15) rfl ?_
      refine tk 2 (some 17) rfl ?_
      refine rd1 1 (some 16) rfl (fun KK hKK => ?_)
      go_simp
      first | (go_at_call 27; refine Calls.mono (HO1.out _ ?hbb) ?_; (case hbb => exact bE); rintro e w8 ⟨rfl, hb8⟩; (have hb9 : Below w5.heap.size w5 w8 := Below.trans bE (hb8.mono lE)); (have hs9 := hb9.size)) | (go_at_call 28; refine Calls.mono (HO2.out _ ?hbb) ?_; (case hbb => exact bE); rintro e w8 ⟨rfl, hb8⟩; (have hb9 : Below w5.heap.size w5 w8 := Below.trans bE (hb8.mono lE)); (have hs9 := hb9.size))
      (try go_wp2_with fail)
      refine hKK.out _ _ ?_ (fun hHeld => ?_)
      · (try dsimp only); (first | (with_reducible exact HX6.out _ bE) | go_keep)
      clear hKK KK
      try simp only [Act.put, List.setIfInBounds_toArray, List.set_cons_zero, List.set_cons_succ]
      refine rd1 3 (some 18) rfl (fun KK hKK => ?_)
      go_simp
      first | (go_at_call 27; refine Calls.mono (HO1.out _ ?hbb) ?_; (case hbb => exact bE); rintro e w8 ⟨rfl, hb8⟩; (have hb9 : Below w5.heap.size w5 w8 := Below.trans bE (hb8.mono lE)); (have hs9 := hb9.size)) | (go_at_call 28; refine Calls.mono (HO2.out _ ?hbb) ?_; (case hbb => exact bE); rintro e w8 ⟨rfl, hb8⟩; (have hb9 : Below w5.heap.size w5 w8 := Below.trans bE (hb8.mono lE)); (have hs9 := hb9.size))
      (try go_wp2_with fail)
      refine hKK.out _ _ ?_ (fun hHeld => ?_)
      · (try dsimp only); (first | (with_reducible exact HX6.out _ bE) | go_keep)
      clear hKK KK
      try simp only [Act.put, List.setIfInBounds_toArray, List.set_cons_zero, List.set_cons_succ]
      refine tk 4 (some 19) rfl ?_
      refine wpAnyH_done (by kernel_rfl) ?_ _
      go_wp2_with fail
      go_meet
      exact ⟨by simp, bE⟩
    case rest =>
    obtain ⟨rfl, hbc⟩ := hcut
    obtain ⟨f0, f1, f2, f3, f4, f5, x0, x1, x2, x3, x4, x5⟩ := HX6.out _ hbc
    have hsc := hbc.size
    go_wp2_with fail
    (with_reducible refine (HRT.out _ hbc).mono ?_)
    rintro e w6 ⟨rfl, hb6⟩
    have hbd := hbc.trans (hb6.mono hsc)
    have hsd := hbd.size
    clear f0 f1 f2 f3 f4 f5 x0 x1 x2 x3 x4 x5 hb6 hsc hbc HRT HO1 HO2
    go_upto_region 10 with (fail)
    refine wp_region_held_drew (S := fun W => W.cell? ⟨w.heap.size, 0, none⟩ = some (.slice Aw f.wires.length cw) ∧ W.cell? ⟨w.heap.size, 1, none⟩ = some va ∧ W.cell? ⟨w.heap.size, 2, none⟩ = some (.slice Acc f.cells.length cc) ∧ W.cell? ⟨w.heap.size, 3, none⟩ = some (.slice Akk f.keeps.length ck) ∧ W.cell? ⟨w.heap.size, 4, none⟩ = some (.slice Ai f.ins.length ci) ∧ W.cell? ⟨w.heap.size, 5, none⟩ = some (.slice Ao f.outs.length co) ∧ W.cell? ⟨w4.heap.size, 0, none⟩ = some (.slice Aw f.wires.length cw) ∧ W.cell? ⟨w4.heap.size, 1, none⟩ = some (.slice Aq out.length cq) ∧ W.cell? ⟨w4.heap.size, 2, none⟩ = some (.slice Acc f.cells.length cc) ∧ W.cell? ⟨w4.heap.size, 3, none⟩ = some (.slice Akk f.keeps.length ck) ∧ W.cell? ⟨w4.heap.size, 4, none⟩ = some (.slice Ai f.ins.length ci) ∧ W.cell? ⟨w4.heap.size, 5, none⟩ = some (.slice Ao f.outs.length co)) (by kernel_rfl) ?_ (fun hHeld => ?_)
    · (try dsimp only); (first | (with_reducible exact HX6.out _ bE) | go_keep)
    refine tk 0 (some 35) rfl ?_
    refine tk 1 (some 36) rfl ?_
    refine tk 2 (some 37) rfl ?_
    refine tk 3 (some 38) rfl ?_
    refine tk 4 (some 39) rfl ?_
    refine tk 5 (some 40) rfl ?_
    refine rd1 6 (some 41) rfl (fun KK hKK => ?_)
    go_simp
    first | (go_at_call 31; refine Calls.mono (HAC.out _ ?hbb) ?_; (case hbb => exact bE); rintro e w8 ⟨vA, rfl, hsA, hb8⟩; (have hb9 : Below w5.heap.size w5 w8 := Below.trans bE (hb8.mono lE)); (have hs9 := hb9.size); (have HSA := Lib.hid (fun W (hW : Below w8.heap.size w8 W) => (hsA.below hW).more hW.size))) | (go_at_call 30; refine Calls.mono (rsame_any out out (.slice Aq out.length cq) vA _ _ (HSL5.out _ ?hbb) (HSA.out _ ?hb2)) ?_; (case hbb => exact bE); (case hb2 => exact bE); rintro e w8 ⟨rfl, n8, rfl⟩; (rw [show cB (out = out) = true from cB_true rfl])) | (go_at_call 20; first | (with_reducible refine Calls.mono (HI1.out _ ?hbb) ?_; (case hbb => exact bE); rintro e w8 ⟨rfl, n8, rfl⟩) | (with_reducible refine Calls.mono (HI2.out _ ?hbb) ?_; (case hbb => exact bE); rintro e w8 ⟨rfl, n8, rfl⟩))
    (try go_wp2_with fail)
    refine hKK.out _ _ ?_ (fun hHeld => ?_)
    · (try dsimp only); (first | (with_reducible exact HX6.out _ bE) | go_keep)
    clear hKK KK
    try simp only [Act.put, List.setIfInBounds_toArray, List.set_cons_zero, List.set_cons_succ]
    refine rd1 7 (some 42) rfl (fun KK hKK => ?_)
    go_simp
    first | (go_at_call 31; refine Calls.mono (HAC.out _ ?hbb) ?_; (case hbb => exact bE); rintro e w8 ⟨vA, rfl, hsA, hb8⟩; (have hb9 : Below w5.heap.size w5 w8 := Below.trans bE (hb8.mono lE)); (have hs9 := hb9.size); (have HSA := Lib.hid (fun W (hW : Below w8.heap.size w8 W) => (hsA.below hW).more hW.size))) | (go_at_call 30; refine Calls.mono (rsame_any out out (.slice Aq out.length cq) vA _ _ (HSL5.out _ ?hbb) (HSA.out _ ?hb2)) ?_; (case hbb => exact bE); (case hb2 => exact bE); rintro e w8 ⟨rfl, n8, rfl⟩; (rw [show cB (out = out) = true from cB_true rfl])) | (go_at_call 20; first | (with_reducible refine Calls.mono (HI1.out _ ?hbb) ?_; (case hbb => exact bE); rintro e w8 ⟨rfl, n8, rfl⟩) | (with_reducible refine Calls.mono (HI2.out _ ?hbb) ?_; (case hbb => exact bE); rintro e w8 ⟨rfl, n8, rfl⟩))
    (try go_wp2_with fail)
    refine hKK.out _ _ ?_ (fun hHeld => ?_)
    · (try dsimp only); (first | (with_reducible exact HX6.out _ bE) | go_keep)
    clear hKK KK
    try simp only [Act.put, List.setIfInBounds_toArray, List.set_cons_zero, List.set_cons_succ]
    refine tk 8 (some 43) rfl ?_
    refine tk 9 (some 44) rfl ?_
    refine tk 10 (some 45) rfl ?_
    refine tk 11 (some 46) rfl ?_
    refine tk 12 (some 47) rfl ?_
    refine tk 13 (some 48) rfl ?_
    refine tk 14 (some 49) rfl ?_
    refine tk 15 (some 50) rfl ?_
    refine tk 16 (some 51) rfl ?_
    refine tk 17 (some 52) rfl ?_
    refine tk 18 (some 53) rfl ?_
    refine tk 19 (some 54) rfl ?_
    refine tk 20 (some 55) rfl ?_
    refine tk 21 (some 56) rfl ?_
    refine tk 22 (some 57) rfl ?_
    refine tk 23 (some 58) rfl ?_
    refine tk 24 (some 59) rfl ?_
    refine tk 25 (some 60) rfl ?_
    refine tk 26 (some 61) rfl ?_
    refine tk 27 (some 62) rfl ?_
    refine tk 28 (some 63) rfl ?_
    refine tk 29 (some 64) rfl ?_
    refine tk 30 (some 65) rfl ?_
    refine tk 31 (some 66) rfl ?_
    refine rd1 32 (some 67) rfl (fun KK hKK => ?_)
    go_simp
    first | (go_at_call 31; refine Calls.mono (HAC.out _ ?hbb) ?_; (case hbb => exact bE); rintro e w8 ⟨vA, rfl, hsA, hb8⟩; (have hb9 : Below w5.heap.size w5 w8 := Below.trans bE (hb8.mono lE)); (have hs9 := hb9.size); (have HSA := Lib.hid (fun W (hW : Below w8.heap.size w8 W) => (hsA.below hW).more hW.size))) | (go_at_call 30; refine Calls.mono (rsame_any out out (.slice Aq out.length cq) vA _ _ (HSL5.out _ ?hbb) (HSA.out _ ?hb2)) ?_; (case hbb => exact bE); (case hb2 => exact bE); rintro e w8 ⟨rfl, n8, rfl⟩; (rw [show cB (out = out) = true from cB_true rfl])) | (go_at_call 20; first | (with_reducible refine Calls.mono (HI1.out _ ?hbb) ?_; (case hbb => exact bE); rintro e w8 ⟨rfl, n8, rfl⟩) | (with_reducible refine Calls.mono (HI2.out _ ?hbb) ?_; (case hbb => exact bE); rintro e w8 ⟨rfl, n8, rfl⟩))
    (try go_wp2_with fail)
    refine hKK.out _ _ ?_ (fun hHeld => ?_)
    · (try dsimp only); (first | (with_reducible exact HX6.out _ bE) | go_keep)
    clear hKK KK
    try simp only [Act.put, List.setIfInBounds_toArray, List.set_cons_zero, List.set_cons_succ]
    refine tk 33 (some 68) rfl ?_
    refine tk 34 (some 69) rfl ?_
    refine tk 35 (some 70) rfl ?_
    refine tk 36 (some 71) rfl ?_
    refine tk 37 (some 72) rfl ?_
    refine tk 38 (some 73) rfl ?_
    refine rd1 39 (some 74) rfl (fun KK hKK => ?_)
    go_simp
    first | (go_at_call 31; refine Calls.mono (HAC.out _ ?hbb) ?_; (case hbb => exact bE); rintro e w8 ⟨vA, rfl, hsA, hb8⟩; (have hb9 : Below w5.heap.size w5 w8 := Below.trans bE (hb8.mono lE)); (have hs9 := hb9.size); (have HSA := Lib.hid (fun W (hW : Below w8.heap.size w8 W) => (hsA.below hW).more hW.size))) | (go_at_call 30; refine Calls.mono (rsame_any out out (.slice Aq out.length cq) vA _ _ (HSL5.out _ ?hbb) (HSA.out _ ?hb2)) ?_; (case hbb => exact bE); (case hb2 => exact bE); rintro e w8 ⟨rfl, n8, rfl⟩; (rw [show cB (out = out) = true from cB_true rfl])) | (go_at_call 20; first | (with_reducible refine Calls.mono (HI1.out _ ?hbb) ?_; (case hbb => exact bE); rintro e w8 ⟨rfl, n8, rfl⟩) | (with_reducible refine Calls.mono (HI2.out _ ?hbb) ?_; (case hbb => exact bE); rintro e w8 ⟨rfl, n8, rfl⟩))
    (try go_wp2_with fail)
    refine hKK.out _ _ ?_ (fun hHeld => ?_)
    · (try dsimp only); (first | (with_reducible exact HX6.out _ bE) | go_keep)
    clear hKK KK
    try simp only [Act.put, List.setIfInBounds_toArray, List.set_cons_zero, List.set_cons_succ]
    refine tk 40 (some 75) rfl ?_
    refine tk 41 (some 2) rfl ?_
    refine wpAnyH_done (by kernel_rfl) ?_ _
    go_wp2_with fail
    go_ret
    exact ⟨by simp, HBB.out _ bE⟩
  · have HO := Lib.hid (order_no f _ _ _ _ _ _ w3 (HFM.out _ b3) (by omega) hf)
    unfold fm0 at HO
    have HOK := Lib.hid hf
    clear hf
    go_wp2_with fail
    (with_reducible refine HO.out.mono ?_)
    rintro e w4 ⟨rfl, hb4⟩
    have b4 := b3.trans (hb4.mono hs3)
    have hq4 := hq3.trans (hb4.mono hs3')
    have b5 : Below w4.heap.size w4 (w4.alloc (.cells zf6 48)) := bE
    have rX := Row.new w4 zf6 48
    clear f0 f1 f2 f3 f4 f5 HO hb4 b3 hq3 hs3 hs3'
    have hs4 := b4.size
    have hs4' := hq4.size
    obtain ⟨f0, f1, f2, f3, f4, f5⟩ := HF6.out _ (hq4.trans (b5.mono hs4'))
    go_upto_region 6 with (fail)
    change Code.wp _ _ _ _ (w4.alloc (.cells zf6 48))
    generalize w4.alloc (.cells zf6 48) = w5 at *
    have b6 := b4.trans (b5.mono hs4)
    have hq5 := hq4.trans (b5.mono hs4')
    have hs5 := b6.size
    have hs5' := hq5.size
    have HX6 : Hid (∀ W, Below w5.heap.size w5 W → W.cell? ⟨w.heap.size, 0, none⟩ = some (.slice Aw f.wires.length cw) ∧ W.cell? ⟨w.heap.size, 1, none⟩ = some va ∧ W.cell? ⟨w.heap.size, 2, none⟩ = some (.slice Acc f.cells.length cc) ∧ W.cell? ⟨w.heap.size, 3, none⟩ = some (.slice Akk f.keeps.length ck) ∧ W.cell? ⟨w.heap.size, 4, none⟩ = some (.slice Ai f.ins.length ci) ∧ W.cell? ⟨w.heap.size, 5, none⟩ = some (.slice Ao f.outs.length co) ∧ W.cell? ⟨w4.heap.size, 0, none⟩ = some (.slice none 0 0) ∧ W.cell? ⟨w4.heap.size, 1, none⟩ = some (.slice none 0 0) ∧ W.cell? ⟨w4.heap.size, 2, none⟩ = some (.slice none 0 0) ∧ W.cell? ⟨w4.heap.size, 3, none⟩ = some (.slice none 0 0) ∧ W.cell? ⟨w4.heap.size, 4, none⟩ = some (.slice none 0 0) ∧ W.cell? ⟨w4.heap.size, 5, none⟩ = some (.slice none 0 0)) := fun W hW => by
      obtain ⟨g0, g1, g2, g3, g4, g5⟩ := HF6.out _ (hq5.trans (hW.mono hs5'))
      obtain ⟨k0, k1, k2, k3, k4, k5⟩ := Row.six' (x0 := .slice none 0 0) (x1 := .slice none 0 0) (x2 := .slice none 0 0) (x3 := .slice none 0 0) (x4 := .slice none 0 0) (x5 := .slice none 0 0) (rX.below hW rX.lt)
      exact ⟨g0, g1, g2, g3, g4, g5, k0, k1, k2, k3, k4, k5⟩
    have HFM5 := Lib.hid (fun W (hW : Below w5.heap.size w5 W) => HFM.out W (b6.trans (hW.mono hs5)))
    have HBB := Lib.hid (fun W (hW : Below w5.heap.size w5 W) => b6.trans (hW.mono hs5))
    clear HFM b4 b5 b6 hq4 hq5 hs4 hs4' hs5 hs5' HF6 rX f0 f1 f2 f3 f4 f5
    have HO1 := Lib.hid (fun W (hW : Below w5.heap.size w5 W) => ordered_any f _ _ _ _ _ _ W (HFM5.out W hW) (by omega))
    have HO2 := Lib.hid (fun W (hW : Below w5.heap.size w5 W) => rordered_any f _ _ _ _ _ _ W (HFM5.out W hW) (by omega) (by omega))
    have HRT := Lib.hid (fun W (hW : Below w5.heap.size w5 W) => rright_any f _ _ _ _ _ _ W (HFM5.out W hW) (by omega) (by omega))
    rw [cB_false HOK.out] at HRT
    generalize cB (orderedOk f) = VO at *
    go_cut [19] (fun v19 W => v19 = .bool false ∧ Below w5.heap.size w5 W)
    case first =>
      refine wp_region_held_drew (S := fun W => W.cell? ⟨w.heap.size, 0, none⟩ = some (.slice Aw f.wires.length cw) ∧ W.cell? ⟨w.heap.size, 1, none⟩ = some va ∧ W.cell? ⟨w.heap.size, 2, none⟩ = some (.slice Acc f.cells.length cc) ∧ W.cell? ⟨w.heap.size, 3, none⟩ = some (.slice Akk f.keeps.length ck) ∧ W.cell? ⟨w.heap.size, 4, none⟩ = some (.slice Ai f.ins.length ci) ∧ W.cell? ⟨w.heap.size, 5, none⟩ = some (.slice Ao f.outs.length co) ∧ W.cell? ⟨w4.heap.size, 0, none⟩ = some (.slice none 0 0) ∧ W.cell? ⟨w4.heap.size, 1, none⟩ = some (.slice none 0 0) ∧ W.cell? ⟨w4.heap.size, 2, none⟩ = some (.slice none 0 0) ∧ W.cell? ⟨w4.heap.size, 3, none⟩ = some (.slice none 0 0) ∧ W.cell? ⟨w4.heap.size, 4, none⟩ = some (.slice none 0 0) ∧ W.cell? ⟨w4.heap.size, 5, none⟩ = some (.slice none 0 0)) (by kernel_rfl) ?_ (fun hHeld => ?_)
      · (try dsimp only); (first | (with_reducible exact HX6.out _ bE) | go_keep)
      refine tk 0 (some 15) rfl ?_
      refine tk 2 (some 17) rfl ?_
      refine rd1 1 (some 16) rfl (fun KK hKK => ?_)
      go_simp
      first | (go_at_call 27; refine Calls.mono (HO1.out _ ?hbb) ?_; (case hbb => exact bE); rintro e w8 ⟨rfl, hb8⟩; (have hb9 : Below w5.heap.size w5 w8 := Below.trans bE (hb8.mono lE)); (have hs9 := hb9.size)) | (go_at_call 28; refine Calls.mono (HO2.out _ ?hbb) ?_; (case hbb => exact bE); rintro e w8 ⟨rfl, hb8⟩; (have hb9 : Below w5.heap.size w5 w8 := Below.trans bE (hb8.mono lE)); (have hs9 := hb9.size))
      (try go_wp2_with fail)
      refine hKK.out _ _ ?_ (fun hHeld => ?_)
      · (try dsimp only); (first | (with_reducible exact HX6.out _ bE) | go_keep)
      clear hKK KK
      try simp only [Act.put, List.setIfInBounds_toArray, List.set_cons_zero, List.set_cons_succ]
      refine rd1 3 (some 18) rfl (fun KK hKK => ?_)
      go_simp
      first | (go_at_call 27; refine Calls.mono (HO1.out _ ?hbb) ?_; (case hbb => exact bE); rintro e w8 ⟨rfl, hb8⟩; (have hb9 : Below w5.heap.size w5 w8 := Below.trans bE (hb8.mono lE)); (have hs9 := hb9.size)) | (go_at_call 28; refine Calls.mono (HO2.out _ ?hbb) ?_; (case hbb => exact bE); rintro e w8 ⟨rfl, hb8⟩; (have hb9 : Below w5.heap.size w5 w8 := Below.trans bE (hb8.mono lE)); (have hs9 := hb9.size))
      (try go_wp2_with fail)
      refine hKK.out _ _ ?_ (fun hHeld => ?_)
      · (try dsimp only); (first | (with_reducible exact HX6.out _ bE) | go_keep)
      clear hKK KK
      try simp only [Act.put, List.setIfInBounds_toArray, List.set_cons_zero, List.set_cons_succ]
      refine tk 4 (some 19) rfl ?_
      refine wpAnyH_done (by kernel_rfl) ?_ _
      go_wp2_with fail
      go_meet
      exact ⟨by simp, bE⟩
    case rest =>
    obtain ⟨rfl, hbc⟩ := hcut
    obtain ⟨f0, f1, f2, f3, f4, f5, x0, x1, x2, x3, x4, x5⟩ := HX6.out _ hbc
    have hsc := hbc.size
    go_wp2_with fail
    (with_reducible refine (HRT.out _ hbc).mono ?_)
    rintro e w6 ⟨rfl, hb6⟩
    have hbd := hbc.trans (hb6.mono hsc)
    clear f0 f1 f2 f3 f4 f5 x0 x1 x2 x3 x4 x5 hb6 hsc hbc HRT HO1 HO2
    obtain ⟨f0, f1, f2, f3, f4, f5, x0, x1, x2, x3, x4, x5⟩ := HX6.out _ hbd
    go_wp2_with fail
    go_ret
    exact ⟨by simp, HBB.out _ bE⟩
theorem walk (f : Fm) (v : Value) (w : World) (h : FmIs w f v) : Calls Try.prog 7 #[v] w fun e w' => e = .returned (.bool true) ∧ Below w.heap.size w w' := by
  obtain ⟨vw, va, vc, vk, vi, vo, rfl, ha⟩ := h
  exact walk0 f vw va vc vk vi vo w ha
end Go.Proofs.Ytbjaejgechadpaa.orderActs
